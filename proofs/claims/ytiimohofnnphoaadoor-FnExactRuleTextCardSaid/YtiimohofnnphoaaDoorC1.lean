/- Contracts of the small functions: numbers, times, magnitudes, structs by value. -/
import Derived.Test.YtiimohofnnphoaaDoorBase
import Derived.Test.YtiimohofnnphoaaDoorProg
namespace Go.Proofs.YtiimohofnnphoaaDoor
open Go.RowKit
set_option linter.unusedVariables false
theorem in_any (n lo hi : Int) (w : World) :
    Calls Tryd.prog 32 #[.int .i64 n, .int .i64 lo, .int .i64 hi] w fun e w' => e = .returned (.bool (inB n lo hi)) ∧ w = w' := by
  go_enter Tryd.func32, Tryd.ntmps32
  go_wp2
  all_goals (go_ret; refine ⟨?_, rfl⟩; simp [inB]; try omega)
theorem in_eq {n lo hi : Int} {v : Bool} (h : inB n lo hi = v) (w : World) :
    Calls Tryd.prog 32 #[.int .i64 n, .int .i64 lo, .int .i64 hi] w fun e w' => e = .returned (.bool v) ∧ w = w' := by
  subst h; exact in_any n lo hi w
theorem l00In_any (n lo hi : Int) (w : World) :
    Calls Tryd.prog 31 #[.int .i64 n, .int .i64 lo, .int .i64 hi] w fun e w' => e = .returned (.bool (inB n lo hi)) ∧ w = w' := by
  go_enter Tryd.func31, Tryd.ntmps31
  go_wp2
  all_goals (go_ret; refine ⟨?_, rfl⟩; simp [inB]; try omega)
theorem validMag_any (m : Int) (w : World) :
    Calls Tryd.prog 39 #[.int .i64 m] w fun e w' => e = .returned (.bool (inB m (-2000) 20000)) ∧ w = w' := by
  go_enter Tryd.func39, Tryd.ntmps39
  go_wp2_with (go_at_call 32; refine (in_any _ _ _ _).mono ?_; rintro e w' ⟨rfl, rfl⟩)
  go_ret
  exact ⟨rfl, rfl⟩
theorem l02Mag_any (m : Int) (w : World) :
    Calls Tryd.prog 35 #[.int .i64 m] w fun e w' => e = .returned (.bool (inB m (-2000) 20000)) ∧ w = w' := by
  go_enter Tryd.func35, Tryd.ntmps35
  go_wp2_with (go_at_call 31; refine (l00In_any _ _ _ _).mono ?_; rintro e w' ⟨rfl, rfl⟩)
  go_ret
  exact ⟨rfl, rfl⟩
theorem validTime_any (m : Int) (w : World) :
    Calls Tryd.prog 38 #[.int .i64 m] w fun e w' => e = .returned (.bool (inB m 0 10000000)) ∧ w = w' := by
  go_enter Tryd.func38, Tryd.ntmps38
  go_wp2_with (go_at_call 32; refine (in_any _ _ _ _).mono ?_; rintro e w' ⟨rfl, rfl⟩)
  go_ret
  exact ⟨rfl, rfl⟩
theorem abs_any (n : Int) (w : World) (h1 : -9000000000000000000 ≤ n) (h2 : n ≤ 9000000000000000000) :
    Calls Tryd.prog 41 #[.int .i64 n] w fun e w' => e = .returned (.int .i64 (absI n)) ∧ w = w' := by
  go_enter Tryd.func41, Tryd.ntmps41
  go_wp2
  all_goals (go_ret; exact ⟨ret_int (by unfold absI; omega), rfl⟩)
