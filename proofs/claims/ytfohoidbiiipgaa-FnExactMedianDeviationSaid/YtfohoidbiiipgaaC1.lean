/- Contracts of the small functions: numbers, times, magnitudes, structs by value. -/
import Derived.Test.YtfohoidbiiipgaaBase
import Derived.Test.YtfohoidbiiipgaaProg
namespace Go.Proofs.Ytfohoidbiiipgaa
open Go.RowKit
set_option linter.unusedVariables false
theorem in_any (n lo hi : Int) (w : World) :
    Calls Try.prog 43 #[.int .i64 n, .int .i64 lo, .int .i64 hi] w fun e w' => e = .returned (.bool (inB n lo hi)) ∧ w = w' := by
  go_enter Try.func43, Try.ntmps43
  go_wp2
  all_goals (go_ret; refine ⟨?_, rfl⟩; simp [inB]; try omega)
theorem in_eq {n lo hi : Int} {v : Bool} (h : inB n lo hi = v) (w : World) :
    Calls Try.prog 43 #[.int .i64 n, .int .i64 lo, .int .i64 hi] w fun e w' => e = .returned (.bool v) ∧ w = w' := by
  subst h; exact in_any n lo hi w
theorem l00In_any (n lo hi : Int) (w : World) :
    Calls Try.prog 42 #[.int .i64 n, .int .i64 lo, .int .i64 hi] w fun e w' => e = .returned (.bool (inB n lo hi)) ∧ w = w' := by
  go_enter Try.func42, Try.ntmps42
  go_wp2
  all_goals (go_ret; refine ⟨?_, rfl⟩; simp [inB]; try omega)
theorem l02Mag_any (m : Int) (w : World) :
    Calls Try.prog 46 #[.int .i64 m] w fun e w' => e = .returned (.bool (inB m (-2000) 20000)) ∧ w = w' := by
  go_enter Try.func46, Try.ntmps46
  go_wp2_with (go_at_call 42; refine (l00In_any _ _ _ _).mono ?_; rintro e w' ⟨rfl, rfl⟩)
  go_ret
  exact ⟨rfl, rfl⟩
theorem abs_any (n : Int) (w : World) (h1 : -9000000000000000000 ≤ n) (h2 : n ≤ 9000000000000000000) :
    Calls Try.prog 38 #[.int .i64 n] w fun e w' => e = .returned (.int .i64 (absI n)) ∧ w = w' := by
  go_enter Try.func38, Try.ntmps38
  go_wp2
  all_goals (go_ret; exact ⟨ret_int (by unfold absI; omega), rfl⟩)
theorem l02Size_any (n : Int) (w : World) (h1 : -9000000000000000000 ≤ n) (h2 : n ≤ 9000000000000000000) :
    Calls Try.prog 24 #[.int .i64 n] w fun e w' => e = .returned (.int .i64 (absI n)) ∧ w = w' := by
  go_enter Try.func24, Try.ntmps24
  go_wp2
  all_goals (go_ret; exact ⟨ret_int (by unfold absI; omega), rfl⟩)
theorem floorDiv_any (a b : Int) (w : World) (h1 : -4000000000000000000 ≤ a) (h2 : a ≤ 4000000000000000000) (hb : 0 < b) :
    Calls Try.prog 52 #[.int .i64 a, .int .i64 b] w fun e w' => e = .returned (.int .i64 (a / b)) ∧ w = w' := by
  have q := tdiv_bd a b h1 h2 hb
  have hb0 : (b == 0) = false := by simp; omega
  have hb1 : (b == -1) = false := by simp; omega
  by_cases hm : a.tmod b < 0
  all_goals
    go_enter Try.func52, Try.ntmps52
    go_wp2
    go_ret
    exact ⟨ret_int (by first | exact floor_neg hb hm | exact floor_pos hb (by omega)), rfl⟩
theorem l02Floor_any (a b : Int) (w : World) (h1 : -4000000000000000000 ≤ a) (h2 : a ≤ 4000000000000000000) (hb : 0 < b) :
    Calls Try.prog 48 #[.int .i64 a, .int .i64 b] w fun e w' => e = .returned (.int .i64 (a / b)) ∧ w = w' := by
  have q := tdiv_bd a b h1 h2 hb
  have hb0 : (b == 0) = false := by simp; omega
  have hb1 : (b == -1) = false := by simp; omega
  by_cases hm : a.tmod b < 0
  all_goals
    go_enter Try.func48, Try.ntmps48
    go_wp2
    go_ret
    exact ⟨ret_int (by first | exact floor_neg hb hm | exact floor_pos hb (by omega)), rfl⟩
theorem nearest_any (a b : Int) (w : World) (h1 : -2000000000000000000 ≤ a) (h2 : a ≤ 2000000000000000000) (hb : 0 < b) (hb2 : b ≤ 2000000000000000000) :
    Calls Try.prog 41 #[.int .i64 a, .int .i64 b] w fun e w' => e = .returned (.int .i64 (nearI a b)) ∧ w = w' := by
  have q := ediv_bd a b _ h1 h2 hb
  have q2 := divmul_bd a b _ h1 h2 hb hb2
  have q3 := emod_bd a b hb
  have e := sub_div_mul a b
  by_cases hr : b - a % b ≤ a % b
  · have HE : Hid (nearI a b = a / b + 1) := by unfold Hid nearI; rw [if_pos hr]
    have hr' : b - (a - a / b * b) ≤ a - a / b * b := by rw [e]; exact hr
    clear e
    go_enter Try.func41, Try.ntmps41
    go_wp2_with (go_at_call 52; refine (floorDiv_any a b _ (by omega) (by omega) hb).mono ?_; rintro e w' ⟨rfl, rfl⟩)
    go_ret
    exact ⟨ret_int HE.out.symm, rfl⟩
  · have HE : Hid (nearI a b = a / b) := by unfold Hid nearI; rw [if_neg hr]
    have hr' : a - a / b * b < b - (a - a / b * b) := by rw [e]; omega
    clear e
    go_enter Try.func41, Try.ntmps41
    go_wp2_with (go_at_call 52; refine (floorDiv_any a b _ (by omega) (by omega) hb).mono ?_; rintro e w' ⟨rfl, rfl⟩)
    go_ret
    exact ⟨ret_int HE.out.symm, rfl⟩
theorem l02Round_any (a b : Int) (w : World) (h1 : -1000000000000000000 ≤ a) (h2 : a ≤ 1000000000000000000) (hb : 0 < b) (hb2 : b ≤ 1000000000000000000) :
    Calls Try.prog 37 #[.int .i64 a, .int .i64 b] w fun e w' => e = .returned (.int .i64 (nearI a b)) ∧ w = w' := by
  have HE := hid (nearI_round a b hb)
  go_enter Try.func37, Try.ntmps37
  go_wp2_with (go_at_call 48; refine (l02Floor_any _ _ _ (by omega) (by omega) (by omega)).mono ?_; rintro e w' ⟨rfl, rfl⟩)
  go_ret
  exact ⟨ret_int HE.out.symm, rfl⟩
