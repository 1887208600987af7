/- Contracts: a link, and a list of links, is valid; in the program and in the reference. -/
import Derived.Test.YtiimohofnnphoaaDoorCLink
namespace Go.Proofs.YtiimohofnnphoaaDoor
open Go.RowKit
set_option linter.unusedVariables false
def lkB (stars : Int) (l : Lk) : Bool := decide (0 ≤ l.a) && (decide (l.a < l.b) && (decide (l.b < stars) && inB l.d (-5000) 5000))
def vlB (stars : Int) (xs : List Lk) : Bool := inB stars 1 10 && (decide (xs.length ≤ 12) && xs.all (lkB stars))
theorem isLink_any (stars a b d : Int) (w : World) :
    Calls Tryd.prog 18 #[.int .i64 stars, .agg #[.int .i64 a, .int .i64 b, .int .i64 d]] w fun e w' => e = .returned (.bool (lkB stars ⟨a, b, d⟩)) ∧ Below w.heap.size w w' := by
  go_enter Tryd.func18, Tryd.ntmps18
  go_wp2_with (go_at_call 32; refine (in_any _ _ _ _).mono ?_; rintro e w' ⟨rfl, rfl⟩)
  all_goals (go_ret; exact ⟨ret_bool (by simp [lkB, *] <;> (intros; omega)), (by repeat (first | assumption | exact Below.refl _ _ | apply Below.al | apply Below.drewN' | apply Below.drew | (apply Below.tr; assumption)))⟩)
theorem l20One_any (stars a b d : Int) (w : World) :
    Calls Tryd.prog 16 #[.agg #[.int .i64 a, .int .i64 b, .int .i64 d], .int .i64 stars] w fun e w' => e = .returned (.bool (lkB stars ⟨a, b, d⟩)) ∧ Below w.heap.size w w' := by
  go_enter Tryd.func16, Tryd.ntmps16
  go_wp2_with (go_at_call 31; refine (l00In_any _ _ _ _).mono ?_; rintro e w' ⟨rfl, rfl⟩)
  all_goals (go_ret; exact ⟨ret_bool (by simp [lkB, *] <;> (intros; omega)), (by repeat (first | assumption | exact Below.refl _ _ | apply Below.al | apply Below.drewN' | apply Below.drew | (apply Below.tr; assumption)))⟩)
