/- Contract: what is too long to be drawn from. -/
import Derived.Test.YticamdaicbgdlaaC1
namespace Go.Proofs.Yticamdaicbgdlaa
open Go.RowKit
theorem a2Long_any (A : Option Addr) (n c : Nat) (A' : Option Addr) (n' c' : Nat) (w : World) (h : n ≤ maxLen) (h' : n' ≤ maxLen) :
    Calls Try.prog 5 #[.slice A n c, .slice A' n' c'] w fun e w' => e = .returned (.bool (decide (3000 < n) || decide (3000 < n'))) ∧ w = w' := by
  unfold maxLen at h h'
  by_cases h1 : 3000 < n <;> by_cases h2 : 3000 < n'
  all_goals
    go_enter Try.func5, Try.ntmps5
    go_wp2
    go_ret
    exact ⟨ret_bool (by simp [h1, h2] <;> omega), rfl⟩
end Go.Proofs.Yticamdaicbgdlaa
