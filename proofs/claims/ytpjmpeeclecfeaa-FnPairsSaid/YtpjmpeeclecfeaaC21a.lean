/- Contracts: SignChanges, ChiSquare, DeviationsFrom, in the program and in the reference. -/
import Derived.Test.YtpjmpeeclecfeaaCInt
namespace Go.Proofs.Ytpjmpeeclecfeaa
open Go.RowKit
set_option linter.unusedVariables false
theorem magsB_true {xs : List Int} (h : magsB xs = true) : xs.length ≤ 100 ∧ ∀ (k : Nat) (p : Int), xs[k]? = some p → -2000 ≤ p ∧ p ≤ 20000 := by
  simp only [magsB, Bool.and_eq_true, decide_eq_true_eq, List.all_eq_true] at h
  exact ⟨h.1, fun k p hp => inB_true.1 (h.2 p (List.mem_of_getElem? hp))⟩
theorem getx_zip {α β : Type} {xs : List α} {ys : List β} {k : Nat} (hk : k < xs.length) (hl : xs.length = ys.length) : ∃ q, ys[k]? = some q := getx (by omega)
