/- Contracts of TimesIn, in the program and in the reference. -/
import Derived.Test.YthlolfhjnfkcfaaC16w
import Derived.Test.YthlolfhjnfkcfaaCGrow
namespace Go.Proofs.Ythlolfhjnfkcfaa
open Go.RowKit
set_option linter.unusedVariables false
theorem ephB_true {a b : Int} (h : ephB a b = true) : 0 ≤ a ∧ a ≤ 10000000 ∧ 1 ≤ b ∧ b ≤ 1000000 := by
  simp only [ephB, Bool.and_eq_true, inB_true] at h
  omega
theorem seqL_step {p to t : Int} (hp : 0 < p) (h : t ≤ to) : seqL p t (cntT p to t).toNat = t :: seqL p (t + p) (cntT p to (t + p)).toNat := by
  rw [cntT_step hp h]
  have := cntT_nn (p := p) (to := to) (t := t + p) hp
  have e : (1 + cntT p to (t + p)).toNat = (cntT p to (t + p)).toNat + 1 := by omega
  rw [e]; rfl
def tiC (a b f t : Int) : Int := if ephB a b = true then (if inB f 0 10000000 = true ∧ inB t 0 10000000 = true then (if 200 < extI a b f t then 5 else 0) else 2) else 1
def tiV (a b f t : Int) : List Int := if tiC a b f t = 0 then seqL b (nextI a b f) (extI a b f t).toNat else []
theorem tiV_len (a b f t : Int) : (tiV a b f t).length ≤ 200 := by
  unfold tiV
  split
  · rename_i h
    rw [seqL_len]
    unfold tiC at h
    repeat' split at h
    all_goals first | omega | simp at h
  · simp
