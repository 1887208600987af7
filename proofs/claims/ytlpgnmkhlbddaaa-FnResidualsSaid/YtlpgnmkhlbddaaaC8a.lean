/- Contracts of light curves: when points are one, in the program and in the reference. -/
import Derived.Test.YtlpgnmkhlbddaaaC1
namespace Go.Proofs.Ytlpgnmkhlbddaaa
open Go.RowKit
set_option linter.unusedVariables false
/-- A point behind another one (or none) is in order. -/
def ptOk (prev : Option Pt) (p : Pt) : Bool :=
  inB p.t 0 10000000 && (inB p.m (-2000) 20000 && (match prev with | none => true | some q => decide (q.t < p.t)))
def ptGo : Option Pt → List Pt → Bool
  | _, [] => true
  | prev, p :: r => ptOk prev p && ptGo (some p) r
def cvB (xs : List Pt) : Bool := decide (xs.length ≤ 100) && ptGo none xs
theorem ptGo_at : ∀ (xs : List Pt) (prev : Option Pt), ptGo prev xs = true → ∀ (k : Nat) (p : Pt), xs[k]? = some p → 0 ≤ p.t ∧ p.t ≤ 10000000 ∧ -2000 ≤ p.m ∧ p.m ≤ 20000
  | [], _, _, k, p, h => by simp at h
  | a :: r, prev, hg, 0, p, h => by
    simp at h
    subst h
    simp only [ptGo, ptOk, Bool.and_eq_true, inB_true] at hg
    omega
  | a :: r, prev, hg, k + 1, p, h => by
    simp only [ptGo, Bool.and_eq_true] at hg
    exact ptGo_at r (some a) hg.2 k p (by simpa using h)
theorem cvB_at {xs : List Pt} (h : cvB xs = true) : ∀ (k : Nat) (p : Pt), xs[k]? = some p → 0 ≤ p.t ∧ p.t ≤ 10000000 ∧ -2000 ≤ p.m ∧ p.m ≤ 20000 := by
  simp only [cvB, Bool.and_eq_true] at h
  exact ptGo_at xs none h.2
theorem cvB_len {xs : List Pt} (h : cvB xs = true) : xs.length ≤ 100 := by
  simp only [cvB, Bool.and_eq_true, decide_eq_true_eq] at h
  exact h.1
