/- Plain laws of fits: normal equations, a shift of all cycles. No program in sight. -/
import Derived.Test.YtlpgnmkhlbddaaaC08s
namespace Go.Proofs.Ytlpgnmkhlbddaaa
open Go.RowKit
set_option linter.unusedVariables false
structure Mn where
  c : Int
  t : Int
def mC : List Mn → Int | [] => 0 | p :: r => p.c + mC r
def mT : List Mn → Int | [] => 0 | p :: r => p.t + mT r
def mX : List Mn → Int | [] => 0 | p :: r => p.c * p.t + mX r
def mQ : List Mn → Int | [] => 0 | p :: r => p.c * p.c + mQ r
def mN (xs : List Mn) : Int := (xs.length : Int) * mX xs - mC xs * mT xs
def mD (xs : List Mn) : Int := (xs.length : Int) * mQ xs - mC xs * mC xs
/-- What a line leaves of a minimum, times both denominators. -/
def dv1 (tn td pn pd : Int) (m : Mn) : Int := m.t * td * pd - tn * pd - m.c * pn * td
def dS1 (tn td pn pd : Int) : List Mn → Int | [] => 0 | p :: r => dv1 tn td pn pd p + dS1 tn td pn pd r
def dW1 (tn td pn pd : Int) : List Mn → Int | [] => 0 | p :: r => p.c * dv1 tn td pn pd p + dW1 tn td pn pd r
theorem dS1_eq (tn td pn pd : Int) : ∀ xs : List Mn, dS1 tn td pn pd xs = mT xs * td * pd - (xs.length : Int) * tn * pd - mC xs * pn * td
  | [] => by simp [dS1, mT, mC]
  | p :: r => by
    have ih := dS1_eq tn td pn pd r
    simp only [dS1, mT, mC, dv1, List.length_cons, ih]
    push_cast
    grind
theorem dW1_eq (tn td pn pd : Int) : ∀ xs : List Mn, dW1 tn td pn pd xs = mX xs * td * pd - mC xs * tn * pd - mQ xs * pn * td
  | [] => by simp [dW1, mX, mC, mQ]
  | p :: r => by
    have ih := dW1_eq tn td pn pd r
    simp only [dW1, mX, mC, mQ, dv1, ih]
    grind
theorem fit_sum {tn td pn pd : Int} {xs : List Mn} (ht : tn * ((xs.length : Int) * pd) = td * (mT xs * pd - pn * mC xs)) : dS1 tn td pn pd xs = 0 := by
  rw [dS1_eq]
  generalize mT xs = T at *
  generalize mC xs = C at *
  generalize (xs.length : Int) = n at *
  grind
theorem fit_weighted {tn td pn pd : Int} {xs : List Mn} (hn : 0 < xs.length) (ht : tn * ((xs.length : Int) * pd) = td * (mT xs * pd - pn * mC xs)) (hp : pn * mD xs = pd * mN xs) : dW1 tn td pn pd xs = 0 := by
  rw [dW1_eq]
  unfold mD mN at hp
  have hn' : (xs.length : Int) ≠ 0 := by omega
  generalize mT xs = T at *
  generalize mC xs = C at *
  generalize mX xs = X at *
  generalize mQ xs = Q at *
  generalize (xs.length : Int) = n at *
  have h : n * (X * td * pd - C * tn * pd - Q * pn * td) = n * 0 := by grind
  exact Int.eq_of_mul_eq_mul_left hn' h
/-- A shift of all cycles. -/
def mv (b : Int) (m : Mn) : Mn := ⟨m.c + b, m.t⟩
theorem mv_sums (b : Int) : ∀ xs : List Mn, mC (xs.map (mv b)) = mC xs + (xs.length : Int) * b ∧ mT (xs.map (mv b)) = mT xs ∧ mX (xs.map (mv b)) = mX xs + b * mT xs ∧ mQ (xs.map (mv b)) = mQ xs + 2 * b * mC xs + (xs.length : Int) * b * b
  | [] => by simp [mC, mT, mX, mQ]
  | p :: r => by
    obtain ⟨h1, h2, h3, h4⟩ := mv_sums b r
    simp only [List.map_cons, mC, mT, mX, mQ, h1, h2, h3, h4, mv, List.length_cons]
    push_cast
    refine ⟨?_, trivial, ?_, ?_⟩ <;> grind
theorem mv_fit (b : Int) (xs : List Mn) : mN (xs.map (mv b)) = mN xs ∧ mD (xs.map (mv b)) = mD xs := by
  obtain ⟨h1, h2, h3, h4⟩ := mv_sums b xs
  unfold mN mD
  rw [h1, h2, h3, h4, List.length_map]
  generalize mT xs = T at *
  generalize mC xs = C at *
  generalize mX xs = X at *
  generalize mQ xs = Q at *
  generalize (xs.length : Int) = n at *
  constructor <;> grind
/-! ### Drawn minima: few, early, in order -/
def MnOk (xs : List Mn) : Prop := xs.Pairwise (fun p q => p.c < q.c ∧ p.t < q.t) ∧ ∀ p ∈ xs, 0 ≤ p.c ∧ p.c ≤ 51 ∧ 0 ≤ p.t ∧ p.t ≤ 480000
theorem mCQ (xs : List Mn) : mC xs = s1 (xs.map Mn.c) ∧ mQ xs = s2 (xs.map Mn.c) := by
  induction xs with
  | nil => simp [mC, mQ, s1, s2]
  | cons p r ih => simp only [mC, mQ, s1, s2, List.map_cons, ih.1, ih.2]; simp
theorem mD_pos {xs : List Mn} (h : MnOk xs) (hn : 2 ≤ xs.length) : 0 < mD xs := by
  obtain ⟨h1, h2⟩ := mCQ xs
  match xs, h, hn, h1, h2 with
  | a :: b :: r, h, hn, h1, h2 =>
    have := vr_pos (x := a.c) (y := b.c) (r.map Mn.c) ((List.pairwise_cons.1 h.1).1 b (List.mem_cons_self)).1
    unfold mD
    rw [h1, h2]
    simpa [vr] using this
theorem mQ_le : ∀ {xs : List Mn}, (∀ p ∈ xs, 0 ≤ p.c ∧ p.c ≤ 51) → 0 ≤ mQ xs ∧ mQ xs ≤ (xs.length : Int) * 2601
  | [], _ => by simp [mQ]
  | p :: r, h => by
    have ih := mQ_le (xs := r) (fun x hx => h x (List.mem_cons_of_mem _ hx))
    have hp := h p (List.mem_cons_self)
    have := mul_bds (x := p.c) (y := p.c) (A := 51) (B := 51) (by omega) (by omega) (by omega) (by omega)
    have := Int.mul_nonneg hp.1 hp.1
    simp only [mQ, List.length_cons]
    push_cast
    omega
theorem mD_le {xs : List Mn} (h : MnOk xs) (hn : xs.length ≤ 8) : mD xs ≤ 166464 := by
  have h1 := mQ_le (fun p hp => ⟨(h.2 p hp).1, (h.2 p hp).2.1⟩)
  have h2 := mul_bds (x := (xs.length : Int)) (y := mQ xs) (A := 8) (B := 20808) (by omega) (by omega) (by omega) (by omega)
  have h3 : 0 ≤ mC xs * mC xs := by
    rcases Int.le_total 0 (mC xs) with h | h
    · exact Int.mul_nonneg h h
    · have := Int.mul_nonneg (a := -mC xs) (b := -mC xs) (by omega) (by omega); rwa [Int.neg_mul_neg] at this
  unfold mD
  omega
end Go.Proofs.Ytlpgnmkhlbddaaa
