/- Contracts: the numbers of linked stars, whether links are consistent; in the program and in the reference. -/
import Derived.Test.YtalongdieglibaaC20f
import Derived.Test.YtalongdieglibaaC20t
namespace Go.Proofs.Ytalongdieglibaa
open Go.RowKit
set_option linter.unusedVariables false
def jnP (stars : Int) (xs : List Lk) : Jn := jnRun (jn0 stars.toNat) xs
theorem jnRun_ok : ∀ (ls : List Lk) (n k : Nat) (p : Jn), JnOk n (bdN k) p → (∀ (j : Nat) (l : Lk), ls[j]? = some l → 0 ≤ l.a ∧ l.a < l.b ∧ l.b < n ∧ -5000 ≤ l.d ∧ l.d ≤ 5000) → JnOk n (bdN (k + ls.length)) (jnRun p ls)
  | [], n, k, p, h, _ => by simpa [jnRun] using h
  | l :: r, n, k, p, h, hl => by
    have h1 := jnStep_ok h (bdN_nn k) (hl 0 l rfl)
    have h2 := jnRun_ok r n (k + 1) (jnStep p l) h1 (fun j x hx => hl (j + 1) x (by simpa using hx))
    simp only [List.length_cons]
    rw [show k + (r.length + 1) = k + 1 + r.length by omega]
    exact h2
theorem jnP_ok {stars : Int} {xs : List Lk} (h : vlB stars xs = true) : JnOk stars.toNat (bdN xs.length) (jnP stars xs) := by
  simp only [vlB, Bool.and_eq_true, inB_true, decide_eq_true_eq, List.all_eq_true] at h
  have := jnRun_ok xs stars.toNat 0 (jn0 stars.toNat) (jn0_ok _) (fun k p hp => by
    have := h.2.2 p (List.mem_of_getElem? hp)
    simp only [lkB, Bool.and_eq_true, decide_eq_true_eq, inB_true] at this
    omega)
  rw [Nat.zero_add] at this
  exact this
theorem vlB_nat {stars : Int} {xs : List Lk} (h : vlB stars xs = true) : ∃ n : Nat, stars = n ∧ 1 ≤ n ∧ n ≤ 10 ∧ xs.length ≤ 12 ∧ ∀ (k : Nat) (p : Lk), xs[k]? = some p → 0 ≤ p.a ∧ p.a < p.b ∧ p.b < n ∧ -5000 ≤ p.d ∧ p.d ≤ 5000 := by
  simp only [vlB, Bool.and_eq_true, inB_true, decide_eq_true_eq, List.all_eq_true] at h
  refine ⟨stars.toNat, by omega, by omega, by omega, h.2.1, fun k p hp => ?_⟩
  have := h.2.2 p (List.mem_of_getElem? hp)
  simp only [lkB, Bool.and_eq_true, decide_eq_true_eq, inB_true] at this
  omega
def acB (stars : Int) (xs : List Lk) : Bool := if vlB stars xs = true then (jnP stars xs).ok else false
def acC (stars : Int) (xs : List Lk) : Int := if vlB stars xs = true then 0 else 1
def ofC (stars : Int) (xs : List Lk) : Int := if vlB stars xs = true then (if (jnP stars xs).ok = true then 0 else 6) else 1
def ofV (stars : Int) (xs : List Lk) : List Int := if ofC stars xs = 0 then (jnP stars xs).N else []
theorem ofV_len (stars : Int) (xs : List Lk) : (ofV stars xs).length ≤ 10 := by
  cases h : vlB stars xs
  · simp [ofV, ofC, h]
  · obtain ⟨n, rfl, n1, n2, _, _⟩ := vlB_nat h
    have := (jnP_ok h).ln
    unfold ofV
    split
    · omega
    · simp
theorem own_as {w : World} {lo n g c T : Nat} {L : List Int} (h : w.ownsRow lo T 1 (.slice (some ⟨g, 0, none⟩) n c) n (fI L)) (hl : L.length = n) : w.ownsRow lo T 1 (.slice (some ⟨g, 0, none⟩) L.length c) L.length (L.flatMap encI) := by
  rw [hl, fI_flat]; exact h
