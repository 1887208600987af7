/- Plain laws: the window of a time, met in order. No program in sight. -/
import Derived.Test.YthlolfhjnfkcfaaC16x
namespace Go.Proofs.Ythlolfhjnfkcfaa
open Go.RowKit
set_option linter.unusedVariables false
/-- The windows ahead of jj end ahead of all of these times. -/
def Pre (xs : List Wi) (jj : Nat) (L : List Int) : Prop := ∀ j x, j < jj → xs[j]? = some x → ∀ t ∈ L, x.t < t
theorem Pre.zero (xs : List Wi) (L : List Int) : Pre xs 0 L := fun j _ hj => by omega
theorem Pre.sub {xs : List Wi} {jj : Nat} {t : Int} {L : List Int} (h : Pre xs jj (t :: L)) : Pre xs jj L := fun j x hj hx s hs => h j x hj hx s (List.mem_cons_of_mem _ hs)
theorem Pre.next {xs : List Wi} {jj : Nat} {t : Int} {L : List Int} {x : Wi} (h : Pre xs jj (t :: L)) (hx : xs[jj]? = some x) (ht : x.t < t) (hl : (t :: L).Pairwise (· < ·)) : Pre xs (jj + 1) (t :: L) := by
  intro j y hj hy s hs
  by_cases hjj : j < jj
  · exact h j y hjj hy s hs
  · obtain rfl : j = jj := by omega
    rw [hx] at hy
    obtain rfl : x = y := by simpa using hy
    rcases List.mem_cons.1 hs with rfl | hs
    · exact ht
    · have := (List.pairwise_cons.1 hl).1 s hs; omega
theorem WsOk.lt {xs : List Wi} {i j : Nat} {x y : Wi} (h : WsOk xs) (hx : xs[i]? = some x) (hy : xs[j]? = some y) (hij : i < j) : x.t < y.f := by
  obtain ⟨hi, rfl⟩ := List.getElem?_eq_some_iff.1 hx
  obtain ⟨hj, rfl⟩ := List.getElem?_eq_some_iff.1 hy
  exact List.pairwise_iff_getElem.1 h.1 i j hi hj hij
theorem vt_lt {a b t : Int} {xs : List Wi} {jj : Nat} {L : List Int} (hb : 0 < b) (ht : t ∈ vtL a b xs) (h : Pre xs jj (t :: L)) : jj < xs.length := by
  obtain ⟨x, hx, h1, h2, h3⟩ := vtL_in hb xs t ht
  obtain ⟨j, hj, rfl⟩ := List.mem_iff_getElem.1 hx
  by_cases hjj : j < jj
  · have := h j _ hjj (List.getElem?_eq_getElem hj) t List.mem_cons_self; omega
  · omega
theorem vt_at {a b t : Int} {xs : List Wi} {jj : Nat} {L : List Int} {y : Wi} (hb : 0 < b) (hw : WsOk xs) (ht : t ∈ vtL a b xs) (h : Pre xs jj (t :: L)) (hy : xs[jj]? = some y) (hty : t ≤ y.t) : y.f ≤ t := by
  obtain ⟨x, hx, h1, h2, h3⟩ := vtL_in hb xs t ht
  obtain ⟨j, hj, rfl⟩ := List.mem_iff_getElem.1 hx
  have hx' := List.getElem?_eq_getElem hj
  by_cases hjj : j < jj
  · have := h j _ hjj hx' t List.mem_cons_self; omega
  · by_cases e : j = jj
    · subst e
      rw [hx'] at hy
      obtain rfl : xs[j] = y := by simpa using hy
      exact h1
    · have := hw.lt hy hx' (by omega); omega
theorem vt_pos {a b t : Int} {xs : List Wi} (hb : 0 < b) (hw : WsOk xs) (ht : t ∈ vtL a b xs) : 0 ≤ t ∧ t ≤ 70000 ∧ (t - a) % b = 0 := by
  obtain ⟨x, hx, h1, h2, h3⟩ := vtL_in hb xs t ht
  have := hw.2 x hx
  exact ⟨by omega, by omega, phase_zero h3⟩
theorem pw_lt {L : List Int} {i j : Nat} {x y : Int} (h : L.Pairwise (· < ·)) (hx : L[i]? = some x) (hy : L[j]? = some y) (hij : i < j) : x < y := by
  obtain ⟨hi, rfl⟩ := List.getElem?_eq_some_iff.1 hx
  obtain ⟨hj, rfl⟩ := List.getElem?_eq_some_iff.1 hy
  exact List.pairwise_iff_getElem.1 h i j hi hj hij
end Go.Proofs.Ythlolfhjnfkcfaa
