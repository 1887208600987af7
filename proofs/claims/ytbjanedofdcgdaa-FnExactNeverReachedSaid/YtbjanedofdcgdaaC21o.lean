/- Plain laws: sorted numbers, the median. No program in sight. -/
import Derived.Test.YtbjanedofdcgdaaBase
namespace Go.Proofs.Ytbjanedofdcgdaa
open Go.RowKit
set_option linter.unusedVariables false
def srt (xs : List Int) : List Int := xs.mergeSort fun x y => decide (x ≤ y)
theorem srt_len (xs : List Int) : (srt xs).length = xs.length := List.length_mergeSort _
theorem srt_perm (xs : List Int) : (srt xs).Perm xs := List.mergeSort_perm _ _
theorem srt_mem (xs : List Int) (x : Int) : x ∈ srt xs ↔ x ∈ xs := (srt_perm xs).mem_iff
theorem srt_sorted (xs : List Int) : (srt xs).Pairwise (fun a b => a ≤ b) := by
  have h := List.pairwise_mergeSort (le := fun x y : Int => decide (x ≤ y)) (fun a b c h1 h2 => by simp at *; omega) (fun a b => by simp; omega) xs
  exact h.imp (fun h => by simpa using h)
theorem sorted_eq : ∀ {xs ys : List Int}, xs.Pairwise (fun a b => a ≤ b) → ys.Pairwise (fun a b => a ≤ b) → xs.Perm ys → xs = ys
  | [], ys, _, _, hp => (List.nil_perm.1 hp).symm
  | x :: xs, [], _, _, hp => absurd hp.length_eq (by simp)
  | x :: xs, y :: ys, h1, h2, hp => by
    rw [List.pairwise_cons] at h1 h2
    have hx : x ∈ y :: ys := hp.mem_iff.1 (List.mem_cons_self)
    have hy : y ∈ x :: xs := hp.mem_iff.2 (List.mem_cons_self)
    have e : x = y := by
      have a : y ≤ x := by
        rcases List.mem_cons.1 hx with h | h
        · omega
        · exact h2.1 x h
      have b : x ≤ y := by
        rcases List.mem_cons.1 hy with h | h
        · omega
        · exact h1.1 y h
      omega
    subst e
    rw [sorted_eq h1.2 h2.2 hp.cons_inv]
theorem srt_uniq {xs L : List Int} (h1 : L.Pairwise (fun a b => a ≤ b)) (h2 : L.Perm xs) : L = srt xs := sorted_eq h1 (srt_sorted xs) (h2.trans (srt_perm xs).symm)
def medS (S : List Int) : Int := if S.length % 2 = 1 then (S[S.length / 2]?).getD 0 else nearI ((S[S.length / 2 - 1]?).getD 0 + (S[S.length / 2]?).getD 0) 2
def medI (xs : List Int) : Int := medS (srt xs)
/-- A number put behind those that are not greater. -/
theorem put_sorted {L : List Int} {x : Int} {k : Nat} (h : L.Pairwise (fun a b => a ≤ b)) (h1 : ∀ y ∈ L.take k, y ≤ x) (h2 : ∀ y ∈ L.drop k, x < y) : (L.take k ++ [x] ++ L.drop k).Pairwise (fun a b => a ≤ b) := by
  rw [List.append_assoc, List.pairwise_append]
  refine ⟨h.sublist (List.take_sublist k L), ?_, ?_⟩
  · rw [List.singleton_append, List.pairwise_cons]
    exact ⟨fun y hy => by have := h2 y hy; omega, h.sublist (List.drop_sublist k L)⟩
  · intro a ha b hb
    rcases List.mem_append.1 hb with hb | hb
    · simp at hb; subst hb; exact h1 a ha
    · have := h1 a ha; have := h2 b hb; omega
theorem put_perm (L : List Int) (x : Int) (k : Nat) : (L.take k ++ [x] ++ L.drop k).Perm (L ++ [x]) := by
  rw [List.append_assoc]
  refine (List.Perm.append_left _ List.perm_append_comm).trans ?_
  rw [← List.append_assoc, List.take_append_drop]
theorem near2 {a b : Int} : (a ≤ b → a ≤ nearI (a + b) 2 ∧ nearI (a + b) 2 ≤ b) := by
  intro h
  rw [nearI_round _ _ (by omega)]
  omega
theorem medS_in {S : List Int} (hs : S.Pairwise (fun a b => a ≤ b)) (h : 0 < S.length) {lo hi : Int} (hb : ∀ x ∈ S, lo ≤ x ∧ x ≤ hi) : lo ≤ medS S ∧ medS S ≤ hi := by
  unfold medS
  split
  · obtain ⟨p, hp⟩ := getx (xs := S) (k := S.length / 2) (by omega)
    rw [hp]
    exact hb p (List.mem_of_getElem? hp)
  · obtain ⟨p, hp⟩ := getx (xs := S) (k := S.length / 2) (by omega)
    obtain ⟨q, hq⟩ := getx (xs := S) (k := S.length / 2 - 1) (by omega)
    rw [hp, hq]
    have h1 := hb p (List.mem_of_getElem? hp)
    have h2 := hb q (List.mem_of_getElem? hq)
    have h3 : q ≤ p := by
      obtain ⟨g1, rfl⟩ := List.getElem?_eq_some_iff.1 hq
      obtain ⟨g2, rfl⟩ := List.getElem?_eq_some_iff.1 hp
      exact List.pairwise_iff_getElem.1 hs _ _ g1 g2 (by omega)
    have := near2 h3
    simp only [Option.getD_some]
    omega
theorem medI_in {xs : List Int} (h : 0 < xs.length) {lo hi : Int} (hb : ∀ x ∈ xs, lo ≤ x ∧ x ≤ hi) : lo ≤ medI xs ∧ medI xs ≤ hi :=
  medS_in (srt_sorted xs) (by rw [srt_len]; exact h) (fun x hx => hb x ((srt_mem xs x).1 hx))
def awL (xs : List Int) : List Int := xs.map fun x => absI (x - medI xs)
def madI (xs : List Int) : Int := medI (awL xs)
def kpL (t : Int) (xs : List Int) : List Int := xs.filter fun x => decide (absI (x - medI xs) ≤ t * madI xs)
theorem awL_in {xs : List Int} (h : 0 < xs.length) (hb : ∀ x ∈ xs, -2000 ≤ x ∧ x ≤ 20000) : ∀ y ∈ awL xs, 0 ≤ y ∧ y ≤ 22000 := by
  intro y hy
  obtain ⟨x, hx, rfl⟩ := List.mem_map.1 hy
  have h1 := hb x hx
  have h2 := medI_in h hb
  unfold absI; omega
theorem madI_in {xs : List Int} (h : 0 < xs.length) (hb : ∀ x ∈ xs, -2000 ≤ x ∧ x ≤ 20000) : 0 ≤ madI xs ∧ madI xs ≤ 22000 :=
  medI_in (by unfold awL; rw [List.length_map]; exact h) (awL_in h hb)
/-- Something is always kept: what lies nearest to the median. -/
theorem kpL_some {xs : List Int} {t : Int} (ht : 1 ≤ t) (h : 0 < xs.length) (hb : ∀ x ∈ xs, -2000 ≤ x ∧ x ≤ 20000) : 0 < (kpL t xs).length := by
  have hm := madI_in h hb
  have hl : 0 < (awL xs).length := by unfold awL; rw [List.length_map]; exact h
  have hex : ∃ y ∈ awL xs, y ≤ madI xs := by
    rcases Classical.em (∃ y ∈ awL xs, y ≤ madI xs) with h1 | h1
    · exact h1
    · have h2 : ∀ y ∈ awL xs, madI xs + 1 ≤ y ∧ y ≤ 22000 := fun y hy => by
        have h3 := awL_in h hb y hy
        have : ¬ y ≤ madI xs := fun h4 => h1 ⟨y, hy, h4⟩
        omega
      have := (medI_in hl h2).1
      unfold madI at this
      omega
  obtain ⟨y, hy, hle⟩ := hex
  obtain ⟨x, hx, rfl⟩ := List.mem_map.1 hy
  refine List.length_pos_iff.2 (List.ne_nil_of_mem (a := x) ?_)
  unfold kpL
  rw [List.mem_filter]
  refine ⟨hx, ?_⟩
  have : madI xs * 1 ≤ madI xs * t := Int.mul_le_mul_of_nonneg_left ht hm.1
  rw [Int.mul_comm t]
  simp
  omega
theorem kpL_in {xs : List Int} {t : Int} {x : Int} (h : x ∈ kpL t xs) : x ∈ xs := (List.mem_filter.1 h).1
theorem kpL_len (t : Int) (xs : List Int) : (kpL t xs).length ≤ xs.length := List.length_filter_le _ _
def clipN (t : Int) : Nat → List Int → List Int
  | 0, xs => xs
  | n + 1, xs => if (kpL t xs).length = xs.length then xs else clipN t n (kpL t xs)
theorem clipN_len (t : Int) : ∀ (n : Nat) (xs : List Int), (clipN t n xs).length ≤ xs.length
  | 0, xs => Nat.le_refl _
  | n + 1, xs => by
    unfold clipN
    split
    · exact Nat.le_refl _
    · exact Nat.le_trans (clipN_len t n _) (kpL_len t xs)
def clipL (t : Int) (xs : List Int) : List Int := clipN t xs.length xs
/-- The weight of a distance. -/
def wt1 (u d : Int) : Int := if d ≤ u then 100 else if d ≤ 10 * u then (100 * u).tdiv d else 0
end Go.Proofs.Ytbjanedofdcgdaa
