/- Plain laws: the lists of links without which the others are consistent, told in order. No program in sight. -/
import Derived.Test.YtalongdieglibaaC20k
namespace Go.Proofs.Ytalongdieglibaa
open Go.RowKit
set_option linter.unusedVariables false
/-- A list and k more numbers from i on, below m, in their order. -/
def combW (m : Nat) : Nat → List Int → Nat → List (List Int)
  | 0, pre, _ => [pre]
  | k + 1, pre, i => (List.range' i (m - i)).flatMap fun (j : Nat) => combW m k (pre ++ [(j : Int)]) (j + 1)
theorem combW_step {m k i : Nat} {pre : List Int} (h : i < m) : combW m (k + 1) pre i = combW m k (pre ++ [(i : Int)]) (i + 1) ++ combW m (k + 1) pre (i + 1) := by
  obtain ⟨d, hd⟩ : ∃ d, m - i = d + 1 := ⟨m - i - 1, by omega⟩
  have hd2 : m - (i + 1) = d := by omega
  simp only [combW, hd, hd2, List.range'_succ, List.flatMap_cons]
theorem combW_end {m k i : Nat} {pre : List Int} (h : m ≤ i) : combW m (k + 1) pre i = [] := by
  have hd : m - i = 0 := by omega
  simp only [combW, hd, List.range'_zero, List.flatMap_nil]
/-- Rising numbers below m. -/
def AscW (m : Nat) (g : List Int) : Prop := g.Pairwise (fun a b => a < b) ∧ ∀ x ∈ g, 0 ≤ x ∧ x < m
theorem AscW.snoc {i m : Nat} {g : List Int} (h : AscW i g) (hi : i < m) : AscW (i + 1) (g ++ [(i : Int)]) := by
  refine ⟨?_, fun x hx => ?_⟩
  · rw [List.pairwise_append]
    exact ⟨h.1, by simp, fun a ha b hb => by simp at hb; have := h.2 a ha; omega⟩
  · rcases List.mem_append.1 hx with e | e
    · have := h.2 x e; omega
    · simp at e; omega
theorem AscW.wider {i m : Nat} {g : List Int} (h : AscW i g) (hi : i ≤ m) : AscW m g := ⟨h.1, fun x hx => by have := h.2 x hx; omega⟩
theorem combW_asc {m : Nat} : ∀ (k : Nat) (pre : List Int) (i : Nat), AscW i pre → i ≤ m → ∀ g ∈ combW m k pre i, AscW m g ∧ g.length = pre.length + k
  | 0, pre, i, h, hi, g, hg => by
    simp only [combW, List.mem_singleton] at hg
    subst hg
    exact ⟨h.wider hi, rfl⟩
  | k + 1, pre, i, h, hi, g, hg => by
    simp only [combW, List.mem_flatMap, List.mem_range'_1] at hg
    obtain ⟨j, ⟨h1, h2⟩, hg⟩ := hg
    obtain ⟨a1, a2⟩ := combW_asc k _ _ ((h.wider h1).snoc (m := m) (by omega)) (by omega) g hg
    exact ⟨a1, by rw [a2]; simp; omega⟩
/-- The links whose numbers are not in a list. -/
def restW (g : List Int) : Nat → List Lk → List Lk
  | _, [] => []
  | k, l :: r => if g.contains (k : Int) then restW g (k + 1) r else l :: restW g (k + 1) r
theorem jnGo_rest (g : List Int) : ∀ (xs : List Lk) (p : Jn) (k : Nat), jnGo g p k xs = jnRun p (restW g k xs)
  | [], _, _ => rfl
  | l :: r, p, k => by
    unfold jnGo restW
    split
    · exact jnGo_rest g r p (k + 1)
    · exact jnGo_rest g r _ (k + 1)
theorem restW_len (g : List Int) : ∀ (xs : List Lk) (k : Nat), (restW g k xs).length ≤ xs.length
  | [], _ => by simp [restW]
  | l :: r, k => by
    have := restW_len g r (k + 1)
    unfold restW
    split <;> simp <;> omega
theorem restW_mem (g : List Int) : ∀ (xs : List Lk) (k : Nat) (l : Lk), l ∈ restW g k xs → l ∈ xs
  | [], _, l, h => by simp [restW] at h
  | x :: r, k, l, h => by
    unfold restW at h
    split at h
    · exact List.mem_cons_of_mem _ (restW_mem g r _ l h)
    · rcases List.mem_cons.1 h with e | e
      · rw [e]; exact List.mem_cons_self
      · exact List.mem_cons_of_mem _ (restW_mem g r _ l e)
theorem restW_snoc (g : List Int) (l : Lk) : ∀ (xs : List Lk) (k : Nat), restW g k (xs ++ [l]) = restW g k xs ++ (if g.contains ((k + xs.length : Nat) : Int) then [] else [l])
  | [], k => by simp [restW]
  | x :: r, k => by
    rw [List.cons_append]
    unfold restW
    rw [restW_snoc g l r (k + 1), show k + 1 + r.length = k + (x :: r).length by simp; omega]
    split <;> simp
def okW (n : Nat) (xs : List Lk) (g : List Int) : Bool := (jnRun (jn0 n) (restW g 0 xs)).ok
theorem okW_go (n : Nat) (xs : List Lk) (g : List Int) : (jnGo g (jn0 n) 0 xs).ok = okW n xs g := by rw [jnGo_rest]; rfl
/-! ### The number of the next one in a rising list -/
def NxW (g : List Int) (j : Nat) (i : Nat) : Prop := j ≤ g.length ∧ (∀ x ∈ g.take j, x < (i : Int)) ∧ ∀ x ∈ g.drop j, (i : Int) ≤ x
theorem NxW.zero {m : Nat} {g : List Int} (h : AscW m g) : NxW g 0 0 := ⟨Nat.zero_le _, by simp, fun x hx => by have := h.2 x (List.mem_of_mem_drop hx); omega⟩
theorem nxW_none {g : List Int} {j i : Nat} (h : NxW g j i) (hj : ¬ j < g.length) : g.contains (i : Int) = false ∧ NxW g j (i + 1) := by
  have e : g.drop j = [] := List.drop_eq_nil_of_le (by omega)
  have t : g.take j = g := List.take_of_length_le (by omega)
  refine ⟨?_, h.1, fun x hx => by have := h.2.1 x hx; omega, by rw [e]; simp⟩
  cases hc : g.contains (i : Int) with
  | false => rfl
  | true =>
    have hm := List.contains_iff_mem.1 hc
    have := h.2.1 (i : Int) (by rw [t]; exact hm)
    omega
theorem nxW_some {m : Nat} {g : List Int} {j i : Nat} {x : Int} (ha : AscW m g) (h : NxW g j i) (hx : g[j]? = some x) : (x = i → g.contains (i : Int) = true ∧ NxW g (j + 1) (i + 1)) ∧ (x ≠ i → g.contains (i : Int) = false ∧ NxW g j (i + 1)) := by
  have hj : j < g.length := (List.getElem?_eq_some_iff.1 hx).1
  have ed := dropx hx
  have hp : (g.drop j).Pairwise (fun a b => a < b) := ha.1.sublist (List.drop_sublist _ _)
  rw [ed, List.pairwise_cons] at hp
  have hge := h.2.2 x (by rw [ed]; exact List.mem_cons_self)
  constructor
  · rintro rfl
    refine ⟨List.contains_iff_mem.2 (List.mem_of_getElem? hx), by omega, fun y hy => ?_, fun y hy => by have := hp.1 y hy; omega⟩
    rw [List.take_add_one, hx] at hy
    rcases List.mem_append.1 hy with e | e
    · have := h.2.1 y e; omega
    · simp at e; omega
  · intro hne
    have hlt : (i : Int) < x := by omega
    refine ⟨?_, h.1, fun y hy => by have := h.2.1 y hy; omega, fun y hy => ?_⟩
    · cases hc : g.contains (i : Int) with
      | false => rfl
      | true =>
        have hm := List.contains_iff_mem.1 hc
        rw [← List.take_append_drop j g] at hm
        rcases List.mem_append.1 hm with e | e
        · have := h.2.1 _ e; omega
        · rw [ed] at e
          rcases List.mem_cons.1 e with e | e
          · omega
          · have := hp.1 _ e; omega
    · rw [ed] at hy
      rcases List.mem_cons.1 hy with e | e
      · omega
      · have := hp.1 _ e; omega
/-! ### The fewest -/
def outW (n : Nat) (xs : List Lk) (k : Nat) : List (List Int) := (combW xs.length k [] 0).filter (okW n xs)
def wlGo (n : Nat) (xs : List Lk) : Nat → Nat → List (List Int)
  | 0, _ => []
  | f + 1, k => if outW n xs k = [] then wlGo n xs f (k + 1) else outW n xs k
def wlW (n : Nat) (xs : List Lk) : List (List Int) := wlGo n xs 13 0
theorem wlGo_at (n : Nat) (xs : List Lk) {k : Nat} (h : outW n xs k ≠ []) : ∀ (f i : Nat), i ≤ k → k < i + f → (∀ j, i ≤ j → j < k → outW n xs j = []) → wlGo n xs f i = outW n xs k
  | 0, i, h1, h2, _ => by omega
  | f + 1, i, h1, h2, h3 => by
    unfold wlGo
    rcases Nat.lt_or_ge i k with hlt | hge
    · rw [if_pos (h3 i (Nat.le_refl _) hlt)]
      exact wlGo_at n xs h f (i + 1) hlt (by omega) (fun j a b => h3 j (by omega) b)
    · obtain rfl : i = k := by omega
      rw [if_neg h]
theorem wlW_at {n : Nat} {xs : List Lk} {k : Nat} (h : outW n xs k ≠ []) (hk : k ≤ 12) (h3 : ∀ j, j < k → outW n xs j = []) : wlW n xs = outW n xs k :=
  wlGo_at n xs h 13 0 (Nat.zero_le _) (by omega) (fun j _ b => h3 j b)
theorem combW_all {m : Nat} : ∀ (d i : Nat) (pre : List Int), i + d = m → ∃ g ∈ combW m d pre i, (∀ x ∈ pre, x ∈ g) ∧ ∀ j, i ≤ j → j < m → (j : Int) ∈ g
  | 0, i, pre, h => ⟨pre, by simp [combW], fun x hx => hx, fun j a b => by omega⟩
  | d + 1, i, pre, h => by
    obtain ⟨g, h1, h2, h3⟩ := combW_all (m := m) d (i + 1) (pre ++ [(i : Int)]) (by omega)
    refine ⟨g, by rw [combW_step (i := i) (by omega)]; exact List.mem_append_left _ h1, fun x hx => h2 x (List.mem_append_left _ hx), fun j a b => ?_⟩
    rcases Nat.lt_or_ge i j with hlt | hge
    · exact h3 j hlt b
    · obtain rfl : i = j := by omega
      exact h2 _ (by simp)
theorem restW_all {g : List Int} : ∀ (xs : List Lk) (k : Nat), (∀ j, k ≤ j → j < k + xs.length → (j : Int) ∈ g) → restW g k xs = []
  | [], _, _ => rfl
  | x :: r, k, h => by
    unfold restW
    rw [if_pos (List.contains_iff_mem.2 (h k (Nat.le_refl _) (by simp)))]
    exact restW_all r (k + 1) fun j a b => h j (by omega) (by simp; omega)
theorem outW_last (n : Nat) (xs : List Lk) : outW n xs xs.length ≠ [] := by
  obtain ⟨g, h1, _, h3⟩ := combW_all (m := xs.length) xs.length 0 [] (by omega)
  have ho : okW n xs g = true := by
    unfold okW
    rw [restW_all xs 0 fun j _ b => h3 j (Nat.zero_le _) (by omega)]
    rfl
  exact List.ne_nil_of_mem (List.mem_filter.2 ⟨h1, ho⟩)
end Go.Proofs.Ytalongdieglibaa
