/- Plain laws: rising lists, facts that are searched in their order. No program in sight. -/
import Derived.Test.YtbjanedofdcgdaaC21o
import Derived.Test.YtbjanedofdcgdaaC18v
import Derived.Lib.SlicesCompact
namespace Go.Proofs.Ytbjanedofdcgdaa
open Go.RowKit
set_option linter.unusedVariables false
/-- Rising lists with the same members are equal. -/
theorem rise_eq : ∀ {xs ys : List Int}, xs.Pairwise (fun a b => a < b) → ys.Pairwise (fun a b => a < b) → (∀ n, n ∈ xs ↔ n ∈ ys) → xs = ys
  | [], [], _, _, _ => rfl
  | [], y :: ys, _, _, h => absurd ((h y).2 (List.mem_cons_self)) (by simp)
  | x :: xs, [], _, _, h => absurd ((h x).1 (List.mem_cons_self)) (by simp)
  | x :: xs, y :: ys, h1, h2, h => by
    rw [List.pairwise_cons] at h1 h2
    have e : x = y := by
      have a := (h x).1 (List.mem_cons_self)
      have b := (h y).2 (List.mem_cons_self)
      rcases List.mem_cons.1 a with a | a
      · exact a
      · rcases List.mem_cons.1 b with b | b
        · exact b.symm
        · have := h1.1 y b; have := h2.1 x a; omega
    subst e
    rw [rise_eq h1.2 h2.2 (fun n => by
      constructor
      · intro hn
        rcases List.mem_cons.1 ((h n).1 (List.mem_cons_of_mem _ hn)) with e | e
        · have := h1.1 n hn; omega
        · exact e
      · intro hn
        rcases List.mem_cons.1 ((h n).2 (List.mem_cons_of_mem _ hn)) with e | e
        · have := h2.1 n hn; omega
        · exact e)]
/-- A number put to its place among rising ones, once. -/
def putS : List Int → Int → List Int
  | [], n => [n]
  | x :: r, n => if n ≤ x then (if n < x then n :: x :: r else x :: r) else x :: putS r n
theorem putS_mem : ∀ (L : List Int) (n m : Int), m ∈ putS L n ↔ m = n ∨ m ∈ L
  | [], n, m => by simp [putS]
  | x :: r, n, m => by
    unfold putS
    split
    · split
      · simp
      · have : n = x := by omega
        subst this
        simp
    · rw [List.mem_cons, putS_mem r n m, List.mem_cons]
      constructor
      · rintro (h | h | h)
        · exact .inr (.inl h)
        · exact .inl h
        · exact .inr (.inr h)
      · rintro (h | h | h)
        · exact .inr (.inl h)
        · exact .inl h
        · exact .inr (.inr h)
theorem putS_rise : ∀ {L : List Int} {n : Int}, L.Pairwise (fun a b => a < b) → (putS L n).Pairwise (fun a b => a < b)
  | [], n, _ => by simp [putS]
  | x :: r, n, h => by
    rw [List.pairwise_cons] at h
    unfold putS
    split
    · split
      · rw [List.pairwise_cons, List.pairwise_cons]
        refine ⟨fun y hy => ?_, h.1, h.2⟩
        rcases List.mem_cons.1 hy with e | e
        · omega
        · have := h.1 y e; omega
      · rw [List.pairwise_cons]; exact h
    · rw [List.pairwise_cons]
      refine ⟨fun y hy => ?_, putS_rise h.2⟩
      rcases (putS_mem r n y).1 hy with e | e
      · omega
      · exact h.1 y e
theorem putS_len : ∀ (L : List Int) (n : Int), (putS L n).length ≤ L.length + 1
  | [], n => by simp [putS]
  | x :: r, n => by
    have := putS_len r n
    unfold putS
    split
    · split <;> simp
    · simp; omega
/-- Corners of rules: nothing and the ends of their ranges. -/
def crL (g1 g2 : Ru → Int) (L : List Int) : List Ru → List Int
  | [] => L
  | x :: r => crL g1 g2 (putS (putS L (g1 x)) (g2 x + 1)) r
theorem crL_rise (g1 g2 : Ru → Int) : ∀ (xs : List Ru) (L : List Int), L.Pairwise (fun a b => a < b) → (crL g1 g2 L xs).Pairwise (fun a b => a < b)
  | [], L, h => h
  | x :: r, L, h => crL_rise g1 g2 r _ (putS_rise (putS_rise h))
theorem crL_mem (g1 g2 : Ru → Int) : ∀ (xs : List Ru) (L : List Int) (n : Int), n ∈ crL g1 g2 L xs ↔ n ∈ L ∨ ∃ x ∈ xs, n = g1 x ∨ n = g2 x + 1
  | [], L, n => by simp [crL]
  | x :: r, L, n => by
    unfold crL
    rw [crL_mem g1 g2 r, putS_mem, putS_mem]
    simp only [List.mem_cons, exists_eq_or_imp]
    constructor
    · rintro ((h | h | h) | h)
      · exact .inr (.inl (.inr h))
      · exact .inr (.inl (.inl h))
      · exact .inl h
      · exact .inr (.inr h)
    · rintro (h | (h | h) | h)
      · exact .inl (.inr (.inr h))
      · exact .inl (.inr (.inl h))
      · exact .inl (.inl h)
      · exact .inr h
theorem crL_len (g1 g2 : Ru → Int) : ∀ (xs : List Ru) (L : List Int), (crL g1 g2 L xs).length ≤ L.length + 2 * xs.length
  | [], L => by simp [crL]
  | x :: r, L => by
    have h1 := crL_len g1 g2 r (putS (putS L (g1 x)) (g2 x + 1))
    have h2 := putS_len (putS L (g1 x)) (g2 x + 1)
    have h3 := putS_len L (g1 x)
    unfold crL
    simp only [List.length_cons]
    omega
/-! ### The library's Compact at an ascending list -/
open Go.Lib in
theorem comp_inv {S : List Int} (so : S.Pairwise (fun a b => a ≤ b)) : ∀ m, m ≤ S.length → (compactUpTo S.toArray m).Pairwise (fun a b => a < b) ∧ (∀ y, y ∈ compactUpTo S.toArray m ↔ ∃ j, j < m ∧ S[j]? = some y)
  | 0, _ => by simp [compactUpTo]
  | m + 1, hm => by
    obtain ⟨h1, h2⟩ := comp_inv so m (by omega)
    obtain ⟨x, hx⟩ := getx (xs := S) (k := m) (by omega)
    have ex : S.toArray[m]! = x := by simp [hx]
    rw [compactUpTo_succ, ex]
    by_cases hk : keeps S.toArray m = true
    · rw [if_pos hk]
      refine ⟨?_, fun y => ?_⟩
      · rw [List.pairwise_append]
        refine ⟨h1, by simp, fun a ha b hb => ?_⟩
        simp at hb; subst hb
        obtain ⟨j, hj, ej⟩ := (h2 a).1 ha
        have hjm : a ≤ b := by
          obtain ⟨g1, rfl⟩ := List.getElem?_eq_some_iff.1 ej
          obtain ⟨g2, rfl⟩ := List.getElem?_eq_some_iff.1 hx
          exact List.pairwise_iff_getElem.1 so j m g1 g2 hj
        have hne : a ≠ b := by
          rintro rfl
          unfold keeps at hk
          simp only [decide_eq_true_eq] at hk
          rcases hk with hk | hk
          · omega
          · obtain ⟨q, hq⟩ := getx (xs := S) (k := m - 1) (by omega)
            have eq : S.toArray[m - 1]! = q := by simp [hq]
            rw [ex, eq] at hk
            apply hk
            have l1 : q ≤ a := by
              obtain ⟨g1, rfl⟩ := List.getElem?_eq_some_iff.1 hq
              obtain ⟨g2, rfl⟩ := List.getElem?_eq_some_iff.1 hx
              exact List.pairwise_iff_getElem.1 so (m-1) m g1 g2 (by omega)
            have l2 : a ≤ q := by
              rcases Nat.lt_or_ge j (m - 1) with hlt | hge
              · obtain ⟨g1, rfl⟩ := List.getElem?_eq_some_iff.1 ej
                obtain ⟨g2, rfl⟩ := List.getElem?_eq_some_iff.1 hq
                exact List.pairwise_iff_getElem.1 so j (m-1) g1 g2 hlt
              · have : j = m - 1 := by omega
                rw [this, hq] at ej; cases ej; exact Int.le_refl _
            omega
        omega
      · rw [List.mem_append, h2 y, List.mem_singleton]
        constructor
        · rintro (⟨j, hj, e⟩ | rfl)
          · exact ⟨j, by omega, e⟩
          · exact ⟨m, by omega, hx⟩
        · rintro ⟨j, hj, e⟩
          rcases Nat.lt_or_ge j m with hlt | hge
          · exact .inl ⟨j, hlt, e⟩
          · have : j = m := by omega
            rw [this, hx] at e; cases e; exact .inr rfl
    · rw [if_neg hk, List.append_nil]
      refine ⟨h1, fun y => ?_⟩
      rw [h2 y]
      constructor
      · rintro ⟨j, hj, e⟩
        exact ⟨j, by omega, e⟩
      · rintro ⟨j, hj, e⟩
        rcases Nat.lt_or_ge j m with hlt | hge
        · exact ⟨j, hlt, e⟩
        · have hj2 : j = m := by omega
          rw [hj2, hx] at e; cases e
          unfold keeps at hk
          simp only [decide_eq_true_eq, not_or, Decidable.not_not] at hk
          obtain ⟨q, hq⟩ := getx (xs := S) (k := m - 1) (by omega)
          have eq : S.toArray[m - 1]! = q := by simp [hq]
          rw [ex, eq] at hk
          exact ⟨m - 1, by omega, by rw [hq, hk.2]⟩
theorem comp_rise {S : List Int} (so : S.Pairwise (fun a b => a ≤ b)) : (Go.Lib.compact S).Pairwise (fun a b => a < b) ∧ ∀ y, y ∈ Go.Lib.compact S ↔ y ∈ S := by
  obtain ⟨h1, h2⟩ := comp_inv so S.length (Nat.le_refl _)
  refine ⟨h1, fun y => ?_⟩
  unfold Go.Lib.compact
  rw [h2 y, List.mem_iff_getElem?]
  constructor
  · rintro ⟨j, _, e⟩; exact ⟨j, e⟩
  · rintro ⟨j, e⟩; exact ⟨j, (List.getElem?_eq_some_iff.1 e).1, e⟩
open Go.Lib in
theorem comp_len (S : List Int) : (Go.Lib.compact S).length ≤ S.length := by
  have h : ∀ m, (compactUpTo S.toArray m).length ≤ m := by
    intro m
    induction m with
    | zero => simp [compactUpTo]
    | succ m ih =>
      rw [compactUpTo_succ, List.length_append]
      split <;> simp <;> omega
  exact h S.length
/-! ### Facts in their order -/
def shp (a p : Int) : List Fa := [⟨a, p, 1⟩, ⟨a, p, 2⟩, ⟨a, p, 3⟩]
def rowF (a : Int) (ps : List Int) : List Fa := ps.flatMap (shp a)
def allF (ps : List Int) (us : List Int) : List Fa := us.flatMap fun a => rowF a ps
def hitB (xs : List Ru) (k : Int) (f : Fa) : Bool := idxF (fun x => mtB x f) 0 xs == k
def fndS (us ps : List Int) (xs : List Ru) (k : Int) : Option Fa := (allF ps us).find? fun f => faB f && hitB xs k f
def fndI (us ps : List Int) (xs : List Ru) (k : Int) : Option Fa := (allF ps us).find? (hitB xs k)
theorem allF_filter (us ps : List Int) (ha : ∀ a ∈ us, 0 ≤ a) (hp : ∀ p ∈ ps, 0 ≤ p) : (allF ps us).filter faB = allF (ps.filter fun p => decide (p ≤ 1000000)) (us.filter fun a => decide (a ≤ 20000)) := by
  unfold allF
  rw [List.filter_flatMap]
  induction us with
  | nil => rfl
  | cons a r ih =>
    rw [List.flatMap_cons, ih (fun x hx => ha x (List.mem_cons_of_mem _ hx))]
    have h0 := ha a (List.mem_cons_self)
    have hrow : (rowF a ps).filter faB = if a ≤ 20000 then rowF a (ps.filter fun p => decide (p ≤ 1000000)) else [] := by
      clear ih ha
      unfold rowF
      rw [List.filter_flatMap]
      induction ps with
      | nil => simp
      | cons p s ihp =>
        have h1 := hp p (List.mem_cons_self)
        rw [List.flatMap_cons, ihp (fun x hx => hp x (List.mem_cons_of_mem _ hx))]
        have hs : (shp a p).filter faB = if a ≤ 20000 ∧ p ≤ 1000000 then shp a p else [] := by
          by_cases c1 : a ≤ 20000 <;> by_cases c2 : p ≤ 1000000 <;> simp [shp, faB, inB, c1, c2, h0, h1, List.filter_cons]
        rw [hs]
        by_cases c1 : a ≤ 20000 <;> by_cases c2 : p ≤ 1000000 <;> simp [c1, c2, List.filter_cons]
    rw [hrow]
    by_cases c1 : a ≤ 20000
    · simp [c1, List.filter_cons]
    · simp [c1, List.filter_cons]
theorem find_and {α : Type} (p q : α → Bool) : ∀ L : List α, (L.find? fun x => p x && q x) = (L.filter p).find? q
  | [] => rfl
  | x :: r => by
    rw [List.find?_cons, List.filter_cons, find_and p q r]
    cases hp : p x <;> cases hq : q x <;> simp [hq]
/-- What the program's corners are: rising, the ends that are not too great. -/
def CorI (g1 g2 : Ru → Int) (most : Int) (xs : List Ru) (L : List Int) : Prop :=
  L.Pairwise (fun a b => a < b) ∧ L.length ≤ 1 + 2 * xs.length ∧ ∀ n, n ∈ L ↔ (n = 0 ∨ ∃ x ∈ xs, n = g1 x ∨ n = g2 x + 1) ∧ n ≤ most
theorem CorI.eq {g1 g2 : Ru → Int} {most : Int} {xs : List Ru} {L : List Int} (h : CorI g1 g2 most xs L) : L = (crL g1 g2 [0] xs).filter fun n => decide (n ≤ most) := by
  refine rise_eq h.1 ((crL_rise g1 g2 xs [0] (by simp)).filter _) fun n => ?_
  rw [h.2.2 n, List.mem_filter, crL_mem]
  simp
theorem crL_nn {g1 g2 : Ru → Int} {xs : List Ru} (h1 : ∀ x ∈ xs, 0 ≤ g1 x ∧ 0 ≤ g2 x) : ∀ n ∈ crL g1 g2 [0] xs, 0 ≤ n := by
  intro n hn
  rcases (crL_mem _ _ _ _ _).1 hn with h | ⟨x, hx, h⟩
  · simp at h; omega
  · have := h1 x hx; omega
theorem ruL_nn {xs : List Ru} (h : ruL xs = true) : ∀ x ∈ xs, (0 ≤ x.fa ∧ 0 ≤ x.ta) ∧ (0 ≤ x.fp ∧ 0 ≤ x.tp) := by
  intro x hx
  unfold ruL at h
  simp only [Bool.and_eq_true, List.all_eq_true] at h
  have := h.2 x hx
  unfold ruB at this
  simp only [Bool.and_eq_true, inB_true] at this
  omega
theorem ruL_len {xs : List Ru} (h : ruL xs = true) : xs.length ≤ 12 := by
  unfold ruL at h
  simp only [Bool.and_eq_true, decide_eq_true_eq] at h
  exact h.1
/-- The facts that are found, in the reference. -/
def fndR (xs : List Ru) (k : Int) : Option Fa := fndS (crL (·.fa) (·.ta) [0] xs) (crL (·.fp) (·.tp) [0] xs) xs k
theorem fnd_same {xs : List Ru} {LA LP : List Int} (k : Int) (h : ruL xs = true) (ha : CorI (·.fa) (·.ta) 20000 xs LA) (hp : CorI (·.fp) (·.tp) 1000000 xs LP) : fndI LA LP xs k = fndR xs k := by
  unfold fndI fndR fndS
  rw [find_and, allF_filter _ _ (crL_nn fun x hx => (ruL_nn h x hx).1) (crL_nn fun x hx => (ruL_nn h x hx).2), ← ha.eq, ← hp.eq]
def hitK (xs : List Ru) (k : Int) : Option Fa → Fa × Bool
  | some f => (f, true)
  | none => (⟨0, 0, 0⟩, false)
end Go.Proofs.Ytbjanedofdcgdaa
