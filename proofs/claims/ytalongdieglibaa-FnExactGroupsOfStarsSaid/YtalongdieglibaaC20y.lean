/- Plain laws: what the reference notes while it goes through the lists. No program in sight. -/
import Derived.Test.YtalongdieglibaaC20w
import Derived.Test.YtalongdieglibaaCPut
namespace Go.Proofs.Ytalongdieglibaa
open Go.RowKit
set_option linter.unusedVariables false
structure Wn where
  f : List Int
  s : List Int
  m : Int
def susW (s : List Int) (g : List Int) : List Int := g.foldl putS s
def stW (ok : List Int → Bool) (st : Wn) (g : List Int) : Wn := if ok g = true then ⟨if st.m = 0 then g else st.f, susW st.s g, st.m + 1⟩ else st
def runW (ok : List Int → Bool) (st : Wn) (L : List (List Int)) : Wn := L.foldl (stW ok) st
theorem runW_nil (ok : List Int → Bool) (st : Wn) : runW ok st [] = st := rfl
theorem runW_one (ok : List Int → Bool) (st : Wn) (g : List Int) : runW ok st [g] = stW ok st g := rfl
theorem runW_app (ok : List Int → Bool) (st : Wn) (L M : List (List Int)) : runW ok st (L ++ M) = runW ok (runW ok st L) M := by
  unfold runW; rw [List.foldl_append]
theorem runW_none {ok : List Int → Bool} : ∀ {L : List (List Int)} {st : Wn}, L.filter ok = [] → runW ok st L = st
  | [], st, _ => rfl
  | g :: r, st, h => by
    have hg : ok g = false := by
      cases hc : ok g with
      | false => rfl
      | true => rw [List.filter_cons, if_pos hc] at h; cases h
    have hr : r.filter ok = [] := by rw [List.filter_cons, hg] at h; simpa using h
    show runW ok (stW ok st g) r = st
    have e : stW ok st g = st := by simp [stW, hg]
    rw [e]; exact runW_none hr
theorem runW_m {ok : List Int → Bool} : ∀ (L : List (List Int)) (st : Wn), (runW ok st L).m = st.m + ((L.filter ok).length : Int)
  | [], st => by simp [runW]
  | g :: r, st => by
    show (runW ok (stW ok st g) r).m = _
    rw [runW_m r]
    cases hc : ok g with
    | true => simp [stW, hc, List.filter_cons]; omega
    | false => simp [stW, hc, List.filter_cons]
theorem runW_first {ok : List Int → Bool} : ∀ (L : List (List Int)) (st : Wn), 0 ≤ st.m → (runW ok st L).f = if st.m = 0 then (L.filter ok).head?.getD st.f else st.f
  | [], st, _ => by simp [runW]
  | g :: r, st, h => by
    show (runW ok (stW ok st g) r).f = _
    cases hc : ok g with
    | true =>
      have e : stW ok st g = ⟨if st.m = 0 then g else st.f, susW st.s g, st.m + 1⟩ := by simp [stW, hc]
      rw [runW_first r _ (by rw [e]; simp only; omega), e]
      simp only [List.filter_cons, hc, if_true, List.head?_cons, Option.getD_some]
      rw [if_neg (show ¬ st.m + 1 = 0 by omega)]
    | false =>
      have e : stW ok st g = st := by simp [stW, hc]
      rw [e, runW_first r _ h]
      simp [List.filter_cons, hc]
theorem susW_rise : ∀ {g s : List Int}, s.Pairwise (fun a b => a < b) → (susW s g).Pairwise (fun a b => a < b)
  | [], s, h => h
  | x :: r, s, h => susW_rise (g := r) (putS_rise h)
theorem susW_mem : ∀ (g s : List Int) (n : Int), n ∈ susW s g ↔ n ∈ s ∨ n ∈ g
  | [], s, n => by simp [susW]
  | x :: r, s, n => by
    show n ∈ susW (putS s x) r ↔ _
    rw [susW_mem r, putS_mem, List.mem_cons]
    constructor
    · rintro ((h | h) | h)
      · exact .inr (.inl h)
      · exact .inl h
      · exact .inr (.inr h)
    · rintro (h | h | h)
      · exact .inl (.inr h)
      · exact .inl (.inl h)
      · exact .inr h
theorem runW_s {ok : List Int → Bool} : ∀ (L : List (List Int)) (st : Wn), st.s.Pairwise (fun a b => a < b) → (runW ok st L).s.Pairwise (fun a b => a < b) ∧ ∀ n, n ∈ (runW ok st L).s ↔ n ∈ st.s ∨ ∃ g ∈ L.filter ok, n ∈ g
  | [], st, h => ⟨h, fun n => by simp [runW]⟩
  | g :: r, st, h => by
    show (runW ok (stW ok st g) r).s.Pairwise _ ∧ ∀ n, n ∈ (runW ok (stW ok st g) r).s ↔ _
    cases hc : ok g with
    | true =>
      have e : stW ok st g = ⟨if st.m = 0 then g else st.f, susW st.s g, st.m + 1⟩ := by simp [stW, hc]
      obtain ⟨h1, h2⟩ := runW_s r (stW ok st g) (by rw [e]; exact susW_rise h)
      refine ⟨h1, fun n => ?_⟩
      rw [h2, e]
      simp only [susW_mem, List.filter_cons, hc, if_true, List.mem_cons, exists_eq_or_imp]
      exact or_assoc
    | false =>
      have e : stW ok st g = st := by simp [stW, hc]
      rw [e]
      obtain ⟨h1, h2⟩ := runW_s r st h
      refine ⟨h1, fun n => ?_⟩
      rw [h2]
      simp [List.filter_cons, hc]
/-- Rising numbers below m that are in one of the lists. -/
def inW (L : List (List Int)) (i : Nat) : Bool := L.any fun g => g.contains (i : Int)
theorem idxW_rise (f : Nat → Bool) : ∀ m : Nat, (idxW f m).Pairwise (fun a b => a < b) ∧ ∀ n, n ∈ idxW f m ↔ ∃ i : Nat, i < m ∧ f i = true ∧ n = (i : Int)
  | 0 => ⟨by simp [idxW], fun n => by simp [idxW]⟩
  | m + 1 => by
    obtain ⟨h1, h2⟩ := idxW_rise f m
    cases hc : f m with
    | true =>
      rw [idxW_yes hc]
      refine ⟨?_, fun n => ?_⟩
      · rw [List.pairwise_append]
        refine ⟨h1, by simp, fun a ha b hb => ?_⟩
        obtain ⟨i, h3, _, rfl⟩ := (h2 a).1 ha
        simp at hb; subst hb; omega
      · rw [List.mem_append, h2, List.mem_singleton]
        constructor
        · rintro (⟨i, a, b, c⟩ | rfl)
          · exact ⟨i, by omega, b, c⟩
          · exact ⟨m, by omega, hc, rfl⟩
        · rintro ⟨i, a, b, c⟩
          rcases Nat.lt_or_ge i m with hlt | hge
          · exact .inl ⟨i, hlt, b, c⟩
          · have : i = m := by omega
            subst this; exact .inr c
    | false =>
      rw [idxW_no hc]
      refine ⟨h1, fun n => ?_⟩
      rw [h2]
      constructor
      · rintro ⟨i, a, b, c⟩; exact ⟨i, by omega, b, c⟩
      · rintro ⟨i, a, b, c⟩
        rcases Nat.lt_or_ge i m with hlt | hge
        · exact ⟨i, hlt, b, c⟩
        · have : i = m := by omega
          subst this; rw [hc] at b; cases b
/-- What the reference ends with, at the least number of links. -/
theorem runW_end {n : Nat} {xs : List Lk} {k : Nat} (hk : k ≤ xs.length) :
    (runW (okW n xs) ⟨[], [], 0⟩ (combW xs.length k [] 0)).s = idxW (inW (outW n xs k)) xs.length := by
  obtain ⟨h1, h2⟩ := runW_s (ok := okW n xs) (combW xs.length k [] 0) ⟨[], [], 0⟩ (by simp)
  obtain ⟨h3, h4⟩ := idxW_rise (inW (outW n xs k)) xs.length
  refine rise_eq h1 h3 fun v => ?_
  rw [h2, h4]
  simp only [List.not_mem_nil, false_or]
  constructor
  · rintro ⟨g, hg, hv⟩
    have ha := (combW_asc k [] 0 ⟨by simp, by simp⟩ (Nat.zero_le _) g (List.mem_filter.1 hg).1).1
    have hb := ha.2 v hv
    refine ⟨v.toNat, by omega, ?_, by omega⟩
    unfold inW
    rw [List.any_eq_true]
    exact ⟨g, hg, List.contains_iff_mem.2 (by rw [show ((v.toNat : Nat) : Int) = v by omega]; exact hv)⟩
  · rintro ⟨i, a, b, rfl⟩
    unfold inW at b
    rw [List.any_eq_true] at b
    obtain ⟨g, hg, hv⟩ := b
    exact ⟨g, hg, List.contains_iff_mem.1 hv⟩
end Go.Proofs.Ytalongdieglibaa
