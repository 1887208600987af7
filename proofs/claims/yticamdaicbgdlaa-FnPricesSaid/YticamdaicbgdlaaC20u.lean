/- Memory of a list of lists of numbers: the outer row, the rows in it, all in blocks of their own. The laws' helpers over such lists. -/
import Derived.Test.YticamdaicbgdlaaCInt
import Derived.Test.YticamdaicbgdlaaC20k
namespace Go.Proofs.Yticamdaicbgdlaa
open Go.RowKit
set_option linter.unusedVariables false
structure LR (w : World) (lo hi : Nat) (v : Value) (hs : List Value) (Ls : List (List Int)) : Prop where
  o : w.ownsRow lo 26 1 v Ls.length hs
  i : ∀ (i : Nat) (L : List Int), Ls[i]? = some L → ∃ A c, hs[i]? = some (.slice A L.length c) ∧ w.ownsRow lo 2 1 (.slice A L.length c) L.length (L.flatMap encI)
  n : ∀ u ∈ hs, u.ownBlock = none ∨ u.ownBlock ≠ v.ownBlock
  d : hs.Pairwise (fun a b => a.ownBlock = none ∨ a.ownBlock ≠ b.ownBlock)
  bv : ∀ k, v.ownBlock = some k → k < hi
  bh : ∀ u ∈ hs, ∀ k, u.ownBlock = some k → lo ≤ k ∧ k < hi
theorem own_keep {w w' : World} {lo n size : Nat} {e : TypeId} {v : Value} {ys : List Value} (h : w.ownsRow lo e size v n ys) (hk : ∀ k, v.ownBlock = some k → w'.heap[k]? = w.heap[k]?) : w'.ownsRow lo e size v n ys := by
  refine ⟨h.1, ?_⟩
  rcases h.2 with hn | ⟨g, cap, cur, rfl, hb, hgg, rest⟩
  · exact .inl hn
  · exact .inr ⟨g, cap, cur, rfl, hb, by rw [hk g rfl]; exact hgg, rest⟩
theorem LR.nil (w : World) (lo hi : Nat) : LR w lo hi (.slice none 0 0) [] [] :=
  ⟨World.ownsRow_nil _ _ _ _, fun i L h => by simp at h, fun u h => by simp at h, by simp, fun k h => by simp [Value.ownBlock] at h, fun u h => by simp at h⟩
theorem LR.lit {w : World} {lo g : Nat} (hg : g = w.heap.size) (hl : lo ≤ g) : LR (w.alloc (.cells #[] 26)) lo (w.alloc (.cells #[] 26)).heap.size (.slice (some ⟨g, 0, none⟩) 0 0) [] [] :=
  ⟨own_lit1 w _ 1 hg hl, fun i L h => by simp at h, fun u h => by simp at h, by simp, fun k h => by simp [Value.ownBlock] at h; subst h; simp; omega, fun u h => by simp at h⟩
theorem LR.keep {w w' : World} {lo hi : Nat} {v : Value} {hs : List Value} {Ls : List (List Int)} (h : LR w lo hi v hs Ls) (K : ∀ k, lo ≤ k → k < hi → w'.heap[k]? = w.heap[k]?) : LR w' lo hi v hs Ls :=
  ⟨own_keep h.o (fun k hk => K k (h.o.lt k hk).1 (h.bv k hk)), fun i L hL => by
    obtain ⟨A, c, h1, h2⟩ := h.i i L hL
    exact ⟨A, c, h1, own_keep h2 (fun k hk => K k (h2.lt k hk).1 (h.bh _ (List.mem_of_getElem? h1) k hk).2)⟩, h.n, h.d, h.bv, h.bh⟩
theorem LR.below {w w' : World} {lo hi : Nat} {v : Value} {hs : List Value} {Ls : List (List Int)} (h : LR w lo hi v hs Ls) (hb : Below w.heap.size w w') (hh : hi ≤ w.heap.size) : LR w' lo hi v hs Ls :=
  h.keep (fun k _ hk => hb.block k (by omega))
theorem LR.grow {w w' : World} {lo hi : Nat} {r : Option Nat} {v : Value} {hs : List Value} {Ls : List (List Int)} (h : LR w lo hi v hs Ls) (g : w.grownBy w' r) (hh : hi ≤ w.heap.size) (hr : ∀ k, r = some k → k < lo ∨ hi ≤ k) : LR w' lo hi v hs Ls :=
  h.keep (fun k h1 h2 => g.block k (by omega) (fun e => by have := hr k e.symm; omega))
theorem LR.wide {w : World} {lo hi hi' : Nat} {v : Value} {hs : List Value} {Ls : List (List Int)} (h : LR w lo hi v hs Ls) (hh : hi ≤ hi') : LR w lo hi' v hs Ls :=
  ⟨h.o, h.i, h.n, h.d, fun k hk => Nat.lt_of_lt_of_le (h.bv k hk) hh, fun u hu k hk => ⟨(h.bh u hu k hk).1, Nat.lt_of_lt_of_le (h.bh u hu k hk).2 hh⟩⟩
theorem LR.lower {w : World} {lo lo' hi : Nat} {v : Value} {hs : List Value} {Ls : List (List Int)} (h : LR w lo hi v hs Ls) (hh : lo' ≤ lo) : LR w lo' hi v hs Ls :=
  ⟨own_lo h.o hh, fun i L hL => by
    obtain ⟨A, c, h1, h2⟩ := h.i i L hL
    exact ⟨A, c, h1, own_lo h2 hh⟩, h.n, h.d, h.bv, fun u hu k hk => ⟨Nat.le_trans hh (h.bh u hu k hk).1, (h.bh u hu k hk).2⟩⟩
/-- All blocks but those from lo to hi stay. -/
structure Chg (lo hi : Nat) (w w' : World) : Prop where
  os : w'.os = w.os
  tape : w'.tape = w.tape
  output : w'.output = w.output
  size : w.heap.size ≤ w'.heap.size
  block : ∀ k, k < w.heap.size → (k < lo ∨ hi ≤ k) → w'.heap[k]? = w.heap[k]?
theorem Chg.refl (lo hi : Nat) (w : World) : Chg lo hi w w := ⟨rfl, rfl, rfl, Nat.le_refl _, fun _ _ _ => rfl⟩
theorem Chg.grow {lo hi : Nat} {w w1 w2 : World} {r : Option Nat} (c : Chg lo hi w w1) (g : w1.grownBy w2 r) (hr : ∀ k, r = some k → lo ≤ k ∧ k < hi) : Chg lo hi w w2 :=
  ⟨g.os.trans c.os, g.tape.trans c.tape, g.output.trans c.output, Nat.le_trans c.size g.size, fun k h1 h2 => (g.block k (Nat.lt_of_lt_of_le h1 c.size) (fun e => by have := hr k e.symm; omega)).trans (c.block k h1 h2)⟩
theorem Chg.under {lo hi B : Nat} {a w w' : World} (c : Chg lo hi w w') (hb : Below B a w) (hB : B ≤ w.heap.size) (hl : B ≤ lo) : Below B a w' :=
  ⟨c.os.trans hb.os, c.tape.trans hb.tape, c.output.trans hb.output, Nat.le_trans hb.size c.size, fun k hk => (c.block k (by omega) (by omega)).trans (hb.block k hk)⟩
theorem LR.chg {w w' : World} {lo hi lo' hi' : Nat} {v : Value} {hs : List Value} {Ls : List (List Int)} (h : LR w lo hi v hs Ls) (c : Chg lo' hi' w w') (hh : hi ≤ w.heap.size) (hr : hi ≤ lo' ∨ hi' ≤ lo) : LR w' lo hi v hs Ls :=
  h.keep (fun k h1 h2 => c.block k (by omega) (by omega))
theorem own_chg {w w' : World} {lo n size lo' hi' : Nat} {e : TypeId} {v : Value} {ys : List Value} (h : w.ownsRow lo e size v n ys) (c : Chg lo' hi' w w') (hr : ∀ k, v.ownBlock = some k → k < lo' ∨ hi' ≤ k) : w'.ownsRow lo e size v n ys :=
  own_keep h (fun k hk => c.block k (h.lt k hk).2 (hr k hk))
theorem none_ne {a b : Option Nat} (h : a = none ∨ a ≠ b) : b = none ∨ b ≠ a := by
  rcases h with rfl | h
  · cases b
    · left; rfl
    · right; simp
  · exact .inr (Ne.symm h)
/-- One of the rows is told anew. -/
theorem LR.set {w w' : World} {lo hi i c : Nat} {A : Option Addr} {v : Value} {hs : List Value} {Ls : List (List Int)} {L L' : List Int} (h : LR w lo hi v hs Ls) (hA : hs[i]? = some (.slice A L.length c)) (hl : L'.length = L.length) (hL : Ls[i]? = some L)
    (g : w.grownBy w' (Value.slice A L.length c).ownBlock) (o' : w'.ownsRow lo 2 1 (.slice A L.length c) L.length (L'.flatMap encI)) : LR w' lo hi v hs (Ls.set i L') := by
  refine ⟨?_, fun j M hM => ?_, h.n, h.d, h.bv, h.bh⟩
  · rw [List.length_set]
    exact h.o.kept g (none_ne (h.n _ (List.mem_of_getElem? hA)))
  · have hi := (List.getElem?_eq_some_iff.1 hL).1
    by_cases e : i = j
    · subst e
      rw [List.getElem?_set_self hi] at hM
      obtain rfl : L' = M := by simpa using hM
      exact ⟨A, c, by rw [hl]; exact hA, by rw [hl]; exact o'⟩
    · rw [List.getElem?_set_ne e] at hM
      obtain ⟨B, d, h1, h2⟩ := h.i j M hM
      refine ⟨B, d, h1, h2.kept g ?_⟩
      obtain ⟨i1, i2⟩ := List.getElem?_eq_some_iff.1 hA
      obtain ⟨j1, j2⟩ := List.getElem?_eq_some_iff.1 h1
      have P := List.pairwise_iff_getElem.1 h.d
      rcases Nat.lt_or_gt_of_ne e with hlt | hlt
      · have := P i j i1 j1 hlt
        rw [i2, j2] at this
        exact none_ne this
      · have := P j i j1 i1 hlt
        rwa [i2, j2] at this
/-- One more row, new. -/
theorem LR.push {w w2 : World} {lo hi c5 : Nat} {v v2 : Value} {hs : List Value} {Ls : List (List Int)} {A5 : Option Addr} {g : List Int} {ob : Obj} (h : LR w lo hi v hs Ls) (hlo : lo ≤ hi) (hhi : hi ≤ w.heap.size)
    (own5 : w.ownsRow hi 2 1 (.slice A5 g.length c5) g.length (g.flatMap encI))
    (own2 : w2.ownsRow lo 26 1 v2 (Ls.length + 1) (hs ++ [.slice A5 g.length c5])) (hg : (w.alloc ob).grownBy w2 v.ownBlock) (hat : v2.ownBlock = v.ownBlock ∨ v2.ownBlock = some (w.alloc ob).heap.size) :
    LR w2 lo w2.heap.size v2 (hs ++ [.slice A5 g.length c5]) (Ls ++ [g]) := by
  have hz2 := hg.size
  have hz1 : (w.alloc ob).heap.size = w.heap.size + 1 := by simp
  have hl : hs.length = Ls.length := by have := h.o.1; omega
  have b5 : ∀ k, (Value.slice A5 g.length c5).ownBlock = some k → hi ≤ k ∧ k < w.heap.size := fun k hk => own5.lt k hk
  have nv : ∀ (u : Value), (∀ k, u.ownBlock = some k → k < w.heap.size) → (u.ownBlock = none ∨ u.ownBlock ≠ v.ownBlock) → (u.ownBlock = none ∨ u.ownBlock ≠ v2.ownBlock) := fun u hu hn => by
    rcases hat with e | e
    · rw [e]; exact hn
    · right; intro e2; have := hu _ (e2.trans e); omega
  have n5 : (Value.slice A5 g.length c5).ownBlock = none ∨ (Value.slice A5 g.length c5).ownBlock ≠ v.ownBlock := by
    cases hk : (Value.slice A5 g.length c5).ownBlock with
    | none => left; rfl
    | some k => right; intro e; have := b5 k hk; have := h.bv k e.symm; omega
  have kp : ∀ (u : Value) (L : List Int), w.ownsRow lo 2 1 u L.length (L.flatMap encI) → (u.ownBlock = none ∨ u.ownBlock ≠ v.ownBlock) → w2.ownsRow lo 2 1 u L.length (L.flatMap encI) := fun u L o hn => (o.alloc ob).kept hg hn
  refine ⟨?_, fun j M hM => ?_, fun u hu => ?_, ?_, fun k hk => (own2.lt k hk).2, fun u hu k hk => ?_⟩
  · rw [List.length_append]; exact own2
  · rcases Nat.lt_or_ge j Ls.length with hlt | hge
    · rw [List.getElem?_append_left hlt] at hM
      obtain ⟨A, c, h1, h2⟩ := h.i j M hM
      exact ⟨A, c, by rw [List.getElem?_append_left (by omega)]; exact h1, kp _ _ h2 (h.n _ (List.mem_of_getElem? h1))⟩
    · rw [List.getElem?_append_right hge] at hM
      have hi0 : j - Ls.length = 0 := by
        have := (List.getElem?_eq_some_iff.1 hM).1
        simp at this; omega
      rw [hi0] at hM
      simp at hM; subst hM
      exact ⟨A5, c5, by rw [List.getElem?_append_right (by omega), hl, hi0]; rfl, kp _ _ (own_lo own5 hlo) n5⟩
  · rcases List.mem_append.1 hu with hu | hu
    · exact nv u (fun k hk => by have := h.bh u hu k hk; omega) (h.n u hu)
    · simp only [List.mem_singleton] at hu
      subst hu
      exact nv _ (fun k hk => (b5 k hk).2) n5
  · rw [List.pairwise_append]
    refine ⟨h.d, by simp, fun a ha b hb => ?_⟩
    simp only [List.mem_singleton] at hb
    subst hb
    cases hk : a.ownBlock with
    | none => left; rfl
    | some k => right; intro e; have := b5 k e.symm; have := h.bh a ha k hk; omega
  · rcases List.mem_append.1 hu with hu | hu
    · have := h.bh u hu k hk; omega
    · simp only [List.mem_singleton] at hu
      subst hu
      have := b5 k hk; omega
/-! ### The marks that the laws write -/
def totL (Ls : List (List Int)) : Nat := (Ls.map List.length).sum
theorem totL_succ {Ls : List (List Int)} {j : Nat} {L : List Int} (h : Ls[j]? = some L) : totL (Ls.take (j + 1)) = totL (Ls.take j) + L.length := by
  unfold totL
  rw [List.take_add_one, h]
  simp
theorem totL_le {m : Nat} : ∀ (Ls : List (List Int)), (∀ L ∈ Ls, L.length ≤ m) → totL Ls ≤ Ls.length * m
  | [], _ => by simp [totL]
  | L :: r, h => by
    have h1 := totL_le r (fun M hM => h M (List.mem_cons_of_mem _ hM))
    have h2 := h L List.mem_cons_self
    unfold totL at *
    simp only [List.map_cons, List.sum_cons, List.length_cons, Nat.succ_mul]
    omega
theorem totL_take {m : Nat} {Ls : List (List Int)} (h : ∀ L ∈ Ls, L.length ≤ m) (j : Nat) : totL (Ls.take j) ≤ Ls.length * m :=
  Nat.le_trans (totL_le _ (fun L hL => h L (List.mem_of_mem_take hL))) (Nat.mul_le_mul_right _ (by rw [List.length_take]; omega))
def Ms (k : Int) (Ls : List (List Int)) (j : Nat) : List (List Int) := Ls.mapIdx fun i L => if i < j then marks (k + totL (Ls.take i)) L.length else L
theorem Ms_len (k : Int) (Ls : List (List Int)) (j : Nat) : (Ms k Ls j).length = Ls.length := by simp [Ms]
theorem Ms_zero (k : Int) (Ls : List (List Int)) : Ms k Ls 0 = Ls := by
  apply List.ext_getElem
  · simp [Ms]
  · intro i h1 h2; simp [Ms]
theorem Ms_at {Ls : List (List Int)} {i : Nat} {L : List Int} (k : Int) (j : Nat) (h : Ls[i]? = some L) : (Ms k Ls j)[i]? = some (if i < j then marks (k + totL (Ls.take i)) L.length else L) := by
  simp [Ms, List.getElem?_mapIdx, h]
theorem Ms_succ {Ls : List (List Int)} {j : Nat} {L : List Int} (k : Int) (h : Ls[j]? = some L) : (Ms k Ls j).set j (marks (k + totL (Ls.take j)) L.length) = Ms k Ls (j + 1) := by
  apply List.ext_getElem?
  intro i
  rw [List.getElem?_set]
  by_cases e : j = i
  · subst e
    rw [if_pos rfl, Ms_len, if_pos (List.getElem?_eq_some_iff.1 h).1, Ms_at k _ h, if_pos (by omega)]
  · rw [if_neg e]
    cases hi : Ls[i]? with
    | none => 
      have : Ls.length ≤ i := by simpa using hi
      rw [List.getElem?_eq_none (by rw [Ms_len]; exact this), List.getElem?_eq_none (by rw [Ms_len]; exact this)]
    | some M =>
      rw [Ms_at k _ hi, Ms_at k _ hi]
      by_cases hlt : i < j
      · rw [if_pos hlt, if_pos (by omega)]
      · rw [if_neg hlt, if_neg (by omega)]
theorem cell_add (g k : Nat) : (⟨g, 0, none⟩ : Addr).add k = ⟨g, k, none⟩ := by simp [Addr.add]; try (intro e; exact e.symm)
end Go.Proofs.Yticamdaicbgdlaa
