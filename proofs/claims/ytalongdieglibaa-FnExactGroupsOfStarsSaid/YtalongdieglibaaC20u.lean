/- Memory of a list of lists of numbers: the outer row, the rows in it, all in blocks of their own. The laws' helpers over such lists. -/
import Derived.Test.YtalongdieglibaaCInt
import Derived.Test.YtalongdieglibaaC20k
namespace Go.Proofs.Ytalongdieglibaa
open Go.RowKit
set_option linter.unusedVariables false
structure LR (w : World) (lo hi : Nat) (v : Value) (hs : List Value) (Ls : List (List Int)) : Prop where
  o : w.ownsRow lo 36 1 v Ls.length hs
  i : ∀ (i : Nat) (L : List Int), Ls[i]? = some L → ∃ A c, hs[i]? = some (.slice A L.length c) ∧ w.ownsRow lo 2 1 (.slice A L.length c) L.length (L.flatMap encI)
  n : ∀ u ∈ hs, u.ownBlock = none ∨ u.ownBlock ≠ v.ownBlock
  d : hs.Pairwise (fun a b => a.ownBlock = none ∨ a.ownBlock ≠ b.ownBlock)
  bv : ∀ k, v.ownBlock = some k → k < hi
  bh : ∀ u ∈ hs, ∀ k, u.ownBlock = some k → lo ≤ k ∧ k < hi
theorem own_keep {w w' : World} {lo n size : Nat} {e : TypeId} {v : Value} {ys : List Value} (h : w.ownsRow lo e size v n ys) (hk : ∀ k, v.ownBlock = some k → w'.heap[k]? = w.heap[k]?) : w'.ownsRow lo e size v n ys := by
  refine ⟨h.1, ?_⟩
  rcases h.2 with hn | ⟨g, cap, cur, rfl, hb, hgg, rest⟩
  · exact .inl hn
  · exact .inr ⟨g, cap, cur, rfl, hb, by rw [hk g rfl]; exact hgg, rest⟩
theorem LR.nil (w : World) (lo hi : Nat) : LR w lo hi (.slice none 0 0) [] [] :=
  ⟨World.ownsRow_nil _ _ _ _, fun i L h => by simp at h, fun u h => by simp at h, by simp, fun k h => by simp [Value.ownBlock] at h, fun u h => by simp at h⟩
theorem LR.lit {w : World} {lo g : Nat} (hg : g = w.heap.size) (hl : lo ≤ g) : LR (w.alloc (.cells #[] 36)) lo (w.alloc (.cells #[] 36)).heap.size (.slice (some ⟨g, 0, none⟩) 0 0) [] [] :=
  ⟨own_lit1 w _ 1 hg hl, fun i L h => by simp at h, fun u h => by simp at h, by simp, fun k h => by simp [Value.ownBlock] at h; subst h; simp; omega, fun u h => by simp at h⟩
theorem LR.keep {w w' : World} {lo hi : Nat} {v : Value} {hs : List Value} {Ls : List (List Int)} (h : LR w lo hi v hs Ls) (K : ∀ k, lo ≤ k → k < hi → w'.heap[k]? = w.heap[k]?) : LR w' lo hi v hs Ls :=
  ⟨own_keep h.o (fun k hk => K k (h.o.lt k hk).1 (h.bv k hk)), fun i L hL => by
    obtain ⟨A, c, h1, h2⟩ := h.i i L hL
    exact ⟨A, c, h1, own_keep h2 (fun k hk => K k (h2.lt k hk).1 (h.bh _ (List.mem_of_getElem? h1) k hk).2)⟩, h.n, h.d, h.bv, h.bh⟩
theorem LR.below {w w' : World} {lo hi : Nat} {v : Value} {hs : List Value} {Ls : List (List Int)} (h : LR w lo hi v hs Ls) (hb : Below w.heap.size w w') (hh : hi ≤ w.heap.size) : LR w' lo hi v hs Ls :=
  h.keep (fun k _ hk => hb.block k (by omega))
theorem LR.grow {w w' : World} {lo hi : Nat} {r : Option Nat} {v : Value} {hs : List Value} {Ls : List (List Int)} (h : LR w lo hi v hs Ls) (g : w.grownBy w' r) (hh : hi ≤ w.heap.size) (hr : ∀ k, r = some k → k < lo ∨ hi ≤ k) : LR w' lo hi v hs Ls :=
  h.keep (fun k h1 h2 => g.block k (by omega) (fun e => by have := hr k e.symm; omega))
theorem LR.wide {w : World} {lo hi hi' : Nat} {v : Value} {hs : List Value} {Ls : List (List Int)} (h : LR w lo hi v hs Ls) (hh : hi ≤ hi') : LR w lo hi' v hs Ls :=
  ⟨h.o, h.i, h.n, h.d, fun k hk => Nat.lt_of_lt_of_le (h.bv k hk) hh, fun u hu k hk => ⟨(h.bh u hu k hk).1, Nat.lt_of_lt_of_le (h.bh u hu k hk).2 hh⟩⟩
theorem LR.lower {w : World} {lo lo' hi : Nat} {v : Value} {hs : List Value} {Ls : List (List Int)} (h : LR w lo hi v hs Ls) (hh : lo' ≤ lo) : LR w lo' hi v hs Ls :=
  ⟨own_lo h.o hh, fun i L hL => by
    obtain ⟨A, c, h1, h2⟩ := h.i i L hL
    exact ⟨A, c, h1, own_lo h2 hh⟩, h.n, h.d, h.bv, fun u hu k hk => ⟨Nat.le_trans hh (h.bh u hu k hk).1, (h.bh u hu k hk).2⟩⟩
/-- All blocks but those from lo to hi stay. -/
structure Chg (lo hi : Nat) (w w' : World) : Prop where
  os : w'.os = w.os
  tape : w'.tape = w.tape
  output : w'.output = w.output
  size : w.heap.size ≤ w'.heap.size
  block : ∀ k, k < w.heap.size → (k < lo ∨ hi ≤ k) → w'.heap[k]? = w.heap[k]?
theorem Chg.refl (lo hi : Nat) (w : World) : Chg lo hi w w := ⟨rfl, rfl, rfl, Nat.le_refl _, fun _ _ _ => rfl⟩
theorem Chg.grow {lo hi : Nat} {w w1 w2 : World} {r : Option Nat} (c : Chg lo hi w w1) (g : w1.grownBy w2 r) (hr : ∀ k, r = some k → lo ≤ k ∧ k < hi) : Chg lo hi w w2 :=
  ⟨g.os.trans c.os, g.tape.trans c.tape, g.output.trans c.output, Nat.le_trans c.size g.size, fun k h1 h2 => (g.block k (Nat.lt_of_lt_of_le h1 c.size) (fun e => by have := hr k e.symm; omega)).trans (c.block k h1 h2)⟩
theorem Chg.under {lo hi B : Nat} {a w w' : World} (c : Chg lo hi w w') (hb : Below B a w) (hB : B ≤ w.heap.size) (hl : B ≤ lo) : Below B a w' :=
  ⟨c.os.trans hb.os, c.tape.trans hb.tape, c.output.trans hb.output, Nat.le_trans hb.size c.size, fun k hk => (c.block k (by omega) (by omega)).trans (hb.block k hk)⟩
theorem LR.chg {w w' : World} {lo hi lo' hi' : Nat} {v : Value} {hs : List Value} {Ls : List (List Int)} (h : LR w lo hi v hs Ls) (c : Chg lo' hi' w w') (hh : hi ≤ w.heap.size) (hr : hi ≤ lo' ∨ hi' ≤ lo) : LR w' lo hi v hs Ls :=
  h.keep (fun k h1 h2 => c.block k (by omega) (by omega))
theorem own_chg {w w' : World} {lo n size lo' hi' : Nat} {e : TypeId} {v : Value} {ys : List Value} (h : w.ownsRow lo e size v n ys) (c : Chg lo' hi' w w') (hr : ∀ k, v.ownBlock = some k → k < lo' ∨ hi' ≤ k) : w'.ownsRow lo e size v n ys :=
  own_keep h (fun k hk => c.block k (h.lt k hk).2 (hr k hk))
theorem none_ne {a b : Option Nat} (h : a = none ∨ a ≠ b) : b = none ∨ b ≠ a := by
  rcases h with rfl | h
  · cases b
    · left; rfl
    · right; simp
  · exact .inr (Ne.symm h)
/-- One of the rows is told anew. -/
theorem LR.set {w w' : World} {lo hi i c : Nat} {A : Option Addr} {v : Value} {hs : List Value} {Ls : List (List Int)} {L L' : List Int} (h : LR w lo hi v hs Ls) (hA : hs[i]? = some (.slice A L.length c)) (hl : L'.length = L.length) (hL : Ls[i]? = some L)
    (g : w.grownBy w' (Value.slice A L.length c).ownBlock) (o' : w'.ownsRow lo 2 1 (.slice A L.length c) L.length (L'.flatMap encI)) : LR w' lo hi v hs (Ls.set i L') := by
  refine ⟨?_, fun j M hM => ?_, h.n, h.d, h.bv, h.bh⟩
  · rw [List.length_set]
    exact h.o.kept g (none_ne (h.n _ (List.mem_of_getElem? hA)))
  · have hi := (List.getElem?_eq_some_iff.1 hL).1
    by_cases e : i = j
    · subst e
      rw [List.getElem?_set_self hi] at hM
      obtain rfl : L' = M := by simpa using hM
      exact ⟨A, c, by rw [hl]; exact hA, by rw [hl]; exact o'⟩
    · rw [List.getElem?_set_ne e] at hM
      obtain ⟨B, d, h1, h2⟩ := h.i j M hM
      refine ⟨B, d, h1, h2.kept g ?_⟩
      obtain ⟨i1, i2⟩ := List.getElem?_eq_some_iff.1 hA
      obtain ⟨j1, j2⟩ := List.getElem?_eq_some_iff.1 h1
      have P := List.pairwise_iff_getElem.1 h.d
      rcases Nat.lt_or_gt_of_ne e with hlt | hlt
      · have := P i j i1 j1 hlt
        rw [i2, j2] at this
        exact none_ne this
      · have := P j i j1 i1 hlt
        rwa [i2, j2] at this
/-- One more row, new. -/
theorem LR.push {w w2 : World} {lo hi c5 : Nat} {v v2 : Value} {hs : List Value} {Ls : List (List Int)} {A5 : Option Addr} {g : List Int} {ob : Obj} (h : LR w lo hi v hs Ls) (hlo : lo ≤ hi) (hhi : hi ≤ w.heap.size)
    (own5 : w.ownsRow hi 2 1 (.slice A5 g.length c5) g.length (g.flatMap encI))
    (own2 : w2.ownsRow lo 36 1 v2 (Ls.length + 1) (hs ++ [.slice A5 g.length c5])) (hg : (w.alloc ob).grownBy w2 v.ownBlock) (hat : v2.ownBlock = v.ownBlock ∨ v2.ownBlock = some (w.alloc ob).heap.size) :
    LR w2 lo w2.heap.size v2 (hs ++ [.slice A5 g.length c5]) (Ls ++ [g]) := by
  have hz2 := hg.size
  have hz1 : (w.alloc ob).heap.size = w.heap.size + 1 := by simp
  have hl : hs.length = Ls.length := by have := h.o.1; omega
  have b5 : ∀ k, (Value.slice A5 g.length c5).ownBlock = some k → hi ≤ k ∧ k < w.heap.size := fun k hk => own5.lt k hk
  have nv : ∀ (u : Value), (∀ k, u.ownBlock = some k → k < w.heap.size) → (u.ownBlock = none ∨ u.ownBlock ≠ v.ownBlock) → (u.ownBlock = none ∨ u.ownBlock ≠ v2.ownBlock) := fun u hu hn => by
    rcases hat with e | e
    · rw [e]; exact hn
    · right; intro e2; have := hu _ (e2.trans e); omega
  have n5 : (Value.slice A5 g.length c5).ownBlock = none ∨ (Value.slice A5 g.length c5).ownBlock ≠ v.ownBlock := by
    cases hk : (Value.slice A5 g.length c5).ownBlock with
    | none => left; rfl
    | some k => right; intro e; have := b5 k hk; have := h.bv k e.symm; omega
  have kp : ∀ (u : Value) (L : List Int), w.ownsRow lo 2 1 u L.length (L.flatMap encI) → (u.ownBlock = none ∨ u.ownBlock ≠ v.ownBlock) → w2.ownsRow lo 2 1 u L.length (L.flatMap encI) := fun u L o hn => (o.alloc ob).kept hg hn
  refine ⟨?_, fun j M hM => ?_, fun u hu => ?_, ?_, fun k hk => (own2.lt k hk).2, fun u hu k hk => ?_⟩
  · rw [List.length_append]; exact own2
  · rcases Nat.lt_or_ge j Ls.length with hlt | hge
    · rw [List.getElem?_append_left hlt] at hM
      obtain ⟨A, c, h1, h2⟩ := h.i j M hM
      exact ⟨A, c, by rw [List.getElem?_append_left (by omega)]; exact h1, kp _ _ h2 (h.n _ (List.mem_of_getElem? h1))⟩
    · rw [List.getElem?_append_right hge] at hM
      have hi0 : j - Ls.length = 0 := by
        have := (List.getElem?_eq_some_iff.1 hM).1
        simp at this; omega
      rw [hi0] at hM
      simp at hM; subst hM
      exact ⟨A5, c5, by rw [List.getElem?_append_right (by omega), hl, hi0]; rfl, kp _ _ (own_lo own5 hlo) n5⟩
  · rcases List.mem_append.1 hu with hu | hu
    · exact nv u (fun k hk => by have := h.bh u hu k hk; omega) (h.n u hu)
    · simp only [List.mem_singleton] at hu
      subst hu
      exact nv _ (fun k hk => (b5 k hk).2) n5
  · rw [List.pairwise_append]
    refine ⟨h.d, by simp, fun a ha b hb => ?_⟩
    simp only [List.mem_singleton] at hb
    subst hb
    cases hk : a.ownBlock with
    | none => left; rfl
    | some k => right; intro e; have := b5 k e.symm; have := h.bh a ha k hk; omega
  · rcases List.mem_append.1 hu with hu | hu
    · have := h.bh u hu k hk; omega
    · simp only [List.mem_singleton] at hu
      subst hu
      have := b5 k hk; omega
/-! ### The marks that the laws write -/
def totL (Ls : List (List Int)) : Nat := (Ls.map List.length).sum
theorem totL_succ {Ls : List (List Int)} {j : Nat} {L : List Int} (h : Ls[j]? = some L) : totL (Ls.take (j + 1)) = totL (Ls.take j) + L.length := by
  unfold totL
  rw [List.take_add_one, h]
  simp
theorem totL_le {m : Nat} : ∀ (Ls : List (List Int)), (∀ L ∈ Ls, L.length ≤ m) → totL Ls ≤ Ls.length * m
  | [], _ => by simp [totL]
  | L :: r, h => by
    have h1 := totL_le r (fun M hM => h M (List.mem_cons_of_mem _ hM))
    have h2 := h L List.mem_cons_self
    unfold totL at *
    simp only [List.map_cons, List.sum_cons, List.length_cons, Nat.succ_mul]
    omega
theorem totL_take {m : Nat} {Ls : List (List Int)} (h : ∀ L ∈ Ls, L.length ≤ m) (j : Nat) : totL (Ls.take j) ≤ Ls.length * m :=
  Nat.le_trans (totL_le _ (fun L hL => h L (List.mem_of_mem_take hL))) (Nat.mul_le_mul_right _ (by rw [List.length_take]; omega))
def Ms (k : Int) (Ls : List (List Int)) (j : Nat) : List (List Int) := Ls.mapIdx fun i L => if i < j then marks (k + totL (Ls.take i)) L.length else L
theorem Ms_len (k : Int) (Ls : List (List Int)) (j : Nat) : (Ms k Ls j).length = Ls.length := by simp [Ms]
theorem Ms_zero (k : Int) (Ls : List (List Int)) : Ms k Ls 0 = Ls := by
  apply List.ext_getElem
  · simp [Ms]
  · intro i h1 h2; simp [Ms]
theorem Ms_at {Ls : List (List Int)} {i : Nat} {L : List Int} (k : Int) (j : Nat) (h : Ls[i]? = some L) : (Ms k Ls j)[i]? = some (if i < j then marks (k + totL (Ls.take i)) L.length else L) := by
  simp [Ms, List.getElem?_mapIdx, h]
theorem Ms_succ {Ls : List (List Int)} {j : Nat} {L : List Int} (k : Int) (h : Ls[j]? = some L) : (Ms k Ls j).set j (marks (k + totL (Ls.take j)) L.length) = Ms k Ls (j + 1) := by
  apply List.ext_getElem?
  intro i
  rw [List.getElem?_set]
  by_cases e : j = i
  · subst e
    rw [if_pos rfl, Ms_len, if_pos (List.getElem?_eq_some_iff.1 h).1, Ms_at k _ h, if_pos (by omega)]
  · rw [if_neg e]
    cases hi : Ls[i]? with
    | none => 
      have : Ls.length ≤ i := by simpa using hi
      rw [List.getElem?_eq_none (by rw [Ms_len]; exact this), List.getElem?_eq_none (by rw [Ms_len]; exact this)]
    | some M =>
      rw [Ms_at k _ hi, Ms_at k _ hi]
      by_cases hlt : i < j
      · rw [if_pos hlt, if_pos (by omega)]
      · rw [if_neg hlt, if_neg (by omega)]
theorem cell_add (g k : Nat) : (⟨g, 0, none⟩ : Addr).add k = ⟨g, k, none⟩ := by simp [Addr.add]; try (intro e; exact e.symm)
set_option maxHeartbeats 1000000 in
theorem eqInt64SS_same (A A' : Option Addr) (c c' lo lo' hi hi' : Nat) (hs hs' : List Value) (Ls : List (List Int)) (w : World) (h : LR w lo hi (.slice A Ls.length c) hs Ls) (h' : LR w lo' hi' (.slice A' Ls.length c') hs' Ls) (z : hi ≤ w.heap.size) (z' : hi' ≤ w.heap.size) (hn : Ls.length ≤ 1000) (hL : ∀ L ∈ Ls, L.length ≤ 1000) :
    Calls Try.prog 14 #[.slice A Ls.length c, .slice A' Ls.length c'] w fun e w' => e = .returned (.bool true) ∧ Below w.heap.size w w' := by
  have hL := hid hL
  go_enter Try.func14, Try.ntmps14
  go_wp2
  go_loopw [5] (fun i wr => ∃ k : Nat, k ≤ Ls.length ∧ i = .int .i64 k ∧ Below w.heap.size w wr) (fun i _ => Ls.length - (intOf i).toNat)
  case atStart => exact ⟨0, Nat.zero_le _, rfl, Below.refl _ _⟩
  case round =>
    obtain ⟨k, hk, rfl, hb⟩ := hrel
    by_cases hlt : k < Ls.length
    · obtain ⟨L, hL0⟩ := getx hlt
      have hsz := hb.size
      have r := h.below hb z
      have r' := h'.below hb z'
      obtain ⟨g, rfl, zg1, zg2⟩ := own_form r.o (by omega)
      obtain ⟨g', rfl, zg3, zg4⟩ := own_form r'.o (by omega)
      obtain ⟨A0, c0, hh0, o0⟩ := r.i k L hL0
      obtain ⟨A1, c1, hh1, o1⟩ := r'.i k L hL0
      have x0 := r.o.cells (g := g) rfl k _ hh0
      have x1 := r'.o.cells (g := g') rfl k _ hh1
      rw [cell_add] at x0 x1
      have hl := hL.out L (List.mem_of_getElem? hL0)
      have EQ := fun (W : World) (hW : Below wr.heap.size wr W) => eqInt64S_same A0 A1 c0 c1 L W (rd_of_own (fun _ => rfl) (own_below o0 hW (Nat.le_refl _))) (rd_of_own (fun _ => rfl) (own_below o1 hW (Nat.le_refl _))) (by omega)
      have EQ := hid EQ
      clear o0 o1 hh0 hh1 r r' hL0
      go_wp2
      refine wp_region_ext (by kernel_rfl) (by kernel_rfl) ?_
      repeat (go_big_quiet_step ((first | (go_at_call 20; exact ext_below (EQ.out _ (Ext.h _))))))
      refine wpQuiet_nil ?_
      intro w3 hb3
      obtain ⟨hc_w3, hf_w3⟩ := bcell hb3
      have hz_w3 := hb3.size
      go_wp2
      go_roundw
      case rel => exact ⟨k + 1, by omega, by go_num, (by repeat (first | assumption | exact Below.refl _ _ | apply Below.al | apply Below.drewN' | apply Below.drew | (apply Below.tr; assumption)))⟩
      case measure => simp [intOf]; omega
    · go_wp2
      go_ret
      exact ⟨rfl, (by repeat (first | assumption | exact Below.refl _ _ | apply Below.al | apply Below.drewN' | apply Below.drew | (apply Below.tr; assumption)))⟩
def MarkSS (lo hi : Nat) (v : Value) (hs : List Value) (Ls : List (List Int)) (k : Int) (w : World) (e : Ending) (w' : World) : Prop := e = .returned (.int .i64 (k + totL Ls)) ∧ LR w' lo hi v hs (Ms k Ls Ls.length) ∧ Chg lo hi w w'
set_option maxHeartbeats 1000000 in
theorem markInt64SS_any (A : Option Addr) (c lo hi : Nat) (hs : List Value) (Ls : List (List Int)) (k0 : Int) (w : World) (h : LR w lo hi (.slice A Ls.length c) hs Ls) (hn : Ls.length ≤ 1000) (hL : ∀ L ∈ Ls, L.length ≤ 1000) (h0 : 0 ≤ k0) (h1 : k0 ≤ 1000000) :
    Calls Try.prog 16 #[.slice A Ls.length c, .int .i64 k0] w (MarkSS lo hi (.slice A Ls.length c) hs Ls k0 w) := by
  have hL := hid hL
  have h := hid h
  go_enter Try.func16, Try.ntmps16
  go_wp2
  go_loopw [1, 5] (fun kk i wr => ∃ j : Nat, j ≤ Ls.length ∧ i = .int .i64 j ∧ kk = .int .i64 (k0 + totL (Ls.take j)) ∧ Hid (LR wr lo hi (.slice A Ls.length c) hs (Ms k0 Ls j)) ∧ Hid (Chg lo hi w wr)) (fun _ i _ => Ls.length - (intOf i).toNat)
  case atStart => exact ⟨0, Nat.zero_le _, rfl, by simp [totL], hid (by rw [Ms_zero]; exact h.out), hid (Chg.refl _ _ _)⟩
  case round =>
    clear h
    obtain ⟨j, hk, rfl, rfl, h, hc⟩ := hrel
    by_cases hlt : j < Ls.length
    · obtain ⟨L, hL0⟩ := getx hlt
      have hM := Ms_at k0 j hL0
      rw [if_neg (by omega)] at hM
      have ho := h.out.o
      rw [Ms_len] at ho
      obtain ⟨g, rfl, zg1, zg2⟩ := own_form ho (by omega)
      obtain ⟨A0, c0, hh0, o0⟩ := h.out.i j L hM
      have x0 := h.out.o.cells (g := g) rfl j _ hh0
      rw [cell_add] at x0
      have hl := hL.out L (List.mem_of_getElem? hL0)
      have ht := totL_take hL.out j
      have ht2 : totL (List.take j Ls) ≤ 1000000 := by
        have : Ls.length * 1000 ≤ 1000 * 1000 := Nat.mul_le_mul_right _ hn
        omega
      have HT := hid (totL_succ hL0)
      have HM := hid hM
      have HH := hid hh0
      have HS := hid (Ms_succ k0 hL0)
      have bd := hid (h.out.bh _ (List.mem_of_getElem? hh0))
      clear hL0 hM ho hh0 ht
      go_wp2_with (go_at_call 21; refine (markInt64S_any _ A0 L.length c0 _ _ _ o0 (by omega) (by omega) (by omega)).mono ?_; rintro e w2 ⟨rfl, o2, g2⟩)
      have R2 : LR w2 lo hi (.slice (some ⟨g, 0, none⟩) Ls.length c) hs ((Ms k0 Ls j).set j (marks (k0 + totL (Ls.take j)) L.length)) := h.out.set HH.out (marks_len _ _) HM.out g2 (by rw [fI_flat]; exact o2)
      rw [HS.out] at R2
      have R2 := hid R2
      have C2 := hid (hc.out.grow g2 bd.out)
      clear o2 g2
      go_roundw
      case rel => exact ⟨j + 1, by omega, by go_num, by rw [HT.out]; first | go_num | (congr 1; push_cast; omega) | (congr 1; omega), R2, C2⟩
      case measure => simp [intOf]; omega
    · obtain rfl : j = Ls.length := by omega
      have HT : Hid (Value.int .i64 (k0 + totL (Ls.take Ls.length)) = .int .i64 (k0 + totL Ls)) := hid (by rw [List.take_length])
      go_wp2
      go_ret
      exact ⟨by first | rfl | (rw [HT.out]; rfl), h.out, hc.out⟩
set_option maxHeartbeats 1000000 in
theorem heldInt64SS_any (A : Option Addr) (c lo hi : Nat) (hs : List Value) (Ls : List (List Int)) (k0 : Int) (w : World) (h : LR w lo hi (.slice A Ls.length c) hs (Ms k0 Ls Ls.length)) (hn : Ls.length ≤ 1000) (hL : ∀ L ∈ Ls, L.length ≤ 1000) (h0 : 0 ≤ k0) (h1 : k0 ≤ 1000000) :
    Calls Try.prog 17 #[.slice A Ls.length c, .int .i64 k0] w fun e w' => e = .returned (.int .i64 (k0 + totL Ls)) ∧ w = w' := by
  have hL := hid hL
  go_enter Try.func17, Try.ntmps17
  go_wp2
  go_loop [1, 5] (fun kk i => ∃ j : Nat, j ≤ Ls.length ∧ i = .int .i64 j ∧ kk = .int .i64 (k0 + totL (Ls.take j))) (fun _ i => Ls.length - (intOf i).toNat)
  case atStart => exact ⟨0, Nat.zero_le _, rfl, by simp [totL]⟩
  case round =>
    obtain ⟨j, hk, rfl, rfl⟩ := hrel
    by_cases hlt : j < Ls.length
    · obtain ⟨L, hL0⟩ := getx hlt
      have hM := Ms_at k0 Ls.length hL0
      rw [if_pos hlt] at hM
      have ho := h.o
      rw [Ms_len] at ho
      obtain ⟨g, rfl, zg1, zg2⟩ := own_form ho (by omega)
      obtain ⟨A0, c0, hh0, o0⟩ := h.i j _ hM
      have x0 := h.o.cells (g := g) rfl j _ hh0
      rw [cell_add, marks_len] at x0
      rw [fI_flat, marks_len] at o0
      have hl := hL.out L (List.mem_of_getElem? hL0)
      have ht := totL_take hL.out j
      have ht2 : totL (List.take j Ls) ≤ 1000000 := by
        have : Ls.length * 1000 ≤ 1000 * 1000 := Nat.mul_le_mul_right _ hn
        omega
      have HT := hid (totL_succ hL0)
      clear hL0 hM ho hh0 ht
      go_wp2_with (go_at_call 22; refine (heldInt64S_any _ A0 L.length c0 _ _ o0 (by omega) (by omega) (by omega)).mono ?_; rintro e w2 ⟨rfl, rfl⟩)
      go_round
      case rel => exact ⟨j + 1, by omega, by go_num, by rw [HT.out]; first | go_num | (congr 1; push_cast; omega) | (congr 1; omega)⟩
      case measure => simp [intOf]; omega
    · obtain rfl : j = Ls.length := by omega
      have HT : Hid (Value.int .i64 (k0 + totL (Ls.take Ls.length)) = .int .i64 (k0 + totL Ls)) := hid (by rw [List.take_length])
      go_wp2
      go_ret
      exact ⟨by first | rfl | (rw [HT.out]; rfl), rfl⟩
end Go.Proofs.Ytalongdieglibaa
