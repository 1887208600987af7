/- Memory of the program's lists of wrong links: the variable out, its row, the rows in it. -/
import Derived.Test.YtalongdieglibaaC20z
import Derived.Test.YtalongdieglibaaC20f
namespace Go.Proofs.Ytalongdieglibaa
open Go.RowKit
set_option linter.unusedVariables false
/-- All old blocks but po and the row r stay. -/
structure Fr (w w' : World) (po : Nat) (r : Option Nat) : Prop where
  os : w'.os = w.os
  tape : w'.tape = w.tape
  output : w'.output = w.output
  size : w.heap.size ≤ w'.heap.size
  block : ∀ i, i < w.heap.size → i ≠ po → some i ≠ r → w'.heap[i]? = w.heap[i]?
theorem Fr.refl (w : World) (po : Nat) (r : Option Nat) : Fr w w po r := ⟨rfl, rfl, rfl, Nat.le_refl _, fun _ _ _ _ => rfl⟩
theorem Fr.trans {a b c : World} {po : Nat} {r r' : Option Nat} (h : Fr a b po r) (k : Fr b c po r') (hr : r' = r ∨ ∃ g, r' = some g ∧ a.heap.size ≤ g) : Fr a c po r :=
  ⟨k.os.trans h.os, k.tape.trans h.tape, k.output.trans h.output, Nat.le_trans h.size k.size, fun i hi h1 h2 => (k.block i (Nat.lt_of_lt_of_le hi h.size) h1 (by
    rcases hr with rfl | ⟨g, rfl, hg⟩
    · exact h2
    · simp; omega)).trans (h.block i hi h1 h2)⟩
theorem Fr.of {w w' : World} {po : Nat} {r : Option Nat} (h : Below w.heap.size w w') : Fr w w' po r := ⟨h.os, h.tape, h.output, h.size, fun i hi _ _ => h.block i hi⟩
theorem Fr.grow {w w' : World} {po : Nat} {r : Option Nat} (h : w.grownBy w' r) : Fr w w' po r := ⟨h.os, h.tape, h.output, h.size, fun i hi _ h2 => h.block i hi h2⟩
theorem Fr.set {w : World} {po o : Nat} {r : Option Nat} (u : Value) : Fr w (w.setCell ⟨po, o, none⟩ u) po r :=
  ⟨rfl, rfl, rfl, by simp [World.setCell], fun i hi h1 _ => Below.heap_setCell w ⟨po, o, none⟩ u i (fun e => h1 (by rw [e]))⟩
theorem Fr.cell {w w' : World} {po : Nat} {r : Option Nat} (h : Fr w w' po r) {b o : Nat} (hb : b < w.heap.size) (h1 : b ≠ po) (h2 : some b ≠ r) : w'.cell? ⟨b, o, none⟩ = w.cell? ⟨b, o, none⟩ :=
  World.cell?_of_block (a := ⟨b, o, none⟩) (h.block b hb h1 h2)
theorem Fr.below {w w' : World} {po B : Nat} {r : Option Nat} (h : Fr w w' po r) (hB : B ≤ w.heap.size) (h1 : B ≤ po) (h2 : ∀ g, r = some g → B ≤ g) : Below B w w' :=
  ⟨h.os, h.tape, h.output, h.size, fun i hi => h.block i (by omega) (by omega) (fun e => by have := h2 i e.symm; omega)⟩
theorem Fr.rd {α : Type} {enc : α → List Value} {k B : Nat} {w w' : World} {A : Option Addr} {xs : List α} {po : Nat} {r : Option Nat} (h : Rd enc k w B A xs) (hf : Fr w w' po r) (hB : B ≤ w.heap.size) (hne : xs ≠ [] → ∀ b o, A = some ⟨b, o, none⟩ → b ≠ po ∧ some b ≠ r) : Rd enc k w' B A xs := fun hx => by
  obtain ⟨b, o, e, hb, hc⟩ := h hx
  refine ⟨b, o, e, hb, fun i x hi j v hj => ?_⟩
  rw [← hc i x hi j v hj]
  exact hf.cell (by omega) (hne hx b o e).1 (hne hx b o e).2
theorem Fr.own {w w' : World} {po lo n size : Nat} {r : Option Nat} {e : TypeId} {v : Value} {ys : List Value} (h : w.ownsRow lo e size v n ys) (hf : Fr w w' po r) (h1 : v.ownBlock ≠ some po) (h2 : v.ownBlock = none ∨ v.ownBlock ≠ r) : w'.ownsRow lo e size v n ys := by
  refine ⟨h.1, ?_⟩
  rcases h.2 with hn | ⟨g, cap, cur, rfl, hb, hgg, rest⟩
  · exact .inl hn
  · refine .inr ⟨g, cap, cur, rfl, hb, ?_, rest⟩
    rw [hf.block g (Array.getElem?_eq_some_iff.1 hgg).1 (by simpa [Value.ownBlock] using h1) (by simpa [Value.ownBlock] using h2)]
    exact hgg
/-- The rows that are in out. -/
def InO (w : World) (po lo : Nat) (v : Value) (hs : List Value) (Ls : List (List Int)) : Prop :=
  ∀ (i : Nat) (L : List Int), Ls[i]? = some L → ∃ A c, hs[i]? = some (.slice A L.length c) ∧ w.ownsRow lo 2 1 (.slice A L.length c) L.length (L.flatMap encI) ∧ (Value.slice A L.length c).ownBlock ≠ some po ∧ ((Value.slice A L.length c).ownBlock = none ∨ (Value.slice A L.length c).ownBlock ≠ v.ownBlock)
structure OutS (w : World) (po lo : Nat) (v : Value) (Ls : List (List Int)) : Prop where
  lp : po < w.heap.size
  c : w.cell? ⟨po, 0, none⟩ = some v
  f : w.frozen? ⟨po, 0, none⟩ = false
  nv : v.ownBlock ≠ some po
  ex : ∃ hs, w.ownsRow lo 36 1 v Ls.length hs ∧ InO w po lo v hs Ls
theorem InO.fr {w w' : World} {po lo : Nat} {r : Option Nat} {v : Value} {hs : List Value} {Ls : List (List Int)} (h : InO w po lo v hs Ls) (hf : Fr w w' po r) (hr : r = v.ownBlock) : InO w' po lo v hs Ls := fun i L hi => by
  obtain ⟨A, c, h1, h2, h3, h4⟩ := h i L hi
  exact ⟨A, c, h1, Fr.own h2 hf h3 (by rw [hr]; exact h4), h3, h4⟩
theorem OutS.below {w w' : World} {po lo : Nat} {v : Value} {Ls : List (List Int)} (h : OutS w po lo v Ls) (hb : Below w.heap.size w w') : OutS w' po lo v Ls := by
  obtain ⟨hc, hf⟩ := bcell hb
  obtain ⟨hs, h1, h2⟩ := h.ex
  exact ⟨Nat.lt_of_lt_of_le h.lp hb.size, (hc _ _ h.lp).trans h.c, (hf _ _ h.lp).trans h.f, h.nv, hs, own_below h1 hb (Nat.le_refl _), h2.fr (Fr.of hb) rfl⟩
/-- One more row: behind the append, and the store of the new slice. -/
theorem OutS.push {w w2 : World} {po lo n c5 : Nat} {v v2 : Value} {hs : List Value} {Ls : List (List Int)} {A5 : Option Addr} {g : List Int} {ob : Obj}
    (hnv : v.ownBlock ≠ some po) (hlp : po < w.heap.size) (hc0 : w.cell? ⟨po, 0, none⟩ = some v) (hfz : w.frozen? ⟨po, 0, none⟩ = false) (hin : InO w po lo v hs Ls) (hl : hs.length = Ls.length)
    (own5 : w.ownsRow lo 2 1 (.slice A5 g.length c5) g.length (g.flatMap encI)) (n5 : (Value.slice A5 g.length c5).ownBlock ≠ some po) (m5 : (Value.slice A5 g.length c5).ownBlock = none ∨ (Value.slice A5 g.length c5).ownBlock ≠ v.ownBlock)
    (own2 : w2.ownsRow lo 36 1 v2 (Ls.length + 1) (hs ++ [.slice A5 g.length c5])) (hg : (w.alloc ob).grownBy w2 v.ownBlock) (hat : v2.ownBlock = v.ownBlock ∨ v2.ownBlock = some (w.alloc ob).heap.size) :
    OutS (w2.setCell ⟨po, 0, none⟩ v2) po lo v2 (Ls ++ [g]) ∧ Fr w (w2.setCell ⟨po, 0, none⟩ v2) po v.ownBlock := by
  have F1 : Fr w w2 po v.ownBlock := (Fr.of (w := w) (Below.alloc (Below.refl _ _) (Nat.le_refl _) ob)).trans (Fr.grow hg) (.inl rfl)
  have F2 : Fr w (w2.setCell ⟨po, 0, none⟩ v2) po v.ownBlock := F1.trans (Fr.set v2) (.inl rfl)
  have nv2 : v2.ownBlock ≠ some po := by
    rcases hat with e | e
    · rw [e]; exact hnv
    · rw [e]; simp; omega
  have hz2 := F1.size
  have hbk : w2.heap[po]? = (w.alloc ob).heap[po]? := hg.block po (by simp; omega) (Ne.symm hnv)
  have hcx : w2.cell? ⟨po, 0, none⟩ = some v := (World.cell?_of_block (a := ⟨po, 0, none⟩) hbk).trans ((World.cell?_alloc_lt w ob ⟨po, 0, none⟩ hlp).trans hc0)
  have hfx : w2.frozen? ⟨po, 0, none⟩ = false := (World.frozen?_of_block (a := ⟨po, 0, none⟩) hbk).trans ((World.frozen?_alloc_old w _ _ (by simp; omega)).trans hfz)
  refine ⟨⟨by simp [World.setCell] at *; omega, ?_, ?_, nv2, hs ++ [.slice A5 g.length c5], ?_, ?_⟩, F2⟩
  · simp [go_sem, hcx]
  · simp [go_sem, hfx]
  · rw [List.length_append]
    exact Fr.own own2 (Fr.set (r := none) v2) nv2 (by cases v2.ownBlock <;> simp)
  · have keep : ∀ (A : Option Addr) (c : Nat) (L : List Int), w.ownsRow lo 2 1 (.slice A L.length c) L.length (L.flatMap encI) → (Value.slice A L.length c).ownBlock ≠ some po → ((Value.slice A L.length c).ownBlock = none ∨ (Value.slice A L.length c).ownBlock ≠ v.ownBlock) →
        (w2.setCell ⟨po, 0, none⟩ v2).ownsRow lo 2 1 (.slice A L.length c) L.length (L.flatMap encI) ∧ ((Value.slice A L.length c).ownBlock = none ∨ (Value.slice A L.length c).ownBlock ≠ v2.ownBlock) := fun A c L h2 h3 h4 => by
      refine ⟨Fr.own h2 F2 h3 h4, ?_⟩
      rcases hat with e | e
      · rw [e]; exact h4
      · rw [e]
        right
        intro e2
        have := (h2.lt _ e2).2
        simp at this
        omega
    intro i L hi
    rcases Nat.lt_or_ge i Ls.length with hlt | hge
    · rw [List.getElem?_append_left hlt] at hi
      obtain ⟨A, c, h1, h2, h3, h4⟩ := hin i L hi
      obtain ⟨k1, k2⟩ := keep A c L h2 h3 h4
      exact ⟨A, c, by rw [List.getElem?_append_left (by omega)]; exact h1, k1, h3, k2⟩
    · rw [List.getElem?_append_right hge] at hi
      have hi0 : i - Ls.length = 0 := by
        have := (List.getElem?_eq_some_iff.1 hi).1
        simp at this; omega
      rw [hi0] at hi
      simp at hi; subst hi
      obtain ⟨k1, k2⟩ := keep A5 c5 g own5 n5 m5
      exact ⟨A5, c5, by rw [List.getElem?_append_right (by omega), hl, hi0]; rfl, k1, n5, k2⟩
end Go.Proofs.Ytalongdieglibaa
