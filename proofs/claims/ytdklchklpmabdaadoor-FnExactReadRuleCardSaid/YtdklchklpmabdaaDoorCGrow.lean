/- Small words for rows that grow beside boxes. No program in sight. -/
import Derived.Test.YtdklchklpmabdaaDoorBase
import Derived.Maps.AppendAt
import Derived.Deep.AppendLies
namespace Go.Proofs.YtdklchklpmabdaaDoor
open Go.RowKit
theorem grow_box {W w2 : World} {ob : Obj} {v : Value} {g off : Nat} {u : Value} (hg : (W.alloc ob).grownBy w2 v.ownBlock) (ag : v.ownBlock ≠ some g) (hlt : g < W.heap.size) (hc : W.cell? ⟨g, off, none⟩ = some u) : w2.cell? ⟨g, off, none⟩ = some u := by
  have h1 : (W.alloc ob).cell? ⟨g, off, none⟩ = W.cell? ⟨g, off, none⟩ := alloc_cell_lt hlt
  have h2 : w2.cell? ⟨g, off, none⟩ = (W.alloc ob).cell? ⟨g, off, none⟩ := hg.cell_far _ (by simp; omega) (Ne.symm ag)
  rw [h2, h1, hc]
theorem grow_ne {W : World} {ob : Obj} {v v2 : Value} {g : Nat} (hat : v2.ownBlock = v.ownBlock ∨ v2.ownBlock = some (W.alloc ob).heap.size) (ag : v.ownBlock ≠ some g) (hlt : g < W.heap.size) : v2.ownBlock ≠ some g := by
  rcases hat with h | h
  · rw [h]; exact ag
  · rw [h]; simp; omega
theorem own_lt {w : World} {lo n : Nat} {v : Value} {e : TypeId} {size : Nat} {ys : List Value} (h : w.ownsRow lo e size v n ys) {g : Nat} (hg : w.heap.size ≤ g) : v.ownBlock ≠ some g := fun hx => by
  have := (h.lt _ hx).2; omega
theorem Rd.bmx {α : Type} {enc : α → List Value} {k B : Nat} {w w' : World} {A : Option Addr} {xs : List α} (h : Rd enc k w B A xs) (hb : Below B w w') (hB : B ≤ w'.heap.size) : Rd enc k w' w'.heap.size A xs := (h.below hb (Nat.le_refl _)).more hB
theorem below_box {a w1 : World} {ob : Obj} {off : Nat} {u : Value} (hb : Below (a.alloc ob).heap.size (a.alloc ob) w1) (h : (a.alloc ob).cell? ⟨a.heap.size, off, none⟩ = some u) : w1.cell? ⟨a.heap.size, off, none⟩ = some u :=
  ((bcell hb).1 a.heap.size off (by simp)).trans h
end Go.Proofs.YtdklchklpmabdaaDoor
