/- Words and small lemmas of my own for the walks of this seat: slices that read as lists, worlds that have only grown, regions that draw their order. No program in sight. -/
import Derived.WalkKit
import Derived.WalkSpells
import Derived.WalkLawsBesides
import Derived.Deep.QuietTactic
import Derived.BigQuiet
namespace Go.Proofs.YtdklchklpmabdaaDoor
open Go.RowKit
theorem hid {p : Prop} (h : p) : Hid p := h
theorem Below.drewN' {B : Nat} {a w : World} (h : Below B a w) (n : Nat) : Below B a (w.drewN n) := ⟨h.os, h.tape, h.output, h.size, h.block⟩
theorem Below.al {a w : World} (k : Below a.heap.size a w) (o : Obj) : Below a.heap.size a (w.alloc o) := k.alloc k.size o
theorem Below.tr {a X w : World} (h : Below X.heap.size X w) (k : Below a.heap.size a X) : Below a.heap.size a w := k.trans (h.mono k.size)
theorem Below.sc {a w : World} (k : Below a.heap.size a w) {p : Addr} (hp : a.heap.size ≤ p.block) (u : Value) : Below a.heap.size a (w.setCell p u) := k.setCell hp u
theorem bcell {W w1 : World} {B : Nat} (hb : Below B W w1) : (∀ b o, b < B → w1.cell? ⟨b, o, none⟩ = W.cell? ⟨b, o, none⟩) ∧ (∀ b o, b < B → w1.frozen? ⟨b, o, none⟩ = W.frozen? ⟨b, o, none⟩) :=
  ⟨fun b o h => hb.cell (p := ⟨b, o, none⟩) h, fun b o h => hb.frozen (p := ⟨b, o, none⟩) h⟩
theorem ret_bool {a b : Bool} (h : a = b) : Ending.returned (.bool a) = .returned (.bool b) := by rw [h]
theorem ret_int {k : IntKind} {a b : Int} (h : a = b) : Ending.returned (.int k a) = .returned (.int k b) := by rw [h]

/-! ### Slices that read as lists -/
/-- A slice that reads as a list: enc gives the k cells of an element. -/
def Rd {α : Type} (enc : α → List Value) (k : Nat) (w : World) (B : Nat) (A : Option Addr) (xs : List α) : Prop :=
  xs ≠ [] → ∃ b o, A = some ⟨b, o, none⟩ ∧ b < B ∧ ∀ (i : Nat) (x : α), xs[i]? = some x → ∀ (j : Nat) (v : Value), (enc x)[j]? = some v → w.cell? ⟨b, o + i * k + j, none⟩ = some v
section
variable {α : Type} {enc : α → List Value} {k : Nat} {w w' : World} {B B' : Nat} {A : Option Addr} {xs : List α}
theorem Rd.below (h : Rd enc k w B A xs) (hb : Below B' w w') (hB : B ≤ B') : Rd enc k w' B A xs := fun hx => by
  obtain ⟨b, o, h1, h2, h3⟩ := h hx
  refine ⟨b, o, h1, h2, fun i x hi j v hj => ?_⟩
  rw [(bcell hb).1 b _ (by omega)]
  exact h3 i x hi j v hj
theorem Rd.more (h : Rd enc k w B A xs) (hB : B ≤ B') : Rd enc k w B' A xs := fun hx => by
  obtain ⟨b, o, h1, h2, h3⟩ := h hx
  exact ⟨b, o, h1, by omega, h3⟩
theorem Rd.at1 {i : Nat} {x : α} {v0 : Value} (h : Rd enc 1 w B A xs) (hi : xs[i]? = some x) (he : enc x = [v0]) :
    ∃ b o, A = some ⟨b, o, none⟩ ∧ b < B ∧ w.cell? ⟨b, o + i, none⟩ = some v0 := by
  obtain ⟨b, o, h1, h2, h3⟩ := h (by rintro rfl; simp at hi)
  exact ⟨b, o, h1, h2, by simpa using h3 i x hi 0 v0 (by rw [he]; rfl)⟩
theorem Rd.at2 {i : Nat} {x : α} {v0 v1 : Value} (h : Rd enc 2 w B A xs) (hi : xs[i]? = some x) (he : enc x = [v0, v1]) :
    ∃ b o, A = some ⟨b, o, none⟩ ∧ b < B ∧ w.cell? ⟨b, o + i * 2, none⟩ = some v0 ∧ w.cell? ⟨b, o + i * 2 + 1, none⟩ = some v1 := by
  obtain ⟨b, o, h1, h2, h3⟩ := h (by rintro rfl; simp at hi)
  exact ⟨b, o, h1, h2, h3 i x hi 0 v0 (by rw [he]; rfl), h3 i x hi 1 v1 (by rw [he]; rfl)⟩
theorem Rd.at3 {i : Nat} {x : α} {v0 v1 v2 : Value} (h : Rd enc 3 w B A xs) (hi : xs[i]? = some x) (he : enc x = [v0, v1, v2]) :
    ∃ b o, A = some ⟨b, o, none⟩ ∧ b < B ∧ w.cell? ⟨b, o + i * 3, none⟩ = some v0 ∧ w.cell? ⟨b, o + i * 3 + 1, none⟩ = some v1 ∧ w.cell? ⟨b, o + i * 3 + 2, none⟩ = some v2 := by
  obtain ⟨b, o, h1, h2, h3⟩ := h (by rintro rfl; simp at hi)
  exact ⟨b, o, h1, h2, h3 i x hi 0 v0 (by rw [he]; rfl), h3 i x hi 1 v1 (by rw [he]; rfl), h3 i x hi 2 v2 (by rw [he]; rfl)⟩
theorem Rd.at6 {i : Nat} {x : α} {v0 v1 v2 v3 v4 v5 : Value} (h : Rd enc 6 w B A xs) (hi : xs[i]? = some x) (he : enc x = [v0, v1, v2, v3, v4, v5]) :
    ∃ b o, A = some ⟨b, o, none⟩ ∧ b < B ∧ w.cell? ⟨b, o + i * 6, none⟩ = some v0 ∧ w.cell? ⟨b, o + i * 6 + 1, none⟩ = some v1 ∧ w.cell? ⟨b, o + i * 6 + 2, none⟩ = some v2 ∧
      w.cell? ⟨b, o + i * 6 + 3, none⟩ = some v3 ∧ w.cell? ⟨b, o + i * 6 + 4, none⟩ = some v4 ∧ w.cell? ⟨b, o + i * 6 + 5, none⟩ = some v5 := by
  obtain ⟨b, o, h1, h2, h3⟩ := h (by rintro rfl; simp at hi)
  exact ⟨b, o, h1, h2, h3 i x hi 0 v0 (by rw [he]; rfl), h3 i x hi 1 v1 (by rw [he]; rfl), h3 i x hi 2 v2 (by rw [he]; rfl), h3 i x hi 3 v3 (by rw [he]; rfl), h3 i x hi 4 v4 (by rw [he]; rfl), h3 i x hi 5 v5 (by rw [he]; rfl)⟩
end
theorem dropx {α : Type} {xs : List α} {k : Nat} {p : α} (h : xs[k]? = some p) : xs.drop k = p :: xs.drop (k+1) := by
  obtain ⟨hk, rfl⟩ := List.getElem?_eq_some_iff.1 h
  exact List.drop_eq_getElem_cons hk
theorem getx {α : Type} {xs : List α} {k : Nat} (h : k < xs.length) : ∃ p, xs[k]? = some p := ⟨xs[k], by simp [h]⟩

/-! ### Slices of the call's own -/
section
variable {α : Type} {enc : α → List Value} {k lo T n : Nat} {w w' : World} {xs : List α} {v : Value}
theorem flat_len (hk : ∀ x, (enc x).length = k) : ∀ xs : List α, (xs.flatMap enc).length = xs.length * k
  | [] => by simp
  | x :: xs => by rw [List.flatMap_cons, List.length_append, hk, flat_len hk xs, List.length_cons, Nat.succ_mul]; omega
theorem flat_at (hk : ∀ x, (enc x).length = k) : ∀ (xs : List α) (i : Nat) (x : α), xs[i]? = some x → ∀ (j : Nat), j < k → (xs.flatMap enc)[i * k + j]? = (enc x)[j]?
  | [], i, x, h, _, _ => by simp at h
  | y :: ys, 0, x, h, j, hj => by
    simp at h
    subst h
    rw [List.flatMap_cons, List.getElem?_append_left (by rw [hk]; omega)]
    simp
  | y :: ys, i + 1, x, h, j, hj => by
    rw [List.flatMap_cons, List.getElem?_append_right (by rw [hk, Nat.succ_mul]; omega), hk]
    rw [← flat_at hk ys i x (by simpa using h) j hj]
    congr 1
    rw [Nat.succ_mul]
    omega
theorem flat_take {x : α} (hx : xs[n]? = some x) : (xs.take (n + 1)).flatMap enc = (xs.take n).flatMap enc ++ enc x := by
  have h : n < xs.length := (List.getElem?_eq_some_iff.1 hx).1
  rw [List.take_add_one, hx]
  simp
theorem own_below {B : Nat} {e : TypeId} {size : Nat} {ys : List Value} (h : w.ownsRow lo e size v n ys) (hb : Below B w w') (hB : w.heap.size ≤ B) : w'.ownsRow lo e size v n ys := by
  obtain ⟨h1, h2⟩ := h
  refine ⟨h1, ?_⟩
  rcases h2 with h2 | ⟨g, cap, cur, hv, hg, hh, r⟩
  · exact Or.inl h2
  · exact Or.inr ⟨g, cap, cur, hv, hg, by rw [hb.block g (Nat.lt_of_lt_of_le (Array.getElem?_eq_some_iff.1 hh).1 hB)]; exact hh, r⟩
theorem own_lo {lo' : Nat} {e : TypeId} {size : Nat} {ys : List Value} (h : w.ownsRow lo e size v n ys) (hl : lo' ≤ lo) : w.ownsRow lo' e size v n ys := by
  obtain ⟨h1, h2⟩ := h
  refine ⟨h1, ?_⟩
  rcases h2 with h2 | ⟨g, cap, cur, hv, hg, r⟩
  · exact Or.inl h2
  · exact Or.inr ⟨g, cap, cur, hv, by omega, r⟩
theorem rd_of_own {e : TypeId} {A : Option Addr} {c : Nat} (hk : ∀ x, (enc x).length = k) (h : w.ownsRow lo e k (.slice A xs.length c) xs.length (xs.flatMap enc)) : Rd enc k w w.heap.size A xs := fun hne => by
  have hlen : 0 < xs.length := List.length_pos_iff.2 hne
  rcases h.2 with ⟨_, h0⟩ | ⟨g, cap, cur, hv, hg, hh, _⟩
  · omega
  · have hA : A = some ⟨g, 0, none⟩ ∧ c = cap := by simpa using hv
    obtain ⟨rfl, rfl⟩ := hA
    refine ⟨g, 0, rfl, (Array.getElem?_eq_some_iff.1 hh).1, fun i x hi j u hj => ?_⟩
    have hjk : j < k := by have := (List.getElem?_eq_some_iff.1 hj).1; rw [hk] at this; exact this
    have hi' : i < xs.length := (List.getElem?_eq_some_iff.1 hi).1
    have hlt : i * k + j < xs.length * k := by
      have : (i + 1) * k ≤ xs.length * k := Nat.mul_le_mul_right _ hi'
      rw [Nat.succ_mul] at this
      omega
    have := h.cellAt (i * k + j) hlt
    rw [flat_at hk xs i x hi j hjk, hj] at this
    simpa using this
theorem own_set {g cap : Nat} {e : TypeId} {size : Nat} {X R : List Value} {z : Value} {j : Nat} (h : w.ownsRow lo e size (.slice (some ⟨g, 0, none⟩) n cap) n (X ++ z :: R)) (hj : j = X.length) (u : Value) :
    (w.setCell ⟨g, j, none⟩ u).ownsRow lo e size (.slice (some ⟨g, 0, none⟩) n cap) n (X ++ u :: R) := by
  subst hj
  have := (h.stored X.length u).1
  simpa using this
theorem own_set2 {g cap : Nat} {e : TypeId} {size : Nat} {X R : List Value} {z0 z1 : Value} {j : Nat} (h : w.ownsRow lo e size (.slice (some ⟨g, 0, none⟩) n cap) n (X ++ z0 :: z1 :: R)) (hj : j = X.length) (a b : Value) :
    ((w.setCell ⟨g, j, none⟩ a).setCell ⟨g, j + 1, none⟩ b).ownsRow lo e size (.slice (some ⟨g, 0, none⟩) n cap) n (X ++ a :: b :: R) := by
  have h1 := own_set h hj a
  have h2 := own_set (X := X ++ [a]) (by simpa using h1) (j := j + 1) (by simp [hj]) b
  simpa using h2
theorem own_set3 {g cap : Nat} {e : TypeId} {size : Nat} {X R : List Value} {z0 z1 z2 : Value} {j : Nat} (h : w.ownsRow lo e size (.slice (some ⟨g, 0, none⟩) n cap) n (X ++ z0 :: z1 :: z2 :: R)) (hj : j = X.length) (a b d : Value) :
    (((w.setCell ⟨g, j, none⟩ a).setCell ⟨g, j + 1, none⟩ b).setCell ⟨g, j + 2, none⟩ d).ownsRow lo e size (.slice (some ⟨g, 0, none⟩) n cap) n (X ++ a :: b :: d :: R) := by
  have h1 := own_set2 h hj a b
  have h2 := own_set (X := X ++ [a, b]) (by simpa using h1) (j := j + 2) (by simp [hj]) d
  simpa using h2
theorem own_set6 {g cap : Nat} {e : TypeId} {size : Nat} {X R : List Value} {z0 z1 z2 z3 z4 z5 : Value} {j : Nat} (h : w.ownsRow lo e size (.slice (some ⟨g, 0, none⟩) n cap) n (X ++ z0 :: z1 :: z2 :: z3 :: z4 :: z5 :: R)) (hj : j = X.length) (a b c d e' f : Value) :
    ((((((w.setCell ⟨g, j, none⟩ a).setCell ⟨g, j + 1, none⟩ b).setCell ⟨g, j + 2, none⟩ c).setCell ⟨g, j + 3, none⟩ d).setCell ⟨g, j + 4, none⟩ e').setCell ⟨g, j + 5, none⟩ f).ownsRow lo e size (.slice (some ⟨g, 0, none⟩) n cap) n (X ++ a :: b :: c :: d :: e' :: f :: R) := by
  have h1 := own_set3 h hj a b c
  have h2 := own_set3 (X := X ++ [a, b, c]) (by simpa using h1) (j := j + 3) (by simp [hj]) d e' f
  simpa using h2
end
theorem own_shape {w : World} {lo n : Nat} {v : Value} {e : TypeId} {size : Nat} {ys : List Value} (h : w.ownsRow lo e size v n ys) : ∃ A c, v = .slice A n c := by
  rcases h.2 with ⟨rfl, rfl⟩ | ⟨g, cap, cur, rfl, _⟩
  · exact ⟨none, 0, rfl⟩
  · exact ⟨_, _, rfl⟩
theorem own_form {w : World} {lo n c : Nat} {Ad : Option Addr} {e : TypeId} {size : Nat} {ys : List Value} (h : w.ownsRow lo e size (.slice Ad n c) n ys) (hn : 0 < n) : ∃ g, Ad = some ⟨g, 0, none⟩ ∧ lo ≤ g ∧ g < w.heap.size := by
  rcases h.2 with ⟨_, h0⟩ | ⟨g, cap, cur, hv, hg, hh, _⟩
  · omega
  · have hA : Ad = some ⟨g, 0, none⟩ ∧ c = cap := by simpa using hv
    exact ⟨g, hA.1, hg, (Array.getElem?_eq_some_iff.1 hh).1⟩
theorem own_cap {w : World} {lo n c : Nat} {Ad : Option Addr} {e : TypeId} {size : Nat} {ys : List Value} (h : w.ownsRow lo e size (.slice Ad n c) n ys) : n ≤ c := by
  rcases h.2 with ⟨h0, h1⟩ | ⟨g, cap, cur, hv, hg, hh, hc, _⟩
  · have : c = 0 := by simp at h0; omega
    omega
  · have : c = cap := by simp at hv; omega
    omega
theorem own_ne {w1 w2 : World} {lo1 lo2 n1 n2 : Nat} {v1 v2 : Value} {e1 e2 : TypeId} {s1 s2 : Nat} {y1 y2 : List Value} (h1 : w1.ownsRow lo1 e1 s1 v1 n1 y1) (h2 : w2.ownsRow lo2 e2 s2 v2 n2 y2) (hlt : w1.heap.size ≤ lo2) :
    (v2.ownBlock = none ∨ v2.ownBlock ≠ v1.ownBlock) ∧ (v1.ownBlock = none ∨ v1.ownBlock ≠ v2.ownBlock) := by
  cases hv2 : v2.ownBlock with
  | none =>
    refine ⟨.inl rfl, ?_⟩
    cases hv1 : v1.ownBlock with
    | none => exact .inl rfl
    | some b => exact .inr (by simp)
  | some a =>
    have ha := (h2.lt a hv2).1
    refine ⟨.inr ?_, .inr ?_⟩
    · intro e
      have hb := (h1.lt a e.symm).2
      omega
    · intro e
      have hb := (h1.lt a e).2
      omega
theorem news_at (w : World) (l : List Value) (e : TypeId) : ∀ (j : Nat) (u : Value), l[j]? = some u → (w.alloc (.cells l.toArray e)).cell? ((⟨w.heap.size, 0, none⟩ : Addr).add j) = some u := fun j u hj => by
  have hadd : (⟨w.heap.size, 0, none⟩ : Addr).add j = ⟨w.heap.size, j, none⟩ := by unfold Addr.add; split <;> simp_all
  rw [hadd, cell_of_row _ w.heap.size j l.toArray e (0, 0) (heap_alloc_new w _)]
  simpa using hj
theorem own_lit0 (w : World) (e : TypeId) (size : Nat) {lo : Nat} (hl : lo ≤ w.heap.size) : (w.alloc (.cells #[] e)).ownsRow lo e size (.slice (some ⟨w.heap.size, 0, none⟩) 0 0) 0 [] :=
  World.ownsRow_lit w #[] 0 hl (by decide) (by simp)
theorem own_lit1 (w : World) (e : TypeId) (size : Nat) {lo g : Nat} (hg : g = w.heap.size) (hl : lo ≤ g) : (w.alloc (.cells #[] e)).ownsRow lo e size (.slice (some ⟨g, 0, none⟩) 0 0) 0 [] := by
  subst hg; exact own_lit0 w e size hl
theorem Below.ap {B base n : Nat} {w W w2 : World} {o : Obj} {v : Value} {e : TypeId} {size : Nat} {ys : List Value} (hb : Below B w W) (hB : B ≤ W.heap.size) (own : W.ownsRow base e size v n ys) (hbase : B ≤ base)
    (hg : (W.alloc o).grownBy w2 v.ownBlock) : Below B w w2 :=
  (hb.alloc hB o).grown hg (by simp; omega) (fun k hk => Nat.le_trans hbase (own.lt k hk).1)
theorem Below.gr {B base n : Nat} {w W w2 : World} {v : Value} {e : TypeId} {size : Nat} {ys : List Value} (hb : Below B w W) (hB : B ≤ W.heap.size) (own : W.ownsRow base e size v n ys) (hbase : B ≤ base)
    (hg : W.grownBy w2 v.ownBlock) : Below B w w2 :=
  hb.grown hg hB (fun k hk => Nat.le_trans hbase (own.lt k hk).1)
/-- A law of 'grownBy' one row after another. -/
theorem grown_trans' {a b c : World} {row : Option Nat} (h : a.grownBy b row) (k : b.grownBy c row) : a.grownBy c row :=
  ⟨k.os.trans h.os, k.tape.trans h.tape, k.output.trans h.output, Nat.le_trans h.size k.size, fun i hi hne => (k.block i (Nat.lt_of_lt_of_le hi h.size) hne).trans (h.block i hi hne)⟩
/-- The marks that the laws write. -/
def marks (k : Int) (n : Nat) : List Int := (List.range n).map fun (j : Nat) => k + (j : Int)
theorem marks_len (k : Int) (n : Nat) : (marks k n).length = n := by simp [marks]
theorem marks_succ (k : Int) (n : Nat) : marks k (n + 1) = marks k n ++ [k + (n : Int)] := by simp [marks, List.range_succ]
theorem marks_at {k : Int} {n j : Nat} (h : j < n) : (marks k n)[j]? = some (k + (j : Int)) := by simp [marks, h]
theorem marks_add2 (k : Int) (n : Nat) : marks k (n + 2) = marks k n ++ [k + (n : Int), k + (n : Int) + 1] := by
  rw [marks_succ, marks_succ]; simp; omega
theorem marks_add3 (k : Int) (n : Nat) : marks k (n + 3) = marks k n ++ [k + (n : Int), k + (n : Int) + 1, k + (n : Int) + 2] := by
  rw [marks_succ, marks_add2]; simp; omega
/-- What a function that hands back a new slice and a code ends in. -/
def OwnTup {α : Type} (T k : Nat) (enc : α → List Value) (ys : List α) (code : Int) (w : World) (e : Ending) (w' : World) : Prop :=
  ∃ A c, e = .returned (.tuple #[.slice A ys.length c, .int .i64 code]) ∧ w'.ownsRow w.heap.size T k (.slice A ys.length c) ys.length (ys.flatMap enc) ∧ Below w.heap.size w w'
/-- What a function that marks a slice of its caller's own ends in. -/
def MarkRes (T k : Nat) (lo : Nat) (v : Value) (n : Nat) (ys : List Value) (r : Int) (w : World) (e : Ending) (w' : World) : Prop :=
  e = .returned (.int .i64 r) ∧ w'.ownsRow lo T k v n ys ∧ w.grownBy w' v.ownBlock
/-- What a function that hands back a new slice with these elements ends in. -/
def OwnRes {α : Type} (T k : Nat) (enc : α → List Value) (xs : List α) (w : World) (e : Ending) (w' : World) : Prop :=
  ∃ A c, e = .returned (.slice A xs.length c) ∧ w'.ownsRow w.heap.size T k (.slice A xs.length c) xs.length (xs.flatMap enc) ∧ Below w.heap.size w w'

/-! ### A region that draws its order, walked once, in the class of all worlds that have only grown -/
structure Ext (w : World) where
  v : World
  h : Below w.heap.size w v
instance {w : World} : Nonempty (Ext w) := ⟨⟨w, Below.refl _ _⟩⟩
@[go_sem] theorem Ext.cell {w : World} (i : Ext w) {b o : Nat} (h : b < w.heap.size) : i.v.cell? ⟨b, o, none⟩ = w.cell? ⟨b, o, none⟩ := (bcell i.h).1 b o h
@[go_sem] theorem alloc_cell_lt {w : World} {o : Obj} {b x : Nat} (h : b < w.heap.size) : (w.alloc o).cell? ⟨b, x, none⟩ = w.cell? ⟨b, x, none⟩ := World.cell?_alloc_lt w o ⟨b, x, none⟩ h
theorem wp_region_ext {P : Program} {id : Nat} {Q : Exit → Act → World → Prop} {a : Act} {w : World} {l : List Oper} (hm : P.follows .mixedOrders = true) (hB : Region.lexB .any l.toArray = true)
    (h : wpQuiet P l.toArray (fun w' => ∃ i : Ext w, w' = i.v) (fun a' => ∀ w', Below w.heap.size w w' → Q .normal a' w') l a) : (Code.region id l.toArray true).wp P Q a w := by
  refine wp_region_quiet (C := fun w' => ∃ i : Ext w, w' = i.v) hm hB ⟨⟨w.drew, ⟨rfl, rfl, rfl, Nat.le_refl _, fun _ _ => rfl⟩⟩, rfl⟩ ?_
  have e : (fun a' => ∀ w', (∃ i : Ext w, w' = i.v) → Q .normal a' w') = (fun a' => ∀ w', Below w.heap.size w w' → Q .normal a' w') := by
    funext a'
    exact propext ⟨fun h w' hb => h w' ⟨⟨w', hb⟩, rfl⟩, fun h w' ⟨i, hi⟩ => by subst hi; exact h _ i.h⟩
  rw [e]
  simpa using h
theorem ext_same {P : Program} {f : FuncId} {args : Array Value} {w : World} {i : Ext w} {v : Value} (h : Calls P f args i.v fun e w' => e = .returned v ∧ i.v = w') :
    Calls P f args i.v fun e w'' => e = .returned v ∧ ∃ j : Ext w, w'' = j.v := h.mono fun _ _ ⟨he, hm⟩ => ⟨he, i, hm.symm⟩
theorem ext_below {P : Program} {f : FuncId} {args : Array Value} {w : World} {i : Ext w} {v : Value} (h : Calls P f args i.v fun e w' => e = .returned v ∧ Below i.v.heap.size i.v w') :
    Calls P f args i.v fun e w'' => e = .returned v ∧ ∃ j : Ext w, w'' = j.v :=
  h.mono fun _ w'' ⟨he, hm⟩ => ⟨he, ⟨w'', i.h.trans (hm.mono i.h.size)⟩, rfl⟩

/-- A call of a function with a body enters it. -/
theorem callFunc_enter {P : Program} {F : FuncId} {fn : Func} (hf : P.funcs[F]? = some fn) (hn : (fn.name == "runtime.NumGoroutine") = false) (hb : fn.body.isNone = false) (args : Array Value) (w : World) :
    (callFunc F args).run P w = .ok (.enter F args) w := by
  have hn' : fn.name ≠ "runtime.NumGoroutine" := by simpa using hn
  have hb' : fn.body ≠ none := by intro h0; rw [h0] at hb; cases hb
  simp [callFunc, hf, hn', hb']

/-! ### Small arithmetic of the program -/
def inB (n lo hi : Int) : Bool := decide (lo ≤ n) && decide (n ≤ hi)
theorem inB_true {n lo hi : Int} : inB n lo hi = true ↔ lo ≤ n ∧ n ≤ hi := by simp [inB]
theorem inB_false {n lo hi : Int} : inB n lo hi = false ↔ ¬ (lo ≤ n ∧ n ≤ hi) := by rw [← inB_true]; simp
def absI (n : Int) : Int := if n < 0 then -n else n
theorem tdiv_bd (a b : Int) (h1 : -4000000000000000000 ≤ a) (h2 : a ≤ 4000000000000000000) (hb : 0 < b) : -4000000000000000000 ≤ a.tdiv b ∧ a.tdiv b ≤ 4000000000000000000 := by
  have h := Int.natAbs_tdiv_le_natAbs a b
  omega
theorem ediv_uniq {a b q r : Int} (hb : 0 < b) (h : a = b * q + r) (h0 : 0 ≤ r) (h1 : r < b) : a / b = q := by
  rw [h, Int.add_comm, Int.add_mul_ediv_left _ _ (by omega), Int.ediv_eq_zero_of_lt h0 h1]; omega
theorem floor_neg {a b : Int} (hb : 0 < b) (h : a.tmod b < 0) : a.tdiv b - 1 = a / b := by
  have e := Int.mul_tdiv_add_tmod a b
  have l := Int.natAbs_tmod a b
  have l2 : (a.natAbs % b.natAbs) < b.natAbs := Nat.mod_lt _ (by omega)
  refine (ediv_uniq (r := a.tmod b + b) hb ?_ (by omega) (by omega)).symm
  rw [Int.mul_sub]; omega
theorem floor_pos {a b : Int} (hb : 0 < b) (h : 0 ≤ a.tmod b) : a.tdiv b = a / b := by
  have e := Int.mul_tdiv_add_tmod a b
  have l := Int.natAbs_tmod a b
  have l2 : (a.natAbs % b.natAbs) < b.natAbs := Nat.mod_lt _ (by omega)
  exact (ediv_uniq hb e.symm h (by omega)).symm
theorem ediv_bd (a b B : Int) (h1 : -B ≤ a) (h2 : a ≤ B) (hb : 0 < b) : -B ≤ a / b ∧ a / b ≤ B := by
  constructor
  · rw [Int.le_ediv_iff_mul_le hb]
    have : -B * b ≤ -B * 1 := Int.mul_le_mul_of_nonpos_left (by omega) (by omega)
    omega
  · rcases Int.lt_or_le a 0 with h | h
    · have := Int.ediv_neg_of_neg_of_pos h hb; omega
    · have := Int.ediv_le_self b h; omega
theorem emod_bd (a b : Int) (hb : 0 < b) : 0 ≤ a % b ∧ a % b < b := ⟨Int.emod_nonneg _ (by omega), Int.emod_lt_of_pos _ hb⟩
theorem sub_div_mul (a b : Int) : a - a / b * b = a % b := by rw [Int.emod_def, Int.mul_comm]
theorem mul_bd {a b A B : Int} (h1 : -A ≤ a) (h2 : a ≤ A) (h3 : -B ≤ b) (h4 : b ≤ B) : -(A * B) ≤ a * b ∧ a * b ≤ A * B := by
  have hA : 0 ≤ A := by omega
  have hB : 0 ≤ B := by omega
  have : (a * b).natAbs ≤ (A * B).natAbs := by
    rw [Int.natAbs_mul, Int.natAbs_mul]; exact Nat.mul_le_mul (by omega) (by omega)
  have h0 : 0 ≤ A * B := Int.mul_nonneg hA hB
  omega
theorem divmul_bd (a b B : Int) (h1 : -B ≤ a) (h2 : a ≤ B) (hb : 0 < b) (hb2 : b ≤ B) : -(2*B) ≤ a / b * b ∧ a / b * b ≤ 2*B := by
  have e := sub_div_mul a b
  have m := emod_bd a b hb
  omega
/-- The nearest integer of a quotient. -/
def nearI (a b : Int) : Int := if b - a % b ≤ a % b then a / b + 1 else a / b
theorem nearI_round (a b : Int) (hb : 0 < b) : nearI a b = (2 * a + b) / (2 * b) := by
  have e := Int.emod_def a b
  have m := emod_bd a b hb
  unfold nearI
  split
  · rename_i h
    refine (ediv_uniq (r := 2 * (a % b) - b) (by omega) ?_ (by omega) (by omega)).symm
    rw [e, Int.mul_add, Int.mul_assoc]; omega
  · rename_i h
    refine (ediv_uniq (r := 2 * (a % b) + b) (by omega) ?_ (by omega) (by omega)).symm
    rw [e, Int.mul_assoc]; omega
/-- The index of the first element that is wanted, told from k on; -1 if there is none. -/
def idxF {α : Type} (f : α → Bool) (k : Nat) : List α → Int
  | [] => -1
  | x :: r => if f x = true then (k : Int) else idxF f (k + 1) r
theorem idxF_any' {α : Type} (f : α → Bool) : ∀ (xs : List α) (k : Nat), decide (0 ≤ idxF f k xs) = xs.any f
  | [], _ => by simp [idxF]
  | x :: r, k => by
    by_cases h : f x = true
    · simp [idxF, h]
    · simp only [idxF, h, List.any_cons]
      simpa using idxF_any' f r (k + 1)
theorem idxF_any {α : Type} (f : α → Bool) (xs : List α) : decide (0 ≤ idxF f 0 xs) = xs.any f := idxF_any' f xs 0
theorem any_not {α : Type} (f : α → Bool) : ∀ xs : List α, (xs.any fun x => !f x) = !xs.all f
  | [] => rfl
  | x :: r => by simp only [List.any_cons, List.all_cons, any_not f r, Bool.not_and]
def same2 {α : Type} (f : α → α → Bool) : List α → List α → Bool
  | x :: r, y :: s => f x y && same2 f r s
  | _, _ => true
/-- Two lists are of one length and equal element by element. -/
def sameL {α : Type} (f : α → α → Bool) (xs ys : List α) : Bool := decide (ys.length = xs.length) && same2 f xs ys
theorem sameL_len {α : Type} {f : α → α → Bool} {xs ys : List α} (h : ys.length = xs.length) : sameL f xs ys = same2 f xs ys := by simp [sameL, h]
theorem sameL_ne {α : Type} {f : α → α → Bool} {xs ys : List α} (h : ¬ ys.length = xs.length) : sameL f xs ys = false := by simp [sameL, h]
/-- The numbers below n that are wanted. -/
def idxW (f : Nat → Bool) (n : Nat) : List Int := ((List.range n).filter f).map fun (i : Nat) => (i : Int)
theorem idxW_yes {f : Nat → Bool} {k : Nat} (h : f k = true) : idxW f (k + 1) = idxW f k ++ [(k : Int)] := by simp [idxW, List.range_succ, h]
theorem idxW_no {f : Nat → Bool} {k : Nat} (h : f k = false) : idxW f (k + 1) = idxW f k := by simp [idxW, List.range_succ, h]
theorem idxW_len (f : Nat → Bool) (n : Nat) : (idxW f n).length ≤ n := by
  have := List.length_filter_le f (List.range n)
  simpa [idxW] using this
structure Pt where
  t : Int
  m : Int
def encPt (p : Pt) : List Value := [.int .i64 p.t, .int .i64 p.m]
def encI (n : Int) : List Value := [.int .i64 n]
def szI (left : Int) (n : Nat) : Int := if left < n then -1 else left - n
structure Al where
  b : Int
  e : Int
  p : Int
def encAl (x : Al) : List Value := [.int .i64 x.b, .int .i64 x.e, .int .i64 x.p]
def encBo (b : Bool) : List Value := [.bool b]
structure Wi where
  f : Int
  t : Int
def encWi (x : Wi) : List Value := [.int .i64 x.f, .int .i64 x.t]
structure Rq where
  s : ByteArray
  f : Int
  t : Int
  n : Int
  d : Int
  p : Int
def encRq (x : Rq) : List Value := [.string x.s, .int .i64 x.f, .int .i64 x.t, .int .i64 x.n, .int .i64 x.d, .int .i64 x.p]
structure Lk where
  a : Int
  b : Int
  d : Int
def encLk (l : Lk) : List Value := [.int .i64 l.a, .int .i64 l.b, .int .i64 l.d]
end Go.Proofs.YtdklchklpmabdaaDoor
