/- Contract: the reference's walk through the lists of links. -/
import Derived.Test.YtalongdieglibaaC20y
import Derived.Test.YtalongdieglibaaC20t
import Derived.Test.YtalongdieglibaaCCopy
namespace Go.Proofs.Ytalongdieglibaa
open Go.RowKit
set_option linter.unusedVariables false
theorem grown_all {a b : World} {row : Option Nat} (h : Below a.heap.size a b) : a.grownBy b row := ⟨h.os, h.tape, h.output, h.size, fun i hi _ => h.block i hi⟩
theorem grown_frz {w w' : World} {row : Option Nat} (hg : w.grownBy w' row) {b o : Nat} {v : Bool} (hb : b < w.heap.size) (h : w.frozen? ⟨b, o, none⟩ = v) (hne : some b ≠ row) : w'.frozen? ⟨b, o, none⟩ = v :=
  (World.frozen?_of_block (a := ⟨b, o, none⟩) (hg.block b hb hne)).trans h
theorem Rd.grown {α : Type} {enc : α → List Value} {k B : Nat} {w w' : World} {A : Option Addr} {xs : List α} {p : Nat} (h : Rd enc k w B A xs) (hg : w.grownBy w' (some p)) (hB : B ≤ w.heap.size) (hne : ∀ b o, A = some ⟨b, o, none⟩ → b ≠ p) : Rd enc k w' B A xs := fun hx => by
  obtain ⟨b, o, e, hb, hc⟩ := h hx
  refine ⟨b, o, e, hb, fun i x hi j v hj => ?_⟩
  rw [← hc i x hi j v hj]
  exact World.cell?_of_block (hg.block b (by omega) (by simpa using hne b o e))
theorem rise_len : ∀ {L : List Int} {a b : Int}, L.Pairwise (fun a b => a < b) → (∀ x ∈ L, a ≤ x ∧ x < b) → a ≤ b → (L.length : Int) ≤ b - a
  | [], a, b, _, _, h => by simp; omega
  | x :: r, a, b, h, hx, hab => by
    rw [List.pairwise_cons] at h
    have h1 := hx x List.mem_cons_self
    have h2 := rise_len (a := x + 1) (b := b) h.2 (fun y hy => by have := h.1 y hy; have := hx y (List.mem_cons_of_mem _ hy); omega) (by omega)
    rw [List.length_cons]; omega
theorem AscW.len {m : Nat} {g : List Int} (h : AscW m g) : g.length ≤ m := by
  have := rise_len h.1 (a := 0) (b := m) h.2 (by omega)
  omega
theorem susW_asc {m : Nat} {s g : List Int} (hs : AscW m s) (hg : AscW m g) : AscW m (susW s g) :=
  ⟨susW_rise hs.1, fun x hx => ((susW_mem g s x).1 hx).elim (hs.2 x) (hg.2 x)⟩
theorem runW_asc {ok : List Int → Bool} {m : Nat} : ∀ {L : List (List Int)} {st : Wn}, AscW m st.s → (∀ g ∈ L, AscW m g) → AscW m (runW ok st L).s
  | [], st, h, _ => h
  | g :: r, st, h, hL => by
    show AscW m (runW ok (stW ok st g) r).s
    refine runW_asc ?_ (fun x hx => hL x (List.mem_cons_of_mem _ hx))
    unfold stW
    split
    · exact susW_asc h (hL g List.mem_cons_self)
    · exact h
theorem runW_bd {ok : List Int → Bool} (L : List (List Int)) (st : Wn) : st.m ≤ (runW ok st L).m ∧ (runW ok st L).m ≤ st.m + L.length := by
  rw [runW_m]
  have := List.length_filter_le ok L
  omega
theorem flatMap_len {α β : Type} (f : α → List β) (B : Nat) : ∀ (L : List α), (∀ x ∈ L, (f x).length ≤ B) → (L.flatMap f).length ≤ L.length * B
  | [], _ => by simp
  | x :: r, h => by
    have h1 := h x List.mem_cons_self
    have h2 := flatMap_len f B r fun y hy => h y (List.mem_cons_of_mem _ hy)
    rw [List.flatMap_cons, List.length_append, List.length_cons, Nat.succ_mul]
    omega
theorem combW_len {m : Nat} (hm : m ≤ 12) : ∀ (k : Nat) (pre : List Int) (i : Nat), (combW m k pre i).length ≤ 12 ^ k
  | 0, pre, i => by simp [combW]
  | k + 1, pre, i => by
    have h1 := flatMap_len (fun (j : Nat) => combW m k (pre ++ [(j : Int)]) (j + 1)) (12 ^ k) (List.range' i (m - i)) fun j _ => combW_len hm k _ _
    unfold combW
    refine Nat.le_trans h1 ?_
    rw [List.length_range', Nat.pow_succ, Nat.mul_comm (12 ^ k)]
    exact Nat.mul_le_mul_right _ (by omega)
theorem combW_few {m k : Nat} {pre : List Int} {i : Nat} (hm : m ≤ 12) (hk : k ≤ 12) : (combW m k pre i).length ≤ 8916100448256 := by
  refine Nat.le_trans (combW_len hm k pre i) ?_
  refine Nat.le_trans (Nat.pow_le_pow_right (by omega) hk) (by decide)
/-- What the reference's notes say. -/
structure SWx (w : World) (p lo n m : Nat) (AL : Option Addr) (cL : Nat) (AF : Option Addr) (cF : Nat) (AU : Option Addr) (cU : Nat) (st : Wn) : Prop where
  lp : p < w.heap.size
  c0 : w.cell? ⟨p, 0, none⟩ = some (.int .i64 (n : Int))
  c1 : w.cell? ⟨p, 1, none⟩ = some (.slice AL m cL)
  c2 : w.cell? ⟨p, 2, none⟩ = some (.slice AF st.f.length cF)
  c3 : w.cell? ⟨p, 3, none⟩ = some (.slice AU st.s.length cU)
  c4 : w.cell? ⟨p, 4, none⟩ = some (.int .i64 st.m)
  f2 : w.frozen? ⟨p, 2, none⟩ = false
  f3 : w.frozen? ⟨p, 3, none⟩ = false
  f4 : w.frozen? ⟨p, 4, none⟩ = false
  oF : w.ownsRow lo 2 1 (.slice AF st.f.length cF) st.f.length (st.f.flatMap encI)
  oU : w.ownsRow lo 2 1 (.slice AU st.s.length cU) st.s.length (st.s.flatMap encI)
  nF : ∀ b o, AF = some ⟨b, o, none⟩ → b ≠ p
  nU : ∀ b o, AU = some ⟨b, o, none⟩ → b ≠ p
def SW (w : World) (p lo n m : Nat) (AL : Option Addr) (cL : Nat) (st : Wn) : Prop := ∃ AF cF AU cU, SWx w p lo n m AL cL AF cF AU cU st
theorem SWx.below {w w' : World} {p lo n m : Nat} {AL : Option Addr} {cL : Nat} {AF : Option Addr} {cF : Nat} {AU : Option Addr} {cU : Nat} {st : Wn} (h : SWx w p lo n m AL cL AF cF AU cU st) (hb : Below w.heap.size w w') : SWx w' p lo n m AL cL AF cF AU cU st := by
  obtain ⟨hc, hf⟩ := bcell hb
  exact ⟨Nat.lt_of_lt_of_le h.lp hb.size, (hc _ _ h.lp).trans h.c0, (hc _ _ h.lp).trans h.c1, (hc _ _ h.lp).trans h.c2, (hc _ _ h.lp).trans h.c3, (hc _ _ h.lp).trans h.c4, (hf _ _ h.lp).trans h.f2, (hf _ _ h.lp).trans h.f3, (hf _ _ h.lp).trans h.f4, own_below h.oF hb (Nat.le_refl _), own_below h.oU hb (Nat.le_refl _), h.nF, h.nU⟩
theorem own_ne_blk {w : World} {lo n c p : Nat} {A : Option Addr} {e : TypeId} {size : Nat} {ys : List Value} (h : w.ownsRow lo e size (.slice A n c) n ys) (hne : ∀ b o, A = some ⟨b, o, none⟩ → b ≠ p) : (Value.slice A n c).ownBlock = none ∨ (Value.slice A n c).ownBlock ≠ some p := by
  rcases h.2 with ⟨e, _⟩ | ⟨g, cap, cur, e, _⟩
  · cases e; exact .inl rfl
  · cases e
    exact .inr (by simpa [Value.ownBlock] using hne g 0 rfl)
theorem SWx.set {w : World} {p lo n m : Nat} {AL : Option Addr} {cL : Nat} {AF : Option Addr} {cF : Nat} {AU : Option Addr} {cU : Nat} {st : Wn} (h : SWx w p lo n m AL cL AF cF AU cU st) :
    (∀ {A : Option Addr} {c : Nat} {g : List Int}, w.ownsRow lo 2 1 (.slice A g.length c) g.length (g.flatMap encI) → (∀ b o, A = some ⟨b, o, none⟩ → b ≠ p) → SWx (w.setCell ⟨p, 2, none⟩ (.slice A g.length c)) p lo n m AL cL A c AU cU ⟨g, st.s, st.m⟩)
    ∧ (∀ {A : Option Addr} {c : Nat} {g : List Int}, w.ownsRow lo 2 1 (.slice A g.length c) g.length (g.flatMap encI) → (∀ b o, A = some ⟨b, o, none⟩ → b ≠ p) → SWx (w.setCell ⟨p, 3, none⟩ (.slice A g.length c)) p lo n m AL cL AF cF A c ⟨st.f, g, st.m⟩)
    ∧ ∀ k : Int, SWx (w.setCell ⟨p, 4, none⟩ (.int .i64 k)) p lo n m AL cL AF cF AU cU ⟨st.f, st.s, k⟩ := by
  have h0 := h.c0; have h1 := h.c1; have h2 := h.c2; have h3 := h.c3; have h4 := h.c4
  have g2 := h.f2; have g3 := h.f3; have g4 := h.f4
  refine ⟨fun {A c g} own hne => ?_, fun {A c g} own hne => ?_, fun k => ?_⟩
  · refine ⟨by simpa using h.lp, ?_, ?_, ?_, ?_, ?_, ?_, ?_, ?_, own.kept (grown_set w p 2 _) (own_ne_blk own hne), h.oU.kept (grown_set w p 2 _) (own_ne_blk h.oU h.nU), hne, h.nU⟩ <;> simp [go_sem, h0, h1, h2, h3, h4, g2, g3, g4]
  · refine ⟨by simpa using h.lp, ?_, ?_, ?_, ?_, ?_, ?_, ?_, ?_, h.oF.kept (grown_set w p 3 _) (own_ne_blk h.oF h.nF), own.kept (grown_set w p 3 _) (own_ne_blk own hne), h.nF, hne⟩ <;> simp [go_sem, h0, h1, h2, h3, h4, g2, g3, g4]
  · refine ⟨by simpa using h.lp, ?_, ?_, ?_, ?_, ?_, ?_, ?_, ?_, h.oF.kept (grown_set w p 4 _) (own_ne_blk h.oF h.nF), h.oU.kept (grown_set w p 4 _) (own_ne_blk h.oU h.nU), h.nF, h.nU⟩ <;> simp [go_sem, h0, h1, h2, h3, h4, g2, g3, g4]
end Go.Proofs.Ytalongdieglibaa
