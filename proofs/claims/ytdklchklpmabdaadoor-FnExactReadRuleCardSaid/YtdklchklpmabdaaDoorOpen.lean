/- How the arguments of a law are opened: a slice that came in reads as a list of records; the frame's small facts. No law in sight. -/
import Derived.Test.YtdklchklpmabdaaDoorBase
import Derived.ProofKit
import Derived.Deep.RegionHeld3
import Derived.OpenShut
import Derived.ShutString
import Derived.ChangeOld
import Derived.Below
import Derived.Deep.Slices
import Derived.Deep.Fields
import Derived.Lib.SmallJoins
namespace Go.Proofs.YtdklchklpmabdaaDoor
open Go.ChangeShapes Go.WideShapes Go.ChangeAt Go.RowKit Go.Deep
section
variable {H : Type} {enc : TypeId × Value → H} {P : Program} {w : World} {base : Nat} {spare : Nat → Bool} {held : Bool}
theorem _root_.Go.Proofs.YtdklchklpmabdaaDoor.Rd.bm {α : Type} {enc : α → List Value} {k B : Nat} {w w' : World} {A : Option Addr} {xs : List α} (h : Rd enc k w B A xs) (hb : Below B w w') (hB : B ≤ w'.heap.size) : Rd enc k w' w'.heap.size A xs := (h.below hb (Nat.le_refl _)).more hB
theorem ints_of_fields : ∀ (fs : List Field) (m : Nat) (cs : List Value) (ys : List (DataW H × List MemPlace)), ys.length = fs.length → cs.length = fs.length →
    (∀ (i : Nat) (g : Field), fs[i]? = some g → DataW.trod enc P w base spare held m g.type ((cs.drop i).take 1) = ys[i]?) → (∀ g ∈ fs, P.underlying g.type = some (.int .i64)) →
    ∃ ns : List Int, ns.length = fs.length ∧ cs = ns.map (Value.int .i64) ∧ ∀ n ∈ ns, (Lit.int .i64 n).wf = true
  | [], _, cs, _, _, hc, _, _ => ⟨[], rfl, by simpa using hc, by simp⟩
  | g :: fs, m, c :: cs, y :: ys, hy, hc, hf, hi => by
    obtain ⟨n, e0, _, w0⟩ := DataW.trod_int (hi g (by simp)) ((hf 0 g rfl).trans rfl)
    obtain ⟨ns, h1, h2, h3⟩ := ints_of_fields fs m cs ys (by simpa using hy) (by simpa using hc) (fun i g' hg' => by simpa using hf (i + 1) g' (by simpa using hg')) (fun g' hg' => hi g' (by simp [hg']))
    refine ⟨n :: ns, by simp [h1], ?_, ?_⟩
    · simp at e0; simp [e0, h2]
    · intro k hk
      rcases List.mem_cons.1 hk with rfl | hk
      · exact w0
      · exact h3 k hk
  | _ :: _, _, [], _, _, hc, _, _ => by simp at hc
  | _ :: _, _, _ :: _, [], hy, _, _, _ => by simp at hy

/-- A struct whose fields are all of the kind int64, as its cells. -/
theorem dec_ints {e : TypeId} {fs : List Field} (he : P.underlying e = some (.struct fs.toArray)) (hone : oneCellFields P fs.toArray = true) (hC : P.cellsOf e = fs.length) (hi : ∀ g ∈ fs, P.underlying g.type = some (.int .i64))
    {n : Nat} {cs : List Value} {y : DataW H × List MemPlace} (h : DataW.trod enc P w base spare held n e cs = some y) :
    ∃ ns : List Int, ns.length = fs.length ∧ cs = ns.map (Value.int .i64) ∧ ∀ n ∈ ns, (Lit.int .i64 n).wf = true := by
  obtain ⟨ys, m, _, _, hlen, hyl, hf⟩ := DataW.trod_struct he h
  refine ints_of_fields (enc := enc) (w := w) (base := base) (spare := spare) (held := held) (P := P) fs m cs ys (by simpa using hyl) (by rw [hlen, hC]) (fun i g hg => ?_) hi
  obtain ⟨ho, hk⟩ := hone_of hone i g (by simpa using hg)
  have := hf i g (by simpa using hg)
  rwa [ho, hk] at this

theorem list_of_at {α : Type} {p : Nat → α → Prop} : ∀ (n : Nat), (∀ i, i < n → ∃ x, p i x) → ∃ xs : List α, xs.length = n ∧ ∀ (i : Nat) (x : α), xs[i]? = some x → p i x
  | 0, _ => ⟨[], rfl, by simp⟩
  | n + 1, h => by
    obtain ⟨xs, h1, h2⟩ := list_of_at (p := p) n (fun i hi => h i (by omega))
    obtain ⟨x, hx⟩ := h n (by omega)
    refine ⟨xs ++ [x], by simp [h1], fun i z hz => ?_⟩
    by_cases hi : i < n
    · rw [List.getElem?_append_left (by omega)] at hz
      exact h2 i z hz
    · rw [List.getElem?_append_right (by omega)] at hz
      have : i = n := by
        have := (List.getElem?_eq_some_iff.1 hz).1
        simp at this; omega
      subst this
      simp [h1] at hz
      subst hz
      exact hx

theorem rd_open {α : Type} {encA : α → List Value} {wf : α → Prop} {k : Nat} (hk : 0 < k) (hne : ∀ x, (encA x).length = k) {t e : TypeId} {fuel : Nat} {A : Option Addr} {len cap : Nat} {x : DataW H × List MemPlace} (ht : P.underlying t = some (.slice e)) (hC : P.cellsOf e = k)
    (dec : ∀ (n : Nat) (cs : List Value) (y : DataW H × List MemPlace), DataW.trod enc P w base spare held n e cs = some y → ∃ x : α, cs = encA x ∧ wf x)
    (h : DataW.trod enc P w base spare held fuel t [.slice A len cap] = some x) :
    ∃ xs : List α, xs.length = len ∧ Rd encA k w w.heap.size A xs ∧ (∀ x ∈ xs, wf x) ∧ len ≤ maxLen := by
  rcases open_slice ht h with ⟨h0, _⟩ | ⟨a, len', cap', m, n, D, Pl, hcs, hb, hl, hm, hmm, _, hi⟩
  · simp at h0
    obtain ⟨rfl, rfl, rfl⟩ := h0
    exact ⟨[], rfl, fun hx => absurd rfl hx, by simp, by simp⟩
  · simp at hcs
    obtain ⟨rfl, rfl, rfl⟩ := hcs
    have hle : len ≤ m := by rw [hmm]; split <;> omega
    obtain ⟨xs, hx1, hx2⟩ := list_of_at (p := fun i x => (∀ (j : Nat) (v : Value), (encA x)[j]? = some v → w.cell? (a.add (i * k + j)) = some v) ∧ wf x) len (fun i hlt => by
      obtain ⟨cs', hc, htr⟩ := hi i (by omega)
      rw [hC] at hc
      obtain ⟨_, hcl, hat⟩ := World.cells?_some hc
      obtain ⟨x, rfl, hwf⟩ := dec _ _ _ htr
      refine ⟨x, fun j v hv => ?_, hwf⟩
      have hj : j < k := by have := (List.getElem?_eq_some_iff.1 hv).1; rw [hne] at this; exact this
      rw [← add_add, hat j hj, hv])
    refine ⟨xs, hx1, fun hne' => ?_, fun x hx => ?_, by omega⟩
    · obtain ⟨x0, hx0⟩ : ∃ x0, xs[0]? = some x0 := getx (List.length_pos_iff.2 hne')
      obtain ⟨v0, hv0⟩ : ∃ v0, (encA x0)[0]? = some v0 := getx (by rw [hne]; exact hk)
      have h0 := (hx2 0 x0 hx0).1 0 v0 hv0
      obtain ⟨b, o, sp⟩ := a
      have hsp : sp = none := by simpa [Addr.add] using World.cell?_spot h0
      subst hsp
      have hlt := World.block_lt_of_cell? w _ h0
      refine ⟨b, o, rfl, by simpa [Addr.add] using hlt, fun i x hxi j v hv => ?_⟩
      have := (hx2 i x hxi).1 j v hv
      have e : (⟨b, o, none⟩ : Addr).add (i * k + j) = ⟨b, o + i * k + j, none⟩ := by
        unfold Addr.add
        split
        · rename_i h0; simp [Nat.add_assoc, h0]
        · simp [Nat.add_assoc]
      rwa [e] at this
    · obtain ⟨i, hi'⟩ := List.getElem?_of_mem hx
      exact (hx2 i x hi').2

theorem dec_int {e : TypeId} (he : P.underlying e = some (.int .i64)) (n : Nat) (cs : List Value) (y : DataW H × List MemPlace) (h : DataW.trod enc P w base spare held n e cs = some y) :
    ∃ x : Int, cs = encI x ∧ (Lit.int .i64 x).wf = true := by
  obtain ⟨x, e0, _, w0⟩ := DataW.trod_int he h
  exact ⟨x, e0, w0⟩
def encB (n : Int) : List Value := [.int .u8 n]
theorem dec_byte {e : TypeId} (he : P.underlying e = some (.int .u8)) (n : Nat) (cs : List Value) (y : DataW H × List MemPlace) (h : DataW.trod enc P w base spare held n e cs = some y) :
    ∃ x : Int, cs = encB x ∧ (0 ≤ x ∧ x < 256) := by
  obtain ⟨x, e0, _, w0⟩ := DataW.trod_int he h
  refine ⟨x, e0, ?_⟩
  simp [Lit.wf, IntKind.min, IntKind.max, IntKind.signed, IntKind.bits] at w0
  omega
theorem dec_lk {e : TypeId} {f0 f1 f2 : Field} (he : P.underlying e = some (.struct #[f0, f1, f2])) (hone : oneCellFields P #[f0, f1, f2] = true) (hC : P.cellsOf e = 3)
    (h0 : P.underlying f0.type = some (.int .i64)) (h1 : P.underlying f1.type = some (.int .i64)) (h2 : P.underlying f2.type = some (.int .i64))
    (n : Nat) (cs : List Value) (y : DataW H × List MemPlace) (h : DataW.trod enc P w base spare held n e cs = some y) : ∃ x : Lk, cs = encLk x ∧ True := by
  obtain ⟨ns, hl, rfl, _⟩ := dec_ints (fs := [f0, f1, f2]) he hone hC (by simp [h0, h1, h2]) h
  match ns, hl with
  | [a, b, d], _ => exact ⟨⟨a, b, d⟩, rfl, trivial⟩
theorem dec_al {e : TypeId} {f0 f1 f2 : Field} (he : P.underlying e = some (.struct #[f0, f1, f2])) (hone : oneCellFields P #[f0, f1, f2] = true) (hC : P.cellsOf e = 3)
    (h0 : P.underlying f0.type = some (.int .i64)) (h1 : P.underlying f1.type = some (.int .i64)) (h2 : P.underlying f2.type = some (.int .i64))
    (n : Nat) (cs : List Value) (y : DataW H × List MemPlace) (h : DataW.trod enc P w base spare held n e cs = some y) : ∃ x : Al, cs = encAl x ∧ True := by
  obtain ⟨x, hx, _⟩ := dec_lk he hone hC h0 h1 h2 n cs y h
  exact ⟨⟨x.a, x.b, x.d⟩, hx, trivial⟩
theorem dec_pt {e : TypeId} {f0 f1 : Field} (he : P.underlying e = some (.struct #[f0, f1])) (hone : oneCellFields P #[f0, f1] = true) (hC : P.cellsOf e = 2)
    (h0 : P.underlying f0.type = some (.int .i64)) (h1 : P.underlying f1.type = some (.int .i64))
    (n : Nat) (cs : List Value) (y : DataW H × List MemPlace) (h : DataW.trod enc P w base spare held n e cs = some y) : ∃ x : Pt, cs = encPt x ∧ True := by
  obtain ⟨ns, hl, rfl, _⟩ := dec_ints (fs := [f0, f1]) he hone hC (by simp [h0, h1]) h
  match ns, hl with
  | [a, b], _ => exact ⟨⟨a, b⟩, rfl, trivial⟩
theorem dec_wi {e : TypeId} {f0 f1 : Field} (he : P.underlying e = some (.struct #[f0, f1])) (hone : oneCellFields P #[f0, f1] = true) (hC : P.cellsOf e = 2)
    (h0 : P.underlying f0.type = some (.int .i64)) (h1 : P.underlying f1.type = some (.int .i64))
    (n : Nat) (cs : List Value) (y : DataW H × List MemPlace) (h : DataW.trod enc P w base spare held n e cs = some y) : ∃ x : Wi, cs = encWi x ∧ True := by
  obtain ⟨x, hx, _⟩ := dec_pt he hone hC h0 h1 n cs y h
  exact ⟨⟨x.t, x.m⟩, hx, trivial⟩
theorem fields_at {e : TypeId} {fs : Array Field} (he : P.underlying e = some (.struct fs)) (hone : oneCellFields P fs = true) (hC : P.cellsOf e = fs.size)
    {n : Nat} {cs : List Value} {y : DataW H × List MemPlace} (h : DataW.trod enc P w base spare held n e cs = some y) :
    cs.length = fs.size ∧ ∀ (i : Nat) (g : Field), fs[i]? = some g → ∃ (m : Nat) (z : DataW H × List MemPlace), DataW.trod enc P w base spare held m g.type ((cs.drop i).take 1) = some z := by
  obtain ⟨ys, m, _, _, hlen, hyl, hf⟩ := DataW.trod_struct he h
  refine ⟨hlen.trans hC, fun i g hg => ?_⟩
  obtain ⟨ho, hk⟩ := hone_of hone i g hg
  have h1 := hf i g hg
  rw [ho, hk] at h1
  obtain ⟨z, hz⟩ : ∃ z, ys[i]? = some z := getx (by rw [hyl]; exact (Array.getElem?_eq_some_iff.1 hg).1)
  exact ⟨m, z, h1.trans hz⟩
theorem dec_rq {e : TypeId} {f0 f1 f2 f3 f4 f5 : Field} (he : P.underlying e = some (.struct #[f0, f1, f2, f3, f4, f5])) (hone : oneCellFields P #[f0, f1, f2, f3, f4, f5] = true) (hC : P.cellsOf e = 6)
    (h0 : P.underlying f0.type = some .string) (h1 : P.underlying f1.type = some (.int .i64)) (h2 : P.underlying f2.type = some (.int .i64)) (h3 : P.underlying f3.type = some (.int .i64)) (h4 : P.underlying f4.type = some (.int .i64)) (h5 : P.underlying f5.type = some (.int .i64))
    (n : Nat) (cs : List Value) (y : DataW H × List MemPlace) (h : DataW.trod enc P w base spare held n e cs = some y) : ∃ x : Rq, cs = encRq x ∧ x.s.size ≤ maxLen := by
  obtain ⟨hl, hf⟩ := fields_at he hone hC h
  match cs, hl with
  | [a0, a1, a2, a3, a4, a5], _ =>
    obtain ⟨_, _, t0⟩ := hf 0 f0 rfl
    obtain ⟨_, _, t1⟩ := hf 1 f1 rfl
    obtain ⟨_, _, t2⟩ := hf 2 f2 rfl
    obtain ⟨_, _, t3⟩ := hf 3 f3 rfl
    obtain ⟨_, _, t4⟩ := hf 4 f4 rfl
    obtain ⟨_, _, t5⟩ := hf 5 f5 rfl
    obtain ⟨s0, e0, _, w0⟩ := DataW.trod_string h0 t0
    obtain ⟨n1, e1, _, _⟩ := DataW.trod_int h1 t1
    obtain ⟨n2, e2, _, _⟩ := DataW.trod_int h2 t2
    obtain ⟨n3, e3, _, _⟩ := DataW.trod_int h3 t3
    obtain ⟨n4, e4, _, _⟩ := DataW.trod_int h4 t4
    obtain ⟨n5, e5, _, _⟩ := DataW.trod_int h5 t5
    simp at e0 e1 e2 e3 e4 e5
    subst e0 e1 e2 e3 e4 e5
    exact ⟨⟨s0, n1, n2, n3, n4, n5⟩, rfl, w0⟩
end
end Go.Proofs.YtdklchklpmabdaaDoor
