/- Contract: a rule read, in the program. -/
import Derived.Test.YtdklchklpmabdaaDoorCRdI
namespace Go.Proofs.YtdklchklpmabdaaDoor
open Go.RowKit
set_option linter.unusedVariables false
theorem idx_sh (x : ByteArray) : Lib.idxOfS [shT 0, shT 1, shT 2, shT 3] x = shI x.data.toList := by
  have hx : ∀ k, (shT k = x) ↔ (x.data.toList = shL k) := fun k => ⟨fun h => by rw [← h]; rfl, fun h => ba_eq (by rw [h]; rfl)⟩
  have e0 : shL 0 = [97, 110, 121] := rfl
  have e1 : shL 1 = [115, 105, 110, 101] := rfl
  have e2 : shL 2 = [115, 97, 119] := rfl
  have e3 : shL 3 = [100, 105, 112, 115] := rfl
  have h0 := hx 0; have h1 := hx 1; have h2 := hx 2; have h3 := hx 3
  rw [e0] at h0; rw [e1] at h1; rw [e2] at h2; rw [e3] at h3
  unfold Lib.idxOfS shI
  simp only [Lib.idxFromS]
  by_cases g0 : shT 0 = x
  · rw [if_pos g0, if_pos (h0.1 g0)]; rfl
  · rw [if_neg g0, if_neg (fun e => g0 (h0.2 e))]
    by_cases g1 : shT 1 = x
    · rw [if_pos g1, if_pos (h1.1 g1)]; rfl
    · rw [if_neg g1, if_neg (fun e => g1 (h1.2 e))]
      by_cases g2 : shT 2 = x
      · rw [if_pos g2, if_pos (h2.1 g2)]; rfl
      · rw [if_neg g2, if_neg (fun e => g2 (h2.2 e))]
        by_cases g3 : shT 3 = x
        · rw [if_pos g3, if_pos (h3.1 g3)]; rfl
        · rw [if_neg g3, if_neg (fun e => g3 (h3.2 e))]
theorem cell_add1 (g k : Nat) : (⟨g, 0, none⟩ : Addr).add k = ⟨g, k, none⟩ := by simp [Addr.add]; try (intro e; exact e.symm)
def vR : Option Ru → Value
  | some r => .agg #[.string r.s, .int .i64 r.fa, .int .i64 r.ta, .int .i64 r.fp, .int .i64 r.tp, .int .i64 r.sh]
  | none => .agg #[.string ⟨#[]⟩, .int .i64 0, .int .i64 0, .int .i64 0, .int .i64 0, .int .i64 0]
def RRes (s : ByteArray) (w : World) (e : Ending) (w' : World) : Prop := e = .returned (.tuple #[vR (rrV s), .bool (rrV s).isSome]) ∧ Below w.heap.size w w'
theorem RRes.none {s : ByteArray} {w w' : World} (h : rrV s = Option.none) (hb : Below w.heap.size w w') : RRes s w (.returned (.tuple #[vR Option.none, .bool false])) w' := ⟨by rw [h]; rfl, hb⟩
theorem RRes.some {s : ByteArray} {r : Ru} {w w' : World} (h : rrV s = Option.some r) (hb : Below w.heap.size w w') : RRes s w (.returned (.tuple #[vR (Option.some r), .bool true])) w' := ⟨by rw [h]; rfl, hb⟩
theorem sidx_any (b : Nat) (x : ByteArray) (w : World) (h : ∀ k, k < 4 → w.cell? ⟨b, k, none⟩ = some (.string (shT k))) :
    Calls Tryd.prog 13 #[.slice (some ⟨b, 0, none⟩) 4 4, .string x] w fun e w' => e = .returned (.int .i64 (shI x.data.toList)) ∧ w' = w := by
  have C := AnyG.slices_Index_string sidxL b 0 4 4 [shT 0, shT 1, shT 2, shT 3] x w (by decide) (by decide) (fun j hj => by
    rw [Nat.zero_add]
    have hj4 : j < 4 := hj
    rw [h j hj4]
    have : j = 0 ∨ j = 1 ∨ j = 2 ∨ j = 3 := by omega
    rcases this with rfl | rfl | rfl | rfl <;> rfl)
  rw [show ([shT 0, shT 1, shT 2, shT 3] : List ByteArray).take 4 = [shT 0, shT 1, shT 2, shT 3] from rfl, idx_sh] at C
  exact C
/-- The cells of the result, still empty. -/
def ZB (w : World) (r : Nat) : Prop := r < w.heap.size ∧ w.cell? ⟨r, 0, none⟩ = some (.string ⟨#[]⟩) ∧ w.cell? ⟨r, 1, none⟩ = some (.int .i64 0) ∧ w.cell? ⟨r, 2, none⟩ = some (.int .i64 0) ∧ w.cell? ⟨r, 3, none⟩ = some (.int .i64 0) ∧ w.cell? ⟨r, 4, none⟩ = some (.int .i64 0) ∧ w.cell? ⟨r, 5, none⟩ = some (.int .i64 0) ∧ w.frozen? ⟨r, 0, none⟩ = false ∧ w.frozen? ⟨r, 1, none⟩ = false ∧ w.frozen? ⟨r, 2, none⟩ = false ∧ w.frozen? ⟨r, 3, none⟩ = false ∧ w.frozen? ⟨r, 4, none⟩ = false ∧ w.frozen? ⟨r, 5, none⟩ = false
theorem ZB.below {w w' : World} {r : Nat} (h : ZB w r) (hb : Below w.heap.size w w') : ZB w' r := by
  obtain ⟨z, c0, c1, c2, c3, c4, c5, f0, f1, f2, f3, f4, f5⟩ := h
  obtain ⟨hc, hf⟩ := bcell hb
  exact ⟨Nat.lt_of_lt_of_le z hb.size, (hc _ _ z).trans c0, (hc _ _ z).trans c1, (hc _ _ z).trans c2, (hc _ _ z).trans c3, (hc _ _ z).trans c4, (hc _ _ z).trans c5, (hf _ _ z).trans f0, (hf _ _ z).trans f1, (hf _ _ z).trans f2, (hf _ _ z).trans f3, (hf _ _ z).trans f4, (hf _ _ z).trans f5⟩
set_option maxRecDepth 20000 in
set_option maxHeartbeats 4000000 in
theorem implReadRule_any (s : ByteArray) (hs : s.size ≤ 1048576) (w : World) (hw : GW w) :
    Calls Tryd.prog 5 #[.string s] w (RRes s w) := by
  have hb0 : Below w.heap.size w (w.alloc (.cells #[.string ⟨#[]⟩, .int .i64 0, .int .i64 0, .int .i64 0, .int .i64 0, .int .i64 0] 23)) := (by repeat (first | assumption | exact Below.refl _ _ | apply Below.al | apply Below.drewN' | apply Below.drew | (apply Below.tr; assumption)))
  have hw0 := hw.below hb0
  have Z0 : ZB (w.alloc (.cells #[.string ⟨#[]⟩, .int .i64 0, .int .i64 0, .int .i64 0, .int .i64 0, .int .i64 0] 23)) w.heap.size := ⟨by simp, by simp [go_sem], by simp [go_sem], by simp [go_sem], by simp [go_sem], by simp [go_sem], by simp [go_sem], by simp [go_sem], by simp [go_sem], by simp [go_sem], by simp [go_sem], by simp [go_sem], by simp [go_sem]⟩
  have zw : w.heap.size < (w.alloc (.cells #[.string ⟨#[]⟩, .int .i64 0, .int .i64 0, .int .i64 0, .int .i64 0, .int .i64 0] 23)).heap.size := by simp
  go_enter Tryd.func5, Tryd.ntmps5
  go_wp2_with fail
  generalize (w.alloc (.cells #[.string ⟨#[]⟩, .int .i64 0, .int .i64 0, .int .i64 0, .int .i64 0, .int .i64 0] 23)) = w0 at *
  obtain ⟨r0, hr0⟩ : ∃ r0, w.heap.size = r0 := ⟨_, rfl⟩
  rw [hr0] at Z0 ⊢
  refine (splitW_any s hs w0 hw0).mono ?_
  rintro e w1 ⟨ys, hy, rfl, hw1⟩
  have b1 : Below w0.heap.size w0 w1 := by rw [hw1]; exact (by repeat (first | assumption | exact Below.refl _ _ | apply Below.al | apply Below.drewN' | apply Below.drew | (apply Below.tr; assumption)))
  have cy : ∀ (j : Nat) (y : ByteArray), ys[j]? = some y → w1.cell? ⟨w0.heap.size, j, none⟩ = some (.string y) := fun j y hj => by
    rw [hw1]
    have := news_at w0 (ys.map Value.string) 9 j (.string y) (by rw [List.getElem?_map, hj]; rfl)
    rwa [cell_add1] at this
  have sz := fun y (h : y ∈ ys) => ys_size hy h
  have Z1 := Z0.below b1
  have zy : w0.heap.size < w1.heap.size := by rw [hw1]; simp
  have hW1 := hw0.below b1
  have B1 : Below w.heap.size w w1 := Below.tr b1 hb0
  have hy := hid hy
  clear hw1 b1 Z0 hw0
  generalize w0.heap.size = yb at *
  by_cases h6 : ys.length = 6
  · match ys, h6 with
    | [y0, y1, y2, y3, y4, y5], _ =>
      have e0 := cy 0 y0 rfl
      have e2 := cy 2 y2 rfl
      have e4 := cy 4 y4 rfl
      have e5 := cy 5 y5 rfl
      have s0 := sz y0 (by simp)
      have s2 := sz y2 (by simp)
      have s4 := sz y4 (by simp)
      have hW : Hid (wds 32 s.data.toList = [y0.data.toList, y1.data.toList, y2.data.toList, y3.data.toList, y4.data.toList, y5.data.toList]) := hid hy.out.symm
      clear cy sz
      simp only [List.length_cons, List.length_nil]
      go_wp2_with fail
      refine (readRange_any y2 (by omega) w1 hW1).mono ?_
      rintro e w2 ⟨xa, xb, rfl, hx, b2⟩
      have hW2 := hW1.below b2
      have Z2 := Z1.below b2
      have B2 := Below.tr b2 B1
      have e4 := ((bcell b2).1 yb 4 zy).trans e4
      have e5 := ((bcell b2).1 yb 5 zy).trans e5
      have e0 := ((bcell b2).1 yb 0 zy).trans e0
      have zy2 : yb < w2.heap.size := by have := b2.size; omega
      go_wp2_with fail
      refine (readRange_any y4 (by omega) w2 hW2).mono ?_
      rintro e w3 ⟨xc, xd, rfl, hx2, b3⟩
      have hW3 := hW2.below b3
      have Z3 := Z2.below b3
      have B3 := Below.tr b3 B2
      have e5 := ((bcell b3).1 yb 5 zy2).trans e5
      have e0 := ((bcell b3).1 yb 0 zy2).trans e0
      have zy3 : yb < w3.heap.size := by have := b3.size; omega
      clear b2 b3 Z1 Z2 hW1 hW2 B1 B2 e2 e4
      go_wp2
      go_region_held3 (fun w' => w'.cell? ⟨yb, 5, none⟩ = some (.string y5)) (go_keep) ((first | (go_at_call 14; refine (shapeNames_any _).mono ?_; rintro e w5 ⟨rfl, rfl⟩) | (go_at_call 13; refine (sidx_any _ y5 _ (fun k hk => by first | exact shp_cell _ hk | simpa using shp_cell w3 hk | simpa using shp_cell w3.drew hk)).mono ?_; rintro e w6 ⟨rfl, rfl⟩)))
      have b4 : Below w3.heap.size w3 ((w3.alloc (.cells #[.string ⟨#[97, 110, 121]⟩, .string ⟨#[115, 105, 110, 101]⟩, .string ⟨#[115, 97, 119]⟩, .string ⟨#[100, 105, 112, 115]⟩] 9)).drew) := by repeat (first | exact Below.refl _ _ | apply Below.drew | apply Below.al)
      have hW4 := hW3.below b4
      have Z4 := Z3.below b4
      have B4 := Below.tr b4 B3
      have e0 := ((bcell b4).1 yb 0 zy3).trans e0
      have zy4 : yb < ((w3.alloc (.cells #[.string ⟨#[97, 110, 121]⟩, .string ⟨#[115, 105, 110, 101]⟩, .string ⟨#[115, 97, 119]⟩, .string ⟨#[100, 105, 112, 115]⟩] 9)).drew).heap.size := by have := b4.size; omega
      clear b4 Z3 hW3 B3 e5 zy3 zy2
      generalize (w3.alloc (.cells #[.string ⟨#[97, 110, 121]⟩, .string ⟨#[115, 105, 110, 101]⟩, .string ⟨#[115, 97, 119]⟩, .string ⟨#[100, 105, 112, 115]⟩] 9)).drew = w4 at *
      generalize hg2 : rgV y2.data.toList = o2 at *
      generalize hg4 : rgV y4.data.toList = o4 at *
      generalize hg5 : shI y5.data.toList = k at *
      cases o2 with
      | none =>
        have HR : Hid (rrV s = none) := hid (rr_none hW.out (.inl hg2))
        obtain ⟨zz, c0, c1, c2, c3, c4, c5, f0, f1, f2, f3, f4, f5⟩ := Z4
        clear hg2 hg4 hg5 hx hx2
        go_wp2
        refine bodyPost_ret (v := .tuple #[vR none, .bool false]) (by simp [results, Tryd.results5, go_sem, vR, c0, c1, c2, c3, c4, c5]) rfl (RRes.none HR.out (by (repeat refine Below.setCell ?_ (by simp only; omega) _); exact B4))
      | some p =>
        cases o4 with
        | none =>
          have HR : Hid (rrV s = none) := hid (rr_none hW.out (.inr (.inl hg4)))
          obtain ⟨zz, c0, c1, c2, c3, c4, c5, f0, f1, f2, f3, f4, f5⟩ := Z4
          clear hg2 hg4 hg5 hx hx2
          go_wp2
          refine bodyPost_ret (v := .tuple #[vR none, .bool false]) (by simp [results, Tryd.results5, go_sem, vR, c0, c1, c2, c3, c4, c5]) rfl (RRes.none HR.out (by (repeat refine Below.setCell ?_ (by simp only; omega) _); exact B4))
        | some q =>
          by_cases hk : k < 0
          · have HR : Hid (rrV s = none) := hid (rr_none hW.out (.inr (.inr (by rw [hg5]; exact hk))))
            obtain ⟨zz, c0, c1, c2, c3, c4, c5, f0, f1, f2, f3, f4, f5⟩ := Z4
            clear hg2 hg4 hg5 hx hx2
            go_wp2
            refine bodyPost_ret (v := .tuple #[vR none, .bool false]) (by simp [results, Tryd.results5, go_sem, vR, c0, c1, c2, c3, c4, c5]) rfl (RRes.none HR.out (by (repeat refine Below.setCell ?_ (by simp only; omega) _); exact B4))
          · obtain ⟨rfl, rfl⟩ := hx p rfl
            obtain ⟨rfl, rfl⟩ := hx2 q rfl
            have C := Any.strings_TrimSuffix tsufL y0 ⟨#[58]⟩ w4 (by omega)
            have C : Calls Tryd.prog 15 #[.string y0, .string ⟨#[58]⟩] w4 fun e w' => e = .returned (.string ⟨(Lib.trimSuffix y0.data.toList [58]).toArray⟩) ∧ w' = w4 := C
            have HRR := rr_eq hW.out hg2 hg4 (by rw [hg5]; omega)
            rw [hg5] at HRR
            unfold mkR at HRR
            have ht : (⟨(Lib.trimSuffix y0.data.toList [58]).toArray⟩ : ByteArray).size ≤ y0.size := by
              have e1 : (⟨(Lib.trimSuffix y0.data.toList [58]).toArray⟩ : ByteArray).size = (Lib.trimSuffix y0.data.toList [58]).length := by simp [ByteArray.size]
              have e2 : y0.size = y0.data.toList.length := by simp
              rw [e1, e2]
              unfold Lib.trimSuffix
              split
              · simp
              · exact Nat.le_refl _
            generalize (⟨(Lib.trimSuffix y0.data.toList [58]).toArray⟩ : ByteArray) = t at *
            have HRR := hid HRR
            clear hg2 hg4 hg5 hx hx2 hW
            go_wp2_with (go_at_call 15; refine C.mono ?_; rintro e w5 ⟨rfl, rfl⟩)
            have b6 : Below w5.heap.size w5 (w5.alloc (.cells #[.string t, .int .i64 p.1, .int .i64 p.2, .int .i64 q.1, .int .i64 q.2, .int .i64 k] 23)) := (by repeat (first | assumption | exact Below.refl _ _ | apply Below.al | apply Below.drewN' | apply Below.drew | (apply Below.tr; assumption)))
            have B6 := Below.tr b6 B4
            have Z6 := Z4.below b6
            have hW6 := hW4.below b6
            have x0 : (w5.alloc (.cells #[.string t, .int .i64 p.1, .int .i64 p.2, .int .i64 q.1, .int .i64 q.2, .int .i64 k] 23)).cell? ⟨w5.heap.size, 0, none⟩ = some (.string t) := by simp [go_sem]
            have x1 : (w5.alloc (.cells #[.string t, .int .i64 p.1, .int .i64 p.2, .int .i64 q.1, .int .i64 q.2, .int .i64 k] 23)).cell? ⟨w5.heap.size, 1, none⟩ = some (.int .i64 p.1) := by simp [go_sem]
            have x2 : (w5.alloc (.cells #[.string t, .int .i64 p.1, .int .i64 p.2, .int .i64 q.1, .int .i64 q.2, .int .i64 k] 23)).cell? ⟨w5.heap.size, 2, none⟩ = some (.int .i64 p.2) := by simp [go_sem]
            have x3 : (w5.alloc (.cells #[.string t, .int .i64 p.1, .int .i64 p.2, .int .i64 q.1, .int .i64 q.2, .int .i64 k] 23)).cell? ⟨w5.heap.size, 3, none⟩ = some (.int .i64 q.1) := by simp [go_sem]
            have x4 : (w5.alloc (.cells #[.string t, .int .i64 p.1, .int .i64 p.2, .int .i64 q.1, .int .i64 q.2, .int .i64 k] 23)).cell? ⟨w5.heap.size, 4, none⟩ = some (.int .i64 q.2) := by simp [go_sem]
            have x5 : (w5.alloc (.cells #[.string t, .int .i64 p.1, .int .i64 p.2, .int .i64 q.1, .int .i64 q.2, .int .i64 k] 23)).cell? ⟨w5.heap.size, 5, none⟩ = some (.int .i64 k) := by simp [go_sem]
            have zx : w5.heap.size < ((w5.alloc (.cells #[.string t, .int .i64 p.1, .int .i64 p.2, .int .i64 q.1, .int .i64 q.2, .int .i64 k] 23))).heap.size := by simp
            have n0 : r0 < w5.heap.size := Z4.1
            clear b6 Z4 hW4 B4 e0 zy4
            generalize (w5.alloc (.cells #[.string t, .int .i64 p.1, .int .i64 p.2, .int .i64 q.1, .int .i64 q.2, .int .i64 k] 23)) = w6 at *
            generalize w5.heap.size = rb at *
            refine (implRuleText_any t p.1 p.2 q.1 q.2 k w6 hW6.tab (by unfold maxLen; omega)).mono ?_
            rintro e w7 ⟨rfl, b7⟩
            have B7 := Below.tr b7 B6
            obtain ⟨zz, c0, c1, c2, c3, c4, c5, f0, f1, f2, f3, f4, f5⟩ := Z6.below b7
            have x0 := ((bcell b7).1 rb 0 zx).trans x0
            have x1 := ((bcell b7).1 rb 1 zx).trans x1
            have x2 := ((bcell b7).1 rb 2 zx).trans x2
            have x3 := ((bcell b7).1 rb 3 zx).trans x3
            have x4 := ((bcell b7).1 rb 4 zx).trans x4
            have x5 := ((bcell b7).1 rb 5 zx).trans x5
            clear b7 Z6 hW6 B6 C
            by_cases heq : rlT ⟨t, p.1, p.2, q.1, q.2, k⟩ = s
            · have HR : Hid (rrV s = some ⟨t, p.1, p.2, q.1, q.2, k⟩) := hid (by rw [HRR.out, if_pos heq])
              have hq : ((rlT ⟨t, p.1, p.2, q.1, q.2, k⟩).toList == s.toList) = true := (Lib.bytes_beq_iff _ _).2 heq
              clear heq HRR
              go_wp2
              refine bodyPost_ret (v := .tuple #[vR (some ⟨t, p.1, p.2, q.1, q.2, k⟩), .bool true]) (by simp [results, Tryd.results5, go_sem, vR, c0, c1, c2, c3, c4, c5]) rfl (RRes.some HR.out (by (repeat refine Below.setCell ?_ (by simp only; omega) _); exact B7))
            · have HR : Hid (rrV s = none) := hid (by rw [HRR.out, if_neg heq])
              have hq : ((rlT ⟨t, p.1, p.2, q.1, q.2, k⟩).toList == s.toList) = false := (Lib.bytes_beq_false_iff _ _).2 heq
              clear heq HRR
              go_wp2
              refine bodyPost_ret (v := .tuple #[vR none, .bool false]) (by simp [results, Tryd.results5, go_sem, vR, c0, c1, c2, c3, c4, c5]) rfl (RRes.none HR.out (by (repeat refine Below.setCell ?_ (by simp only; omega) _); exact B7))
  · have HR : Hid (rrV s = none) := hid (rr_len (by rw [← hy.out, List.length_map]; exact h6))
    have h6' : ((ys.length : Int) != 6) = true := by simp; omega
    obtain ⟨zz, c0, c1, c2, c3, c4, c5, f0, f1, f2, f3, f4, f5⟩ := Z1
    clear cy sz
    go_wp2
    refine bodyPost_ret (v := .tuple #[vR none, .bool false]) (by simp [results, Tryd.results5, go_sem, vR, c0, c1, c2, c3, c4, c5]) rfl (RRes.none HR.out (by (repeat refine Below.setCell ?_ (by simp only; omega) _); exact B1))
end Go.Proofs.YtdklchklpmabdaaDoor
