/- Contract: a rule read, in the reference. -/
import Derived.Test.YtdklchklpmabdaaDoorCRdJ
import Derived.BigRegion
namespace Go.Proofs.YtdklchklpmabdaaDoor
open Go.RowKit
set_option linter.unusedVariables false
theorem shI_lo (w : L8) : -1 ≤ shI w ∧ shI w < 4 := by
  unfold shI
  split
  · omega
  · split
    · omega
    · split
      · omega
      · split <;> omega
theorem shI_iff {w : L8} {k : Nat} (hk : k < 4) : shI w = k ↔ w = shL k := by
  constructor
  · intro h
    obtain ⟨k', e1, e2, e3⟩ := shI_at (w := w) (by omega)
    have : k' = k := by omega
    rw [← this]; exact e3
  · rintro rfl
    have : k = 0 ∨ k = 1 ∨ k = 2 ∨ k = 3 := by omega
    rcases this with rfl | rfl | rfl | rfl <;> decide
theorem rr6_bad {w0 w1 w2 w3 w4 w5 : L8} (h : ¬ (w1 = AMP ∧ w3 = PER ∧ w0.getLast? = some 58)) : rr6 w0 w1 w2 w3 w4 w5 = none := by
  unfold rr6; rw [if_neg h]
theorem rr_six {s : ByteArray} {w0 w1 w2 w3 w4 w5 : L8} (h : wds 32 s.data.toList = [w0, w1, w2, w3, w4, w5]) : rrV s = rr6 w0 w1 w2 w3 w4 w5 := by
  unfold rrV; rw [h]
set_option maxRecDepth 20000 in
set_option maxHeartbeats 4000000 in
theorem specReadRule_any (s : ByteArray) (hs : s.size ≤ 1048576) (w : World) :
    Calls Tryd.prog 4 #[.string s] w (RRes s w) := by
  have hb0 : Below w.heap.size w (w.alloc (.cells #[.string ⟨#[]⟩, .int .i64 0, .int .i64 0, .int .i64 0, .int .i64 0, .int .i64 0] 23)) := (by repeat (first | assumption | exact Below.refl _ _ | apply Below.al | apply Below.drewN' | apply Below.drew | (apply Below.tr; assumption)))
  have Z0 : ZB (w.alloc (.cells #[.string ⟨#[]⟩, .int .i64 0, .int .i64 0, .int .i64 0, .int .i64 0, .int .i64 0] 23)) w.heap.size := ⟨by simp, by simp [go_sem], by simp [go_sem], by simp [go_sem], by simp [go_sem], by simp [go_sem], by simp [go_sem], by simp [go_sem], by simp [go_sem], by simp [go_sem], by simp [go_sem], by simp [go_sem], by simp [go_sem]⟩
  have zw : w.heap.size < (w.alloc (.cells #[.string ⟨#[]⟩, .int .i64 0, .int .i64 0, .int .i64 0, .int .i64 0, .int .i64 0] 23)).heap.size := by simp
  go_enter Tryd.func4, Tryd.ntmps4
  go_wp2_with fail
  generalize (w.alloc (.cells #[.string ⟨#[]⟩, .int .i64 0, .int .i64 0, .int .i64 0, .int .i64 0, .int .i64 0] 23)) = w0 at *
  obtain ⟨r0, hr0⟩ : ∃ r0, w.heap.size = r0 := ⟨_, rfl⟩
  rw [hr0] at Z0 ⊢
  have C : Calls Tryd.prog 7 #[.string s, .int .u8 32] w0 (SplRes 32 s w0) := l01Split_any s 32 hs w0
  refine C.mono ?_
  rintro e w1 ⟨ys, Ad, cc, rfl, own, hy, b1⟩
  have sz := fun y (h : y ∈ ys) => ys_size hy h
  have Z1 := Z0.below b1
  have B1 : Below w.heap.size w w1 := Below.tr b1 hb0
  have hy := hid hy
  have H0 := hid own
  clear own Z0 C
  by_cases h6 : ys.length = 6
  · match ys, h6 with
    | [y0, y1, y2, y3, y4, y5], _ =>
      obtain ⟨yb, rfl, zy0, zy⟩ := own_form H0.out (by simp)
      have e0 := cells_at H0.out (j := 0) (y := y0) rfl rfl
      have e1 := cells_at H0.out (j := 1) (y := y1) rfl rfl
      have e2 := cells_at H0.out (j := 2) (y := y2) rfl rfl
      have e3 := cells_at H0.out (j := 3) (y := y3) rfl rfl
      have e4 := cells_at H0.out (j := 4) (y := y4) rfl rfl
      have e5 := cells_at H0.out (j := 5) (y := y5) rfl rfl
      have s0 := sz y0 (by simp)
      have s2 := sz y2 (by simp)
      have s4 := sz y4 (by simp)
      have hW : Hid (rrV s = rr6 y0.data.toList y1.data.toList y2.data.toList y3.data.toList y4.data.toList y5.data.toList) := hid (rr_six hy.out.symm)
      clear sz H0 hy
      simp only [List.length_cons, List.length_nil]
      by_cases q1 : y1.data.toList = AMP
      · have x1 : (y1.toList == [97, 109, 112]) = true := by rw [ByteArray.toList_eq, q1]; rfl
        by_cases q3 : y3.data.toList = PER
        · have x3 : (y3.toList == [112, 101, 114, 105, 111, 100]) = true := by rw [ByteArray.toList_eq, q3]; rfl
          by_cases q0 : y0.size < 1
          · have HR : Hid (rrV s = none) := hid (by
              rw [hW.out]; refine rr6_bad (fun h => ?_)
              have hl : y0.data.toList.length = y0.size := by simp
              have e : y0.data.toList = [] := List.eq_nil_of_length_eq_zero (by rw [hl]; omega)
              have h2 := h.2.2
              rw [e] at h2; cases h2)
            have hq : decide ((y0.size : Int) < 1) = true := by simp; omega
            have hq2 : (y0.size : Int) < 1 := by omega
            clear q1 q3 q0
            go_wp2
            refine wp_region_ext (by kernel_rfl) (by kernel_rfl) ?_
            repeat (go_big_quiet_step ((first | fail)))
            refine wpQuiet_nil ?_
            intro w9 hb9
            obtain ⟨hc_w9, hf_w9⟩ := bcell hb9
            have hz_w9 := hb9.size
            obtain ⟨zz, c0, c1, c2, c3, c4, c5, f0, f1, f2, f3, f4, f5⟩ := Z1.below hb9
            have B9 := Below.tr hb9 B1
            go_wp2
            refine bodyPost_ret (v := .tuple #[vR none, .bool false]) (by simp [results, Tryd.results4, go_sem, vR, c0, c1, c2, c3, c4, c5]) rfl (RRes.none HR.out (by (repeat refine Below.setCell ?_ (by simp only; omega) _); exact B9))
          have hp : y0.size - 1 < y0.size := by omega
          have hq : decide ((y0.size : Int) < 1) = false := by simp; omega
          have hq3 : (0 : Int) ≤ (y0.size : Int) - 1 := by omega
          have hq4 : (y0.size : Int) - 1 < (y0.size : Int) := by omega
          have hq5 : ((y0.size : Int) - 1).toNat = y0.size - 1 := by omega
          have hq6 : IntKind.i64.wrap ((y0.size : Int) - 1) = (y0.size : Int) - 1 := IntWalk.i64_in _ ⟨by omega, by omega⟩
          have ci : (y0.size : Int) - 1 = ((y0.size - 1 : Nat) : Int) := by omega
          by_cases q8 : y0[y0.size - 1].toNat = 58
          · have x8 : ((y0[y0.size - 1].toNat : Int) == 58) = true := by simp [q8]
            have x8' : ((y0[y0.size - 1].toNat : Int) != 58) = false := by simp [q8]
            have hlast : y0.data.toList.getLast? = some 58 := by
              rw [List.getLast?_eq_getElem?]
              have e : y0.data.toList[y0.size - 1]? = some y0[y0.size - 1] := by rw [List.getElem?_eq_getElem (by simpa using hp)]; rfl
              have hl : y0.data.toList.length = y0.size := by simp
              rw [hl, e]
              exact congrArg some (UInt8.toNat_inj.1 (by rw [q8]; rfl))
            have hW2 : Hid (rrV s = (match rgV y2.data.toList, rgV y4.data.toList with | some p, some q => if ruB (mkR y0.data.toList.dropLast p q (shI y5.data.toList)) = true then some (mkR y0.data.toList.dropLast p q (shI y5.data.toList)) else none | _, _ => none)) := hid (by
              rw [hW.out]; unfold rr6; rw [if_pos ⟨q1, q3, hlast⟩]
              cases rgV y2.data.toList <;> cases rgV y4.data.toList <;> rfl)
            have HT : Hid ((⟨y0.data.toList.dropLast.toArray⟩ : ByteArray) = y0.extract 0 (y0.size - 1)) := hid (ba_eq (by
              rw [Lib.extract_from_zero, List.dropLast_eq_take]
              have hl : y0.data.toList.length = y0.size := by simp
              rw [hl]))
            unfold mkR at hW2
            rw [HT.out] at hW2
            have zt : (y0.extract 0 (y0.size - 1)).size ≤ y0.size := by simp
            clear q1 q3 q8 hlast HT hW
            go_wp2
            refine wp_region_ext (by kernel_rfl) (by kernel_rfl) ?_
            repeat (go_big_quiet_step ((first | fail)))
            refine wpQuiet_nil ?_
            intro w9 hb9
            obtain ⟨hc_w9, hf_w9⟩ := bcell hb9
            have hz_w9 := hb9.size
            have Z9 := Z1.below hb9
            have B9 := Below.tr hb9 B1
            have zy9 : yb < w9.heap.size := by have := hb9.size; omega
            have e0 := ((bcell hb9).1 yb 0 zy).trans e0
            have e2 := ((bcell hb9).1 yb 2 zy).trans e2
            have e4 := ((bcell hb9).1 yb 4 zy).trans e4
            have e5 := ((bcell hb9).1 yb 5 zy).trans e5
            clear Z1 B1 hb9 e1 e3 x1 x3 x8 x8'
            go_wp2_with fail
            refine (l18Range_any y2 (by omega) w9).mono ?_
            rintro e w2 ⟨xa, xb, rfl, hx, b2⟩
            have Z2 := Z9.below b2
            have B2 := Below.tr b2 B9
            have zy2 : yb < w2.heap.size := by have := b2.size; omega
            have e0 := ((bcell b2).1 yb 0 zy9).trans e0
            have e4 := ((bcell b2).1 yb 4 zy9).trans e4
            have e5 := ((bcell b2).1 yb 5 zy9).trans e5
            go_wp2_with fail
            refine (l18Range_any y4 (by omega) w2).mono ?_
            rintro e w3 ⟨xc, xd, rfl, hx2, b3⟩
            have Z3 := Z2.below b3
            have B3 := Below.tr b3 B2
            have zy3 : yb < w3.heap.size := by have := b3.size; omega
            have e0 := ((bcell b3).1 yb 0 zy2).trans e0
            have e5 := ((bcell b3).1 yb 5 zy2).trans e5
            clear Z9 Z2 B9 B2 b2 b3 e2 e4 zy9 zy2
            go_wp2_with fail
            refine (l18Shapes_any _).mono ?_
            rintro e w4 ⟨rfl, hw4⟩
            have hsh : ∀ k, k < 4 → w4.cell? ⟨w3.heap.size, k, none⟩ = some (.string (shT k)) := fun k hk => by rw [hw4]; exact shp_cell w3 hk
            have b4 : Below w3.heap.size w3 w4 := by rw [hw4]; exact (by repeat (first | assumption | exact Below.refl _ _ | apply Below.al | apply Below.drewN' | apply Below.drew | (apply Below.tr; assumption)))
            have Z4 := Z3.below b4
            have B4 := Below.tr b4 B3
            have zs4 : w3.heap.size < w4.heap.size := by rw [hw4]; simp
            have e0 := ((bcell b4).1 yb 0 zy3).trans e0
            have e5 := ((bcell b4).1 yb 5 zy3).trans e5
            have zy4 : yb < w4.heap.size := by omega
            clear hw4 b4 Z3 B3 zy3
            generalize w3.heap.size = sb at *
            obtain ⟨kk, hkk⟩ : ∃ kk, Hid (shI y5.data.toList = kk) := ⟨_, rfl⟩
            have hkb := shI_lo y5.data.toList
            rw [hkk.out] at hkb hW2
            obtain ⟨hk1, hk2⟩ := hkb
            have hsh := hid hsh
            have Z4 := hid Z4
            go_wp2
            go_loopw [11, 13] (fun sv iv wr => ∃ (i : Nat) (v : Int), i ≤ 4 ∧ iv = .int .i64 i ∧ sv = .int .i64 v ∧ Hid (v = if kk < i then kk else -1) ∧ Below w4.heap.size w4 wr) (fun _ iv _ => 4 - (intOf iv).toNat)
            case atStart => exact ⟨0, -1, by omega, rfl, rfl, hid (by split <;> omega), Below.refl _ _⟩
            case round =>
              obtain ⟨i, v, hi, rfl, rfl, HV, hb5⟩ := hrel
              have e0 := ((bcell hb5).1 yb 0 zy4).trans e0
              have e5 := ((bcell hb5).1 yb 5 zy4).trans e5
              have z5 := hb5.size
              have zy5 : yb < wr.heap.size := by omega
              have zs5 : sb < wr.heap.size := by omega
              by_cases hlt : i < 4
              · have ei := ((bcell hb5).1 sb i zs4).trans (hsh.out i hlt)
                by_cases hq : kk = i
                · have hz : ((shT i).toList == y5.toList) = true := by
                    have := (shI_iff hlt).1 (hkk.out.trans hq)
                    rw [ByteArray.toList_eq, ByteArray.toList_eq, this]; simp [shL]
                  have HV2 : Hid ((i : Int) = if kk < ((i + 1 : Nat) : Int) then kk else -1) := hid (by rw [if_pos (by omega)]; exact hq.symm)
                  clear hq
                  go_wp2
                  refine wp_region_ext (by kernel_rfl) (by kernel_rfl) ?_
                  repeat (go_big_quiet_step ((first | fail)))
                  refine wpQuiet_nil ?_
                  intro w6 hb6
                  obtain ⟨hc_w6, hf_w6⟩ := bcell hb6
                  have hz_w6 := hb6.size
                  go_wp2
                  go_roundw
                  case rel => exact ⟨i + 1, i, by omega, by go_num, by first | rfl | go_num, HV2, Below.tr hb6 hb5⟩
                  case measure => simp [intOf]; omega
                · have hz : ((shT i).toList == y5.toList) = false := by
                    rw [ByteArray.toList_eq, ByteArray.toList_eq]
                    refine beq_false_of_ne (fun e => hq ?_)
                    have := (shI_iff (w := y5.data.toList) hlt).2 (by rw [← e]; rfl)
                    rw [hkk.out] at this; exact this
                  have HV2 : Hid (v = if kk < ((i + 1 : Nat) : Int) then kk else -1) := hid (by rw [HV.out]; split <;> split <;> omega)
                  clear hq
                  go_wp2
                  refine wp_region_ext (by kernel_rfl) (by kernel_rfl) ?_
                  repeat (go_big_quiet_step ((first | fail)))
                  refine wpQuiet_nil ?_
                  intro w6 hb6
                  obtain ⟨hc_w6, hf_w6⟩ := bcell hb6
                  have hz_w6 := hb6.size
                  go_wp2
                  go_roundw
                  case rel => exact ⟨i + 1, v, by omega, by go_num, rfl, HV2, Below.tr hb6 hb5⟩
                  case measure => simp [intOf]; omega
              · obtain rfl : i = 4 := by omega
                obtain rfl : v = kk := by rw [HV.out]; split <;> omega
                have Z5 := Z4.out.below hb5
                have B5 := Below.tr hb5 B4
                clear Z4 hsh HV hb5
                go_wp2
                have hW2 := hid hW2.out
                have HX := hid (And.intro hx hx2)
                clear hx hx2 hkk
                go_region
                have b6 : Below wr.heap.size wr ((wr.alloc (.cells #[.string (y0.extract 0 (y0.size - 1)), .int .i64 xa, .int .i64 xb, .int .i64 xc, .int .i64 xd, .int .i64 v] 23)).drew) := by repeat (first | exact Below.refl _ _ | apply Below.drew | apply Below.al)
                have Z6 := Z5.below b6
                have B6 := Below.tr b6 B5
                have x0 : ((wr.alloc (.cells #[.string (y0.extract 0 (y0.size - 1)), .int .i64 xa, .int .i64 xb, .int .i64 xc, .int .i64 xd, .int .i64 v] 23)).drew).cell? ⟨wr.heap.size, 0, none⟩ = some (.string (y0.extract 0 (y0.size - 1))) := by simp [go_sem]
                have x1 : ((wr.alloc (.cells #[.string (y0.extract 0 (y0.size - 1)), .int .i64 xa, .int .i64 xb, .int .i64 xc, .int .i64 xd, .int .i64 v] 23)).drew).cell? ⟨wr.heap.size, 1, none⟩ = some (.int .i64 xa) := by simp [go_sem]
                have x2 : ((wr.alloc (.cells #[.string (y0.extract 0 (y0.size - 1)), .int .i64 xa, .int .i64 xb, .int .i64 xc, .int .i64 xd, .int .i64 v] 23)).drew).cell? ⟨wr.heap.size, 2, none⟩ = some (.int .i64 xb) := by simp [go_sem]
                have x3 : ((wr.alloc (.cells #[.string (y0.extract 0 (y0.size - 1)), .int .i64 xa, .int .i64 xb, .int .i64 xc, .int .i64 xd, .int .i64 v] 23)).drew).cell? ⟨wr.heap.size, 3, none⟩ = some (.int .i64 xc) := by simp [go_sem]
                have x4 : ((wr.alloc (.cells #[.string (y0.extract 0 (y0.size - 1)), .int .i64 xa, .int .i64 xb, .int .i64 xc, .int .i64 xd, .int .i64 v] 23)).drew).cell? ⟨wr.heap.size, 4, none⟩ = some (.int .i64 xd) := by simp [go_sem]
                have x5 : ((wr.alloc (.cells #[.string (y0.extract 0 (y0.size - 1)), .int .i64 xa, .int .i64 xb, .int .i64 xc, .int .i64 xd, .int .i64 v] 23)).drew).cell? ⟨wr.heap.size, 5, none⟩ = some (.int .i64 v) := by simp [go_sem]
                have zx : wr.heap.size < ((wr.alloc (.cells #[.string (y0.extract 0 (y0.size - 1)), .int .i64 xa, .int .i64 xb, .int .i64 xc, .int .i64 xd, .int .i64 v] 23)).drew).heap.size := by simp
                clear b6 Z5 B5 e0 e5 zy5 zs5 z5 Z4 B4 hsh zs4 zy4
                generalize (wr.alloc (.cells #[.string (y0.extract 0 (y0.size - 1)), .int .i64 xa, .int .i64 xb, .int .i64 xc, .int .i64 xd, .int .i64 v] 23)).drew = w6 at *
                generalize wr.heap.size = rb at *
                generalize y0.extract 0 (y0.size - 1) = yt at *
                generalize hg2 : rgV y2.data.toList = o2 at *
                generalize hg4 : rgV y4.data.toList = o4 at *
                clear hg2 hg4
                cases o2 with
                | none =>
                  have HR : Hid (rrV s = none) := hid (by rw [hW2.out])
                  clear hW2 HX
                  obtain ⟨zz, c0, c1, c2, c3, c4, c5, f0, f1, f2, f3, f4, f5⟩ := Z6
                  go_wp2
                  refine bodyPost_ret (v := .tuple #[vR none, .bool false]) (by simp [results, Tryd.results4, go_sem, vR, c0, c1, c2, c3, c4, c5]) rfl (RRes.none HR.out (by (repeat refine Below.setCell ?_ (by simp only; omega) _); exact B6))
                | some p =>
                  cases o4 with
                  | none =>
                    have HR : Hid (rrV s = none) := hid (by rw [hW2.out])
                    clear hW2 HX
                    obtain ⟨zz, c0, c1, c2, c3, c4, c5, f0, f1, f2, f3, f4, f5⟩ := Z6
                    go_wp2
                    refine bodyPost_ret (v := .tuple #[vR none, .bool false]) (by simp [results, Tryd.results4, go_sem, vR, c0, c1, c2, c3, c4, c5]) rfl (RRes.none HR.out (by (repeat refine Below.setCell ?_ (by simp only; omega) _); exact B6))
                  | some q =>
                    obtain ⟨rfl, rfl⟩ := HX.out.1 p rfl
                    obtain ⟨rfl, rfl⟩ := HX.out.2 q rfl
                    have hW3 : Hid (rrV s = if ruB ⟨yt, p.1, p.2, q.1, q.2, v⟩ = true then some ⟨yt, p.1, p.2, q.1, q.2, v⟩ else none) := hid hW2.out
                    clear hW2 HX
                    have hyt : yt.size ≤ maxLen := by unfold maxLen; omega
                    cases hB : ruB ⟨yt, p.1, p.2, q.1, q.2, v⟩ with
                    | false =>
                      have HR : Hid (rrV s = none) := hid (by rw [hW3.out, hB]; rfl)
                      clear hW3
                      go_wp2_with fail
                      refine (l18One_any ⟨yt, p.1, p.2, q.1, q.2, v⟩ hyt w6 rb 0 zx x0 x1 x2 x3 x4 x5).mono ?_
                      rintro e w7 ⟨rfl, b7⟩
                      rw [hB]
                      have B7 := Below.tr b7 B6
                      obtain ⟨zz, c0, c1, c2, c3, c4, c5, f0, f1, f2, f3, f4, f5⟩ := Z6.below b7
                      have x0 := ((bcell b7).1 rb 0 zx).trans x0
                      have x1 := ((bcell b7).1 rb 1 zx).trans x1
                      have x2 := ((bcell b7).1 rb 2 zx).trans x2
                      have x3 := ((bcell b7).1 rb 3 zx).trans x3
                      have x4 := ((bcell b7).1 rb 4 zx).trans x4
                      have x5 := ((bcell b7).1 rb 5 zx).trans x5
                      clear b7 Z6 B6
                      go_wp2
                      refine bodyPost_ret (v := .tuple #[vR none, .bool false]) (by simp [results, Tryd.results4, go_sem, vR, c0, c1, c2, c3, c4, c5]) rfl (RRes.none HR.out (by (repeat refine Below.setCell ?_ (by simp only; omega) _); exact B7))
                    | true =>
                      have HR : Hid (rrV s = some ⟨yt, p.1, p.2, q.1, q.2, v⟩) := hid (by rw [hW3.out, hB]; rfl)
                      clear hW3
                      go_wp2_with fail
                      refine (l18One_any ⟨yt, p.1, p.2, q.1, q.2, v⟩ hyt w6 rb 0 zx x0 x1 x2 x3 x4 x5).mono ?_
                      rintro e w7 ⟨rfl, b7⟩
                      rw [hB]
                      have B7 := Below.tr b7 B6
                      obtain ⟨zz, c0, c1, c2, c3, c4, c5, f0, f1, f2, f3, f4, f5⟩ := Z6.below b7
                      have x0 := ((bcell b7).1 rb 0 zx).trans x0
                      have x1 := ((bcell b7).1 rb 1 zx).trans x1
                      have x2 := ((bcell b7).1 rb 2 zx).trans x2
                      have x3 := ((bcell b7).1 rb 3 zx).trans x3
                      have x4 := ((bcell b7).1 rb 4 zx).trans x4
                      have x5 := ((bcell b7).1 rb 5 zx).trans x5
                      clear b7 Z6 B6
                      go_wp2
                      refine bodyPost_ret (v := .tuple #[vR (some ⟨yt, p.1, p.2, q.1, q.2, v⟩), .bool true]) (by simp [results, Tryd.results4, go_sem, vR, c0, c1, c2, c3, c4, c5]) rfl (RRes.some HR.out (by (repeat refine Below.setCell ?_ (by simp only; omega) _); exact B7))
          · have HR : Hid (rrV s = none) := hid (by
              rw [hW.out]; refine rr6_bad (fun h => q8 ?_)
              have h2 := h.2.2
              rw [List.getLast?_eq_getElem?] at h2
              have e : y0.data.toList[y0.size - 1]? = some y0[y0.size - 1] := by rw [List.getElem?_eq_getElem (by simpa using hp)]; rfl
              have hl : y0.data.toList.length = y0.size := by simp
              rw [hl, e] at h2
              rw [Option.some.inj h2]; rfl)
            have x8 : ((y0[y0.size - 1].toNat : Int) == 58) = false := by simp; omega
            clear q1 q3
            go_wp2
            refine wp_region_ext (by kernel_rfl) (by kernel_rfl) ?_
            repeat (go_big_quiet_step ((first | fail)))
            refine wpQuiet_nil ?_
            intro w9 hb9
            obtain ⟨hc_w9, hf_w9⟩ := bcell hb9
            have hz_w9 := hb9.size
            obtain ⟨zz, c0, c1, c2, c3, c4, c5, f0, f1, f2, f3, f4, f5⟩ := Z1.below hb9
            have B9 := Below.tr hb9 B1
            go_wp2
            refine bodyPost_ret (v := .tuple #[vR none, .bool false]) (by simp [results, Tryd.results4, go_sem, vR, c0, c1, c2, c3, c4, c5]) rfl (RRes.none HR.out (by (repeat refine Below.setCell ?_ (by simp only; omega) _); exact B9))
        · have HR : Hid (rrV s = none) := hid (by rw [hW.out]; exact rr6_bad (fun h => q3 h.2.1))
          have x3 : (y3.toList == [112, 101, 114, 105, 111, 100]) = false := by rw [ByteArray.toList_eq]; exact beq_false_of_ne q3
          clear q1 q3
          go_wp2
          refine wp_region_ext (by kernel_rfl) (by kernel_rfl) ?_
          repeat (go_big_quiet_step ((first | fail)))
          refine wpQuiet_nil ?_
          intro w9 hb9
          obtain ⟨hc_w9, hf_w9⟩ := bcell hb9
          have hz_w9 := hb9.size
          obtain ⟨zz, c0, c1, c2, c3, c4, c5, f0, f1, f2, f3, f4, f5⟩ := Z1.below hb9
          have B9 := Below.tr hb9 B1
          go_wp2
          refine bodyPost_ret (v := .tuple #[vR none, .bool false]) (by simp [results, Tryd.results4, go_sem, vR, c0, c1, c2, c3, c4, c5]) rfl (RRes.none HR.out (by (repeat refine Below.setCell ?_ (by simp only; omega) _); exact B9))
      · have HR : Hid (rrV s = none) := hid (by rw [hW.out]; exact rr6_bad (fun h => q1 h.1))
        have x1 : (y1.toList == [97, 109, 112]) = false := by rw [ByteArray.toList_eq]; exact beq_false_of_ne q1
        clear q1
        go_wp2
        refine wp_region_ext (by kernel_rfl) (by kernel_rfl) ?_
        repeat (go_big_quiet_step ((first | fail)))
        refine wpQuiet_nil ?_
        intro w9 hb9
        obtain ⟨hc_w9, hf_w9⟩ := bcell hb9
        have hz_w9 := hb9.size
        obtain ⟨zz, c0, c1, c2, c3, c4, c5, f0, f1, f2, f3, f4, f5⟩ := Z1.below hb9
        have B9 := Below.tr hb9 B1
        go_wp2
        refine bodyPost_ret (v := .tuple #[vR none, .bool false]) (by simp [results, Tryd.results4, go_sem, vR, c0, c1, c2, c3, c4, c5]) rfl (RRes.none HR.out (by (repeat refine Below.setCell ?_ (by simp only; omega) _); exact B9))
  · have HR : Hid (rrV s = none) := hid (rr_len (by rw [← hy.out, List.length_map]; exact h6))
    have h6' : ((ys.length : Int) != 6) = true := by simp; omega
    clear sz H0
    go_wp2
    refine wp_region_ext (by kernel_rfl) (by kernel_rfl) ?_
    repeat (go_big_quiet_step ((first | fail)))
    refine wpQuiet_nil ?_
    intro w9 hb9
    obtain ⟨hc_w9, hf_w9⟩ := bcell hb9
    have hz_w9 := hb9.size
    obtain ⟨zz, c0, c1, c2, c3, c4, c5, f0, f1, f2, f3, f4, f5⟩ := Z1.below hb9
    have B9 := Below.tr hb9 B1
    go_wp2
    refine bodyPost_ret (v := .tuple #[vR none, .bool false]) (by simp [results, Tryd.results4, go_sem, vR, c0, c1, c2, c3, c4, c5]) rfl (RRes.none HR.out (by (repeat refine Below.setCell ?_ (by simp only; omega) _); exact B9))
end Go.Proofs.YtdklchklpmabdaaDoor
