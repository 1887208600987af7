/- Residuals are what an ephemeris leaves, the worst is the greatest of them, and cycles of times near to it are found, for every code: the law says yes. No condition. -/
import Derived.Test.YtlpgnmkhlbddaaaRows
import Derived.Test.YtlpgnmkhlbddaaaOpen
import Derived.Test.YtlpgnmkhlbddaaaC13c
import Derived.Test.YtlpgnmkhlbddaaaCLong
namespace Go.Proofs.Ytlpgnmkhlbddaaa
open Go.RowKit
set_option linter.unusedVariables false
theorem residualsOf2 (A : Option Addr) (c : Nat) (xs : List Mn) (a b : Int) (w : World) (h : Rd encMn 2 w w.heap.size A xs) (ok : MnOk xs) (hl : xs.length ≤ 8) (a0 : 0 ≤ a) (a1 : a ≤ 19900) (p0 : 1 ≤ b) (p1 : b ≤ 9000) :
    Calls Try.prog 14 #[.slice A xs.length c, .agg #[.int .i64 a, .int .i64 b]] w fun e w' => ∃ Ar cr, e = .returned (.tuple #[.slice Ar xs.length cr, .int .i64 0]) ∧ Rd encI 1 w' w'.heap.size Ar (xs.map (rsd a b)) ∧ Below w.heap.size w w' :=
  (residualsOf_any A c xs a b w h ok hl a0 a1 p0 p1).mono (by
    rintro e w' ⟨Ar, cr, rfl, o, hb⟩
    exact ⟨Ar, cr, by rw [List.length_map], rd_of_own (enc := encI) (k := 1) (fun _ => rfl) o, hb⟩)
set_option maxRecDepth 20000 in
set_option maxHeartbeats 4000000 in
theorem residuals_law (w : World) (A0 : Option Addr) (c0 : Nat) (xs0 : List Int) (r0 : Rd encB 1 w w.heap.size A0 xs0) (wf0 : ∀ x ∈ xs0, 0 ≤ x ∧ x < 256) (m0 : xs0.length ≤ maxLen) (A1 : Option Addr) (c1 : Nat) (xs1 : List Int) (r1 : Rd encB 1 w w.heap.size A1 xs1) (wf1 : ∀ x ∈ xs1, 0 ≤ x ∧ x < 256) (m1 : xs1.length ≤ maxLen) :
    Calls Try.prog 5 #[.slice A0 xs0.length c0, .slice A1 xs1.length c1] w fun e w' => e = .returned (.bool true) ∧ Below w.heap.size w w' := by
  by_cases hL : 3000 < xs0.length ∨ 3000 < xs1.length
  · have e : (decide (3000 < xs0.length) || decide (3000 < xs1.length)) = true := by simpa using hL
    go_enter Try.func5, Try.ntmps5
    go_wp2_with fail
    refine (a2Long_any _ _ _ _ _ _ _ m0 m1).mono ?_
    rw [e]
    rintro e w1 ⟨rfl, rfl⟩
    go_wp2
    go_ret
    exact ⟨rfl, (by repeat (first | assumption | exact Below.refl _ _ | apply Below.al | apply Below.drewN' | apply Below.drew | (apply Below.tr; assumption)))⟩
  have e : (decide (3000 < xs0.length) || decide (3000 < xs1.length)) = false := by simp; omega
  have l0 : xs0.length ≤ 3000 := by omega
  have l1 : xs1.length ≤ 3000 := by omega
  clear hL
  go_enter Try.func5, Try.ntmps5
  go_wp2_with fail
  refine (a2Long_any _ _ _ _ _ _ _ m0 m1).mono ?_
  rw [e]
  rintro e w1 ⟨rfl, rfl⟩
  clear e
  go_wp2_with fail
  refine (a2Ephemeris_any A0 c0 xs0 _ r0 wf0 l0).mono ?_
  rintro e w1 ⟨a, b, rfl, a0, a1, p0, p1, hb1⟩
  have hbE : Below w.heap.size w (w1.alloc (.cells #[.int .i64 a, .int .i64 b] 27)) := (by repeat (first | assumption | exact Below.refl _ _ | apply Below.al | apply Below.drewN' | apply Below.drew | (refine Below.sc ?_ (by first | omega | (simp; done) | (simp; omega)) _) | (apply Below.tr; assumption)))
  have x0 : (w1.alloc (.cells #[.int .i64 a, .int .i64 b] 27)).cell? ⟨w1.heap.size, 0, none⟩ = some (.int .i64 a) := by simp [go_sem]
  have x1 : (w1.alloc (.cells #[.int .i64 a, .int .i64 b] 27)).cell? ⟨w1.heap.size, 1, none⟩ = some (.int .i64 b) := by simp [go_sem]
  have zE : w1.heap.size < (World.heap (w1.alloc (.cells #[.int .i64 a, .int .i64 b] 27))).size := by simp
  have r11 : Rd encB 1 (w1.alloc (.cells #[.int .i64 a, .int .i64 b] 27)) (World.heap (w1.alloc (.cells #[.int .i64 a, .int .i64 b] 27))).size A1 xs1 := (r1.below hbE (Nat.le_refl _)).more hbE.size
  clear r0 wf0 m0 r1 hb1
  go_wp2_with fail
  generalize (w1.alloc (.cells #[.int .i64 a, .int .i64 b] 27)) = wE at *
  generalize w1.heap.size = q at *
  refine (a2Minima_any A1 c1 xs1 a b _ r11 wf1 l1 a0 a1 p0 p1).mono ?_
  rintro e w2 ⟨ys, Ay, cy, rfl, oy, hb2, l2, OK, NE⟩
  have ry : Rd encMn 2 w2 w2.heap.size Ay ys := rd_of_own (enc := encMn) (k := 2) (c := cy) (fun _ => rfl) oy
  have hbW := Below.tr hb2 hbE
  have x0 := ((bcell hb2).1 q 0 zE).trans x0
  have x1 := ((bcell hb2).1 q 1 zE).trans x1
  have zq : q < w2.heap.size := by have := hb2.size; omega
  clear oy r11 wf1 l1 m1 hb2 hbE zE
  go_wp2_with fail
  refine (residualsOf2 Ay cy ys a b _ ry OK l2 a0 a1 p0 p1).mono ?_
  rintro e w3 ⟨Ar, cr, rfl, rr, hb3⟩
  have x0 := ((bcell hb3).1 q 0 zq).trans x0
  have x1 := ((bcell hb3).1 q 1 zq).trans x1
  have zq3 : q < w3.heap.size := by have := hb3.size; omega
  have ry3 : Rd encMn 2 w3 w3.heap.size Ay ys := (ry.below hb3 (Nat.le_refl _)).more hb3.size
  have hbW3 := Below.tr hb3 hbW
  go_wp2_with fail
  refine (squaresOf_any Ay cy ys a b _ ry3 OK l2 NE a0 a1 p0 p1).mono ?_
  rintro e w4 ⟨rfl, hb4⟩
  have x0 := ((bcell hb4).1 q 0 zq3).trans x0
  have x1 := ((bcell hb4).1 q 1 zq3).trans x1
  have zq4 : q < w4.heap.size := by have := hb4.size; omega
  have HB := hid (near_rs NE)
  have HRK : Hid (∀ (k : Nat) (p : Mn), ys[k]? = some p → (ys.map (rsd a b))[k]? = some (rsd a b p)) := hid (fun k p h => by rw [List.getElem?_map, h]; rfl)
  have hln : (ys.map (rsd a b)).length = ys.length := List.length_map ..
  have HWO : Hid (∀ w7, Below w4.heap.size w4 w7 → 0 < ys.length → Calls Try.prog 16 #[.slice Ay ys.length cy, .agg #[.int .i64 a, .int .i64 b]] w7 (WorstRes (ys.map (rsd a b)) w7)) := hid (fun w7 h h0 => worst_any Ay cy ys a b w7 ((ry3.below (Below.tr h hb4) (Nat.le_refl _)).more (Below.tr h hb4).size) OK l2 NE h0 a0 a1 p0 p1)
  have HWF : Hid (∀ w7, Below w4.heap.size w4 w7 → ys.length = 0 → Calls Try.prog 16 #[.slice Ay ys.length cy, .agg #[.int .i64 a, .int .i64 b]] w7 fun e w' => e = .returned (.tuple #[.int .i64 0, .int .i64 3]) ∧ Below w7.heap.size w7 w') := hid (fun w7 h h0 => worstFew_any Ay cy ys a b w7 ((ry3.below (Below.tr h hb4) (Nat.le_refl _)).more (Below.tr h hb4).size) OK l2 NE h0 a0 a1 p0 p1)
  have OK := hid OK
  have NE := hid NE
  generalize ys.map (rsd a b) = rs at *
  have o0 : (w4.alloc (.cells #[] 2)).ownsRow w4.heap.size 2 1 (.slice (some ⟨w4.heap.size, 0, none⟩) 0 0) 0 [] := own_lit0 w4 2 1 (Nat.le_refl _)
  have hb0 : Below w4.heap.size w4 (w4.alloc (.cells #[] 2)) := (by repeat (first | assumption | exact Below.refl _ _ | apply Below.al | apply Below.drewN' | apply Below.drew | (refine Below.sc ?_ (by first | omega | (simp; done) | (simp; omega)) _) | (apply Below.tr; assumption)))
  have hln' := hid hln
  have hl2 : rs.length ≤ 8 := by omega
  obtain ⟨i0, hi0, iz0, iz1, iz2⟩ := info_parts (P := Try.prog) (e := 2) (z := .int .i64 0) (size := 1) (bytes := 8) (by kernel_rfl)
  clear hln
  go_wp2_with fail
  generalize Value.slice (some ⟨w4.heap.size, 0, none⟩) 0 0 = v0 at *
  go_loopw [11, 12, 13] (fun sv tv i wr => ∃ (k : Nat) (s : Int), k ≤ ys.length ∧ i = .int .i64 k ∧ sv = .int .i64 s ∧ 0 ≤ s ∧ s ≤ k * 100 ∧ Below w4.heap.size w4 wr ∧ Hid (sqI rs = s + sqI (rs.drop k)) ∧ Hid (wr.ownsRow w4.heap.size 2 1 tv k (((ys.take k).map Mn.t).flatMap encI))) (fun _ _ i _ => ys.length - (intOf i).toNat)
  case atStart => exact ⟨0, 0, Nat.zero_le _, rfl, rfl, by omega, by omega, hb0, hid (by simp), hid o0⟩
  case round =>
    clear hb0 o0
    obtain ⟨k, s, hk, rfl, rfl, s0, s1, hb, H, OW⟩ := hrel
    obtain ⟨At, ct, rfl⟩ := own_shape OW.out
    have hsz := hb.size
    have xL0 := ((bcell hb).1 q 0 zq4).trans x0
    have xL1 := ((bcell hb).1 q 1 zq4).trans x1
    have zqL : q < wr.heap.size := by omega
    have hb4L := hb
    by_cases hlt : k < ys.length
    · obtain ⟨p, hp⟩ := getx hlt
      have hrk := HRK.out k p hp
      have hb3L := Below.tr hb hb4
      obtain ⟨bb, o, rfl, hbB, c0, c1⟩ := (ry3.below hb3L (Nat.le_refl _)).at2 hp rfl
      obtain ⟨b2, o2, rfl, hbB2, d0⟩ := (rr.below hb3L (Nat.le_refl _)).at1 hrk rfl
      have hpr := OK.out.2 p (List.mem_of_getElem? hp)
      have hr1 := HB.out _ (List.mem_of_getElem? hrk)
      have m0 := (rsd_bd hpr a0 a1 p0 p1).1
      have HS : Hid (sqI (rs.drop k) = rsd a b p * rsd a b p + sqI (rs.drop (k+1))) := by rw [dropx hrk]; rfl
      have hne : (a + p.c * b + rsd a b p != p.t) = false := by unfold rsd; simp; omega
      have hne1 : a + p.c * b + rsd a b p = p.t := by unfold rsd; omega
      have hrlt : k < rs.length := (List.getElem?_eq_some_iff.1 hrk).1
      generalize rsd a b p = r at *
      have m1 := mul_bds (x := r) (y := r) (A := 10) (B := 10) (by omega) (by omega) (by omega) (by omega)
      have m2 := sq_nn r
      have t1 : decide (r < -10) = false := by simp; omega
      have t2 : decide (10 < r) = false := by simp; omega
      have b0 : bb < wr.heap.size := by have := hb4.size; omega
      have b1 : b2 < wr.heap.size := by have := hb4.size; omega
      have HP := hid hp
      clear hp hrk hb3L
      clear hne1
      have O1 := OW
      go_wp2
      refine wp_region_ext (by kernel_rfl) (by kernel_rfl) ?_
      repeat (go_big_quiet_step ((first | fail)))
      refine wpQuiet_nil ?_
      intro w5 hb5
      obtain ⟨hc_w5, hf_w5⟩ := bcell hb5
      have hz_w5 := hb5.size
      have d0 := (hc_w5 _ _ b1).trans d0
      have c1 := (hc_w5 _ _ b0).trans c1
      have b2' : b2 < w5.heap.size := by omega
      have b3' : bb < w5.heap.size := by omega
      clear c0 hc_w5 hf_w5 hne t1 t2 xL0 xL1
      go_wp2
      refine wp_region_ext (by kernel_rfl) (by kernel_rfl) ?_
      repeat (go_big_quiet_step ((first | fail)))
      refine wpQuiet_nil ?_
      intro w6 hb6
      obtain ⟨hc_w6, hf_w6⟩ := bcell hb6
      have hz_w6 := hb6.size
      have c1 := (hc_w6 _ _ b3').trans c1
      have hb56 := Below.tr hb6 hb5
      have O6 := hid (own_below OW.out hb56 (Nat.le_refl _))
      have hb46 := Below.tr hb56 hb
      have hz6 := hb46.size
      have b4' : bb < w6.heap.size := by omega
      clear hc_w6 hf_w6 d0
      go_wp2_with (at_builtin; go_must (refine wpList_append_own _ rfl _ _ 39 rfl (w4.heap.size) 2 i0 _ 1 8 Try.underlying39 hi0 iz0 iz1 iz2 rfl (by decide) _ _ _ rfl (O6.out.alloc _) ⟨(w6).heap.size, 0, none⟩ 1 1 [.int .i64 p.t] rfl rfl (news_at w6 [.int .i64 p.t] 2) (by simp [Value.oneCell']) (by unfold maxLen; omega) (by omega) (by first | omega | (simp; done) | (simp; omega)) ?_); intro v2 w7 own_w7 grow_w7 _)
      have hb7 : Below w4.heap.size w4 w7 := Below.ap hb46 (by omega) O6.out (Nat.le_refl _) grow_w7
      have O7 := hid own_w7
      clear own_w7
      go_wp2
      go_roundw
      case rel => exact ⟨k + 1, s + r * r, by omega, by go_num, rfl, by omega, by push_cast; omega, hb7, hid (by rw [H.out, HS.out]; omega), hid (by rw [List.take_add_one, HP.out, List.map_append, List.flatMap_append]; exact O7.out)⟩
      case measure => simp [intOf]; omega
    · have E1 : s = sqI rs := by rw [H.out, List.drop_eq_nil_of_le (by have := hln'.out; omega)]; simp [sqI]
      obtain rfl : k = ys.length := by omega
      have oT : wr.ownsRow w4.heap.size 2 1 (.slice At (ys.map Mn.t).length ct) (ys.map Mn.t).length ((ys.map Mn.t).flatMap encI) := by
        have := OW.out
        rw [List.take_length] at this
        rw [List.length_map]; exact this
      have rt := rd_of_own (enc := encI) (k := 1) (fun _ => rfl) oT
      clear OW oT hlt H hk x0 x1
      subst E1
      by_cases h0 : ys.length = 0
      · have H0 := hid h0
        have CW := HWF.out _ hb h0
        have u1 : decide (0 < (ys.length : Int)) = false := by rw [h0]; decide
        have u2 : decide (0 < ys.length) = false := by rw [h0]; decide
        clear h0
        go_wp2_with fail
        refine CW.mono ?_
        rintro e w7 ⟨rfl, hb7⟩
        clear CW
        have hb47 := Below.tr hb7 hb4L
        have x0 := ((bcell hb7).1 q 0 zqL).trans xL0
        have x1 := ((bcell hb7).1 q 1 zqL).trans xL1
        have zq7 : q < w7.heap.size := by have := hb7.size; omega
        have rr7 : Rd encI 1 w7 w3.heap.size Ar rs := rr.below (Below.tr hb47 hb4) (Nat.le_refl _)
        have ry7 : Rd encMn 2 w7 w2.heap.size Ay ys := ry.below (Below.tr (Below.tr hb47 hb4) hb3) (Nat.le_refl _)
        have rt7 : Rd encI 1 w7 w7.heap.size At (ys.map Mn.t) := (rt.below hb7 (Nat.le_refl _)).more hb7.size
        have z37 : w3.heap.size ≤ w7.heap.size := (Below.tr hb47 hb4).size
        have z27 : w2.heap.size ≤ w7.heap.size := (Below.tr (Below.tr hb47 hb4) hb3).size
        have hbW7 := Below.tr (Below.tr hb47 hb4) hbW3
        clear hb7 hb47 xL0 xL1 rt
        go_wp2_with fail
        go_loopw [16] (fun i wr => ∃ (k : Nat), k ≤ ys.length ∧ i = .int .i64 k ∧ Below w7.heap.size w7 wr) (fun i _ => ys.length - (intOf i).toNat)
        case atStart => exact ⟨0, Nat.zero_le _, rfl, Below.refl _ _⟩
        case round =>
          obtain ⟨k, hk, rfl, hb⟩ := hrel
          have hsz := hb.size
          by_cases hlt : k < ys.length
          · have := H0.out
            omega
          · have y0 := ((bcell hb).1 q 0 zq7).trans x0
            have y1 := ((bcell hb).1 q 1 zq7).trans x1
            by_cases h41 : b < 41
            · have h41' : decide (b < 41) = true := by simpa using h41
              go_wp2
              go_ret
              exact ⟨rfl, Below.tr hb hbW7⟩
            · have h41' : decide (b < 41) = false := by simpa using h41
              go_wp2_with fail
              refine (assignCycles_any At ct ys a b _ ((rt7.below hb (Nat.le_refl _)).more hb.size) OK.out l2 NE.out a0 a1 (by omega) p1).mono ?_
              rintro e w8 ⟨Ab, cb, rfl, ob, hb8⟩
              have rb : Rd encMn 2 w8 w8.heap.size Ab ys := rd_of_own (enc := encMn) (k := 2) (fun _ => rfl) ob
              have hb78 := Below.tr hb8 hb
              have ry8 : Rd encMn 2 w8 w8.heap.size Ay ys := ((ry7.below hb78 z27).more (by have := hb78.size; omega))
              have hbW8 := Below.tr hb78 hbW7
              clear ob hb8 hb78 y0 y1 hb hsz hlt hk
              go_wp2_with fail
              go_loopw [19] (fun i wr => ∃ (k : Nat), k ≤ ys.length ∧ i = .int .i64 k ∧ Below w8.heap.size w8 wr) (fun i _ => ys.length - (intOf i).toNat)
              case atStart => exact ⟨0, Nat.zero_le _, rfl, Below.refl _ _⟩
              case round =>
                obtain ⟨k, hk, rfl, hb⟩ := hrel
                have hsz := hb.size
                by_cases hlt : k < ys.length
                · obtain ⟨p, hp⟩ := getx hlt
                  obtain ⟨bb, o, rfl, hbB, c0, c1⟩ := (ry8.below hb (Nat.le_refl _)).at2 hp rfl
                  obtain ⟨b2, o2, rfl, hbB2, d0, d1⟩ := (rb.below hb (Nat.le_refl _)).at2 hp rfl
                  have b0 : bb < wr.heap.size := by omega
                  have b1 : b2 < wr.heap.size := by omega
                  clear hp
                  go_wp2
                  refine wp_region_ext (by kernel_rfl) (by kernel_rfl) ?_
                  repeat (go_big_quiet_step ((first | fail)))
                  refine wpQuiet_nil ?_
                  intro w9 hb9
                  obtain ⟨hc_w9, hf_w9⟩ := bcell hb9
                  have hz_w9 := hb9.size
                  have hb9' := Below.tr hb9 hb
                  go_wp2
                  go_roundw
                  case rel => exact ⟨k + 1, by omega, by go_num, hb9'⟩
                  case measure => simp [intOf]; omega
                · go_wp2
                  go_ret
                  exact ⟨rfl, Below.tr hb hbW8⟩
      · have CW := HWO.out _ hb (by omega)
        have u1 : decide (0 < (ys.length : Int)) = true := by simp; omega
        have u3 : decide (0 < ys.length) = true := by simp; omega
        go_wp2_with fail
        refine CW.mono ?_
        rintro e w7 ⟨j, m, hj, hm, rfl, hb7⟩
        have hjl : j < ys.length := by have := (List.getElem?_eq_some_iff.1 hj).1; have := hln'.out; omega
        have u2 : decide ((ys.length : Int) ≤ (j : Int)) = false := by simp; omega
        have u4 : decide (ys.length ≤ j) = false := by simp; omega
        have u5 : ¬ (ys.length ≤ j) := by omega
        have HJ := hid hj
        have HM := hid hm
        clear CW hj hm
        have hb47 := Below.tr hb7 hb4L
        have x0 := ((bcell hb7).1 q 0 zqL).trans xL0
        have x1 := ((bcell hb7).1 q 1 zqL).trans xL1
        have zq7 : q < w7.heap.size := by have := hb7.size; omega
        have rr7 : Rd encI 1 w7 w3.heap.size Ar rs := rr.below (Below.tr hb47 hb4) (Nat.le_refl _)
        have ry7 : Rd encMn 2 w7 w2.heap.size Ay ys := ry.below (Below.tr (Below.tr hb47 hb4) hb3) (Nat.le_refl _)
        have rt7 : Rd encI 1 w7 w7.heap.size At (ys.map Mn.t) := (rt.below hb7 (Nat.le_refl _)).more hb7.size
        have z37 : w3.heap.size ≤ w7.heap.size := (Below.tr hb47 hb4).size
        have z27 : w2.heap.size ≤ w7.heap.size := (Below.tr (Below.tr hb47 hb4) hb3).size
        have hbW7 := Below.tr (Below.tr hb47 hb4) hbW3
        clear hb7 hb47 xL0 xL1 rt
        go_wp2_with fail
        go_loopw [16] (fun i wr => ∃ (k : Nat), k ≤ ys.length ∧ i = .int .i64 k ∧ Below w7.heap.size w7 wr) (fun i _ => ys.length - (intOf i).toNat)
        case atStart => exact ⟨0, Nat.zero_le _, rfl, Below.refl _ _⟩
        case round =>
          obtain ⟨k, hk, rfl, hb⟩ := hrel
          have hsz := hb.size
          by_cases hlt : k < ys.length
          · obtain ⟨p, hp⟩ := getx hlt
            have hrk := HRK.out k p hp
            obtain ⟨bb, o, rfl, hbB, c0⟩ := (rr7.below hb z37).at1 hrk rfl
            obtain ⟨_, _, ee, _, d0⟩ := (rr7.below hb z37).at1 HJ.out rfl
            simp at ee; obtain ⟨rfl, rfl⟩ := ee
            have hr1 := HB.out _ (List.mem_of_getElem? hrk)
            have hr2 := HB.out _ (List.mem_of_getElem? HJ.out)
            have hmx := HM.out _ (List.mem_of_getElem? hrk)
            generalize rsd a b p = r at *
            have b0 : bb < wr.heap.size := by omega
            clear hp hrk
            by_cases hr : r < -r
            · have hrd : decide (r < -r) = true := by simpa using hr
              by_cases hm : m < -m
              · have hmd : decide (m < -m) = true := by simpa using hm
                have hcc : decide (-m < -r) = false := by simp; unfold absI at hmx; omega
                have hcd : decide (r < m) = false := by simp; unfold absI at hmx; omega
                go_wp2
                refine wp_region_ext (by kernel_rfl) (by kernel_rfl) ?_
                repeat (go_big_quiet_step ((first | fail)))
                refine wpQuiet_nil ?_
                intro w9 hb9
                obtain ⟨hc_w9, hf_w9⟩ := bcell hb9
                have hz_w9 := hb9.size
                have hb9' := Below.tr hb9 hb
                go_wp2
                go_roundw
                case rel => exact ⟨k + 1, by omega, by go_num, hb9'⟩
                case measure => simp [intOf]; omega
              · have hmp : -m ≤ m := by omega
                have hmd : decide (m < -m) = false := by simpa using hm
                have hcc : decide (m < -r) = false := by simp; unfold absI at hmx; omega
                skip
                go_wp2
                refine wp_region_ext (by kernel_rfl) (by kernel_rfl) ?_
                repeat (go_big_quiet_step ((first | fail)))
                refine wpQuiet_nil ?_
                intro w9 hb9
                obtain ⟨hc_w9, hf_w9⟩ := bcell hb9
                have hz_w9 := hb9.size
                have hb9' := Below.tr hb9 hb
                go_wp2
                go_roundw
                case rel => exact ⟨k + 1, by omega, by go_num, hb9'⟩
                case measure => simp [intOf]; omega
            · have hrp : -r ≤ r := by omega
              have hrd : decide (r < -r) = false := by simpa using hr
              by_cases hm : m < -m
              · have hmd : decide (m < -m) = true := by simpa using hm
                have hcc : decide (-m < r) = false := by simp; unfold absI at hmx; omega
                skip
                go_wp2
                refine wp_region_ext (by kernel_rfl) (by kernel_rfl) ?_
                repeat (go_big_quiet_step ((first | fail)))
                refine wpQuiet_nil ?_
                intro w9 hb9
                obtain ⟨hc_w9, hf_w9⟩ := bcell hb9
                have hz_w9 := hb9.size
                have hb9' := Below.tr hb9 hb
                go_wp2
                go_roundw
                case rel => exact ⟨k + 1, by omega, by go_num, hb9'⟩
                case measure => simp [intOf]; omega
              · have hmp : -m ≤ m := by omega
                have hmd : decide (m < -m) = false := by simpa using hm
                have hcc : decide (m < r) = false := by simp; unfold absI at hmx; omega
                skip
                go_wp2
                refine wp_region_ext (by kernel_rfl) (by kernel_rfl) ?_
                repeat (go_big_quiet_step ((first | fail)))
                refine wpQuiet_nil ?_
                intro w9 hb9
                obtain ⟨hc_w9, hf_w9⟩ := bcell hb9
                have hz_w9 := hb9.size
                have hb9' := Below.tr hb9 hb
                go_wp2
                go_roundw
                case rel => exact ⟨k + 1, by omega, by go_num, hb9'⟩
                case measure => simp [intOf]; omega
          · have y0 := ((bcell hb).1 q 0 zq7).trans x0
            have y1 := ((bcell hb).1 q 1 zq7).trans x1
            by_cases h41 : b < 41
            · have h41' : decide (b < 41) = true := by simpa using h41
              go_wp2
              go_ret
              exact ⟨rfl, Below.tr hb hbW7⟩
            · have h41' : decide (b < 41) = false := by simpa using h41
              go_wp2_with fail
              refine (assignCycles_any At ct ys a b _ ((rt7.below hb (Nat.le_refl _)).more hb.size) OK.out l2 NE.out a0 a1 (by omega) p1).mono ?_
              rintro e w8 ⟨Ab, cb, rfl, ob, hb8⟩
              have rb : Rd encMn 2 w8 w8.heap.size Ab ys := rd_of_own (enc := encMn) (k := 2) (fun _ => rfl) ob
              have hb78 := Below.tr hb8 hb
              have ry8 : Rd encMn 2 w8 w8.heap.size Ay ys := ((ry7.below hb78 z27).more (by have := hb78.size; omega))
              have hbW8 := Below.tr hb78 hbW7
              clear ob hb8 hb78 y0 y1 hb hsz hlt hk
              go_wp2_with fail
              go_loopw [19] (fun i wr => ∃ (k : Nat), k ≤ ys.length ∧ i = .int .i64 k ∧ Below w8.heap.size w8 wr) (fun i _ => ys.length - (intOf i).toNat)
              case atStart => exact ⟨0, Nat.zero_le _, rfl, Below.refl _ _⟩
              case round =>
                obtain ⟨k, hk, rfl, hb⟩ := hrel
                have hsz := hb.size
                by_cases hlt : k < ys.length
                · obtain ⟨p, hp⟩ := getx hlt
                  obtain ⟨bb, o, rfl, hbB, c0, c1⟩ := (ry8.below hb (Nat.le_refl _)).at2 hp rfl
                  obtain ⟨b2, o2, rfl, hbB2, d0, d1⟩ := (rb.below hb (Nat.le_refl _)).at2 hp rfl
                  have b0 : bb < wr.heap.size := by omega
                  have b1 : b2 < wr.heap.size := by omega
                  clear hp
                  go_wp2
                  refine wp_region_ext (by kernel_rfl) (by kernel_rfl) ?_
                  repeat (go_big_quiet_step ((first | fail)))
                  refine wpQuiet_nil ?_
                  intro w9 hb9
                  obtain ⟨hc_w9, hf_w9⟩ := bcell hb9
                  have hz_w9 := hb9.size
                  have hb9' := Below.tr hb9 hb
                  go_wp2
                  go_roundw
                  case rel => exact ⟨k + 1, by omega, by go_num, hb9'⟩
                  case measure => simp [intOf]; omega
                · go_wp2
                  go_ret
                  exact ⟨rfl, Below.tr hb hbW8⟩
namespace fnResiduals
open Go.ChangeShapes Go.WideShapes Go.ChangeAt Go.RowKit Go.Deep Go.Joins
set_option linter.unusedVariables false
theorem own : ownKnob Try.prog.godebug = none := by kernel_rfl
theorem laidOut : laidOutB Try.prog = true := by kernel_rfl
set_option maxRecDepth 100000 in
theorem lifted (os : Os) (started : os.Started) (H : Type) (enc : TypeId × Value → H) :
    ReturnsInHanded {} Try.checked os 5 .any (Rows.fnResidualsSpec.pre6 enc Try.prog Try.f5 Rows.fnResidualsRow.domain false) (Rows.fnResidualsSpec.post enc Try.prog Try.f5 false true false false) := by
  refine returnsInHanded_of_change (C := Try.checked) own started (by kernel_rfl) Try.func5
    (ChangeSpec.witness6 (enc := enc) (C := Try.checked) false ⟨#[], #[.slice none 0 0, .slice none 0 0], []⟩ 8 (by kernel_rfl) (by kernel_rfl) (by kernel_rfl) (by kernel_rfl)) ?_
  intro W base args ds gs before hval0 hW hcnd _
  have hval : ∀ (j : Nat) t v, Try.f5.params[j]? = some t → args[j]? = some v → Value.okWide Try.prog W .any base t v := hval0
  have hW' := hW
  obtain ⟨p, q, hA0, hV, rfl, hfz, hnd⟩ := hW
  have hA : DataW.TrodAll enc Try.prog W 0 (fun _ => true) true Try.f5.params.toList args.toList ds p := hA0
  rw [Try.params5] at hA hval
  obtain ⟨v0, vs0, d0, ds0, p0, q0, hargs, rfl, rfl, h0, r0⟩ := trodAll_cons hA
  obtain ⟨v1, vs1, d1, ds1, p1, q1, rfl, rfl, rfl, h1, r1⟩ := trodAll_cons r0
  obtain ⟨rfl, rfl, rfl⟩ := trodAll_nil r1
  obtain rfl : args = #[v0, v1] := by cases args; simp_all
  obtain ⟨rfl, rfl⟩ := trodVars_none hV
  have k0 := h0
  have lt0 : ∀ x ∈ p0, x.block < W.heap.size := by obtain ⟨m, hm⟩ := k0; exact DataW.trod_lt m _ _ _ hm
  have k1 := h1
  have lt1 : ∀ x ∈ p1, x.block < W.heap.size := by obtain ⟨m, hm⟩ := k1; exact DataW.trod_lt m _ _ _ hm
  obtain ⟨A0, len0, cap0, rfl⟩ := okWide_slice Try.underlying22 (hval 0 22 v0 rfl rfl)
  obtain ⟨xs0, rfl, rd0, wf0, ml0⟩ : ∃ xs : List _, xs.length = len0 ∧ Rd encB 1 W W.heap.size A0 xs ∧ (∀ x ∈ xs, 0 ≤ x ∧ x < 256) ∧ len0 ≤ maxLen := by
    obtain ⟨fuel, hf⟩ := h0
    exact rd_open (encA := encB) (wf := fun x => 0 ≤ x ∧ x < 256) (k := 1) (by decide) (fun _ => rfl) Try.underlying22 (by kernel_rfl) (dec_byte Try.underlying5) (by simpa [Value.cells] using hf)
  obtain ⟨A1, len1, cap1, rfl⟩ := okWide_slice Try.underlying22 (hval 1 22 v1 rfl rfl)
  obtain ⟨xs1, rfl, rd1, wf1, ml1⟩ : ∃ xs : List _, xs.length = len1 ∧ Rd encB 1 W W.heap.size A1 xs ∧ (∀ x ∈ xs, 0 ≤ x ∧ x < 256) ∧ len1 ≤ maxLen := by
    obtain ⟨fuel, hf⟩ := h1
    exact rd_open (encA := encB) (wf := fun x => 0 ≤ x ∧ x < 256) (k := 1) (by decide) (fun _ => rfl) Try.underlying22 (by kernel_rfl) (dec_byte Try.underlying5) (by simpa [Value.cells] using hf)
  clear hA0 hval0
  refine (residuals_law W A0 cap0 xs0 rd0 wf0 ml0 A1 cap1 xs1 rd1 wf1 ml1).mono fun e W' ⟨he, bel⟩ => ?_
  subst he
  exact ⟨_, rfl, _, _, _, [], _, [], hW', trodAll_mk1 (shut_bool Try.underlying4 _), (trodAll_cons_mk (Below.trod laidOut (by kernel_rfl) (of_decide_eq_true (by kernel_rfl)) k0 bel lt0) (trodAll_cons_mk (Below.trod laidOut (by kernel_rfl) (of_decide_eq_true (by kernel_rfl)) k1 bel lt1) trodAll_mk0)), rfl, bel.frame _, fun h => by cases h⟩

theorem proved : Rows.FnResidualsSaid :=
  OpenClaim.holds_of_wide 5 Try.f5 rfl rfl rfl rfl rfl rfl rfl ⟨rfl, rfl, rfl, rfl, rfl⟩ rfl rfl rfl rfl rfl (by kernel_rfl) Try.func5 (by kernel_rfl)
    (of_decide_eq_true (by kernel_rfl)) (by unfold Func.isWrapper; first | (rw [if_pos (by decide +kernel)]; kernel_rfl) | (rw [if_neg (by decide +kernel)]; exact ⟨rfl, rfl⟩))
    (fun os started H enc _ => lifted os started H enc)
#print axioms proved
end fnResiduals
end Go.Proofs.Ytlpgnmkhlbddaaa
