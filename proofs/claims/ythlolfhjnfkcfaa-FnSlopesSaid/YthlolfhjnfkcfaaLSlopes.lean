/- Fainter points have the same slope, and points on a line have that of the line, for every code: the law says yes. No condition. -/
import Derived.Test.YthlolfhjnfkcfaaRows
import Derived.Test.YthlolfhjnfkcfaaOpen
import Derived.Test.YthlolfhjnfkcfaaC08t
import Derived.Test.YthlolfhjnfkcfaaCLong
import Derived.Deep.RegionHeld3
import Derived.Deep.AppendLies
namespace Go.Proofs.Ythlolfhjnfkcfaa
open Go.RowKit
set_option linter.unusedVariables false
set_option maxRecDepth 20000 in
set_option maxHeartbeats 4000000 in
theorem slopes_law (w : World) (A0 : Option Addr) (c0 : Nat) (xs0 : List Int) (r0 : Rd encB 1 w w.heap.size A0 xs0) (wf0 : ∀ x ∈ xs0, 0 ≤ x ∧ x < 256) (m0 : xs0.length ≤ maxLen) (A1 : Option Addr) (c1 : Nat) (xs1 : List Int) (r1 : Rd encB 1 w w.heap.size A1 xs1) (wf1 : ∀ x ∈ xs1, 0 ≤ x ∧ x < 256) (m1 : xs1.length ≤ maxLen) :
    Calls Try.prog 4 #[.slice A0 xs0.length c0, .slice A1 xs1.length c1] w fun e w' => e = .returned (.bool true) ∧ Below w.heap.size w w' := by
  by_cases hL : 3000 < xs0.length ∨ 3000 < xs1.length
  · have e : (decide (3000 < xs0.length) || decide (3000 < xs1.length)) = true := by simpa using hL
    go_enter Try.func4, Try.ntmps4
    go_wp2_with fail
    refine (a2Long_any _ _ _ _ _ _ _ m0 m1).mono ?_
    rw [e]
    rintro e w1 ⟨rfl, rfl⟩
    go_wp2
    go_ret
    exact ⟨rfl, (by repeat (first | assumption | exact Below.refl _ _ | apply Below.al | apply Below.drewN' | apply Below.drew | (apply Below.tr; assumption)))⟩
  have e : (decide (3000 < xs0.length) || decide (3000 < xs1.length)) = false := by simp; omega
  have l0 : xs0.length ≤ 3000 := by omega
  have l1 : xs1.length ≤ 3000 := by omega
  clear hL
  go_enter Try.func4, Try.ntmps4
  go_wp2_with fail
  refine (a2Long_any _ _ _ _ _ _ _ m0 m1).mono ?_
  rw [e]
  rintro e w1 ⟨rfl, rfl⟩
  clear e
  obtain ⟨i0, hi0, iz0, iz1, iz2⟩ := info_parts (P := Try.prog) (e := 45) (z := .agg #[.int .i64 0, .int .i64 0]) (size := 2) (bytes := 16) (by kernel_rfl)
  go_wp2_with fail
  refine (a2Curve_any A0 c0 xs0 _ r0 wf0 l0).mono ?_
  rintro e w1 ⟨ys, Ay, cy, rfl, oy, hb1, l2, CV⟩
  have ry : Rd encPt 2 w1 w1.heap.size Ay ys := rd_of_own (enc := encPt) (k := 2) (c := cy) (fun _ => rfl) oy
  have hcv := CV.cv l2
  clear oy r0 wf0 l0 m0
  by_cases h2 : ys.length < 2
  · have t0 : decide ((ys.length : Int) < 2) = true := by simp; omega
    go_wp2_with fail
    refine (slopeFew_any Ay cy ys _ ry (by omega) hcv).mono ?_
    rintro e w2 ⟨rfl, hb2⟩
    go_wp2
    go_ret
    exact ⟨rfl, (by repeat (first | assumption | exact Below.refl _ _ | apply Below.al | apply Below.drewN' | apply Below.drew | (refine Below.sc ?_ (by first | omega | (simp; done) | (simp; omega)) _) | (apply Below.tr; assumption)))⟩
  have t0 : decide ((ys.length : Int) < 2) = false := by simp; omega
  obtain ⟨q, hq⟩ : ∃ q, ys[0]? = some q := getx (by omega)
  have hd := slD_pos (q := q) CV.1 (by omega)
  have hT : ∀ p ∈ ys, 0 ≤ p.t ∧ p.t ≤ 60000 := fun p hp => ⟨(CV.2 p hp).1, (CV.2 p hp).2.1⟩
  have HT := hid hT
  have HQ := hid hq
  have HD := hid hd
  have CV := hid CV
  go_wp2_with fail
  refine (slope_any Ay cy ys q _ ry (by omega) l2 hcv hT hq hd).mono ?_
  rintro e w2 ⟨rfl, hb2⟩
  have SB := slB_pos hd
  have HA := hid (rfl : slA q ys = slA q ys)
  have SBe : Hid (slB q ys = slB q ys) := hid rfl
  clear hcv hT hq hd
  generalize hsa : slA q ys = sa at *
  generalize hsb : slB q ys = sb at *
  have hsa := hid hsa
  have hsb := hid hsb
  have hbW := Below.tr hb2 hb1
  have x0 : (w2.alloc (.cells #[.int .i64 sa, .int .i64 sb] 41)).cell? ⟨w2.heap.size, 0, none⟩ = some (.int .i64 sa) := by simp [go_sem]
  have x1 : (w2.alloc (.cells #[.int .i64 sa, .int .i64 sb] 41)).cell? ⟨w2.heap.size, 1, none⟩ = some (.int .i64 sb) := by simp [go_sem]
  have hbX := Below.tr (Below.al (Below.refl _ w2) (.cells #[.int .i64 sa, .int .i64 sb] 41)) hbW
  have z2 : w2.heap.size < (World.heap (w2.alloc (.cells #[.int .i64 sa, .int .i64 sb] 41))).size := by simp
  have ry2 : Rd encPt 2 (w2.alloc (.cells #[.int .i64 sa, .int .i64 sb] 41)) w1.heap.size Ay ys := ry.below (Below.tr (Below.al (Below.refl _ w2) (.cells #[.int .i64 sa, .int .i64 sb] 41)) hb2) (Nat.le_refl _)
  have z12 : w1.heap.size ≤ (World.heap (w2.alloc (.cells #[.int .i64 sa, .int .i64 sb] 41))).size := by have := hb2.size; simp; omega
  go_wp2_with fail
  refine (a2At_any A1 c1 xs1 0 100 _ ((r1.below hbX (Nat.le_refl _)).more hbX.size) wf1 l1 (by omega) (by omega)).mono ?_
  rintro e w3 ⟨⟨z, rfl, z0, z1⟩, rfl⟩
  clear r1 wf1 l1 m1 ry hb1 hb2 hbW
  generalize w2.alloc (.cells #[.int .i64 sa, .int .i64 sb] 41) = wX at *
  generalize w2.heap.size = p at *
  have oF0 : ((wX.alloc (.cells #[] 45)).alloc (.cells #[] 45)).ownsRow wX.heap.size 45 2 (.slice (some ⟨wX.heap.size, 0, none⟩) 0 0) 0 [] := (own_lit0 wX 45 2 (Nat.le_refl _)).alloc _
  have oL0 : ((wX.alloc (.cells #[] 45)).alloc (.cells #[] 45)).ownsRow wX.heap.size 45 2 (.slice (some ⟨wX.heap.size + 1, 0, none⟩) 0 0) 0 [] := own_lit1 _ 45 2 (by simp) (by simp)
  have hbY : Below wX.heap.size wX ((wX.alloc (.cells #[] 45)).alloc (.cells #[] 45)) := (by repeat (first | assumption | exact Below.refl _ _ | apply Below.al | apply Below.drewN' | apply Below.drew | (refine Below.sc ?_ (by first | omega | (simp; done) | (simp; omega)) _) | (apply Below.tr; assumption)))
  have oF0 := hid oF0
  have oL0 := hid oL0
  obtain ⟨r, hr⟩ : ∃ r : Int, r = z - 50 := ⟨_, rfl⟩
  have r1 : -50 ≤ r := by omega
  have r2 : r ≤ 50 := by omega
  go_wp2_with fail
  rw [← hr]
  clear hr z0 z1
  go_loopw [9, 10, 11] (fun fv lv i wr => ∃ (k bf bl cf cl : Nat), k ≤ ys.length ∧ i = .int .i64 k ∧ fv = .slice (some ⟨bf, 0, none⟩) k cf ∧ lv = .slice (some ⟨bl, 0, none⟩) k cl ∧ bf ≠ bl ∧ Below wX.heap.size wX wr ∧ Hid (wr.ownsRow wX.heap.size 45 2 (.slice (some ⟨bf, 0, none⟩) k cf) k (((ys.take k).map up).flatMap encPt)) ∧ Hid (wr.ownsRow wX.heap.size 45 2 (.slice (some ⟨bl, 0, none⟩) k cl) k (((ys.take k).map (ln r q)).flatMap encPt))) (fun _ _ i _ => ys.length - (intOf i).toNat)
  case atStart => exact ⟨0, wX.heap.size, wX.heap.size + 1, 0, 0, Nat.zero_le _, rfl, rfl, by first | rfl | simp, by omega, hbY, oF0, oL0⟩
  case round =>
    clear hbY oF0 oL0
    obtain ⟨k, bf, bl, cf, cl, hk, rfl, rfl, rfl, nfl, hb, OF, OL⟩ := hrel
    have hsz := hb.size
    have bfl := OF.out.lt bf rfl
    have bll := OL.out.lt bl rfl
    by_cases hlt : k < ys.length
    · obtain ⟨p', hp⟩ := getx hlt
      obtain ⟨bb, o, rfl, hbB, c0, c1⟩ := (ry2.below hb z12).at2 hp rfl
      obtain ⟨_, _, ee, _, f0, f1⟩ := (ry2.below hb z12).at2 HQ.out rfl
      simp at ee; obtain ⟨rfl, rfl⟩ := ee
      simp only [Nat.mul_zero, Nat.zero_mul, Nat.add_zero] at f0 f1
      have vp := CV.out.2 p' (List.mem_of_getElem? hp)
      have vq := CV.out.2 q (List.mem_of_getElem? HQ.out)
      have HPx := hid hp
      have hk0 : 0 < ys.length := by omega
      have bx : bb < wr.heap.size := by omega
      have agF : (Value.slice (some ⟨bf, 0, none⟩) k cf).ownBlock ≠ some bb := fun hx => by have := (OF.out.lt bb hx).1; omega
      clear hp f1
      go_wp2
      go_region_held3 (fun w' => w'.cell? ⟨bb, o + k * 2, none⟩ = some (.int .i64 p'.t) ∧ w'.cell? ⟨bb, o + k * 2 + 1, none⟩ = some (.int .i64 p'.m) ∧ w'.cell? ⟨bb, o, none⟩ = some (.int .i64 q.t)) (first | go_keep | (go_split_ands; refine ⟨?_, ?_, ?_⟩ <;> (rw [growA.cell_far _ (by simp; omega) (Ne.symm agF)]; assumption)))
        ((refine step_append_lies _ (by rfl) _ _ _ (by rfl) wX.heap.size 45 i0 _ 2 16 Try.underlying38 hi0 iz0 iz1 iz2 rfl (by omega) _ k _ (by rfl) ((OF.out.alloc _).drew) ⟨wr.heap.size, 0, none⟩ 1 1 [.int .i64 p'.t, .int .i64 (IntKind.i64.wrap (p'.m + 500))] (by rfl) (by rfl) (World.news_of_block (cs := #[.int .i64 p'.t, .int .i64 (IntKind.i64.wrap (p'.m + 500))]) (t := 45) (fr := (0, 0)) (heap_alloc_new wr _)) (by simp [Value.oneCell']) (by omega) (by unfold maxLen; omega) (by omega) (by simp; omega) (wr.heap.size + 1) (by simp) ?_; intro gA capA wA ownA growA atA ltA))
      have e5 : IntKind.i64.wrap (p'.m + 500) = p'.m + 500 := IntWalk.i64_in _ ⟨by omega, by omega⟩
      rw [e5] at ownA
      have zz := growA.size
      simp at zz
      have ngl : gA ≠ bl := by
        rcases atA with h | h
        · simp [Value.ownBlock] at h; omega
        · omega
      have OL1 := hid (((OL.out.alloc (.cells #[.int .i64 p'.t, .int .i64 (IntKind.i64.wrap (p'.m + 500))] 45)).drew).kept growA (.inr (by simp [Value.ownBlock]; omega)))
      have OA := hid ownA
      have hbA : Below wX.heap.size wX wA := (hb.alloc hsz _).drew.grown growA (by simp; omega) (fun x hx => (OF.out.lt x hx).1)
      have dA : ∀ off u, wr.cell? ⟨bb, off, none⟩ = some u → wA.cell? ⟨bb, off, none⟩ = some u := fun off u hu => (growA.cell_far ⟨bb, off, none⟩ (by simp; omega) (Ne.symm agF)).trans (((bcell (Below.drew (Below.al (Below.refl _ wr) (.cells #[.int .i64 p'.t, .int .i64 (IntKind.i64.wrap (p'.m + 500))] 45)))).1 bb off bx).trans hu)
      have y0 := dA _ _ c0
      have y1 := dA _ _ f0
      have bxA : bb < wA.heap.size := by omega
      have blA : bl < wA.heap.size := by omega
      have zzA : wX.heap.size ≤ wA.heap.size := hbA.size
      have agL : (Value.slice (some ⟨bl, 0, none⟩) k cl).ownBlock ≠ some bb := fun hx => by have := (OL.out.lt bb hx).1; omega
      have mb := mul_bds (x := r) (y := p'.t - q.t) (A := 50) (B := 60000) (by omega) (by omega) (by omega) (by omega)
      clear c0 c1 f0 ownA growA atA zz e5 dA
      go_wp2
      go_region_held3 (fun w' => w'.cell? ⟨bb, o + k * 2, none⟩ = some (.int .i64 p'.t) ∧ w'.cell? ⟨bb, o, none⟩ = some (.int .i64 q.t)) (first | go_keep | (go_split_ands; refine ⟨?_, ?_⟩ <;> (rw [growB.cell_far _ (by simp; omega) (Ne.symm agL)]; assumption)))
        ((refine step_append_lies _ (by rfl) _ _ _ (by rfl) wX.heap.size 45 i0 _ 2 16 Try.underlying38 hi0 iz0 iz1 iz2 rfl (by omega) _ k _ (by rfl) ((OL1.out.alloc _).drew) ⟨wA.heap.size, 0, none⟩ 1 1 [.int .i64 p'.t, .int .i64 (IntKind.i64.wrap (9000 + IntKind.i64.wrap ((IntKind.i64.wrap (r * IntKind.i64.wrap (p'.t - q.t))).tdiv 100)))] (by rfl) (by rfl) (World.news_of_block (cs := #[.int .i64 p'.t, .int .i64 (IntKind.i64.wrap (9000 + IntKind.i64.wrap ((IntKind.i64.wrap (r * IntKind.i64.wrap (p'.t - q.t))).tdiv 100)))]) (t := 45) (fr := (0, 0)) (heap_alloc_new wA _)) (by simp [Value.oneCell']) (by omega) (by unfold maxLen; omega) (by omega) (by simp; omega) (wA.heap.size + 1) (by simp) ?_; intro gB capB wB ownB growB atB ltB))
      have hT9 := Int.natAbs_tdiv_le_natAbs (r * (p'.t - q.t)) 100
      have e1 : IntKind.i64.wrap (p'.t - q.t) = p'.t - q.t := IntWalk.i64_in _ ⟨by omega, by omega⟩
      have e2 : IntKind.i64.wrap (r * (p'.t - q.t)) = r * (p'.t - q.t) := IntWalk.i64_in _ ⟨by omega, by omega⟩
      have e3 : IntKind.i64.wrap ((r * (p'.t - q.t)).tdiv 100) = (r * (p'.t - q.t)).tdiv 100 := IntWalk.i64_in _ ⟨by omega, by omega⟩
      have e4 : IntKind.i64.wrap (9000 + (r * (p'.t - q.t)).tdiv 100) = 9000 + (r * (p'.t - q.t)).tdiv 100 := IntWalk.i64_in _ ⟨by omega, by omega⟩
      rw [e1, e2, e3, e4] at ownB
      have OA1 := hid (((OA.out.alloc (.cells #[.int .i64 p'.t, .int .i64 (IntKind.i64.wrap (9000 + IntKind.i64.wrap ((IntKind.i64.wrap (r * IntKind.i64.wrap (p'.t - q.t))).tdiv 100)))] 45)).drew).kept growB (.inr (by simp [Value.ownBlock]; omega)))
      have ngg : gA ≠ gB := by
        rcases atB with h | h
        · simp [Value.ownBlock] at h; omega
        · omega
      have hbB' : Below wX.heap.size wX wB := (hbA.alloc zzA _).drew.grown growB (by simp; omega) (fun x hx => (OL1.out.lt x hx).1)
      have OB := hid ownB
      clear ownB growB e1 e2 e3 e4 atB
      go_wp2
      go_roundw
      case rel => exact ⟨k + 1, gA, gB, capA, capB, by omega, by go_num, rfl, rfl, ngg, hbB', hid (by rw [List.take_add_one, HPx.out, List.map_append, List.flatMap_append]; exact OA1.out), hid (by rw [List.take_add_one, HPx.out, List.map_append, List.flatMap_append]; exact OB.out)⟩
      case measure => simp [intOf]; omega
    · obtain rfl : k = ys.length := by omega
      have oF : wr.ownsRow wX.heap.size 45 2 (.slice (some ⟨bf, 0, none⟩) (ys.map up).length cf) (ys.map up).length ((ys.map up).flatMap encPt) := by
        have := OF.out
        rw [List.take_length] at this
        rw [List.length_map]; exact this
      have oL : wr.ownsRow wX.heap.size 45 2 (.slice (some ⟨bl, 0, none⟩) (ys.map (ln r q)).length cl) (ys.map (ln r q)).length ((ys.map (ln r q)).flatMap encPt) := by
        have := OL.out
        rw [List.take_length] at this
        rw [List.length_map]; exact this
      have rF := rd_of_own (enc := encPt) (k := 2) (fun _ => rfl) oF
      have rL := rd_of_own (enc := encPt) (k := 2) (fun _ => rfl) oL
      have CF := slope_any (some ⟨bf, 0, none⟩) cf (ys.map up) (up q) wr rF (by simp; omega) (by simp; omega) (cvB_up CV.out l2) (fun p hp => by obtain ⟨x, hx, rfl⟩ := List.mem_map.1 hp; have := CV.out.2 x hx; exact ⟨this.1, this.2.1⟩) (by simp [HQ.out]) (by rw [up_slD]; exact HD.out)
      rw [up_slA, up_slB, hsa.out, hsb.out, List.length_map] at CF
      have HRL := hid rL
      clear OF OL hlt oF oL rF rL
      go_wp2_with fail
      refine CF.mono ?_
      rintro e w4 ⟨rfl, hb4⟩
      clear CF
      have hb4w := Below.tr (Below.al (Below.refl _ w4) (.cells #[.int .i64 sa, .int .i64 sb] 41)) hb4
      have hbC := Below.tr hb4w hb
      have y0 := ((bcell hbC).1 p 0 z2).trans x0
      have y1 := ((bcell hbC).1 p 1 z2).trans x1
      have y2 : (w4.alloc (.cells #[.int .i64 sa, .int .i64 sb] 41)).cell? ⟨w4.heap.size, 0, none⟩ = some (.int .i64 sa) := by simp [go_sem]
      have y3 : (w4.alloc (.cells #[.int .i64 sa, .int .i64 sb] 41)).cell? ⟨w4.heap.size, 1, none⟩ = some (.int .i64 sb) := by simp [go_sem]
      have SB1 : decide (sb < 1) = false := by simp; omega
      have RLC := (HRL.out.below hb4w (Nat.le_refl _)).more hb4w.size
      have CL := specValidCurve_any (some ⟨bl, 0, none⟩) cl (ys.map (ln r q)) _ RLC (by simp; omega)
      rw [List.length_map] at CL
      go_wp2_with fail
      refine CL.mono ?_
      rintro e w5 ⟨rfl, hb5⟩
      have hb5w := Below.tr hb5 (Below.tr hbC hbX)
      clear CL y0 y1 y2 y3 x0 x1
      cases hcl : cvB (ys.map (ln r q))
      · go_wp2
        go_ret
        exact ⟨rfl, hb5w⟩
      · have hq2 : q.t % 100 = 0 := CV.out.mod (List.mem_of_getElem? HQ.out)
        have hdl : 0 < slD (ln r q q) (ys.map (ln r q)) := by rw [slD_map (ln r q) (fun _ => rfl)]; exact HD.out
        have LS := ln_slope hdl (ln_line (r := r) hq2 (fun p hp => CV.out.mod hp))
        have CS := slope_any (some ⟨bl, 0, none⟩) cl (ys.map (ln r q)) (ln r q q) w5 ((RLC.below hb5 (Nat.le_refl _)).more hb5.size) (by simp; omega) (by simp; omega) hcl (fun p hp => by obtain ⟨x, hx, rfl⟩ := List.mem_map.1 hp; have := CV.out.2 x hx; exact ⟨this.1, this.2.1⟩) (by simp [HQ.out]) hdl
        rw [LS.1, LS.2, List.length_map] at CS
        clear hcl LS hdl hq2 RLC
        go_wp2_with fail
        refine CS.mono ?_
        rintro e w6 ⟨rfl, hb6⟩
        clear CS
        go_wp2
        go_ret
        exact ⟨rfl, Below.tr (Below.al (Below.refl _ w6) _) (Below.tr hb6 hb5w)⟩
namespace fnSlopes
open Go.ChangeShapes Go.WideShapes Go.ChangeAt Go.RowKit Go.Deep Go.Joins
set_option linter.unusedVariables false
theorem own : ownKnob Try.prog.godebug = none := by kernel_rfl
theorem laidOut : laidOutB Try.prog = true := by kernel_rfl
set_option maxRecDepth 100000 in
theorem lifted (os : Os) (started : os.Started) (H : Type) (enc : TypeId × Value → H) :
    ReturnsInHanded {} Try.checked os 4 .any (Rows.fnSlopesSpec.pre6 enc Try.prog Try.f4 Rows.fnSlopesRow.domain false) (Rows.fnSlopesSpec.post enc Try.prog Try.f4 false true false false) := by
  refine returnsInHanded_of_change (C := Try.checked) own started (by kernel_rfl) Try.func4
    (ChangeSpec.witness6 (enc := enc) (C := Try.checked) false ⟨#[], #[.slice none 0 0, .slice none 0 0], []⟩ 8 (by kernel_rfl) (by kernel_rfl) (by kernel_rfl) (by kernel_rfl)) ?_
  intro W base args ds gs before hval0 hW hcnd _
  have hval : ∀ (j : Nat) t v, Try.f4.params[j]? = some t → args[j]? = some v → Value.okWide Try.prog W .any base t v := hval0
  have hW' := hW
  obtain ⟨p, q, hA0, hV, rfl, hfz, hnd⟩ := hW
  have hA : DataW.TrodAll enc Try.prog W 0 (fun _ => true) true Try.f4.params.toList args.toList ds p := hA0
  rw [Try.params4] at hA hval
  obtain ⟨v0, vs0, d0, ds0, p0, q0, hargs, rfl, rfl, h0, r0⟩ := trodAll_cons hA
  obtain ⟨v1, vs1, d1, ds1, p1, q1, rfl, rfl, rfl, h1, r1⟩ := trodAll_cons r0
  obtain ⟨rfl, rfl, rfl⟩ := trodAll_nil r1
  obtain rfl : args = #[v0, v1] := by cases args; simp_all
  obtain ⟨rfl, rfl⟩ := trodVars_none hV
  have k0 := h0
  have lt0 : ∀ x ∈ p0, x.block < W.heap.size := by obtain ⟨m, hm⟩ := k0; exact DataW.trod_lt m _ _ _ hm
  have k1 := h1
  have lt1 : ∀ x ∈ p1, x.block < W.heap.size := by obtain ⟨m, hm⟩ := k1; exact DataW.trod_lt m _ _ _ hm
  obtain ⟨A0, len0, cap0, rfl⟩ := okWide_slice Try.underlying22 (hval 0 22 v0 rfl rfl)
  obtain ⟨xs0, rfl, rd0, wf0, ml0⟩ : ∃ xs : List _, xs.length = len0 ∧ Rd encB 1 W W.heap.size A0 xs ∧ (∀ x ∈ xs, 0 ≤ x ∧ x < 256) ∧ len0 ≤ maxLen := by
    obtain ⟨fuel, hf⟩ := h0
    exact rd_open (encA := encB) (wf := fun x => 0 ≤ x ∧ x < 256) (k := 1) (by decide) (fun _ => rfl) Try.underlying22 (by kernel_rfl) (dec_byte Try.underlying5) (by simpa [Value.cells] using hf)
  obtain ⟨A1, len1, cap1, rfl⟩ := okWide_slice Try.underlying22 (hval 1 22 v1 rfl rfl)
  obtain ⟨xs1, rfl, rd1, wf1, ml1⟩ : ∃ xs : List _, xs.length = len1 ∧ Rd encB 1 W W.heap.size A1 xs ∧ (∀ x ∈ xs, 0 ≤ x ∧ x < 256) ∧ len1 ≤ maxLen := by
    obtain ⟨fuel, hf⟩ := h1
    exact rd_open (encA := encB) (wf := fun x => 0 ≤ x ∧ x < 256) (k := 1) (by decide) (fun _ => rfl) Try.underlying22 (by kernel_rfl) (dec_byte Try.underlying5) (by simpa [Value.cells] using hf)
  clear hA0 hval0
  refine (slopes_law W A0 cap0 xs0 rd0 wf0 ml0 A1 cap1 xs1 rd1 wf1 ml1).mono fun e W' ⟨he, bel⟩ => ?_
  subst he
  exact ⟨_, rfl, _, _, _, [], _, [], hW', trodAll_mk1 (shut_bool Try.underlying4 _), (trodAll_cons_mk (Below.trod laidOut (by kernel_rfl) (of_decide_eq_true (by kernel_rfl)) k0 bel lt0) (trodAll_cons_mk (Below.trod laidOut (by kernel_rfl) (of_decide_eq_true (by kernel_rfl)) k1 bel lt1) trodAll_mk0)), rfl, bel.frame _, fun h => by cases h⟩

theorem proved : Rows.FnSlopesSaid :=
  OpenClaim.holds_of_wide 4 Try.f4 rfl rfl rfl rfl rfl rfl rfl ⟨rfl, rfl, rfl, rfl, rfl⟩ rfl rfl rfl rfl rfl (by kernel_rfl) Try.func4 (by kernel_rfl)
    (of_decide_eq_true (by kernel_rfl)) (by unfold Func.isWrapper; first | (rw [if_pos (by decide +kernel)]; kernel_rfl) | (rw [if_neg (by decide +kernel)]; exact ⟨rfl, rfl⟩))
    (fun os started H enc _ => lifted os started H enc)
#print axioms proved
end fnSlopes
end Go.Proofs.Ythlolfhjnfkcfaa
