/- Each visible time lies in a window, in order, at phase zero, and the next visible time is the first of them at or past a time, for every code: the law says yes. No condition. -/
import Derived.Test.YthlolfhjnfkcfaaRows
import Derived.Test.YthlolfhjnfkcfaaOpen
import Derived.Test.YthlolfhjnfkcfaaC16y
import Derived.Test.YthlolfhjnfkcfaaC16z
import Derived.Test.YthlolfhjnfkcfaaCLong
namespace Go.Proofs.Ythlolfhjnfkcfaa
open Go.RowKit
set_option maxRecDepth 20000 in
set_option maxHeartbeats 4000000 in
theorem visible_law (w : World) (A0 : Option Addr) (c0 : Nat) (xs0 : List Int) (r0 : Rd encB 1 w w.heap.size A0 xs0) (wf0 : ∀ x ∈ xs0, 0 ≤ x ∧ x < 256) (m0 : xs0.length ≤ maxLen) (A1 : Option Addr) (c1 : Nat) (xs1 : List Int) (r1 : Rd encB 1 w w.heap.size A1 xs1) (wf1 : ∀ x ∈ xs1, 0 ≤ x ∧ x < 256) (m1 : xs1.length ≤ maxLen) :
    Calls Try.prog 3 #[.slice A0 xs0.length c0, .slice A1 xs1.length c1] w fun e w' => e = .returned (.bool true) ∧ Below w.heap.size w w' := by
  by_cases hL : 3000 < xs0.length ∨ 3000 < xs1.length
  · have e : (decide (3000 < xs0.length) || decide (3000 < xs1.length)) = true := by simpa using hL
    go_enter Try.func3, Try.ntmps3
    go_wp2_with fail
    refine (a2Long_any _ _ _ _ _ _ _ m0 m1).mono ?_
    rw [e]
    rintro e w1 ⟨rfl, rfl⟩
    go_wp2
    go_ret
    exact ⟨rfl, (by repeat (first | assumption | exact Below.refl _ _ | apply Below.al | apply Below.drewN' | apply Below.drew | (apply Below.tr; assumption)))⟩
  have e : (decide (3000 < xs0.length) || decide (3000 < xs1.length)) = false := by simp; omega
  have l0 : xs0.length ≤ 3000 := by omega
  have l1 : xs1.length ≤ 3000 := by omega
  clear hL
  go_enter Try.func3, Try.ntmps3
  go_wp2_with fail
  refine (a2Long_any _ _ _ _ _ _ _ m0 m1).mono ?_
  rw [e]
  rintro e w1 ⟨rfl, rfl⟩
  clear e
  go_wp2_with fail
  refine (a2Ephemeris_any A0 c0 xs0 _ r0 wf0 l0).mono ?_
  rintro e w1 ⟨a, b, rfl, a0, a1, b0, b1, hb1⟩
  have B1 := Bx.new w1 (.int .i64 a) (.int .i64 b) 25
  have hz1 := hb1.size
  have hbA : Below w.heap.size w (w1.alloc (.cells #[.int .i64 a, .int .i64 b] 25)) := hb1.alloc hz1 _
  have hpz : w.heap.size ≤ w1.heap.size := hz1
  go_wp2_with fail
  refine (a2Windows_any A1 c1 xs1 _ ((r1.below hbA (Nat.le_refl _)).more hbA.size) wf1 l1).mono ?_
  rintro e w2 ⟨ys, Aw, cw, rfl, ow, hb2, l2, CV⟩
  have B2 := B1.kept (gb_below hb2 none) (by simp)
  have hbB : Below w.heap.size w w2 := hbA.trans (hb2.mono hbA.size)
  have rw2 : Rd encWi 2 w2 w2.heap.size Aw ys := rd_of_own (enc := encWi) (k := 2) (c := cw) (fun _ => rfl) ow
  have hz2 := hbB.size
  generalize w1.heap.size = p at *
  have x0 := B2.2.1
  have x1 := B2.2.2.1
  have zp := B2.1
  have HE : ephB a b = true := by simp [ephB, inB]; omega
  have HWS := CV.ws l2
  have hwk : wkC a b ys = 0 := by unfold wkC; rw [if_pos ⟨HE, HWS⟩]
  have CV := hid CV
  clear B1 ow hb2 hbA hb1 r0 wf0 l0 m0 B2
  go_wp2_with fail
  refine (implVisibleTimes_any a b Aw cw ys _ rw2 (by omega)).mono ?_
  rintro e w3 ⟨Al, cl, rfl, ol, hb3⟩
  obtain ⟨hc3, _⟩ := bcell hb3
  have x0 := (hc3 p _ zp).trans x0
  have x1 := (hc3 p _ zp).trans x1
  have hz3 := hb3.size
  have zp : p < w3.heap.size := by omega
  have hw3 : Below w.heap.size w w3 := Below.tr hb3 hbB
  have rl3 : Rd encI 1 w3 w3.heap.size Al (vtV a b ys) := rd_of_own (enc := encI) (k := 1) (c := cl) (fun _ => rfl) ol
  have rw3 : Rd encWi 2 w3 w3.heap.size Aw ys := (rw2.below hb3 (Nat.le_refl _)).more hb3.size
  have r13 : Rd encB 1 w3 w3.heap.size A1 xs1 := (r1.below hw3 (Nat.le_refl _)).more hw3.size
  have lV := vtV_len a b ys
  clear hc3 ol rw2 hb3 r1 hbB
  by_cases hS : 200 < vtS a b ys
  · have hC : vtC a b ys = 5 := by unfold vtC; rw [if_pos hwk, if_pos hS]
    have hb200 : b < 200 := by
      rcases Int.lt_or_le b 200 with h | h
      · exact h
      · have := vtS_small (a := a) h ys CV.out; omega
    have t1 : decide (b < 200) = true := by simpa using hb200
    generalize vtV a b ys = L at *
    rw [hC]
    clear hC hS
    go_wp2
    go_ret
    exact ⟨rfl, hw3⟩
  have hC : vtC a b ys = 0 := by unfold vtC; rw [if_pos hwk, if_neg hS]
  have hV : vtV a b ys = vtL a b ys := by unfold vtV; rw [if_pos hC]
  rw [hC]
  rw [hV] at rl3 lV ⊢
  have RISE := hid (vtL_rise (a := a) (b := b) (by omega) ys CV.out)
  have INV : Hid (∀ t ∈ vtL a b ys, t ∈ vtL a b ys) := hid (fun t h => h)
  have FND : Hid (∀ tm, nvGo a b tm ys = (vtL a b ys).find? (fun t => decide (tm ≤ t))) := hid (fun tm => vtL_find (by omega) ys)
  clear hC hV hS
  have MEM : Hid (∀ t ∈ vtL a b ys, 0 ≤ t ∧ t ≤ 70000 ∧ (t - a) % b = 0) := hid (fun t h => vt_pos (by omega) CV.out h)
  have ATL : Hid (∀ (t : Int) (jj : Nat) (M : List Int), t ∈ vtL a b ys → Pre ys jj (t :: M) → jj < ys.length) := hid (fun t jj M h1 h2 => vt_lt (by omega) h1 h2)
  have ATW : Hid (∀ (t : Int) (jj : Nat) (M : List Int) (y : Wi), t ∈ vtL a b ys → Pre ys jj (t :: M) → ys[jj]? = some y → t ≤ y.t → y.f ≤ t) := hid (fun t jj M y h1 h2 h3 h4 => vt_at (by omega) CV.out h1 h2 h3 h4)
  clear INV
  generalize vtL a b ys = L at *
  go_wp2_with fail
  go_loopw [9, 10] (fun at_ i wr => ∃ j k : Nat, j ≤ ys.length ∧ k ≤ L.length ∧ at_ = .int .i64 j ∧ i = .int .i64 k ∧ Hid (Pre ys j (L.drop k)) ∧ Below w3.heap.size w3 wr) (fun _ i _ => L.length - (intOf i).toNat)
  case atStart => exact ⟨0, 0, Nat.zero_le _, Nat.zero_le _, rfl, rfl, hid (Pre.zero _ _), Below.refl _ _⟩
  case round =>
    obtain ⟨j, k, hj, hk, rfl, rfl, PR, hb⟩ := hrel
    have hsz := hb.size
    by_cases hlt : k < L.length
    · obtain ⟨t, ht⟩ := getx hlt
      obtain ⟨bb, o, rfl, hbB, d0⟩ := (rl3.below hb (Nat.le_refl _)).at1 ht rfl
      have HT := hid ht
      have hmem : t ∈ L := List.mem_of_getElem? ht
      obtain ⟨t0, t1, t2⟩ := MEM.out t hmem
      have T2 := hid t2
      have HM := hid hmem
      have PR : Hid (Pre ys j (t :: L.drop (k+1))) := hid (by rw [← dropx ht]; exact PR.out)
      have RS : Hid ((t :: L.drop (k+1)).Pairwise (· < ·)) := hid (by rw [← dropx ht]; exact RISE.out.sublist (List.drop_sublist _ _))
      obtain ⟨hcb, _⟩ := bcell hb
      have y0 := (hcb p _ zp).trans x0
      have y1 := (hcb p _ zp).trans x1
      have zpr : p < wr.heap.size := by omega
      have zbr : bb < wr.heap.size := by omega
      clear ht hmem t2 hcb
      go_wp2_with fail
      refine wp_region_ext (by kernel_rfl) (by kernel_rfl) ?_
      repeat (go_big_quiet_step ((first | (go_at_call 9; exact ext_below (phaseOf_any a b t _ (by omega) (by omega) (by omega) (by omega) (by omega) (by omega))))))
      refine wpQuiet_nil ?_
      intro w4 hb4
      obtain ⟨hc_w4, hf_w4⟩ := bcell hb4
      have hz_w4 := hb4.size
      rw [T2.out]
      have dB := (hc_w4 bb _ zbr).trans d0
      have y0 := (hc_w4 p _ zpr).trans y0
      have y1 := (hc_w4 p _ zpr).trans y1
      have hb4' := Below.tr hb4 hb
      have hz4 : w3.heap.size ≤ w4.heap.size := hb4'.size
      have zb4 : bb < w4.heap.size := by omega
      have zp4 : p < w4.heap.size := by omega
      clear hc_w4 hf_w4 d0 hb4 hb hsz
      go_wp2_with fail
      go_loopw [9] (fun at_ wi => ∃ j : Nat, j ≤ ys.length ∧ at_ = .int .i64 j ∧ Hid (Pre ys j (t :: L.drop (k+1))) ∧ Below w4.heap.size w4 wi) (fun at_ _ => ys.length - (intOf at_).toNat)
      case atStart => exact ⟨j, hj, rfl, PR, Below.refl _ _⟩
      case round =>
        clear PR hj
        obtain ⟨j, hj, rfl, PR, hb5⟩ := hrel
        have hj2 := ATL.out t j _ HM.out PR.out
        obtain ⟨q, hq⟩ := getx hj2
        have hb35 := Below.tr hb5 hb4'
        have hz5 := hb5.size
        obtain ⟨b2, o2, rfl, hbB2, f0, f1⟩ := (rw3.below hb35 (Nat.le_refl _)).at2 hq rfl
        obtain ⟨hc5, _⟩ := bcell hb5
        have e0 := (hc5 bb _ zb4).trans dB
        have zb5 : bb < wr.heap.size := by omega
        have z25 : b2 < wr.heap.size := by omega
        have HQ := hid hq
        clear hq hc5
        by_cases hqt : q.t < t
        · have t3 : decide (q.t < t) = true := by simpa using hqt
          go_wp2_with fail
          refine wp_region_ext (by kernel_rfl) (by kernel_rfl) ?_
          repeat (go_big_quiet_step ((first | fail)))
          refine wpQuiet_nil ?_
          intro w6 hb6
          obtain ⟨hc_w6, hf_w6⟩ := bcell hb6
          have hz_w6 := hb6.size
          go_wp2
          go_roundw
          case rel => exact ⟨j + 1, by omega, by go_num, hid (PR.out.next HQ.out hqt RS.out), Below.tr hb6 hb5⟩
          case measure => simp [intOf]; omega
        · have t3 : decide (q.t < t) = false := by simpa using hqt
          have hqf := ATW.out t j _ q HM.out PR.out HQ.out (by omega)
          have t4 : decide (t < q.f) = false := by simp; omega
          have t6 : decide ((ys.length : Int) ≤ (j : Int)) = false := by simp; omega
          have t7 : decide (ys.length ≤ j) = false := by simp; omega
          have t8 : ¬ (ys.length ≤ j) := by omega
          go_wp2_with fail
          refine wp_region_ext (by kernel_rfl) (by kernel_rfl) ?_
          repeat (go_big_quiet_step ((first | fail)))
          refine wpQuiet_nil ?_
          intro w6 hb6
          obtain ⟨hc_w6, hf_w6⟩ := bcell hb6
          have hz_w6 := hb6.size
          have e0 := (hc_w6 bb _ zb5).trans e0
          have f0 := (hc_w6 b2 _ z25).trans f0
          have f1 := (hc_w6 b2 _ z25).trans f1
          have hb36 := Below.tr hb6 hb35
          have zb6 : bb < w6.heap.size := by omega
          have z26 : b2 < w6.heap.size := by omega
          clear hc_w6 hf_w6
          by_cases hk0 : 0 < k
          · obtain ⟨s, hs⟩ : ∃ s, L[k-1]? = some s := getx (by omega)
            obtain ⟨_, _, ee, _, g0⟩ := (rl3.below hb36 (Nat.le_refl _)).at1 hs rfl
            simp at ee; obtain ⟨rfl, rfl⟩ := ee
            have hst : s < t := pw_lt RISE.out hs HT.out (by omega)
            have t5 : decide (t ≤ s) = false := by simp; omega
            clear hs
            go_wp2_with fail
            refine wp_region_ext (by kernel_rfl) (by kernel_rfl) ?_
            repeat (go_big_quiet_step ((first | fail)))
            refine wpQuiet_nil ?_
            intro w7 hb7
            obtain ⟨hc_w7, hf_w7⟩ := bcell hb7
            have hz_w7 := hb7.size
            go_wp2
            go_roundw
            case rel => exact ⟨j, k + 1, by omega, by omega, rfl, by go_num, hid PR.out.sub, Below.tr hb7 hb36⟩
            case measure => simp [intOf]; omega
          · have t9 : decide (0 < (k : Int)) = false := by simp; omega
            have t10 : decide (0 < k) = false := by simpa using hk0
            go_wp2_with fail
            refine wp_region_ext (by kernel_rfl) (by kernel_rfl) ?_
            repeat (go_big_quiet_step ((first | fail)))
            refine wpQuiet_nil ?_
            intro w7 hb7
            obtain ⟨hc_w7, hf_w7⟩ := bcell hb7
            have hz_w7 := hb7.size
            go_wp2
            go_roundw
            case rel => exact ⟨j, k + 1, by omega, by omega, rfl, by go_num, hid PR.out.sub, Below.tr hb7 hb36⟩
            case measure => simp [intOf]; omega
    · have hlk : L.length ≤ k := by omega
      have hbr := hb
      clear MEM ATL ATW RISE PR hlt
      go_wp2_with fail
      refine (a2At_any A1 c1 xs1 0 256 _ ((r13.below hb (Nat.le_refl _)).more hb.size) wf1 l1 (by omega) (by omega)).mono ?_
      rintro e w4 ⟨⟨z, rfl, z0, z1⟩, rfl⟩
      obtain ⟨hcb, _⟩ := bcell hbr
      have y0 := (hcb p _ zp).trans x0
      have y1 := (hcb p _ zp).trans x1
      have zpr : p < wr.heap.size := by omega
      have htm : inB (100 * z) 0 10000000 = true := inB_true.2 (by omega)
      have hft : ftC a b ys (inB (100 * z) 0 10000000) = 0 := by unfold ftC; rw [if_pos ⟨HE, HWS⟩, if_pos htm]
      have NV : Hid (nvV a b ys (100 * z) = (L.find? (fun t => decide (100 * z ≤ t))).getD 0) := by unfold Hid nvV; rw [if_pos hft, FND.out]
      have NC : Hid (nvC a b ys (100 * z) = if L.find? (fun t => decide (100 * z ≤ t)) = none then 3 else 0) := by unfold Hid nvC; rw [if_pos hft, FND.out]
      clear hcb htm hft HE HWS hwk FND
      go_wp2_with fail
      refine (implNextVisible_any a b Aw cw ys _ _ ((rw3.below hbr (Nat.le_refl _)).more hbr.size) (by omega)).mono ?_
      rintro e w5 ⟨rfl, hb5⟩
      have hb35 := Below.tr hb5 hbr
      generalize nvV a b ys (100 * z) = V at *
      generalize nvC a b ys (100 * z) = C at *
      obtain ⟨m, hm⟩ : ∃ m, m = 100 * z := ⟨_, rfl⟩
      rw [← hm] at NV NC ⊢
      clear y0 y1 hm
      go_wp2_with fail
      go_loopw [16] (fun i wr => ∃ k : Nat, k ≤ L.length ∧ i = .int .i64 k ∧ Hid (L.find? (fun t => decide (m ≤ t)) = (L.drop k).find? (fun t => decide (m ≤ t))) ∧ Below w3.heap.size w3 wr) (fun i _ => L.length - (intOf i).toNat)
      case atStart => exact ⟨0, Nat.zero_le _, rfl, hid (by simp), hb35⟩
      case round =>
        clear hb35 hb5 hbr hb hk hj zpr
        obtain ⟨k, hk, rfl, FD, hb⟩ := hrel
        have hsz := hb.size
        by_cases hlt : k < L.length
        · obtain ⟨t, ht⟩ := getx hlt
          obtain ⟨bb, o, rfl, hbB, d0⟩ := (rl3.below hb (Nat.le_refl _)).at1 ht rfl
          have HD := hid (dropx ht)
          clear ht
          by_cases hmt : m ≤ t
          · have hf : L.find? (fun t => decide (m ≤ t)) = some t := by rw [FD.out, HD.out, List.find?_cons_of_pos (by simpa using hmt)]
            obtain rfl : V = t := by rw [NV.out, hf]; rfl
            obtain rfl : C = 0 := by rw [NC.out, hf]; rfl
            clear hf
            go_wp2
            go_ret
            exact ⟨rfl, Below.tr hb hw3⟩
          · have t1 : decide (m ≤ t) = false := by simpa using hmt
            go_wp2
            go_roundw
            case rel => exact ⟨k + 1, by omega, by go_num, hid (by rw [FD.out, HD.out, List.find?_cons_of_neg (by simpa using hmt)]), hb⟩
            case measure => simp [intOf]; omega
        · have hf : L.find? (fun t => decide (m ≤ t)) = none := by rw [FD.out, List.drop_eq_nil_of_le (by omega)]; rfl
          obtain rfl : C = 3 := by rw [NC.out, hf]; rfl
          clear hf
          go_wp2
          go_ret
          exact ⟨rfl, Below.tr hb hw3⟩
namespace fnVisible
open Go.ChangeShapes Go.WideShapes Go.ChangeAt Go.RowKit Go.Deep Go.Joins
set_option linter.unusedVariables false
theorem own : ownKnob Try.prog.godebug = none := by kernel_rfl
theorem laidOut : laidOutB Try.prog = true := by kernel_rfl
set_option maxRecDepth 100000 in
theorem lifted (os : Os) (started : os.Started) (H : Type) (enc : TypeId × Value → H) :
    ReturnsInHanded {} Try.checked os 3 .any (Rows.fnVisibleSpec.pre6 enc Try.prog Try.f3 Rows.fnVisibleRow.domain false) (Rows.fnVisibleSpec.post enc Try.prog Try.f3 false true false false) := by
  refine returnsInHanded_of_change (C := Try.checked) own started (by kernel_rfl) Try.func3
    (ChangeSpec.witness6 (enc := enc) (C := Try.checked) false ⟨#[], #[.slice none 0 0, .slice none 0 0], []⟩ 8 (by kernel_rfl) (by kernel_rfl) (by kernel_rfl) (by kernel_rfl)) ?_
  intro W base args ds gs before hval0 hW hcnd _
  have hval : ∀ (j : Nat) t v, Try.f3.params[j]? = some t → args[j]? = some v → Value.okWide Try.prog W .any base t v := hval0
  have hW' := hW
  obtain ⟨p, q, hA0, hV, rfl, hfz, hnd⟩ := hW
  have hA : DataW.TrodAll enc Try.prog W 0 (fun _ => true) true Try.f3.params.toList args.toList ds p := hA0
  rw [Try.params3] at hA hval
  obtain ⟨v0, vs0, d0, ds0, p0, q0, hargs, rfl, rfl, h0, r0⟩ := trodAll_cons hA
  obtain ⟨v1, vs1, d1, ds1, p1, q1, rfl, rfl, rfl, h1, r1⟩ := trodAll_cons r0
  obtain ⟨rfl, rfl, rfl⟩ := trodAll_nil r1
  obtain rfl : args = #[v0, v1] := by cases args; simp_all
  obtain ⟨rfl, rfl⟩ := trodVars_none hV
  have k0 := h0
  have lt0 : ∀ x ∈ p0, x.block < W.heap.size := by obtain ⟨m, hm⟩ := k0; exact DataW.trod_lt m _ _ _ hm
  have k1 := h1
  have lt1 : ∀ x ∈ p1, x.block < W.heap.size := by obtain ⟨m, hm⟩ := k1; exact DataW.trod_lt m _ _ _ hm
  obtain ⟨A0, len0, cap0, rfl⟩ := okWide_slice Try.underlying22 (hval 0 22 v0 rfl rfl)
  obtain ⟨xs0, rfl, rd0, wf0, ml0⟩ : ∃ xs : List _, xs.length = len0 ∧ Rd encB 1 W W.heap.size A0 xs ∧ (∀ x ∈ xs, 0 ≤ x ∧ x < 256) ∧ len0 ≤ maxLen := by
    obtain ⟨fuel, hf⟩ := h0
    exact rd_open (encA := encB) (wf := fun x => 0 ≤ x ∧ x < 256) (k := 1) (by decide) (fun _ => rfl) Try.underlying22 (by kernel_rfl) (dec_byte Try.underlying5) (by simpa [Value.cells] using hf)
  obtain ⟨A1, len1, cap1, rfl⟩ := okWide_slice Try.underlying22 (hval 1 22 v1 rfl rfl)
  obtain ⟨xs1, rfl, rd1, wf1, ml1⟩ : ∃ xs : List _, xs.length = len1 ∧ Rd encB 1 W W.heap.size A1 xs ∧ (∀ x ∈ xs, 0 ≤ x ∧ x < 256) ∧ len1 ≤ maxLen := by
    obtain ⟨fuel, hf⟩ := h1
    exact rd_open (encA := encB) (wf := fun x => 0 ≤ x ∧ x < 256) (k := 1) (by decide) (fun _ => rfl) Try.underlying22 (by kernel_rfl) (dec_byte Try.underlying5) (by simpa [Value.cells] using hf)
  clear hA0 hval0
  refine (visible_law W A0 cap0 xs0 rd0 wf0 ml0 A1 cap1 xs1 rd1 wf1 ml1).mono fun e W' ⟨he, bel⟩ => ?_
  subst he
  exact ⟨_, rfl, _, _, _, [], _, [], hW', trodAll_mk1 (shut_bool Try.underlying4 _), (trodAll_cons_mk (Below.trod laidOut (by kernel_rfl) (of_decide_eq_true (by kernel_rfl)) k0 bel lt0) (trodAll_cons_mk (Below.trod laidOut (by kernel_rfl) (of_decide_eq_true (by kernel_rfl)) k1 bel lt1) trodAll_mk0)), rfl, bel.frame _, fun h => by cases h⟩

theorem proved : Rows.FnVisibleSaid :=
  OpenClaim.holds_of_wide 3 Try.f3 rfl rfl rfl rfl rfl rfl rfl ⟨rfl, rfl, rfl, rfl, rfl⟩ rfl rfl rfl rfl rfl (by kernel_rfl) Try.func3 (by kernel_rfl)
    (of_decide_eq_true (by kernel_rfl)) (by unfold Func.isWrapper; first | (rw [if_pos (by decide +kernel)]; kernel_rfl) | (rw [if_neg (by decide +kernel)]; exact ⟨rfl, rfl⟩))
    (fun os started H enc _ => lifted os started H enc)
#print axioms proved
end fnVisible
end Go.Proofs.Ythlolfhjnfkcfaa
