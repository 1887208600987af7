/- What the fitted line leaves has the sum nothing, also weighted with the cycles, for every code: the law says yes. No condition. -/
import Derived.Test.YtlpgnmkhlbddaaaRows
import Derived.Test.YtlpgnmkhlbddaaaOpen
import Derived.Test.YtlpgnmkhlbddaaaC13p
import Derived.Test.YtlpgnmkhlbddaaaCLong
namespace Go.Proofs.Ytlpgnmkhlbddaaa
open Go.RowKit
set_option linter.unusedVariables false
set_option maxRecDepth 20000 in
set_option maxHeartbeats 4000000 in
theorem fits_law (w : World) (A0 : Option Addr) (c0 : Nat) (xs0 : List Int) (r0 : Rd encB 1 w w.heap.size A0 xs0) (wf0 : ∀ x ∈ xs0, 0 ≤ x ∧ x < 256) (m0 : xs0.length ≤ maxLen) (A1 : Option Addr) (c1 : Nat) (xs1 : List Int) (r1 : Rd encB 1 w w.heap.size A1 xs1) (wf1 : ∀ x ∈ xs1, 0 ≤ x ∧ x < 256) (m1 : xs1.length ≤ maxLen) :
    Calls Try.prog 3 #[.slice A0 xs0.length c0, .slice A1 xs1.length c1] w fun e w' => e = .returned (.bool true) ∧ Below w.heap.size w w' := by
  by_cases hL : 3000 < xs0.length ∨ 3000 < xs1.length
  · have e : (decide (3000 < xs0.length) || decide (3000 < xs1.length)) = true := by simpa using hL
    go_enter Try.func3, Try.ntmps3
    go_wp2_with fail
    refine (a2Long_any _ _ _ _ _ _ _ m0 m1).mono ?_
    rw [e]
    rintro e w1 ⟨rfl, rfl⟩
    go_wp2
    go_ret
    exact ⟨rfl, (by repeat (first | assumption | exact Below.refl _ _ | apply Below.al | apply Below.drewN' | apply Below.drew | (apply Below.tr; assumption)))⟩
  have e : (decide (3000 < xs0.length) || decide (3000 < xs1.length)) = false := by simp; omega
  have l0 : xs0.length ≤ 3000 := by omega
  have l1 : xs1.length ≤ 3000 := by omega
  clear hL
  go_enter Try.func3, Try.ntmps3
  go_wp2_with fail
  refine (a2Long_any _ _ _ _ _ _ _ m0 m1).mono ?_
  rw [e]
  rintro e w1 ⟨rfl, rfl⟩
  clear e
  go_wp2_with fail
  refine (a2Ephemeris_any A0 c0 xs0 _ r0 wf0 l0).mono ?_
  rintro e w1 ⟨a, b, rfl, a0, a1, p0, p1, hb1⟩
  have r11 : Rd encB 1 w1 w1.heap.size A1 xs1 := (r1.below hb1 (Nat.le_refl _)).more hb1.size
  clear r0 wf0 m0
  go_wp2_with fail
  refine (a2Minima_any A1 c1 xs1 a b _ r11 wf1 l1 a0 a1 p0 p1).mono ?_
  rintro e w2 ⟨ys, Ay, cy, rfl, oy, hb2, l2, OK, NE⟩
  have ry : Rd encMn 2 w2 w2.heap.size Ay ys := rd_of_own (enc := encMn) (k := 2) (c := cy) (fun _ => rfl) oy
  have hv := OK.mv l2
  have hbW := Below.tr hb2 hb1
  clear oy r1 r11 wf1 l1 m1 NE hb2 hb1
  by_cases h2 : ys.length < 2
  · have t0 : decide ((ys.length : Int) < 2) = true := by simp; omega
    go_wp2_with fail
    refine (fitFew_any Ay cy ys _ ry (by omega) hv).mono ?_
    rintro e w3 ⟨rfl, hb3⟩
    go_wp2
    go_ret
    exact ⟨rfl, (by repeat (first | assumption | exact Below.refl _ _ | apply Below.al | apply Below.drewN' | apply Below.drew | (refine Below.sc ?_ (by first | omega | (simp; done) | (simp; omega)) _) | (apply Below.tr; assumption)))⟩
  have t0 : decide ((ys.length : Int) < 2) = false := by simp; omega
  have hd := mD_pos OK (by omega)
  have HR := OK.2
  obtain ⟨d1, d2, d3, d4, d5, d6, d7, d8, HF⟩ := fit_bds HR l2 (by omega) hd
  have HRh := hid HR
  go_wp2_with fail
  refine (fit_any Ay cy ys _ ry (by omega) l2 hv (fun p hp => by have := HR p hp; omega) hd).mono ?_
  rintro e w3 ⟨rfl, hb3⟩
  have FS := hid (HF _ _ _ _ rfl rfl rfl rfl)
  generalize fTn ys = tn at *
  generalize fTd ys = td at *
  generalize fPn ys = pn at *
  generalize fPd ys = pd at *
  clear HF hd hv HR OK
  have x0 : ((w3.alloc (.cells #[.int .i64 tn, .int .i64 td] 30)).alloc (.cells #[.int .i64 pn, .int .i64 pd] 30)).cell? ⟨w3.heap.size, 0, none⟩ = some (.int .i64 tn) := by simp [go_sem]
  have x1 : ((w3.alloc (.cells #[.int .i64 tn, .int .i64 td] 30)).alloc (.cells #[.int .i64 pn, .int .i64 pd] 30)).cell? ⟨w3.heap.size, 1, none⟩ = some (.int .i64 td) := by simp [go_sem]
  have x2 : ((w3.alloc (.cells #[.int .i64 tn, .int .i64 td] 30)).alloc (.cells #[.int .i64 pn, .int .i64 pd] 30)).cell? ⟨w3.heap.size + 1, 0, none⟩ = some (.int .i64 pn) := by simp [go_sem]
  have x3 : ((w3.alloc (.cells #[.int .i64 tn, .int .i64 td] 30)).alloc (.cells #[.int .i64 pn, .int .i64 pd] 30)).cell? ⟨w3.heap.size + 1, 1, none⟩ = some (.int .i64 pd) := by simp [go_sem]
  have z4 : w3.heap.size + 1 < (World.heap ((w3.alloc (.cells #[.int .i64 tn, .int .i64 td] 30)).alloc (.cells #[.int .i64 pn, .int .i64 pd] 30))).size := by simp
  have hb4 : Below w2.heap.size w2 ((w3.alloc (.cells #[.int .i64 tn, .int .i64 td] 30)).alloc (.cells #[.int .i64 pn, .int .i64 pd] 30)) := (by repeat (first | assumption | exact Below.refl _ _ | apply Below.al | apply Below.drewN' | apply Below.drew | (refine Below.sc ?_ (by first | omega | (simp; done) | (simp; omega)) _) | (apply Below.tr; assumption)))
  have ry4 : Rd encMn 2 ((w3.alloc (.cells #[.int .i64 tn, .int .i64 td] 30)).alloc (.cells #[.int .i64 pn, .int .i64 pd] 30)) w2.heap.size Ay ys := ry.below hb4 (Nat.le_refl _)
  have z24 : w2.heap.size ≤ (World.heap ((w3.alloc (.cells #[.int .i64 tn, .int .i64 td] 30)).alloc (.cells #[.int .i64 pn, .int .i64 pd] 30))).size := hb4.size
  have hbF : Below w.heap.size w ((w3.alloc (.cells #[.int .i64 tn, .int .i64 td] 30)).alloc (.cells #[.int .i64 pn, .int .i64 pd] 30)) := Below.tr hb4 hbW
  have u1 : decide (td < 1) = false := by simp; omega
  have u2 : decide (200000 < td) = false := by simp; omega
  have u3 : decide (pd < 1) = false := by simp; omega
  have u4 : decide (200000 < pd) = false := by simp; omega
  clear hb3 hb4 hbW
  go_wp2_with fail
  all_goals
    generalize ((w3.alloc (.cells #[.int .i64 tn, .int .i64 td] 30)).alloc (.cells #[.int .i64 pn, .int .i64 pd] 30)) = wF at *
    generalize w3.heap.size = q at *
    go_loopw [9, 10, 11] (fun sv wv i wr => ∃ (k : Nat) (s u : Int), k ≤ ys.length ∧ i = .int .i64 k ∧ sv = .int .i64 s ∧ wv = .int .i64 u ∧ -(k * 7500000000000000) ≤ s ∧ s ≤ k * 7500000000000000 ∧ -(k * 390000000000000000) ≤ u ∧ u ≤ k * 390000000000000000 ∧ Below wF.heap.size wF wr ∧ Hid (s + dS1 tn td pn pd (ys.drop k) = 0) ∧ Hid (u + dW1 tn td pn pd (ys.drop k) = 0)) (fun _ _ i _ => ys.length - (intOf i).toNat)
    case atStart => exact ⟨0, 0, 0, Nat.zero_le _, rfl, rfl, rfl, by omega, by omega, by omega, by omega, Below.refl _ _, hid (by simpa using FS.out.1), hid (by simpa using FS.out.2)⟩
    case round =>
      obtain ⟨k, s, u, hk, rfl, rfl, rfl, s0, s1, v0, v1, hb, H1, H2⟩ := hrel
      have hsz := hb.size
      by_cases hlt : k < ys.length
      · obtain ⟨p, hp⟩ := getx hlt
        obtain ⟨bb, o, rfl, hbB, c0, c1⟩ := (ry4.below hb z24).at2 hp rfl
        have hpr := HRh.out p (List.mem_of_getElem? hp)
        obtain ⟨⟨m1, m2⟩, ⟨m3, m4⟩, ⟨m5, m6⟩, ⟨m7, m8⟩, ⟨m9, m10⟩⟩ := dv1_bd hpr d1 d2 d3 d4 d5 d6 d7 d8
        have HS1 : Hid (dS1 tn td pn pd (ys.drop k) = p.t * td * pd - tn * pd - p.c * pn * td + dS1 tn td pn pd (ys.drop (k+1))) := by rw [dropx hp]; rfl
        have HS2 : Hid (dW1 tn td pn pd (ys.drop k) = p.c * (p.t * td * pd - tn * pd - p.c * pn * td) + dW1 tn td pn pd (ys.drop (k+1))) := by rw [dropx hp]; rfl
        have mw := mul_bds (x := p.c) (y := p.t * td * pd - tn * pd - p.c * pn * td) (A := 51) (B := 7500000000000000) (by omega) (by omega) (by omega) (by omega)
        obtain ⟨hcb, _⟩ := bcell hb
        have y0 := (hcb q 0 (by omega)).trans x0
        have y1 := (hcb q 1 (by omega)).trans x1
        have y2 := (hcb (q + 1) 0 (by omega)).trans x2
        have y3 := (hcb (q + 1) 1 (by omega)).trans x3
        have b0 : bb < wr.heap.size := by omega
        have b1 : q < wr.heap.size := by omega
        have b2 : q + 1 < wr.heap.size := by omega
        clear hp hcb
        go_wp2
        refine wp_region_ext (by kernel_rfl) (by kernel_rfl) ?_
        repeat (go_big_quiet_step ((first | fail)))
        refine wpQuiet_nil ?_
        intro w5 hb5
        obtain ⟨hc_w5, hf_w5⟩ := bcell hb5
        have hz_w5 := hb5.size
        have y0 := (hc_w5 _ _ b0).trans c0
        have hb5' := Below.tr hb5 hb
        go_wp2
        go_roundw
        case rel => exact ⟨k + 1, s + (p.t * td * pd - tn * pd - p.c * pn * td), u + p.c * (p.t * td * pd - tn * pd - p.c * pn * td), by omega, by go_num, rfl, rfl, by push_cast; omega, by push_cast; omega, by push_cast; omega, by push_cast; omega, hb5', hid (by have := H1.out; rw [HS1.out] at this; omega), hid (by have := H2.out; rw [HS2.out] at this; omega)⟩
        case measure => simp [intOf]; omega
      · have E1 : s = 0 := by have := H1.out; rw [List.drop_eq_nil_of_le (by omega)] at this; simpa [dS1] using this
        have E2 : u = 0 := by have := H2.out; rw [List.drop_eq_nil_of_le (by omega)] at this; simpa [dW1] using this
        subst E1 E2
        go_wp2
        go_ret
        exact ⟨rfl, Below.tr hb hbF⟩
namespace fnFits
open Go.ChangeShapes Go.WideShapes Go.ChangeAt Go.RowKit Go.Deep Go.Joins
set_option linter.unusedVariables false
theorem own : ownKnob Try.prog.godebug = none := by kernel_rfl
theorem laidOut : laidOutB Try.prog = true := by kernel_rfl
set_option maxRecDepth 100000 in
theorem lifted (os : Os) (started : os.Started) (H : Type) (enc : TypeId × Value → H) :
    ReturnsInHanded {} Try.checked os 3 .any (Rows.fnFitsSpec.pre6 enc Try.prog Try.f3 Rows.fnFitsRow.domain false) (Rows.fnFitsSpec.post enc Try.prog Try.f3 false true false false) := by
  refine returnsInHanded_of_change (C := Try.checked) own started (by kernel_rfl) Try.func3
    (ChangeSpec.witness6 (enc := enc) (C := Try.checked) false ⟨#[], #[.slice none 0 0, .slice none 0 0], []⟩ 8 (by kernel_rfl) (by kernel_rfl) (by kernel_rfl) (by kernel_rfl)) ?_
  intro W base args ds gs before hval0 hW hcnd _
  have hval : ∀ (j : Nat) t v, Try.f3.params[j]? = some t → args[j]? = some v → Value.okWide Try.prog W .any base t v := hval0
  have hW' := hW
  obtain ⟨p, q, hA0, hV, rfl, hfz, hnd⟩ := hW
  have hA : DataW.TrodAll enc Try.prog W 0 (fun _ => true) true Try.f3.params.toList args.toList ds p := hA0
  rw [Try.params3] at hA hval
  obtain ⟨v0, vs0, d0, ds0, p0, q0, hargs, rfl, rfl, h0, r0⟩ := trodAll_cons hA
  obtain ⟨v1, vs1, d1, ds1, p1, q1, rfl, rfl, rfl, h1, r1⟩ := trodAll_cons r0
  obtain ⟨rfl, rfl, rfl⟩ := trodAll_nil r1
  obtain rfl : args = #[v0, v1] := by cases args; simp_all
  obtain ⟨rfl, rfl⟩ := trodVars_none hV
  have k0 := h0
  have lt0 : ∀ x ∈ p0, x.block < W.heap.size := by obtain ⟨m, hm⟩ := k0; exact DataW.trod_lt m _ _ _ hm
  have k1 := h1
  have lt1 : ∀ x ∈ p1, x.block < W.heap.size := by obtain ⟨m, hm⟩ := k1; exact DataW.trod_lt m _ _ _ hm
  obtain ⟨A0, len0, cap0, rfl⟩ := okWide_slice Try.underlying22 (hval 0 22 v0 rfl rfl)
  obtain ⟨xs0, rfl, rd0, wf0, ml0⟩ : ∃ xs : List _, xs.length = len0 ∧ Rd encB 1 W W.heap.size A0 xs ∧ (∀ x ∈ xs, 0 ≤ x ∧ x < 256) ∧ len0 ≤ maxLen := by
    obtain ⟨fuel, hf⟩ := h0
    exact rd_open (encA := encB) (wf := fun x => 0 ≤ x ∧ x < 256) (k := 1) (by decide) (fun _ => rfl) Try.underlying22 (by kernel_rfl) (dec_byte Try.underlying5) (by simpa [Value.cells] using hf)
  obtain ⟨A1, len1, cap1, rfl⟩ := okWide_slice Try.underlying22 (hval 1 22 v1 rfl rfl)
  obtain ⟨xs1, rfl, rd1, wf1, ml1⟩ : ∃ xs : List _, xs.length = len1 ∧ Rd encB 1 W W.heap.size A1 xs ∧ (∀ x ∈ xs, 0 ≤ x ∧ x < 256) ∧ len1 ≤ maxLen := by
    obtain ⟨fuel, hf⟩ := h1
    exact rd_open (encA := encB) (wf := fun x => 0 ≤ x ∧ x < 256) (k := 1) (by decide) (fun _ => rfl) Try.underlying22 (by kernel_rfl) (dec_byte Try.underlying5) (by simpa [Value.cells] using hf)
  clear hA0 hval0
  refine (fits_law W A0 cap0 xs0 rd0 wf0 ml0 A1 cap1 xs1 rd1 wf1 ml1).mono fun e W' ⟨he, bel⟩ => ?_
  subst he
  exact ⟨_, rfl, _, _, _, [], _, [], hW', trodAll_mk1 (shut_bool Try.underlying4 _), (trodAll_cons_mk (Below.trod laidOut (by kernel_rfl) (of_decide_eq_true (by kernel_rfl)) k0 bel lt0) (trodAll_cons_mk (Below.trod laidOut (by kernel_rfl) (of_decide_eq_true (by kernel_rfl)) k1 bel lt1) trodAll_mk0)), rfl, bel.frame _, fun h => by cases h⟩

theorem proved : Rows.FnFitsSaid :=
  OpenClaim.holds_of_wide 3 Try.f3 rfl rfl rfl rfl rfl rfl rfl ⟨rfl, rfl, rfl, rfl, rfl⟩ rfl rfl rfl rfl rfl (by kernel_rfl) Try.func3 (by kernel_rfl)
    (of_decide_eq_true (by kernel_rfl)) (by unfold Func.isWrapper; first | (rw [if_pos (by decide +kernel)]; kernel_rfl) | (rw [if_neg (by decide +kernel)]; exact ⟨rfl, rfl⟩))
    (fun os started H enc _ => lifted os started H enc)
#print axioms proved
end fnFits
end Go.Proofs.Ytlpgnmkhlbddaaa
