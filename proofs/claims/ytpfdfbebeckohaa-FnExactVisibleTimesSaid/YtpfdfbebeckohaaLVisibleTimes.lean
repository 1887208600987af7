/- The program and the reference return the same visible times, in new memory, for every ephemeris and every list of windows. No condition. -/
import Derived.Test.YtpfdfbebeckohaaRows
import Derived.Test.YtpfdfbebeckohaaOpen
import Derived.Test.YtpfdfbebeckohaaC16v
import Derived.Test.YtpfdfbebeckohaaCInt
import Derived.Test.YtpfdfbebeckohaaCWi
namespace Go.Proofs.Ytpfdfbebeckohaa
open Go.RowKit
set_option linter.unusedVariables false
set_option maxHeartbeats 1000000 in
theorem vi_law (w : World) (a : Int) (w_a : (Lit.int .i64 a).wf = true) (b : Int) (w_b : (Lit.int .i64 b).wf = true) (A1 : Option Addr) (c1 : Nat) (xs1 : List Wi) (r1 : Rd encWi 2 w w.heap.size A1 xs1) (wf1 : ∀ x ∈ xs1, True) (m1 : xs1.length ≤ maxLen) :
    Calls Try.prog 13 #[.agg #[.int .i64 a, .int .i64 b], .slice A1 xs1.length c1] w fun e w' => e = .returned (.bool true) ∧ Below w.heap.size w w' := by
  unfold maxLen at m1
  rcases Nat.lt_or_ge 1048576 (xs1.length) with n1 | n1
  · go_enter Try.func13, Try.ntmps13
    have tt : Below w.heap.size w (w.alloc (.cells #[.int .i64 a, .int .i64 b] 61)) := (by repeat (first | assumption | exact Below.refl _ _ | apply Below.al | apply Below.drewN' | apply Below.drew | (apply Below.tr; assumption)))
    go_wp2_with fail
    refine (szWindowS_big A1 xs1.length c1 _ _ (by unfold maxLen; omega) (by omega) (by omega) (by omega)).mono ?_
    rintro e wz ⟨rfl, rfl⟩
    go_wp2_with fail
    go_ret
    exact ⟨rfl, (by repeat (first | assumption | exact Below.refl _ _ | apply Below.al | apply Below.drewN' | apply Below.drew | (apply Below.tr; assumption)))⟩
  go_enter Try.func13, Try.ntmps13
  have tt : Below w.heap.size w (w.alloc (.cells #[.int .i64 a, .int .i64 b] 61)) := (by repeat (first | assumption | exact Below.refl _ _ | apply Below.al | apply Below.drewN' | apply Below.drew | (apply Below.tr; assumption)))
  have z0 : w.heap.size ≤ (World.heap (w.alloc (.cells #[.int .i64 a, .int .i64 b] 61))).size := tt.size
  have uu : Below (World.heap (w.alloc (.cells #[.int .i64 a, .int .i64 b] 61))).size (w.alloc (.cells #[.int .i64 a, .int .i64 b] 61)) (w.alloc (.cells #[.int .i64 a, .int .i64 b] 61)) := Below.refl _ _
  go_wp2_with fail
  refine (szWindowS_ok A1 xs1.length c1 _ _ (by omega) (by omega)).mono ?_
  rintro e wz ⟨rfl, rfl⟩
  go_wp2_with fail
  refine (toEphemeris_any _ _ _).mono ?_
  rintro e w1 ⟨rfl, b1⟩
  have z1 := b1.size
  have tt := Below.tr b1 tt
  have uu := Below.tr b1 uu
  obtain ⟨hc1, hf1⟩ := bcell uu
  go_wp2_with fail
  refine (toWindowS_any A1 c1 xs1 _ ((r1.below tt (Nat.le_refl _)).more tt.size) (by omega)).mono ?_
  rintro e w2 ⟨B1, d1, rfl, o1, b2⟩
  have z2 := b2.size
  have tt := Below.tr b2 tt
  have uu := Below.tr b2 uu
  obtain ⟨hc2, hf2⟩ := bcell uu
  have p1 := o1
  go_wp2_with fail
  refine (specVisibleTimes_any a b B1 d1 xs1 _ (rd_of_own (enc := encWi) (k := 2) (fun _ => rfl) p1) (by omega)).mono ?_
  rintro e w3 ⟨WA, Wc, rfl, Wo, b3⟩
  have z3 := b3.size
  have p1 := own_below p1 b3 (Nat.le_refl _)
  have tt := Below.tr b3 tt
  have uu := Below.tr b3 uu
  obtain ⟨hc3, hf3⟩ := bcell uu
  have Wp := Wo
  go_wp2_with fail
  refine (toWindowS_any A1 c1 xs1 _ ((r1.below tt (Nat.le_refl _)).more tt.size) (by omega)).mono ?_
  rintro e w4 ⟨B2, d2, rfl, o2, b4⟩
  have z4 := b4.size
  have p1 := own_below p1 b4 (Nat.le_refl _)
  have Wp := own_below Wp b4 (Nat.le_refl _)
  have tt := Below.tr b4 tt
  have uu := Below.tr b4 uu
  obtain ⟨hc4, hf4⟩ := bcell uu
  have p2 := o2
  go_wp2_with fail
  refine (toEphemeris_any _ _ _).mono ?_
  rintro e w5 ⟨rfl, b5⟩
  have z5 := b5.size
  have p1 := own_below p1 b5 (Nat.le_refl _)
  have Wp := own_below Wp b5 (Nat.le_refl _)
  have p2 := own_below p2 b5 (Nat.le_refl _)
  have tt := Below.tr b5 tt
  have uu := Below.tr b5 uu
  obtain ⟨hc5, hf5⟩ := bcell uu
  go_wp2_with fail
  refine (implVisibleTimes_any a b B2 d2 xs1 _ (rd_of_own (enc := encWi) (k := 2) (fun _ => rfl) p2) (by omega)).mono ?_
  rintro e w6 ⟨GA, Gc, rfl, Go, b6⟩
  have z6 := b6.size
  have p1 := own_below p1 b6 (Nat.le_refl _)
  have Wp := own_below Wp b6 (Nat.le_refl _)
  have p2 := own_below p2 b6 (Nat.le_refl _)
  have tt := Below.tr b6 tt
  have uu := Below.tr b6 uu
  obtain ⟨hc6, hf6⟩ := bcell uu
  have Gp := Go
  have hyl : (vtV a b xs1).length ≤ 1048576 := by have := vtV_len a b xs1; omega
  go_wp2_with fail
  refine (eqInt64S_same GA WA Gc Wc (vtV a b xs1) _ (rd_of_own (enc := encI) (k := 1) (fun _ => rfl) Gp) (rd_of_own (enc := encI) (k := 1) (fun _ => rfl) Wp) hyl).mono ?_
  rintro e w7 ⟨rfl, b7⟩
  have z7 := b7.size
  have p1 := own_below p1 b7 (Nat.le_refl _)
  have Wp := own_below Wp b7 (Nat.le_refl _)
  have p2 := own_below p2 b7 (Nat.le_refl _)
  have Gp := own_below Gp b7 (Nat.le_refl _)
  have tt := Below.tr b7 tt
  have uu := Below.tr b7 uu
  obtain ⟨hc7, hf7⟩ := bcell uu
  go_wp2_with fail
  refine (toWindowS_any A1 c1 xs1 _ ((r1.below tt (Nat.le_refl _)).more tt.size) (by omega)).mono ?_
  rintro e w8 ⟨B3, d3, rfl, o3, b8⟩
  have z8 := b8.size
  have p1 := own_below p1 b8 (Nat.le_refl _)
  have Wp := own_below Wp b8 (Nat.le_refl _)
  have p2 := own_below p2 b8 (Nat.le_refl _)
  have Gp := own_below Gp b8 (Nat.le_refl _)
  have tt := Below.tr b8 tt
  have uu := Below.tr b8 uu
  obtain ⟨hc8, hf8⟩ := bcell uu
  have p3 := o3
  go_wp2_with fail
  refine (eqWindowS_same B2 B3 d2 d3 xs1 _ (rd_of_own (enc := encWi) (k := 2) (fun _ => rfl) p2) (rd_of_own (enc := encWi) (k := 2) (fun _ => rfl) p3) (by omega)).mono ?_
  rintro e w9 ⟨rfl, b9⟩
  have z9 := b9.size
  have p1 := own_below p1 b9 (Nat.le_refl _)
  have Wp := own_below Wp b9 (Nat.le_refl _)
  have p2 := own_below p2 b9 (Nat.le_refl _)
  have Gp := own_below Gp b9 (Nat.le_refl _)
  have p3 := own_below p3 b9 (Nat.le_refl _)
  have tt := Below.tr b9 tt
  have uu := Below.tr b9 uu
  obtain ⟨hc9, hf9⟩ := bcell uu
  have Z_Wp := Wo
  have Z_Gp := Go
  have Z_p2 := o2
  go_wp2_with fail
  refine (markWindowS_any _ B2 xs1.length d2 _ (1) _ p2 (by omega) (by omega) (by omega)).mono ?_
  rintro e w10 ⟨rfl, pm10, gm10⟩
  have z10 := gm10.size
  have Wp := Wp.kept gm10 (own_ne Z_Wp Z_p2 (by omega)).2
  have Gp := Gp.kept gm10 (own_ne Z_p2 Z_Gp (by omega)).1
  have tt := Below.gr tt tt.size p2 (by omega) gm10
  have uu := Below.gr uu uu.size p2 (by first | omega | (simp; omega)) gm10
  obtain ⟨hc10, hf10⟩ := bcell uu
  have p2 := pm10
  go_wp2_with fail
  refine (eqInt64S_same GA WA Gc Wc (vtV a b xs1) _ (rd_of_own (enc := encI) (k := 1) (fun _ => rfl) Gp) (rd_of_own (enc := encI) (k := 1) (fun _ => rfl) Wp) hyl).mono ?_
  rintro e w11 ⟨rfl, b11⟩
  have z11 := b11.size
  have Wp := own_below Wp b11 (Nat.le_refl _)
  have Gp := own_below Gp b11 (Nat.le_refl _)
  have tt := Below.tr b11 tt
  have uu := Below.tr b11 uu
  obtain ⟨hc11, hf11⟩ := bcell uu
  go_wp2_with fail
  refine (markInt64S_any _ GA (vtV a b xs1).length Gc _ 1 _ Gp (by omega) (by omega) (by omega)).mono ?_
  rintro e w12 ⟨rfl, pm12, gm12⟩
  have z12 := gm12.size
  have Wp := Wp.kept gm12 (own_ne Z_Wp Z_Gp (by omega)).2
  have tt := Below.gr tt tt.size Gp (by omega) gm12
  have uu := Below.gr uu uu.size Gp (by first | omega | (simp; omega)) gm12
  obtain ⟨hc12, hf12⟩ := bcell uu
  have Gp := pm12
  go_wp2_with fail
  refine (heldInt64S_any _ GA (vtV a b xs1).length Gc 1 _ Gp (by omega) (by omega) (by omega)).mono ?_
  rintro e wz ⟨rfl, rfl⟩
  go_wp2_with fail
  refine (toEphemeris_any _ _ _).mono ?_
  rintro e w13 ⟨rfl, b13⟩
  have z13 := b13.size
  have Wp := own_below Wp b13 (Nat.le_refl _)
  have Gp := own_below Gp b13 (Nat.le_refl _)
  have tt := Below.tr b13 tt
  have uu := Below.tr b13 uu
  obtain ⟨hc13, hf13⟩ := bcell uu
  go_wp2_with fail
  refine (toWindowS_any A1 c1 xs1 _ ((r1.below tt (Nat.le_refl _)).more tt.size) (by omega)).mono ?_
  rintro e w14 ⟨B4, d4, rfl, o4, b14⟩
  have z14 := b14.size
  have Wp := own_below Wp b14 (Nat.le_refl _)
  have Gp := own_below Gp b14 (Nat.le_refl _)
  have tt := Below.tr b14 tt
  have uu := Below.tr b14 uu
  obtain ⟨hc14, hf14⟩ := bcell uu
  have p4 := o4
  go_wp2_with fail
  refine (implVisibleTimes_any a b B4 d4 xs1 _ (rd_of_own (enc := encWi) (k := 2) (fun _ => rfl) p4) (by omega)).mono ?_
  rintro e w15 ⟨HA, Hc, rfl, Ho, b15⟩
  have z15 := b15.size
  have Wp := own_below Wp b15 (Nat.le_refl _)
  have Gp := own_below Gp b15 (Nat.le_refl _)
  have p4 := own_below p4 b15 (Nat.le_refl _)
  have tt := Below.tr b15 tt
  have uu := Below.tr b15 uu
  obtain ⟨hc15, hf15⟩ := bcell uu
  have Hp := Ho
  go_wp2_with fail
  refine (eqInt64S_same HA WA Hc Wc (vtV a b xs1) _ (rd_of_own (enc := encI) (k := 1) (fun _ => rfl) Hp) (rd_of_own (enc := encI) (k := 1) (fun _ => rfl) Wp) hyl).mono ?_
  rintro e w16 ⟨rfl, b16⟩
  have z16 := b16.size
  have Wp := own_below Wp b16 (Nat.le_refl _)
  have Gp := own_below Gp b16 (Nat.le_refl _)
  have p4 := own_below p4 b16 (Nat.le_refl _)
  have Hp := own_below Hp b16 (Nat.le_refl _)
  have tt := Below.tr b16 tt
  have uu := Below.tr b16 uu
  obtain ⟨hc16, hf16⟩ := bcell uu
  go_wp2_with fail
  refine (heldInt64S_any _ GA (vtV a b xs1).length Gc 1 _ Gp (by omega) (by omega) (by omega)).mono ?_
  rintro e wz ⟨rfl, rfl⟩
  go_wp2_with fail
  go_ret
  exact ⟨rfl, tt⟩
namespace fnExactVisibleTimes
open Go.ChangeShapes Go.WideShapes Go.ChangeAt Go.RowKit Go.Deep Go.Joins
set_option linter.unusedVariables false
theorem own : ownKnob Try.prog.godebug = none := by kernel_rfl
theorem laidOut : laidOutB Try.prog = true := by kernel_rfl
set_option maxRecDepth 100000 in
theorem lifted (os : Os) (started : os.Started) (H : Type) (enc : TypeId × Value → H) :
    ReturnsInHanded {} Try.checked os 13 .any (Rows.fnExactVisibleTimesSpec.pre6 enc Try.prog Try.f13 Rows.fnExactVisibleTimesRow.domain false) (Rows.fnExactVisibleTimesSpec.post enc Try.prog Try.f13 false true false false) := by
  refine returnsInHanded_of_change (C := Try.checked) own started (by kernel_rfl) Try.func13
    (ChangeSpec.witness6 (enc := enc) (C := Try.checked) false ⟨#[], #[.agg #[.int .i64 0, .int .i64 0], .slice none 0 0], []⟩ 8 (by kernel_rfl) (by kernel_rfl) (by kernel_rfl) (by kernel_rfl)) ?_
  intro W base args ds gs before hval0 hW hcnd _
  have hval : ∀ (j : Nat) t v, Try.f13.params[j]? = some t → args[j]? = some v → Value.okWide Try.prog W .any base t v := hval0
  have hW' := hW
  obtain ⟨p, q, hA0, hV, rfl, hfz, hnd⟩ := hW
  have hA : DataW.TrodAll enc Try.prog W 0 (fun _ => true) true Try.f13.params.toList args.toList ds p := hA0
  rw [Try.params13] at hA hval
  obtain ⟨v0, vs0, d0, ds0, p0, q0, hargs, rfl, rfl, h0, r0⟩ := trodAll_cons hA
  obtain ⟨v1, vs1, d1, ds1, p1, q1, rfl, rfl, rfl, h1, r1⟩ := trodAll_cons r0
  obtain ⟨rfl, rfl, rfl⟩ := trodAll_nil r1
  obtain rfl : args = #[v0, v1] := by cases args; simp_all
  obtain ⟨rfl, rfl⟩ := trodVars_none hV
  have k0 := h0
  have lt0 : ∀ x ∈ p0, x.block < W.heap.size := by obtain ⟨m, hm⟩ := k0; exact DataW.trod_lt m _ _ _ hm
  have k1 := h1
  have lt1 : ∀ x ∈ p1, x.block < W.heap.size := by obtain ⟨m, hm⟩ := k1; exact DataW.trod_lt m _ _ _ hm
  obtain ⟨c0_0, c0_1, y0_0, y0_1, m0, rfl, _, _, z0_0, z0_1⟩ := open_agg2 Try.underlying61 (by kernel_rfl) (by kernel_rfl) (hval 0 61 v0 rfl rfl) h0
  obtain ⟨a0_0, e0_0, _, w0_0⟩ := DataW.trod_int Try.underlying2 z0_0
  simp at e0_0; subst e0_0
  obtain ⟨a0_1, e0_1, _, w0_1⟩ := DataW.trod_int Try.underlying2 z0_1
  simp at e0_1; subst e0_1
  obtain ⟨A1, len1, cap1, rfl⟩ := okWide_slice Try.underlying66 (hval 1 66 v1 rfl rfl)
  obtain ⟨xs1, rfl, rd1, wf1, ml1⟩ : ∃ xs : List _, xs.length = len1 ∧ Rd encWi 2 W W.heap.size A1 xs ∧ (∀ x ∈ xs, True) ∧ len1 ≤ maxLen := by
    obtain ⟨fuel, hf⟩ := h1
    exact rd_open (encA := encWi) (wf := fun x => True) (k := 2) (by decide) (fun _ => rfl) Try.underlying66 (by kernel_rfl) (fun n cs y h => dec_wi Try.underlying108 (by kernel_rfl) (by kernel_rfl) Try.underlying2 Try.underlying2 n cs y h) (by simpa [Value.cells] using hf)
  clear hA0 hval0
  refine (vi_law W a0_0 w0_0 a0_1 w0_1 A1 cap1 xs1 rd1 wf1 ml1).mono fun e W' ⟨he, bel⟩ => ?_
  subst he
  exact ⟨_, rfl, _, _, _, [], _, [], hW', trodAll_mk1 (shut_bool Try.underlying4 _), (trodAll_cons_mk (Below.trod laidOut (by kernel_rfl) (of_decide_eq_true (by kernel_rfl)) k0 bel lt0) (trodAll_cons_mk (Below.trod laidOut (by kernel_rfl) (of_decide_eq_true (by kernel_rfl)) k1 bel lt1) trodAll_mk0)), rfl, bel.frame _, fun h => by cases h⟩

theorem proved : Rows.FnExactVisibleTimesSaid :=
  OpenClaim.holds_of_wide 13 Try.f13 rfl rfl rfl rfl rfl rfl rfl ⟨rfl, rfl, rfl, rfl, rfl⟩ rfl rfl rfl rfl rfl (by kernel_rfl) Try.func13 (by kernel_rfl)
    (of_decide_eq_true (by kernel_rfl)) (by unfold Func.isWrapper; first | (rw [if_pos (by decide +kernel)]; kernel_rfl) | (rw [if_neg (by decide +kernel)]; exact ⟨rfl, rfl⟩))
    (fun os started H enc _ => lifted os started H enc)
#print axioms proved
end fnExactVisibleTimes
end Go.Proofs.Ytpfdfbebeckohaa

