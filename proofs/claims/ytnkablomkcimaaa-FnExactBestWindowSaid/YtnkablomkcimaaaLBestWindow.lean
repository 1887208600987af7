/- The program and the reference name the same best window, for every list of ephemerides and every list of windows. No condition. -/
import Derived.Test.YtnkablomkcimaaaRows
import Derived.Test.YtnkablomkcimaaaOpen
import Derived.Test.YtnkablomkcimaaaC16b
import Derived.Test.YtnkablomkcimaaaCEph
import Derived.Test.YtnkablomkcimaaaCEpD
import Derived.Test.YtnkablomkcimaaaCWi
namespace Go.Proofs.Ytnkablomkcimaaa
open Go.RowKit
set_option linter.unusedVariables false
set_option maxHeartbeats 1000000 in
theorem bw_law (w : World) (A0 : Option Addr) (c0 : Nat) (xs0 : List Ep) (r0 : Rd encEp 2 w w.heap.size A0 xs0) (wf0 : ∀ x ∈ xs0, True) (m0 : xs0.length ≤ maxLen) (A1 : Option Addr) (c1 : Nat) (xs1 : List Wi) (r1 : Rd encWi 2 w w.heap.size A1 xs1) (wf1 : ∀ x ∈ xs1, True) (m1 : xs1.length ≤ maxLen) :
    Calls Try.prog 8 #[.slice A0 xs0.length c0, .slice A1 xs1.length c1] w fun e w' => e = .returned (.bool true) ∧ Below w.heap.size w w' := by
  unfold maxLen at m0 m1
  rcases Nat.lt_or_ge 1048576 (xs0.length) with n0 | n0
  · go_enter Try.func8, Try.ntmps8
    have tt : Below w.heap.size w w := (by repeat (first | assumption | exact Below.refl _ _ | apply Below.al | apply Below.drewN' | apply Below.drew | (apply Below.tr; assumption)))
    go_wp2_with fail
    refine (szEphemerisS_big A0 xs0.length c0 _ _ (by unfold maxLen; omega) (by omega) (by omega) (by omega)).mono ?_
    rintro e wz ⟨rfl, rfl⟩
    go_wp2_with fail
    go_ret
    exact ⟨rfl, (by repeat (first | assumption | exact Below.refl _ _ | apply Below.al | apply Below.drewN' | apply Below.drew | (apply Below.tr; assumption)))⟩
  rcases Nat.lt_or_ge 1048576 (xs0.length + xs1.length) with n1 | n1
  · go_enter Try.func8, Try.ntmps8
    have tt : Below w.heap.size w w := (by repeat (first | assumption | exact Below.refl _ _ | apply Below.al | apply Below.drewN' | apply Below.drew | (apply Below.tr; assumption)))
    go_wp2_with fail
    refine (szEphemerisS_ok A0 xs0.length c0 _ _ (by omega) (by omega)).mono ?_
    rintro e wz ⟨rfl, rfl⟩
    go_wp2_with fail
    refine (szWindowS_big A1 xs1.length c1 _ _ (by unfold maxLen; omega) (by omega) (by omega) (by omega)).mono ?_
    rintro e wz ⟨rfl, rfl⟩
    go_wp2_with fail
    go_ret
    exact ⟨rfl, (by repeat (first | assumption | exact Below.refl _ _ | apply Below.al | apply Below.drewN' | apply Below.drew | (apply Below.tr; assumption)))⟩
  go_enter Try.func8, Try.ntmps8
  have tt : Below w.heap.size w w := (by repeat (first | assumption | exact Below.refl _ _ | apply Below.al | apply Below.drewN' | apply Below.drew | (apply Below.tr; assumption)))
  have z0 : w.heap.size ≤ (World.heap w).size := tt.size
  go_wp2_with fail
  refine (szEphemerisS_ok A0 xs0.length c0 _ _ (by omega) (by omega)).mono ?_
  rintro e wz ⟨rfl, rfl⟩
  go_wp2_with fail
  refine (szWindowS_ok A1 xs1.length c1 _ _ (by omega) (by omega)).mono ?_
  rintro e wz ⟨rfl, rfl⟩
  go_wp2_with fail
  refine (toEphemerisS_any A0 c0 xs0 _ ((r0.below tt (Nat.le_refl _)).more tt.size) (by omega)).mono ?_
  rintro e w1 ⟨B1, d1, rfl, o1, b1⟩
  have z1 := b1.size
  have tt := Below.tr b1 tt
  have p1 := o1
  go_wp2_with fail
  refine (toWindowS_any A1 c1 xs1 _ ((r1.below tt (Nat.le_refl _)).more tt.size) (by omega)).mono ?_
  rintro e w2 ⟨B2, d2, rfl, o2, b2⟩
  have z2 := b2.size
  have p1 := own_below p1 b2 (Nat.le_refl _)
  have tt := Below.tr b2 tt
  have p2 := o2
  go_wp2_with fail
  refine (specBestWindow_any B1 d1 xs0 B2 d2 xs1 _ (rd_of_own (enc := encEp) (k := 2) (fun _ => rfl) p1) (by omega) (rd_of_own (enc := encWi) (k := 2) (fun _ => rfl) p2) (by omega)).mono ?_
  rintro e w3 ⟨rfl, b3⟩
  have z3 := b3.size
  have p1 := own_below p1 b3 (Nat.le_refl _)
  have p2 := own_below p2 b3 (Nat.le_refl _)
  have tt := Below.tr b3 tt
  go_wp2_with fail
  refine (toEphemerisS_any A0 c0 xs0 _ ((r0.below tt (Nat.le_refl _)).more tt.size) (by omega)).mono ?_
  rintro e w4 ⟨B3, d3, rfl, o3, b4⟩
  have z4 := b4.size
  have p1 := own_below p1 b4 (Nat.le_refl _)
  have p2 := own_below p2 b4 (Nat.le_refl _)
  have tt := Below.tr b4 tt
  have p3 := o3
  go_wp2_with fail
  refine (toWindowS_any A1 c1 xs1 _ ((r1.below tt (Nat.le_refl _)).more tt.size) (by omega)).mono ?_
  rintro e w5 ⟨B4, d4, rfl, o4, b5⟩
  have z5 := b5.size
  have p1 := own_below p1 b5 (Nat.le_refl _)
  have p2 := own_below p2 b5 (Nat.le_refl _)
  have p3 := own_below p3 b5 (Nat.le_refl _)
  have tt := Below.tr b5 tt
  have p4 := o4
  go_wp2_with fail
  refine (implBestWindow_any B3 d3 xs0 B4 d4 xs1 _ (rd_of_own (enc := encEp) (k := 2) (fun _ => rfl) p3) (by omega) (rd_of_own (enc := encWi) (k := 2) (fun _ => rfl) p4) (by omega)).mono ?_
  rintro e w6 ⟨rfl, b6⟩
  have z6 := b6.size
  have p1 := own_below p1 b6 (Nat.le_refl _)
  have p2 := own_below p2 b6 (Nat.le_refl _)
  have p3 := own_below p3 b6 (Nat.le_refl _)
  have p4 := own_below p4 b6 (Nat.le_refl _)
  have tt := Below.tr b6 tt
  go_wp2_with fail
  refine (toEphemerisS_any A0 c0 xs0 _ ((r0.below tt (Nat.le_refl _)).more tt.size) (by omega)).mono ?_
  rintro e w7 ⟨B5, d5, rfl, o5, b7⟩
  have z7 := b7.size
  have p1 := own_below p1 b7 (Nat.le_refl _)
  have p2 := own_below p2 b7 (Nat.le_refl _)
  have p3 := own_below p3 b7 (Nat.le_refl _)
  have p4 := own_below p4 b7 (Nat.le_refl _)
  have tt := Below.tr b7 tt
  have p5 := o5
  go_wp2_with fail
  refine (eqEphemerisS_same B3 B5 d3 d5 xs0 _ (rd_of_own (enc := encEp) (k := 2) (fun _ => rfl) p3) (rd_of_own (enc := encEp) (k := 2) (fun _ => rfl) p5) (by omega)).mono ?_
  rintro e w8 ⟨rfl, b8⟩
  have z8 := b8.size
  have p1 := own_below p1 b8 (Nat.le_refl _)
  have p2 := own_below p2 b8 (Nat.le_refl _)
  have p3 := own_below p3 b8 (Nat.le_refl _)
  have p4 := own_below p4 b8 (Nat.le_refl _)
  have p5 := own_below p5 b8 (Nat.le_refl _)
  have tt := Below.tr b8 tt
  go_wp2_with fail
  refine (toWindowS_any A1 c1 xs1 _ ((r1.below tt (Nat.le_refl _)).more tt.size) (by omega)).mono ?_
  rintro e w9 ⟨B6, d6, rfl, o6, b9⟩
  have z9 := b9.size
  have p1 := own_below p1 b9 (Nat.le_refl _)
  have p2 := own_below p2 b9 (Nat.le_refl _)
  have p3 := own_below p3 b9 (Nat.le_refl _)
  have p4 := own_below p4 b9 (Nat.le_refl _)
  have p5 := own_below p5 b9 (Nat.le_refl _)
  have tt := Below.tr b9 tt
  have p6 := o6
  go_wp2_with fail
  refine (eqWindowS_same B4 B6 d4 d6 xs1 _ (rd_of_own (enc := encWi) (k := 2) (fun _ => rfl) p4) (rd_of_own (enc := encWi) (k := 2) (fun _ => rfl) p6) (by omega)).mono ?_
  rintro e w10 ⟨rfl, b10⟩
  have z10 := b10.size
  have p1 := own_below p1 b10 (Nat.le_refl _)
  have p2 := own_below p2 b10 (Nat.le_refl _)
  have p3 := own_below p3 b10 (Nat.le_refl _)
  have p4 := own_below p4 b10 (Nat.le_refl _)
  have p5 := own_below p5 b10 (Nat.le_refl _)
  have p6 := own_below p6 b10 (Nat.le_refl _)
  have tt := Below.tr b10 tt
  go_wp2_with fail
  go_ret
  exact ⟨rfl, tt⟩
namespace fnExactBestWindow
open Go.ChangeShapes Go.WideShapes Go.ChangeAt Go.RowKit Go.Deep Go.Joins
set_option linter.unusedVariables false
theorem own : ownKnob Try.prog.godebug = none := by kernel_rfl
theorem laidOut : laidOutB Try.prog = true := by kernel_rfl
set_option maxRecDepth 100000 in
theorem lifted (os : Os) (started : os.Started) (H : Type) (enc : TypeId × Value → H) :
    ReturnsInHanded {} Try.checked os 8 .any (Rows.fnExactBestWindowSpec.pre6 enc Try.prog Try.f8 Rows.fnExactBestWindowRow.domain false) (Rows.fnExactBestWindowSpec.post enc Try.prog Try.f8 false true false false) := by
  refine returnsInHanded_of_change (C := Try.checked) own started (by kernel_rfl) Try.func8
    (ChangeSpec.witness6 (enc := enc) (C := Try.checked) false ⟨#[], #[.slice none 0 0, .slice none 0 0], []⟩ 8 (by kernel_rfl) (by kernel_rfl) (by kernel_rfl) (by kernel_rfl)) ?_
  intro W base args ds gs before hval0 hW hcnd _
  have hval : ∀ (j : Nat) t v, Try.f8.params[j]? = some t → args[j]? = some v → Value.okWide Try.prog W .any base t v := hval0
  have hW' := hW
  obtain ⟨p, q, hA0, hV, rfl, hfz, hnd⟩ := hW
  have hA : DataW.TrodAll enc Try.prog W 0 (fun _ => true) true Try.f8.params.toList args.toList ds p := hA0
  rw [Try.params8] at hA hval
  obtain ⟨v0, vs0, d0, ds0, p0, q0, hargs, rfl, rfl, h0, r0⟩ := trodAll_cons hA
  obtain ⟨v1, vs1, d1, ds1, p1, q1, rfl, rfl, rfl, h1, r1⟩ := trodAll_cons r0
  obtain ⟨rfl, rfl, rfl⟩ := trodAll_nil r1
  obtain rfl : args = #[v0, v1] := by cases args; simp_all
  obtain ⟨rfl, rfl⟩ := trodVars_none hV
  have k0 := h0
  have lt0 : ∀ x ∈ p0, x.block < W.heap.size := by obtain ⟨m, hm⟩ := k0; exact DataW.trod_lt m _ _ _ hm
  have k1 := h1
  have lt1 : ∀ x ∈ p1, x.block < W.heap.size := by obtain ⟨m, hm⟩ := k1; exact DataW.trod_lt m _ _ _ hm
  obtain ⟨A0, len0, cap0, rfl⟩ := okWide_slice Try.underlying64 (hval 0 64 v0 rfl rfl)
  obtain ⟨xs0, rfl, rd0, wf0, ml0⟩ : ∃ xs : List _, xs.length = len0 ∧ Rd encEp 2 W W.heap.size A0 xs ∧ (∀ x ∈ xs, True) ∧ len0 ≤ maxLen := by
    obtain ⟨fuel, hf⟩ := h0
    exact rd_open (encA := encEp) (wf := fun x => True) (k := 2) (by decide) (fun _ => rfl) Try.underlying64 (by kernel_rfl) (fun n cs y h => dec_ep Try.underlying127 (by kernel_rfl) (by kernel_rfl) Try.underlying2 Try.underlying2 n cs y h) (by simpa [Value.cells] using hf)
  obtain ⟨A1, len1, cap1, rfl⟩ := okWide_slice Try.underlying65 (hval 1 65 v1 rfl rfl)
  obtain ⟨xs1, rfl, rd1, wf1, ml1⟩ : ∃ xs : List _, xs.length = len1 ∧ Rd encWi 2 W W.heap.size A1 xs ∧ (∀ x ∈ xs, True) ∧ len1 ≤ maxLen := by
    obtain ⟨fuel, hf⟩ := h1
    exact rd_open (encA := encWi) (wf := fun x => True) (k := 2) (by decide) (fun _ => rfl) Try.underlying65 (by kernel_rfl) (fun n cs y h => dec_wi Try.underlying129 (by kernel_rfl) (by kernel_rfl) Try.underlying2 Try.underlying2 n cs y h) (by simpa [Value.cells] using hf)
  clear hA0 hval0
  refine (bw_law W A0 cap0 xs0 rd0 wf0 ml0 A1 cap1 xs1 rd1 wf1 ml1).mono fun e W' ⟨he, bel⟩ => ?_
  subst he
  exact ⟨_, rfl, _, _, _, [], _, [], hW', trodAll_mk1 (shut_bool Try.underlying4 _), (trodAll_cons_mk (Below.trod laidOut (by kernel_rfl) (of_decide_eq_true (by kernel_rfl)) k0 bel lt0) (trodAll_cons_mk (Below.trod laidOut (by kernel_rfl) (of_decide_eq_true (by kernel_rfl)) k1 bel lt1) trodAll_mk0)), rfl, bel.frame _, fun h => by cases h⟩

theorem proved : Rows.FnExactBestWindowSaid :=
  OpenClaim.holds_of_wide 8 Try.f8 rfl rfl rfl rfl rfl rfl rfl ⟨rfl, rfl, rfl, rfl, rfl⟩ rfl rfl rfl rfl rfl (by kernel_rfl) Try.func8 (by kernel_rfl)
    (of_decide_eq_true (by kernel_rfl)) (by unfold Func.isWrapper; first | (rw [if_pos (by decide +kernel)]; kernel_rfl) | (rw [if_neg (by decide +kernel)]; exact ⟨rfl, rfl⟩))
    (fun os started H enc _ => lifted os started H enc)
#print axioms proved
end fnExactBestWindow
end Go.Proofs.Ytnkablomkcimaaa

