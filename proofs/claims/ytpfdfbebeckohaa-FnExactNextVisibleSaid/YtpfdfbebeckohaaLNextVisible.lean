/- The program and the reference return the same next visible time, for every ephemeris, every list of windows and every time. No condition. -/
import Derived.Test.YtpfdfbebeckohaaRows
import Derived.Test.YtpfdfbebeckohaaOpen
import Derived.Test.YtpfdfbebeckohaaC16v
import Derived.Test.YtpfdfbebeckohaaCWi
namespace Go.Proofs.Ytpfdfbebeckohaa
open Go.RowKit
set_option linter.unusedVariables false
set_option maxHeartbeats 1000000 in
theorem nv_law (w : World) (a : Int) (w_a : (Lit.int .i64 a).wf = true) (b : Int) (w_b : (Lit.int .i64 b).wf = true) (A1 : Option Addr) (c1 : Nat) (xs1 : List Wi) (r1 : Rd encWi 2 w w.heap.size A1 xs1) (wf1 : ∀ x ∈ xs1, True) (m1 : xs1.length ≤ maxLen) (tm : Int) (w_tm : (Lit.int .i64 tm).wf = true) :
    Calls Try.prog 12 #[.agg #[.int .i64 a, .int .i64 b], .slice A1 xs1.length c1, .int .i64 tm] w fun e w' => e = .returned (.bool true) ∧ Below w.heap.size w w' := by
  unfold maxLen at m1
  rcases Nat.lt_or_ge 1048576 (xs1.length) with n1 | n1
  · go_enter Try.func12, Try.ntmps12
    have tt : Below w.heap.size w (w.alloc (.cells #[.int .i64 a, .int .i64 b] 61)) := (by repeat (first | assumption | exact Below.refl _ _ | apply Below.al | apply Below.drewN' | apply Below.drew | (apply Below.tr; assumption)))
    go_wp2_with fail
    refine (szWindowS_big A1 xs1.length c1 _ _ (by unfold maxLen; omega) (by omega) (by omega) (by omega)).mono ?_
    rintro e wz ⟨rfl, rfl⟩
    go_wp2_with fail
    go_ret
    exact ⟨rfl, (by repeat (first | assumption | exact Below.refl _ _ | apply Below.al | apply Below.drewN' | apply Below.drew | (apply Below.tr; assumption)))⟩
  go_enter Try.func12, Try.ntmps12
  have tt : Below w.heap.size w (w.alloc (.cells #[.int .i64 a, .int .i64 b] 61)) := (by repeat (first | assumption | exact Below.refl _ _ | apply Below.al | apply Below.drewN' | apply Below.drew | (apply Below.tr; assumption)))
  have z0 : w.heap.size ≤ (World.heap (w.alloc (.cells #[.int .i64 a, .int .i64 b] 61))).size := tt.size
  have uu : Below (World.heap (w.alloc (.cells #[.int .i64 a, .int .i64 b] 61))).size (w.alloc (.cells #[.int .i64 a, .int .i64 b] 61)) (w.alloc (.cells #[.int .i64 a, .int .i64 b] 61)) := Below.refl _ _
  go_wp2_with fail
  refine (szWindowS_ok A1 xs1.length c1 _ _ (by omega) (by omega)).mono ?_
  rintro e wz ⟨rfl, rfl⟩
  go_wp2_with fail
  refine (toEphemeris_any _ _ _).mono ?_
  rintro e w1 ⟨rfl, b1⟩
  have z1 := b1.size
  have tt := Below.tr b1 tt
  have uu := Below.tr b1 uu
  obtain ⟨hc1, hf1⟩ := bcell uu
  go_wp2_with fail
  refine (toWindowS_any A1 c1 xs1 _ ((r1.below tt (Nat.le_refl _)).more tt.size) (by omega)).mono ?_
  rintro e w2 ⟨B1, d1, rfl, o1, b2⟩
  have z2 := b2.size
  have tt := Below.tr b2 tt
  have uu := Below.tr b2 uu
  obtain ⟨hc2, hf2⟩ := bcell uu
  have p1 := o1
  go_wp2_with fail
  refine (specNextVisible_any a b B1 d1 xs1 tm _ (rd_of_own (enc := encWi) (k := 2) (fun _ => rfl) p1) (by omega)).mono ?_
  rintro e w3 ⟨rfl, b3⟩
  have z3 := b3.size
  have p1 := own_below p1 b3 (Nat.le_refl _)
  have tt := Below.tr b3 tt
  have uu := Below.tr b3 uu
  obtain ⟨hc3, hf3⟩ := bcell uu
  go_wp2_with fail
  refine (toWindowS_any A1 c1 xs1 _ ((r1.below tt (Nat.le_refl _)).more tt.size) (by omega)).mono ?_
  rintro e w4 ⟨B2, d2, rfl, o2, b4⟩
  have z4 := b4.size
  have p1 := own_below p1 b4 (Nat.le_refl _)
  have tt := Below.tr b4 tt
  have uu := Below.tr b4 uu
  obtain ⟨hc4, hf4⟩ := bcell uu
  have p2 := o2
  go_wp2_with fail
  refine (toEphemeris_any _ _ _).mono ?_
  rintro e w5 ⟨rfl, b5⟩
  have z5 := b5.size
  have p1 := own_below p1 b5 (Nat.le_refl _)
  have p2 := own_below p2 b5 (Nat.le_refl _)
  have tt := Below.tr b5 tt
  have uu := Below.tr b5 uu
  obtain ⟨hc5, hf5⟩ := bcell uu
  go_wp2_with fail
  refine (implNextVisible_any a b B2 d2 xs1 tm _ (rd_of_own (enc := encWi) (k := 2) (fun _ => rfl) p2) (by omega)).mono ?_
  rintro e w6 ⟨rfl, b6⟩
  have z6 := b6.size
  have p1 := own_below p1 b6 (Nat.le_refl _)
  have p2 := own_below p2 b6 (Nat.le_refl _)
  have tt := Below.tr b6 tt
  have uu := Below.tr b6 uu
  obtain ⟨hc6, hf6⟩ := bcell uu
  go_wp2_with fail
  refine (toWindowS_any A1 c1 xs1 _ ((r1.below tt (Nat.le_refl _)).more tt.size) (by omega)).mono ?_
  rintro e w7 ⟨B3, d3, rfl, o3, b7⟩
  have z7 := b7.size
  have p1 := own_below p1 b7 (Nat.le_refl _)
  have p2 := own_below p2 b7 (Nat.le_refl _)
  have tt := Below.tr b7 tt
  have uu := Below.tr b7 uu
  obtain ⟨hc7, hf7⟩ := bcell uu
  have p3 := o3
  go_wp2_with fail
  refine (eqWindowS_same B2 B3 d2 d3 xs1 _ (rd_of_own (enc := encWi) (k := 2) (fun _ => rfl) p2) (rd_of_own (enc := encWi) (k := 2) (fun _ => rfl) p3) (by omega)).mono ?_
  rintro e w8 ⟨rfl, b8⟩
  have z8 := b8.size
  have p1 := own_below p1 b8 (Nat.le_refl _)
  have p2 := own_below p2 b8 (Nat.le_refl _)
  have p3 := own_below p3 b8 (Nat.le_refl _)
  have tt := Below.tr b8 tt
  have uu := Below.tr b8 uu
  obtain ⟨hc8, hf8⟩ := bcell uu
  go_wp2_with fail
  go_ret
  exact ⟨rfl, tt⟩
namespace fnExactNextVisible
open Go.ChangeShapes Go.WideShapes Go.ChangeAt Go.RowKit Go.Deep Go.Joins
set_option linter.unusedVariables false
theorem own : ownKnob Try.prog.godebug = none := by kernel_rfl
theorem laidOut : laidOutB Try.prog = true := by kernel_rfl
set_option maxRecDepth 100000 in
theorem lifted (os : Os) (started : os.Started) (H : Type) (enc : TypeId × Value → H) :
    ReturnsInHanded {} Try.checked os 12 .any (Rows.fnExactNextVisibleSpec.pre6 enc Try.prog Try.f12 Rows.fnExactNextVisibleRow.domain false) (Rows.fnExactNextVisibleSpec.post enc Try.prog Try.f12 false true false false) := by
  refine returnsInHanded_of_change (C := Try.checked) own started (by kernel_rfl) Try.func12
    (ChangeSpec.witness6 (enc := enc) (C := Try.checked) false ⟨#[], #[.agg #[.int .i64 0, .int .i64 0], .slice none 0 0, .int .i64 0], []⟩ 8 (by kernel_rfl) (by kernel_rfl) (by kernel_rfl) (by kernel_rfl)) ?_
  intro W base args ds gs before hval0 hW hcnd _
  have hval : ∀ (j : Nat) t v, Try.f12.params[j]? = some t → args[j]? = some v → Value.okWide Try.prog W .any base t v := hval0
  have hW' := hW
  obtain ⟨p, q, hA0, hV, rfl, hfz, hnd⟩ := hW
  have hA : DataW.TrodAll enc Try.prog W 0 (fun _ => true) true Try.f12.params.toList args.toList ds p := hA0
  rw [Try.params12] at hA hval
  obtain ⟨v0, vs0, d0, ds0, p0, q0, hargs, rfl, rfl, h0, r0⟩ := trodAll_cons hA
  obtain ⟨v1, vs1, d1, ds1, p1, q1, rfl, rfl, rfl, h1, r1⟩ := trodAll_cons r0
  obtain ⟨v2, vs2, d2, ds2, p2, q2, rfl, rfl, rfl, h2, r2⟩ := trodAll_cons r1
  obtain ⟨rfl, rfl, rfl⟩ := trodAll_nil r2
  obtain rfl : args = #[v0, v1, v2] := by cases args; simp_all
  obtain ⟨rfl, rfl⟩ := trodVars_none hV
  have k0 := h0
  have lt0 : ∀ x ∈ p0, x.block < W.heap.size := by obtain ⟨m, hm⟩ := k0; exact DataW.trod_lt m _ _ _ hm
  have k1 := h1
  have lt1 : ∀ x ∈ p1, x.block < W.heap.size := by obtain ⟨m, hm⟩ := k1; exact DataW.trod_lt m _ _ _ hm
  have k2 := h2
  have lt2 : ∀ x ∈ p2, x.block < W.heap.size := by obtain ⟨m, hm⟩ := k2; exact DataW.trod_lt m _ _ _ hm
  obtain ⟨c0_0, c0_1, y0_0, y0_1, m0, rfl, _, _, z0_0, z0_1⟩ := open_agg2 Try.underlying61 (by kernel_rfl) (by kernel_rfl) (hval 0 61 v0 rfl rfl) h0
  obtain ⟨a0_0, e0_0, _, w0_0⟩ := DataW.trod_int Try.underlying2 z0_0
  simp at e0_0; subst e0_0
  obtain ⟨a0_1, e0_1, _, w0_1⟩ := DataW.trod_int Try.underlying2 z0_1
  simp at e0_1; subst e0_1
  obtain ⟨A1, len1, cap1, rfl⟩ := okWide_slice Try.underlying66 (hval 1 66 v1 rfl rfl)
  obtain ⟨xs1, rfl, rd1, wf1, ml1⟩ : ∃ xs : List _, xs.length = len1 ∧ Rd encWi 2 W W.heap.size A1 xs ∧ (∀ x ∈ xs, True) ∧ len1 ≤ maxLen := by
    obtain ⟨fuel, hf⟩ := h1
    exact rd_open (encA := encWi) (wf := fun x => True) (k := 2) (by decide) (fun _ => rfl) Try.underlying66 (by kernel_rfl) (fun n cs y h => dec_wi Try.underlying108 (by kernel_rfl) (by kernel_rfl) Try.underlying2 Try.underlying2 n cs y h) (by simpa [Value.cells] using hf)
  obtain ⟨a2, rfl, rfl, rfl, w2⟩ := open_int Try.underlying2 (hval 2 2 v2 rfl rfl) h2
  clear hA0 hval0
  refine (nv_law W a0_0 w0_0 a0_1 w0_1 A1 cap1 xs1 rd1 wf1 ml1 a2 w2).mono fun e W' ⟨he, bel⟩ => ?_
  subst he
  exact ⟨_, rfl, _, _, _, [], _, [], hW', trodAll_mk1 (shut_bool Try.underlying4 _), (trodAll_cons_mk (Below.trod laidOut (by kernel_rfl) (of_decide_eq_true (by kernel_rfl)) k0 bel lt0) (trodAll_cons_mk (Below.trod laidOut (by kernel_rfl) (of_decide_eq_true (by kernel_rfl)) k1 bel lt1) (trodAll_cons_mk (Below.trod laidOut (by kernel_rfl) (of_decide_eq_true (by kernel_rfl)) k2 bel lt2) trodAll_mk0))), rfl, bel.frame _, fun h => by cases h⟩

theorem proved : Rows.FnExactNextVisibleSaid :=
  OpenClaim.holds_of_wide 12 Try.f12 rfl rfl rfl rfl rfl rfl rfl ⟨rfl, rfl, rfl, rfl, rfl⟩ rfl rfl rfl rfl rfl (by kernel_rfl) Try.func12 (by kernel_rfl)
    (of_decide_eq_true (by kernel_rfl)) (by unfold Func.isWrapper; first | (rw [if_pos (by decide +kernel)]; kernel_rfl) | (rw [if_neg (by decide +kernel)]; exact ⟨rfl, rfl⟩))
    (fun os started H enc _ => lifted os started H enc)
#print axioms proved
end fnExactNextVisible
end Go.Proofs.Ytpfdfbebeckohaa

