/- The program and the reference return the same times of extrema, in new memory, for every ephemeris and every two times. No condition. -/
import Derived.Test.YtpfdfbebeckohaaRows
import Derived.Test.YtpfdfbebeckohaaOpen
import Derived.Test.YtpfdfbebeckohaaC16t
import Derived.Test.YtpfdfbebeckohaaCInt
namespace Go.Proofs.Ytpfdfbebeckohaa
open Go.RowKit
set_option linter.unusedVariables false
set_option maxHeartbeats 1000000 in
theorem ti_law (w : World) (a : Int) (w_a : (Lit.int .i64 a).wf = true) (b : Int) (w_b : (Lit.int .i64 b).wf = true) (f_ : Int) (w_f_ : (Lit.int .i64 f_).wf = true) (t_ : Int) (w_t_ : (Lit.int .i64 t_).wf = true) :
    Calls Try.prog 11 #[.agg #[.int .i64 a, .int .i64 b], .int .i64 f_, .int .i64 t_] w fun e w' => e = .returned (.bool true) ∧ Below w.heap.size w w' := by
  go_enter Try.func11, Try.ntmps11
  have tt : Below w.heap.size w (w.alloc (.cells #[.int .i64 a, .int .i64 b] 61)) := (by repeat (first | assumption | exact Below.refl _ _ | apply Below.al | apply Below.drewN' | apply Below.drew | (apply Below.tr; assumption)))
  have z0 : w.heap.size ≤ (World.heap (w.alloc (.cells #[.int .i64 a, .int .i64 b] 61))).size := tt.size
  have uu : Below (World.heap (w.alloc (.cells #[.int .i64 a, .int .i64 b] 61))).size (w.alloc (.cells #[.int .i64 a, .int .i64 b] 61)) (w.alloc (.cells #[.int .i64 a, .int .i64 b] 61)) := Below.refl _ _
  go_wp2_with fail
  refine (toEphemeris_any _ _ _).mono ?_
  rintro e w1 ⟨rfl, b1⟩
  have z1 := b1.size
  have tt := Below.tr b1 tt
  have uu := Below.tr b1 uu
  obtain ⟨hc1, hf1⟩ := bcell uu
  go_wp2_with fail
  refine (specTimesIn_any a b f_ t_ _).mono ?_
  rintro e w2 ⟨WA, Wc, rfl, Wo, b2⟩
  have z2 := b2.size
  have tt := Below.tr b2 tt
  have uu := Below.tr b2 uu
  obtain ⟨hc2, hf2⟩ := bcell uu
  have Wp := Wo
  go_wp2_with fail
  refine (toEphemeris_any _ _ _).mono ?_
  rintro e w3 ⟨rfl, b3⟩
  have z3 := b3.size
  have Wp := own_below Wp b3 (Nat.le_refl _)
  have tt := Below.tr b3 tt
  have uu := Below.tr b3 uu
  obtain ⟨hc3, hf3⟩ := bcell uu
  go_wp2_with fail
  refine (implTimesIn_any a b f_ t_ _).mono ?_
  rintro e w4 ⟨GA, Gc, rfl, Go, b4⟩
  have z4 := b4.size
  have Wp := own_below Wp b4 (Nat.le_refl _)
  have tt := Below.tr b4 tt
  have uu := Below.tr b4 uu
  obtain ⟨hc4, hf4⟩ := bcell uu
  have Gp := Go
  have hyl : (tiV a b f_ t_).length ≤ 1048576 := by have := tiV_len a b f_ t_; omega
  go_wp2_with fail
  refine (eqInt64S_same GA WA Gc Wc (tiV a b f_ t_) _ (rd_of_own (enc := encI) (k := 1) (fun _ => rfl) Gp) (rd_of_own (enc := encI) (k := 1) (fun _ => rfl) Wp) hyl).mono ?_
  rintro e w5 ⟨rfl, b5⟩
  have z5 := b5.size
  have Wp := own_below Wp b5 (Nat.le_refl _)
  have Gp := own_below Gp b5 (Nat.le_refl _)
  have tt := Below.tr b5 tt
  have uu := Below.tr b5 uu
  obtain ⟨hc5, hf5⟩ := bcell uu
  have Z_Wp := Wo
  have Z_Gp := Go
  go_wp2_with fail
  refine (markInt64S_any _ GA (tiV a b f_ t_).length Gc _ 1 _ Gp (by omega) (by omega) (by omega)).mono ?_
  rintro e w6 ⟨rfl, pm6, gm6⟩
  have z6 := gm6.size
  have Wp := Wp.kept gm6 (own_ne Z_Wp Z_Gp (by omega)).2
  have tt := Below.gr tt tt.size Gp (by omega) gm6
  have uu := Below.gr uu uu.size Gp (by first | omega | (simp; omega)) gm6
  obtain ⟨hc6, hf6⟩ := bcell uu
  have Gp := pm6
  go_wp2_with fail
  refine (heldInt64S_any _ GA (tiV a b f_ t_).length Gc 1 _ Gp (by omega) (by omega) (by omega)).mono ?_
  rintro e wz ⟨rfl, rfl⟩
  go_wp2_with fail
  refine (toEphemeris_any _ _ _).mono ?_
  rintro e w7 ⟨rfl, b7⟩
  have z7 := b7.size
  have Wp := own_below Wp b7 (Nat.le_refl _)
  have Gp := own_below Gp b7 (Nat.le_refl _)
  have tt := Below.tr b7 tt
  have uu := Below.tr b7 uu
  obtain ⟨hc7, hf7⟩ := bcell uu
  go_wp2_with fail
  refine (implTimesIn_any a b f_ t_ _).mono ?_
  rintro e w8 ⟨HA, Hc, rfl, Ho, b8⟩
  have z8 := b8.size
  have Wp := own_below Wp b8 (Nat.le_refl _)
  have Gp := own_below Gp b8 (Nat.le_refl _)
  have tt := Below.tr b8 tt
  have uu := Below.tr b8 uu
  obtain ⟨hc8, hf8⟩ := bcell uu
  have Hp := Ho
  go_wp2_with fail
  refine (eqInt64S_same HA WA Hc Wc (tiV a b f_ t_) _ (rd_of_own (enc := encI) (k := 1) (fun _ => rfl) Hp) (rd_of_own (enc := encI) (k := 1) (fun _ => rfl) Wp) hyl).mono ?_
  rintro e w9 ⟨rfl, b9⟩
  have z9 := b9.size
  have Wp := own_below Wp b9 (Nat.le_refl _)
  have Gp := own_below Gp b9 (Nat.le_refl _)
  have Hp := own_below Hp b9 (Nat.le_refl _)
  have tt := Below.tr b9 tt
  have uu := Below.tr b9 uu
  obtain ⟨hc9, hf9⟩ := bcell uu
  go_wp2_with fail
  refine (heldInt64S_any _ GA (tiV a b f_ t_).length Gc 1 _ Gp (by omega) (by omega) (by omega)).mono ?_
  rintro e wz ⟨rfl, rfl⟩
  go_wp2_with fail
  go_ret
  exact ⟨rfl, tt⟩
namespace fnExactTimesIn
open Go.ChangeShapes Go.WideShapes Go.ChangeAt Go.RowKit Go.Deep Go.Joins
set_option linter.unusedVariables false
theorem own : ownKnob Try.prog.godebug = none := by kernel_rfl
theorem laidOut : laidOutB Try.prog = true := by kernel_rfl
set_option maxRecDepth 100000 in
theorem lifted (os : Os) (started : os.Started) (H : Type) (enc : TypeId × Value → H) :
    ReturnsInHanded {} Try.checked os 11 .any (Rows.fnExactTimesInSpec.pre6 enc Try.prog Try.f11 Rows.fnExactTimesInRow.domain false) (Rows.fnExactTimesInSpec.post enc Try.prog Try.f11 false true false false) := by
  refine returnsInHanded_of_change (C := Try.checked) own started (by kernel_rfl) Try.func11
    (ChangeSpec.witness6 (enc := enc) (C := Try.checked) false ⟨#[], #[.agg #[.int .i64 0, .int .i64 0], .int .i64 0, .int .i64 0], []⟩ 8 (by kernel_rfl) (by kernel_rfl) (by kernel_rfl) (by kernel_rfl)) ?_
  intro W base args ds gs before hval0 hW hcnd _
  have hval : ∀ (j : Nat) t v, Try.f11.params[j]? = some t → args[j]? = some v → Value.okWide Try.prog W .any base t v := hval0
  have hW' := hW
  obtain ⟨p, q, hA0, hV, rfl, hfz, hnd⟩ := hW
  have hA : DataW.TrodAll enc Try.prog W 0 (fun _ => true) true Try.f11.params.toList args.toList ds p := hA0
  rw [Try.params11] at hA hval
  obtain ⟨v0, vs0, d0, ds0, p0, q0, hargs, rfl, rfl, h0, r0⟩ := trodAll_cons hA
  obtain ⟨v1, vs1, d1, ds1, p1, q1, rfl, rfl, rfl, h1, r1⟩ := trodAll_cons r0
  obtain ⟨v2, vs2, d2, ds2, p2, q2, rfl, rfl, rfl, h2, r2⟩ := trodAll_cons r1
  obtain ⟨rfl, rfl, rfl⟩ := trodAll_nil r2
  obtain rfl : args = #[v0, v1, v2] := by cases args; simp_all
  obtain ⟨rfl, rfl⟩ := trodVars_none hV
  have k0 := h0
  have lt0 : ∀ x ∈ p0, x.block < W.heap.size := by obtain ⟨m, hm⟩ := k0; exact DataW.trod_lt m _ _ _ hm
  have k1 := h1
  have lt1 : ∀ x ∈ p1, x.block < W.heap.size := by obtain ⟨m, hm⟩ := k1; exact DataW.trod_lt m _ _ _ hm
  have k2 := h2
  have lt2 : ∀ x ∈ p2, x.block < W.heap.size := by obtain ⟨m, hm⟩ := k2; exact DataW.trod_lt m _ _ _ hm
  obtain ⟨c0_0, c0_1, y0_0, y0_1, m0, rfl, _, _, z0_0, z0_1⟩ := open_agg2 Try.underlying61 (by kernel_rfl) (by kernel_rfl) (hval 0 61 v0 rfl rfl) h0
  obtain ⟨a0_0, e0_0, _, w0_0⟩ := DataW.trod_int Try.underlying2 z0_0
  simp at e0_0; subst e0_0
  obtain ⟨a0_1, e0_1, _, w0_1⟩ := DataW.trod_int Try.underlying2 z0_1
  simp at e0_1; subst e0_1
  obtain ⟨a1, rfl, rfl, rfl, w1⟩ := open_int Try.underlying2 (hval 1 2 v1 rfl rfl) h1
  obtain ⟨a2, rfl, rfl, rfl, w2⟩ := open_int Try.underlying2 (hval 2 2 v2 rfl rfl) h2
  clear hA0 hval0
  refine (ti_law W a0_0 w0_0 a0_1 w0_1 a1 w1 a2 w2).mono fun e W' ⟨he, bel⟩ => ?_
  subst he
  exact ⟨_, rfl, _, _, _, [], _, [], hW', trodAll_mk1 (shut_bool Try.underlying4 _), (trodAll_cons_mk (Below.trod laidOut (by kernel_rfl) (of_decide_eq_true (by kernel_rfl)) k0 bel lt0) (trodAll_cons_mk (Below.trod laidOut (by kernel_rfl) (of_decide_eq_true (by kernel_rfl)) k1 bel lt1) (trodAll_cons_mk (Below.trod laidOut (by kernel_rfl) (of_decide_eq_true (by kernel_rfl)) k2 bel lt2) trodAll_mk0))), rfl, bel.frame _, fun h => by cases h⟩

theorem proved : Rows.FnExactTimesInSaid :=
  OpenClaim.holds_of_wide 11 Try.f11 rfl rfl rfl rfl rfl rfl rfl ⟨rfl, rfl, rfl, rfl, rfl⟩ rfl rfl rfl rfl rfl (by kernel_rfl) Try.func11 (by kernel_rfl)
    (of_decide_eq_true (by kernel_rfl)) (by unfold Func.isWrapper; first | (rw [if_pos (by decide +kernel)]; kernel_rfl) | (rw [if_neg (by decide +kernel)]; exact ⟨rfl, rfl⟩))
    (fun os started H enc _ => lifted os started H enc)
#print axioms proved
end fnExactTimesIn
end Go.Proofs.Ytpfdfbebeckohaa

