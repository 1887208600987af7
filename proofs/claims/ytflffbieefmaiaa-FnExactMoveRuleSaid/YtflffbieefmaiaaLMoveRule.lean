/- The program and the reference return the same rules with one at another place, in new memory, for every list of rules and all places. No condition. -/
import Derived.Test.YtflffbieefmaiaaRows
import Derived.Test.YtflffbieefmaiaaOpen
import Derived.Test.YtflffbieefmaiaaC18y
import Derived.Test.YtflffbieefmaiaaCRule
import Derived.Test.YtflffbieefmaiaaCRuD
import Derived.Test.YtflffbieefmaiaaCRuM
namespace Go.Proofs.Ytflffbieefmaiaa
open Go.RowKit
set_option linter.unusedVariables false
set_option maxHeartbeats 1000000 in
theorem mr_law (w : World) (A0 : Option Addr) (c0 : Nat) (xs0 : List Ru) (r0 : Rd encRu 6 w w.heap.size A0 xs0) (wf0 : ∀ x ∈ xs0, x.s.size ≤ maxLen) (m0 : xs0.length ≤ maxLen) (aFrom : Int) (w_aFrom : (Lit.int .i64 aFrom).wf = true) (aTo : Int) (w_aTo : (Lit.int .i64 aTo).wf = true) :
    Calls Try.prog 3 #[.slice A0 xs0.length c0, .int .i64 aFrom, .int .i64 aTo] w fun e w' => e = .returned (.bool true) ∧ Below w.heap.size w w' := by
  unfold maxLen at m0
  have l0 : xs0.length ≤ totRule xs0 := Nat.le_add_right _ _
  rcases Nat.lt_or_ge 1048576 (totRule xs0) with n0 | n0
  · go_enter Try.func3, Try.ntmps3
    have tt : Below w.heap.size w w := (by repeat (first | assumption | exact Below.refl _ _ | apply Below.al | apply Below.drewN' | apply Below.drew | (apply Below.tr; assumption)))
    go_wp2_with fail
    refine (szRuleS_big A0 c0 xs0 _ _ ((r0.below tt (Nat.le_refl _)).more tt.size) wf0 (by unfold maxLen; omega) (by omega) (by omega) (by omega)).mono ?_
    rintro e wz ⟨rfl, bz⟩
    go_wp2_with fail
    go_ret
    exact ⟨rfl, (by repeat (first | assumption | exact Below.refl _ _ | apply Below.al | apply Below.drewN' | apply Below.drew | (apply Below.tr; assumption)))⟩
  go_enter Try.func3, Try.ntmps3
  have tt : Below w.heap.size w w := (by repeat (first | assumption | exact Below.refl _ _ | apply Below.al | apply Below.drewN' | apply Below.drew | (apply Below.tr; assumption)))
  have z0 : w.heap.size ≤ (World.heap w).size := tt.size
  go_wp2_with fail
  refine (szRuleS_ok A0 c0 xs0 _ _ ((r0.below tt (Nat.le_refl _)).more tt.size) (by omega) (by omega)).mono ?_
  rintro e w1 ⟨rfl, b1⟩
  have z1 := b1.size
  have tt := Below.tr b1 tt
  go_wp2_with fail
  refine (toRuleS_any A0 c0 xs0 _ ((r0.below tt (Nat.le_refl _)).more tt.size) (by omega)).mono ?_
  rintro e w2 ⟨B1, d1, rfl, o1, b2⟩
  have z2 := b2.size
  have tt := Below.tr b2 tt
  have p1 := o1
  go_wp2_with fail
  refine (specMoveRule_any B1 d1 xs0 aFrom aTo _ (rd_of_own (enc := encRu) (k := 6) (fun _ => rfl) p1) (by omega) (own_cap p1) wf0 (own_nil p1)).mono ?_
  rintro e w3 ⟨WA, Wc, rfl, Wo, b3⟩
  have z3 := b3.size
  have p1 := own_below p1 b3 (Nat.le_refl _)
  have tt := Below.tr b3 tt
  have Wp := Wo
  go_wp2_with fail
  refine (toRuleS_any A0 c0 xs0 _ ((r0.below tt (Nat.le_refl _)).more tt.size) (by omega)).mono ?_
  rintro e w4 ⟨B2, d2, rfl, o2, b4⟩
  have z4 := b4.size
  have p1 := own_below p1 b4 (Nat.le_refl _)
  have Wp := own_below Wp b4 (Nat.le_refl _)
  have tt := Below.tr b4 tt
  have p2 := o2
  go_wp2_with fail
  refine (implMoveRule_any B2 d2 xs0 aFrom aTo _ (rd_of_own (enc := encRu) (k := 6) (fun _ => rfl) p2) (by omega) (own_cap p2) wf0 (own_nil p2)).mono ?_
  rintro e w5 ⟨GA, Gc, rfl, Go, b5⟩
  have z5 := b5.size
  have p1 := own_below p1 b5 (Nat.le_refl _)
  have Wp := own_below Wp b5 (Nat.le_refl _)
  have p2 := own_below p2 b5 (Nat.le_refl _)
  have tt := Below.tr b5 tt
  have Gp := Go
  have hyl : (mvV xs0 aFrom aTo).length ≤ 1048576 := by have := mvV_len xs0 aFrom aTo; omega
  go_wp2_with fail
  refine (eqRuleS_same GA WA Gc Wc (mvV xs0 aFrom aTo) _ (rd_of_own (enc := encRu) (k := 6) (fun _ => rfl) Gp) (rd_of_own (enc := encRu) (k := 6) (fun _ => rfl) Wp) hyl).mono ?_
  rintro e w6 ⟨rfl, b6⟩
  have z6 := b6.size
  have p1 := own_below p1 b6 (Nat.le_refl _)
  have Wp := own_below Wp b6 (Nat.le_refl _)
  have p2 := own_below p2 b6 (Nat.le_refl _)
  have Gp := own_below Gp b6 (Nat.le_refl _)
  have tt := Below.tr b6 tt
  go_wp2_with fail
  refine (toRuleS_any A0 c0 xs0 _ ((r0.below tt (Nat.le_refl _)).more tt.size) (by omega)).mono ?_
  rintro e w7 ⟨B3, d3, rfl, o3, b7⟩
  have z7 := b7.size
  have p1 := own_below p1 b7 (Nat.le_refl _)
  have Wp := own_below Wp b7 (Nat.le_refl _)
  have p2 := own_below p2 b7 (Nat.le_refl _)
  have Gp := own_below Gp b7 (Nat.le_refl _)
  have tt := Below.tr b7 tt
  have p3 := o3
  go_wp2_with fail
  refine (eqRuleS_same B2 B3 d2 d3 xs0 _ (rd_of_own (enc := encRu) (k := 6) (fun _ => rfl) p2) (rd_of_own (enc := encRu) (k := 6) (fun _ => rfl) p3) (by omega)).mono ?_
  rintro e w8 ⟨rfl, b8⟩
  have z8 := b8.size
  have p1 := own_below p1 b8 (Nat.le_refl _)
  have Wp := own_below Wp b8 (Nat.le_refl _)
  have p2 := own_below p2 b8 (Nat.le_refl _)
  have Gp := own_below Gp b8 (Nat.le_refl _)
  have p3 := own_below p3 b8 (Nat.le_refl _)
  have tt := Below.tr b8 tt
  have Z_Wp := Wo
  have Z_Gp := Go
  have Z_p2 := o2
  go_wp2_with fail
  refine (markRuleS_any _ B2 xs0.length d2 _ (1) _ p2 (by omega) (by omega) (by omega)).mono ?_
  rintro e w9 ⟨rfl, pm9, gm9⟩
  have z9 := gm9.size
  have Wp := Wp.kept gm9 (own_ne Z_Wp Z_p2 (by omega)).2
  have Gp := Gp.kept gm9 (own_ne Z_p2 Z_Gp (by omega)).1
  have tt := Below.gr tt tt.size p2 (by omega) gm9
  have p2 := pm9
  go_wp2_with fail
  refine (eqRuleS_same GA WA Gc Wc (mvV xs0 aFrom aTo) _ (rd_of_own (enc := encRu) (k := 6) (fun _ => rfl) Gp) (rd_of_own (enc := encRu) (k := 6) (fun _ => rfl) Wp) hyl).mono ?_
  rintro e w10 ⟨rfl, b10⟩
  have z10 := b10.size
  have Wp := own_below Wp b10 (Nat.le_refl _)
  have Gp := own_below Gp b10 (Nat.le_refl _)
  have tt := Below.tr b10 tt
  go_wp2_with fail
  refine (markRuleS_any _ GA (mvV xs0 aFrom aTo).length Gc _ 1 _ Gp (by omega) (by omega) (by omega)).mono ?_
  rintro e w11 ⟨rfl, pm11, gm11⟩
  have z11 := gm11.size
  have Wp := Wp.kept gm11 (own_ne Z_Wp Z_Gp (by omega)).2
  have tt := Below.gr tt tt.size Gp (by omega) gm11
  have Gp := pm11
  go_wp2_with fail
  refine (heldRuleS_any _ GA (mvV xs0 aFrom aTo).length Gc 1 _ Gp (by omega) (by omega) (by omega)).mono ?_
  rintro e w12 ⟨rfl, b12⟩
  have z12 := b12.size
  have Wp := own_below Wp b12 (Nat.le_refl _)
  have Gp := own_below Gp b12 (Nat.le_refl _)
  have tt := Below.tr b12 tt
  go_wp2_with fail
  refine (toRuleS_any A0 c0 xs0 _ ((r0.below tt (Nat.le_refl _)).more tt.size) (by omega)).mono ?_
  rintro e w13 ⟨B4, d4, rfl, o4, b13⟩
  have z13 := b13.size
  have Wp := own_below Wp b13 (Nat.le_refl _)
  have Gp := own_below Gp b13 (Nat.le_refl _)
  have tt := Below.tr b13 tt
  have p4 := o4
  go_wp2_with fail
  refine (implMoveRule_any B4 d4 xs0 aFrom aTo _ (rd_of_own (enc := encRu) (k := 6) (fun _ => rfl) p4) (by omega) (own_cap p4) wf0 (own_nil p4)).mono ?_
  rintro e w14 ⟨HA, Hc, rfl, Ho, b14⟩
  have z14 := b14.size
  have Wp := own_below Wp b14 (Nat.le_refl _)
  have Gp := own_below Gp b14 (Nat.le_refl _)
  have p4 := own_below p4 b14 (Nat.le_refl _)
  have tt := Below.tr b14 tt
  have Hp := Ho
  go_wp2_with fail
  refine (eqRuleS_same HA WA Hc Wc (mvV xs0 aFrom aTo) _ (rd_of_own (enc := encRu) (k := 6) (fun _ => rfl) Hp) (rd_of_own (enc := encRu) (k := 6) (fun _ => rfl) Wp) hyl).mono ?_
  rintro e w15 ⟨rfl, b15⟩
  have z15 := b15.size
  have Wp := own_below Wp b15 (Nat.le_refl _)
  have Gp := own_below Gp b15 (Nat.le_refl _)
  have p4 := own_below p4 b15 (Nat.le_refl _)
  have Hp := own_below Hp b15 (Nat.le_refl _)
  have tt := Below.tr b15 tt
  go_wp2_with fail
  refine (heldRuleS_any _ GA (mvV xs0 aFrom aTo).length Gc 1 _ Gp (by omega) (by omega) (by omega)).mono ?_
  rintro e w16 ⟨rfl, b16⟩
  have z16 := b16.size
  have Wp := own_below Wp b16 (Nat.le_refl _)
  have Gp := own_below Gp b16 (Nat.le_refl _)
  have p4 := own_below p4 b16 (Nat.le_refl _)
  have Hp := own_below Hp b16 (Nat.le_refl _)
  have tt := Below.tr b16 tt
  go_wp2_with fail
  go_ret
  exact ⟨rfl, tt⟩
namespace fnExactMoveRule
open Go.ChangeShapes Go.WideShapes Go.ChangeAt Go.RowKit Go.Deep Go.Joins
set_option linter.unusedVariables false
theorem own : ownKnob Try.prog.godebug = none := by kernel_rfl
theorem laidOut : laidOutB Try.prog = true := by kernel_rfl
set_option maxRecDepth 100000 in
theorem lifted (os : Os) (started : os.Started) (H : Type) (enc : TypeId × Value → H) :
    ReturnsInHanded {} Try.checked os 3 .any (Rows.fnExactMoveRuleSpec.pre6 enc Try.prog Try.f3 Rows.fnExactMoveRuleRow.domain false) (Rows.fnExactMoveRuleSpec.post enc Try.prog Try.f3 false true false false) := by
  refine returnsInHanded_of_change (C := Try.checked) own started (by kernel_rfl) Try.func3
    (ChangeSpec.witness6 (enc := enc) (C := Try.checked) false ⟨#[], #[.slice none 0 0, .int .i64 0, .int .i64 0], []⟩ 8 (by kernel_rfl) (by kernel_rfl) (by kernel_rfl) (by kernel_rfl)) ?_
  intro W base args ds gs before hval0 hW hcnd _
  have hval : ∀ (j : Nat) t v, Try.f3.params[j]? = some t → args[j]? = some v → Value.okWide Try.prog W .any base t v := hval0
  have hW' := hW
  obtain ⟨p, q, hA0, hV, rfl, hfz, hnd⟩ := hW
  have hA : DataW.TrodAll enc Try.prog W 0 (fun _ => true) true Try.f3.params.toList args.toList ds p := hA0
  rw [Try.params3] at hA hval
  obtain ⟨v0, vs0, d0, ds0, p0, q0, hargs, rfl, rfl, h0, r0⟩ := trodAll_cons hA
  obtain ⟨v1, vs1, d1, ds1, p1, q1, rfl, rfl, rfl, h1, r1⟩ := trodAll_cons r0
  obtain ⟨v2, vs2, d2, ds2, p2, q2, rfl, rfl, rfl, h2, r2⟩ := trodAll_cons r1
  obtain ⟨rfl, rfl, rfl⟩ := trodAll_nil r2
  obtain rfl : args = #[v0, v1, v2] := by cases args; simp_all
  obtain ⟨rfl, rfl⟩ := trodVars_none hV
  have k0 := h0
  have lt0 : ∀ x ∈ p0, x.block < W.heap.size := by obtain ⟨m, hm⟩ := k0; exact DataW.trod_lt m _ _ _ hm
  have k1 := h1
  have lt1 : ∀ x ∈ p1, x.block < W.heap.size := by obtain ⟨m, hm⟩ := k1; exact DataW.trod_lt m _ _ _ hm
  have k2 := h2
  have lt2 : ∀ x ∈ p2, x.block < W.heap.size := by obtain ⟨m, hm⟩ := k2; exact DataW.trod_lt m _ _ _ hm
  obtain ⟨A0, len0, cap0, rfl⟩ := okWide_slice Try.underlying22 (hval 0 22 v0 rfl rfl)
  obtain ⟨xs0, rfl, rd0, wf0, ml0⟩ : ∃ xs : List _, xs.length = len0 ∧ Rd encRu 6 W W.heap.size A0 xs ∧ (∀ x ∈ xs, x.s.size ≤ maxLen) ∧ len0 ≤ maxLen := by
    obtain ⟨fuel, hf⟩ := h0
    exact rd_open (encA := encRu) (wf := fun x => x.s.size ≤ maxLen) (k := 6) (by decide) (fun _ => rfl) Try.underlying22 (by kernel_rfl) (fun n cs y h => dec_ru Try.underlying33 (by kernel_rfl) (by kernel_rfl) Try.underlying9 Try.underlying2 Try.underlying2 Try.underlying2 Try.underlying2 Try.underlying2 n cs y h) (by simpa [Value.cells] using hf)
  obtain ⟨a1, rfl, rfl, rfl, w1⟩ := open_int Try.underlying2 (hval 1 2 v1 rfl rfl) h1
  obtain ⟨a2, rfl, rfl, rfl, w2⟩ := open_int Try.underlying2 (hval 2 2 v2 rfl rfl) h2
  clear hA0 hval0
  refine (mr_law W A0 cap0 xs0 rd0 wf0 ml0 a1 w1 a2 w2).mono fun e W' ⟨he, bel⟩ => ?_
  subst he
  exact ⟨_, rfl, _, _, _, [], _, [], hW', trodAll_mk1 (shut_bool Try.underlying4 _), (trodAll_cons_mk (Below.trod laidOut (by kernel_rfl) (of_decide_eq_true (by kernel_rfl)) k0 bel lt0) (trodAll_cons_mk (Below.trod laidOut (by kernel_rfl) (of_decide_eq_true (by kernel_rfl)) k1 bel lt1) (trodAll_cons_mk (Below.trod laidOut (by kernel_rfl) (of_decide_eq_true (by kernel_rfl)) k2 bel lt2) trodAll_mk0))), rfl, bel.frame _, fun h => by cases h⟩

theorem proved : Rows.FnExactMoveRuleSaid :=
  OpenClaim.holds_of_wide 3 Try.f3 rfl rfl rfl rfl rfl rfl rfl ⟨rfl, rfl, rfl, rfl, rfl⟩ rfl rfl rfl rfl rfl (by kernel_rfl) Try.func3 (by kernel_rfl)
    (of_decide_eq_true (by kernel_rfl)) (by unfold Func.isWrapper; first | (rw [if_pos (by decide +kernel)]; kernel_rfl) | (rw [if_neg (by decide +kernel)]; exact ⟨rfl, rfl⟩))
    (fun os started H enc _ => lifted os started H enc)
#print axioms proved
end fnExactMoveRule
end Go.Proofs.Ytflffbieefmaiaa

