/- The program and the reference return the same groups of linked stars, in new memory, for all links. No condition. -/
import Derived.Test.YtalongdieglibaaRows
import Derived.Test.YtalongdieglibaaOpen
import Derived.Test.YtalongdieglibaaC20x
namespace Go.Proofs.Ytalongdieglibaa
open Go.RowKit
set_option linter.unusedVariables false
set_option maxHeartbeats 1000000 in
theorem gs_law (w : World) (aStars : Int) (w_aStars : (Lit.int .i64 aStars).wf = true) (A1 : Option Addr) (c1 : Nat) (xs1 : List Lk) (r1 : Rd encLk 3 w w.heap.size A1 xs1) (wf1 : ∀ x ∈ xs1, True) (m1 : xs1.length ≤ maxLen) :
    Calls Try.prog 4 #[.int .i64 aStars, .slice A1 xs1.length c1] w fun e w' => e = .returned (.bool true) ∧ Below w.heap.size w w' := by
  unfold maxLen at m1
  rcases Nat.lt_or_ge 1048576 (xs1.length) with n1 | n1
  · go_enter Try.func4, Try.ntmps4
    have tt : Below w.heap.size w w := Below.refl _ _
    go_wp2_with fail
    refine (szLinkS_big A1 xs1.length c1 _ _ (by unfold maxLen; omega) (by omega) (by omega) (by omega)).mono ?_
    rintro e wz ⟨rfl, rfl⟩
    go_wp2_with fail
    go_ret
    exact ⟨rfl, tt⟩
  go_enter Try.func4, Try.ntmps4
  have tt : Below w.heap.size w w := Below.refl _ _
  have z0 : w.heap.size ≤ (World.heap w).size := tt.size
  have hyl := grV_len aStars xs1
  have hm : ∀ L ∈ grV aStars xs1, L.length ≤ 1000 := fun L hL => Nat.le_trans (grV_mem L hL) (by omega)
  go_wp2_with fail
  refine (szLinkS_ok A1 xs1.length c1 _ _ (by omega) (by omega)).mono ?_
  rintro e wz ⟨rfl, rfl⟩
  go_wp2_with fail
  refine (toLinkS_any A1 c1 xs1 _ ((r1.below tt (Nat.le_refl _)).more tt.size) (by omega)).mono ?_
  rintro e w1 ⟨B1, d1, rfl, o1, b1⟩
  have z1 := b1.size
  have tt := Below.tr b1 tt
  have p1 := o1
  go_wp2_with fail
  refine (specGroupsOfStars_any aStars B1 d1 xs1 _ (rd_of_own (enc := encLk) (k := 3) (fun _ => rfl) p1) (by omega)).mono ?_
  rintro e w2 ⟨WA, Wc, Wh, rfl, Wp, b2⟩
  have z2 := b2.size
  have p1 := own_below p1 b2 (Nat.le_refl _)
  have tt := Below.tr b2 tt
  go_wp2_with fail
  refine (toLinkS_any A1 c1 xs1 _ ((r1.below tt (Nat.le_refl _)).more tt.size) (by omega)).mono ?_
  rintro e w3 ⟨B2, d2, rfl, o2, b3⟩
  have z3 := b3.size
  have p1 := own_below p1 b3 (Nat.le_refl _)
  have Wp := Wp.below b3 (by omega)
  have tt := Below.tr b3 tt
  have p2 := o2
  go_wp2_with fail
  refine (implGroupsOfStars_any aStars B2 d2 xs1 _ (rd_of_own (enc := encLk) (k := 3) (fun _ => rfl) p2) (by omega)).mono ?_
  rintro e w4 ⟨GA, Gc, Gh, rfl, Gp, b4⟩
  have z4 := b4.size
  have p1 := own_below p1 b4 (Nat.le_refl _)
  have Wp := Wp.below b4 (by omega)
  have p2 := own_below p2 b4 (Nat.le_refl _)
  have tt := Below.tr b4 tt
  go_wp2_with fail
  refine (eqInt64SS_same GA WA Gc Wc _ _ _ _ Gh Wh (grV aStars xs1) _ Gp Wp (by omega) (by omega) (by omega) hm).mono ?_
  rintro e w5 ⟨rfl, b5⟩
  have z5 := b5.size
  have p1 := own_below p1 b5 (Nat.le_refl _)
  have Wp := Wp.below b5 (by omega)
  have p2 := own_below p2 b5 (Nat.le_refl _)
  have Gp := Gp.below b5 (by omega)
  have tt := Below.tr b5 tt
  go_wp2_with fail
  refine (toLinkS_any A1 c1 xs1 _ ((r1.below tt (Nat.le_refl _)).more tt.size) (by omega)).mono ?_
  rintro e w6 ⟨B3, d3, rfl, o3, b6⟩
  have z6 := b6.size
  have p1 := own_below p1 b6 (Nat.le_refl _)
  have Wp := Wp.below b6 (by omega)
  have p2 := own_below p2 b6 (Nat.le_refl _)
  have Gp := Gp.below b6 (by omega)
  have tt := Below.tr b6 tt
  have p3 := o3
  go_wp2_with fail
  refine (eqLinkS_same B2 B3 d2 d3 xs1 _ (rd_of_own (enc := encLk) (k := 3) (fun _ => rfl) p2) (rd_of_own (enc := encLk) (k := 3) (fun _ => rfl) p3) (by omega)).mono ?_
  rintro e w7 ⟨rfl, b7⟩
  have z7 := b7.size
  have p1 := own_below p1 b7 (Nat.le_refl _)
  have Wp := Wp.below b7 (by omega)
  have p2 := own_below p2 b7 (Nat.le_refl _)
  have Gp := Gp.below b7 (by omega)
  have p3 := own_below p3 b7 (Nat.le_refl _)
  have tt := Below.tr b7 tt
  go_wp2_with fail
  refine (markLinkS_any _ B2 xs1.length d2 _ (1) _ p2 (by omega) (by omega) (by omega)).mono ?_
  rintro e w8 ⟨rfl, pm8, gm8⟩
  have z8 := gm8.size
  have Wp := Wp.grow gm8 (by omega) (fun q hq => by have := o2.lt q hq; omega)
  have Gp := Gp.grow gm8 (by omega) (fun q hq => by have := o2.lt q hq; omega)
  have tt := Below.gr tt tt.size p2 (by omega) gm8
  go_wp2_with fail
  refine (eqInt64SS_same GA WA Gc Wc _ _ _ _ Gh Wh (grV aStars xs1) _ Gp Wp (by omega) (by omega) (by omega) hm).mono ?_
  rintro e w9 ⟨rfl, b9⟩
  have z9 := b9.size
  have Wp := Wp.below b9 (by omega)
  have Gp := Gp.below b9 (by omega)
  have tt := Below.tr b9 tt
  go_wp2_with fail
  refine (markInt64SS_any GA Gc _ _ Gh (grV aStars xs1) 1 _ Gp (by omega) hm (by omega) (by omega)).mono ?_
  rintro e w10 ⟨rfl, Gm, cg10⟩
  have z10 := cg10.size
  have Wp := Wp.chg cg10 (by omega) (by omega)
  have tt := cg10.under tt (by omega) (by omega)
  have ht0 := Int.natCast_nonneg (totL (grV aStars xs1))
  go_wp2_with fail
  refine (heldInt64SS_any GA Gc _ _ Gh (grV aStars xs1) 1 _ Gm (by omega) hm (by omega) (by omega)).mono ?_
  rintro e wz ⟨rfl, rfl⟩
  go_wp2_with fail
  refine (toLinkS_any A1 c1 xs1 _ ((r1.below tt (Nat.le_refl _)).more tt.size) (by omega)).mono ?_
  rintro e w11 ⟨B4, d4, rfl, o4, b11⟩
  have z11 := b11.size
  have Wp := Wp.below b11 (by omega)
  have Gm := Gm.below b11 (by omega)
  have tt := Below.tr b11 tt
  have p4 := o4
  go_wp2_with fail
  refine (implGroupsOfStars_any aStars B4 d4 xs1 _ (rd_of_own (enc := encLk) (k := 3) (fun _ => rfl) p4) (by omega)).mono ?_
  rintro e w12 ⟨HA, Hc, Hh, rfl, Hp, b12⟩
  have z12 := b12.size
  have Wp := Wp.below b12 (by omega)
  have Gm := Gm.below b12 (by omega)
  have p4 := own_below p4 b12 (Nat.le_refl _)
  have tt := Below.tr b12 tt
  go_wp2_with fail
  refine (eqInt64SS_same HA WA Hc Wc _ _ _ _ Hh Wh (grV aStars xs1) _ Hp Wp (by omega) (by omega) (by omega) hm).mono ?_
  rintro e w13 ⟨rfl, b13⟩
  have z13 := b13.size
  have Wp := Wp.below b13 (by omega)
  have Gm := Gm.below b13 (by omega)
  have p4 := own_below p4 b13 (Nat.le_refl _)
  have Hp := Hp.below b13 (by omega)
  have tt := Below.tr b13 tt
  go_wp2_with fail
  refine (heldInt64SS_any GA Gc _ _ Gh (grV aStars xs1) 1 _ Gm (by omega) hm (by omega) (by omega)).mono ?_
  rintro e wz ⟨rfl, rfl⟩
  go_wp2_with fail
  go_ret
  exact ⟨rfl, tt⟩
namespace fnExactGroupsOfStars
open Go.ChangeShapes Go.WideShapes Go.ChangeAt Go.RowKit Go.Deep Go.Joins
set_option linter.unusedVariables false
theorem own : ownKnob Try.prog.godebug = none := by kernel_rfl
theorem laidOut : laidOutB Try.prog = true := by kernel_rfl
set_option maxRecDepth 100000 in
theorem lifted (os : Os) (started : os.Started) (H : Type) (enc : TypeId × Value → H) :
    ReturnsInHanded {} Try.checked os 4 .any (Rows.fnExactGroupsOfStarsSpec.pre6 enc Try.prog Try.f4 Rows.fnExactGroupsOfStarsRow.domain false) (Rows.fnExactGroupsOfStarsSpec.post enc Try.prog Try.f4 false true false false) := by
  refine returnsInHanded_of_change (C := Try.checked) own started (by kernel_rfl) Try.func4
    (ChangeSpec.witness6 (enc := enc) (C := Try.checked) false ⟨#[], #[.int .i64 0, .slice none 0 0], []⟩ 8 (by kernel_rfl) (by kernel_rfl) (by kernel_rfl) (by kernel_rfl)) ?_
  intro W base args ds gs before hval0 hW hcnd _
  have hval : ∀ (j : Nat) t v, Try.f4.params[j]? = some t → args[j]? = some v → Value.okWide Try.prog W .any base t v := hval0
  have hW' := hW
  obtain ⟨p, q, hA0, hV, rfl, hfz, hnd⟩ := hW
  have hA : DataW.TrodAll enc Try.prog W 0 (fun _ => true) true Try.f4.params.toList args.toList ds p := hA0
  rw [Try.params4] at hA hval
  obtain ⟨v0, vs0, d0, ds0, p0, q0, hargs, rfl, rfl, h0, r0⟩ := trodAll_cons hA
  obtain ⟨v1, vs1, d1, ds1, p1, q1, rfl, rfl, rfl, h1, r1⟩ := trodAll_cons r0
  obtain ⟨rfl, rfl, rfl⟩ := trodAll_nil r1
  obtain rfl : args = #[v0, v1] := by cases args; simp_all
  obtain ⟨rfl, rfl⟩ := trodVars_none hV
  have k0 := h0
  have lt0 : ∀ x ∈ p0, x.block < W.heap.size := by obtain ⟨m, hm⟩ := k0; exact DataW.trod_lt m _ _ _ hm
  have k1 := h1
  have lt1 : ∀ x ∈ p1, x.block < W.heap.size := by obtain ⟨m, hm⟩ := k1; exact DataW.trod_lt m _ _ _ hm
  obtain ⟨a0, rfl, rfl, rfl, w0⟩ := open_int Try.underlying2 (hval 0 2 v0 rfl rfl) h0
  obtain ⟨A1, len1, cap1, rfl⟩ := okWide_slice Try.underlying22 (hval 1 22 v1 rfl rfl)
  obtain ⟨xs1, rfl, rd1, wf1, ml1⟩ : ∃ xs : List _, xs.length = len1 ∧ Rd encLk 3 W W.heap.size A1 xs ∧ (∀ x ∈ xs, True) ∧ len1 ≤ maxLen := by
    obtain ⟨fuel, hf⟩ := h1
    exact rd_open (encA := encLk) (wf := fun x => True) (k := 3) (by decide) (fun _ => rfl) Try.underlying22 (by kernel_rfl) (fun n cs y h => dec_lk Try.underlying49 (by kernel_rfl) (by kernel_rfl) Try.underlying2 Try.underlying2 Try.underlying2 n cs y h) (by simpa [Value.cells] using hf)
  clear hA0 hval0
  refine (gs_law W a0 w0 A1 cap1 xs1 rd1 wf1 ml1).mono fun e W' ⟨he, bel⟩ => ?_
  subst he
  exact ⟨_, rfl, _, _, _, [], _, [], hW', trodAll_mk1 (shut_bool Try.underlying4 _), (trodAll_cons_mk (Below.trod laidOut (by kernel_rfl) (of_decide_eq_true (by kernel_rfl)) k0 bel lt0) (trodAll_cons_mk (Below.trod laidOut (by kernel_rfl) (of_decide_eq_true (by kernel_rfl)) k1 bel lt1) trodAll_mk0)), rfl, bel.frame _, fun h => by cases h⟩

theorem proved : Rows.FnExactGroupsOfStarsSaid :=
  OpenClaim.holds_of_wide 4 Try.f4 rfl rfl rfl rfl rfl rfl rfl ⟨rfl, rfl, rfl, rfl, rfl⟩ rfl rfl rfl rfl rfl (by kernel_rfl) Try.func4 (by kernel_rfl)
    (of_decide_eq_true (by kernel_rfl)) (by unfold Func.isWrapper; first | (rw [if_pos (by decide +kernel)]; kernel_rfl) | (rw [if_neg (by decide +kernel)]; exact ⟨rfl, rfl⟩))
    (fun os started H enc _ => lifted os started H enc)
#print axioms proved
end fnExactGroupsOfStars
end Go.Proofs.Ytalongdieglibaa

