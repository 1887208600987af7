/- The program and the reference count the same changes of sign, for every two lists of numbers. No condition. -/
import Derived.Test.YtkkjljahfpdfhaaRows
import Derived.Test.YtkkjljahfpdfhaaOpen
import Derived.Test.YtkkjljahfpdfhaaC21a
namespace Go.Proofs.Ytkkjljahfpdfhaa
open Go.RowKit
set_option linter.unusedVariables false
set_option maxHeartbeats 1000000 in
theorem sc_law (w : World) (A0 : Option Addr) (c0 : Nat) (xs0 : List Int) (r0 : Rd encI 1 w w.heap.size A0 xs0) (wf0 : ∀ x ∈ xs0, (Lit.int .i64 x).wf = true) (m0 : xs0.length ≤ maxLen) (A1 : Option Addr) (c1 : Nat) (xs1 : List Int) (r1 : Rd encI 1 w w.heap.size A1 xs1) (wf1 : ∀ x ∈ xs1, (Lit.int .i64 x).wf = true) (m1 : xs1.length ≤ maxLen) :
    Calls Try.prog 8 #[.slice A0 xs0.length c0, .slice A1 xs1.length c1] w fun e w' => e = .returned (.bool true) ∧ Below w.heap.size w w' := by
  unfold maxLen at m0 m1
  rcases Nat.lt_or_ge 1048576 xs0.length with n0 | n0
  · go_enter Try.func8, Try.ntmps8
    go_wp2_with fail
    go_ret
    exact ⟨rfl, (by repeat (first | assumption | exact Below.refl _ _ | apply Below.al | apply Below.drewN' | apply Below.drew | (apply Below.tr; assumption)))⟩
  rcases Nat.lt_or_ge 1048576 xs1.length with n1 | n1
  · go_enter Try.func8, Try.ntmps8
    go_wp2_with fail
    go_ret
    exact ⟨rfl, (by repeat (first | assumption | exact Below.refl _ _ | apply Below.al | apply Below.drewN' | apply Below.drew | (apply Below.tr; assumption)))⟩
  go_enter Try.func8, Try.ntmps8
  go_wp2_with fail
  refine (toInt64S_any A0 c0 xs0 _ r0 (by omega)).mono ?_
  rintro e w1 ⟨B1, d1, rfl, o1, b1⟩
  have r0 := (r0.below b1 (Nat.le_refl _)).more b1.size
  have r1 := (r1.below b1 (Nat.le_refl _)).more b1.size
  have s1 := rd_of_own (enc := encI) (k := 1) (fun _ => rfl) o1
  go_wp2_with fail
  refine (toInt64S_any A1 c1 xs1 _ r1 (by omega)).mono ?_
  rintro e w2 ⟨B2, d2, rfl, o2, b2⟩
  have r0 := (r0.below b2 (Nat.le_refl _)).more b2.size
  have r1 := (r1.below b2 (Nat.le_refl _)).more b2.size
  have s1 := (s1.below b2 (Nat.le_refl _)).more b2.size
  have s2 := rd_of_own (enc := encI) (k := 1) (fun _ => rfl) o2
  go_wp2_with fail
  refine (specSignChanges_any B1 d1 xs0 B2 d2 xs1 _ s1 (by omega) s2 (by omega)).mono ?_
  rintro e w3 ⟨rfl, b3⟩
  have r0 := (r0.below b3 (Nat.le_refl _)).more b3.size
  have r1 := (r1.below b3 (Nat.le_refl _)).more b3.size
  have s1 := (s1.below b3 (Nat.le_refl _)).more b3.size
  have s2 := (s2.below b3 (Nat.le_refl _)).more b3.size
  go_wp2_with fail
  refine (toInt64S_any A0 c0 xs0 _ r0 (by omega)).mono ?_
  rintro e w4 ⟨B3, d3, rfl, o3, b4⟩
  have r0 := (r0.below b4 (Nat.le_refl _)).more b4.size
  have r1 := (r1.below b4 (Nat.le_refl _)).more b4.size
  have s1 := (s1.below b4 (Nat.le_refl _)).more b4.size
  have s2 := (s2.below b4 (Nat.le_refl _)).more b4.size
  have s3 := rd_of_own (enc := encI) (k := 1) (fun _ => rfl) o3
  go_wp2_with fail
  refine (toInt64S_any A1 c1 xs1 _ r1 (by omega)).mono ?_
  rintro e w5 ⟨B4, d4, rfl, o4, b5⟩
  have r0 := (r0.below b5 (Nat.le_refl _)).more b5.size
  have r1 := (r1.below b5 (Nat.le_refl _)).more b5.size
  have s1 := (s1.below b5 (Nat.le_refl _)).more b5.size
  have s2 := (s2.below b5 (Nat.le_refl _)).more b5.size
  have s3 := (s3.below b5 (Nat.le_refl _)).more b5.size
  have s4 := rd_of_own (enc := encI) (k := 1) (fun _ => rfl) o4
  go_wp2_with fail
  refine (implSignChanges_any B3 d3 xs0 B4 d4 xs1 _ s3 (by omega) s4 (by omega)).mono ?_
  rintro e w6 ⟨rfl, b6⟩
  have r0 := (r0.below b6 (Nat.le_refl _)).more b6.size
  have r1 := (r1.below b6 (Nat.le_refl _)).more b6.size
  have s1 := (s1.below b6 (Nat.le_refl _)).more b6.size
  have s2 := (s2.below b6 (Nat.le_refl _)).more b6.size
  have s3 := (s3.below b6 (Nat.le_refl _)).more b6.size
  have s4 := (s4.below b6 (Nat.le_refl _)).more b6.size
  go_wp2_with fail
  refine (toInt64S_any A0 c0 xs0 _ r0 (by omega)).mono ?_
  rintro e w7 ⟨B5, d5, rfl, o5, b7⟩
  have r0 := (r0.below b7 (Nat.le_refl _)).more b7.size
  have r1 := (r1.below b7 (Nat.le_refl _)).more b7.size
  have s1 := (s1.below b7 (Nat.le_refl _)).more b7.size
  have s2 := (s2.below b7 (Nat.le_refl _)).more b7.size
  have s3 := (s3.below b7 (Nat.le_refl _)).more b7.size
  have s4 := (s4.below b7 (Nat.le_refl _)).more b7.size
  have s5 := rd_of_own (enc := encI) (k := 1) (fun _ => rfl) o5
  go_wp2_with fail
  refine (eqInt64S_same B3 B5 d3 d5 xs0 _ s3 s5 (by omega)).mono ?_
  rintro e w8 ⟨rfl, b8⟩
  have r0 := (r0.below b8 (Nat.le_refl _)).more b8.size
  have r1 := (r1.below b8 (Nat.le_refl _)).more b8.size
  have s1 := (s1.below b8 (Nat.le_refl _)).more b8.size
  have s2 := (s2.below b8 (Nat.le_refl _)).more b8.size
  have s3 := (s3.below b8 (Nat.le_refl _)).more b8.size
  have s4 := (s4.below b8 (Nat.le_refl _)).more b8.size
  have s5 := (s5.below b8 (Nat.le_refl _)).more b8.size
  go_wp2_with fail
  refine (toInt64S_any A1 c1 xs1 _ r1 (by omega)).mono ?_
  rintro e w9 ⟨B6, d6, rfl, o6, b9⟩
  have r0 := (r0.below b9 (Nat.le_refl _)).more b9.size
  have r1 := (r1.below b9 (Nat.le_refl _)).more b9.size
  have s1 := (s1.below b9 (Nat.le_refl _)).more b9.size
  have s2 := (s2.below b9 (Nat.le_refl _)).more b9.size
  have s3 := (s3.below b9 (Nat.le_refl _)).more b9.size
  have s4 := (s4.below b9 (Nat.le_refl _)).more b9.size
  have s5 := (s5.below b9 (Nat.le_refl _)).more b9.size
  have s6 := rd_of_own (enc := encI) (k := 1) (fun _ => rfl) o6
  go_wp2_with fail
  refine (eqInt64S_same B4 B6 d4 d6 xs1 _ s4 s6 (by omega)).mono ?_
  rintro e w10 ⟨rfl, b10⟩
  have r0 := (r0.below b10 (Nat.le_refl _)).more b10.size
  have r1 := (r1.below b10 (Nat.le_refl _)).more b10.size
  have s1 := (s1.below b10 (Nat.le_refl _)).more b10.size
  have s2 := (s2.below b10 (Nat.le_refl _)).more b10.size
  have s3 := (s3.below b10 (Nat.le_refl _)).more b10.size
  have s4 := (s4.below b10 (Nat.le_refl _)).more b10.size
  have s5 := (s5.below b10 (Nat.le_refl _)).more b10.size
  have s6 := (s6.below b10 (Nat.le_refl _)).more b10.size
  go_wp2_with fail
  go_ret
  exact ⟨rfl, (by repeat (first | assumption | exact Below.refl _ _ | apply Below.al | apply Below.drewN' | apply Below.drew | (apply Below.tr; assumption)))⟩
namespace fnExactSignChanges
open Go.ChangeShapes Go.WideShapes Go.ChangeAt Go.RowKit Go.Deep Go.Joins
set_option linter.unusedVariables false
theorem own : ownKnob Try.prog.godebug = none := by kernel_rfl
theorem laidOut : laidOutB Try.prog = true := by kernel_rfl
set_option maxRecDepth 100000 in
theorem lifted (os : Os) (started : os.Started) (H : Type) (enc : TypeId × Value → H) :
    ReturnsInHanded {} Try.checked os 8 .any (Rows.fnExactSignChangesSpec.pre6 enc Try.prog Try.f8 Rows.fnExactSignChangesRow.domain false) (Rows.fnExactSignChangesSpec.post enc Try.prog Try.f8 false true false false) := by
  refine returnsInHanded_of_change (C := Try.checked) own started (by kernel_rfl) Try.func8
    (ChangeSpec.witness6 (enc := enc) (C := Try.checked) false ⟨#[], #[.slice none 0 0, .slice none 0 0], []⟩ 8 (by kernel_rfl) (by kernel_rfl) (by kernel_rfl) (by kernel_rfl)) ?_
  intro W base args ds gs before hval0 hW hcnd _
  have hval : ∀ (j : Nat) t v, Try.f8.params[j]? = some t → args[j]? = some v → Value.okWide Try.prog W .any base t v := hval0
  have hW' := hW
  obtain ⟨p, q, hA0, hV, rfl, hfz, hnd⟩ := hW
  have hA : DataW.TrodAll enc Try.prog W 0 (fun _ => true) true Try.f8.params.toList args.toList ds p := hA0
  rw [Try.params8] at hA hval
  obtain ⟨v0, vs0, d0, ds0, p0, q0, hargs, rfl, rfl, h0, r0⟩ := trodAll_cons hA
  obtain ⟨v1, vs1, d1, ds1, p1, q1, rfl, rfl, rfl, h1, r1⟩ := trodAll_cons r0
  obtain ⟨rfl, rfl, rfl⟩ := trodAll_nil r1
  obtain rfl : args = #[v0, v1] := by cases args; simp_all
  obtain ⟨rfl, rfl⟩ := trodVars_none hV
  have k0 := h0
  have lt0 : ∀ x ∈ p0, x.block < W.heap.size := by obtain ⟨m, hm⟩ := k0; exact DataW.trod_lt m _ _ _ hm
  have k1 := h1
  have lt1 : ∀ x ∈ p1, x.block < W.heap.size := by obtain ⟨m, hm⟩ := k1; exact DataW.trod_lt m _ _ _ hm
  obtain ⟨A0, len0, cap0, rfl⟩ := okWide_slice Try.underlying44 (hval 0 44 v0 rfl rfl)
  obtain ⟨xs0, rfl, rd0, wf0, ml0⟩ : ∃ xs : List _, xs.length = len0 ∧ Rd encI 1 W W.heap.size A0 xs ∧ (∀ x ∈ xs, (Lit.int .i64 x).wf = true) ∧ len0 ≤ maxLen := by
    obtain ⟨fuel, hf⟩ := h0
    exact rd_open (encA := encI) (wf := fun x => (Lit.int .i64 x).wf = true) (k := 1) (by decide) (fun _ => rfl) Try.underlying44 (by kernel_rfl) (dec_int Try.underlying2) (by simpa [Value.cells] using hf)
  obtain ⟨A1, len1, cap1, rfl⟩ := okWide_slice Try.underlying44 (hval 1 44 v1 rfl rfl)
  obtain ⟨xs1, rfl, rd1, wf1, ml1⟩ : ∃ xs : List _, xs.length = len1 ∧ Rd encI 1 W W.heap.size A1 xs ∧ (∀ x ∈ xs, (Lit.int .i64 x).wf = true) ∧ len1 ≤ maxLen := by
    obtain ⟨fuel, hf⟩ := h1
    exact rd_open (encA := encI) (wf := fun x => (Lit.int .i64 x).wf = true) (k := 1) (by decide) (fun _ => rfl) Try.underlying44 (by kernel_rfl) (dec_int Try.underlying2) (by simpa [Value.cells] using hf)
  clear hA0 hval0
  refine (sc_law W A0 cap0 xs0 rd0 wf0 ml0 A1 cap1 xs1 rd1 wf1 ml1).mono fun e W' ⟨he, bel⟩ => ?_
  subst he
  exact ⟨_, rfl, _, _, _, [], _, [], hW', trodAll_mk1 (shut_bool Try.underlying4 _), (trodAll_cons_mk (Below.trod laidOut (by kernel_rfl) (of_decide_eq_true (by kernel_rfl)) k0 bel lt0) (trodAll_cons_mk (Below.trod laidOut (by kernel_rfl) (of_decide_eq_true (by kernel_rfl)) k1 bel lt1) trodAll_mk0)), rfl, bel.frame _, fun h => by cases h⟩

theorem proved : Rows.FnExactSignChangesSaid :=
  OpenClaim.holds_of_wide 8 Try.f8 rfl rfl rfl rfl rfl rfl rfl ⟨rfl, rfl, rfl, rfl, rfl⟩ rfl rfl rfl rfl rfl (by kernel_rfl) Try.func8 (by kernel_rfl)
    (of_decide_eq_true (by kernel_rfl)) (by unfold Func.isWrapper; first | (rw [if_pos (by decide +kernel)]; kernel_rfl) | (rw [if_neg (by decide +kernel)]; exact ⟨rfl, rfl⟩))
    (fun os started H enc _ => lifted os started H enc)
#print axioms proved
end fnExactSignChanges
end Go.Proofs.Ytkkjljahfpdfhaa

