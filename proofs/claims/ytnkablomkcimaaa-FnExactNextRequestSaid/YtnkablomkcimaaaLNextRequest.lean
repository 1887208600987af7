/- The program and the reference name the same next request, for every list of requests and every time. No condition. -/
import Derived.Test.YtnkablomkcimaaaRows
import Derived.Test.YtnkablomkcimaaaOpen
import Derived.Test.YtnkablomkcimaaaC22n
import Derived.Test.YtnkablomkcimaaaCReq
namespace Go.Proofs.Ytnkablomkcimaaa
open Go.RowKit
set_option linter.unusedVariables false
set_option maxHeartbeats 1000000 in
theorem nr_law (w : World) (A0 : Option Addr) (c0 : Nat) (xs0 : List Rq) (r0 : Rd encRq 6 w w.heap.size A0 xs0) (wf0 : ∀ x ∈ xs0, x.s.size ≤ maxLen) (m0 : xs0.length ≤ maxLen) (tm : Int) (w_tm : (Lit.int .i64 tm).wf = true) :
    Calls Try.prog 10 #[.slice A0 xs0.length c0, .int .i64 tm] w fun e w' => e = .returned (.bool true) ∧ Below w.heap.size w w' := by
  unfold maxLen at m0
  have l0 : xs0.length ≤ totRequest xs0 := Nat.le_add_right _ _
  rcases Nat.lt_or_ge 1048576 (totRequest xs0) with n0 | n0
  · go_enter Try.func10, Try.ntmps10
    have tt : Below w.heap.size w w := (by repeat (first | assumption | exact Below.refl _ _ | apply Below.al | apply Below.drewN' | apply Below.drew | (apply Below.tr; assumption)))
    go_wp2_with fail
    refine (szRequestS_big A0 c0 xs0 _ _ ((r0.below tt (Nat.le_refl _)).more tt.size) wf0 (by unfold maxLen; omega) (by omega) (by omega) (by omega)).mono ?_
    rintro e wz ⟨rfl, bz⟩
    go_wp2_with fail
    go_ret
    exact ⟨rfl, (by repeat (first | assumption | exact Below.refl _ _ | apply Below.al | apply Below.drewN' | apply Below.drew | (apply Below.tr; assumption)))⟩
  go_enter Try.func10, Try.ntmps10
  have tt : Below w.heap.size w w := (by repeat (first | assumption | exact Below.refl _ _ | apply Below.al | apply Below.drewN' | apply Below.drew | (apply Below.tr; assumption)))
  have z0 : w.heap.size ≤ (World.heap w).size := tt.size
  go_wp2_with fail
  refine (szRequestS_ok A0 c0 xs0 _ _ ((r0.below tt (Nat.le_refl _)).more tt.size) (by omega) (by omega)).mono ?_
  rintro e w1 ⟨rfl, b1⟩
  have z1 := b1.size
  have tt := Below.tr b1 tt
  go_wp2_with fail
  refine (toRequestS_any A0 c0 xs0 _ ((r0.below tt (Nat.le_refl _)).more tt.size) (by omega)).mono ?_
  rintro e w2 ⟨B1, d1, rfl, o1, b2⟩
  have z2 := b2.size
  have tt := Below.tr b2 tt
  have p1 := o1
  go_wp2_with fail
  refine (specNextRequest_any B1 d1 xs0 tm _ (rd_of_own (enc := encRq) (k := 6) (fun _ => rfl) p1) (by omega) wf0).mono ?_
  rintro e w3 ⟨rfl, b3⟩
  have z3 := b3.size
  have p1 := own_below p1 b3 (Nat.le_refl _)
  have tt := Below.tr b3 tt
  go_wp2_with fail
  refine (toRequestS_any A0 c0 xs0 _ ((r0.below tt (Nat.le_refl _)).more tt.size) (by omega)).mono ?_
  rintro e w4 ⟨B2, d2, rfl, o2, b4⟩
  have z4 := b4.size
  have p1 := own_below p1 b4 (Nat.le_refl _)
  have tt := Below.tr b4 tt
  have p2 := o2
  go_wp2_with fail
  refine (implNextRequest_any B2 d2 xs0 tm _ (rd_of_own (enc := encRq) (k := 6) (fun _ => rfl) p2) (by omega) wf0).mono ?_
  rintro e w5 ⟨rfl, b5⟩
  have z5 := b5.size
  have p1 := own_below p1 b5 (Nat.le_refl _)
  have p2 := own_below p2 b5 (Nat.le_refl _)
  have tt := Below.tr b5 tt
  go_wp2_with fail
  refine (toRequestS_any A0 c0 xs0 _ ((r0.below tt (Nat.le_refl _)).more tt.size) (by omega)).mono ?_
  rintro e w6 ⟨B3, d3, rfl, o3, b6⟩
  have z6 := b6.size
  have p1 := own_below p1 b6 (Nat.le_refl _)
  have p2 := own_below p2 b6 (Nat.le_refl _)
  have tt := Below.tr b6 tt
  have p3 := o3
  go_wp2_with fail
  refine (eqRequestS_same B2 B3 d2 d3 xs0 _ (rd_of_own (enc := encRq) (k := 6) (fun _ => rfl) p2) (rd_of_own (enc := encRq) (k := 6) (fun _ => rfl) p3) (by omega)).mono ?_
  rintro e w7 ⟨rfl, b7⟩
  have z7 := b7.size
  have p1 := own_below p1 b7 (Nat.le_refl _)
  have p2 := own_below p2 b7 (Nat.le_refl _)
  have p3 := own_below p3 b7 (Nat.le_refl _)
  have tt := Below.tr b7 tt
  go_wp2_with fail
  go_ret
  exact ⟨rfl, tt⟩
namespace fnExactNextRequest
open Go.ChangeShapes Go.WideShapes Go.ChangeAt Go.RowKit Go.Deep Go.Joins
set_option linter.unusedVariables false
theorem own : ownKnob Try.prog.godebug = none := by kernel_rfl
theorem laidOut : laidOutB Try.prog = true := by kernel_rfl
set_option maxRecDepth 100000 in
theorem lifted (os : Os) (started : os.Started) (H : Type) (enc : TypeId × Value → H) :
    ReturnsInHanded {} Try.checked os 10 .any (Rows.fnExactNextRequestSpec.pre6 enc Try.prog Try.f10 Rows.fnExactNextRequestRow.domain false) (Rows.fnExactNextRequestSpec.post enc Try.prog Try.f10 false true false false) := by
  refine returnsInHanded_of_change (C := Try.checked) own started (by kernel_rfl) Try.func10
    (ChangeSpec.witness6 (enc := enc) (C := Try.checked) false ⟨#[], #[.slice none 0 0, .int .i64 0], []⟩ 8 (by kernel_rfl) (by kernel_rfl) (by kernel_rfl) (by kernel_rfl)) ?_
  intro W base args ds gs before hval0 hW hcnd _
  have hval : ∀ (j : Nat) t v, Try.f10.params[j]? = some t → args[j]? = some v → Value.okWide Try.prog W .any base t v := hval0
  have hW' := hW
  obtain ⟨p, q, hA0, hV, rfl, hfz, hnd⟩ := hW
  have hA : DataW.TrodAll enc Try.prog W 0 (fun _ => true) true Try.f10.params.toList args.toList ds p := hA0
  rw [Try.params10] at hA hval
  obtain ⟨v0, vs0, d0, ds0, p0, q0, hargs, rfl, rfl, h0, r0⟩ := trodAll_cons hA
  obtain ⟨v1, vs1, d1, ds1, p1, q1, rfl, rfl, rfl, h1, r1⟩ := trodAll_cons r0
  obtain ⟨rfl, rfl, rfl⟩ := trodAll_nil r1
  obtain rfl : args = #[v0, v1] := by cases args; simp_all
  obtain ⟨rfl, rfl⟩ := trodVars_none hV
  have k0 := h0
  have lt0 : ∀ x ∈ p0, x.block < W.heap.size := by obtain ⟨m, hm⟩ := k0; exact DataW.trod_lt m _ _ _ hm
  have k1 := h1
  have lt1 : ∀ x ∈ p1, x.block < W.heap.size := by obtain ⟨m, hm⟩ := k1; exact DataW.trod_lt m _ _ _ hm
  obtain ⟨A0, len0, cap0, rfl⟩ := okWide_slice Try.underlying76 (hval 0 76 v0 rfl rfl)
  obtain ⟨xs0, rfl, rd0, wf0, ml0⟩ : ∃ xs : List _, xs.length = len0 ∧ Rd encRq 6 W W.heap.size A0 xs ∧ (∀ x ∈ xs, x.s.size ≤ maxLen) ∧ len0 ≤ maxLen := by
    obtain ⟨fuel, hf⟩ := h0
    exact rd_open (encA := encRq) (wf := fun x => x.s.size ≤ maxLen) (k := 6) (by decide) (fun _ => rfl) Try.underlying76 (by kernel_rfl) (fun n cs y h => dec_rq Try.underlying89 (by kernel_rfl) (by kernel_rfl) Try.underlying9 Try.underlying2 Try.underlying2 Try.underlying2 Try.underlying2 Try.underlying2 n cs y h) (by simpa [Value.cells] using hf)
  obtain ⟨a1, rfl, rfl, rfl, w1⟩ := open_int Try.underlying2 (hval 1 2 v1 rfl rfl) h1
  clear hA0 hval0
  refine (nr_law W A0 cap0 xs0 rd0 wf0 ml0 a1 w1).mono fun e W' ⟨he, bel⟩ => ?_
  subst he
  exact ⟨_, rfl, _, _, _, [], _, [], hW', trodAll_mk1 (shut_bool Try.underlying4 _), (trodAll_cons_mk (Below.trod laidOut (by kernel_rfl) (of_decide_eq_true (by kernel_rfl)) k0 bel lt0) (trodAll_cons_mk (Below.trod laidOut (by kernel_rfl) (of_decide_eq_true (by kernel_rfl)) k1 bel lt1) trodAll_mk0)), rfl, bel.frame _, fun h => by cases h⟩

theorem proved : Rows.FnExactNextRequestSaid :=
  OpenClaim.holds_of_wide 10 Try.f10 rfl rfl rfl rfl rfl rfl rfl ⟨rfl, rfl, rfl, rfl, rfl⟩ rfl rfl rfl rfl rfl (by kernel_rfl) Try.func10 (by kernel_rfl)
    (of_decide_eq_true (by kernel_rfl)) (by unfold Func.isWrapper; first | (rw [if_pos (by decide +kernel)]; kernel_rfl) | (rw [if_neg (by decide +kernel)]; exact ⟨rfl, rfl⟩))
    (fun os started H enc _ => lifted os started H enc)
#print axioms proved
end fnExactNextRequest
end Go.Proofs.Ytnkablomkcimaaa

