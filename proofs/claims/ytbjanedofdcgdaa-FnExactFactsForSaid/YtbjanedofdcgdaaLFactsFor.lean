/- The program and the reference find the same facts for a rule, for every list of rules and every index. No condition. -/
import Derived.Test.YtbjanedofdcgdaaRows
import Derived.Test.YtbjanedofdcgdaaOpen
import Derived.Test.YtbjanedofdcgdaaC18t
import Derived.Test.YtbjanedofdcgdaaCRule
import Derived.Test.YtbjanedofdcgdaaCRuD
namespace Go.Proofs.Ytbjanedofdcgdaa
open Go.RowKit
set_option linter.unusedVariables false
set_option maxHeartbeats 1000000 in
theorem ff_law (w : World) (A0 : Option Addr) (c0 : Nat) (xs0 : List Ru) (r0 : Rd encRu 6 w w.heap.size A0 xs0) (wf0 : ∀ x ∈ xs0, x.s.size ≤ maxLen) (m0 : xs0.length ≤ maxLen) (aK : Int) (w_aK : (Lit.int .i64 aK).wf = true) :
    Calls Try.prog 4 #[.slice A0 xs0.length c0, .int .i64 aK] w fun e w' => e = .returned (.bool true) ∧ Below w.heap.size w w' := by
  unfold maxLen at m0
  have l0 : xs0.length ≤ totRule xs0 := Nat.le_add_right _ _
  rcases Nat.lt_or_ge 1048576 (totRule xs0) with n0 | n0
  · go_enter Try.func4, Try.ntmps4
    have tt : Below w.heap.size w w := (by repeat (first | assumption | exact Below.refl _ _ | apply Below.al | apply Below.drewN' | apply Below.drew | (apply Below.tr; assumption)))
    go_wp2_with fail
    refine (szRuleS_big A0 c0 xs0 _ _ ((r0.below tt (Nat.le_refl _)).more tt.size) wf0 (by unfold maxLen; omega) (by omega) (by omega) (by omega)).mono ?_
    rintro e wz ⟨rfl, bz⟩
    go_wp2_with fail
    go_ret
    exact ⟨rfl, (by repeat (first | assumption | exact Below.refl _ _ | apply Below.al | apply Below.drewN' | apply Below.drew | (apply Below.tr; assumption)))⟩
  go_enter Try.func4, Try.ntmps4
  have tt : Below w.heap.size w w := (by repeat (first | assumption | exact Below.refl _ _ | apply Below.al | apply Below.drewN' | apply Below.drew | (apply Below.tr; assumption)))
  have z0 : w.heap.size ≤ (World.heap w).size := tt.size
  go_wp2_with fail
  refine (szRuleS_ok A0 c0 xs0 _ _ ((r0.below tt (Nat.le_refl _)).more tt.size) (by omega) (by omega)).mono ?_
  rintro e w1 ⟨rfl, b1⟩
  have cc : Below (World.heap w).size w w1 := (by repeat (first | assumption | exact Below.refl _ _ | apply Below.al | apply Below.drewN' | apply Below.drew | (apply Below.tr; assumption)))
  have tt := Below.tr cc tt
  have z1 := cc.size
  clear cc
  go_wp2_with fail
  refine (toRuleS_any A0 c0 xs0 _ ((r0.below (B' := w.heap.size) (by repeat (first | assumption | exact Below.refl _ _ | apply Below.al | apply Below.drewN' | apply Below.drew | (apply Below.tr; assumption))) (Nat.le_refl _)).more (by first | omega | (simp; omega))) (by omega)).mono ?_
  rintro e w2 ⟨B1, d1, rfl, o1, b2⟩
  have cc : Below (World.heap w1).size w1 w2 := (by repeat (first | assumption | exact Below.refl _ _ | apply Below.al | apply Below.drewN' | apply Below.drew | (apply Below.tr; assumption)))
  have tt := Below.tr cc tt
  have z2 := cc.size
  clear cc
  have p1 := o1
  go_wp2_with fail
  refine (specFactsFor_any B1 d1 xs0 aK _ (rd_of_own (enc := encRu) (k := 6) (fun _ => rfl) p1) (by omega) wf0).mono ?_
  rintro e w3 ⟨rfl, b3⟩
  have cc : Below (World.heap w2).size w2 w3 := (by repeat (first | assumption | exact Below.refl _ _ | apply Below.al | apply Below.drewN' | apply Below.drew | (apply Below.tr; assumption)))
  have p1 := own_below p1 cc (Nat.le_refl _)
  have tt := Below.tr cc tt
  have z3 := cc.size
  clear cc
  have hB0 := hid (show (w3.alloc (.cells #[.int .i64 ((fdF (ffO xs0 aK)).a), .int .i64 ((fdF (ffO xs0 aK)).p), .int .i64 ((fdF (ffO xs0 aK)).s)] 25)).cell? ⟨w3.heap.size, 0, none⟩ = some (.int .i64 ((fdF (ffO xs0 aK)).a)) by simp [go_sem])
  have hB1 := hid (show (w3.alloc (.cells #[.int .i64 ((fdF (ffO xs0 aK)).a), .int .i64 ((fdF (ffO xs0 aK)).p), .int .i64 ((fdF (ffO xs0 aK)).s)] 25)).cell? ⟨w3.heap.size, 1, none⟩ = some (.int .i64 ((fdF (ffO xs0 aK)).p)) by simp [go_sem])
  have hB2 := hid (show (w3.alloc (.cells #[.int .i64 ((fdF (ffO xs0 aK)).a), .int .i64 ((fdF (ffO xs0 aK)).p), .int .i64 ((fdF (ffO xs0 aK)).s)] 25)).cell? ⟨w3.heap.size, 2, none⟩ = some (.int .i64 ((fdF (ffO xs0 aK)).s)) by simp [go_sem])
  go_wp2_with fail
  refine (toRuleS_any A0 c0 xs0 _ ((r0.below (B' := w.heap.size) (by repeat (first | assumption | exact Below.refl _ _ | apply Below.al | apply Below.drewN' | apply Below.drew | (apply Below.tr; assumption))) (Nat.le_refl _)).more (by first | omega | (simp; omega))) (by omega)).mono ?_
  rintro e w4 ⟨B2, d2, rfl, o2, b4⟩
  have cc : Below (World.heap w3).size w3 w4 := (by repeat (first | assumption | exact Below.refl _ _ | apply Below.al | apply Below.drewN' | apply Below.drew | (apply Below.tr; assumption)))
  have p1 := own_below p1 cc (Nat.le_refl _)
  have tt := Below.tr cc tt
  have z4 := cc.size
  clear cc
  have bb : Below (World.heap (w3.alloc (.cells #[.int .i64 ((fdF (ffO xs0 aK)).a), .int .i64 ((fdF (ffO xs0 aK)).p), .int .i64 ((fdF (ffO xs0 aK)).s)] 25))).size (w3.alloc (.cells #[.int .i64 ((fdF (ffO xs0 aK)).a), .int .i64 ((fdF (ffO xs0 aK)).p), .int .i64 ((fdF (ffO xs0 aK)).s)] 25)) w4 := b4
  have p2 := o2
  go_wp2_with fail
  refine (implFactsFor_any B2 d2 xs0 aK _ (rd_of_own (enc := encRu) (k := 6) (fun _ => rfl) p2) (by omega) wf0).mono ?_
  rintro e w5 ⟨rfl, b5⟩
  have cc : Below (World.heap w4).size w4 w5 := (by repeat (first | assumption | exact Below.refl _ _ | apply Below.al | apply Below.drewN' | apply Below.drew | (apply Below.tr; assumption)))
  have p1 := own_below p1 cc (Nat.le_refl _)
  have p2 := own_below p2 cc (Nat.le_refl _)
  have tt := Below.tr cc tt
  have z5 := cc.size
  clear cc
  have bb := Below.tr b5 bb
  have ylt : w3.heap.size < w5.heap.size := (by have := bb.size; simp at this; omega)
  have y0 : w5.cell? ⟨w3.heap.size, 0, none⟩ = some (.int .i64 ((fdF (ffO xs0 aK)).a)) := ((bcell bb).1 (w3.heap.size) 0 (by simp)).trans hB0.out
  have y1 : w5.cell? ⟨w3.heap.size, 1, none⟩ = some (.int .i64 ((fdF (ffO xs0 aK)).p)) := ((bcell bb).1 (w3.heap.size) 1 (by simp)).trans hB1.out
  have y2 : w5.cell? ⟨w3.heap.size, 2, none⟩ = some (.int .i64 ((fdF (ffO xs0 aK)).s)) := ((bcell bb).1 (w3.heap.size) 2 (by simp)).trans hB2.out
  clear bb
  go_wp2_with fail
  refine (eqFacts_same _ _ _ _).mono ?_
  rintro e w6 ⟨rfl, b6⟩
  have cc : Below (World.heap w5).size w5 w6 := (by repeat (first | assumption | exact Below.refl _ _ | apply Below.al | apply Below.drewN' | apply Below.drew | (apply Below.tr; assumption)))
  have p1 := own_below p1 cc (Nat.le_refl _)
  have p2 := own_below p2 cc (Nat.le_refl _)
  have tt := Below.tr cc tt
  have z6 := cc.size
  clear cc
  go_wp2_with fail
  refine (toRuleS_any A0 c0 xs0 _ ((r0.below (B' := w.heap.size) (by repeat (first | assumption | exact Below.refl _ _ | apply Below.al | apply Below.drewN' | apply Below.drew | (apply Below.tr; assumption))) (Nat.le_refl _)).more (by first | omega | (simp; omega))) (by omega)).mono ?_
  rintro e w7 ⟨B3, d3, rfl, o3, b7⟩
  have cc : Below (World.heap w6).size w6 w7 := (by repeat (first | assumption | exact Below.refl _ _ | apply Below.al | apply Below.drewN' | apply Below.drew | (apply Below.tr; assumption)))
  have p1 := own_below p1 cc (Nat.le_refl _)
  have p2 := own_below p2 cc (Nat.le_refl _)
  have tt := Below.tr cc tt
  have z7 := cc.size
  clear cc
  have p3 := o3
  go_wp2_with fail
  refine (eqRuleS_same B2 B3 d2 d3 xs0 _ (rd_of_own (enc := encRu) (k := 6) (fun _ => rfl) p2) (rd_of_own (enc := encRu) (k := 6) (fun _ => rfl) p3) (by omega)).mono ?_
  rintro e w8 ⟨rfl, b8⟩
  have cc : Below (World.heap w7).size w7 w8 := (by repeat (first | assumption | exact Below.refl _ _ | apply Below.al | apply Below.drewN' | apply Below.drew | (apply Below.tr; assumption)))
  have p1 := own_below p1 cc (Nat.le_refl _)
  have p2 := own_below p2 cc (Nat.le_refl _)
  have p3 := own_below p3 cc (Nat.le_refl _)
  have tt := Below.tr cc tt
  have z8 := cc.size
  clear cc
  go_wp2_with fail
  go_ret
  exact ⟨rfl, tt⟩
namespace fnExactFactsFor
open Go.ChangeShapes Go.WideShapes Go.ChangeAt Go.RowKit Go.Deep Go.Joins
set_option linter.unusedVariables false
theorem own : ownKnob Try.prog.godebug = none := by kernel_rfl
theorem laidOut : laidOutB Try.prog = true := by kernel_rfl
set_option maxRecDepth 100000 in
theorem lifted (os : Os) (started : os.Started) (H : Type) (enc : TypeId × Value → H) :
    ReturnsInHanded {} Try.checked os 4 .any (Rows.fnExactFactsForSpec.pre6 enc Try.prog Try.f4 Rows.fnExactFactsForRow.domain false) (Rows.fnExactFactsForSpec.post enc Try.prog Try.f4 false true false false) := by
  refine returnsInHanded_of_change (C := Try.checked) own started (by kernel_rfl) Try.func4
    (ChangeSpec.witness6 (enc := enc) (C := Try.checked) false ⟨#[], #[.slice none 0 0, .int .i64 0], []⟩ 8 (by kernel_rfl) (by kernel_rfl) (by kernel_rfl) (by kernel_rfl)) ?_
  intro W base args ds gs before hval0 hW hcnd _
  have hval : ∀ (j : Nat) t v, Try.f4.params[j]? = some t → args[j]? = some v → Value.okWide Try.prog W .any base t v := hval0
  have hW' := hW
  obtain ⟨p, q, hA0, hV, rfl, hfz, hnd⟩ := hW
  have hA : DataW.TrodAll enc Try.prog W 0 (fun _ => true) true Try.f4.params.toList args.toList ds p := hA0
  rw [Try.params4] at hA hval
  obtain ⟨v0, vs0, d0, ds0, p0, q0, hargs, rfl, rfl, h0, r0⟩ := trodAll_cons hA
  obtain ⟨v1, vs1, d1, ds1, p1, q1, rfl, rfl, rfl, h1, r1⟩ := trodAll_cons r0
  obtain ⟨rfl, rfl, rfl⟩ := trodAll_nil r1
  obtain rfl : args = #[v0, v1] := by cases args; simp_all
  obtain ⟨rfl, rfl⟩ := trodVars_none hV
  have k0 := h0
  have lt0 : ∀ x ∈ p0, x.block < W.heap.size := by obtain ⟨m, hm⟩ := k0; exact DataW.trod_lt m _ _ _ hm
  have k1 := h1
  have lt1 : ∀ x ∈ p1, x.block < W.heap.size := by obtain ⟨m, hm⟩ := k1; exact DataW.trod_lt m _ _ _ hm
  obtain ⟨A0, len0, cap0, rfl⟩ := okWide_slice Try.underlying22 (hval 0 22 v0 rfl rfl)
  obtain ⟨xs0, rfl, rd0, wf0, ml0⟩ : ∃ xs : List _, xs.length = len0 ∧ Rd encRu 6 W W.heap.size A0 xs ∧ (∀ x ∈ xs, x.s.size ≤ maxLen) ∧ len0 ≤ maxLen := by
    obtain ⟨fuel, hf⟩ := h0
    exact rd_open (encA := encRu) (wf := fun x => x.s.size ≤ maxLen) (k := 6) (by decide) (fun _ => rfl) Try.underlying22 (by kernel_rfl) (fun n cs y h => dec_ru Try.underlying43 (by kernel_rfl) (by kernel_rfl) Try.underlying9 Try.underlying2 Try.underlying2 Try.underlying2 Try.underlying2 Try.underlying2 n cs y h) (by simpa [Value.cells] using hf)
  obtain ⟨a1, rfl, rfl, rfl, w1⟩ := open_int Try.underlying2 (hval 1 2 v1 rfl rfl) h1
  clear hA0 hval0
  refine (ff_law W A0 cap0 xs0 rd0 wf0 ml0 a1 w1).mono fun e W' ⟨he, bel⟩ => ?_
  subst he
  exact ⟨_, rfl, _, _, _, [], _, [], hW', trodAll_mk1 (shut_bool Try.underlying4 _), (trodAll_cons_mk (Below.trod laidOut (by kernel_rfl) (of_decide_eq_true (by kernel_rfl)) k0 bel lt0) (trodAll_cons_mk (Below.trod laidOut (by kernel_rfl) (of_decide_eq_true (by kernel_rfl)) k1 bel lt1) trodAll_mk0)), rfl, bel.frame _, fun h => by cases h⟩

theorem proved : Rows.FnExactFactsForSaid :=
  OpenClaim.holds_of_wide 4 Try.f4 rfl rfl rfl rfl rfl rfl rfl ⟨rfl, rfl, rfl, rfl, rfl⟩ rfl rfl rfl rfl rfl (by kernel_rfl) Try.func4 (by kernel_rfl)
    (of_decide_eq_true (by kernel_rfl)) (by unfold Func.isWrapper; first | (rw [if_pos (by decide +kernel)]; kernel_rfl) | (rw [if_neg (by decide +kernel)]; exact ⟨rfl, rfl⟩))
    (fun os started H enc _ => lifted os started H enc)
#print axioms proved
end fnExactFactsFor
end Go.Proofs.Ytbjanedofdcgdaa

