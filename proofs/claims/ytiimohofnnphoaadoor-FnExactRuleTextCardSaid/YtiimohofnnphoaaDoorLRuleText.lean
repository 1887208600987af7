/- The program and the reference return the same text of a rule, for all rules. -/
import Derived.Test.YtiimohofnnphoaaDoorRows
import Derived.Test.YtiimohofnnphoaaDoorCards
import Derived.Test.YtiimohofnnphoaaDoorTie
import Derived.Test.YtiimohofnnphoaaDoorOpen
import Derived.ProofKit
import Derived.LaidMore
import Derived.Stop.Joined
import Derived.Stop.LaidErr
import Derived.MakeChecks
import Derived.SevenTiedAt
import Derived.Test.YtiimohofnnphoaaDoorCRlT
import Derived.Test.YtiimohofnnphoaaDoorCAg6
namespace Go.Proofs.YtiimohofnnphoaaDoor
open Go.RowKit
set_option linter.unusedVariables false
theorem szRule_ok (s : ByteArray) (fa ta fp tp sh : Int) (left : Int) (w : World) (h : s.size ≤ left) (h1 : left ≤ 1048576) :
    Calls Tryd.prog 12 #[.agg #[.string s, .int .i64 fa, .int .i64 ta, .int .i64 fp, .int .i64 tp, .int .i64 sh], .int .i64 left] w fun e w' => e = .returned (.int .i64 (left - s.size)) ∧ Below w.heap.size w w' := by
  go_enter Tryd.func12, Tryd.ntmps12
  go_wp2
  go_ret
  exact ⟨rfl, (by repeat (first | assumption | exact Below.refl _ _ | apply Below.al | apply Below.drewN' | apply Below.drew | (refine Below.sc ?_ (by first | omega | (simp; done) | (simp; omega)) _) | (apply Below.tr; assumption)))⟩
theorem szRule_big (s : ByteArray) (fa ta fp tp sh : Int) (left : Int) (w : World) (hm : s.size ≤ maxLen) (h : left < s.size) (h0 : 0 ≤ left) (h1 : left ≤ 1048576) :
    Calls Tryd.prog 12 #[.agg #[.string s, .int .i64 fa, .int .i64 ta, .int .i64 fp, .int .i64 tp, .int .i64 sh], .int .i64 left] w fun e w' => e = .returned (.int .i64 (-1)) ∧ Below w.heap.size w w' := by
  unfold maxLen at hm
  go_enter Tryd.func12, Tryd.ntmps12
  go_wp2
  go_ret
  exact ⟨rfl, (by repeat (first | assumption | exact Below.refl _ _ | apply Below.al | apply Below.drewN' | apply Below.drew | (refine Below.sc ?_ (by first | omega | (simp; done) | (simp; omega)) _) | (apply Below.tr; assumption)))⟩
set_option maxHeartbeats 1000000 in
theorem rt_law (w : World) (ht : TabOk w) (s : ByteArray) (ws : s.size ≤ maxLen) (fa : Int) (wfa : (Lit.int .i64 fa).wf = true) (ta : Int) (wta : (Lit.int .i64 ta).wf = true) (fp : Int) (wfp : (Lit.int .i64 fp).wf = true) (tp : Int) (wtp : (Lit.int .i64 tp).wf = true) (sh : Int) (wsh : (Lit.int .i64 sh).wf = true) :
    Calls Tryd.prog 5 #[.agg #[.string s, .int .i64 fa, .int .i64 ta, .int .i64 fp, .int .i64 tp, .int .i64 sh]] w fun e w' => e = .returned (.bool true) ∧ Below w.heap.size w w' := by
  have uu : Below w.heap.size w (w.alloc (.cells #[.string s, .int .i64 fa, .int .i64 ta, .int .i64 fp, .int .i64 tp, .int .i64 sh] 35)) := (by repeat (first | assumption | exact Below.refl _ _ | apply Below.al | apply Below.drewN' | apply Below.drew | (apply Below.tr; assumption)))
  have q0 : (w.alloc (.cells #[.string s, .int .i64 fa, .int .i64 ta, .int .i64 fp, .int .i64 tp, .int .i64 sh] 35)).cell? ⟨w.heap.size, 0, none⟩ = some (.string s) := by simp [go_sem]
  have q1 : (w.alloc (.cells #[.string s, .int .i64 fa, .int .i64 ta, .int .i64 fp, .int .i64 tp, .int .i64 sh] 35)).cell? ⟨w.heap.size, 1, none⟩ = some (.int .i64 fa) := by simp [go_sem]
  have q2 : (w.alloc (.cells #[.string s, .int .i64 fa, .int .i64 ta, .int .i64 fp, .int .i64 tp, .int .i64 sh] 35)).cell? ⟨w.heap.size, 2, none⟩ = some (.int .i64 ta) := by simp [go_sem]
  have q3 : (w.alloc (.cells #[.string s, .int .i64 fa, .int .i64 ta, .int .i64 fp, .int .i64 tp, .int .i64 sh] 35)).cell? ⟨w.heap.size, 3, none⟩ = some (.int .i64 fp) := by simp [go_sem]
  have q4 : (w.alloc (.cells #[.string s, .int .i64 fa, .int .i64 ta, .int .i64 fp, .int .i64 tp, .int .i64 sh] 35)).cell? ⟨w.heap.size, 4, none⟩ = some (.int .i64 tp) := by simp [go_sem]
  have q5 : (w.alloc (.cells #[.string s, .int .i64 fa, .int .i64 ta, .int .i64 fp, .int .i64 tp, .int .i64 sh] 35)).cell? ⟨w.heap.size, 5, none⟩ = some (.int .i64 sh) := by simp [go_sem]
  by_cases hs : s.size ≤ 1048576
  · go_enter Tryd.func5, Tryd.ntmps5
    go_wp2_with fail
    refine (szRule_ok s fa ta fp tp sh _ _ (by omega) (by omega)).mono ?_
    rintro e w0 ⟨rfl, b0⟩
    have z0 := b0.size
    simp at z0
    have q0 := ((bcell b0).1 w.heap.size 0 (by simp)).trans q0
    have q1 := ((bcell b0).1 w.heap.size 1 (by simp)).trans q1
    have q2 := ((bcell b0).1 w.heap.size 2 (by simp)).trans q2
    have q3 := ((bcell b0).1 w.heap.size 3 (by simp)).trans q3
    have q4 := ((bcell b0).1 w.heap.size 4 (by simp)).trans q4
    have q5 := ((bcell b0).1 w.heap.size 5 (by simp)).trans q5
    have t0 := Below.tr b0 uu
    have zw : w.heap.size < w0.heap.size := by omega
    clear uu b0
    go_wp2_with fail
    refine (toRule_any s fa ta fp tp sh _).mono ?_
    rintro e w1 ⟨rfl, b1⟩
    go_wp2_with fail
    refine (specRuleText_any s fa ta fp tp sh _ ws).mono ?_
    rintro e w2 ⟨rfl, b2⟩
    have b12 := Below.tr b2 b1
    have z12 := b12.size
    have p0 := ((bcell b12).1 w.heap.size 0 zw).trans q0
    have p1 := ((bcell b12).1 w.heap.size 1 zw).trans q1
    have p2 := ((bcell b12).1 w.heap.size 2 zw).trans q2
    have p3 := ((bcell b12).1 w.heap.size 3 zw).trans q3
    have p4 := ((bcell b12).1 w.heap.size 4 zw).trans q4
    have p5 := ((bcell b12).1 w.heap.size 5 zw).trans q5
    have t2 := Below.tr b12 t0
    have I := fun W (hW : TabOk W) => implRuleText_any s fa ta fp tp sh W hW ws
    clear q0 q1 q2 q3 q4 q5
    generalize rlT ⟨s, fa, ta, fp, tp, sh⟩ = x at *
    go_wp2_with fail
    refine (toRule_any s fa ta fp tp sh _).mono ?_
    rintro e w3 ⟨rfl, b3⟩
    have t3 := Below.tr b3 t2
    go_wp2_with fail
    refine (I _ (tab_below ht t3)).mono ?_
    rintro e w4 ⟨rfl, b4⟩
    have t4 := Below.tr b4 t3
    go_wp2_with fail
    go_ret
    exact ⟨rfl, t4⟩
  · go_enter Tryd.func5, Tryd.ntmps5
    go_wp2_with fail
    refine (szRule_big s fa ta fp tp sh _ _ ws (by omega) (by omega) (by omega)).mono ?_
    rintro e w0 ⟨rfl, b0⟩
    go_wp2_with fail
    go_ret
    exact ⟨rfl, Below.tr b0 uu⟩

namespace fnExactRuleText
open Go.ChangeShapes Go.WideShapes Go.ChangeAt Go.RowKit Go.Deep Go.Joins
set_option linter.unusedVariables false
theorem own : ownKnob Tryd.prog.godebug = none := by kernel_rfl
theorem laidOut : laidOutB Tryd.prog = true := by kernel_rfl
def laidL : List (String × DataW Unit) := [("math/bits.deBruijn32tab", Rows.laid_math_bits_deBruijn32tab), ("math/bits.deBruijn64tab", Rows.laid_math_bits_deBruijn64tab), ("internal/strconv.uint64pow10", Rows.laid_internal_strconv_uint64pow10)]
theorem door_met (os : Os) (args : Array Value) : laidMetH Tryd.prog laidL ((World.doorLaid Tryd.prog 24 os).forCall (fun _ _ => 0) ⟨#[], args, []⟩).memory :=
  laidMetH_of_parts3 (fuel := 8) (laidMet_of_run' 8 (by kernel_rfl) (by kernel_rfl)) (by kernel_rfl) (by kernel_rfl)
theorem tab_of {W : World} (h : laidMetH Tryd.prog laidL W) : TabOk W := by
  rw [MakeChecks.laidMetH_plain _ _ _ (by kernel_rfl)] at h
  have h2 := laidMet.tail (laidMet.tail (h))
  exact Lib.tabIs_of_head (k := .u64) (zs := Lib.pow10Tab) (g := 0) (t := 83) (e := 73) (n := 20) (by kernel_rfl) (by kernel_rfl) Tryd.underlying83 Tryd.underlying73 (by kernel_rfl) (by kernel_rfl) h2
set_option maxRecDepth 100000 in
theorem lifted (os : Os) (started : os.Started) (H : Type) (enc : TypeId × Value → H) :
    ReturnsInHanded {} Tryd.checked os 5 .any (fun w args => (Rows.fnExactRuleTextSpec.pre enc Tryd.prog Tryd.f5 [] false w args ∧ laidMetH Tryd.prog laidL w) ∧ sizedMet enc Tryd.prog Tryd.f5 (OpenSpec.ofChange Rows.fnExactRuleTextSpec) false w args)
      (Rows.fnExactRuleTextSpec.post enc Tryd.prog Tryd.f5 false true false false) := by
  refine returnsInHanded_of_change_and (C := Tryd.checked) (X := fun w _ => laidMetH Tryd.prog laidL w) (fun _ _ _ hh h => h.of_heap hh) own started (by kernel_rfl) Tryd.func5
    (ChangeSpec.witness_shaped (enc := enc) (C := Tryd.checked) (os := os) (X := fun w _ => laidMetH Tryd.prog laidL w) false (World.doorLaid Tryd.prog 24 os) #[.agg #[.string ByteArray.empty, .int .i64 0, .int .i64 0, .int .i64 0, .int .i64 0, .int .i64 0]] 8 rfl (World.shaped_of_RefB (by kernel_rfl) (by kernel_rfl)) (by kernel_rfl) (by kernel_rfl) (by kernel_rfl) (door_met os _)) ?_
  intro W base args ds gs before hval0 hW _ _ hL _
  have hval : ∀ (j : Nat) t v, Tryd.f5.params[j]? = some t → args[j]? = some v → Value.okWide Tryd.prog W .any base t v := hval0
  have hW' := hW
  obtain ⟨p, q, hA0, hV, rfl, hfz, hnd⟩ := hW
  have hA : DataW.TrodAll enc Tryd.prog W 0 (fun _ => true) true Tryd.f5.params.toList args.toList ds p := hA0
  rw [Tryd.params5] at hA hval
  obtain ⟨v0, vs0, d0, ds0, p0, q0, hargs, rfl, rfl, h0, r0⟩ := trodAll_cons hA
  obtain ⟨rfl, rfl, rfl⟩ := trodAll_nil r0
  obtain rfl : args = #[v0] := by cases args; simp_all
  obtain ⟨rfl, rfl⟩ := trodVars_none hV
  have k0 := h0
  have lt0 : ∀ x ∈ p0, x.block < W.heap.size := by obtain ⟨m, hm⟩ := k0; exact DataW.trod_lt m _ _ _ hm
  obtain ⟨c0_0, c0_1, c0_2, c0_3, c0_4, c0_5, y0_0, y0_1, y0_2, y0_3, y0_4, y0_5, m0, rfl, _, _, z0_0, z0_1, z0_2, z0_3, z0_4, z0_5⟩ := open_agg6 Tryd.underlying35 (by kernel_rfl) (by kernel_rfl) (hval 0 35 v0 rfl rfl) h0
  obtain ⟨a0_0, e0_0, _, w0_0⟩ := DataW.trod_string Tryd.underlying9 z0_0
  simp at e0_0; subst e0_0
  obtain ⟨a0_1, e0_1, _, w0_1⟩ := DataW.trod_int Tryd.underlying2 z0_1
  simp at e0_1; subst e0_1
  obtain ⟨a0_2, e0_2, _, w0_2⟩ := DataW.trod_int Tryd.underlying2 z0_2
  simp at e0_2; subst e0_2
  obtain ⟨a0_3, e0_3, _, w0_3⟩ := DataW.trod_int Tryd.underlying2 z0_3
  simp at e0_3; subst e0_3
  obtain ⟨a0_4, e0_4, _, w0_4⟩ := DataW.trod_int Tryd.underlying2 z0_4
  simp at e0_4; subst e0_4
  obtain ⟨a0_5, e0_5, _, w0_5⟩ := DataW.trod_int Tryd.underlying2 z0_5
  simp at e0_5; subst e0_5
  clear hA0 hval0
  refine (rt_law W (tab_of hL) a0_0 w0_0 a0_1 w0_1 a0_2 w0_2 a0_3 w0_3 a0_4 w0_4 a0_5 w0_5).mono fun e W' ⟨he, bel⟩ => ?_
  subst he
  exact ⟨_, rfl, _, _, _, [], _, [], hW', trodAll_mk1 (shut_bool Tryd.underlying4 _), (trodAll_cons_mk (Below.trod laidOut (by kernel_rfl) (of_decide_eq_true (by kernel_rfl)) k0 bel lt0) trodAll_mk0), rfl, bel.frame _, fun h => by cases h⟩

theorem proved : Rows.FnExactRuleTextSaid :=
  OpenClaim.holds_of_wide 5 Tryd.f5 rfl rfl rfl rfl rfl rfl rfl ⟨rfl, rfl, rfl, rfl, rfl⟩ rfl rfl rfl rfl rfl (by kernel_rfl) Tryd.func5 (by kernel_rfl)
    (of_decide_eq_true (by kernel_rfl)) (by unfold Func.isWrapper; first | (rw [if_pos (by decide +kernel)]; kernel_rfl) | (rw [if_neg (by decide +kernel)]; exact ⟨rfl, rfl⟩))
    (fun os started H enc _ => lifted os started H enc)
theorem card_holds : Rows.FnExactRuleTextCardSaid :=
  Claim7.holds_tied_plain_at .later [] [.data, .data, .data] true (true, "8ace43e6d40354d7d185d73234f01994bb423de7b22c6fc6270a97a4ed290627") false
    proved (fun _ h => by cases h) (by kernel_rfl) (fun _ h => by cases h) fnExactRuleText_row_tie rfl ⟨rfl, rfl⟩ (by kernel_rfl) rfl
    (fun f fn hf hfn => by
      obtain rfl : f = 5 := Option.some.inj ((show Tryd.prog.funcNamed "loop.example/g01026/laws.FnExactRuleText" = some 5 by kernel_rfl).symm.trans hf) |>.symm
      obtain rfl : fn = Tryd.f5 := (Option.some.inj (Tryd.func5.symm.trans hfn)).symm
      exact ⟨by kernel_rfl, fun j t ht => by
        rw [Tryd.params5] at ht
        have hm : t ∈ [35] := by simpa using Array.mem_of_getElem? ht
        have hall : ([35].all fun u => !Tryd.prog.wantsStandIn u) = true := by kernel_rfl
        exact (show Tryd.prog.wantsStandIn t = false by simpa using List.all_eq_true.1 hall t hm)⟩)
    (by kernel_rfl)
#print axioms card_holds
end fnExactRuleText
end Go.Proofs.YtiimohofnnphoaaDoor

