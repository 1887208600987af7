/- The program and the reference name the same rules, in new memory, for every list of rules and all facts. No condition. -/
import Derived.Test.YtmjapoolmadmpaaRows
import Derived.Test.YtmjapoolmadmpaaOpen
import Derived.Test.YtmjapoolmadmpaaC18r
import Derived.Test.YtmjapoolmadmpaaCRule
import Derived.Test.YtmjapoolmadmpaaCRuD
import Derived.Test.YtmjapoolmadmpaaCInt
import Derived.Test.YtmjapoolmadmpaaCRuM
namespace Go.Proofs.Ytmjapoolmadmpaa
open Go.RowKit
set_option linter.unusedVariables false
set_option maxHeartbeats 1000000 in
theorem rf_law (w : World) (A0 : Option Addr) (c0 : Nat) (xs0 : List Ru) (r0 : Rd encRu 6 w w.heap.size A0 xs0) (wf0 : ∀ x ∈ xs0, x.s.size ≤ maxLen) (m0 : xs0.length ≤ maxLen) (a : Int) (w_a : (Lit.int .i64 a).wf = true) (p : Int) (w_p : (Lit.int .i64 p).wf = true) (s : Int) (w_s : (Lit.int .i64 s).wf = true) :
    Calls Try.prog 4 #[.slice A0 xs0.length c0, .agg #[.int .i64 a, .int .i64 p, .int .i64 s]] w fun e w' => e = .returned (.bool true) ∧ Below w.heap.size w w' := by
  unfold maxLen at m0
  have l0 : xs0.length ≤ totRule xs0 := Nat.le_add_right _ _
  rcases Nat.lt_or_ge 1048576 (totRule xs0) with n0 | n0
  · go_enter Try.func4, Try.ntmps4
    have tt : Below w.heap.size w (w.alloc (.cells #[.int .i64 a, .int .i64 p, .int .i64 s] 24)) := (by repeat (first | assumption | exact Below.refl _ _ | apply Below.al | apply Below.drewN' | apply Below.drew | (apply Below.tr; assumption)))
    go_wp2_with fail
    refine (szRuleS_big A0 c0 xs0 _ _ ((r0.below tt (Nat.le_refl _)).more tt.size) wf0 (by unfold maxLen; omega) (by omega) (by omega) (by omega)).mono ?_
    rintro e wz ⟨rfl, bz⟩
    go_wp2_with fail
    go_ret
    exact ⟨rfl, (by repeat (first | assumption | exact Below.refl _ _ | apply Below.al | apply Below.drewN' | apply Below.drew | (apply Below.tr; assumption)))⟩
  go_enter Try.func4, Try.ntmps4
  have tt : Below w.heap.size w (w.alloc (.cells #[.int .i64 a, .int .i64 p, .int .i64 s] 24)) := (by repeat (first | assumption | exact Below.refl _ _ | apply Below.al | apply Below.drewN' | apply Below.drew | (apply Below.tr; assumption)))
  have z0 : w.heap.size ≤ (World.heap (w.alloc (.cells #[.int .i64 a, .int .i64 p, .int .i64 s] 24))).size := tt.size
  have uu : Below (World.heap (w.alloc (.cells #[.int .i64 a, .int .i64 p, .int .i64 s] 24))).size (w.alloc (.cells #[.int .i64 a, .int .i64 p, .int .i64 s] 24)) (w.alloc (.cells #[.int .i64 a, .int .i64 p, .int .i64 s] 24)) := Below.refl _ _
  have q0 : (w.alloc (.cells #[.int .i64 a, .int .i64 p, .int .i64 s] 24)).cell? ⟨w.heap.size, 0, none⟩ = some (.int .i64 a) := by simp [go_sem]
  have q1 : (w.alloc (.cells #[.int .i64 a, .int .i64 p, .int .i64 s] 24)).cell? ⟨w.heap.size, 1, none⟩ = some (.int .i64 p) := by simp [go_sem]
  have q2 : (w.alloc (.cells #[.int .i64 a, .int .i64 p, .int .i64 s] 24)).cell? ⟨w.heap.size, 2, none⟩ = some (.int .i64 s) := by simp [go_sem]
  go_wp2_with fail
  refine (szRuleS_ok A0 c0 xs0 _ _ ((r0.below tt (Nat.le_refl _)).more tt.size) (by omega) (by omega)).mono ?_
  rintro e w1 ⟨rfl, b1⟩
  have z1 := b1.size
  have tt := Below.tr b1 tt
  have uu := Below.tr b1 uu
  obtain ⟨hc1, hf1⟩ := bcell uu
  go_wp2_with fail
  go_region_held3 (fun w' => w'.cell? ⟨w.heap.size, 0, none⟩ = some (.int .i64 a) ∧ w'.cell? ⟨w.heap.size, 1, none⟩ = some (.int .i64 p) ∧ w'.cell? ⟨w.heap.size, 2, none⟩ = some (.int .i64 s)) (go_keep) (first | (go_at_call 7; refine (toRuleS_any A0 c0 xs0 _ (r0.bm (by repeat (first | assumption | exact Below.refl _ _ | apply Below.al | apply Below.drewN' | apply Below.drew | (apply Below.tr; assumption))) (Below.size (by repeat (first | assumption | exact Below.refl _ _ | apply Below.al | apply Below.drewN' | apply Below.drew | (apply Below.tr; assumption))))) (by omega)).mono ?_; rintro e w2 ⟨B1, d1, rfl, o1, b2⟩; have b2 : Below (World.heap w1).size w1 w2 := (by repeat (first | assumption | exact Below.refl _ _ | apply Below.al | apply Below.drewN' | apply Below.drew | (apply Below.tr; assumption))); have z2 := b2.size; have tt : Below w.heap.size w w2 := (by repeat (first | assumption | exact Below.refl _ _ | apply Below.al | apply Below.drewN' | apply Below.drew | (apply Below.tr; assumption))); have uu := Below.tr b2 uu; obtain ⟨hc2, hf2⟩ := bcell uu; have p1 := o1) | (go_at_call 8; refine (toFacts_any _ _ _ _).mono ?_; rintro e w3 ⟨rfl, b3⟩; have b3 : Below (World.heap w2).size w2 w3 := (by repeat (first | assumption | exact Below.refl _ _ | apply Below.al | apply Below.drewN' | apply Below.drew | (apply Below.tr; assumption))); have z3 := b3.size; have p1 := own_below p1 b3 (Nat.le_refl _); have tt : Below w.heap.size w w3 := (by repeat (first | assumption | exact Below.refl _ _ | apply Below.al | apply Below.drewN' | apply Below.drew | (apply Below.tr; assumption))); have uu := Below.tr b3 uu; obtain ⟨hc3, hf3⟩ := bcell uu) | (go_at_call 11; refine (specRulesFor_3 B1 d1 xs0 a p s _ (rd_of_own (enc := encRu) (k := 6) (fun _ => rfl) p1) (by omega) wf0).mono ?_; rintro e w4 ⟨WA, Wc, rfl, Wo, b4⟩; have b4 : Below (World.heap w3).size w3 w4 := (by repeat (first | assumption | exact Below.refl _ _ | apply Below.al | apply Below.drewN' | apply Below.drew | (apply Below.tr; assumption))); have z4 := b4.size; have p1 := own_below p1 b4 (Nat.le_refl _); have tt : Below w.heap.size w w4 := (by repeat (first | assumption | exact Below.refl _ _ | apply Below.al | apply Below.drewN' | apply Below.drew | (apply Below.tr; assumption))); have uu := Below.tr b4 uu; obtain ⟨hc4, hf4⟩ := bcell uu; have Wp := Wo))
  go_wp2_with fail
  refine (toRuleS_any A0 c0 xs0 _ ((r0.below tt (Nat.le_refl _)).more tt.size) (by omega)).mono ?_
  rintro e w5 ⟨B2, d2, rfl, o2, b5⟩
  have z5 := b5.size
  have p1 := own_below p1 b5 (Nat.le_refl _)
  have Wp := own_below Wp b5 (Nat.le_refl _)
  have tt := Below.tr b5 tt
  have uu := Below.tr b5 uu
  obtain ⟨hc5, hf5⟩ := bcell uu
  have p2 := o2
  go_wp2_with fail
  refine (toFacts_any _ _ _ _).mono ?_
  rintro e w6 ⟨rfl, b6⟩
  have z6 := b6.size
  have p1 := own_below p1 b6 (Nat.le_refl _)
  have Wp := own_below Wp b6 (Nat.le_refl _)
  have p2 := own_below p2 b6 (Nat.le_refl _)
  have tt := Below.tr b6 tt
  have uu := Below.tr b6 uu
  obtain ⟨hc6, hf6⟩ := bcell uu
  go_wp2_with fail
  refine (implRulesFor_3 B2 d2 xs0 a p s _ (rd_of_own (enc := encRu) (k := 6) (fun _ => rfl) p2) (by omega) wf0).mono ?_
  rintro e w7 ⟨GA, Gc, rfl, Go, b7⟩
  have z7 := b7.size
  have p1 := own_below p1 b7 (Nat.le_refl _)
  have Wp := own_below Wp b7 (Nat.le_refl _)
  have p2 := own_below p2 b7 (Nat.le_refl _)
  have tt := Below.tr b7 tt
  have uu := Below.tr b7 uu
  obtain ⟨hc7, hf7⟩ := bcell uu
  have Gp := Go
  have hyl : (rfV xs0 ⟨a, p, s⟩).length ≤ 1048576 := by have := rfV_len xs0 ⟨a, p, s⟩; omega
  go_wp2_with fail
  refine (eqInt64S_same GA WA Gc Wc (rfV xs0 ⟨a, p, s⟩) _ (rd_of_own (enc := encI) (k := 1) (fun _ => rfl) Gp) (rd_of_own (enc := encI) (k := 1) (fun _ => rfl) Wp) hyl).mono ?_
  rintro e w8 ⟨rfl, b8⟩
  have z8 := b8.size
  have p1 := own_below p1 b8 (Nat.le_refl _)
  have Wp := own_below Wp b8 (Nat.le_refl _)
  have p2 := own_below p2 b8 (Nat.le_refl _)
  have Gp := own_below Gp b8 (Nat.le_refl _)
  have tt := Below.tr b8 tt
  have uu := Below.tr b8 uu
  obtain ⟨hc8, hf8⟩ := bcell uu
  go_wp2_with fail
  refine (toRuleS_any A0 c0 xs0 _ ((r0.below tt (Nat.le_refl _)).more tt.size) (by omega)).mono ?_
  rintro e w9 ⟨B3, d3, rfl, o3, b9⟩
  have z9 := b9.size
  have p1 := own_below p1 b9 (Nat.le_refl _)
  have Wp := own_below Wp b9 (Nat.le_refl _)
  have p2 := own_below p2 b9 (Nat.le_refl _)
  have Gp := own_below Gp b9 (Nat.le_refl _)
  have tt := Below.tr b9 tt
  have uu := Below.tr b9 uu
  obtain ⟨hc9, hf9⟩ := bcell uu
  have p3 := o3
  go_wp2_with fail
  refine (eqRuleS_same B2 B3 d2 d3 xs0 _ (rd_of_own (enc := encRu) (k := 6) (fun _ => rfl) p2) (rd_of_own (enc := encRu) (k := 6) (fun _ => rfl) p3) (by omega)).mono ?_
  rintro e w10 ⟨rfl, b10⟩
  have z10 := b10.size
  have p1 := own_below p1 b10 (Nat.le_refl _)
  have Wp := own_below Wp b10 (Nat.le_refl _)
  have p2 := own_below p2 b10 (Nat.le_refl _)
  have Gp := own_below Gp b10 (Nat.le_refl _)
  have p3 := own_below p3 b10 (Nat.le_refl _)
  have tt := Below.tr b10 tt
  have uu := Below.tr b10 uu
  obtain ⟨hc10, hf10⟩ := bcell uu
  have Z_Wp := Wo
  have Z_Gp := Go
  have Z_p2 := o2
  go_wp2_with fail
  refine (markRuleS_any _ B2 xs0.length d2 _ (1) _ p2 (by omega) (by omega) (by omega)).mono ?_
  rintro e w11 ⟨rfl, pm11, gm11⟩
  have z11 := gm11.size
  have Wp := Wp.kept gm11 (own_ne Z_Wp Z_p2 (by omega)).2
  have Gp := Gp.kept gm11 (own_ne Z_p2 Z_Gp (by omega)).1
  have tt := Below.gr tt tt.size p2 (by omega) gm11
  have uu := Below.gr uu uu.size p2 (by first | omega | (simp; omega)) gm11
  obtain ⟨hc11, hf11⟩ := bcell uu
  have p2 := pm11
  go_wp2_with fail
  refine (eqInt64S_same GA WA Gc Wc (rfV xs0 ⟨a, p, s⟩) _ (rd_of_own (enc := encI) (k := 1) (fun _ => rfl) Gp) (rd_of_own (enc := encI) (k := 1) (fun _ => rfl) Wp) hyl).mono ?_
  rintro e w12 ⟨rfl, b12⟩
  have z12 := b12.size
  have Wp := own_below Wp b12 (Nat.le_refl _)
  have Gp := own_below Gp b12 (Nat.le_refl _)
  have tt := Below.tr b12 tt
  have uu := Below.tr b12 uu
  obtain ⟨hc12, hf12⟩ := bcell uu
  go_wp2_with fail
  refine (markInt64S_any _ GA (rfV xs0 ⟨a, p, s⟩).length Gc _ 1 _ Gp (by omega) (by omega) (by omega)).mono ?_
  rintro e w13 ⟨rfl, pm13, gm13⟩
  have z13 := gm13.size
  have Wp := Wp.kept gm13 (own_ne Z_Wp Z_Gp (by omega)).2
  have tt := Below.gr tt tt.size Gp (by omega) gm13
  have uu := Below.gr uu uu.size Gp (by first | omega | (simp; omega)) gm13
  obtain ⟨hc13, hf13⟩ := bcell uu
  have Gp := pm13
  go_wp2_with fail
  refine (heldInt64S_any _ GA (rfV xs0 ⟨a, p, s⟩).length Gc 1 _ Gp (by omega) (by omega) (by omega)).mono ?_
  rintro e wz ⟨rfl, rfl⟩
  go_wp2_with fail
  go_region_held3 (fun w' => w'.cell? ⟨w.heap.size, 0, none⟩ = some (.int .i64 a) ∧ w'.cell? ⟨w.heap.size, 1, none⟩ = some (.int .i64 p) ∧ w'.cell? ⟨w.heap.size, 2, none⟩ = some (.int .i64 s)) (go_keep) (first | (go_at_call 7; refine (toRuleS_any A0 c0 xs0 _ (r0.bm (by repeat (first | assumption | exact Below.refl _ _ | apply Below.al | apply Below.drewN' | apply Below.drew | (apply Below.tr; assumption))) (Below.size (by repeat (first | assumption | exact Below.refl _ _ | apply Below.al | apply Below.drewN' | apply Below.drew | (apply Below.tr; assumption))))) (by omega)).mono ?_; rintro e w14 ⟨B4, d4, rfl, o4, b14⟩; have b14 : Below (World.heap w13).size w13 w14 := (by repeat (first | assumption | exact Below.refl _ _ | apply Below.al | apply Below.drewN' | apply Below.drew | (apply Below.tr; assumption))); have z14 := b14.size; have Wp := own_below Wp b14 (Nat.le_refl _); have Gp := own_below Gp b14 (Nat.le_refl _); have tt : Below w.heap.size w w14 := (by repeat (first | assumption | exact Below.refl _ _ | apply Below.al | apply Below.drewN' | apply Below.drew | (apply Below.tr; assumption))); have uu := Below.tr b14 uu; obtain ⟨hc14, hf14⟩ := bcell uu; have p4 := o4) | (go_at_call 8; refine (toFacts_any _ _ _ _).mono ?_; rintro e w15 ⟨rfl, b15⟩; have b15 : Below (World.heap w14).size w14 w15 := (by repeat (first | assumption | exact Below.refl _ _ | apply Below.al | apply Below.drewN' | apply Below.drew | (apply Below.tr; assumption))); have z15 := b15.size; have Wp := own_below Wp b15 (Nat.le_refl _); have Gp := own_below Gp b15 (Nat.le_refl _); have p4 := own_below p4 b15 (Nat.le_refl _); have tt : Below w.heap.size w w15 := (by repeat (first | assumption | exact Below.refl _ _ | apply Below.al | apply Below.drewN' | apply Below.drew | (apply Below.tr; assumption))); have uu := Below.tr b15 uu; obtain ⟨hc15, hf15⟩ := bcell uu) | (go_at_call 12; refine (implRulesFor_3 B4 d4 xs0 a p s _ (rd_of_own (enc := encRu) (k := 6) (fun _ => rfl) p4) (by omega) wf0).mono ?_; rintro e w16 ⟨HA, Hc, rfl, Ho, b16⟩; have b16 : Below (World.heap w15).size w15 w16 := (by repeat (first | assumption | exact Below.refl _ _ | apply Below.al | apply Below.drewN' | apply Below.drew | (apply Below.tr; assumption))); have z16 := b16.size; have Wp := own_below Wp b16 (Nat.le_refl _); have Gp := own_below Gp b16 (Nat.le_refl _); have p4 := own_below p4 b16 (Nat.le_refl _); have tt : Below w.heap.size w w16 := (by repeat (first | assumption | exact Below.refl _ _ | apply Below.al | apply Below.drewN' | apply Below.drew | (apply Below.tr; assumption))); have uu := Below.tr b16 uu; obtain ⟨hc16, hf16⟩ := bcell uu; have Hp := Ho))
  go_wp2_with fail
  refine (eqInt64S_same HA WA Hc Wc (rfV xs0 ⟨a, p, s⟩) _ (rd_of_own (enc := encI) (k := 1) (fun _ => rfl) Hp) (rd_of_own (enc := encI) (k := 1) (fun _ => rfl) Wp) hyl).mono ?_
  rintro e w17 ⟨rfl, b17⟩
  have z17 := b17.size
  have Wp := own_below Wp b17 (Nat.le_refl _)
  have Gp := own_below Gp b17 (Nat.le_refl _)
  have p4 := own_below p4 b17 (Nat.le_refl _)
  have Hp := own_below Hp b17 (Nat.le_refl _)
  have tt := Below.tr b17 tt
  have uu := Below.tr b17 uu
  obtain ⟨hc17, hf17⟩ := bcell uu
  go_wp2_with fail
  refine (heldInt64S_any _ GA (rfV xs0 ⟨a, p, s⟩).length Gc 1 _ Gp (by omega) (by omega) (by omega)).mono ?_
  rintro e wz ⟨rfl, rfl⟩
  go_wp2_with fail
  go_ret
  exact ⟨rfl, tt⟩
namespace fnExactRulesFor
open Go.ChangeShapes Go.WideShapes Go.ChangeAt Go.RowKit Go.Deep Go.Joins
set_option linter.unusedVariables false
theorem own : ownKnob Try.prog.godebug = none := by kernel_rfl
theorem laidOut : laidOutB Try.prog = true := by kernel_rfl
set_option maxRecDepth 100000 in
theorem lifted (os : Os) (started : os.Started) (H : Type) (enc : TypeId × Value → H) :
    ReturnsInHanded {} Try.checked os 4 .any (Rows.fnExactRulesForSpec.pre6 enc Try.prog Try.f4 Rows.fnExactRulesForRow.domain false) (Rows.fnExactRulesForSpec.post enc Try.prog Try.f4 false true false false) := by
  refine returnsInHanded_of_change (C := Try.checked) own started (by kernel_rfl) Try.func4
    (ChangeSpec.witness6 (enc := enc) (C := Try.checked) false ⟨#[], #[.slice none 0 0, .agg #[.int .i64 0, .int .i64 0, .int .i64 0]], []⟩ 8 (by kernel_rfl) (by kernel_rfl) (by kernel_rfl) (by kernel_rfl)) ?_
  intro W base args ds gs before hval0 hW hcnd _
  have hval : ∀ (j : Nat) t v, Try.f4.params[j]? = some t → args[j]? = some v → Value.okWide Try.prog W .any base t v := hval0
  have hW' := hW
  obtain ⟨p, q, hA0, hV, rfl, hfz, hnd⟩ := hW
  have hA : DataW.TrodAll enc Try.prog W 0 (fun _ => true) true Try.f4.params.toList args.toList ds p := hA0
  rw [Try.params4] at hA hval
  obtain ⟨v0, vs0, d0, ds0, p0, q0, hargs, rfl, rfl, h0, r0⟩ := trodAll_cons hA
  obtain ⟨v1, vs1, d1, ds1, p1, q1, rfl, rfl, rfl, h1, r1⟩ := trodAll_cons r0
  obtain ⟨rfl, rfl, rfl⟩ := trodAll_nil r1
  obtain rfl : args = #[v0, v1] := by cases args; simp_all
  obtain ⟨rfl, rfl⟩ := trodVars_none hV
  have k0 := h0
  have lt0 : ∀ x ∈ p0, x.block < W.heap.size := by obtain ⟨m, hm⟩ := k0; exact DataW.trod_lt m _ _ _ hm
  have k1 := h1
  have lt1 : ∀ x ∈ p1, x.block < W.heap.size := by obtain ⟨m, hm⟩ := k1; exact DataW.trod_lt m _ _ _ hm
  obtain ⟨A0, len0, cap0, rfl⟩ := okWide_slice Try.underlying22 (hval 0 22 v0 rfl rfl)
  obtain ⟨xs0, rfl, rd0, wf0, ml0⟩ : ∃ xs : List _, xs.length = len0 ∧ Rd encRu 6 W W.heap.size A0 xs ∧ (∀ x ∈ xs, x.s.size ≤ maxLen) ∧ len0 ≤ maxLen := by
    obtain ⟨fuel, hf⟩ := h0
    exact rd_open (encA := encRu) (wf := fun x => x.s.size ≤ maxLen) (k := 6) (by decide) (fun _ => rfl) Try.underlying22 (by kernel_rfl) (fun n cs y h => dec_ru Try.underlying42 (by kernel_rfl) (by kernel_rfl) Try.underlying9 Try.underlying2 Try.underlying2 Try.underlying2 Try.underlying2 Try.underlying2 n cs y h) (by simpa [Value.cells] using hf)
  obtain ⟨c1_0, c1_1, c1_2, y1_0, y1_1, y1_2, m1, rfl, _, _, z1_0, z1_1, z1_2⟩ := open_agg3 Try.underlying24 (by kernel_rfl) (by kernel_rfl) (hval 1 24 v1 rfl rfl) h1
  obtain ⟨a1_0, e1_0, _, w1_0⟩ := DataW.trod_int Try.underlying2 z1_0
  simp at e1_0; subst e1_0
  obtain ⟨a1_1, e1_1, _, w1_1⟩ := DataW.trod_int Try.underlying2 z1_1
  simp at e1_1; subst e1_1
  obtain ⟨a1_2, e1_2, _, w1_2⟩ := DataW.trod_int Try.underlying2 z1_2
  simp at e1_2; subst e1_2
  clear hA0 hval0
  refine (rf_law W A0 cap0 xs0 rd0 wf0 ml0 a1_0 w1_0 a1_1 w1_1 a1_2 w1_2).mono fun e W' ⟨he, bel⟩ => ?_
  subst he
  exact ⟨_, rfl, _, _, _, [], _, [], hW', trodAll_mk1 (shut_bool Try.underlying4 _), (trodAll_cons_mk (Below.trod laidOut (by kernel_rfl) (of_decide_eq_true (by kernel_rfl)) k0 bel lt0) (trodAll_cons_mk (Below.trod laidOut (by kernel_rfl) (of_decide_eq_true (by kernel_rfl)) k1 bel lt1) trodAll_mk0)), rfl, bel.frame _, fun h => by cases h⟩

theorem proved : Rows.FnExactRulesForSaid :=
  OpenClaim.holds_of_wide 4 Try.f4 rfl rfl rfl rfl rfl rfl rfl ⟨rfl, rfl, rfl, rfl, rfl⟩ rfl rfl rfl rfl rfl (by kernel_rfl) Try.func4 (by kernel_rfl)
    (of_decide_eq_true (by kernel_rfl)) (by unfold Func.isWrapper; first | (rw [if_pos (by decide +kernel)]; kernel_rfl) | (rw [if_neg (by decide +kernel)]; exact ⟨rfl, rfl⟩))
    (fun os started H enc _ => lifted os started H enc)
#print axioms proved
end fnExactRulesFor
end Go.Proofs.Ytmjapoolmadmpaa

