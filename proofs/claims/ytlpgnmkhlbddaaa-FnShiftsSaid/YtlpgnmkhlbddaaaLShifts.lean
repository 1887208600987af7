/- Minima whose cycles are shifted have the same period, for every code: the law says yes. No condition. -/
import Derived.Test.YtlpgnmkhlbddaaaRows
import Derived.Test.YtlpgnmkhlbddaaaOpen
import Derived.Test.YtlpgnmkhlbddaaaC13s
import Derived.Test.YtlpgnmkhlbddaaaC13t
import Derived.Test.YtlpgnmkhlbddaaaCLong
namespace Go.Proofs.Ytlpgnmkhlbddaaa
open Go.RowKit
set_option linter.unusedVariables false
set_option maxRecDepth 20000 in
set_option maxHeartbeats 4000000 in
theorem shifts_law (w : World) (A0 : Option Addr) (c0 : Nat) (xs0 : List Int) (r0 : Rd encB 1 w w.heap.size A0 xs0) (wf0 : ∀ x ∈ xs0, 0 ≤ x ∧ x < 256) (m0 : xs0.length ≤ maxLen) (A1 : Option Addr) (c1 : Nat) (xs1 : List Int) (r1 : Rd encB 1 w w.heap.size A1 xs1) (wf1 : ∀ x ∈ xs1, 0 ≤ x ∧ x < 256) (m1 : xs1.length ≤ maxLen) :
    Calls Try.prog 4 #[.slice A0 xs0.length c0, .slice A1 xs1.length c1] w fun e w' => e = .returned (.bool true) ∧ Below w.heap.size w w' := by
  by_cases hL : 3000 < xs0.length ∨ 3000 < xs1.length
  · have e : (decide (3000 < xs0.length) || decide (3000 < xs1.length)) = true := by simpa using hL
    go_enter Try.func4, Try.ntmps4
    go_wp2_with fail
    refine (a2Long_any _ _ _ _ _ _ _ m0 m1).mono ?_
    rw [e]
    rintro e w1 ⟨rfl, rfl⟩
    go_wp2
    go_ret
    exact ⟨rfl, (by repeat (first | assumption | exact Below.refl _ _ | apply Below.al | apply Below.drewN' | apply Below.drew | (apply Below.tr; assumption)))⟩
  have e : (decide (3000 < xs0.length) || decide (3000 < xs1.length)) = false := by simp; omega
  have l0 : xs0.length ≤ 3000 := by omega
  have l1 : xs1.length ≤ 3000 := by omega
  clear hL
  go_enter Try.func4, Try.ntmps4
  go_wp2_with fail
  refine (a2Long_any _ _ _ _ _ _ _ m0 m1).mono ?_
  rw [e]
  rintro e w1 ⟨rfl, rfl⟩
  clear e
  go_wp2_with fail
  refine (a2Ephemeris_any A0 c0 xs0 _ r0 wf0 l0).mono ?_
  rintro e w1 ⟨a, b, rfl, a0, a1, p0, p1, hb1⟩
  have r11 : Rd encB 1 w1 w1.heap.size A1 xs1 := (r1.below hb1 (Nat.le_refl _)).more hb1.size
  clear r0 wf0 m0
  go_wp2_with fail
  refine (a2Minima_any A1 c1 xs1 a b _ r11 wf1 l1 a0 a1 p0 p1).mono ?_
  rintro e w2 ⟨ys, Ay, cy, rfl, oy, hb2, l2, OK, NE⟩
  have ry : Rd encMn 2 w2 w2.heap.size Ay ys := rd_of_own (enc := encMn) (k := 2) (c := cy) (fun _ => rfl) oy
  have r12 : Rd encB 1 w2 w2.heap.size A1 xs1 := (r11.below hb2 (Nat.le_refl _)).more hb2.size
  have hv := OK.mv l2
  have hbW := Below.tr hb2 hb1
  clear oy r1 r11 NE hb2 hb1
  go_wp2_with fail
  refine (a2At_any A1 c1 xs1 0 256 _ r12 wf1 l1 (by omega) (by omega)).mono ?_
  rintro e w3 ⟨⟨z, rfl, z0, z1⟩, rfl⟩
  obtain ⟨r, hr⟩ : ∃ r : Int, r = z - 128 := ⟨_, rfl⟩
  have q1 : -130 ≤ r := by omega
  have q2 : r ≤ 130 := by omega
  have hvM := mnShift OK l2 (b := r) (by omega) (by omega)
  clear r12 wf1 l1 m1
  go_wp2_with fail
  rw [← hr]
  clear hr z0 z1
  refine (shiftCycles_any Ay cy ys r _ ry OK l2 (by omega) (by omega)).mono ?_
  rintro e w3 ⟨Am, cm, rfl, om, hb3⟩
  have rM : Rd encMn 2 w3 w3.heap.size Am (ys.map (mv r)) := rd_of_own (enc := encMn) (k := 2) (fun _ => rfl) om
  have ry3 : Rd encMn 2 w3 w3.heap.size Ay ys := (ry.below hb3 (Nat.le_refl _)).more hb3.size
  have hb3W := Below.tr hb3 hbW
  clear om ry hb3 hbW
  have hlm : (ys.map (mv r)).length = ys.length := List.length_map ..
  have C1 := specValidMinima_ok Am cm (ys.map (mv r)) w3 rM hvM
  have C2 : ∀ w4, Below w3.heap.size w3 w4 → _ := fun w4 h => validMinima_ok Am cm (ys.map (mv r)) w4 ((rM.below h (Nat.le_refl _)).more h.size) hvM
  rw [hlm] at C1
  simp only [hlm] at C2
  clear hlm
  go_wp2_with fail
  refine C1.mono ?_
  rintro e w4 ⟨rfl, hb4⟩
  go_wp2_with fail
  refine (C2 _ hb4).mono ?_
  rintro e w5 ⟨rfl, hb5⟩
  have hb35 := Below.tr hb5 hb4
  have hbW := Below.tr hb35 hb3W
  have ry5 : Rd encMn 2 w5 w5.heap.size Ay ys := (ry3.below hb35 (Nat.le_refl _)).more hb35.size
  have rM5 : Rd encMn 2 w5 w5.heap.size Am (ys.map (mv r)) := (rM.below hb35 (Nat.le_refl _)).more hb35.size
  have hlm : (ys.map (mv r)).length = ys.length := List.length_map ..
  clear C1 C2 hb4 hb5 hb35 hb3W rM ry3
  by_cases h2 : ys.length < 2
  · have F2 : ∀ w6, Below w5.heap.size w5 w6 → _ := fun w6 h => fitFew_any Am cm (ys.map (mv r)) w6 ((rM5.below h (Nat.le_refl _)).more h.size) (by omega) hvM
    simp only [hlm] at F2
    clear hlm
    go_wp2_with fail
    refine (fitFew_any Ay cy ys _ ry5 (by omega) hv).mono ?_
    rintro e w6 ⟨rfl, hb6⟩
    have hb7 : Below w5.heap.size w5 ((w6.alloc (.cells #[.int .i64 0, .int .i64 0] 30)).alloc (.cells #[.int .i64 0, .int .i64 0] 30)) := (by repeat (first | assumption | exact Below.refl _ _ | apply Below.al | apply Below.drewN' | apply Below.drew | (refine Below.sc ?_ (by first | omega | (simp; done) | (simp; omega)) _) | (apply Below.tr; assumption)))
    have C3 := F2 _ hb7
    have x0 : ((w6.alloc (.cells #[.int .i64 0, .int .i64 0] 30)).alloc (.cells #[.int .i64 0, .int .i64 0] 30)).cell? ⟨w6.heap.size + 1, 0, none⟩ = some (.int .i64 0) := by simp [go_sem]
    have x1 : ((w6.alloc (.cells #[.int .i64 0, .int .i64 0] 30)).alloc (.cells #[.int .i64 0, .int .i64 0] 30)).cell? ⟨w6.heap.size + 1, 1, none⟩ = some (.int .i64 0) := by simp [go_sem]
    have z7 : w6.heap.size + 1 < (World.heap ((w6.alloc (.cells #[.int .i64 0, .int .i64 0] 30)).alloc (.cells #[.int .i64 0, .int .i64 0] 30))).size := by simp
    have hbX := Below.tr hb7 hbW
    clear F2
    go_wp2_with fail
    refine C3.mono ?_
    rintro e w8 ⟨rfl, hb8⟩
    have hb9 := Below.tr (Below.al (Below.al (Below.refl _ w8) (.cells #[.int .i64 0, .int .i64 0] 30)) (.cells #[.int .i64 0, .int .i64 0] 30)) hb8
    have hbc := (bcell hb9).1
    have y0 := (hbc _ 0 z7).trans x0
    have y1 := (hbc _ 1 z7).trans x1
    have y2 : ((w8.alloc (.cells #[.int .i64 0, .int .i64 0] 30)).alloc (.cells #[.int .i64 0, .int .i64 0] 30)).cell? ⟨w8.heap.size + 1, 0, none⟩ = some (.int .i64 0) := by simp [go_sem]
    have y3 : ((w8.alloc (.cells #[.int .i64 0, .int .i64 0] 30)).alloc (.cells #[.int .i64 0, .int .i64 0] 30)).cell? ⟨w8.heap.size + 1, 1, none⟩ = some (.int .i64 0) := by simp [go_sem]
    have hbY := Below.tr hb9 hbX
    clear C3 hbc x0 x1
    go_wp2
    go_ret
    exact ⟨rfl, hbY⟩
  · have HE := mv_fit r ys
    have hd := mD_pos OK (by omega)
    have hdm : 0 < mD (ys.map (mv r)) := by rw [HE.2]; exact hd
    have e1 : fPn (ys.map (mv r)) = fPn ys := by unfold fPn; rw [HE.1, HE.2]
    have e2 : fPd (ys.map (mv r)) = fPd ys := by unfold fPd; rw [HE.1, HE.2]
    have F2 : ∀ w6, Below w5.heap.size w5 w6 → _ := fun w6 h => fit_any Am cm (ys.map (mv r)) w6 ((rM5.below h (Nat.le_refl _)).more h.size) (by omega) (by omega) hvM (fun p hp => by obtain ⟨x, hx, rfl⟩ := List.mem_map.1 hp; have := OK.2 x hx; simp only [mv]; omega) hdm
    have F1 := fit_any Ay cy ys _ ry5 (by omega) l2 hv (fun p hp => by have := OK.2 p hp; omega) hd
    simp only [hlm, e1, e2] at F2
    clear hlm e1 e2 hdm hd HE OK hv hvM
    generalize fTn (ys.map (mv r)) = tm at *
    generalize fTd (ys.map (mv r)) = tk at *
    generalize fTn ys = tn at *
    generalize fTd ys = td at *
    generalize fPn ys = pn at *
    generalize fPd ys = pd at *
    go_wp2_with fail
    refine F1.mono ?_
    rintro e w6 ⟨rfl, hb6⟩
    clear F1
    have hb7 : Below w5.heap.size w5 ((w6.alloc (.cells #[.int .i64 tn, .int .i64 td] 30)).alloc (.cells #[.int .i64 pn, .int .i64 pd] 30)) := (by repeat (first | assumption | exact Below.refl _ _ | apply Below.al | apply Below.drewN' | apply Below.drew | (refine Below.sc ?_ (by first | omega | (simp; done) | (simp; omega)) _) | (apply Below.tr; assumption)))
    have C3 := F2 _ hb7
    have x0 : ((w6.alloc (.cells #[.int .i64 tn, .int .i64 td] 30)).alloc (.cells #[.int .i64 pn, .int .i64 pd] 30)).cell? ⟨w6.heap.size + 1, 0, none⟩ = some (.int .i64 pn) := by simp [go_sem]
    have x1 : ((w6.alloc (.cells #[.int .i64 tn, .int .i64 td] 30)).alloc (.cells #[.int .i64 pn, .int .i64 pd] 30)).cell? ⟨w6.heap.size + 1, 1, none⟩ = some (.int .i64 pd) := by simp [go_sem]
    have z7 : w6.heap.size + 1 < (World.heap ((w6.alloc (.cells #[.int .i64 tn, .int .i64 td] 30)).alloc (.cells #[.int .i64 pn, .int .i64 pd] 30))).size := by simp
    have hbX := Below.tr hb7 hbW
    clear F2
    go_wp2_with fail
    refine C3.mono ?_
    rintro e w8 ⟨rfl, hb8⟩
    have hb9 := Below.tr (Below.al (Below.al (Below.refl _ w8) (.cells #[.int .i64 tm, .int .i64 tk] 30)) (.cells #[.int .i64 pn, .int .i64 pd] 30)) hb8
    have hbc := (bcell hb9).1
    have y0 := (hbc _ 0 z7).trans x0
    have y1 := (hbc _ 1 z7).trans x1
    have y2 : ((w8.alloc (.cells #[.int .i64 tm, .int .i64 tk] 30)).alloc (.cells #[.int .i64 pn, .int .i64 pd] 30)).cell? ⟨w8.heap.size + 1, 0, none⟩ = some (.int .i64 pn) := by simp [go_sem]
    have y3 : ((w8.alloc (.cells #[.int .i64 tm, .int .i64 tk] 30)).alloc (.cells #[.int .i64 pn, .int .i64 pd] 30)).cell? ⟨w8.heap.size + 1, 1, none⟩ = some (.int .i64 pd) := by simp [go_sem]
    have hbY := Below.tr hb9 hbX
    clear C3 hbc x0 x1
    go_wp2
    go_ret
    exact ⟨rfl, hbY⟩
namespace fnShifts
open Go.ChangeShapes Go.WideShapes Go.ChangeAt Go.RowKit Go.Deep Go.Joins
set_option linter.unusedVariables false
theorem own : ownKnob Try.prog.godebug = none := by kernel_rfl
theorem laidOut : laidOutB Try.prog = true := by kernel_rfl
set_option maxRecDepth 100000 in
theorem lifted (os : Os) (started : os.Started) (H : Type) (enc : TypeId × Value → H) :
    ReturnsInHanded {} Try.checked os 4 .any (Rows.fnShiftsSpec.pre6 enc Try.prog Try.f4 Rows.fnShiftsRow.domain false) (Rows.fnShiftsSpec.post enc Try.prog Try.f4 false true false false) := by
  refine returnsInHanded_of_change (C := Try.checked) own started (by kernel_rfl) Try.func4
    (ChangeSpec.witness6 (enc := enc) (C := Try.checked) false ⟨#[], #[.slice none 0 0, .slice none 0 0], []⟩ 8 (by kernel_rfl) (by kernel_rfl) (by kernel_rfl) (by kernel_rfl)) ?_
  intro W base args ds gs before hval0 hW hcnd _
  have hval : ∀ (j : Nat) t v, Try.f4.params[j]? = some t → args[j]? = some v → Value.okWide Try.prog W .any base t v := hval0
  have hW' := hW
  obtain ⟨p, q, hA0, hV, rfl, hfz, hnd⟩ := hW
  have hA : DataW.TrodAll enc Try.prog W 0 (fun _ => true) true Try.f4.params.toList args.toList ds p := hA0
  rw [Try.params4] at hA hval
  obtain ⟨v0, vs0, d0, ds0, p0, q0, hargs, rfl, rfl, h0, r0⟩ := trodAll_cons hA
  obtain ⟨v1, vs1, d1, ds1, p1, q1, rfl, rfl, rfl, h1, r1⟩ := trodAll_cons r0
  obtain ⟨rfl, rfl, rfl⟩ := trodAll_nil r1
  obtain rfl : args = #[v0, v1] := by cases args; simp_all
  obtain ⟨rfl, rfl⟩ := trodVars_none hV
  have k0 := h0
  have lt0 : ∀ x ∈ p0, x.block < W.heap.size := by obtain ⟨m, hm⟩ := k0; exact DataW.trod_lt m _ _ _ hm
  have k1 := h1
  have lt1 : ∀ x ∈ p1, x.block < W.heap.size := by obtain ⟨m, hm⟩ := k1; exact DataW.trod_lt m _ _ _ hm
  obtain ⟨A0, len0, cap0, rfl⟩ := okWide_slice Try.underlying22 (hval 0 22 v0 rfl rfl)
  obtain ⟨xs0, rfl, rd0, wf0, ml0⟩ : ∃ xs : List _, xs.length = len0 ∧ Rd encB 1 W W.heap.size A0 xs ∧ (∀ x ∈ xs, 0 ≤ x ∧ x < 256) ∧ len0 ≤ maxLen := by
    obtain ⟨fuel, hf⟩ := h0
    exact rd_open (encA := encB) (wf := fun x => 0 ≤ x ∧ x < 256) (k := 1) (by decide) (fun _ => rfl) Try.underlying22 (by kernel_rfl) (dec_byte Try.underlying5) (by simpa [Value.cells] using hf)
  obtain ⟨A1, len1, cap1, rfl⟩ := okWide_slice Try.underlying22 (hval 1 22 v1 rfl rfl)
  obtain ⟨xs1, rfl, rd1, wf1, ml1⟩ : ∃ xs : List _, xs.length = len1 ∧ Rd encB 1 W W.heap.size A1 xs ∧ (∀ x ∈ xs, 0 ≤ x ∧ x < 256) ∧ len1 ≤ maxLen := by
    obtain ⟨fuel, hf⟩ := h1
    exact rd_open (encA := encB) (wf := fun x => 0 ≤ x ∧ x < 256) (k := 1) (by decide) (fun _ => rfl) Try.underlying22 (by kernel_rfl) (dec_byte Try.underlying5) (by simpa [Value.cells] using hf)
  clear hA0 hval0
  refine (shifts_law W A0 cap0 xs0 rd0 wf0 ml0 A1 cap1 xs1 rd1 wf1 ml1).mono fun e W' ⟨he, bel⟩ => ?_
  subst he
  exact ⟨_, rfl, _, _, _, [], _, [], hW', trodAll_mk1 (shut_bool Try.underlying4 _), (trodAll_cons_mk (Below.trod laidOut (by kernel_rfl) (of_decide_eq_true (by kernel_rfl)) k0 bel lt0) (trodAll_cons_mk (Below.trod laidOut (by kernel_rfl) (of_decide_eq_true (by kernel_rfl)) k1 bel lt1) trodAll_mk0)), rfl, bel.frame _, fun h => by cases h⟩

theorem proved : Rows.FnShiftsSaid :=
  OpenClaim.holds_of_wide 4 Try.f4 rfl rfl rfl rfl rfl rfl rfl ⟨rfl, rfl, rfl, rfl, rfl⟩ rfl rfl rfl rfl rfl (by kernel_rfl) Try.func4 (by kernel_rfl)
    (of_decide_eq_true (by kernel_rfl)) (by unfold Func.isWrapper; first | (rw [if_pos (by decide +kernel)]; kernel_rfl) | (rw [if_neg (by decide +kernel)]; exact ⟨rfl, rfl⟩))
    (fun os started H enc _ => lifted os started H enc)
#print axioms proved
end fnShifts
end Go.Proofs.Ytlpgnmkhlbddaaa
