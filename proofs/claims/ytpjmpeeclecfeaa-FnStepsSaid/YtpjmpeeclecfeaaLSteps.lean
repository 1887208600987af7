/- As many steps as between two stars lead from the one to the other one, for every code: the law says yes. No condition. -/
import Derived.Test.YtpjmpeeclecfeaaRows
import Derived.Test.YtpjmpeeclecfeaaOpen
import Derived.Test.YtpjmpeeclecfeaaC02s
import Derived.Test.YtpjmpeeclecfeaaCLong
namespace Go.Proofs.Ytpjmpeeclecfeaa
open Go.RowKit
set_option maxRecDepth 20000 in
set_option maxHeartbeats 4000000 in
theorem steps_law (w : World) (A0 : Option Addr) (c0 : Nat) (xs0 : List Int) (r0 : Rd encB 1 w w.heap.size A0 xs0) (wf0 : ∀ x ∈ xs0, 0 ≤ x ∧ x < 256) (m0 : xs0.length ≤ maxLen) (A1 : Option Addr) (c1 : Nat) (xs1 : List Int) (r1 : Rd encB 1 w w.heap.size A1 xs1) (wf1 : ∀ x ∈ xs1, 0 ≤ x ∧ x < 256) (m1 : xs1.length ≤ maxLen) :
    Calls Try.prog 4 #[.slice A0 xs0.length c0, .slice A1 xs1.length c1] w fun e w' => e = .returned (.bool true) ∧ Below w.heap.size w w' := by
  by_cases hL : 3000 < xs0.length ∨ 3000 < xs1.length
  · have e : (decide (3000 < xs0.length) || decide (3000 < xs1.length)) = true := by simpa using hL
    go_enter Try.func4, Try.ntmps4
    go_wp2_with fail
    refine (a2Long_any _ _ _ _ _ _ _ m0 m1).mono ?_
    rw [e]
    rintro e w1 ⟨rfl, rfl⟩
    go_wp2
    go_ret
    exact ⟨rfl, (by repeat (first | assumption | exact Below.refl _ _ | apply Below.al | apply Below.drewN' | apply Below.drew | (apply Below.tr; assumption)))⟩
  have e : (decide (3000 < xs0.length) || decide (3000 < xs1.length)) = false := by simp; omega
  have l0 : xs0.length ≤ 3000 := by omega
  have l1 : xs1.length ≤ 3000 := by omega
  clear hL
  go_enter Try.func4, Try.ntmps4
  go_wp2_with fail
  refine (a2Long_any _ _ _ _ _ _ _ m0 m1).mono ?_
  rw [e]
  rintro e w1 ⟨rfl, rfl⟩
  clear e
  go_wp2_with fail
  refine (a2Mags_any A0 c0 xs0 _ r0 wf0 l0).mono ?_
  rintro e w1 ⟨ys, Ay, cy, rfl, oy, hb1, y1, y2, yv⟩
  have ry : Rd encI 1 w1 w1.heap.size Ay ys := rd_of_own (enc := encI) (k := 1) (c := cy) (fun _ => rfl) oy
  obtain ⟨a, ha⟩ : ∃ x, ys[0]? = some x := getx (by omega)
  obtain ⟨b, hbb⟩ : ∃ x, ys[ys.length - 1]? = some x := getx (by omega)
  obtain ⟨bb, o, rfl, hbB, e0⟩ := ry.at1 ha rfl
  obtain ⟨_, _, e1, _, e2⟩ := ry.at1 hbb rfl
  simp at e1; obtain ⟨rfl, rfl⟩ := e1
  have e2 : w1.cell? ⟨bb, o + (ys.length - 1), none⟩ = some (.int .i64 b) := e2
  rw [Nat.add_zero] at e0
  have a1 := yv a (List.mem_of_getElem? ha)
  have b1 := yv b (List.mem_of_getElem? hbb)
  obtain ⟨n, hn⟩ : ∃ n, ys.length = n + 1 := ⟨ys.length - 1, by omega⟩
  rw [hn] at e2 y2 y1
  rw [hn]
  rw [Nat.add_sub_cancel] at e2
  have rr1 := hid ((r1.below hb1 (Nat.le_refl _)).more hb1.size)
  have hw1 := hid hb1
  clear ry oy yv ha hbb hn r0 r1 wf0 hb1
  go_wp2_with fail
  refine (a2At_any A1 c1 xs1 0 20 _ rr1.out wf1 l1 (by omega) (by omega)).mono ?_
  rintro e w2 ⟨⟨z, rfl, z0, z1⟩, rfl⟩
  have g1 : inB a (-2000) 20000 = true := inB_true.2 a1
  have g2 : inB b (-2000) 20000 = true := inB_true.2 b1
  have g3 : inB (1 + z) 1 50 = true := inB_true.2 (by omega)
  go_wp2_with fail
  refine (stepSize_any a b (1 + z) _ g1 g2 g3).mono ?_
  rintro e w4 ⟨rfl, hb4⟩
  obtain ⟨s, hs⟩ : ∃ s : Int, s = 1 + z := ⟨_, rfl⟩
  rw [← hs]
  have s1 : 1 ≤ s := by omega
  have s2 : s ≤ 20 := by omega
  have EM := fr_mul (b - a) (d := s) (by omega)
  have DB := frD_pos (b - a) (d := s) (by omega)
  have NB := frN_bd (b - a) s
  generalize frN (b - a) s = N at *
  generalize frD (b - a) s = D at *
  have N1 : -22000 ≤ N := by omega
  have N2 : N ≤ 22000 := by omega
  have D1 := DB.1
  have D2 : D ≤ 20 := by omega
  have t1 : decide (D < 1) = false := by simp; omega
  have hw4 : Below w.heap.size w w4 := Below.tr hb4 hw1.out
  have hz4 := hb4.size
  have NR := near_bd N (D := D) (by omega)
  have NL := near_le N (D := D) (by omega)
  have m1' := mul_bd (a := N) (b := s) (A := 22000) (B := 20) (by omega) (by omega) (by omega) (by omega)
  have m2' := mul_bd (a := b - a) (b := D) (A := 22000) (B := 20) (by omega) (by omega) (by omega) (by omega)
  have t2 : (N * s != (b - a) * D) = false := by simpa using EM
  have EB : Hid (a * D + s * N = b * D) := hid (by rw [Int.sub_mul] at EM; rw [Int.mul_comm s N]; omega)
  have EA : Hid (a * D + 0 * N = a * D) := hid (by rw [Int.zero_mul, Int.add_zero])
  have EM := hid EM
  have k1 : inB s (-50) 50 = true := inB_true.2 (by omega)
  have k2 : inB (0 : Int) (-50) 50 = true := by decide
  have k3 : inB N (-1000000) 1000000 = true := inB_true.2 (by omega)
  have k4 : inB D 1 1000 = true := inB_true.2 (by omega)
  have k5 : inB D 1 1000000000 = true := inB_true.2 (by omega)
  have k6 : inB N (-1000000000000000) 1000000000000000 = true := inB_true.2 (by omega)
  clear hs z0 z1 g3 NB DB EM
  have hb0 := hb4
  go_wp2_with fail
  refine (bySteps_any a s N D b _ g1 k1 k3 k4 g2 EB.out).mono ?_
  rintro e w5 ⟨rfl, hb5⟩
  obtain ⟨hc5, _⟩ := bcell hb5
  have hz5 := hb5.size
  simp at hz5
  have x0 := (hc5 (w4.heap.size) 0 (by simp)).trans (show (w4.alloc (.cells #[.int .i64 N, .int .i64 D] 30)).cell? ⟨w4.heap.size, 0, none⟩ = some (.int .i64 N) from by simp [go_sem])
  have x1 := (hc5 (w4.heap.size) 1 (by simp)).trans (show (w4.alloc (.cells #[.int .i64 N, .int .i64 D] 30)).cell? ⟨w4.heap.size, 1, none⟩ = some (.int .i64 D) from by simp [go_sem])
  clear hc5
  go_wp2_with fail
  refine (bySteps_any a 0 N D a _ g1 k2 k3 k4 g1 EA.out).mono ?_
  rintro e w6 ⟨rfl, hb6⟩
  obtain ⟨hc6, _⟩ := bcell hb6
  have hz6 := hb6.size
  have x2 := (hc6 (w4.heap.size) 0 (by omega)).trans x0
  have x3 := (hc6 (w4.heap.size) 1 (by omega)).trans x1
  clear hc6
  go_wp2_with fail
  refine (roundFraction_any N D _ k5 k6).mono ?_
  rintro e w7 ⟨rfl, hb7⟩
  obtain ⟨hc7, _⟩ := bcell hb7
  have x4 := (hc7 (w4.heap.size) 0 (by omega)).trans x2
  have x5 := (hc7 (w4.heap.size) 1 (by omega)).trans x3
  clear hc7
  generalize nearI N D = q at *
  have m3 := mul_bd (a := 2 * q) (b := D) (A := 50000) (B := 20) (by omega) (by omega) (by omega) (by omega)
  have t3 : decide (2 * q * D ≤ 2 * N + D) = true := by simpa using NR.1
  have t4 : decide (2 * N - D < 2 * q * D) = true := by simpa using NR.2
  have hw7 : Below w.heap.size w w7 := Below.tr hb7 (Below.tr hb6 (Below.tr hb5 (Below.al hw4 _)))
  go_wp2
  go_ret
  exact ⟨rfl, hw7⟩
namespace fnSteps
open Go.ChangeShapes Go.WideShapes Go.ChangeAt Go.RowKit Go.Deep Go.Joins
set_option linter.unusedVariables false
theorem own : ownKnob Try.prog.godebug = none := by kernel_rfl
theorem laidOut : laidOutB Try.prog = true := by kernel_rfl
set_option maxRecDepth 100000 in
theorem lifted (os : Os) (started : os.Started) (H : Type) (enc : TypeId × Value → H) :
    ReturnsInHanded {} Try.checked os 4 .any (Rows.fnStepsSpec.pre6 enc Try.prog Try.f4 Rows.fnStepsRow.domain false) (Rows.fnStepsSpec.post enc Try.prog Try.f4 false true false false) := by
  refine returnsInHanded_of_change (C := Try.checked) own started (by kernel_rfl) Try.func4
    (ChangeSpec.witness6 (enc := enc) (C := Try.checked) false ⟨#[], #[.slice none 0 0, .slice none 0 0], []⟩ 8 (by kernel_rfl) (by kernel_rfl) (by kernel_rfl) (by kernel_rfl)) ?_
  intro W base args ds gs before hval0 hW hcnd _
  have hval : ∀ (j : Nat) t v, Try.f4.params[j]? = some t → args[j]? = some v → Value.okWide Try.prog W .any base t v := hval0
  have hW' := hW
  obtain ⟨p, q, hA0, hV, rfl, hfz, hnd⟩ := hW
  have hA : DataW.TrodAll enc Try.prog W 0 (fun _ => true) true Try.f4.params.toList args.toList ds p := hA0
  rw [Try.params4] at hA hval
  obtain ⟨v0, vs0, d0, ds0, p0, q0, hargs, rfl, rfl, h0, r0⟩ := trodAll_cons hA
  obtain ⟨v1, vs1, d1, ds1, p1, q1, rfl, rfl, rfl, h1, r1⟩ := trodAll_cons r0
  obtain ⟨rfl, rfl, rfl⟩ := trodAll_nil r1
  obtain rfl : args = #[v0, v1] := by cases args; simp_all
  obtain ⟨rfl, rfl⟩ := trodVars_none hV
  have k0 := h0
  have lt0 : ∀ x ∈ p0, x.block < W.heap.size := by obtain ⟨m, hm⟩ := k0; exact DataW.trod_lt m _ _ _ hm
  have k1 := h1
  have lt1 : ∀ x ∈ p1, x.block < W.heap.size := by obtain ⟨m, hm⟩ := k1; exact DataW.trod_lt m _ _ _ hm
  obtain ⟨A0, len0, cap0, rfl⟩ := okWide_slice Try.underlying22 (hval 0 22 v0 rfl rfl)
  obtain ⟨xs0, rfl, rd0, wf0, ml0⟩ : ∃ xs : List _, xs.length = len0 ∧ Rd encB 1 W W.heap.size A0 xs ∧ (∀ x ∈ xs, 0 ≤ x ∧ x < 256) ∧ len0 ≤ maxLen := by
    obtain ⟨fuel, hf⟩ := h0
    exact rd_open (encA := encB) (wf := fun x => 0 ≤ x ∧ x < 256) (k := 1) (by decide) (fun _ => rfl) Try.underlying22 (by kernel_rfl) (dec_byte Try.underlying5) (by simpa [Value.cells] using hf)
  obtain ⟨A1, len1, cap1, rfl⟩ := okWide_slice Try.underlying22 (hval 1 22 v1 rfl rfl)
  obtain ⟨xs1, rfl, rd1, wf1, ml1⟩ : ∃ xs : List _, xs.length = len1 ∧ Rd encB 1 W W.heap.size A1 xs ∧ (∀ x ∈ xs, 0 ≤ x ∧ x < 256) ∧ len1 ≤ maxLen := by
    obtain ⟨fuel, hf⟩ := h1
    exact rd_open (encA := encB) (wf := fun x => 0 ≤ x ∧ x < 256) (k := 1) (by decide) (fun _ => rfl) Try.underlying22 (by kernel_rfl) (dec_byte Try.underlying5) (by simpa [Value.cells] using hf)
  clear hA0 hval0
  refine (steps_law W A0 cap0 xs0 rd0 wf0 ml0 A1 cap1 xs1 rd1 wf1 ml1).mono fun e W' ⟨he, bel⟩ => ?_
  subst he
  exact ⟨_, rfl, _, _, _, [], _, [], hW', trodAll_mk1 (shut_bool Try.underlying4 _), (trodAll_cons_mk (Below.trod laidOut (by kernel_rfl) (of_decide_eq_true (by kernel_rfl)) k0 bel lt0) (trodAll_cons_mk (Below.trod laidOut (by kernel_rfl) (of_decide_eq_true (by kernel_rfl)) k1 bel lt1) trodAll_mk0)), rfl, bel.frame _, fun h => by cases h⟩

theorem proved : Rows.FnStepsSaid :=
  OpenClaim.holds_of_wide 4 Try.f4 rfl rfl rfl rfl rfl rfl rfl ⟨rfl, rfl, rfl, rfl, rfl⟩ rfl rfl rfl rfl rfl (by kernel_rfl) Try.func4 (by kernel_rfl)
    (of_decide_eq_true (by kernel_rfl)) (by unfold Func.isWrapper; first | (rw [if_pos (by decide +kernel)]; kernel_rfl) | (rw [if_neg (by decide +kernel)]; exact ⟨rfl, rfl⟩))
    (fun os started H enc _ => lifted os started H enc)
#print axioms proved
end fnSteps
end Go.Proofs.Ytpjmpeeclecfeaa
