/- Contracts: the size of a step, a magnitude by steps, a rounded fraction; in the program. -/
import Derived.Test.YtpjmpeeclecfeaaC00
import Derived.Test.YtpjmpeeclecfeaaCGcd
namespace Go.Proofs.Ytpjmpeeclecfeaa
open Go.RowKit
set_option linter.unusedVariables false
theorem fr_mul (n : Int) {d : Int} (hd : 0 < d) : frN n d * d = n * frD n d := by
  have h1 : ((Int.gcd n d : Nat) : Int) ∣ n := Int.gcd_dvd_left ..
  have h2 : ((Int.gcd n d : Nat) : Int) ∣ d := Int.gcd_dvd_right ..
  have e1 : frN n d * (Int.gcd n d : Int) = n := Int.tdiv_mul_cancel h1
  have e2 : frD n d * (Int.gcd n d : Int) = d := Int.tdiv_mul_cancel h2
  have e3 : frN n d * d = frN n d * (frD n d * (Int.gcd n d : Int)) := by rw [e2]
  have e4 : n * frD n d = frN n d * (Int.gcd n d : Int) * frD n d := by rw [e1]
  rw [e3, e4, Int.mul_assoc, Int.mul_comm (frD n d)]
theorem frD_pos (n : Int) {d : Int} (hd : 0 < d) : 1 ≤ frD n d ∧ frD n d ≤ d := by
  have g1 := gcd_pos (a := n) hd
  have h2 : ((Int.gcd n d : Nat) : Int) ∣ d := Int.gcd_dvd_right ..
  have e2 : frD n d * (Int.gcd n d : Int) = d := Int.tdiv_mul_cancel h2
  have h3 : 0 < frD n d := by
    rcases Int.lt_or_le 0 (frD n d) with h | h
    · exact h
    · have := Int.mul_nonpos_of_nonpos_of_nonneg h (Int.le_of_lt g1); omega
  refine ⟨by omega, ?_⟩
  have : frD n d * 1 ≤ frD n d * (Int.gcd n d : Int) := Int.mul_le_mul_of_nonneg_left (by omega) (by omega)
  omega
theorem frN_bd (n d : Int) : (frN n d).natAbs ≤ n.natAbs := Int.natAbs_tdiv_le_natAbs _ _
theorem near_exact (v : Int) {D : Int} (hD : 0 < D) : nearI (v * D) D = v := by
  unfold nearI
  rw [Int.mul_emod_left, Int.mul_ediv_cancel _ (by omega), if_neg (by omega)]
theorem near_bd (N : Int) {D : Int} (hD : 0 < D) : 2 * nearI N D * D ≤ 2 * N + D ∧ 2 * N - D < 2 * nearI N D * D := by
  rw [nearI_round N D hD]
  have e := Int.mul_ediv_add_emod (2 * N + D) (2 * D)
  have m := emod_bd (2 * N + D) (2 * D) (by omega)
  generalize (2 * N + D) / (2 * D) = q at *
  generalize (2 * N + D) % (2 * D) = r at *
  have e2 : 2 * D * q = 2 * q * D := by rw [Int.mul_assoc, Int.mul_comm D q, ← Int.mul_assoc]
  omega
theorem near_le (N : Int) {D : Int} (hD : 0 < D) : (nearI N D).natAbs ≤ N.natAbs + 1 := by
  rw [nearI_round N D hD]
  have e := Int.mul_ediv_add_emod (2 * N + D) (2 * D)
  have m := emod_bd (2 * N + D) (2 * D) (by omega)
  generalize (2 * N + D) / (2 * D) = q at *
  generalize (2 * N + D) % (2 * D) = r at *
  rcases Int.lt_or_le q 0 with h | h
  · have h3 : 2 * D * (q + 1) ≤ 2 * 1 * (q + 1) := Int.mul_le_mul_of_nonpos_right (by omega) (by omega)
    have h4 : 2 * D * (q + 1) = 2 * D * q + 2 * D := by rw [Int.mul_add, Int.mul_one]
    omega
  · have : 2 * 1 * q ≤ 2 * D * q := Int.mul_le_mul_of_nonneg_right (by omega) h
    rcases Int.lt_or_le q 1 with h2 | h2
    · omega
    · have h3 : 2 * D * 1 ≤ 2 * D * q := Int.mul_le_mul_of_nonneg_left h2 (by omega)
      have h4 : 2 * D * q = 2 * D * (q - 1) + 2 * D := by rw [Int.mul_sub, Int.mul_one]; omega
      have h5 : 2 * 1 * (q - 1) ≤ 2 * D * (q - 1) := Int.mul_le_mul_of_nonneg_right (by omega) (by omega)
      omega
set_option maxHeartbeats 1000000 in
theorem stepSize_any (a b s : Int) (w : World) (h1 : inB a (-2000) 20000 = true) (h2 : inB b (-2000) 20000 = true) (h3 : inB s 1 50 = true) :
    Calls Try.prog 10 #[.int .i64 a, .int .i64 b, .int .i64 s] w fun e w' => e = .returned (.tuple #[.agg #[.int .i64 (frN (b - a) s), .int .i64 (frD (b - a) s)], .int .i64 0]) ∧ Below w.heap.size w w' := by
  have q1 := inB_true.1 h1
  have q2 := inB_true.1 h2
  have q3 := inB_true.1 h3
  go_enter Try.func10, Try.ntmps10
  go_wp2_with (first | (go_at_call 20; refine (validMag_any _ _).mono ?_; rintro e w' ⟨rfl, rfl⟩) | (go_at_call 21; refine (in_any _ _ _ _).mono ?_; rintro e w' ⟨rfl, rfl⟩) | (go_at_call 22; refine (lowest_any _ _ _ (by omega) (by omega) (by omega) (by omega)).mono ?_; rintro e w1 ⟨rfl, hb1⟩; obtain ⟨hc_w1, hf_w1⟩ := bcell hb1; have hz_w1 := hb1.size; (try simp at hz_w1); (try have g_w1 : w.heap.size < w1.heap.size := (by omega))))
  exact bodyPost_ret (v := .tuple #[.agg #[.int .i64 (frN (b - a) s), .int .i64 (frD (b - a) s)], .int .i64 0]) (by simp [results, Try.results10, go_sem, *]) rfl ⟨rfl, (by repeat (first | assumption | exact Below.refl _ _ | apply Below.al | apply Below.drewN' | apply Below.drew | (refine Below.sc ?_ (by first | omega | (simp; done) | (simp; omega)) _) | (apply Below.tr; assumption)))⟩
set_option maxHeartbeats 1000000 in
theorem bySteps_any (a k N D v : Int) (w : World) (h1 : inB a (-2000) 20000 = true) (h2 : inB k (-50) 50 = true) (h3 : inB N (-1000000) 1000000 = true) (h4 : inB D 1 1000 = true) (h5 : inB v (-2000) 20000 = true) (hv : a * D + k * N = v * D) :
    Calls Try.prog 11 #[.int .i64 a, .int .i64 k, .agg #[.int .i64 N, .int .i64 D]] w fun e w' => e = .returned (.tuple #[.int .i64 v, .int .i64 0]) ∧ Below w.heap.size w w' := by
  have q1 := inB_true.1 h1
  have q2 := inB_true.1 h2
  have q3 := inB_true.1 h3
  have q4 := inB_true.1 h4
  have b1 := mul_bd (a := a) (b := D) (A := 20000) (B := 1000) (by omega) (by omega) (by omega) (by omega)
  have b2 := mul_bd (a := k) (b := N) (A := 50) (B := 1000000) (by omega) (by omega) (by omega) (by omega)
  have HN : Hid (nearI (a * D + k * N) D = v) := hid (by rw [hv]; exact near_exact v (by omega))
  clear hv
  go_enter Try.func11, Try.ntmps11
  go_wp2_with (first | (go_at_call 20; refine (validMag_any _ _).mono ?_; rintro e w' ⟨rfl, rfl⟩) | (go_at_call 21; refine (in_any _ _ _ _).mono ?_; rintro e w' ⟨rfl, rfl⟩) | (go_at_call 23; refine (nearest_any _ _ _ (by omega) (by omega) (by omega) (by omega)).mono ?_; rw [HN.out]; rintro e w' ⟨rfl, rfl⟩))
  go_ret2
  exact ⟨rfl, (by repeat (first | assumption | exact Below.refl _ _ | apply Below.al | apply Below.drewN' | apply Below.drew | (apply Below.tr; assumption)))⟩
theorem roundFraction_any (N D : Int) (w : World) (h1 : inB D 1 1000000000 = true) (h2 : inB N (-1000000000000000) 1000000000000000 = true) :
    Calls Try.prog 12 #[.agg #[.int .i64 N, .int .i64 D]] w fun e w' => e = .returned (.tuple #[.int .i64 (nearI N D), .int .i64 0]) ∧ Below w.heap.size w w' := by
  have q1 := inB_true.1 h1
  have q2 := inB_true.1 h2
  go_enter Try.func12, Try.ntmps12
  go_wp2_with (first | (go_at_call 21; refine (in_any _ _ _ _).mono ?_; rintro e w' ⟨rfl, rfl⟩) | (go_at_call 23; refine (nearest_any _ _ _ (by omega) (by omega) (by omega) (by omega)).mono ?_; rintro e w' ⟨rfl, rfl⟩))
  go_ret2
  exact ⟨rfl, (by repeat (first | assumption | exact Below.refl _ _ | apply Below.al | apply Below.drewN' | apply Below.drew | (apply Below.tr; assumption)))⟩
end Go.Proofs.Ytpjmpeeclecfeaa
