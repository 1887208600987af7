/- Contracts of the small functions: numbers, times, magnitudes, structs by value. -/
import Derived.Test.YtpfdfbebeckohaaBase
import Derived.Test.YtpfdfbebeckohaaProg
namespace Go.Proofs.Ytpfdfbebeckohaa
open Go.RowKit
set_option linter.unusedVariables false
theorem in_any (n lo hi : Int) (w : World) :
    Calls Try.prog 67 #[.int .i64 n, .int .i64 lo, .int .i64 hi] w fun e w' => e = .returned (.bool (inB n lo hi)) ∧ w = w' := by
  go_enter Try.func67, Try.ntmps67
  go_wp2
  all_goals (go_ret; refine ⟨?_, rfl⟩; simp [inB]; try omega)
theorem in_eq {n lo hi : Int} {v : Bool} (h : inB n lo hi = v) (w : World) :
    Calls Try.prog 67 #[.int .i64 n, .int .i64 lo, .int .i64 hi] w fun e w' => e = .returned (.bool v) ∧ w = w' := by
  subst h; exact in_any n lo hi w
theorem l00In_any (n lo hi : Int) (w : World) :
    Calls Try.prog 64 #[.int .i64 n, .int .i64 lo, .int .i64 hi] w fun e w' => e = .returned (.bool (inB n lo hi)) ∧ w = w' := by
  go_enter Try.func64, Try.ntmps64
  go_wp2
  all_goals (go_ret; refine ⟨?_, rfl⟩; simp [inB]; try omega)
theorem validMag_any (m : Int) (w : World) :
    Calls Try.prog 98 #[.int .i64 m] w fun e w' => e = .returned (.bool (inB m (-2000) 20000)) ∧ w = w' := by
  go_enter Try.func98, Try.ntmps98
  go_wp2_with (go_at_call 67; refine (in_any _ _ _ _).mono ?_; rintro e w' ⟨rfl, rfl⟩)
  go_ret
  exact ⟨rfl, rfl⟩
theorem l02Mag_any (m : Int) (w : World) :
    Calls Try.prog 97 #[.int .i64 m] w fun e w' => e = .returned (.bool (inB m (-2000) 20000)) ∧ w = w' := by
  go_enter Try.func97, Try.ntmps97
  go_wp2_with (go_at_call 64; refine (l00In_any _ _ _ _).mono ?_; rintro e w' ⟨rfl, rfl⟩)
  go_ret
  exact ⟨rfl, rfl⟩
theorem validTime_any (m : Int) (w : World) :
    Calls Try.prog 88 #[.int .i64 m] w fun e w' => e = .returned (.bool (inB m 0 10000000)) ∧ w = w' := by
  go_enter Try.func88, Try.ntmps88
  go_wp2_with (go_at_call 67; refine (in_any _ _ _ _).mono ?_; rintro e w' ⟨rfl, rfl⟩)
  go_ret
  exact ⟨rfl, rfl⟩
theorem l06Time_any (m : Int) (w : World) :
    Calls Try.prog 85 #[.int .i64 m] w fun e w' => e = .returned (.bool (inB m 0 10000000)) ∧ w = w' := by
  go_enter Try.func85, Try.ntmps85
  go_wp2_with (go_at_call 64; refine (l00In_any _ _ _ _).mono ?_; rintro e w' ⟨rfl, rfl⟩)
  go_ret
  exact ⟨rfl, rfl⟩
theorem l09Period_any (m : Int) (w : World) :
    Calls Try.prog 108 #[.int .i64 m] w fun e w' => e = .returned (.bool (inB m 1 1000000)) ∧ w = w' := by
  go_enter Try.func108, Try.ntmps108
  go_wp2_with (go_at_call 64; refine (l00In_any _ _ _ _).mono ?_; rintro e w' ⟨rfl, rfl⟩)
  go_ret
  exact ⟨rfl, rfl⟩
theorem floorDiv_any (a b : Int) (w : World) (h1 : -4000000000000000000 ≤ a) (h2 : a ≤ 4000000000000000000) (hb : 0 < b) :
    Calls Try.prog 110 #[.int .i64 a, .int .i64 b] w fun e w' => e = .returned (.int .i64 (a / b)) ∧ w = w' := by
  have q := tdiv_bd a b h1 h2 hb
  have hb0 : (b == 0) = false := by simp; omega
  have hb1 : (b == -1) = false := by simp; omega
  by_cases hm : a.tmod b < 0
  all_goals
    go_enter Try.func110, Try.ntmps110
    go_wp2
    go_ret
    exact ⟨ret_int (by first | exact floor_neg hb hm | exact floor_pos hb (by omega)), rfl⟩
theorem l02Floor_any (a b : Int) (w : World) (h1 : -4000000000000000000 ≤ a) (h2 : a ≤ 4000000000000000000) (hb : 0 < b) :
    Calls Try.prog 111 #[.int .i64 a, .int .i64 b] w fun e w' => e = .returned (.int .i64 (a / b)) ∧ w = w' := by
  have q := tdiv_bd a b h1 h2 hb
  have hb0 : (b == 0) = false := by simp; omega
  have hb1 : (b == -1) = false := by simp; omega
  by_cases hm : a.tmod b < 0
  all_goals
    go_enter Try.func111, Try.ntmps111
    go_wp2
    go_ret
    exact ⟨ret_int (by first | exact floor_neg hb hm | exact floor_pos hb (by omega)), rfl⟩
theorem mod_any (a b : Int) (w : World) (h1 : -2000000000000000000 ≤ a) (h2 : a ≤ 2000000000000000000) (hb : 0 < b) (hb2 : b ≤ 2000000000000000000) :
    Calls Try.prog 105 #[.int .i64 a, .int .i64 b] w fun e w' => e = .returned (.int .i64 (a % b)) ∧ w = w' := by
  have q := ediv_bd a b _ h1 h2 hb
  have q2 := divmul_bd a b _ h1 h2 hb hb2
  have q3 := emod_bd a b hb
  go_enter Try.func105, Try.ntmps105
  go_wp2_with (go_at_call 110; refine (floorDiv_any a b _ (by omega) (by omega) hb).mono ?_; rintro e w' ⟨rfl, rfl⟩)
  go_ret
  exact ⟨ret_int (sub_div_mul a b), rfl⟩
theorem toThreshold_any (a b : Int) (w : World) :
    Calls Try.prog 35 #[.agg #[.int .i64 a, .int .i64 b]] w fun e w' => e = .returned (.agg #[.int .i64 a, .int .i64 b]) ∧ Below w.heap.size w w' := by
  go_enter Try.func35, Try.ntmps35
  go_wp2
  exact bodyPost_ret (v := .agg #[.int .i64 a, .int .i64 b]) (by simp [results, Try.results35, go_sem]) rfl ⟨rfl, (by repeat (first | assumption | exact Below.refl _ _ | apply Below.al | apply Below.drewN' | apply Below.drew | (apply Below.tr; assumption)))⟩
theorem toEphemeris_any (a b : Int) (w : World) :
    Calls Try.prog 48 #[.agg #[.int .i64 a, .int .i64 b]] w fun e w' => e = .returned (.agg #[.int .i64 a, .int .i64 b]) ∧ Below w.heap.size w w' := by
  go_enter Try.func48, Try.ntmps48
  go_wp2
  exact bodyPost_ret (v := .agg #[.int .i64 a, .int .i64 b]) (by simp [results, Try.results48, go_sem]) rfl ⟨rfl, (by repeat (first | assumption | exact Below.refl _ _ | apply Below.al | apply Below.drewN' | apply Below.drew | (apply Below.tr; assumption)))⟩
def thrB (a b : Int) : Bool := inB a (-2000) 20000 && (inB b (-2000) 20000 && decide (a ≤ b))
theorem validThreshold_any (a b : Int) (w : World) :
    Calls Try.prog 74 #[.agg #[.int .i64 a, .int .i64 b]] w fun e w' => e = .returned (.bool (thrB a b)) ∧ Below w.heap.size w w' := by
  cases h1 : inB a (-2000) 20000 <;> cases h2 : inB b (-2000) 20000
  all_goals
    go_enter Try.func74, Try.ntmps74
    go_wp2_with (go_at_call 98; refine (validMag_any _ _).mono ?_; rintro e w' ⟨rfl, rfl⟩)
    go_ret
    exact ⟨ret_bool (by simp [thrB, *]), (by repeat (first | assumption | exact Below.refl _ _ | apply Below.al | apply Below.drewN' | apply Below.drew | (apply Below.tr; assumption)))⟩
theorem l19Ok_any (a b : Int) (w : World) :
    Calls Try.prog 99 #[.agg #[.int .i64 a, .int .i64 b]] w fun e w' => e = .returned (.bool (thrB a b)) ∧ Below w.heap.size w w' := by
  cases h1 : inB a (-2000) 20000 <;> cases h2 : inB b (-2000) 20000
  all_goals
    go_enter Try.func99, Try.ntmps99
    go_wp2_with (go_at_call 97; refine (l02Mag_any _ _).mono ?_; rintro e w' ⟨rfl, rfl⟩)
    go_ret
    exact ⟨ret_bool (by simp [thrB, *]), (by repeat (first | assumption | exact Below.refl _ _ | apply Below.al | apply Below.drewN' | apply Below.drew | (apply Below.tr; assumption)))⟩
def ephB (e p : Int) : Bool := inB e 0 10000000 && inB p 1 1000000
theorem validEphemeris_any (a b : Int) (w : World) :
    Calls Try.prog 87 #[.agg #[.int .i64 a, .int .i64 b]] w fun e w' => e = .returned (.bool (ephB a b)) ∧ Below w.heap.size w w' := by
  cases h1 : inB a 0 10000000
  all_goals
    go_enter Try.func87, Try.ntmps87
    go_wp2_with (first | (go_at_call 88; refine (validTime_any _ _).mono ?_; rintro e w' ⟨rfl, rfl⟩) | (go_at_call 67; refine (in_any _ _ _ _).mono ?_; rintro e w' ⟨rfl, rfl⟩))
    go_ret
    exact ⟨ret_bool (by simp [ephB, *]), (by repeat (first | assumption | exact Below.refl _ _ | apply Below.al | apply Below.drewN' | apply Below.drew | (apply Below.tr; assumption)))⟩
theorem l09Ok_any (a b : Int) (w : World) :
    Calls Try.prog 103 #[.agg #[.int .i64 a, .int .i64 b]] w fun e w' => e = .returned (.bool (ephB a b)) ∧ Below w.heap.size w w' := by
  cases h1 : inB a 0 10000000
  all_goals
    go_enter Try.func103, Try.ntmps103
    go_wp2_with (first | (go_at_call 85; refine (l06Time_any _ _).mono ?_; rintro e w' ⟨rfl, rfl⟩) | (go_at_call 108; refine (l09Period_any _ _).mono ?_; rintro e w' ⟨rfl, rfl⟩))
    go_ret
    exact ⟨ret_bool (by simp [ephB, *]), (by repeat (first | assumption | exact Below.refl _ _ | apply Below.al | apply Below.drewN' | apply Below.drew | (apply Below.tr; assumption)))⟩
def codeET (a b t : Int) : Int := if ephB a b = true then (if inB t 0 10000000 = true then 0 else 2) else 1
theorem codeET_zero {a b t : Int} (h : codeET a b t = 0) : 0 ≤ a ∧ a ≤ 10000000 ∧ 1 ≤ b ∧ b ≤ 1000000 ∧ 0 ≤ t ∧ t ≤ 10000000 := by
  unfold codeET at h
  split at h
  · rename_i h1
    split at h
    · rename_i h2
      simp only [ephB, Bool.and_eq_true, inB_true] at h1 h2
      omega
    · simp at h
  · simp at h
theorem l09Code_any (a b t : Int) (w : World) :
    Calls Try.prog 84 #[.agg #[.int .i64 a, .int .i64 b], .int .i64 t] w fun e w' => e = .returned (.int .i64 (codeET a b t)) ∧ Below w.heap.size w w' := by
  cases h1 : ephB a b <;> cases h2 : inB t 0 10000000
  all_goals
    go_enter Try.func84, Try.ntmps84
    go_wp2_with (first | (go_at_call 85; refine (l06Time_any _ _).mono ?_; rintro e w' ⟨rfl, rfl⟩) | (go_at_call 103; refine (l09Ok_any _ _ _).mono ?_; rintro e w1 ⟨rfl, hb1⟩; obtain ⟨hc_w1, hf_w1⟩ := bcell hb1; have hz_w1 := hb1.size))
    go_ret
    exact ⟨ret_int (by simp [codeET, *]), (by repeat (first | assumption | exact Below.refl _ _ | apply Below.al | apply Below.drewN' | apply Below.drew | (apply Below.tr; assumption)))⟩
def nextI (e p t : Int) : Int := t + (e - t) % p
theorem next_any (a b t : Int) (w : World) (h1 : 0 ≤ a) (h2 : a ≤ 10000000) (h3 : 1 ≤ b) (h4 : b ≤ 1000000) (h5 : 0 ≤ t) (h6 : t ≤ 10000000) :
    Calls Try.prog 90 #[.agg #[.int .i64 a, .int .i64 b], .int .i64 t] w fun e w' => e = .returned (.int .i64 (nextI a b t)) ∧ Below w.heap.size w w' := by
  have q3 := emod_bd (a - t) b (by omega)
  go_enter Try.func90, Try.ntmps90
  go_wp2_with (go_at_call 105; refine (mod_any _ _ _ (by omega) (by omega) (by omega) (by omega)).mono ?_; rintro e w' ⟨rfl, rfl⟩)
  go_ret
  exact ⟨ret_int rfl, (by repeat (first | assumption | exact Below.refl _ _ | apply Below.al | apply Below.drewN' | apply Below.drew | (apply Below.tr; assumption)))⟩
theorem l09Cycle_any (a b t : Int) (w : World) (h1 : 0 ≤ a) (h2 : a ≤ 10000000) (h3 : 1 ≤ b) (h4 : b ≤ 1000000) (h5 : 0 ≤ t) (h6 : t ≤ 10000000) :
    Calls Try.prog 109 #[.agg #[.int .i64 a, .int .i64 b], .int .i64 t] w fun e w' => e = .returned (.int .i64 ((t - a) / b)) ∧ Below w.heap.size w w' := by
  go_enter Try.func109, Try.ntmps109
  go_wp2_with (go_at_call 111; refine (l02Floor_any _ _ _ (by omega) (by omega) (by omega)).mono ?_; rintro e w' ⟨rfl, rfl⟩)
  go_ret
  exact ⟨ret_int rfl, (by repeat (first | assumption | exact Below.refl _ _ | apply Below.al | apply Below.drewN' | apply Below.drew | (apply Below.tr; assumption)))⟩
theorem l09Phase_any (a b t : Int) (w : World) (h1 : 0 ≤ a) (h2 : a ≤ 10000000) (h3 : 1 ≤ b) (h4 : b ≤ 1000000) (h5 : 0 ≤ t) (h6 : t ≤ 10000000) :
    Calls Try.prog 104 #[.agg #[.int .i64 a, .int .i64 b], .int .i64 t] w fun e w' => e = .returned (.int .i64 ((t - a) % b)) ∧ Below w.heap.size w w' := by
  have q2 := divmul_bd (t - a) b 10000000 (by omega) (by omega) (by omega) (by omega)
  have q3 := emod_bd (t - a) b (by omega)
  go_enter Try.func104, Try.ntmps104
  go_wp2
  refine wp_region_ext (by kernel_rfl) (by kernel_rfl) ?_
  repeat (go_big_quiet_step ((first | (go_at_call 109; exact ext_below (l09Cycle_any _ _ _ _ h1 h2 h3 h4 h5 h6)))))
  refine wpQuiet_nil ?_
  intro w3 hb3
  obtain ⟨hc_w3, hf_w3⟩ := bcell hb3
  have hz_w3 := hb3.size
  go_wp2
  go_ret
  exact ⟨ret_int (sub_div_mul _ _), (by repeat (first | assumption | exact Below.refl _ _ | apply Below.al | apply Below.drewN' | apply Below.drew | (apply Below.tr; assumption)))⟩
theorem next_spec (a b t : Int) (hb : 0 < b) : (if (t - a) % b = 0 then t else t + b - (t - a) % b) = nextI a b t := by
  have e : a - t = -(t - a) := by omega
  have m := emod_bd (t - a) b hb
  have d := Int.emod_def (t - a) b
  unfold nextI
  split
  · rename_i h
    rw [e, Int.emod_eq_zero_of_dvd (Int.dvd_neg.2 (Int.dvd_of_emod_eq_zero h))]; omega
  · rename_i h
    have : (a - t) / b = -((t - a) / b) - 1 := ediv_uniq (r := b - (t - a) % b) hb (by rw [Int.mul_sub, Int.mul_neg]; omega) (by omega) (by omega)
    have d2 := Int.emod_def (a - t) b
    rw [this, Int.mul_sub, Int.mul_neg] at d2
    omega
theorem l09Next_any (a b t : Int) (w : World) (h1 : 0 ≤ a) (h2 : a ≤ 10000000) (h3 : 1 ≤ b) (h4 : b ≤ 1000000) (h5 : 0 ≤ t) (h6 : t ≤ 10000000) :
    Calls Try.prog 86 #[.agg #[.int .i64 a, .int .i64 b], .int .i64 t] w fun e w' => e = .returned (.int .i64 (nextI a b t)) ∧ Below w.heap.size w w' := by
  have q3 := emod_bd (t - a) b (by omega)
  have HE := hid (next_spec a b t (by omega))
  by_cases h0 : (t - a) % b = 0
  · have hb0 : ((t - a) % b == 0) = true := by simpa using h0
    have HF : Hid (t = nextI a b t) := by rw [← HE.out, if_pos h0]; rfl
    clear h0
    go_enter Try.func86, Try.ntmps86
    go_wp2_with (go_at_call 104; refine (l09Phase_any _ _ _ _ h1 h2 h3 h4 h5 h6).mono ?_; rintro e w1 ⟨rfl, hb1⟩; obtain ⟨hc_w1, hf_w1⟩ := bcell hb1; have hz_w1 := hb1.size)
    go_ret
    exact ⟨ret_int HF.out, (by repeat (first | assumption | exact Below.refl _ _ | apply Below.al | apply Below.drewN' | apply Below.drew | (apply Below.tr; assumption)))⟩
  · have hb0 : ((t - a) % b == 0) = false := by simpa using h0
    have HF : Hid (t + b - (t - a) % b = nextI a b t) := by rw [← HE.out, if_neg h0]; rfl
    go_enter Try.func86, Try.ntmps86
    go_wp2_with (go_at_call 104; refine (l09Phase_any _ _ _ _ h1 h2 h3 h4 h5 h6).mono ?_; rintro e w1 ⟨rfl, hb1⟩; obtain ⟨hc_w1, hf_w1⟩ := bcell hb1; have hz_w1 := hb1.size)
    go_ret
    exact ⟨ret_int HF.out, (by repeat (first | assumption | exact Below.refl _ _ | apply Below.al | apply Below.drewN' | apply Below.drew | (apply Below.tr; assumption)))⟩
