/- Contracts of the small functions: numbers, times, magnitudes, structs by value. -/
import Derived.Test.YtnkablomkcimaaaBase
import Derived.Test.YtnkablomkcimaaaProg
namespace Go.Proofs.Ytnkablomkcimaaa
open Go.RowKit
set_option linter.unusedVariables false
theorem in_any (n lo hi : Int) (w : World) :
    Calls Try.prog 73 #[.int .i64 n, .int .i64 lo, .int .i64 hi] w fun e w' => e = .returned (.bool (inB n lo hi)) ∧ w = w' := by
  go_enter Try.func73, Try.ntmps73
  go_wp2
  all_goals (go_ret; refine ⟨?_, rfl⟩; simp [inB]; try omega)
theorem in_eq {n lo hi : Int} {v : Bool} (h : inB n lo hi = v) (w : World) :
    Calls Try.prog 73 #[.int .i64 n, .int .i64 lo, .int .i64 hi] w fun e w' => e = .returned (.bool v) ∧ w = w' := by
  subst h; exact in_any n lo hi w
theorem l00In_any (n lo hi : Int) (w : World) :
    Calls Try.prog 70 #[.int .i64 n, .int .i64 lo, .int .i64 hi] w fun e w' => e = .returned (.bool (inB n lo hi)) ∧ w = w' := by
  go_enter Try.func70, Try.ntmps70
  go_wp2
  all_goals (go_ret; refine ⟨?_, rfl⟩; simp [inB]; try omega)
theorem validTime_any (m : Int) (w : World) :
    Calls Try.prog 87 #[.int .i64 m] w fun e w' => e = .returned (.bool (inB m 0 10000000)) ∧ w = w' := by
  go_enter Try.func87, Try.ntmps87
  go_wp2_with (go_at_call 73; refine (in_any _ _ _ _).mono ?_; rintro e w' ⟨rfl, rfl⟩)
  go_ret
  exact ⟨rfl, rfl⟩
theorem l06Time_any (m : Int) (w : World) :
    Calls Try.prog 121 #[.int .i64 m] w fun e w' => e = .returned (.bool (inB m 0 10000000)) ∧ w = w' := by
  go_enter Try.func121, Try.ntmps121
  go_wp2_with (go_at_call 70; refine (l00In_any _ _ _ _).mono ?_; rintro e w' ⟨rfl, rfl⟩)
  go_ret
  exact ⟨rfl, rfl⟩
theorem l09Period_any (m : Int) (w : World) :
    Calls Try.prog 131 #[.int .i64 m] w fun e w' => e = .returned (.bool (inB m 1 1000000)) ∧ w = w' := by
  go_enter Try.func131, Try.ntmps131
  go_wp2_with (go_at_call 70; refine (l00In_any _ _ _ _).mono ?_; rintro e w' ⟨rfl, rfl⟩)
  go_ret
  exact ⟨rfl, rfl⟩
theorem abs_any (n : Int) (w : World) (h1 : -9000000000000000000 ≤ n) (h2 : n ≤ 9000000000000000000) :
    Calls Try.prog 90 #[.int .i64 n] w fun e w' => e = .returned (.int .i64 (absI n)) ∧ w = w' := by
  go_enter Try.func90, Try.ntmps90
  go_wp2
  all_goals (go_ret; exact ⟨ret_int (by unfold absI; omega), rfl⟩)
theorem l02Size_any (n : Int) (w : World) (h1 : -9000000000000000000 ≤ n) (h2 : n ≤ 9000000000000000000) :
    Calls Try.prog 140 #[.int .i64 n] w fun e w' => e = .returned (.int .i64 (absI n)) ∧ w = w' := by
  go_enter Try.func140, Try.ntmps140
  go_wp2
  all_goals (go_ret; exact ⟨ret_int (by unfold absI; omega), rfl⟩)
theorem floorDiv_any (a b : Int) (w : World) (h1 : -4000000000000000000 ≤ a) (h2 : a ≤ 4000000000000000000) (hb : 0 < b) :
    Calls Try.prog 127 #[.int .i64 a, .int .i64 b] w fun e w' => e = .returned (.int .i64 (a / b)) ∧ w = w' := by
  have q := tdiv_bd a b h1 h2 hb
  have hb0 : (b == 0) = false := by simp; omega
  have hb1 : (b == -1) = false := by simp; omega
  by_cases hm : a.tmod b < 0
  all_goals
    go_enter Try.func127, Try.ntmps127
    go_wp2
    go_ret
    exact ⟨ret_int (by first | exact floor_neg hb hm | exact floor_pos hb (by omega)), rfl⟩
theorem l02Floor_any (a b : Int) (w : World) (h1 : -4000000000000000000 ≤ a) (h2 : a ≤ 4000000000000000000) (hb : 0 < b) :
    Calls Try.prog 144 #[.int .i64 a, .int .i64 b] w fun e w' => e = .returned (.int .i64 (a / b)) ∧ w = w' := by
  have q := tdiv_bd a b h1 h2 hb
  have hb0 : (b == 0) = false := by simp; omega
  have hb1 : (b == -1) = false := by simp; omega
  by_cases hm : a.tmod b < 0
  all_goals
    go_enter Try.func144, Try.ntmps144
    go_wp2
    go_ret
    exact ⟨ret_int (by first | exact floor_neg hb hm | exact floor_pos hb (by omega)), rfl⟩
theorem mod_any (a b : Int) (w : World) (h1 : -2000000000000000000 ≤ a) (h2 : a ≤ 2000000000000000000) (hb : 0 < b) (hb2 : b ≤ 2000000000000000000) :
    Calls Try.prog 125 #[.int .i64 a, .int .i64 b] w fun e w' => e = .returned (.int .i64 (a % b)) ∧ w = w' := by
  have q := ediv_bd a b _ h1 h2 hb
  have q2 := divmul_bd a b _ h1 h2 hb hb2
  have q3 := emod_bd a b hb
  go_enter Try.func125, Try.ntmps125
  go_wp2_with (go_at_call 127; refine (floorDiv_any a b _ (by omega) (by omega) hb).mono ?_; rintro e w' ⟨rfl, rfl⟩)
  go_ret
  exact ⟨ret_int (sub_div_mul a b), rfl⟩
theorem nearest_any (a b : Int) (w : World) (h1 : -2000000000000000000 ≤ a) (h2 : a ≤ 2000000000000000000) (hb : 0 < b) (hb2 : b ≤ 2000000000000000000) :
    Calls Try.prog 92 #[.int .i64 a, .int .i64 b] w fun e w' => e = .returned (.int .i64 (nearI a b)) ∧ w = w' := by
  have q := ediv_bd a b _ h1 h2 hb
  have q2 := divmul_bd a b _ h1 h2 hb hb2
  have q3 := emod_bd a b hb
  have e := sub_div_mul a b
  by_cases hr : b - a % b ≤ a % b
  · have HE : Hid (nearI a b = a / b + 1) := by unfold Hid nearI; rw [if_pos hr]
    have hr' : b - (a - a / b * b) ≤ a - a / b * b := by rw [e]; exact hr
    clear e
    go_enter Try.func92, Try.ntmps92
    go_wp2_with (go_at_call 127; refine (floorDiv_any a b _ (by omega) (by omega) hb).mono ?_; rintro e w' ⟨rfl, rfl⟩)
    go_ret
    exact ⟨ret_int HE.out.symm, rfl⟩
  · have HE : Hid (nearI a b = a / b) := by unfold Hid nearI; rw [if_neg hr]
    have hr' : a - a / b * b < b - (a - a / b * b) := by rw [e]; omega
    clear e
    go_enter Try.func92, Try.ntmps92
    go_wp2_with (go_at_call 127; refine (floorDiv_any a b _ (by omega) (by omega) hb).mono ?_; rintro e w' ⟨rfl, rfl⟩)
    go_ret
    exact ⟨ret_int HE.out.symm, rfl⟩
theorem toEphemeris_any (a b : Int) (w : World) :
    Calls Try.prog 98 #[.agg #[.int .i64 a, .int .i64 b]] w fun e w' => e = .returned (.agg #[.int .i64 a, .int .i64 b]) ∧ Below w.heap.size w w' := by
  go_enter Try.func98, Try.ntmps98
  go_wp2
  exact bodyPost_ret (v := .agg #[.int .i64 a, .int .i64 b]) (by simp [results, Try.results98, go_sem]) rfl ⟨rfl, (by repeat (first | assumption | exact Below.refl _ _ | apply Below.al | apply Below.drewN' | apply Below.drew | (apply Below.tr; assumption)))⟩
def ephB (e p : Int) : Bool := inB e 0 10000000 && inB p 1 1000000
theorem validEphemeris_any (a b : Int) (w : World) :
    Calls Try.prog 88 #[.agg #[.int .i64 a, .int .i64 b]] w fun e w' => e = .returned (.bool (ephB a b)) ∧ Below w.heap.size w w' := by
  cases h1 : inB a 0 10000000
  all_goals
    go_enter Try.func88, Try.ntmps88
    go_wp2_with (first | (go_at_call 87; refine (validTime_any _ _).mono ?_; rintro e w' ⟨rfl, rfl⟩) | (go_at_call 73; refine (in_any _ _ _ _).mono ?_; rintro e w' ⟨rfl, rfl⟩))
    go_ret
    exact ⟨ret_bool (by simp [ephB, *]), (by repeat (first | assumption | exact Below.refl _ _ | apply Below.al | apply Below.drewN' | apply Below.drew | (apply Below.tr; assumption)))⟩
theorem l09Ok_any (a b : Int) (w : World) :
    Calls Try.prog 95 #[.agg #[.int .i64 a, .int .i64 b]] w fun e w' => e = .returned (.bool (ephB a b)) ∧ Below w.heap.size w w' := by
  cases h1 : inB a 0 10000000
  all_goals
    go_enter Try.func95, Try.ntmps95
    go_wp2_with (first | (go_at_call 121; refine (l06Time_any _ _).mono ?_; rintro e w' ⟨rfl, rfl⟩) | (go_at_call 131; refine (l09Period_any _ _).mono ?_; rintro e w' ⟨rfl, rfl⟩))
    go_ret
    exact ⟨ret_bool (by simp [ephB, *]), (by repeat (first | assumption | exact Below.refl _ _ | apply Below.al | apply Below.drewN' | apply Below.drew | (apply Below.tr; assumption)))⟩
def codeET (a b t : Int) : Int := if ephB a b = true then (if inB t 0 10000000 = true then 0 else 2) else 1
theorem codeET_zero {a b t : Int} (h : codeET a b t = 0) : 0 ≤ a ∧ a ≤ 10000000 ∧ 1 ≤ b ∧ b ≤ 1000000 ∧ 0 ≤ t ∧ t ≤ 10000000 := by
  unfold codeET at h
  split at h
  · rename_i h1
    split at h
    · rename_i h2
      simp only [ephB, Bool.and_eq_true, inB_true] at h1 h2
      omega
    · simp at h
  · simp at h
theorem l09Code_any (a b t : Int) (w : World) :
    Calls Try.prog 85 #[.agg #[.int .i64 a, .int .i64 b], .int .i64 t] w fun e w' => e = .returned (.int .i64 (codeET a b t)) ∧ Below w.heap.size w w' := by
  cases h1 : ephB a b <;> cases h2 : inB t 0 10000000
  all_goals
    go_enter Try.func85, Try.ntmps85
    go_wp2_with (first | (go_at_call 121; refine (l06Time_any _ _).mono ?_; rintro e w' ⟨rfl, rfl⟩) | (go_at_call 95; refine (l09Ok_any _ _ _).mono ?_; rintro e w1 ⟨rfl, hb1⟩; obtain ⟨hc_w1, hf_w1⟩ := bcell hb1; have hz_w1 := hb1.size))
    go_ret
    exact ⟨ret_int (by simp [codeET, *]), (by repeat (first | assumption | exact Below.refl _ _ | apply Below.al | apply Below.drewN' | apply Below.drew | (apply Below.tr; assumption)))⟩
def nextI (e p t : Int) : Int := t + (e - t) % p
theorem next_any (a b t : Int) (w : World) (h1 : 0 ≤ a) (h2 : a ≤ 10000000) (h3 : 1 ≤ b) (h4 : b ≤ 1000000) (h5 : 0 ≤ t) (h6 : t ≤ 10000000) :
    Calls Try.prog 84 #[.agg #[.int .i64 a, .int .i64 b], .int .i64 t] w fun e w' => e = .returned (.int .i64 (nextI a b t)) ∧ Below w.heap.size w w' := by
  have q3 := emod_bd (a - t) b (by omega)
  go_enter Try.func84, Try.ntmps84
  go_wp2_with (go_at_call 125; refine (mod_any _ _ _ (by omega) (by omega) (by omega) (by omega)).mono ?_; rintro e w' ⟨rfl, rfl⟩)
  go_ret
  exact ⟨ret_int rfl, (by repeat (first | assumption | exact Below.refl _ _ | apply Below.al | apply Below.drewN' | apply Below.drew | (apply Below.tr; assumption)))⟩
theorem l09Cycle_any (a b t : Int) (w : World) (h1 : 0 ≤ a) (h2 : a ≤ 10000000) (h3 : 1 ≤ b) (h4 : b ≤ 1000000) (h5 : 0 ≤ t) (h6 : t ≤ 10000000) :
    Calls Try.prog 126 #[.agg #[.int .i64 a, .int .i64 b], .int .i64 t] w fun e w' => e = .returned (.int .i64 ((t - a) / b)) ∧ Below w.heap.size w w' := by
  go_enter Try.func126, Try.ntmps126
  go_wp2_with (go_at_call 144; refine (l02Floor_any _ _ _ (by omega) (by omega) (by omega)).mono ?_; rintro e w' ⟨rfl, rfl⟩)
  go_ret
  exact ⟨ret_int rfl, (by repeat (first | assumption | exact Below.refl _ _ | apply Below.al | apply Below.drewN' | apply Below.drew | (apply Below.tr; assumption)))⟩
theorem l09Phase_any (a b t : Int) (w : World) (h1 : 0 ≤ a) (h2 : a ≤ 10000000) (h3 : 1 ≤ b) (h4 : b ≤ 1000000) (h5 : 0 ≤ t) (h6 : t ≤ 10000000) :
    Calls Try.prog 86 #[.agg #[.int .i64 a, .int .i64 b], .int .i64 t] w fun e w' => e = .returned (.int .i64 ((t - a) % b)) ∧ Below w.heap.size w w' := by
  have q2 := divmul_bd (t - a) b 10000000 (by omega) (by omega) (by omega) (by omega)
  have q3 := emod_bd (t - a) b (by omega)
  go_enter Try.func86, Try.ntmps86
  go_wp2
  refine wp_region_ext (by kernel_rfl) (by kernel_rfl) ?_
  repeat (go_big_quiet_step ((first | (go_at_call 126; exact ext_below (l09Cycle_any _ _ _ _ h1 h2 h3 h4 h5 h6)))))
  refine wpQuiet_nil ?_
  intro w3 hb3
  obtain ⟨hc_w3, hf_w3⟩ := bcell hb3
  have hz_w3 := hb3.size
  go_wp2
  go_ret
  exact ⟨ret_int (sub_div_mul _ _), (by repeat (first | assumption | exact Below.refl _ _ | apply Below.al | apply Below.drewN' | apply Below.drew | (apply Below.tr; assumption)))⟩
theorem next_spec (a b t : Int) (hb : 0 < b) : (if (t - a) % b = 0 then t else t + b - (t - a) % b) = nextI a b t := by
  have e : a - t = -(t - a) := by omega
  have m := emod_bd (t - a) b hb
  have d := Int.emod_def (t - a) b
  unfold nextI
  split
  · rename_i h
    rw [e, Int.emod_eq_zero_of_dvd (Int.dvd_neg.2 (Int.dvd_of_emod_eq_zero h))]; omega
  · rename_i h
    have : (a - t) / b = -((t - a) / b) - 1 := ediv_uniq (r := b - (t - a) % b) hb (by rw [Int.mul_sub, Int.mul_neg]; omega) (by omega) (by omega)
    have d2 := Int.emod_def (a - t) b
    rw [this, Int.mul_sub, Int.mul_neg] at d2
    omega
theorem l09Next_any (a b t : Int) (w : World) (h1 : 0 ≤ a) (h2 : a ≤ 10000000) (h3 : 1 ≤ b) (h4 : b ≤ 1000000) (h5 : 0 ≤ t) (h6 : t ≤ 10000000) :
    Calls Try.prog 133 #[.agg #[.int .i64 a, .int .i64 b], .int .i64 t] w fun e w' => e = .returned (.int .i64 (nextI a b t)) ∧ Below w.heap.size w w' := by
  have q3 := emod_bd (t - a) b (by omega)
  have HE := hid (next_spec a b t (by omega))
  by_cases h0 : (t - a) % b = 0
  · have hb0 : ((t - a) % b == 0) = true := by simpa using h0
    have HF : Hid (t = nextI a b t) := by rw [← HE.out, if_pos h0]; rfl
    clear h0
    go_enter Try.func133, Try.ntmps133
    go_wp2_with (go_at_call 86; refine (l09Phase_any _ _ _ _ h1 h2 h3 h4 h5 h6).mono ?_; rintro e w1 ⟨rfl, hb1⟩; obtain ⟨hc_w1, hf_w1⟩ := bcell hb1; have hz_w1 := hb1.size)
    go_ret
    exact ⟨ret_int HF.out, (by repeat (first | assumption | exact Below.refl _ _ | apply Below.al | apply Below.drewN' | apply Below.drew | (apply Below.tr; assumption)))⟩
  · have hb0 : ((t - a) % b == 0) = false := by simpa using h0
    have HF : Hid (t + b - (t - a) % b = nextI a b t) := by rw [← HE.out, if_neg h0]; rfl
    go_enter Try.func133, Try.ntmps133
    go_wp2_with (go_at_call 86; refine (l09Phase_any _ _ _ _ h1 h2 h3 h4 h5 h6).mono ?_; rintro e w1 ⟨rfl, hb1⟩; obtain ⟨hc_w1, hf_w1⟩ := bcell hb1; have hz_w1 := hb1.size)
    go_ret
    exact ⟨ret_int HF.out, (by repeat (first | assumption | exact Below.refl _ _ | apply Below.al | apply Below.drewN' | apply Below.drew | (apply Below.tr; assumption)))⟩
