/- Contracts: the greatest common divisor, fractions in lowest terms. -/
import Derived.Test.YtlpgnmkhlbddaaaC1
import Derived.BigRegion
namespace Go.Proofs.Ytlpgnmkhlbddaaa
open Go.RowKit
set_option linter.unusedVariables false
theorem gcd_tmod (a b : Int) : Int.gcd b (a.tmod b) = Int.gcd a b := by
  unfold Int.gcd
  rw [Int.natAbs_tmod, Nat.gcd_comm, ← Nat.gcd_rec, Nat.gcd_comm]
theorem gcd_emod {a b : Int} (ha : 0 ≤ a) : Int.gcd b (a % b) = Int.gcd a b := by
  rw [← Int.tmod_eq_emod_of_nonneg ha]; exact gcd_tmod a b
theorem tmod_bd {a b : Int} (hb : ¬ b = 0) : (a.tmod b).natAbs < b.natAbs := by
  rw [Int.natAbs_tmod]; exact Nat.mod_lt _ (by omega)
theorem gcd_pos {a b : Int} (hb : 0 < b) : 0 < (Int.gcd a b : Int) := by
  have := Int.gcd_pos_of_ne_zero_right a (b := b) (by omega)
  omega
theorem gcd_le {a b : Int} (hb : 0 < b) : (Int.gcd a b : Int) ≤ b := by
  have h : Int.gcd a b ∣ b.natAbs := Nat.gcd_dvd_right _ _
  have := Nat.le_of_dvd (by omega) h
  omega
theorem gcd_zero (a : Int) : (Int.gcd a 0 : Int) = absI a := by
  unfold absI; rw [Int.gcd_zero_right]; omega
theorem gcd_size (a b : Int) : Int.gcd (absI a) b = Int.gcd a b := by
  unfold absI; split
  · exact Int.neg_gcd
  · rfl
def frN (n d : Int) : Int := n.tdiv (Int.gcd n d : Int)
def frD (n d : Int) : Int := d.tdiv (Int.gcd n d : Int)
theorem tdiv_le (a : Int) {b : Int} (hb : 0 < b) : (a.tdiv b).natAbs ≤ a.natAbs := Int.natAbs_tdiv_le_natAbs a b
set_option maxHeartbeats 1000000 in
theorem gcd_any (a0 b0 : Int) (w : World) (h1 : -4000000000000000000 ≤ a0) (h2 : a0 ≤ 4000000000000000000) (h3 : -4000000000000000000 ≤ b0) (h4 : b0 ≤ 4000000000000000000) :
    Calls Try.prog 35 #[.int .i64 a0, .int .i64 b0] w fun e w' => e = .returned (.int .i64 (Int.gcd a0 b0 : Int)) ∧ Below w.heap.size w w' := by
  go_enter Try.func35, Try.ntmps35
  go_wp2
  go_loopw [0, 1] (fun av bv wr => ∃ a b : Int, av = .int .i64 a ∧ bv = .int .i64 b ∧ -4000000000000000000 ≤ a ∧ a ≤ 4000000000000000000 ∧ -4000000000000000000 ≤ b ∧ b ≤ 4000000000000000000 ∧ Hid (Int.gcd a0 b0 = Int.gcd a b) ∧ Below w.heap.size w wr) (fun _ bv _ => (intOf bv).natAbs)
  case atStart => exact ⟨a0, b0, rfl, rfl, h1, h2, h3, h4, hid rfl, (by repeat (first | assumption | exact Below.refl _ _ | apply Below.al | apply Below.drewN' | apply Below.drew | (apply Below.tr; assumption)))⟩
  case round =>
    obtain ⟨a, b, rfl, rfl, q1, q2, q3, q4, H, hb9⟩ := hrel
    by_cases hb : b = 0
    · subst hb
      have HE : Hid (absI a = (Int.gcd a0 b0 : Int)) := hid (by rw [H.out, gcd_zero])
      go_wp2_with (go_at_call 29; refine (abs_any _ _ (by omega) (by omega)).mono ?_; rintro e w' ⟨rfl, rfl⟩)
      go_ret
      exact ⟨ret_int HE.out, (by repeat (first | assumption | exact Below.refl _ _ | apply Below.al | apply Below.drewN' | apply Below.drew | (apply Below.tr; assumption)))⟩
    · have hb0 : (b == 0) = false := by simpa using hb
      have hb2 : (b != 0) = true := by simpa using hb
      have m := tmod_bd (a := a) hb
      have m1 : -4000000000000000000 ≤ a.tmod b := by omega
      have m2 : a.tmod b ≤ 4000000000000000000 := by omega
      have HG := hid (gcd_tmod a b)
      by_cases hm : b = -1
      · subst hm
        have HZ : Hid (a.tmod (-1) = 0) := hid (by have := m; simp at this; omega)
        go_wp2
        refine wp_region_ext (by kernel_rfl) (by kernel_rfl) ?_
        repeat (go_big_quiet_step ((first | fail)))
        refine wpQuiet_nil ?_
        intro w3 hb3
        obtain ⟨hc_w3, hf_w3⟩ := bcell hb3
        have hz_w3 := hb3.size
        go_wp2
        go_roundw
        case rel => exact ⟨-1, 0, rfl, rfl, by omega, by omega, by omega, by omega, hid (by rw [H.out, ← HG.out, HZ.out]), (by repeat (first | assumption | exact Below.refl _ _ | apply Below.al | apply Below.drewN' | apply Below.drew | (apply Below.tr; assumption)))⟩
        case measure => simp [intOf]
      · have hb1 : (b == -1) = false := by simpa using hm
        clear hb hm
        go_wp2
        refine wp_region_ext (by kernel_rfl) (by kernel_rfl) ?_
        repeat (go_big_quiet_step ((first | fail)))
        refine wpQuiet_nil ?_
        intro w3 hb3
        obtain ⟨hc_w3, hf_w3⟩ := bcell hb3
        have hz_w3 := hb3.size
        go_wp2
        go_roundw
        case rel => exact ⟨b, a.tmod b, rfl, rfl, by omega, by omega, by omega, by omega, hid (by rw [H.out, HG.out]), (by repeat (first | assumption | exact Below.refl _ _ | apply Below.al | apply Below.drewN' | apply Below.drew | (apply Below.tr; assumption)))⟩
        case measure => first | (simp only [intOf]; exact m) | (simp [intOf]; omega)
set_option maxHeartbeats 2000000 in
theorem lowest_any (n d : Int) (w : World) (h1 : -4000000000000000000 ≤ n) (h2 : n ≤ 4000000000000000000) (h3 : 0 < d) (h4 : d ≤ 4000000000000000000) :
    Calls Try.prog 22 #[.int .i64 n, .int .i64 d] w fun e w' => e = .returned (.agg #[.int .i64 (frN n d), .int .i64 (frD n d)]) ∧ Below w.heap.size w w' := by
  have g1 := gcd_pos (a := n) h3
  have g2 := gcd_le (a := n) h3
  have HS := hid (gcd_size n d)
  have z1 : 0 ≤ absI n := by unfold absI; omega
  have z2 : absI n ≤ 4000000000000000000 := by unfold absI; omega
  have k0 : ((Int.gcd n d : Int) == 0) = false := by (simp <;> omega)
  have k1 : ((Int.gcd n d : Int) == -1) = false := by (simp <;> omega)
  have k2 : decide (d < 0) = false := by simp; omega
  have q := tdiv_bd n _ h1 h2 g1
  have q3 := Int.ediv_nonneg (a := d) (b := (Int.gcd n d : Int)) (by omega) (by omega)
  have q4 := Int.ediv_le_self (Int.gcd n d : Int) (a := d) (by omega)
  have HD : Hid (d / (Int.gcd n d : Int) = frD n d) := hid (by unfold frD; rw [Int.tdiv_eq_ediv_of_nonneg (by omega)])
  have HN : Hid (n.tdiv (Int.gcd n d : Int) = frN n d) := hid rfl
  go_enter Try.func22, Try.ntmps22
  go_wp2_with (first | (go_at_call 35; refine (gcd_any _ _ _ (by omega) (by omega) (by omega) (by omega)).mono ?_; rintro e w1 ⟨rfl, hb1⟩; obtain ⟨hc_w1, hf_w1⟩ := bcell hb1; have hz_w1 := hb1.size; (try simp at hz_w1); (try have g_w1 : w.heap.size < w1.heap.size := (by omega))))
  go_region
  go_wp2
  exact bodyPost_ret (v := .agg #[.int .i64 (frN n d), .int .i64 (frD n d)]) (by simp [results, Try.results22, go_sem, HD.out, HN.out, *]) rfl ⟨rfl, (by repeat (first | assumption | exact Below.refl _ _ | apply Below.al | apply Below.drewN' | apply Below.drew | (refine Below.sc ?_ (by first | omega | (simp; done) | (simp; omega)) _) | (apply Below.tr; assumption)))⟩
