/- Contracts: numbers with a fixed number of digits, in the program and in the reference. -/
import Derived.Test.YtiimohofnnphoaaDoorCDec
namespace Go.Proofs.YtiimohofnnphoaaDoor
open Go.RowKit
set_option linter.unusedVariables false
def digs : Nat → Nat → List UInt8
  | 0, _ => []
  | d + 1, n => digs d (n / 10) ++ [UInt8.ofNat (48 + n % 10)]
theorem digs_len : ∀ (d n : Nat), (digs d n).length = d
  | 0, _ => rfl
  | d + 1, n => by simp [digs, digs_len d]
theorem dec_one {n : Nat} (h : n < 10) : decS (n : Int) = ⟨#[UInt8.ofNat (48 + n)]⟩ := by
  unfold decS; rw [Lib.itoa_nonneg, Lib.decDigits_one h]
def padL (j n : Nat) : List UInt8 := List.replicate j 48 ++ Lib.decDigits n
theorem digs_zero : ∀ d, digs d 0 = List.replicate d 48
  | 0 => rfl
  | d + 1 => by
    simp only [digs, Nat.zero_div, Nat.zero_mod, digs_zero d]
    rw [List.replicate_succ']
    rfl
theorem pad_digs : ∀ (d n : Nat), 1 ≤ d → n < 10 ^ d → Lib.nDigits n ≤ d ∧ padL (d - Lib.nDigits n) n = digs d n
  | 0, _, h, _ => by omega
  | d + 1, n, _, hn => by
    by_cases h10 : n < 10
    · rw [Lib.nDigits_small h10]
      refine ⟨by omega, ?_⟩
      unfold padL
      rw [Lib.decDigits_one h10, Nat.add_sub_cancel, digs, show n / 10 = 0 by omega, digs_zero, Nat.mod_eq_of_lt h10]
    · have hd : 1 ≤ d := by
        rcases Nat.eq_zero_or_pos d with rfl | h
        · simp at hn; omega
        · exact h
      obtain ⟨h1, h2⟩ := pad_digs d (n / 10) hd (by rw [Nat.pow_succ] at hn; omega)
      have e : Lib.nDigits n = Lib.nDigits (n / 10) + 1 := by rw [Lib.nDigits, dif_neg h10]
      refine ⟨by omega, ?_⟩
      unfold padL at *
      rw [digs, ← h2, e, Lib.decDigits, dif_neg h10, show d + 1 - (Lib.nDigits (n / 10) + 1) = d - Lib.nDigits (n / 10) by omega]
      simp
theorem padL_len (j n : Nat) : (padL j n).length = j + Lib.nDigits n := by simp [padL, Lib.decDigits_length]
theorem pad_le {d n : Nat} (h : Lib.nDigits n ≤ d ∧ padL (d - Lib.nDigits n) n = digs d n) : (padL 0 n).length ≤ d := by rw [padL_len]; omega
theorem pad_full {d n j : Nat} (h : Lib.nDigits n ≤ d ∧ padL (d - Lib.nDigits n) n = digs d n) (hj : (padL j n).length = d) : padL j n = digs d n := by
  rw [padL_len] at hj
  rw [← h.2, show j = d - Lib.nDigits n by omega]
theorem two_any (n : Nat) (hn : n < 100) (w : World) :
    Calls Tryd.prog 50 #[.int .i64 (n : Int)] w fun e w' => e = .returned (.string ⟨(digs 2 n).toArray⟩) ∧ Below w.heap.size w w' := by
  have HV : Hid (ByteArray.mk (digs 2 n).toArray = decS ((n : Int) / 10) ++ decS ((n : Int) % 10)) := hid (by
    rw [show (n : Int) / 10 = ((n / 10 : Nat) : Int) by omega, show (n : Int) % 10 = ((n % 10 : Nat) : Int) by omega, dec_one (by omega), dec_one (by omega)]
    have e : digs 2 n = [UInt8.ofNat (48 + n / 10)] ++ [UInt8.ofNat (48 + n % 10)] := by
      simp only [digs, List.nil_append]
      rw [show n / 10 % 10 = n / 10 by omega]
    rw [e]; rfl)
  have s1 := decS_size ((n : Int) / 10) (by omega) (by omega)
  have s2 := decS_size ((n : Int) % 10) (by omega) (by omega)
  have C1 := fun W => l01Dec_any ((n : Int) / 10) (by omega) (by omega) W
  have C2 := fun W => l01Dec_any ((n : Int) % 10) (by omega) (by omega) W
  generalize decS ((n : Int) / 10) = x1 at *
  generalize decS ((n : Int) % 10) = x2 at *
  go_enter Tryd.func50, Tryd.ntmps50
  go_wp2_with fail
  refine (C1 _).mono ?_
  rintro e w1 ⟨rfl, hb1⟩
  go_wp2_with fail
  refine (C2 _).mono ?_
  rintro e w2 ⟨rfl, hb2⟩
  go_wp2_with fail
  go_ret
  exact ⟨by rw [HV.out]; rfl, Below.tr hb2 hb1⟩
theorem four_any (n : Nat) (hn : n < 10000) (w : World) :
    Calls Tryd.prog 36 #[.int .i64 (n : Int)] w fun e w' => e = .returned (.string ⟨(digs 4 n).toArray⟩) ∧ Below w.heap.size w w' := by
  have HV : Hid (ByteArray.mk (digs 4 n).toArray = ⟨(digs 2 (n / 100 % 100)).toArray⟩ ++ ⟨(digs 2 (n % 100)).toArray⟩) := hid (by
    have e : digs 4 n = digs 2 (n / 100 % 100) ++ digs 2 (n % 100) := by
      simp only [digs, List.nil_append, List.cons_append]
      rw [show n / 10 / 10 / 10 % 10 = n / 100 % 100 / 10 % 10 by omega, show n / 10 / 10 % 10 = n / 100 % 100 % 10 by omega, show n / 10 % 10 = n % 100 / 10 % 10 by omega, show n % 10 = n % 100 % 10 by omega]
    rw [ByteArray.mk_append_mk, e])
  have s1 : (ByteArray.mk (digs 2 (n / 100 % 100)).toArray).size ≤ 2 := by simp [ByteArray.size, digs_len]
  have s2 : (ByteArray.mk (digs 2 (n % 100)).toArray).size ≤ 2 := by simp [ByteArray.size, digs_len]
  have C1 := fun W => two_any (n / 100 % 100) (by omega) W
  have C2 := fun W => two_any (n % 100) (by omega) W
  have e1 : ((n / 100 % 100 : Nat) : Int) = (n : Int) / 100 % 100 := by omega
  have e2 : ((n % 100 : Nat) : Int) = (n : Int) % 100 := by omega
  rw [e1] at C1
  rw [e2] at C2
  generalize ByteArray.mk (digs 2 (n / 100 % 100)).toArray = x1 at *
  generalize ByteArray.mk (digs 2 (n % 100)).toArray = x2 at *
  clear e1 e2
  go_enter Tryd.func36, Tryd.ntmps36
  go_wp2_with fail
  refine (C1 _).mono ?_
  rintro e w1 ⟨rfl, hb1⟩
  go_wp2_with fail
  refine (C2 _).mono ?_
  rintro e w2 ⟨rfl, hb2⟩
  go_wp2_with fail
  go_ret
  exact ⟨by rw [HV.out]; rfl, Below.tr hb2 hb1⟩
theorem three_any (n : Nat) (hn : n < 1000) (w : World) :
    Calls Tryd.prog 37 #[.int .i64 (n : Int)] w fun e w' => e = .returned (.string ⟨(digs 3 n).toArray⟩) ∧ Below w.heap.size w w' := by
  have HV : Hid (ByteArray.mk (digs 3 n).toArray = (decS ((n : Int) / 100) ++ decS ((n : Int) / 10 % 10)) ++ decS ((n : Int) % 10)) := hid (by
    rw [show (n : Int) / 100 = ((n / 100 : Nat) : Int) by omega, show (n : Int) / 10 % 10 = ((n / 10 % 10 : Nat) : Int) by omega, show (n : Int) % 10 = ((n % 10 : Nat) : Int) by omega, dec_one (by omega), dec_one (by omega), dec_one (by omega)]
    have e : digs 3 n = [UInt8.ofNat (48 + n / 100)] ++ [UInt8.ofNat (48 + n / 10 % 10)] ++ [UInt8.ofNat (48 + n % 10)] := by
      simp only [digs, List.nil_append, List.cons_append]
      rw [show n / 10 / 10 % 10 = n / 100 by omega]
    rw [e]; rfl)
  have s1 := decS_size ((n : Int) / 100) (by omega) (by omega)
  have s2 := decS_size ((n : Int) / 10 % 10) (by omega) (by omega)
  have s3 := decS_size ((n : Int) % 10) (by omega) (by omega)
  have C1 := fun W => l01Dec_any ((n : Int) / 100) (by omega) (by omega) W
  have C2 := fun W => l01Dec_any ((n : Int) / 10 % 10) (by omega) (by omega) W
  have C3 := fun W => l01Dec_any ((n : Int) % 10) (by omega) (by omega) W
  generalize decS ((n : Int) / 100) = x1 at *
  generalize decS ((n : Int) / 10 % 10) = x2 at *
  generalize decS ((n : Int) % 10) = x3 at *
  go_enter Tryd.func37, Tryd.ntmps37
  go_wp2_with fail
  refine (C1 _).mono ?_
  rintro e w1 ⟨rfl, hb1⟩
  go_wp2_with fail
  refine (C2 _).mono ?_
  rintro e w2 ⟨rfl, hb2⟩
  go_wp2_with fail
  refine (C3 _).mono ?_
  rintro e w3 ⟨rfl, hb3⟩
  go_wp2_with fail
  go_ret
  exact ⟨by rw [HV.out]; rfl, Below.tr hb3 (Below.tr hb2 hb1)⟩
set_option maxHeartbeats 1000000 in
theorem padded_any (n d : Nat) (hn : n < 10 ^ d) (h1 : 1 ≤ d) (h2 : d ≤ 4) (w : World) (ht : TabOk w) :
    Calls Tryd.prog 40 #[.int .i64 (n : Int), .int .i64 (d : Int)] w fun e w' => e = .returned (.string ⟨(digs d n).toArray⟩) ∧ Below w.heap.size w w' := by
  have hl : n < 10000 := Nat.lt_of_lt_of_le hn (by have := Nat.pow_le_pow_right (n := 10) (by omega) h2; simpa using this)
  have C1 := implDecimal_any (n : Int) (by omega) (by omega) w ht
  have hD : Hid (decS (n : Int) = ⟨(padL 0 n).toArray⟩) := hid (by unfold decS padL; rw [Lib.itoa_nonneg]; rfl)
  have hP := hid (pad_digs d n h1 hn)
  rw [hD.out] at C1
  clear hn hl
  go_enter Tryd.func40, Tryd.ntmps40
  go_wp2_with fail
  refine C1.mono ?_
  rintro e w1 ⟨rfl, hb1⟩
  go_wp2
  go_loopw [5] (fun v wr => ∃ (j : Nat) (s : ByteArray), v = .string s ∧ s.size ≤ d ∧ Hid (s = ⟨(padL j n).toArray⟩) ∧ w1 = wr) (fun v _ => d - (match v with | .string s => s.size | _ => 0))
  case atStart => exact ⟨0, _, rfl, by have := (pad_le hP.out); simpa [ByteArray.size] using this, hid rfl, by first | rfl | trivial⟩
  case round =>
    obtain ⟨j, s, rfl, hs, HS, rfl⟩ := hrel
    by_cases hlt : s.size < d
    · go_wp2
      go_roundw
      case rel => exact ⟨j + 1, _, rfl, by (rw [ByteArray.size_append]; show 1 + s.size ≤ d; omega), hid (by rw [HS.out]; rfl), by first | rfl | trivial⟩
      case measure => show d - (ByteArray.mk #[48] ++ s).size < d - s.size; rw [ByteArray.size_append]; have e1 : (ByteArray.mk #[48]).size = 1 := rfl; omega
    · have HV : Hid (s = ⟨(digs d n).toArray⟩) := hid (by
        have h3 : s.size = d := by omega
        rw [HS.out] at h3
        rw [HS.out, pad_full hP.out (by simpa [ByteArray.size] using h3)])
      go_wp2
      go_ret
      exact ⟨by rw [HV.out]; rfl, hb1⟩
end Go.Proofs.YtiimohofnnphoaaDoor
