/- Contracts: the texts of times and magnitudes, in the program and in the reference. -/
import Derived.Test.YtiimohofnnphoaaDoorCDig
namespace Go.Proofs.YtiimohofnnphoaaDoor
open Go.RowKit
set_option linter.unusedVariables false
def tmT (t : Int) : ByteArray := if inB t 0 10000000 = true then (decS (t / 10000) ++ ⟨#[46]⟩) ++ ⟨(digs 4 (t % 10000).toNat).toArray⟩ else ⟨#[]⟩
def mgT (m : Int) : ByteArray := if m < 0 then ((⟨#[45]⟩ ++ decS (absI m / 1000)) ++ ⟨#[46]⟩) ++ ⟨(digs 3 (absI m % 1000).toNat).toArray⟩ else (decS (absI m / 1000) ++ ⟨#[46]⟩) ++ ⟨(digs 3 (absI m % 1000).toNat).toArray⟩
theorem l03Time'_any (m : Int) (w : World) :
    Calls Tryd.prog 34 #[.int .i64 m] w fun e w' => e = .returned (.bool (inB m 0 10000000)) ∧ w = w' := by
  go_enter Tryd.func34, Tryd.ntmps34
  go_wp2_with (go_at_call 31; refine (l00In_any _ _ _ _).mono ?_; rintro e w' ⟨rfl, rfl⟩)
  go_ret
  exact ⟨rfl, rfl⟩
set_option maxHeartbeats 1000000 in
theorem specTimeText_any (t : Int) (w : World) :
    Calls Tryd.prog 21 #[.int .i64 t] w fun e w' => e = .returned (.string (tmT t)) ∧ Below w.heap.size w w' := by
  cases h1 : inB t 0 10000000
  · have HV : Hid (tmT t = ⟨#[]⟩) := hid (by simp [tmT, h1])
    go_enter Tryd.func21, Tryd.ntmps21
    go_wp2_with (go_at_call 34; refine (l03Time'_any t _).mono ?_; rintro e w' ⟨rfl, rfl⟩)
    go_ret
    exact ⟨by rw [HV.out]; rfl, Below.refl _ _⟩
  · have HV : Hid (tmT t = (decS (t / 10000) ++ ⟨#[46]⟩) ++ ⟨(digs 4 (t % 10000).toNat).toArray⟩) := hid (by simp [tmT, h1])
    obtain ⟨i1, i2⟩ := inB_true.1 h1
    have s1 := decS_size (t / 10000) (by omega) (by omega)
    have s2 : (ByteArray.mk (digs 4 (t % 10000).toNat).toArray).size ≤ 4 := by simp [ByteArray.size, digs_len]
    have C1 := fun W (hb : Below w.heap.size w W) => l01Dec_any (t / 10000) (by omega) (by omega) W
    have C2 := fun W (hb : Below w.heap.size w W) => four_any (t % 10000).toNat (by omega) W
    rw [show (((t % 10000).toNat : Nat) : Int) = t % 10000 by omega] at C2
    generalize decS (t / 10000) = x1 at *
    generalize ByteArray.mk (digs 4 (t % 10000).toNat).toArray = x2 at *
    go_enter Tryd.func21, Tryd.ntmps21
    go_wp2_with (go_at_call 34; refine (l03Time'_any t _).mono ?_; rintro e w' ⟨rfl, rfl⟩)
    refine (C1 _ (Below.refl _ _)).mono ?_
    rintro e w1 ⟨rfl, hb1⟩
    go_wp2_with fail
    refine (C2 _ hb1).mono ?_
    rintro e w2 ⟨rfl, hb2⟩
    go_wp2_with fail
    go_ret
    exact ⟨by rw [HV.out]; rfl, Below.tr hb2 hb1⟩
set_option maxHeartbeats 1000000 in
theorem implTimeText_any (t : Int) (w : World) (ht : TabOk w) :
    Calls Tryd.prog 24 #[.int .i64 t] w fun e w' => e = .returned (.string (tmT t)) ∧ Below w.heap.size w w' := by
  cases h1 : inB t 0 10000000
  · have HV : Hid (tmT t = ⟨#[]⟩) := hid (by simp [tmT, h1])
    go_enter Tryd.func24, Tryd.ntmps24
    go_wp2_with (go_at_call 38; refine (validTime_any t _).mono ?_; rintro e w' ⟨rfl, rfl⟩)
    go_ret
    exact ⟨by rw [HV.out]; rfl, Below.refl _ _⟩
  · have HV : Hid (tmT t = (decS (t / 10000) ++ ⟨#[46]⟩) ++ ⟨(digs 4 (t % 10000).toNat).toArray⟩) := hid (by simp [tmT, h1])
    obtain ⟨i1, i2⟩ := inB_true.1 h1
    have s1 := decS_size (t / 10000) (by omega) (by omega)
    have s2 : (ByteArray.mk (digs 4 (t % 10000).toNat).toArray).size ≤ 4 := by simp [ByteArray.size, digs_len]
    have C1 := fun W (hb : Below w.heap.size w W) => implDecimal_any (t / 10000) (by omega) (by omega) W (tab_below ht hb)
    have C2 := fun W (hb : Below w.heap.size w W) => padded_any (t % 10000).toNat 4 (by omega) (by omega) (by omega) W (tab_below ht hb)
    rw [show (((t % 10000).toNat : Nat) : Int) = t % 10000 by omega] at C2
    generalize decS (t / 10000) = x1 at *
    generalize ByteArray.mk (digs 4 (t % 10000).toNat).toArray = x2 at *
    go_enter Tryd.func24, Tryd.ntmps24
    go_wp2_with (go_at_call 38; refine (validTime_any t _).mono ?_; rintro e w' ⟨rfl, rfl⟩)
    refine (C1 _ (Below.refl _ _)).mono ?_
    rintro e w1 ⟨rfl, hb1⟩
    go_wp2_with fail
    refine (C2 _ hb1).mono ?_
    rintro e w2 ⟨rfl, hb2⟩
    go_wp2_with fail
    go_ret
    exact ⟨by rw [HV.out]; rfl, Below.tr hb2 hb1⟩
set_option maxHeartbeats 1000000 in
theorem implMagText_any (m : Int) (hm : inB m (-2000) 20000 = true) (w : World) (ht : TabOk w) :
    Calls Tryd.prog 25 #[.int .i64 m] w fun e w' => e = .returned (.string (mgT m)) ∧ Below w.heap.size w w' := by
  obtain ⟨i1, i2⟩ := inB_true.1 hm
  have a0 : 0 ≤ absI m ∧ absI m ≤ 20000 := by unfold absI; split <;> omega
  have s1 := decS_size (absI m / 1000) (by omega) (by omega)
  have s2 : (ByteArray.mk (digs 3 (absI m % 1000).toNat).toArray).size ≤ 3 := by simp [ByteArray.size, digs_len]
  have C1 := fun W (hb : Below w.heap.size w W) => implDecimal_any (absI m / 1000) (by omega) (by omega) W (tab_below ht hb)
  have C2 := fun W (hb : Below w.heap.size w W) => padded_any (absI m % 1000).toNat 3 (by omega) (by omega) (by omega) W (tab_below ht hb)
  rw [show (((absI m % 1000).toNat : Nat) : Int) = absI m % 1000 by omega] at C2
  by_cases hn : m < 0
  · have ha : absI m = -m := by unfold absI; rw [if_pos hn]
    obtain ⟨x1, hx1⟩ : ∃ x1, decS (absI m / 1000) = x1 := ⟨_, rfl⟩
    obtain ⟨x2, hx2⟩ : ∃ x2, ByteArray.mk (digs 3 (absI m % 1000).toNat).toArray = x2 := ⟨_, rfl⟩
    have HV : Hid (mgT m = ((⟨#[45]⟩ ++ x1) ++ ⟨#[46]⟩) ++ x2) := hid (by simp only [mgT]; rw [if_pos hn, hx1, hx2])
    rw [hx1] at s1 C1
    rw [hx2] at s2 C2
    clear hx1 hx2 ha
    
    go_enter Tryd.func25, Tryd.ntmps25
    go_wp2_with (first | (go_at_call 41; refine (abs_any m _ (by omega) (by omega)).mono ?_; rintro e w' ⟨rfl, rfl⟩) | (go_at_call 39; refine (validMag_any m _).mono ?_; rintro e w' ⟨rfl, rfl⟩))
    refine (C1 _ (Below.refl _ _)).mono ?_
    rintro e w1 ⟨rfl, hb1⟩
    go_wp2_with (first | (go_at_call 41; refine (abs_any m _ (by omega) (by omega)).mono ?_; rintro e w' ⟨rfl, rfl⟩) | (go_at_call 39; refine (validMag_any m _).mono ?_; rintro e w' ⟨rfl, rfl⟩))
    refine (C2 _ hb1).mono ?_
    rintro e w2 ⟨rfl, hb2⟩
    go_wp2_with fail
    go_ret
    exact ⟨by rw [HV.out]; rfl, Below.tr hb2 hb1⟩
  · have ha : absI m = m := by unfold absI; rw [if_neg hn]
    obtain ⟨x1, hx1⟩ : ∃ x1, decS (absI m / 1000) = x1 := ⟨_, rfl⟩
    obtain ⟨x2, hx2⟩ : ∃ x2, ByteArray.mk (digs 3 (absI m % 1000).toNat).toArray = x2 := ⟨_, rfl⟩
    have HV : Hid (mgT m = (x1 ++ ⟨#[46]⟩) ++ x2) := hid (by simp only [mgT]; rw [if_neg hn, hx1, hx2])
    rw [hx1] at s1 C1
    rw [hx2] at s2 C2
    clear hx1 hx2 ha
    
    go_enter Tryd.func25, Tryd.ntmps25
    go_wp2_with (first | (go_at_call 41; refine (abs_any m _ (by omega) (by omega)).mono ?_; rintro e w' ⟨rfl, rfl⟩) | (go_at_call 39; refine (validMag_any m _).mono ?_; rintro e w' ⟨rfl, rfl⟩))
    refine (C1 _ (Below.refl _ _)).mono ?_
    rintro e w1 ⟨rfl, hb1⟩
    go_wp2_with (first | (go_at_call 41; refine (abs_any m _ (by omega) (by omega)).mono ?_; rintro e w' ⟨rfl, rfl⟩) | (go_at_call 39; refine (validMag_any m _).mono ?_; rintro e w' ⟨rfl, rfl⟩))
    refine (C2 _ hb1).mono ?_
    rintro e w2 ⟨rfl, hb2⟩
    go_wp2_with fail
    go_ret
    exact ⟨by rw [HV.out]; first | rfl | simp, Below.tr hb2 hb1⟩
set_option maxHeartbeats 1000000 in
theorem l02Text_any (m : Int) (hm : inB m (-2000) 20000 = true) (w : World) :
    Calls Tryd.prog 22 #[.int .i64 m] w fun e w' => e = .returned (.string (mgT m)) ∧ Below w.heap.size w w' := by
  obtain ⟨i1, i2⟩ := inB_true.1 hm
  have a0 : 0 ≤ absI m ∧ absI m ≤ 20000 := by unfold absI; split <;> omega
  have s1 := decS_size (absI m / 1000) (by omega) (by omega)
  have s2 : (ByteArray.mk (digs 3 (absI m % 1000).toNat).toArray).size ≤ 3 := by simp [ByteArray.size, digs_len]
  have C1 := fun W (hb : Below w.heap.size w W) => l01Dec_any (absI m / 1000) (by omega) (by omega) W
  have C2 := fun W (hb : Below w.heap.size w W) => three_any (absI m % 1000).toNat (by omega) W
  rw [show (((absI m % 1000).toNat : Nat) : Int) = absI m % 1000 by omega] at C2
  by_cases hn : m < 0
  · obtain ⟨u, rfl⟩ : ∃ u, m = -u := ⟨-m, by omega⟩
    have ha : absI (-u) = u := by unfold absI; rw [if_pos hn]; omega
    obtain ⟨x1, hx1⟩ : ∃ x1, decS (absI (-u) / 1000) = x1 := ⟨_, rfl⟩
    obtain ⟨x2, hx2⟩ : ∃ x2, ByteArray.mk (digs 3 (absI (-u) % 1000).toNat).toArray = x2 := ⟨_, rfl⟩
    have HV : Hid (mgT (-u) = ((⟨#[45]⟩ ++ x1) ++ ⟨#[46]⟩) ++ x2) := hid (by simp only [mgT]; rw [if_pos hn, hx1, hx2])
    rw [hx1] at s1 C1
    rw [hx2] at s2 C2
    rw [ha] at C1 C2
    clear hx1 hx2
    have k1 : 1 ≤ u := by omega
    go_enter Tryd.func22, Tryd.ntmps22
    go_wp2_with fail
    refine (C1 _ (Below.refl _ _)).mono ?_
    rintro e w1 ⟨rfl, hb1⟩
    go_wp2_with fail
    refine (C2 _ hb1).mono ?_
    rintro e w2 ⟨rfl, hb2⟩
    go_wp2_with fail
    go_ret
    exact ⟨by rw [HV.out]; rfl, Below.tr hb2 hb1⟩
  · have ha : absI m = m := by unfold absI; rw [if_neg hn]
    obtain ⟨x1, hx1⟩ : ∃ x1, decS (absI m / 1000) = x1 := ⟨_, rfl⟩
    obtain ⟨x2, hx2⟩ : ∃ x2, ByteArray.mk (digs 3 (absI m % 1000).toNat).toArray = x2 := ⟨_, rfl⟩
    have HV : Hid (mgT m = (x1 ++ ⟨#[46]⟩) ++ x2) := hid (by simp only [mgT]; rw [if_neg hn, hx1, hx2])
    rw [hx1] at s1 C1
    rw [hx2] at s2 C2
    rw [ha] at C1 C2
    clear hx1 hx2
    
    go_enter Tryd.func22, Tryd.ntmps22
    go_wp2_with fail
    refine (C1 _ (Below.refl _ _)).mono ?_
    rintro e w1 ⟨rfl, hb1⟩
    go_wp2_with fail
    refine (C2 _ hb1).mono ?_
    rintro e w2 ⟨rfl, hb2⟩
    go_wp2_with fail
    go_ret
    exact ⟨by rw [HV.out]; rfl, Below.tr hb2 hb1⟩
end Go.Proofs.YtiimohofnnphoaaDoor
