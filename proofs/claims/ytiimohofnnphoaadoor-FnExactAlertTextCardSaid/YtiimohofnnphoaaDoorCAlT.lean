/- Contracts: the text of an alert, in the program and in the reference. -/
import Derived.Test.YtiimohofnnphoaaDoorCTmT
import Derived.Test.YtiimohofnnphoaaDoorCAl
import Derived.Test.YtiimohofnnphoaaDoorC19a
namespace Go.Proofs.YtiimohofnnphoaaDoor
open Go.RowKit
set_option linter.unusedVariables false
def alT (b e p : Int) : ByteArray := if alB [⟨b, e, p⟩] = true then (if 0 ≤ e then (((tmT b ++ ⟨#[32, 116, 111, 32]⟩) ++ tmT e) ++ ⟨#[32, 112, 101, 97, 107, 32]⟩) ++ mgT p else (((tmT b ++ ⟨#[32, 116, 111, 32]⟩) ++ ⟨#[110, 111, 119]⟩) ++ ⟨#[32, 112, 101, 97, 107, 32]⟩) ++ mgT p) else ⟨#[]⟩
theorem sz_lit (l : Array UInt8) : (ByteArray.mk l).size = l.size := rfl
theorem tmT_size (t : Int) : (tmT t).size ≤ 26 := by
  unfold tmT
  split
  · rename_i h
    obtain ⟨h1, h2⟩ := inB_true.1 h
    have := decS_size (t / 10000) (by omega) (by omega)
    simp only [ByteArray.size_append, sz_lit, List.size_toArray, digs_len]
    simp; omega
  · simp [sz_lit]
theorem mgT_size (m : Int) (h : inB m (-2000) 20000 = true) : (mgT m).size ≤ 26 := by
  obtain ⟨h1, h2⟩ := inB_true.1 h
  have a0 : 0 ≤ absI m ∧ absI m ≤ 20000 := by unfold absI; split <;> omega
  have := decS_size (absI m / 1000) (by omega) (by omega)
  unfold mgT
  split
  · simp only [ByteArray.size_append, sz_lit, List.size_toArray, digs_len]; simp; omega
  · simp only [ByteArray.size_append, sz_lit, List.size_toArray, digs_len]; simp; omega
set_option maxHeartbeats 1000000 in
theorem specAlertText_any (b e p : Int) (w : World) :
    Calls Tryd.prog 9 #[.agg #[.int .i64 b, .int .i64 e, .int .i64 p]] w fun r w' => r = .returned (.string (alT b e p)) ∧ Below w.heap.size w w' := by
  have HR : Hid (Rd encAl 3 ((w.alloc (.cells #[.int .i64 b, .int .i64 e, .int .i64 p] 31)).alloc (.cells #[.int .i64 b, .int .i64 e, .int .i64 p] 31)) ((w.alloc (.cells #[.int .i64 b, .int .i64 e, .int .i64 p] 31)).alloc (.cells #[.int .i64 b, .int .i64 e, .int .i64 p] 31)).heap.size (some ⟨w.heap.size + 1, 0, none⟩) [⟨b, e, p⟩]) := hid (by
    have o := World.ownsRow_lit (base := 0) (e := 31) (size := 3) (w.alloc (.cells #[.int .i64 b, .int .i64 e, .int .i64 p] 31)) #[.int .i64 b, .int .i64 e, .int .i64 p] 1 (Nat.zero_le _) (by unfold maxLen; omega) rfl
    have hz : (w.alloc (.cells #[.int .i64 b, .int .i64 e, .int .i64 p] 31)).heap.size = w.heap.size + 1 := by simp
    rw [hz] at o
    exact rd_of_own (enc := encAl) (k := 3) (xs := [⟨b, e, p⟩]) (c := 1) (fun _ => rfl) o)
  have CC := l19List_any (some ⟨w.heap.size + 1, 0, none⟩) 1 [⟨b, e, p⟩] _ HR.out (by simp)
  simp only [List.length_cons, List.length_nil, Nat.zero_add] at CC
  cases h1 : alB [⟨b, e, p⟩]
  · have HV : Hid (alT b e p = ⟨#[]⟩) := hid (by simp [alT, h1])
    rw [h1] at CC
    go_enter Tryd.func9, Tryd.ntmps9
    go_wp2_with (go_at_call 20; refine CC.mono ?_; rintro e w1 ⟨rfl, hb1⟩)
    go_ret
    exact ⟨by rw [HV.out]; rfl, (by repeat (first | assumption | exact Below.refl _ _ | apply Below.al | apply Below.drewN' | apply Below.drew | (refine Below.sc ?_ (by first | omega | (simp; done) | (simp; omega)) _) | (apply Below.tr; assumption)))⟩
  · rw [h1] at CC
    have hq : inB p (-2000) 20000 = true ∧ inB b 0 10000000 = true ∧ (e = -1 ∨ inB e (b + 1) 10000000 = true) := by
      simp only [alB, alGo, alOk, Bool.and_eq_true, Bool.or_eq_true, beq_iff_eq] at h1
      exact ⟨h1.2.1.2.1, h1.2.1.1, h1.2.1.2.2.2⟩
    obtain ⟨hp, hbv, hev⟩ := hq
    have s1 := tmT_size b
    have s2 := tmT_size e
    have s3 := mgT_size p hp
    have CB := fun (W : World) (hb : Below w.heap.size w W) => specTimeText_any b W
    have CE := fun (W : World) (hb : Below w.heap.size w W) => specTimeText_any e W
    have CM := fun (W : World) (hb : Below w.heap.size w W) => l02Text_any p hp W
    obtain ⟨x1, hx1⟩ : ∃ x1, tmT b = x1 := ⟨_, rfl⟩
    obtain ⟨x2, hx2⟩ : ∃ x2, tmT e = x2 := ⟨_, rfl⟩
    obtain ⟨x3, hx3⟩ : ∃ x3, mgT p = x3 := ⟨_, rfl⟩
    rw [hx1] at s1 CB
    rw [hx2] at s2 CE
    rw [hx3] at s3 CM
    by_cases he : 0 ≤ e
    · have HV : Hid (alT b e p = (((x1 ++ ⟨#[32, 116, 111, 32]⟩) ++ x2) ++ ⟨#[32, 112, 101, 97, 107, 32]⟩) ++ x3) := hid (by simp only [alT]; rw [if_pos h1, if_pos he, hx1, hx2, hx3])
      clear hx1 hx2 hx3 hev
      go_enter Tryd.func9, Tryd.ntmps9
      go_wp2_with (go_at_call 20; refine CC.mono ?_; rintro e w1 ⟨rfl, hb1⟩; (have hb2 : Below w.heap.size w w1 := (by repeat (first | assumption | exact Below.refl _ _ | apply Below.al | apply Below.drewN' | apply Below.drew | (apply Below.tr; assumption)))) ; (have hcell : ∀ (k : Nat) (v : Value), ((w.alloc (.cells #[.int .i64 b, .int .i64 e, .int .i64 p] 31)).alloc (.cells #[.int .i64 b, .int .i64 e, .int .i64 p] 31)).cell? ⟨w.heap.size, k, none⟩ = some v → w1.cell? ⟨w.heap.size, k, none⟩ = some v := fun k v h => ((bcell hb1).1 w.heap.size k (by simp; omega)).trans h) ; (have c0 := hcell 0 (.int .i64 b) (by simp [go_sem])) ; (have c1 := hcell 1 (.int .i64 e) (by simp [go_sem])) ; (have c2 := hcell 2 (.int .i64 p) (by simp [go_sem])) ; (have zw : w.heap.size < w1.heap.size := by have := hb1.size; simp at this; omega) ; clear hcell)
      go_wp2_with fail
      refine (CB _ hb2).mono ?_
      rintro e w5 ⟨rfl, hb5⟩
      have c0 := ((bcell hb5).1 w.heap.size 0 zw).trans c0
      have c1 := ((bcell hb5).1 w.heap.size 1 zw).trans c1
      have c2 := ((bcell hb5).1 w.heap.size 2 zw).trans c2
      have hb2 := Below.tr hb5 hb2
      have zw := Nat.lt_of_lt_of_le zw hb5.size
      go_wp2_with fail
      have CE := hid (fun (W : World) (hW : Below w5.heap.size w5 W) => CE W (Below.tr hW hb2))
      have CM := hid (fun (W : World) (hW : Below w5.heap.size w5 W) => CM W (Below.tr hW hb2))
      refine wp_region_ext (by kernel_rfl) (by kernel_rfl) ?_
      iterate 4 (go_big_quiet_step (((go_at_call 21; exact ext_below (CE.out _ (Ext.h _))))))
      iterate 5 (go_big_quiet_step (((go_at_call 22; exact ext_below (CM.out _ (Ext.h _))))))
      iterate 2 (go_big_quiet_step ((fail)))
      refine wpQuiet_nil ?_
      intro w6 hb6
      obtain ⟨hc_w6, hf_w6⟩ := bcell hb6
      have hz_w6 := hb6.size
      go_wp2
      go_ret
      exact ⟨by rw [HV.out]; rfl, Below.tr hb6 hb2⟩
    · have HV : Hid (alT b e p = ((x1 ++ ⟨#[32, 116, 111, 32]⟩) ++ ⟨#[110, 111, 119, 32, 112, 101, 97, 107, 32]⟩) ++ x3) := hid (by simp only [alT]; rw [if_pos h1, if_neg he, hx1, hx3]; rw [show (⟨#[110, 111, 119, 32, 112, 101, 97, 107, 32]⟩ : ByteArray) = ⟨#[110, 111, 119]⟩ ++ ⟨#[32, 112, 101, 97, 107, 32]⟩ from rfl]; simp only [ByteArray.append_assoc])
      clear hx1 hx2 hx3 hev
      go_enter Tryd.func9, Tryd.ntmps9
      go_wp2_with (go_at_call 20; refine CC.mono ?_; rintro e w1 ⟨rfl, hb1⟩; (have hb2 : Below w.heap.size w w1 := (by repeat (first | assumption | exact Below.refl _ _ | apply Below.al | apply Below.drewN' | apply Below.drew | (apply Below.tr; assumption)))) ; (have hcell : ∀ (k : Nat) (v : Value), ((w.alloc (.cells #[.int .i64 b, .int .i64 e, .int .i64 p] 31)).alloc (.cells #[.int .i64 b, .int .i64 e, .int .i64 p] 31)).cell? ⟨w.heap.size, k, none⟩ = some v → w1.cell? ⟨w.heap.size, k, none⟩ = some v := fun k v h => ((bcell hb1).1 w.heap.size k (by simp; omega)).trans h) ; (have c0 := hcell 0 (.int .i64 b) (by simp [go_sem])) ; (have c1 := hcell 1 (.int .i64 e) (by simp [go_sem])) ; (have c2 := hcell 2 (.int .i64 p) (by simp [go_sem])) ; (have zw : w.heap.size < w1.heap.size := by have := hb1.size; simp at this; omega) ; clear hcell)
      go_wp2_with fail
      refine (CB _ hb2).mono ?_
      rintro e w5 ⟨rfl, hb5⟩
      have c0 := ((bcell hb5).1 w.heap.size 0 zw).trans c0
      have c1 := ((bcell hb5).1 w.heap.size 1 zw).trans c1
      have c2 := ((bcell hb5).1 w.heap.size 2 zw).trans c2
      have hb2 := Below.tr hb5 hb2
      have zw := Nat.lt_of_lt_of_le zw hb5.size
      go_wp2_with fail
      refine (CM _ hb2).mono ?_
      rintro e w6 ⟨rfl, hb6⟩
      go_wp2_with fail
      go_ret
      exact ⟨by rw [HV.out]; rfl, Below.tr hb6 hb2⟩
set_option maxHeartbeats 1000000 in
theorem implAlertText_any (b e p : Int) (w : World) (ht : TabOk w) :
    Calls Tryd.prog 11 #[.agg #[.int .i64 b, .int .i64 e, .int .i64 p]] w fun r w' => r = .returned (.string (alT b e p)) ∧ Below w.heap.size w w' := by
  have HR : Hid (Rd encAl 3 ((w.alloc (.cells #[.int .i64 b, .int .i64 e, .int .i64 p] 31)).alloc (.cells #[.int .i64 b, .int .i64 e, .int .i64 p] 31)) ((w.alloc (.cells #[.int .i64 b, .int .i64 e, .int .i64 p] 31)).alloc (.cells #[.int .i64 b, .int .i64 e, .int .i64 p] 31)).heap.size (some ⟨w.heap.size + 1, 0, none⟩) [⟨b, e, p⟩]) := hid (by
    have o := World.ownsRow_lit (base := 0) (e := 31) (size := 3) (w.alloc (.cells #[.int .i64 b, .int .i64 e, .int .i64 p] 31)) #[.int .i64 b, .int .i64 e, .int .i64 p] 1 (Nat.zero_le _) (by unfold maxLen; omega) rfl
    have hz : (w.alloc (.cells #[.int .i64 b, .int .i64 e, .int .i64 p] 31)).heap.size = w.heap.size + 1 := by simp
    rw [hz] at o
    exact rd_of_own (enc := encAl) (k := 3) (xs := [⟨b, e, p⟩]) (c := 1) (fun _ => rfl) o)
  have CC := areAlerts_any (some ⟨w.heap.size + 1, 0, none⟩) 1 [⟨b, e, p⟩] _ HR.out (by simp)
  simp only [List.length_cons, List.length_nil, Nat.zero_add] at CC
  cases h1 : alB [⟨b, e, p⟩]
  · have HV : Hid (alT b e p = ⟨#[]⟩) := hid (by simp [alT, h1])
    rw [h1] at CC
    go_enter Tryd.func11, Tryd.ntmps11
    go_wp2_with (go_at_call 23; refine CC.mono ?_; rintro e w1 ⟨rfl, hb1⟩)
    go_ret
    exact ⟨by rw [HV.out]; rfl, (by repeat (first | assumption | exact Below.refl _ _ | apply Below.al | apply Below.drewN' | apply Below.drew | (refine Below.sc ?_ (by first | omega | (simp; done) | (simp; omega)) _) | (apply Below.tr; assumption)))⟩
  · rw [h1] at CC
    have hq : inB p (-2000) 20000 = true ∧ inB b 0 10000000 = true ∧ (e = -1 ∨ inB e (b + 1) 10000000 = true) := by
      simp only [alB, alGo, alOk, Bool.and_eq_true, Bool.or_eq_true, beq_iff_eq] at h1
      exact ⟨h1.2.1.2.1, h1.2.1.1, h1.2.1.2.2.2⟩
    obtain ⟨hp, hbv, hev⟩ := hq
    have s1 := tmT_size b
    have s2 := tmT_size e
    have s3 := mgT_size p hp
    have CB := fun (W : World) (hb : Below w.heap.size w W) => implTimeText_any b W (tab_below ht hb)
    have CE := fun (W : World) (hb : Below w.heap.size w W) => implTimeText_any e W (tab_below ht hb)
    have CM := fun (W : World) (hb : Below w.heap.size w W) => implMagText_any p hp W (tab_below ht hb)
    obtain ⟨x1, hx1⟩ : ∃ x1, tmT b = x1 := ⟨_, rfl⟩
    obtain ⟨x2, hx2⟩ : ∃ x2, tmT e = x2 := ⟨_, rfl⟩
    obtain ⟨x3, hx3⟩ : ∃ x3, mgT p = x3 := ⟨_, rfl⟩
    rw [hx1] at s1 CB
    rw [hx2] at s2 CE
    rw [hx3] at s3 CM
    by_cases he : 0 ≤ e
    · have HV : Hid (alT b e p = (((x1 ++ ⟨#[32, 116, 111, 32]⟩) ++ x2) ++ ⟨#[32, 112, 101, 97, 107, 32]⟩) ++ x3) := hid (by simp only [alT]; rw [if_pos h1, if_pos he, hx1, hx2, hx3])
      clear hx1 hx2 hx3 hev
      go_enter Tryd.func11, Tryd.ntmps11
      go_wp2_with (go_at_call 23; refine CC.mono ?_; rintro e w1 ⟨rfl, hb1⟩; (have hb2 : Below w.heap.size w w1 := (by repeat (first | assumption | exact Below.refl _ _ | apply Below.al | apply Below.drewN' | apply Below.drew | (apply Below.tr; assumption)))) ; (have hcell : ∀ (k : Nat) (v : Value), ((w.alloc (.cells #[.int .i64 b, .int .i64 e, .int .i64 p] 31)).alloc (.cells #[.int .i64 b, .int .i64 e, .int .i64 p] 31)).cell? ⟨w.heap.size, k, none⟩ = some v → w1.cell? ⟨w.heap.size, k, none⟩ = some v := fun k v h => ((bcell hb1).1 w.heap.size k (by simp; omega)).trans h) ; (have c0 := hcell 0 (.int .i64 b) (by simp [go_sem])) ; (have c1 := hcell 1 (.int .i64 e) (by simp [go_sem])) ; (have c2 := hcell 2 (.int .i64 p) (by simp [go_sem])) ; (have zw : w.heap.size < w1.heap.size := by have := hb1.size; simp at this; omega) ; clear hcell)
      go_wp2_with fail
      refine (CE _ hb2).mono ?_
      rintro e w5 ⟨rfl, hb5⟩
      have c0 := ((bcell hb5).1 w.heap.size 0 zw).trans c0
      have c1 := ((bcell hb5).1 w.heap.size 1 zw).trans c1
      have c2 := ((bcell hb5).1 w.heap.size 2 zw).trans c2
      have hb2 := Below.tr hb5 hb2
      have zw := Nat.lt_of_lt_of_le zw hb5.size
      go_wp2_with fail
      have CB := hid (fun (W : World) (hW : Below w5.heap.size w5 W) => CB W (Below.tr hW hb2))
      have CM := hid (fun (W : World) (hW : Below w5.heap.size w5 W) => CM W (Below.tr hW hb2))
      refine wp_region_ext (by kernel_rfl) (by kernel_rfl) ?_
      iterate 3 (go_big_quiet_step (((go_at_call 24; exact ext_below (CB.out _ (Ext.h _))))))
      iterate 7 (go_big_quiet_step (((go_at_call 25; exact ext_below (CM.out _ (Ext.h _))))))
      iterate 2 (go_big_quiet_step ((fail)))
      refine wpQuiet_nil ?_
      intro w6 hb6
      obtain ⟨hc_w6, hf_w6⟩ := bcell hb6
      have hz_w6 := hb6.size
      go_wp2
      go_ret
      exact ⟨by rw [HV.out]; rfl, Below.tr hb6 hb2⟩
    · have HV : Hid (alT b e p = (((x1 ++ ⟨#[32, 116, 111, 32]⟩) ++ ⟨#[110, 111, 119]⟩) ++ ⟨#[32, 112, 101, 97, 107, 32]⟩) ++ x3) := hid (by simp only [alT]; rw [if_pos h1, if_neg he, hx1, hx3])
      clear hx1 hx2 hx3 hev
      go_enter Tryd.func11, Tryd.ntmps11
      go_wp2_with (go_at_call 23; refine CC.mono ?_; rintro e w1 ⟨rfl, hb1⟩; (have hb2 : Below w.heap.size w w1 := (by repeat (first | assumption | exact Below.refl _ _ | apply Below.al | apply Below.drewN' | apply Below.drew | (apply Below.tr; assumption)))) ; (have hcell : ∀ (k : Nat) (v : Value), ((w.alloc (.cells #[.int .i64 b, .int .i64 e, .int .i64 p] 31)).alloc (.cells #[.int .i64 b, .int .i64 e, .int .i64 p] 31)).cell? ⟨w.heap.size, k, none⟩ = some v → w1.cell? ⟨w.heap.size, k, none⟩ = some v := fun k v h => ((bcell hb1).1 w.heap.size k (by simp; omega)).trans h) ; (have c0 := hcell 0 (.int .i64 b) (by simp [go_sem])) ; (have c1 := hcell 1 (.int .i64 e) (by simp [go_sem])) ; (have c2 := hcell 2 (.int .i64 p) (by simp [go_sem])) ; (have zw : w.heap.size < w1.heap.size := by have := hb1.size; simp at this; omega) ; clear hcell)
      have CB := hid (fun (W : World) (hW : Below w1.heap.size w1 W) => CB W (Below.tr hW hb2))
      have CM := hid (fun (W : World) (hW : Below w1.heap.size w1 W) => CM W (Below.tr hW hb2))
      go_wp2_with fail
      refine wp_region_ext (by kernel_rfl) (by kernel_rfl) ?_
      iterate 3 (go_big_quiet_step (((go_at_call 24; exact ext_below (CB.out _ (Ext.h _))))))
      iterate 7 (go_big_quiet_step (((go_at_call 25; exact ext_below (CM.out _ (Ext.h _))))))
      iterate 2 (go_big_quiet_step ((fail)))
      refine wpQuiet_nil ?_
      intro w6 hb6
      obtain ⟨hc_w6, hf_w6⟩ := bcell hb6
      have hz_w6 := hb6.size
      go_wp2
      go_ret
      exact ⟨by rw [HV.out]; rfl, Below.tr hb6 hb2⟩
end Go.Proofs.YtiimohofnnphoaaDoor
