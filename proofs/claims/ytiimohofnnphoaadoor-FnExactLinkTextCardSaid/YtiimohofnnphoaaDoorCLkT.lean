/- Contracts: the text of a link, in the program and in the reference. -/
import Derived.Test.YtiimohofnnphoaaDoorCDec
import Derived.Test.YtiimohofnnphoaaDoorC20a
namespace Go.Proofs.YtiimohofnnphoaaDoor
open Go.RowKit
set_option linter.unusedVariables false
def lkT (a b d : Int) : ByteArray := if lkB 10 ⟨a, b, d⟩ = true then ((((⟨#[115, 116, 97, 114, 32]⟩ ++ decS a) ++ ⟨#[32, 116, 111, 32]⟩) ++ decS b) ++ ⟨#[32, 105, 115, 32]⟩) ++ decS d else ⟨#[]⟩
set_option maxHeartbeats 1000000 in
theorem specLinkText_any (a b d : Int) (w : World) :
    Calls Tryd.prog 6 #[.agg #[.int .i64 a, .int .i64 b, .int .i64 d]] w fun e w' => e = .returned (.string (lkT a b d)) ∧ Below w.heap.size w w' := by
  cases h1 : lkB 10 ⟨a, b, d⟩
  · have HV : Hid (lkT a b d = ⟨#[]⟩) := hid (by simp [lkT, h1])
    go_enter Tryd.func6, Tryd.ntmps6
    go_wp2_with (go_at_call 16; refine (l20One_any 10 a b d _).mono ?_; rintro e w1 ⟨rfl, hb1⟩)
    go_ret
    exact ⟨by rw [HV.out]; rfl, (by repeat (first | assumption | exact Below.refl _ _ | apply Below.al | apply Below.drewN' | apply Below.drew | (refine Below.sc ?_ (by first | omega | (simp; done) | (simp; omega)) _) | (apply Below.tr; assumption)))⟩
  · have HV : Hid (lkT a b d = ((((⟨#[115, 116, 97, 114, 32]⟩ ++ decS a) ++ ⟨#[32, 116, 111, 32]⟩) ++ decS b) ++ ⟨#[32, 105, 115, 32]⟩) ++ decS d) := hid (by simp [lkT, h1])
    have hin : 0 ≤ a ∧ a < b ∧ b < 10 ∧ -5000 ≤ d ∧ d ≤ 5000 := by
      simp only [lkB, Bool.and_eq_true, decide_eq_true_eq, inB_true] at h1; exact h1
    obtain ⟨i1, i2, i3, i4, i5⟩ := hin
    have sa := decS_size a (by omega) (by omega)
    have sb := decS_size b (by omega) (by omega)
    have sd := decS_size d (by omega) (by omega)
    go_enter Tryd.func6, Tryd.ntmps6
    go_wp2_with (go_at_call 16; refine (l20One_any 10 a b d _).mono ?_; rintro e w1 ⟨rfl, hb1⟩)
    have hb2 : Below w.heap.size w w1 := (by repeat (first | assumption | exact Below.refl _ _ | apply Below.al | apply Below.drewN' | apply Below.drew | (apply Below.tr; assumption)))
    
    have Da := hid (fun (W : World) (hW : Below w1.heap.size w1 W) => l01Dec_any a (by omega) (by omega) W)
    have Db := hid (fun (W : World) (hW : Below w1.heap.size w1 W) => l01Dec_any b (by omega) (by omega) W)
    have Dd := hid (fun (W : World) (hW : Below w1.heap.size w1 W) => l01Dec_any d (by omega) (by omega) W)
    have hcell : ∀ (k : Nat) (v : Value), (w.alloc (.cells #[.int .i64 a, .int .i64 b, .int .i64 d] 25)).cell? ⟨w.heap.size, k, none⟩ = some v → w1.cell? ⟨w.heap.size, k, none⟩ = some v := fun k v h => ((bcell hb1).1 w.heap.size k (by simp)).trans h
    have c0 := hcell 0 (.int .i64 a) (by simp [go_sem])
    have c1 := hcell 1 (.int .i64 b) (by simp [go_sem])
    have c2 := hcell 2 (.int .i64 d) (by simp [go_sem])
    have zw : w.heap.size < w1.heap.size := by have := hb1.size; simp at this; omega
    clear hcell
    generalize decS a = xa at *
    generalize decS b = xb at *
    generalize decS d = xd at *
    go_wp2_with fail
    refine wp_region_ext (by kernel_rfl) (by kernel_rfl) ?_
    iterate 3 (go_big_quiet_step (((go_at_call 17; exact ext_below (Da.out _ (Ext.h _))))))
    iterate 5 (go_big_quiet_step (((go_at_call 17; exact ext_below (Db.out _ (Ext.h _))))))
    iterate 5 (go_big_quiet_step (((go_at_call 17; exact ext_below (Dd.out _ (Ext.h _))))))
    iterate 2 (go_big_quiet_step ((fail)))
    refine wpQuiet_nil ?_
    intro w3 hb3
    obtain ⟨hc_w3, hf_w3⟩ := bcell hb3
    have hz_w3 := hb3.size
    go_wp2
    go_ret
    exact ⟨by rw [HV.out]; rfl, (by repeat (first | assumption | exact Below.refl _ _ | apply Below.al | apply Below.drewN' | apply Below.drew | (refine Below.sc ?_ (by first | omega | (simp; done) | (simp; omega)) _) | (apply Below.tr; assumption)))⟩
set_option maxHeartbeats 1000000 in
theorem implLinkText_any (a b d : Int) (w : World) (ht : TabOk w) :
    Calls Tryd.prog 8 #[.agg #[.int .i64 a, .int .i64 b, .int .i64 d]] w fun e w' => e = .returned (.string (lkT a b d)) ∧ Below w.heap.size w w' := by
  cases h1 : lkB 10 ⟨a, b, d⟩
  · have HV : Hid (lkT a b d = ⟨#[]⟩) := hid (by simp [lkT, h1])
    go_enter Tryd.func8, Tryd.ntmps8
    go_wp2_with (go_at_call 18; refine (isLink_any 10 a b d _).mono ?_; rintro e w1 ⟨rfl, hb1⟩)
    go_ret
    exact ⟨by rw [HV.out]; rfl, (by repeat (first | assumption | exact Below.refl _ _ | apply Below.al | apply Below.drewN' | apply Below.drew | (refine Below.sc ?_ (by first | omega | (simp; done) | (simp; omega)) _) | (apply Below.tr; assumption)))⟩
  · have HV : Hid (lkT a b d = ((((⟨#[115, 116, 97, 114, 32]⟩ ++ decS a) ++ ⟨#[32, 116, 111, 32]⟩) ++ decS b) ++ ⟨#[32, 105, 115, 32]⟩) ++ decS d) := hid (by simp [lkT, h1])
    have hin : 0 ≤ a ∧ a < b ∧ b < 10 ∧ -5000 ≤ d ∧ d ≤ 5000 := by
      simp only [lkB, Bool.and_eq_true, decide_eq_true_eq, inB_true] at h1; exact h1
    obtain ⟨i1, i2, i3, i4, i5⟩ := hin
    have sa := decS_size a (by omega) (by omega)
    have sb := decS_size b (by omega) (by omega)
    have sd := decS_size d (by omega) (by omega)
    go_enter Tryd.func8, Tryd.ntmps8
    go_wp2_with (go_at_call 18; refine (isLink_any 10 a b d _).mono ?_; rintro e w1 ⟨rfl, hb1⟩)
    have hb2 : Below w.heap.size w w1 := (by repeat (first | assumption | exact Below.refl _ _ | apply Below.al | apply Below.drewN' | apply Below.drew | (apply Below.tr; assumption)))
    have ht1 := tab_below ht hb2
    have Da := hid (fun (W : World) (hW : Below w1.heap.size w1 W) => implDecimal_any a (by omega) (by omega) W (tab_below ht1 hW))
    have Db := hid (fun (W : World) (hW : Below w1.heap.size w1 W) => implDecimal_any b (by omega) (by omega) W (tab_below ht1 hW))
    have Dd := hid (fun (W : World) (hW : Below w1.heap.size w1 W) => implDecimal_any d (by omega) (by omega) W (tab_below ht1 hW))
    have hcell : ∀ (k : Nat) (v : Value), (w.alloc (.cells #[.int .i64 a, .int .i64 b, .int .i64 d] 25)).cell? ⟨w.heap.size, k, none⟩ = some v → w1.cell? ⟨w.heap.size, k, none⟩ = some v := fun k v h => ((bcell hb1).1 w.heap.size k (by simp)).trans h
    have c0 := hcell 0 (.int .i64 a) (by simp [go_sem])
    have c1 := hcell 1 (.int .i64 b) (by simp [go_sem])
    have c2 := hcell 2 (.int .i64 d) (by simp [go_sem])
    have zw : w.heap.size < w1.heap.size := by have := hb1.size; simp at this; omega
    clear hcell
    generalize decS a = xa at *
    generalize decS b = xb at *
    generalize decS d = xd at *
    go_wp2_with fail
    refine wp_region_ext (by kernel_rfl) (by kernel_rfl) ?_
    iterate 3 (go_big_quiet_step (((go_at_call 19; exact ext_below (Da.out _ (Ext.h _))))))
    iterate 5 (go_big_quiet_step (((go_at_call 19; exact ext_below (Db.out _ (Ext.h _))))))
    iterate 5 (go_big_quiet_step (((go_at_call 19; exact ext_below (Dd.out _ (Ext.h _))))))
    iterate 2 (go_big_quiet_step ((fail)))
    refine wpQuiet_nil ?_
    intro w3 hb3
    obtain ⟨hc_w3, hf_w3⟩ := bcell hb3
    have hz_w3 := hb3.size
    go_wp2
    go_ret
    exact ⟨by rw [HV.out]; rfl, (by repeat (first | assumption | exact Below.refl _ _ | apply Below.al | apply Below.drewN' | apply Below.drew | (refine Below.sc ?_ (by first | omega | (simp; done) | (simp; omega)) _) | (apply Below.tr; assumption)))⟩
end Go.Proofs.YtiimohofnnphoaaDoor
