/- Contracts: the median of numbers, in the program and in the reference. -/
import Derived.Test.YtfohoidbiiipgaaC21o
import Derived.Test.YtfohoidbiiipgaaCSort
import Derived.Test.YtfohoidbiiipgaaC21a
import Derived.Test.YtfohoidbiiipgaaC02m
namespace Go.Proofs.Ytfohoidbiiipgaa
open Go.RowKit
set_option linter.unusedVariables false
set_option maxRecDepth 20000 in
set_option maxHeartbeats 2000000 in
theorem median_any (A : Option Addr) (c : Nat) (xs : List Int) (w : World) (h : Rd encI 1 w w.heap.size A xs) (hne : 0 < xs.length) (hl : xs.length ≤ 1000) (hr : ∀ x ∈ xs, -100000 ≤ x ∧ x ≤ 100000) :
    Calls Try.prog 26 #[.slice A xs.length c] w fun e w' => e = .returned (.int .i64 (medI xs)) ∧ Below w.heap.size w w' := by
  obtain ⟨x0, hx0⟩ : ∃ x, xs[0]? = some x := getx hne
  have HS : Hid (medI xs = medS (srt xs)) := hid rfl
  have hls : (srt xs).length = xs.length := srt_len xs
  have hrs : ∀ x ∈ srt xs, -100000 ≤ x ∧ x ≤ 100000 := fun x hx => hr x ((srt_mem xs x).1 hx)
  have HR := hid hrs
  clear hr hrs
  obtain ⟨b, o, rfl, hbB, _⟩ := h.at1 (i := 0) hx0 rfl
  have hcs := rd_cells h
  have hbA : Below w.heap.size w (w.alloc (.cells #[.slice (some ⟨b, o, none⟩) xs.length c] 22)) := Below.al (Below.refl _ _) _
  have cS := sorted_any w.heap.size b o c xs hne (by omega) (w.alloc (.cells #[.slice (some ⟨b, o, none⟩) xs.length c] 22)) (by simp) (by simp; omega) (by simp [go_sem]) (fun j hj => (hbA.cell (p := ⟨b, o + j, none⟩) hbB).trans (hcs j hj))
  clear hcs h hx0
  go_enter Try.func26, Try.ntmps26
  go_wp2_with fail
  refine (values_any _ _ _ _).mono ?_
  rintro e w' ⟨rfl, rfl⟩
  go_wp2_with fail
  refine cS.mono ?_
  rintro e w1 ⟨Ar, cr, rfl, own, hb1⟩
  have hb1' := Below.tr hb1 hbA
  clear cS hb1 hbA
  have rr := rd_of_own (enc := encI) (k := 1) (fun _ => rfl) own
  change Rd encI 1 w1 w1.heap.size Ar (srt xs) at rr
  have hz1 := hb1'.size
  rw [show (xs.mergeSort fun x y => decide (x ≤ y)) = srt xs from rfl]
  clear own
  generalize hS : srt xs = S at *
  clear hS
  have hm : S.length / 2 < S.length := by omega
  obtain ⟨p, hp⟩ := getx hm
  obtain ⟨b2, o2, rfl, hbB2, d0⟩ := rr.at1 hp rfl
  have hpr := HR.out p (List.mem_of_getElem? hp)
  have hl0 : 0 < S.length := by omega
  have hl1 : S.length ≤ 1000 := by omega
  clear hls hne hl
  have bx : b2 < w1.heap.size := hbB2
  by_cases hpar : S.length % 2 = 1
  · have HE : Hid (medI xs = p) := hid (by rw [HS.out]; unfold medS; rw [if_pos hpar, hp]; rfl)
    have e0 : (((S.length : Int) % 2) == 1) = true := by simp; omega
    clear hp HS hpar
    go_wp2
    go_ret
    exact ⟨ret_int HE.out.symm, hb1'⟩
  · have hpar0 : S.length % 2 = 0 := by omega
    obtain ⟨q, hq⟩ : ∃ q, S[S.length / 2 - 1]? = some q := getx (by omega)
    obtain ⟨_, _, ee, _, d1⟩ := rr.at1 hq rfl
    simp at ee; obtain ⟨rfl, rfl⟩ := ee
    have hqr := HR.out q (List.mem_of_getElem? hq)
    have HE : Hid (medI xs = nearI (q + p) 2) := hid (by rw [HS.out]; unfold medS; rw [if_neg hpar, hp, hq]; rfl)
    have e0 : (((S.length : Int) % 2) == 1) = false := by simp; omega
    have hh : 1 ≤ S.length / 2 := by omega
    clear hp hq HS hpar hpar0
    go_wp2_with fail
    refine wp_region_ext (by kernel_rfl) (by kernel_rfl) ?_
    repeat (go_big_quiet_step ((first | (go_at_call 41; exact ext_same (nearest_any _ _ _ (by omega) (by omega) (by omega) (by omega))))))
    refine wpQuiet_nil ?_
    intro w3 hb3
    obtain ⟨hc_w3, hf_w3⟩ := bcell hb3
    have hz_w3 := hb3.size
    go_wp2
    go_ret
    exact ⟨ret_int HE.out.symm, Below.tr hb3 hb1'⟩
set_option maxRecDepth 20000 in
set_option maxHeartbeats 2000000 in
theorem l02Median_any (A : Option Addr) (c : Nat) (xs : List Int) (w : World) (h : Rd encI 1 w w.heap.size A xs) (hne : 0 < xs.length) (hl : xs.length ≤ 1000) (hr : ∀ x ∈ xs, -100000 ≤ x ∧ x ≤ 100000) :
    Calls Try.prog 23 #[.slice A xs.length c] w fun e w' => e = .returned (.int .i64 (medI xs)) ∧ Below w.heap.size w w' := by
  obtain ⟨x0, hx0⟩ : ∃ x, xs[0]? = some x := getx hne
  have HS : Hid (medI xs = medS (srt xs)) := hid rfl
  have hls : (srt xs).length = xs.length := srt_len xs
  have hrs : ∀ x ∈ srt xs, -100000 ≤ x ∧ x ≤ 100000 := fun x hx => hr x ((srt_mem xs x).1 hx)
  have HR := hid hrs
  clear hr hrs
  clear hx0
  go_enter Try.func23, Try.ntmps23
  go_wp2_with fail
  refine (l02Sort_any A c xs w h (by omega)).mono ?_
  rintro e w1 ⟨Ar, cr, rfl, own, hb1'⟩
  clear h
  have rr := rd_of_own (enc := encI) (k := 1) (fun _ => rfl) own
  change Rd encI 1 w1 w1.heap.size Ar (srt xs) at rr
  have hz1 := hb1'.size
  skip
  clear own
  generalize hS : srt xs = S at *
  clear hS
  have hm : S.length / 2 < S.length := by omega
  obtain ⟨p, hp⟩ := getx hm
  obtain ⟨b2, o2, rfl, hbB2, d0⟩ := rr.at1 hp rfl
  have hpr := HR.out p (List.mem_of_getElem? hp)
  have hl0 : 0 < S.length := by omega
  have hl1 : S.length ≤ 1000 := by omega
  clear hls hne hl
  have bx : b2 < w1.heap.size := hbB2
  by_cases hpar : S.length % 2 = 1
  · have HE : Hid (medI xs = p) := hid (by rw [HS.out]; unfold medS; rw [if_pos hpar, hp]; rfl)
    have e0 : (((S.length : Int) % 2) == 1) = true := by simp; omega
    clear hp HS hpar
    go_wp2
    go_ret
    exact ⟨ret_int HE.out.symm, hb1'⟩
  · have hpar0 : S.length % 2 = 0 := by omega
    obtain ⟨q, hq⟩ : ∃ q, S[S.length / 2 - 1]? = some q := getx (by omega)
    obtain ⟨_, _, ee, _, d1⟩ := rr.at1 hq rfl
    simp at ee; obtain ⟨rfl, rfl⟩ := ee
    have hqr := HR.out q (List.mem_of_getElem? hq)
    have HE : Hid (medI xs = nearI (q + p) 2) := hid (by rw [HS.out]; unfold medS; rw [if_neg hpar, hp, hq]; rfl)
    have e0 : (((S.length : Int) % 2) == 1) = false := by simp; omega
    have hh : 1 ≤ S.length / 2 := by omega
    clear hp hq HS hpar hpar0
    go_wp2_with fail
    refine wp_region_ext (by kernel_rfl) (by kernel_rfl) ?_
    repeat (go_big_quiet_step ((first | (go_at_call 37; exact ext_same (l02Round_any _ _ _ (by omega) (by omega) (by omega) (by omega))))))
    refine wpQuiet_nil ?_
    intro w3 hb3
    obtain ⟨hc_w3, hf_w3⟩ := bcell hb3
    have hz_w3 := hb3.size
    go_wp2
    go_ret
    exact ⟨ret_int HE.out.symm, Below.tr hb3 hb1'⟩
end Go.Proofs.Ytfohoidbiiipgaa
