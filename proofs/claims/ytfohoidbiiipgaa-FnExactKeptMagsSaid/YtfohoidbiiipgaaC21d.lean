/- Contracts: the median deviation, in the program and in the reference. -/
import Derived.Test.YtfohoidbiiipgaaC21n
namespace Go.Proofs.Ytfohoidbiiipgaa
open Go.RowKit
set_option linter.unusedVariables false
def smC (xs : List Int) : Int := if magsB xs = true then (if xs.length = 0 then 3 else 0) else 2
theorem smC_zero {xs : List Int} (h : smC xs = 0) : magsB xs = true ∧ 0 < xs.length := by
  unfold smC at h
  split at h
  · split at h
    · simp at h
    · exact ⟨by assumption, by omega⟩
  · simp at h
set_option maxHeartbeats 2000000 in
theorem medianDeviation_any (A : Option Addr) (c : Nat) (xs : List Int) (w : World) (h : Rd encI 1 w w.heap.size A xs) (hne : 0 < xs.length) (hl : xs.length ≤ 100) (hr : ∀ x ∈ xs, -2000 ≤ x ∧ x ≤ 20000) :
    Calls Try.prog 22 #[.slice A xs.length c] w fun e w' => e = .returned (.int .i64 (madI xs)) ∧ Below w.heap.size w w' := by
  have hm := medI_in hne hr
  have ha := awL_in hne hr
  have hla : (awL xs).length = xs.length := List.length_map ..
  have hl0 : 0 < (awL xs).length := by omega
  have hl1 : (awL xs).length ≤ 100 := by omega
  have C1 := median_any A c xs w h hne (by omega) (fun x hx => by have := hr x hx; omega)
  have hx : ∀ (k : Nat) (p : Int), xs[k]? = some p → -1000000000000000000 ≤ p ∧ p ≤ 1000000000000000000 := fun k p hp => by have := hr p (List.mem_of_getElem? hp); omega
  have C2 : ∀ W, Below w.heap.size w W → Calls Try.prog 25 #[.slice A xs.length c, .int .i64 (medI xs)] W (OwnRes 2 1 encI (awL xs) W) := fun W hW => distances_any A c xs (medI xs) W ((h.below hW (Nat.le_refl _)).more hW.size) (by omega) hx (by omega) (by omega)
  have HM : Hid (madI xs = medI (awL xs)) := hid rfl
  generalize awL xs = Y at *
  have HA := hid ha
  clear ha hr hx hla
  go_enter Try.func22, Try.ntmps22
  go_wp2_with fail
  refine C1.mono ?_
  rintro e w1 ⟨rfl, hb1⟩
  clear C1
  go_wp2_with fail
  refine (C2 _ hb1).mono ?_
  rintro e w2 ⟨Ar, cr, rfl, own, hb2⟩
  have rr := rd_of_own (enc := encI) (k := 1) (fun _ => rfl) own
  have hb2' := Below.tr hb2 hb1
  clear C2 own
  go_wp2_with fail
  refine (median_any Ar cr Y w2 rr hl0 (by omega) (fun x hx => by have := HA.out x hx; omega)).mono ?_
  rw [← HM.out]
  rintro e w3 ⟨rfl, hb3⟩
  go_wp2
  go_ret
  exact ⟨rfl, Below.tr hb3 hb2'⟩
set_option maxHeartbeats 2000000 in
theorem l21Median_any (A : Option Addr) (c : Nat) (xs : List Int) (w : World) (h : Rd encI 1 w w.heap.size A xs) (hne : 0 < xs.length) (hl : xs.length ≤ 100) (hr : ∀ x ∈ xs, -2000 ≤ x ∧ x ≤ 20000) :
    Calls Try.prog 20 #[.slice A xs.length c] w fun e w' => e = .returned (.int .i64 (madI xs)) ∧ Below w.heap.size w w' := by
  have hm := medI_in hne hr
  have ha := awL_in hne hr
  have hla : (awL xs).length = xs.length := List.length_map ..
  have hl0 : 0 < (awL xs).length := by omega
  have hl1 : (awL xs).length ≤ 100 := by omega
  have C1 := l02Median_any A c xs w h hne (by omega) (fun x hx => by have := hr x hx; omega)
  have hx : ∀ (k : Nat) (p : Int), xs[k]? = some p → -1000000000000000000 ≤ p ∧ p ≤ 1000000000000000000 := fun k p hp => by have := hr p (List.mem_of_getElem? hp); omega
  have C2 : ∀ W, Below w.heap.size w W → Calls Try.prog 34 #[.slice A xs.length c, .int .i64 (medI xs)] W (OwnRes 2 1 encI (awL xs) W) := fun W hW => l21Away_any A c xs (medI xs) W ((h.below hW (Nat.le_refl _)).more hW.size) (by omega) hx (by omega) (by omega)
  have HM : Hid (madI xs = medI (awL xs)) := hid rfl
  generalize awL xs = Y at *
  have HA := hid ha
  clear ha hr hx hla
  go_enter Try.func20, Try.ntmps20
  go_wp2_with fail
  refine C1.mono ?_
  rintro e w1 ⟨rfl, hb1⟩
  clear C1
  go_wp2_with fail
  refine (C2 _ hb1).mono ?_
  rintro e w2 ⟨Ar, cr, rfl, own, hb2⟩
  have rr := rd_of_own (enc := encI) (k := 1) (fun _ => rfl) own
  have hb2' := Below.tr hb2 hb1
  clear C2 own
  go_wp2_with fail
  refine (l02Median_any Ar cr Y w2 rr hl0 (by omega) (fun x hx => by have := HA.out x hx; omega)).mono ?_
  rw [← HM.out]
  rintro e w3 ⟨rfl, hb3⟩
  go_wp2
  go_ret
  exact ⟨rfl, Below.tr hb3 hb2'⟩
theorem someMags_any (A : Option Addr) (c : Nat) (xs : List Int) (w : World) (h : Rd encI 1 w w.heap.size A xs) (hn : xs.length ≤ 1048576) :
    Calls Try.prog 21 #[.slice A xs.length c] w fun e w' => e = .returned (.int .i64 (smC xs)) ∧ Below w.heap.size w w' := by
  cases h1 : magsB xs <;> by_cases h2 : xs.length = 0
  all_goals
    have HV := hid (show smC xs = _ by unfold smC; rw [h1])
    have HV2 := hid (HV.out.trans (by simp [h2]; rfl))
    first
      | (have e0 : ((xs.length : Int) == 0) = true := by simpa using h2)
      | (have e0 : ((xs.length : Int) == 0) = false := by simpa using h2)
    clear h2
    go_enter Try.func21, Try.ntmps21
    go_wp2_with (go_at_call 35; refine (areMags_any A c xs _ h hn).mono ?_; rintro e w1 ⟨rfl, hb1⟩; obtain ⟨hc_w1, hf_w1⟩ := bcell hb1; have hz_w1 := hb1.size)
    go_ret
    exact ⟨ret_int HV2.out.symm, (by repeat (first | assumption | exact Below.refl _ _ | apply Below.al | apply Below.drewN' | apply Below.drew | (apply Below.tr; assumption)))⟩
theorem l21Some_any (A : Option Addr) (c : Nat) (xs : List Int) (w : World) (h : Rd encI 1 w w.heap.size A xs) (hn : xs.length ≤ 1048576) :
    Calls Try.prog 19 #[.slice A xs.length c] w fun e w' => e = .returned (.int .i64 (smC xs)) ∧ Below w.heap.size w w' := by
  cases h1 : magsB xs <;> by_cases h2 : xs.length = 0
  all_goals
    have HV := hid (show smC xs = _ by unfold smC; rw [h1])
    have HV2 := hid (HV.out.trans (by simp [h2]; rfl))
    have HC := hid (show codeMags xs = _ by unfold codeMags; rw [h1])
    first
      | (have e0 : ((xs.length : Int) == 0) = true := by simpa using h2)
      | (have e0 : ((xs.length : Int) == 0) = false := by simpa using h2)
    clear h2
    go_enter Try.func19, Try.ntmps19
    go_wp2_with fail
    refine (l02List_any A c xs _ h hn).mono ?_
    rw [HC.out]
    rintro e w1 ⟨rfl, hb1⟩
    go_wp2
    go_ret
    exact ⟨ret_int HV2.out.symm, (by repeat (first | assumption | exact Below.refl _ _ | apply Below.al | apply Below.drewN' | apply Below.drew | (apply Below.tr; assumption)))⟩
def mdV (xs : List Int) : Int := if smC xs = 0 then madI xs else 0
theorem specMedianDeviation_any (A : Option Addr) (c : Nat) (xs : List Int) (w : World) (h : Rd encI 1 w w.heap.size A xs) (hn : xs.length ≤ 1048576) :
    Calls Try.prog 7 #[.slice A xs.length c] w fun e w' => e = .returned (.tuple #[.int .i64 (mdV xs), .int .i64 (smC xs)]) ∧ Below w.heap.size w w' := by
  by_cases hc : smC xs = 0
  · obtain ⟨hm, hne⟩ := smC_zero hc
    obtain ⟨hl, hx⟩ := magsB_true hm
    have HV : Hid (mdV xs = madI xs) := hid (if_pos hc)
    have HC := hid hc
    clear hc hm
    go_enter Try.func7, Try.ntmps7
    go_wp2_with fail
    refine (l21Some_any A c xs _ h hn).mono ?_
    rw [HC.out]
    rintro e w1 ⟨rfl, hb1⟩
    go_wp2_with fail
    refine (l21Median_any A c xs _ ((h.below hb1 (Nat.le_refl _)).more hb1.size) hne hl (fun x hxm => by obtain ⟨k, hk⟩ := List.mem_iff_getElem?.1 hxm; exact hx k x hk)).mono ?_
    rintro e w2 ⟨rfl, hb2⟩
    go_wp2
    go_ret2
    exact ⟨by rw [HV.out, HC.out]; rfl, Below.tr hb2 hb1⟩
  · have HN : (smC xs != 0) = true := by simp [hc]
    have HV : Hid (mdV xs = 0) := hid (if_neg hc)
    clear hc
    go_enter Try.func7, Try.ntmps7
    go_wp2_with fail
    refine (l21Some_any A c xs _ h hn).mono ?_
    rintro e w1 ⟨rfl, hb1⟩
    go_wp2
    go_ret2
    exact ⟨by rw [HV.out]; rfl, hb1⟩
theorem implMedianDeviation_any (A : Option Addr) (c : Nat) (xs : List Int) (w : World) (h : Rd encI 1 w w.heap.size A xs) (hn : xs.length ≤ 1048576) :
    Calls Try.prog 9 #[.slice A xs.length c] w fun e w' => e = .returned (.tuple #[.int .i64 (mdV xs), .int .i64 (smC xs)]) ∧ Below w.heap.size w w' := by
  by_cases hc : smC xs = 0
  · obtain ⟨hm, hne⟩ := smC_zero hc
    obtain ⟨hl, hx⟩ := magsB_true hm
    have HV : Hid (mdV xs = madI xs) := hid (if_pos hc)
    have HC := hid hc
    clear hc hm
    go_enter Try.func9, Try.ntmps9
    go_wp2_with fail
    refine (someMags_any A c xs _ h hn).mono ?_
    rw [HC.out]
    rintro e w1 ⟨rfl, hb1⟩
    go_wp2_with fail
    refine (medianDeviation_any A c xs _ ((h.below hb1 (Nat.le_refl _)).more hb1.size) hne hl (fun x hxm => by obtain ⟨k, hk⟩ := List.mem_iff_getElem?.1 hxm; exact hx k x hk)).mono ?_
    rintro e w2 ⟨rfl, hb2⟩
    go_wp2
    go_ret2
    exact ⟨by rw [HV.out, HC.out]; rfl, Below.tr hb2 hb1⟩
  · have HN : (smC xs != 0) = true := by simp [hc]
    have HV : Hid (mdV xs = 0) := hid (if_neg hc)
    clear hc
    go_enter Try.func9, Try.ntmps9
    go_wp2_with fail
    refine (someMags_any A c xs _ h hn).mono ?_
    rintro e w1 ⟨rfl, hb1⟩
    go_wp2
    go_ret2
    exact ⟨by rw [HV.out]; rfl, hb1⟩
end Go.Proofs.Ytfohoidbiiipgaa
