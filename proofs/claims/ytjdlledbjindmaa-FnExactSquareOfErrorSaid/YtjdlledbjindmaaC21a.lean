/- Contracts: SignChanges, ChiSquare, DeviationsFrom, in the program and in the reference. -/
import Derived.Test.YtjdlledbjindmaaCInt
namespace Go.Proofs.Ytjdlledbjindmaa
open Go.RowKit
set_option linter.unusedVariables false
theorem magsB_true {xs : List Int} (h : magsB xs = true) : xs.length ≤ 100 ∧ ∀ (k : Nat) (p : Int), xs[k]? = some p → -2000 ≤ p ∧ p ≤ 20000 := by
  simp only [magsB, Bool.and_eq_true, decide_eq_true_eq, List.all_eq_true] at h
  exact ⟨h.1, fun k p hp => inB_true.1 (h.2 p (List.mem_of_getElem? hp))⟩
theorem getx_zip {α β : Type} {xs : List α} {ys : List β} {k : Nat} (hk : k < xs.length) (hl : xs.length = ys.length) : ∃ q, ys[k]? = some q := getx (by omega)
def wtsB (xs ws : List Int) : Bool := decide (ws.length = xs.length) && ws.all fun x => inB x 0 100
set_option maxHeartbeats 1000000 in
theorem l21Weights_any (A A' : Option Addr) (c c' : Nat) (xs ys : List Int) (w : World) (h : Rd encI 1 w w.heap.size A' ys) (hn' : xs.length ≤ 1048576) (hn : ys.length ≤ 1048576) :
    Calls Try.prog 28 #[.slice A xs.length c, .slice A' ys.length c'] w fun e w' => e = .returned (.bool (wtsB xs ys)) ∧ Below w.heap.size w w' := by
  go_enter Try.func28, Try.ntmps28
  go_wp2
  go_loopw [5] (fun i wr => ∃ k : Nat, k ≤ ys.length ∧ i = .int .i64 k ∧ Below w.heap.size w wr ∧ Hid ((ys.all fun x => inB x 0 100) = ((ys.drop k).all fun x => inB x 0 100))) (fun i _ => ys.length - (intOf i).toNat)
  case atStart => exact ⟨0, Nat.zero_le _, rfl, (by repeat (first | assumption | exact Below.refl _ _ | apply Below.al | apply Below.drewN' | apply Below.drew | (apply Below.tr; assumption))), hid rfl⟩
  case round =>
    obtain ⟨k, hk, rfl, hb, H⟩ := hrel
    by_cases hlt : k < ys.length
    · obtain ⟨p, hp⟩ := getx hlt
      obtain ⟨b, o, rfl, hbB, c0⟩ := (h.below hb (Nat.le_refl _)).at1 hp rfl
      have hsz := hb.size
      have HS : Hid (((ys.drop k).all fun x => inB x 0 100) = (inB p 0 100 && (ys.drop (k+1)).all fun x => inB x 0 100)) := by rw [dropx hp]; rfl
      clear hp
      cases h1 : inB p 0 100
      all_goals
        go_wp2_with (go_at_call 37; refine (l00In_any _ _ _ _).mono ?_; rintro e w' ⟨rfl, rfl⟩)
        first
          | (go_ret
             exact ⟨ret_bool (by simp [wtsB, H.out, HS.out, h1]), (by repeat (first | assumption | exact Below.refl _ _ | apply Below.al | apply Below.drewN' | apply Below.drew | (apply Below.tr; assumption)))⟩)
          | (go_roundw
             case rel => exact ⟨k + 1, by omega, by go_num, (by repeat (first | assumption | exact Below.refl _ _ | apply Below.al | apply Below.drewN' | apply Below.drew | (apply Below.tr; assumption))), hid (by rw [H.out, HS.out, h1]; rfl)⟩
             case measure => simp [intOf]; omega)
    · have HE : Hid ((ys.all fun x => inB x 0 100) = true) := hid (by rw [H.out, List.drop_eq_nil_of_le (by omega)]; rfl)
      go_wp2
      go_ret
      exact ⟨ret_bool (by simp only [wtsB, HE.out]; rw [Bool.eq_iff_iff]; simp; omega), (by repeat (first | assumption | exact Below.refl _ _ | apply Below.al | apply Below.drewN' | apply Below.drew | (apply Below.tr; assumption)))⟩
theorem areWeights_any (A A' : Option Addr) (c c' : Nat) (xs ys : List Int) (w : World) (h : Rd encI 1 w w.heap.size A' ys) (hn' : xs.length ≤ 1048576) (hn : ys.length ≤ 1048576) :
    Calls Try.prog 30 #[.slice A xs.length c, .slice A' ys.length c'] w fun e w' => e = .returned (.bool (wtsB xs ys)) ∧ Below w.heap.size w w' := by
  by_cases hl : ys.length = xs.length
  · have h1 : ((ys.length : Int) == xs.length) = true := by simp [hl]
    have HL := hid hl
    clear hl
    go_enter Try.func30, Try.ntmps30
    go_wp2_with (go_at_call 38; refine (allIn_any _ _ _ _ ys _ h hn).mono ?_; rintro e w1 ⟨rfl, hb1⟩; obtain ⟨hc_w1, hf_w1⟩ := bcell hb1; have hz_w1 := hb1.size)
    go_ret
    exact ⟨ret_bool (by simp [wtsB, HL.out]), (by repeat (first | assumption | exact Below.refl _ _ | apply Below.al | apply Below.drewN' | apply Below.drew | (apply Below.tr; assumption)))⟩
  · have h1 : ((ys.length : Int) == xs.length) = false := by simp; omega
    go_enter Try.func30, Try.ntmps30
    go_wp2_with (go_at_call 38; refine (allIn_any _ _ _ _ ys _ h hn).mono ?_; rintro e w1 ⟨rfl, hb1⟩; obtain ⟨hc_w1, hf_w1⟩ := bcell hb1; have hz_w1 := hb1.size)
    go_ret
    exact ⟨ret_bool (by simp [wtsB, hl]), (by repeat (first | assumption | exact Below.refl _ _ | apply Below.al | apply Below.drewN' | apply Below.drew | (apply Below.tr; assumption)))⟩
