/- Contracts: a link, and a list of links, is valid; in the program and in the reference. -/
import Derived.Test.YtalongdieglibaaCLink
namespace Go.Proofs.Ytalongdieglibaa
open Go.RowKit
set_option linter.unusedVariables false
def lkB (stars : Int) (l : Lk) : Bool := decide (0 ≤ l.a) && (decide (l.a < l.b) && (decide (l.b < stars) && inB l.d (-5000) 5000))
def vlB (stars : Int) (xs : List Lk) : Bool := inB stars 1 10 && (decide (xs.length ≤ 12) && xs.all (lkB stars))
theorem isLink_any (stars a b d : Int) (w : World) :
    Calls Try.prog 41 #[.int .i64 stars, .agg #[.int .i64 a, .int .i64 b, .int .i64 d]] w fun e w' => e = .returned (.bool (lkB stars ⟨a, b, d⟩)) ∧ Below w.heap.size w w' := by
  go_enter Try.func41, Try.ntmps41
  go_wp2_with (go_at_call 40; refine (in_any _ _ _ _).mono ?_; rintro e w' ⟨rfl, rfl⟩)
  all_goals (go_ret; exact ⟨ret_bool (by simp [lkB, *] <;> (intros; omega)), (by repeat (first | assumption | exact Below.refl _ _ | apply Below.al | apply Below.drewN' | apply Below.drew | (apply Below.tr; assumption)))⟩)
theorem l20One_any (stars a b d : Int) (w : World) :
    Calls Try.prog 38 #[.agg #[.int .i64 a, .int .i64 b, .int .i64 d], .int .i64 stars] w fun e w' => e = .returned (.bool (lkB stars ⟨a, b, d⟩)) ∧ Below w.heap.size w w' := by
  go_enter Try.func38, Try.ntmps38
  go_wp2_with (go_at_call 37; refine (l00In_any _ _ _ _).mono ?_; rintro e w' ⟨rfl, rfl⟩)
  all_goals (go_ret; exact ⟨ret_bool (by simp [lkB, *] <;> (intros; omega)), (by repeat (first | assumption | exact Below.refl _ _ | apply Below.al | apply Below.drewN' | apply Below.drew | (apply Below.tr; assumption)))⟩)
set_option maxHeartbeats 1000000 in
theorem l20Ok_any (stars : Int) (A : Option Addr) (c : Nat) (xs : List Lk) (w : World) (h : Rd encLk 3 w w.heap.size A xs) (hn : xs.length ≤ 1048576) :
    Calls Try.prog 25 #[.int .i64 stars, .slice A xs.length c] w fun e w' => e = .returned (.bool (vlB stars xs)) ∧ Below w.heap.size w w' := by
  cases hs : inB stars 1 10
  · go_enter Try.func25, Try.ntmps25
    go_wp2_with (go_at_call 37; refine (l00In_any _ _ _ _).mono ?_; rintro e w' ⟨rfl, rfl⟩)
    go_ret
    exact ⟨ret_bool (by simp [vlB, hs]), (by repeat (first | assumption | exact Below.refl _ _ | apply Below.al | apply Below.drewN' | apply Below.drew | (apply Below.tr; assumption)))⟩
  · go_enter Try.func25, Try.ntmps25
    go_wp2_with (go_at_call 37; refine (l00In_any _ _ _ _).mono ?_; rintro e w' ⟨rfl, rfl⟩)
    go_loopw [5] (fun i wr => ∃ k : Nat, k ≤ xs.length ∧ i = .int .i64 k ∧ Below w.heap.size w wr ∧ Hid (xs.all (lkB stars) = (xs.drop k).all (lkB stars))) (fun i _ => xs.length - (intOf i).toNat)
    case atStart => exact ⟨0, Nat.zero_le _, rfl, (by repeat (first | assumption | exact Below.refl _ _ | apply Below.al | apply Below.drewN' | apply Below.drew | (apply Below.tr; assumption))), hid rfl⟩
    case round =>
      obtain ⟨k, hk, rfl, hb, H⟩ := hrel
      by_cases hlt : k < xs.length
      · obtain ⟨p, hp⟩ := getx hlt
        obtain ⟨b, o, rfl, hbB, c0, c1, c2⟩ := (h.below hb (Nat.le_refl _)).at3 hp rfl
        have hsz := hb.size
        have HS : Hid ((xs.drop k).all (lkB stars) = (lkB stars p && (xs.drop (k+1)).all (lkB stars))) := by rw [dropx hp]; rfl
        clear hp
        cases h1 : lkB stars p
        all_goals
          go_wp2_with fail
          refine (l20One_any stars p.a p.b p.d _).mono ?_
          rintro e w1 ⟨rfl, hb1⟩
          go_wp2
          first
            | (go_ret
               exact ⟨ret_bool (by simp [vlB, H.out, HS.out, h1]), (by repeat (first | assumption | exact Below.refl _ _ | apply Below.al | apply Below.drewN' | apply Below.drew | (apply Below.tr; assumption)))⟩)
            | (go_roundw
               case rel => exact ⟨k + 1, by omega, by go_num, (by repeat (first | assumption | exact Below.refl _ _ | apply Below.al | apply Below.drewN' | apply Below.drew | (apply Below.tr; assumption))), hid (by rw [H.out, HS.out, h1]; rfl)⟩
               case measure => simp [intOf]; omega)
      · have HE : Hid (xs.all (lkB stars) = true) := hid (by rw [H.out, List.drop_eq_nil_of_le (by omega)]; rfl)
        go_wp2
        go_ret
        exact ⟨ret_bool (by simp [vlB, HE.out, hs]; try omega), (by repeat (first | assumption | exact Below.refl _ _ | apply Below.al | apply Below.drewN' | apply Below.drew | (apply Below.tr; assumption)))⟩
set_option maxHeartbeats 1000000 in
theorem implValidLinks_any (stars : Int) (A : Option Addr) (c : Nat) (xs : List Lk) (w : World) (h : Rd encLk 3 w w.heap.size A xs) (hn : xs.length ≤ 1048576) :
    Calls Try.prog 28 #[.int .i64 stars, .slice A xs.length c] w fun e w' => e = .returned (.bool (vlB stars xs)) ∧ Below w.heap.size w w' := by
  by_cases hs : inB stars 1 10 = true ∧ xs.length ≤ 12
  · obtain ⟨hs, h12⟩ := hs
    go_enter Try.func28, Try.ntmps28
    go_wp2_with (go_at_call 40; refine (in_any _ _ _ _).mono ?_; rintro e w' ⟨rfl, rfl⟩)
    go_loopw [17] (fun i wr => ∃ k : Nat, k ≤ xs.length ∧ i = .int .i64 k ∧ Below w.heap.size w wr ∧ Hid (xs.all (lkB stars) = (xs.drop k).all (lkB stars))) (fun i _ => xs.length - (intOf i).toNat)
    case atStart => exact ⟨0, Nat.zero_le _, rfl, (by repeat (first | assumption | exact Below.refl _ _ | apply Below.al | apply Below.drewN' | apply Below.drew | (apply Below.tr; assumption))), hid rfl⟩
    case round =>
      obtain ⟨k, hk, rfl, hb, H⟩ := hrel
      by_cases hlt : k < xs.length
      · obtain ⟨p, hp⟩ := getx hlt
        obtain ⟨b, o, rfl, hbB, c0, c1, c2⟩ := (h.below hb (Nat.le_refl _)).at3 hp rfl
        have hsz := hb.size
        have HS : Hid ((xs.drop k).all (lkB stars) = (lkB stars p && (xs.drop (k+1)).all (lkB stars))) := by rw [dropx hp]; rfl
        clear hp
        cases h1 : lkB stars p
        all_goals
          go_wp2_with fail
          refine (isLink_any stars p.a p.b p.d _).mono ?_
          rintro e w1 ⟨rfl, hb1⟩
          go_wp2
          first
            | (go_ret
               exact ⟨ret_bool (by simp [vlB, H.out, HS.out, h1]), (by repeat (first | assumption | exact Below.refl _ _ | apply Below.al | apply Below.drewN' | apply Below.drew | (apply Below.tr; assumption)))⟩)
            | (go_roundw
               case rel => exact ⟨k + 1, by omega, by go_num, (by repeat (first | assumption | exact Below.refl _ _ | apply Below.al | apply Below.drewN' | apply Below.drew | (apply Below.tr; assumption))), hid (by rw [H.out, HS.out, h1]; rfl)⟩
               case measure => simp [intOf]; omega)
      · have HE : Hid (xs.all (lkB stars) = true) := hid (by rw [H.out, List.drop_eq_nil_of_le (by omega)]; rfl)
        go_wp2
        go_ret
        exact ⟨ret_bool (by simp [vlB, HE.out, hs]; try omega), (by repeat (first | assumption | exact Below.refl _ _ | apply Below.al | apply Below.drewN' | apply Below.drew | (apply Below.tr; assumption)))⟩
  · have HE : Hid (vlB stars xs = false) := by
      unfold Hid vlB
      cases h1 : inB stars 1 10
      · rfl
      · simp [h1] at hs; simp; omega
    cases h1 : inB stars 1 10
    · go_enter Try.func28, Try.ntmps28
      go_wp2_with (go_at_call 40; refine (in_any _ _ _ _).mono ?_; rintro e w' ⟨rfl, rfl⟩)
      go_ret
      exact ⟨ret_bool HE.out.symm, (by repeat (first | assumption | exact Below.refl _ _ | apply Below.al | apply Below.drewN' | apply Below.drew | (apply Below.tr; assumption)))⟩
    · have h12 : 12 < xs.length := by simp [h1] at hs; omega
      go_enter Try.func28, Try.ntmps28
      go_wp2_with (go_at_call 40; refine (in_any _ _ _ _).mono ?_; rintro e w' ⟨rfl, rfl⟩)
      go_ret
      exact ⟨ret_bool HE.out.symm, (by repeat (first | assumption | exact Below.refl _ _ | apply Below.al | apply Below.drewN' | apply Below.drew | (apply Below.tr; assumption)))⟩
end Go.Proofs.Ytalongdieglibaa
