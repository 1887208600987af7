/- Contracts: names. -/
import Derived.Test.YtdklchklpmabdaaDoorC1
namespace Go.Proofs.YtdklchklpmabdaaDoor
open Go.RowKit
set_option linter.unusedVariables false
def letB (c : Int) : Bool := decide (97 ≤ c) && decide (c ≤ 122)
def digB (c : Int) : Bool := decide (48 ≤ c) && decide (c ≤ 57)
def chOk (first : Bool) (c : Int) : Bool := letB c || (!first && (digB c || c == 45))
def nmGo : Bool → List UInt8 → Bool
  | _, [] => true
  | f, c :: r => chOk f (c.toNat : Int) && nmGo false r
def nameB (s : ByteArray) : Bool := decide (1 ≤ s.size) && (decide (s.size ≤ 12) && nmGo true s.data.toList)
theorem str_at (s : ByteArray) (k : Nat) (h : k < s.size) : s.data.toList.drop k = s[k] :: s.data.toList.drop (k + 1) := by
  rw [List.drop_eq_getElem_cons (by simpa using h)]
  rfl
theorem nmGo_split : ∀ l : List UInt8, nmGo true l = ((match l with | [] => true | c :: _ => letB (c.toNat : Int)) && nmGo false l)
  | [] => rfl
  | c :: r => by
    simp only [nmGo, chOk]
    cases letB (c.toNat : Int) <;> simp
theorem str_ne {s : ByteArray} (h : ¬ s.size = 0) : (s.data.toList == []) = false := by
  have : s.data.toList.length = s.size := by simp
  cases hs : s.data.toList with
  | nil => rw [hs] at this; simp at this; omega
  | cons a r => rfl
theorem str_ne2 {s : ByteArray} (h : ¬ s.size = 0) : s.data.toList.isEmpty = false := by
  have : s.data.toList.length = s.size := by simp
  cases hs : s.data.toList with
  | nil => rw [hs] at this; simp at this; omega
  | cons a r => rfl
theorem str_ne3 {s : ByteArray} (h : ¬ s.size = 0) : s.toList.isEmpty = false := by rw [ByteArray.toList_eq]; exact str_ne2 h
theorem nmGo_first (s : ByteArray) (h : 0 < s.size) : nmGo true s.data.toList = (letB (s[0].toNat : Int) && nmGo false s.data.toList) := by
  have e := str_at s 0 h
  simp only [List.drop_zero] at e
  have := nmGo_split s.data.toList
  rw [this]
  congr 1
  rw [e]
theorem l01Small_any (c : Int) (w : World) (h0 : 0 ≤ c) (h1 : c ≤ 255) :
    Calls Tryd.prog 30 #[.int .u8 c] w fun e w' => e = .returned (.bool (letB c)) ∧ w = w' := by
  go_enter Tryd.func30, Tryd.ntmps30
  go_wp2
  all_goals (go_ret; refine ⟨?_, rfl⟩; simp [letB]; try omega)
theorem l01Digit_any (c : Int) (w : World) (h0 : 0 ≤ c) (h1 : c ≤ 255) :
    Calls Tryd.prog 28 #[.int .u8 c] w fun e w' => e = .returned (.bool (digB c)) ∧ w = w' := by
  go_enter Tryd.func28, Tryd.ntmps28
  go_wp2
  all_goals (go_ret; refine ⟨?_, rfl⟩; simp [digB]; try omega)
theorem l00In_eq {n lo hi : Int} {v : Bool} (h : inB n lo hi = v) (w : World) :
    Calls Tryd.prog 20 #[.int .i64 n, .int .i64 lo, .int .i64 hi] w fun e w' => e = .returned (.bool v) ∧ w = w' := by
  subst h; exact l00In_any n lo hi w
set_option maxHeartbeats 2000000 in
theorem specIsName_any (s : ByteArray) (w : World) (hs : s.size ≤ maxLen) :
    Calls Tryd.prog 18 #[.string s] w fun e w' => e = .returned (.bool (nameB s)) ∧ w = w' := by
  unfold maxLen at hs
  by_cases h0 : s.size = 0
  · obtain rfl : s = ByteArray.empty := ByteArray.size_eq_zero_iff.1 h0
    go_enter Tryd.func18, Tryd.ntmps18
    go_wp2
    go_ret
    exact ⟨ret_bool (by rfl), rfl⟩
  have hE : (s.data.toList == []) = false := str_ne h0
  have hE2 : s.data.toList.isEmpty = false := str_ne2 h0
  have hE3 : s.toList.isEmpty = false := str_ne3 h0
  by_cases h12 : 12 < s.size
  · go_enter Tryd.func18, Tryd.ntmps18
    go_wp2
    go_ret
    exact ⟨ret_bool (by simp [nameB]; omega), rfl⟩
  have hp : 0 < s.size := by omega
  have hp' : (0 : Int) < s.size := by omega
  have HN : Hid (nmGo true s.data.toList = (letB (s[0].toNat : Int) && nmGo false s.data.toList)) := nmGo_first s hp
  have c0 : (s[0].toNat : Int) ≤ 255 := by have := s[0].toNat_lt; omega
  cases hl : letB (s[0].toNat : Int)
  · go_enter Tryd.func18, Tryd.ntmps18
    go_wp2_with (go_at_call 30; refine (l01Small_any _ _ (by omega) (by omega)).mono ?_; rintro e w' ⟨rfl, rfl⟩)
    go_ret
    exact ⟨ret_bool (by simp [nameB, HN.out, hl]), rfl⟩
  go_enter Tryd.func18, Tryd.ntmps18
  go_wp2_with (go_at_call 30; refine (l01Small_any _ _ (by omega) (by omega)).mono ?_; rintro e w' ⟨rfl, rfl⟩)
  go_loop [3] (fun i => ∃ k : Nat, k ≤ s.size ∧ i = .int .i64 k ∧ Hid (nmGo false s.data.toList = nmGo false (s.data.toList.drop k))) (fun i => s.size - (intOf i).toNat)
  case atStart => exact ⟨0, Nat.zero_le _, rfl, hid rfl⟩
  case round =>
    obtain ⟨k, hk, rfl, H⟩ := hrel
    by_cases hlt : k < s.size
    · have HS : Hid (nmGo false (s.data.toList.drop k) = (chOk false (s[k].toNat : Int) && nmGo false (s.data.toList.drop (k+1)))) := by rw [str_at s k hlt]; rfl
      have ck : (s[k].toNat : Int) ≤ 255 := by have := s[k].toNat_lt; omega
      cases q1 : letB (s[k].toNat : Int) <;> cases q2 : digB (s[k].toNat : Int) <;> by_cases q3 : (s[k].toNat : Int) = 45
      all_goals
        first
          | (have q3' : ((s[k].toNat : Int) != 45) = true := by simpa using q3)
          | (have q3' : ((s[k].toNat : Int) != 45) = false := by simpa using q3)
        go_wp2_with (first | (go_at_call 30; refine (l01Small_any _ _ (by omega) (by omega)).mono ?_; rintro e w' ⟨rfl, rfl⟩) | (go_at_call 28; refine (l01Digit_any _ _ (by omega) (by omega)).mono ?_; rintro e w' ⟨rfl, rfl⟩))
        first
          | (go_ret
             exact ⟨ret_bool (by simp [nameB, HN.out, H.out, HS.out, chOk, q1, q2, q3]), rfl⟩)
          | (go_round
             case rel => exact ⟨k + 1, by omega, by go_num, hid (by rw [H.out, HS.out]; simp [chOk, q1, q2, q3])⟩
             case measure => simp [intOf]; omega)
    · have HE : Hid (nmGo false s.data.toList = true) := hid (by rw [H.out, List.drop_eq_nil_of_le (by simp; omega)]; rfl)
      go_wp2
      go_ret
      exact ⟨ret_bool (by simp [nameB, HN.out, HE.out, hl]; omega), rfl⟩
theorem specIsName_eq {s : ByteArray} {v : Bool} (h : nameB s = v) (w : World) (hs : s.size ≤ maxLen) :
    Calls Tryd.prog 18 #[.string s] w fun e w' => e = .returned (.bool v) ∧ w = w' := by
  subst h; exact specIsName_any s w hs
set_option maxHeartbeats 2000000 in
theorem implIsName_any (s : ByteArray) (w : World) (hs : s.size ≤ maxLen) :
    Calls Tryd.prog 38 #[.string s] w fun e w' => e = .returned (.bool (nameB s)) ∧ w = w' := by
  unfold maxLen at hs
  by_cases h0 : s.size < 1
  · go_enter Tryd.func38, Tryd.ntmps38
    go_wp2
    go_ret
    exact ⟨ret_bool (by simp [nameB]; omega), rfl⟩
  by_cases h12 : 12 < s.size
  · go_enter Tryd.func38, Tryd.ntmps38
    go_wp2
    go_ret
    exact ⟨ret_bool (by simp [nameB]; omega), rfl⟩
  go_enter Tryd.func38, Tryd.ntmps38
  go_wp2
  go_loop [16] (fun i => ∃ k : Nat, k ≤ s.size ∧ i = .int .i64 k ∧ Hid (nmGo true s.data.toList = nmGo (decide (k = 0)) (s.data.toList.drop k))) (fun i => s.size - (intOf i).toNat)
  case atStart => exact ⟨0, Nat.zero_le _, rfl, hid rfl⟩
  case round =>
    obtain ⟨k, hk, rfl, H⟩ := hrel
    by_cases hlt : k < s.size
    · have HS : Hid (nmGo (decide (k = 0)) (s.data.toList.drop k) = (chOk (decide (k = 0)) (s[k].toNat : Int) && nmGo false (s.data.toList.drop (k+1)))) := by rw [str_at s k hlt]; rfl
      have HD : Hid (nmGo (decide (k + 1 = 0)) (s.data.toList.drop (k+1)) = nmGo false (s.data.toList.drop (k+1))) := by simp [Hid]
      have ck : (s[k].toNat : Int) ≤ 255 := by have := s[k].toNat_lt; omega
      by_cases q6 : k = 0
      · subst q6
        by_cases q1 : 97 ≤ (s[0].toNat : Int) <;> by_cases q2 : (s[0].toNat : Int) ≤ 122 <;> by_cases q3 : 48 ≤ (s[0].toNat : Int) <;> by_cases q4 : (s[0].toNat : Int) ≤ 57 <;> by_cases q5 : (s[0].toNat : Int) = 45
        all_goals
          first
            | (exfalso; omega)
            | (first
                 | (have q5' : ((s[0].toNat : Int) == 45) = true := by simpa using q5)
                 | (have q5' : ((s[0].toNat : Int) == 45) = false := by simpa using q5)
               go_wp2
               first
                 | (have HF : Hid (nmGo true s.data.toList = false) := hid (by rw [H.out, HS.out]; simp [chOk, letB, digB, *] <;> omega)
                    go_ret
                    exact ⟨ret_bool (by simp [nameB, HF.out]), rfl⟩)
                 | (go_round
                    case rel => exact ⟨1, by omega, rfl, hid (by rw [H.out, HS.out, HD.out]; simp [chOk, letB, digB, *] <;> omega)⟩
                    case measure => simp [intOf]; omega))
      · have q6' : ((k : Int) == 0) = false := by simpa using q6
        have q7 : decide (k = 0) = false := by simpa using q6
        clear q6
        by_cases q1 : 97 ≤ (s[k].toNat : Int) <;> by_cases q2 : (s[k].toNat : Int) ≤ 122 <;> by_cases q3 : 48 ≤ (s[k].toNat : Int) <;> by_cases q4 : (s[k].toNat : Int) ≤ 57 <;> by_cases q5 : (s[k].toNat : Int) = 45
        all_goals
          first
            | (exfalso; omega)
            | (first
                 | (have q5' : ((s[k].toNat : Int) == 45) = true := by simpa using q5)
                 | (have q5' : ((s[k].toNat : Int) == 45) = false := by simpa using q5)
               go_wp2
               first
                 | (have HF : Hid (nmGo true s.data.toList = false) := hid (by rw [H.out, HS.out]; simp [chOk, letB, digB, *] <;> omega)
                    go_ret
                    exact ⟨ret_bool (by simp [nameB, HF.out]), rfl⟩)
                 | (go_round
                    case rel => exact ⟨k + 1, by omega, by go_num, hid (by rw [H.out, HS.out, HD.out]; simp [chOk, letB, digB, *] <;> omega)⟩
                    case measure => simp [intOf]; omega))
    · have HE : Hid (nmGo true s.data.toList = true) := hid (by rw [H.out, List.drop_eq_nil_of_le (by simp; omega)]; cases decide (k = 0) <;> rfl)
      go_wp2
      go_ret
      exact ⟨ret_bool (by simp [nameB, HE.out]; omega), rfl⟩
end Go.Proofs.YtdklchklpmabdaaDoor
