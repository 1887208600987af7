/- Contracts: sums, means without one, the weighted mean, in the program and in the reference. -/
import Derived.Test.YtjdlledbjindmaaC21a
import Derived.Test.YtjdlledbjindmaaCGcd
namespace Go.Proofs.Ytjdlledbjindmaa
open Go.RowKit
set_option linter.unusedVariables false
def sumI : List Int → Int
  | [] => 0
  | x :: r => x + sumI r
theorem sumI_bd : ∀ (xs : List Int) (n : Nat), xs.length ≤ n → (∀ (k : Nat) (p : Int), xs[k]? = some p → -20000 ≤ p ∧ p ≤ 20000) → -(n * 20000) ≤ sumI xs ∧ sumI xs ≤ n * 20000
  | [], n, _, _ => by simp [sumI]; omega
  | x :: r, 0, h, _ => by simp at h
  | x :: r, n + 1, h, hx => by
    have h1 := sumI_bd r n (by simpa using h) (fun k p hp => hx (k + 1) p (by simpa using hp))
    have h2 := hx 0 x rfl
    simp only [sumI]
    push_cast
    omega
theorem sumI_nn : ∀ (xs : List Int), (∀ (k : Nat) (p : Int), xs[k]? = some p → 0 ≤ p) → 0 ≤ sumI xs
  | [], _ => by simp [sumI]
  | x :: r, hx => by
    have h1 := sumI_nn r (fun k p hp => hx (k + 1) p (by simpa using hp))
    have h2 := hx 0 x rfl
    simp only [sumI]
    omega
theorem sum_any (A : Option Addr) (c : Nat) (xs : List Int) (w : World) (h : Rd encI 1 w w.heap.size A xs) (hn : xs.length ≤ 100) (X : Hid (∀ (k : Nat) (p : Int), xs[k]? = some p → -20000 ≤ p ∧ p ≤ 20000)) :
    Calls Try.prog 22 #[.slice A xs.length c] w fun e w' => e = .returned (.int .i64 (sumI xs)) ∧ Below w.heap.size w w' := by
  go_enter Try.func22, Try.ntmps22
  go_wp2
  go_loopw [3, 8] (fun sv i wr => ∃ (k : Nat) (a : Int), k ≤ xs.length ∧ i = .int .i64 k ∧ sv = .int .i64 a ∧ -(k * 20000) ≤ a ∧ a ≤ k * 20000 ∧ Below w.heap.size w wr ∧ Hid (sumI xs = a + sumI (xs.drop k))) (fun _ i _ => xs.length - (intOf i).toNat)
  case atStart => exact ⟨0, 0, Nat.zero_le _, rfl, rfl, by omega, by omega, (by repeat (first | assumption | exact Below.refl _ _ | apply Below.al | apply Below.drewN' | apply Below.drew | (apply Below.tr; assumption))), hid (by simp)⟩
  case round =>
    obtain ⟨k, a, hk, rfl, rfl, a0, a1, hb, H⟩ := hrel
    by_cases hlt : k < xs.length
    · obtain ⟨p, hp⟩ := getx hlt
      obtain ⟨bb, o, rfl, hbB, c0⟩ := (h.below hb (Nat.le_refl _)).at1 hp rfl
      have hsz := hb.size
      obtain ⟨p1, p2⟩ := X.out k p hp
      have b0 : bb < wr.heap.size := by omega
      have HS : Hid (sumI (xs.drop k) = p + sumI (xs.drop (k+1))) := by rw [dropx hp]; rfl
      clear hp
      go_wp2
      go_roundw
      case rel => exact ⟨k + 1, a + p, by omega, by go_num, rfl, by push_cast; omega, by push_cast; omega, (by repeat (first | assumption | exact Below.refl _ _ | apply Below.al | apply Below.drewN' | apply Below.drew | (apply Below.tr; assumption))), hid (by rw [H.out, HS.out]; omega)⟩
      case measure => simp [intOf]; omega
    · have HE : Hid (sumI xs = a) := hid (by rw [H.out, List.drop_eq_nil_of_le (by omega)]; simp [sumI])
      go_wp2
      go_ret
      exact ⟨ret_int HE.out.symm, (by repeat (first | assumption | exact Below.refl _ _ | apply Below.al | apply Below.drewN' | apply Below.drew | (apply Below.tr; assumption)))⟩
theorem l02Sum_any (A : Option Addr) (c : Nat) (xs : List Int) (w : World) (h : Rd encI 1 w w.heap.size A xs) (hn : xs.length ≤ 100) (X : Hid (∀ (k : Nat) (p : Int), xs[k]? = some p → -20000 ≤ p ∧ p ≤ 20000)) :
    Calls Try.prog 18 #[.slice A xs.length c] w fun e w' => e = .returned (.int .i64 (sumI xs)) ∧ Below w.heap.size w w' := by
  go_enter Try.func18, Try.ntmps18
  go_wp2
  go_loopw [3, 4] (fun sv i wr => ∃ (k : Nat) (a : Int), k ≤ xs.length ∧ i = .int .i64 k ∧ sv = .int .i64 a ∧ -(k * 20000) ≤ a ∧ a ≤ k * 20000 ∧ Below w.heap.size w wr ∧ Hid (sumI xs = a + sumI (xs.drop k))) (fun _ i _ => xs.length - (intOf i).toNat)
  case atStart => exact ⟨0, 0, Nat.zero_le _, rfl, rfl, by omega, by omega, (by repeat (first | assumption | exact Below.refl _ _ | apply Below.al | apply Below.drewN' | apply Below.drew | (apply Below.tr; assumption))), hid (by simp)⟩
  case round =>
    obtain ⟨k, a, hk, rfl, rfl, a0, a1, hb, H⟩ := hrel
    by_cases hlt : k < xs.length
    · obtain ⟨p, hp⟩ := getx hlt
      obtain ⟨bb, o, rfl, hbB, c0⟩ := (h.below hb (Nat.le_refl _)).at1 hp rfl
      have hsz := hb.size
      obtain ⟨p1, p2⟩ := X.out k p hp
      have b0 : bb < wr.heap.size := by omega
      have HS : Hid (sumI (xs.drop k) = p + sumI (xs.drop (k+1))) := by rw [dropx hp]; rfl
      clear hp
      go_wp2
      go_roundw
      case rel => exact ⟨k + 1, a + p, by omega, by go_num, rfl, by push_cast; omega, by push_cast; omega, (by repeat (first | assumption | exact Below.refl _ _ | apply Below.al | apply Below.drewN' | apply Below.drew | (apply Below.tr; assumption))), hid (by rw [H.out, HS.out]; omega)⟩
      case measure => simp [intOf]; omega
    · have HE : Hid (sumI xs = a) := hid (by rw [H.out, List.drop_eq_nil_of_le (by omega)]; simp [sumI])
      go_wp2
      go_ret
      exact ⟨ret_int HE.out.symm, (by repeat (first | assumption | exact Below.refl _ _ | apply Below.al | apply Below.drewN' | apply Below.drew | (apply Below.tr; assumption)))⟩
def twC (xs : List Int) : Int := if magsB xs = true then (if xs.length < 2 then 3 else 0) else 2
theorem twoMags_any (A : Option Addr) (c : Nat) (xs : List Int) (w : World) (h : Rd encI 1 w w.heap.size A xs) (hn : xs.length ≤ 1048576) :
    Calls Try.prog 20 #[.slice A xs.length c] w fun e w' => e = .returned (.int .i64 (twC xs)) ∧ Below w.heap.size w w' := by
  cases h1 : magsB xs <;> by_cases h2 : xs.length < 2
  all_goals
    have HC : Hid (twC xs = twC xs) := rfl
    go_enter Try.func20, Try.ntmps20
    go_wp2_with (go_at_call 29; refine (areMags_any A c xs _ h hn).mono ?_; rintro e w1 ⟨rfl, hb1⟩; obtain ⟨hc_w1, hf_w1⟩ := bcell hb1; have hz_w1 := hb1.size)
    go_ret
    exact ⟨ret_int (by simp [twC, h1]; try omega), (by repeat (first | assumption | exact Below.refl _ _ | apply Below.al | apply Below.drewN' | apply Below.drew | (apply Below.tr; assumption)))⟩
theorem countI_any (A : Option Addr) (n c : Nat) (w : World) :
    Calls Try.prog 23 #[.slice A n c] w fun e w' => e = .returned (.int .i64 (n : Int)) ∧ w = w' := by
  go_enter Try.func23, Try.ntmps23
  go_wp2
  go_ret
  exact ⟨rfl, rfl⟩
def loV (xs : List Int) : List Int := if twC xs = 0 then xs.map fun m => nearI (sumI xs - m) ((xs.length : Int) - 1) else []
theorem loV_len (xs : List Int) : (loV xs).length ≤ xs.length := by unfold loV; split <;> simp
set_option maxRecDepth 20000 in
set_option maxHeartbeats 2000000 in
theorem specLeaveOneOut_any (Ad : Option Addr) (c : Nat) (xs : List Int) (w : World) (h : Rd encI 1 w w.heap.size Ad xs) (hn : xs.length ≤ 1048576) :
    Calls Try.prog 6 #[.slice Ad xs.length c] w (OwnTup 2 1 encI (loV xs) (twC xs) w) := by
  by_cases hc : twC xs = 0
  rotate_left
  · have HV : Hid (loV xs = []) := by simp [Hid, loV, hc]
    cases h1 : magsB xs <;> by_cases h2 : xs.length < 2
    all_goals
      first
        | (exfalso; apply hc; unfold twC; rw [h1]; simp; omega)
        | (have HC := hid (show twC xs = _ by unfold twC; rw [h1])
           have HM := hid (show codeMags xs = _ by unfold codeMags; rw [h1])
           have HC2 : Hid (twC xs = if magsB xs = true then 3 else 2) := hid (by unfold twC; rw [h1]; simp; try omega)
           first
             | (have HN1 : (codeMags xs == 0) = true := by rw [HM.out]; rfl)
             | (have HN1 : (codeMags xs == 0) = false := by rw [HM.out]; rfl)
           first
             | (have HN2 : (codeMags xs != 0) = true := by rw [HM.out]; rfl)
             | (have HN2 : (codeMags xs != 0) = false := by rw [HM.out]; rfl)
           have HE1 := hid h1
           clear hc h1
           go_enter Try.func6, Try.ntmps6
           go_wp2_with (go_at_call 17; refine (l02List_any Ad c xs _ h hn).mono ?_; rintro e w1 ⟨rfl, hb1⟩; obtain ⟨hc_w1, hf_w1⟩ := bcell hb1; have hz_w1 := hb1.size)
           go_ret2
           exact ⟨none, 0, by rw [HV.out, HC2.out, HE1.out]; simp [HM.out], by rw [HV.out]; exact World.ownsRow_nil _ _ _ _, (by repeat (first | assumption | exact Below.refl _ _ | apply Below.al | apply Below.drewN' | apply Below.drew | (apply Below.tr; assumption)))⟩)
  have hm : magsB xs = true := by unfold twC at hc; cases h1 : magsB xs <;> simp_all
  have h2 : ¬ xs.length < 2 := by unfold twC at hc; rw [hm] at hc; intro h9; simp [h9] at hc
  have HM : Hid (codeMags xs = 0) := hid (by unfold codeMags; rw [hm]; rfl)
  have HN1 : (codeMags xs == 0) = true := by rw [HM.out]; rfl
  have HN2 : (codeMags xs != 0) = false := by rw [HM.out]; rfl
  obtain ⟨hl, hx⟩ := magsB_true hm
  have X : Hid (∀ (k : Nat) (p : Int), xs[k]? = some p → -20000 ≤ p ∧ p ≤ 20000) := hid (fun k p hp => by have := hx k p hp; omega)
  obtain ⟨s1, s2⟩ := sumI_bd xs 100 hl X.out
  have HV : Hid (loV xs = xs.map fun m => nearI (sumI xs - m) ((xs.length : Int) - 1)) := by simp [Hid, loV, hc]
  have HC := hid hc
  clear hc hm hx
  obtain ⟨i0, hi0, iz0, iz1, iz2⟩ := info_parts (P := Try.prog) (e := 2) (z := .int .i64 0) (size := 1) (bytes := 8) (by kernel_rfl)
  go_enter Try.func6, Try.ntmps6
  go_wp2_with (first | (go_at_call 17; refine (l02List_any Ad c xs _ h hn).mono ?_; rintro e w1 ⟨rfl, hb1⟩; obtain ⟨hc_w1, hf_w1⟩ := bcell hb1; have hz_w1 := hb1.size) | (go_at_call 18; refine (l02Sum_any Ad c xs _ ((h.below hb1 (Nat.le_refl _)).more hb1.size) (by omega) X).mono ?_; rintro e w2 ⟨rfl, hb2⟩; obtain ⟨hc_w2, hf_w2⟩ := bcell hb2; have hz_w2 := hb2.size; (try simp at hz_w2); (try have g_w2 : w.heap.size < w2.heap.size := (by omega))))
  go_loopw [6, 7] (fun v i wr => ∃ k : Nat, k ≤ xs.length ∧ i = .int .i64 k ∧ Below w.heap.size w wr ∧ wr.ownsRow w.heap.size 2 1 v k (((xs.take k).map fun m => nearI (sumI xs - m) ((xs.length : Int) - 1)).flatMap encI)) (fun _ i _ => xs.length - (intOf i).toNat)
  case atStart => exact ⟨0, Nat.zero_le _, rfl, (by repeat (first | assumption | exact Below.refl _ _ | apply Below.al | apply Below.drewN' | apply Below.drew | (apply Below.tr; assumption))), own_lit0 _ _ _ (Below.size (by repeat (first | assumption | exact Below.refl _ _ | apply Below.al | apply Below.drewN' | apply Below.drew | (apply Below.tr; assumption))))⟩
  case round =>
    obtain ⟨k, hk, rfl, hb, hown⟩ := hrel
    by_cases hlt : k < xs.length
    · obtain ⟨p, hp⟩ := getx hlt
      obtain ⟨bb, o, rfl, hbB, c0⟩ := (h.below hb (Nat.le_refl _)).at1 hp rfl
      have hsz := hb.size
      have hbw := hb
      obtain ⟨p1, p2⟩ := X.out k p hp
      have HP := hid hp
      have H0 := hid hown
      have b0 : bb < wr.heap.size := by omega
      clear hp hown
      go_wp2_with (first | (go_at_call 19; refine (l02Round_any _ _ _ (by omega) (by omega) (by omega) (by omega)).mono ?_; rintro e w' ⟨rfl, rfl⟩) | (at_builtin; go_must (refine wpList_append_own _ rfl _ _ 22 rfl (w.heap.size) 2 i0 _ 1 8 Try.underlying22 hi0 iz0 iz1 iz2 rfl (by decide) _ _ _ rfl (H0.out.alloc _) ⟨(wr).heap.size, 0, none⟩ 1 1 [.int .i64 (nearI (sumI xs - p) ((xs.length : Int) - 1))] rfl rfl (news_at wr [.int .i64 (nearI (sumI xs - p) ((xs.length : Int) - 1))] 2) (by simp [Value.oneCell']) (by unfold maxLen; omega) (by omega) (by first | omega | (simp; done) | (simp; omega)) ?_); intro v2 w2 own_w2 grow_w2 _))
      go_roundw
      case rel => exact ⟨k + 1, by omega, by go_num, Below.ap hb hb.size H0.out (Nat.le_refl _) grow_w2, by rw [List.take_add_one, HP.out]; simpa [encI] using own_w2⟩
      case measure => simp [intOf]; omega
    · obtain rfl : k = xs.length := by omega
      have H0 := hid hown
      obtain ⟨Ar, cr, rfl⟩ := own_shape hown
      clear hown
      go_wp2
      go_ret2
      exact ⟨Ar, cr, by rw [HV.out, HC.out]; simp, by rw [HV.out]; have := H0.out; simpa using this, hb⟩
set_option maxRecDepth 20000 in
set_option maxHeartbeats 2000000 in
theorem implLeaveOneOut_any (Ad : Option Addr) (c : Nat) (xs : List Int) (w : World) (h : Rd encI 1 w w.heap.size Ad xs) (hn : xs.length ≤ 1048576) :
    Calls Try.prog 8 #[.slice Ad xs.length c] w (OwnTup 2 1 encI (loV xs) (twC xs) w) := by
  by_cases hc : twC xs = 0
  rotate_left
  · have HN : (twC xs != 0) = true := by simp [hc]
    have HV : Hid (loV xs = []) := by simp [Hid, loV, hc]
    clear hc
    go_enter Try.func8, Try.ntmps8
    go_wp2_with (go_at_call 20; refine (twoMags_any Ad c xs _ h hn).mono ?_; rintro e w1 ⟨rfl, hb1⟩; obtain ⟨hc_w1, hf_w1⟩ := bcell hb1; have hz_w1 := hb1.size)
    go_ret2
    exact ⟨none, 0, by rw [HV.out]; rfl, by rw [HV.out]; exact World.ownsRow_nil _ _ _ _, (by repeat (first | assumption | exact Below.refl _ _ | apply Below.al | apply Below.drewN' | apply Below.drew | (apply Below.tr; assumption)))⟩
  have hm : magsB xs = true := by unfold twC at hc; cases h1 : magsB xs <;> simp_all
  have h2 : ¬ xs.length < 2 := by unfold twC at hc; rw [hm] at hc; intro h9; simp [h9] at hc
  have HN : (twC xs != 0) = false := by simp [hc]
  obtain ⟨hl, hx⟩ := magsB_true hm
  have X : Hid (∀ (k : Nat) (p : Int), xs[k]? = some p → -20000 ≤ p ∧ p ≤ 20000) := hid (fun k p hp => by have := hx k p hp; omega)
  obtain ⟨s1, s2⟩ := sumI_bd xs 100 hl X.out
  have HV : Hid (loV xs = xs.map fun m => nearI (sumI xs - m) ((xs.length : Int) - 1)) := by simp [Hid, loV, hc]
  have HC := hid hc
  clear hc hm hx
  obtain ⟨i0, hi0, iz0, iz1, iz2⟩ := info_parts (P := Try.prog) (e := 2) (z := .int .i64 0) (size := 1) (bytes := 8) (by kernel_rfl)
  go_enter Try.func8, Try.ntmps8
  go_wp2_with (go_at_call 20; refine (twoMags_any Ad c xs _ h hn).mono ?_; rintro e w1 ⟨rfl, hb1⟩; obtain ⟨hc_w1, hf_w1⟩ := bcell hb1; have hz_w1 := hb1.size)
  go_loopw [5, 16] (fun v i wr => ∃ k : Nat, k ≤ xs.length ∧ i = .int .i64 k ∧ Below w.heap.size w wr ∧ wr.ownsRow w.heap.size 2 1 v k (((xs.take k).map fun m => nearI (sumI xs - m) ((xs.length : Int) - 1)).flatMap encI)) (fun _ i _ => xs.length - (intOf i).toNat)
  case atStart => exact ⟨0, Nat.zero_le _, rfl, (by repeat (first | assumption | exact Below.refl _ _ | apply Below.al | apply Below.drewN' | apply Below.drew | (apply Below.tr; assumption))), own_lit0 _ _ _ hb1.size⟩
  case round =>
    obtain ⟨k, hk, rfl, hb, hown⟩ := hrel
    by_cases hlt : k < xs.length
    · obtain ⟨p, hp⟩ := getx hlt
      obtain ⟨bb, o, rfl, hbB, c0⟩ := (h.below hb (Nat.le_refl _)).at1 hp rfl
      have hsz := hb.size
      have hbw := hb
      obtain ⟨p1, p2⟩ := X.out k p hp
      have HP := hid hp
      have H0 := hid hown
      have b0 : bb < wr.heap.size := by omega
      clear hp hown
      go_wp2_with (first | (go_at_call 22; refine (sum_any _ c xs _ ((h.below hbw (Nat.le_refl _)).more hbw.size) (by omega) X).mono ?_; rintro e w5 ⟨rfl, hb5⟩; obtain ⟨hc_w5, hf_w5⟩ := bcell hb5; have hz_w5 := hb5.size; (try simp at hz_w5); (try have g_w5 : w.heap.size < w5.heap.size := (by omega)); have hb6 : Below wr.heap.size wr w5 := (by repeat (first | assumption | exact Below.refl _ _ | apply Below.al | apply Below.drewN' | apply Below.drew | (apply Below.tr; assumption))); have H1 := hid (own_below H0.out hb6 (Nat.le_refl _)); have hb7 := Below.tr hb6 hb; have hz7 := hb7.size) | (go_at_call 23; refine (countI_any _ _ _ _).mono ?_; rintro e w' ⟨rfl, rfl⟩) | (go_at_call 21; refine (nearest_any _ _ _ (by omega) (by omega) (by omega) (by omega)).mono ?_; rintro e w' ⟨rfl, rfl⟩) | (at_builtin; go_must (refine wpList_append_own _ rfl _ _ 22 rfl (w.heap.size) 2 i0 _ 1 8 Try.underlying22 hi0 iz0 iz1 iz2 rfl (by decide) _ _ _ rfl (H1.out.alloc _) ⟨(w5).heap.size, 0, none⟩ 1 1 [.int .i64 (nearI (sumI xs - p) ((xs.length : Int) - 1))] rfl rfl (news_at w5 [.int .i64 (nearI (sumI xs - p) ((xs.length : Int) - 1))] 2) (by simp [Value.oneCell']) (by unfold maxLen; omega) (by omega) (by first | omega | (simp; done) | (simp; omega)) ?_); intro v2 w2 own_w2 grow_w2 _))
      go_roundw
      case rel => exact ⟨k + 1, by omega, by go_num, Below.ap hb7 hb7.size H1.out (Nat.le_refl _) grow_w2, by rw [List.take_add_one, HP.out]; simpa [encI] using own_w2⟩
      case measure => simp [intOf]; omega
    · obtain rfl : k = xs.length := by omega
      have H0 := hid hown
      obtain ⟨Ar, cr, rfl⟩ := own_shape hown
      clear hown
      go_wp2
      go_ret2
      exact ⟨Ar, cr, by rw [HV.out, HC.out]; simp, by rw [HV.out]; have := H0.out; simpa using this, hb⟩
end Go.Proofs.Ytjdlledbjindmaa
