/- Contracts: SignChanges, ChiSquare, DeviationsFrom, in the program and in the reference. -/
import Derived.Test.YtfohoidbiiipgaaCInt
namespace Go.Proofs.Ytfohoidbiiipgaa
open Go.RowKit
set_option linter.unusedVariables false
theorem magsB_true {xs : List Int} (h : magsB xs = true) : xs.length ≤ 100 ∧ ∀ (k : Nat) (p : Int), xs[k]? = some p → -2000 ≤ p ∧ p ≤ 20000 := by
  simp only [magsB, Bool.and_eq_true, decide_eq_true_eq, List.all_eq_true] at h
  exact ⟨h.1, fun k p hp => inB_true.1 (h.2 p (List.mem_of_getElem? hp))⟩
theorem getx_zip {α β : Type} {xs : List α} {ys : List β} {k : Nat} (hk : k < xs.length) (hl : xs.length = ys.length) : ∃ q, ys[k]? = some q := getx (by omega)
set_option maxHeartbeats 1000000 in
theorem distances_any (Ad : Option Addr) (c : Nat) (xs : List Int) (m : Int) (w : World) (h : Rd encI 1 w w.heap.size Ad xs) (hn : xs.length ≤ 1048576) (hx : ∀ (k : Nat) (p : Int), xs[k]? = some p → -1000000000000000000 ≤ p ∧ p ≤ 1000000000000000000) (m1 : -1000000000000000000 ≤ m) (m2 : m ≤ 1000000000000000000) :
    Calls Try.prog 25 #[.slice Ad xs.length c, .int .i64 m] w (OwnRes 2 1 encI (xs.map fun x => absI (x - m)) w) := by
  obtain ⟨i0, hi0, iz0, iz1, iz2⟩ := info_parts (P := Try.prog) (e := 2) (z := .int .i64 0) (size := 1) (bytes := 8) (by kernel_rfl)
  have HX := hid hx
  clear hx
  go_enter Try.func25, Try.ntmps25
  go_wp2
  go_loopw [5, 11] (fun v i wr => ∃ k : Nat, k ≤ xs.length ∧ i = .int .i64 k ∧ Below w.heap.size w wr ∧ wr.ownsRow w.heap.size 2 1 v k (((xs.take k).map fun x => absI (x - m)).flatMap encI)) (fun _ i _ => xs.length - (intOf i).toNat)
  case atStart => exact ⟨0, Nat.zero_le _, rfl, (by repeat (first | assumption | exact Below.refl _ _ | apply Below.al | apply Below.drewN' | apply Below.drew | (apply Below.tr; assumption))), own_lit0 _ _ _ (Nat.le_refl _)⟩
  case round =>
    obtain ⟨k, hk, rfl, hb, hown⟩ := hrel
    by_cases hlt : k < xs.length
    · obtain ⟨p, hp⟩ := getx hlt
      obtain ⟨b, o, rfl, hbB, c0⟩ := (h.below hb (Nat.le_refl _)).at1 hp rfl
      have hsz := hb.size
      obtain ⟨p1, p2⟩ := HX.out k p hp
      have HP := hid hp
      have H0 := hid hown
      clear hp hown
      go_wp2_with (first | (go_at_call 38; refine (abs_any (p - m) _ (by omega) (by omega)).mono ?_; rintro e w' ⟨rfl, rfl⟩) | (at_builtin; go_must (refine wpList_append_own _ rfl _ _ 22 rfl (w.heap.size) 2 i0 _ 1 8 Try.underlying22 hi0 iz0 iz1 iz2 rfl (by decide) _ _ _ rfl (H0.out.alloc _) ⟨(wr).heap.size, 0, none⟩ 1 1 [.int .i64 (absI (p - m))] rfl rfl (news_at wr [.int .i64 (absI (p - m))] 2) (by simp [Value.oneCell']) (by unfold maxLen; omega) (by omega) (by first | omega | (simp; done) | (simp; omega)) ?_); intro v2 w2 own_w2 grow_w2 _))
      go_roundw
      case rel => exact ⟨k + 1, by omega, by go_num, Below.ap hb hb.size H0.out (Nat.le_refl _) grow_w2, by rw [List.take_add_one, HP.out]; simpa [encI] using own_w2⟩
      case measure => simp [intOf]; omega
    · obtain rfl : k = xs.length := by omega
      have H0 := hid hown
      obtain ⟨Ar, cr, rfl⟩ := own_shape hown
      clear hown
      go_wp2
      go_ret
      exact ⟨Ar, cr, by simp, by have := H0.out; simpa using this, hb⟩
set_option maxHeartbeats 1000000 in
theorem l21Away_any (Ad : Option Addr) (c : Nat) (xs : List Int) (m : Int) (w : World) (h : Rd encI 1 w w.heap.size Ad xs) (hn : xs.length ≤ 1048576) (hx : ∀ (k : Nat) (p : Int), xs[k]? = some p → -1000000000000000000 ≤ p ∧ p ≤ 1000000000000000000) (m1 : -1000000000000000000 ≤ m) (m2 : m ≤ 1000000000000000000) :
    Calls Try.prog 34 #[.slice Ad xs.length c, .int .i64 m] w (OwnRes 2 1 encI (xs.map fun x => absI (x - m)) w) := by
  obtain ⟨i0, hi0, iz0, iz1, iz2⟩ := info_parts (P := Try.prog) (e := 2) (z := .int .i64 0) (size := 1) (bytes := 8) (by kernel_rfl)
  have HX := hid hx
  clear hx
  go_enter Try.func34, Try.ntmps34
  go_wp2
  go_loopw [5, 6] (fun v i wr => ∃ k : Nat, k ≤ xs.length ∧ i = .int .i64 k ∧ Below w.heap.size w wr ∧ wr.ownsRow w.heap.size 2 1 v k (((xs.take k).map fun x => absI (x - m)).flatMap encI)) (fun _ i _ => xs.length - (intOf i).toNat)
  case atStart => exact ⟨0, Nat.zero_le _, rfl, (by repeat (first | assumption | exact Below.refl _ _ | apply Below.al | apply Below.drewN' | apply Below.drew | (apply Below.tr; assumption))), own_lit0 _ _ _ (Nat.le_refl _)⟩
  case round =>
    obtain ⟨k, hk, rfl, hb, hown⟩ := hrel
    by_cases hlt : k < xs.length
    · obtain ⟨p, hp⟩ := getx hlt
      obtain ⟨b, o, rfl, hbB, c0⟩ := (h.below hb (Nat.le_refl _)).at1 hp rfl
      have hsz := hb.size
      obtain ⟨p1, p2⟩ := HX.out k p hp
      have HP := hid hp
      have H0 := hid hown
      clear hp hown
      go_wp2_with (first | (go_at_call 24; refine (l02Size_any (p - m) _ (by omega) (by omega)).mono ?_; rintro e w' ⟨rfl, rfl⟩) | (at_builtin; go_must (refine wpList_append_own _ rfl _ _ 22 rfl (w.heap.size) 2 i0 _ 1 8 Try.underlying22 hi0 iz0 iz1 iz2 rfl (by decide) _ _ _ rfl (H0.out.alloc _) ⟨(wr).heap.size, 0, none⟩ 1 1 [.int .i64 (absI (p - m))] rfl rfl (news_at wr [.int .i64 (absI (p - m))] 2) (by simp [Value.oneCell']) (by unfold maxLen; omega) (by omega) (by first | omega | (simp; done) | (simp; omega)) ?_); intro v2 w2 own_w2 grow_w2 _))
      go_roundw
      case rel => exact ⟨k + 1, by omega, by go_num, Below.ap hb hb.size H0.out (Nat.le_refl _) grow_w2, by rw [List.take_add_one, HP.out]; simpa [encI] using own_w2⟩
      case measure => simp [intOf]; omega
    · obtain rfl : k = xs.length := by omega
      have H0 := hid hown
      obtain ⟨Ar, cr, rfl⟩ := own_shape hown
      clear hown
      go_wp2
      go_ret
      exact ⟨Ar, cr, by simp, by have := H0.out; simpa using this, hb⟩
