/- Contracts: what the laws say of lists of numbers. -/
import Derived.Test.YtgdahehpofdllaaC1
namespace Go.Proofs.Ytgdahehpofdllaa
open Go.RowKit
set_option linter.unusedVariables false
theorem a2Has_any (A : Option Addr) (c : Nat) (xs : List Int) (m : Int) (w : World) (h : Rd encI 1 w w.heap.size A xs) (hn : xs.length ≤ 1048576) :
    Calls Try.prog 12 #[.slice A xs.length c, .int .i64 m] w fun e w' => e = .returned (.bool (decide (m ∈ xs))) ∧ w = w' := by
  go_enter Try.func12, Try.ntmps12
  go_wp2
  go_loopw [5] (fun i wr => ∃ k : Nat, k ≤ xs.length ∧ i = .int .i64 k ∧ w = wr ∧ Hid (decide (m ∈ xs) = decide (m ∈ xs.drop k))) (fun i _ => xs.length - (intOf i).toNat)
  case atStart => exact ⟨0, Nat.zero_le _, rfl, rfl, hid rfl⟩
  case round =>
    obtain ⟨k, hk, rfl, rfl, H⟩ := hrel
    by_cases hlt : k < xs.length
    · obtain ⟨p, hp⟩ := getx hlt
      obtain ⟨b, o, rfl, hbB, c0⟩ := h.at1 hp rfl
      have HD : Hid (decide (m ∈ xs.drop k) = (decide (m = p) || decide (m ∈ xs.drop (k+1)))) := by rw [dropx hp]; simp [Hid]
      clear hp
      by_cases hm : p = m
      · have hm' : (p == m) = true := by simpa using hm
        have HE : Hid (decide (m ∈ xs) = true) := hid (by rw [H.out, HD.out]; simp [hm])
        clear H HD hm
        go_wp2
        go_ret
        exact ⟨ret_bool HE.out.symm, rfl⟩
      · have hm' : (p == m) = false := by simpa using hm
        have HE : Hid (decide (m ∈ xs) = decide (m ∈ xs.drop (k+1))) := hid (by rw [H.out, HD.out]; simp [Ne.symm hm])
        clear H HD
        go_wp2
        go_roundw
        case rel => exact ⟨k + 1, by omega, by go_num, by first | trivial | rfl, HE⟩
        case measure => simp [intOf]; omega
    · have HE : Hid (decide (m ∈ xs) = false) := hid (by rw [H.out, List.drop_eq_nil_of_le (by omega)]; simp)
      go_wp2
      go_ret
      exact ⟨ret_bool HE.out.symm, rfl⟩
set_option maxHeartbeats 2000000 in
theorem a2Rises_ok (A : Option Addr) (c : Nat) (xs : List Int) (n : Int) (w : World) (h : Rd encI 1 w w.heap.size A xs) (hn : xs.length ≤ 1048576) (hp : xs.Pairwise (fun a b => a < b)) (hr : ∀ x ∈ xs, 0 ≤ x ∧ x < n) :
    Calls Try.prog 10 #[.slice A xs.length c, .int .i64 n] w fun e w' => e = .returned (.bool true) ∧ Below w.heap.size w w' := by
  have PW := hid hp
  have HR := hid hr
  clear hp hr
  go_enter Try.func10, Try.ntmps10
  go_wp2
  go_loopw [5] (fun i wr => ∃ k : Nat, k ≤ xs.length ∧ i = .int .i64 k ∧ Below w.heap.size w wr) (fun i _ => xs.length - (intOf i).toNat)
  case atStart => exact ⟨0, Nat.zero_le _, rfl, Below.refl _ _⟩
  case round =>
    obtain ⟨k, hk, rfl, hb⟩ := hrel
    have hsz := hb.size
    by_cases hlt : k < xs.length
    · obtain ⟨p, hp⟩ := getx hlt
      obtain ⟨bb, o, rfl, hbB, c0⟩ := (h.below hb (Nat.le_refl _)).at1 hp rfl
      have hpr := HR.out p (List.mem_of_getElem? hp)
      have b0 : bb < wr.heap.size := by omega
      have s1 : decide (p < 0) = false := by simp; omega
      have s2 : decide (n ≤ p) = false := by simp; omega
      by_cases hk0 : 0 < k
      · obtain ⟨q, hq⟩ : ∃ q, xs[k-1]? = some q := getx (by omega)
        obtain ⟨_, _, ee, _, d0⟩ := (h.below hb (Nat.le_refl _)).at1 hq rfl
        simp at ee; obtain ⟨rfl, rfl⟩ := ee
        have hqp : q < p := by
          obtain ⟨h1, rfl⟩ := List.getElem?_eq_some_iff.1 hq
          obtain ⟨h2, rfl⟩ := List.getElem?_eq_some_iff.1 hp
          exact List.pairwise_iff_getElem.1 PW.out (k-1) k h1 h2 (by omega)
        have hd : decide (0 < (k : Int)) = true := by simp; omega
        have s3 : decide (p ≤ q) = false := by simp; omega
        clear hp hq
        go_wp2
        refine wp_region_ext (by kernel_rfl) (by kernel_rfl) ?_
        repeat (go_big_quiet_step ((first | fail)))
        refine wpQuiet_nil ?_
        intro w3 hb3
        obtain ⟨hc_w3, hf_w3⟩ := bcell hb3
        have hz_w3 := hb3.size
        go_wp2
        go_roundw
        case rel => exact ⟨k + 1, by omega, by go_num, (by repeat (first | assumption | exact Below.refl _ _ | apply Below.al | apply Below.drewN' | apply Below.drew | (apply Below.tr; assumption)))⟩
        case measure => simp [intOf]; omega
      · have hd : decide (0 < (k : Int)) = false := by simp; omega
        have hd2 : decide (0 < k) = false := by simpa using hk0
        clear hp
        go_wp2
        refine wp_region_ext (by kernel_rfl) (by kernel_rfl) ?_
        repeat (go_big_quiet_step ((first | fail)))
        refine wpQuiet_nil ?_
        intro w3 hb3
        obtain ⟨hc_w3, hf_w3⟩ := bcell hb3
        have hz_w3 := hb3.size
        go_wp2
        go_roundw
        case rel => exact ⟨k + 1, by omega, by go_num, (by repeat (first | assumption | exact Below.refl _ _ | apply Below.al | apply Below.drewN' | apply Below.drew | (apply Below.tr; assumption)))⟩
        case measure => simp [intOf]; omega
    · go_wp2
      go_ret
      exact ⟨rfl, hb⟩
end Go.Proofs.Ytgdahehpofdllaa
