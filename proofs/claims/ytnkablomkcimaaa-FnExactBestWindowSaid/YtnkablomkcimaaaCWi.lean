/- Contracts of the laws' own helpers for windows. -/
import Derived.Test.YtnkablomkcimaaaC1
namespace Go.Proofs.Ytnkablomkcimaaa
open Go.RowKit
set_option linter.unusedVariables false
theorem toWindow_any (uf : Int) (ut : Int) (w : World) :
    Calls Try.prog 99 #[.agg #[.int .i64 uf, .int .i64 ut]] w fun e w' => e = .returned (.agg #[.int .i64 uf, .int .i64 ut]) ∧ Below w.heap.size w w' := by
  go_enter Try.func99, Try.ntmps99
  go_wp2
  exact bodyPost_ret (v := .agg #[.int .i64 uf, .int .i64 ut]) (by simp [results, Try.results99, go_sem]) rfl ⟨rfl, (by repeat (first | assumption | exact Below.refl _ _ | apply Below.al | apply Below.drewN' | apply Below.drew | (apply Below.tr; assumption)))⟩
theorem eqWindow_same (uf : Int) (ut : Int) (w : World) :
    Calls Try.prog 102 #[.agg #[.int .i64 uf, .int .i64 ut], .agg #[.int .i64 uf, .int .i64 ut]] w fun e w' => e = .returned (.bool true) ∧ Below w.heap.size w w' := by
  go_enter Try.func102, Try.ntmps102
  go_wp2
  go_ret
  exact ⟨rfl, (by repeat (first | assumption | exact Below.refl _ _ | apply Below.al | apply Below.drewN' | apply Below.drew | (apply Below.tr; assumption)))⟩
theorem szWindowS_ok (A : Option Addr) (n c : Nat) (left : Int) (w : World) (hn : n ≤ left) (h1 : left ≤ 1048576) :
    Calls Try.prog 40 #[.slice A n c, .int .i64 left] w fun e w' => e = .returned (.int .i64 (left - n)) ∧ w = w' := by
  go_enter Try.func40, Try.ntmps40
  go_wp2
  go_ret
  exact ⟨rfl, rfl⟩
theorem szWindowS_big (A : Option Addr) (n c : Nat) (left : Int) (w : World) (hm : n ≤ maxLen) (hn : left < n) (h0 : 0 ≤ left) (h1 : left ≤ 1048576) :
    Calls Try.prog 40 #[.slice A n c, .int .i64 left] w fun e w' => e = .returned (.int .i64 (-1)) ∧ w = w' := by
  unfold maxLen at hm
  go_enter Try.func40, Try.ntmps40
  go_wp2
  go_ret
  exact ⟨rfl, rfl⟩
set_option maxHeartbeats 1000000 in
theorem toWindowS_any (A : Option Addr) (c : Nat) (xs : List Wi) (w : World) (h : Rd encWi 2 w w.heap.size A xs) (hn : xs.length ≤ 1048576) :
    Calls Try.prog 43 #[.slice A xs.length c] w (OwnRes 54 2 encWi xs w) := by
  obtain ⟨i0, hi0, iz0, iz1, iz2⟩ := info_parts (P := Try.prog) (e := 54) (z := .agg #[.int .i64 0, .int .i64 0]) (size := 2) (bytes := 16) (by kernel_rfl)
  go_enter Try.func43, Try.ntmps43
  go_wp2_with (at_make; refine wpList_make_full _ rfl _ _ 48 rfl w.heap.size 54 i0 _ 2 Try.underlying48 hi0 iz0 iz1 _ _ _ _ xs.length rfl rfl rfl rfl (by rw [iz2]; omega) (by unfold maxLen; omega) (Nat.le_refl _) ?_; intro w1 hown1 hg1)
  have hb1 : Below w.heap.size w w1 := (Below.refl _ _).grown hg1 (Nat.le_refl _) (by simp)
  have iz1' : w.heap.size < w1.heap.size := (hown1.lt w.heap.size rfl).2
  clear hg1
  go_loopw [4] (fun i wr => ∃ k : Nat, k ≤ xs.length ∧ i = .int .i64 k ∧ Below w.heap.size w wr ∧ ∃ Z : List Value, Z.length = (xs.length - k) * 2 ∧
      wr.ownsRow w.heap.size 54 2 (.slice (some ⟨w.heap.size, 0, none⟩) xs.length xs.length) xs.length ((xs.take k).flatMap encWi ++ Z)) (fun i _ => xs.length - (intOf i).toNat)
  case atStart => exact ⟨0, Nat.zero_le _, rfl, hb1, _, by rw [Nat.sub_zero]; exact hown1.1, by simpa using hown1⟩
  case round =>
    clear hown1 hb1 iz1'
    obtain ⟨k, hk, rfl, hb, Z, hZ, hown⟩ := hrel
    by_cases hlt : k < xs.length
    · obtain ⟨p, hp⟩ := getx hlt
      obtain ⟨b, o, rfl, hbB, c0, c1⟩ := (h.below hb (Nat.le_refl _)).at2 hp rfl
      have HP : Hid (xs[k]? = some p) := hp
      clear hp
      obtain ⟨z0, z1, R, rfl, hR⟩ : ∃ z0 z1 R, Z = z0 :: z1 :: R ∧ R.length = (xs.length - (k + 1)) * 2 := by
        match Z, hZ with
        | z0 :: z1 :: R, hZ => exact ⟨z0, z1, R, rfl, by simp at hZ; omega⟩
        | [], hZ => simp at hZ; omega
        | [_], hZ => simp at hZ; omega
      clear hZ
      have hfl : ((xs.take k).flatMap encWi).length = k * 2 := by rw [flat_len (k := 2) (fun _ => rfl), List.length_take, Nat.min_eq_left hk]
      have H0 := hid hown
      clear hown
      go_wp2_with fail
      refine (toWindow_any _ _ _).mono ?_
      rintro e w2 ⟨rfl, hb2⟩
      have hown2 := own_below H0.out hb2 (Nat.le_refl _)
      have hbb := hb.trans (hb2.mono hb.size)
      have d0 : w2.cell? ⟨w.heap.size, k * 2, none⟩ = some z0 := by (have := hown2.cellAt (k * 2 + 0) (by omega); rw [List.getElem?_append_right (by omega)] at this; simpa [hfl] using this)
      have d1 : w2.cell? ⟨w.heap.size, k * 2 + 1, none⟩ = some z1 := by (have := hown2.cellAt (k * 2 + 1) (by omega); rw [List.getElem?_append_right (by omega)] at this; simpa [hfl] using this)
      have f0 : w2.frozen? ⟨w.heap.size, k * 2, none⟩ = false := hown2.frozenAt _
      have f1 : w2.frozen? ⟨w.heap.size, k * 2 + 1, none⟩ = false := hown2.frozenAt _
      have H1 := hid hown2
      clear hown2
      go_wp2
      go_roundw
      case rel => exact ⟨k + 1, by omega, by go_num, (Below.sc (Below.sc hbb (Nat.le_refl _) _) (Nat.le_refl _) _), R, by omega, by rw [flat_take HP.out, List.append_assoc]; exact own_set2 H1.out hfl.symm (.int .i64 p.f) (.int .i64 p.t)⟩
      case measure => simp [intOf]; omega
    · obtain rfl : k = xs.length := by omega
      have hZ0 : Z = [] := List.eq_nil_of_length_eq_zero (by simpa using hZ)
      subst hZ0
      have H0 := hid hown
      clear hown
      go_wp2
      go_ret
      exact ⟨_, _, rfl, by have := H0.out; simpa using this, hb⟩
set_option maxHeartbeats 1000000 in
theorem eqWindowS_same (A A' : Option Addr) (c c' : Nat) (xs : List Wi) (w : World) (h : Rd encWi 2 w w.heap.size A xs) (h' : Rd encWi 2 w w.heap.size A' xs) (hn : xs.length ≤ 1048576) :
    Calls Try.prog 46 #[.slice A xs.length c, .slice A' xs.length c'] w fun e w' => e = .returned (.bool true) ∧ Below w.heap.size w w' := by
  go_enter Try.func46, Try.ntmps46
  go_wp2
  go_loopw [5] (fun i wr => ∃ k : Nat, k ≤ xs.length ∧ i = .int .i64 k ∧ Below w.heap.size w wr) (fun i _ => xs.length - (intOf i).toNat)
  case atStart => exact ⟨0, Nat.zero_le _, rfl, Below.refl _ _⟩
  case round =>
    obtain ⟨k, hk, rfl, hb⟩ := hrel
    by_cases hlt : k < xs.length
    · obtain ⟨p, hp⟩ := getx hlt
      obtain ⟨b, o, rfl, hbB, c0, c1⟩ := (h.below hb (Nat.le_refl _)).at2 hp rfl
      obtain ⟨b', o', rfl, hbB', d0, d1⟩ := (h'.below hb (Nat.le_refl _)).at2 hp rfl
      clear hp
      have hsz := hb.size
      have b0 : b < wr.heap.size := by omega
      have b1 : b' < wr.heap.size := by omega
      go_wp2
      refine wp_region_ext (by kernel_rfl) (by kernel_rfl) ?_
      repeat (go_big_quiet_step ((first | (go_at_call 102; exact ext_below (eqWindow_same _ _ _)))))
      refine wpQuiet_nil ?_
      intro w3 hb3
      obtain ⟨hc_w3, hf_w3⟩ := bcell hb3
      have hz_w3 := hb3.size
      go_wp2
      go_roundw
      case rel => exact ⟨k + 1, by omega, by go_num, (by repeat (first | assumption | exact Below.refl _ _ | apply Below.al | apply Below.drewN' | apply Below.drew | (apply Below.tr; assumption)))⟩
      case measure => simp [intOf]; omega
    · go_wp2
      go_ret
      exact ⟨rfl, (by repeat (first | assumption | exact Below.refl _ _ | apply Below.al | apply Below.drewN' | apply Below.drew | (apply Below.tr; assumption)))⟩
