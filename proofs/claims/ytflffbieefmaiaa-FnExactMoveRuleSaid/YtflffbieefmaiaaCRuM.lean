/- The laws' marks of lists of rules. -/
import Derived.Test.YtflffbieefmaiaaCMt
namespace Go.Proofs.Ytflffbieefmaiaa
open Go.RowKit
set_option linter.unusedVariables false
theorem grown_of_below {a b : World} {row : Option Nat} (h : Below a.heap.size a b) : a.grownBy b row := ⟨h.os, h.tape, h.output, h.size, fun i hi _ => h.block i hi⟩
def mtx (k : Int) : ByteArray := ⟨#[109]⟩ ++ mtG 11 k ByteArray.empty
def msRow (k : Int) : List Value := [.string (mtx k), .int .i64 (k + 1), .int .i64 (k + 2), .int .i64 (k + 3), .int .i64 (k + 4), .int .i64 (k + 5)]
def msL (k0 : Int) (n : Nat) : List Value := (List.range n).flatMap fun (j : Nat) => msRow (k0 + (j : Int) * 6)
theorem msL_succ (k0 : Int) (n : Nat) : msL k0 (n + 1) = msL k0 n ++ msRow (k0 + (n : Int) * 6) := by
  simp [msL, List.range_succ]
theorem msL_len (k0 : Int) : ∀ n : Nat, (msL k0 n).length = n * 6
  | 0 => rfl
  | n + 1 => by rw [msL_succ, List.length_append, msL_len k0 n]; simp [msRow]; omega
theorem msL_at {k0 : Int} {n j i : Nat} (hj : j < n) (hi : i < 6) : (msL k0 n)[j * 6 + i]? = (msRow (k0 + (j : Int) * 6))[i]? := by
  have := flat_at (k := 6) (enc := fun (j : Nat) => msRow (k0 + (j : Int) * 6)) (fun _ => rfl) (List.range n) j j (by simp [hj]) i hi
  exact this
set_option maxRecDepth 20000 in
set_option maxHeartbeats 4000000 in
theorem markRuleS_any (lo : Nat) (Ad : Option Addr) (n c : Nat) (zs : List Value) (k0 : Int) (w : World) (own : w.ownsRow lo 36 6 (.slice Ad n c) n zs) (hn : n ≤ 1048576) (h0 : 0 < k0) (h1 : k0 ≤ 900000000) :
    Calls Try.prog 9 #[.slice Ad n c, .int .i64 k0] w (MarkRes 36 6 lo (.slice Ad n c) n (msL k0 n) (k0 + n * 6) w) := by
  have Hzl := hid own.1
  go_enter Try.func9, Try.ntmps9
  go_wp2
  go_loopw [1, 5] (fun kk i wr => ∃ j : Nat, j ≤ n ∧ i = .int .i64 j ∧ kk = .int .i64 (k0 + j * 6) ∧ wr.ownsRow lo 36 6 (.slice Ad n c) n (msL k0 j ++ zs.drop (j * 6)) ∧ w.grownBy wr (Value.slice Ad n c).ownBlock) (fun _ i _ => n - (intOf i).toNat)
  case atStart => exact ⟨0, Nat.zero_le _, rfl, by go_num, by simpa [msL] using own, World.grownBy.refl w _⟩
  case round =>
    clear own
    obtain ⟨j, hj, rfl, rfl, own, hg⟩ := hrel
    by_cases hlt : j < n
    · obtain ⟨g, rfl, hlo, hgw⟩ := own_form own (by omega)
      obtain ⟨z0, hz0⟩ : ∃ z, zs[j * 6 + 0]? = some z := getx (by have := Hzl.out; omega)
      obtain ⟨z1, hz1⟩ : ∃ z, zs[j * 6 + 1]? = some z := getx (by have := Hzl.out; omega)
      obtain ⟨z2, hz2⟩ : ∃ z, zs[j * 6 + 2]? = some z := getx (by have := Hzl.out; omega)
      obtain ⟨z3, hz3⟩ : ∃ z, zs[j * 6 + 3]? = some z := getx (by have := Hzl.out; omega)
      obtain ⟨z4, hz4⟩ : ∃ z, zs[j * 6 + 4]? = some z := getx (by have := Hzl.out; omega)
      obtain ⟨z5, hz5⟩ : ∃ z, zs[j * 6 + 5]? = some z := getx (by have := Hzl.out; omega)
      have HD : Hid (zs.drop (j * 6) = z0 :: z1 :: z2 :: z3 :: z4 :: z5 :: zs.drop ((j + 1) * 6)) := by
        unfold Hid
        rw [dropx (by simpa using hz0), dropx (k := j * 6 + 1) hz1, dropx (k := j * 6 + 2) hz2, dropx (k := j * 6 + 3) hz3, dropx (k := j * 6 + 4) hz4, dropx (k := j * 6 + 5) hz5, Nat.succ_mul]
      have hml := msL_len k0 j
      clear hz0 hz1 hz2 hz3 hz4 hz5
      have H0 := hid own
      have HG := hid hg
      clear own hg
      go_wp2_with fail
      refine (markText_any _ _ (by omega) (by omega)).mono ?_
      rintro e w1 ⟨rfl, hb1⟩
      have own := own_below H0.out hb1 (Nat.le_refl _)
      have hg1 := hid (grown_trans' HG.out (grown_of_below (row := (Value.slice (some ⟨g, 0, none⟩) n c).ownBlock) hb1))
      have d0 : w1.cell? ⟨g, j * 6, none⟩ = some z0 := by
        have := own.cellAt (j * 6 + 0) (by omega)
        rw [List.getElem?_append_right (by omega), hml, Nat.add_sub_cancel_left, HD.out] at this
        simpa using this
      have f0 : w1.frozen? ⟨g, j * 6, none⟩ = false := own.frozenAt _
      have d1 : w1.cell? ⟨g, j * 6 + 1, none⟩ = some z1 := by
        have := own.cellAt (j * 6 + 1) (by omega)
        rw [List.getElem?_append_right (by omega), hml, Nat.add_sub_cancel_left, HD.out] at this
        simpa using this
      have f1 : w1.frozen? ⟨g, j * 6 + 1, none⟩ = false := own.frozenAt _
      have d2 : w1.cell? ⟨g, j * 6 + 2, none⟩ = some z2 := by
        have := own.cellAt (j * 6 + 2) (by omega)
        rw [List.getElem?_append_right (by omega), hml, Nat.add_sub_cancel_left, HD.out] at this
        simpa using this
      have f2 : w1.frozen? ⟨g, j * 6 + 2, none⟩ = false := own.frozenAt _
      have d3 : w1.cell? ⟨g, j * 6 + 3, none⟩ = some z3 := by
        have := own.cellAt (j * 6 + 3) (by omega)
        rw [List.getElem?_append_right (by omega), hml, Nat.add_sub_cancel_left, HD.out] at this
        simpa using this
      have f3 : w1.frozen? ⟨g, j * 6 + 3, none⟩ = false := own.frozenAt _
      have d4 : w1.cell? ⟨g, j * 6 + 4, none⟩ = some z4 := by
        have := own.cellAt (j * 6 + 4) (by omega)
        rw [List.getElem?_append_right (by omega), hml, Nat.add_sub_cancel_left, HD.out] at this
        simpa using this
      have f4 : w1.frozen? ⟨g, j * 6 + 4, none⟩ = false := own.frozenAt _
      have d5 : w1.cell? ⟨g, j * 6 + 5, none⟩ = some z5 := by
        have := own.cellAt (j * 6 + 5) (by omega)
        rw [List.getElem?_append_right (by omega), hml, Nat.add_sub_cancel_left, HD.out] at this
        simpa using this
      have f5 : w1.frozen? ⟨g, j * 6 + 5, none⟩ = false := own.frozenAt _
      have H1 := hid own
      clear own
      go_wp2
      go_roundw
      case rel =>
        have hs := H1.out
        rw [HD.out] at hs
        have h2 := own_set6 (j := j * 6) hs hml.symm (.string (mtx (k0 + j * 6))) (.int .i64 (k0 + j * 6 + 1)) (.int .i64 (k0 + j * 6 + 1 + 1)) (.int .i64 (k0 + j * 6 + 1 + 1 + 1)) (.int .i64 (k0 + j * 6 + 1 + 1 + 1 + 1)) (.int .i64 (k0 + j * 6 + 1 + 1 + 1 + 1 + 1))
        refine ⟨j + 1, by omega, by go_num, by first | go_num | (congr 1; push_cast; omega) | (congr 1; omega), ?_, ?_⟩
        · rw [msL_succ]
          simpa [msRow, mtx, Int.add_assoc] using h2
        · have s0 := (hs.stored (j * 6) (.string (mtx (k0 + j * 6))))
          have s1 := (s0.1.stored (j * 6 + 1) (.int .i64 (k0 + j * 6 + 1)))
          have s2 := (s1.1.stored (j * 6 + 2) (.int .i64 (k0 + j * 6 + 1 + 1)))
          have s3 := (s2.1.stored (j * 6 + 3) (.int .i64 (k0 + j * 6 + 1 + 1 + 1)))
          have s4 := (s3.1.stored (j * 6 + 4) (.int .i64 (k0 + j * 6 + 1 + 1 + 1 + 1)))
          have s5 := (s4.1.stored (j * 6 + 5) (.int .i64 (k0 + j * 6 + 1 + 1 + 1 + 1 + 1)))
          exact (grown_trans' (grown_trans' (grown_trans' (grown_trans' (grown_trans' (grown_trans' hg1.out s0.2) s1.2) s2.2) s3.2) s4.2) s5.2)
      case measure => simp [intOf]; omega
    · obtain rfl : j = n := by omega
      have HE := hid own
      have HG := hid hg
      clear own hg
      go_wp2
      go_ret
      exact ⟨rfl, by have := HE.out; rw [List.drop_eq_nil_of_le (by have := Hzl.out; omega), List.append_nil] at this; exact this, HG.out⟩
set_option maxRecDepth 20000 in
set_option maxHeartbeats 4000000 in
theorem heldRuleS_any (lo : Nat) (Ad : Option Addr) (n c : Nat) (k0 : Int) (w : World) (own : w.ownsRow lo 36 6 (.slice Ad n c) n (msL k0 n)) (hn : n ≤ 1048576) (h0 : 0 < k0) (h1 : k0 ≤ 900000000) :
    Calls Try.prog 10 #[.slice Ad n c, .int .i64 k0] w fun e w' => e = .returned (.int .i64 (k0 + n * 6)) ∧ Below w.heap.size w w' := by
  go_enter Try.func10, Try.ntmps10
  go_wp2
  go_loopw [1, 5] (fun kk i wr => ∃ j : Nat, j ≤ n ∧ i = .int .i64 j ∧ kk = .int .i64 (k0 + j * 6) ∧ Below w.heap.size w wr) (fun _ i _ => n - (intOf i).toNat)
  case atStart => exact ⟨0, Nat.zero_le _, rfl, by go_num, (by repeat (first | assumption | exact Below.refl _ _ | apply Below.al | apply Below.drewN' | apply Below.drew | (apply Below.tr; assumption)))⟩
  case round =>
    obtain ⟨j, hj, rfl, rfl, hb⟩ := hrel
    have own2 := own_below own hb (Nat.le_refl _)
    by_cases hlt : j < n
    · obtain ⟨g, rfl, hlo, hgw⟩ := own_form own2 (by omega)
      have d0 : wr.cell? ⟨g, j * 6, none⟩ = some (.string (mtx (k0 + j * 6))) := by
        have := own2.cellAt (j * 6 + 0) (by omega)
        rw [msL_at hlt (by omega)] at this
        simpa [msRow] using this
      have d1 : wr.cell? ⟨g, j * 6 + 1, none⟩ = some (.int .i64 (k0 + j * 6 + 1)) := by
        have := own2.cellAt (j * 6 + 1) (by omega)
        rw [msL_at hlt (by omega)] at this
        simpa [msRow] using this
      have d2 : wr.cell? ⟨g, j * 6 + 2, none⟩ = some (.int .i64 (k0 + j * 6 + 2)) := by
        have := own2.cellAt (j * 6 + 2) (by omega)
        rw [msL_at hlt (by omega)] at this
        simpa [msRow] using this
      have d3 : wr.cell? ⟨g, j * 6 + 3, none⟩ = some (.int .i64 (k0 + j * 6 + 3)) := by
        have := own2.cellAt (j * 6 + 3) (by omega)
        rw [msL_at hlt (by omega)] at this
        simpa [msRow] using this
      have d4 : wr.cell? ⟨g, j * 6 + 4, none⟩ = some (.int .i64 (k0 + j * 6 + 4)) := by
        have := own2.cellAt (j * 6 + 4) (by omega)
        rw [msL_at hlt (by omega)] at this
        simpa [msRow] using this
      have d5 : wr.cell? ⟨g, j * 6 + 5, none⟩ = some (.int .i64 (k0 + j * 6 + 5)) := by
        have := own2.cellAt (j * 6 + 5) (by omega)
        rw [msL_at hlt (by omega)] at this
        simpa [msRow] using this
      have O2 := hid own
      clear own own2
      have hmt := fun w => markText_any (k0 + j * 6) w (by omega) (by omega)
      have EM : (⟨#[109]⟩ ++ mtG 11 (k0 + j * 6) ByteArray.empty : ByteArray) = mtx (k0 + j * 6) := rfl
      rw [EM] at hmt
      clear EM
      generalize mtx (k0 + j * 6) = sx at *
      go_wp2
      refine wp_region_ext (by kernel_rfl) (by kernel_rfl) ?_
      repeat (go_big_quiet_step ((first | (go_at_call 22; exact ext_below (hmt _)))))
      refine wpQuiet_nil ?_
      intro w3 hb3
      obtain ⟨hc_w3, hf_w3⟩ := bcell hb3
      have hz_w3 := hb3.size
      have b3 : g < w3.heap.size := by omega
      go_wp2
      go_roundw
      case rel => exact ⟨j + 1, by omega, by go_num, by first | go_num | (congr 1; push_cast; omega) | (congr 1; omega), (by repeat (first | assumption | exact Below.refl _ _ | apply Below.al | apply Below.drewN' | apply Below.drew | (apply Below.tr; assumption)))⟩
      case measure => simp [intOf]; omega
    · obtain rfl : j = n := by omega
      go_wp2
      go_ret
      exact ⟨rfl, hb⟩
