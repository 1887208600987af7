/- Contracts: lists of numbers: the laws' helpers, and the tests of whole lists. -/
import Derived.Test.YtalongdieglibaaC1
namespace Go.Proofs.Ytalongdieglibaa
open Go.RowKit
set_option linter.unusedVariables false
set_option maxHeartbeats 1000000 in
theorem eqInt64S_same (A A' : Option Addr) (c c' : Nat) (xs : List Int) (w : World) (h : Rd encI 1 w w.heap.size A xs) (h' : Rd encI 1 w w.heap.size A' xs) (hn : xs.length ≤ 1048576) :
    Calls Try.prog 20 #[.slice A xs.length c, .slice A' xs.length c'] w fun e w' => e = .returned (.bool true) ∧ Below w.heap.size w w' := by
  go_enter Try.func20, Try.ntmps20
  go_wp2
  go_loopw [5] (fun i wr => ∃ k : Nat, k ≤ xs.length ∧ i = .int .i64 k ∧ Below w.heap.size w wr) (fun i _ => xs.length - (intOf i).toNat)
  case atStart => exact ⟨0, Nat.zero_le _, rfl, Below.refl _ _⟩
  case round =>
    obtain ⟨k, hk, rfl, hb⟩ := hrel
    by_cases hlt : k < xs.length
    · obtain ⟨p, hp⟩ := getx hlt
      obtain ⟨b, o, rfl, hbB, c0⟩ := (h.below hb (Nat.le_refl _)).at1 hp rfl
      obtain ⟨b', o', rfl, hbB', d0⟩ := (h'.below hb (Nat.le_refl _)).at1 hp rfl
      clear hp
      have hsz := hb.size
      have b0 : b < wr.heap.size := by omega
      have b1 : b' < wr.heap.size := by omega
      go_wp2
      refine wp_region_ext (by kernel_rfl) (by kernel_rfl) ?_
      repeat (go_big_quiet_step ((first | fail)))
      refine wpQuiet_nil ?_
      intro w3 hb3
      obtain ⟨hc_w3, hf_w3⟩ := bcell hb3
      have hz_w3 := hb3.size
      go_wp2
      go_roundw
      case rel => exact ⟨k + 1, by omega, by go_num, (by repeat (first | assumption | exact Below.refl _ _ | apply Below.al | apply Below.drewN' | apply Below.drew | (apply Below.tr; assumption)))⟩
      case measure => simp [intOf]; omega
    · go_wp2
      go_ret
      exact ⟨rfl, (by repeat (first | assumption | exact Below.refl _ _ | apply Below.al | apply Below.drewN' | apply Below.drew | (apply Below.tr; assumption)))⟩
set_option maxHeartbeats 1000000 in
theorem markInt64S_any (lo : Nat) (Ad : Option Addr) (n c : Nat) (zs : List Value) (k0 : Int) (w : World) (own : w.ownsRow lo 2 1 (.slice Ad n c) n zs) (hn : n ≤ 1048576) (h0 : 0 ≤ k0) (h1 : k0 ≤ 1000000000) :
    Calls Try.prog 21 #[.slice Ad n c, .int .i64 k0] w (MarkRes 2 1 lo (.slice Ad n c) n ((marks k0 n).map (Value.int .i64)) (k0 + n) w) := by
  have Hzl := hid own.1
  go_enter Try.func21, Try.ntmps21
  go_wp2
  go_loopw [1, 5] (fun kk i wr => ∃ j : Nat, j ≤ n ∧ i = .int .i64 j ∧ kk = .int .i64 (k0 + j) ∧ wr.ownsRow lo 2 1 (.slice Ad n c) n ((marks k0 j).map (Value.int .i64) ++ zs.drop j) ∧ w.grownBy wr (Value.slice Ad n c).ownBlock) (fun _ i _ => n - (intOf i).toNat)
  case atStart => exact ⟨0, Nat.zero_le _, rfl, by go_num, by simpa [marks] using own, World.grownBy.refl w _⟩
  case round =>
    clear own
    obtain ⟨j, hj, rfl, rfl, own, hg⟩ := hrel
    by_cases hlt : j < n
    · obtain ⟨g, rfl, hlo, hgw⟩ := own_form own (by omega)
      obtain ⟨z, hz⟩ : ∃ z, zs[j]? = some z := getx (by have := Hzl.out; omega)
      have HD : Hid (zs.drop j = z :: zs.drop (j + 1)) := hid (dropx hz)
      have hml : ((marks k0 j).map (Value.int .i64)).length = j := by simp [marks]
      have d0 : wr.cell? ⟨g, j, none⟩ = some z := by
        have := own.cellAt j (by omega)
        rw [List.getElem?_append_right (by omega), hml, Nat.sub_self, HD.out] at this
        simpa using this
      have f0 : wr.frozen? ⟨g, j, none⟩ = false := own.frozenAt _
      have H1 := hid own
      have HG := hid hg
      clear own hg hz
      go_wp2
      go_roundw
      case rel => exact ⟨j + 1, by omega, by go_num, by first | go_num | (congr 1; push_cast; omega) | (congr 1; omega), by
          have h2 := own_set (j := j) (by have := H1.out; rw [HD.out] at this; exact this) hml.symm (.int .i64 (k0 + j))
          rw [marks_succ]; simpa using h2, grown_trans' HG.out ((H1.out.stored j _).2)⟩
      case measure => simp [intOf]; omega
    · obtain rfl : j = n := by omega
      have HE := hid own
      have HG := hid hg
      clear own hg
      go_wp2
      go_ret
      exact ⟨rfl, by have := HE.out; rw [List.drop_eq_nil_of_le (by have := Hzl.out; omega), List.append_nil] at this; exact this, HG.out⟩
set_option maxHeartbeats 1000000 in
theorem heldInt64S_any (lo : Nat) (Ad : Option Addr) (n c : Nat) (k0 : Int) (w : World) (own : w.ownsRow lo 2 1 (.slice Ad n c) n ((marks k0 n).map (Value.int .i64))) (hn : n ≤ 1048576) (h0 : 0 ≤ k0) (h1 : k0 ≤ 1000000000) :
    Calls Try.prog 22 #[.slice Ad n c, .int .i64 k0] w fun e w' => e = .returned (.int .i64 (k0 + n)) ∧ w = w' := by
  go_enter Try.func22, Try.ntmps22
  go_wp2
  go_loop [1, 5] (fun kk i => ∃ j : Nat, j ≤ n ∧ i = .int .i64 j ∧ kk = .int .i64 (k0 + j)) (fun _ i => n - (intOf i).toNat)
  case atStart => exact ⟨0, Nat.zero_le _, rfl, by go_num⟩
  case round =>
    obtain ⟨j, hj, rfl, rfl⟩ := hrel
    by_cases hlt : j < n
    · obtain ⟨g, rfl, hlo, hgw⟩ := own_form own (by omega)
      have d0 : w.cell? ⟨g, j, none⟩ = some (.int .i64 (k0 + j)) := by
        have := own.cellAt j (by omega)
        rw [List.getElem?_map, marks_at hlt] at this
        exact this
      have H1 := hid own
      clear own
      go_wp2
      go_round
      case rel => exact ⟨j + 1, by omega, by go_num, by first | go_num | (congr 1; push_cast; omega) | (congr 1; omega)⟩
      case measure => simp [intOf]; omega
    · obtain rfl : j = n := by omega
      have HE := hid own
      clear own
      go_wp2
      go_ret
      exact ⟨rfl, rfl⟩
end Go.Proofs.Ytalongdieglibaa
