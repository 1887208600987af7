/- The laws' marks of texts. -/
import Derived.Test.YtflffbieefmaiaaC1
import Derived.Lib.SlBytesRow
namespace Go.Proofs.Ytflffbieefmaiaa
open Go.RowKit
set_option linter.unusedVariables false
def mtG : Nat → Int → ByteArray → ByteArray
  | 0, _, o => o
  | n + 1, k, o => if 0 < k then mtG n (k / 10) (⟨#[UInt8.ofNat (48 + k % 10).toNat]⟩ ++ o) else o
set_option maxHeartbeats 1000000 in
theorem markText_any (k0 : Int) (w : World) (h0 : 0 < k0) (h1 : k0 ≤ 1000000000) :
    Calls Try.prog 22 #[.int .i64 k0] w fun e w' => e = .returned (.string (⟨#[109]⟩ ++ mtG 11 k0 ByteArray.empty)) ∧ Below w.heap.size w w' := by
  go_enter Try.func22, Try.ntmps22
  go_wp2
  go_loopw [0, 3] (fun kv ov wr => ∃ (n : Nat) (k : Int) (o : ByteArray), kv = .int .i64 k ∧ ov = .string o ∧ 0 ≤ k ∧ k ≤ 1000000000 ∧ k < 10 ^ n ∧ o.size + n ≤ 11 ∧ Below w.heap.size w wr ∧ Hid (mtG 11 k0 ByteArray.empty = mtG n k o)) (fun kv _ _ => (intOf kv).toNat)
  case atStart => exact ⟨11, k0, ByteArray.empty, rfl, rfl, by omega, h1, by omega, by simp, (by repeat (first | assumption | exact Below.refl _ _ | apply Below.al | apply Below.drewN' | apply Below.drew | (apply Below.tr; assumption))), hid rfl⟩
  case round =>
    obtain ⟨n, k, o, rfl, rfl, k1, k2, k3, k4, hb, H⟩ := hrel
    by_cases hk : 0 < k
    · have q1 := emod_bd k 10 (by omega)
      have q2 : 0 ≤ k / 10 := by omega
      have q3 : k / 10 < k := by omega
      obtain ⟨n, rfl⟩ : ∃ m, n = m + 1 := ⟨n - 1, by
        cases n with
        | zero => simp at k3; omega
        | succ m => simp⟩
      have HS : Hid (mtG (n + 1) k o = mtG n (k / 10) (⟨#[UInt8.ofNat (48 + k % 10).toNat]⟩ ++ o)) := hid (by simp only [mtG]; rw [if_pos hk])
      have HP : Hid (k / 10 < 10 ^ n) := hid (by rw [Int.pow_succ] at k3; omega)
      have HZ : Hid ((⟨#[UInt8.ofNat (48 + k % 10).toNat]⟩ ++ o : ByteArray).size + n ≤ 11) := hid (by rw [ByteArray.size_append]; have : (⟨#[UInt8.ofNat (48 + k % 10).toNat]⟩ : ByteArray).size = 1 := rfl; omega)
      have hcv : (convert 49 9 (.slice (some ⟨wr.heap.size, 0, none⟩) 1 1)).run Try.prog (wr.alloc (.cells #[.int .u8 (48 + k % 10)] 5)) = .ok (.string ⟨#[UInt8.ofNat (48 + k % 10).toNat]⟩) (wr.alloc (.cells #[.int .u8 (48 + k % 10)] 5)) :=
        Go.Lib.run_convert_whole _ 49 5 9 Try.underlying49 Try.underlying5 Try.underlying9 wr.heap.size 0 ⟨#[UInt8.ofNat (48 + k % 10).toNat]⟩ (fun i hi => by
          have hi0 : i = 0 := by have : (⟨#[UInt8.ofNat (48 + k % 10).toNat]⟩ : ByteArray).size = 1 := rfl; omega
          subst hi0
          have e : ((UInt8.ofNat (48 + k % 10).toNat).toNat : Int) = 48 + k % 10 := by simp; omega
          have e2 : (⟨#[UInt8.ofNat (48 + k % 10).toNat]⟩ : ByteArray)[0] = UInt8.ofNat (48 + k % 10).toNat := rfl
          rw [e2, e]; simp [go_sem]) 1
      have ho : o.size ≤ 11 := by omega
      clear k3 k4
      go_wp2
      exact ⟨⟨n, k / 10, _, rfl, rfl, q2, by omega, HP.out, HZ.out, (by repeat (first | assumption | exact Below.refl _ _ | apply Below.al | apply Below.drewN' | apply Below.drew | (apply Below.tr; assumption))), hid (by rw [H.out, HS.out])⟩, by simp [intOf]; omega⟩
    · have HE : Hid (mtG 11 k0 ByteArray.empty = o) := hid (by rw [H.out]; cases n <;> simp [mtG]; omega)
      have ho : o.size ≤ 11 := by omega
      clear k3 k4
      go_wp2
      go_ret
      exact ⟨by rw [HE.out]; rfl, (by repeat (first | assumption | exact Below.refl _ _ | apply Below.al | apply Below.drewN' | apply Below.drew | (apply Below.tr; assumption)))⟩
end Go.Proofs.Ytflffbieefmaiaa
