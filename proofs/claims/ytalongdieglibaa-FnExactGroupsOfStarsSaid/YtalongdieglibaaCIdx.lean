/- The contract of indicesWhere: the numbers below n for which a function says yes. -/
import Derived.Test.YtalongdieglibaaC1
namespace Go.Proofs.Ytalongdieglibaa
open Go.RowKit
set_option linter.unusedVariables false
set_option maxRecDepth 20000 in
set_option maxHeartbeats 1000000 in
theorem indicesWhere_any (F : FuncId) (caps : Array Value) (fb : Nat → Bool) (n : Nat) (w : World) (hn : n ≤ 1048576)
    (hF : ∀ (args : Array Value) (w : World), (callFunc F args).run Try.prog w = .ok (.enter F args) w)
    (hcl : ∀ (i : Nat) (w1 : World), i < n → Below w.heap.size w w1 → Calls Try.prog F (#[.int .i64 i] ++ caps) w1 fun e w2 => e = .returned (.bool (fb i)) ∧ Below w1.heap.size w1 w2) :
    Calls Try.prog 34 #[.int .i64 n, .func (.func F) #[] caps] w (OwnRes 2 1 encI (idxW fb n) w) := by
  obtain ⟨i0, hi0, iz0, iz1, iz2⟩ := info_parts (P := Try.prog) (e := 2) (z := .int .i64 0) (size := 1) (bytes := 8) (by kernel_rfl)
  have HC := hid hcl
  clear hcl
  go_enter Try.func34, Try.ntmps34
  go_wp2
  go_loopw [5, 9] (fun v i wr => ∃ k : Nat, k ≤ n ∧ i = .int .i64 k ∧ Below w.heap.size w wr ∧ wr.ownsRow w.heap.size 2 1 v (idxW fb k).length ((idxW fb k).flatMap encI)) (fun _ i _ => n - (intOf i).toNat)
  case atStart => exact ⟨0, Nat.zero_le _, rfl, (by repeat (first | assumption | exact Below.refl _ _ | apply Below.al | apply Below.drewN' | apply Below.drew | (apply Below.tr; assumption))), own_lit0 _ _ _ (Nat.le_refl _)⟩
  case round =>
    obtain ⟨k, hk, rfl, hb, hown⟩ := hrel
    by_cases hlt : k < n
    · have H0 := hid hown
      have hl := idxW_len fb k
      clear hown
      cases h1 : fb k
      · go_wp2_with fail
        refine (HC.out k _ hlt hb).mono ?_
        rw [h1]
        rintro e w1 ⟨rfl, hb1⟩
        have hb' := Below.tr hb1 hb
        have H1 := hid (own_below H0.out hb1 (Nat.le_refl _))
        go_wp2
        go_roundw
        case rel => exact ⟨k + 1, by omega, by go_num, hb', by rw [idxW_no h1]; exact H1.out⟩
        case measure => simp [intOf]; omega
      · go_wp2_with fail
        refine (HC.out k _ hlt hb).mono ?_
        rw [h1]
        rintro e w1 ⟨rfl, hb1⟩
        have hb' := Below.tr hb1 hb
        have H1 := hid (own_below H0.out hb1 (Nat.le_refl _))
        have hz' := hb'.size
        go_wp2_with (at_builtin; go_must (refine wpList_append_own _ rfl _ _ 36 rfl (w.heap.size) 2 i0 _ 1 8 Try.underlying36 hi0 iz0 iz1 iz2 rfl (by decide) _ _ _ rfl (H1.out.alloc _) ⟨(w1).heap.size, 0, none⟩ 1 1 [.int .i64 (k : Nat)] rfl rfl (news_at w1 [.int .i64 (k : Nat)] 2) (by simp [Value.oneCell']) (by unfold maxLen; omega) (by omega) (by first | omega | (simp; done) | (simp; omega)) ?_); intro v2 w2 own_w2 grow_w2 _)
        go_roundw
        case rel => exact ⟨k + 1, by omega, by go_num, Below.ap hb' hb'.size H1.out (Nat.le_refl _) grow_w2, by rw [idxW_yes h1]; simpa [encI] using own_w2⟩
        case measure => simp [intOf]; omega
    · obtain rfl : k = n := by omega
      have H0 := hid hown
      obtain ⟨Ar, cr, rfl⟩ := own_shape hown
      clear hown
      go_wp2
      go_ret
      exact ⟨Ar, cr, rfl, H0.out, hb⟩
end Go.Proofs.Ytalongdieglibaa
