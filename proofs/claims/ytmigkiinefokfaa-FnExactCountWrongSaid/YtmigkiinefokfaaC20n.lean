/- Contract: how many lists of the fewest wrong links there are, in the program. -/
import Derived.Test.YtmigkiinefokfaaC20j
import Derived.Test.YtmigkiinefokfaaC20d
namespace Go.Proofs.Ytmigkiinefokfaa
open Go.RowKit
set_option linter.unusedVariables false
theorem countLL_any (A : Option Addr) (n c : Nat) (w : World) :
    Calls Try.prog 29 #[.slice A n c] w fun e w' => e = .returned (.int .i64 (n : Int)) ∧ w = w' := by
  go_enter Try.func29, Try.ntmps29
  go_wp2
  go_ret
  exact ⟨rfl, rfl⟩
set_option maxRecDepth 20000 in
set_option maxHeartbeats 2000000 in
theorem implCountWrong_any (stars : Int) (A : Option Addr) (c : Nat) (xs : List Lk) (w : World) (h : Rd encLk 3 w w.heap.size A xs) (hn : xs.length ≤ 1048576) :
    Calls Try.prog 10 #[.int .i64 stars, .slice A xs.length c] w (fun e w' => e = .returned (.tuple #[.int .i64 (cwV stars xs), .int .i64 (cwC stars xs)]) ∧ Below w.heap.size w w') := by
  have C1 := implValidLinks_any stars A c xs w h hn
  cases hv : vlB stars xs
  · rw [hv] at C1
    have HV : Hid (cwV stars xs = 0) := hid (by simp [cwV, hv])
    have HC : Hid (cwC stars xs = 1) := hid (by simp [cwC, hv])
    go_enter Try.func10, Try.ntmps10
    go_wp2_with (go_at_call 28; refine C1.mono ?_; rintro e w1 ⟨rfl, hb1⟩)
    go_ret2
    exact ⟨by rw [HV.out, HC.out]; rfl, hb1⟩
  · rw [hv] at C1
    obtain ⟨n, rfl, n1, n2, hl, V⟩ := vlB_n hv
    have V := hid V
    have HV : Hid (cwV (n : Int) xs = ((wlW n xs).length : Int)) := hid (by simp [cwV, hv, FW])
    have HC : Hid (cwC (n : Int) xs = 0) := hid (by simp [cwC, hv])
    clear hv
    go_enter Try.func10, Try.ntmps10
    go_wp2_with (first | (go_at_call 28; refine C1.mono ?_; rintro e w1 ⟨rfl, hb1⟩) | (go_at_call 30; refine (wrongLists_any n A c xs _ n1 n2 hl V ((h.below hb1 (Nat.le_refl _)).more hb1.size)).mono ?_; rintro e w2 ⟨A2, c2, po, hs, rfl, ow, hin, hpos, hb2⟩) | (go_at_call 29; refine (countLL_any _ _ _ _).mono ?_; rintro e w' ⟨rfl, rfl⟩))
    go_ret2
    exact ⟨by rw [HV.out, HC.out]; rfl, Below.tr hb2 hb1⟩
end Go.Proofs.Ytmigkiinefokfaa
