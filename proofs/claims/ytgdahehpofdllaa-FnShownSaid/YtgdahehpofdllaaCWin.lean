/- Contract: an ephemeris and windows that fit, in the program. -/
import Derived.Test.YtgdahehpofdllaaC16w
namespace Go.Proofs.Ytgdahehpofdllaa
open Go.RowKit
set_option linter.unusedVariables false
def ftC (a b : Int) (xs : List Wi) (r : Bool) : Int := if ephB a b = true ∧ wsB xs = true then (if r = true then 0 else 2) else 1
theorem fits_any (A : Option Addr) (c : Nat) (xs : List Wi) (a b : Int) (r : Bool) (w : World) (h : Rd encWi 2 w w.heap.size A xs) (hn : xs.length ≤ 1048576) :
    Calls Try.prog 38 #[.agg #[.int .i64 a, .int .i64 b], .slice A xs.length c, .bool r] w fun e w' => e = .returned (.int .i64 (ftC a b xs r)) ∧ Below w.heap.size w w' := by
  cases h1 : ephB a b <;> cases h2 : wsB xs <;> cases r
  all_goals
    go_enter Try.func38, Try.ntmps38
    go_wp2_with (first | (go_at_call 50; refine (validEphemeris_any _ _ _).mono ?_; rintro e w1 ⟨rfl, hb1⟩; obtain ⟨hc_w1, hf_w1⟩ := bcell hb1; have hz_w1 := hb1.size; (try simp at hz_w1); (try have g_w1 : w.heap.size < w1.heap.size := (by omega)); have rd1 : Rd encWi 2 w1 w1.heap.size A xs := ((h.below (B' := w.heap.size) (by repeat (first | assumption | exact Below.refl _ _ | apply Below.al | apply Below.drewN' | apply Below.drew | (apply Below.tr; assumption))) (Nat.le_refl _)).more (by omega))) | (go_at_call 51; refine (validWindows_any A c xs _ rd1 hn).mono ?_; rintro e w2 ⟨rfl, hb2⟩; obtain ⟨hc_w2, hf_w2⟩ := bcell hb2; have hz_w2 := hb2.size))
    go_ret
    exact ⟨ret_int (by simp [ftC, h1, h2]), (by repeat (first | assumption | exact Below.refl _ _ | apply Below.al | apply Below.drewN' | apply Below.drew | (apply Below.tr; assumption)))⟩
end Go.Proofs.Ytgdahehpofdllaa
