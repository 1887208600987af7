/- Contract: the phase of a time, in the reference. -/
import Derived.Test.YtgdahehpofdllaaC1
namespace Go.Proofs.Ytgdahehpofdllaa
open Go.RowKit
set_option linter.unusedVariables false
theorem phaseOf_any (a b t : Int) (w : World) (h1 : 0 ≤ a) (h2 : a ≤ 10000000) (h3 : 1 ≤ b) (h4 : b ≤ 1000000) (h5 : 0 ≤ t) (h6 : t ≤ 10000000) :
    Calls Try.prog 11 #[.agg #[.int .i64 a, .int .i64 b], .int .i64 t] w fun e w' => e = .returned (.tuple #[.int .i64 ((t - a) % b), .int .i64 0]) ∧ Below w.heap.size w w' := by
  have hc : codeET a b t = 0 := by
    unfold codeET ephB
    rw [inB_true.2 ⟨h1, h2⟩, inB_true.2 ⟨h3, h4⟩, inB_true.2 ⟨h5, h6⟩]
    rfl
  go_enter Try.func11, Try.ntmps11
  go_wp2_with fail
  refine (l09Code_any a b t _).mono ?_
  rw [hc]
  rintro e w1 ⟨rfl, hb1⟩
  obtain ⟨hc1, _⟩ := bcell hb1
  have hz1 := hb1.size
  simp at hz1
  have x0 := (hc1 (w.heap.size) 0 (by simp)).trans (show (w.alloc (.cells #[.int .i64 a, .int .i64 b] 25)).cell? ⟨w.heap.size, 0, none⟩ = some (.int .i64 a) from by simp [go_sem])
  have x1 := (hc1 (w.heap.size) 1 (by simp)).trans (show (w.alloc (.cells #[.int .i64 a, .int .i64 b] 25)).cell? ⟨w.heap.size, 1, none⟩ = some (.int .i64 b) from by simp [go_sem])
  clear hc hc1
  go_wp2_with fail
  refine (l09Phase_any a b t _ h1 h2 h3 h4 h5 h6).mono ?_
  rintro e w2 ⟨rfl, hb2⟩
  go_wp2
  go_ret2
  exact ⟨rfl, Below.tr hb2 (Below.tr hb1 (Below.al (Below.refl _ _) _))⟩
end Go.Proofs.Ytgdahehpofdllaa
