/- The law on reading rules: its walk. -/
import Derived.Test.YtdklchklpmabdaaDoorCRdK
namespace Go.Proofs.YtdklchklpmabdaaDoor
open Go.RowKit
set_option linter.unusedVariables false
theorem eqRule_same (us : ByteArray) (ufa : Int) (uta : Int) (ufp : Int) (utp : Int) (ush : Int) (w : World) :
    Calls Tryd.prog 6 #[.agg #[.string us, .int .i64 ufa, .int .i64 uta, .int .i64 ufp, .int .i64 utp, .int .i64 ush], .agg #[.string us, .int .i64 ufa, .int .i64 uta, .int .i64 ufp, .int .i64 utp, .int .i64 ush]] w fun e w' => e = .returned (.bool true) ∧ Below w.heap.size w w' := by
  go_enter Tryd.func6, Tryd.ntmps6
  go_wp2
  go_ret
  exact ⟨rfl, (by repeat (first | assumption | exact Below.refl _ _ | apply Below.al | apply Below.drewN' | apply Below.drew | (apply Below.tr; assumption)))⟩
theorem vR_agg (o : Option Ru) : ∃ (t : ByteArray) (fa ta fp tp sh : Int), vR o = .agg #[.string t, .int .i64 fa, .int .i64 ta, .int .i64 fp, .int .i64 tp, .int .i64 sh] := by
  cases o with
  | none => exact ⟨⟨#[]⟩, 0, 0, 0, 0, 0, rfl⟩
  | some r => exact ⟨r.s, r.fa, r.ta, r.fp, r.tp, r.sh, rfl⟩
set_option maxHeartbeats 1000000 in
theorem rd_law (w : World) (hw : GW w) (s : ByteArray) (ws : s.size ≤ maxLen) :
    Calls Tryd.prog 3 #[.string s] w fun e w' => e = .returned (.bool true) ∧ Below w.heap.size w w' := by
  unfold maxLen at ws
  by_cases hs : s.size ≤ 1048576
  · go_enter Tryd.func3, Tryd.ntmps3
    go_wp2_with fail
    refine (specReadRule_any s hs _).mono ?_
    rintro e w1 ⟨rfl, b1⟩
    obtain ⟨t, fa, ta, fp, tp, sh, hv⟩ := vR_agg (rrV s)
    have I : ∀ W : World, GW W → Calls Tryd.prog 5 #[.string s] W fun e w' => e = .returned (.tuple #[vR (rrV s), .bool (rrV s).isSome]) ∧ Below W.heap.size W w' := fun W hW => implReadRule_any s hs W hW
    rw [hv] at I ⊢
    generalize (rrV s).isSome = ok at *
    have n1 : Below w1.heap.size w1 (w1.alloc (.cells #[.string t, .int .i64 fa, .int .i64 ta, .int .i64 fp, .int .i64 tp, .int .i64 sh] 23)) := (by repeat (first | assumption | exact Below.refl _ _ | apply Below.al | apply Below.drewN' | apply Below.drew | (apply Below.tr; assumption)))
    have n2 := Below.tr n1 b1
    have I2 := I _ (hw.below n2)
    go_wp2_with fail
    refine I2.mono ?_
    rintro e w3 ⟨rfl, b3⟩
    have zw : w1.heap.size < w3.heap.size := by have := b3.size; simp at this; omega
    have q0 := ((bcell b3).1 w1.heap.size 0 (by simp)).trans (show _ = some (Value.string t) by simp [go_sem])
    have q1 := ((bcell b3).1 w1.heap.size 1 (by simp)).trans (show _ = some (Value.int .i64 fa) by simp [go_sem])
    have q2 := ((bcell b3).1 w1.heap.size 2 (by simp)).trans (show _ = some (Value.int .i64 ta) by simp [go_sem])
    have q3 := ((bcell b3).1 w1.heap.size 3 (by simp)).trans (show _ = some (Value.int .i64 fp) by simp [go_sem])
    have q4 := ((bcell b3).1 w1.heap.size 4 (by simp)).trans (show _ = some (Value.int .i64 tp) by simp [go_sem])
    have q5 := ((bcell b3).1 w1.heap.size 5 (by simp)).trans (show _ = some (Value.int .i64 sh) by simp [go_sem])
    have B3 := Below.tr b3 n2
    generalize w1.heap.size = r1 at *
    have n4 : Below w3.heap.size w3 (w3.alloc (.cells #[.string t, .int .i64 fa, .int .i64 ta, .int .i64 fp, .int .i64 tp, .int .i64 sh] 23)) := (by repeat (first | assumption | exact Below.refl _ _ | apply Below.al | apply Below.drewN' | apply Below.drew | (apply Below.tr; assumption)))
    have B4 := Below.tr n4 B3
    have p0 := ((bcell n4).1 r1 0 zw).trans q0
    have p1 := ((bcell n4).1 r1 1 zw).trans q1
    have p2 := ((bcell n4).1 r1 2 zw).trans q2
    have p3 := ((bcell n4).1 r1 3 zw).trans q3
    have p4 := ((bcell n4).1 r1 4 zw).trans q4
    have p5 := ((bcell n4).1 r1 5 zw).trans q5
    have m0 : (w3.alloc (.cells #[.string t, .int .i64 fa, .int .i64 ta, .int .i64 fp, .int .i64 tp, .int .i64 sh] 23)).cell? ⟨w3.heap.size, 0, none⟩ = some (.string t) := by simp [go_sem]
    have m1 : (w3.alloc (.cells #[.string t, .int .i64 fa, .int .i64 ta, .int .i64 fp, .int .i64 tp, .int .i64 sh] 23)).cell? ⟨w3.heap.size, 1, none⟩ = some (.int .i64 fa) := by simp [go_sem]
    have m2 : (w3.alloc (.cells #[.string t, .int .i64 fa, .int .i64 ta, .int .i64 fp, .int .i64 tp, .int .i64 sh] 23)).cell? ⟨w3.heap.size, 2, none⟩ = some (.int .i64 ta) := by simp [go_sem]
    have m3 : (w3.alloc (.cells #[.string t, .int .i64 fa, .int .i64 ta, .int .i64 fp, .int .i64 tp, .int .i64 sh] 23)).cell? ⟨w3.heap.size, 3, none⟩ = some (.int .i64 fp) := by simp [go_sem]
    have m4 : (w3.alloc (.cells #[.string t, .int .i64 fa, .int .i64 ta, .int .i64 fp, .int .i64 tp, .int .i64 sh] 23)).cell? ⟨w3.heap.size, 4, none⟩ = some (.int .i64 tp) := by simp [go_sem]
    have m5 : (w3.alloc (.cells #[.string t, .int .i64 fa, .int .i64 ta, .int .i64 fp, .int .i64 tp, .int .i64 sh] 23)).cell? ⟨w3.heap.size, 5, none⟩ = some (.int .i64 sh) := by simp [go_sem]
    clear q0 q1 q2 q3 q4 q5 n4 B3 n1 n2 I I2 b1 b3 hv
    go_wp2_with fail
    refine (eqRule_same t fa ta fp tp sh _).mono ?_
    rintro e w5 ⟨rfl, b5⟩
    have B5 := Below.tr b5 B4
    cases ok <;>
      (go_wp2_with fail
       go_ret
       exact ⟨rfl, B5⟩)
  · go_enter Tryd.func3, Tryd.ntmps3
    go_wp2_with fail
    go_ret
    exact ⟨rfl, Below.refl _ _⟩
end Go.Proofs.YtdklchklpmabdaaDoor
