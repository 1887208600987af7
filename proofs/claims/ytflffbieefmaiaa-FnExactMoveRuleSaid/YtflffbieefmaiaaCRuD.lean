/- How a list of rules that came in is opened. No law in sight. -/
import Derived.Test.YtflffbieefmaiaaOpen
import Derived.Test.YtflffbieefmaiaaCRuB
namespace Go.Proofs.Ytflffbieefmaiaa
open Go.ChangeShapes Go.WideShapes Go.ChangeAt Go.RowKit Go.Deep
section
variable {H : Type} {enc : TypeId × Value → H} {P : Program} {w : World} {base : Nat} {spare : Nat → Bool} {held : Bool}
theorem dec_ru {e : TypeId} {f0 f1 f2 f3 f4 f5 : Field} (he : P.underlying e = some (.struct #[f0, f1, f2, f3, f4, f5])) (hone : oneCellFields P #[f0, f1, f2, f3, f4, f5] = true) (hC : P.cellsOf e = 6)
    (h0 : P.underlying f0.type = some .string) (h1 : P.underlying f1.type = some (.int .i64)) (h2 : P.underlying f2.type = some (.int .i64)) (h3 : P.underlying f3.type = some (.int .i64)) (h4 : P.underlying f4.type = some (.int .i64)) (h5 : P.underlying f5.type = some (.int .i64))
    (n : Nat) (cs : List Value) (y : DataW H × List MemPlace) (h : DataW.trod enc P w base spare held n e cs = some y) : ∃ x : Ru, cs = encRu x ∧ x.s.size ≤ maxLen := by
  obtain ⟨x, hx, hs⟩ := dec_rq he hone hC h0 h1 h2 h3 h4 h5 n cs y h
  exact ⟨⟨x.s, x.f, x.t, x.n, x.d, x.p⟩, hx, hs⟩
end
end Go.Proofs.Ytflffbieefmaiaa
