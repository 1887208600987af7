/- How a list of ephemerides that came in is opened. No law in sight. -/
import Derived.Test.YtnkablomkcimaaaOpen
import Derived.Test.YtnkablomkcimaaaCEpB
namespace Go.Proofs.Ytnkablomkcimaaa
open Go.ChangeShapes Go.WideShapes Go.ChangeAt Go.RowKit Go.Deep
section
variable {H : Type} {enc : TypeId × Value → H} {P : Program} {w : World} {base : Nat} {spare : Nat → Bool} {held : Bool}
theorem dec_ep {e : TypeId} {f0 f1 : Field} (he : P.underlying e = some (.struct #[f0, f1])) (hone : oneCellFields P #[f0, f1] = true) (hC : P.cellsOf e = 2)
    (h0 : P.underlying f0.type = some (.int .i64)) (h1 : P.underlying f1.type = some (.int .i64))
    (n : Nat) (cs : List Value) (y : DataW H × List MemPlace) (h : DataW.trod enc P w base spare held n e cs = some y) : ∃ x : Ep, cs = encEp x ∧ True := by
  obtain ⟨x, hx, _⟩ := dec_pt he hone hC h0 h1 n cs y h
  exact ⟨⟨x.t, x.m⟩, hx, trivial⟩
end
end Go.Proofs.Ytnkablomkcimaaa
