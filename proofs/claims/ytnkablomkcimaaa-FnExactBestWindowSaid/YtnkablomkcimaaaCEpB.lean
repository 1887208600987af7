/- Ephemerides as records. No program in sight. -/
import Derived.Test.YtnkablomkcimaaaBase
namespace Go.Proofs.Ytnkablomkcimaaa
structure Ep where
  e : Int
  p : Int
def encEp (x : Ep) : List Value := [.int .i64 x.e, .int .i64 x.p]
end Go.Proofs.Ytnkablomkcimaaa
