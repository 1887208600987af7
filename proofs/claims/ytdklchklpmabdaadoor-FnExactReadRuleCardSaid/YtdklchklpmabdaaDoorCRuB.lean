/- Rules and facts as records. No program in sight. -/
import Derived.Test.YtdklchklpmabdaaDoorBase
namespace Go.Proofs.YtdklchklpmabdaaDoor
structure Ru where
  s : ByteArray
  fa : Int
  ta : Int
  fp : Int
  tp : Int
  sh : Int
def encRu (x : Ru) : List Value := [.string x.s, .int .i64 x.fa, .int .i64 x.ta, .int .i64 x.fp, .int .i64 x.tp, .int .i64 x.sh]
structure Fa where
  a : Int
  p : Int
  s : Int
end Go.Proofs.YtdklchklpmabdaaDoor
