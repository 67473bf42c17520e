/- This text proves the reference's values of the predefined variables. -/
import Derived.Test.YtaegmenjgjdimaaGreatSh14
namespace Go.Proofs.YtaegmenjgjdimaaGreat
open Go.RowKit

/-- the value of a predefined variable at point q -/
def varL (l : List UInt8) (f : Nat → Int) (tm : Int) (q : Nat) : Int :=
  if l == [117] then f (q * 5) else if l == [118] then f (q * 5 + 1) else if l == [120] then f (q * 5 + 2) else if l == [121] then f (q * 5 + 3) else if l == [122] then f (q * 5 + 4) else tm
end Go.Proofs.YtaegmenjgjdimaaGreat
