/- This text proves what an instruction pops and pushes: the program's pops. -/
import Derived.Test.YtjfcngbepjdfnaaGreatSh15
namespace Go.Proofs.YtjfcngbepjdfnaaGreat
open Go.RowKit

/-- how many values an instruction pops, and pushes -/
def popsI (op : Int) (s : ByteArray) : Int := if op = 4 then 1 else if op = 5 then 1 else if op = 6 then 2 else if op = 7 then arity s else 0
def pushI (op : Int) : Int := if op = 4 then 0 else 1
end Go.Proofs.YtjfcngbepjdfnaaGreat
