/- This text proves when an instruction is well formed: the program's. -/
import Derived.Test.YtjfcngbepjdfnaaGreatSh16
namespace Go.Proofs.YtjfcngbepjdfnaaGreat
open Go.RowKit

end Go.Proofs.YtjfcngbepjdfnaaGreat
