/- This text proves when the reference takes a row as one of a grid. -/
import Derived.Test.YtjfcngbepjdfnaaGreatSh12
namespace Go.Proofs.YtjfcngbepjdfnaaGreat
open Go.RowKit

end Go.Proofs.YtjfcngbepjdfnaaGreat
