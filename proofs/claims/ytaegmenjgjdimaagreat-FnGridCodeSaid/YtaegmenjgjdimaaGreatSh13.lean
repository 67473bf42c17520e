/- This text proves when the reference takes a row as one of a grid. -/
import Derived.Test.YtaegmenjgjdimaaGreatSh12
namespace Go.Proofs.YtaegmenjgjdimaaGreat
open Go.RowKit

end Go.Proofs.YtaegmenjgjdimaaGreat
