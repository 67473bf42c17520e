/- This text proves what the program's ParseImage hands back. -/
import Derived.Test.YtkcghoeklbcihaaGreatDoorImgW
import Derived.Test.YtkcghoeklbcihaaGreatDoorNum2
namespace Go.Proofs.YtkcghoeklbcihaaGreatDoor
open Go.RowKit

end Go.Proofs.YtkcghoeklbcihaaGreatDoor
