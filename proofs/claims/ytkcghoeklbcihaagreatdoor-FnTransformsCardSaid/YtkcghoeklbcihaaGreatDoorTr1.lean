/- This text proves what the law's helper functions over vectors and transforms compute. -/
import Derived.Test.YtkcghoeklbcihaaGreatDoorFlat
import Derived.Test.YtkcghoeklbcihaaGreatDoorL04a
namespace Go.Proofs.YtkcghoeklbcihaaGreatDoor
open Go.RowKit

theorem nine {i : Nat} (h : i < 9) : i = 0 ∨ i = 1 ∨ i = 2 ∨ i = 3 ∨ i = 4 ∨ i = 5 ∨ i = 6 ∨ i = 7 ∨ i = 8 := by omega
theorem rowI9_new {w : World} {b : Nat} {t : TypeId} {f : Nat → Int} (hb : w.heap.size = b) : RowI (w.alloc (.cells #[.int .i64 (f 0), .int .i64 (f 1), .int .i64 (f 2), .int .i64 (f 3), .int .i64 (f 4), .int .i64 (f 5), .int .i64 (f 6), .int .i64 (f 7), .int .i64 (f 8)] t)) b t 9 f :=
  hb ▸ World.rowIs_alloc _ _ _ _ fun i hi => by rcases nine hi with h | h | h | h | h | h | h | h | h <;> subst h <;> rfl

end Go.Proofs.YtkcghoeklbcihaaGreatDoor
