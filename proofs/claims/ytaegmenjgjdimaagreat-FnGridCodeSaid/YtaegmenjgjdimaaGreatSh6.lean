/- This text proves the reference's noise and tex of the shading language, and the program's table of functions. -/
import Derived.Test.YtaegmenjgjdimaaGreatSh5
import Derived.Test.YtaegmenjgjdimaaGreatLawLook
namespace Go.Proofs.YtaegmenjgjdimaaGreat
open Go.RowKit

theorem hnew (w : World) (o : Obj) : (w.alloc o).heap[w.heap.size]? = some o := by show (w.heap.push o)[w.heap.size]? = _; simp
theorem lookR_zero {t : Tex} (ht : t.okB = true) (x y : Int) : t.lookR x y 0 = t.look x y := by
  unfold Tex.lookR
  rw [if_pos ht]
  have h0 := (Tex.okB_iff.1 ht).log0
  have e : clampI 0 0 t.log = 0 := by
    unfold clampI
    split
    · omega
    · split <;> omega
  rw [e]
  rfl
end Go.Proofs.YtaegmenjgjdimaaGreat
