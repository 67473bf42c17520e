/- This text proves what MipLevel hands back: the program's and the reference's. -/
import Derived.Test.YtaegmenjgjdimaaGreatL15g
namespace Go.Proofs.YtaegmenjgjdimaaGreat
open Go.RowKit

/-- the level and true; or the empty texture and false -/
def Tex.mipR (t : Tex) (l : Int) : Tex × Bool := if t.okB && inB l 0 t.log then (t.mip l.toNat, true) else (⟨0, []⟩, false)
theorem mipR_small (t : Tex) (l : Int) : (t.mipR l).1.px.length ≤ 1048576 := by
  unfold Tex.mipR
  split
  · rename_i h
    simp only [Bool.and_eq_true, inB_iff] at h
    have ht := Tex.okB_iff.1 h.1
    have h2 := (ht.mip l.toNat (by omega)).1
    have h3 := h2.n_le
    rw [h2.len]
    exact Nat.le_trans (Nat.mul_le_mul h3 h3) (by decide)
  · exact Nat.zero_le _

end Go.Proofs.YtaegmenjgjdimaaGreat
