/- This text proves what the laws' marks on a texture do. -/
import Derived.Test.YtaegmenjgjdimaaGreatEx2
namespace Go.Proofs.YtaegmenjgjdimaaGreat
open Go.RowKit
/-- the texture with its texels numbered from k on -/
def Tex.mark (t : Tex) (k : Int) : Tex := { t with px := upFrom k t.px.length }

theorem heldRes_neg {xs : List Int} {k : Int} (h0 : 0 ≤ k) (h : heldRes xs k < 0) : heldRes xs k = -1 := by
  unfold heldRes at *
  split at h
  · omega
  · rename_i hh; rw [if_neg hh]

end Go.Proofs.YtaegmenjgjdimaaGreat
