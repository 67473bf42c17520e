/- This text proves what Lookup hands back: the program's and the reference's. -/
import Derived.Test.YtaegmenjgjdimaaGreatL15i
import Derived.Test.YtaegmenjgjdimaaGreatL16a
namespace Go.Proofs.YtaegmenjgjdimaaGreat
open Go.RowKit

def Tex.lookR (t : Tex) (u v l : Int) : Int := if t.okB then (t.mip (clampI l 0 t.log).toNat).look u v else 0
theorem clampI_bd {l L : Int} (h : 0 ≤ L) : 0 ≤ clampI l 0 L ∧ clampI l 0 L ≤ L := by
  unfold clampI
  split
  · omega
  · split <;> omega

theorem l02N_val {n c : Int} (h : clampI n (-1000000) 1000000 = c) (w : World) : Calls Tryz.prog 137 #[.int .i64 n] w fun e w' => e = .returned (.int .i64 c) ∧ w = w' := by
  go_enter Tryz.func137, Tryz.ntmps137
  go_wp2_with fail
  refine (sClamp_val h _).mono ?_
  rintro e w1 ⟨rfl, rfl⟩
  go_wp2
  go_ret
  exact ⟨rfl, rfl⟩
end Go.Proofs.YtaegmenjgjdimaaGreat
