/- This text proves what the laws' marks on a texture do. -/
import Derived.Test.YtdkohjeobjejeaaGreatEx2
namespace Go.Proofs.YtdkohjeobjejeaaGreat
open Go.RowKit
/-- the texture with its texels numbered from k on -/
def Tex.mark (t : Tex) (k : Int) : Tex := { t with px := upFrom k t.px.length }

set_option maxHeartbeats 400000 in
theorem markTexture_any (lo : Nat) (v : Value) (t : Tex) (k0 : Int) (w : World) (hv : OwnTex lo w v t) (h0 : 0 ≤ k0) (hsz : k0 + t.px.length ≤ 1152921504606846976) :
    Calls Tryz.prog 47 #[v, .int .i64 k0] w fun e w' => e = .returned (.int .i64 (k0 + t.px.length)) ∧ OwnTex lo w' v (t.mark k0) ∧ ∃ u, v = .agg #[.int .i64 t.log, u] ∧ w.grownBy w' u.ownBlock := by
  obtain ⟨u, rfl, hlog, hu⟩ := hv
  go_enter Tryz.func47, Tryz.ntmps47
  go_wp2_with fail
  refine (markIntS_any lo u t.px k0 _ (hu.alloc _) h0 hsz).mono ?_
  rintro e w1 ⟨rfl, hv1, hg⟩
  go_wp2
  go_ret
  exact ⟨rfl, ⟨u, rfl, hlog, hv1⟩, u, rfl, grownBy.trans (World.grownBy_alloc _ _ _) hg⟩

theorem heldRes_neg {xs : List Int} {k : Int} (h0 : 0 ≤ k) (h : heldRes xs k < 0) : heldRes xs k = -1 := by
  unfold heldRes at *
  split at h
  · omega
  · rename_i hh; rw [if_neg hh]

end Go.Proofs.YtdkohjeobjejeaaGreat
