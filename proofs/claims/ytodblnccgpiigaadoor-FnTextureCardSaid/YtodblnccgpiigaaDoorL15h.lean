/- This text proves what MipLevel hands back: the program's and the reference's. -/
import Derived.Test.YtodblnccgpiigaaDoorL15g
namespace Go.Proofs.YtodblnccgpiigaaDoor
open Go.RowKit

/-- the level and true; or the empty texture and false -/
def Tex.mipR (t : Tex) (l : Int) : Tex × Bool := if t.okB && inB l 0 t.log then (t.mip l.toNat, true) else (⟨0, []⟩, false)
theorem mip_int {lo hi : Nat} {v : Value} {t : Tex} {l : Int} {w : World} (hv : TexR lo hi w v t) (hh : hi ≤ w.heap.size) (ht : t.Ok) (h0 : 0 ≤ l) (hk : l ≤ t.log) :
    Calls Tryd.prog 55 #[v, .int .i64 l] w fun e w' => ∃ v', e = .returned v' ∧ OwnTex w.heap.size w' v' (t.mip l.toNat) ∧ Ext w w' := by
  have := mip_any lo hi v t l.toNat w hv hh ht (by omega)
  rw [Int.toNat_of_nonneg h0] at this
  exact this
theorem mipR_small (t : Tex) (l : Int) : (t.mipR l).1.px.length ≤ 1048576 := by
  unfold Tex.mipR
  split
  · rename_i h
    simp only [Bool.and_eq_true, inB_iff] at h
    have ht := Tex.okB_iff.1 h.1
    have h2 := (ht.mip l.toNat (by omega)).1
    have h3 := h2.n_le
    rw [h2.len]
    exact Nat.le_trans (Nat.mul_le_mul h3 h3) (by decide)
  · exact Nat.zero_le _

end Go.Proofs.YtodblnccgpiigaaDoor
