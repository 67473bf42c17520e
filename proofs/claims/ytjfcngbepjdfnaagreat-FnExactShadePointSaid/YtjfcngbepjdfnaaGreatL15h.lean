/- This text proves what MipLevel hands back: the program's and the reference's. -/
import Derived.Test.YtjfcngbepjdfnaaGreatL15g
namespace Go.Proofs.YtjfcngbepjdfnaaGreat
open Go.RowKit

/-- the level and true; or the empty texture and false -/
def Tex.mipR (t : Tex) (l : Int) : Tex × Bool := if t.okB && inB l 0 t.log then (t.mip l.toNat, true) else (⟨0, []⟩, false)
theorem mipR_small (t : Tex) (l : Int) : (t.mipR l).1.px.length ≤ 1048576 := by
  unfold Tex.mipR
  split
  · rename_i h
    simp only [Bool.and_eq_true, inB_iff] at h
    have ht := Tex.okB_iff.1 h.1
    have h2 := (ht.mip l.toNat (by omega)).1
    have h3 := h2.n_le
    rw [h2.len]
    exact Nat.le_trans (Nat.mul_le_mul h3 h3) (by decide)
  · exact Nat.zero_le _

set_option maxHeartbeats 800000 in
theorem sMipLevel_any (lo hi : Nat) (v : Value) (t : Tex) (l : Int) (w : World) (hv : TexR lo hi w v t) (hh : hi ≤ w.heap.size) :
    Calls Tryz.prog 117 #[v, .int .i64 l] w fun e w' => ∃ v', e = .returned (.tuple #[v', .bool (t.mipR l).2]) ∧ OwnTex w.heap.size w' v' (t.mipR l).1 ∧ Ext w w' := by
  by_cases h1 : t.okB = true
  · by_cases h2 : inB l 0 t.log = true
    · have ht := Tex.okB_iff.1 h1
      have e1 : t.mipR l = (t.mip l.toNat, true) := by simp [Tex.mipR, h1, h2]
      rw [e1]
      have h3 := inB_iff.1 h2
      have := sMip_valid lo hi v t l.toNat w hv hh ht (by omega)
      rw [Int.toNat_of_nonneg h3.1] at this
      exact this
    · have e1 : t.mipR l = (⟨0, []⟩, false) := by simp [Tex.mipR, h2]
      rw [e1]
      obtain ⟨u, rfl, hlog⟩ := hv.shape
      have HV := hid hv
      have H1 := hid h1
      have HB := hid (Bool.eq_false_iff.2 h2)
      clear hv h1 e1 h2
      go_enter Tryz.func117, Tryz.ntmps117
      go_wp2_with (first
      | (go_at_call 64; refine (sIsValidTexture_val H1.out lo hi _ _ (HV.out.ext hh (by repeat (with_reducible (first | assumption | exact Ext.refl _ | apply Ext.alloc | apply Ext.drew | apply Ext.drewN)))) (by simp; omega)).mono ?_; rintro e w1 ⟨rfl, hx⟩; obtain ⟨c1, f1⟩ := hx.cells; have z1 := hx.size; simp only [World.size_alloc] at z1; have q0 : w.heap.size < w1.heap.size := (by omega); have q1 : w.heap.size + 1 < w1.heap.size := (by omega))
      | (go_at_call 20; refine (l01In_val HB.out _).mono ?_; rintro e w2 ⟨rfl, rfl⟩))
      have hx0 : Ext w w1 := Ext.trans (by repeat (with_reducible (first | assumption | exact Ext.refl _ | apply Ext.alloc | apply Ext.drew | apply Ext.drewN))) hx
      exact bodyPost_ret (v := .tuple #[.agg #[.int .i64 0, .slice none 0 0], .bool false]) (by simp [results, Tryz.results117, go_sem, *]) rfl ⟨_, rfl, OwnTex.zero _ _, (hx0.setCell (by simp) _).setCell (by simp) _⟩
  · have e1 : t.mipR l = (⟨0, []⟩, false) := by simp [Tex.mipR, h1]
    rw [e1]
    obtain ⟨u, rfl, hlog⟩ := hv.shape
    have HV := hid hv
    have H1 := hid (Bool.eq_false_iff.2 h1)
    clear hv h1 e1
    go_enter Tryz.func117, Tryz.ntmps117
    go_wp2_with (go_at_call 64; refine (sIsValidTexture_val H1.out lo hi _ _ (HV.out.ext hh (by repeat (with_reducible (first | assumption | exact Ext.refl _ | apply Ext.alloc | apply Ext.drew | apply Ext.drewN)))) (by simp; omega)).mono ?_; rintro e w1 ⟨rfl, hx⟩; obtain ⟨c1, f1⟩ := hx.cells; have z1 := hx.size; simp only [World.size_alloc] at z1)
    have hx0 : Ext w w1 := Ext.trans (by repeat (with_reducible (first | assumption | exact Ext.refl _ | apply Ext.alloc | apply Ext.drew | apply Ext.drewN))) hx
    exact bodyPost_ret (v := .tuple #[.agg #[.int .i64 0, .slice none 0 0], .bool false]) (by simp [results, Tryz.results117, go_sem, *]) rfl ⟨_, rfl, OwnTex.zero _ _, (hx0.setCell (by simp) _).setCell (by simp) _⟩
end Go.Proofs.YtjfcngbepjdfnaaGreat
