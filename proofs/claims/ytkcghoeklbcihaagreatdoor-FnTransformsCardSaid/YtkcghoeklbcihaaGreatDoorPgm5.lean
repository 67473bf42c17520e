/- This text proves what FormatImage of both sides hands back for every image. -/
import Derived.Test.YtkcghoeklbcihaaGreatDoorPgm4
namespace Go.Proofs.YtkcghoeklbcihaaGreatDoor
open Go.RowKit

/-- the text of an image: empty for one that is not valid -/
def Pic.text (I : Pic) : ByteArray := if I.okB then pgmB I.px I.w.toNat I.h.toNat else ⟨#[]⟩

theorem Pic.ok_shape {I : Pic} (h : I.okB = true) : ∃ W H : Nat, I = ⟨W, H, I.px⟩ ∧ (1 ≤ W ∧ W ≤ 12) ∧ (1 ≤ H ∧ H ≤ 12) ∧ I.px.length = H * W := by
  have h0 := h
  unfold Pic.okB at h
  simp only [Bool.and_eq_true, decide_eq_true_eq] at h
  obtain ⟨_, ⟨h1, h2⟩, h3⟩ := h
  rw [inB_iff] at h1 h2
  obtain ⟨W, hW⟩ : ∃ W : Nat, I.w = W := ⟨I.w.toNat, by omega⟩
  obtain ⟨H, hH⟩ : ∃ H : Nat, I.h = H := ⟨I.h.toNat, by omega⟩
  refine ⟨W, H, ?_, by omega, by omega, ?_⟩
  · cases I; simp at hW hH; subst hW; subst hH; rfl
  · rw [hW, hH, ← Int.natCast_mul] at h3
    rw [Nat.mul_comm]
    exact Int.ofNat.inj h3

/-- v is the image, and owns its pixels -/
def Pic.Own (I : Pic) (lo : Nat) (w : World) (v : Value) : Prop := ∃ u, v = .agg #[.int .i64 I.w, .int .i64 I.h, u] ∧ I64 I.w ∧ I64 I.h ∧ OwnInts lo w u I.px
theorem Pic.Own.R {I : Pic} {lo : Nat} {w : World} {v : Value} (h : I.Own lo w v) : I.R lo w.heap.size w v := by
  obtain ⟨u, rfl, h1, h2, h3⟩ := h
  exact ⟨u, rfl, h1, h2, h3.ints⟩
theorem Pic.Own.ext {I : Pic} {lo : Nat} {w w' : World} {v : Value} (h : I.Own lo w v) (e : Ext w w') : I.Own lo w' v := by
  obtain ⟨u, rfl, h1, h2, h3⟩ := h
  exact ⟨u, rfl, h1, h2, h3.ext e⟩
theorem Pic.Own.form {I : Pic} {lo : Nat} {w : World} {v : Value} (h : I.Own lo w v) : ∃ a c, v = .agg #[.int .i64 I.w, .int .i64 I.h, .slice a I.px.length c] := by
  obtain ⟨u, rfl, _, _, h1⟩ := h
  obtain ⟨a, c, rfl, _⟩ := h1.form
  exact ⟨a, c, rfl⟩

end Go.Proofs.YtkcghoeklbcihaaGreatDoor
