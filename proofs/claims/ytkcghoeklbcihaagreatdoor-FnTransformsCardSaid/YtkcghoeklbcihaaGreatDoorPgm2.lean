/- This text proves what the program's FormatImage hands back for a valid image. -/
import Derived.Test.YtkcghoeklbcihaaGreatDoorPgm
namespace Go.Proofs.YtkcghoeklbcihaaGreatDoor
open Go.RowKit

/-- row y of the pixels -/
def rowOf (px : List Int) (W y : Nat) : List Int := (px.drop (y * W)).take W
theorem rowOf_length {px : List Int} {W y : Nat} (h : (y + 1) * W ≤ px.length) : (rowOf px W y).length = W := by
  unfold rowOf
  rw [Nat.add_mul, Nat.one_mul] at h
  rw [List.length_take, List.length_drop]
  omega
theorem rowOf_at {px : List Int} {W y i : Nat} (hi : i < W) : (rowOf px W y)[i]? = px[y * W + i]? := by
  unfold rowOf
  rw [List.getElem?_take, if_pos hi, List.getElem?_drop]
theorem rowOf_ints {lo hi : Nat} {w : World} {b off cap : Nat} {px : List Int} (h : IntsAt lo hi w (some ⟨b, off, none⟩) cap px) {W y : Nat} (hb : (y + 1) * W ≤ px.length) :
    Ints lo hi w (.slice (some ⟨b, off + y * W, none⟩) W (cap - y * W)) (rowOf px W y) := by
  have l1 := h.le
  have l2 := h.cap
  have hl := rowOf_length hb
  rw [Nat.add_mul, Nat.one_mul] at hb
  refine ⟨some ⟨b, off + y * W, none⟩, cap - y * W, by rw [hl], by omega, by unfold maxLen; omega, fun i x hx => ?_⟩
  have hi : i < W := by have := (List.getElem?_eq_some_iff.1 hx).1; omega
  rw [rowOf_at hi] at hx
  obtain ⟨h1, b', off', e, h2, h3, h4⟩ := h.cell _ _ hx
  simp only [Option.some.injEq, Addr.mk.injEq, and_true] at e
  obtain ⟨rfl, rfl⟩ := e
  exact ⟨h1, b, _, rfl, h2, h3, by rw [Nat.add_assoc]; exact h4⟩
theorem row_nat2 {y W : Nat} (hy : y < 12) (hW : W ≤ 12) : ∃ p : Nat, p = y * W ∧ wrap64 ((y : Int) * (W : Int)) = (p : Int) ∧ wrap64 (((y : Int) + 1) * (W : Int)) = (p : Int) + W ∧ wrap64 ((p : Int) + W) = (p : Int) + W ∧ p ≤ 144 ∧ (y + 1) * W = p + W := by
  have h2 : y * W ≤ 12 * 12 := Nat.mul_le_mul (by omega) hW
  refine ⟨y * W, rfl, ?_, ?_, wrap_small (by omega) (by omega), h2, by rw [Nat.add_mul, Nat.one_mul]⟩
  · rw [← Int.natCast_mul]; exact wrap_small (by omega) (by omega)
  · rw [Int.add_mul, Int.one_mul, ← Int.natCast_mul]; exact wrap_small (by omega) (by omega)

end Go.Proofs.YtkcghoeklbcihaaGreatDoor
