/- This text proves what the program's FormatTexture hands back for a valid texture. -/
import Derived.Test.YtkcghoeklbcihaaGreatDoorIntsF
import Derived.Test.YtkcghoeklbcihaaGreatDoorL15a
import Derived.Lib.IndexBytes
import Derived.Lib.IndexMore
namespace Go.Proofs.YtkcghoeklbcihaaGreatDoor
open Go.RowKit

def colB : ByteArray := ⟨#[58]⟩
/-- the text of a texture -/
def Tex.text (t : Tex) : ByteArray := (fmtT t.log ++ colB) ++ joinB (t.px.map fmtT) comB
theorem Tex.Ok.in9 {t : Tex} (h : t.Ok) : ∀ x ∈ t.px, inB x (-1000000000) 1000000000 = true := fun x hx => by
  have := h.all x hx
  rw [inB_iff]
  omega
theorem Tex.Ok.len256 {t : Tex} (h : t.Ok) : 1 ≤ t.px.length ∧ t.px.length ≤ 256 := by
  rw [h.len]
  exact ⟨Nat.mul_le_mul h.n_pos h.n_pos, Nat.mul_le_mul h.n_le h.n_le⟩
theorem Tex.Ok.parts {t : Tex} (h : t.Ok) : (fmtT t.log).size ≤ 11 ∧ (joinB (t.px.map fmtT) comB).size ≤ 256 * 22 := by
  refine ⟨fmtT_size _, ?_⟩
  have h1 := joinB_size (t.px.map fmtT) comB 11 (fun x hx => by
    obtain ⟨n, _, rfl⟩ := List.mem_map.1 hx
    exact fmtT_size n) (by decide)
  rw [List.length_map] at h1
  exact Nat.le_trans h1 (Nat.mul_le_mul_right _ h.len256.2)

theorem indexByte_at (c : UInt8) : ∀ (A B : List UInt8), (∀ d ∈ A, d ≠ c) → Lib.indexByte (A ++ c :: B) c = A.length
  | [], B, _ => by simp [Lib.indexByte]
  | d :: A, B, h => by
    have hd : (d == c) = false := by rw [beq_eq_false_iff_ne]; exact h d (by simp)
    have ih := indexByte_at c A B (fun x hx => h x (by simp [hx]))
    simp only [List.cons_append, Lib.indexByte, hd]
    rw [ih, if_neg (by simp), if_neg (by simp)]
    simp
theorem cut_at (c : UInt8) (A B : List UInt8) (h : ∀ d ∈ A, d ≠ c) : Lib.cut (A ++ c :: B) [c] = (A, B, true) := by
  have hi : Lib.index (A ++ c :: B) [c] = A.length := by rw [Lib.index_one]; exact indexByte_at c A B h
  unfold Lib.cut
  rw [hi, if_pos (by omega), Int.toNat_natCast]
  simp
theorem Tex.Ok.cut {t : Tex} (_h : t.Ok) : Lib.cut t.text.data.toList colB.data.toList = ((fmtT t.log).data.toList, (joinB (t.px.map fmtT) comB).data.toList, true) := by
  have e : t.text.data.toList = (fmtT t.log).data.toList ++ 58 :: (joinB (t.px.map fmtT) comB).data.toList := by
    unfold Tex.text
    rw [Go.Joins.data_append, Go.Joins.data_append, List.append_assoc]
    rfl
  rw [e]
  refine cut_at 58 _ _ fun d hd e => ?_
  subst e
  rcases fmtT_bytes t.log _ hd with h | h
  · cases h
  · simp at h

end Go.Proofs.YtkcghoeklbcihaaGreatDoor
