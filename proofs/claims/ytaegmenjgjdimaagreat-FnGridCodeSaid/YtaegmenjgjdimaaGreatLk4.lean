/- This text proves what the laws' helper functions over strings do: marks of texts, slices of strings. -/
import Derived.Test.YtaegmenjgjdimaaGreatLk3
import Derived.Test.YtaegmenjgjdimaaGreatStrB
import Derived.Laws.BytesString
namespace Go.Proofs.YtaegmenjgjdimaaGreat
open Go.RowKit

theorem conv1 (w : World) (x : Int) : ∃ r : ByteArray, r.size = 1 ∧ (convert 22 9 (.slice (some ⟨w.heap.size, 0, none⟩) 1 1)).run Tryz.prog (w.alloc (.cells #[.int .u8 x] 5)) = .ok (.string r) (w.alloc (.cells #[.int .u8 x] 5)) := by
  have h1 := run_bytesToString (P := Tryz.prog) (w.alloc (.cells #[.int .u8 x] 5)) ⟨w.heap.size, 0, none⟩ 1 1 [x] (by simp [loadCells, loadCellsFrom, go_sem])
  rw [← run_convert_bytes_string _ 22 9 5 _ _ _ Tryz.underlying22 Tryz.underlying5 Tryz.underlying9] at h1
  exact ⟨_, by rfl, h1⟩
/-- k has at most 13 - r digits -/
def digs (k r : Nat) : Prop := k < 10 ^ (13 - r)
theorem digs.next {k r : Nat} (h : digs k r) (hk : k ≠ 0) : r ≠ 13 ∧ digs (k / 10) (r + 1) ∧ k < 10000000000000 := by
  unfold digs at *
  have hr : r < 13 := by
    by_cases e : r < 13
    · exact e
    · rw [show 13 - r = 0 by omega] at h
      simp at h
      omega
  refine ⟨by omega, ?_, Nat.lt_of_lt_of_le h (Nat.pow_le_pow_right (i := 13 - r) (j := 13) (by decide) (by omega))⟩
  rw [show 13 - r = (13 - (r + 1)) + 1 by omega, Nat.pow_succ] at h
  exact Nat.div_lt_of_lt_mul (by rw [Nat.mul_comm]; exact h)
theorem digs.start {k : Nat} (h : k < 10000000000000) : digs k 0 := h
end Go.Proofs.YtaegmenjgjdimaaGreat
