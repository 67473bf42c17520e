/- This text proves what the laws' helper functions over strings do: marks of texts, slices of strings. -/
import Derived.Test.YtjfcngbepjdfnaaGreatLk3
import Derived.Test.YtjfcngbepjdfnaaGreatStrB
import Derived.Laws.BytesString
namespace Go.Proofs.YtjfcngbepjdfnaaGreat
open Go.RowKit

/-- k has at most 13 - r digits -/
def digs (k r : Nat) : Prop := k < 10 ^ (13 - r)
theorem digs.next {k r : Nat} (h : digs k r) (hk : k ≠ 0) : r ≠ 13 ∧ digs (k / 10) (r + 1) ∧ k < 10000000000000 := by
  unfold digs at *
  have hr : r < 13 := by
    by_cases e : r < 13
    · exact e
    · rw [show 13 - r = 0 by omega] at h
      simp at h
      omega
  refine ⟨by omega, ?_, Nat.lt_of_lt_of_le h (Nat.pow_le_pow_right (i := 13 - r) (j := 13) (by decide) (by omega))⟩
  rw [show 13 - r = (13 - (r + 1)) + 1 by omega, Nat.pow_succ] at h
  exact Nat.div_lt_of_lt_mul (by rw [Nat.mul_comm]; exact h)
theorem digs.start {k : Nat} (h : k < 10000000000000) : digs k 0 := h
end Go.Proofs.YtjfcngbepjdfnaaGreat
