/- This text proves what the reference's FormatImage hands back. -/
import Derived.Test.YtkcghoeklbcihaaGreatDoorPgm3
import Derived.Test.YtkcghoeklbcihaaGreatDoorPlan
namespace Go.Proofs.YtkcghoeklbcihaaGreatDoor
open Go.RowKit

theorem toNat_add (p W : Nat) : ((p : Int) + W).toNat = p + W := by omega
/-- what the reference has written behind k rows -/
def specB (px : List Int) (W H : Nat) : Nat → ByteArray
  | 0 => ((((⟨#[80, 50, 10]⟩ : ByteArray) ++ fmtT W) ++ ⟨#[32]⟩) ++ fmtT H) ++ ⟨#[10, 50, 53, 54, 10]⟩
  | k + 1 => (specB px W H k ++ lineL px W k) ++ nlB
theorem specB_eq (px : List Int) (W H : Nat) : ∀ k, specB px W H k = joinB (linesL px W H k) nlB ++ nlB
  | 0 => by
    refine bytes_ext ?_
    simp only [specB, linesL, headL, List.range_zero, List.map_nil, List.append_nil, joinB, List.map_cons, Lib.join_cons, Lib.joinTail, nlB, spB, Go.Joins.data_append]
    simp
  | k + 1 => by
    rw [specB, specB_eq px W H k, ← linesL_succ, joinB_snoc _ _ _ (by simp [linesL, headL])]
theorem specB_size {px : List Int} {W H k : Nat} (hW : W ≤ 12) (hk : k ≤ 12) : (specB px W H k).size ≤ 20000 := by
  rw [specB_eq, ByteArray.size_append]
  have hjs := joinB_size (linesL px W H k) nlB 300 (linesL_size hW) (by decide)
  rw [linesL_length] at hjs
  have : nlB.size = 1 := rfl
  omega

end Go.Proofs.YtkcghoeklbcihaaGreatDoor
