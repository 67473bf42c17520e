/- This text proves the rows limited to colors, of both sides, and the rows of an operation. -/
import Derived.Test.YtjfcngbepjdfnaaGreatSh8
namespace Go.Proofs.YtjfcngbepjdfnaaGreat
open Go.RowKit

/-- the fresh row of no integers that a literal makes -/
theorem OwnInts.lit0 (w : World) : OwnInts w.heap.size (w.alloc (.cells #[] 3)) (.slice (some ⟨w.heap.size, 0, none⟩) 0 0) [] :=
  ⟨⟨rfl, .inr ⟨w.heap.size, 0, _, rfl, Nat.le_refl _, hnew w _, by simp, by unfold maxLen; omega, rfl, rfl⟩⟩, fun _ h => by cases h⟩
/-- a value limited to the range of colors -/
def col (n : Int) : Int := clampI n 0 256
theorem col_bd (n : Int) : 0 ≤ col n ∧ col n ≤ 256 := by
  unfold col clampI
  split
  · omega
  · split <;> omega
theorem take_map_snoc (f : Int → Int) (xs : List Int) (k : Nat) (h : k < xs.length) : (xs.take k).map f ++ [f xs[k]] = (xs.take (k + 1)).map f := by
  rw [List.take_succ_eq_append_getElem h, List.map_append]
  rfl
end Go.Proofs.YtjfcngbepjdfnaaGreat
