/- This text proves what SplitLines of both sides hands back. -/
import Derived.Test.YtkcghoeklbcihaaGreatDoorSplitS
import Derived.Test.YtkcghoeklbcihaaGreatDoorNum2
namespace Go.Proofs.YtkcghoeklbcihaaGreatDoor
open Go.RowKit

/-- the lines of s -/
def linesB (s : ByteArray) : List ByteArray := if (splitB (inSep ⟨#[10]⟩) s).getLast?.map (·.size) = some 0 then (splitB (inSep ⟨#[10]⟩) s).dropLast else splitB (inSep ⟨#[10]⟩) s
theorem linesB_size (s : ByteArray) : ∀ x ∈ linesB s, x.size ≤ s.size := by
  intro x hx
  unfold linesB at hx
  split at hx
  · exact splitB_size _ s x (List.dropLast_subset _ hx)
  · exact splitB_size _ s x hx
theorem linesB_length (s : ByteArray) : (linesB s).length ≤ s.size + 1 := by
  have := splitB_length (inSep ⟨#[10]⟩) s
  unfold linesB
  split
  · rw [List.length_dropLast]; omega
  · exact this
theorem Strs.dropLast {lo hi : Nat} {w : World} {a : Option Addr} {n c : Nat} {xs : List ByteArray} (h : StrsAt lo hi w a c xs) (hn : n = xs.length - 1) : Strs lo hi w (.slice a n c) xs.dropLast := by
  have l1 := h.le
  have l2 := h.cap
  subst hn
  refine ⟨a, c, by rw [List.length_dropLast], by rw [List.length_dropLast]; omega, by unfold maxLen; omega, fun i x hx => h.cell i x ?_⟩
  rw [List.getElem?_dropLast] at hx
  split at hx
  · exact hx
  · cases hx
theorem StrsAt.shut {lo hi : Nat} {w : World} {a : Option Addr} {c n : Nat} {xs : List ByteArray} (h : StrsAt lo hi w a c xs) (hn : n = xs.length) : Strs lo hi w (.slice a n c) xs := by
  subst hn
  exact ⟨a, c, rfl, h.le, by unfold maxLen; have := h.cap; omega, h.cell⟩

end Go.Proofs.YtkcghoeklbcihaaGreatDoor
