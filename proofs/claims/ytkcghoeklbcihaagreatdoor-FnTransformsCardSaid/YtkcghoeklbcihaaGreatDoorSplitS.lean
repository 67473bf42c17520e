/- This text proves what the reference's SplitAny hands back. -/
import Derived.Test.YtkcghoeklbcihaaGreatDoorSplitW
namespace Go.Proofs.YtkcghoeklbcihaaGreatDoor
open Go.RowKit

theorem inSep_at {sep : ByteArray} {c : UInt8} {j : Nat} (h : j < sep.size) (he : sep[j] = c) : inSep sep c = true := by
  have := byte_at sep j h
  rw [he] at this
  simpa [inSep] using List.mem_of_getElem? this
theorem inSep_not {sep : ByteArray} {c : UInt8} (h : ∀ j, j < sep.size → sep.data.toList[j]? ≠ some c) : inSep sep c = false := by
  rw [← Bool.not_eq_true]
  intro hc
  obtain ⟨i, hi, e⟩ := List.getElem_of_mem (show c ∈ sep.data.toList by simpa [inSep] using hc)
  exact h i (by simpa using hi) (by rw [List.getElem?_eq_getElem hi, e])

theorem cell_new1 {w : World} {b : Nat} (hb : b = w.heap.size) (v : Value) (t : TypeId) : (w.alloc (.cells #[v] t)).cell? ⟨b, 0, none⟩ = some v := by
  subst hb
  simp [go_sem]

end Go.Proofs.YtkcghoeklbcihaaGreatDoor
