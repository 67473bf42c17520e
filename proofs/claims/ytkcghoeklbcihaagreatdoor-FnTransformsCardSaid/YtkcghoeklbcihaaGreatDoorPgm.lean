/- This text proves what the program's spaced hands back. -/
import Derived.Test.YtkcghoeklbcihaaGreatDoorStrs2
import Derived.Test.YtkcghoeklbcihaaGreatDoorPic
namespace Go.Proofs.YtkcghoeklbcihaaGreatDoor
open Go.RowKit

theorem heap_new (w : World) (o : Obj) : (w.alloc o).heap[w.heap.size]? = some o := by show (w.heap.push o)[w.heap.size]? = _; simp
theorem OwnStrs.empty {lo : Nat} {w : World} {g : Nat} (hl : lo ≤ g) (hg : w.heap[g]? = some (.cells #[] 9)) : OwnStrs lo w (.slice (some ⟨g, 0, none⟩) 0 0) [] :=
  ⟨rfl, .inr ⟨g, 0, #[], rfl, hl, hg, Nat.le_refl _, Nat.zero_le _, rfl, rfl⟩⟩
def spB : ByteArray := ⟨#[32]⟩
theorem fmt_sizes (xs : List Int) : ∀ x ∈ xs.map fmtT, x.size ≤ 2000000 := by
  intro x hx
  obtain ⟨n, _, rfl⟩ := List.mem_map.1 hx
  have := fmtT_size n
  omega

end Go.Proofs.YtkcghoeklbcihaaGreatDoor
