/- This text holds what becomes of slices of strings in blocks of their own. -/
import Derived.Test.YtkcghoeklbcihaaGreatDoorStrs
import Derived.Test.YtkcghoeklbcihaaGreatDoorBlk0
namespace Go.Proofs.YtkcghoeklbcihaaGreatDoor
open Go.RowKit

theorem OwnStrs.grown {lo : Nat} {w w' : World} {v : Value} {xs : List ByteArray} {row : Option Nat} (h : OwnStrs lo w v xs) (hg : w.grownBy w' row) (ne : ∀ k, v.ownBlock = some k → some k ≠ row) : OwnStrs lo w' v xs := by
  obtain ⟨h1, h2⟩ := h
  refine ⟨h1, ?_⟩
  rcases h2 with hn | ⟨g, cap, cur, rfl, hb, hh, r⟩
  · exact .inl hn
  · exact .inr ⟨g, cap, cur, rfl, hb, by rw [hg.block g (lt_of_block hh) (ne g rfl)]; exact hh, r⟩
theorem OwnStrs.setOther {lo : Nat} {w : World} {v : Value} {xs : List ByteArray} (h : OwnStrs lo w v xs) {a : Addr} (ne : v.ownBlock ≠ some a.block) (u : Value) : OwnStrs lo (w.setCell a u) v xs := ownsRow_setCell_other h ne u
theorem OwnStrs.block {lo : Nat} {w : World} {v : Value} {xs : List ByteArray} (h : OwnStrs lo w v xs) {k : Nat} (hk : v.ownBlock = some k) : ∃ cur, w.heap[k]? = some (.cells cur 9 (0, 0)) := by
  obtain ⟨h1, h2⟩ := h
  rcases h2 with ⟨rfl, _⟩ | ⟨g, cap, cur, rfl, hb, hh, r⟩
  · cases hk
  · simp only [Value.ownBlock, Option.some.injEq] at hk
    subst hk
    exact ⟨cur, hh⟩
/-- a row of strings and a row of integers lie apart -/
theorem strs_not_ints {lo lo' : Nat} {w : World} {u v : Value} {xs : List ByteArray} {ys : List Int} (h : OwnStrs lo w u xs) (h' : OwnInts lo' w v ys) : ∀ k, u.ownBlock = some k → some k ≠ v.ownBlock := by
  intro k hk e
  obtain ⟨c, hc⟩ := h.block hk
  obtain ⟨c', hc'⟩ := h'.block e.symm
  rw [hc] at hc'
  simp at hc'
end Go.Proofs.YtkcghoeklbcihaaGreatDoor
