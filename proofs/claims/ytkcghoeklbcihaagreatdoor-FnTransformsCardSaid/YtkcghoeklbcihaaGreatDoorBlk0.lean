/- This text holds whole blocks as the walks know them: what a block of cells holds, and what becomes of it. -/
import Derived.Test.YtkcghoeklbcihaaGreatDoorL01
import Derived.Test.YtkcghoeklbcihaaGreatDoorEx1
import Derived.Test.YtkcghoeklbcihaaGreatDoorEx2
import Derived.Test.YtkcghoeklbcihaaGreatDoorFlat
namespace Go.Proofs.YtkcghoeklbcihaaGreatDoor
open Go.RowKit

/-- block g of w holds the cells cs of element type t, and may be written -/
def Blk (w : World) (g : Nat) (t : TypeId) (cs : List Value) : Prop := w.heap[g]? = some (.cells cs.toArray t (0, 0))
theorem Blk.lt {w : World} {g : Nat} {t : TypeId} {cs : List Value} (h : Blk w g t cs) : g < w.heap.size := (Array.getElem?_eq_some_iff.1 h).1
theorem Blk.cell {w : World} {g : Nat} {t : TypeId} {cs : List Value} (h : Blk w g t cs) (i : Nat) {v : Value} (hi : cs[i]? = some v) : w.cell? ⟨g, i, none⟩ = some v := by
  unfold Blk at h
  simp [World.cell?, h, hi]
theorem Blk.free {w : World} {g : Nat} {t : TypeId} {cs : List Value} (h : Blk w g t cs) (i : Nat) : w.frozen? ⟨g, i, none⟩ = false := by
  unfold Blk at h
  simp [World.frozen?, h]
theorem Blk.new (w : World) (t : TypeId) (cs : List Value) : Blk (w.alloc (.cells cs.toArray t)) w.heap.size t cs := by
  show (w.heap.push _)[w.heap.size]? = _
  simp
theorem Blk.of {w w' : World} {g : Nat} {t : TypeId} {cs : List Value} (h : Blk w g t cs) (e : w'.heap[g]? = w.heap[g]?) : Blk w' g t cs := e.trans h
theorem Blk.ext {w w' : World} {g : Nat} {t : TypeId} {cs : List Value} (h : Blk w g t cs) (e : Ext w w') : Blk w' g t cs := h.of (e.block h.lt)
theorem Blk.set {w : World} {g : Nat} {t : TypeId} {cs : List Value} (h : Blk w g t cs) (i : Nat) (v : Value) : Blk (w.setCell ⟨g, i, none⟩ v) g t (cs.set i v) := by
  have hlt := h.lt
  have h' : w.heap[g] = .cells cs.toArray t (0, 0) := by unfold Blk at h; simpa [Array.getElem?_eq_getElem hlt] using h
  show (w.heap.modify g _)[g]? = _
  rw [Array.getElem?_eq_getElem (by simpa using hlt), Array.getElem_modify_self, h']
  simp
theorem Blk.other {w : World} {g : Nat} {t : TypeId} {cs : List Value} (h : Blk w g t cs) {a : Addr} (ne : g ≠ a.block) (v : Value) : Blk (w.setCell a v) g t cs := h.of (Below.heap_setCell _ _ _ _ ne)
theorem Blk.grown {w w' : World} {g : Nat} {t : TypeId} {cs : List Value} {row : Option Nat} (h : Blk w g t cs) (hg : w.grownBy w' row) (ne : some g ≠ row) : Blk w' g t cs := h.of (hg.block g h.lt ne)

theorem OwnInts.grown {lo : Nat} {w w' : World} {v : Value} {xs : List Int} {row : Option Nat} (h : OwnInts lo w v xs) (hg : w.grownBy w' row) (ne : ∀ k, v.ownBlock = some k → some k ≠ row) : OwnInts lo w' v xs := by
  obtain ⟨⟨h1, h2⟩, h3⟩ := h
  refine ⟨⟨h1, ?_⟩, h3⟩
  rcases h2 with hn | ⟨g, cap, cur, rfl, hb, hh, r⟩
  · exact .inl hn
  · exact .inr ⟨g, cap, cur, rfl, hb, by rw [hg.block g ((Array.getElem?_eq_some_iff.1 hh).1) (ne g rfl)]; exact hh, r⟩
theorem OwnInts.setOther {lo : Nat} {w : World} {v : Value} {xs : List Int} (h : OwnInts lo w v xs) {a : Addr} (ne : v.ownBlock ≠ some a.block) (u : Value) : OwnInts lo (w.setCell a u) v xs := ⟨ownsRow_setCell_other h.1 ne u, h.2⟩
theorem OwnInts.fresh0 {lo g : Nat} {w : World} (hl : lo ≤ g) (h : Blk w g 3 []) : OwnInts lo w (.slice (some ⟨g, 0, none⟩) 0 0) [] :=
  ⟨⟨rfl, .inr ⟨g, 0, #[], rfl, hl, h, Nat.le_refl _, Nat.zero_le _, rfl, rfl⟩⟩, fun _ h => by cases h⟩
theorem OwnInts.block {lo : Nat} {w : World} {v : Value} {xs : List Int} (h : OwnInts lo w v xs) {k : Nat} (hk : v.ownBlock = some k) : ∃ cur, w.heap[k]? = some (.cells cur 3 (0, 0)) := by
  obtain ⟨⟨h1, h2⟩, h3⟩ := h
  rcases h2 with ⟨rfl, _⟩ | ⟨g, cap, cur, rfl, hb, hh, r⟩
  · cases hk
  · simp only [Value.ownBlock, Option.some.injEq] at hk
    subst hk
    exact ⟨cur, hh⟩
theorem Ext.gr {w w' : World} (h : Ext w w') (row : Option Nat) : w.grownBy w' row := ⟨h.os, h.tape, h.output, h.size, fun i hi _ => h.block hi⟩
theorem Ext.setNew {w w1 : World} (h : Ext w w1) {b : Nat} (hb : w.heap.size ≤ b) (i : Nat) (u : Value) : Ext w (w1.setCell ⟨b, i, none⟩ u) := h.setCell hb u
end Go.Proofs.YtkcghoeklbcihaaGreatDoor
