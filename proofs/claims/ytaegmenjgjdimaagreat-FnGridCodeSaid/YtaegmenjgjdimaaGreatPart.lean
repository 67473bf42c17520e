/- This text says what the laws' marks leave alone. -/
import Derived.Test.YtaegmenjgjdimaaGreatBase
namespace Go.Proofs.YtaegmenjgjdimaaGreat
open Go.RowKit

/-- the blocks below lo and those from M on are in w' as they were in w -/
structure Part (lo M : Nat) (w w' : World) : Prop where
  size : w.heap.size ≤ w'.heap.size
  low : Below lo w w'
  high : ∀ b, M ≤ b → b < w.heap.size → w'.heap[b]? = w.heap[b]?
theorem Part.ext {lo M : Nat} {W w w' : World} (p : Part lo M w w') (h : Ext W w) (hl : W.heap.size ≤ lo) : Ext W w' := Below.trans h (Below.mono p.low hl)
theorem Part.block {lo M : Nat} {w w' : World} (p : Part lo M w w') {b : Nat} (hb : b < w.heap.size) (h : b < lo ∨ M ≤ b) : w'.heap[b]? = w.heap[b]? := h.elim (fun k => p.low.block b k) (fun k => p.high b k hb)
theorem Part.of {lo M : Nat} {w w' : World} {row : Option Nat} (hg : w.grownBy w' row) (h1 : ∀ k, row = some k → lo ≤ k ∧ k < M) (h2 : lo ≤ w.heap.size) : Part lo M w w' :=
  ⟨hg.size, ⟨hg.os, hg.tape, hg.output, hg.size, fun k hk => hg.block k (by omega) (fun e => by have := (h1 k e.symm).1; omega)⟩, fun b hb hl => hg.block b hl (fun e => by have := (h1 b e.symm).2; omega)⟩
end Go.Proofs.YtaegmenjgjdimaaGreat
