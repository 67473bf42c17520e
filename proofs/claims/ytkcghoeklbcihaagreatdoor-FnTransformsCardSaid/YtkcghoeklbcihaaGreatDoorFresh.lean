/- This text holds a law for the store of a whole value into a block that was just made: in one step. -/
import Derived.Test.YtkcghoeklbcihaaGreatDoorBase
import Derived.Great.BuildSlice
import Derived.Deep.OwnRows
namespace Go.Proofs.YtkcghoeklbcihaaGreatDoor
open Go.RowKit

theorem setRow_alloc (w : World) (zs cs : Array Value) (t : TypeId) : (w.alloc (.cells zs t)).setRow w.heap.size cs = w.alloc (.cells cs t) := by
  unfold World.setRow World.alloc
  congr 1
  apply Array.ext_getElem?
  intro k
  simp only [Array.getElem?_modify, Array.getElem?_push]
  by_cases hk : k = w.heap.size
  · subst hk; simp
  · simp [hk, Ne.symm hk]
/-- '*p = v', p the block made last -/
theorem wpList_store_fresh {P : Program} {ops : Array Oper} {rest : List Oper} {o : Oper} {a : Act} {Q : Exit → Act → World → Prop} (w0 : World) (zs : Array Value) (t : TypeId) (hgd : o.guard = none) (ty : TypeId) (x y : Operand) (ho : o.op = .store ty x y)
    (hd : o.dst = none) (cells : Array Value) (N : Nat) (hN : w0.heap.size = N) (hx : a.eval x = .pointer (some ⟨N, 0, none⟩)) (hy : a.eval y = .agg cells)
    (hi : (P.info? ty).map (·.size) = some cells.size) (hold : zs.size = cells.size) (h1 : cells.all (·.oneCell') = true)
    (h : wpList P ops Q rest a (w0.alloc (.cells cells t))) : wpList P ops Q (o :: rest) a (w0.alloc (.cells zs t)) := by
  subst hN
  refine wpList_store_rowTo hgd ty x y ho hd w0.heap.size cells hx hy t zs (Go.Deep.blk_alloc_new _ _) hi hold h1 ?_
  rw [setRow_alloc]
  exact h
end Go.Proofs.YtkcghoeklbcihaaGreatDoor
