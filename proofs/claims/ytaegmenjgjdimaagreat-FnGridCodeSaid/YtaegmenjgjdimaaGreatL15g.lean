/- This text proves what the reference's mip levels compute, and the program's exported ones. -/
import Derived.Test.YtaegmenjgjdimaaGreatL15f
namespace Go.Proofs.YtaegmenjgjdimaaGreat
open Go.RowKit

/-- append of a row of integers to an owned row -/
theorem wpList_append_ints (w : World) {ops : Array Oper} {rest : List Oper} {o : Oper} {a : Act} {Q : Exit → Act → World → Prop} (hg : o.guard = none) (s x : Operand)
    (hop : o.op = Op.call { callee := Callee.builtin Builtin.append, args := #[s, x], argTypes := #[29, 29] }) (lo : Nat) (v : Value) (xs ys : List Int) (hs : a.eval s = v) (hown : OwnInts lo w v xs)
    (b off cap : Nat) (hx : a.eval x = .slice (some ⟨b, off, none⟩) ys.length cap) (hcell : ∀ i y, ys[i]? = some y → I64 y ∧ w.cell? ⟨b, off + i, none⟩ = some (.int .i64 y)) (hlen : xs.length + ys.length < 1000000000) (hlo : lo ≤ w.heap.size)
    (hK : ∀ v' w', OwnInts lo w' v' (xs ++ ys) → w.grownBy w' v.ownBlock → wpList Tryz.prog ops Q rest (a.put o.dst v') w') : wpList Tryz.prog ops Q (o :: rest) a w := by
  obtain ⟨i0, hi0, hz0, hz1, hz2⟩ := info_parts info_int
  refine wpList_append_own w hg s x 29 hop lo 3 i0 (.int .i64 0) 1 8 Tryz.underlying29 hi0 hz0 hz1 hz2 rfl (by decide) v xs.length _ hs hown.1 ⟨b, off, none⟩ ys.length cap (ys.map (Value.int .i64)) hx (by simp) ?_ ?_ ?_ ?_ hlo ?_
  · intro j u hj
    rw [List.getElem?_map] at hj
    cases hyj : ys[j]? with
    | none => rw [hyj] at hj; cases hj
    | some y =>
      rw [hyj] at hj
      simp only [Option.map_some, Option.some.injEq] at hj
      subst hj
      rw [add_none]
      exact (hcell j y hyj).2
  · intro u hu
    obtain ⟨y, _, rfl⟩ := List.mem_map.1 hu
    rfl
  · unfold maxLen; omega
  · omega
  · intro v' w1 hown' hgrow _
    refine hK v' w1 ⟨by simpa using hown', fun z hz => ?_⟩ hgrow
    rcases List.mem_append.1 hz with h | h
    · exact hown.2 z h
    · obtain ⟨i, hi⟩ := List.getElem?_of_mem h
      exact (hcell i z hi).1

theorem heap_alloc_new (w : World) (o : Obj) : (w.alloc o).heap[w.heap.size]? = some o := by show (w.heap.push o)[w.heap.size]? = _; simp
theorem OwnInts.empty {lo : Nat} {w : World} {g : Nat} (hl : lo ≤ g) (hg : w.heap[g]? = some (.cells #[] 3)) : OwnInts lo w (.slice (some ⟨g, 0, none⟩) 0 0) [] :=
  ⟨⟨rfl, .inr ⟨g, 0, #[], rfl, hl, hg, Nat.le_refl _, Nat.zero_le _, rfl, rfl⟩⟩, fun _ h => by cases h⟩
theorem OwnInts.notBox {lo : Nat} {w : World} {v : Value} {xs : List Int} {A : Nat} {cs : Array Value} {T : TypeId} {fr : Nat × Nat} (h : OwnInts lo w v xs) (hA : w.heap[A]? = some (.cells cs T fr)) (hT : T ≠ 3) : v.ownBlock ≠ some A := by
  intro e
  rcases h.1.2 with ⟨rfl, _⟩ | ⟨g, cap, cur, rfl, _, hg, _⟩
  · cases e
  · simp only [Value.ownBlock, Option.some.injEq] at e
    subst e
    rw [hg] at hA
    simp only [Option.some.injEq, Obj.cells.injEq] at hA
    exact hT hA.2.1.symm

end Go.Proofs.YtaegmenjgjdimaaGreat
