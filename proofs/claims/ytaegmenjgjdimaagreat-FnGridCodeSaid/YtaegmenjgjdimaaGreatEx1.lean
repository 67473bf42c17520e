/- This text proves what the law's helper functions over integer slices compute. -/
import Derived.Test.YtaegmenjgjdimaaGreatBase
import Derived.Test.YtaegmenjgjdimaaGreatRows
namespace Go.Proofs.YtaegmenjgjdimaaGreat
open Go.RowKit

theorem info_int : (Tryz.prog.info? 3).map (fun i => (i.zero, i.size, i.bytes)) = some (some (.int .i64 0), 1, 8) := by kernel_rfl

theorem made_ints (n : Nat) : (madeCells #[Value.int .i64 0] n).toList = (List.replicate n (0 : Int)).map (Value.int .i64) := by
  apply List.ext_getElem?
  intro i
  by_cases h : i < n
  · simp [madeCells, h]
    rw [Nat.mod_one]
    rfl
  · simp [madeCells, h]

/-- the first k of xs, then zeros: what a copy of xs holds after k rounds -/
def fillTo (xs : List Int) (k : Nat) : List Int := xs.take k ++ List.replicate (xs.length - k) 0
theorem fillTo_length (xs : List Int) (k : Nat) (h : k ≤ xs.length) : (fillTo xs k).length = xs.length := by simp [fillTo]; omega
theorem fillTo_zero (xs : List Int) : fillTo xs 0 = List.replicate xs.length 0 := by simp [fillTo]
theorem fillTo_all (xs : List Int) : fillTo xs xs.length = xs := by simp [fillTo]
theorem fillTo_succ (xs : List Int) (k : Nat) (h : k < xs.length) : (fillTo xs k).set k xs[k] = fillTo xs (k + 1) := by
  unfold fillTo
  rw [show xs.length - k = (xs.length - (k + 1)) + 1 from by omega, List.replicate_succ, List.set_append_right _ _ (by rw [List.length_take]; omega), List.length_take, Nat.min_eq_left (Nat.le_of_lt h), Nat.sub_self, List.set_cons_zero, List.take_succ_eq_append_getElem h, List.append_assoc]
  rfl

/-- the numbers k, k+1, .. -/
def upFrom (k : Int) (n : Nat) : List Int := (List.range n).map (fun i : Nat => k + (i : Int))

/-- what held answers at a list that should hold k, k+1, .. -/
def heldRes (xs : List Int) (k : Int) : Int := if xs = upFrom k xs.length then k + xs.length else -1

theorem upFrom_length (k : Int) (n : Nat) : (upFrom k n).length = n := by simp [upFrom]
theorem upFrom_succ (k : Int) (n : Nat) : upFrom k (n + 1) = upFrom k n ++ [k + n] := by simp [upFrom, List.range_succ]
theorem mark_step (k0 : Int) (xs : List Int) (k : Nat) (h : k < xs.length) : (upFrom k0 k ++ xs.drop k).set k (k0 + k) = upFrom k0 (k + 1) ++ xs.drop (k + 1) := by
  rw [List.set_append_right _ _ (by rw [upFrom_length]; omega), upFrom_length, Nat.sub_self, List.drop_eq_getElem_cons h, List.set_cons_zero, upFrom_succ, List.append_assoc]
  rfl

/-- append of one integer to an owned row -/
theorem wpList_append1 (w : World) {ops : Array Oper} {rest : List Oper} {o : Oper} {a : Act} {Q : Exit → Act → World → Prop} (hg : o.guard = none) (s x : Operand)
    (hop : o.op = Op.call { callee := Callee.builtin Builtin.append, args := #[s, x], argTypes := #[29, 29] }) (lo : Nat) (v : Value) (xs : List Int) (hs : a.eval s = v) (hown : OwnInts lo w v xs)
    (y : Int) (hy : I64 y) (b : Nat) (hx : a.eval x = .slice (some ⟨b, 0, none⟩) 1 1) (hcell : w.cell? ⟨b, 0, none⟩ = some (.int .i64 y)) (hlen : xs.length < 1000000000) (hlo : lo ≤ w.heap.size)
    (hK : ∀ v' w', OwnInts lo w' v' (xs ++ [y]) → w.grownBy w' v.ownBlock → wpList Tryz.prog ops Q rest (a.put o.dst v') w') : wpList Tryz.prog ops Q (o :: rest) a w := by
  obtain ⟨i0, hi0, hz0, hz1, hz2⟩ := info_parts info_int
  refine wpList_append_own w hg s x 29 hop lo 3 i0 (.int .i64 0) 1 8 Tryz.underlying29 hi0 hz0 hz1 hz2 rfl (by decide) v xs.length _ hs hown.1 ⟨b, 0, none⟩ 1 1 [.int .i64 y] hx rfl ?_ ?_ ?_ ?_ hlo ?_
  · intro j u hj
    match j, hj with
    | 0, hj => simp at hj; subst hj; exact hcell
  · intro u hu; simp at hu; subst hu; rfl
  · unfold maxLen; omega
  · omega
  · intro v' w1 hown' hgrow _
    refine hK v' w1 ⟨by simpa using hown', fun z hz => ?_⟩ hgrow
    rcases List.mem_append.1 hz with h | h
    · exact hown.2 z h
    · simp at h; rw [h]; exact hy

end Go.Proofs.YtaegmenjgjdimaaGreat
