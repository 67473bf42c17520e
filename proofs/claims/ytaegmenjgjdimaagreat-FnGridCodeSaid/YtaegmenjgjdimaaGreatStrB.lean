/- This text holds the reading of slices of strings and their growth by append. -/
import Derived.Test.YtaegmenjgjdimaaGreatEx1
import Derived.Test.YtaegmenjgjdimaaGreatFlat
namespace Go.Proofs.YtaegmenjgjdimaaGreat
open Go.RowKit

/-- v reads in w as the strings xs; its cells lie in the blocks from lo up to hi -/
def Strs (lo hi : Nat) (w : World) (v : Value) (xs : List ByteArray) : Prop :=
  ∃ a cap, v = .slice a xs.length cap ∧ xs.length ≤ cap ∧ cap ≤ maxLen ∧ ∀ i x, xs[i]? = some x → ∃ b off, a = some ⟨b, off, none⟩ ∧ lo ≤ b ∧ b < hi ∧ w.cell? ⟨b, off + i, none⟩ = some (.string x)
theorem Strs.same {lo hi : Nat} {w w' : World} {v : Value} {xs : List ByteArray} (h : Strs lo hi w v xs) (s : Same lo hi w w') : Strs lo hi w' v xs := by
  obtain ⟨a, cap, h1, h2, h3, h4⟩ := h
  refine ⟨a, cap, h1, h2, h3, fun i x hx => ?_⟩
  obtain ⟨b, off, h6, h7, h8, h9⟩ := h4 i x hx
  exact ⟨b, off, h6, h7, h8, by rw [s.cell h7 h8]; exact h9⟩
theorem Strs.ext {lo hi : Nat} {w w' : World} {v : Value} {xs : List ByteArray} (h : Strs lo hi w v xs) (hh : hi ≤ w.heap.size) (e : Ext w w') : Strs lo hi w' v xs := h.same (e.same hh)
structure StrsAt (lo hi : Nat) (w : World) (a : Option Addr) (cap : Nat) (xs : List ByteArray) : Prop where
  le : xs.length ≤ cap
  cap : cap ≤ 9223372036854775807
  cell : ∀ i x, xs[i]? = some x → ∃ b off, a = some ⟨b, off, none⟩ ∧ lo ≤ b ∧ b < hi ∧ w.cell? ⟨b, off + i, none⟩ = some (.string x)
theorem Strs.open {lo hi : Nat} {w : World} {v : Value} {xs : List ByteArray} (h : Strs lo hi w v xs) : ∃ a cap, v = .slice a xs.length cap ∧ StrsAt lo hi w a cap xs := by
  obtain ⟨a, cap, g1, g2, g3, g4⟩ := h
  exact ⟨a, cap, g1, g2, by unfold maxLen at g3; omega, g4⟩
theorem StrsAt.at {lo hi : Nat} {w : World} {a : Option Addr} {cap : Nat} {xs : List ByteArray} (h : StrsAt lo hi w a cap xs) {k : Nat} (hk : k < xs.length) :
    ∃ b off, a = some ⟨b, off, none⟩ ∧ lo ≤ b ∧ b < hi ∧ w.cell? ⟨b, off + k, none⟩ = some (.string xs[k]) := h.cell k xs[k] (by simp [hk])

/-- the slice value v owns, from block lo on, a row that holds the strings xs -/
def OwnStrs (lo : Nat) (w : World) (v : Value) (xs : List ByteArray) : Prop := w.ownsRow lo 9 1 v xs.length (xs.map Value.string)
theorem OwnStrs.strs {lo : Nat} {w : World} {v : Value} {xs : List ByteArray} (h : OwnStrs lo w v xs) : Strs lo w.heap.size w v xs := by
  obtain ⟨h1, h2⟩ := h
  rcases h2 with ⟨rfl, h4⟩ | ⟨g, cap, cur, rfl, hb, hg, hc, hm, hs, ht⟩
  · refine ⟨none, 0, by rw [h4], by omega, by unfold maxLen; omega, fun i x hx => ?_⟩
    have := (List.getElem?_eq_some_iff.1 hx).1
    omega
  · refine ⟨some ⟨g, 0, none⟩, cap, rfl, hc, hm, fun i x hx => ⟨g, 0, rfl, hb, (Array.getElem?_eq_some_iff.1 hg).1, ?_⟩⟩
    have hi := (List.getElem?_eq_some_iff.1 hx).1
    have e : (xs.map Value.string)[i]? = some (.string x) := by simp [hx]
    rw [← ht, List.getElem?_take, if_pos (by omega)] at e
    simp only [World.cell?, hg, Nat.zero_add]
    simpa using e
theorem OwnStrs.nil (lo : Nat) (w : World) : OwnStrs lo w (.slice none 0 0) [] := World.ownsRow_nil _ _ _ _
theorem OwnStrs.lt {lo : Nat} {w : World} {v : Value} {xs : List ByteArray} (h : OwnStrs lo w v xs) : ∀ k, v.ownBlock = some k → lo ≤ k ∧ k < w.heap.size := World.ownsRow.lt h
theorem OwnStrs.kept {lo : Nat} {w w' : World} {v : Value} {xs : List ByteArray} (h : OwnStrs lo w v xs) (s : Same lo w.heap.size w w') : OwnStrs lo w' v xs := by
  obtain ⟨h1, h2⟩ := h
  refine ⟨h1, ?_⟩
  rcases h2 with hn | ⟨g, cap, cur, hv, hb, hg, r⟩
  · exact .inl hn
  · exact .inr ⟨g, cap, cur, hv, hb, by rw [s g hb (Array.getElem?_eq_some_iff.1 hg).1]; exact hg, r⟩
theorem OwnStrs.ext {lo : Nat} {w w' : World} {v : Value} {xs : List ByteArray} (h : OwnStrs lo w v xs) (e : Ext w w') : OwnStrs lo w' v xs := h.kept (e.same (Nat.le_refl _))
theorem OwnStrs.form {lo : Nat} {w : World} {v : Value} {xs : List ByteArray} (h : OwnStrs lo w v xs) : ∃ a cap, v = .slice a xs.length cap ∧ xs.length ≤ 9223372036854775807 := by
  obtain ⟨h1, h2⟩ := h
  rcases h2 with ⟨rfl, h4⟩ | ⟨g, cap, cur, rfl, hb, hg, hc, hm, hs, ht⟩
  · exact ⟨none, 0, by rw [h4], by omega⟩
  · exact ⟨some ⟨g, 0, none⟩, cap, rfl, by unfold maxLen at hm; omega⟩
theorem OwnStrs.low {lo lo' : Nat} {w : World} {v : Value} {xs : List ByteArray} (h : OwnStrs lo w v xs) (hl : lo' ≤ lo) : OwnStrs lo' w v xs := by
  obtain ⟨h1, h2⟩ := h
  refine ⟨h1, ?_⟩
  rcases h2 with hn | ⟨g, cap, cur, hv, hb, r⟩
  · exact .inl hn
  · exact .inr ⟨g, cap, cur, hv, by omega, r⟩
theorem info_string : (Tryz.prog.info? 9).map (fun i => (i.zero, i.size, i.bytes)) = some (some (.string ⟨#[]⟩), 1, 16) := by kernel_rfl

/-- append of one string to an owned row -/
theorem wpList_append_str (w : World) {ops : Array Oper} {rest : List Oper} {o : Oper} {a : Act} {Q : Exit → Act → World → Prop} (hg : o.guard = none) (s x : Operand)
    (hop : o.op = Op.call { callee := Callee.builtin Builtin.append, args := #[s, x], argTypes := #[42, 42] }) (lo : Nat) (v : Value) (xs : List ByteArray) (hs : a.eval s = v) (hown : OwnStrs lo w v xs)
    (y : ByteArray) (b : Nat) (hx : a.eval x = .slice (some ⟨b, 0, none⟩) 1 1) (hcell : w.cell? ⟨b, 0, none⟩ = some (.string y)) (hlen : xs.length < 1000000000) (hlo : lo ≤ w.heap.size)
    (hK : ∀ v' w', OwnStrs lo w' v' (xs ++ [y]) → w.grownBy w' v.ownBlock → wpList Tryz.prog ops Q rest (a.put o.dst v') w') : wpList Tryz.prog ops Q (o :: rest) a w := by
  obtain ⟨i0, hi0, hz0, hz1, hz2⟩ := info_parts info_string
  refine wpList_append_own w hg s x 42 hop lo 9 i0 (.string ⟨#[]⟩) 1 16 Tryz.underlying42 hi0 hz0 hz1 hz2 rfl (by decide) v xs.length _ hs hown ⟨b, 0, none⟩ 1 1 [.string y] hx rfl ?_ ?_ ?_ ?_ hlo ?_
  · intro j u hj
    match j, hj with
    | 0, hj => simp at hj; subst hj; exact hcell
  · intro u hu; simp at hu; subst hu; rfl
  · unfold maxLen; omega
  · omega
  · intro v' w1 hown' hgrow _
    refine hK v' w1 ?_ hgrow
    unfold OwnStrs
    simpa using hown'
end Go.Proofs.YtaegmenjgjdimaaGreat
