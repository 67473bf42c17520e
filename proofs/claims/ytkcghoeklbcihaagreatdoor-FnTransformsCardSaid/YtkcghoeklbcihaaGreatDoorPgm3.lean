/- This text proves what the program's FormatImage hands back. -/
import Derived.Test.YtkcghoeklbcihaaGreatDoorPgm2
namespace Go.Proofs.YtkcghoeklbcihaaGreatDoor
open Go.RowKit

/-- box B holds a value of three cells -/
structure PBox (w : World) (B : Nat) (a b c : Value) : Prop where
  lt : B < w.heap.size
  c0 : w.cell? ⟨B, 0, none⟩ = some a
  c1 : w.cell? ⟨B, 1, none⟩ = some b
  c2 : w.cell? ⟨B, 2, none⟩ = some c
theorem PBox.at {w w' : World} {B : Nat} {a b c : Value} (h : PBox w B a b c) (hz : w.heap.size ≤ w'.heap.size) (s : w'.heap[B]? = w.heap[B]?) : PBox w' B a b c :=
  ⟨Nat.lt_of_lt_of_le h.lt hz, (World.cell?_of_block (w := w) s).trans h.c0, (World.cell?_of_block (w := w) s).trans h.c1, (World.cell?_of_block (w := w) s).trans h.c2⟩
theorem PBox.ext {w w' : World} {B : Nat} {a b c : Value} (h : PBox w B a b c) (e : Ext w w') : PBox w' B a b c := h.at e.size (e.block h.lt)
theorem PBox.made (w : World) (a b c : Value) (ty : TypeId) : PBox (w.alloc (.cells #[a, b, c] ty)) w.heap.size a b c := ⟨by simp, by simp [go_sem], by simp [go_sem], by simp [go_sem]⟩

theorem OwnStrs.built {lo : Nat} {w : World} {g n : Nat} {xs : List ByteArray} (hl : lo ≤ g) (hn : xs.length = n) (hm : n ≤ 1000000) (hg : w.heap[g]? = some (.cells (xs.map Value.string).toArray 9)) : OwnStrs lo w (.slice (some ⟨g, 0, none⟩) n n) xs := by
  subst hn
  exact ⟨by simp, .inr ⟨g, xs.length, _, rfl, hl, hg, Nat.le_refl _, by unfold maxLen; omega, by simp, by rw [Nat.mul_one]; exact List.take_of_length_le (by simp)⟩⟩
theorem ints_two {lo : Nat} {w : World} {g : Nat} {a b : Int} (hl : lo ≤ g) (ha : I64 a) (hb : I64 b) (hg : w.heap[g]? = some (.cells #[.int .i64 a, .int .i64 b] 3)) : Ints lo w.heap.size w (.slice (some ⟨g, 0, none⟩) 2 2) [a, b] := by
  have hlt : g < w.heap.size := (Array.getElem?_eq_some_iff.1 hg).1
  refine ⟨some ⟨g, 0, none⟩, 2, rfl, Nat.le_refl _, by unfold maxLen; omega, fun i x hx => ?_⟩
  match i, hx with
  | 0, hx => simp at hx; subst hx; exact ⟨ha, g, 0, rfl, hl, hlt, by simp [World.cell?, hg]⟩
  | 1, hx => simp at hx; subst hx; exact ⟨hb, g, 0, rfl, hl, hlt, by simp [World.cell?, hg]⟩

def nlB : ByteArray := ⟨#[10]⟩
def lineL (px : List Int) (W y : Nat) : ByteArray := joinB ((rowOf px W y).map fmtT) spB
def headL (W H : Nat) : List ByteArray := [⟨#[80, 50]⟩, joinB [fmtT W, fmtT H] spB, ⟨#[50, 53, 54]⟩]
def linesL (px : List Int) (W H k : Nat) : List ByteArray := headL W H ++ (List.range k).map (lineL px W)
def pgmB (px : List Int) (W H : Nat) : ByteArray := joinB (linesL px W H H) nlB ++ nlB
theorem linesL_length (px : List Int) (W H k : Nat) : (linesL px W H k).length = k + 3 := by simp [linesL, headL]
theorem linesL_succ (px : List Int) (W H k : Nat) : linesL px W H k ++ [lineL px W k] = linesL px W H (k + 1) := by simp [linesL, List.range_succ]
theorem join_fmt_size (xs : List Int) (h : xs.length ≤ 12) : (joinB (xs.map fmtT) spB).size ≤ 300 := by
  have := joinB_size (xs.map fmtT) spB 11 (fun x hx => by obtain ⟨n, _, rfl⟩ := List.mem_map.1 hx; exact fmtT_size n) (by decide)
  rw [List.length_map] at this
  omega
theorem lineL_size {px : List Int} {W y : Nat} (hW : W ≤ 12) : (lineL px W y).size ≤ 300 := join_fmt_size _ (by unfold rowOf; rw [List.length_take]; omega)
theorem linesL_size {px : List Int} {W H k : Nat} (hW : W ≤ 12) : ∀ x ∈ linesL px W H k, x.size ≤ 300 := by
  intro x hx
  rcases List.mem_append.1 hx with h | h
  · simp only [headL, List.mem_cons, List.not_mem_nil, or_false] at h
    rcases h with rfl | rfl | rfl
    · decide
    · exact join_fmt_size [(W : Int), (H : Int)] (by simp)
    · decide
  · obtain ⟨y, _, rfl⟩ := List.mem_map.1 h
    exact lineL_size hW

end Go.Proofs.YtkcghoeklbcihaaGreatDoor
