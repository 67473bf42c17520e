/- This text holds the reading of films and images, and when a film is valid and complete: the program's word and the reference's. -/
import Derived.Test.YtkcghoeklbcihaaGreatDoorL15a
import Derived.Test.YtkcghoeklbcihaaGreatDoorFlat
namespace Go.Proofs.YtkcghoeklbcihaaGreatDoor
open Go.RowKit

/-- v reads in w as n booleans, boolean i being f i -/
def Bools (lo hi : Nat) (w : World) (v : Value) (n : Nat) (f : Nat → Bool) : Prop :=
  ∃ a cap, v = .slice a n cap ∧ n ≤ cap ∧ cap ≤ maxLen ∧ ∀ i, i < n → ∃ b off, a = some ⟨b, off, none⟩ ∧ lo ≤ b ∧ b < hi ∧ w.cell? ⟨b, off + i, none⟩ = some (.bool (f i))
theorem Bools.same {lo hi : Nat} {w w' : World} {v : Value} {n : Nat} {f : Nat → Bool} (h : Bools lo hi w v n f) (s : Same lo hi w w') : Bools lo hi w' v n f := by
  obtain ⟨a, cap, h1, h2, h3, h4⟩ := h
  refine ⟨a, cap, h1, h2, h3, fun i hx => ?_⟩
  obtain ⟨b, off, h6, h7, h8, h9⟩ := h4 i hx
  exact ⟨b, off, h6, h7, h8, by rw [s.cell h7 h8]; exact h9⟩
theorem Bools.ext {lo hi : Nat} {w w' : World} {v : Value} {n : Nat} {f : Nat → Bool} (h : Bools lo hi w v n f) (hh : hi ≤ w.heap.size) (e : Ext w w') : Bools lo hi w' v n f := h.same (e.same hh)
/-- what Bools says of a slice whose value is written out -/
structure BoolsAt (lo hi : Nat) (w : World) (a : Option Addr) (cap n : Nat) (f : Nat → Bool) : Prop where
  le : n ≤ cap
  cap : cap ≤ 9223372036854775807
  cell : ∀ i, i < n → ∃ b off, a = some ⟨b, off, none⟩ ∧ lo ≤ b ∧ b < hi ∧ w.cell? ⟨b, off + i, none⟩ = some (.bool (f i))
theorem Bools.open {lo hi : Nat} {w : World} {v : Value} {n : Nat} {f : Nat → Bool} (h : Bools lo hi w v n f) : ∃ a cap, v = .slice a n cap ∧ BoolsAt lo hi w a cap n f := by
  obtain ⟨a, cap, g1, g2, g3, g4⟩ := h
  exact ⟨a, cap, g1, g2, by unfold maxLen at g3; omega, g4⟩

/-- a film: sides, pixels, which of them are done -/
structure Fm where
  (w h : Int) (px : List Int) (n : Nat) (dn : Nat → Bool)
def Fm.R (F : Fm) (lo hi : Nat) (w : World) (v : Value) : Prop := ∃ u d, v = .agg #[.int .i64 F.w, .int .i64 F.h, u, d] ∧ I64 F.w ∧ I64 F.h ∧ Ints lo hi w u F.px ∧ Bools lo hi w d F.n F.dn
theorem Fm.R.same {F : Fm} {lo hi : Nat} {w w' : World} {v : Value} (h : F.R lo hi w v) (s : Same lo hi w w') : F.R lo hi w' v := by
  obtain ⟨u, d, h1, h2, h3, h4, h5⟩ := h
  exact ⟨u, d, h1, h2, h3, h4.same s, h5.same s⟩
theorem Fm.R.ext {F : Fm} {lo hi : Nat} {w w' : World} {v : Value} (h : F.R lo hi w v) (hh : hi ≤ w.heap.size) (e : Ext w w') : F.R lo hi w' v := h.same (e.same hh)
/-- pixel k is done or zero -/
def Fm.good (F : Fm) (k : Nat) : Bool := F.dn k || decide (F.px.getD k 0 = 0)
def Fm.okB (F : Fm) : Bool := inB F.w 1 12 && inB F.h 1 12 && decide ((F.px.length : Int) = F.w * F.h) && decide ((F.n : Int) = F.w * F.h) && F.px.all (fun n => inB n 0 256) && (List.range F.n).all F.good
def Fm.done (F : Fm) : Bool := F.okB && (List.range F.n).all F.dn
theorem prod_bd {a b : Int} (h1 : inB a 1 12 = true) (h2 : inB b 1 12 = true) : 1 ≤ a * b ∧ a * b ≤ 144 := by
  rw [inB_iff] at h1 h2
  have h3 : 0 ≤ (a - 1) * (b - 1) := Int.mul_nonneg (by omega) (by omega)
  have h4 : 0 ≤ (12 - a) * (b - 1) := Int.mul_nonneg (by omega) (by omega)
  have e3 : (a - 1) * (b - 1) = a * b - a - b + 1 := by rw [Int.sub_mul, Int.mul_sub, Int.mul_one, Int.one_mul]; omega
  have e4 : (12 - a) * (b - 1) = 12 * b - 12 - (a * b - a) := by rw [Int.sub_mul, Int.mul_sub, Int.mul_sub, Int.mul_one, Int.mul_one]
  omega
theorem range_all_take {f : Nat → Bool} {n : Nat} (h : ∀ i, i < n → f i = true) : (List.range n).all f = true := List.all_eq_true.2 fun i hi => h i (List.mem_range.1 hi)
theorem range_all_no {f : Nat → Bool} {n i : Nat} (hi : i < n) (h : f i = false) : (List.range n).all f = false := by
  rw [List.all_eq_false]
  exact ⟨i, List.mem_range.2 hi, by simp [h]⟩

end Go.Proofs.YtkcghoeklbcihaaGreatDoor
