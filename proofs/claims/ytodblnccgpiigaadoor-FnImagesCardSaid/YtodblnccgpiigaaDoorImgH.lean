/- This text proves what the program's FlipImage hands back for a valid image: every row reversed. -/
import Derived.Test.YtodblnccgpiigaaDoorImgF
import Derived.Test.YtodblnccgpiigaaDoorPgm2
import Derived.Test.YtodblnccgpiigaaDoorPlan
import Derived.Test.YtodblnccgpiigaaDoorImgW
namespace Go.Proofs.YtodblnccgpiigaaDoor
open Go.RowKit

/-- the first k rows of W numbers reversed -/
def flipR (W : Nat) : Nat → List Int → List Int
  | 0, l => l
  | k + 1, l => (l.take W).reverse ++ flipR W k (l.drop W)
theorem flipR_length (W : Nat) : ∀ (k : Nat) (l : List Int), (flipR W k l).length = l.length
  | 0, _ => rfl
  | k + 1, l => by simp [flipR, flipR_length W k, List.length_take]; omega
theorem flipR_twice (W : Nat) : ∀ (k : Nat) (l : List Int), k * W ≤ l.length → flipR W k (flipR W k l) = l
  | 0, _, _ => rfl
  | k + 1, l, h => by
    rw [Nat.add_mul, Nat.one_mul] at h
    have e : ((l.take W).reverse).length = W := by rw [List.length_reverse, List.length_take]; omega
    simp only [flipR]
    rw [List.take_append_of_le_length (by omega), List.take_of_length_le (by omega), List.reverse_reverse, List.drop_left' e, flipR_twice W k _ (by rw [List.length_drop]; omega), List.take_append_drop]
theorem flipR_all {p : Int → Bool} (W : Nat) : ∀ (k : Nat) (l : List Int), (flipR W k l).all p = l.all p
  | 0, _ => rfl
  | k + 1, l => by
    simp only [flipR, List.all_append, List.all_reverse, flipR_all W k]
    rw [← List.all_append, List.take_append_drop]
theorem flipR_drop (W : Nat) : ∀ (k : Nat) (l : List Int), k * W ≤ l.length → (flipR W k l).drop (k * W) = l.drop (k * W)
  | 0, _, _ => rfl
  | k + 1, l, h => by
    rw [Nat.add_mul, Nat.one_mul] at h ⊢
    have e : ((l.take W).reverse).length = W := by rw [List.length_reverse, List.length_take]; omega
    simp only [flipR]
    rw [Nat.add_comm (k * W) W, ← List.drop_drop, List.drop_left' e, flipR_drop W k _ (by rw [List.length_drop]; omega), List.drop_drop]
theorem flipR_succ (W : Nat) : ∀ (k : Nat) (l : List Int), (k + 1) * W ≤ l.length → flipR W (k + 1) l = (flipR W k l).take (k * W) ++ (rowOf l W k).reverse ++ l.drop ((k + 1) * W)
  | 0, l, _ => by simp [flipR, rowOf]
  | k + 1, l, h => by
    have h' := h
    rw [Nat.add_mul, Nat.one_mul, Nat.add_mul, Nat.one_mul] at h'
    have e : ((l.take W).reverse).length = W := by rw [List.length_reverse, List.length_take]; omega
    have ih := flipR_succ W k (l.drop W) (by rw [List.length_drop, Nat.add_mul, Nat.one_mul]; omega)
    have r : rowOf (l.drop W) W k = rowOf l W (k + 1) := by unfold rowOf; rw [List.drop_drop, Nat.add_mul, Nat.one_mul, Nat.add_comm W]
    rw [r, List.drop_drop] at ih
    show (l.take W).reverse ++ flipR W (k + 1) (l.drop W) = _
    rw [ih]
    have t : (flipR W (k + 1) l).take ((k + 1) * W) = (l.take W).reverse ++ (flipR W k (l.drop W)).take (k * W) := by
      simp only [flipR]
      rw [Nat.add_mul, Nat.one_mul, List.take_append, e, List.take_of_length_le (by omega), show k * W + W - W = k * W by omega]
    rw [t, show W + (k + 1) * W = (k + 1 + 1) * W by rw [Nat.add_mul (k + 1) 1 W, Nat.one_mul, Nat.add_comm]]
    simp [List.append_assoc]

/-- cells written one behind the other -/
def setsL : List Int → Nat → List Int → List Int
  | xs, _, [] => xs
  | xs, o, y :: r => setsL (xs.set o y) (o + 1) r
theorem setsL_eq : ∀ (ys xs : List Int) (o : Nat), o + ys.length ≤ xs.length → setsL xs o ys = xs.take o ++ ys ++ xs.drop (o + ys.length)
  | [], xs, o, _ => by simp [setsL]
  | y :: r, xs, o, h => by
    simp only [List.length_cons] at h
    rw [setsL, setsL_eq r _ _ (by simp; omega)]
    have h1 : (xs.set o y).take (o + 1) = xs.take o ++ [y] := by
      rw [List.take_add_one, List.getElem?_set_self (by omega), List.take_set_of_le (by omega)]
      rfl
    have h2 : (xs.set o y).drop (o + 1 + r.length) = xs.drop (o + (y :: r).length) := by
      rw [List.drop_set_of_lt (by omega), List.length_cons, Nat.add_assoc, Nat.add_comm 1]
    rw [h1, h2]
    simp
theorem OwnInts.sets {lo g c : Nat} : ∀ (ys : List Int) {w : World} {xs : List Int} (o n : Nat), OwnInts lo w (.slice (some ⟨g, 0, none⟩) n c) xs → n = xs.length → (∀ y ∈ ys, I64 y) → o + ys.length ≤ xs.length →
    OwnInts lo (w.setCells g o (ys.map (Value.int .i64))) (.slice (some ⟨g, 0, none⟩) n c) (setsL xs o ys) ∧ w.grownBy (w.setCells g o (ys.map (Value.int .i64))) (some g)
  | [], w, xs, o, n, h, _, _, _ => ⟨h, grownBy.refl _ _⟩
  | y :: r, w, xs, o, n, h, hn, hi, hl => by
    simp only [List.length_cons] at hl
    obtain ⟨g', z, e, _, _, _, _, _, hs⟩ := h.at hn (k := o) (by omega)
    simp only [Option.some.injEq, Addr.mk.injEq, and_true] at e
    subst e
    obtain ⟨h1, h2⟩ := hs y (hi y (by simp))
    have ih := OwnInts.sets r (o + 1) n h1 (by rw [List.length_set]; exact hn) (fun q hq => hi q (by simp [hq])) (by rw [List.length_set]; omega)
    simp only [List.map_cons, World.setCells, setsL]
    exact ⟨ih.1, grownBy.trans h2 ih.2⟩
end Go.Proofs.YtodblnccgpiigaaDoor
