/- This text proves what the reference's ParseImage hands back. -/
import Derived.Test.YtkcghoeklbcihaaGreatDoorImgL
import Derived.Test.YtkcghoeklbcihaaGreatDoorNum3
import Derived.Test.YtkcghoeklbcihaaGreatDoorBlk
namespace Go.Proofs.YtkcghoeklbcihaaGreatDoor
open Go.RowKit

theorem splitL_total (p : UInt8 → Bool) (l : List UInt8) : ((splitL p l).map fun x => x.length + 1).sum = l.length + 1 := by
  induction l with
  | nil => simp [splitL]
  | cons c r ih =>
    unfold splitL
    split
    · simp only [List.map_cons, List.sum_cons, ih, List.length_cons, List.length_nil]; omega
    · obtain ⟨h, t, e⟩ := splitL_ne p r
      rw [e] at ih ⊢
      simp only [glue, List.map_cons, List.sum_cons, List.length_cons, List.singleton_append] at ih ⊢
      omega
/-- how much room strings take -/
def wt (L : List ByteArray) : Nat := (L.map fun x => x.size + 1).sum
theorem wt_split (p : UInt8 → Bool) (s : ByteArray) : wt (splitB p s) = s.size + 1 := by
  have h := splitL_total p s.data.toList
  have e : s.data.toList.length = s.size := by simp
  rw [e] at h
  rw [← h]
  unfold wt splitB
  rw [List.map_map]
  congr 1
theorem wt_append (a b : List ByteArray) : wt (a ++ b) = wt a + wt b := by simp [wt]
theorem wt_lines (s : ByteArray) : wt (linesB s) ≤ s.size + 1 := by
  rw [← wt_split (inSep ⟨#[10]⟩) s]
  unfold linesB
  split
  · obtain ⟨x, hx⟩ : ∃ x, splitB (inSep ⟨#[10]⟩) s = (splitB (inSep ⟨#[10]⟩) s).dropLast ++ [x] := by
      have hne : splitB (inSep ⟨#[10]⟩) s ≠ [] := fun e => by have := splitB_ne (inSep ⟨#[10]⟩) s; rw [e] at this; simp at this
      exact ⟨_, (List.dropLast_concat_getLast hne).symm⟩
    conv => rhs; rw [hx, wt_append]
    omega
  · exact Nat.le_refl _
theorem wt_take (L : List ByteArray) (k : Nat) : wt (L.take k) ≤ wt L := by
  conv => rhs; rw [← List.take_append_drop k L, wt_append]
  omega
theorem wt_drop (L : List ByteArray) (k : Nat) : wt (L.drop k) ≤ wt L := by
  conv => rhs; rw [← List.take_append_drop k L, wt_append]
  omega
theorem nums_wt (L : List ByteArray) : (L.flatMap numsOf).length ≤ wt L := by
  induction L with
  | nil => simp
  | cons x r ih =>
    have h1 : (numsOf x).length ≤ x.size + 1 := by unfold numsOf; rw [List.length_map]; exact splitB_length _ x
    have h2 : wt (x :: r) = (x.size + 1) + wt r := by simp [wt]
    rw [List.flatMap_cons, List.length_append]
    omega

/-- the numbers read behind k lines of M and j words of line k -/
noncomputable def pxAt (M : List ByteArray) (k j : Nat) : List Int := (M.take k).flatMap numsOf ++ (numsOf (M.getD k ⟨#[]⟩)).take j
theorem getD_of {M : List ByteArray} {k : Nat} (hk : k < M.length) : M.getD k ⟨#[]⟩ = M[k] := by rw [List.getD_eq_getElem?_getD, List.getElem?_eq_getElem hk, Option.getD_some]
theorem pxAt_zero (M : List ByteArray) : pxAt M 0 0 = [] := by simp [pxAt]
theorem pxAt_next {M : List ByteArray} {k n : Nat} (hk : k < M.length) (hn : (numsOf (M.getD k ⟨#[]⟩)).length = n) : pxAt M k n = pxAt M (k + 1) 0 := by
  unfold pxAt
  rw [← hn, List.take_length, List.take_succ_eq_append_getElem hk, List.flatMap_append, getD_of hk]
  simp
theorem pxAt_all {M : List ByteArray} {n : Nat} (hn : M.length = n) : pxAt M n 0 = M.flatMap numsOf := by
  unfold pxAt
  rw [← hn, List.take_length]
  simp
theorem pxAt_snoc {M : List ByteArray} {k j : Nat} {n : Int} (h : (numsOf (M.getD k ⟨#[]⟩))[j]? = some n) : pxAt M k j ++ [n] = pxAt M k (j + 1) := by
  unfold pxAt
  rw [List.take_add_one, h, List.append_assoc]
  rfl
theorem pxAt_len {M : List ByteArray} {k j : Nat} (hk : k < M.length) : (pxAt M k j).length ≤ wt M + wt M := by
  unfold pxAt
  rw [List.length_append]
  have h1 := Nat.le_trans (nums_wt (M.take k)) (wt_take _ _)
  have h2 : (numsOf M[k]).length ≤ M[k].size + 1 := by unfold numsOf; rw [List.length_map]; exact splitB_length _ _
  have h3 : M[k].size + 1 ≤ wt M := by
    conv => rhs; rw [← List.take_append_drop k M, wt_append, List.drop_eq_getElem_cons hk, show M[k] :: M.drop (k + 1) = [M[k]] ++ M.drop (k + 1) from rfl, wt_append]
    have : wt [M[k]] = M[k].size + 1 := by simp [wt]
    omega
  rw [getD_of hk, List.length_take]
  have h4 := Nat.min_le_right j (numsOf M[k]).length
  omega

theorem Strs.drop {lo hi : Nat} {w : World} {b off cap n : Nat} {xs : List ByteArray} (h : StrsAt lo hi w (some ⟨b, off, none⟩) cap xs) (k : Nat) (hk : k ≤ xs.length) (hn : n = xs.length - k) : Strs lo hi w (.slice (some ⟨b, off + k, none⟩) n (cap - k)) (xs.drop k) := by
  have l1 := h.le
  have l2 := h.cap
  subst hn
  refine ⟨some ⟨b, off + k, none⟩, cap - k, by rw [List.length_drop], by rw [List.length_drop]; omega, by unfold maxLen; omega, fun i x hx => ?_⟩
  rw [List.getElem?_drop] at hx
  obtain ⟨b', off', e, h2, h3, h4⟩ := h.cell _ _ hx
  simp only [Option.some.injEq, Addr.mk.injEq, and_true] at e
  obtain ⟨rfl, rfl⟩ := e
  exact ⟨b, off + k, rfl, h2, h3, by rw [Nat.add_assoc]; exact h4⟩
end Go.Proofs.YtkcghoeklbcihaaGreatDoor
