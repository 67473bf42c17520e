/- This text proves that an image is read back from its text. -/
import Derived.Test.YtodblnccgpiigaaDoorImgH
namespace Go.Proofs.YtodblnccgpiigaaDoor
open Go.RowKit

theorem nums_row {xs : List Int} (hne : xs ≠ []) (hr : ∀ x ∈ xs, 0 ≤ x ∧ x ≤ 256) : numsOf (joinB (xs.map fmtT) spB) = xs := by
  have e := splitB_joined (d := 32) (xs.map fmtT) (by simpa using hne) (fun x hx => by
    obtain ⟨n, _, rfl⟩ := List.mem_map.1 hx
    exact fmtT_clean32 n)
  unfold numsOf
  rw [show spB = ⟨#[32]⟩ from rfl, e, List.map_map]
  conv => rhs; rw [← List.map_id xs]
  refine List.map_congr_left fun x hx => ?_
  have hi : inB x (-1000000000) 1000000000 = true := by have := hr x hx; rw [inB_iff]; omega
  show (parseO (fmtT x)).getD 0 = x
  rw [fmtT_of hi, parseO_fmt hi]
  rfl
theorem rows_flat (W : Nat) (px : List Int) : ∀ k, (List.range k).flatMap (rowOf px W) = px.take (k * W)
  | 0 => by simp
  | k + 1 => by
    rw [List.range_succ, List.flatMap_append, rows_flat W px k, Nat.add_mul, Nat.one_mul, List.take_add]
    simp [rowOf]
theorem picS_text {I : Pic} (h : I.okB = true) : picS I.text = I ∧ 4 ≤ (linesB I.text).length ∧ I.text.size ≤ 1048576 := by
  obtain ⟨W, H, e, hW, hH1, hH, hl, hlines⟩ := text_lines h
  obtain ⟨W', H', e', hW', _, _⟩ := Pic.ok_shape h
  have eW : W = W' := by
    have h1 := congrArg Pic.w e
    have h2 := congrArg Pic.w e'
    have h3 : (W : Int) = (W' : Int) := h1.symm.trans h2
    omega
  have hn := nums_two hW hH
  have h1 : (linesB I.text).getD 1 ⟨#[]⟩ = joinB [fmtT W, fmtT H] spB := by rw [hlines]; rfl
  have hall : ∀ x ∈ I.px, 0 ≤ x ∧ x ≤ 256 := by
    intro x hx
    unfold Pic.okB at h
    simp only [Bool.and_eq_true] at h
    exact inB_iff.1 (List.all_eq_true.1 h.1 x hx)
  have hpx : pxS (linesB I.text) = I.px := by
    unfold pxS
    rw [hlines]
    have e1 : (linesL I.px W H H).drop 3 = (List.range H).map (lineL I.px W) := by simp [linesL, headL]
    rw [e1, List.flatMap_map]
    have e2 : (List.range H).flatMap (fun y => numsOf (lineL I.px W y)) = (List.range H).flatMap (rowOf I.px W) := by
      rw [List.flatMap_def, List.flatMap_def]
      congr 1
      refine List.map_congr_left fun y hy => ?_
      have hy := List.mem_range.1 hy
      have hb : (y + 1) * W ≤ I.px.length := by rw [hl]; exact Nat.mul_le_mul_right _ hy
      unfold lineL
      refine nums_row (fun e0 => ?_) (fun x hx => hall x (List.mem_of_mem_drop (List.mem_of_mem_take hx)))
      have := rowOf_length hb
      rw [e0] at this
      simp at this
      omega
    rw [e2, rows_flat, List.take_of_length_le (by omega)]
  refine ⟨?_, by rw [hlines, linesL_length]; omega, ?_⟩
  · unfold picS
    rw [h1, hn, hpx]
    conv => rhs; rw [e]
    rfl
  · have et : I.text = pgmB I.px W H := by
      unfold Pic.text
      rw [if_pos h, e]
      simp
    have hs := joinB_size (linesL I.px W H H) nlB 300 (linesL_size hW) (by decide)
    rw [linesL_length] at hs
    rw [et]
    unfold pgmB
    rw [ByteArray.size_append]
    have : nlB.size = 1 := rfl
    omega
theorem resI_text {I : Pic} (h : I.okB = true) : resI I.text = (I, true) := by
  obtain ⟨h1, h2, _⟩ := picS_text h
  rw [res_same]
  unfold resS
  rw [h1, if_pos ⟨h2, rfl, text_size h⟩]
end Go.Proofs.YtodblnccgpiigaaDoor
