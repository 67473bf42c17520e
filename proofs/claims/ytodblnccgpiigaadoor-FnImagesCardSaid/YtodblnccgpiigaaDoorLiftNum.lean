/- This text reads the two sentinel errors of strconv out of what a card lists, and arguments that are strings. -/
import Derived.Test.YtodblnccgpiigaaDoorLiftTex
import Derived.Test.YtodblnccgpiigaaDoorNum2
import Derived.Test.YtodblnccgpiigaaDoorRows
import Derived.Stop.LaidErr
import Derived.LaidLaws
import Derived.ChangeMaps5
namespace Go.Proofs.YtodblnccgpiigaaDoor
open Go.ChangeShapes Go.WideShapes Go.ChangeAt Go.RowKit

theorem starErr : "*" ++ "errors.errorString" = "*errors.errorString" := by decide
theorem rowErr (u : TypeId) (h : Tryd.prog.typeName? 3 u = some "*errors.errorString") : u = 133 :=
  typeName_ptr_named (nm := "errors.errorString") (by rw [starErr]; kernel_rfl) (by kernel_rfl) (by decide) u (by rw [starErr]; exact h)
theorem cellsErr : Tryd.prog.cellsOf 135 = 1 := by kernel_rfl
theorem cellsStr : Tryd.prog.cellsOf 9 = 1 := by kernel_rfl
theorem globRan : Tryd.prog.globalNamed "strconv.ErrRange" = some 2 := by kernel_rfl
theorem globSyn : Tryd.prog.globalNamed "strconv.ErrSyntax" = some 1 := by kernel_rfl
theorem typeRan : (Tryd.prog.globals[2]?).map (·.type) = some 88 := by kernel_rfl
theorem typeSyn : (Tryd.prog.globals[1]?).map (·.type) = some 88 := by kernel_rfl
theorem errs_of {r : List (String × DataW Unit)} {W : World} (h : laidMet Tryd.prog (("strconv.ErrRange", Rows.laid_strconv_ErrRange) :: ("strconv.ErrSyntax", Rows.laid_strconv_ErrSyntax) :: r) W) : Errs W := by
  obtain ⟨a0, s0, hv0, -, -, -⟩ := laid_sentinel h globRan typeRan Tryd.underlying88 rowErr Tryd.underlying133 Tryd.underlying135 rfl rfl Tryd.underlying9 cellsErr cellsStr
  obtain ⟨a1, s1, hv1, -, -, -⟩ := laid_sentinel h.tail globSyn typeSyn Tryd.underlying88 rowErr Tryd.underlying133 Tryd.underlying135 rfl rfl Tryd.underlying9 cellsErr cellsStr
  exact ⟨⟨_, _, hv1⟩, _, _, hv0⟩
section
variable {H : Type} {enc : TypeId × Value → H} {W : World} {base b0 : Nat} {sp : Nat → Bool} {held : Bool}
set_option maxRecDepth 100000 in
theorem argStr {v : Value} {d : DataW H} {p : List MemPlace} (hv : Value.okWide Tryd.prog W .any b0 9 v) (h : DataW.Trod enc Tryd.prog W base sp held 9 v d p) :
    ∃ s : ByteArray, v = .string s ∧ s.size ≤ maxLen := by
  obtain ⟨s, rfl, _, _, hs⟩ := Go.ChangeMaps.open_string Tryd.underlying9 hv h
  exact ⟨s, rfl, hs⟩
end
end Go.Proofs.YtodblnccgpiigaaDoor
