/- This text reads the laws' arguments that are vectors and slices of transforms. -/
import Derived.Test.YteeclghkfcanlaaLeaf
import Derived.Test.YteeclghkfcanlaaLiftTex
namespace Go.Proofs.Yteeclghkfcanlaa
open Go.ChangeShapes Go.WideShapes Go.ChangeAt Go.RowKit
section
variable {H : Type} {enc : TypeId × Value → H} {W : World} {base b0 : Nat} {sp : Nat → Bool} {held : Bool}

set_option maxRecDepth 100000 in
theorem argVec {v : Value} {d : DataW H} {p : List MemPlace} (hv : Value.okWide Try.prog W .any b0 24 v) (h : DataW.Trod enc Try.prog W base sp held 24 v d p) : ∃ x y z, v = .agg #[.int .i64 x, .int .i64 y, .int .i64 z] := by
  obtain ⟨f, rfl, _⟩ := argAgg (k := 3) Try.underlying24 Try.underlying3 (by kernel_rfl) hv h
  exact ⟨f 0, f 1, f 2, by simp [← Array.toList_inj, List.range_succ]⟩
set_option maxRecDepth 100000 in
theorem argXfs {v : Value} {d : DataW H} {p : List MemPlace} (hv : Value.okWide Try.prog W .any b0 22 v) (h : DataW.Trod enc Try.prog W base sp held 22 v d p) : ∃ n f, Flats 12 0 W.heap.size W v n f := by
  obtain ⟨a, len, cap, rfl⟩ := okWide_slice Try.underlying22 hv
  obtain ⟨fuel, hf⟩ := h
  exact cellFlats Try.underlying22 Try.underlying3 (by kernel_rfl) (by decide) hf
end
end Go.Proofs.Yteeclghkfcanlaa
