/- This text reads the laws' arguments that are patches. -/
import Derived.Test.YteeclghkfcanlaaLiftVec
namespace Go.Proofs.Yteeclghkfcanlaa
open Go.ChangeShapes Go.WideShapes Go.ChangeAt Go.RowKit
section
variable {H : Type} {enc : TypeId × Value → H} {W : World} {base b0 : Nat} {sp : Nat → Bool} {held : Bool}

set_option maxRecDepth 100000 in
theorem argPatch {v : Value} {d : DataW H} {p : List MemPlace} (hv : Value.okWide Try.prog W .any b0 52 v) (h : DataW.Trod enc Try.prog W base sp held 52 v d p) :
    ∃ f : Nat → Int, v = .agg #[.int .i64 (f 0), .int .i64 (f 1), .int .i64 (f 2), .int .i64 (f 3), .int .i64 (f 4), .int .i64 (f 5), .int .i64 (f 6), .int .i64 (f 7), .int .i64 (f 8), .int .i64 (f 9), .int .i64 (f 10), .int .i64 (f 11)] := by
  obtain ⟨f, rfl, _⟩ := argAgg (k := 12) Try.underlying52 Try.underlying3 (by kernel_rfl) hv h
  exact ⟨f, by simp [← Array.toList_inj, List.range_succ]⟩
end
end Go.Proofs.Yteeclghkfcanlaa
