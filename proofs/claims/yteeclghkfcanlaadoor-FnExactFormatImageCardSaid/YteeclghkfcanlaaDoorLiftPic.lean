/- This text reads the laws' arguments that are images. -/
import Derived.Test.YteeclghkfcanlaaDoorLiftTex
import Derived.Test.YteeclghkfcanlaaDoorPic
namespace Go.Proofs.YteeclghkfcanlaaDoor
open Go.ChangeShapes Go.WideShapes Go.ChangeAt Go.RowKit
section
variable {H : Type} {enc : TypeId × Value → H} {W : World} {base b0 : Nat} {sp : Nat → Bool} {held : Bool}

set_option maxRecDepth 100000 in
theorem argPic {v : Value} {d : DataW H} {p : List MemPlace} (hv : Value.okWide Tryd.prog W .any b0 24 v) (h : DataW.Trod enc Tryd.prog W base sp held 24 v d p) :
    ∃ I : Pic, I.R 0 W.heap.size W v := by
  obtain ⟨v0, v1, v2, y0, y1, y2, n, rfl, rfl, rfl, h0, h1, h2⟩ := Go.Joins.open_agg3 Tryd.underlying24 (by kernel_rfl) (by kernel_rfl) hv h
  obtain ⟨k, e0, _, hw⟩ := DataW.trod_int Tryd.underlying3 h0
  obtain rfl : v0 = .int .i64 k := by simpa using e0
  obtain ⟨k', e1, _, hw'⟩ := DataW.trod_int Tryd.underlying3 h1
  obtain rfl : v1 = .int .i64 k' := by simpa using e1
  obtain ⟨xs, hx⟩ := cellInts h2
  exact ⟨⟨k, k', xs⟩, _, rfl, wf_I64 hw, wf_I64 hw', hx⟩
end
end Go.Proofs.YteeclghkfcanlaaDoor
