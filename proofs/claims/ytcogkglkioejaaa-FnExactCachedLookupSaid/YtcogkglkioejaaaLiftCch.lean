/- This text reads the laws' arguments that are caches. -/
import Derived.Test.YtcogkglkioejaaaLeaf
import Derived.Test.YtcogkglkioejaaaLiftTex
import Derived.Test.YtcogkglkioejaaaCch
namespace Go.Proofs.Ytcogkglkioejaaa
open Go.ChangeShapes Go.WideShapes Go.ChangeAt Go.RowKit
section
variable {H : Type} {enc : TypeId × Value → H} {W : World} {base b0 : Nat} {sp : Nat → Bool} {held : Bool}

theorem flatsTL {lo hi : Nat} {w : World} {v : Value} {n : Nat} {f : Nat → Int} (h : Flats 3 lo hi w v n f) : ∃ L : List T3, (TLof L).R lo hi w v := by
  have h1 : TL.R ⟨n, f⟩ lo hi w v := h
  exact ⟨TL.list ⟨n, f⟩, TL.R.congr h1 (by rw [TLof_n]; exact (TL.list_length _).symm) (fun i hi => TL.list_f _ i hi)⟩
set_option maxRecDepth 100000 in
theorem argCache {v : Value} {d : DataW H} {p : List MemPlace} (hv : Value.okWide Try.prog W .any b0 40 v) (h : DataW.Trod enc Try.prog W base sp held 40 v d p) :
    ∃ C : CV, CR 0 W.heap.size W v C := by
  obtain ⟨v0, v1, v2, y0, y1, y2, n, rfl, rfl, rfl, h0, h1, h2⟩ := Go.Joins.open_agg3 Try.underlying40 (by kernel_rfl) (by kernel_rfl) hv h
  obtain ⟨k, e0, _, hw⟩ := DataW.trod_int Try.underlying3 h0
  obtain rfl : v0 = .int .i64 k := by simpa using e0
  obtain ⟨k', e2, _, hw'⟩ := DataW.trod_int Try.underlying3 h2
  obtain rfl : v2 = .int .i64 k' := by simpa using e2
  obtain ⟨m, f, hx⟩ := cellFlats (k := 3) Try.underlying38 Try.underlying3 (by kernel_rfl) (by decide) h1
  obtain ⟨L, hL⟩ := flatsTL hx
  exact ⟨⟨k, L, k'⟩, _, rfl, hL, wf_I64 hw, wf_I64 hw'⟩
end
end Go.Proofs.Ytcogkglkioejaaa
