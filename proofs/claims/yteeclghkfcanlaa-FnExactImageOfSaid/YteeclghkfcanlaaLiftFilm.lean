/- This text reads the laws' arguments that are films. -/
import Derived.Test.YteeclghkfcanlaaLiftTex
import Derived.Test.YteeclghkfcanlaaFilm
import Derived.Deep.Grids
namespace Go.Proofs.Yteeclghkfcanlaa
open Go.ChangeShapes Go.WideShapes Go.ChangeAt Go.RowKit
section
variable {H : Type} {enc : TypeId × Value → H} {W : World} {base b0 : Nat} {held : Bool}

set_option maxRecDepth 100000 in
/-- what lies behind the cell of a slice of booleans -/
theorem cellBools {fuel : Nat} {c : Value} {y : DataW H × List MemPlace} (h : DataW.trod enc Try.prog W base (fun _ => true) held fuel 35 [c] = some y) : ∃ n f, Bools 0 W.heap.size W c n f := by
  rcases Go.Deep.open_bools Try.underlying35 Try.underlying4 (by kernel_rfl) h with ⟨hcs, _⟩ | ⟨a, len, cap, B, hcs, _, hl, hm, _, hcell⟩
  · obtain rfl : c = .slice none 0 0 := by simpa using hcs
    exact ⟨0, fun _ => false, none, 0, rfl, Nat.le_refl _, by unfold maxLen; omega, fun i hx => by omega⟩
  · obtain rfl : c = .slice (some a) len cap := by simpa using hcs
    refine ⟨len, B, some a, cap, rfl, hl, hm, fun i hi => ?_⟩
    obtain ⟨b, o, s⟩ := a
    obtain rfl : s = none := by
      cases s with
      | none => rfl
      | some s =>
        have h0 := hcell 0 (by omega)
        simp only [World.cell?, Addr.add, if_true] at h0
        split at h0 <;> simp at h0
    have hc := hcell i (by omega)
    have ha : (⟨b, o, none⟩ : Addr).add i = ⟨b, o + i, none⟩ := by
      unfold Addr.add
      split
      · rename_i e; subst e; rfl
      · rfl
    rw [ha] at hc
    refine ⟨b, o, rfl, Nat.zero_le _, ?_, hc⟩
    simp only [World.cell?] at hc
    split at hc
    · rename_i e; exact (Array.getElem?_eq_some_iff.1 e).1
    · cases hc
set_option maxRecDepth 100000 in
theorem argFilm {v : Value} {d : DataW H} {p : List MemPlace} (hv : Value.okWide Try.prog W .any b0 37 v) (h : DataW.Trod enc Try.prog W base (fun _ => true) held 37 v d p) :
    ∃ F : Fm, F.R 0 W.heap.size W v := by
  obtain ⟨v0, v1, v2, v3, y0, y1, y2, y3, n, rfl, rfl, rfl, h0, h1, h2, h3⟩ := Go.Joins.open_agg4 Try.underlying37 (by kernel_rfl) (by kernel_rfl) hv h
  obtain ⟨k, e0, _, hw⟩ := DataW.trod_int Try.underlying3 h0
  obtain rfl : v0 = .int .i64 k := by simpa using e0
  obtain ⟨k', e1, _, hw'⟩ := DataW.trod_int Try.underlying3 h1
  obtain rfl : v1 = .int .i64 k' := by simpa using e1
  obtain ⟨xs, hx⟩ := cellInts h2
  obtain ⟨m, f, hf⟩ := cellBools h3
  exact ⟨⟨k, k', xs, m, f⟩, _, _, rfl, wf_I64 hw, wf_I64 hw', hx, hf⟩
end
end Go.Proofs.Yteeclghkfcanlaa
