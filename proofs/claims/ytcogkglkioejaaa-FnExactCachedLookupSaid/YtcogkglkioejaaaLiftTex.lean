/- This text reads the laws' arguments off the data that the row speaks of: integers, slices of integers, textures. -/
import Derived.Test.YtcogkglkioejaaaEx2
import Derived.OpenShut
import Derived.ShutString
import Derived.ChangeOld
import Derived.Below
import Derived.Carry
import Derived.Lib.SmallJoins
namespace Go.Proofs.Ytcogkglkioejaaa
open Go.ChangeShapes Go.WideShapes Go.ChangeAt Go.RowKit

theorem laidOut : laidOutB Try.prog = true := by kernel_rfl

section
variable {H : Type} {enc : TypeId × Value → H} {W : World} {base b0 : Nat} {sp : Nat → Bool} {held : Bool}

theorem wf_I64 {n : Int} (h : (Lit.int .i64 n).wf = true) : I64 n := by
  simp [Lit.wf, IntKind.min, IntKind.max, IntKind.signed, IntKind.bits] at h
  exact ⟨by omega, by omega⟩
set_option maxRecDepth 100000 in
theorem argInt {v : Value} {d : DataW H} {p : List MemPlace} (hv : Value.okWide Try.prog W .any b0 3 v) (h : DataW.Trod enc Try.prog W base sp held 3 v d p) : ∃ n, v = .int .i64 n ∧ I64 n := by
  obtain ⟨n, rfl, _, _, hw⟩ := open_int Try.underlying3 hv h
  exact ⟨n, rfl, wf_I64 hw⟩
set_option maxRecDepth 100000 in
/-- what lies behind the cell of a slice of integers -/
theorem cellInts {fuel : Nat} {c : Value} {y : DataW H × List MemPlace} (h : DataW.trod enc Try.prog W base sp held fuel 23 [c] = some y) : ∃ xs, Ints 0 W.heap.size W c xs := by
  rcases open_ints Try.underlying23 Try.underlying3 (by kernel_rfl) h with ⟨hcs, _⟩ | ⟨a, len, cap, zs, hcs, _, hl, hm, hz, _, hcell, hwz⟩
  · obtain rfl : c = .slice none 0 0 := by simpa using hcs
    exact ⟨[], none, 0, rfl, Nat.le_refl _, by unfold maxLen; omega, fun i x hx => by simp at hx⟩
  · obtain rfl : c = .slice (some a) len cap := by simpa using hcs
    have hlen : (zs.take len).length = len := by
      rw [List.length_take, hz]
      split <;> omega
    refine ⟨zs.take len, some a, cap, by rw [hlen], by omega, hm, fun i x hx => ?_⟩
    have hi : i < len := by have := (List.getElem?_eq_some_iff.1 hx).1; omega
    rw [List.getElem?_take, if_pos hi] at hx
    have hzi := (List.getElem?_eq_some_iff.1 hx).1
    have hxx : zs.getD i 0 = x := by simp [List.getD, hx]
    obtain ⟨b, o, s⟩ := a
    obtain rfl : s = none := by
      cases s with
      | none => rfl
      | some s =>
        have h0 := hcell 0 (by omega)
        simp only [World.cell?, Addr.add, if_true] at h0
        split at h0 <;> simp at h0
    have hc := hcell i hzi
    rw [hxx] at hc
    have ha : (⟨b, o, none⟩ : Addr).add i = ⟨b, o + i, none⟩ := by
      unfold Addr.add
      split
      · rename_i e; subst e; rfl
      · rfl
    rw [ha] at hc
    refine ⟨wf_I64 (hwz x (List.mem_of_getElem? hx)), b, o, rfl, Nat.zero_le _, ?_, hc⟩
    simp only [World.cell?] at hc
    split at hc
    · rename_i e; exact (Array.getElem?_eq_some_iff.1 e).1
    · cases hc
set_option maxRecDepth 100000 in
theorem argTex {v : Value} {d : DataW H} {p : List MemPlace} (hv : Value.okWide Try.prog W .any b0 37 v) (h : DataW.Trod enc Try.prog W base sp held 37 v d p) :
    ∃ t, TexR 0 W.heap.size W v t := by
  obtain ⟨v0, v1, y0, y1, n, rfl, rfl, rfl, h0, h1⟩ := Go.Joins.open_agg2 Try.underlying37 (by kernel_rfl) (by kernel_rfl) hv h
  obtain ⟨k, e0, _, hw⟩ := DataW.trod_int Try.underlying3 h0
  obtain rfl : v0 = .int .i64 k := by simpa using e0
  obtain ⟨xs, hx⟩ := cellInts h1
  exact ⟨⟨k, xs⟩, _, rfl, wf_I64 hw, hx⟩
end

end Go.Proofs.Ytcogkglkioejaaa
