/- This text proves what the laws' comparisons and marks of grids do. -/
import Derived.Test.YtaegmenjgjdimaaGreatLk2
namespace Go.Proofs.YtaegmenjgjdimaaGreat
open Go.RowKit

theorem Part.trans {lo M : Nat} {w w1 w2 : World} (h : Part lo M w w1) (k : Part lo M w1 w2) : Part lo M w w2 := ⟨Nat.le_trans h.size k.size, h.low.trans k.low, fun b hb hl => (k.high b hb (by have := h.size; omega)).trans (h.high b hb hl)⟩
theorem OwnInts.part {lo b n : Nat} {w w' : World} {v : Value} {xs : List Int} {T : TypeId} {f : Nat → Int} (h : OwnInts lo w v xs) (p : Part b (b + 1) w w') (hb : RowI w b T n f) (hT : T ≠ 3) : OwnInts lo w' v xs := by
  obtain ⟨cs, hb1, _⟩ := hb
  obtain ⟨⟨h1, h2⟩, h3⟩ := h
  refine ⟨⟨h1, ?_⟩, h3⟩
  rcases h2 with hn | ⟨g, cap, cur, hv, hb, hg, r⟩
  · exact .inl hn
  · refine .inr ⟨g, cap, cur, hv, hb, ?_, r⟩
    rw [p.block (Array.getElem?_eq_some_iff.1 hg).1 ?_]
    · exact hg
    · by_cases e : g = b
      · subst e
        rw [hg] at hb1
        simp only [Option.some.injEq, Obj.cells.injEq] at hb1
        exact absurd hb1.2.1.symm hT
      · omega
end Go.Proofs.YtaegmenjgjdimaaGreat
