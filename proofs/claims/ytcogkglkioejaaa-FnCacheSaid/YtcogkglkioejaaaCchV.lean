/- This text holds the program's CachedLookup as the laws use it. -/
import Derived.Test.YtcogkglkioejaaaCchI
import Derived.Test.YtcogkglkioejaaaPart
namespace Go.Proofs.Ytcogkglkioejaaa
open Go.RowKit

theorem CBx.part {lo M : Nat} {W W' : World} {b : Nat} {r l : Int} {v : Value} (h : CBx W b r v l) (p : Part lo M W W') (hb : b < lo ∨ M ≤ b) : CBx W' b r v l := (p.block h.lt hb).trans h
theorem CO.open {lo : Nat} {w : World} {v : Value} {C : CV} (h : CO lo w v C) : ∃ a c, v = .agg #[.int .i64 C.room, .slice a C.L.length c, .int .i64 C.loads] := by
  obtain ⟨tv, rfl, h1, _⟩ := h
  obtain ⟨a, c, rfl, _⟩ := h1.form
  exact ⟨a, c, rfl⟩
theorem CO.low {lo lo' : Nat} {w : World} {v : Value} {C : CV} (h : CO lo w v C) (hl : lo' ≤ lo) : CO lo' w v C := by
  obtain ⟨tv, h1, h2, h3⟩ := h
  exact ⟨tv, h1, h2.low hl, h3⟩
theorem iCached_val {t : Tex} {C D : CV} {ua va l x : Int} (h : t.cachedN C ua va l = x ∧ t.cachedC C ua va l = D) (lo hi lo2 : Nat) (v cv : Value) (w : World) (hv : TexR lo hi w v t) (hh : hi ≤ w.heap.size) (hc : CO lo2 w cv C) (hL : C.L.length < 100000000) :
    Calls Try.prog 8 #[v, cv, .int .i64 ua, .int .i64 va, .int .i64 l] w fun e w' => ∃ a c, e = .returned (.tuple #[.int .i64 x, .agg #[.int .i64 D.room, .slice a D.L.length c, .int .i64 D.loads]]) ∧ CO w.heap.size w' (.agg #[.int .i64 D.room, .slice a D.L.length c, .int .i64 D.loads]) D ∧ Ext w w' := by
  obtain ⟨rfl, rfl⟩ := h
  refine (iCached_any lo hi lo2 v cv t C ua va l w hv hh hc hL).mono ?_
  rintro e w' ⟨r, rfl, ho, hx⟩
  obtain ⟨a, c, rfl⟩ := ho.open
  exact ⟨a, c, rfl, ho, hx⟩
theorem Tex.cachedC_len (t : Tex) (C : CV) (u v l : Int) : (t.cachedC C u v l).L.length ≤ C.L.length ∨ (t.cachedC C u v l).L.length ≤ 12 := by
  unfold Tex.cachedC
  split
  · rename_i h
    simp only [Bool.and_eq_true] at h
    have key : ∀ (l : List T3) (D : CV), D.L.length ≤ 12 → (D.uses l).L.length ≤ 12 := by
      intro l
      induction l with
      | nil => intro D h; exact h
      | cons x l ih => intro D h; exact ih _ (CV.use_len h)
    exact .inr (key _ _ (CV.ok_len h.2))
  · exact .inl (Nat.le_refl _)
end Go.Proofs.Ytcogkglkioejaaa
