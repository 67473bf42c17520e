/- This text holds what the laws on textures share: boxes that hold textures, and what marking a texture leaves alone. -/
import Derived.Test.YtaegmenjgjdimaaGreatL15e
import Derived.Test.YtaegmenjgjdimaaGreatEx2M
import Derived.Test.YtaegmenjgjdimaaGreatPart
namespace Go.Proofs.YtaegmenjgjdimaaGreat
open Go.RowKit

/-- box B holds a value of two cells -/
structure TBox (w : World) (B : Nat) (a b : Value) : Prop where
  lt : B < w.heap.size
  c0 : w.cell? ⟨B, 0, none⟩ = some a
  c1 : w.cell? ⟨B, 1, none⟩ = some b
theorem TBox.at {w w' : World} {B : Nat} {a b : Value} (h : TBox w B a b) (hz : w.heap.size ≤ w'.heap.size) (s : w'.heap[B]? = w.heap[B]?) : TBox w' B a b :=
  ⟨Nat.lt_of_lt_of_le h.lt hz, (World.cell?_of_block (w := w) s).trans h.c0, (World.cell?_of_block (w := w) s).trans h.c1⟩
theorem TBox.ext {w w' : World} {B : Nat} {a b : Value} (h : TBox w B a b) (e : Ext w w') : TBox w' B a b := h.at e.size (e.block h.lt)
theorem TBox.made (w : World) (a b : Value) (ty : TypeId) : TBox (w.alloc (.cells #[a, b] ty)) w.heap.size a b := ⟨by simp, by simp [go_sem], by simp [go_sem]⟩

theorem Part.box {lo M : Nat} {w w' : World} {B : Nat} {a b : Value} (p : Part lo M w w') (h : TBox w B a b) (hB : B < lo ∨ M ≤ B) : TBox w' B a b :=
  h.at p.size (hB.elim (fun k => p.low.block B k) (fun k => p.high B k h.lt))
theorem OwnTex.kept {lo : Nat} {w w' : World} {v : Value} {t : Tex} (h : OwnTex lo w v t) (s : Same lo w.heap.size w w') : OwnTex lo w' v t := by
  obtain ⟨x, h1, h2, h3⟩ := h
  exact ⟨x, h1, h2, h3.kept s⟩
theorem TexR.same {lo hi : Nat} {w w' : World} {v : Value} {t : Tex} (h : TexR lo hi w v t) (s : Same lo hi w w') : TexR lo hi w' v t := by
  obtain ⟨x, h1, h2, h3⟩ := h
  exact ⟨x, h1, h2, h3.same s⟩

theorem OwnTex.under {lo : Nat} {w : World} {v : Value} {t : Tex} (h : OwnTex lo w v t) : ∀ l u k, v = .agg #[l, u] → u.ownBlock = some k → k < w.heap.size := by
  obtain ⟨x, rfl, _, h3⟩ := h
  intro l u k e hk
  simp only [Value.agg.injEq] at e
  obtain ⟨rfl, rfl⟩ : Value.int .i64 t.log = l ∧ x = u := by simpa using e
  exact (h3.lt k hk).2
end Go.Proofs.YtaegmenjgjdimaaGreat
