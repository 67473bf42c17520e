/- This text holds what the laws on textures share: boxes that hold textures, and what marking a texture leaves alone. -/
import Derived.Test.YtjfcngbepjdfnaaGreatL15e
import Derived.Test.YtjfcngbepjdfnaaGreatEx2M
import Derived.Test.YtjfcngbepjdfnaaGreatPart
namespace Go.Proofs.YtjfcngbepjdfnaaGreat
open Go.RowKit

/-- box B holds a value of two cells -/
structure TBox (w : World) (B : Nat) (a b : Value) : Prop where
  lt : B < w.heap.size
  c0 : w.cell? ⟨B, 0, none⟩ = some a
  c1 : w.cell? ⟨B, 1, none⟩ = some b
theorem TBox.at {w w' : World} {B : Nat} {a b : Value} (h : TBox w B a b) (hz : w.heap.size ≤ w'.heap.size) (s : w'.heap[B]? = w.heap[B]?) : TBox w' B a b :=
  ⟨Nat.lt_of_lt_of_le h.lt hz, (World.cell?_of_block (w := w) s).trans h.c0, (World.cell?_of_block (w := w) s).trans h.c1⟩
theorem TBox.ext {w w' : World} {B : Nat} {a b : Value} (h : TBox w B a b) (e : Ext w w') : TBox w' B a b := h.at e.size (e.block h.lt)
theorem TBox.made (w : World) (a b : Value) (ty : TypeId) : TBox (w.alloc (.cells #[a, b] ty)) w.heap.size a b := ⟨by simp, by simp [go_sem], by simp [go_sem]⟩

theorem Part.box {lo M : Nat} {w w' : World} {B : Nat} {a b : Value} (p : Part lo M w w') (h : TBox w B a b) (hB : B < lo ∨ M ≤ B) : TBox w' B a b :=
  h.at p.size (hB.elim (fun k => p.low.block B k) (fun k => p.high B k h.lt))
theorem OwnTex.kept {lo : Nat} {w w' : World} {v : Value} {t : Tex} (h : OwnTex lo w v t) (s : Same lo w.heap.size w w') : OwnTex lo w' v t := by
  obtain ⟨x, h1, h2, h3⟩ := h
  exact ⟨x, h1, h2, h3.kept s⟩
theorem TexR.same {lo hi : Nat} {w w' : World} {v : Value} {t : Tex} (h : TexR lo hi w v t) (s : Same lo hi w w') : TexR lo hi w' v t := by
  obtain ⟨x, h1, h2, h3⟩ := h
  exact ⟨x, h1, h2, h3.same s⟩

theorem szTexture_val {left : Int} {t : Tex} {r : Int} (h : szRes left t.px.length = r) (lo hi : Nat) (v : Value) (w : World) (hv : TexR lo hi w v t) (hh : hi ≤ w.heap.size) (h1 : 0 ≤ left) (h2 : left ≤ 1048576) :
    Calls Tryz.prog 18 #[v, .int .i64 left] w fun e w' => e = .returned (.int .i64 r) ∧ Ext w w' := h ▸ szTexture_any lo hi v t left w hv hh h1 h2
theorem eqTexture_same (lo hi lo' hi' : Nat) (v v' : Value) (t : Tex) (w : World) (hv : TexR lo hi w v t) (hh : hi ≤ w.heap.size) (hv' : TexR lo' hi' w v' t) (hh' : hi' ≤ w.heap.size) :
    Calls Tryz.prog 33 #[v, v'] w fun e w' => e = .returned (.bool true) ∧ Ext w w' := by
  have h := eqTexture_any lo hi lo' hi' v v' t t w hv hh hv' hh'
  simp only [decide_true] at h
  exact h
theorem OwnTex.under {lo : Nat} {w : World} {v : Value} {t : Tex} (h : OwnTex lo w v t) : ∀ l u k, v = .agg #[l, u] → u.ownBlock = some k → k < w.heap.size := by
  obtain ⟨x, rfl, _, h3⟩ := h
  intro l u k e hk
  simp only [Value.agg.injEq] at e
  obtain ⟨rfl, rfl⟩ : Value.int .i64 t.log = l ∧ x = u := by simpa using e
  exact (h3.lt k hk).2
end Go.Proofs.YtjfcngbepjdfnaaGreat
