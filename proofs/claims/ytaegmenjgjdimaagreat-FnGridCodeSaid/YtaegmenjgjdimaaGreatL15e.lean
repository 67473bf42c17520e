/- This text proves what the reference's halving of a texture computes, and the program's exported one. -/
import Derived.Test.YtaegmenjgjdimaaGreatL15d
namespace Go.Proofs.YtaegmenjgjdimaaGreat
open Go.RowKit

/-- the next level and true; or the empty texture and false -/
def Tex.halfR (t : Tex) : Tex × Bool := if t.okB && decide (t.log ≠ 0) then (t.half, true) else (⟨0, []⟩, false)

theorem iIsValidTexture_val {t : Tex} {b : Bool} (h : t.okB = b) (lo hi : Nat) (v : Value) (w : World) (hv : TexR lo hi w v t) (hh : hi ≤ w.heap.size) :
    Calls Tryz.prog 91 #[v] w fun e w' => e = .returned (.bool b) ∧ Ext w w' := h ▸ iIsValidTexture_any lo hi v t w hv hh
theorem OwnTex.zero (lo : Nat) (w : World) : OwnTex lo w (.agg #[.int .i64 0, .slice none 0 0]) ⟨0, []⟩ := ⟨_, rfl, ⟨by decide, by decide⟩, OwnInts.nil _ _⟩
theorem OwnTex.setLow {lo : Nat} {w : World} {v : Value} {t : Tex} (h : OwnTex lo w v t) {p : Addr} (hp : p.block < lo) (u : Value) : OwnTex lo (w.setCell p u) v t := by
  obtain ⟨x, h1, h2, h3⟩ := h
  exact ⟨x, h1, h2, h3.setLow hp u⟩
theorem OwnTex.form {lo : Nat} {w : World} {v : Value} {t : Tex} (h : OwnTex lo w v t) : ∃ a c, v = .agg #[.int .i64 t.log, .slice a t.px.length c] ∧ I64 t.log := by
  obtain ⟨x, h1, h2, h3⟩ := h
  obtain ⟨a, c, rfl, _⟩ := h3.form
  exact ⟨a, c, h1, h2⟩
theorem OwnTex.low {lo lo' : Nat} {w : World} {v : Value} {t : Tex} (h : OwnTex lo w v t) (hl : lo' ≤ lo) : OwnTex lo' w v t := by
  obtain ⟨x, h1, h2, h3⟩ := h
  exact ⟨x, h1, h2, h3.low hl⟩
theorem TexR.shape {lo hi : Nat} {w : World} {v : Value} {t : Tex} (h : TexR lo hi w v t) : ∃ u, v = .agg #[.int .i64 t.log, u] ∧ I64 t.log := by
  obtain ⟨u, h1, h2, _⟩ := h
  exact ⟨u, h1, h2⟩

/-- the boxes of the reference's halving, and what it has gathered in block g -/
structure SSt (w wr : World) (t : Tex) (u : Value) (g m k : Nat) (a : Option Addr) (c : Nat) : Prop where
  ext : Ext w wr
  pos : w.heap.size + 1 < g
  size : g < wr.heap.size
  p0 : wr.cell? ⟨w.heap.size, 0, none⟩ = some (.int .i64 t.log)
  p1 : wr.cell? ⟨w.heap.size, 1, none⟩ = some u
  r0 : wr.cell? ⟨w.heap.size + 1, 0, none⟩ = some (.int .i64 0)
  r1 : wr.cell? ⟨w.heap.size + 1, 1, none⟩ = some (.slice none 0 0)
  f0 : wr.frozen? ⟨w.heap.size + 1, 0, none⟩ = false
  f1 : wr.frozen? ⟨w.heap.size + 1, 1, none⟩ = false
  o0 : wr.cell? ⟨g, 0, none⟩ = some (.int .i64 (t.log - 1))
  o1 : wr.cell? ⟨g, 1, none⟩ = some (.slice a k c)
  g1 : wr.frozen? ⟨g, 1, none⟩ = false
  own : OwnInts (g + 1) wr (.slice a k c) (t.halfPx m k)

theorem SSt.to {w wr wr' : World} {t : Tex} {u : Value} {g m k : Nat} {a : Option Addr} {c : Nat} (h : SSt w wr t u g m k a c) (e : Ext wr wr') : SSt w wr' t u g m k a c := by
  obtain ⟨hc, hf⟩ := e.cells
  have hs := h.size
  have hp := h.pos
  have hz := e.size
  exact ⟨h.ext.trans e, hp, by omega, by rw [hc _ _ (by omega)]; exact h.p0, by rw [hc _ _ (by omega)]; exact h.p1, by rw [hc _ _ (by omega)]; exact h.r0, by rw [hc _ _ (by omega)]; exact h.r1,
    by rw [hf _ _ (by omega)]; exact h.f0, by rw [hf _ _ (by omega)]; exact h.f1, by rw [hc _ _ (by omega)]; exact h.o0, by rw [hc _ _ (by omega)]; exact h.o1, by rw [hf _ _ (by omega)]; exact h.g1, h.own.ext e⟩

theorem SSt.push {w wr w1 : World} {t : Tex} {u : Value} {g m k : Nat} {a a' : Option Addr} {c c' n' : Nat} (h : SSt w wr t u g m k a c) (hg : wr.grownBy w1 (Value.slice a k c).ownBlock)
    (hown : OwnInts (g + 1) w1 (.slice a' n' c') (t.halfPx m k ++ [t.avgK m k])) :
    SSt w (w1.setCell ⟨g, 1, none⟩ (.slice a' n' c')) t u g m (k + 1) a' c' ∧ n' = k + 1 := by
  rw [← Tex.halfPx_succ] at hown
  obtain ⟨a2, cap2, hv, _⟩ := hown.form
  rw [Tex.halfPx_length] at hv
  simp only [Value.slice.injEq] at hv
  obtain ⟨_, rfl, _⟩ := hv
  have hs := h.size
  have hp := h.pos
  have hz := hg.size
  have hlt := h.own.lt
  have hne : ∀ b, b < g + 1 → some b ≠ (Value.slice a k c).ownBlock := fun b hb e => by have := (hlt b e.symm).1; omega
  have hc : ∀ b o, b < g + 1 → w1.cell? ⟨b, o, none⟩ = wr.cell? ⟨b, o, none⟩ := fun b o hb => World.cell?_of_block (w := wr) (hg.block b (by omega) (hne b hb))
  have hf : ∀ b o, b < g + 1 → w1.frozen? ⟨b, o, none⟩ = wr.frozen? ⟨b, o, none⟩ := fun b o hb => World.frozen?_of_block (w := wr) (hg.block b (by omega) (hne b hb))
  have hd : ∀ b o, b < g → (w1.setCell ⟨g, 1, none⟩ (.slice a' (k + 1) c')).cell? ⟨b, o, none⟩ = wr.cell? ⟨b, o, none⟩ := fun b o hb => by
    rw [World.cell?_setCell_other _ _ _ _ (fun e => by simp only [Addr.mk.injEq] at e; omega), hc b o (by omega)]
  refine ⟨⟨(h.ext.grown hg (fun b e => by have := (hlt b e).1; omega)).setCell (by show w.heap.size ≤ g; omega) _, hp, by rw [World.size_setCell]; omega, by rw [hd _ _ (by omega)]; exact h.p0, by rw [hd _ _ (by omega)]; exact h.p1,
    by rw [hd _ _ (by omega)]; exact h.r0, by rw [hd _ _ (by omega)]; exact h.r1, by rw [World.frozen?_setCell, hf _ _ (by omega)]; exact h.f0, by rw [World.frozen?_setCell, hf _ _ (by omega)]; exact h.f1, ?_, ?_,
    by rw [World.frozen?_setCell, hf _ _ (by omega)]; exact h.g1, hown.setLow (by simp) _⟩, rfl⟩
  · rw [World.cell?_setCell_other _ _ _ _ (by simp), hc _ _ (by omega)]; exact h.o0
  · exact World.cell?_setCell_same _ _ _ ((hc _ _ (by omega)).trans h.o1)

theorem sIsValidTexture_val {t : Tex} {b : Bool} (h : t.okB = b) (lo hi : Nat) (v : Value) (w : World) (hv : TexR lo hi w v t) (hh : hi ≤ w.heap.size) :
    Calls Tryz.prog 83 #[v] w fun e w' => e = .returned (.bool b) ∧ Ext w w' := h ▸ sIsValidTexture_any lo hi v t w hv hh
theorem l15Size_half {l : Int} {m : Nat} (h0 : 1 ≤ l) (h4 : l ≤ 4) (hm : 2 ^ (l - 1).toNat = m) (w : World) :
    Calls Tryz.prog 85 #[.int .i64 (l - 1)] w fun e w' => e = .returned (.int .i64 m) ∧ w = w' := by
  subst hm
  exact l15Size_tex (t := ⟨l - 1, []⟩) (by show 0 ≤ l - 1; omega) (by show l - 1 ≤ 4; omega) w
theorem block_lt {i j m : Nat} (hj : j < m) (hi : i < m) (hm : m ≤ 8) : j * m + i < 1000000000 := by
  have h1 := Nat.mul_le_mul (Nat.le_of_lt hj) hm
  have h2 := Nat.mul_le_mul hm (Nat.le_refl 8)
  have h3 := Nat.mul_le_mul (Nat.le_of_lt hj) (Nat.le_refl m)
  have h4 := Nat.mul_le_mul hm hm
  omega

end Go.Proofs.YtaegmenjgjdimaaGreat
