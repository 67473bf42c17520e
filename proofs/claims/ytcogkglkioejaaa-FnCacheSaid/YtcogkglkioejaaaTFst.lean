/- This text holds what the program's TilesFor keeps in its boxes while it ranges over the cells, and how that stands through calls, appends and stores. -/
import Derived.Test.YtcogkglkioejaaaL16b
import Derived.Test.YtcogkglkioejaaaCells
import Derived.RangeFuncBox
namespace Go.Proofs.Ytcogkglkioejaaa
open Go.RowKit Go.Shelf

theorem cells_not_row {W : World} {B : Nat} {t e : TypeId} {cs : Array Value} {fz : Nat × Nat} (h : W.heap[B]? = some (.cells cs t fz)) (hte : t ≠ e) {base size k : Nat} {v : Value} {xs : List Value} (hr : W.ownsRow base e size v k xs) : some B ≠ v.ownBlock := by
  rcases hr.2 with ⟨rfl, _⟩ | ⟨g, cap, cur, rfl, hb, hg, _⟩
  · simp [Value.ownBlock]
  · simp only [Value.ownBlock, ne_eq, Option.some.injEq]
    intro e'
    subst e'
    rw [hg] at h
    simp only [Option.some.injEq, Obj.cells.injEq] at h
    exact hte h.2.1.symm
theorem cells_ne {W : World} {B B' : Nat} {t t' : TypeId} {cs cs' : Array Value} {fz fz' : Nat × Nat} (h : W.heap[B]? = some (.cells cs t fz)) (h' : W.heap[B']? = some (.cells cs' t' fz')) (hte : t ≠ t') : B ≠ B' := fun e => by
  subst e
  rw [h] at h'
  simp only [Option.some.injEq, Obj.cells.injEq] at h'
  exact hte h'.2.1

/-- a box with a tile -/
structure BX (w : World) (b : Nat) (x y z : Int) : Prop where
  lt : b < w.heap.size
  c0 : w.cell? ⟨b, 0, none⟩ = some (.int .i64 x)
  c1 : w.cell? ⟨b, 1, none⟩ = some (.int .i64 y)
  c2 : w.cell? ⟨b, 2, none⟩ = some (.int .i64 z)
  f0 : w.frozen? ⟨b, 0, none⟩ = false
  f1 : w.frozen? ⟨b, 1, none⟩ = false
  f2 : w.frozen? ⟨b, 2, none⟩ = false
theorem BX.ext {w w' : World} {b : Nat} {x y z : Int} (h : BX w b x y z) (e : Ext w w') : BX w' b x y z :=
  ⟨Nat.lt_of_lt_of_le h.lt e.size, (e.cells.1 b _ h.lt).trans h.c0, (e.cells.1 b _ h.lt).trans h.c1, (e.cells.1 b _ h.lt).trans h.c2, (e.cells.2 b _ h.lt).trans h.f0, (e.cells.2 b _ h.lt).trans h.f1, (e.cells.2 b _ h.lt).trans h.f2⟩
theorem BX.made (w : World) (ty : TypeId) : BX (w.alloc (.cells #[.int .i64 0, .int .i64 0, .int .i64 0] ty)) w.heap.size 0 0 0 := ⟨by simp, by simp [go_sem], by simp [go_sem], by simp [go_sem], by simp [go_sem], by simp [go_sem], by simp [go_sem]⟩

/-- the boxes of TilesFor: level, mip level, place; the tiles so far -/
structure TF (w W : World) (c : Int) (um : Value) (ml X Y : Int) (Bm Bt Bx By Bn : Nat) (s : TL) : Prop where
  ext : Ext w W
  lv : W.heap[w.heap.size + 1]? = some (.cells #[.int .i64 c] 3 (0, 0))
  mb : W.heap[Bm]? = some (.cells #[.int .i64 ml, um] 25 (0, 0))
  xb : W.heap[Bx]? = some (.cells #[.int .i64 X] 3 (0, 0))
  yb : W.heap[By]? = some (.cells #[.int .i64 Y] 3 (0, 0))
  nb : W.heap[Bn]? = some (.cells #[.int .i64 2] 3 (0, 0))
  tl : w.heap.size ≤ Bt
  tb : ∃ v, W.heap[Bt]? = some (.cells #[v] 27 (0, 0)) ∧ s.Own w.heap.size W v

variable {w W : World} {c : Int} {um : Value} {ml X Y : Int} {Bm Bt Bx By Bn : Nat} {s : TL}

theorem lt_of_block {W : World} {B : Nat} {o : Obj} (h : W.heap[B]? = some o) : B < W.heap.size := (Array.getElem?_eq_some_iff.1 h).1
theorem TF.to (h : TF w W c um ml X Y Bm Bt Bx By Bn s) {W' : World} (e : Ext W W') : TF w W' c um ml X Y Bm Bt Bx By Bn s := by
  obtain ⟨v, h1, h2⟩ := h.tb
  exact ⟨h.ext.trans e, (e.block (lt_of_block h.lv)).trans h.lv, (e.block (lt_of_block h.mb)).trans h.mb, (e.block (lt_of_block h.xb)).trans h.xb, (e.block (lt_of_block h.yb)).trans h.yb, (e.block (lt_of_block h.nb)).trans h.nb, h.tl, v, (e.block (lt_of_block h1)).trans h1, h2.ext e⟩

theorem kept_cells {A B : World} {row : Option Nat} (hg : A.grownBy B row) (hr : ∀ r, row = some r → ∃ o : Obj, A.heap[r]? = some o ∧ o.isCells = false) {b : Nat} {cs : Array Value} {t : TypeId} {fz : Nat × Nat} (h : A.heap[b]? = some (.cells cs t fz)) : B.heap[b]? = some (.cells cs t fz) :=
  (hg.block b (lt_of_block h) (fun e => by obtain ⟨o, ho, hc⟩ := hr b e.symm; rw [h] at ho; cases ho; cases hc)).trans h
theorem TL.Own.owns {lo : Nat} {A B : World} {v : Value} (h : s.Own lo A v) {row : Option Nat} (hg : A.grownBy B row) (hr : ∀ r, row = some r → ∃ o : Obj, A.heap[r]? = some o ∧ o.isCells = false) : s.Own lo B v := by
  obtain ⟨⟨h1, h2⟩, h3⟩ := h
  refine ⟨⟨h1, ?_⟩, h3⟩
  rcases h2 with hn | ⟨g, cap, cur, hv, hb, hgg, r⟩
  · exact .inl hn
  · exact .inr ⟨g, cap, cur, hv, hb, kept_cells hg hr hgg, r⟩
/-- it abides the turn of a block that is no cells -/
theorem TF.owns {B0 : Nat} (hB : w.heap.size ≤ B0) {β : Type} (f : β → TL) : OwnFrom B0 (fun (b : β) W => TF w W c um ml X Y Bm Bt Bx By Bn (f b)) := fun b A B row h hg hr => by
  have hr' : ∀ r, row = some r → ∃ o : Obj, A.heap[r]? = some o ∧ o.isCells = false := fun r e => (hr r e).2
  obtain ⟨v, h1, h2⟩ := h.tb
  exact ⟨h.ext.grown hg (fun k e => Nat.le_trans hB (hr k e).1), kept_cells hg hr' h.lv, kept_cells hg hr' h.mb, kept_cells hg hr' h.xb, kept_cells hg hr' h.yb, kept_cells hg hr' h.nb, h.tl, v, kept_cells hg hr' h1, h2.owns hg hr'⟩
/-- the tiles box is written anew -/
theorem TF.push {W5 W7 : World} {o : Obj} {s' : TL} {v v' : Value} (h : TF w W5 c um ml X Y Bm Bt Bx By Bn s) (hv : W5.heap[Bt]? = some (.cells #[v] 27 (0, 0))) (ho : s.Own w.heap.size W5 v)
    (hg : (W5.alloc o).grownBy W7 v.ownBlock) (hown : s'.Own w.heap.size W7 v') : TF w (W7.setCell ⟨Bt, 0, none⟩ v') c um ml X Y Bm Bt Bx By Bn s' := by
  have hA : ∀ {b : Nat} {cs : Array Value} {t : TypeId}, t ≠ 60 → W5.heap[b]? = some (.cells cs t (0, 0)) → W7.heap[b]? = some (.cells cs t (0, 0)) := fun {b cs t} hte hb =>
    (hg.block b (by have := lt_of_block hb; simp; omega) (cells_not_row hb hte ho.1)).trans ((Ext.block (w := W5) (by repeat (with_reducible (first | assumption | exact Ext.refl _ | apply Ext.alloc | apply Ext.drew | apply Ext.drewN))) (lt_of_block hb)).trans hb)
  have ht : W7.heap[Bt]? = some (.cells #[v] 27 (0, 0)) := hA (by decide) hv
  have hS : ∀ {b : Nat} {cs : Array Value} {t : TypeId}, t ≠ 27 → t ≠ 60 → W5.heap[b]? = some (.cells cs t (0, 0)) → (W7.setCell ⟨Bt, 0, none⟩ v').heap[b]? = some (.cells cs t (0, 0)) := fun {b cs t} h1 h2 hb =>
    (Below.heap_setCell W7 ⟨Bt, 0, none⟩ v' b (cells_ne (hA h2 hb) ht h1)).trans (hA h2 hb)
  have hE : Ext w W7 := (h.ext.alloc o).grown hg (fun k e => (ho.lt k e).1)
  have hB : Boxed W7 Bt 27 v := ht
  refine ⟨hE.setCell h.tl _, hS (by decide) (by decide) h.lv, hS (by decide) (by decide) h.mb, hS (by decide) (by decide) h.xb, hS (by decide) (by decide) h.yb, hS (by decide) (by decide) h.nb, h.tl, v', hB.set v', ?_⟩
  refine ⟨?_, hown.2⟩
  exact ownsRow_setCell_other hown.1 (fun e => cells_not_row ht (by decide) hown.1 e.symm) v'
theorem own_cells {W : World} {o : Obj} {s : TL} {lo : Nat} {v : Value} (ho : s.Own lo W v) : ∀ (j : Nat) (o' : Obj), v.ownBlock = some j → (W.alloc o).heap[j]? = some o' → o'.isCells = true := by
  intro j o' hj h'
  obtain ⟨⟨h1, h2⟩, h3⟩ := ho
  rcases h2 with ⟨rfl, _⟩ | ⟨g, cap, cur, rfl, hb, hg, _⟩
  · simp [Value.ownBlock] at hj
  · simp only [Value.ownBlock, Option.some.injEq] at hj
    subst hj
    rw [(Ext.block (w := W) (by repeat (with_reducible (first | assumption | exact Ext.refl _ | apply Ext.alloc | apply Ext.drew | apply Ext.drewN))) (lt_of_block hg)), hg] at h'
    cases h'
    rfl
theorem Ext.others {A B : World} (h : Ext A B) : KeepsOthers A B := ⟨h.size, fun _ _ hk _ => (h.block (lt_of_block hk)).trans hk⟩
end Go.Proofs.Ytcogkglkioejaaa
