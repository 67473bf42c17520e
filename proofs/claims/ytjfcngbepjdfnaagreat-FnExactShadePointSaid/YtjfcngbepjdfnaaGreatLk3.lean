/- This text proves what the laws' comparisons and marks of grids do. -/
import Derived.Test.YtjfcngbepjdfnaaGreatLk2
namespace Go.Proofs.YtjfcngbepjdfnaaGreat
open Go.RowKit

set_option maxRecDepth 20000 in
set_option maxHeartbeats 3200000 in
theorem eqGrid_same (lo hi lo' hi' : Nat) (v v' : Value) (g : Grd) (w : World) (hv : g.R lo hi w v) (hh : hi ≤ w.heap.size) (hv' : g.R lo' hi' w v') (hh' : hi' ≤ w.heap.size) :
    Calls Tryz.prog 12 #[v, v'] w fun e w' => e = .returned (.bool true) ∧ Ext w w' := by
  obtain ⟨pu, tu, rfl, hn, ht, hl, hp, hu⟩ := hv
  obtain ⟨pu', tu', rfl, -, -, -, hp', hu'⟩ := hv'
  have HP := hid hp
  have HP' := hid hp'
  have HT := hid (show TexR lo hi w (.agg #[.int .i64 g.t.log, tu]) g.t from ⟨_, rfl, hl, hu⟩)
  have HT' := hid (show TexR lo' hi' w (.agg #[.int .i64 g.t.log, tu']) g.t from ⟨_, rfl, hl, hu'⟩)
  clear hp hp' hu hu' hn ht hl
  have x0 : Ext w ((w.alloc (.cells #[.int .i64 g.n, pu, .int .i64 g.tm, .int .i64 g.t.log, tu] 43)).alloc (.cells #[.int .i64 g.n, pu', .int .i64 g.tm, .int .i64 g.t.log, tu'] 43)) := (by repeat (with_reducible (first | assumption | exact Ext.refl _ | apply Ext.alloc | apply Ext.drew | apply Ext.drewN)))
  have bA := (Bx.made w #[.int .i64 g.n, pu, .int .i64 g.tm, .int .i64 g.t.log, tu] 43).ext ((Ext.refl _).alloc (.cells #[.int .i64 g.n, pu', .int .i64 g.tm, .int .i64 g.t.log, tu'] 43))
  have bB := Bx.madeAt (B := w.heap.size + 1) (w.alloc (.cells #[.int .i64 g.n, pu, .int .i64 g.tm, .int .i64 g.t.log, tu] 43)) #[.int .i64 g.n, pu', .int .i64 g.tm, .int .i64 g.t.log, tu'] 43 (by simp)
  go_enter Tryz.func12, Tryz.ntmps12
  go_wp2_with fail
  refine (eqPointS_same lo hi lo' hi' _ _ g.m g.f _ (HP.out.ext hh x0) (HP'.out.ext hh' x0) (Nat.le_trans hh x0.size) (Nat.le_trans hh' x0.size)).mono ?_
  rintro e w1 ⟨rfl, x1⟩
  have bA1 := bA.ext x1
  have bB1 := bB.ext x1
  have X1 := x0.trans x1
  clear bA bB x0 x1
  have p := bA1.lt
  have p0 := bA1.cell 0
  simp only [List.getElem?_toArray, List.getElem?_cons_zero, List.getElem?_cons_succ] at p0
  have p1 := bA1.cell 1
  simp only [List.getElem?_toArray, List.getElem?_cons_zero, List.getElem?_cons_succ] at p1
  have p2 := bA1.cell 2
  simp only [List.getElem?_toArray, List.getElem?_cons_zero, List.getElem?_cons_succ] at p2
  have p3 := bA1.cell 3
  simp only [List.getElem?_toArray, List.getElem?_cons_zero, List.getElem?_cons_succ] at p3
  have p4 := bA1.cell 4
  simp only [List.getElem?_toArray, List.getElem?_cons_zero, List.getElem?_cons_succ] at p4
  have q := bB1.lt
  have q0 := bB1.cell 0
  simp only [List.getElem?_toArray, List.getElem?_cons_zero, List.getElem?_cons_succ] at q0
  have q1 := bB1.cell 1
  simp only [List.getElem?_toArray, List.getElem?_cons_zero, List.getElem?_cons_succ] at q1
  have q2 := bB1.cell 2
  simp only [List.getElem?_toArray, List.getElem?_cons_zero, List.getElem?_cons_succ] at q2
  have q3 := bB1.cell 3
  simp only [List.getElem?_toArray, List.getElem?_cons_zero, List.getElem?_cons_succ] at q3
  have q4 := bB1.cell 4
  simp only [List.getElem?_toArray, List.getElem?_cons_zero, List.getElem?_cons_succ] at q4
  go_wp2_with fail
  refine (eqTexture_same lo hi lo' hi' _ _ g.t _ (HT.out.ext hh X1) (Nat.le_trans hh X1.size) (HT'.out.ext hh' X1) (Nat.le_trans hh' X1.size)).mono ?_
  rintro e w2 ⟨rfl, x2⟩
  go_wp2
  go_ret
  exact ⟨rfl, X1.trans x2⟩
theorem Part.trans {lo M : Nat} {w w1 w2 : World} (h : Part lo M w w1) (k : Part lo M w1 w2) : Part lo M w w2 := ⟨Nat.le_trans h.size k.size, h.low.trans k.low, fun b hb hl => (k.high b hb (by have := h.size; omega)).trans (h.high b hb hl)⟩
theorem OwnInts.part {lo b n : Nat} {w w' : World} {v : Value} {xs : List Int} {T : TypeId} {f : Nat → Int} (h : OwnInts lo w v xs) (p : Part b (b + 1) w w') (hb : RowI w b T n f) (hT : T ≠ 3) : OwnInts lo w' v xs := by
  obtain ⟨cs, hb1, _⟩ := hb
  obtain ⟨⟨h1, h2⟩, h3⟩ := h
  refine ⟨⟨h1, ?_⟩, h3⟩
  rcases h2 with hn | ⟨g, cap, cur, hv, hb, hg, r⟩
  · exact .inl hn
  · refine .inr ⟨g, cap, cur, hv, hb, ?_, r⟩
    rw [p.block (Array.getElem?_eq_some_iff.1 hg).1 ?_]
    · exact hg
    · by_cases e : g = b
      · subst e
        rw [hg] at hb1
        simp only [Option.some.injEq, Obj.cells.injEq] at hb1
        exact absurd hb1.2.1.symm hT
      · omega
end Go.Proofs.YtjfcngbepjdfnaaGreat
