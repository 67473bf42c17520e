/- This text proves what the laws' comparisons and marks of grids do. -/
import Derived.Test.YtdkohjeobjejeaaGreatLk2
namespace Go.Proofs.YtdkohjeobjejeaaGreat
open Go.RowKit

set_option maxRecDepth 20000 in
set_option maxHeartbeats 3200000 in
theorem eqGrid_same (lo hi lo' hi' : Nat) (v v' : Value) (g : Grd) (w : World) (hv : g.R lo hi w v) (hh : hi ≤ w.heap.size) (hv' : g.R lo' hi' w v') (hh' : hi' ≤ w.heap.size) :
    Calls Tryz.prog 13 #[v, v'] w fun e w' => e = .returned (.bool true) ∧ Ext w w' := by
  obtain ⟨pu, tu, rfl, hn, ht, hl, hp, hu⟩ := hv
  obtain ⟨pu', tu', rfl, -, -, -, hp', hu'⟩ := hv'
  have HP := hid hp
  have HP' := hid hp'
  have HT := hid (show TexR lo hi w (.agg #[.int .i64 g.t.log, tu]) g.t from ⟨_, rfl, hl, hu⟩)
  have HT' := hid (show TexR lo' hi' w (.agg #[.int .i64 g.t.log, tu']) g.t from ⟨_, rfl, hl, hu'⟩)
  clear hp hp' hu hu' hn ht hl
  have x0 : Ext w ((w.alloc (.cells #[.int .i64 g.n, pu, .int .i64 g.tm, .int .i64 g.t.log, tu] 44)).alloc (.cells #[.int .i64 g.n, pu', .int .i64 g.tm, .int .i64 g.t.log, tu'] 44)) := (by repeat (with_reducible (first | assumption | exact Ext.refl _ | apply Ext.alloc | apply Ext.drew | apply Ext.drewN)))
  have bA := (Bx.made w #[.int .i64 g.n, pu, .int .i64 g.tm, .int .i64 g.t.log, tu] 44).ext ((Ext.refl _).alloc (.cells #[.int .i64 g.n, pu', .int .i64 g.tm, .int .i64 g.t.log, tu'] 44))
  have bB := Bx.madeAt (B := w.heap.size + 1) (w.alloc (.cells #[.int .i64 g.n, pu, .int .i64 g.tm, .int .i64 g.t.log, tu] 44)) #[.int .i64 g.n, pu', .int .i64 g.tm, .int .i64 g.t.log, tu'] 44 (by simp)
  go_enter Tryz.func13, Tryz.ntmps13
  go_wp2_with fail
  refine (eqPointS_same lo hi lo' hi' _ _ g.m g.f _ (HP.out.ext hh x0) (HP'.out.ext hh' x0) (Nat.le_trans hh x0.size) (Nat.le_trans hh' x0.size)).mono ?_
  rintro e w1 ⟨rfl, x1⟩
  have bA1 := bA.ext x1
  have bB1 := bB.ext x1
  have X1 := x0.trans x1
  clear bA bB x0 x1
  have p := bA1.lt
  have p0 := bA1.cell 0
  simp only [List.getElem?_toArray, List.getElem?_cons_zero, List.getElem?_cons_succ] at p0
  have p1 := bA1.cell 1
  simp only [List.getElem?_toArray, List.getElem?_cons_zero, List.getElem?_cons_succ] at p1
  have p2 := bA1.cell 2
  simp only [List.getElem?_toArray, List.getElem?_cons_zero, List.getElem?_cons_succ] at p2
  have p3 := bA1.cell 3
  simp only [List.getElem?_toArray, List.getElem?_cons_zero, List.getElem?_cons_succ] at p3
  have p4 := bA1.cell 4
  simp only [List.getElem?_toArray, List.getElem?_cons_zero, List.getElem?_cons_succ] at p4
  have q := bB1.lt
  have q0 := bB1.cell 0
  simp only [List.getElem?_toArray, List.getElem?_cons_zero, List.getElem?_cons_succ] at q0
  have q1 := bB1.cell 1
  simp only [List.getElem?_toArray, List.getElem?_cons_zero, List.getElem?_cons_succ] at q1
  have q2 := bB1.cell 2
  simp only [List.getElem?_toArray, List.getElem?_cons_zero, List.getElem?_cons_succ] at q2
  have q3 := bB1.cell 3
  simp only [List.getElem?_toArray, List.getElem?_cons_zero, List.getElem?_cons_succ] at q3
  have q4 := bB1.cell 4
  simp only [List.getElem?_toArray, List.getElem?_cons_zero, List.getElem?_cons_succ] at q4
  go_wp2_with fail
  refine (eqTexture_same lo hi lo' hi' _ _ g.t _ (HT.out.ext hh X1) (Nat.le_trans hh X1.size) (HT'.out.ext hh' X1) (Nat.le_trans hh' X1.size)).mono ?_
  rintro e w2 ⟨rfl, x2⟩
  go_wp2
  go_ret
  exact ⟨rfl, X1.trans x2⟩
theorem Part.trans {lo M : Nat} {w w1 w2 : World} (h : Part lo M w w1) (k : Part lo M w1 w2) : Part lo M w w2 := ⟨Nat.le_trans h.size k.size, h.low.trans k.low, fun b hb hl => (k.high b hb (by have := h.size; omega)).trans (h.high b hb hl)⟩
theorem OwnInts.part {lo b n : Nat} {w w' : World} {v : Value} {xs : List Int} {T : TypeId} {f : Nat → Int} (h : OwnInts lo w v xs) (p : Part b (b + 1) w w') (hb : RowI w b T n f) (hT : T ≠ 3) : OwnInts lo w' v xs := by
  obtain ⟨cs, hb1, _⟩ := hb
  obtain ⟨⟨h1, h2⟩, h3⟩ := h
  refine ⟨⟨h1, ?_⟩, h3⟩
  rcases h2 with hn | ⟨g, cap, cur, hv, hb, hg, r⟩
  · exact .inl hn
  · refine .inr ⟨g, cap, cur, hv, hb, ?_, r⟩
    rw [p.block (Array.getElem?_eq_some_iff.1 hg).1 ?_]
    · exact hg
    · by_cases e : g = b
      · subst e
        rw [hg] at hb1
        simp only [Option.some.injEq, Obj.cells.injEq] at hb1
        exact absurd hb1.2.1.symm hT
      · omega
set_option maxRecDepth 20000 in
set_option maxHeartbeats 3200000 in
theorem markGrid_any (lo hi : Nat) (v : Value) (g : Grd) (k0 : Int) (w : World) (hv : g.O lo hi w v) (hh : hi ≤ w.heap.size) (hs : g.small) (h0 : 0 ≤ k0) (h1 : k0 ≤ 1000000000) :
    Calls Tryz.prog 15 #[v, .int .i64 k0] w fun e w' => (∃ r, e = .returned (.int .i64 r) ∧ 0 ≤ r ∧ r ≤ k0 + 10000000) ∧ Part lo hi w w' := by
  obtain ⟨b, tu, rfl, h2, h3, h4, h5, -, -, hl, -, h6⟩ := hv
  obtain ⟨a, c, rfl, _⟩ := h5.1.form
  obtain ⟨z1, z2⟩ := hs
  have HR := hid h4
  have HT := hid h5
  have HL := hid hl
  clear h4 h5 hl
  have x0 : Ext w (w.alloc (.cells #[.int .i64 g.n, .slice (some ⟨b, 0, none⟩) g.m g.m, .int .i64 g.tm, .int .i64 g.t.log, .slice a g.t.px.length c] 44)) := (by repeat (with_reducible (first | assumption | exact Ext.refl _ | apply Ext.alloc | apply Ext.drew | apply Ext.drewN)))
  have bA := Bx.made w #[.int .i64 g.n, .slice (some ⟨b, 0, none⟩) g.m g.m, .int .i64 g.tm, .int .i64 g.t.log, .slice a g.t.px.length c] 44
  go_enter Tryz.func15, Tryz.ntmps15
  go_wp2_with fail
  refine (markPointS_any b g.m g.f k0 _ (HR.out.ext x0) h6 h0 (by omega)).mono ?_
  rintro e w1 ⟨rfl, p1⟩
  have bA1 := bA.kp (p1.kp (by simp) (.inr (by omega)))
  have hz := p1.size
  simp at hz
  have HT1 := hid (OwnInts.part (HT.out.1.ext x0) p1 (HR.out.ext x0) (by decide))
  have P1 := hid (show Part lo hi w w1 from ⟨by omega, ⟨p1.low.os, p1.low.tape, p1.low.output, by omega, fun k hk => (p1.block (by simp; omega) (.inl (by omega))).trans (x0.block (by omega))⟩, fun k hk hl => (p1.block (by simp; omega) (.inr (by omega))).trans (x0.block hl)⟩)
  have y := bA1.lt
  have y0 := bA1.cell 0
  simp only [List.getElem?_toArray, List.getElem?_cons_zero, List.getElem?_cons_succ] at y0
  have y1 := bA1.cell 1
  simp only [List.getElem?_toArray, List.getElem?_cons_zero, List.getElem?_cons_succ] at y1
  have y2 := bA1.cell 2
  simp only [List.getElem?_toArray, List.getElem?_cons_zero, List.getElem?_cons_succ] at y2
  have y3 := bA1.cell 3
  simp only [List.getElem?_toArray, List.getElem?_cons_zero, List.getElem?_cons_succ] at y3
  have y4 := bA1.cell 4
  simp only [List.getElem?_toArray, List.getElem?_cons_zero, List.getElem?_cons_succ] at y4
  clear bA1 p1
  go_wp2_with fail
  refine (markTexture_any lo _ g.t _ _ ⟨_, rfl, HL.out, HT1.out⟩ (by omega) (by omega)).mono ?_
  rintro e w2 ⟨rfl, h7, u, hu, hg⟩
  have hol := HT.out.2
  have hol2 := HT.out.1.lt
  have P2 : Part lo hi w1 w2 := Part.of hg (fun k hk => by
    simp only [Value.agg.injEq, Array.mk.injEq, List.cons.injEq, true_and, and_true] at hu
    subst hu
    exact ⟨(hol2 k hk).1, hol k hk⟩) (by have := P1.out.size; omega)
  have P := P1.out.trans P2
  go_wp2
  go_ret
  exact ⟨⟨_, rfl, by omega, by omega⟩, P⟩
end Go.Proofs.YtdkohjeobjejeaaGreat
