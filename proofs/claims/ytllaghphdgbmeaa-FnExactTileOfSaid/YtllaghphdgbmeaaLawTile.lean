/- This text proves that the law on TileOf returns true, whatever the arguments. -/
import Derived.Test.YtllaghphdgbmeaaLawKit
import Derived.Test.YtllaghphdgbmeaaL16a
namespace Go.Proofs.Ytllaghphdgbmeaa
open Go.RowKit

theorem Tex.tile_form (t : Tex) (x y l : Int) : ∃ a b c : Int, t.tile x y l = .agg #[.int .i64 a, .int .i64 b, .int .i64 c] := by
  unfold Tex.tile
  split
  · exact ⟨_, _, _, rfl⟩
  · exact ⟨_, _, _, rfl⟩
theorem sTileOf_val {t : Tex} {x y l : Int} {r : Value} (h : t.tile x y l = r) (lo hi : Nat) (v : Value) (w : World) (hv : TexR lo hi w v t) (hh : hi ≤ w.heap.size) (hx : I64 x) (hy : I64 y) :
    Calls Try.prog 21 #[v, .int .i64 x, .int .i64 y, .int .i64 l] w fun e w' => e = .returned r ∧ Ext w w' := h ▸ sTileOf_any lo hi v t x y l w hv hh hx hy
theorem iTileOf_val {t : Tex} {x y l : Int} {r : Value} (h : t.tile x y l = r) (lo hi : Nat) (v : Value) (w : World) (hv : TexR lo hi w v t) (hh : hi ≤ w.heap.size) (hx : I64 x) (hy : I64 y) :
    Calls Try.prog 22 #[v, .int .i64 x, .int .i64 y, .int .i64 l] w fun e w' => e = .returned r ∧ Ext w w' := h ▸ iTileOf_any lo hi v t x y l w hv hh hx hy

/-- box B holds a value of three cells -/
structure TBox3 (w : World) (B : Nat) (a b c : Value) : Prop where
  lt : B < w.heap.size
  c0 : w.cell? ⟨B, 0, none⟩ = some a
  c1 : w.cell? ⟨B, 1, none⟩ = some b
  c2 : w.cell? ⟨B, 2, none⟩ = some c
theorem TBox3.ext {w w' : World} {B : Nat} {a b c : Value} (h : TBox3 w B a b c) (e : Ext w w') : TBox3 w' B a b c :=
  have k := e.cells.1
  ⟨Nat.lt_of_lt_of_le h.lt e.size, (k _ _ h.lt).trans h.c0, (k _ _ h.lt).trans h.c1, (k _ _ h.lt).trans h.c2⟩
theorem TBox3.made (w : World) (a b c : Value) (ty : TypeId) : TBox3 (w.alloc (.cells #[a, b, c] ty)) w.heap.size a b c := ⟨by simp, by simp [go_sem], by simp [go_sem], by simp [go_sem]⟩

set_option maxRecDepth 10000 in
set_option maxHeartbeats 4000000 in
theorem lawTile (v : Value) (t : Tex) (x y l : Int) (W : World) (hv : TexR 0 W.heap.size W v t) (hx : I64 x) (hy : I64 y) (_hl : I64 l) :
    Calls Try.prog 6 #[v, .int .i64 x, .int .i64 y, .int .i64 l] W fun e w' => e = .returned (.bool true) ∧ Ext W w' := by
  obtain ⟨u, rfl, hlog⟩ := hv.shape
  obtain ⟨ta, tb, tc, hr⟩ := t.tile_form x y l
  have HR := hid hr
  have HV := hid hv
  have KX := hid hx
  have KY := hid hy
  clear hr hv hx hy
  by_cases hlen : t.px.length ≤ 1048576
  · have hs := hid (show szRes 1048576 t.px.length = 1048576 - t.px.length by unfold szRes; rw [if_neg (by omega)])
    go_enter Try.func6, Try.ntmps6
    go_wp2_with fail
    refine (szTexture_val hs.out 0 W.heap.size _ _ (HV.out.ext (Nat.le_refl _) (by repeat (with_reducible (first | assumption | exact Ext.refl _ | apply Ext.alloc | apply Ext.drew | apply Ext.drewN)))) (by simp) (by decide) (by decide)).mono ?_
    rintro e w1 ⟨rfl, x1⟩
    have P1 := (TBox.made W (.int .i64 t.log) u _).ext x1
    have E1 : Ext W w1 := Ext.trans (by repeat (with_reducible (first | assumption | exact Ext.refl _ | apply Ext.alloc | apply Ext.drew | apply Ext.drewN))) x1
    have p0 := P1.lt
    have p1 := P1.c0
    have p2 := P1.c1
    go_wp2_with fail
    refine (toTexture_any 0 W.heap.size _ t _ (HV.out.ext (Nat.le_refl _) E1) E1.size hlen).mono ?_
    rintro e w2 ⟨v2, rfl, O2, x2⟩
    go_wp2_with fail
    refine (sTileOf_val HR.out _ _ _ _ O2.tex (Nat.le_refl _) KX.out KY.out).mono ?_
    rintro e w3 ⟨rfl, x3⟩
    have P3 := (P1.ext x2).ext x3
    have E3 := (E1.trans x2).trans x3
    clear p0 p1 p2 P1
    have p0 := P3.lt
    have p1 := P3.c0
    have p2 := P3.c1
    go_wp2_with fail
    refine (toTexture_any 0 W.heap.size _ t _ (HV.out.ext (Nat.le_refl _) (by repeat (with_reducible (first | assumption | exact Ext.refl _ | apply Ext.alloc | apply Ext.drew | apply Ext.drewN)))) (by have := E3.size; simp; omega) hlen).mono ?_
    rintro e w4 ⟨v4, rfl, O4, x4⟩
    have y4 : Ext w3 w4 := Ext.trans (by repeat (with_reducible (first | assumption | exact Ext.refl _ | apply Ext.alloc | apply Ext.drew | apply Ext.drewN))) x4
    have P4 := P3.ext y4
    have Q4 := (TBox3.made w3 (.int .i64 ta) (.int .i64 tb) (.int .i64 tc) _).ext x4
    have E4 := E3.trans y4
    obtain ⟨a4, c4, rfl, _⟩ := O4.form
    clear p0 p1 p2 P3
    have p0 := P4.lt
    have p1 := P4.c0
    have p2 := P4.c1
    have q0 := Q4.lt
    have q1 := Q4.c0
    have q2 := Q4.c1
    have q3 := Q4.c2
    go_wp2_with fail
    refine (iTileOf_val HR.out _ _ _ _ (O4.tex.ext (Nat.le_refl _) (by repeat (with_reducible (first | assumption | exact Ext.refl _ | apply Ext.alloc | apply Ext.drew | apply Ext.drewN)))) (by simp) KX.out KY.out).mono ?_
    rintro e w5 ⟨rfl, x5⟩
    have y5 : Ext w4 w5 := Ext.trans (by repeat (with_reducible (first | assumption | exact Ext.refl _ | apply Ext.alloc | apply Ext.drew | apply Ext.drewN))) x5
    have P5 := P4.ext y5
    have Q5 := Q4.ext y5
    have S5 := (TBox.made w4 (.int .i64 t.log) (.slice a4 t.px.length c4) _).ext x5
    have O45 := O4.ext y5
    have E5 := E4.trans y5
    clear p0 p1 p2 q0 q1 q2 q3 P4 Q4
    have p0 := P5.lt
    have p1 := P5.c0
    have p2 := P5.c1
    have q0 := Q5.lt
    have q1 := Q5.c0
    have q2 := Q5.c1
    have q3 := Q5.c2
    have s0 := S5.lt
    have s1 := S5.c0
    have s2 := S5.c1
    go_wp2_with fail
    refine (eqTile_same _ _ _ _).mono ?_
    rintro e w6 ⟨rfl, x6⟩
    have y6 : Ext w5 w6 := Ext.trans (by repeat (with_reducible (first | assumption | exact Ext.refl _ | apply Ext.alloc | apply Ext.drew | apply Ext.drewN))) x6
    have P6 := P5.ext y6
    have S6 := S5.ext y6
    have O46 := O45.ext y6
    have E6 := E5.trans y6
    clear p0 p1 p2 q0 q1 q2 q3 s0 s1 s2 P5 Q5 S5
    have p0 := P6.lt
    have p1 := P6.c0
    have p2 := P6.c1
    have s0 := S6.lt
    have s1 := S6.c0
    have s2 := S6.c1
    go_wp2_with fail
    refine wp_region_stages [([0, 1], 2), ([], 3), ([], 4)] 99 w6.heap.size (by kernel_rfl) (by kernel_rfl) ?_
    refine wpStages_cons ?_
    simp only [List.filterMap_cons, List.filterMap_nil, List.getElem?_toArray, List.getElem?_cons_zero, List.getElem?_cons_succ]
    show wpQuiet _ _ _ _ [_, _] _
    repeat (go_big_quiet_step (fail))
    refine wpQuiet_nil ⟨_, rfl, fun K hK => ?_⟩
    go_wp2_with fail
    refine (toTexture_any 0 W.heap.size _ t _ (HV.out.ext (Nat.le_refl _) (by repeat (with_reducible (first | assumption | exact Ext.refl _ | apply Ext.alloc | apply Ext.drew | apply Ext.drewN)))) (by have := E6.size; simp; omega) hlen).mono ?_
    rintro e w7 ⟨v7, rfl, O7, x7⟩
    have y7 : Ext w6 w7 := Ext.trans (by repeat (with_reducible (first | assumption | exact Ext.refl _ | apply Ext.alloc | apply Ext.drew | apply Ext.drewN))) x7
    go_wp2_with fail
    refine hK _ _ (.inr (y7.same (Nat.le_refl _))) ?_
    clear hK K
    refine wpStages_cons ?_
    simp only [List.filterMap_nil]
    show wpQuiet _ _ _ _ [] _
    try simp only [Act.put, List.setIfInBounds_toArray, List.set_cons_succ, List.set_cons_zero]
    refine wpQuiet_nil ⟨_, rfl, fun K hK => ?_⟩
    go_wp2_with fail
    refine (eqTexture_same _ _ _ _ _ _ t _ ((O46.ext y7).tex) (Nat.le_refl _) (O7.tex) (Nat.le_refl _)).mono ?_
    rintro e w8 ⟨rfl, x8⟩
    have y8 : Ext w6 w8 := y7.trans x8
    go_wp2_with fail
    refine hK _ _ (.inr (y8.same (Nat.le_refl _))) ?_
    clear hK K
    refine wpStages_cons ?_
    simp only [List.filterMap_nil]
    show wpQuiet _ _ _ _ [] _
    try simp only [Act.put, List.setIfInBounds_toArray, List.set_cons_succ, List.set_cons_zero]
    refine wpQuiet_nil ⟨_, rfl, fun K hK => ?_⟩
    go_wp2_with fail
    refine hK _ _ (.inr (y8.same (Nat.le_refl _))) ?_
    clear hK K
    refine wpStages_nil ?_
    have E8 := E6.trans y8
    go_wp2_with fail
    go_ret
    exact ⟨rfl, E8⟩
  · have hs := hid (show szRes 1048576 t.px.length = -1 by unfold szRes; rw [if_pos (by omega)])
    go_enter Try.func6, Try.ntmps6
    go_wp2_with fail
    refine (szTexture_val hs.out 0 W.heap.size _ _ (HV.out.ext (Nat.le_refl _) (by repeat (with_reducible (first | assumption | exact Ext.refl _ | apply Ext.alloc | apply Ext.drew | apply Ext.drewN)))) (by simp) (by decide) (by decide)).mono ?_
    rintro e w1 ⟨rfl, x1⟩
    have E1 : Ext W w1 := Ext.trans (by repeat (with_reducible (first | assumption | exact Ext.refl _ | apply Ext.alloc | apply Ext.drew | apply Ext.drewN))) x1
    go_wp2_with fail
    go_ret
    exact ⟨rfl, E1⟩
end Go.Proofs.Ytllaghphdgbmeaa
