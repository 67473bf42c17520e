/- This text proves that the law on Lookup returns true, whatever the arguments. -/
import Derived.Test.YtllaghphdgbmeaaLawKit
import Derived.Test.YtllaghphdgbmeaaL15k
namespace Go.Proofs.Ytllaghphdgbmeaa
open Go.RowKit

theorem sLookup_val {t : Tex} {x y l r : Int} (h : t.lookR x y l = r) (lo hi : Nat) (v : Value) (w : World) (hv : TexR lo hi w v t) (hh : hi ≤ w.heap.size) :
    Calls Try.prog 31 #[v, .int .i64 x, .int .i64 y, .int .i64 l] w fun e w' => e = .returned (.int .i64 r) ∧ Ext w w' := h ▸ sLookup_any lo hi v t x y l w hv hh
theorem iLookup_val {t : Tex} {x y l r : Int} (h : t.lookR x y l = r) (lo hi : Nat) (v : Value) (w : World) (hv : TexR lo hi w v t) (hh : hi ≤ w.heap.size) :
    Calls Try.prog 32 #[v, .int .i64 x, .int .i64 y, .int .i64 l] w fun e w' => e = .returned (.int .i64 r) ∧ Ext w w' := h ▸ iLookup_any lo hi v t x y l w hv hh

set_option maxRecDepth 10000 in
set_option maxHeartbeats 4000000 in
theorem lawLookup (v : Value) (t : Tex) (x y l : Int) (W : World) (hv : TexR 0 W.heap.size W v t) (_hx : I64 x) (_hy : I64 y) (_hl : I64 l) :
    Calls Try.prog 8 #[v, .int .i64 x, .int .i64 y, .int .i64 l] W fun e w' => e = .returned (.bool true) ∧ Ext W w' := by
  obtain ⟨u, rfl, hlog⟩ := hv.shape
  obtain ⟨r, hr⟩ : ∃ r, t.lookR x y l = r := ⟨_, rfl⟩
  have HR := hid hr
  have HV := hid hv
  clear hr hv
  by_cases hlen : t.px.length ≤ 1048576
  · have hs := hid (show szRes 1048576 t.px.length = 1048576 - t.px.length by unfold szRes; rw [if_neg (by omega)])
    go_enter Try.func8, Try.ntmps8
    go_wp2_with fail
    refine (szTexture_val hs.out 0 W.heap.size _ _ (HV.out.ext (Nat.le_refl _) (by repeat (with_reducible (first | assumption | exact Ext.refl _ | apply Ext.alloc | apply Ext.drew | apply Ext.drewN)))) (by simp) (by decide) (by decide)).mono ?_
    rintro e w1 ⟨rfl, x1⟩
    have P1 := (TBox.made W (.int .i64 t.log) u _).ext x1
    have E1 : Ext W w1 := Ext.trans (by repeat (with_reducible (first | assumption | exact Ext.refl _ | apply Ext.alloc | apply Ext.drew | apply Ext.drewN))) x1
    have p0 := P1.lt
    have p1 := P1.c0
    have p2 := P1.c1
    go_wp2_with fail
    refine (toTexture_any 0 W.heap.size _ t _ (HV.out.ext (Nat.le_refl _) E1) E1.size hlen).mono ?_
    rintro e w2 ⟨v2, rfl, O2, x2⟩
    go_wp2_with fail
    refine (sLookup_val HR.out _ _ _ _ O2.tex (Nat.le_refl _)).mono ?_
    rintro e w3 ⟨rfl, x3⟩
    have P3 := (P1.ext x2).ext x3
    have E3 := (E1.trans x2).trans x3
    clear p0 p1 p2 P1
    have p0 := P3.lt
    have p1 := P3.c0
    have p2 := P3.c1
    go_wp2_with fail
    refine (toTexture_any 0 W.heap.size _ t _ (HV.out.ext (Nat.le_refl _) E3) E3.size hlen).mono ?_
    rintro e w4 ⟨v4, rfl, O4, x4⟩
    have y4 : Ext w3 w4 := x4
    have P4 := P3.ext y4
    have E4 := E3.trans y4
    obtain ⟨a4, c4, rfl, _⟩ := O4.form
    clear p0 p1 p2 P3
    have p0 := P4.lt
    have p1 := P4.c0
    have p2 := P4.c1
    go_wp2_with fail
    refine (iLookup_val HR.out _ _ _ _ (O4.tex.ext (Nat.le_refl _) (by repeat (with_reducible (first | assumption | exact Ext.refl _ | apply Ext.alloc | apply Ext.drew | apply Ext.drewN)))) (by simp)).mono ?_
    rintro e w5 ⟨rfl, x5⟩
    have y5 : Ext w4 w5 := Ext.trans (by repeat (with_reducible (first | assumption | exact Ext.refl _ | apply Ext.alloc | apply Ext.drew | apply Ext.drewN))) x5
    have P5 := P4.ext y5
    have S5 := (TBox.made w4 (.int .i64 t.log) (.slice a4 t.px.length c4) _).ext x5
    have O45 := O4.ext y5
    have E5 := E4.trans y5
    clear p0 p1 p2 P4
    have p0 := P5.lt
    have p1 := P5.c0
    have p2 := P5.c1
    have s0 := S5.lt
    have s1 := S5.c0
    have s2 := S5.c1
    go_wp2_with fail
    refine wp_region_stages [([0, 1], 2), ([], 3), ([], 4)] 99 w5.heap.size (by kernel_rfl) (by kernel_rfl) ?_
    refine wpStages_cons ?_
    simp only [List.filterMap_cons, List.filterMap_nil, List.getElem?_toArray, List.getElem?_cons_zero, List.getElem?_cons_succ]
    show wpQuiet _ _ _ _ [_, _] _
    repeat (go_big_quiet_step (fail))
    refine wpQuiet_nil ⟨_, rfl, fun K hK => ?_⟩
    go_wp2_with fail
    refine (toTexture_any 0 W.heap.size _ t _ (HV.out.ext (Nat.le_refl _) (by repeat (with_reducible (first | assumption | exact Ext.refl _ | apply Ext.alloc | apply Ext.drew | apply Ext.drewN)))) (by have := E5.size; simp; omega) hlen).mono ?_
    rintro e w7 ⟨v7, rfl, O7, x7⟩
    have y7 : Ext w5 w7 := Ext.trans (by repeat (with_reducible (first | assumption | exact Ext.refl _ | apply Ext.alloc | apply Ext.drew | apply Ext.drewN))) x7
    go_wp2_with fail
    refine hK _ _ (.inr (y7.same (Nat.le_refl _))) ?_
    clear hK K
    refine wpStages_cons ?_
    simp only [List.filterMap_nil]
    show wpQuiet _ _ _ _ [] _
    try simp only [Act.put, List.setIfInBounds_toArray, List.set_cons_succ, List.set_cons_zero]
    refine wpQuiet_nil ⟨_, rfl, fun K hK => ?_⟩
    go_wp2_with fail
    refine (eqTexture_same _ _ _ _ _ _ t _ ((O45.ext y7).tex) (Nat.le_refl _) (O7.tex) (Nat.le_refl _)).mono ?_
    rintro e w8 ⟨rfl, x8⟩
    have y8 : Ext w5 w8 := y7.trans x8
    go_wp2_with fail
    refine hK _ _ (.inr (y8.same (Nat.le_refl _))) ?_
    clear hK K
    refine wpStages_cons ?_
    simp only [List.filterMap_nil]
    show wpQuiet _ _ _ _ [] _
    try simp only [Act.put, List.setIfInBounds_toArray, List.set_cons_succ, List.set_cons_zero]
    refine wpQuiet_nil ⟨_, rfl, fun K hK => ?_⟩
    go_wp2_with fail
    refine hK _ _ (.inr (y8.same (Nat.le_refl _))) ?_
    clear hK K
    refine wpStages_nil ?_
    have E8 := E5.trans y8
    go_wp2_with fail
    go_ret
    exact ⟨rfl, E8⟩
  · have hs := hid (show szRes 1048576 t.px.length = -1 by unfold szRes; rw [if_pos (by omega)])
    go_enter Try.func8, Try.ntmps8
    go_wp2_with fail
    refine (szTexture_val hs.out 0 W.heap.size _ _ (HV.out.ext (Nat.le_refl _) (by repeat (with_reducible (first | assumption | exact Ext.refl _ | apply Ext.alloc | apply Ext.drew | apply Ext.drewN)))) (by simp) (by decide) (by decide)).mono ?_
    rintro e w1 ⟨rfl, x1⟩
    have E1 : Ext W w1 := Ext.trans (by repeat (with_reducible (first | assumption | exact Ext.refl _ | apply Ext.alloc | apply Ext.drew | apply Ext.drewN))) x1
    go_wp2_with fail
    go_ret
    exact ⟨rfl, E1⟩
end Go.Proofs.Ytllaghphdgbmeaa
