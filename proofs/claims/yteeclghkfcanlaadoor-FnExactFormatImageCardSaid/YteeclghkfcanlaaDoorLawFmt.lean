/- This text walks the law FnExactFormatImage. -/
import Derived.Test.YteeclghkfcanlaaDoorPgm5
namespace Go.Proofs.YteeclghkfcanlaaDoor
open Go.RowKit

set_option maxRecDepth 10000 in
set_option maxHeartbeats 1600000 in
theorem lawFmt (v : Value) (I : Pic) (W : World) (hv : I.R 0 W.heap.size W v) (ht : Tab W) :
    Calls Tryd.prog 3 #[v] W fun e w' => e = .returned (.bool true) ∧ Ext W w' := by
  have HV := hid hv
  have HT := hid ht
  obtain ⟨u, rfl, _, _, _⟩ := hv
  have HS := fun (lo hi : Nat) (v : Value) (w : World) (hv : I.R lo hi w v) (hh : hi ≤ w.heap.size) => sFormatImage_any lo hi v I w hv hh
  have HI := fun (lo hi : Nat) (v : Value) (w : World) (hv : I.R lo hi w v) (hh : hi ≤ w.heap.size) (ht : Tab w) => iFormatImage_any lo hi v I w hv hh ht
  obtain ⟨t, hI⟩ : ∃ t, I.text = t := ⟨_, rfl⟩
  simp only [hI] at HS HI
  have HS := hid HS
  have HI := hid HI
  clear hI ht
  by_cases hlen : I.px.length ≤ 1048576
  · have hs := hid (show szRes 1048576 I.px.length = 1048576 - I.px.length by unfold szRes; rw [if_neg (by omega)])
    go_enter Tryd.func3, Tryd.ntmps3
    go_wp2_with fail
    refine (szImage_val hs.out 0 W.heap.size _ _ (HV.out.ext (Nat.le_refl _) (by repeat (with_reducible (first | assumption | exact Ext.refl _ | apply Ext.alloc | apply Ext.drew | apply Ext.drewN)))) (by simp)).mono ?_
    rintro e w1 ⟨rfl, x1⟩
    have P1 := (PBox.made W (.int .i64 I.w) (.int .i64 I.h) u _).ext x1
    have E1 : Ext W w1 := Ext.trans (by repeat (with_reducible (first | assumption | exact Ext.refl _ | apply Ext.alloc | apply Ext.drew | apply Ext.drewN))) x1
    have p0 := P1.lt
    have p1 := P1.c0
    have p2 := P1.c1
    have p3 := P1.c2
    go_wp2_with fail
    refine (toImage_any 0 W.heap.size _ I _ (HV.out.ext (Nat.le_refl _) E1) E1.size hlen).mono ?_
    rintro e w2 ⟨v2, rfl, O2, x2⟩
    go_wp2_with fail
    refine (HS.out _ _ _ _ O2.R (Nat.le_refl _)).mono ?_
    rintro e w3 ⟨rfl, x3⟩
    have P3 := (P1.ext x2).ext x3
    have E3 := (E1.trans x2).trans x3
    have z3 := E3.size
    clear p0 p1 p2 p3 P1 O2
    have p0 := P3.lt
    have p1 := P3.c0
    have p2 := P3.c1
    have p3 := P3.c2
    go_wp2_with fail
    refine (toImage_any 0 W.heap.size _ I _ (HV.out.ext (Nat.le_refl _) E3) E3.size hlen).mono ?_
    rintro e w4 ⟨v4, rfl, O4, x4⟩
    have P4 := P3.ext x4
    have E4 := E3.trans x4
    obtain ⟨a4, c4, rfl⟩ := O4.form
    clear p0 p1 p2 p3 P3
    have p0 := P4.lt
    have p1 := P4.c0
    have p2 := P4.c1
    have p3 := P4.c2
    go_wp2_with fail
    refine (HI.out _ _ _ _ (O4.R.ext (Nat.le_refl _) (by repeat (with_reducible (first | assumption | exact Ext.refl _ | apply Ext.alloc | apply Ext.drew | apply Ext.drewN)))) (by simp) (HT.out.ext (Ext.trans E4 (by repeat (with_reducible (first | assumption | exact Ext.refl _ | apply Ext.alloc | apply Ext.drew | apply Ext.drewN)))))).mono ?_
    rintro e w5 ⟨rfl, x5⟩
    have y5 : Ext w4 w5 := Ext.trans (by repeat (with_reducible (first | assumption | exact Ext.refl _ | apply Ext.alloc | apply Ext.drew | apply Ext.drewN))) x5
    have P5 := P4.ext y5
    have S5 := (PBox.made w4 (.int .i64 I.w) (.int .i64 I.h) (.slice a4 I.px.length c4) _).ext x5
    have O45 := O4.ext y5
    have E5 := E4.trans y5
    clear p0 p1 p2 p3 P4 O4
    have p0 := P5.lt
    have p1 := P5.c0
    have p2 := P5.c1
    have p3 := P5.c2
    have s0 := S5.lt
    have s1 := S5.c0
    have s2 := S5.c1
    have s3 := S5.c2
    go_wp2_with fail
    refine wp_region_stages [([0, 1], 2), ([], 3), ([], 4)] 99 w5.heap.size (by kernel_rfl) (by kernel_rfl) ?_
    refine wpStages_cons ?_
    simp only [List.filterMap_cons, List.filterMap_nil, List.getElem?_toArray, List.getElem?_cons_zero, List.getElem?_cons_succ]
    show wpQuiet _ _ _ _ [_, _] _
    repeat (go_big_quiet_step (fail))
    refine wpQuiet_nil ⟨_, rfl, fun K hK => ?_⟩
    go_wp2_with fail
    refine (toImage_any 0 W.heap.size _ I _ (HV.out.ext (Nat.le_refl _) (by repeat (with_reducible (first | assumption | exact Ext.refl _ | apply Ext.alloc | apply Ext.drew | apply Ext.drewN)))) (by have := E5.size; simp; omega) hlen).mono ?_
    rintro e w7 ⟨v7, rfl, O7, x7⟩
    have y7 : Ext w5 w7 := Ext.trans (by repeat (with_reducible (first | assumption | exact Ext.refl _ | apply Ext.alloc | apply Ext.drew | apply Ext.drewN))) x7
    go_wp2_with fail
    refine hK _ _ (.inr (y7.same (Nat.le_refl _))) ?_
    clear hK K
    refine wpStages_cons ?_
    simp only [List.filterMap_nil]
    show wpQuiet _ _ _ _ [] _
    try simp only [Act.put, List.getElem_toArray, List.getElem_cons_succ, List.getElem_cons_zero, List.setIfInBounds_toArray, List.set_cons_succ, List.set_cons_zero]
    refine wpQuiet_nil ⟨_, rfl, fun K hK => ?_⟩
    go_wp2_with fail
    refine (eqImage_one _ _ _ _ _ _ I _ ((O45.ext y7).R) (Nat.le_refl _) (O7.R) (Nat.le_refl _)).mono ?_
    rintro e w8 ⟨rfl, x8⟩
    have y8 : Ext w5 w8 := y7.trans x8
    go_wp2_with fail
    refine hK _ _ (.inr (y8.same (Nat.le_refl _))) ?_
    clear hK K
    refine wpStages_cons ?_
    simp only [List.filterMap_nil]
    show wpQuiet _ _ _ _ [] _
    try simp only [Act.put, List.getElem_toArray, List.getElem_cons_succ, List.getElem_cons_zero, List.setIfInBounds_toArray, List.set_cons_succ, List.set_cons_zero]
    refine wpQuiet_nil ⟨_, rfl, fun K hK => ?_⟩
    go_wp2_with fail
    refine hK _ _ (.inr (y8.same (Nat.le_refl _))) ?_
    clear hK K
    refine wpStages_nil ?_
    go_wp2_with fail
    go_ret
    exact ⟨rfl, E5.trans y8⟩
  · have hs := hid (show szRes 1048576 I.px.length = -1 by unfold szRes; rw [if_pos (by omega)])
    go_enter Tryd.func3, Tryd.ntmps3
    go_wp2_with fail
    refine (szImage_val hs.out 0 W.heap.size _ _ (HV.out.ext (Nat.le_refl _) (by repeat (with_reducible (first | assumption | exact Ext.refl _ | apply Ext.alloc | apply Ext.drew | apply Ext.drewN)))) (by simp)).mono ?_
    rintro e w1 ⟨rfl, x1⟩
    have E1 : Ext W w1 := Ext.trans (by repeat (with_reducible (first | assumption | exact Ext.refl _ | apply Ext.alloc | apply Ext.drew | apply Ext.drewN))) x1
    go_wp2_with fail
    go_ret
    exact ⟨rfl, E1⟩
end Go.Proofs.YteeclghkfcanlaaDoor
