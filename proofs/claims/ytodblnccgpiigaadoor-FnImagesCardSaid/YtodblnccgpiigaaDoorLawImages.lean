/- This text walks the law FnImages. -/
import Derived.Test.YtodblnccgpiigaaDoorDrawI
import Derived.Test.YtodblnccgpiigaaDoorImgC
import Derived.Test.YtodblnccgpiigaaDoorImgG
import Derived.Test.YtodblnccgpiigaaDoorImgK
import Derived.Test.YtodblnccgpiigaaDoorImgR
import Derived.Test.YtodblnccgpiigaaDoorImgJ
namespace Go.Proofs.YtodblnccgpiigaaDoor
open Go.RowKit

theorem flip_ok {I : Pic} (h : I.okB = true) : (⟨I.w, I.h, flipR I.w.toNat I.h.toNat I.px⟩ : Pic).okB = true := by
  unfold Pic.okB at *
  rw [flipR_all, flipR_length]
  exact h
theorem flip_back {I : Pic} (h : I.okB = true) : flipR I.w.toNat I.h.toNat (flipR I.w.toNat I.h.toNat I.px) = I.px := by
  obtain ⟨W, H, e, _, _, hl⟩ := Pic.ok_shape h
  have h1 : I.w.toNat = W := by rw [e]; simp
  have h2 : I.h.toNat = H := by rw [e]; simp
  rw [h1, h2]
  exact flipR_twice W H I.px (by omega)
theorem Pic.Own.form2 {I : Pic} {lo : Nat} {w : World} {v : Value} (h : I.Own lo w v) : ∃ a n c, v = .agg #[.int .i64 I.w, .int .i64 I.h, .slice a n c] := by
  obtain ⟨a, c, e⟩ := h.form
  exact ⟨a, _, c, e⟩

set_option maxRecDepth 10000 in
set_option maxHeartbeats 4000000 in
theorem lawImages (v : Value) (n : Nat) (W : World) (hv : Byts W.heap.size W v n) (ht : Laid W) :
    Calls Tryd.prog 3 #[v] W fun e w' => e = .returned (.bool true) ∧ Ext W w' := by
  have HT := hid ht
  have HV := hid hv
  obtain ⟨a, cap, rfl, k1, k2⟩ := hv.open
  clear hv ht
  by_cases hn : n ≤ 1048576
  · go_enter Tryd.func3, Tryd.ntmps3
    go_wp2_with fail
    refine (MakeImage_any W.heap.size _ n 0 _ HV.out (Nat.le_refl _) hn (by decide)).mono ?_
    rintro e w1 ⟨v1, I, rfl, O1, hok, x1⟩
    obtain ⟨a1, n1, c1, rfl⟩ := O1.form2
    have HK := hid hok
    have hres := hid (resI_text hok)
    have hts := (picS_text hok).2.2
    have y1 : Ext w1 (w1.alloc (.cells #[.int .i64 I.w, .int .i64 I.h, .slice a1 n1 c1] 25)) := (by repeat (with_reducible (first | assumption | exact Ext.refl _ | apply Ext.alloc | apply Ext.drew | apply Ext.drewN)))
    have A1 := Blk.new w1 25 [.int .i64 I.w, .int .i64 I.h, .slice a1 n1 c1]
    have R1 := O1.R.ext (Nat.le_refl _) y1
    have E1 := x1.trans y1
    clear O1 hok x1
    have p0 := A1.cell 0 rfl
    have p1 := A1.cell 1 rfl
    have p2 := A1.cell 2 rfl
    have pz := A1.lt
    go_wp2_with fail
    refine (iFormatImage_any _ _ _ I _ R1 y1.size (HT.out.1.ext E1)).mono ?_
    rintro e w2 ⟨rfl, x2⟩
    obtain ⟨T, hT⟩ : ∃ T, I.text = T := ⟨_, rfl⟩
    rw [hT] at hts hres ⊢
    clear hT
    go_wp2_with fail
    refine (iParseImage_any T _ hts (HT.out.ext (E1.trans x2))).mono ?_
    rw [hres.out]
    rintro e w3 ⟨v3, rfl, O3, x3⟩
    obtain ⟨a3, n3, c3, rfl⟩ := O3.form2
    have y3 : Ext w3 (w3.alloc (.cells #[.int .i64 I.w, .int .i64 I.h, .slice a3 n3 c3] 25)) := (by repeat (with_reducible (first | assumption | exact Ext.refl _ | apply Ext.alloc | apply Ext.drew | apply Ext.drewN)))
    have z23 := (x2.trans x3).size
    rw [World.size_alloc] at z23
    have A3 := (A1.ext (x2.trans x3)).ext y3
    have B3 := Blk.new w3 25 [.int .i64 I.w, .int .i64 I.h, .slice a3 n3 c3]
    have R3 := (R1.ext y1.size (x2.trans x3)).ext (by omega) y3
    have Q3 := O3.R.ext (Nat.le_refl _) y3
    have E3 := (E1.trans (x2.trans x3)).trans y3
    clear p0 p1 p2 pz A1 R1 E1 O3 x2 x3 y1 y3
    have p0 := A3.cell 0 rfl
    have p1 := A3.cell 1 rfl
    have p2 := A3.cell 2 rfl
    have pz := A3.lt
    go_wp2_with fail
    refine (CropImage_whole _ _ _ I _ R3 (by simp; omega) HK.out).mono ?_
    rintro e w4 ⟨v4, rfl, O4, x4⟩
    obtain ⟨a4, n4, c4, rfl⟩ := O4.form2
    have y4 : Ext w4 (w4.alloc (.cells #[.int .i64 I.w, .int .i64 I.h, .slice a4 n4 c4] 25)) := (by repeat (with_reducible (first | assumption | exact Ext.refl _ | apply Ext.alloc | apply Ext.drew | apply Ext.drewN)))
    have z4 := x4.size
    rw [World.size_alloc] at z4
    have A4 := (A3.ext x4).ext y4
    have B4 := (B3.ext x4).ext y4
    have C4 := Blk.new w4 25 [.int .i64 I.w, .int .i64 I.h, .slice a4 n4 c4]
    have R4 := (R3.ext (by simp; omega) x4).ext (by omega) y4
    have Q4 := (Q3.ext (by simp) x4).ext (by omega) y4
    have S4 := O4.R.ext (Nat.le_refl _) y4
    have E4 := (E3.trans x4).trans y4
    clear p0 p1 p2 pz A3 B3 R3 Q3 E3 O4 x4 y4
    have p0 := A4.cell 0 rfl
    have p1 := A4.cell 1 rfl
    have p2 := A4.cell 2 rfl
    have pz := A4.lt
    have q0 := B4.cell 0 rfl
    have q1 := B4.cell 1 rfl
    have q2 := B4.cell 2 rfl
    have qz := B4.lt
    go_wp2_with fail
    refine (CompareImages_one _ _ _ _ _ _ I _ R4 (by simp; omega) Q4 (by simp; omega) HK.out).mono ?_
    rintro e w5 ⟨rfl, x5⟩
    have z5 := x5.size
    rw [World.size_alloc] at z5
    have A5 := A4.ext x5
    have B5 := B4.ext x5
    have C5 := C4.ext x5
    have R5 := R4.ext (by simp; omega) x5
    have Q5 := Q4.ext (by simp; omega) x5
    have S5 := S4.ext (by simp) x5
    have E5 := E4.trans x5
    clear p0 p1 p2 pz q0 q1 q2 qz A4 B4 C4 R4 Q4 S4 E4 x5
    have p0 := A5.cell 0 rfl
    have p1 := A5.cell 1 rfl
    have p2 := A5.cell 2 rfl
    have pz := A5.lt
    have q0 := B5.cell 0 rfl
    have q1 := B5.cell 1 rfl
    have q2 := B5.cell 2 rfl
    have qz := B5.lt
    have r0 := C5.cell 0 rfl
    have r1 := C5.cell 1 rfl
    have r2 := C5.cell 2 rfl
    have rz := C5.lt
    go_wp2
    refine wp_region_stages [([0, 1, 2, 3, 4, 5, 6, 7, 8, 9, 10, 11, 12, 13, 14, 15, 16, 17], 18), ([19, 20, 21, 22], 23), ([24, 25, 26, 29], 27), ([], 28), ([], 30), ([31, 32, 33, 35], 34), ([], 36), ([37, 38, 39, 40], 41), ([42, 43], 44)] 99 w5.heap.size (by kernel_rfl) (by kernel_rfl) ?_
    refine wpStages_cons ?_
    simp only [List.filterMap_cons, List.filterMap_nil, List.getElem?_toArray, List.getElem?_cons_zero, List.getElem?_cons_succ]
    show wpQuiet _ _ _ _ [_, _, _, _, _, _, _, _, _, _, _, _, _, _, _, _, _, _] _
    repeat (go_big_quiet_step (fail))
    refine wpQuiet_nil ⟨_, rfl, fun K hK => ?_⟩
    go_wp2_with fail
    refine (SameImage_one _ _ _ _ _ _ I _ (R5.ext (by omega) (by repeat (with_reducible (first | assumption | exact Ext.refl _ | apply Ext.alloc | apply Ext.drew | apply Ext.drewN)))) (by simp; omega) (Q5.ext (by omega) (by repeat (with_reducible (first | assumption | exact Ext.refl _ | apply Ext.alloc | apply Ext.drew | apply Ext.drewN)))) (by simp; omega) HK.out).mono ?_
    rintro e w6 ⟨rfl, x6⟩
    have y6 : Ext w5 w6 := Ext.trans (by repeat (with_reducible (first | assumption | exact Ext.refl _ | apply Ext.alloc | apply Ext.drew | apply Ext.drewN))) x6
    go_wp2_with fail
    refine hK _ _ (.inr (y6.same (Nat.le_refl _))) ?_
    clear hK K x6
    refine wpStages_cons ?_
    simp only [List.filterMap_cons, List.filterMap_nil, List.getElem?_toArray, List.getElem?_cons_zero, List.getElem?_cons_succ]
    show wpQuiet _ _ _ _ [_, _, _, _] _
    try simp only [Act.put, List.getElem_toArray, List.getElem_cons_succ, List.getElem_cons_zero, List.setIfInBounds_toArray, List.set_cons_succ, List.set_cons_zero]
    repeat (go_big_quiet_step (fail))
    refine wpQuiet_nil ⟨_, rfl, fun K hK => ?_⟩
    go_wp2_with fail
    refine (SameImage_one _ _ _ _ _ _ I _ (R5.ext (by omega) y6) (by have := y6.size; omega) (S5.ext (by omega) y6) (by have := y6.size; omega) HK.out).mono ?_
    rintro e w7 ⟨rfl, x7⟩
    have y7 : Ext w5 w7 := y6.trans x7
    go_wp2_with fail
    refine hK _ _ (.inr (y7.same (Nat.le_refl _))) ?_
    clear hK K
    refine wpStages_cons ?_
    simp only [List.filterMap_cons, List.filterMap_nil, List.getElem?_toArray, List.getElem?_cons_zero, List.getElem?_cons_succ]
    show wpQuiet _ _ _ _ [_, _, _, _] _
    try simp only [Act.put, List.getElem_toArray, List.getElem_cons_succ, List.getElem_cons_zero, List.setIfInBounds_toArray, List.set_cons_succ, List.set_cons_zero]
    repeat (go_big_quiet_step (fail))
    refine wpQuiet_nil ⟨_, rfl, fun K hK => ?_⟩
    go_wp2_with fail
    refine (FlipImage_any _ _ _ I _ (R5.ext (by omega) y7) (by have := y7.size; omega) HK.out).mono ?_
    rintro e w8 ⟨v8, rfl, O8, x8⟩
    obtain ⟨a8, n8, c8, rfl⟩ := O8.form2
    have y8 : Ext w5 w8 := y7.trans x8
    have hok2 := hid (flip_ok HK.out)
    go_wp2_with fail
    refine hK _ _ (.inr (y8.same (Nat.le_refl _))) ?_
    clear hK K
    refine wpStages_cons ?_
    simp only [List.filterMap_nil]
    show wpQuiet _ _ _ _ [] _
    try simp only [Act.put, List.getElem_toArray, List.getElem_cons_succ, List.getElem_cons_zero, List.setIfInBounds_toArray, List.set_cons_succ, List.set_cons_zero]
    refine wpQuiet_nil ⟨_, rfl, fun K hK => ?_⟩
    go_wp2_with fail
    refine (FlipImage_any _ _ _ _ _ O8.R (Nat.le_refl _) hok2.out).mono ?_
    rintro e w9 ⟨v9, rfl, O9, x9⟩
    have hb := flip_back HK.out
    rw [hb] at O9
    obtain ⟨a9, n9, c9, rfl⟩ := O9.form2
    have y9 : Ext w5 w9 := y8.trans x9
    clear hb
    go_wp2_with fail
    refine hK _ _ (.inr (y9.same (Nat.le_refl _))) ?_
    clear hK K
    refine wpStages_cons ?_
    simp only [List.filterMap_nil]
    show wpQuiet _ _ _ _ [] _
    try simp only [Act.put, List.getElem_toArray, List.getElem_cons_succ, List.getElem_cons_zero, List.setIfInBounds_toArray, List.set_cons_succ, List.set_cons_zero]
    refine wpQuiet_nil ⟨_, rfl, fun K hK => ?_⟩
    go_wp2_with fail
    refine (SameImage_one _ _ _ _ _ _ I _ O9.R (Nat.le_refl _) (R5.ext (by omega) y9) (by have := y9.size; omega) HK.out).mono ?_
    rintro e w10 ⟨rfl, x10⟩
    have y10 : Ext w5 w10 := y9.trans x10
    clear O8 O9
    go_wp2_with fail
    refine hK _ _ (.inr (y10.same (Nat.le_refl _))) ?_
    clear hK K
    refine wpStages_cons ?_
    simp only [List.filterMap_cons, List.filterMap_nil, List.getElem?_toArray, List.getElem?_cons_zero, List.getElem?_cons_succ]
    show wpQuiet _ _ _ _ [_, _, _, _] _
    try simp only [Act.put, List.getElem_toArray, List.getElem_cons_succ, List.getElem_cons_zero, List.setIfInBounds_toArray, List.set_cons_succ, List.set_cons_zero]
    repeat (go_big_quiet_step (fail))
    refine wpQuiet_nil ⟨_, rfl, fun K hK => ?_⟩
    go_wp2_with fail
    refine (ImageDigest_any _ _ _ I _ (R5.ext (by omega) y10) (by have := y10.size; omega) HK.out).mono ?_
    rintro e w11 ⟨rfl, x11⟩
    obtain ⟨D, hD⟩ : ∃ D, hashI ([I.w, I.h] ++ I.px) = D := ⟨_, rfl⟩
    have hD0 : 0 ≤ D := hD ▸ (hashI_range _).1
    rw [hD]
    replace hD := hid hD
    have y11 : Ext w5 w11 := y10.trans x11
    go_wp2_with fail
    refine hK _ _ (.inr (y11.same (Nat.le_refl _))) ?_
    clear hK K
    refine wpStages_cons ?_
    simp only [List.filterMap_nil]
    show wpQuiet _ _ _ _ [] _
    try simp only [Act.put, List.getElem_toArray, List.getElem_cons_succ, List.getElem_cons_zero, List.setIfInBounds_toArray, List.set_cons_succ, List.set_cons_zero]
    refine wpQuiet_nil ⟨_, rfl, fun K hK => ?_⟩
    go_wp2_with fail
    refine (ImageDigest_any _ _ _ I _ (Q5.ext (by omega) y11) (by have := y11.size; omega) HK.out).mono ?_
    rw [hD.out]
    rintro e w12 ⟨rfl, x12⟩
    have y12 : Ext w5 w12 := y11.trans x12
    go_wp2_with fail
    refine hK _ _ (.inr (y12.same (Nat.le_refl _))) ?_
    clear hK K
    refine wpStages_cons ?_
    simp only [List.filterMap_cons, List.filterMap_nil, List.getElem?_toArray, List.getElem?_cons_zero, List.getElem?_cons_succ]
    show wpQuiet _ _ _ _ [_, _, _, _] _
    try simp only [Act.put, List.getElem_toArray, List.getElem_cons_succ, List.getElem_cons_zero, List.setIfInBounds_toArray, List.set_cons_succ, List.set_cons_zero]
    repeat (go_big_quiet_step (fail))
    refine wpQuiet_nil ⟨_, rfl, fun K hK => ?_⟩
    go_wp2_with fail
    refine (ImageDigest_any _ _ _ I _ (R5.ext (by omega) y12) (by have := y12.size; omega) HK.out).mono ?_
    rw [hD.out]
    rintro e w13 ⟨rfl, x13⟩
    have y13 : Ext w5 w13 := y12.trans x13
    go_wp2_with fail
    refine hK _ _ (.inr (y13.same (Nat.le_refl _))) ?_
    clear hK K
    refine wpStages_cons ?_
    simp only [List.filterMap_cons, List.filterMap_nil, List.getElem?_toArray, List.getElem?_cons_zero, List.getElem?_cons_succ]
    show wpQuiet _ _ _ _ [_, _] _
    try simp only [Act.put, List.getElem_toArray, List.getElem_cons_succ, List.getElem_cons_zero, List.setIfInBounds_toArray, List.set_cons_succ, List.set_cons_zero]
    repeat (go_big_quiet_step (fail))
    refine wpQuiet_nil ⟨_, rfl, fun K hK => ?_⟩
    go_wp2_with fail
    refine hK _ _ (.inr (y13.same (Nat.le_refl _))) ?_
    clear hK K
    refine wpStages_nil ?_
    go_wp2_with fail
    go_ret
    exact ⟨rfl, E5.trans y13⟩
  · go_enter Tryd.func3, Tryd.ntmps3
    go_wp2
    go_ret
    exact ⟨rfl, Ext.refl _⟩
end Go.Proofs.YtodblnccgpiigaaDoor
