/- This text proves that the law on MipLevel returns true, whatever the texture and the level. -/
import Derived.Test.YtllaghphdgbmeaaLawKit
import Derived.Test.YtllaghphdgbmeaaL15h
namespace Go.Proofs.Ytllaghphdgbmeaa
open Go.RowKit

theorem sMipLevel_val {t t2 : Tex} {l : Int} {b : Bool} (h : t.mipR l = (t2, b)) (lo hi : Nat) (v : Value) (w : World) (hv : TexR lo hi w v t) (hh : hi ≤ w.heap.size) :
    Calls Try.prog 19 #[v, .int .i64 l] w fun e w' => ∃ v', e = .returned (.tuple #[v', .bool b]) ∧ OwnTex w.heap.size w' v' t2 ∧ Ext w w' := by
  have := sMipLevel_any lo hi v t l w hv hh
  rw [h] at this
  exact this
theorem iMipLevel_val {t t2 : Tex} {l : Int} {b : Bool} (h : t.mipR l = (t2, b)) (lo hi : Nat) (v : Value) (w : World) (hv : TexR lo hi w v t) (hh : hi ≤ w.heap.size) :
    Calls Try.prog 20 #[v, .int .i64 l] w fun e w' => ∃ v', e = .returned (.tuple #[v', .bool b]) ∧ OwnTex w.heap.size w' v' t2 ∧ Ext w w' := by
  have := iMipLevel_any lo hi v t l w hv hh
  rw [h] at this
  exact this

set_option maxRecDepth 10000 in
set_option maxHeartbeats 4000000 in
theorem lawMip (v : Value) (t : Tex) (l : Int) (W : World) (hv : TexR 0 W.heap.size W v t) (_hl : I64 l) :
    Calls Try.prog 5 #[v, .int .i64 l] W fun e w' => e = .returned (.bool true) ∧ Ext W w' := by
  obtain ⟨u, rfl, hlog⟩ := hv.shape
  obtain ⟨t2, b, hr⟩ : ∃ t2 b, t.mipR l = (t2, b) := ⟨_, _, rfl⟩
  have hn2 : t2.px.length ≤ 1048576 := by have := mipR_small t l; rw [hr] at this; exact this
  have HR := hid hr
  have HV := hid hv
  clear hr hv
  by_cases hlen : t.px.length ≤ 1048576
  · have hs := hid (show szRes 1048576 t.px.length = 1048576 - t.px.length by unfold szRes; rw [if_neg (by omega)])
    go_enter Try.func5, Try.ntmps5
    go_wp2_with fail
    refine (szTexture_val hs.out 0 W.heap.size _ _ (HV.out.ext (Nat.le_refl _) (by repeat (with_reducible (first | assumption | exact Ext.refl _ | apply Ext.alloc | apply Ext.drew | apply Ext.drewN)))) (by simp) (by decide) (by decide)).mono ?_
    rintro e w1 ⟨rfl, x1⟩
    have P1 := (TBox.made W (.int .i64 t.log) u _).ext x1
    have E1 : Ext W w1 := Ext.trans (by repeat (with_reducible (first | assumption | exact Ext.refl _ | apply Ext.alloc | apply Ext.drew | apply Ext.drewN))) x1
    have p0 := P1.lt
    have p1 := P1.c0
    have p2 := P1.c1
    go_wp2_with fail
    refine (toTexture_any 0 W.heap.size _ t _ (HV.out.ext (Nat.le_refl _) E1) E1.size hlen).mono ?_
    rintro e w2 ⟨v2, rfl, O2, x2⟩
    go_wp2_with fail
    refine (sMipLevel_val HR.out _ _ _ _ O2.tex (Nat.le_refl _)).mono ?_
    rintro e w3 ⟨v3, rfl, O3, x3⟩
    have P3 := (P1.ext x2).ext x3
    have E3 := (E1.trans x2).trans x3
    obtain ⟨a3, c3, rfl, _⟩ := O3.form
    clear p0 p1 p2 P1
    have p0 := P3.lt
    have p1 := P3.c0
    have p2 := P3.c1
    go_wp2_with fail
    refine (toTexture_any 0 W.heap.size _ t _ (HV.out.ext (Nat.le_refl _) (by repeat (with_reducible (first | assumption | exact Ext.refl _ | apply Ext.alloc | apply Ext.drew | apply Ext.drewN)))) (by have := E3.size; simp; omega) hlen).mono ?_
    rintro e w4 ⟨v4, rfl, O4, x4⟩
    have y4 : Ext w3 w4 := Ext.trans (by repeat (with_reducible (first | assumption | exact Ext.refl _ | apply Ext.alloc | apply Ext.drew | apply Ext.drewN))) x4
    have P4 := P3.ext y4
    have Q4 := (TBox.made w3 (.int .i64 t2.log) (.slice a3 t2.px.length c3) _).ext x4
    have R4 := O3.tex.ext (Nat.le_refl _) y4
    have E4 := E3.trans y4
    obtain ⟨a4, c4, rfl, _⟩ := O4.form
    clear p0 p1 p2 P3
    have p0 := P4.lt
    have p1 := P4.c0
    have p2 := P4.c1
    have q0 := Q4.lt
    have q1 := Q4.c0
    have q2 := Q4.c1
    go_wp2_with fail
    refine (iMipLevel_val HR.out _ _ _ _ (O4.tex.ext (Nat.le_refl _) (by repeat (with_reducible (first | assumption | exact Ext.refl _ | apply Ext.alloc | apply Ext.drew | apply Ext.drewN)))) (by simp)).mono ?_
    rintro e w5 ⟨v5, rfl, O5, x5⟩
    have y5 : Ext w4 w5 := Ext.trans (by repeat (with_reducible (first | assumption | exact Ext.refl _ | apply Ext.alloc | apply Ext.drew | apply Ext.drewN))) x5
    have P5 := P4.ext y5
    have Q5 := Q4.ext y5
    have S5 := (TBox.made w4 (.int .i64 t.log) (.slice a4 t.px.length c4) _).ext x5
    have R5 := R4.ext (by have := y4.size; omega) y5
    have O45 := O4.ext y5
    have E5 := E4.trans y5
    have z3 := y4.size
    have z4 := x4.size
    have z5 := x5.size
    simp only [World.size_alloc] at z4 z5
    obtain ⟨a5, c5, rfl, _⟩ := O5.form
    clear p0 p1 p2 q0 q1 q2 P4 Q4 R4
    have p0 := P5.lt
    have p1 := P5.c0
    have p2 := P5.c1
    have q0 := Q5.lt
    have q1 := Q5.c0
    have q2 := Q5.c1
    have s0 := S5.lt
    have s1 := S5.c0
    have s2 := S5.c1
    go_wp2_with fail
    refine (eqTexture_same _ _ _ _ _ _ t2 _ (O5.tex.ext (Nat.le_refl _) (by repeat (with_reducible (first | assumption | exact Ext.refl _ | apply Ext.alloc | apply Ext.drew | apply Ext.drewN)))) (by simp) (R5.ext (by omega) (by repeat (with_reducible (first | assumption | exact Ext.refl _ | apply Ext.alloc | apply Ext.drew | apply Ext.drewN)))) (by simp; omega)).mono ?_
    rintro e w6 ⟨rfl, x6⟩
    have y6 : Ext w5 w6 := Ext.trans (by repeat (with_reducible (first | assumption | exact Ext.refl _ | apply Ext.alloc | apply Ext.drew | apply Ext.drewN))) x6
    have P6 := P5.ext y6
    have Q6 := Q5.ext y6
    have S6 := S5.ext y6
    have G6 := (TBox.made w5 (.int .i64 t2.log) (.slice a5 t2.px.length c5) _).ext x6
    have R6 := R5.ext (by omega) y6
    have O46 := O45.ext y6
    have O56 := O5.ext y6
    have E6 := E5.trans y6
    have z6 := x6.size
    simp only [World.size_alloc] at z6
    clear p0 p1 p2 q0 q1 q2 s0 s1 s2 P5 Q5 S5 R5
    have p0 := P6.lt
    have p1 := P6.c0
    have p2 := P6.c1
    have q0 := Q6.lt
    have q1 := Q6.c0
    have q2 := Q6.c1
    have s0 := S6.lt
    have s1 := S6.c0
    have s2 := S6.c1
    have g0 := G6.lt
    have g1 := G6.c0
    have g2 := G6.c1
    go_wp2_with fail
    refine wp_region_stages [([0, 1], 2), ([], 3), ([], 4)] 99 w6.heap.size (by kernel_rfl) (by kernel_rfl) ?_
    refine wpStages_cons ?_
    simp only [List.filterMap_cons, List.filterMap_nil, List.getElem?_toArray, List.getElem?_cons_zero, List.getElem?_cons_succ]
    show wpQuiet _ _ _ _ [_, _] _
    repeat (go_big_quiet_step (fail))
    refine wpQuiet_nil ⟨_, rfl, fun K hK => ?_⟩
    go_wp2_with fail
    refine (toTexture_any 0 W.heap.size _ t _ (HV.out.ext (Nat.le_refl _) (by repeat (with_reducible (first | assumption | exact Ext.refl _ | apply Ext.alloc | apply Ext.drew | apply Ext.drewN)))) (by have := E6.size; simp; omega) hlen).mono ?_
    rintro e w7 ⟨v7, rfl, O7, x7⟩
    have y7 : Ext w6 w7 := Ext.trans (by repeat (with_reducible (first | assumption | exact Ext.refl _ | apply Ext.alloc | apply Ext.drew | apply Ext.drewN))) x7
    go_wp2_with fail
    refine hK _ _ (.inr (y7.same (Nat.le_refl _))) ?_
    clear hK K
    refine wpStages_cons ?_
    simp only [List.filterMap_nil]
    show wpQuiet _ _ _ _ [] _
    try simp only [Act.put, List.setIfInBounds_toArray, List.set_cons_succ, List.set_cons_zero]
    refine wpQuiet_nil ⟨_, rfl, fun K hK => ?_⟩
    go_wp2_with fail
    refine (eqTexture_same _ _ _ _ _ _ t _ ((O46.ext y7).tex) (Nat.le_refl _) (O7.tex) (Nat.le_refl _)).mono ?_
    rintro e w8 ⟨rfl, x8⟩
    have y8 : Ext w6 w8 := y7.trans x8
    go_wp2_with fail
    refine hK _ _ (.inr (y8.same (Nat.le_refl _))) ?_
    clear hK K
    refine wpStages_cons ?_
    simp only [List.filterMap_nil]
    show wpQuiet _ _ _ _ [] _
    try simp only [Act.put, List.setIfInBounds_toArray, List.set_cons_succ, List.set_cons_zero]
    refine wpQuiet_nil ⟨_, rfl, fun K hK => ?_⟩
    go_wp2_with fail
    refine hK _ _ (.inr (y8.same (Nat.le_refl _))) ?_
    clear hK K
    refine wpStages_nil ?_
    have P8 := P6.ext y8
    have Q8 := Q6.ext y8
    have S8 := S6.ext y8
    have G8 := G6.ext y8
    have R8 := R6.ext (by omega) y8
    have O48 := O46.ext y8
    have O58 := O56.ext y8
    have E8 := E6.trans y8
    have z8 := y8.size
    clear p0 p1 p2 q0 q1 q2 s0 s1 s2 g0 g1 g2 P6 Q6 S6 G6 R6 O46 O56
    have p0 := P8.lt
    have p1 := P8.c0
    have p2 := P8.c1
    have q0 := Q8.lt
    have q1 := Q8.c0
    have q2 := Q8.c1
    have s0 := S8.lt
    have s1 := S8.c0
    have s2 := S8.c1
    have g0 := G8.lt
    have g1 := G8.c0
    have g2 := G8.c1
    go_wp2_with fail
    have zW : W.heap.size < w3.heap.size + 1 := by have := E3.size; omega
    refine (markTexture_in _ w4.heap.size _ t _ O48 O4.under (by simp; omega) hlen).mono ?_
    rintro e w9 ⟨rfl, O9, p9⟩
    have z9 := p9.size
    have P9 := p9.box P8 (.inl (by simp; omega))
    have Q9 := p9.box Q8 (.inl (by simp))
    have S9 := p9.box S8 (.inr (Nat.le_refl _))
    have G9 := p9.box G8 (.inr (by omega))
    have R9 := R8.same (w' := w9) (fun b _ hb => p9.low.block b (by simp; omega))
    have O59 := O58.kept (w' := w9) (fun b hb hb' => p9.high b (by simp at hb; omega) hb')
    have E9 := p9.ext E8 (by simp; omega)
    clear p0 p1 p2 q0 q1 q2 s0 s1 s2 g0 g1 g2 P8 Q8 S8 G8 R8 O48 O58 O9 p9
    have p0 := P9.lt
    have p1 := P9.c0
    have p2 := P9.c1
    have q0 := Q9.lt
    have q1 := Q9.c0
    have q2 := Q9.c1
    have s0 := S9.lt
    have s1 := S9.c0
    have s2 := S9.c1
    have g0 := G9.lt
    have g1 := G9.c0
    have g2 := G9.c1
    go_wp2_with fail
    refine (eqTexture_same _ _ _ _ _ _ t2 _ O59.tex (Nat.le_refl _) R9 (by omega)).mono ?_
    rintro e w10 ⟨rfl, x10⟩
    have P10 := P9.ext x10
    have Q10 := Q9.ext x10
    have G10 := G9.ext x10
    have R10 := R9.ext (by omega) x10
    have O10 := O59.ext x10
    have E10 := E9.trans x10
    have z10 := x10.size
    clear p0 p1 p2 q0 q1 q2 s0 s1 s2 g0 g1 g2 P9 Q9 S9 G9 R9 O59
    have p0 := P10.lt
    have p1 := P10.c0
    have p2 := P10.c1
    have q0 := Q10.lt
    have q1 := Q10.c0
    have q2 := Q10.c1
    have g0 := G10.lt
    have g1 := G10.c0
    have g2 := G10.c1
    go_wp2_with fail
    refine (markTexture_in _ w5.heap.size _ t2 _ O10 O5.under (by simp; omega) hn2).mono ?_
    rintro e w11 ⟨rfl, O11, p11⟩
    have z11 := p11.size
    have P11 := p11.box P10 (.inl (by simp; omega))
    have Q11 := p11.box Q10 (.inl (by simp; omega))
    have G11 := p11.box G10 (.inr (Nat.le_refl _))
    have R11 := R10.same (w' := w11) (fun b _ hb => p11.low.block b (by simp; omega))
    have E11 := p11.ext E10 (by simp; omega)
    clear p0 p1 p2 q0 q1 q2 g0 g1 g2 P10 Q10 G10 R10 O10 p11
    have p0 := P11.lt
    have p1 := P11.c0
    have p2 := P11.c1
    have q0 := Q11.lt
    have q1 := Q11.c0
    have q2 := Q11.c1
    have g0 := G11.lt
    have g1 := G11.c0
    have g2 := G11.c1
    go_wp2_with fail
    refine (heldTexture_mark _ _ _ t2 _ O11.tex (Nat.le_refl _) hn2).mono ?_
    rintro e w12 ⟨rfl, x12⟩
    have P12 := P11.ext x12
    have Q12 := Q11.ext x12
    have G12 := G11.ext x12
    have R12 := R11.ext (by omega) x12
    have O12 := O11.ext x12
    have E12 := E11.trans x12
    have z12 := x12.size
    clear p0 p1 p2 q0 q1 q2 g0 g1 g2 P11 Q11 G11 R11 O11
    have p0 := P12.lt
    have p1 := P12.c0
    have p2 := P12.c1
    have q0 := Q12.lt
    have q1 := Q12.c0
    have q2 := Q12.c1
    have g0 := G12.lt
    have g1 := G12.c0
    have g2 := G12.c1
    go_wp2_with fail
    refine (toTexture_any 0 W.heap.size _ t _ (HV.out.ext (Nat.le_refl _) E12) E12.size hlen).mono ?_
    rintro e w13 ⟨v13, rfl, O13, x13⟩
    go_wp2_with fail
    refine (iMipLevel_val HR.out _ _ _ _ O13.tex (Nat.le_refl _)).mono ?_
    rintro e w14 ⟨v14, rfl, O14, x14⟩
    have y14 := x13.trans x14
    have Q14 := Q12.ext y14
    have G14 := G12.ext y14
    have R14 := R12.ext (by omega) y14
    have O54 := O12.ext y14
    have E14 := E12.trans y14
    have z14 := y14.size
    obtain ⟨a14, c14, rfl, _⟩ := O14.form
    clear p0 p1 p2 q0 q1 q2 g0 g1 g2 P12 Q12 G12 R12 O12
    have q0 := Q14.lt
    have q1 := Q14.c0
    have q2 := Q14.c1
    have g0 := G14.lt
    have g1 := G14.c0
    have g2 := G14.c1
    go_wp2_with fail
    refine (eqTexture_same _ _ _ _ _ _ t2 _ (O14.tex.ext (Nat.le_refl _) (by repeat (with_reducible (first | assumption | exact Ext.refl _ | apply Ext.alloc | apply Ext.drew | apply Ext.drewN)))) (by simp) (R14.ext (by omega) (by repeat (with_reducible (first | assumption | exact Ext.refl _ | apply Ext.alloc | apply Ext.drew | apply Ext.drewN)))) (by simp; omega)).mono ?_
    rintro e w15 ⟨rfl, x15⟩
    have y15 : Ext w14 w15 := Ext.trans (by repeat (with_reducible (first | assumption | exact Ext.refl _ | apply Ext.alloc | apply Ext.drew | apply Ext.drewN))) x15
    have G15 := G14.ext y15
    have O55 := O54.ext y15
    have E15 := E14.trans y15
    clear q0 q1 q2 g0 g1 g2 Q14 G14 R14 O54
    have g0 := G15.lt
    have g1 := G15.c0
    have g2 := G15.c1
    go_wp2_with fail
    refine (heldTexture_mark _ _ _ t2 _ O55.tex (Nat.le_refl _) hn2).mono ?_
    rintro e w16 ⟨rfl, x16⟩
    go_wp2_with fail
    go_ret
    exact ⟨rfl, E15.trans x16⟩
  · have hs := hid (show szRes 1048576 t.px.length = -1 by unfold szRes; rw [if_pos (by omega)])
    go_enter Try.func5, Try.ntmps5
    go_wp2_with fail
    refine (szTexture_val hs.out 0 W.heap.size _ _ (HV.out.ext (Nat.le_refl _) (by repeat (with_reducible (first | assumption | exact Ext.refl _ | apply Ext.alloc | apply Ext.drew | apply Ext.drewN)))) (by simp) (by decide) (by decide)).mono ?_
    rintro e w1 ⟨rfl, x1⟩
    have E1 : Ext W w1 := Ext.trans (by repeat (with_reducible (first | assumption | exact Ext.refl _ | apply Ext.alloc | apply Ext.drew | apply Ext.drewN))) x1
    go_wp2_with fail
    go_ret
    exact ⟨rfl, E1⟩
end Go.Proofs.Ytllaghphdgbmeaa
