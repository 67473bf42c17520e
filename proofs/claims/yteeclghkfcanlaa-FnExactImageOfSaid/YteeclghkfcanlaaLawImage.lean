/- This text walks the law FnExactImageOf. -/
import Derived.Test.YteeclghkfcanlaaFilm7
import Derived.Test.YteeclghkfcanlaaFilm4
namespace Go.Proofs.Yteeclghkfcanlaa
open Go.RowKit

/-- box B holds a value of three cells -/
structure IBox (w : World) (B : Nat) (a b c : Value) : Prop where
  lt : B < w.heap.size
  c0 : w.cell? ⟨B, 0, none⟩ = some a
  c1 : w.cell? ⟨B, 1, none⟩ = some b
  c2 : w.cell? ⟨B, 2, none⟩ = some c
theorem IBox.at {w w' : World} {B : Nat} {a b c : Value} (h : IBox w B a b c) (hz : w.heap.size ≤ w'.heap.size) (s : w'.heap[B]? = w.heap[B]?) : IBox w' B a b c :=
  ⟨Nat.lt_of_lt_of_le h.lt hz, (World.cell?_of_block (w := w) s).trans h.c0, (World.cell?_of_block (w := w) s).trans h.c1, (World.cell?_of_block (w := w) s).trans h.c2⟩
theorem IBox.ext {w w' : World} {B : Nat} {a b c : Value} (h : IBox w B a b c) (e : Ext w w') : IBox w' B a b c := h.at e.size (e.block h.lt)
theorem IBox.made (w : World) (a b c : Value) (ty : TypeId) : IBox (w.alloc (.cells #[a, b, c] ty)) w.heap.size a b c := ⟨by simp, by simp [go_sem], by simp [go_sem], by simp [go_sem]⟩
theorem Part.ibox {lo M : Nat} {w w' : World} {B : Nat} {a b c : Value} (p : Part lo M w w') (h : IBox w B a b c) (hB : B < lo ∨ M ≤ B) : IBox w' B a b c :=
  h.at p.size (hB.elim (fun k => p.low.block B k) (fun k => p.high B k h.lt))
theorem Part.qbox {lo M : Nat} {w w' : World} {B : Nat} {a b c d : Value} (p : Part lo M w w') (h : QBox w B a b c d) (hB : B < lo ∨ M ≤ B) : QBox w' B a b c d :=
  h.at p.size (hB.elim (fun k => p.low.block B k) (fun k => p.high B k h.lt))

theorem Fm.img_len (F : Fm) (h : F.px.length + F.n ≤ 1048576) : F.img.1.px.length ≤ 1048576 := by
  unfold Fm.img
  split
  · simp; omega
  · simp

set_option maxRecDepth 10000 in
set_option maxHeartbeats 4000000 in
theorem lawImage (v : Value) (F : Fm) (W : World) (hv : F.R 0 W.heap.size W v) :
    Calls Try.prog 4 #[v] W fun e w' => e = .returned (.bool true) ∧ Ext W w' := by
  have HV := hid hv
  obtain ⟨u, d, rfl, _, _, _, _⟩ := hv
  have HS := fun (lo hi : Nat) (v : Value) (w : World) (hv : F.R lo hi w v) (hh : hi ≤ w.heap.size) => sImageOf_any lo hi v F w hv hh
  have HI := fun (lo hi : Nat) (v : Value) (w : World) (hv : F.R lo hi w v) (hh : hi ≤ w.heap.size) => iImageOf_any lo hi v F w hv hh
  have hil := F.img_len
  obtain ⟨I, hI⟩ : ∃ I, F.img.1 = I := ⟨_, rfl⟩
  obtain ⟨ok, hok⟩ : ∃ b, F.img.2 = b := ⟨_, rfl⟩
  rw [hI] at hil
  simp only [hI, hok] at HS HI
  obtain ⟨r, hr⟩ : ∃ r : Int, 1 + (I.px.length : Int) = r := ⟨_, rfl⟩
  obtain ⟨q, hq⟩ : ∃ q : Int, 1 + (F.px.length : Int) + F.n = q := ⟨_, rfl⟩
  have hr0 : 1 ≤ r := by omega
  have hq0 : 1 ≤ q := by omega
  have HR := hid hr
  have HQ := hid hq
  have HS := hid HS
  have HI := hid HI
  clear hI hok hr hq
  by_cases hlen : F.px.length + F.n ≤ 1048576
  · have hs := hid (show F.sz = 1048576 - F.px.length - F.n by unfold Fm.sz; rw [if_pos hlen])
    have hil := hil hlen
    go_enter Try.func4, Try.ntmps4
    go_wp2_with fail
    refine (szFilm_val hs.out 0 W.heap.size _ _ (HV.out.ext (Nat.le_refl _) (by repeat (with_reducible (first | assumption | exact Ext.refl _ | apply Ext.alloc | apply Ext.drew | apply Ext.drewN)))) (by simp)).mono ?_
    rintro e w1 ⟨rfl, x1⟩
    have P1 := (QBox.made W (.int .i64 F.w) (.int .i64 F.h) u d _).ext x1
    have E1 : Ext W w1 := Ext.trans (by repeat (with_reducible (first | assumption | exact Ext.refl _ | apply Ext.alloc | apply Ext.drew | apply Ext.drewN))) x1
    have p0 := P1.lt
    have p1 := P1.c0
    have p2 := P1.c1
    have p3 := P1.c2
    have p4 := P1.c3
    go_wp2_with fail
    refine (toFilm_any 0 W.heap.size _ F _ (HV.out.ext (Nat.le_refl _) E1) E1.size hlen).mono ?_
    rintro e w2 ⟨v2, rfl, O2, x2⟩
    go_wp2_with fail
    refine (HS.out _ _ _ _ O2.R (Nat.le_refl _)).mono ?_
    rintro e w3 ⟨v3, rfl, O3, x3⟩
    have P3 := (P1.ext x2).ext x3
    have E3 := (E1.trans x2).trans x3
    have z3 := E3.size
    have lt1 := P1.lt
    have z2 := (x2.trans x3).size
    obtain ⟨a3, c3, rfl⟩ := O3.form
    have R3 := O3.R
    clear p0 p1 p2 p3 p4 P1 O2 O3
    have p0 := P3.lt
    have p1 := P3.c0
    have p2 := P3.c1
    have p3 := P3.c2
    have p4 := P3.c3
    go_wp2_with fail
    refine (toFilm_any 0 W.heap.size _ F _ (HV.out.ext (Nat.le_refl _) (Ext.trans E3 (by repeat (with_reducible (first | assumption | exact Ext.refl _ | apply Ext.alloc | apply Ext.drew | apply Ext.drewN))))) (by simp; omega) hlen).mono ?_
    rintro e w4 ⟨v4, rfl, O4, x4⟩
    have y4 : Ext w3 w4 := Ext.trans (by repeat (with_reducible (first | assumption | exact Ext.refl _ | apply Ext.alloc | apply Ext.drew | apply Ext.drewN))) x4
    have P4 := P3.ext y4
    have R4 := R3.ext (Nat.le_refl _) y4
    have C4 := (IBox.made w3 (.int .i64 I.w) (.int .i64 I.h) (.slice a3 I.px.length c3) _).ext x4
    have E4 := E3.trans y4
    have z4 := x4.size
    simp only [World.size_alloc] at z4
    obtain ⟨a4, c4, a4', c4', rfl⟩ := O4.form
    clear p0 p1 p2 p3 p4 P3 R3
    have p0 := P4.lt
    have p1 := P4.c0
    have p2 := P4.c1
    have p3 := P4.c2
    have p4 := P4.c3
    have c0 := C4.lt
    have c1 := C4.c0
    have c2 := C4.c1
    have c3 := C4.c2
    go_wp2_with fail
    refine (HI.out _ _ _ _ (O4.R.ext (Nat.le_refl _) (by repeat (with_reducible (first | assumption | exact Ext.refl _ | apply Ext.alloc | apply Ext.drew | apply Ext.drewN)))) (by simp)).mono ?_
    rintro e w5 ⟨v5, rfl, O5, x5⟩
    have y5 : Ext w4 w5 := Ext.trans (by repeat (with_reducible (first | assumption | exact Ext.refl _ | apply Ext.alloc | apply Ext.drew | apply Ext.drewN))) x5
    have P5 := P4.ext y5
    have C5 := C4.ext y5
    have S5 := (QBox.made w4 (.int .i64 F.w) (.int .i64 F.h) (.slice a4 F.px.length c4) (.slice a4' F.n c4') _).ext x5
    have R5 := R4.ext (by omega) y5
    have O45 := O4.ext y5
    have E5 := E4.trans y5
    have z5 := x5.size
    simp only [World.size_alloc] at z5
    obtain ⟨a5, c5, rfl⟩ := O5.form
    clear p0 p1 p2 p3 p4 P4 R4 c0 c1 c2 c3 C4
    have p0 := P5.lt
    have p1 := P5.c0
    have p2 := P5.c1
    have p3 := P5.c2
    have p4 := P5.c3
    have c0 := C5.lt
    have c1 := C5.c0
    have c2 := C5.c1
    have c3 := C5.c2
    have s0 := S5.lt
    have s1 := S5.c0
    have s2 := S5.c1
    have s3 := S5.c2
    have s4 := S5.c3
    go_wp2_with fail
    refine (eqImage_same _ _ _ _ _ _ I _ (O5.R.ext (Nat.le_refl _) (by repeat (with_reducible (first | assumption | exact Ext.refl _ | apply Ext.alloc | apply Ext.drew | apply Ext.drewN)))) (by simp) (R5.ext (by omega) (by repeat (with_reducible (first | assumption | exact Ext.refl _ | apply Ext.alloc | apply Ext.drew | apply Ext.drewN)))) (by simp; omega)).mono ?_
    rintro e w6 ⟨rfl, x6⟩
    have y6 : Ext w5 w6 := Ext.trans (by repeat (with_reducible (first | assumption | exact Ext.refl _ | apply Ext.alloc | apply Ext.drew | apply Ext.drewN))) x6
    have P6 := P5.ext y6
    have C6 := C5.ext y6
    have S6 := S5.ext y6
    have D6 := (IBox.made w5 (.int .i64 I.w) (.int .i64 I.h) (.slice a5 I.px.length c5) _).ext x6
    have R6 := R5.ext (by omega) y6
    have O46 := O45.ext y6
    have O56 := O5.ext y6
    have E6 := E5.trans y6
    have z6 := x6.size
    simp only [World.size_alloc] at z6
    clear p0 p1 p2 p3 p4 P5 c0 c1 c2 c3 C5 s0 s1 s2 s3 s4 S5 R5 O45
    have p0 := P6.lt
    have p1 := P6.c0
    have p2 := P6.c1
    have p3 := P6.c2
    have p4 := P6.c3
    have c0 := C6.lt
    have c1 := C6.c0
    have c2 := C6.c1
    have c3 := C6.c2
    have s0 := S6.lt
    have s1 := S6.c0
    have s2 := S6.c1
    have s3 := S6.c2
    have s4 := S6.c3
    have d0 := D6.lt
    have d1 := D6.c0
    have d2 := D6.c1
    have d3 := D6.c2
    go_wp2_with fail
    refine wp_region_stages [([0, 1], 2), ([], 3), ([], 4)] 99 w6.heap.size (by kernel_rfl) (by kernel_rfl) ?_
    refine wpStages_cons ?_
    simp only [List.filterMap_cons, List.filterMap_nil, List.getElem?_toArray, List.getElem?_cons_zero, List.getElem?_cons_succ]
    show wpQuiet _ _ _ _ [_, _] _
    repeat (go_big_quiet_step (fail))
    refine wpQuiet_nil ⟨_, rfl, fun K hK => ?_⟩
    go_wp2_with fail
    refine (toFilm_any 0 W.heap.size _ F _ (HV.out.ext (Nat.le_refl _) (by repeat (with_reducible (first | assumption | exact Ext.refl _ | apply Ext.alloc | apply Ext.drew | apply Ext.drewN)))) (by have := E6.size; simp; omega) hlen).mono ?_
    rintro e w7 ⟨v7, rfl, O7, x7⟩
    have y7 : Ext w6 w7 := Ext.trans (by repeat (with_reducible (first | assumption | exact Ext.refl _ | apply Ext.alloc | apply Ext.drew | apply Ext.drewN))) x7
    go_wp2_with fail
    refine hK _ _ (.inr (y7.same (Nat.le_refl _))) ?_
    clear hK K
    refine wpStages_cons ?_
    simp only [List.filterMap_nil]
    show wpQuiet _ _ _ _ [] _
    try simp only [Act.put, List.getElem_toArray, List.getElem_cons_succ, List.getElem_cons_zero, List.setIfInBounds_toArray, List.set_cons_succ, List.set_cons_zero]
    refine wpQuiet_nil ⟨_, rfl, fun K hK => ?_⟩
    go_wp2_with fail
    refine (eqFilm_same _ _ _ _ _ _ F _ ((O46.ext y7).R) (Nat.le_refl _) (O7.R) (Nat.le_refl _)).mono ?_
    rintro e w8 ⟨rfl, x8⟩
    have y8 : Ext w6 w8 := y7.trans x8
    go_wp2_with fail
    refine hK _ _ (.inr (y8.same (Nat.le_refl _))) ?_
    clear hK K
    refine wpStages_cons ?_
    simp only [List.filterMap_nil]
    show wpQuiet _ _ _ _ [] _
    try simp only [Act.put, List.getElem_toArray, List.getElem_cons_succ, List.getElem_cons_zero, List.setIfInBounds_toArray, List.set_cons_succ, List.set_cons_zero]
    refine wpQuiet_nil ⟨_, rfl, fun K hK => ?_⟩
    go_wp2_with fail
    refine hK _ _ (.inr (y8.same (Nat.le_refl _))) ?_
    clear hK K
    refine wpStages_nil ?_
    have P8 := P6.ext y8
    have C8 := C6.ext y8
    have S8 := S6.ext y8
    have D8 := D6.ext y8
    have R8 := R6.ext (by omega) y8
    have O48 := O46.ext y8
    have O58 := O56.ext y8
    have E8 := E6.trans y8
    have z8 := y8.size
    clear p0 p1 p2 p3 p4 P6 c0 c1 c2 c3 C6 s0 s1 s2 s3 s4 S6 d0 d1 d2 d3 D6 R6 O46 O56
    have p0 := P8.lt
    have p1 := P8.c0
    have p2 := P8.c1
    have p3 := P8.c2
    have p4 := P8.c3
    have c0 := C8.lt
    have c1 := C8.c0
    have c2 := C8.c1
    have c3 := C8.c2
    have s0 := S8.lt
    have s1 := S8.c0
    have s2 := S8.c1
    have s3 := S8.c2
    have s4 := S8.c3
    have d0 := D8.lt
    have d1 := D8.c0
    have d2 := D8.c1
    have d3 := D8.c2
    go_wp2_with fail
    refine (markFilm_in HQ.out _ w4.heap.size _ _ O48 O4.under (by simp; omega) hlen).mono ?_
    rintro e w9 ⟨rfl, p9⟩
    have z9 := p9.size
    have P9 := p9.qbox P8 (.inl (by simp; omega))
    have C9 := p9.ibox C8 (.inl (by simp))
    have D9 := p9.ibox D8 (.inr (by omega))
    have R9 := R8.same (w' := w9) (fun b _ hb => p9.low.block b (by simp; omega))
    have O59 := O58.kept (w' := w9) (fun b hb hb' => p9.high b (by simp at hb; omega) hb')
    have E9 := p9.ext E8 (by simp; omega)
    clear p0 p1 p2 p3 p4 P8 c0 c1 c2 c3 C8 s0 s1 s2 s3 s4 S8 d0 d1 d2 d3 D8 R8 O48 O58 p9
    have p0 := P9.lt
    have p1 := P9.c0
    have p2 := P9.c1
    have p3 := P9.c2
    have p4 := P9.c3
    have c0 := C9.lt
    have c1 := C9.c0
    have c2 := C9.c1
    have c3 := C9.c2
    have d0 := D9.lt
    have d1 := D9.c0
    have d2 := D9.c1
    have d3 := D9.c2
    go_wp2_with fail
    refine (eqImage_same _ _ _ _ _ _ I _ O59.R (Nat.le_refl _) R9 (by omega)).mono ?_
    rintro e w10 ⟨rfl, x10⟩
    have P10 := P9.ext x10
    have C10 := C9.ext x10
    have D10 := D9.ext x10
    have R10 := R9.ext (by omega) x10
    have O10 := O59.ext x10
    have E10 := E9.trans x10
    have z10 := x10.size
    clear p0 p1 p2 p3 p4 P9 c0 c1 c2 c3 C9 d0 d1 d2 d3 D9 R9 O59
    have p0 := P10.lt
    have p1 := P10.c0
    have p2 := P10.c1
    have p3 := P10.c2
    have p4 := P10.c3
    have c0 := C10.lt
    have c1 := C10.c0
    have c2 := C10.c1
    have c3 := C10.c2
    have d0 := D10.lt
    have d1 := D10.c0
    have d2 := D10.c1
    have d3 := D10.c2
    go_wp2_with fail
    refine (markImage_in HR.out _ w5.heap.size _ _ O10 O5.under (by simp; omega) hil).mono ?_
    rintro e w11 ⟨rfl, O11, p11⟩
    have z11 := p11.size
    have P11 := p11.qbox P10 (.inl (by simp; omega))
    have C11 := p11.ibox C10 (.inl (by simp; omega))
    have D11 := p11.ibox D10 (.inr (by omega))
    have R11 := R10.same (w' := w11) (fun b _ hb => p11.low.block b (by simp; omega))
    have E11 := p11.ext E10 (by simp; omega)
    clear p0 p1 p2 p3 p4 P10 c0 c1 c2 c3 C10 d0 d1 d2 d3 D10 R10 O10 p11
    have p0 := P11.lt
    have p1 := P11.c0
    have p2 := P11.c1
    have p3 := P11.c2
    have p4 := P11.c3
    have c0 := C11.lt
    have c1 := C11.c0
    have c2 := C11.c1
    have c3 := C11.c2
    have d0 := D11.lt
    have d1 := D11.c0
    have d2 := D11.c1
    have d3 := D11.c2
    go_wp2_with fail
    refine (heldImage_marked HR.out _ _ _ _ O11.R (Nat.le_refl _) hil).mono ?_
    rintro e w12 ⟨rfl, x12⟩
    have P12 := P11.ext x12
    have C12 := C11.ext x12
    have D12 := D11.ext x12
    have R12 := R11.ext (by omega) x12
    have O12 := O11.ext x12
    have E12 := E11.trans x12
    have z12 := x12.size
    clear p0 p1 p2 p3 p4 P11 c0 c1 c2 c3 C11 d0 d1 d2 d3 D11 R11 O11
    have p0 := P12.lt
    have p1 := P12.c0
    have p2 := P12.c1
    have p3 := P12.c2
    have p4 := P12.c3
    have c0 := C12.lt
    have c1 := C12.c0
    have c2 := C12.c1
    have c3 := C12.c2
    have d0 := D12.lt
    have d1 := D12.c0
    have d2 := D12.c1
    have d3 := D12.c2
    go_wp2_with fail
    refine (toFilm_any 0 W.heap.size _ F _ (HV.out.ext (Nat.le_refl _) E12) E12.size hlen).mono ?_
    rintro e w13 ⟨v13, rfl, O13, x13⟩
    go_wp2_with fail
    refine (HI.out _ _ _ _ O13.R (Nat.le_refl _)).mono ?_
    rintro e w14 ⟨v14, rfl, O14, x14⟩
    have y14 := x13.trans x14
    have C14 := C12.ext y14
    have D14 := D12.ext y14
    have R14 := R12.ext (by omega) y14
    have O54 := O12.ext y14
    have E14 := E12.trans y14
    have z14 := y14.size
    obtain ⟨a14, c14, rfl⟩ := O14.form
    clear p0 p1 p2 p3 p4 P12 c0 c1 c2 c3 C12 d0 d1 d2 d3 D12 R12 O12
    have c0 := C14.lt
    have c1 := C14.c0
    have c2 := C14.c1
    have c3 := C14.c2
    have d0 := D14.lt
    have d1 := D14.c0
    have d2 := D14.c1
    have d3 := D14.c2
    go_wp2_with fail
    refine (eqImage_same _ _ _ _ _ _ I _ (O14.R.ext (Nat.le_refl _) (by repeat (with_reducible (first | assumption | exact Ext.refl _ | apply Ext.alloc | apply Ext.drew | apply Ext.drewN)))) (by simp) (R14.ext (by omega) (by repeat (with_reducible (first | assumption | exact Ext.refl _ | apply Ext.alloc | apply Ext.drew | apply Ext.drewN)))) (by simp; omega)).mono ?_
    rintro e w15 ⟨rfl, x15⟩
    have y15 : Ext w14 w15 := Ext.trans (by repeat (with_reducible (first | assumption | exact Ext.refl _ | apply Ext.alloc | apply Ext.drew | apply Ext.drewN))) x15
    have D15 := D14.ext y15
    have O55 := O54.ext y15
    have E15 := E14.trans y15
    clear c0 c1 c2 c3 C14 d0 d1 d2 d3 D14 R14 O54
    have d0 := D15.lt
    have d1 := D15.c0
    have d2 := D15.c1
    have d3 := D15.c2
    go_wp2_with fail
    refine (heldImage_marked HR.out _ _ _ _ O55.R (Nat.le_refl _) hil).mono ?_
    rintro e w16 ⟨rfl, x16⟩
    go_wp2_with fail
    go_ret
    exact ⟨rfl, E15.trans x16⟩
  · have hs := hid (show F.sz = -1 by unfold Fm.sz; rw [if_neg hlen])
    go_enter Try.func4, Try.ntmps4
    go_wp2_with fail
    refine (szFilm_val hs.out 0 W.heap.size _ _ (HV.out.ext (Nat.le_refl _) (by repeat (with_reducible (first | assumption | exact Ext.refl _ | apply Ext.alloc | apply Ext.drew | apply Ext.drewN)))) (by simp)).mono ?_
    rintro e w1 ⟨rfl, x1⟩
    have E1 : Ext W w1 := Ext.trans (by repeat (with_reducible (first | assumption | exact Ext.refl _ | apply Ext.alloc | apply Ext.drew | apply Ext.drewN))) x1
    go_wp2_with fail
    go_ret
    exact ⟨rfl, E1⟩
end Go.Proofs.Yteeclghkfcanlaa
