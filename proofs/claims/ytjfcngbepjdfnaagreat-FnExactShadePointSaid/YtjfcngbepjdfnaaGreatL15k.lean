/- This text proves what the reference's Lookup hands back. -/
import Derived.Test.YtjfcngbepjdfnaaGreatL15j
namespace Go.Proofs.YtjfcngbepjdfnaaGreat
open Go.RowKit

/-- the reference's lookup, its texture laid in box A -/
structure LSt (w wr : World) (m : Tex) (A : Nat) (a : Option Addr) (c : Nat) : Prop where
  ext : Ext w wr
  box : TBox wr A (.int .i64 m.log) (.slice a m.px.length c)
  tex : TexR 0 wr.heap.size wr (.agg #[.int .i64 m.log, .slice a m.px.length c]) m
theorem LSt.to {w wr w' : World} {m : Tex} {A : Nat} {a : Option Addr} {c : Nat} (h : LSt w wr m A a c) (e : Ext wr w') : LSt w w' m A a c :=
  ⟨h.ext.trans e, h.box.ext e, (h.tex.ext (Nat.le_refl _) e).wide (Nat.le_refl _) e.size⟩

set_option maxRecDepth 10000 in
set_option maxHeartbeats 1600000 in
theorem sLookup_any (lo hi : Nat) (v : Value) (t : Tex) (ua va l : Int) (w : World) (hv : TexR lo hi w v t) (hh : hi ≤ w.heap.size) :
    Calls Tryz.prog 104 #[v, .int .i64 ua, .int .i64 va, .int .i64 l] w fun e w' => e = .returned (.int .i64 (t.lookR ua va l)) ∧ Ext w w' := by
  obtain ⟨u, rfl, hlog⟩ := hv.shape
  have HV := hid hv
  clear hv
  by_cases hb : t.okB = true
  · have ht := Tex.okB_iff.1 hb
    obtain ⟨c0, c4⟩ := clampI_bd (l := l) ht.log0
    have e1 : t.lookR ua va l = (t.mip (clampI l 0 t.log).toNat).look ua va := by unfold Tex.lookR; rw [if_pos hb]
    rw [e1]
    obtain ⟨c, hc⟩ : ∃ c, clampI l 0 t.log = c := ⟨_, rfl⟩
    rw [hc] at c0 c4 ⊢
    have hm := (ht.mip c.toNat (by omega)).1
    have hr : t.mipR c = (t.mip c.toNat, true) := by unfold Tex.mipR; rw [if_pos (by simp only [Bool.and_eq_true, inB_iff]; exact ⟨hb, c0, c4⟩)]
    obtain ⟨m, hmm⟩ : ∃ m, t.mip c.toNat = m := ⟨_, rfl⟩
    rw [hmm] at hm hr ⊢
    have HR := hid hr
    have HB := hid hb
    have HC := hid hc
    have HM := hid hm
    have M0 := hm.log0
    have M4 := hm.log4
    have x1 := posX_bd ua hm.n_pos hm.n_le
    have x2 := posX_bd va hm.n_pos hm.n_le
    have g1 := posF_bd ua m.n
    have g2 := posF_bd va m.n
    have s1 := posS_prod ua hm.n_pos hm.n_le
    have s2 := posS_prod va hm.n_pos hm.n_le
    have t1 := posF_eq ua m.n
    have t2 := posF_eq va m.n
    have y1 : fdiv (posS ua m.n) 256 = posX ua m.n := rfl
    have y2 : fdiv (posS va m.n) 256 = posX va m.n := rfl
    unfold posS at t1 t2 y1 y2
    unfold Tex.look
    obtain ⟨n, hn⟩ : ∃ n, m.n = n := ⟨_, rfl⟩
    have HN := hid (show 2 ^ m.log.toNat = n from hn)
    rw [hn] at x1 x2 g1 g2 s1 s2 t1 t2 y1 y2 ⊢
    obtain ⟨cu, hcu⟩ : ∃ c, clampI ua (-1000000) 1000000 = c := ⟨_, rfl⟩
    obtain ⟨cv, hcv⟩ : ∃ c, clampI va (-1000000) 1000000 = c := ⟨_, rfl⟩
    have CU := hid hcu
    have CV := hid hcv
    rw [hcu] at s1 t1 y1
    rw [hcv] at s2 t2 y2
    obtain ⟨qu, hqu⟩ : ∃ c, cu * (n : Int) = c := ⟨_, rfl⟩
    obtain ⟨qv, hqv⟩ : ∃ c, cv * (n : Int) = c := ⟨_, rfl⟩
    rw [hqu] at s1 t1 y1
    rw [hqv] at s2 t2 y2
    obtain ⟨x, ex⟩ : ∃ x, posX ua n = x := ⟨_, rfl⟩
    obtain ⟨y, ey⟩ : ∃ x, posX va n = x := ⟨_, rfl⟩
    obtain ⟨fx, ex'⟩ : ∃ x, posF ua n = x := ⟨_, rfl⟩
    obtain ⟨fy, ey'⟩ : ∃ x, posF va n = x := ⟨_, rfl⟩
    rw [ex] at x1 t1 y1
    rw [ey] at x2 t2 y2
    rw [ex'] at g1 t1
    rw [ey'] at g2 t2
    rw [ex, ey, ex', ey']
    have Y1 := hid y1
    have Y2 := hid y2
    obtain ⟨r1, r2, r3, r4, p1, p2, p3, p4, p5, p6, K⟩ := look4_all hm x y g1 g2
    generalize m.look4 x fx y fy = L at K ⊢
    have R1 := hid K.e1
    have R2 := hid K.e2
    have R3 := hid K.e3
    have R4 := hid K.e4
    have F1 := K.f1
    have F2 := K.f2
    have F3 := K.f3
    have F4 := K.f4
    have F5 := K.f5
    have F6 := K.f6
    have B1 := K.b1
    have B2 := K.b2
    have B3 := K.b3
    have B4 := K.b4
    have B5 := K.b5
    have B6 := K.b6
    have HO := hid (show fdiv (p5 + p6) 65536 = L by unfold fdiv; rw [if_neg (by omega)]; exact K.out)
    clear K hb ht e1 hc hm hr hmm hn hcu hcv ex ey ex' ey' y1 y2
    go_enter Tryz.func104, Tryz.ntmps104
    go_upto_region 3 with (go_at_call 64; refine (sIsValidTexture_val HB.out lo hi _ _ (HV.out.ext hh (by repeat (with_reducible (first | assumption | exact Ext.refl _ | apply Ext.alloc | apply Ext.drew | apply Ext.drewN)))) (by simp; omega)).mono ?_; rintro e w1 ⟨rfl, h1⟩; obtain ⟨c1, f1⟩ := h1.cells; have z1 := h1.size; simp only [World.size_alloc] at z1; have q1 : w.heap.size < w1.heap.size := (by omega))
    have E1 : Ext w w1 := Ext.trans (by repeat (with_reducible (first | assumption | exact Ext.refl _ | apply Ext.alloc | apply Ext.drew | apply Ext.drewN))) h1
    go_cut [9, 10] from 23 to 31 (fun p _ok wx => ∃ A a c, p = .pointer (some ⟨A, 0, none⟩) ∧ LSt w wx m A a c)
    case first =>
      refine wp_region_Z 11 w1.heap.size (by kernel_rfl) ?_
      refine wpZ_stage (fuel := 7) [0, 1, 2, 3] [4, 9] (by kernel_rfl) (fun _ _ _ => rfl) ?_
      simp only [List.filterMap_cons, List.filterMap_nil, List.getElem?_toArray, List.getElem?_cons_zero, List.getElem?_cons_succ]
      show wpQuiet _ _ _ _ [_, _, _, _] _
      repeat (go_big_quiet_step (fail))
      refine wpQuiet_nil ?_
      intro e he
      simp only [List.mem_cons, List.not_mem_nil, or_false] at he
      rcases he with rfl | rfl
      · (unfold wpComes; simp only [List.getElem?_toArray, List.getElem?_cons_succ, List.getElem?_cons_zero, Option.some.injEq]; refine ⟨_, rfl, fun K hK => ?_⟩)
        go_wp2_with fail
        refine (sClamp_val HC.out _).mono ?_
        rintro e w2 ⟨rfl, rfl⟩
        go_wp2_with fail
        refine hK _ _ (.inr (fun b _ hb => Ext.block (by repeat (with_reducible (first | assumption | exact Ext.refl _ | apply Ext.alloc | apply Ext.drew | apply Ext.drewN))) hb)) ?_
        clear hK K
        refine wpZ_stage (fuel := 6) [] [5, 9] (by kernel_rfl) (fun b _ hb => Ext.block (by repeat (with_reducible (first | assumption | exact Ext.refl _ | apply Ext.alloc | apply Ext.drew | apply Ext.drewN))) hb) ?_
        refine wpQuiet_nil ?_
        intro e he
        simp only [List.mem_cons, List.not_mem_nil, or_false] at he
        rcases he with rfl | rfl
        · (unfold wpComes; simp only [List.getElem?_toArray, List.getElem?_cons_succ, List.getElem?_cons_zero, Option.some.injEq]; refine ⟨_, rfl, fun K hK => ?_⟩)
          go_wp2_with fail
          refine (sMipLevel_val HR.out _ _ _ _ (HV.out.ext hh (E1.trans (by repeat (with_reducible (first | assumption | exact Ext.refl _ | apply Ext.alloc | apply Ext.drew | apply Ext.drewN))))) (by simp; omega)).mono ?_
          rintro e w3 ⟨v3, rfl, O3, h3⟩
          have E13 : Ext w1 w3 := Ext.trans (by repeat (with_reducible (first | assumption | exact Ext.refl _ | apply Ext.alloc | apply Ext.drew | apply Ext.drewN))) h3
          obtain ⟨a3, n3, rfl, _⟩ := O3.form
          have z3 := h3.size
          simp at z3
          go_wp2_with fail
          refine hK _ _ (.inr (E13.same (Nat.le_refl _))) ?_
          clear hK K
          refine wpZ_stage (fuel := 2) [6, 7, 8] [9] (by kernel_rfl) (E13.same (Nat.le_refl _)) ?_
          try simp only [Act.put, List.setIfInBounds_toArray, List.set_cons_succ, List.set_cons_zero]
          simp only [List.filterMap_cons, List.filterMap_nil, List.getElem?_toArray, List.getElem?_cons_zero, List.getElem?_cons_succ]
          show wpQuiet _ _ _ _ [_, _, _] _
          repeat (go_big_quiet_step (fail))
          refine wpQuiet_nil ?_
          intro e he
          simp only [List.mem_cons, List.not_mem_nil, or_false] at he
          subst he
          (unfold wpComes; simp only [List.getElem?_toArray, List.getElem?_cons_succ, List.getElem?_cons_zero, Option.some.injEq]; refine ⟨_, rfl, fun K hK => ?_⟩)
          go_wp2
          refine hK _ _ (.inr ((E13.alloc _).same (Nat.le_refl _))) ?_
          clear hK K
          refine wpZ_stage (fuel := 1) [] [10] (by kernel_rfl) ((E13.alloc _).same (Nat.le_refl _)) ?_
          refine wpQuiet_nil ?_
          intro e he
          simp only [List.mem_cons, List.not_mem_nil, or_false] at he
          subst he
          (unfold wpComes; simp only [List.getElem?_toArray, List.getElem?_cons_succ, List.getElem?_cons_zero, Option.some.injEq]; refine ⟨_, rfl, fun K hK => ?_⟩)
          go_wp2
          refine hK _ _ (.inr ((E13.alloc _).same (Nat.le_refl _))) ?_
          clear hK K
          refine wpZ_stage (fuel := 0) [] [11] (by kernel_rfl) ((E13.alloc _).same (Nat.le_refl _)) ?_
          refine wpQuiet_nil ?_
          intro e he
          simp only [List.mem_cons, List.not_mem_nil, or_false] at he
          subst he
          (unfold wpComes; simp only [List.getElem?_toArray, List.getElem?_cons_succ, List.getElem?_cons_zero, Option.some.injEq]; refine ⟨_, rfl, fun K hK => ?_⟩)
          go_wp2
          refine hK _ _ (.inl (by trivial)) ?_
          clear hK K
          refine wpZ_end (by kernel_rfl) ?_
          go_wp2_with fail
          go_meet
          have e3 : Ext w3 (w3.alloc (.cells #[.int .i64 m.log, .slice a3 m.px.length n3] 41)) := (by repeat (with_reducible (first | assumption | exact Ext.refl _ | apply Ext.alloc | apply Ext.drew | apply Ext.drewN)))
          exact ⟨_, _, _, rfl, (E1.trans E13).trans e3, TBox.made _ _ _ _, (O3.tex.ext (Nat.le_refl _) e3).wide (Nat.zero_le _) e3.size⟩
        · (unfold wpComes; simp only [List.getElem?_toArray, List.getElem?_cons_succ, List.getElem?_cons_zero, Option.some.injEq]; refine ⟨_, rfl, fun K hK => ?_⟩)
          go_wp2
          refine hK _ _ (.inr (fun b _ hb => Ext.block (by repeat (with_reducible (first | assumption | exact Ext.refl _ | apply Ext.alloc | apply Ext.drew | apply Ext.drewN))) hb)) ?_
          clear hK K
          refine wpZ_stage (fuel := 5) [] [5] (by kernel_rfl) (fun b _ hb => Ext.block (by repeat (with_reducible (first | assumption | exact Ext.refl _ | apply Ext.alloc | apply Ext.drew | apply Ext.drewN))) hb) ?_
          refine wpQuiet_nil ?_
          intro e he
          simp only [List.mem_cons, List.not_mem_nil, or_false] at he
          subst he
          (unfold wpComes; simp only [List.getElem?_toArray, List.getElem?_cons_succ, List.getElem?_cons_zero, Option.some.injEq]; refine ⟨_, rfl, fun K hK => ?_⟩)
          go_wp2_with fail
          refine (sMipLevel_val HR.out _ _ _ _ (HV.out.ext hh (E1.trans (by repeat (with_reducible (first | assumption | exact Ext.refl _ | apply Ext.alloc | apply Ext.drew | apply Ext.drewN))))) (by simp; omega)).mono ?_
          rintro e w3 ⟨v3, rfl, O3, h3⟩
          have E13 : Ext w1 w3 := Ext.trans (by repeat (with_reducible (first | assumption | exact Ext.refl _ | apply Ext.alloc | apply Ext.drew | apply Ext.drewN))) h3
          obtain ⟨a3, n3, rfl, _⟩ := O3.form
          have z3 := h3.size
          simp at z3
          go_wp2_with fail
          refine hK _ _ (.inr (E13.same (Nat.le_refl _))) ?_
          clear hK K
          obtain ⟨k3, l3⟩ := h3.cells
          have q3 : w1.heap.size < w3.heap.size := by omega
          refine wpZ_stage (fuel := 1) [6, 7, 8] [10] (by kernel_rfl) (E13.same (Nat.le_refl _)) ?_
          try simp only [Act.put, List.setIfInBounds_toArray, List.set_cons_succ, List.set_cons_zero]
          simp only [List.filterMap_cons, List.filterMap_nil, List.getElem?_toArray, List.getElem?_cons_zero, List.getElem?_cons_succ]
          show wpQuiet _ _ _ _ [_, _, _] _
          repeat (go_big_quiet_step (fail))
          refine wpQuiet_nil ?_
          intro e he
          simp only [List.mem_cons, List.not_mem_nil, or_false] at he
          subst he
          (unfold wpComes; simp only [List.getElem?_toArray, List.getElem?_cons_succ, List.getElem?_cons_zero, Option.some.injEq]; refine ⟨_, rfl, fun K hK => ?_⟩)
          have ES : Ext w1 ((w3.setCell ⟨w1.heap.size, 0, none⟩ (.int .i64 m.log)).setCell ⟨w1.heap.size, 1, none⟩ (.slice a3 m.px.length n3)) := (E13.setCell (by simp) _).setCell (by simp) _
          go_wp2
          refine hK _ _ (.inr (ES.same (Nat.le_refl _))) ?_
          clear hK K
          refine wpZ_stage (fuel := 0) [] [11] (by kernel_rfl) (ES.same (Nat.le_refl _)) ?_
          refine wpQuiet_nil ?_
          intro e he
          simp only [List.mem_cons, List.not_mem_nil, or_false] at he
          subst he
          (unfold wpComes; simp only [List.getElem?_toArray, List.getElem?_cons_succ, List.getElem?_cons_zero, Option.some.injEq]; refine ⟨_, rfl, fun K hK => ?_⟩)
          go_wp2
          refine hK _ _ (.inl (by trivial)) ?_
          clear hK K
          refine wpZ_end (by kernel_rfl) ?_
          go_wp2_with fail
          go_meet
          refine ⟨_, a3, n3, rfl, E1.trans ES, ⟨by simp; omega, by simp [go_sem, *], by simp [go_sem, *]⟩, ?_⟩
          exact (((O3.setLow (by simp) _).setLow (by simp) _).tex).wide (Nat.zero_le _) (Nat.le_refl _)
      · (unfold wpComes; simp only [List.getElem?_toArray, List.getElem?_cons_succ, List.getElem?_cons_zero, Option.some.injEq]; refine ⟨_, rfl, fun K hK => ?_⟩)
        go_wp2
        refine hK _ _ (.inr (fun b _ hb => Ext.block (by repeat (with_reducible (first | assumption | exact Ext.refl _ | apply Ext.alloc | apply Ext.drew | apply Ext.drewN))) hb)) ?_
        clear hK K
        refine wpZ_stage (fuel := 6) [] [4] (by kernel_rfl) (fun b _ hb => Ext.block (by repeat (with_reducible (first | assumption | exact Ext.refl _ | apply Ext.alloc | apply Ext.drew | apply Ext.drewN))) hb) ?_
        refine wpQuiet_nil ?_
        intro e he
        simp only [List.mem_cons, List.not_mem_nil, or_false] at he
        subst he
        (unfold wpComes; simp only [List.getElem?_toArray, List.getElem?_cons_succ, List.getElem?_cons_zero, Option.some.injEq]; refine ⟨_, rfl, fun K hK => ?_⟩)
        go_wp2_with fail
        refine (sClamp_val HC.out _).mono ?_
        rintro e w2 ⟨rfl, rfl⟩
        go_wp2_with fail
        refine hK _ _ (.inr (fun b _ hb => Ext.block (by repeat (with_reducible (first | assumption | exact Ext.refl _ | apply Ext.alloc | apply Ext.drew | apply Ext.drewN))) hb)) ?_
        clear hK K
        refine wpZ_stage (fuel := 5) [] [5] (by kernel_rfl) (fun b _ hb => Ext.block (by repeat (with_reducible (first | assumption | exact Ext.refl _ | apply Ext.alloc | apply Ext.drew | apply Ext.drewN))) hb) ?_
        refine wpQuiet_nil ?_
        intro e he
        simp only [List.mem_cons, List.not_mem_nil, or_false] at he
        subst he
        (unfold wpComes; simp only [List.getElem?_toArray, List.getElem?_cons_succ, List.getElem?_cons_zero, Option.some.injEq]; refine ⟨_, rfl, fun K hK => ?_⟩)
        go_wp2_with fail
        refine (sMipLevel_val HR.out _ _ _ _ (HV.out.ext hh (E1.trans (by repeat (with_reducible (first | assumption | exact Ext.refl _ | apply Ext.alloc | apply Ext.drew | apply Ext.drewN))))) (by simp; omega)).mono ?_
        rintro e w3 ⟨v3, rfl, O3, h3⟩
        have E13 : Ext w1 w3 := Ext.trans (by repeat (with_reducible (first | assumption | exact Ext.refl _ | apply Ext.alloc | apply Ext.drew | apply Ext.drewN))) h3
        obtain ⟨a3, n3, rfl, _⟩ := O3.form
        have z3 := h3.size
        simp at z3
        go_wp2_with fail
        refine hK _ _ (.inr (E13.same (Nat.le_refl _))) ?_
        clear hK K
        obtain ⟨k3, l3⟩ := h3.cells
        have q3 : w1.heap.size < w3.heap.size := by omega
        refine wpZ_stage (fuel := 1) [6, 7, 8] [10] (by kernel_rfl) (E13.same (Nat.le_refl _)) ?_
        try simp only [Act.put, List.setIfInBounds_toArray, List.set_cons_succ, List.set_cons_zero]
        simp only [List.filterMap_cons, List.filterMap_nil, List.getElem?_toArray, List.getElem?_cons_zero, List.getElem?_cons_succ]
        show wpQuiet _ _ _ _ [_, _, _] _
        repeat (go_big_quiet_step (fail))
        refine wpQuiet_nil ?_
        intro e he
        simp only [List.mem_cons, List.not_mem_nil, or_false] at he
        subst he
        (unfold wpComes; simp only [List.getElem?_toArray, List.getElem?_cons_succ, List.getElem?_cons_zero, Option.some.injEq]; refine ⟨_, rfl, fun K hK => ?_⟩)
        have ES : Ext w1 ((w3.setCell ⟨w1.heap.size, 0, none⟩ (.int .i64 m.log)).setCell ⟨w1.heap.size, 1, none⟩ (.slice a3 m.px.length n3)) := (E13.setCell (by simp) _).setCell (by simp) _
        go_wp2
        refine hK _ _ (.inr (ES.same (Nat.le_refl _))) ?_
        clear hK K
        refine wpZ_stage (fuel := 0) [] [11] (by kernel_rfl) (ES.same (Nat.le_refl _)) ?_
        refine wpQuiet_nil ?_
        intro e he
        simp only [List.mem_cons, List.not_mem_nil, or_false] at he
        subst he
        (unfold wpComes; simp only [List.getElem?_toArray, List.getElem?_cons_succ, List.getElem?_cons_zero, Option.some.injEq]; refine ⟨_, rfl, fun K hK => ?_⟩)
        go_wp2
        refine hK _ _ (.inl (by trivial)) ?_
        clear hK K
        refine wpZ_end (by kernel_rfl) ?_
        go_wp2_with fail
        go_meet
        refine ⟨_, a3, n3, rfl, E1.trans ES, ⟨by simp; omega, by simp [go_sem, *], by simp [go_sem, *]⟩, ?_⟩
        exact (((O3.setLow (by simp) _).setLow (by simp) _).tex).wide (Nat.zero_le _) (Nat.le_refl _)
    case rest =>
      obtain ⟨A, a, k, rfl, hs⟩ := hcut
      have HS := hid hs
      have m0 := hs.box.lt
      have m1 := hs.box.c0
      have m2 := hs.box.c1
      clear hs c1 f1
      go_wp2_with (first
        | (go_at_call 76; refine (l15Size_val M0 M4 HN.out _).mono ?_; rintro e w2 ⟨rfl, rfl⟩)
        | (go_at_call 118; (with_reducible first | refine (l02N_val CU.out _).mono ?_ | refine (l02N_val CV.out _).mono ?_); rintro e w2 ⟨rfl, rfl⟩)
        | (go_at_call 100; (with_reducible first | refine (sFloorDiv_val (I64.mk (by omega) (by omega)) Y1.out _).mono ?_ | refine (sFloorDiv_val (I64.mk (by omega) (by omega)) Y2.out _).mono ?_); rintro e w2 ⟨rfl, rfl⟩))
      refine wp_region_ext (by kernel_rfl) (by kernel_rfl) ?_
      repeat (go_big_quiet_step ((go_at_call 119; with_reducible first
        | exact grow_call (l15Texel_val HM.out R1.out 0 _ _ _ (HS.out.tex.ext (Nat.le_refl _) (grow_ext _ _)) (grow_ext _ _).size)
        | exact grow_call (l15Texel_val HM.out R2.out 0 _ _ _ (HS.out.tex.ext (Nat.le_refl _) (grow_ext _ _)) (grow_ext _ _).size))))
      refine wpQuiet_nil ?_
      intro w3 h3
      have HS3 := hid (HS.out.to h3)
      clear m0 m1 m2
      have m0 := HS3.out.box.lt
      have m1 := HS3.out.box.c0
      have m2 := HS3.out.box.c1
      go_wp2
      refine wp_region_ext (by kernel_rfl) (by kernel_rfl) ?_
      repeat (go_big_quiet_step ((go_at_call 119; with_reducible first
        | exact grow_call (l15Texel_val HM.out R3.out 0 _ _ _ (HS3.out.tex.ext (Nat.le_refl _) (grow_ext _ _)) (grow_ext _ _).size)
        | exact grow_call (l15Texel_val HM.out R4.out 0 _ _ _ (HS3.out.tex.ext (Nat.le_refl _) (grow_ext _ _)) (grow_ext _ _).size))))
      refine wpQuiet_nil ?_
      intro w4 h4
      go_wp2_with (go_at_call 100; refine (sFloorDiv_val (I64.mk (by omega) (by omega)) HO.out _).mono ?_; rintro e w5 ⟨rfl, rfl⟩)
      go_ret
      exact ⟨rfl, HS3.out.ext.trans h4⟩
  · have e1 : t.lookR ua va l = 0 := by unfold Tex.lookR; rw [if_neg hb]
    rw [e1]
    have HB := hid (Bool.eq_false_iff.2 hb)
    clear hb e1
    go_enter Tryz.func104, Tryz.ntmps104
    go_wp2_with fail
    refine (sIsValidTexture_val HB.out lo hi _ _ (HV.out.ext hh (by repeat (with_reducible (first | assumption | exact Ext.refl _ | apply Ext.alloc | apply Ext.drew | apply Ext.drewN)))) (by simp; omega)).mono ?_
    rintro e w1 ⟨rfl, h1⟩
    go_wp2
    go_ret
    exact ⟨rfl, Ext.trans (by repeat (with_reducible (first | assumption | exact Ext.refl _ | apply Ext.alloc | apply Ext.drew | apply Ext.drewN))) h1⟩
end Go.Proofs.YtjfcngbepjdfnaaGreat
