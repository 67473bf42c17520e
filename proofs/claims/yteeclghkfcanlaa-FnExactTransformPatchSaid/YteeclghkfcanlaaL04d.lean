/- This text proves what the reference's Apply hands back. -/
import Derived.Test.YteeclghkfcanlaaL04c
namespace Go.Proofs.Yteeclghkfcanlaa
open Go.RowKit

set_option maxRecDepth 20000 in
set_option maxHeartbeats 3200000 in
theorem sApply_no (m0 m1 m2 m3 m4 m5 m6 m7 m8 o1 o2 o3 x y z : Int) (hok : (⟨m0, m1, m2, m3, m4, m5, m6, m7, m8, o1, o2, o3⟩ : Xf).ok = false) (w : World) :
    Calls Try.prog 43 #[(⟨m0, m1, m2, m3, m4, m5, m6, m7, m8, o1, o2, o3⟩ : Xf).V, .agg #[.int .i64 x, .int .i64 y, .int .i64 z]] w fun e w' => e = .returned (.agg #[.int .i64 x, .int .i64 y, .int .i64 z]) ∧ Ext w w' := by
  have HV := hid (sIsValidTransform_val ⟨m0, m1, m2, m3, m4, m5, m6, m7, m8, o1, o2, o3⟩)
  rw [hok] at HV
  clear hok
  unfold Xf.V at HV ⊢
  simp only at HV ⊢
  go_enter Try.func43, Try.ntmps43
  go_wp2_with fail
  refine (HV.out _).mono ?_
  rintro e w1 ⟨rfl, h1⟩
  obtain ⟨c1, f1⟩ := h1.cells
  have z1 := h1.size
  simp only [World.size_alloc] at z1
  have E1 : Ext w w1 := Ext.trans (by repeat (with_reducible (first | assumption | exact Ext.refl _ | apply Ext.alloc | apply Ext.drew | apply Ext.drewN))) h1
  have q1 : w.heap.size < w1.heap.size := by omega
  have q2 : w.heap.size + 1 < w1.heap.size := by omega
  have q3 : w.heap.size + 1 + 1 < w1.heap.size := by omega
  go_wp2
  exact bodyPost_ret (v := .agg #[.int .i64 x, .int .i64 y, .int .i64 z]) (by simp [results, Try.results43, go_sem, *]) rfl ⟨rfl, (by repeat (first | with_reducible assumption | with_reducible exact Ext.refl _ | with_reducible apply Ext.alloc | with_reducible apply Ext.drew | with_reducible apply Ext.drewN | (with_reducible refine Ext.setCell ?_ (by simp; omega) _) | (with_reducible refine Ext.setCell ?_ (by simp) _)))⟩

theorem mulC_range {a b : Int} (h1 : -64 ≤ a) (h2 : a ≤ 64) (h3 : -1000000 ≤ b) (h4 : b ≤ 1000000) : -1000000000000 ≤ a * b ∧ a * b ≤ 1000000000000 := mul_range (by omega) (by omega) h3 h4
theorem cl_in {n : Int} (h : inB n (-64) 64 = true) : cl n = n := by
  rw [inB_iff] at h
  unfold cl clampI
  rw [if_neg (by omega), if_neg (by omega)]

/-- the boxes of the reference's Apply: the transform, the limited vector in box A, the sums behind it -/
structure ASt (w wr : World) (A : Nat) (m0 m1 m2 m3 m4 m5 m6 m7 m8 o1 o2 o3 yx yy yz p0 p1 p2 : Int) : Prop where
  ext : Ext w wr
  pos : w.heap.size + 1 + 1 < A
  size : A + 1 < wr.heap.size
  t0 : wr.cell? ⟨w.heap.size, 0, none⟩ = some (.int .i64 m0)
  t1 : wr.cell? ⟨w.heap.size, 1, none⟩ = some (.int .i64 m1)
  t2 : wr.cell? ⟨w.heap.size, 2, none⟩ = some (.int .i64 m2)
  t3 : wr.cell? ⟨w.heap.size, 3, none⟩ = some (.int .i64 m3)
  t4 : wr.cell? ⟨w.heap.size, 4, none⟩ = some (.int .i64 m4)
  t5 : wr.cell? ⟨w.heap.size, 5, none⟩ = some (.int .i64 m5)
  t6 : wr.cell? ⟨w.heap.size, 6, none⟩ = some (.int .i64 m6)
  t7 : wr.cell? ⟨w.heap.size, 7, none⟩ = some (.int .i64 m7)
  t8 : wr.cell? ⟨w.heap.size, 8, none⟩ = some (.int .i64 m8)
  t9 : wr.cell? ⟨w.heap.size, 9, none⟩ = some (.int .i64 o1)
  t10 : wr.cell? ⟨w.heap.size, 10, none⟩ = some (.int .i64 o2)
  t11 : wr.cell? ⟨w.heap.size, 11, none⟩ = some (.int .i64 o3)
  y0 : wr.cell? ⟨A, 0, none⟩ = some (.int .i64 yx)
  y1 : wr.cell? ⟨A, 1, none⟩ = some (.int .i64 yy)
  y2 : wr.cell? ⟨A, 2, none⟩ = some (.int .i64 yz)
  p0 : wr.cell? ⟨A + 1, 0, none⟩ = some (.int .i64 p0)
  p1 : wr.cell? ⟨A + 1, 1, none⟩ = some (.int .i64 p1)
  p2 : wr.cell? ⟨A + 1, 2, none⟩ = some (.int .i64 p2)
  f0 : wr.frozen? ⟨A + 1, 0, none⟩ = false
  f1 : wr.frozen? ⟨A + 1, 1, none⟩ = false
  f2 : wr.frozen? ⟨A + 1, 2, none⟩ = false
  r0 : wr.cell? ⟨w.heap.size + 1 + 1, 0, none⟩ = some (.int .i64 0)
  r1 : wr.cell? ⟨w.heap.size + 1 + 1, 1, none⟩ = some (.int .i64 0)
  r2 : wr.cell? ⟨w.heap.size + 1 + 1, 2, none⟩ = some (.int .i64 0)
  g0 : wr.frozen? ⟨w.heap.size + 1 + 1, 0, none⟩ = false
  g1 : wr.frozen? ⟨w.heap.size + 1 + 1, 1, none⟩ = false
  g2 : wr.frozen? ⟨w.heap.size + 1 + 1, 2, none⟩ = false

set_option maxRecDepth 20000 in
set_option maxHeartbeats 6400000 in
theorem sApply_ok (m0 m1 m2 m3 m4 m5 m6 m7 m8 o1 o2 o3 x y z : Int) (hok : (⟨m0, m1, m2, m3, m4, m5, m6, m7, m8, o1, o2, o3⟩ : Xf).ok = true) (w : World) :
    Calls Try.prog 43 #[(⟨m0, m1, m2, m3, m4, m5, m6, m7, m8, o1, o2, o3⟩ : Xf).V, .agg #[.int .i64 x, .int .i64 y, .int .i64 z]] w fun e w' => e = .returned (.agg #[.int .i64 (appC m0 m1 m2 o1 x y z), .int .i64 (appC m3 m4 m5 o2 x y z), .int .i64 (appC m6 m7 m8 o3 x y z)]) ∧ Ext w w' := by
  have hb : inB m0 (-64) 64 = true ∧ inB m1 (-64) 64 = true ∧ inB m2 (-64) 64 = true ∧ inB m3 (-64) 64 = true ∧ inB m4 (-64) 64 = true ∧ inB m5 (-64) 64 = true ∧ inB m6 (-64) 64 = true ∧ inB m7 (-64) 64 = true ∧ inB m8 (-64) 64 = true := by
    simp [Xf.ok, Xf.ms] at hok
    simp only [hok, and_self]
  have HV := hid (sIsValidTransform_val ⟨m0, m1, m2, m3, m4, m5, m6, m7, m8, o1, o2, o3⟩)
  rw [hok] at HV
  clear hok
  unfold Xf.V at HV ⊢
  simp only at HV ⊢
  obtain ⟨yx, eyx⟩ : ∃ n, cl x = n := ⟨_, rfl⟩
  have byx := cl_bd x
  rw [eyx] at byx
  obtain ⟨yy, eyy⟩ : ∃ n, cl y = n := ⟨_, rfl⟩
  have byy := cl_bd y
  rw [eyy] at byy
  obtain ⟨yz, eyz⟩ : ∃ n, cl z = n := ⟨_, rfl⟩
  have byz := cl_bd z
  rw [eyz] at byz
  obtain ⟨hb0, hb1, hb2, hb3, hb4, hb5, hb6, hb7, hb8⟩ := hb
  simp only [appC, dotC, cl_in hb0, cl_in hb1, cl_in hb2, cl_in hb3, cl_in hb4, cl_in hb5, cl_in hb6, cl_in hb7, cl_in hb8, eyx, eyy, eyz]
  have bp0 := mulC_range (inB_iff.1 hb0).1 (inB_iff.1 hb0).2 byx.1 byx.2
  obtain ⟨P0, eP0⟩ : ∃ n, m0 * yx = n := ⟨_, rfl⟩
  rw [eP0] at bp0 ⊢
  have bp1 := mulC_range (inB_iff.1 hb1).1 (inB_iff.1 hb1).2 byy.1 byy.2
  obtain ⟨P1, eP1⟩ : ∃ n, m1 * yy = n := ⟨_, rfl⟩
  rw [eP1] at bp1 ⊢
  have bp2 := mulC_range (inB_iff.1 hb2).1 (inB_iff.1 hb2).2 byz.1 byz.2
  obtain ⟨P2, eP2⟩ : ∃ n, m2 * yz = n := ⟨_, rfl⟩
  rw [eP2] at bp2 ⊢
  have bp3 := mulC_range (inB_iff.1 hb3).1 (inB_iff.1 hb3).2 byx.1 byx.2
  obtain ⟨P3, eP3⟩ : ∃ n, m3 * yx = n := ⟨_, rfl⟩
  rw [eP3] at bp3 ⊢
  have bp4 := mulC_range (inB_iff.1 hb4).1 (inB_iff.1 hb4).2 byy.1 byy.2
  obtain ⟨P4, eP4⟩ : ∃ n, m4 * yy = n := ⟨_, rfl⟩
  rw [eP4] at bp4 ⊢
  have bp5 := mulC_range (inB_iff.1 hb5).1 (inB_iff.1 hb5).2 byz.1 byz.2
  obtain ⟨P5, eP5⟩ : ∃ n, m5 * yz = n := ⟨_, rfl⟩
  rw [eP5] at bp5 ⊢
  have bp6 := mulC_range (inB_iff.1 hb6).1 (inB_iff.1 hb6).2 byx.1 byx.2
  obtain ⟨P6, eP6⟩ : ∃ n, m6 * yx = n := ⟨_, rfl⟩
  rw [eP6] at bp6 ⊢
  have bp7 := mulC_range (inB_iff.1 hb7).1 (inB_iff.1 hb7).2 byy.1 byy.2
  obtain ⟨P7, eP7⟩ : ∃ n, m7 * yy = n := ⟨_, rfl⟩
  rw [eP7] at bp7 ⊢
  have bp8 := mulC_range (inB_iff.1 hb8).1 (inB_iff.1 hb8).2 byz.1 byz.2
  obtain ⟨P8, eP8⟩ : ∃ n, m8 * yz = n := ⟨_, rfl⟩
  rw [eP8] at bp8 ⊢
  obtain ⟨q0, eq0⟩ : ∃ n, fdiv (P0 + P1 + P2) 16 = n := ⟨_, rfl⟩
  rw [eq0]
  have Q0 := hid eq0
  obtain ⟨q1, eq1⟩ : ∃ n, fdiv (P3 + P4 + P5) 16 = n := ⟨_, rfl⟩
  rw [eq1]
  have Q1 := hid eq1
  obtain ⟨q2, eq2⟩ : ∃ n, fdiv (P6 + P7 + P8) 16 = n := ⟨_, rfl⟩
  rw [eq2]
  have Q2 := hid eq2
  obtain ⟨a, ea⟩ : ∃ n, addC q0 o1 = n := ⟨_, rfl⟩
  rw [ea]
  have HA := hid ea
  obtain ⟨b, eb⟩ : ∃ n, addC q1 o2 = n := ⟨_, rfl⟩
  rw [eb]
  have HB := hid eb
  obtain ⟨c, ec⟩ : ∃ n, addC q2 o3 = n := ⟨_, rfl⟩
  rw [ec]
  have HC := hid ec
  have Hyx := hid eyx
  have Hyy := hid eyy
  have Hyz := hid eyz
  clear hb0 hb1 hb2 hb3 hb4 hb5 hb6 hb7 hb8 eyx eyy eyz eq0 eq1 eq2 ea eb ec
  go_enter Try.func43, Try.ntmps43
  go_wp2_with fail
  refine (HV.out _).mono ?_
  rintro e w1 ⟨rfl, h1⟩
  obtain ⟨c1, f1⟩ := h1.cells
  have z1 := h1.size
  simp only [World.size_alloc] at z1
  have E1 : Ext w w1 := Ext.trans (by repeat (with_reducible (first | assumption | exact Ext.refl _ | apply Ext.alloc | apply Ext.drew | apply Ext.drewN))) h1
  have k1 : w.heap.size < w1.heap.size := by omega
  have k2 : w.heap.size + 1 < w1.heap.size := by omega
  have k3 : w.heap.size + 1 + 1 < w1.heap.size := by omega
  go_wp2_with fail
  refine (l02V_val Hyx.out Hyy.out Hyz.out _).mono ?_
  rintro e w2 ⟨rfl, h2⟩
  obtain ⟨c2, f2⟩ := h2.cells
  have z2 := h2.size
  have k4 : w.heap.size < w2.heap.size := by omega
  have k5 : w.heap.size + 1 < w2.heap.size := by omega
  have k6 : w.heap.size + 1 + 1 < w2.heap.size := by omega
  have E2 : Ext w w2 := E1.trans h2
  go_wp2_with fail
  go_loopw [17] (fun i wr => ∃ (k : Nat) (p0 p1 p2 : Int), k ≤ 3 ∧ i = .int .i64 k ∧ ASt w wr w2.heap.size m0 m1 m2 m3 m4 m5 m6 m7 m8 o1 o2 o3 yx yy yz p0 p1 p2 ∧ p0 = (if 0 < k then q0 else 0) ∧ p1 = (if 1 < k then q1 else 0) ∧ p2 = (if 2 < k then q2 else 0)) (fun i _ => 3 - (intOf i).toNat)
  case atStart =>
    refine ⟨0, 0, 0, 0, by omega, rfl, ?_, rfl, rfl, rfl⟩
    constructor
    all_goals first
      | exact (E2.alloc _).alloc _
      | omega
      | (simp; done)
      | (simp [go_sem, *]; done)
  case round =>
    clear c1 f1 c2 f2 h1 h2 E1 E2
    obtain ⟨k, p0, p1, p2, hk, rfl, hs, e0, e1, e2⟩ := hrel
    have HS := hid hs
    obtain ⟨hE, hpos, hsz, t0, t1, t2, t3, t4, t5, t6, t7, t8, t9, t10, t11, y0, y1, y2, u0, u1, u2, f0, f1, f2, r0, r1, r2, g0, g1, g2⟩ := hs
    have n0 : w.heap.size < wr.heap.size := by omega
    have n1 : w2.heap.size < wr.heap.size := by omega
    have n2 : w2.heap.size + 1 < wr.heap.size := by omega
    by_cases hlt : k < 3
    · have hc : k = 0 ∨ k = 1 ∨ k = 2 := by omega
      rcases hc with h | h | h <;> subst h
      all_goals simp at e0 e1 e2
      all_goals subst p0 p1 p2
      · go_wp2
        refine wp_region_stages [([0, 1, 2, 3, 4, 5, 6, 7, 8, 9, 10, 11, 12, 13, 14, 15, 16, 17, 18, 19, 20, 21, 22, 23, 24, 25, 26, 27, 28, 29], 30), ([31], 32)] 32 wr.heap.size (by kernel_rfl) (by kernel_rfl) ?_
        refine wpStages_cons ?_
        simp only [List.filterMap_cons, List.filterMap_nil, List.getElem?_toArray, List.getElem?_cons_zero, List.getElem?_cons_succ]
        show wpQuiet _ _ _ _ [_, _, _, _, _, _, _, _, _, _, _, _, _, _, _, _, _, _, _, _, _, _, _, _, _, _, _, _, _, _] _
        repeat (go_big_quiet_step (fail))
        refine wpQuiet_nil ⟨_, rfl, fun K hK => ?_⟩
        go_wp2_with fail
        refine (sFloorDiv_val (I64.mk (by omega) (by omega)) Q0.out _).mono ?_
        rintro e w3 ⟨rfl, rfl⟩
        go_wp2_with fail
        refine hK _ _ (.inr (fun b _ hb => Ext.block (by repeat (with_reducible (first | assumption | exact Ext.refl _ | apply Ext.alloc | apply Ext.drew | apply Ext.drewN))) hb)) ?_
        clear hK K
        refine wpStages_cons ?_
        simp only [List.filterMap_cons, List.filterMap_nil, List.getElem?_toArray, List.getElem?_cons_zero, List.getElem?_cons_succ]
        show wpQuiet _ _ _ _ [_] _
        try simp only [Act.put, List.setIfInBounds_toArray, List.set_cons_succ, List.set_cons_zero]
        repeat (go_big_quiet_step (fail))
        refine wpQuiet_nil ⟨_, rfl, fun K hK => ?_⟩
        go_wp2_with fail
        refine hK _ _ (.inl (by trivial)) (wpStages_nil ?_)
        clear hK K
        go_wp2
        go_roundw
        case rel =>
          refine ⟨1, q0, 0, 0, by omega, by go_num, ?_, by simp, by simp, by simp⟩
          have hA : w.heap.size ≤ w2.heap.size + 1 := by omega
          constructor
          case ext => exact Ext.drew (by apply Ext.setCell hE; exact hA)
          all_goals first
            | omega
            | (simp [go_sem, *]; done)
            | (simp; omega)
        case measure => simp [intOf]
      · go_wp2
        refine wp_region_stages [([0, 1, 2, 3, 4, 5, 6, 7, 8, 9, 10, 11, 12, 13, 14, 15, 16, 17, 18, 19, 20, 21, 22, 23, 24, 25, 26, 27, 28, 29], 30), ([31], 32)] 32 wr.heap.size (by kernel_rfl) (by kernel_rfl) ?_
        refine wpStages_cons ?_
        simp only [List.filterMap_cons, List.filterMap_nil, List.getElem?_toArray, List.getElem?_cons_zero, List.getElem?_cons_succ]
        show wpQuiet _ _ _ _ [_, _, _, _, _, _, _, _, _, _, _, _, _, _, _, _, _, _, _, _, _, _, _, _, _, _, _, _, _, _] _
        repeat (go_big_quiet_step (fail))
        refine wpQuiet_nil ⟨_, rfl, fun K hK => ?_⟩
        go_wp2_with fail
        refine (sFloorDiv_val (I64.mk (by omega) (by omega)) Q1.out _).mono ?_
        rintro e w3 ⟨rfl, rfl⟩
        go_wp2_with fail
        refine hK _ _ (.inr (fun b _ hb => Ext.block (by repeat (with_reducible (first | assumption | exact Ext.refl _ | apply Ext.alloc | apply Ext.drew | apply Ext.drewN))) hb)) ?_
        clear hK K
        refine wpStages_cons ?_
        simp only [List.filterMap_cons, List.filterMap_nil, List.getElem?_toArray, List.getElem?_cons_zero, List.getElem?_cons_succ]
        show wpQuiet _ _ _ _ [_] _
        try simp only [Act.put, List.setIfInBounds_toArray, List.set_cons_succ, List.set_cons_zero]
        repeat (go_big_quiet_step (fail))
        refine wpQuiet_nil ⟨_, rfl, fun K hK => ?_⟩
        go_wp2_with fail
        refine hK _ _ (.inl (by trivial)) (wpStages_nil ?_)
        clear hK K
        go_wp2
        go_roundw
        case rel =>
          refine ⟨2, q0, q1, 0, by omega, by go_num, ?_, by simp, by simp, by simp⟩
          have hA : w.heap.size ≤ w2.heap.size + 1 := by omega
          constructor
          case ext => exact Ext.drew (by apply Ext.setCell hE; exact hA)
          all_goals first
            | omega
            | (simp [go_sem, *]; done)
            | (simp; omega)
        case measure => simp [intOf]
      · go_wp2
        refine wp_region_stages [([0, 1, 2, 3, 4, 5, 6, 7, 8, 9, 10, 11, 12, 13, 14, 15, 16, 17, 18, 19, 20, 21, 22, 23, 24, 25, 26, 27, 28, 29], 30), ([31], 32)] 32 wr.heap.size (by kernel_rfl) (by kernel_rfl) ?_
        refine wpStages_cons ?_
        simp only [List.filterMap_cons, List.filterMap_nil, List.getElem?_toArray, List.getElem?_cons_zero, List.getElem?_cons_succ]
        show wpQuiet _ _ _ _ [_, _, _, _, _, _, _, _, _, _, _, _, _, _, _, _, _, _, _, _, _, _, _, _, _, _, _, _, _, _] _
        repeat (go_big_quiet_step (fail))
        refine wpQuiet_nil ⟨_, rfl, fun K hK => ?_⟩
        go_wp2_with fail
        refine (sFloorDiv_val (I64.mk (by omega) (by omega)) Q2.out _).mono ?_
        rintro e w3 ⟨rfl, rfl⟩
        go_wp2_with fail
        refine hK _ _ (.inr (fun b _ hb => Ext.block (by repeat (with_reducible (first | assumption | exact Ext.refl _ | apply Ext.alloc | apply Ext.drew | apply Ext.drewN))) hb)) ?_
        clear hK K
        refine wpStages_cons ?_
        simp only [List.filterMap_cons, List.filterMap_nil, List.getElem?_toArray, List.getElem?_cons_zero, List.getElem?_cons_succ]
        show wpQuiet _ _ _ _ [_] _
        try simp only [Act.put, List.setIfInBounds_toArray, List.set_cons_succ, List.set_cons_zero]
        repeat (go_big_quiet_step (fail))
        refine wpQuiet_nil ⟨_, rfl, fun K hK => ?_⟩
        go_wp2_with fail
        refine hK _ _ (.inl (by trivial)) (wpStages_nil ?_)
        clear hK K
        go_wp2
        go_roundw
        case rel =>
          refine ⟨3, q0, q1, q2, by omega, by go_num, ?_, by simp, by simp, by simp⟩
          have hA : w.heap.size ≤ w2.heap.size + 1 := by omega
          constructor
          case ext => exact Ext.drew (by apply Ext.setCell hE; exact hA)
          all_goals first
            | omega
            | (simp [go_sem, *]; done)
            | (simp; omega)
        case measure => simp [intOf]
    · obtain rfl : k = 3 := by omega
      simp at e0 e1 e2
      subst p0 p1 p2
      clear HS
      go_wp2
      refine wp_region_stages [([0, 1, 2, 3, 4, 5, 6, 7, 8, 9, 10, 11], 12), ([], 13)] 13 wr.heap.size (by kernel_rfl) (by kernel_rfl) ?_
      refine wpStages_cons ?_
      simp only [List.filterMap_cons, List.filterMap_nil, List.getElem?_toArray, List.getElem?_cons_zero, List.getElem?_cons_succ]
      show wpQuiet _ _ _ _ [_, _, _, _, _, _, _, _, _, _, _, _] _
      repeat (go_big_quiet_step (fail))
      refine wpQuiet_nil ⟨_, rfl, fun K hK => ?_⟩
      go_wp2_with fail
      refine (sAdd_val HA.out HB.out HC.out _).mono ?_
      rintro e w4 ⟨rfl, h4⟩
      obtain ⟨c4, f4⟩ := h4.cells
      have z4 := h4.size
      simp only [World.size_drew] at z4
      have n3 : w.heap.size + 1 + 1 < w4.heap.size := by omega
      have n4 : w.heap.size + 1 + 1 < wr.heap.size := by omega
      have E4 : Ext w w4 := Ext.trans (Ext.drew hE) h4
      have s0 := (c4 (w.heap.size + 1 + 1) 0 n4).trans r0
      have s1 := (c4 (w.heap.size + 1 + 1) 1 n4).trans r1
      have s2 := (c4 (w.heap.size + 1 + 1) 2 n4).trans r2
      have v0 := (f4 (w.heap.size + 1 + 1) 0 n4).trans g0
      have v1 := (f4 (w.heap.size + 1 + 1) 1 n4).trans g1
      have v2 := (f4 (w.heap.size + 1 + 1) 2 n4).trans g2
      go_wp2_with fail
      refine hK _ _ (.inr (fun b _ hb => Ext.block (Ext.trans (by repeat (with_reducible (first | assumption | exact Ext.refl _ | apply Ext.alloc | apply Ext.drew | apply Ext.drewN))) h4) hb)) ?_
      clear hK K
      refine wpStages_cons ?_
      simp only [List.filterMap_nil]
      show wpQuiet _ _ _ _ [] _
      refine wpQuiet_nil ⟨_, rfl, fun K hK => ?_⟩
      go_wp2_with fail
      refine hK _ _ (.inl (by trivial)) (wpStages_nil ?_)
      clear hK K
      go_wp2
      exact bodyPost_ret (v := .agg #[.int .i64 a, .int .i64 b, .int .i64 c]) (by simp [results, Try.results43, go_sem, *]) rfl ⟨rfl, (by repeat (first | with_reducible assumption | with_reducible exact Ext.refl _ | with_reducible apply Ext.alloc | with_reducible apply Ext.drew | with_reducible apply Ext.drewN | (with_reducible refine Ext.setCell ?_ (by simp; omega) _) | (with_reducible refine Ext.setCell ?_ (by simp) _)))⟩
end Go.Proofs.Yteeclghkfcanlaa
