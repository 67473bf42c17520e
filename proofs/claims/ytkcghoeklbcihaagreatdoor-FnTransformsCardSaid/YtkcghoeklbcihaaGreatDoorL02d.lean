/- This text proves what the program's product of two vectors is. -/
import Derived.Test.YtkcghoeklbcihaaGreatDoorL02c
import Derived.Deep.Cut
import Derived.Deep.CutRange
namespace Go.Proofs.YtkcghoeklbcihaaGreatDoor
open Go.RowKit

def dotC (x y z k l m : Int) : Int := cl x * cl k + cl y * cl l + cl z * cl m
theorem mul_range {a b : Int} (h1 : -1000000 ≤ a) (h2 : a ≤ 1000000) (h3 : -1000000 ≤ b) (h4 : b ≤ 1000000) : -1000000000000 ≤ a * b ∧ a * b ≤ 1000000000000 := by
  have k1 := Int.mul_nonneg (show 0 ≤ 1000000 - a by omega) (show 0 ≤ 1000000 - b by omega)
  have k2 := Int.mul_nonneg (show 0 ≤ 1000000 + a by omega) (show 0 ≤ 1000000 + b by omega)
  have k3 := Int.mul_nonneg (show 0 ≤ 1000000 - a by omega) (show 0 ≤ 1000000 + b by omega)
  have k4 := Int.mul_nonneg (show 0 ≤ 1000000 + a by omega) (show 0 ≤ 1000000 - b by omega)
  simp only [Int.sub_mul, Int.mul_sub, Int.add_mul, Int.mul_add] at k1 k2 k3 k4
  omega

set_option maxRecDepth 10000 in
set_option maxHeartbeats 3200000 in
theorem iDot_val {x y z k l m r : Int} (h : dotC x y z k l m = r) (w : World) :
    Calls Tryz.prog 33 #[.agg #[.int .i64 x, .int .i64 y, .int .i64 z], .agg #[.int .i64 k, .int .i64 l, .int .i64 m]] w fun e w' => e = .returned (.int .i64 r) ∧ Ext w w' := by
  unfold dotC at h
  obtain ⟨x1, ex1⟩ : ∃ n, cl x = n := ⟨_, rfl⟩
  obtain ⟨y1, ey1⟩ : ∃ n, cl k = n := ⟨_, rfl⟩
  have bx1 := cl_bd x
  have by1 := cl_bd k
  rw [ex1] at bx1 h
  rw [ey1] at by1 h
  have bp1 := mul_range bx1.1 bx1.2 by1.1 by1.2
  have X1 := hid ex1
  have Y1 := hid ey1
  obtain ⟨p1, ep1⟩ : ∃ n, x1 * y1 = n := ⟨_, rfl⟩
  rw [ep1] at bp1 h
  have S1 := hid (show wrap64 (x1 * y1) = p1 by rw [ep1]; exact wrap_small (by omega) (by omega))
  clear ex1 ey1 ep1
  obtain ⟨x2, ex2⟩ : ∃ n, cl y = n := ⟨_, rfl⟩
  obtain ⟨y2, ey2⟩ : ∃ n, cl l = n := ⟨_, rfl⟩
  have bx2 := cl_bd y
  have by2 := cl_bd l
  rw [ex2] at bx2 h
  rw [ey2] at by2 h
  have bp2 := mul_range bx2.1 bx2.2 by2.1 by2.2
  have X2 := hid ex2
  have Y2 := hid ey2
  obtain ⟨p2, ep2⟩ : ∃ n, x2 * y2 = n := ⟨_, rfl⟩
  rw [ep2] at bp2 h
  have S2 := hid (show wrap64 (x2 * y2) = p2 by rw [ep2]; exact wrap_small (by omega) (by omega))
  clear ex2 ey2 ep2
  obtain ⟨x3, ex3⟩ : ∃ n, cl z = n := ⟨_, rfl⟩
  obtain ⟨y3, ey3⟩ : ∃ n, cl m = n := ⟨_, rfl⟩
  have bx3 := cl_bd z
  have by3 := cl_bd m
  rw [ex3] at bx3 h
  rw [ey3] at by3 h
  have bp3 := mul_range bx3.1 bx3.2 by3.1 by3.2
  have X3 := hid ex3
  have Y3 := hid ey3
  obtain ⟨p3, ep3⟩ : ∃ n, x3 * y3 = n := ⟨_, rfl⟩
  rw [ep3] at bp3 h
  have S3 := hid (show wrap64 (x3 * y3) = p3 by rw [ep3]; exact wrap_small (by omega) (by omega))
  clear ex3 ey3 ep3
  have HR := hid h
  clear h
  go_enter Tryz.func33, Tryz.ntmps33
  go_upto_region 1 with fail
  go_cut [5] from 6 to 10 (fun p wx => ∃ A, p = .pointer (some ⟨A, 0, none⟩) ∧ Ext w wx ∧ wx.cell? ⟨A, 0, none⟩ = some (.int .i64 p1) ∧ wx.cell? ⟨A, 1, none⟩ = some (.int .i64 p2) ∧ wx.cell? ⟨A, 2, none⟩ = some (.int .i64 p3))
  case first =>
    refine wp_region_Z 6 (w.heap.size + 1 + 1) (by kernel_rfl) ?_
    refine wpZ_stage (fuel := 4) [0, 2] [1, 5] (by kernel_rfl) (fun _ _ _ => rfl) ?_
    simp only [List.filterMap_cons, List.filterMap_nil, List.getElem?_toArray, List.getElem?_cons_zero, List.getElem?_cons_succ]
    show wpQuiet _ _ _ _ [_, _] _
    repeat (go_big_quiet_step (fail))
    refine wpQuiet_nil ?_
    intro e he
    simp only [List.mem_cons, List.not_mem_nil, or_false] at he
    rcases he with rfl | rfl
    · (unfold wpComes; simp only [List.getElem?_toArray, List.getElem?_cons_succ, List.getElem?_cons_zero, Option.some.injEq]; refine ⟨_, rfl, fun K hK => ?_⟩)
      go_wp2_with fail
      refine (clamped_val X1.out X2.out X3.out _).mono ?_
      rintro e v0 ⟨rfl, h0⟩
      have E0 : Ext ((w.alloc (.cells #[.int .i64 x, .int .i64 y, .int .i64 z] 24)).alloc (.cells #[.int .i64 k, .int .i64 l, .int .i64 m] 24)) v0 := Ext.trans (by repeat (with_reducible (first | assumption | exact Ext.refl _ | apply Ext.alloc | apply Ext.drew | apply Ext.drewN))) h0
      have D0 : Ext w v0 := Ext.trans (by repeat (with_reducible (first | assumption | exact Ext.refl _ | apply Ext.alloc | apply Ext.drew | apply Ext.drewN))) E0
      obtain ⟨c0, f0⟩ := h0.cells
      have z0 := h0.size
      try simp at z0
      go_wp2_with fail
      refine hK _ _ (.inr (fun b _ hb => Ext.block (by repeat (with_reducible (first | assumption | exact Ext.refl _ | apply Ext.alloc | apply Ext.drew | apply Ext.drewN))) (by simp; omega))) ?_
      clear hK K
      refine wpZ_stage (fuel := 3) [] [3, 5] (by kernel_rfl) (fun b _ hb => Ext.block (by repeat (with_reducible (first | assumption | exact Ext.refl _ | apply Ext.alloc | apply Ext.drew | apply Ext.drewN))) (by simp; omega)) ?_
      refine wpQuiet_nil ?_
      intro e he
      simp only [List.mem_cons, List.not_mem_nil, or_false] at he
      rcases he with rfl | rfl
      · (unfold wpComes; simp only [List.getElem?_toArray, List.getElem?_cons_succ, List.getElem?_cons_zero, Option.some.injEq]; refine ⟨_, rfl, fun K hK => ?_⟩)
        go_wp2_with fail
        refine (clamped_val Y1.out Y2.out Y3.out _).mono ?_
        rintro e v1 ⟨rfl, h1⟩
        have E1 : Ext ((w.alloc (.cells #[.int .i64 x, .int .i64 y, .int .i64 z] 24)).alloc (.cells #[.int .i64 k, .int .i64 l, .int .i64 m] 24)) v1 := Ext.trans (by repeat (with_reducible (first | assumption | exact Ext.refl _ | apply Ext.alloc | apply Ext.drew | apply Ext.drewN))) h1
        have D1 : Ext w v1 := Ext.trans (by repeat (with_reducible (first | assumption | exact Ext.refl _ | apply Ext.alloc | apply Ext.drew | apply Ext.drewN))) E1
        obtain ⟨c1, f1⟩ := h1.cells
        have z1 := h1.size
        try simp at z1
        go_wp2_with fail
        refine hK _ _ (.inr (fun b _ hb => Ext.block (by repeat (with_reducible (first | assumption | exact Ext.refl _ | apply Ext.alloc | apply Ext.drew | apply Ext.drewN))) (by simp; omega))) ?_
        clear hK K
        refine wpZ_stage (fuel := 2) [] [4, 5] (by kernel_rfl) (fun b _ hb => Ext.block (by repeat (with_reducible (first | assumption | exact Ext.refl _ | apply Ext.alloc | apply Ext.drew | apply Ext.drewN))) (by simp; omega)) ?_
        refine wpQuiet_nil ?_
        intro e he
        simp only [List.mem_cons, List.not_mem_nil, or_false] at he
        rcases he with rfl | rfl
        · (unfold wpComes; simp only [List.getElem?_toArray, List.getElem?_cons_succ, List.getElem?_cons_zero, Option.some.injEq]; refine ⟨_, rfl, fun K hK => ?_⟩)
          go_wp2_with fail
          refine (withDot_val S1.out S2.out S3.out _).mono ?_
          rintro e v2 ⟨rfl, h2⟩
          have E2 : Ext ((w.alloc (.cells #[.int .i64 x, .int .i64 y, .int .i64 z] 24)).alloc (.cells #[.int .i64 k, .int .i64 l, .int .i64 m] 24)) v2 := Ext.trans (by repeat (with_reducible (first | assumption | exact Ext.refl _ | apply Ext.alloc | apply Ext.drew | apply Ext.drewN))) h2
          have D2 : Ext w v2 := Ext.trans (by repeat (with_reducible (first | assumption | exact Ext.refl _ | apply Ext.alloc | apply Ext.drew | apply Ext.drewN))) E2
          obtain ⟨c2, f2⟩ := h2.cells
          have z2 := h2.size
          try simp at z2
          go_wp2_with fail
          refine hK _ _ (.inr (fun b _ hb => Ext.block (by repeat (with_reducible (first | assumption | exact Ext.refl _ | apply Ext.alloc | apply Ext.drew | apply Ext.drewN))) (by simp; omega))) ?_
          clear hK K
          refine wpZ_stage (fuel := 1) [] [5] (by kernel_rfl) (fun b _ hb => Ext.block (by repeat (with_reducible (first | assumption | exact Ext.refl _ | apply Ext.alloc | apply Ext.drew | apply Ext.drewN))) (by simp; omega)) ?_
          refine wpQuiet_nil ?_
          intro e he
          simp only [List.mem_cons, List.not_mem_nil, or_false] at he
          subst he
          (unfold wpComes; simp only [List.getElem?_toArray, List.getElem?_cons_succ, List.getElem?_cons_zero, Option.some.injEq]; refine ⟨_, rfl, fun K hK => ?_⟩)
          go_wp2
          refine hK _ _ (.inr (fun b _ hb => Ext.block (by repeat (with_reducible (first | assumption | exact Ext.refl _ | apply Ext.alloc | apply Ext.drew | apply Ext.drewN))) (by simp; omega))) ?_
          clear hK K
          refine wpZ_stage (fuel := 0) [] [6] (by kernel_rfl) (fun b _ hb => Ext.block (by repeat (with_reducible (first | assumption | exact Ext.refl _ | apply Ext.alloc | apply Ext.drew | apply Ext.drewN))) (by simp; omega)) ?_
          refine wpQuiet_nil ?_
          intro e he
          simp only [List.mem_cons, List.not_mem_nil, or_false] at he
          subst he
          (unfold wpComes; simp only [List.getElem?_toArray, List.getElem?_cons_succ, List.getElem?_cons_zero, Option.some.injEq]; refine ⟨_, rfl, fun K hK => ?_⟩)
          go_wp2
          refine hK _ _ (.inl (by trivial)) ?_
          clear hK K
          refine wpZ_end (by kernel_rfl) ?_
          go_wp2_with fail
          go_meet
          refine ⟨_, rfl, (by repeat (first | with_reducible assumption | with_reducible exact Ext.refl _ | with_reducible apply Ext.alloc | with_reducible apply Ext.drew | with_reducible apply Ext.drewN | (with_reducible refine Ext.setCell ?_ (by simp; omega) _) | (with_reducible refine Ext.setCell ?_ (by simp) _))), by simp [go_sem, *], by simp [go_sem, *], by simp [go_sem, *]⟩
        · (unfold wpComes; simp only [List.getElem?_toArray, List.getElem?_cons_succ, List.getElem?_cons_zero, Option.some.injEq]; refine ⟨_, rfl, fun K hK => ?_⟩)
          go_wp2
          refine hK _ _ (.inr (fun b _ hb => Ext.block (by repeat (with_reducible (first | assumption | exact Ext.refl _ | apply Ext.alloc | apply Ext.drew | apply Ext.drewN))) (by simp; omega))) ?_
          clear hK K
          refine wpZ_stage (fuel := 1) [] [4] (by kernel_rfl) (fun b _ hb => Ext.block (by repeat (with_reducible (first | assumption | exact Ext.refl _ | apply Ext.alloc | apply Ext.drew | apply Ext.drewN))) (by simp; omega)) ?_
          refine wpQuiet_nil ?_
          intro e he
          simp only [List.mem_cons, List.not_mem_nil, or_false] at he
          subst he
          (unfold wpComes; simp only [List.getElem?_toArray, List.getElem?_cons_succ, List.getElem?_cons_zero, Option.some.injEq]; refine ⟨_, rfl, fun K hK => ?_⟩)
          go_wp2_with fail
          refine (withDot_val S1.out S2.out S3.out _).mono ?_
          rintro e v2 ⟨rfl, h2⟩
          have E2 : Ext ((w.alloc (.cells #[.int .i64 x, .int .i64 y, .int .i64 z] 24)).alloc (.cells #[.int .i64 k, .int .i64 l, .int .i64 m] 24)) v2 := Ext.trans (by repeat (with_reducible (first | assumption | exact Ext.refl _ | apply Ext.alloc | apply Ext.drew | apply Ext.drewN))) h2
          have D2 : Ext w v2 := Ext.trans (by repeat (with_reducible (first | assumption | exact Ext.refl _ | apply Ext.alloc | apply Ext.drew | apply Ext.drewN))) E2
          obtain ⟨c2, f2⟩ := h2.cells
          have z2 := h2.size
          try simp at z2
          have q2 : v1.heap.size < v2.heap.size := by omega
          go_wp2_with fail
          refine hK _ _ (.inr (fun b _ hb => Ext.block (by repeat (with_reducible (first | assumption | exact Ext.refl _ | apply Ext.alloc | apply Ext.drew | apply Ext.drewN))) (by simp; omega))) ?_
          clear hK K
          refine wpZ_stage (fuel := 0) [] [6] (by kernel_rfl) (fun b _ hb => Ext.block (by repeat (with_reducible (first | assumption | exact Ext.refl _ | apply Ext.alloc | apply Ext.drew | apply Ext.drewN))) (by simp; omega)) ?_
          refine wpQuiet_nil ?_
          intro e he
          simp only [List.mem_cons, List.not_mem_nil, or_false] at he
          subst he
          (unfold wpComes; simp only [List.getElem?_toArray, List.getElem?_cons_succ, List.getElem?_cons_zero, Option.some.injEq]; refine ⟨_, rfl, fun K hK => ?_⟩)
          go_wp2
          refine hK _ _ (.inl (by trivial)) ?_
          clear hK K
          refine wpZ_end (by kernel_rfl) ?_
          go_wp2_with fail
          go_meet
          refine ⟨_, rfl, (by repeat (first | with_reducible assumption | with_reducible exact Ext.refl _ | with_reducible apply Ext.alloc | with_reducible apply Ext.drew | with_reducible apply Ext.drewN | (with_reducible refine Ext.setCell ?_ (by simp; omega) _) | (with_reducible refine Ext.setCell ?_ (by simp) _))), by simp [go_sem, *], by simp [go_sem, *], by simp [go_sem, *]⟩
      · (unfold wpComes; simp only [List.getElem?_toArray, List.getElem?_cons_succ, List.getElem?_cons_zero, Option.some.injEq]; refine ⟨_, rfl, fun K hK => ?_⟩)
        go_wp2
        refine hK _ _ (.inr (fun b _ hb => Ext.block (by repeat (with_reducible (first | assumption | exact Ext.refl _ | apply Ext.alloc | apply Ext.drew | apply Ext.drewN))) (by simp; omega))) ?_
        clear hK K
        refine wpZ_stage (fuel := 2) [] [3] (by kernel_rfl) (fun b _ hb => Ext.block (by repeat (with_reducible (first | assumption | exact Ext.refl _ | apply Ext.alloc | apply Ext.drew | apply Ext.drewN))) (by simp; omega)) ?_
        refine wpQuiet_nil ?_
        intro e he
        simp only [List.mem_cons, List.not_mem_nil, or_false] at he
        subst he
        (unfold wpComes; simp only [List.getElem?_toArray, List.getElem?_cons_succ, List.getElem?_cons_zero, Option.some.injEq]; refine ⟨_, rfl, fun K hK => ?_⟩)
        go_wp2_with fail
        refine (clamped_val Y1.out Y2.out Y3.out _).mono ?_
        rintro e v1 ⟨rfl, h1⟩
        have E1 : Ext ((w.alloc (.cells #[.int .i64 x, .int .i64 y, .int .i64 z] 24)).alloc (.cells #[.int .i64 k, .int .i64 l, .int .i64 m] 24)) v1 := Ext.trans (by repeat (with_reducible (first | assumption | exact Ext.refl _ | apply Ext.alloc | apply Ext.drew | apply Ext.drewN))) h1
        have D1 : Ext w v1 := Ext.trans (by repeat (with_reducible (first | assumption | exact Ext.refl _ | apply Ext.alloc | apply Ext.drew | apply Ext.drewN))) E1
        obtain ⟨c1, f1⟩ := h1.cells
        have z1 := h1.size
        try simp at z1
        have q1 : v0.heap.size < v1.heap.size := by omega
        go_wp2_with fail
        refine hK _ _ (.inr (fun b _ hb => Ext.block (by repeat (with_reducible (first | assumption | exact Ext.refl _ | apply Ext.alloc | apply Ext.drew | apply Ext.drewN))) (by simp; omega))) ?_
        clear hK K
        refine wpZ_stage (fuel := 1) [] [4] (by kernel_rfl) (fun b _ hb => Ext.block (by repeat (with_reducible (first | assumption | exact Ext.refl _ | apply Ext.alloc | apply Ext.drew | apply Ext.drewN))) (by simp; omega)) ?_
        refine wpQuiet_nil ?_
        intro e he
        simp only [List.mem_cons, List.not_mem_nil, or_false] at he
        subst he
        (unfold wpComes; simp only [List.getElem?_toArray, List.getElem?_cons_succ, List.getElem?_cons_zero, Option.some.injEq]; refine ⟨_, rfl, fun K hK => ?_⟩)
        go_wp2_with fail
        refine (withDot_val S1.out S2.out S3.out _).mono ?_
        rintro e v2 ⟨rfl, h2⟩
        have E2 : Ext ((w.alloc (.cells #[.int .i64 x, .int .i64 y, .int .i64 z] 24)).alloc (.cells #[.int .i64 k, .int .i64 l, .int .i64 m] 24)) v2 := Ext.trans (by repeat (with_reducible (first | assumption | exact Ext.refl _ | apply Ext.alloc | apply Ext.drew | apply Ext.drewN))) h2
        have D2 : Ext w v2 := Ext.trans (by repeat (with_reducible (first | assumption | exact Ext.refl _ | apply Ext.alloc | apply Ext.drew | apply Ext.drewN))) E2
        obtain ⟨c2, f2⟩ := h2.cells
        have z2 := h2.size
        try simp at z2
        have q2 : v0.heap.size < v2.heap.size := by omega
        go_wp2_with fail
        refine hK _ _ (.inr (fun b _ hb => Ext.block (by repeat (with_reducible (first | assumption | exact Ext.refl _ | apply Ext.alloc | apply Ext.drew | apply Ext.drewN))) (by simp; omega))) ?_
        clear hK K
        refine wpZ_stage (fuel := 0) [] [6] (by kernel_rfl) (fun b _ hb => Ext.block (by repeat (with_reducible (first | assumption | exact Ext.refl _ | apply Ext.alloc | apply Ext.drew | apply Ext.drewN))) (by simp; omega)) ?_
        refine wpQuiet_nil ?_
        intro e he
        simp only [List.mem_cons, List.not_mem_nil, or_false] at he
        subst he
        (unfold wpComes; simp only [List.getElem?_toArray, List.getElem?_cons_succ, List.getElem?_cons_zero, Option.some.injEq]; refine ⟨_, rfl, fun K hK => ?_⟩)
        go_wp2
        refine hK _ _ (.inl (by trivial)) ?_
        clear hK K
        refine wpZ_end (by kernel_rfl) ?_
        go_wp2_with fail
        go_meet
        refine ⟨_, rfl, (by repeat (first | with_reducible assumption | with_reducible exact Ext.refl _ | with_reducible apply Ext.alloc | with_reducible apply Ext.drew | with_reducible apply Ext.drewN | (with_reducible refine Ext.setCell ?_ (by simp; omega) _) | (with_reducible refine Ext.setCell ?_ (by simp) _))), by simp [go_sem, *], by simp [go_sem, *], by simp [go_sem, *]⟩
    · (unfold wpComes; simp only [List.getElem?_toArray, List.getElem?_cons_succ, List.getElem?_cons_zero, Option.some.injEq]; refine ⟨_, rfl, fun K hK => ?_⟩)
      go_wp2
      refine hK _ _ (.inr (fun b _ hb => Ext.block (by repeat (with_reducible (first | assumption | exact Ext.refl _ | apply Ext.alloc | apply Ext.drew | apply Ext.drewN))) (by simp; omega))) ?_
      clear hK K
      refine wpZ_stage (fuel := 3) [] [1] (by kernel_rfl) (fun b _ hb => Ext.block (by repeat (with_reducible (first | assumption | exact Ext.refl _ | apply Ext.alloc | apply Ext.drew | apply Ext.drewN))) (by simp; omega)) ?_
      refine wpQuiet_nil ?_
      intro e he
      simp only [List.mem_cons, List.not_mem_nil, or_false] at he
      subst he
      (unfold wpComes; simp only [List.getElem?_toArray, List.getElem?_cons_succ, List.getElem?_cons_zero, Option.some.injEq]; refine ⟨_, rfl, fun K hK => ?_⟩)
      go_wp2_with fail
      refine (clamped_val X1.out X2.out X3.out _).mono ?_
      rintro e v0 ⟨rfl, h0⟩
      have E0 : Ext ((w.alloc (.cells #[.int .i64 x, .int .i64 y, .int .i64 z] 24)).alloc (.cells #[.int .i64 k, .int .i64 l, .int .i64 m] 24)) v0 := Ext.trans (by repeat (with_reducible (first | assumption | exact Ext.refl _ | apply Ext.alloc | apply Ext.drew | apply Ext.drewN))) h0
      have D0 : Ext w v0 := Ext.trans (by repeat (with_reducible (first | assumption | exact Ext.refl _ | apply Ext.alloc | apply Ext.drew | apply Ext.drewN))) E0
      obtain ⟨c0, f0⟩ := h0.cells
      have z0 := h0.size
      try simp at z0
      have q0 : w.heap.size + 1 + 1 < v0.heap.size := by omega
      go_wp2_with fail
      refine hK _ _ (.inr (fun b _ hb => Ext.block (by repeat (with_reducible (first | assumption | exact Ext.refl _ | apply Ext.alloc | apply Ext.drew | apply Ext.drewN))) (by simp; omega))) ?_
      clear hK K
      refine wpZ_stage (fuel := 2) [] [3] (by kernel_rfl) (fun b _ hb => Ext.block (by repeat (with_reducible (first | assumption | exact Ext.refl _ | apply Ext.alloc | apply Ext.drew | apply Ext.drewN))) (by simp; omega)) ?_
      refine wpQuiet_nil ?_
      intro e he
      simp only [List.mem_cons, List.not_mem_nil, or_false] at he
      subst he
      (unfold wpComes; simp only [List.getElem?_toArray, List.getElem?_cons_succ, List.getElem?_cons_zero, Option.some.injEq]; refine ⟨_, rfl, fun K hK => ?_⟩)
      go_wp2_with fail
      refine (clamped_val Y1.out Y2.out Y3.out _).mono ?_
      rintro e v1 ⟨rfl, h1⟩
      have E1 : Ext ((w.alloc (.cells #[.int .i64 x, .int .i64 y, .int .i64 z] 24)).alloc (.cells #[.int .i64 k, .int .i64 l, .int .i64 m] 24)) v1 := Ext.trans (by repeat (with_reducible (first | assumption | exact Ext.refl _ | apply Ext.alloc | apply Ext.drew | apply Ext.drewN))) h1
      have D1 : Ext w v1 := Ext.trans (by repeat (with_reducible (first | assumption | exact Ext.refl _ | apply Ext.alloc | apply Ext.drew | apply Ext.drewN))) E1
      obtain ⟨c1, f1⟩ := h1.cells
      have z1 := h1.size
      try simp at z1
      have q1 : w.heap.size + 1 + 1 < v1.heap.size := by omega
      go_wp2_with fail
      refine hK _ _ (.inr (fun b _ hb => Ext.block (by repeat (with_reducible (first | assumption | exact Ext.refl _ | apply Ext.alloc | apply Ext.drew | apply Ext.drewN))) (by simp; omega))) ?_
      clear hK K
      refine wpZ_stage (fuel := 1) [] [4] (by kernel_rfl) (fun b _ hb => Ext.block (by repeat (with_reducible (first | assumption | exact Ext.refl _ | apply Ext.alloc | apply Ext.drew | apply Ext.drewN))) (by simp; omega)) ?_
      refine wpQuiet_nil ?_
      intro e he
      simp only [List.mem_cons, List.not_mem_nil, or_false] at he
      subst he
      (unfold wpComes; simp only [List.getElem?_toArray, List.getElem?_cons_succ, List.getElem?_cons_zero, Option.some.injEq]; refine ⟨_, rfl, fun K hK => ?_⟩)
      go_wp2_with fail
      refine (withDot_val S1.out S2.out S3.out _).mono ?_
      rintro e v2 ⟨rfl, h2⟩
      have E2 : Ext ((w.alloc (.cells #[.int .i64 x, .int .i64 y, .int .i64 z] 24)).alloc (.cells #[.int .i64 k, .int .i64 l, .int .i64 m] 24)) v2 := Ext.trans (by repeat (with_reducible (first | assumption | exact Ext.refl _ | apply Ext.alloc | apply Ext.drew | apply Ext.drewN))) h2
      have D2 : Ext w v2 := Ext.trans (by repeat (with_reducible (first | assumption | exact Ext.refl _ | apply Ext.alloc | apply Ext.drew | apply Ext.drewN))) E2
      obtain ⟨c2, f2⟩ := h2.cells
      have z2 := h2.size
      try simp at z2
      have q2 : w.heap.size + 1 + 1 < v2.heap.size := by omega
      go_wp2_with fail
      refine hK _ _ (.inr (fun b _ hb => Ext.block (by repeat (with_reducible (first | assumption | exact Ext.refl _ | apply Ext.alloc | apply Ext.drew | apply Ext.drewN))) (by simp; omega))) ?_
      clear hK K
      refine wpZ_stage (fuel := 0) [] [6] (by kernel_rfl) (fun b _ hb => Ext.block (by repeat (with_reducible (first | assumption | exact Ext.refl _ | apply Ext.alloc | apply Ext.drew | apply Ext.drewN))) (by simp; omega)) ?_
      refine wpQuiet_nil ?_
      intro e he
      simp only [List.mem_cons, List.not_mem_nil, or_false] at he
      subst he
      (unfold wpComes; simp only [List.getElem?_toArray, List.getElem?_cons_succ, List.getElem?_cons_zero, Option.some.injEq]; refine ⟨_, rfl, fun K hK => ?_⟩)
      go_wp2
      refine hK _ _ (.inl (by trivial)) ?_
      clear hK K
      refine wpZ_end (by kernel_rfl) ?_
      go_wp2_with fail
      go_meet
      refine ⟨_, rfl, (by repeat (first | with_reducible assumption | with_reducible exact Ext.refl _ | with_reducible apply Ext.alloc | with_reducible apply Ext.drew | with_reducible apply Ext.drewN | (with_reducible refine Ext.setCell ?_ (by simp; omega) _) | (with_reducible refine Ext.setCell ?_ (by simp) _))), by simp [go_sem, *], by simp [go_sem, *], by simp [go_sem, *]⟩
  case rest =>
    obtain ⟨A, rfl, E, k0, k1, k2⟩ := hcut
    go_wp2
    go_ret
    exact ⟨ret_int HR.out, E⟩
end Go.Proofs.YtkcghoeklbcihaaGreatDoor
