/- This text proves what the rows of a transform are, and the program's Apply. -/
import Derived.Test.YtkcghoeklbcihaaGreatDoorL04a
namespace Go.Proofs.YtkcghoeklbcihaaGreatDoor
open Go.RowKit

set_option maxRecDepth 20000 in
set_option maxHeartbeats 1600000 in
theorem row0_val (m0 m1 m2 m3 m4 m5 m6 m7 m8 x y z : Int) (w : World) :
    Calls Tryz.prog 34 #[(⟨m0, m1, m2, m3, m4, m5, m6, m7, m8, x, y, z⟩ : Xf).V, .int .i64 0] w fun e w' => e = .returned (.agg #[.int .i64 m0, .int .i64 m1, .int .i64 m2]) ∧ Ext w w' := by
  unfold Xf.V
  go_enter Tryz.func34, Tryz.ntmps34
  go_wp2
  refine wp_region_stages [([0, 1, 2, 3, 4, 5, 6, 7, 8, 9, 10, 11, 12, 13, 14, 15, 16, 17], 18)] 18 (w.heap.size + 1 + 1) (by kernel_rfl) (by kernel_rfl) ?_
  refine wpStages_cons ?_
  simp only [List.filterMap_cons, List.filterMap_nil, List.getElem?_toArray, List.getElem?_cons_zero, List.getElem?_cons_succ]
  show wpQuiet _ _ _ _ [_, _, _, _, _, _, _, _, _, _, _, _, _, _, _, _, _, _] _
  repeat (go_big_quiet_step (fail))
  refine wpQuiet_nil ⟨_, rfl, fun K hK => ?_⟩
  go_wp2_with fail
  refine hK _ _ (.inl (by trivial)) (wpStages_nil ?_)
  clear hK K
  go_wp2
  exact bodyPost_ret (v := .agg #[.int .i64 m0, .int .i64 m1, .int .i64 m2]) (by simp [results, Tryz.results34, go_sem, *]) rfl ⟨rfl, (by repeat (first | with_reducible assumption | with_reducible exact Ext.refl _ | with_reducible apply Ext.alloc | with_reducible apply Ext.drew | with_reducible apply Ext.drewN | (with_reducible refine Ext.setCell ?_ (by simp; omega) _) | (with_reducible refine Ext.setCell ?_ (by simp) _)))⟩

set_option maxRecDepth 20000 in
set_option maxHeartbeats 1600000 in
theorem row1_val (m0 m1 m2 m3 m4 m5 m6 m7 m8 x y z : Int) (w : World) :
    Calls Tryz.prog 34 #[(⟨m0, m1, m2, m3, m4, m5, m6, m7, m8, x, y, z⟩ : Xf).V, .int .i64 1] w fun e w' => e = .returned (.agg #[.int .i64 m3, .int .i64 m4, .int .i64 m5]) ∧ Ext w w' := by
  unfold Xf.V
  go_enter Tryz.func34, Tryz.ntmps34
  go_wp2
  refine wp_region_stages [([0, 1, 2, 3, 4, 5, 6, 7, 8, 9, 10, 11, 12, 13, 14, 15, 16, 17], 18)] 18 (w.heap.size + 1 + 1) (by kernel_rfl) (by kernel_rfl) ?_
  refine wpStages_cons ?_
  simp only [List.filterMap_cons, List.filterMap_nil, List.getElem?_toArray, List.getElem?_cons_zero, List.getElem?_cons_succ]
  show wpQuiet _ _ _ _ [_, _, _, _, _, _, _, _, _, _, _, _, _, _, _, _, _, _] _
  repeat (go_big_quiet_step (fail))
  refine wpQuiet_nil ⟨_, rfl, fun K hK => ?_⟩
  go_wp2_with fail
  refine hK _ _ (.inl (by trivial)) (wpStages_nil ?_)
  clear hK K
  go_wp2
  exact bodyPost_ret (v := .agg #[.int .i64 m3, .int .i64 m4, .int .i64 m5]) (by simp [results, Tryz.results34, go_sem, *]) rfl ⟨rfl, (by repeat (first | with_reducible assumption | with_reducible exact Ext.refl _ | with_reducible apply Ext.alloc | with_reducible apply Ext.drew | with_reducible apply Ext.drewN | (with_reducible refine Ext.setCell ?_ (by simp; omega) _) | (with_reducible refine Ext.setCell ?_ (by simp) _)))⟩

set_option maxRecDepth 20000 in
set_option maxHeartbeats 1600000 in
theorem row2_val (m0 m1 m2 m3 m4 m5 m6 m7 m8 x y z : Int) (w : World) :
    Calls Tryz.prog 34 #[(⟨m0, m1, m2, m3, m4, m5, m6, m7, m8, x, y, z⟩ : Xf).V, .int .i64 2] w fun e w' => e = .returned (.agg #[.int .i64 m6, .int .i64 m7, .int .i64 m8]) ∧ Ext w w' := by
  unfold Xf.V
  go_enter Tryz.func34, Tryz.ntmps34
  go_wp2
  refine wp_region_stages [([0, 1, 2, 3, 4, 5, 6, 7, 8, 9, 10, 11, 12, 13, 14, 15, 16, 17], 18)] 18 (w.heap.size + 1 + 1) (by kernel_rfl) (by kernel_rfl) ?_
  refine wpStages_cons ?_
  simp only [List.filterMap_cons, List.filterMap_nil, List.getElem?_toArray, List.getElem?_cons_zero, List.getElem?_cons_succ]
  show wpQuiet _ _ _ _ [_, _, _, _, _, _, _, _, _, _, _, _, _, _, _, _, _, _] _
  repeat (go_big_quiet_step (fail))
  refine wpQuiet_nil ⟨_, rfl, fun K hK => ?_⟩
  go_wp2_with fail
  refine hK _ _ (.inl (by trivial)) (wpStages_nil ?_)
  clear hK K
  go_wp2
  exact bodyPost_ret (v := .agg #[.int .i64 m6, .int .i64 m7, .int .i64 m8]) (by simp [results, Tryz.results34, go_sem, *]) rfl ⟨rfl, (by repeat (first | with_reducible assumption | with_reducible exact Ext.refl _ | with_reducible apply Ext.alloc | with_reducible apply Ext.drew | with_reducible apply Ext.drewN | (with_reducible refine Ext.setCell ?_ (by simp; omega) _) | (with_reducible refine Ext.setCell ?_ (by simp) _)))⟩
end Go.Proofs.YtkcghoeklbcihaaGreatDoor
