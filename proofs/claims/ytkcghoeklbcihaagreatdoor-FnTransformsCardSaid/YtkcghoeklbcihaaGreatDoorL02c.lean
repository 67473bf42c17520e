/- This text proves what the sum of two vectors is: the program's and the reference's; and when a vector is valid. -/
import Derived.Test.YtkcghoeklbcihaaGreatDoorL02b
namespace Go.Proofs.YtkcghoeklbcihaaGreatDoor
open Go.RowKit

def addC (x k : Int) : Int := cl (cl x + cl k)
theorem cl_bd (n : Int) : -1000000 ≤ cl n ∧ cl n ≤ 1000000 := by
  unfold cl clampI
  split
  · omega
  · split <;> omega

set_option maxHeartbeats 1600000 in
theorem iAdd_val {x y z k l m a b c : Int} (ha : addC x k = a) (hb : addC y l = b) (hc : addC z m = c) (w : World) :
    Calls Tryz.prog 32 #[.agg #[.int .i64 x, .int .i64 y, .int .i64 z], .agg #[.int .i64 k, .int .i64 l, .int .i64 m]] w fun e w' => e = .returned (.agg #[.int .i64 a, .int .i64 b, .int .i64 c]) ∧ Ext w w' := by
  obtain ⟨x1, ex1⟩ : ∃ n, cl x = n := ⟨_, rfl⟩
  obtain ⟨y1, ey1⟩ : ∃ n, cl k = n := ⟨_, rfl⟩
  have bx1 := cl_bd x
  have by1 := cl_bd k
  unfold addC at ha
  rw [ex1] at bx1 ha
  rw [ey1] at by1 ha
  have X1 := hid ex1
  have Y1 := hid ey1
  have S1 := hid (show wrap64 (x1 + y1) = x1 + y1 from wrap_small (by omega) (by omega))
  have HA := hid ha
  clear ex1 ey1 ha
  obtain ⟨x2, ex2⟩ : ∃ n, cl y = n := ⟨_, rfl⟩
  obtain ⟨y2, ey2⟩ : ∃ n, cl l = n := ⟨_, rfl⟩
  have bx2 := cl_bd y
  have by2 := cl_bd l
  unfold addC at hb
  rw [ex2] at bx2 hb
  rw [ey2] at by2 hb
  have X2 := hid ex2
  have Y2 := hid ey2
  have S2 := hid (show wrap64 (x2 + y2) = x2 + y2 from wrap_small (by omega) (by omega))
  have HB := hid hb
  clear ex2 ey2 hb
  obtain ⟨x3, ex3⟩ : ∃ n, cl z = n := ⟨_, rfl⟩
  obtain ⟨y3, ey3⟩ : ∃ n, cl m = n := ⟨_, rfl⟩
  have bx3 := cl_bd z
  have by3 := cl_bd m
  unfold addC at hc
  rw [ex3] at bx3 hc
  rw [ey3] at by3 hc
  have X3 := hid ex3
  have Y3 := hid ey3
  have S3 := hid (show wrap64 (x3 + y3) = x3 + y3 from wrap_small (by omega) (by omega))
  have HC := hid hc
  clear ex3 ey3 hc
  go_enter Tryz.func32, Tryz.ntmps32
  go_wp2
  refine wp_region_stages [([0, 2], 1), ([], 3), ([], 4), ([], 5), ([], 6)] 6 (w.heap.size + 1 + 1 + 1) (by kernel_rfl) (by kernel_rfl) ?_
  refine wpStages_cons ?_
  simp only [List.filterMap_cons, List.filterMap_nil, List.getElem?_toArray, List.getElem?_cons_zero, List.getElem?_cons_succ]
  show wpQuiet _ _ _ _ [_, _] _
  repeat (go_big_quiet_step (fail))
  refine wpQuiet_nil ⟨_, rfl, fun K hK => ?_⟩
  go_wp2_with fail
  refine (clamped_val X1.out X2.out X3.out _).mono ?_
  rintro e w1 ⟨rfl, h1⟩
  have e1 := Ext.trans (w := _) (by repeat (with_reducible (first | assumption | exact Ext.refl _ | apply Ext.alloc | apply Ext.drew | apply Ext.drewN))) h1
  go_wp2_with fail
  refine hK _ _ (.inr (fun b _ hb => (h1.block (by simp; omega)).trans (Ext.block (by repeat (with_reducible (first | assumption | exact Ext.refl _ | apply Ext.alloc | apply Ext.drew | apply Ext.drewN))) (by simp; omega)))) ?_
  clear hK K
  refine wpStages_cons ?_
  simp only [List.filterMap_nil]
  show wpQuiet _ _ _ _ [] _
  try simp only [Act.put, List.setIfInBounds_toArray, List.set_cons_succ, List.set_cons_zero]
  refine wpQuiet_nil ⟨_, rfl, fun K hK => ?_⟩
  go_wp2_with fail
  refine (clamped_val Y1.out Y2.out Y3.out _).mono ?_
  rintro e w2 ⟨rfl, h2⟩
  have e2 := h1.trans h2
  go_wp2_with fail
  refine hK _ _ (.inr (fun b _ hb => (e2.block (by simp; omega)).trans (Ext.block (by repeat (with_reducible (first | assumption | exact Ext.refl _ | apply Ext.alloc | apply Ext.drew | apply Ext.drewN))) (by simp; omega)))) ?_
  clear hK K
  refine wpStages_cons ?_
  simp only [List.filterMap_nil]
  show wpQuiet _ _ _ _ [] _
  try simp only [Act.put, List.setIfInBounds_toArray, List.set_cons_succ, List.set_cons_zero]
  refine wpQuiet_nil ⟨_, rfl, fun K hK => ?_⟩
  go_wp2_with fail
  refine (plus_val S1.out S2.out S3.out _).mono ?_
  rintro e w3 ⟨rfl, h3⟩
  have e3 := e2.trans h3
  go_wp2_with fail
  refine hK _ _ (.inr (fun b _ hb => (e3.block (by simp; omega)).trans (Ext.block (by repeat (with_reducible (first | assumption | exact Ext.refl _ | apply Ext.alloc | apply Ext.drew | apply Ext.drewN))) (by simp; omega)))) ?_
  clear hK K
  refine wpStages_cons ?_
  simp only [List.filterMap_nil]
  show wpQuiet _ _ _ _ [] _
  try simp only [Act.put, List.setIfInBounds_toArray, List.set_cons_succ, List.set_cons_zero]
  refine wpQuiet_nil ⟨_, rfl, fun K hK => ?_⟩
  go_wp2_with fail
  refine (clamped_val HA.out HB.out HC.out _).mono ?_
  rintro e w4 ⟨rfl, h4⟩
  have e4 := e3.trans h4
  go_wp2_with fail
  refine hK _ _ (.inr (fun b _ hb => (e4.block (by simp; omega)).trans (Ext.block (by repeat (with_reducible (first | assumption | exact Ext.refl _ | apply Ext.alloc | apply Ext.drew | apply Ext.drewN))) (by simp; omega)))) ?_
  clear hK K
  refine wpStages_cons ?_
  simp only [List.filterMap_nil]
  show wpQuiet _ _ _ _ [] _
  try simp only [Act.put, List.setIfInBounds_toArray, List.set_cons_succ, List.set_cons_zero]
  have z4 := e4.size
  simp at z4
  obtain ⟨c4, f4⟩ := e4.cells
  have q4 : w.heap.size + 1 + 1 < w4.heap.size := by omega
  have E4 : Ext w w4 := Ext.trans (by repeat (with_reducible (first | assumption | exact Ext.refl _ | apply Ext.alloc | apply Ext.drew | apply Ext.drewN))) e4
  refine wpQuiet_nil ⟨_, rfl, fun K hK => ?_⟩
  go_wp2_with fail
  refine hK _ _ (.inl (by trivial)) (wpStages_nil ?_)
  clear hK K
  go_wp2
  exact bodyPost_ret (v := .agg #[.int .i64 a, .int .i64 b, .int .i64 c]) (by simp [results, Tryz.results32, go_sem, *]) rfl ⟨rfl, (by repeat (first | with_reducible assumption | with_reducible exact Ext.refl _ | with_reducible apply Ext.alloc | with_reducible apply Ext.drew | with_reducible apply Ext.drewN | (with_reducible refine Ext.setCell ?_ (by simp; omega) _) | (with_reducible refine Ext.setCell ?_ (by simp) _)))⟩

end Go.Proofs.YtkcghoeklbcihaaGreatDoor
