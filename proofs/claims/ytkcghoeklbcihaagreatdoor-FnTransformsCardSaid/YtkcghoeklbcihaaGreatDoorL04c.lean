/- This text proves what the program's Apply hands back. -/
import Derived.Test.YtkcghoeklbcihaaGreatDoorL04b
namespace Go.Proofs.YtkcghoeklbcihaaGreatDoor
open Go.RowKit

theorem dotC_I64 (x y z k l m : Int) : I64 (dotC x y z k l m) := by
  have b1 := cl_bd x
  have b2 := cl_bd y
  have b3 := cl_bd z
  have b4 := cl_bd k
  have b5 := cl_bd l
  have b6 := cl_bd m
  have c1 := mul_range b1.1 b1.2 b4.1 b4.2
  have c2 := mul_range b2.1 b2.2 b5.1 b5.2
  have c3 := mul_range b3.1 b3.2 b6.1 b6.2
  unfold dotC
  exact ⟨by omega, by omega⟩
/-- one component of what Apply makes of a valid transform -/
def appC (a b c o x y z : Int) : Int := addC (fdiv (dotC a b c x y z) 16) o

set_option maxRecDepth 20000 in
set_option maxHeartbeats 3200000 in
theorem iApply_ok (m0 m1 m2 m3 m4 m5 m6 m7 m8 o1 o2 o3 x y z : Int) (ht : (⟨m0, m1, m2, m3, m4, m5, m6, m7, m8, o1, o2, o3⟩ : Xf).I) (hok : (⟨m0, m1, m2, m3, m4, m5, m6, m7, m8, o1, o2, o3⟩ : Xf).ok = true) (w : World) :
    Calls Tryz.prog 12 #[(⟨m0, m1, m2, m3, m4, m5, m6, m7, m8, o1, o2, o3⟩ : Xf).V, .agg #[.int .i64 x, .int .i64 y, .int .i64 z]] w fun e w' => e = .returned (.agg #[.int .i64 (appC m0 m1 m2 o1 x y z), .int .i64 (appC m3 m4 m5 o2 x y z), .int .i64 (appC m6 m7 m8 o3 x y z)]) ∧ Ext w w' := by
  obtain ⟨d1, e1⟩ : ∃ d, dotC m0 m1 m2 x y z = d := ⟨_, rfl⟩
  obtain ⟨d2, e2⟩ : ∃ d, dotC m3 m4 m5 x y z = d := ⟨_, rfl⟩
  obtain ⟨d3, e3⟩ : ∃ d, dotC m6 m7 m8 x y z = d := ⟨_, rfl⟩
  have J1 := hid (e1 ▸ dotC_I64 m0 m1 m2 x y z)
  have J2 := hid (e2 ▸ dotC_I64 m3 m4 m5 x y z)
  have J3 := hid (e3 ▸ dotC_I64 m6 m7 m8 x y z)
  unfold appC
  rw [e1, e2, e3]
  obtain ⟨q1, g1⟩ : ∃ d, fdiv d1 16 = d := ⟨_, rfl⟩
  obtain ⟨q2, g2⟩ : ∃ d, fdiv d2 16 = d := ⟨_, rfl⟩
  obtain ⟨q3, g3⟩ : ∃ d, fdiv d3 16 = d := ⟨_, rfl⟩
  rw [g1, g2, g3]
  obtain ⟨a, ha⟩ : ∃ d, addC q1 o1 = d := ⟨_, rfl⟩
  obtain ⟨b, hb⟩ : ∃ d, addC q2 o2 = d := ⟨_, rfl⟩
  obtain ⟨c, hc⟩ : ∃ d, addC q3 o3 = d := ⟨_, rfl⟩
  rw [ha, hb, hc]
  have D1 := hid e1
  have D2 := hid e2
  have D3 := hid e3
  have Q1 := hid g1
  have Q2 := hid g2
  have Q3 := hid g3
  have HA := hid ha
  have HB := hid hb
  have HC := hid hc
  have HV := hid (iIsValidTransform_val _ ht)
  rw [hok] at HV
  clear e1 e2 e3 g1 g2 g3 ha hb hc ht hok
  have R0 := hid (row0_val m0 m1 m2 m3 m4 m5 m6 m7 m8 o1 o2 o3)
  have R1 := hid (row1_val m0 m1 m2 m3 m4 m5 m6 m7 m8 o1 o2 o3)
  have R2 := hid (row2_val m0 m1 m2 m3 m4 m5 m6 m7 m8 o1 o2 o3)
  unfold Xf.V at HV R0 R1 R2 ⊢
  simp only at HV R0 R1 R2 ⊢
  go_enter Tryz.func12, Tryz.ntmps12
  go_wp2_with fail
  refine (HV.out _).mono ?_
  rintro e w1 ⟨rfl, h1⟩
  obtain ⟨c1, f1⟩ := h1.cells
  have z1 := h1.size
  simp only [World.size_alloc] at z1
  have E1 : Ext w w1 := Ext.trans (by repeat (with_reducible (first | assumption | exact Ext.refl _ | apply Ext.alloc | apply Ext.drew | apply Ext.drewN))) h1
  have q1 : w.heap.size < w1.heap.size := by omega
  have q2 : w.heap.size + 1 < w1.heap.size := by omega
  have q3 : w.heap.size + 1 + 1 < w1.heap.size := by omega
  go_wp2
  refine wp_region_stages [([0, 2, 4, 6, 8, 10, 14, 15], 1), ([], 3), ([], 5), ([], 7), ([], 9), ([], 11), ([12], 13), ([], 16), ([], 17)] 17 w1.heap.size (by kernel_rfl) (by kernel_rfl) ?_
  refine wpStages_cons ?_
  simp only [List.filterMap_cons, List.filterMap_nil, List.getElem?_toArray, List.getElem?_cons_zero, List.getElem?_cons_succ]
  show wpQuiet _ _ _ _ [_, _, _, _, _, _, _, _] _
  try simp only [Act.put, List.setIfInBounds_toArray, List.set_cons_succ, List.set_cons_zero]
  repeat (go_big_quiet_step (fail))
  refine wpQuiet_nil ⟨_, rfl, fun K hK => ?_⟩
  go_wp2_with fail
  refine (R0.out _).mono ?_
  rintro e v2 ⟨rfl, h2⟩
  have G2 : Ext w1 v2 := Ext.trans (by repeat (with_reducible (first | assumption | exact Ext.refl _ | apply Ext.alloc | apply Ext.drew | apply Ext.drewN))) h2
  go_wp2_with fail
  refine hK _ _ (.inr (fun b _ hb => Ext.block (by repeat (with_reducible (first | assumption | exact Ext.refl _ | apply Ext.alloc | apply Ext.drew | apply Ext.drewN))) hb)) ?_
  clear hK K
  refine wpStages_cons ?_
  simp only [List.filterMap_nil]
  show wpQuiet _ _ _ _ [] _
  try simp only [Act.put, List.setIfInBounds_toArray, List.set_cons_succ, List.set_cons_zero]
  refine wpQuiet_nil ⟨_, rfl, fun K hK => ?_⟩
  go_wp2_with fail
  refine (iDot_val D1.out _).mono ?_
  rintro e v3 ⟨rfl, h3⟩
  have G3 : Ext w1 v3 := Ext.trans (by repeat (with_reducible (first | assumption | exact Ext.refl _ | apply Ext.alloc | apply Ext.drew | apply Ext.drewN))) h3
  go_wp2_with fail
  refine hK _ _ (.inr (fun b _ hb => Ext.block (by repeat (with_reducible (first | assumption | exact Ext.refl _ | apply Ext.alloc | apply Ext.drew | apply Ext.drewN))) hb)) ?_
  clear hK K
  refine wpStages_cons ?_
  simp only [List.filterMap_nil]
  show wpQuiet _ _ _ _ [] _
  try simp only [Act.put, List.setIfInBounds_toArray, List.set_cons_succ, List.set_cons_zero]
  refine wpQuiet_nil ⟨_, rfl, fun K hK => ?_⟩
  go_wp2_with fail
  refine (R1.out _).mono ?_
  rintro e v4 ⟨rfl, h4⟩
  have G4 : Ext w1 v4 := Ext.trans (by repeat (with_reducible (first | assumption | exact Ext.refl _ | apply Ext.alloc | apply Ext.drew | apply Ext.drewN))) h4
  go_wp2_with fail
  refine hK _ _ (.inr (fun b _ hb => Ext.block (by repeat (with_reducible (first | assumption | exact Ext.refl _ | apply Ext.alloc | apply Ext.drew | apply Ext.drewN))) hb)) ?_
  clear hK K
  refine wpStages_cons ?_
  simp only [List.filterMap_nil]
  show wpQuiet _ _ _ _ [] _
  try simp only [Act.put, List.setIfInBounds_toArray, List.set_cons_succ, List.set_cons_zero]
  refine wpQuiet_nil ⟨_, rfl, fun K hK => ?_⟩
  go_wp2_with fail
  refine (iDot_val D2.out _).mono ?_
  rintro e v5 ⟨rfl, h5⟩
  have G5 : Ext w1 v5 := Ext.trans (by repeat (with_reducible (first | assumption | exact Ext.refl _ | apply Ext.alloc | apply Ext.drew | apply Ext.drewN))) h5
  go_wp2_with fail
  refine hK _ _ (.inr (fun b _ hb => Ext.block (by repeat (with_reducible (first | assumption | exact Ext.refl _ | apply Ext.alloc | apply Ext.drew | apply Ext.drewN))) hb)) ?_
  clear hK K
  refine wpStages_cons ?_
  simp only [List.filterMap_nil]
  show wpQuiet _ _ _ _ [] _
  try simp only [Act.put, List.setIfInBounds_toArray, List.set_cons_succ, List.set_cons_zero]
  refine wpQuiet_nil ⟨_, rfl, fun K hK => ?_⟩
  go_wp2_with fail
  refine (R2.out _).mono ?_
  rintro e v6 ⟨rfl, h6⟩
  have G6 : Ext w1 v6 := Ext.trans (by repeat (with_reducible (first | assumption | exact Ext.refl _ | apply Ext.alloc | apply Ext.drew | apply Ext.drewN))) h6
  go_wp2_with fail
  refine hK _ _ (.inr (fun b _ hb => Ext.block (by repeat (with_reducible (first | assumption | exact Ext.refl _ | apply Ext.alloc | apply Ext.drew | apply Ext.drewN))) hb)) ?_
  clear hK K
  refine wpStages_cons ?_
  simp only [List.filterMap_nil]
  show wpQuiet _ _ _ _ [] _
  try simp only [Act.put, List.setIfInBounds_toArray, List.set_cons_succ, List.set_cons_zero]
  refine wpQuiet_nil ⟨_, rfl, fun K hK => ?_⟩
  go_wp2_with fail
  refine (iDot_val D3.out _).mono ?_
  rintro e v7 ⟨rfl, h7⟩
  have G7 : Ext w1 v7 := Ext.trans (by repeat (with_reducible (first | assumption | exact Ext.refl _ | apply Ext.alloc | apply Ext.drew | apply Ext.drewN))) h7
  go_wp2_with fail
  refine hK _ _ (.inr (fun b _ hb => Ext.block (by repeat (with_reducible (first | assumption | exact Ext.refl _ | apply Ext.alloc | apply Ext.drew | apply Ext.drewN))) hb)) ?_
  clear hK K
  refine wpStages_cons ?_
  simp only [List.filterMap_cons, List.filterMap_nil, List.getElem?_toArray, List.getElem?_cons_zero, List.getElem?_cons_succ]
  show wpQuiet _ _ _ _ [_] _
  try simp only [Act.put, List.setIfInBounds_toArray, List.set_cons_succ, List.set_cons_zero]
  repeat (go_big_quiet_step (fail))
  refine wpQuiet_nil ⟨_, rfl, fun K hK => ?_⟩
  go_wp2_with fail
  refine (over_val J1.out J2.out J3.out Q1.out Q2.out Q3.out _).mono ?_
  rintro e v8 ⟨rfl, h8⟩
  have G8 : Ext w1 v8 := Ext.trans (by repeat (with_reducible (first | assumption | exact Ext.refl _ | apply Ext.alloc | apply Ext.drew | apply Ext.drewN))) h8
  go_wp2_with fail
  refine hK _ _ (.inr (fun b _ hb => Ext.block (by repeat (with_reducible (first | assumption | exact Ext.refl _ | apply Ext.alloc | apply Ext.drew | apply Ext.drewN))) hb)) ?_
  clear hK K
  refine wpStages_cons ?_
  simp only [List.filterMap_nil]
  show wpQuiet _ _ _ _ [] _
  try simp only [Act.put, List.setIfInBounds_toArray, List.set_cons_succ, List.set_cons_zero]
  refine wpQuiet_nil ⟨_, rfl, fun K hK => ?_⟩
  go_wp2_with fail
  refine (iAdd_val HA.out HB.out HC.out _).mono ?_
  rintro e v9 ⟨rfl, h9⟩
  have G9 : Ext w1 v9 := Ext.trans (by repeat (with_reducible (first | assumption | exact Ext.refl _ | apply Ext.alloc | apply Ext.drew | apply Ext.drewN))) h9
  go_wp2_with fail
  refine hK _ _ (.inr (fun b _ hb => Ext.block (by repeat (with_reducible (first | assumption | exact Ext.refl _ | apply Ext.alloc | apply Ext.drew | apply Ext.drewN))) hb)) ?_
  clear hK K
  refine wpStages_cons ?_
  simp only [List.filterMap_nil]
  show wpQuiet _ _ _ _ [] _
  try simp only [Act.put, List.setIfInBounds_toArray, List.set_cons_succ, List.set_cons_zero]
  obtain ⟨c9, f9⟩ := G9.cells
  have z9 := G9.size
  have E9 : Ext w v9 := E1.trans G9
  have q4 : w.heap.size + 1 + 1 < v9.heap.size := by omega
  refine wpQuiet_nil ⟨_, rfl, fun K hK => ?_⟩
  go_wp2_with fail
  refine hK _ _ (.inl (by trivial)) (wpStages_nil ?_)
  clear hK K
  go_wp2
  exact bodyPost_ret (v := .agg #[.int .i64 a, .int .i64 b, .int .i64 c]) (by simp [results, Tryz.results12, go_sem, *]) rfl ⟨rfl, (by repeat (first | with_reducible assumption | with_reducible exact Ext.refl _ | with_reducible apply Ext.alloc | with_reducible apply Ext.drew | with_reducible apply Ext.drewN | (with_reducible refine Ext.setCell ?_ (by simp; omega) _) | (with_reducible refine Ext.setCell ?_ (by simp) _)))⟩

set_option maxRecDepth 20000 in
set_option maxHeartbeats 3200000 in
theorem iApply_no (m0 m1 m2 m3 m4 m5 m6 m7 m8 o1 o2 o3 x y z : Int) (ht : (⟨m0, m1, m2, m3, m4, m5, m6, m7, m8, o1, o2, o3⟩ : Xf).I) (hok : (⟨m0, m1, m2, m3, m4, m5, m6, m7, m8, o1, o2, o3⟩ : Xf).ok = false) (w : World) :
    Calls Tryz.prog 12 #[(⟨m0, m1, m2, m3, m4, m5, m6, m7, m8, o1, o2, o3⟩ : Xf).V, .agg #[.int .i64 x, .int .i64 y, .int .i64 z]] w fun e w' => e = .returned (.agg #[.int .i64 x, .int .i64 y, .int .i64 z]) ∧ Ext w w' := by
  have HV := hid (iIsValidTransform_val _ ht)
  rw [hok] at HV
  clear ht hok
  unfold Xf.V at HV ⊢
  simp only at HV ⊢
  go_enter Tryz.func12, Tryz.ntmps12
  go_wp2_with fail
  refine (HV.out _).mono ?_
  rintro e w1 ⟨rfl, h1⟩
  obtain ⟨c1, f1⟩ := h1.cells
  have z1 := h1.size
  simp only [World.size_alloc] at z1
  have E1 : Ext w w1 := Ext.trans (by repeat (with_reducible (first | assumption | exact Ext.refl _ | apply Ext.alloc | apply Ext.drew | apply Ext.drewN))) h1
  have q1 : w.heap.size < w1.heap.size := by omega
  have q2 : w.heap.size + 1 < w1.heap.size := by omega
  have q3 : w.heap.size + 1 + 1 < w1.heap.size := by omega
  go_wp2
  exact bodyPost_ret (v := .agg #[.int .i64 x, .int .i64 y, .int .i64 z]) (by simp [results, Tryz.results12, go_sem, *]) rfl ⟨rfl, (by repeat (first | with_reducible assumption | with_reducible exact Ext.refl _ | with_reducible apply Ext.alloc | with_reducible apply Ext.drew | with_reducible apply Ext.drewN | (with_reducible refine Ext.setCell ?_ (by simp; omega) _) | (with_reducible refine Ext.setCell ?_ (by simp) _)))⟩
end Go.Proofs.YtkcghoeklbcihaaGreatDoor
