/- This text proves the functions of the shading language: the texture's of the program, l17Func of the reference. -/
import Derived.Test.YtjfcngbepjdfnaaGreatSh4
import Derived.Test.YtjfcngbepjdfnaaGreatL15k
namespace Go.Proofs.YtjfcngbepjdfnaaGreat
open Go.RowKit

set_option maxHeartbeats 800000 in
theorem callee_tex (lo hi lo' hi' : Nat) (u v : Value) (t : Tex) {x y r : Int} (w : World) (hu : Ints lo hi w u [x, y]) (hh : hi ≤ w.heap.size) (hv : TexR lo' hi' w v t) (hh' : hi' ≤ w.heap.size) (ht : t.Ok) (hr : t.look x y = r) :
    Calls Tryz.prog 95 #[v, u] w fun e w' => e = .returned (.int .i64 r) ∧ Ext w w' := by
  obtain ⟨b, off, cap, rfl, hb, d0, d1, _⟩ := row2 hu
  obtain ⟨tx, rfl, _⟩ := hv.shape
  have HR := hid hr
  have HV := hid hv
  have HT := hid ht
  clear hu hr hv ht
  have hb1 : b < w.heap.size := by omega
  have hb2 : b ≠ w.heap.size := by omega
  go_enter Tryz.func95, Tryz.ntmps95
  go_wp2_with fail
  refine wp_region_stages [([0, 1, 2, 3, 4, 5, 6, 7], 8), ([], 9)] 99 (w.heap.size + 1) (by kernel_rfl) (by kernel_rfl) ?_
  refine wpStages_cons ?_
  simp only [List.filterMap_cons, List.filterMap_nil, List.getElem?_toArray, List.getElem?_cons_zero, List.getElem?_cons_succ]
  show wpQuiet _ _ _ _ [_, _, _, _, _, _, _, _] _
  repeat (go_big_quiet_step (fail))
  refine wpQuiet_nil ⟨_, rfl, fun K hK => ?_⟩
  go_wp2_with fail
  refine (lookup_any lo' hi' _ t x y _ (HV.out.ext hh' (by repeat (with_reducible (first | assumption | exact Ext.refl _ | apply Ext.alloc | apply Ext.drew | apply Ext.drewN)))) (by simp; omega) HT.out).mono ?_
  rintro e w1 ⟨rfl, x1⟩
  rw [HR.out]
  have X1 := x1
  have X2 : Ext w w1 := Ext.trans (by repeat (with_reducible (first | assumption | exact Ext.refl _ | apply Ext.alloc | apply Ext.drew | apply Ext.drewN))) x1
  go_wp2_with fail
  refine hK _ _ (.inr (fun k _ hk => X1.block (by first | omega | (simp; omega)))) ?_
  clear hK K
  refine wpStages_cons ?_
  simp only [List.filterMap_nil]
  show wpQuiet _ _ _ _ [] _
  try simp only [Act.put, List.setIfInBounds_toArray, List.set_cons_succ, List.set_cons_zero]
  repeat (go_big_quiet_step (fail))
  refine wpQuiet_nil ⟨_, rfl, fun K hK => ?_⟩
  go_wp2_with fail
  refine hK _ _ (.inr (fun k _ hk => X1.block (by first | omega | (simp; omega)))) ?_
  clear hK K
  refine wpStages_nil ?_
  go_wp2
  go_ret
  exact ⟨rfl, (by repeat (first | with_reducible assumption | with_reducible exact Ext.refl _ | with_reducible apply Ext.alloc | with_reducible apply Ext.drew | with_reducible apply Ext.drewN | (with_reducible refine Ext.setCell ?_ (by simp; omega) _) | (with_reducible refine Ext.setCell ?_ (by simp) _)))⟩
set_option maxHeartbeats 1600000 in
theorem sFn_abs (lo hi : Nat) (u : Value) (g0 : Int) (g1 : Value) (g2 g3 : Int) (g4 : Value) {x r : Int} (w : World) (hu : Ints lo hi w u [x]) (hh : hi ≤ w.heap.size) (hx : S9 x) (hr : absI x = r) :
    Calls Tryz.prog 80 #[.agg #[.int .i64 g0, g1, .int .i64 g2, .int .i64 g3, g4], .string ⟨#[97, 98, 115]⟩, u] w fun e w' => e = .returned (.int .i64 r) ∧ Ext w w' := by
  obtain ⟨k, off, cap, rfl, hbk, d0, _⟩ := row1 hu
  have hb1 : k < w.heap.size := by omega
  have hb2 : k ≠ w.heap.size := by omega
  have HU := hid hu
  have HR := hid hr
  clear hu hr
  go_enter Tryz.func80, Tryz.ntmps80
  go_wp2_with fail
  refine (l09Abs_sh hx HR.out _).mono ?_
  rintro e w1 ⟨rfl, rfl⟩
  go_wp2
  go_ret
  exact ⟨rfl, (by repeat (first | with_reducible assumption | with_reducible exact Ext.refl _ | with_reducible apply Ext.alloc | with_reducible apply Ext.drew | with_reducible apply Ext.drewN | (with_reducible refine Ext.setCell ?_ (by simp; omega) _) | (with_reducible refine Ext.setCell ?_ (by simp) _)))⟩
set_option maxHeartbeats 1600000 in
theorem sFn_floor (lo hi : Nat) (u : Value) (g0 : Int) (g1 : Value) (g2 g3 : Int) (g4 : Value) {x r : Int} (w : World) (hu : Ints lo hi w u [x]) (hh : hi ≤ w.heap.size) (hx : S9 x) (hr : floorI x = r) :
    Calls Tryz.prog 80 #[.agg #[.int .i64 g0, g1, .int .i64 g2, .int .i64 g3, g4], .string ⟨#[102, 108, 111, 111, 114]⟩, u] w fun e w' => e = .returned (.int .i64 r) ∧ Ext w w' := by
  obtain ⟨k, off, cap, rfl, hbk, d0, _⟩ := row1 hu
  have hb1 : k < w.heap.size := by omega
  have hb2 : k ≠ w.heap.size := by omega
  have HU := hid hu
  have hq := fdiv_bd (b := 256) (m := 1000000000) hx (by decide)
  unfold floorI at hr
  obtain ⟨q, hqq⟩ : ∃ q, fdiv x 256 = q := ⟨_, rfl⟩
  rw [hqq] at hq hr
  have HQ := hid hqq
  clear hqq
  have HR := hid hr
  clear hu hr
  go_enter Tryz.func80, Tryz.ntmps80
  go_wp2_with fail
  refine (sFloorDiv_val hx.i64 HQ.out _).mono ?_
  rintro e w1 ⟨rfl, rfl⟩
  go_wp2
  rw [HR.out]
  go_ret
  exact ⟨rfl, (by repeat (first | with_reducible assumption | with_reducible exact Ext.refl _ | with_reducible apply Ext.alloc | with_reducible apply Ext.drew | with_reducible apply Ext.drewN | (with_reducible refine Ext.setCell ?_ (by simp; omega) _) | (with_reducible refine Ext.setCell ?_ (by simp) _)))⟩
set_option maxHeartbeats 1600000 in
theorem sFn_min (lo hi : Nat) (u : Value) (g0 : Int) (g1 : Value) (g2 g3 : Int) (g4 : Value) {x y r : Int} (w : World) (hu : Ints lo hi w u [x, y]) (hh : hi ≤ w.heap.size) (hx : S9 x) (hy : S9 y) (hr : minI x y = r) :
    Calls Tryz.prog 80 #[.agg #[.int .i64 g0, g1, .int .i64 g2, .int .i64 g3, g4], .string ⟨#[109, 105, 110]⟩, u] w fun e w' => e = .returned (.int .i64 r) ∧ Ext w w' := by
  obtain ⟨k, off, cap, rfl, hbk, d0, d1, _⟩ := row2 hu
  have hb1 : k < w.heap.size := by omega
  have hb2 : k ≠ w.heap.size := by omega
  have HU := hid hu
  unfold minI at hr
  have HR := hid hr
  clear hu hr
  go_enter Tryz.func80, Tryz.ntmps80
  go_wp2_with fail
  refine wp_region_stages [([0, 1, 2, 3, 4, 5], 6), ([], 7)] 99 w.heap.size (by kernel_rfl) (by kernel_rfl) ?_
  refine wpStages_cons ?_
  simp only [List.filterMap_cons, List.filterMap_nil, List.getElem?_toArray, List.getElem?_cons_zero, List.getElem?_cons_succ]
  show wpQuiet _ _ _ _ [_, _, _, _, _, _] _
  repeat (go_big_quiet_step (fail))
  refine wpQuiet_nil ⟨_, rfl, fun K hK => ?_⟩
  go_wp2_with fail
  refine (l01Min_sh hx.i64 hy.i64 HR.out _).mono ?_
  rintro e w1 ⟨rfl, rfl⟩
  go_wp2_with fail
  refine hK _ _ (.inr (fun k _ hk => Ext.block (by repeat (with_reducible (first | assumption | exact Ext.refl _ | apply Ext.alloc | apply Ext.drew | apply Ext.drewN))) (by first | omega | (simp; omega)))) ?_
  clear hK K
  refine wpStages_cons ?_
  simp only [List.filterMap_nil]
  show wpQuiet _ _ _ _ [] _
  try simp only [Act.put, List.setIfInBounds_toArray, List.set_cons_succ, List.set_cons_zero]
  repeat (go_big_quiet_step (fail))
  refine wpQuiet_nil ⟨_, rfl, fun K hK => ?_⟩
  go_wp2_with fail
  refine hK _ _ (.inr (fun k _ hk => Ext.block (by repeat (with_reducible (first | assumption | exact Ext.refl _ | apply Ext.alloc | apply Ext.drew | apply Ext.drewN))) (by first | omega | (simp; omega)))) ?_
  clear hK K
  refine wpStages_nil ?_
  go_wp2
  go_ret
  exact ⟨rfl, (by repeat (first | with_reducible assumption | with_reducible exact Ext.refl _ | with_reducible apply Ext.alloc | with_reducible apply Ext.drew | with_reducible apply Ext.drewN | (with_reducible refine Ext.setCell ?_ (by simp; omega) _) | (with_reducible refine Ext.setCell ?_ (by simp) _)))⟩
set_option maxHeartbeats 1600000 in
theorem sFn_max (lo hi : Nat) (u : Value) (g0 : Int) (g1 : Value) (g2 g3 : Int) (g4 : Value) {x y r : Int} (w : World) (hu : Ints lo hi w u [x, y]) (hh : hi ≤ w.heap.size) (hx : S9 x) (hy : S9 y) (hr : maxI x y = r) :
    Calls Tryz.prog 80 #[.agg #[.int .i64 g0, g1, .int .i64 g2, .int .i64 g3, g4], .string ⟨#[109, 97, 120]⟩, u] w fun e w' => e = .returned (.int .i64 r) ∧ Ext w w' := by
  obtain ⟨k, off, cap, rfl, hbk, d0, d1, _⟩ := row2 hu
  have hb1 : k < w.heap.size := by omega
  have hb2 : k ≠ w.heap.size := by omega
  have HU := hid hu
  unfold maxI at hr
  have HR := hid hr
  clear hu hr
  go_enter Tryz.func80, Tryz.ntmps80
  go_wp2_with fail
  refine wp_region_stages [([0, 1, 2, 3, 4, 5], 6), ([], 7)] 99 w.heap.size (by kernel_rfl) (by kernel_rfl) ?_
  refine wpStages_cons ?_
  simp only [List.filterMap_cons, List.filterMap_nil, List.getElem?_toArray, List.getElem?_cons_zero, List.getElem?_cons_succ]
  show wpQuiet _ _ _ _ [_, _, _, _, _, _] _
  repeat (go_big_quiet_step (fail))
  refine wpQuiet_nil ⟨_, rfl, fun K hK => ?_⟩
  go_wp2_with fail
  refine (l01Max_sh hx.i64 hy.i64 HR.out _).mono ?_
  rintro e w1 ⟨rfl, rfl⟩
  go_wp2_with fail
  refine hK _ _ (.inr (fun k _ hk => Ext.block (by repeat (with_reducible (first | assumption | exact Ext.refl _ | apply Ext.alloc | apply Ext.drew | apply Ext.drewN))) (by first | omega | (simp; omega)))) ?_
  clear hK K
  refine wpStages_cons ?_
  simp only [List.filterMap_nil]
  show wpQuiet _ _ _ _ [] _
  try simp only [Act.put, List.setIfInBounds_toArray, List.set_cons_succ, List.set_cons_zero]
  repeat (go_big_quiet_step (fail))
  refine wpQuiet_nil ⟨_, rfl, fun K hK => ?_⟩
  go_wp2_with fail
  refine hK _ _ (.inr (fun k _ hk => Ext.block (by repeat (with_reducible (first | assumption | exact Ext.refl _ | apply Ext.alloc | apply Ext.drew | apply Ext.drewN))) (by first | omega | (simp; omega)))) ?_
  clear hK K
  refine wpStages_nil ?_
  go_wp2
  go_ret
  exact ⟨rfl, (by repeat (first | with_reducible assumption | with_reducible exact Ext.refl _ | with_reducible apply Ext.alloc | with_reducible apply Ext.drew | with_reducible apply Ext.drewN | (with_reducible refine Ext.setCell ?_ (by simp; omega) _) | (with_reducible refine Ext.setCell ?_ (by simp) _)))⟩
set_option maxHeartbeats 1600000 in
theorem sFn_clamp (lo hi : Nat) (u : Value) (g0 : Int) (g1 : Value) (g2 g3 : Int) (g4 : Value) {x y z r : Int} (w : World) (hu : Ints lo hi w u [x, y, z]) (hh : hi ≤ w.heap.size) (hr : clampI x y z = r) :
    Calls Tryz.prog 80 #[.agg #[.int .i64 g0, g1, .int .i64 g2, .int .i64 g3, g4], .string ⟨#[99, 108, 97, 109, 112]⟩, u] w fun e w' => e = .returned (.int .i64 r) ∧ Ext w w' := by
  obtain ⟨k, off, cap, rfl, hbk, d0, d1, d2⟩ := row3 hu
  have hb1 : k < w.heap.size := by omega
  have hb2 : k ≠ w.heap.size := by omega
  have HU := hid hu
  have HR := hid hr
  clear hu hr
  go_enter Tryz.func80, Tryz.ntmps80
  go_wp2_with fail
  refine wp_region_stages [([0, 1, 2, 3, 4, 5, 6, 7, 8], 9), ([], 10)] 99 w.heap.size (by kernel_rfl) (by kernel_rfl) ?_
  refine wpStages_cons ?_
  simp only [List.filterMap_cons, List.filterMap_nil, List.getElem?_toArray, List.getElem?_cons_zero, List.getElem?_cons_succ]
  show wpQuiet _ _ _ _ [_, _, _, _, _, _, _, _, _] _
  repeat (go_big_quiet_step (fail))
  refine wpQuiet_nil ⟨_, rfl, fun K hK => ?_⟩
  go_wp2_with fail
  refine (sClamp_val HR.out _).mono ?_
  rintro e w1 ⟨rfl, rfl⟩
  go_wp2_with fail
  refine hK _ _ (.inr (fun k _ hk => Ext.block (by repeat (with_reducible (first | assumption | exact Ext.refl _ | apply Ext.alloc | apply Ext.drew | apply Ext.drewN))) (by first | omega | (simp; omega)))) ?_
  clear hK K
  refine wpStages_cons ?_
  simp only [List.filterMap_nil]
  show wpQuiet _ _ _ _ [] _
  try simp only [Act.put, List.setIfInBounds_toArray, List.set_cons_succ, List.set_cons_zero]
  repeat (go_big_quiet_step (fail))
  refine wpQuiet_nil ⟨_, rfl, fun K hK => ?_⟩
  go_wp2_with fail
  refine hK _ _ (.inr (fun k _ hk => Ext.block (by repeat (with_reducible (first | assumption | exact Ext.refl _ | apply Ext.alloc | apply Ext.drew | apply Ext.drewN))) (by first | omega | (simp; omega)))) ?_
  clear hK K
  refine wpStages_nil ?_
  go_wp2
  go_ret
  exact ⟨rfl, (by repeat (first | with_reducible assumption | with_reducible exact Ext.refl _ | with_reducible apply Ext.alloc | with_reducible apply Ext.drew | with_reducible apply Ext.drewN | (with_reducible refine Ext.setCell ?_ (by simp; omega) _) | (with_reducible refine Ext.setCell ?_ (by simp) _)))⟩
set_option maxHeartbeats 1600000 in
theorem sFn_mix (lo hi : Nat) (u : Value) (g0 : Int) (g1 : Value) (g2 g3 : Int) (g4 : Value) {x y z r : Int} (w : World) (hu : Ints lo hi w u [x, y, z]) (hh : hi ≤ w.heap.size) (hx : S9 x) (hy : S9 y) (hz : S9 z) (hr : blendI x y z = r) :
    Calls Tryz.prog 80 #[.agg #[.int .i64 g0, g1, .int .i64 g2, .int .i64 g3, g4], .string ⟨#[109, 105, 120]⟩, u] w fun e w' => e = .returned (.int .i64 r) ∧ Ext w w' := by
  obtain ⟨k, off, cap, rfl, hbk, d0, d1, d2⟩ := row3 hu
  have hb1 : k < w.heap.size := by omega
  have hb2 : k ≠ w.heap.size := by omega
  have HU := hid hu
  have hx1 := hx.1
  have hx2 := hx.2
  have hy1 := hy.1
  have hy2 := hy.2
  have hm := blend_bd hx hy hz
  unfold blendI at hr
  have hq := fdiv_bd (b := 256) hm (by decide)
  obtain ⟨q, hqq⟩ : ∃ q, fdiv ((y - x) * z) 256 = q := ⟨_, rfl⟩
  rw [hqq] at hq hr
  have HQ := hid hqq
  clear hqq
  have HR := hid hr
  clear hu hr
  go_enter Tryz.func80, Tryz.ntmps80
  go_wp2_with fail
  refine wp_region_stages [([0, 1, 2, 3, 4, 5, 6, 7, 8, 9, 10, 11, 12, 13], 14), ([15], 16)] 99 w.heap.size (by kernel_rfl) (by kernel_rfl) ?_
  refine wpStages_cons ?_
  simp only [List.filterMap_cons, List.filterMap_nil, List.getElem?_toArray, List.getElem?_cons_zero, List.getElem?_cons_succ]
  show wpQuiet _ _ _ _ [_, _, _, _, _, _, _, _, _, _, _, _, _, _] _
  repeat (go_big_quiet_step (fail))
  refine wpQuiet_nil ⟨_, rfl, fun K hK => ?_⟩
  go_wp2_with fail
  refine (sFloorDiv_val (I64.mk (by omega) (by omega)) HQ.out _).mono ?_
  rintro e w1 ⟨rfl, rfl⟩
  go_wp2_with fail
  refine hK _ _ (.inr (fun k _ hk => Ext.block (by repeat (with_reducible (first | assumption | exact Ext.refl _ | apply Ext.alloc | apply Ext.drew | apply Ext.drewN))) (by first | omega | (simp; omega)))) ?_
  clear hK K
  refine wpStages_cons ?_
  simp only [List.filterMap_cons, List.filterMap_nil, List.getElem?_toArray, List.getElem?_cons_zero, List.getElem?_cons_succ]
  show wpQuiet _ _ _ _ [_] _
  try simp only [Act.put, List.setIfInBounds_toArray, List.set_cons_succ, List.set_cons_zero]
  repeat (go_big_quiet_step (fail))
  refine wpQuiet_nil ⟨_, rfl, fun K hK => ?_⟩
  go_wp2_with fail
  refine hK _ _ (.inr (fun k _ hk => Ext.block (by repeat (with_reducible (first | assumption | exact Ext.refl _ | apply Ext.alloc | apply Ext.drew | apply Ext.drewN))) (by first | omega | (simp; omega)))) ?_
  clear hK K
  refine wpStages_nil ?_
  go_wp2
  rw [HR.out]
  go_ret
  exact ⟨rfl, (by repeat (first | with_reducible assumption | with_reducible exact Ext.refl _ | with_reducible apply Ext.alloc | with_reducible apply Ext.drew | with_reducible apply Ext.drewN | (with_reducible refine Ext.setCell ?_ (by simp; omega) _) | (with_reducible refine Ext.setCell ?_ (by simp) _)))⟩
set_option maxHeartbeats 1600000 in
theorem sFn_step (lo hi : Nat) (u : Value) (g0 : Int) (g1 : Value) (g2 g3 : Int) (g4 : Value) {x y r : Int} (w : World) (hu : Ints lo hi w u [x, y]) (hh : hi ≤ w.heap.size) (hx : S9 x) (hy : S9 y) (hr : stepI x y = r) :
    Calls Tryz.prog 80 #[.agg #[.int .i64 g0, g1, .int .i64 g2, .int .i64 g3, g4], .string ⟨#[115, 116, 101, 112]⟩, u] w fun e w' => e = .returned (.int .i64 r) ∧ Ext w w' := by
  obtain ⟨k, off, cap, rfl, hbk, d0, d1, _⟩ := row2 hu
  have hb1 : k < w.heap.size := by omega
  have hb2 : k ≠ w.heap.size := by omega
  have HU := hid hu
  unfold stepI at hr
  clear hu
  by_cases h : y ≥ x
  · rw [if_pos h] at hr
    subst hr
    go_enter Tryz.func80, Tryz.ntmps80
    go_wp2_with fail
    refine wp_region_stages [([0, 1, 2, 3, 4, 5], 6)] 99 w.heap.size (by kernel_rfl) (by kernel_rfl) ?_
    refine wpStages_cons ?_
    simp only [List.filterMap_cons, List.filterMap_nil, List.getElem?_toArray, List.getElem?_cons_zero, List.getElem?_cons_succ]
    show wpQuiet _ _ _ _ [_, _, _, _, _, _] _
    repeat (go_big_quiet_step (fail))
    refine wpQuiet_nil ⟨_, rfl, fun K hK => ?_⟩
    go_wp2_with fail
    refine hK _ _ (.inr (fun k _ hk => Ext.block (by repeat (with_reducible (first | assumption | exact Ext.refl _ | apply Ext.alloc | apply Ext.drew | apply Ext.drewN))) (by first | omega | (simp; omega)))) ?_
    clear hK K
    refine wpStages_nil ?_
    go_wp2
    go_ret
    exact ⟨rfl, (by repeat (first | with_reducible assumption | with_reducible exact Ext.refl _ | with_reducible apply Ext.alloc | with_reducible apply Ext.drew | with_reducible apply Ext.drewN | (with_reducible refine Ext.setCell ?_ (by simp; omega) _) | (with_reducible refine Ext.setCell ?_ (by simp) _)))⟩
  · rw [if_neg h] at hr
    subst hr
    go_enter Tryz.func80, Tryz.ntmps80
    go_wp2_with fail
    refine wp_region_stages [([0, 1, 2, 3, 4, 5], 6)] 99 w.heap.size (by kernel_rfl) (by kernel_rfl) ?_
    refine wpStages_cons ?_
    simp only [List.filterMap_cons, List.filterMap_nil, List.getElem?_toArray, List.getElem?_cons_zero, List.getElem?_cons_succ]
    show wpQuiet _ _ _ _ [_, _, _, _, _, _] _
    repeat (go_big_quiet_step (fail))
    refine wpQuiet_nil ⟨_, rfl, fun K hK => ?_⟩
    go_wp2_with fail
    refine hK _ _ (.inr (fun k _ hk => Ext.block (by repeat (with_reducible (first | assumption | exact Ext.refl _ | apply Ext.alloc | apply Ext.drew | apply Ext.drewN))) (by first | omega | (simp; omega)))) ?_
    clear hK K
    refine wpStages_nil ?_
    go_wp2
    go_ret
    exact ⟨rfl, (by repeat (first | with_reducible assumption | with_reducible exact Ext.refl _ | with_reducible apply Ext.alloc | with_reducible apply Ext.drew | with_reducible apply Ext.drewN | (with_reducible refine Ext.setCell ?_ (by simp; omega) _) | (with_reducible refine Ext.setCell ?_ (by simp) _)))⟩
end Go.Proofs.YtjfcngbepjdfnaaGreat
