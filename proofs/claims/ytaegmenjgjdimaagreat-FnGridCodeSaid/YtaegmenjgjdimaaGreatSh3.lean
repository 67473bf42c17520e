/- This text proves what the callee's functions of the shading language hand back: the program's, each at its arguments. -/
import Derived.Test.YtaegmenjgjdimaaGreatSh2
import Derived.Test.YtaegmenjgjdimaaGreatL15i
namespace Go.Proofs.YtaegmenjgjdimaaGreat
open Go.RowKit

theorem S9.i64 {n : Int} (h : S9 n) : I64 n := I64.mk (by have := h.1; omega) (by have := h.2; omega)
theorem blend_bd {a b c : Int} (ha : S9 a) (hb : S9 b) (hc : S9 c) : -2000000000000000000 ≤ (b - a) * c ∧ (b - a) * c ≤ 2000000000000000000 := by
  have h1 := mul9 hb hc
  have h2 := mul9 ha hc
  rw [Int.sub_mul]
  constructor <;> omega
/-- the cells of a row of one, two, three integers -/
theorem row1 {lo hi : Nat} {w : World} {u : Value} {x : Int} (h : Ints lo hi w u [x]) : ∃ b off cap, u = .slice (some ⟨b, off, none⟩) 1 cap ∧ b < hi ∧ w.cell? ⟨b, off, none⟩ = some (.int .i64 x) ∧ IntsAt lo hi w (some ⟨b, off, none⟩) cap [x] := by
  obtain ⟨a, cap, rfl, HU⟩ := h.open
  obtain ⟨b, off, e, h1, h2, hc⟩ := HU.at (k := 0) (by simp)
  subst e
  exact ⟨b, off, cap, rfl, h2, hc, HU⟩
theorem row2 {lo hi : Nat} {w : World} {u : Value} {x y : Int} (h : Ints lo hi w u [x, y]) : ∃ b off cap, u = .slice (some ⟨b, off, none⟩) 2 cap ∧ b < hi ∧ w.cell? ⟨b, off, none⟩ = some (.int .i64 x) ∧ w.cell? ⟨b, off + 1, none⟩ = some (.int .i64 y) ∧ IntsAt lo hi w (some ⟨b, off, none⟩) cap [x, y] := by
  obtain ⟨a, cap, rfl, HU⟩ := h.open
  obtain ⟨b, off, e, h1, h2, hc⟩ := HU.at (k := 0) (by simp)
  subst e
  obtain ⟨b', off', e, _, _, hc'⟩ := HU.at (k := 1) (by simp)
  injection e with e
  injection e with e1 e2
  subst e1
  subst e2
  exact ⟨b, off, cap, rfl, h2, hc, hc', HU⟩
theorem row3 {lo hi : Nat} {w : World} {u : Value} {x y z : Int} (h : Ints lo hi w u [x, y, z]) : ∃ b off cap, u = .slice (some ⟨b, off, none⟩) 3 cap ∧ b < hi ∧ w.cell? ⟨b, off, none⟩ = some (.int .i64 x) ∧ w.cell? ⟨b, off + 1, none⟩ = some (.int .i64 y) ∧ w.cell? ⟨b, off + 2, none⟩ = some (.int .i64 z) := by
  obtain ⟨a, cap, rfl, HU⟩ := h.open
  obtain ⟨b, off, e, h1, h2, hc⟩ := HU.at (k := 0) (by simp)
  subst e
  obtain ⟨b', off', e, _, _, hc'⟩ := HU.at (k := 1) (by simp)
  injection e with e
  injection e with e1 e2
  subst e1
  subst e2
  obtain ⟨b', off', e, _, _, hc''⟩ := HU.at (k := 2) (by simp)
  injection e with e
  injection e with e1 e2
  subst e1
  subst e2
  exact ⟨b, off, cap, rfl, h2, hc, hc', hc''⟩

set_option maxHeartbeats 800000 in
theorem callee_abs (lo hi : Nat) (u : Value) (c0 : Int) (cx : Value) {x r : Int} (w : World) (hu : Ints lo hi w u [x]) (hh : hi ≤ w.heap.size) (hx : S9 x) (hr : absI x = r) :
    Calls Tryz.prog 120 #[.agg #[.int .i64 c0, cx], u] w fun e w' => e = .returned (.int .i64 r) ∧ Ext w w' := by
  obtain ⟨b, off, cap, rfl, hb, d0, _⟩ := row1 hu
  have HR := hid hr
  clear hu hr
  have hb1 : b < w.heap.size := by omega
  have hb2 : b ≠ w.heap.size := by omega
  go_enter Tryz.func120, Tryz.ntmps120
  go_wp2_with fail
  refine (absolute_sh hx HR.out _).mono ?_
  rintro e w1 ⟨rfl, rfl⟩
  go_wp2
  go_ret
  exact ⟨rfl, (by repeat (first | with_reducible assumption | with_reducible exact Ext.refl _ | with_reducible apply Ext.alloc | with_reducible apply Ext.drew | with_reducible apply Ext.drewN | (with_reducible refine Ext.setCell ?_ (by simp; omega) _) | (with_reducible refine Ext.setCell ?_ (by simp) _)))⟩
set_option maxHeartbeats 800000 in
theorem callee_floor (lo hi : Nat) (u : Value) (c0 : Int) (cx : Value) {x r : Int} (w : World) (hu : Ints lo hi w u [x]) (hh : hi ≤ w.heap.size) (hx : S9 x) (hr : floorI x = r) :
    Calls Tryz.prog 121 #[.agg #[.int .i64 c0, cx], u] w fun e w' => e = .returned (.int .i64 r) ∧ Ext w w' := by
  obtain ⟨b, off, cap, rfl, hb, d0, _⟩ := row1 hu
  have hq := fdiv_bd (b := 256) (m := 1000000000) hx (by decide)
  unfold floorI at hr
  obtain ⟨q, hqq⟩ : ∃ q, fdiv x 256 = q := ⟨_, rfl⟩
  rw [hqq] at hq hr
  have HQ := hid hqq
  clear hqq
  have HR := hid hr
  clear hu hr
  have hb1 : b < w.heap.size := by omega
  have hb2 : b ≠ w.heap.size := by omega
  go_enter Tryz.func121, Tryz.ntmps121
  go_wp2_with fail
  refine (iFloorDiv_val hx.i64 HQ.out _).mono ?_
  rintro e w1 ⟨rfl, rfl⟩
  go_wp2
  rw [HR.out]
  go_ret
  exact ⟨rfl, (by repeat (first | with_reducible assumption | with_reducible exact Ext.refl _ | with_reducible apply Ext.alloc | with_reducible apply Ext.drew | with_reducible apply Ext.drewN | (with_reducible refine Ext.setCell ?_ (by simp; omega) _) | (with_reducible refine Ext.setCell ?_ (by simp) _)))⟩
set_option maxHeartbeats 800000 in
theorem callee_min (lo hi : Nat) (u : Value) (c0 : Int) (cx : Value) {x y r : Int} (w : World) (hu : Ints lo hi w u [x, y]) (hh : hi ≤ w.heap.size) (hr : minI x y = r) :
    Calls Tryz.prog 122 #[.agg #[.int .i64 c0, cx], u] w fun e w' => e = .returned (.int .i64 r) ∧ Ext w w' := by
  obtain ⟨b, off, cap, rfl, hb, d0, d1, _⟩ := row2 hu
  clear hu
  have hb1 : b < w.heap.size := by omega
  have hb2 : b ≠ w.heap.size := by omega
  by_cases h : y < x
  · obtain rfl : y = r := by
      rw [← hr]
      unfold minI
      split <;> omega
    clear hr
    go_enter Tryz.func122, Tryz.ntmps122
    go_wp2_with fail
    refine wp_region_stages [([0, 1, 2, 3, 4, 5], 6), ([], 7)] 99 w.heap.size (by kernel_rfl) (by kernel_rfl) ?_
    refine wpStages_cons ?_
    simp only [List.filterMap_cons, List.filterMap_nil, List.getElem?_toArray, List.getElem?_cons_zero, List.getElem?_cons_succ]
    show wpQuiet _ _ _ _ [_, _, _, _, _, _] _
    repeat (go_big_quiet_step (fail))
    refine wpQuiet_nil ⟨_, rfl, fun K hK => ?_⟩
    go_wp2_with fail
    refine hK _ _ (.inr (fun b _ hb => Ext.block (by repeat (with_reducible (first | assumption | exact Ext.refl _ | apply Ext.alloc | apply Ext.drew | apply Ext.drewN))) (by simp; omega))) ?_
    clear hK K
    refine wpStages_cons ?_
    simp only [List.filterMap_nil]
    show wpQuiet _ _ _ _ [] _
    try simp only [Act.put, List.setIfInBounds_toArray, List.set_cons_succ, List.set_cons_zero]
    repeat (go_big_quiet_step (fail))
    refine wpQuiet_nil ⟨_, rfl, fun K hK => ?_⟩
    go_wp2_with fail
    refine hK _ _ (.inr (fun b _ hb => Ext.block (by repeat (with_reducible (first | assumption | exact Ext.refl _ | apply Ext.alloc | apply Ext.drew | apply Ext.drewN))) (by simp; omega))) ?_
    clear hK K
    refine wpStages_nil ?_
    go_wp2
    go_ret
    exact ⟨rfl, (by repeat (first | with_reducible assumption | with_reducible exact Ext.refl _ | with_reducible apply Ext.alloc | with_reducible apply Ext.drew | with_reducible apply Ext.drewN | (with_reducible refine Ext.setCell ?_ (by simp; omega) _) | (with_reducible refine Ext.setCell ?_ (by simp) _)))⟩
  · obtain rfl : x = r := by
      rw [← hr]
      unfold minI
      split <;> omega
    clear hr
    go_enter Tryz.func122, Tryz.ntmps122
    go_wp2_with fail
    refine wp_region_stages [([0, 1, 2, 3, 4, 5], 6), ([], 7)] 99 w.heap.size (by kernel_rfl) (by kernel_rfl) ?_
    refine wpStages_cons ?_
    simp only [List.filterMap_cons, List.filterMap_nil, List.getElem?_toArray, List.getElem?_cons_zero, List.getElem?_cons_succ]
    show wpQuiet _ _ _ _ [_, _, _, _, _, _] _
    repeat (go_big_quiet_step (fail))
    refine wpQuiet_nil ⟨_, rfl, fun K hK => ?_⟩
    go_wp2_with fail
    refine hK _ _ (.inr (fun b _ hb => Ext.block (by repeat (with_reducible (first | assumption | exact Ext.refl _ | apply Ext.alloc | apply Ext.drew | apply Ext.drewN))) (by simp; omega))) ?_
    clear hK K
    refine wpStages_cons ?_
    simp only [List.filterMap_nil]
    show wpQuiet _ _ _ _ [] _
    try simp only [Act.put, List.setIfInBounds_toArray, List.set_cons_succ, List.set_cons_zero]
    repeat (go_big_quiet_step (fail))
    refine wpQuiet_nil ⟨_, rfl, fun K hK => ?_⟩
    go_wp2_with fail
    refine hK _ _ (.inr (fun b _ hb => Ext.block (by repeat (with_reducible (first | assumption | exact Ext.refl _ | apply Ext.alloc | apply Ext.drew | apply Ext.drewN))) (by simp; omega))) ?_
    clear hK K
    refine wpStages_nil ?_
    go_wp2
    go_ret
    exact ⟨rfl, (by repeat (first | with_reducible assumption | with_reducible exact Ext.refl _ | with_reducible apply Ext.alloc | with_reducible apply Ext.drew | with_reducible apply Ext.drewN | (with_reducible refine Ext.setCell ?_ (by simp; omega) _) | (with_reducible refine Ext.setCell ?_ (by simp) _)))⟩
set_option maxHeartbeats 800000 in
theorem callee_max (lo hi : Nat) (u : Value) (c0 : Int) (cx : Value) {x y r : Int} (w : World) (hu : Ints lo hi w u [x, y]) (hh : hi ≤ w.heap.size) (hr : maxI x y = r) :
    Calls Tryz.prog 123 #[.agg #[.int .i64 c0, cx], u] w fun e w' => e = .returned (.int .i64 r) ∧ Ext w w' := by
  obtain ⟨b, off, cap, rfl, hb, d0, d1, _⟩ := row2 hu
  clear hu
  have hb1 : b < w.heap.size := by omega
  have hb2 : b ≠ w.heap.size := by omega
  by_cases h : x < y
  · obtain rfl : y = r := by
      rw [← hr]
      unfold maxI
      split <;> omega
    clear hr
    go_enter Tryz.func123, Tryz.ntmps123
    go_wp2_with fail
    refine wp_region_stages [([0, 1, 2, 3, 4, 5], 6), ([], 7)] 99 w.heap.size (by kernel_rfl) (by kernel_rfl) ?_
    refine wpStages_cons ?_
    simp only [List.filterMap_cons, List.filterMap_nil, List.getElem?_toArray, List.getElem?_cons_zero, List.getElem?_cons_succ]
    show wpQuiet _ _ _ _ [_, _, _, _, _, _] _
    repeat (go_big_quiet_step (fail))
    refine wpQuiet_nil ⟨_, rfl, fun K hK => ?_⟩
    go_wp2_with fail
    refine hK _ _ (.inr (fun b _ hb => Ext.block (by repeat (with_reducible (first | assumption | exact Ext.refl _ | apply Ext.alloc | apply Ext.drew | apply Ext.drewN))) (by simp; omega))) ?_
    clear hK K
    refine wpStages_cons ?_
    simp only [List.filterMap_nil]
    show wpQuiet _ _ _ _ [] _
    try simp only [Act.put, List.setIfInBounds_toArray, List.set_cons_succ, List.set_cons_zero]
    repeat (go_big_quiet_step (fail))
    refine wpQuiet_nil ⟨_, rfl, fun K hK => ?_⟩
    go_wp2_with fail
    refine hK _ _ (.inr (fun b _ hb => Ext.block (by repeat (with_reducible (first | assumption | exact Ext.refl _ | apply Ext.alloc | apply Ext.drew | apply Ext.drewN))) (by simp; omega))) ?_
    clear hK K
    refine wpStages_nil ?_
    go_wp2
    go_ret
    exact ⟨rfl, (by repeat (first | with_reducible assumption | with_reducible exact Ext.refl _ | with_reducible apply Ext.alloc | with_reducible apply Ext.drew | with_reducible apply Ext.drewN | (with_reducible refine Ext.setCell ?_ (by simp; omega) _) | (with_reducible refine Ext.setCell ?_ (by simp) _)))⟩
  · obtain rfl : x = r := by
      rw [← hr]
      unfold maxI
      split <;> omega
    clear hr
    go_enter Tryz.func123, Tryz.ntmps123
    go_wp2_with fail
    refine wp_region_stages [([0, 1, 2, 3, 4, 5], 6), ([], 7)] 99 w.heap.size (by kernel_rfl) (by kernel_rfl) ?_
    refine wpStages_cons ?_
    simp only [List.filterMap_cons, List.filterMap_nil, List.getElem?_toArray, List.getElem?_cons_zero, List.getElem?_cons_succ]
    show wpQuiet _ _ _ _ [_, _, _, _, _, _] _
    repeat (go_big_quiet_step (fail))
    refine wpQuiet_nil ⟨_, rfl, fun K hK => ?_⟩
    go_wp2_with fail
    refine hK _ _ (.inr (fun b _ hb => Ext.block (by repeat (with_reducible (first | assumption | exact Ext.refl _ | apply Ext.alloc | apply Ext.drew | apply Ext.drewN))) (by simp; omega))) ?_
    clear hK K
    refine wpStages_cons ?_
    simp only [List.filterMap_nil]
    show wpQuiet _ _ _ _ [] _
    try simp only [Act.put, List.setIfInBounds_toArray, List.set_cons_succ, List.set_cons_zero]
    repeat (go_big_quiet_step (fail))
    refine wpQuiet_nil ⟨_, rfl, fun K hK => ?_⟩
    go_wp2_with fail
    refine hK _ _ (.inr (fun b _ hb => Ext.block (by repeat (with_reducible (first | assumption | exact Ext.refl _ | apply Ext.alloc | apply Ext.drew | apply Ext.drewN))) (by simp; omega))) ?_
    clear hK K
    refine wpStages_nil ?_
    go_wp2
    go_ret
    exact ⟨rfl, (by repeat (first | with_reducible assumption | with_reducible exact Ext.refl _ | with_reducible apply Ext.alloc | with_reducible apply Ext.drew | with_reducible apply Ext.drewN | (with_reducible refine Ext.setCell ?_ (by simp; omega) _) | (with_reducible refine Ext.setCell ?_ (by simp) _)))⟩
set_option maxHeartbeats 800000 in
theorem callee_step (lo hi : Nat) (u : Value) (c0 : Int) (cx : Value) {x y r : Int} (w : World) (hu : Ints lo hi w u [x, y]) (hh : hi ≤ w.heap.size) (hx : S9 x) (hy : S9 y) (hr : stepI x y = r) :
    Calls Tryz.prog 124 #[.agg #[.int .i64 c0, cx], u] w fun e w' => e = .returned (.int .i64 r) ∧ Ext w w' := by
  obtain ⟨b, off, cap, rfl, hb, d0, d1, _⟩ := row2 hu
  have HR := hid hr
  clear hu hr
  have hb1 : b < w.heap.size := by omega
  have hb2 : b ≠ w.heap.size := by omega
  go_enter Tryz.func124, Tryz.ntmps124
  go_wp2_with fail
  refine wp_region_stages [([0, 1, 2, 3, 4, 5], 6), ([], 7)] 99 w.heap.size (by kernel_rfl) (by kernel_rfl) ?_
  refine wpStages_cons ?_
  simp only [List.filterMap_cons, List.filterMap_nil, List.getElem?_toArray, List.getElem?_cons_zero, List.getElem?_cons_succ]
  show wpQuiet _ _ _ _ [_, _, _, _, _, _] _
  repeat (go_big_quiet_step (fail))
  refine wpQuiet_nil ⟨_, rfl, fun K hK => ?_⟩
  go_wp2_with fail
  refine (stepped_sh hx.i64 hy.i64 HR.out _).mono ?_
  rintro e w1 ⟨rfl, rfl⟩
  go_wp2_with fail
  refine hK _ _ (.inr (fun b _ hb => Ext.block (by repeat (with_reducible (first | assumption | exact Ext.refl _ | apply Ext.alloc | apply Ext.drew | apply Ext.drewN))) (by simp; omega))) ?_
  clear hK K
  refine wpStages_cons ?_
  simp only [List.filterMap_nil]
  show wpQuiet _ _ _ _ [] _
  try simp only [Act.put, List.setIfInBounds_toArray, List.set_cons_succ, List.set_cons_zero]
  repeat (go_big_quiet_step (fail))
  refine wpQuiet_nil ⟨_, rfl, fun K hK => ?_⟩
  go_wp2_with fail
  refine hK _ _ (.inr (fun b _ hb => Ext.block (by repeat (with_reducible (first | assumption | exact Ext.refl _ | apply Ext.alloc | apply Ext.drew | apply Ext.drewN))) (by simp; omega))) ?_
  clear hK K
  refine wpStages_nil ?_
  go_wp2
  go_ret
  exact ⟨rfl, (by repeat (first | with_reducible assumption | with_reducible exact Ext.refl _ | with_reducible apply Ext.alloc | with_reducible apply Ext.drew | with_reducible apply Ext.drewN | (with_reducible refine Ext.setCell ?_ (by simp; omega) _) | (with_reducible refine Ext.setCell ?_ (by simp) _)))⟩
set_option maxHeartbeats 800000 in
theorem callee_noise (lo hi : Nat) (u : Value) (c0 : Int) (cx : Value) (xs : List Int) {r : Int} (w : World) (hu : Ints lo hi w u xs) (hh : hi ≤ w.heap.size) (hr : hash257 xs = r) :
    Calls Tryz.prog 125 #[.agg #[.int .i64 c0, cx], u] w fun e w' => e = .returned (.int .i64 r) ∧ Ext w w' := by
  subst hr
  have HU := hid hu
  clear hu
  go_enter Tryz.func125, Tryz.ntmps125
  go_wp2_with fail
  refine (iHash257_any lo hi _ xs _ (HU.out.ext hh (by repeat (with_reducible (first | assumption | exact Ext.refl _ | apply Ext.alloc | apply Ext.drew | apply Ext.drewN))))).mono ?_
  rintro e w1 ⟨rfl, rfl⟩
  go_wp2
  go_ret
  exact ⟨rfl, (by repeat (first | with_reducible assumption | with_reducible exact Ext.refl _ | with_reducible apply Ext.alloc | with_reducible apply Ext.drew | with_reducible apply Ext.drewN | (with_reducible refine Ext.setCell ?_ (by simp; omega) _) | (with_reducible refine Ext.setCell ?_ (by simp) _)))⟩
set_option maxHeartbeats 800000 in
theorem callee_clamp (lo hi : Nat) (u : Value) (c0 : Int) (cx : Value) {x y z r : Int} (w : World) (hu : Ints lo hi w u [x, y, z]) (hh : hi ≤ w.heap.size) (hr : clampI x y z = r) :
    Calls Tryz.prog 126 #[.agg #[.int .i64 c0, cx], u] w fun e w' => e = .returned (.int .i64 r) ∧ Ext w w' := by
  obtain ⟨b, off, cap, rfl, hb, d0, d1, d2⟩ := row3 hu
  have HR := hid hr
  clear hu hr
  have hb1 : b < w.heap.size := by omega
  have hb2 : b ≠ w.heap.size := by omega
  go_enter Tryz.func126, Tryz.ntmps126
  go_wp2_with fail
  refine wp_region_stages [([0, 1, 2, 3, 4, 5, 6, 7, 8], 9), ([], 10)] 99 w.heap.size (by kernel_rfl) (by kernel_rfl) ?_
  refine wpStages_cons ?_
  simp only [List.filterMap_cons, List.filterMap_nil, List.getElem?_toArray, List.getElem?_cons_zero, List.getElem?_cons_succ]
  show wpQuiet _ _ _ _ [_, _, _, _, _, _, _, _, _] _
  repeat (go_big_quiet_step (fail))
  refine wpQuiet_nil ⟨_, rfl, fun K hK => ?_⟩
  go_wp2_with fail
  refine (iClamp_val HR.out _).mono ?_
  rintro e w1 ⟨rfl, rfl⟩
  go_wp2_with fail
  refine hK _ _ (.inr (fun b _ hb => Ext.block (by repeat (with_reducible (first | assumption | exact Ext.refl _ | apply Ext.alloc | apply Ext.drew | apply Ext.drewN))) (by simp; omega))) ?_
  clear hK K
  refine wpStages_cons ?_
  simp only [List.filterMap_nil]
  show wpQuiet _ _ _ _ [] _
  try simp only [Act.put, List.setIfInBounds_toArray, List.set_cons_succ, List.set_cons_zero]
  repeat (go_big_quiet_step (fail))
  refine wpQuiet_nil ⟨_, rfl, fun K hK => ?_⟩
  go_wp2_with fail
  refine hK _ _ (.inr (fun b _ hb => Ext.block (by repeat (with_reducible (first | assumption | exact Ext.refl _ | apply Ext.alloc | apply Ext.drew | apply Ext.drewN))) (by simp; omega))) ?_
  clear hK K
  refine wpStages_nil ?_
  go_wp2
  go_ret
  exact ⟨rfl, (by repeat (first | with_reducible assumption | with_reducible exact Ext.refl _ | with_reducible apply Ext.alloc | with_reducible apply Ext.drew | with_reducible apply Ext.drewN | (with_reducible refine Ext.setCell ?_ (by simp; omega) _) | (with_reducible refine Ext.setCell ?_ (by simp) _)))⟩
set_option maxHeartbeats 800000 in
theorem callee_mix (lo hi : Nat) (u : Value) (c0 : Int) (cx : Value) {x y z r : Int} (w : World) (hu : Ints lo hi w u [x, y, z]) (hh : hi ≤ w.heap.size) (hx : S9 x) (hy : S9 y) (hz : S9 z) (hr : blendI x y z = r) :
    Calls Tryz.prog 127 #[.agg #[.int .i64 c0, cx], u] w fun e w' => e = .returned (.int .i64 r) ∧ Ext w w' := by
  obtain ⟨b, off, cap, rfl, hb, d0, d1, d2⟩ := row3 hu
  have hx1 := hx.1
  have hx2 := hx.2
  have hy1 := hy.1
  have hy2 := hy.2
  have hm := blend_bd hx hy hz
  unfold blendI at hr
  have hq := fdiv_bd (b := 256) hm (by decide)
  obtain ⟨q, hqq⟩ : ∃ q, fdiv ((y - x) * z) 256 = q := ⟨_, rfl⟩
  rw [hqq] at hq hr
  have HQ := hid hqq
  clear hqq
  have HR := hid hr
  clear hu hr
  have hb1 : b < w.heap.size := by omega
  have hb2 : b ≠ w.heap.size := by omega
  go_enter Tryz.func127, Tryz.ntmps127
  go_wp2_with fail
  refine wp_region_stages [([0, 1, 2, 3, 4, 5, 6, 7, 8, 9, 10, 11, 12, 13], 14), ([15], 16)] 99 w.heap.size (by kernel_rfl) (by kernel_rfl) ?_
  refine wpStages_cons ?_
  simp only [List.filterMap_cons, List.filterMap_nil, List.getElem?_toArray, List.getElem?_cons_zero, List.getElem?_cons_succ]
  show wpQuiet _ _ _ _ [_, _, _, _, _, _, _, _, _, _, _, _, _, _] _
  repeat (go_big_quiet_step (fail))
  refine wpQuiet_nil ⟨_, rfl, fun K hK => ?_⟩
  go_wp2_with fail
  refine (iFloorDiv_val (I64.mk (by omega) (by omega)) HQ.out _).mono ?_
  rintro e w1 ⟨rfl, rfl⟩
  go_wp2_with fail
  refine hK _ _ (.inr (fun b _ hb => Ext.block (by repeat (with_reducible (first | assumption | exact Ext.refl _ | apply Ext.alloc | apply Ext.drew | apply Ext.drewN))) (by simp; omega))) ?_
  clear hK K
  refine wpStages_cons ?_
  simp only [List.filterMap_cons, List.filterMap_nil, List.getElem?_toArray, List.getElem?_cons_zero, List.getElem?_cons_succ]
  show wpQuiet _ _ _ _ [_] _
  try simp only [Act.put, List.setIfInBounds_toArray, List.set_cons_succ, List.set_cons_zero]
  repeat (go_big_quiet_step (fail))
  refine wpQuiet_nil ⟨_, rfl, fun K hK => ?_⟩
  go_wp2_with fail
  refine hK _ _ (.inr (fun b _ hb => Ext.block (by repeat (with_reducible (first | assumption | exact Ext.refl _ | apply Ext.alloc | apply Ext.drew | apply Ext.drewN))) (by simp; omega))) ?_
  clear hK K
  refine wpStages_nil ?_
  go_wp2
  rw [HR.out]
  go_ret
  exact ⟨rfl, (by repeat (first | with_reducible assumption | with_reducible exact Ext.refl _ | with_reducible apply Ext.alloc | with_reducible apply Ext.drew | with_reducible apply Ext.drewN | (with_reducible refine Ext.setCell ?_ (by simp; omega) _) | (with_reducible refine Ext.setCell ?_ (by simp) _)))⟩
end Go.Proofs.YtaegmenjgjdimaaGreat
