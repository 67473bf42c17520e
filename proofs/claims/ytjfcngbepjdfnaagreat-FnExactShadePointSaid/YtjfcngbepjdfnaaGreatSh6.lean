/- This text proves the reference's noise and tex of the shading language, and the program's table of functions. -/
import Derived.Test.YtjfcngbepjdfnaaGreatSh5
import Derived.Test.YtjfcngbepjdfnaaGreatLawLook
namespace Go.Proofs.YtjfcngbepjdfnaaGreat
open Go.RowKit

theorem hnew (w : World) (o : Obj) : (w.alloc o).heap[w.heap.size]? = some o := by show (w.heap.push o)[w.heap.size]? = _; simp
theorem lookR_zero {t : Tex} (ht : t.okB = true) (x y : Int) : t.lookR x y 0 = t.look x y := by
  unfold Tex.lookR
  rw [if_pos ht]
  have h0 := (Tex.okB_iff.1 ht).log0
  have e : clampI 0 0 t.log = 0 := by
    unfold clampI
    split
    · omega
    · split <;> omega
  rw [e]
  rfl
set_option maxHeartbeats 1600000 in
theorem sFn_tex (lo hi lo' hi' : Nat) (u : Value) (g0 : Int) (g1 : Value) (g2 g3 : Int) (g4 : Value) (t : Tex) {x y r : Int} (w : World) (hu : Ints lo hi w u [x, y]) (hh : hi ≤ w.heap.size) (hv : TexR lo' hi' w (.agg #[.int .i64 g3, g4]) t) (hh' : hi' ≤ w.heap.size) (ht : t.okB = true) (hr : t.look x y = r) :
    Calls Tryz.prog 80 #[.agg #[.int .i64 g0, g1, .int .i64 g2, .int .i64 g3, g4], .string ⟨#[116, 101, 120]⟩, u] w fun e w' => e = .returned (.int .i64 r) ∧ Ext w w' := by
  obtain ⟨b, off, cap, rfl, hb, d0, d1, _⟩ := row2 hu
  have HR := hid ((lookR_zero ht x y).trans hr)
  have HV := hid hv
  clear hu hr hv ht
  have hb1 : b < w.heap.size := by omega
  have hb2 : b ≠ w.heap.size := by omega
  go_enter Tryz.func80, Tryz.ntmps80
  go_wp2_with fail
  refine wp_region_stages [([0, 1, 2, 3, 4, 5, 6, 7], 8), ([], 9)] 99 (w.heap.size + 1) (by kernel_rfl) (by kernel_rfl) ?_
  refine wpStages_cons ?_
  simp only [List.filterMap_cons, List.filterMap_nil, List.getElem?_toArray, List.getElem?_cons_zero, List.getElem?_cons_succ]
  show wpQuiet _ _ _ _ [_, _, _, _, _, _, _, _] _
  repeat (go_big_quiet_step (fail))
  refine wpQuiet_nil ⟨_, rfl, fun K hK => ?_⟩
  go_wp2_with fail
  refine (sLookup_val HR.out lo' hi' _ _ (HV.out.ext hh' (by repeat (with_reducible (first | assumption | exact Ext.refl _ | apply Ext.alloc | apply Ext.drew | apply Ext.drewN)))) (by simp; omega)).mono ?_
  rintro e w1 ⟨rfl, x1⟩
  have X1 := x1
  have X2 : Ext w w1 := Ext.trans (by repeat (with_reducible (first | assumption | exact Ext.refl _ | apply Ext.alloc | apply Ext.drew | apply Ext.drewN))) x1
  go_wp2_with fail
  refine hK _ _ (.inr (fun k _ hk => X1.block (by first | omega | (simp; omega)))) ?_
  clear hK K
  refine wpStages_cons ?_
  simp only [List.filterMap_nil]
  show wpQuiet _ _ _ _ [] _
  try simp only [Act.put, List.setIfInBounds_toArray, List.set_cons_succ, List.set_cons_zero]
  repeat (go_big_quiet_step (fail))
  refine wpQuiet_nil ⟨_, rfl, fun K hK => ?_⟩
  go_wp2_with fail
  refine hK _ _ (.inr (fun k _ hk => X1.block (by first | omega | (simp; omega)))) ?_
  clear hK K
  refine wpStages_nil ?_
  go_wp2
  go_ret
  exact ⟨rfl, (by repeat (first | with_reducible assumption | with_reducible exact Ext.refl _ | with_reducible apply Ext.alloc | with_reducible apply Ext.drew | with_reducible apply Ext.drewN | (with_reducible refine Ext.setCell ?_ (by simp; omega) _) | (with_reducible refine Ext.setCell ?_ (by simp) _)))⟩

set_option maxHeartbeats 1600000 in
theorem sFn_noise (lo hi : Nat) (u : Value) (g0 : Int) (g1 : Value) (g2 g3 : Int) (g4 : Value) {x y r : Int} (w : World) (hu : Ints lo hi w u [x, y]) (hh : hi ≤ w.heap.size) (hx : S9 x) (hy : S9 y) (hr : hash257 [x, y] = r) :
    Calls Tryz.prog 80 #[.agg #[.int .i64 g0, g1, .int .i64 g2, .int .i64 g3, g4], .string ⟨#[110, 111, 105, 115, 101]⟩, u] w fun e w' => e = .returned (.int .i64 r) ∧ Ext w w' := by
  obtain ⟨b, off, cap, rfl, hb, d0, d1, _⟩ := row2 hu
  have HR := hid hr
  clear hu hr
  have hb1 : b < w.heap.size := by omega
  have hb2 : b ≠ w.heap.size := by omega
  go_enter Tryz.func80, Tryz.ntmps80
  go_wp2_with fail
  refine wp_region_stages [([0, 1, 2, 3, 4, 5], 6), ([], 7), ([], 8)] 99 w.heap.size (by kernel_rfl) (by kernel_rfl) ?_
  refine wpStages_cons ?_
  simp only [List.filterMap_cons, List.filterMap_nil, List.getElem?_toArray, List.getElem?_cons_zero, List.getElem?_cons_succ]
  show wpQuiet _ _ _ _ [_, _, _, _, _, _] _
  repeat (go_big_quiet_step (fail))
  refine wpQuiet_nil ⟨_, rfl, fun K hK => ?_⟩
  go_wp2_with fail
  refine hK _ _ (.inr (fun k _ hk => Ext.block (by repeat (with_reducible (first | assumption | exact Ext.refl _ | apply Ext.alloc | apply Ext.drew | apply Ext.drewN))) (by first | omega | (simp; omega)))) ?_
  clear hK K
  refine wpStages_cons ?_
  simp only [List.filterMap_nil]
  show wpQuiet _ _ _ _ [] _
  try simp only [Act.put, List.setIfInBounds_toArray, List.set_cons_succ, List.set_cons_zero]
  repeat (go_big_quiet_step (fail))
  refine wpQuiet_nil ⟨_, rfl, fun K hK => ?_⟩
  go_wp2_with fail
  have O1 : ∀ W : World, OwnInts W.heap.size (W.alloc (.cells #[.int .i64 x, .int .i64 y] 3)) (.slice (some ⟨W.heap.size, 0, none⟩) 2 2) [x, y] := fun W =>
    ⟨⟨rfl, .inr ⟨W.heap.size, 2, _, rfl, Nat.le_refl _, hnew W _, by simp, by unfold maxLen; omega, rfl, rfl⟩⟩, fun z hz => by
      simp only [List.mem_cons, List.not_mem_nil, or_false] at hz
      rcases hz with rfl | rfl
      · exact hx.i64
      · exact hy.i64⟩
  have O2 := ((O1 (w.alloc (Obj.cells #[.int .i64 g0, g1, .int .i64 g2, .int .i64 g3, g4] 43))).ext ((Ext.refl _).drew)).ints
  simp only [World.size_alloc] at O2
  refine (sHash257_any _ _ _ _ _ O2).mono ?_
  rintro e w1 ⟨rfl, rfl⟩
  rw [HR.out]
  go_wp2_with fail
  refine hK _ _ (.inr (fun k _ hk => Ext.block (by repeat (with_reducible (first | assumption | exact Ext.refl _ | apply Ext.alloc | apply Ext.drew | apply Ext.drewN))) (by first | omega | (simp; omega)))) ?_
  clear hK K
  refine wpStages_cons ?_
  simp only [List.filterMap_nil]
  show wpQuiet _ _ _ _ [] _
  try simp only [Act.put, List.setIfInBounds_toArray, List.set_cons_succ, List.set_cons_zero]
  repeat (go_big_quiet_step (fail))
  refine wpQuiet_nil ⟨_, rfl, fun K hK => ?_⟩
  go_wp2_with fail
  refine hK _ _ (.inr (fun k _ hk => Ext.block (by repeat (with_reducible (first | assumption | exact Ext.refl _ | apply Ext.alloc | apply Ext.drew | apply Ext.drewN))) (by first | omega | (simp; omega)))) ?_
  clear hK K
  refine wpStages_nil ?_
  go_wp2
  go_ret
  exact ⟨rfl, (by repeat (first | with_reducible assumption | with_reducible exact Ext.refl _ | with_reducible apply Ext.alloc | with_reducible apply Ext.drew | with_reducible apply Ext.drewN | (with_reducible refine Ext.setCell ?_ (by simp; omega) _) | (with_reducible refine Ext.setCell ?_ (by simp) _)))⟩
end Go.Proofs.YtjfcngbepjdfnaaGreat
