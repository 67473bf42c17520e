/- This text proves the functions of the shading language: the texture's of the program, l17Func of the reference. -/
import Derived.Test.YtaegmenjgjdimaaGreatSh4
import Derived.Test.YtaegmenjgjdimaaGreatL15k
namespace Go.Proofs.YtaegmenjgjdimaaGreat
open Go.RowKit

set_option maxHeartbeats 800000 in
theorem callee_tex (lo hi lo' hi' : Nat) (u v : Value) (t : Tex) {x y r : Int} (w : World) (hu : Ints lo hi w u [x, y]) (hh : hi ≤ w.heap.size) (hv : TexR lo' hi' w v t) (hh' : hi' ≤ w.heap.size) (ht : t.Ok) (hr : t.look x y = r) :
    Calls Tryz.prog 128 #[v, u] w fun e w' => e = .returned (.int .i64 r) ∧ Ext w w' := by
  obtain ⟨b, off, cap, rfl, hb, d0, d1, _⟩ := row2 hu
  obtain ⟨tx, rfl, _⟩ := hv.shape
  have HR := hid hr
  have HV := hid hv
  have HT := hid ht
  clear hu hr hv ht
  have hb1 : b < w.heap.size := by omega
  have hb2 : b ≠ w.heap.size := by omega
  go_enter Tryz.func128, Tryz.ntmps128
  go_wp2_with fail
  refine wp_region_stages [([0, 1, 2, 3, 4, 5, 6, 7], 8), ([], 9)] 99 (w.heap.size + 1) (by kernel_rfl) (by kernel_rfl) ?_
  refine wpStages_cons ?_
  simp only [List.filterMap_cons, List.filterMap_nil, List.getElem?_toArray, List.getElem?_cons_zero, List.getElem?_cons_succ]
  show wpQuiet _ _ _ _ [_, _, _, _, _, _, _, _] _
  repeat (go_big_quiet_step (fail))
  refine wpQuiet_nil ⟨_, rfl, fun K hK => ?_⟩
  go_wp2_with fail
  refine (lookup_any lo' hi' _ t x y _ (HV.out.ext hh' (by repeat (with_reducible (first | assumption | exact Ext.refl _ | apply Ext.alloc | apply Ext.drew | apply Ext.drewN)))) (by simp; omega) HT.out).mono ?_
  rintro e w1 ⟨rfl, x1⟩
  rw [HR.out]
  have X1 := x1
  have X2 : Ext w w1 := Ext.trans (by repeat (with_reducible (first | assumption | exact Ext.refl _ | apply Ext.alloc | apply Ext.drew | apply Ext.drewN))) x1
  go_wp2_with fail
  refine hK _ _ (.inr (fun k _ hk => X1.block (by first | omega | (simp; omega)))) ?_
  clear hK K
  refine wpStages_cons ?_
  simp only [List.filterMap_nil]
  show wpQuiet _ _ _ _ [] _
  try simp only [Act.put, List.setIfInBounds_toArray, List.set_cons_succ, List.set_cons_zero]
  repeat (go_big_quiet_step (fail))
  refine wpQuiet_nil ⟨_, rfl, fun K hK => ?_⟩
  go_wp2_with fail
  refine hK _ _ (.inr (fun k _ hk => X1.block (by first | omega | (simp; omega)))) ?_
  clear hK K
  refine wpStages_nil ?_
  go_wp2
  go_ret
  exact ⟨rfl, (by repeat (first | with_reducible assumption | with_reducible exact Ext.refl _ | with_reducible apply Ext.alloc | with_reducible apply Ext.drew | with_reducible apply Ext.drewN | (with_reducible refine Ext.setCell ?_ (by simp; omega) _) | (with_reducible refine Ext.setCell ?_ (by simp) _)))⟩
end Go.Proofs.YtaegmenjgjdimaaGreat
