/- This text proves what Lookup hands back: the program's and the reference's. -/
import Derived.Test.YtcogkglkioejaaaL15i
import Derived.Test.YtcogkglkioejaaaL16a
namespace Go.Proofs.Ytcogkglkioejaaa
open Go.RowKit

def Tex.lookR (t : Tex) (u v l : Int) : Int := if t.okB then (t.mip (clampI l 0 t.log).toNat).look u v else 0
theorem clampI_bd {l L : Int} (h : 0 ≤ L) : 0 ≤ clampI l 0 L ∧ clampI l 0 L ≤ L := by
  unfold clampI
  split
  · omega
  · split <;> omega

set_option maxRecDepth 10000 in
set_option maxHeartbeats 1600000 in
theorem iLookup_any (lo hi : Nat) (v : Value) (t : Tex) (x y l : Int) (w : World) (hv : TexR lo hi w v t) (hh : hi ≤ w.heap.size) :
    Calls Try.prog 9 #[v, .int .i64 x, .int .i64 y, .int .i64 l] w fun e w' => e = .returned (.int .i64 (t.lookR x y l)) ∧ Ext w w' := by
  obtain ⟨u, rfl, hlog⟩ := hv.shape
  have HV := hid hv
  clear hv
  by_cases hb : t.okB = true
  · have ht := Tex.okB_iff.1 hb
    obtain ⟨c0, c4⟩ := clampI_bd (l := l) ht.log0
    have e1 : t.lookR x y l = (t.mip (clampI l 0 t.log).toNat).look x y := by unfold Tex.lookR; rw [if_pos hb]
    rw [e1]
    obtain ⟨c, hc⟩ : ∃ c, clampI l 0 t.log = c := ⟨_, rfl⟩
    rw [hc] at c0 c4 ⊢
    have hm := (ht.mip c.toNat (by omega)).1
    have HT := hid ht
    have HB := hid hb
    have HC := hid hc
    have HM := hid hm
    clear hb ht e1 hc hm
    go_enter Try.func9, Try.ntmps9
    go_wp2_with fail
    refine (iIsValidTexture_val HB.out lo hi _ _ (HV.out.ext hh (by repeat (with_reducible (first | assumption | exact Ext.refl _ | apply Ext.alloc | apply Ext.drew | apply Ext.drewN)))) (by simp; omega)).mono ?_
    rintro e w1 ⟨rfl, h1⟩
    have E1 : Ext w w1 := Ext.trans (by repeat (with_reducible (first | assumption | exact Ext.refl _ | apply Ext.alloc | apply Ext.drew | apply Ext.drewN))) h1
    obtain ⟨c1, f1⟩ := h1.cells
    have z1 := h1.size
    simp only [World.size_alloc] at z1
    have q1 : w.heap.size < w1.heap.size := by omega
    go_wp2
    refine wp_region_stages [([0, 1, 2, 3, 6, 7], 4), ([], 5), ([], 8), ([], 9)] 99 w1.heap.size (by kernel_rfl) (by kernel_rfl) ?_
    refine wpStages_cons ?_
    simp only [List.filterMap_cons, List.filterMap_nil, List.getElem?_toArray, List.getElem?_cons_zero, List.getElem?_cons_succ]
    show wpQuiet _ _ _ _ [_, _, _, _, _, _] _
    repeat (go_big_quiet_step (fail))
    refine wpQuiet_nil ⟨_, rfl, fun K hK => ?_⟩
    go_wp2_with fail
    refine (iClamp_val HC.out _).mono ?_
    rintro e w2 ⟨rfl, rfl⟩
    go_wp2_with fail
    refine hK _ _ (.inr (fun b _ hb => Ext.block (by repeat (with_reducible (first | assumption | exact Ext.refl _ | apply Ext.alloc | apply Ext.drew | apply Ext.drewN))) hb)) ?_
    clear hK K
    refine wpStages_cons ?_
    simp only [List.filterMap_nil]
    show wpQuiet _ _ _ _ [] _
    try simp only [Act.put, List.setIfInBounds_toArray, List.set_cons_succ, List.set_cons_zero]
    refine wpQuiet_nil ⟨_, rfl, fun K hK => ?_⟩
    go_wp2_with fail
    refine (mip_int (HV.out.ext hh (E1.trans (by repeat (with_reducible (first | assumption | exact Ext.refl _ | apply Ext.alloc | apply Ext.drew | apply Ext.drewN))))) (by simp; omega) HT.out c0 c4).mono ?_
    rintro e w3 ⟨v3, rfl, O3, h3⟩
    have E13 : Ext w1 w3 := Ext.trans (by repeat (with_reducible (first | assumption | exact Ext.refl _ | apply Ext.alloc | apply Ext.drew | apply Ext.drewN))) h3
    go_wp2_with fail
    refine hK _ _ (.inr (E13.same (Nat.le_refl _))) ?_
    clear hK K
    refine wpStages_cons ?_
    simp only [List.filterMap_nil]
    show wpQuiet _ _ _ _ [] _
    try simp only [Act.put, List.setIfInBounds_toArray, List.set_cons_succ, List.set_cons_zero]
    refine wpQuiet_nil ⟨_, rfl, fun K hK => ?_⟩
    go_wp2_with fail
    refine (lookup_any _ _ _ _ x y _ O3.tex (Nat.le_refl _) HM.out).mono ?_
    rintro e w4 ⟨rfl, h4⟩
    have E14 : Ext w1 w4 := E13.trans h4
    go_wp2_with fail
    refine hK _ _ (.inr (E14.same (Nat.le_refl _))) ?_
    clear hK K
    refine wpStages_cons ?_
    simp only [List.filterMap_nil]
    show wpQuiet _ _ _ _ [] _
    try simp only [Act.put, List.setIfInBounds_toArray, List.set_cons_succ, List.set_cons_zero]
    refine wpQuiet_nil ⟨_, rfl, fun K hK => ?_⟩
    go_wp2_with fail
    refine hK _ _ (.inr (E14.same (Nat.le_refl _))) ?_
    clear hK K
    refine wpStages_nil ?_
    go_wp2
    go_ret
    exact ⟨rfl, E1.trans E14⟩
  · have e1 : t.lookR x y l = 0 := by unfold Tex.lookR; rw [if_neg hb]
    rw [e1]
    have HB := hid (Bool.eq_false_iff.2 hb)
    clear hb e1
    go_enter Try.func9, Try.ntmps9
    go_wp2_with fail
    refine (iIsValidTexture_val HB.out lo hi _ _ (HV.out.ext hh (by repeat (with_reducible (first | assumption | exact Ext.refl _ | apply Ext.alloc | apply Ext.drew | apply Ext.drewN)))) (by simp; omega)).mono ?_
    rintro e w1 ⟨rfl, h1⟩
    go_wp2
    go_ret
    exact ⟨rfl, Ext.trans (by repeat (with_reducible (first | assumption | exact Ext.refl _ | apply Ext.alloc | apply Ext.drew | apply Ext.drewN))) h1⟩

theorem l02N_val {n c : Int} (h : clampI n (-1000000) 1000000 = c) (w : World) : Calls Try.prog 68 #[.int .i64 n] w fun e w' => e = .returned (.int .i64 c) ∧ w = w' := by
  go_enter Try.func68, Try.ntmps68
  go_wp2_with fail
  refine (sClamp_val h _).mono ?_
  rintro e w1 ⟨rfl, rfl⟩
  go_wp2
  go_ret
  exact ⟨rfl, rfl⟩
end Go.Proofs.Ytcogkglkioejaaa
