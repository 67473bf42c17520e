/- This text proves the rows of an operation of the program. -/
import Derived.Test.YtaegmenjgjdimaaGreatSh9
namespace Go.Proofs.YtaegmenjgjdimaaGreat
open Go.RowKit

set_option maxHeartbeats 1600000 in
theorem iCombined_any (lo hi lo' hi' : Nat) (u v : Value) (op : Int) (xs ys : List Int) (w : World) (ho : opsOk op) (hu : Ints lo hi w u xs) (hh : hi ≤ w.heap.size) (hv : Ints lo' hi' w v ys) (hh' : hi' ≤ w.heap.size)
    (hl : xs.length = ys.length) (hm : ys.length ≤ 1000000) (hx9 : ∀ x ∈ xs, S9 x) (hy9 : ∀ y ∈ ys, S9 y) :
    Calls Tryz.prog 58 #[.int .i64 op, u, v] w fun e w' => ∃ r, e = .returned r ∧ OwnInts w.heap.size w' r (List.zipWith (arithI op) xs ys) ∧ Ext w w' := by
  obtain ⟨i0, hi0, hz0, hz1, hz2⟩ := info_parts info_int
  obtain ⟨a, cap, rfl, HU⟩ := hu.open
  obtain ⟨a', cap', rfl, HV⟩ := hv.open
  clear hu hv
  obtain ⟨zs, hzs⟩ : ∃ zs, List.zipWith (arithI op) xs ys = zs := ⟨_, rfl⟩
  have hzl : zs.length = ys.length := by rw [← hzs, List.length_zipWith]; omega
  have hz : ∀ k (h1 : k < xs.length) (h2 : k < ys.length) (h3 : k < zs.length), arithI op xs[k] ys[k] = zs[k] := fun k h1 h2 h3 => by subst hzs; simp
  have HZ9 := hid (fun z (h : z ∈ zs) => (by
    obtain ⟨k, hk, rfl⟩ := List.getElem_of_mem h
    rw [← hz k (by omega) (by omega) hk]
    exact (satI_S9 _).i64 : I64 z))
  rw [hzs]
  clear hzs
  go_enter Tryz.func58, Tryz.ntmps58
  go_wp2_with (at_make; refine wpList_make_full _ rfl _ _ 29 rfl w.heap.size 3 i0 (.int .i64 0) 1 Tryz.underlying29 hi0 hz0 hz1 _ _ _ _ ys.length rfl rfl rfl rfl (by rw [hz2]; omega) (by unfold maxLen; omega) (Nat.le_refl _) ?_)
  intro w1 hown hgrow
  rw [made_ints, ← hzl, ← fillTo_zero, hzl] at hown
  have hx : Ext w w1 := (Ext.refl w).grown hgrow (fun k h => by cases h)
  have hb0 : w.heap.size < w1.heap.size := (hown.lt _ rfl).2
  clear hgrow hi0 hz0 hz1 hz2
  go_wp2
  go_loopw [14] (fun i wr => ∃ k : Nat, k ≤ ys.length ∧ i = .int .i64 k ∧ Ext w wr ∧ w.heap.size < wr.heap.size ∧ wr.ownsRow w.heap.size 3 1 (.slice (some ⟨w.heap.size, 0, none⟩) ys.length ys.length) ys.length ((fillTo zs k).map (Value.int .i64)))
    (fun i _ => ys.length - (intOf i).toNat)
  case atStart => exact ⟨0, by omega, rfl, hx, hb0, hown⟩
  case round =>
    clear hown hx hb0
    obtain ⟨k, hk, rfl, hx, hb0, hown⟩ := hrel
    by_cases hlt : k < ys.length
    · obtain ⟨b, off, rfl, hb1, hb2, hc⟩ := HU.at (k := k) (by omega)
      obtain ⟨b', off', rfl, hb1', hb2', hc'⟩ := HV.at hlt
      rw [← hx.cells.1 b _ (by omega)] at hc
      rw [← hx.cells.1 b' _ (by omega)] at hc'
      have hs := hown.cellAt k (by omega)
      have hf := hown.frozenAt k
      have q9 := hx9 _ (List.getElem_mem (show k < xs.length by omega))
      have q9' := hy9 _ (List.getElem_mem hlt)
      have hz' := hz k (by omega) hlt (by omega)
      have hst := (hown.stored k (.int .i64 (zs[k]'(by omega)))).1
      have hx' := hx.setCell (p := ⟨w.heap.size, k, none⟩) (Nat.le_refl _) (.int .i64 (zs[k]'(by omega)))
      obtain ⟨z0, hs'⟩ : ∃ z, wr.cell? ⟨w.heap.size, k, none⟩ = some (.int .i64 z) := by
        rw [hs]
        have hl2 : k < (fillTo zs k).length := by rw [fillTo_length _ _ (by omega)]; omega
        exact ⟨(fillTo zs k)[k], by simp⟩
      rw [← List.map_set, fillTo_succ _ _ (by omega)] at hst
      obtain ⟨x, hxx⟩ : ∃ x, xs[k]'(by omega) = x := ⟨_, rfl⟩
      obtain ⟨y, hyy⟩ : ∃ x, ys[k] = x := ⟨_, rfl⟩
      obtain ⟨z, hzz⟩ : ∃ x, zs[k]'(by omega) = x := ⟨_, rfl⟩
      rw [hxx] at hc q9 hz'
      rw [hyy] at hc' q9' hz'
      rw [hzz] at hz' hst hx'
      have H1 := hid hst
      have H2 := hid hx'
      have HZ := hid hz'
      have zr := hx.size
      have hbw : b < wr.heap.size := by omega
      have hbw' : b' < wr.heap.size := by omega
      clear hst hx' hs hown hx hxx hyy hzz hz' hz
      go_wp2_with fail
      refine wp_region_stages [([0, 1, 2, 3, 4, 5, 6, 7, 8, 9, 10], 11), ([12], 13)] 13 wr.heap.size (by kernel_rfl) (by kernel_rfl) ?_
      refine wpStages_cons ?_
      simp only [List.filterMap_cons, List.filterMap_nil, List.getElem?_toArray, List.getElem?_cons_zero, List.getElem?_cons_succ]
      show wpQuiet _ _ _ _ [_, _, _, _, _, _, _, _, _, _, _] _
      repeat (go_big_quiet_step (fail))
      refine wpQuiet_nil ⟨_, rfl, fun K hK => ?_⟩
      go_wp2_with fail
      refine (iArith_any ho q9 q9' HZ.out _).mono ?_
      rintro e w1 ⟨rfl, rfl⟩
      go_wp2_with fail
      refine hK _ _ (.inr (fun k _ hk => Ext.block (by repeat (with_reducible (first | assumption | exact Ext.refl _ | apply Ext.alloc | apply Ext.drew | apply Ext.drewN))) (by first | omega | (simp; omega)))) ?_
      clear hK K
      refine wpStages_cons ?_
      simp only [List.filterMap_cons, List.filterMap_nil, List.getElem?_toArray, List.getElem?_cons_zero, List.getElem?_cons_succ]
      show wpQuiet _ _ _ _ [_] _
      try simp only [Act.put, List.setIfInBounds_toArray, List.set_cons_succ, List.set_cons_zero]
      repeat (go_big_quiet_step (fail))
      refine wpQuiet_nil ⟨_, rfl, fun K hK => ?_⟩
      go_wp2_with fail
      refine hK _ _ (.inl (by trivial)) (wpStages_nil ?_)
      clear hK K
      go_wp2
      go_roundw
      case rel => exact ⟨k + 1, by omega, by go_num, H2.out.drew, by simpa using hb0, H1.out.drew⟩
      case measure => simp [intOf]; omega
    · go_wp2
      go_ret
      obtain rfl : k = ys.length := by omega
      have hown' : OwnInts w.heap.size wr (.slice (some ⟨w.heap.size, 0, none⟩) ys.length ys.length) zs := ⟨by rw [← hzl, fillTo_all] at hown; rw [← hzl]; exact hown, HZ9.out⟩
      exact ⟨_, rfl, hown', hx⟩
end Go.Proofs.YtaegmenjgjdimaaGreat
