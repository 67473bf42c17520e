/- This text proves what the law's helper functions over slices of Transforms compute. -/
import Derived.Test.YteeclghkfcanlaaTr1
namespace Go.Proofs.Yteeclghkfcanlaa
open Go.RowKit

theorem info_Xf : (Try.prog.info? 85).map (fun i => (i.zero, i.size, i.bytes)) = some (some (.agg #[.int .i64 0, .int .i64 0, .int .i64 0, .int .i64 0, .int .i64 0, .int .i64 0, .int .i64 0, .int .i64 0, .int .i64 0, .int .i64 0, .int .i64 0, .int .i64 0]), 12, 96) := by kernel_rfl

set_option maxHeartbeats 400000 in
theorem szTransformS_any (lo hi : Nat) (u : Value) (n : Nat) (f : Nat → Int) (left : Int) (w : World) (hu : Flats 12 lo hi w u n f) (h1 : 0 ≤ left) (h2 : left ≤ 1048576) :
    Calls Try.prog 8 #[u, .int .i64 left] w fun e w' => e = .returned (.int .i64 (if left - n < 0 then -1 else left - n)) ∧ w = w' := by
  obtain ⟨a, cap, rfl, HU⟩ := hu.open
  have h3 := HU.le
  have h4 := HU.cap
  go_enter Try.func8, Try.ntmps8
  go_wp2
  all_goals go_ret
  all_goals exact ⟨rfl, rfl⟩

set_option maxRecDepth 20000 in
set_option maxHeartbeats 3200000 in
theorem toTransformS_any (lo hi : Nat) (u : Value) (n : Nat) (f : Nat → Int) (w : World) (hu : Flats 12 lo hi w u n f) (hh : hi ≤ w.heap.size) (hsz : n ≤ 1048576) :
    Calls Try.prog 10 #[u] w fun e w' => ∃ v, e = .returned v ∧ Flats 12 w.heap.size w'.heap.size w' v n f ∧ Ext w w' := by
  obtain ⟨i0, hi0, hz0, hz1, hz2⟩ := info_parts info_Xf
  obtain ⟨a, cap, rfl, HU⟩ := hu.open
  clear hu
  have hcap := HU.cap
  have hle := HU.le
  go_enter Try.func10, Try.ntmps10
  go_wp2_with (at_make; refine wpList_make_full _ rfl _ _ 28 rfl w.heap.size 85 i0 _ 12 Try.underlying28 hi0 hz0 hz1 _ _ _ _ n rfl rfl rfl rfl (by rw [hz2]; omega) (by unfold maxLen; omega) (Nat.le_refl _) ?_)
  intro w1 hown hgrow
  have hx : Ext w w1 := (Ext.refl w).grown hgrow (fun k h => by cases h)
  have hrow := hid (RowI.zero (f := f) (ownsRow_rowI (made_zero (k := 12) rfl (by decide) _) hown))
  clear hown hgrow hi0 hz0 hz1 hz2
  go_wp2
  go_loopw [4] (fun i wr => ∃ k : Nat, k ≤ n ∧ i = .int .i64 k ∧ Ext w wr ∧ RowI wr w.heap.size 85 (n * 12) (fillI f (k * 12))) (fun i _ => n - (intOf i).toNat)
  case atStart => exact ⟨0, by omega, rfl, hx, by simpa using hrow.out⟩
  case round =>
    clear hx hrow
    obtain ⟨k, hk, rfl, hx, hrow⟩ := hrel
    by_cases hlt : k < n
    · obtain ⟨b, off, rfl, hb1, hb2, hc⟩ := HU.at hlt (by decide)
      have hlen := flat_lt (k := 12) (j := 11) hlt (by decide)
      have c0 := (hx.cells.1 b _ (by omega)).trans (hc 0 (by decide))
      have c1 := (hx.cells.1 b _ (by omega)).trans (hc 1 (by decide))
      have c2 := (hx.cells.1 b _ (by omega)).trans (hc 2 (by decide))
      have c3 := (hx.cells.1 b _ (by omega)).trans (hc 3 (by decide))
      have c4 := (hx.cells.1 b _ (by omega)).trans (hc 4 (by decide))
      have c5 := (hx.cells.1 b _ (by omega)).trans (hc 5 (by decide))
      have c6 := (hx.cells.1 b _ (by omega)).trans (hc 6 (by decide))
      have c7 := (hx.cells.1 b _ (by omega)).trans (hc 7 (by decide))
      have c8 := (hx.cells.1 b _ (by omega)).trans (hc 8 (by decide))
      have c9 := (hx.cells.1 b _ (by omega)).trans (hc 9 (by decide))
      have c10 := (hx.cells.1 b _ (by omega)).trans (hc 10 (by decide))
      have c11 := (hx.cells.1 b _ (by omega)).trans (hc 11 (by decide))
      simp only [Nat.add_zero] at c0
      have HX := hid hx
      have HR := hid hrow
      clear hc hx hrow
      go_wp2_with fail
      refine (toTransform_val (f (k * 12)) (f (k * 12 + 1)) (f (k * 12 + 2)) (f (k * 12 + 3)) (f (k * 12 + 4)) (f (k * 12 + 5)) (f (k * 12 + 6)) (f (k * 12 + 7)) (f (k * 12 + 8)) (f (k * 12 + 9)) (f (k * 12 + 10)) (f (k * 12 + 11)) _).mono ?_
      rintro e w2 ⟨rfl, h2⟩
      have hR := HR.out.ext h2
      have hX := HX.out.trans h2
      have d0 := hR.cell (i := k * 12) (by omega)
      have g0 := hR.frozen (k * 12)
      have d1 := hR.cell (i := k * 12 + 1) (by omega)
      have g1 := hR.frozen (k * 12 + 1)
      have d2 := hR.cell (i := k * 12 + 2) (by omega)
      have g2 := hR.frozen (k * 12 + 2)
      have d3 := hR.cell (i := k * 12 + 3) (by omega)
      have g3 := hR.frozen (k * 12 + 3)
      have d4 := hR.cell (i := k * 12 + 4) (by omega)
      have g4 := hR.frozen (k * 12 + 4)
      have d5 := hR.cell (i := k * 12 + 5) (by omega)
      have g5 := hR.frozen (k * 12 + 5)
      have d6 := hR.cell (i := k * 12 + 6) (by omega)
      have g6 := hR.frozen (k * 12 + 6)
      have d7 := hR.cell (i := k * 12 + 7) (by omega)
      have g7 := hR.frozen (k * 12 + 7)
      have d8 := hR.cell (i := k * 12 + 8) (by omega)
      have g8 := hR.frozen (k * 12 + 8)
      have d9 := hR.cell (i := k * 12 + 9) (by omega)
      have g9 := hR.frozen (k * 12 + 9)
      have d10 := hR.cell (i := k * 12 + 10) (by omega)
      have g10 := hR.frozen (k * 12 + 10)
      have d11 := hR.cell (i := k * 12 + 11) (by omega)
      have g11 := hR.frozen (k * 12 + 11)
      have HX2 := hid hX
      have HR2 := hid hR
      clear HX HR h2 hX hR
      go_wp2
      go_roundw
      case rel =>
        refine ⟨k + 1, by omega, by go_num, ?_, ?_⟩
        · have hX := HX2.out
          exact (by repeat (first | with_reducible assumption | with_reducible exact Ext.refl _ | with_reducible apply Ext.alloc | with_reducible apply Ext.drew | with_reducible apply Ext.drewN | (with_reducible refine Ext.setCell ?_ (by simp; omega) _) | (with_reducible refine Ext.setCell ?_ (by simp) _)))
        · rw [Nat.add_mul, Nat.one_mul]
          exact RowI.step (RowI.step (RowI.step (RowI.step (RowI.step (RowI.step (RowI.step (RowI.step (RowI.step (RowI.step (RowI.step (RowI.step (HR2.out) rfl rfl) rfl rfl) rfl rfl) rfl rfl) rfl rfl) rfl rfl) rfl rfl) rfl rfl) rfl rfl) rfl rfl) rfl rfl) rfl rfl
      case measure => simp [intOf]; omega
    · go_wp2
      go_ret
      obtain rfl : k = n := by omega
      exact ⟨_, rfl, hrow.full.flats (Nat.le_refl _) (by unfold maxLen; omega) (Nat.le_refl _) (fun i hi => (HU.cell i hi).1), hx⟩

set_option maxRecDepth 20000 in
set_option maxHeartbeats 1600000 in
theorem eqTransformS_same (lo hi lo' hi' : Nat) (u v : Value) (n : Nat) (f : Nat → Int) (w : World) (hu : Flats 12 lo hi w u n f) (hv : Flats 12 lo' hi' w v n f) (hh : hi ≤ w.heap.size) (hh' : hi' ≤ w.heap.size) :
    Calls Try.prog 14 #[u, v] w fun e w' => e = .returned (.bool true) ∧ Ext w w' := by
  obtain ⟨a, cap, rfl, HU⟩ := hu.open
  obtain ⟨a', cap', rfl, HV⟩ := hv.open
  clear hu hv
  have h1 := HU.le
  have h2 := HU.cap
  have h1' := HV.le
  have h2' := HV.cap
  go_enter Try.func14, Try.ntmps14
  go_wp2
  go_loopw [5] (fun i wr => ∃ k : Nat, k ≤ n ∧ i = .int .i64 k ∧ Ext w wr) (fun i _ => n - (intOf i).toNat)
  case atStart => exact ⟨0, by omega, rfl, (by repeat (with_reducible (first | assumption | exact Ext.refl _ | apply Ext.alloc | apply Ext.drew | apply Ext.drewN)))⟩
  case round =>
    obtain ⟨k, hk, rfl, hx⟩ := hrel
    by_cases hlt : k < n
    · obtain ⟨b, off, rfl, hb1, hb2, hc⟩ := HU.at hlt (by decide)
      obtain ⟨b', off', rfl, hb1', hb2', hc'⟩ := HV.at hlt (by decide)
      have c0 := (hx.cells.1 b _ (by omega)).trans (hc 0 (by decide))
      have d0 := (hx.cells.1 b' _ (by omega)).trans (hc' 0 (by decide))
      have c1 := (hx.cells.1 b _ (by omega)).trans (hc 1 (by decide))
      have d1 := (hx.cells.1 b' _ (by omega)).trans (hc' 1 (by decide))
      have c2 := (hx.cells.1 b _ (by omega)).trans (hc 2 (by decide))
      have d2 := (hx.cells.1 b' _ (by omega)).trans (hc' 2 (by decide))
      have c3 := (hx.cells.1 b _ (by omega)).trans (hc 3 (by decide))
      have d3 := (hx.cells.1 b' _ (by omega)).trans (hc' 3 (by decide))
      have c4 := (hx.cells.1 b _ (by omega)).trans (hc 4 (by decide))
      have d4 := (hx.cells.1 b' _ (by omega)).trans (hc' 4 (by decide))
      have c5 := (hx.cells.1 b _ (by omega)).trans (hc 5 (by decide))
      have d5 := (hx.cells.1 b' _ (by omega)).trans (hc' 5 (by decide))
      have c6 := (hx.cells.1 b _ (by omega)).trans (hc 6 (by decide))
      have d6 := (hx.cells.1 b' _ (by omega)).trans (hc' 6 (by decide))
      have c7 := (hx.cells.1 b _ (by omega)).trans (hc 7 (by decide))
      have d7 := (hx.cells.1 b' _ (by omega)).trans (hc' 7 (by decide))
      have c8 := (hx.cells.1 b _ (by omega)).trans (hc 8 (by decide))
      have d8 := (hx.cells.1 b' _ (by omega)).trans (hc' 8 (by decide))
      have c9 := (hx.cells.1 b _ (by omega)).trans (hc 9 (by decide))
      have d9 := (hx.cells.1 b' _ (by omega)).trans (hc' 9 (by decide))
      have c10 := (hx.cells.1 b _ (by omega)).trans (hc 10 (by decide))
      have d10 := (hx.cells.1 b' _ (by omega)).trans (hc' 10 (by decide))
      have c11 := (hx.cells.1 b _ (by omega)).trans (hc 11 (by decide))
      have d11 := (hx.cells.1 b' _ (by omega)).trans (hc' 11 (by decide))
      simp only [Nat.add_zero] at c0 d0
      have s1 : b < wr.heap.size := by have := hx.size; omega
      have s2 : b' < wr.heap.size := by have := hx.size; omega
      have HX := hid hx
      clear hc hc' hx
      go_wp2
      refine wp_region_ext (by kernel_rfl) (by kernel_rfl) ?_
      repeat (go_big_quiet_step ((go_at_call 46; exact grow_call (eqTransform_same (f (k * 12)) (f (k * 12 + 1)) (f (k * 12 + 2)) (f (k * 12 + 3)) (f (k * 12 + 4)) (f (k * 12 + 5)) (f (k * 12 + 6)) (f (k * 12 + 7)) (f (k * 12 + 8)) (f (k * 12 + 9)) (f (k * 12 + 10)) (f (k * 12 + 11)) _))))
      refine wpQuiet_nil ?_
      intro w1 h1
      have hX := HX.out.trans h1
      clear h1 HX
      go_wp2
      go_roundw
      case rel => exact ⟨k + 1, by omega, by go_num, hX⟩
      case measure => simp [intOf]; omega
    · go_wp2
      go_ret
      exact ⟨rfl, hx⟩

end Go.Proofs.Yteeclghkfcanlaa
