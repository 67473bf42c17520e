/- This text proves what the transforms of the reference are that the laws draw. -/
import Derived.Test.YtkcghoeklbcihaaGreatDoorXfT
import Derived.Test.YtkcghoeklbcihaaGreatDoorL04e
namespace Go.Proofs.YtkcghoeklbcihaaGreatDoor
open Go.RowKit

theorem aft_at (f g : Nat → Int) {i k : Nat} (hi : i < 3) (hk : k < 3) : aft f g (3 * i + k) = (f (3 * i) * g k + f (3 * i + 1) * g (3 + k) + f (3 * i + 2) * g (6 + k)).tdiv 16 := by
  have e1 : (3 * i + k) / 3 * 3 = 3 * i := by omega
  have e2 : (3 * i + k) % 3 = k := by omega
  unfold aft aftS aftS aftS aftS
  rw [e1, e2]
  simp

set_option maxRecDepth 20000 in
set_option maxHeartbeats 3200000 in
theorem sMul_any (f g : Nat → Int) (hf : mIn f) (hg : mIn g) (w : World) : Calls Tryz.prog 59 #[mV f, mV g] w fun e w' => e = .returned (mV (aft f g)) ∧ Ext w w' := by
  have HF := hid hf
  have HG := hid hg
  clear hf hg
  unfold mV
  go_enter Tryz.func59, Tryz.ntmps59
  go_wp2
  go_loopw [6] (fun i wr => ∃ n : Nat, n ≤ 3 ∧ i = .int .i64 n ∧ Ext w wr ∧ RowI wr w.heap.size 27 9 f ∧ RowI wr (w.heap.size + 1) 27 9 g ∧ RowI wr (w.heap.size + 1 + 1) 27 9 (fun _ => 0) ∧ RowI wr (w.heap.size + 1 + 1 + 1) 27 9 (fillI (aft f g) (3 * n))) (fun i _ => 3 - (intOf i).toNat)
  case atStart =>
    refine ⟨0, by omega, rfl, (by repeat (with_reducible (first | assumption | exact Ext.refl _ | apply Ext.alloc | apply Ext.drew | apply Ext.drewN))), ?_, ?_, ?_, ?_⟩
    · exact (((rowI9_new rfl).alloc _).alloc _).alloc _
    · exact ((rowI9_new (by simp)).alloc _).alloc _
    · exact (rowI9_new (f := fun _ => 0) (by simp)).alloc _
    · exact RowI.zero (rowI9_new (f := fun _ => 0) (by simp))
  case round =>
    obtain ⟨n, hn, rfl, hE, h1, h2, h3, h4⟩ := hrel
    by_cases hlt : n < 3
    · have HE := hid hE
      have H1 := hid h1
      have H2 := hid h2
      have H3 := hid h3
      have H4 := hid h4
      clear hE h1 h2 h3 h4
      go_wp2
      go_loopw [7] (fun k wr => ∃ m : Nat, m ≤ 3 ∧ k = .int .i64 m ∧ Ext w wr ∧ RowI wr w.heap.size 27 9 f ∧ RowI wr (w.heap.size + 1) 27 9 g ∧ RowI wr (w.heap.size + 1 + 1) 27 9 (fun _ => 0) ∧ RowI wr (w.heap.size + 1 + 1 + 1) 27 9 (fillI (aft f g) (3 * n + m))) (fun k _ => 3 - (intOf k).toNat)
      case atStart => exact ⟨0, by omega, rfl, HE.out, H1.out, H2.out, H3.out, H4.out⟩
      case round =>
        clear HE H1 H2 H3 H4
        obtain ⟨m, hm, rfl, hE, h1, h2, h3, h4⟩ := hrel
        by_cases hlt3 : m < 3
        · have a0 := h1.cell (i := 3 * n) (by omega)
          have a1 := h1.cell (i := 3 * n + 1) (by omega)
          have a2 := h1.cell (i := 3 * n + 2) (by omega)
          have b0 := h2.cell (i := m) (by omega)
          have b1 := h2.cell (i := 3 + m) (by omega)
          have b2 := h2.cell (i := 6 + m) (by omega)
          have c4 := h4.cell (i := 3 * n + m) (by omega)
          have f4 := h4.frozen (3 * n + m)
          have p0 := mul_range (HF.out (3 * n) (by omega)).1 (HF.out (3 * n) (by omega)).2 (HG.out m (by omega)).1 (HG.out m (by omega)).2
          have p1 := mul_range (HF.out (3 * n + 1) (by omega)).1 (HF.out (3 * n + 1) (by omega)).2 (HG.out (3 + m) (by omega)).1 (HG.out (3 + m) (by omega)).2
          have p2 := mul_range (HF.out (3 * n + 2) (by omega)).1 (HF.out (3 * n + 2) (by omega)).2 (HG.out (6 + m) (by omega)).1 (HG.out (6 + m) (by omega)).2
          have hat := aft_at f g hlt hlt3
          generalize f (3 * n) = x0 at a0 p0 hat
          generalize f (3 * n + 1) = x1 at a1 p1 hat
          generalize f (3 * n + 2) = x2 at a2 p2 hat
          generalize g m = y0 at b0 p0 hat
          generalize g (3 + m) = y1 at b1 p1 hat
          generalize g (6 + m) = y2 at b2 p2 hat
          obtain ⟨q0, e0⟩ : ∃ q, x0 * y0 = q := ⟨_, rfl⟩
          obtain ⟨q1, e1⟩ : ∃ q, x1 * y1 = q := ⟨_, rfl⟩
          obtain ⟨q2, e2⟩ : ∃ q, x2 * y2 = q := ⟨_, rfl⟩
          rw [e0] at p0 hat
          rw [e1] at p1 hat
          rw [e2] at p2 hat
          have HAT := hid hat
          have HE := hid hE
          have H1 := hid h1
          have H2 := hid h2
          have H3 := hid h3
          have H4 := hid h4
          have zl := h4.lt
          have z1 := h1.lt
          have z2 := h2.lt
          clear hE h1 h2 h3 h4 hat
          go_wp2
          refine wp_region_stages [([0, 1, 2, 3, 4, 5, 6, 7, 8, 9, 10, 11, 12, 13, 14, 15, 16, 17, 18, 19, 20, 21, 22, 23, 24, 25, 26, 27, 28, 29, 30, 31, 32, 33, 34, 35], 36)] 36 (w.heap.size + 4) (by kernel_rfl) (by kernel_rfl) ?_
          refine wpStages_cons ?_
          simp only [List.filterMap_cons, List.filterMap_nil, List.getElem?_toArray, List.getElem?_cons_zero, List.getElem?_cons_succ]
          show wpQuiet _ _ _ _ (_ :: _ :: _ :: _ :: _ :: _ :: _ :: _ :: _ :: _ :: _ :: _ :: _ :: _ :: _ :: _ :: _ :: _ :: _ :: _ :: _ :: _ :: _ :: _ :: _ :: _ :: _ :: _ :: _ :: _ :: _ :: _ :: _ :: _ :: _ :: _ :: []) _
          repeat (go_big_quiet_step (fail))
          refine wpQuiet_nil ⟨_, rfl, fun K hK => ?_⟩
          go_wp2
          refine hK _ _ (.inl (by trivial)) (wpStages_nil ?_)
          clear hK K
          go_wp2
          go_roundw
          case rel =>
            refine ⟨m + 1, by omega, by go_num, ?_, ?_, ?_, ?_, ?_⟩
            · exact (HE.out.drew).setCell (by simp; omega) _
            · exact (H1.out.ext ((Ext.refl _).drew)).other (by simp; omega) _
            · exact (H2.out.ext ((Ext.refl _).drew)).other (by simp) _
            · exact (H3.out.ext ((Ext.refl _).drew)).other (by simp) _
            · exact RowI.step (H4.out.ext ((Ext.refl _).drew)) rfl HAT.out.symm
          case measure => simp [intOf]; omega
        · obtain rfl : m = 3 := by omega
          go_wp2
          go_roundw
          case rel => exact ⟨n + 1, by omega, by go_num, hE, h1, h2, h3, h4⟩
          case measure => simp [intOf]; omega
    · obtain rfl : n = 3 := by omega
      have h4' := RowI.full (n := 9) h4
      have c0 := h4'.cell (i := 0) (by decide)
      have d0 := h3.cell (i := 0) (by decide)
      have e0 := h3.frozen 0
      have c1 := h4'.cell (i := 1) (by decide)
      have d1 := h3.cell (i := 1) (by decide)
      have e1 := h3.frozen 1
      have c2 := h4'.cell (i := 2) (by decide)
      have d2 := h3.cell (i := 2) (by decide)
      have e2 := h3.frozen 2
      have c3 := h4'.cell (i := 3) (by decide)
      have d3 := h3.cell (i := 3) (by decide)
      have e3 := h3.frozen 3
      have c4 := h4'.cell (i := 4) (by decide)
      have d4 := h3.cell (i := 4) (by decide)
      have e4 := h3.frozen 4
      have c5 := h4'.cell (i := 5) (by decide)
      have d5 := h3.cell (i := 5) (by decide)
      have e5 := h3.frozen 5
      have c6 := h4'.cell (i := 6) (by decide)
      have d6 := h3.cell (i := 6) (by decide)
      have e6 := h3.frozen 6
      have c7 := h4'.cell (i := 7) (by decide)
      have d7 := h3.cell (i := 7) (by decide)
      have e7 := h3.frozen 7
      have c8 := h4'.cell (i := 8) (by decide)
      have d8 := h3.cell (i := 8) (by decide)
      have e8 := h3.frozen 8
      have HE := hid hE
      clear h1 h2 h3 h4 h4' hE
      go_wp2
      refine bodyPost_ret (v := mV (aft f g)) (by unfold mV; simp [results, Tryz.results59, go_sem, *]) rfl ⟨rfl, ?_⟩
      have hE := HE.out
      exact (by repeat (first | with_reducible assumption | with_reducible exact Ext.refl _ | with_reducible apply Ext.alloc | with_reducible apply Ext.drew | with_reducible apply Ext.drewN | (with_reducible refine Ext.setCell ?_ (by simp; omega) _) | (with_reducible refine Ext.setCell ?_ (by simp) _)))

set_option maxRecDepth 20000 in
set_option maxHeartbeats 1600000 in
theorem sQuarterOf_any (a : Nat) (ha : a < 3) (w : World) : Calls Tryz.prog 60 #[.int .i64 a] w fun e w' => e = .returned (mV (tq a)) ∧ Ext w w' := by
  rcases (by omega : a = 0 ∨ a = 1 ∨ a = 2) with rfl | rfl | rfl
  all_goals
    go_enter Tryz.func60, Tryz.ntmps60
    go_wp2
  · refine bodyPost_ret (v := mV (tq 0)) (by simp [results, Tryz.results60, go_sem]; rfl) rfl ⟨rfl, ?_⟩
    exact (by repeat (first | with_reducible assumption | with_reducible exact Ext.refl _ | with_reducible apply Ext.alloc | with_reducible apply Ext.drew | with_reducible apply Ext.drewN | (with_reducible refine Ext.setCell ?_ (by simp; omega) _) | (with_reducible refine Ext.setCell ?_ (by simp) _)))
  · refine bodyPost_ret (v := mV (tq 1)) (by simp [results, Tryz.results60, go_sem]; rfl) rfl ⟨rfl, ?_⟩
    exact (by repeat (first | with_reducible assumption | with_reducible exact Ext.refl _ | with_reducible apply Ext.alloc | with_reducible apply Ext.drew | with_reducible apply Ext.drewN | (with_reducible refine Ext.setCell ?_ (by simp; omega) _) | (with_reducible refine Ext.setCell ?_ (by simp) _)))
  · refine bodyPost_ret (v := mV (tq 2)) (by simp [results, Tryz.results60, go_sem]; rfl) rfl ⟨rfl, ?_⟩
    exact (by repeat (first | with_reducible assumption | with_reducible exact Ext.refl _ | with_reducible apply Ext.alloc | with_reducible apply Ext.drew | with_reducible apply Ext.drewN | (with_reducible refine Ext.setCell ?_ (by simp; omega) _) | (with_reducible refine Ext.setCell ?_ (by simp) _)))
end Go.Proofs.YtkcghoeklbcihaaGreatDoor
