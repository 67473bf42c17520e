/- This text proves what the quarter turns of both sides are. -/
import Derived.Test.YtkcghoeklbcihaaGreatDoorXfQ
import Derived.Test.YtkcghoeklbcihaaGreatDoorBlk0
import Derived.Deep.LoopGhost
import Derived.Test.YtkcghoeklbcihaaGreatDoorFresh
namespace Go.Proofs.YtkcghoeklbcihaaGreatDoor
open Go.RowKit

def lst (l : List Int) (i : Nat) : Int := l.getD i 0
/-- one quarter turn about an axis -/
def tq (a : Nat) : Nat → Int := if a = 0 then lst [16, 0, 0, 0, 0, -16, 0, 16, 0] else if a = 1 then lst [0, 0, 16, 0, 16, 0, -16, 0, 0] else lst [0, -16, 0, 16, 0, 0, 0, 0, 16]
/-- several of them -/
def qm (a : Nat) : Nat → Nat → Int
  | 0 => lst [16, 0, 0, 0, 16, 0, 0, 0, 16]
  | j + 1 => aft (tq a) (qm a j)
theorem tq_in : ∀ a, a < 3 → ∀ i, i < 9 → -16 ≤ tq a i ∧ tq a i ≤ 16 := by decide +kernel
theorem qm_in : ∀ a, a < 3 → ∀ j, j < 4 → ∀ i, i < 9 → -16 ≤ qm a j i ∧ qm a j i ≤ 16 := by decide +kernel
theorem tq_mIn {a : Nat} (h : a < 3) : mIn (tq a) := fun i hi => by have := tq_in a h i hi; omega
theorem qm_mIn {a j : Nat} (h : a < 3) (hj : j < 4) : mIn (qm a j) := fun i hi => by have := qm_in a h j hj i hi; omega
/-- a transform's cells and value: a matrix and no offset -/
def mC (f : Nat → Int) : List Value := [.int .i64 (f 0), .int .i64 (f 1), .int .i64 (f 2), .int .i64 (f 3), .int .i64 (f 4), .int .i64 (f 5), .int .i64 (f 6), .int .i64 (f 7), .int .i64 (f 8), .int .i64 0, .int .i64 0, .int .i64 0]
def xV (f : Nat → Int) : Value := .agg #[.int .i64 (f 0), .int .i64 (f 1), .int .i64 (f 2), .int .i64 (f 3), .int .i64 (f 4), .int .i64 (f 5), .int .i64 (f 6), .int .i64 (f 7), .int .i64 (f 8), .int .i64 0, .int .i64 0, .int .i64 0]

set_option maxRecDepth 10000 in
set_option maxHeartbeats 800000 in
theorem iIdentity_val (w : World) : Calls Tryz.prog 14 #[] w fun e w' => e = .returned (.agg #[.int .i64 16, .int .i64 0, .int .i64 0, .int .i64 0, .int .i64 16, .int .i64 0, .int .i64 0, .int .i64 0, .int .i64 16, .int .i64 0, .int .i64 0, .int .i64 0]) ∧ Ext w w' := by
  go_enter Tryz.func14, Tryz.ntmps14
  go_wp2
  refine bodyPost_ret (v := .agg #[.int .i64 16, .int .i64 0, .int .i64 0, .int .i64 0, .int .i64 16, .int .i64 0, .int .i64 0, .int .i64 0, .int .i64 16, .int .i64 0, .int .i64 0, .int .i64 0]) (by simp [results, Tryz.results14, go_sem]) rfl ⟨rfl, ?_⟩
  exact (by repeat (first | with_reducible assumption | with_reducible exact Ext.refl _ | with_reducible apply Ext.alloc | with_reducible apply Ext.drew | with_reducible apply Ext.drewN | (with_reducible refine Ext.setCell ?_ (by simp; omega) _) | (with_reducible refine Ext.setCell ?_ (by simp) _)))
set_option maxRecDepth 10000 in
set_option maxHeartbeats 800000 in
theorem sIdentity_val (w : World) : Calls Tryz.prog 42 #[] w fun e w' => e = .returned (.agg #[.int .i64 16, .int .i64 0, .int .i64 0, .int .i64 0, .int .i64 16, .int .i64 0, .int .i64 0, .int .i64 0, .int .i64 16, .int .i64 0, .int .i64 0, .int .i64 0]) ∧ Ext w w' := by
  go_enter Tryz.func42, Tryz.ntmps42
  go_wp2
  refine bodyPost_ret (v := .agg #[.int .i64 16, .int .i64 0, .int .i64 0, .int .i64 0, .int .i64 16, .int .i64 0, .int .i64 0, .int .i64 0, .int .i64 16, .int .i64 0, .int .i64 0, .int .i64 0]) (by simp [results, Tryz.results42, go_sem]) rfl ⟨rfl, ?_⟩
  exact (by repeat (first | with_reducible assumption | with_reducible exact Ext.refl _ | with_reducible apply Ext.alloc | with_reducible apply Ext.drew | with_reducible apply Ext.drewN | (with_reducible refine Ext.setCell ?_ (by simp; omega) _) | (with_reducible refine Ext.setCell ?_ (by simp) _)))

set_option maxRecDepth 20000 in
set_option maxHeartbeats 3200000 in
theorem iQuarter_any (a k : Nat) (ha : a < 3) (hk : k < 4) (w : World) : Calls Tryz.prog 6 #[.int .i64 a, .int .i64 k] w fun e w' => e = .returned (xV (qm a k)) ∧ Ext w w' := by
  have hfm : fmod (k : Int) 4 = k := by unfold fmod; rw [if_neg (by omega)]; omega
  have HFM := hid hfm
  have hin : inB (a : Int) 0 2 = true := by rw [inB_iff]; omega
  have HIN := hid hin
  clear hfm hin
  have htab : ∀ j, j < 9 → (#[.int .i64 16, .int .i64 0, .int .i64 0, .int .i64 0, .int .i64 0, .int .i64 (-16), .int .i64 0, .int .i64 16, .int .i64 0, .int .i64 0, .int .i64 0, .int .i64 16, .int .i64 0, .int .i64 16, .int .i64 0, .int .i64 (-16), .int .i64 0, .int .i64 0, .int .i64 0, .int .i64 (-16), .int .i64 0, .int .i64 16, .int .i64 0, .int .i64 0, .int .i64 0, .int .i64 0, .int .i64 16] : Array Value)[a * 9 + j]? = some (.int .i64 (tq a j)) := by
    rcases (by omega : a = 0 ∨ a = 1 ∨ a = 2) with rfl | rfl | rfl <;> intro j hj <;> rcases nine hj with rfl | rfl | rfl | rfl | rfl | rfl | rfl | rfl | rfl <;> rfl
  have HTAB := hid htab
  clear htab
  go_enter Tryz.func6, Tryz.ntmps6
  go_upto_region 2 with (show wpList _ _ _ [_] _ _; refine wpList_store_fresh _ _ _ rfl 46 (.tmp 5) (.tmp 10) rfl rfl #[.int .i64 16, .int .i64 0, .int .i64 0, .int .i64 0, .int .i64 0, .int .i64 (-16), .int .i64 0, .int .i64 16, .int .i64 0, .int .i64 0, .int .i64 0, .int .i64 16, .int .i64 0, .int .i64 16, .int .i64 0, .int .i64 (-16), .int .i64 0, .int .i64 0, .int .i64 0, .int .i64 (-16), .int .i64 0, .int .i64 16, .int .i64 0, .int .i64 0, .int .i64 0, .int .i64 0, .int .i64 16] (w.heap.size + 1) (by simp) rfl rfl (by kernel_rfl) (by kernel_rfl) (by kernel_rfl) ?_)
  generalize htabv : (#[.int .i64 16, .int .i64 0, .int .i64 0, .int .i64 0, .int .i64 0, .int .i64 (-16), .int .i64 0, .int .i64 16, .int .i64 0, .int .i64 0, .int .i64 0, .int .i64 16, .int .i64 0, .int .i64 16, .int .i64 0, .int .i64 (-16), .int .i64 0, .int .i64 0, .int .i64 0, .int .i64 (-16), .int .i64 0, .int .i64 16, .int .i64 0, .int .i64 0, .int .i64 0, .int .i64 0, .int .i64 16] : Array Value) = tab at HTAB ⊢
  clear htabv
  have R1 : Blk ((w.alloc (.cells #[.int .i64 0, .int .i64 0, .int .i64 0, .int .i64 0, .int .i64 0, .int .i64 0, .int .i64 0, .int .i64 0, .int .i64 0, .int .i64 0, .int .i64 0, .int .i64 0] 29)).alloc (.cells tab 46)) w.heap.size 29 (mC fun _ => 0) := (Blk.new w _ (mC fun _ => 0)).ext ((Ext.refl _).alloc _)
  have T1 : ∀ j, j < 9 → ((w.alloc (.cells #[.int .i64 0, .int .i64 0, .int .i64 0, .int .i64 0, .int .i64 0, .int .i64 0, .int .i64 0, .int .i64 0, .int .i64 0, .int .i64 0, .int .i64 0, .int .i64 0] 29)).alloc (.cells tab 46)).cell? ⟨w.heap.size + 1, a * 9 + j, none⟩ = some (.int .i64 (tq a j)) := fun j hj => by
    rw [World.cell?_alloc_at _ _ _ _ (by simp)]
    exact HTAB.out j hj
  have E1 : Ext w ((w.alloc (.cells #[.int .i64 0, .int .i64 0, .int .i64 0, .int .i64 0, .int .i64 0, .int .i64 0, .int .i64 0, .int .i64 0, .int .i64 0, .int .i64 0, .int .i64 0, .int .i64 0] 29)).alloc (.cells tab 46)) := (by repeat (with_reducible (first | assumption | exact Ext.refl _ | apply Ext.alloc | apply Ext.drew | apply Ext.drewN)))
  have z1 : ((w.alloc (.cells #[.int .i64 0, .int .i64 0, .int .i64 0, .int .i64 0, .int .i64 0, .int .i64 0, .int .i64 0, .int .i64 0, .int .i64 0, .int .i64 0, .int .i64 0, .int .i64 0] 29)).alloc (.cells tab 46)).heap.size = w.heap.size + 2 := by simp
  generalize ((w.alloc (.cells #[.int .i64 0, .int .i64 0, .int .i64 0, .int .i64 0, .int .i64 0, .int .i64 0, .int .i64 0, .int .i64 0, .int .i64 0, .int .i64 0, .int .i64 0, .int .i64 0] 29)).alloc (.cells tab 46)) = w1 at R1 T1 E1 z1 ⊢
  go_wp2_with fail
  refine (iIdentity_val _).mono ?_
  rintro e w2 ⟨rfl, x2⟩
  have y2 : Ext w2 (w2.alloc (.cells (mC (qm a 0)).toArray 29)) := (by repeat (with_reducible (first | assumption | exact Ext.refl _ | apply Ext.alloc | apply Ext.drew | apply Ext.drewN)))
  have R2 := R1.ext (x2.trans y2)
  have T2 : ∀ j, j < 9 → (w2.alloc (.cells (mC (qm a 0)).toArray 29)).cell? ⟨w.heap.size + 1, a * 9 + j, none⟩ = some (.int .i64 (tq a j)) := fun j hj => ((x2.trans y2).cells.1 _ _ (by omega)).trans (T1 j hj)
  have E2 := E1.trans (x2.trans y2)
  have M2 := Blk.new w2 29 (mC (qm a 0))
  have z2 := x2.size
  go_upto_region 3 with fail
  change Code.wp _ _ _ _ (w2.alloc (.cells (mC (qm a 0)).toArray 29))
  obtain ⟨b2, hb2⟩ : ∃ b, w2.heap.size = b := ⟨_, rfl⟩
  rw [hb2] at M2 z2 ⊢
  generalize w2.alloc (.cells (mC (qm a 0)).toArray 29) = w3 at R2 T2 E2 M2 ⊢
  clear hb2 x2 y2 R1 T1 E1
  go_wp2_with (first | (go_at_call 18; refine (within_val HIN.out _).mono ?_; rintro e w2 ⟨rfl, rfl⟩) | (go_at_call 19; refine (floorMod_val (I64.mk (by omega) (by omega)) (I64.mk (by omega) (by omega)) HFM.out _).mono ?_; rintro e w2 ⟨rfl, rfl⟩))
  go_loopg [1] k (fun g p wr => p = .int .i64 g ∧ g ≤ k ∧ Ext w wr ∧ Blk wr w.heap.size 29 (mC fun _ => 0) ∧ (∀ j, j < 9 → wr.cell? ⟨w.heap.size + 1, a * 9 + j, none⟩ = some (.int .i64 (tq a j))) ∧ Blk wr b2 29 (mC (qm a (k - g))))
  case atStart => exact ⟨rfl, by omega, E2, R2, T2, by rw [Nat.sub_self]; exact M2⟩
  case round =>
    clear E2 R2 T2 M2
    obtain ⟨rfl, hg, hE, hR, hT, hM⟩ := hrel
    by_cases hlt : 0 < gk
    · have hq := qm_mIn (j := k - gk) ha (by omega)
      have hnext : k - (gk - 1) = (k - gk) + 1 := by omega
      have hqn : qm a (k - (gk - 1)) = aft (tq a) (qm a (k - gk)) := by rw [hnext]; rfl
      generalize qm a (k - gk) = q at hM hq hqn
      have HQ := hid hq
      have HQN := hid hqn
      have HR := hid hR
      have HT := hid hT
      have HE := hid hE
      have HM := hid hM
      have t0 := hT 0 (by decide)
      have m0 := hM.cell 0 rfl
      have t1 := hT 1 (by decide)
      have m1 := hM.cell 1 rfl
      have t2 := hT 2 (by decide)
      have m2 := hM.cell 2 rfl
      have t3 := hT 3 (by decide)
      have m3 := hM.cell 3 rfl
      have t4 := hT 4 (by decide)
      have m4 := hM.cell 4 rfl
      have t5 := hT 5 (by decide)
      have m5 := hM.cell 5 rfl
      have t6 := hT 6 (by decide)
      have m6 := hM.cell 6 rfl
      have t7 := hT 7 (by decide)
      have m7 := hM.cell 7 rfl
      have t8 := hT 8 (by decide)
      have m8 := hM.cell 8 rfl
      simp only [Nat.add_zero] at t0
      have ml := hM.lt
      have rl := hR.lt
      have tl : w.heap.size + 1 < wr.heap.size := by omega
      clear hR hT hE hM hq hqn hnext
      go_wp2
      refine wp_region_stages [([0, 1, 2, 3, 4], 5), ([6], 7)] 7 wr.heap.size (by kernel_rfl) (by kernel_rfl) ?_
      refine wpStages_cons ?_
      simp only [List.filterMap_cons, List.filterMap_nil, List.getElem?_toArray, List.getElem?_cons_zero, List.getElem?_cons_succ]
      show wpQuiet _ _ _ _ [_, _, _, _, _] _
      repeat (go_big_quiet_step (fail))
      refine wpQuiet_nil ⟨_, rfl, fun K hK => ?_⟩
      go_wp2_with fail
      refine (iAfter_any (tq a) q (tq_mIn ha) HQ.out _).mono ?_
      rintro e w4 ⟨rfl, x4⟩
      have X4 : Ext wr w4 := Ext.trans (by repeat (with_reducible (first | assumption | exact Ext.refl _ | apply Ext.alloc | apply Ext.drew | apply Ext.drewN))) x4
      rw [← HQN.out]
      have HR4 := hid (HR.out.ext X4)
      have HM4 := hid (HM.out.ext X4)
      have HE4 := hid (HE.out.trans X4)
      have HT4 := hid (fun j hj => (X4.cells.1 _ _ tl).trans (HT.out j hj) : ∀ j, j < 9 → w4.cell? ⟨w.heap.size + 1, a * 9 + j, none⟩ = some (.int .i64 (tq a j)))
      obtain ⟨q1, hq1⟩ : ∃ q, qm a (k - (gk - 1)) = q := ⟨_, rfl⟩
      rw [hq1]
      have HQ1 := hid hq1
      clear hq1
      have z4 := X4.size
      go_wp2_with fail
      refine hK _ _ (.inr (fun b _ hb => X4.block (by omega))) ?_
      clear hK K x4 X4
      have hM4 := HM4.out
      have m0 := hM4.cell 0 rfl
      have f0 := hM4.free 0
      have m1 := hM4.cell 1 rfl
      have f1 := hM4.free 1
      have m2 := hM4.cell 2 rfl
      have f2 := hM4.free 2
      have m3 := hM4.cell 3 rfl
      have f3 := hM4.free 3
      have m4 := hM4.cell 4 rfl
      have f4 := hM4.free 4
      have m5 := hM4.cell 5 rfl
      have f5 := hM4.free 5
      have m6 := hM4.cell 6 rfl
      have f6 := hM4.free 6
      have m7 := hM4.cell 7 rfl
      have f7 := hM4.free 7
      have m8 := hM4.cell 8 rfl
      have f8 := hM4.free 8
      have ml4 := hM4.lt
      clear hM4
      refine wpStages_cons ?_
      simp only [List.filterMap_cons, List.filterMap_nil, List.getElem?_toArray, List.getElem?_cons_zero, List.getElem?_cons_succ]
      show wpQuiet _ _ _ _ [_] _
      try simp only [Act.put, List.getElem_toArray, List.getElem_cons_succ, List.getElem_cons_zero, List.setIfInBounds_toArray, List.set_cons_succ, List.set_cons_zero]
      repeat (go_big_quiet_step (fail))
      refine wpQuiet_nil ⟨_, rfl, fun K hK => ?_⟩
      unfold mV
      go_wp2_with fail
      refine hK _ _ (.inl (by trivial)) (wpStages_nil ?_)
      clear hK K
      go_wp2
      go_roundg (gk - 1)
      case measure => omega
      case rel =>
        have hMx := (((((((((HM4.out.set 0 (.int .i64 (q1 0))).set 1 (.int .i64 (q1 1))).set 2 (.int .i64 (q1 2))).set 3 (.int .i64 (q1 3))).set 4 (.int .i64 (q1 4))).set 5 (.int .i64 (q1 5))).set 6 (.int .i64 (q1 6))).set 7 (.int .i64 (q1 7))).set 8 (.int .i64 (q1 8)))
        refine ⟨by go_num, by omega, ?_, ?_, ?_, ?_⟩
        · have hE := HE4.out
          exact (by repeat (first | with_reducible assumption | with_reducible exact Ext.refl _ | with_reducible apply Ext.alloc | with_reducible apply Ext.drew | with_reducible apply Ext.drewN | (with_reducible refine Ext.setCell ?_ (by simp; omega) _) | (with_reducible refine Ext.setCell ?_ (by simp) _)))
        · exact ((((((((HR4.out.other (by simp; omega) _).other (by simp; omega) _).other (by simp; omega) _).other (by simp; omega) _).other (by simp; omega) _).other (by simp; omega) _).other (by simp; omega) _).other (by simp; omega) _).other (by simp; omega) _
        · intro j hj
          iterate 9 (refine (World.cell?_setCell_far _ _ _ _ (by show b2 ≠ w.heap.size + 1; omega)).trans ?_)
          exact HT4.out j hj
        · rw [HQ1.out]
          exact hMx
    · have hgk : gk = 0 := by omega
      subst hgk
      have HE := hid hE
      have r0 := hR.cell 0 rfl
      have f0 := hR.free 0
      have m0 := hM.cell 0 rfl
      have r1 := hR.cell 1 rfl
      have f1 := hR.free 1
      have m1 := hM.cell 1 rfl
      have r2 := hR.cell 2 rfl
      have f2 := hR.free 2
      have m2 := hM.cell 2 rfl
      have r3 := hR.cell 3 rfl
      have f3 := hR.free 3
      have m3 := hM.cell 3 rfl
      have r4 := hR.cell 4 rfl
      have f4 := hR.free 4
      have m4 := hM.cell 4 rfl
      have r5 := hR.cell 5 rfl
      have f5 := hR.free 5
      have m5 := hM.cell 5 rfl
      have r6 := hR.cell 6 rfl
      have f6 := hR.free 6
      have m6 := hM.cell 6 rfl
      have r7 := hR.cell 7 rfl
      have f7 := hR.free 7
      have m7 := hM.cell 7 rfl
      have r8 := hR.cell 8 rfl
      have f8 := hR.free 8
      have m8 := hM.cell 8 rfl
      have r9 := hR.cell 9 rfl
      have f9 := hR.free 9
      have m9 := hM.cell 9 rfl
      have r10 := hR.cell 10 rfl
      have f10 := hR.free 10
      have m10 := hM.cell 10 rfl
      have r11 := hR.cell 11 rfl
      have f11 := hR.free 11
      have m11 := hM.cell 11 rfl
      have ml := hM.lt
      have rl := hR.lt
      rw [Nat.sub_zero] at *
      generalize hq : qm a k = q at *
      have HQ := hid hq
      clear hq hR hT hM hE
      go_wp2
      refine bodyPost_ret (v := xV q) (by unfold xV; simp [results, Tryz.results6, go_sem, *]) rfl ⟨by rw [HQ.out], ?_⟩
      have hE := HE.out
      exact (by repeat (first | with_reducible assumption | with_reducible exact Ext.refl _ | with_reducible apply Ext.alloc | with_reducible apply Ext.drew | with_reducible apply Ext.drewN | (with_reducible refine Ext.setCell ?_ (by simp; omega) _) | (with_reducible refine Ext.setCell ?_ (by simp) _)))
end Go.Proofs.YtkcghoeklbcihaaGreatDoor
