/- This text walks the law FnExactTransformPatch. -/
import Derived.Test.YteeclghkfcanlaaL05a
import Derived.Test.YteeclghkfcanlaaTr2
import Derived.Test.YteeclghkfcanlaaPlan
import Derived.Deep.Cut
import Derived.Deep.CutRange
namespace Go.Proofs.Yteeclghkfcanlaa
open Go.RowKit

theorem szTransformS_val {s : Int} {n : Nat} (hs : szRes 1048576 n = s) (lo hi : Nat) (u : Value) (f : Nat → Int) (w : World) (hu : Flats 12 lo hi w u n f) :
    Calls Try.prog 8 #[u, .int .i64 1048576] w fun e w' => e = .returned (.int .i64 s) ∧ Ext w w' :=
  (szTransformS_any lo hi u n f 1048576 w hu (by decide) (by decide)).mono fun _ _ ⟨he, hw⟩ => ⟨by rw [he, ← hs]; rfl, hw ▸ Ext.refl _⟩

set_option maxRecDepth 20000 in
set_option maxHeartbeats 8000000 in
theorem lawTransformPatch (v : Value) (n : Nat) (g f : Nat → Int) (W : World) (hv : Flats 12 0 W.heap.size W v n g) :
    Calls Try.prog 5 #[v, .agg #[.int .i64 (f 0), .int .i64 (f 1), .int .i64 (f 2), .int .i64 (f 3), .int .i64 (f 4), .int .i64 (f 5), .int .i64 (f 6), .int .i64 (f 7), .int .i64 (f 8), .int .i64 (f 9), .int .i64 (f 10), .int .i64 (f 11)]] W fun e w' => e = .returned (.bool true) ∧ Ext W w' := by
  obtain ⟨a, cap, rfl, HU⟩ := hv.open
  have HV := hid hv
  clear hv HU
  obtain ⟨q, hq⟩ := tPatch_ex g n f
  have HQ := hid hq
  clear hq
  by_cases hlen : n ≤ 1048576
  · have hs := hid (show szRes 1048576 n = 1048576 - n by unfold szRes; rw [if_neg (by omega)])
    go_enter Try.func5, Try.ntmps5
    go_wp2_with fail
    refine (szTransformS_val hs.out 0 W.heap.size _ g _ (HV.out.ext (Nat.le_refl _) (by repeat (with_reducible (first | assumption | exact Ext.refl _ | apply Ext.alloc | apply Ext.drew | apply Ext.drewN))))).mono ?_
    rintro e w1 ⟨rfl, x1⟩
    have P1 := (rowI12_new (w := W) (t := 52) (f := f) rfl).ext x1
    have E1 : Ext W w1 := Ext.trans (by repeat (with_reducible (first | assumption | exact Ext.refl _ | apply Ext.alloc | apply Ext.drew | apply Ext.drewN))) x1
    have hW := E1.size
    have p0 := P1.lt
    have pc0 := P1.cell (i := 0) (by decide)
    have pc1 := P1.cell (i := 1) (by decide)
    have pc2 := P1.cell (i := 2) (by decide)
    have pc3 := P1.cell (i := 3) (by decide)
    have pc4 := P1.cell (i := 4) (by decide)
    have pc5 := P1.cell (i := 5) (by decide)
    have pc6 := P1.cell (i := 6) (by decide)
    have pc7 := P1.cell (i := 7) (by decide)
    have pc8 := P1.cell (i := 8) (by decide)
    have pc9 := P1.cell (i := 9) (by decide)
    have pc10 := P1.cell (i := 10) (by decide)
    have pc11 := P1.cell (i := 11) (by decide)
    have HP1 := hid P1
    clear P1
    go_upto_region 5 with fail
    go_cut [6] from 14 to 19 (fun p wx => ∃ A, p = .pointer (some ⟨A, 0, none⟩) ∧ w1.heap.size ≤ A ∧ RowI wx A 55 12 q ∧ Ext W wx ∧ Ext w1 wx)
    case first =>
      refine wp_region_Z 6 w1.heap.size (by kernel_rfl) ?_
      refine wpZ_stage (fuel := 4) [0, 2] [1, 5] (by kernel_rfl) (fun b _ hb => rfl) ?_
      try simp only [Act.put, List.setIfInBounds_toArray, List.set_cons_succ, List.set_cons_zero]
      simp only [List.filterMap_cons, List.filterMap_nil, List.getElem?_toArray, List.getElem?_cons_zero, List.getElem?_cons_succ]
      show wpQuiet _ _ _ _ [_, _] _
      repeat (go_big_quiet_step (fail))
      refine wpQuiet_nil ?_
      intro e he
      simp only [List.mem_cons, List.not_mem_nil, or_false] at he
      rcases he with rfl | rfl
      · (unfold wpComes; simp only [List.getElem?_toArray, List.getElem?_cons_succ, List.getElem?_cons_zero, Option.some.injEq]; refine ⟨_, rfl, fun K hK => ?_⟩)
        go_wp2_with fail
        refine (toTransformS_any 0 W.heap.size _ n g _ (HV.out.ext (Nat.le_refl _) (Ext.drew E1)) (Ext.drew E1).size hlen).mono ?_
        rintro e a0 ⟨v0, rfl, o0, y0⟩
        have u0 : Ext w1 a0 := Ext.trans (by repeat (with_reducible (first | assumption | exact Ext.refl _ | apply Ext.alloc | apply Ext.drew | apply Ext.drewN))) y0
        obtain ⟨s0, t0, rfl, j0⟩ := o0.open
        clear o0
        have O0 := j0.shut
        clear j0
        go_wp2_with fail
        refine hK _ _ (.inr (fun b _ hb => Ext.block (w := w1) (by repeat (with_reducible (first | assumption | exact Ext.refl _ | apply Ext.alloc | apply Ext.drew | apply Ext.drewN))) (by omega))) ?_
        clear hK K
        refine wpZ_stage (fuel := 3) [] [3, 5] (by kernel_rfl) (fun b _ hb => Ext.block u0 (by omega)) ?_
        refine wpQuiet_nil ?_
        intro e he
        simp only [List.mem_cons, List.not_mem_nil, or_false] at he
        rcases he with rfl | rfl
        · (unfold wpComes; simp only [List.getElem?_toArray, List.getElem?_cons_succ, List.getElem?_cons_zero, Option.some.injEq]; refine ⟨_, rfl, fun K hK => ?_⟩)
          go_wp2_with fail
          refine (toPatch_val (f 0) (f 1) (f 2) (f 3) (f 4) (f 5) (f 6) (f 7) (f 8) (f 9) (f 10) (f 11) _).mono ?_
          rintro e a01 ⟨rfl, y01⟩
          have u01 : Ext w1 a01 := Ext.trans (by repeat (with_reducible (first | assumption | exact Ext.refl _ | apply Ext.alloc | apply Ext.drew | apply Ext.drewN))) y01
          have O01 := (O0.ext (Nat.le_refl _) y01).wide (Nat.le_refl _) y01.size
          go_wp2_with fail
          refine hK _ _ (.inr (fun b _ hb => Ext.block (w := w1) (by repeat (with_reducible (first | assumption | exact Ext.refl _ | apply Ext.alloc | apply Ext.drew | apply Ext.drewN))) (by omega))) ?_
          clear hK K
          refine wpZ_stage (fuel := 2) [] [4, 5] (by kernel_rfl) (fun b _ hb => Ext.block u01 (by omega)) ?_
          refine wpQuiet_nil ?_
          intro e he
          simp only [List.mem_cons, List.not_mem_nil, or_false] at he
          rcases he with rfl | rfl
          · (unfold wpComes; simp only [List.getElem?_toArray, List.getElem?_cons_succ, List.getElem?_cons_zero, Option.some.injEq]; refine ⟨_, rfl, fun K hK => ?_⟩)
            go_wp2_with fail
            refine (sTransformPatch_val _ _ _ n g f q HQ.out _ O01 (Nat.le_refl _)).mono ?_
            rintro e a012 ⟨rfl, y012⟩
            have u012 : Ext w1 a012 := Ext.trans (by repeat (with_reducible (first | assumption | exact Ext.refl _ | apply Ext.alloc | apply Ext.drew | apply Ext.drewN))) y012
            have O012 := (O01.ext (Nat.le_refl _) y012).wide (Nat.le_refl _) y012.size
            go_wp2_with fail
            refine hK _ _ (.inr (fun b _ hb => Ext.block (w := w1) (by repeat (with_reducible (first | assumption | exact Ext.refl _ | apply Ext.alloc | apply Ext.drew | apply Ext.drewN))) (by omega))) ?_
            clear hK K
            refine wpZ_stage (fuel := 1) [] [5] (by kernel_rfl) (fun b _ hb => Ext.block u012 (by omega)) ?_
            refine wpQuiet_nil ?_
            intro e he
            simp only [List.mem_cons, List.not_mem_nil, or_false] at he
            subst he
            (unfold wpComes; simp only [List.getElem?_toArray, List.getElem?_cons_succ, List.getElem?_cons_zero, Option.some.injEq]; refine ⟨_, rfl, fun K hK => ?_⟩)
            go_wp2
            have hA012A : w1.heap.size ≤ a012.heap.size := u012.size
            refine hK _ _ (.inr (fun b _ hb => Ext.block (w := w1) (by repeat (with_reducible (first | assumption | exact Ext.refl _ | apply Ext.alloc | apply Ext.drew | apply Ext.drewN))) (by omega))) ?_
            clear hK K
            obtain ⟨d012A, hd012A⟩ : ∃ d, d = a012.alloc (.cells #[.int .i64 0, .int .i64 0, .int .i64 0, .int .i64 0, .int .i64 0, .int .i64 0, .int .i64 0, .int .i64 0, .int .i64 0, .int .i64 0, .int .i64 0, .int .i64 0] 55) := ⟨_, rfl⟩
            rw [← hd012A]
            have u012A : Ext w1 d012A := by rw [hd012A]; exact (by repeat (with_reducible (first | assumption | exact Ext.refl _ | apply Ext.alloc | apply Ext.drew | apply Ext.drewN)))
            have b012A : RowI d012A a012.heap.size 55 12 (fun _ => 0) := hd012A ▸ rowI12_new (f := fun _ => 0) rfl
            have y012A : Ext a012 d012A := by rw [hd012A]; exact (by repeat (with_reducible (first | assumption | exact Ext.refl _ | apply Ext.alloc | apply Ext.drew | apply Ext.drewN)))
            have O012A := (O012.ext (Nat.le_refl _) y012A).wide (Nat.le_refl _) y012A.size
            clear hd012A
            refine wpZ_stage (fuel := 0) [] [6] (by kernel_rfl) (fun b _ hb => Ext.block u012A (by omega)) ?_
            refine wpQuiet_nil ?_
            intro e he
            simp only [List.mem_cons, List.not_mem_nil, or_false] at he
            subst he
            (unfold wpComes; simp only [List.getElem?_toArray, List.getElem?_cons_succ, List.getElem?_cons_zero, Option.some.injEq]; refine ⟨_, rfl, fun K hK => ?_⟩)
            have z0 := b012A.cell (i := 0) (by decide)
            have zf0 := b012A.frozen 0
            have z1 := b012A.cell (i := 1) (by decide)
            have zf1 := b012A.frozen 1
            have z2 := b012A.cell (i := 2) (by decide)
            have zf2 := b012A.frozen 2
            have z3 := b012A.cell (i := 3) (by decide)
            have zf3 := b012A.frozen 3
            have z4 := b012A.cell (i := 4) (by decide)
            have zf4 := b012A.frozen 4
            have z5 := b012A.cell (i := 5) (by decide)
            have zf5 := b012A.frozen 5
            have z6 := b012A.cell (i := 6) (by decide)
            have zf6 := b012A.frozen 6
            have z7 := b012A.cell (i := 7) (by decide)
            have zf7 := b012A.frozen 7
            have z8 := b012A.cell (i := 8) (by decide)
            have zf8 := b012A.frozen 8
            have z9 := b012A.cell (i := 9) (by decide)
            have zf9 := b012A.frozen 9
            have z10 := b012A.cell (i := 10) (by decide)
            have zf10 := b012A.frozen 10
            have z11 := b012A.cell (i := 11) (by decide)
            have zf11 := b012A.frozen 11
            go_wp2
            refine hK _ _ (.inl (by trivial)) ?_
            clear hK K
            refine wpZ_end (by kernel_rfl) ?_
            go_wp2_with fail
            go_meet
            have hlt := hA012A
            have hE := Ext.setCell (Ext.setCell (Ext.setCell (Ext.setCell (Ext.setCell (Ext.setCell (Ext.setCell (Ext.setCell (Ext.setCell (Ext.setCell (Ext.setCell (Ext.setCell (u012A) (p := ⟨a012.heap.size, 0, none⟩) hlt (.int .i64 (q 0))) (p := ⟨a012.heap.size, 1, none⟩) hlt (.int .i64 (q 1))) (p := ⟨a012.heap.size, 2, none⟩) hlt (.int .i64 (q 2))) (p := ⟨a012.heap.size, 3, none⟩) hlt (.int .i64 (q 3))) (p := ⟨a012.heap.size, 4, none⟩) hlt (.int .i64 (q 4))) (p := ⟨a012.heap.size, 5, none⟩) hlt (.int .i64 (q 5))) (p := ⟨a012.heap.size, 6, none⟩) hlt (.int .i64 (q 6))) (p := ⟨a012.heap.size, 7, none⟩) hlt (.int .i64 (q 7))) (p := ⟨a012.heap.size, 8, none⟩) hlt (.int .i64 (q 8))) (p := ⟨a012.heap.size, 9, none⟩) hlt (.int .i64 (q 9))) (p := ⟨a012.heap.size, 10, none⟩) hlt (.int .i64 (q 10))) (p := ⟨a012.heap.size, 11, none⟩) hlt (.int .i64 (q 11))
            exact ⟨a012.heap.size, rfl, hlt, RowI.full (RowI.step (f := q) (c := 11) (RowI.step (f := q) (c := 10) (RowI.step (f := q) (c := 9) (RowI.step (f := q) (c := 8) (RowI.step (f := q) (c := 7) (RowI.step (f := q) (c := 6) (RowI.step (f := q) (c := 5) (RowI.step (f := q) (c := 4) (RowI.step (f := q) (c := 3) (RowI.step (f := q) (c := 2) (RowI.step (f := q) (c := 1) (RowI.step (f := q) (c := 0) (RowI.zero b012A) rfl rfl) rfl rfl) rfl rfl) rfl rfl) rfl rfl) rfl rfl) rfl rfl) rfl rfl) rfl rfl) rfl rfl) rfl rfl) rfl rfl), E1.trans hE, hE⟩
          · (unfold wpComes; simp only [List.getElem?_toArray, List.getElem?_cons_succ, List.getElem?_cons_zero, Option.some.injEq]; refine ⟨_, rfl, fun K hK => ?_⟩)
            go_wp2
            have hA01A : w1.heap.size ≤ a01.heap.size := u01.size
            refine hK _ _ (.inr (fun b _ hb => Ext.block (w := w1) (by repeat (with_reducible (first | assumption | exact Ext.refl _ | apply Ext.alloc | apply Ext.drew | apply Ext.drewN))) (by omega))) ?_
            clear hK K
            obtain ⟨d01A, hd01A⟩ : ∃ d, d = a01.alloc (.cells #[.int .i64 0, .int .i64 0, .int .i64 0, .int .i64 0, .int .i64 0, .int .i64 0, .int .i64 0, .int .i64 0, .int .i64 0, .int .i64 0, .int .i64 0, .int .i64 0] 55) := ⟨_, rfl⟩
            rw [← hd01A]
            have u01A : Ext w1 d01A := by rw [hd01A]; exact (by repeat (with_reducible (first | assumption | exact Ext.refl _ | apply Ext.alloc | apply Ext.drew | apply Ext.drewN)))
            have b01A : RowI d01A a01.heap.size 55 12 (fun _ => 0) := hd01A ▸ rowI12_new (f := fun _ => 0) rfl
            have y01A : Ext a01 d01A := by rw [hd01A]; exact (by repeat (with_reducible (first | assumption | exact Ext.refl _ | apply Ext.alloc | apply Ext.drew | apply Ext.drewN)))
            have O01A := (O01.ext (Nat.le_refl _) y01A).wide (Nat.le_refl _) y01A.size
            clear hd01A
            refine wpZ_stage (fuel := 1) [] [4] (by kernel_rfl) (fun b _ hb => Ext.block u01A (by omega)) ?_
            refine wpQuiet_nil ?_
            intro e he
            simp only [List.mem_cons, List.not_mem_nil, or_false] at he
            subst he
            (unfold wpComes; simp only [List.getElem?_toArray, List.getElem?_cons_succ, List.getElem?_cons_zero, Option.some.injEq]; refine ⟨_, rfl, fun K hK => ?_⟩)
            go_wp2_with fail
            refine (sTransformPatch_val _ _ _ n g f q HQ.out _ O01A (Nat.le_refl _)).mono ?_
            rintro e a01A2 ⟨rfl, y01A2⟩
            have u01A2 : Ext w1 a01A2 := Ext.trans (by repeat (with_reducible (first | assumption | exact Ext.refl _ | apply Ext.alloc | apply Ext.drew | apply Ext.drewN))) y01A2
            have b01A2 := b01A.ext y01A2
            have O01A2 := (O01A.ext (Nat.le_refl _) y01A2).wide (Nat.le_refl _) y01A2.size
            go_wp2_with fail
            refine hK _ _ (.inr (fun b _ hb => Ext.block (w := w1) (by repeat (with_reducible (first | assumption | exact Ext.refl _ | apply Ext.alloc | apply Ext.drew | apply Ext.drewN))) (by omega))) ?_
            clear hK K
            refine wpZ_stage (fuel := 0) [] [6] (by kernel_rfl) (fun b _ hb => Ext.block u01A2 (by omega)) ?_
            refine wpQuiet_nil ?_
            intro e he
            simp only [List.mem_cons, List.not_mem_nil, or_false] at he
            subst he
            (unfold wpComes; simp only [List.getElem?_toArray, List.getElem?_cons_succ, List.getElem?_cons_zero, Option.some.injEq]; refine ⟨_, rfl, fun K hK => ?_⟩)
            have z0 := b01A2.cell (i := 0) (by decide)
            have zf0 := b01A2.frozen 0
            have z1 := b01A2.cell (i := 1) (by decide)
            have zf1 := b01A2.frozen 1
            have z2 := b01A2.cell (i := 2) (by decide)
            have zf2 := b01A2.frozen 2
            have z3 := b01A2.cell (i := 3) (by decide)
            have zf3 := b01A2.frozen 3
            have z4 := b01A2.cell (i := 4) (by decide)
            have zf4 := b01A2.frozen 4
            have z5 := b01A2.cell (i := 5) (by decide)
            have zf5 := b01A2.frozen 5
            have z6 := b01A2.cell (i := 6) (by decide)
            have zf6 := b01A2.frozen 6
            have z7 := b01A2.cell (i := 7) (by decide)
            have zf7 := b01A2.frozen 7
            have z8 := b01A2.cell (i := 8) (by decide)
            have zf8 := b01A2.frozen 8
            have z9 := b01A2.cell (i := 9) (by decide)
            have zf9 := b01A2.frozen 9
            have z10 := b01A2.cell (i := 10) (by decide)
            have zf10 := b01A2.frozen 10
            have z11 := b01A2.cell (i := 11) (by decide)
            have zf11 := b01A2.frozen 11
            go_wp2
            refine hK _ _ (.inl (by trivial)) ?_
            clear hK K
            refine wpZ_end (by kernel_rfl) ?_
            go_wp2_with fail
            go_meet
            have hlt := hA01A
            have hE := Ext.setCell (Ext.setCell (Ext.setCell (Ext.setCell (Ext.setCell (Ext.setCell (Ext.setCell (Ext.setCell (Ext.setCell (Ext.setCell (Ext.setCell (Ext.setCell (u01A2) (p := ⟨a01.heap.size, 0, none⟩) hlt (.int .i64 (q 0))) (p := ⟨a01.heap.size, 1, none⟩) hlt (.int .i64 (q 1))) (p := ⟨a01.heap.size, 2, none⟩) hlt (.int .i64 (q 2))) (p := ⟨a01.heap.size, 3, none⟩) hlt (.int .i64 (q 3))) (p := ⟨a01.heap.size, 4, none⟩) hlt (.int .i64 (q 4))) (p := ⟨a01.heap.size, 5, none⟩) hlt (.int .i64 (q 5))) (p := ⟨a01.heap.size, 6, none⟩) hlt (.int .i64 (q 6))) (p := ⟨a01.heap.size, 7, none⟩) hlt (.int .i64 (q 7))) (p := ⟨a01.heap.size, 8, none⟩) hlt (.int .i64 (q 8))) (p := ⟨a01.heap.size, 9, none⟩) hlt (.int .i64 (q 9))) (p := ⟨a01.heap.size, 10, none⟩) hlt (.int .i64 (q 10))) (p := ⟨a01.heap.size, 11, none⟩) hlt (.int .i64 (q 11))
            exact ⟨a01.heap.size, rfl, hlt, RowI.full (RowI.step (f := q) (c := 11) (RowI.step (f := q) (c := 10) (RowI.step (f := q) (c := 9) (RowI.step (f := q) (c := 8) (RowI.step (f := q) (c := 7) (RowI.step (f := q) (c := 6) (RowI.step (f := q) (c := 5) (RowI.step (f := q) (c := 4) (RowI.step (f := q) (c := 3) (RowI.step (f := q) (c := 2) (RowI.step (f := q) (c := 1) (RowI.step (f := q) (c := 0) (RowI.zero b01A2) rfl rfl) rfl rfl) rfl rfl) rfl rfl) rfl rfl) rfl rfl) rfl rfl) rfl rfl) rfl rfl) rfl rfl) rfl rfl) rfl rfl), E1.trans hE, hE⟩
        · (unfold wpComes; simp only [List.getElem?_toArray, List.getElem?_cons_succ, List.getElem?_cons_zero, Option.some.injEq]; refine ⟨_, rfl, fun K hK => ?_⟩)
          go_wp2
          have hA0A : w1.heap.size ≤ a0.heap.size := u0.size
          refine hK _ _ (.inr (fun b _ hb => Ext.block (w := w1) (by repeat (with_reducible (first | assumption | exact Ext.refl _ | apply Ext.alloc | apply Ext.drew | apply Ext.drewN))) (by omega))) ?_
          clear hK K
          obtain ⟨d0A, hd0A⟩ : ∃ d, d = a0.alloc (.cells #[.int .i64 0, .int .i64 0, .int .i64 0, .int .i64 0, .int .i64 0, .int .i64 0, .int .i64 0, .int .i64 0, .int .i64 0, .int .i64 0, .int .i64 0, .int .i64 0] 55) := ⟨_, rfl⟩
          rw [← hd0A]
          have u0A : Ext w1 d0A := by rw [hd0A]; exact (by repeat (with_reducible (first | assumption | exact Ext.refl _ | apply Ext.alloc | apply Ext.drew | apply Ext.drewN)))
          have b0A : RowI d0A a0.heap.size 55 12 (fun _ => 0) := hd0A ▸ rowI12_new (f := fun _ => 0) rfl
          have y0A : Ext a0 d0A := by rw [hd0A]; exact (by repeat (with_reducible (first | assumption | exact Ext.refl _ | apply Ext.alloc | apply Ext.drew | apply Ext.drewN)))
          have O0A := (O0.ext (Nat.le_refl _) y0A).wide (Nat.le_refl _) y0A.size
          clear hd0A
          refine wpZ_stage (fuel := 2) [] [3] (by kernel_rfl) (fun b _ hb => Ext.block u0A (by omega)) ?_
          refine wpQuiet_nil ?_
          intro e he
          simp only [List.mem_cons, List.not_mem_nil, or_false] at he
          subst he
          (unfold wpComes; simp only [List.getElem?_toArray, List.getElem?_cons_succ, List.getElem?_cons_zero, Option.some.injEq]; refine ⟨_, rfl, fun K hK => ?_⟩)
          go_wp2_with fail
          refine (toPatch_val (f 0) (f 1) (f 2) (f 3) (f 4) (f 5) (f 6) (f 7) (f 8) (f 9) (f 10) (f 11) _).mono ?_
          rintro e a0A1 ⟨rfl, y0A1⟩
          have u0A1 : Ext w1 a0A1 := Ext.trans (by repeat (with_reducible (first | assumption | exact Ext.refl _ | apply Ext.alloc | apply Ext.drew | apply Ext.drewN))) y0A1
          have b0A1 := b0A.ext y0A1
          have O0A1 := (O0A.ext (Nat.le_refl _) y0A1).wide (Nat.le_refl _) y0A1.size
          go_wp2_with fail
          refine hK _ _ (.inr (fun b _ hb => Ext.block (w := w1) (by repeat (with_reducible (first | assumption | exact Ext.refl _ | apply Ext.alloc | apply Ext.drew | apply Ext.drewN))) (by omega))) ?_
          clear hK K
          refine wpZ_stage (fuel := 1) [] [4] (by kernel_rfl) (fun b _ hb => Ext.block u0A1 (by omega)) ?_
          refine wpQuiet_nil ?_
          intro e he
          simp only [List.mem_cons, List.not_mem_nil, or_false] at he
          subst he
          (unfold wpComes; simp only [List.getElem?_toArray, List.getElem?_cons_succ, List.getElem?_cons_zero, Option.some.injEq]; refine ⟨_, rfl, fun K hK => ?_⟩)
          go_wp2_with fail
          refine (sTransformPatch_val _ _ _ n g f q HQ.out _ O0A1 (Nat.le_refl _)).mono ?_
          rintro e a0A12 ⟨rfl, y0A12⟩
          have u0A12 : Ext w1 a0A12 := Ext.trans (by repeat (with_reducible (first | assumption | exact Ext.refl _ | apply Ext.alloc | apply Ext.drew | apply Ext.drewN))) y0A12
          have b0A12 := b0A1.ext y0A12
          have O0A12 := (O0A1.ext (Nat.le_refl _) y0A12).wide (Nat.le_refl _) y0A12.size
          go_wp2_with fail
          refine hK _ _ (.inr (fun b _ hb => Ext.block (w := w1) (by repeat (with_reducible (first | assumption | exact Ext.refl _ | apply Ext.alloc | apply Ext.drew | apply Ext.drewN))) (by omega))) ?_
          clear hK K
          refine wpZ_stage (fuel := 0) [] [6] (by kernel_rfl) (fun b _ hb => Ext.block u0A12 (by omega)) ?_
          refine wpQuiet_nil ?_
          intro e he
          simp only [List.mem_cons, List.not_mem_nil, or_false] at he
          subst he
          (unfold wpComes; simp only [List.getElem?_toArray, List.getElem?_cons_succ, List.getElem?_cons_zero, Option.some.injEq]; refine ⟨_, rfl, fun K hK => ?_⟩)
          have z0 := b0A12.cell (i := 0) (by decide)
          have zf0 := b0A12.frozen 0
          have z1 := b0A12.cell (i := 1) (by decide)
          have zf1 := b0A12.frozen 1
          have z2 := b0A12.cell (i := 2) (by decide)
          have zf2 := b0A12.frozen 2
          have z3 := b0A12.cell (i := 3) (by decide)
          have zf3 := b0A12.frozen 3
          have z4 := b0A12.cell (i := 4) (by decide)
          have zf4 := b0A12.frozen 4
          have z5 := b0A12.cell (i := 5) (by decide)
          have zf5 := b0A12.frozen 5
          have z6 := b0A12.cell (i := 6) (by decide)
          have zf6 := b0A12.frozen 6
          have z7 := b0A12.cell (i := 7) (by decide)
          have zf7 := b0A12.frozen 7
          have z8 := b0A12.cell (i := 8) (by decide)
          have zf8 := b0A12.frozen 8
          have z9 := b0A12.cell (i := 9) (by decide)
          have zf9 := b0A12.frozen 9
          have z10 := b0A12.cell (i := 10) (by decide)
          have zf10 := b0A12.frozen 10
          have z11 := b0A12.cell (i := 11) (by decide)
          have zf11 := b0A12.frozen 11
          go_wp2
          refine hK _ _ (.inl (by trivial)) ?_
          clear hK K
          refine wpZ_end (by kernel_rfl) ?_
          go_wp2_with fail
          go_meet
          have hlt := hA0A
          have hE := Ext.setCell (Ext.setCell (Ext.setCell (Ext.setCell (Ext.setCell (Ext.setCell (Ext.setCell (Ext.setCell (Ext.setCell (Ext.setCell (Ext.setCell (Ext.setCell (u0A12) (p := ⟨a0.heap.size, 0, none⟩) hlt (.int .i64 (q 0))) (p := ⟨a0.heap.size, 1, none⟩) hlt (.int .i64 (q 1))) (p := ⟨a0.heap.size, 2, none⟩) hlt (.int .i64 (q 2))) (p := ⟨a0.heap.size, 3, none⟩) hlt (.int .i64 (q 3))) (p := ⟨a0.heap.size, 4, none⟩) hlt (.int .i64 (q 4))) (p := ⟨a0.heap.size, 5, none⟩) hlt (.int .i64 (q 5))) (p := ⟨a0.heap.size, 6, none⟩) hlt (.int .i64 (q 6))) (p := ⟨a0.heap.size, 7, none⟩) hlt (.int .i64 (q 7))) (p := ⟨a0.heap.size, 8, none⟩) hlt (.int .i64 (q 8))) (p := ⟨a0.heap.size, 9, none⟩) hlt (.int .i64 (q 9))) (p := ⟨a0.heap.size, 10, none⟩) hlt (.int .i64 (q 10))) (p := ⟨a0.heap.size, 11, none⟩) hlt (.int .i64 (q 11))
          exact ⟨a0.heap.size, rfl, hlt, RowI.full (RowI.step (f := q) (c := 11) (RowI.step (f := q) (c := 10) (RowI.step (f := q) (c := 9) (RowI.step (f := q) (c := 8) (RowI.step (f := q) (c := 7) (RowI.step (f := q) (c := 6) (RowI.step (f := q) (c := 5) (RowI.step (f := q) (c := 4) (RowI.step (f := q) (c := 3) (RowI.step (f := q) (c := 2) (RowI.step (f := q) (c := 1) (RowI.step (f := q) (c := 0) (RowI.zero b0A12) rfl rfl) rfl rfl) rfl rfl) rfl rfl) rfl rfl) rfl rfl) rfl rfl) rfl rfl) rfl rfl) rfl rfl) rfl rfl) rfl rfl), E1.trans hE, hE⟩
      · (unfold wpComes; simp only [List.getElem?_toArray, List.getElem?_cons_succ, List.getElem?_cons_zero, Option.some.injEq]; refine ⟨_, rfl, fun K hK => ?_⟩)
        go_wp2
        have hAA : w1.heap.size ≤ w1.heap.size := Nat.le_refl _
        refine hK _ _ (.inr (fun b _ hb => Ext.block (w := w1) (by repeat (with_reducible (first | assumption | exact Ext.refl _ | apply Ext.alloc | apply Ext.drew | apply Ext.drewN))) (by omega))) ?_
        clear hK K
        obtain ⟨dA, hdA⟩ : ∃ d, d = (w1.alloc (.cells #[.int .i64 0, .int .i64 0, .int .i64 0, .int .i64 0, .int .i64 0, .int .i64 0, .int .i64 0, .int .i64 0, .int .i64 0, .int .i64 0, .int .i64 0, .int .i64 0] 55)).drew := ⟨_, rfl⟩
        rw [← hdA]
        have uA : Ext w1 dA := by rw [hdA]; exact (by repeat (with_reducible (first | assumption | exact Ext.refl _ | apply Ext.alloc | apply Ext.drew | apply Ext.drewN)))
        have bA : RowI dA w1.heap.size 55 12 (fun _ => 0) := hdA ▸ (rowI12_new (f := fun _ => 0) rfl).ext (Ext.drew (Ext.refl _))
        clear hdA
        refine wpZ_stage (fuel := 3) [] [1] (by kernel_rfl) (fun b _ hb => Ext.block uA (by omega)) ?_
        refine wpQuiet_nil ?_
        intro e he
        simp only [List.mem_cons, List.not_mem_nil, or_false] at he
        subst he
        (unfold wpComes; simp only [List.getElem?_toArray, List.getElem?_cons_succ, List.getElem?_cons_zero, Option.some.injEq]; refine ⟨_, rfl, fun K hK => ?_⟩)
        go_wp2_with fail
        refine (toTransformS_any 0 W.heap.size _ n g _ (HV.out.ext (Nat.le_refl _) (E1.trans uA)) (E1.trans uA).size hlen).mono ?_
        rintro e aA0 ⟨vA0, rfl, oA0, yA0⟩
        have uA0 : Ext w1 aA0 := Ext.trans (by repeat (with_reducible (first | assumption | exact Ext.refl _ | apply Ext.alloc | apply Ext.drew | apply Ext.drewN))) yA0
        have bA0 := bA.ext yA0
        obtain ⟨sA0, tA0, rfl, jA0⟩ := oA0.open
        clear oA0
        have OA0 := jA0.shut
        clear jA0
        go_wp2_with fail
        refine hK _ _ (.inr (fun b _ hb => Ext.block (w := w1) (by repeat (with_reducible (first | assumption | exact Ext.refl _ | apply Ext.alloc | apply Ext.drew | apply Ext.drewN))) (by omega))) ?_
        clear hK K
        refine wpZ_stage (fuel := 2) [] [3] (by kernel_rfl) (fun b _ hb => Ext.block uA0 (by omega)) ?_
        refine wpQuiet_nil ?_
        intro e he
        simp only [List.mem_cons, List.not_mem_nil, or_false] at he
        subst he
        (unfold wpComes; simp only [List.getElem?_toArray, List.getElem?_cons_succ, List.getElem?_cons_zero, Option.some.injEq]; refine ⟨_, rfl, fun K hK => ?_⟩)
        go_wp2_with fail
        refine (toPatch_val (f 0) (f 1) (f 2) (f 3) (f 4) (f 5) (f 6) (f 7) (f 8) (f 9) (f 10) (f 11) _).mono ?_
        rintro e aA01 ⟨rfl, yA01⟩
        have uA01 : Ext w1 aA01 := Ext.trans (by repeat (with_reducible (first | assumption | exact Ext.refl _ | apply Ext.alloc | apply Ext.drew | apply Ext.drewN))) yA01
        have bA01 := bA0.ext yA01
        have OA01 := (OA0.ext (Nat.le_refl _) yA01).wide (Nat.le_refl _) yA01.size
        go_wp2_with fail
        refine hK _ _ (.inr (fun b _ hb => Ext.block (w := w1) (by repeat (with_reducible (first | assumption | exact Ext.refl _ | apply Ext.alloc | apply Ext.drew | apply Ext.drewN))) (by omega))) ?_
        clear hK K
        refine wpZ_stage (fuel := 1) [] [4] (by kernel_rfl) (fun b _ hb => Ext.block uA01 (by omega)) ?_
        refine wpQuiet_nil ?_
        intro e he
        simp only [List.mem_cons, List.not_mem_nil, or_false] at he
        subst he
        (unfold wpComes; simp only [List.getElem?_toArray, List.getElem?_cons_succ, List.getElem?_cons_zero, Option.some.injEq]; refine ⟨_, rfl, fun K hK => ?_⟩)
        go_wp2_with fail
        refine (sTransformPatch_val _ _ _ n g f q HQ.out _ OA01 (Nat.le_refl _)).mono ?_
        rintro e aA012 ⟨rfl, yA012⟩
        have uA012 : Ext w1 aA012 := Ext.trans (by repeat (with_reducible (first | assumption | exact Ext.refl _ | apply Ext.alloc | apply Ext.drew | apply Ext.drewN))) yA012
        have bA012 := bA01.ext yA012
        have OA012 := (OA01.ext (Nat.le_refl _) yA012).wide (Nat.le_refl _) yA012.size
        go_wp2_with fail
        refine hK _ _ (.inr (fun b _ hb => Ext.block (w := w1) (by repeat (with_reducible (first | assumption | exact Ext.refl _ | apply Ext.alloc | apply Ext.drew | apply Ext.drewN))) (by omega))) ?_
        clear hK K
        refine wpZ_stage (fuel := 0) [] [6] (by kernel_rfl) (fun b _ hb => Ext.block uA012 (by omega)) ?_
        refine wpQuiet_nil ?_
        intro e he
        simp only [List.mem_cons, List.not_mem_nil, or_false] at he
        subst he
        (unfold wpComes; simp only [List.getElem?_toArray, List.getElem?_cons_succ, List.getElem?_cons_zero, Option.some.injEq]; refine ⟨_, rfl, fun K hK => ?_⟩)
        have z0 := bA012.cell (i := 0) (by decide)
        have zf0 := bA012.frozen 0
        have z1 := bA012.cell (i := 1) (by decide)
        have zf1 := bA012.frozen 1
        have z2 := bA012.cell (i := 2) (by decide)
        have zf2 := bA012.frozen 2
        have z3 := bA012.cell (i := 3) (by decide)
        have zf3 := bA012.frozen 3
        have z4 := bA012.cell (i := 4) (by decide)
        have zf4 := bA012.frozen 4
        have z5 := bA012.cell (i := 5) (by decide)
        have zf5 := bA012.frozen 5
        have z6 := bA012.cell (i := 6) (by decide)
        have zf6 := bA012.frozen 6
        have z7 := bA012.cell (i := 7) (by decide)
        have zf7 := bA012.frozen 7
        have z8 := bA012.cell (i := 8) (by decide)
        have zf8 := bA012.frozen 8
        have z9 := bA012.cell (i := 9) (by decide)
        have zf9 := bA012.frozen 9
        have z10 := bA012.cell (i := 10) (by decide)
        have zf10 := bA012.frozen 10
        have z11 := bA012.cell (i := 11) (by decide)
        have zf11 := bA012.frozen 11
        go_wp2
        refine hK _ _ (.inl (by trivial)) ?_
        clear hK K
        refine wpZ_end (by kernel_rfl) ?_
        go_wp2_with fail
        go_meet
        have hlt := hAA
        have hE := Ext.setCell (Ext.setCell (Ext.setCell (Ext.setCell (Ext.setCell (Ext.setCell (Ext.setCell (Ext.setCell (Ext.setCell (Ext.setCell (Ext.setCell (Ext.setCell (uA012) (p := ⟨w1.heap.size, 0, none⟩) hlt (.int .i64 (q 0))) (p := ⟨w1.heap.size, 1, none⟩) hlt (.int .i64 (q 1))) (p := ⟨w1.heap.size, 2, none⟩) hlt (.int .i64 (q 2))) (p := ⟨w1.heap.size, 3, none⟩) hlt (.int .i64 (q 3))) (p := ⟨w1.heap.size, 4, none⟩) hlt (.int .i64 (q 4))) (p := ⟨w1.heap.size, 5, none⟩) hlt (.int .i64 (q 5))) (p := ⟨w1.heap.size, 6, none⟩) hlt (.int .i64 (q 6))) (p := ⟨w1.heap.size, 7, none⟩) hlt (.int .i64 (q 7))) (p := ⟨w1.heap.size, 8, none⟩) hlt (.int .i64 (q 8))) (p := ⟨w1.heap.size, 9, none⟩) hlt (.int .i64 (q 9))) (p := ⟨w1.heap.size, 10, none⟩) hlt (.int .i64 (q 10))) (p := ⟨w1.heap.size, 11, none⟩) hlt (.int .i64 (q 11))
        exact ⟨w1.heap.size, rfl, hlt, RowI.full (RowI.step (f := q) (c := 11) (RowI.step (f := q) (c := 10) (RowI.step (f := q) (c := 9) (RowI.step (f := q) (c := 8) (RowI.step (f := q) (c := 7) (RowI.step (f := q) (c := 6) (RowI.step (f := q) (c := 5) (RowI.step (f := q) (c := 4) (RowI.step (f := q) (c := 3) (RowI.step (f := q) (c := 2) (RowI.step (f := q) (c := 1) (RowI.step (f := q) (c := 0) (RowI.zero bA012) rfl rfl) rfl rfl) rfl rfl) rfl rfl) rfl rfl) rfl rfl) rfl rfl) rfl rfl) rfl rfl) rfl rfl) rfl rfl) rfl rfl), E1.trans hE, hE⟩
    case rest =>
      clear pc0 pc1 pc2 pc3 pc4 pc5 pc6 pc7 pc8 pc9 pc10 pc11
      obtain ⟨A, rfl, hA, B2, E2, y2⟩ := hcut
      have P2 := HP1.out.ext y2
      clear HP1 y2
      have s2 := E2.size
      have v0 := P2.lt
      have HP2 := hid P2
      have HB2 := hid B2
      clear P2 B2
      go_wp2_with fail
      refine (toTransformS_any 0 W.heap.size _ n g _ (HV.out.ext (Nat.le_refl _) E2) E2.size hlen).mono ?_
      rintro e w3 ⟨v3', rfl, o3, y3⟩
      obtain ⟨s3, t3, rfl, j3⟩ := o3.open
      have O3 := j3.shut
      clear o3 j3
      have E3 : Ext W w3 := E2.trans y3
      have P3 := HP2.out.ext y3
      have B3 := hid (HB2.out.ext y3)
      clear v0 HP2 HB2
      have v0 := P3.lt
      have pc0 := P3.cell (i := 0) (by decide)
      have pc1 := P3.cell (i := 1) (by decide)
      have pc2 := P3.cell (i := 2) (by decide)
      have pc3 := P3.cell (i := 3) (by decide)
      have pc4 := P3.cell (i := 4) (by decide)
      have pc5 := P3.cell (i := 5) (by decide)
      have pc6 := P3.cell (i := 6) (by decide)
      have pc7 := P3.cell (i := 7) (by decide)
      have pc8 := P3.cell (i := 8) (by decide)
      have pc9 := P3.cell (i := 9) (by decide)
      have pc10 := P3.cell (i := 10) (by decide)
      have pc11 := P3.cell (i := 11) (by decide)
      clear P3
      go_wp2_with fail
      refine (toPatch_val (f 0) (f 1) (f 2) (f 3) (f 4) (f 5) (f 6) (f 7) (f 8) (f 9) (f 10) (f 11) _).mono ?_
      rintro e w4 ⟨rfl, y4⟩
      have E4 := E3.trans y4
      have B4 := hid (B3.out.ext y4)
      have O4 := (O3.ext (Nat.le_refl _) y4).wide (Nat.le_refl _) y4.size
      clear pc0 pc1 pc2 pc3 pc4 pc5 pc6 pc7 pc8 pc9 pc10 pc11
      clear v0 B3 O3
      go_wp2_with fail
      refine (iTransformPatch_val _ _ _ n g f q HQ.out _ O4 (Nat.le_refl _)).mono ?_
      rintro e w5 ⟨rfl, y5⟩
      have E5 := E4.trans y5
      have B5 := B4.out.ext y5
      have O5 := (O4.ext (Nat.le_refl _) y5).wide (Nat.le_refl _) y5.size
      have HO5 := hid O5
      clear B4 O4 O5
      have z0 := B5.lt
      have bc0 := B5.cell (i := 0) (by decide)
      have bc1 := B5.cell (i := 1) (by decide)
      have bc2 := B5.cell (i := 2) (by decide)
      have bc3 := B5.cell (i := 3) (by decide)
      have bc4 := B5.cell (i := 4) (by decide)
      have bc5 := B5.cell (i := 5) (by decide)
      have bc6 := B5.cell (i := 6) (by decide)
      have bc7 := B5.cell (i := 7) (by decide)
      have bc8 := B5.cell (i := 8) (by decide)
      have bc9 := B5.cell (i := 9) (by decide)
      have bc10 := B5.cell (i := 10) (by decide)
      have bc11 := B5.cell (i := 11) (by decide)
      clear B5
      go_wp2_with fail
      refine (eqPatch_same (q 0) (q 1) (q 2) (q 3) (q 4) (q 5) (q 6) (q 7) (q 8) (q 9) (q 10) (q 11) _).mono ?_
      rintro e w6 ⟨rfl, y6⟩
      clear bc0 bc1 bc2 bc3 bc4 bc5 bc6 bc7 bc8 bc9 bc10 bc11
      have y6' : Ext w5 w6 := Ext.trans (by repeat (first | with_reducible assumption | with_reducible exact Ext.refl _ | with_reducible apply Ext.alloc | with_reducible apply Ext.drew | with_reducible apply Ext.drewN | (with_reducible refine Ext.setCell ?_ (by simp; omega) _) | (with_reducible refine Ext.setCell ?_ (by simp) _))) y6
      have E6 := E5.trans y6'
      have O6 := (HO5.out.ext (Nat.le_refl _) y6').wide (Nat.le_refl _) y6'.size
      go_wp2_with fail
      refine (toTransformS_any 0 W.heap.size _ n g _ (HV.out.ext (Nat.le_refl _) E6) E6.size hlen).mono ?_
      rintro e w7 ⟨v7, rfl, O7, y7⟩
      have E7 := E6.trans y7
      go_wp2_with fail
      refine (eqTransformS_same _ _ _ _ _ _ n g _ (O6.ext (Nat.le_refl _) y7) O7 y7.size (Nat.le_refl _)).mono ?_
      rintro e w8 ⟨rfl, y8⟩
      have E8 := E7.trans y8
      go_wp2_with fail
      go_ret
      exact ⟨rfl, E8⟩
  · have hs := hid (show szRes 1048576 n = -1 by unfold szRes; rw [if_pos (by omega)])
    go_enter Try.func5, Try.ntmps5
    go_wp2_with fail
    refine (szTransformS_val hs.out 0 W.heap.size _ g _ (HV.out.ext (Nat.le_refl _) (by repeat (with_reducible (first | assumption | exact Ext.refl _ | apply Ext.alloc | apply Ext.drew | apply Ext.drewN))))).mono ?_
    rintro e w1 ⟨rfl, x1⟩
    have E1 : Ext W w1 := Ext.trans (by repeat (with_reducible (first | assumption | exact Ext.refl _ | apply Ext.alloc | apply Ext.drew | apply Ext.drewN))) x1
    go_wp2_with fail
    go_ret
    exact ⟨rfl, E1⟩
end Go.Proofs.Yteeclghkfcanlaa
