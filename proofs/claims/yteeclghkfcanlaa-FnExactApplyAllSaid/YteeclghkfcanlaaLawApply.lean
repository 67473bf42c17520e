/- This text walks the law FnExactApplyAll. -/
import Derived.Test.YteeclghkfcanlaaL04e
import Derived.Test.YteeclghkfcanlaaTr2
import Derived.Test.YteeclghkfcanlaaPlan
import Derived.Deep.Cut
import Derived.Deep.CutRange
namespace Go.Proofs.Yteeclghkfcanlaa
open Go.RowKit

theorem ABox.made (w : World) (ty : TypeId) : ABox (w.alloc (.cells #[.int .i64 0, .int .i64 0, .int .i64 0] ty)) w.heap.size 0 0 0 := ⟨by simp, by simp [go_sem], by simp [go_sem], by simp [go_sem], by simp [go_sem], by simp [go_sem], by simp [go_sem]⟩
theorem ABox.new (w : World) (x y z : Int) (ty : TypeId) : ABox (w.alloc (.cells #[.int .i64 x, .int .i64 y, .int .i64 z] ty)) w.heap.size x y z := ⟨by simp, by simp [go_sem], by simp [go_sem], by simp [go_sem], by simp [go_sem], by simp [go_sem], by simp [go_sem]⟩

theorem szTransformS_val {s : Int} {n : Nat} (hs : szRes 1048576 n = s) (lo hi : Nat) (u : Value) (f : Nat → Int) (w : World) (hu : Flats 12 lo hi w u n f) :
    Calls Try.prog 8 #[u, .int .i64 1048576] w fun e w' => e = .returned (.int .i64 s) ∧ Ext w w' :=
  (szTransformS_any lo hi u n f 1048576 w hu (by decide) (by decide)).mono fun _ _ ⟨he, hw⟩ => ⟨by rw [he, ← hs]; rfl, hw ▸ Ext.refl _⟩

theorem sApplyAll3 {f : Nat → Int} {n : Nat} {x y z q1 q2 q3 : Int} (hq : appAll f n ⟨x, y, z⟩ = ⟨q1, q2, q3⟩) {lo hi : Nat} {u : Value} {w : World} (hu : Flats 12 lo hi w u n f) (hh : hi ≤ w.heap.size) :
    Calls Try.prog 9 #[u, .agg #[.int .i64 x, .int .i64 y, .int .i64 z]] w fun e w' => e = .returned (.agg #[.int .i64 q1, .int .i64 q2, .int .i64 q3]) ∧ Ext w w' := sApplyAll_val lo hi u n f ⟨x, y, z⟩ ⟨q1, q2, q3⟩ hq w hu hh
theorem iApplyAll3 {f : Nat → Int} {n : Nat} {x y z q1 q2 q3 : Int} (hq : appAll f n ⟨x, y, z⟩ = ⟨q1, q2, q3⟩) {lo hi : Nat} {u : Value} {w : World} (hu : Flats 12 lo hi w u n f) (hh : hi ≤ w.heap.size) :
    Calls Try.prog 12 #[u, .agg #[.int .i64 x, .int .i64 y, .int .i64 z]] w fun e w' => e = .returned (.agg #[.int .i64 q1, .int .i64 q2, .int .i64 q3]) ∧ Ext w w' := iApplyAll_val lo hi u n f ⟨x, y, z⟩ ⟨q1, q2, q3⟩ hq w hu hh

set_option maxRecDepth 10000 in
set_option maxHeartbeats 4000000 in
theorem lawApplyAll (v : Value) (n : Nat) (f : Nat → Int) (x y z : Int) (W : World) (hv : Flats 12 0 W.heap.size W v n f) :
    Calls Try.prog 3 #[v, .agg #[.int .i64 x, .int .i64 y, .int .i64 z]] W fun e w' => e = .returned (.bool true) ∧ Ext W w' := by
  obtain ⟨a, cap, rfl, HU⟩ := hv.open
  have HV := hid hv
  clear hv HU
  obtain ⟨q, hq⟩ : ∃ q, appAll f n ⟨x, y, z⟩ = q := ⟨_, rfl⟩
  obtain ⟨q1, q2, q3⟩ := q
  have HQ := hid hq
  clear hq
  by_cases hlen : n ≤ 1048576
  · have hs := hid (show szRes 1048576 n = 1048576 - n by unfold szRes; rw [if_neg (by omega)])
    go_enter Try.func3, Try.ntmps3
    go_wp2_with fail
    refine (szTransformS_val hs.out 0 W.heap.size _ f _ (HV.out.ext (Nat.le_refl _) (by repeat (with_reducible (first | assumption | exact Ext.refl _ | apply Ext.alloc | apply Ext.drew | apply Ext.drewN))))).mono ?_
    rintro e w1 ⟨rfl, x1⟩
    have P1 := (ABox.new W x y z _).ext x1
    have E1 : Ext W w1 := Ext.trans (by repeat (with_reducible (first | assumption | exact Ext.refl _ | apply Ext.alloc | apply Ext.drew | apply Ext.drewN))) x1
    have hW := E1.size
    obtain ⟨p0, p1, p2, p3, p4, p5, p6⟩ := P1
    go_upto_region 5 with fail
    go_cut [6] from 14 to 19 (fun p wx => ∃ A, p = .pointer (some ⟨A, 0, none⟩) ∧ w1.heap.size ≤ A ∧ ABox wx A q1 q2 q3 ∧ Ext W wx ∧ Ext w1 wx)
    case first =>
      refine wp_region_Z 6 w1.heap.size (by kernel_rfl) ?_
      refine wpZ_stage (fuel := 4) [0, 2] [1, 5] (by kernel_rfl) (fun b _ hb => rfl) ?_
      try simp only [Act.put, List.setIfInBounds_toArray, List.set_cons_succ, List.set_cons_zero]
      simp only [List.filterMap_cons, List.filterMap_nil, List.getElem?_toArray, List.getElem?_cons_zero, List.getElem?_cons_succ]
      show wpQuiet _ _ _ _ [_, _] _
      repeat (go_big_quiet_step (fail))
      refine wpQuiet_nil ?_
      intro e he
      simp only [List.mem_cons, List.not_mem_nil, or_false] at he
      rcases he with rfl | rfl
      · (unfold wpComes; simp only [List.getElem?_toArray, List.getElem?_cons_succ, List.getElem?_cons_zero, Option.some.injEq]; refine ⟨_, rfl, fun K hK => ?_⟩)
        go_wp2_with fail
        refine (toTransformS_any 0 W.heap.size _ n f _ (HV.out.ext (Nat.le_refl _) (Ext.drew E1)) (Ext.drew E1).size hlen).mono ?_
        rintro e a0 ⟨v0, rfl, o0, y0⟩
        have u0 : Ext w1 a0 := Ext.trans (by repeat (with_reducible (first | assumption | exact Ext.refl _ | apply Ext.alloc | apply Ext.drew | apply Ext.drewN))) y0
        obtain ⟨s0, t0, rfl, j0⟩ := o0.open
        clear o0
        have O0 := j0.shut
        clear j0
        go_wp2_with fail
        refine hK _ _ (.inr (fun b _ hb => Ext.block (w := w1) (by repeat (with_reducible (first | assumption | exact Ext.refl _ | apply Ext.alloc | apply Ext.drew | apply Ext.drewN))) (by omega))) ?_
        clear hK K
        refine wpZ_stage (fuel := 3) [] [3, 5] (by kernel_rfl) (fun b _ hb => Ext.block u0 (by omega)) ?_
        refine wpQuiet_nil ?_
        intro e he
        simp only [List.mem_cons, List.not_mem_nil, or_false] at he
        rcases he with rfl | rfl
        · (unfold wpComes; simp only [List.getElem?_toArray, List.getElem?_cons_succ, List.getElem?_cons_zero, Option.some.injEq]; refine ⟨_, rfl, fun K hK => ?_⟩)
          go_wp2_with fail
          refine (toVec_val x y z _).mono ?_
          rintro e a01 ⟨rfl, y01⟩
          have u01 : Ext w1 a01 := Ext.trans (by repeat (with_reducible (first | assumption | exact Ext.refl _ | apply Ext.alloc | apply Ext.drew | apply Ext.drewN))) y01
          have O01 := (O0.ext (Nat.le_refl _) y01).wide (Nat.le_refl _) y01.size
          go_wp2_with fail
          refine hK _ _ (.inr (fun b _ hb => Ext.block (w := w1) (by repeat (with_reducible (first | assumption | exact Ext.refl _ | apply Ext.alloc | apply Ext.drew | apply Ext.drewN))) (by omega))) ?_
          clear hK K
          refine wpZ_stage (fuel := 2) [] [4, 5] (by kernel_rfl) (fun b _ hb => Ext.block u01 (by omega)) ?_
          refine wpQuiet_nil ?_
          intro e he
          simp only [List.mem_cons, List.not_mem_nil, or_false] at he
          rcases he with rfl | rfl
          · (unfold wpComes; simp only [List.getElem?_toArray, List.getElem?_cons_succ, List.getElem?_cons_zero, Option.some.injEq]; refine ⟨_, rfl, fun K hK => ?_⟩)
            go_wp2_with fail
            refine (sApplyAll3 HQ.out O01 (Nat.le_refl _)).mono ?_
            rintro e a012 ⟨rfl, y012⟩
            have u012 : Ext w1 a012 := Ext.trans (by repeat (with_reducible (first | assumption | exact Ext.refl _ | apply Ext.alloc | apply Ext.drew | apply Ext.drewN))) y012
            have O012 := (O01.ext (Nat.le_refl _) y012).wide (Nat.le_refl _) y012.size
            go_wp2_with fail
            refine hK _ _ (.inr (fun b _ hb => Ext.block (w := w1) (by repeat (with_reducible (first | assumption | exact Ext.refl _ | apply Ext.alloc | apply Ext.drew | apply Ext.drewN))) (by omega))) ?_
            clear hK K
            refine wpZ_stage (fuel := 1) [] [5] (by kernel_rfl) (fun b _ hb => Ext.block u012 (by omega)) ?_
            refine wpQuiet_nil ?_
            intro e he
            simp only [List.mem_cons, List.not_mem_nil, or_false] at he
            subst he
            (unfold wpComes; simp only [List.getElem?_toArray, List.getElem?_cons_succ, List.getElem?_cons_zero, Option.some.injEq]; refine ⟨_, rfl, fun K hK => ?_⟩)
            go_wp2
            have hA012A : w1.heap.size ≤ a012.heap.size := u012.size
            refine hK _ _ (.inr (fun b _ hb => Ext.block (w := w1) (by repeat (with_reducible (first | assumption | exact Ext.refl _ | apply Ext.alloc | apply Ext.drew | apply Ext.drewN))) (by omega))) ?_
            clear hK K
            obtain ⟨d012A, hd012A⟩ : ∃ d, d = a012.alloc (.cells #[.int .i64 0, .int .i64 0, .int .i64 0] 26) := ⟨_, rfl⟩
            rw [← hd012A]
            have u012A : Ext w1 d012A := by rw [hd012A]; exact (by repeat (with_reducible (first | assumption | exact Ext.refl _ | apply Ext.alloc | apply Ext.drew | apply Ext.drewN)))
            have b012A : ABox d012A a012.heap.size 0 0 0 := hd012A ▸ ABox.made _ _
            have y012A : Ext a012 d012A := by rw [hd012A]; exact (by repeat (with_reducible (first | assumption | exact Ext.refl _ | apply Ext.alloc | apply Ext.drew | apply Ext.drewN)))
            have O012A := (O012.ext (Nat.le_refl _) y012A).wide (Nat.le_refl _) y012A.size
            clear hd012A
            refine wpZ_stage (fuel := 0) [] [6] (by kernel_rfl) (fun b _ hb => Ext.block u012A (by omega)) ?_
            refine wpQuiet_nil ?_
            intro e he
            simp only [List.mem_cons, List.not_mem_nil, or_false] at he
            subst he
            (unfold wpComes; simp only [List.getElem?_toArray, List.getElem?_cons_succ, List.getElem?_cons_zero, Option.some.injEq]; refine ⟨_, rfl, fun K hK => ?_⟩)
            obtain ⟨z0, z1, z2, z3, z4, z5, z6⟩ := b012A
            go_wp2
            refine hK _ _ (.inl (by trivial)) ?_
            clear hK K
            refine wpZ_end (by kernel_rfl) ?_
            go_wp2_with fail
            go_meet
            have hlt := hA012A
            have hE := Ext.setCell (Ext.setCell (Ext.setCell u012A (p := ⟨a012.heap.size, 0, none⟩) hlt (.int .i64 q1)) (p := ⟨a012.heap.size, 1, none⟩) hlt (.int .i64 q2)) (p := ⟨a012.heap.size, 2, none⟩) hlt (.int .i64 q3)
            refine ⟨a012.heap.size, rfl, hlt, ?_, E1.trans hE, hE⟩
            · constructor
              all_goals simp [go_sem, *]
          · (unfold wpComes; simp only [List.getElem?_toArray, List.getElem?_cons_succ, List.getElem?_cons_zero, Option.some.injEq]; refine ⟨_, rfl, fun K hK => ?_⟩)
            go_wp2
            have hA01A : w1.heap.size ≤ a01.heap.size := u01.size
            refine hK _ _ (.inr (fun b _ hb => Ext.block (w := w1) (by repeat (with_reducible (first | assumption | exact Ext.refl _ | apply Ext.alloc | apply Ext.drew | apply Ext.drewN))) (by omega))) ?_
            clear hK K
            obtain ⟨d01A, hd01A⟩ : ∃ d, d = a01.alloc (.cells #[.int .i64 0, .int .i64 0, .int .i64 0] 26) := ⟨_, rfl⟩
            rw [← hd01A]
            have u01A : Ext w1 d01A := by rw [hd01A]; exact (by repeat (with_reducible (first | assumption | exact Ext.refl _ | apply Ext.alloc | apply Ext.drew | apply Ext.drewN)))
            have b01A : ABox d01A a01.heap.size 0 0 0 := hd01A ▸ ABox.made _ _
            have y01A : Ext a01 d01A := by rw [hd01A]; exact (by repeat (with_reducible (first | assumption | exact Ext.refl _ | apply Ext.alloc | apply Ext.drew | apply Ext.drewN)))
            have O01A := (O01.ext (Nat.le_refl _) y01A).wide (Nat.le_refl _) y01A.size
            clear hd01A
            refine wpZ_stage (fuel := 1) [] [4] (by kernel_rfl) (fun b _ hb => Ext.block u01A (by omega)) ?_
            refine wpQuiet_nil ?_
            intro e he
            simp only [List.mem_cons, List.not_mem_nil, or_false] at he
            subst he
            (unfold wpComes; simp only [List.getElem?_toArray, List.getElem?_cons_succ, List.getElem?_cons_zero, Option.some.injEq]; refine ⟨_, rfl, fun K hK => ?_⟩)
            go_wp2_with fail
            refine (sApplyAll3 HQ.out O01A (Nat.le_refl _)).mono ?_
            rintro e a01A2 ⟨rfl, y01A2⟩
            have u01A2 : Ext w1 a01A2 := Ext.trans (by repeat (with_reducible (first | assumption | exact Ext.refl _ | apply Ext.alloc | apply Ext.drew | apply Ext.drewN))) y01A2
            have b01A2 := b01A.ext y01A2
            have O01A2 := (O01A.ext (Nat.le_refl _) y01A2).wide (Nat.le_refl _) y01A2.size
            go_wp2_with fail
            refine hK _ _ (.inr (fun b _ hb => Ext.block (w := w1) (by repeat (with_reducible (first | assumption | exact Ext.refl _ | apply Ext.alloc | apply Ext.drew | apply Ext.drewN))) (by omega))) ?_
            clear hK K
            refine wpZ_stage (fuel := 0) [] [6] (by kernel_rfl) (fun b _ hb => Ext.block u01A2 (by omega)) ?_
            refine wpQuiet_nil ?_
            intro e he
            simp only [List.mem_cons, List.not_mem_nil, or_false] at he
            subst he
            (unfold wpComes; simp only [List.getElem?_toArray, List.getElem?_cons_succ, List.getElem?_cons_zero, Option.some.injEq]; refine ⟨_, rfl, fun K hK => ?_⟩)
            obtain ⟨z0, z1, z2, z3, z4, z5, z6⟩ := b01A2
            go_wp2
            refine hK _ _ (.inl (by trivial)) ?_
            clear hK K
            refine wpZ_end (by kernel_rfl) ?_
            go_wp2_with fail
            go_meet
            have hlt := hA01A
            have hE := Ext.setCell (Ext.setCell (Ext.setCell u01A2 (p := ⟨a01.heap.size, 0, none⟩) hlt (.int .i64 q1)) (p := ⟨a01.heap.size, 1, none⟩) hlt (.int .i64 q2)) (p := ⟨a01.heap.size, 2, none⟩) hlt (.int .i64 q3)
            refine ⟨a01.heap.size, rfl, hlt, ?_, E1.trans hE, hE⟩
            · constructor
              all_goals simp [go_sem, *]
        · (unfold wpComes; simp only [List.getElem?_toArray, List.getElem?_cons_succ, List.getElem?_cons_zero, Option.some.injEq]; refine ⟨_, rfl, fun K hK => ?_⟩)
          go_wp2
          have hA0A : w1.heap.size ≤ a0.heap.size := u0.size
          refine hK _ _ (.inr (fun b _ hb => Ext.block (w := w1) (by repeat (with_reducible (first | assumption | exact Ext.refl _ | apply Ext.alloc | apply Ext.drew | apply Ext.drewN))) (by omega))) ?_
          clear hK K
          obtain ⟨d0A, hd0A⟩ : ∃ d, d = a0.alloc (.cells #[.int .i64 0, .int .i64 0, .int .i64 0] 26) := ⟨_, rfl⟩
          rw [← hd0A]
          have u0A : Ext w1 d0A := by rw [hd0A]; exact (by repeat (with_reducible (first | assumption | exact Ext.refl _ | apply Ext.alloc | apply Ext.drew | apply Ext.drewN)))
          have b0A : ABox d0A a0.heap.size 0 0 0 := hd0A ▸ ABox.made _ _
          have y0A : Ext a0 d0A := by rw [hd0A]; exact (by repeat (with_reducible (first | assumption | exact Ext.refl _ | apply Ext.alloc | apply Ext.drew | apply Ext.drewN)))
          have O0A := (O0.ext (Nat.le_refl _) y0A).wide (Nat.le_refl _) y0A.size
          clear hd0A
          refine wpZ_stage (fuel := 2) [] [3] (by kernel_rfl) (fun b _ hb => Ext.block u0A (by omega)) ?_
          refine wpQuiet_nil ?_
          intro e he
          simp only [List.mem_cons, List.not_mem_nil, or_false] at he
          subst he
          (unfold wpComes; simp only [List.getElem?_toArray, List.getElem?_cons_succ, List.getElem?_cons_zero, Option.some.injEq]; refine ⟨_, rfl, fun K hK => ?_⟩)
          go_wp2_with fail
          refine (toVec_val x y z _).mono ?_
          rintro e a0A1 ⟨rfl, y0A1⟩
          have u0A1 : Ext w1 a0A1 := Ext.trans (by repeat (with_reducible (first | assumption | exact Ext.refl _ | apply Ext.alloc | apply Ext.drew | apply Ext.drewN))) y0A1
          have b0A1 := b0A.ext y0A1
          have O0A1 := (O0A.ext (Nat.le_refl _) y0A1).wide (Nat.le_refl _) y0A1.size
          go_wp2_with fail
          refine hK _ _ (.inr (fun b _ hb => Ext.block (w := w1) (by repeat (with_reducible (first | assumption | exact Ext.refl _ | apply Ext.alloc | apply Ext.drew | apply Ext.drewN))) (by omega))) ?_
          clear hK K
          refine wpZ_stage (fuel := 1) [] [4] (by kernel_rfl) (fun b _ hb => Ext.block u0A1 (by omega)) ?_
          refine wpQuiet_nil ?_
          intro e he
          simp only [List.mem_cons, List.not_mem_nil, or_false] at he
          subst he
          (unfold wpComes; simp only [List.getElem?_toArray, List.getElem?_cons_succ, List.getElem?_cons_zero, Option.some.injEq]; refine ⟨_, rfl, fun K hK => ?_⟩)
          go_wp2_with fail
          refine (sApplyAll3 HQ.out O0A1 (Nat.le_refl _)).mono ?_
          rintro e a0A12 ⟨rfl, y0A12⟩
          have u0A12 : Ext w1 a0A12 := Ext.trans (by repeat (with_reducible (first | assumption | exact Ext.refl _ | apply Ext.alloc | apply Ext.drew | apply Ext.drewN))) y0A12
          have b0A12 := b0A1.ext y0A12
          have O0A12 := (O0A1.ext (Nat.le_refl _) y0A12).wide (Nat.le_refl _) y0A12.size
          go_wp2_with fail
          refine hK _ _ (.inr (fun b _ hb => Ext.block (w := w1) (by repeat (with_reducible (first | assumption | exact Ext.refl _ | apply Ext.alloc | apply Ext.drew | apply Ext.drewN))) (by omega))) ?_
          clear hK K
          refine wpZ_stage (fuel := 0) [] [6] (by kernel_rfl) (fun b _ hb => Ext.block u0A12 (by omega)) ?_
          refine wpQuiet_nil ?_
          intro e he
          simp only [List.mem_cons, List.not_mem_nil, or_false] at he
          subst he
          (unfold wpComes; simp only [List.getElem?_toArray, List.getElem?_cons_succ, List.getElem?_cons_zero, Option.some.injEq]; refine ⟨_, rfl, fun K hK => ?_⟩)
          obtain ⟨z0, z1, z2, z3, z4, z5, z6⟩ := b0A12
          go_wp2
          refine hK _ _ (.inl (by trivial)) ?_
          clear hK K
          refine wpZ_end (by kernel_rfl) ?_
          go_wp2_with fail
          go_meet
          have hlt := hA0A
          have hE := Ext.setCell (Ext.setCell (Ext.setCell u0A12 (p := ⟨a0.heap.size, 0, none⟩) hlt (.int .i64 q1)) (p := ⟨a0.heap.size, 1, none⟩) hlt (.int .i64 q2)) (p := ⟨a0.heap.size, 2, none⟩) hlt (.int .i64 q3)
          refine ⟨a0.heap.size, rfl, hlt, ?_, E1.trans hE, hE⟩
          · constructor
            all_goals simp [go_sem, *]
      · (unfold wpComes; simp only [List.getElem?_toArray, List.getElem?_cons_succ, List.getElem?_cons_zero, Option.some.injEq]; refine ⟨_, rfl, fun K hK => ?_⟩)
        go_wp2
        have hAA : w1.heap.size ≤ w1.heap.size := Nat.le_refl _
        refine hK _ _ (.inr (fun b _ hb => Ext.block (w := w1) (by repeat (with_reducible (first | assumption | exact Ext.refl _ | apply Ext.alloc | apply Ext.drew | apply Ext.drewN))) (by omega))) ?_
        clear hK K
        obtain ⟨dA, hdA⟩ : ∃ d, d = (w1.alloc (.cells #[.int .i64 0, .int .i64 0, .int .i64 0] 26)).drew := ⟨_, rfl⟩
        rw [← hdA]
        have uA : Ext w1 dA := by rw [hdA]; exact (by repeat (with_reducible (first | assumption | exact Ext.refl _ | apply Ext.alloc | apply Ext.drew | apply Ext.drewN)))
        have bA : ABox dA w1.heap.size 0 0 0 := hdA ▸ (ABox.made _ _).ext (Ext.drew (Ext.refl _))
        clear hdA
        refine wpZ_stage (fuel := 3) [] [1] (by kernel_rfl) (fun b _ hb => Ext.block uA (by omega)) ?_
        refine wpQuiet_nil ?_
        intro e he
        simp only [List.mem_cons, List.not_mem_nil, or_false] at he
        subst he
        (unfold wpComes; simp only [List.getElem?_toArray, List.getElem?_cons_succ, List.getElem?_cons_zero, Option.some.injEq]; refine ⟨_, rfl, fun K hK => ?_⟩)
        go_wp2_with fail
        refine (toTransformS_any 0 W.heap.size _ n f _ (HV.out.ext (Nat.le_refl _) (E1.trans uA)) (E1.trans uA).size hlen).mono ?_
        rintro e aA0 ⟨vA0, rfl, oA0, yA0⟩
        have uA0 : Ext w1 aA0 := Ext.trans (by repeat (with_reducible (first | assumption | exact Ext.refl _ | apply Ext.alloc | apply Ext.drew | apply Ext.drewN))) yA0
        have bA0 := bA.ext yA0
        obtain ⟨sA0, tA0, rfl, jA0⟩ := oA0.open
        clear oA0
        have OA0 := jA0.shut
        clear jA0
        go_wp2_with fail
        refine hK _ _ (.inr (fun b _ hb => Ext.block (w := w1) (by repeat (with_reducible (first | assumption | exact Ext.refl _ | apply Ext.alloc | apply Ext.drew | apply Ext.drewN))) (by omega))) ?_
        clear hK K
        refine wpZ_stage (fuel := 2) [] [3] (by kernel_rfl) (fun b _ hb => Ext.block uA0 (by omega)) ?_
        refine wpQuiet_nil ?_
        intro e he
        simp only [List.mem_cons, List.not_mem_nil, or_false] at he
        subst he
        (unfold wpComes; simp only [List.getElem?_toArray, List.getElem?_cons_succ, List.getElem?_cons_zero, Option.some.injEq]; refine ⟨_, rfl, fun K hK => ?_⟩)
        go_wp2_with fail
        refine (toVec_val x y z _).mono ?_
        rintro e aA01 ⟨rfl, yA01⟩
        have uA01 : Ext w1 aA01 := Ext.trans (by repeat (with_reducible (first | assumption | exact Ext.refl _ | apply Ext.alloc | apply Ext.drew | apply Ext.drewN))) yA01
        have bA01 := bA0.ext yA01
        have OA01 := (OA0.ext (Nat.le_refl _) yA01).wide (Nat.le_refl _) yA01.size
        go_wp2_with fail
        refine hK _ _ (.inr (fun b _ hb => Ext.block (w := w1) (by repeat (with_reducible (first | assumption | exact Ext.refl _ | apply Ext.alloc | apply Ext.drew | apply Ext.drewN))) (by omega))) ?_
        clear hK K
        refine wpZ_stage (fuel := 1) [] [4] (by kernel_rfl) (fun b _ hb => Ext.block uA01 (by omega)) ?_
        refine wpQuiet_nil ?_
        intro e he
        simp only [List.mem_cons, List.not_mem_nil, or_false] at he
        subst he
        (unfold wpComes; simp only [List.getElem?_toArray, List.getElem?_cons_succ, List.getElem?_cons_zero, Option.some.injEq]; refine ⟨_, rfl, fun K hK => ?_⟩)
        go_wp2_with fail
        refine (sApplyAll3 HQ.out OA01 (Nat.le_refl _)).mono ?_
        rintro e aA012 ⟨rfl, yA012⟩
        have uA012 : Ext w1 aA012 := Ext.trans (by repeat (with_reducible (first | assumption | exact Ext.refl _ | apply Ext.alloc | apply Ext.drew | apply Ext.drewN))) yA012
        have bA012 := bA01.ext yA012
        have OA012 := (OA01.ext (Nat.le_refl _) yA012).wide (Nat.le_refl _) yA012.size
        go_wp2_with fail
        refine hK _ _ (.inr (fun b _ hb => Ext.block (w := w1) (by repeat (with_reducible (first | assumption | exact Ext.refl _ | apply Ext.alloc | apply Ext.drew | apply Ext.drewN))) (by omega))) ?_
        clear hK K
        refine wpZ_stage (fuel := 0) [] [6] (by kernel_rfl) (fun b _ hb => Ext.block uA012 (by omega)) ?_
        refine wpQuiet_nil ?_
        intro e he
        simp only [List.mem_cons, List.not_mem_nil, or_false] at he
        subst he
        (unfold wpComes; simp only [List.getElem?_toArray, List.getElem?_cons_succ, List.getElem?_cons_zero, Option.some.injEq]; refine ⟨_, rfl, fun K hK => ?_⟩)
        obtain ⟨z0, z1, z2, z3, z4, z5, z6⟩ := bA012
        go_wp2
        refine hK _ _ (.inl (by trivial)) ?_
        clear hK K
        refine wpZ_end (by kernel_rfl) ?_
        go_wp2_with fail
        go_meet
        have hlt := hAA
        have hE := Ext.setCell (Ext.setCell (Ext.setCell uA012 (p := ⟨w1.heap.size, 0, none⟩) hlt (.int .i64 q1)) (p := ⟨w1.heap.size, 1, none⟩) hlt (.int .i64 q2)) (p := ⟨w1.heap.size, 2, none⟩) hlt (.int .i64 q3)
        refine ⟨w1.heap.size, rfl, hlt, ?_, E1.trans hE, hE⟩
        · constructor
          all_goals simp [go_sem, *]
    case rest =>
      have P1 : ABox w1 W.heap.size x y z := ⟨p0, p1, p2, p3, p4, p5, p6⟩
      clear p0 p1 p2 p3 p4 p5 p6
      obtain ⟨A, rfl, hA, B2, E2, y2⟩ := hcut
      have P2 := P1.ext y2
      clear P1 y2
      have s2 := E2.size
      have v0 := P2.lt
      have v1 := P2.c0
      have v2 := P2.c1
      have v3 := P2.c2
      go_wp2_with fail
      refine (toTransformS_any 0 W.heap.size _ n f _ (HV.out.ext (Nat.le_refl _) E2) E2.size hlen).mono ?_
      rintro e w3 ⟨v3', rfl, o3, y3⟩
      obtain ⟨s3, t3, rfl, j3⟩ := o3.open
      have O3 := j3.shut
      clear o3 j3
      have E3 : Ext W w3 := E2.trans y3
      have P3 := P2.ext y3
      have B3 := B2.ext y3
      clear v0 v1 v2 v3 P2 B2
      have v0 := P3.lt
      have v1 := P3.c0
      have v2 := P3.c1
      have v3 := P3.c2
      go_wp2_with fail
      refine (toVec_val x y z _).mono ?_
      rintro e w4 ⟨rfl, y4⟩
      have E4 := E3.trans y4
      have B4 := B3.ext y4
      have O4 := (O3.ext (Nat.le_refl _) y4).wide (Nat.le_refl _) y4.size
      clear v0 v1 v2 v3 P3 B3 O3
      go_wp2_with fail
      refine (iApplyAll3 HQ.out O4 (Nat.le_refl _)).mono ?_
      rintro e w5 ⟨rfl, y5⟩
      have E5 := E4.trans y5
      have B5 := B4.ext y5
      have O5 := (O4.ext (Nat.le_refl _) y5).wide (Nat.le_refl _) y5.size
      have HO5 := hid O5
      clear B4 O4 O5
      obtain ⟨z0, z1, z2, z3, z4, z5, z6⟩ := B5
      go_wp2_with fail
      refine (eqVec_same q1 q2 q3 _).mono ?_
      rintro e w6 ⟨rfl, y6⟩
      have y6' : Ext w5 w6 := Ext.trans (by repeat (first | with_reducible assumption | with_reducible exact Ext.refl _ | with_reducible apply Ext.alloc | with_reducible apply Ext.drew | with_reducible apply Ext.drewN | (with_reducible refine Ext.setCell ?_ (by simp; omega) _) | (with_reducible refine Ext.setCell ?_ (by simp) _))) y6
      have E6 := E5.trans y6'
      have O6 := (HO5.out.ext (Nat.le_refl _) y6').wide (Nat.le_refl _) y6'.size
      go_wp2_with fail
      refine (toTransformS_any 0 W.heap.size _ n f _ (HV.out.ext (Nat.le_refl _) E6) E6.size hlen).mono ?_
      rintro e w7 ⟨v7, rfl, O7, y7⟩
      have E7 := E6.trans y7
      go_wp2_with fail
      refine (eqTransformS_same _ _ _ _ _ _ n f _ (O6.ext (Nat.le_refl _) y7) O7 y7.size (Nat.le_refl _)).mono ?_
      rintro e w8 ⟨rfl, y8⟩
      have E8 := E7.trans y8
      go_wp2_with fail
      go_ret
      exact ⟨rfl, E8⟩
  · have hs := hid (show szRes 1048576 n = -1 by unfold szRes; rw [if_pos (by omega)])
    go_enter Try.func3, Try.ntmps3
    go_wp2_with fail
    refine (szTransformS_val hs.out 0 W.heap.size _ f _ (HV.out.ext (Nat.le_refl _) (by repeat (with_reducible (first | assumption | exact Ext.refl _ | apply Ext.alloc | apply Ext.drew | apply Ext.drewN))))).mono ?_
    rintro e w1 ⟨rfl, x1⟩
    have E1 : Ext W w1 := Ext.trans (by repeat (with_reducible (first | assumption | exact Ext.refl _ | apply Ext.alloc | apply Ext.drew | apply Ext.drewN))) x1
    go_wp2_with fail
    go_ret
    exact ⟨rfl, E1⟩
end Go.Proofs.Yteeclghkfcanlaa
