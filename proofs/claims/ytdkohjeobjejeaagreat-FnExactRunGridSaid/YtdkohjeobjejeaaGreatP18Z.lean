/- Texts of this claim, one behind another: LawRun, LiftTex, Leaf, LiftCod, P18. -/
import Derived.Test.YtdkohjeobjejeaaGreatP18Y2
import Derived.Test.YtdkohjeobjejeaaGreatEx2
import Derived.OpenShut
import Derived.ShutString
import Derived.ChangeOld
import Derived.Below
import Derived.Carry
import Derived.Lib.SmallJoins
import Derived.Test.YtdkohjeobjejeaaGreatFlat
import Derived.Deep.Slices
import Derived.Deep.Strs
import Derived.Test.YtdkohjeobjejeaaGreatRows
import Derived.ProofKit
section
/- This text proves that the law on RunGrid returns true, whatever the code and the grid. -/
namespace Go.Proofs.YtdkohjeobjejeaaGreat
open Go.RowKit

set_option maxRecDepth 20000 in
set_option maxHeartbeats 6400000 in
theorem lawRun (v : Value) (c : Cod) (u : Value) (g : Grd) (W : World) (hc : c.R 0 W.heap.size W v) (hb : c.bd) (hg : g.R 0 W.heap.size W u) :
    Calls Tryz.prog 3 #[v, u] W fun e w' => e = .returned (.bool true) ∧ Ext W w' := by
  obtain ⟨b, eb⟩ : ∃ b, (c.runB && g.okB) = b := ⟨_, rfl⟩
  obtain ⟨S, eS⟩ : ∃ S, c.res g = S := ⟨_, rfl⟩
  have HC := hid hc
  have HG := hid hg
  have HB := hid hb
  have EB := hid eb
  have ES := hid eS
  obtain ⟨iu, lu, rfl, _⟩ := hc
  obtain ⟨pu, tu, rfl, _⟩ := hg
  clear hb eb eS
  go_enter Tryz.func3, Tryz.ntmps3
  go_wp2_with fail
  refine (szCode_any 0 W.heap.size _ c 1048576 _ (HC.out.ext (Nat.le_refl _) (by repeat (with_reducible (first | assumption | exact Ext.refl _ | apply Ext.alloc | apply Ext.drew | apply Ext.drewN)))) (by simp; omega) HB.out (by decide) (by decide)).mono ?_
  rintro e w1 ⟨⟨r, rfl, hr⟩, x1⟩
  have BP := hid (((Bx.made W #[iu, lu] _).ext ((Ext.refl _).alloc _)).ext x1)
  have BQ := hid ((Bx.madeAt (B := W.heap.size + 1) (W.alloc _) #[.int .i64 g.n, pu, .int .i64 g.tm, .int .i64 g.t.log, tu] _ (by simp)).ext x1)
  have E : Ext W w1 := Ext.trans (by repeat (with_reducible (first | assumption | exact Ext.refl _ | apply Ext.alloc | apply Ext.drew | apply Ext.drewN))) x1
  clear x1
  have p := BP.out.lt
  have p0 := BP.out.cell 0
  simp only [List.getElem?_toArray, List.getElem?_cons_zero, List.getElem?_cons_succ] at p0
  have p1 := BP.out.cell 1
  simp only [List.getElem?_toArray, List.getElem?_cons_zero, List.getElem?_cons_succ] at p1
  have q := BQ.out.lt
  have q0 := BQ.out.cell 0
  simp only [List.getElem?_toArray, List.getElem?_cons_zero, List.getElem?_cons_succ] at q0
  have q1 := BQ.out.cell 1
  simp only [List.getElem?_toArray, List.getElem?_cons_zero, List.getElem?_cons_succ] at q1
  have q2 := BQ.out.cell 2
  simp only [List.getElem?_toArray, List.getElem?_cons_zero, List.getElem?_cons_succ] at q2
  have q3 := BQ.out.cell 3
  simp only [List.getElem?_toArray, List.getElem?_cons_zero, List.getElem?_cons_succ] at q3
  have q4 := BQ.out.cell 4
  simp only [List.getElem?_toArray, List.getElem?_cons_zero, List.getElem?_cons_succ] at q4
  rcases hr with rfl | ⟨r0, r1, hs⟩
  · go_wp2_with fail
    go_ret
    exact ⟨rfl, E⟩
  have HS := hid hs
  clear hs
  go_wp2_with fail
  obtain ⟨r2, hr2⟩ : ∃ r2, g.sz r = r2 := ⟨_, rfl⟩
  refine (szGrid_val hr2 0 W.heap.size _ _ (HG.out.ext (Nat.le_refl _) E) E.size r0 r1).mono ?_
  rintro e w2 ⟨rfl, x2⟩
  replace BP := hid (BP.out.kp (x2.kp BP.out.lt))
  replace BQ := hid (BQ.out.kp (x2.kp BQ.out.lt))
  replace E := E.trans x2
  clear x2 p p0 p1 q q0 q1 q2 q3 q4
  have p := BP.out.lt
  have p0 := BP.out.cell 0
  simp only [List.getElem?_toArray, List.getElem?_cons_zero, List.getElem?_cons_succ] at p0
  have p1 := BP.out.cell 1
  simp only [List.getElem?_toArray, List.getElem?_cons_zero, List.getElem?_cons_succ] at p1
  have q := BQ.out.lt
  have q0 := BQ.out.cell 0
  simp only [List.getElem?_toArray, List.getElem?_cons_zero, List.getElem?_cons_succ] at q0
  have q1 := BQ.out.cell 1
  simp only [List.getElem?_toArray, List.getElem?_cons_zero, List.getElem?_cons_succ] at q1
  have q2 := BQ.out.cell 2
  simp only [List.getElem?_toArray, List.getElem?_cons_zero, List.getElem?_cons_succ] at q2
  have q3 := BQ.out.cell 3
  simp only [List.getElem?_toArray, List.getElem?_cons_zero, List.getElem?_cons_succ] at q3
  have q4 := BQ.out.cell 4
  simp only [List.getElem?_toArray, List.getElem?_cons_zero, List.getElem?_cons_succ] at q4
  by_cases hn : r2 < 0
  · go_wp2_with fail
    go_ret
    exact ⟨rfl, E⟩
  have hz := Grd.sz_small r0 r1 (by rw [hr2]; exact hn)
  have GS := hid hz.1
  have pW := BQ.out.lt
  clear hz hr2 r0 r1
  go_wp2_with fail
  have zE := E.size
  refine wp_region_stages [([0, 2], 1), ([], 3), ([], 4), ([5, 6, 7, 8], 9)] 99 w2.heap.size (by kernel_rfl) (by kernel_rfl) ?_
  refine wpStages_cons ?_
  simp only [List.filterMap_cons, List.filterMap_nil, List.getElem?_toArray, List.getElem?_cons_zero, List.getElem?_cons_succ]
  show wpQuiet _ _ _ _ [_, _] _
  repeat (go_big_quiet_step (fail))
  refine wpQuiet_nil ⟨_, rfl, fun K hK => ?_⟩
  go_wp2_with fail
  refine (toCode_any 0 W.heap.size _ c w2.drew (HC.out.ext (Nat.le_refl _) E.drew) zE HS.out).mono ?_
  rintro e w3 ⟨v3, rfl, O3, x3⟩
  have y3 : Ext w2 w3 := Ext.trans (by repeat (with_reducible (first | assumption | exact Ext.refl _ | apply Ext.alloc | apply Ext.drew | apply Ext.drewN))) x3
  have z3 := y3.size
  go_wp2_with fail
  refine hK _ _ (.inr (y3.same (Nat.le_refl _))) ?_
  clear hK K
  refine wpStages_cons ?_
  simp only [List.filterMap_nil]
  show wpQuiet _ _ _ _ [] _
  try simp only [Act.put, List.setIfInBounds_toArray, List.set_cons_succ, List.set_cons_zero]
  repeat (go_big_quiet_step (fail))
  refine wpQuiet_nil ⟨_, rfl, fun K hK => ?_⟩
  go_wp2_with fail
  refine (toGrid_any 0 W.heap.size _ g _ (HG.out.ext (Nat.le_refl _) (E.trans y3)) (by omega) GS.out).mono ?_
  rintro e w4 ⟨v4, rfl, O4, x4⟩
  have y4 : Ext w2 w4 := y3.trans x4
  have z4 := x4.size
  go_wp2_with fail
  refine hK _ _ (.inr (y4.same (Nat.le_refl _))) ?_
  clear hK K
  refine wpStages_cons ?_
  simp only [List.filterMap_nil]
  show wpQuiet _ _ _ _ [] _
  try simp only [Act.put, List.setIfInBounds_toArray, List.set_cons_succ, List.set_cons_zero]
  repeat (go_big_quiet_step (fail))
  refine wpQuiet_nil ⟨_, rfl, fun K hK => ?_⟩
  go_wp2_with fail
  refine (sRunGrid_one _ _ _ _ _ _ c g _ EB.out ES.out (O3.kp (x4.kp (Nat.le_refl _))).R (by omega) O4.R (Nat.le_refl _) HS.out).mono ?_
  rintro e w5 ⟨h5, rfl, S5, x5⟩
  have y5 : Ext w2 w5 := y4.trans x5
  have z5 := x5.size
  go_wp2_with fail
  refine hK _ _ (.inr (y5.same (Nat.le_refl _))) ?_
  clear hK K
  refine wpStages_cons ?_
  simp only [List.filterMap_cons, List.filterMap_nil, List.getElem?_toArray, List.getElem?_cons_zero, List.getElem?_cons_succ]
  show wpQuiet _ _ _ _ [_, _, _, _] _
  try simp only [Act.put, List.setIfInBounds_toArray, List.set_cons_succ, List.set_cons_zero]
  repeat (go_big_quiet_step (fail))
  refine wpQuiet_nil ⟨_, rfl, fun K hK => ?_⟩
  go_wp2_with fail
  refine hK _ _ (.inr (y5.same (Nat.le_refl _))) ?_
  clear hK K
  refine wpStages_nil ?_
  replace BP := hid (BP.out.kp (y5.kp BP.out.lt))
  replace BQ := hid (BQ.out.kp (y5.kp BQ.out.lt))
  replace E := E.trans y5
  have SH := hid S5
  clear p p0 p1 q q0 q1 q2 q3 q4 x3 y3 x4 y4 x5 y5 O3 O4 S5
  have p := BP.out.lt
  have p0 := BP.out.cell 0
  simp only [List.getElem?_toArray, List.getElem?_cons_zero, List.getElem?_cons_succ] at p0
  have p1 := BP.out.cell 1
  simp only [List.getElem?_toArray, List.getElem?_cons_zero, List.getElem?_cons_succ] at p1
  have q := BQ.out.lt
  have q0 := BQ.out.cell 0
  simp only [List.getElem?_toArray, List.getElem?_cons_zero, List.getElem?_cons_succ] at q0
  have q1 := BQ.out.cell 1
  simp only [List.getElem?_toArray, List.getElem?_cons_zero, List.getElem?_cons_succ] at q1
  have q2 := BQ.out.cell 2
  simp only [List.getElem?_toArray, List.getElem?_cons_zero, List.getElem?_cons_succ] at q2
  have q3 := BQ.out.cell 3
  simp only [List.getElem?_toArray, List.getElem?_cons_zero, List.getElem?_cons_succ] at q3
  have q4 := BQ.out.cell 4
  simp only [List.getElem?_toArray, List.getElem?_cons_zero, List.getElem?_cons_succ] at q4
  go_wp2_with fail
  have zE := E.size
  refine (toCode_any 0 W.heap.size _ c _ (HC.out.ext (Nat.le_refl _) E) zE HS.out).mono ?_
  rintro e w6 ⟨v6, rfl, O6, x6⟩
  have z6 := x6.size
  replace BP := hid (BP.out.kp (x6.kp BP.out.lt))
  replace BQ := hid (BQ.out.kp (x6.kp BQ.out.lt))
  replace SH := hid (SH.out.kp (x6.kp (by first | omega | (simp; omega))))
  replace E := E.trans x6
  have OX := hid O6
  obtain ⟨c1, c2, rfl⟩ := O6.form
  clear x6 O6 p p0 p1 q q0 q1 q2 q3 q4
  have p := BP.out.lt
  have p0 := BP.out.cell 0
  simp only [List.getElem?_toArray, List.getElem?_cons_zero, List.getElem?_cons_succ] at p0
  have p1 := BP.out.cell 1
  simp only [List.getElem?_toArray, List.getElem?_cons_zero, List.getElem?_cons_succ] at p1
  have q := BQ.out.lt
  have q0 := BQ.out.cell 0
  simp only [List.getElem?_toArray, List.getElem?_cons_zero, List.getElem?_cons_succ] at q0
  have q1 := BQ.out.cell 1
  simp only [List.getElem?_toArray, List.getElem?_cons_zero, List.getElem?_cons_succ] at q1
  have q2 := BQ.out.cell 2
  simp only [List.getElem?_toArray, List.getElem?_cons_zero, List.getElem?_cons_succ] at q2
  have q3 := BQ.out.cell 3
  simp only [List.getElem?_toArray, List.getElem?_cons_zero, List.getElem?_cons_succ] at q3
  have q4 := BQ.out.cell 4
  simp only [List.getElem?_toArray, List.getElem?_cons_zero, List.getElem?_cons_succ] at q4
  go_wp2_with fail
  refine (toGrid_any 0 W.heap.size _ g _ (HG.out.ext (Nat.le_refl _) (by repeat (with_reducible (first | assumption | exact Ext.refl _ | apply Ext.alloc | apply Ext.drew | apply Ext.drewN)))) (by simp; omega) GS.out).mono ?_
  rintro e w7 ⟨v7, rfl, O7, x7⟩
  have BX := hid ((Bx.made w6 #[.slice (some ⟨c1, 0, none⟩) c.xs.length c.xs.length, .slice (some ⟨c2, 0, none⟩) c.ls.length c.ls.length] _).ext x7)
  have y7 : Ext w6 w7 := Ext.trans (by repeat (with_reducible (first | assumption | exact Ext.refl _ | apply Ext.alloc | apply Ext.drew | apply Ext.drewN))) x7
  have z7 := x7.size
  simp only [World.size_alloc] at z7 O7
  replace BP := hid (BP.out.kp (y7.kp BP.out.lt))
  replace BQ := hid (BQ.out.kp (y7.kp BQ.out.lt))
  replace SH := hid (SH.out.kp (y7.kp (by first | omega | (simp; omega))))
  replace OX := hid (OX.out.kp (y7.kp (by first | omega | (simp; omega))))
  replace E := E.trans y7
  have OY := hid O7
  obtain ⟨g1, g2, g3, rfl⟩ := O7.form
  clear x7 y7 O7 p p0 p1 q q0 q1 q2 q3 q4
  have p := BP.out.lt
  have p0 := BP.out.cell 0
  simp only [List.getElem?_toArray, List.getElem?_cons_zero, List.getElem?_cons_succ] at p0
  have p1 := BP.out.cell 1
  simp only [List.getElem?_toArray, List.getElem?_cons_zero, List.getElem?_cons_succ] at p1
  have q := BQ.out.lt
  have q0 := BQ.out.cell 0
  simp only [List.getElem?_toArray, List.getElem?_cons_zero, List.getElem?_cons_succ] at q0
  have q1 := BQ.out.cell 1
  simp only [List.getElem?_toArray, List.getElem?_cons_zero, List.getElem?_cons_succ] at q1
  have q2 := BQ.out.cell 2
  simp only [List.getElem?_toArray, List.getElem?_cons_zero, List.getElem?_cons_succ] at q2
  have q3 := BQ.out.cell 3
  simp only [List.getElem?_toArray, List.getElem?_cons_zero, List.getElem?_cons_succ] at q3
  have q4 := BQ.out.cell 4
  simp only [List.getElem?_toArray, List.getElem?_cons_zero, List.getElem?_cons_succ] at q4
  have x := BX.out.lt
  have x0 := BX.out.cell 0
  simp only [List.getElem?_toArray, List.getElem?_cons_zero, List.getElem?_cons_succ] at x0
  have x1 := BX.out.cell 1
  simp only [List.getElem?_toArray, List.getElem?_cons_zero, List.getElem?_cons_succ] at x1
  go_wp2_with fail
  refine (iRunGrid_one _ _ _ _ _ _ c g _ EB.out ES.out (OX.out.kp (Ext.kp (by repeat (with_reducible (first | assumption | exact Ext.refl _ | apply Ext.alloc | apply Ext.drew | apply Ext.drewN))) (by omega))).R (by simp; omega) (OY.out.kp (Ext.kp (by repeat (with_reducible (first | assumption | exact Ext.refl _ | apply Ext.alloc | apply Ext.drew | apply Ext.drewN))) (by omega))).R (by simp) HS.out).mono ?_
  rintro e w8 ⟨r8, rfl, O8, x8⟩
  have BY := hid ((Bx.made w7 #[.int .i64 g.n, .slice (some ⟨g1, 0, none⟩) g.m g.m, .int .i64 g.tm, .int .i64 g.t.log, .slice g2 g.t.px.length g3] _).ext x8)
  have y8 : Ext w7 w8 := Ext.trans (by repeat (with_reducible (first | assumption | exact Ext.refl _ | apply Ext.alloc | apply Ext.drew | apply Ext.drewN))) x8
  have z8 := x8.size
  simp only [World.size_alloc] at z8 O8
  replace BP := hid (BP.out.kp (y8.kp BP.out.lt))
  replace BQ := hid (BQ.out.kp (y8.kp BQ.out.lt))
  replace SH := hid (SH.out.kp (y8.kp (by first | omega | (simp; omega))))
  replace OX := hid (OX.out.kp (y8.kp (by first | omega | (simp; omega))))
  replace OY := hid (OY.out.kp (y8.kp (by first | omega | (simp; omega))))
  replace BX := hid (BX.out.kp (y8.kp BX.out.lt))
  replace E := E.trans y8
  have OR := hid O8.o
  obtain ⟨r1, r2, rfl⟩ := O8.o.form
  clear x8 y8 O8 p p0 p1 q q0 q1 q2 q3 q4 x x0 x1
  have p := BP.out.lt
  have p0 := BP.out.cell 0
  simp only [List.getElem?_toArray, List.getElem?_cons_zero, List.getElem?_cons_succ] at p0
  have p1 := BP.out.cell 1
  simp only [List.getElem?_toArray, List.getElem?_cons_zero, List.getElem?_cons_succ] at p1
  have q := BQ.out.lt
  have q0 := BQ.out.cell 0
  simp only [List.getElem?_toArray, List.getElem?_cons_zero, List.getElem?_cons_succ] at q0
  have q1 := BQ.out.cell 1
  simp only [List.getElem?_toArray, List.getElem?_cons_zero, List.getElem?_cons_succ] at q1
  have q2 := BQ.out.cell 2
  simp only [List.getElem?_toArray, List.getElem?_cons_zero, List.getElem?_cons_succ] at q2
  have q3 := BQ.out.cell 3
  simp only [List.getElem?_toArray, List.getElem?_cons_zero, List.getElem?_cons_succ] at q3
  have q4 := BQ.out.cell 4
  simp only [List.getElem?_toArray, List.getElem?_cons_zero, List.getElem?_cons_succ] at q4
  have x := BX.out.lt
  have x0 := BX.out.cell 0
  simp only [List.getElem?_toArray, List.getElem?_cons_zero, List.getElem?_cons_succ] at x0
  have x1 := BX.out.cell 1
  simp only [List.getElem?_toArray, List.getElem?_cons_zero, List.getElem?_cons_succ] at x1
  have y := BY.out.lt
  have y0 := BY.out.cell 0
  simp only [List.getElem?_toArray, List.getElem?_cons_zero, List.getElem?_cons_succ] at y0
  have y1 := BY.out.cell 1
  simp only [List.getElem?_toArray, List.getElem?_cons_zero, List.getElem?_cons_succ] at y1
  have y2 := BY.out.cell 2
  simp only [List.getElem?_toArray, List.getElem?_cons_zero, List.getElem?_cons_succ] at y2
  have y3 := BY.out.cell 3
  simp only [List.getElem?_toArray, List.getElem?_cons_zero, List.getElem?_cons_succ] at y3
  have y4 := BY.out.cell 4
  simp only [List.getElem?_toArray, List.getElem?_cons_zero, List.getElem?_cons_succ] at y4
  go_wp2_with fail
  refine (eqIntSS_same _ _ _ _ _ _ S _ OR.out.ss SH.out (Nat.le_refl _) (by omega)).mono ?_
  rintro e w9 ⟨rfl, x9⟩
  have z9 := x9.size
  replace BP := hid (BP.out.kp (x9.kp BP.out.lt))
  replace BQ := hid (BQ.out.kp (x9.kp BQ.out.lt))
  replace SH := hid (SH.out.kp (x9.kp (by first | omega | (simp; omega))))
  replace OX := hid (OX.out.kp (x9.kp (by first | omega | (simp; omega))))
  replace OY := hid (OY.out.kp (x9.kp (by first | omega | (simp; omega))))
  replace BX := hid (BX.out.kp (x9.kp BX.out.lt))
  replace BY := hid (BY.out.kp (x9.kp BY.out.lt))
  replace OR := hid (OR.out.kp (x9.kp (by first | omega | (simp; omega))))
  replace E := E.trans x9
  clear x9 p p0 p1 q q0 q1 q2 q3 q4 x x0 x1 y y0 y1 y2 y3 y4
  have p := BP.out.lt
  have p0 := BP.out.cell 0
  simp only [List.getElem?_toArray, List.getElem?_cons_zero, List.getElem?_cons_succ] at p0
  have p1 := BP.out.cell 1
  simp only [List.getElem?_toArray, List.getElem?_cons_zero, List.getElem?_cons_succ] at p1
  have q := BQ.out.lt
  have q0 := BQ.out.cell 0
  simp only [List.getElem?_toArray, List.getElem?_cons_zero, List.getElem?_cons_succ] at q0
  have q1 := BQ.out.cell 1
  simp only [List.getElem?_toArray, List.getElem?_cons_zero, List.getElem?_cons_succ] at q1
  have q2 := BQ.out.cell 2
  simp only [List.getElem?_toArray, List.getElem?_cons_zero, List.getElem?_cons_succ] at q2
  have q3 := BQ.out.cell 3
  simp only [List.getElem?_toArray, List.getElem?_cons_zero, List.getElem?_cons_succ] at q3
  have q4 := BQ.out.cell 4
  simp only [List.getElem?_toArray, List.getElem?_cons_zero, List.getElem?_cons_succ] at q4
  have x := BX.out.lt
  have x0 := BX.out.cell 0
  simp only [List.getElem?_toArray, List.getElem?_cons_zero, List.getElem?_cons_succ] at x0
  have x1 := BX.out.cell 1
  simp only [List.getElem?_toArray, List.getElem?_cons_zero, List.getElem?_cons_succ] at x1
  have y := BY.out.lt
  have y0 := BY.out.cell 0
  simp only [List.getElem?_toArray, List.getElem?_cons_zero, List.getElem?_cons_succ] at y0
  have y1 := BY.out.cell 1
  simp only [List.getElem?_toArray, List.getElem?_cons_zero, List.getElem?_cons_succ] at y1
  have y2 := BY.out.cell 2
  simp only [List.getElem?_toArray, List.getElem?_cons_zero, List.getElem?_cons_succ] at y2
  have y3 := BY.out.cell 3
  simp only [List.getElem?_toArray, List.getElem?_cons_zero, List.getElem?_cons_succ] at y3
  have y4 := BY.out.cell 4
  simp only [List.getElem?_toArray, List.getElem?_cons_zero, List.getElem?_cons_succ] at y4
  go_wp2_with fail
  have zE := E.size
  refine wp_region_stages [([0, 1], 2), ([], 3), ([], 4)] 99 w9.heap.size (by kernel_rfl) (by kernel_rfl) ?_
  refine wpStages_cons ?_
  simp only [List.filterMap_cons, List.filterMap_nil, List.getElem?_toArray, List.getElem?_cons_zero, List.getElem?_cons_succ]
  show wpQuiet _ _ _ _ [_, _] _
  repeat (go_big_quiet_step (fail))
  refine wpQuiet_nil ⟨_, rfl, fun K hK => ?_⟩
  go_wp2_with fail
  refine (toCode_any 0 W.heap.size _ c w9.drew (HC.out.ext (Nat.le_refl _) E.drew) zE HS.out).mono ?_
  rintro e w10 ⟨v10, rfl, O10, x10⟩
  have y10 : Ext w9 w10 := Ext.trans (by repeat (with_reducible (first | assumption | exact Ext.refl _ | apply Ext.alloc | apply Ext.drew | apply Ext.drewN))) x10
  have z10 := y10.size
  go_wp2_with fail
  refine hK _ _ (.inr (y10.same (Nat.le_refl _))) ?_
  clear hK K
  refine wpStages_cons ?_
  simp only [List.filterMap_nil]
  show wpQuiet _ _ _ _ [] _
  try simp only [Act.put, List.setIfInBounds_toArray, List.set_cons_succ, List.set_cons_zero]
  repeat (go_big_quiet_step (fail))
  refine wpQuiet_nil ⟨_, rfl, fun K hK => ?_⟩
  go_wp2_with fail
  refine (eqCode_same _ _ _ _ _ _ c _ (OX.out.kp (y10.kp (by omega))).R (by omega) O10.R (Nat.le_refl _)).mono ?_
  rintro e w11 ⟨rfl, x11⟩
  have y11 : Ext w9 w11 := y10.trans x11
  have z11 := x11.size
  go_wp2_with fail
  refine hK _ _ (.inr (y11.same (Nat.le_refl _))) ?_
  clear hK K
  refine wpStages_cons ?_
  simp only [List.filterMap_nil]
  show wpQuiet _ _ _ _ [] _
  try simp only [Act.put, List.setIfInBounds_toArray, List.set_cons_succ, List.set_cons_zero]
  repeat (go_big_quiet_step (fail))
  refine wpQuiet_nil ⟨_, rfl, fun K hK => ?_⟩
  go_wp2_with fail
  refine hK _ _ (.inr (y11.same (Nat.le_refl _))) ?_
  clear hK K
  refine wpStages_nil ?_
  replace BP := hid (BP.out.kp (y11.kp BP.out.lt))
  replace BQ := hid (BQ.out.kp (y11.kp BQ.out.lt))
  replace SH := hid (SH.out.kp (y11.kp (by first | omega | (simp; omega))))
  replace OX := hid (OX.out.kp (y11.kp (by first | omega | (simp; omega))))
  replace OY := hid (OY.out.kp (y11.kp (by first | omega | (simp; omega))))
  replace BX := hid (BX.out.kp (y11.kp BX.out.lt))
  replace BY := hid (BY.out.kp (y11.kp BY.out.lt))
  replace OR := hid (OR.out.kp (y11.kp (by first | omega | (simp; omega))))
  replace E := E.trans y11
  clear x10 y10 x11 y11 O10 p p0 p1 q q0 q1 q2 q3 q4 x x0 x1 y y0 y1 y2 y3 y4
  have p := BP.out.lt
  have p0 := BP.out.cell 0
  simp only [List.getElem?_toArray, List.getElem?_cons_zero, List.getElem?_cons_succ] at p0
  have p1 := BP.out.cell 1
  simp only [List.getElem?_toArray, List.getElem?_cons_zero, List.getElem?_cons_succ] at p1
  have q := BQ.out.lt
  have q0 := BQ.out.cell 0
  simp only [List.getElem?_toArray, List.getElem?_cons_zero, List.getElem?_cons_succ] at q0
  have q1 := BQ.out.cell 1
  simp only [List.getElem?_toArray, List.getElem?_cons_zero, List.getElem?_cons_succ] at q1
  have q2 := BQ.out.cell 2
  simp only [List.getElem?_toArray, List.getElem?_cons_zero, List.getElem?_cons_succ] at q2
  have q3 := BQ.out.cell 3
  simp only [List.getElem?_toArray, List.getElem?_cons_zero, List.getElem?_cons_succ] at q3
  have q4 := BQ.out.cell 4
  simp only [List.getElem?_toArray, List.getElem?_cons_zero, List.getElem?_cons_succ] at q4
  have x := BX.out.lt
  have x0 := BX.out.cell 0
  simp only [List.getElem?_toArray, List.getElem?_cons_zero, List.getElem?_cons_succ] at x0
  have x1 := BX.out.cell 1
  simp only [List.getElem?_toArray, List.getElem?_cons_zero, List.getElem?_cons_succ] at x1
  have y := BY.out.lt
  have y0 := BY.out.cell 0
  simp only [List.getElem?_toArray, List.getElem?_cons_zero, List.getElem?_cons_succ] at y0
  have y1 := BY.out.cell 1
  simp only [List.getElem?_toArray, List.getElem?_cons_zero, List.getElem?_cons_succ] at y1
  have y2 := BY.out.cell 2
  simp only [List.getElem?_toArray, List.getElem?_cons_zero, List.getElem?_cons_succ] at y2
  have y3 := BY.out.cell 3
  simp only [List.getElem?_toArray, List.getElem?_cons_zero, List.getElem?_cons_succ] at y3
  have y4 := BY.out.cell 4
  simp only [List.getElem?_toArray, List.getElem?_cons_zero, List.getElem?_cons_succ] at y4
  go_wp2_with fail
  have zE := E.size
  refine wp_region_stages [([0, 1], 2), ([], 3), ([], 4)] 99 w11.heap.size (by kernel_rfl) (by kernel_rfl) ?_
  refine wpStages_cons ?_
  simp only [List.filterMap_cons, List.filterMap_nil, List.getElem?_toArray, List.getElem?_cons_zero, List.getElem?_cons_succ]
  show wpQuiet _ _ _ _ [_, _] _
  repeat (go_big_quiet_step (fail))
  refine wpQuiet_nil ⟨_, rfl, fun K hK => ?_⟩
  go_wp2_with fail
  refine (toGrid_any 0 W.heap.size _ g w11.drew (HG.out.ext (Nat.le_refl _) E.drew) zE GS.out).mono ?_
  rintro e w12 ⟨v12, rfl, O12, x12⟩
  have y12 : Ext w11 w12 := Ext.trans (by repeat (with_reducible (first | assumption | exact Ext.refl _ | apply Ext.alloc | apply Ext.drew | apply Ext.drewN))) x12
  have z12 := y12.size
  go_wp2_with fail
  refine hK _ _ (.inr (y12.same (Nat.le_refl _))) ?_
  clear hK K
  refine wpStages_cons ?_
  simp only [List.filterMap_nil]
  show wpQuiet _ _ _ _ [] _
  try simp only [Act.put, List.setIfInBounds_toArray, List.set_cons_succ, List.set_cons_zero]
  repeat (go_big_quiet_step (fail))
  refine wpQuiet_nil ⟨_, rfl, fun K hK => ?_⟩
  go_wp2_with fail
  refine (eqGrid_same _ _ _ _ _ _ g _ (OY.out.kp (y12.kp (by omega))).R (by omega) O12.R (Nat.le_refl _)).mono ?_
  rintro e w13 ⟨rfl, x13⟩
  have y13 : Ext w11 w13 := y12.trans x13
  have z13 := x13.size
  go_wp2_with fail
  refine hK _ _ (.inr (y13.same (Nat.le_refl _))) ?_
  clear hK K
  refine wpStages_cons ?_
  simp only [List.filterMap_nil]
  show wpQuiet _ _ _ _ [] _
  try simp only [Act.put, List.setIfInBounds_toArray, List.set_cons_succ, List.set_cons_zero]
  repeat (go_big_quiet_step (fail))
  refine wpQuiet_nil ⟨_, rfl, fun K hK => ?_⟩
  go_wp2_with fail
  refine hK _ _ (.inr (y13.same (Nat.le_refl _))) ?_
  clear hK K
  refine wpStages_nil ?_
  replace BP := hid (BP.out.kp (y13.kp BP.out.lt))
  replace BQ := hid (BQ.out.kp (y13.kp BQ.out.lt))
  replace SH := hid (SH.out.kp (y13.kp (by first | omega | (simp; omega))))
  replace OX := hid (OX.out.kp (y13.kp (by first | omega | (simp; omega))))
  replace OY := hid (OY.out.kp (y13.kp (by first | omega | (simp; omega))))
  replace BX := hid (BX.out.kp (y13.kp BX.out.lt))
  replace BY := hid (BY.out.kp (y13.kp BY.out.lt))
  replace OR := hid (OR.out.kp (y13.kp (by first | omega | (simp; omega))))
  replace E := E.trans y13
  clear x12 y12 x13 y13 O12 p p0 p1 q q0 q1 q2 q3 q4 x x0 x1 y y0 y1 y2 y3 y4
  have p := BP.out.lt
  have p0 := BP.out.cell 0
  simp only [List.getElem?_toArray, List.getElem?_cons_zero, List.getElem?_cons_succ] at p0
  have p1 := BP.out.cell 1
  simp only [List.getElem?_toArray, List.getElem?_cons_zero, List.getElem?_cons_succ] at p1
  have q := BQ.out.lt
  have q0 := BQ.out.cell 0
  simp only [List.getElem?_toArray, List.getElem?_cons_zero, List.getElem?_cons_succ] at q0
  have q1 := BQ.out.cell 1
  simp only [List.getElem?_toArray, List.getElem?_cons_zero, List.getElem?_cons_succ] at q1
  have q2 := BQ.out.cell 2
  simp only [List.getElem?_toArray, List.getElem?_cons_zero, List.getElem?_cons_succ] at q2
  have q3 := BQ.out.cell 3
  simp only [List.getElem?_toArray, List.getElem?_cons_zero, List.getElem?_cons_succ] at q3
  have q4 := BQ.out.cell 4
  simp only [List.getElem?_toArray, List.getElem?_cons_zero, List.getElem?_cons_succ] at q4
  have x := BX.out.lt
  have x0 := BX.out.cell 0
  simp only [List.getElem?_toArray, List.getElem?_cons_zero, List.getElem?_cons_succ] at x0
  have x1 := BX.out.cell 1
  simp only [List.getElem?_toArray, List.getElem?_cons_zero, List.getElem?_cons_succ] at x1
  have y := BY.out.lt
  have y0 := BY.out.cell 0
  simp only [List.getElem?_toArray, List.getElem?_cons_zero, List.getElem?_cons_succ] at y0
  have y1 := BY.out.cell 1
  simp only [List.getElem?_toArray, List.getElem?_cons_zero, List.getElem?_cons_succ] at y1
  have y2 := BY.out.cell 2
  simp only [List.getElem?_toArray, List.getElem?_cons_zero, List.getElem?_cons_succ] at y2
  have y3 := BY.out.cell 3
  simp only [List.getElem?_toArray, List.getElem?_cons_zero, List.getElem?_cons_succ] at y3
  have y4 := BY.out.cell 4
  simp only [List.getElem?_toArray, List.getElem?_cons_zero, List.getElem?_cons_succ] at y4
  go_wp2_with fail
  refine (markCode_any _ _ _ c 1 _ OX.out (by omega) (by decide)).mono ?_
  rintro e w14 ⟨⟨k14, rfl, hk14⟩, x14⟩
  have z14 := x14.size
  have zE := E.size
  replace BP := hid (BP.out.kp (x14.kp BP.out.lt (by first | omega | (simp; omega))))
  replace BQ := hid (BQ.out.kp (x14.kp BQ.out.lt (by first | omega | (simp; omega))))
  replace SH := hid (SH.out.kp (x14.kp (by first | omega | (simp; omega)) (by first | omega | (simp; omega))))
  replace OY := hid (OY.out.kp (x14.kp (by first | omega | (simp; omega)) (by first | omega | (simp; omega))))
  replace BX := hid (BX.out.kp (x14.kp BX.out.lt (by first | omega | (simp; omega))))
  replace BY := hid (BY.out.kp (x14.kp BY.out.lt (by first | omega | (simp; omega))))
  replace OR := hid (OR.out.kp (x14.kp (by first | omega | (simp; omega)) (by first | omega | (simp; omega))))
  replace E := x14.ext E (by omega)
  clear x14 OX p p0 p1 q q0 q1 q2 q3 q4 x x0 x1 y y0 y1 y2 y3 y4
  have p := BP.out.lt
  have p0 := BP.out.cell 0
  simp only [List.getElem?_toArray, List.getElem?_cons_zero, List.getElem?_cons_succ] at p0
  have p1 := BP.out.cell 1
  simp only [List.getElem?_toArray, List.getElem?_cons_zero, List.getElem?_cons_succ] at p1
  have q := BQ.out.lt
  have q0 := BQ.out.cell 0
  simp only [List.getElem?_toArray, List.getElem?_cons_zero, List.getElem?_cons_succ] at q0
  have q1 := BQ.out.cell 1
  simp only [List.getElem?_toArray, List.getElem?_cons_zero, List.getElem?_cons_succ] at q1
  have q2 := BQ.out.cell 2
  simp only [List.getElem?_toArray, List.getElem?_cons_zero, List.getElem?_cons_succ] at q2
  have q3 := BQ.out.cell 3
  simp only [List.getElem?_toArray, List.getElem?_cons_zero, List.getElem?_cons_succ] at q3
  have q4 := BQ.out.cell 4
  simp only [List.getElem?_toArray, List.getElem?_cons_zero, List.getElem?_cons_succ] at q4
  have x := BX.out.lt
  have x0 := BX.out.cell 0
  simp only [List.getElem?_toArray, List.getElem?_cons_zero, List.getElem?_cons_succ] at x0
  have x1 := BX.out.cell 1
  simp only [List.getElem?_toArray, List.getElem?_cons_zero, List.getElem?_cons_succ] at x1
  have y := BY.out.lt
  have y0 := BY.out.cell 0
  simp only [List.getElem?_toArray, List.getElem?_cons_zero, List.getElem?_cons_succ] at y0
  have y1 := BY.out.cell 1
  simp only [List.getElem?_toArray, List.getElem?_cons_zero, List.getElem?_cons_succ] at y1
  have y2 := BY.out.cell 2
  simp only [List.getElem?_toArray, List.getElem?_cons_zero, List.getElem?_cons_succ] at y2
  have y3 := BY.out.cell 3
  simp only [List.getElem?_toArray, List.getElem?_cons_zero, List.getElem?_cons_succ] at y3
  have y4 := BY.out.cell 4
  simp only [List.getElem?_toArray, List.getElem?_cons_zero, List.getElem?_cons_succ] at y4
  go_wp2_with fail
  refine (markGrid_any _ _ _ g k14 _ OY.out (by omega) GS.out (by omega) (by omega)).mono ?_
  rintro e w15 ⟨⟨k15, rfl, hk15, hk15'⟩, x15⟩
  have z15 := x15.size
  have zE := E.size
  replace BP := hid (BP.out.kp (x15.kp BP.out.lt (by first | omega | (simp; omega))))
  replace BQ := hid (BQ.out.kp (x15.kp BQ.out.lt (by first | omega | (simp; omega))))
  replace SH := hid (SH.out.kp (x15.kp (by first | omega | (simp; omega)) (by first | omega | (simp; omega))))
  replace BX := hid (BX.out.kp (x15.kp BX.out.lt (by first | omega | (simp; omega))))
  replace BY := hid (BY.out.kp (x15.kp BY.out.lt (by first | omega | (simp; omega))))
  replace OR := hid (OR.out.kp (x15.kp (by first | omega | (simp; omega)) (by first | omega | (simp; omega))))
  replace E := x15.ext E (by omega)
  clear x15 OY p p0 p1 q q0 q1 q2 q3 q4 x x0 x1 y y0 y1 y2 y3 y4
  have p := BP.out.lt
  have p0 := BP.out.cell 0
  simp only [List.getElem?_toArray, List.getElem?_cons_zero, List.getElem?_cons_succ] at p0
  have p1 := BP.out.cell 1
  simp only [List.getElem?_toArray, List.getElem?_cons_zero, List.getElem?_cons_succ] at p1
  have q := BQ.out.lt
  have q0 := BQ.out.cell 0
  simp only [List.getElem?_toArray, List.getElem?_cons_zero, List.getElem?_cons_succ] at q0
  have q1 := BQ.out.cell 1
  simp only [List.getElem?_toArray, List.getElem?_cons_zero, List.getElem?_cons_succ] at q1
  have q2 := BQ.out.cell 2
  simp only [List.getElem?_toArray, List.getElem?_cons_zero, List.getElem?_cons_succ] at q2
  have q3 := BQ.out.cell 3
  simp only [List.getElem?_toArray, List.getElem?_cons_zero, List.getElem?_cons_succ] at q3
  have q4 := BQ.out.cell 4
  simp only [List.getElem?_toArray, List.getElem?_cons_zero, List.getElem?_cons_succ] at q4
  have x := BX.out.lt
  have x0 := BX.out.cell 0
  simp only [List.getElem?_toArray, List.getElem?_cons_zero, List.getElem?_cons_succ] at x0
  have x1 := BX.out.cell 1
  simp only [List.getElem?_toArray, List.getElem?_cons_zero, List.getElem?_cons_succ] at x1
  have y := BY.out.lt
  have y0 := BY.out.cell 0
  simp only [List.getElem?_toArray, List.getElem?_cons_zero, List.getElem?_cons_succ] at y0
  have y1 := BY.out.cell 1
  simp only [List.getElem?_toArray, List.getElem?_cons_zero, List.getElem?_cons_succ] at y1
  have y2 := BY.out.cell 2
  simp only [List.getElem?_toArray, List.getElem?_cons_zero, List.getElem?_cons_succ] at y2
  have y3 := BY.out.cell 3
  simp only [List.getElem?_toArray, List.getElem?_cons_zero, List.getElem?_cons_succ] at y3
  have y4 := BY.out.cell 4
  simp only [List.getElem?_toArray, List.getElem?_cons_zero, List.getElem?_cons_succ] at y4
  go_wp2_with fail
  refine (eqIntSS_same _ _ _ _ _ _ S _ OR.out.ss SH.out (Nat.le_refl _) (by omega)).mono ?_
  rintro e w16 ⟨rfl, x16⟩
  have z16 := x16.size
  replace BP := hid (BP.out.kp (x16.kp BP.out.lt))
  replace BQ := hid (BQ.out.kp (x16.kp BQ.out.lt))
  replace SH := hid (SH.out.kp (x16.kp (by first | omega | (simp; omega))))
  replace BX := hid (BX.out.kp (x16.kp BX.out.lt))
  replace BY := hid (BY.out.kp (x16.kp BY.out.lt))
  replace OR := hid (OR.out.kp (x16.kp (by first | omega | (simp; omega))))
  replace E := E.trans x16
  clear x16 p p0 p1 q q0 q1 q2 q3 q4 x x0 x1 y y0 y1 y2 y3 y4
  have p := BP.out.lt
  have p0 := BP.out.cell 0
  simp only [List.getElem?_toArray, List.getElem?_cons_zero, List.getElem?_cons_succ] at p0
  have p1 := BP.out.cell 1
  simp only [List.getElem?_toArray, List.getElem?_cons_zero, List.getElem?_cons_succ] at p1
  have q := BQ.out.lt
  have q0 := BQ.out.cell 0
  simp only [List.getElem?_toArray, List.getElem?_cons_zero, List.getElem?_cons_succ] at q0
  have q1 := BQ.out.cell 1
  simp only [List.getElem?_toArray, List.getElem?_cons_zero, List.getElem?_cons_succ] at q1
  have q2 := BQ.out.cell 2
  simp only [List.getElem?_toArray, List.getElem?_cons_zero, List.getElem?_cons_succ] at q2
  have q3 := BQ.out.cell 3
  simp only [List.getElem?_toArray, List.getElem?_cons_zero, List.getElem?_cons_succ] at q3
  have q4 := BQ.out.cell 4
  simp only [List.getElem?_toArray, List.getElem?_cons_zero, List.getElem?_cons_succ] at q4
  have x := BX.out.lt
  have x0 := BX.out.cell 0
  simp only [List.getElem?_toArray, List.getElem?_cons_zero, List.getElem?_cons_succ] at x0
  have x1 := BX.out.cell 1
  simp only [List.getElem?_toArray, List.getElem?_cons_zero, List.getElem?_cons_succ] at x1
  have y := BY.out.lt
  have y0 := BY.out.cell 0
  simp only [List.getElem?_toArray, List.getElem?_cons_zero, List.getElem?_cons_succ] at y0
  have y1 := BY.out.cell 1
  simp only [List.getElem?_toArray, List.getElem?_cons_zero, List.getElem?_cons_succ] at y1
  have y2 := BY.out.cell 2
  simp only [List.getElem?_toArray, List.getElem?_cons_zero, List.getElem?_cons_succ] at y2
  have y3 := BY.out.cell 3
  simp only [List.getElem?_toArray, List.getElem?_cons_zero, List.getElem?_cons_succ] at y3
  have y4 := BY.out.cell 4
  simp only [List.getElem?_toArray, List.getElem?_cons_zero, List.getElem?_cons_succ] at y4
  go_wp2_with fail
  have hT : tot S ≤ 4503599627370496 := by rw [← ES.out]; exact Cod.res_tot HS.out
  refine (markIntSS_any _ _ _ S _ OR.out (by omega) hT).mono ?_
  rintro e w17 ⟨rfl, O17, x17⟩
  have z17 := x17.size
  have zE := E.size
  replace BP := hid (BP.out.kp (x17.kp BP.out.lt (by first | omega | (simp; omega))))
  replace BQ := hid (BQ.out.kp (x17.kp BQ.out.lt (by first | omega | (simp; omega))))
  replace SH := hid (SH.out.kp (x17.kp (by first | omega | (simp; omega)) (by first | omega | (simp; omega))))
  replace E := x17.ext E (by omega)
  replace OR := hid O17
  clear x17 O17 BX BY p p0 p1 q q0 q1 q2 q3 q4 x x0 x1 y y0 y1 y2 y3 y4
  have p := BP.out.lt
  have p0 := BP.out.cell 0
  simp only [List.getElem?_toArray, List.getElem?_cons_zero, List.getElem?_cons_succ] at p0
  have p1 := BP.out.cell 1
  simp only [List.getElem?_toArray, List.getElem?_cons_zero, List.getElem?_cons_succ] at p1
  have q := BQ.out.lt
  have q0 := BQ.out.cell 0
  simp only [List.getElem?_toArray, List.getElem?_cons_zero, List.getElem?_cons_succ] at q0
  have q1 := BQ.out.cell 1
  simp only [List.getElem?_toArray, List.getElem?_cons_zero, List.getElem?_cons_succ] at q1
  have q2 := BQ.out.cell 2
  simp only [List.getElem?_toArray, List.getElem?_cons_zero, List.getElem?_cons_succ] at q2
  have q3 := BQ.out.cell 3
  simp only [List.getElem?_toArray, List.getElem?_cons_zero, List.getElem?_cons_succ] at q3
  have q4 := BQ.out.cell 4
  simp only [List.getElem?_toArray, List.getElem?_cons_zero, List.getElem?_cons_succ] at q4
  go_wp2_with fail
  refine (heldIntSS_mark _ _ _ S _ OR.out.ss (Nat.le_refl _) hT).mono ?_
  rintro e w18 ⟨rfl, x18⟩
  have z18 := x18.size
  replace BP := hid (BP.out.kp (x18.kp BP.out.lt))
  replace BQ := hid (BQ.out.kp (x18.kp BQ.out.lt))
  replace SH := hid (SH.out.kp (x18.kp (by first | omega | (simp; omega))))
  replace OR := hid (OR.out.kp (x18.kp (by first | omega | (simp; omega))))
  replace E := E.trans x18
  clear x18 p p0 p1 q q0 q1 q2 q3 q4
  have p := BP.out.lt
  have p0 := BP.out.cell 0
  simp only [List.getElem?_toArray, List.getElem?_cons_zero, List.getElem?_cons_succ] at p0
  have p1 := BP.out.cell 1
  simp only [List.getElem?_toArray, List.getElem?_cons_zero, List.getElem?_cons_succ] at p1
  have q := BQ.out.lt
  have q0 := BQ.out.cell 0
  simp only [List.getElem?_toArray, List.getElem?_cons_zero, List.getElem?_cons_succ] at q0
  have q1 := BQ.out.cell 1
  simp only [List.getElem?_toArray, List.getElem?_cons_zero, List.getElem?_cons_succ] at q1
  have q2 := BQ.out.cell 2
  simp only [List.getElem?_toArray, List.getElem?_cons_zero, List.getElem?_cons_succ] at q2
  have q3 := BQ.out.cell 3
  simp only [List.getElem?_toArray, List.getElem?_cons_zero, List.getElem?_cons_succ] at q3
  have q4 := BQ.out.cell 4
  simp only [List.getElem?_toArray, List.getElem?_cons_zero, List.getElem?_cons_succ] at q4
  go_wp2_with fail
  have zE := E.size
  refine wp_region_stages [([0, 2], 1), ([], 3), ([], 4), ([5, 6, 7, 8], 9)] 99 w18.heap.size (by kernel_rfl) (by kernel_rfl) ?_
  refine wpStages_cons ?_
  simp only [List.filterMap_cons, List.filterMap_nil, List.getElem?_toArray, List.getElem?_cons_zero, List.getElem?_cons_succ]
  show wpQuiet _ _ _ _ [_, _] _
  repeat (go_big_quiet_step (fail))
  refine wpQuiet_nil ⟨_, rfl, fun K hK => ?_⟩
  go_wp2_with fail
  refine (toCode_any 0 W.heap.size _ c w18.drew (HC.out.ext (Nat.le_refl _) E.drew) zE HS.out).mono ?_
  rintro e w19 ⟨v19, rfl, O19, x19⟩
  have y19 : Ext w18 w19 := Ext.trans (by repeat (with_reducible (first | assumption | exact Ext.refl _ | apply Ext.alloc | apply Ext.drew | apply Ext.drewN))) x19
  have z19 := y19.size
  go_wp2_with fail
  refine hK _ _ (.inr (y19.same (Nat.le_refl _))) ?_
  clear hK K
  refine wpStages_cons ?_
  simp only [List.filterMap_nil]
  show wpQuiet _ _ _ _ [] _
  try simp only [Act.put, List.setIfInBounds_toArray, List.set_cons_succ, List.set_cons_zero]
  repeat (go_big_quiet_step (fail))
  refine wpQuiet_nil ⟨_, rfl, fun K hK => ?_⟩
  go_wp2_with fail
  refine (toGrid_any 0 W.heap.size _ g _ (HG.out.ext (Nat.le_refl _) (E.trans y19)) (by omega) GS.out).mono ?_
  rintro e w20 ⟨v20, rfl, O20, x20⟩
  have y20 : Ext w18 w20 := y19.trans x20
  have z20 := x20.size
  go_wp2_with fail
  refine hK _ _ (.inr (y20.same (Nat.le_refl _))) ?_
  clear hK K
  refine wpStages_cons ?_
  simp only [List.filterMap_nil]
  show wpQuiet _ _ _ _ [] _
  try simp only [Act.put, List.setIfInBounds_toArray, List.set_cons_succ, List.set_cons_zero]
  repeat (go_big_quiet_step (fail))
  refine wpQuiet_nil ⟨_, rfl, fun K hK => ?_⟩
  go_wp2_with fail
  refine (iRunGrid_one _ _ _ _ _ _ c g _ EB.out ES.out (O19.kp (x20.kp (Nat.le_refl _))).R (by omega) O20.R (Nat.le_refl _) HS.out).mono ?_
  rintro e w21 ⟨r21, rfl, O21, x21⟩
  have y21 : Ext w18 w21 := y20.trans x21
  have z21 := x21.size
  go_wp2_with fail
  refine hK _ _ (.inr (y21.same (Nat.le_refl _))) ?_
  clear hK K
  refine wpStages_cons ?_
  simp only [List.filterMap_cons, List.filterMap_nil, List.getElem?_toArray, List.getElem?_cons_zero, List.getElem?_cons_succ]
  show wpQuiet _ _ _ _ [_, _, _, _] _
  try simp only [Act.put, List.setIfInBounds_toArray, List.set_cons_succ, List.set_cons_zero]
  repeat (go_big_quiet_step (fail))
  refine wpQuiet_nil ⟨_, rfl, fun K hK => ?_⟩
  go_wp2_with fail
  refine hK _ _ (.inr (y21.same (Nat.le_refl _))) ?_
  clear hK K
  refine wpStages_nil ?_
  replace SH := hid (SH.out.kp (y21.kp (by first | omega | (simp; omega))))
  replace OR := hid (OR.out.kp (y21.kp (by first | omega | (simp; omega))))
  replace E := E.trans y21
  have OT := hid O21.o
  clear p p0 p1 q q0 q1 q2 q3 q4 x19 y19 x20 y20 x21 y21 O19 O20 O21 BP BQ
  go_wp2_with fail
  refine (eqIntSS_same _ _ _ _ _ _ S _ OT.out.ss SH.out (Nat.le_refl _) (by omega)).mono ?_
  rintro e w22 ⟨rfl, x22⟩
  have z22 := x22.size
  replace OR := hid (OR.out.kp (x22.kp (by first | omega | (simp; omega))))
  replace E := E.trans x22
  clear x22 OT SH
  go_wp2_with fail
  refine (heldIntSS_mark _ _ _ S _ OR.out.ss (Nat.le_refl _) hT).mono ?_
  rintro e w23 ⟨rfl, x23⟩
  replace E := E.trans x23
  go_wp2_with fail
  go_ret
  exact ⟨rfl, E⟩
end Go.Proofs.YtdkohjeobjejeaaGreat
end

section
/- This text reads the laws' arguments off the data that the row speaks of: integers, slices of integers, textures. -/
namespace Go.Proofs.YtdkohjeobjejeaaGreat
open Go.ChangeShapes Go.WideShapes Go.ChangeAt Go.RowKit

theorem laidOut : laidOutB Tryz.prog = true := by kernel_rfl

section
variable {H : Type} {enc : TypeId × Value → H} {W : World} {base b0 : Nat} {sp : Nat → Bool} {held : Bool}

theorem wf_I64 {n : Int} (h : (Lit.int .i64 n).wf = true) : I64 n := by
  simp [Lit.wf, IntKind.min, IntKind.max, IntKind.signed, IntKind.bits] at h
  exact ⟨by omega, by omega⟩
set_option maxRecDepth 100000 in
theorem argInt {v : Value} {d : DataW H} {p : List MemPlace} (hv : Value.okWide Tryz.prog W .any b0 3 v) (h : DataW.Trod enc Tryz.prog W base sp held 3 v d p) : ∃ n, v = .int .i64 n ∧ I64 n := by
  obtain ⟨n, rfl, _, _, hw⟩ := open_int Tryz.underlying3 hv h
  exact ⟨n, rfl, wf_I64 hw⟩
set_option maxRecDepth 100000 in
/-- what lies behind the cell of a slice of integers -/
theorem cellInts {fuel : Nat} {c : Value} {y : DataW H × List MemPlace} (h : DataW.trod enc Tryz.prog W base sp held fuel 27 [c] = some y) : ∃ xs, Ints 0 W.heap.size W c xs := by
  rcases open_ints Tryz.underlying27 Tryz.underlying3 (by kernel_rfl) h with ⟨hcs, _⟩ | ⟨a, len, cap, zs, hcs, _, hl, hm, hz, _, hcell, hwz⟩
  · obtain rfl : c = .slice none 0 0 := by simpa using hcs
    exact ⟨[], none, 0, rfl, Nat.le_refl _, by unfold maxLen; omega, fun i x hx => by simp at hx⟩
  · obtain rfl : c = .slice (some a) len cap := by simpa using hcs
    have hlen : (zs.take len).length = len := by
      rw [List.length_take, hz]
      split <;> omega
    refine ⟨zs.take len, some a, cap, by rw [hlen], by omega, hm, fun i x hx => ?_⟩
    have hi : i < len := by have := (List.getElem?_eq_some_iff.1 hx).1; omega
    rw [List.getElem?_take, if_pos hi] at hx
    have hzi := (List.getElem?_eq_some_iff.1 hx).1
    have hxx : zs.getD i 0 = x := by simp [List.getD, hx]
    obtain ⟨b, o, s⟩ := a
    obtain rfl : s = none := by
      cases s with
      | none => rfl
      | some s =>
        have h0 := hcell 0 (by omega)
        simp only [World.cell?, Addr.add, if_true] at h0
        split at h0 <;> simp at h0
    have hc := hcell i hzi
    rw [hxx] at hc
    have ha : (⟨b, o, none⟩ : Addr).add i = ⟨b, o + i, none⟩ := by
      unfold Addr.add
      split
      · rename_i e; subst e; rfl
      · rfl
    rw [ha] at hc
    refine ⟨wf_I64 (hwz x (List.mem_of_getElem? hx)), b, o, rfl, Nat.zero_le _, ?_, hc⟩
    simp only [World.cell?] at hc
    split at hc
    · rename_i e; exact (Array.getElem?_eq_some_iff.1 e).1
    · cases hc
set_option maxRecDepth 100000 in
theorem argTex {v : Value} {d : DataW H} {p : List MemPlace} (hv : Value.okWide Tryz.prog W .any b0 29 v) (h : DataW.Trod enc Tryz.prog W base sp held 29 v d p) :
    ∃ t, TexR 0 W.heap.size W v t := by
  obtain ⟨v0, v1, y0, y1, n, rfl, rfl, rfl, h0, h1⟩ := Go.Joins.open_agg2 Tryz.underlying29 (by kernel_rfl) (by kernel_rfl) hv h
  obtain ⟨k, e0, _, hw⟩ := DataW.trod_int Tryz.underlying3 h0
  obtain rfl : v0 = .int .i64 k := by simpa using e0
  obtain ⟨xs, hx⟩ := cellInts h1
  exact ⟨⟨k, xs⟩, _, rfl, wf_I64 hw, hx⟩
end

end Go.Proofs.YtdkohjeobjejeaaGreat
end

section
/- This text reads the cells of nested structs and arrays off the data that a row speaks of: which type each cell has, and what lies behind it. -/
namespace Go.Proofs.YtdkohjeobjejeaaGreat
open Go.ChangeShapes Go.WideShapes Go.ChangeAt Go.RowKit

/-- the type of cell i of a value of type t, through structs and arrays -/
def leafAt (P : Program) : Nat → TypeId → Nat → Option TypeId
  | 0, _, _ => none
  | d + 1, t, i =>
    match P.underlying t with
    | some (.struct fs) =>
      match fs.toList.find? (fun f => decide (f.offset ≤ i) && decide (i < f.offset + P.cellsOf f.type)) with
      | some f =>
        match leafAt P d f.type (i - f.offset) with
        | some u => if (i - f.offset) + P.cellsOf u ≤ P.cellsOf f.type then some u else none
        | none => none
      | none => none
    | some (.array n e) =>
      if i / P.cellsOf e < n then
        match leafAt P d e (i % P.cellsOf e) with
        | some u => if (i % P.cellsOf e) + P.cellsOf u ≤ P.cellsOf e then some u else none
        | none => none
      else none
    | some _ => if i = 0 then some t else none
    | none => none

section
variable {H : Type} {enc : TypeId × Value → H} {P : Program} {W : World} {base : Nat} {sp : Nat → Bool} {held : Bool}

theorem take_drop_in {α : Type} (l : List α) (o k i c : Nat) (h1 : o ≤ i) (h2 : i - o + c ≤ k) : ((((l.drop o).take k).drop (i - o)).take c) = (l.drop i).take c := by
  rw [List.drop_take, List.take_take, List.drop_drop, Nat.min_eq_left (by omega)]
  congr 2
  omega

theorem trod_leaf (d : Nat) : ∀ {t u : TypeId} {i fuel : Nat} {cs : List Value} {x : DataW H × List MemPlace}, leafAt P d t i = some u → DataW.trod enc P W base sp held fuel t cs = some x →
    (i = 0 ∧ t = u) ∨ ∃ (m : Nat) (y : DataW H × List MemPlace), DataW.trod enc P W base sp held m u ((cs.drop i).take (P.cellsOf u)) = some y := by
  induction d with
  | zero => intro t u i fuel cs x h; simp [leafAt] at h
  | succ d ih =>
    intro t u i fuel cs x h hx
    unfold leafAt at h
    split at h
    · rename_i fs hfs
      split at h
      · rename_i f hf
        have hp := List.find?_some hf
        simp only [Bool.and_eq_true, decide_eq_true_eq] at hp
        have hm := List.mem_of_find?_eq_some hf
        split at h
        · rename_i u' hu
          split at h
          · rename_i hfit
            simp only [Option.some.injEq] at h
            subst h
            obtain ⟨xs, n, _, _, hl, hlen, hg⟩ := DataW.trod_struct hfs hx
            obtain ⟨j, hj⟩ := List.getElem?_of_mem hm
            have hj' : fs[j]? = some f := by simpa using hj
            have h1 := hg j f hj'
            have hjl : j < xs.length := by rw [hlen]; exact (Array.getElem?_eq_some_iff.1 hj').1
            rw [List.getElem?_eq_getElem hjl] at h1
            refine .inr ?_
            rcases ih hu h1 with ⟨h2, rfl⟩ | ⟨m, y, hy⟩
            · refine ⟨n, xs[j], ?_⟩
              have : f.offset = i := by omega
              rw [← this]
              exact h1
            · rw [take_drop_in _ _ _ _ _ hp.1 hfit] at hy
              exact ⟨m, y, hy⟩
          · cases h
        · cases h
      · cases h
    · rename_i n e hfs
      split at h
      · rename_i hn
        split at h
        · rename_i u' hu
          split at h
          · rename_i hfit
            simp only [Option.some.injEq] at h
            subst h
            obtain ⟨xs, m', _, _, hl, hlen, hg⟩ := DataW.trod_array hfs hx
            have h1 := hg _ hn
            rw [List.getElem?_eq_getElem (by omega)] at h1
            have hdm := Nat.div_add_mod i (P.cellsOf e)
            rw [Nat.mul_comm] at hdm
            refine .inr ?_
            rcases ih hu h1 with ⟨h2, rfl⟩ | ⟨m, y, hy⟩
            · refine ⟨m', xs[i / P.cellsOf e]'(by omega), ?_⟩
              have : i / P.cellsOf e * P.cellsOf e = i := by omega
              rw [this] at h1
              exact h1
            · have h3 : i % P.cellsOf e = i - i / P.cellsOf e * P.cellsOf e := by omega
              rw [h3] at hy hfit
              rw [take_drop_in _ _ _ _ _ (by omega) hfit] at hy
              exact ⟨m, y, hy⟩
          · cases h
        · cases h
      · cases h
    · split at h
      · rename_i hi
        simp only [Option.some.injEq] at h
        exact .inl ⟨hi, h⟩
      · cases h
    · cases h
/-- all cells of the type are integers of 64 bits -/
def onlyInts (P : Program) (t : TypeId) (k : Nat) (ti : TypeId) : Bool := decide (P.cellsOf t = k) && decide (P.cellsOf ti = 1) && decide (t ≠ ti) && (List.range k).all fun i => decide (leafAt P 6 t i = some ti)

theorem trod_ints {t ti : TypeId} {k fuel : Nat} {cs : List Value} {x : DataW H × List MemPlace} (hi : P.underlying ti = some (.int .i64)) (ho : onlyInts P t k ti = true) (h : DataW.trod enc P W base sp held fuel t cs = some x) :
    ∀ i, i < k → ∃ n, cs[i]? = some (.int .i64 n) ∧ I64 n := by
  intro i hik
  simp only [onlyInts, Bool.and_eq_true, decide_eq_true_eq, List.all_eq_true, List.mem_range] at ho
  obtain ⟨⟨⟨h1, h2⟩, h3⟩, h4⟩ := ho
  rcases trod_leaf 6 (h4 i hik) h with ⟨_, e⟩ | ⟨m, y, hy⟩
  · exact absurd e h3
  · rw [h2] at hy
    obtain ⟨n, e0, _, hw⟩ := DataW.trod_int hi hy
    refine ⟨n, ?_, ?_⟩
    · have : ((cs.drop i).take 1)[0]? = some (.int .i64 n) := by rw [e0]; rfl
      rw [List.getElem?_take, if_pos (by decide), List.getElem?_drop] at this
      exact this
    · simp [Lit.wf, IntKind.min, IntKind.max, IntKind.signed, IntKind.bits] at hw
      exact ⟨by omega, by omega⟩

theorem cellFlats {t e ti : TypeId} {k fuel : Nat} {c : Value} {y : DataW H × List MemPlace} (ht : P.underlying t = some (.slice e)) (hi : P.underlying ti = some (.int .i64)) (ho : onlyInts P e k ti = true) (hk : 0 < k)
    (h : DataW.trod enc P W base sp held fuel t [c] = some y) : ∃ n f, Flats k 0 W.heap.size W c n f := by
  have hC : P.cellsOf e = k := by
    simp only [onlyInts, Bool.and_eq_true, decide_eq_true_eq] at ho
    exact ho.1.1.1
  rcases Go.Deep.open_slice ht h with ⟨h0, _⟩ | ⟨a, len, cap, m, n, D, Pl, hcs, hb, hl, hm, hmm, hx, hel⟩
  · obtain rfl : c = .slice none 0 0 := by simpa using h0
    exact ⟨0, fun _ => 0, none, 0, rfl, Nat.le_refl _, by unfold maxLen; omega, fun i hx => by omega⟩
  · obtain rfl : c = .slice (some a) len cap := by simpa using hcs
    have hlm : len ≤ m := by rw [hmm]; split <;> omega
    rw [hC] at hel
    have key : ∀ i, i < len * k → ∃ x, I64 x ∧ W.cell? (a.add (i / k * k) |>.add (i % k)) = some (.int .i64 x) := by
      intro i hil
      have h1 : i / k < len := (Nat.div_lt_iff_lt_mul hk).2 hil
      obtain ⟨cs', hc, ht'⟩ := hel (i / k) (by omega)
      obtain ⟨x, hx1, hx2⟩ := trod_ints hi ho ht' (i % k) (Nat.mod_lt _ hk)
      obtain ⟨_, hcl, hat⟩ := World.cells?_some hc
      exact ⟨x, hx2, (hat _ (Nat.mod_lt _ hk)).trans hx1⟩
    have key2 : ∀ i, ∃ x, i < len * k → I64 x ∧ W.cell? (a.add i) = some (.int .i64 x) := by
      intro i
      by_cases hil : i < len * k
      · obtain ⟨x, h1, h2⟩ := key i hil
        rw [Go.Deep.add_add] at h2
        have : i / k * k + i % k = i := by have := Nat.div_add_mod i k; rw [Nat.mul_comm] at this; omega
        rw [this] at h2
        exact ⟨x, fun _ => ⟨h1, h2⟩⟩
      · exact ⟨0, fun h => absurd h hil⟩
    obtain ⟨f, hf⟩ := Classical.axiomOfChoice key2
    refine ⟨len, f, some a, cap, rfl, hl, hm, fun i hil => ⟨(hf i hil).1, ?_⟩⟩
    have h0 := (hf 0 (by omega)).2
    obtain ⟨b, o, s⟩ := a
    obtain rfl : s = none := by
      cases s with
      | none => rfl
      | some s =>
        simp only [World.cell?, Addr.add, if_true] at h0
        split at h0 <;> simp at h0
    have hc := (hf i hil).2
    have ha : (⟨b, o, none⟩ : Addr).add i = ⟨b, o + i, none⟩ := by
      unfold Addr.add
      split
      · rename_i e; subst e; rfl
      · rfl
    rw [ha] at hc
    refine ⟨b, o, rfl, Nat.zero_le _, ?_, hc⟩
    simp only [World.cell?] at hc
    split at hc
    · rename_i e; exact (Array.getElem?_eq_some_iff.1 e).1
    · cases hc

/-- a struct of integers by value -/
theorem argAgg {t ti : TypeId} {fs : Array Field} {k b0 : Nat} {v : Value} {d : DataW H} {p : List MemPlace} (ht : P.underlying t = some (.struct fs)) (hi : P.underlying ti = some (.int .i64)) (ho : onlyInts P t k ti = true)
    (hv : Value.okWide P W .any b0 t v) (h : DataW.Trod enc P W base sp held t v d p) : ∃ f : Nat → Int, v = .agg ((Array.range k).map fun i => .int .i64 (f i)) ∧ ∀ i, i < k → I64 (f i) := by
  obtain ⟨cs, rfl, hsz⟩ := okWide_struct ht hv
  obtain ⟨fuel, hf⟩ := h
  have hC : P.cellsOf t = k := by
    simp only [onlyInts, Bool.and_eq_true, decide_eq_true_eq] at ho
    exact ho.1.1.1
  have key : ∀ i, ∃ n, i < k → cs[i]? = some (.int .i64 n) ∧ I64 n := by
    intro i
    by_cases hik : i < k
    · obtain ⟨n, h1, h2⟩ := trod_ints hi ho hf i hik
      exact ⟨n, fun _ => ⟨by simpa [Value.cells] using h1, h2⟩⟩
    · exact ⟨0, fun h => absurd h hik⟩
  obtain ⟨f, hf⟩ := Classical.axiomOfChoice key
  refine ⟨f, ?_, fun i hik => (hf i hik).2⟩
  congr 1
  apply Array.ext_getElem?
  intro i
  by_cases hik : i < k
  · rw [(hf i hik).1]
    simp [hik]
  · simp [hik]
    omega
end
end Go.Proofs.YtdkohjeobjejeaaGreat
end

section
/- This text reads the laws' arguments that are codes or grids off the data that the row speaks of. -/
namespace Go.Proofs.YtdkohjeobjejeaaGreat
open Go.ChangeShapes Go.WideShapes Go.ChangeAt Go.RowKit

section
variable {H : Type} {enc : TypeId × Value → H} {P : Program} {W : World} {base b0 : Nat} {sp : Nat → Bool} {held : Bool}

/-- cell i of a value, whose type has one cell -/
theorem trod_leaf1 {t u : TypeId} {i fuel : Nat} {cs : List Value} {x : DataW H × List MemPlace} (hl : (leafAt P 6 t i == some u && decide (t ≠ u) && decide (P.cellsOf u = 1)) = true) (h : DataW.trod enc P W base sp held fuel t cs = some x) (hi : i < cs.length) :
    ∃ c m y, cs[i]? = some c ∧ DataW.trod enc P W base sp held m u [c] = some y := by
  simp only [Bool.and_eq_true, beq_iff_eq, decide_eq_true_eq] at hl
  obtain ⟨⟨h1, h2⟩, h3⟩ := hl
  rcases trod_leaf 6 h1 h with ⟨_, e⟩ | ⟨m, y, hy⟩
  · exact absurd e h2
  · rw [h3, List.drop_eq_getElem_cons hi] at hy
    exact ⟨cs[i], m, y, by simp [hi], hy⟩
theorem cell_int {t : TypeId} {fuel : Nat} {c : Value} {y : DataW H × List MemPlace} (ht : P.underlying t = some (.int .i64)) (h : DataW.trod enc P W base sp held fuel t [c] = some y) : ∃ n, c = .int .i64 n ∧ I64 n := by
  obtain ⟨k, e0, _, hw⟩ := DataW.trod_int ht h
  exact ⟨k, by simpa using e0, wf_I64 hw⟩
theorem cell_str {t : TypeId} {fuel : Nat} {c : Value} {y : DataW H × List MemPlace} (ht : P.underlying t = some .string) (h : DataW.trod enc P W base sp held fuel t [c] = some y) : ∃ s, c = .string s ∧ s.size ≤ maxLen := by
  obtain ⟨s, e0, _, hw⟩ := DataW.trod_string ht h
  exact ⟨s, by simpa using e0, hw⟩
end

section
variable {H : Type} {enc : TypeId × Value → H} {W : World} {base b0 : Nat} {sp : Nat → Bool} {held : Bool}

/-- what lies behind the cell of a slice of strings -/
theorem cellStrs {fuel : Nat} {c : Value} {y : DataW H × List MemPlace} (h : DataW.trod enc Tryz.prog W base sp held fuel 23 [c] = some y) : ∃ xs, Strs 0 W.heap.size W c xs ∧ ∀ s ∈ xs, s.size ≤ maxLen := by
  rcases Go.Deep.open_strs Tryz.underlying23 Tryz.underlying9 (by kernel_rfl) h with ⟨hcs, _⟩ | ⟨a, len, cap, m, S, hcs, _, hl, hm, hmm, _, hcell⟩
  · obtain rfl : c = .slice none 0 0 := by simpa using hcs
    exact ⟨[], ⟨none, 0, rfl, Nat.le_refl _, by unfold maxLen; omega, fun i x hx => by simp at hx⟩, fun s hs => by cases hs⟩
  · obtain rfl : c = .slice (some a) len cap := by simpa using hcs
    have hlm : len ≤ m := by rw [hmm]; split <;> omega
    refine ⟨(List.range len).map S, ⟨some a, cap, by simp, by simpa using hl, hm, fun i x hx => ?_⟩, fun s hs => ?_⟩
    · have hi : i < len := by have := (List.getElem?_eq_some_iff.1 hx).1; simpa using this
      obtain rfl : S i = x := by simpa [hi] using hx
      obtain ⟨b, o, s⟩ := a
      have hc := (hcell i (by omega)).1
      obtain rfl : s = none := by
        cases s with
        | none => rfl
        | some s =>
          have h0 := (hcell 0 (by omega)).1
          simp only [World.cell?, Addr.add, if_true] at h0
          split at h0 <;> simp at h0
      have ha : (⟨b, o, none⟩ : Addr).add i = ⟨b, o + i, none⟩ := by
        unfold Addr.add
        split
        · rename_i e; subst e; rfl
        · rfl
      rw [ha] at hc
      refine ⟨b, o, rfl, Nat.zero_le _, ?_, hc⟩
      simp only [World.cell?] at hc
      split at hc
      · rename_i e; exact (Array.getElem?_eq_some_iff.1 e).1
      · cases hc
    · obtain ⟨i, hi, rfl⟩ := List.mem_map.1 hs
      exact (hcell i (by have := List.mem_range.1 hi; omega)).2

/-- what lies behind the cell of a slice of instructions -/
theorem cellInss {fuel : Nat} {c : Value} {y : DataW H × List MemPlace} (h : DataW.trod enc Tryz.prog W base sp held fuel 22 [c] = some y) : ∃ xs, Inss 0 W.heap.size W c xs ∧ ∀ x ∈ xs, x.name.size ≤ maxLen := by
  rcases Go.Deep.open_slice Tryz.underlying22 h with ⟨hcs, _⟩ | ⟨a, len, cap, m, n, D, Pl, hcs, _, hl, hm, hmm, _, hel⟩
  · obtain rfl : c = .slice none 0 0 := by simpa using hcs
    exact ⟨[], ⟨none, 0, rfl, Nat.le_refl _, by unfold maxLen; omega, fun i x hx => by simp at hx⟩, fun s hs => by cases hs⟩
  · obtain rfl : c = .slice (some a) len cap := by simpa using hcs
    have hlm : len ≤ m := by rw [hmm]; split <;> omega
    have hC : Tryz.prog.cellsOf 90 = 3 := by kernel_rfl
    rw [hC] at hel
    have key : ∀ i, ∃ x : Ins, i < len → (I64 x.op ∧ I64 x.num ∧ x.name.size ≤ maxLen) ∧ W.cell? (a.add (i * 3)) = some (.int .i64 x.op) ∧ W.cell? (a.add (i * 3 + 1)) = some (.string x.name) ∧ W.cell? (a.add (i * 3 + 2)) = some (.int .i64 x.num) := by
      intro i
      by_cases hil : i < len
      · obtain ⟨cs', hc, ht'⟩ := hel i (by omega)
        obtain ⟨_, hcl, hat⟩ := World.cells?_some hc
        obtain ⟨c0, m0, y0, e0, t0⟩ := trod_leaf1 (i := 0) (u := 3) (by kernel_rfl) ht' (by omega)
        obtain ⟨c1, m1, y1, e1, t1⟩ := trod_leaf1 (i := 1) (u := 9) (by kernel_rfl) ht' (by omega)
        obtain ⟨c2, m2, y2, e2, t2⟩ := trod_leaf1 (i := 2) (u := 3) (by kernel_rfl) ht' (by omega)
        obtain ⟨n0, rfl, i0⟩ := cell_int Tryz.underlying3 t0
        obtain ⟨s, rfl, i1⟩ := cell_str Tryz.underlying9 t1
        obtain ⟨n2, rfl, i2⟩ := cell_int Tryz.underlying3 t2
        refine ⟨⟨n0, s, n2⟩, fun _ => ⟨⟨i0, i2, i1⟩, ?_, ?_, ?_⟩⟩
        · have := hat 0 (by omega); rw [Go.Deep.add_add] at this; exact this.trans e0
        · have := hat 1 (by omega); rw [Go.Deep.add_add] at this; exact this.trans e1
        · have := hat 2 (by omega); rw [Go.Deep.add_add] at this; exact this.trans e2
      · exact ⟨⟨0, ⟨#[]⟩, 0⟩, fun h => absurd h hil⟩
    obtain ⟨f, hf⟩ := Classical.axiomOfChoice key
    refine ⟨(List.range len).map f, ⟨some a, cap, by simp, by simpa using hl, hm, fun i x hx => ?_⟩, fun s hs => ?_⟩
    · have hi : i < len := by have := (List.getElem?_eq_some_iff.1 hx).1; simpa using this
      obtain rfl : f i = x := by simpa [hi] using hx
      obtain ⟨⟨i0, i2, _⟩, g0, g1, g2⟩ := hf i hi
      refine ⟨⟨i0, i2⟩, ?_⟩
      have h0 := (hf 0 (by omega)).2.1
      clear hf hel key
      obtain ⟨b, o, s⟩ := a
      obtain rfl : s = none := by
        cases s with
        | none => rfl
        | some s =>
          simp only [World.cell?, Addr.add, Nat.zero_mul, if_true] at h0
          split at h0 <;> simp at h0
      have ha : ∀ k, (⟨b, o, none⟩ : Addr).add k = ⟨b, o + k, none⟩ := by
        intro k
        unfold Addr.add
        split
        · rename_i e; subst e; rfl
        · rfl
      rw [ha] at g0 g1 g2
      refine ⟨b, o, rfl, Nat.zero_le _, ?_, g0, by rw [Nat.add_assoc]; exact g1, by rw [Nat.add_assoc]; exact g2⟩
      simp only [World.cell?] at g0
      split at g0
      · rename_i e; exact (Array.getElem?_eq_some_iff.1 e).1
      · cases g0
    · obtain ⟨i, hi, rfl⟩ := List.mem_map.1 hs
      exact (hf i (List.mem_range.1 hi)).1.2.2

set_option maxRecDepth 100000 in
theorem argCode {v : Value} {d : DataW H} {p : List MemPlace} (hv : Value.okWide Tryz.prog W .any b0 25 v) (h : DataW.Trod enc Tryz.prog W base sp held 25 v d p) :
    ∃ c : Cod, c.R 0 W.heap.size W v ∧ c.bd := by
  obtain ⟨v0, v1, y0, y1, n, rfl, rfl, rfl, h0, h1⟩ := Go.Joins.open_agg2 Tryz.underlying25 (by kernel_rfl) (by kernel_rfl) hv h
  obtain ⟨xs, hx, bx⟩ := cellInss h0
  obtain ⟨ls, hl, bl⟩ := cellStrs h1
  exact ⟨⟨xs, ls⟩, ⟨_, _, rfl, hx, hl⟩, bx, bl⟩

set_option maxRecDepth 100000 in
theorem argGrid {v : Value} {d : DataW H} {p : List MemPlace} (hv : Value.okWide Tryz.prog W .any b0 31 v) (h : DataW.Trod enc Tryz.prog W base sp held 31 v d p) :
    ∃ g : Grd, g.R 0 W.heap.size W v := by
  obtain ⟨cs, rfl, hsz⟩ := okWide_struct Tryz.underlying31 hv
  have hC : Tryz.prog.cellsOf 31 = 5 := by kernel_rfl
  rw [hC] at hsz
  obtain ⟨fuel, hf⟩ := h
  have hlen : (Value.agg cs).cells.toList.length = 5 := by simp [Value.cells, hsz]
  obtain ⟨c0, m0, y0, e0, t0⟩ := trod_leaf1 (i := 0) (u := 3) (by kernel_rfl) hf (by omega)
  obtain ⟨c1, m1, y1, e1, t1⟩ := trod_leaf1 (i := 1) (u := 26) (by kernel_rfl) hf (by omega)
  obtain ⟨c2, m2, y2, e2, t2⟩ := trod_leaf1 (i := 2) (u := 3) (by kernel_rfl) hf (by omega)
  obtain ⟨c3, m3, y3, e3, t3⟩ := trod_leaf1 (i := 3) (u := 3) (by kernel_rfl) hf (by omega)
  obtain ⟨c4, m4, y4, e4, t4⟩ := trod_leaf1 (i := 4) (u := 27) (by kernel_rfl) hf (by omega)
  obtain ⟨n0, rfl, i0⟩ := cell_int Tryz.underlying3 t0
  obtain ⟨n2, rfl, i2⟩ := cell_int Tryz.underlying3 t2
  obtain ⟨n3, rfl, i3⟩ := cell_int Tryz.underlying3 t3
  obtain ⟨m, f, hp⟩ := cellFlats (k := 5) (e := 105) Tryz.underlying26 Tryz.underlying3 (by kernel_rfl) (by omega) t1
  obtain ⟨px, hx⟩ := cellInts t4
  have e : cs = #[.int .i64 n0, c1, .int .i64 n2, .int .i64 n3, c4] := by
    apply Array.ext_getElem?
    intro i
    simp only [Value.cells, Array.getElem?_toList] at e0 e1 e2 e3 e4
    match i with
    | 0 => simpa using e0
    | 1 => simpa using e1
    | 2 => simpa using e2
    | 3 => simpa using e3
    | 4 => simpa using e4
    | i + 5 => simp [hsz]
  subst e
  exact ⟨⟨n0, m, f, n2, ⟨n3, px⟩⟩, c1, c4, rfl, i0, i2, i3, hp, hx⟩
end
end Go.Proofs.YtdkohjeobjejeaaGreat
end

section
/- This text lifts the walk of FnExactRunGrid to the given statement. -/
namespace Go.Proofs.YtdkohjeobjejeaaGreat.fnExactRunGrid
open Go.ChangeShapes Go.WideShapes Go.ChangeAt Go.RowKit
set_option linter.unusedVariables false

theorem own : ownKnob Tryz.prog.godebug = none := by kernel_rfl
theorem laid : laidOutB Tryz.prog = true := by kernel_rfl

set_option maxRecDepth 100000 in
theorem lifted (os : Os) (started : os.Started) (H : Type) (enc : TypeId × Value → H) :
    ReturnsInHanded {} Tryz.checked os 3 .any (Rows.fnExactRunGridSpec.pre6 enc Tryz.prog Tryz.f3 Rows.fnExactRunGridRow.domain false) (Rows.fnExactRunGridSpec.post enc Tryz.prog Tryz.f3 false true false false) := by
  refine returnsInHanded_of_change (C := Tryz.checked) own started (by kernel_rfl) Tryz.func3
    (ChangeSpec.witness6 (enc := enc) (C := Tryz.checked) false ⟨#[], #[.agg #[.slice none 0 0, .slice none 0 0], .agg #[.int .i64 0, .slice none 0 0, .int .i64 0, .int .i64 0, .slice none 0 0]], []⟩ 8 (by kernel_rfl) (by kernel_rfl) (by kernel_rfl) (by kernel_rfl)) ?_
  intro W base args ds gs before hval0 hW hcnd _
  have hval : ∀ (j : Nat) t v, Tryz.f3.params[j]? = some t → args[j]? = some v → Value.okWide Tryz.prog W .any base t v := hval0
  have hW' := hW
  obtain ⟨p, q, hA0, hV, rfl, hfz, hnd⟩ := hW
  have hA : DataW.TrodAll enc Tryz.prog W 0 (fun _ => true) true Tryz.f3.params.toList args.toList ds p := hA0
  rw [Tryz.params3] at hA hval
  obtain ⟨v0, vs0, d0, ds0, p0, q0, hargs, rfl, rfl, h0, r0⟩ := trodAll_cons hA
  obtain ⟨v1, vs1, d1, ds1, p1, q1, rfl, rfl, rfl, h1, r1⟩ := trodAll_cons r0
  obtain ⟨rfl, rfl, rfl⟩ := trodAll_nil r1
  obtain rfl : args = #[v0, v1] := by cases args; simp_all
  obtain ⟨rfl, rfl⟩ := trodVars_none hV
  have k0 := h0
  have lt0 : ∀ x ∈ p0, x.block < W.heap.size := by obtain ⟨m, hm⟩ := k0; exact DataW.trod_lt m _ _ _ hm
  obtain ⟨x0, w0, b0⟩ := argCode (hval 0 25 v0 rfl rfl) h0
  have k1 := h1
  have lt1 : ∀ x ∈ p1, x.block < W.heap.size := by obtain ⟨m, hm⟩ := k1; exact DataW.trod_lt m _ _ _ hm
  obtain ⟨x1, w1⟩ := argGrid (hval 1 31 v1 rfl rfl) h1
  clear hA0 hval0
  refine (lawRun v0 x0 v1 x1 W w0 b0 w1).mono fun e W' ⟨he, bel0⟩ => ?_
  have bel : Below W.heap.size W W' := bel0
  subst he
  exact ⟨_, rfl, _, _, _, [], _, [], hW', trodAll_mk1 (shut_bool Tryz.underlying4 _), (trodAll_cons_mk (Below.trod laid (by kernel_rfl) (of_decide_eq_true (by kernel_rfl)) k0 bel lt0) (trodAll_cons_mk (Below.trod laid (by kernel_rfl) (of_decide_eq_true (by kernel_rfl)) k1 bel lt1) trodAll_mk0)), rfl, bel.frame _, fun h => by cases h⟩

theorem over : Rows.fnExactRunGridRow.holds Tryz.pinned (OpenSpec.ofChange Rows.fnExactRunGridSpec) :=
  OpenClaim.holds_of_wide 3 Tryz.f3 rfl rfl rfl rfl rfl rfl rfl ⟨rfl, rfl, rfl, rfl, rfl⟩ rfl rfl rfl rfl rfl (by kernel_rfl) Tryz.func3 (by kernel_rfl)
    (of_decide_eq_true (by kernel_rfl)) (by unfold Func.isWrapper; first | (rw [if_pos (by decide +kernel)]; kernel_rfl) | (rw [if_neg (by decide +kernel)]; exact ⟨rfl, rfl⟩))
    (fun os started H enc _ => lifted os started H enc)

theorem proved : Rows.FnExactRunGridSaid := over
end Go.Proofs.YtdkohjeobjejeaaGreat.fnExactRunGrid
end
