/- Texts of this claim, one behind another: Sg3, Sg4, Op1, Pr1, Ck1, Tk1, Fo1, Ck2, Ck3, Ck4, Ck5, Ck6, Ow1, Ow2, Ow3, Ow4, Ow5, Ow6. -/
import Derived.Test.YtaegmenjgjdimaaGreatP24Y1
import Derived.Lib.OthersKept
import Derived.Laws.RangeAny
import Derived.Test.YtaegmenjgjdimaaGreatStrB
import Derived.Maps.OwnSet
import Derived.Maps.OwnOps
import Derived.Maps.Views
set_option linter.unusedSimpArgs false
set_option linter.unusedVariables false
section
/- This text proves the program's ShadeGrid. -/
namespace Go.Proofs.YtaegmenjgjdimaaGreat
open Go.RowKit

theorem iConstant_g {g : Grd} {n : Nat} (hg : g.n = n) (c : Int) (g1 : Value) (g2 g3 : Int) (g4 : Value) (w : World) (hm : (n : Int) * n = g.m) (hn : g.m ≤ 1000000) (hc : I64 c) :
    Calls Tryz.prog 36 #[.int .i64 c, .agg #[.int .i64 g.n, g1, .int .i64 g2, .int .i64 g3, g4]] w fun e w' => ∃ v, e = .returned v ∧ OwnInts w.heap.size w' v (List.replicate g.m c) ∧ Ext w w' := by
  rw [hg]
  exact iConstant_any c n g.m g1 g2 g3 g4 w hm hn hc
theorem shade_none {w w' : World} (h : Ext w w') : ∃ r1 r2, Ending.returned (.tuple #[.slice none 0 0, .slice none 0 0, .bool false]) = .returned (.tuple #[r1, r2, .bool false]) ∧ ∃ h, w.heap.size ≤ h ∧ h ≤ w'.heap.size ∧ IntsO w.heap.size h w' r1 [] ∧ IntsO h w'.heap.size w' r2 [] ∧ Ext w w' :=
  ⟨_, _, rfl, w'.heap.size, h.size, Nat.le_refl _, IntsO.nil _ _ _, IntsO.nil _ _ _, h⟩
set_option maxRecDepth 20000 in
set_option maxHeartbeats 6400000 in
theorem iShadeGrid_any (lo hi lo' hi' : Nat) (v u : Value) (c : Cod) (g : Grd) (w : World) {X Y : List Int} {b : Bool} (hs : c.shade g = (X, Y, b)) (hv : c.R lo hi w v) (hh : hi ≤ w.heap.size) (hu : g.R lo' hi' w u) (hh' : hi' ≤ w.heap.size) (hL : c.small) :
    Calls Tryz.prog 13 #[v, u] w fun e w' => ∃ r1 r2, e = .returned (.tuple #[r1, r2, .bool b]) ∧ ∃ h, w.heap.size ≤ h ∧ h ≤ w'.heap.size ∧ IntsO w.heap.size h w' r1 X ∧ IntsO h w'.heap.size w' r2 Y ∧ Ext w w' := by
  obtain ⟨R, eR⟩ : ∃ R, (c.runB && g.okB) = R := ⟨_, rfl⟩
  obtain ⟨S, eS⟩ : ∃ S, c.res g = S := ⟨_, rfl⟩
  obtain ⟨i, ei⟩ : ∃ i, colorIx c.ls = i := ⟨_, rfl⟩
  obtain ⟨j, ej⟩ : ∃ j, alphaIx c.ls = j := ⟨_, rfl⟩
  have hn : R = true → ∃ n : Nat, g.n = n ∧ (n : Int) * n = g.m ∧ g.m ≤ 64 := by
    intro h
    rw [h] at eR
    simp only [Bool.and_eq_true] at eR
    obtain ⟨n, hn, hm, hn1, hn8, -⟩ := g.parts eR.2
    have h6 : n * n ≤ 8 * 8 := Nat.mul_le_mul hn8 hn8
    exact ⟨n, hn, by rw [← hm]; simp, by omega⟩
  have CS := hid (shade_cases hL hs eR eS ei ej)
  have HC := hid hv
  have HG := hid hu
  have ER := hid eR
  have ES := hid eS
  have EI := hid ei
  have EJ := hid ej
  have HL := hid hL
  have HN := hid hn
  have hl : c.ls.length ≤ 1048576 := hL.2
  obtain ⟨iu, lu, rfl, -, hlu⟩ := hv
  have HLU := hid hlu
  obtain ⟨pu, tu, rfl, _⟩ := hu
  clear hs eR eS ei ej hn hlu hL
  have en : ∀ (w : World) (a : Option Addr) (n c : Nat), (binOp .eql 29 (.slice a n c) (.slice none 0 0)).run Tryz.prog w = .ok (.bool a.isNone) w := fun w a n c => Lib.run_eql_slice_nil w _ _ a n c 0 0 Tryz.underlying29
  go_enter Tryz.func13, Tryz.ntmps13
  go_wp2_with fail
  refine (iRunGrid_one lo hi lo' hi' _ _ c g _ ER.out ES.out (HC.out.ext hh (by repeat (with_reducible (first | assumption | exact Ext.refl _ | apply Ext.alloc | apply Ext.drew | apply Ext.drewN)))) (by simp; omega) (HG.out.ext hh' (by repeat (with_reducible (first | assumption | exact Ext.refl _ | apply Ext.alloc | apply Ext.drew | apply Ext.drewN)))) (by simp; omega) HL.out).mono ?_
  rintro e w1 ⟨r, rfl, O1, x1⟩
  have BP := hid (((Bx.made w #[iu, lu] _).ext ((Ext.refl _).alloc _)).ext x1)
  have BQ := hid ((Bx.madeAt (B := w.heap.size + 1) (w.alloc _) #[.int .i64 g.n, pu, .int .i64 g.tm, .int .i64 g.t.log, tu] _ (by simp)).ext x1)
  have E : Ext w w1 := Ext.trans (by repeat (with_reducible (first | assumption | exact Ext.refl _ | apply Ext.alloc | apply Ext.drew | apply Ext.drewN))) x1
  have z1 := E.size
  have O1' := O1
  obtain ⟨us0, h0, h0', -⟩ := O1'
  obtain ⟨ra, rc, hrr⟩ := ownsRow.form h0
  rw [h0'.len] at hrr
  subst hrr
  have OR := hid O1
  clear x1 O1 h0 h0'
  have p := BP.out.lt
  have p0 := BP.out.cell 0
  simp only [List.getElem?_toArray, List.getElem?_cons_zero, List.getElem?_cons_succ] at p0
  have p1 := BP.out.cell 1
  simp only [List.getElem?_toArray, List.getElem?_cons_zero, List.getElem?_cons_succ] at p1
  have q := BQ.out.lt
  have q0 := BQ.out.cell 0
  simp only [List.getElem?_toArray, List.getElem?_cons_zero, List.getElem?_cons_succ] at q0
  have q1 := BQ.out.cell 1
  simp only [List.getElem?_toArray, List.getElem?_cons_zero, List.getElem?_cons_succ] at q1
  have q2 := BQ.out.cell 2
  simp only [List.getElem?_toArray, List.getElem?_cons_zero, List.getElem?_cons_succ] at q2
  have q3 := BQ.out.cell 3
  simp only [List.getElem?_toArray, List.getElem?_cons_zero, List.getElem?_cons_succ] at q3
  have q4 := BQ.out.cell 4
  simp only [List.getElem?_toArray, List.getElem?_cons_zero, List.getElem?_cons_succ] at q4
  go_wp2_with fail
  refine wp_region_stages [([0, 1, 3, 4], 2), ([], 5), ([6], 7)] 7 w1.heap.size (by kernel_rfl) (by kernel_rfl) ?_
  refine wpStages_cons ?_
  simp only [List.filterMap_cons, List.filterMap_nil, List.getElem?_toArray, List.getElem?_cons_zero, List.getElem?_cons_succ]
  show wpQuiet _ _ _ _ [_, _, _, _] _
  repeat (go_big_quiet_step (fail))
  refine wpQuiet_nil ⟨_, rfl, fun K hK => ?_⟩
  go_wp2_with fail
  refine (iIndex_val EI.out lo hi _ _ (HLU.out.ext hh E.drew) (by omega)).mono ?_
  rintro e wx ⟨rfl, rfl⟩
  go_wp2_with fail
  refine hK _ _ (.inr (fun k _ hk => Ext.block (by repeat (with_reducible (first | assumption | exact Ext.refl _ | apply Ext.alloc | apply Ext.drew | apply Ext.drewN))) (by first | omega | (simp; omega)))) ?_
  clear hK K
  refine wpStages_cons ?_
  simp only [List.filterMap_nil]
  show wpQuiet _ _ _ _ [] _
  try simp only [Act.put, List.setIfInBounds_toArray, List.set_cons_succ, List.set_cons_zero]
  repeat (go_big_quiet_step (fail))
  refine wpQuiet_nil ⟨_, rfl, fun K hK => ?_⟩
  go_wp2_with fail
  refine (iIndex_val EJ.out lo hi _ _ (HLU.out.ext hh E.drew) (by omega)).mono ?_
  rintro e wx ⟨rfl, rfl⟩
  go_wp2_with fail
  refine hK _ _ (.inr (fun k _ hk => Ext.block (by repeat (with_reducible (first | assumption | exact Ext.refl _ | apply Ext.alloc | apply Ext.drew | apply Ext.drewN))) (by first | omega | (simp; omega)))) ?_
  clear hK K
  refine wpStages_cons ?_
  simp only [List.filterMap_cons, List.filterMap_nil, List.getElem?_toArray, List.getElem?_cons_zero, List.getElem?_cons_succ]
  show wpQuiet _ _ _ _ [_] _
  try simp only [Act.put, List.setIfInBounds_toArray, List.set_cons_succ, List.set_cons_zero]
  repeat (go_big_quiet_step (fail))
  refine wpQuiet_nil ⟨_, rfl, fun K hK => ?_⟩
  go_wp2_with fail
  go_wp2_with fail
  refine hK _ _ (.inl (by trivial)) ?_
  clear hK K
  refine wpStages_nil ?_
  rcases CS.out.all with ⟨rfl, rfl, rfl, rfl⟩ | ⟨rfl, rfl, rfl, rfl, rfl⟩ | ⟨rfl, k, rfl, hk, sk, rfl, rfl, rfl⟩ | ⟨rfl, k, a, rfl, hk, sk, ha, la, hrest⟩
  · go_wp2
    refine bodyPost_ret (v := .tuple #[.slice none 0 0, .slice none 0 0, .bool false]) (by simp [results, Tryz.results13, go_sem]) rfl (shade_none E.drew)
  · go_wp2
    refine bodyPost_ret (v := .tuple #[.slice none 0 0, .slice none 0 0, .bool false]) (by simp [results, Tryz.results13, go_sem]) rfl (shade_none E.drew)
  · have SK := hid sk
    have hkS : k < S.length := (List.getElem?_eq_some_iff.1 sk).1
    obtain ⟨rb, rc', hrv, hb1, hb2, hb3, hcell⟩ := OR.out.open1 (by omega)
    simp only [Value.slice.injEq] at hrv
    obtain ⟨rfl, -, rfl⟩ := hrv
    obtain ⟨ru, c0, -, e0⟩ := hcell k _ sk
    obtain rfl := e0 rfl
    clear sk hcell e0
    go_wp2
    refine bodyPost_ret (v := .tuple #[.slice none 0 0, .slice none 0 0, .bool false]) (by simp [results, Tryz.results13, go_sem]) rfl (shade_none E.drew)
  have SK := hid sk
  have hkS : k < S.length := (List.getElem?_eq_some_iff.1 sk).1
  obtain ⟨rb, rc', hrv, hb1, hb2, hb3, hcell⟩ := OR.out.open1 (by omega)
  simp only [Value.slice.injEq] at hrv
  obtain ⟨rfl, -, rfl⟩ := hrv
  obtain ⟨ru, c0, o0, -⟩ := hcell k _ sk
  obtain ⟨ga, ca, rfl, hga⟩ := o0.someAt ha
  have O0 := hid (o0.low (lo' := w.heap.size) (by simp <;> omega))
  clear o0
  obtain ⟨n, gn, hnn, hm⟩ := HN.out rfl
  rcases hrest with ⟨l, rfl, hl2, sl, rfl, rfl, rfl⟩ | ⟨rfl, rfl, rfl, rfl⟩ | ⟨l, q, rfl, hl2, sl, hq, lq, rfl, rfl, rfl⟩
  · have SL := hid sl
    have hlS : l < S.length := (List.getElem?_eq_some_iff.1 sl).1
    obtain ⟨rw, c1, -, e1⟩ := hcell l _ sl
    obtain rfl := e1 rfl
    clear sk sl hcell e1 hnn gn
    go_wp2
    refine bodyPost_ret (v := .tuple #[.slice none 0 0, .slice none 0 0, .bool false]) (by simp [results, Tryz.results13, go_sem]) rfl (shade_none E.drew)
  · clear sk hcell
    have GN := hid gn
    have NN := hid hnn
    clear gn hnn
    go_wp2_with fail
    refine wp_region_stages [([0, 1, 2, 3, 5], 4), ([], 6), ([7, 8], 9)] 9 w1.heap.size (by kernel_rfl) (by kernel_rfl) ?_
    refine wpStages_cons ?_
    simp only [List.filterMap_cons, List.filterMap_nil, List.getElem?_toArray, List.getElem?_cons_zero, List.getElem?_cons_succ]
    show wpQuiet _ _ _ _ [_, _, _, _, _] _
    repeat (go_big_quiet_step (fail))
    refine wpQuiet_nil ⟨_, rfl, fun K hK => ?_⟩
    go_wp2_with fail
    refine (iLimited_any w.heap.size w1.heap.size _ a _ (O0.out.ints.ext (Nat.le_refl _) (by repeat (with_reducible (first | assumption | exact Ext.refl _ | apply Ext.alloc | apply Ext.drew | apply Ext.drewN)))) (by simp) (by omega)).mono ?_
    rintro e w3 ⟨r1, rfl, o1, x1⟩
    have y3 : Ext w1 w3 := Ext.trans (by repeat (with_reducible (first | assumption | exact Ext.refl _ | apply Ext.alloc | apply Ext.drew | apply Ext.drewN))) x1
    have z3 := y3.size
    go_wp2_with fail
    refine hK _ _ (.inr (y3.same (Nat.le_refl _))) ?_
    clear hK K
    refine wpStages_cons ?_
    simp only [List.filterMap_nil]
    show wpQuiet _ _ _ _ [] _
    try simp only [Act.put, List.setIfInBounds_toArray, List.set_cons_succ, List.set_cons_zero]
    repeat (go_big_quiet_step (fail))
    refine wpQuiet_nil ⟨_, rfl, fun K hK => ?_⟩
    go_wp2_with fail
    refine (iConstant_g GN.out 256 _ _ _ _ _ NN.out (by omega) ⟨by omega, by omega⟩).mono ?_
    rintro e w4 ⟨r2, rfl, o2, x2⟩
    have y4 : Ext w1 w4 := y3.trans (Ext.trans (by repeat (with_reducible (first | assumption | exact Ext.refl _ | apply Ext.alloc | apply Ext.drew | apply Ext.drewN))) x2)
    have y34 : Ext w3 w4 := Ext.trans (by repeat (with_reducible (first | assumption | exact Ext.refl _ | apply Ext.alloc | apply Ext.drew | apply Ext.drewN))) x2
    have z4 := y34.size
    go_wp2_with fail
    refine hK _ _ (.inr (y4.same (Nat.le_refl _))) ?_
    clear hK K
    refine wpStages_cons ?_
    simp only [List.filterMap_cons, List.filterMap_nil, List.getElem?_toArray, List.getElem?_cons_zero, List.getElem?_cons_succ]
    show wpQuiet _ _ _ _ [_, _] _
    try simp only [Act.put, List.setIfInBounds_toArray, List.set_cons_succ, List.set_cons_zero]
    repeat (go_big_quiet_step (fail))
    refine wpQuiet_nil ⟨_, rfl, fun K hK => ?_⟩
    go_wp2_with fail
    go_wp2_with fail
    refine hK _ _ (.inl (by trivial)) ?_
    clear hK K
    refine wpStages_nil ?_
    go_wp2
    refine bodyPost_ret (v := .tuple #[r1, r2, .bool true]) (by simp [results, Tryz.results13, go_sem]) rfl ⟨r1, r2, rfl, w3.heap.size, by omega, z4, ?_, ?_, E.trans y4⟩
    · exact (o1.low (by simp; omega)).o.kp (y34.kp (Nat.le_refl _))
    · exact (o2.low (by simp)).o
  · have SL := hid sl
    have hlS : l < S.length := (List.getElem?_eq_some_iff.1 sl).1
    obtain ⟨rw, c1, o9, -⟩ := hcell l _ sl
    obtain ⟨gb, cb, rfl, hgb⟩ := o9.someAt hq
    have O9 := hid (o9.low (lo' := w.heap.size) (by simp <;> omega))
    clear sk sl hcell o9 hnn gn
    go_wp2_with fail
    refine wp_region_stages [([0, 1, 2, 3, 5, 6, 7, 8], 4), ([], 9), ([10, 11], 12)] 12 w1.heap.size (by kernel_rfl) (by kernel_rfl) ?_
    refine wpStages_cons ?_
    simp only [List.filterMap_cons, List.filterMap_nil, List.getElem?_toArray, List.getElem?_cons_zero, List.getElem?_cons_succ]
    show wpQuiet _ _ _ _ [_, _, _, _, _, _, _, _] _
    repeat (go_big_quiet_step (fail))
    refine wpQuiet_nil ⟨_, rfl, fun K hK => ?_⟩
    go_wp2_with fail
    refine (iLimited_any w.heap.size w1.heap.size _ a _ (O0.out.ints.ext (Nat.le_refl _) (by repeat (with_reducible (first | assumption | exact Ext.refl _ | apply Ext.alloc | apply Ext.drew | apply Ext.drewN)))) (by simp) (by omega)).mono ?_
    rintro e w3 ⟨r1, rfl, o1, x1⟩
    have y3 : Ext w1 w3 := Ext.trans (by repeat (with_reducible (first | assumption | exact Ext.refl _ | apply Ext.alloc | apply Ext.drew | apply Ext.drewN))) x1
    have z3 := y3.size
    go_wp2_with fail
    refine hK _ _ (.inr (y3.same (Nat.le_refl _))) ?_
    clear hK K
    refine wpStages_cons ?_
    simp only [List.filterMap_nil]
    show wpQuiet _ _ _ _ [] _
    try simp only [Act.put, List.setIfInBounds_toArray, List.set_cons_succ, List.set_cons_zero]
    repeat (go_big_quiet_step (fail))
    refine wpQuiet_nil ⟨_, rfl, fun K hK => ?_⟩
    go_wp2_with fail
    refine (iLimited_any w.heap.size w1.heap.size _ q _ (O9.out.ints.ext (Nat.le_refl _) (y3.trans (by repeat (with_reducible (first | assumption | exact Ext.refl _ | apply Ext.alloc | apply Ext.drew | apply Ext.drewN))))) (by first | omega | (simp; omega)) (by omega)).mono ?_
    rintro e w4 ⟨r2, rfl, o2, x2⟩
    have y4 : Ext w1 w4 := y3.trans (Ext.trans (by repeat (with_reducible (first | assumption | exact Ext.refl _ | apply Ext.alloc | apply Ext.drew | apply Ext.drewN))) x2)
    have y34 : Ext w3 w4 := Ext.trans (by repeat (with_reducible (first | assumption | exact Ext.refl _ | apply Ext.alloc | apply Ext.drew | apply Ext.drewN))) x2
    have z4 := y34.size
    go_wp2_with fail
    refine hK _ _ (.inr (y4.same (Nat.le_refl _))) ?_
    clear hK K
    refine wpStages_cons ?_
    simp only [List.filterMap_cons, List.filterMap_nil, List.getElem?_toArray, List.getElem?_cons_zero, List.getElem?_cons_succ]
    show wpQuiet _ _ _ _ [_, _] _
    try simp only [Act.put, List.setIfInBounds_toArray, List.set_cons_succ, List.set_cons_zero]
    repeat (go_big_quiet_step (fail))
    refine wpQuiet_nil ⟨_, rfl, fun K hK => ?_⟩
    go_wp2_with fail
    go_wp2_with fail
    refine hK _ _ (.inl (by trivial)) ?_
    clear hK K
    refine wpStages_nil ?_
    go_wp2
    refine bodyPost_ret (v := .tuple #[r1, r2, .bool true]) (by simp [results, Tryz.results13, go_sem]) rfl ⟨r1, r2, rfl, w3.heap.size, by omega, z4, ?_, ?_, E.trans y4⟩
    · exact (o1.low (by simp; omega)).o.kp (y34.kp (Nat.le_refl _))
    · exact (o2.low (by simp)).o
end Go.Proofs.YtaegmenjgjdimaaGreat
end

section
/- This text proves the reference's ShadeGrid. -/
namespace Go.Proofs.YtaegmenjgjdimaaGreat
open Go.RowKit

theorem Ints.nil0 (hi : Nat) (w : World) : Ints 0 hi w (.slice none 0 0) [] := ⟨none, 0, rfl, Nat.le_refl _, by unfold maxLen; omega, fun i x h => by simp at h⟩
theorem shade_none' {w w' : World} (h : Ext w w') : ∃ r1 r2, Ending.returned (.tuple #[.slice none 0 0, .slice none 0 0, .bool false]) = .returned (.tuple #[r1, r2, .bool false]) ∧ Ints 0 w'.heap.size w' r1 [] ∧ Ints 0 w'.heap.size w' r2 [] ∧ Ext w w' :=
  ⟨_, _, rfl, Ints.nil0 _ _, Ints.nil0 _ _, h⟩
end Go.Proofs.YtaegmenjgjdimaaGreat
end

section
/- This text says in plain numbers what folding constants does to a code, and proves that it keeps what the code computes; it walks no function. -/
namespace Go.Proofs.YtaegmenjgjdimaaGreat
open Go.RowKit

def fold3 (a b : Ins) : List Ins → Option (Ins × Nat)
  | c :: _ => if c.op = 6 then some (⟨1, ⟨#[]⟩, arithI c.num a.num b.num⟩, 3) else none
  | [] => none
/-- the instruction that the first ones of a list fold to, and how many these are -/
def foldI : List Ins → Option (Ins × Nat)
  | a :: b :: r => if a.op = 1 ∧ b.op = 5 then some (⟨1, ⟨#[]⟩, arithI b.num 0 a.num⟩, 2) else if a.op = 1 ∧ b.op = 1 then fold3 a b r else none
  | _ => none
theorem foldI_some {l : List Ins} {x : Ins} {n : Nat} (h : foldI l = some (x, n)) : (∃ a b r, l = a :: b :: r ∧ a.op = 1 ∧ b.op = 5 ∧ x = ⟨1, ⟨#[]⟩, arithI b.num 0 a.num⟩ ∧ n = 2) ∨ (∃ a b c r, l = a :: b :: c :: r ∧ a.op = 1 ∧ b.op = 1 ∧ c.op = 6 ∧ x = ⟨1, ⟨#[]⟩, arithI c.num a.num b.num⟩ ∧ n = 3) := by
  cases l with
  | nil => cases h
  | cons a l =>
    cases l with
    | nil => cases h
    | cons b r =>
      rw [foldI] at h
      split at h
      · rename_i hc
        simp only [Option.some.injEq, Prod.mk.injEq] at h
        exact .inl ⟨a, b, r, rfl, hc.1, hc.2, h.1.symm, h.2.symm⟩
      · split at h
        · rename_i hc
          cases r with
          | nil => cases h
          | cons c r =>
            rw [fold3] at h
            split at h
            · rename_i h6
              simp only [Option.some.injEq, Prod.mk.injEq] at h
              exact .inr ⟨a, b, c, r, rfl, hc.1, hc.2, h6, h.1.symm, h.2.symm⟩
            · cases h
        · cases h
/-- c' is c with the constants at one place folded -/
def Fold1 (c c' : Cod) : Prop := ∃ (pre l : List Ins) (x : Ins) (n : Nat), c.xs = pre ++ l ∧ foldI l = some (x, n) ∧ c'.xs = pre ++ x :: l.drop n ∧ c'.ls = c.ls
/-- c' is c with constants folded at some places -/
inductive Folds (c : Cod) : Cod → Prop
  | refl : Folds c c
  | step {c' c'' : Cod} : Folds c c' → Fold1 c' c'' → Folds c c''
/-- nothing is left to be folded -/
def Flat1 (c : Cod) : Prop := ∀ k, foldI (c.xs.drop k) = none
theorem Folds.flat {c c' : Cod} (h : Folds c c') (hf : Flat1 c) : c' = c := by
  induction h with
  | refl => rfl
  | step _ h1 ih =>
    subst ih
    obtain ⟨pre, l, x, n, e1, e2, _⟩ := h1
    have := hf pre.length
    rw [e1, List.drop_left, e2] at this
    cases this
/-- the simulation gives no more where it begins with less -/
theorem runD_mono {L : Nat} : ∀ (xs : List Ins) (d m m' : Int) (st : Nat → Bool) (r : Int), m' ≤ m → runD L xs d m st = some r → ∃ r', runD L xs d m' st = some r' ∧ r' ≤ r
  | [], d, m, m', st, r, hm, h => by
    unfold runD at h ⊢
    split at h
    · rename_i hd
      simp only [Option.some.injEq] at h
      exact ⟨m', by rw [if_pos hd], by omega⟩
    · cases h
  | x :: xs, d, m, m', st, r, hm, h => by
    unfold runD at h ⊢
    split at h
    · rename_i hc
      rw [if_pos hc]
      refine runD_mono xs _ _ _ _ r ?_ h
      (try split) <;> (try split) <;> (try split) <;> omega
    · cases h
/-- what follows the same instructions may be replaced by what simulates no worse -/
theorem runD_pre {L : Nat} {l l' : List Ins} (hl : ∀ (d m : Int) (st : Nat → Bool) (r : Int), 0 ≤ d → runD L l d m st = some r → ∃ r', runD L l' d m st = some r' ∧ r' ≤ r) :
    ∀ (pre : List Ins) (d m : Int) (st : Nat → Bool) (r : Int), 0 ≤ d → runD L (pre ++ l) d m st = some r → ∃ r', runD L (pre ++ l') d m st = some r' ∧ r' ≤ r
  | [], d, m, st, r, hd, h => hl d m st r hd h
  | x :: xs, d, m, st, r, hd, h => by
    rw [List.cons_append] at h ⊢
    unfold runD at h ⊢
    split at h
    · rename_i hc
      rw [if_pos hc]
      have := push_bd x.op
      exact runD_pre hl xs _ _ _ r (by omega) h
    · cases h
theorem empty_name : ((⟨#[]⟩ : ByteArray).toList == []) = true := by rw [Lib.toList_data]; rfl
theorem runD_push {L : Nat} {x : Ins} {r : List Ins} {d m : Int} {st : Nat → Bool} {z : Int} (h1 : x.op = 1) (h : runD L (x :: r) d m st = some z) : runD L r (d + 1) (if d + 1 > m then d + 1 else m) st = some z := by
  unfold runD at h
  split at h
  · rw [h1] at h
    have e1 : popsI 1 x.name = 0 := rfl
    have e2 : pushI 1 = 1 := rfl
    have e3 : markSt 1 x.num st = st := rfl
    rw [e1, e2, e3, show d - 0 + 1 = d + 1 by omega] at h
    exact h
  · cases h
theorem runD_pushed {L : Nat} {v : Int} {r : List Ins} {d m : Int} {st : Nat → Bool} (hd : 0 ≤ d) : runD L (⟨1, ⟨#[]⟩, v⟩ :: r) d m st = runD L r (d + 1) (if d + 1 > m then d + 1 else m) st := by
  rw [runD]
  rw [if_pos ⟨by simp [wfI, empty_name], fun e => by simp at e, by show (0 : Int) ≤ d; exact hd⟩]
  have e1 : popsI 1 (⟨#[]⟩ : ByteArray) = 0 := rfl
  have e2 : pushI 1 = 1 := rfl
  have e3 : markSt 1 v st = st := rfl
  simp only [e1, e2, e3, show d - 0 + 1 = d + 1 by omega]
theorem runD_fold {L : Nat} {l : List Ins} {x : Ins} {n : Nat} (hf : foldI l = some (x, n)) (d m : Int) (st : Nat → Bool) (r : Int) (hd : 0 ≤ d) (h : runD L l d m st = some r) : ∃ r', runD L (x :: l.drop n) d m st = some r' ∧ r' ≤ r := by
  rcases foldI_some hf with ⟨a, b, q, rfl, ha, hb, rfl, rfl⟩ | ⟨a, b, c, q, rfl, ha, hb, hc, rfl, rfl⟩
  · rw [runD_pushed hd]
    have h1 := runD_push ha h
    unfold runD at h1
    split at h1
    · rw [hb] at h1
      have e1 : popsI 5 b.name = 1 := rfl
      have e2 : pushI 5 = 1 := rfl
      have e3 : markSt 5 b.num st = st := rfl
      rw [e1, e2, e3, show d + 1 - 1 + 1 = d + 1 by omega] at h1
      refine runD_mono q _ _ _ _ _ ?_ h1
      (try split) <;> (try split) <;> (try split) <;> omega
    · cases h1
  · rw [runD_pushed hd]
    have h1 := runD_push hb (runD_push ha h)
    unfold runD at h1
    split at h1
    · rw [hc] at h1
      have e1 : popsI 6 c.name = 2 := rfl
      have e2 : pushI 6 = 1 := rfl
      have e3 : markSt 6 c.num st = st := rfl
      rw [e1, e2, e3, show d + 1 + 1 - 2 + 1 = d + 1 by omega] at h1
      refine runD_mono q _ _ _ _ _ ?_ h1
      (try split) <;> (try split) <;> (try split) <;> (try split) <;> omega
    · cases h1
theorem Fold1.depth {c c' : Cod} (h : Fold1 c c') {r : Int} (hr : c.depth = some r) : ∃ r', c'.depth = some r' ∧ r' ≤ r := by
  obtain ⟨pre, l, x, n, e1, e2, e3, e4⟩ := h
  unfold Cod.depth at hr ⊢
  split at hr
  · rename_i h300
    rw [e1] at hr h300
    obtain ⟨r', h1, h2⟩ := runD_pre (fun d m st r hd h => runD_fold e2 d m st r hd h) pre 0 0 (fun _ => false) r (by omega) hr
    refine ⟨r', ?_, h2⟩
    rw [e3, e4, if_pos ?_]
    · exact h1
    · have : 1 ≤ n ∧ n ≤ l.length := by
        rcases foldI_some e2 with ⟨a, b, q, rfl, _, _, _, rfl⟩ | ⟨a, b, c, q, rfl, _, _, _, _, rfl⟩ <;> simp
      simp only [List.length_append, List.length_cons, List.length_drop] at h300 ⊢
      omega
  · cases hr
theorem Fold1.len {c c' : Cod} (h : Fold1 c c') : c'.xs.length < c.xs.length := by
  obtain ⟨pre, l, x, n, e1, e2, e3, e4⟩ := h
  have : 2 ≤ n ∧ n ≤ l.length := by
    rcases foldI_some e2 with ⟨a, b, q, rfl, _, _, _, rfl⟩ | ⟨a, b, c, q, rfl, _, _, _, _, rfl⟩ <;> simp
  rw [e1, e3]
  simp only [List.length_append, List.length_cons, List.length_drop]
  omega
theorem Fold1.runB {c c' : Cod} (h : Fold1 c c') (hb : c.runB = true) : c'.runB = true := by
  unfold Cod.runB at hb ⊢
  simp only [Bool.and_eq_true] at hb ⊢
  obtain ⟨r, hr⟩ := Option.isSome_iff_exists.1 hb.1
  obtain ⟨r', h1, _⟩ := h.depth hr
  refine ⟨by rw [h1]; rfl, ?_⟩
  obtain ⟨pre, l, x, n, e1, e2, e3, e4⟩ := h
  have hn := List.all_eq_true.1 hb.2
  rw [e1] at hn
  rw [e3, List.all_eq_true]
  intro y hy
  rcases List.mem_append.1 hy with hy | hy
  · exact hn y (List.mem_append_left _ hy)
  · rcases List.mem_cons.1 hy with rfl | hy
    · have key : ∀ v, numB ⟨1, ⟨#[]⟩, satI v⟩ = true := fun v => by
        have := satI_S9 v
        unfold S9 at this
        exact inB_iff.2 (by simp only; omega)
      rcases foldI_some e2 with ⟨a, b, q, _, _, _, rfl, _⟩ | ⟨a, b, c, q, _, _, _, _, rfl, _⟩
      · exact key _
      · exact key _
    · exact hn y (List.mem_append_right _ (List.mem_of_mem_drop hy))
/-- a machine's state behind instructions, and the instructions behind these -/
theorem runG_pre {n m : Nat} {f : Nat → Int} {tm : Int} {t : Tex} {l l' : List Ins} (hl : ∀ S L, runG n m f tm t l S L = runG n m f tm t l' S L) : ∀ (pre : List Ins) (S L : List (List Int)), runG n m f tm t (pre ++ l) S L = runG n m f tm t (pre ++ l') S L
  | [], S, L => hl S L
  | x :: xs, S, L => by
    rw [List.cons_append, List.cons_append, runG, runG]
    exact runG_pre hl xs _ _
theorem next_push {n m : Nat} {f : Nat → Int} {tm : Int} {t : Tex} {x : Ins} {S L : List (List Int)} (h : x.op = 1) : nextS n m f tm t x S L = S ++ [List.replicate m x.num] ∧ nextL x S L = L := by
  unfold nextS nextL cutI rowI
  rw [h]
  have e1 : popsI 1 x.name = 0 := rfl
  rw [e1]
  simp
theorem zip_repl (g : Int → Int → Int) (m : Nat) (a b : Int) : List.zipWith g (List.replicate m a) (List.replicate m b) = List.replicate m (g a b) := by
  induction m with
  | zero => rfl
  | succ m ih => simp [List.replicate_succ, ih]
theorem next_un {n m : Nat} {f : Nat → Int} {tm : Int} {t : Tex} {x : Ins} {S L : List (List Int)} {a : Int} (h : x.op = 5) : nextS n m f tm t x (S ++ [List.replicate m a]) L = S ++ [List.replicate m (arithI x.num a a)] ∧ nextL x (S ++ [List.replicate m a]) L = L := by
  have hc : cutI x.op x.name (S ++ [List.replicate m a]) = S.length := by
    unfold cutI
    rw [h]
    show (S ++ [List.replicate m a]).length - (1 : Int).toNat = S.length
    simp
  unfold nextS nextL
  rw [if_neg (by omega), if_neg (by omega), hc, List.take_left, List.drop_left]
  refine ⟨?_, rfl⟩
  unfold rowI
  rw [if_neg (by omega), if_neg (by omega), if_neg (by omega), if_pos h]
  simp [zip_repl]
theorem next_bin {n m : Nat} {f : Nat → Int} {tm : Int} {t : Tex} {x : Ins} {S L : List (List Int)} {a b : Int} (h : x.op = 6) : nextS n m f tm t x (S ++ [List.replicate m a] ++ [List.replicate m b]) L = S ++ [List.replicate m (arithI x.num a b)] ∧ nextL x (S ++ [List.replicate m a] ++ [List.replicate m b]) L = L := by
  have hc : cutI x.op x.name (S ++ [List.replicate m a] ++ [List.replicate m b]) = S.length := by
    unfold cutI
    rw [h]
    show (S ++ [List.replicate m a] ++ [List.replicate m b]).length - (2 : Int).toNat = S.length
    simp
  unfold nextS nextL
  rw [if_neg (by omega), if_neg (by omega), hc, List.append_assoc, List.take_left, List.drop_left]
  refine ⟨?_, rfl⟩
  unfold rowI
  rw [if_neg (by omega), if_neg (by omega), if_neg (by omega), if_neg (by omega), if_pos h]
  simp [zip_repl]
theorem next_pushL {x : Ins} {S L : List (List Int)} (h : x.op = 1) : nextL x S L = L := by unfold nextL; rw [if_neg (by omega)]
theorem next_unL {x : Ins} {S L : List (List Int)} (h : x.op = 5) : nextL x S L = L := by unfold nextL; rw [if_neg (by omega)]
theorem next_binL {x : Ins} {S L : List (List Int)} (h : x.op = 6) : nextL x S L = L := by unfold nextL; rw [if_neg (by omega)]
theorem runG_fold {n m : Nat} {f : Nat → Int} {tm : Int} {t : Tex} {l : List Ins} {x : Ins} {q : Nat} (hf : foldI l = some (x, q)) (hw : ∀ y ∈ l, y.op = 5 → y.num = 3) (S L : List (List Int)) : runG n m f tm t l S L = runG n m f tm t (x :: l.drop q) S L := by
  rcases foldI_some hf with ⟨a, b, r, rfl, ha, hb, rfl, rfl⟩ | ⟨a, b, c, r, rfl, ha, hb, hc, rfl, rfl⟩
  · have h3 := hw b (by simp) hb
    rw [runG, (next_push ha).1, next_pushL ha, runG, (next_un hb).1, next_unL hb, runG, (next_push rfl).1, next_pushL rfl, h3]
    rfl
  · rw [runG, (next_push ha).1, next_pushL ha, runG, (next_push hb).1, next_pushL hb, runG, (next_bin hc).1, next_binL hc, runG, (next_push rfl).1, next_pushL rfl]
    rfl
theorem Fold1.out {c c' : Cod} (h : Fold1 c c') (hb : c.runB = true) (g : Grd) : c'.out g = c.out g := by
  have hwf := Cod.wf (c := c) (by unfold Cod.runB at hb; simp only [Bool.and_eq_true] at hb; exact hb.1)
  obtain ⟨pre, l, x, n, e1, e2, e3, e4⟩ := h
  unfold Cod.out
  rw [e1, e3, e4]
  refine (runG_pre (fun S L => runG_fold e2 (fun y hy h5 => ?_) S L) pre _ _).symm
  have := hwf y (by rw [e1]; exact List.mem_append_right _ hy)
  rw [h5] at this
  simp [wfI] at this
  exact this.2
theorem Folds.keep {c c' : Cod} (h : Folds c c') (hb : c.runB = true) : c'.runB = true ∧ c'.ls = c.ls ∧ c'.xs.length ≤ c.xs.length ∧ (∀ r, c.depth = some r → ∃ r', c'.depth = some r' ∧ r' ≤ r) ∧ ∀ g, c'.out g = c.out g := by
  induction h with
  | refl => exact ⟨hb, rfl, Nat.le_refl _, fun r hr => ⟨r, hr, Int.le_refl _⟩, fun g => rfl⟩
  | step _ h1 ih =>
    obtain ⟨i1, i2, i3, i4, i5⟩ := ih
    refine ⟨h1.runB i1, ?_, by have := h1.len; omega, fun r hr => ?_, fun g => (h1.out i1 g).trans (i5 g)⟩
    · obtain ⟨_, _, _, _, _, _, _, e4⟩ := h1
      exact e4.trans i2
    · obtain ⟨r1, h2, h3⟩ := i4 r hr
      obtain ⟨r2, h4, h5⟩ := h1.depth h2
      exact ⟨r2, h4, by omega⟩
theorem Folds.shade {c c' : Cod} (h : Folds c c') (hb : c.runB = true) (g : Grd) : c'.shade g = c.shade g := by
  obtain ⟨h1, h2, _, _, h5⟩ := h.keep hb
  have hr : c'.res g = c.res g := by unfold Cod.res; rw [h1, hb, h5]
  unfold Cod.shade
  rw [h1, hb, h2, hr]
end Go.Proofs.YtaegmenjgjdimaaGreat
end

section
/- This text holds the reading of programs of the shading language, and what the laws' helper functions over them do: sizes. -/
namespace Go.Proofs.YtaegmenjgjdimaaGreat
open Go.RowKit

/-- a node: its operation, name, number, arguments -/
structure Nd where
  op : Int
  name : ByteArray
  num : Int
  args : List Int
/-- an assignment: its name, the root of its expression -/
structure Asg where
  name : ByteArray
  root : Int
structure Prg where
  ns : List Nd
  gs : List Asg
/-- v reads in w as the nodes xs -/
def Nds (lo hi : Nat) (w : World) (v : Value) (xs : List Nd) : Prop :=
  ∃ a cap, v = .slice a xs.length cap ∧ xs.length ≤ cap ∧ cap ≤ maxLen ∧ ∀ i x, xs[i]? = some x → (I64 x.op ∧ I64 x.num) ∧ ∃ b off u, a = some ⟨b, off, none⟩ ∧ lo ≤ b ∧ b < hi ∧ w.cell? ⟨b, off + i * 4, none⟩ = some (.int .i64 x.op) ∧ w.cell? ⟨b, off + i * 4 + 1, none⟩ = some (.string x.name) ∧ w.cell? ⟨b, off + i * 4 + 2, none⟩ = some (.int .i64 x.num) ∧ w.cell? ⟨b, off + i * 4 + 3, none⟩ = some u ∧ Ints lo hi w u x.args
theorem Nds.same {lo hi : Nat} {w w' : World} {v : Value} {xs : List Nd} (h : Nds lo hi w v xs) (s : Same lo hi w w') : Nds lo hi w' v xs := by
  obtain ⟨a, cap, h1, h2, h3, h4⟩ := h
  refine ⟨a, cap, h1, h2, h3, fun i x hx => ?_⟩
  obtain ⟨h5, b, off, u, h6, h7, h8, h9, h10, h11, h12, h13⟩ := h4 i x hx
  exact ⟨h5, b, off, u, h6, h7, h8, by rw [s.cell h7 h8]; exact h9, by rw [s.cell h7 h8]; exact h10, by rw [s.cell h7 h8]; exact h11, by rw [s.cell h7 h8]; exact h12, h13.same s⟩
structure NdsAt (lo hi : Nat) (w : World) (a : Option Addr) (cap : Nat) (xs : List Nd) : Prop where
  le : xs.length ≤ cap
  cap : cap ≤ 9223372036854775807
  cell : ∀ i x, xs[i]? = some x → (I64 x.op ∧ I64 x.num) ∧ ∃ b off u, a = some ⟨b, off, none⟩ ∧ lo ≤ b ∧ b < hi ∧ w.cell? ⟨b, off + i * 4, none⟩ = some (.int .i64 x.op) ∧ w.cell? ⟨b, off + i * 4 + 1, none⟩ = some (.string x.name) ∧ w.cell? ⟨b, off + i * 4 + 2, none⟩ = some (.int .i64 x.num) ∧ w.cell? ⟨b, off + i * 4 + 3, none⟩ = some u ∧ Ints lo hi w u x.args
theorem Nds.open {lo hi : Nat} {w : World} {v : Value} {xs : List Nd} (h : Nds lo hi w v xs) : ∃ a cap, v = .slice a xs.length cap ∧ NdsAt lo hi w a cap xs := by
  obtain ⟨a, cap, g1, g2, g3, g4⟩ := h
  exact ⟨a, cap, g1, g2, by unfold maxLen at g3; omega, g4⟩
theorem NdsAt.shut {lo hi : Nat} {w : World} {a : Option Addr} {cap : Nat} {xs : List Nd} (h : NdsAt lo hi w a cap xs) : Nds lo hi w (.slice a xs.length cap) xs :=
  ⟨a, cap, rfl, h.le, by unfold maxLen; have := h.cap; omega, h.cell⟩
/-- node k, and its cells in a world that w grew to -/
theorem NdsAt.at {lo hi : Nat} {w : World} {a : Option Addr} {cap : Nat} {xs : List Nd} (h : NdsAt lo hi w a cap xs) {k : Nat} (hk : k < xs.length) {wr : World} (hx : Ext w wr) (hh : hi ≤ w.heap.size) :
    ∃ b off op s n u r, a = some ⟨b, off, none⟩ ∧ b < w.heap.size ∧ b < wr.heap.size ∧ xs.drop k = ⟨op, s, n, r⟩ :: xs.drop (k + 1) ∧ xs[k]? = some ⟨op, s, n, r⟩ ∧ I64 op ∧ I64 n ∧ Ints lo hi wr u r ∧ wr.cell? ⟨b, off + k * 4, none⟩ = some (.int .i64 op) ∧ wr.cell? ⟨b, off + k * 4 + 1, none⟩ = some (.string s) ∧ wr.cell? ⟨b, off + k * 4 + 2, none⟩ = some (.int .i64 n) ∧ wr.cell? ⟨b, off + k * 4 + 3, none⟩ = some u := by
  obtain ⟨⟨i1, i2⟩, b, off, u, e, h1, h2, c0, c1, c2, c3, hu⟩ := h.cell k xs[k] (by simp [hk])
  have hz := hx.size
  refine ⟨b, off, xs[k].op, xs[k].name, xs[k].num, u, xs[k].args, e, by omega, by omega, List.drop_eq_getElem_cons hk, by simp [hk], i1, i2, hu.ext hh hx, ?_, ?_, ?_, ?_⟩
  · exact (hx.cells.1 b _ (by omega)).trans c0
  · exact (hx.cells.1 b _ (by omega)).trans c1
  · exact (hx.cells.1 b _ (by omega)).trans c2
  · exact (hx.cells.1 b _ (by omega)).trans c3
/-- v reads in w as the assignments xs -/
def Asgs (lo hi : Nat) (w : World) (v : Value) (xs : List Asg) : Prop :=
  ∃ a cap, v = .slice a xs.length cap ∧ xs.length ≤ cap ∧ cap ≤ maxLen ∧ ∀ i x, xs[i]? = some x → I64 x.root ∧ ∃ b off, a = some ⟨b, off, none⟩ ∧ lo ≤ b ∧ b < hi ∧ w.cell? ⟨b, off + i * 2, none⟩ = some (.string x.name) ∧ w.cell? ⟨b, off + i * 2 + 1, none⟩ = some (.int .i64 x.root)
theorem Asgs.same {lo hi : Nat} {w w' : World} {v : Value} {xs : List Asg} (h : Asgs lo hi w v xs) (s : Same lo hi w w') : Asgs lo hi w' v xs := by
  obtain ⟨a, cap, h1, h2, h3, h4⟩ := h
  refine ⟨a, cap, h1, h2, h3, fun i x hx => ?_⟩
  obtain ⟨h5, b, off, h6, h7, h8, h9, h10⟩ := h4 i x hx
  exact ⟨h5, b, off, h6, h7, h8, by rw [s.cell h7 h8]; exact h9, by rw [s.cell h7 h8]; exact h10⟩
structure AsgsAt (lo hi : Nat) (w : World) (a : Option Addr) (cap : Nat) (xs : List Asg) : Prop where
  le : xs.length ≤ cap
  cap : cap ≤ 9223372036854775807
  cell : ∀ i x, xs[i]? = some x → I64 x.root ∧ ∃ b off, a = some ⟨b, off, none⟩ ∧ lo ≤ b ∧ b < hi ∧ w.cell? ⟨b, off + i * 2, none⟩ = some (.string x.name) ∧ w.cell? ⟨b, off + i * 2 + 1, none⟩ = some (.int .i64 x.root)
theorem Asgs.open {lo hi : Nat} {w : World} {v : Value} {xs : List Asg} (h : Asgs lo hi w v xs) : ∃ a cap, v = .slice a xs.length cap ∧ AsgsAt lo hi w a cap xs := by
  obtain ⟨a, cap, g1, g2, g3, g4⟩ := h
  exact ⟨a, cap, g1, g2, by unfold maxLen at g3; omega, g4⟩
theorem AsgsAt.shut {lo hi : Nat} {w : World} {a : Option Addr} {cap : Nat} {xs : List Asg} (h : AsgsAt lo hi w a cap xs) : Asgs lo hi w (.slice a xs.length cap) xs :=
  ⟨a, cap, rfl, h.le, by unfold maxLen; have := h.cap; omega, h.cell⟩
theorem AsgsAt.at {lo hi : Nat} {w : World} {a : Option Addr} {cap : Nat} {xs : List Asg} (h : AsgsAt lo hi w a cap xs) {k : Nat} (hk : k < xs.length) {wr : World} (hx : Ext w wr) (hh : hi ≤ w.heap.size) :
    ∃ b off s r, a = some ⟨b, off, none⟩ ∧ b < w.heap.size ∧ b < wr.heap.size ∧ xs.drop k = ⟨s, r⟩ :: xs.drop (k + 1) ∧ xs[k]? = some ⟨s, r⟩ ∧ I64 r ∧ wr.cell? ⟨b, off + k * 2, none⟩ = some (.string s) ∧ wr.cell? ⟨b, off + k * 2 + 1, none⟩ = some (.int .i64 r) := by
  obtain ⟨i1, b, off, e, h1, h2, c0, c1⟩ := h.cell k xs[k] (by simp [hk])
  have hz := hx.size
  refine ⟨b, off, xs[k].name, xs[k].root, e, by omega, by omega, List.drop_eq_getElem_cons hk, by simp [hk], i1, ?_, ?_⟩
  · exact (hx.cells.1 b _ (by omega)).trans c0
  · exact (hx.cells.1 b _ (by omega)).trans c1
def Prg.R (p : Prg) (lo hi : Nat) (w : World) (v : Value) : Prop := ∃ nu au, v = .agg #[nu, au] ∧ Nds lo hi w nu p.ns ∧ Asgs lo hi w au p.gs
theorem Prg.R.same {p : Prg} {lo hi : Nat} {w w' : World} {v : Value} (h : p.R lo hi w v) (s : Same lo hi w w') : p.R lo hi w' v := by
  obtain ⟨nu, au, h1, h2, h3⟩ := h
  exact ⟨nu, au, h1, h2.same s, h3.same s⟩
theorem Prg.R.ext {p : Prg} {lo hi : Nat} {w w' : World} {v : Value} (h : p.R lo hi w v) (hh : hi ≤ w.heap.size) (e : Ext w w') : p.R lo hi w' v := h.same (e.same hh)
theorem Prg.R.kp {p : Prg} {lo hi : Nat} {w w' : World} {v : Value} (h : p.R lo hi w v) (k : Kp lo hi w w') : p.R lo hi w' v := h.same k.same
theorem Nds.ext {lo hi : Nat} {w w' : World} {v : Value} {xs : List Nd} (h : Nds lo hi w v xs) (hh : hi ≤ w.heap.size) (e : Ext w w') : Nds lo hi w' v xs := h.same (e.same hh)
theorem Asgs.ext {lo hi : Nat} {w w' : World} {v : Value} {xs : List Asg} (h : Asgs lo hi w v xs) (hh : hi ≤ w.heap.size) (e : Ext w w') : Asgs lo hi w' v xs := h.same (e.same hh)
theorem Prg.R.form {p : Prg} {lo hi : Nat} {w : World} {v : Value} (h : p.R lo hi w v) : ∃ a1 c1 a2 c2, v = .agg #[.slice a1 p.ns.length c1, .slice a2 p.gs.length c2] ∧ NdsAt lo hi w a1 c1 p.ns ∧ AsgsAt lo hi w a2 c2 p.gs := by
  obtain ⟨iu, lu, rfl, h2, h3⟩ := h
  obtain ⟨a1, c1, rfl, H1⟩ := h2.open
  obtain ⟨a2, c2, rfl, H2⟩ := h3.open
  exact ⟨a1, c1, a2, c2, rfl, H1, H2⟩
/-- the texts in a program are of a size that memory holds -/
def Prg.bd (p : Prg) : Prop := (∀ x ∈ p.ns, x.name.size ≤ maxLen) ∧ ∀ x ∈ p.gs, x.name.size ≤ maxLen
def Prg.small (p : Prg) : Prop := (p.ns.length ≤ 1048576 ∧ ∀ x ∈ p.ns, x.args.length ≤ 1048576) ∧ p.gs.length ≤ 1048576

end Go.Proofs.YtaegmenjgjdimaaGreat
end

section
/- This text proves what the names of the shading language are, on both sides. -/
namespace Go.Proofs.YtaegmenjgjdimaaGreat
open Go.RowKit

def letN (n : Nat) : Bool := decide (97 ≤ n) && decide (n ≤ 122)
def digN (n : Nat) : Bool := decide (48 ≤ n) && decide (n ≤ 57)
/-- byte k of a name is a letter, or a digit behind the first one -/
def identAt (s : ByteArray) (k : Nat) : Bool := if h : k < s.size then letN s[k].toNat || (decide (k ≠ 0) && digN s[k].toNat) else true
def identB (s : ByteArray) : Bool := decide (1 ≤ s.size) && decide (s.size ≤ 8) && (List.range s.size).all (identAt s)
theorem identB_no {s : ByteArray} {k : Nat} (hk : k < s.size) (h : identAt s k = false) : identB s = false := by
  unfold identB
  rw [Bool.and_eq_false_iff]
  right
  rw [List.all_eq_false]
  exact ⟨k, List.mem_range.2 hk, by simp [h]⟩
theorem identB_yes {s : ByteArray} (h : ∀ k, k < s.size → identAt s k = true) : identB s = (decide (1 ≤ s.size) && decide (s.size ≤ 8)) := by
  unfold identB
  have : (List.range s.size).all (identAt s) = true := List.all_eq_true.2 fun k hk => h k (List.mem_range.1 hk)
  rw [this, Bool.and_true]
theorem identAt_let {s : ByteArray} {k : Nat} (hk : k < s.size) (h : 97 ≤ s[k].toNat ∧ s[k].toNat ≤ 122) : identAt s k = true := by
  unfold identAt letN
  rw [dif_pos hk, decide_eq_true h.1, decide_eq_true h.2]
  rfl
theorem identAt_dig {s : ByteArray} {k : Nat} (hk : k < s.size) (h0 : k ≠ 0) (h : 48 ≤ s[k].toNat ∧ s[k].toNat ≤ 57) : identAt s k = true := by
  unfold identAt digN
  rw [dif_pos hk, decide_eq_true h.1, decide_eq_true h.2, decide_eq_true h0]
  simp
theorem identAt_no {s : ByteArray} {k : Nat} (hk : k < s.size) (h1 : ¬(97 ≤ s[k].toNat ∧ s[k].toNat ≤ 122)) (h2 : ¬(k ≠ 0 ∧ 48 ≤ s[k].toNat ∧ s[k].toNat ≤ 57)) : identAt s k = false := by
  unfold identAt letN digN
  rw [dif_pos hk]
  simp only [Bool.or_eq_false_iff, Bool.and_eq_false_iff, decide_eq_false_iff_not]
  omega
set_option maxHeartbeats 3200000 in
theorem sIsIdentifier_any (s : ByteArray) (w : World) (hs : s.size ≤ maxLen) : Calls Tryz.prog 109 #[.string s] w fun e w' => e = .returned (.bool (identB s)) ∧ w = w' := by
  unfold maxLen at hs
  go_enter Tryz.func109, Tryz.ntmps109
  go_wp2
  go_loopw [3] (fun i wr => ∃ k : Nat, k ≤ s.size ∧ i = .int .i64 k ∧ wr = w ∧ ∀ j, j < k → identAt s j = true) (fun i _ => s.size - (intOf i).toNat)
  case atStart => exact ⟨0, by omega, rfl, rfl, fun j h => by omega⟩
  case round =>
    obtain ⟨k, hk, rfl, rfl, hno⟩ := hrel
    by_cases hlt : k < s.size
    · have hno' : identAt s k = true → ∀ j, j < k + 1 → identAt s j = true := fun h j hj => by
        by_cases e : j = k
        · subst e; exact h
        · exact hno j (by omega)
      by_cases h1 : 97 ≤ s[k].toNat ∧ s[k].toNat ≤ 122
      · have HN := hid (hno' (identAt_let hlt h1))
        clear hno hno'
        go_wp2
        go_roundw
        case rel => exact ⟨k + 1, by omega, by go_num, by trivial, HN.out⟩
        case measure => simp [intOf]; omega
      · by_cases h2 : k ≠ 0 ∧ 48 ≤ s[k].toNat ∧ s[k].toNat ≤ 57
        · have HN := hid (hno' (identAt_dig hlt h2.1 h2.2))
          have ek : ((k : Int) == 0) = false := beq_eq_false_iff_ne.2 (by omega)
          clear hno hno'
          go_wp2
          all_goals first | (exfalso; omega) | skip
          all_goals (go_roundw <;> first | exact ⟨k + 1, by omega, by go_num, by trivial, HN.out⟩ | (simp [intOf]; omega))
        · have HN := hid (identB_no hlt (identAt_no hlt h1 h2))
          clear hno hno'
          by_cases h0 : k = 0
          · have ek : ((k : Int) == 0) = true := by subst h0; rfl
            go_wp2
            all_goals first | (exfalso; omega) | (go_ret; exact ⟨by rw [HN.out]; rfl, rfl⟩) | (exfalso; simp_all <;> omega) | trace_state
          · have ek : ((k : Int) == 0) = false := beq_eq_false_iff_ne.2 (by omega)
            go_wp2
            all_goals first | (exfalso; omega) | (go_ret; exact ⟨by rw [HN.out]; rfl, rfl⟩) | (exfalso; simp_all <;> omega) | trace_state
    · obtain rfl : k = s.size := by omega
      have HN := hid (identB_yes hno)
      clear hno
      obtain ⟨bi, hbi⟩ : ∃ b, inB (s.size : Int) 1 8 = b := ⟨_, rfl⟩
      have hb2 : identB s = bi := by
        rw [HN.out, ← hbi]
        unfold inB
        rw [Bool.eq_iff_iff]
        simp only [Bool.and_eq_true, decide_eq_true_eq]
        omega
      have HB := hid hb2
      go_wp2_with fail
      refine (l01In_val hbi _).mono ?_
      rintro e w1 ⟨rfl, rfl⟩
      go_wp2
      go_ret
      exact ⟨by rw [HB.out]; rfl, rfl⟩
set_option maxHeartbeats 6400000 in
theorem iIsIdentifier_any (s : ByteArray) (w : World) (hs : s.size ≤ maxLen) : Calls Tryz.prog 116 #[.string s] w fun e w' => e = .returned (.bool (identB s)) ∧ Ext w w' := by
  unfold maxLen at hs
  have hk0 : (w.iter s 0).heap[w.heap.size]? = some (.stringIter s 0) := World.iter_heap w s 0
  have hb0 : Ext w (w.iter s 0) := (Ext.refl w).alloc _
  go_enter Tryz.func116, Tryz.ntmps116
  go_wp2
  go_loopw [9] (fun _ wr => ∃ pos : Nat, pos ≤ s.size ∧ wr.heap[w.heap.size]? = some (.stringIter s pos) ∧ (∀ j, j < pos → identAt s j = true) ∧ Ext w wr) (fun _ wr => s.size - wr.iterPos w.heap.size)
  case atStart => exact ⟨0, Nat.zero_le _, hk0, fun j h => by omega, hb0⟩
  case round =>
    obtain ⟨pos, hps, hk, hno, hnx⟩ := hrel
    clear hk0 hb0
    by_cases hp : pos < s.size
    · have hno' : identAt s pos = true → ∀ j, j < pos + 1 → identAt s j = true := fun h j hj => by
        by_cases e : j = pos
        · subst e; exact h
        · exact hno j (by omega)
      have hmu : wr.iterPos w.heap.size = pos := by simp [World.iterPos, hk]
      by_cases ha : (s[pos]'hp).toNat < 128
      · have hnext : ∀ ty, (Instr.next (.pointer (some ⟨w.heap.size, 0, none⟩)) true ty).run Tryz.prog wr = _ := fun ty => Lib.run_next_ascii_at wr w.heap.size s pos ty hk hp ha
        have hk1 := Lib.iterAt_heap wr w.heap.size s pos (pos + 1) hk
        have hnx1 : Ext w (wr.iterAt w.heap.size s (pos + 1)) := Lib.below_iterAt hnx (by omega) s (pos + 1)
        generalize wr.iterAt w.heap.size s (pos + 1) = W1 at hnext hk1 hnx1
        have hmu1 : W1.iterPos w.heap.size = pos + 1 := by simp [World.iterPos, hk1]
        have HX := hid hnx1
        have HK := hid hk1
        clear hnx hk hnx1 hk1
        by_cases h1 : 97 ≤ s[pos].toNat ∧ s[pos].toNat ≤ 122
        · have HN := hid (hno' (identAt_let hp h1))
          clear hno hno'
          go_wp2
          all_goals first | (exfalso; omega) | skip
          all_goals (go_roundw <;> first | exact ⟨pos + 1, by omega, HK.out, HN.out, HX.out⟩ | (rw [hmu, hmu1]; omega))
        · by_cases h2 : pos ≠ 0 ∧ 48 ≤ s[pos].toNat ∧ s[pos].toNat ≤ 57
          · have HN := hid (hno' (identAt_dig hp h2.1 h2.2))
            have ek : ((pos : Int) == 0) = false := beq_eq_false_iff_ne.2 (by omega)
            clear hno hno'
            go_wp2
            all_goals first | (exfalso; omega) | skip
            all_goals (go_roundw <;> first | exact ⟨pos + 1, by omega, HK.out, HN.out, HX.out⟩ | (rw [hmu, hmu1]; omega))
          · have HN := hid (identB_no hp (identAt_no hp h1 h2))
            clear hno hno'
            by_cases h0 : pos = 0
            · have ek : ((pos : Int) == 0) = true := by subst h0; rfl
              go_wp2
              all_goals first | (exfalso; omega) | (go_ret; exact ⟨by rw [HN.out]; rfl, HX.out⟩) | (exfalso; simp_all <;> omega)
            · have ek : ((pos : Int) == 0) = false := beq_eq_false_iff_ne.2 (by omega)
              go_wp2
              all_goals first | (exfalso; omega) | (go_ret; exact ⟨by rw [HN.out]; rfl, HX.out⟩) | (exfalso; simp_all <;> omega)
      · have hnext : ∀ ty, (Instr.next (.pointer (some ⟨w.heap.size, 0, none⟩)) true ty).run Tryz.prog wr = _ := fun ty => Lib.run_next_any_at wr w.heap.size s pos ty hk hp
        have hnx1 : Ext w (wr.iterAt w.heap.size s (pos + (Utf8.decode s pos).2)) := Lib.below_iterAt hnx (by omega) s _
        have hhi := (decode_high s pos hp (by omega)).1
        generalize wr.iterAt w.heap.size s (pos + (Utf8.decode s pos).2) = W1 at hnext hnx1
        generalize (Utf8.decode s pos).1 = rn at hnext hhi
        have HX := hid hnx1
        have HN := hid (identB_no hp (identAt_no hp (by omega) (by omega)))
        clear hnx hk hnx1 hno hno'
        by_cases h0 : pos = 0
        · have ek : ((pos : Int) == 0) = true := by subst h0; rfl
          go_wp2
          all_goals first | (exfalso; omega) | (go_ret; exact ⟨by rw [HN.out]; rfl, HX.out⟩) | (exfalso; simp_all <;> omega)
        · have ek : ((pos : Int) == 0) = false := beq_eq_false_iff_ne.2 (by omega)
          go_wp2
          all_goals first | (exfalso; omega) | (go_ret; exact ⟨by rw [HN.out]; rfl, HX.out⟩) | (exfalso; simp_all <;> omega)
    · obtain rfl : pos = s.size := by omega
      have hnext : ∀ ty, (Instr.next (.pointer (some ⟨w.heap.size, 0, none⟩)) true ty).run Tryz.prog wr = _ := fun ty => Lib.run_next_end_at wr w.heap.size s s.size ty hk hp
      have HN := hid (identB_yes hno)
      have HX := hid hnx
      clear hno hnx hk
      by_cases h1 : 1 ≤ s.size
      · by_cases h8 : s.size ≤ 8
        · have HB := hid (show identB s = true by rw [HN.out, decide_eq_true h1, decide_eq_true h8]; rfl)
          go_wp2
          all_goals first | (exfalso; omega) | (go_ret; exact ⟨by rw [HB.out]; rfl, HX.out⟩) | (go_ret; exact ⟨by rw [HB.out]; simp <;> omega, HX.out⟩) | (exfalso; simp_all <;> omega)
        · have HB := hid (show identB s = false by rw [HN.out, decide_eq_false h8]; simp)
          go_wp2
          all_goals first | (exfalso; omega) | (go_ret; exact ⟨by rw [HB.out]; rfl, HX.out⟩) | (go_ret; exact ⟨by rw [HB.out]; simp <;> omega, HX.out⟩) | (exfalso; simp_all <;> omega)
      · have HB := hid (show identB s = false by rw [HN.out, decide_eq_false h1]; simp)
        go_wp2
        all_goals first | (exfalso; omega) | (go_ret; exact ⟨by rw [HB.out]; rfl, HX.out⟩) | (go_ret; exact ⟨by rw [HB.out]; simp <;> omega, HX.out⟩) | (exfalso; simp_all <;> omega)
end Go.Proofs.YtaegmenjgjdimaaGreat
end

section
/- This text holds owned slices of structs, the tokens of the shading language, and the worlds in which one box and the rows of one type are written. -/
namespace Go.Proofs.YtaegmenjgjdimaaGreat
open Go.RowKit

/-- v owns, from block lo on, a row of elements xs of type e; element x fills the cells cs x -/
def OwnG {α : Type} (cs : α → List Value) (lo : Nat) (e : TypeId) (sz : Nat) (w : World) (v : Value) (xs : List α) : Prop := w.ownsRow lo e sz v xs.length (xs.flatMap cs)
theorem flatMap_at {α : Type} {cs : α → List Value} {sz : Nat} (hc : ∀ x, (cs x).length = sz) : ∀ {xs : List α} {i : Nat} {x : α}, xs[i]? = some x → ∀ j, j < sz → (xs.flatMap cs)[i * sz + j]? = (cs x)[j]?
  | [], _, _, h, _, _ => by simp at h
  | y :: r, 0, x, h, j, hj => by
    simp at h
    subst h
    rw [List.flatMap_cons, Nat.zero_mul, Nat.zero_add, List.getElem?_append_left (by rw [hc]; exact hj)]
  | y :: r, i + 1, x, h, j, hj => by
    rw [List.flatMap_cons, Nat.succ_mul, List.getElem?_append_right (by rw [hc]; omega), hc, show i * sz + sz + j - sz = i * sz + j by omega]
    exact flatMap_at hc (by simpa using h) j hj
theorem flatMap_len {α : Type} {cs : α → List Value} {sz : Nat} (hc : ∀ x, (cs x).length = sz) : ∀ xs : List α, (xs.flatMap cs).length = xs.length * sz
  | [] => by simp
  | y :: r => by rw [List.flatMap_cons, List.length_append, hc, flatMap_len hc r, List.length_cons, Nat.succ_mul]; omega
theorem OwnG.nil {α : Type} (cs : α → List Value) (lo : Nat) (e : TypeId) (sz : Nat) (w : World) : OwnG cs lo e sz w (.slice none 0 0) [] := World.ownsRow_nil _ _ _ _
theorem OwnG.lt {α : Type} {cs : α → List Value} {lo : Nat} {e : TypeId} {sz : Nat} {w : World} {v : Value} {xs : List α} (h : OwnG cs lo e sz w v xs) : ∀ k, v.ownBlock = some k → lo ≤ k ∧ k < w.heap.size := World.ownsRow.lt h
theorem OwnG.form {α : Type} {cs : α → List Value} {lo : Nat} {e : TypeId} {sz : Nat} {w : World} {v : Value} {xs : List α} (h : OwnG cs lo e sz w v xs) : ∃ a cap, v = .slice a xs.length cap ∧ xs.length ≤ 9223372036854775807 := by
  rcases h.2 with ⟨rfl, h4⟩ | ⟨g, cap, cur, rfl, hb, hg, hc, hm, hs, ht⟩
  · exact ⟨none, 0, by rw [h4], by omega⟩
  · exact ⟨some ⟨g, 0, none⟩, cap, rfl, by unfold maxLen at hm; omega⟩
/-- the row's block stands as it stood -/
theorem OwnG.of {α : Type} {cs : α → List Value} {lo : Nat} {e : TypeId} {sz : Nat} {w w' : World} {v : Value} {xs : List α} (h : OwnG cs lo e sz w v xs) (s : ∀ b c, lo ≤ b → w.heap[b]? = some (.cells c e (0, 0)) → w'.heap[b]? = some (.cells c e (0, 0))) : OwnG cs lo e sz w' v xs := by
  refine ⟨h.1, ?_⟩
  rcases h.2 with hn | ⟨g, cap, cur, hv, hb, hg, r⟩
  · exact .inl hn
  · exact .inr ⟨g, cap, cur, hv, hb, s g cur hb hg, r⟩
theorem OwnG.ext {α : Type} {cs : α → List Value} {lo : Nat} {e : TypeId} {sz : Nat} {w w' : World} {v : Value} {xs : List α} (h : OwnG cs lo e sz w v xs) (x : Ext w w') : OwnG cs lo e sz w' v xs :=
  h.of fun b c _ hb => (x.block (Array.getElem?_eq_some_iff.1 hb).1).trans hb
theorem OwnG.low {α : Type} {cs : α → List Value} {lo lo' : Nat} {e : TypeId} {sz : Nat} {w : World} {v : Value} {xs : List α} (h : OwnG cs lo e sz w v xs) (hl : lo' ≤ lo) : OwnG cs lo' e sz w v xs := by
  refine ⟨h.1, ?_⟩
  rcases h.2 with hn | ⟨g, cap, cur, hv, hb, r⟩
  · exact .inl hn
  · exact .inr ⟨g, cap, cur, hv, by omega, r⟩
/-- element i: where its cells lie -/
theorem OwnG.at {α : Type} {cs : α → List Value} {lo : Nat} {e : TypeId} {sz : Nat} {w : World} {v : Value} {xs : List α} (h : OwnG cs lo e sz w v xs) (hc : ∀ x, (cs x).length = sz) {i : Nat} {x : α} (hx : xs[i]? = some x) :
    ∃ g cap, v = .slice (some ⟨g, 0, none⟩) xs.length cap ∧ lo ≤ g ∧ g < w.heap.size ∧ xs.length ≤ cap ∧ cap ≤ 9223372036854775807 ∧ (∃ c, w.heap[g]? = some (.cells c e (0, 0))) ∧ ∀ j, j < sz → w.cell? ⟨g, i * sz + j, none⟩ = (cs x)[j]? := by
  have hi := (List.getElem?_eq_some_iff.1 hx).1
  rcases h.2 with ⟨rfl, h4⟩ | ⟨g, cap, cur, rfl, hb, hg, hcap, hm, hs, ht⟩
  · omega
  · refine ⟨g, cap, rfl, hb, (Array.getElem?_eq_some_iff.1 hg).1, hcap, by unfold maxLen at hm; omega, ⟨_, hg⟩, fun j hj => ?_⟩
    have e1 := flatMap_at hc hx j hj
    rw [← ht, List.getElem?_take, if_pos (flat_lt hi hj)] at e1
    rw [← e1]
    simp only [World.cell?, hg]
    simp

/-- w' is w with new blocks, and, from lo on, block B and the rows of type e written -/
structure KN (lo B : Nat) (e : TypeId) (w w' : World) : Prop where
  os : w'.os = w.os
  tape : w'.tape = w.tape
  output : w'.output = w.output
  size : w.heap.size ≤ w'.heap.size
  block : ∀ b, b < w.heap.size → (b < lo ∨ (b ≠ B ∧ ∀ c, w.heap[b]? ≠ some (.cells c e (0, 0)))) → w'.heap[b]? = w.heap[b]?
theorem KN.refl (lo B : Nat) (e : TypeId) (w : World) : KN lo B e w w := ⟨rfl, rfl, rfl, Nat.le_refl _, fun _ _ _ => rfl⟩
theorem KN.trans {lo B : Nat} {e : TypeId} {w w1 w2 : World} (h : KN lo B e w w1) (k : KN lo B e w1 w2) : KN lo B e w w2 :=
  ⟨k.os.trans h.os, k.tape.trans h.tape, k.output.trans h.output, Nat.le_trans h.size k.size, fun b hb hn => by
    have e1 := h.block b hb hn
    exact (k.block b (Nat.lt_of_lt_of_le hb h.size) (by rw [e1]; exact hn)).trans e1⟩
theorem Ext.kn {w w' : World} (h : Ext w w') (lo B : Nat) (e : TypeId) : KN lo B e w w' := ⟨h.os, h.tape, h.output, h.size, fun b hb _ => h.block hb⟩
theorem KN.ext {lo B : Nat} {e : TypeId} {w w1 w2 : World} (h : KN lo B e w w1) (k : Ext w1 w2) : KN lo B e w w2 := h.trans (k.kn lo B e)
theorem KN.set {lo B : Nat} {e : TypeId} {w w1 : World} (h : KN lo B e w w1) (hl : lo ≤ B) (i : Nat) (u : Value) : KN lo B e w (w1.setCell ⟨B, i, none⟩ u) :=
  h.trans ⟨rfl, rfl, rfl, by rw [World.size_setCell]; exact Nat.le_refl _, fun b _ hn => Below.heap_setCell _ _ _ _ (by simp only; rcases hn with hn | hn <;> omega)⟩
/-- a row of type e grew -/
theorem KN.grown {lo B : Nat} {e : TypeId} {w w1 w2 : World} {row : Option Nat} (h : KN lo B e w w1) (hg : w1.grownBy w2 row) (hr : ∀ k, row = some k → lo ≤ k ∧ ∃ c, w1.heap[k]? = some (.cells c e (0, 0))) : KN lo B e w w2 :=
  h.trans ⟨hg.os, hg.tape, hg.output, hg.size, fun b hb hn => hg.block b hb (fun e1 => by
    obtain ⟨h1, c, h2⟩ := hr b e1.symm
    rcases hn with hn | hn
    · omega
    · exact hn.2 c h2)⟩
/-- a block made since was written -/
theorem KN.setNew {lo B : Nat} {e : TypeId} {w w1 : World} (h : KN lo B e w w1) {b : Nat} (hb : w.heap.size ≤ b) (i : Nat) (u : Value) : KN lo B e w (w1.setCell ⟨b, i, none⟩ u) :=
  ⟨h.os, h.tape, h.output, by rw [World.size_setCell]; exact h.size, fun k hk hn => (Below.heap_setCell _ _ _ _ (by simp only; omega)).trans (h.block k hk hn)⟩
theorem KN.up {lo B : Nat} {e : TypeId} {w0 w w1 : World} (h : KN lo B e w w1) (x : Ext w0 w) (hl : w0.heap.size ≤ lo) : Ext w0 w1 := by
  refine Ext.trans (Ext.refl w0) ?_
  refine (Ext.refl w0).grown (row := none) ⟨h.os.trans x.os, h.tape.trans x.tape, h.output.trans x.output, Nat.le_trans x.size h.size, fun b hb _ => ?_⟩ (fun k hk => by cases hk)
  exact (h.block b (Nat.lt_of_lt_of_le hb x.size) (.inl (by omega))).trans (x.block hb)
theorem KN.row {lo B : Nat} {e e' : TypeId} {α : Type} {cs : α → List Value} {sz lo' : Nat} {w w' : World} {v : Value} {xs : List α} (h : OwnG cs lo' e' sz w v xs) (k : KN lo B e w w') (hB : ∀ c, w.heap[B]? ≠ some (.cells c e' (0, 0))) (he : e' ≠ e) : OwnG cs lo' e' sz w' v xs :=
  h.of fun b c _ hb => (k.block b (Array.getElem?_eq_some_iff.1 hb).1 (.inr ⟨fun e1 => hB c (e1 ▸ hb), fun c' h' => by rw [hb] at h'; simp only [Option.some.injEq, Obj.cells.injEq] at h'; exact he h'.2.1⟩)).trans hb
theorem KN.ints {lo B : Nat} {e : TypeId} {lo' : Nat} {w w' : World} {v : Value} {xs : List Int} (h : OwnInts lo' w v xs) (k : KN lo B e w w') (hB : ∀ c, w.heap[B]? ≠ some (.cells c 3 (0, 0))) (he : 3 ≠ e) : OwnInts lo' w' v xs := by
  obtain ⟨⟨h1, h2⟩, h3⟩ := h
  refine ⟨⟨h1, ?_⟩, h3⟩
  rcases h2 with hn | ⟨g, cap, cur, hv, hb, hg, r⟩
  · exact .inl hn
  · refine .inr ⟨g, cap, cur, hv, hb, ?_, r⟩
    exact (k.block g (Array.getElem?_eq_some_iff.1 hg).1 (.inr ⟨fun e1 => hB cur (e1 ▸ hg), fun c' h' => by rw [hg] at h'; simp only [Option.some.injEq, Obj.cells.injEq] at h'; exact he h'.2.1⟩)).trans hg
theorem KN.blk {lo B : Nat} {e : TypeId} {w w' : World} {g : Nat} {t : TypeId} {cs : List Value} (h : Blk w g t cs) (k : KN lo B e w w') (hg : g ≠ B) (ht : t ≠ e) : Blk w' g t cs :=
  h.of (k.block g h.lt (.inr ⟨hg, fun c' h' => by unfold Blk at h; rw [h] at h'; simp only [Option.some.injEq, Obj.cells.injEq] at h'; exact ht h'.2.1⟩))

/-- a token: its kind, text, number, offset -/
structure Tok where
  kind : Int
  text : ByteArray
  num : Int
  off : Int
def Tok.cs (t : Tok) : List Value := [.int .i64 t.kind, .string t.text, .int .i64 t.num, .int .i64 t.off]
/-- a node and the slice value of its arguments -/
def ndCs (p : Nd × Value) : List Value := [.int .i64 p.1.op, .string p.1.name, .int .i64 p.1.num, p.2]
def Asg.cs (a : Asg) : List Value := [.string a.name, .int .i64 a.root]
def OwnToks (lo : Nat) (w : World) (v : Value) (xs : List Tok) : Prop := OwnG Tok.cs lo 145 4 w v xs
def OwnAsgs (lo : Nat) (w : World) (v : Value) (xs : List Asg) : Prop := OwnG Asg.cs lo 74 2 w v xs
/-- rows of nodes whose arguments lie in no block of X -/
def OwnNds (lo : Nat) (X : Nat → Prop) (w : World) (v : Value) (xs : List Nd) : Prop := ∃ ps : List (Nd × Value), ps.map (·.1) = xs ∧ OwnG ndCs lo 79 4 w v ps ∧ ∀ p ∈ ps, OwnInts lo w p.2 p.1.args ∧ ∀ k, p.2.ownBlock = some k → ¬ X k
theorem info_Token : (Tryz.prog.info? 145).map (fun i => (i.zero, i.size, i.bytes)) = some (some (.agg #[.int .i64 0, .string ⟨#[]⟩, .int .i64 0, .int .i64 0]), 4, 40) := by kernel_rfl
theorem info_NodeT : (Tryz.prog.info? 79).map (fun i => (i.zero, i.size, i.bytes)) = some (some (.agg #[.int .i64 0, .string ⟨#[]⟩, .int .i64 0, .slice none 0 0]), 4, 56) := by kernel_rfl
theorem info_AsgT : (Tryz.prog.info? 74).map (fun i => (i.zero, i.size, i.bytes)) = some (some (.agg #[.string ⟨#[]⟩, .int .i64 0]), 2, 24) := by kernel_rfl

/-- append of one element to an owned row -/
theorem wpList_append_elt {α : Type} (cs : α → List Value) (e : TypeId) (sz bytes : Nat) (z : Value) (w : World) {ops : Array Oper} {rest : List Oper} {o : Oper} {a : Act} {Q : Exit → Act → World → Prop} (hg : o.guard = none) (s x : Operand) (t : TypeId)
    (hop : o.op = Op.call { callee := Callee.builtin Builtin.append, args := #[s, x], argTypes := #[t, t] }) (ht : Tryz.prog.underlying t = some (.slice e))
    (hinfo : (Tryz.prog.info? e).map (fun i => (i.zero, i.size, i.bytes)) = some (some z, sz, bytes)) (hzs : z.cells.size = sz) (hsz : 0 < sz) (hby : bytes ≤ 1000) (hc : ∀ x, (cs x).length = sz)
    (lo : Nat) (v : Value) (xs : List α) (hs : a.eval s = v) (hown : OwnG cs lo e sz w v xs)
    (y : α) (b : Nat) (hx : a.eval x = .slice (some ⟨b, 0, none⟩) 1 1) (hcell : ∀ j, j < sz → w.cell? ⟨b, j, none⟩ = (cs y)[j]?) (h1 : ∀ u ∈ cs y, u.oneCell' = true) (hlen : xs.length < 1000000) (hlo : lo ≤ w.heap.size)
    (hK : ∀ v' w', OwnG cs lo e sz w' v' (xs ++ [y]) → w.grownBy w' v.ownBlock → wpList Tryz.prog ops Q rest (a.put o.dst v') w') : wpList Tryz.prog ops Q (o :: rest) a w := by
  obtain ⟨i0, hi0, hz0, hz1, hz2⟩ := info_parts hinfo
  refine wpList_append_own w hg s x t hop lo e i0 z sz bytes ht hi0 hz0 hz1 hz2 hzs hsz v xs.length _ hs hown ⟨b, 0, none⟩ 1 1 (cs y) hx (by rw [hc, Nat.one_mul]) ?_ h1 ?_ ?_ hlo ?_
  · intro j u hj
    have hjl : j < sz := by rw [← hc y]; exact (List.getElem?_eq_some_iff.1 hj).1
    have ea : (⟨b, 0, none⟩ : Addr).add j = ⟨b, j, none⟩ := by
      unfold Addr.add
      split <;> simp_all
    rw [ea, hcell j hjl, hj]
  · unfold maxLen; omega
  · have : (xs.length + 1) * bytes ≤ 1000000 * 1000 := Nat.mul_le_mul (by omega) hby
    omega
  · intro v' w1 hown' hgrow _
    refine hK v' w1 ?_ hgrow
    unfold OwnG
    rw [List.length_append, List.flatMap_append]
    simpa using hown'
theorem wpList_append_tok (w : World) {ops : Array Oper} {rest : List Oper} {o : Oper} {a : Act} {Q : Exit → Act → World → Prop} (hg : o.guard = none) (s x : Operand)
    (hop : o.op = Op.call { callee := Callee.builtin Builtin.append, args := #[s, x], argTypes := #[138, 138] }) (lo : Nat) (v : Value) (xs : List Tok) (hs : a.eval s = v) (hown : OwnToks lo w v xs)
    (y : Tok) (b : Nat) (hx : a.eval x = .slice (some ⟨b, 0, none⟩) 1 1) (hcell : w.cell? ⟨b, 0, none⟩ = some (.int .i64 y.kind) ∧ w.cell? ⟨b, 1, none⟩ = some (.string y.text) ∧ w.cell? ⟨b, 2, none⟩ = some (.int .i64 y.num) ∧ w.cell? ⟨b, 3, none⟩ = some (.int .i64 y.off)) (hlen : xs.length < 1000000) (hlo : lo ≤ w.heap.size)
    (hK : ∀ v' w', OwnToks lo w' v' (xs ++ [y]) → w.grownBy w' v.ownBlock → wpList Tryz.prog ops Q rest (a.put o.dst v') w') : wpList Tryz.prog ops Q (o :: rest) a w := by
  refine wpList_append_elt Tok.cs 145 4 40 _ w hg s x 138 hop Tryz.underlying138 info_Token rfl (by decide) (by decide) (fun _ => rfl) lo v xs hs hown y b hx ?_ ?_ hlen hlo hK
  · intro j hj
    obtain ⟨c0, c1, c2, c3⟩ := hcell
    rcases (show j = 0 ∨ j = 1 ∨ j = 2 ∨ j = 3 by omega) with rfl | rfl | rfl | rfl
    · exact c0
    · exact c1
    · exact c2
    · exact c3
  · intro u hu
    simp only [Tok.cs, List.mem_cons, List.not_mem_nil, or_false] at hu
    rcases hu with rfl | rfl | rfl | rfl <;> rfl
theorem wpList_append_asg (w : World) {ops : Array Oper} {rest : List Oper} {o : Oper} {a : Act} {Q : Exit → Act → World → Prop} (hg : o.guard = none) (s x : Operand)
    (hop : o.op = Op.call { callee := Callee.builtin Builtin.append, args := #[s, x], argTypes := #[24, 24] }) (lo : Nat) (v : Value) (xs : List Asg) (hs : a.eval s = v) (hown : OwnAsgs lo w v xs)
    (y : Asg) (b : Nat) (hx : a.eval x = .slice (some ⟨b, 0, none⟩) 1 1) (hcell : w.cell? ⟨b, 0, none⟩ = some (.string y.name) ∧ w.cell? ⟨b, 1, none⟩ = some (.int .i64 y.root)) (hlen : xs.length < 1000000) (hlo : lo ≤ w.heap.size)
    (hK : ∀ v' w', OwnAsgs lo w' v' (xs ++ [y]) → w.grownBy w' v.ownBlock → wpList Tryz.prog ops Q rest (a.put o.dst v') w') : wpList Tryz.prog ops Q (o :: rest) a w := by
  refine wpList_append_elt Asg.cs 74 2 24 _ w hg s x 24 hop Tryz.underlying24 info_AsgT rfl (by decide) (by decide) (fun _ => rfl) lo v xs hs hown y b hx ?_ ?_ hlen hlo hK
  · intro j hj
    obtain ⟨c0, c1⟩ := hcell
    rcases (show j = 0 ∨ j = 1 by omega) with rfl | rfl
    · exact c0
    · exact c1
  · intro u hu
    simp only [Asg.cs, List.mem_cons, List.not_mem_nil, or_false] at hu
    rcases hu with rfl | rfl <;> rfl
theorem OwnNds.nil (lo : Nat) (X : Nat → Prop) (w : World) : OwnNds lo X w (.slice none 0 0) [] := ⟨[], rfl, OwnG.nil _ _ _ _ _, fun p h => by cases h⟩
theorem OwnNds.form {lo : Nat} {X : Nat → Prop} {w : World} {v : Value} {xs : List Nd} (h : OwnNds lo X w v xs) : ∃ a cap, v = .slice a xs.length cap ∧ xs.length ≤ 9223372036854775807 := by
  obtain ⟨ps, rfl, h1, _⟩ := h
  rw [List.length_map]
  exact h1.form
theorem OwnNds.ext {lo : Nat} {X : Nat → Prop} {w w' : World} {v : Value} {xs : List Nd} (h : OwnNds lo X w v xs) (x : Ext w w') : OwnNds lo X w' v xs := by
  obtain ⟨ps, h0, h1, h2⟩ := h
  exact ⟨ps, h0, h1.ext x, fun p hp => ⟨(h2 p hp).1.ext x, (h2 p hp).2⟩⟩
theorem OwnNds.row {lo : Nat} {X : Nat → Prop} {w : World} {v : Value} {xs : List Nd} (h : OwnNds lo X w v xs) : ∀ k, v.ownBlock = some k → lo ≤ k ∧ ∃ c, w.heap[k]? = some (.cells c 79 (0, 0)) := by
  obtain ⟨ps, h0, h1, h2⟩ := h
  intro k hk
  rcases h1.2 with ⟨rfl, h4⟩ | ⟨g, cap, cur, rfl, hb, hg, hc, hm, hs, ht⟩
  · cases hk
  · simp only [Value.ownBlock, Option.some.injEq] at hk
    subst hk
    exact ⟨hb, cur, hg⟩
/-- a box that is no row is written -/
theorem OwnNds.set {lo B : Nat} {X : Nat → Prop} {w : World} {v : Value} {xs : List Nd} {T : TypeId} {cs : List Value} (h : OwnNds lo X w v xs) (hB : Blk w B T cs) (h1 : T ≠ 79) (h2 : T ≠ 3) (i : Nat) (u : Value) : OwnNds lo X (w.setCell ⟨B, i, none⟩ u) v xs := by
  obtain ⟨ps, h0, h3, h4⟩ := h
  refine ⟨ps, h0, h3.of fun b c _ hb => ?_, fun p hp => ⟨(h4 p hp).1.setOther ?_ u, (h4 p hp).2⟩⟩
  · refine (Below.heap_setCell _ _ _ _ ?_).trans hb
    intro e
    simp only at e
    subst e
    unfold Blk at hB
    rw [hB] at hb
    simp only [Option.some.injEq, Obj.cells.injEq] at hb
    exact h1 hb.2.1
  · intro e
    obtain ⟨cur, hc⟩ := (h4 p hp).1.block e
    unfold Blk at hB
    simp only at hc
    rw [hB] at hc
    simp only [Option.some.injEq, Obj.cells.injEq] at hc
    exact h2 hc.2.1
theorem OwnG.set {α : Type} {cs : α → List Value} {lo : Nat} {e : TypeId} {sz : Nat} {w : World} {v : Value} {xs : List α} {B : Nat} {T : TypeId} {us : List Value} (h : OwnG cs lo e sz w v xs) (hB : Blk w B T us) (h1 : T ≠ e) (i : Nat) (u : Value) : OwnG cs lo e sz (w.setCell ⟨B, i, none⟩ u) v xs := by
  refine h.of fun b c _ hb => (Below.heap_setCell _ _ _ _ ?_).trans hb
  intro e
  simp only at e
  subst e
  unfold Blk at hB
  rw [hB] at hb
  simp only [Option.some.injEq, Obj.cells.injEq] at hb
  exact h1 hb.2.1
/-- append of one node, whose arguments are an owned row, to an owned row of nodes -/
theorem wpList_append_nd (w : World) {ops : Array Oper} {rest : List Oper} {o : Oper} {a : Act} {Q : Exit → Act → World → Prop} (hg : o.guard = none) (s x : Operand)
    (hop : o.op = Op.call { callee := Callee.builtin Builtin.append, args := #[s, x], argTypes := #[23, 23] }) (lo : Nat) (X : Nat → Prop) (v : Value) (xs : List Nd) (hs : a.eval s = v) (hown : OwnNds lo X w v xs)
    (y : Nd) (u : Value) (hu : OwnInts lo w u y.args) (hux : ∀ k, u.ownBlock = some k → ¬ X k) (b : Nat) (hx : a.eval x = .slice (some ⟨b, 0, none⟩) 1 1) (hcell : w.cell? ⟨b, 0, none⟩ = some (.int .i64 y.op) ∧ w.cell? ⟨b, 1, none⟩ = some (.string y.name) ∧ w.cell? ⟨b, 2, none⟩ = some (.int .i64 y.num) ∧ w.cell? ⟨b, 3, none⟩ = some u) (hlen : xs.length < 1000000) (hlo : lo ≤ w.heap.size)
    (hK : ∀ v' w', OwnNds lo X w' v' (xs ++ [y]) → w.grownBy w' v.ownBlock → wpList Tryz.prog ops Q rest (a.put o.dst v') w') : wpList Tryz.prog ops Q (o :: rest) a w := by
  have hrow := hown.row
  obtain ⟨ps, hps, h1, h2⟩ := hown
  have hpl : ps.length = xs.length := by rw [← hps, List.length_map]
  obtain ⟨ua, uc, hue, _⟩ := hu.form
  refine wpList_append_elt ndCs 79 4 56 _ w hg s x 23 hop Tryz.underlying23 info_NodeT rfl (by decide) (by decide) (fun _ => rfl) lo v ps hs h1 (y, u) b hx ?_ ?_ (by omega) hlo ?_
  · intro j hj
    obtain ⟨c0, c1, c2, c3⟩ := hcell
    rcases (show j = 0 ∨ j = 1 ∨ j = 2 ∨ j = 3 by omega) with rfl | rfl | rfl | rfl
    · exact c0
    · exact c1
    · exact c2
    · exact c3
  · intro q hq
    simp only [ndCs, List.mem_cons, List.not_mem_nil, or_false] at hq
    rcases hq with rfl | rfl | rfl | rfl
    · rfl
    · rfl
    · rfl
    · rw [hue]; rfl
  · intro v' w1 hown' hgrow
    have keep : ∀ {p : Nd × Value}, OwnInts lo w p.2 p.1.args → OwnInts lo w1 p.2 p.1.args := fun hp => hp.grown hgrow (fun k hk e => by
      obtain ⟨cur, hc⟩ := hp.block hk
      obtain ⟨_, c, hc'⟩ := hrow k e.symm
      rw [hc] at hc'
      simp only [Option.some.injEq, Obj.cells.injEq] at hc'
      exact absurd hc'.2.1 (by decide))
    refine hK v' w1 ⟨ps ++ [(y, u)], by simp [hps], hown', fun p hp => ?_⟩ hgrow
    rcases List.mem_append.1 hp with h | h
    · exact ⟨keep (h2 p h).1, (h2 p h).2⟩
    · simp only [List.mem_cons, List.not_mem_nil, or_false] at h
      subst h
      exact ⟨keep (p := (y, u)) hu, hux⟩
/-- the blocks of X are others -/
theorem OwnNds.other {lo : Nat} {X Y : Nat → Prop} {w : World} {v : Value} {xs : List Nd} (h : OwnNds lo X w v xs) (hx : ∀ k, k < w.heap.size → ¬ X k → ¬ Y k) : OwnNds lo Y w v xs := by
  obtain ⟨ps, h0, h1, h2⟩ := h
  exact ⟨ps, h0, h1, fun p hp => ⟨(h2 p hp).1, fun k hk => hx k ((h2 p hp).1.lt k hk).2 ((h2 p hp).2 k hk)⟩⟩
/-- a row of integers grew that is none of the nodes' rows -/
theorem OwnNds.grownI {lo : Nat} {X : Nat → Prop} {w w' : World} {v : Value} {xs : List Nd} {row : Option Nat} (h : OwnNds lo X w v xs) (hg : w.grownBy w' row) (hr : ∀ k, row = some k → X k ∧ ∃ c, w.heap[k]? = some (.cells c 3 (0, 0))) : OwnNds lo X w' v xs := by
  obtain ⟨ps, h0, h1, h2⟩ := h
  refine ⟨ps, h0, h1.of fun b c _ hb => (hg.block b (Array.getElem?_eq_some_iff.1 hb).1 fun e => ?_).trans hb, fun p hp => ⟨(h2 p hp).1.grown hg fun k hk e => (h2 p hp).2 k hk (hr k e.symm).1, (h2 p hp).2⟩⟩
  obtain ⟨_, c', hc'⟩ := hr b e.symm
  rw [hb] at hc'
  simp only [Option.some.injEq, Obj.cells.injEq] at hc'
  exact absurd hc'.2.1 (by decide)
end Go.Proofs.YtaegmenjgjdimaaGreat
end

section
/- This text proves the program's folded: the constants at the head of a code. -/
namespace Go.Proofs.YtaegmenjgjdimaaGreat
open Go.RowKit

/-- what is asked of an instruction of a code that may be folded -/
def InsOk (x : Ins) : Prop := (x.op = 1 → S9 x.num) ∧ (x.op = 5 → x.num = 3) ∧ (x.op = 6 → 4 ≤ x.num ∧ x.num ≤ 7)
def pshB (l : List Ins) (k : Nat) : Bool := match l[k]? with | some x => x.op == 1 | none => false
set_option maxRecDepth 10000 in
set_option maxHeartbeats 1600000 in
theorem iPush_val {l : List Ins} {k : Nat} {r : Bool} (hr : pshB l k = r) (hk : k ≤ 10) (B lo hi : Nat) (a : Option Addr) (cap : Nat) (W w : World) (hB : Blk w B 41 [.slice a l.length cap]) (hv : InssAt lo hi W a cap l) (hh : hi ≤ W.heap.size) (hx : Ext W w) :
    Calls Tryz.prog 63 #[.int .i64 (k : Nat), .pointer (some ⟨B, 0, none⟩)] w fun e w' => e = .returned (.bool r) ∧ w = w' := by
  have l1 := hv.le
  have l2 := hv.cap
  have b0 := hB.cell 0 rfl
  by_cases hlt : k < l.length
  · obtain ⟨b, off, op, s, n, rfl, hb1, hb2, _, hget, i1, i2, c0, c1, c2⟩ := hv.at hlt hx hh
    have e1 : (op == 1) = r := by
      unfold pshB at hr
      rw [hget] at hr
      exact hr
    have HR := hid e1
    clear hr hget hv
    go_enter Tryz.func63, Tryz.ntmps63
    go_wp2
    go_ret
    exact ⟨rfl, rfl⟩
  · have e1 : r = false := by
      unfold pshB at hr
      rw [List.getElem?_eq_none (by omega)] at hr
      exact hr.symm
    subst e1
    clear hr hv
    go_enter Tryz.func63, Tryz.ntmps63
    go_wp2
    go_ret
    exact ⟨rfl, rfl⟩
theorem foldI_p0 {l : List Ins} (h : pshB l 0 = false) : foldI l = none := by
  unfold pshB at h
  cases l with
  | nil => rfl
  | cons x r =>
    cases r with
    | nil => rfl
    | cons y r =>
      simp only [List.getElem?_cons_zero, beq_eq_false_iff_ne, ne_eq] at h
      rw [foldI, if_neg (fun e => h e.1), if_neg (fun e => h e.1)]
theorem foldI_one {l : List Ins} (h : l.length ≤ 1) : foldI l = none := by
  cases l with
  | nil => rfl
  | cons x r =>
    cases r with
    | nil => rfl
    | cons y r => simp at h
theorem foldI_two {l : List Ins} {x y : Ins} (h0 : l[0]? = some x) (h1 : l[1]? = some y) : ∃ r, l = x :: y :: r := by
  cases l with
  | nil => cases h0
  | cons x' r =>
    cases r with
    | nil => cases h1
    | cons y' r =>
      simp only [List.getElem?_cons_zero, List.getElem?_cons_succ, Option.some.injEq] at h0 h1
      subst h0 h1
      exact ⟨r, rfl⟩
set_option maxRecDepth 20000 in
set_option maxHeartbeats 6400000 in
theorem iFolded_any (lo hi : Nat) (v : Value) (l : List Ins) (w : World) (hv : Inss lo hi w v l) (hh : hi ≤ w.heap.size) (hok : ∀ x ∈ l, InsOk x) :
    Calls Tryz.prog 39 #[v] w fun e w' => ∃ (x : Ins) (n : Nat), e = .returned (.tuple #[.agg #[.int .i64 x.op, .string x.name, .int .i64 x.num], .int .i64 (n : Nat)]) ∧ (foldI l = some (x, n) ∨ (foldI l = none ∧ n = 0)) ∧ Ext w w' := by
  obtain ⟨a, cap, rfl, hV⟩ := hv.open
  have l1 := hV.le
  have l2 := hV.cap
  have HV := hid hV
  have HBX := hid ((Blk.new w 41 [.slice a l.length cap]).ext (show Ext (w.alloc (.cells #[.slice a l.length cap] 41)) ((w.alloc (.cells #[.slice a l.length cap] 41)).alloc (.cells #[.int .i64 0, .string ⟨#[]⟩, .int .i64 0] 81)) from (by repeat (with_reducible (first | assumption | exact Ext.refl _ | apply Ext.alloc | apply Ext.drew | apply Ext.drewN)))))
  have HX := hid (show Ext w ((w.alloc (.cells #[.slice a l.length cap] 41)).alloc (.cells #[.int .i64 0, .string ⟨#[]⟩, .int .i64 0] 81)) from (by repeat (with_reducible (first | assumption | exact Ext.refl _ | apply Ext.alloc | apply Ext.drew | apply Ext.drewN))))
  clear hv hV
  cases hp0 : pshB l 0
  · have HP0 := hid hp0
    have HN := hid (foldI_p0 hp0)
    clear hp0
    go_enter Tryz.func39, Tryz.ntmps39
    go_wp2_with fail
    refine (iPush_val HP0.out (by decide) w.heap.size lo hi _ cap w _ HBX.out HV.out hh HX.out).mono ?_
    rintro e w3 ⟨rfl, rfl⟩
    go_wp2_with fail
    refine (iPush_val HP0.out (by decide) w.heap.size lo hi _ cap w _ HBX.out HV.out hh HX.out).mono ?_
    rintro e w3 ⟨rfl, rfl⟩
    go_wp2
    refine bodyPost_ret (v := .tuple #[.agg #[.int .i64 0, .string ⟨#[]⟩, .int .i64 0], .int .i64 0]) (by simp [results, Tryz.results39, go_sem, *]) rfl ?_
    exact ⟨⟨0, ⟨#[]⟩, 0⟩, 0, rfl, .inr ⟨HN.out, rfl⟩, (by repeat (first | with_reducible assumption | with_reducible exact Ext.refl _ | with_reducible apply Ext.alloc | with_reducible apply Ext.drew | with_reducible apply Ext.drewN | (with_reducible refine Ext.setCell ?_ (by simp; omega) _) | (with_reducible refine Ext.setCell ?_ (by simp) _)))⟩
  · have HP0 := hid hp0
    by_cases h1 : 1 < l.length
    · obtain ⟨b, off, op0, s0, n0, rfl, hb0, hb0', _, hg0, i00, i01, c00, c01, c02⟩ := HV.out.at (k := 0) (by omega) HX.out hh
      obtain ⟨b', off', op1, s1, n1, ea, hb1, hb1', _, hg1, i10, i11, c10, c11, c12⟩ := HV.out.at (k := 1) h1 HX.out hh
      cases ea
      have hx0 := hok _ (List.mem_of_getElem? hg0)
      have hx1 := hok _ (List.mem_of_getElem? hg1)
      obtain ⟨r, hr⟩ := foldI_two hg0 hg1
      have hop0 : op0 = 1 := by
        unfold pshB at hp0
        rw [hg0] at hp0
        exact eq_of_beq hp0
      subst hop0
      have hs0 := hx0.1 rfl
      simp only at hs0
      have bx0 := HBX.out.cell 0 rfl
      by_cases h5 : op1 = 5
      · subst h5
        have HN : Hid (foldI l = some (⟨1, ⟨#[]⟩, arithI n1 0 n0⟩, 2)) := hid (by rw [hr, foldI, if_pos ⟨rfl, rfl⟩])
        have hn1 := hx1.2.1 rfl
        simp only at hn1
        subst hn1
        clear hr hg0 hg1 hp0 hx0 hx1
        go_enter Tryz.func39, Tryz.ntmps39
        go_wp2_with fail
        refine (iPush_val HP0.out (by decide) w.heap.size lo hi _ cap w _ HBX.out HV.out hh HX.out).mono ?_
        rintro e w3 ⟨rfl, rfl⟩
        go_wp2_with fail
        refine wp_region_stages [([0, 1, 2, 3, 4, 5, 6, 7], 8), ([9], 10), ([], 11)] 11 (w.heap.size + 1) (by kernel_rfl) (by kernel_rfl) ?_
        refine wpStages_cons ?_
        simp only [List.filterMap_cons, List.filterMap_nil, List.getElem?_toArray, List.getElem?_cons_zero, List.getElem?_cons_succ]
        show wpQuiet _ _ _ _ [_, _, _, _, _, _, _, _] _
        repeat (go_big_quiet_step (fail))
        refine wpQuiet_nil ⟨_, rfl, fun K hK => ?_⟩
        go_wp2_with fail
        refine (iArith_any ⟨by decide, by decide⟩ ⟨by decide, by decide⟩ hs0 rfl _).mono ?_
        rintro e w3 ⟨rfl, rfl⟩
        go_wp2_with fail
        refine hK _ _ (.inr (fun k _ hk => rfl)) ?_
        clear hK K
        refine wpStages_cons ?_
        simp only [List.filterMap_cons, List.filterMap_nil, List.getElem?_toArray, List.getElem?_cons_zero, List.getElem?_cons_succ]
        show wpQuiet _ _ _ _ [_] _
        try simp only [Act.put, List.setIfInBounds_toArray, List.set_cons_succ, List.set_cons_zero]
        repeat (go_big_quiet_step (fail))
        refine wpQuiet_nil ⟨_, rfl, fun K hK => ?_⟩
        go_wp2_with fail
        refine hK _ _ (.inr (fun k _ hk => (Ext.block (w := (w.alloc (.cells #[.slice (some ⟨b, off, none⟩) l.length cap] 41))) (by repeat (with_reducible (first | assumption | exact Ext.refl _ | apply Ext.alloc | apply Ext.drew | apply Ext.drewN))) (by rw [World.size_alloc]; exact hk)).trans (Ext.block (w := (w.alloc (.cells #[.slice (some ⟨b, off, none⟩) l.length cap] 41))) (by repeat (with_reducible (first | assumption | exact Ext.refl _ | apply Ext.alloc | apply Ext.drew | apply Ext.drewN))) (by rw [World.size_alloc]; exact hk)).symm)) ?_
        clear hK K
        refine wpStages_cons ?_
        simp only [List.filterMap_nil]
        show wpQuiet _ _ _ _ [] _
        try simp only [Act.put, List.setIfInBounds_toArray, List.set_cons_succ, List.set_cons_zero]
        repeat (go_big_quiet_step (fail))
        refine wpQuiet_nil ⟨_, rfl, fun K hK => ?_⟩
        go_wp2_with fail
        refine hK _ _ (.inl trivial) ?_
        clear hK K
        refine wpStages_nil ?_
        go_wp2
        refine bodyPost_ret (v := .tuple #[.agg #[.int .i64 1, .string ⟨#[]⟩, .int .i64 (arithI 3 0 n0)], .int .i64 2]) (by simp [results, Tryz.results39, go_sem, *]) rfl ?_
        exact ⟨⟨1, ⟨#[]⟩, arithI 3 0 n0⟩, 2, rfl, .inl HN.out, (by repeat (first | with_reducible assumption | with_reducible exact Ext.refl _ | with_reducible apply Ext.alloc | with_reducible apply Ext.drew | with_reducible apply Ext.drewN | (with_reducible refine Ext.setCell ?_ (by simp; omega) _) | (with_reducible refine Ext.setCell ?_ (by simp) _)))⟩
      · have e5 : (op1 == 5) = false := beq_eq_false_iff_ne.2 h5
        by_cases hop1 : op1 = 1
        · subst hop1
          have HP1 : Hid (pshB l 1 = true) := hid (by unfold pshB; rw [hg1]; rfl)
          have hs1 := hx1.1 rfl
          simp only at hs1
          by_cases h2 : 2 < l.length
          · obtain ⟨b'', off'', op2, s2, n2, ea, hb2, hb2', _, hg2, i20, i21, c20, c21, c22⟩ := HV.out.at (k := 2) h2 HX.out hh
            cases ea
            have hx2 := hok _ (List.mem_of_getElem? hg2)
            obtain ⟨r', hr'⟩ : ∃ r', r = ⟨op2, s2, n2⟩ :: r' := by
              rw [hr] at hg2
              cases r with
              | nil => cases hg2
              | cons z r =>
                simp only [List.getElem?_cons_zero, List.getElem?_cons_succ, Option.some.injEq] at hg2
                subst hg2
                exact ⟨r, rfl⟩
            by_cases h6 : op2 = 6
            · subst h6
              have HN : Hid (foldI l = some (⟨1, ⟨#[]⟩, arithI n2 n0 n1⟩, 3)) := hid (by rw [hr, hr', foldI, if_neg (fun h => h5 h.2), if_pos ⟨rfl, rfl⟩, fold3, if_pos rfl])
              have hn2 := hx2.2.2 rfl
              simp only at hn2
              clear hr hr' hg0 hg1 hg2 hp0 hx0 hx1 hx2
              go_enter Tryz.func39, Tryz.ntmps39
              go_wp2_with fail
              refine (iPush_val HP0.out (by decide) w.heap.size lo hi _ cap w _ HBX.out HV.out hh HX.out).mono ?_
              rintro e w3 ⟨rfl, rfl⟩
              go_wp2_with fail
              refine (iPush_val HP0.out (by decide) w.heap.size lo hi _ cap w _ HBX.out HV.out hh HX.out).mono ?_
              rintro e w3 ⟨rfl, rfl⟩
              go_wp2_with fail
              refine (iPush_val HP1.out (by decide) w.heap.size lo hi _ cap w _ HBX.out HV.out hh HX.out).mono ?_
              rintro e w3 ⟨rfl, rfl⟩
              go_wp2_with fail
              refine wp_region_stages [([0, 1, 2, 3, 4, 5, 6, 7, 8, 9, 10, 11], 12), ([13], 14), ([], 15)] 15 (w.heap.size + 1) (by kernel_rfl) (by kernel_rfl) ?_
              refine wpStages_cons ?_
              simp only [List.filterMap_cons, List.filterMap_nil, List.getElem?_toArray, List.getElem?_cons_zero, List.getElem?_cons_succ]
              show wpQuiet _ _ _ _ [_, _, _, _, _, _, _, _, _, _, _, _] _
              repeat (go_big_quiet_step (fail))
              refine wpQuiet_nil ⟨_, rfl, fun K hK => ?_⟩
              go_wp2_with fail
              refine (iArith_any ⟨by omega, by omega⟩ hs0 hs1 rfl _).mono ?_
              rintro e w3 ⟨rfl, rfl⟩
              go_wp2_with fail
              refine hK _ _ (.inr (fun k _ hk => rfl)) ?_
              clear hK K
              refine wpStages_cons ?_
              simp only [List.filterMap_cons, List.filterMap_nil, List.getElem?_toArray, List.getElem?_cons_zero, List.getElem?_cons_succ]
              show wpQuiet _ _ _ _ [_] _
              try simp only [Act.put, List.setIfInBounds_toArray, List.set_cons_succ, List.set_cons_zero]
              repeat (go_big_quiet_step (fail))
              refine wpQuiet_nil ⟨_, rfl, fun K hK => ?_⟩
              go_wp2_with fail
              refine hK _ _ (.inr (fun k _ hk => (Ext.block (w := (w.alloc (.cells #[.slice (some ⟨b, off, none⟩) l.length cap] 41))) (by repeat (with_reducible (first | assumption | exact Ext.refl _ | apply Ext.alloc | apply Ext.drew | apply Ext.drewN))) (by rw [World.size_alloc]; exact hk)).trans (Ext.block (w := (w.alloc (.cells #[.slice (some ⟨b, off, none⟩) l.length cap] 41))) (by repeat (with_reducible (first | assumption | exact Ext.refl _ | apply Ext.alloc | apply Ext.drew | apply Ext.drewN))) (by rw [World.size_alloc]; exact hk)).symm)) ?_
              clear hK K
              refine wpStages_cons ?_
              simp only [List.filterMap_nil]
              show wpQuiet _ _ _ _ [] _
              try simp only [Act.put, List.setIfInBounds_toArray, List.set_cons_succ, List.set_cons_zero]
              repeat (go_big_quiet_step (fail))
              refine wpQuiet_nil ⟨_, rfl, fun K hK => ?_⟩
              go_wp2_with fail
              refine hK _ _ (.inl trivial) ?_
              clear hK K
              refine wpStages_nil ?_
              go_wp2
              refine bodyPost_ret (v := .tuple #[.agg #[.int .i64 1, .string ⟨#[]⟩, .int .i64 (arithI n2 n0 n1)], .int .i64 3]) (by simp [results, Tryz.results39, go_sem, *]) rfl ?_
              exact ⟨⟨1, ⟨#[]⟩, arithI n2 n0 n1⟩, 3, rfl, .inl HN.out, (by repeat (first | with_reducible assumption | with_reducible exact Ext.refl _ | with_reducible apply Ext.alloc | with_reducible apply Ext.drew | with_reducible apply Ext.drewN | (with_reducible refine Ext.setCell ?_ (by simp; omega) _) | (with_reducible refine Ext.setCell ?_ (by simp) _)))⟩
            · have e6 : (op2 == 6) = false := beq_eq_false_iff_ne.2 h6
              have HN : Hid (foldI l = none) := hid (by rw [hr, hr', foldI, if_neg (fun h => h5 h.2), if_pos ⟨rfl, rfl⟩, fold3, if_neg h6])
              clear hr hr' hg0 hg1 hg2 hp0 hx0 hx1 hx2 h6 h5
              go_enter Tryz.func39, Tryz.ntmps39
              go_wp2_with fail
              refine (iPush_val HP0.out (by decide) w.heap.size lo hi _ cap w _ HBX.out HV.out hh HX.out).mono ?_
              rintro e w3 ⟨rfl, rfl⟩
              go_wp2_with fail
              refine (iPush_val HP0.out (by decide) w.heap.size lo hi _ cap w _ HBX.out HV.out hh HX.out).mono ?_
              rintro e w3 ⟨rfl, rfl⟩
              go_wp2_with fail
              refine (iPush_val HP1.out (by decide) w.heap.size lo hi _ cap w _ HBX.out HV.out hh HX.out).mono ?_
              rintro e w3 ⟨rfl, rfl⟩
              go_wp2
              refine bodyPost_ret (v := .tuple #[.agg #[.int .i64 0, .string ⟨#[]⟩, .int .i64 0], .int .i64 0]) (by simp [results, Tryz.results39, go_sem, *]) rfl ?_
              exact ⟨⟨0, ⟨#[]⟩, 0⟩, 0, rfl, .inr ⟨HN.out, rfl⟩, (by repeat (first | with_reducible assumption | with_reducible exact Ext.refl _ | with_reducible apply Ext.alloc | with_reducible apply Ext.drew | with_reducible apply Ext.drewN | (with_reducible refine Ext.setCell ?_ (by simp; omega) _) | (with_reducible refine Ext.setCell ?_ (by simp) _)))⟩
          · have HN : Hid (foldI l = none) := hid (by
              rw [hr, foldI, if_neg (fun h => h5 h.2), if_pos ⟨rfl, rfl⟩]
              cases r with
              | nil => rfl
              | cons z r => rw [hr] at h2; simp at h2)
            clear hr hg0 hg1 hp0 hx0 hx1 h5
            go_enter Tryz.func39, Tryz.ntmps39
            go_wp2_with fail
            refine (iPush_val HP0.out (by decide) w.heap.size lo hi _ cap w _ HBX.out HV.out hh HX.out).mono ?_
            rintro e w3 ⟨rfl, rfl⟩
            go_wp2_with fail
            refine (iPush_val HP0.out (by decide) w.heap.size lo hi _ cap w _ HBX.out HV.out hh HX.out).mono ?_
            rintro e w3 ⟨rfl, rfl⟩
            go_wp2_with fail
            refine (iPush_val HP1.out (by decide) w.heap.size lo hi _ cap w _ HBX.out HV.out hh HX.out).mono ?_
            rintro e w3 ⟨rfl, rfl⟩
            go_wp2
            refine bodyPost_ret (v := .tuple #[.agg #[.int .i64 0, .string ⟨#[]⟩, .int .i64 0], .int .i64 0]) (by simp [results, Tryz.results39, go_sem, *]) rfl ?_
            exact ⟨⟨0, ⟨#[]⟩, 0⟩, 0, rfl, .inr ⟨HN.out, rfl⟩, (by repeat (first | with_reducible assumption | with_reducible exact Ext.refl _ | with_reducible apply Ext.alloc | with_reducible apply Ext.drew | with_reducible apply Ext.drewN | (with_reducible refine Ext.setCell ?_ (by simp; omega) _) | (with_reducible refine Ext.setCell ?_ (by simp) _)))⟩
        · have HP1 : Hid (pshB l 1 = false) := hid (by unfold pshB; rw [hg1]; exact beq_eq_false_iff_ne.2 hop1)
          have HN : Hid (foldI l = none) := hid (by rw [hr, foldI, if_neg (fun h => h5 h.2), if_neg (fun h => hop1 h.2)])
          clear hr hg0 hg1 hp0 hx0 hx1 h5 hop1
          go_enter Tryz.func39, Tryz.ntmps39
          go_wp2_with fail
          refine (iPush_val HP0.out (by decide) w.heap.size lo hi _ cap w _ HBX.out HV.out hh HX.out).mono ?_
          rintro e w3 ⟨rfl, rfl⟩
          go_wp2_with fail
          refine (iPush_val HP0.out (by decide) w.heap.size lo hi _ cap w _ HBX.out HV.out hh HX.out).mono ?_
          rintro e w3 ⟨rfl, rfl⟩
          go_wp2_with fail
          refine (iPush_val HP1.out (by decide) w.heap.size lo hi _ cap w _ HBX.out HV.out hh HX.out).mono ?_
          rintro e w3 ⟨rfl, rfl⟩
          go_wp2
          refine bodyPost_ret (v := .tuple #[.agg #[.int .i64 0, .string ⟨#[]⟩, .int .i64 0], .int .i64 0]) (by simp [results, Tryz.results39, go_sem, *]) rfl ?_
          exact ⟨⟨0, ⟨#[]⟩, 0⟩, 0, rfl, .inr ⟨HN.out, rfl⟩, (by repeat (first | with_reducible assumption | with_reducible exact Ext.refl _ | with_reducible apply Ext.alloc | with_reducible apply Ext.drew | with_reducible apply Ext.drewN | (with_reducible refine Ext.setCell ?_ (by simp; omega) _) | (with_reducible refine Ext.setCell ?_ (by simp) _)))⟩
    · have HN := hid (foldI_one (l := l) (by omega))
      have HP1 : Hid (pshB l 1 = false) := hid (by unfold pshB; rw [List.getElem?_eq_none (by omega)])
      clear hp0
      go_enter Tryz.func39, Tryz.ntmps39
      go_wp2_with fail
      refine (iPush_val HP0.out (by decide) w.heap.size lo hi _ cap w _ HBX.out HV.out hh HX.out).mono ?_
      rintro e w3 ⟨rfl, rfl⟩
      go_wp2_with fail
      refine (iPush_val HP0.out (by decide) w.heap.size lo hi _ cap w _ HBX.out HV.out hh HX.out).mono ?_
      rintro e w3 ⟨rfl, rfl⟩
      go_wp2_with fail
      refine (iPush_val HP1.out (by decide) w.heap.size lo hi _ cap w _ HBX.out HV.out hh HX.out).mono ?_
      rintro e w3 ⟨rfl, rfl⟩
      go_wp2
      refine bodyPost_ret (v := .tuple #[.agg #[.int .i64 0, .string ⟨#[]⟩, .int .i64 0], .int .i64 0]) (by simp [results, Tryz.results39, go_sem, *]) rfl ?_
      exact ⟨⟨0, ⟨#[]⟩, 0⟩, 0, rfl, .inr ⟨HN.out, rfl⟩, (by repeat (first | with_reducible assumption | with_reducible exact Ext.refl _ | with_reducible apply Ext.alloc | with_reducible apply Ext.drew | with_reducible apply Ext.drewN | (with_reducible refine Ext.setCell ?_ (by simp; omega) _) | (with_reducible refine Ext.setCell ?_ (by simp) _)))⟩
end Go.Proofs.YtaegmenjgjdimaaGreat
end

section
/- This text proves which nodes of a program are valid by themselves, on both sides. -/
namespace Go.Proofs.YtaegmenjgjdimaaGreat
open Go.RowKit

def namedB (op : Int) : Bool := op == 2 || op == 8
def lenB (op l : Int) : Bool := if op = 1 ∨ op = 2 then l == 0 else if op = 3 then l == 1 else if 4 ≤ op ∧ op ≤ 7 then l == 2 else if op = 8 then decide (l ≤ 3) else false
/-- a node is valid by itself -/
def nodeF (x : Nd) : Bool := (if namedB x.op then identB x.name else x.name.toList == []) && (if x.op = 1 then inB x.num 0 2559999 else x.num == 0) && lenB x.op x.args.length
theorem ident_empty {s : ByteArray} (h : identB s = true) : (s.toList == []) = false := by
  rw [beq_eq_false_iff_ne]
  intro e
  have h1 : s.size = 0 := by
    rw [ByteArray.toList_eq] at e
    have : s.data.toList.length = s.size := by simp
    rw [← this, e]
    rfl
  unfold identB at h
  rw [h1] at h
  simp at h
theorem iIsIdentifier_val {s : ByteArray} {b : Bool} (h : identB s = b) (w : World) (hs : s.size ≤ maxLen) : Calls Tryz.prog 116 #[.string s] w fun e w' => e = .returned (.bool b) ∧ Ext w w' := h ▸ iIsIdentifier_any s w hs
theorem sIsIdentifier_val {s : ByteArray} {b : Bool} (h : identB s = b) (w : World) (hs : s.size ≤ maxLen) : Calls Tryz.prog 109 #[.string s] w fun e w' => e = .returned (.bool b) ∧ w = w' := h ▸ sIsIdentifier_any s w hs
theorem op_cases (op : Int) (bn : Bool) : (op = 1 ∧ bn = true) ∨ (op = 1 ∧ bn = false) ∨ op = 2 ∨ op = 3 ∨ op = 4 ∨ op = 5 ∨ op = 6 ∨ op = 7 ∨ op = 8 ∨ (op ≠ 1 ∧ op ≠ 2 ∧ op ≠ 3 ∧ op ≠ 4 ∧ op ≠ 5 ∧ op ≠ 6 ∧ op ≠ 7 ∧ op ≠ 8) := by
  cases bn <;> simp <;> omega
set_option maxRecDepth 20000 in
set_option maxHeartbeats 12800000 in
theorem iValidNode_any (op : Int) (s : ByteArray) (n : Int) (a : Option Addr) (r : List Int) (cap : Nat) (w : World) (hs : s.size ≤ maxLen) :
    Calls Tryz.prog 115 #[.agg #[.int .i64 op, .string s, .int .i64 n, .slice a r.length cap]] w fun e w' => e = .returned (.bool (nodeF ⟨op, s, n, r⟩)) ∧ Ext w w' := by
  obtain ⟨bi, hbi⟩ : ∃ b, identB s = b := ⟨_, rfl⟩
  obtain ⟨be, hbe⟩ : ∃ b, (s.toList == []) = b := ⟨_, rfl⟩
  obtain ⟨bn, hbn⟩ : ∃ b, inB n 0 2559999 = b := ⟨_, rfl⟩
  have hie : bi = true → be = false := fun h => by rw [← hbe]; exact ident_empty (by rw [hbi, h])
  have bA := Bx.made w #[.int .i64 op, .string s, .int .i64 n, .slice a r.length cap] 79
  have HS := hid hs
  have HI := hid hbi
  clear hs
  rcases op_cases op bn with ⟨rfl, rfl⟩ | ⟨rfl, rfl⟩ | rfl | rfl | rfl | rfl | rfl | rfl | rfl | ⟨o1, o2, o3, o4, o5, o6, o7, o8⟩
  all_goals cases bi <;> cases be
  all_goals first | (exfalso; simp at hie; done) | skip
  all_goals
    try have q1 : (op == 1) = false := beq_eq_false_iff_ne.2 o1
    try have q2 : (op == 2) = false := beq_eq_false_iff_ne.2 o2
    try have q3 : (op == 3) = false := beq_eq_false_iff_ne.2 o3
    try have q4 : (op == 4) = false := beq_eq_false_iff_ne.2 o4
    try have q5 : (op == 5) = false := beq_eq_false_iff_ne.2 o5
    try have q6 : (op == 6) = false := beq_eq_false_iff_ne.2 o6
    try have q7 : (op == 7) = false := beq_eq_false_iff_ne.2 o7
    try have q8 : (op == 8) = false := beq_eq_false_iff_ne.2 o8
    clear hie hbi
    go_enter Tryz.func115, Tryz.ntmps115
    go_wp2_with fail
    refine (iIsIdentifier_val HI.out _ HS.out).mono ?_
    rintro e w1 ⟨rfl, x1⟩
    have bA1 := bA.ext x1
    have X1 : Ext w w1 := Ext.trans (by repeat (with_reducible (first | assumption | exact Ext.refl _ | apply Ext.alloc | apply Ext.drew | apply Ext.drewN))) x1
    clear bA x1
    have y := bA1.lt
    have y0 := bA1.cell 0
    simp only [List.getElem?_toArray, List.getElem?_cons_zero, List.getElem?_cons_succ] at y0
    have y1 := bA1.cell 1
    simp only [List.getElem?_toArray, List.getElem?_cons_zero, List.getElem?_cons_succ] at y1
    have y2 := bA1.cell 2
    simp only [List.getElem?_toArray, List.getElem?_cons_zero, List.getElem?_cons_succ] at y2
    have y3 := bA1.cell 3
    simp only [List.getElem?_toArray, List.getElem?_cons_zero, List.getElem?_cons_succ] at y3
    clear bA1
    go_wp2_with (go_at_call 25; refine (within_val hbn _).mono ?_; rintro e w2 ⟨rfl, rfl⟩)
    all_goals (go_ret; exact ⟨by first | (simp [nodeF, namedB, lenB, HI.out, hbn, *]; done) | (simp [nodeF, namedB, lenB, HI.out, hbn, *] <;> simp_all; done) | (simp [nodeF, namedB, lenB, HI.out, hbn, *] <;> omega), X1⟩)
end Go.Proofs.YtaegmenjgjdimaaGreat
end

section
/- This text proves the reference's check of one node. -/
namespace Go.Proofs.YtaegmenjgjdimaaGreat
open Go.RowKit

/-- the arguments of node i lie ahead of it -/
def argsB (r : List Int) (i : Int) : Bool := r.all fun a => inB a 0 (i - 1)
theorem in47 : inB 4 4 7 = true ∧ inB 5 4 7 = true ∧ inB 6 4 7 = true ∧ inB 7 4 7 = true := ⟨rfl, rfl, rfl, rfl⟩
set_option maxRecDepth 20000 in
set_option maxHeartbeats 12800000 in
theorem sNode_any (lo hi : Nat) (op : Int) (s : ByteArray) (n : Int) (u : Value) (r : List Int) (i : Int) (w : World) (hu : Ints lo hi w u r) (hh : hi ≤ w.heap.size) (hs : s.size ≤ maxLen) (hi1 : 0 ≤ i) (hi2 : i ≤ 10000000) :
    Calls Tryz.prog 108 #[.agg #[.int .i64 op, .string s, .int .i64 n, u], .int .i64 i] w fun e w' => e = .returned (.bool (argsB r i && nodeF ⟨op, s, n, r⟩)) ∧ Ext w w' := by
  obtain ⟨a, cap, rfl, HU⟩ := hu.open
  have l1 := HU.le
  have l2 := HU.cap
  obtain ⟨bi, hbi⟩ : ∃ b, identB s = b := ⟨_, rfl⟩
  obtain ⟨be, hbe⟩ : ∃ b, (s.toList == []) = b := ⟨_, rfl⟩
  obtain ⟨bn, hbn⟩ : ∃ b, inB n 0 2559999 = b := ⟨_, rfl⟩
  have hie : bi = true → be = false := fun h => by rw [← hbe]; exact ident_empty (by rw [hbi, h])
  have HS := hid hs
  have HI := hid hbi
  have HE := hid hbe
  have HB := hid hbn
  have x0 : Ext w (w.alloc (.cells #[.int .i64 op, .string s, .int .i64 n, .slice a r.length cap] 79)) := (by repeat (with_reducible (first | assumption | exact Ext.refl _ | apply Ext.alloc | apply Ext.drew | apply Ext.drewN)))
  have HIE := hid hie
  clear hs hbi hbe hbn hie hu
  go_enter Tryz.func108, Tryz.ntmps108
  go_wp2
  go_loopw [11] (fun q wr => ∃ k : Nat, k ≤ r.length ∧ q = .int .i64 k ∧ wr = (w.alloc (.cells #[.int .i64 op, .string s, .int .i64 n, .slice a r.length cap] 79)) ∧ ∀ j x, j < k → r[j]? = some x → inB x 0 (i - 1) = true) (fun q _ => r.length - (intOf q).toNat)
  case atStart => exact ⟨0, by omega, rfl, rfl, fun j x h => by omega⟩
  case round =>
    obtain ⟨k, hk, rfl, rfl, hno⟩ := hrel
    by_cases hlt : k < r.length
    · obtain ⟨b, off, rfl, hb1, hb2, hc⟩ := HU.at hlt
      have hget : r[k]? = some r[k] := by simp [hlt]
      obtain ⟨y, hy⟩ : ∃ y, r[k] = y := ⟨_, rfl⟩
      rw [hy] at hc hget
      clear hy
      rw [← x0.cells.1 b _ (by omega)] at hc
      obtain ⟨bb, hbb⟩ : ∃ c, inB y 0 (i - 1) = c := ⟨_, rfl⟩
      have hb3 : b < (w.alloc (.cells #[.int .i64 op, .string s, .int .i64 n, .slice (some ⟨b, off, none⟩) r.length cap] 79)).heap.size := by simp; omega
      cases bb
      · have HN : Hid (argsB r i = false) := hid (by
          unfold argsB
          rw [List.all_eq_false]
          exact ⟨y, List.mem_of_getElem? hget, by rw [hbb]; simp⟩)
        have HBB := hid hbb
        clear hno hget hbb
        go_wp2_with (go_at_call 82; refine (l01In_val HBB.out _).mono ?_; rintro e w1 ⟨rfl, rfl⟩)
        go_ret
        exact ⟨by rw [HN.out]; rfl, x0⟩
      · have HN : Hid (∀ j x, j < k + 1 → r[j]? = some x → inB x 0 (i - 1) = true) := hid (fun j z hj hz => by
          by_cases e : j = k
          · subst e
            rw [hget] at hz
            injection hz with hz
            subst hz
            exact hbb
          · exact hno j z (by omega) hz)
        have HBB := hid hbb
        clear hno hget hbb
        go_wp2_with (go_at_call 82; refine (l01In_val HBB.out _).mono ?_; rintro e w1 ⟨rfl, rfl⟩)
        go_roundw
        case rel => exact ⟨k + 1, by omega, by go_num, by trivial, HN.out⟩
        case measure => simp [intOf]; omega
    · obtain rfl : k = r.length := by omega
      have HN : Hid (argsB r i = true) := hid (by
        unfold argsB
        rw [List.all_eq_true]
        intro x hx
        obtain ⟨j, hj, rfl⟩ := List.getElem_of_mem hx
        exact hno j _ hj (by simp [hj]))
      clear hno
      have hie := HIE.out
      have hbe := HE.out
      have hbn := HB.out
      rcases op_cases op bn with ⟨rfl, rfl⟩ | ⟨rfl, rfl⟩ | rfl | rfl | rfl | rfl | rfl | rfl | rfl | ⟨o1, o2, o3, o4, o5, o6, o7, o8⟩
      all_goals cases bi <;> cases be
      all_goals first | (exfalso; simp at hie; done) | skip
      all_goals
        try have q1 : (op == 1) = false := beq_eq_false_iff_ne.2 o1
        try have q2 : (op == 2) = false := beq_eq_false_iff_ne.2 o2
        try have q3 : (op == 3) = false := beq_eq_false_iff_ne.2 o3
        try have q8 : (op == 8) = false := beq_eq_false_iff_ne.2 o8
        try have q47 : inB op 4 7 = false := by unfold inB; simp; omega
        clear hie
        go_wp2_with (first | (go_at_call 109; refine (sIsIdentifier_val HI.out _ HS.out).mono ?_; rintro e w1 ⟨rfl, rfl⟩) | (go_at_call 82; (first | with_reducible refine (l01In_val hbn _).mono ?_ | with_reducible refine (l01In_val q47 _).mono ?_ | with_reducible refine (l01In_val in47.1 _).mono ?_ | with_reducible refine (l01In_val in47.2.1 _).mono ?_ | with_reducible refine (l01In_val in47.2.2.1 _).mono ?_ | with_reducible refine (l01In_val in47.2.2.2 _).mono ?_); rintro e w1 ⟨rfl, rfl⟩))
        all_goals (go_ret; exact ⟨by rw [HN.out, Bool.true_and]; first | (simp [nodeF, namedB, lenB, HI.out, hbn, *]; done) | (simp [nodeF, namedB, lenB, HI.out, hbn, *] <;> simp_all; done) | (simp [nodeF, namedB, lenB, HI.out, hbn, *] <;> omega), x0⟩)
end Go.Proofs.YtaegmenjgjdimaaGreat
end

section
/- This text says in plain numbers which programs of the shading language are valid, and proves the program's look for a node that is not used once. -/
namespace Go.Proofs.YtaegmenjgjdimaaGreat
open Go.RowKit

/-- one more use of node i -/
def bumpU (u : List Int) (i : Nat) : List Int := u.set i (u.getD i 0 + 1)
def bumpL (u : List Int) (es : List Int) : List Int := es.foldl (fun u a => bumpU u a.toNat) u
def usesN (u : List Int) (xs : List Nd) : List Int := xs.foldl (fun u x => bumpL u x.args) u
def usesG (u : List Int) (gs : List Asg) : List Int := gs.foldl (fun u a => bumpU u a.root.toNat) u
def Prg.usesA (p : Prg) : List Int := usesN (List.replicate p.ns.length 0) p.ns
def Prg.uses (p : Prg) : List Int := usesG p.usesA p.gs
def Prg.ndB (p : Prg) (k : Nat) : Bool := match p.ns[k]? with | some x => argsB x.args k && nodeF x | none => true
def Prg.agB (p : Prg) (k : Nat) : Bool := match p.gs[k]? with | some x => identB x.name && inB x.root 0 ((p.ns.length : Int) - 1) | none => true
/-- a program is valid -/
def Prg.okB (p : Prg) : Bool := decide (p.ns.length ≤ 60) && (List.range p.ns.length).all p.ndB && (List.range p.gs.length).all p.agB && p.uses.all (· == 1)
theorem Prg.ndB_at {p : Prg} {k : Nat} {x : Nd} (h : p.ns[k]? = some x) : p.ndB k = (argsB x.args k && nodeF x) := by unfold Prg.ndB; rw [h]
theorem Prg.agB_at {p : Prg} {k : Nat} {x : Asg} (h : p.gs[k]? = some x) : p.agB k = (identB x.name && inB x.root 0 ((p.ns.length : Int) - 1)) := by unfold Prg.agB; rw [h]
/-- the entries of u are at most t -/
def UpTo (u : List Int) (t : Nat) : Prop := ∀ i, 0 ≤ u.getD i 0 ∧ u.getD i 0 ≤ t
theorem UpTo.zero (n : Nat) : UpTo (List.replicate n 0) 0 := fun i => by
  rw [List.getD_eq_getElem?_getD, List.getElem?_replicate]
  split <;> simp
theorem UpTo.bump {u : List Int} {t : Nat} (h : UpTo u t) (i : Nat) : UpTo (bumpU u i) (t + 1) := fun j => by
  have h1 := h i
  have h2 := h j
  unfold bumpU
  rw [List.getD_eq_getElem?_getD, List.getElem?_set]
  split
  · split
    · simp only [Option.getD_some]; omega
    · simp; omega
  · rw [← List.getD_eq_getElem?_getD]; omega
theorem UpTo.mono {u : List Int} {t t' : Nat} (h : UpTo u t) (ht : t ≤ t') : UpTo u t' := fun i => ⟨(h i).1, by have := (h i).2; omega⟩
theorem bumpU_len (u : List Int) (i : Nat) : (bumpU u i).length = u.length := by simp [bumpU]
theorem bumpL_len (es : List Int) : ∀ u : List Int, (bumpL u es).length = u.length := by
  unfold bumpL
  induction es with
  | nil => intro u; rfl
  | cons a r ih => intro u; rw [List.foldl_cons, ih, bumpU_len]
theorem usesN_len (xs : List Nd) : ∀ u : List Int, (usesN u xs).length = u.length := by
  unfold usesN
  induction xs with
  | nil => intro u; rfl
  | cons a r ih => intro u; rw [List.foldl_cons, ih, bumpL_len]
theorem usesG_len (xs : List Asg) : ∀ u : List Int, (usesG u xs).length = u.length := by
  unfold usesG
  induction xs with
  | nil => intro u; rfl
  | cons a r ih => intro u; rw [List.foldl_cons, ih, bumpU_len]
theorem Prg.usesA_len (p : Prg) : p.usesA.length = p.ns.length := by unfold Prg.usesA; rw [usesN_len, List.length_replicate]
theorem take_step {α : Type} {xs : List α} {k : Nat} {x : α} (h : xs[k]? = some x) : xs.take (k + 1) = xs.take k ++ [x] := by
  obtain ⟨hk, rfl⟩ := List.getElem?_eq_some_iff.1 h
  exact List.take_succ_eq_append_getElem hk
theorem bumpL_step {u es : List Int} {k : Nat} {y : Int} (h : es[k]? = some y) : bumpU (bumpL u (es.take k)) y.toNat = bumpL u (es.take (k + 1)) := by
  rw [take_step h]; simp [bumpL]
theorem usesN_step {u : List Int} {xs : List Nd} {k : Nat} {x : Nd} (h : xs[k]? = some x) : bumpL (usesN u (xs.take k)) x.args = usesN u (xs.take (k + 1)) := by
  rw [take_step h]; simp [usesN]
theorem usesG_step {u : List Int} {xs : List Asg} {k : Nat} {x : Asg} (h : xs[k]? = some x) : bumpU (usesG u (xs.take k)) x.root.toNat = usesG u (xs.take (k + 1)) := by
  rw [take_step h]; simp [usesG]
theorem bumpL_upTo {es : List Int} : ∀ {u : List Int} {t : Nat}, UpTo u t → UpTo (bumpL u es) (t + es.length) := by
  unfold bumpL
  induction es with
  | nil => intro u t h; exact h
  | cons a r ih => intro u t h; rw [List.foldl_cons]; exact (ih (h.bump _)).mono (by simp; omega)
theorem usesN_upTo {xs : List Nd} (ha : ∀ x ∈ xs, x.args.length ≤ 3) : ∀ {u : List Int} {t : Nat}, UpTo u t → UpTo (usesN u xs) (t + 3 * xs.length) := by
  unfold usesN
  induction xs with
  | nil => intro u t h; exact h
  | cons a r ih =>
    intro u t h
    rw [List.foldl_cons]
    have h1 := ha a (by simp)
    exact (ih (fun x hx => ha x (by simp [hx])) (bumpL_upTo h)).mono (by simp; omega)
theorem usesG_upTo {xs : List Asg} : ∀ {u : List Int} {t : Nat}, UpTo u t → UpTo (usesG u xs) (t + xs.length) := by
  unfold usesG
  induction xs with
  | nil => intro u t h; exact h
  | cons a r ih => intro u t h; rw [List.foldl_cons]; exact (ih (h.bump _)).mono (by simp; omega)
theorem nodeF_len {x : Nd} (h : nodeF x = true) : x.args.length ≤ 3 := by
  unfold nodeF at h
  simp only [Bool.and_eq_true] at h
  have := h.2
  unfold lenB at this
  split at this
  · simp at this; simp [this]
  split at this
  · simp at this; omega
  split at this
  · simp at this; omega
  split at this
  · simp at this; omega
  · cases this
/-- a whole owned row: where entry q lies, and what becomes of the row when it is written -/
theorem OwnInts.upd {lo b n cap : Nat} {w : World} {u : List Int} (h : OwnInts lo w (.slice (some ⟨b, 0, none⟩) n cap) u) (hl : n = u.length) {q : Nat} (hq : q < n) :
    lo ≤ b ∧ b < w.heap.size ∧ w.cell? ⟨b, q, none⟩ = some (.int .i64 (u.getD q 0)) ∧ w.frozen? ⟨b, q, none⟩ = false ∧ ∀ x, I64 x → OwnInts lo (w.setCell ⟨b, q, none⟩ (.int .i64 x)) (.slice (some ⟨b, 0, none⟩) n cap) (u.set q x) := by
  obtain ⟨g, y, e, h1, h2, h3, h4, h5, h6⟩ := h.at hl (k := q) (by omega)
  simp only [Option.some.injEq, Addr.mk.injEq, and_true] at e
  subst e
  refine ⟨h1, h2, ?_, h5, fun x hx => (h6 x hx).1⟩
  rw [h4, List.getD_eq_getElem?_getD, h3]
  rfl
theorem all_one_no {xs : List Int} {k : Nat} (h : k < xs.length) (hp : xs[k] ≠ 1) : xs.all (· == 1) = false := all_no h (by simpa using hp)
set_option maxHeartbeats 1600000 in
theorem indexOnce_any (lo hi : Nat) (u : Value) (xs : List Int) (w : World) (hu : Ints lo hi w u xs) :
    Calls Tryz.prog 139 #[u, .func (.func 118) #[] #[]] w fun e w' => (∃ i : Int, e = .returned (.int .i64 i) ∧ decide (i ≥ 0) = !(xs.all (· == 1))) ∧ w = w' := by
  obtain ⟨a, cap, rfl, HU⟩ := hu.open
  have l1 := HU.le
  have l2 := HU.cap
  clear hu
  go_enter Tryz.func139, Tryz.ntmps139
  go_wp2
  go_loopw [8] (fun i wr => ∃ k : Nat, k ≤ xs.length ∧ i = .int .i64 k ∧ wr = w ∧ (xs.take k).all (· == 1) = true) (fun i _ => xs.length - (intOf i).toNat)
  case atStart => exact ⟨0, by omega, rfl, rfl, rfl⟩
  case round =>
    obtain ⟨k, hk, rfl, rfl, hall⟩ := hrel
    have HA := hid hall
    clear hall
    by_cases hlt : k < xs.length
    · obtain ⟨b, off, rfl, hb1, hb2, hc⟩ := HU.at hlt
      by_cases h1 : xs[k] = 1
      · rw [h1] at hc
        have H1 := hid h1
        clear h1
        go_wp2
        go_roundw
        case rel => exact ⟨k + 1, by omega, by go_num, by trivial, all_step hlt HA.out (by simp [H1.out])⟩
        case measure => simp [intOf]; omega
      · obtain ⟨y, hy⟩ : ∃ y, xs[k] = y := ⟨_, rfl⟩
        have H1 := hid (all_one_no hlt h1)
        rw [hy] at hc h1
        have h2 : (y == 1) = false := beq_eq_false_iff_ne.2 h1
        clear hy
        go_wp2
        go_ret
        exact ⟨⟨_, rfl, by rw [H1.out]; simp⟩, rfl⟩
    · obtain rfl : k = xs.length := by omega
      go_wp2
      go_ret
      have hA := HA.out
      rw [List.take_length] at hA
      exact ⟨⟨_, rfl, by rw [hA]; rfl⟩, rfl⟩
theorem containsOnce_val {b : Bool} (lo hi : Nat) (u : Value) (xs : List Int) (w : World) (hb : xs.all (· == 1) = b) (hu : Ints lo hi w u xs) :
    Calls Tryz.prog 117 #[u, .func (.func 118) #[] #[]] w fun e w' => e = .returned (.bool (!b)) ∧ w = w' := by
  obtain ⟨a, cap, rfl, HU⟩ := hu.open
  have HI := hid hu
  clear hu
  go_enter Tryz.func117, Tryz.ntmps117
  go_wp2_with fail
  refine (indexOnce_any lo hi _ xs _ HI.out).mono ?_
  rintro e w1 ⟨⟨i, rfl, hi2⟩, rfl⟩
  go_wp2
  go_ret
  exact ⟨ret_bool (by first | rfl | (rw [← hb]; exact hi2)), rfl⟩
end Go.Proofs.YtaegmenjgjdimaaGreat
end

section
/- This text proves the program's IsValidProgram. -/
namespace Go.Proofs.YtaegmenjgjdimaaGreat
open Go.RowKit

theorem iValidNode_val {x : Nd} {b : Bool} (h : nodeF x = b) (a : Option Addr) (cap : Nat) (w : World) (hs : x.name.size ≤ maxLen) :
    Calls Tryz.prog 115 #[.agg #[.int .i64 x.op, .string x.name, .int .i64 x.num, .slice a x.args.length cap]] w fun e w' => e = .returned (.bool b) ∧ Ext w w' := h ▸ iValidNode_any x.op x.name x.num a x.args cap w hs
theorem args_at {r : List Int} {i : Int} {j : Nat} {y : Int} (h : argsB r i = true) (hj : r[j]? = some y) : 0 ≤ y ∧ y ≤ i - 1 := by
  unfold argsB at h
  rw [List.all_eq_true] at h
  exact inB_iff.1 (h y (List.mem_of_getElem? hj))
theorem Ints.openS {lo hi : Nat} {w : World} {u : Value} {xs : List Int} (h : Ints lo hi w u xs) : ∃ a c, u = .slice a xs.length c ∧ Ints lo hi w (.slice a xs.length c) xs ∧ IntsAt lo hi w a c xs := by
  obtain ⟨a, c, rfl, H⟩ := h.open
  exact ⟨a, c, rfl, h, H⟩
/-- node k, its cells in a world that w grew to, its arguments as w has them -/
theorem NdsAt.atW {lo hi : Nat} {w : World} {a : Option Addr} {cap : Nat} {xs : List Nd} (h : NdsAt lo hi w a cap xs) {k : Nat} (hk : k < xs.length) {wr : World} (hx : Ext w wr) (hh : hi ≤ w.heap.size) :
    ∃ b off op s n sa sc r, a = some ⟨b, off, none⟩ ∧ b < w.heap.size ∧ b < wr.heap.size ∧ xs[k]? = some ⟨op, s, n, r⟩ ∧ I64 op ∧ I64 n ∧ Ints lo hi w (.slice sa r.length sc) r ∧ IntsAt lo hi w sa sc r ∧ wr.cell? ⟨b, off + k * 4, none⟩ = some (.int .i64 op) ∧ wr.cell? ⟨b, off + k * 4 + 1, none⟩ = some (.string s) ∧ wr.cell? ⟨b, off + k * 4 + 2, none⟩ = some (.int .i64 n) ∧ wr.cell? ⟨b, off + k * 4 + 3, none⟩ = some (.slice sa r.length sc) := by
  obtain ⟨⟨i1, i2⟩, b, off, u, e, h1, h2, c0, c1, c2, c3, hu⟩ := h.cell k xs[k] (by simp [hk])
  have hz := hx.size
  obtain ⟨sa, sc, rfl, hI, HI⟩ := hu.openS
  refine ⟨b, off, xs[k].op, xs[k].name, xs[k].num, sa, sc, xs[k].args, e, by omega, by omega, by simp [hk], i1, i2, hI, HI, ?_, ?_, ?_, ?_⟩
  · exact (hx.cells.1 b _ (by omega)).trans c0
  · exact (hx.cells.1 b _ (by omega)).trans c1
  · exact (hx.cells.1 b _ (by omega)).trans c2
  · exact (hx.cells.1 b _ (by omega)).trans c3
/-- entry k of a slice of numbers, in a world that w grew to -/
theorem IntsAt.atE {lo hi : Nat} {w : World} {a : Option Addr} {cap : Nat} {xs : List Int} (h : IntsAt lo hi w a cap xs) {k : Nat} (hk : k < xs.length) {wr : World} (hx : Ext w wr) (hh : hi ≤ w.heap.size) :
    ∃ b off y, a = some ⟨b, off, none⟩ ∧ b < wr.heap.size ∧ xs[k]? = some y ∧ I64 y ∧ wr.cell? ⟨b, off + k, none⟩ = some (.int .i64 y) := by
  obtain ⟨b, off, e, h1, h2, c0⟩ := h.at hk
  have hz := hx.size
  exact ⟨b, off, xs[k], e, by omega, by simp [hk], h.i64 hk, (hx.cells.1 b _ (by omega)).trans c0⟩
/-- store one more use into an owned row of uses -/
theorem OwnInts.bump {lo b n cap t : Nat} {w : World} {u : List Int} (h : OwnInts lo w (.slice (some ⟨b, 0, none⟩) n cap) u) (hl : n = u.length) {q : Nat} (hq : q < n) (hu : UpTo u t) (ht : t ≤ 1000000000) :
    ∃ x : Int, 0 ≤ x ∧ x ≤ 1000000000 ∧ b < w.heap.size ∧ lo ≤ b ∧ w.cell? ⟨b, q, none⟩ = some (.int .i64 x) ∧ w.frozen? ⟨b, q, none⟩ = false ∧ OwnInts lo (w.setCell ⟨b, q, none⟩ (.int .i64 (x + 1))) (.slice (some ⟨b, 0, none⟩) n cap) (bumpU u q) := by
  obtain ⟨h1, h2, h3, h4, h5⟩ := h.upd hl hq
  have := hu q
  exact ⟨_, this.1, by omega, h2, h1, h3, h4, h5 _ ⟨by omega, by omega⟩⟩
set_option maxRecDepth 20000 in
set_option maxHeartbeats 12800000 in
theorem iIsValidProgram_any (lo hi : Nat) (v : Value) (p : Prg) (w : World) (hv : p.R lo hi w v) (hh : hi ≤ w.heap.size) (hb : p.bd) (hgl : p.gs.length ≤ 1048576) :
    Calls Tryz.prog 87 #[v] w fun e w' => e = .returned (.bool p.okB) ∧ Ext w w' := by
  obtain ⟨i0, hi0, hz0, hz1, hz2⟩ := info_parts info_int
  obtain ⟨a1, c1, a2, c2, rfl, HN, HG⟩ := hv.form
  have l1 := HN.le
  have l2 := HN.cap
  have l3 := HG.le
  have l4 := HG.cap
  have HBD := hid hb
  clear hv hb
  by_cases hlen : p.ns.length ≤ 60
  case neg =>
    have e : p.okB = false := by unfold Prg.okB; rw [decide_eq_false hlen]; simp
    rw [e]
    clear e
    go_enter Tryz.func87, Tryz.ntmps87
    go_wp2
    go_ret
    exact ⟨rfl, (by repeat (with_reducible (first | assumption | exact Ext.refl _ | apply Ext.alloc | apply Ext.drew | apply Ext.drewN)))⟩
  have bB := Bx.made w #[.slice a1 p.ns.length c1, .slice a2 p.gs.length c2] 26
  have x0 : Ext w (w.alloc (.cells #[.slice a1 p.ns.length c1, .slice a2 p.gs.length c2] 26)) := (by repeat (with_reducible (first | assumption | exact Ext.refl _ | apply Ext.alloc | apply Ext.drew | apply Ext.drewN)))
  go_enter Tryz.func87, Tryz.ntmps87
  go_wp2_with (at_make; refine wpList_make_full _ rfl _ _ 29 rfl (w.heap.size + 1) 3 i0 (.int .i64 0) 1 Tryz.underlying29 hi0 hz0 hz1 _ _ _ _ p.ns.length rfl rfl rfl rfl (by rw [hz2]; omega) (by unfold maxLen; omega) (by simp) ?_)
  intro w1 hown hgrow
  rw [made_ints] at hown
  have hs1 := World.size_alloc w (.cells #[.slice a1 p.ns.length c1, .slice a2 p.gs.length c2] 26)
  have x1 : Ext (w.alloc (.cells #[.slice a1 p.ns.length c1, .slice a2 p.gs.length c2] 26)) w1 := (Ext.refl _).grown hgrow (fun k h => by cases h)
  have HO := hid (show OwnInts (w.heap.size + 1) w1 (.slice (some ⟨w.heap.size + 1, 0, none⟩) p.ns.length p.ns.length) (List.replicate p.ns.length 0) from ⟨by simpa using hown, fun x hx => by rw [(List.mem_replicate.1 hx).2]; exact ⟨by decide, by decide⟩⟩)
  have X1 := hid (x0.trans x1)
  have bB1' := bB.ext x1
  have bB1 := hid bB1'
  have q := bB1'.lt
  have q0 := bB1'.cell 0
  simp only [List.getElem?_toArray, List.getElem?_cons_zero, List.getElem?_cons_succ] at q0
  have q1 := bB1'.cell 1
  simp only [List.getElem?_toArray, List.getElem?_cons_zero, List.getElem?_cons_succ] at q1
  clear bB1'
  clear hown hgrow hi0 hz0 hz1 hz2 x1 x0 bB hs1
  go_wp2
  go_loopw [21] (fun i wr => ∃ k : Nat, k ≤ p.ns.length ∧ i = .int .i64 k ∧ (∀ j, j < k → p.ndB j = true) ∧ Ext w wr ∧ Bx wr w.heap.size #[.slice a1 p.ns.length c1, .slice a2 p.gs.length c2] 26 ∧ OwnInts (w.heap.size + 1) wr (.slice (some ⟨w.heap.size + 1, 0, none⟩) p.ns.length p.ns.length) (usesN (List.replicate p.ns.length 0) (p.ns.take k)) ∧ UpTo (usesN (List.replicate p.ns.length 0) (p.ns.take k)) (3 * k)) (fun i _ => p.ns.length - (intOf i).toNat)
  case atStart => exact ⟨0, by omega, rfl, fun j h => by omega, X1.out, bB1.out, HO.out, UpTo.zero _⟩
  case round =>
    clear HO X1 bB1 q q0 q1
    obtain ⟨k, hk, rfl, hall, hx, hB, hO, hU⟩ := hrel
    have HA := hid hall
    have HX := hid hx
    have HB := hid hB
    have HO := hid hO
    have HU := hid hU
    by_cases hlt : k < p.ns.length
    · obtain ⟨b, off, op, s, num, sa, sc, ra, rfl, hb1, hbw, hget, io, inn, hI, HI, y0, y1, y2, y3⟩ := HN.atW hlt hx hh
      have HII := hid (hI.ext hh hx)
      have li1 := HI.le
      have li2 := HI.cap
      have HG1 := hid hget
      have hsz := hid (HBD.out.1 _ (List.mem_of_getElem? hget))
      have zx := hx.size
      have bQ := Bx.made wr #[.int .i64 op, .string s, .int .i64 num, .slice sa ra.length sc] 79
      have q0 : Ext wr (wr.alloc (.cells #[.int .i64 op, .string s, .int .i64 num, .slice sa ra.length sc] 79)) := (by repeat (with_reducible (first | assumption | exact Ext.refl _ | apply Ext.alloc | apply Ext.drew | apply Ext.drewN)))
      clear hget hall hx hB hO hU hI
      obtain ⟨bn, hbn⟩ : ∃ b, nodeF ⟨op, s, num, ra⟩ = b := ⟨_, rfl⟩
      obtain ⟨ba, hba⟩ : ∃ b, argsB ra k = b := ⟨_, rfl⟩
      have HBN := hid hbn
      have HBA := hid hba
      have HND : Hid (p.ndB k = (ba && bn)) := hid (by rw [Prg.ndB_at HG1.out, hba, hbn])
      clear hbn hba
      go_wp2_with fail
      refine (iValidNode_val HBN.out sa sc _ hsz.out).mono ?_
      rintro e w2 ⟨rfl, x2⟩
      have X2 := q0.trans x2
      have zx2 := X2.size
      have bQ2 := bQ.ext x2
      have HII2 := hid (HII.out.ext (by omega) X2)
      have q := bQ2.lt
      have q0 := bQ2.cell 0
      simp only [List.getElem?_toArray, List.getElem?_cons_zero, List.getElem?_cons_succ] at q0
      have q1 := bQ2.cell 1
      simp only [List.getElem?_toArray, List.getElem?_cons_zero, List.getElem?_cons_succ] at q1
      have q2 := bQ2.cell 2
      simp only [List.getElem?_toArray, List.getElem?_cons_zero, List.getElem?_cons_succ] at q2
      have q3 := bQ2.cell 3
      simp only [List.getElem?_toArray, List.getElem?_cons_zero, List.getElem?_cons_succ] at q3
      clear x2 q0 bQ
      have HBQ := hid bQ2
      clear bQ2
      cases bn
      · go_wp2
        go_ret
        refine ⟨ret_bool ?_, HX.out.trans X2⟩
        unfold Prg.okB
        rw [rng_no hlt (by rw [HND.out]; simp)]
        simp
      go_wp2_with fail
      refine (allWithin_val HBA.out _ _ _ _ HII2.out).mono ?_
      rintro e w3 ⟨rfl, rfl⟩
      cases ba
      · go_wp2
        go_ret
        refine ⟨ret_bool ?_, HX.out.trans X2⟩
        unfold Prg.okB
        rw [rng_no hlt (by rw [HND.out]; simp)]
        simp
      have HXX := hid (HX.out.trans X2)
      have HB2 := hid (HB.out.ext X2)
      have HO2 := hid (HO.out.ext X2)
      have lar : Hid (ra.length ≤ 3) := hid (nodeF_len HBN.out)
      clear HB HO X2
      go_wp2
      go_loopw [40] (fun i wq => ∃ j : Nat, j ≤ ra.length ∧ i = .int .i64 j ∧ Ext w wq ∧ Bx wq w.heap.size #[.slice (some ⟨b, off, none⟩) p.ns.length c1, .slice a2 p.gs.length c2] 26 ∧ OwnInts (w.heap.size + 1) wq (.slice (some ⟨w.heap.size + 1, 0, none⟩) p.ns.length p.ns.length) (bumpL (usesN (List.replicate p.ns.length 0) (p.ns.take k)) (ra.take j)) ∧ UpTo (bumpL (usesN (List.replicate p.ns.length 0) (p.ns.take k)) (ra.take j)) (3 * k + j)) (fun i _ => ra.length - (intOf i).toNat)
      case atStart => exact ⟨0, by omega, rfl, HXX.out, HB2.out, HO2.out, HU.out⟩
      case round =>
        clear HB2 HO2 HXX
        obtain ⟨j, hj, rfl, hx, hB, hO, hU⟩ := hrel
        have HX := hid hx
        have HB := hid hB
        have HO := hid hO
        have HU := hid hU
        by_cases hlj : j < ra.length
        · obtain ⟨b3, off3, y, rfl, hb3, hy, _, hc3⟩ := HI.atE hlj hx hh
          obtain ⟨hy1, hy2⟩ := args_at HBA.out hy
          obtain ⟨q, rfl⟩ : ∃ q : Nat, y = q := ⟨y.toNat, by omega⟩
          have hq : q < p.ns.length := by omega
          have hjl := lar.out
          obtain ⟨x, hx1, hx2, hx3, hx4, hx5, hx6, hx7⟩ := hO.bump (by rw [bumpL_len, usesN_len, List.length_replicate]) hq hU (by omega)
          have HY := hid hy
          have HS := hid hx7
          clear hx hB hO hU hy hx7 hjl
          go_wp2
          go_roundw
          case rel =>
            refine ⟨j + 1, by omega, by go_num, ?_, ?_, ?_, ?_⟩
            · have hx := HX.out
              exact (by repeat (first | with_reducible assumption | with_reducible exact Ext.refl _ | with_reducible apply Ext.alloc | with_reducible apply Ext.drew | with_reducible apply Ext.drewN | (with_reducible refine Ext.setCell ?_ (by simp; omega) _) | (with_reducible refine Ext.setCell ?_ (by simp) _)))
            · exact HB.out.other (by simp) _
            · rw [← bumpL_step HY.out, Int.toNat_natCast]
              exact HS.out
            · rw [← bumpL_step HY.out]
              exact (HU.out.bump _).mono (by omega)
          case measure => simp [intOf]; omega
        · obtain rfl : j = ra.length := by omega
          rw [List.take_length] at hO hU
          rw [usesN_step HG1.out] at hO hU
          have HO := hid hO
          have HU := hid hU
          have hjl := lar.out
          clear hB hO hU hx
          go_wp2
          go_roundw
          case rel =>
            refine ⟨k + 1, by omega, by go_num, fun i hi => ?_, HX.out, HB.out, HO.out, HU.out.mono (by omega)⟩
            by_cases e : i = k
            · subst e; exact HND.out
            · exact HA.out i (by omega)
          case measure => simp [intOf]; omega
    · obtain rfl : k = p.ns.length := by omega
      rw [List.take_length] at hO hU
      have HO := hid (show OwnInts (w.heap.size + 1) wr (.slice (some ⟨w.heap.size + 1, 0, none⟩) p.ns.length p.ns.length) p.usesA from hO)
      have HU := hid (show UpTo p.usesA (3 * p.ns.length) from hU)
      have q := hB.lt
      have q0 := hB.cell 0
      simp only [List.getElem?_toArray, List.getElem?_cons_zero, List.getElem?_cons_succ] at q0
      have q1 := hB.cell 1
      simp only [List.getElem?_toArray, List.getElem?_cons_zero, List.getElem?_cons_succ] at q1
      clear hO hU hall hx hB
      go_wp2
      go_loopw [55] (fun i wr => ∃ k : Nat, k ≤ p.gs.length ∧ i = .int .i64 k ∧ (∀ j, j < k → p.agB j = true) ∧ Ext w wr ∧ Bx wr w.heap.size #[.slice a1 p.ns.length c1, .slice a2 p.gs.length c2] 26 ∧ OwnInts (w.heap.size + 1) wr (.slice (some ⟨w.heap.size + 1, 0, none⟩) p.ns.length p.ns.length) (usesG p.usesA (p.gs.take k)) ∧ UpTo (usesG p.usesA (p.gs.take k)) (3 * p.ns.length + k)) (fun i _ => p.gs.length - (intOf i).toNat)
      case atStart => exact ⟨0, by omega, rfl, fun j h => by omega, HX.out, HB.out, HO.out, HU.out⟩
      case round =>
        clear HO HX HB HU q q0 q1
        obtain ⟨k, hk, rfl, hall, hx, hB, hO, hU⟩ := hrel
        have HA2 := hid hall
        have HX := hid hx
        have HB := hid hB
        have HO := hid hO
        have HU := hid hU
        by_cases hlt : k < p.gs.length
        · obtain ⟨b, off, s, rt, rfl, hb1, hbw, hdrop, hget, ir, y0, y1⟩ := HG.at hlt hx hh
          have HG1 := hid hget
          have hsz := hid (HBD.out.2 _ (List.mem_of_getElem? hget))
          have zx := hx.size
          have bQ := Bx.made wr #[.string s, .int .i64 rt] 74
          have q0 : Ext wr (wr.alloc (.cells #[.string s, .int .i64 rt] 74)) := (by repeat (with_reducible (first | assumption | exact Ext.refl _ | apply Ext.alloc | apply Ext.drew | apply Ext.drewN)))
          clear hdrop hget hall hx hB hO hU
          obtain ⟨bn, hbn⟩ : ∃ b, identB s = b := ⟨_, rfl⟩
          obtain ⟨ba, hba⟩ : ∃ b, inB rt 0 ((p.ns.length : Int) - 1) = b := ⟨_, rfl⟩
          have HBN := hid hbn
          have HBA := hid hba
          have HND : Hid (p.agB k = (bn && ba)) := hid (by rw [Prg.agB_at HG1.out, hba, hbn])
          clear hbn hba
          go_wp2_with fail
          refine (iIsIdentifier_val HBN.out _ hsz.out).mono ?_
          rintro e w2 ⟨rfl, x2⟩
          have X2 := q0.trans x2
          have zx2 := X2.size
          have bQ2 := bQ.ext x2
          have HBw := hid (HB.out.ext X2)
          have HBw' := HBw.out
          have q := bQ2.lt
          have q0 := bQ2.cell 0
          simp only [List.getElem?_toArray, List.getElem?_cons_zero, List.getElem?_cons_succ] at q0
          have q1 := bQ2.cell 1
          simp only [List.getElem?_toArray, List.getElem?_cons_zero, List.getElem?_cons_succ] at q1
          have d := HBw'.lt
          have d0 := HBw'.cell 0
          simp only [List.getElem?_toArray, List.getElem?_cons_zero, List.getElem?_cons_succ] at d0
          have d1 := HBw'.cell 1
          simp only [List.getElem?_toArray, List.getElem?_cons_zero, List.getElem?_cons_succ] at d1
          have HBQ := hid bQ2
          clear x2 q0 bQ bQ2 HBw'
          cases bn
          · go_wp2
            go_ret
            refine ⟨ret_bool ?_, HX.out.trans X2⟩
            unfold Prg.okB
            rw [rng_no (p := p.agB) hlt (by rw [HND.out]; simp)]
            simp
          go_wp2_with fail
          refine (within_val HBA.out _).mono ?_
          rintro e w3 ⟨rfl, rfl⟩
          cases ba
          · go_wp2
            go_ret
            refine ⟨ret_bool ?_, HX.out.trans X2⟩
            unfold Prg.okB
            rw [rng_no (p := p.agB) hlt (by rw [HND.out]; simp)]
            simp
          have hO := HO.out.ext X2
          have hba := inB_iff.1 HBA.out
          obtain ⟨r, rfl⟩ : ∃ r : Nat, rt = r := ⟨rt.toNat, by omega⟩
          have hr : r < p.ns.length := by omega
          obtain ⟨x, hx1, hx2, hx3, hx4, hx5, hx6, hx7⟩ := hO.bump (by rw [usesG_len, Prg.usesA_len]) hr HU.out (by omega)
          have HS := hid hx7
          have HXX := hid (HX.out.trans X2)
          clear hO HO HX hx7 hba
          go_wp2
          go_roundw
          case rel =>
            refine ⟨k + 1, by omega, by go_num, fun i hi => ?_, ?_, ?_, ?_, ?_⟩
            · by_cases e : i = k
              · subst e; exact HND.out
              · exact HA2.out i (by omega)
            · have hx := HXX.out
              exact (by repeat (first | with_reducible assumption | with_reducible exact Ext.refl _ | with_reducible apply Ext.alloc | with_reducible apply Ext.drew | with_reducible apply Ext.drewN | (with_reducible refine Ext.setCell ?_ (by simp; omega) _) | (with_reducible refine Ext.setCell ?_ (by simp) _)))
            · exact HBw.out.other (by simp) _
            · rw [← usesG_step HG1.out, Int.toNat_natCast]
              exact HS.out
            · rw [← usesG_step HG1.out]
              exact (HU.out.bump _).mono (by omega)
          case measure => simp [intOf]; omega
        · obtain rfl : k = p.gs.length := by omega
          rw [List.take_length] at hO
          have HO := hid (show OwnInts (w.heap.size + 1) wr (.slice (some ⟨w.heap.size + 1, 0, none⟩) p.ns.length p.ns.length) p.uses from hO)
          have hul : p.uses.length = p.ns.length := by unfold Prg.uses; rw [usesG_len, Prg.usesA_len]
          have hok : p.okB = p.uses.all (· == 1) := by
            unfold Prg.okB
            rw [rng_all HA.out, rng_all HA2.out, decide_eq_true hlen]
            simp
          have hI := HO.out.ints
          have HOK := hid hok
          clear hO hU hall hx hB HO hok
          have HI := hid hI
          clear hI
          go_wp2_with fail
          refine (containsOnce_val _ _ _ p.uses _ rfl HI.out).mono ?_
          rintro e w3 ⟨rfl, rfl⟩
          go_wp2
          go_ret
          exact ⟨ret_bool (by rw [HOK.out]), HX.out⟩
end Go.Proofs.YtaegmenjgjdimaaGreat
end

section
/- This text proves the reference's IsValidProgram. -/
namespace Go.Proofs.YtaegmenjgjdimaaGreat
open Go.RowKit

theorem sNode_val {op num i : Int} {s : ByteArray} {r : List Int} {b : Bool} (h : (argsB r i && nodeF ⟨op, s, num, r⟩) = b) (lo hi : Nat) (u : Value) (w : World) (hu : Ints lo hi w u r) (hh : hi ≤ w.heap.size) (hs : s.size ≤ maxLen) (hi1 : 0 ≤ i) (hi2 : i ≤ 10000000) :
    Calls Tryz.prog 108 #[.agg #[.int .i64 op, .string s, .int .i64 num, u], .int .i64 i] w fun e w' => e = .returned (.bool b) ∧ Ext w w' := h ▸ sNode_any lo hi op s num u r i w hu hh hs hi1 hi2
set_option maxRecDepth 20000 in
set_option maxHeartbeats 12800000 in
theorem sUses_any (lo hi : Nat) (v : Value) (p : Prg) (w : World) (hv : p.R lo hi w v) (hh : hi ≤ w.heap.size) (hnl : p.ns.length ≤ 1048576) (hgl : p.gs.length ≤ 1048576) (hnd : ∀ k, k < p.ns.length → p.ndB k = true) (hag : ∀ k, k < p.gs.length → p.agB k = true) :
    Calls Tryz.prog 110 #[v] w fun e w' => ∃ a c, e = .returned (.slice a p.ns.length c) ∧ OwnInts w.heap.size w' (.slice a p.ns.length c) p.uses ∧ Ext w w' := by
  obtain ⟨i0, hi0, hz0, hz1, hz2⟩ := info_parts info_int
  obtain ⟨a1, c1, a2, c2, rfl, HN, HG⟩ := hv.form
  have l1 := HN.le
  have l2 := HN.cap
  have l3 := HG.le
  have l4 := HG.cap
  have HND := hid hnd
  have HAG := hid hag
  clear hv hnd hag
  have bB := Bx.made w #[.slice a1 p.ns.length c1, .slice a2 p.gs.length c2] 26
  have x0 : Ext w (w.alloc (.cells #[.slice a1 p.ns.length c1, .slice a2 p.gs.length c2] 26)) := (by repeat (with_reducible (first | assumption | exact Ext.refl _ | apply Ext.alloc | apply Ext.drew | apply Ext.drewN)))
  go_enter Tryz.func110, Tryz.ntmps110
  go_wp2_with (at_make; refine wpList_make_full _ rfl _ _ 29 rfl (w.heap.size + 1) 3 i0 (.int .i64 0) 1 Tryz.underlying29 hi0 hz0 hz1 _ _ _ _ p.ns.length rfl rfl rfl rfl (by rw [hz2]; omega) (by unfold maxLen; omega) (by simp) ?_)
  intro w1 hown hgrow
  rw [made_ints] at hown
  have hs1 := World.size_alloc w (.cells #[.slice a1 p.ns.length c1, .slice a2 p.gs.length c2] 26)
  have x1 : Ext (w.alloc (.cells #[.slice a1 p.ns.length c1, .slice a2 p.gs.length c2] 26)) w1 := (Ext.refl _).grown hgrow (fun k h => by cases h)
  have HO := hid (show OwnInts (w.heap.size + 1) w1 (.slice (some ⟨w.heap.size + 1, 0, none⟩) p.ns.length p.ns.length) (List.replicate p.ns.length 0) from ⟨by simpa using hown, fun x hx => by rw [(List.mem_replicate.1 hx).2]; exact ⟨by decide, by decide⟩⟩)
  have X1 := hid (x0.trans x1)
  have bB1' := bB.ext x1
  have bB1 := hid bB1'
  have q := bB1'.lt
  have q0 := bB1'.cell 0
  simp only [List.getElem?_toArray, List.getElem?_cons_zero, List.getElem?_cons_succ] at q0
  have q1 := bB1'.cell 1
  simp only [List.getElem?_toArray, List.getElem?_cons_zero, List.getElem?_cons_succ] at q1
  clear bB1'
  clear hown hgrow hi0 hz0 hz1 hz2 x1 x0 bB hs1
  go_wp2
  go_loopw [17] (fun i wr => ∃ k : Nat, k ≤ p.ns.length ∧ i = .int .i64 k ∧ Ext w wr ∧ Bx wr w.heap.size #[.slice a1 p.ns.length c1, .slice a2 p.gs.length c2] 26 ∧ OwnInts (w.heap.size + 1) wr (.slice (some ⟨w.heap.size + 1, 0, none⟩) p.ns.length p.ns.length) (usesN (List.replicate p.ns.length 0) (p.ns.take k)) ∧ UpTo (usesN (List.replicate p.ns.length 0) (p.ns.take k)) (3 * k)) (fun i _ => p.ns.length - (intOf i).toNat)
  case atStart => exact ⟨0, by omega, rfl, X1.out, bB1.out, HO.out, UpTo.zero _⟩
  case round =>
    clear HO X1 bB1 q q0 q1
    obtain ⟨k, hk, rfl, hx, hB, hO, hU⟩ := hrel
    have HX := hid hx
    have HB := hid hB
    have HO := hid hO
    have HU := hid hU
    by_cases hlt : k < p.ns.length
    · obtain ⟨b, off, op, s, num, sa, sc, ra, rfl, hb1, hbw, hget, io, inn, hI, HI, y0, y1, y2, y3⟩ := HN.atW hlt hx hh
      have li1 := HI.le
      have li2 := HI.cap
      have HG1 := hid hget
      have hb9 := HND.out k hlt
      rw [Prg.ndB_at hget, Bool.and_eq_true] at hb9
      have HBA := hid hb9.1
      have lar : Hid (ra.length ≤ 3) := hid (nodeF_len hb9.2)
      have q0 : Ext wr (wr.alloc (.cells #[.int .i64 op, .string s, .int .i64 num, .slice sa ra.length sc] 79)) := (by repeat (with_reducible (first | assumption | exact Ext.refl _ | apply Ext.alloc | apply Ext.drew | apply Ext.drewN)))
      have HXX := hid (hx.trans q0)
      have HB2 := hid (hB.ext q0)
      have HO2 := hid (hO.ext q0)
      clear hget hx hB hO hU hI q0 hb9 HB HO HX
      go_wp2
      go_loopw [24] (fun i wq => ∃ j : Nat, j ≤ ra.length ∧ i = .int .i64 j ∧ Ext w wq ∧ Bx wq w.heap.size #[.slice (some ⟨b, off, none⟩) p.ns.length c1, .slice a2 p.gs.length c2] 26 ∧ OwnInts (w.heap.size + 1) wq (.slice (some ⟨w.heap.size + 1, 0, none⟩) p.ns.length p.ns.length) (bumpL (usesN (List.replicate p.ns.length 0) (p.ns.take k)) (ra.take j)) ∧ UpTo (bumpL (usesN (List.replicate p.ns.length 0) (p.ns.take k)) (ra.take j)) (3 * k + j)) (fun i _ => ra.length - (intOf i).toNat)
      case atStart => exact ⟨0, by omega, rfl, HXX.out, HB2.out, HO2.out, HU.out⟩
      case round =>
        clear HB2 HO2 HXX
        obtain ⟨j, hj, rfl, hx, hB, hO, hU⟩ := hrel
        have HX := hid hx
        have HB := hid hB
        have HO := hid hO
        have HU := hid hU
        by_cases hlj : j < ra.length
        · obtain ⟨b3, off3, y, rfl, hb3, hy, _, hc3⟩ := HI.atE hlj hx hh
          obtain ⟨hy1, hy2⟩ := args_at HBA.out hy
          obtain ⟨q, rfl⟩ : ∃ q : Nat, y = q := ⟨y.toNat, by omega⟩
          have hq : q < p.ns.length := by omega
          have hjl := lar.out
          obtain ⟨x, hx1, hx2, hx3, hx4, hx5, hx6, hx7⟩ := hO.bump (by rw [bumpL_len, usesN_len, List.length_replicate]) hq hU (by omega)
          have HY := hid hy
          have HS := hid hx7
          clear hx hB hO hU hy hx7 hjl
          go_wp2
          go_roundw
          case rel =>
            refine ⟨j + 1, by omega, by go_num, ?_, ?_, ?_, ?_⟩
            · have hx := HX.out
              exact (by repeat (first | with_reducible assumption | with_reducible exact Ext.refl _ | with_reducible apply Ext.alloc | with_reducible apply Ext.drew | with_reducible apply Ext.drewN | (with_reducible refine Ext.setCell ?_ (by simp; omega) _) | (with_reducible refine Ext.setCell ?_ (by simp) _)))
            · exact HB.out.other (by simp) _
            · rw [← bumpL_step HY.out, Int.toNat_natCast]
              exact HS.out
            · rw [← bumpL_step HY.out]
              exact (HU.out.bump _).mono (by omega)
          case measure => simp [intOf]; omega
        · obtain rfl : j = ra.length := by omega
          rw [List.take_length] at hO hU
          rw [usesN_step HG1.out] at hO hU
          have HO := hid hO
          have HU := hid hU
          have hjl := lar.out
          clear hB hO hU hx
          go_wp2
          go_roundw
          case rel => exact ⟨k + 1, by omega, by go_num, HX.out, HB.out, HO.out, HU.out.mono (by omega)⟩
          case measure => simp [intOf]; omega
    · obtain rfl : k = p.ns.length := by omega
      rw [List.take_length] at hO hU
      have HO := hid (show OwnInts (w.heap.size + 1) wr (.slice (some ⟨w.heap.size + 1, 0, none⟩) p.ns.length p.ns.length) p.usesA from hO)
      have HU := hid (show UpTo p.usesA (3 * p.ns.length) from hU)
      have q := hB.lt
      have q0 := hB.cell 0
      simp only [List.getElem?_toArray, List.getElem?_cons_zero, List.getElem?_cons_succ] at q0
      have q1 := hB.cell 1
      simp only [List.getElem?_toArray, List.getElem?_cons_zero, List.getElem?_cons_succ] at q1
      clear hO hU hx hB
      go_wp2
      go_loopw [39] (fun i wr => ∃ k : Nat, k ≤ p.gs.length ∧ i = .int .i64 k ∧ Ext w wr ∧ OwnInts (w.heap.size + 1) wr (.slice (some ⟨w.heap.size + 1, 0, none⟩) p.ns.length p.ns.length) (usesG p.usesA (p.gs.take k)) ∧ UpTo (usesG p.usesA (p.gs.take k)) (3 * p.ns.length + k)) (fun i _ => p.gs.length - (intOf i).toNat)
      case atStart => exact ⟨0, by omega, rfl, HX.out, HO.out, HU.out⟩
      case round =>
        clear HO HX HB HU q q0 q1
        obtain ⟨k, hk, rfl, hx, hO, hU⟩ := hrel
        have HX := hid hx
        have HO := hid hO
        have HU := hid hU
        by_cases hlt : k < p.gs.length
        · obtain ⟨b, off, s, rt, rfl, hb1, hbw, hdrop, hget, ir, y0, y1⟩ := HG.at hlt hx hh
          have HG1 := hid hget
          have hb9 := HAG.out k hlt
          rw [Prg.agB_at hget, Bool.and_eq_true] at hb9
          have hba : 0 ≤ rt ∧ rt ≤ (p.ns.length : Int) - 1 := inB_iff.1 hb9.2
          have q0 : Ext wr (wr.alloc (.cells #[.string s, .int .i64 rt] 74)) := (by repeat (with_reducible (first | assumption | exact Ext.refl _ | apply Ext.alloc | apply Ext.drew | apply Ext.drewN)))
          have hO2 := hO.ext q0
          have HXX := hid (hx.trans q0)
          have zx := q0.size
          obtain ⟨r, rfl⟩ : ∃ r : Nat, rt = r := ⟨rt.toNat, by omega⟩
          have hr : r < p.ns.length := by omega
          obtain ⟨x, hx1, hx2, hx3, hx4, hx5, hx6, hx7⟩ := hO2.bump (by rw [usesG_len, Prg.usesA_len]) hr HU.out (by omega)
          have HS := hid hx7
          have hx3' : w.heap.size < wr.heap.size := by have := hO.lt _ rfl; omega
          clear hO hO2 HO HX hx7 hba hb9 hdrop hget hx hU q0
          go_wp2
          go_roundw
          case rel =>
            refine ⟨k + 1, by omega, by go_num, ?_, ?_, ?_⟩
            · have hx := HXX.out
              exact (by repeat (first | with_reducible assumption | with_reducible exact Ext.refl _ | with_reducible apply Ext.alloc | with_reducible apply Ext.drew | with_reducible apply Ext.drewN | (with_reducible refine Ext.setCell ?_ (by simp; omega) _) | (with_reducible refine Ext.setCell ?_ (by simp) _)))
            · rw [← usesG_step HG1.out, Int.toNat_natCast]
              exact HS.out
            · rw [← usesG_step HG1.out]
              exact (HU.out.bump _).mono (by omega)
          case measure => simp [intOf]; omega
        · obtain rfl : k = p.gs.length := by omega
          rw [List.take_length] at hO
          have HO := hid (show OwnInts (w.heap.size + 1) wr (.slice (some ⟨w.heap.size + 1, 0, none⟩) p.ns.length p.ns.length) p.uses from hO)
          clear hO hU hx
          go_wp2
          go_ret
          exact ⟨_, _, rfl, HO.out.low (by omega), HX.out⟩
set_option maxRecDepth 20000 in
set_option maxHeartbeats 12800000 in
theorem sIsValidProgram_any (lo hi : Nat) (v : Value) (p : Prg) (w : World) (hv : p.R lo hi w v) (hh : hi ≤ w.heap.size) (hb : p.bd) (hnl : p.ns.length ≤ 1048576) (hgl : p.gs.length ≤ 1048576) :
    Calls Tryz.prog 76 #[v] w fun e w' => e = .returned (.bool p.okB) ∧ Ext w w' := by
  have HV := hid hv
  obtain ⟨a1, c1, a2, c2, rfl, HN, HG⟩ := hv.form
  have l1 := HN.le
  have l2 := HN.cap
  have l3 := HG.le
  have l4 := HG.cap
  have HBD := hid hb
  clear hv hb
  have bB := hid (Bx.made w #[.slice a1 p.ns.length c1, .slice a2 p.gs.length c2] 26)
  have X1 := hid (show Ext w (w.alloc (.cells #[.slice a1 p.ns.length c1, .slice a2 p.gs.length c2] 26)) from (by repeat (with_reducible (first | assumption | exact Ext.refl _ | apply Ext.alloc | apply Ext.drew | apply Ext.drewN))))
  go_enter Tryz.func76, Tryz.ntmps76
  go_wp2
  go_loopw [12] (fun i wr => ∃ k : Nat, k ≤ p.ns.length ∧ i = .int .i64 k ∧ (∀ j, j < k → p.ndB j = true) ∧ Ext w wr ∧ Bx wr w.heap.size #[.slice a1 p.ns.length c1, .slice a2 p.gs.length c2] 26) (fun i _ => p.ns.length - (intOf i).toNat)
  case atStart => exact ⟨0, by omega, rfl, fun j h => by omega, X1.out, bB.out⟩
  case round =>
    clear X1 bB
    obtain ⟨k, hk, rfl, hall, hx, hB⟩ := hrel
    have HA := hid hall
    have HX := hid hx
    have HB := hid hB
    by_cases hlt : k < p.ns.length
    · obtain ⟨b, off, op, s, num, sa, sc, ra, rfl, hb1, hbw, hget, io, inn, hI, HI, y0, y1, y2, y3⟩ := HN.atW hlt hx hh
      have HII := hid (hI.ext hh hx)
      have li1 := HI.le
      have li2 := HI.cap
      have HG1 := hid hget
      have hsz := hid (HBD.out.1 _ (List.mem_of_getElem? hget))
      have zx := hx.size
      have q0 : Ext wr (wr.alloc (.cells #[.int .i64 op, .string s, .int .i64 num, .slice sa ra.length sc] 79)) := (by repeat (with_reducible (first | assumption | exact Ext.refl _ | apply Ext.alloc | apply Ext.drew | apply Ext.drewN)))
      clear hget hall hx hB hI HI
      obtain ⟨bn, hbn⟩ : ∃ b, (argsB ra k && nodeF ⟨op, s, num, ra⟩) = b := ⟨_, rfl⟩
      have HBN := hid hbn
      have HND : Hid (p.ndB k = bn) := hid (by rw [Prg.ndB_at HG1.out, hbn])
      clear hbn
      go_wp2_with fail
      refine (sNode_val HBN.out lo hi _ _ (HII.out.ext (by omega) q0) (by simp; omega) hsz.out (by omega) (by omega)).mono ?_
      rintro e w2 ⟨rfl, x2⟩
      have X2 := q0.trans x2
      clear q0 x2
      cases bn
      · go_wp2
        go_ret
        refine ⟨ret_bool ?_, HX.out.trans X2⟩
        unfold Prg.okB
        rw [rng_no hlt HND.out]
        simp
      · have HB2 := hid (HB.out.ext X2)
        go_wp2
        go_roundw
        case rel =>
          refine ⟨k + 1, by omega, by go_num, fun i hi => ?_, HX.out.trans X2, HB2.out⟩
          by_cases e : i = k
          · subst e; exact HND.out
          · exact HA.out i (by omega)
        case measure => simp [intOf]; omega
    · obtain rfl : k = p.ns.length := by omega
      have q := hB.lt
      have q0 := hB.cell 0
      simp only [List.getElem?_toArray, List.getElem?_cons_zero, List.getElem?_cons_succ] at q0
      have q1 := hB.cell 1
      simp only [List.getElem?_toArray, List.getElem?_cons_zero, List.getElem?_cons_succ] at q1
      clear hall hx hB
      go_wp2
      go_loopw [25] (fun i wr => ∃ k : Nat, k ≤ p.gs.length ∧ i = .int .i64 k ∧ (∀ j, j < k → p.agB j = true) ∧ Ext w wr ∧ Bx wr w.heap.size #[.slice a1 p.ns.length c1, .slice a2 p.gs.length c2] 26) (fun i _ => p.gs.length - (intOf i).toNat)
      case atStart => exact ⟨0, by omega, rfl, fun j h => by omega, HX.out, HB.out⟩
      case round =>
        clear HX HB q q0 q1
        obtain ⟨k, hk, rfl, hall, hx, hB⟩ := hrel
        have HA2 := hid hall
        have HX := hid hx
        have HB := hid hB
        by_cases hlt : k < p.gs.length
        · obtain ⟨b, off, s, rt, rfl, hb1, hbw, hdrop, hget, ir, y0, y1⟩ := HG.at hlt hx hh
          have HG1 := hid hget
          have hsz := hid (HBD.out.2 _ (List.mem_of_getElem? hget))
          have zx := hx.size
          have bQ := Bx.made wr #[.string s, .int .i64 rt] 74
          have q0 : Ext wr (wr.alloc (.cells #[.string s, .int .i64 rt] 74)) := (by repeat (with_reducible (first | assumption | exact Ext.refl _ | apply Ext.alloc | apply Ext.drew | apply Ext.drewN)))
          have HBw := hid (hB.ext q0)
          have hBw := HBw.out
          have d := hBw.lt
          have d0 := hBw.cell 0
          simp only [List.getElem?_toArray, List.getElem?_cons_zero, List.getElem?_cons_succ] at d0
          have d1 := hBw.cell 1
          simp only [List.getElem?_toArray, List.getElem?_cons_zero, List.getElem?_cons_succ] at d1
          clear hdrop hget hall hx hB hBw
          obtain ⟨bn, hbn⟩ : ∃ b, identB s = b := ⟨_, rfl⟩
          obtain ⟨ba, hba⟩ : ∃ b, inB rt 0 ((p.ns.length : Int) - 1) = b := ⟨_, rfl⟩
          have HBN := hid hbn
          have HBA := hid hba
          have HND : Hid (p.agB k = (bn && ba)) := hid (by rw [Prg.agB_at HG1.out, hba, hbn])
          clear hbn hba
          go_wp2_with fail
          refine (sIsIdentifier_val HBN.out _ hsz.out).mono ?_
          rintro e w2 ⟨rfl, rfl⟩
          cases bn
          · go_wp2
            go_ret
            refine ⟨ret_bool ?_, HX.out.trans q0⟩
            unfold Prg.okB
            rw [rng_no (p := p.agB) hlt (by rw [HND.out]; simp)]
            simp
          go_wp2_with fail
          refine (l01In_val HBA.out _).mono ?_
          rintro e w3 ⟨rfl, rfl⟩
          cases ba
          · go_wp2
            go_ret
            refine ⟨ret_bool ?_, HX.out.trans q0⟩
            unfold Prg.okB
            rw [rng_no (p := p.agB) hlt (by rw [HND.out]; simp)]
            simp
          go_wp2
          go_roundw
          case rel =>
            refine ⟨k + 1, by omega, by go_num, fun i hi => ?_, HX.out.trans q0, HBw.out⟩
            by_cases e : i = k
            · subst e; exact HND.out
            · exact HA2.out i (by omega)
          case measure => simp [intOf]; omega
        · obtain rfl : k = p.gs.length := by omega
          have zx := hx.size
          have HUL : Hid (p.uses.length = p.ns.length) := hid (by unfold Prg.uses; rw [usesG_len, Prg.usesA_len])
          have HOK : Hid (p.okB = (p.uses.all (· == 1) && decide (p.ns.length ≤ 60))) := hid (by
            unfold Prg.okB
            rw [rng_all HA.out, rng_all HA2.out]
            simp [Bool.and_comm])
          have q := hB.lt
          have q0 := hB.cell 0
          simp only [List.getElem?_toArray, List.getElem?_cons_zero, List.getElem?_cons_succ] at q0
          have q1 := hB.cell 1
          simp only [List.getElem?_toArray, List.getElem?_cons_zero, List.getElem?_cons_succ] at q1
          have hv := HV.out.ext hh hx
          have HV2 := hid hv
          clear hall hx hB hv
          go_wp2_with fail
          refine (sUses_any lo hi _ p _ HV2.out (by omega) hnl hgl HA.out HA2.out).mono ?_
          rintro e w3 ⟨ua, uc, rfl, hO, x3⟩
          have hI := hO.ints
          have e0 := HUL.out
          obtain ⟨ua', uc', e1, HU⟩ := hI.open
          rw [e0] at e1
          simp only [Value.slice.injEq, true_and] at e1
          obtain ⟨rfl, rfl⟩ := e1
          have lu1 := HU.le
          have lu2 := HU.cap
          have HX3 := hid (HX.out.trans x3)
          have HB3 := hid (HB.out.ext x3)
          clear hO hI x3
          go_wp2
          go_loopw [47] (fun i wq => ∃ k : Nat, k ≤ p.ns.length ∧ i = .int .i64 k ∧ wq = w3 ∧ (p.uses.take k).all (· == 1) = true) (fun i _ => p.ns.length - (intOf i).toNat)
          case atStart => exact ⟨0, by omega, rfl, rfl, rfl⟩
          case round =>
            obtain ⟨k, hk, rfl, rfl, hall⟩ := hrel
            have HA3 := hid hall
            clear hall
            by_cases hlt : k < p.uses.length
            · obtain ⟨b, off, rfl, hb1, hb2, hc⟩ := HU.at hlt
              by_cases h1 : p.uses[k] = 1
              · rw [h1] at hc
                have H1 := hid h1
                clear h1
                go_wp2
                go_roundw
                case rel => exact ⟨k + 1, by omega, by go_num, by trivial, all_step hlt HA3.out (by simp [H1.out])⟩
                case measure => simp [intOf]; omega
              · obtain ⟨y, hy⟩ : ∃ y, p.uses[k] = y := ⟨_, rfl⟩
                have H1 := hid (all_one_no hlt h1)
                rw [hy] at hc h1
                have h2 : (y == 1) = false := beq_eq_false_iff_ne.2 h1
                clear hy
                go_wp2
                go_ret
                exact ⟨ret_bool (by rw [HOK.out, H1.out]; rfl), HX3.out⟩
            · have hA := HA3.out
              rw [List.take_of_length_le (by omega)] at hA
              have HA4 := hid hA
              have hB := HB3.out
              have q := hB.lt
              have q0 := hB.cell 0
              simp only [List.getElem?_toArray, List.getElem?_cons_zero, List.getElem?_cons_succ] at q0
              have q1 := hB.cell 1
              simp only [List.getElem?_toArray, List.getElem?_cons_zero, List.getElem?_cons_succ] at q1
              clear hA hB
              go_wp2
              go_ret
              exact ⟨ret_bool (by rw [HOK.out, HA4.out]; simp; omega), HX3.out⟩
end Go.Proofs.YtaegmenjgjdimaaGreat
end

section
/- This text proves, in plain numbers, that every node of a valid program lies in the expression of exactly one assignment; it walks no function. -/
namespace Go.Proofs.YtaegmenjgjdimaaGreat
open Go.RowKit

/-- node j lies in the expression of node r -/
inductive Sub (p : Prg) (r : Nat) : Nat → Prop
  | refl : Sub p r r
  | arg {i j : Nat} {x : Nd} : Sub p r i → p.ns[i]? = some x → (j : Int) ∈ x.args → Sub p r j
/-- node j lies in the expression of assignment k -/
def Own (p : Prg) (j k : Nat) : Prop := ∃ (s : ByteArray) (r : Nat), p.gs[k]? = some ⟨s, r⟩ ∧ Sub p r j
theorem Sub.trans {p : Prg} {r i j : Nat} (h : Sub p r i) (k : Sub p i j) : Sub p r j := by
  induction k with
  | refl => exact h
  | arg _ h2 h3 ih => exact ih.arg h2 h3
/-- how often j occurs in a list of arguments -/
def cntL (j : Nat) (es : List Int) : Nat := es.countP fun a => a.toNat == j
def cntN (j : Nat) (xs : List Nd) : Nat := (xs.map fun x => cntL j x.args).sum
def cntG (j : Nat) (gs : List Asg) : Nat := (gs.map fun a => if a.root.toNat = j then 1 else 0).sum
theorem bumpU_at (u : List Int) (i j : Nat) (hi : i < u.length) : (bumpU u i).getD j 0 = u.getD j 0 + (if i = j then 1 else 0) := by
  unfold bumpU
  rw [List.getD_eq_getElem?_getD, List.getElem?_set]
  by_cases e : i = j
  · subst e; simp [hi]
  · simp [e]
theorem bumpL_at (j : Nat) : ∀ (es : List Int) (u : List Int), (∀ a ∈ es, a.toNat < u.length) → (bumpL u es).getD j 0 = u.getD j 0 + cntL j es := by
  intro es
  induction es with
  | nil => intro u _; simp [bumpL, cntL]
  | cons a r ih =>
    intro u h
    have h1 : bumpL u (a :: r) = bumpL (bumpU u a.toNat) r := rfl
    rw [h1, ih _ (fun b hb => by rw [bumpU_len]; exact h b (by simp [hb])), bumpU_at _ _ _ (h a (by simp))]
    unfold cntL
    rw [List.countP_cons]
    by_cases e : a.toNat = j <;> simp [e] <;> omega
theorem usesN_at (j : Nat) : ∀ (xs : List Nd) (u : List Int), (∀ x ∈ xs, ∀ a ∈ x.args, a.toNat < u.length) → (usesN u xs).getD j 0 = u.getD j 0 + cntN j xs := by
  intro xs
  induction xs with
  | nil => intro u _; simp [usesN, cntN]
  | cons x r ih =>
    intro u h
    have h1 : usesN u (x :: r) = usesN (bumpL u x.args) r := rfl
    rw [h1, ih _ (fun y hy b hb => by rw [bumpL_len]; exact h y (by simp [hy]) b hb), bumpL_at _ _ _ (h x (by simp))]
    simp [cntN]
    omega
theorem usesG_at (j : Nat) : ∀ (gs : List Asg) (u : List Int), (∀ a ∈ gs, a.root.toNat < u.length) → (usesG u gs).getD j 0 = u.getD j 0 + cntG j gs := by
  intro gs
  induction gs with
  | nil => intro u _; simp [usesG, cntG]
  | cons x r ih =>
    intro u h
    have h1 : usesG u (x :: r) = usesG (bumpU u x.root.toNat) r := rfl
    rw [h1, ih _ (fun y hy => by rw [bumpU_len]; exact h y (by simp [hy])), bumpU_at _ _ _ (h x (by simp))]
    by_cases e : x.root.toNat = j <;> simp [cntG, e] <;> omega
theorem sum_one {L : List Nat} {i a : Nat} (h : L[i]? = some a) : a ≤ L.sum := by
  induction L generalizing i with
  | nil => simp at h
  | cons x r ih =>
    cases i with
    | zero => simp at h; simp; omega
    | succ i => have := ih (by simpa using h); simp; omega
theorem sum_two {L : List Nat} {i i' a b : Nat} (h : L[i]? = some a) (h' : L[i']? = some b) (hne : i ≠ i') : a + b ≤ L.sum := by
  induction L generalizing i i' with
  | nil => simp at h
  | cons x r ih =>
    cases i with
    | zero =>
      cases i' with
      | zero => omega
      | succ i' => have := sum_one (L := r) (by simpa using h'); simp at h; simp; omega
    | succ i =>
      cases i' with
      | zero => have := sum_one (L := r) (by simpa using h); simp at h'; simp; omega
      | succ i' => have := ih (i := i) (i' := i') (by simpa using h) (by simpa using h') (by omega); simp; omega
theorem sum_pos {L : List Nat} (h : 0 < L.sum) : ∃ (i a : Nat), L[i]? = some a ∧ 0 < a := by
  induction L with
  | nil => simp at h
  | cons x r ih =>
    by_cases e : 0 < x
    · exact ⟨0, x, rfl, e⟩
    · obtain ⟨i, a, h1, h2⟩ := ih (by simp at h; omega)
      exact ⟨i + 1, a, by simpa using h1, h2⟩
theorem cntL_pos {j : Nat} {es : List Int} (h0 : ∀ a ∈ es, 0 ≤ a) : 0 < cntL j es ↔ (j : Int) ∈ es := by
  unfold cntL
  rw [List.countP_pos_iff]
  constructor
  · rintro ⟨a, ha, e⟩
    have := h0 a ha
    simp at e
    have : a = j := by omega
    exact this ▸ ha
  · intro h
    exact ⟨j, h, by simp⟩
/-- what a valid program's nodes and roots are -/
structure Prg.V (p : Prg) : Prop where
  len : p.ns.length ≤ 60
  nd : ∀ (k : Nat) (x : Nd), p.ns[k]? = some x → nodeF x = true ∧ ∀ a ∈ x.args, 0 ≤ a ∧ a ≤ (k : Int) - 1
  ag : ∀ (k : Nat) (x : Asg), p.gs[k]? = some x → identB x.name = true ∧ 0 ≤ x.root ∧ x.root ≤ (p.ns.length : Int) - 1
  one : ∀ j, j < p.ns.length → cntN j p.ns + cntG j p.gs = 1
theorem Prg.okB_V {p : Prg} (h : p.okB = true) : p.V := by
  unfold Prg.okB at h
  simp only [Bool.and_eq_true, decide_eq_true_eq] at h
  obtain ⟨⟨⟨h1, h2⟩, h3⟩, h4⟩ := h
  rw [List.all_eq_true] at h2 h3 h4
  have hn : ∀ (k : Nat) (x : Nd), p.ns[k]? = some x → nodeF x = true ∧ ∀ a ∈ x.args, 0 ≤ a ∧ a ≤ (k : Int) - 1 := by
    intro k x hx
    have := h2 k (List.mem_range.2 (List.getElem?_eq_some_iff.1 hx).1)
    rw [Prg.ndB_at hx, Bool.and_eq_true] at this
    refine ⟨this.2, fun a ha => ?_⟩
    have h5 := this.1
    unfold argsB at h5
    rw [List.all_eq_true] at h5
    exact inB_iff.1 (h5 a ha)
  have hg : ∀ (k : Nat) (x : Asg), p.gs[k]? = some x → identB x.name = true ∧ 0 ≤ x.root ∧ x.root ≤ (p.ns.length : Int) - 1 := by
    intro k x hx
    have := h3 k (List.mem_range.2 (List.getElem?_eq_some_iff.1 hx).1)
    rw [Prg.agB_at hx, Bool.and_eq_true] at this
    exact ⟨this.1, inB_iff.1 this.2⟩
  refine ⟨h1, hn, hg, fun j hj => ?_⟩
  have hul : p.uses.length = p.ns.length := by unfold Prg.uses; rw [usesG_len, Prg.usesA_len]
  have hu : p.uses.getD j 0 = 1 := by
    have hm : p.uses[j]? = some (p.uses[j]'(by omega)) := by simp [hul, hj]
    rw [List.getD_eq_getElem?_getD, hm]
    have := h4 _ (List.getElem_mem (show j < p.uses.length by omega))
    simpa using this
  unfold Prg.uses at hu
  rw [usesG_at, Prg.usesA, usesN_at] at hu
  · have : (List.replicate p.ns.length (0 : Int)).getD j 0 = 0 := by
      rw [List.getD_eq_getElem?_getD, List.getElem?_replicate, if_pos hj]; rfl
    rw [this] at hu
    omega
  · intro x hx a ha
    obtain ⟨k, hk, rfl⟩ := List.getElem_of_mem hx
    have := (hn k _ (by simp [hk])).2 a ha
    simp
    omega
  · intro a ha
    rw [Prg.usesA_len]
    obtain ⟨k, hk, rfl⟩ := List.getElem_of_mem ha
    have := (hg k p.gs[k] (by simp [hk])).2
    omega
theorem Prg.V.arg_lt {p : Prg} (h : p.V) {k j : Nat} {x : Nd} (hx : p.ns[k]? = some x) (hj : (j : Int) ∈ x.args) : j < k := by
  have := ((h.nd k x hx).2 _ hj).2
  omega
theorem Prg.V.cnt {p : Prg} (h : p.V) {k j : Nat} {x : Nd} (hx : p.ns[k]? = some x) : (p.ns.map fun x => cntL j x.args)[k]? = some (cntL j x.args) ∧ ((j : Int) ∈ x.args → 0 < cntL j x.args) :=
  ⟨by simp [hx], fun hj => (cntL_pos (fun a ha => ((h.nd k x hx).2 a ha).1)).2 hj⟩
theorem cntG_one {gs : List Asg} {k r : Nat} {s : ByteArray} (hk : gs[k]? = some ⟨s, r⟩) : (gs.map fun a => if a.root.toNat = r then 1 else 0)[k]? = some 1 := by simp [hk]
/-- one way up from a node that is used -/
theorem Own.up {p : Prg} {j k : Nat} (h : Own p j k) : (∃ s : ByteArray, p.gs[k]? = some ⟨s, (j : Nat)⟩) ∨ ∃ (i : Nat) (x : Nd), p.ns[i]? = some x ∧ (j : Int) ∈ x.args ∧ Own p i k := by
  obtain ⟨s, r, h1, h2⟩ := h
  cases h2 with
  | refl => exact .inl ⟨s, h1⟩
  | arg h3 h4 h5 => exact .inr ⟨_, _, h4, h5, s, r, h1, h3⟩
theorem Own.down {p : Prg} {i j k : Nat} {x : Nd} (h : Own p i k) (hx : p.ns[i]? = some x) (hj : (j : Int) ∈ x.args) : Own p j k := by
  obtain ⟨s, r, h1, h2⟩ := h
  exact ⟨s, r, h1, h2.arg hx hj⟩
theorem Own.root {p : Prg} {k r : Nat} {s : ByteArray} (h : p.gs[k]? = some ⟨s, r⟩) : Own p r k := ⟨s, r, h, .refl⟩
theorem Own.lt {p : Prg} (hv : p.V) {j k : Nat} (h : Own p j k) : j < p.ns.length ∧ k < p.gs.length := by
  obtain ⟨s, r, h1, h2⟩ := h
  have hr := (hv.ag k _ h1).2.2
  simp only at hr
  refine ⟨?_, (List.getElem?_eq_some_iff.1 h1).1⟩
  have hr : r < p.ns.length := by omega
  clear h1
  induction h2 with
  | refl => exact hr
  | arg _ h4 h5 ih => have := hv.arg_lt h4 h5; have := (List.getElem?_eq_some_iff.1 h4).1; omega
theorem Prg.V.some {p : Prg} (hv : p.V) : ∀ (d j : Nat), j + d = p.ns.length → 0 < d → ∃ k, Own p j k := by
  intro d
  induction d using Nat.strongRecOn with
  | _ d ih =>
    intro j hj hd
    have h1 := hv.one j (by omega)
    by_cases hg : 0 < cntG j p.gs
    · obtain ⟨k, a, hk, ha⟩ := sum_pos hg
      rw [List.getElem?_map] at hk
      cases hgk : p.gs[k]? with
      | none => rw [hgk] at hk; simp at hk
      | some y =>
        rw [hgk] at hk
        simp at hk
        have h2 : y.root.toNat = j := by
          by_cases e : y.root.toNat = j
          · exact e
          · rw [if_neg e] at hk; omega
        have h3 := (hv.ag k y hgk).2
        have h4 : y.root = (j : Int) := by omega
        exact ⟨k, y.name, j, by rw [hgk]; cases y; simp only at h4; rw [h4], .refl⟩
    · obtain ⟨i, a, hi, ha⟩ := sum_pos (L := p.ns.map fun x => cntL j x.args) (by unfold cntN at h1; omega)
      rw [List.getElem?_map] at hi
      cases hx : p.ns[i]? with
      | none => rw [hx] at hi; simp at hi
      | some x =>
        rw [hx] at hi
        simp at hi
        have hm : (j : Int) ∈ x.args := (cntL_pos (fun a ha => ((hv.nd i x hx).2 a ha).1)).1 (by omega)
        have h2 := hv.arg_lt hx hm
        have h3 := (List.getElem?_eq_some_iff.1 hx).1
        obtain ⟨k, hk⟩ := ih (p.ns.length - i) (by omega) i (by omega) (by omega)
        exact ⟨k, hk.down hx hm⟩
theorem Prg.V.uniq {p : Prg} (hv : p.V) : ∀ (d j k k' : Nat), j + d = p.ns.length → Own p j k → Own p j k' → k = k' := by
  intro d
  induction d using Nat.strongRecOn with
  | _ d ih =>
    intro j k k' hj h h'
    have hjl := (h.lt hv).1
    have h1 := hv.one j hjl
    rcases h.up with ⟨s, hs⟩ | ⟨i, x, hx, hm, ho⟩
    · rcases h'.up with ⟨s', hs'⟩ | ⟨i', x', hx', hm', ho'⟩
      · by_cases e : k = k'
        · exact e
        · have := sum_two (cntG_one hs) (cntG_one hs') e
          unfold cntG at h1
          omega
      · have h2 := sum_one (cntG_one hs)
        have h3 := hv.cnt (j := j) hx'
        have h4 := h3.2 hm'
        have h5 := sum_one h3.1
        unfold cntN cntG at h1
        omega
    · have h3 := hv.cnt (j := j) hx
      have h4 := h3.2 hm
      rcases h'.up with ⟨s', hs'⟩ | ⟨i', x', hx', hm', ho'⟩
      · have h2 := sum_one (cntG_one hs')
        have h5 := sum_one h3.1
        unfold cntN cntG at h1
        omega
      · have h3' := hv.cnt (j := j) hx'
        have h4' := h3'.2 hm'
        by_cases e : i = i'
        · subst e
          have h6 := hv.arg_lt hx hm
          have h7 := (List.getElem?_eq_some_iff.1 hx).1
          exact ih (p.ns.length - i) (by omega) i k k' (by omega) ho ho'
        · have h5 := sum_two h3.1 h3'.1 e
          unfold cntN at h1
          omega
open Classical in
/-- the assignment that holds node j -/
noncomputable def Prg.own (p : Prg) (j : Nat) : Nat := if h : ∃ k, Own p j k then h.choose else 0
theorem Prg.V.own_is {p : Prg} (hv : p.V) {j : Nat} (hj : j < p.ns.length) : Own p j (p.own j) := by
  unfold Prg.own
  have := hv.some (p.ns.length - j) j (by omega) (by omega)
  rw [dif_pos this]
  exact this.choose_spec
theorem Prg.V.own_eq {p : Prg} (hv : p.V) {j k : Nat} (h : Own p j k) : p.own j = k := by
  have hj := (h.lt hv).1
  exact hv.uniq (p.ns.length - j) j _ _ (by omega) (hv.own_is hj) h
/-- the owners of all nodes -/
noncomputable def Prg.ownL (p : Prg) : List Int := (List.range p.ns.length).map fun j => (p.own j : Int)
theorem Prg.ownL_len (p : Prg) : p.ownL.length = p.ns.length := by simp [Prg.ownL]
theorem Prg.ownL_of {p : Prg} (hv : p.V) {o : List Int} (hl : o.length = p.ns.length) (h : ∀ j k, Own p j k → o.getD j 0 = k) : o = p.ownL := by
  apply List.ext_getElem (by rw [hl, Prg.ownL_len])
  intro j h1 h2
  have := h j _ (hv.own_is (by omega))
  rw [List.getD_eq_getElem?_getD, List.getElem?_eq_getElem h1] at this
  simp [Prg.ownL]
  simpa using this
end Go.Proofs.YtaegmenjgjdimaaGreat
end

section
/- This text proves the program's owners and the reference's. -/
namespace Go.Proofs.YtaegmenjgjdimaaGreat
open Go.RowKit

@[go_sem] theorem store_func {P : Program} {w : World} {a : Addr} {m : Mode} (fn : Fn) (first captured : Array Value) : (store a (.func fn first captured) m).run P w = stored P w a (.func fn first captured) m := run_store P w a _ m rfl
/-- a list of owners is changed to k, at nodes of assignment k alone -/
def OwnTo (p : Prg) (k : Nat) (o o' : List Int) : Prop := o'.length = o.length ∧ ∀ j, o'.getD j 0 = o.getD j 0 ∨ (o'.getD j 0 = k ∧ Own p j k)
theorem OwnTo.refl (p : Prg) (k : Nat) (o : List Int) : OwnTo p k o o := ⟨rfl, fun _ => .inl rfl⟩
theorem OwnTo.trans {p : Prg} {k : Nat} {o o1 o2 : List Int} (h : OwnTo p k o o1) (h' : OwnTo p k o1 o2) : OwnTo p k o o2 :=
  ⟨h'.1.trans h.1, fun j => by
    rcases h'.2 j with e | e
    · rw [e]; exact h.2 j
    · exact .inr e⟩
theorem getD_set (o : List Int) (i j : Nat) (x : Int) (hi : i < o.length) : (o.set i x).getD j 0 = if i = j then x else o.getD j 0 := by
  rw [List.getD_eq_getElem?_getD, List.getElem?_set]
  by_cases e : i = j
  · subst e; simp [hi]
  · simp [e]
theorem OwnTo.set {p : Prg} {k i : Nat} {o : List Int} (h : Own p i k) (hi : i < o.length) : OwnTo p k o (o.set i k) :=
  ⟨by simp, fun j => by
    rw [getD_set _ _ _ _ hi]
    by_cases e : i = j
    · subst e; exact .inr ⟨by simp, h⟩
    · exact .inl (by simp [e])⟩
/-- the boxes of the program's owners: the row of owners, the program, the function -/
structure OB (p : Prg) (B O n : Nat) (a1 a2 : Option Addr) (c1 c2 : Nat) (w : World) (o : List Int) : Prop where
  prog : Bx w B #[.slice a1 p.ns.length c1, .slice a2 p.gs.length c2] 26
  out : Bx w O #[.slice (some ⟨B + 1, 0, none⟩) n n] 29
  fn : Bx w (O + 1) #[.func (.func 119) #[] #[.pointer (some ⟨O, 0, none⟩), .pointer (some ⟨B, 0, none⟩), .pointer (some ⟨O + 1, 0, none⟩)]] 186
  row : OwnInts (B + 1) w (.slice (some ⟨B + 1, 0, none⟩) n n) o
theorem Sub.head {p : Prg} {r j : Nat} (h : Sub p r j) : r = j ∨ ∃ (x : Nd) (a : Nat), p.ns[r]? = some x ∧ (a : Int) ∈ x.args ∧ Sub p a j := by
  induction h with
  | refl => exact .inl rfl
  | arg h1 h2 h3 ih =>
    rcases ih with rfl | ⟨x, a, h4, h5, h6⟩
    · exact .inr ⟨_, _, h2, h3, .refl⟩
    · exact .inr ⟨x, a, h4, h5, h6.arg h2 h3⟩
theorem OwnTo.keep {p : Prg} {k : Nat} {o o' : List Int} (h : OwnTo p k o o') {j : Nat} (hj : o.getD j 0 = k) : o'.getD j 0 = k := by
  rcases h.2 j with e | e
  · rw [e, hj]
  · exact e.1
set_option maxRecDepth 20000 in
set_option maxHeartbeats 12800000 in
theorem iVisit_any (lo hi : Nat) (p : Prg) (hv : p.V) (W : World) (a1 a2 : Option Addr) (c1 c2 : Nat) (HN : NdsAt lo hi W a1 c1 p.ns) (hh : hi ≤ W.heap.size) (O : Nat) (hO : W.heap.size + 1 < O) (k : Nat) (hk : k ≤ 10000000) (m : Nat) :
    ∀ (node : Nat) (o : List Int) (w : World), node < m → Own p node k → o.length = p.ns.length → OB p W.heap.size O p.ns.length a1 a2 c1 c2 w o → Ext W w →
    Calls Tryz.prog 119 #[.int .i64 node, .int .i64 k, .pointer (some ⟨O, 0, none⟩), .pointer (some ⟨W.heap.size, 0, none⟩), .pointer (some ⟨O + 1, 0, none⟩)] w fun e w' => e = .returned (.tuple #[]) ∧ (∃ o', OB p W.heap.size O p.ns.length a1 a2 c1 c2 w' o' ∧ OwnTo p k o o' ∧ ∀ j, Sub p node j → o'.getD j 0 = k) ∧ Ext W w' := by
  have l1 := HN.le
  have l2 := HN.cap
  induction m with
  | zero => intro node o w hm; omega
  | succ m ih =>
    intro node o w hm hown hol hB hx
    have hnl := (hown.lt hv).1
    have zx := hx.size
    obtain ⟨hB1, hB2, hB3, hB4⟩ := hB
    obtain ⟨r1, r2, r3, r4, r5⟩ := hB4.upd (by omega) hnl
    have hS := r5 k ⟨by omega, by omega⟩
    have HB1 := hid hB1
    have HB2 := hid hB2
    have HB3 := hid hB3
    have HS := hid hS
    have HX := hid hx
    have HOL := hid hol
    have HOW := hid hown
    obtain ⟨b, off, op, s, num, sa, sc, ra, rfl, hb1, hbw, hget, io, inn, hI, HI, y0, y1, y2, y3⟩ := HN.atW hnl hx hh
    have HG := hid hget
    have li1 := HI.le
    have li2 := HI.cap
    have q := hB1.lt
    have q0 := hB1.cell 0
    simp only [List.getElem?_toArray, List.getElem?_cons_zero, List.getElem?_cons_succ] at q0
    have q1 := hB1.cell 1
    simp only [List.getElem?_toArray, List.getElem?_cons_zero, List.getElem?_cons_succ] at q1
    have d := hB2.lt
    have d0 := hB2.cell 0
    simp only [List.getElem?_toArray, List.getElem?_cons_zero, List.getElem?_cons_succ] at d0
    have hbS : b ≠ W.heap.size + 1 := by omega
    have hOS : O ≠ W.heap.size + 1 := by omega
    have IH := hid ih
    clear ih hget hB1 hB2 hB3 hB4 hS hx hol hown hI r5 y0 y1 y2
    go_enter Tryz.func119, Tryz.ntmps119
    go_wp2
    go_loopw [20] (fun i wr => ∃ (j : Nat) (o' : List Int), j ≤ ra.length ∧ i = .int .i64 j ∧ OB p W.heap.size O p.ns.length (some ⟨b, off, none⟩) a2 c1 c2 wr o' ∧ OwnTo p k o o' ∧ o'.getD node 0 = k ∧ (∀ (t a : Nat), t < j → ra[t]? = some (a : Int) → ∀ q, Sub p a q → o'.getD q 0 = k) ∧ Ext W wr) (fun i _ => ra.length - (intOf i).toNat)
    case atStart =>
      refine ⟨0, o.set node k, by omega, rfl, ⟨HB1.out.other (by simp) _, HB2.out.other (by simpa using hOS) _, HB3.out.other (by simp; omega) _, HS.out⟩, OwnTo.set HOW.out (by rw [HOL.out]; exact hnl), ?_, fun t a ht => by omega, ?_⟩
      · rw [getD_set _ _ _ _ (by rw [HOL.out]; exact hnl), if_pos rfl]
      · have hx := HX.out
        exact (by repeat (first | with_reducible assumption | with_reducible exact Ext.refl _ | with_reducible apply Ext.alloc | with_reducible apply Ext.drew | with_reducible apply Ext.drewN | (with_reducible refine Ext.setCell ?_ (by simp; omega) _) | (with_reducible refine Ext.setCell ?_ (by simp) _)))
    case round =>
      clear HB1 HB2 HB3 HS HX q q0 q1 d d0 r1 r2 r3 r4
      obtain ⟨j, o', hj, rfl, hB, hO, hN, hA, hx⟩ := hrel
      by_cases hlj : j < ra.length
      · obtain ⟨b3, off3, y, rfl, hb3, hy, _, hc3⟩ := HI.atE hlj hx hh
        have hyb := (hv.nd node _ HG.out).2 y (List.mem_of_getElem? hy)
        obtain ⟨z, rfl⟩ : ∃ z : Nat, y = z := ⟨y.toNat, by omega⟩
        have hOz := hid (HOW.out.down HG.out (List.mem_of_getElem? hy))
        have HY := hid hy
        have HB := hid hB
        have HO := hid hO
        have HN2 := hid hN
        have HA := hid hA
        have HX := hid hx
        have hB3 := hB.fn
        have f := hB3.lt
        have f0 := hB3.cell 0
        simp only [List.getElem?_toArray, List.getElem?_cons_zero, List.getElem?_cons_succ] at f0
        clear hy hB hO hN hA hx hB3
        go_wp2_with fail
        refine (IH.out z o' _ (by omega) hOz.out (by rw [HO.out.1]; exact HOL.out) HB.out HX.out).mono ?_
        rintro e w1 ⟨rfl, ⟨o2, hB2, hO2, hS2⟩, hx2⟩
        have HB' := hid hB2
        have HO' := hid hO2
        have HS' := hid hS2
        have HX' := hid hx2
        clear hB2 hO2 hS2 hx2 HB HX f f0
        go_wp2
        go_roundw
        case rel =>
          refine ⟨j + 1, o2, by omega, by go_num, HB'.out, HO.out.trans HO'.out, HO'.out.keep HN2.out, fun t a ht ha q hq => ?_, HX'.out⟩
          by_cases e : t = j
          · subst e
            rw [HY.out] at ha
            injection ha with ha
            have : z = a := by omega
            subst this
            exact HS'.out q hq
          · exact HO'.out.keep (HA.out t a (by omega) ha q hq)
        case measure => simp [intOf]; omega
      · have HB := hid hB
        have HO := hid hO
        have HN2 := hid hN
        have HA := hid hA
        have HX := hid hx
        clear hB hO hN hA hx
        go_wp2
        go_end0
        refine ⟨rfl, ⟨o', HB.out, HO.out, fun q hq => ?_⟩, HX.out⟩
        rcases hq.head with rfl | ⟨x, a, h1, h2, h3⟩
        · exact HN2.out
        · rw [HG.out] at h1
          injection h1 with h1
          subst h1
          obtain ⟨t, ht, hta⟩ := List.getElem_of_mem h2
          exact HA.out t a (by have : t < ra.length := ht; omega) (by rw [← hta]; simp [ht]) q h3
set_option maxRecDepth 20000 in
set_option maxHeartbeats 12800000 in
theorem iOwners_any (lo hi : Nat) (v : Value) (p : Prg) (w : World) (hv : p.R lo hi w v) (hh : hi ≤ w.heap.size) (hp : p.V) (hgl : p.gs.length ≤ 1048576) :
    Calls Tryz.prog 88 #[v] w fun e w' => (∃ a c, e = .returned (.slice a p.ns.length c) ∧ OwnInts w.heap.size w' (.slice a p.ns.length c) p.ownL) ∧ Ext w w' := by
  obtain ⟨i0, hi0, hz0, hz1, hz2⟩ := info_parts info_int
  obtain ⟨a1, c1, a2, c2, rfl, HN, HG⟩ := hv.form
  have l1 := HN.le
  have l2 := HN.cap
  have l3 := HG.le
  have l4 := HG.cap
  have l5 := hp.len
  clear hv
  have bB := Bx.made w #[.slice a1 p.ns.length c1, .slice a2 p.gs.length c2] 26
  have x0 : Ext w (w.alloc (.cells #[.slice a1 p.ns.length c1, .slice a2 p.gs.length c2] 26)) := (by repeat (with_reducible (first | assumption | exact Ext.refl _ | apply Ext.alloc | apply Ext.drew | apply Ext.drewN)))
  go_enter Tryz.func88, Tryz.ntmps88
  go_wp2_with (at_make; refine wpList_make_full _ rfl _ _ 29 rfl (w.heap.size + 1) 3 i0 (.int .i64 0) 1 Tryz.underlying29 hi0 hz0 hz1 _ _ _ _ p.ns.length rfl rfl rfl rfl (by rw [hz2]; omega) (by unfold maxLen; omega) (by simp) ?_)
  intro w1 hown hgrow
  rw [made_ints] at hown
  have hs1 := World.size_alloc w (.cells #[.slice a1 p.ns.length c1, .slice a2 p.gs.length c2] 26)
  have x1 : Ext (w.alloc (.cells #[.slice a1 p.ns.length c1, .slice a2 p.gs.length c2] 26)) w1 := (Ext.refl _).grown hgrow (fun k h => by cases h)
  have bB1 := bB.ext x1
  have hz1' := x1.size
  have HO := hid (show OwnInts (w.heap.size + 1) w1 (.slice (some ⟨w.heap.size + 1, 0, none⟩) p.ns.length p.ns.length) (List.replicate p.ns.length 0) from ⟨by simpa using hown, fun x hx => by rw [(List.mem_replicate.1 hx).2]; exact ⟨by decide, by decide⟩⟩)
  have hlt := HO.out.lt _ rfl
  have X1 := hid (x0.trans x1)
  have HB1 := hid bB1
  have q := bB1.lt
  have q0 := bB1.cell 0
  simp only [List.getElem?_toArray, List.getElem?_cons_zero, List.getElem?_cons_succ] at q0
  have q1 := bB1.cell 1
  simp only [List.getElem?_toArray, List.getElem?_cons_zero, List.getElem?_cons_succ] at q1
  clear hown hgrow hi0 hz0 hz1 hz2 x1 x0 bB hs1 bB1
  go_wp2
  have HO0 := hid (show OB p w.heap.size w1.heap.size p.ns.length a1 a2 c1 c2 ((w1.alloc (.cells #[.slice (some ⟨w.heap.size + 1, 0, none⟩) p.ns.length p.ns.length] 29)).alloc (.cells #[.func (.func 119) #[] #[.pointer (some ⟨w1.heap.size, 0, none⟩), .pointer (some ⟨w.heap.size, 0, none⟩), .pointer (some ⟨w1.heap.size + 1, 0, none⟩)]] 186)) (List.replicate p.ns.length 0) from
    { prog := HB1.out.ext (by repeat (with_reducible (first | assumption | exact Ext.refl _ | apply Ext.alloc | apply Ext.drew | apply Ext.drewN)))
      out := (Bx.made w1 _ _).ext (by repeat (with_reducible (first | assumption | exact Ext.refl _ | apply Ext.alloc | apply Ext.drew | apply Ext.drewN)))
      fn := Bx.madeAt _ _ _ (by simp)
      row := HO.out.ext (by repeat (with_reducible (first | assumption | exact Ext.refl _ | apply Ext.alloc | apply Ext.drew | apply Ext.drewN))) } )
  go_loopw [15] (fun i wr => ∃ (k : Nat) (o : List Int), k ≤ p.gs.length ∧ i = .int .i64 k ∧ o.length = p.ns.length ∧ OB p w.heap.size w1.heap.size p.ns.length a1 a2 c1 c2 wr o ∧ (∀ j t, Own p j t → t < k → o.getD j 0 = t) ∧ Ext w wr) (fun i _ => p.gs.length - (intOf i).toNat)
  case atStart =>
    refine ⟨0, List.replicate p.ns.length 0, by omega, rfl, by simp, HO0.out, fun j t _ h => by omega, ?_⟩
    have hx := X1.out
    exact (by repeat (first | with_reducible assumption | with_reducible exact Ext.refl _ | with_reducible apply Ext.alloc | with_reducible apply Ext.drew | with_reducible apply Ext.drewN | (with_reducible refine Ext.setCell ?_ (by simp; omega) _) | (with_reducible refine Ext.setCell ?_ (by simp) _)))
  case round =>
    clear HO0 HO X1 HB1 q q0 q1
    obtain ⟨k, o, hk, rfl, hol, hB, hA, hx⟩ := hrel
    have HOL := hid hol
    have HB := hid hB
    have HA := hid hA
    have HX := hid hx
    by_cases hlt2 : k < p.gs.length
    · obtain ⟨b, off, s, rt, rfl, hb1, hbw, hdrop, hget, ir, y0, y1⟩ := HG.at hlt2 hx hh
      have hrb := (hp.ag k _ hget).2
      simp only at hrb
      obtain ⟨r, rfl⟩ : ∃ r : Nat, rt = r := ⟨rt.toNat, by omega⟩
      have HG1 := hid hget
      have q0 : Ext wr (wr.alloc (.cells #[.string s, .int .i64 r] 74)) := (by repeat (with_reducible (first | assumption | exact Ext.refl _ | apply Ext.alloc | apply Ext.drew | apply Ext.drewN)))
      have hB' : OB p w.heap.size w1.heap.size p.ns.length a1 (some ⟨b, off, none⟩) c1 c2 (wr.alloc (.cells #[.string s, .int .i64 r] 74)) o := ⟨hB.prog.ext q0, hB.out.ext q0, hB.fn.ext q0, hB.row.ext q0⟩
      have HB' := hid hB'
      have hf := hB.fn
      have f := hf.lt
      have f0 := hf.cell 0
      simp only [List.getElem?_toArray, List.getElem?_cons_zero, List.getElem?_cons_succ] at f0
      have zx := hx.size
      have HX' := hid (hx.trans q0)
      clear hol hB hA hx hdrop hget hB' q0 HB hf
      go_wp2_with fail
      refine (iVisit_any lo hi p hp w a1 (some ⟨b, off, none⟩) c1 c2 HN hh w1.heap.size (by omega) k (by omega) (r + 1) r o _ (by omega) (Own.root HG1.out) HOL.out HB'.out HX'.out).mono ?_
      rintro e w2 ⟨rfl, ⟨o2, hB2, hO2, hS2⟩, hx2⟩
      have HB2 := hid hB2
      have HO2 := hid hO2
      have HS2 := hid hS2
      have HX2 := hid hx2
      clear hB2 hO2 hS2 hx2 HB' HX'
      go_wp2
      go_roundw
      case rel =>
        refine ⟨k + 1, o2, by omega, by go_num, by rw [HO2.out.1]; exact HOL.out, HB2.out, fun j t hjt ht => ?_, HX2.out⟩
        by_cases e : t = k
        · subst e
          obtain ⟨s', r', h1, h2⟩ := hjt
          rw [HG1.out] at h1
          simp only [Option.some.injEq, Asg.mk.injEq] at h1
          have : r = r' := by omega
          subst this
          exact HS2.out j h2
        · rcases HO2.out.2 j with e2 | ⟨e2, e3⟩
          · rw [e2]
            exact HA.out j t hjt (by omega)
          · have := hp.own_eq hjt
            have := hp.own_eq e3
            omega
      case measure => simp [intOf]; omega
    · obtain rfl : k = p.gs.length := by omega
      have hB2 := hB.out
      have f := hB2.lt
      have f0 := hB2.cell 0
      simp only [List.getElem?_toArray, List.getElem?_cons_zero, List.getElem?_cons_succ] at f0
      clear hol hB hA hx hB2
      go_wp2
      go_ret
      have e : o = p.ownL := Prg.ownL_of hp HOL.out (fun j t hjt => HA.out j t hjt (hjt.lt hp).2)
      exact ⟨⟨_, _, rfl, by rw [← e]; exact HB.out.row.low (by omega)⟩, HX.out⟩
end Go.Proofs.YtaegmenjgjdimaaGreat
end

section
/- This text proves the reference's owners. -/
namespace Go.Proofs.YtaegmenjgjdimaaGreat
open Go.RowKit

/-- node j of assignment t has its owner: it is a root, or an argument of a node from m on, or one of the first q numbers of ra -/
def Has (p : Prg) (m : Nat) (ra : List Int) (q j t : Nat) : Prop :=
  (∃ s : ByteArray, p.gs[t]? = some ⟨s, (j : Nat)⟩) ∨ (∃ (i : Nat) (x : Nd), m ≤ i ∧ p.ns[i]? = some x ∧ (j : Int) ∈ x.args) ∨ (∃ e, e < q ∧ ra[e]? = some (j : Int))
def Owned (p : Prg) (m : Nat) (ra : List Int) (q : Nat) (o : List Int) : Prop := ∀ j t, Own p j t → Has p m ra q j t → o.getD j 0 = t
theorem Owned.all {p : Prg} (hv : p.V) {o : List Int} (h : Owned p 0 [] 0 o) : ∀ j t, Own p j t → o.getD j 0 = t := fun j t ho => by
  refine h j t ho ?_
  rcases ho.up with h1 | ⟨i, x, h1, h2, _⟩
  · exact .inl h1
  · exact .inr (.inl ⟨i, x, by omega, h1, h2⟩)
/-- node i has its owner when the nodes behind it are done -/
theorem Owned.at {p : Prg} (hv : p.V) {i q : Nat} {ra o : List Int} (h : Owned p (i + 1) ra q o) (hi : i < p.ns.length) : o.getD i 0 = p.own i := by
  have ho := hv.own_is hi
  refine h i _ ho ?_
  rcases ho.up with h1 | ⟨i', x, h1, h2, _⟩
  · exact .inl h1
  · have := hv.arg_lt h1 h2
    exact .inr (.inl ⟨i', x, by omega, h1, h2⟩)
theorem Owned.step {p : Prg} (hv : p.V) {i q a : Nat} {x : Nd} {o : List Int} (h : Owned p (i + 1) x.args q o) (hx : p.ns[i]? = some x) (ha : x.args[q]? = some (a : Int)) (hl : a < o.length) : Owned p (i + 1) x.args (q + 1) (o.set a (p.own i)) := by
  intro j t ho hs
  have hi := (List.getElem?_eq_some_iff.1 hx).1
  rw [getD_set _ _ _ _ hl]
  by_cases e : a = j
  · subst e
    rw [if_pos rfl]
    have h1 := (hv.own_is hi).down hx (List.mem_of_getElem? ha)
    have h2 := hv.own_eq h1
    have h3 := hv.own_eq ho
    omega
  · rw [if_neg e]
    refine h j t ho ?_
    rcases hs with h1 | h1 | ⟨y, h1, h2⟩
    · exact .inl h1
    · exact .inr (.inl h1)
    · by_cases e2 : y = q
      · subst e2
        rw [ha] at h2
        injection h2 with h2
        omega
      · exact .inr (.inr ⟨y, by omega, h2⟩)
theorem Owned.next {p : Prg} {i : Nat} {x : Nd} {o : List Int} (h : Owned p (i + 1) x.args x.args.length o) (hx : p.ns[i]? = some x) : Owned p i [] 0 o := by
  intro j t ho hs
  refine h j t ho ?_
  rcases hs with h1 | ⟨i', y, h1, h2, h3⟩ | ⟨y, h1, h2⟩
  · exact .inl h1
  · by_cases e : i' = i
    · subst e
      rw [hx] at h2
      injection h2 with h2
      subst h2
      obtain ⟨q, hq, hqa⟩ := List.getElem_of_mem h3
      exact .inr (.inr ⟨q, hq, by rw [← hqa]; simp [hq]⟩)
    · exact .inr (.inl ⟨i', y, by omega, h2, h3⟩)
  · omega
theorem Owned.any {p : Prg} {m : Nat} {ra : List Int} {o : List Int} (h : Owned p m [] 0 o) : Owned p m ra 0 o := by
  intro j t ho hs
  refine h j t ho ?_
  rcases hs with h1 | h1 | ⟨y, h1, h2⟩
  · exact .inl h1
  · exact .inr (.inl h1)
  · omega
set_option maxRecDepth 20000 in
set_option maxHeartbeats 12800000 in
theorem sOwners_any (lo hi : Nat) (v : Value) (p : Prg) (w : World) (hv : p.R lo hi w v) (hh : hi ≤ w.heap.size) (hp : p.V) (hgl : p.gs.length ≤ 1048576) :
    Calls Tryz.prog 111 #[v] w fun e w' => (∃ a c, e = .returned (.slice a p.ns.length c) ∧ OwnInts w.heap.size w' (.slice a p.ns.length c) p.ownL) ∧ Ext w w' := by
  obtain ⟨i0, hi0, hz0, hz1, hz2⟩ := info_parts info_int
  obtain ⟨a1, c1, a2, c2, rfl, HN, HG⟩ := hv.form
  have l1 := HN.le
  have l2 := HN.cap
  have l3 := HG.le
  have l4 := HG.cap
  have l5 := hp.len
  clear hv
  have bB := Bx.made w #[.slice a1 p.ns.length c1, .slice a2 p.gs.length c2] 26
  have x0 : Ext w (w.alloc (.cells #[.slice a1 p.ns.length c1, .slice a2 p.gs.length c2] 26)) := (by repeat (with_reducible (first | assumption | exact Ext.refl _ | apply Ext.alloc | apply Ext.drew | apply Ext.drewN)))
  go_enter Tryz.func111, Tryz.ntmps111
  go_wp2_with (at_make; refine wpList_make_full _ rfl _ _ 29 rfl (w.heap.size + 1) 3 i0 (.int .i64 0) 1 Tryz.underlying29 hi0 hz0 hz1 _ _ _ _ p.ns.length rfl rfl rfl rfl (by rw [hz2]; omega) (by unfold maxLen; omega) (by simp) ?_)
  intro w1 hown hgrow
  rw [made_ints] at hown
  have hs1 := World.size_alloc w (.cells #[.slice a1 p.ns.length c1, .slice a2 p.gs.length c2] 26)
  have x1 : Ext (w.alloc (.cells #[.slice a1 p.ns.length c1, .slice a2 p.gs.length c2] 26)) w1 := (Ext.refl _).grown hgrow (fun k h => by cases h)
  have HO := hid (show OwnInts (w.heap.size + 1) w1 (.slice (some ⟨w.heap.size + 1, 0, none⟩) p.ns.length p.ns.length) (List.replicate p.ns.length 0) from ⟨by simpa using hown, fun x hx => by rw [(List.mem_replicate.1 hx).2]; exact ⟨by decide, by decide⟩⟩)
  have X1 := hid (x0.trans x1)
  have bB1' := bB.ext x1
  have bB1 := hid bB1'
  have q := bB1'.lt
  have q0 := bB1'.cell 0
  simp only [List.getElem?_toArray, List.getElem?_cons_zero, List.getElem?_cons_succ] at q0
  have q1 := bB1'.cell 1
  simp only [List.getElem?_toArray, List.getElem?_cons_zero, List.getElem?_cons_succ] at q1
  clear bB1'
  clear hown hgrow hi0 hz0 hz1 hz2 x1 x0 bB hs1
  go_wp2
  go_loopw [16] (fun i wr => ∃ (k : Nat) (o : List Int), k ≤ p.gs.length ∧ i = .int .i64 k ∧ Ext w wr ∧ Bx wr w.heap.size #[.slice a1 p.ns.length c1, .slice a2 p.gs.length c2] 26 ∧ OwnInts (w.heap.size + 1) wr (.slice (some ⟨w.heap.size + 1, 0, none⟩) p.ns.length p.ns.length) o ∧ o.length = p.ns.length ∧ (∀ (t j : Nat) (s : ByteArray), t < k → p.gs[t]? = some ⟨s, j⟩ → o.getD j 0 = t)) (fun i _ => p.gs.length - (intOf i).toNat)
  case atStart => exact ⟨0, _, by omega, rfl, X1.out, bB1.out, HO.out, by simp, fun t j s h => by omega⟩
  case round =>
    clear HO X1 bB1 q q0 q1
    obtain ⟨k, o, hk, rfl, hx, hB, hO, hol, hA⟩ := hrel
    have HX := hid hx
    have HB := hid hB
    have HO := hid hO
    have HOL := hid hol
    have HA := hid hA
    by_cases hlt : k < p.gs.length
    · obtain ⟨b, off, s, rt, rfl, hb1, hbw, hdrop, hget, ir, y0, y1⟩ := HG.at hlt hx hh
      have hrb := (hp.ag k _ hget).2
      simp only at hrb
      obtain ⟨r, rfl⟩ : ∃ r : Nat, rt = r := ⟨rt.toNat, by omega⟩
      have hr : r < p.ns.length := by omega
      have HG1 := hid hget
      have q0 : Ext wr (wr.alloc (.cells #[.string s, .int .i64 r] 74)) := (by repeat (with_reducible (first | assumption | exact Ext.refl _ | apply Ext.alloc | apply Ext.drew | apply Ext.drewN)))
      have hO2 := hO.ext q0
      have HXX := hid (hx.trans q0)
      have HB2 := hid (hB.ext q0)
      have zx := q0.size
      obtain ⟨r1, r2, r3, r4, r5⟩ := hO2.upd (by omega) hr
      have HS := hid (r5 k ⟨by omega, by omega⟩)
      clear hO hO2 HO HX hB HB hol hA hdrop hget hx q0 r5
      go_wp2
      go_roundw
      case rel =>
        refine ⟨k + 1, o.set r k, by omega, by go_num, ?_, HB2.out.other (by simp) _, HS.out, by rw [List.length_set]; exact HOL.out, fun t j s' ht hs' => ?_⟩
        · have hx := HXX.out
          exact (by repeat (first | with_reducible assumption | with_reducible exact Ext.refl _ | with_reducible apply Ext.alloc | with_reducible apply Ext.drew | with_reducible apply Ext.drewN | (with_reducible refine Ext.setCell ?_ (by simp; omega) _) | (with_reducible refine Ext.setCell ?_ (by simp) _)))
        · rw [getD_set _ _ _ _ (by rw [HOL.out]; exact hr)]
          by_cases e : r = j
          · subst e
            rw [if_pos rfl]
            have h1 := hp.own_eq (Own.root HG1.out)
            have h2 := hp.own_eq (Own.root hs')
            omega
          · rw [if_neg e]
            refine HA.out t j s' ?_ hs'
            by_cases e2 : t = k
            · subst e2
              rw [HG1.out] at hs'
              simp only [Option.some.injEq, Asg.mk.injEq] at hs'
              omega
            · omega
      case measure => simp [intOf]; omega
    · obtain rfl : k = p.gs.length := by omega
      have HW : Hid (Owned p p.ns.length [] 0 o) := hid (fun j t _ hs => by
        rcases hs with ⟨s, h1⟩ | ⟨i, x, h1, h2, _⟩ | ⟨y, h1, h2⟩
        · exact HA.out t j s (List.getElem?_eq_some_iff.1 h1).1 h1
        · have := (List.getElem?_eq_some_iff.1 h2).1
          omega
        · omega)
      have q := hB.lt
      have q0 := hB.cell 0
      simp only [List.getElem?_toArray, List.getElem?_cons_zero, List.getElem?_cons_succ] at q0
      have q1 := hB.cell 1
      simp only [List.getElem?_toArray, List.getElem?_cons_zero, List.getElem?_cons_succ] at q1
      clear hx hB hO hol hA HA
      go_wp2
      go_loopw [6] (fun i wr => ∃ (m : Nat) (o : List Int), m ≤ p.ns.length ∧ i = .int .i64 ((m : Int) - 1) ∧ Ext w wr ∧ Bx wr w.heap.size #[.slice a1 p.ns.length c1, .slice a2 p.gs.length c2] 26 ∧ OwnInts (w.heap.size + 1) wr (.slice (some ⟨w.heap.size + 1, 0, none⟩) p.ns.length p.ns.length) o ∧ o.length = p.ns.length ∧ Owned p m [] 0 o) (fun i _ => (intOf i + 1).toNat)
      case atStart => exact ⟨p.ns.length, o, by omega, rfl, HX.out, HB.out, HO.out, HOL.out, HW.out⟩
      case round =>
        clear HX HB HO HOL HW q q0 q1
        obtain ⟨m, o, hm, rfl, hx, hB, hO, hol, hW⟩ := hrel
        have HX := hid hx
        have HB := hid hB
        have HO := hid hO
        have HOL := hid hol
        have HW := hid hW
        rcases (show m = 0 ∨ ∃ i, m = i + 1 from by cases m <;> simp) with rfl | ⟨i, rfl⟩
        · clear hx hB hO hol hW
          go_wp2
          go_ret
          have e : o = p.ownL := Prg.ownL_of hp HOL.out (HW.out.all hp)
          exact ⟨⟨_, _, rfl, by rw [← e]; exact HO.out.low (by omega)⟩, HX.out⟩
        · have e1 : (((i + 1 : Nat) : Int) - 1) = i := by omega
          rw [e1]
          have hil : i < p.ns.length := by omega
          obtain ⟨b, off, op, s, num, sa, sc, ra, rfl, hb1, hbw, hget, io, inn, hI, HI, y0, y1, y2, y3⟩ := HN.atW hil hx hh
          have HG1 := hid hget
          have li1 := HI.le
          have li2 := HI.cap
          have q := hB.lt
          have q0 := hB.cell 0
          simp only [List.getElem?_toArray, List.getElem?_cons_zero, List.getElem?_cons_succ] at q0
          have q1 := hB.cell 1
          simp only [List.getElem?_toArray, List.getElem?_cons_zero, List.getElem?_cons_succ] at q1
          clear hget hx hB hO hol hW hI e1 y0 y1 y2
          go_wp2
          go_loopw [42] (fun z wr => ∃ (j : Nat) (o : List Int), j ≤ ra.length ∧ z = .int .i64 j ∧ Ext w wr ∧ Bx wr w.heap.size #[.slice (some ⟨b, off, none⟩) p.ns.length c1, .slice a2 p.gs.length c2] 26 ∧ OwnInts (w.heap.size + 1) wr (.slice (some ⟨w.heap.size + 1, 0, none⟩) p.ns.length p.ns.length) o ∧ o.length = p.ns.length ∧ Owned p (i + 1) ra j o) (fun z _ => ra.length - (intOf z).toNat)
          case atStart => exact ⟨0, o, by omega, rfl, HX.out, HB.out, HO.out, HOL.out, HW.out.any⟩
          case round =>
            clear HX HB HO HOL HW q q0 q1
            obtain ⟨j, o, hj, rfl, hx, hB, hO, hol, hW⟩ := hrel
            have HX := hid hx
            have HB := hid hB
            have HO := hid hO
            have HOL := hid hol
            have HW := hid hW
            by_cases hlj : j < ra.length
            · obtain ⟨b3, off3, y, rfl, hb3, hy, _, hc3⟩ := HI.atE hlj hx hh
              have hyb := (hp.nd i _ HG1.out).2 y (List.mem_of_getElem? hy)
              obtain ⟨z, rfl⟩ : ∃ z : Nat, y = z := ⟨y.toNat, by omega⟩
              have hz : z < p.ns.length := by omega
              have HY := hid hy
              have hoi := hW.at hp hil
              obtain ⟨g1, g2, g3, g4, g5⟩ := hO.upd (by omega) hil
              rw [hoi] at g3
              obtain ⟨r1, r2, r3, r4, r5⟩ := hO.upd (by omega) hz
              have hob := ((hp.own_is hil).lt hp).2
              obtain ⟨ow, how⟩ : ∃ ow, p.own i = ow := ⟨_, rfl⟩
              have HOW := hid how
              rw [how] at g3 hob
              have HS := hid (r5 ow ⟨by omega, by omega⟩)
              clear hx hB hO hol hW hy g5 r5 hoi how
              go_wp2
              go_roundw
              case rel =>
                refine ⟨j + 1, o.set z ow, by omega, by go_num, ?_, HB.out.other (by simp) _, HS.out, by rw [List.length_set]; exact HOL.out, ?_⟩
                · have hx := HX.out
                  exact (by repeat (first | with_reducible assumption | with_reducible exact Ext.refl _ | with_reducible apply Ext.alloc | with_reducible apply Ext.drew | with_reducible apply Ext.drewN | (with_reducible refine Ext.setCell ?_ (by simp; omega) _) | (with_reducible refine Ext.setCell ?_ (by simp) _)))
                · have := HW.out.step (x := ⟨op, s, num, ra⟩) hp HG1.out HY.out (by rw [HOL.out]; exact hz)
                  rw [HOW.out] at this
                  exact this
              case measure => simp [intOf]; omega
            · obtain rfl : j = ra.length := by omega
              have HW2 := hid (hW.next (x := ⟨op, s, num, ra⟩) HG1.out)
              clear hx hB hO hol hW HW
              go_wp2
              go_roundw
              case rel => exact ⟨i, o, by omega, by go_num, HX.out, HB.out, HO.out, HOL.out, HW2.out⟩
              case measure => simp [intOf] <;> omega
end Go.Proofs.YtaegmenjgjdimaaGreat
end

section
/- This text proves what the program's table of first assignments holds, and the laws of a look into it. -/
namespace Go.Proofs.YtaegmenjgjdimaaGreat
open Go.RowKit Go.Maps Go.WideMaps

/-- the first of the first k assignments to a name -/
def frst (gs : List Asg) (k : Nat) (l : List UInt8) : Option Nat := (gs.take k).findIdx? fun a => a.name.toList == l
/-- is the name assigned to ahead of assignment t? -/
def asgB (gs : List Asg) (t : Nat) (l : List UInt8) : Bool := (gs.take t).any fun a => a.name.toList == l
theorem frst_succ {gs : List Asg} {k : Nat} {a : Asg} (h : gs[k]? = some a) (l : List UInt8) : frst gs (k + 1) l = (frst gs k l).or (if a.name.toList == l then some k else none) := by
  have hk := (List.getElem?_eq_some_iff.1 h).1
  unfold frst
  rw [take_step h, List.findIdx?_append, List.length_take, Nat.min_eq_left (by omega)]
  cases (gs.take k).findIdx? fun a => a.name.toList == l
  · by_cases e : (a.name.toList == l) = true <;> simp [e, List.findIdx?_cons]
  · simp
theorem asgB_iff {gs : List Asg} {t : Nat} {l : List UInt8} : asgB gs t l = true ↔ ∃ (i : Nat) (a : Asg), i < t ∧ gs[i]? = some a ∧ a.name.toList = l := by
  unfold asgB
  rw [List.any_eq_true]
  constructor
  · rintro ⟨a, ha, he⟩
    obtain ⟨i, hi, rfl⟩ := List.getElem_of_mem ha
    simp only [List.length_take] at hi
    exact ⟨i, gs[i]'(by omega), by omega, by simp, by simpa using he⟩
  · rintro ⟨i, a, h1, h2, h3⟩
    refine ⟨a, ?_, by simp [h3]⟩
    have hi := (List.getElem?_eq_some_iff.1 h2).1
    exact List.mem_of_getElem? (i := i) (by rw [List.getElem?_take, if_pos h1]; exact h2)
theorem frst_some {gs : List Asg} {k i : Nat} {l : List UInt8} (h : frst gs k l = some i) : i < k ∧ (∃ a : Asg, gs[i]? = some a ∧ a.name.toList = l) ∧ ∀ (j : Nat) (a : Asg), j < i → gs[j]? = some a → a.name.toList ≠ l := by
  unfold frst at h
  rw [List.findIdx?_eq_some_iff_getElem] at h
  obtain ⟨h1, h2, h3⟩ := h
  simp only [List.length_take] at h1
  refine ⟨by omega, ⟨gs[i]'(by omega), by simp, by simpa using h2⟩, fun j a hj ha => ?_⟩
  have := h3 j hj
  have hl := (List.getElem?_eq_some_iff.1 ha)
  simp only [List.getElem_take] at this
  rw [hl.2] at this
  simpa using this
theorem frst_none {gs : List Asg} {k : Nat} {l : List UInt8} (h : frst gs k l = none) : asgB gs k l = false := by
  unfold frst at h
  rw [List.findIdx?_eq_none_iff] at h
  unfold asgB
  rw [List.any_eq_false]
  intro a ha
  simpa using h a ha
theorem asgB_mono {gs : List Asg} {t t' : Nat} {l : List UInt8} (h : asgB gs t l = true) (ht : t ≤ t') : asgB gs t' l = true := by
  obtain ⟨i, a, h1, h2, h3⟩ := asgB_iff.1 h
  exact asgB_iff.2 ⟨i, a, by omega, h2, h3⟩
/-- the first assignment to a name lies ahead of t just if one does -/
theorem frst_lt {gs : List Asg} {i t : Nat} {l : List UInt8} (h : frst gs gs.length l = some i) : asgB gs t l = decide (i < t) := by
  obtain ⟨h1, ⟨a, h2, h3⟩, h4⟩ := frst_some h
  rw [Bool.eq_iff_iff, asgB_iff, decide_eq_true_eq]
  constructor
  · rintro ⟨j, b, h5, h6, h7⟩
    have : ¬ j < i := fun hj => h4 j b hj h6 h7
    omega
  · intro ht
    exact ⟨i, a, ht, h2, h3⟩
theorem frst_no {gs : List Asg} {t : Nat} {l : List UInt8} (h : frst gs gs.length l = none) : asgB gs t l = false := by
  have h1 := frst_none h
  cases e : asgB gs t l
  · rfl
  · obtain ⟨i, a, h2, h3, h4⟩ := asgB_iff.1 e
    have := asgB_iff.2 ⟨i, a, (List.getElem?_eq_some_iff.1 h3).1, h3, h4⟩
    rw [h1] at this
    cases this

theorem strLaw : Keyed Tryz.prog 9 := string_keyed Tryz.underlying9
theorem keyS {s : ByteArray} (hs : s.size ≤ maxLen) : keyOf Tryz.prog 9 (.string s) = some (.string s.toList) := by
  rw [keyOf_string_mk Tryz.underlying9 hs, Lib.toList_data]
theorem zeroI (w : World) : (zeroValue 3).run Tryz.prog w = .ok (.int .i64 0) w := by kernel_rfl
/-- what the map of first assignments reads as -/
def FirstD (D : DataW Unit) (gs : List Asg) (k : Nat) : Prop :=
  IsMap D ∧ ∀ s : ByteArray, s.size ≤ maxLen → has D (.string s.toList) = (frst gs k s.toList).isSome ∧ ∀ t, frst gs k s.toList = some t → ∀ z, D.atKey (.string s.toList) z = .lit (.int .i64 (t : Nat))
/-- block b is the map of the first of the first k assignments to each name -/
def FM (w : World) (b : Nat) (gs : List Asg) (k : Nat) : Prop := ∃ (n : Nat) (D : DataW Unit), n ≤ k ∧ w.ownsMap Tryz.prog 9 (plainElem Tryz.prog 3) b n D ∧ FirstD D gs k
theorem FM.of_block {w w' : World} {b : Nat} {gs : List Asg} {k : Nat} (h : FM w b gs k) (e : w'.heap[b]? = w.heap[b]?) : FM w' b gs k := by
  obtain ⟨n, D, hn, ⟨es, clock, hb, r⟩, hD⟩ := h
  exact ⟨n, D, hn, ⟨es, clock, by rw [e]; exact hb, r⟩, hD⟩
theorem FM.lt {w : World} {b : Nat} {gs : List Asg} {k : Nat} (h : FM w b gs k) : b < w.heap.size := by
  obtain ⟨n, D, hn, h1, hD⟩ := h
  exact h1.lt
theorem FM.ext {w w' : World} {b : Nat} {gs : List Asg} {k : Nat} (h : FM w b gs k) (e : Ext w w') : FM w' b gs k := h.of_block (e.block h.lt)
theorem FM.made (w : World) (gs : List Asg) : FM (w.alloc (.map #[] 0)) w.heap.size gs 0 :=
  ⟨0, _, Nat.le_refl _, World.ownsMap_made _ _ _ _, isMap_empty, fun s _ => ⟨rfl, fun t h => by simp [frst] at h⟩⟩
/-- a look with 'ok' -/
theorem wpList_first_ok (w : World) {ops : Array Oper} {rest : List Oper} {o : Oper} {a : Act} {Q : Exit → Act → World → Prop} (hg : o.guard = none) (m x : Operand) (hop : o.op = Op.lookup 69 m x true)
    (b k : Nat) (gs : List Asg) (hm : a.eval m = .map (some b)) (h : FM w b gs k) (s : ByteArray) (hs : s.size ≤ maxLen) (hx : a.eval x = .string s) (r : Option Nat) (hr : frst gs k s.toList = r)
    (hK : wpList Tryz.prog ops Q rest (a.put o.dst (.tuple #[.int .i64 ((r.getD 0 : Nat) : Int), .bool r.isSome])) w) : wpList Tryz.prog ops Q (o :: rest) a w := by
  obtain ⟨n, D, hn, hown, hm1, hm2⟩ := h
  obtain ⟨h1, h2⟩ := hm2 s hs
  refine wpList_lookup_own_ok_int w hg m x 69 hop 9 3 .i64 strLaw Tryz.underlying69 Tryz.underlying3 (zeroI _) b n D hm hown _ _ hx (keyS hs) ?_
  intro c hat _
  rw [h1, hr]
  have hc : c = ((r.getD 0 : Nat) : Int) := by
    cases r with
    | none =>
      rw [hr] at h1
      rw [atKey_of_not_has (by simpa using h1)] at hat
      injection hat with hat
      injection hat with _ hat
      rw [← hat]
      rfl
    | some t =>
      rw [h2 t hr] at hat
      injection hat with hat
      injection hat with _ hat
      exact hat.symm
  rw [hc]
  exact hK
/-- a look without -/
theorem wpList_first (w : World) {ops : Array Oper} {rest : List Oper} {o : Oper} {a : Act} {Q : Exit → Act → World → Prop} (hg : o.guard = none) (m x : Operand) (hop : o.op = Op.lookup 69 m x false)
    (b k : Nat) (gs : List Asg) (hm : a.eval m = .map (some b)) (h : FM w b gs k) (s : ByteArray) (hs : s.size ≤ maxLen) (hx : a.eval x = .string s) (t : Nat) (hr : frst gs k s.toList = some t)
    (hK : wpList Tryz.prog ops Q rest (a.put o.dst (.int .i64 (t : Int))) w) : wpList Tryz.prog ops Q (o :: rest) a w := by
  obtain ⟨n, D, hn, hown, hm1, hm2⟩ := h
  obtain ⟨h1, h2⟩ := hm2 s hs
  refine wpList_lookup_own_int w hg m x 69 hop 9 3 .i64 strLaw Tryz.underlying69 Tryz.underlying3 (zeroI _) b n D hm hown _ _ hx (keyS hs) ?_
  intro c hat _
  rw [h2 t hr] at hat
  injection hat with hat
  injection hat with _ hat
  rw [← hat]
  exact hK
theorem FirstD.skip {D : DataW Unit} {gs : List Asg} {k t : Nat} {a : Asg} (h : FirstD D gs k) (ha : gs[k]? = some a) (ht : frst gs k a.name.toList = some t) : FirstD D gs (k + 1) := by
  refine ⟨h.1, fun s hs => ?_⟩
  have e : frst gs (k + 1) s.toList = frst gs k s.toList := by
    rw [frst_succ ha]
    by_cases he : (a.name.toList == s.toList) = true
    · rw [eq_of_beq he] at ht
      rw [ht]
      rfl
    · simp [he]
  rw [e]
  exact h.2 s hs
theorem FirstD.put {D : DataW Unit} {gs : List Asg} {k : Nat} {a : Asg} (h : FirstD D gs k) (ha : gs[k]? = some a) (hn : a.name.size ≤ maxLen) (ht : frst gs k a.name.toList = none) : FirstD (D.put (.string a.name.toList) (.lit (.int .i64 (k : Nat)))) gs (k + 1) := by
  have hkl : WideAt.IsKeyLit (.string a.name.toList) := strLaw.key (keyS hn)
  refine ⟨h.1.put _ _, fun s hs => ?_⟩
  rw [frst_succ ha]
  by_cases he : (a.name.toList == s.toList) = true
  · have e := eq_of_beq he
    rw [← e, ht]
    refine ⟨by rw [has_put_same h.1 hkl]; simp, fun t hts z => ?_⟩
    rw [atKey_put_same h.1 hkl]
    simp at hts
    rw [hts]
  · have hne : Lit.string s.toList ≠ Lit.string a.name.toList := fun e => he (by injection e with e; rw [e]; simp)
    rw [has_put_other hne]
    simp only [he, Bool.false_eq_true, if_false, Option.or_none]
    exact ⟨(h.2 s hs).1, fun t hts z => by rw [atKey_put_other hne]; exact (h.2 s hs).2 t hts z⟩
theorem FM.skip {w : World} {b k t : Nat} {gs : List Asg} {a : Asg} (h : FM w b gs k) (ha : gs[k]? = some a) (ht : frst gs k a.name.toList = some t) : FM w b gs (k + 1) := by
  obtain ⟨n, D, hn, h1, h2⟩ := h
  exact ⟨n, D, by omega, h1, h2.skip ha ht⟩
/-- a new name is stored -/
theorem wpList_first_put (w : World) {ops : Array Oper} {rest : List Oper} {o : Oper} {a : Act} {Q : Exit → Act → World → Prop} (hg : o.guard = none) (m x v : Operand) (hop : o.op = Op.mapUpdate 69 m x v)
    (b k : Nat) (gs : List Asg) (hm : a.eval m = .map (some b)) (h : FM w b gs k) (hk : k ≤ 10000000) (g : Asg) (hgk : gs[k]? = some g) (hs : g.name.size ≤ maxLen) (hx : a.eval x = .string g.name) (hv : a.eval v = .int .i64 (k : Int)) (hr : frst gs k g.name.toList = none)
    (hK : ∀ w', FM w' b gs (k + 1) → w.grownBy w' (some b) → wpList Tryz.prog ops Q rest (a.put o.dst undef) w') : wpList Tryz.prog ops Q (o :: rest) a w := by
  obtain ⟨n, D, hn, hown, hD⟩ := h
  refine wpList_mapUpdate_own w hg m x v 69 hop 9 3 strLaw Tryz.underlying69 _ b n D hm hown (by unfold maxLen; omega) _ _ _ hx hv (keyS hs) (.lit (.int .i64 (k : Int))) [] (plainElem_int Tryz.underlying3 (by simp [Lit.wf, IntKind.min, IntKind.max, IntKind.bits, IntKind.signed]; omega)) ?_
  intro w' h1 h2
  exact hK w' ⟨n + 1, _, by omega, h1, hD.put hgk hs hr⟩ h2
end Go.Proofs.YtaegmenjgjdimaaGreat
end

section
/- This text proves the program's table of first assignments, and what the reference looks up of assignments. -/
namespace Go.Proofs.YtaegmenjgjdimaaGreat
open Go.RowKit Go.Maps Go.WideMaps

set_option maxRecDepth 20000 in
set_option maxHeartbeats 6400000 in
theorem iAssigned_any (lo hi : Nat) (v : Value) (p : Prg) (w : World) (hv : p.R lo hi w v) (hh : hi ≤ w.heap.size) (hb : p.bd) (hgl : p.gs.length ≤ 1048576) :
    Calls Tryz.prog 30 #[v] w fun e w' => (∃ b, e = .returned (.map (some b)) ∧ w.heap.size ≤ b ∧ FM w' b p.gs p.gs.length) ∧ Ext w w' := by
  obtain ⟨a1, c1, a2, c2, rfl, HN, HG⟩ := hv.form
  have l3 := HG.le
  have l4 := HG.cap
  have HBD := hid hb.2
  clear hv hb HN
  have hmm := @run_makeMap Tryz.prog
  go_enter Tryz.func30, Tryz.ntmps30
  go_wp2
  have hM := FM.made (w.alloc (.cells #[.slice a1 p.ns.length c1, .slice a2 p.gs.length c2] 26)) p.gs
  simp only [World.size_alloc] at hM
  go_loopw [12] (fun i wr => ∃ k : Nat, k ≤ p.gs.length ∧ i = .int .i64 k ∧ FM wr (w.heap.size + 1) p.gs k ∧ Ext w wr) (fun i _ => p.gs.length - (intOf i).toNat)
  case atStart => exact ⟨0, by omega, rfl, hM, (by repeat (with_reducible (first | assumption | exact Ext.refl _ | apply Ext.alloc | apply Ext.drew | apply Ext.drewN)))⟩
  case round =>
    clear hM hmm
    obtain ⟨k, hk, rfl, hM, hx⟩ := hrel
    have HX := hid hx
    have HM := hid hM
    have hml := hM.lt
    by_cases hlt : k < p.gs.length
    · obtain ⟨b, off, s, rt, rfl, hb1, hbw, hdrop, hget, ir, y0, y1⟩ := HG.at hlt hx hh
      have hsz := HBD.out _ (List.mem_of_getElem? hget)
      simp only at hsz
      have HG1 := hid hget
      have q0 : Ext wr (wr.alloc (.cells #[.string s, .int .i64 rt] 74)) := (by repeat (with_reducible (first | assumption | exact Ext.refl _ | apply Ext.alloc | apply Ext.drew | apply Ext.drewN)))
      have HMX := hid (hM.ext q0)
      have HXX := hid (hx.trans q0)
      clear hdrop hget hx hM q0
      cases hr : frst p.gs k s.toList with
      | none =>
        have HR := hid hr
        clear hr
        go_wp2_with (first | (at_lookup; refine wpList_first_ok _ rfl _ _ rfl _ _ _ rfl HMX.out _ hsz rfl _ HR.out ?_) | (at_mapUpdate; refine wpList_first_put _ rfl _ _ _ rfl _ _ _ rfl HMX.out (by omega) _ HG1.out hsz rfl rfl HR.out ?_; intro w2 hM2 hg2))
        have HM2 := hid hM2
        have HX2 := hid (HXX.out.grown hg2 (fun k h => by cases h; omega))
        clear hM2 hg2
        go_wp2
        go_roundw
        case rel => exact ⟨k + 1, by omega, by go_num, HM2.out, HX2.out⟩
        case measure => simp [intOf]; omega
      | some t =>
        have HR := hid hr
        clear hr
        go_wp2_with (at_lookup; refine wpList_first_ok _ rfl _ _ rfl _ _ _ rfl HMX.out _ hsz rfl _ HR.out ?_)
        go_roundw
        case rel => exact ⟨k + 1, by omega, by go_num, HMX.out.skip HG1.out HR.out, HXX.out⟩
        case measure => simp [intOf]; omega
    · obtain rfl : k = p.gs.length := by omega
      clear hx hM
      go_wp2
      go_ret
      exact ⟨⟨_, rfl, by omega, HM.out⟩, HX.out⟩
def atB (gs : List Asg) (k : Nat) (l : List UInt8) : Bool := match gs[k]? with | some a => a.name.toList == l | none => false
theorem atB_at {gs : List Asg} {k : Nat} {a : Asg} (h : gs[k]? = some a) (l : List UInt8) : atB gs k l = (a.name.toList == l) := by unfold atB; rw [h]
/-- the last assignment to a name ahead of t, -1: none -/
def lastTo (gs : List Asg) (t : Int) (l : List UInt8) : Nat → Int
  | 0 => -1
  | k + 1 => if (k : Int) < t ∧ atB gs k l = true then (k : Int) else lastTo gs t l k
theorem lastTo_step {gs : List Asg} {t : Int} {l : List UInt8} {k : Nat} {a : Asg} (h : gs[k]? = some a) : lastTo gs t l (k + 1) = if (k : Int) < t ∧ (a.name.toList == l) = true then (k : Int) else lastTo gs t l k := by
  simp only [lastTo, atB_at h]
theorem lastTo_bd (gs : List Asg) (t : Int) (l : List UInt8) : ∀ k, -1 ≤ lastTo gs t l k ∧ lastTo gs t l k < k := by
  intro k
  induction k with
  | zero => simp [lastTo]
  | succ k ih =>
    unfold lastTo
    split
    all_goals omega
theorem lastTo_some {gs : List Asg} {t : Int} {l : List UInt8} : ∀ {k : Nat}, 0 ≤ lastTo gs t l k → ∃ (i : Nat) (a : Asg), lastTo gs t l k = i ∧ i < k ∧ (i : Int) < t ∧ gs[i]? = some a ∧ a.name.toList = l := by
  intro k
  induction k with
  | zero => intro h; simp [lastTo] at h
  | succ k ih =>
    intro h
    unfold lastTo at h ⊢
    by_cases hc : (k : Int) < t ∧ atB gs k l = true
    · rw [if_pos hc]
      cases hg : gs[k]? with
      | none => have := hc.2; unfold atB at this; rw [hg] at this; cases this
      | some a => exact ⟨k, a, rfl, by omega, hc.1, hg, by have := hc.2; rw [atB_at hg] at this; simpa using this⟩
    · rw [if_neg hc] at h ⊢
      obtain ⟨i, a, h1, h2, h3⟩ := ih h
      exact ⟨i, a, h1, by omega, h3⟩
theorem lastTo_none {gs : List Asg} {t : Int} {l : List UInt8} : ∀ {k : Nat}, lastTo gs t l k < 0 → ∀ (i : Nat) (a : Asg), i < k → (i : Int) < t → gs[i]? = some a → a.name.toList ≠ l := by
  intro k
  induction k with
  | zero => intro h i a hi; omega
  | succ k ih =>
    intro h i a hi ht hg
    unfold lastTo at h
    by_cases hc : (k : Int) < t ∧ atB gs k l = true
    · rw [if_pos hc] at h
      omega
    · rw [if_neg hc] at h
      by_cases e : i = k
      · subst e
        intro he
        exact hc ⟨ht, by rw [atB_at hg]; simp [he]⟩
      · exact ih h i a (by omega) ht hg
/-- is there one at all? -/
theorem lastTo_asg (gs : List Asg) (t : Nat) (l : List UInt8) : decide (0 ≤ lastTo gs t l gs.length) = asgB gs t l := by
  rw [Bool.eq_iff_iff, decide_eq_true_eq, asgB_iff]
  constructor
  · intro h
    obtain ⟨i, a, h1, h2, h3, h4, h5⟩ := lastTo_some h
    exact ⟨i, a, by omega, h4, h5⟩
  · rintro ⟨i, a, h1, h2, h3⟩
    by_cases e : 0 ≤ lastTo gs t l gs.length
    · exact e
    · exact absurd h3 (lastTo_none (gs := gs) (t := t) (l := l) (k := gs.length) (by omega) i a (List.getElem?_eq_some_iff.1 h2).1 (by omega) h2)
set_option maxRecDepth 20000 in
set_option maxHeartbeats 6400000 in
theorem sAssigned_any (lo hi : Nat) (v : Value) (p : Prg) (s : ByteArray) (t : Int) (w : World) (hv : p.R lo hi w v) (hh : hi ≤ w.heap.size) (hgl : p.gs.length ≤ 1048576) :
    Calls Tryz.prog 80 #[v, .string s, .int .i64 t] w fun e w' => e = .returned (.int .i64 (lastTo p.gs t s.toList p.gs.length)) ∧ Ext w w' := by
  obtain ⟨a1, c1, a2, c2, rfl, HN, HG⟩ := hv.form
  have l3 := HG.le
  have l4 := HG.cap
  clear hv HN
  go_enter Tryz.func80, Tryz.ntmps80
  go_wp2
  go_loopw [7, 13] (fun q i wr => ∃ k : Nat, k ≤ p.gs.length ∧ i = .int .i64 k ∧ q = .int .i64 (lastTo p.gs t s.toList k) ∧ Ext w wr) (fun _ i _ => p.gs.length - (intOf i).toNat)
  case atStart => exact ⟨0, by omega, rfl, rfl, (by repeat (with_reducible (first | assumption | exact Ext.refl _ | apply Ext.alloc | apply Ext.drew | apply Ext.drewN)))⟩
  case round =>
    obtain ⟨k, hk, rfl, rfl, hx⟩ := hrel
    have HX := hid hx
    by_cases hlt : k < p.gs.length
    · obtain ⟨b, off, s2, rt, rfl, hb1, hbw, hdrop, hget, ir, y0, y1⟩ := HG.at hlt hx hh
      have HS := hid (lastTo_step (t := t) (l := s.toList) hget)
      have HXX := hid (show Ext w (wr.alloc (.cells #[.string s2, .int .i64 rt] 74)) from (by repeat (with_reducible (first | assumption | exact Ext.refl _ | apply Ext.alloc | apply Ext.drew | apply Ext.drewN))))
      clear hdrop hget hx
      by_cases ht : (k : Int) < t
      · cases he : (s2.toList == s.toList)
        · have HE := hid he
          go_wp2
          go_roundw
          case rel => exact ⟨k + 1, by omega, by go_num, by rw [HS.out]; simp [HE.out], HXX.out⟩
          case measure => simp [intOf]; omega
        · have HE := hid he
          go_wp2
          go_roundw
          case rel => exact ⟨k + 1, by omega, by go_num, by rw [HS.out]; simp only [HE.out, ht, and_self, if_true], HXX.out⟩
          case measure => simp [intOf]; omega
      · go_wp2
        go_roundw
        case rel => exact ⟨k + 1, by omega, by go_num, by rw [HS.out, if_neg (fun h => by omega)], HXX.out⟩
        case measure => simp [intOf]; omega
    · obtain rfl : k = p.gs.length := by omega
      clear hx
      go_wp2
      go_ret
      exact ⟨rfl, HX.out⟩
end Go.Proofs.YtaegmenjgjdimaaGreat
end

section
/- This text proves the reference's look for a node with an unknown name. -/
namespace Go.Proofs.YtaegmenjgjdimaaGreat
open Go.RowKit

/-- the name of node k is known -/
noncomputable def Prg.nameB (p : Prg) (k : Nat) : Bool := match p.ns[k]? with | some x => if x.op = 2 then isVar x.name || asgB p.gs (p.own k) x.name.toList else if x.op = 8 then decide (0 ≤ arity x.name) else true | none => true
theorem Prg.nameB_at {p : Prg} {k : Nat} {x : Nd} (h : p.ns[k]? = some x) : p.nameB k = if x.op = 2 then isVar x.name || asgB p.gs (p.own k) x.name.toList else if x.op = 8 then decide (0 ≤ arity x.name) else true := by unfold Prg.nameB; rw [h]
theorem ownL_at {p : Prg} {k : Nat} {y : Int} (h : p.ownL[k]? = some y) : y = p.own k := by
  unfold Prg.ownL at h
  rw [List.getElem?_map] at h
  cases hk : (List.range p.ns.length)[k]? with
  | none => rw [hk] at h; cases h
  | some j =>
    have hj := (List.getElem?_eq_some_iff.1 hk)
    rw [hk] at h
    obtain ⟨h1, h2⟩ := hj
    simp at h2
    subst h2
    simpa using h.symm
theorem sAssigned_val {gs : List Asg} {t : Nat} {s : ByteArray} {z : Int} (hz : lastTo gs t s.toList gs.length = z) (lo hi : Nat) (v : Value) (p : Prg) (w : World) (hp : p.gs = gs) (hv : p.R lo hi w v) (hh : hi ≤ w.heap.size) (hgl : p.gs.length ≤ 1048576) :
    Calls Tryz.prog 80 #[v, .string s, .int .i64 t] w fun e w' => e = .returned (.int .i64 z) ∧ Ext w w' := by
  subst hp
  exact hz ▸ sAssigned_any lo hi v p s t w hv hh hgl
set_option maxRecDepth 20000 in
set_option maxHeartbeats 12800000 in
theorem sNames_any (lo hi : Nat) (v : Value) (p : Prg) (w : World) (hv : p.R lo hi w v) (hh : hi ≤ w.heap.size) (hp : p.V) (hgl : p.gs.length ≤ 1048576) :
    Calls Tryz.prog 77 #[v] w fun e w' => (∃ i : Int, e = .returned (.int .i64 i) ∧ decide (0 ≤ i) = !((List.range p.ns.length).all p.nameB)) ∧ Ext w w' := by
  have HV := hid hv
  obtain ⟨a1, c1, a2, c2, rfl, HN, HG⟩ := hv.form
  have l1 := HN.le
  have l2 := HN.cap
  have l3 := HG.le
  have l4 := HG.cap
  have l5 := hp.len
  clear hv
  have x0 : Ext w (w.alloc (.cells #[.slice a1 p.ns.length c1, .slice a2 p.gs.length c2] 26)) := (by repeat (with_reducible (first | assumption | exact Ext.refl _ | apply Ext.alloc | apply Ext.drew | apply Ext.drewN)))
  have bB := Bx.made w #[.slice a1 p.ns.length c1, .slice a2 p.gs.length c2] 26
  go_enter Tryz.func77, Tryz.ntmps77
  go_wp2_with fail
  refine (sOwners_any lo hi _ p _ (HV.out.ext hh x0) (Nat.le_trans hh x0.size) hp hgl).mono ?_
  rintro e w1 ⟨⟨oa, oc, rfl, hO⟩, x1⟩
  have hI := hO.ints
  obtain ⟨oa', oc', e1, HO⟩ := hI.open
  rw [Prg.ownL_len] at e1
  simp only [Value.slice.injEq, true_and] at e1
  obtain ⟨rfl, rfl⟩ := e1
  have lo1 := HO.le
  have lo2 := HO.cap
  rw [Prg.ownL_len] at lo1
  have bB1 := bB.ext x1
  have HB1 := hid bB1
  have X1 := hid (x0.trans x1)
  have q := bB1.lt
  have q0 := bB1.cell 0
  simp only [List.getElem?_toArray, List.getElem?_cons_zero, List.getElem?_cons_succ] at q0
  have q1 := bB1.cell 1
  simp only [List.getElem?_toArray, List.getElem?_cons_zero, List.getElem?_cons_succ] at q1
  clear x1 x0 bB bB1 hO hI
  go_wp2
  go_loopw [11] (fun i wr => ∃ k : Nat, k ≤ p.ns.length ∧ i = .int .i64 k ∧ (∀ j, j < k → p.nameB j = true) ∧ Bx wr w.heap.size #[.slice a1 p.ns.length c1, .slice a2 p.gs.length c2] 26 ∧ Ext w wr ∧ Ext w1 wr) (fun i _ => p.ns.length - (intOf i).toNat)
  case atStart => exact ⟨0, by omega, rfl, fun j h => by omega, HB1.out, X1.out, Ext.refl _⟩
  case round =>
    clear HB1 X1 q q0 q1
    obtain ⟨k, hk, rfl, hall, hB, hx, hx1⟩ := hrel
    have HA := hid hall
    have HX := hid hx
    have HX1 := hid hx1
    by_cases hlt : k < p.ns.length
    · obtain ⟨b, off, op, s, num, sa, sc, ra, rfl, hb1, hbw, hget, io, inn, hI, HI, y0, y1, y2, y3⟩ := HN.atW hlt hx hh
      have li1 := HI.le
      have li2 := HI.cap
      obtain ⟨ob, oo, oy, rfl, hob, hoy, _, hoc⟩ := HO.atE (k := k) (by rw [Prg.ownL_len]; exact hlt) hx1 (Nat.le_refl _)
      have e9 := ownL_at hoy
      subst e9
      have q0 : Ext wr (wr.alloc (.cells #[.int .i64 op, .string s, .int .i64 num, .slice sa ra.length sc] 79)) := (by repeat (with_reducible (first | assumption | exact Ext.refl _ | apply Ext.alloc | apply Ext.drew | apply Ext.drewN)))
      have HND := hid (Prg.nameB_at hget)
      have HBW := hid (hB.ext q0)
      have hVW := HV.out.ext hh (hx.trans q0)
      have HVW := hid hVW
      have zx := hx.size
      clear hget hall hB hx hx1 hI hoy hVW
      rcases (show op = 2 ∨ op = 8 ∨ (op ≠ 2 ∧ op ≠ 8) by omega) with rfl | rfl | ⟨o2, o8⟩
      · cases hv : isVar s
        · obtain ⟨z, hz⟩ : ∃ z, lastTo p.gs (p.own k) s.toList p.gs.length = z := ⟨_, rfl⟩
          have HZ := hid hz
          have HVR := hid hv
          have HND2 : Hid (p.nameB k = asgB p.gs (p.own k) s.toList) := hid (by rw [HND.out, if_pos rfl, hv]; rfl)
          clear HND
          have hbw := HBW.out
          have d := hbw.lt
          have d0 := hbw.cell 0
          simp only [List.getElem?_toArray, List.getElem?_cons_zero, List.getElem?_cons_succ] at d0
          have d1 := hbw.cell 1
          simp only [List.getElem?_toArray, List.getElem?_cons_zero, List.getElem?_cons_succ] at d1
          clear hz hv hbw
          have hob' : ob ≤ wr.heap.size := by omega
          have hob2 : ob < wr.heap.size + 1 := by omega
          have hbb2 : w.heap.size < wr.heap.size + 1 := by omega
          go_wp2_with fail
          refine wp_region_stages [([0, 1, 2, 3, 4, 5], 6), ([7, 8, 9, 10, 11, 12, 13, 14, 15, 16], 17), ([18], 19)] 99 (wr.heap.size + 1) (by kernel_rfl) (by kernel_rfl) ?_
          refine wpStages_cons ?_
          simp only [List.filterMap_cons, List.filterMap_nil, List.getElem?_toArray, List.getElem?_cons_zero, List.getElem?_cons_succ]
          show wpQuiet _ _ _ _ [_, _, _, _, _, _] _
          repeat (go_big_quiet_step (fail))
          refine wpQuiet_nil ⟨_, rfl, fun K hK => ?_⟩
          go_wp2_with fail
          refine (sIsVariable_val HVR.out _).mono ?_
          rintro e w2 ⟨rfl, x1⟩
          have X2 : Ext (wr.alloc (.cells #[.int .i64 2, .string s, .int .i64 num, .slice sa ra.length sc] 79)) w2 := Ext.trans (by repeat (with_reducible (first | assumption | exact Ext.refl _ | apply Ext.alloc | apply Ext.drew | apply Ext.drewN))) x1
          go_wp2_with fail
          refine hK _ _ (.inr (fun k _ hk => x1.block (by first | omega | (simp; omega)))) ?_
          clear hK K
          refine wpStages_cons ?_
          simp only [List.filterMap_cons, List.filterMap_nil, List.getElem?_toArray, List.getElem?_cons_zero, List.getElem?_cons_succ]
          show wpQuiet _ _ _ _ [_, _, _, _, _, _, _, _, _, _] _
          try simp only [Act.put, List.setIfInBounds_toArray, List.set_cons_succ, List.set_cons_zero]
          repeat (go_big_quiet_step (fail))
          refine wpQuiet_nil ⟨_, rfl, fun K hK => ?_⟩
          go_wp2_with fail
          refine (sAssigned_val HZ.out lo hi _ p _ rfl (HVW.out.ext (by simp; omega) (by repeat (with_reducible (first | assumption | exact Ext.refl _ | apply Ext.alloc | apply Ext.drew | apply Ext.drewN)))) (by have := X2.size; simp at this ⊢; omega) hgl).mono ?_
          rintro e w3 ⟨rfl, x3⟩
          have X3 := X2.trans x3
          go_wp2_with fail
          refine hK _ _ (.inr (fun k _ hk => X3.block (by first | omega | (simp; omega)))) ?_
          clear hK K
          have hb4 := HBW.out.ext X3
          have HX3 := hid ((HX.out.trans q0).trans X3)
          have HX4 := hid ((HX1.out.trans q0).trans X3)
          have HB4 := hid hb4
          have hxb := ((Bx.made wr #[.int .i64 2, .string s, .int .i64 num, .slice sa ra.length sc] 79).ext X3)
          have hza := lastTo_asg p.gs (p.own k) s.toList
          rw [HZ.out] at hza
          have HZA := hid hza
          have c := hxb.lt
          have c0 := hxb.cell 0
          simp only [List.getElem?_toArray, List.getElem?_cons_zero, List.getElem?_cons_succ] at c0
          have c1 := hxb.cell 1
          simp only [List.getElem?_toArray, List.getElem?_cons_zero, List.getElem?_cons_succ] at c1
          have c2 := hxb.cell 2
          simp only [List.getElem?_toArray, List.getElem?_cons_zero, List.getElem?_cons_succ] at c2
          have c3 := hxb.cell 3
          simp only [List.getElem?_toArray, List.getElem?_cons_zero, List.getElem?_cons_succ] at c3
          clear hb4 hxb hza
          by_cases hz0 : z < 0
          · have HN : Hid (p.nameB k = false) := hid (by rw [HND2.out, ← HZA.out]; simp; omega)
            refine wpStages_cons ?_
            simp only [List.filterMap_cons, List.filterMap_nil, List.getElem?_toArray, List.getElem?_cons_zero, List.getElem?_cons_succ]
            show wpQuiet _ _ _ _ [_] _
            try simp only [Act.put, List.setIfInBounds_toArray, List.set_cons_succ, List.set_cons_zero]
            repeat (go_big_quiet_step (fail))
            refine wpQuiet_nil ⟨_, rfl, fun K hK => ?_⟩
            go_wp2_with fail
            go_wp2_with fail
            refine hK _ _ (.inr (fun k _ hk => X3.block (by first | omega | (simp; omega)))) ?_
            clear hK K
            refine wpStages_nil ?_
            go_wp2
            go_ret
            exact ⟨⟨_, rfl, by rw [rng_no hlt HN.out]; simp⟩, HX3.out⟩
          · have HN : Hid (p.nameB k = true) := hid (by rw [HND2.out, ← HZA.out]; simp; omega)
            refine wpStages_cons ?_
            simp only [List.filterMap_cons, List.filterMap_nil, List.getElem?_toArray, List.getElem?_cons_zero, List.getElem?_cons_succ]
            show wpQuiet _ _ _ _ [_] _
            try simp only [Act.put, List.setIfInBounds_toArray, List.set_cons_succ, List.set_cons_zero]
            repeat (go_big_quiet_step (fail))
            refine wpQuiet_nil ⟨_, rfl, fun K hK => ?_⟩
            go_wp2_with fail
            go_wp2_with fail
            refine hK _ _ (.inr (fun k _ hk => X3.block (by first | omega | (simp; omega)))) ?_
            clear hK K
            refine wpStages_nil ?_
            go_wp2
            go_roundw
            case rel =>
              refine ⟨k + 1, by omega, by go_num, fun i hi => ?_, HB4.out, HX3.out, HX4.out⟩
              by_cases e : i = k
              · subst e; exact HN.out
              · exact HA.out i (by omega)
            case measure => simp [intOf]; omega
        · have HN : Hid (p.nameB k = true) := hid (by rw [HND.out, if_pos rfl, hv]; rfl)
          have HVR := hid hv
          clear hv
          go_wp2_with fail
          refine wp_region_stages [([0, 1, 2, 3, 4, 5], 6), ([7, 8, 9, 10, 11, 12, 13, 14, 15, 16], 17), ([18], 19)] 99 (wr.heap.size + 1) (by kernel_rfl) (by kernel_rfl) ?_
          refine wpStages_cons ?_
          simp only [List.filterMap_cons, List.filterMap_nil, List.getElem?_toArray, List.getElem?_cons_zero, List.getElem?_cons_succ]
          show wpQuiet _ _ _ _ [_, _, _, _, _, _] _
          repeat (go_big_quiet_step (fail))
          refine wpQuiet_nil ⟨_, rfl, fun K hK => ?_⟩
          go_wp2_with fail
          refine (sIsVariable_val HVR.out _).mono ?_
          rintro e w2 ⟨rfl, x1⟩
          have X2 : Ext (wr.alloc (.cells #[.int .i64 2, .string s, .int .i64 num, .slice sa ra.length sc] 79)) w2 := Ext.trans (by repeat (with_reducible (first | assumption | exact Ext.refl _ | apply Ext.alloc | apply Ext.drew | apply Ext.drewN))) x1
          go_wp2_with fail
          refine hK _ _ (.inr (fun k _ hk => X2.block (by first | omega | (simp; omega)))) ?_
          clear hK K
          have HX3 := hid ((HX.out.trans q0).trans X2)
          have HX4 := hid ((HX1.out.trans q0).trans X2)
          have HB4 := hid (HBW.out.ext X2)
          have hxb := ((Bx.made wr #[.int .i64 2, .string s, .int .i64 num, .slice sa ra.length sc] 79).ext X2)
          have c := hxb.lt
          have c0 := hxb.cell 0
          simp only [List.getElem?_toArray, List.getElem?_cons_zero, List.getElem?_cons_succ] at c0
          have c1 := hxb.cell 1
          simp only [List.getElem?_toArray, List.getElem?_cons_zero, List.getElem?_cons_succ] at c1
          have c2 := hxb.cell 2
          simp only [List.getElem?_toArray, List.getElem?_cons_zero, List.getElem?_cons_succ] at c2
          have c3 := hxb.cell 3
          simp only [List.getElem?_toArray, List.getElem?_cons_zero, List.getElem?_cons_succ] at c3
          clear hxb
          refine wpStages_cons ?_
          simp only [List.filterMap_cons, List.filterMap_nil, List.getElem?_toArray, List.getElem?_cons_zero, List.getElem?_cons_succ]
          show wpQuiet _ _ _ _ [_, _, _, _, _, _, _, _, _, _] _
          try simp only [Act.put, List.setIfInBounds_toArray, List.set_cons_succ, List.set_cons_zero]
          repeat (go_big_quiet_step (fail))
          refine wpQuiet_nil ⟨_, rfl, fun K hK => ?_⟩
          go_wp2_with fail
          go_wp2_with fail
          refine hK _ _ (.inr (fun k _ hk => X2.block (by first | omega | (simp; omega)))) ?_
          clear hK K
          refine wpStages_cons ?_
          simp only [List.filterMap_cons, List.filterMap_nil, List.getElem?_toArray, List.getElem?_cons_zero, List.getElem?_cons_succ]
          show wpQuiet _ _ _ _ [_] _
          try simp only [Act.put, List.setIfInBounds_toArray, List.set_cons_succ, List.set_cons_zero]
          repeat (go_big_quiet_step (fail))
          refine wpQuiet_nil ⟨_, rfl, fun K hK => ?_⟩
          go_wp2_with fail
          go_wp2_with fail
          refine hK _ _ (.inr (fun k _ hk => X2.block (by first | omega | (simp; omega)))) ?_
          clear hK K
          refine wpStages_nil ?_
          go_wp2
          go_roundw
          case rel =>
            refine ⟨k + 1, by omega, by go_num, fun i hi => ?_, HB4.out, HX3.out, HX4.out⟩
            by_cases e : i = k
            · subst e; exact HN.out
            · exact HA.out i (by omega)
          case measure => simp [intOf]; omega
      · obtain ⟨z, hz⟩ : ∃ z, arity s = z := ⟨_, rfl⟩
        have HZ := hid hz
        have HN : Hid (p.nameB k = decide (0 ≤ z)) := hid (by rw [HND.out, hz]; rfl)
        have HX3 := hid (HX.out.trans q0)
        have HX4 := hid (HX1.out.trans q0)
        clear hz
        go_wp2_with fail
        refine wp_region_stages [([0, 1, 2, 3, 4, 5], 6), ([7, 8, 9, 10, 11, 12, 13, 14, 15, 16], 17), ([18], 19)] 99 (wr.heap.size + 1) (by kernel_rfl) (by kernel_rfl) ?_
        refine wpStages_cons ?_
        simp only [List.filterMap_cons, List.filterMap_nil, List.getElem?_toArray, List.getElem?_cons_zero, List.getElem?_cons_succ]
        show wpQuiet _ _ _ _ [_, _, _, _, _, _] _
        repeat (go_big_quiet_step (fail))
        refine wpQuiet_nil ⟨_, rfl, fun K hK => ?_⟩
        go_wp2_with fail
        go_wp2_with fail
        refine hK _ _ (.inr (fun k _ hk => Ext.block (by repeat (with_reducible (first | assumption | exact Ext.refl _ | apply Ext.alloc | apply Ext.drew | apply Ext.drewN))) (by first | omega | (simp; omega)))) ?_
        clear hK K
        refine wpStages_cons ?_
        simp only [List.filterMap_cons, List.filterMap_nil, List.getElem?_toArray, List.getElem?_cons_zero, List.getElem?_cons_succ]
        show wpQuiet _ _ _ _ [_, _, _, _, _, _, _, _, _, _] _
        try simp only [Act.put, List.setIfInBounds_toArray, List.set_cons_succ, List.set_cons_zero]
        repeat (go_big_quiet_step (fail))
        refine wpQuiet_nil ⟨_, rfl, fun K hK => ?_⟩
        go_wp2_with fail
        go_wp2_with fail
        refine hK _ _ (.inr (fun k _ hk => Ext.block (by repeat (with_reducible (first | assumption | exact Ext.refl _ | apply Ext.alloc | apply Ext.drew | apply Ext.drewN))) (by first | omega | (simp; omega)))) ?_
        clear hK K
        refine wpStages_cons ?_
        simp only [List.filterMap_cons, List.filterMap_nil, List.getElem?_toArray, List.getElem?_cons_zero, List.getElem?_cons_succ]
        show wpQuiet _ _ _ _ [_] _
        try simp only [Act.put, List.setIfInBounds_toArray, List.set_cons_succ, List.set_cons_zero]
        repeat (go_big_quiet_step (fail))
        refine wpQuiet_nil ⟨_, rfl, fun K hK => ?_⟩
        go_wp2_with fail
        go_wp2_with fail
        refine hK _ _ (.inr (fun k _ hk => Ext.block (by repeat (with_reducible (first | assumption | exact Ext.refl _ | apply Ext.alloc | apply Ext.drew | apply Ext.drewN))) (by first | omega | (simp; omega)))) ?_
        clear hK K
        refine wpStages_nil ?_
        go_wp2_with fail
        refine (sArity_val HZ.out _).mono ?_
        rintro e w3 ⟨rfl, rfl⟩
        by_cases hz0 : 0 ≤ z
        · have HN2 := hid (HN.out.trans (decide_eq_true hz0))
          clear HN
          go_wp2
          go_roundw
          case rel =>
            refine ⟨k + 1, by omega, by go_num, fun i hi => ?_, HBW.out.ext ((Ext.refl _).drew), HX3.out.drew, HX4.out.drew⟩
            by_cases e : i = k
            · subst e; exact HN2.out
            · exact HA.out i (by omega)
          case measure => simp [intOf]; omega
        · have HN2 := hid (HN.out.trans (decide_eq_false hz0))
          clear HN
          go_wp2
          go_ret
          exact ⟨⟨_, rfl, by rw [rng_no hlt HN2.out]; simp⟩, HX3.out.drew⟩
      · have e2 : (op == 2) = false := beq_eq_false_iff_ne.2 o2
        have e8 : (op == 8) = false := beq_eq_false_iff_ne.2 o8
        have HN : Hid (p.nameB k = true) := hid (by rw [HND.out, if_neg o2, if_neg o8])
        have HX3 := hid (HX.out.trans q0)
        have HX4 := hid (HX1.out.trans q0)
        clear HND
        go_wp2_with fail
        refine wp_region_stages [([0, 1, 2, 3, 4, 5], 6), ([7, 8, 9, 10, 11, 12, 13, 14, 15, 16], 17), ([18], 19)] 99 (wr.heap.size + 1) (by kernel_rfl) (by kernel_rfl) ?_
        refine wpStages_cons ?_
        simp only [List.filterMap_cons, List.filterMap_nil, List.getElem?_toArray, List.getElem?_cons_zero, List.getElem?_cons_succ]
        show wpQuiet _ _ _ _ [_, _, _, _, _, _] _
        repeat (go_big_quiet_step (fail))
        refine wpQuiet_nil ⟨_, rfl, fun K hK => ?_⟩
        go_wp2_with fail
        go_wp2_with fail
        refine hK _ _ (.inr (fun k _ hk => Ext.block (by repeat (with_reducible (first | assumption | exact Ext.refl _ | apply Ext.alloc | apply Ext.drew | apply Ext.drewN))) (by first | omega | (simp; omega)))) ?_
        clear hK K
        refine wpStages_cons ?_
        simp only [List.filterMap_cons, List.filterMap_nil, List.getElem?_toArray, List.getElem?_cons_zero, List.getElem?_cons_succ]
        show wpQuiet _ _ _ _ [_, _, _, _, _, _, _, _, _, _] _
        try simp only [Act.put, List.setIfInBounds_toArray, List.set_cons_succ, List.set_cons_zero]
        repeat (go_big_quiet_step (fail))
        refine wpQuiet_nil ⟨_, rfl, fun K hK => ?_⟩
        go_wp2_with fail
        go_wp2_with fail
        refine hK _ _ (.inr (fun k _ hk => Ext.block (by repeat (with_reducible (first | assumption | exact Ext.refl _ | apply Ext.alloc | apply Ext.drew | apply Ext.drewN))) (by first | omega | (simp; omega)))) ?_
        clear hK K
        refine wpStages_cons ?_
        simp only [List.filterMap_cons, List.filterMap_nil, List.getElem?_toArray, List.getElem?_cons_zero, List.getElem?_cons_succ]
        show wpQuiet _ _ _ _ [_] _
        try simp only [Act.put, List.setIfInBounds_toArray, List.set_cons_succ, List.set_cons_zero]
        repeat (go_big_quiet_step (fail))
        refine wpQuiet_nil ⟨_, rfl, fun K hK => ?_⟩
        go_wp2_with fail
        go_wp2_with fail
        refine hK _ _ (.inr (fun k _ hk => Ext.block (by repeat (with_reducible (first | assumption | exact Ext.refl _ | apply Ext.alloc | apply Ext.drew | apply Ext.drewN))) (by first | omega | (simp; omega)))) ?_
        clear hK K
        refine wpStages_nil ?_
        go_wp2
        go_roundw
        case rel =>
          refine ⟨k + 1, by omega, by go_num, fun i hi => ?_, HBW.out.ext ((Ext.refl _).drew), HX3.out.drew, HX4.out.drew⟩
          by_cases e : i = k
          · subst e; exact HN.out
          · exact HA.out i (by omega)
        case measure => simp [intOf]; omega
    · obtain rfl : k = p.ns.length := by omega
      have HN := hid (rng_all HA.out)
      clear hall hB hx hx1
      go_wp2
      go_ret
      exact ⟨⟨_, rfl, by rw [HN.out]; rfl⟩, HX.out⟩
end Go.Proofs.YtaegmenjgjdimaaGreat
end
