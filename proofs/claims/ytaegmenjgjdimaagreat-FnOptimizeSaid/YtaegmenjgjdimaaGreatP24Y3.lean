/- Texts of this claim, one behind another: Ow7, Ow8, Ow9, FnT, Ev1, PlanX, Ev2, Ev3, Pr2, Pr3, Ev4, Ev5, Ev6, Cp0, Cp1, Cp3, Cp4. -/
import Derived.Test.YtaegmenjgjdimaaGreatP24Y2
import Derived.Test.YtaegmenjgjdimaaGreatP24Y1
import Derived.Test.YtaegmenjgjdimaaGreatSh15
import Derived.Test.YtaegmenjgjdimaaGreatPlan
import Derived.Test.YtaegmenjgjdimaaGreatStrB
set_option linter.unusedSimpArgs false
set_option linter.unusedVariables false
section
/- This text proves the reference's Check, as far as it says that a program passes. -/
namespace Go.Proofs.YtaegmenjgjdimaaGreat
open Go.RowKit

def Prg.arB (p : Prg) (k : Nat) : Bool := match p.ns[k]? with | some x => if x.op = 8 then decide (arity x.name = x.args.length) else true | none => true
def Prg.asB (p : Prg) (k : Nat) : Bool := match p.gs[k]? with | some x => !(isVar x.name) && !(asgB p.gs k x.name.toList) | none => true
def Prg.colB (p : Prg) : Bool := asgB p.gs p.gs.length [99, 111, 108, 111, 114]
/-- a program passes the checks -/
noncomputable def Prg.chkB (p : Prg) : Bool := p.okB && (List.range p.ns.length).all p.nameB && (List.range p.ns.length).all p.arB && (List.range p.gs.length).all p.asB && p.colB
theorem Prg.arB_at {p : Prg} {k : Nat} {x : Nd} (h : p.ns[k]? = some x) : p.arB k = if x.op = 8 then decide (arity x.name = x.args.length) else true := by unfold Prg.arB; rw [h]
theorem Prg.asB_at {p : Prg} {k : Nat} {x : Asg} (h : p.gs[k]? = some x) : p.asB k = (!(isVar x.name) && !(asgB p.gs k x.name.toList)) := by unfold Prg.asB; rw [h]
theorem sIsValidProgram_val {p : Prg} {b : Bool} (h : p.okB = b) (lo hi : Nat) (v : Value) (w : World) (hv : p.R lo hi w v) (hh : hi ≤ w.heap.size) (hb : p.bd) (hnl : p.ns.length ≤ 1048576) (hgl : p.gs.length ≤ 1048576) :
    Calls Tryz.prog 76 #[v] w fun e w' => e = .returned (.bool b) ∧ Ext w w' := h ▸ sIsValidProgram_any lo hi v p w hv hh hb hnl hgl
theorem colS : (⟨#[99, 111, 108, 111, 114]⟩ : ByteArray).toList = [99, 111, 108, 111, 114] := by rw [Lib.toList_data]
set_option maxRecDepth 20000 in
set_option maxHeartbeats 12800000 in
theorem sCheck_any (lo hi : Nat) (v : Value) (p : Prg) (w : World) (hv : p.R lo hi w v) (hh : hi ≤ w.heap.size) (hb : p.bd) (hnl : p.ns.length ≤ 1048576) (hgl : p.gs.length ≤ 1048576) :
    Calls Tryz.prog 47 #[v] w fun e w' => (∃ c k : Int, e = .returned (.tuple #[.int .i64 c, .int .i64 k]) ∧ (c == 0) = p.chkB) ∧ Ext w w' := by
  have HV := hid hv
  obtain ⟨a1, c1, a2, c2, rfl, HN, HG⟩ := hv.form
  have l1 := HN.le
  have l2 := HN.cap
  have l3 := HG.le
  have l4 := HG.cap
  have HBD := hid hb
  clear hv hb
  have x0 : Ext w (w.alloc (.cells #[.slice a1 p.ns.length c1, .slice a2 p.gs.length c2] 26)) := (by repeat (with_reducible (first | assumption | exact Ext.refl _ | apply Ext.alloc | apply Ext.drew | apply Ext.drewN)))
  have bB := Bx.made w #[.slice a1 p.ns.length c1, .slice a2 p.gs.length c2] 26
  cases hok : p.okB
  · have HOK := hid hok
    have HC : Hid (p.chkB = false) := hid (by unfold Prg.chkB; rw [hok]; rfl)
    clear hok
    go_enter Tryz.func47, Tryz.ntmps47
    go_wp2_with fail
    refine (sIsValidProgram_val HOK.out lo hi _ _ (HV.out.ext hh x0) (Nat.le_trans hh x0.size) HBD.out hnl hgl).mono ?_
    rintro e w1 ⟨rfl, x1⟩
    have X1 := x0.trans x1
    go_wp2
    refine bodyPost_ret (v := .tuple #[.int .i64 1, .int .i64 0]) (by simp [results, Tryz.results47, go_sem]) rfl ⟨⟨_, _, rfl, by rw [HC.out]; rfl⟩, X1⟩
  have HP := hid (Prg.okB_V hok)
  have l5 := HP.out.len
  have HOK := hid hok
  clear hok
  go_enter Tryz.func47, Tryz.ntmps47
  go_wp2_with fail
  refine (sIsValidProgram_val HOK.out lo hi _ _ (HV.out.ext hh x0) (Nat.le_trans hh x0.size) HBD.out hnl hgl).mono ?_
  rintro e w1 ⟨rfl, x1⟩
  have X1 := x0.trans x1
  have bB1 := bB.ext x1
  have q := bB1.lt
  have q0 := bB1.cell 0
  simp only [List.getElem?_toArray, List.getElem?_cons_zero, List.getElem?_cons_succ] at q0
  have q1 := bB1.cell 1
  simp only [List.getElem?_toArray, List.getElem?_cons_zero, List.getElem?_cons_succ] at q1
  clear x0 x1 bB
  go_wp2_with fail
  refine (sNames_any lo hi _ p _ (HV.out.ext hh X1) (Nat.le_trans hh X1.size) HP.out hgl).mono ?_
  rintro e w2 ⟨⟨i, rfl, hi2⟩, x2⟩
  have X2 := X1.trans x2
  have bB2 := bB1.ext x2
  have HI := hid hi2
  clear x2 bB1 X1 q q0 q1 hi2
  by_cases hi0 : 0 ≤ i
  · have HC : Hid (p.chkB = false) := hid (by
      have := HI.out
      rw [decide_eq_true hi0] at this
      unfold Prg.chkB
      have e : (List.range p.ns.length).all p.nameB = false := by revert this; cases (List.range p.ns.length).all p.nameB <;> simp
      rw [e]; simp)
    go_wp2
    refine bodyPost_ret (v := .tuple #[.int .i64 2, .int .i64 i]) (by simp [results, Tryz.results47, go_sem]) rfl ⟨⟨_, _, rfl, by rw [HC.out]; rfl⟩, X2⟩
  have HNM : Hid ((List.range p.ns.length).all p.nameB = true) := hid (by
    have := HI.out
    rw [decide_eq_false hi0] at this
    revert this; cases (List.range p.ns.length).all p.nameB <;> simp)
  clear HI
  have q := bB2.lt
  have q0 := bB2.cell 0
  simp only [List.getElem?_toArray, List.getElem?_cons_zero, List.getElem?_cons_succ] at q0
  have q1 := bB2.cell 1
  simp only [List.getElem?_toArray, List.getElem?_cons_zero, List.getElem?_cons_succ] at q1
  have HB2 := hid bB2
  have HX2 := hid X2
  clear bB2 X2
  go_wp2
  go_loopw [20] (fun i wr => ∃ k : Nat, k ≤ p.ns.length ∧ i = .int .i64 k ∧ (∀ j, j < k → p.arB j = true) ∧ Bx wr w.heap.size #[.slice a1 p.ns.length c1, .slice a2 p.gs.length c2] 26 ∧ Ext w wr) (fun i _ => p.ns.length - (intOf i).toNat)
  case atStart => exact ⟨0, by omega, rfl, fun j h => by omega, HB2.out, HX2.out⟩
  case round =>
    clear HB2 HX2 q q0 q1 hi0
    obtain ⟨k, hk, rfl, hall, hB, hx⟩ := hrel
    have HA := hid hall
    have HX := hid hx
    have HB := hid hB
    by_cases hlt : k < p.ns.length
    · obtain ⟨b, off, op, s, num, sa, sc, ra, rfl, hb1, hbw, hget, io, inn, hI, HI, y0, y1, y2, y3⟩ := HN.atW hlt hx hh
      have li1 := HI.le
      have li2 := HI.cap
      have q0 : Ext wr (wr.alloc (.cells #[.int .i64 op, .string s, .int .i64 num, .slice sa ra.length sc] 79)) := (by repeat (with_reducible (first | assumption | exact Ext.refl _ | apply Ext.alloc | apply Ext.drew | apply Ext.drewN)))
      have HND := hid (Prg.arB_at hget)
      have HX3 := hid (hx.trans q0)
      have HB3 := hid (hB.ext q0)
      clear hget hall hB hx hI HX HB
      by_cases o8 : op = 8
      · subst o8
        obtain ⟨z, hz⟩ : ∃ z, arity s = z := ⟨_, rfl⟩
        have HZ := hid hz
        have HN2 : Hid (p.arB k = decide (z = ra.length)) := hid (by rw [HND.out, hz]; rfl)
        clear HND hz
        go_wp2_with fail
        refine wp_region_stages [([0, 1, 2, 3, 4, 5, 7, 8, 9], 6), ([10], 11)] 99 (wr.heap.size + 1) (by kernel_rfl) (by kernel_rfl) ?_
        refine wpStages_cons ?_
        simp only [List.filterMap_cons, List.filterMap_nil, List.getElem?_toArray, List.getElem?_cons_zero, List.getElem?_cons_succ]
        show wpQuiet _ _ _ _ [_, _, _, _, _, _, _, _, _] _
        repeat (go_big_quiet_step (fail))
        refine wpQuiet_nil ⟨_, rfl, fun K hK => ?_⟩
        go_wp2_with fail
        refine (sArity_val HZ.out _).mono ?_
        rintro e w3 ⟨rfl, rfl⟩
        by_cases hz2 : z = ra.length
        · have HN3 := hid (HN2.out.trans (decide_eq_true hz2))
          have e2 : (z != (ra.length : Int)) = false := by simp [hz2]
          clear HN2 hz2
          go_wp2_with fail
          refine hK _ _ (.inr (fun k _ hk => Ext.block (by repeat (with_reducible (first | assumption | exact Ext.refl _ | apply Ext.alloc | apply Ext.drew | apply Ext.drewN))) (by first | omega | (simp; omega)))) ?_
          clear hK K
          refine wpStages_cons ?_
          simp only [List.filterMap_cons, List.filterMap_nil, List.getElem?_toArray, List.getElem?_cons_zero, List.getElem?_cons_succ]
          show wpQuiet _ _ _ _ [_] _
          try simp only [Act.put, List.setIfInBounds_toArray, List.set_cons_succ, List.set_cons_zero]
          repeat (go_big_quiet_step (fail))
          refine wpQuiet_nil ⟨_, rfl, fun K hK => ?_⟩
          go_wp2_with fail
          go_wp2_with fail
          refine hK _ _ (.inr (fun k _ hk => Ext.block (by repeat (with_reducible (first | assumption | exact Ext.refl _ | apply Ext.alloc | apply Ext.drew | apply Ext.drewN))) (by first | omega | (simp; omega)))) ?_
          clear hK K
          refine wpStages_nil ?_
          go_wp2
          go_roundw
          case rel =>
            refine ⟨k + 1, by omega, by go_num, fun i hi => ?_, HB3.out.ext ((Ext.refl _).drew), HX3.out.drew⟩
            by_cases e : i = k
            · subst e; exact HN3.out
            · exact HA.out i (by omega)
          case measure => simp [intOf]; omega
        · have HN3 := hid (HN2.out.trans (decide_eq_false hz2))
          have e2 : (z != (ra.length : Int)) = true := by simp [hz2]
          clear HN2 hz2
          go_wp2_with fail
          refine hK _ _ (.inr (fun k _ hk => Ext.block (by repeat (with_reducible (first | assumption | exact Ext.refl _ | apply Ext.alloc | apply Ext.drew | apply Ext.drewN))) (by first | omega | (simp; omega)))) ?_
          clear hK K
          refine wpStages_cons ?_
          simp only [List.filterMap_cons, List.filterMap_nil, List.getElem?_toArray, List.getElem?_cons_zero, List.getElem?_cons_succ]
          show wpQuiet _ _ _ _ [_] _
          try simp only [Act.put, List.setIfInBounds_toArray, List.set_cons_succ, List.set_cons_zero]
          repeat (go_big_quiet_step (fail))
          refine wpQuiet_nil ⟨_, rfl, fun K hK => ?_⟩
          go_wp2_with fail
          go_wp2_with fail
          refine hK _ _ (.inr (fun k _ hk => Ext.block (by repeat (with_reducible (first | assumption | exact Ext.refl _ | apply Ext.alloc | apply Ext.drew | apply Ext.drewN))) (by first | omega | (simp; omega)))) ?_
          clear hK K
          refine wpStages_nil ?_
          go_wp2
          have HC : p.chkB = false := by unfold Prg.chkB; rw [rng_no (p := p.arB) hlt HN3.out]; simp
          refine bodyPost_ret (v := .tuple #[.int .i64 3, .int .i64 k]) (by simp [results, Tryz.results47, go_sem]) rfl ⟨⟨_, _, rfl, by rw [HC]; rfl⟩, HX3.out.drew⟩
      · have e8 : (op == 8) = false := beq_eq_false_iff_ne.2 o8
        have HN3 : Hid (p.arB k = true) := hid (by rw [HND.out, if_neg o8])
        clear HND
        go_wp2_with fail
        refine wp_region_stages [([0, 1, 2, 3, 4, 5, 7, 8, 9], 6), ([10], 11)] 99 (wr.heap.size + 1) (by kernel_rfl) (by kernel_rfl) ?_
        refine wpStages_cons ?_
        simp only [List.filterMap_cons, List.filterMap_nil, List.getElem?_toArray, List.getElem?_cons_zero, List.getElem?_cons_succ]
        show wpQuiet _ _ _ _ [_, _, _, _, _, _, _, _, _] _
        repeat (go_big_quiet_step (fail))
        refine wpQuiet_nil ⟨_, rfl, fun K hK => ?_⟩
        go_wp2_with fail
        go_wp2_with fail
        refine hK _ _ (.inr (fun k _ hk => Ext.block (by repeat (with_reducible (first | assumption | exact Ext.refl _ | apply Ext.alloc | apply Ext.drew | apply Ext.drewN))) (by first | omega | (simp; omega)))) ?_
        clear hK K
        refine wpStages_cons ?_
        simp only [List.filterMap_cons, List.filterMap_nil, List.getElem?_toArray, List.getElem?_cons_zero, List.getElem?_cons_succ]
        show wpQuiet _ _ _ _ [_] _
        try simp only [Act.put, List.setIfInBounds_toArray, List.set_cons_succ, List.set_cons_zero]
        repeat (go_big_quiet_step (fail))
        refine wpQuiet_nil ⟨_, rfl, fun K hK => ?_⟩
        go_wp2_with fail
        go_wp2_with fail
        refine hK _ _ (.inr (fun k _ hk => Ext.block (by repeat (with_reducible (first | assumption | exact Ext.refl _ | apply Ext.alloc | apply Ext.drew | apply Ext.drewN))) (by first | omega | (simp; omega)))) ?_
        clear hK K
        refine wpStages_nil ?_
        go_wp2
        go_roundw
        case rel =>
          refine ⟨k + 1, by omega, by go_num, fun i hi => ?_, HB3.out.ext ((Ext.refl _).drew), HX3.out.drew⟩
          by_cases e : i = k
          · subst e; exact HN3.out
          · exact HA.out i (by omega)
        case measure => simp [intOf]; omega
    · obtain rfl : k = p.ns.length := by omega
      have q := hB.lt
      have q0 := hB.cell 0
      simp only [List.getElem?_toArray, List.getElem?_cons_zero, List.getElem?_cons_succ] at q0
      have q1 := hB.cell 1
      simp only [List.getElem?_toArray, List.getElem?_cons_zero, List.getElem?_cons_succ] at q1
      clear hall hB hx
      go_wp2
      go_loopw [42] (fun i wr => ∃ k : Nat, k ≤ p.gs.length ∧ i = .int .i64 k ∧ (∀ j, j < k → p.asB j = true) ∧ Bx wr w.heap.size #[.slice a1 p.ns.length c1, .slice a2 p.gs.length c2] 26 ∧ Ext w wr) (fun i _ => p.gs.length - (intOf i).toNat)
      case atStart => exact ⟨0, by omega, rfl, fun j h => by omega, HB.out, HX.out⟩
      case round =>
        clear HB HX q q0 q1
        obtain ⟨k, hk, rfl, hall, hB, hx⟩ := hrel
        have HA2 := hid hall
        have HX := hid hx
        have HB := hid hB
        by_cases hlt : k < p.gs.length
        · obtain ⟨b, off, s, rt, rfl, hb1, hbw, hdrop, hget, ir, y0, y1⟩ := HG.at hlt hx hh
          have q0 : Ext wr (wr.alloc (.cells #[.string s, .int .i64 rt] 74)) := (by repeat (with_reducible (first | assumption | exact Ext.refl _ | apply Ext.alloc | apply Ext.drew | apply Ext.drewN)))
          have bQ := Bx.made wr #[.string s, .int .i64 rt] 74
          obtain ⟨bv, hbv⟩ : ∃ b, isVar s = b := ⟨_, rfl⟩
          have HBV := hid hbv
          have HND : Hid (p.asB k = (!bv && !(asgB p.gs k s.toList))) := hid (by rw [Prg.asB_at hget, hbv])
          have HX3 := hid (hx.trans q0)
          have HB3 := hid (hB.ext q0)
          clear hdrop hget hall hB hx HX HB hbv
          go_wp2_with fail
          refine (sIsVariable_val HBV.out _).mono ?_
          rintro e w3 ⟨rfl, x3⟩
          have HX4 := hid (HX3.out.trans x3)
          have hB4 := HB3.out.ext x3
          have HB4 := hid hB4
          have hb5 := bQ.ext x3
          have r := hB4.lt
          have r0 := hB4.cell 0
          simp only [List.getElem?_toArray, List.getElem?_cons_zero, List.getElem?_cons_succ] at r0
          have r1 := hB4.cell 1
          simp only [List.getElem?_toArray, List.getElem?_cons_zero, List.getElem?_cons_succ] at r1
          have d := hb5.lt
          have d0 := hb5.cell 0
          simp only [List.getElem?_toArray, List.getElem?_cons_zero, List.getElem?_cons_succ] at d0
          have d1 := hb5.cell 1
          simp only [List.getElem?_toArray, List.getElem?_cons_zero, List.getElem?_cons_succ] at d1
          clear hB4 hb5 x3 HX3 HB3 bQ q0
          cases bv
          case true =>
            go_wp2
            have HC : p.chkB = false := by unfold Prg.chkB; rw [rng_no (p := p.asB) hlt (by rw [HND.out]; rfl)]; simp
            refine bodyPost_ret (v := .tuple #[.int .i64 4, .int .i64 k]) (by simp [results, Tryz.results47, go_sem]) rfl ⟨⟨_, _, rfl, by rw [HC]; rfl⟩, HX4.out⟩
          obtain ⟨z, hz⟩ : ∃ z, lastTo p.gs k s.toList p.gs.length = z := ⟨_, rfl⟩
          have hza := lastTo_asg p.gs k s.toList
          rw [hz] at hza
          have HZ := hid hz
          have HZA := hid hza
          clear hz hza
          go_wp2_with fail
          refine (sAssigned_val HZ.out lo hi _ p _ rfl (HV.out.ext hh HX4.out) (Nat.le_trans hh HX4.out.size) hgl).mono ?_
          rintro e w4 ⟨rfl, x4⟩
          by_cases hz0 : 0 ≤ z
          · have HN3 : Hid (p.asB k = false) := hid (by rw [HND.out, ← HZA.out, decide_eq_true hz0]; rfl)
            go_wp2
            have HC : p.chkB = false := by unfold Prg.chkB; rw [rng_no (p := p.asB) hlt HN3.out]; simp
            refine bodyPost_ret (v := .tuple #[.int .i64 4, .int .i64 k]) (by simp [results, Tryz.results47, go_sem]) rfl ⟨⟨_, _, rfl, by rw [HC]; rfl⟩, HX4.out.trans x4⟩
          · have HN3 : Hid (p.asB k = true) := hid (by rw [HND.out, ← HZA.out, decide_eq_false hz0]; rfl)
            have HX5 := hid (HX4.out.trans x4)
            have HB5 := hid (HB4.out.ext x4)
            clear x4
            go_wp2
            go_roundw
            case rel =>
              refine ⟨k + 1, by omega, by go_num, fun i hi => ?_, HB5.out, HX5.out⟩
              by_cases e : i = k
              · subst e; exact HN3.out
              · exact HA2.out i (by omega)
            case measure => simp [intOf]; omega
        · obtain rfl : k = p.gs.length := by omega
          have q := hB.lt
          have q0 := hB.cell 0
          simp only [List.getElem?_toArray, List.getElem?_cons_zero, List.getElem?_cons_succ] at q0
          have q1 := hB.cell 1
          simp only [List.getElem?_toArray, List.getElem?_cons_zero, List.getElem?_cons_succ] at q1
          obtain ⟨z, hz⟩ : ∃ z, lastTo p.gs (p.gs.length : Nat) [99, 111, 108, 111, 114] p.gs.length = z := ⟨_, rfl⟩
          have hza := lastTo_asg p.gs p.gs.length [99, 111, 108, 111, 114]
          rw [hz] at hza
          have HZ := hid hz
          have HZA := hid hza
          have zx := hx.size
          clear hz hza hall hB hx
          go_wp2_with fail
          refine (sAssigned_val (z := z) (t := p.gs.length) (s := ⟨#[99, 111, 108, 111, 114]⟩) (by rw [colS]; exact HZ.out) lo hi _ p _ rfl (HV.out.ext hh HX.out) (by omega) hgl).mono ?_
          rintro e w4 ⟨rfl, x4⟩
          have HX5 := hid (HX.out.trans x4)
          clear x4
          have HC : Hid (p.chkB = decide (0 ≤ z)) := hid (by unfold Prg.chkB Prg.colB; rw [HOK.out, HNM.out, rng_all HA.out, rng_all HA2.out, HZA.out]; rfl)
          by_cases hz0 : 0 ≤ z
          · have HC2 := hid (HC.out.trans (decide_eq_true hz0))
            clear HC
            go_wp2
            refine bodyPost_ret (v := .tuple #[.int .i64 0, .int .i64 0]) (by simp [results, Tryz.results47, go_sem]) rfl ⟨⟨_, _, rfl, HC2.out.symm⟩, HX5.out⟩
          · have HC2 := hid (HC.out.trans (decide_eq_false hz0))
            have hz1 : z < 0 := by omega
            clear HC hz0
            go_wp2
            refine bodyPost_ret (v := .tuple #[.int .i64 5, .int .i64 0]) (by simp [results, Tryz.results47, go_sem]) rfl ⟨⟨_, _, rfl, HC2.out.symm⟩, HX5.out⟩
end Go.Proofs.YtaegmenjgjdimaaGreat
end

section
/- This text proves what the program's checks ask of one node: its name is known, it has as many arguments as it must. -/
namespace Go.Proofs.YtaegmenjgjdimaaGreat
open Go.RowKit Go.Maps Go.WideMaps

@[go_sem] theorem mkVar (x : Value) (w : World) : (Instr.makeInterface 124 x).run Tryz.prog w = .ok (.iface 124 x) w := run_makeInterface w 124 x (by kernel_rfl)
@[go_sem] theorem mkCall (x : Value) (w : World) : (Instr.makeInterface 126 x).run Tryz.prog w = .ok (.iface 126 x) w := run_makeInterface w 126 x (by kernel_rfl)
@[go_sem] theorem mkPlain (x : Value) (w : World) : (Instr.makeInterface 170 x).run Tryz.prog w = .ok (.iface 170 x) w := run_makeInterface w 170 x (by kernel_rfl)
/-- a node as a value of its own type -/
def exprV (op : Int) (x : Value) : Value := .iface (if op = 2 then 124 else if op = 8 then 126 else 170) x
set_option maxRecDepth 20000 in
set_option maxHeartbeats 1600000 in
theorem iExprOf_any (op : Int) (s : ByteArray) (num : Int) (u : Value) (w : World) : Calls Tryz.prog 59 #[.agg #[.int .i64 op, .string s, .int .i64 num, u]] w fun e w' => e = .returned (exprV op (.agg #[.int .i64 op, .string s, .int .i64 num, u])) ∧ Ext w w' := by
  rcases (show op = 2 ∨ op = 8 ∨ (op ≠ 2 ∧ op ≠ 8) by omega) with rfl | rfl | ⟨o2, o8⟩
  · go_enter Tryz.func59, Tryz.ntmps59
    go_wp2
    go_ret
    exact ⟨rfl, (by repeat (with_reducible (first | assumption | exact Ext.refl _ | apply Ext.alloc | apply Ext.drew | apply Ext.drewN)))⟩
  · go_enter Tryz.func59, Tryz.ntmps59
    go_wp2
    go_ret
    exact ⟨rfl, (by repeat (with_reducible (first | assumption | exact Ext.refl _ | apply Ext.alloc | apply Ext.drew | apply Ext.drewN)))⟩
  · have e2 : (op == 2) = false := beq_eq_false_iff_ne.2 o2
    have e8 : (op == 8) = false := beq_eq_false_iff_ne.2 o8
    go_enter Tryz.func59, Tryz.ntmps59
    go_wp2
    go_ret
    exact ⟨by unfold exprV; rw [if_neg o2, if_neg o8]; rfl, (by repeat (with_reducible (first | assumption | exact Ext.refl _ | apply Ext.alloc | apply Ext.drew | apply Ext.drewN)))⟩
theorem as_vv (v : Value) (w : World) : (Instr.typeAssert (.iface 124 v) 121 124 true).run Tryz.prog w = .ok (.tuple #[v, .bool true]) w := by kernel_rfl
theorem as_cv (v : Value) (w : World) : (Instr.typeAssert (.iface 126 v) 121 124 true).run Tryz.prog w = .ok (.tuple #[.agg #[.int .i64 0, .string ⟨#[]⟩, .int .i64 0, .slice none 0 0], .bool false]) w := by kernel_rfl
theorem as_cc (v : Value) (w : World) : (Instr.typeAssert (.iface 126 v) 121 126 true).run Tryz.prog w = .ok (.tuple #[v, .bool true]) w := by kernel_rfl
theorem as_vc (v : Value) (w : World) : (Instr.typeAssert (.iface 124 v) 121 126 true).run Tryz.prog w = .ok (.tuple #[.agg #[.int .i64 0, .string ⟨#[]⟩, .int .i64 0, .slice none 0 0], .bool false]) w := by kernel_rfl
theorem as_pv (v : Value) (w : World) : (Instr.typeAssert (.iface 170 v) 121 124 true).run Tryz.prog w = .ok (.tuple #[.agg #[.int .i64 0, .string ⟨#[]⟩, .int .i64 0, .slice none 0 0], .bool false]) w := by kernel_rfl
theorem as_pc (v : Value) (w : World) : (Instr.typeAssert (.iface 170 v) 121 126 true).run Tryz.prog w = .ok (.tuple #[.agg #[.int .i64 0, .string ⟨#[]⟩, .int .i64 0, .slice none 0 0], .bool false]) w := by kernel_rfl
theorem iIsVariable_val {s : ByteArray} {b : Bool} (h : isVar s = b) (w : World) : Calls Tryz.prog 54 #[.string s] w fun e w' => e = .returned (.bool b) ∧ w = w' := h ▸ iIsVariable_any s w
/-- what 'known' answers of a node of assignment o -/
def knownB (gs : List Asg) (op : Int) (s : ByteArray) (o : Nat) : Bool := if op = 2 then isVar s || asgB gs o s.toList else if op = 8 then decide (0 ≤ arity s) else true
set_option maxRecDepth 20000 in
set_option maxHeartbeats 6400000 in
theorem iKnown_any (gs : List Asg) (op : Int) (s : ByteArray) (num : Int) (sa : Option Addr) (sn sc o b : Nat) (w : World) (hM : FM w b gs gs.length) (hs : s.size ≤ maxLen) (ho : o ≤ 10000000) (hgl : gs.length ≤ 1048576) :
    Calls Tryz.prog 89 #[exprV op (.agg #[.int .i64 op, .string s, .int .i64 num, .slice sa sn sc]), .int .i64 o, .map (some b)] w fun e w' => e = .returned (.bool (knownB gs op s o)) ∧ Ext w w' := by
  rcases (show op = 2 ∨ op = 8 ∨ (op ≠ 2 ∧ op ≠ 8) by omega) with rfl | rfl | ⟨o2, o8⟩
  · have h0 := as_vv (.agg #[.int .i64 2, .string s, .int .i64 num, .slice sa sn sc])
    obtain ⟨bv, hbv⟩ : ∃ b, isVar s = b := ⟨_, rfl⟩
    have HBV := hid hbv
    obtain ⟨r, hr⟩ : ∃ r, frst gs gs.length s.toList = r := ⟨_, rfl⟩
    have HR := hid hr
    have e1 : Hid (knownB gs 2 s o = (bv || r.elim false fun i => decide (i < o))) := hid (by
      unfold knownB
      rw [if_pos rfl, hbv]
      cases r with
      | none => rw [frst_no hr]; rfl
      | some i => rw [frst_lt hr]; rfl)
    have HM := hid hM
    clear hbv hr hM
    unfold exprV
    rw [if_pos rfl]
    cases r with
    | none =>
      go_enter Tryz.func89, Tryz.ntmps89
      go_wp2_with (first | (at_lookup; refine wpList_first_ok _ rfl _ _ rfl _ _ _ rfl (HM.out.ext (by repeat (with_reducible (first | assumption | exact Ext.refl _ | apply Ext.alloc | apply Ext.drew | apply Ext.drewN)))) _ hs rfl _ HR.out ?_) | (go_at_call 54; refine (iIsVariable_val HBV.out _).mono ?_; rintro e w1 ⟨rfl, rfl⟩))
      all_goals (go_ret; exact ⟨ret_bool (by rw [e1.out]; first | rfl | simp_all), (by repeat (with_reducible (first | assumption | exact Ext.refl _ | apply Ext.alloc | apply Ext.drew | apply Ext.drewN)))⟩)
    | some i =>
      have HI : Hid (i ≤ 1048576) := hid (by have := (frst_some HR.out).1; omega)
      have hi := HI.out
      go_enter Tryz.func89, Tryz.ntmps89
      go_wp2_with (first | (at_lookup; refine wpList_first_ok _ rfl _ _ rfl _ _ _ rfl (HM.out.ext (by repeat (with_reducible (first | assumption | exact Ext.refl _ | apply Ext.alloc | apply Ext.drew | apply Ext.drewN)))) _ hs rfl _ HR.out ?_) | (go_at_call 54; refine (iIsVariable_val HBV.out _).mono ?_; rintro e w1 ⟨rfl, rfl⟩))
      all_goals (go_ret; exact ⟨ret_bool (by rw [e1.out]; first | rfl | simp_all), (by repeat (with_reducible (first | assumption | exact Ext.refl _ | apply Ext.alloc | apply Ext.drew | apply Ext.drewN)))⟩)
  · have h0 := as_cv (.agg #[.int .i64 8, .string s, .int .i64 num, .slice sa sn sc])
    have h1 := as_cc (.agg #[.int .i64 8, .string s, .int .i64 num, .slice sa sn sc])
    obtain ⟨z, hz⟩ : ∃ z, arity s = z := ⟨_, rfl⟩
    have HZ := hid hz
    have e1 : Hid (knownB gs 8 s o = decide (0 ≤ z)) := hid (by unfold knownB; rw [if_neg (by decide), if_pos rfl, hz])
    clear hz
    unfold exprV
    rw [if_neg (by decide), if_pos rfl]
    go_enter Tryz.func89, Tryz.ntmps89
    go_wp2_with (go_at_call 69; refine (iArity_val HZ.out _).mono ?_; rintro e w1 ⟨rfl, rfl⟩)
    all_goals (go_ret; exact ⟨ret_bool (by rw [e1.out]), (by repeat (with_reducible (first | assumption | exact Ext.refl _ | apply Ext.alloc | apply Ext.drew | apply Ext.drewN)))⟩)
  · have h0 := as_pv (.agg #[.int .i64 op, .string s, .int .i64 num, .slice sa sn sc])
    have h1 := as_pc (.agg #[.int .i64 op, .string s, .int .i64 num, .slice sa sn sc])
    have e1 : Hid (knownB gs op s o = true) := hid (by unfold knownB; rw [if_neg o2, if_neg o8])
    unfold exprV
    rw [if_neg o2, if_neg o8]
    go_enter Tryz.func89, Tryz.ntmps89
    go_wp2
    all_goals (go_ret; exact ⟨ret_bool (by rw [e1.out]), (by repeat (with_reducible (first | assumption | exact Ext.refl _ | apply Ext.alloc | apply Ext.drew | apply Ext.drewN)))⟩)
def fitB (op : Int) (s : ByteArray) (n : Nat) : Bool := if op = 8 then decide (arity s = n) else true
set_option maxRecDepth 20000 in
set_option maxHeartbeats 6400000 in
theorem iFitting_any (op : Int) (s : ByteArray) (num : Int) (sa : Option Addr) (sn sc : Nat) (w : World) :
    Calls Tryz.prog 90 #[exprV op (.agg #[.int .i64 op, .string s, .int .i64 num, .slice sa sn sc])] w fun e w' => e = .returned (.bool (fitB op s sn)) ∧ Ext w w' := by
  rcases (show op = 2 ∨ op = 8 ∨ (op ≠ 2 ∧ op ≠ 8) by omega) with rfl | rfl | ⟨o2, o8⟩
  · have h0 := as_vc (.agg #[.int .i64 2, .string s, .int .i64 num, .slice sa sn sc])
    unfold exprV
    rw [if_pos rfl]
    go_enter Tryz.func90, Tryz.ntmps90
    go_wp2_with fail
    refine wp_region_stages [([0, 1, 2, 3, 4, 5, 6, 7, 8, 9], 10), ([11, 12], 13)] 99 (w.heap.size + 1) (by kernel_rfl) (by kernel_rfl) ?_
    refine wpStages_cons ?_
    simp only [List.filterMap_cons, List.filterMap_nil, List.getElem?_toArray, List.getElem?_cons_zero, List.getElem?_cons_succ]
    show wpQuiet _ _ _ _ [_, _, _, _, _, _, _, _, _, _] _
    repeat (go_big_quiet_step (fail))
    refine wpQuiet_nil ⟨_, rfl, fun K hK => ?_⟩
    go_wp2_with fail
    go_wp2_with fail
    refine hK _ _ (.inr (fun k _ hk => Ext.block (by repeat (with_reducible (first | assumption | exact Ext.refl _ | apply Ext.alloc | apply Ext.drew | apply Ext.drewN))) (by first | omega | (simp; omega)))) ?_
    clear hK K
    refine wpStages_cons ?_
    simp only [List.filterMap_cons, List.filterMap_nil, List.getElem?_toArray, List.getElem?_cons_zero, List.getElem?_cons_succ]
    show wpQuiet _ _ _ _ [_, _] _
    try simp only [Act.put, List.setIfInBounds_toArray, List.set_cons_succ, List.set_cons_zero]
    repeat (go_big_quiet_step (fail))
    refine wpQuiet_nil ⟨_, rfl, fun K hK => ?_⟩
    go_wp2_with fail
    go_wp2_with fail
    refine hK _ _ (.inr (fun k _ hk => Ext.block (by repeat (with_reducible (first | assumption | exact Ext.refl _ | apply Ext.alloc | apply Ext.drew | apply Ext.drewN))) (by first | omega | (simp; omega)))) ?_
    clear hK K
    refine wpStages_nil ?_
    go_wp2
    go_ret
    exact ⟨rfl, (by repeat (with_reducible (first | assumption | exact Ext.refl _ | apply Ext.alloc | apply Ext.drew | apply Ext.drewN)))⟩
  · have h0 := as_cc (.agg #[.int .i64 8, .string s, .int .i64 num, .slice sa sn sc])
    obtain ⟨z, hz⟩ : ∃ z, arity s = z := ⟨_, rfl⟩
    have HZ := hid hz
    have e1 : Hid (fitB 8 s sn = decide (z = sn)) := hid (by unfold fitB; rw [if_pos rfl, hz])
    clear hz
    unfold exprV
    rw [if_neg (by decide), if_pos rfl]
    go_enter Tryz.func90, Tryz.ntmps90
    go_wp2_with fail
    refine wp_region_stages [([0, 1, 2, 3, 4, 5, 6, 7, 8, 9], 10), ([11, 12], 13)] 99 (w.heap.size + 1) (by kernel_rfl) (by kernel_rfl) ?_
    refine wpStages_cons ?_
    simp only [List.filterMap_cons, List.filterMap_nil, List.getElem?_toArray, List.getElem?_cons_zero, List.getElem?_cons_succ]
    show wpQuiet _ _ _ _ [_, _, _, _, _, _, _, _, _, _] _
    repeat (go_big_quiet_step (fail))
    refine wpQuiet_nil ⟨_, rfl, fun K hK => ?_⟩
    go_wp2_with fail
    refine (iArity_val HZ.out _).mono ?_
    rintro e w1 ⟨rfl, rfl⟩
    go_wp2_with fail
    refine hK _ _ (.inr (fun k _ hk => Ext.block (by repeat (with_reducible (first | assumption | exact Ext.refl _ | apply Ext.alloc | apply Ext.drew | apply Ext.drewN))) (by first | omega | (simp; omega)))) ?_
    clear hK K
    refine wpStages_cons ?_
    simp only [List.filterMap_cons, List.filterMap_nil, List.getElem?_toArray, List.getElem?_cons_zero, List.getElem?_cons_succ]
    show wpQuiet _ _ _ _ [_, _] _
    try simp only [Act.put, List.setIfInBounds_toArray, List.set_cons_succ, List.set_cons_zero]
    repeat (go_big_quiet_step (fail))
    refine wpQuiet_nil ⟨_, rfl, fun K hK => ?_⟩
    go_wp2_with fail
    go_wp2_with fail
    refine hK _ _ (.inr (fun k _ hk => Ext.block (by repeat (with_reducible (first | assumption | exact Ext.refl _ | apply Ext.alloc | apply Ext.drew | apply Ext.drewN))) (by first | omega | (simp; omega)))) ?_
    clear hK K
    refine wpStages_nil ?_
    go_wp2
    go_ret
    exact ⟨ret_bool (by rw [e1.out, Bool.eq_iff_iff]; simp; omega), (by repeat (with_reducible (first | assumption | exact Ext.refl _ | apply Ext.alloc | apply Ext.drew | apply Ext.drewN)))⟩
  · have h0 := as_pc (.agg #[.int .i64 op, .string s, .int .i64 num, .slice sa sn sc])
    have e1 : Hid (fitB op s sn = true) := hid (by unfold fitB; rw [if_neg o8])
    unfold exprV
    rw [if_neg o2, if_neg o8]
    go_enter Tryz.func90, Tryz.ntmps90
    go_wp2_with fail
    refine wp_region_stages [([0, 1, 2, 3, 4, 5, 6, 7, 8, 9], 10), ([11, 12], 13)] 99 (w.heap.size + 1) (by kernel_rfl) (by kernel_rfl) ?_
    refine wpStages_cons ?_
    simp only [List.filterMap_cons, List.filterMap_nil, List.getElem?_toArray, List.getElem?_cons_zero, List.getElem?_cons_succ]
    show wpQuiet _ _ _ _ [_, _, _, _, _, _, _, _, _, _] _
    repeat (go_big_quiet_step (fail))
    refine wpQuiet_nil ⟨_, rfl, fun K hK => ?_⟩
    go_wp2_with fail
    go_wp2_with fail
    refine hK _ _ (.inr (fun k _ hk => Ext.block (by repeat (with_reducible (first | assumption | exact Ext.refl _ | apply Ext.alloc | apply Ext.drew | apply Ext.drewN))) (by first | omega | (simp; omega)))) ?_
    clear hK K
    refine wpStages_cons ?_
    simp only [List.filterMap_cons, List.filterMap_nil, List.getElem?_toArray, List.getElem?_cons_zero, List.getElem?_cons_succ]
    show wpQuiet _ _ _ _ [_, _] _
    try simp only [Act.put, List.setIfInBounds_toArray, List.set_cons_succ, List.set_cons_zero]
    repeat (go_big_quiet_step (fail))
    refine wpQuiet_nil ⟨_, rfl, fun K hK => ?_⟩
    go_wp2_with fail
    go_wp2_with fail
    refine hK _ _ (.inr (fun k _ hk => Ext.block (by repeat (with_reducible (first | assumption | exact Ext.refl _ | apply Ext.alloc | apply Ext.drew | apply Ext.drewN))) (by first | omega | (simp; omega)))) ?_
    clear hK K
    refine wpStages_nil ?_
    go_wp2
    go_ret
    exact ⟨by rw [e1.out]; rfl, (by repeat (with_reducible (first | assumption | exact Ext.refl _ | apply Ext.alloc | apply Ext.drew | apply Ext.drewN)))⟩
end Go.Proofs.YtaegmenjgjdimaaGreat
end

section
/- This text proves the program's Check, as far as it says that a program passes. -/
namespace Go.Proofs.YtaegmenjgjdimaaGreat
open Go.RowKit Go.Maps Go.WideMaps

theorem iIsValidProgram_val {p : Prg} {b : Bool} (h : p.okB = b) (lo hi : Nat) (v : Value) (w : World) (hv : p.R lo hi w v) (hh : hi ≤ w.heap.size) (hb : p.bd) (hgl : p.gs.length ≤ 1048576) :
    Calls Tryz.prog 87 #[v] w fun e w' => e = .returned (.bool b) ∧ Ext w w' := h ▸ iIsValidProgram_any lo hi v p w hv hh hb hgl
theorem iKnown_val {gs : List Asg} {op : Int} {s : ByteArray} {o : Nat} {r : Bool} (h : knownB gs op s o = r) (num : Int) (sa : Option Addr) (sn sc b : Nat) (w : World) (hM : FM w b gs gs.length) (hs : s.size ≤ maxLen) (ho : o ≤ 10000000) (hgl : gs.length ≤ 1048576) :
    Calls Tryz.prog 89 #[exprV op (.agg #[.int .i64 op, .string s, .int .i64 num, .slice sa sn sc]), .int .i64 o, .map (some b)] w fun e w' => e = .returned (.bool r) ∧ Ext w w' := h ▸ iKnown_any gs op s num sa sn sc o b w hM hs ho hgl
theorem iFitting_val {op : Int} {s : ByteArray} {sn : Nat} {r : Bool} (h : fitB op s sn = r) (num : Int) (sa : Option Addr) (sc : Nat) (w : World) :
    Calls Tryz.prog 90 #[exprV op (.agg #[.int .i64 op, .string s, .int .i64 num, .slice sa sn sc])] w fun e w' => e = .returned (.bool r) ∧ Ext w w' := h ▸ iFitting_any op s num sa sn sc w
theorem iExprOf_val {op : Int} {s : ByteArray} {num : Int} {u E : Value} (h : exprV op (.agg #[.int .i64 op, .string s, .int .i64 num, u]) = E) (w : World) : Calls Tryz.prog 59 #[.agg #[.int .i64 op, .string s, .int .i64 num, u]] w fun e w' => e = .returned E ∧ Ext w w' := h ▸ iExprOf_any op s num u w
set_option maxRecDepth 20000 in
/-- a look as an equation, for a walk that meets it under a guard -/
theorem FM.look {w : World} {b k : Nat} {gs : List Asg} (h : FM w b gs k) {s : ByteArray} (hs : s.size ≤ maxLen) {t : Nat} (hr : frst gs k s.toList = some t) :
    (Instr.lookup 69 (.map (some b)) (.string s) false).run Tryz.prog w = .ok (.int .i64 (t : Int)) w := by
  obtain ⟨n, D, hn, hown, hm1, hm2⟩ := h
  obtain ⟨h1, h2⟩ := hm2 s hs
  obtain ⟨c, hrun, hat, hwc⟩ := hown.lookup_int strLaw Tryz.underlying69 Tryz.underlying3 (zeroI _) (keyS hs)
  rw [h2 t hr] at hat
  simp only [DataW.lit.injEq, Lit.int.injEq, true_and] at hat
  subst hat
  exact hrun
set_option maxRecDepth 20000 in
set_option maxHeartbeats 12800000 in
theorem iCheck_any (lo hi : Nat) (v : Value) (p : Prg) (w : World) (hv : p.R lo hi w v) (hh : hi ≤ w.heap.size) (hb : p.bd) (hgl : p.gs.length ≤ 1048576) :
    Calls Tryz.prog 52 #[v] w fun e w' => (∃ c k : Int, e = .returned (.tuple #[.int .i64 c, .int .i64 k]) ∧ (c == 0) = p.chkB) ∧ Ext w w' := by
  have HV := hid hv
  obtain ⟨a1, c1, a2, c2, rfl, HN, HG⟩ := hv.form
  have l1 := HN.le
  have l2 := HN.cap
  have l3 := HG.le
  have l4 := HG.cap
  have HBD := hid hb
  clear hv hb
  have x0 : Ext w (w.alloc (.cells #[.slice a1 p.ns.length c1, .slice a2 p.gs.length c2] 26)) := (by repeat (with_reducible (first | assumption | exact Ext.refl _ | apply Ext.alloc | apply Ext.drew | apply Ext.drewN)))
  have bB := Bx.made w #[.slice a1 p.ns.length c1, .slice a2 p.gs.length c2] 26
  cases hok : p.okB
  · have HOK := hid hok
    have HC : Hid (p.chkB = false) := hid (by unfold Prg.chkB; rw [hok]; rfl)
    clear hok
    go_enter Tryz.func52, Tryz.ntmps52
    go_wp2_with fail
    refine (iIsValidProgram_val HOK.out lo hi _ _ (HV.out.ext hh x0) (Nat.le_trans hh x0.size) HBD.out hgl).mono ?_
    rintro e w1 ⟨rfl, x1⟩
    have X1 := x0.trans x1
    go_wp2
    refine bodyPost_ret (v := .tuple #[.int .i64 1, .int .i64 0]) (by simp [results, Tryz.results52, go_sem]) rfl ⟨⟨_, _, rfl, by rw [HC.out]; rfl⟩, X1⟩
  have HP := hid (Prg.okB_V hok)
  have l5 := HP.out.len
  have HOK := hid hok
  clear hok
  go_enter Tryz.func52, Tryz.ntmps52
  go_wp2_with fail
  refine (iIsValidProgram_val HOK.out lo hi _ _ (HV.out.ext hh x0) (Nat.le_trans hh x0.size) HBD.out hgl).mono ?_
  rintro e w1 ⟨rfl, x1⟩
  have X1 := x0.trans x1
  have bB1 := bB.ext x1
  have q := bB1.lt
  have q0 := bB1.cell 0
  simp only [List.getElem?_toArray, List.getElem?_cons_zero, List.getElem?_cons_succ] at q0
  have q1 := bB1.cell 1
  simp only [List.getElem?_toArray, List.getElem?_cons_zero, List.getElem?_cons_succ] at q1
  clear x0 x1 bB
  go_wp2_with fail
  refine wp_region_stages [([0, 2], 1), ([], 3), ([4], 5)] 99 w1.heap.size (by kernel_rfl) (by kernel_rfl) ?_
  refine wpStages_cons ?_
  simp only [List.filterMap_cons, List.filterMap_nil, List.getElem?_toArray, List.getElem?_cons_zero, List.getElem?_cons_succ]
  show wpQuiet _ _ _ _ [_, _] _
  repeat (go_big_quiet_step (fail))
  refine wpQuiet_nil ⟨_, rfl, fun K hK => ?_⟩
  go_wp2_with fail
  refine (iAssigned_any lo hi _ p _ ((HV.out.ext hh X1).ext (Nat.le_trans hh X1.size) (by repeat (with_reducible (first | assumption | exact Ext.refl _ | apply Ext.alloc | apply Ext.drew | apply Ext.drewN)))) (by have := X1.size; simp; omega) HBD.out hgl).mono ?_
  rintro e w2 ⟨⟨mb, rfl, hmb, hM⟩, x2⟩
  have y2 : Ext w1 w2 := Ext.trans (by repeat (with_reducible (first | assumption | exact Ext.refl _ | apply Ext.alloc | apply Ext.drew | apply Ext.drewN))) x2
  have z2 := y2.size
  go_wp2_with fail
  refine hK _ _ (.inr (fun k _ hk => y2.block (by first | omega | (simp; omega)))) ?_
  clear hK K
  refine wpStages_cons ?_
  simp only [List.filterMap_nil]
  show wpQuiet _ _ _ _ [] _
  try simp only [Act.put, List.setIfInBounds_toArray, List.set_cons_succ, List.set_cons_zero]
  repeat (go_big_quiet_step (fail))
  refine wpQuiet_nil ⟨_, rfl, fun K hK => ?_⟩
  go_wp2_with fail
  refine (iOwners_any lo hi _ p _ ((HV.out.ext hh X1).ext (Nat.le_trans hh X1.size) y2) (by have := X1.size; omega) HP.out hgl).mono ?_
  rintro e w3 ⟨⟨oa, oc, rfl, hO⟩, x3⟩
  have y3 := y2.trans x3
  have hM3 := hM.ext x3
  go_wp2_with fail
  refine hK _ _ (.inr (fun k _ hk => y3.block (by first | omega | (simp; omega)))) ?_
  clear hK K
  refine wpStages_cons ?_
  simp only [List.filterMap_cons, List.filterMap_nil, List.getElem?_toArray, List.getElem?_cons_zero, List.getElem?_cons_succ]
  show wpQuiet _ _ _ _ [_] _
  try simp only [Act.put, List.setIfInBounds_toArray, List.set_cons_succ, List.set_cons_zero]
  repeat (go_big_quiet_step (fail))
  refine wpQuiet_nil ⟨_, rfl, fun K hK => ?_⟩
  go_wp2_with fail
  go_wp2_with fail
  refine hK _ _ (.inr (fun k _ hk => y3.block (by first | omega | (simp; omega)))) ?_
  clear hK K
  refine wpStages_nil ?_
  have hI := hO.ints
  obtain ⟨oa', oc', e1, HO⟩ := hI.open
  rw [Prg.ownL_len] at e1
  simp only [Value.slice.injEq, true_and] at e1
  obtain ⟨rfl, rfl⟩ := e1
  have lo1 := HO.le
  have lo2 := HO.cap
  rw [Prg.ownL_len] at lo1
  have bB3 := bB1.ext y3
  have HB3 := hid bB3
  have HX3 := hid (X1.trans y3)
  have HM3 := hid hM3
  clear x2 x3 y2 y3 hM hM3 bB1 hO hI X1 q q0 q1 z2
  have q := bB3.lt
  have q0 := bB3.cell 0
  simp only [List.getElem?_toArray, List.getElem?_cons_zero, List.getElem?_cons_succ] at q0
  have q1 := bB3.cell 1
  simp only [List.getElem?_toArray, List.getElem?_cons_zero, List.getElem?_cons_succ] at q1
  clear bB3
  go_wp2
  go_loopw [24] (fun i wr => ∃ k : Nat, k ≤ p.ns.length ∧ i = .int .i64 k ∧ (∀ j, j < k → p.nameB j = true) ∧ Bx wr w.heap.size #[.slice a1 p.ns.length c1, .slice a2 p.gs.length c2] 26 ∧ Ext w wr ∧ Ext w3 wr) (fun i _ => p.ns.length - (intOf i).toNat)
  case atStart => exact ⟨0, by omega, rfl, fun j h => by omega, HB3.out, HX3.out, Ext.refl _⟩
  case round =>
    clear HB3 HX3 q q0 q1
    obtain ⟨k, hk, rfl, hall, hB, hx, hx1⟩ := hrel
    have HA := hid hall
    have HX := hid hx
    have HX1 := hid hx1
    have HB := hid hB
    by_cases hlt : k < p.ns.length
    · obtain ⟨b, off, op, s, num, sa, sc, ra, rfl, hb1, hbw, hget, io, inn, hI, HI, y0, y1, y2, y3⟩ := HN.atW hlt hx hh
      have li1 := HI.le
      have li2 := HI.cap
      obtain ⟨ob, oo, oy, rfl, hob, hoy, _, hoc⟩ := HO.atE (k := k) (by rw [Prg.ownL_len]; exact hlt) hx1 (Nat.le_refl _)
      have e9 := ownL_at hoy
      subst e9
      have hsz := hid (HBD.out.1 _ (List.mem_of_getElem? hget))
      have q0 : Ext wr (wr.alloc (.cells #[.int .i64 op, .string s, .int .i64 num, .slice sa ra.length sc] 79)) := (by repeat (with_reducible (first | assumption | exact Ext.refl _ | apply Ext.alloc | apply Ext.drew | apply Ext.drewN)))
      have hon := ((HP.out.own_is hlt).lt HP.out).2
      obtain ⟨E, hE⟩ : ∃ E, exprV op (.agg #[.int .i64 op, .string s, .int .i64 num, .slice sa ra.length sc]) = E := ⟨_, rfl⟩
      obtain ⟨bk, hbk⟩ : ∃ r, knownB p.gs op s (p.own k) = r := ⟨_, rfl⟩
      have HE := hid hE
      have HBK := hid hbk
      have HND : Hid (p.nameB k = bk) := hid (by rw [Prg.nameB_at hget, ← hbk]; rfl)
      have hob' : ob ≤ wr.heap.size := by omega
      have hob2 : ob < wr.heap.size + 1 := by omega
      have HHB := hid (hx.size)
      clear hget hall hB hx hx1 hI hoy hE hbk
      go_wp2_with fail
      refine wp_region_stages [([0, 2, 3, 4, 5, 6], 1), ([], 7), ([], 8)] 99 (wr.heap.size + 1) (by kernel_rfl) (by kernel_rfl) ?_
      refine wpStages_cons ?_
      simp only [List.filterMap_cons, List.filterMap_nil, List.getElem?_toArray, List.getElem?_cons_zero, List.getElem?_cons_succ]
      show wpQuiet _ _ _ _ [_, _, _, _, _, _] _
      repeat (go_big_quiet_step (fail))
      refine wpQuiet_nil ⟨_, rfl, fun K hK => ?_⟩
      go_wp2_with fail
      refine (iExprOf_val HE.out _).mono ?_
      rintro e w4 ⟨rfl, x4⟩
      have X4 : Ext (wr.alloc (.cells #[.int .i64 op, .string s, .int .i64 num, .slice sa ra.length sc] 79)) w4 := Ext.trans (by repeat (with_reducible (first | assumption | exact Ext.refl _ | apply Ext.alloc | apply Ext.drew | apply Ext.drewN))) x4
      go_wp2_with fail
      refine hK _ _ (.inr (fun k _ hk => X4.block (by first | omega | (simp; omega)))) ?_
      clear hK K
      refine wpStages_cons ?_
      simp only [List.filterMap_nil]
      show wpQuiet _ _ _ _ [] _
      try simp only [Act.put, List.setIfInBounds_toArray, List.set_cons_succ, List.set_cons_zero]
      repeat (go_big_quiet_step (fail))
      refine wpQuiet_nil ⟨_, rfl, fun K hK => ?_⟩
      go_wp2_with fail
      have hk5 := iKnown_val HBK.out num sa ra.length sc mb w4 ((HM3.out.ext HX1.out).ext (q0.trans X4)) hsz.out (by omega) hgl
      rw [HE.out] at hk5
      refine hk5.mono ?_
      clear hk5
      rintro e w5 ⟨rfl, x5⟩
      have X5 := X4.trans x5
      go_wp2_with fail
      refine hK _ _ (.inr (fun k _ hk => X5.block (by first | omega | (simp; omega)))) ?_
      clear hK K
      refine wpStages_cons ?_
      simp only [List.filterMap_nil]
      show wpQuiet _ _ _ _ [] _
      try simp only [Act.put, List.setIfInBounds_toArray, List.set_cons_succ, List.set_cons_zero]
      repeat (go_big_quiet_step (fail))
      refine wpQuiet_nil ⟨_, rfl, fun K hK => ?_⟩
      go_wp2_with fail
      go_wp2_with fail
      refine hK _ _ (.inr (fun k _ hk => X5.block (by first | omega | (simp; omega)))) ?_
      clear hK K
      refine wpStages_nil ?_
      have HX5 := hid ((HX.out.trans q0).trans X5)
      have HX6 := hid ((HX1.out.trans q0).trans X5)
      have HB5 := hid ((HB.out.ext q0).ext X5)
      clear x4 X4 x5 X5
      cases bk
      · go_wp2
        have HC : p.chkB = false := by unfold Prg.chkB; rw [rng_no (p := p.nameB) hlt HND.out]; simp
        refine bodyPost_ret (v := .tuple #[.int .i64 2, .int .i64 k]) (by simp [results, Tryz.results52, go_sem]) rfl ⟨⟨_, _, rfl, by rw [HC]; rfl⟩, HX5.out⟩
      · go_wp2
        go_roundw
        case rel =>
          refine ⟨k + 1, by omega, by go_num, fun i hi => ?_, HB5.out, HX5.out, HX6.out⟩
          by_cases e : i = k
          · subst e; exact HND.out
          · exact HA.out i (by omega)
        case measure => simp [intOf]; omega
    · obtain rfl : k = p.ns.length := by omega
      have q := hB.lt
      have q0 := hB.cell 0
      simp only [List.getElem?_toArray, List.getElem?_cons_zero, List.getElem?_cons_succ] at q0
      have q1 := hB.cell 1
      simp only [List.getElem?_toArray, List.getElem?_cons_zero, List.getElem?_cons_succ] at q1
      clear hall hB hx hx1
      go_wp2
      go_loopw [43] (fun i wr => ∃ k : Nat, k ≤ p.ns.length ∧ i = .int .i64 k ∧ (∀ j, j < k → p.arB j = true) ∧ Bx wr w.heap.size #[.slice a1 p.ns.length c1, .slice a2 p.gs.length c2] 26 ∧ Ext w wr ∧ Ext w3 wr) (fun i _ => p.ns.length - (intOf i).toNat)
      case atStart => exact ⟨0, by omega, rfl, fun j h => by omega, HB.out, HX.out, HX1.out⟩
      case round =>
        clear HB HX HX1 q q0 q1
        obtain ⟨k, hk, rfl, hall, hB, hx, hx1⟩ := hrel
        have HA2 := hid hall
        have HX := hid hx
        have HX1 := hid hx1
        have HB := hid hB
        by_cases hlt : k < p.ns.length
        · obtain ⟨b, off, op, s, num, sa, sc, ra, rfl, hb1, hbw, hget, io, inn, hI, HI, y0, y1, y2, y3⟩ := HN.atW hlt hx hh
          have li1 := HI.le
          have li2 := HI.cap
          have q0 : Ext wr (wr.alloc (.cells #[.int .i64 op, .string s, .int .i64 num, .slice sa ra.length sc] 79)) := (by repeat (with_reducible (first | assumption | exact Ext.refl _ | apply Ext.alloc | apply Ext.drew | apply Ext.drewN)))
          obtain ⟨E, hE⟩ : ∃ E, exprV op (.agg #[.int .i64 op, .string s, .int .i64 num, .slice sa ra.length sc]) = E := ⟨_, rfl⟩
          obtain ⟨bk, hbk⟩ : ∃ r, fitB op s ra.length = r := ⟨_, rfl⟩
          have HE := hid hE
          have HBK := hid hbk
          have HND : Hid (p.arB k = bk) := hid (by rw [Prg.arB_at hget, ← hbk]; rfl)
          clear hget hall hB hx hx1 hI hE hbk
          go_wp2_with fail
          refine (iExprOf_val HE.out _).mono ?_
          rintro e w4 ⟨rfl, x4⟩
          go_wp2_with fail
          have hk5 := iFitting_val HBK.out num sa sc w4
          rw [HE.out] at hk5
          refine hk5.mono ?_
          clear hk5
          rintro e w5 ⟨rfl, x5⟩
          have X5 := x4.trans x5
          have HX5 := hid ((HX.out.trans q0).trans X5)
          have HX6 := hid ((HX1.out.trans q0).trans X5)
          have HB5 := hid ((HB.out.ext q0).ext X5)
          clear x4 x5 X5
          cases bk
          · go_wp2
            have HC : p.chkB = false := by unfold Prg.chkB; rw [rng_no (p := p.arB) hlt HND.out]; simp
            refine bodyPost_ret (v := .tuple #[.int .i64 3, .int .i64 k]) (by simp [results, Tryz.results52, go_sem]) rfl ⟨⟨_, _, rfl, by rw [HC]; rfl⟩, HX5.out⟩
          · go_wp2
            go_roundw
            case rel =>
              refine ⟨k + 1, by omega, by go_num, fun i hi => ?_, HB5.out, HX5.out, HX6.out⟩
              by_cases e : i = k
              · subst e; exact HND.out
              · exact HA2.out i (by omega)
            case measure => simp [intOf]; omega
        · obtain rfl : k = p.ns.length := by omega
          have q := hB.lt
          have q0 := hB.cell 0
          simp only [List.getElem?_toArray, List.getElem?_cons_zero, List.getElem?_cons_succ] at q0
          have q1 := hB.cell 1
          simp only [List.getElem?_toArray, List.getElem?_cons_zero, List.getElem?_cons_succ] at q1
          clear hall hB hx hx1
          go_wp2
          go_loopw [57] (fun i wr => ∃ k : Nat, k ≤ p.gs.length ∧ i = .int .i64 k ∧ (∀ j, j < k → p.asB j = true) ∧ Ext w wr ∧ Ext w3 wr) (fun i _ => p.gs.length - (intOf i).toNat)
          case atStart => exact ⟨0, by omega, rfl, fun j h => by omega, HX.out, HX1.out⟩
          case round =>
            clear HB HX HX1 q q0 q1
            obtain ⟨k, hk, rfl, hall, hx, hx1⟩ := hrel
            have HA3 := hid hall
            have HX := hid hx
            have HX1 := hid hx1
            by_cases hlt : k < p.gs.length
            · obtain ⟨b, off, s, rt, rfl, hb1, hbw, hdrop, hget, ir, y0, y1⟩ := HG.at hlt hx hh
              have q0 : Ext wr (wr.alloc (.cells #[.string s, .int .i64 rt] 74)) := (by repeat (with_reducible (first | assumption | exact Ext.refl _ | apply Ext.alloc | apply Ext.drew | apply Ext.drewN)))
              have hsz := HBD.out.2 _ (List.mem_of_getElem? hget)
              simp only at hsz
              obtain ⟨bv, hbv⟩ : ∃ b, isVar s = b := ⟨_, rfl⟩
              have HBV := hid hbv
              obtain ⟨t, ht⟩ : ∃ t, frst p.gs p.gs.length s.toList = some t := by
                cases e : frst p.gs p.gs.length s.toList with
                | some t => exact ⟨t, rfl⟩
                | none =>
                  have := frst_none e
                  rw [asgB_iff.2 ⟨k, _, hlt, hget, rfl⟩] at this
                  cases this
              have HT := hid ht
              have htb : t ≤ 1048576 := by have := (frst_some ht).1; omega
              have HND : Hid (p.asB k = (!bv && !(decide (t < k)))) := hid (by rw [Prg.asB_at hget, hbv, frst_lt ht])
              have HX3 := hid (hx.trans q0)
              have HX4 := hid (hx1.trans q0)
              have hlook := ((HM3.out.ext hx1).ext q0).look hsz ht
              clear hdrop hget hall hx hx1 HX HX1 hbv ht
              have e0 : decide (t < k) = true ∨ decide (t < k) = false := by cases decide (t < k) <;> simp
              have hfin : p.asB k = false → p.chkB = false := fun h => by unfold Prg.chkB; rw [rng_no (p := p.asB) hlt h]; simp
              have HF := hid hfin
              clear hfin
              by_cases htk : t < k
              · have HD := hid (HND.out.trans (by rw [decide_eq_true htk]; simp : _ = false))
                clear HND e0
                cases bv
                all_goals
                  go_wp2_with (go_at_call 54; refine (iIsVariable_val HBV.out _).mono ?_; rintro e w4 ⟨rfl, rfl⟩)
                  refine bodyPost_ret (v := .tuple #[.int .i64 4, .int .i64 k]) (by simp [results, Tryz.results52, go_sem]) rfl ⟨⟨_, _, rfl, by rw [HF.out HD.out]; rfl⟩, HX3.out⟩
              · have HD := hid (HND.out.trans (by rw [decide_eq_false htk]; simp : _ = !bv))
                clear HND e0
                cases bv
                · go_wp2_with (go_at_call 54; refine (iIsVariable_val HBV.out _).mono ?_; rintro e w4 ⟨rfl, rfl⟩)
                  go_roundw
                  case rel =>
                    refine ⟨k + 1, by omega, by go_num, fun i hi => ?_, HX3.out, HX4.out⟩
                    by_cases e : i = k
                    · subst e; exact HD.out
                    · exact HA3.out i (by omega)
                  case measure => simp [intOf]; omega
                · go_wp2_with (go_at_call 54; refine (iIsVariable_val HBV.out _).mono ?_; rintro e w4 ⟨rfl, rfl⟩)
                  refine bodyPost_ret (v := .tuple #[.int .i64 4, .int .i64 k]) (by simp [results, Tryz.results52, go_sem]) rfl ⟨⟨_, _, rfl, by rw [HF.out HD.out]; rfl⟩, HX3.out⟩
            · obtain rfl : k = p.gs.length := by omega
              have HMW := hid (HM3.out.ext hx1)
              clear hall hx hx1
              have HC : Hid (p.chkB = asgB p.gs p.gs.length [99, 111, 108, 111, 114]) := hid (by unfold Prg.chkB Prg.colB; rw [HOK.out, rng_all HA.out, rng_all HA2.out, rng_all HA3.out]; rfl)
              cases hc : frst p.gs p.gs.length [99, 111, 108, 111, 114] with
              | none =>
                have HC2 := hid (HC.out.trans (frst_no hc))
                have HQ := hid hc
                clear HC hc
                go_wp2_with (at_lookup; refine wpList_first_ok _ rfl _ _ rfl _ _ _ rfl HMW.out (⟨#[99, 111, 108, 111, 114]⟩ : ByteArray) (by decide) rfl none (by rw [colS]; exact HQ.out) ?_)
                refine bodyPost_ret (v := .tuple #[.int .i64 5, .int .i64 0]) (by simp [results, Tryz.results52, go_sem]) rfl ⟨⟨_, _, rfl, HC2.out.symm⟩, HX.out⟩
              | some t =>
                have HC2 := hid (HC.out.trans ((frst_lt hc).trans (decide_eq_true (frst_some hc).1)))
                have HQ := hid hc
                clear HC hc
                go_wp2_with (at_lookup; refine wpList_first_ok _ rfl _ _ rfl _ _ _ rfl HMW.out (⟨#[99, 111, 108, 111, 114]⟩ : ByteArray) (by decide) rfl (some t) (by rw [colS]; exact HQ.out) ?_)
                refine bodyPost_ret (v := .tuple #[.int .i64 0, .int .i64 0]) (by simp [results, Tryz.results52, go_sem]) rfl ⟨⟨_, _, rfl, HC2.out.symm⟩, HX.out⟩
set_option maxHeartbeats 1600000 in
theorem iIsOk_val {p : Prg} {b : Bool} (h : p.chkB = b) (lo hi : Nat) (v : Value) (w : World) (hv : p.R lo hi w v) (hh : hi ≤ w.heap.size) (hb : p.bd) (hgl : p.gs.length ≤ 1048576) :
    Calls Tryz.prog 24 #[v] w fun e w' => e = .returned (.bool b) ∧ Ext w w' := by
  have HV := hid hv
  obtain ⟨a1, c1, a2, c2, rfl, HN, HG⟩ := hv.form
  have x0 : Ext w (w.alloc (.cells #[.slice a1 p.ns.length c1, .slice a2 p.gs.length c2] 26)) := (by repeat (with_reducible (first | assumption | exact Ext.refl _ | apply Ext.alloc | apply Ext.drew | apply Ext.drewN)))
  have HH := hid h
  clear hv HN HG h
  go_enter Tryz.func24, Tryz.ntmps24
  go_wp2_with fail
  refine (iCheck_any lo hi _ p _ (HV.out.ext hh x0) (Nat.le_trans hh x0.size) hb hgl).mono ?_
  rintro e w1 ⟨⟨c, k, rfl, hc⟩, x1⟩
  rw [HH.out] at hc
  have X1 := x0.trans x1
  go_wp2
  go_ret
  exact ⟨rfl, X1⟩
end Go.Proofs.YtaegmenjgjdimaaGreat
end

section
/- This text proves the reference's functions and operations of the language by their names, at values; and that rows stay in range. -/
namespace Go.Proofs.YtaegmenjgjdimaaGreat
open Go.RowKit

/-- an operation at a column -/
def opW (num : Int) (x : List Int) : Int := opI num (x.getD 0 0) (x.getD (if num = 3 then 0 else 1) 0)
theorem op_rowE {m : Nat} {num : Int} {S : List (List Int)} {a b : List Int} (ha : S[0]? = some a) (hb : S[if num = 3 then 0 else 1]? = some b) (h1 : a.length = m) (h2 : b.length = m) : ((List.range m).map fun k => satI (opW num (colOf S k))) = List.zipWith (arithI num) a b := by
  apply List.ext_getElem?
  intro i
  by_cases hi : i < m
  · have e1 : (colOf S i).getD 0 0 = a[i]'(by omega) := by
      unfold colOf
      rw [List.getD, List.getElem?_map, ha]
      exact getD_at a i (by omega)
    have e2 : (colOf S i).getD (if num = 3 then 0 else 1) 0 = b[i]'(by omega) := by
      unfold colOf
      rw [List.getD, List.getElem?_map, hb]
      exact getD_at b i (by omega)
    rw [List.getElem?_map, List.getElem?_range hi, List.getElem?_eq_getElem (by simp; omega), List.getElem_zipWith]
    simp only [Option.map_some, Option.some.injEq]
    unfold opW arithI
    rw [e1, e2]
  · rw [List.getElem?_eq_none (by simp; omega), List.getElem?_eq_none (by simp; omega)]
theorem zip_goodE {m : Nat} {op : Int} {a b : List Int} (ha : a.length = m) (hb : b.length = m) : good m (List.zipWith (arithI op) a b) := by
  refine ⟨by simp; omega, fun x hx => ?_⟩
  obtain ⟨i, hi, rfl⟩ := List.getElem_of_mem hx
  simp
  exact satI_S9 _
theorem varL_S9E {f : Nat → Int} {tm : Int} {m q : Nat} (l : List UInt8) (hf : ∀ i, i < m * 5 → S9 (f i)) (ht : S9 tm) (hq : q < m) : S9 (varL l f tm q) := by
  unfold varL
  split
  · exact hf _ (by omega)
  split
  · exact hf _ (by omega)
  split
  · exact hf _ (by omega)
  split
  · exact hf _ (by omega)
  split
  · exact hf _ (by omega)
  · exact ht
theorem call_goodE {n m : Nat} (hm : n * n = m) (t : Tex) (l : List UInt8) (S : List (List Int)) : good m (callRow n m t l S) := by
  have hd : ∀ xs rows, good m (diffs xs n rows) := fun xs rows => ⟨by rw [diffs_length, hm], fun x hx => by
    obtain ⟨i, hi, rfl⟩ := List.getElem_of_mem hx
    rw [diffs_at]
    exact dVal_i64 _ _ _ _⟩
  unfold callRow
  split
  · exact hd _ _
  split
  · exact hd _ _
  · refine ⟨by simp, fun x hx => ?_⟩
    obtain ⟨i, hi, rfl⟩ := List.mem_map.1 hx
    exact satI_S9 _
end Go.Proofs.YtaegmenjgjdimaaGreat
end

section
/- This text says in plain numbers what the nodes of a program that passes the checks evaluate to on a grid; it walks no function. -/
namespace Go.Proofs.YtaegmenjgjdimaaGreat
open Go.RowKit

theorem Grd.partsE {g : Grd} (h : g.okB = true) : ∃ n : Nat, g.n = n ∧ n * n = g.m ∧ 1 ≤ n ∧ n ≤ 8 ∧ g.t.okB = true ∧ S9 g.tm ∧ ∀ i, i < g.m * 5 → S9 (g.f i) := by
  unfold Grd.okB at h
  simp only [Bool.and_eq_true, decide_eq_true_eq, List.all_eq_true, List.mem_range] at h
  obtain ⟨⟨⟨⟨h1, h2⟩, h3⟩, h4⟩, h5⟩ := h
  have h1 := inB_iff.1 h1
  have h3 := inB_iff.1 h3
  obtain ⟨n, hn⟩ : ∃ n : Nat, g.n = n := ⟨g.n.toNat, by omega⟩
  rw [hn] at h1 h2
  have h6 : ((n * n : Nat) : Int) = (g.m : Int) := by rw [h2]; simp
  refine ⟨n, hn, by omega, by omega, by omega, h4, ⟨by omega, by omega⟩, fun i hi => ?_⟩
  have h7 := h5 (i / 5) (by omega)
  unfold ptB ptL at h7
  simp only [List.all_cons, List.all_nil, Bool.and_true, Bool.and_eq_true] at h7
  obtain ⟨a0, a1, a2, a3, a4⟩ := h7
  have hi5 : i = i / 5 * 5 + i % 5 := by omega
  have hlt : i % 5 < 5 := Nat.mod_lt _ (by decide)
  have key : inB (g.f i) (-1000000) 1000000 = true := by
    rcases (show i % 5 = 0 ∨ i % 5 = 1 ∨ i % 5 = 2 ∨ i % 5 = 3 ∨ i % 5 = 4 by omega) with e | e | e | e | e <;> rw [e] at hi5 <;> rw [hi5]
    · exact a0
    · exact a1
    · exact a2
    · exact a3
    · exact a4
  have := inB_iff.1 key
  exact ⟨by omega, by omega⟩
/-- the root of the assignment to a name -/
def Prg.rootOf (p : Prg) (s : ByteArray) : Nat := match frst p.gs p.gs.length s.toList with | some i => ((p.gs[i]?).map fun a => a.root.toNat).getD 0 | none => 0
/-- what a node evaluates to, given what other nodes do -/
def evB (p : Prg) (n m : Nat) (f : Nat → Int) (tm : Int) (t : Tex) (rec : Nat → List Int) (x : Nd) : List Int :=
  if x.op = 1 then List.replicate m x.num else if x.op = 2 then (if isVar x.name then (List.range m).map (varL x.name.toList f tm) else rec (p.rootOf x.name))
  else if x.op = 8 then callRow n m t x.name.toList (x.args.map fun a => rec a.toNat)
  else List.zipWith (arithI x.op) ((x.args.map fun a => rec a.toNat).getD 0 []) ((x.args.map fun a => rec a.toNat).getD (if x.op = 3 then 0 else 1) [])
def evF (p : Prg) (n m : Nat) (f : Nat → Int) (tm : Int) (t : Tex) : Nat → Nat → List Int
  | 0, _ => []
  | F + 1, j => match p.ns[j]? with | some x => evB p n m f tm t (evF p n m f tm t F) x | none => []
/-- how late a node is known -/
noncomputable def Prg.rank (p : Prg) (j : Nat) : Nat := p.own j * 64 + j
noncomputable def Prg.ev (p : Prg) (n m : Nat) (f : Nat → Int) (tm : Int) (t : Tex) (j : Nat) : List Int := evF p n m f tm t (p.rank j + 1) j
/-- what a program that passes the checks is -/
structure Prg.K (p : Prg) : Prop where
  v : p.V
  name : ∀ (k : Nat) (x : Nd), p.ns[k]? = some x → x.op = 2 → isVar x.name = false → ∃ i, frst p.gs p.gs.length x.name.toList = some i ∧ i < p.own k
  call : ∀ (k : Nat) (x : Nd), p.ns[k]? = some x → x.op = 8 → 0 ≤ arity x.name ∧ arity x.name = x.args.length
  one : ∀ (i j : Nat) (a b : Asg), p.gs[i]? = some a → p.gs[j]? = some b → a.name.toList = b.name.toList → i = j
  col : ∃ i, frst p.gs p.gs.length [99, 111, 108, 111, 114] = some i
theorem frst_of {gs : List Asg} {l : List UInt8} {t : Nat} (h : asgB gs t l = true) : ∃ i, frst gs gs.length l = some i ∧ i < t := by
  cases e : frst gs gs.length l with
  | none => rw [frst_no e] at h; cases h
  | some i => rw [frst_lt e, decide_eq_true_eq] at h; exact ⟨i, rfl, h⟩
theorem Prg.chkB_K {p : Prg} (h : p.chkB = true) : p.K := by
  unfold Prg.chkB at h
  simp only [Bool.and_eq_true] at h
  obtain ⟨⟨⟨⟨h1, h2⟩, h3⟩, h4⟩, h5⟩ := h
  rw [List.all_eq_true] at h2 h3 h4
  have hv := Prg.okB_V h1
  have hone : ∀ (i j : Nat) (a b : Asg), i < j → p.gs[i]? = some a → p.gs[j]? = some b → a.name.toList = b.name.toList → False := by
    intro i j a b hij ha hb he
    have := h4 j (List.mem_range.2 (List.getElem?_eq_some_iff.1 hb).1)
    rw [Prg.asB_at hb, Bool.and_eq_true] at this
    have h6 := this.2
    rw [asgB_iff.2 ⟨i, a, hij, ha, he⟩] at h6
    cases h6
  refine ⟨hv, fun k x hx h2' hvar => ?_, fun k x hx h8 => ?_, fun i j a b ha hb he => ?_, ?_⟩
  · have := h2 k (List.mem_range.2 (List.getElem?_eq_some_iff.1 hx).1)
    rw [Prg.nameB_at hx, if_pos h2', hvar, Bool.false_or] at this
    exact frst_of this
  · have e1 := h2 k (List.mem_range.2 (List.getElem?_eq_some_iff.1 hx).1)
    rw [Prg.nameB_at hx, if_neg (by omega), if_pos h8, decide_eq_true_eq] at e1
    have e2 := h3 k (List.mem_range.2 (List.getElem?_eq_some_iff.1 hx).1)
    rw [Prg.arB_at hx, if_pos h8, decide_eq_true_eq] at e2
    exact ⟨e1, e2⟩
  · rcases Nat.lt_trichotomy i j with hij | hij | hij
    · exact (hone i j a b hij ha hb he).elim
    · exact hij
    · exact (hone j i b a hij hb ha he.symm).elim
  · obtain ⟨i, hi, _⟩ := frst_of h5
    exact ⟨i, hi⟩
/-- the root of a name that is known -/
theorem Prg.K.root {p : Prg} (h : p.K) {s : ByteArray} {i : Nat} (hf : frst p.gs p.gs.length s.toList = some i) : ∃ (s' : ByteArray), p.gs[i]? = some ⟨s', (p.rootOf s : Nat)⟩ ∧ s'.toList = s.toList ∧ p.own (p.rootOf s) = i ∧ p.rootOf s < p.ns.length := by
  obtain ⟨h1, ⟨a, h2, h3⟩, _⟩ := frst_some hf
  have hr := (h.v.ag i a h2).2
  have e : p.rootOf s = a.root.toNat := by unfold Prg.rootOf; rw [hf]; simp [h2]
  have e2 : a = ⟨a.name, (p.rootOf s : Nat)⟩ := by cases a; simp only [Asg.mk.injEq, true_and] at *; omega
  have h4 : p.gs[i]? = some ⟨a.name, (p.rootOf s : Nat)⟩ := by rw [h2]; exact congrArg some e2
  have ho := h.v.own_eq (Own.root h4)
  exact ⟨a.name, h4, h3, ho, by omega⟩
/-- the last assignment ahead of t to a name that is assigned ahead of t is the first -/
theorem Prg.K.last {p : Prg} (h : p.K) {l : List UInt8} {i t : Nat} (hf : frst p.gs p.gs.length l = some i) (ht : i < t) : lastTo p.gs t l p.gs.length = i := by
  obtain ⟨h1, ⟨a, h2, h3⟩, _⟩ := frst_some hf
  have h4 : 0 ≤ lastTo p.gs t l p.gs.length := by
    have := lastTo_asg p.gs t l
    rw [frst_lt hf, decide_eq_true ht, decide_eq_true_eq] at this
    exact this
  obtain ⟨j, b, h5, h6, h7, h8, h9⟩ := lastTo_some h4
  rw [h5, h.one i j a b h2 h8 (by rw [h3, h9])]
theorem Prg.K.rank_arg {p : Prg} (h : p.K) {j : Nat} {x : Nd} (hx : p.ns[j]? = some x) {a : Int} (ha : a ∈ x.args) : p.rank a.toNat < p.rank j ∧ a.toNat < p.ns.length ∧ p.own a.toNat = p.own j := by
  have h1 := (h.v.nd j x hx).2 a ha
  have h2 := (List.getElem?_eq_some_iff.1 hx).1
  have h3 := (h.v.own_is h2).down hx (j := a.toNat) (by rw [Int.toNat_of_nonneg h1.1]; exact ha)
  have h4 := h.v.own_eq h3
  unfold Prg.rank
  rw [h4]
  omega
theorem Prg.K.rank_name {p : Prg} (h : p.K) {j : Nat} {x : Nd} (hx : p.ns[j]? = some x) (h2 : x.op = 2) (hv : isVar x.name = false) : p.rank (p.rootOf x.name) < p.rank j := by
  obtain ⟨i, hi, hij⟩ := h.name j x hx h2 hv
  obtain ⟨s', _, _, h3, h4⟩ := h.root hi
  have := h.v.len
  unfold Prg.rank
  rw [h3]
  omega
theorem evB_congr {p : Prg} {n m : Nat} {f : Nat → Int} {tm : Int} {t : Tex} {rec rec' : Nat → List Int} {x : Nd} (h1 : ∀ a ∈ x.args, rec a.toNat = rec' a.toNat) (h2 : x.op = 2 → isVar x.name = false → rec (p.rootOf x.name) = rec' (p.rootOf x.name)) :
    evB p n m f tm t rec x = evB p n m f tm t rec' x := by
  have e : (x.args.map fun a => rec a.toNat) = x.args.map fun a => rec' a.toNat := List.map_congr_left h1
  unfold evB
  rw [e]
  by_cases o2 : x.op = 2
  · cases hv : isVar x.name
    · rw [h2 o2 hv]
    · rfl
  · simp only [if_neg o2]
theorem evF_eq {p : Prg} (h : p.K) {n m : Nat} {f : Nat → Int} {tm : Int} {t : Tex} : ∀ (F F' j : Nat), p.rank j < F → p.rank j < F' → evF p n m f tm t F j = evF p n m f tm t F' j := by
  intro F
  induction F with
  | zero => intro F' j hj; omega
  | succ F ih =>
    intro F' j hj hj'
    obtain ⟨G, rfl⟩ : ∃ G, F' = G + 1 := ⟨F' - 1, by omega⟩
    unfold evF
    cases hx : p.ns[j]? with
    | none => rfl
    | some x =>
      refine evB_congr (fun a ha => ?_) (fun o2 hv => ?_)
      · have := (h.rank_arg hx ha).1
        exact ih G _ (by omega) (by omega)
      · have := h.rank_name hx o2 hv
        exact ih G _ (by omega) (by omega)
theorem Prg.K.ev_step {p : Prg} (h : p.K) {n m : Nat} {f : Nat → Int} {tm : Int} {t : Tex} {j : Nat} {x : Nd} (hx : p.ns[j]? = some x) : p.ev n m f tm t j = evB p n m f tm t (p.ev n m f tm t) x := by
  have e : p.ev n m f tm t j = evB p n m f tm t (evF p n m f tm t (p.rank j)) x := by
    unfold Prg.ev evF
    rw [hx]
  rw [e]
  refine evB_congr (fun a ha => ?_) (fun o2 hv => ?_)
  · exact evF_eq h _ _ _ (h.rank_arg hx ha).1 (by omega)
  · exact evF_eq h _ _ _ (h.rank_name hx o2 hv) (by omega)
theorem getD_map {α : Type} (L : List α) (g : α → List Int) {i : Nat} (hi : i < L.length) : (L.map g).getD i [] = g L[i] := by
  rw [List.getD_eq_getElem?_getD, List.getElem?_map, List.getElem?_eq_getElem hi]
  rfl
/-- how many arguments an operation has -/
theorem nodeF_op {x : Nd} (h : nodeF x = true) : (x.op = 1 ∧ inB x.num 0 2559999 = true ∧ x.args.length = 0) ∨ (x.op = 2 ∧ x.args.length = 0) ∨ (x.op = 3 ∧ x.args.length = 1) ∨ (4 ≤ x.op ∧ x.op ≤ 7 ∧ x.args.length = 2) ∨ (x.op = 8 ∧ x.args.length ≤ 3) := by
  unfold nodeF at h
  simp only [Bool.and_eq_true] at h
  obtain ⟨⟨_, h2⟩, h3⟩ := h
  unfold lenB at h3
  split at h3
  · rename_i hc
    have h3 : x.args.length = 0 := by simpa using h3
    rcases hc with hc | hc
    · rw [if_pos hc] at h2; exact .inl ⟨hc, h2, h3⟩
    · exact .inr (.inl ⟨hc, h3⟩)
  split at h3
  · rename_i hc
    exact .inr (.inr (.inl ⟨hc, by simp at h3; omega⟩))
  split at h3
  · rename_i hc
    exact .inr (.inr (.inr (.inl ⟨hc.1, hc.2, by simp at h3; omega⟩)))
  split at h3
  · rename_i hc
    exact .inr (.inr (.inr (.inr ⟨hc, by simp at h3; omega⟩)))
  · cases h3
theorem Prg.K.ev_good {p : Prg} (h : p.K) {n m : Nat} {f : Nat → Int} {tm : Int} {t : Tex} (hm : n * n = m) (hf : ∀ i, i < m * 5 → S9 (f i)) (ht : S9 tm) : ∀ (F j : Nat), p.rank j < F → j < p.ns.length → good m (p.ev n m f tm t j) := by
  intro F
  induction F with
  | zero => intro j hj; omega
  | succ F ih =>
    intro j hj hjl
    have hx : p.ns[j]? = some p.ns[j] := by simp [hjl]
    obtain ⟨x, hxe⟩ : ∃ x, p.ns[j] = x := ⟨_, rfl⟩
    rw [hxe] at hx
    rw [h.ev_step hx]
    have hA : ∀ a ∈ x.args, good m (p.ev n m f tm t a.toNat) := fun a ha => by
      have := h.rank_arg hx ha
      exact ih _ (by omega) this.2.1
    unfold evB
    rcases nodeF_op (h.v.nd j x hx).1 with ⟨o, h2, h3⟩ | ⟨o, h3⟩ | ⟨o, h3⟩ | ⟨o, o', h3⟩ | ⟨o, h3⟩
    · rw [if_pos o]
      have := inB_iff.1 h2
      exact ⟨by simp, fun y hy => by rw [(List.mem_replicate.1 hy).2]; exact ⟨by omega, by omega⟩⟩
    · rw [if_neg (by omega), if_pos o]
      cases hv : isVar x.name
      · obtain ⟨i, hi, _⟩ := h.name j x hx o hv
        obtain ⟨s', _, _, h4, h5⟩ := h.root hi
        have := h.rank_name hx o hv
        exact ih _ (by omega) h5
      · refine ⟨by simp, fun y hy => ?_⟩
        obtain ⟨q, hq, rfl⟩ := List.mem_map.1 hy
        exact varL_S9E _ hf ht (List.mem_range.1 hq)
    · rw [if_neg (by omega), if_neg (by omega), if_neg (by omega), if_pos o, getD_map _ _ (by omega)]
      exact zip_goodE (hA _ (List.getElem_mem _)).1 (hA _ (List.getElem_mem _)).1
    · rw [if_neg (by omega), if_neg (by omega), if_neg (by omega), if_neg (by omega), getD_map _ _ (by omega), getD_map _ _ (by omega)]
      exact zip_goodE (hA _ (List.getElem_mem _)).1 (hA _ (List.getElem_mem _)).1
    · rw [if_neg (by omega), if_neg (by omega), if_pos o]
      exact call_goodE hm t _ _
/-- the value of a node at a point -/
noncomputable def Prg.at (p : Prg) (n m : Nat) (f : Nat → Int) (tm : Int) (t : Tex) (j q : Nat) : Int := (p.ev n m f tm t j).getD q 0
end Go.Proofs.YtaegmenjgjdimaaGreat
end

section
/- This text proves the law on regions that draw their order for effects that may write one block besides those that they lay; it speaks of no program. -/
namespace Go.Proofs.YtaegmenjgjdimaaGreat

/-- the blocks below N, but for X, are in w' as they were in w -/
def SameX (N X : Nat) (w w' : World) : Prop := ∀ b, b < N → b ≠ X → w'.heap[b]? = w.heap[b]?
theorem SameX.trans {N X : Nat} {w w1 w2 : World} (h : SameX N X w w1) (k : SameX N X w1 w2) : SameX N X w w2 := fun b h1 h2 => (k b h1 h2).trans (h b h1 h2)
theorem SameX.gr {N X : Nat} {w w1 : World} (h : w.grownBy w1 (some X)) (hN : N ≤ w.heap.size) : SameX N X w w1 := fun b h1 h2 => h.block b (by omega) (fun e => h2 (by simpa using e))
theorem SameX.of {N X : Nat} {w w1 : World} (h : Same 0 N w w1) : SameX N X w w1 := fun b h1 _ => h b (Nat.zero_le _) h1
open Classical in
/-- w, or d where d's blocks below N are those of w -/
noncomputable def lowx (N X : Nat) (w d : World) : World := if SameX N X w d then d else w
theorem lowx_same (N X : Nat) (w d : World) : SameX N X w (lowx N X w d) := by
  unfold lowx
  split
  · assumption
  · exact fun _ _ _ => rfl
theorem lowx_of {N X : Nat} {w d : World} (h : SameX N X w d) : d = lowx N X w d := by unfold lowx; rw [if_pos h]
@[go_sem] theorem cell?_lowx (N X : Nat) (w d : World) (a : Addr) (h : a.block < N) (hx : a.block ≠ X) : (lowx N X w d).cell? a = w.cell? a := World.cell?_of_block (w := w) (lowx_same N X w d a.block h hx)
@[go_sem] theorem frozen?_lowx (N X : Nat) (w d : World) (a : Addr) (h : a.block < N) (hx : a.block ≠ X) : (lowx N X w d).frozen? a = w.frozen? a := World.frozen?_of_block (w := w) (lowx_same N X w d a.block h hx)

/-- the stages of a region: reads, then the one operation that may come up, and so on; N: the blocks that no stage but number z writes -/
def wpStagesX (P : Program) (ops : Array Oper) (Q : Exit → Act → World → Prop) (N X : Nat) (w0 : World) (z : Nat) : List (List Nat × Nat) → Act → World → Prop
  | [], a, w => Q .normal a w
  | (T, e) :: r, a, w => wpQuiet P ops (fun w' => ∃ d, w' = lowx N X w0 d) (fun a' => ∃ o, ops[e]? = some o ∧ wpList P ops (Exit.then (fun a2 w2 => (e = z ∨ SameX N X w0 w2) ∧ wpStagesX P ops Q N X w0 z r a2 w2) Q) [o] a' w) (T.filterMap (ops[·]?)) a

theorem plan_of_quietX {P : Program} {ops : Array Oper} {Q : Exit → Act → World → Prop} {N X : Nat} {w0 : World} {z : Nat} {r : List (Bool × Nat)} {w : World} {K : Act → Prop}
    (hK : ∀ a, K a → wpPlan P ops Q (fun w' => ∃ d, w' = lowx N X w0 d) z r a w) :
    ∀ (T : List Nat) (a : Act), T.all (fun i => match ops[i]? with | some o => isRead o.op | none => false) = true → wpQuiet P ops (fun w' => ∃ d, w' = lowx N X w0 d) K (T.filterMap (ops[·]?)) a →
      wpPlan P ops Q (fun w' => ∃ d, w' = lowx N X w0 d) z (T.map (fun i => (true, i)) ++ r) a w
  | [], a, _, h => hK a h
  | i :: T, a, hr, h => by
    simp only [List.all_cons, Bool.and_eq_true] at hr
    obtain ⟨hri, hr'⟩ := hr
    cases ho : ops[i]? with
    | none => rw [ho] at hri; cases hri
    | some o =>
      rw [ho] at hri
      simp only [List.filterMap_cons, ho] at h
      refine ⟨o, ho, ?_⟩
      unfold takeOp
      unfold wpQuiet at h
      split
      · rename_i hw
        rw [if_pos hw] at h
        obtain ⟨v, hv, hn⟩ := h
        refine ⟨v, fun w' hw' => ?_, plan_of_quietX hK T _ hr' hn⟩
        have h1 := hv w' hw'
        unfold Oper.quietAt at h1
        cases hrun : (execOp a.eval o).run P w' with
        | halt x w1 => rw [hrun] at h1; exact h1.elim
        | ok n w1 =>
          obtain ⟨u, rfl⟩ := value_only hri hrun
          rw [hrun] at h1
          obtain ⟨e1, e2⟩ := h1
          rw [e1, e2]
      · rename_i hw
        rw [if_neg hw] at h
        exact plan_of_quietX hK T _ hr' h

theorem plan_of_stagesX {P : Program} {ops : Array Oper} {Q : Exit → Act → World → Prop} {N X : Nat} {w0 : World} {z : Nat} : ∀ (st : List (List Nat × Nat)) (a : Act) (w : World), readsOk ops st = true →
    wpStagesX P ops Q N X w0 z st a w → wpPlan P ops Q (fun w' => ∃ d, w' = lowx N X w0 d) z (stagesPlan st) a w
  | [], _, _, _, h => h
  | (T, e) :: r, a, w, hr, h => by
    simp only [readsOk, Bool.and_eq_true] at hr
    refine plan_of_quietX (K := fun a' => ∃ o, ops[e]? = some o ∧ wpList P ops (Exit.then (fun a2 w2 => (e = z ∨ SameX N X w0 w2) ∧ wpStagesX P ops Q N X w0 z r a2 w2) Q) [o] a' w) (fun a' ha => ?_) T a hr.1 h
    obtain ⟨o, ho, hl⟩ := ha
    refine ⟨o, ho, ?_⟩
    have key : ∀ a2 w2, ((e = z ∨ SameX N X w0 w2) ∧ wpStagesX P ops Q N X w0 z r a2 w2) → ((e = z ∨ ∃ d, w2 = lowx N X w0 d) ∧ wpPlan P ops Q (fun w' => ∃ d, w' = lowx N X w0 d) z (stagesPlan r) a2 w2) :=
      fun a2 w2 ⟨k1, k2⟩ => ⟨k1.imp id (fun k => ⟨_, lowx_of k⟩), plan_of_stagesX r a2 w2 hr.2 k2⟩
    unfold wpList at hl ⊢
    split
    · rename_i hw
      rw [if_pos hw] at hl
      rcases hl with hl | ⟨h1, h2⟩
      · refine .inl ?_
        have h3 := upon_then hl
        have h4 : o.wp P a' w (wpList P ops (Exit.then (fun a2 w2 => (e = z ∨ SameX N X w0 w2) ∧ wpStagesX P ops Q N X w0 z r a2 w2) Q) []) Q := h3
        have h5 := Oper.wp_mono (K' := wpList P ops (Exit.then (fun a2 w2 => (e = z ∨ ∃ d, w2 = lowx N X w0 d) ∧ wpPlan P ops Q (fun w' => ∃ d, w' = lowx N X w0 d) z (stagesPlan r) a2 w2) Q) []) (fun a2 w2 hk => key a2 w2 hk) h4
        unfold Oper.wp at h5 ⊢
        generalize (execOp a'.eval o).run P w = res at h5 ⊢
        cases res with
        | ok n w' => cases n <;> exact h5
        | halt x w' => cases x <;> exact h5
      · exact .inr ⟨h1, h2⟩
    · rename_i hw
      rw [if_neg hw] at hl
      exact key _ _ hl

/-- the law that the walks use -/
theorem wp_region_stagesX {P : Program} {Q : Exit → Act → World → Prop} {id : Nat} {a : Act} {w : World} {l : List Oper} (st : List (List Nat × Nat)) (z N X : Nat) (hm : P.follows .mixedOrders = true)
    (hB : (planB .any l.toArray z (stagesPlan st) && readsOk l.toArray st && (stagesPlan st).length == l.length) = true)
    (h : wpStagesX P l.toArray (NoPanic Q) N X w z st a w.drew) : (Code.region id l.toArray true).wp P Q a w := by
  simp only [Bool.and_eq_true, beq_iff_eq] at hB
  have hs : ∀ w2, SameX N X w w2 → ∃ d, w2 = lowx N X w d := fun w2 k => ⟨_, lowx_of k⟩
  exact wp_region_plan (stagesPlan st) z (fun w' => ∃ d, w' = lowx N X w d) hm hB.1.1 hB.2 (hs _ (fun _ _ _ => rfl)) (plan_of_stagesX st a w.drew hB.1.2 h)

theorem wpStagesX_nil {P : Program} {ops : Array Oper} {Q : Exit → Act → World → Prop} {N X : Nat} {w0 : World} {z : Nat} {a : Act} {w : World} (h : Q .normal a w) : wpStagesX P ops (NoPanic Q) N X w0 z [] a w := h
/-- one stage: the reads, then the operation; what follows stands behind a variable -/
theorem wpStagesX_cons {P : Program} {ops : Array Oper} {Q : Exit → Act → World → Prop} {N X : Nat} {w0 : World} {z : Nat} {T : List Nat} {e : Nat} {r : List (List Nat × Nat)} {a : Act} {w : World}
    (h : wpQuiet P ops (fun w' => ∃ d, w' = lowx N X w0 d) (fun a' => ∃ o, ops[e]? = some o ∧ ∀ K : Act → World → Prop, (∀ a2 w2, (e = z ∨ SameX N X w0 w2) → wpStagesX P ops Q N X w0 z r a2 w2 → K a2 w2) → wpList P ops (Exit.then K Q) [o] a' w) (T.filterMap (ops[·]?)) a) :
    wpStagesX P ops Q N X w0 z ((T, e) :: r) a w := by
  unfold wpStagesX
  have e1 : (fun a' => ∃ o, ops[e]? = some o ∧ wpList P ops (Exit.then (fun a2 w2 => (e = z ∨ SameX N X w0 w2) ∧ wpStagesX P ops Q N X w0 z r a2 w2) Q) [o] a' w) =
      (fun a' => ∃ o, ops[e]? = some o ∧ ∀ K : Act → World → Prop, (∀ a2 w2, (e = z ∨ SameX N X w0 w2) → wpStagesX P ops Q N X w0 z r a2 w2 → K a2 w2) → wpList P ops (Exit.then K Q) [o] a' w) := by
    funext a'
    refine propext ⟨fun ⟨o, ho, hl⟩ => ⟨o, ho, fun K hK => ?_⟩, fun ⟨o, ho, hl⟩ => ⟨o, ho, hl _ fun a2 w2 h1 h2 => ⟨h1, h2⟩⟩⟩
    unfold wpList at hl ⊢
    split
    · rename_i hw
      rw [if_pos hw] at hl
      rcases hl with hl | ⟨h1, h2⟩
      · refine .inl ?_
        have h4 := Oper.wp_mono (K' := wpList P ops (Exit.then K Q) []) (fun a2 w2 hk => hK a2 w2 hk.1 hk.2) hl
        unfold Oper.wp at h4 ⊢
        generalize (execOp a'.eval o).run P w = res at h4 ⊢
        cases res with
        | ok n w' => cases n <;> exact h4
        | halt x w' => cases x <;> exact h4
      · exact .inr ⟨h1, h2⟩
    · rename_i hw
      rw [if_neg hw] at hl
      exact hK _ _ hl.1 hl.2
  rw [e1]
  exact h


end Go.Proofs.YtaegmenjgjdimaaGreat
end

section
/- This text holds the memory of the program's evaluator: its box, its rows of values that are done; and the law of regions in which one block is written. -/
namespace Go.Proofs.YtaegmenjgjdimaaGreat
open Go.RowKit

/-- what stands while the evaluator in block E works on the grid n, with its rows in block D; V: the values of the nodes -/
structure EvC (p : Prg) (V : Nat → List Int) (B E D mb : Nat) (a1 a2 : Option Addr) (c1 c2 n m : Nat) (pu tu : Value) (f : Nat → Int) (tm : Int) (t : Tex) (W : World) : Prop where
  nodes : NdsAt 0 B W a1 c1 p.ns
  asgs : AsgsAt 0 B W a2 c2 p.gs
  bd : p.bd
  k : p.K
  gl : p.gs.length ≤ 1048576
  pts : Flats 5 0 B W pu m f
  tex : TexR 0 B W (.agg #[.int .i64 t.log, tu]) t
  hm : n * n = m
  n1 : 1 ≤ n
  n8 : n ≤ 8
  ok : t.okB = true
  tm9 : S9 tm
  f9 : ∀ i, i < m * 5 → S9 (f i)
  step : ∀ (j : Nat) (x : Nd), p.ns[j]? = some x → V j = evB p n m f tm t V x
  good : ∀ j, j < p.ns.length → good m (V j)
  bB : B ≤ W.heap.size
  box : Bx W E #[.slice a1 p.ns.length c1, .slice a2 p.gs.length c2, .int .i64 n, pu, .int .i64 tm, .int .i64 t.log, tu, .map (some mb), .slice (some ⟨D, 0, none⟩) p.ns.length p.ns.length] 72
  map : FM W mb p.gs p.gs.length
  dB : B ≤ D
  dl : D < W.heap.size
  eD : E ≠ D
  mD : mb ≠ D
/-- the state of its rows in a world w that W came to -/
structure EvI (p : Prg) (V : Nat → List Int) (D : Nat) (W w : World) : Prop where
  gr : W.grownBy w (some D)
  row : ∃ us : List Value, w.ownsRow 0 29 1 (.slice (some ⟨D, 0, none⟩) p.ns.length p.ns.length) p.ns.length us ∧ ∀ (j : Nat) (u : Value), us[j]? = some u → u = .slice none 0 0 ∨ OwnInts 0 w u (V j)
section
variable {p : Prg} {V : Nat → List Int} {B E D mb : Nat} {a1 a2 : Option Addr} {c1 c2 n m : Nat} {pu tu : Value} {f : Nat → Int} {tm : Int} {t : Tex} {W w w' : World}
theorem grown_ext (h : Ext w w') (row : Option Nat) : w.grownBy w' row := ⟨h.os, h.tape, h.output, h.size, fun k hk _ => h.block hk⟩
theorem EvI.keep (h : EvI p V D W w) (g : w.grownBy w' (some D)) : KeepI w w' := by
  obtain ⟨us, hr, _⟩ := h.row
  exact KeepI.grown g fun k cur fr hk => ownsRow.int hr (by decide) k cur fr (by rw [← hk]; rfl)
theorem EvI.ext (h : EvI p V D W w) (e : Ext w w') : EvI p V D W w' := by
  obtain ⟨us, hr, hu⟩ := h.row
  exact ⟨grownBy.trans h.gr (grown_ext e _), us, hr.kept (grown_ext e none) (.inr (by simp [Value.ownBlock])), fun j u hj => (hu j u hj).imp id fun o => o.ext e⟩
theorem EvI.size (h : EvI p V D W w) : W.heap.size ≤ w.heap.size := h.gr.size
theorem EvC.same (C : EvC p V B E D mb a1 a2 c1 c2 n m pu tu f tm t W) (h : EvI p V D W w) : Same 0 B W w := fun b _ hb => h.gr.block b (by have := C.bB; omega) (by have := C.dB; simp; omega)
theorem EvC.boxE (C : EvC p V B E D mb a1 a2 c1 c2 n m pu tu f tm t W) (h : EvI p V D W w) : Bx w E #[.slice a1 p.ns.length c1, .slice a2 p.gs.length c2, .int .i64 n, pu, .int .i64 tm, .int .i64 t.log, tu, .map (some mb), .slice (some ⟨D, 0, none⟩) p.ns.length p.ns.length] 72 :=
  (h.gr.block E C.box.lt (by have := C.eD; simp; omega)).trans C.box
theorem EvC.mapE (C : EvC p V B E D mb a1 a2 c1 c2 n m pu tu f tm t W) (h : EvI p V D W w) : FM w mb p.gs p.gs.length := C.map.of_block (h.gr.block mb C.map.lt (by have := C.mD; simp; omega))
theorem NdsAt.same {lo hi : Nat} {a : Option Addr} {cap : Nat} {xs : List Nd} (h : NdsAt lo hi w a cap xs) (s : Same lo hi w w') : NdsAt lo hi w' a cap xs := by
  have h1 := (h.shut).same s
  obtain ⟨a', c', e, H⟩ := h1.open
  simp only [Value.slice.injEq, true_and] at e
  obtain ⟨rfl, rfl⟩ := e
  exact H
theorem AsgsAt.same {lo hi : Nat} {a : Option Addr} {cap : Nat} {xs : List Asg} (h : AsgsAt lo hi w a cap xs) (s : Same lo hi w w') : AsgsAt lo hi w' a cap xs := by
  have h1 := (h.shut).same s
  obtain ⟨a', c', e, H⟩ := h1.open
  simp only [Value.slice.injEq, true_and] at e
  obtain ⟨rfl, rfl⟩ := e
  exact H
/-- a row that is done is no nil slice -/
theorem OwnInts.nonnil {lo : Nat} {v : Value} {xs : List Int} (h : OwnInts lo w v xs) (hx : 1 ≤ xs.length) : ∃ g c, v = .slice (some ⟨g, 0, none⟩) xs.length c := by
  obtain ⟨⟨h1, h2⟩, _⟩ := h
  rcases h2 with ⟨rfl, h4⟩ | ⟨g, cap, cur, rfl, _⟩
  · omega
  · exact ⟨g, cap, rfl⟩
/-- a node's row is stored -/
theorem EvI.store (h : EvI p V D W w) {j : Nat} (hj : j < p.ns.length) {v : Value} (hv : OwnInts 0 w v (V j)) :
    D < w.heap.size ∧ (∃ x, w.cell? ⟨D, j, none⟩ = some x) ∧ w.frozen? ⟨D, j, none⟩ = false ∧ EvI p V D W (w.setCell ⟨D, j, none⟩ v) ∧ w.grownBy (w.setCell ⟨D, j, none⟩ v) (some D) ∧ OwnInts 0 (w.setCell ⟨D, j, none⟩ v) v (V j) := by
  have h0 := h
  obtain ⟨us, hr, hu⟩ := h.row
  have hst := hr.stored j v
  have hk := h0.keep hst.2
  have hl : us.length = p.ns.length := by have := hr.1; simpa using this
  refine ⟨(hr.lt D rfl).2, ⟨us[j]'(by omega), by rw [hr.cellAt j (by omega)]; simp [show j < us.length by omega]⟩, hr.frozenAt j, ⟨grownBy.trans h.gr hst.2, us.set j v, hst.1, fun i u hi => ?_⟩, hst.2, hv.keepI hk⟩
  rw [List.getElem?_set] at hi
  split at hi
  · rename_i e
    subst e
    split at hi
    · injection hi with hi
      subst hi
      exact .inr (hv.keepI hk)
    · cases hi
  · exact (hu i u hi).imp id fun o => o.keepI hk
/-- a node's row is read -/
theorem EvI.load (C : EvC p V B E D mb a1 a2 c1 c2 n m pu tu f tm t W) (h : EvI p V D W w) {j : Nat} (hj : j < p.ns.length) :
    D < w.heap.size ∧ ∃ u, w.cell? ⟨D, j, none⟩ = some u ∧ (u = .slice none 0 0 ∨ ∃ g c, u = .slice (some ⟨g, 0, none⟩) m c ∧ OwnInts 0 w (.slice (some ⟨g, 0, none⟩) m c) (V j)) := by
  obtain ⟨us, hr, hu⟩ := h.row
  have hl : us.length = p.ns.length := by have := hr.1; simpa using this
  have hg := C.good j hj
  have h1 := C.n1
  have h2 := C.hm
  have hm1 : 1 ≤ m := by rw [← h2]; exact Nat.mul_pos h1 h1
  refine ⟨(hr.lt D rfl).2, us[j]'(by omega), by rw [hr.cellAt j (by omega)]; simp [show j < us.length by omega], ?_⟩
  rcases hu j (us[j]'(by omega)) (by simp [show j < us.length by omega]) with e | o
  · exact .inl e
  · obtain ⟨g, c, e⟩ := o.nonnil (by rw [hg.1]; exact hm1)
    rw [e] at o ⊢
    rw [hg.1] at o ⊢
    exact .inr ⟨g, c, rfl, o⟩
end
theorem sliceNe1 (b off n cap : Nat) (w : World) : (binOp .neq 29 (.slice (some ⟨b, off, none⟩) n cap) (.slice none 0 0)).run Tryz.prog w = .ok (.bool true) w := by
  simp only [binOp]
  simp [Op.equal, Op.maxDepth, Lib.run_equalIn_slice_nil w 9999 29 3 (some ⟨b, off, none⟩) n cap 0 0 Tryz.underlying29]
theorem sliceNe0 (w : World) : (binOp .neq 29 (.slice none 0 0) (.slice none 0 0)).run Tryz.prog w = .ok (.bool false) w := by kernel_rfl
end Go.Proofs.YtaegmenjgjdimaaGreat
end

section
/- This text proves what the program's evaluator hands back for a node. -/
namespace Go.Proofs.YtaegmenjgjdimaaGreat
open Go.RowKit

section
variable {p : Prg} {V : Nat → List Int} {B E D mb : Nat} {a1 a2 : Option Addr} {c1 c2 n m : Nat} {pu tu : Value} {f : Nat → Int} {tm : Int} {t : Tex} {W w w' : World}
/-- a row of headers of the call's own is written: the evaluator stands -/
theorem EvI.args (h : EvI p V D W w) {row : Option Nat} (g : w.grownBy w' row) (hr : ∀ k, row = some k → W.heap.size ≤ k ∧ ∀ (cur : Array Value) (fr : Nat × Nat), w.heap[k]? ≠ some (.cells cur 3 fr)) (hd : D < W.heap.size) : EvI p V D W w' ∧ KeepI w w' := by
  have hk : KeepI w w' := KeepI.grown g fun k cur fr e => (hr k e).2 cur fr
  obtain ⟨us, hrow, hu⟩ := h.row
  have hne : some D ≠ row := fun e => by have := (hr D e.symm).1; omega
  refine ⟨⟨⟨g.os.trans h.gr.os, g.tape.trans h.gr.tape, g.output.trans h.gr.output, Nat.le_trans h.gr.size g.size, fun i hi hne' => ?_⟩, us, hrow.kept g (.inr (by simpa [Value.ownBlock] using hne)), fun j u hj => (hu j u hj).imp id fun o => o.keepI hk⟩, hk⟩
  rw [g.block i (Nat.lt_of_lt_of_le hi h.gr.size) (fun e => by have := (hr i e.symm).1; omega)]
  exact h.gr.block i hi hne'
theorem grown_low {row : Option Nat} {w2 w3 : World} (h : w.grownBy w2 (some D)) (g : w2.grownBy w3 row) (hr : ∀ k, row = some k → w.heap.size ≤ k) : w.grownBy w3 (some D) :=
  ⟨g.os.trans h.os, g.tape.trans h.tape, g.output.trans h.output, Nat.le_trans h.size g.size, fun i hi hne => (g.block i (Nat.lt_of_lt_of_le hi h.size) (fun e => by have := hr i e.symm; omega)).trans (h.block i hi hne)⟩
theorem IntsAt.same {lo hi : Nat} {a : Option Addr} {cap : Nat} {xs : List Int} (h : IntsAt lo hi w a cap xs) (s : Same lo hi w w') : IntsAt lo hi w' a cap xs := by
  have h1 := (h.shut).same s
  obtain ⟨a', c', e, H⟩ := h1.open
  simp only [Value.slice.injEq, true_and] at e
  obtain ⟨rfl, rfl⟩ := e
  exact H
theorem SS.of_row {lo k : Nat} {av : Value} {vs : List Value} {S : List (List Int)} (h : w.ownsRow lo 29 1 av k vs) (hl : S.length = k) (hu : ∀ (q : Nat) (v : Value) (xs : List Int), vs[q]? = some v → S[q]? = some xs → OwnInts 0 w v xs) : SS 0 w.heap.size w av S := by
  have h1 : vs.length = k := by have := h.1; simpa using this
  rcases h.2 with ⟨rfl, h4⟩ | ⟨g, cap, cur, rfl, hb, hg, hc, hm, hs, ht⟩
  · have hk : k = 0 := by simpa using h4
    subst hk
    have : S = [] := List.length_eq_zero_iff.1 hl
    subst this
    exact ⟨none, 0, rfl, Nat.le_refl _, by unfold maxLen; omega, fun i xs h => by simp at h⟩
  · refine ⟨some ⟨g, 0, none⟩, cap, by rw [hl], by rw [hl]; exact hc, hm, fun i xs hi => ?_⟩
    have hi' := (List.getElem?_eq_some_iff.1 hi).1
    have hv : vs[i]? = some (vs[i]'(by omega)) := by simp [show i < vs.length by omega]
    refine ⟨g, 0, vs[i]'(by omega), rfl, Nat.zero_le _, (Array.getElem?_eq_some_iff.1 hg).1, ?_, (hu i _ xs hv hi).ints⟩
    rw [Nat.zero_add, h.cellAt i (by omega), hv]
theorem ownsRow.slotE {lo k : Nat} {av : Value} {vs : List Value} (h : w.ownsRow lo 29 1 av k vs) (hk : 1 ≤ k) : ∃ g c, av = .slice (some ⟨g, 0, none⟩) k c ∧ lo ≤ g ∧ g < w.heap.size := by
  rcases h.2 with ⟨rfl, h4⟩ | ⟨g, cap, cur, rfl, hb, hg, _⟩
  · have : k = 0 := by simpa using h4
    omega
  · exact ⟨g, cap, rfl, hb, (Array.getElem?_eq_some_iff.1 hg).1⟩
theorem OwnInts.slot {lo k : Nat} {v : Value} {xs : List Int} (h : OwnInts lo w v xs) (hx : xs.length = k) (hk : 1 ≤ k) : ∃ g c, v = .slice (some ⟨g, 0, none⟩) k c := by
  subst hx
  exact h.nonnil hk
set_option maxRecDepth 100000 in
set_option maxHeartbeats 25600000 in
theorem iValues_any (C : EvC p V B E D mb a1 a2 c1 c2 n m pu tu f tm t W) (F : Nat) :
    ∀ (node : Nat) (w : World), p.rank node < F → node < p.ns.length → EvI p V D W w →
    Calls Tryz.prog 28 #[.pointer (some ⟨E, 0, none⟩), .int .i64 node] w fun e w' => (∃ g c, e = .returned (.slice (some ⟨g, 0, none⟩) m c) ∧ OwnInts 0 w' (.slice (some ⟨g, 0, none⟩) m c) (V node)) ∧ EvI p V D W w' ∧ w.grownBy w' (some D) := by
  have hm1 : 1 ≤ m := by have h1 := C.n1; rw [← C.hm]; exact Nat.mul_pos h1 h1
  have hm64 : m ≤ 64 := by
    have := C.n8
    have h2 := C.hm
    have : n * n ≤ 8 * 8 := Nat.mul_le_mul C.n8 C.n8
    omega
  have hmi : (n : Int) * n = m := by rw [← C.hm]; simp
  have HMI := hid hmi
  clear hmi
  induction F with
  | zero => intro node w h; omega
  | succ F ih =>
    intro node w hF hnode hI
    have hB := C.boxE hI
    obtain ⟨hD, u, hu, hcase⟩ := EvI.load C hI hnode
    have l5 := C.k.v.len
    have IH := hid ih
    have HC := hid C
    have HII := hid hI
    have eD := C.eD
    have q := hB.lt
    have q0 := hB.cell 0
    simp only [List.getElem?_toArray, List.getElem?_cons_zero, List.getElem?_cons_succ] at q0
    have q1 := hB.cell 1
    simp only [List.getElem?_toArray, List.getElem?_cons_zero, List.getElem?_cons_succ] at q1
    have q2 := hB.cell 2
    simp only [List.getElem?_toArray, List.getElem?_cons_zero, List.getElem?_cons_succ] at q2
    have q3 := hB.cell 3
    simp only [List.getElem?_toArray, List.getElem?_cons_zero, List.getElem?_cons_succ] at q3
    have q4 := hB.cell 4
    simp only [List.getElem?_toArray, List.getElem?_cons_zero, List.getElem?_cons_succ] at q4
    have q5 := hB.cell 5
    simp only [List.getElem?_toArray, List.getElem?_cons_zero, List.getElem?_cons_succ] at q5
    have q6 := hB.cell 6
    simp only [List.getElem?_toArray, List.getElem?_cons_zero, List.getElem?_cons_succ] at q6
    have q7 := hB.cell 7
    simp only [List.getElem?_toArray, List.getElem?_cons_zero, List.getElem?_cons_succ] at q7
    have q8 := hB.cell 8
    simp only [List.getElem?_toArray, List.getElem?_cons_zero, List.getElem?_cons_succ] at q8
    clear hB ih
    rcases hcase with rfl | ⟨g, c, rfl, hO⟩
    case inr =>
      have HO := hid hO
      have hne := fun w => sliceNe1 g 0 m c w
      clear hO hI C
      go_enter Tryz.func28, Tryz.ntmps28
      go_wp2
      go_ret
      exact ⟨⟨_, _, rfl, HO.out⟩, HII.out, grownBy.refl _ _⟩
    case inl =>
      have hs0 := HC.out.same hI
      have hBw : B ≤ w.heap.size := Nat.le_trans HC.out.bB hI.size
      obtain ⟨b, off, op, s, num, sa, sc, ra, rfl, hb1, hbw, hget, io, inn, -, HI, y0, y1, y2, y3⟩ := (HC.out.nodes.same hs0).atW hnode (Ext.refl w) hBw
      have HG := hid hget
      have li1 := HI.le
      have li2 := HI.cap
      have hne := sliceNe0
      have HS0 := hid hs0
      have lar : Hid (ra.length ≤ 3) := hid (nodeF_len (HC.out.k.v.nd node _ hget).1)
      have hlar := lar.out
      have hWw := hI.size
      clear hs0 hget hI C
      go_enter Tryz.func28, Tryz.ntmps28
      go_wp2
      have HI1 := hid (HII.out.ext (show Ext w ((w.alloc (.cells #[] 29)).alloc (.cells #[.int .i64 op, .string s, .int .i64 num, .slice sa ra.length sc] 79)) from (by repeat (with_reducible (first | assumption | exact Ext.refl _ | apply Ext.alloc | apply Ext.drew | apply Ext.drewN)))))
      have HR1 := hid ((ownsRow.empty (lo := w.heap.size) (w := w.alloc (.cells #[] 29)) (e := 29) (g := w.heap.size) (Nat.le_refl _) (heap_alloc_new w _)).alloc (.cells #[.int .i64 op, .string s, .int .i64 num, .slice sa ra.length sc] 79))
      have HB1 := hid (Bx.madeAt (B := w.heap.size + 1) (w.alloc (.cells #[] 29)) #[.int .i64 op, .string s, .int .i64 num, .slice sa ra.length sc] 79 (by simp))
      go_loopw [6, 37] (fun av i wr => ∃ (j : Nat) (vs : List Value), j ≤ ra.length ∧ i = .int .i64 j ∧ wr.ownsRow w.heap.size 29 1 av j vs ∧ (∀ (q : Nat) (v : Value) (y : Int), vs[q]? = some v → ra[q]? = some y → OwnInts 0 wr v (V y.toNat)) ∧ EvI p V D W wr ∧ Bx wr (w.heap.size + 1) #[.int .i64 op, .string s, .int .i64 num, .slice sa ra.length sc] 79 ∧ w.grownBy wr (some D)) (fun _ i _ => ra.length - (intOf i).toNat)
      case atStart => exact ⟨0, [], by omega, rfl, HR1.out, fun q v y h => by simp at h, HI1.out, HB1.out, grown_ext (by repeat (with_reducible (first | assumption | exact Ext.refl _ | apply Ext.alloc | apply Ext.drew | apply Ext.drewN))) _⟩
      case round =>
        clear HI1 HR1 HB1 hD hu q q0 q1 q2 q3 q4 q5 q6 q7 q8 y0 y1 y2 y3
        obtain ⟨j, vs, hj, rfl, hR, hvs, hI, hB, hg⟩ := hrel
        have HR := hid hR
        have HVS := hid hvs
        have HI2 := hid hI
        have HB := hid hB
        have HGR := hid hg
        by_cases hlj : j < ra.length
        · have hS2 : Same 0 B w wr := fun b h1 h2 => (HC.out.same hI b h1 h2).trans (HS0.out b h1 h2).symm
          obtain ⟨b3, off3, y, rfl, hb3, hy, _, hc3⟩ := (HI.same hS2).atE hlj (Ext.refl wr) (Nat.le_trans HC.out.bB hI.size)
          have hr := HC.out.k.rank_arg HG.out (List.mem_of_getElem? hy)
          have hyb := (HC.out.k.v.nd node _ HG.out).2 y (List.mem_of_getElem? hy)
          obtain ⟨z, rfl⟩ : ∃ z : Nat, y = z := ⟨y.toNat, by omega⟩
          rw [Int.toNat_natCast] at hr
          have HY := hid hy
          have hrk : p.rank z < F := by omega
          have hzl : z < p.ns.length := by omega
          clear hR hvs hI hB hg hy hr hyb hS2
          go_wp2_with fail
          refine (IH.out z _ hrk hzl HI2.out).mono ?_
          rintro e w2 ⟨⟨g, c, rfl, hO⟩, hI3, hg3⟩
          have hk3 := HI2.out.keep hg3
          have hzw := HGR.out.size
          have hz3 := hg3.size
          have hown : ∀ k, u6.ownBlock = some k → w.heap.size ≤ k := fun k hk => (HR.out.lt k hk).1
          have hR3 := (HR.out.kept hg3 (by
            cases e : u6.ownBlock with
            | none => exact .inl rfl
            | some k => right; intro e2; injection e2 with e2; have := hown k e; have := HC.out.dl; omega)).alloc (.cells #[.slice (some ⟨g, 0, none⟩) m c] 29)
          have HR3 := hid hR3
          have hx3 : Ext w2 (w2.alloc (.cells #[.slice (some ⟨g, 0, none⟩) m c] 29)) := (by repeat (with_reducible (first | assumption | exact Ext.refl _ | apply Ext.alloc | apply Ext.drew | apply Ext.drewN)))
          have HI4 := hid (hI3.ext hx3)
          have HO4 := hid (hO.ext hx3)
          have HV4 := hid (fun (q : Nat) (v : Value) (y : Int) (h1 : vs[q]? = some v) (h2 : ra[q]? = some y) => ((HVS.out q v y h1 h2).keepI hk3).ext hx3)
          have HB4 := hid ((show Bx w2 (w.heap.size + 1) _ _ from (hg3.block (w.heap.size + 1) HB.out.lt (by have := HC.out.dl; simp; omega)).trans HB.out).ext hx3)
          have HG4 := hid (grownBy.trans (grownBy.trans HGR.out hg3) (grown_ext hx3 (some D)))
          have hown2 := hid hown
          clear hR3 hx3 hI3 hg3 hO hk3 HR HVS HI2 HB hown
          go_wp2_with (at_builtin; refine wpList_append_row _ rfl _ _ rfl w.heap.size u6 j vs rfl HR3.out (.slice (some ⟨g, 0, none⟩) m c) rfl w2.heap.size rfl (by simp [go_sem]) (by omega) (by simp; omega) ?_; intro v' w3 hown' hgrow)
          obtain ⟨hI5, hk5⟩ := HI4.out.args hgrow (fun k hk => ⟨by have := hown2.out k hk; omega, fun cur fr => ownsRow.int HR3.out (by decide) k cur fr hk⟩) HC.out.dl
          have hB5 : Bx w3 (w.heap.size + 1) _ _ := (hgrow.block (w.heap.size + 1) HB4.out.lt (fun e => ownsRow.not HR3.out HB4.out (by decide) e.symm)).trans HB4.out
          have hG5 := grown_low HG4.out hgrow hown2.out
          have HR5 := hid hown'
          have HI5 := hid hI5
          have HB5 := hid hB5
          have HG5 := hid hG5
          have HK5 := hid hk5
          clear hown' hgrow hI5 hk5 hB5 hG5
          go_wp2
          go_roundw
          case rel =>
            refine ⟨j + 1, vs ++ [.slice (some ⟨g, 0, none⟩) m c], by omega, by go_num, HR5.out, fun q v y h1 h2 => ?_, HI5.out, HB5.out, HG5.out⟩
            have hvl : vs.length = j := by have := HR3.out.1; simpa using this
            by_cases e : q < vs.length
            · rw [List.getElem?_append_left e] at h1
              exact (HV4.out q v y h1 h2).keepI HK5.out
            · rw [List.getElem?_append_right (by omega)] at h1
              have hq := (List.getElem?_eq_some_iff.1 h1).1
              simp at hq
              have hqj : q = j := by omega
              subst hqj
              rw [HY.out] at h2
              injection h2 with h2
              subst h2
              rw [show q - vs.length = 0 by omega] at h1
              simp at h1
              subst h1
              rw [Int.toNat_natCast]
              exact HO4.out.keepI HK5.out
          case measure => simp [intOf]; omega
        · --BRANCHES
          obtain rfl : j = ra.length := by omega
          have hSS : SS 0 wr.heap.size wr u6 (ra.map fun a => V a.toNat) := SS.of_row hR (by simp) (fun q v xs h1 h2 => by
            rw [List.getElem?_map] at h2
            cases h3 : ra[q]? with
            | none => rw [h3] at h2; cases h2
            | some y => rw [h3] at h2; injection h2 with h2; subst h2; exact hvs q v y h1 h3)
          have HSS := hid hSS
          have HI := hid hI
          have hBE := HC.out.boxE hI
          have HSB := hid (HC.out.same hI)
          have hWr := hI.size
          have q := hBE.lt
          have q0 := hBE.cell 0
          simp only [List.getElem?_toArray, List.getElem?_cons_zero, List.getElem?_cons_succ] at q0
          have q1 := hBE.cell 1
          simp only [List.getElem?_toArray, List.getElem?_cons_zero, List.getElem?_cons_succ] at q1
          have q2 := hBE.cell 2
          simp only [List.getElem?_toArray, List.getElem?_cons_zero, List.getElem?_cons_succ] at q2
          have q3 := hBE.cell 3
          simp only [List.getElem?_toArray, List.getElem?_cons_zero, List.getElem?_cons_succ] at q3
          have q4 := hBE.cell 4
          simp only [List.getElem?_toArray, List.getElem?_cons_zero, List.getElem?_cons_succ] at q4
          have q5 := hBE.cell 5
          simp only [List.getElem?_toArray, List.getElem?_cons_zero, List.getElem?_cons_succ] at q5
          have q6 := hBE.cell 6
          simp only [List.getElem?_toArray, List.getElem?_cons_zero, List.getElem?_cons_succ] at q6
          have q7 := hBE.cell 7
          simp only [List.getElem?_toArray, List.getElem?_cons_zero, List.getElem?_cons_succ] at q7
          have q8 := hBE.cell 8
          simp only [List.getElem?_toArray, List.getElem?_cons_zero, List.getElem?_cons_succ] at q8
          have d := hB.lt
          have d0 := hB.cell 0
          simp only [List.getElem?_toArray, List.getElem?_cons_zero, List.getElem?_cons_succ] at d0
          have d1 := hB.cell 1
          simp only [List.getElem?_toArray, List.getElem?_cons_zero, List.getElem?_cons_succ] at d1
          have d2 := hB.cell 2
          simp only [List.getElem?_toArray, List.getElem?_cons_zero, List.getElem?_cons_succ] at d2
          have d3 := hB.cell 3
          simp only [List.getElem?_toArray, List.getElem?_cons_zero, List.getElem?_cons_succ] at d3
          have HGO := hid (fun r (h : r ∈ (ra.map fun a => V a.toNat)) => (by
            obtain ⟨a, ha, rfl⟩ := List.mem_map.1 h
            exact HC.out.good _ (HC.out.k.rank_arg HG.out ha).2.1 : good m r))
          have hdl := HC.out.dl
          have hzw := hg.size
          have hnD : w.heap.size + 1 ≠ D := by omega
          have HVE := hid (HC.out.step node _ HG.out)
          have hnodeF := (HC.out.k.v.nd node _ HG.out).1
          have HRR := hid hR
          have hvs0 := hid hvs
          clear hR hvs hI hB hg hBE hSS HR HVS HI2 HB
          rcases nodeF_op hnodeF with ⟨o, h2, h3⟩ | ⟨o, h3⟩ | ⟨o, h3⟩ | ⟨o, o', h3⟩ | ⟨o, h3⟩
          all_goals simp only at o h3
          case inl =>
            subst o
            have HV : Hid (V node = List.replicate m num) := hid (by rw [HVE.out]; rfl)
            clear HVE hnodeF
            go_wp2_with fail
            refine wp_region_stagesS [([0, 1, 2, 3, 4, 5], 6), ([], 7)] 99 (fun w' => ∃ d, w' = lowx (wr.heap.size) (D) _ d) (by kernel_rfl) (by kernel_rfl) ⟨_, lowx_of (fun _ _ _ => rfl)⟩ ?_
            refine wpStagesS_cons ?_
            simp only [List.filterMap_cons, List.filterMap_nil, List.getElem?_toArray, List.getElem?_cons_zero, List.getElem?_cons_succ]
            show wpQuiet _ _ _ _ [_, _, _, _, _, _] _
            repeat (go_big_quiet_step (fail))
            refine wpQuiet_nil ⟨_, rfl, fun K hK => ?_⟩
            go_wp2_with fail
            refine (iConstant_any num n m pu tm t.log tu _ HMI.out (by omega) inn).mono ?_
            rintro e w5 ⟨r, rfl, hO, x5⟩
            have X5 : Ext wr w5 := Ext.trans (by repeat (with_reducible (first | assumption | exact Ext.refl _ | apply Ext.alloc | apply Ext.drew | apply Ext.drewN))) x5
            obtain ⟨g, c, rfl⟩ := hO.slot (k := m) (by simp) hm1
            have HO5 : Hid (OwnInts 0 w5 (.slice (some ⟨g, 0, none⟩) m c) (V node)) := hid (by rw [HV.out]; exact hO.low (Nat.zero_le _))
            have HI5 := hid (HI.out.ext X5)
            have HG5 := hid (grown_ext X5 (some D))
            clear hO
            go_wp2_with fail
            refine hK _ _ (.inr ⟨_, lowx_of (fun b hb _ => X5.block hb)⟩) ?_
            clear hK K
            refine wpStagesS_cons ?_
            simp only [List.filterMap_nil]
            show wpQuiet _ _ _ _ [] _
            try simp only [Act.put, List.setIfInBounds_toArray, List.set_cons_succ, List.set_cons_zero]
            repeat (go_big_quiet_step (fail))
            refine wpQuiet_nil ⟨_, rfl, fun K hK => ?_⟩
            go_wp2_with fail
            go_wp2_with fail
            refine hK _ _ (.inr ⟨_, lowx_of (fun b hb _ => X5.block hb)⟩) ?_
            clear hK K
            refine wpStagesS_nil ?_
            obtain ⟨e1, ⟨ex, e2⟩, e3, hI6, hg6, hO6⟩ := EvI.store HI5.out hnode HO5.out
            have hB6 := HC.out.boxE HI5.out
            have z := hB6.lt
            have z0 := hB6.cell 0
            simp only [List.getElem?_toArray, List.getElem?_cons_zero, List.getElem?_cons_succ] at z0
            have z1 := hB6.cell 1
            simp only [List.getElem?_toArray, List.getElem?_cons_zero, List.getElem?_cons_succ] at z1
            have z2 := hB6.cell 2
            simp only [List.getElem?_toArray, List.getElem?_cons_zero, List.getElem?_cons_succ] at z2
            have z3 := hB6.cell 3
            simp only [List.getElem?_toArray, List.getElem?_cons_zero, List.getElem?_cons_succ] at z3
            have z4 := hB6.cell 4
            simp only [List.getElem?_toArray, List.getElem?_cons_zero, List.getElem?_cons_succ] at z4
            have z5 := hB6.cell 5
            simp only [List.getElem?_toArray, List.getElem?_cons_zero, List.getElem?_cons_succ] at z5
            have z6 := hB6.cell 6
            simp only [List.getElem?_toArray, List.getElem?_cons_zero, List.getElem?_cons_succ] at z6
            have z7 := hB6.cell 7
            simp only [List.getElem?_toArray, List.getElem?_cons_zero, List.getElem?_cons_succ] at z7
            have z8 := hB6.cell 8
            simp only [List.getElem?_toArray, List.getElem?_cons_zero, List.getElem?_cons_succ] at z8
            have HI6 := hid hI6
            have HO6 := hid hO6
            have HG6 := hid hg6
            clear hB6 hI6 hg6 hO6 HI5 HO5
            go_wp2
            go_ret
            exact ⟨⟨_, _, rfl, HO6.out⟩, HI6.out, grownBy.trans (grownBy.trans HGR.out HG5.out) HG6.out⟩
          case inr.inl =>
            subst o
            cases hv : isVar s
            case true =>
              have HV : Hid (V node = (List.range m).map (varL s.toList f tm)) := hid (by rw [HVE.out]; simp [evB, hv])
              have HBV := hid hv
              have HPT := hid (HC.out.pts.same HSB.out)
              clear HVE hnodeF hv
              go_wp2_with fail
              refine (iIsVariable_val HBV.out _).mono ?_
              rintro e w4 ⟨rfl, rfl⟩
              go_wp2_with fail
              refine wp_region_stagesS [([0, 1, 2, 3, 4, 5], 6), ([], 7)] 99 (fun w' => ∃ d, w' = lowx (wr.heap.size) (D) _ d) (by kernel_rfl) (by kernel_rfl) ⟨_, lowx_of (fun _ _ _ => rfl)⟩ ?_
              refine wpStagesS_cons ?_
              simp only [List.filterMap_cons, List.filterMap_nil, List.getElem?_toArray, List.getElem?_cons_zero, List.getElem?_cons_succ]
              show wpQuiet _ _ _ _ [_, _, _, _, _, _] _
              repeat (go_big_quiet_step (fail))
              refine wpQuiet_nil ⟨_, rfl, fun K hK => ?_⟩
              go_wp2_with fail
              refine (iLoaded_any s 0 B n m pu tu f tm t.log _ (HPT.out.ext (by omega) (by repeat (with_reducible (first | assumption | exact Ext.refl _ | apply Ext.alloc | apply Ext.drew | apply Ext.drewN)))) (by simp; omega) HMI.out hm64 (by have := HC.out.tm9; exact ⟨by have := this.1; omega, by have := this.2; omega⟩)).mono ?_
              rintro e w5 ⟨r, rfl, hO, x5⟩
              have X5 : Ext wr w5 := Ext.trans (by repeat (with_reducible (first | assumption | exact Ext.refl _ | apply Ext.alloc | apply Ext.drew | apply Ext.drewN))) x5
              obtain ⟨g, c, rfl⟩ := hO.slot (k := m) (by simp) hm1
              have HO5 : Hid (OwnInts 0 w5 (.slice (some ⟨g, 0, none⟩) m c) (V node)) := hid (by rw [HV.out]; exact hO.low (Nat.zero_le _))
              have HI5 := hid (HI.out.ext X5)
              have HG5 := hid (grown_ext X5 (some D))
              clear hO
              go_wp2_with fail
              refine hK _ _ (.inr ⟨_, lowx_of (fun b hb _ => X5.block hb)⟩) ?_
              clear hK K
              refine wpStagesS_cons ?_
              simp only [List.filterMap_nil]
              show wpQuiet _ _ _ _ [] _
              try simp only [Act.put, List.setIfInBounds_toArray, List.set_cons_succ, List.set_cons_zero]
              repeat (go_big_quiet_step (fail))
              refine wpQuiet_nil ⟨_, rfl, fun K hK => ?_⟩
              go_wp2_with fail
              go_wp2_with fail
              refine hK _ _ (.inr ⟨_, lowx_of (fun b hb _ => X5.block hb)⟩) ?_
              clear hK K
              refine wpStagesS_nil ?_
              obtain ⟨e1, ⟨ex, e2⟩, e3, hI6, hg6, hO6⟩ := EvI.store HI5.out hnode HO5.out
              have hB6 := HC.out.boxE HI5.out
              have z := hB6.lt
              have z0 := hB6.cell 0
              simp only [List.getElem?_toArray, List.getElem?_cons_zero, List.getElem?_cons_succ] at z0
              have z1 := hB6.cell 1
              simp only [List.getElem?_toArray, List.getElem?_cons_zero, List.getElem?_cons_succ] at z1
              have z2 := hB6.cell 2
              simp only [List.getElem?_toArray, List.getElem?_cons_zero, List.getElem?_cons_succ] at z2
              have z3 := hB6.cell 3
              simp only [List.getElem?_toArray, List.getElem?_cons_zero, List.getElem?_cons_succ] at z3
              have z4 := hB6.cell 4
              simp only [List.getElem?_toArray, List.getElem?_cons_zero, List.getElem?_cons_succ] at z4
              have z5 := hB6.cell 5
              simp only [List.getElem?_toArray, List.getElem?_cons_zero, List.getElem?_cons_succ] at z5
              have z6 := hB6.cell 6
              simp only [List.getElem?_toArray, List.getElem?_cons_zero, List.getElem?_cons_succ] at z6
              have z7 := hB6.cell 7
              simp only [List.getElem?_toArray, List.getElem?_cons_zero, List.getElem?_cons_succ] at z7
              have z8 := hB6.cell 8
              simp only [List.getElem?_toArray, List.getElem?_cons_zero, List.getElem?_cons_succ] at z8
              have HI6 := hid hI6
              have HO6 := hid hO6
              have HG6 := hid hg6
              clear hB6 hI6 hg6 hO6 HI5 HO5
              go_wp2
              go_ret
              exact ⟨⟨_, _, rfl, HO6.out⟩, HI6.out, grownBy.trans (grownBy.trans HGR.out HG5.out) HG6.out⟩
            case false =>
              obtain ⟨i, hi, hik⟩ := HC.out.k.name node _ HG.out rfl hv
              simp only at hi
              obtain ⟨s', hg1, _, how, hrl⟩ := HC.out.k.root hi
              have hrk := HC.out.k.rank_name HG.out rfl hv
              simp only at hrk
              have HV : Hid (V node = V (p.rootOf s)) := hid (by rw [HVE.out]; simp [evB, hv])
              obtain ⟨rt, hrt⟩ : ∃ rt, p.rootOf s = rt := ⟨_, rfl⟩
              rw [hrt] at hg1 how hrl hrk HV
              have hil := (List.getElem?_eq_some_iff.1 hg1).1
              obtain ⟨_, b4, off4, ea4, _, hb4, z0, z1⟩ := (HC.out.asgs.same HSB.out).cell i _ hg1
              simp only at z0 z1
              have hdB := HC.out.dB
              have hb4D : b4 ≠ D := by omega
              have hb4w : b4 < wr.heap.size := by omega
              subst ea4
              have hla := (HC.out.asgs).le
              have hlc := (HC.out.asgs).cap
              have hsz := HC.out.bd.1 _ (List.mem_of_getElem? HG.out)
              simp only at hsz
              have hM := HC.out.mapE HI.out
              have hmD := HC.out.mD
              have hlook : ∀ d, (Instr.lookup 69 (.map (some mb)) (.string s) false).run Tryz.prog (lowx wr.heap.size D wr d) = .ok (.int .i64 (i : Int)) (lowx wr.heap.size D wr d) := fun d => (hM.of_block (w' := lowx wr.heap.size D wr d) (lowx_same _ _ _ _ _ hM.lt hmD)).look hsz hi
              have hlook2 : ∀ d, (Instr.lookup 69 (.map (some mb)) (.string s) false).run Tryz.prog (lowx wr.heap.size D wr.drew d) = .ok (.int .i64 (i : Int)) (lowx wr.heap.size D wr.drew d) := fun d => ((hM.ext ((Ext.refl wr).drew)).of_block (w' := lowx wr.heap.size D wr.drew d) (lowx_same _ _ _ _ _ hM.lt hmD)).look hsz hi
              have HBV := hid hv
              clear HVE hnodeF hv hM hg1 hi
              go_wp2_with fail
              refine (iIsVariable_val HBV.out _).mono ?_
              rintro e w4 ⟨rfl, rfl⟩
              go_wp2_with fail
              refine wp_region_stagesS [([0, 1, 2, 3, 4, 5, 6, 7, 8, 9, 10, 11, 12, 13, 14, 15], 16), ([], 17)] 99 (fun w' => ∃ d, w' = lowx (wr.heap.size) (D) _ d) (by kernel_rfl) (by kernel_rfl) ⟨_, lowx_of (fun _ _ _ => rfl)⟩ ?_
              refine wpStagesS_cons ?_
              simp only [List.filterMap_cons, List.filterMap_nil, List.getElem?_toArray, List.getElem?_cons_zero, List.getElem?_cons_succ]
              show wpQuiet _ _ _ _ [_, _, _, _, _, _, _, _, _, _, _, _, _, _, _, _] _
              repeat (go_big_quiet_step (fail))
              refine wpQuiet_nil ⟨_, rfl, fun K hK => ?_⟩
              go_wp2_with fail
              refine (IH.out rt _ (by omega) hrl (HI.out.ext ((Ext.refl wr).drew))).mono ?_
              rintro e w5 ⟨⟨g, c, rfl, hO⟩, hI5, hg5⟩
              have hg5' : wr.grownBy w5 (some D) := grownBy.trans (grown_ext ((Ext.refl wr).drew) _) hg5
              have HO5 : Hid (OwnInts 0 w5 (.slice (some ⟨g, 0, none⟩) m c) (V node)) := hid (by rw [HV.out]; exact hO)
              have HI5 := hid hI5
              have HG5 := hid hg5'
              have HGd := hid hg5
              clear hO hI5 hg5 hlook hlook2
              go_wp2_with fail
              refine hK _ _ (.inr ⟨_, lowx_of (SameX.gr HGd.out (Nat.le_refl _))⟩) ?_
              clear hK K
              refine wpStagesS_cons ?_
              simp only [List.filterMap_nil]
              show wpQuiet _ _ _ _ [] _
              try simp only [Act.put, List.setIfInBounds_toArray, List.set_cons_succ, List.set_cons_zero]
              repeat (go_big_quiet_step (fail))
              refine wpQuiet_nil ⟨_, rfl, fun K hK => ?_⟩
              go_wp2_with fail
              go_wp2_with fail
              refine hK _ _ (.inr ⟨_, lowx_of (SameX.gr HGd.out (Nat.le_refl _))⟩) ?_
              clear hK K
              refine wpStagesS_nil ?_
              obtain ⟨e1, ⟨ex, e2⟩, e3, hI6, hg6, hO6⟩ := EvI.store HI5.out hnode HO5.out
              have hB6 := HC.out.boxE HI5.out
              have z := hB6.lt
              have z0 := hB6.cell 0
              simp only [List.getElem?_toArray, List.getElem?_cons_zero, List.getElem?_cons_succ] at z0
              have z1 := hB6.cell 1
              simp only [List.getElem?_toArray, List.getElem?_cons_zero, List.getElem?_cons_succ] at z1
              have z2 := hB6.cell 2
              simp only [List.getElem?_toArray, List.getElem?_cons_zero, List.getElem?_cons_succ] at z2
              have z3 := hB6.cell 3
              simp only [List.getElem?_toArray, List.getElem?_cons_zero, List.getElem?_cons_succ] at z3
              have z4 := hB6.cell 4
              simp only [List.getElem?_toArray, List.getElem?_cons_zero, List.getElem?_cons_succ] at z4
              have z5 := hB6.cell 5
              simp only [List.getElem?_toArray, List.getElem?_cons_zero, List.getElem?_cons_succ] at z5
              have z6 := hB6.cell 6
              simp only [List.getElem?_toArray, List.getElem?_cons_zero, List.getElem?_cons_succ] at z6
              have z7 := hB6.cell 7
              simp only [List.getElem?_toArray, List.getElem?_cons_zero, List.getElem?_cons_succ] at z7
              have z8 := hB6.cell 8
              simp only [List.getElem?_toArray, List.getElem?_cons_zero, List.getElem?_cons_succ] at z8
              have HI6 := hid hI6
              have HO6 := hid hO6
              have HG6 := hid hg6
              clear hB6 hI6 hg6 hO6 HI5 HO5
              go_wp2
              go_ret
              exact ⟨⟨_, _, rfl, HO6.out⟩, HI6.out, grownBy.trans (grownBy.trans HGR.out HG5.out) HG6.out⟩
          case inr.inr.inl =>
            subst o
            obtain ⟨g0, cap0, rfl, hgw, hg0⟩ := ownsRow.slotE HRR.out (by omega)
            have hg0D : g0 ≠ D := by omega
            obtain ⟨x0, hx0⟩ : ∃ x0, vs[0]? = some x0 := ⟨vs[0]'(by have := HRR.out.1; simp at this; omega), by simp⟩
            have k0 := HRR.out.cellAt 0 (by omega)
            rw [hx0] at k0
            obtain ⟨y0, hy0⟩ : ∃ y0, ra[0]? = some y0 := ⟨ra[0]'(by omega), by simp⟩
            have HO0 := hid (hvs0.out 0 x0 y0 hx0 hy0)
            have hgd := HC.out.good _ (HC.out.k.rank_arg HG.out (List.mem_of_getElem? hy0)).2.1
            have HGD := hid hgd
            have HV : Hid (V node = List.zipWith (arithI 3) (V y0.toNat) (V y0.toNat)) := hid (by
              rw [HVE.out]
              simp [evB, hy0])
            clear HVE hnodeF hx0 hy0 hgd
            go_wp2_with fail
            refine wp_region_stagesS [([0, 1, 2, 3, 4, 5, 6, 7], 8), ([], 9)] 99 (fun w' => ∃ d, w' = lowx (wr.heap.size) (D) _ d) (by kernel_rfl) (by kernel_rfl) ⟨_, lowx_of (fun _ _ _ => rfl)⟩ ?_
            refine wpStagesS_cons ?_
            simp only [List.filterMap_cons, List.filterMap_nil, List.getElem?_toArray, List.getElem?_cons_zero, List.getElem?_cons_succ]
            show wpQuiet _ _ _ _ [_, _, _, _, _, _, _, _] _
            repeat (go_big_quiet_step (fail))
            refine wpQuiet_nil ⟨_, rfl, fun K hK => ?_⟩
            go_wp2_with fail
            refine (iCombined_any 0 wr.heap.size 0 wr.heap.size x0 x0 3 (V y0.toNat) (V y0.toNat) _ (by unfold opsOk; omega) (HO0.out.ints.ext (Nat.le_refl _) (by repeat (with_reducible (first | assumption | exact Ext.refl _ | apply Ext.alloc | apply Ext.drew | apply Ext.drewN)))) (by simp) (HO0.out.ints.ext (Nat.le_refl _) (by repeat (with_reducible (first | assumption | exact Ext.refl _ | apply Ext.alloc | apply Ext.drew | apply Ext.drewN)))) (by simp) rfl (by rw [HGD.out.1]; omega) HGD.out.2 HGD.out.2).mono ?_
            rintro e w5 ⟨r, rfl, hO, x5⟩
            have X5 : Ext wr w5 := Ext.trans (by repeat (with_reducible (first | assumption | exact Ext.refl _ | apply Ext.alloc | apply Ext.drew | apply Ext.drewN))) x5
            obtain ⟨g, c, rfl⟩ := hO.slot (k := m) (by simp [HGD.out.1]) hm1
            have HO5 : Hid (OwnInts 0 w5 (.slice (some ⟨g, 0, none⟩) m c) (V node)) := hid (by rw [HV.out]; exact hO.low (Nat.zero_le _))
            have HI5 := hid (HI.out.ext X5)
            have HG5 := hid (grown_ext X5 (some D))
            clear hO
            go_wp2_with fail
            refine hK _ _ (.inr ⟨_, lowx_of (fun b hb _ => X5.block hb)⟩) ?_
            clear hK K
            refine wpStagesS_cons ?_
            simp only [List.filterMap_nil]
            show wpQuiet _ _ _ _ [] _
            try simp only [Act.put, List.setIfInBounds_toArray, List.set_cons_succ, List.set_cons_zero]
            repeat (go_big_quiet_step (fail))
            refine wpQuiet_nil ⟨_, rfl, fun K hK => ?_⟩
            go_wp2_with fail
            go_wp2_with fail
            refine hK _ _ (.inr ⟨_, lowx_of (fun b hb _ => X5.block hb)⟩) ?_
            clear hK K
            refine wpStagesS_nil ?_
            obtain ⟨e1, ⟨ex, e2⟩, e3, hI6, hg6, hO6⟩ := EvI.store HI5.out hnode HO5.out
            have hB6 := HC.out.boxE HI5.out
            have z := hB6.lt
            have z0 := hB6.cell 0
            simp only [List.getElem?_toArray, List.getElem?_cons_zero, List.getElem?_cons_succ] at z0
            have z1 := hB6.cell 1
            simp only [List.getElem?_toArray, List.getElem?_cons_zero, List.getElem?_cons_succ] at z1
            have z2 := hB6.cell 2
            simp only [List.getElem?_toArray, List.getElem?_cons_zero, List.getElem?_cons_succ] at z2
            have z3 := hB6.cell 3
            simp only [List.getElem?_toArray, List.getElem?_cons_zero, List.getElem?_cons_succ] at z3
            have z4 := hB6.cell 4
            simp only [List.getElem?_toArray, List.getElem?_cons_zero, List.getElem?_cons_succ] at z4
            have z5 := hB6.cell 5
            simp only [List.getElem?_toArray, List.getElem?_cons_zero, List.getElem?_cons_succ] at z5
            have z6 := hB6.cell 6
            simp only [List.getElem?_toArray, List.getElem?_cons_zero, List.getElem?_cons_succ] at z6
            have z7 := hB6.cell 7
            simp only [List.getElem?_toArray, List.getElem?_cons_zero, List.getElem?_cons_succ] at z7
            have z8 := hB6.cell 8
            simp only [List.getElem?_toArray, List.getElem?_cons_zero, List.getElem?_cons_succ] at z8
            have HI6 := hid hI6
            have HO6 := hid hO6
            have HG6 := hid hg6
            clear hB6 hI6 hg6 hO6 HI5 HO5
            go_wp2
            go_ret
            exact ⟨⟨_, _, rfl, HO6.out⟩, HI6.out, grownBy.trans (grownBy.trans HGR.out HG5.out) HG6.out⟩
          case inr.inr.inr.inl =>
            simp only at o'
            obtain ⟨g0, cap0, rfl, hgw, hg0⟩ := ownsRow.slotE HRR.out (by omega)
            have hg0D : g0 ≠ D := by omega
            have hvl : vs.length = 2 := by have := HRR.out.1; simp at this; omega
            obtain ⟨x0, hx0⟩ : ∃ x0, vs[0]? = some x0 := ⟨vs[0]'(by omega), by simp⟩
            obtain ⟨x1, hx1⟩ : ∃ x1, vs[1]? = some x1 := ⟨vs[1]'(by omega), by simp⟩
            have k0 := HRR.out.cellAt 0 (by omega)
            have k1 := HRR.out.cellAt 1 (by omega)
            rw [hx0] at k0
            rw [hx1] at k1
            obtain ⟨y0, hy0⟩ : ∃ y0, ra[0]? = some y0 := ⟨ra[0]'(by omega), by simp⟩
            obtain ⟨y1, hy1⟩ : ∃ y1, ra[1]? = some y1 := ⟨ra[1]'(by omega), by simp⟩
            have HO0 := hid (hvs0.out 0 x0 y0 hx0 hy0)
            have HO1 := hid (hvs0.out 1 x1 y1 hx1 hy1)
            have HGD := hid (HC.out.good _ (HC.out.k.rank_arg HG.out (List.mem_of_getElem? hy0)).2.1)
            have HGD1 := hid (HC.out.good _ (HC.out.k.rank_arg HG.out (List.mem_of_getElem? hy1)).2.1)
            have q1' : (op == 1) = false := beq_eq_false_iff_ne.2 (by omega)
            have q2' : (op == 2) = false := beq_eq_false_iff_ne.2 (by omega)
            have q3' : (op == 3) = false := beq_eq_false_iff_ne.2 (by omega)
            have q8' : (op == 8) = false := beq_eq_false_iff_ne.2 (by omega)
            have HV : Hid (V node = List.zipWith (arithI op) (V y0.toNat) (V y1.toNat)) := hid (by
              rw [HVE.out]
              simp [evB, hy0, hy1, show ¬ op = 1 by omega, show ¬ op = 2 by omega, show ¬ op = 3 by omega, show ¬ op = 8 by omega])
            clear HVE hnodeF hx0 hy0 hx1 hy1
            go_wp2_with fail
            refine wp_region_stagesS [([0, 1, 2, 3, 4, 5, 6, 7], 8), ([], 9)] 99 (fun w' => ∃ d, w' = lowx (wr.heap.size) (D) _ d) (by kernel_rfl) (by kernel_rfl) ⟨_, lowx_of (fun _ _ _ => rfl)⟩ ?_
            refine wpStagesS_cons ?_
            simp only [List.filterMap_cons, List.filterMap_nil, List.getElem?_toArray, List.getElem?_cons_zero, List.getElem?_cons_succ]
            show wpQuiet _ _ _ _ [_, _, _, _, _, _, _, _] _
            repeat (go_big_quiet_step (fail))
            refine wpQuiet_nil ⟨_, rfl, fun K hK => ?_⟩
            go_wp2_with fail
            refine (iCombined_any 0 wr.heap.size 0 wr.heap.size x0 x1 op (V y0.toNat) (V y1.toNat) _ (by unfold opsOk; omega) (HO0.out.ints.ext (Nat.le_refl _) (by repeat (with_reducible (first | assumption | exact Ext.refl _ | apply Ext.alloc | apply Ext.drew | apply Ext.drewN)))) (by simp) (HO1.out.ints.ext (Nat.le_refl _) (by repeat (with_reducible (first | assumption | exact Ext.refl _ | apply Ext.alloc | apply Ext.drew | apply Ext.drewN)))) (by simp) (by rw [HGD.out.1, HGD1.out.1]) (by rw [HGD1.out.1]; omega) HGD.out.2 HGD1.out.2).mono ?_
            rintro e w5 ⟨r, rfl, hO, x5⟩
            have X5 : Ext wr w5 := Ext.trans (by repeat (with_reducible (first | assumption | exact Ext.refl _ | apply Ext.alloc | apply Ext.drew | apply Ext.drewN))) x5
            obtain ⟨g, c, rfl⟩ := hO.slot (k := m) (by simp [HGD.out.1, HGD1.out.1]) hm1
            have HO5 : Hid (OwnInts 0 w5 (.slice (some ⟨g, 0, none⟩) m c) (V node)) := hid (by rw [HV.out]; exact hO.low (Nat.zero_le _))
            have HI5 := hid (HI.out.ext X5)
            have HG5 := hid (grown_ext X5 (some D))
            clear hO
            go_wp2_with fail
            refine hK _ _ (.inr ⟨_, lowx_of (fun b hb _ => X5.block hb)⟩) ?_
            clear hK K
            refine wpStagesS_cons ?_
            simp only [List.filterMap_nil]
            show wpQuiet _ _ _ _ [] _
            try simp only [Act.put, List.setIfInBounds_toArray, List.set_cons_succ, List.set_cons_zero]
            repeat (go_big_quiet_step (fail))
            refine wpQuiet_nil ⟨_, rfl, fun K hK => ?_⟩
            go_wp2_with fail
            go_wp2_with fail
            refine hK _ _ (.inr ⟨_, lowx_of (fun b hb _ => X5.block hb)⟩) ?_
            clear hK K
            refine wpStagesS_nil ?_
            obtain ⟨e1, ⟨ex, e2⟩, e3, hI6, hg6, hO6⟩ := EvI.store HI5.out hnode HO5.out
            have hB6 := HC.out.boxE HI5.out
            have z := hB6.lt
            have z0 := hB6.cell 0
            simp only [List.getElem?_toArray, List.getElem?_cons_zero, List.getElem?_cons_succ] at z0
            have z1 := hB6.cell 1
            simp only [List.getElem?_toArray, List.getElem?_cons_zero, List.getElem?_cons_succ] at z1
            have z2 := hB6.cell 2
            simp only [List.getElem?_toArray, List.getElem?_cons_zero, List.getElem?_cons_succ] at z2
            have z3 := hB6.cell 3
            simp only [List.getElem?_toArray, List.getElem?_cons_zero, List.getElem?_cons_succ] at z3
            have z4 := hB6.cell 4
            simp only [List.getElem?_toArray, List.getElem?_cons_zero, List.getElem?_cons_succ] at z4
            have z5 := hB6.cell 5
            simp only [List.getElem?_toArray, List.getElem?_cons_zero, List.getElem?_cons_succ] at z5
            have z6 := hB6.cell 6
            simp only [List.getElem?_toArray, List.getElem?_cons_zero, List.getElem?_cons_succ] at z6
            have z7 := hB6.cell 7
            simp only [List.getElem?_toArray, List.getElem?_cons_zero, List.getElem?_cons_succ] at z7
            have z8 := hB6.cell 8
            simp only [List.getElem?_toArray, List.getElem?_cons_zero, List.getElem?_cons_succ] at z8
            have HI6 := hid hI6
            have HO6 := hid hO6
            have HG6 := hid hg6
            clear hB6 hI6 hg6 hO6 HI5 HO5
            go_wp2
            go_ret
            exact ⟨⟨_, _, rfl, HO6.out⟩, HI6.out, grownBy.trans (grownBy.trans HGR.out HG5.out) HG6.out⟩
          case inr.inr.inr.inr =>
            subst o
            have hca := HC.out.k.call node _ HG.out rfl
            simp only at hca
            have HV : Hid (V node = callRow n m t s.toList (ra.map fun a => V a.toNat)) := hid (by rw [HVE.out]; rfl)
            have HCA := hid hca
            have HTX := hid (show TexR 0 B wr (.agg #[.int .i64 t.log, tu]) t from by obtain ⟨u, k1, k2, k3⟩ := HC.out.tex; exact ⟨u, k1, k2, k3.same HSB.out⟩)
            clear HVE hnodeF hca
            go_wp2_with fail
            refine wp_region_stagesS [([0, 1, 2, 3, 4, 5, 6], 7), ([], 8)] 99 (fun w' => ∃ d, w' = lowx (wr.heap.size) (D) _ d) (by kernel_rfl) (by kernel_rfl) ⟨_, lowx_of (fun _ _ _ => rfl)⟩ ?_
            refine wpStagesS_cons ?_
            simp only [List.filterMap_cons, List.filterMap_nil, List.getElem?_toArray, List.getElem?_cons_zero, List.getElem?_cons_succ]
            show wpQuiet _ _ _ _ [_, _, _, _, _, _, _] _
            repeat (go_big_quiet_step (fail))
            refine wpQuiet_nil ⟨_, rfl, fun K hK => ?_⟩
            go_wp2_with fail
            refine (iCalled_any s (ra.map fun a => V a.toNat) 0 wr.heap.size 0 B n m pu tu u6 tm t _ HCA.out.1 (by rw [List.length_map]; exact HCA.out.2.symm) HC.out.ok (HSS.out.ext (Nat.le_refl _) (by repeat (with_reducible (first | assumption | exact Ext.refl _ | apply Ext.alloc | apply Ext.drew | apply Ext.drewN)))) (by simp) (HTX.out.ext (by omega) (by repeat (with_reducible (first | assumption | exact Ext.refl _ | apply Ext.alloc | apply Ext.drew | apply Ext.drewN)))) (by simp; omega) HGO.out HC.out.hm HC.out.n1 HC.out.n8).mono ?_
            rintro e w5 ⟨r, rfl, hO, x5⟩
            have X5 : Ext wr w5 := Ext.trans (by repeat (with_reducible (first | assumption | exact Ext.refl _ | apply Ext.alloc | apply Ext.drew | apply Ext.drewN))) x5
            obtain ⟨g, c, rfl⟩ := hO.slot (k := m) (call_goodE HC.out.hm t _ _).1 hm1
            have HO5 : Hid (OwnInts 0 w5 (.slice (some ⟨g, 0, none⟩) m c) (V node)) := hid (by rw [HV.out]; exact hO.low (Nat.zero_le _))
            have HI5 := hid (HI.out.ext X5)
            have HG5 := hid (grown_ext X5 (some D))
            clear hO
            go_wp2_with fail
            refine hK _ _ (.inr ⟨_, lowx_of (fun b hb _ => X5.block hb)⟩) ?_
            clear hK K
            refine wpStagesS_cons ?_
            simp only [List.filterMap_nil]
            show wpQuiet _ _ _ _ [] _
            try simp only [Act.put, List.setIfInBounds_toArray, List.set_cons_succ, List.set_cons_zero]
            repeat (go_big_quiet_step (fail))
            refine wpQuiet_nil ⟨_, rfl, fun K hK => ?_⟩
            go_wp2_with fail
            go_wp2_with fail
            refine hK _ _ (.inr ⟨_, lowx_of (fun b hb _ => X5.block hb)⟩) ?_
            clear hK K
            refine wpStagesS_nil ?_
            obtain ⟨e1, ⟨ex, e2⟩, e3, hI6, hg6, hO6⟩ := EvI.store HI5.out hnode HO5.out
            have hB6 := HC.out.boxE HI5.out
            have z := hB6.lt
            have z0 := hB6.cell 0
            simp only [List.getElem?_toArray, List.getElem?_cons_zero, List.getElem?_cons_succ] at z0
            have z1 := hB6.cell 1
            simp only [List.getElem?_toArray, List.getElem?_cons_zero, List.getElem?_cons_succ] at z1
            have z2 := hB6.cell 2
            simp only [List.getElem?_toArray, List.getElem?_cons_zero, List.getElem?_cons_succ] at z2
            have z3 := hB6.cell 3
            simp only [List.getElem?_toArray, List.getElem?_cons_zero, List.getElem?_cons_succ] at z3
            have z4 := hB6.cell 4
            simp only [List.getElem?_toArray, List.getElem?_cons_zero, List.getElem?_cons_succ] at z4
            have z5 := hB6.cell 5
            simp only [List.getElem?_toArray, List.getElem?_cons_zero, List.getElem?_cons_succ] at z5
            have z6 := hB6.cell 6
            simp only [List.getElem?_toArray, List.getElem?_cons_zero, List.getElem?_cons_succ] at z6
            have z7 := hB6.cell 7
            simp only [List.getElem?_toArray, List.getElem?_cons_zero, List.getElem?_cons_succ] at z7
            have z8 := hB6.cell 8
            simp only [List.getElem?_toArray, List.getElem?_cons_zero, List.getElem?_cons_succ] at z8
            have HI6 := hid hI6
            have HO6 := hid hO6
            have HG6 := hid hg6
            clear hB6 hI6 hg6 hO6 HI5 HO5
            go_wp2
            go_ret
            exact ⟨⟨_, _, rfl, HO6.out⟩, HI6.out, grownBy.trans (grownBy.trans HGR.out HG5.out) HG6.out⟩
        --END
end
end Go.Proofs.YtaegmenjgjdimaaGreat
end

section
/- This text proves what the laws' helper functions over programs of the shading language do: copies and comparisons. -/
namespace Go.Proofs.YtaegmenjgjdimaaGreat
open Go.RowKit

theorem Ints.setLow {lo hi : Nat} {w : World} {v : Value} {xs : List Int} (h : Ints lo hi w v xs) {p : Addr} (hp : p.block < lo) (x : Value) : Ints lo hi (w.setCell p x) v xs :=
  h.same (fun k h1 _ => Below.heap_setCell _ _ _ _ (by omega))
def ndC (xs : List Nd) (us : Nat → Value) (i : Nat) : Value :=
  match xs[i / 4]? with
  | some x => if i % 4 = 0 then .int .i64 x.op else if i % 4 = 1 then .string x.name else if i % 4 = 2 then .int .i64 x.num else us (i / 4)
  | none => .int .i64 0
def ndZ (i : Nat) : Value := if i % 4 = 1 then .string ⟨#[]⟩ else if i % 4 = 3 then .slice none 0 0 else .int .i64 0
theorem ndC_at {xs : List Nd} {us : Nat → Value} {k : Nat} {x : Nd} (h : xs[k]? = some x) : ndC xs us (k * 4) = .int .i64 x.op ∧ ndC xs us (k * 4 + 1) = .string x.name ∧ ndC xs us (k * 4 + 2) = .int .i64 x.num ∧ ndC xs us (k * 4 + 3) = us k := by
  refine ⟨?_, ?_, ?_, ?_⟩
  · unfold ndC
    rw [show k * 4 / 4 = k by omega, h, show k * 4 % 4 = 0 by omega]
    rfl
  · unfold ndC
    rw [show (k * 4 + 1) / 4 = k by omega, h, show (k * 4 + 1) % 4 = 1 by omega]
    rfl
  · unfold ndC
    rw [show (k * 4 + 2) / 4 = k by omega, h, show (k * 4 + 2) % 4 = 2 by omega]
    rfl
  · unfold ndC
    rw [show (k * 4 + 3) / 4 = k by omega, h, show (k * 4 + 3) % 4 = 3 by omega]
    rfl
theorem ndZ_at (k : Nat) : ndZ (k * 4) = .int .i64 0 ∧ ndZ (k * 4 + 1) = .string ⟨#[]⟩ ∧ ndZ (k * 4 + 2) = .int .i64 0 ∧ ndZ (k * 4 + 3) = .slice none 0 0 := by
  refine ⟨?_, ?_, ?_, ?_⟩
  · unfold ndZ; rw [show k * 4 % 4 = 0 by omega]; rfl
  · unfold ndZ; rw [show (k * 4 + 1) % 4 = 1 by omega]; rfl
  · unfold ndZ; rw [show (k * 4 + 2) % 4 = 2 by omega]; rfl
  · unfold ndZ; rw [show (k * 4 + 3) % 4 = 3 by omega]; rfl
theorem ndC_upd {xs : List Nd} {us : Nat → Value} {k : Nat} {u : Value} : ∀ i, i < k * 4 → ndC xs us i = ndC xs (fun j => if j = k then u else us j) i := by
  intro i hi
  unfold ndC
  simp only [if_neg (show ¬ i / 4 = k by omega)]
theorem info_Nd : (Tryz.prog.info? 79).map (fun i => (i.zero, i.size, i.bytes)) = some (some (.agg #[.int .i64 0, .string ⟨#[]⟩, .int .i64 0, .slice none 0 0]), 4, 56) := by kernel_rfl
theorem made_nd (n : Nat) : ∀ i, i < n → (madeCells #[.int .i64 0, .string ⟨#[]⟩, .int .i64 0, .slice none 0 0] n)[i]? = some (ndZ i) := by
  intro i hi
  unfold ndZ
  have : i % 4 < 4 := Nat.mod_lt _ (by decide)
  rcases (show i % 4 = 0 ∨ i % 4 = 1 ∨ i % 4 = 2 ∨ i % 4 = 3 by omega) with e | e | e | e <;> simp [madeCells, hi, e]
end Go.Proofs.YtaegmenjgjdimaaGreat
end

section
/- This text proves the copies and comparisons of assignments and of whole programs of the shading language. -/
namespace Go.Proofs.YtaegmenjgjdimaaGreat
open Go.RowKit

theorem Nds.setLow {lo hi : Nat} {w : World} {v : Value} {xs : List Nd} (h : Nds lo hi w v xs) {p : Addr} (hp : p.block < lo) (x : Value) : Nds lo hi (w.setCell p x) v xs :=
  h.same (fun k h1 _ => Below.heap_setCell _ _ _ _ (by omega))
theorem Asgs.setLow {lo hi : Nat} {w : World} {v : Value} {xs : List Asg} (h : Asgs lo hi w v xs) {p : Addr} (hp : p.block < lo) (x : Value) : Asgs lo hi (w.setCell p x) v xs :=
  h.same (fun k h1 _ => Below.heap_setCell _ _ _ _ (by omega))
theorem Nds.wide {lo hi lo' hi' : Nat} {w : World} {v : Value} {xs : List Nd} (h : Nds lo hi w v xs) (h1 : lo' ≤ lo) (h2 : hi ≤ hi') : Nds lo' hi' w v xs := by
  obtain ⟨a, cap, g1, g2, g3, g4⟩ := h
  refine ⟨a, cap, g1, g2, g3, fun i x hx => ?_⟩
  obtain ⟨h5, b, off, u, h6, h7, h8, h9, h10, h11, h12, h13⟩ := g4 i x hx
  exact ⟨h5, b, off, u, h6, by omega, by omega, h9, h10, h11, h12, h13.wide h1 h2⟩
theorem Asgs.wide {lo hi lo' hi' : Nat} {w : World} {v : Value} {xs : List Asg} (h : Asgs lo hi w v xs) (h1 : lo' ≤ lo) (h2 : hi ≤ hi') : Asgs lo' hi' w v xs := by
  obtain ⟨a, cap, g1, g2, g3, g4⟩ := h
  refine ⟨a, cap, g1, g2, g3, fun i x hx => ?_⟩
  obtain ⟨h5, b, off, h6, h7, h8, h9⟩ := g4 i x hx
  exact ⟨h5, b, off, h6, by omega, by omega, h9⟩
def agC (xs : List Asg) (i : Nat) : Value :=
  match xs[i / 2]? with
  | some x => if i % 2 = 0 then .string x.name else .int .i64 x.root
  | none => .int .i64 0
def agZ (i : Nat) : Value := if i % 2 = 0 then .string ⟨#[]⟩ else .int .i64 0
theorem agC_at {xs : List Asg} {k : Nat} {x : Asg} (h : xs[k]? = some x) : agC xs (k * 2) = .string x.name ∧ agC xs (k * 2 + 1) = .int .i64 x.root := by
  refine ⟨?_, ?_⟩
  · unfold agC
    rw [show k * 2 / 2 = k by omega, h, show k * 2 % 2 = 0 by omega]
    rfl
  · unfold agC
    rw [show (k * 2 + 1) / 2 = k by omega, h, show (k * 2 + 1) % 2 = 1 by omega]
    rfl
theorem agZ_at (k : Nat) : agZ (k * 2) = .string ⟨#[]⟩ ∧ agZ (k * 2 + 1) = .int .i64 0 := by
  refine ⟨?_, ?_⟩
  · unfold agZ; rw [show k * 2 % 2 = 0 by omega]; rfl
  · unfold agZ; rw [show (k * 2 + 1) % 2 = 1 by omega]; rfl
theorem info_Ag : (Tryz.prog.info? 74).map (fun i => (i.zero, i.size, i.bytes)) = some (some (.agg #[.string ⟨#[]⟩, .int .i64 0]), 2, 24) := by kernel_rfl
theorem made_ag (n : Nat) : ∀ i, i < n → (madeCells #[.string ⟨#[]⟩, .int .i64 0] n)[i]? = some (agZ i) := by
  intro i hi
  unfold agZ
  have : i % 2 < 2 := Nat.mod_lt _ (by decide)
  rcases (show i % 2 = 0 ∨ i % 2 = 1 by omega) with e | e <;> simp [madeCells, hi, e]
end Go.Proofs.YtaegmenjgjdimaaGreat
end

section
/- This text proves how the program makes its evaluator. -/
namespace Go.Proofs.YtaegmenjgjdimaaGreat
open Go.RowKit Go.Maps Go.WideMaps

/-- a program, a grid and a point at which they can be evaluated -/
noncomputable def evOk (p : Prg) (g : Grd) (i j : Int) : Bool := p.chkB && g.okB && inB i 0 (g.n - 1) && inB j 0 (g.n - 1)
theorem iIsValidGrid_valE {g : Grd} {b : Bool} (h : g.okB = b) (lo hi : Nat) (v : Value) (w : World) (hv : g.R lo hi w v) (hh : hi ≤ w.heap.size) : Calls Tryz.prog 55 #[v] w fun e w' => e = .returned (.bool b) ∧ Ext w w' := h ▸ iIsValidGrid_any lo hi v g w hv hh
theorem Grd.R.ext2 {g : Grd} {lo hi : Nat} {w w' : World} {v : Value} (h : g.R lo hi w v) (hh : hi ≤ w.heap.size) (e : Ext w w') : g.R lo hi w' v := by
  obtain ⟨pu, tu, h1, h2, h3, h4, h5, h6⟩ := h
  exact ⟨pu, tu, h1, h2, h3, h4, h5.ext hh e, h6.ext hh e⟩
set_option maxRecDepth 20000 in
set_option maxHeartbeats 6400000 in
theorem iEvalOf_no (lo hi lo' hi' : Nat) (v u : Value) (p : Prg) (g : Grd) (i j : Int) (w : World) (hv : p.R lo hi w v) (hh : hi ≤ w.heap.size) (hu : g.R lo' hi' w u) (hh' : hi' ≤ w.heap.size) (hb : p.bd) (hgl : p.gs.length ≤ 1048576) (hno : evOk p g i j = false) :
    Calls Tryz.prog 27 #[v, u, .int .i64 i, .int .i64 j] w fun e w' => e = .returned (.tuple #[.pointer none, .bool false]) ∧ Ext w w' := by
  have HV := hid hv
  have HU := hid hu
  obtain ⟨a1, c1, a2, c2, rfl, HN, HG⟩ := hv.form
  obtain ⟨pu, tu, rfl, n64, t64, l64, hp, ht⟩ := hu
  have HB := hid hb
  clear hv hp ht HN HG hb t64 l64
  have x0 : Ext w ((w.alloc (.cells #[.slice a1 p.ns.length c1, .slice a2 p.gs.length c2] 26)).alloc (.cells #[.int .i64 g.n, pu, .int .i64 g.tm, .int .i64 g.t.log, tu] 33)) := (by repeat (with_reducible (first | assumption | exact Ext.refl _ | apply Ext.alloc | apply Ext.drew | apply Ext.drewN)))
  have bG := Bx.madeAt (B := w.heap.size + 1) (w.alloc (.cells #[.slice a1 p.ns.length c1, .slice a2 p.gs.length c2] 26)) #[.int .i64 g.n, pu, .int .i64 g.tm, .int .i64 g.t.log, tu] 33 (by simp)
  unfold evOk at hno
  cases h1 : p.chkB
  · have H1 := hid h1
    clear hno h1 n64
    go_enter Tryz.func27, Tryz.ntmps27
    go_wp2_with fail
    refine (iIsOk_val H1.out lo hi _ _ (HV.out.ext hh x0) (Nat.le_trans hh x0.size) HB.out hgl).mono ?_
    rintro e w1 ⟨rfl, x1⟩
    have X1 := x0.trans x1
    go_wp2
    refine bodyPost_ret (v := .tuple #[.pointer none, .bool false]) (by simp [results, Tryz.results27, go_sem]) rfl ⟨rfl, X1⟩
  cases h2 : g.okB
  · have H1 := hid h1
    have H2 := hid h2
    clear hno h1 h2 n64
    go_enter Tryz.func27, Tryz.ntmps27
    go_wp2_with fail
    refine (iIsOk_val H1.out lo hi _ _ (HV.out.ext hh x0) (Nat.le_trans hh x0.size) HB.out hgl).mono ?_
    rintro e w1 ⟨rfl, x1⟩
    have X1 := x0.trans x1
    have bG1 := bG.ext x1
    have q := bG1.lt
    have q0 := bG1.cell 0
    simp only [List.getElem?_toArray, List.getElem?_cons_zero, List.getElem?_cons_succ] at q0
    have q1 := bG1.cell 1
    simp only [List.getElem?_toArray, List.getElem?_cons_zero, List.getElem?_cons_succ] at q1
    have q2 := bG1.cell 2
    simp only [List.getElem?_toArray, List.getElem?_cons_zero, List.getElem?_cons_succ] at q2
    have q3 := bG1.cell 3
    simp only [List.getElem?_toArray, List.getElem?_cons_zero, List.getElem?_cons_succ] at q3
    have q4 := bG1.cell 4
    simp only [List.getElem?_toArray, List.getElem?_cons_zero, List.getElem?_cons_succ] at q4
    go_wp2_with fail
    refine (iIsValidGrid_valE H2.out lo' hi' _ _ (HU.out.ext2 hh' X1) (Nat.le_trans hh' X1.size)).mono ?_
    rintro e w2 ⟨rfl, x2⟩
    have X2 := X1.trans x2
    go_wp2
    refine bodyPost_ret (v := .tuple #[.pointer none, .bool false]) (by simp [results, Tryz.results27, go_sem]) rfl ⟨rfl, X2⟩
  rw [h1, h2] at hno
  simp only [Bool.true_and] at hno
  obtain ⟨n, hn, hnn, n1, n8, hok, htm9, hf9⟩ := Grd.partsE h2
  have H1 := hid h1
  have H2 := hid h2
  have HN := hid hnn
  rw [hn] at hno x0 bG HU ⊢
  have HNN := hid hn
  clear hn
  obtain ⟨bi, hbi⟩ : ∃ b, inB i 0 ((n : Int) - 1) = b := ⟨_, rfl⟩
  obtain ⟨bj, hbj⟩ : ∃ b, inB j 0 ((n : Int) - 1) = b := ⟨_, rfl⟩
  rw [hbi, hbj] at hno
  have HI := hid hbi
  have HJ := hid hbj
  clear h1 h2 hnn hok htm9 hf9 hbi hbj
  cases bi
  · clear hno
    go_enter Tryz.func27, Tryz.ntmps27
    go_wp2_with fail
    refine (iIsOk_val H1.out lo hi _ _ (HV.out.ext hh x0) (Nat.le_trans hh x0.size) HB.out hgl).mono ?_
    rintro e w1 ⟨rfl, x1⟩
    have X1 := x0.trans x1
    have bG1 := bG.ext x1
    have q := bG1.lt
    have q0 := bG1.cell 0
    simp only [List.getElem?_toArray, List.getElem?_cons_zero, List.getElem?_cons_succ] at q0
    have q1 := bG1.cell 1
    simp only [List.getElem?_toArray, List.getElem?_cons_zero, List.getElem?_cons_succ] at q1
    have q2 := bG1.cell 2
    simp only [List.getElem?_toArray, List.getElem?_cons_zero, List.getElem?_cons_succ] at q2
    have q3 := bG1.cell 3
    simp only [List.getElem?_toArray, List.getElem?_cons_zero, List.getElem?_cons_succ] at q3
    have q4 := bG1.cell 4
    simp only [List.getElem?_toArray, List.getElem?_cons_zero, List.getElem?_cons_succ] at q4
    go_wp2_with fail
    refine (iIsValidGrid_valE H2.out lo' hi' _ _ (HU.out.ext2 hh' X1) (Nat.le_trans hh' X1.size)).mono ?_
    rintro e w2 ⟨rfl, x2⟩
    have X2 := X1.trans x2
    have bG2 := bG1.ext x2
    have d := bG2.lt
    have d0 := bG2.cell 0
    simp only [List.getElem?_toArray, List.getElem?_cons_zero, List.getElem?_cons_succ] at d0
    have d1 := bG2.cell 1
    simp only [List.getElem?_toArray, List.getElem?_cons_zero, List.getElem?_cons_succ] at d1
    have d2 := bG2.cell 2
    simp only [List.getElem?_toArray, List.getElem?_cons_zero, List.getElem?_cons_succ] at d2
    have d3 := bG2.cell 3
    simp only [List.getElem?_toArray, List.getElem?_cons_zero, List.getElem?_cons_succ] at d3
    have d4 := bG2.cell 4
    simp only [List.getElem?_toArray, List.getElem?_cons_zero, List.getElem?_cons_succ] at d4
    go_wp2_with fail
    refine (within_val HI.out _).mono ?_
    rintro e w3 ⟨rfl, rfl⟩
    go_wp2
    refine bodyPost_ret (v := .tuple #[.pointer none, .bool false]) (by simp [results, Tryz.results27, go_sem]) rfl ⟨rfl, X2⟩
  · obtain rfl : bj = false := by simpa using hno
    clear hno
    go_enter Tryz.func27, Tryz.ntmps27
    go_wp2_with fail
    refine (iIsOk_val H1.out lo hi _ _ (HV.out.ext hh x0) (Nat.le_trans hh x0.size) HB.out hgl).mono ?_
    rintro e w1 ⟨rfl, x1⟩
    have X1 := x0.trans x1
    have bG1 := bG.ext x1
    have q := bG1.lt
    have q0 := bG1.cell 0
    simp only [List.getElem?_toArray, List.getElem?_cons_zero, List.getElem?_cons_succ] at q0
    have q1 := bG1.cell 1
    simp only [List.getElem?_toArray, List.getElem?_cons_zero, List.getElem?_cons_succ] at q1
    have q2 := bG1.cell 2
    simp only [List.getElem?_toArray, List.getElem?_cons_zero, List.getElem?_cons_succ] at q2
    have q3 := bG1.cell 3
    simp only [List.getElem?_toArray, List.getElem?_cons_zero, List.getElem?_cons_succ] at q3
    have q4 := bG1.cell 4
    simp only [List.getElem?_toArray, List.getElem?_cons_zero, List.getElem?_cons_succ] at q4
    go_wp2_with fail
    refine (iIsValidGrid_valE H2.out lo' hi' _ _ (HU.out.ext2 hh' X1) (Nat.le_trans hh' X1.size)).mono ?_
    rintro e w2 ⟨rfl, x2⟩
    have X2 := X1.trans x2
    have bG2 := bG1.ext x2
    have d := bG2.lt
    have d0 := bG2.cell 0
    simp only [List.getElem?_toArray, List.getElem?_cons_zero, List.getElem?_cons_succ] at d0
    have d1 := bG2.cell 1
    simp only [List.getElem?_toArray, List.getElem?_cons_zero, List.getElem?_cons_succ] at d1
    have d2 := bG2.cell 2
    simp only [List.getElem?_toArray, List.getElem?_cons_zero, List.getElem?_cons_succ] at d2
    have d3 := bG2.cell 3
    simp only [List.getElem?_toArray, List.getElem?_cons_zero, List.getElem?_cons_succ] at d3
    have d4 := bG2.cell 4
    simp only [List.getElem?_toArray, List.getElem?_cons_zero, List.getElem?_cons_succ] at d4
    go_wp2_with fail
    refine (within_val HI.out _).mono ?_
    rintro e w3 ⟨rfl, rfl⟩
    go_wp2_with fail
    refine (within_val HJ.out _).mono ?_
    rintro e w3 ⟨rfl, rfl⟩
    go_wp2
    refine bodyPost_ret (v := .tuple #[.pointer none, .bool false]) (by simp [results, Tryz.results27, go_sem]) rfl ⟨rfl, X2⟩
theorem Nds.at0 {lo hi B : Nat} {w w' : World} {a : Option Addr} {cap : Nat} {xs : List Nd} (h : NdsAt lo hi w a cap xs) (hB : hi ≤ B) (hw : B ≤ w.heap.size) (e : Ext w w') : NdsAt 0 B w' a cap xs := by
  have h1 := ((h.shut).wide (Nat.zero_le _) hB).ext hw e
  obtain ⟨a', c', e, H⟩ := h1.open
  simp only [Value.slice.injEq, true_and] at e
  obtain ⟨rfl, rfl⟩ := e
  exact H
theorem Asgs.at0 {lo hi B : Nat} {w w' : World} {a : Option Addr} {cap : Nat} {xs : List Asg} (h : AsgsAt lo hi w a cap xs) (hB : hi ≤ B) (hw : B ≤ w.heap.size) (e : Ext w w') : AsgsAt 0 B w' a cap xs := by
  have h1 := ((h.shut).wide (Nat.zero_le _) hB).ext hw e
  obtain ⟨a', c', e, H⟩ := h1.open
  simp only [Value.slice.injEq, true_and] at e
  obtain ⟨rfl, rfl⟩ := e
  exact H
theorem made_rows (n : Nat) : (madeCells #[Value.slice none 0 0] n).toList = List.replicate n (.slice none 0 0) := by
  apply List.ext_getElem?
  intro i
  by_cases h : i < n
  · simp [madeCells, h]
    rw [Nat.mod_one]
    rfl
  · simp [madeCells, h]
theorem ownsRow.low0 {w : World} {lo : Nat} {e : TypeId} {size n : Nat} {v : Value} {xs : List Value} (h : w.ownsRow lo e size v n xs) : w.ownsRow 0 e size v n xs := by
  refine ⟨h.1, ?_⟩
  rcases h.2 with h2 | ⟨g, cap, cur, h1, h2, h3⟩
  · exact .inl h2
  · exact .inr ⟨g, cap, cur, h1, Nat.zero_le _, h3⟩
set_option maxRecDepth 20000 in
set_option maxHeartbeats 12800000 in
theorem iEvalOf_yes (lo hi lo' hi' : Nat) (a1 a2 : Option Addr) (c1 c2 : Nat) (pu tu : Value) (p : Prg) (g : Grd) (n : Nat) (i j : Int) (w : World) (hv : p.R lo hi w (.agg #[.slice a1 p.ns.length c1, .slice a2 p.gs.length c2])) (hh : hi ≤ w.heap.size) (hu : g.R lo' hi' w (.agg #[.int .i64 n, pu, .int .i64 g.tm, .int .i64 g.t.log, tu])) (hh' : hi' ≤ w.heap.size) (hb : p.bd) (hgl : p.gs.length ≤ 1048576) (hn : g.n = n) (hyes : evOk p g i j = true) :
    Calls Tryz.prog 27 #[.agg #[.slice a1 p.ns.length c1, .slice a2 p.gs.length c2], .agg #[.int .i64 n, pu, .int .i64 g.tm, .int .i64 g.t.log, tu], .int .i64 i, .int .i64 j] w fun e w' => (∃ E D mb, e = .returned (.tuple #[.pointer (some ⟨E, 0, none⟩), .bool true]) ∧ EvC p (p.ev n g.m g.f g.tm g.t) w.heap.size E D mb a1 a2 c1 c2 n g.m pu tu g.f g.tm g.t w' ∧ EvI p (p.ev n g.m g.f g.tm g.t) D w' w') ∧ Ext w w' := by
  have HV := hid hv
  have HU := hid hu
  obtain ⟨a1', c1', a2', c2', e1, HN, HG⟩ := hv.form
  simp only [Value.agg.injEq, Array.mk.injEq, List.cons.injEq, Value.slice.injEq, true_and, and_true] at e1
  obtain ⟨⟨rfl, rfl⟩, rfl, rfl⟩ := e1
  obtain ⟨pu', tu', e2, n64, t64, l64, hp, ht⟩ := hu
  simp only [Value.agg.injEq, Array.mk.injEq, List.cons.injEq, true_and, and_true] at e2
  obtain ⟨-, rfl, rfl⟩ := e2
  unfold evOk at hyes
  simp only [Bool.and_eq_true] at hyes
  obtain ⟨⟨⟨h1, h2⟩, hbi⟩, hbj⟩ := hyes
  rw [hn] at hbi hbj
  obtain ⟨n', hn', hnn, n1, n8, hok, htm9, hf9⟩ := Grd.partsE h2
  obtain rfl : n = n' := by omega
  have l1 := HN.le
  have l2 := HN.cap
  have hK := Prg.chkB_K h1
  have l5 := hK.v.len
  have HH := hid (show EvC p (p.ev n g.m g.f g.tm g.t) w.heap.size 0 0 0 a1 a2 c1 c2 n g.m pu tu g.f g.tm g.t w → True from fun _ => trivial)
  clear HH
  have HND := hid HN
  have HAS := hid HG
  have HPT := hid hp
  have HTX := hid (show TexR lo' hi' w (.agg #[.int .i64 g.t.log, tu]) g.t from ⟨tu, rfl, l64, ht⟩)
  have HBD := hid hb
  have HKK := hid hK
  have HG9 := hid (show n * n = g.m ∧ 1 ≤ n ∧ n ≤ 8 ∧ g.t.okB = true ∧ S9 g.tm ∧ ∀ i, i < g.m * 5 → S9 (g.f i) from ⟨hnn, n1, n8, hok, htm9, hf9⟩)
  have H1 := hid h1
  have H2 := hid h2
  have HI := hid hbi
  have HJ := hid hbj
  clear hv hp ht HN HG hb t64 l64 n64 h1 h2 hbi hbj hnn hok htm9 hf9 hn hn' hK
  obtain ⟨i0, hi0, hz0, hz1, hz2⟩ := info_parts info_ints
  have x0 : Ext w ((w.alloc (.cells #[.slice a1 p.ns.length c1, .slice a2 p.gs.length c2] 26)).alloc (.cells #[.int .i64 n, pu, .int .i64 g.tm, .int .i64 g.t.log, tu] 33)) := (by repeat (with_reducible (first | assumption | exact Ext.refl _ | apply Ext.alloc | apply Ext.drew | apply Ext.drewN)))
  have bG := Bx.madeAt (B := w.heap.size + 1) (w.alloc (.cells #[.slice a1 p.ns.length c1, .slice a2 p.gs.length c2] 26)) #[.int .i64 n, pu, .int .i64 g.tm, .int .i64 g.t.log, tu] 33 (by simp)
  have bP := (Bx.made w #[.slice a1 p.ns.length c1, .slice a2 p.gs.length c2] 26).ext (show Ext _ ((w.alloc (.cells #[.slice a1 p.ns.length c1, .slice a2 p.gs.length c2] 26)).alloc (.cells #[.int .i64 n, pu, .int .i64 g.tm, .int .i64 g.t.log, tu] 33)) from (by repeat (with_reducible (first | assumption | exact Ext.refl _ | apply Ext.alloc | apply Ext.drew | apply Ext.drewN))))
  go_enter Tryz.func27, Tryz.ntmps27
  go_wp2_with fail
  refine (iIsOk_val H1.out lo hi _ _ (HV.out.ext hh x0) (Nat.le_trans hh x0.size) HBD.out hgl).mono ?_
  rintro e w1 ⟨rfl, x1⟩
  have X1 := x0.trans x1
  have bG1 := bG.ext x1
  have bP1 := bP.ext x1
  have q := bG1.lt
  have q0 := bG1.cell 0
  simp only [List.getElem?_toArray, List.getElem?_cons_zero, List.getElem?_cons_succ] at q0
  have q1 := bG1.cell 1
  simp only [List.getElem?_toArray, List.getElem?_cons_zero, List.getElem?_cons_succ] at q1
  have q2 := bG1.cell 2
  simp only [List.getElem?_toArray, List.getElem?_cons_zero, List.getElem?_cons_succ] at q2
  have q3 := bG1.cell 3
  simp only [List.getElem?_toArray, List.getElem?_cons_zero, List.getElem?_cons_succ] at q3
  have q4 := bG1.cell 4
  simp only [List.getElem?_toArray, List.getElem?_cons_zero, List.getElem?_cons_succ] at q4
  go_wp2_with fail
  refine (iIsValidGrid_valE H2.out lo' hi' _ _ (HU.out.ext2 hh' X1) (Nat.le_trans hh' X1.size)).mono ?_
  rintro e w2 ⟨rfl, x2⟩
  have X2 := X1.trans x2
  have bG2 := bG1.ext x2
  have bP2 := bP1.ext x2
  clear q q0 q1 q2 q3 q4 x0 x1 x2 X1 bG bP bG1 bP1
  have d := bG2.lt
  have d0 := bG2.cell 0
  simp only [List.getElem?_toArray, List.getElem?_cons_zero, List.getElem?_cons_succ] at d0
  have d1 := bG2.cell 1
  simp only [List.getElem?_toArray, List.getElem?_cons_zero, List.getElem?_cons_succ] at d1
  have d2 := bG2.cell 2
  simp only [List.getElem?_toArray, List.getElem?_cons_zero, List.getElem?_cons_succ] at d2
  have d3 := bG2.cell 3
  simp only [List.getElem?_toArray, List.getElem?_cons_zero, List.getElem?_cons_succ] at d3
  have d4 := bG2.cell 4
  simp only [List.getElem?_toArray, List.getElem?_cons_zero, List.getElem?_cons_succ] at d4
  have b := bP2.lt
  have b0 := bP2.cell 0
  simp only [List.getElem?_toArray, List.getElem?_cons_zero, List.getElem?_cons_succ] at b0
  have b1 := bP2.cell 1
  simp only [List.getElem?_toArray, List.getElem?_cons_zero, List.getElem?_cons_succ] at b1
  go_wp2_with fail
  refine (within_val HI.out _).mono ?_
  rintro e w3 ⟨rfl, rfl⟩
  go_wp2_with fail
  refine (within_val HJ.out _).mono ?_
  rintro e w3 ⟨rfl, rfl⟩
  go_wp2_with fail
  --ORDERS
  refine wp_region_Z 11 w2.heap.size (by kernel_rfl) ?_
  refine wpZ_stage (fuel := 5) [0, 1, 2, 4, 5, 6] [3, 7] (by kernel_rfl) (fun b _ hb => rfl) ?_
  try simp only [Act.put, List.setIfInBounds_toArray, List.set_cons_succ, List.set_cons_zero]
  simp only [List.filterMap_cons, List.filterMap_nil, List.getElem?_toArray, List.getElem?_cons_zero, List.getElem?_cons_succ]
  show wpQuiet _ _ _ _ [_, _, _, _, _, _] _
  repeat (go_big_quiet_step (fail))
  refine wpQuiet_nil ?_
  intro e he
  simp only [List.mem_cons, List.not_mem_nil, or_false] at he
  rcases he with rfl | rfl
  · skip
    (unfold wpComes; simp only [List.getElem?_toArray, List.getElem?_cons_succ, List.getElem?_cons_zero, Option.some.injEq]; refine ⟨_, rfl, fun K hK => ?_⟩)
    go_wp2_with fail
    refine (iAssigned_any lo hi _ p _ (HV.out.ext hh (X2.trans ((by repeat (with_reducible (first | assumption | exact Ext.refl _ | apply Ext.alloc | apply Ext.drew | apply Ext.drewN)))))) (Nat.le_trans hh (X2.trans ((by repeat (with_reducible (first | assumption | exact Ext.refl _ | apply Ext.alloc | apply Ext.drew | apply Ext.drewN))))).size) HBD.out hgl).mono ?_
    rintro e w3 ⟨⟨mb, rfl, hmb, hM⟩, x3⟩
    have y3 : Ext w2 w3 := Ext.trans (by repeat (with_reducible (first | assumption | exact Ext.refl _ | apply Ext.alloc | apply Ext.drew | apply Ext.drewN))) x3
    go_wp2_with fail
    refine hK _ _ (.inr (fun b _ hb => y3.block (by omega))) ?_
    clear hK K
    refine wpZ_stage (fuel := 4) [] [7] (by kernel_rfl) (fun b _ hb => y3.block (by omega)) ?_
    refine wpQuiet_nil ?_
    intro e he
    simp only [List.mem_cons, List.not_mem_nil, or_false] at he
    subst he
    (unfold wpComes; simp only [List.getElem?_toArray, List.getElem?_cons_succ, List.getElem?_cons_zero, Option.some.injEq]; refine ⟨_, rfl, fun K hK => ?_⟩)
    go_wp2_with (at_make; refine wpList_make_full _ rfl _ _ 70 rfl w3.heap.size 29 i0 (.slice none 0 0) 1 Tryz.underlying70 hi0 hz0 hz1 _ _ _ _ p.ns.length rfl rfl rfl rfl (by rw [hz2]; omega) (by unfold maxLen; omega) (Nat.le_refl _) ?_)
    intro w5 hown hgrow
    rw [made_rows] at hown
    have y5 : Ext w2 w5 := y3.grown hgrow (fun k h => by cases h)
    go_wp2_with fail
    refine hK _ _ (.inr (fun b _ hb => y5.block (by omega))) ?_
    clear hK K
    obtain ⟨D, hD⟩ : ∃ D, w3.heap.size = D := ⟨_, rfl⟩
    have hml := hM.lt
    have hX2s := X2.size
    have hy3s := y3.size
    have hM5 := hM.ext ((Ext.refl w3).grown hgrow (fun k h => by cases h))
    rw [hD] at hown ⊢
    have hown5 : w5.ownsRow 0 29 1 (.slice (some ⟨D, 0, none⟩) p.ns.length p.ns.length) p.ns.length (List.replicate p.ns.length (.slice none 0 0)) := by subst hD; exact ownsRow.low0 (by simpa using hown)
    have hdm : mb ≠ D := by omega
    have hdb : w.heap.size ≤ D := by omega
    clear hown hM hD hgrow x3 y3
    have HO5 := hid hown5
    have HM5 := hid hM5
    have HDM := hid hdm
    have HDB := hid hdb
    have HX5 := hid y5
    clear hown5 hM5 hdm hdb
    refine wpZ_stage (fuel := 2) [8] [9] (by kernel_rfl) (fun b _ hb => y5.block (by omega)) ?_
    try simp only [Act.put, List.setIfInBounds_toArray, List.set_cons_succ, List.set_cons_zero]
    simp only [List.filterMap_cons, List.filterMap_nil, List.getElem?_toArray, List.getElem?_cons_zero, List.getElem?_cons_succ]
    show wpQuiet _ _ _ _ [_] _
    repeat (go_big_quiet_step (fail))
    refine wpQuiet_nil ?_
    intro e he
    simp only [List.mem_cons, List.not_mem_nil, or_false] at he
    subst he
    (unfold wpComes; simp only [List.getElem?_toArray, List.getElem?_cons_succ, List.getElem?_cons_zero, Option.some.injEq]; refine ⟨_, rfl, fun K hK => ?_⟩)
    go_wp2_with fail
    have y6 : Ext w2 (w5.alloc (.cells #[.slice a1 p.ns.length c1, .slice a2 p.gs.length c2, .int .i64 n, pu, .int .i64 g.tm, .int .i64 g.t.log, tu, .map (some mb), .slice (some ⟨D, 0, none⟩) p.ns.length p.ns.length] 72)) := y5.alloc _
    have hb6 := hid (Bx.made w5 #[.slice a1 p.ns.length c1, .slice a2 p.gs.length c2, .int .i64 n, pu, .int .i64 g.tm, .int .i64 g.t.log, tu, .map (some mb), .slice (some ⟨D, 0, none⟩) p.ns.length p.ns.length] 72)
    refine hK _ _ (.inr (fun b _ hb => y6.block (by omega))) ?_
    clear hK K
    refine wpZ_stage (fuel := 0) [10] [11] (by kernel_rfl) (fun b _ hb => y6.block (by omega)) ?_
    try simp only [Act.put, List.setIfInBounds_toArray, List.set_cons_succ, List.set_cons_zero]
    simp only [List.filterMap_cons, List.filterMap_nil, List.getElem?_toArray, List.getElem?_cons_zero, List.getElem?_cons_succ]
    show wpQuiet _ _ _ _ [_] _
    repeat (go_big_quiet_step (fail))
    refine wpQuiet_nil ?_
    intro e he
    simp only [List.mem_cons, List.not_mem_nil, or_false] at he
    subst he
    (unfold wpComes; simp only [List.getElem?_toArray, List.getElem?_cons_succ, List.getElem?_cons_zero, Option.some.injEq]; refine ⟨_, rfl, fun K hK => ?_⟩)
    go_wp2_with fail
    refine hK _ _ (.inl (by trivial)) ?_
    clear hK K
    refine wpZ_end (by kernel_rfl) ?_
    go_wp2
    have hX := X2.trans y6
    obtain ⟨k1, k2, k3, k4, k5, k6⟩ := HG9.out
    have hDl := (HO5.out.lt D rfl).2
    refine bodyPost_ret (v := .tuple #[.pointer (some ⟨w5.heap.size, 0, none⟩), .bool true]) (by simp [results, Tryz.results27, go_sem]) rfl ⟨⟨w5.heap.size, D, mb, rfl, ?_, ?_⟩, hX⟩
    · exact { nodes := Nds.at0 HND.out hh (Nat.le_refl _) hX, asgs := Asgs.at0 HAS.out hh (Nat.le_refl _) hX, bd := HBD.out, k := HKK.out, gl := hgl,
              pts := (HPT.out.wide (Nat.zero_le _) hh').ext (Nat.le_refl _) hX, tex := (HTX.out.wide (Nat.zero_le _) hh').ext (Nat.le_refl _) hX,
              hm := k1, n1 := k2, n8 := k3, ok := k4, tm9 := k5, f9 := k6, step := fun j x hx => HKK.out.ev_step hx, good := fun j hj => HKK.out.ev_good k1 k6 k5 _ j (Nat.lt_succ_self _) hj,
              bB := hX.size, box := hb6.out, map := HM5.out.ext (by repeat (with_reducible (first | assumption | exact Ext.refl _ | apply Ext.alloc | apply Ext.drew | apply Ext.drewN))), dB := HDB.out, dl := by simp; omega, eD := by omega, mD := HDM.out }
    · exact ⟨grownBy.refl _ _, _, HO5.out.alloc _, fun j u hj => .inl (by
        rw [List.getElem?_replicate] at hj
        split at hj
        · injection hj with hj; exact hj.symm
        · cases hj)⟩
  · skip
    (unfold wpComes; simp only [List.getElem?_toArray, List.getElem?_cons_succ, List.getElem?_cons_zero, Option.some.injEq]; refine ⟨_, rfl, fun K hK => ?_⟩)
    go_wp2_with (at_make; refine wpList_make_full _ rfl _ _ 70 rfl w2.heap.size 29 i0 (.slice none 0 0) 1 Tryz.underlying70 hi0 hz0 hz1 _ _ _ _ p.ns.length rfl rfl rfl rfl (by rw [hz2]; omega) (by unfold maxLen; omega) (Nat.le_refl _) ?_)
    intro w4 hown hgrow
    rw [made_rows] at hown
    have y4 : Ext w2 w4 := Ext.grown (by repeat (with_reducible (first | assumption | exact Ext.refl _ | apply Ext.alloc | apply Ext.drew | apply Ext.drewN))) hgrow (fun k h => by cases h)
    go_wp2_with fail
    refine hK _ _ (.inr (fun b _ hb => y4.block (by omega))) ?_
    clear hK K
    refine wpZ_stage (fuel := 4) [] [3] (by kernel_rfl) (fun b _ hb => y4.block (by omega)) ?_
    refine wpQuiet_nil ?_
    intro e he
    simp only [List.mem_cons, List.not_mem_nil, or_false] at he
    subst he
    (unfold wpComes; simp only [List.getElem?_toArray, List.getElem?_cons_succ, List.getElem?_cons_zero, Option.some.injEq]; refine ⟨_, rfl, fun K hK => ?_⟩)
    go_wp2_with fail
    refine (iAssigned_any lo hi _ p _ (HV.out.ext hh (X2.trans (y4))) (Nat.le_trans hh (X2.trans (y4)).size) HBD.out hgl).mono ?_
    rintro e w5 ⟨⟨mb, rfl, hmb, hM⟩, x3⟩
    have y5 : Ext w2 w5 := y4.trans x3
    go_wp2_with fail
    refine hK _ _ (.inr (fun b _ hb => y5.block (by omega))) ?_
    clear hK K
    have hX2s := X2.size
    have hM5 := hM
    have hdl := (hown.lt w2.heap.size rfl).2
    have hown5 : w5.ownsRow 0 29 1 (.slice (some ⟨w2.heap.size, 0, none⟩) p.ns.length p.ns.length) p.ns.length (List.replicate p.ns.length (.slice none 0 0)) := (ownsRow.low0 (by simpa using hown)).kept (grown_ext x3 none) (.inr (by simp [Value.ownBlock]))
    have hdm : mb ≠ w2.heap.size := by omega
    have hdb : w.heap.size ≤ w2.heap.size := by omega
    clear hown hM hgrow x3 y4
    have HO5 := hid hown5
    have HM5 := hid hM5
    have HDM := hid hdm
    have HDB := hid hdb
    have HX5 := hid y5
    clear hown5 hM5 hdm hdb
    refine wpZ_stage (fuel := 2) [8] [9] (by kernel_rfl) (fun b _ hb => y5.block (by omega)) ?_
    try simp only [Act.put, List.setIfInBounds_toArray, List.set_cons_succ, List.set_cons_zero]
    simp only [List.filterMap_cons, List.filterMap_nil, List.getElem?_toArray, List.getElem?_cons_zero, List.getElem?_cons_succ]
    show wpQuiet _ _ _ _ [_] _
    repeat (go_big_quiet_step (fail))
    refine wpQuiet_nil ?_
    intro e he
    simp only [List.mem_cons, List.not_mem_nil, or_false] at he
    subst he
    (unfold wpComes; simp only [List.getElem?_toArray, List.getElem?_cons_succ, List.getElem?_cons_zero, Option.some.injEq]; refine ⟨_, rfl, fun K hK => ?_⟩)
    go_wp2_with fail
    have y6 : Ext w2 (w5.alloc (.cells #[.slice a1 p.ns.length c1, .slice a2 p.gs.length c2, .int .i64 n, pu, .int .i64 g.tm, .int .i64 g.t.log, tu, .map (some mb), .slice (some ⟨w2.heap.size, 0, none⟩) p.ns.length p.ns.length] 72)) := y5.alloc _
    have hb6 := hid (Bx.made w5 #[.slice a1 p.ns.length c1, .slice a2 p.gs.length c2, .int .i64 n, pu, .int .i64 g.tm, .int .i64 g.t.log, tu, .map (some mb), .slice (some ⟨w2.heap.size, 0, none⟩) p.ns.length p.ns.length] 72)
    refine hK _ _ (.inr (fun b _ hb => y6.block (by omega))) ?_
    clear hK K
    refine wpZ_stage (fuel := 0) [10] [11] (by kernel_rfl) (fun b _ hb => y6.block (by omega)) ?_
    try simp only [Act.put, List.setIfInBounds_toArray, List.set_cons_succ, List.set_cons_zero]
    simp only [List.filterMap_cons, List.filterMap_nil, List.getElem?_toArray, List.getElem?_cons_zero, List.getElem?_cons_succ]
    show wpQuiet _ _ _ _ [_] _
    repeat (go_big_quiet_step (fail))
    refine wpQuiet_nil ?_
    intro e he
    simp only [List.mem_cons, List.not_mem_nil, or_false] at he
    subst he
    (unfold wpComes; simp only [List.getElem?_toArray, List.getElem?_cons_succ, List.getElem?_cons_zero, Option.some.injEq]; refine ⟨_, rfl, fun K hK => ?_⟩)
    go_wp2_with fail
    refine hK _ _ (.inl (by trivial)) ?_
    clear hK K
    refine wpZ_end (by kernel_rfl) ?_
    go_wp2
    have hX := X2.trans y6
    obtain ⟨k1, k2, k3, k4, k5, k6⟩ := HG9.out
    have hDl := (HO5.out.lt w2.heap.size rfl).2
    refine bodyPost_ret (v := .tuple #[.pointer (some ⟨w5.heap.size, 0, none⟩), .bool true]) (by simp [results, Tryz.results27, go_sem]) rfl ⟨⟨w5.heap.size, w2.heap.size, mb, rfl, ?_, ?_⟩, hX⟩
    · exact { nodes := Nds.at0 HND.out hh (Nat.le_refl _) hX, asgs := Asgs.at0 HAS.out hh (Nat.le_refl _) hX, bd := HBD.out, k := HKK.out, gl := hgl,
              pts := (HPT.out.wide (Nat.zero_le _) hh').ext (Nat.le_refl _) hX, tex := (HTX.out.wide (Nat.zero_le _) hh').ext (Nat.le_refl _) hX,
              hm := k1, n1 := k2, n8 := k3, ok := k4, tm9 := k5, f9 := k6, step := fun j x hx => HKK.out.ev_step hx, good := fun j hj => HKK.out.ev_good k1 k6 k5 _ j (Nat.lt_succ_self _) hj,
              bB := hX.size, box := hb6.out, map := HM5.out.ext (by repeat (with_reducible (first | assumption | exact Ext.refl _ | apply Ext.alloc | apply Ext.drew | apply Ext.drewN))), dB := HDB.out, dl := by simp; omega, eD := by omega, mD := HDM.out }
    · exact ⟨grownBy.refl _ _, _, HO5.out.alloc _, fun j u hj => .inl (by
        rw [List.getElem?_replicate] at hj
        split at hj
        · injection hj with hj; exact hj.symm
        · cases hj)⟩
end Go.Proofs.YtaegmenjgjdimaaGreat
end

section
/- This text proves the program's EvalNode. -/
namespace Go.Proofs.YtaegmenjgjdimaaGreat
open Go.RowKit Go.Maps Go.WideMaps

/-- the values of a program's nodes on a grid -/
noncomputable def evV (p : Prg) (g : Grd) : Nat → List Int := p.ev g.n.toNat g.m g.f g.tm g.t
noncomputable def evN (p : Prg) (g : Grd) (node i j : Int) : Int := if (evOk p g i j && inB node 0 ((p.ns.length : Int) - 1)) = true then (evV p g node.toNat).getD (j * g.n + i).toNat 0 else 0
theorem Prg.R.form2 {p : Prg} {lo hi : Nat} {w : World} {v : Value} (h : p.R lo hi w v) : ∃ a1 c1 a2 c2, v = .agg #[.slice a1 p.ns.length c1, .slice a2 p.gs.length c2] := by
  obtain ⟨a1, c1, a2, c2, rfl, _⟩ := h.form
  exact ⟨a1, c1, a2, c2, rfl⟩
theorem at_lt {n m i j : Nat} (hm : n * n = m) (hi : i < n) (hj : j < n) : j * n + i < m := by
  have h1 : (j + 1) * n ≤ n * n := Nat.mul_le_mul_right n hj
  rw [Nat.add_mul, Nat.one_mul] at h1
  omega
theorem evOk_parts {p : Prg} {g : Grd} {i j : Int} (h : evOk p g i j = true) : ∃ (n i' j' : Nat), g.n = n ∧ i = i' ∧ j = j' ∧ i' < n ∧ j' < n ∧ n ≤ 8 ∧ n * n = g.m := by
  unfold evOk at h
  simp only [Bool.and_eq_true] at h
  obtain ⟨⟨⟨h1, h2⟩, hbi⟩, hbj⟩ := h
  obtain ⟨n, hn, hnn, n1, n8, _⟩ := Grd.partsE h2
  have h3 := inB_iff.1 hbi
  have h4 := inB_iff.1 hbj
  exact ⟨n, i.toNat, j.toNat, hn, by omega, by omega, by omega, by omega, n8, hnn⟩
set_option maxRecDepth 20000 in
set_option maxHeartbeats 12800000 in
theorem iEvalNode_any (lo hi lo' hi' : Nat) (v u : Value) (p : Prg) (g : Grd) (node i j : Int) (w : World) (hv : p.R lo hi w v) (hh : hi ≤ w.heap.size) (hu : g.R lo' hi' w u) (hh' : hi' ≤ w.heap.size) (hb : p.bd) (hgl : p.gs.length ≤ 1048576) :
    Calls Tryz.prog 10 #[v, u, .int .i64 node, .int .i64 i, .int .i64 j] w fun e w' => e = .returned (.int .i64 (evN p g node i j)) ∧ Ext w w' := by
  have HV := hid hv
  have HU := hid hu
  obtain ⟨a1, c1, a2, c2, rfl, HN, -⟩ := hv.form
  have l1 := HN.le
  have l2 := HN.cap
  obtain ⟨pu, tu, rfl, n64, t64, l64, hp, ht⟩ := hu
  clear hv hp ht t64 l64 HN
  have x0 : Ext w ((w.alloc (.cells #[.slice a1 p.ns.length c1, .slice a2 p.gs.length c2] 26)).alloc (.cells #[.int .i64 g.n, pu, .int .i64 g.tm, .int .i64 g.t.log, tu] 33)) := (by repeat (with_reducible (first | assumption | exact Ext.refl _ | apply Ext.alloc | apply Ext.drew | apply Ext.drewN)))
  cases hok : evOk p g i j
  · have HOK := hid hok
    have HE : Hid (evN p g node i j = 0) := hid (by unfold evN; rw [hok]; rfl)
    clear hok n64
    go_enter Tryz.func10, Tryz.ntmps10
    go_wp2_with fail
    refine (iEvalOf_no lo hi lo' hi' _ _ p g i j _ (HV.out.ext hh x0) (Nat.le_trans hh x0.size) (HU.out.ext2 hh' x0) (Nat.le_trans hh' x0.size) hb hgl HOK.out).mono ?_
    rintro e w1 ⟨rfl, x1⟩
    have X1 := x0.trans x1
    go_wp2
    go_ret
    exact ⟨by rw [HE.out]; rfl, X1⟩
  obtain ⟨n, i', j', hn, rfl, rfl, hi2, hj2, hn8, hnm⟩ := evOk_parts hok
  have bP := (Bx.made w #[.slice a1 p.ns.length c1, .slice a2 p.gs.length c2] 26).ext (show Ext _ ((w.alloc (.cells #[.slice a1 p.ns.length c1, .slice a2 p.gs.length c2] 26)).alloc (.cells #[.int .i64 g.n, pu, .int .i64 g.tm, .int .i64 g.t.log, tu] 33)) from (by repeat (with_reducible (first | assumption | exact Ext.refl _ | apply Ext.alloc | apply Ext.drew | apply Ext.drewN))))
  have bG := Bx.madeAt (B := w.heap.size + 1) (w.alloc (.cells #[.slice a1 p.ns.length c1, .slice a2 p.gs.length c2] 26)) #[.int .i64 g.n, pu, .int .i64 g.tm, .int .i64 g.t.log, tu] 33 (by simp)
  have hq := at_lt hnm hi2 hj2
  obtain ⟨q, hqe⟩ : ∃ q, j' * n + i' = q := ⟨_, rfl⟩
  rw [hqe] at hq
  have hqi : (j' : Int) * n + i' = q := by rw [← hqe]; simp
  have hEV : evV p g = p.ev n g.m g.f g.tm g.t := by unfold evV; rw [hn]; rfl
  have HEV := hid hEV
  have HEN : Hid (∀ nd : Nat, evN p g nd i' j' = if inB (nd : Int) 0 ((p.ns.length : Int) - 1) = true then (p.ev n g.m g.f g.tm g.t nd).getD q 0 else 0) := hid (fun nd => by
    unfold evN
    rw [hok, Bool.true_and, hEV, hn, hqi]
    simp)
  have HEN0 : Hid (∀ nd : Int, inB nd 0 ((p.ns.length : Int) - 1) = false → evN p g nd i' j' = 0) := hid (fun nd h => by
    unfold evN
    rw [h, Bool.and_false]
    rfl)
  have HOK := hid hok
  have HNN := hid hn
  rw [hn] at bG bP HU x0 ⊢
  have hm64 : g.m ≤ 64 := by rw [← hnm]; have := Nat.mul_le_mul hn8 hn8; omega
  have hjn : (j' : Int) * n ≤ 64 := by have : ((j' * n : Nat) : Int) ≤ 64 := by omega
                                       simpa using this
  have hjn0 : 0 ≤ (j' : Int) * n := by have : (0 : Int) ≤ ((j' * n : Nat) : Int) := by omega
                                       simpa using this
  obtain ⟨jn, hjne⟩ : ∃ jn, (j' : Int) * n = jn := ⟨_, rfl⟩
  rw [hjne] at hqi hjn hjn0
  have HQ := hid hqe
  have HNM := hid hnm
  clear hok hn n64 hEV hqe hnm
  go_enter Tryz.func10, Tryz.ntmps10
  go_wp2_with fail
  refine (iEvalOf_yes lo hi lo' hi' a1 a2 c1 c2 pu tu p g n i' j' _ (HV.out.ext hh x0) (Nat.le_trans hh x0.size) (HU.out.ext2 hh' x0) (Nat.le_trans hh' x0.size) hb hgl HNN.out HOK.out).mono ?_
  rintro e w1 ⟨⟨E, D, mb, rfl, hC, hI⟩, x1⟩
  have X1 := x0.trans x1
  have bP1 := bP.ext x1
  have bG1 := bG.ext x1
  have HC := hid hC
  have HI := hid hI
  have hdB := hC.dB
  simp only [World.size_alloc] at hdB
  have hdl := hC.dl
  have b := bP1.lt
  have b0 := bP1.cell 0
  simp only [List.getElem?_toArray, List.getElem?_cons_zero, List.getElem?_cons_succ] at b0
  have b1 := bP1.cell 1
  simp only [List.getElem?_toArray, List.getElem?_cons_zero, List.getElem?_cons_succ] at b1
  have d := bG1.lt
  have d0 := bG1.cell 0
  simp only [List.getElem?_toArray, List.getElem?_cons_zero, List.getElem?_cons_succ] at d0
  have d1 := bG1.cell 1
  simp only [List.getElem?_toArray, List.getElem?_cons_zero, List.getElem?_cons_succ] at d1
  have d2 := bG1.cell 2
  simp only [List.getElem?_toArray, List.getElem?_cons_zero, List.getElem?_cons_succ] at d2
  have d3 := bG1.cell 3
  simp only [List.getElem?_toArray, List.getElem?_cons_zero, List.getElem?_cons_succ] at d3
  have d4 := bG1.cell 4
  simp only [List.getElem?_toArray, List.getElem?_cons_zero, List.getElem?_cons_succ] at d4
  obtain ⟨bn, hbn⟩ : ∃ b, inB node 0 ((p.ns.length : Int) - 1) = b := ⟨_, rfl⟩
  have HBN := hid hbn
  clear hC hI x0 x1 bP bG bP1 bG1 hbn
  go_wp2_with fail
  refine (within_val HBN.out _).mono ?_
  rintro e w2 ⟨rfl, rfl⟩
  cases bn
  · go_wp2
    go_ret
    exact ⟨by rw [HEN0.out _ HBN.out]; rfl, X1⟩
  have hnd := inB_iff.1 HBN.out
  obtain ⟨nd, rfl⟩ : ∃ nd : Nat, node = nd := ⟨node.toNat, by omega⟩
  have hndl : nd < p.ns.length := by omega
  have hbD : w.heap.size + 1 ≠ D := by omega
  clear hnd
  go_wp2_with fail
  refine wp_region_stagesS [([0, 1, 3, 4, 5, 6, 7, 8], 2), ([], 9), ([], 10), ([], 11)] 99 (fun w' => ∃ d, w' = lowx (w1.heap.size) (D) _ d) (by kernel_rfl) (by kernel_rfl) ⟨_, lowx_of (fun _ _ _ => rfl)⟩ ?_
  refine wpStagesS_cons ?_
  simp only [List.filterMap_cons, List.filterMap_nil, List.getElem?_toArray, List.getElem?_cons_zero, List.getElem?_cons_succ]
  show wpQuiet _ _ _ _ [_, _, _, _, _, _, _, _] _
  repeat (go_big_quiet_step (fail))
  refine wpQuiet_nil ⟨_, rfl, fun K hK => ?_⟩
  go_wp2_with fail
  refine (iValues_any HC.out (p.rank nd + 1) nd _ (Nat.lt_succ_self _) hndl (HI.out.ext ((Ext.refl w1).drew))).mono ?_
  rintro e w3 ⟨⟨rg, rc, rfl, hO⟩, hI3, hg3⟩
  have hg3' : w1.grownBy w3 (some D) := grownBy.trans (grown_ext ((Ext.refl w1).drew) _) hg3
  have hrow := hO.ints
  have hgd := HC.out.good nd hndl
  obtain ⟨ra', rc', e9, HR⟩ := hrow.open
  rw [hgd.1] at e9
  simp only [Value.slice.injEq, true_and] at e9
  obtain ⟨rfl, rfl⟩ := e9
  have hrl := HR.le
  have hrc := HR.cap
  rw [hgd.1] at hrl
  obtain ⟨rb, ro, re, rfirst, rlt, rcell⟩ := HR.at (k := q) (by rw [hgd.1]; exact hq)
  simp only [Option.some.injEq, Addr.mk.injEq, and_true] at re
  obtain ⟨rfl, rfl⟩ := re
  simp only [Nat.zero_add] at rcell
  have hval : (p.ev n g.m g.f g.tm g.t nd)[q]'(by rw [hgd.1]; exact hq) = evN p g nd i' j' := by
    rw [HEN.out nd, if_pos HBN.out, List.getD_eq_getElem?_getD, List.getElem?_eq_getElem (by rw [hgd.1]; exact hq)]
    rfl
  rw [hval] at rcell
  have HG3 := hid hg3
  have X3 := X1.grown hg3' (fun k hk => by injection hk with hk; omega)
  clear hO hI3 hg3' hrow hgd HR hval
  go_wp2_with fail
  refine hK _ _ (.inr ⟨_, lowx_of (SameX.gr HG3.out (Nat.le_refl _))⟩) ?_
  clear hK K
  refine wpStagesS_cons ?_
  simp only [List.filterMap_nil]
  show wpQuiet _ _ _ _ [] _
  try simp only [Act.put, List.setIfInBounds_toArray, List.set_cons_succ, List.set_cons_zero]
  repeat (go_big_quiet_step (fail))
  refine wpQuiet_nil ⟨_, rfl, fun K hK => ?_⟩
  go_wp2_with fail
  go_wp2_with fail
  refine hK _ _ (.inr ⟨_, lowx_of (SameX.gr HG3.out (Nat.le_refl _))⟩) ?_
  clear hK K
  refine wpStagesS_cons ?_
  simp only [List.filterMap_nil]
  show wpQuiet _ _ _ _ [] _
  try simp only [Act.put, List.setIfInBounds_toArray, List.set_cons_succ, List.set_cons_zero]
  repeat (go_big_quiet_step (fail))
  refine wpQuiet_nil ⟨_, rfl, fun K hK => ?_⟩
  go_wp2_with fail
  go_wp2_with fail
  refine hK _ _ (.inr ⟨_, lowx_of (SameX.gr HG3.out (Nat.le_refl _))⟩) ?_
  clear hK K
  refine wpStagesS_cons ?_
  simp only [List.filterMap_nil]
  show wpQuiet _ _ _ _ [] _
  try simp only [Act.put, List.setIfInBounds_toArray, List.set_cons_succ, List.set_cons_zero]
  repeat (go_big_quiet_step (fail))
  refine wpQuiet_nil ⟨_, rfl, fun K hK => ?_⟩
  go_wp2_with fail
  go_wp2_with fail
  refine hK _ _ (.inr ⟨_, lowx_of (SameX.gr HG3.out (Nat.le_refl _))⟩) ?_
  clear hK K
  refine wpStagesS_nil ?_
  go_wp2
  go_ret
  exact ⟨rfl, X3⟩
end Go.Proofs.YtaegmenjgjdimaaGreat
end

section
/- This text proves the program's ShadePoint. -/
namespace Go.Proofs.YtaegmenjgjdimaaGreat
open Go.RowKit Go.Maps Go.WideMaps

/-- the value at point q of the name l, 256 where it is not assigned -/
noncomputable def named (p : Prg) (g : Grd) (q : Nat) (l : List UInt8) : Int := match frst p.gs p.gs.length l with | some k => (evV p g (((p.gs[k]?).map fun a => a.root.toNat).getD 0)).getD q 0 | none => 256
noncomputable def shC (p : Prg) (g : Grd) (i j : Int) : Int := if evOk p g i j = true then clampI (named p g (j * g.n + i).toNat [99, 111, 108, 111, 114]) 0 256 else 0
noncomputable def shA (p : Prg) (g : Grd) (i j : Int) : Int := if evOk p g i j = true then clampI (named p g (j * g.n + i).toNat [97, 108, 112, 104, 97]) 0 256 else 0
theorem alphaS : (⟨#[97, 108, 112, 104, 97]⟩ : ByteArray).toList = [97, 108, 112, 104, 97] := by rw [Lib.toList_data]
theorem named_some {p : Prg} {g : Grd} {q : Nat} {l : List UInt8} {k r : Nat} {s : ByteArray} (h : frst p.gs p.gs.length l = some k) (hk : p.gs[k]? = some ⟨s, r⟩) : named p g q l = (evV p g r).getD q 0 := by
  unfold named
  rw [h]
  simp [hk]
theorem named_none {p : Prg} {g : Grd} {q : Nat} {l : List UInt8} (h : frst p.gs p.gs.length l = none) : named p g q l = 256 := by unfold named; rw [h]
/-- the assignment to a name that is known, its root -/
theorem Prg.K.asg {p : Prg} (h : p.K) {l : List UInt8} {k : Nat} (hf : frst p.gs p.gs.length l = some k) : ∃ (s : ByteArray) (r : Nat), p.gs[k]? = some ⟨s, (r : Nat)⟩ ∧ r < p.ns.length ∧ k < p.gs.length ∧ s.toList = l := by
  obtain ⟨h1, ⟨a, h2, h3⟩, _⟩ := frst_some hf
  have hr := (h.v.ag k a h2).2
  refine ⟨a.name, a.root.toNat, ?_, by omega, h1, h3⟩
  rw [h2]
  cases a
  simp only [Option.some.injEq, Asg.mk.injEq, true_and] at *
  omega
/-- entry q of a row that the evaluator handed back -/
theorem row_at {m q g c : Nat} {w : World} {xs : List Int} (h : OwnInts 0 w (.slice (some ⟨g, 0, none⟩) m c) xs) (hx : xs.length = m) (hq : q < m) :
    m ≤ c ∧ c ≤ 9223372036854775807 ∧ g < w.heap.size ∧ w.cell? ⟨g, q, none⟩ = some (.int .i64 (xs.getD q 0)) := by
  obtain ⟨ra, rc, e, HR⟩ := h.ints.open
  rw [hx] at e
  simp only [Value.slice.injEq, true_and] at e
  obtain ⟨rfl, rfl⟩ := e
  obtain ⟨rb, ro, re, h1, h2, h3⟩ := HR.at (k := q) (by omega)
  simp only [Option.some.injEq, Addr.mk.injEq, and_true] at re
  obtain ⟨rfl, rfl⟩ := re
  rw [Nat.zero_add] at h3
  have h4 := HR.le
  rw [hx] at h4
  refine ⟨h4, HR.cap, h2, ?_⟩
  rw [h3, List.getD_eq_getElem?_getD, List.getElem?_eq_getElem (by omega)]
  rfl
set_option maxRecDepth 20000 in
set_option maxHeartbeats 12800000 in
theorem iShadePoint_any (lo hi lo' hi' : Nat) (v u : Value) (p : Prg) (g : Grd) (i j : Int) (w : World) (hv : p.R lo hi w v) (hh : hi ≤ w.heap.size) (hu : g.R lo' hi' w u) (hh' : hi' ≤ w.heap.size) (hb : p.bd) (hgl : p.gs.length ≤ 1048576) :
    Calls Tryz.prog 11 #[v, u, .int .i64 i, .int .i64 j] w fun e w' => e = .returned (.tuple #[.int .i64 (shC p g i j), .int .i64 (shA p g i j), .bool (evOk p g i j)]) ∧ Ext w w' := by
  have HV := hid hv
  have HU := hid hu
  obtain ⟨a1, c1, a2, c2, rfl, -, HAS⟩ := hv.form
  have l3 := HAS.le
  have l4 := HAS.cap
  obtain ⟨pu, tu, rfl, n64, t64, l64, hp, ht⟩ := hu
  clear hv hp ht t64 l64 HAS
  have x0 : Ext w ((w.alloc (.cells #[.slice a1 p.ns.length c1, .slice a2 p.gs.length c2] 26)).alloc (.cells #[.int .i64 g.n, pu, .int .i64 g.tm, .int .i64 g.t.log, tu] 33)) := (by repeat (with_reducible (first | assumption | exact Ext.refl _ | apply Ext.alloc | apply Ext.drew | apply Ext.drewN)))
  cases hok : evOk p g i j
  · have HOK := hid hok
    have HE : Hid (shC p g i j = 0 ∧ shA p g i j = 0) := hid (by unfold shC shA; rw [hok]; exact ⟨rfl, rfl⟩)
    clear hok n64
    go_enter Tryz.func11, Tryz.ntmps11
    go_wp2_with fail
    refine (iEvalOf_no lo hi lo' hi' _ _ p g i j _ (HV.out.ext hh x0) (Nat.le_trans hh x0.size) (HU.out.ext2 hh' x0) (Nat.le_trans hh' x0.size) hb hgl HOK.out).mono ?_
    rintro e w1 ⟨rfl, x1⟩
    have X1 := x0.trans x1
    go_wp2
    refine bodyPost_ret (v := .tuple #[.int .i64 0, .int .i64 0, .bool false]) (by simp [results, Tryz.results11, go_sem]) rfl ⟨by rw [HE.out.1, HE.out.2], X1⟩
  obtain ⟨n, i', j', hn, rfl, rfl, hi2, hj2, hn8, hnm⟩ := evOk_parts hok
  have bP := (Bx.made w #[.slice a1 p.ns.length c1, .slice a2 p.gs.length c2] 26).ext (show Ext _ ((w.alloc (.cells #[.slice a1 p.ns.length c1, .slice a2 p.gs.length c2] 26)).alloc (.cells #[.int .i64 g.n, pu, .int .i64 g.tm, .int .i64 g.t.log, tu] 33)) from (by repeat (with_reducible (first | assumption | exact Ext.refl _ | apply Ext.alloc | apply Ext.drew | apply Ext.drewN))))
  have bG := Bx.madeAt (B := w.heap.size + 1) (w.alloc (.cells #[.slice a1 p.ns.length c1, .slice a2 p.gs.length c2] 26)) #[.int .i64 g.n, pu, .int .i64 g.tm, .int .i64 g.t.log, tu] 33 (by simp)
  have hq := at_lt hnm hi2 hj2
  obtain ⟨q, hqe⟩ : ∃ q, j' * n + i' = q := ⟨_, rfl⟩
  rw [hqe] at hq
  have hqi : (j' : Int) * n + i' = q := by rw [← hqe]; simp
  have hEV : evV p g = p.ev n g.m g.f g.tm g.t := by unfold evV; rw [hn]; rfl
  have HEV := hid hEV
  have HC1 : Hid (shC p g i' j' = clampI (named p g q [99, 111, 108, 111, 114]) 0 256) := hid (by
    unfold shC
    rw [hok, if_pos rfl, hn, hqi]
    simp)
  have HA1 : Hid (shA p g i' j' = clampI (named p g q [97, 108, 112, 104, 97]) 0 256) := hid (by
    unfold shA
    rw [hok, if_pos rfl, hn, hqi]
    simp)
  have HOK := hid hok
  have HNN := hid hn
  rw [hn] at bG bP HU x0 ⊢
  have hm64 : g.m ≤ 64 := by rw [← hnm]; have := Nat.mul_le_mul hn8 hn8; omega
  have hjn : (j' : Int) * n ≤ 64 := by have : ((j' * n : Nat) : Int) ≤ 64 := by omega
                                       simpa using this
  have hjn0 : 0 ≤ (j' : Int) * n := by have : (0 : Int) ≤ ((j' * n : Nat) : Int) := by omega
                                       simpa using this
  obtain ⟨jn, hjne⟩ : ∃ jn, (j' : Int) * n = jn := ⟨_, rfl⟩
  rw [hjne] at hqi hjn hjn0
  have HQ := hid hqe
  have HNM := hid hnm
  clear hok hn n64 hEV hqe hnm
  go_enter Tryz.func11, Tryz.ntmps11
  go_wp2_with fail
  refine (iEvalOf_yes lo hi lo' hi' a1 a2 c1 c2 pu tu p g n i' j' _ (HV.out.ext hh x0) (Nat.le_trans hh x0.size) (HU.out.ext2 hh' x0) (Nat.le_trans hh' x0.size) hb hgl HNN.out HOK.out).mono ?_
  rintro e w1 ⟨⟨E, D, mb, rfl, hC, hI⟩, x1⟩
  have X1 := x0.trans x1
  have bP1 := bP.ext x1
  have bG1 := bG.ext x1
  have HC := hid hC
  have HI := hid hI
  have HBE := hid (hC.boxE hI)
  have HBP := hid bP1
  have hdB := hC.dB
  simp only [World.size_alloc] at hdB
  have hdl := hC.dl
  have heD := hC.eD
  have hmD := hC.mD
  have hbD : w.heap.size ≠ D := by omega
  have hbD2 : w.heap.size + 1 ≠ D := by omega
  have hbe := HBE.out
  have b := bP1.lt
  have b0 := bP1.cell 0
  simp only [List.getElem?_toArray, List.getElem?_cons_zero, List.getElem?_cons_succ] at b0
  have b1 := bP1.cell 1
  simp only [List.getElem?_toArray, List.getElem?_cons_zero, List.getElem?_cons_succ] at b1
  have d := bG1.lt
  have d0 := bG1.cell 0
  simp only [List.getElem?_toArray, List.getElem?_cons_zero, List.getElem?_cons_succ] at d0
  have d1 := bG1.cell 1
  simp only [List.getElem?_toArray, List.getElem?_cons_zero, List.getElem?_cons_succ] at d1
  have d2 := bG1.cell 2
  simp only [List.getElem?_toArray, List.getElem?_cons_zero, List.getElem?_cons_succ] at d2
  have d3 := bG1.cell 3
  simp only [List.getElem?_toArray, List.getElem?_cons_zero, List.getElem?_cons_succ] at d3
  have d4 := bG1.cell 4
  simp only [List.getElem?_toArray, List.getElem?_cons_zero, List.getElem?_cons_succ] at d4
  have e := hbe.lt
  have e0 := hbe.cell 0
  simp only [List.getElem?_toArray, List.getElem?_cons_zero, List.getElem?_cons_succ] at e0
  have e1 := hbe.cell 1
  simp only [List.getElem?_toArray, List.getElem?_cons_zero, List.getElem?_cons_succ] at e1
  have e2 := hbe.cell 2
  simp only [List.getElem?_toArray, List.getElem?_cons_zero, List.getElem?_cons_succ] at e2
  have e3 := hbe.cell 3
  simp only [List.getElem?_toArray, List.getElem?_cons_zero, List.getElem?_cons_succ] at e3
  have e4 := hbe.cell 4
  simp only [List.getElem?_toArray, List.getElem?_cons_zero, List.getElem?_cons_succ] at e4
  have e5 := hbe.cell 5
  simp only [List.getElem?_toArray, List.getElem?_cons_zero, List.getElem?_cons_succ] at e5
  have e6 := hbe.cell 6
  simp only [List.getElem?_toArray, List.getElem?_cons_zero, List.getElem?_cons_succ] at e6
  have e7 := hbe.cell 7
  simp only [List.getElem?_toArray, List.getElem?_cons_zero, List.getElem?_cons_succ] at e7
  have e8 := hbe.cell 8
  simp only [List.getElem?_toArray, List.getElem?_cons_zero, List.getElem?_cons_succ] at e8
  have HM := hid (hC.mapE hI)
  clear hC hI x0 x1 bP bG bP1 bG1 hbe
  obtain ⟨kc, hkc⟩ := HC.out.k.col
  obtain ⟨sc, rc, hgc, hrc, hkcl, _⟩ := HC.out.k.asg hkc
  have HNC : Hid (named p g q [99, 111, 108, 111, 114] = (p.ev n g.m g.f g.tm g.t rc).getD q 0) := hid (by rw [named_some hkc hgc, HEV.out])
  have HKC := hid hkc
  have HGC := hid hgc
  clear hkc hgc
  cases hka : frst p.gs p.gs.length [97, 108, 112, 104, 97] with
  | none =>
    have HKA := hid hka
    have HA2 : Hid (clampI 256 0 256 = shA p g i' j') := hid (by rw [HA1.out, named_none hka])
    have HI2 := HI
    have HBP2 := HBP
    have HX2 := hid X1
    clear hka
    go_wp2_with (at_lookup; refine wpList_first_ok _ rfl _ _ rfl _ _ _ rfl HM.out (⟨#[97, 108, 112, 104, 97]⟩ : ByteArray) (by decide) rfl none (by rw [alphaS]; exact HKA.out) ?_)
    clear b b0 b1 d d0 d1 d2 d3 d4 e e0 e1 e2 e3 e4 e5 e6 e7 e8
    have hbp2 := HBP2.out
    have hbe2 := HC.out.boxE HI2.out
    have b := hbp2.lt
    have b0 := hbp2.cell 0
    simp only [List.getElem?_toArray, List.getElem?_cons_zero, List.getElem?_cons_succ] at b0
    have b1 := hbp2.cell 1
    simp only [List.getElem?_toArray, List.getElem?_cons_zero, List.getElem?_cons_succ] at b1
    have e := hbe2.lt
    have e0 := hbe2.cell 0
    simp only [List.getElem?_toArray, List.getElem?_cons_zero, List.getElem?_cons_succ] at e0
    have e1 := hbe2.cell 1
    simp only [List.getElem?_toArray, List.getElem?_cons_zero, List.getElem?_cons_succ] at e1
    have e2 := hbe2.cell 2
    simp only [List.getElem?_toArray, List.getElem?_cons_zero, List.getElem?_cons_succ] at e2
    have e3 := hbe2.cell 3
    simp only [List.getElem?_toArray, List.getElem?_cons_zero, List.getElem?_cons_succ] at e3
    have e4 := hbe2.cell 4
    simp only [List.getElem?_toArray, List.getElem?_cons_zero, List.getElem?_cons_succ] at e4
    have e5 := hbe2.cell 5
    simp only [List.getElem?_toArray, List.getElem?_cons_zero, List.getElem?_cons_succ] at e5
    have e6 := hbe2.cell 6
    simp only [List.getElem?_toArray, List.getElem?_cons_zero, List.getElem?_cons_succ] at e6
    have e7 := hbe2.cell 7
    simp only [List.getElem?_toArray, List.getElem?_cons_zero, List.getElem?_cons_succ] at e7
    have e8 := hbe2.cell 8
    simp only [List.getElem?_toArray, List.getElem?_cons_zero, List.getElem?_cons_succ] at e8
    obtain ⟨_, zb, zo, ze, _, zl, z0, z1⟩ := (HC.out.asgs.same (HC.out.same HI2.out)).cell kc _ HGC.out
    simp only at z0 z1
    subst ze
    have hM2 := HC.out.mapE HI2.out
    have hcl : (⟨#[99, 111, 108, 111, 114]⟩ : ByteArray).size ≤ maxLen := by decide
    have hlook : ∀ dd, (Instr.lookup 69 (.map (some mb)) (.string ⟨#[99, 111, 108, 111, 114]⟩) false).run Tryz.prog (lowx w1.heap.size D w1.drew dd) = .ok (.int .i64 (kc : Int)) (lowx w1.heap.size D w1.drew dd) := fun dd => ((hM2.ext ((Ext.refl _).drew)).of_block (w' := lowx w1.heap.size D w1.drew dd) (lowx_same _ _ _ _ _ hM2.lt hmD)).look hcl (by rw [colS]; exact HKC.out)
    have hlook2 : ∀ dd, (Instr.lookup 69 (.map (some mb)) (.string ⟨#[99, 111, 108, 111, 114]⟩) false).run Tryz.prog (lowx w1.heap.size D w1 dd) = .ok (.int .i64 (kc : Int)) (lowx w1.heap.size D w1 dd) := fun dd => (hM2.of_block (w' := lowx w1.heap.size D w1 dd) (lowx_same _ _ _ _ _ hM2.lt hmD)).look hcl (by rw [colS]; exact HKC.out)
    have hzw := HX2.out.size
    have hzb : zb < w1.heap.size := by simp only [World.size_alloc] at zl; have := HI2.out.size; omega
    have hzD : zb ≠ D := by simp only [World.size_alloc] at zl; omega
    clear hbp2 hbe2 hM2
    go_wp2_with fail
    refine wp_region_stagesS [([0, 1, 2, 3, 4, 5, 6, 7, 8, 9, 10, 12], 11), ([], 13), ([], 14), ([], 15)] 99 (fun w' => ∃ d, w' = lowx (w1.heap.size) (D) _ d) (by kernel_rfl) (by kernel_rfl) ⟨_, lowx_of (fun _ _ _ => rfl)⟩ ?_
    refine wpStagesS_cons ?_
    simp only [List.filterMap_cons, List.filterMap_nil, List.getElem?_toArray, List.getElem?_cons_zero, List.getElem?_cons_succ]
    show wpQuiet _ _ _ _ [_, _, _, _, _, _, _, _, _, _, _, _] _
    repeat (go_big_quiet_step (fail))
    refine wpQuiet_nil ⟨_, rfl, fun K hK => ?_⟩
    go_wp2_with fail
    refine (iValues_any HC.out (p.rank rc + 1) rc _ (Nat.lt_succ_self _) hrc (HI2.out.ext ((Ext.refl _).drew))).mono ?_
    rintro e w5 ⟨⟨tg, tc, rfl, hO⟩, hI5, hg5⟩
    obtain ⟨t1, t2, t3, t4⟩ := row_at hO (HC.out.good rc hrc).1 hq
    rw [← HNC.out] at t4
    have HG5 := hid hg5
    have HX5 := hid (HX2.out.grown (grownBy.trans (grown_ext ((Ext.refl w1).drew) _) hg5 : w1.grownBy w5 (some D)) (fun k hk => by injection hk with hk; omega))
    clear hO hI5 hg5 hlook hlook2 z0 z1
    go_wp2_with fail
    refine hK _ _ (.inr ⟨_, lowx_of (SameX.gr HG5.out (Nat.le_refl _))⟩) ?_
    clear hK K
    refine wpStagesS_cons ?_
    simp only [List.filterMap_nil]
    show wpQuiet _ _ _ _ [] _
    try simp only [Act.put, List.setIfInBounds_toArray, List.set_cons_succ, List.set_cons_zero]
    repeat (go_big_quiet_step (fail))
    refine wpQuiet_nil ⟨_, rfl, fun K hK => ?_⟩
    go_wp2_with fail
    go_wp2_with fail
    refine hK _ _ (.inr ⟨_, lowx_of (SameX.gr HG5.out (Nat.le_refl _))⟩) ?_
    clear hK K
    refine wpStagesS_cons ?_
    simp only [List.filterMap_nil]
    show wpQuiet _ _ _ _ [] _
    try simp only [Act.put, List.setIfInBounds_toArray, List.set_cons_succ, List.set_cons_zero]
    repeat (go_big_quiet_step (fail))
    refine wpQuiet_nil ⟨_, rfl, fun K hK => ?_⟩
    go_wp2_with fail
    go_wp2_with fail
    refine hK _ _ (.inr ⟨_, lowx_of (SameX.gr HG5.out (Nat.le_refl _))⟩) ?_
    clear hK K
    refine wpStagesS_cons ?_
    simp only [List.filterMap_nil]
    show wpQuiet _ _ _ _ [] _
    try simp only [Act.put, List.setIfInBounds_toArray, List.set_cons_succ, List.set_cons_zero]
    repeat (go_big_quiet_step (fail))
    refine wpQuiet_nil ⟨_, rfl, fun K hK => ?_⟩
    go_wp2_with fail
    go_wp2_with fail
    refine hK _ _ (.inr ⟨_, lowx_of (SameX.gr HG5.out (Nat.le_refl _))⟩) ?_
    clear hK K
    refine wpStagesS_nil ?_
    go_wp2_with fail
    refine (iClamp_val HC1.out.symm _).mono ?_
    rintro e w6 ⟨rfl, rfl⟩
    go_wp2_with fail
    refine (iClamp_val HA2.out _).mono ?_
    rintro e w7 ⟨rfl, rfl⟩
    go_wp2
    refine bodyPost_ret (v := .tuple #[.int .i64 (shC p g i' j'), .int .i64 (shA p g i' j'), .bool true]) (by simp [results, Tryz.results11, go_sem]) rfl ⟨rfl, HX5.out⟩
  | some ka =>
    obtain ⟨sa, ra, hga, hra, hkal, _⟩ := HC.out.k.asg hka
    have HKA := hid hka
    have HNA : Hid (named p g q [97, 108, 112, 104, 97] = (p.ev n g.m g.f g.tm g.t ra).getD q 0) := hid (by rw [named_some hka hga, HEV.out])
    have HA2 : Hid (clampI (named p g q [97, 108, 112, 104, 97]) 0 256 = shA p g i' j') := hid HA1.out.symm
    obtain ⟨_, yb, yo, ye, _, yl, y0, y1⟩ := (HC.out.asgs.same (HC.out.same HI.out)).cell ka _ hga
    simp only at y0 y1
    subst ye
    have hyw : yb < w1.heap.size := by simp only [World.size_alloc] at yl; have := X1.size; omega
    have hka2 : ka ≤ 1048576 := by omega
    clear hka hga
    go_wp2_with (at_lookup; refine wpList_first_ok _ rfl _ _ rfl _ _ _ rfl HM.out (⟨#[97, 108, 112, 104, 97]⟩ : ByteArray) (by decide) rfl (some ka) (by rw [alphaS]; exact HKA.out) ?_)
    refine (iValues_any HC.out (p.rank ra + 1) ra _ (Nat.lt_succ_self _) hra HI.out).mono ?_
    rintro e w3 ⟨⟨tg, tc, rfl, hO⟩, hI3, hg3⟩
    obtain ⟨t1, t2, t3, t4⟩ := row_at hO (HC.out.good ra hra).1 hq
    rw [← HNA.out] at t4
    have HI2 := hid hI3
    have HBP2 : Hid (Bx w3 w.heap.size #[.slice a1 p.ns.length c1, .slice (some ⟨yb, yo, none⟩) p.gs.length c2] 26) := hid ((hg3.block w.heap.size HBP.out.lt (by simp; omega)).trans HBP.out)
    have HX2 := hid (X1.grown hg3 (fun k hk => by injection hk with hk; omega))
    clear hO hI3 hg3 b b0 b1 d d0 d1 d2 d3 d4 e e0 e1 e2 e3 e4 e5 e6 e7 e8 y0 y1
    go_wp2_with fail
    have hbp2 := HBP2.out
    have hbe2 := HC.out.boxE HI2.out
    have b := hbp2.lt
    have b0 := hbp2.cell 0
    simp only [List.getElem?_toArray, List.getElem?_cons_zero, List.getElem?_cons_succ] at b0
    have b1 := hbp2.cell 1
    simp only [List.getElem?_toArray, List.getElem?_cons_zero, List.getElem?_cons_succ] at b1
    have e := hbe2.lt
    have e0 := hbe2.cell 0
    simp only [List.getElem?_toArray, List.getElem?_cons_zero, List.getElem?_cons_succ] at e0
    have e1 := hbe2.cell 1
    simp only [List.getElem?_toArray, List.getElem?_cons_zero, List.getElem?_cons_succ] at e1
    have e2 := hbe2.cell 2
    simp only [List.getElem?_toArray, List.getElem?_cons_zero, List.getElem?_cons_succ] at e2
    have e3 := hbe2.cell 3
    simp only [List.getElem?_toArray, List.getElem?_cons_zero, List.getElem?_cons_succ] at e3
    have e4 := hbe2.cell 4
    simp only [List.getElem?_toArray, List.getElem?_cons_zero, List.getElem?_cons_succ] at e4
    have e5 := hbe2.cell 5
    simp only [List.getElem?_toArray, List.getElem?_cons_zero, List.getElem?_cons_succ] at e5
    have e6 := hbe2.cell 6
    simp only [List.getElem?_toArray, List.getElem?_cons_zero, List.getElem?_cons_succ] at e6
    have e7 := hbe2.cell 7
    simp only [List.getElem?_toArray, List.getElem?_cons_zero, List.getElem?_cons_succ] at e7
    have e8 := hbe2.cell 8
    simp only [List.getElem?_toArray, List.getElem?_cons_zero, List.getElem?_cons_succ] at e8
    obtain ⟨_, zb, zo, ze, _, zl, z0, z1⟩ := (HC.out.asgs.same (HC.out.same HI2.out)).cell kc _ HGC.out
    simp only at z0 z1
    simp only [Option.some.injEq, Addr.mk.injEq, and_true] at ze
    obtain ⟨rfl, rfl⟩ := ze
    have hM2 := HC.out.mapE HI2.out
    have hcl : (⟨#[99, 111, 108, 111, 114]⟩ : ByteArray).size ≤ maxLen := by decide
    have hlook : ∀ dd, (Instr.lookup 69 (.map (some mb)) (.string ⟨#[99, 111, 108, 111, 114]⟩) false).run Tryz.prog (lowx w3.heap.size D w3.drew dd) = .ok (.int .i64 (kc : Int)) (lowx w3.heap.size D w3.drew dd) := fun dd => ((hM2.ext ((Ext.refl _).drew)).of_block (w' := lowx w3.heap.size D w3.drew dd) (lowx_same _ _ _ _ _ hM2.lt hmD)).look hcl (by rw [colS]; exact HKC.out)
    have hlook2 : ∀ dd, (Instr.lookup 69 (.map (some mb)) (.string ⟨#[99, 111, 108, 111, 114]⟩) false).run Tryz.prog (lowx w3.heap.size D w3 dd) = .ok (.int .i64 (kc : Int)) (lowx w3.heap.size D w3 dd) := fun dd => (hM2.of_block (w' := lowx w3.heap.size D w3 dd) (lowx_same _ _ _ _ _ hM2.lt hmD)).look hcl (by rw [colS]; exact HKC.out)
    have hzw := HX2.out.size
    have hzb : yb < w3.heap.size := by simp only [World.size_alloc] at zl; have := HI2.out.size; omega
    have hzD : yb ≠ D := by simp only [World.size_alloc] at zl; omega
    clear hbp2 hbe2 hM2
    go_wp2_with fail
    refine wp_region_stagesS [([0, 1, 2, 3, 4, 5, 6, 7, 8, 9, 10, 12], 11), ([], 13), ([], 14), ([], 15)] 99 (fun w' => ∃ d, w' = lowx (w3.heap.size) (D) _ d) (by kernel_rfl) (by kernel_rfl) ⟨_, lowx_of (fun _ _ _ => rfl)⟩ ?_
    refine wpStagesS_cons ?_
    simp only [List.filterMap_cons, List.filterMap_nil, List.getElem?_toArray, List.getElem?_cons_zero, List.getElem?_cons_succ]
    show wpQuiet _ _ _ _ [_, _, _, _, _, _, _, _, _, _, _, _] _
    repeat (go_big_quiet_step (fail))
    refine wpQuiet_nil ⟨_, rfl, fun K hK => ?_⟩
    go_wp2_with fail
    refine (iValues_any HC.out (p.rank rc + 1) rc _ (Nat.lt_succ_self _) hrc (HI2.out.ext ((Ext.refl _).drew))).mono ?_
    rintro e w5 ⟨⟨tg, tc, rfl, hO⟩, hI5, hg5⟩
    obtain ⟨t1, t2, t3, t4⟩ := row_at hO (HC.out.good rc hrc).1 hq
    rw [← HNC.out] at t4
    have HG5 := hid hg5
    have HX5 := hid (HX2.out.grown (grownBy.trans (grown_ext ((Ext.refl w3).drew) _) hg5 : w3.grownBy w5 (some D)) (fun k hk => by injection hk with hk; omega))
    clear hO hI5 hg5 hlook hlook2 z0 z1
    go_wp2_with fail
    refine hK _ _ (.inr ⟨_, lowx_of (SameX.gr HG5.out (Nat.le_refl _))⟩) ?_
    clear hK K
    refine wpStagesS_cons ?_
    simp only [List.filterMap_nil]
    show wpQuiet _ _ _ _ [] _
    try simp only [Act.put, List.setIfInBounds_toArray, List.set_cons_succ, List.set_cons_zero]
    repeat (go_big_quiet_step (fail))
    refine wpQuiet_nil ⟨_, rfl, fun K hK => ?_⟩
    go_wp2_with fail
    go_wp2_with fail
    refine hK _ _ (.inr ⟨_, lowx_of (SameX.gr HG5.out (Nat.le_refl _))⟩) ?_
    clear hK K
    refine wpStagesS_cons ?_
    simp only [List.filterMap_nil]
    show wpQuiet _ _ _ _ [] _
    try simp only [Act.put, List.setIfInBounds_toArray, List.set_cons_succ, List.set_cons_zero]
    repeat (go_big_quiet_step (fail))
    refine wpQuiet_nil ⟨_, rfl, fun K hK => ?_⟩
    go_wp2_with fail
    go_wp2_with fail
    refine hK _ _ (.inr ⟨_, lowx_of (SameX.gr HG5.out (Nat.le_refl _))⟩) ?_
    clear hK K
    refine wpStagesS_cons ?_
    simp only [List.filterMap_nil]
    show wpQuiet _ _ _ _ [] _
    try simp only [Act.put, List.setIfInBounds_toArray, List.set_cons_succ, List.set_cons_zero]
    repeat (go_big_quiet_step (fail))
    refine wpQuiet_nil ⟨_, rfl, fun K hK => ?_⟩
    go_wp2_with fail
    go_wp2_with fail
    refine hK _ _ (.inr ⟨_, lowx_of (SameX.gr HG5.out (Nat.le_refl _))⟩) ?_
    clear hK K
    refine wpStagesS_nil ?_
    go_wp2_with fail
    refine (iClamp_val HC1.out.symm _).mono ?_
    rintro e w6 ⟨rfl, rfl⟩
    go_wp2_with fail
    refine (iClamp_val HA2.out _).mono ?_
    rintro e w7 ⟨rfl, rfl⟩
    go_wp2
    refine bodyPost_ret (v := .tuple #[.int .i64 (shC p g i' j'), .int .i64 (shA p g i' j'), .bool true]) (by simp [results, Tryz.results11, go_sem]) rfl ⟨rfl, HX5.out⟩
end Go.Proofs.YtaegmenjgjdimaaGreat
end

section
/- This text counts, in plain numbers, the nodes and roots of a valid program; it walks no function. -/
namespace Go.Proofs.YtaegmenjgjdimaaGreat
open Go.RowKit

theorem sum_zero : ∀ n : Nat, ((List.range n).map fun _ => 0).sum = 0
  | 0 => rfl
  | n + 1 => by rw [List.range_succ, List.map_append, List.sum_append, sum_zero n]; rfl
theorem sum_single (w : Nat → Nat) : ∀ (n e : Nat), e < n → ((List.range n).map fun j => if e = j then w j else 0).sum = w e := by
  intro n
  induction n with
  | zero => intro e h; omega
  | succ n ih =>
    intro e h
    rw [List.range_succ, List.map_append, List.sum_append]
    by_cases he : e = n
    · subst he
      have : ((List.range e).map fun j => if e = j then w j else 0).sum = 0 := by
        rw [List.map_congr_left (g := fun _ => 0) fun j hj => if_neg (by have := List.mem_range.1 hj; omega)]
        exact sum_zero e
      rw [this]
      simp
    · rw [ih e (by omega)]
      simp [he]
theorem sum_add {α : Type} (f g : α → Nat) : ∀ L : List α, (L.map fun x => f x + g x).sum = (L.map f).sum + (L.map g).sum
  | [] => rfl
  | x :: r => by simp only [List.map_cons, List.sum_cons, sum_add f g r]; omega
/-- a sum over a list of numbers below n, number by number -/
theorem sumW (w : Nat → Nat) (n : Nat) : ∀ E : List Nat, (∀ e ∈ E, e < n) → (E.map w).sum = ((List.range n).map fun j => (E.countP fun e => e == j) * w j).sum := by
  intro E
  induction E with
  | nil =>
    intro _
    have e : ((List.range n).map fun j => (([] : List Nat).countP fun e => e == j) * w j) = (List.range n).map fun _ => 0 := List.map_congr_left fun j _ => by simp
    rw [e, sum_zero]
    rfl
  | cons e r ih =>
    intro h
    rw [List.map_cons, List.sum_cons, ih fun x hx => h x (by simp [hx]), ← sum_single w n e (h e (by simp)), ← sum_add]
    congr 1
    refine List.map_congr_left fun j _ => ?_
    rw [List.countP_cons]
    by_cases hj : e = j
    · subst hj; simp [Nat.add_mul]; omega
    · simp [hj]
/-- everything that is referred to: arguments and roots -/
def Prg.refs (p : Prg) : List Nat := (p.ns.flatMap fun x => x.args.map Int.toNat) ++ p.gs.map fun a => a.root.toNat
theorem refs_ns (j : Nat) : ∀ xs : List Nd, ((xs.flatMap fun x => x.args.map Int.toNat).countP fun e => e == j) = cntN j xs
  | [] => rfl
  | x :: r => by
    rw [List.flatMap_cons, List.countP_append, refs_ns j r]
    simp only [cntN, List.map_cons, List.sum_cons]
    congr 1
    unfold cntL
    rw [List.countP_map]
    rfl
theorem refs_gs (j : Nat) : ∀ xs : List Asg, ((xs.map fun a => a.root.toNat).countP fun e => e == j) = cntG j xs
  | [] => rfl
  | x :: r => by
    rw [List.map_cons, List.countP_cons, refs_gs j r]
    simp only [cntG, List.map_cons, List.sum_cons]
    by_cases h : x.root.toNat = j <;> simp [h] <;> omega
theorem Prg.V.refs_lt {p : Prg} (h : p.V) : ∀ e ∈ p.refs, e < p.ns.length := by
  intro e he
  unfold Prg.refs at he
  rcases List.mem_append.1 he with he | he
  · obtain ⟨x, hx, he⟩ := List.mem_flatMap.1 he
    obtain ⟨a, ha, rfl⟩ := List.mem_map.1 he
    obtain ⟨k, hk, rfl⟩ := List.getElem_of_mem hx
    have := (h.nd k _ (by simp [hk])).2 a ha
    omega
  · obtain ⟨a, ha, rfl⟩ := List.mem_map.1 he
    obtain ⟨k, hk, rfl⟩ := List.getElem_of_mem ha
    have := (h.ag k p.gs[k] (by simp [hk])).2
    omega
theorem Prg.V.sum_refs {p : Prg} (h : p.V) (w : Nat → Nat) : (p.refs.map w).sum = ((List.range p.ns.length).map w).sum := by
  rw [sumW w p.ns.length p.refs h.refs_lt]
  congr 1
  refine List.map_congr_left fun j hj => ?_
  have h1 := h.one j (List.mem_range.1 hj)
  have : (p.refs.countP fun e => e == j) = 1 := by
    unfold Prg.refs
    rw [List.countP_append, refs_ns, refs_gs]
    exact h1
  rw [this, Nat.one_mul]
theorem Prg.V.gs_len {p : Prg} (h : p.V) : p.gs.length ≤ 60 := by
  have h1 := h.sum_refs (fun _ => 1)
  have h2 := h.len
  unfold Prg.refs at h1
  simp only [List.map_append, List.sum_append, List.map_map] at h1
  have e1 : (p.gs.map ((fun _ => 1) ∘ fun a : Asg => a.root.toNat)).sum = p.gs.length := by
    have : ∀ xs : List Asg, (xs.map ((fun _ => 1) ∘ fun a : Asg => a.root.toNat)).sum = xs.length := fun xs => by
      induction xs with
      | nil => rfl
      | cons x r ih => rw [List.map_cons, List.sum_cons, ih]; simp; omega
    exact this _
  have e2 : ((List.range p.ns.length).map fun _ => 1).sum = p.ns.length := by
    have : ∀ n : Nat, ((List.range n).map fun _ => 1).sum = n := fun n => by
      induction n with
      | zero => rfl
      | succ n ih => rw [List.range_succ, List.map_append, List.sum_append, ih]; rfl
    exact this _
  rw [e1, e2] at h1
  omega
/-- a weight that is one more than that of the arguments together: the roots weigh as many as there are nodes -/
theorem Prg.V.sum_roots {p : Prg} (h : p.V) (w : Nat → Nat) (hw : ∀ (j : Nat) (x : Nd), p.ns[j]? = Option.some x → w j = 1 + (x.args.map fun a => w a.toNat).sum) : (p.gs.map fun a => w a.root.toNat).sum = p.ns.length := by
  have h1 := h.sum_refs w
  have e1 : ((List.range p.ns.length).map w).sum = p.ns.length + (p.ns.map fun x => (x.args.map fun a => w a.toNat).sum).sum := by
    have : ∀ (xs : List Nd) (o : Nat), (∀ (j : Nat) (x : Nd), xs[j]? = Option.some x → w (o + j) = 1 + (x.args.map fun a => w a.toNat).sum) → ((List.range xs.length).map fun j => w (o + j)).sum = xs.length + (xs.map fun x => (x.args.map fun a => w a.toNat).sum).sum := by
      intro xs
      induction xs with
      | nil => intro o _; rfl
      | cons x r ih =>
        intro o ho
        rw [List.length_cons, List.range_succ_eq_map, List.map_cons, List.sum_cons, List.map_map, List.map_cons, List.sum_cons]
        have := ih (o + 1) fun j y hy => by
          have := ho (j + 1) y (by simpa using hy)
          rw [← this]
          congr 1
          omega
        have e : (List.range r.length).map ((fun j => w (o + j)) ∘ Nat.succ) = (List.range r.length).map fun j => w (o + 1 + j) := List.map_congr_left fun j _ => by
          show w (o + (j + 1)) = w (o + 1 + j)
          congr 1
          omega
        rw [e, this]
        have h0 := ho 0 x (by simp)
        rw [h0]
        omega
    have := this p.ns 0 fun j x hx => by rw [Nat.zero_add]; exact hw j x hx
    simpa using this
  have e2 : ∀ xs : List Nd, ((xs.flatMap fun x => x.args.map Int.toNat).map w).sum = (xs.map fun x => (x.args.map fun a => w a.toNat).sum).sum := fun xs => by
    induction xs with
    | nil => rfl
    | cons x r ih =>
      rw [List.flatMap_cons, List.map_append, List.sum_append, ih, List.map_cons, List.sum_cons, List.map_map]
      rfl
  unfold Prg.refs at h1
  rw [List.map_append, List.sum_append, e2, e1, List.map_map] at h1
  have e3 : (p.gs.map (w ∘ fun a : Asg => a.root.toNat)).sum = (p.gs.map fun a => w a.root.toNat).sum := rfl
  omega
end Go.Proofs.YtaegmenjgjdimaaGreat
end

section
/- This text says in plain numbers what a program that passes the checks is compiled to, and proves that the code computes the program's values; it walks no function. -/
namespace Go.Proofs.YtaegmenjgjdimaaGreat
open Go.RowKit

def ixOf (p : Prg) (s : ByteArray) : Nat := (frst p.gs p.gs.length s.toList).getD 0
/-- the instruction of a node -/
def insOf (p : Prg) (x : Nd) : Ins :=
  if x.op = 1 then ⟨1, ⟨#[]⟩, x.num⟩ else if x.op = 3 then ⟨5, ⟨#[]⟩, 3⟩ else if x.op = 2 then (if isVar x.name then ⟨2, x.name, 0⟩ else ⟨3, ⟨#[]⟩, (ixOf p x.name : Nat)⟩) else if x.op = 8 then ⟨7, x.name, 0⟩ else ⟨6, ⟨#[]⟩, x.op⟩
def trF (p : Prg) : Nat → Nat → List Ins
  | 0, _ => []
  | F + 1, j => match p.ns[j]? with | some x => (x.args.flatMap fun a => trF p F a.toNat) ++ [insOf p x] | none => []
/-- the instructions of the expression at a node -/
def Prg.tr (p : Prg) (j : Nat) : List Ins := trF p (j + 1) j
def Prg.trs (p : Prg) : Nat → List Ins
  | 0 => []
  | k + 1 => p.trs k ++ (match p.gs[k]? with | some a => p.tr a.root.toNat ++ [⟨4, ⟨#[]⟩, (k : Nat)⟩] | none => [])
def Prg.code (p : Prg) : Cod := ⟨p.trs p.gs.length, p.gs.map (·.name)⟩
theorem flatMap_congr2 {α β : Type} {L : List α} {f g : α → List β} (h : ∀ a ∈ L, f a = g a) : L.flatMap f = L.flatMap g := by
  induction L with
  | nil => rfl
  | cons a r ih => rw [List.flatMap_cons, List.flatMap_cons, h a (by simp), ih fun b hb => h b (by simp [hb])]
theorem trF_eq {p : Prg} (h : p.V) : ∀ (F F' j : Nat), j < F → j < F' → trF p F j = trF p F' j := by
  intro F
  induction F with
  | zero => intro F' j hj; omega
  | succ F ih =>
    intro F' j hj hj'
    obtain ⟨G, rfl⟩ : ∃ G, F' = G + 1 := ⟨F' - 1, by omega⟩
    unfold trF
    cases hx : p.ns[j]? with
    | none => rfl
    | some x =>
      simp only
      rw [flatMap_congr2 fun a ha => ih G a.toNat (by have := (h.nd j x hx).2 a ha; omega) (by have := (h.nd j x hx).2 a ha; omega)]
theorem Prg.V.tr_step {p : Prg} (h : p.V) {j : Nat} {x : Nd} (hx : p.ns[j]? = Option.some x) : p.tr j = (x.args.flatMap fun a => p.tr a.toNat) ++ [insOf p x] := by
  have e : p.tr j = (x.args.flatMap fun a => trF p j a.toNat) ++ [insOf p x] := by
    show trF p (j + 1) j = _
    rw [trF, hx]
  rw [e, flatMap_congr2 fun a ha => trF_eq h _ _ _ (by have := (h.nd j x hx).2 a ha; omega) (Nat.lt_succ_self _)]
  rfl
theorem Prg.trs_step {p : Prg} {k : Nat} {a : Asg} (h : p.gs[k]? = some a) : p.trs (k + 1) = p.trs k ++ (p.tr a.root.toNat ++ [⟨4, ⟨#[]⟩, (k : Nat)⟩]) := by
  rw [Prg.trs, h]
theorem insOf_pops {p : Prg} (h : p.K) {j : Nat} {x : Nd} (hx : p.ns[j]? = some x) : popsI (insOf p x).op (insOf p x).name = x.args.length ∧ (insOf p x).op ≠ 4 ∧ pushI (insOf p x).op = 1 := by
  rcases nodeF_op (h.v.nd j x hx).1 with ⟨o, h2, h3⟩ | ⟨o, h3⟩ | ⟨o, h3⟩ | ⟨o, o', h3⟩ | ⟨o, h3⟩
  · unfold insOf; rw [if_pos o, h3]; exact ⟨rfl, by show (_ : Int) ≠ 4; simp, rfl⟩
  · unfold insOf
    rw [if_neg (by omega), if_neg (by omega), if_pos o, h3]
    split
    · exact ⟨rfl, by show (_ : Int) ≠ 4; simp, rfl⟩
    · exact ⟨rfl, by show (_ : Int) ≠ 4; simp, rfl⟩
  · unfold insOf; rw [if_neg (by omega), if_pos o, h3]; exact ⟨rfl, by show (_ : Int) ≠ 4; simp, rfl⟩
  · unfold insOf; rw [if_neg (by omega), if_neg (by omega), if_neg (by omega), if_neg (by omega), h3]; exact ⟨rfl, by show (_ : Int) ≠ 4; simp, rfl⟩
  · unfold insOf
    rw [if_neg (by omega), if_neg (by omega), if_neg (by omega), if_pos o, ← (h.call j x hx o).2]
    exact ⟨rfl, by show (7 : Int) ≠ 4; simp, rfl⟩
/-- the locals hold the values of the first k assignments -/
def HasV (p : Prg) (V : Nat → List Int) (k : Nat) (L : List (List Int)) : Prop := ∀ (i : Nat) (a : Asg), i < k → p.gs[i]? = some a → L.getD i [] = V a.root.toNat
theorem rowI_evB {p : Prg} (h : p.K) {n m : Nat} {f : Nat → Int} {tm : Int} {t : Tex} {j : Nat} {x : Nd} (hx : p.ns[j]? = some x) {L : List (List Int)} (hL : HasV p (p.ev n m f tm t) (p.own j) L) :
    rowI n m f tm t (insOf p x).op (insOf p x).name (insOf p x).num (x.args.map fun a => p.ev n m f tm t a.toNat) L = p.ev n m f tm t j := by
  rw [h.ev_step hx]
  unfold evB
  rcases nodeF_op (h.v.nd j x hx).1 with ⟨o, h2, h3⟩ | ⟨o, h3⟩ | ⟨o, h3⟩ | ⟨o, o', h3⟩ | ⟨o, h3⟩
  · rw [if_pos o]; unfold insOf; rw [if_pos o]; rfl
  · rw [if_neg (by omega), if_pos o]
    unfold insOf
    rw [if_neg (by omega), if_neg (by omega), if_pos o]
    cases hv : isVar x.name
    · obtain ⟨i, hi, hio⟩ := h.name j x hx o hv
      obtain ⟨s', g1, g2, g3, g4⟩ := h.root hi
      have e1 : ixOf p x.name = i := by unfold ixOf; rw [hi]; rfl
      have := hL i _ hio g1
      show L.getD ((ixOf p x.name : Nat) : Int).toNat [] = p.ev n m f tm t (p.rootOf x.name)
      rw [e1, Int.toNat_natCast, this]
      simp
    · rfl
  · rw [if_neg (by omega), if_neg (by omega), if_neg (by omega)]
    unfold insOf
    rw [if_neg (by omega), if_pos o, o]
    rfl
  · rw [if_neg (by omega), if_neg (by omega), if_neg (by omega)]
    unfold insOf
    rw [if_neg (by omega), if_neg (by omega), if_neg (by omega), if_neg (by omega)]
    show List.zipWith (arithI x.op) _ _ = _
    rw [if_neg (by omega)]
  · rw [if_neg (by omega), if_neg (by omega), if_pos o]
    unfold insOf
    rw [if_neg (by omega), if_neg (by omega), if_neg (by omega), if_pos o]
    rfl
/-- the instructions of a node push its value -/
theorem run_ins {p : Prg} (h : p.K) {n m : Nat} {f : Nat → Int} {tm : Int} {t : Tex} {j : Nat} {x : Nd} (hx : p.ns[j]? = some x) {L : List (List Int)} (hL : HasV p (p.ev n m f tm t) (p.own j) L) (rest : List Ins) (S : List (List Int)) :
    runG n m f tm t (insOf p x :: rest) (S ++ x.args.map fun a => p.ev n m f tm t a.toNat) L = runG n m f tm t rest (S ++ [p.ev n m f tm t j]) L := by
  obtain ⟨h1, h2, h3⟩ := insOf_pops h hx
  have hc : cutI (insOf p x).op (insOf p x).name (S ++ x.args.map fun a => p.ev n m f tm t a.toNat) = S.length := by
    unfold cutI
    rw [h1]
    simp
  rw [runG]
  unfold nextS nextL
  rw [if_neg h2, if_neg h2, hc, List.take_left, List.drop_left, rowI_evB h hx hL]
theorem run_tr {p : Prg} (h : p.K) {n m : Nat} {f : Nat → Int} {tm : Int} {t : Tex} : ∀ (F j : Nat), j < F → j < p.ns.length → ∀ (L : List (List Int)), HasV p (p.ev n m f tm t) (p.own j) L → ∀ (rest : List Ins) (S : List (List Int)),
    runG n m f tm t (p.tr j ++ rest) S L = runG n m f tm t rest (S ++ [p.ev n m f tm t j]) L := by
  intro F
  induction F with
  | zero => intro j hj; omega
  | succ F ih =>
    intro j hj hjl L hL rest S
    have hx : p.ns[j]? = some p.ns[j] := by simp [hjl]
    obtain ⟨x, hxe⟩ : ∃ x, p.ns[j] = x := ⟨_, rfl⟩
    rw [hxe] at hx
    rw [h.v.tr_step hx, List.append_assoc, ← run_ins h hx hL rest S]
    have key : ∀ (es : List Int), (∀ a ∈ es, a ∈ x.args) → ∀ (rest : List Ins) (S : List (List Int)), runG n m f tm t ((es.flatMap fun a => p.tr a.toNat) ++ rest) S L = runG n m f tm t rest (S ++ es.map fun a => p.ev n m f tm t a.toNat) L := by
      intro es
      induction es with
      | nil => intro _ rest S; simp
      | cons a r ihr =>
        intro hs rest S
        have ha := hs a (by simp)
        have hr := h.rank_arg hx ha
        have hlt := (h.v.nd j x hx).2 a ha
        rw [List.flatMap_cons, List.append_assoc, ih a.toNat (by omega) hr.2.1 L (by rw [hr.2.2]; exact hL), ihr (fun b hb => hs b (by simp [hb]))]
        simp
    exact key x.args (fun a ha => ha) _ S
/-- the assignments up to k leave the values of their roots -/
theorem run_trs {p : Prg} (h : p.K) {n m : Nat} {f : Nat → Int} {tm : Int} {t : Tex} : ∀ k, k ≤ p.gs.length → ∀ rest, ∃ L, L.length = p.gs.length ∧ HasV p (p.ev n m f tm t) k L ∧ runG n m f tm t (p.trs k ++ rest) [] (List.replicate p.gs.length []) = runG n m f tm t rest [] L := by
  intro k
  induction k with
  | zero => intro _ rest; exact ⟨List.replicate p.gs.length [], List.length_replicate, fun i a hi => by omega, by rw [Prg.trs, List.nil_append]⟩
  | succ k ih =>
    intro hk rest
    have ha : p.gs[k]? = some p.gs[k] := by simp [show k < p.gs.length by omega]
    obtain ⟨a, hae⟩ : ∃ a, p.gs[k] = a := ⟨_, rfl⟩
    rw [hae] at ha
    obtain ⟨L, h1, h2, h3⟩ := ih (by omega) ((p.tr a.root.toNat ++ [⟨4, ⟨#[]⟩, (k : Nat)⟩]) ++ rest)
    have hr := (h.v.ag k a ha).2
    have e2 : a = ⟨a.name, (a.root.toNat : Nat)⟩ := by cases a; simp only [Asg.mk.injEq, true_and] at *; omega
    have ho : p.own a.root.toNat = k := h.v.own_eq (Own.root (s := a.name) (by rw [ha]; exact congrArg some e2))
    refine ⟨L.set k (p.ev n m f tm t a.root.toNat), by simp [h1], fun i b hi hb => ?_, ?_⟩
    · rw [List.getD_eq_getElem?_getD, List.getElem?_set]
      by_cases e : k = i
      · subst e
        rw [ha] at hb
        injection hb with hb
        subst hb
        simp [h1, show k < p.gs.length by omega]
      · rw [if_neg e, ← List.getD_eq_getElem?_getD]
        exact h2 i b (by omega) hb
    · rw [Prg.trs_step ha, List.append_assoc, h3, List.append_assoc, run_tr h (a.root.toNat + 1) a.root.toNat (by omega) (by omega) L (by rw [ho]; exact h2), List.nil_append]
      show runG n m f tm t (_ :: rest) _ _ = _
      rw [runG]
      rfl
/-- what the code of a program leaves -/
theorem Prg.K.out {p : Prg} (h : p.K) (g : Grd) : ∀ (i : Nat) (a : Asg), p.gs[i]? = some a → (p.code.out g).getD i [] = evV p g a.root.toNat := by
  intro i a ha
  obtain ⟨L, h1, h2, h3⟩ := run_trs h (n := g.n.toNat) (m := g.m) (f := g.f) (tm := g.tm) (t := g.t) p.gs.length (Nat.le_refl _) []
  unfold Cod.out Prg.code evV
  simp only [List.length_map]
  rw [List.append_nil] at h3
  rw [h3, runG]
  exact h2 i a (List.getElem?_eq_some_iff.1 ha).1 ha
theorem insOf_wf {p : Prg} (h : p.K) {j : Nat} {x : Nd} (hx : p.ns[j]? = some x) : wfI (insOf p x).op (insOf p x).name (insOf p x).num p.gs.length = true ∧ numB (insOf p x) = true ∧ ((insOf p x).op = 3 → ∃ i, i < p.own j ∧ (insOf p x).num = (i : Nat)) := by
  have e0 : ((⟨#[]⟩ : ByteArray).toList == []) = true := by rw [Lib.toList_data]; rfl
  have hv := h.v
  have hol := (List.getElem?_eq_some_iff.1 hx).1
  rcases nodeF_op (h.v.nd j x hx).1 with ⟨o, h2, h3⟩ | ⟨o, h3⟩ | ⟨o, h3⟩ | ⟨o, o', h3⟩ | ⟨o, h3⟩
  · unfold insOf
    rw [if_pos o]
    have := inB_iff.1 h2
    refine ⟨by simp [wfI, e0], inB_iff.2 (by simp only; omega), fun e => by simp at e⟩
  · unfold insOf
    rw [if_neg (by omega), if_neg (by omega), if_pos o]
    cases hv : isVar x.name
    · obtain ⟨i, hi, hio⟩ := h.name j x hx o hv
      obtain ⟨g1, ⟨a, g2, _⟩, _⟩ := frst_some hi
      have hl := (List.getElem?_eq_some_iff.1 g2).1
      have e1 : ixOf p x.name = i := by unfold ixOf; rw [hi]; rfl
      refine ⟨?_, ?_, fun _ => ⟨i, hio, by simp [e1]⟩⟩
      · simp only [Bool.false_eq_true, if_false, wfI, e1, e0]
        simp [inB_iff]
        omega
      · simp only [Bool.false_eq_true, if_false, e1]
        refine inB_iff.2 ⟨by simp only; omega, ?_⟩
        simp only
        have := h.v.gs_len
        omega
    · simp only [if_true, wfI, hv]
      exact ⟨by simp, inB_iff.2 (by simp), fun e => by simp at e⟩
  · unfold insOf
    rw [if_neg (by omega), if_pos o]
    exact ⟨by simp [wfI, e0], inB_iff.2 (by simp), fun e => by simp at e⟩
  · unfold insOf
    rw [if_neg (by omega), if_neg (by omega), if_neg (by omega), if_neg (by omega)]
    exact ⟨by simp [wfI, e0, inB_iff]; omega, inB_iff.2 (by simp only; omega), fun e => by simp at e⟩
  · unfold insOf
    rw [if_neg (by omega), if_neg (by omega), if_neg (by omega), if_pos o]
    have := (h.call j x hx o).1
    exact ⟨by simp [wfI, this], inB_iff.2 (by simp), fun e => by simp at e⟩
theorem tr_len {p : Prg} (h : p.K) {j : Nat} {x : Nd} (hx : p.ns[j]? = some x) : (p.tr j).length = 1 + (x.args.map fun a => (p.tr a.toNat).length).sum := by
  rw [h.v.tr_step hx, List.length_append, List.length_flatMap]
  simp
  omega
theorem trs_len {p : Prg} : ∀ k, k ≤ p.gs.length → (p.trs k).length = ((p.gs.take k).map fun a => (p.tr a.root.toNat).length).sum + k := by
  intro k
  induction k with
  | zero => intro _; rfl
  | succ k ih =>
    intro hk
    have ha : p.gs[k]? = some p.gs[k] := by simp [show k < p.gs.length by omega]
    rw [Prg.trs_step ha, List.length_append, ih (by omega), ← List.take_append_getElem (show k < p.gs.length by omega), List.map_append, List.sum_append]
    simp
    omega
theorem code_len {p : Prg} (h : p.K) : p.code.xs.length ≤ 120 := by
  show (p.trs p.gs.length).length ≤ 120
  rw [trs_len _ (Nat.le_refl _), List.take_length, h.v.sum_roots (fun j => (p.tr j).length) fun j x hx => tr_len h hx]
  have := h.v.len
  have := h.v.gs_len
  omega
/-- the simulation of a node's instructions -/
theorem runD_ins {p : Prg} (h : p.K) {j : Nat} {x : Nd} (hx : p.ns[j]? = some x) {st : Nat → Bool} (hst : ∀ i, i < p.own j → st i = true) (rest : List Ins) (d m : Int) (hd : 0 ≤ d) (hr : ∀ m', (runD p.gs.length rest (d + 1) m' st).isSome = true) :
    (runD p.gs.length (insOf p x :: rest) (d + x.args.length) m st).isSome = true := by
  obtain ⟨h1, h2, h3⟩ := insOf_pops h hx
  obtain ⟨w1, w2, w3⟩ := insOf_wf h hx
  unfold runD
  rw [if_pos ⟨w1, fun e => by obtain ⟨i, hi, hn⟩ := w3 e; rw [hn]; exact hst i hi, by rw [h1]; omega⟩, h1, h3]
  have em : markSt (insOf p x).op (insOf p x).num st = st := by unfold markSt; rw [if_neg h2]
  rw [em, show d + (x.args.length : Int) - x.args.length + 1 = d + 1 by omega]
  exact hr _
theorem runD_tr {p : Prg} (h : p.K) : ∀ (F j : Nat), j < F → j < p.ns.length → ∀ (st : Nat → Bool), (∀ i, i < p.own j → st i = true) → ∀ (rest : List Ins) (d m : Int), 0 ≤ d → (∀ m', (runD p.gs.length rest (d + 1) m' st).isSome = true) →
    (runD p.gs.length (p.tr j ++ rest) d m st).isSome = true := by
  intro F
  induction F with
  | zero => intro j hj; omega
  | succ F ih =>
    intro j hj hjl st hst rest d m hd hr
    have hx : p.ns[j]? = some p.ns[j] := by simp [hjl]
    obtain ⟨x, hxe⟩ : ∃ x, p.ns[j] = x := ⟨_, rfl⟩
    rw [hxe] at hx
    rw [h.v.tr_step hx, List.append_assoc]
    have key : ∀ (es : List Int), (∀ a ∈ es, a ∈ x.args) → ∀ (rest : List Ins) (d m : Int), 0 ≤ d → (∀ m', (runD p.gs.length rest (d + es.length) m' st).isSome = true) → (runD p.gs.length ((es.flatMap fun a => p.tr a.toNat) ++ rest) d m st).isSome = true := by
      intro es
      induction es with
      | nil => intro _ rest d m _ hr; simpa using hr m
      | cons a r ihr =>
        intro hs rest d m hd hr
        have ha := hs a (by simp)
        have hk := h.rank_arg hx ha
        have hlt := (h.v.nd j x hx).2 a ha
        rw [List.flatMap_cons, List.append_assoc]
        refine ih a.toNat (by omega) hk.2.1 st (by rw [hk.2.2]; exact hst) _ d m hd fun m' => ?_
        refine ihr (fun b hb => hs b (by simp [hb])) rest (d + 1) m' (by omega) fun m2 => ?_
        have := hr m2
        rw [List.length_cons] at this
        rw [show d + 1 + (r.length : Int) = d + ((r.length + 1 : Nat) : Int) by omega]
        exact this
    exact key x.args (fun a ha => ha) _ d m hd fun m' => runD_ins h hx hst rest d m' hd hr
theorem runD_trs {p : Prg} (h : p.K) : ∀ k, k ≤ p.gs.length → ∀ (rest : List Ins) (m : Int), (∀ m' st, (∀ i, i < k → st i = true) → (runD p.gs.length rest 0 m' st).isSome = true) → (runD p.gs.length (p.trs k ++ rest) 0 m fun _ => false).isSome = true := by
  intro k
  induction k with
  | zero => intro _ rest m hr; rw [Prg.trs, List.nil_append]; exact hr m _ fun i hi => by omega
  | succ k ih =>
    intro hk rest m hr
    have ha : p.gs[k]? = some p.gs[k] := by simp [show k < p.gs.length by omega]
    obtain ⟨a, hae⟩ : ∃ a, p.gs[k] = a := ⟨_, rfl⟩
    rw [hae] at ha
    have hra := (h.v.ag k a ha).2
    have e2 : a = ⟨a.name, (a.root.toNat : Nat)⟩ := by cases a; simp only [Asg.mk.injEq, true_and] at *; omega
    have ho : p.own a.root.toNat = k := h.v.own_eq (Own.root (s := a.name) (by rw [ha]; exact congrArg some e2))
    have e0 : ((⟨#[]⟩ : ByteArray).toList == []) = true := by rw [Lib.toList_data]; rfl
    rw [Prg.trs_step ha, List.append_assoc]
    refine ih (by omega) _ m fun m' st hst => ?_
    rw [List.append_assoc]
    refine runD_tr h (a.root.toNat + 1) a.root.toNat (by omega) (by omega) st (by rw [ho]; exact hst) _ 0 m' (by omega) fun m2 => ?_
    show (runD p.gs.length (_ :: rest) _ _ _).isSome = true
    unfold runD
    rw [if_pos ⟨by simp [wfI, e0, inB_iff]; omega, fun e => by simp at e, by show (1 : Int) ≤ 0 + 1; omega⟩]
    refine hr _ _ fun i hi => ?_
    show markSt 4 ((k : Nat) : Int) st i = true
    unfold markSt
    rw [if_pos rfl]
    simp only [Int.toNat_natCast]
    by_cases e : i = k
    · rw [if_pos e]
    · rw [if_neg e]; exact hst i (by omega)
theorem trs_num {p : Prg} (h : p.K) : ∀ x ∈ p.code.xs, numB x = true := by
  have t1 : ∀ (F j : Nat), j < F → j < p.ns.length → ∀ x ∈ p.tr j, numB x = true := by
    intro F
    induction F with
    | zero => intro j hj; omega
    | succ F ih =>
      intro j hj hjl y hy
      have hx : p.ns[j]? = some p.ns[j] := by simp [hjl]
      rw [h.v.tr_step hx] at hy
      rcases List.mem_append.1 hy with hy | hy
      · obtain ⟨a, ha, hy⟩ := List.mem_flatMap.1 hy
        have hk := h.rank_arg hx ha
        have hlt := (h.v.nd j _ hx).2 a ha
        exact ih a.toNat (by omega) hk.2.1 y hy
      · rw [List.mem_singleton.1 hy]
        exact (insOf_wf h hx).2.1
  have t2 : ∀ k, k ≤ p.gs.length → ∀ x ∈ p.trs k, numB x = true := by
    intro k
    induction k with
    | zero => intro _ x hx; cases hx
    | succ k ih =>
      intro hk x hx
      have ha : p.gs[k]? = some p.gs[k] := by simp [show k < p.gs.length by omega]
      have hra := (h.v.ag k _ ha).2
      rw [Prg.trs_step ha] at hx
      rcases List.mem_append.1 hx with hx | hx
      · exact ih (by omega) x hx
      · rcases List.mem_append.1 hx with hx | hx
        · exact t1 _ _ (Nat.lt_succ_self _) (by omega) x hx
        · rw [List.mem_singleton.1 hx]
          have := h.v.gs_len
          exact inB_iff.2 (by simp only; omega)
  exact t2 _ (Nat.le_refl _)
/-- the code of a program that passes the checks may be run -/
theorem Prg.K.runB {p : Prg} (h : p.K) : p.code.runB = true := by
  unfold Cod.runB
  rw [Bool.and_eq_true]
  refine ⟨?_, List.all_eq_true.2 (trs_num h)⟩
  unfold Cod.depth
  rw [if_pos (by have := code_len h; omega)]
  show (runD (p.gs.map (·.name)).length (p.trs p.gs.length) 0 0 fun _ => false).isSome = true
  rw [List.length_map]
  have := runD_trs h p.gs.length (Nat.le_refl _) [] 0 fun m' st _ => rfl
  rwa [List.append_nil] at this
end Go.Proofs.YtaegmenjgjdimaaGreat
end

section
/- This text proves the program's instructionOf. -/
namespace Go.Proofs.YtaegmenjgjdimaaGreat
open Go.RowKit Go.Maps Go.WideMaps

theorem insOf_val {p : Prg} {op num : Int} {s : ByteArray} {us : List Int} {o n : Int} {t : ByteArray} (h : insOf p ⟨op, s, num, us⟩ = ⟨o, t, n⟩) : (insOf p ⟨op, s, num, us⟩).val = .agg #[.int .i64 o, .string t, .int .i64 n] := by rw [h]; rfl
set_option maxRecDepth 20000 in
set_option maxHeartbeats 6400000 in
theorem iInsOf_any (p : Prg) (hK : p.K) (j : Nat) (op num : Int) (s : ByteArray) (ra : List Int) (hx : p.ns[j]? = some ⟨op, s, num, ra⟩) (sa : Option Addr) (sn sc b : Nat) (w : World) (hM : FM w b p.gs p.gs.length) (hs : s.size ≤ maxLen) (hgl : p.gs.length ≤ 1048576) :
    Calls Tryz.prog 32 #[.agg #[.int .i64 op, .string s, .int .i64 num, .slice sa sn sc], .map (some b)] w fun e w' => e = .returned (insOf p ⟨op, s, num, ra⟩).val ∧ Ext w w' := by
  have HM := hid hM
  have nF := nodeF_op (hK.v.nd j _ hx).1
  simp only at nF
  have HX := hid hx
  clear hM hx
  by_cases o1 : op = 1
  · subst o1
    clear nF
    have hi : insOf p ⟨1, s, num, ra⟩ = ⟨1, ⟨#[]⟩, num⟩ := rfl
    rw [insOf_val hi]
    clear hi
    have NB := hid (Blk.new w 79 [.int .i64 (1), .string s, .int .i64 num, .slice sa sn sc])
    go_enter Tryz.func32, Tryz.ntmps32
    go_wp2_with fail
    refine (iExprOf_any (1) s num _ _).mono ?_
    rintro e w1 ⟨rfl, x1⟩
    have N1 := NB.out.ext (show Ext _ ((w.alloc (.cells #[.int .i64 (1), .string s, .int .i64 num, .slice sa sn sc] 79)).alloc (.cells #[.int .i64 0, .string ⟨#[]⟩, .int .i64 0] 81)) from (by repeat (with_reducible (first | assumption | exact Ext.refl _ | apply Ext.alloc | apply Ext.drew | apply Ext.drewN))))
    have R1 := Blk.new (w.alloc (.cells #[.int .i64 (1), .string s, .int .i64 num, .slice sa sn sc] 79)) 81 [.int .i64 0, .string ⟨#[]⟩, .int .i64 0]
    rw [World.size_alloc] at R1
    have X1 : Ext w w1 := Ext.trans (by repeat (with_reducible (first | assumption | exact Ext.refl _ | apply Ext.alloc | apply Ext.drew | apply Ext.drewN))) x1
    have N2 := N1.ext x1
    have R2 := R1.ext x1
    have M2 := hid (HM.out.ext X1)
    have n0 := N2.cell 0 rfl
    have n1 := N2.cell 1 rfl
    have n2 := N2.cell 2 rfl
    have r0 := R2.cell 0 rfl
    have r1 := R2.cell 1 rfl
    have r2 := R2.cell 2 rfl
    have f0 := R2.free 0
    have f1 := R2.free 1
    have f2 := R2.free 2
    have zn := N2.lt
    have zr := R2.lt
    clear N1 R1 N2 R2 x1
    unfold exprV
    rw [if_neg (by decide), if_neg (by decide)]
    go_wp2
    refine bodyPost_ret (v := .agg #[.int .i64 (1), .string ⟨#[]⟩, .int .i64 (num)]) (by simp [results, Tryz.results32, go_sem, *]) rfl ?_
    exact ⟨rfl, (by repeat (first | with_reducible assumption | with_reducible exact Ext.refl _ | with_reducible apply Ext.alloc | with_reducible apply Ext.drew | with_reducible apply Ext.drewN | (with_reducible refine Ext.setCell ?_ (by simp; omega) _) | (with_reducible refine Ext.setCell ?_ (by simp) _)))⟩
  by_cases o3 : op = 3
  · subst o3
    clear nF
    have hi : insOf p ⟨3, s, num, ra⟩ = ⟨5, ⟨#[]⟩, 3⟩ := rfl
    rw [insOf_val hi]
    clear hi
    have NB := hid (Blk.new w 79 [.int .i64 (3), .string s, .int .i64 num, .slice sa sn sc])
    go_enter Tryz.func32, Tryz.ntmps32
    go_wp2_with fail
    refine (iExprOf_any (3) s num _ _).mono ?_
    rintro e w1 ⟨rfl, x1⟩
    have N1 := NB.out.ext (show Ext _ ((w.alloc (.cells #[.int .i64 (3), .string s, .int .i64 num, .slice sa sn sc] 79)).alloc (.cells #[.int .i64 0, .string ⟨#[]⟩, .int .i64 0] 81)) from (by repeat (with_reducible (first | assumption | exact Ext.refl _ | apply Ext.alloc | apply Ext.drew | apply Ext.drewN))))
    have R1 := Blk.new (w.alloc (.cells #[.int .i64 (3), .string s, .int .i64 num, .slice sa sn sc] 79)) 81 [.int .i64 0, .string ⟨#[]⟩, .int .i64 0]
    rw [World.size_alloc] at R1
    have X1 : Ext w w1 := Ext.trans (by repeat (with_reducible (first | assumption | exact Ext.refl _ | apply Ext.alloc | apply Ext.drew | apply Ext.drewN))) x1
    have N2 := N1.ext x1
    have R2 := R1.ext x1
    have M2 := hid (HM.out.ext X1)
    have n0 := N2.cell 0 rfl
    have n1 := N2.cell 1 rfl
    have n2 := N2.cell 2 rfl
    have r0 := R2.cell 0 rfl
    have r1 := R2.cell 1 rfl
    have r2 := R2.cell 2 rfl
    have f0 := R2.free 0
    have f1 := R2.free 1
    have f2 := R2.free 2
    have zn := N2.lt
    have zr := R2.lt
    clear N1 R1 N2 R2 x1
    unfold exprV
    rw [if_neg (by decide), if_neg (by decide)]
    go_wp2
    refine bodyPost_ret (v := .agg #[.int .i64 (5), .string ⟨#[]⟩, .int .i64 (3)]) (by simp [results, Tryz.results32, go_sem, *]) rfl ?_
    exact ⟨rfl, (by repeat (first | with_reducible assumption | with_reducible exact Ext.refl _ | with_reducible apply Ext.alloc | with_reducible apply Ext.drew | with_reducible apply Ext.drewN | (with_reducible refine Ext.setCell ?_ (by simp; omega) _) | (with_reducible refine Ext.setCell ?_ (by simp) _)))⟩
  by_cases o2 : op = 2
  · subst o2
    have h0 := as_vv (.agg #[.int .i64 2, .string s, .int .i64 num, .slice sa sn sc])
    clear nF
    cases hv : isVar s
    · obtain ⟨i, hi0, hik⟩ := hK.name j _ HX.out rfl hv
      simp only at hi0
      have HI := hid hi0
      have hil := (frst_some hi0).1
      have hix : ixOf p s = i := by unfold ixOf; rw [hi0]; rfl
      have HV := hid hv
      clear hi0
      have hi : insOf p ⟨2, s, num, ra⟩ = ⟨3, ⟨#[]⟩, (i : Nat)⟩ := by unfold insOf; simp [hv, hix]
      rw [insOf_val hi]
      clear hi
      clear hv hix
      have NB := hid (Blk.new w 79 [.int .i64 (2), .string s, .int .i64 num, .slice sa sn sc])
      go_enter Tryz.func32, Tryz.ntmps32
      go_wp2_with fail
      refine (iExprOf_any (2) s num _ _).mono ?_
      rintro e w1 ⟨rfl, x1⟩
      have N1 := NB.out.ext (show Ext _ ((w.alloc (.cells #[.int .i64 (2), .string s, .int .i64 num, .slice sa sn sc] 79)).alloc (.cells #[.int .i64 0, .string ⟨#[]⟩, .int .i64 0] 81)) from (by repeat (with_reducible (first | assumption | exact Ext.refl _ | apply Ext.alloc | apply Ext.drew | apply Ext.drewN))))
      have R1 := Blk.new (w.alloc (.cells #[.int .i64 (2), .string s, .int .i64 num, .slice sa sn sc] 79)) 81 [.int .i64 0, .string ⟨#[]⟩, .int .i64 0]
      rw [World.size_alloc] at R1
      have X1 : Ext w w1 := Ext.trans (by repeat (with_reducible (first | assumption | exact Ext.refl _ | apply Ext.alloc | apply Ext.drew | apply Ext.drewN))) x1
      have N2 := N1.ext x1
      have R2 := R1.ext x1
      have M2 := hid (HM.out.ext X1)
      have n0 := N2.cell 0 rfl
      have n1 := N2.cell 1 rfl
      have n2 := N2.cell 2 rfl
      have r0 := R2.cell 0 rfl
      have r1 := R2.cell 1 rfl
      have r2 := R2.cell 2 rfl
      have f0 := R2.free 0
      have f1 := R2.free 1
      have f2 := R2.free 2
      have zn := N2.lt
      have zr := R2.lt
      clear N1 R1 N2 R2 x1
      unfold exprV
      rw [if_pos rfl]
      go_wp2_with (first | (at_lookup; refine wpList_first _ rfl _ _ rfl _ _ _ rfl (M2.out.ext (by repeat (with_reducible (first | assumption | exact Ext.refl _ | apply Ext.alloc | apply Ext.drew | apply Ext.drewN)))) _ hs rfl _ HI.out ?_) | (go_at_call 54; refine (iIsVariable_val HV.out _).mono ?_; rintro e w3 ⟨rfl, rfl⟩))
      refine bodyPost_ret (v := .agg #[.int .i64 (3), .string ⟨#[]⟩, .int .i64 ((i : Nat))]) (by simp [results, Tryz.results32, go_sem, *]) rfl ?_
      exact ⟨rfl, (by repeat (first | with_reducible assumption | with_reducible exact Ext.refl _ | with_reducible apply Ext.alloc | with_reducible apply Ext.drew | with_reducible apply Ext.drewN | (with_reducible refine Ext.setCell ?_ (by simp; omega) _) | (with_reducible refine Ext.setCell ?_ (by simp) _)))⟩
    · have HV := hid hv
      have hi : insOf p ⟨2, s, num, ra⟩ = ⟨2, s, 0⟩ := by unfold insOf; simp [hv]
      rw [insOf_val hi]
      clear hi
      clear hv
      have NB := hid (Blk.new w 79 [.int .i64 (2), .string s, .int .i64 num, .slice sa sn sc])
      go_enter Tryz.func32, Tryz.ntmps32
      go_wp2_with fail
      refine (iExprOf_any (2) s num _ _).mono ?_
      rintro e w1 ⟨rfl, x1⟩
      have N1 := NB.out.ext (show Ext _ ((w.alloc (.cells #[.int .i64 (2), .string s, .int .i64 num, .slice sa sn sc] 79)).alloc (.cells #[.int .i64 0, .string ⟨#[]⟩, .int .i64 0] 81)) from (by repeat (with_reducible (first | assumption | exact Ext.refl _ | apply Ext.alloc | apply Ext.drew | apply Ext.drewN))))
      have R1 := Blk.new (w.alloc (.cells #[.int .i64 (2), .string s, .int .i64 num, .slice sa sn sc] 79)) 81 [.int .i64 0, .string ⟨#[]⟩, .int .i64 0]
      rw [World.size_alloc] at R1
      have X1 : Ext w w1 := Ext.trans (by repeat (with_reducible (first | assumption | exact Ext.refl _ | apply Ext.alloc | apply Ext.drew | apply Ext.drewN))) x1
      have N2 := N1.ext x1
      have R2 := R1.ext x1
      have M2 := hid (HM.out.ext X1)
      have n0 := N2.cell 0 rfl
      have n1 := N2.cell 1 rfl
      have n2 := N2.cell 2 rfl
      have r0 := R2.cell 0 rfl
      have r1 := R2.cell 1 rfl
      have r2 := R2.cell 2 rfl
      have f0 := R2.free 0
      have f1 := R2.free 1
      have f2 := R2.free 2
      have zn := N2.lt
      have zr := R2.lt
      clear N1 R1 N2 R2 x1
      unfold exprV
      rw [if_pos rfl]
      go_wp2_with (go_at_call 54; refine (iIsVariable_val HV.out _).mono ?_; rintro e w3 ⟨rfl, rfl⟩)
      refine bodyPost_ret (v := .agg #[.int .i64 (2), .string s, .int .i64 (0)]) (by simp [results, Tryz.results32, go_sem, *]) rfl ?_
      exact ⟨rfl, (by repeat (first | with_reducible assumption | with_reducible exact Ext.refl _ | with_reducible apply Ext.alloc | with_reducible apply Ext.drew | with_reducible apply Ext.drewN | (with_reducible refine Ext.setCell ?_ (by simp; omega) _) | (with_reducible refine Ext.setCell ?_ (by simp) _)))⟩
  by_cases o8 : op = 8
  · subst o8
    have h0 := as_cv (.agg #[.int .i64 8, .string s, .int .i64 num, .slice sa sn sc])
    have h1 := as_cc (.agg #[.int .i64 8, .string s, .int .i64 num, .slice sa sn sc])
    clear nF
    have hi : insOf p ⟨8, s, num, ra⟩ = ⟨7, s, 0⟩ := rfl
    rw [insOf_val hi]
    clear hi
    have NB := hid (Blk.new w 79 [.int .i64 (8), .string s, .int .i64 num, .slice sa sn sc])
    go_enter Tryz.func32, Tryz.ntmps32
    go_wp2_with fail
    refine (iExprOf_any (8) s num _ _).mono ?_
    rintro e w1 ⟨rfl, x1⟩
    have N1 := NB.out.ext (show Ext _ ((w.alloc (.cells #[.int .i64 (8), .string s, .int .i64 num, .slice sa sn sc] 79)).alloc (.cells #[.int .i64 0, .string ⟨#[]⟩, .int .i64 0] 81)) from (by repeat (with_reducible (first | assumption | exact Ext.refl _ | apply Ext.alloc | apply Ext.drew | apply Ext.drewN))))
    have R1 := Blk.new (w.alloc (.cells #[.int .i64 (8), .string s, .int .i64 num, .slice sa sn sc] 79)) 81 [.int .i64 0, .string ⟨#[]⟩, .int .i64 0]
    rw [World.size_alloc] at R1
    have X1 : Ext w w1 := Ext.trans (by repeat (with_reducible (first | assumption | exact Ext.refl _ | apply Ext.alloc | apply Ext.drew | apply Ext.drewN))) x1
    have N2 := N1.ext x1
    have R2 := R1.ext x1
    have M2 := hid (HM.out.ext X1)
    have n0 := N2.cell 0 rfl
    have n1 := N2.cell 1 rfl
    have n2 := N2.cell 2 rfl
    have r0 := R2.cell 0 rfl
    have r1 := R2.cell 1 rfl
    have r2 := R2.cell 2 rfl
    have f0 := R2.free 0
    have f1 := R2.free 1
    have f2 := R2.free 2
    have zn := N2.lt
    have zr := R2.lt
    clear N1 R1 N2 R2 x1
    unfold exprV
    rw [if_neg (by decide), if_pos rfl]
    go_wp2
    refine bodyPost_ret (v := .agg #[.int .i64 (7), .string s, .int .i64 (0)]) (by simp [results, Tryz.results32, go_sem, *]) rfl ?_
    exact ⟨rfl, (by repeat (first | with_reducible assumption | with_reducible exact Ext.refl _ | with_reducible apply Ext.alloc | with_reducible apply Ext.drew | with_reducible apply Ext.drewN | (with_reducible refine Ext.setCell ?_ (by simp; omega) _) | (with_reducible refine Ext.setCell ?_ (by simp) _)))⟩
  have h0 := as_pv (.agg #[.int .i64 op, .string s, .int .i64 num, .slice sa sn sc])
  have h1 := as_pc (.agg #[.int .i64 op, .string s, .int .i64 num, .slice sa sn sc])
  have b1 : (op == 1) = false := beq_eq_false_iff_ne.2 o1
  have b3 : (op == 3) = false := beq_eq_false_iff_ne.2 o3
  have hi : insOf p ⟨op, s, num, ra⟩ = ⟨6, ⟨#[]⟩, op⟩ := by unfold insOf; simp [o1, o2, o3, o8]
  rw [insOf_val hi]
  clear hi
  have NB := hid (Blk.new w 79 [.int .i64 (op), .string s, .int .i64 num, .slice sa sn sc])
  go_enter Tryz.func32, Tryz.ntmps32
  go_wp2_with fail
  refine (iExprOf_any (op) s num _ _).mono ?_
  rintro e w1 ⟨rfl, x1⟩
  have N1 := NB.out.ext (show Ext _ ((w.alloc (.cells #[.int .i64 (op), .string s, .int .i64 num, .slice sa sn sc] 79)).alloc (.cells #[.int .i64 0, .string ⟨#[]⟩, .int .i64 0] 81)) from (by repeat (with_reducible (first | assumption | exact Ext.refl _ | apply Ext.alloc | apply Ext.drew | apply Ext.drewN))))
  have R1 := Blk.new (w.alloc (.cells #[.int .i64 (op), .string s, .int .i64 num, .slice sa sn sc] 79)) 81 [.int .i64 0, .string ⟨#[]⟩, .int .i64 0]
  rw [World.size_alloc] at R1
  have X1 : Ext w w1 := Ext.trans (by repeat (with_reducible (first | assumption | exact Ext.refl _ | apply Ext.alloc | apply Ext.drew | apply Ext.drewN))) x1
  have N2 := N1.ext x1
  have R2 := R1.ext x1
  have M2 := hid (HM.out.ext X1)
  have n0 := N2.cell 0 rfl
  have n1 := N2.cell 1 rfl
  have n2 := N2.cell 2 rfl
  have r0 := R2.cell 0 rfl
  have r1 := R2.cell 1 rfl
  have r2 := R2.cell 2 rfl
  have f0 := R2.free 0
  have f1 := R2.free 1
  have f2 := R2.free 2
  have zn := N2.lt
  have zr := R2.lt
  clear N1 R1 N2 R2 x1
  unfold exprV
  rw [if_neg o2, if_neg o8]
  go_wp2
  refine bodyPost_ret (v := .agg #[.int .i64 (6), .string ⟨#[]⟩, .int .i64 (op)]) (by simp [results, Tryz.results32, go_sem, *]) rfl ?_
  exact ⟨rfl, (by repeat (first | with_reducible assumption | with_reducible exact Ext.refl _ | with_reducible apply Ext.alloc | with_reducible apply Ext.drew | with_reducible apply Ext.drewN | (with_reducible refine Ext.setCell ?_ (by simp; omega) _) | (with_reducible refine Ext.setCell ?_ (by simp) _)))⟩
end Go.Proofs.YtaegmenjgjdimaaGreat
end

section
/- This text proves what the closure inside the program's Compile does. -/
namespace Go.Proofs.YtaegmenjgjdimaaGreat
open Go.RowKit Go.Maps Go.WideMaps

def Ins.cs (x : Ins) : List Value := [.int .i64 x.op, .string x.name, .int .i64 x.num]
def OwnInss (lo : Nat) (w : World) (v : Value) (xs : List Ins) : Prop := OwnG Ins.cs lo 81 3 w v xs
theorem info_InsT : (Tryz.prog.info? 81).map (fun i => (i.zero, i.size, i.bytes)) = some (some (.agg #[.int .i64 0, .string ⟨#[]⟩, .int .i64 0]), 3, 32) := by kernel_rfl
theorem wpList_append_insn (w : World) {ops : Array Oper} {rest : List Oper} {o : Oper} {a : Act} {Q : Exit → Act → World → Prop} (hg : o.guard = none) (s x : Operand)
    (hop : o.op = Op.call { callee := Callee.builtin Builtin.append, args := #[s, x], argTypes := #[41, 41] }) (lo : Nat) (v : Value) (xs : List Ins) (hs : a.eval s = v) (hown : OwnInss lo w v xs)
    (y : Ins) (b : Nat) (hx : a.eval x = .slice (some ⟨b, 0, none⟩) 1 1) (hcell : w.cell? ⟨b, 0, none⟩ = some (.int .i64 y.op) ∧ w.cell? ⟨b, 1, none⟩ = some (.string y.name) ∧ w.cell? ⟨b, 2, none⟩ = some (.int .i64 y.num)) (hlen : xs.length < 1000000) (hlo : lo ≤ w.heap.size)
    (hK : ∀ v' w', OwnInss lo w' v' (xs ++ [y]) → w.grownBy w' v.ownBlock → wpList Tryz.prog ops Q rest (a.put o.dst v') w') : wpList Tryz.prog ops Q (o :: rest) a w := by
  refine wpList_append_elt Ins.cs 81 3 32 _ w hg s x 41 hop Tryz.underlying41 info_InsT rfl (by decide) (by decide) (fun _ => rfl) lo v xs hs hown y b hx ?_ ?_ hlen hlo hK
  · intro j hj
    obtain ⟨c0, c1, c2⟩ := hcell
    rcases (show j = 0 ∨ j = 1 ∨ j = 2 by omega) with rfl | rfl | rfl
    · exact c0
    · exact c1
    · exact c2
  · intro u hu
    simp only [Ins.cs, List.mem_cons, List.not_mem_nil, or_false] at hu
    rcases hu with rfl | rfl | rfl <;> rfl
theorem OwnG.rowC {α : Type} {cs : α → List Value} {lo : Nat} {e : TypeId} {sz : Nat} {w : World} {v : Value} {xs : List α} (h : OwnG cs lo e sz w v xs) : ∀ k, v.ownBlock = some k → lo ≤ k ∧ ∃ c, w.heap[k]? = some (.cells c e (0, 0)) := by
  intro k hk
  rcases h.2 with ⟨rfl, h4⟩ | ⟨g, cap, cur, rfl, hb, hg, _⟩
  · cases hk
  · simp only [Value.ownBlock, Option.some.injEq] at hk
    subst hk
    exact ⟨hb, cur, hg⟩
/-- a row of strings stands, whatever was written in block B and the rows of another type -/
theorem KN.strs {lo B : Nat} {e : TypeId} {lo' : Nat} {w w' : World} {v : Value} {xs : List ByteArray} (h : OwnStrs lo' w v xs) (k : KN lo B e w w') (hB : ∀ c, w.heap[B]? ≠ some (.cells c 9 (0, 0))) (he : 9 ≠ e) : OwnStrs lo' w' v xs := by
  obtain ⟨h1, h2⟩ := h
  refine ⟨h1, ?_⟩
  rcases h2 with hn | ⟨g, cap, cur, hv, hb, hg, r⟩
  · exact .inl hn
  · refine .inr ⟨g, cap, cur, hv, hb, ?_, r⟩
    exact (k.block g (Array.getElem?_eq_some_iff.1 hg).1 (.inr ⟨fun e1 => hB cur (e1 ▸ hg), fun c' h' => by rw [hg] at h'; simp only [Option.some.injEq, Obj.cells.injEq] at h'; exact he h'.2.1⟩)).trans hg
/-- the boxes of the program's Compile: program, function, code, first assignments -/
structure TB (p : Prg) (P T C M mb lo : Nat) (a1 a2 : Option Addr) (c1 c2 : Nat) (w : World) (xs : List Ins) (iv : Value) (ls : List ByteArray) (lv : Value) : Prop where
  prog : Blk w P 26 [.slice a1 p.ns.length c1, .slice a2 p.gs.length c2]
  fn : Blk w T 77 [.func (.func 31) #[] #[.pointer (some ⟨P, 0, none⟩), .pointer (some ⟨T, 0, none⟩), .pointer (some ⟨C, 0, none⟩), .pointer (some ⟨M, 0, none⟩)]]
  code : Blk w C 44 [iv, lv]
  mp : Blk w M 69 [.map (some mb)]
  map : FM w mb p.gs p.gs.length
  ins : OwnInss lo w iv xs
  loc : OwnStrs lo w lv ls
  low : lo ≤ C
theorem Blk.neq {w : World} {A B : Nat} {cs ds : List Value} {t u : TypeId} (h : Blk w A t cs) (k : Blk w B u ds) (ht : t ≠ u) : A ≠ B := fun e => by
  subst e
  unfold Blk at h k
  rw [h] at k
  simp only [Option.some.injEq, Obj.cells.injEq] at k
  exact ht k.2.1
theorem Blk.noCells {w : World} {A : Nat} {cs : List Value} {t e : TypeId} (h : Blk w A t cs) (he : e ≠ t) : ∀ c, w.heap[A]? ≠ some (.cells c e (0, 0)) := fun c hc => by
  unfold Blk at h
  rw [h] at hc
  simp only [Option.some.injEq, Obj.cells.injEq] at hc
  exact he hc.2.1.symm
theorem KN.fm {lo B : Nat} {e : TypeId} {w w' : World} {b k : Nat} {gs : List Asg} {ds : List Value} {u : TypeId} (h : FM w b gs k) (kn : KN lo B e w w') (hB : Blk w B u ds) : FM w' b gs k := by
  have hl := h.lt
  have h' := h
  obtain ⟨n, D, _, ⟨es, clock, h1, _⟩, _⟩ := h'
  refine h.of_block (kn.block b hl (.inr ⟨fun e1 => ?_, fun c hc => ?_⟩))
  · subst e1
    unfold Blk at hB
    rw [hB] at h1
    cases h1
  · rw [hc] at h1
    cases h1
theorem TB.ext {p : Prg} {P T C M mb lo : Nat} {a1 a2 : Option Addr} {c1 c2 : Nat} {w w' : World} {xs : List Ins} {iv : Value} {ls : List ByteArray} {lv : Value} (h : TB p P T C M mb lo a1 a2 c1 c2 w xs iv ls lv) (x : Ext w w') : TB p P T C M mb lo a1 a2 c1 c2 w' xs iv ls lv :=
  ⟨h.prog.ext x, h.fn.ext x, h.code.ext x, h.mp.ext x, h.map.ext x, OwnG.ext h.ins x, h.loc.ext x, h.low⟩
/-- the code's instructions changed -/
theorem TB.kn {p : Prg} {P T C M mb lo : Nat} {a1 a2 : Option Addr} {c1 c2 : Nat} {w w' : World} {xs xs' : List Ins} {iv iv' : Value} {ls : List ByteArray} {lv : Value} (h : TB p P T C M mb lo a1 a2 c1 c2 w xs iv ls lv) (k : KN lo C 81 w w') (hc : Blk w' C 44 [iv', lv]) (hi : OwnInss lo w' iv' xs') : TB p P T C M mb lo a1 a2 c1 c2 w' xs' iv' ls lv :=
  ⟨KN.blk h.prog k (h.prog.neq h.code (by decide)) (by decide), KN.blk h.fn k (h.fn.neq h.code (by decide)) (by decide), hc, KN.blk h.mp k (h.mp.neq h.code (by decide)) (by decide), KN.fm h.map k h.code, hi, KN.strs h.loc k (h.code.noCells (by decide)) (by decide), h.low⟩
/-- the cells of three blocks -/
def C3b (b c d : Nat) : Addr → Prop := fun a => a.block = b ∨ a.block = c ∨ a.block = d
@[go_sem] theorem C3b_1 (b c d o : Nat) : C3b b c d ⟨b, o, none⟩ := .inl rfl
@[go_sem] theorem C3b_2 (b c d o : Nat) : C3b b c d ⟨c, o, none⟩ := .inr (.inl rfl)
@[go_sem] theorem C3b_3 (b c d o : Nat) : C3b b c d ⟨d, o, none⟩ := .inr (.inr rfl)
end Go.Proofs.YtaegmenjgjdimaaGreat
end
