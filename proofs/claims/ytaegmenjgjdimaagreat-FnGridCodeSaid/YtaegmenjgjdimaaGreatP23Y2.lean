/- Texts of this claim, one behind another: Ow9, Cl2, Cl3, Ld1, FnT, Ev1, Mc1, Mc2, PlanC, PlanX, Ev2, Ev3, Pr2, Pr3, Ev4, Ev5. -/
import Derived.Test.YtaegmenjgjdimaaGreatP23Y1
import Derived.Test.YtaegmenjgjdimaaGreatCl1
import Derived.Test.YtaegmenjgjdimaaGreatSh15
import Derived.Test.YtaegmenjgjdimaaGreatL15g
import Derived.Lib.SliceRun
import Derived.Test.YtaegmenjgjdimaaGreatPlan
set_option linter.unusedSimpArgs false
set_option linter.unusedVariables false
section
/- This text proves the program's Check, as far as it says that a program passes. -/
namespace Go.Proofs.YtaegmenjgjdimaaGreat
open Go.RowKit Go.Maps Go.WideMaps

theorem iIsValidProgram_val {p : Prg} {b : Bool} (h : p.okB = b) (lo hi : Nat) (v : Value) (w : World) (hv : p.R lo hi w v) (hh : hi ≤ w.heap.size) (hb : p.bd) (hgl : p.gs.length ≤ 1048576) :
    Calls Tryz.prog 87 #[v] w fun e w' => e = .returned (.bool b) ∧ Ext w w' := h ▸ iIsValidProgram_any lo hi v p w hv hh hb hgl
theorem iKnown_val {gs : List Asg} {op : Int} {s : ByteArray} {o : Nat} {r : Bool} (h : knownB gs op s o = r) (num : Int) (sa : Option Addr) (sn sc b : Nat) (w : World) (hM : FM w b gs gs.length) (hs : s.size ≤ maxLen) (ho : o ≤ 10000000) (hgl : gs.length ≤ 1048576) :
    Calls Tryz.prog 89 #[exprV op (.agg #[.int .i64 op, .string s, .int .i64 num, .slice sa sn sc]), .int .i64 o, .map (some b)] w fun e w' => e = .returned (.bool r) ∧ Ext w w' := h ▸ iKnown_any gs op s num sa sn sc o b w hM hs ho hgl
theorem iFitting_val {op : Int} {s : ByteArray} {sn : Nat} {r : Bool} (h : fitB op s sn = r) (num : Int) (sa : Option Addr) (sc : Nat) (w : World) :
    Calls Tryz.prog 90 #[exprV op (.agg #[.int .i64 op, .string s, .int .i64 num, .slice sa sn sc])] w fun e w' => e = .returned (.bool r) ∧ Ext w w' := h ▸ iFitting_any op s num sa sn sc w
theorem iExprOf_val {op : Int} {s : ByteArray} {num : Int} {u E : Value} (h : exprV op (.agg #[.int .i64 op, .string s, .int .i64 num, u]) = E) (w : World) : Calls Tryz.prog 59 #[.agg #[.int .i64 op, .string s, .int .i64 num, u]] w fun e w' => e = .returned E ∧ Ext w w' := h ▸ iExprOf_any op s num u w
set_option maxRecDepth 20000 in
/-- a look as an equation, for a walk that meets it under a guard -/
theorem FM.look {w : World} {b k : Nat} {gs : List Asg} (h : FM w b gs k) {s : ByteArray} (hs : s.size ≤ maxLen) {t : Nat} (hr : frst gs k s.toList = some t) :
    (Instr.lookup 69 (.map (some b)) (.string s) false).run Tryz.prog w = .ok (.int .i64 (t : Int)) w := by
  obtain ⟨n, D, hn, hown, hm1, hm2⟩ := h
  obtain ⟨h1, h2⟩ := hm2 s hs
  obtain ⟨c, hrun, hat, hwc⟩ := hown.lookup_int strLaw Tryz.underlying69 Tryz.underlying3 (zeroI _) (keyS hs)
  rw [h2 t hr] at hat
  simp only [DataW.lit.injEq, Lit.int.injEq, true_and] at hat
  subst hat
  exact hrun
set_option maxRecDepth 20000 in
set_option maxHeartbeats 12800000 in
theorem iCheck_any (lo hi : Nat) (v : Value) (p : Prg) (w : World) (hv : p.R lo hi w v) (hh : hi ≤ w.heap.size) (hb : p.bd) (hgl : p.gs.length ≤ 1048576) :
    Calls Tryz.prog 52 #[v] w fun e w' => (∃ c k : Int, e = .returned (.tuple #[.int .i64 c, .int .i64 k]) ∧ (c == 0) = p.chkB) ∧ Ext w w' := by
  have HV := hid hv
  obtain ⟨a1, c1, a2, c2, rfl, HN, HG⟩ := hv.form
  have l1 := HN.le
  have l2 := HN.cap
  have l3 := HG.le
  have l4 := HG.cap
  have HBD := hid hb
  clear hv hb
  have x0 : Ext w (w.alloc (.cells #[.slice a1 p.ns.length c1, .slice a2 p.gs.length c2] 26)) := (by repeat (with_reducible (first | assumption | exact Ext.refl _ | apply Ext.alloc | apply Ext.drew | apply Ext.drewN)))
  have bB := Bx.made w #[.slice a1 p.ns.length c1, .slice a2 p.gs.length c2] 26
  cases hok : p.okB
  · have HOK := hid hok
    have HC : Hid (p.chkB = false) := hid (by unfold Prg.chkB; rw [hok]; rfl)
    clear hok
    go_enter Tryz.func52, Tryz.ntmps52
    go_wp2_with fail
    refine (iIsValidProgram_val HOK.out lo hi _ _ (HV.out.ext hh x0) (Nat.le_trans hh x0.size) HBD.out hgl).mono ?_
    rintro e w1 ⟨rfl, x1⟩
    have X1 := x0.trans x1
    go_wp2
    refine bodyPost_ret (v := .tuple #[.int .i64 1, .int .i64 0]) (by simp [results, Tryz.results52, go_sem]) rfl ⟨⟨_, _, rfl, by rw [HC.out]; rfl⟩, X1⟩
  have HP := hid (Prg.okB_V hok)
  have l5 := HP.out.len
  have HOK := hid hok
  clear hok
  go_enter Tryz.func52, Tryz.ntmps52
  go_wp2_with fail
  refine (iIsValidProgram_val HOK.out lo hi _ _ (HV.out.ext hh x0) (Nat.le_trans hh x0.size) HBD.out hgl).mono ?_
  rintro e w1 ⟨rfl, x1⟩
  have X1 := x0.trans x1
  have bB1 := bB.ext x1
  have q := bB1.lt
  have q0 := bB1.cell 0
  simp only [List.getElem?_toArray, List.getElem?_cons_zero, List.getElem?_cons_succ] at q0
  have q1 := bB1.cell 1
  simp only [List.getElem?_toArray, List.getElem?_cons_zero, List.getElem?_cons_succ] at q1
  clear x0 x1 bB
  go_wp2_with fail
  refine wp_region_stages [([0, 2], 1), ([], 3), ([4], 5)] 99 w1.heap.size (by kernel_rfl) (by kernel_rfl) ?_
  refine wpStages_cons ?_
  simp only [List.filterMap_cons, List.filterMap_nil, List.getElem?_toArray, List.getElem?_cons_zero, List.getElem?_cons_succ]
  show wpQuiet _ _ _ _ [_, _] _
  repeat (go_big_quiet_step (fail))
  refine wpQuiet_nil ⟨_, rfl, fun K hK => ?_⟩
  go_wp2_with fail
  refine (iAssigned_any lo hi _ p _ ((HV.out.ext hh X1).ext (Nat.le_trans hh X1.size) (by repeat (with_reducible (first | assumption | exact Ext.refl _ | apply Ext.alloc | apply Ext.drew | apply Ext.drewN)))) (by have := X1.size; simp; omega) HBD.out hgl).mono ?_
  rintro e w2 ⟨⟨mb, rfl, hmb, hM⟩, x2⟩
  have y2 : Ext w1 w2 := Ext.trans (by repeat (with_reducible (first | assumption | exact Ext.refl _ | apply Ext.alloc | apply Ext.drew | apply Ext.drewN))) x2
  have z2 := y2.size
  go_wp2_with fail
  refine hK _ _ (.inr (fun k _ hk => y2.block (by first | omega | (simp; omega)))) ?_
  clear hK K
  refine wpStages_cons ?_
  simp only [List.filterMap_nil]
  show wpQuiet _ _ _ _ [] _
  try simp only [Act.put, List.setIfInBounds_toArray, List.set_cons_succ, List.set_cons_zero]
  repeat (go_big_quiet_step (fail))
  refine wpQuiet_nil ⟨_, rfl, fun K hK => ?_⟩
  go_wp2_with fail
  refine (iOwners_any lo hi _ p _ ((HV.out.ext hh X1).ext (Nat.le_trans hh X1.size) y2) (by have := X1.size; omega) HP.out hgl).mono ?_
  rintro e w3 ⟨⟨oa, oc, rfl, hO⟩, x3⟩
  have y3 := y2.trans x3
  have hM3 := hM.ext x3
  go_wp2_with fail
  refine hK _ _ (.inr (fun k _ hk => y3.block (by first | omega | (simp; omega)))) ?_
  clear hK K
  refine wpStages_cons ?_
  simp only [List.filterMap_cons, List.filterMap_nil, List.getElem?_toArray, List.getElem?_cons_zero, List.getElem?_cons_succ]
  show wpQuiet _ _ _ _ [_] _
  try simp only [Act.put, List.setIfInBounds_toArray, List.set_cons_succ, List.set_cons_zero]
  repeat (go_big_quiet_step (fail))
  refine wpQuiet_nil ⟨_, rfl, fun K hK => ?_⟩
  go_wp2_with fail
  go_wp2_with fail
  refine hK _ _ (.inr (fun k _ hk => y3.block (by first | omega | (simp; omega)))) ?_
  clear hK K
  refine wpStages_nil ?_
  have hI := hO.ints
  obtain ⟨oa', oc', e1, HO⟩ := hI.open
  rw [Prg.ownL_len] at e1
  simp only [Value.slice.injEq, true_and] at e1
  obtain ⟨rfl, rfl⟩ := e1
  have lo1 := HO.le
  have lo2 := HO.cap
  rw [Prg.ownL_len] at lo1
  have bB3 := bB1.ext y3
  have HB3 := hid bB3
  have HX3 := hid (X1.trans y3)
  have HM3 := hid hM3
  clear x2 x3 y2 y3 hM hM3 bB1 hO hI X1 q q0 q1 z2
  have q := bB3.lt
  have q0 := bB3.cell 0
  simp only [List.getElem?_toArray, List.getElem?_cons_zero, List.getElem?_cons_succ] at q0
  have q1 := bB3.cell 1
  simp only [List.getElem?_toArray, List.getElem?_cons_zero, List.getElem?_cons_succ] at q1
  clear bB3
  go_wp2
  go_loopw [24] (fun i wr => ∃ k : Nat, k ≤ p.ns.length ∧ i = .int .i64 k ∧ (∀ j, j < k → p.nameB j = true) ∧ Bx wr w.heap.size #[.slice a1 p.ns.length c1, .slice a2 p.gs.length c2] 26 ∧ Ext w wr ∧ Ext w3 wr) (fun i _ => p.ns.length - (intOf i).toNat)
  case atStart => exact ⟨0, by omega, rfl, fun j h => by omega, HB3.out, HX3.out, Ext.refl _⟩
  case round =>
    clear HB3 HX3 q q0 q1
    obtain ⟨k, hk, rfl, hall, hB, hx, hx1⟩ := hrel
    have HA := hid hall
    have HX := hid hx
    have HX1 := hid hx1
    have HB := hid hB
    by_cases hlt : k < p.ns.length
    · obtain ⟨b, off, op, s, num, sa, sc, ra, rfl, hb1, hbw, hget, io, inn, hI, HI, y0, y1, y2, y3⟩ := HN.atW hlt hx hh
      have li1 := HI.le
      have li2 := HI.cap
      obtain ⟨ob, oo, oy, rfl, hob, hoy, _, hoc⟩ := HO.atE (k := k) (by rw [Prg.ownL_len]; exact hlt) hx1 (Nat.le_refl _)
      have e9 := ownL_at hoy
      subst e9
      have hsz := hid (HBD.out.1 _ (List.mem_of_getElem? hget))
      have q0 : Ext wr (wr.alloc (.cells #[.int .i64 op, .string s, .int .i64 num, .slice sa ra.length sc] 79)) := (by repeat (with_reducible (first | assumption | exact Ext.refl _ | apply Ext.alloc | apply Ext.drew | apply Ext.drewN)))
      have hon := ((HP.out.own_is hlt).lt HP.out).2
      obtain ⟨E, hE⟩ : ∃ E, exprV op (.agg #[.int .i64 op, .string s, .int .i64 num, .slice sa ra.length sc]) = E := ⟨_, rfl⟩
      obtain ⟨bk, hbk⟩ : ∃ r, knownB p.gs op s (p.own k) = r := ⟨_, rfl⟩
      have HE := hid hE
      have HBK := hid hbk
      have HND : Hid (p.nameB k = bk) := hid (by rw [Prg.nameB_at hget, ← hbk]; rfl)
      have hob' : ob ≤ wr.heap.size := by omega
      have hob2 : ob < wr.heap.size + 1 := by omega
      have HHB := hid (hx.size)
      clear hget hall hB hx hx1 hI hoy hE hbk
      go_wp2_with fail
      refine wp_region_stages [([0, 2, 3, 4, 5, 6], 1), ([], 7), ([], 8)] 99 (wr.heap.size + 1) (by kernel_rfl) (by kernel_rfl) ?_
      refine wpStages_cons ?_
      simp only [List.filterMap_cons, List.filterMap_nil, List.getElem?_toArray, List.getElem?_cons_zero, List.getElem?_cons_succ]
      show wpQuiet _ _ _ _ [_, _, _, _, _, _] _
      repeat (go_big_quiet_step (fail))
      refine wpQuiet_nil ⟨_, rfl, fun K hK => ?_⟩
      go_wp2_with fail
      refine (iExprOf_val HE.out _).mono ?_
      rintro e w4 ⟨rfl, x4⟩
      have X4 : Ext (wr.alloc (.cells #[.int .i64 op, .string s, .int .i64 num, .slice sa ra.length sc] 79)) w4 := Ext.trans (by repeat (with_reducible (first | assumption | exact Ext.refl _ | apply Ext.alloc | apply Ext.drew | apply Ext.drewN))) x4
      go_wp2_with fail
      refine hK _ _ (.inr (fun k _ hk => X4.block (by first | omega | (simp; omega)))) ?_
      clear hK K
      refine wpStages_cons ?_
      simp only [List.filterMap_nil]
      show wpQuiet _ _ _ _ [] _
      try simp only [Act.put, List.setIfInBounds_toArray, List.set_cons_succ, List.set_cons_zero]
      repeat (go_big_quiet_step (fail))
      refine wpQuiet_nil ⟨_, rfl, fun K hK => ?_⟩
      go_wp2_with fail
      have hk5 := iKnown_val HBK.out num sa ra.length sc mb w4 ((HM3.out.ext HX1.out).ext (q0.trans X4)) hsz.out (by omega) hgl
      rw [HE.out] at hk5
      refine hk5.mono ?_
      clear hk5
      rintro e w5 ⟨rfl, x5⟩
      have X5 := X4.trans x5
      go_wp2_with fail
      refine hK _ _ (.inr (fun k _ hk => X5.block (by first | omega | (simp; omega)))) ?_
      clear hK K
      refine wpStages_cons ?_
      simp only [List.filterMap_nil]
      show wpQuiet _ _ _ _ [] _
      try simp only [Act.put, List.setIfInBounds_toArray, List.set_cons_succ, List.set_cons_zero]
      repeat (go_big_quiet_step (fail))
      refine wpQuiet_nil ⟨_, rfl, fun K hK => ?_⟩
      go_wp2_with fail
      go_wp2_with fail
      refine hK _ _ (.inr (fun k _ hk => X5.block (by first | omega | (simp; omega)))) ?_
      clear hK K
      refine wpStages_nil ?_
      have HX5 := hid ((HX.out.trans q0).trans X5)
      have HX6 := hid ((HX1.out.trans q0).trans X5)
      have HB5 := hid ((HB.out.ext q0).ext X5)
      clear x4 X4 x5 X5
      cases bk
      · go_wp2
        have HC : p.chkB = false := by unfold Prg.chkB; rw [rng_no (p := p.nameB) hlt HND.out]; simp
        refine bodyPost_ret (v := .tuple #[.int .i64 2, .int .i64 k]) (by simp [results, Tryz.results52, go_sem]) rfl ⟨⟨_, _, rfl, by rw [HC]; rfl⟩, HX5.out⟩
      · go_wp2
        go_roundw
        case rel =>
          refine ⟨k + 1, by omega, by go_num, fun i hi => ?_, HB5.out, HX5.out, HX6.out⟩
          by_cases e : i = k
          · subst e; exact HND.out
          · exact HA.out i (by omega)
        case measure => simp [intOf]; omega
    · obtain rfl : k = p.ns.length := by omega
      have q := hB.lt
      have q0 := hB.cell 0
      simp only [List.getElem?_toArray, List.getElem?_cons_zero, List.getElem?_cons_succ] at q0
      have q1 := hB.cell 1
      simp only [List.getElem?_toArray, List.getElem?_cons_zero, List.getElem?_cons_succ] at q1
      clear hall hB hx hx1
      go_wp2
      go_loopw [43] (fun i wr => ∃ k : Nat, k ≤ p.ns.length ∧ i = .int .i64 k ∧ (∀ j, j < k → p.arB j = true) ∧ Bx wr w.heap.size #[.slice a1 p.ns.length c1, .slice a2 p.gs.length c2] 26 ∧ Ext w wr ∧ Ext w3 wr) (fun i _ => p.ns.length - (intOf i).toNat)
      case atStart => exact ⟨0, by omega, rfl, fun j h => by omega, HB.out, HX.out, HX1.out⟩
      case round =>
        clear HB HX HX1 q q0 q1
        obtain ⟨k, hk, rfl, hall, hB, hx, hx1⟩ := hrel
        have HA2 := hid hall
        have HX := hid hx
        have HX1 := hid hx1
        have HB := hid hB
        by_cases hlt : k < p.ns.length
        · obtain ⟨b, off, op, s, num, sa, sc, ra, rfl, hb1, hbw, hget, io, inn, hI, HI, y0, y1, y2, y3⟩ := HN.atW hlt hx hh
          have li1 := HI.le
          have li2 := HI.cap
          have q0 : Ext wr (wr.alloc (.cells #[.int .i64 op, .string s, .int .i64 num, .slice sa ra.length sc] 79)) := (by repeat (with_reducible (first | assumption | exact Ext.refl _ | apply Ext.alloc | apply Ext.drew | apply Ext.drewN)))
          obtain ⟨E, hE⟩ : ∃ E, exprV op (.agg #[.int .i64 op, .string s, .int .i64 num, .slice sa ra.length sc]) = E := ⟨_, rfl⟩
          obtain ⟨bk, hbk⟩ : ∃ r, fitB op s ra.length = r := ⟨_, rfl⟩
          have HE := hid hE
          have HBK := hid hbk
          have HND : Hid (p.arB k = bk) := hid (by rw [Prg.arB_at hget, ← hbk]; rfl)
          clear hget hall hB hx hx1 hI hE hbk
          go_wp2_with fail
          refine (iExprOf_val HE.out _).mono ?_
          rintro e w4 ⟨rfl, x4⟩
          go_wp2_with fail
          have hk5 := iFitting_val HBK.out num sa sc w4
          rw [HE.out] at hk5
          refine hk5.mono ?_
          clear hk5
          rintro e w5 ⟨rfl, x5⟩
          have X5 := x4.trans x5
          have HX5 := hid ((HX.out.trans q0).trans X5)
          have HX6 := hid ((HX1.out.trans q0).trans X5)
          have HB5 := hid ((HB.out.ext q0).ext X5)
          clear x4 x5 X5
          cases bk
          · go_wp2
            have HC : p.chkB = false := by unfold Prg.chkB; rw [rng_no (p := p.arB) hlt HND.out]; simp
            refine bodyPost_ret (v := .tuple #[.int .i64 3, .int .i64 k]) (by simp [results, Tryz.results52, go_sem]) rfl ⟨⟨_, _, rfl, by rw [HC]; rfl⟩, HX5.out⟩
          · go_wp2
            go_roundw
            case rel =>
              refine ⟨k + 1, by omega, by go_num, fun i hi => ?_, HB5.out, HX5.out, HX6.out⟩
              by_cases e : i = k
              · subst e; exact HND.out
              · exact HA2.out i (by omega)
            case measure => simp [intOf]; omega
        · obtain rfl : k = p.ns.length := by omega
          have q := hB.lt
          have q0 := hB.cell 0
          simp only [List.getElem?_toArray, List.getElem?_cons_zero, List.getElem?_cons_succ] at q0
          have q1 := hB.cell 1
          simp only [List.getElem?_toArray, List.getElem?_cons_zero, List.getElem?_cons_succ] at q1
          clear hall hB hx hx1
          go_wp2
          go_loopw [57] (fun i wr => ∃ k : Nat, k ≤ p.gs.length ∧ i = .int .i64 k ∧ (∀ j, j < k → p.asB j = true) ∧ Ext w wr ∧ Ext w3 wr) (fun i _ => p.gs.length - (intOf i).toNat)
          case atStart => exact ⟨0, by omega, rfl, fun j h => by omega, HX.out, HX1.out⟩
          case round =>
            clear HB HX HX1 q q0 q1
            obtain ⟨k, hk, rfl, hall, hx, hx1⟩ := hrel
            have HA3 := hid hall
            have HX := hid hx
            have HX1 := hid hx1
            by_cases hlt : k < p.gs.length
            · obtain ⟨b, off, s, rt, rfl, hb1, hbw, hdrop, hget, ir, y0, y1⟩ := HG.at hlt hx hh
              have q0 : Ext wr (wr.alloc (.cells #[.string s, .int .i64 rt] 74)) := (by repeat (with_reducible (first | assumption | exact Ext.refl _ | apply Ext.alloc | apply Ext.drew | apply Ext.drewN)))
              have hsz := HBD.out.2 _ (List.mem_of_getElem? hget)
              simp only at hsz
              obtain ⟨bv, hbv⟩ : ∃ b, isVar s = b := ⟨_, rfl⟩
              have HBV := hid hbv
              obtain ⟨t, ht⟩ : ∃ t, frst p.gs p.gs.length s.toList = some t := by
                cases e : frst p.gs p.gs.length s.toList with
                | some t => exact ⟨t, rfl⟩
                | none =>
                  have := frst_none e
                  rw [asgB_iff.2 ⟨k, _, hlt, hget, rfl⟩] at this
                  cases this
              have HT := hid ht
              have htb : t ≤ 1048576 := by have := (frst_some ht).1; omega
              have HND : Hid (p.asB k = (!bv && !(decide (t < k)))) := hid (by rw [Prg.asB_at hget, hbv, frst_lt ht])
              have HX3 := hid (hx.trans q0)
              have HX4 := hid (hx1.trans q0)
              have hlook := ((HM3.out.ext hx1).ext q0).look hsz ht
              clear hdrop hget hall hx hx1 HX HX1 hbv ht
              have e0 : decide (t < k) = true ∨ decide (t < k) = false := by cases decide (t < k) <;> simp
              have hfin : p.asB k = false → p.chkB = false := fun h => by unfold Prg.chkB; rw [rng_no (p := p.asB) hlt h]; simp
              have HF := hid hfin
              clear hfin
              by_cases htk : t < k
              · have HD := hid (HND.out.trans (by rw [decide_eq_true htk]; simp : _ = false))
                clear HND e0
                cases bv
                all_goals
                  go_wp2_with (go_at_call 54; refine (iIsVariable_val HBV.out _).mono ?_; rintro e w4 ⟨rfl, rfl⟩)
                  refine bodyPost_ret (v := .tuple #[.int .i64 4, .int .i64 k]) (by simp [results, Tryz.results52, go_sem]) rfl ⟨⟨_, _, rfl, by rw [HF.out HD.out]; rfl⟩, HX3.out⟩
              · have HD := hid (HND.out.trans (by rw [decide_eq_false htk]; simp : _ = !bv))
                clear HND e0
                cases bv
                · go_wp2_with (go_at_call 54; refine (iIsVariable_val HBV.out _).mono ?_; rintro e w4 ⟨rfl, rfl⟩)
                  go_roundw
                  case rel =>
                    refine ⟨k + 1, by omega, by go_num, fun i hi => ?_, HX3.out, HX4.out⟩
                    by_cases e : i = k
                    · subst e; exact HD.out
                    · exact HA3.out i (by omega)
                  case measure => simp [intOf]; omega
                · go_wp2_with (go_at_call 54; refine (iIsVariable_val HBV.out _).mono ?_; rintro e w4 ⟨rfl, rfl⟩)
                  refine bodyPost_ret (v := .tuple #[.int .i64 4, .int .i64 k]) (by simp [results, Tryz.results52, go_sem]) rfl ⟨⟨_, _, rfl, by rw [HF.out HD.out]; rfl⟩, HX3.out⟩
            · obtain rfl : k = p.gs.length := by omega
              have HMW := hid (HM3.out.ext hx1)
              clear hall hx hx1
              have HC : Hid (p.chkB = asgB p.gs p.gs.length [99, 111, 108, 111, 114]) := hid (by unfold Prg.chkB Prg.colB; rw [HOK.out, rng_all HA.out, rng_all HA2.out, rng_all HA3.out]; rfl)
              cases hc : frst p.gs p.gs.length [99, 111, 108, 111, 114] with
              | none =>
                have HC2 := hid (HC.out.trans (frst_no hc))
                have HQ := hid hc
                clear HC hc
                go_wp2_with (at_lookup; refine wpList_first_ok _ rfl _ _ rfl _ _ _ rfl HMW.out (⟨#[99, 111, 108, 111, 114]⟩ : ByteArray) (by decide) rfl none (by rw [colS]; exact HQ.out) ?_)
                refine bodyPost_ret (v := .tuple #[.int .i64 5, .int .i64 0]) (by simp [results, Tryz.results52, go_sem]) rfl ⟨⟨_, _, rfl, HC2.out.symm⟩, HX.out⟩
              | some t =>
                have HC2 := hid (HC.out.trans ((frst_lt hc).trans (decide_eq_true (frst_some hc).1)))
                have HQ := hid hc
                clear HC hc
                go_wp2_with (at_lookup; refine wpList_first_ok _ rfl _ _ rfl _ _ _ rfl HMW.out (⟨#[99, 111, 108, 111, 114]⟩ : ByteArray) (by decide) rfl (some t) (by rw [colS]; exact HQ.out) ?_)
                refine bodyPost_ret (v := .tuple #[.int .i64 0, .int .i64 0]) (by simp [results, Tryz.results52, go_sem]) rfl ⟨⟨_, _, rfl, HC2.out.symm⟩, HX.out⟩
set_option maxHeartbeats 1600000 in
theorem iIsOk_val {p : Prg} {b : Bool} (h : p.chkB = b) (lo hi : Nat) (v : Value) (w : World) (hv : p.R lo hi w v) (hh : hi ≤ w.heap.size) (hb : p.bd) (hgl : p.gs.length ≤ 1048576) :
    Calls Tryz.prog 24 #[v] w fun e w' => e = .returned (.bool b) ∧ Ext w w' := by
  have HV := hid hv
  obtain ⟨a1, c1, a2, c2, rfl, HN, HG⟩ := hv.form
  have x0 : Ext w (w.alloc (.cells #[.slice a1 p.ns.length c1, .slice a2 p.gs.length c2] 26)) := (by repeat (with_reducible (first | assumption | exact Ext.refl _ | apply Ext.alloc | apply Ext.drew | apply Ext.drewN)))
  have HH := hid h
  clear hv HN HG h
  go_enter Tryz.func24, Tryz.ntmps24
  go_wp2_with fail
  refine (iCheck_any lo hi _ p _ (HV.out.ext hh x0) (Nat.le_trans hh x0.size) hb hgl).mono ?_
  rintro e w1 ⟨⟨c, k, rfl, hc⟩, x1⟩
  rw [HH.out] at hc
  have X1 := x0.trans x1
  go_wp2
  go_ret
  exact ⟨rfl, X1⟩
end Go.Proofs.YtaegmenjgjdimaaGreat
end

section
/- This text proves the walk of the program's 'called' at a function that lies in its table. -/
namespace Go.Proofs.YtaegmenjgjdimaaGreat
open Go.RowKit

/-- column k of the rows S -/
def colOf (S : List (List Int)) (k : Nat) : List Int := S.map fun r => r.getD k 0
theorem colOf_len (S : List (List Int)) (k : Nat) : (colOf S k).length = S.length := by simp [colOf]
theorem colOf_take (S : List (List Int)) (k j : Nat) (h : j < S.length) : (colOf S k).take j ++ [S[j].getD k 0] = (colOf S k).take (j + 1) := by
  rw [List.take_succ_eq_append_getElem (by rw [colOf_len]; exact h)]
  simp [colOf]
/-- what is asked of a row: its length, its range -/
def good (m : Nat) (r : List Int) : Prop := r.length = m ∧ ∀ x ∈ r, S9 x
theorem colOf_S9 {m : Nat} {S : List (List Int)} (h : ∀ r ∈ S, good m r) {k : Nat} (hk : k < m) : ∀ x ∈ colOf S k, S9 x := by
  intro x hx
  obtain ⟨r, hr, rfl⟩ := List.mem_map.1 hx
  obtain ⟨h1, h2⟩ := h r hr
  have e : r.getD k 0 = r[k]'(by omega) := getD_at r k (by omega)
  exact e ▸ h2 _ (List.getElem_mem _)
/-- the function F of the table computes fv at arguments of number ar -/
def Fun (F : Nat) (t : Tex) (ar : Nat) (fv : List Int → Int) : Prop :=
  ∀ (lo hi lo' hi' : Nat) (u v : Value) (x : List Int) (w : World), x.length = ar → (∀ y ∈ x, S9 y) → Ints lo hi w u x → hi ≤ w.heap.size → TexR lo' hi' w v t → hi' ≤ w.heap.size →
    Calls Tryz.prog F #[v, u] w fun e w' => e = .returned (.int .i64 (fv x)) ∧ Ext w w'

/-- a fresh box of two cells that may be written -/
structure FBox (w : World) (B : Nat) (a b : Value) : Prop where
  lt : B < w.heap.size
  c0 : w.cell? ⟨B, 0, none⟩ = some a
  c1 : w.cell? ⟨B, 1, none⟩ = some b
  f0 : w.frozen? ⟨B, 0, none⟩ = false
  f1 : w.frozen? ⟨B, 1, none⟩ = false
theorem FBox.made (w : World) (a b : Value) (ty : TypeId) : FBox (w.alloc (.cells #[a, b] ty)) w.heap.size a b := ⟨by simp, by simp [go_sem], by simp [go_sem], by simp [go_sem], by simp [go_sem]⟩
theorem FBox.ext {w w' : World} {B : Nat} {a b : Value} (h : FBox w B a b) (e : Ext w w') : FBox w' B a b := by
  have := e.size
  have h0 := h.lt
  obtain ⟨p, q⟩ := e.cells
  exact ⟨by omega, (p B _ h0).trans h.c0, (p B _ h0).trans h.c1, (q B _ h0).trans h.f0, (q B _ h0).trans h.f1⟩
theorem FBox.set2 {w : World} {B : Nat} {a b : Value} (h : FBox w B a b) (x y : Value) : TBox ((w.setCell ⟨B, 0, none⟩ x).setCell ⟨B, 1, none⟩ y) B x y := by
  have h0 := h.lt
  have h1 := h.c0
  have h2 := h.c1
  refine ⟨by simpa using h0, by simp [go_sem, h1], by simp [go_sem, h2]⟩

set_option maxRecDepth 10000 in
set_option maxHeartbeats 6400000 in
theorem iCalled_gen (F : Nat) (fv : List Int → Int) (i0 : Nat) (s : ByteArray) (S : List (List Int)) (lo hi lo' hi' : Nat) (n m : Nat) (pu tu av : Value) (tm : Int) (t : Tex) (w : World)
    (hdu : (s.toList == [100, 117]) = false) (hdv : (s.toList == [100, 118]) = false) (hlook : Instr.findNow .string (.string s) fnEntries.toList 0 = some (some (i0, .func (.func F) #[] #[])))
    (hE : ∀ xs w', (callFunc F xs).run Tryz.prog w' = .ok (.enter F xs) w') (hF : Fun F t S.length fv) (hS : SS lo hi w av S) (hh : hi ≤ w.heap.size) (hT : TexR lo' hi' w (.agg #[.int .i64 t.log, tu]) t) (hh' : hi' ≤ w.heap.size) (hg : ∀ r ∈ S, good m r) (hm : (n : Int) * n = m) (hm2 : m ≤ 64) (hl : S.length ≤ 3) :
    Calls Tryz.prog 57 #[.string s, .agg #[.int .i64 n, pu, .int .i64 tm, .int .i64 t.log, tu], av] w fun e w' => ∃ r, e = .returned r ∧ OwnInts w.heap.size w' r ((List.range m).map fun k => satI (fv (colOf S k))) ∧ Ext w w' := by
  obtain ⟨a, cap, rfl, HS⟩ := hS.open
  have l1 := HS.le
  have l2 := HS.cap
  obtain ⟨ta, tc, rfl⟩ : ∃ ta tc, tu = .slice ta t.px.length tc := by
    obtain ⟨u, h1, _, h2⟩ := hT
    obtain ⟨ta, tc, h3, _⟩ := h2.open
    simp only [Value.agg.injEq, Array.mk.injEq, List.cons.injEq, true_and, and_true] at h1
    exact ⟨ta, tc, h1.trans h3⟩
  have HT := hid hT
  have HG := hid hg
  have HF := hid hF
  clear hS hT hg hF
  obtain ⟨j0, hj0, hz0, hz1, hz2⟩ := info_parts info_int
  go_enter Tryz.func57, Tryz.ntmps57
  have hsz : w.heap.size + 1 = (w.alloc (.cells #[.int .i64 n, pu, .int .i64 tm, .int .i64 t.log, .slice ta t.px.length tc] 33)).heap.size := by simp
  have hq0 : Ext w (w.alloc (.cells #[.int .i64 n, pu, .int .i64 tm, .int .i64 t.log, .slice ta t.px.length tc] 33)) := (by repeat (with_reducible (first | assumption | exact Ext.refl _ | apply Ext.alloc | apply Ext.drew | apply Ext.drewN)))
  have hc0 : (w.alloc (.cells #[.int .i64 n, pu, .int .i64 tm, .int .i64 t.log, .slice ta t.px.length tc] 33)).cell? ⟨w.heap.size, 0, none⟩ = some (.int .i64 n) := by simp [go_sem]
  have hc3 : (w.alloc (.cells #[.int .i64 n, pu, .int .i64 tm, .int .i64 t.log, .slice ta t.px.length tc] 33)).cell? ⟨w.heap.size, 3, none⟩ = some (.int .i64 t.log) := by simp [go_sem]
  have hc4 : (w.alloc (.cells #[.int .i64 n, pu, .int .i64 tm, .int .i64 t.log, .slice ta t.px.length tc] 33)).cell? ⟨w.heap.size, 4, none⟩ = some (.slice ta t.px.length tc) := by simp [go_sem]
  go_upto_region 6 with fail
  generalize (w.alloc (.cells #[.int .i64 n, pu, .int .i64 tm, .int .i64 t.log, .slice ta t.px.length tc] 33)) = W0 at hsz hq0 hc0 hc3 hc4 ⊢
  have hlt : w.heap.size < W0.heap.size := by omega
  go_cut [7, 8] from 31 to 36 (fun fn p wx => fn = .func (.func F) #[] #[] ∧ ∃ A, p = .pointer (some ⟨A, 0, none⟩) ∧ W0.heap.size ≤ A ∧ Ext W0 wx ∧ TBox wx A (.int .i64 t.log) (.slice ta t.px.length tc))
  case first =>
    refine wp_region_Z 8 W0.heap.size (by kernel_rfl) ?_
    refine wpZ_stage (fuel := 4) [1, 3, 4, 5] [0, 6] (by kernel_rfl) (fun b _ hb => rfl) ?_
    try simp only [Act.put, List.setIfInBounds_toArray, List.set_cons_succ, List.set_cons_zero]
    simp only [List.filterMap_cons, List.filterMap_nil, List.getElem?_toArray, List.getElem?_cons_zero, List.getElem?_cons_succ]
    show wpQuiet _ _ _ _ [_, _, _, _] _
    repeat (go_big_quiet_step (fail))
    refine wpQuiet_nil ?_
    intro e he
    simp only [List.mem_cons, List.not_mem_nil, or_false] at he
    rcases he with rfl | rfl
    · (unfold wpComes; simp only [List.getElem?_toArray, List.getElem?_cons_succ, List.getElem?_cons_zero, Option.some.injEq]; refine ⟨_, rfl, fun K hK => ?_⟩)
      go_wp2_with fail
      refine (pointwise_any _).mono ?_
      rintro e wa ⟨mb, rfl, mlo, mlt, mh, xa⟩
      have ua : Ext W0 wa := Ext.trans (by repeat (with_reducible (first | assumption | exact Ext.refl _ | apply Ext.alloc | apply Ext.drew | apply Ext.drewN))) xa
      go_wp2_with fail
      refine hK _ _ (.inr (fun b _ hb => ua.block (by omega))) ?_
      clear hK K
      refine wpZ_stage (fuel := 3) [] [2, 6] (by kernel_rfl) (fun b _ hb => ua.block (by omega)) ?_
      refine wpQuiet_nil ?_
      intro e he
      simp only [List.mem_cons, List.not_mem_nil, or_false] at he
      rcases he with rfl | rfl
      · (unfold wpComes; simp only [List.getElem?_toArray, List.getElem?_cons_succ, List.getElem?_cons_zero, Option.some.injEq]; refine ⟨_, rfl, fun K hK => ?_⟩)
        refine wpList_look _ rfl _ _ rfl mb _ _ _ rfl mh _ rfl _ hlook ?_
        go_wp2
        refine hK _ _ (.inr (fun b _ hb => ua.block (by omega))) ?_
        clear hK K
        refine wpZ_stage (fuel := 2) [] [6] (by kernel_rfl) (fun b _ hb => ua.block (by omega)) ?_
        refine wpQuiet_nil ?_
        intro e he
        simp only [List.mem_cons, List.not_mem_nil, or_false] at he
        subst he
        (unfold wpComes; simp only [List.getElem?_toArray, List.getElem?_cons_succ, List.getElem?_cons_zero, Option.some.injEq]; refine ⟨_, rfl, fun K hK => ?_⟩)
        go_wp2
        have ub := ua.alloc (.cells #[.int .i64 0, .slice none 0 0] 169)
        have bx := FBox.made wa (.int .i64 0) (.slice none 0 0) 169
        have hA := ua.size
        refine hK _ _ (.inr (fun b _ hb => ub.block (by omega))) ?_
        clear hK K
        refine wpZ_stage (fuel := 0) [7] [8] (by kernel_rfl) (fun b _ hb => ub.block (by omega)) ?_
        try simp only [Act.put, List.setIfInBounds_toArray, List.set_cons_succ, List.set_cons_zero]
        simp only [List.filterMap_cons, List.filterMap_nil, List.getElem?_toArray, List.getElem?_cons_zero, List.getElem?_cons_succ]
        show wpQuiet _ _ _ _ [_] _
        repeat (go_big_quiet_step (fail))
        refine wpQuiet_nil ?_
        intro e he
        simp only [List.mem_cons, List.not_mem_nil, or_false] at he
        subst he
        (unfold wpComes; simp only [List.getElem?_toArray, List.getElem?_cons_succ, List.getElem?_cons_zero, Option.some.injEq]; refine ⟨_, rfl, fun K hK => ?_⟩)
        have k0 := bx.lt
        have k1 := bx.c0
        have k2 := bx.c1
        have k3 := bx.f0
        have k4 := bx.f1
        go_wp2
        refine hK _ _ (.inl (by trivial)) ?_
        clear hK K
        refine wpZ_end (by kernel_rfl) ?_
        go_wp2_with fail
        go_meet
        exact ⟨rfl, wa.heap.size, rfl, by omega, (by have X := ub; exact (by repeat (first | with_reducible assumption | with_reducible exact Ext.refl _ | with_reducible apply Ext.alloc | with_reducible apply Ext.drew | with_reducible apply Ext.drewN | (with_reducible refine Ext.setCell ?_ (by simp; omega) _) | (with_reducible refine Ext.setCell ?_ (by simp) _)))), by first | exact TBox.made _ _ _ _ | exact bx.set2 _ _⟩
      · (unfold wpComes; simp only [List.getElem?_toArray, List.getElem?_cons_succ, List.getElem?_cons_zero, Option.some.injEq]; refine ⟨_, rfl, fun K hK => ?_⟩)
        go_wp2
        have ub := ua.alloc (.cells #[.int .i64 0, .slice none 0 0] 169)
        have bx := FBox.made wa (.int .i64 0) (.slice none 0 0) 169
        have hA := ua.size
        refine hK _ _ (.inr (fun b _ hb => ub.block (by omega))) ?_
        clear hK K
        refine wpZ_stage (fuel := 2) [] [2] (by kernel_rfl) (fun b _ hb => ub.block (by omega)) ?_
        refine wpQuiet_nil ?_
        intro e he
        simp only [List.mem_cons, List.not_mem_nil, or_false] at he
        subst he
        (unfold wpComes; simp only [List.getElem?_toArray, List.getElem?_cons_succ, List.getElem?_cons_zero, Option.some.injEq]; refine ⟨_, rfl, fun K hK => ?_⟩)
        refine wpList_look _ rfl _ _ rfl mb _ _ _ rfl ((Ext.block (w := wa) (by repeat (with_reducible (first | assumption | exact Ext.refl _ | apply Ext.alloc | apply Ext.drew | apply Ext.drewN))) mlt).trans mh) _ rfl _ hlook ?_
        go_wp2
        refine hK _ _ (.inr (fun b _ hb => ub.block (by omega))) ?_
        clear hK K
        refine wpZ_stage (fuel := 0) [7] [8] (by kernel_rfl) (fun b _ hb => ub.block (by omega)) ?_
        try simp only [Act.put, List.setIfInBounds_toArray, List.set_cons_succ, List.set_cons_zero]
        simp only [List.filterMap_cons, List.filterMap_nil, List.getElem?_toArray, List.getElem?_cons_zero, List.getElem?_cons_succ]
        show wpQuiet _ _ _ _ [_] _
        repeat (go_big_quiet_step (fail))
        refine wpQuiet_nil ?_
        intro e he
        simp only [List.mem_cons, List.not_mem_nil, or_false] at he
        subst he
        (unfold wpComes; simp only [List.getElem?_toArray, List.getElem?_cons_succ, List.getElem?_cons_zero, Option.some.injEq]; refine ⟨_, rfl, fun K hK => ?_⟩)
        have k0 := bx.lt
        have k1 := bx.c0
        have k2 := bx.c1
        have k3 := bx.f0
        have k4 := bx.f1
        go_wp2
        refine hK _ _ (.inl (by trivial)) ?_
        clear hK K
        refine wpZ_end (by kernel_rfl) ?_
        go_wp2_with fail
        go_meet
        exact ⟨rfl, wa.heap.size, rfl, by omega, (by have X := ub; exact (by repeat (first | with_reducible assumption | with_reducible exact Ext.refl _ | with_reducible apply Ext.alloc | with_reducible apply Ext.drew | with_reducible apply Ext.drewN | (with_reducible refine Ext.setCell ?_ (by simp; omega) _) | (with_reducible refine Ext.setCell ?_ (by simp) _)))), by first | exact TBox.made _ _ _ _ | exact bx.set2 _ _⟩
    · (unfold wpComes; simp only [List.getElem?_toArray, List.getElem?_cons_succ, List.getElem?_cons_zero, Option.some.injEq]; refine ⟨_, rfl, fun K hK => ?_⟩)
      go_wp2
      have ub : Ext W0 (W0.drew.alloc (.cells #[.int .i64 0, .slice none 0 0] 169)) := (by repeat (with_reducible (first | assumption | exact Ext.refl _ | apply Ext.alloc | apply Ext.drew | apply Ext.drewN)))
      have bx : FBox (W0.drew.alloc (.cells #[.int .i64 0, .slice none 0 0] 169)) W0.heap.size (.int .i64 0) (.slice none 0 0) := FBox.made W0.drew (.int .i64 0) (.slice none 0 0) 169
      refine hK _ _ (.inr (fun b _ hb => ub.block (by omega))) ?_
      clear hK K
      refine wpZ_stage (fuel := 3) [] [0] (by kernel_rfl) (fun b _ hb => ub.block (by omega)) ?_
      refine wpQuiet_nil ?_
      intro e he
      simp only [List.mem_cons, List.not_mem_nil, or_false] at he
      subst he
      (unfold wpComes; simp only [List.getElem?_toArray, List.getElem?_cons_succ, List.getElem?_cons_zero, Option.some.injEq]; refine ⟨_, rfl, fun K hK => ?_⟩)
      go_wp2_with fail
      refine (pointwise_any _).mono ?_
      rintro e wa ⟨mb, rfl, mlo, mlt, mh, xa⟩
      have ua := ub.trans xa
      have by2 := bx.ext xa
      go_wp2_with fail
      refine hK _ _ (.inr (fun b _ hb => ua.block (by omega))) ?_
      clear hK K
      refine wpZ_stage (fuel := 2) [] [2] (by kernel_rfl) (fun b _ hb => ua.block (by omega)) ?_
      refine wpQuiet_nil ?_
      intro e he
      simp only [List.mem_cons, List.not_mem_nil, or_false] at he
      subst he
      (unfold wpComes; simp only [List.getElem?_toArray, List.getElem?_cons_succ, List.getElem?_cons_zero, Option.some.injEq]; refine ⟨_, rfl, fun K hK => ?_⟩)
      refine wpList_look _ rfl _ _ rfl mb _ _ _ rfl mh _ rfl _ hlook ?_
      go_wp2
      refine hK _ _ (.inr (fun b _ hb => ua.block (by omega))) ?_
      clear hK K
      refine wpZ_stage (fuel := 0) [7] [8] (by kernel_rfl) (fun b _ hb => ua.block (by omega)) ?_
      try simp only [Act.put, List.setIfInBounds_toArray, List.set_cons_succ, List.set_cons_zero]
      simp only [List.filterMap_cons, List.filterMap_nil, List.getElem?_toArray, List.getElem?_cons_zero, List.getElem?_cons_succ]
      show wpQuiet _ _ _ _ [_] _
      repeat (go_big_quiet_step (fail))
      refine wpQuiet_nil ?_
      intro e he
      simp only [List.mem_cons, List.not_mem_nil, or_false] at he
      subst he
      (unfold wpComes; simp only [List.getElem?_toArray, List.getElem?_cons_succ, List.getElem?_cons_zero, Option.some.injEq]; refine ⟨_, rfl, fun K hK => ?_⟩)
      have k0 := by2.lt
      have k1 := by2.c0
      have k2 := by2.c1
      have k3 := by2.f0
      have k4 := by2.f1
      go_wp2
      refine hK _ _ (.inl (by trivial)) ?_
      clear hK K
      refine wpZ_end (by kernel_rfl) ?_
      go_wp2_with fail
      go_meet
      exact ⟨rfl, W0.heap.size, rfl, by omega, (by have X := ua; exact (by repeat (first | with_reducible assumption | with_reducible exact Ext.refl _ | with_reducible apply Ext.alloc | with_reducible apply Ext.drew | with_reducible apply Ext.drewN | (with_reducible refine Ext.setCell ?_ (by simp; omega) _) | (with_reducible refine Ext.setCell ?_ (by simp) _)))), by first | exact TBox.made _ _ _ _ | exact by2.set2 _ _⟩
  case rest =>
    obtain ⟨rfl, A, rfl, hA, xc, tb⟩ := hcut
    have X := hq0.trans xc
    have e0 := (xc.cells.1 _ _ hlt).trans hc0
    have hcs : w.heap.size < wc.heap.size := by have := xc.size; omega
    have hmi : (List.range m).length = m := by simp
    clear hc0 hc3 hc4 hq0 xc hlook
    go_wp2_with (at_make; refine wpList_make_row _ rfl _ _ 29 rfl 3 j0 (.int .i64 0) Tryz.underlying29 hj0 hz0 hz1 rfl .i64 .i64 m rfl rfl (by rw [hz2]; omega) (by omega) ?_)
    have hrow := hid (RowI.zero (f := fun k => satI (fv (colOf S k))) (show RowI _ _ _ m (fun _ => 0) from World.rowIs_made wc (.int .i64 0) m 3))
    have X1 := hid (X.alloc (.cells (madeCells #[.int .i64 0] m) 3))
    have tb1 := hid (tb.ext ((Ext.refl wc).alloc (.cells (madeCells #[.int .i64 0] m) 3)))
    have hB2 : w.heap.size ≤ wc.heap.size := by omega
    have hB3 : A ≠ wc.heap.size := by have := tb.lt; omega
    generalize hB : wc.heap.size = B at hrow hB2 hB3
    clear hj0 hz0 hz1 hz2 X tb e0
    go_wp2
    go_loopw [45] (fun i wr => ∃ k : Nat, k ≤ m ∧ i = .int .i64 k ∧ Ext w wr ∧ RowI wr B 3 m (fillI (fun k => satI (fv (colOf S k))) k) ∧ TBox wr A (.int .i64 t.log) (.slice ta t.px.length tc)) (fun i _ => m - (intOf i).toNat)
    case atStart => exact ⟨0, by omega, rfl, X1.out, hrow.out, tb1.out⟩
    case round =>
      clear hrow X1 tb1
      obtain ⟨k, hk, rfl, hx, hrow, tb⟩ := hrel
      by_cases hlt : k < m
      · have HX := hid hx
        have HR := hid hrow
        have HB := hid tb
        clear hx hrow tb
        rename World => W1
        go_wp2
        go_loopw [11, 51] (fun v i wq => ∃ j : Nat, j ≤ S.length ∧ i = .int .i64 j ∧ OwnInts W1.heap.size wq v ((colOf S k).take j) ∧ Ext W1 wq) (fun _ i _ => S.length - (intOf i).toNat)
        case atStart => exact ⟨0, by omega, rfl, OwnInts.lit0 W1, (by repeat (with_reducible (first | assumption | exact Ext.refl _ | apply Ext.alloc | apply Ext.drew | apply Ext.drewN)))⟩
        case round =>
          obtain ⟨j, hj, rfl, hown, hy⟩ := hrel
          obtain ⟨av, cv, rfl, hcv⟩ := hown.form
          have hlen : ((colOf S k).take j).length = j := by rw [List.length_take, colOf_len]; omega
          rw [hlen] at hown ⊢
          by_cases hlj : j < S.length
          · obtain ⟨b, off, u, rfl, hb1, hb2, c0, hu⟩ := HS.at hlj (HX.out.trans hy) hh
            obtain ⟨g1, g2⟩ := HG.out _ (List.getElem_mem hlj)
            obtain ⟨ua, uc, rfl, HU⟩ := hu.open
            have lu := HU.le
            have lc := HU.cap
            obtain ⟨b3, off3, rfl, hb3, hb4, c3⟩ := HU.at (k := k) (by omega)
            have hz4 := HX.out.size
            have hz5 := hy.size
            have hb5 : b3 < wr.heap.size := by omega
            have hgd := getD_at S[j] k (by omega)
            have hsn := colOf_take S k j hlj
            rw [hgd] at hsn
            have i9 := (g2 _ (List.getElem_mem (show k < S[j].length by omega))).i64
            obtain ⟨x, hxk⟩ : ∃ x, S[j][k]'(by omega) = x := ⟨_, rfl⟩
            rw [hxk] at c3 hsn i9
            rw [g1] at lu c0
            have HO := hid hown
            have HY := hid hy
            have HSN := hid hsn
            have HL := hid hlen
            have HI := hid i9
            clear hown hy hsn hlen hxk hgd hu HU i9 hz4 hz5 g1 g2
            go_wp2_with (at_builtin; refine wpList_append1 _ rfl _ _ rfl W1.heap.size _ _ rfl (HO.out.alloc _) x HI.out wr.heap.size rfl (by simp [go_sem]) (by rw [HL.out]; omega) (by have := HY.out.size; simp; omega) ?_; intro v' w7 hown hg)
            rw [HSN.out] at hown
            go_wp2
            go_roundw
            case rel => exact ⟨j + 1, by omega, by go_num, hown, Ext.grown (HY.out.alloc _) hg (fun g e => (HO.out.lt g e).1)⟩
            case measure => simp [intOf]; omega
          · obtain rfl : j = S.length := by omega
            rw [List.take_of_length_le (by rw [colOf_len]; omega)] at hown
            have tb := HB.out.ext hy
            have q0 := tb.lt
            have q1 := tb.c0
            have q2 := tb.c1
            have xq := HX.out.trans hy
            have hs9 := colOf_S9 HG.out hlt
            have HC := hid (HF.out _ _ _ _ _ _ _ wr (colOf_len S k) hs9 hown.ints (Nat.le_refl _) (HT.out.ext hh' xq) (by have := xq.size; omega))
            have HX2 := hid xq
            have HR2 := hid (HR.out.ext hy)
            have HTB := hid tb
            clear hown hy tb xq hs9
            go_wp2_with fail
            refine HC.out.mono ?_
            rintro e w7 ⟨rfl, x7⟩
            have R7 := HR2.out.ext x7
            have r0 := R7.cell hlt
            have r1 := R7.frozen k
            have r2 := R7.lt
            have HR7 := hid R7
            obtain ⟨y, hy⟩ : ∃ y, satI (fv (colOf S k)) = y := ⟨_, rfl⟩
            have HY2 := hid hy
            have HX7 := hid (HX2.out.trans x7)
            have HTB7 := hid (HTB.out.ext x7)
            clear R7 hy x7 q0 q1 q2
            go_wp2_with fail
            refine (iSaturate_val HY2.out _).mono ?_
            rintro e w8 ⟨rfl, rfl⟩
            go_wp2
            go_roundw
            case rel => exact ⟨k + 1, by omega, by go_num, HX7.out.setCell hB2 _, HR7.out.step rfl HY2.out.symm, HTB7.out.at (by simp) (Below.heap_setCell _ _ _ _ hB3)⟩
            case measure => simp [intOf]; omega
      · obtain rfl : k = m := by omega
        go_wp2
        go_ret
        exact ⟨_, rfl, hrow.full.ownInts hB2 (by unfold maxLen; omega) (fun i _ => (satI_S9 _).i64), hx⟩
end Go.Proofs.YtaegmenjgjdimaaGreat
end

section
/- This text proves the program's 'called': the rows of every function of the language. -/
namespace Go.Proofs.YtaegmenjgjdimaaGreat
open Go.RowKit

/-- the value of a function of the language other than a derivative -/
def fnV (t : Tex) (s : List UInt8) (x : List Int) : Int :=
  if s == [97, 98, 115] then absI (x.getD 0 0) else if s == [102, 108, 111, 111, 114] then floorI (x.getD 0 0) else if s == [109, 105, 110] then minI (x.getD 0 0) (x.getD 1 0) else if s == [109, 97, 120] then maxI (x.getD 0 0) (x.getD 1 0) else if s == [115, 116, 101, 112] then stepI (x.getD 0 0) (x.getD 1 0) else if s == [110, 111, 105, 115, 101] then hash257 [x.getD 0 0, x.getD 1 0] else if s == [99, 108, 97, 109, 112] then clampI (x.getD 0 0) (x.getD 1 0) (x.getD 2 0) else if s == [109, 105, 120] then blendI (x.getD 0 0) (x.getD 1 0) (x.getD 2 0) else if s == [116, 101, 120] then t.look (x.getD 0 0) (x.getD 1 0) else 0
/-- the row of a call -/
def callRow (n m : Nat) (t : Tex) (s : List UInt8) (S : List (List Int)) : List Int :=
  if s == [100, 117] then diffs (S.getD 0 []) n false else if s == [100, 118] then diffs (S.getD 0 []) n true else (List.range m).map fun k => satI (fnV t s (colOf S k))
theorem one_of {x : List Int} (h : x.length = 1) : ∃ a, x = [a] := by
  match x, h with
  | [a], _ => exact ⟨a, rfl⟩
theorem two_of {x : List Int} (h : x.length = 2) : ∃ a b, x = [a, b] := by
  match x, h with
  | [a, b], _ => exact ⟨a, b, rfl⟩
theorem three_of {x : List Int} (h : x.length = 3) : ∃ a b c, x = [a, b, c] := by
  match x, h with
  | [a, b, c], _ => exact ⟨a, b, c, rfl⟩
theorem enters {f : FuncId} {fn : Func} (hf : Tryz.prog.funcs[f]? = some fn) (hname : (fn.name == "runtime.NumGoroutine") = false) (hb : fn.body.isSome = true) (args : Array Value) (w : World) : (callFunc f args).run Tryz.prog w = .ok (.enter f args) w := by
  cases h : fn.body with
  | none => rw [h] at hb; cases hb
  | some c =>
    have h1 : fn.name ≠ "runtime.NumGoroutine" := by simpa using hname
    simp [callFunc, hf, h1, h]

theorem Fun_abs (t : Tex) (_ht : t.okB = true) : Fun 120 t 1 (fnV t [97, 98, 115]) := by
  intro lo hi lo' hi' u v x w hl hs hu hh hv hh'
  obtain ⟨a, rfl⟩ := one_of hl
  obtain ⟨cu, rfl, c1, c2⟩ := hv
  exact callee_abs lo hi u _ _ w hu hh (hs a (by simp)) rfl
theorem look_abs : Instr.findNow .string (.string ⟨#[97, 98, 115]⟩) fnEntries.toList 0 = some (some (0, .func (.func 120) #[] #[])) := by rfl
theorem Fun_floor (t : Tex) (_ht : t.okB = true) : Fun 121 t 1 (fnV t [102, 108, 111, 111, 114]) := by
  intro lo hi lo' hi' u v x w hl hs hu hh hv hh'
  obtain ⟨a, rfl⟩ := one_of hl
  obtain ⟨cu, rfl, c1, c2⟩ := hv
  exact callee_floor lo hi u _ _ w hu hh (hs a (by simp)) rfl
theorem look_floor : Instr.findNow .string (.string ⟨#[102, 108, 111, 111, 114]⟩) fnEntries.toList 0 = some (some (1, .func (.func 121) #[] #[])) := by rfl
theorem Fun_min (t : Tex) (_ht : t.okB = true) : Fun 122 t 2 (fnV t [109, 105, 110]) := by
  intro lo hi lo' hi' u v x w hl hs hu hh hv hh'
  obtain ⟨a, b, rfl⟩ := two_of hl
  obtain ⟨cu, rfl, c1, c2⟩ := hv
  exact callee_min lo hi u _ _ w hu hh  rfl
theorem look_min : Instr.findNow .string (.string ⟨#[109, 105, 110]⟩) fnEntries.toList 0 = some (some (2, .func (.func 122) #[] #[])) := by rfl
theorem Fun_max (t : Tex) (_ht : t.okB = true) : Fun 123 t 2 (fnV t [109, 97, 120]) := by
  intro lo hi lo' hi' u v x w hl hs hu hh hv hh'
  obtain ⟨a, b, rfl⟩ := two_of hl
  obtain ⟨cu, rfl, c1, c2⟩ := hv
  exact callee_max lo hi u _ _ w hu hh  rfl
theorem look_max : Instr.findNow .string (.string ⟨#[109, 97, 120]⟩) fnEntries.toList 0 = some (some (3, .func (.func 123) #[] #[])) := by rfl
theorem Fun_step (t : Tex) (_ht : t.okB = true) : Fun 124 t 2 (fnV t [115, 116, 101, 112]) := by
  intro lo hi lo' hi' u v x w hl hs hu hh hv hh'
  obtain ⟨a, b, rfl⟩ := two_of hl
  obtain ⟨cu, rfl, c1, c2⟩ := hv
  exact callee_step lo hi u _ _ w hu hh (hs a (by simp)) (hs b (by simp)) rfl
theorem look_step : Instr.findNow .string (.string ⟨#[115, 116, 101, 112]⟩) fnEntries.toList 0 = some (some (4, .func (.func 124) #[] #[])) := by rfl
theorem Fun_noise (t : Tex) (_ht : t.okB = true) : Fun 125 t 2 (fnV t [110, 111, 105, 115, 101]) := by
  intro lo hi lo' hi' u v x w hl hs hu hh hv hh'
  obtain ⟨a, b, rfl⟩ := two_of hl
  obtain ⟨cu, rfl, c1, c2⟩ := hv
  exact callee_noise lo hi u _ _ [a, b] w hu hh rfl
theorem look_noise : Instr.findNow .string (.string ⟨#[110, 111, 105, 115, 101]⟩) fnEntries.toList 0 = some (some (5, .func (.func 125) #[] #[])) := by rfl
theorem Fun_clamp (t : Tex) (_ht : t.okB = true) : Fun 126 t 3 (fnV t [99, 108, 97, 109, 112]) := by
  intro lo hi lo' hi' u v x w hl hs hu hh hv hh'
  obtain ⟨a, b, c, rfl⟩ := three_of hl
  obtain ⟨cu, rfl, c1, c2⟩ := hv
  exact callee_clamp lo hi u _ _ w hu hh  rfl
theorem look_clamp : Instr.findNow .string (.string ⟨#[99, 108, 97, 109, 112]⟩) fnEntries.toList 0 = some (some (6, .func (.func 126) #[] #[])) := by rfl
theorem Fun_mix (t : Tex) (_ht : t.okB = true) : Fun 127 t 3 (fnV t [109, 105, 120]) := by
  intro lo hi lo' hi' u v x w hl hs hu hh hv hh'
  obtain ⟨a, b, c, rfl⟩ := three_of hl
  obtain ⟨cu, rfl, c1, c2⟩ := hv
  exact callee_mix lo hi u _ _ w hu hh (hs a (by simp)) (hs b (by simp)) (hs c (by simp)) rfl
theorem look_mix : Instr.findNow .string (.string ⟨#[109, 105, 120]⟩) fnEntries.toList 0 = some (some (7, .func (.func 127) #[] #[])) := by rfl
theorem Fun_tex (t : Tex) (_ht : t.okB = true) : Fun 128 t 2 (fnV t [116, 101, 120]) := by
  intro lo hi lo' hi' u v x w hl hs hu hh hv hh'
  obtain ⟨a, b, rfl⟩ := two_of hl
  obtain ⟨cu, rfl, c1, c2⟩ := hv
  have hv : TexR lo' hi' w (.agg #[.int .i64 t.log, cu]) t := ⟨cu, rfl, c1, c2⟩
  exact callee_tex lo hi lo' hi' u _ t w hu hh hv hh' (Tex.okB_iff.1 _ht) rfl
theorem look_tex : Instr.findNow .string (.string ⟨#[116, 101, 120]⟩) fnEntries.toList 0 = some (some (8, .func (.func 128) #[] #[])) := by rfl

set_option maxHeartbeats 1600000 in
theorem iCalled_d (rows : Bool) (xs : List Int) (lo hi : Nat) (n m : Nat) (pu tu av : Value) (tm g3 : Int) (w : World) (s : ByteArray) (S : List (List Int)) (hs : s.toList = if rows then [100, 118] else [100, 117]) (hxs : S[0]? = some xs)
    (hS : SS lo hi w av S) (hh : hi ≤ w.heap.size) (hg : good m xs) (hm : n * n = m) (h1 : 1 ≤ n) (h8 : n ≤ 8) :
    Calls Tryz.prog 57 #[.string s, .agg #[.int .i64 n, pu, .int .i64 tm, .int .i64 g3, tu], av] w fun e w' => ∃ r, e = .returned r ∧ OwnInts w.heap.size w' r (diffs xs n rows) ∧ Ext w w' := by
  obtain ⟨a, cap, rfl, HS⟩ := hS.open
  have l1 := HS.le
  have l2 := HS.cap
  have hl0 := (List.getElem?_eq_some_iff.1 hxs).1
  have hx0 := (List.getElem?_eq_some_iff.1 hxs).2
  obtain ⟨b, off, u, rfl, hb1, hb2, c0, hu⟩ := HS.at hl0 (Ext.refl w) hh
  rw [hx0] at hu
  simp only [Nat.add_zero] at c0
  have hbn : b ≠ w.heap.size := by omega
  have HU := hid hu
  clear hu hxs hx0
  cases rows
  · have e := conc (l := [100, 117]) hs
    subst e
    clear hs
    go_enter Tryz.func57, Tryz.ntmps57
    go_wp2_with fail
    refine wp_region_stages [([0, 1, 2, 3, 4], 5), ([], 6)] 99 (w.heap.size + 1) (by kernel_rfl) (by kernel_rfl) ?_
    refine wpStages_cons ?_
    simp only [List.filterMap_cons, List.filterMap_nil, List.getElem?_toArray, List.getElem?_cons_zero, List.getElem?_cons_succ]
    show wpQuiet _ _ _ _ [_, _, _, _, _] _
    repeat (go_big_quiet_step (fail))
    refine wpQuiet_nil ⟨_, rfl, fun K hK => ?_⟩
    go_wp2_with fail
    refine (iDiffCols_any lo hi u xs n _ (HU.out.ext hh (by repeat (with_reducible (first | assumption | exact Ext.refl _ | apply Ext.alloc | apply Ext.drew | apply Ext.drewN)))) (by simp; omega) (hg.1.trans hm.symm) h1 h8 hg.2).mono ?_
    rintro e w1 ⟨r, rfl, hr, x1⟩
    obtain ⟨ra, rc, rfl, _⟩ := hr.form
    have X1 : Ext w w1 := Ext.trans (by repeat (with_reducible (first | assumption | exact Ext.refl _ | apply Ext.alloc | apply Ext.drew | apply Ext.drewN))) x1
    go_wp2_with fail
    refine hK _ _ (.inr (fun k _ hk => x1.block (by first | omega | (simp; omega)))) ?_
    clear hK K
    refine wpStages_cons ?_
    simp only [List.filterMap_nil]
    show wpQuiet _ _ _ _ [] _
    try simp only [Act.put, List.setIfInBounds_toArray, List.set_cons_succ, List.set_cons_zero]
    repeat (go_big_quiet_step (fail))
    refine wpQuiet_nil ⟨_, rfl, fun K hK => ?_⟩
    go_wp2_with fail
    go_wp2_with fail
    refine hK _ _ (.inr (fun k _ hk => x1.block (by first | omega | (simp; omega)))) ?_
    clear hK K
    refine wpStages_nil ?_
    go_wp2
    go_ret
    exact ⟨_, rfl, hr.low (by simp), X1⟩
  · have e := conc (l := [100, 118]) hs
    subst e
    clear hs
    go_enter Tryz.func57, Tryz.ntmps57
    go_wp2_with fail
    refine wp_region_stages [([0, 1, 2, 3, 4], 5), ([], 6)] 99 (w.heap.size + 1) (by kernel_rfl) (by kernel_rfl) ?_
    refine wpStages_cons ?_
    simp only [List.filterMap_cons, List.filterMap_nil, List.getElem?_toArray, List.getElem?_cons_zero, List.getElem?_cons_succ]
    show wpQuiet _ _ _ _ [_, _, _, _, _] _
    repeat (go_big_quiet_step (fail))
    refine wpQuiet_nil ⟨_, rfl, fun K hK => ?_⟩
    go_wp2_with fail
    refine (iDiffRows_any lo hi u xs n _ (HU.out.ext hh (by repeat (with_reducible (first | assumption | exact Ext.refl _ | apply Ext.alloc | apply Ext.drew | apply Ext.drewN)))) (by simp; omega) (hg.1.trans hm.symm) h1 h8 hg.2).mono ?_
    rintro e w1 ⟨r, rfl, hr, x1⟩
    obtain ⟨ra, rc, rfl, _⟩ := hr.form
    have X1 : Ext w w1 := Ext.trans (by repeat (with_reducible (first | assumption | exact Ext.refl _ | apply Ext.alloc | apply Ext.drew | apply Ext.drewN))) x1
    go_wp2_with fail
    refine hK _ _ (.inr (fun k _ hk => x1.block (by first | omega | (simp; omega)))) ?_
    clear hK K
    refine wpStages_cons ?_
    simp only [List.filterMap_nil]
    show wpQuiet _ _ _ _ [] _
    try simp only [Act.put, List.setIfInBounds_toArray, List.set_cons_succ, List.set_cons_zero]
    repeat (go_big_quiet_step (fail))
    refine wpQuiet_nil ⟨_, rfl, fun K hK => ?_⟩
    go_wp2_with fail
    go_wp2_with fail
    refine hK _ _ (.inr (fun k _ hk => x1.block (by first | omega | (simp; omega)))) ?_
    clear hK K
    refine wpStages_nil ?_
    go_wp2
    go_ret
    exact ⟨_, rfl, hr.low (by simp), X1⟩

theorem iCalled_any (s : ByteArray) (S : List (List Int)) (lo hi lo' hi' : Nat) (n m : Nat) (pu tu av : Value) (tm : Int) (t : Tex) (w : World) (hs : 0 ≤ arity s) (hl : (S.length : Int) = arity s) (ht : t.okB = true)
    (hS : SS lo hi w av S) (hh : hi ≤ w.heap.size) (hT : TexR lo' hi' w (.agg #[.int .i64 t.log, tu]) t) (hh' : hi' ≤ w.heap.size) (hg : ∀ r ∈ S, good m r) (hm : n * n = m) (h1 : 1 ≤ n) (h8 : n ≤ 8) :
    Calls Tryz.prog 57 #[.string s, .agg #[.int .i64 n, pu, .int .i64 tm, .int .i64 t.log, tu], av] w fun e w' => ∃ r, e = .returned r ∧ OwnInts w.heap.size w' r (callRow n m t s.toList S) ∧ Ext w w' := by
  have hmi : (n : Int) * n = m := by rw [← hm]; simp
  have hm2 : m ≤ 64 := by
    have : n * n ≤ 8 * 8 := Nat.mul_le_mul h8 h8
    omega
  have key : ∀ (l : List UInt8) (F i0 ar : Nat), s.toList = l → (l == [100, 117]) = false → (l == [100, 118]) = false → (arityL l = ar) → ar ≤ 3 → Instr.findNow .string (.string ⟨l.toArray⟩) fnEntries.toList 0 = some (some (i0, .func (.func F) #[] #[])) →
      (∀ xs w', (callFunc F xs).run Tryz.prog w' = .ok (.enter F xs) w') → Fun F t ar (fnV t l) → Calls Tryz.prog 57 #[.string s, .agg #[.int .i64 n, pu, .int .i64 tm, .int .i64 t.log, tu], av] w fun e w' => ∃ r, e = .returned r ∧ OwnInts w.heap.size w' r (callRow n m t s.toList S) ∧ Ext w w' := by
    intro l F i0 ar hsl h1' h2' har ha3 hlk hE hF
    have hlen : S.length = ar := by
      unfold arity at hl
      rw [hsl, har] at hl
      omega
    subst hlen
    rw [hsl]
    unfold callRow
    rw [h1', h2']
    have e := conc hsl
    subst e
    exact iCalled_gen F (fnV t l) i0 _ S lo hi lo' hi' n m pu tu av tm t w (by rw [hsl]; exact h1') (by rw [hsl]; exact h2') hlk hE hF hS hh hT hh' hg hmi hm2 ha3
  have hd : ∀ rows : Bool, s.toList = (if rows then [100, 118] else [100, 117]) → Calls Tryz.prog 57 #[.string s, .agg #[.int .i64 n, pu, .int .i64 tm, .int .i64 t.log, tu], av] w fun e w' => ∃ r, e = .returned r ∧ OwnInts w.heap.size w' r (callRow n m t s.toList S) ∧ Ext w w' := by
    intro rows hsl
    have hl1 : S.length = 1 := by
      unfold arity at hl
      rw [hsl] at hl
      cases rows <;> (have : (S.length : Int) = 1 := hl; omega)
    obtain ⟨xs, rfl⟩ : ∃ xs, S = [xs] := by
      match S, hl1 with
      | [a], _ => exact ⟨a, rfl⟩
    have := iCalled_d rows xs lo hi n m pu tu av tm t.log w s [xs] hsl rfl hS hh (hg xs (by simp)) hm h1 h8
    rw [hsl]
    cases rows <;> exact this
  unfold arity arityL at hs
  by_cases c_abs : (s.toList == [97, 98, 115]) = true
  · exact key [97, 98, 115] _ _ 1 (eq_of_beq c_abs) rfl rfl rfl (by decide) look_abs (enters Tryz.func120 (by kernel_rfl) (by kernel_rfl)) (Fun_abs t ht)
  by_cases c_floor : (s.toList == [102, 108, 111, 111, 114]) = true
  · exact key [102, 108, 111, 111, 114] _ _ 1 (eq_of_beq c_floor) rfl rfl rfl (by decide) look_floor (enters Tryz.func121 (by kernel_rfl) (by kernel_rfl)) (Fun_floor t ht)
  by_cases c_du : (s.toList == [100, 117]) = true
  · exact hd false (eq_of_beq c_du)
  by_cases c_dv : (s.toList == [100, 118]) = true
  · exact hd true (eq_of_beq c_dv)
  by_cases c_min : (s.toList == [109, 105, 110]) = true
  · exact key [109, 105, 110] _ _ 2 (eq_of_beq c_min) rfl rfl rfl (by decide) look_min (enters Tryz.func122 (by kernel_rfl) (by kernel_rfl)) (Fun_min t ht)
  by_cases c_max : (s.toList == [109, 97, 120]) = true
  · exact key [109, 97, 120] _ _ 2 (eq_of_beq c_max) rfl rfl rfl (by decide) look_max (enters Tryz.func123 (by kernel_rfl) (by kernel_rfl)) (Fun_max t ht)
  by_cases c_step : (s.toList == [115, 116, 101, 112]) = true
  · exact key [115, 116, 101, 112] _ _ 2 (eq_of_beq c_step) rfl rfl rfl (by decide) look_step (enters Tryz.func124 (by kernel_rfl) (by kernel_rfl)) (Fun_step t ht)
  by_cases c_noise : (s.toList == [110, 111, 105, 115, 101]) = true
  · exact key [110, 111, 105, 115, 101] _ _ 2 (eq_of_beq c_noise) rfl rfl rfl (by decide) look_noise (enters Tryz.func125 (by kernel_rfl) (by kernel_rfl)) (Fun_noise t ht)
  by_cases c_tex : (s.toList == [116, 101, 120]) = true
  · exact key [116, 101, 120] _ _ 2 (eq_of_beq c_tex) rfl rfl rfl (by decide) look_tex (enters Tryz.func128 (by kernel_rfl) (by kernel_rfl)) (Fun_tex t ht)
  by_cases c_clamp : (s.toList == [99, 108, 97, 109, 112]) = true
  · exact key [99, 108, 97, 109, 112] _ _ 3 (eq_of_beq c_clamp) rfl rfl rfl (by decide) look_clamp (enters Tryz.func126 (by kernel_rfl) (by kernel_rfl)) (Fun_clamp t ht)
  by_cases c_mix : (s.toList == [109, 105, 120]) = true
  · exact key [109, 105, 120] _ _ 3 (eq_of_beq c_mix) rfl rfl rfl (by decide) look_mix (enters Tryz.func127 (by kernel_rfl) (by kernel_rfl)) (Fun_mix t ht)
  simp only [Bool.not_eq_true] at c_abs c_floor c_du c_dv c_min c_max c_step c_noise c_tex c_clamp c_mix
  simp [c_abs, c_floor, c_du, c_dv, c_min, c_max, c_step, c_noise, c_tex, c_clamp, c_mix] at hs
end Go.Proofs.YtaegmenjgjdimaaGreat
end

section
/- This text proves the program's rows of a predefined variable. -/
namespace Go.Proofs.YtaegmenjgjdimaaGreat
open Go.RowKit

set_option maxRecDepth 10000 in
set_option maxHeartbeats 6400000 in
theorem iLoaded_any (s : ByteArray) (lo hi : Nat) (n m : Nat) (pu tu : Value) (f : Nat → Int) (tm g3 : Int) (w : World) (hp : Flats 5 lo hi w pu m f) (hh : hi ≤ w.heap.size) (hm : (n : Int) * n = m) (hm2 : m ≤ 64) (htm : I64 tm) :
    Calls Tryz.prog 56 #[.string s, .agg #[.int .i64 n, pu, .int .i64 tm, .int .i64 g3, tu]] w fun e w' => ∃ r, e = .returned r ∧ OwnInts w.heap.size w' r ((List.range m).map (varL s.toList f tm)) ∧ Ext w w' := by
  obtain ⟨a, cap, rfl, HP⟩ := hp.open
  have l1 := HP.le
  have l2 := HP.cap
  clear hp
  obtain ⟨j0, hj0, hz0, hz1, hz2⟩ := info_parts info_int
  go_enter Tryz.func56, Tryz.ntmps56
  go_wp2_with (at_make; refine wpList_make_row _ rfl _ _ 29 rfl 3 j0 (.int .i64 0) Tryz.underlying29 hj0 hz0 hz1 rfl .i64 .i64 m rfl rfl (by rw [hz2]; omega) (by omega) ?_)
  have hrow := hid (RowI.zero (f := varL s.toList f tm) (show RowI _ _ _ m (fun _ => 0) from World.rowIs_made (w.alloc (.cells #[.int .i64 n, .slice a m cap, .int .i64 tm, .int .i64 g3, tu] 33)) (.int .i64 0) m 3))
  have X0 := hid (show Ext w ((w.alloc (.cells #[.int .i64 n, .slice a m cap, .int .i64 tm, .int .i64 g3, tu] 33)).alloc (.cells (madeCells #[.int .i64 0] m) 3)) from (by repeat (with_reducible (first | assumption | exact Ext.refl _ | apply Ext.alloc | apply Ext.drew | apply Ext.drewN))))
  have c2 : ((w.alloc (.cells #[.int .i64 n, .slice a m cap, .int .i64 tm, .int .i64 g3, tu] 33)).alloc (.cells (madeCells #[.int .i64 0] m) 3)).cell? ⟨w.heap.size, 2, none⟩ = some (.int .i64 tm) := by simp [go_sem]
  have C2 := hid c2
  clear hj0 hz0 hz1 hz2 c2
  simp only [World.size_alloc] at hrow
  generalize hB : w.heap.size + 1 = B at hrow
  have hB2 : w.heap.size ≤ B := by omega
  have hB3 : w.heap.size ≠ B := by omega
  go_wp2
  go_loopw [17] (fun i wr => ∃ k : Nat, k ≤ m ∧ i = .int .i64 k ∧ Ext w wr ∧ RowI wr B 3 m (fillI (varL s.toList f tm) k) ∧ wr.cell? ⟨w.heap.size, 2, none⟩ = some (.int .i64 tm)) (fun i _ => m - (intOf i).toNat)
  case atStart => exact ⟨0, by omega, rfl, X0.out, hrow.out, C2.out⟩
  case round =>
    clear X0 hrow C2
    obtain ⟨k, hk, rfl, hx, hrow, q2⟩ := hrel
    have Q2 := hid q2
    by_cases hlt : k < m
    · obtain ⟨b, off, rfl, hb1, hb2, hc⟩ := HP.at hlt (by decide)
      have zs := hx.size
      have hlt2 := hrow.lt
      have c0 := (hx.cells.1 b _ (by omega)).trans (hc 0 (by decide))
      have c1 := (hx.cells.1 b _ (by omega)).trans (hc 1 (by decide))
      have c2 := (hx.cells.1 b _ (by omega)).trans (hc 2 (by decide))
      have c3 := (hx.cells.1 b _ (by omega)).trans (hc 3 (by decide))
      have c4 := (hx.cells.1 b _ (by omega)).trans (hc 4 (by decide))
      simp only [Nat.add_zero] at c0
      have hbw : b < wr.heap.size := by omega
      have hbB : w.heap.size < wr.heap.size := by omega
      have r0 := hrow.cell hlt
      have r1 := hrow.frozen k
      have HX := hid hx
      have HR := hid hrow
      clear hc hx hrow
      go_wp2
      all_goals
        go_roundw
        case rel =>
          refine ⟨k + 1, by omega, by go_num, (Ext.setCell HX.out hB2 _).alloc _, RowI.alloc (RowI.step HR.out rfl ?_) _, ?_⟩
          · simp only [varL]
            simp [*]
          · have := Q2.out
            simp [go_sem, hB3, hbB, this]
        case measure => simp [intOf]; omega
    · obtain rfl : k = m := by omega
      have h9 : ∀ i, i < k → I64 (varL s.toList f tm i) := fun i hi => by
        unfold varL
        split
        · exact HP.i64 (j := 0) hi (by decide)
        split
        · exact HP.i64 (j := 1) hi (by decide)
        split
        · exact HP.i64 (j := 2) hi (by decide)
        split
        · exact HP.i64 (j := 3) hi (by decide)
        split
        · exact HP.i64 (j := 4) hi (by decide)
        · exact htm
      go_wp2
      go_ret
      exact ⟨_, rfl, hrow.full.ownInts hB2 (by unfold maxLen; omega) h9, hx⟩
end Go.Proofs.YtaegmenjgjdimaaGreat
end

section
/- This text proves the reference's functions and operations of the language by their names, at values; and that rows stay in range. -/
namespace Go.Proofs.YtaegmenjgjdimaaGreat
open Go.RowKit

/-- an operation at a column -/
def opW (num : Int) (x : List Int) : Int := opI num (x.getD 0 0) (x.getD (if num = 3 then 0 else 1) 0)
theorem op_rowE {m : Nat} {num : Int} {S : List (List Int)} {a b : List Int} (ha : S[0]? = some a) (hb : S[if num = 3 then 0 else 1]? = some b) (h1 : a.length = m) (h2 : b.length = m) : ((List.range m).map fun k => satI (opW num (colOf S k))) = List.zipWith (arithI num) a b := by
  apply List.ext_getElem?
  intro i
  by_cases hi : i < m
  · have e1 : (colOf S i).getD 0 0 = a[i]'(by omega) := by
      unfold colOf
      rw [List.getD, List.getElem?_map, ha]
      exact getD_at a i (by omega)
    have e2 : (colOf S i).getD (if num = 3 then 0 else 1) 0 = b[i]'(by omega) := by
      unfold colOf
      rw [List.getD, List.getElem?_map, hb]
      exact getD_at b i (by omega)
    rw [List.getElem?_map, List.getElem?_range hi, List.getElem?_eq_getElem (by simp; omega), List.getElem_zipWith]
    simp only [Option.map_some, Option.some.injEq]
    unfold opW arithI
    rw [e1, e2]
  · rw [List.getElem?_eq_none (by simp; omega), List.getElem?_eq_none (by simp; omega)]
theorem zip_goodE {m : Nat} {op : Int} {a b : List Int} (ha : a.length = m) (hb : b.length = m) : good m (List.zipWith (arithI op) a b) := by
  refine ⟨by simp; omega, fun x hx => ?_⟩
  obtain ⟨i, hi, rfl⟩ := List.getElem_of_mem hx
  simp
  exact satI_S9 _
theorem varL_S9E {f : Nat → Int} {tm : Int} {m q : Nat} (l : List UInt8) (hf : ∀ i, i < m * 5 → S9 (f i)) (ht : S9 tm) (hq : q < m) : S9 (varL l f tm q) := by
  unfold varL
  split
  · exact hf _ (by omega)
  split
  · exact hf _ (by omega)
  split
  · exact hf _ (by omega)
  split
  · exact hf _ (by omega)
  split
  · exact hf _ (by omega)
  · exact ht
theorem call_goodE {n m : Nat} (hm : n * n = m) (t : Tex) (l : List UInt8) (S : List (List Int)) : good m (callRow n m t l S) := by
  have hd : ∀ xs rows, good m (diffs xs n rows) := fun xs rows => ⟨by rw [diffs_length, hm], fun x hx => by
    obtain ⟨i, hi, rfl⟩ := List.getElem_of_mem hx
    rw [diffs_at]
    exact dVal_i64 _ _ _ _⟩
  unfold callRow
  split
  · exact hd _ _
  split
  · exact hd _ _
  · refine ⟨by simp, fun x hx => ?_⟩
    obtain ⟨i, hi, rfl⟩ := List.mem_map.1 hx
    exact satI_S9 _
end Go.Proofs.YtaegmenjgjdimaaGreat
end

section
/- This text says in plain numbers what the nodes of a program that passes the checks evaluate to on a grid; it walks no function. -/
namespace Go.Proofs.YtaegmenjgjdimaaGreat
open Go.RowKit

theorem Grd.partsE {g : Grd} (h : g.okB = true) : ∃ n : Nat, g.n = n ∧ n * n = g.m ∧ 1 ≤ n ∧ n ≤ 8 ∧ g.t.okB = true ∧ S9 g.tm ∧ ∀ i, i < g.m * 5 → S9 (g.f i) := by
  unfold Grd.okB at h
  simp only [Bool.and_eq_true, decide_eq_true_eq, List.all_eq_true, List.mem_range] at h
  obtain ⟨⟨⟨⟨h1, h2⟩, h3⟩, h4⟩, h5⟩ := h
  have h1 := inB_iff.1 h1
  have h3 := inB_iff.1 h3
  obtain ⟨n, hn⟩ : ∃ n : Nat, g.n = n := ⟨g.n.toNat, by omega⟩
  rw [hn] at h1 h2
  have h6 : ((n * n : Nat) : Int) = (g.m : Int) := by rw [h2]; simp
  refine ⟨n, hn, by omega, by omega, by omega, h4, ⟨by omega, by omega⟩, fun i hi => ?_⟩
  have h7 := h5 (i / 5) (by omega)
  unfold ptB ptL at h7
  simp only [List.all_cons, List.all_nil, Bool.and_true, Bool.and_eq_true] at h7
  obtain ⟨a0, a1, a2, a3, a4⟩ := h7
  have hi5 : i = i / 5 * 5 + i % 5 := by omega
  have hlt : i % 5 < 5 := Nat.mod_lt _ (by decide)
  have key : inB (g.f i) (-1000000) 1000000 = true := by
    rcases (show i % 5 = 0 ∨ i % 5 = 1 ∨ i % 5 = 2 ∨ i % 5 = 3 ∨ i % 5 = 4 by omega) with e | e | e | e | e <;> rw [e] at hi5 <;> rw [hi5]
    · exact a0
    · exact a1
    · exact a2
    · exact a3
    · exact a4
  have := inB_iff.1 key
  exact ⟨by omega, by omega⟩
/-- the root of the assignment to a name -/
def Prg.rootOf (p : Prg) (s : ByteArray) : Nat := match frst p.gs p.gs.length s.toList with | some i => ((p.gs[i]?).map fun a => a.root.toNat).getD 0 | none => 0
/-- what a node evaluates to, given what other nodes do -/
def evB (p : Prg) (n m : Nat) (f : Nat → Int) (tm : Int) (t : Tex) (rec : Nat → List Int) (x : Nd) : List Int :=
  if x.op = 1 then List.replicate m x.num else if x.op = 2 then (if isVar x.name then (List.range m).map (varL x.name.toList f tm) else rec (p.rootOf x.name))
  else if x.op = 8 then callRow n m t x.name.toList (x.args.map fun a => rec a.toNat)
  else List.zipWith (arithI x.op) ((x.args.map fun a => rec a.toNat).getD 0 []) ((x.args.map fun a => rec a.toNat).getD (if x.op = 3 then 0 else 1) [])
def evF (p : Prg) (n m : Nat) (f : Nat → Int) (tm : Int) (t : Tex) : Nat → Nat → List Int
  | 0, _ => []
  | F + 1, j => match p.ns[j]? with | some x => evB p n m f tm t (evF p n m f tm t F) x | none => []
/-- how late a node is known -/
noncomputable def Prg.rank (p : Prg) (j : Nat) : Nat := p.own j * 64 + j
noncomputable def Prg.ev (p : Prg) (n m : Nat) (f : Nat → Int) (tm : Int) (t : Tex) (j : Nat) : List Int := evF p n m f tm t (p.rank j + 1) j
/-- what a program that passes the checks is -/
structure Prg.K (p : Prg) : Prop where
  v : p.V
  name : ∀ (k : Nat) (x : Nd), p.ns[k]? = some x → x.op = 2 → isVar x.name = false → ∃ i, frst p.gs p.gs.length x.name.toList = some i ∧ i < p.own k
  call : ∀ (k : Nat) (x : Nd), p.ns[k]? = some x → x.op = 8 → 0 ≤ arity x.name ∧ arity x.name = x.args.length
  one : ∀ (i j : Nat) (a b : Asg), p.gs[i]? = some a → p.gs[j]? = some b → a.name.toList = b.name.toList → i = j
  col : ∃ i, frst p.gs p.gs.length [99, 111, 108, 111, 114] = some i
theorem frst_of {gs : List Asg} {l : List UInt8} {t : Nat} (h : asgB gs t l = true) : ∃ i, frst gs gs.length l = some i ∧ i < t := by
  cases e : frst gs gs.length l with
  | none => rw [frst_no e] at h; cases h
  | some i => rw [frst_lt e, decide_eq_true_eq] at h; exact ⟨i, rfl, h⟩
theorem Prg.chkB_K {p : Prg} (h : p.chkB = true) : p.K := by
  unfold Prg.chkB at h
  simp only [Bool.and_eq_true] at h
  obtain ⟨⟨⟨⟨h1, h2⟩, h3⟩, h4⟩, h5⟩ := h
  rw [List.all_eq_true] at h2 h3 h4
  have hv := Prg.okB_V h1
  have hone : ∀ (i j : Nat) (a b : Asg), i < j → p.gs[i]? = some a → p.gs[j]? = some b → a.name.toList = b.name.toList → False := by
    intro i j a b hij ha hb he
    have := h4 j (List.mem_range.2 (List.getElem?_eq_some_iff.1 hb).1)
    rw [Prg.asB_at hb, Bool.and_eq_true] at this
    have h6 := this.2
    rw [asgB_iff.2 ⟨i, a, hij, ha, he⟩] at h6
    cases h6
  refine ⟨hv, fun k x hx h2' hvar => ?_, fun k x hx h8 => ?_, fun i j a b ha hb he => ?_, ?_⟩
  · have := h2 k (List.mem_range.2 (List.getElem?_eq_some_iff.1 hx).1)
    rw [Prg.nameB_at hx, if_pos h2', hvar, Bool.false_or] at this
    exact frst_of this
  · have e1 := h2 k (List.mem_range.2 (List.getElem?_eq_some_iff.1 hx).1)
    rw [Prg.nameB_at hx, if_neg (by omega), if_pos h8, decide_eq_true_eq] at e1
    have e2 := h3 k (List.mem_range.2 (List.getElem?_eq_some_iff.1 hx).1)
    rw [Prg.arB_at hx, if_pos h8, decide_eq_true_eq] at e2
    exact ⟨e1, e2⟩
  · rcases Nat.lt_trichotomy i j with hij | hij | hij
    · exact (hone i j a b hij ha hb he).elim
    · exact hij
    · exact (hone j i b a hij hb ha he.symm).elim
  · obtain ⟨i, hi, _⟩ := frst_of h5
    exact ⟨i, hi⟩
/-- the root of a name that is known -/
theorem Prg.K.root {p : Prg} (h : p.K) {s : ByteArray} {i : Nat} (hf : frst p.gs p.gs.length s.toList = some i) : ∃ (s' : ByteArray), p.gs[i]? = some ⟨s', (p.rootOf s : Nat)⟩ ∧ s'.toList = s.toList ∧ p.own (p.rootOf s) = i ∧ p.rootOf s < p.ns.length := by
  obtain ⟨h1, ⟨a, h2, h3⟩, _⟩ := frst_some hf
  have hr := (h.v.ag i a h2).2
  have e : p.rootOf s = a.root.toNat := by unfold Prg.rootOf; rw [hf]; simp [h2]
  have e2 : a = ⟨a.name, (p.rootOf s : Nat)⟩ := by cases a; simp only [Asg.mk.injEq, true_and] at *; omega
  have h4 : p.gs[i]? = some ⟨a.name, (p.rootOf s : Nat)⟩ := by rw [h2]; exact congrArg some e2
  have ho := h.v.own_eq (Own.root h4)
  exact ⟨a.name, h4, h3, ho, by omega⟩
/-- the last assignment ahead of t to a name that is assigned ahead of t is the first -/
theorem Prg.K.last {p : Prg} (h : p.K) {l : List UInt8} {i t : Nat} (hf : frst p.gs p.gs.length l = some i) (ht : i < t) : lastTo p.gs t l p.gs.length = i := by
  obtain ⟨h1, ⟨a, h2, h3⟩, _⟩ := frst_some hf
  have h4 : 0 ≤ lastTo p.gs t l p.gs.length := by
    have := lastTo_asg p.gs t l
    rw [frst_lt hf, decide_eq_true ht, decide_eq_true_eq] at this
    exact this
  obtain ⟨j, b, h5, h6, h7, h8, h9⟩ := lastTo_some h4
  rw [h5, h.one i j a b h2 h8 (by rw [h3, h9])]
theorem Prg.K.rank_arg {p : Prg} (h : p.K) {j : Nat} {x : Nd} (hx : p.ns[j]? = some x) {a : Int} (ha : a ∈ x.args) : p.rank a.toNat < p.rank j ∧ a.toNat < p.ns.length ∧ p.own a.toNat = p.own j := by
  have h1 := (h.v.nd j x hx).2 a ha
  have h2 := (List.getElem?_eq_some_iff.1 hx).1
  have h3 := (h.v.own_is h2).down hx (j := a.toNat) (by rw [Int.toNat_of_nonneg h1.1]; exact ha)
  have h4 := h.v.own_eq h3
  unfold Prg.rank
  rw [h4]
  omega
theorem Prg.K.rank_name {p : Prg} (h : p.K) {j : Nat} {x : Nd} (hx : p.ns[j]? = some x) (h2 : x.op = 2) (hv : isVar x.name = false) : p.rank (p.rootOf x.name) < p.rank j := by
  obtain ⟨i, hi, hij⟩ := h.name j x hx h2 hv
  obtain ⟨s', _, _, h3, h4⟩ := h.root hi
  have := h.v.len
  unfold Prg.rank
  rw [h3]
  omega
theorem evB_congr {p : Prg} {n m : Nat} {f : Nat → Int} {tm : Int} {t : Tex} {rec rec' : Nat → List Int} {x : Nd} (h1 : ∀ a ∈ x.args, rec a.toNat = rec' a.toNat) (h2 : x.op = 2 → isVar x.name = false → rec (p.rootOf x.name) = rec' (p.rootOf x.name)) :
    evB p n m f tm t rec x = evB p n m f tm t rec' x := by
  have e : (x.args.map fun a => rec a.toNat) = x.args.map fun a => rec' a.toNat := List.map_congr_left h1
  unfold evB
  rw [e]
  by_cases o2 : x.op = 2
  · cases hv : isVar x.name
    · rw [h2 o2 hv]
    · rfl
  · simp only [if_neg o2]
theorem evF_eq {p : Prg} (h : p.K) {n m : Nat} {f : Nat → Int} {tm : Int} {t : Tex} : ∀ (F F' j : Nat), p.rank j < F → p.rank j < F' → evF p n m f tm t F j = evF p n m f tm t F' j := by
  intro F
  induction F with
  | zero => intro F' j hj; omega
  | succ F ih =>
    intro F' j hj hj'
    obtain ⟨G, rfl⟩ : ∃ G, F' = G + 1 := ⟨F' - 1, by omega⟩
    unfold evF
    cases hx : p.ns[j]? with
    | none => rfl
    | some x =>
      refine evB_congr (fun a ha => ?_) (fun o2 hv => ?_)
      · have := (h.rank_arg hx ha).1
        exact ih G _ (by omega) (by omega)
      · have := h.rank_name hx o2 hv
        exact ih G _ (by omega) (by omega)
theorem Prg.K.ev_step {p : Prg} (h : p.K) {n m : Nat} {f : Nat → Int} {tm : Int} {t : Tex} {j : Nat} {x : Nd} (hx : p.ns[j]? = some x) : p.ev n m f tm t j = evB p n m f tm t (p.ev n m f tm t) x := by
  have e : p.ev n m f tm t j = evB p n m f tm t (evF p n m f tm t (p.rank j)) x := by
    unfold Prg.ev evF
    rw [hx]
  rw [e]
  refine evB_congr (fun a ha => ?_) (fun o2 hv => ?_)
  · exact evF_eq h _ _ _ (h.rank_arg hx ha).1 (by omega)
  · exact evF_eq h _ _ _ (h.rank_name hx o2 hv) (by omega)
theorem getD_map {α : Type} (L : List α) (g : α → List Int) {i : Nat} (hi : i < L.length) : (L.map g).getD i [] = g L[i] := by
  rw [List.getD_eq_getElem?_getD, List.getElem?_map, List.getElem?_eq_getElem hi]
  rfl
/-- how many arguments an operation has -/
theorem nodeF_op {x : Nd} (h : nodeF x = true) : (x.op = 1 ∧ inB x.num 0 2559999 = true ∧ x.args.length = 0) ∨ (x.op = 2 ∧ x.args.length = 0) ∨ (x.op = 3 ∧ x.args.length = 1) ∨ (4 ≤ x.op ∧ x.op ≤ 7 ∧ x.args.length = 2) ∨ (x.op = 8 ∧ x.args.length ≤ 3) := by
  unfold nodeF at h
  simp only [Bool.and_eq_true] at h
  obtain ⟨⟨_, h2⟩, h3⟩ := h
  unfold lenB at h3
  split at h3
  · rename_i hc
    have h3 : x.args.length = 0 := by simpa using h3
    rcases hc with hc | hc
    · rw [if_pos hc] at h2; exact .inl ⟨hc, h2, h3⟩
    · exact .inr (.inl ⟨hc, h3⟩)
  split at h3
  · rename_i hc
    exact .inr (.inr (.inl ⟨hc, by simp at h3; omega⟩))
  split at h3
  · rename_i hc
    exact .inr (.inr (.inr (.inl ⟨hc.1, hc.2, by simp at h3; omega⟩)))
  split at h3
  · rename_i hc
    exact .inr (.inr (.inr (.inr ⟨hc, by simp at h3; omega⟩)))
  · cases h3
theorem Prg.K.ev_good {p : Prg} (h : p.K) {n m : Nat} {f : Nat → Int} {tm : Int} {t : Tex} (hm : n * n = m) (hf : ∀ i, i < m * 5 → S9 (f i)) (ht : S9 tm) : ∀ (F j : Nat), p.rank j < F → j < p.ns.length → good m (p.ev n m f tm t j) := by
  intro F
  induction F with
  | zero => intro j hj; omega
  | succ F ih =>
    intro j hj hjl
    have hx : p.ns[j]? = some p.ns[j] := by simp [hjl]
    obtain ⟨x, hxe⟩ : ∃ x, p.ns[j] = x := ⟨_, rfl⟩
    rw [hxe] at hx
    rw [h.ev_step hx]
    have hA : ∀ a ∈ x.args, good m (p.ev n m f tm t a.toNat) := fun a ha => by
      have := h.rank_arg hx ha
      exact ih _ (by omega) this.2.1
    unfold evB
    rcases nodeF_op (h.v.nd j x hx).1 with ⟨o, h2, h3⟩ | ⟨o, h3⟩ | ⟨o, h3⟩ | ⟨o, o', h3⟩ | ⟨o, h3⟩
    · rw [if_pos o]
      have := inB_iff.1 h2
      exact ⟨by simp, fun y hy => by rw [(List.mem_replicate.1 hy).2]; exact ⟨by omega, by omega⟩⟩
    · rw [if_neg (by omega), if_pos o]
      cases hv : isVar x.name
      · obtain ⟨i, hi, _⟩ := h.name j x hx o hv
        obtain ⟨s', _, _, h4, h5⟩ := h.root hi
        have := h.rank_name hx o hv
        exact ih _ (by omega) h5
      · refine ⟨by simp, fun y hy => ?_⟩
        obtain ⟨q, hq, rfl⟩ := List.mem_map.1 hy
        exact varL_S9E _ hf ht (List.mem_range.1 hq)
    · rw [if_neg (by omega), if_neg (by omega), if_neg (by omega), if_pos o, getD_map _ _ (by omega)]
      exact zip_goodE (hA _ (List.getElem_mem _)).1 (hA _ (List.getElem_mem _)).1
    · rw [if_neg (by omega), if_neg (by omega), if_neg (by omega), if_neg (by omega), getD_map _ _ (by omega), getD_map _ _ (by omega)]
      exact zip_goodE (hA _ (List.getElem_mem _)).1 (hA _ (List.getElem_mem _)).1
    · rw [if_neg (by omega), if_neg (by omega), if_pos o]
      exact call_goodE hm t _ _
/-- the value of a node at a point -/
noncomputable def Prg.at (p : Prg) (n m : Nat) (f : Nat → Int) (tm : Int) (t : Tex) (j q : Nat) : Int := (p.ev n m f tm t j).getD q 0
end Go.Proofs.YtaegmenjgjdimaaGreat
end

section
/- This text holds the memory of the grid's machine: rows of rows that the machine owns, apart from one another, and copies of rows. -/
namespace Go.Proofs.YtaegmenjgjdimaaGreat
open Go.RowKit

/-- every row of integers of w stands in w' as it stood -/
def KeepI (w w' : World) : Prop := ∀ (b : Nat) (cur : Array Value) (fr : Nat × Nat), w.heap[b]? = some (.cells cur 3 fr) → w'.heap[b]? = some (.cells cur 3 fr)
theorem KeepI.refl (w : World) : KeepI w w := fun _ _ _ h => h
theorem KeepI.trans {w w1 w2 : World} (h : KeepI w w1) (k : KeepI w1 w2) : KeepI w w2 := fun b c f e => k b c f (h b c f e)
theorem Ext.keepI {w w' : World} (h : Ext w w') : KeepI w w' := fun b c f e => (h.block (Array.getElem?_eq_some_iff.1 e).1).trans e
theorem KeepI.grown {w w' : World} {row : Option Nat} (h : w.grownBy w' row) (hr : ∀ (k : Nat) (cur : Array Value) (fr : Nat × Nat), row = some k → w.heap[k]? ≠ some (.cells cur 3 fr)) : KeepI w w' := fun b c f e =>
  (h.block b (Array.getElem?_eq_some_iff.1 e).1 (fun e' => hr b c f e'.symm e)).trans e
theorem KeepI.setCell {w : World} {p : Addr} (u : Value) (h : ∀ (cur : Array Value) (fr : Nat × Nat), w.heap[p.block]? ≠ some (.cells cur 3 fr)) : KeepI w (w.setCell p u) := fun b c f e => by
  have hne : b ≠ p.block := fun e' => h c f (e' ▸ e)
  rw [Below.heap_setCell w p u b hne]
  exact e
theorem OwnInts.keepI {lo : Nat} {w w' : World} {v : Value} {xs : List Int} (h : OwnInts lo w v xs) (k : KeepI w w') : OwnInts lo w' v xs := by
  obtain ⟨⟨h1, h2⟩, h3⟩ := h
  refine ⟨⟨h1, ?_⟩, h3⟩
  rcases h2 with hn | ⟨g, cap, cur, hv, hb, hg, r⟩
  · exact .inl hn
  · exact .inr ⟨g, cap, cur, hv, hb, k _ _ _ hg, r⟩

/-- the values vs are owned rows that hold S -/
structure Rws (lo : Nat) (w : World) (vs : List Value) (S : List (List Int)) : Prop where
  len : vs.length = S.length
  own : ∀ (i : Nat) (v : Value) (xs : List Int), vs[i]? = some v → S[i]? = some xs → OwnInts lo w v xs
theorem Rws.keepI {lo : Nat} {w w' : World} {vs : List Value} {S : List (List Int)} (h : Rws lo w vs S) (k : KeepI w w') : Rws lo w' vs S := ⟨h.len, fun i v xs h1 h2 => (h.own i v xs h1 h2).keepI k⟩
theorem Rws.nil (lo : Nat) (w : World) : Rws lo w [] [] := ⟨rfl, fun i v xs h => by simp at h⟩
theorem Rws.snoc {lo : Nat} {w : World} {vs : List Value} {S : List (List Int)} (h : Rws lo w vs S) {v : Value} {xs : List Int} (hv : OwnInts lo w v xs) : Rws lo w (vs ++ [v]) (S ++ [xs]) := by
  have hl := h.len
  refine ⟨by simp [hl], fun i u ys h1 h2 => ?_⟩
  by_cases hi : i < vs.length
  · rw [List.getElem?_append_left hi] at h1
    rw [List.getElem?_append_left (by omega)] at h2
    exact h.own i u ys h1 h2
  · rw [List.getElem?_append_right (by omega)] at h1
    rw [List.getElem?_append_right (by omega)] at h2
    have hi0 : i - vs.length = 0 := by
      have := (List.getElem?_eq_some_iff.1 h1).1
      simp at this
      omega
    rw [hi0] at h1
    rw [show i - S.length = 0 by omega] at h2
    simp at h1 h2
    subst h1 h2
    exact hv
theorem Rws.take {lo : Nat} {w : World} {vs : List Value} {S : List (List Int)} (h : Rws lo w vs S) (k : Nat) : Rws lo w (vs.take k) (S.take k) := by
  refine ⟨by simp [h.len], fun i u ys h1 h2 => ?_⟩
  rw [List.getElem?_take] at h1 h2
  split at h1
  · rename_i hk
    rw [if_pos hk] at h2
    exact h.own i u ys h1 h2
  · cases h1
theorem Rws.drop {lo : Nat} {w : World} {vs : List Value} {S : List (List Int)} (h : Rws lo w vs S) (k : Nat) : Rws lo w (vs.drop k) (S.drop k) := by
  refine ⟨by simp [h.len], fun i u ys h1 h2 => ?_⟩
  rw [List.getElem?_drop] at h1 h2
  exact h.own _ u ys h1 h2
theorem Rws.set {lo : Nat} {w : World} {vs : List Value} {S : List (List Int)} (h : Rws lo w vs S) (k : Nat) {v : Value} {xs : List Int} (hv : OwnInts lo w v xs) : Rws lo w (vs.set k v) (S.set k xs) := by
  refine ⟨by simp [h.len], fun i u ys h1 h2 => ?_⟩
  rw [List.getElem?_set] at h1 h2
  split at h1
  · rename_i hk
    rw [if_pos hk] at h2
    split at h1
    · split at h2
      · injection h1 with h1
        injection h2 with h2
        subst h1 h2
        exact hv
      · cases h2
    · cases h1
  · rename_i hk
    rw [if_neg hk] at h2
    exact h.own i u ys h1 h2
/-- no two of the values share a block -/
def Apt (vs : List Value) : Prop := vs.Pairwise fun u v => ∀ k, u.ownBlock = some k → v.ownBlock ≠ some k
/-- value r shares its block with none of vs -/
def Lone (r : Value) (vs : List Value) : Prop := ∀ u ∈ vs, ∀ k, u.ownBlock = some k → r.ownBlock ≠ some k
theorem Lone.of {lo M : Nat} {w : World} {vs : List Value} {S : List (List Int)} {r : Value} (h : Rws lo w vs S) (hM : w.heap.size ≤ M) (hr : ∀ k, r.ownBlock = some k → M ≤ k) : Lone r vs := by
  intro u hu k hk e
  obtain ⟨i, hi, rfl⟩ := List.getElem_of_mem hu
  have hl := h.len
  have := ((h.own i vs[i] (S[i]'(by omega)) (by simp [hi]) (by simp [show i < S.length by omega])).lt k hk).2
  have := hr k e
  omega
theorem Apt.insert {vs us : List Value} {r : Value} (h : Apt (vs ++ us)) (hr : Lone r (vs ++ us)) : Apt ((vs ++ [r]) ++ us) := by
  unfold Apt at *
  simp only [List.pairwise_append, List.mem_append, List.mem_singleton, List.pairwise_singleton, true_and] at h ⊢
  obtain ⟨h1, h2, h3⟩ := h
  refine ⟨⟨h1, ?_⟩, h2, ?_⟩
  · rintro a ha b rfl k hk
    exact hr a (List.mem_append_left _ ha) k hk
  · rintro a (ha | rfl) b hb k hk
    · exact h3 a ha b hb k hk
    · intro e
      exact hr b (List.mem_append_right _ hb) k e hk
theorem Apt.sub {vs us vs' us' : List Value} (h : Apt (vs ++ us)) (h1 : List.Sublist vs' vs) (h2 : List.Sublist us' us) : Apt (vs' ++ us') := List.Pairwise.sublist (h1.append h2) h
theorem Apt.store {vs us : List Value} {r : Value} (h : Apt ((vs ++ [r]) ++ us)) (k : Nat) : Apt (vs ++ us.set k r) := by
  unfold Apt at *
  simp only [List.pairwise_append, List.mem_append, List.mem_singleton, List.pairwise_singleton, true_and] at h ⊢
  obtain ⟨⟨h1, h4⟩, h2, h3⟩ := h
  have key : ∀ (us : List Value) (k : Nat), us.Pairwise (fun u v => ∀ k, u.ownBlock = some k → v.ownBlock ≠ some k) → (∀ b ∈ us, ∀ k, r.ownBlock = some k → b.ownBlock ≠ some k) → (us.set k r).Pairwise (fun u v => ∀ k, u.ownBlock = some k → v.ownBlock ≠ some k) := by
    intro us
    induction us with
    | nil => intro k _ _; simp
    | cons x xs ih =>
      intro k hp hr
      rw [List.pairwise_cons] at hp
      cases k with
      | zero =>
        rw [List.set_cons_zero, List.pairwise_cons]
        exact ⟨fun b hb => hr b (List.mem_cons_of_mem _ hb), hp.2⟩
      | succ k =>
        rw [List.set_cons_succ, List.pairwise_cons]
        refine ⟨fun b hb j hj e => ?_, ih k hp.2 fun b hb => hr b (List.mem_cons_of_mem _ hb)⟩
        rcases List.mem_or_eq_of_mem_set hb with hb | rfl
        · exact hp.1 b hb j hj e
        · exact hr x List.mem_cons_self j e hj
  refine ⟨h1, key us k h2 fun b hb j hj => h3 r (.inr rfl) b hb j hj, ?_⟩
  intro a ha b hb j hj e
  rcases List.mem_or_eq_of_mem_set hb with hb | rfl
  · exact h3 a (.inl ha) b hb j hj e
  · exact h4 a ha b rfl j hj e
theorem info_ints : (Tryz.prog.info? 29).map (fun i => (i.zero, i.size, i.bytes)) = some (some (.slice none 0 0), 1, 24) := by kernel_rfl
theorem ownsRow.form {w : World} {lo : Nat} {e : TypeId} {size n : Nat} {v : Value} {xs : List Value} (h : w.ownsRow lo e size v n xs) : ∃ a cap, v = .slice a n cap := by
  rcases h.2 with ⟨rfl, h4⟩ | ⟨g, cap, cur, rfl, hb, hg, hc, hm, hs, ht⟩
  · exact ⟨none, 0, by rw [h4]⟩
  · exact ⟨some ⟨g, 0, none⟩, cap, rfl⟩
/-- append of one row's header to an owned row of headers -/
theorem wpList_append_row (w : World) {ops : Array Oper} {rest : List Oper} {o : Oper} {a : Act} {Q : Exit → Act → World → Prop} (hg : o.guard = none) (s x : Operand)
    (hop : o.op = Op.call { callee := Callee.builtin Builtin.append, args := #[s, x], argTypes := #[70, 70] }) (lo : Nat) (v : Value) (n : Nat) (vs : List Value) (hs : a.eval s = v) (hown : w.ownsRow lo 29 1 v n vs)
    (y : Value) (hy : y.oneCell' = true) (b : Nat) (hx : a.eval x = .slice (some ⟨b, 0, none⟩) 1 1) (hcell : w.cell? ⟨b, 0, none⟩ = some y) (hlen : n < 1000000) (hlo : lo ≤ w.heap.size)
    (hK : ∀ v' w', w'.ownsRow lo 29 1 v' (n + 1) (vs ++ [y]) → w.grownBy w' v.ownBlock → wpList Tryz.prog ops Q rest (a.put o.dst v') w') : wpList Tryz.prog ops Q (o :: rest) a w := by
  obtain ⟨i0, hi0, hz0, hz1, hz2⟩ := info_parts info_ints
  refine wpList_append_own w hg s x 70 hop lo 29 i0 (.slice none 0 0) 1 24 Tryz.underlying70 hi0 hz0 hz1 hz2 rfl (by decide) v n _ hs hown ⟨b, 0, none⟩ 1 1 [y] hx rfl ?_ ?_ ?_ ?_ hlo ?_
  · intro j u hj
    match j, hj with
    | 0, hj => simp at hj; subst hj; exact hcell
  · intro u hu; simp at hu; subst hu; exact hy
  · unfold maxLen; omega
  · omega
  · intro v' w1 hown' hgrow _
    exact hK v' w1 hown' hgrow
/-- append of several headers -/
theorem wpList_append_rows (w : World) {ops : Array Oper} {rest : List Oper} {o : Oper} {a : Act} {Q : Exit → Act → World → Prop} (hg : o.guard = none) (s x : Operand)
    (hop : o.op = Op.call { callee := Callee.builtin Builtin.append, args := #[s, x], argTypes := #[70, 70] }) (lo : Nat) (v : Value) (n : Nat) (vs : List Value) (hs : a.eval s = v) (hown : w.ownsRow lo 29 1 v n vs)
    (ys : List Value) (hy : ∀ y ∈ ys, y.oneCell' = true) (b off cap : Nat) (hx : a.eval x = .slice (some ⟨b, off, none⟩) ys.length cap) (hcell : ∀ i y, ys[i]? = some y → w.cell? ⟨b, off + i, none⟩ = some y) (hlen : n + ys.length < 1000000) (hlo : lo ≤ w.heap.size)
    (hK : ∀ v' w', w'.ownsRow lo 29 1 v' (n + ys.length) (vs ++ ys) → w.grownBy w' v.ownBlock → wpList Tryz.prog ops Q rest (a.put o.dst v') w') : wpList Tryz.prog ops Q (o :: rest) a w := by
  obtain ⟨i0, hi0, hz0, hz1, hz2⟩ := info_parts info_ints
  refine wpList_append_own w hg s x 70 hop lo 29 i0 (.slice none 0 0) 1 24 Tryz.underlying70 hi0 hz0 hz1 hz2 rfl (by decide) v n _ hs hown ⟨b, off, none⟩ ys.length cap ys hx (by simp) ?_ hy ?_ ?_ hlo ?_
  · intro j u hj
    have := hcell j u hj
    rwa [Addr.add_lit]
  · unfold maxLen; omega
  · omega
  · intro v' w1 hown' hgrow _
    exact hK v' w1 hown' hgrow
theorem sliceNil1 (b off n cap : Nat) (w : World) : (binOp .eql 29 (.slice (some ⟨b, off, none⟩) n cap) (.slice none 0 0)).run Tryz.prog w = .ok (.bool false) w := by
  simp only [binOp]
  simp [Op.equal, Op.maxDepth, Lib.run_equalIn_slice_nil w 9999 29 3 (some ⟨b, off, none⟩) n cap 0 0 Tryz.underlying29]
theorem sliceNil2 (b off n cap : Nat) (w : World) : (binOp .eql 70 (.slice (some ⟨b, off, none⟩) n cap) (.slice none 0 0)).run Tryz.prog w = .ok (.bool false) w := by
  simp only [binOp]
  simp [Op.equal, Op.maxDepth, Lib.run_equalIn_slice_nil w 9999 70 29 (some ⟨b, off, none⟩) n cap 0 0 Tryz.underlying70]
set_option maxRecDepth 100000 in
set_option maxHeartbeats 800000 in
theorem cloneInts2_any (lo hi : Nat) (u : Value) (xs : List Int) (w : World) (hu : Ints lo hi w u xs) (hh : hi ≤ w.heap.size) (h1 : 1 ≤ xs.length) (h2 : xs.length ≤ 144) :
    Calls Tryz.prog 99 #[u] w fun e w' => ∃ v', e = .returned v' ∧ OwnInts w.heap.size w' v' xs ∧ Ext w w' := by
  obtain ⟨a, cap, rfl, HU⟩ := hu.open
  obtain ⟨b, off, rfl, hb1, hb2, _⟩ := HU.at (k := 0) (by omega)
  have l1 := HU.le
  have l2 := HU.cap
  clear hu
  go_enter Tryz.func99, Tryz.ntmps99
  have HC : ∀ i y, xs[i]? = some y → I64 y ∧ (w.alloc (.cells #[] 3)).cell? ⟨b, off + i, none⟩ = some (.int .i64 y) := by
    intro i y hy
    obtain ⟨h3, b', off', e, h4, h5, h6⟩ := HU.cell i y hy
    simp only [Option.some.injEq, Addr.mk.injEq, and_true] at e
    obtain ⟨rfl, rfl⟩ := e
    exact ⟨h3, (((Ext.refl w).alloc _).cells.1 b _ (by omega)).trans h6⟩
  have HC := hid HC
  have hnil := fun w => sliceNil1 b off xs.length cap w
  go_wp2_with (at_builtin; refine wpList_append_ints _ rfl _ _ rfl w.heap.size (.slice (some ⟨w.heap.size, 0, none⟩) 0 0) [] xs rfl (OwnInts.empty (Nat.le_refl _) (heap_alloc_new w _)) b off cap rfl HC.out (by simp; omega) (by simp) ?_; intro v' w1 hown hg; obtain ⟨a', c', rfl, _⟩ := hown.form)
  go_ret
  exact ⟨_, rfl, by simpa using hown, ((Ext.refl w).alloc _).grown hg (fun k e => by simp [Value.ownBlock] at e; omega)⟩
theorem ownsRow.empty {lo : Nat} {w : World} {e : TypeId} {g : Nat} (hl : lo ≤ g) (hg : w.heap[g]? = some (.cells #[] e)) : w.ownsRow lo e 1 (.slice (some ⟨g, 0, none⟩) 0 0) 0 [] :=
  ⟨rfl, .inr ⟨g, 0, #[], rfl, hl, hg, Nat.le_refl _, Nat.zero_le _, rfl, rfl⟩⟩
set_option maxRecDepth 100000 in
set_option maxHeartbeats 800000 in
theorem cloneRows_any (b off cap : Nat) (ys : List Value) (w : World) (hb : b < w.heap.size) (hc : ys.length ≤ cap) (hc2 : cap ≤ 9223372036854775807) (hcell : ∀ i y, ys[i]? = some y → w.cell? ⟨b, off + i, none⟩ = some y) (hy : ∀ y ∈ ys, y.oneCell' = true) (h2 : ys.length ≤ 1000) :
    Calls Tryz.prog 129 #[.slice (some ⟨b, off, none⟩) ys.length cap] w fun e w' => ∃ v', e = .returned v' ∧ w'.ownsRow w.heap.size 29 1 v' ys.length ys ∧ Ext w w' := by
  go_enter Tryz.func129, Tryz.ntmps129
  have HC : ∀ i y, ys[i]? = some y → (w.alloc (.cells #[] 29)).cell? ⟨b, off + i, none⟩ = some y := fun i y h => (((Ext.refl w).alloc _).cells.1 b _ hb).trans (hcell i y h)
  have HC := hid HC
  have HY := hid hy
  have hnil := fun w => sliceNil2 b off ys.length cap w
  clear hcell hy
  go_wp2_with (at_builtin; refine wpList_append_rows _ rfl _ _ rfl w.heap.size (.slice (some ⟨w.heap.size, 0, none⟩) 0 0) 0 [] rfl (ownsRow.empty (Nat.le_refl _) (heap_alloc_new w _)) ys HY.out b off cap rfl HC.out (by omega) (by simp) ?_; intro v' w1 hown hg; obtain ⟨a', c', rfl⟩ := ownsRow.form hown)
  go_ret
  exact ⟨_, rfl, by simpa using hown, ((Ext.refl w).alloc _).grown hg (fun k e => by simp [Value.ownBlock] at e; omega)⟩
end Go.Proofs.YtaegmenjgjdimaaGreat
end

section
/- This text proves what the grid's machine does when a row is pushed and when rows are popped. -/
namespace Go.Proofs.YtaegmenjgjdimaaGreat
open Go.RowKit

/-- an empty row's header is nil -/
def Nls (us : List Value) (L : List (List Int)) : Prop := ∀ (j : Nat) (u : Value), us[j]? = some u → L[j]? = some [] → u = .slice none 0 0
theorem Nls.set {us : List Value} {L : List (List Int)} (h : Nls us L) (j : Nat) {v : Value} {xs : List Int} (hx : xs ≠ []) : Nls (us.set j v) (L.set j xs) := by
  intro i u h1 h2
  rw [List.getElem?_set] at h1 h2
  by_cases e : j = i
  · rw [if_pos e] at h2
    split at h2
    · injection h2 with h2; exact absurd h2 hx
    · cases h2
  · rw [if_neg e] at h1 h2
    exact h i u h1 h2
theorem Nls.nils (k : Nat) : Nls (List.replicate k (.slice none 0 0)) (List.replicate k []) := by
  intro j u h1 _
  rw [List.getElem?_replicate] at h1
  split at h1
  · injection h1 with h1; exact h1.symm
  · cases h1
/-- the machine in block mb: its grid, its stack S (the headers vs, in the slice sv), its locals L (the headers us, in the slice lv) -/
structure Mach (lo lo2 : Nat) (w : World) (mb n : Nat) (pu tu : Value) (tm lg : Int) (sv lv : Value) (vs us : List Value) (S L : List (List Int)) : Prop where
  box : w.heap[mb]? = some (.cells #[.int .i64 n, pu, .int .i64 tm, .int .i64 lg, tu, sv, lv] 130)
  low : lo ≤ mb
  so : w.ownsRow lo2 29 1 sv vs.length vs
  lo' : w.ownsRow lo 29 1 lv us.length us
  sep : ∀ k, lv.ownBlock = some k → k < lo2
  hl : lo ≤ lo2
  hl2 : lo2 ≤ w.heap.size
  sl : vs.length = S.length
  rows : Rws lo w (vs ++ us) (S ++ L)
  apt : Apt (vs ++ us)
  nls : Nls us L
theorem cell_of_cells {w : World} {b : Nat} {cs : Array Value} {t : TypeId} (h : w.heap[b]? = some (.cells cs t)) (i : Nat) : w.cell? ⟨b, i, none⟩ = cs[i]? := by simp [World.cell?, h]
theorem frozen_of_cells {w : World} {b : Nat} {cs : Array Value} {t : TypeId} (h : w.heap[b]? = some (.cells cs t)) (i : Nat) : w.frozen? ⟨b, i, none⟩ = false := by simp [World.frozen?, h]
theorem Mach.lt {lo lo2 : Nat} {w : World} {mb n : Nat} {pu tu : Value} {tm lg : Int} {sv lv : Value} {vs us : List Value} {S L : List (List Int)} (M : Mach lo lo2 w mb n pu tu tm lg sv lv vs us S L) : mb < w.heap.size := (Array.getElem?_eq_some_iff.1 M.box).1
/-- a block of rows is not the machine's block -/
theorem ownsRow.not {w : World} {lo : Nat} {e : TypeId} {size n : Nat} {v : Value} {xs : List Value} (h : w.ownsRow lo e size v n xs) {A : Nat} {cs : Array Value} {T : TypeId} (hA : w.heap[A]? = some (.cells cs T)) (hT : T ≠ e) : v.ownBlock ≠ some A := by
  intro k
  rcases h.2 with ⟨rfl, _⟩ | ⟨g, cap, cur, rfl, _, hg, _⟩
  · cases k
  · simp only [Value.ownBlock, Option.some.injEq] at k
    subst k
    rw [hg] at hA
    simp only [Option.some.injEq, Obj.cells.injEq] at hA
    exact hT hA.2.1.symm
theorem ownsRow.int {w : World} {lo : Nat} {e : TypeId} {size n : Nat} {v : Value} {xs : List Value} (h : w.ownsRow lo e size v n xs) (hT : e ≠ 3) : ∀ (k : Nat) (cur : Array Value) (fr : Nat × Nat), v.ownBlock = some k → w.heap[k]? ≠ some (.cells cur 3 fr) := by
  intro k cur fr hk e'
  rcases h.2 with ⟨rfl, _⟩ | ⟨g, cap, cur', rfl, _, hg, _⟩
  · cases hk
  · simp only [Value.ownBlock, Option.some.injEq] at hk
    subst hk
    rw [hg] at e'
    simp only [Option.some.injEq, Obj.cells.injEq] at e'
    exact hT e'.2.1
/-- the world behind a step of the machine: what lies below lo stands, the rows of integers stand -/
structure Step (lo : Nat) (w w' : World) : Prop where
  below : Below lo w w'
  keep : KeepI w w'
theorem Step.refl (lo : Nat) (w : World) : Step lo w w := ⟨Below.refl _ _, KeepI.refl _⟩
theorem Step.trans {lo : Nat} {w w1 w2 : World} (h : Step lo w w1) (k : Step lo w1 w2) : Step lo w w2 := ⟨h.below.trans k.below, h.keep.trans k.keep⟩
theorem Ext.step {lo : Nat} {w w' : World} (h : Ext w w') (hl : lo ≤ w.heap.size) : Step lo w w' := ⟨Below.mono h hl, h.keepI⟩
theorem Step.size {lo : Nat} {w w' : World} (h : Step lo w w') : w.heap.size ≤ w'.heap.size := Below.size h.below
/-- the machine stands when the world only grows -/
theorem Mach.ext {lo lo2 : Nat} {w w' : World} {mb n : Nat} {pu tu : Value} {tm lg : Int} {sv lv : Value} {vs us : List Value} {S L : List (List Int)} (M : Mach lo lo2 w mb n pu tu tm lg sv lv vs us S L) (e : Ext w w') : Mach lo lo2 w' mb n pu tu tm lg sv lv vs us S L := by
  have hg : w.grownBy w' none := ⟨Below.os e, Below.tape e, Below.output e, e.size, fun k hk _ => e.block hk⟩
  exact ⟨(e.block M.lt).trans M.box, M.low, M.so.kept hg (by cases sv.ownBlock <;> simp), M.lo'.kept hg (by cases lv.ownBlock <;> simp), M.sep, M.hl, Nat.le_trans M.hl2 e.size, M.sl, M.rows.keepI e.keepI, M.apt, M.nls⟩
theorem heap_set5 {w : World} {b : Nat} {x0 x1 x2 x3 x4 x5 x6 : Value} {t : TypeId} (h : w.heap[b]? = some (.cells #[x0, x1, x2, x3, x4, x5, x6] t)) (v : Value) : (w.setCell ⟨b, 5, none⟩ v).heap[b]? = some (.cells #[x0, x1, x2, x3, x4, v, x6] t) := by
  simp [World.setCell, Array.getElem?_modify, h]
theorem Rws.insert {lo : Nat} {w : World} {vs us : List Value} {S L : List (List Int)} (hl : vs.length = S.length) (h : Rws lo w (vs ++ us) (S ++ L)) {v : Value} {xs : List Int} (hv : OwnInts lo w v xs) : Rws lo w ((vs ++ [v]) ++ us) ((S ++ [xs]) ++ L) := by
  have hl2 := h.len
  simp only [List.length_append] at hl2
  refine ⟨by simp; omega, fun i u ys h1 h2 => ?_⟩
  by_cases h3 : i < vs.length
  · rw [List.append_assoc, List.getElem?_append_left h3] at h1
    rw [List.append_assoc, List.getElem?_append_left (by omega)] at h2
    exact h.own i u ys (by rw [List.getElem?_append_left h3]; exact h1) (by rw [List.getElem?_append_left (by omega)]; exact h2)
  · by_cases h4 : i = vs.length
    · subst h4
      rw [List.append_assoc, List.getElem?_append_right (Nat.le_refl _)] at h1
      rw [List.append_assoc, hl, List.getElem?_append_right (Nat.le_refl _)] at h2
      simp at h1 h2
      subst h1 h2
      exact hv
    · rw [List.getElem?_append_right (by simp; omega)] at h1
      rw [List.getElem?_append_right (by simp; omega)] at h2
      refine h.own (i - 1) u ys ?_ ?_
      · rw [List.getElem?_append_right (by omega), show i - 1 - vs.length = i - (vs ++ [v]).length by simp; omega]
        exact h1
      · rw [List.getElem?_append_right (by omega), show i - 1 - S.length = i - (S ++ [xs]).length by simp; omega]
        exact h2
set_option maxRecDepth 100000 in
set_option maxHeartbeats 1600000 in
theorem push_any {lo lo2 : Nat} {w : World} {mb n : Nat} {pu tu : Value} {tm lg : Int} {sv lv : Value} {vs us : List Value} {S L : List (List Int)} (M : Mach lo lo2 w mb n pu tu tm lg sv lv vs us S L) {r : Value} {xs : List Int} (hr : OwnInts lo w r xs) (hlone : Lone r (vs ++ us)) (hS : vs.length ≤ 1000) :
    Calls Tryz.prog 98 #[.pointer (some ⟨mb, 0, none⟩), r] w fun e w' => e = .returned (.tuple #[]) ∧ (∃ sv', Mach lo lo2 w' mb n pu tu tm lg sv' lv (vs ++ [r]) us (S ++ [xs]) L) ∧ Step lo w w' ∧ ∀ b, b < w.heap.size → b ≠ mb → sv.ownBlock ≠ some b → w'.heap[b]? = w.heap[b]? := by
  obtain ⟨sa, sc, rfl⟩ := ownsRow.form M.so
  obtain ⟨ra, rc, rfl, _⟩ := hr.form
  have hb := M.lt
  have hlo := M.low
  have c5 := cell_of_cells M.box 5
  have f5 := frozen_of_cells M.box 5
  simp at c5
  have hn1 := ownsRow.not M.so M.box (by decide)
  have HM := hid M
  have HR := hid hr
  have HL := hid hlone
  clear M hr hlone
  go_enter Tryz.func98, Tryz.ntmps98
  go_wp2_with (at_builtin; refine wpList_append_row _ rfl _ _ rfl lo2 _ _ _ rfl (World.ownsRow.alloc HM.out.so _) (.slice ra xs.length rc) rfl w.heap.size rfl (by simp [go_sem]) (by omega) (by have := HM.out.hl2; simp; omega) ?_; intro v' w1 hown hg; obtain ⟨va, vc, rfl⟩ := ownsRow.form hown; obtain ⟨hq0, hq1⟩ : mb < w1.heap.size ∧ w1.heap[mb]? = w.heap[mb]? := ⟨by have := hg.size; simp at this; omega, (hg.block mb (by simp; omega) (fun e => hn1 e.symm)).trans ((Ext.refl w).alloc _ |>.block hb)⟩; have hbx := hq1.trans HM.out.box; have d5 := cell_of_cells hbx 5; have g5 := frozen_of_cells hbx 5; simp at d5; have HBX := hid hbx; clear hbx hq1)
  go_end0
  obtain ⟨M, hv', hgr, hbx⟩ : Mach lo lo2 w mb n pu tu tm lg (.slice sa vs.length sc) lv vs us S L ∧ _ ∧ _ ∧ _ := ⟨HM.out, hown, hg, HBX.out⟩
  have hr := HR.out
  have x0 : Ext w (w.alloc (.cells #[.slice ra xs.length rc] 29)) := (by repeat (with_reducible (first | assumption | exact Ext.refl _ | apply Ext.alloc | apply Ext.drew | apply Ext.drewN)))
  have hlw : lo ≤ w.heap.size := Nat.le_trans M.hl M.hl2
  have hsl := World.ownsRow.lt M.so
  have k1 : KeepI w w1 := x0.keepI.trans (KeepI.grown hgr (fun k cur fr hk => ownsRow.int (World.ownsRow.alloc M.so _) (by decide) k cur fr hk))
  have k2 : KeepI w1 (w1.setCell ⟨mb, 5, none⟩ (.slice va (vs.length + 1) vc)) := KeepI.setCell _ (fun cur fr e => by
    rw [hbx] at e
    simp at e)
  have hmb := ownsRow.not hv' hbx (by decide)
  have hgs : w1.grownBy (w1.setCell ⟨mb, 5, none⟩ (.slice va (vs.length + 1) vc)) (some mb) := ⟨rfl, rfl, rfl, by simp, fun k hk hne => Below.heap_setCell _ _ _ _ (by simpa using hne)⟩
  have hll := M.lo'.alloc (.cells #[.slice ra xs.length rc] 29)
  have hlm := ownsRow.not M.lo' M.box (by decide)
  refine ⟨rfl, ⟨_, heap_set5 hbx _, M.low, ?_, ?_, M.sep, M.hl, by have := hgr.size; have := x0.size; have := M.hl2; simp; omega, by simp [M.sl], ?_, ?_, M.nls⟩, ⟨?_, k1.trans k2⟩, ?_⟩
  · have := hv'.kept hgs (.inr hmb)
    simpa using this
  · refine (hll.kept hgr ?_).kept hgs (.inr hlm)
    cases hk : lv.ownBlock with
    | none => exact .inl rfl
    | some k =>
      refine .inr fun e => ?_
      have h1 := M.sep k hk
      have h2 := (hsl k e.symm).1
      omega
  · have hr2 := (M.rows.keepI (k1.trans k2))
    have hr3 : OwnInts lo _ _ _ := hr.keepI (k1.trans k2)
    exact Rws.insert M.sl hr2 hr3
  · exact M.apt.insert HL.out
  · exact Below.setCell (Below.grown (Below.mono x0 hlw) hgr (by have := x0.size; omega) (fun k hk => by have := (hsl k hk).1; have := M.hl; omega)) M.low _
  · intro b hb1 hb2 hb3
    exact (Below.heap_setCell _ _ _ _ hb2).trans ((hgr.block b (by simp; omega) (fun e => hb3 e.symm)).trans (x0.block hb1))
end Go.Proofs.YtaegmenjgjdimaaGreat
end

section
/- This text proves the laws on regions that draw their order for an arbitrary set of cells that no effect touches; it speaks of no program. -/
namespace Go.Proofs.YtaegmenjgjdimaaGreat

open Classical in
/-- w, or d where the cells that C names are in d as they are in w -/
noncomputable def lowc (C : Addr → Prop) (w d : World) : World := if (∀ a, C a → d.cell? a = w.cell? a ∧ d.frozen? a = w.frozen? a) then d else w
theorem lowc_same (C : Addr → Prop) (w d : World) : ∀ a, C a → (lowc C w d).cell? a = w.cell? a ∧ (lowc C w d).frozen? a = w.frozen? a := by
  unfold lowc
  split
  · assumption
  · exact fun _ _ => ⟨rfl, rfl⟩
@[go_sem] theorem cell?_lowc (C : Addr → Prop) (w d : World) (a : Addr) (h : C a) : (lowc C w d).cell? a = w.cell? a := (lowc_same C w d a h).1
@[go_sem] theorem frozen?_lowc (C : Addr → Prop) (w d : World) (a : Addr) (h : C a) : (lowc C w d).frozen? a = w.frozen? a := (lowc_same C w d a h).2
/-- the worlds whose cells named by C are those of w -/
def SC (C : Addr → Prop) (w : World) : World → Prop := fun w' => ∃ d, w' = lowc C w d
theorem SC.of {C : Addr → Prop} {w w2 : World} (h : ∀ a, C a → w2.cell? a = w.cell? a ∧ w2.frozen? a = w.frozen? a) : SC C w w2 := ⟨w2, by unfold lowc; rw [if_pos h]⟩
theorem SC.drew (C : Addr → Prop) (w : World) : SC C w w.drew := SC.of fun _ _ => ⟨rfl, rfl⟩
theorem SC.get {C : Addr → Prop} {w w2 : World} (h : SC C w w2) : ∀ a, C a → w2.cell? a = w.cell? a ∧ w2.frozen? a = w.frozen? a := by
  obtain ⟨d, rfl⟩ := h
  exact lowc_same C w d
/-- by whole blocks -/
theorem SC.blocks {C : Addr → Prop} {w w2 : World} (h : ∀ a, C a → w2.heap[a.block]? = w.heap[a.block]?) : SC C w w2 := SC.of fun a ha => ⟨World.cell?_of_block (h a ha), World.frozen?_of_block (h a ha)⟩

theorem bind_ok {P : Program} {α β : Type} {s : Sem α} {f : α → Sem β} {w w' : World} {b : β} (h : (s.bind f).run P w = .ok b w') : ∃ a w1, (f a).run P w1 = .ok b w' := by
  rw [Sem.run_bind'] at h
  cases hs : s.run P w with
  | ok v w1 => rw [hs] at h; exact ⟨v, w1, h⟩
  | halt x w1 => rw [hs] at h; simp at h
theorem nil_value {P : Program} {ρ : Operand → Value} {x : Operand} {o : Oper} (hx : o.op = .nilCheck x) {w w' : World} {n : Next} (h : (execOp ρ o).run P w = .ok n w') : ∃ v, n = .value v := by
  unfold execOp at h
  rw [hx] at h
  dsimp only at h
  have hp : ∀ {v : Value} {w1 : World}, Sem.run P (pure (Next.value v)) w1 = Result.ok n w' → ∃ v, n = .value v := fun h => by simp at h; exact ⟨_, h.1.symm⟩
  split at h
  · simp [runtimePanic] at h
  · simp [runtimePanic] at h
  · simp [runtimePanic] at h
  · split at h
    · simp [runtimePanic] at h
    · obtain ⟨a, w1, h⟩ := bind_ok h
      obtain ⟨c, w2, h⟩ := bind_ok h
      split at h
      · obtain ⟨d, w3, h⟩ := bind_ok h
        exact hp h
      · exact hp h
    · exact hp h
  · exact hp h

def isReadC : Op → Bool
  | .nilCheck _ => true
  | o => isRead o
theorem value_onlyC {P : Program} {ρ : Operand → Value} {o : Oper} (hr : isReadC o.op = true) {w w' : World} {n : Next} (h : (execOp ρ o).run P w = .ok n w') : ∃ v, n = .value v := by
  by_cases hn : ∃ x, o.op = .nilCheck x
  · obtain ⟨x, hx⟩ := hn
    exact nil_value hx h
  · refine value_only ?_ h
    revert hr hn
    cases o.op <;> intro hr hn <;> first | exact absurd ⟨_, rfl⟩ hn | exact hr

def readsOkC (ops : Array Oper) : List (List Nat × Nat) → Bool
  | [] => true
  | (T, _) :: r => T.all (fun i => match ops[i]? with | some o => isReadC o.op | none => false) && readsOkC ops r

/-- the stages of a region: reads, then the one operation that may come up, and so on; N: the blocks that no stage but number z writes -/
def wpStagesS (P : Program) (ops : Array Oper) (Q : Exit → Act → World → Prop) (S : World → Prop) (z : Nat) : List (List Nat × Nat) → Act → World → Prop
  | [], a, w => Q .normal a w
  | (T, e) :: r, a, w => wpQuiet P ops S (fun a' => ∃ o, ops[e]? = some o ∧ wpList P ops (Exit.then (fun a2 w2 => (e = z ∨ S w2) ∧ wpStagesS P ops Q S z r a2 w2) Q) [o] a' w) (T.filterMap (ops[·]?)) a

theorem plan_of_quietS {P : Program} {ops : Array Oper} {Q : Exit → Act → World → Prop} {S : World → Prop} {z : Nat} {r : List (Bool × Nat)} {w : World} {K : Act → Prop}
    (hK : ∀ a, K a → wpPlan P ops Q S z r a w) :
    ∀ (T : List Nat) (a : Act), T.all (fun i => match ops[i]? with | some o => isReadC o.op | none => false) = true → wpQuiet P ops S K (T.filterMap (ops[·]?)) a →
      wpPlan P ops Q S z (T.map (fun i => (true, i)) ++ r) a w
  | [], a, _, h => hK a h
  | i :: T, a, hr, h => by
    simp only [List.all_cons, Bool.and_eq_true] at hr
    obtain ⟨hri, hr'⟩ := hr
    cases ho : ops[i]? with
    | none => rw [ho] at hri; cases hri
    | some o =>
      rw [ho] at hri
      simp only [List.filterMap_cons, ho] at h
      refine ⟨o, ho, ?_⟩
      unfold takeOp
      unfold wpQuiet at h
      split
      · rename_i hw
        rw [if_pos hw] at h
        obtain ⟨v, hv, hn⟩ := h
        refine ⟨v, fun w' hw' => ?_, plan_of_quietS hK T _ hr' hn⟩
        have h1 := hv w' hw'
        unfold Oper.quietAt at h1
        cases hrun : (execOp a.eval o).run P w' with
        | halt x w1 => rw [hrun] at h1; exact h1.elim
        | ok n w1 =>
          obtain ⟨u, rfl⟩ := value_onlyC hri hrun
          rw [hrun] at h1
          obtain ⟨e1, e2⟩ := h1
          rw [e1, e2]
      · rename_i hw
        rw [if_neg hw] at h
        exact plan_of_quietS hK T _ hr' h

theorem plan_of_stagesS {P : Program} {ops : Array Oper} {Q : Exit → Act → World → Prop} {S : World → Prop} {z : Nat} : ∀ (st : List (List Nat × Nat)) (a : Act) (w : World), readsOkC ops st = true →
    wpStagesS P ops Q S z st a w → wpPlan P ops Q S z (stagesPlan st) a w
  | [], _, _, _, h => h
  | (T, e) :: r, a, w, hr, h => by
    simp only [readsOkC, Bool.and_eq_true] at hr
    refine plan_of_quietS (K := fun a' => ∃ o, ops[e]? = some o ∧ wpList P ops (Exit.then (fun a2 w2 => (e = z ∨ S w2) ∧ wpStagesS P ops Q S z r a2 w2) Q) [o] a' w) (fun a' ha => ?_) T a hr.1 h
    obtain ⟨o, ho, hl⟩ := ha
    refine ⟨o, ho, ?_⟩
    have key : ∀ a2 w2, ((e = z ∨ S w2) ∧ wpStagesS P ops Q S z r a2 w2) → ((e = z ∨ S w2) ∧ wpPlan P ops Q S z (stagesPlan r) a2 w2) :=
      fun a2 w2 ⟨k1, k2⟩ => ⟨k1, plan_of_stagesS r a2 w2 hr.2 k2⟩
    unfold wpList at hl ⊢
    split
    · rename_i hw
      rw [if_pos hw] at hl
      rcases hl with hl | ⟨h1, h2⟩
      · refine .inl ?_
        have h3 := upon_then hl
        have h4 : o.wp P a' w (wpList P ops (Exit.then (fun a2 w2 => (e = z ∨ S w2) ∧ wpStagesS P ops Q S z r a2 w2) Q) []) Q := h3
        have h5 := Oper.wp_mono (K' := wpList P ops (Exit.then (fun a2 w2 => (e = z ∨ S w2) ∧ wpPlan P ops Q S z (stagesPlan r) a2 w2) Q) []) (fun a2 w2 hk => key a2 w2 hk) h4
        unfold Oper.wp at h5 ⊢
        generalize (execOp a'.eval o).run P w = res at h5 ⊢
        cases res with
        | ok n w' => cases n <;> exact h5
        | halt x w' => cases x <;> exact h5
      · exact .inr ⟨h1, h2⟩
    · rename_i hw
      rw [if_neg hw] at hl
      exact key _ _ hl

/-- the law that the walks use -/
theorem wp_region_stagesS {P : Program} {Q : Exit → Act → World → Prop} {id : Nat} {a : Act} {w : World} {l : List Oper} (st : List (List Nat × Nat)) (z : Nat) (S : World → Prop) (hm : P.follows .mixedOrders = true)
    (hB : (planB .any l.toArray z (stagesPlan st) && readsOkC l.toArray st && (stagesPlan st).length == l.length) = true)
    (hS : S w.drew) (h : wpStagesS P l.toArray (NoPanic Q) S z st a w.drew) : (Code.region id l.toArray true).wp P Q a w := by
  simp only [Bool.and_eq_true, beq_iff_eq] at hB
  exact wp_region_plan (stagesPlan st) z S hm hB.1.1 hB.2 hS (plan_of_stagesS st a w.drew hB.1.2 h)

theorem wpStagesS_nil {P : Program} {ops : Array Oper} {Q : Exit → Act → World → Prop} {S : World → Prop} {z : Nat} {a : Act} {w : World} (h : Q .normal a w) : wpStagesS P ops (NoPanic Q) S z [] a w := h
/-- one stage: the reads, then the operation; what follows stands behind a variable -/
theorem wpStagesS_cons {P : Program} {ops : Array Oper} {Q : Exit → Act → World → Prop} {S : World → Prop} {z : Nat} {T : List Nat} {e : Nat} {r : List (List Nat × Nat)} {a : Act} {w : World}
    (h : wpQuiet P ops S (fun a' => ∃ o, ops[e]? = some o ∧ ∀ K : Act → World → Prop, (∀ a2 w2, (e = z ∨ S w2) → wpStagesS P ops Q S z r a2 w2 → K a2 w2) → wpList P ops (Exit.then K Q) [o] a' w) (T.filterMap (ops[·]?)) a) :
    wpStagesS P ops Q S z ((T, e) :: r) a w := by
  unfold wpStagesS
  have e1 : (fun a' => ∃ o, ops[e]? = some o ∧ wpList P ops (Exit.then (fun a2 w2 => (e = z ∨ S w2) ∧ wpStagesS P ops Q S z r a2 w2) Q) [o] a' w) =
      (fun a' => ∃ o, ops[e]? = some o ∧ ∀ K : Act → World → Prop, (∀ a2 w2, (e = z ∨ S w2) → wpStagesS P ops Q S z r a2 w2 → K a2 w2) → wpList P ops (Exit.then K Q) [o] a' w) := by
    funext a'
    refine propext ⟨fun ⟨o, ho, hl⟩ => ⟨o, ho, fun K hK => ?_⟩, fun ⟨o, ho, hl⟩ => ⟨o, ho, hl _ fun a2 w2 h1 h2 => ⟨h1, h2⟩⟩⟩
    unfold wpList at hl ⊢
    split
    · rename_i hw
      rw [if_pos hw] at hl
      rcases hl with hl | ⟨h1, h2⟩
      · refine .inl ?_
        have h4 := Oper.wp_mono (K' := wpList P ops (Exit.then K Q) []) (fun a2 w2 hk => hK a2 w2 hk.1 hk.2) hl
        unfold Oper.wp at h4 ⊢
        generalize (execOp a'.eval o).run P w = res at h4 ⊢
        cases res with
        | ok n w' => cases n <;> exact h4
        | halt x w' => cases x <;> exact h4
      · exact .inr ⟨h1, h2⟩
    · rename_i hw
      rw [if_neg hw] at hl
      exact hK _ _ hl.1 hl.2
  rw [e1]
  exact h



/-- the state of a region on its way, by stages: see wpZS_stage -/
def wpZS (P : Program) (ops : Array Oper) (Q : Exit → Act → World → Prop) (S : World → Prop) (z fuel : Nat) (listed : Array Bool) (a : Act) (w : World) : Prop :=
  wpAnyZ P .any ops Q S z fuel listed a w

def takesOkC (ops : Array Oper) (z : Nat) : List Nat → Array Bool → Bool
  | [], _ => true
  | i :: r, l => (match ops[i]? with | some o => isReadC o.op | none => false) && (i != z && Region.free .any ops l i && (Region.ready .any ops l).contains i) && takesOkC ops z r (l.setIfInBounds i true)

def stageOkC (ops : Array Oper) (z : Nat) (T E : List Nat) (l : Array Bool) : Bool :=
  Region.noSelect ops && waitsAll .any ops z && takesOkC ops z T l && (Region.ready .any ops (listAll T l) == E) && !E.isEmpty

/-- what is asked of the operation that comes up: what follows stands behind a variable -/
def wpComesS (P : Program) (ops : Array Oper) (Q : Exit → Act → World → Prop) (S : World → Prop) (z fuel : Nat) (l : Array Bool) (e : Nat) (a : Act) (w : World) : Prop :=
  ∃ o, ops[e]? = some o ∧ ∀ K : Act → World → Prop, (∀ a2 w2, (e = z ∨ S w2) → wpZS P ops Q S z fuel (l.setIfInBounds e true) a2 w2 → K a2 w2) → wpList P ops (Exit.then K Q) [o] a w

theorem wpOp_of_comesS {P : Program} {ops : Array Oper} {Q : Exit → Act → World → Prop} {S : World → Prop} {z fuel : Nat} {l : Array Bool} {e : Nat} {a : Act} {w : World} (h : wpComesS P ops Q S z fuel l e a w) :
    wpOp P ops Q e (fun a' w' => (e = z ∨ S w') ∧ wpZS P ops Q S z fuel (l.setIfInBounds e true) a' w') a w := by
  obtain ⟨o, ho, hl⟩ := h
  have ht := hl (fun a' w' => (e = z ∨ S w') ∧ wpZS P ops Q S z fuel (l.setIfInBounds e true) a' w') (fun a2 w2 k1 k2 => ⟨k1, k2⟩)
  unfold wpOp
  simp only [ho]
  unfold wpList at ht
  split
  · rename_i hw
    rw [if_pos hw] at ht
    rcases ht with ht | ⟨h1, h2⟩
    · refine .inl ?_
      have h3 := upon_then ht
      exact h3
    · exact .inr ⟨h1, h2⟩
  · rename_i hw
    rw [if_neg hw] at ht
    exact ht

theorem wpZS_takes {P : Program} {ops : Array Oper} {Q : Exit → Act → World → Prop} {S : World → Prop} {z fuel : Nat} {w : World} {K : Act → Prop} (hsel : Region.noSelect ops = true) (hz : waitsAll .any ops z = true) (hS : S w) :
    ∀ (T : List Nat) (l : Array Bool) (a : Act), takesOkC ops z T l = true → (∀ a, K a → wpZS P ops (NoPanic Q) S z fuel (listAll T l) a w) →
      wpQuiet P ops S K (T.filterMap (ops[·]?)) a → wpZS P ops (NoPanic Q) S z (T.length + fuel) l a w
  | [], l, a, _, hK, h => by rw [List.length_nil, Nat.zero_add]; exact hK a h
  | i :: T, l, a, hT, hK, h => by
    simp only [takesOkC, Bool.and_eq_true, bne_iff_ne] at hT
    obtain ⟨⟨hri, ⟨hiz, hf⟩, hr⟩, hT'⟩ := hT
    cases ho : ops[i]? with
    | none => rw [ho] at hri; cases hri
    | some o =>
      rw [ho] at hri
      simp only [List.filterMap_cons, ho] at h
      unfold wpQuiet at h
      have hlen : (i :: T).length + fuel = T.length + fuel + 1 := by rw [List.length_cons]; omega
      rw [hlen]
      split at h
      · rename_i hw
        obtain ⟨v, hv, hn⟩ := h
        refine wpAnyZ_first (v := v) ho hz hiz (Region.noSelect_spec hsel) (fun c a w k => k) _ l a w (Region.free_spec ho hf) (by simpa using hr) (.inl ⟨hw, fun w' hw' => ?_⟩) hS (wpZS_takes hsel hz hS T _ _ hT' hK hn)
        have h1 := hv w' hw'
        unfold Oper.quietAt at h1
        cases hrun : (execOp a.eval o).run P w' with
        | halt x w1 => rw [hrun] at h1; exact h1.elim
        | ok n w1 =>
          obtain ⟨u, rfl⟩ := value_onlyC hri hrun
          rw [hrun] at h1
          obtain ⟨e1, e2⟩ := h1
          rw [e1, e2]
      · rename_i hw
        exact wpAnyZ_first (v := undef) ho hz hiz (Region.noSelect_spec hsel) (fun c a w k => k) _ l a w (Region.free_spec ho hf) (by simpa using hr) (.inr ⟨by simpa using hw, rfl⟩) hS (wpZS_takes hsel hz hS T _ _ hT' hK h)

/-- a stage: the reads T are taken; then one of E comes up -/
theorem wpZS_stage {P : Program} {ops : Array Oper} {Q : Exit → Act → World → Prop} {S : World → Prop} {z fuel : Nat} {l : Array Bool} {a : Act} {w : World} (T E : List Nat) (hB : stageOkC ops z T E l = true) (hS : S w)
    (h : wpQuiet P ops S (fun a' => ∀ e ∈ E, wpComesS P ops (NoPanic Q) S z fuel (listAll T l) e a' w) (T.filterMap (ops[·]?)) a) :
    wpZS P ops (NoPanic Q) S z (T.length + (fuel + 1)) l a w := by
  simp only [stageOkC, Bool.and_eq_true, beq_iff_eq] at hB
  obtain ⟨⟨⟨⟨h1, h2⟩, h3⟩, h4⟩, h5⟩ := hB
  refine wpZS_takes h1 h2 hS T l a h3 (fun a' hk => ?_) h
  refine ⟨fun h0 => ?_, fun e he => ?_⟩
  · rw [h4] at h0; rw [h0] at h5; cases h5
  · rw [h4] at he
    exact wpOp_of_comesS (hk e he)

theorem wpZS_end {P : Program} {ops : Array Oper} {Q : Exit → Act → World → Prop} {S : World → Prop} {z : Nat} {l : Array Bool} {a : Act} {w : World} (hB : (Region.ready .any ops l).isEmpty = true) (h : Q .normal a w) : wpZS P ops (NoPanic Q) S z 0 l a w :=
  ⟨by simpa using hB, h⟩

theorem wp_region_ZS {P : Program} {Q : Exit → Act → World → Prop} {id : Nat} {a : Act} {w : World} {l : List Oper} (z : Nat) (S : World → Prop) (hm : P.follows .mixedOrders = true)
    (h : wpZS P l.toArray (NoPanic Q) S z l.length (Array.replicate l.length false) a w.drew) : (Code.region id l.toArray true).wp P Q a w := by
  refine wp_region_noPanic (wp_region_any hm ?_)
  have := wpAny_of_Z _ _ _ _ h
  simpa using this

end Go.Proofs.YtaegmenjgjdimaaGreat
end

section
/- This text proves the law on regions that draw their order for effects that may write one block besides those that they lay; it speaks of no program. -/
namespace Go.Proofs.YtaegmenjgjdimaaGreat

/-- the blocks below N, but for X, are in w' as they were in w -/
def SameX (N X : Nat) (w w' : World) : Prop := ∀ b, b < N → b ≠ X → w'.heap[b]? = w.heap[b]?
theorem SameX.trans {N X : Nat} {w w1 w2 : World} (h : SameX N X w w1) (k : SameX N X w1 w2) : SameX N X w w2 := fun b h1 h2 => (k b h1 h2).trans (h b h1 h2)
theorem SameX.gr {N X : Nat} {w w1 : World} (h : w.grownBy w1 (some X)) (hN : N ≤ w.heap.size) : SameX N X w w1 := fun b h1 h2 => h.block b (by omega) (fun e => h2 (by simpa using e))
theorem SameX.of {N X : Nat} {w w1 : World} (h : Same 0 N w w1) : SameX N X w w1 := fun b h1 _ => h b (Nat.zero_le _) h1
open Classical in
/-- w, or d where d's blocks below N are those of w -/
noncomputable def lowx (N X : Nat) (w d : World) : World := if SameX N X w d then d else w
theorem lowx_same (N X : Nat) (w d : World) : SameX N X w (lowx N X w d) := by
  unfold lowx
  split
  · assumption
  · exact fun _ _ _ => rfl
theorem lowx_of {N X : Nat} {w d : World} (h : SameX N X w d) : d = lowx N X w d := by unfold lowx; rw [if_pos h]
@[go_sem] theorem cell?_lowx (N X : Nat) (w d : World) (a : Addr) (h : a.block < N) (hx : a.block ≠ X) : (lowx N X w d).cell? a = w.cell? a := World.cell?_of_block (w := w) (lowx_same N X w d a.block h hx)
@[go_sem] theorem frozen?_lowx (N X : Nat) (w d : World) (a : Addr) (h : a.block < N) (hx : a.block ≠ X) : (lowx N X w d).frozen? a = w.frozen? a := World.frozen?_of_block (w := w) (lowx_same N X w d a.block h hx)

/-- the stages of a region: reads, then the one operation that may come up, and so on; N: the blocks that no stage but number z writes -/
def wpStagesX (P : Program) (ops : Array Oper) (Q : Exit → Act → World → Prop) (N X : Nat) (w0 : World) (z : Nat) : List (List Nat × Nat) → Act → World → Prop
  | [], a, w => Q .normal a w
  | (T, e) :: r, a, w => wpQuiet P ops (fun w' => ∃ d, w' = lowx N X w0 d) (fun a' => ∃ o, ops[e]? = some o ∧ wpList P ops (Exit.then (fun a2 w2 => (e = z ∨ SameX N X w0 w2) ∧ wpStagesX P ops Q N X w0 z r a2 w2) Q) [o] a' w) (T.filterMap (ops[·]?)) a

theorem plan_of_quietX {P : Program} {ops : Array Oper} {Q : Exit → Act → World → Prop} {N X : Nat} {w0 : World} {z : Nat} {r : List (Bool × Nat)} {w : World} {K : Act → Prop}
    (hK : ∀ a, K a → wpPlan P ops Q (fun w' => ∃ d, w' = lowx N X w0 d) z r a w) :
    ∀ (T : List Nat) (a : Act), T.all (fun i => match ops[i]? with | some o => isRead o.op | none => false) = true → wpQuiet P ops (fun w' => ∃ d, w' = lowx N X w0 d) K (T.filterMap (ops[·]?)) a →
      wpPlan P ops Q (fun w' => ∃ d, w' = lowx N X w0 d) z (T.map (fun i => (true, i)) ++ r) a w
  | [], a, _, h => hK a h
  | i :: T, a, hr, h => by
    simp only [List.all_cons, Bool.and_eq_true] at hr
    obtain ⟨hri, hr'⟩ := hr
    cases ho : ops[i]? with
    | none => rw [ho] at hri; cases hri
    | some o =>
      rw [ho] at hri
      simp only [List.filterMap_cons, ho] at h
      refine ⟨o, ho, ?_⟩
      unfold takeOp
      unfold wpQuiet at h
      split
      · rename_i hw
        rw [if_pos hw] at h
        obtain ⟨v, hv, hn⟩ := h
        refine ⟨v, fun w' hw' => ?_, plan_of_quietX hK T _ hr' hn⟩
        have h1 := hv w' hw'
        unfold Oper.quietAt at h1
        cases hrun : (execOp a.eval o).run P w' with
        | halt x w1 => rw [hrun] at h1; exact h1.elim
        | ok n w1 =>
          obtain ⟨u, rfl⟩ := value_only hri hrun
          rw [hrun] at h1
          obtain ⟨e1, e2⟩ := h1
          rw [e1, e2]
      · rename_i hw
        rw [if_neg hw] at h
        exact plan_of_quietX hK T _ hr' h

theorem plan_of_stagesX {P : Program} {ops : Array Oper} {Q : Exit → Act → World → Prop} {N X : Nat} {w0 : World} {z : Nat} : ∀ (st : List (List Nat × Nat)) (a : Act) (w : World), readsOk ops st = true →
    wpStagesX P ops Q N X w0 z st a w → wpPlan P ops Q (fun w' => ∃ d, w' = lowx N X w0 d) z (stagesPlan st) a w
  | [], _, _, _, h => h
  | (T, e) :: r, a, w, hr, h => by
    simp only [readsOk, Bool.and_eq_true] at hr
    refine plan_of_quietX (K := fun a' => ∃ o, ops[e]? = some o ∧ wpList P ops (Exit.then (fun a2 w2 => (e = z ∨ SameX N X w0 w2) ∧ wpStagesX P ops Q N X w0 z r a2 w2) Q) [o] a' w) (fun a' ha => ?_) T a hr.1 h
    obtain ⟨o, ho, hl⟩ := ha
    refine ⟨o, ho, ?_⟩
    have key : ∀ a2 w2, ((e = z ∨ SameX N X w0 w2) ∧ wpStagesX P ops Q N X w0 z r a2 w2) → ((e = z ∨ ∃ d, w2 = lowx N X w0 d) ∧ wpPlan P ops Q (fun w' => ∃ d, w' = lowx N X w0 d) z (stagesPlan r) a2 w2) :=
      fun a2 w2 ⟨k1, k2⟩ => ⟨k1.imp id (fun k => ⟨_, lowx_of k⟩), plan_of_stagesX r a2 w2 hr.2 k2⟩
    unfold wpList at hl ⊢
    split
    · rename_i hw
      rw [if_pos hw] at hl
      rcases hl with hl | ⟨h1, h2⟩
      · refine .inl ?_
        have h3 := upon_then hl
        have h4 : o.wp P a' w (wpList P ops (Exit.then (fun a2 w2 => (e = z ∨ SameX N X w0 w2) ∧ wpStagesX P ops Q N X w0 z r a2 w2) Q) []) Q := h3
        have h5 := Oper.wp_mono (K' := wpList P ops (Exit.then (fun a2 w2 => (e = z ∨ ∃ d, w2 = lowx N X w0 d) ∧ wpPlan P ops Q (fun w' => ∃ d, w' = lowx N X w0 d) z (stagesPlan r) a2 w2) Q) []) (fun a2 w2 hk => key a2 w2 hk) h4
        unfold Oper.wp at h5 ⊢
        generalize (execOp a'.eval o).run P w = res at h5 ⊢
        cases res with
        | ok n w' => cases n <;> exact h5
        | halt x w' => cases x <;> exact h5
      · exact .inr ⟨h1, h2⟩
    · rename_i hw
      rw [if_neg hw] at hl
      exact key _ _ hl

/-- the law that the walks use -/
theorem wp_region_stagesX {P : Program} {Q : Exit → Act → World → Prop} {id : Nat} {a : Act} {w : World} {l : List Oper} (st : List (List Nat × Nat)) (z N X : Nat) (hm : P.follows .mixedOrders = true)
    (hB : (planB .any l.toArray z (stagesPlan st) && readsOk l.toArray st && (stagesPlan st).length == l.length) = true)
    (h : wpStagesX P l.toArray (NoPanic Q) N X w z st a w.drew) : (Code.region id l.toArray true).wp P Q a w := by
  simp only [Bool.and_eq_true, beq_iff_eq] at hB
  have hs : ∀ w2, SameX N X w w2 → ∃ d, w2 = lowx N X w d := fun w2 k => ⟨_, lowx_of k⟩
  exact wp_region_plan (stagesPlan st) z (fun w' => ∃ d, w' = lowx N X w d) hm hB.1.1 hB.2 (hs _ (fun _ _ _ => rfl)) (plan_of_stagesX st a w.drew hB.1.2 h)

theorem wpStagesX_nil {P : Program} {ops : Array Oper} {Q : Exit → Act → World → Prop} {N X : Nat} {w0 : World} {z : Nat} {a : Act} {w : World} (h : Q .normal a w) : wpStagesX P ops (NoPanic Q) N X w0 z [] a w := h
/-- one stage: the reads, then the operation; what follows stands behind a variable -/
theorem wpStagesX_cons {P : Program} {ops : Array Oper} {Q : Exit → Act → World → Prop} {N X : Nat} {w0 : World} {z : Nat} {T : List Nat} {e : Nat} {r : List (List Nat × Nat)} {a : Act} {w : World}
    (h : wpQuiet P ops (fun w' => ∃ d, w' = lowx N X w0 d) (fun a' => ∃ o, ops[e]? = some o ∧ ∀ K : Act → World → Prop, (∀ a2 w2, (e = z ∨ SameX N X w0 w2) → wpStagesX P ops Q N X w0 z r a2 w2 → K a2 w2) → wpList P ops (Exit.then K Q) [o] a' w) (T.filterMap (ops[·]?)) a) :
    wpStagesX P ops Q N X w0 z ((T, e) :: r) a w := by
  unfold wpStagesX
  have e1 : (fun a' => ∃ o, ops[e]? = some o ∧ wpList P ops (Exit.then (fun a2 w2 => (e = z ∨ SameX N X w0 w2) ∧ wpStagesX P ops Q N X w0 z r a2 w2) Q) [o] a' w) =
      (fun a' => ∃ o, ops[e]? = some o ∧ ∀ K : Act → World → Prop, (∀ a2 w2, (e = z ∨ SameX N X w0 w2) → wpStagesX P ops Q N X w0 z r a2 w2 → K a2 w2) → wpList P ops (Exit.then K Q) [o] a' w) := by
    funext a'
    refine propext ⟨fun ⟨o, ho, hl⟩ => ⟨o, ho, fun K hK => ?_⟩, fun ⟨o, ho, hl⟩ => ⟨o, ho, hl _ fun a2 w2 h1 h2 => ⟨h1, h2⟩⟩⟩
    unfold wpList at hl ⊢
    split
    · rename_i hw
      rw [if_pos hw] at hl
      rcases hl with hl | ⟨h1, h2⟩
      · refine .inl ?_
        have h4 := Oper.wp_mono (K' := wpList P ops (Exit.then K Q) []) (fun a2 w2 hk => hK a2 w2 hk.1 hk.2) hl
        unfold Oper.wp at h4 ⊢
        generalize (execOp a'.eval o).run P w = res at h4 ⊢
        cases res with
        | ok n w' => cases n <;> exact h4
        | halt x w' => cases x <;> exact h4
      · exact .inr ⟨h1, h2⟩
    · rename_i hw
      rw [if_neg hw] at hl
      exact hK _ _ hl.1 hl.2
  rw [e1]
  exact h


end Go.Proofs.YtaegmenjgjdimaaGreat
end

section
/- This text holds the memory of the program's evaluator: its box, its rows of values that are done; and the law of regions in which one block is written. -/
namespace Go.Proofs.YtaegmenjgjdimaaGreat
open Go.RowKit

/-- what stands while the evaluator in block E works on the grid n, with its rows in block D; V: the values of the nodes -/
structure EvC (p : Prg) (V : Nat → List Int) (B E D mb : Nat) (a1 a2 : Option Addr) (c1 c2 n m : Nat) (pu tu : Value) (f : Nat → Int) (tm : Int) (t : Tex) (W : World) : Prop where
  nodes : NdsAt 0 B W a1 c1 p.ns
  asgs : AsgsAt 0 B W a2 c2 p.gs
  bd : p.bd
  k : p.K
  gl : p.gs.length ≤ 1048576
  pts : Flats 5 0 B W pu m f
  tex : TexR 0 B W (.agg #[.int .i64 t.log, tu]) t
  hm : n * n = m
  n1 : 1 ≤ n
  n8 : n ≤ 8
  ok : t.okB = true
  tm9 : S9 tm
  f9 : ∀ i, i < m * 5 → S9 (f i)
  step : ∀ (j : Nat) (x : Nd), p.ns[j]? = some x → V j = evB p n m f tm t V x
  good : ∀ j, j < p.ns.length → good m (V j)
  bB : B ≤ W.heap.size
  box : Bx W E #[.slice a1 p.ns.length c1, .slice a2 p.gs.length c2, .int .i64 n, pu, .int .i64 tm, .int .i64 t.log, tu, .map (some mb), .slice (some ⟨D, 0, none⟩) p.ns.length p.ns.length] 72
  map : FM W mb p.gs p.gs.length
  dB : B ≤ D
  dl : D < W.heap.size
  eD : E ≠ D
  mD : mb ≠ D
/-- the state of its rows in a world w that W came to -/
structure EvI (p : Prg) (V : Nat → List Int) (D : Nat) (W w : World) : Prop where
  gr : W.grownBy w (some D)
  row : ∃ us : List Value, w.ownsRow 0 29 1 (.slice (some ⟨D, 0, none⟩) p.ns.length p.ns.length) p.ns.length us ∧ ∀ (j : Nat) (u : Value), us[j]? = some u → u = .slice none 0 0 ∨ OwnInts 0 w u (V j)
section
variable {p : Prg} {V : Nat → List Int} {B E D mb : Nat} {a1 a2 : Option Addr} {c1 c2 n m : Nat} {pu tu : Value} {f : Nat → Int} {tm : Int} {t : Tex} {W w w' : World}
theorem grown_ext (h : Ext w w') (row : Option Nat) : w.grownBy w' row := ⟨h.os, h.tape, h.output, h.size, fun k hk _ => h.block hk⟩
theorem EvI.keep (h : EvI p V D W w) (g : w.grownBy w' (some D)) : KeepI w w' := by
  obtain ⟨us, hr, _⟩ := h.row
  exact KeepI.grown g fun k cur fr hk => ownsRow.int hr (by decide) k cur fr (by rw [← hk]; rfl)
theorem EvI.ext (h : EvI p V D W w) (e : Ext w w') : EvI p V D W w' := by
  obtain ⟨us, hr, hu⟩ := h.row
  exact ⟨grownBy.trans h.gr (grown_ext e _), us, hr.kept (grown_ext e none) (.inr (by simp [Value.ownBlock])), fun j u hj => (hu j u hj).imp id fun o => o.ext e⟩
theorem EvI.size (h : EvI p V D W w) : W.heap.size ≤ w.heap.size := h.gr.size
theorem EvC.same (C : EvC p V B E D mb a1 a2 c1 c2 n m pu tu f tm t W) (h : EvI p V D W w) : Same 0 B W w := fun b _ hb => h.gr.block b (by have := C.bB; omega) (by have := C.dB; simp; omega)
theorem EvC.boxE (C : EvC p V B E D mb a1 a2 c1 c2 n m pu tu f tm t W) (h : EvI p V D W w) : Bx w E #[.slice a1 p.ns.length c1, .slice a2 p.gs.length c2, .int .i64 n, pu, .int .i64 tm, .int .i64 t.log, tu, .map (some mb), .slice (some ⟨D, 0, none⟩) p.ns.length p.ns.length] 72 :=
  (h.gr.block E C.box.lt (by have := C.eD; simp; omega)).trans C.box
theorem EvC.mapE (C : EvC p V B E D mb a1 a2 c1 c2 n m pu tu f tm t W) (h : EvI p V D W w) : FM w mb p.gs p.gs.length := C.map.of_block (h.gr.block mb C.map.lt (by have := C.mD; simp; omega))
theorem NdsAt.same {lo hi : Nat} {a : Option Addr} {cap : Nat} {xs : List Nd} (h : NdsAt lo hi w a cap xs) (s : Same lo hi w w') : NdsAt lo hi w' a cap xs := by
  have h1 := (h.shut).same s
  obtain ⟨a', c', e, H⟩ := h1.open
  simp only [Value.slice.injEq, true_and] at e
  obtain ⟨rfl, rfl⟩ := e
  exact H
theorem AsgsAt.same {lo hi : Nat} {a : Option Addr} {cap : Nat} {xs : List Asg} (h : AsgsAt lo hi w a cap xs) (s : Same lo hi w w') : AsgsAt lo hi w' a cap xs := by
  have h1 := (h.shut).same s
  obtain ⟨a', c', e, H⟩ := h1.open
  simp only [Value.slice.injEq, true_and] at e
  obtain ⟨rfl, rfl⟩ := e
  exact H
/-- a row that is done is no nil slice -/
theorem OwnInts.nonnil {lo : Nat} {v : Value} {xs : List Int} (h : OwnInts lo w v xs) (hx : 1 ≤ xs.length) : ∃ g c, v = .slice (some ⟨g, 0, none⟩) xs.length c := by
  obtain ⟨⟨h1, h2⟩, _⟩ := h
  rcases h2 with ⟨rfl, h4⟩ | ⟨g, cap, cur, rfl, _⟩
  · omega
  · exact ⟨g, cap, rfl⟩
/-- a node's row is stored -/
theorem EvI.store (h : EvI p V D W w) {j : Nat} (hj : j < p.ns.length) {v : Value} (hv : OwnInts 0 w v (V j)) :
    D < w.heap.size ∧ (∃ x, w.cell? ⟨D, j, none⟩ = some x) ∧ w.frozen? ⟨D, j, none⟩ = false ∧ EvI p V D W (w.setCell ⟨D, j, none⟩ v) ∧ w.grownBy (w.setCell ⟨D, j, none⟩ v) (some D) ∧ OwnInts 0 (w.setCell ⟨D, j, none⟩ v) v (V j) := by
  have h0 := h
  obtain ⟨us, hr, hu⟩ := h.row
  have hst := hr.stored j v
  have hk := h0.keep hst.2
  have hl : us.length = p.ns.length := by have := hr.1; simpa using this
  refine ⟨(hr.lt D rfl).2, ⟨us[j]'(by omega), by rw [hr.cellAt j (by omega)]; simp [show j < us.length by omega]⟩, hr.frozenAt j, ⟨grownBy.trans h.gr hst.2, us.set j v, hst.1, fun i u hi => ?_⟩, hst.2, hv.keepI hk⟩
  rw [List.getElem?_set] at hi
  split at hi
  · rename_i e
    subst e
    split at hi
    · injection hi with hi
      subst hi
      exact .inr (hv.keepI hk)
    · cases hi
  · exact (hu i u hi).imp id fun o => o.keepI hk
/-- a node's row is read -/
theorem EvI.load (C : EvC p V B E D mb a1 a2 c1 c2 n m pu tu f tm t W) (h : EvI p V D W w) {j : Nat} (hj : j < p.ns.length) :
    D < w.heap.size ∧ ∃ u, w.cell? ⟨D, j, none⟩ = some u ∧ (u = .slice none 0 0 ∨ ∃ g c, u = .slice (some ⟨g, 0, none⟩) m c ∧ OwnInts 0 w (.slice (some ⟨g, 0, none⟩) m c) (V j)) := by
  obtain ⟨us, hr, hu⟩ := h.row
  have hl : us.length = p.ns.length := by have := hr.1; simpa using this
  have hg := C.good j hj
  have h1 := C.n1
  have h2 := C.hm
  have hm1 : 1 ≤ m := by rw [← h2]; exact Nat.mul_pos h1 h1
  refine ⟨(hr.lt D rfl).2, us[j]'(by omega), by rw [hr.cellAt j (by omega)]; simp [show j < us.length by omega], ?_⟩
  rcases hu j (us[j]'(by omega)) (by simp [show j < us.length by omega]) with e | o
  · exact .inl e
  · obtain ⟨g, c, e⟩ := o.nonnil (by rw [hg.1]; exact hm1)
    rw [e] at o ⊢
    rw [hg.1] at o ⊢
    exact .inr ⟨g, c, rfl, o⟩
end
theorem sliceNe1 (b off n cap : Nat) (w : World) : (binOp .neq 29 (.slice (some ⟨b, off, none⟩) n cap) (.slice none 0 0)).run Tryz.prog w = .ok (.bool true) w := by
  simp only [binOp]
  simp [Op.equal, Op.maxDepth, Lib.run_equalIn_slice_nil w 9999 29 3 (some ⟨b, off, none⟩) n cap 0 0 Tryz.underlying29]
theorem sliceNe0 (w : World) : (binOp .neq 29 (.slice none 0 0) (.slice none 0 0)).run Tryz.prog w = .ok (.bool false) w := by kernel_rfl
end Go.Proofs.YtaegmenjgjdimaaGreat
end

section
/- This text proves what the program's evaluator hands back for a node. -/
namespace Go.Proofs.YtaegmenjgjdimaaGreat
open Go.RowKit

section
variable {p : Prg} {V : Nat → List Int} {B E D mb : Nat} {a1 a2 : Option Addr} {c1 c2 n m : Nat} {pu tu : Value} {f : Nat → Int} {tm : Int} {t : Tex} {W w w' : World}
/-- a row of headers of the call's own is written: the evaluator stands -/
theorem EvI.args (h : EvI p V D W w) {row : Option Nat} (g : w.grownBy w' row) (hr : ∀ k, row = some k → W.heap.size ≤ k ∧ ∀ (cur : Array Value) (fr : Nat × Nat), w.heap[k]? ≠ some (.cells cur 3 fr)) (hd : D < W.heap.size) : EvI p V D W w' ∧ KeepI w w' := by
  have hk : KeepI w w' := KeepI.grown g fun k cur fr e => (hr k e).2 cur fr
  obtain ⟨us, hrow, hu⟩ := h.row
  have hne : some D ≠ row := fun e => by have := (hr D e.symm).1; omega
  refine ⟨⟨⟨g.os.trans h.gr.os, g.tape.trans h.gr.tape, g.output.trans h.gr.output, Nat.le_trans h.gr.size g.size, fun i hi hne' => ?_⟩, us, hrow.kept g (.inr (by simpa [Value.ownBlock] using hne)), fun j u hj => (hu j u hj).imp id fun o => o.keepI hk⟩, hk⟩
  rw [g.block i (Nat.lt_of_lt_of_le hi h.gr.size) (fun e => by have := (hr i e.symm).1; omega)]
  exact h.gr.block i hi hne'
theorem grown_low {row : Option Nat} {w2 w3 : World} (h : w.grownBy w2 (some D)) (g : w2.grownBy w3 row) (hr : ∀ k, row = some k → w.heap.size ≤ k) : w.grownBy w3 (some D) :=
  ⟨g.os.trans h.os, g.tape.trans h.tape, g.output.trans h.output, Nat.le_trans h.size g.size, fun i hi hne => (g.block i (Nat.lt_of_lt_of_le hi h.size) (fun e => by have := hr i e.symm; omega)).trans (h.block i hi hne)⟩
theorem IntsAt.same {lo hi : Nat} {a : Option Addr} {cap : Nat} {xs : List Int} (h : IntsAt lo hi w a cap xs) (s : Same lo hi w w') : IntsAt lo hi w' a cap xs := by
  have h1 := (h.shut).same s
  obtain ⟨a', c', e, H⟩ := h1.open
  simp only [Value.slice.injEq, true_and] at e
  obtain ⟨rfl, rfl⟩ := e
  exact H
theorem SS.of_row {lo k : Nat} {av : Value} {vs : List Value} {S : List (List Int)} (h : w.ownsRow lo 29 1 av k vs) (hl : S.length = k) (hu : ∀ (q : Nat) (v : Value) (xs : List Int), vs[q]? = some v → S[q]? = some xs → OwnInts 0 w v xs) : SS 0 w.heap.size w av S := by
  have h1 : vs.length = k := by have := h.1; simpa using this
  rcases h.2 with ⟨rfl, h4⟩ | ⟨g, cap, cur, rfl, hb, hg, hc, hm, hs, ht⟩
  · have hk : k = 0 := by simpa using h4
    subst hk
    have : S = [] := List.length_eq_zero_iff.1 hl
    subst this
    exact ⟨none, 0, rfl, Nat.le_refl _, by unfold maxLen; omega, fun i xs h => by simp at h⟩
  · refine ⟨some ⟨g, 0, none⟩, cap, by rw [hl], by rw [hl]; exact hc, hm, fun i xs hi => ?_⟩
    have hi' := (List.getElem?_eq_some_iff.1 hi).1
    have hv : vs[i]? = some (vs[i]'(by omega)) := by simp [show i < vs.length by omega]
    refine ⟨g, 0, vs[i]'(by omega), rfl, Nat.zero_le _, (Array.getElem?_eq_some_iff.1 hg).1, ?_, (hu i _ xs hv hi).ints⟩
    rw [Nat.zero_add, h.cellAt i (by omega), hv]
theorem ownsRow.slotE {lo k : Nat} {av : Value} {vs : List Value} (h : w.ownsRow lo 29 1 av k vs) (hk : 1 ≤ k) : ∃ g c, av = .slice (some ⟨g, 0, none⟩) k c ∧ lo ≤ g ∧ g < w.heap.size := by
  rcases h.2 with ⟨rfl, h4⟩ | ⟨g, cap, cur, rfl, hb, hg, _⟩
  · have : k = 0 := by simpa using h4
    omega
  · exact ⟨g, cap, rfl, hb, (Array.getElem?_eq_some_iff.1 hg).1⟩
theorem OwnInts.slot {lo k : Nat} {v : Value} {xs : List Int} (h : OwnInts lo w v xs) (hx : xs.length = k) (hk : 1 ≤ k) : ∃ g c, v = .slice (some ⟨g, 0, none⟩) k c := by
  subst hx
  exact h.nonnil hk
set_option maxRecDepth 100000 in
set_option maxHeartbeats 25600000 in
theorem iValues_any (C : EvC p V B E D mb a1 a2 c1 c2 n m pu tu f tm t W) (F : Nat) :
    ∀ (node : Nat) (w : World), p.rank node < F → node < p.ns.length → EvI p V D W w →
    Calls Tryz.prog 28 #[.pointer (some ⟨E, 0, none⟩), .int .i64 node] w fun e w' => (∃ g c, e = .returned (.slice (some ⟨g, 0, none⟩) m c) ∧ OwnInts 0 w' (.slice (some ⟨g, 0, none⟩) m c) (V node)) ∧ EvI p V D W w' ∧ w.grownBy w' (some D) := by
  have hm1 : 1 ≤ m := by have h1 := C.n1; rw [← C.hm]; exact Nat.mul_pos h1 h1
  have hm64 : m ≤ 64 := by
    have := C.n8
    have h2 := C.hm
    have : n * n ≤ 8 * 8 := Nat.mul_le_mul C.n8 C.n8
    omega
  have hmi : (n : Int) * n = m := by rw [← C.hm]; simp
  have HMI := hid hmi
  clear hmi
  induction F with
  | zero => intro node w h; omega
  | succ F ih =>
    intro node w hF hnode hI
    have hB := C.boxE hI
    obtain ⟨hD, u, hu, hcase⟩ := EvI.load C hI hnode
    have l5 := C.k.v.len
    have IH := hid ih
    have HC := hid C
    have HII := hid hI
    have eD := C.eD
    have q := hB.lt
    have q0 := hB.cell 0
    simp only [List.getElem?_toArray, List.getElem?_cons_zero, List.getElem?_cons_succ] at q0
    have q1 := hB.cell 1
    simp only [List.getElem?_toArray, List.getElem?_cons_zero, List.getElem?_cons_succ] at q1
    have q2 := hB.cell 2
    simp only [List.getElem?_toArray, List.getElem?_cons_zero, List.getElem?_cons_succ] at q2
    have q3 := hB.cell 3
    simp only [List.getElem?_toArray, List.getElem?_cons_zero, List.getElem?_cons_succ] at q3
    have q4 := hB.cell 4
    simp only [List.getElem?_toArray, List.getElem?_cons_zero, List.getElem?_cons_succ] at q4
    have q5 := hB.cell 5
    simp only [List.getElem?_toArray, List.getElem?_cons_zero, List.getElem?_cons_succ] at q5
    have q6 := hB.cell 6
    simp only [List.getElem?_toArray, List.getElem?_cons_zero, List.getElem?_cons_succ] at q6
    have q7 := hB.cell 7
    simp only [List.getElem?_toArray, List.getElem?_cons_zero, List.getElem?_cons_succ] at q7
    have q8 := hB.cell 8
    simp only [List.getElem?_toArray, List.getElem?_cons_zero, List.getElem?_cons_succ] at q8
    clear hB ih
    rcases hcase with rfl | ⟨g, c, rfl, hO⟩
    case inr =>
      have HO := hid hO
      have hne := fun w => sliceNe1 g 0 m c w
      clear hO hI C
      go_enter Tryz.func28, Tryz.ntmps28
      go_wp2
      go_ret
      exact ⟨⟨_, _, rfl, HO.out⟩, HII.out, grownBy.refl _ _⟩
    case inl =>
      have hs0 := HC.out.same hI
      have hBw : B ≤ w.heap.size := Nat.le_trans HC.out.bB hI.size
      obtain ⟨b, off, op, s, num, sa, sc, ra, rfl, hb1, hbw, hget, io, inn, -, HI, y0, y1, y2, y3⟩ := (HC.out.nodes.same hs0).atW hnode (Ext.refl w) hBw
      have HG := hid hget
      have li1 := HI.le
      have li2 := HI.cap
      have hne := sliceNe0
      have HS0 := hid hs0
      have lar : Hid (ra.length ≤ 3) := hid (nodeF_len (HC.out.k.v.nd node _ hget).1)
      have hlar := lar.out
      have hWw := hI.size
      clear hs0 hget hI C
      go_enter Tryz.func28, Tryz.ntmps28
      go_wp2
      have HI1 := hid (HII.out.ext (show Ext w ((w.alloc (.cells #[] 29)).alloc (.cells #[.int .i64 op, .string s, .int .i64 num, .slice sa ra.length sc] 79)) from (by repeat (with_reducible (first | assumption | exact Ext.refl _ | apply Ext.alloc | apply Ext.drew | apply Ext.drewN)))))
      have HR1 := hid ((ownsRow.empty (lo := w.heap.size) (w := w.alloc (.cells #[] 29)) (e := 29) (g := w.heap.size) (Nat.le_refl _) (heap_alloc_new w _)).alloc (.cells #[.int .i64 op, .string s, .int .i64 num, .slice sa ra.length sc] 79))
      have HB1 := hid (Bx.madeAt (B := w.heap.size + 1) (w.alloc (.cells #[] 29)) #[.int .i64 op, .string s, .int .i64 num, .slice sa ra.length sc] 79 (by simp))
      go_loopw [6, 37] (fun av i wr => ∃ (j : Nat) (vs : List Value), j ≤ ra.length ∧ i = .int .i64 j ∧ wr.ownsRow w.heap.size 29 1 av j vs ∧ (∀ (q : Nat) (v : Value) (y : Int), vs[q]? = some v → ra[q]? = some y → OwnInts 0 wr v (V y.toNat)) ∧ EvI p V D W wr ∧ Bx wr (w.heap.size + 1) #[.int .i64 op, .string s, .int .i64 num, .slice sa ra.length sc] 79 ∧ w.grownBy wr (some D)) (fun _ i _ => ra.length - (intOf i).toNat)
      case atStart => exact ⟨0, [], by omega, rfl, HR1.out, fun q v y h => by simp at h, HI1.out, HB1.out, grown_ext (by repeat (with_reducible (first | assumption | exact Ext.refl _ | apply Ext.alloc | apply Ext.drew | apply Ext.drewN))) _⟩
      case round =>
        clear HI1 HR1 HB1 hD hu q q0 q1 q2 q3 q4 q5 q6 q7 q8 y0 y1 y2 y3
        obtain ⟨j, vs, hj, rfl, hR, hvs, hI, hB, hg⟩ := hrel
        have HR := hid hR
        have HVS := hid hvs
        have HI2 := hid hI
        have HB := hid hB
        have HGR := hid hg
        by_cases hlj : j < ra.length
        · have hS2 : Same 0 B w wr := fun b h1 h2 => (HC.out.same hI b h1 h2).trans (HS0.out b h1 h2).symm
          obtain ⟨b3, off3, y, rfl, hb3, hy, _, hc3⟩ := (HI.same hS2).atE hlj (Ext.refl wr) (Nat.le_trans HC.out.bB hI.size)
          have hr := HC.out.k.rank_arg HG.out (List.mem_of_getElem? hy)
          have hyb := (HC.out.k.v.nd node _ HG.out).2 y (List.mem_of_getElem? hy)
          obtain ⟨z, rfl⟩ : ∃ z : Nat, y = z := ⟨y.toNat, by omega⟩
          rw [Int.toNat_natCast] at hr
          have HY := hid hy
          have hrk : p.rank z < F := by omega
          have hzl : z < p.ns.length := by omega
          clear hR hvs hI hB hg hy hr hyb hS2
          go_wp2_with fail
          refine (IH.out z _ hrk hzl HI2.out).mono ?_
          rintro e w2 ⟨⟨g, c, rfl, hO⟩, hI3, hg3⟩
          have hk3 := HI2.out.keep hg3
          have hzw := HGR.out.size
          have hz3 := hg3.size
          have hown : ∀ k, u6.ownBlock = some k → w.heap.size ≤ k := fun k hk => (HR.out.lt k hk).1
          have hR3 := (HR.out.kept hg3 (by
            cases e : u6.ownBlock with
            | none => exact .inl rfl
            | some k => right; intro e2; injection e2 with e2; have := hown k e; have := HC.out.dl; omega)).alloc (.cells #[.slice (some ⟨g, 0, none⟩) m c] 29)
          have HR3 := hid hR3
          have hx3 : Ext w2 (w2.alloc (.cells #[.slice (some ⟨g, 0, none⟩) m c] 29)) := (by repeat (with_reducible (first | assumption | exact Ext.refl _ | apply Ext.alloc | apply Ext.drew | apply Ext.drewN)))
          have HI4 := hid (hI3.ext hx3)
          have HO4 := hid (hO.ext hx3)
          have HV4 := hid (fun (q : Nat) (v : Value) (y : Int) (h1 : vs[q]? = some v) (h2 : ra[q]? = some y) => ((HVS.out q v y h1 h2).keepI hk3).ext hx3)
          have HB4 := hid ((show Bx w2 (w.heap.size + 1) _ _ from (hg3.block (w.heap.size + 1) HB.out.lt (by have := HC.out.dl; simp; omega)).trans HB.out).ext hx3)
          have HG4 := hid (grownBy.trans (grownBy.trans HGR.out hg3) (grown_ext hx3 (some D)))
          have hown2 := hid hown
          clear hR3 hx3 hI3 hg3 hO hk3 HR HVS HI2 HB hown
          go_wp2_with (at_builtin; refine wpList_append_row _ rfl _ _ rfl w.heap.size u6 j vs rfl HR3.out (.slice (some ⟨g, 0, none⟩) m c) rfl w2.heap.size rfl (by simp [go_sem]) (by omega) (by simp; omega) ?_; intro v' w3 hown' hgrow)
          obtain ⟨hI5, hk5⟩ := HI4.out.args hgrow (fun k hk => ⟨by have := hown2.out k hk; omega, fun cur fr => ownsRow.int HR3.out (by decide) k cur fr hk⟩) HC.out.dl
          have hB5 : Bx w3 (w.heap.size + 1) _ _ := (hgrow.block (w.heap.size + 1) HB4.out.lt (fun e => ownsRow.not HR3.out HB4.out (by decide) e.symm)).trans HB4.out
          have hG5 := grown_low HG4.out hgrow hown2.out
          have HR5 := hid hown'
          have HI5 := hid hI5
          have HB5 := hid hB5
          have HG5 := hid hG5
          have HK5 := hid hk5
          clear hown' hgrow hI5 hk5 hB5 hG5
          go_wp2
          go_roundw
          case rel =>
            refine ⟨j + 1, vs ++ [.slice (some ⟨g, 0, none⟩) m c], by omega, by go_num, HR5.out, fun q v y h1 h2 => ?_, HI5.out, HB5.out, HG5.out⟩
            have hvl : vs.length = j := by have := HR3.out.1; simpa using this
            by_cases e : q < vs.length
            · rw [List.getElem?_append_left e] at h1
              exact (HV4.out q v y h1 h2).keepI HK5.out
            · rw [List.getElem?_append_right (by omega)] at h1
              have hq := (List.getElem?_eq_some_iff.1 h1).1
              simp at hq
              have hqj : q = j := by omega
              subst hqj
              rw [HY.out] at h2
              injection h2 with h2
              subst h2
              rw [show q - vs.length = 0 by omega] at h1
              simp at h1
              subst h1
              rw [Int.toNat_natCast]
              exact HO4.out.keepI HK5.out
          case measure => simp [intOf]; omega
        · --BRANCHES
          obtain rfl : j = ra.length := by omega
          have hSS : SS 0 wr.heap.size wr u6 (ra.map fun a => V a.toNat) := SS.of_row hR (by simp) (fun q v xs h1 h2 => by
            rw [List.getElem?_map] at h2
            cases h3 : ra[q]? with
            | none => rw [h3] at h2; cases h2
            | some y => rw [h3] at h2; injection h2 with h2; subst h2; exact hvs q v y h1 h3)
          have HSS := hid hSS
          have HI := hid hI
          have hBE := HC.out.boxE hI
          have HSB := hid (HC.out.same hI)
          have hWr := hI.size
          have q := hBE.lt
          have q0 := hBE.cell 0
          simp only [List.getElem?_toArray, List.getElem?_cons_zero, List.getElem?_cons_succ] at q0
          have q1 := hBE.cell 1
          simp only [List.getElem?_toArray, List.getElem?_cons_zero, List.getElem?_cons_succ] at q1
          have q2 := hBE.cell 2
          simp only [List.getElem?_toArray, List.getElem?_cons_zero, List.getElem?_cons_succ] at q2
          have q3 := hBE.cell 3
          simp only [List.getElem?_toArray, List.getElem?_cons_zero, List.getElem?_cons_succ] at q3
          have q4 := hBE.cell 4
          simp only [List.getElem?_toArray, List.getElem?_cons_zero, List.getElem?_cons_succ] at q4
          have q5 := hBE.cell 5
          simp only [List.getElem?_toArray, List.getElem?_cons_zero, List.getElem?_cons_succ] at q5
          have q6 := hBE.cell 6
          simp only [List.getElem?_toArray, List.getElem?_cons_zero, List.getElem?_cons_succ] at q6
          have q7 := hBE.cell 7
          simp only [List.getElem?_toArray, List.getElem?_cons_zero, List.getElem?_cons_succ] at q7
          have q8 := hBE.cell 8
          simp only [List.getElem?_toArray, List.getElem?_cons_zero, List.getElem?_cons_succ] at q8
          have d := hB.lt
          have d0 := hB.cell 0
          simp only [List.getElem?_toArray, List.getElem?_cons_zero, List.getElem?_cons_succ] at d0
          have d1 := hB.cell 1
          simp only [List.getElem?_toArray, List.getElem?_cons_zero, List.getElem?_cons_succ] at d1
          have d2 := hB.cell 2
          simp only [List.getElem?_toArray, List.getElem?_cons_zero, List.getElem?_cons_succ] at d2
          have d3 := hB.cell 3
          simp only [List.getElem?_toArray, List.getElem?_cons_zero, List.getElem?_cons_succ] at d3
          have HGO := hid (fun r (h : r ∈ (ra.map fun a => V a.toNat)) => (by
            obtain ⟨a, ha, rfl⟩ := List.mem_map.1 h
            exact HC.out.good _ (HC.out.k.rank_arg HG.out ha).2.1 : good m r))
          have hdl := HC.out.dl
          have hzw := hg.size
          have hnD : w.heap.size + 1 ≠ D := by omega
          have HVE := hid (HC.out.step node _ HG.out)
          have hnodeF := (HC.out.k.v.nd node _ HG.out).1
          have HRR := hid hR
          have hvs0 := hid hvs
          clear hR hvs hI hB hg hBE hSS HR HVS HI2 HB
          rcases nodeF_op hnodeF with ⟨o, h2, h3⟩ | ⟨o, h3⟩ | ⟨o, h3⟩ | ⟨o, o', h3⟩ | ⟨o, h3⟩
          all_goals simp only at o h3
          case inl =>
            subst o
            have HV : Hid (V node = List.replicate m num) := hid (by rw [HVE.out]; rfl)
            clear HVE hnodeF
            go_wp2_with fail
            refine wp_region_stagesS [([0, 1, 2, 3, 4, 5], 6), ([], 7)] 99 (fun w' => ∃ d, w' = lowx (wr.heap.size) (D) _ d) (by kernel_rfl) (by kernel_rfl) ⟨_, lowx_of (fun _ _ _ => rfl)⟩ ?_
            refine wpStagesS_cons ?_
            simp only [List.filterMap_cons, List.filterMap_nil, List.getElem?_toArray, List.getElem?_cons_zero, List.getElem?_cons_succ]
            show wpQuiet _ _ _ _ [_, _, _, _, _, _] _
            repeat (go_big_quiet_step (fail))
            refine wpQuiet_nil ⟨_, rfl, fun K hK => ?_⟩
            go_wp2_with fail
            refine (iConstant_any num n m pu tm t.log tu _ HMI.out (by omega) inn).mono ?_
            rintro e w5 ⟨r, rfl, hO, x5⟩
            have X5 : Ext wr w5 := Ext.trans (by repeat (with_reducible (first | assumption | exact Ext.refl _ | apply Ext.alloc | apply Ext.drew | apply Ext.drewN))) x5
            obtain ⟨g, c, rfl⟩ := hO.slot (k := m) (by simp) hm1
            have HO5 : Hid (OwnInts 0 w5 (.slice (some ⟨g, 0, none⟩) m c) (V node)) := hid (by rw [HV.out]; exact hO.low (Nat.zero_le _))
            have HI5 := hid (HI.out.ext X5)
            have HG5 := hid (grown_ext X5 (some D))
            clear hO
            go_wp2_with fail
            refine hK _ _ (.inr ⟨_, lowx_of (fun b hb _ => X5.block hb)⟩) ?_
            clear hK K
            refine wpStagesS_cons ?_
            simp only [List.filterMap_nil]
            show wpQuiet _ _ _ _ [] _
            try simp only [Act.put, List.setIfInBounds_toArray, List.set_cons_succ, List.set_cons_zero]
            repeat (go_big_quiet_step (fail))
            refine wpQuiet_nil ⟨_, rfl, fun K hK => ?_⟩
            go_wp2_with fail
            go_wp2_with fail
            refine hK _ _ (.inr ⟨_, lowx_of (fun b hb _ => X5.block hb)⟩) ?_
            clear hK K
            refine wpStagesS_nil ?_
            obtain ⟨e1, ⟨ex, e2⟩, e3, hI6, hg6, hO6⟩ := EvI.store HI5.out hnode HO5.out
            have hB6 := HC.out.boxE HI5.out
            have z := hB6.lt
            have z0 := hB6.cell 0
            simp only [List.getElem?_toArray, List.getElem?_cons_zero, List.getElem?_cons_succ] at z0
            have z1 := hB6.cell 1
            simp only [List.getElem?_toArray, List.getElem?_cons_zero, List.getElem?_cons_succ] at z1
            have z2 := hB6.cell 2
            simp only [List.getElem?_toArray, List.getElem?_cons_zero, List.getElem?_cons_succ] at z2
            have z3 := hB6.cell 3
            simp only [List.getElem?_toArray, List.getElem?_cons_zero, List.getElem?_cons_succ] at z3
            have z4 := hB6.cell 4
            simp only [List.getElem?_toArray, List.getElem?_cons_zero, List.getElem?_cons_succ] at z4
            have z5 := hB6.cell 5
            simp only [List.getElem?_toArray, List.getElem?_cons_zero, List.getElem?_cons_succ] at z5
            have z6 := hB6.cell 6
            simp only [List.getElem?_toArray, List.getElem?_cons_zero, List.getElem?_cons_succ] at z6
            have z7 := hB6.cell 7
            simp only [List.getElem?_toArray, List.getElem?_cons_zero, List.getElem?_cons_succ] at z7
            have z8 := hB6.cell 8
            simp only [List.getElem?_toArray, List.getElem?_cons_zero, List.getElem?_cons_succ] at z8
            have HI6 := hid hI6
            have HO6 := hid hO6
            have HG6 := hid hg6
            clear hB6 hI6 hg6 hO6 HI5 HO5
            go_wp2
            go_ret
            exact ⟨⟨_, _, rfl, HO6.out⟩, HI6.out, grownBy.trans (grownBy.trans HGR.out HG5.out) HG6.out⟩
          case inr.inl =>
            subst o
            cases hv : isVar s
            case true =>
              have HV : Hid (V node = (List.range m).map (varL s.toList f tm)) := hid (by rw [HVE.out]; simp [evB, hv])
              have HBV := hid hv
              have HPT := hid (HC.out.pts.same HSB.out)
              clear HVE hnodeF hv
              go_wp2_with fail
              refine (iIsVariable_val HBV.out _).mono ?_
              rintro e w4 ⟨rfl, rfl⟩
              go_wp2_with fail
              refine wp_region_stagesS [([0, 1, 2, 3, 4, 5], 6), ([], 7)] 99 (fun w' => ∃ d, w' = lowx (wr.heap.size) (D) _ d) (by kernel_rfl) (by kernel_rfl) ⟨_, lowx_of (fun _ _ _ => rfl)⟩ ?_
              refine wpStagesS_cons ?_
              simp only [List.filterMap_cons, List.filterMap_nil, List.getElem?_toArray, List.getElem?_cons_zero, List.getElem?_cons_succ]
              show wpQuiet _ _ _ _ [_, _, _, _, _, _] _
              repeat (go_big_quiet_step (fail))
              refine wpQuiet_nil ⟨_, rfl, fun K hK => ?_⟩
              go_wp2_with fail
              refine (iLoaded_any s 0 B n m pu tu f tm t.log _ (HPT.out.ext (by omega) (by repeat (with_reducible (first | assumption | exact Ext.refl _ | apply Ext.alloc | apply Ext.drew | apply Ext.drewN)))) (by simp; omega) HMI.out hm64 (by have := HC.out.tm9; exact ⟨by have := this.1; omega, by have := this.2; omega⟩)).mono ?_
              rintro e w5 ⟨r, rfl, hO, x5⟩
              have X5 : Ext wr w5 := Ext.trans (by repeat (with_reducible (first | assumption | exact Ext.refl _ | apply Ext.alloc | apply Ext.drew | apply Ext.drewN))) x5
              obtain ⟨g, c, rfl⟩ := hO.slot (k := m) (by simp) hm1
              have HO5 : Hid (OwnInts 0 w5 (.slice (some ⟨g, 0, none⟩) m c) (V node)) := hid (by rw [HV.out]; exact hO.low (Nat.zero_le _))
              have HI5 := hid (HI.out.ext X5)
              have HG5 := hid (grown_ext X5 (some D))
              clear hO
              go_wp2_with fail
              refine hK _ _ (.inr ⟨_, lowx_of (fun b hb _ => X5.block hb)⟩) ?_
              clear hK K
              refine wpStagesS_cons ?_
              simp only [List.filterMap_nil]
              show wpQuiet _ _ _ _ [] _
              try simp only [Act.put, List.setIfInBounds_toArray, List.set_cons_succ, List.set_cons_zero]
              repeat (go_big_quiet_step (fail))
              refine wpQuiet_nil ⟨_, rfl, fun K hK => ?_⟩
              go_wp2_with fail
              go_wp2_with fail
              refine hK _ _ (.inr ⟨_, lowx_of (fun b hb _ => X5.block hb)⟩) ?_
              clear hK K
              refine wpStagesS_nil ?_
              obtain ⟨e1, ⟨ex, e2⟩, e3, hI6, hg6, hO6⟩ := EvI.store HI5.out hnode HO5.out
              have hB6 := HC.out.boxE HI5.out
              have z := hB6.lt
              have z0 := hB6.cell 0
              simp only [List.getElem?_toArray, List.getElem?_cons_zero, List.getElem?_cons_succ] at z0
              have z1 := hB6.cell 1
              simp only [List.getElem?_toArray, List.getElem?_cons_zero, List.getElem?_cons_succ] at z1
              have z2 := hB6.cell 2
              simp only [List.getElem?_toArray, List.getElem?_cons_zero, List.getElem?_cons_succ] at z2
              have z3 := hB6.cell 3
              simp only [List.getElem?_toArray, List.getElem?_cons_zero, List.getElem?_cons_succ] at z3
              have z4 := hB6.cell 4
              simp only [List.getElem?_toArray, List.getElem?_cons_zero, List.getElem?_cons_succ] at z4
              have z5 := hB6.cell 5
              simp only [List.getElem?_toArray, List.getElem?_cons_zero, List.getElem?_cons_succ] at z5
              have z6 := hB6.cell 6
              simp only [List.getElem?_toArray, List.getElem?_cons_zero, List.getElem?_cons_succ] at z6
              have z7 := hB6.cell 7
              simp only [List.getElem?_toArray, List.getElem?_cons_zero, List.getElem?_cons_succ] at z7
              have z8 := hB6.cell 8
              simp only [List.getElem?_toArray, List.getElem?_cons_zero, List.getElem?_cons_succ] at z8
              have HI6 := hid hI6
              have HO6 := hid hO6
              have HG6 := hid hg6
              clear hB6 hI6 hg6 hO6 HI5 HO5
              go_wp2
              go_ret
              exact ⟨⟨_, _, rfl, HO6.out⟩, HI6.out, grownBy.trans (grownBy.trans HGR.out HG5.out) HG6.out⟩
            case false =>
              obtain ⟨i, hi, hik⟩ := HC.out.k.name node _ HG.out rfl hv
              simp only at hi
              obtain ⟨s', hg1, _, how, hrl⟩ := HC.out.k.root hi
              have hrk := HC.out.k.rank_name HG.out rfl hv
              simp only at hrk
              have HV : Hid (V node = V (p.rootOf s)) := hid (by rw [HVE.out]; simp [evB, hv])
              obtain ⟨rt, hrt⟩ : ∃ rt, p.rootOf s = rt := ⟨_, rfl⟩
              rw [hrt] at hg1 how hrl hrk HV
              have hil := (List.getElem?_eq_some_iff.1 hg1).1
              obtain ⟨_, b4, off4, ea4, _, hb4, z0, z1⟩ := (HC.out.asgs.same HSB.out).cell i _ hg1
              simp only at z0 z1
              have hdB := HC.out.dB
              have hb4D : b4 ≠ D := by omega
              have hb4w : b4 < wr.heap.size := by omega
              subst ea4
              have hla := (HC.out.asgs).le
              have hlc := (HC.out.asgs).cap
              have hsz := HC.out.bd.1 _ (List.mem_of_getElem? HG.out)
              simp only at hsz
              have hM := HC.out.mapE HI.out
              have hmD := HC.out.mD
              have hlook : ∀ d, (Instr.lookup 69 (.map (some mb)) (.string s) false).run Tryz.prog (lowx wr.heap.size D wr d) = .ok (.int .i64 (i : Int)) (lowx wr.heap.size D wr d) := fun d => (hM.of_block (w' := lowx wr.heap.size D wr d) (lowx_same _ _ _ _ _ hM.lt hmD)).look hsz hi
              have hlook2 : ∀ d, (Instr.lookup 69 (.map (some mb)) (.string s) false).run Tryz.prog (lowx wr.heap.size D wr.drew d) = .ok (.int .i64 (i : Int)) (lowx wr.heap.size D wr.drew d) := fun d => ((hM.ext ((Ext.refl wr).drew)).of_block (w' := lowx wr.heap.size D wr.drew d) (lowx_same _ _ _ _ _ hM.lt hmD)).look hsz hi
              have HBV := hid hv
              clear HVE hnodeF hv hM hg1 hi
              go_wp2_with fail
              refine (iIsVariable_val HBV.out _).mono ?_
              rintro e w4 ⟨rfl, rfl⟩
              go_wp2_with fail
              refine wp_region_stagesS [([0, 1, 2, 3, 4, 5, 6, 7, 8, 9, 10, 11, 12, 13, 14, 15], 16), ([], 17)] 99 (fun w' => ∃ d, w' = lowx (wr.heap.size) (D) _ d) (by kernel_rfl) (by kernel_rfl) ⟨_, lowx_of (fun _ _ _ => rfl)⟩ ?_
              refine wpStagesS_cons ?_
              simp only [List.filterMap_cons, List.filterMap_nil, List.getElem?_toArray, List.getElem?_cons_zero, List.getElem?_cons_succ]
              show wpQuiet _ _ _ _ [_, _, _, _, _, _, _, _, _, _, _, _, _, _, _, _] _
              repeat (go_big_quiet_step (fail))
              refine wpQuiet_nil ⟨_, rfl, fun K hK => ?_⟩
              go_wp2_with fail
              refine (IH.out rt _ (by omega) hrl (HI.out.ext ((Ext.refl wr).drew))).mono ?_
              rintro e w5 ⟨⟨g, c, rfl, hO⟩, hI5, hg5⟩
              have hg5' : wr.grownBy w5 (some D) := grownBy.trans (grown_ext ((Ext.refl wr).drew) _) hg5
              have HO5 : Hid (OwnInts 0 w5 (.slice (some ⟨g, 0, none⟩) m c) (V node)) := hid (by rw [HV.out]; exact hO)
              have HI5 := hid hI5
              have HG5 := hid hg5'
              have HGd := hid hg5
              clear hO hI5 hg5 hlook hlook2
              go_wp2_with fail
              refine hK _ _ (.inr ⟨_, lowx_of (SameX.gr HGd.out (Nat.le_refl _))⟩) ?_
              clear hK K
              refine wpStagesS_cons ?_
              simp only [List.filterMap_nil]
              show wpQuiet _ _ _ _ [] _
              try simp only [Act.put, List.setIfInBounds_toArray, List.set_cons_succ, List.set_cons_zero]
              repeat (go_big_quiet_step (fail))
              refine wpQuiet_nil ⟨_, rfl, fun K hK => ?_⟩
              go_wp2_with fail
              go_wp2_with fail
              refine hK _ _ (.inr ⟨_, lowx_of (SameX.gr HGd.out (Nat.le_refl _))⟩) ?_
              clear hK K
              refine wpStagesS_nil ?_
              obtain ⟨e1, ⟨ex, e2⟩, e3, hI6, hg6, hO6⟩ := EvI.store HI5.out hnode HO5.out
              have hB6 := HC.out.boxE HI5.out
              have z := hB6.lt
              have z0 := hB6.cell 0
              simp only [List.getElem?_toArray, List.getElem?_cons_zero, List.getElem?_cons_succ] at z0
              have z1 := hB6.cell 1
              simp only [List.getElem?_toArray, List.getElem?_cons_zero, List.getElem?_cons_succ] at z1
              have z2 := hB6.cell 2
              simp only [List.getElem?_toArray, List.getElem?_cons_zero, List.getElem?_cons_succ] at z2
              have z3 := hB6.cell 3
              simp only [List.getElem?_toArray, List.getElem?_cons_zero, List.getElem?_cons_succ] at z3
              have z4 := hB6.cell 4
              simp only [List.getElem?_toArray, List.getElem?_cons_zero, List.getElem?_cons_succ] at z4
              have z5 := hB6.cell 5
              simp only [List.getElem?_toArray, List.getElem?_cons_zero, List.getElem?_cons_succ] at z5
              have z6 := hB6.cell 6
              simp only [List.getElem?_toArray, List.getElem?_cons_zero, List.getElem?_cons_succ] at z6
              have z7 := hB6.cell 7
              simp only [List.getElem?_toArray, List.getElem?_cons_zero, List.getElem?_cons_succ] at z7
              have z8 := hB6.cell 8
              simp only [List.getElem?_toArray, List.getElem?_cons_zero, List.getElem?_cons_succ] at z8
              have HI6 := hid hI6
              have HO6 := hid hO6
              have HG6 := hid hg6
              clear hB6 hI6 hg6 hO6 HI5 HO5
              go_wp2
              go_ret
              exact ⟨⟨_, _, rfl, HO6.out⟩, HI6.out, grownBy.trans (grownBy.trans HGR.out HG5.out) HG6.out⟩
          case inr.inr.inl =>
            subst o
            obtain ⟨g0, cap0, rfl, hgw, hg0⟩ := ownsRow.slotE HRR.out (by omega)
            have hg0D : g0 ≠ D := by omega
            obtain ⟨x0, hx0⟩ : ∃ x0, vs[0]? = some x0 := ⟨vs[0]'(by have := HRR.out.1; simp at this; omega), by simp⟩
            have k0 := HRR.out.cellAt 0 (by omega)
            rw [hx0] at k0
            obtain ⟨y0, hy0⟩ : ∃ y0, ra[0]? = some y0 := ⟨ra[0]'(by omega), by simp⟩
            have HO0 := hid (hvs0.out 0 x0 y0 hx0 hy0)
            have hgd := HC.out.good _ (HC.out.k.rank_arg HG.out (List.mem_of_getElem? hy0)).2.1
            have HGD := hid hgd
            have HV : Hid (V node = List.zipWith (arithI 3) (V y0.toNat) (V y0.toNat)) := hid (by
              rw [HVE.out]
              simp [evB, hy0])
            clear HVE hnodeF hx0 hy0 hgd
            go_wp2_with fail
            refine wp_region_stagesS [([0, 1, 2, 3, 4, 5, 6, 7], 8), ([], 9)] 99 (fun w' => ∃ d, w' = lowx (wr.heap.size) (D) _ d) (by kernel_rfl) (by kernel_rfl) ⟨_, lowx_of (fun _ _ _ => rfl)⟩ ?_
            refine wpStagesS_cons ?_
            simp only [List.filterMap_cons, List.filterMap_nil, List.getElem?_toArray, List.getElem?_cons_zero, List.getElem?_cons_succ]
            show wpQuiet _ _ _ _ [_, _, _, _, _, _, _, _] _
            repeat (go_big_quiet_step (fail))
            refine wpQuiet_nil ⟨_, rfl, fun K hK => ?_⟩
            go_wp2_with fail
            refine (iCombined_any 0 wr.heap.size 0 wr.heap.size x0 x0 3 (V y0.toNat) (V y0.toNat) _ (by unfold opsOk; omega) (HO0.out.ints.ext (Nat.le_refl _) (by repeat (with_reducible (first | assumption | exact Ext.refl _ | apply Ext.alloc | apply Ext.drew | apply Ext.drewN)))) (by simp) (HO0.out.ints.ext (Nat.le_refl _) (by repeat (with_reducible (first | assumption | exact Ext.refl _ | apply Ext.alloc | apply Ext.drew | apply Ext.drewN)))) (by simp) rfl (by rw [HGD.out.1]; omega) HGD.out.2 HGD.out.2).mono ?_
            rintro e w5 ⟨r, rfl, hO, x5⟩
            have X5 : Ext wr w5 := Ext.trans (by repeat (with_reducible (first | assumption | exact Ext.refl _ | apply Ext.alloc | apply Ext.drew | apply Ext.drewN))) x5
            obtain ⟨g, c, rfl⟩ := hO.slot (k := m) (by simp [HGD.out.1]) hm1
            have HO5 : Hid (OwnInts 0 w5 (.slice (some ⟨g, 0, none⟩) m c) (V node)) := hid (by rw [HV.out]; exact hO.low (Nat.zero_le _))
            have HI5 := hid (HI.out.ext X5)
            have HG5 := hid (grown_ext X5 (some D))
            clear hO
            go_wp2_with fail
            refine hK _ _ (.inr ⟨_, lowx_of (fun b hb _ => X5.block hb)⟩) ?_
            clear hK K
            refine wpStagesS_cons ?_
            simp only [List.filterMap_nil]
            show wpQuiet _ _ _ _ [] _
            try simp only [Act.put, List.setIfInBounds_toArray, List.set_cons_succ, List.set_cons_zero]
            repeat (go_big_quiet_step (fail))
            refine wpQuiet_nil ⟨_, rfl, fun K hK => ?_⟩
            go_wp2_with fail
            go_wp2_with fail
            refine hK _ _ (.inr ⟨_, lowx_of (fun b hb _ => X5.block hb)⟩) ?_
            clear hK K
            refine wpStagesS_nil ?_
            obtain ⟨e1, ⟨ex, e2⟩, e3, hI6, hg6, hO6⟩ := EvI.store HI5.out hnode HO5.out
            have hB6 := HC.out.boxE HI5.out
            have z := hB6.lt
            have z0 := hB6.cell 0
            simp only [List.getElem?_toArray, List.getElem?_cons_zero, List.getElem?_cons_succ] at z0
            have z1 := hB6.cell 1
            simp only [List.getElem?_toArray, List.getElem?_cons_zero, List.getElem?_cons_succ] at z1
            have z2 := hB6.cell 2
            simp only [List.getElem?_toArray, List.getElem?_cons_zero, List.getElem?_cons_succ] at z2
            have z3 := hB6.cell 3
            simp only [List.getElem?_toArray, List.getElem?_cons_zero, List.getElem?_cons_succ] at z3
            have z4 := hB6.cell 4
            simp only [List.getElem?_toArray, List.getElem?_cons_zero, List.getElem?_cons_succ] at z4
            have z5 := hB6.cell 5
            simp only [List.getElem?_toArray, List.getElem?_cons_zero, List.getElem?_cons_succ] at z5
            have z6 := hB6.cell 6
            simp only [List.getElem?_toArray, List.getElem?_cons_zero, List.getElem?_cons_succ] at z6
            have z7 := hB6.cell 7
            simp only [List.getElem?_toArray, List.getElem?_cons_zero, List.getElem?_cons_succ] at z7
            have z8 := hB6.cell 8
            simp only [List.getElem?_toArray, List.getElem?_cons_zero, List.getElem?_cons_succ] at z8
            have HI6 := hid hI6
            have HO6 := hid hO6
            have HG6 := hid hg6
            clear hB6 hI6 hg6 hO6 HI5 HO5
            go_wp2
            go_ret
            exact ⟨⟨_, _, rfl, HO6.out⟩, HI6.out, grownBy.trans (grownBy.trans HGR.out HG5.out) HG6.out⟩
          case inr.inr.inr.inl =>
            simp only at o'
            obtain ⟨g0, cap0, rfl, hgw, hg0⟩ := ownsRow.slotE HRR.out (by omega)
            have hg0D : g0 ≠ D := by omega
            have hvl : vs.length = 2 := by have := HRR.out.1; simp at this; omega
            obtain ⟨x0, hx0⟩ : ∃ x0, vs[0]? = some x0 := ⟨vs[0]'(by omega), by simp⟩
            obtain ⟨x1, hx1⟩ : ∃ x1, vs[1]? = some x1 := ⟨vs[1]'(by omega), by simp⟩
            have k0 := HRR.out.cellAt 0 (by omega)
            have k1 := HRR.out.cellAt 1 (by omega)
            rw [hx0] at k0
            rw [hx1] at k1
            obtain ⟨y0, hy0⟩ : ∃ y0, ra[0]? = some y0 := ⟨ra[0]'(by omega), by simp⟩
            obtain ⟨y1, hy1⟩ : ∃ y1, ra[1]? = some y1 := ⟨ra[1]'(by omega), by simp⟩
            have HO0 := hid (hvs0.out 0 x0 y0 hx0 hy0)
            have HO1 := hid (hvs0.out 1 x1 y1 hx1 hy1)
            have HGD := hid (HC.out.good _ (HC.out.k.rank_arg HG.out (List.mem_of_getElem? hy0)).2.1)
            have HGD1 := hid (HC.out.good _ (HC.out.k.rank_arg HG.out (List.mem_of_getElem? hy1)).2.1)
            have q1' : (op == 1) = false := beq_eq_false_iff_ne.2 (by omega)
            have q2' : (op == 2) = false := beq_eq_false_iff_ne.2 (by omega)
            have q3' : (op == 3) = false := beq_eq_false_iff_ne.2 (by omega)
            have q8' : (op == 8) = false := beq_eq_false_iff_ne.2 (by omega)
            have HV : Hid (V node = List.zipWith (arithI op) (V y0.toNat) (V y1.toNat)) := hid (by
              rw [HVE.out]
              simp [evB, hy0, hy1, show ¬ op = 1 by omega, show ¬ op = 2 by omega, show ¬ op = 3 by omega, show ¬ op = 8 by omega])
            clear HVE hnodeF hx0 hy0 hx1 hy1
            go_wp2_with fail
            refine wp_region_stagesS [([0, 1, 2, 3, 4, 5, 6, 7], 8), ([], 9)] 99 (fun w' => ∃ d, w' = lowx (wr.heap.size) (D) _ d) (by kernel_rfl) (by kernel_rfl) ⟨_, lowx_of (fun _ _ _ => rfl)⟩ ?_
            refine wpStagesS_cons ?_
            simp only [List.filterMap_cons, List.filterMap_nil, List.getElem?_toArray, List.getElem?_cons_zero, List.getElem?_cons_succ]
            show wpQuiet _ _ _ _ [_, _, _, _, _, _, _, _] _
            repeat (go_big_quiet_step (fail))
            refine wpQuiet_nil ⟨_, rfl, fun K hK => ?_⟩
            go_wp2_with fail
            refine (iCombined_any 0 wr.heap.size 0 wr.heap.size x0 x1 op (V y0.toNat) (V y1.toNat) _ (by unfold opsOk; omega) (HO0.out.ints.ext (Nat.le_refl _) (by repeat (with_reducible (first | assumption | exact Ext.refl _ | apply Ext.alloc | apply Ext.drew | apply Ext.drewN)))) (by simp) (HO1.out.ints.ext (Nat.le_refl _) (by repeat (with_reducible (first | assumption | exact Ext.refl _ | apply Ext.alloc | apply Ext.drew | apply Ext.drewN)))) (by simp) (by rw [HGD.out.1, HGD1.out.1]) (by rw [HGD1.out.1]; omega) HGD.out.2 HGD1.out.2).mono ?_
            rintro e w5 ⟨r, rfl, hO, x5⟩
            have X5 : Ext wr w5 := Ext.trans (by repeat (with_reducible (first | assumption | exact Ext.refl _ | apply Ext.alloc | apply Ext.drew | apply Ext.drewN))) x5
            obtain ⟨g, c, rfl⟩ := hO.slot (k := m) (by simp [HGD.out.1, HGD1.out.1]) hm1
            have HO5 : Hid (OwnInts 0 w5 (.slice (some ⟨g, 0, none⟩) m c) (V node)) := hid (by rw [HV.out]; exact hO.low (Nat.zero_le _))
            have HI5 := hid (HI.out.ext X5)
            have HG5 := hid (grown_ext X5 (some D))
            clear hO
            go_wp2_with fail
            refine hK _ _ (.inr ⟨_, lowx_of (fun b hb _ => X5.block hb)⟩) ?_
            clear hK K
            refine wpStagesS_cons ?_
            simp only [List.filterMap_nil]
            show wpQuiet _ _ _ _ [] _
            try simp only [Act.put, List.setIfInBounds_toArray, List.set_cons_succ, List.set_cons_zero]
            repeat (go_big_quiet_step (fail))
            refine wpQuiet_nil ⟨_, rfl, fun K hK => ?_⟩
            go_wp2_with fail
            go_wp2_with fail
            refine hK _ _ (.inr ⟨_, lowx_of (fun b hb _ => X5.block hb)⟩) ?_
            clear hK K
            refine wpStagesS_nil ?_
            obtain ⟨e1, ⟨ex, e2⟩, e3, hI6, hg6, hO6⟩ := EvI.store HI5.out hnode HO5.out
            have hB6 := HC.out.boxE HI5.out
            have z := hB6.lt
            have z0 := hB6.cell 0
            simp only [List.getElem?_toArray, List.getElem?_cons_zero, List.getElem?_cons_succ] at z0
            have z1 := hB6.cell 1
            simp only [List.getElem?_toArray, List.getElem?_cons_zero, List.getElem?_cons_succ] at z1
            have z2 := hB6.cell 2
            simp only [List.getElem?_toArray, List.getElem?_cons_zero, List.getElem?_cons_succ] at z2
            have z3 := hB6.cell 3
            simp only [List.getElem?_toArray, List.getElem?_cons_zero, List.getElem?_cons_succ] at z3
            have z4 := hB6.cell 4
            simp only [List.getElem?_toArray, List.getElem?_cons_zero, List.getElem?_cons_succ] at z4
            have z5 := hB6.cell 5
            simp only [List.getElem?_toArray, List.getElem?_cons_zero, List.getElem?_cons_succ] at z5
            have z6 := hB6.cell 6
            simp only [List.getElem?_toArray, List.getElem?_cons_zero, List.getElem?_cons_succ] at z6
            have z7 := hB6.cell 7
            simp only [List.getElem?_toArray, List.getElem?_cons_zero, List.getElem?_cons_succ] at z7
            have z8 := hB6.cell 8
            simp only [List.getElem?_toArray, List.getElem?_cons_zero, List.getElem?_cons_succ] at z8
            have HI6 := hid hI6
            have HO6 := hid hO6
            have HG6 := hid hg6
            clear hB6 hI6 hg6 hO6 HI5 HO5
            go_wp2
            go_ret
            exact ⟨⟨_, _, rfl, HO6.out⟩, HI6.out, grownBy.trans (grownBy.trans HGR.out HG5.out) HG6.out⟩
          case inr.inr.inr.inr =>
            subst o
            have hca := HC.out.k.call node _ HG.out rfl
            simp only at hca
            have HV : Hid (V node = callRow n m t s.toList (ra.map fun a => V a.toNat)) := hid (by rw [HVE.out]; rfl)
            have HCA := hid hca
            have HTX := hid (show TexR 0 B wr (.agg #[.int .i64 t.log, tu]) t from by obtain ⟨u, k1, k2, k3⟩ := HC.out.tex; exact ⟨u, k1, k2, k3.same HSB.out⟩)
            clear HVE hnodeF hca
            go_wp2_with fail
            refine wp_region_stagesS [([0, 1, 2, 3, 4, 5, 6], 7), ([], 8)] 99 (fun w' => ∃ d, w' = lowx (wr.heap.size) (D) _ d) (by kernel_rfl) (by kernel_rfl) ⟨_, lowx_of (fun _ _ _ => rfl)⟩ ?_
            refine wpStagesS_cons ?_
            simp only [List.filterMap_cons, List.filterMap_nil, List.getElem?_toArray, List.getElem?_cons_zero, List.getElem?_cons_succ]
            show wpQuiet _ _ _ _ [_, _, _, _, _, _, _] _
            repeat (go_big_quiet_step (fail))
            refine wpQuiet_nil ⟨_, rfl, fun K hK => ?_⟩
            go_wp2_with fail
            refine (iCalled_any s (ra.map fun a => V a.toNat) 0 wr.heap.size 0 B n m pu tu u6 tm t _ HCA.out.1 (by rw [List.length_map]; exact HCA.out.2.symm) HC.out.ok (HSS.out.ext (Nat.le_refl _) (by repeat (with_reducible (first | assumption | exact Ext.refl _ | apply Ext.alloc | apply Ext.drew | apply Ext.drewN)))) (by simp) (HTX.out.ext (by omega) (by repeat (with_reducible (first | assumption | exact Ext.refl _ | apply Ext.alloc | apply Ext.drew | apply Ext.drewN)))) (by simp; omega) HGO.out HC.out.hm HC.out.n1 HC.out.n8).mono ?_
            rintro e w5 ⟨r, rfl, hO, x5⟩
            have X5 : Ext wr w5 := Ext.trans (by repeat (with_reducible (first | assumption | exact Ext.refl _ | apply Ext.alloc | apply Ext.drew | apply Ext.drewN))) x5
            obtain ⟨g, c, rfl⟩ := hO.slot (k := m) (call_goodE HC.out.hm t _ _).1 hm1
            have HO5 : Hid (OwnInts 0 w5 (.slice (some ⟨g, 0, none⟩) m c) (V node)) := hid (by rw [HV.out]; exact hO.low (Nat.zero_le _))
            have HI5 := hid (HI.out.ext X5)
            have HG5 := hid (grown_ext X5 (some D))
            clear hO
            go_wp2_with fail
            refine hK _ _ (.inr ⟨_, lowx_of (fun b hb _ => X5.block hb)⟩) ?_
            clear hK K
            refine wpStagesS_cons ?_
            simp only [List.filterMap_nil]
            show wpQuiet _ _ _ _ [] _
            try simp only [Act.put, List.setIfInBounds_toArray, List.set_cons_succ, List.set_cons_zero]
            repeat (go_big_quiet_step (fail))
            refine wpQuiet_nil ⟨_, rfl, fun K hK => ?_⟩
            go_wp2_with fail
            go_wp2_with fail
            refine hK _ _ (.inr ⟨_, lowx_of (fun b hb _ => X5.block hb)⟩) ?_
            clear hK K
            refine wpStagesS_nil ?_
            obtain ⟨e1, ⟨ex, e2⟩, e3, hI6, hg6, hO6⟩ := EvI.store HI5.out hnode HO5.out
            have hB6 := HC.out.boxE HI5.out
            have z := hB6.lt
            have z0 := hB6.cell 0
            simp only [List.getElem?_toArray, List.getElem?_cons_zero, List.getElem?_cons_succ] at z0
            have z1 := hB6.cell 1
            simp only [List.getElem?_toArray, List.getElem?_cons_zero, List.getElem?_cons_succ] at z1
            have z2 := hB6.cell 2
            simp only [List.getElem?_toArray, List.getElem?_cons_zero, List.getElem?_cons_succ] at z2
            have z3 := hB6.cell 3
            simp only [List.getElem?_toArray, List.getElem?_cons_zero, List.getElem?_cons_succ] at z3
            have z4 := hB6.cell 4
            simp only [List.getElem?_toArray, List.getElem?_cons_zero, List.getElem?_cons_succ] at z4
            have z5 := hB6.cell 5
            simp only [List.getElem?_toArray, List.getElem?_cons_zero, List.getElem?_cons_succ] at z5
            have z6 := hB6.cell 6
            simp only [List.getElem?_toArray, List.getElem?_cons_zero, List.getElem?_cons_succ] at z6
            have z7 := hB6.cell 7
            simp only [List.getElem?_toArray, List.getElem?_cons_zero, List.getElem?_cons_succ] at z7
            have z8 := hB6.cell 8
            simp only [List.getElem?_toArray, List.getElem?_cons_zero, List.getElem?_cons_succ] at z8
            have HI6 := hid hI6
            have HO6 := hid hO6
            have HG6 := hid hg6
            clear hB6 hI6 hg6 hO6 HI5 HO5
            go_wp2
            go_ret
            exact ⟨⟨_, _, rfl, HO6.out⟩, HI6.out, grownBy.trans (grownBy.trans HGR.out HG5.out) HG6.out⟩
        --END
end
end Go.Proofs.YtaegmenjgjdimaaGreat
end

section
/- This text proves what the laws' helper functions over programs of the shading language do: copies and comparisons. -/
namespace Go.Proofs.YtaegmenjgjdimaaGreat
open Go.RowKit

theorem Ints.setLow {lo hi : Nat} {w : World} {v : Value} {xs : List Int} (h : Ints lo hi w v xs) {p : Addr} (hp : p.block < lo) (x : Value) : Ints lo hi (w.setCell p x) v xs :=
  h.same (fun k h1 _ => Below.heap_setCell _ _ _ _ (by omega))
def ndC (xs : List Nd) (us : Nat → Value) (i : Nat) : Value :=
  match xs[i / 4]? with
  | some x => if i % 4 = 0 then .int .i64 x.op else if i % 4 = 1 then .string x.name else if i % 4 = 2 then .int .i64 x.num else us (i / 4)
  | none => .int .i64 0
def ndZ (i : Nat) : Value := if i % 4 = 1 then .string ⟨#[]⟩ else if i % 4 = 3 then .slice none 0 0 else .int .i64 0
theorem ndC_at {xs : List Nd} {us : Nat → Value} {k : Nat} {x : Nd} (h : xs[k]? = some x) : ndC xs us (k * 4) = .int .i64 x.op ∧ ndC xs us (k * 4 + 1) = .string x.name ∧ ndC xs us (k * 4 + 2) = .int .i64 x.num ∧ ndC xs us (k * 4 + 3) = us k := by
  refine ⟨?_, ?_, ?_, ?_⟩
  · unfold ndC
    rw [show k * 4 / 4 = k by omega, h, show k * 4 % 4 = 0 by omega]
    rfl
  · unfold ndC
    rw [show (k * 4 + 1) / 4 = k by omega, h, show (k * 4 + 1) % 4 = 1 by omega]
    rfl
  · unfold ndC
    rw [show (k * 4 + 2) / 4 = k by omega, h, show (k * 4 + 2) % 4 = 2 by omega]
    rfl
  · unfold ndC
    rw [show (k * 4 + 3) / 4 = k by omega, h, show (k * 4 + 3) % 4 = 3 by omega]
    rfl
theorem ndZ_at (k : Nat) : ndZ (k * 4) = .int .i64 0 ∧ ndZ (k * 4 + 1) = .string ⟨#[]⟩ ∧ ndZ (k * 4 + 2) = .int .i64 0 ∧ ndZ (k * 4 + 3) = .slice none 0 0 := by
  refine ⟨?_, ?_, ?_, ?_⟩
  · unfold ndZ; rw [show k * 4 % 4 = 0 by omega]; rfl
  · unfold ndZ; rw [show (k * 4 + 1) % 4 = 1 by omega]; rfl
  · unfold ndZ; rw [show (k * 4 + 2) % 4 = 2 by omega]; rfl
  · unfold ndZ; rw [show (k * 4 + 3) % 4 = 3 by omega]; rfl
theorem ndC_upd {xs : List Nd} {us : Nat → Value} {k : Nat} {u : Value} : ∀ i, i < k * 4 → ndC xs us i = ndC xs (fun j => if j = k then u else us j) i := by
  intro i hi
  unfold ndC
  simp only [if_neg (show ¬ i / 4 = k by omega)]
theorem info_Nd : (Tryz.prog.info? 79).map (fun i => (i.zero, i.size, i.bytes)) = some (some (.agg #[.int .i64 0, .string ⟨#[]⟩, .int .i64 0, .slice none 0 0]), 4, 56) := by kernel_rfl
theorem made_nd (n : Nat) : ∀ i, i < n → (madeCells #[.int .i64 0, .string ⟨#[]⟩, .int .i64 0, .slice none 0 0] n)[i]? = some (ndZ i) := by
  intro i hi
  unfold ndZ
  have : i % 4 < 4 := Nat.mod_lt _ (by decide)
  rcases (show i % 4 = 0 ∨ i % 4 = 1 ∨ i % 4 = 2 ∨ i % 4 = 3 by omega) with e | e | e | e <;> simp [madeCells, hi, e]
end Go.Proofs.YtaegmenjgjdimaaGreat
end

section
/- This text proves the copies and comparisons of assignments and of whole programs of the shading language. -/
namespace Go.Proofs.YtaegmenjgjdimaaGreat
open Go.RowKit

theorem Nds.setLow {lo hi : Nat} {w : World} {v : Value} {xs : List Nd} (h : Nds lo hi w v xs) {p : Addr} (hp : p.block < lo) (x : Value) : Nds lo hi (w.setCell p x) v xs :=
  h.same (fun k h1 _ => Below.heap_setCell _ _ _ _ (by omega))
theorem Asgs.setLow {lo hi : Nat} {w : World} {v : Value} {xs : List Asg} (h : Asgs lo hi w v xs) {p : Addr} (hp : p.block < lo) (x : Value) : Asgs lo hi (w.setCell p x) v xs :=
  h.same (fun k h1 _ => Below.heap_setCell _ _ _ _ (by omega))
theorem Nds.wide {lo hi lo' hi' : Nat} {w : World} {v : Value} {xs : List Nd} (h : Nds lo hi w v xs) (h1 : lo' ≤ lo) (h2 : hi ≤ hi') : Nds lo' hi' w v xs := by
  obtain ⟨a, cap, g1, g2, g3, g4⟩ := h
  refine ⟨a, cap, g1, g2, g3, fun i x hx => ?_⟩
  obtain ⟨h5, b, off, u, h6, h7, h8, h9, h10, h11, h12, h13⟩ := g4 i x hx
  exact ⟨h5, b, off, u, h6, by omega, by omega, h9, h10, h11, h12, h13.wide h1 h2⟩
theorem Asgs.wide {lo hi lo' hi' : Nat} {w : World} {v : Value} {xs : List Asg} (h : Asgs lo hi w v xs) (h1 : lo' ≤ lo) (h2 : hi ≤ hi') : Asgs lo' hi' w v xs := by
  obtain ⟨a, cap, g1, g2, g3, g4⟩ := h
  refine ⟨a, cap, g1, g2, g3, fun i x hx => ?_⟩
  obtain ⟨h5, b, off, h6, h7, h8, h9⟩ := g4 i x hx
  exact ⟨h5, b, off, h6, by omega, by omega, h9⟩
def agC (xs : List Asg) (i : Nat) : Value :=
  match xs[i / 2]? with
  | some x => if i % 2 = 0 then .string x.name else .int .i64 x.root
  | none => .int .i64 0
def agZ (i : Nat) : Value := if i % 2 = 0 then .string ⟨#[]⟩ else .int .i64 0
theorem agC_at {xs : List Asg} {k : Nat} {x : Asg} (h : xs[k]? = some x) : agC xs (k * 2) = .string x.name ∧ agC xs (k * 2 + 1) = .int .i64 x.root := by
  refine ⟨?_, ?_⟩
  · unfold agC
    rw [show k * 2 / 2 = k by omega, h, show k * 2 % 2 = 0 by omega]
    rfl
  · unfold agC
    rw [show (k * 2 + 1) / 2 = k by omega, h, show (k * 2 + 1) % 2 = 1 by omega]
    rfl
theorem agZ_at (k : Nat) : agZ (k * 2) = .string ⟨#[]⟩ ∧ agZ (k * 2 + 1) = .int .i64 0 := by
  refine ⟨?_, ?_⟩
  · unfold agZ; rw [show k * 2 % 2 = 0 by omega]; rfl
  · unfold agZ; rw [show (k * 2 + 1) % 2 = 1 by omega]; rfl
theorem info_Ag : (Tryz.prog.info? 74).map (fun i => (i.zero, i.size, i.bytes)) = some (some (.agg #[.string ⟨#[]⟩, .int .i64 0]), 2, 24) := by kernel_rfl
theorem made_ag (n : Nat) : ∀ i, i < n → (madeCells #[.string ⟨#[]⟩, .int .i64 0] n)[i]? = some (agZ i) := by
  intro i hi
  unfold agZ
  have : i % 2 < 2 := Nat.mod_lt _ (by decide)
  rcases (show i % 2 = 0 ∨ i % 2 = 1 by omega) with e | e <;> simp [madeCells, hi, e]
end Go.Proofs.YtaegmenjgjdimaaGreat
end

section
/- This text proves how the program makes its evaluator. -/
namespace Go.Proofs.YtaegmenjgjdimaaGreat
open Go.RowKit Go.Maps Go.WideMaps

/-- a program, a grid and a point at which they can be evaluated -/
noncomputable def evOk (p : Prg) (g : Grd) (i j : Int) : Bool := p.chkB && g.okB && inB i 0 (g.n - 1) && inB j 0 (g.n - 1)
theorem iIsValidGrid_valE {g : Grd} {b : Bool} (h : g.okB = b) (lo hi : Nat) (v : Value) (w : World) (hv : g.R lo hi w v) (hh : hi ≤ w.heap.size) : Calls Tryz.prog 55 #[v] w fun e w' => e = .returned (.bool b) ∧ Ext w w' := h ▸ iIsValidGrid_any lo hi v g w hv hh
theorem Grd.R.ext2 {g : Grd} {lo hi : Nat} {w w' : World} {v : Value} (h : g.R lo hi w v) (hh : hi ≤ w.heap.size) (e : Ext w w') : g.R lo hi w' v := by
  obtain ⟨pu, tu, h1, h2, h3, h4, h5, h6⟩ := h
  exact ⟨pu, tu, h1, h2, h3, h4, h5.ext hh e, h6.ext hh e⟩
set_option maxRecDepth 20000 in
set_option maxHeartbeats 6400000 in
theorem iEvalOf_no (lo hi lo' hi' : Nat) (v u : Value) (p : Prg) (g : Grd) (i j : Int) (w : World) (hv : p.R lo hi w v) (hh : hi ≤ w.heap.size) (hu : g.R lo' hi' w u) (hh' : hi' ≤ w.heap.size) (hb : p.bd) (hgl : p.gs.length ≤ 1048576) (hno : evOk p g i j = false) :
    Calls Tryz.prog 27 #[v, u, .int .i64 i, .int .i64 j] w fun e w' => e = .returned (.tuple #[.pointer none, .bool false]) ∧ Ext w w' := by
  have HV := hid hv
  have HU := hid hu
  obtain ⟨a1, c1, a2, c2, rfl, HN, HG⟩ := hv.form
  obtain ⟨pu, tu, rfl, n64, t64, l64, hp, ht⟩ := hu
  have HB := hid hb
  clear hv hp ht HN HG hb t64 l64
  have x0 : Ext w ((w.alloc (.cells #[.slice a1 p.ns.length c1, .slice a2 p.gs.length c2] 26)).alloc (.cells #[.int .i64 g.n, pu, .int .i64 g.tm, .int .i64 g.t.log, tu] 33)) := (by repeat (with_reducible (first | assumption | exact Ext.refl _ | apply Ext.alloc | apply Ext.drew | apply Ext.drewN)))
  have bG := Bx.madeAt (B := w.heap.size + 1) (w.alloc (.cells #[.slice a1 p.ns.length c1, .slice a2 p.gs.length c2] 26)) #[.int .i64 g.n, pu, .int .i64 g.tm, .int .i64 g.t.log, tu] 33 (by simp)
  unfold evOk at hno
  cases h1 : p.chkB
  · have H1 := hid h1
    clear hno h1 n64
    go_enter Tryz.func27, Tryz.ntmps27
    go_wp2_with fail
    refine (iIsOk_val H1.out lo hi _ _ (HV.out.ext hh x0) (Nat.le_trans hh x0.size) HB.out hgl).mono ?_
    rintro e w1 ⟨rfl, x1⟩
    have X1 := x0.trans x1
    go_wp2
    refine bodyPost_ret (v := .tuple #[.pointer none, .bool false]) (by simp [results, Tryz.results27, go_sem]) rfl ⟨rfl, X1⟩
  cases h2 : g.okB
  · have H1 := hid h1
    have H2 := hid h2
    clear hno h1 h2 n64
    go_enter Tryz.func27, Tryz.ntmps27
    go_wp2_with fail
    refine (iIsOk_val H1.out lo hi _ _ (HV.out.ext hh x0) (Nat.le_trans hh x0.size) HB.out hgl).mono ?_
    rintro e w1 ⟨rfl, x1⟩
    have X1 := x0.trans x1
    have bG1 := bG.ext x1
    have q := bG1.lt
    have q0 := bG1.cell 0
    simp only [List.getElem?_toArray, List.getElem?_cons_zero, List.getElem?_cons_succ] at q0
    have q1 := bG1.cell 1
    simp only [List.getElem?_toArray, List.getElem?_cons_zero, List.getElem?_cons_succ] at q1
    have q2 := bG1.cell 2
    simp only [List.getElem?_toArray, List.getElem?_cons_zero, List.getElem?_cons_succ] at q2
    have q3 := bG1.cell 3
    simp only [List.getElem?_toArray, List.getElem?_cons_zero, List.getElem?_cons_succ] at q3
    have q4 := bG1.cell 4
    simp only [List.getElem?_toArray, List.getElem?_cons_zero, List.getElem?_cons_succ] at q4
    go_wp2_with fail
    refine (iIsValidGrid_valE H2.out lo' hi' _ _ (HU.out.ext2 hh' X1) (Nat.le_trans hh' X1.size)).mono ?_
    rintro e w2 ⟨rfl, x2⟩
    have X2 := X1.trans x2
    go_wp2
    refine bodyPost_ret (v := .tuple #[.pointer none, .bool false]) (by simp [results, Tryz.results27, go_sem]) rfl ⟨rfl, X2⟩
  rw [h1, h2] at hno
  simp only [Bool.true_and] at hno
  obtain ⟨n, hn, hnn, n1, n8, hok, htm9, hf9⟩ := Grd.partsE h2
  have H1 := hid h1
  have H2 := hid h2
  have HN := hid hnn
  rw [hn] at hno x0 bG HU ⊢
  have HNN := hid hn
  clear hn
  obtain ⟨bi, hbi⟩ : ∃ b, inB i 0 ((n : Int) - 1) = b := ⟨_, rfl⟩
  obtain ⟨bj, hbj⟩ : ∃ b, inB j 0 ((n : Int) - 1) = b := ⟨_, rfl⟩
  rw [hbi, hbj] at hno
  have HI := hid hbi
  have HJ := hid hbj
  clear h1 h2 hnn hok htm9 hf9 hbi hbj
  cases bi
  · clear hno
    go_enter Tryz.func27, Tryz.ntmps27
    go_wp2_with fail
    refine (iIsOk_val H1.out lo hi _ _ (HV.out.ext hh x0) (Nat.le_trans hh x0.size) HB.out hgl).mono ?_
    rintro e w1 ⟨rfl, x1⟩
    have X1 := x0.trans x1
    have bG1 := bG.ext x1
    have q := bG1.lt
    have q0 := bG1.cell 0
    simp only [List.getElem?_toArray, List.getElem?_cons_zero, List.getElem?_cons_succ] at q0
    have q1 := bG1.cell 1
    simp only [List.getElem?_toArray, List.getElem?_cons_zero, List.getElem?_cons_succ] at q1
    have q2 := bG1.cell 2
    simp only [List.getElem?_toArray, List.getElem?_cons_zero, List.getElem?_cons_succ] at q2
    have q3 := bG1.cell 3
    simp only [List.getElem?_toArray, List.getElem?_cons_zero, List.getElem?_cons_succ] at q3
    have q4 := bG1.cell 4
    simp only [List.getElem?_toArray, List.getElem?_cons_zero, List.getElem?_cons_succ] at q4
    go_wp2_with fail
    refine (iIsValidGrid_valE H2.out lo' hi' _ _ (HU.out.ext2 hh' X1) (Nat.le_trans hh' X1.size)).mono ?_
    rintro e w2 ⟨rfl, x2⟩
    have X2 := X1.trans x2
    have bG2 := bG1.ext x2
    have d := bG2.lt
    have d0 := bG2.cell 0
    simp only [List.getElem?_toArray, List.getElem?_cons_zero, List.getElem?_cons_succ] at d0
    have d1 := bG2.cell 1
    simp only [List.getElem?_toArray, List.getElem?_cons_zero, List.getElem?_cons_succ] at d1
    have d2 := bG2.cell 2
    simp only [List.getElem?_toArray, List.getElem?_cons_zero, List.getElem?_cons_succ] at d2
    have d3 := bG2.cell 3
    simp only [List.getElem?_toArray, List.getElem?_cons_zero, List.getElem?_cons_succ] at d3
    have d4 := bG2.cell 4
    simp only [List.getElem?_toArray, List.getElem?_cons_zero, List.getElem?_cons_succ] at d4
    go_wp2_with fail
    refine (within_val HI.out _).mono ?_
    rintro e w3 ⟨rfl, rfl⟩
    go_wp2
    refine bodyPost_ret (v := .tuple #[.pointer none, .bool false]) (by simp [results, Tryz.results27, go_sem]) rfl ⟨rfl, X2⟩
  · obtain rfl : bj = false := by simpa using hno
    clear hno
    go_enter Tryz.func27, Tryz.ntmps27
    go_wp2_with fail
    refine (iIsOk_val H1.out lo hi _ _ (HV.out.ext hh x0) (Nat.le_trans hh x0.size) HB.out hgl).mono ?_
    rintro e w1 ⟨rfl, x1⟩
    have X1 := x0.trans x1
    have bG1 := bG.ext x1
    have q := bG1.lt
    have q0 := bG1.cell 0
    simp only [List.getElem?_toArray, List.getElem?_cons_zero, List.getElem?_cons_succ] at q0
    have q1 := bG1.cell 1
    simp only [List.getElem?_toArray, List.getElem?_cons_zero, List.getElem?_cons_succ] at q1
    have q2 := bG1.cell 2
    simp only [List.getElem?_toArray, List.getElem?_cons_zero, List.getElem?_cons_succ] at q2
    have q3 := bG1.cell 3
    simp only [List.getElem?_toArray, List.getElem?_cons_zero, List.getElem?_cons_succ] at q3
    have q4 := bG1.cell 4
    simp only [List.getElem?_toArray, List.getElem?_cons_zero, List.getElem?_cons_succ] at q4
    go_wp2_with fail
    refine (iIsValidGrid_valE H2.out lo' hi' _ _ (HU.out.ext2 hh' X1) (Nat.le_trans hh' X1.size)).mono ?_
    rintro e w2 ⟨rfl, x2⟩
    have X2 := X1.trans x2
    have bG2 := bG1.ext x2
    have d := bG2.lt
    have d0 := bG2.cell 0
    simp only [List.getElem?_toArray, List.getElem?_cons_zero, List.getElem?_cons_succ] at d0
    have d1 := bG2.cell 1
    simp only [List.getElem?_toArray, List.getElem?_cons_zero, List.getElem?_cons_succ] at d1
    have d2 := bG2.cell 2
    simp only [List.getElem?_toArray, List.getElem?_cons_zero, List.getElem?_cons_succ] at d2
    have d3 := bG2.cell 3
    simp only [List.getElem?_toArray, List.getElem?_cons_zero, List.getElem?_cons_succ] at d3
    have d4 := bG2.cell 4
    simp only [List.getElem?_toArray, List.getElem?_cons_zero, List.getElem?_cons_succ] at d4
    go_wp2_with fail
    refine (within_val HI.out _).mono ?_
    rintro e w3 ⟨rfl, rfl⟩
    go_wp2_with fail
    refine (within_val HJ.out _).mono ?_
    rintro e w3 ⟨rfl, rfl⟩
    go_wp2
    refine bodyPost_ret (v := .tuple #[.pointer none, .bool false]) (by simp [results, Tryz.results27, go_sem]) rfl ⟨rfl, X2⟩
theorem Nds.at0 {lo hi B : Nat} {w w' : World} {a : Option Addr} {cap : Nat} {xs : List Nd} (h : NdsAt lo hi w a cap xs) (hB : hi ≤ B) (hw : B ≤ w.heap.size) (e : Ext w w') : NdsAt 0 B w' a cap xs := by
  have h1 := ((h.shut).wide (Nat.zero_le _) hB).ext hw e
  obtain ⟨a', c', e, H⟩ := h1.open
  simp only [Value.slice.injEq, true_and] at e
  obtain ⟨rfl, rfl⟩ := e
  exact H
theorem Asgs.at0 {lo hi B : Nat} {w w' : World} {a : Option Addr} {cap : Nat} {xs : List Asg} (h : AsgsAt lo hi w a cap xs) (hB : hi ≤ B) (hw : B ≤ w.heap.size) (e : Ext w w') : AsgsAt 0 B w' a cap xs := by
  have h1 := ((h.shut).wide (Nat.zero_le _) hB).ext hw e
  obtain ⟨a', c', e, H⟩ := h1.open
  simp only [Value.slice.injEq, true_and] at e
  obtain ⟨rfl, rfl⟩ := e
  exact H
theorem made_rows (n : Nat) : (madeCells #[Value.slice none 0 0] n).toList = List.replicate n (.slice none 0 0) := by
  apply List.ext_getElem?
  intro i
  by_cases h : i < n
  · simp [madeCells, h]
    rw [Nat.mod_one]
    rfl
  · simp [madeCells, h]
theorem ownsRow.low0 {w : World} {lo : Nat} {e : TypeId} {size n : Nat} {v : Value} {xs : List Value} (h : w.ownsRow lo e size v n xs) : w.ownsRow 0 e size v n xs := by
  refine ⟨h.1, ?_⟩
  rcases h.2 with h2 | ⟨g, cap, cur, h1, h2, h3⟩
  · exact .inl h2
  · exact .inr ⟨g, cap, cur, h1, Nat.zero_le _, h3⟩
set_option maxRecDepth 20000 in
set_option maxHeartbeats 12800000 in
theorem iEvalOf_yes (lo hi lo' hi' : Nat) (a1 a2 : Option Addr) (c1 c2 : Nat) (pu tu : Value) (p : Prg) (g : Grd) (n : Nat) (i j : Int) (w : World) (hv : p.R lo hi w (.agg #[.slice a1 p.ns.length c1, .slice a2 p.gs.length c2])) (hh : hi ≤ w.heap.size) (hu : g.R lo' hi' w (.agg #[.int .i64 n, pu, .int .i64 g.tm, .int .i64 g.t.log, tu])) (hh' : hi' ≤ w.heap.size) (hb : p.bd) (hgl : p.gs.length ≤ 1048576) (hn : g.n = n) (hyes : evOk p g i j = true) :
    Calls Tryz.prog 27 #[.agg #[.slice a1 p.ns.length c1, .slice a2 p.gs.length c2], .agg #[.int .i64 n, pu, .int .i64 g.tm, .int .i64 g.t.log, tu], .int .i64 i, .int .i64 j] w fun e w' => (∃ E D mb, e = .returned (.tuple #[.pointer (some ⟨E, 0, none⟩), .bool true]) ∧ EvC p (p.ev n g.m g.f g.tm g.t) w.heap.size E D mb a1 a2 c1 c2 n g.m pu tu g.f g.tm g.t w' ∧ EvI p (p.ev n g.m g.f g.tm g.t) D w' w') ∧ Ext w w' := by
  have HV := hid hv
  have HU := hid hu
  obtain ⟨a1', c1', a2', c2', e1, HN, HG⟩ := hv.form
  simp only [Value.agg.injEq, Array.mk.injEq, List.cons.injEq, Value.slice.injEq, true_and, and_true] at e1
  obtain ⟨⟨rfl, rfl⟩, rfl, rfl⟩ := e1
  obtain ⟨pu', tu', e2, n64, t64, l64, hp, ht⟩ := hu
  simp only [Value.agg.injEq, Array.mk.injEq, List.cons.injEq, true_and, and_true] at e2
  obtain ⟨-, rfl, rfl⟩ := e2
  unfold evOk at hyes
  simp only [Bool.and_eq_true] at hyes
  obtain ⟨⟨⟨h1, h2⟩, hbi⟩, hbj⟩ := hyes
  rw [hn] at hbi hbj
  obtain ⟨n', hn', hnn, n1, n8, hok, htm9, hf9⟩ := Grd.partsE h2
  obtain rfl : n = n' := by omega
  have l1 := HN.le
  have l2 := HN.cap
  have hK := Prg.chkB_K h1
  have l5 := hK.v.len
  have HH := hid (show EvC p (p.ev n g.m g.f g.tm g.t) w.heap.size 0 0 0 a1 a2 c1 c2 n g.m pu tu g.f g.tm g.t w → True from fun _ => trivial)
  clear HH
  have HND := hid HN
  have HAS := hid HG
  have HPT := hid hp
  have HTX := hid (show TexR lo' hi' w (.agg #[.int .i64 g.t.log, tu]) g.t from ⟨tu, rfl, l64, ht⟩)
  have HBD := hid hb
  have HKK := hid hK
  have HG9 := hid (show n * n = g.m ∧ 1 ≤ n ∧ n ≤ 8 ∧ g.t.okB = true ∧ S9 g.tm ∧ ∀ i, i < g.m * 5 → S9 (g.f i) from ⟨hnn, n1, n8, hok, htm9, hf9⟩)
  have H1 := hid h1
  have H2 := hid h2
  have HI := hid hbi
  have HJ := hid hbj
  clear hv hp ht HN HG hb t64 l64 n64 h1 h2 hbi hbj hnn hok htm9 hf9 hn hn' hK
  obtain ⟨i0, hi0, hz0, hz1, hz2⟩ := info_parts info_ints
  have x0 : Ext w ((w.alloc (.cells #[.slice a1 p.ns.length c1, .slice a2 p.gs.length c2] 26)).alloc (.cells #[.int .i64 n, pu, .int .i64 g.tm, .int .i64 g.t.log, tu] 33)) := (by repeat (with_reducible (first | assumption | exact Ext.refl _ | apply Ext.alloc | apply Ext.drew | apply Ext.drewN)))
  have bG := Bx.madeAt (B := w.heap.size + 1) (w.alloc (.cells #[.slice a1 p.ns.length c1, .slice a2 p.gs.length c2] 26)) #[.int .i64 n, pu, .int .i64 g.tm, .int .i64 g.t.log, tu] 33 (by simp)
  have bP := (Bx.made w #[.slice a1 p.ns.length c1, .slice a2 p.gs.length c2] 26).ext (show Ext _ ((w.alloc (.cells #[.slice a1 p.ns.length c1, .slice a2 p.gs.length c2] 26)).alloc (.cells #[.int .i64 n, pu, .int .i64 g.tm, .int .i64 g.t.log, tu] 33)) from (by repeat (with_reducible (first | assumption | exact Ext.refl _ | apply Ext.alloc | apply Ext.drew | apply Ext.drewN))))
  go_enter Tryz.func27, Tryz.ntmps27
  go_wp2_with fail
  refine (iIsOk_val H1.out lo hi _ _ (HV.out.ext hh x0) (Nat.le_trans hh x0.size) HBD.out hgl).mono ?_
  rintro e w1 ⟨rfl, x1⟩
  have X1 := x0.trans x1
  have bG1 := bG.ext x1
  have bP1 := bP.ext x1
  have q := bG1.lt
  have q0 := bG1.cell 0
  simp only [List.getElem?_toArray, List.getElem?_cons_zero, List.getElem?_cons_succ] at q0
  have q1 := bG1.cell 1
  simp only [List.getElem?_toArray, List.getElem?_cons_zero, List.getElem?_cons_succ] at q1
  have q2 := bG1.cell 2
  simp only [List.getElem?_toArray, List.getElem?_cons_zero, List.getElem?_cons_succ] at q2
  have q3 := bG1.cell 3
  simp only [List.getElem?_toArray, List.getElem?_cons_zero, List.getElem?_cons_succ] at q3
  have q4 := bG1.cell 4
  simp only [List.getElem?_toArray, List.getElem?_cons_zero, List.getElem?_cons_succ] at q4
  go_wp2_with fail
  refine (iIsValidGrid_valE H2.out lo' hi' _ _ (HU.out.ext2 hh' X1) (Nat.le_trans hh' X1.size)).mono ?_
  rintro e w2 ⟨rfl, x2⟩
  have X2 := X1.trans x2
  have bG2 := bG1.ext x2
  have bP2 := bP1.ext x2
  clear q q0 q1 q2 q3 q4 x0 x1 x2 X1 bG bP bG1 bP1
  have d := bG2.lt
  have d0 := bG2.cell 0
  simp only [List.getElem?_toArray, List.getElem?_cons_zero, List.getElem?_cons_succ] at d0
  have d1 := bG2.cell 1
  simp only [List.getElem?_toArray, List.getElem?_cons_zero, List.getElem?_cons_succ] at d1
  have d2 := bG2.cell 2
  simp only [List.getElem?_toArray, List.getElem?_cons_zero, List.getElem?_cons_succ] at d2
  have d3 := bG2.cell 3
  simp only [List.getElem?_toArray, List.getElem?_cons_zero, List.getElem?_cons_succ] at d3
  have d4 := bG2.cell 4
  simp only [List.getElem?_toArray, List.getElem?_cons_zero, List.getElem?_cons_succ] at d4
  have b := bP2.lt
  have b0 := bP2.cell 0
  simp only [List.getElem?_toArray, List.getElem?_cons_zero, List.getElem?_cons_succ] at b0
  have b1 := bP2.cell 1
  simp only [List.getElem?_toArray, List.getElem?_cons_zero, List.getElem?_cons_succ] at b1
  go_wp2_with fail
  refine (within_val HI.out _).mono ?_
  rintro e w3 ⟨rfl, rfl⟩
  go_wp2_with fail
  refine (within_val HJ.out _).mono ?_
  rintro e w3 ⟨rfl, rfl⟩
  go_wp2_with fail
  --ORDERS
  refine wp_region_Z 11 w2.heap.size (by kernel_rfl) ?_
  refine wpZ_stage (fuel := 5) [0, 1, 2, 4, 5, 6] [3, 7] (by kernel_rfl) (fun b _ hb => rfl) ?_
  try simp only [Act.put, List.setIfInBounds_toArray, List.set_cons_succ, List.set_cons_zero]
  simp only [List.filterMap_cons, List.filterMap_nil, List.getElem?_toArray, List.getElem?_cons_zero, List.getElem?_cons_succ]
  show wpQuiet _ _ _ _ [_, _, _, _, _, _] _
  repeat (go_big_quiet_step (fail))
  refine wpQuiet_nil ?_
  intro e he
  simp only [List.mem_cons, List.not_mem_nil, or_false] at he
  rcases he with rfl | rfl
  · skip
    (unfold wpComes; simp only [List.getElem?_toArray, List.getElem?_cons_succ, List.getElem?_cons_zero, Option.some.injEq]; refine ⟨_, rfl, fun K hK => ?_⟩)
    go_wp2_with fail
    refine (iAssigned_any lo hi _ p _ (HV.out.ext hh (X2.trans ((by repeat (with_reducible (first | assumption | exact Ext.refl _ | apply Ext.alloc | apply Ext.drew | apply Ext.drewN)))))) (Nat.le_trans hh (X2.trans ((by repeat (with_reducible (first | assumption | exact Ext.refl _ | apply Ext.alloc | apply Ext.drew | apply Ext.drewN))))).size) HBD.out hgl).mono ?_
    rintro e w3 ⟨⟨mb, rfl, hmb, hM⟩, x3⟩
    have y3 : Ext w2 w3 := Ext.trans (by repeat (with_reducible (first | assumption | exact Ext.refl _ | apply Ext.alloc | apply Ext.drew | apply Ext.drewN))) x3
    go_wp2_with fail
    refine hK _ _ (.inr (fun b _ hb => y3.block (by omega))) ?_
    clear hK K
    refine wpZ_stage (fuel := 4) [] [7] (by kernel_rfl) (fun b _ hb => y3.block (by omega)) ?_
    refine wpQuiet_nil ?_
    intro e he
    simp only [List.mem_cons, List.not_mem_nil, or_false] at he
    subst he
    (unfold wpComes; simp only [List.getElem?_toArray, List.getElem?_cons_succ, List.getElem?_cons_zero, Option.some.injEq]; refine ⟨_, rfl, fun K hK => ?_⟩)
    go_wp2_with (at_make; refine wpList_make_full _ rfl _ _ 70 rfl w3.heap.size 29 i0 (.slice none 0 0) 1 Tryz.underlying70 hi0 hz0 hz1 _ _ _ _ p.ns.length rfl rfl rfl rfl (by rw [hz2]; omega) (by unfold maxLen; omega) (Nat.le_refl _) ?_)
    intro w5 hown hgrow
    rw [made_rows] at hown
    have y5 : Ext w2 w5 := y3.grown hgrow (fun k h => by cases h)
    go_wp2_with fail
    refine hK _ _ (.inr (fun b _ hb => y5.block (by omega))) ?_
    clear hK K
    obtain ⟨D, hD⟩ : ∃ D, w3.heap.size = D := ⟨_, rfl⟩
    have hml := hM.lt
    have hX2s := X2.size
    have hy3s := y3.size
    have hM5 := hM.ext ((Ext.refl w3).grown hgrow (fun k h => by cases h))
    rw [hD] at hown ⊢
    have hown5 : w5.ownsRow 0 29 1 (.slice (some ⟨D, 0, none⟩) p.ns.length p.ns.length) p.ns.length (List.replicate p.ns.length (.slice none 0 0)) := by subst hD; exact ownsRow.low0 (by simpa using hown)
    have hdm : mb ≠ D := by omega
    have hdb : w.heap.size ≤ D := by omega
    clear hown hM hD hgrow x3 y3
    have HO5 := hid hown5
    have HM5 := hid hM5
    have HDM := hid hdm
    have HDB := hid hdb
    have HX5 := hid y5
    clear hown5 hM5 hdm hdb
    refine wpZ_stage (fuel := 2) [8] [9] (by kernel_rfl) (fun b _ hb => y5.block (by omega)) ?_
    try simp only [Act.put, List.setIfInBounds_toArray, List.set_cons_succ, List.set_cons_zero]
    simp only [List.filterMap_cons, List.filterMap_nil, List.getElem?_toArray, List.getElem?_cons_zero, List.getElem?_cons_succ]
    show wpQuiet _ _ _ _ [_] _
    repeat (go_big_quiet_step (fail))
    refine wpQuiet_nil ?_
    intro e he
    simp only [List.mem_cons, List.not_mem_nil, or_false] at he
    subst he
    (unfold wpComes; simp only [List.getElem?_toArray, List.getElem?_cons_succ, List.getElem?_cons_zero, Option.some.injEq]; refine ⟨_, rfl, fun K hK => ?_⟩)
    go_wp2_with fail
    have y6 : Ext w2 (w5.alloc (.cells #[.slice a1 p.ns.length c1, .slice a2 p.gs.length c2, .int .i64 n, pu, .int .i64 g.tm, .int .i64 g.t.log, tu, .map (some mb), .slice (some ⟨D, 0, none⟩) p.ns.length p.ns.length] 72)) := y5.alloc _
    have hb6 := hid (Bx.made w5 #[.slice a1 p.ns.length c1, .slice a2 p.gs.length c2, .int .i64 n, pu, .int .i64 g.tm, .int .i64 g.t.log, tu, .map (some mb), .slice (some ⟨D, 0, none⟩) p.ns.length p.ns.length] 72)
    refine hK _ _ (.inr (fun b _ hb => y6.block (by omega))) ?_
    clear hK K
    refine wpZ_stage (fuel := 0) [10] [11] (by kernel_rfl) (fun b _ hb => y6.block (by omega)) ?_
    try simp only [Act.put, List.setIfInBounds_toArray, List.set_cons_succ, List.set_cons_zero]
    simp only [List.filterMap_cons, List.filterMap_nil, List.getElem?_toArray, List.getElem?_cons_zero, List.getElem?_cons_succ]
    show wpQuiet _ _ _ _ [_] _
    repeat (go_big_quiet_step (fail))
    refine wpQuiet_nil ?_
    intro e he
    simp only [List.mem_cons, List.not_mem_nil, or_false] at he
    subst he
    (unfold wpComes; simp only [List.getElem?_toArray, List.getElem?_cons_succ, List.getElem?_cons_zero, Option.some.injEq]; refine ⟨_, rfl, fun K hK => ?_⟩)
    go_wp2_with fail
    refine hK _ _ (.inl (by trivial)) ?_
    clear hK K
    refine wpZ_end (by kernel_rfl) ?_
    go_wp2
    have hX := X2.trans y6
    obtain ⟨k1, k2, k3, k4, k5, k6⟩ := HG9.out
    have hDl := (HO5.out.lt D rfl).2
    refine bodyPost_ret (v := .tuple #[.pointer (some ⟨w5.heap.size, 0, none⟩), .bool true]) (by simp [results, Tryz.results27, go_sem]) rfl ⟨⟨w5.heap.size, D, mb, rfl, ?_, ?_⟩, hX⟩
    · exact { nodes := Nds.at0 HND.out hh (Nat.le_refl _) hX, asgs := Asgs.at0 HAS.out hh (Nat.le_refl _) hX, bd := HBD.out, k := HKK.out, gl := hgl,
              pts := (HPT.out.wide (Nat.zero_le _) hh').ext (Nat.le_refl _) hX, tex := (HTX.out.wide (Nat.zero_le _) hh').ext (Nat.le_refl _) hX,
              hm := k1, n1 := k2, n8 := k3, ok := k4, tm9 := k5, f9 := k6, step := fun j x hx => HKK.out.ev_step hx, good := fun j hj => HKK.out.ev_good k1 k6 k5 _ j (Nat.lt_succ_self _) hj,
              bB := hX.size, box := hb6.out, map := HM5.out.ext (by repeat (with_reducible (first | assumption | exact Ext.refl _ | apply Ext.alloc | apply Ext.drew | apply Ext.drewN))), dB := HDB.out, dl := by simp; omega, eD := by omega, mD := HDM.out }
    · exact ⟨grownBy.refl _ _, _, HO5.out.alloc _, fun j u hj => .inl (by
        rw [List.getElem?_replicate] at hj
        split at hj
        · injection hj with hj; exact hj.symm
        · cases hj)⟩
  · skip
    (unfold wpComes; simp only [List.getElem?_toArray, List.getElem?_cons_succ, List.getElem?_cons_zero, Option.some.injEq]; refine ⟨_, rfl, fun K hK => ?_⟩)
    go_wp2_with (at_make; refine wpList_make_full _ rfl _ _ 70 rfl w2.heap.size 29 i0 (.slice none 0 0) 1 Tryz.underlying70 hi0 hz0 hz1 _ _ _ _ p.ns.length rfl rfl rfl rfl (by rw [hz2]; omega) (by unfold maxLen; omega) (Nat.le_refl _) ?_)
    intro w4 hown hgrow
    rw [made_rows] at hown
    have y4 : Ext w2 w4 := Ext.grown (by repeat (with_reducible (first | assumption | exact Ext.refl _ | apply Ext.alloc | apply Ext.drew | apply Ext.drewN))) hgrow (fun k h => by cases h)
    go_wp2_with fail
    refine hK _ _ (.inr (fun b _ hb => y4.block (by omega))) ?_
    clear hK K
    refine wpZ_stage (fuel := 4) [] [3] (by kernel_rfl) (fun b _ hb => y4.block (by omega)) ?_
    refine wpQuiet_nil ?_
    intro e he
    simp only [List.mem_cons, List.not_mem_nil, or_false] at he
    subst he
    (unfold wpComes; simp only [List.getElem?_toArray, List.getElem?_cons_succ, List.getElem?_cons_zero, Option.some.injEq]; refine ⟨_, rfl, fun K hK => ?_⟩)
    go_wp2_with fail
    refine (iAssigned_any lo hi _ p _ (HV.out.ext hh (X2.trans (y4))) (Nat.le_trans hh (X2.trans (y4)).size) HBD.out hgl).mono ?_
    rintro e w5 ⟨⟨mb, rfl, hmb, hM⟩, x3⟩
    have y5 : Ext w2 w5 := y4.trans x3
    go_wp2_with fail
    refine hK _ _ (.inr (fun b _ hb => y5.block (by omega))) ?_
    clear hK K
    have hX2s := X2.size
    have hM5 := hM
    have hdl := (hown.lt w2.heap.size rfl).2
    have hown5 : w5.ownsRow 0 29 1 (.slice (some ⟨w2.heap.size, 0, none⟩) p.ns.length p.ns.length) p.ns.length (List.replicate p.ns.length (.slice none 0 0)) := (ownsRow.low0 (by simpa using hown)).kept (grown_ext x3 none) (.inr (by simp [Value.ownBlock]))
    have hdm : mb ≠ w2.heap.size := by omega
    have hdb : w.heap.size ≤ w2.heap.size := by omega
    clear hown hM hgrow x3 y4
    have HO5 := hid hown5
    have HM5 := hid hM5
    have HDM := hid hdm
    have HDB := hid hdb
    have HX5 := hid y5
    clear hown5 hM5 hdm hdb
    refine wpZ_stage (fuel := 2) [8] [9] (by kernel_rfl) (fun b _ hb => y5.block (by omega)) ?_
    try simp only [Act.put, List.setIfInBounds_toArray, List.set_cons_succ, List.set_cons_zero]
    simp only [List.filterMap_cons, List.filterMap_nil, List.getElem?_toArray, List.getElem?_cons_zero, List.getElem?_cons_succ]
    show wpQuiet _ _ _ _ [_] _
    repeat (go_big_quiet_step (fail))
    refine wpQuiet_nil ?_
    intro e he
    simp only [List.mem_cons, List.not_mem_nil, or_false] at he
    subst he
    (unfold wpComes; simp only [List.getElem?_toArray, List.getElem?_cons_succ, List.getElem?_cons_zero, Option.some.injEq]; refine ⟨_, rfl, fun K hK => ?_⟩)
    go_wp2_with fail
    have y6 : Ext w2 (w5.alloc (.cells #[.slice a1 p.ns.length c1, .slice a2 p.gs.length c2, .int .i64 n, pu, .int .i64 g.tm, .int .i64 g.t.log, tu, .map (some mb), .slice (some ⟨w2.heap.size, 0, none⟩) p.ns.length p.ns.length] 72)) := y5.alloc _
    have hb6 := hid (Bx.made w5 #[.slice a1 p.ns.length c1, .slice a2 p.gs.length c2, .int .i64 n, pu, .int .i64 g.tm, .int .i64 g.t.log, tu, .map (some mb), .slice (some ⟨w2.heap.size, 0, none⟩) p.ns.length p.ns.length] 72)
    refine hK _ _ (.inr (fun b _ hb => y6.block (by omega))) ?_
    clear hK K
    refine wpZ_stage (fuel := 0) [10] [11] (by kernel_rfl) (fun b _ hb => y6.block (by omega)) ?_
    try simp only [Act.put, List.setIfInBounds_toArray, List.set_cons_succ, List.set_cons_zero]
    simp only [List.filterMap_cons, List.filterMap_nil, List.getElem?_toArray, List.getElem?_cons_zero, List.getElem?_cons_succ]
    show wpQuiet _ _ _ _ [_] _
    repeat (go_big_quiet_step (fail))
    refine wpQuiet_nil ?_
    intro e he
    simp only [List.mem_cons, List.not_mem_nil, or_false] at he
    subst he
    (unfold wpComes; simp only [List.getElem?_toArray, List.getElem?_cons_succ, List.getElem?_cons_zero, Option.some.injEq]; refine ⟨_, rfl, fun K hK => ?_⟩)
    go_wp2_with fail
    refine hK _ _ (.inl (by trivial)) ?_
    clear hK K
    refine wpZ_end (by kernel_rfl) ?_
    go_wp2
    have hX := X2.trans y6
    obtain ⟨k1, k2, k3, k4, k5, k6⟩ := HG9.out
    have hDl := (HO5.out.lt w2.heap.size rfl).2
    refine bodyPost_ret (v := .tuple #[.pointer (some ⟨w5.heap.size, 0, none⟩), .bool true]) (by simp [results, Tryz.results27, go_sem]) rfl ⟨⟨w5.heap.size, w2.heap.size, mb, rfl, ?_, ?_⟩, hX⟩
    · exact { nodes := Nds.at0 HND.out hh (Nat.le_refl _) hX, asgs := Asgs.at0 HAS.out hh (Nat.le_refl _) hX, bd := HBD.out, k := HKK.out, gl := hgl,
              pts := (HPT.out.wide (Nat.zero_le _) hh').ext (Nat.le_refl _) hX, tex := (HTX.out.wide (Nat.zero_le _) hh').ext (Nat.le_refl _) hX,
              hm := k1, n1 := k2, n8 := k3, ok := k4, tm9 := k5, f9 := k6, step := fun j x hx => HKK.out.ev_step hx, good := fun j hj => HKK.out.ev_good k1 k6 k5 _ j (Nat.lt_succ_self _) hj,
              bB := hX.size, box := hb6.out, map := HM5.out.ext (by repeat (with_reducible (first | assumption | exact Ext.refl _ | apply Ext.alloc | apply Ext.drew | apply Ext.drewN))), dB := HDB.out, dl := by simp; omega, eD := by omega, mD := HDM.out }
    · exact ⟨grownBy.refl _ _, _, HO5.out.alloc _, fun j u hj => .inl (by
        rw [List.getElem?_replicate] at hj
        split at hj
        · injection hj with hj; exact hj.symm
        · cases hj)⟩
end Go.Proofs.YtaegmenjgjdimaaGreat
end

section
/- This text proves the program's EvalNode. -/
namespace Go.Proofs.YtaegmenjgjdimaaGreat
open Go.RowKit Go.Maps Go.WideMaps

/-- the values of a program's nodes on a grid -/
noncomputable def evV (p : Prg) (g : Grd) : Nat → List Int := p.ev g.n.toNat g.m g.f g.tm g.t
noncomputable def evN (p : Prg) (g : Grd) (node i j : Int) : Int := if (evOk p g i j && inB node 0 ((p.ns.length : Int) - 1)) = true then (evV p g node.toNat).getD (j * g.n + i).toNat 0 else 0
theorem Prg.R.form2 {p : Prg} {lo hi : Nat} {w : World} {v : Value} (h : p.R lo hi w v) : ∃ a1 c1 a2 c2, v = .agg #[.slice a1 p.ns.length c1, .slice a2 p.gs.length c2] := by
  obtain ⟨a1, c1, a2, c2, rfl, _⟩ := h.form
  exact ⟨a1, c1, a2, c2, rfl⟩
theorem at_lt {n m i j : Nat} (hm : n * n = m) (hi : i < n) (hj : j < n) : j * n + i < m := by
  have h1 : (j + 1) * n ≤ n * n := Nat.mul_le_mul_right n hj
  rw [Nat.add_mul, Nat.one_mul] at h1
  omega
theorem evOk_parts {p : Prg} {g : Grd} {i j : Int} (h : evOk p g i j = true) : ∃ (n i' j' : Nat), g.n = n ∧ i = i' ∧ j = j' ∧ i' < n ∧ j' < n ∧ n ≤ 8 ∧ n * n = g.m := by
  unfold evOk at h
  simp only [Bool.and_eq_true] at h
  obtain ⟨⟨⟨h1, h2⟩, hbi⟩, hbj⟩ := h
  obtain ⟨n, hn, hnn, n1, n8, _⟩ := Grd.partsE h2
  have h3 := inB_iff.1 hbi
  have h4 := inB_iff.1 hbj
  exact ⟨n, i.toNat, j.toNat, hn, by omega, by omega, by omega, by omega, n8, hnn⟩
set_option maxRecDepth 20000 in
set_option maxHeartbeats 12800000 in
theorem iEvalNode_any (lo hi lo' hi' : Nat) (v u : Value) (p : Prg) (g : Grd) (node i j : Int) (w : World) (hv : p.R lo hi w v) (hh : hi ≤ w.heap.size) (hu : g.R lo' hi' w u) (hh' : hi' ≤ w.heap.size) (hb : p.bd) (hgl : p.gs.length ≤ 1048576) :
    Calls Tryz.prog 10 #[v, u, .int .i64 node, .int .i64 i, .int .i64 j] w fun e w' => e = .returned (.int .i64 (evN p g node i j)) ∧ Ext w w' := by
  have HV := hid hv
  have HU := hid hu
  obtain ⟨a1, c1, a2, c2, rfl, HN, -⟩ := hv.form
  have l1 := HN.le
  have l2 := HN.cap
  obtain ⟨pu, tu, rfl, n64, t64, l64, hp, ht⟩ := hu
  clear hv hp ht t64 l64 HN
  have x0 : Ext w ((w.alloc (.cells #[.slice a1 p.ns.length c1, .slice a2 p.gs.length c2] 26)).alloc (.cells #[.int .i64 g.n, pu, .int .i64 g.tm, .int .i64 g.t.log, tu] 33)) := (by repeat (with_reducible (first | assumption | exact Ext.refl _ | apply Ext.alloc | apply Ext.drew | apply Ext.drewN)))
  cases hok : evOk p g i j
  · have HOK := hid hok
    have HE : Hid (evN p g node i j = 0) := hid (by unfold evN; rw [hok]; rfl)
    clear hok n64
    go_enter Tryz.func10, Tryz.ntmps10
    go_wp2_with fail
    refine (iEvalOf_no lo hi lo' hi' _ _ p g i j _ (HV.out.ext hh x0) (Nat.le_trans hh x0.size) (HU.out.ext2 hh' x0) (Nat.le_trans hh' x0.size) hb hgl HOK.out).mono ?_
    rintro e w1 ⟨rfl, x1⟩
    have X1 := x0.trans x1
    go_wp2
    go_ret
    exact ⟨by rw [HE.out]; rfl, X1⟩
  obtain ⟨n, i', j', hn, rfl, rfl, hi2, hj2, hn8, hnm⟩ := evOk_parts hok
  have bP := (Bx.made w #[.slice a1 p.ns.length c1, .slice a2 p.gs.length c2] 26).ext (show Ext _ ((w.alloc (.cells #[.slice a1 p.ns.length c1, .slice a2 p.gs.length c2] 26)).alloc (.cells #[.int .i64 g.n, pu, .int .i64 g.tm, .int .i64 g.t.log, tu] 33)) from (by repeat (with_reducible (first | assumption | exact Ext.refl _ | apply Ext.alloc | apply Ext.drew | apply Ext.drewN))))
  have bG := Bx.madeAt (B := w.heap.size + 1) (w.alloc (.cells #[.slice a1 p.ns.length c1, .slice a2 p.gs.length c2] 26)) #[.int .i64 g.n, pu, .int .i64 g.tm, .int .i64 g.t.log, tu] 33 (by simp)
  have hq := at_lt hnm hi2 hj2
  obtain ⟨q, hqe⟩ : ∃ q, j' * n + i' = q := ⟨_, rfl⟩
  rw [hqe] at hq
  have hqi : (j' : Int) * n + i' = q := by rw [← hqe]; simp
  have hEV : evV p g = p.ev n g.m g.f g.tm g.t := by unfold evV; rw [hn]; rfl
  have HEV := hid hEV
  have HEN : Hid (∀ nd : Nat, evN p g nd i' j' = if inB (nd : Int) 0 ((p.ns.length : Int) - 1) = true then (p.ev n g.m g.f g.tm g.t nd).getD q 0 else 0) := hid (fun nd => by
    unfold evN
    rw [hok, Bool.true_and, hEV, hn, hqi]
    simp)
  have HEN0 : Hid (∀ nd : Int, inB nd 0 ((p.ns.length : Int) - 1) = false → evN p g nd i' j' = 0) := hid (fun nd h => by
    unfold evN
    rw [h, Bool.and_false]
    rfl)
  have HOK := hid hok
  have HNN := hid hn
  rw [hn] at bG bP HU x0 ⊢
  have hm64 : g.m ≤ 64 := by rw [← hnm]; have := Nat.mul_le_mul hn8 hn8; omega
  have hjn : (j' : Int) * n ≤ 64 := by have : ((j' * n : Nat) : Int) ≤ 64 := by omega
                                       simpa using this
  have hjn0 : 0 ≤ (j' : Int) * n := by have : (0 : Int) ≤ ((j' * n : Nat) : Int) := by omega
                                       simpa using this
  obtain ⟨jn, hjne⟩ : ∃ jn, (j' : Int) * n = jn := ⟨_, rfl⟩
  rw [hjne] at hqi hjn hjn0
  have HQ := hid hqe
  have HNM := hid hnm
  clear hok hn n64 hEV hqe hnm
  go_enter Tryz.func10, Tryz.ntmps10
  go_wp2_with fail
  refine (iEvalOf_yes lo hi lo' hi' a1 a2 c1 c2 pu tu p g n i' j' _ (HV.out.ext hh x0) (Nat.le_trans hh x0.size) (HU.out.ext2 hh' x0) (Nat.le_trans hh' x0.size) hb hgl HNN.out HOK.out).mono ?_
  rintro e w1 ⟨⟨E, D, mb, rfl, hC, hI⟩, x1⟩
  have X1 := x0.trans x1
  have bP1 := bP.ext x1
  have bG1 := bG.ext x1
  have HC := hid hC
  have HI := hid hI
  have hdB := hC.dB
  simp only [World.size_alloc] at hdB
  have hdl := hC.dl
  have b := bP1.lt
  have b0 := bP1.cell 0
  simp only [List.getElem?_toArray, List.getElem?_cons_zero, List.getElem?_cons_succ] at b0
  have b1 := bP1.cell 1
  simp only [List.getElem?_toArray, List.getElem?_cons_zero, List.getElem?_cons_succ] at b1
  have d := bG1.lt
  have d0 := bG1.cell 0
  simp only [List.getElem?_toArray, List.getElem?_cons_zero, List.getElem?_cons_succ] at d0
  have d1 := bG1.cell 1
  simp only [List.getElem?_toArray, List.getElem?_cons_zero, List.getElem?_cons_succ] at d1
  have d2 := bG1.cell 2
  simp only [List.getElem?_toArray, List.getElem?_cons_zero, List.getElem?_cons_succ] at d2
  have d3 := bG1.cell 3
  simp only [List.getElem?_toArray, List.getElem?_cons_zero, List.getElem?_cons_succ] at d3
  have d4 := bG1.cell 4
  simp only [List.getElem?_toArray, List.getElem?_cons_zero, List.getElem?_cons_succ] at d4
  obtain ⟨bn, hbn⟩ : ∃ b, inB node 0 ((p.ns.length : Int) - 1) = b := ⟨_, rfl⟩
  have HBN := hid hbn
  clear hC hI x0 x1 bP bG bP1 bG1 hbn
  go_wp2_with fail
  refine (within_val HBN.out _).mono ?_
  rintro e w2 ⟨rfl, rfl⟩
  cases bn
  · go_wp2
    go_ret
    exact ⟨by rw [HEN0.out _ HBN.out]; rfl, X1⟩
  have hnd := inB_iff.1 HBN.out
  obtain ⟨nd, rfl⟩ : ∃ nd : Nat, node = nd := ⟨node.toNat, by omega⟩
  have hndl : nd < p.ns.length := by omega
  have hbD : w.heap.size + 1 ≠ D := by omega
  clear hnd
  go_wp2_with fail
  refine wp_region_stagesS [([0, 1, 3, 4, 5, 6, 7, 8], 2), ([], 9), ([], 10), ([], 11)] 99 (fun w' => ∃ d, w' = lowx (w1.heap.size) (D) _ d) (by kernel_rfl) (by kernel_rfl) ⟨_, lowx_of (fun _ _ _ => rfl)⟩ ?_
  refine wpStagesS_cons ?_
  simp only [List.filterMap_cons, List.filterMap_nil, List.getElem?_toArray, List.getElem?_cons_zero, List.getElem?_cons_succ]
  show wpQuiet _ _ _ _ [_, _, _, _, _, _, _, _] _
  repeat (go_big_quiet_step (fail))
  refine wpQuiet_nil ⟨_, rfl, fun K hK => ?_⟩
  go_wp2_with fail
  refine (iValues_any HC.out (p.rank nd + 1) nd _ (Nat.lt_succ_self _) hndl (HI.out.ext ((Ext.refl w1).drew))).mono ?_
  rintro e w3 ⟨⟨rg, rc, rfl, hO⟩, hI3, hg3⟩
  have hg3' : w1.grownBy w3 (some D) := grownBy.trans (grown_ext ((Ext.refl w1).drew) _) hg3
  have hrow := hO.ints
  have hgd := HC.out.good nd hndl
  obtain ⟨ra', rc', e9, HR⟩ := hrow.open
  rw [hgd.1] at e9
  simp only [Value.slice.injEq, true_and] at e9
  obtain ⟨rfl, rfl⟩ := e9
  have hrl := HR.le
  have hrc := HR.cap
  rw [hgd.1] at hrl
  obtain ⟨rb, ro, re, rfirst, rlt, rcell⟩ := HR.at (k := q) (by rw [hgd.1]; exact hq)
  simp only [Option.some.injEq, Addr.mk.injEq, and_true] at re
  obtain ⟨rfl, rfl⟩ := re
  simp only [Nat.zero_add] at rcell
  have hval : (p.ev n g.m g.f g.tm g.t nd)[q]'(by rw [hgd.1]; exact hq) = evN p g nd i' j' := by
    rw [HEN.out nd, if_pos HBN.out, List.getD_eq_getElem?_getD, List.getElem?_eq_getElem (by rw [hgd.1]; exact hq)]
    rfl
  rw [hval] at rcell
  have HG3 := hid hg3
  have X3 := X1.grown hg3' (fun k hk => by injection hk with hk; omega)
  clear hO hI3 hg3' hrow hgd HR hval
  go_wp2_with fail
  refine hK _ _ (.inr ⟨_, lowx_of (SameX.gr HG3.out (Nat.le_refl _))⟩) ?_
  clear hK K
  refine wpStagesS_cons ?_
  simp only [List.filterMap_nil]
  show wpQuiet _ _ _ _ [] _
  try simp only [Act.put, List.setIfInBounds_toArray, List.set_cons_succ, List.set_cons_zero]
  repeat (go_big_quiet_step (fail))
  refine wpQuiet_nil ⟨_, rfl, fun K hK => ?_⟩
  go_wp2_with fail
  go_wp2_with fail
  refine hK _ _ (.inr ⟨_, lowx_of (SameX.gr HG3.out (Nat.le_refl _))⟩) ?_
  clear hK K
  refine wpStagesS_cons ?_
  simp only [List.filterMap_nil]
  show wpQuiet _ _ _ _ [] _
  try simp only [Act.put, List.setIfInBounds_toArray, List.set_cons_succ, List.set_cons_zero]
  repeat (go_big_quiet_step (fail))
  refine wpQuiet_nil ⟨_, rfl, fun K hK => ?_⟩
  go_wp2_with fail
  go_wp2_with fail
  refine hK _ _ (.inr ⟨_, lowx_of (SameX.gr HG3.out (Nat.le_refl _))⟩) ?_
  clear hK K
  refine wpStagesS_cons ?_
  simp only [List.filterMap_nil]
  show wpQuiet _ _ _ _ [] _
  try simp only [Act.put, List.setIfInBounds_toArray, List.set_cons_succ, List.set_cons_zero]
  repeat (go_big_quiet_step (fail))
  refine wpQuiet_nil ⟨_, rfl, fun K hK => ?_⟩
  go_wp2_with fail
  go_wp2_with fail
  refine hK _ _ (.inr ⟨_, lowx_of (SameX.gr HG3.out (Nat.le_refl _))⟩) ?_
  clear hK K
  refine wpStagesS_nil ?_
  go_wp2
  go_ret
  exact ⟨rfl, X3⟩
end Go.Proofs.YtaegmenjgjdimaaGreat
end
