/- Texts of this claim, one behind another: PlanX, XfD, TexP, XfP, XfV, XfM, XfE, LawXf, LiftTex, LiftNum, LiftBy0, LiftByt, LiftShp, P17. -/
import Derived.Test.YtkcghoeklbcihaaGreatDoorPlan
import Derived.Test.YtkcghoeklbcihaaGreatDoorXfS
import Derived.Test.YtkcghoeklbcihaaGreatDoorDraw
import Derived.Deep.LoopGhost
import Derived.Test.YtkcghoeklbcihaaGreatDoorTexF
import Derived.DeepKeys
import Derived.Test.YtkcghoeklbcihaaGreatDoorEx2
import Derived.OpenShut
import Derived.ShutString
import Derived.ChangeOld
import Derived.Below
import Derived.Carry
import Derived.Lib.SmallJoins
import Derived.Test.YtkcghoeklbcihaaGreatDoorNum2
import Derived.Test.YtkcghoeklbcihaaGreatDoorRows
import Derived.Stop.LaidErr
import Derived.LaidLaws
import Derived.ChangeMaps5
import Derived.Handed
import Derived.ProofKit
import Derived.Test.YtkcghoeklbcihaaGreatDoorCards
import Derived.Test.YtkcghoeklbcihaaGreatDoorTie
import Derived.LaidMore
import Derived.MakeChecks
import Derived.Stop.Joined
import Derived.Lib.LaidTab
import Derived.SevenTiedAt
section
/- This text proves the law on regions that draw their order for effects that may write one block besides those that they lay; it speaks of no program. -/
namespace Go.Proofs.YtkcghoeklbcihaaGreatDoor

/-- the blocks below N, but for X, are in w' as they were in w -/
def SameX (N X : Nat) (w w' : World) : Prop := ∀ b, b < N → b ≠ X → w'.heap[b]? = w.heap[b]?
theorem SameX.trans {N X : Nat} {w w1 w2 : World} (h : SameX N X w w1) (k : SameX N X w1 w2) : SameX N X w w2 := fun b h1 h2 => (k b h1 h2).trans (h b h1 h2)
theorem SameX.gr {N X : Nat} {w w1 : World} (h : w.grownBy w1 (some X)) (hN : N ≤ w.heap.size) : SameX N X w w1 := fun b h1 h2 => h.block b (by omega) (fun e => h2 (by simpa using e))
theorem SameX.of {N X : Nat} {w w1 : World} (h : Same 0 N w w1) : SameX N X w w1 := fun b h1 _ => h b (Nat.zero_le _) h1
open Classical in
/-- w, or d where d's blocks below N are those of w -/
noncomputable def lowx (N X : Nat) (w d : World) : World := if SameX N X w d then d else w
theorem lowx_same (N X : Nat) (w d : World) : SameX N X w (lowx N X w d) := by
  unfold lowx
  split
  · assumption
  · exact fun _ _ _ => rfl
theorem lowx_of {N X : Nat} {w d : World} (h : SameX N X w d) : d = lowx N X w d := by unfold lowx; rw [if_pos h]
@[go_sem] theorem cell?_lowx (N X : Nat) (w d : World) (a : Addr) (h : a.block < N) (hx : a.block ≠ X) : (lowx N X w d).cell? a = w.cell? a := World.cell?_of_block (w := w) (lowx_same N X w d a.block h hx)
@[go_sem] theorem frozen?_lowx (N X : Nat) (w d : World) (a : Addr) (h : a.block < N) (hx : a.block ≠ X) : (lowx N X w d).frozen? a = w.frozen? a := World.frozen?_of_block (w := w) (lowx_same N X w d a.block h hx)

/-- the stages of a region: reads, then the one operation that may come up, and so on; N: the blocks that no stage but number z writes -/
def wpStagesX (P : Program) (ops : Array Oper) (Q : Exit → Act → World → Prop) (N X : Nat) (w0 : World) (z : Nat) : List (List Nat × Nat) → Act → World → Prop
  | [], a, w => Q .normal a w
  | (T, e) :: r, a, w => wpQuiet P ops (fun w' => ∃ d, w' = lowx N X w0 d) (fun a' => ∃ o, ops[e]? = some o ∧ wpList P ops (Exit.then (fun a2 w2 => (e = z ∨ SameX N X w0 w2) ∧ wpStagesX P ops Q N X w0 z r a2 w2) Q) [o] a' w) (T.filterMap (ops[·]?)) a

theorem plan_of_quietX {P : Program} {ops : Array Oper} {Q : Exit → Act → World → Prop} {N X : Nat} {w0 : World} {z : Nat} {r : List (Bool × Nat)} {w : World} {K : Act → Prop}
    (hK : ∀ a, K a → wpPlan P ops Q (fun w' => ∃ d, w' = lowx N X w0 d) z r a w) :
    ∀ (T : List Nat) (a : Act), T.all (fun i => match ops[i]? with | some o => isRead o.op | none => false) = true → wpQuiet P ops (fun w' => ∃ d, w' = lowx N X w0 d) K (T.filterMap (ops[·]?)) a →
      wpPlan P ops Q (fun w' => ∃ d, w' = lowx N X w0 d) z (T.map (fun i => (true, i)) ++ r) a w
  | [], a, _, h => hK a h
  | i :: T, a, hr, h => by
    simp only [List.all_cons, Bool.and_eq_true] at hr
    obtain ⟨hri, hr'⟩ := hr
    cases ho : ops[i]? with
    | none => rw [ho] at hri; cases hri
    | some o =>
      rw [ho] at hri
      simp only [List.filterMap_cons, ho] at h
      refine ⟨o, ho, ?_⟩
      unfold takeOp
      unfold wpQuiet at h
      split
      · rename_i hw
        rw [if_pos hw] at h
        obtain ⟨v, hv, hn⟩ := h
        refine ⟨v, fun w' hw' => ?_, plan_of_quietX hK T _ hr' hn⟩
        have h1 := hv w' hw'
        unfold Oper.quietAt at h1
        cases hrun : (execOp a.eval o).run P w' with
        | halt x w1 => rw [hrun] at h1; exact h1.elim
        | ok n w1 =>
          obtain ⟨u, rfl⟩ := value_only hri hrun
          rw [hrun] at h1
          obtain ⟨e1, e2⟩ := h1
          rw [e1, e2]
      · rename_i hw
        rw [if_neg hw] at h
        exact plan_of_quietX hK T _ hr' h

theorem plan_of_stagesX {P : Program} {ops : Array Oper} {Q : Exit → Act → World → Prop} {N X : Nat} {w0 : World} {z : Nat} : ∀ (st : List (List Nat × Nat)) (a : Act) (w : World), readsOk ops st = true →
    wpStagesX P ops Q N X w0 z st a w → wpPlan P ops Q (fun w' => ∃ d, w' = lowx N X w0 d) z (stagesPlan st) a w
  | [], _, _, _, h => h
  | (T, e) :: r, a, w, hr, h => by
    simp only [readsOk, Bool.and_eq_true] at hr
    refine plan_of_quietX (K := fun a' => ∃ o, ops[e]? = some o ∧ wpList P ops (Exit.then (fun a2 w2 => (e = z ∨ SameX N X w0 w2) ∧ wpStagesX P ops Q N X w0 z r a2 w2) Q) [o] a' w) (fun a' ha => ?_) T a hr.1 h
    obtain ⟨o, ho, hl⟩ := ha
    refine ⟨o, ho, ?_⟩
    have key : ∀ a2 w2, ((e = z ∨ SameX N X w0 w2) ∧ wpStagesX P ops Q N X w0 z r a2 w2) → ((e = z ∨ ∃ d, w2 = lowx N X w0 d) ∧ wpPlan P ops Q (fun w' => ∃ d, w' = lowx N X w0 d) z (stagesPlan r) a2 w2) :=
      fun a2 w2 ⟨k1, k2⟩ => ⟨k1.imp id (fun k => ⟨_, lowx_of k⟩), plan_of_stagesX r a2 w2 hr.2 k2⟩
    unfold wpList at hl ⊢
    split
    · rename_i hw
      rw [if_pos hw] at hl
      rcases hl with hl | ⟨h1, h2⟩
      · refine .inl ?_
        have h3 := upon_then hl
        have h4 : o.wp P a' w (wpList P ops (Exit.then (fun a2 w2 => (e = z ∨ SameX N X w0 w2) ∧ wpStagesX P ops Q N X w0 z r a2 w2) Q) []) Q := h3
        have h5 := Oper.wp_mono (K' := wpList P ops (Exit.then (fun a2 w2 => (e = z ∨ ∃ d, w2 = lowx N X w0 d) ∧ wpPlan P ops Q (fun w' => ∃ d, w' = lowx N X w0 d) z (stagesPlan r) a2 w2) Q) []) (fun a2 w2 hk => key a2 w2 hk) h4
        unfold Oper.wp at h5 ⊢
        generalize (execOp a'.eval o).run P w = res at h5 ⊢
        cases res with
        | ok n w' => cases n <;> exact h5
        | halt x w' => cases x <;> exact h5
      · exact .inr ⟨h1, h2⟩
    · rename_i hw
      rw [if_neg hw] at hl
      exact key _ _ hl

/-- the law that the walks use -/
theorem wp_region_stagesX {P : Program} {Q : Exit → Act → World → Prop} {id : Nat} {a : Act} {w : World} {l : List Oper} (st : List (List Nat × Nat)) (z N X : Nat) (hm : P.follows .mixedOrders = true)
    (hB : (planB .any l.toArray z (stagesPlan st) && readsOk l.toArray st && (stagesPlan st).length == l.length) = true)
    (h : wpStagesX P l.toArray (NoPanic Q) N X w z st a w.drew) : (Code.region id l.toArray true).wp P Q a w := by
  simp only [Bool.and_eq_true, beq_iff_eq] at hB
  have hs : ∀ w2, SameX N X w w2 → ∃ d, w2 = lowx N X w d := fun w2 k => ⟨_, lowx_of k⟩
  exact wp_region_plan (stagesPlan st) z (fun w' => ∃ d, w' = lowx N X w d) hm hB.1.1 hB.2 (hs _ (fun _ _ _ => rfl)) (plan_of_stagesX st a w.drew hB.1.2 h)

theorem wpStagesX_nil {P : Program} {ops : Array Oper} {Q : Exit → Act → World → Prop} {N X : Nat} {w0 : World} {z : Nat} {a : Act} {w : World} (h : Q .normal a w) : wpStagesX P ops (NoPanic Q) N X w0 z [] a w := h
/-- one stage: the reads, then the operation; what follows stands behind a variable -/
theorem wpStagesX_cons {P : Program} {ops : Array Oper} {Q : Exit → Act → World → Prop} {N X : Nat} {w0 : World} {z : Nat} {T : List Nat} {e : Nat} {r : List (List Nat × Nat)} {a : Act} {w : World}
    (h : wpQuiet P ops (fun w' => ∃ d, w' = lowx N X w0 d) (fun a' => ∃ o, ops[e]? = some o ∧ ∀ K : Act → World → Prop, (∀ a2 w2, (e = z ∨ SameX N X w0 w2) → wpStagesX P ops Q N X w0 z r a2 w2 → K a2 w2) → wpList P ops (Exit.then K Q) [o] a' w) (T.filterMap (ops[·]?)) a) :
    wpStagesX P ops Q N X w0 z ((T, e) :: r) a w := by
  unfold wpStagesX
  have e1 : (fun a' => ∃ o, ops[e]? = some o ∧ wpList P ops (Exit.then (fun a2 w2 => (e = z ∨ SameX N X w0 w2) ∧ wpStagesX P ops Q N X w0 z r a2 w2) Q) [o] a' w) =
      (fun a' => ∃ o, ops[e]? = some o ∧ ∀ K : Act → World → Prop, (∀ a2 w2, (e = z ∨ SameX N X w0 w2) → wpStagesX P ops Q N X w0 z r a2 w2 → K a2 w2) → wpList P ops (Exit.then K Q) [o] a' w) := by
    funext a'
    refine propext ⟨fun ⟨o, ho, hl⟩ => ⟨o, ho, fun K hK => ?_⟩, fun ⟨o, ho, hl⟩ => ⟨o, ho, hl _ fun a2 w2 h1 h2 => ⟨h1, h2⟩⟩⟩
    unfold wpList at hl ⊢
    split
    · rename_i hw
      rw [if_pos hw] at hl
      rcases hl with hl | ⟨h1, h2⟩
      · refine .inl ?_
        have h4 := Oper.wp_mono (K' := wpList P ops (Exit.then K Q) []) (fun a2 w2 hk => hK a2 w2 hk.1 hk.2) hl
        unfold Oper.wp at h4 ⊢
        generalize (execOp a'.eval o).run P w = res at h4 ⊢
        cases res with
        | ok n w' => cases n <;> exact h4
        | halt x w' => cases x <;> exact h4
      · exact .inr ⟨h1, h2⟩
    · rename_i hw
      rw [if_neg hw] at hl
      exact hK _ _ hl.1 hl.2
  rw [e1]
  exact h


end Go.Proofs.YtkcghoeklbcihaaGreatDoor
end

section
/- This text proves what the reference's quarter turns are, and which transforms the laws draw. -/
namespace Go.Proofs.YtkcghoeklbcihaaGreatDoor
open Go.RowKit

set_option maxRecDepth 20000 in
set_option maxHeartbeats 3200000 in
theorem sQuarter_any (a k : Nat) (ha : a < 3) (hk : k < 4) (w : World) : Calls Tryz.prog 39 #[.int .i64 a, .int .i64 k] w fun e w' => e = .returned (xV (qm a k)) ∧ Ext w w' := by
  have hfd : fdiv (k : Int) 4 = 0 := by unfold fdiv; rw [if_neg (by omega)]; omega
  have HFD := hid hfd
  have hin : inB (a : Int) 0 2 = true := by rw [inB_iff]; omega
  have HIN := hid hin
  clear hfd hin
  go_enter Tryz.func39, Tryz.ntmps39
  go_wp2_with fail
  refine (sIdentity_val _).mono ?_
  rintro e w2 ⟨rfl, x2⟩
  have y2 : Ext w2 (w2.alloc (.cells (mC (qm a 0)).toArray 29)) := (by repeat (with_reducible (first | assumption | exact Ext.refl _ | apply Ext.alloc | apply Ext.drew | apply Ext.drewN)))
  have R2 := (Blk.new w 29 (mC fun _ => 0)).ext (x2.trans y2)
  have E2 : Ext w (w2.alloc (.cells (mC (qm a 0)).toArray 29)) := Ext.trans ((Ext.refl w).alloc _) (x2.trans y2)
  have M2 := Blk.new w2 29 (mC (qm a 0))
  have z2 := x2.size
  rw [World.size_alloc] at z2
  go_upto_region 2 with fail
  change Code.wp _ _ _ _ (w2.alloc (.cells (mC (qm a 0)).toArray 29))
  obtain ⟨b2, hb2⟩ : ∃ b, w2.heap.size = b := ⟨_, rfl⟩
  rw [hb2] at M2 z2 ⊢
  generalize w2.alloc (.cells (mC (qm a 0)).toArray 29) = w3 at R2 E2 M2 ⊢
  clear hb2 x2 y2
  go_wp2_with (first | (go_at_call 57; refine (l01In_val HIN.out _).mono ?_; rintro e w2 ⟨rfl, rfl⟩) | (go_at_call 58; refine (sFloorDiv_val (I64.mk (by omega) (by omega)) HFD.out _).mono ?_; rintro e w2 ⟨rfl, rfl⟩))
  go_loopg [6] k (fun g p wr => p = .int .i64 g ∧ g ≤ k ∧ Ext w wr ∧ Blk wr w.heap.size 29 (mC fun _ => 0) ∧ Blk wr b2 29 (mC (qm a (k - g))))
  case atStart => exact ⟨rfl, by omega, E2, R2, by rw [Nat.sub_self]; exact M2⟩
  case round =>
    clear E2 R2 M2
    obtain ⟨rfl, hg, hE, hR, hM⟩ := hrel
    by_cases hlt : 0 < gk
    · have hq := qm_mIn (j := k - gk) ha (by omega)
      have hnext : k - (gk - 1) = (k - gk) + 1 := by omega
      have hqn : qm a (k - (gk - 1)) = aft (tq a) (qm a (k - gk)) := by rw [hnext]; rfl
      generalize qm a (k - gk) = q at hM hq hqn
      have HQ := hid hq
      have HQN := hid hqn
      have HR := hid hR
      have HE := hid hE
      have HM := hid hM
      have m0 := hM.cell 0 rfl
      have m1 := hM.cell 1 rfl
      have m2 := hM.cell 2 rfl
      have m3 := hM.cell 3 rfl
      have m4 := hM.cell 4 rfl
      have m5 := hM.cell 5 rfl
      have m6 := hM.cell 6 rfl
      have m7 := hM.cell 7 rfl
      have m8 := hM.cell 8 rfl
      have ml := hM.lt
      have rl := hR.lt
      clear hR hE hM hq hqn hnext
      go_wp2
      refine wp_region_stages [([0, 2, 3], 1), ([], 4), ([5], 6)] 6 wr.heap.size (by kernel_rfl) (by kernel_rfl) ?_
      refine wpStages_cons ?_
      simp only [List.filterMap_cons, List.filterMap_nil, List.getElem?_toArray, List.getElem?_cons_zero, List.getElem?_cons_succ]
      show wpQuiet _ _ _ _ [_, _, _] _
      repeat (go_big_quiet_step (fail))
      refine wpQuiet_nil ⟨_, rfl, fun K hK => ?_⟩
      go_wp2_with fail
      refine (sQuarterOf_any a ha _).mono ?_
      rintro e w4 ⟨rfl, x4⟩
      have X4 : Ext wr w4 := Ext.trans (by repeat (with_reducible (first | assumption | exact Ext.refl _ | apply Ext.alloc | apply Ext.drew | apply Ext.drewN))) x4
      go_wp2_with fail
      refine hK _ _ (.inr (fun b _ hb => X4.block (by omega))) ?_
      clear hK K
      refine wpStages_cons ?_
      simp only [List.filterMap_nil]
      show wpQuiet _ _ _ _ [] _
      try simp only [Act.put, List.getElem_toArray, List.getElem_cons_succ, List.getElem_cons_zero, List.setIfInBounds_toArray, List.set_cons_succ, List.set_cons_zero]
      refine wpQuiet_nil ⟨_, rfl, fun K hK => ?_⟩
      go_wp2_with fail
      refine (sMul_any (tq a) q (tq_mIn ha) HQ.out _).mono ?_
      rintro e w5 ⟨rfl, x5⟩
      have X5 := X4.trans x5
      rw [← HQN.out]
      have HR5 := hid (HR.out.ext X5)
      have HM5 := hid (HM.out.ext X5)
      have HE5 := hid (HE.out.trans X5)
      obtain ⟨q1, hq1⟩ : ∃ q, qm a (k - (gk - 1)) = q := ⟨_, rfl⟩
      rw [hq1]
      have HQ1 := hid hq1
      have z5 := X5.size
      clear hq1
      go_wp2_with fail
      refine hK _ _ (.inr (fun b _ hb => X5.block (by omega))) ?_
      clear hK K x4 X4 x5 X5
      have hM5 := HM5.out
      have m0 := hM5.cell 0 rfl
      have m1 := hM5.cell 1 rfl
      have m2 := hM5.cell 2 rfl
      have m3 := hM5.cell 3 rfl
      have m4 := hM5.cell 4 rfl
      have m5 := hM5.cell 5 rfl
      have m6 := hM5.cell 6 rfl
      have m7 := hM5.cell 7 rfl
      have m8 := hM5.cell 8 rfl
      have f0 := hM5.free 0
      have f1 := hM5.free 1
      have f2 := hM5.free 2
      have f3 := hM5.free 3
      have f4 := hM5.free 4
      have f5 := hM5.free 5
      have f6 := hM5.free 6
      have f7 := hM5.free 7
      have f8 := hM5.free 8
      have ml5 := hM5.lt
      clear hM5
      refine wpStages_cons ?_
      simp only [List.filterMap_cons, List.filterMap_nil, List.getElem?_toArray, List.getElem?_cons_zero, List.getElem?_cons_succ]
      show wpQuiet _ _ _ _ [_] _
      try simp only [Act.put, List.getElem_toArray, List.getElem_cons_succ, List.getElem_cons_zero, List.setIfInBounds_toArray, List.set_cons_succ, List.set_cons_zero]
      repeat (go_big_quiet_step (fail))
      refine wpQuiet_nil ⟨_, rfl, fun K hK => ?_⟩
      unfold mV
      go_wp2_with fail
      refine hK _ _ (.inl (by trivial)) (wpStages_nil ?_)
      clear hK K
      go_wp2
      go_roundg (gk - 1)
      case measure => omega
      case rel =>
        have hMx := (((((((((HM5.out.set 0 (.int .i64 (q1 0))).set 1 (.int .i64 (q1 1))).set 2 (.int .i64 (q1 2))).set 3 (.int .i64 (q1 3))).set 4 (.int .i64 (q1 4))).set 5 (.int .i64 (q1 5))).set 6 (.int .i64 (q1 6))).set 7 (.int .i64 (q1 7))).set 8 (.int .i64 (q1 8)))
        refine ⟨by go_num, by omega, ?_, ?_, ?_⟩
        · have hE := HE5.out
          exact (by repeat (first | with_reducible assumption | with_reducible exact Ext.refl _ | with_reducible apply Ext.alloc | with_reducible apply Ext.drew | with_reducible apply Ext.drewN | (with_reducible refine Ext.setCell ?_ (by simp; omega) _) | (with_reducible refine Ext.setCell ?_ (by simp) _)))
        · exact ((((((((HR5.out.other (by simp; omega) _).other (by simp; omega) _).other (by simp; omega) _).other (by simp; omega) _).other (by simp; omega) _).other (by simp; omega) _).other (by simp; omega) _).other (by simp; omega) _).other (by simp; omega) _
        · rw [HQ1.out]
          exact hMx
    · have hgk : gk = 0 := by omega
      subst hgk
      have HE := hid hE
      have r0 := hR.cell 0 rfl
      have r1 := hR.cell 1 rfl
      have r2 := hR.cell 2 rfl
      have r3 := hR.cell 3 rfl
      have r4 := hR.cell 4 rfl
      have r5 := hR.cell 5 rfl
      have r6 := hR.cell 6 rfl
      have r7 := hR.cell 7 rfl
      have r8 := hR.cell 8 rfl
      have r9 := hR.cell 9 rfl
      have r10 := hR.cell 10 rfl
      have r11 := hR.cell 11 rfl
      have f0 := hR.free 0
      have f1 := hR.free 1
      have f2 := hR.free 2
      have f3 := hR.free 3
      have f4 := hR.free 4
      have f5 := hR.free 5
      have f6 := hR.free 6
      have f7 := hR.free 7
      have f8 := hR.free 8
      have f9 := hR.free 9
      have f10 := hR.free 10
      have f11 := hR.free 11
      have m0 := hM.cell 0 rfl
      have m1 := hM.cell 1 rfl
      have m2 := hM.cell 2 rfl
      have m3 := hM.cell 3 rfl
      have m4 := hM.cell 4 rfl
      have m5 := hM.cell 5 rfl
      have m6 := hM.cell 6 rfl
      have m7 := hM.cell 7 rfl
      have m8 := hM.cell 8 rfl
      have m9 := hM.cell 9 rfl
      have m10 := hM.cell 10 rfl
      have m11 := hM.cell 11 rfl
      have ml := hM.lt
      have rl := hR.lt
      rw [Nat.sub_zero] at *
      generalize hq : qm a k = q at *
      have HQ := hid hq
      clear hq hR hM hE
      go_wp2
      refine bodyPost_ret (v := xV q) (by unfold xV; simp [results, Tryz.results39, go_sem, *]) rfl ⟨by rw [HQ.out], ?_⟩
      have hE := HE.out
      exact (by repeat (first | with_reducible assumption | with_reducible exact Ext.refl _ | with_reducible apply Ext.alloc | with_reducible apply Ext.drew | with_reducible apply Ext.drewN | (with_reducible refine Ext.setCell ?_ (by simp; omega) _) | (with_reducible refine Ext.setCell ?_ (by simp) _)))

theorem Blk12.made (w : World) : Blk (w.alloc (.cells #[.int .i64 0, .int .i64 0, .int .i64 0, .int .i64 0, .int .i64 0, .int .i64 0, .int .i64 0, .int .i64 0, .int .i64 0, .int .i64 0, .int .i64 0, .int .i64 0] 29)) w.heap.size 29 (mC fun _ => 0) := Blk.new w _ (mC fun _ => 0)
set_option maxRecDepth 20000 in
set_option maxHeartbeats 1600000 in
theorem sUniform_val (i : Int) (hi : -64 ≤ i ∧ i ≤ 64) (w : World) : Calls Tryz.prog 40 #[.int .i64 i] w fun e w' => e = .returned (xV (lst [i, 0, 0, 0, i, 0, 0, 0, i])) ∧ Ext w w' := by
  have hin : inB i (-64) 64 = true := by rw [inB_iff]; omega
  have HIN := hid hin
  clear hin
  go_enter Tryz.func40, Tryz.ntmps40
  go_wp2_with fail
  refine (sIdentity_val _).mono ?_
  rintro e w2 ⟨rfl, x2⟩
  have R2 := (Blk12.made w).ext x2
  have E2 : Ext w w2 := Ext.trans (by repeat (with_reducible (first | assumption | exact Ext.refl _ | apply Ext.alloc | apply Ext.drew | apply Ext.drewN))) x2
  have r0 := R2.cell 0 rfl
  have r1 := R2.cell 1 rfl
  have r2 := R2.cell 2 rfl
  have r3 := R2.cell 3 rfl
  have r4 := R2.cell 4 rfl
  have r5 := R2.cell 5 rfl
  have r6 := R2.cell 6 rfl
  have r7 := R2.cell 7 rfl
  have r8 := R2.cell 8 rfl
  have r9 := R2.cell 9 rfl
  have r10 := R2.cell 10 rfl
  have r11 := R2.cell 11 rfl
  have f0 := R2.free 0
  have f1 := R2.free 1
  have f2 := R2.free 2
  have f3 := R2.free 3
  have f4 := R2.free 4
  have f5 := R2.free 5
  have f6 := R2.free 6
  have f7 := R2.free 7
  have f8 := R2.free 8
  have f9 := R2.free 9
  have f10 := R2.free 10
  have f11 := R2.free 11
  have rl := R2.lt
  clear R2 x2
  go_wp2_with (go_at_call 57; refine (l01In_val HIN.out _).mono ?_; rintro e w2 ⟨rfl, rfl⟩)
  refine bodyPost_ret (v := xV (lst [i, 0, 0, 0, i, 0, 0, 0, i])) (by unfold xV lst; simp [results, Tryz.results40, go_sem, *]) rfl ⟨rfl, ?_⟩
  exact (by repeat (first | with_reducible assumption | with_reducible exact Ext.refl _ | with_reducible apply Ext.alloc | with_reducible apply Ext.drew | with_reducible apply Ext.drewN | (with_reducible refine Ext.setCell ?_ (by simp; omega) _) | (with_reducible refine Ext.setCell ?_ (by simp) _)))
set_option maxRecDepth 20000 in
set_option maxHeartbeats 1600000 in
theorem sTranslation_val (x y z : Int) (h : okVec x y z = true) (w : World) : Calls Tryz.prog 41 #[.agg #[.int .i64 x, .int .i64 y, .int .i64 z]] w fun e w' => e = .returned (.agg #[.int .i64 16, .int .i64 0, .int .i64 0, .int .i64 0, .int .i64 16, .int .i64 0, .int .i64 0, .int .i64 0, .int .i64 16, .int .i64 x, .int .i64 y, .int .i64 z]) ∧ Ext w w' := by
  have HOK := hid h
  clear h
  go_enter Tryz.func41, Tryz.ntmps41
  go_wp2_with fail
  refine (sIdentity_val _).mono ?_
  rintro e w2 ⟨rfl, x2⟩
  have R2 : Blk w2 (w.heap.size + 1) 29 (mC fun _ => 0) := by
    have h := (Blk12.made (w.alloc (.cells #[.int .i64 x, .int .i64 y, .int .i64 z] 24))).ext x2
    rw [World.size_alloc] at h
    exact h
  have V2 := (Blk.new w 24 [.int .i64 x, .int .i64 y, .int .i64 z]).ext (((Ext.refl _).alloc _).trans x2)
  have E2 : Ext w w2 := Ext.trans (by repeat (with_reducible (first | assumption | exact Ext.refl _ | apply Ext.alloc | apply Ext.drew | apply Ext.drewN))) x2
  have HR2 := hid R2
  have HV2 := hid V2
  have v0 := V2.cell 0 rfl
  have v1 := V2.cell 1 rfl
  have v2 := V2.cell 2 rfl
  have vl := V2.lt
  have rl := R2.lt
  clear x2 R2 V2
  go_wp2_with fail
  refine (sIsValidVec_val _).mono ?_
  rw [HOK.out]
  rintro e w3 ⟨rfl, x3⟩
  have y3 : Ext w2 w3 := Ext.trans (by repeat (with_reducible (first | assumption | exact Ext.refl _ | apply Ext.alloc | apply Ext.drew | apply Ext.drewN))) x3
  have M3 := (Blk.new w2 29 (mC (qm 0 0))).ext x3
  have R3 := HR2.out.ext y3
  have V3' := HV2.out.ext y3
  have E3 := E2.trans y3
  clear v0 v1 v2 x3
  have v0 := V3'.cell 0 rfl
  have v1 := V3'.cell 1 rfl
  have v2 := V3'.cell 2 rfl
  have vl' := V3'.lt
  have m0 := M3.cell 0 rfl
  have m1 := M3.cell 1 rfl
  have m2 := M3.cell 2 rfl
  have m3 := M3.cell 3 rfl
  have m4 := M3.cell 4 rfl
  have m5 := M3.cell 5 rfl
  have m6 := M3.cell 6 rfl
  have m7 := M3.cell 7 rfl
  have m8 := M3.cell 8 rfl
  have m9 := M3.cell 9 rfl
  have m10 := M3.cell 10 rfl
  have m11 := M3.cell 11 rfl
  have f0 := M3.free 0
  have f1 := M3.free 1
  have f2 := M3.free 2
  have f3 := M3.free 3
  have f4 := M3.free 4
  have f5 := M3.free 5
  have f6 := M3.free 6
  have f7 := M3.free 7
  have f8 := M3.free 8
  have f9 := M3.free 9
  have f10 := M3.free 10
  have f11 := M3.free 11
  have r0 := R3.cell 0 rfl
  have r1 := R3.cell 1 rfl
  have r2 := R3.cell 2 rfl
  have r3 := R3.cell 3 rfl
  have r4 := R3.cell 4 rfl
  have r5 := R3.cell 5 rfl
  have r6 := R3.cell 6 rfl
  have r7 := R3.cell 7 rfl
  have r8 := R3.cell 8 rfl
  have r9 := R3.cell 9 rfl
  have r10 := R3.cell 10 rfl
  have r11 := R3.cell 11 rfl
  have g0 := R3.free 0
  have g1 := R3.free 1
  have g2 := R3.free 2
  have g3 := R3.free 3
  have g4 := R3.free 4
  have g5 := R3.free 5
  have g6 := R3.free 6
  have g7 := R3.free 7
  have g8 := R3.free 8
  have g9 := R3.free 9
  have g10 := R3.free 10
  have g11 := R3.free 11
  have ml := M3.lt
  have rl' := R3.lt
  simp [qm, lst] at m0 m1 m2 m3 m4 m5 m6 m7 m8 m9 m10 m11
  clear M3 R3 V3' y3
  go_wp2
  refine bodyPost_ret (v := .agg #[.int .i64 16, .int .i64 0, .int .i64 0, .int .i64 0, .int .i64 16, .int .i64 0, .int .i64 0, .int .i64 0, .int .i64 16, .int .i64 x, .int .i64 y, .int .i64 z]) (by simp [results, Tryz.results41, go_sem, *]) rfl ⟨rfl, ?_⟩
  have z2 := E2.size
  exact (by repeat (first | with_reducible assumption | with_reducible exact Ext.refl _ | with_reducible apply Ext.alloc | with_reducible apply Ext.drew | with_reducible apply Ext.drewN | (with_reducible refine Ext.setCell ?_ (by simp; omega) _) | (with_reducible refine Ext.setCell ?_ (by simp) _)))

/-- a transform of twelve numbers -/
def xfF (h : Nat → Int) : Xf := ⟨h 0, h 1, h 2, h 3, h 4, h 5, h 6, h 7, h 8, h 9, h 10, h 11⟩
/-- drawn transforms hold small numbers -/
def Xf.small (t : Xf) : Prop := (∀ n ∈ t.ms, -64 ≤ n ∧ n ≤ 64) ∧ (-1000000 ≤ t.x ∧ t.x ≤ 1000000) ∧ (-1000000 ≤ t.y ∧ t.y ≤ 1000000) ∧ (-1000000 ≤ t.z ∧ t.z ≤ 1000000)
theorem Xf.small.ok {t : Xf} (h : t.small) : t.ok = true := by
  obtain ⟨h1, h2, h3, h4⟩ := h
  unfold Xf.ok okVec
  simp only [Bool.and_eq_true, List.all_eq_true, inB_iff]
  exact ⟨h1, ⟨h2, h3⟩, h4⟩
theorem Xf.small.I {t : Xf} (h : t.small) : t.I := by
  obtain ⟨h1, h2, h3, h4⟩ := h
  exact ⟨fun n hn => by have := h1 n hn; exact ⟨by omega, by omega⟩, ⟨by omega, by omega⟩, ⟨by omega, by omega⟩, ⟨by omega, by omega⟩⟩
theorem xV_small {q : Nat → Int} (h : ∀ i, i < 9 → -64 ≤ q i ∧ q i ≤ 64) : ∃ t : Xf, xV q = t.V ∧ t.small :=
  ⟨⟨q 0, q 1, q 2, q 3, q 4, q 5, q 6, q 7, q 8, 0, 0, 0⟩, rfl, fun n hn => by
    simp only [Xf.ms, List.mem_cons, List.not_mem_nil, or_false] at hn
    rcases hn with rfl | rfl | rfl | rfl | rfl | rfl | rfl | rfl | rfl <;> exact h _ (by decide), by show (-1000000 : Int) ≤ 0 ∧ (0 : Int) ≤ 1000000; decide, by show (-1000000 : Int) ≤ 0 ∧ (0 : Int) ≤ 1000000; decide, by show (-1000000 : Int) ≤ 0 ∧ (0 : Int) ≤ 1000000; decide⟩

set_option maxRecDepth 20000 in
set_option maxHeartbeats 3200000 in
theorem l04Draw_any (hi B : Nat) (w : World) (hc : Cur hi w B) :
    Calls Tryz.prog 21 #[.pointer (some ⟨B, 0, none⟩)] w fun e w' => ∃ t : Xf, e = .returned t.V ∧ t.small ∧ Cur hi w' B ∧ Gr B w w' := by
  have HC := hid hc
  have hB := hc.lt
  clear hc
  go_enter Tryz.func21, Tryz.ntmps21
  go_wp2_with fail
  refine (l01Below_any hi B 4 _ (HC.out.ext (by repeat (with_reducible (first | assumption | exact Ext.refl _ | apply Ext.alloc | apply Ext.drew | apply Ext.drewN)))) (by decide) ⟨by decide, by decide⟩).mono ?_
  rintro e w1 ⟨L, rfl, ⟨L0, L1⟩, C1, G1⟩
  have R1 := G1.blk (Blk12.made w) (by omega)
  have z1 := G1.size
  rw [World.size_alloc] at z1
  have G1' : Gr B w w1 := ((Gr.refl B w).ext (by repeat (with_reducible (first | assumption | exact Ext.refl _ | apply Ext.alloc | apply Ext.drew | apply Ext.drewN)))).trans G1
  have HR1 := hid R1
  clear R1 G1
  rcases (by omega : L = 0 ∨ L = 1 ∨ L = 2 ∨ L = 3) with rfl | rfl | rfl | rfl
  · go_wp2_with fail
    refine (l01Below_any hi B 3 _ C1 (by decide) ⟨by decide, by decide⟩).mono ?_
    rintro e w2 ⟨p, rfl, ⟨p0, p1⟩, C2, G2⟩
    go_wp2_with fail
    refine (l01Below_any hi B 4 _ C2 (by decide) ⟨by decide, by decide⟩).mono ?_
    rintro e w3 ⟨q, rfl, ⟨q0, q1⟩, C3, G3⟩
    obtain ⟨a, rfl⟩ : ∃ a : Nat, p = a := ⟨p.toNat, by omega⟩
    obtain ⟨k, rfl⟩ : ∃ a : Nat, q = a := ⟨q.toNat, by omega⟩
    have G3' := G1'.trans (G2.trans G3)
    have R3 := (G2.trans G3).blk HR1.out (by omega)
    have hsm := xV_small (q := qm a k) (fun i hi => by have := qm_in a (by omega) k (by omega) i hi; omega)
    have HSM := hid hsm
    clear hsm G2 G3 C1 C2
    go_wp2_with fail
    refine (sQuarter_any a k (by omega) (by omega) _).mono ?_
    rintro e w4 ⟨rfl, x4⟩
    have G4 := G3'.ext x4
    have C4 := C3.ext x4
    have R4 := R3.ext x4
    have r0 := R4.cell 0 rfl
    have r1 := R4.cell 1 rfl
    have r2 := R4.cell 2 rfl
    have r3 := R4.cell 3 rfl
    have r4 := R4.cell 4 rfl
    have r5 := R4.cell 5 rfl
    have r6 := R4.cell 6 rfl
    have r7 := R4.cell 7 rfl
    have r8 := R4.cell 8 rfl
    have r9 := R4.cell 9 rfl
    have r10 := R4.cell 10 rfl
    have r11 := R4.cell 11 rfl
    have f0 := R4.free 0
    have f1 := R4.free 1
    have f2 := R4.free 2
    have f3 := R4.free 3
    have f4 := R4.free 4
    have f5 := R4.free 5
    have f6 := R4.free 6
    have f7 := R4.free 7
    have f8 := R4.free 8
    have f9 := R4.free 9
    have f10 := R4.free 10
    have f11 := R4.free 11
    have rl := R4.lt
    generalize qm a k = q at HSM
    clear R4 x4 R3
    unfold xV
    go_wp2_with fail
    obtain ⟨t, ht, hs⟩ := HSM.out
    refine bodyPost_ret (v := xV q) (by unfold xV; simp [results, Tryz.results21, go_sem, *]) rfl ⟨t, by rw [ht], hs, ?_, ?_⟩
    · exact (((((((((((C4.setNew (by omega) _ _).setNew (by omega) _ _).setNew (by omega) _ _).setNew (by omega) _ _).setNew (by omega) _ _).setNew (by omega) _ _).setNew (by omega) _ _).setNew (by omega) _ _).setNew (by omega) _ _).setNew (by omega) _ _).setNew (by omega) _ _).setNew (by omega) _ _
    · exact (((((((((((G4.setNew (Nat.le_refl _) _ _).setNew (Nat.le_refl _) _ _).setNew (Nat.le_refl _) _ _).setNew (Nat.le_refl _) _ _).setNew (Nat.le_refl _) _ _).setNew (Nat.le_refl _) _ _).setNew (Nat.le_refl _) _ _).setNew (Nat.le_refl _) _ _).setNew (Nat.le_refl _) _ _).setNew (Nat.le_refl _) _ _).setNew (Nat.le_refl _) _ _).setNew (Nat.le_refl _) _ _
  · go_wp2_with fail
    refine (l01Below_any hi B 24 _ C1 (by decide) ⟨by decide, by decide⟩).mono ?_
    rintro e w2 ⟨p, rfl, ⟨p0, p1⟩, C2, G2⟩
    have G3' := G1'.trans G2
    have R3 := G2.blk HR1.out (by omega)
    obtain ⟨i, hi'⟩ : ∃ i, 4 + p = i := ⟨_, rfl⟩
    have hi0 : -64 ≤ i ∧ i ≤ 64 := by omega
    have hsm := xV_small (q := lst [i, 0, 0, 0, i, 0, 0, 0, i]) (fun j hj => by rcases nine hj with rfl | rfl | rfl | rfl | rfl | rfl | rfl | rfl | rfl <;> simp [lst] <;> omega)
    have HSM := hid hsm
    have hw : wrap64 (4 + p) = i := by rw [hi']; exact I64.wrap (I64.mk (by omega) (by omega))
    clear hsm C1
    go_wp2_with fail
    try rw [hi']
    refine (sUniform_val i hi0 _).mono ?_
    rintro e w4 ⟨rfl, x4⟩
    have G4 := G3'.ext x4
    have C4 := C2.ext x4
    have R4 := R3.ext x4
    have r0 := R4.cell 0 rfl
    have r1 := R4.cell 1 rfl
    have r2 := R4.cell 2 rfl
    have r3 := R4.cell 3 rfl
    have r4 := R4.cell 4 rfl
    have r5 := R4.cell 5 rfl
    have r6 := R4.cell 6 rfl
    have r7 := R4.cell 7 rfl
    have r8 := R4.cell 8 rfl
    have r9 := R4.cell 9 rfl
    have r10 := R4.cell 10 rfl
    have r11 := R4.cell 11 rfl
    have f0 := R4.free 0
    have f1 := R4.free 1
    have f2 := R4.free 2
    have f3 := R4.free 3
    have f4 := R4.free 4
    have f5 := R4.free 5
    have f6 := R4.free 6
    have f7 := R4.free 7
    have f8 := R4.free 8
    have f9 := R4.free 9
    have f10 := R4.free 10
    have f11 := R4.free 11
    have rl := R4.lt
    generalize lst [i, 0, 0, 0, i, 0, 0, 0, i] = q at HSM
    clear R4 x4 R3 hw hi'
    unfold xV
    go_wp2_with fail
    obtain ⟨t, ht, hs⟩ := HSM.out
    refine bodyPost_ret (v := xV q) (by unfold xV; simp [results, Tryz.results21, go_sem, *]) rfl ⟨t, by rw [ht], hs, ?_, ?_⟩
    · exact (((((((((((C4.setNew (by omega) _ _).setNew (by omega) _ _).setNew (by omega) _ _).setNew (by omega) _ _).setNew (by omega) _ _).setNew (by omega) _ _).setNew (by omega) _ _).setNew (by omega) _ _).setNew (by omega) _ _).setNew (by omega) _ _).setNew (by omega) _ _).setNew (by omega) _ _
    · exact (((((((((((G4.setNew (Nat.le_refl _) _ _).setNew (Nat.le_refl _) _ _).setNew (Nat.le_refl _) _ _).setNew (Nat.le_refl _) _ _).setNew (Nat.le_refl _) _ _).setNew (Nat.le_refl _) _ _).setNew (Nat.le_refl _) _ _).setNew (Nat.le_refl _) _ _).setNew (Nat.le_refl _) _ _).setNew (Nat.le_refl _) _ _).setNew (Nat.le_refl _) _ _).setNew (Nat.le_refl _) _ _
  · go_wp2_with fail
    refine (l01Below_any hi B 60 _ C1 (by decide) ⟨by decide, by decide⟩).mono ?_
    rintro e w2 ⟨p, rfl, ⟨p0, p1⟩, C2, G2⟩
    go_wp2_with fail
    refine (l01Below_any hi B 60 _ C2 (by decide) ⟨by decide, by decide⟩).mono ?_
    rintro e w3 ⟨q, rfl, ⟨q0, q1⟩, C3, G3⟩
    go_wp2_with fail
    refine (l01Below_any hi B 40 _ C3 (by decide) ⟨by decide, by decide⟩).mono ?_
    rintro e w3' ⟨r, rfl, ⟨r0, r1⟩, C4', G4'⟩
    have G3' := G1'.trans ((G2.trans G3).trans G4')
    have R3 := ((G2.trans G3).trans G4').blk HR1.out (by omega)
    have hok : okVec (p - 30) (q - 30) r = true := by
      unfold okVec
      simp only [Bool.and_eq_true, inB_iff]
      omega
    have hs : Xf.small ⟨16, 0, 0, 0, 16, 0, 0, 0, 16, p - 30, q - 30, r⟩ := by
      refine ⟨fun n hn => ?_, ?_, ?_, ?_⟩
      · simp only [Xf.ms, List.mem_cons, List.not_mem_nil, or_false] at hn
        rcases hn with rfl | rfl | rfl | rfl | rfl | rfl | rfl | rfl | rfl <;> decide
      · show -1000000 ≤ p - 30 ∧ p - 30 ≤ 1000000; omega
      · show -1000000 ≤ q - 30 ∧ q - 30 ≤ 1000000; omega
      · show -1000000 ≤ r ∧ r ≤ 1000000; omega
    clear G2 G3 C1 C2 G4' C3
    obtain ⟨x, hx⟩ : ∃ x, p - 30 = x := ⟨_, rfl⟩
    obtain ⟨y, hy⟩ : ∃ x, q - 30 = x := ⟨_, rfl⟩
    rw [hx, hy] at hok hs
    have HS := hid hs
    go_wp2_with fail
    try rw [hx]
    try rw [hy]
    refine (sTranslation_val x y r hok _).mono ?_
    rintro e w4 ⟨rfl, x4⟩
    have G4 := G3'.ext x4
    have C4 := C4'.ext x4
    have R4 := R3.ext x4
    have r_0 := R4.cell 0 rfl
    have r_1 := R4.cell 1 rfl
    have r_2 := R4.cell 2 rfl
    have r_3 := R4.cell 3 rfl
    have r_4 := R4.cell 4 rfl
    have r_5 := R4.cell 5 rfl
    have r_6 := R4.cell 6 rfl
    have r_7 := R4.cell 7 rfl
    have r_8 := R4.cell 8 rfl
    have r_9 := R4.cell 9 rfl
    have r_10 := R4.cell 10 rfl
    have r_11 := R4.cell 11 rfl
    have f0 := R4.free 0
    have f1 := R4.free 1
    have f2 := R4.free 2
    have f3 := R4.free 3
    have f4 := R4.free 4
    have f5 := R4.free 5
    have f6 := R4.free 6
    have f7 := R4.free 7
    have f8 := R4.free 8
    have f9 := R4.free 9
    have f10 := R4.free 10
    have f11 := R4.free 11
    have rl := R4.lt
    clear R4 x4 R3 hx hy hs
    go_wp2_with fail
    refine bodyPost_ret (v := Xf.V ⟨16, 0, 0, 0, 16, 0, 0, 0, 16, x, y, r⟩) (by unfold Xf.V; simp [results, Tryz.results21, go_sem, *]) rfl ⟨_, rfl, HS.out, ?_, ?_⟩
    · exact (((((((((((C4.setNew (by omega) _ _).setNew (by omega) _ _).setNew (by omega) _ _).setNew (by omega) _ _).setNew (by omega) _ _).setNew (by omega) _ _).setNew (by omega) _ _).setNew (by omega) _ _).setNew (by omega) _ _).setNew (by omega) _ _).setNew (by omega) _ _).setNew (by omega) _ _
    · exact (((((((((((G4.setNew (Nat.le_refl _) _ _).setNew (Nat.le_refl _) _ _).setNew (Nat.le_refl _) _ _).setNew (Nat.le_refl _) _ _).setNew (Nat.le_refl _) _ _).setNew (Nat.le_refl _) _ _).setNew (Nat.le_refl _) _ _).setNew (Nat.le_refl _) _ _).setNew (Nat.le_refl _) _ _).setNew (Nat.le_refl _) _ _).setNew (Nat.le_refl _) _ _).setNew (Nat.le_refl _) _ _
  · go_wp2_with fail
    refine (sIdentity_val _).mono ?_
    rintro e w2 ⟨rfl, x2⟩
    have y2 : Ext w2 (w2.alloc (.cells (mC (qm 0 0)).toArray 29)) := (by repeat (with_reducible (first | assumption | exact Ext.refl _ | apply Ext.alloc | apply Ext.drew | apply Ext.drewN)))
    have C2 := C1.ext (x2.trans y2)
    have G2 := G1'.ext (x2.trans y2)
    have R2 := HR1.out.ext (x2.trans y2)
    have I2 : RowI (w2.alloc (.cells (mC (qm 0 0)).toArray 29)) w2.heap.size 29 12 (lst [16, 0, 0, 0, 16, 0, 0, 0, 16, 0, 0, 0]) :=
      World.rowIs_alloc _ _ _ _ fun i hi => by
        have : i < 12 := by simpa [mC] using hi
        rcases (by omega : i = 0 ∨ i = 1 ∨ i = 2 ∨ i = 3 ∨ i = 4 ∨ i = 5 ∨ i = 6 ∨ i = 7 ∨ i = 8 ∨ i = 9 ∨ i = 10 ∨ i = 11) with h | h | h | h | h | h | h | h | h | h | h | h <;> subst h <;> rfl
    have z2 := x2.size
    go_upto_region 9 with fail
    change Code.wp _ _ _ _ (w2.alloc (.cells (mC (qm 0 0)).toArray 29))
    obtain ⟨b3, hb3⟩ : ∃ b, w2.heap.size = b := ⟨_, rfl⟩
    rw [hb3] at I2 z2 ⊢
    generalize w2.alloc (.cells (mC (qm 0 0)).toArray 29) = w3 at C2 G2 R2 I2 ⊢
    clear hb3 x2 y2 C1 G1'
    go_wp2_with fail
    refine (l01Below_any hi B 9 _ C2 (by decide) ⟨by decide, by decide⟩).mono ?_
    rintro e w4 ⟨p, rfl, ⟨p0, p1⟩, C4, G4⟩
    go_wp2_with fail
    refine (l01Below_any hi B 33 _ C4 (by decide) ⟨by decide, by decide⟩).mono ?_
    rintro e w5 ⟨q, rfl, ⟨q0, q1⟩, C5, G5⟩
    obtain ⟨k, rfl⟩ : ∃ a : Nat, p = a := ⟨p.toNat, by omega⟩
    have G5' := G2.trans (G4.trans G5)
    have R5 := (G4.trans G5).blk R2 (by omega)
    have I5 := I2.of ((G4.trans G5).block b3 I2.lt (fun e => by simp only [Option.some.injEq] at e; omega))
    have cz5 := I5.cell (i := k) (by omega)
    have fz5 := I5.frozen k
    have lz5 := I5.lt
    have hk9 : k < 9 := by omega
    clear C2 G2 R2 I2 G4 G5 C4
    go_upto_region 10 with fail
    have I6 := I5.putAt k (q - 8)
    have R6 := R5.other (a := ⟨b3, k, none⟩) (by simp; omega) (.int .i64 (q - 8))
    have C6 := C5.setNew (b := b3) (by omega) k (.int .i64 (q - 8))
    have G6 := G5'.setNew (b := b3) (by omega) k (.int .i64 (q - 8))
    have hs : Xf.small (xfF (fun j => if j = k then q - 8 else lst [16, 0, 0, 0, 16, 0, 0, 0, 16, 0, 0, 0] j)) := by
      have key : ∀ j, j < 9 → -64 ≤ (if j = k then q - 8 else lst [16, 0, 0, 0, 16, 0, 0, 0, 16, 0, 0, 0] j) ∧ (if j = k then q - 8 else lst [16, 0, 0, 0, 16, 0, 0, 0, 16, 0, 0, 0] j) ≤ 64 := by
        intro j hj
        by_cases e : j = k
        · rw [if_pos e]; omega
        · rw [if_neg e]
          rcases nine hj with h | h | h | h | h | h | h | h | h <;> subst h <;> simp [lst]
      refine ⟨fun n hn => ?_, ?_, ?_, ?_⟩
      · simp only [Xf.ms, xfF, List.mem_cons, List.not_mem_nil, or_false] at hn
        rcases hn with rfl | rfl | rfl | rfl | rfl | rfl | rfl | rfl | rfl <;> exact key _ (by decide)
      · simp only [xfF]; rw [if_neg (by omega)]; simp [lst]
      · simp only [xfF]; rw [if_neg (by omega)]; simp [lst]
      · simp only [xfF]; rw [if_neg (by omega)]; simp [lst]
    generalize (fun j => if j = k then q - 8 else lst [16, 0, 0, 0, 16, 0, 0, 0, 16, 0, 0, 0] j) = h at I6 hs
    obtain ⟨w6, hw6⟩ : ∃ W, w5.setCell ⟨b3, k, none⟩ (.int .i64 (q - 8)) = W := ⟨_, rfl⟩
    rw [hw6] at I6 R6 C6 G6 ⊢
    have HS := hid hs
    have G4 := G6
    have C4 := C6
    have i0 := I6.cell (i := 0) (by decide)
    have i1 := I6.cell (i := 1) (by decide)
    have i2 := I6.cell (i := 2) (by decide)
    have i3 := I6.cell (i := 3) (by decide)
    have i4 := I6.cell (i := 4) (by decide)
    have i5 := I6.cell (i := 5) (by decide)
    have i6 := I6.cell (i := 6) (by decide)
    have i7 := I6.cell (i := 7) (by decide)
    have i8 := I6.cell (i := 8) (by decide)
    have i9 := I6.cell (i := 9) (by decide)
    have i10 := I6.cell (i := 10) (by decide)
    have i11 := I6.cell (i := 11) (by decide)
    have r0 := R6.cell 0 rfl
    have r1 := R6.cell 1 rfl
    have r2 := R6.cell 2 rfl
    have r3 := R6.cell 3 rfl
    have r4 := R6.cell 4 rfl
    have r5 := R6.cell 5 rfl
    have r6 := R6.cell 6 rfl
    have r7 := R6.cell 7 rfl
    have r8 := R6.cell 8 rfl
    have r9 := R6.cell 9 rfl
    have r10 := R6.cell 10 rfl
    have r11 := R6.cell 11 rfl
    have f0 := R6.free 0
    have f1 := R6.free 1
    have f2 := R6.free 2
    have f3 := R6.free 3
    have f4 := R6.free 4
    have f5 := R6.free 5
    have f6 := R6.free 6
    have f7 := R6.free 7
    have f8 := R6.free 8
    have f9 := R6.free 9
    have f10 := R6.free 10
    have f11 := R6.free 11
    have rl := R6.lt
    have il := I6.lt
    clear hw6 I6 R6 C6 G6 hs cz5 fz5 lz5 I5 R5 C5 G5'
    go_wp2_with fail
    refine bodyPost_ret (v := (xfF h).V) (by unfold xfF Xf.V; simp [results, Tryz.results21, go_sem, *]) rfl ⟨_, rfl, HS.out, ?_, ?_⟩
    · exact (((((((((((C4.setNew (by omega) _ _).setNew (by omega) _ _).setNew (by omega) _ _).setNew (by omega) _ _).setNew (by omega) _ _).setNew (by omega) _ _).setNew (by omega) _ _).setNew (by omega) _ _).setNew (by omega) _ _).setNew (by omega) _ _).setNew (by omega) _ _).setNew (by omega) _ _
    · exact (((((((((((G4.setNew (Nat.le_refl _) _ _).setNew (Nat.le_refl _) _ _).setNew (Nat.le_refl _) _ _).setNew (Nat.le_refl _) _ _).setNew (Nat.le_refl _) _ _).setNew (Nat.le_refl _) _ _).setNew (Nat.le_refl _) _ _).setNew (Nat.le_refl _) _ _).setNew (Nat.le_refl _) _ _).setNew (Nat.le_refl _) _ _).setNew (Nat.le_refl _) _ _).setNew (Nat.le_refl _) _ _

set_option maxRecDepth 20000 in
set_option maxHeartbeats 1600000 in
theorem MakeTransform_any (hi : Nat) (v : Value) (n : Nat) (w : World) (hv : Byts hi w v n) (hh : hi ≤ w.heap.size) (hn : n ≤ 1048576) :
    Calls Tryz.prog 7 #[v] w fun e w' => ∃ t : Xf, e = .returned t.V ∧ t.small ∧ Ext w w' := by
  have HV := hid hv
  obtain ⟨a, cap, rfl, k1, k2⟩ := hv.open
  clear hv
  go_enter Tryz.func7, Tryz.ntmps7
  go_wp2_with fail
  refine (l01New_any hi _ n _ (HV.out.ext hh (by repeat (with_reducible (first | assumption | exact Ext.refl _ | apply Ext.alloc | apply Ext.drew | apply Ext.drewN)))) (by simp; omega) hn).mono ?_
  rintro e w1 ⟨B, rfl, hB, C1, x1⟩
  go_wp2_with fail
  refine (l04Draw_any hi B _ C1).mono ?_
  rintro e w2 ⟨t, rfl, hs, C2, G2⟩
  have HS := hid hs
  obtain ⟨m0, m1, m2, m3, m4, m5, m6, m7, m8, x, y, z⟩ := t
  rw [World.size_alloc] at hB
  have x1' : Ext w w1 := Ext.trans (by repeat (with_reducible (first | assumption | exact Ext.refl _ | apply Ext.alloc | apply Ext.drew | apply Ext.drewN))) x1
  have R2 := G2.blk ((Blk12.made w).ext x1) (by omega)
  have r0 := R2.cell 0 rfl
  have r1 := R2.cell 1 rfl
  have r2 := R2.cell 2 rfl
  have r3 := R2.cell 3 rfl
  have r4 := R2.cell 4 rfl
  have r5 := R2.cell 5 rfl
  have r6 := R2.cell 6 rfl
  have r7 := R2.cell 7 rfl
  have r8 := R2.cell 8 rfl
  have r9 := R2.cell 9 rfl
  have r10 := R2.cell 10 rfl
  have r11 := R2.cell 11 rfl
  have f0 := R2.free 0
  have f1 := R2.free 1
  have f2 := R2.free 2
  have f3 := R2.free 3
  have f4 := R2.free 4
  have f5 := R2.free 5
  have f6 := R2.free 6
  have f7 := R2.free 7
  have f8 := R2.free 8
  have f9 := R2.free 9
  have f10 := R2.free 10
  have f11 := R2.free 11
  have rl := R2.lt
  have E2 := G2.up x1' (by omega)
  clear R2 hs G2 C2 x1
  unfold Xf.V
  go_wp2
  refine bodyPost_ret (v := Xf.V ⟨m0, m1, m2, m3, m4, m5, m6, m7, m8, x, y, z⟩) (by unfold Xf.V; simp [results, Tryz.results7, go_sem, *]) rfl ⟨_, rfl, HS.out, ?_⟩
  exact (by repeat (first | with_reducible assumption | with_reducible exact Ext.refl _ | with_reducible apply Ext.alloc | with_reducible apply Ext.drew | with_reducible apply Ext.drewN | (with_reducible refine Ext.setCell ?_ (by simp; omega) _) | (with_reducible refine Ext.setCell ?_ (by simp) _)))
end Go.Proofs.YtkcghoeklbcihaaGreatDoor
end

section
/- This text proves that the program's ParseTexture reads a valid texture back from its text. -/
namespace Go.Proofs.YtkcghoeklbcihaaGreatDoor
open Go.RowKit

/-- the variable that strings.Cut reads lies in w -/
def Cuts (w : World) : Prop := ∃ m, w.cell? ⟨0, 0, none⟩ = some (.int .i64 m)
theorem Cuts.ext {w w' : World} (h : Cuts w) (e : Ext w w') : Cuts w' := by
  obtain ⟨m, h⟩ := h
  exact ⟨m, (e.cells.1 _ 0 (Lib.lt_of_cell h)).trans h⟩
theorem cut_text {t : Tex} (hok : t.Ok) (w : World) (hc : Cuts w) :
    Calls Tryz.prog 23 #[.string t.text, .string ⟨#[58]⟩] w fun e w' => e = .returned (.tuple #[.string (fmtT t.log), .string (joinB (t.px.map fmtT) comB), .bool true]) ∧ Ext w w' := by
  obtain ⟨m, hm⟩ := hc
  have hp := hok.parts
  have hs : t.text.size < 4294967281 := by
    unfold Tex.text
    rw [ByteArray.size_append, ByteArray.size_append]
    have : colB.size = 1 := rfl
    omega
  refine (Tryz.strings_Cut t.text colB m w hs hm).mono ?_
  rintro e w' ⟨rfl, n, rfl⟩
  rw [hok.cut]
  exact ⟨rfl, (by repeat (with_reducible (first | assumption | exact Ext.refl _ | apply Ext.alloc | apply Ext.drew | apply Ext.drewN)))⟩

end Go.Proofs.YtkcghoeklbcihaaGreatDoor
end

section
/- This text proves what FormatVec and FormatTransform of the program hand back, and that ParseVec and ParseTransform read it back. -/
namespace Go.Proofs.YtkcghoeklbcihaaGreatDoor
open Go.RowKit

def semB : ByteArray := ⟨#[59]⟩
def vecT (x y z : Int) : ByteArray := joinB ([x, y, z].map fmtT) comB
def Xf.text (t : Xf) : ByteArray := (joinB (t.ms.map fmtT) comB ++ semB) ++ vecT t.x t.y t.z
theorem okVec_in {x y z : Int} (h : okVec x y z = true) : (inB x (-1000000) 1000000 = true ∧ inB y (-1000000) 1000000 = true) ∧ inB z (-1000000) 1000000 = true := by
  unfold okVec at h
  simpa only [Bool.and_eq_true] using h
theorem vec_in9 {x y z : Int} (h : okVec x y z = true) : ∀ n ∈ [x, y, z], inB n (-1000000000) 1000000000 = true := by
  have h := okVec_in h
  simp only [inB_iff] at h
  intro n hn
  simp only [List.mem_cons, List.not_mem_nil, or_false] at hn
  rw [inB_iff]
  rcases hn with rfl | rfl | rfl <;> omega
theorem joinT_size (xs : List Int) (n : Nat) (h : xs.length ≤ n) : (joinB (xs.map fmtT) comB).size ≤ n * 22 := by
  have h1 := joinB_size (xs.map fmtT) comB 11 (fun x hx => by
    obtain ⟨n, _, rfl⟩ := List.mem_map.1 hx
    exact fmtT_size n) (by decide)
  rw [List.length_map] at h1
  exact Nat.le_trans h1 (Nat.mul_le_mul_right _ h)

set_option maxRecDepth 10000 in
set_option maxHeartbeats 1600000 in
theorem iFormatVec_ok (x y z : Int) (w : World) (hok : okVec x y z = true) (ht : Tab w) :
    Calls Tryz.prog 28 #[.agg #[.int .i64 x, .int .i64 y, .int .i64 z]] w fun e w' => e = .returned (.string (vecT x y z)) ∧ Ext w w' := by
  have HK := hid hok
  have HT := hid ht
  have hin := okVec_in hok
  simp only [inB_iff] at hin
  have h9 := hid (vec_in9 hok)
  clear hok ht
  go_enter Tryz.func28, Tryz.ntmps28
  go_wp2_with fail
  refine (iIsValidVec_val _).mono ?_
  rw [HK.out]
  rintro e w1 ⟨rfl, x1⟩
  have X1 : Ext w w1 := Ext.trans (by repeat (with_reducible (first | assumption | exact Ext.refl _ | apply Ext.alloc | apply Ext.drew | apply Ext.drewN))) x1
  have B1 := (Blk.new w 24 [.int .i64 x, .int .i64 y, .int .i64 z]).ext x1
  have c0 := B1.cell 0 rfl
  have c1 := B1.cell 1 rfl
  have c2 := B1.cell 2 rfl
  have z1 := B1.lt
  have HI : Ints w1.heap.size (w1.heap.size + 1) (w1.alloc (.cells #[.int .i64 x, .int .i64 y, .int .i64 z] 3)) (.slice (some ⟨w1.heap.size, 0, none⟩) 3 3) [x, y, z] := by
    refine ⟨_, 3, rfl, Nat.le_refl _, by decide, fun i n hn => ?_⟩
    have hi := (List.getElem?_eq_some_iff.1 hn).1
    simp only [List.length_cons, List.length_nil] at hi
    refine ⟨?_, _, 0, rfl, Nat.le_refl _, Nat.lt_succ_self _, ?_⟩
    · rcases (by omega : i = 0 ∨ i = 1 ∨ i = 2) with h | h | h <;> subst h <;> simp at hn <;> subst hn <;> exact I64.mk (by omega) (by omega)
    · rcases (by omega : i = 0 ∨ i = 1 ∨ i = 2) with h | h | h <;> subst h <;> simp at hn <;> subst hn <;> simp [go_sem]
  have HI := hid HI
  go_wp2_with fail
  refine (iFormatInts_in _ _ _ [x, y, z] _ HI.out (by simp) (by simp) (by simp) h9.out (HT.out.ext (X1.trans (by repeat (with_reducible (first | assumption | exact Ext.refl _ | apply Ext.alloc | apply Ext.drew | apply Ext.drewN)))))).mono ?_
  rintro e w2 ⟨rfl, x2⟩
  go_wp2
  go_ret
  exact ⟨rfl, X1.trans (Ext.trans (by repeat (with_reducible (first | assumption | exact Ext.refl _ | apply Ext.alloc | apply Ext.drew | apply Ext.drewN))) x2)⟩

theorem Xf.small.in9 {t : Xf} (h : t.small) : ∀ n ∈ t.ms, inB n (-1000000000) 1000000000 = true := fun n hn => by
  have := h.1 n hn
  rw [inB_iff]
  omega
theorem Xf.small.okv {t : Xf} (h : t.small) : okVec t.x t.y t.z = true := by
  obtain ⟨_, h2, h3, h4⟩ := h
  unfold okVec
  simp only [Bool.and_eq_true, inB_iff]
  exact ⟨⟨h2, h3⟩, h4⟩

set_option maxRecDepth 10000 in
set_option maxHeartbeats 3200000 in
theorem iFormatTransform_ok (t : Xf) (w : World) (hs : t.small) (ht : Tab w) :
    Calls Tryz.prog 9 #[t.V] w fun e w' => e = .returned (.string t.text) ∧ Ext w w' := by
  have HS := hid hs
  have HT := hid ht
  have HK := hid hs.ok
  have HI := hid hs.I
  have h9 := hid hs.in9
  have hv := hid hs.okv
  have hl1 := joinT_size t.ms 9 (by simp [Xf.ms])
  have hl2 := joinT_size [t.x, t.y, t.z] 3 (by simp)
  obtain ⟨A, hA⟩ : ∃ A, joinB (t.ms.map fmtT) comB = A := ⟨_, rfl⟩
  obtain ⟨B, hB⟩ : ∃ B, vecT t.x t.y t.z = B := ⟨_, rfl⟩
  have htx : t.text = (A ++ semB) ++ B := by unfold Xf.text; rw [hA, hB]
  have hB' : joinB ([t.x, t.y, t.z].map fmtT) comB = B := hB
  rw [hA] at hl1
  rw [hB'] at hl2
  have hs1 : (A ++ semB).size = A.size + 1 := by rw [ByteArray.size_append]; rfl
  have hfa := hid (fun lo hi u w hu hh ht => hA ▸ iFormatInts_in lo hi u t.ms w hu hh (by simp [Xf.ms]) (by simp [Xf.ms]) h9.out ht)
  have hfb := hid (fun w ht => hB ▸ iFormatVec_ok t.x t.y t.z w hv.out ht)
  have hval := hid (fun w => iIsValidTransform_val t HI.out w)
  rw [htx]
  clear hs ht htx hA hB hB'
  obtain ⟨m0, m1, m2, m3, m4, m5, m6, m7, m8, x, y, z⟩ := t
  unfold Xf.V
  go_enter Tryz.func9, Tryz.ntmps9
  go_wp2_with fail
  refine (hval.out _).mono ?_
  rw [HK.out]
  rintro e w1 ⟨rfl, x1⟩
  have X1 : Ext w w1 := Ext.trans (by repeat (with_reducible (first | assumption | exact Ext.refl _ | apply Ext.alloc | apply Ext.drew | apply Ext.drewN))) x1
  have B1 := (Blk.new w 29 [.int .i64 m0, .int .i64 m1, .int .i64 m2, .int .i64 m3, .int .i64 m4, .int .i64 m5, .int .i64 m6, .int .i64 m7, .int .i64 m8, .int .i64 x, .int .i64 y, .int .i64 z]).ext x1
  have c9 := B1.cell 9 rfl
  have c10 := B1.cell 10 rfl
  have c11 := B1.cell 11 rfl
  have z1 := B1.lt
  have HB1 := hid B1
  clear B1 x1
  go_wp2
  refine wp_region_stages [([0, 1, 4, 5], 2), ([3], 6), ([7], 8)] 99 w1.heap.size (by kernel_rfl) (by kernel_rfl) ?_
  refine wpStages_cons ?_
  simp only [List.filterMap_cons, List.filterMap_nil, List.getElem?_toArray, List.getElem?_cons_zero, List.getElem?_cons_succ]
  show wpQuiet _ _ _ _ [_, _, _, _] _
  repeat (go_big_quiet_step (fail))
  refine wpQuiet_nil ⟨_, rfl, fun K hK => ?_⟩
  have HIn : Ints 0 (w.heap.size + 1) w1 (.slice (some ⟨w.heap.size, 0, none⟩) 9 9) [m0, m1, m2, m3, m4, m5, m6, m7, m8] := by
    refine ⟨_, 9, rfl, Nat.le_refl _, by decide, fun i n hn => ?_⟩
    have hi := (List.getElem?_eq_some_iff.1 hn).1
    simp only [List.length_cons, List.length_nil] at hi
    refine ⟨HI.out.1 n (List.mem_of_getElem? hn), _, 0, rfl, Nat.zero_le _, Nat.lt_succ_self _, ?_⟩
    rw [Nat.zero_add]
    rcases nine hi with h | h | h | h | h | h | h | h | h <;> subst h <;> simp at hn <;> subst hn <;> exact HB1.out.cell _ rfl
  have HIN := hid HIn
  clear HIn
  go_wp2_with fail
  refine (hfa.out _ _ _ _ (HIN.out.ext (by omega) (by repeat (with_reducible (first | assumption | exact Ext.refl _ | apply Ext.alloc | apply Ext.drew | apply Ext.drewN)))) (by simp; omega) (HT.out.ext (X1.trans (by repeat (with_reducible (first | assumption | exact Ext.refl _ | apply Ext.alloc | apply Ext.drew | apply Ext.drewN)))))).mono ?_
  rintro e w2 ⟨rfl, x2⟩
  have y2 : Ext w1 w2 := Ext.trans (by repeat (with_reducible (first | assumption | exact Ext.refl _ | apply Ext.alloc | apply Ext.drew | apply Ext.drewN))) x2
  go_wp2_with fail
  refine hK _ _ (.inr (y2.same (Nat.le_refl _))) ?_
  clear hK K
  refine wpStages_cons ?_
  simp only [List.filterMap_cons, List.filterMap_nil, List.getElem?_toArray, List.getElem?_cons_zero, List.getElem?_cons_succ]
  show wpQuiet _ _ _ _ [_] _
  try simp only [Act.put, List.getElem_toArray, List.getElem_cons_succ, List.getElem_cons_zero, List.setIfInBounds_toArray, List.set_cons_succ, List.set_cons_zero]
  repeat (go_big_quiet_step (fail))
  refine wpQuiet_nil ⟨_, rfl, fun K hK => ?_⟩
  go_wp2_with fail
  refine (hfb.out _ (HT.out.ext (X1.trans y2))).mono ?_
  rintro e w3 ⟨rfl, x3⟩
  have y3 := y2.trans x3
  go_wp2_with fail
  refine hK _ _ (.inr (y3.same (Nat.le_refl _))) ?_
  clear hK K
  refine wpStages_cons ?_
  simp only [List.filterMap_cons, List.filterMap_nil, List.getElem?_toArray, List.getElem?_cons_zero, List.getElem?_cons_succ]
  show wpQuiet _ _ _ _ [_] _
  try simp only [Act.put, List.getElem_toArray, List.getElem_cons_succ, List.getElem_cons_zero, List.setIfInBounds_toArray, List.set_cons_succ, List.set_cons_zero]
  repeat (go_big_quiet_step (fail))
  refine wpQuiet_nil ⟨_, rfl, fun K hK => ?_⟩
  go_wp2_with fail
  refine hK _ _ (.inr (y3.same (Nat.le_refl _))) ?_
  clear hK K
  refine wpStages_nil ?_
  go_wp2_with fail
  go_ret
  exact ⟨rfl, X1.trans y3⟩

set_option maxRecDepth 10000 in
set_option maxHeartbeats 3200000 in
theorem iParseVec_text (x y z : Int) (w : World) (hok : okVec x y z = true) (ht : Laid w) :
    Calls Tryz.prog 25 #[.string (vecT x y z)] w fun e w' => e = .returned (.tuple #[.agg #[.int .i64 x, .int .i64 y, .int .i64 z], .bool true]) ∧ Ext w w' := by
  have HK := hid hok
  have HT := hid ht
  have hin := okVec_in hok
  simp only [inB_iff] at hin
  have e2 := intsO_text (xs := [x, y, z]) (by simp) (vec_in9 hok)
  have hl2 := joinT_size [x, y, z] 3 (by simp)
  obtain ⟨B, hB⟩ : ∃ B, vecT x y z = B := ⟨_, rfl⟩
  have hB' : joinB ([x, y, z].map fmtT) comB = B := hB
  rw [hB'] at hl2 e2
  rw [hB]
  have hpb := hid (fun w ht => (by have h := iParseInts_any B w (by omega) ht; rw [e2] at h; exact h : Calls Tryz.prog 24 #[.string B] w fun e w' => ∃ v, e = .returned (.tuple #[v, .bool true]) ∧ OwnInts w.heap.size w' v [x, y, z] ∧ Ext w w'))
  clear hok ht e2 hB hB'
  go_enter Tryz.func25, Tryz.ntmps25
  go_wp2_with fail
  refine (hpb.out _ (HT.out.ext (by repeat (with_reducible (first | assumption | exact Ext.refl _ | apply Ext.alloc | apply Ext.drew | apply Ext.drewN))))).mono ?_
  rintro e w1 ⟨v1, rfl, o1, x1⟩
  obtain ⟨a1, n1, e1, -⟩ := o1.form
  subst e1
  have R1 := (Blk.new w 24 [.int .i64 0, .int .i64 0, .int .i64 0]).ext x1
  have X1 : Ext w w1 := Ext.trans (by repeat (with_reducible (first | assumption | exact Ext.refl _ | apply Ext.alloc | apply Ext.drew | apply Ext.drewN))) x1
  obtain ⟨a', c', e', HU⟩ := (o1.ints).open
  simp only [Value.slice.injEq] at e'
  obtain ⟨rfl, -, rfl⟩ := e'
  obtain ⟨b, off, rfl, hb1, hb2, q0⟩ := HU.at (k := 0) (by simp)
  obtain ⟨_, _, e'', _, _, q1⟩ := HU.at (k := 1) (by simp)
  simp only [Option.some.injEq, Addr.mk.injEq, and_true] at e''
  obtain ⟨rfl, rfl⟩ := e''
  obtain ⟨_, _, e'', _, _, q2⟩ := HU.at (k := 2) (by simp)
  simp only [Option.some.injEq, Addr.mk.injEq, and_true] at e''
  obtain ⟨rfl, rfl⟩ := e''
  simp at q0 q1 q2
  have hcap := HU.le
  have hcap2 := HU.cap
  simp at hcap
  have HR1 := hid R1
  clear R1 HU o1
  go_wp2_with fail
  refine wp_region_stages [([0, 1, 2, 3, 4, 5, 6, 7, 8, 9], 10), ([], 11)] 99 w1.heap.size (by kernel_rfl) (by kernel_rfl) ?_
  refine wpStages_cons ?_
  simp only [List.filterMap_cons, List.filterMap_nil, List.getElem?_toArray, List.getElem?_cons_zero, List.getElem?_cons_succ]
  show wpQuiet _ _ _ _ [_, _, _, _, _, _, _, _, _, _] _
  repeat (go_big_quiet_step (fail))
  refine wpQuiet_nil ⟨_, rfl, fun K hK => ?_⟩
  go_wp2_with fail
  refine hK _ _ (.inr (Ext.same (w := w1) (by repeat (with_reducible (first | assumption | exact Ext.refl _ | apply Ext.alloc | apply Ext.drew | apply Ext.drewN))) (Nat.le_refl _))) ?_
  clear hK K
  refine wpStages_cons ?_
  simp only [List.filterMap_nil]
  show wpQuiet _ _ _ _ [] _
  try simp only [Act.put, List.getElem_toArray, List.getElem_cons_succ, List.getElem_cons_zero, List.setIfInBounds_toArray, List.set_cons_succ, List.set_cons_zero]
  refine wpQuiet_nil ⟨_, rfl, fun K hK => ?_⟩
  go_wp2_with fail
  refine hK _ _ (.inr (Ext.same (w := w1) (by repeat (first | with_reducible assumption | with_reducible exact Ext.refl _ | with_reducible apply Ext.alloc | with_reducible apply Ext.drew | with_reducible apply Ext.drewN | (with_reducible refine Ext.setCell ?_ (by simp; omega) _) | (with_reducible refine Ext.setCell ?_ (by simp) _))) (Nat.le_refl _))) ?_
  clear hK K
  refine wpStages_nil ?_
  have y2 : Ext w1 (w1.alloc (.cells #[.int .i64 x, .int .i64 y, .int .i64 z] 24)).drew := (by repeat (with_reducible (first | assumption | exact Ext.refl _ | apply Ext.alloc | apply Ext.drew | apply Ext.drewN)))
  go_wp2_with fail
  refine (iIsValidVec_val _).mono ?_
  rw [HK.out]
  rintro e w3 ⟨rfl, x3⟩
  have R3 := HR1.out.ext (y2.trans x3)
  have V3' := ((Blk.new w1 24 [.int .i64 x, .int .i64 y, .int .i64 z]).ext (Ext.drew (Ext.refl _))).ext x3
  have E3 := X1.trans (y2.trans x3)
  have r0 := R3.cell 0 rfl
  have r1 := R3.cell 1 rfl
  have r2 := R3.cell 2 rfl
  have f0 := R3.free 0
  have f1 := R3.free 1
  have f2 := R3.free 2
  have v0 := V3'.cell 0 rfl
  have v1 := V3'.cell 1 rfl
  have v2 := V3'.cell 2 rfl
  have rl := R3.lt
  have vl := V3'.lt
  clear R3 V3' y2 x3 q0 q1 q2
  go_wp2_with fail
  refine bodyPost_ret (v := .tuple #[.agg #[.int .i64 x, .int .i64 y, .int .i64 z], .bool true]) (by simp [results, Tryz.results25, go_sem, *]) rfl ⟨rfl, ?_⟩
  exact (by repeat (first | with_reducible assumption | with_reducible exact Ext.refl _ | with_reducible apply Ext.alloc | with_reducible apply Ext.drew | with_reducible apply Ext.drewN | (with_reducible refine Ext.setCell ?_ (by simp; omega) _) | (with_reducible refine Ext.setCell ?_ (by simp) _)))

theorem mem_joinTail (sep : List UInt8) (r : List (List UInt8)) (c : UInt8) (h : c ∈ Lib.joinTail sep r) : (∃ l ∈ r, c ∈ l) ∨ c ∈ sep := by
  unfold Lib.joinTail at h
  obtain ⟨l, hl, hc⟩ := List.mem_flatten.1 h
  obtain ⟨x, hx, rfl⟩ := List.mem_map.1 hl
  rcases List.mem_append.1 hc with h | h
  · exact .inr h
  · exact .inl ⟨x, hx, h⟩
theorem joinT_clean (xs : List Int) : ∀ c ∈ (joinB (xs.map fmtT) comB).data.toList, c ≠ 59 := by
  intro c hc e
  subst e
  have hc : (59 : UInt8) ∈ Lib.join ((xs.map fmtT).map (·.data.toList)) comB.data.toList := by simpa [joinB] using hc
  have key : (∃ l ∈ ((xs.map fmtT).map (·.data.toList)), (59 : UInt8) ∈ l) ∨ (59 : UInt8) ∈ comB.data.toList := by
    cases xs with
    | nil => simp [Lib.join_nil] at hc
    | cons x r =>
      rw [List.map_cons, List.map_cons, Lib.join_cons] at hc
      rcases List.mem_append.1 hc with h | h
      · exact .inl ⟨_, by simp, h⟩
      · rcases mem_joinTail _ _ _ h with ⟨l, hl, hc⟩ | h
        · exact .inl ⟨l, by rw [List.map_cons, List.map_cons]; exact List.mem_cons_of_mem _ hl, hc⟩
        · exact .inr h
  rcases key with ⟨l, hl, hc⟩ | h
  · obtain ⟨b, hb, rfl⟩ := List.mem_map.1 hl
    obtain ⟨n, _, rfl⟩ := List.mem_map.1 hb
    rcases fmtT_bytes n _ hc with h | h
    · cases h
    · simp at h
  · simp [comB] at h
theorem Xf.cut (t : Xf) : Lib.cut t.text.data.toList semB.data.toList = ((joinB (t.ms.map fmtT) comB).data.toList, (vecT t.x t.y t.z).data.toList, true) := by
  have e : t.text.data.toList = (joinB (t.ms.map fmtT) comB).data.toList ++ 59 :: (vecT t.x t.y t.z).data.toList := by
    unfold Xf.text
    rw [Go.Joins.data_append, Go.Joins.data_append, List.append_assoc]
    rfl
  rw [e]
  exact cut_at 59 _ _ (joinT_clean _)
theorem cut_xf (t : Xf) (w : World) (hc : Cuts w) :
    Calls Tryz.prog 23 #[.string t.text, .string ⟨#[59]⟩] w fun e w' => e = .returned (.tuple #[.string (joinB (t.ms.map fmtT) comB), .string (vecT t.x t.y t.z), .bool true]) ∧ Ext w w' := by
  obtain ⟨m, hm⟩ := hc
  have hl1 := joinT_size t.ms 9 (by simp [Xf.ms])
  have hl2 := joinT_size [t.x, t.y, t.z] 3 (by simp)
  have hs : t.text.size < 4294967281 := by
    unfold Xf.text
    rw [ByteArray.size_append, ByteArray.size_append]
    have : semB.size = 1 := rfl
    have : (vecT t.x t.y t.z).size ≤ 3 * 22 := hl2
    omega
  refine (Tryz.strings_Cut t.text semB m w hs hm).mono ?_
  rintro e w' ⟨rfl, n, rfl⟩
  rw [t.cut]
  exact ⟨rfl, (by repeat (with_reducible (first | assumption | exact Ext.refl _ | apply Ext.alloc | apply Ext.drew | apply Ext.drewN)))⟩

@[go_sem] theorem run_arrayAt9 (a : Option Addr) (c : Nat) (w : World) : (Instr.arrayAt 27 (.slice a 9 c)).run Tryz.prog w = .ok (.pointer a) w := by
  simp [Instr.arrayAt, go_sem, underlying, Tryz.underlying27]
set_option maxRecDepth 10000 in
set_option maxHeartbeats 3200000 in
theorem iParseTransform_text (t : Xf) (w : World) (hs : t.small) (ht : Laid w) (hc : Cuts w) :
    Calls Tryz.prog 8 #[.string t.text] w fun e w' => e = .returned (.tuple #[t.V, .bool true]) ∧ Ext w w' := by
  have HS := hid hs
  have HT := hid ht
  have HC := hid hc
  have HK := hid hs.ok
  have HI := hid hs.I
  have hv := hid hs.okv
  have e2 := intsO_text (xs := t.ms) (by simp [Xf.ms]) hs.in9
  have hl1 := joinT_size t.ms 9 (by simp [Xf.ms])
  have hcut := hid (fun w hc => cut_xf t w hc)
  have hpv := hid (fun w ht => iParseVec_text t.x t.y t.z w hv.out ht)
  have hval := hid (fun w => iIsValidTransform_val t HI.out w)
  obtain ⟨A, hA⟩ : ∃ A, joinB (t.ms.map fmtT) comB = A := ⟨_, rfl⟩
  obtain ⟨B, hB⟩ : ∃ B, vecT t.x t.y t.z = B := ⟨_, rfl⟩
  rw [hA] at hl1 e2 hcut
  rw [hB] at hcut hpv
  have hpb := hid (fun w ht => (by have h := iParseInts_any A w (by omega) ht; rw [e2] at h; exact h : Calls Tryz.prog 24 #[.string A] w fun e w' => ∃ v, e = .returned (.tuple #[v, .bool true]) ∧ OwnInts w.heap.size w' v t.ms ∧ Ext w w'))
  obtain ⟨X, hX⟩ : ∃ X, t.text = X := ⟨_, rfl⟩
  rw [hX] at hcut ⊢
  clear hs e2 hA hB hX ht hc hl1
  obtain ⟨m0, m1, m2, m3, m4, m5, m6, m7, m8, x, y, z⟩ := t
  unfold Xf.V
  go_enter Tryz.func8, Tryz.ntmps8
  go_wp2_with fail
  refine (hcut.out _ (HC.out.ext (by repeat (with_reducible (first | assumption | exact Ext.refl _ | apply Ext.alloc | apply Ext.drew | apply Ext.drewN))))).mono ?_
  rintro e w1 ⟨rfl, x1⟩
  have X1 : Ext w w1 := Ext.trans (by repeat (with_reducible (first | assumption | exact Ext.refl _ | apply Ext.alloc | apply Ext.drew | apply Ext.drewN))) x1
  go_wp2_with fail
  refine (hpb.out _ (HT.out.ext X1)).mono ?_
  rintro e w2 ⟨v2, rfl, o2, x2⟩
  obtain ⟨a2, n2, e2, -⟩ := o2.form
  replace e2 : v2 = .slice a2 9 n2 := e2
  subst e2
  have X2 := X1.trans x2
  go_wp2_with fail
  refine (hpv.out _ (HT.out.ext X2)).mono ?_
  rintro e w3 ⟨rfl, x3⟩
  have X3 := X2.trans x3
  have O3 := o2.ext x3
  have R3 := ((Blk12.made w).ext x1).ext (x2.trans x3)
  have HR3 := hid R3
  clear o2 x1 x2 x3 R3 X1 X2
  go_upto_region 6 with fail
  obtain ⟨a', c', e', HU⟩ := (O3.ints).open
  simp only [Value.slice.injEq] at e'
  obtain ⟨rfl, hle, rfl⟩ := e'
  obtain ⟨b, off, rfl, hb1, hb2, -⟩ := HU.at (k := 0) (by simp [Xf.ms])
  have q : ∀ k (hk : k < 9), w3.cell? ⟨b, off + k, none⟩ = some (.int .i64 ((Xf.ms ⟨m0, m1, m2, m3, m4, m5, m6, m7, m8, x, y, z⟩)[k]'hk)) := fun k hk => by
    obtain ⟨_, _, e'', _, _, q1⟩ := HU.at (k := k) hk
    simp only [Option.some.injEq, Addr.mk.injEq, and_true] at e''
    obtain ⟨rfl, rfl⟩ := e''
    exact q1
  have q0 : w3.cell? ⟨b, off, none⟩ = some (.int .i64 m0) := q 0 (by decide)
  have q1 : w3.cell? ⟨b, off + 1, none⟩ = some (.int .i64 m1) := q 1 (by decide)
  have q2 : w3.cell? ⟨b, off + 2, none⟩ = some (.int .i64 m2) := q 2 (by decide)
  have q3 : w3.cell? ⟨b, off + 3, none⟩ = some (.int .i64 m3) := q 3 (by decide)
  have q4 : w3.cell? ⟨b, off + 4, none⟩ = some (.int .i64 m4) := q 4 (by decide)
  have q5 : w3.cell? ⟨b, off + 5, none⟩ = some (.int .i64 m5) := q 5 (by decide)
  have q6 : w3.cell? ⟨b, off + 6, none⟩ = some (.int .i64 m6) := q 6 (by decide)
  have q7 : w3.cell? ⟨b, off + 7, none⟩ = some (.int .i64 m7) := q 7 (by decide)
  have q8 : w3.cell? ⟨b, off + 8, none⟩ = some (.int .i64 m8) := q 8 (by decide)
  have hcap := HU.le
  simp [Xf.ms] at hcap
  have y3 : Ext w3 (w3.alloc (.cells #[.int .i64 x, .int .i64 y, .int .i64 z] 24)) := (by repeat (with_reducible (first | assumption | exact Ext.refl _ | apply Ext.alloc | apply Ext.drew | apply Ext.drewN)))
  have R4 := HR3.out.ext y3
  have E4 := X3.trans y3
  have V4 := Blk.new w3 24 [.int .i64 x, .int .i64 y, .int .i64 z]
  replace q0 := (y3.cells.1 b off hb2).trans q0
  replace q1 := (y3.cells.1 b (off + 1) hb2).trans q1
  replace q2 := (y3.cells.1 b (off + 2) hb2).trans q2
  replace q3 := (y3.cells.1 b (off + 3) hb2).trans q3
  replace q4 := (y3.cells.1 b (off + 4) hb2).trans q4
  replace q5 := (y3.cells.1 b (off + 5) hb2).trans q5
  replace q6 := (y3.cells.1 b (off + 6) hb2).trans q6
  replace q7 := (y3.cells.1 b (off + 7) hb2).trans q7
  replace q8 := (y3.cells.1 b (off + 8) hb2).trans q8
  have z3 : (w3.alloc (.cells #[.int .i64 x, .int .i64 y, .int .i64 z] 24)).heap.size = w3.heap.size + 1 := by simp
  obtain ⟨b3, hb3⟩ : ∃ b, w3.heap.size = b := ⟨_, rfl⟩
  obtain ⟨w4, hw4⟩ : ∃ X, w3.alloc (.cells #[.int .i64 x, .int .i64 y, .int .i64 z] 24) = X := ⟨_, rfl⟩
  rw [hw4] at R4 E4 V4 q0 q1 q2 q3 q4 q5 q6 q7 q8 z3
  rw [hb3] at V4 z3 hb2
  rw [hb3, hw4]
  have HR4 := hid R4
  have HE4 := hid E4
  have v0 := V4.cell 0 rfl
  have v1 := V4.cell 1 rfl
  have v2 := V4.cell 2 rfl
  have vl := V4.lt
  have bl : b < w4.heap.size := by omega
  clear hb3 hw4 y3 R4 E4 q HU hle O3 X3 HR3
  refine wp_region_stages [([0, 1, 2, 3, 4], 5), ([], 6)] 99 w4.heap.size (by kernel_rfl) (by kernel_rfl) ?_
  refine wpStages_cons ?_
  simp only [List.filterMap_cons, List.filterMap_nil, List.getElem?_toArray, List.getElem?_cons_zero, List.getElem?_cons_succ]
  show wpQuiet _ _ _ _ [_, _, _, _, _] _
  repeat (go_big_quiet_step (fail))
  refine wpQuiet_nil ⟨_, rfl, fun K hK => ?_⟩
  go_wp2_with fail
  refine hK _ _ (.inr (Ext.same (w := w4) (by repeat (with_reducible (first | assumption | exact Ext.refl _ | apply Ext.alloc | apply Ext.drew | apply Ext.drewN))) (Nat.le_refl _))) ?_
  clear hK K
  refine wpStages_cons ?_
  simp only [List.filterMap_nil]
  show wpQuiet _ _ _ _ [] _
  try simp only [Act.put, List.getElem_toArray, List.getElem_cons_succ, List.getElem_cons_zero, List.setIfInBounds_toArray, List.set_cons_succ, List.set_cons_zero]
  refine wpQuiet_nil ⟨_, rfl, fun K hK => ?_⟩
  go_wp2_with fail
  refine hK _ _ (.inr (Ext.same (w := w4) (by repeat (first | with_reducible assumption | with_reducible exact Ext.refl _ | with_reducible apply Ext.alloc | with_reducible apply Ext.drew | with_reducible apply Ext.drewN | (with_reducible refine Ext.setCell ?_ (by simp; omega) _) | (with_reducible refine Ext.setCell ?_ (by simp) _))) (Nat.le_refl _))) ?_
  clear hK K
  refine wpStages_nil ?_
  have y4 : Ext w4 (w4.alloc (.cells #[.int .i64 m0, .int .i64 m1, .int .i64 m2, .int .i64 m3, .int .i64 m4, .int .i64 m5, .int .i64 m6, .int .i64 m7, .int .i64 m8, .int .i64 x, .int .i64 y, .int .i64 z] 29)).drew := (by repeat (with_reducible (first | assumption | exact Ext.refl _ | apply Ext.alloc | apply Ext.drew | apply Ext.drewN)))
  have hv4 := hval.out (w4.alloc (.cells #[.int .i64 m0, .int .i64 m1, .int .i64 m2, .int .i64 m3, .int .i64 m4, .int .i64 m5, .int .i64 m6, .int .i64 m7, .int .i64 m8, .int .i64 x, .int .i64 y, .int .i64 z] 29)).drew
  rw [HK.out] at hv4
  have HV4 := hid hv4
  clear hv4
  go_wp2_with fail
  refine HV4.out.mono ?_
  rintro e w5 ⟨rfl, x5⟩
  have R5 := HR4.out.ext (y4.trans x5)
  have T5 := ((Blk.new w4 29 [.int .i64 m0, .int .i64 m1, .int .i64 m2, .int .i64 m3, .int .i64 m4, .int .i64 m5, .int .i64 m6, .int .i64 m7, .int .i64 m8, .int .i64 x, .int .i64 y, .int .i64 z]).ext (Ext.drew (Ext.refl _))).ext x5
  rw [z3] at T5
  have E5 := HE4.out.trans (y4.trans x5)
  have r0 := R5.cell 0 rfl
  have r1 := R5.cell 1 rfl
  have r2 := R5.cell 2 rfl
  have r3 := R5.cell 3 rfl
  have r4 := R5.cell 4 rfl
  have r5 := R5.cell 5 rfl
  have r6 := R5.cell 6 rfl
  have r7 := R5.cell 7 rfl
  have r8 := R5.cell 8 rfl
  have r9 := R5.cell 9 rfl
  have r10 := R5.cell 10 rfl
  have r11 := R5.cell 11 rfl
  have f0 := R5.free 0
  have f1 := R5.free 1
  have f2 := R5.free 2
  have f3 := R5.free 3
  have f4 := R5.free 4
  have f5 := R5.free 5
  have f6 := R5.free 6
  have f7 := R5.free 7
  have f8 := R5.free 8
  have f9 := R5.free 9
  have f10 := R5.free 10
  have f11 := R5.free 11
  have t0 := T5.cell 0 rfl
  have t1 := T5.cell 1 rfl
  have t2 := T5.cell 2 rfl
  have t3 := T5.cell 3 rfl
  have t4 := T5.cell 4 rfl
  have t5 := T5.cell 5 rfl
  have t6 := T5.cell 6 rfl
  have t7 := T5.cell 7 rfl
  have t8 := T5.cell 8 rfl
  have t9 := T5.cell 9 rfl
  have t10 := T5.cell 10 rfl
  have t11 := T5.cell 11 rfl
  have rl := R5.lt
  have tl := T5.lt
  clear R5 T5 x5 y4 q0 q1 q2 q3 q4 q5 q6 q7 q8 v0 v1 v2
  go_wp2_with fail
  refine bodyPost_ret (v := .tuple #[.agg #[.int .i64 m0, .int .i64 m1, .int .i64 m2, .int .i64 m3, .int .i64 m4, .int .i64 m5, .int .i64 m6, .int .i64 m7, .int .i64 m8, .int .i64 x, .int .i64 y, .int .i64 z], .bool true]) (by simp [results, Tryz.results8, go_sem, *]) rfl ⟨rfl, ?_⟩
  exact (by repeat (first | with_reducible assumption | with_reducible exact Ext.refl _ | with_reducible apply Ext.alloc | with_reducible apply Ext.drew | with_reducible apply Ext.drewN | (with_reducible refine Ext.setCell ?_ (by simp; omega) _) | (with_reducible refine Ext.setCell ?_ (by simp) _)))
end Go.Proofs.YtkcghoeklbcihaaGreatDoor
end

section
/- This text proves what the program's SubVec and Translation hand back, and which vectors the laws draw. -/
namespace Go.Proofs.YtkcghoeklbcihaaGreatDoor
open Go.RowKit

set_option maxHeartbeats 800000 in
theorem timesFn_val {n k c : Int} {p : Nat} (h : wrap64 (k * n) = c) (w : World) (hp : w.cell? ⟨p, 0, none⟩ = some (.int .i64 k)) : Calls Tryz.prog 54 #[.int .i64 n, .pointer (some ⟨p, 0, none⟩)] w fun e w' => e = .returned (.int .i64 c) ∧ w = w' := by
  go_enter Tryz.func54, Tryz.ntmps54
  go_wp2
  go_ret
  exact ⟨ret_int h, rfl⟩

set_option maxHeartbeats 1600000 in
theorem eachTimes_val {x y z a b c k : Int} {p : Nat} (ha : wrap64 (k * x) = a) (hb : wrap64 (k * y) = b) (hc : wrap64 (k * z) = c) (w : World) (hp : w.cell? ⟨p, 0, none⟩ = some (.int .i64 k)) (hlt : p < w.heap.size) :
    Calls Tryz.prog 49 #[.agg #[.int .i64 x, .int .i64 y, .int .i64 z], .func (.func 54) #[] #[.pointer (some ⟨p, 0, none⟩)]] w fun e w' => e = .returned (.agg #[.int .i64 a, .int .i64 b, .int .i64 c]) ∧ Ext w w' := by
  have HA := hid ha
  have HB := hid hb
  have HC := hid hc
  have HP := hid hp
  clear ha hb hc hp
  go_enter Tryz.func49, Tryz.ntmps49
  go_wp2
  refine wp_region_stages [([0, 1, 2, 4, 5, 6, 8, 9, 10], 3), ([], 7), ([], 11), ([12], 13)] 13 (w.heap.size + 1 + 1) (by kernel_rfl) (by kernel_rfl) ?_
  refine wpStages_cons ?_
  simp only [List.filterMap_cons, List.filterMap_nil, List.getElem?_toArray, List.getElem?_cons_zero, List.getElem?_cons_succ]
  show wpQuiet _ _ _ _ [_, _, _, _, _, _, _, _, _] _
  repeat (go_big_quiet_step (fail))
  refine wpQuiet_nil ⟨_, rfl, fun K hK => ?_⟩
  go_wp2_with fail
  refine (timesFn_val HA.out _ ((Ext.cells (w := w) (by repeat (with_reducible (first | assumption | exact Ext.refl _ | apply Ext.alloc | apply Ext.drew | apply Ext.drewN)))).1 _ _ hlt |>.trans HP.out)).mono ?_
  rintro e w1 ⟨rfl, rfl⟩
  go_wp2_with fail
  refine hK _ _ (.inr (fun b _ hb => Ext.block (by repeat (with_reducible (first | assumption | exact Ext.refl _ | apply Ext.alloc | apply Ext.drew | apply Ext.drewN))) (by simp; omega))) ?_
  clear hK K
  refine wpStages_cons ?_
  simp only [List.filterMap_nil]
  show wpQuiet _ _ _ _ [] _
  try simp only [Act.put, List.setIfInBounds_toArray, List.set_cons_succ, List.set_cons_zero]
  refine wpQuiet_nil ⟨_, rfl, fun K hK => ?_⟩
  go_wp2_with fail
  refine (timesFn_val HB.out _ ((Ext.cells (w := w) (by repeat (with_reducible (first | assumption | exact Ext.refl _ | apply Ext.alloc | apply Ext.drew | apply Ext.drewN)))).1 _ _ hlt |>.trans HP.out)).mono ?_
  rintro e w1 ⟨rfl, rfl⟩
  go_wp2_with fail
  refine hK _ _ (.inr (fun b _ hb => Ext.block (by repeat (with_reducible (first | assumption | exact Ext.refl _ | apply Ext.alloc | apply Ext.drew | apply Ext.drewN))) (by simp; omega))) ?_
  clear hK K
  refine wpStages_cons ?_
  simp only [List.filterMap_nil]
  show wpQuiet _ _ _ _ [] _
  try simp only [Act.put, List.setIfInBounds_toArray, List.set_cons_succ, List.set_cons_zero]
  refine wpQuiet_nil ⟨_, rfl, fun K hK => ?_⟩
  go_wp2_with fail
  refine (timesFn_val HC.out _ ((Ext.cells (w := w) (by repeat (with_reducible (first | assumption | exact Ext.refl _ | apply Ext.alloc | apply Ext.drew | apply Ext.drewN)))).1 _ _ hlt |>.trans HP.out)).mono ?_
  rintro e w1 ⟨rfl, rfl⟩
  go_wp2_with fail
  refine hK _ _ (.inr (fun b _ hb => Ext.block (by repeat (with_reducible (first | assumption | exact Ext.refl _ | apply Ext.alloc | apply Ext.drew | apply Ext.drewN))) (by simp; omega))) ?_
  clear hK K
  refine wpStages_cons ?_
  simp only [List.filterMap_cons, List.filterMap_nil, List.getElem?_toArray, List.getElem?_cons_zero, List.getElem?_cons_succ]
  show wpQuiet _ _ _ _ [_] _
  try simp only [Act.put, List.setIfInBounds_toArray, List.set_cons_succ, List.set_cons_zero]
  repeat (go_big_quiet_step (fail))
  refine wpQuiet_nil ⟨_, rfl, fun K hK => ?_⟩
  go_wp2_with fail
  refine hK _ _ (.inl (by trivial)) (wpStages_nil ?_)
  clear hK K
  go_wp2
  exact bodyPost_ret (v := .agg #[.int .i64 a, .int .i64 b, .int .i64 c]) (by simp [results, Tryz.results49, go_sem, *]) rfl ⟨rfl, (by repeat (first | with_reducible assumption | with_reducible exact Ext.refl _ | with_reducible apply Ext.alloc | with_reducible apply Ext.drew | with_reducible apply Ext.drewN | (with_reducible refine Ext.setCell ?_ (by simp; omega) _) | (with_reducible refine Ext.setCell ?_ (by simp) _)))⟩

set_option maxHeartbeats 800000 in
theorem times_val {x y z a b c k : Int} (ha : wrap64 (k * x) = a) (hb : wrap64 (k * y) = b) (hc : wrap64 (k * z) = c) (w : World) :
    Calls Tryz.prog 31 #[.agg #[.int .i64 x, .int .i64 y, .int .i64 z], .int .i64 k] w fun e w' => e = .returned (.agg #[.int .i64 a, .int .i64 b, .int .i64 c]) ∧ Ext w w' := by
  have HA := hid ha
  have HB := hid hb
  have HC := hid hc
  clear ha hb hc
  have hmf : ∀ (fn : Fn) (first cap : Array Value) (w : World), (Instr.makeFunc fn first cap).run Tryz.prog w = .ok (.func fn first cap) w := fun _ _ _ _ => rfl
  go_enter Tryz.func31, Tryz.ntmps31
  go_wp2_with fail
  refine (eachTimes_val HA.out HB.out HC.out _ (by simp [go_sem]) (by simp)).mono ?_
  rintro e w1 ⟨rfl, h1⟩
  obtain ⟨c1, f1⟩ := h1.cells
  have z1 := h1.size
  simp only [World.size_alloc] at z1
  have q2 : w.heap.size + 1 + 1 < w1.heap.size := by omega
  have E1 : Ext w w1 := Ext.trans (by repeat (with_reducible (first | assumption | exact Ext.refl _ | apply Ext.alloc | apply Ext.drew | apply Ext.drewN))) h1
  go_wp2
  exact bodyPost_ret (v := .agg #[.int .i64 a, .int .i64 b, .int .i64 c]) (by simp [results, Tryz.results31, go_sem, *]) rfl ⟨rfl, (by repeat (first | with_reducible assumption | with_reducible exact Ext.refl _ | with_reducible apply Ext.alloc | with_reducible apply Ext.drew | with_reducible apply Ext.drewN | (with_reducible refine Ext.setCell ?_ (by simp; omega) _) | (with_reducible refine Ext.setCell ?_ (by simp) _)))⟩
/-- the difference from nothing -/
theorem wrap_neg {a : Int} (h : -1000000 ≤ a ∧ a ≤ 1000000) : wrap64 (-1 * a) = -a := by
  rw [I64.wrap (I64.mk (by omega) (by omega))]
  omega
set_option maxRecDepth 10000 in
set_option maxHeartbeats 1600000 in
theorem iSubNil_val {k l m : Int} (hok : okVec k l m = true) (w : World) :
    Calls Tryz.prog 10 #[.agg #[.int .i64 0, .int .i64 0, .int .i64 0], .agg #[.int .i64 k, .int .i64 l, .int .i64 m]] w fun e w' => e = .returned (.agg #[.int .i64 (-k), .int .i64 (-l), .int .i64 (-m)]) ∧ Ext w w' := by
  have hin := okVec_in hok
  simp only [inB_iff] at hin
  have c0 := hid (show cl 0 = 0 by decide)
  have Y1 := hid ((cl_fix k).2 (by rw [inB_iff]; omega)).symm
  have Y2 := hid ((cl_fix l).2 (by rw [inB_iff]; omega)).symm
  have Y3 := hid ((cl_fix m).2 (by rw [inB_iff]; omega)).symm
  have N1 := hid (wrap_neg (a := k) (by omega))
  have N2 := hid (wrap_neg (a := l) (by omega))
  have N3 := hid (wrap_neg (a := m) (by omega))
  have S1 := hid (show wrap64 (0 + -k) = -k by rw [I64.wrap (I64.mk (by omega) (by omega))]; omega)
  have S2 := hid (show wrap64 (0 + -l) = -l by rw [I64.wrap (I64.mk (by omega) (by omega))]; omega)
  have S3 := hid (show wrap64 (0 + -m) = -m by rw [I64.wrap (I64.mk (by omega) (by omega))]; omega)
  have Z1 := hid ((cl_fix (-k)).2 (by rw [inB_iff]; omega)).symm
  have Z2 := hid ((cl_fix (-l)).2 (by rw [inB_iff]; omega)).symm
  have Z3 := hid ((cl_fix (-m)).2 (by rw [inB_iff]; omega)).symm
  clear hok
  obtain ⟨k', hk'⟩ : ∃ x, -k = x := ⟨_, rfl⟩
  obtain ⟨l', hl'⟩ : ∃ x, -l = x := ⟨_, rfl⟩
  obtain ⟨m', hm'⟩ : ∃ x, -m = x := ⟨_, rfl⟩
  rw [hk'] at N1 S1 Z1 ⊢
  rw [hl'] at N2 S2 Z2 ⊢
  rw [hm'] at N3 S3 Z3 ⊢
  clear hk' hl' hm'
  go_enter Tryz.func10, Tryz.ntmps10
  go_wp2
  refine wp_region_stages [([0, 2], 1), ([], 3), ([], 4), ([], 5), ([], 6), ([], 7)] 7 (w.heap.size + 1 + 1 + 1) (by kernel_rfl) (by kernel_rfl) ?_
  refine wpStages_cons ?_
  simp only [List.filterMap_cons, List.filterMap_nil, List.getElem?_toArray, List.getElem?_cons_zero, List.getElem?_cons_succ]
  show wpQuiet _ _ _ _ [_, _] _
  repeat (go_big_quiet_step (fail))
  refine wpQuiet_nil ⟨_, rfl, fun K hK => ?_⟩
  go_wp2_with fail
  refine (clamped_val c0.out c0.out c0.out _).mono ?_
  rintro e w1 ⟨rfl, h1⟩
  have e1 := Ext.trans (w := _) (by repeat (with_reducible (first | assumption | exact Ext.refl _ | apply Ext.alloc | apply Ext.drew | apply Ext.drewN))) h1
  go_wp2_with fail
  refine hK _ _ (.inr (fun b _ hb => (h1.block (by simp; omega)).trans (Ext.block (by repeat (with_reducible (first | assumption | exact Ext.refl _ | apply Ext.alloc | apply Ext.drew | apply Ext.drewN))) (by simp; omega)))) ?_
  clear hK K
  refine wpStages_cons ?_
  simp only [List.filterMap_nil]
  show wpQuiet _ _ _ _ [] _
  try simp only [Act.put, List.setIfInBounds_toArray, List.set_cons_succ, List.set_cons_zero]
  refine wpQuiet_nil ⟨_, rfl, fun K hK => ?_⟩
  go_wp2_with fail
  refine (clamped_val Y1.out Y2.out Y3.out _).mono ?_
  rintro e w2 ⟨rfl, h2⟩
  have e2 := h1.trans h2
  go_wp2_with fail
  refine hK _ _ (.inr (fun b _ hb => (e2.block (by simp; omega)).trans (Ext.block (by repeat (with_reducible (first | assumption | exact Ext.refl _ | apply Ext.alloc | apply Ext.drew | apply Ext.drewN))) (by simp; omega)))) ?_
  clear hK K
  refine wpStages_cons ?_
  simp only [List.filterMap_nil]
  show wpQuiet _ _ _ _ [] _
  try simp only [Act.put, List.setIfInBounds_toArray, List.set_cons_succ, List.set_cons_zero]
  refine wpQuiet_nil ⟨_, rfl, fun K hK => ?_⟩
  go_wp2_with fail
  refine (times_val N1.out N2.out N3.out _).mono ?_
  rintro e w3 ⟨rfl, h3⟩
  have e3 := e2.trans h3
  go_wp2_with fail
  refine hK _ _ (.inr (fun b _ hb => (e3.block (by simp; omega)).trans (Ext.block (by repeat (with_reducible (first | assumption | exact Ext.refl _ | apply Ext.alloc | apply Ext.drew | apply Ext.drewN))) (by simp; omega)))) ?_
  clear hK K
  refine wpStages_cons ?_
  simp only [List.filterMap_nil]
  show wpQuiet _ _ _ _ [] _
  try simp only [Act.put, List.setIfInBounds_toArray, List.set_cons_succ, List.set_cons_zero]
  refine wpQuiet_nil ⟨_, rfl, fun K hK => ?_⟩
  go_wp2_with fail
  refine (plus_val S1.out S2.out S3.out _).mono ?_
  rintro e w4 ⟨rfl, h4⟩
  have e4 := e3.trans h4
  go_wp2_with fail
  refine hK _ _ (.inr (fun b _ hb => (e4.block (by simp; omega)).trans (Ext.block (by repeat (with_reducible (first | assumption | exact Ext.refl _ | apply Ext.alloc | apply Ext.drew | apply Ext.drewN))) (by simp; omega)))) ?_
  clear hK K
  refine wpStages_cons ?_
  simp only [List.filterMap_nil]
  show wpQuiet _ _ _ _ [] _
  try simp only [Act.put, List.setIfInBounds_toArray, List.set_cons_succ, List.set_cons_zero]
  refine wpQuiet_nil ⟨_, rfl, fun K hK => ?_⟩
  go_wp2_with fail
  refine (clamped_val Z1.out Z2.out Z3.out _).mono ?_
  rintro e w5 ⟨rfl, h5⟩
  have e5 := e4.trans h5
  go_wp2_with fail
  refine hK _ _ (.inr (fun b _ hb => (e5.block (by simp; omega)).trans (Ext.block (by repeat (with_reducible (first | assumption | exact Ext.refl _ | apply Ext.alloc | apply Ext.drew | apply Ext.drewN))) (by simp; omega)))) ?_
  clear hK K
  refine wpStages_cons ?_
  simp only [List.filterMap_nil]
  show wpQuiet _ _ _ _ [] _
  try simp only [Act.put, List.setIfInBounds_toArray, List.set_cons_succ, List.set_cons_zero]
  have z5 := e5.size
  simp at z5
  obtain ⟨c5, f5⟩ := e5.cells
  have q5 : w.heap.size + 1 + 1 < w5.heap.size := by omega
  have E5 : Ext w w5 := Ext.trans (by repeat (with_reducible (first | assumption | exact Ext.refl _ | apply Ext.alloc | apply Ext.drew | apply Ext.drewN))) e5
  refine wpQuiet_nil ⟨_, rfl, fun K hK => ?_⟩
  go_wp2_with fail
  refine hK _ _ (.inl (by trivial)) (wpStages_nil ?_)
  clear hK K
  go_wp2
  exact bodyPost_ret (v := .agg #[.int .i64 k', .int .i64 l', .int .i64 m']) (by simp [results, Tryz.results10, go_sem, *]) rfl ⟨rfl, (by repeat (first | with_reducible assumption | with_reducible exact Ext.refl _ | with_reducible apply Ext.alloc | with_reducible apply Ext.drew | with_reducible apply Ext.drewN | (with_reducible refine Ext.setCell ?_ (by simp; omega) _) | (with_reducible refine Ext.setCell ?_ (by simp) _)))⟩

set_option maxRecDepth 20000 in
set_option maxHeartbeats 1600000 in
theorem iTranslation_val (x y z : Int) (h : okVec x y z = true) (w : World) : Calls Tryz.prog 13 #[.agg #[.int .i64 x, .int .i64 y, .int .i64 z]] w fun e w' => e = .returned (.agg #[.int .i64 16, .int .i64 0, .int .i64 0, .int .i64 0, .int .i64 16, .int .i64 0, .int .i64 0, .int .i64 0, .int .i64 16, .int .i64 x, .int .i64 y, .int .i64 z]) ∧ Ext w w' := by
  have HOK := hid h
  clear h
  go_enter Tryz.func13, Tryz.ntmps13
  go_wp2_with fail
  refine (iIdentity_val _).mono ?_
  rintro e w2 ⟨rfl, x2⟩
  have R2 : Blk w2 (w.heap.size + 1) 29 (mC fun _ => 0) := by
    have h := (Blk12.made (w.alloc (.cells #[.int .i64 x, .int .i64 y, .int .i64 z] 24))).ext x2
    rw [World.size_alloc] at h
    exact h
  have V2 := (Blk.new w 24 [.int .i64 x, .int .i64 y, .int .i64 z]).ext (((Ext.refl _).alloc _).trans x2)
  have E2 : Ext w w2 := Ext.trans (by repeat (with_reducible (first | assumption | exact Ext.refl _ | apply Ext.alloc | apply Ext.drew | apply Ext.drewN))) x2
  have HR2 := hid R2
  have HV2 := hid V2
  have v0 := V2.cell 0 rfl
  have v1 := V2.cell 1 rfl
  have v2 := V2.cell 2 rfl
  have vl := V2.lt
  have rl := R2.lt
  clear x2 R2 V2
  go_wp2_with fail
  refine (iIsValidVec_val _).mono ?_
  rw [HOK.out]
  rintro e w3 ⟨rfl, x3⟩
  have y3 : Ext w2 w3 := Ext.trans (by repeat (with_reducible (first | assumption | exact Ext.refl _ | apply Ext.alloc | apply Ext.drew | apply Ext.drewN))) x3
  have M3 := (Blk.new w2 29 (mC (qm 0 0))).ext x3
  have R3 := HR2.out.ext y3
  have V3' := HV2.out.ext y3
  have E3 := E2.trans y3
  clear v0 v1 v2 x3
  have v0 := V3'.cell 0 rfl
  have v1 := V3'.cell 1 rfl
  have v2 := V3'.cell 2 rfl
  have vl' := V3'.lt
  have m0 := M3.cell 0 rfl
  have m1 := M3.cell 1 rfl
  have m2 := M3.cell 2 rfl
  have m3 := M3.cell 3 rfl
  have m4 := M3.cell 4 rfl
  have m5 := M3.cell 5 rfl
  have m6 := M3.cell 6 rfl
  have m7 := M3.cell 7 rfl
  have m8 := M3.cell 8 rfl
  have m9 := M3.cell 9 rfl
  have m10 := M3.cell 10 rfl
  have m11 := M3.cell 11 rfl
  have f0 := M3.free 0
  have f1 := M3.free 1
  have f2 := M3.free 2
  have f3 := M3.free 3
  have f4 := M3.free 4
  have f5 := M3.free 5
  have f6 := M3.free 6
  have f7 := M3.free 7
  have f8 := M3.free 8
  have f9 := M3.free 9
  have f10 := M3.free 10
  have f11 := M3.free 11
  have r0 := R3.cell 0 rfl
  have r1 := R3.cell 1 rfl
  have r2 := R3.cell 2 rfl
  have r3 := R3.cell 3 rfl
  have r4 := R3.cell 4 rfl
  have r5 := R3.cell 5 rfl
  have r6 := R3.cell 6 rfl
  have r7 := R3.cell 7 rfl
  have r8 := R3.cell 8 rfl
  have r9 := R3.cell 9 rfl
  have r10 := R3.cell 10 rfl
  have r11 := R3.cell 11 rfl
  have g0 := R3.free 0
  have g1 := R3.free 1
  have g2 := R3.free 2
  have g3 := R3.free 3
  have g4 := R3.free 4
  have g5 := R3.free 5
  have g6 := R3.free 6
  have g7 := R3.free 7
  have g8 := R3.free 8
  have g9 := R3.free 9
  have g10 := R3.free 10
  have g11 := R3.free 11
  have ml := M3.lt
  have rl' := R3.lt
  simp [qm, lst] at m0 m1 m2 m3 m4 m5 m6 m7 m8 m9 m10 m11
  clear M3 R3 V3' y3
  go_wp2
  refine bodyPost_ret (v := .agg #[.int .i64 16, .int .i64 0, .int .i64 0, .int .i64 0, .int .i64 16, .int .i64 0, .int .i64 0, .int .i64 0, .int .i64 16, .int .i64 x, .int .i64 y, .int .i64 z]) (by simp [results, Tryz.results13, go_sem, *]) rfl ⟨rfl, ?_⟩
  have z2 := E2.size
  exact (by repeat (first | with_reducible assumption | with_reducible exact Ext.refl _ | with_reducible apply Ext.alloc | with_reducible apply Ext.drew | with_reducible apply Ext.drewN | (with_reducible refine Ext.setCell ?_ (by simp; omega) _) | (with_reducible refine Ext.setCell ?_ (by simp) _)))

set_option maxHeartbeats 800000 in
theorem l02Draw_any (hi B : Nat) (w : World) (hc : Cur hi w B) :
    Calls Tryz.prog 15 #[.pointer (some ⟨B, 0, none⟩)] w fun e w' => ∃ x y z : Int, e = .returned (.agg #[.int .i64 x, .int .i64 y, .int .i64 z]) ∧ ((-1000 ≤ x ∧ x ≤ 1000) ∧ (-1000 ≤ y ∧ y ≤ 1000) ∧ (-1000 ≤ z ∧ z ≤ 1000)) ∧ Cur hi w' B ∧ Gr B w w' := by
  have HC := hid hc
  have hB := hc.lt
  clear hc
  go_enter Tryz.func15, Tryz.ntmps15
  go_wp2_with fail
  refine (l01Below_any hi B 400 _ (HC.out.ext (by repeat (with_reducible (first | assumption | exact Ext.refl _ | apply Ext.alloc | apply Ext.drew | apply Ext.drewN)))) (by decide) ⟨by decide, by decide⟩).mono ?_
  rintro e w1 ⟨p, rfl, ⟨p0, p1⟩, C1, G1⟩
  go_wp2_with fail
  refine (l01Below_any hi B 400 _ C1 (by decide) ⟨by decide, by decide⟩).mono ?_
  rintro e w2 ⟨q, rfl, ⟨q0, q1⟩, C2, G2⟩
  go_wp2_with fail
  refine (l01Below_any hi B 300 _ C2 (by decide) ⟨by decide, by decide⟩).mono ?_
  rintro e w3 ⟨r, rfl, ⟨r0, r1⟩, C3, G3⟩
  have R3 := (G1.trans (G2.trans G3)).blk (Blk.new w 24 [.int .i64 0, .int .i64 0, .int .i64 0]) (by omega)
  have G3' : Gr B w w3 := ((Gr.refl B w).ext (by repeat (with_reducible (first | assumption | exact Ext.refl _ | apply Ext.alloc | apply Ext.drew | apply Ext.drewN)))).trans (G1.trans (G2.trans G3))
  have t0 := R3.cell 0 rfl
  have t1 := R3.cell 1 rfl
  have t2 := R3.cell 2 rfl
  have f0 := R3.free 0
  have f1 := R3.free 1
  have f2 := R3.free 2
  have rl := R3.lt
  clear R3 G1 G2 G3 C1 C2
  go_wp2
  refine bodyPost_ret (v := .agg #[.int .i64 (p - 100), .int .i64 (q - 100), .int .i64 r]) (by simp [results, Tryz.results15, go_sem, *]) rfl ⟨_, _, _, rfl, ⟨⟨by omega, by omega⟩, ⟨by omega, by omega⟩, ⟨by omega, by omega⟩⟩, ?_, ?_⟩
  · exact ((C3.setNew (by omega) _ _).setNew (by omega) _ _).setNew (by omega) _ _
  · exact ((G3'.setNew (Nat.le_refl _) _ _).setNew (Nat.le_refl _) _ _).setNew (Nat.le_refl _) _ _
set_option maxHeartbeats 800000 in
theorem MakeVec_any (hi : Nat) (v : Value) (n m : Nat) (w : World) (hv : Byts hi w v n) (hh : hi ≤ w.heap.size) (hn : n ≤ 1048576) (hm : m ≤ 300) :
    Calls Tryz.prog 4 #[v, .int .i64 m] w fun e w' => ∃ x y z : Int, e = .returned (.agg #[.int .i64 x, .int .i64 y, .int .i64 z]) ∧ ((-1000 ≤ x ∧ x ≤ 1000) ∧ (-1000 ≤ y ∧ y ≤ 1000) ∧ (-1000 ≤ z ∧ z ≤ 1000)) ∧ Ext w w' := by
  have HV := hid hv
  obtain ⟨a, cap, rfl, k1, k2⟩ := hv.open
  clear hv
  have h3 : (3 : Int) * (m : Int) = ((3 * m : Nat) : Int) := by omega
  have H3 := hid h3
  clear h3
  go_enter Tryz.func4, Tryz.ntmps4
  go_wp2_with fail
  rw [H3.out]
  refine (l32New_any hi _ n (3 * m) _ (HV.out.ext hh (by repeat (with_reducible (first | assumption | exact Ext.refl _ | apply Ext.alloc | apply Ext.drew | apply Ext.drewN)))) (by simp; omega) hn (by omega)).mono ?_
  rintro e w1 ⟨B, rfl, hB, C1, x1⟩
  go_wp2_with fail
  refine (l02Draw_any hi B _ C1).mono ?_
  rintro e w2 ⟨x, y, z, rfl, hb, C2, G2⟩
  rw [World.size_alloc] at hB
  have R2 := G2.blk ((Blk.new w 24 [.int .i64 0, .int .i64 0, .int .i64 0]).ext x1) (by omega)
  have E2 := G2.up (Ext.trans (w := w) (by repeat (with_reducible (first | assumption | exact Ext.refl _ | apply Ext.alloc | apply Ext.drew | apply Ext.drewN))) x1) (by omega)
  have t0 := R2.cell 0 rfl
  have t1 := R2.cell 1 rfl
  have t2 := R2.cell 2 rfl
  have f0 := R2.free 0
  have f1 := R2.free 1
  have f2 := R2.free 2
  have rl := R2.lt
  clear R2 G2 C2 x1
  go_wp2
  refine bodyPost_ret (v := .agg #[.int .i64 x, .int .i64 y, .int .i64 z]) (by simp [results, Tryz.results4, go_sem, *]) rfl ⟨_, _, _, rfl, hb, ?_⟩
  exact (by repeat (first | with_reducible assumption | with_reducible exact Ext.refl _ | with_reducible apply Ext.alloc | with_reducible apply Ext.drew | with_reducible apply Ext.drewN | (with_reducible refine Ext.setCell ?_ (by simp; omega) _) | (with_reducible refine Ext.setCell ?_ (by simp) _)))
end Go.Proofs.YtkcghoeklbcihaaGreatDoor
end

section
/- This text proves in plain numbers that four quarter turns are the identity, and that translations can be undone. -/
namespace Go.Proofs.YtkcghoeklbcihaaGreatDoor
open Go.RowKit

theorem cl_small {n : Int} (h : -1000000 ≤ n ∧ n ≤ 1000000) : cl n = n := ((cl_fix n).2 (by rw [inB_iff]; omega)).symm
theorem addC_small {m n : Int} (h1 : -1000000 ≤ m ∧ m ≤ 1000000) (h2 : -1000000 ≤ n ∧ n ≤ 1000000) (h3 : -1000000 ≤ m + n ∧ m + n ≤ 1000000) : addC m n = m + n := by
  unfold addC
  rw [cl_small h1, cl_small h2, cl_small h3]
theorem fdiv16 (r : Int) : fdiv (16 * r) 16 = r := by unfold fdiv; rw [if_neg (by omega)]; omega
/-- a row of a matrix of sixteenths at a vector -/
theorem appC_row {a b c o x y z r : Int} (ha : -16 ≤ a ∧ a ≤ 16) (hb : -16 ≤ b ∧ b ≤ 16) (hc : -16 ≤ c ∧ c ≤ 16) (hx : -2000 ≤ x ∧ x ≤ 2000) (hy : -2000 ≤ y ∧ y ≤ 2000) (hz : -2000 ≤ z ∧ z ≤ 2000) (ho : -2000 ≤ o ∧ o ≤ 2000)
    (hr : -2000 ≤ r ∧ r ≤ 2000) (h : a * x + b * y + c * z = 16 * r) : appC a b c o x y z = r + o := by
  unfold appC dotC
  rw [cl_small (n := a) (by omega), cl_small (n := b) (by omega), cl_small (n := c) (by omega), cl_small (n := x) (by omega), cl_small (n := y) (by omega), cl_small (n := z) (by omega), h, fdiv16, addC_small (by omega) (by omega) (by omega)]
/-- a matrix without offset, a translation -/
def qX (q : Nat → Int) : Xf := ⟨q 0, q 1, q 2, q 3, q 4, q 5, q 6, q 7, q 8, 0, 0, 0⟩
def tX (x y z : Int) : Xf := ⟨16, 0, 0, 0, 16, 0, 0, 0, 16, x, y, z⟩
theorem qX_small {a k : Nat} (ha : a < 3) (hk : k < 4) : (qX (qm a k)).small := by
  obtain ⟨t, e, h⟩ := xV_small (q := qm a k) (fun i hi => by have := qm_in a ha k hk i hi; omega)
  refine ⟨fun n hn => ?_, ?_, ?_, ?_⟩
  · simp only [Xf.ms, qX, List.mem_cons, List.not_mem_nil, or_false] at hn
    rcases hn with rfl | rfl | rfl | rfl | rfl | rfl | rfl | rfl | rfl
    all_goals first | (have := qm_in a ha k hk 0 (by decide); omega) | (have := qm_in a ha k hk 1 (by decide); omega) | (have := qm_in a ha k hk 2 (by decide); omega) | (have := qm_in a ha k hk 3 (by decide); omega) | (have := qm_in a ha k hk 4 (by decide); omega) | (have := qm_in a ha k hk 5 (by decide); omega) | (have := qm_in a ha k hk 6 (by decide); omega) | (have := qm_in a ha k hk 7 (by decide); omega) | (have := qm_in a ha k hk 8 (by decide); omega)
  · show (-1000000 : Int) ≤ 0 ∧ (0 : Int) ≤ 1000000; decide
  · show (-1000000 : Int) ≤ 0 ∧ (0 : Int) ≤ 1000000; decide
  · show (-1000000 : Int) ≤ 0 ∧ (0 : Int) ≤ 1000000; decide
theorem tX_small {x y z : Int} (hx : -2000 ≤ x ∧ x ≤ 2000) (hy : -2000 ≤ y ∧ y ≤ 2000) (hz : -2000 ≤ z ∧ z ≤ 2000) : (tX x y z).small := by
  refine ⟨fun n hn => ?_, ?_, ?_, ?_⟩
  · simp only [Xf.ms, tX, List.mem_cons, List.not_mem_nil, or_false] at hn
    rcases hn with rfl | rfl | rfl | rfl | rfl | rfl | rfl | rfl | rfl <;> decide
  · show -1000000 ≤ x ∧ x ≤ 1000000; omega
  · show -1000000 ≤ y ∧ y ≤ 1000000; omega
  · show -1000000 ≤ z ∧ z ≤ 1000000; omega
def V3.sm (p : V3) (m : Int) : Prop := (-m ≤ p.x ∧ p.x ≤ m) ∧ (-m ≤ p.y ∧ p.y ≤ m) ∧ (-m ≤ p.z ∧ p.z ≤ m)
/-- a quarter turn of a vector about an axis, and back -/
def turnV (a : Nat) (p : V3) : V3 := if a = 0 then ⟨p.x, -p.z, p.y⟩ else if a = 1 then ⟨p.z, p.y, -p.x⟩ else ⟨-p.y, p.x, p.z⟩
def backV (a : Nat) (p : V3) : V3 := if a = 0 then ⟨p.x, p.z, -p.y⟩ else if a = 1 then ⟨-p.z, p.y, p.x⟩ else ⟨p.y, -p.x, p.z⟩
theorem turnV_sm {a : Nat} {p : V3} (h : p.sm 1000) : (turnV a p).sm 1000 := by
  obtain ⟨h1, h2, h3⟩ := h
  unfold turnV
  split
  · exact ⟨h1, by show -1000 ≤ -p.z ∧ -p.z ≤ 1000; omega, h2⟩
  · split
    · exact ⟨h3, h2, by show -1000 ≤ -p.x ∧ -p.x ≤ 1000; omega⟩
    · exact ⟨by show -1000 ≤ -p.y ∧ -p.y ≤ 1000; omega, h1, h3⟩
theorem V3.eq {p q : V3} (h1 : p.x = q.x) (h2 : p.y = q.y) (h3 : p.z = q.z) : p = q := by cases p; cases q; simp_all
theorem turn_app {a : Nat} (ha : a < 3) {p : V3} (h : p.sm 1000) : (qX (qm a 1)).app p = turnV a p := by
  obtain ⟨x, y, z⟩ := p
  obtain ⟨⟨x0, x1⟩, ⟨y0, y1⟩, ⟨z0, z1⟩⟩ := h
  have hok := (qX_small (k := 1) ha (by decide)).ok
  unfold Xf.app
  rw [if_pos hok]
  simp only at x0 x1 y0 y1 z0 z1
  rcases (by omega : a = 0 ∨ a = 1 ∨ a = 2) with rfl | rfl | rfl
  · refine V3.eq ?_ ?_ ?_
    · show appC 16 0 0 0 x y z = x
      rw [appC_row (r := x) (by decide) (by decide) (by decide) (by omega) (by omega) (by omega) (by decide) (by omega) (by omega)]; omega
    · show appC 0 0 (-16) 0 x y z = -z
      rw [appC_row (r := -z) (by decide) (by decide) (by decide) (by omega) (by omega) (by omega) (by decide) (by omega) (by omega)]; omega
    · show appC 0 16 0 0 x y z = y
      rw [appC_row (r := y) (by decide) (by decide) (by decide) (by omega) (by omega) (by omega) (by decide) (by omega) (by omega)]; omega
  · refine V3.eq ?_ ?_ ?_
    · show appC 0 0 16 0 x y z = z
      rw [appC_row (r := z) (by decide) (by decide) (by decide) (by omega) (by omega) (by omega) (by decide) (by omega) (by omega)]; omega
    · show appC 0 16 0 0 x y z = y
      rw [appC_row (r := y) (by decide) (by decide) (by decide) (by omega) (by omega) (by omega) (by decide) (by omega) (by omega)]; omega
    · show appC (-16) 0 0 0 x y z = -x
      rw [appC_row (r := -x) (by decide) (by decide) (by decide) (by omega) (by omega) (by omega) (by decide) (by omega) (by omega)]; omega
  · refine V3.eq ?_ ?_ ?_
    · show appC 0 (-16) 0 0 x y z = -y
      rw [appC_row (r := -y) (by decide) (by decide) (by decide) (by omega) (by omega) (by omega) (by decide) (by omega) (by omega)]; omega
    · show appC 16 0 0 0 x y z = x
      rw [appC_row (r := x) (by decide) (by decide) (by decide) (by omega) (by omega) (by omega) (by decide) (by omega) (by omega)]; omega
    · show appC 0 0 16 0 x y z = z
      rw [appC_row (r := z) (by decide) (by decide) (by decide) (by omega) (by omega) (by omega) (by decide) (by omega) (by omega)]; omega
theorem back_app {a : Nat} (ha : a < 3) {p : V3} (h : p.sm 1000) : (qX (qm a 3)).app p = backV a p := by
  obtain ⟨x, y, z⟩ := p
  obtain ⟨⟨x0, x1⟩, ⟨y0, y1⟩, ⟨z0, z1⟩⟩ := h
  have hok := (qX_small (k := 3) ha (by decide)).ok
  unfold Xf.app
  rw [if_pos hok]
  simp only at x0 x1 y0 y1 z0 z1
  rcases (by omega : a = 0 ∨ a = 1 ∨ a = 2) with rfl | rfl | rfl
  · refine V3.eq ?_ ?_ ?_
    · show appC 16 0 0 0 x y z = x
      rw [appC_row (r := x) (by decide) (by decide) (by decide) (by omega) (by omega) (by omega) (by decide) (by omega) (by omega)]; omega
    · show appC 0 0 16 0 x y z = z
      rw [appC_row (r := z) (by decide) (by decide) (by decide) (by omega) (by omega) (by omega) (by decide) (by omega) (by omega)]; omega
    · show appC 0 (-16) 0 0 x y z = -y
      rw [appC_row (r := -y) (by decide) (by decide) (by decide) (by omega) (by omega) (by omega) (by decide) (by omega) (by omega)]; omega
  · refine V3.eq ?_ ?_ ?_
    · show appC 0 0 (-16) 0 x y z = -z
      rw [appC_row (r := -z) (by decide) (by decide) (by decide) (by omega) (by omega) (by omega) (by decide) (by omega) (by omega)]; omega
    · show appC 0 16 0 0 x y z = y
      rw [appC_row (r := y) (by decide) (by decide) (by decide) (by omega) (by omega) (by omega) (by decide) (by omega) (by omega)]; omega
    · show appC 16 0 0 0 x y z = x
      rw [appC_row (r := x) (by decide) (by decide) (by decide) (by omega) (by omega) (by omega) (by decide) (by omega) (by omega)]; omega
  · refine V3.eq ?_ ?_ ?_
    · show appC 0 16 0 0 x y z = y
      rw [appC_row (r := y) (by decide) (by decide) (by decide) (by omega) (by omega) (by omega) (by decide) (by omega) (by omega)]; omega
    · show appC (-16) 0 0 0 x y z = -x
      rw [appC_row (r := -x) (by decide) (by decide) (by decide) (by omega) (by omega) (by omega) (by decide) (by omega) (by omega)]; omega
    · show appC 0 0 16 0 x y z = z
      rw [appC_row (r := z) (by decide) (by decide) (by decide) (by omega) (by omega) (by omega) (by decide) (by omega) (by omega)]; omega
theorem back_turn {a : Nat} (ha : a < 3) (p : V3) : backV a (turnV a p) = p := by
  rcases (by omega : a = 0 ∨ a = 1 ∨ a = 2) with rfl | rfl | rfl
  · refine V3.eq rfl rfl ?_
    show - -p.z = p.z
    omega
  · refine V3.eq ?_ rfl rfl
    show - -p.x = p.x
    omega
  · refine V3.eq rfl ?_ rfl
    show - -p.y = p.y
    omega
theorem turn4 {a : Nat} (ha : a < 3) (p : V3) : turnV a (turnV a (turnV a (turnV a p))) = p := by
  rcases (by omega : a = 0 ∨ a = 1 ∨ a = 2) with rfl | rfl | rfl
  · refine V3.eq rfl ?_ ?_
    · show - -p.y = p.y; omega
    · show - -p.z = p.z; omega
  · refine V3.eq ?_ rfl ?_
    · show - -p.x = p.x; omega
    · show - -p.z = p.z; omega
  · refine V3.eq ?_ ?_ rfl
    · show - -p.x = p.x; omega
    · show - -p.y = p.y; omega
theorem move_app {o p : V3} (ho : o.sm 1000) (hp : p.sm 2000) (hs : (⟨p.x + o.x, p.y + o.y, p.z + o.z⟩ : V3).sm 2000) : (tX o.x o.y o.z).app p = ⟨p.x + o.x, p.y + o.y, p.z + o.z⟩ := by
  obtain ⟨x, y, z⟩ := p
  obtain ⟨a, b, c⟩ := o
  obtain ⟨⟨x0, x1⟩, ⟨y0, y1⟩, ⟨z0, z1⟩⟩ := hp
  obtain ⟨⟨a0, a1⟩, ⟨b0, b1⟩, ⟨c0, c1⟩⟩ := ho
  simp only at x0 x1 y0 y1 z0 z1 a0 a1 b0 b1 c0 c1
  have hok := (tX_small (x := a) (y := b) (z := c) (by omega) (by omega) (by omega)).ok
  unfold Xf.app
  rw [if_pos hok]
  refine V3.eq ?_ ?_ ?_
  · show appC 16 0 0 a x y z = x + a
    rw [appC_row (r := x) (by decide) (by decide) (by decide) (by omega) (by omega) (by omega) (by omega) (by omega) (by omega)]
  · show appC 0 16 0 b x y z = y + b
    rw [appC_row (r := y) (by decide) (by decide) (by decide) (by omega) (by omega) (by omega) (by omega) (by omega) (by omega)]
  · show appC 0 0 16 c x y z = z + c
    rw [appC_row (r := z) (by decide) (by decide) (by decide) (by omega) (by omega) (by omega) (by omega) (by omega) (by omega)]
end Go.Proofs.YtkcghoeklbcihaaGreatDoor
end

section
/- This text proves that a transform equals itself in the model. -/
namespace Go.Proofs.YtkcghoeklbcihaaGreatDoor
open Go.RowKit

theorem wfI {n : Int} (h : I64 n) : (Lit.int .i64 n).wf = true := by
  unfold I64 at h
  simp [Lit.wf, IntKind.min, IntKind.max, IntKind.bits, IntKind.signed]
  omega
theorem keyInt (d : Nat) {n : Int} (h : I64 n) : Tryz.prog.keyLits (d + 1) 3 [.int .i64 n] = some [.int .i64 n] := by
  simp [Program.keyLits, Tryz.underlying3, wfI h]
set_option maxRecDepth 10000 in
set_option maxHeartbeats 1600000 in
theorem keyVec (d : Nat) {x y z : Int} (hx : I64 x) (hy : I64 y) (hz : I64 z) : Tryz.prog.keyLits (d + 2) 24 [.int .i64 x, .int .i64 y, .int .i64 z] = some [.int .i64 x, .int .i64 y, .int .i64 z] := by
  have h3 : Tryz.prog.cellsOf 24 = 3 := by kernel_rfl
  have h1 : Tryz.prog.cellsOf 3 = 1 := by kernel_rfl
  unfold Program.keyLits
  simp [Tryz.underlying24, h3, h1, keyInt d hx, keyInt d hy, keyInt d hz]
set_option maxRecDepth 10000 in
set_option maxHeartbeats 1600000 in
theorem keyArr (d : Nat) {m0 m1 m2 m3 m4 m5 m6 m7 m8 : Int} (h : ∀ n ∈ [m0, m1, m2, m3, m4, m5, m6, m7, m8], I64 n) : Tryz.prog.keyLits (d + 2) 27 [.int .i64 m0, .int .i64 m1, .int .i64 m2, .int .i64 m3, .int .i64 m4, .int .i64 m5, .int .i64 m6, .int .i64 m7, .int .i64 m8] = some [.int .i64 m0, .int .i64 m1, .int .i64 m2, .int .i64 m3, .int .i64 m4, .int .i64 m5, .int .i64 m6, .int .i64 m7, .int .i64 m8] := by
  have h9 : Tryz.prog.cellsOf 27 = 9 := by kernel_rfl
  have h1 : Tryz.prog.cellsOf 3 = 1 := by kernel_rfl
  unfold Program.keyLits
  simp [Tryz.underlying27, h9, h1, List.range_succ, keyInt d (h m0 (by simp)), keyInt d (h m1 (by simp)), keyInt d (h m2 (by simp)), keyInt d (h m3 (by simp)), keyInt d (h m4 (by simp)), keyInt d (h m5 (by simp)), keyInt d (h m6 (by simp)), keyInt d (h m7 (by simp)), keyInt d (h m8 (by simp))]
set_option maxRecDepth 10000 in
set_option maxHeartbeats 1600000 in
theorem run_eqXf_same (t : Xf) (ht : t.I) (w : World) : (binOp .eql 29 t.V t.V).run Tryz.prog w = .ok (.bool true) w := by
  obtain ⟨m0, m1, m2, m3, m4, m5, m6, m7, m8, x, y, z⟩ := t
  obtain ⟨h1, hx, hy, hz⟩ := ht
  unfold Xf.V
  have h12 : Tryz.prog.cellsOf 29 = 12 := by kernel_rfl
  have h9 : Tryz.prog.cellsOf 27 = 9 := by kernel_rfl
  have h3 : Tryz.prog.cellsOf 24 = 3 := by kernel_rfl
  have hl : ∃ l, Tryz.prog.keyLits (0 + 3) 29 (Value.agg #[.int .i64 m0, .int .i64 m1, .int .i64 m2, .int .i64 m3, .int .i64 m4, .int .i64 m5, .int .i64 m6, .int .i64 m7, .int .i64 m8, .int .i64 x, .int .i64 y, .int .i64 z]).cells.toList = some l := by
    unfold Program.keyLits
    simp [Value.cells, Tryz.underlying29, h12, h9, h3, keyArr 0 (show ∀ n ∈ [m0, m1, m2, m3, m4, m5, m6, m7, m8], I64 n from h1), keyVec 0 hx hy hz]
  obtain ⟨l, hl⟩ := hl
  have hf : (Value.agg #[.int .i64 m0, .int .i64 m1, .int .i64 m2, .int .i64 m3, .int .i64 m4, .int .i64 m5, .int .i64 m6, .int .i64 m7, .int .i64 m8, .int .i64 x, .int .i64 y, .int .i64 z]).formed Tryz.prog 29 = true := by simp [Value.formed, Tryz.underlying29, h12]
  obtain ⟨r, hr, hi⟩ := run_equalIn_deep (P := Tryz.prog) 9997 3 29 (by kernel_rfl) w _ _ _ _ l l hf hf hl hl
  obtain rfl : r = true := hi.2 rfl
  simp only [run_eql_struct]
  rw [show (10000 : Nat) = 9997 + 3 from rfl, hr]
  rfl
end Go.Proofs.YtkcghoeklbcihaaGreatDoor
end

section
/- This text walks the law FnTransforms. -/
namespace Go.Proofs.YtkcghoeklbcihaaGreatDoor
open Go.RowKit

/-- a new block of transforms as the laws on slices read it -/
theorem flats_made (w : World) (n m : Nat) (hm : n * 12 = m) (f : Nat → Int) (hf : ∀ i, i < m → I64 (f i)) (cs : Array Value) (hc : cs = ((List.range m).map fun i => Value.int .i64 (f i)).toArray) (hn : n < 1000) :
    Flats 12 w.heap.size (w.heap.size + 1) (w.alloc (.cells cs 29)) (.slice (some ⟨w.heap.size, 0, none⟩) n n) n f := by
  subst hc hm
  refine ⟨_, n, rfl, Nat.le_refl _, by unfold maxLen; omega, fun i hi => ⟨hf i hi, _, 0, rfl, Nat.le_refl _, Nat.lt_succ_self _, ?_⟩⟩
  rw [Nat.zero_add, World.cell?_alloc_at _ _ _ _ rfl]
  simp [hi]
def f4 (q : Nat → Int) (i : Nat) : Int := lst [q 0, q 1, q 2, q 3, q 4, q 5, q 6, q 7, q 8, 0, 0, 0] (i % 12)
def f2 (x y z : Int) (i : Nat) : Int := lst [16, 0, 0, 0, 16, 0, 0, 0, 16, x, y, z, 16, 0, 0, 0, 16, 0, 0, 0, 16, -x, -y, -z] i

set_option maxRecDepth 20000 in
set_option maxHeartbeats 8000000 in
theorem lawXf (v : Value) (n : Nat) (W : World) (hv : Byts W.heap.size W v n) (hcv : Cuts W) (ht : Laid W) :
    Calls Tryz.prog 3 #[v] W fun e w' => e = .returned (.bool true) ∧ Ext W w' := by
  have HT := hid ht
  have HC := hid hcv
  have HV := hid hv
  obtain ⟨a, cap, rfl, k1, k2⟩ := hv.open
  clear hv ht hcv
  by_cases hn : n ≤ 1048576
  · go_enter Tryz.func3, Tryz.ntmps3
    go_wp2_with fail
    refine (MakeVec_any W.heap.size _ n 0 _ HV.out (Nat.le_refl _) hn (by decide)).mono ?_
    rintro e w1 ⟨x, y, z, rfl, hb1, x1⟩
    have y1 : Ext w1 (w1.alloc (.cells #[.int .i64 x, .int .i64 y, .int .i64 z] 24)) := (by repeat (with_reducible (first | assumption | exact Ext.refl _ | apply Ext.alloc | apply Ext.drew | apply Ext.drewN)))
    have E1 := x1.trans y1
    have V1 := Blk.new w1 24 [.int .i64 x, .int .i64 y, .int .i64 z]
    clear x1
    go_upto_region 4 with fail
    go_wp2_with fail
    refine (MakeVec_any W.heap.size _ n 1 _ (HV.out.ext (Nat.le_refl _) E1) E1.size hn (by decide)).mono ?_
    rintro e w2 ⟨wx, wy, wz, rfl, hb2, x2⟩
    have y2 : Ext w2 (w2.alloc (.cells #[.int .i64 wx, .int .i64 wy, .int .i64 wz] 24)) := (by repeat (with_reducible (first | assumption | exact Ext.refl _ | apply Ext.alloc | apply Ext.drew | apply Ext.drewN)))
    have E2 := E1.trans (x2.trans y2)
    have V2 := V1.ext (x2.trans y2)
    have U2 := Blk.new w2 24 [.int .i64 wx, .int .i64 wy, .int .i64 wz]
    obtain ⟨bv, hbv⟩ : ∃ b, w1.heap.size = b := ⟨_, rfl⟩
    rw [hbv] at V2 ⊢
    clear x2 y1 V1 E1 hbv
    go_upto_region 5 with fail
    go_wp2_with fail
    refine (MakeNum_any W.heap.size _ n 3 _ (HV.out.ext (Nat.le_refl _) E2) E2.size hn (by decide)).mono ?_
    rintro e w3 ⟨ax, rfl, ⟨ax0, ax1⟩, x3⟩
    have E3 := E2.trans x3
    have V3' := V2.ext x3
    have U3 := U2.ext x3
    obtain ⟨bu, hbu⟩ : ∃ b, w2.heap.size = b := ⟨_, rfl⟩
    rw [hbu] at U3 ⊢
    clear x3 y2 V2 U2 E2 hbu
    go_upto_region 6 with fail
    obtain ⟨ai, hai⟩ : ∃ i : Nat, ax % 3 = (i : Int) := ⟨(ax % 3).toNat, by omega⟩
    have ha3 : ai < 3 := by omega
    rw [hai]
    have hQ1 := iQuarter_any ai 1 ha3 (by decide)
    have hQ3 := iQuarter_any ai 3 ha3 (by decide)
    have hA1 : ∀ p : V3, p.sm 1000 → (qX (qm ai 1)).app p = turnV ai p := fun p h => turn_app ha3 h
    have hA3 : ∀ p : V3, p.sm 1000 → (qX (qm ai 3)).app p = backV ai p := fun p h => back_app ha3 h
    have hI1 := (qX_small (k := 1) ha3 (by decide)).I
    have hI3 := (qX_small (k := 3) ha3 (by decide)).I
    obtain ⟨q, hq⟩ : ∃ q, qm ai 1 = q := ⟨_, rfl⟩
    obtain ⟨r, hr⟩ : ∃ q, qm ai 3 = q := ⟨_, rfl⟩
    rw [hq] at hQ1 hI1
    simp only [hq] at hA1
    rw [hr] at hQ3 hI3
    simp only [hr] at hA3
    have hsv : (⟨x, y, z⟩ : V3).sm 1000 := hb1
    have t1 := turnV_sm (a := ai) hsv
    have t2 := turnV_sm (a := ai) t1
    have t3 := turnV_sm (a := ai) t2
    have t4 := turn4 ha3 (⟨x, y, z⟩ : V3)
    have hbk := back_turn ha3 (⟨x, y, z⟩ : V3)
    have L4 := hid (show appAll (f4 q) 4 ⟨x, y, z⟩ = ⟨x, y, z⟩ by
      have e : ∀ k, k < 4 → xfAt (f4 q) k = qX q := fun k hk => by rcases (by omega : k = 0 ∨ k = 1 ∨ k = 2 ∨ k = 3) with rfl | rfl | rfl | rfl <;> rfl
      unfold appAll appAll appAll appAll appAll
      rw [e 0 (by decide), e 1 (by decide), e 2 (by decide), e 3 (by decide), hA1 _ hsv, hA1 _ t1, hA1 _ t2, hA1 _ t3, t4])
    have hI4 := hid (show ∀ i, i < 48 → I64 (f4 q i) by
      intro i _
      have h1 : i % 12 < 12 := Nat.mod_lt _ (by decide)
      unfold f4
      rcases (by omega : i % 12 = 0 ∨ i % 12 = 1 ∨ i % 12 = 2 ∨ i % 12 = 3 ∨ i % 12 = 4 ∨ i % 12 = 5 ∨ i % 12 = 6 ∨ i % 12 = 7 ∨ i % 12 = 8 ∨ i % 12 = 9 ∨ i % 12 = 10 ∨ i % 12 = 11) with h | h | h | h | h | h | h | h | h | h | h | h <;> rw [h]
      · exact hI1.1 _ (by simp [Xf.ms, qX, lst])
      · exact hI1.1 _ (by simp [Xf.ms, qX, lst])
      · exact hI1.1 _ (by simp [Xf.ms, qX, lst])
      · exact hI1.1 _ (by simp [Xf.ms, qX, lst])
      · exact hI1.1 _ (by simp [Xf.ms, qX, lst])
      · exact hI1.1 _ (by simp [Xf.ms, qX, lst])
      · exact hI1.1 _ (by simp [Xf.ms, qX, lst])
      · exact hI1.1 _ (by simp [Xf.ms, qX, lst])
      · exact hI1.1 _ (by simp [Xf.ms, qX, lst])
      · exact (show I64 (0 : Int) from ⟨by decide, by decide⟩)
      · exact (show I64 (0 : Int) from ⟨by decide, by decide⟩)
      · exact (show I64 (0 : Int) from ⟨by decide, by decide⟩))
    have L1 := hid (show (qX q).app ⟨x, y, z⟩ = turnV ai ⟨x, y, z⟩ from hA1 _ hsv)
    have L3 := hid (show (qX r).app (turnV ai ⟨x, y, z⟩) = ⟨x, y, z⟩ by rw [hA3 _ t1, hbk])
    have hm1 := move_app (o := ⟨wx, wy, wz⟩) (p := ⟨x, y, z⟩) hb2 (by obtain ⟨⟨_, _⟩, ⟨_, _⟩, ⟨_, _⟩⟩ := hb1; exact ⟨⟨by show -2000 ≤ x; omega, by show x ≤ 2000; omega⟩, ⟨by show -2000 ≤ y; omega, by show y ≤ 2000; omega⟩, ⟨by show -2000 ≤ z; omega, by show z ≤ 2000; omega⟩⟩)
      (by obtain ⟨⟨_, _⟩, ⟨_, _⟩, ⟨_, _⟩⟩ := hb1; obtain ⟨⟨_, _⟩, ⟨_, _⟩, ⟨_, _⟩⟩ := hb2; exact ⟨⟨by show -2000 ≤ x + wx; omega, by show x + wx ≤ 2000; omega⟩, ⟨by show -2000 ≤ y + wy; omega, by show y + wy ≤ 2000; omega⟩, ⟨by show -2000 ≤ z + wz; omega, by show z + wz ≤ 2000; omega⟩⟩)
    have hm2 := move_app (o := ⟨-wx, -wy, -wz⟩) (p := ⟨x + wx, y + wy, z + wz⟩) (by obtain ⟨⟨_, _⟩, ⟨_, _⟩, ⟨_, _⟩⟩ := hb2; exact ⟨⟨by show -1000 ≤ -wx; omega, by show -wx ≤ 1000; omega⟩, ⟨by show -1000 ≤ -wy; omega, by show -wy ≤ 1000; omega⟩, ⟨by show -1000 ≤ -wz; omega, by show -wz ≤ 1000; omega⟩⟩)
      (by obtain ⟨⟨_, _⟩, ⟨_, _⟩, ⟨_, _⟩⟩ := hb1; obtain ⟨⟨_, _⟩, ⟨_, _⟩, ⟨_, _⟩⟩ := hb2; exact ⟨⟨by show -2000 ≤ x + wx; omega, by show x + wx ≤ 2000; omega⟩, ⟨by show -2000 ≤ y + wy; omega, by show y + wy ≤ 2000; omega⟩, ⟨by show -2000 ≤ z + wz; omega, by show z + wz ≤ 2000; omega⟩⟩)
      (by obtain ⟨⟨_, _⟩, ⟨_, _⟩, ⟨_, _⟩⟩ := hb1; exact ⟨⟨by show -2000 ≤ x + wx + -wx; omega, by show x + wx + -wx ≤ 2000; omega⟩, ⟨by show -2000 ≤ y + wy + -wy; omega, by show y + wy + -wy ≤ 2000; omega⟩, ⟨by show -2000 ≤ z + wz + -wz; omega, by show z + wz + -wz ≤ 2000; omega⟩⟩)
    have L2 := hid (show appAll (f2 wx wy wz) 2 ⟨x, y, z⟩ = ⟨x, y, z⟩ by
      have e0 : xfAt (f2 wx wy wz) 0 = tX wx wy wz := rfl
      have e1 : xfAt (f2 wx wy wz) 1 = tX (-wx) (-wy) (-wz) := rfl
      unfold appAll appAll appAll
      rw [e0, e1, hm1, hm2]
      exact V3.eq (by show x + wx + -wx = x; omega) (by show y + wy + -wy = y; omega) (by show z + wz + -wz = z; omega))
    have hm0 := move_app (o := ⟨0, 0, 0⟩) (p := ⟨x, y, z⟩) ⟨by decide, by decide, by decide⟩ (by obtain ⟨⟨_, _⟩, ⟨_, _⟩, ⟨_, _⟩⟩ := hb1; exact ⟨⟨by show -2000 ≤ x; omega, by show x ≤ 2000; omega⟩, ⟨by show -2000 ≤ y; omega, by show y ≤ 2000; omega⟩, ⟨by show -2000 ≤ z; omega, by show z ≤ 2000; omega⟩⟩)
      (by obtain ⟨⟨_, _⟩, ⟨_, _⟩, ⟨_, _⟩⟩ := hb1; exact ⟨⟨by show -2000 ≤ x + 0; omega, by show x + 0 ≤ 2000; omega⟩, ⟨by show -2000 ≤ y + 0; omega, by show y + 0 ≤ 2000; omega⟩, ⟨by show -2000 ≤ z + 0; omega, by show z + 0 ≤ 2000; omega⟩⟩)
    have L0 := hid (show (tX 0 0 0).app ⟨x, y, z⟩ = ⟨x, y, z⟩ by
      rw [hm0]
      exact V3.eq (by show x + 0 = x; omega) (by show y + 0 = y; omega) (by show z + 0 = z; omega))
    have hokw : okVec wx wy wz = true := by
      obtain ⟨⟨_, _⟩, ⟨_, _⟩, ⟨_, _⟩⟩ := hb2
      unfold okVec; simp only [Bool.and_eq_true, inB_iff]; omega
    have hokn : okVec (-wx) (-wy) (-wz) = true := by
      obtain ⟨⟨_, _⟩, ⟨_, _⟩, ⟨_, _⟩⟩ := hb2
      unfold okVec; simp only [Bool.and_eq_true, inB_iff]; omega
    have hI2 := hid (show ∀ i, i < 24 → I64 (f2 wx wy wz i) by
      obtain ⟨⟨_, _⟩, ⟨_, _⟩, ⟨_, _⟩⟩ := hb2
      intro i hi
      unfold f2
      rcases (by omega : i = 0 ∨ i = 1 ∨ i = 2 ∨ i = 3 ∨ i = 4 ∨ i = 5 ∨ i = 6 ∨ i = 7 ∨ i = 8 ∨ i = 9 ∨ i = 10 ∨ i = 11 ∨ i = 12 ∨ i = 13 ∨ i = 14 ∨ i = 15 ∨ i = 16 ∨ i = 17 ∨ i = 18 ∨ i = 19 ∨ i = 20 ∨ i = 21 ∨ i = 22 ∨ i = 23) with h | h | h | h | h | h | h | h | h | h | h | h | h | h | h | h | h | h | h | h | h | h | h | h <;> subst h <;> simp only [lst, List.getD_cons_zero, List.getD_cons_succ] <;> exact I64.mk (by omega) (by omega))
    have HQ1 := hid hQ1
    have HQ3 := hid hQ3
    have HI1 := hid hI1
    have HI3 := hid hI3
    have HI0 := hid (tX_small (x := 0) (y := 0) (z := 0) (by decide) (by decide) (by decide)).I
    have HOW := hid hokw
    have HON := hid hokn
    clear hQ1 hQ3 hA1 hA3 hI1 hI3 hq hr hsv t1 t2 t3 t4 hbk hm0 hm1 hm2 hokw hokn hai ha3
    obtain ⟨tv, htv⟩ : ∃ p, turnV ai ⟨x, y, z⟩ = p := ⟨_, rfl⟩
    rw [htv] at L1 L3
    obtain ⟨px, py, pz⟩ := tv
    clear htv
    go_wp2_with fail
    refine (HQ1.out _).mono ?_
    rintro e w4 ⟨rfl, x4⟩
    unfold xV
    have y4 : Ext w4 (w4.alloc (.cells #[.int .i64 (q 0), .int .i64 (q 1), .int .i64 (q 2), .int .i64 (q 3), .int .i64 (q 4), .int .i64 (q 5), .int .i64 (q 6), .int .i64 (q 7), .int .i64 (q 8), .int .i64 0, .int .i64 0, .int .i64 0] 29)) := (by repeat (with_reducible (first | assumption | exact Ext.refl _ | apply Ext.alloc | apply Ext.drew | apply Ext.drewN)))
    have E4 := E3.trans (x4.trans y4)
    have V4 := V3'.ext (x4.trans y4)
    have U4 := U3.ext (x4.trans y4)
    have Q4 := Blk.new w4 29 [.int .i64 (q 0), .int .i64 (q 1), .int .i64 (q 2), .int .i64 (q 3), .int .i64 (q 4), .int .i64 (q 5), .int .i64 (q 6), .int .i64 (q 7), .int .i64 (q 8), .int .i64 0, .int .i64 0, .int .i64 0]
    clear x4 V3' U3 E3
    go_upto_region 7 with fail
    obtain ⟨bq, hbq⟩ : ∃ b, w4.heap.size = b := ⟨_, rfl⟩
    obtain ⟨w5, hw5⟩ : ∃ X, w4.alloc (.cells #[.int .i64 (q 0), .int .i64 (q 1), .int .i64 (q 2), .int .i64 (q 3), .int .i64 (q 4), .int .i64 (q 5), .int .i64 (q 6), .int .i64 (q 7), .int .i64 (q 8), .int .i64 0, .int .i64 0, .int .i64 0] 29) = X := ⟨_, rfl⟩
    rw [hw5] at E4 V4 U4 Q4
    rw [hbq] at Q4
    rw [hbq, hw5]
    clear hbq hw5 y4
    go_wp2_with fail
    refine (MakeTransform_any W.heap.size _ n _ (HV.out.ext (Nat.le_refl _) E4) E4.size hn).mono ?_
    rintro e w6 ⟨t, rfl, hts, x6⟩
    have HTS := hid hts
    have HEQ := hid (run_eqXf_same t hts.I)
    obtain ⟨tt, htt⟩ : ∃ p, t = p := ⟨_, rfl⟩
    have HTT := hid htt
    rw [htt]
    clear hts htt
    obtain ⟨m0, m1, m2, m3, m4, m5, m6, m7, m8, tx, ty, tz⟩ := tt
    unfold Xf.V
    have y6 : Ext w6 (w6.alloc (.cells #[.int .i64 m0, .int .i64 m1, .int .i64 m2, .int .i64 m3, .int .i64 m4, .int .i64 m5, .int .i64 m6, .int .i64 m7, .int .i64 m8, .int .i64 tx, .int .i64 ty, .int .i64 tz] 29)) := (by repeat (with_reducible (first | assumption | exact Ext.refl _ | apply Ext.alloc | apply Ext.drew | apply Ext.drewN)))
    have E6 := E4.trans (x6.trans y6)
    have V6 := V4.ext (x6.trans y6)
    have U6 := U4.ext (x6.trans y6)
    have Q6 := Q4.ext (x6.trans y6)
    have T6 := Blk.new w6 29 [.int .i64 m0, .int .i64 m1, .int .i64 m2, .int .i64 m3, .int .i64 m4, .int .i64 m5, .int .i64 m6, .int .i64 m7, .int .i64 m8, .int .i64 tx, .int .i64 ty, .int .i64 tz]
    clear x6 V4 U4 Q4 E4
    go_upto_region 8 with fail
    obtain ⟨bt, hbt⟩ : ∃ b, w6.heap.size = b := ⟨_, rfl⟩
    obtain ⟨w7, hw7⟩ : ∃ X, w6.alloc (.cells #[.int .i64 m0, .int .i64 m1, .int .i64 m2, .int .i64 m3, .int .i64 m4, .int .i64 m5, .int .i64 m6, .int .i64 m7, .int .i64 m8, .int .i64 tx, .int .i64 ty, .int .i64 tz] 29) = X := ⟨_, rfl⟩
    rw [hw7] at E6 V6 U6 Q6 T6
    rw [hbt] at T6
    rw [hbt, hw7]
    clear hbt hw7 y6
    have t0 := T6.cell 0 rfl
    have t1 := T6.cell 1 rfl
    have t2 := T6.cell 2 rfl
    have t3 := T6.cell 3 rfl
    have t4 := T6.cell 4 rfl
    have t5 := T6.cell 5 rfl
    have t6 := T6.cell 6 rfl
    have t7 := T6.cell 7 rfl
    have t8 := T6.cell 8 rfl
    have t9 := T6.cell 9 rfl
    have t10 := T6.cell 10 rfl
    have t11 := T6.cell 11 rfl
    have tl := T6.lt
    have hft := hid (fun w (h : Tab w) => (by have h := iFormatTransform_ok t w HTS.out h; rw [HTT.out] at h; exact h : Calls Tryz.prog 9 #[.agg #[.int .i64 m0, .int .i64 m1, .int .i64 m2, .int .i64 m3, .int .i64 m4, .int .i64 m5, .int .i64 m6, .int .i64 m7, .int .i64 m8, .int .i64 tx, .int .i64 ty, .int .i64 tz]] w fun e w' => e = .returned (.string (Xf.text ⟨m0, m1, m2, m3, m4, m5, m6, m7, m8, tx, ty, tz⟩)) ∧ Ext w w'))
    have hpt := hid (fun w (h : Laid w) (hc : Cuts w) => (by have h := iParseTransform_text t w HTS.out h hc; rw [HTT.out] at h; exact h : Calls Tryz.prog 8 #[.string (Xf.text ⟨m0, m1, m2, m3, m4, m5, m6, m7, m8, tx, ty, tz⟩)] w fun e w' => e = .returned (.tuple #[.agg #[.int .i64 m0, .int .i64 m1, .int .i64 m2, .int .i64 m3, .int .i64 m4, .int .i64 m5, .int .i64 m6, .int .i64 m7, .int .i64 m8, .int .i64 tx, .int .i64 ty, .int .i64 tz], .bool true]) ∧ Ext w w'))
    have heq := fun w => (by have h := HEQ.out w; rw [HTT.out] at h; exact h : (binOp .eql 29 (.agg #[.int .i64 m0, .int .i64 m1, .int .i64 m2, .int .i64 m3, .int .i64 m4, .int .i64 m5, .int .i64 m6, .int .i64 m7, .int .i64 m8, .int .i64 tx, .int .i64 ty, .int .i64 tz]) (.agg #[.int .i64 m0, .int .i64 m1, .int .i64 m2, .int .i64 m3, .int .i64 m4, .int .i64 m5, .int .i64 m6, .int .i64 m7, .int .i64 m8, .int .i64 tx, .int .i64 ty, .int .i64 tz])).run Tryz.prog w = .ok (.bool true) w)
    have HE2 := hid heq
    clear heq
    obtain ⟨X, hX⟩ : ∃ X, Xf.text ⟨m0, m1, m2, m3, m4, m5, m6, m7, m8, tx, ty, tz⟩ = X := ⟨_, rfl⟩
    rw [hX] at hft hpt
    clear hX HTS HEQ HTT
    go_wp2_with fail
    refine (hft.out _ (HT.out.1.ext E6)).mono ?_
    rintro e w8 ⟨rfl, x8⟩
    go_wp2_with fail
    refine (hpt.out _ (HT.out.ext (E6.trans x8)) (HC.out.ext (E6.trans x8))).mono ?_
    rintro e w9 ⟨rfl, x9⟩
    have y9 : Ext w9 (w9.alloc (.cells #[.int .i64 m0, .int .i64 m1, .int .i64 m2, .int .i64 m3, .int .i64 m4, .int .i64 m5, .int .i64 m6, .int .i64 m7, .int .i64 m8, .int .i64 tx, .int .i64 ty, .int .i64 tz] 29)) := (by repeat (with_reducible (first | assumption | exact Ext.refl _ | apply Ext.alloc | apply Ext.drew | apply Ext.drewN)))
    have x89 := (x8.trans x9).trans y9
    have E9 := E6.trans x89
    have V9 := V6.ext x89
    have U9 := U6.ext x89
    have Q9 := Q6.ext x89
    have T9 := T6.ext x89
    have X9 := Blk.new w9 29 [.int .i64 m0, .int .i64 m1, .int .i64 m2, .int .i64 m3, .int .i64 m4, .int .i64 m5, .int .i64 m6, .int .i64 m7, .int .i64 m8, .int .i64 tx, .int .i64 ty, .int .i64 tz]
    clear x8 x9 x89 V6 U6 Q6 T6 E6 tl t0 t1 t2 t3 t4 t5 t6 t7 t8 t9 t10 t11
    go_upto_region 9 with fail
    obtain ⟨bx, hbx⟩ : ∃ b, w9.heap.size = b := ⟨_, rfl⟩
    obtain ⟨w10, hw10⟩ : ∃ X, w9.alloc (.cells #[.int .i64 m0, .int .i64 m1, .int .i64 m2, .int .i64 m3, .int .i64 m4, .int .i64 m5, .int .i64 m6, .int .i64 m7, .int .i64 m8, .int .i64 tx, .int .i64 ty, .int .i64 tz] 29) = X := ⟨_, rfl⟩
    rw [hw10] at E9 V9 U9 Q9 T9 X9
    rw [hbx] at X9
    rw [hbx, hw10]
    clear hbx hw10 y9
    have u0 := U9.cell 0 rfl
    have u1 := U9.cell 1 rfl
    have u2 := U9.cell 2 rfl
    have ul := U9.lt
    go_wp2_with fail
    refine (iSubNil_val HOW.out _).mono ?_
    rintro e w11 ⟨rfl, x11⟩
    have y11 : Ext w11 (w11.alloc (.cells #[.int .i64 (-wx), .int .i64 (-wy), .int .i64 (-wz)] 24)) := (by repeat (with_reducible (first | assumption | exact Ext.refl _ | apply Ext.alloc | apply Ext.drew | apply Ext.drewN)))
    have E11 := E9.trans (x11.trans y11)
    have V11 := V9.ext (x11.trans y11)
    have U11 := U9.ext (x11.trans y11)
    have Q11 := Q9.ext (x11.trans y11)
    have T11 := T9.ext (x11.trans y11)
    have X11 := X9.ext (x11.trans y11)
    have B11 := Blk.new w11 24 [.int .i64 (-wx), .int .i64 (-wy), .int .i64 (-wz)]
    clear x11 V9 U9 Q9 T9 X9 E9 u0 u1 u2 ul
    go_upto_region 10 with fail
    obtain ⟨bb, hbb⟩ : ∃ b, w11.heap.size = b := ⟨_, rfl⟩
    obtain ⟨w12, hw12⟩ : ∃ X, w11.alloc (.cells #[.int .i64 (-wx), .int .i64 (-wy), .int .i64 (-wz)] 24) = X := ⟨_, rfl⟩
    rw [hw12] at E11 V11 U11 Q11 T11 X11 B11
    rw [hbb] at B11
    rw [hbb, hw12]
    clear hbb hw12 y11
    have v0 := V11.cell 0 rfl
    have v1 := V11.cell 1 rfl
    have v2 := V11.cell 2 rfl
    have vl := V11.lt
    have u0 := U11.cell 0 rfl
    have u1 := U11.cell 1 rfl
    have u2 := U11.cell 2 rfl
    have ul := U11.lt
    have b0 := B11.cell 0 rfl
    have b1 := B11.cell 1 rfl
    have b2 := B11.cell 2 rfl
    have bl := B11.lt
    have q0 := Q11.cell 0 rfl
    have q1 := Q11.cell 1 rfl
    have q2 := Q11.cell 2 rfl
    have q3 := Q11.cell 3 rfl
    have q4 := Q11.cell 4 rfl
    have q5 := Q11.cell 5 rfl
    have q6 := Q11.cell 6 rfl
    have q7 := Q11.cell 7 rfl
    have q8 := Q11.cell 8 rfl
    have q9 := Q11.cell 9 rfl
    have q10 := Q11.cell 10 rfl
    have q11 := Q11.cell 11 rfl
    have ql := Q11.lt
    have t0 := T11.cell 0 rfl
    have t1 := T11.cell 1 rfl
    have t2 := T11.cell 2 rfl
    have t3 := T11.cell 3 rfl
    have t4 := T11.cell 4 rfl
    have t5 := T11.cell 5 rfl
    have t6 := T11.cell 6 rfl
    have t7 := T11.cell 7 rfl
    have t8 := T11.cell 8 rfl
    have t9 := T11.cell 9 rfl
    have t10 := T11.cell 10 rfl
    have t11 := T11.cell 11 rfl
    have tl := T11.lt
    have c0 := X11.cell 0 rfl
    have c1 := X11.cell 1 rfl
    have c2 := X11.cell 2 rfl
    have c3 := X11.cell 3 rfl
    have c4 := X11.cell 4 rfl
    have c5 := X11.cell 5 rfl
    have c6 := X11.cell 6 rfl
    have c7 := X11.cell 7 rfl
    have c8 := X11.cell 8 rfl
    have c9 := X11.cell 9 rfl
    have c10 := X11.cell 10 rfl
    have c11 := X11.cell 11 rfl
    have cl := X11.lt
    have heq := HE2.out
    have hev := fun w => (by have h := run_eqVec x y z x y z w; simpa using h : (binOp .eql 24 (.agg #[.int .i64 x, .int .i64 y, .int .i64 z]) (.agg #[.int .i64 x, .int .i64 y, .int .i64 z])).run Tryz.prog w = .ok (.bool true) w)
    clear V11 U11 Q11 T11 X11 B11 hft hpt
    refine wp_region_stages [([0, 1, 2, 3, 4, 5, 6, 7, 8, 9, 10, 12, 14], 11), ([], 13), ([15, 16, 17, 18, 20, 21, 24], 19), ([], 22), ([], 23), ([25, 26, 27, 28, 30, 33, 35], 29), ([], 31), ([], 32), ([], 34), ([36, 37, 38, 40, 42], 39), ([], 41), ([43, 44], 45)] 99 w12.heap.size (by kernel_rfl) (by kernel_rfl) ?_
    refine wpStages_cons ?_
    simp only [List.filterMap_cons, List.filterMap_nil, List.getElem?_toArray, List.getElem?_cons_zero, List.getElem?_cons_succ]
    show wpQuiet _ _ _ _ [_, _, _, _, _, _, _, _, _, _, _, _, _] _
    try simp only [Act.put, List.getElem_toArray, List.getElem_cons_succ, List.getElem_cons_zero, List.setIfInBounds_toArray, List.set_cons_succ, List.set_cons_zero]
    repeat (go_big_quiet_step (fail))
    refine wpQuiet_nil ⟨_, rfl, fun K hK => ?_⟩
    go_wp2_with fail
    have y13 : Ext w12 (w12.alloc (.cells #[.int .i64 (q 0), .int .i64 (q 1), .int .i64 (q 2), .int .i64 (q 3), .int .i64 (q 4), .int .i64 (q 5), .int .i64 (q 6), .int .i64 (q 7), .int .i64 (q 8), .int .i64 0, .int .i64 0, .int .i64 0, .int .i64 (q 0), .int .i64 (q 1), .int .i64 (q 2), .int .i64 (q 3), .int .i64 (q 4), .int .i64 (q 5), .int .i64 (q 6), .int .i64 (q 7), .int .i64 (q 8), .int .i64 0, .int .i64 0, .int .i64 0, .int .i64 (q 0), .int .i64 (q 1), .int .i64 (q 2), .int .i64 (q 3), .int .i64 (q 4), .int .i64 (q 5), .int .i64 (q 6), .int .i64 (q 7), .int .i64 (q 8), .int .i64 0, .int .i64 0, .int .i64 0, .int .i64 (q 0), .int .i64 (q 1), .int .i64 (q 2), .int .i64 (q 3), .int .i64 (q 4), .int .i64 (q 5), .int .i64 (q 6), .int .i64 (q 7), .int .i64 (q 8), .int .i64 0, .int .i64 0, .int .i64 0] 29)).drew := (by repeat (with_reducible (first | assumption | exact Ext.refl _ | apply Ext.alloc | apply Ext.drew | apply Ext.drewN)))
    refine hK _ _ (.inr (y13.same (Nat.le_refl _))) ?_
    clear hK K
    have F13 := flats_made w12.drew 4 48 rfl (f4 q) hI4.out #[.int .i64 (q 0), .int .i64 (q 1), .int .i64 (q 2), .int .i64 (q 3), .int .i64 (q 4), .int .i64 (q 5), .int .i64 (q 6), .int .i64 (q 7), .int .i64 (q 8), .int .i64 0, .int .i64 0, .int .i64 0, .int .i64 (q 0), .int .i64 (q 1), .int .i64 (q 2), .int .i64 (q 3), .int .i64 (q 4), .int .i64 (q 5), .int .i64 (q 6), .int .i64 (q 7), .int .i64 (q 8), .int .i64 0, .int .i64 0, .int .i64 0, .int .i64 (q 0), .int .i64 (q 1), .int .i64 (q 2), .int .i64 (q 3), .int .i64 (q 4), .int .i64 (q 5), .int .i64 (q 6), .int .i64 (q 7), .int .i64 (q 8), .int .i64 0, .int .i64 0, .int .i64 0, .int .i64 (q 0), .int .i64 (q 1), .int .i64 (q 2), .int .i64 (q 3), .int .i64 (q 4), .int .i64 (q 5), .int .i64 (q 6), .int .i64 (q 7), .int .i64 (q 8), .int .i64 0, .int .i64 0, .int .i64 0] (by rfl) (by decide)
    have HF13 := hid F13
    clear F13
    refine wpStages_cons ?_
    simp only [List.filterMap_nil]
    show wpQuiet _ _ _ _ [] _
    try simp only [Act.put, List.getElem_toArray, List.getElem_cons_succ, List.getElem_cons_zero, List.setIfInBounds_toArray, List.set_cons_succ, List.set_cons_zero]
    refine wpQuiet_nil ⟨_, rfl, fun K hK => ?_⟩
    go_wp2_with fail
    refine (iApplyAll_val _ _ _ 4 (f4 q) ⟨x, y, z⟩ ⟨x, y, z⟩ L4.out _ HF13.out (by simp)).mono ?_
    rintro e w14 ⟨rfl, x14⟩
    unfold V3.V
    have y14 := y13.trans x14
    go_wp2_with fail
    refine hK _ _ (.inr (y14.same (Nat.le_refl _))) ?_
    clear hK K
    refine wpStages_cons ?_
    simp only [List.filterMap_cons, List.filterMap_nil, List.getElem?_toArray, List.getElem?_cons_zero, List.getElem?_cons_succ]
    show wpQuiet _ _ _ _ [_, _, _, _, _, _, _] _
    try simp only [Act.put, List.getElem_toArray, List.getElem_cons_succ, List.getElem_cons_zero, List.setIfInBounds_toArray, List.set_cons_succ, List.set_cons_zero]
    repeat (go_big_quiet_step (fail))
    refine wpQuiet_nil ⟨_, rfl, fun K hK => ?_⟩
    go_wp2_with fail
    refine (HQ3.out _).mono ?_
    rintro e w15 ⟨rfl, x15⟩
    have y15 := y14.trans x15
    go_wp2_with fail
    refine hK _ _ (.inr (y15.same (Nat.le_refl _))) ?_
    clear hK K
    refine wpStages_cons ?_
    simp only [List.filterMap_nil]
    show wpQuiet _ _ _ _ [] _
    try simp only [Act.put, List.getElem_toArray, List.getElem_cons_succ, List.getElem_cons_zero, List.setIfInBounds_toArray, List.set_cons_succ, List.set_cons_zero]
    refine wpQuiet_nil ⟨_, rfl, fun K hK => ?_⟩
    go_wp2_with fail
    refine (iApply_val (p := ⟨x, y, z⟩) L1.out HI1.out _).mono ?_
    rintro e w16 ⟨rfl, x16⟩
    unfold V3.V
    have y16 := y15.trans x16
    go_wp2_with fail
    refine hK _ _ (.inr (y16.same (Nat.le_refl _))) ?_
    clear hK K
    refine wpStages_cons ?_
    simp only [List.filterMap_nil]
    show wpQuiet _ _ _ _ [] _
    try simp only [Act.put, List.getElem_toArray, List.getElem_cons_succ, List.getElem_cons_zero, List.setIfInBounds_toArray, List.set_cons_succ, List.set_cons_zero]
    refine wpQuiet_nil ⟨_, rfl, fun K hK => ?_⟩
    go_wp2_with fail
    refine (iApply_val (p := ⟨px, py, pz⟩) L3.out HI3.out _).mono ?_
    rintro e w17 ⟨rfl, x17⟩
    unfold V3.V
    have y17 := y16.trans x17
    go_wp2_with fail
    refine hK _ _ (.inr (y17.same (Nat.le_refl _))) ?_
    clear hK K
    refine wpStages_cons ?_
    simp only [List.filterMap_cons, List.filterMap_nil, List.getElem?_toArray, List.getElem?_cons_zero, List.getElem?_cons_succ]
    show wpQuiet _ _ _ _ [_, _, _, _, _, _, _] _
    try simp only [Act.put, List.getElem_toArray, List.getElem_cons_succ, List.getElem_cons_zero, List.setIfInBounds_toArray, List.set_cons_succ, List.set_cons_zero]
    repeat (go_big_quiet_step (fail))
    refine wpQuiet_nil ⟨_, rfl, fun K hK => ?_⟩
    go_wp2_with fail
    refine (iTranslation_val wx wy wz HOW.out _).mono ?_
    rintro e w18 ⟨rfl, x18⟩
    have y18 := y17.trans x18
    go_wp2_with fail
    refine hK _ _ (.inr (y18.same (Nat.le_refl _))) ?_
    clear hK K
    refine wpStages_cons ?_
    simp only [List.filterMap_nil]
    show wpQuiet _ _ _ _ [] _
    try simp only [Act.put, List.getElem_toArray, List.getElem_cons_succ, List.getElem_cons_zero, List.setIfInBounds_toArray, List.set_cons_succ, List.set_cons_zero]
    refine wpQuiet_nil ⟨_, rfl, fun K hK => ?_⟩
    go_wp2_with fail
    refine (iTranslation_val (-wx) (-wy) (-wz) HON.out _).mono ?_
    rintro e w19 ⟨rfl, x19⟩
    have y19 := y18.trans x19
    go_wp2_with fail
    refine hK _ _ (.inr (y19.same (Nat.le_refl _))) ?_
    clear hK K
    refine wpStages_cons ?_
    simp only [List.filterMap_nil]
    show wpQuiet _ _ _ _ [] _
    try simp only [Act.put, List.getElem_toArray, List.getElem_cons_succ, List.getElem_cons_zero, List.setIfInBounds_toArray, List.set_cons_succ, List.set_cons_zero]
    refine wpQuiet_nil ⟨_, rfl, fun K hK => ?_⟩
    go_wp2_with fail
    have y20 : Ext w12 (w19.alloc (.cells #[.int .i64 16, .int .i64 0, .int .i64 0, .int .i64 0, .int .i64 16, .int .i64 0, .int .i64 0, .int .i64 0, .int .i64 16, .int .i64 wx, .int .i64 wy, .int .i64 wz, .int .i64 16, .int .i64 0, .int .i64 0, .int .i64 0, .int .i64 16, .int .i64 0, .int .i64 0, .int .i64 0, .int .i64 16, .int .i64 (-wx), .int .i64 (-wy), .int .i64 (-wz)] 29)) := y19.alloc _
    refine hK _ _ (.inr (y20.same (Nat.le_refl _))) ?_
    clear hK K
    have F20 := flats_made w19 2 24 rfl (f2 wx wy wz) hI2.out #[.int .i64 16, .int .i64 0, .int .i64 0, .int .i64 0, .int .i64 16, .int .i64 0, .int .i64 0, .int .i64 0, .int .i64 16, .int .i64 wx, .int .i64 wy, .int .i64 wz, .int .i64 16, .int .i64 0, .int .i64 0, .int .i64 0, .int .i64 16, .int .i64 0, .int .i64 0, .int .i64 0, .int .i64 16, .int .i64 (-wx), .int .i64 (-wy), .int .i64 (-wz)] (by rfl) (by decide)
    have HF20 := hid F20
    clear F20
    refine wpStages_cons ?_
    simp only [List.filterMap_nil]
    show wpQuiet _ _ _ _ [] _
    try simp only [Act.put, List.getElem_toArray, List.getElem_cons_succ, List.getElem_cons_zero, List.setIfInBounds_toArray, List.set_cons_succ, List.set_cons_zero]
    refine wpQuiet_nil ⟨_, rfl, fun K hK => ?_⟩
    go_wp2_with fail
    refine (iApplyAll_val _ _ _ 2 (f2 wx wy wz) ⟨x, y, z⟩ ⟨x, y, z⟩ L2.out _ HF20.out (by simp)).mono ?_
    rintro e w21 ⟨rfl, x21⟩
    unfold V3.V
    have y21 := y20.trans x21
    go_wp2_with fail
    refine hK _ _ (.inr (y21.same (Nat.le_refl _))) ?_
    clear hK K
    refine wpStages_cons ?_
    simp only [List.filterMap_cons, List.filterMap_nil, List.getElem?_toArray, List.getElem?_cons_zero, List.getElem?_cons_succ]
    show wpQuiet _ _ _ _ [_, _, _, _, _] _
    try simp only [Act.put, List.getElem_toArray, List.getElem_cons_succ, List.getElem_cons_zero, List.setIfInBounds_toArray, List.set_cons_succ, List.set_cons_zero]
    repeat (go_big_quiet_step (fail))
    refine wpQuiet_nil ⟨_, rfl, fun K hK => ?_⟩
    go_wp2_with fail
    refine (iIdentity_val _).mono ?_
    rintro e w22 ⟨rfl, x22⟩
    have y22 := y21.trans x22
    go_wp2_with fail
    refine hK _ _ (.inr (y22.same (Nat.le_refl _))) ?_
    clear hK K
    refine wpStages_cons ?_
    simp only [List.filterMap_nil]
    show wpQuiet _ _ _ _ [] _
    try simp only [Act.put, List.getElem_toArray, List.getElem_cons_succ, List.getElem_cons_zero, List.setIfInBounds_toArray, List.set_cons_succ, List.set_cons_zero]
    refine wpQuiet_nil ⟨_, rfl, fun K hK => ?_⟩
    go_wp2_with fail
    refine (iApply_val (p := ⟨x, y, z⟩) L0.out HI0.out _).mono ?_
    rintro e w23 ⟨rfl, x23⟩
    unfold V3.V
    have y23 := y22.trans x23
    go_wp2_with fail
    refine hK _ _ (.inr (y23.same (Nat.le_refl _))) ?_
    clear hK K
    refine wpStages_cons ?_
    simp only [List.filterMap_cons, List.filterMap_nil, List.getElem?_toArray, List.getElem?_cons_zero, List.getElem?_cons_succ]
    show wpQuiet _ _ _ _ [_, _] _
    try simp only [Act.put, List.getElem_toArray, List.getElem_cons_succ, List.getElem_cons_zero, List.setIfInBounds_toArray, List.set_cons_succ, List.set_cons_zero]
    repeat (go_big_quiet_step (fail))
    refine wpQuiet_nil ⟨_, rfl, fun K hK => ?_⟩
    go_wp2_with fail
    refine hK _ _ (.inr (y23.same (Nat.le_refl _))) ?_
    clear hK K
    refine wpStages_nil ?_
    go_wp2_with fail
    go_ret
    exact ⟨rfl, E11.trans y23⟩
  · go_enter Tryz.func3, Tryz.ntmps3
    go_wp2
    go_ret
    exact ⟨rfl, Ext.refl _⟩
end Go.Proofs.YtkcghoeklbcihaaGreatDoor
end

section
/- This text reads the laws' arguments off the data that the row speaks of: integers, slices of integers, textures. -/
namespace Go.Proofs.YtkcghoeklbcihaaGreatDoor
open Go.ChangeShapes Go.WideShapes Go.ChangeAt Go.RowKit

theorem laidOut : laidOutB Tryz.prog = true := by kernel_rfl

section
variable {H : Type} {enc : TypeId × Value → H} {W : World} {base b0 : Nat} {sp : Nat → Bool} {held : Bool}

theorem wf_I64 {n : Int} (h : (Lit.int .i64 n).wf = true) : I64 n := by
  simp [Lit.wf, IntKind.min, IntKind.max, IntKind.signed, IntKind.bits] at h
  exact ⟨by omega, by omega⟩
set_option maxRecDepth 100000 in
theorem argInt {v : Value} {d : DataW H} {p : List MemPlace} (hv : Value.okWide Tryz.prog W .any b0 3 v) (h : DataW.Trod enc Tryz.prog W base sp held 3 v d p) : ∃ n, v = .int .i64 n ∧ I64 n := by
  obtain ⟨n, rfl, _, _, hw⟩ := open_int Tryz.underlying3 hv h
  exact ⟨n, rfl, wf_I64 hw⟩
set_option maxRecDepth 100000 in
/-- what lies behind the cell of a slice of integers -/
theorem cellInts {fuel : Nat} {c : Value} {y : DataW H × List MemPlace} (h : DataW.trod enc Tryz.prog W base sp held fuel 54 [c] = some y) : ∃ xs, Ints 0 W.heap.size W c xs := by
  rcases open_ints Tryz.underlying54 Tryz.underlying3 (by kernel_rfl) h with ⟨hcs, _⟩ | ⟨a, len, cap, zs, hcs, _, hl, hm, hz, _, hcell, hwz⟩
  · obtain rfl : c = .slice none 0 0 := by simpa using hcs
    exact ⟨[], none, 0, rfl, Nat.le_refl _, by unfold maxLen; omega, fun i x hx => by simp at hx⟩
  · obtain rfl : c = .slice (some a) len cap := by simpa using hcs
    have hlen : (zs.take len).length = len := by
      rw [List.length_take, hz]
      split <;> omega
    refine ⟨zs.take len, some a, cap, by rw [hlen], by omega, hm, fun i x hx => ?_⟩
    have hi : i < len := by have := (List.getElem?_eq_some_iff.1 hx).1; omega
    rw [List.getElem?_take, if_pos hi] at hx
    have hzi := (List.getElem?_eq_some_iff.1 hx).1
    have hxx : zs.getD i 0 = x := by simp [List.getD, hx]
    obtain ⟨b, o, s⟩ := a
    obtain rfl : s = none := by
      cases s with
      | none => rfl
      | some s =>
        have h0 := hcell 0 (by omega)
        simp only [World.cell?, Addr.add, if_true] at h0
        split at h0 <;> simp at h0
    have hc := hcell i hzi
    rw [hxx] at hc
    have ha : (⟨b, o, none⟩ : Addr).add i = ⟨b, o + i, none⟩ := by
      unfold Addr.add
      split
      · rename_i e; subst e; rfl
      · rfl
    rw [ha] at hc
    refine ⟨wf_I64 (hwz x (List.mem_of_getElem? hx)), b, o, rfl, Nat.zero_le _, ?_, hc⟩
    simp only [World.cell?] at hc
    split at hc
    · rename_i e; exact (Array.getElem?_eq_some_iff.1 e).1
    · cases hc
end

end Go.Proofs.YtkcghoeklbcihaaGreatDoor
end

section
/- This text reads the two sentinel errors of strconv out of what a card lists, and arguments that are strings. -/
namespace Go.Proofs.YtkcghoeklbcihaaGreatDoor
open Go.ChangeShapes Go.WideShapes Go.ChangeAt Go.RowKit

theorem starErr : "*" ++ "errors.errorString" = "*errors.errorString" := by decide
theorem rowErr (u : TypeId) (h : Tryz.prog.typeName? 3 u = some "*errors.errorString") : u = 122 :=
  typeName_ptr_named (nm := "errors.errorString") (by rw [starErr]; kernel_rfl) (by kernel_rfl) (by decide) u (by rw [starErr]; exact h)
theorem cellsErr : Tryz.prog.cellsOf 124 = 1 := by kernel_rfl
theorem cellsStr : Tryz.prog.cellsOf 9 = 1 := by kernel_rfl
theorem globRan : Tryz.prog.globalNamed "strconv.ErrRange" = some 2 := by kernel_rfl
theorem globSyn : Tryz.prog.globalNamed "strconv.ErrSyntax" = some 1 := by kernel_rfl
theorem typeRan : (Tryz.prog.globals[2]?).map (·.type) = some 87 := by kernel_rfl
theorem typeSyn : (Tryz.prog.globals[1]?).map (·.type) = some 87 := by kernel_rfl
theorem errs_of {r : List (String × DataW Unit)} {W : World} (h : laidMet Tryz.prog (("strconv.ErrRange", Rows.laid_strconv_ErrRange) :: ("strconv.ErrSyntax", Rows.laid_strconv_ErrSyntax) :: r) W) : Errs W := by
  obtain ⟨a0, s0, hv0, -, -, -⟩ := laid_sentinel h globRan typeRan Tryz.underlying87 rowErr Tryz.underlying122 Tryz.underlying124 rfl rfl Tryz.underlying9 cellsErr cellsStr
  obtain ⟨a1, s1, hv1, -, -, -⟩ := laid_sentinel h.tail globSyn typeSyn Tryz.underlying87 rowErr Tryz.underlying122 Tryz.underlying124 rfl rfl Tryz.underlying9 cellsErr cellsStr
  exact ⟨⟨_, _, hv1⟩, _, _, hv0⟩
section
variable {H : Type} {enc : TypeId × Value → H} {W : World} {base b0 : Nat} {sp : Nat → Bool} {held : Bool}
set_option maxRecDepth 100000 in
theorem argStr {v : Value} {d : DataW H} {p : List MemPlace} (hv : Value.okWide Tryz.prog W .any b0 9 v) (h : DataW.Trod enc Tryz.prog W base sp held 9 v d p) :
    ∃ s : ByteArray, v = .string s ∧ s.size ≤ maxLen := by
  obtain ⟨s, rfl, _, _, hs⟩ := Go.ChangeMaps.open_string Tryz.underlying9 hv h
  exact ⟨s, rfl, hs⟩
end
end Go.Proofs.YtkcghoeklbcihaaGreatDoor
end

section
/- This text reads the laws' arguments that are slices of bytes. -/
namespace Go.Proofs.YtkcghoeklbcihaaGreatDoor
open Go.ChangeShapes Go.WideShapes Go.ChangeAt Go.RowKit
section
variable {H : Type} {enc : TypeId × Value → H} {W : World} {base b0 : Nat} {sp : Nat → Bool} {held : Bool}

theorem wf_U8 {n : Int} (h : (Lit.int .u8 n).wf = true) : 0 ≤ n ∧ n ≤ 255 := by
  simp [Lit.wf, IntKind.min, IntKind.max, IntKind.signed, IntKind.bits] at h
  omega
set_option maxRecDepth 100000 in
theorem cellByts {fuel : Nat} {c : Value} {y : DataW H × List MemPlace} (h : DataW.trod enc Tryz.prog W base sp held fuel 22 [c] = some y) : ∃ n, Byts W.heap.size W c n := by
  rcases open_ints Tryz.underlying22 Tryz.underlying5 (by kernel_rfl) h with ⟨hcs, _⟩ | ⟨a, len, cap, zs, hcs, _, hl, hm, hz, _, hcell, hwz⟩
  · obtain rfl : c = .slice none 0 0 := by simpa using hcs
    exact ⟨0, none, 0, rfl, Nat.le_refl _, by unfold maxLen; omega, fun i hx => by omega⟩
  · obtain rfl : c = .slice (some a) len cap := by simpa using hcs
    refine ⟨len, some a, cap, rfl, by omega, hm, fun i hi => ?_⟩
    have hlz : len ≤ zs.length := by rw [hz]; split <;> omega
    have hzi : i < zs.length := by omega
    obtain ⟨b, o, s⟩ := a
    obtain rfl : s = none := by
      cases s with
      | none => rfl
      | some s =>
        have h0 := hcell 0 (by omega)
        simp only [World.cell?, Addr.add, if_true] at h0
        split at h0 <;> simp at h0
    have hc := hcell i hzi
    have ha : (⟨b, o, none⟩ : Addr).add i = ⟨b, o + i, none⟩ := by
      unfold Addr.add
      split
      · rename_i e; subst e; rfl
      · rfl
    rw [ha] at hc
    have hw := wf_U8 (hwz (zs.getD i 0) (by rw [List.getD_eq_getElem?_getD, List.getElem?_eq_getElem hzi]; exact List.getElem_mem hzi))
    refine ⟨b, o, zs.getD i 0, rfl, ?_, hw.1, hw.2, hc⟩
    simp only [World.cell?] at hc
    split at hc
    · rename_i e; exact (Array.getElem?_eq_some_iff.1 e).1
    · cases hc
set_option maxRecDepth 100000 in
theorem argByts {v : Value} {d : DataW H} {p : List MemPlace} (hv : Value.okWide Tryz.prog W .any b0 22 v) (h : DataW.Trod enc Tryz.prog W base sp held 22 v d p) : ∃ n, Byts W.heap.size W v n := by
  obtain ⟨a, len, cap, rfl⟩ := okWide_slice Tryz.underlying22 hv
  obtain ⟨fuel, hf⟩ := h
  exact cellByts hf
end
end Go.Proofs.YtkcghoeklbcihaaGreatDoor
end

section
/- This text reads the laws' arguments that are slices of bytes, beside the tables of the library. -/
end

section
/- This text hands a law's walk both what its card lists and the shape of the world, and reads the variable of strings.Cut out of the shape. -/
namespace Go.Proofs.YtkcghoeklbcihaaGreatDoor
open Go.ChangeShapes Go.WideShapes Go.ChangeAt Go.RowKit

theorem cuts_of {W : World} (h : W.ShapedOpen Tryz.prog) : Cuts W := Tryz.laysM145.s1_3 W h

section
variable {H : Type} {enc : TypeId × Value → H}
theorem handed_shaped {a : Assume} {C : Checked} {os : Os} {f : FuncId} {fn : Func} {s : ChangeSpec} {conds : List PathCond} {apart fresh handsOn again : Bool} {X : World → Array Value → Prop}
    (hX : ∀ (w w' : World) (args : Array Value), w.heap = w'.heap → X w args → X w' args) (own : ownKnob C.prog.godebug = none) (started : os.Started) (noInit : C.prog.inits.idxOf? f = none) (hfn : C.prog.funcs[f]? = some fn)
    (wit : ∃ (w : World) (tape : Tape) (i : Input), w.os = os ∧ (w.forCall tape i).Shaped C.prog ∧ i.vars = [] ∧ Input.okWide C.prog (w.forCall tape i) .any w.heap.size f i ∧
      ((s.pre enc C.prog fn conds apart (w.forCall tape i).memory i.args ∧ X (w.forCall tape i).memory i.args) ∧ sizedMet enc C.prog fn (OpenSpec.ofChange s) apart (w.forCall tape i).memory i.args) ∧ a.holds C.prog (lone (Frame.enter C.prog f i.args .normal) [] (w.forCall tape i)))
    (walk : ∀ (W : World) (base : Nat) (args : Array Value) (ds gs : List (DataW H)) (before : List MemPlace), (∀ (j : Nat) t v, fn.params[j]? = some t → args[j]? = some v → Value.okWide C.prog W .any base t v) →
      DataW.Whole enc C.prog fn.params.toList s.vars apart W args.toList ds gs before → W.ShapedOpen C.prog → X W args →
      Calls C.prog f args W fun e W' => ∃ v, e = .returned v ∧ s.post enc C.prog fn apart fresh handsOn again W args v W') :
    ReturnsInHanded a C os f .any (fun w args => (s.pre enc C.prog fn conds apart w args ∧ X w args) ∧ sizedMet enc C.prog fn (OpenSpec.ofChange s) apart w args) (s.post enc C.prog fn apart fresh handsOn again) := by
  refine returnsInHanded_of_calls own started noInit wit fun w tape i _ hsh _ hok hpre _ => ?_
  obtain ⟨_, _, _, fn', h1, _, _, _, _, hval⟩ := hok
  obtain rfl : fn' = fn := Option.some.inj (h1.symm.trans hfn)
  obtain ⟨⟨⟨ds, gs, before, hw, _⟩, hx⟩, _⟩ := hpre
  refine (walk (w.forCall tape i) w.heap.size i.args ds gs before hval (DataW.Whole.of_heap (w' := w.forCall tape i) (by rfl) hw) hsh (hX _ _ _ (by rfl) hx)).mono ?_
  rintro e W' ⟨v, rfl, hp⟩
  exact ChangeSpec.post_blind hp
end
end Go.Proofs.YtkcghoeklbcihaaGreatDoor
end

section
/- This text lifts the walk of FnTransforms to the given card: the tables that the row lists lie as the text of the library lays them (the given tie). -/
namespace Go.Proofs.YtkcghoeklbcihaaGreatDoor.fnTransforms
open Go.ChangeShapes Go.WideShapes Go.ChangeAt Go.RowKit
set_option linter.unusedVariables false

theorem own : ownKnob Tryz.prog.godebug = none := by kernel_rfl
theorem laid : laidOutB Tryz.prog = true := by kernel_rfl

def laidL : List (String × DataW Unit) := [("math/bits.deBruijn32tab", Rows.laid_math_bits_deBruijn32tab), ("math/bits.deBruijn64tab", Rows.laid_math_bits_deBruijn64tab), ("internal/strconv.uint64pow10", Rows.laid_internal_strconv_uint64pow10), ("strconv.ErrRange", Rows.laid_strconv_ErrRange), ("strconv.ErrSyntax", Rows.laid_strconv_ErrSyntax)]
theorem door_met (os : Os) (args : Array Value) : laidMetH Tryz.prog laidL ((World.doorLaid Tryz.prog 400 os).forCall (fun _ _ => 0) ⟨#[], args, []⟩).memory :=
  laidMetH_of_parts3 (fuel := 8) (laidMet_of_run' 8 (by kernel_rfl) (by kernel_rfl)) (by kernel_rfl) (by kernel_rfl)
theorem tab_of {W : World} (h : laidMetH Tryz.prog laidL W) : Tab W := by
  rw [MakeChecks.laidMetH_plain _ _ _ (by kernel_rfl)] at h
  exact Lib.tabIs_of_head (rest := [("strconv.ErrRange", Rows.laid_strconv_ErrRange), ("strconv.ErrSyntax", Rows.laid_strconv_ErrSyntax)]) (t := 126) (e := 107) (n := 20) (g := 3) (by kernel_rfl) (by kernel_rfl) Tryz.underlying126 Tryz.underlying107 (by kernel_rfl) (by kernel_rfl) (show laidMet Tryz.prog _ W from h.tail.tail)
theorem laid_of {W : World} (h : laidMetH Tryz.prog laidL W) : Laid W := by
  have hT := tab_of h
  rw [MakeChecks.laidMetH_plain _ _ _ (by kernel_rfl)] at h
  exact ⟨hT, errs_of (show laidMet Tryz.prog _ W from h.tail.tail.tail)⟩

set_option maxRecDepth 100000 in
theorem lifted (os : Os) (started : os.Started) (H : Type) (enc : TypeId × Value → H) :
    ReturnsInHanded {} Tryz.checked os 3 .any (fun w args => (Rows.fnTransformsSpec.pre enc Tryz.prog Tryz.f3 [] false w args ∧ laidMetH Tryz.prog laidL w) ∧ sizedMet enc Tryz.prog Tryz.f3 (OpenSpec.ofChange Rows.fnTransformsSpec) false w args)
      (Rows.fnTransformsSpec.post enc Tryz.prog Tryz.f3 false true false false) := by
  refine handed_shaped (C := Tryz.checked) (X := fun w _ => laidMetH Tryz.prog laidL w) (fun _ _ _ hh h => h.of_heap hh) own started (by kernel_rfl) Tryz.func3
    (ChangeSpec.witness_shaped (enc := enc) (C := Tryz.checked) (os := os) (X := fun w _ => laidMetH Tryz.prog laidL w) false (World.doorLaid Tryz.prog 400 os) #[.slice none 0 0] 8 rfl (World.shaped_of_RefB (by kernel_rfl) (by kernel_rfl)) (by kernel_rfl) (by kernel_rfl) (by kernel_rfl) (door_met os _)) ?_
  intro W base args ds gs before hval0 hW hsh hL
  have hT := laid_of hL
  have hC := cuts_of hsh
  have hval : ∀ (j : Nat) t v, Tryz.f3.params[j]? = some t → args[j]? = some v → Value.okWide Tryz.prog W .any base t v := hval0
  have hW' := hW
  obtain ⟨p, q, hA0, hV, rfl, hfz, hnd⟩ := hW
  have hA : DataW.TrodAll enc Tryz.prog W 0 (fun _ => true) true Tryz.f3.params.toList args.toList ds p := hA0
  rw [Tryz.params3] at hA hval
  obtain ⟨v0, vs0, d0, ds0, p0, q0, hargs, rfl, rfl, h0, r0⟩ := trodAll_cons hA
  obtain ⟨rfl, rfl, rfl⟩ := trodAll_nil r0
  obtain rfl : args = #[v0] := by cases args; simp_all
  obtain ⟨rfl, rfl⟩ := trodVars_none hV
  have k0 := h0
  have lt0 : ∀ x ∈ p0, x.block < W.heap.size := by obtain ⟨m, hm⟩ := k0; exact DataW.trod_lt m _ _ _ hm
  obtain ⟨n0, w0⟩ := argByts (hval 0 22 v0 rfl rfl) h0
  clear hA0 hval0
  refine (lawXf v0 n0 W w0 hC hT).mono fun e W' ⟨he, bel0⟩ => ?_
  have bel : Below W.heap.size W W' := bel0
  subst he
  exact ⟨_, rfl, _, _, _, [], _, [], hW', trodAll_mk1 (shut_bool Tryz.underlying4 _), (trodAll_cons_mk (Below.trod laid (by kernel_rfl) (of_decide_eq_true (by kernel_rfl)) k0 bel lt0) trodAll_mk0), rfl, bel.frame _, fun h => by cases h⟩

theorem over : Rows.fnTransformsRow.holds Tryz.pinned (OpenSpec.ofChange Rows.fnTransformsSpec) :=
  OpenClaim.holds_of_wide 3 Tryz.f3 rfl rfl rfl rfl rfl rfl rfl ⟨rfl, rfl, rfl, rfl, rfl⟩ rfl rfl rfl rfl rfl (by kernel_rfl) Tryz.func3 (by kernel_rfl)
    (of_decide_eq_true (by kernel_rfl)) (by unfold Func.isWrapper; first | (rw [if_pos (by decide +kernel)]; kernel_rfl) | (rw [if_neg (by decide +kernel)]; exact ⟨rfl, rfl⟩))
    (fun os started H enc _ => lifted os started H enc)

theorem proved : Rows.FnTransformsCardSaid :=
  Claim7.holds_tied_plain_at .later [] [.data, .data, .data, .sentinel, .sentinel] true (true, "8a36abec6d14050a9f132d9c886c78921cddd4a5acae1b506cc0c1ddbe0dae7a") true
    over (fun _ h => by cases h) (by kernel_rfl) (fun _ h => by cases h) fnTransforms_row_tie rfl ⟨rfl, rfl⟩ (by kernel_rfl) rfl
    (fun f fn hf hfn => by
      obtain rfl : f = 3 := Option.some.inj ((show Tryz.prog.funcNamed "loop.example/g00809/laws.FnTransforms" = some 3 by kernel_rfl).symm.trans hf) |>.symm
      obtain rfl : fn = Tryz.f3 := (Option.some.inj (Tryz.func3.symm.trans hfn)).symm
      exact ⟨by kernel_rfl, fun j t ht => by
        rw [Tryz.params3] at ht
        have hm : t ∈ [22] := by simpa using Array.mem_of_getElem? ht
        have hall : ([22].all fun u => !Tryz.prog.wantsStandIn u) = true := by kernel_rfl
        exact (show Tryz.prog.wantsStandIn t = false by simpa using List.all_eq_true.1 hall t hm)⟩)
    (by kernel_rfl)
end Go.Proofs.YtkcghoeklbcihaaGreatDoor.fnTransforms
end
