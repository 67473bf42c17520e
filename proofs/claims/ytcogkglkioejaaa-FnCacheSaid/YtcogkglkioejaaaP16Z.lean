/- Texts of this claim, one behind another: PlanX, UseS, DrawC, CchU, DrawT, LawCch2, LiftTex, LiftBy0, P16. -/
import Derived.Test.YtcogkglkioejaaaPlan
import Derived.Test.YtcogkglkioejaaaUBox
import Derived.Test.YtcogkglkioejaaaUseV
import Derived.Test.YtcogkglkioejaaaDraw
import Derived.Test.YtcogkglkioejaaaCLk
import Derived.Deep.LoopGhost
import Derived.Test.YtcogkglkioejaaaL15e
import Derived.Test.YtcogkglkioejaaaCchV
import Derived.Test.YtcogkglkioejaaaLawLook
import Derived.Test.YtcogkglkioejaaaEx2
import Derived.OpenShut
import Derived.ShutString
import Derived.ChangeOld
import Derived.Below
import Derived.Carry
import Derived.Lib.SmallJoins
import Derived.Test.YtcogkglkioejaaaRows
import Derived.ProofKit
section
/- This text proves the law on regions that draw their order for effects that may write one block besides those that they lay; it speaks of no program. -/
namespace Go.Proofs.Ytcogkglkioejaaa

/-- the blocks below N, but for X, are in w' as they were in w -/
def SameX (N X : Nat) (w w' : World) : Prop := ∀ b, b < N → b ≠ X → w'.heap[b]? = w.heap[b]?
theorem SameX.trans {N X : Nat} {w w1 w2 : World} (h : SameX N X w w1) (k : SameX N X w1 w2) : SameX N X w w2 := fun b h1 h2 => (k b h1 h2).trans (h b h1 h2)
theorem SameX.gr {N X : Nat} {w w1 : World} (h : w.grownBy w1 (some X)) (hN : N ≤ w.heap.size) : SameX N X w w1 := fun b h1 h2 => h.block b (by omega) (fun e => h2 (by simpa using e))
theorem SameX.of {N X : Nat} {w w1 : World} (h : Same 0 N w w1) : SameX N X w w1 := fun b h1 _ => h b (Nat.zero_le _) h1
open Classical in
/-- w, or d where d's blocks below N are those of w -/
noncomputable def lowx (N X : Nat) (w d : World) : World := if SameX N X w d then d else w
theorem lowx_same (N X : Nat) (w d : World) : SameX N X w (lowx N X w d) := by
  unfold lowx
  split
  · assumption
  · exact fun _ _ _ => rfl
theorem lowx_of {N X : Nat} {w d : World} (h : SameX N X w d) : d = lowx N X w d := by unfold lowx; rw [if_pos h]
@[go_sem] theorem cell?_lowx (N X : Nat) (w d : World) (a : Addr) (h : a.block < N) (hx : a.block ≠ X) : (lowx N X w d).cell? a = w.cell? a := World.cell?_of_block (w := w) (lowx_same N X w d a.block h hx)
@[go_sem] theorem frozen?_lowx (N X : Nat) (w d : World) (a : Addr) (h : a.block < N) (hx : a.block ≠ X) : (lowx N X w d).frozen? a = w.frozen? a := World.frozen?_of_block (w := w) (lowx_same N X w d a.block h hx)

/-- the stages of a region: reads, then the one operation that may come up, and so on; N: the blocks that no stage but number z writes -/
def wpStagesX (P : Program) (ops : Array Oper) (Q : Exit → Act → World → Prop) (N X : Nat) (w0 : World) (z : Nat) : List (List Nat × Nat) → Act → World → Prop
  | [], a, w => Q .normal a w
  | (T, e) :: r, a, w => wpQuiet P ops (fun w' => ∃ d, w' = lowx N X w0 d) (fun a' => ∃ o, ops[e]? = some o ∧ wpList P ops (Exit.then (fun a2 w2 => (e = z ∨ SameX N X w0 w2) ∧ wpStagesX P ops Q N X w0 z r a2 w2) Q) [o] a' w) (T.filterMap (ops[·]?)) a

theorem plan_of_quietX {P : Program} {ops : Array Oper} {Q : Exit → Act → World → Prop} {N X : Nat} {w0 : World} {z : Nat} {r : List (Bool × Nat)} {w : World} {K : Act → Prop}
    (hK : ∀ a, K a → wpPlan P ops Q (fun w' => ∃ d, w' = lowx N X w0 d) z r a w) :
    ∀ (T : List Nat) (a : Act), T.all (fun i => match ops[i]? with | some o => isRead o.op | none => false) = true → wpQuiet P ops (fun w' => ∃ d, w' = lowx N X w0 d) K (T.filterMap (ops[·]?)) a →
      wpPlan P ops Q (fun w' => ∃ d, w' = lowx N X w0 d) z (T.map (fun i => (true, i)) ++ r) a w
  | [], a, _, h => hK a h
  | i :: T, a, hr, h => by
    simp only [List.all_cons, Bool.and_eq_true] at hr
    obtain ⟨hri, hr'⟩ := hr
    cases ho : ops[i]? with
    | none => rw [ho] at hri; cases hri
    | some o =>
      rw [ho] at hri
      simp only [List.filterMap_cons, ho] at h
      refine ⟨o, ho, ?_⟩
      unfold takeOp
      unfold wpQuiet at h
      split
      · rename_i hw
        rw [if_pos hw] at h
        obtain ⟨v, hv, hn⟩ := h
        refine ⟨v, fun w' hw' => ?_, plan_of_quietX hK T _ hr' hn⟩
        have h1 := hv w' hw'
        unfold Oper.quietAt at h1
        cases hrun : (execOp a.eval o).run P w' with
        | halt x w1 => rw [hrun] at h1; exact h1.elim
        | ok n w1 =>
          obtain ⟨u, rfl⟩ := value_only hri hrun
          rw [hrun] at h1
          obtain ⟨e1, e2⟩ := h1
          rw [e1, e2]
      · rename_i hw
        rw [if_neg hw] at h
        exact plan_of_quietX hK T _ hr' h

theorem plan_of_stagesX {P : Program} {ops : Array Oper} {Q : Exit → Act → World → Prop} {N X : Nat} {w0 : World} {z : Nat} : ∀ (st : List (List Nat × Nat)) (a : Act) (w : World), readsOk ops st = true →
    wpStagesX P ops Q N X w0 z st a w → wpPlan P ops Q (fun w' => ∃ d, w' = lowx N X w0 d) z (stagesPlan st) a w
  | [], _, _, _, h => h
  | (T, e) :: r, a, w, hr, h => by
    simp only [readsOk, Bool.and_eq_true] at hr
    refine plan_of_quietX (K := fun a' => ∃ o, ops[e]? = some o ∧ wpList P ops (Exit.then (fun a2 w2 => (e = z ∨ SameX N X w0 w2) ∧ wpStagesX P ops Q N X w0 z r a2 w2) Q) [o] a' w) (fun a' ha => ?_) T a hr.1 h
    obtain ⟨o, ho, hl⟩ := ha
    refine ⟨o, ho, ?_⟩
    have key : ∀ a2 w2, ((e = z ∨ SameX N X w0 w2) ∧ wpStagesX P ops Q N X w0 z r a2 w2) → ((e = z ∨ ∃ d, w2 = lowx N X w0 d) ∧ wpPlan P ops Q (fun w' => ∃ d, w' = lowx N X w0 d) z (stagesPlan r) a2 w2) :=
      fun a2 w2 ⟨k1, k2⟩ => ⟨k1.imp id (fun k => ⟨_, lowx_of k⟩), plan_of_stagesX r a2 w2 hr.2 k2⟩
    unfold wpList at hl ⊢
    split
    · rename_i hw
      rw [if_pos hw] at hl
      rcases hl with hl | ⟨h1, h2⟩
      · refine .inl ?_
        have h3 := upon_then hl
        have h4 : o.wp P a' w (wpList P ops (Exit.then (fun a2 w2 => (e = z ∨ SameX N X w0 w2) ∧ wpStagesX P ops Q N X w0 z r a2 w2) Q) []) Q := h3
        have h5 := Oper.wp_mono (K' := wpList P ops (Exit.then (fun a2 w2 => (e = z ∨ ∃ d, w2 = lowx N X w0 d) ∧ wpPlan P ops Q (fun w' => ∃ d, w' = lowx N X w0 d) z (stagesPlan r) a2 w2) Q) []) (fun a2 w2 hk => key a2 w2 hk) h4
        unfold Oper.wp at h5 ⊢
        generalize (execOp a'.eval o).run P w = res at h5 ⊢
        cases res with
        | ok n w' => cases n <;> exact h5
        | halt x w' => cases x <;> exact h5
      · exact .inr ⟨h1, h2⟩
    · rename_i hw
      rw [if_neg hw] at hl
      exact key _ _ hl

/-- the law that the walks use -/
theorem wp_region_stagesX {P : Program} {Q : Exit → Act → World → Prop} {id : Nat} {a : Act} {w : World} {l : List Oper} (st : List (List Nat × Nat)) (z N X : Nat) (hm : P.follows .mixedOrders = true)
    (hB : (planB .any l.toArray z (stagesPlan st) && readsOk l.toArray st && (stagesPlan st).length == l.length) = true)
    (h : wpStagesX P l.toArray (NoPanic Q) N X w z st a w.drew) : (Code.region id l.toArray true).wp P Q a w := by
  simp only [Bool.and_eq_true, beq_iff_eq] at hB
  have hs : ∀ w2, SameX N X w w2 → ∃ d, w2 = lowx N X w d := fun w2 k => ⟨_, lowx_of k⟩
  exact wp_region_plan (stagesPlan st) z (fun w' => ∃ d, w' = lowx N X w d) hm hB.1.1 hB.2 (hs _ (fun _ _ _ => rfl)) (plan_of_stagesX st a w.drew hB.1.2 h)

theorem wpStagesX_nil {P : Program} {ops : Array Oper} {Q : Exit → Act → World → Prop} {N X : Nat} {w0 : World} {z : Nat} {a : Act} {w : World} (h : Q .normal a w) : wpStagesX P ops (NoPanic Q) N X w0 z [] a w := h
/-- one stage: the reads, then the operation; what follows stands behind a variable -/
theorem wpStagesX_cons {P : Program} {ops : Array Oper} {Q : Exit → Act → World → Prop} {N X : Nat} {w0 : World} {z : Nat} {T : List Nat} {e : Nat} {r : List (List Nat × Nat)} {a : Act} {w : World}
    (h : wpQuiet P ops (fun w' => ∃ d, w' = lowx N X w0 d) (fun a' => ∃ o, ops[e]? = some o ∧ ∀ K : Act → World → Prop, (∀ a2 w2, (e = z ∨ SameX N X w0 w2) → wpStagesX P ops Q N X w0 z r a2 w2 → K a2 w2) → wpList P ops (Exit.then K Q) [o] a' w) (T.filterMap (ops[·]?)) a) :
    wpStagesX P ops Q N X w0 z ((T, e) :: r) a w := by
  unfold wpStagesX
  have e1 : (fun a' => ∃ o, ops[e]? = some o ∧ wpList P ops (Exit.then (fun a2 w2 => (e = z ∨ SameX N X w0 w2) ∧ wpStagesX P ops Q N X w0 z r a2 w2) Q) [o] a' w) =
      (fun a' => ∃ o, ops[e]? = some o ∧ ∀ K : Act → World → Prop, (∀ a2 w2, (e = z ∨ SameX N X w0 w2) → wpStagesX P ops Q N X w0 z r a2 w2 → K a2 w2) → wpList P ops (Exit.then K Q) [o] a' w) := by
    funext a'
    refine propext ⟨fun ⟨o, ho, hl⟩ => ⟨o, ho, fun K hK => ?_⟩, fun ⟨o, ho, hl⟩ => ⟨o, ho, hl _ fun a2 w2 h1 h2 => ⟨h1, h2⟩⟩⟩
    unfold wpList at hl ⊢
    split
    · rename_i hw
      rw [if_pos hw] at hl
      rcases hl with hl | ⟨h1, h2⟩
      · refine .inl ?_
        have h4 := Oper.wp_mono (K' := wpList P ops (Exit.then K Q) []) (fun a2 w2 hk => hK a2 w2 hk.1 hk.2) hl
        unfold Oper.wp at h4 ⊢
        generalize (execOp a'.eval o).run P w = res at h4 ⊢
        cases res with
        | ok n w' => cases n <;> exact h4
        | halt x w' => cases x <;> exact h4
      · exact .inr ⟨h1, h2⟩
    · rename_i hw
      rw [if_neg hw] at hl
      exact hK _ _ hl.1 hl.2
  rw [e1]
  exact h


end Go.Proofs.Ytcogkglkioejaaa
end

section
/- This text holds the walk of the reference's UseTile. -/
namespace Go.Proofs.Ytcogkglkioejaaa
open Go.RowKit

theorem addr_add_add (a : Addr) (m n : Nat) : (a.add m).add n = a.add (m + n) := by
  unfold Addr.add
  split <;> split <;> split <;> simp_all <;> omega

set_option maxRecDepth 10000 in
set_option maxHeartbeats 3200000 in
theorem sUseTile_any (lo : Nat) (v : Value) (C : CV) (t : T3) (w : World) (hv : CO lo w v C) (ht : t.I) (hL : C.L.length < 100000000) :
    Calls Try.prog 40 #[v, t.val] w fun e w' => ∃ r, e = .returned r ∧ CO w.heap.size w' r (C.use t) ∧ Ext w w' := by
  have HV := hid hv
  obtain ⟨tv, rfl, hu, hr, hl⟩ := hv
  have HU := hid hu
  obtain ⟨ta, tc, rfl, _⟩ := hu.form
  rw [TLof_n] at *
  have hI := (ownT_iff.1 hu).2
  clear hu
  unfold T3.val
  go_enter Try.func40, Try.ntmps40
  go_upto_region 1 with fail
  have hub : UB w (((w.alloc (.cells #[.int .i64 C.room, .slice ta C.L.length tc, .int .i64 C.loads] 29)).alloc (.cells #[.int .i64 t.l, .int .i64 t.x, .int .i64 t.y] 60)).alloc (.cells #[.int .i64 0, .slice none 0 0, .int .i64 0] 29)) C t ta tc := by
    constructor
    case ext => exact (by repeat (with_reducible (first | assumption | exact Ext.refl _ | apply Ext.alloc | apply Ext.drew | apply Ext.drewN)))
    all_goals simp [go_sem]
  have hsz : w.heap.size + 3 = (((w.alloc (.cells #[.int .i64 C.room, .slice ta C.L.length tc, .int .i64 C.loads] 29)).alloc (.cells #[.int .i64 t.l, .int .i64 t.x, .int .i64 t.y] 60)).alloc (.cells #[.int .i64 0, .slice none 0 0, .int .i64 0] 29)).heap.size := by simp
  obtain ⟨w1, hw1⟩ : ∃ W, (((w.alloc (.cells #[.int .i64 C.room, .slice ta C.L.length tc, .int .i64 C.loads] 29)).alloc (.cells #[.int .i64 t.l, .int .i64 t.x, .int .i64 t.y] 60)).alloc (.cells #[.int .i64 0, .slice none 0 0, .int .i64 0] 29)) = W := ⟨_, rfl⟩
  rw [hw1] at hub hsz ⊢
  clear hw1
  have HB := hid hub
  have b0 := hub.c0
  have b1 := hub.c1
  have b2 := hub.c2
  have s1 : w.heap.size < w1.heap.size := by omega
  clear hub
  go_cut [5] from 8 to 16 (fun p wx => ∃ B tv, p = .pointer (some ⟨B, 0, none⟩) ∧ CpS w wx C t ta tc B C.L tv C.loads)
  case first =>
    refine wp_region_Z 10 w1.heap.size (by kernel_rfl) ?_
    refine wpZ_stage (fuel := 4) [0, 1, 3, 4, 6, 7] [2, 9] (by kernel_rfl) (fun _ _ _ => rfl) ?_
    try simp only [Act.put, List.setIfInBounds_toArray, List.set_cons_succ, List.set_cons_zero]
    simp only [List.filterMap_cons, List.filterMap_nil, List.getElem?_toArray, List.getElem?_cons_zero, List.getElem?_cons_succ]
    show wpQuiet _ _ _ _ [_, _, _, _, _, _] _
    repeat (go_big_quiet_step (fail))
    refine wpQuiet_nil ?_
    intro e he
    simp only [List.mem_cons, List.not_mem_nil, or_false] at he
    rcases he with rfl | rfl
    · (unfold wpComes; simp only [List.getElem?_toArray, List.getElem?_cons_succ, List.getElem?_cons_zero, Option.some.injEq]; refine ⟨_, rfl, fun K hK => ?_⟩)
      go_wp2_with fail
      have e2 : Ext w1 (w1.alloc (.cells #[] 60)).drew := (by repeat (with_reducible (first | assumption | exact Ext.refl _ | apply Ext.alloc | apply Ext.drew | apply Ext.drewN)))
      have o2 : (TLof []).Own (w.heap.size + 3) (w1.alloc (.cells #[] 60)).drew (.slice (some ⟨w1.heap.size, 0, none⟩) 0 0) := by
        rw [TLof_nil]
        exact (TL.nil_new w1 (w.heap.size + 3) (by omega)).ext (Ext.drew (Ext.refl _))
      have z2 : (w1.alloc (.cells #[] 60)).drew.heap.size = w1.heap.size + 1 := by simp
      obtain ⟨w2, hw2⟩ : ∃ W, (w1.alloc (.cells #[] 60)).drew = W := ⟨_, rfl⟩
      rw [hw2] at e2 o2 z2 ⊢
      refine hK _ _ (.inr (fun b _ hb => e2.block (by omega))) ?_
      clear hK K hw2
      refine wpZ_stage (fuel := 3) [] [5, 9] (by kernel_rfl) (fun b _ hb => e2.block (by omega)) ?_
      refine wpQuiet_nil ?_
      intro e he
      simp only [List.mem_cons, List.not_mem_nil, or_false] at he
      rcases he with rfl | rfl
      · (unfold wpComes; simp only [List.getElem?_toArray, List.getElem?_cons_succ, List.getElem?_cons_zero, Option.some.injEq]; refine ⟨_, rfl, fun K hK => ?_⟩)
        have u2 := HB.out.to e2
        go_wp2_with (at_builtin; refine wpList_append_tiles _ rfl _ _ rfl (w.heap.size + 3) _ [] rfl o2 C.L hI _ rfl (HU.out.ext u2.ext).appd (by simp; omega) (by omega) ?_; intro v' w5 hown hg)
        rw [List.nil_append] at hown
        obtain ⟨va, vc, rfl, _⟩ := hown.form
        rw [TLof_n] at hown ⊢
        have u5 := u2.grown hg (fun k e => (o2.lt k e).1)
        have z5 := hg.size
        refine hK _ _ (.inr (fun b _ hb => (hg.block b (by omega) (fun e => by have := (o2.lt b e.symm).1; omega)).trans (e2.block (by omega)))) ?_
        have hgb : ∀ b, b < w1.heap.size → w5.heap[b]? = w1.heap[b]? := fun b hb => (hg.block b (by omega) (fun e => by have := (o2.lt b e.symm).1; omega)).trans (e2.block (by omega))
        clear hK K u2
        refine wpZ_stage (fuel := 1) [8] [9] (by kernel_rfl) (fun b _ hb => hgb b (by omega)) ?_
        try simp only [Act.put, List.setIfInBounds_toArray, List.set_cons_succ, List.set_cons_zero]
        simp only [List.filterMap_cons, List.filterMap_nil, List.getElem?_toArray, List.getElem?_cons_zero, List.getElem?_cons_succ]
        show wpQuiet _ _ _ _ [_] _
        repeat (go_big_quiet_step (fail))
        refine wpQuiet_nil ?_
        intro e he
        simp only [List.mem_cons, List.not_mem_nil, or_false] at he
        subst he
        (unfold wpComes; simp only [List.getElem?_toArray, List.getElem?_cons_succ, List.getElem?_cons_zero, Option.some.injEq]; refine ⟨_, rfl, fun K hK => ?_⟩)
        go_wp2_with fail
        refine hK _ _ (.inr (fun b _ hb => (Ext.block (w := w5) (by repeat (with_reducible (first | assumption | exact Ext.refl _ | apply Ext.alloc | apply Ext.drew | apply Ext.drewN))) (by omega)).trans (hgb b (by omega)))) ?_
        clear hK K
        refine wpZ_stage (fuel := 0) [] [10] (by kernel_rfl) (fun b _ hb => (Ext.block (w := w5) (by repeat (with_reducible (first | assumption | exact Ext.refl _ | apply Ext.alloc | apply Ext.drew | apply Ext.drewN))) (by omega)).trans (hgb b (by omega))) ?_
        refine wpQuiet_nil ?_
        intro e he
        simp only [List.mem_cons, List.not_mem_nil, or_false] at he
        subst he
        (unfold wpComes; simp only [List.getElem?_toArray, List.getElem?_cons_succ, List.getElem?_cons_zero, Option.some.injEq]; refine ⟨_, rfl, fun K hK => ?_⟩)
        go_wp2_with fail
        refine hK _ _ (.inl (by trivial)) ?_
        clear hK K
        refine wpZ_end (by kernel_rfl) ?_
        go_wp2_with fail
        go_meet
        exact ⟨_, _, rfl, by omega, u5.to (by repeat (with_reducible (first | assumption | exact Ext.refl _ | apply Ext.alloc | apply Ext.drew | apply Ext.drewN))), CBx.made w5 _ _ _, hown.ext (by repeat (with_reducible (first | assumption | exact Ext.refl _ | apply Ext.alloc | apply Ext.drew | apply Ext.drewN)))⟩
      · (unfold wpComes; simp only [List.getElem?_toArray, List.getElem?_cons_succ, List.getElem?_cons_zero, Option.some.injEq]; refine ⟨_, rfl, fun K hK => ?_⟩)
        go_wp2_with fail
        have e9 : Ext w2 (w2.alloc (.cells #[.int .i64 0, .slice none 0 0, .int .i64 0] 29)) := (by repeat (with_reducible (first | assumption | exact Ext.refl _ | apply Ext.alloc | apply Ext.drew | apply Ext.drewN)))
        have cb := (CBx.made w2 0 0 (.slice none 0 0))
        refine hK _ _ (.inr (fun b _ hb => (e9.block (by omega)).trans (e2.block (by omega)))) ?_
        clear hK K
        have E2 := e2.trans e9
        have O2 := o2.ext e9
        have z3 := e9.size
        have z4 : w2.heap.size < (w2.alloc (.cells #[.int .i64 0, .slice none 0 0, .int .i64 0] 29)).heap.size := by simp
        obtain ⟨w3, hw3⟩ : ∃ W, w2.alloc (.cells #[.int .i64 0, .slice none 0 0, .int .i64 0] 29) = W := ⟨_, rfl⟩
        rw [hw3] at cb E2 O2 z3 z4 ⊢
        rw [z2] at cb
        clear e9 hw3 o2 e2
        refine wpZ_stage (fuel := 2) [] [5] (by kernel_rfl) (fun b _ hb => E2.block (by omega)) ?_
        refine wpQuiet_nil ?_
        intro e he
        simp only [List.mem_cons, List.not_mem_nil, or_false] at he
        subst he
        (unfold wpComes; simp only [List.getElem?_toArray, List.getElem?_cons_succ, List.getElem?_cons_zero, Option.some.injEq]; refine ⟨_, rfl, fun K hK => ?_⟩)
        have u2 := HB.out.to E2
        go_wp2_with (at_builtin; refine wpList_append_tiles _ rfl _ _ rfl (w.heap.size + 3) _ [] rfl O2 C.L hI _ rfl (HU.out.ext u2.ext).appd (by simp; omega) (by omega) ?_; intro v' w5 hown hg)
        rw [List.nil_append] at hown
        obtain ⟨va, vc, rfl, _⟩ := hown.form
        rw [TLof_n] at hown ⊢
        have u5 := u2.grown hg (fun k e => (O2.lt k e).1)
        have z5 := hg.size
        have cb5 := cb.grown hg (cb.ne O2)
        refine hK _ _ (.inr (fun b _ hb => (hg.block b (by omega) (fun e => by have := (O2.lt b e.symm).1; omega)).trans (E2.block (by omega)))) ?_
        have hgb : ∀ b, b < w1.heap.size → w5.heap[b]? = w1.heap[b]? := fun b hb => (hg.block b (by omega) (fun e => by have := (O2.lt b e.symm).1; omega)).trans (E2.block (by omega))
        clear hK K u2
        refine wpZ_stage (fuel := 0) [8] [10] (by kernel_rfl) (fun b _ hb => hgb b (by omega)) ?_
        try simp only [Act.put, List.setIfInBounds_toArray, List.set_cons_succ, List.set_cons_zero]
        simp only [List.filterMap_cons, List.filterMap_nil, List.getElem?_toArray, List.getElem?_cons_zero, List.getElem?_cons_succ]
        show wpQuiet _ _ _ _ [_] _
        repeat (go_big_quiet_step (fail))
        refine wpQuiet_nil ?_
        intro e he
        simp only [List.mem_cons, List.not_mem_nil, or_false] at he
        subst he
        (unfold wpComes; simp only [List.getElem?_toArray, List.getElem?_cons_succ, List.getElem?_cons_zero, Option.some.injEq]; refine ⟨_, rfl, fun K hK => ?_⟩)
        obtain ⟨f0, f1, f2⟩ : _ ∧ _ ∧ _ := ⟨cb5.fz 0, cb5.fz 1, cb5.fz 2⟩
        have g0 := cb5.c0
        have g1 := cb5.c1
        have g2 := cb5.c2
        go_wp2_with fail
        refine hK _ _ (.inl (by trivial)) ?_
        clear hK K
        refine wpZ_end (by kernel_rfl) ?_
        go_wp2_with fail
        go_meet
        exact ⟨_, _, rfl, CpS.made (by omega) u5 cb5 hown⟩
    · (unfold wpComes; simp only [List.getElem?_toArray, List.getElem?_cons_succ, List.getElem?_cons_zero, Option.some.injEq]; refine ⟨_, rfl, fun K hK => ?_⟩)
      go_wp2_with fail
      have e9 : Ext w1 (w1.alloc (.cells #[.int .i64 0, .slice none 0 0, .int .i64 0] 29)).drew := (by repeat (with_reducible (first | assumption | exact Ext.refl _ | apply Ext.alloc | apply Ext.drew | apply Ext.drewN)))
      have cb := (CBx.made w1 0 0 (.slice none 0 0)).ext (Ext.drew (Ext.refl _))
      have z9 : (w1.alloc (.cells #[.int .i64 0, .slice none 0 0, .int .i64 0] 29)).drew.heap.size = w1.heap.size + 1 := by simp
      obtain ⟨w9, hw9⟩ : ∃ W, (w1.alloc (.cells #[.int .i64 0, .slice none 0 0, .int .i64 0] 29)).drew = W := ⟨_, rfl⟩
      rw [hw9] at e9 cb z9 ⊢
      refine hK _ _ (.inr (fun b _ hb => e9.block (by omega))) ?_
      clear hK K hw9
      refine wpZ_stage (fuel := 3) [] [2] (by kernel_rfl) (fun b _ hb => e9.block (by omega)) ?_
      refine wpQuiet_nil ?_
      intro e he
      simp only [List.mem_cons, List.not_mem_nil, or_false] at he
      subst he
      (unfold wpComes; simp only [List.getElem?_toArray, List.getElem?_cons_succ, List.getElem?_cons_zero, Option.some.injEq]; refine ⟨_, rfl, fun K hK => ?_⟩)
      go_wp2_with fail
      have E2 : Ext w1 (w9.alloc (.cells #[] 60)) := e9.alloc _
      have O2 : (TLof []).Own (w.heap.size + 3) (w9.alloc (.cells #[] 60)) (.slice (some ⟨w9.heap.size, 0, none⟩) 0 0) := by
        rw [TLof_nil]
        exact TL.nil_new w9 (w.heap.size + 3) (by omega)
      rw [z9] at O2
      have z2 : (w9.alloc (.cells #[] 60)).heap.size = w9.heap.size + 1 := by simp
      replace cb := cb.ext (W' := w9.alloc (.cells #[] 60)) (by repeat (with_reducible (first | assumption | exact Ext.refl _ | apply Ext.alloc | apply Ext.drew | apply Ext.drewN)))
      obtain ⟨w3, hw3⟩ : ∃ W, w9.alloc (.cells #[] 60) = W := ⟨_, rfl⟩
      rw [hw3] at E2 O2 z2 cb ⊢
      refine hK _ _ (.inr (fun b _ hb => E2.block (by omega))) ?_
      clear hK K hw3
      refine wpZ_stage (fuel := 2) [] [5] (by kernel_rfl) (fun b _ hb => E2.block (by omega)) ?_
      refine wpQuiet_nil ?_
      intro e he
      simp only [List.mem_cons, List.not_mem_nil, or_false] at he
      subst he
      (unfold wpComes; simp only [List.getElem?_toArray, List.getElem?_cons_succ, List.getElem?_cons_zero, Option.some.injEq]; refine ⟨_, rfl, fun K hK => ?_⟩)
      have u2 := HB.out.to E2
      go_wp2_with (at_builtin; refine wpList_append_tiles _ rfl _ _ rfl (w.heap.size + 3) _ [] rfl O2 C.L hI _ rfl (HU.out.ext u2.ext).appd (by simp; omega) (by omega) ?_; intro v' w5 hown hg)
      rw [List.nil_append] at hown
      obtain ⟨va, vc, rfl, _⟩ := hown.form
      rw [TLof_n] at hown ⊢
      have u5 := u2.grown hg (fun k e => (O2.lt k e).1)
      have z5 := hg.size
      have cb5 := cb.grown hg (cb.ne O2)
      refine hK _ _ (.inr (fun b _ hb => (hg.block b (by omega) (fun e => by have := (O2.lt b e.symm).1; omega)).trans (E2.block (by omega)))) ?_
      have hgb : ∀ b, b < w1.heap.size → w5.heap[b]? = w1.heap[b]? := fun b hb => (hg.block b (by omega) (fun e => by have := (O2.lt b e.symm).1; omega)).trans (E2.block (by omega))
      clear hK K u2
      refine wpZ_stage (fuel := 0) [8] [10] (by kernel_rfl) (fun b _ hb => hgb b (by omega)) ?_
      try simp only [Act.put, List.setIfInBounds_toArray, List.set_cons_succ, List.set_cons_zero]
      simp only [List.filterMap_cons, List.filterMap_nil, List.getElem?_toArray, List.getElem?_cons_zero, List.getElem?_cons_succ]
      show wpQuiet _ _ _ _ [_] _
      repeat (go_big_quiet_step (fail))
      refine wpQuiet_nil ?_
      intro e he
      simp only [List.mem_cons, List.not_mem_nil, or_false] at he
      subst he
      (unfold wpComes; simp only [List.getElem?_toArray, List.getElem?_cons_succ, List.getElem?_cons_zero, Option.some.injEq]; refine ⟨_, rfl, fun K hK => ?_⟩)
      obtain ⟨f0, f1, f2⟩ : _ ∧ _ ∧ _ := ⟨cb5.fz 0, cb5.fz 1, cb5.fz 2⟩
      have g0 := cb5.c0
      have g1 := cb5.c1
      have g2 := cb5.c2
      go_wp2_with fail
      refine hK _ _ (.inl (by trivial)) ?_
      clear hK K
      refine wpZ_end (by kernel_rfl) ?_
      go_wp2_with fail
      go_meet
      exact ⟨_, _, rfl, CpS.made (by omega) u5 cb5 hown⟩
  obtain ⟨B, tv, rfl, hcp⟩ := hcut
  obtain ⟨va, vc, rfl, _⟩ := hcp.2.2.2.form
  rw [TLof_n] at *
  have HP := hid hcp
  have c0 := hcp.2.1.c0
  have c1 := hcp.2.1.c1
  have c2 := hcp.2.1.c2
  have lt := hcp.2.1.lt
  have sz : w.heap.size < wc.heap.size := by omega
  clear hcp b0 b1 b2 s1 hsz HB
  cases hok : C.ok
  · have hus : C.use t = C := by unfold CV.use; rw [hok]; rfl
    have HK := hid hok
    have HUS := hid hus
    clear hok hus
    go_wp2_with fail
    refine (sIsValidCache_any lo _ _ C _ ((HV.out.ext HP.out.2.1.ext).R) (Nat.le_refl _)).mono ?_
    rintro e w2 ⟨rfl, x2⟩
    rw [HK.out]
    have hp2 := HP.out.ext x2
    have HP2 := hid hp2
    have lt2 := hp2.2.1.lt
    have p0 := hp2.2.1.p0
    have p1 := hp2.2.1.p1
    have p2 := hp2.2.1.p2
    have f0 := hp2.2.1.f0
    have f1 := hp2.2.1.f1
    have f2 := hp2.2.1.f2
    have g0 := hp2.2.2.1.c0
    have g1 := hp2.2.2.1.c1
    have g2 := hp2.2.2.1.c2
    have gl := hp2.2.2.1.lt
    have s2 : w.heap.size + 1 + 1 < w2.heap.size := by omega
    clear hp2 x2 c0 c1 c2 lt
    go_wp2_with fail
    refine bodyPost_ret (v := .agg #[.int .i64 C.room, .slice va C.L.length vc, .int .i64 C.loads]) (by simp [results, Try.results40, go_sem, *]) rfl ⟨_, rfl, ?_, HP2.out.done.2⟩
    rw [HUS.out]
    exact ⟨_, rfl, HP2.out.done.1, hr, hl⟩
  · have HK := hid hok
    clear hok
    obtain ⟨r, hri⟩ : ∃ r, ix C.L ⟨t.l, t.x, t.y⟩ = r := ⟨_, rfl⟩
    go_wp2_with fail
    refine (sIsValidCache_any lo _ _ C _ ((HV.out.ext HP.out.2.1.ext).R) (Nat.le_refl _)).mono ?_
    rintro e w2 ⟨rfl, x2⟩
    rw [HK.out]
    have hp2 := HP.out.ext x2
    have HP2 := hid hp2
    have lt2 := hp2.2.1.lt
    have c0 := hp2.2.1.c0
    have c1 := hp2.2.1.c1
    have c2 := hp2.2.1.c2
    have d0 := hp2.2.1.d0
    have d1 := hp2.2.1.d1
    have d2 := hp2.2.1.d2
    have sz : w.heap.size < w2.heap.size := by omega
    have sz2 : w.heap.size + 1 < w2.heap.size := by omega
    clear hp2 x2 HP
    go_wp2_with fail
    refine (l16Ix_any lo _ _ C.L _ _ _ _ hri (HU.out.ext HP2.out.2.1.ext).R (Nat.le_refl _)).mono ?_
    rintro e w3 ⟨rfl, x3⟩
    have hp3 := HP2.out.ext x3
    have HP3 := hid hp3
    have HRI := hid hri
    clear hp3 c0 c1 c2 d0 d1 d2 sz sz2 lt2 x3 HP2 hri
    have hri := HRI.out
    unfold ix at hri
    by_cases hm : t ∈ C.L
    · rw [if_pos hm] at hri
      have hk := List.idxOf_lt_length_of_mem hm
      have hut : C.use t = ⟨C.room, C.L.take (C.L.idxOf t) ++ C.L.drop (C.L.idxOf t + 1) ++ [t], C.loads⟩ := by
        unfold CV.use
        have hb := CV.ok_bd HK.out
        have hlen : ((C.L.erase t ++ [t]).length : Int) = C.L.length := by
          have := List.length_erase_of_mem hm
          simp
          omega
        rw [if_pos HK.out, if_neg (by rw [hlen]; omega), if_pos hm, List.erase_eq_eraseIdx_of_idxOf rfl, List.eraseIdx_eq_take_drop_succ]
      have HUT := hid hut
      have hri : ((C.L.idxOf t : Nat) : Int) = r := hri
      clear hut
      generalize C.L.idxOf t = k at hk hri HUT
      subst hri
      obtain ⟨⟨e, h0⟩ | ⟨ad, cap, e, hcA⟩⟩ := (⟨HU.out.appd⟩ : PLift _)
      · rw [h0] at hm; simp at hm
      simp only [Value.slice.injEq, true_and] at e
      obtain ⟨rfl, rfl⟩ := e
      have hcap : C.L.length ≤ tc := by
        obtain ⟨a', cap', e', HF⟩ := Flats.open HU.out.R
        simp only [Value.slice.injEq] at e'
        have := HF.le
        rw [TLof_n] at this
        omega
      have c0 := HP3.out.2.1.c1
      have lt := HP3.out.2.1.lt
      have sz : w.heap.size < w3.heap.size := by omega
      have hklen : (C.L.take k).length = k := by simp; omega
      have hdlen : (C.L.drop (k + 1)).length = C.L.length - (k + 1) := by simp
      have hIt : ∀ x ∈ C.L.take k, x.I := fun x hx => hI x (List.mem_of_mem_take hx)
      have hId : ∀ x ∈ C.L.drop (k + 1), x.I := fun x hx => hI x (List.mem_of_mem_drop hx)
      have ad1 : ∀ W : World, Ext w W → (Value.slice (some ad) k tc = .slice none 0 0 ∧ C.L.take k = []) ∨ ∃ a c, Value.slice (some ad) k tc = .slice (some a) (C.L.take k).length c ∧ ∀ i, i < (C.L.take k).length * 3 → W.cell? (a.add i) = some (.int .i64 ((TLof (C.L.take k)).f i)) := fun W e => by
        rcases (HU.out.ext e).appd with ⟨h, _⟩ | ⟨a, c, h, hc⟩
        · cases h
        · simp only [Value.slice.injEq, true_and, Option.some.injEq] at h
          obtain ⟨rfl, rfl⟩ := h
          exact .inr ⟨_, _, by rw [hklen], fun i hi => by rw [hklen] at hi; rw [TLof_take hi]; exact hc i (by omega)⟩
      have o3 : (TLof []).Own (w.heap.size + 3) (w3.alloc (.cells #[] 60)) (.slice (some ⟨w3.heap.size, 0, none⟩) 0 0) := by
        rw [TLof_nil]
        exact TL.nil_new w3 (w.heap.size + 3) (by omega)
      have e3 : Ext w (w3.alloc (.cells #[] 60)) := HP3.out.2.1.ext.alloc _
      go_upto_region 7 with (at_builtin; refine wpList_append_tiles _ rfl _ _ rfl (w.heap.size + 3) _ [] rfl o3 (C.L.take k) hIt _ rfl (ad1 _ e3) (by simp; omega) (by simp; omega) ?_; intro v4 w4 hown4 hg4)
      have hp4 := (HP3.out.ext (W' := w3.alloc (.cells #[] 60)) (by repeat (with_reducible (first | assumption | exact Ext.refl _ | apply Ext.alloc | apply Ext.drew | apply Ext.drewN)))).grown o3 hg4
      rw [List.nil_append] at hown4
      obtain ⟨a4, n4, rfl, _⟩ := hown4.form
      rw [TLof_n, hklen]
      rw [TLof_n, hklen] at hown4
      obtain ⟨hu4, hc4⟩ := hp4
      have hB := HP3.out.1
      have HU4 := hid hu4
      have HC4 := hid hc4
      have HO4 := hid hown4
      have c0 := hu4.c1
      have d0 := hu4.d0
      have d1 := hu4.d1
      have d2 := hu4.d2
      have lt := hu4.lt
      have sz : w.heap.size < w4.heap.size := by omega
      have sz1 : w.heap.size + 1 < w4.heap.size := by omega
      clear hu4 hc4 hown4 hg4 o3 e3 hri HRI
      have ad2 : ∃ a2, (if tc = k + 1 then some ad else some (ad.add ((k + 1) * 3))) = some a2 ∧ ∀ W : World, Ext w W → ∀ i, i < (C.L.drop (k + 1)).length * 3 → W.cell? (a2.add i) = some (.int .i64 ((TLof (C.L.drop (k + 1))).f i)) := by
        by_cases h : tc = k + 1
        · exact ⟨ad, if_pos h, fun W e i hi => by rw [hdlen] at hi; omega⟩
        · refine ⟨_, if_neg h, fun W e i hi => ?_⟩
          rw [hdlen] at hi
          rcases (HU.out.ext e).appd with ⟨h, _⟩ | ⟨a, c, h, hc⟩
          · cases h
          · simp only [Value.slice.injEq, true_and, Option.some.injEq] at h
            obtain ⟨rfl, rfl⟩ := h
            rw [addr_add_add, TLof_drop]
            exact hc _ (by omega)
      obtain ⟨a2, ha2, hc2⟩ := ad2
      have HA2 := hid ha2
      have HC2 := hid hc2
      clear ha2 hc2 ad1 hIt hcA
      go_cut [] from 33 to 43 (fun wx => ∃ tv, CpS w wx C t (some ad) tc B (C.L.take k ++ C.L.drop (k + 1) ++ [t]) tv C.loads)
      case first =>
        refine wp_region_Z 11 (w.heap.size + 3) (by kernel_rfl) ?_
        refine wpZ_stage (fuel := 4) [0, 1, 2, 3, 4, 5, 7] [6, 8] (by kernel_rfl) (fun b _ hb => rfl) ?_
        try simp only [Act.put, List.setIfInBounds_toArray, List.set_cons_succ, List.set_cons_zero]
        simp only [List.filterMap_cons, List.filterMap_nil, List.getElem?_toArray, List.getElem?_cons_zero, List.getElem?_cons_succ]
        show wpQuiet _ _ _ _ [_, _, _, _, _, _, _] _
        repeat (go_big_quiet_step (fail))
        refine wpQuiet_nil ?_
        intro e he
        simp only [List.mem_cons, List.not_mem_nil, or_false] at he
        rcases he with rfl | rfl
        · (unfold wpComes; simp only [List.getElem?_toArray, List.getElem?_cons_succ, List.getElem?_cons_zero, Option.some.injEq]; refine ⟨_, rfl, fun K hK => ?_⟩)
          rw [HA2.out]
          have OX := HO4.out.ext (w' := w4.drew) (by repeat (with_reducible (first | assumption | exact Ext.refl _ | apply Ext.alloc | apply Ext.drew | apply Ext.drewN)))
          have UX := HU4.out.to (W' := w4.drew) (by repeat (with_reducible (first | assumption | exact Ext.refl _ | apply Ext.alloc | apply Ext.drew | apply Ext.drewN)))
          have CX := HC4.out.ext (W' := w4.drew) (by repeat (with_reducible (first | assumption | exact Ext.refl _ | apply Ext.alloc | apply Ext.drew | apply Ext.drewN)))
          go_wp2_with (at_builtin; refine wpList_append_tiles _ rfl _ _ rfl (w.heap.size + 3) _ (C.L.take k) rfl OX (C.L.drop (k + 1)) hId (.slice (some a2) (C.L.length - (k + 1)) (tc - (k + 1))) rfl (.inr ⟨a2, tc - (k + 1), by rw [hdlen], HC2.out _ UX.ext⟩) (by rw [hklen, hdlen]; omega) (by first | omega | (simp; omega)) ?_; intro v6 w6 hown hg)
          obtain ⟨a6, n6, rfl, _⟩ := hown.form
          have u6 := UX.grown hg (fun k e => (OX.lt k e).1)
          have z6 := hg.size
          have cb6 := CX.grown hg (CX.ne OX)
          have hgb : ∀ b, b < w.heap.size + 3 → w6.heap[b]? = w4.heap[b]? := fun b hb => hg.block b (by simp; omega) (fun e => by have := (OX.lt b e.symm).1; omega)
          refine hK _ _ (.inr (fun b _ hb => hgb b hb)) ?_
          simp at z6
          clear hK K OX UX CX hg
          refine wpZ_stage (fuel := 3) [] [8] (by kernel_rfl) (fun b _ hb => hgb b hb) ?_
          refine wpQuiet_nil ?_
          intro e he
          simp only [List.mem_cons, List.not_mem_nil, or_false] at he
          subst he
          (unfold wpComes; simp only [List.getElem?_toArray, List.getElem?_cons_succ, List.getElem?_cons_zero, Option.some.injEq]; refine ⟨_, rfl, fun K hK => ?_⟩)
          go_wp2_with fail
          refine hK _ _ (.inr (fun b _ hb => (Ext.block (w := w6) (by repeat (with_reducible (first | assumption | exact Ext.refl _ | apply Ext.alloc | apply Ext.drew | apply Ext.drewN))) (by omega)).trans (hgb b hb))) ?_
          have O9 := hown.ext (w' := w6.alloc (.cells #[.int .i64 t.l, .int .i64 t.x, .int .i64 t.y] 60)) (by repeat (with_reducible (first | assumption | exact Ext.refl _ | apply Ext.alloc | apply Ext.drew | apply Ext.drewN)))
          have U9 := u6.to (W' := w6.alloc (.cells #[.int .i64 t.l, .int .i64 t.x, .int .i64 t.y] 60)) (by repeat (with_reducible (first | assumption | exact Ext.refl _ | apply Ext.alloc | apply Ext.drew | apply Ext.drewN)))
          have C9 := cb6.ext (W' := w6.alloc (.cells #[.int .i64 t.l, .int .i64 t.x, .int .i64 t.y] 60)) (by repeat (with_reducible (first | assumption | exact Ext.refl _ | apply Ext.alloc | apply Ext.drew | apply Ext.drewN)))
          clear hK K hown u6 cb6
          refine wpZ_stage (fuel := 2) [] [9] (by kernel_rfl) (fun b _ hb => (Ext.block (w := w6) (by repeat (with_reducible (first | assumption | exact Ext.refl _ | apply Ext.alloc | apply Ext.drew | apply Ext.drewN))) (by omega)).trans (hgb b hb)) ?_
          refine wpQuiet_nil ?_
          intro e he
          simp only [List.mem_cons, List.not_mem_nil, or_false] at he
          subst he
          (unfold wpComes; simp only [List.getElem?_toArray, List.getElem?_cons_succ, List.getElem?_cons_zero, Option.some.injEq]; refine ⟨_, rfl, fun K hK => ?_⟩)
          go_wp2_with (at_builtin; refine wpList_append_tile _ rfl _ _ rfl (w.heap.size + 3) (.slice a6 (TLof (C.L.take k ++ C.L.drop (k + 1))).n n6) (TLof (C.L.take k ++ C.L.drop (k + 1))) rfl O9 t ht w6.heap.size rfl (by simp [go_sem]) (by simp [go_sem]) (by simp [go_sem]) (by rw [TLof_n, List.length_append, hklen, hdlen]; omega) (by first | omega | (simp; omega)) ?_; intro v9 w9 hown9 hg9)
          replace hown9 := TLof_snoc_own hown9
          obtain ⟨a9, n9, hv9, _⟩ := hown9.form; generalize (TLof (C.L.take k ++ C.L.drop (k + 1) ++ [t])).n = m9 at hv9; subst hv9
          have u9 := U9.grown hg9 (fun k e => (O9.lt k e).1)
          have cb9 := C9.grown hg9 (C9.ne O9)
          have hgc : ∀ b, b < w.heap.size + 3 → w9.heap[b]? = w4.heap[b]? := fun b hb => (hg9.block b (by first | omega | (simp; omega)) (fun e => by have := (O9.lt b e.symm).1; omega)).trans ((Ext.block (w := w6) (by repeat (with_reducible (first | assumption | exact Ext.refl _ | apply Ext.alloc | apply Ext.drew | apply Ext.drewN))) (by omega)).trans (hgb b hb))
          refine hK _ _ (.inr (fun b _ hb => hgc b hb)) ?_
          clear hK K
          refine wpZ_stage (fuel := 0) [10] [11] (by kernel_rfl) (fun b _ hb => hgc b hb) ?_
          try simp only [Act.put, List.setIfInBounds_toArray, List.set_cons_succ, List.set_cons_zero]
          simp only [List.filterMap_cons, List.filterMap_nil, List.getElem?_toArray, List.getElem?_cons_zero, List.getElem?_cons_succ]
          show wpQuiet _ _ _ _ [_] _
          repeat (go_big_quiet_step (fail))
          refine wpQuiet_nil ?_
          intro e he
          simp only [List.mem_cons, List.not_mem_nil, or_false] at he
          subst he
          (unfold wpComes; simp only [List.getElem?_toArray, List.getElem?_cons_succ, List.getElem?_cons_zero, Option.some.injEq]; refine ⟨_, rfl, fun K hK => ?_⟩)
          have f1 := cb9.fz 1
          have g1 := cb9.c1
          go_wp2_with fail
          refine hK _ _ (.inl (by trivial)) ?_
          clear hK K
          refine wpZ_end (by kernel_rfl) ?_
          go_wp2_with fail
          go_meet
          exact ⟨_, CpS.put hB u9 cb9 hown9⟩
        · (unfold wpComes; simp only [List.getElem?_toArray, List.getElem?_cons_succ, List.getElem?_cons_zero, Option.some.injEq]; refine ⟨_, rfl, fun K hK => ?_⟩)
          rw [HA2.out]
          go_wp2_with fail
          have OX := HO4.out.ext (w' := (w4.alloc (.cells #[.int .i64 t.l, .int .i64 t.x, .int .i64 t.y] 60)).drew) (by repeat (with_reducible (first | assumption | exact Ext.refl _ | apply Ext.alloc | apply Ext.drew | apply Ext.drewN)))
          have UX := HU4.out.to (W' := (w4.alloc (.cells #[.int .i64 t.l, .int .i64 t.x, .int .i64 t.y] 60)).drew) (by repeat (with_reducible (first | assumption | exact Ext.refl _ | apply Ext.alloc | apply Ext.drew | apply Ext.drewN)))
          have CX := HC4.out.ext (W' := (w4.alloc (.cells #[.int .i64 t.l, .int .i64 t.x, .int .i64 t.y] 60)).drew) (by repeat (with_reducible (first | assumption | exact Ext.refl _ | apply Ext.alloc | apply Ext.drew | apply Ext.drewN)))
          have ro : ∀ b, (Value.slice a4 k n4).ownBlock = some b → b < w4.heap.size := fun b e => (HO4.out.lt b (by rw [hklen] at *; exact e)).2
          have h0 : (w4.alloc (.cells #[.int .i64 t.l, .int .i64 t.x, .int .i64 t.y] 60)).drew.cell? ⟨w4.heap.size, 0, none⟩ = some (.int .i64 t.l) := by simp [go_sem]
          have h1 : (w4.alloc (.cells #[.int .i64 t.l, .int .i64 t.x, .int .i64 t.y] 60)).drew.cell? ⟨w4.heap.size, 1, none⟩ = some (.int .i64 t.x) := by simp [go_sem]
          have h2 : (w4.alloc (.cells #[.int .i64 t.l, .int .i64 t.x, .int .i64 t.y] 60)).drew.cell? ⟨w4.heap.size, 2, none⟩ = some (.int .i64 t.y) := by simp [go_sem]
          have z8 : (w4.alloc (.cells #[.int .i64 t.l, .int .i64 t.x, .int .i64 t.y] 60)).drew.heap.size = w4.heap.size + 1 := by simp
          have hgx : ∀ b, b < w.heap.size + 3 → (w4.alloc (.cells #[.int .i64 t.l, .int .i64 t.x, .int .i64 t.y] 60)).drew.heap[b]? = w4.heap[b]? := fun b hb => Ext.block (w := w4) (by repeat (with_reducible (first | assumption | exact Ext.refl _ | apply Ext.alloc | apply Ext.drew | apply Ext.drewN))) (by omega)
          obtain ⟨w8, hw8⟩ : ∃ W, (w4.alloc (.cells #[.int .i64 t.l, .int .i64 t.x, .int .i64 t.y] 60)).drew = W := ⟨_, rfl⟩
          rw [hw8] at OX UX CX h0 h1 h2 z8 hgx ⊢
          refine hK _ _ (.inr (fun b _ hb => hgx b hb)) ?_
          clear hK K hw8
          refine wpZ_stage (fuel := 3) [] [6] (by kernel_rfl) (fun b _ hb => hgx b hb) ?_
          refine wpQuiet_nil ?_
          intro e he
          simp only [List.mem_cons, List.not_mem_nil, or_false] at he
          subst he
          (unfold wpComes; simp only [List.getElem?_toArray, List.getElem?_cons_succ, List.getElem?_cons_zero, Option.some.injEq]; refine ⟨_, rfl, fun K hK => ?_⟩)
          go_wp2_with (at_builtin; refine wpList_append_tiles _ rfl _ _ rfl (w.heap.size + 3) _ (C.L.take k) rfl OX (C.L.drop (k + 1)) hId (.slice (some a2) (C.L.length - (k + 1)) (tc - (k + 1))) rfl (.inr ⟨a2, tc - (k + 1), by rw [hdlen], HC2.out _ UX.ext⟩) (by rw [hklen, hdlen]; omega) (by first | omega | (simp; omega)) ?_; intro v6 w6 hown hg)
          obtain ⟨a6, n6, rfl, _⟩ := hown.form
          have u6 := UX.grown hg (fun k e => (OX.lt k e).1)
          have z6 := hg.size
          have cb6 := CX.grown hg (CX.ne OX)
          have hgb : ∀ b, b < w.heap.size + 3 → w6.heap[b]? = w4.heap[b]? := fun b hb => (hg.block b (by omega) (fun e => by have := (OX.lt b e.symm).1; omega)).trans (hgx b hb)
          refine hK _ _ (.inr (fun b _ hb => hgb b hb)) ?_
          have hg8 : w6.heap[w4.heap.size]? = w8.heap[w4.heap.size]? := hg.block _ (by omega) (fun e => by have := ro _ e.symm; omega)
          have h0 := (World.cell?_of_block hg8).trans h0
          have h1 := (World.cell?_of_block hg8).trans h1
          have h2 := (World.cell?_of_block hg8).trans h2
          have O9 := hown
          have U9 := u6
          have C9 := cb6
          clear hK K OX UX CX hg hown u6 cb6
          refine wpZ_stage (fuel := 2) [] [9] (by kernel_rfl) (fun b _ hb => hgb b hb) ?_
          refine wpQuiet_nil ?_
          intro e he
          simp only [List.mem_cons, List.not_mem_nil, or_false] at he
          subst he
          (unfold wpComes; simp only [List.getElem?_toArray, List.getElem?_cons_succ, List.getElem?_cons_zero, Option.some.injEq]; refine ⟨_, rfl, fun K hK => ?_⟩)
          go_wp2_with (at_builtin; refine wpList_append_tile _ rfl _ _ rfl (w.heap.size + 3) (.slice a6 (TLof (C.L.take k ++ C.L.drop (k + 1))).n n6) (TLof (C.L.take k ++ C.L.drop (k + 1))) rfl O9 t ht w4.heap.size rfl h0 h1 h2 (by rw [TLof_n, List.length_append, hklen, hdlen]; omega) (by first | omega | (simp; omega)) ?_; intro v9 w9 hown9 hg9)
          replace hown9 := TLof_snoc_own hown9
          obtain ⟨a9, n9, hv9, _⟩ := hown9.form; generalize (TLof (C.L.take k ++ C.L.drop (k + 1) ++ [t])).n = m9 at hv9; subst hv9
          have u9 := U9.grown hg9 (fun k e => (O9.lt k e).1)
          have cb9 := C9.grown hg9 (C9.ne O9)
          have hgc : ∀ b, b < w.heap.size + 3 → w9.heap[b]? = w4.heap[b]? := fun b hb => (hg9.block b (by first | omega | (simp; omega)) (fun e => by have := (O9.lt b e.symm).1; omega)).trans (hgb b hb)
          refine hK _ _ (.inr (fun b _ hb => hgc b hb)) ?_
          clear hK K
          refine wpZ_stage (fuel := 0) [10] [11] (by kernel_rfl) (fun b _ hb => hgc b hb) ?_
          try simp only [Act.put, List.setIfInBounds_toArray, List.set_cons_succ, List.set_cons_zero]
          simp only [List.filterMap_cons, List.filterMap_nil, List.getElem?_toArray, List.getElem?_cons_zero, List.getElem?_cons_succ]
          show wpQuiet _ _ _ _ [_] _
          repeat (go_big_quiet_step (fail))
          refine wpQuiet_nil ?_
          intro e he
          simp only [List.mem_cons, List.not_mem_nil, or_false] at he
          subst he
          (unfold wpComes; simp only [List.getElem?_toArray, List.getElem?_cons_succ, List.getElem?_cons_zero, Option.some.injEq]; refine ⟨_, rfl, fun K hK => ?_⟩)
          have f1 := cb9.fz 1
          have g1 := cb9.c1
          go_wp2_with fail
          refine hK _ _ (.inl (by trivial)) ?_
          clear hK K
          refine wpZ_end (by kernel_rfl) ?_
          go_wp2_with fail
          go_meet
          exact ⟨_, CpS.put hB u9 cb9 hown9⟩
      case rest =>
        obtain ⟨tv, hcp⟩ := hcut
        clear c0 d0 d1 d2 lt sz sz1
        obtain ⟨vx, vn, hvx, _⟩ := hcp.2.2.2.form
        generalize (TLof (C.L.take k ++ C.L.drop (k + 1) ++ [t])).n = mx at hvx
        subst hvx
        have HPX := hid hcp
        have p0 := HPX.out.2.1.p0
        have p1 := HPX.out.2.1.p1
        have p2 := HPX.out.2.1.p2
        have f0 := HPX.out.2.1.f0
        have f1 := HPX.out.2.1.f1
        have f2 := HPX.out.2.1.f2
        have g0 := HPX.out.2.2.1.c0
        have g1 := HPX.out.2.2.1.c1
        have g2 := HPX.out.2.2.1.c2
        have gl := HPX.out.2.2.1.lt
        have ltx := HPX.out.2.1.lt
        have szx : w.heap.size + 1 + 1 < wc.heap.size := by omega
        clear hcp
        go_wp2_with fail
        refine bodyPost_ret (v := .agg #[.int .i64 C.room, .slice vx mx vn, .int .i64 C.loads]) (by simp [results, Try.results40, go_sem, *]) rfl ⟨_, rfl, ?_, HPX.out.done.2⟩
        rw [HUT.out]
        exact ⟨_, rfl, HPX.out.done.1, hr, hl⟩
    · rw [if_neg hm] at hri
      have hut : C.use t = ⟨C.room, if C.room < ((C.L ++ [t]).length : Int) then (C.L ++ [t]).tail else C.L ++ [t], C.loads + 1⟩ := by
        unfold CV.use
        rw [if_pos HK.out, if_neg hm, List.erase_of_not_mem hm]
      have HUT := hid hut
      clear hut
      have hri : -1 = r := hri
      subst hri
      have hbd := CV.ok_bd HK.out
      have g0 := HP3.out.2.2.1.c0
      have g1 := HP3.out.2.2.1.c1
      have g2 := HP3.out.2.2.1.c2
      have gl := HP3.out.2.2.1.lt
      have d0 := HP3.out.2.1.d0
      have d1 := HP3.out.2.1.d1
      have d2 := HP3.out.2.1.d2
      have lt := HP3.out.2.1.lt
      have sz1 : w.heap.size + 1 < w3.heap.size := by omega
      have E3 : Ext w3 (w3.alloc (.cells #[.int .i64 t.l, .int .i64 t.x, .int .i64 t.y] 60)) := (by repeat (with_reducible (first | assumption | exact Ext.refl _ | apply Ext.alloc | apply Ext.drew | apply Ext.drewN)))
      go_upto_region 11 with (at_builtin; refine wpList_append_tile _ rfl _ _ rfl (w.heap.size + 3) (.slice va (TLof C.L).n vc) (TLof C.L) rfl (HP3.out.ext E3).2.2.2 t ht w3.heap.size rfl (by simp [go_sem]) (by simp [go_sem]) (by simp [go_sem]) (by rw [TLof_n]; omega) (by simp; omega) ?_; intro v4 w4 hown4 hg4; have hp4 := (HP3.out.ext E3).grown (HP3.out.ext E3).2.2.2 hg4; replace hown4 := TLof_snoc_own hown4; obtain ⟨a4, n4, hv4, _⟩ := hown4.form; rw [TLof_n, List.length_append] at hv4; subst hv4; have h1 := hp4.2.c1; have h2 := hp4.2.c2; have k1 := hp4.2.fz 1; have k2 := hp4.2.fz 2; have l4 := hp4.2.lt)
      have hp5 := (CpS.put HP3.out.1 hp4.1 hp4.2 hown4).load (C.loads + 1)
      obtain ⟨⟨e, h0⟩ | ⟨ad, cap, e, hcA⟩⟩ := (⟨hp5.2.2.2.appd⟩ : PLift _)
      · simp at h0
      simp only [Value.slice.injEq] at e
      obtain ⟨rfl, -, rfl⟩ := e
      clear hcA
      simp only [List.length_cons, List.length_nil, Nat.zero_add] at hp5 ⊢
      obtain ⟨w5, hw5⟩ : ∃ W, ((w4.setCell ⟨B, 1, none⟩ (.slice (some ad) (C.L.length + 1) n4)).setCell ⟨B, 2, none⟩ (.int .i64 (C.loads + 1))) = W := ⟨_, rfl⟩
      rw [hw5] at hp5 ⊢
      have HP := hid hp5
      have g0 := hp5.2.2.1.c0
      have g1 := hp5.2.2.1.c1
      have gl := hp5.2.2.1.lt
      clear hw5 hp5 h1 h2 k1 k2 l4 hown4 hp4 hg4 E3 sz1 lt d0 d1 d2 g2 HP3 c0 c1 c2 sz hri HRI
      by_cases hd : C.room < (C.L.length : Int) + 1
      · have hut : C.use t = ⟨C.room, (C.L ++ [t]).drop 1, C.loads + 1⟩ := by
          rw [HUT.out, if_pos (by simpa using hd), List.drop_one]
        clear HUT
        have HUT := hid hut
        clear hut
        have o5 : (TLof []).Own (w.heap.size + 3) (w5.alloc (.cells #[] 60)) (.slice (some ⟨w5.heap.size, 0, none⟩) 0 0) := by
          rw [TLof_nil]
          have := HP.out.2.1.lt
          exact TL.nil_new w5 (w.heap.size + 3) (by omega)
        have e5 : Ext w5 (w5.alloc (.cells #[] 60)) := (by repeat (with_reducible (first | assumption | exact Ext.refl _ | apply Ext.alloc | apply Ext.drew | apply Ext.drewN)))
        have hdl : ((C.L ++ [t]).drop 1).length = C.L.length := by simp
        have hI2 : ∀ x ∈ (C.L ++ [t]).drop 1, x.I := fun x hx => by
          rcases List.mem_append.1 (List.mem_of_mem_drop hx) with h | h
          · exact hI x h
          · simp at h; exact h ▸ ht
        have hn4 : C.L.length + 1 ≤ n4 := by
          obtain ⟨a', cap', e', HF⟩ := Flats.open HP.out.2.2.2.R
          simp only [Value.slice.injEq] at e'
          have := HF.le
          rw [TLof_n] at this
          simp at this
          omega
        have hc2 : ∀ i, i < ((C.L ++ [t]).drop 1).length * 3 → (w5.alloc (.cells #[] 60)).cell? ((⟨ad.block, ad.off + 3, none⟩ : Addr).add i) = some (.int .i64 ((TLof ((C.L ++ [t]).drop 1)).f i)) := by
          intro i hi
          rw [hdl] at hi
          have ea : (⟨ad.block, ad.off + 3, none⟩ : Addr) = ad.add (1 * 3) := by simp [Addr.add]
          rcases (HP.out.2.2.2.ext e5).appd with ⟨h, _⟩ | ⟨a, c, h, hc⟩
          · cases h
          · simp only [Value.slice.injEq, Option.some.injEq] at h
            obtain ⟨rfl, -, rfl⟩ := h
            rw [ea, addr_add_add, TLof_drop]
            exact hc _ (by simp; omega)
        have HC2 := hid hc2
        clear hc2
        go_upto_region 13 with (at_builtin; refine wpList_append_tiles _ rfl _ _ rfl (w.heap.size + 3) _ [] rfl o5 ((C.L ++ [t]).drop 1) hI2 (.slice (some ⟨ad.block, ad.off + 3, none⟩) C.L.length (n4 - 1)) rfl (.inr ⟨⟨ad.block, ad.off + 3, none⟩, n4 - 1, by rw [hdl], HC2.out⟩) (by rw [hdl]; simp; omega) (by have := HP.out.2.1.lt; simp; omega) ?_; intro v6 w6 hown6 hg6; rw [List.nil_append] at hown6; have hp6 := (HP.out.ext e5).grown o5 hg6; obtain ⟨a6, n6, hv6, _⟩ := hown6.form; rw [TLof_n, hdl] at hv6; subst hv6; have h1 := hp6.2.c1; have k1 := hp6.2.fz 1; have l6 := hp6.2.lt)
        have hcp := CpS.put HP.out.1 hp6.1 hp6.2 hown6
        obtain ⟨w7, hw7⟩ : ∃ W, w6.setCell ⟨B, 1, none⟩ (.slice a6 C.L.length n6) = W := ⟨_, rfl⟩
        rw [hw7] at hcp ⊢
        clear hw7 h1 k1 l6 hp6 hown6 hg6 g0 g1 gl HP HC2 o5 e5 hI2
        have HPX := hid hcp
        have p0 := HPX.out.2.1.p0
        have p1 := HPX.out.2.1.p1
        have p2 := HPX.out.2.1.p2
        have f0 := HPX.out.2.1.f0
        have f1 := HPX.out.2.1.f1
        have f2 := HPX.out.2.1.f2
        have g0 := HPX.out.2.2.1.c0
        have g1 := HPX.out.2.2.1.c1
        have g2 := HPX.out.2.2.1.c2
        have gl := HPX.out.2.2.1.lt
        have ltx := HPX.out.2.1.lt
        have szx : w.heap.size + 1 + 1 < w7.heap.size := by omega
        clear hcp
        go_wp2_with fail
        refine bodyPost_ret (v := .agg #[.int .i64 C.room, .slice a6 C.L.length n6, .int .i64 (C.loads + 1)]) (by simp [results, Try.results40, go_sem, *]) rfl ⟨_, rfl, ?_, HPX.out.done.2⟩
        rw [HUT.out]
        exact ⟨_, rfl, HPX.out.done.1, hr, ⟨by show _ ≤ C.loads + 1; omega, by show C.loads + 1 ≤ _; omega⟩⟩

      · have hut : C.use t = ⟨C.room, C.L ++ [t], C.loads + 1⟩ := by
          rw [HUT.out, if_neg (by simpa using hd)]
        clear HUT
        have HUT := hid hut
        clear hut
        go_upto_region 13 with fail
        have hcp := HP.out
        obtain ⟨vx, vn, mx, hvx⟩ : ∃ vx vn mx, Value.slice (some ad) (C.L.length + 1) n4 = .slice vx mx vn := ⟨_, _, _, rfl⟩
        simp only [Value.slice.injEq] at hvx
        obtain ⟨rfl, rfl, rfl⟩ := hvx
        clear g0 g1 gl HP
        have HPX := hid hcp
        have p0 := HPX.out.2.1.p0
        have p1 := HPX.out.2.1.p1
        have p2 := HPX.out.2.1.p2
        have f0 := HPX.out.2.1.f0
        have f1 := HPX.out.2.1.f1
        have f2 := HPX.out.2.1.f2
        have g0 := HPX.out.2.2.1.c0
        have g1 := HPX.out.2.2.1.c1
        have g2 := HPX.out.2.2.1.c2
        have gl := HPX.out.2.2.1.lt
        have ltx := HPX.out.2.1.lt
        have szx : w.heap.size + 1 + 1 < w5.heap.size := by omega
        clear hcp
        go_wp2_with fail
        refine bodyPost_ret (v := .agg #[.int .i64 C.room, .slice (some ad) (C.L.length + 1) n4, .int .i64 (C.loads + 1)]) (by simp [results, Try.results40, go_sem, *]) rfl ⟨_, rfl, ?_, HPX.out.done.2⟩
        rw [HUT.out]
        exact ⟨_, rfl, HPX.out.done.1, hr, ⟨by show _ ≤ C.loads + 1; omega, by show C.loads + 1 ≤ _; omega⟩⟩
end Go.Proofs.Ytcogkglkioejaaa
end

section
/- This text proves what the law's draws of caches hand back. -/
namespace Go.Proofs.Ytcogkglkioejaaa
open Go.RowKit

theorem CV.use_ok {C : CV} {t : T3} (h : C.ok = true) (hl : C.loads < 1000000000) : (C.use t).ok = true := by
  have hb := CV.ok_bd h
  have hn := CV.ok_nodup h
  have hb2 : (C.L.length : Int) ≤ C.loads := by
    unfold CV.ok at h
    simp only [Bool.and_eq_true, decide_eq_true_eq, inB_iff] at h
    omega
  have hN : (C.L.erase t ++ [t]).Nodup := by
    rw [List.nodup_append]
    refine ⟨hn.erase _, by simp, fun a ha b hb => ?_⟩
    simp at hb
    subst hb
    rintro rfl
    exact hn.not_mem_erase ha
  have hlen : t ∈ C.L → (C.L.erase t ++ [t]).length = C.L.length := fun hm => by
    have := List.length_erase_of_mem hm
    have := List.length_pos_of_mem hm
    simp
    omega
  have hlen2 : (C.L.erase t ++ [t]).length ≤ C.L.length + 1 := by
    have := List.length_erase_le (l := C.L) (a := t)
    simp
    omega
  unfold CV.use
  rw [if_pos h]
  generalize C.L.erase t ++ [t] = M at *
  have hT : M.tail.Nodup := hN.sublist (List.tail_sublist M)
  have hTl : M.tail.length = M.length - 1 := List.length_tail
  unfold CV.ok
  simp only [Bool.and_eq_true, decide_eq_true_eq, inB_iff]
  by_cases hm : t ∈ C.L
  · have := hlen hm
    rw [if_pos hm, if_neg (by omega)]
    exact ⟨⟨⟨⟨by omega, by omega⟩, by omega⟩, by omega, by omega⟩, hN⟩
  · rw [if_neg hm]
    split
    · exact ⟨⟨⟨⟨by omega, by omega⟩, by omega⟩, by omega, by omega⟩, hT⟩
    · exact ⟨⟨⟨⟨by omega, by omega⟩, by omega⟩, by omega, by omega⟩, hN⟩
theorem CV.use_loads (C : CV) (t : T3) : C.loads ≤ (C.use t).loads ∧ (C.use t).loads ≤ C.loads + 1 := by
  unfold CV.use
  split
  · dsimp only
    split <;> omega
  · omega

set_option maxHeartbeats 800000 in
theorem sNewCache_any (n : Int) (w : World) (h0 : 1 ≤ n) (h1 : n ≤ 12) :
    Calls Try.prog 52 #[.int .i64 n] w fun e w' => e = .returned (.agg #[.int .i64 n, .slice none 0 0, .int .i64 0]) ∧ Ext w w' := by
  have hc : clampI n 1 12 = n := by unfold clampI; rw [if_neg (by omega), if_neg (by omega)]
  go_enter Try.func52, Try.ntmps52
  go_wp2_with fail
  refine (sClamp_val hc _).mono ?_
  rintro e w1 ⟨rfl, rfl⟩
  go_wp2
  refine bodyPost_ret (v := .agg #[.int .i64 n, .slice none 0 0, .int .i64 0]) (by simp [results, Try.results52, go_sem, *]) rfl ⟨rfl, ?_⟩
  exact (by repeat (first | with_reducible assumption | with_reducible exact Ext.refl _ | with_reducible apply Ext.alloc | with_reducible apply Ext.drew | with_reducible apply Ext.drewN | (with_reducible refine Ext.setCell ?_ (by simp; omega) _) | (with_reducible refine Ext.setCell ?_ (by simp) _)))

/-- the drawer's state: the box of the cache under way, the cursor; k uses are still to come -/
structure CSt (hi B : Nat) (wa wr : World) (g : Nat) (C : CV) (v : Value) (k : Nat) : Prop where
  gr : Gr B wa wr
  low : wa.heap.size ≤ g
  cur : Cur hi wr B
  box : CBx wr g C.room v C.loads
  own : CO wa.heap.size wr (.agg #[.int .i64 C.room, v, .int .i64 C.loads]) C
  ok : C.ok = true
  few : C.room ≤ 4 ∧ C.loads + k ≤ 4
theorem CSt.to {hi B : Nat} {wa wr w' : World} {g : Nat} {C : CV} {v : Value} {k : Nat} (h : CSt hi B wa wr g C v k) (e : Ext wr w') : CSt hi B wa w' g C v k :=
  ⟨h.gr.ext e, h.low, h.cur.ext e, h.box.ext e, h.own.ext e, h.ok, h.few⟩
theorem CBx.gr {B : Nat} {w w1 : World} {b : Nat} {r l : Int} {v : Value} (h : CBx w b r v l) (g : Gr B w w1) (ne : b ≠ B) : CBx w1 b r v l := h.grown g (fun e => ne (by simpa using e))
theorem CO.gr {B lo : Nat} {w w1 : World} {C : CV} {v : Value} (h : CO lo w v C) (g : Gr B w w1) (hB : B < lo) : CO lo w1 v C := by
  obtain ⟨tv, h1, h2, h3⟩ := h
  exact ⟨tv, h1, h2.kept (fun b hb hb' => g.block b hb' (fun e => by simp only [Option.some.injEq] at e; omega)), h3⟩

set_option maxRecDepth 10000 in
set_option maxHeartbeats 3200000 in
theorem l16Draw_any (hi B : Nat) (w : World) (hc : Cur hi w B) :
    Calls Try.prog 23 #[.pointer (some ⟨B, 0, none⟩)] w fun e w' => ∃ (v : Value) (C : CV), e = .returned v ∧ CO w.heap.size w' v C ∧ (C.ok = true ∧ C.room ≤ 4 ∧ C.loads ≤ 4) ∧ Cur hi w' B ∧ Gr B w w' := by
  have HC := hid hc
  have hB := hc.lt
  clear hc
  go_enter Try.func23, Try.ntmps23
  go_wp2_with fail
  refine (l01Below_any hi B 4 _ (HC.out.ext (by repeat (with_reducible (first | assumption | exact Ext.refl _ | apply Ext.alloc | apply Ext.drew | apply Ext.drewN)))) (by decide) ⟨by decide, by decide⟩).mono ?_
  rintro e w1 ⟨R, rfl, ⟨R0, R1⟩, C1, G1⟩
  go_wp2_with fail
  refine (sNewCache_any (1 + R) _ (by omega) (by omega)).mono ?_
  rintro e w2 ⟨rfl, x2⟩
  have C2 := C1.ext x2
  have G2 := G1.ext x2
  obtain ⟨wa, hwa⟩ : ∃ X, w.alloc (.cells #[.int .i64 0, .slice none 0 0, .int .i64 0] 29) = X := ⟨_, rfl⟩
  have hwz : wa.heap.size = w.heap.size + 1 := by rw [← hwa]; simp
  rw [hwa] at G1 G2
  have P0 : CBx wa w.heap.size 0 (.slice none 0 0) 0 := by rw [← hwa]; exact CBx.made w 0 0 _
  have z2 := G2.size
  have e3 : Ext w2 (w2.alloc (.cells #[.int .i64 (1 + R), .slice none 0 0, .int .i64 0] 29)) := (by repeat (with_reducible (first | assumption | exact Ext.refl _ | apply Ext.alloc | apply Ext.drew | apply Ext.drewN)))
  have ok0 : CV.ok ⟨1 + R, [], 0⟩ = true := by
    unfold CV.ok
    simp [inB_iff]
    omega
  have S0 : ∀ k, k ≤ 4 → CSt hi B wa (w2.alloc (.cells #[.int .i64 (1 + R), .slice none 0 0, .int .i64 0] 29)) w2.heap.size ⟨1 + R, [], 0⟩ (.slice none 0 0) k := fun k hk =>
    ⟨G2.ext e3, z2, C2.ext e3, CBx.made w2 _ _ _, ⟨_, rfl, by rw [TLof_nil]; exact TL.nil_own _ _, ⟨by show _ ≤ 1 + R; omega, by show 1 + R ≤ _; omega⟩, ⟨by show (-9223372036854775808 : Int) ≤ 0; decide, by show (0 : Int) ≤ 9223372036854775807; decide⟩⟩, ok0, by show 1 + R ≤ 4; omega, by show (0 : Int) + k ≤ 4; omega⟩
  replace S0 := hid S0
  have HP0 := hid P0
  clear C1 G1 C2 G2 P0 ok0
  go_wp2_with fail
  refine (l01Below_any hi B 5 _ ((S0.out 0 (by decide)).cur) (by decide) ⟨by decide, by decide⟩).mono ?_
  rintro e w4 ⟨x, rfl, ⟨x0, x1⟩, C4, G4⟩
  obtain ⟨P, rfl⟩ : ∃ P : Nat, x = P := ⟨x.toNat, by omega⟩
  have hgB : w2.heap.size ≠ B := by omega
  have S4 : CSt hi B wa w4 w2.heap.size ⟨1 + R, [], 0⟩ (.slice none 0 0) P := by
    have h := S0.out P (by omega)
    exact ⟨h.gr.trans G4, h.low, C4, h.box.gr G4 hgB, h.own.gr G4 (by omega), h.ok, h.few⟩
  obtain ⟨g, hg⟩ : ∃ g, w2.heap.size = g := ⟨_, rfl⟩
  rw [hg] at S4 hgB ⊢
  have HS4 := hid S4
  clear S4 S0 C4 G4 x2 e3 z2 hg
  go_wp2_with fail
  go_loopg [4] P (fun k p wr => ∃ (v : Value) (C : CV), p = .int .i64 k ∧ k ≤ 4 ∧ CSt hi B wa wr g C v k)
  case atStart => exact ⟨_, _, rfl, by omega, HS4.out⟩
  case round =>
    obtain ⟨v, C, rfl, hk4, hst⟩ := hrel
    obtain ⟨av, cv, ev⟩ : ∃ a c, v = .slice a C.L.length c := by
      obtain ⟨tv, he, h1, _⟩ := hst.own
      simp only [Value.agg.injEq, Array.mk.injEq, List.cons.injEq, true_and, and_true] at he
      obtain ⟨a, c, e, _⟩ := h1.form
      exact ⟨a, c, by rw [he, e, TLof_n]⟩
    subst ev
    have g0 := hst.box.c0
    have g1 := hst.box.c1
    have g2 := hst.box.c2
    have gl := hst.box.lt
    have hlow := hst.low
    have HST := hid hst
    clear hst
    by_cases hlt : 0 < gk
    · go_wp2
      refine wp_region_stagesX [([0, 1, 3, 5], 2), ([], 4), ([], 6), ([7], 8), ([], 9)] 9 (g + 1) B (by kernel_rfl) (by kernel_rfl) ?_
      refine wpStagesX_cons ?_
      simp only [List.filterMap_cons, List.filterMap_nil, List.getElem?_toArray, List.getElem?_cons_zero, List.getElem?_cons_succ]
      show wpQuiet _ _ _ _ [_, _, _, _] _
      repeat (go_big_quiet_step (fail))
      refine wpQuiet_nil ⟨_, rfl, fun K hK => ?_⟩
      go_wp2_with fail
      refine (l01Below_any hi B 2 _ (HST.out.cur.ext (by repeat (with_reducible (first | assumption | exact Ext.refl _ | apply Ext.alloc | apply Ext.drew | apply Ext.drewN)))) (by decide) ⟨by decide, by decide⟩).mono ?_
      rintro e w5 ⟨p, rfl, ⟨p0, p1⟩, C5, G5⟩
      have G5' : Gr B wr w5 := ((Gr.refl B wr).ext (by repeat (with_reducible (first | assumption | exact Ext.refl _ | apply Ext.alloc | apply Ext.drew | apply Ext.drewN)))).trans G5
      go_wp2_with fail
      refine hK _ _ (.inr (SameX.gr G5' (by omega))) ?_
      clear hK K G5
      refine wpStagesX_cons ?_
      simp only [List.filterMap_nil]
      show wpQuiet _ _ _ _ [] _
      try simp only [Act.put, List.getElem_toArray, List.getElem_cons_succ, List.getElem_cons_zero, List.setIfInBounds_toArray, List.set_cons_succ, List.set_cons_zero]
      refine wpQuiet_nil ⟨_, rfl, fun K hK => ?_⟩
      go_wp2_with fail
      refine (l01Below_any hi B 3 _ C5 (by decide) ⟨by decide, by decide⟩).mono ?_
      rintro e w6 ⟨q, rfl, ⟨q0, q1⟩, C6, G6⟩
      have G6' := G5'.trans G6
      go_wp2_with fail
      refine hK _ _ (.inr (SameX.gr G6' (by have := G5'.size; omega))) ?_
      clear hK K G6 G5' C5
      refine wpStagesX_cons ?_
      simp only [List.filterMap_nil]
      show wpQuiet _ _ _ _ [] _
      try simp only [Act.put, List.getElem_toArray, List.getElem_cons_succ, List.getElem_cons_zero, List.setIfInBounds_toArray, List.set_cons_succ, List.set_cons_zero]
      refine wpQuiet_nil ⟨_, rfl, fun K hK => ?_⟩
      go_wp2_with fail
      refine (l01Below_any hi B 3 _ C6 (by decide) ⟨by decide, by decide⟩).mono ?_
      rintro e w7 ⟨r, rfl, ⟨r0, r1⟩, C7, G7⟩
      have G7' := G6'.trans G7
      go_wp2_with fail
      refine hK _ _ (.inr (SameX.gr G7' (by have := G6'.size; omega))) ?_
      clear hK K G7 G6' C6
      refine wpStagesX_cons ?_
      simp only [List.filterMap_cons, List.filterMap_nil, List.getElem?_toArray, List.getElem?_cons_zero, List.getElem?_cons_succ]
      show wpQuiet _ _ _ _ [_] _
      try simp only [Act.put, List.getElem_toArray, List.getElem_cons_succ, List.getElem_cons_zero, List.setIfInBounds_toArray, List.set_cons_succ, List.set_cons_zero]
      repeat (go_big_quiet_step (fail))
      refine wpQuiet_nil ⟨_, rfl, fun K hK => ?_⟩
      have hti : T3.I ⟨p, q, r⟩ := ⟨⟨by show _ ≤ p; omega, by show p ≤ _; omega⟩, ⟨by show _ ≤ q; omega, by show q ≤ _; omega⟩, ⟨by show _ ≤ r; omega, by show r ≤ _; omega⟩⟩
      have z7 := G7'.size
      have O7 := HST.out.own.gr G7' (by omega)
      have hCl := CV.ok_len HST.out.ok
      go_wp2_with fail
      refine (sUseTile_any _ _ C ⟨p, q, r⟩ _ O7 hti (by omega)).mono ?_
      rintro e w8 ⟨v8, rfl, O8, x8⟩
      obtain ⟨tv8, rfl, o8, i8, j8⟩ := O8
      obtain ⟨a8, c8, e8, _⟩ := o8.form
      rw [TLof_n] at e8
      subst e8
      have G8 := G7'.ext x8
      have z8 := x8.size
      have b8 := (HST.out.box.gr G7' (by omega)).ext x8
      have f0 := b8.fz 0
      have f1 := b8.fz 1
      have f2 := b8.fz 2
      have k0 := b8.c0
      have k1 := b8.c1
      have k2 := b8.c2
      have kl := b8.lt
      have HB8 := hid b8
      have HO8 := hid o8
      clear b8 o8 O7
      go_wp2_with fail
      refine hK _ _ (.inr (SameX.gr G8 (by omega))) ?_
      clear hK K
      refine wpStagesX_cons ?_
      simp only [List.filterMap_nil]
      show wpQuiet _ _ _ _ [] _
      try simp only [Act.put, List.getElem_toArray, List.getElem_cons_succ, List.getElem_cons_zero, List.setIfInBounds_toArray, List.set_cons_succ, List.set_cons_zero]
      refine wpQuiet_nil ⟨_, rfl, fun K hK => ?_⟩
      go_wp2_with fail
      refine hK _ _ (.inl (by trivial)) (wpStagesX_nil ?_)
      clear hK K
      go_wp2
      go_roundg (gk - 1)
      case measure => omega
      case rel =>
        have hn := HB8.out.ne HO8.out
        have hgw := HST.out.low
        refine ⟨_, _, by go_num, by omega, ⟨(((HST.out.gr.trans G8).setNew hgw _ _).setNew hgw _ _).setNew hgw _ _, hgw, (((C7.ext x8).setNew (by omega) _ _).setNew (by omega) _ _).setNew (by omega) _ _, ((HB8.out.set0 _).set1 _).set2 _, ⟨_, rfl, (((HO8.out.setOther hn 0 _).setOther hn 1 _).setOther hn 2 _).low (by omega), i8, j8⟩, CV.use_ok HST.out.ok (by have := HST.out.few; omega), ?_⟩⟩
        have h1 := HST.out.few
        have h2 := CV.use_loads C ⟨p, q, r⟩
        rw [CV.use_room]
        omega
    · have hgk : gk = 0 := by omega
      have R0 := HST.out.gr.size
      have P0 := HP0.out.gr HST.out.gr (by omega)
      have p0 := P0.c0
      have p1 := P0.c1
      have p2 := P0.c2
      have f0 := P0.fz 0
      have f1 := P0.fz 1
      have f2 := P0.fz 2
      have pl := P0.lt
      clear P0
      go_wp2
      obtain ⟨tv, he, o1, i1, j1⟩ := HST.out.own
      simp only [Value.agg.injEq, Array.mk.injEq, List.cons.injEq, true_and, and_true] at he
      obtain rfl := he
      refine bodyPost_ret (v := .agg #[.int .i64 C.room, .slice av C.L.length cv, .int .i64 C.loads]) (by simp [results, Try.results23, go_sem, *]) rfl ⟨_, C, rfl, ⟨_, rfl, ?_, i1, j1⟩, ⟨HST.out.ok, HST.out.few.1, by have := HST.out.few; omega⟩, ?_, ?_⟩
      · exact (((o1.setLow (by simp; omega) _).setLow (by simp; omega) _).setLow (by simp; omega) _).low (by omega)
      · exact ((HST.out.cur.setNew (by omega) _ _).setNew (by omega) _ _).setNew (by omega) _ _
      · have hg0 : Gr B w wr := ((Gr.refl B w).ext (show Ext w wa from by rw [← hwa]; exact (by repeat (with_reducible (first | assumption | exact Ext.refl _ | apply Ext.alloc | apply Ext.drew | apply Ext.drewN))))).trans HST.out.gr
        exact ((hg0.setNew (Nat.le_refl _) _ _).setNew (Nat.le_refl _) _ _).setNew (Nat.le_refl _) _ _

set_option maxHeartbeats 800000 in
theorem MakeCache_any (hi : Nat) (v : Value) (n : Nat) (w : World) (hv : Byts hi w v n) (hh : hi ≤ w.heap.size) (hn : n ≤ 1048576) :
    Calls Try.prog 6 #[v] w fun e w' => ∃ (v : Value) (C : CV), e = .returned v ∧ CO w.heap.size w' v C ∧ (C.ok = true ∧ C.room ≤ 4 ∧ C.loads ≤ 4) ∧ Ext w w' := by
  have HV := hid hv
  obtain ⟨a, cap, rfl, k1, k2⟩ := hv.open
  clear hv
  go_enter Try.func6, Try.ntmps6
  go_wp2_with fail
  refine (l32New_any hi _ n 3 _ (HV.out.ext hh (by repeat (with_reducible (first | assumption | exact Ext.refl _ | apply Ext.alloc | apply Ext.drew | apply Ext.drewN)))) (by simp; omega) hn (by decide)).mono ?_
  rintro e w1 ⟨B, rfl, hB, C1, x1⟩
  go_wp2_with fail
  refine (l16Draw_any hi B _ C1).mono ?_
  rintro e w2 ⟨v2, C, rfl, O2, hok, C2, G2⟩
  obtain ⟨u, rfl, o2, i2, j2⟩ := O2
  obtain ⟨a2, c2, e2, -⟩ := o2.form
  rw [TLof_n] at e2
  subst e2
  rw [World.size_alloc] at hB
  have x1' : Ext w w1 := Ext.trans (by repeat (with_reducible (first | assumption | exact Ext.refl _ | apply Ext.alloc | apply Ext.drew | apply Ext.drewN))) x1
  have P0 := ((CBx.made w 0 0 (.slice none 0 0)).ext x1).gr G2 (by omega)
  have p0 := P0.c0
  have p1 := P0.c1
  have p2 := P0.c2
  have f0 := P0.fz 0
  have f1 := P0.fz 1
  have f2 := P0.fz 2
  have pl := P0.lt
  have zz := x1.size
  rw [World.size_alloc] at zz
  clear P0
  go_wp2
  refine bodyPost_ret (v := .agg #[.int .i64 C.room, .slice a2 C.L.length c2, .int .i64 C.loads]) (by simp [results, Try.results6, go_sem, *]) rfl ⟨_, C, rfl, ⟨_, rfl, ?_, i2, j2⟩, hok, ?_⟩
  · exact (((o2.setLow (by simp; omega) _).setLow (by simp; omega) _).setLow (by simp; omega) _).low (by omega)
  · exact (((G2.up x1' (by omega)).setCell (Nat.le_refl _) _).setCell (Nat.le_refl _) _).setCell (Nat.le_refl _) _
end Go.Proofs.Ytcogkglkioejaaa
end

section
/- This text proves that tiles that were used stay in a large cache: a second use of the same tiles loads nothing. -/
namespace Go.Proofs.Ytcogkglkioejaaa

theorem CV.uses_cons (C : CV) (t : T3) (l : List T3) : C.uses (t :: l) = (C.use t).uses l := rfl
theorem CV.uses_ok : ∀ (l : List T3) (C : CV), C.ok = true → C.loads + l.length ≤ 1000000000 → (C.uses l).ok = true ∧ C.loads ≤ (C.uses l).loads ∧ (C.uses l).loads ≤ C.loads + l.length ∧ (C.uses l).room = C.room
  | [], C, h, _ => ⟨h, Int.le_refl _, by simp [CV.uses_nil], rfl⟩
  | t :: l, C, h, hb => by
    simp only [List.length_cons] at hb
    have h1 := CV.use_ok (t := t) h (by omega)
    have h2 := CV.use_loads C t
    have h3 := CV.uses_ok l (C.use t) h1 (by omega)
    rw [CV.uses_cons]
    refine ⟨h3.1, by omega, ?_, by rw [h3.2.2.2, CV.use_room]⟩
    simp only [List.length_cons]
    omega

/-- the last j tiles hold all of S -/
def CV.tail (C : CV) (S : List T3) (j : Nat) : Prop := ∃ A B, C.L = A ++ B ∧ B.length ≤ j ∧ ∀ s ∈ S, s ∈ B
theorem CV.tail_use {C : CV} {S : List T3} {j : Nat} {t : T3} (h : C.tail S j) (ho : C.ok = true) (hj : (j : Int) + 1 ≤ C.room) : (C.use t).tail (S ++ [t]) (j + 1) := by
  obtain ⟨A, B, hL, hB, hS⟩ := h
  have hn := CV.ok_nodup ho
  have hb := CV.ok_bd ho
  -- the list behind the use, ahead of the drop
  have key : ∃ A' B', C.L.erase t ++ [t] = A' ++ B' ∧ B'.length ≤ j + 1 ∧ ∀ s ∈ S ++ [t], s ∈ B' := by
    by_cases hA : t ∈ A
    · refine ⟨A.erase t, B ++ [t], ?_, by simp; omega, ?_⟩
      · rw [hL, List.erase_append_left _ hA, List.append_assoc]
      · intro s hs
        rcases List.mem_append.1 hs with h | h
        · exact List.mem_append_left _ (hS s h)
        · exact List.mem_append_right _ h
    · refine ⟨A, B.erase t ++ [t], ?_, ?_, ?_⟩
      · rw [hL, List.erase_append_right _ hA, List.append_assoc]
      · have := List.length_erase_le (l := B) (a := t)
        simp
        omega
      · intro s hs
        rcases List.mem_append.1 hs with h | h
        · by_cases e : s = t
          · exact List.mem_append_right _ (by simp [e])
          · exact List.mem_append_left _ ((List.mem_erase_of_ne e).2 (hS s h))
        · exact List.mem_append_right _ h
  obtain ⟨A', B', h1, h2, h3⟩ := key
  unfold CV.use
  rw [if_pos ho]
  split
  · rename_i hlt
    rw [h1] at hlt ⊢
    cases A' with
    | nil =>
      simp at hlt
      omega
    | cons a A'' => exact ⟨A'', B', rfl, h2, h3⟩
  · rw [h1]
    exact ⟨A', B', rfl, h2, h3⟩
theorem CV.tail_uses : ∀ (l : List T3) (C : CV) (S : List T3) (j : Nat), C.tail S j → C.ok = true → C.loads + l.length ≤ 1000000000 → (j : Int) + l.length ≤ C.room → (C.uses l).tail (S ++ l) (j + l.length)
  | [], C, S, j, h, _, _, _ => by simpa [CV.uses_nil] using h
  | t :: l, C, S, j, h, ho, hb, hj => by
    simp only [List.length_cons] at hb hj
    have h1 := CV.tail_use (t := t) h ho (by omega)
    have h2 := CV.use_ok (t := t) ho (by omega)
    have h3 := CV.use_loads C t
    have h4 := CV.tail_uses l (C.use t) (S ++ [t]) (j + 1) h1 h2 (by omega) (by rw [CV.use_room]; omega)
    rw [CV.uses_cons]
    have e : S ++ t :: l = S ++ [t] ++ l := by simp
    have e2 : j + (t :: l).length = j + 1 + l.length := by simp; omega
    rw [e, e2]
    exact h4
/-- tiles that are there load nothing -/
theorem CV.uses_there : ∀ (l : List T3) (C : CV), C.ok = true → C.loads < 1000000000 → (∀ t ∈ l, t ∈ C.L) → (C.uses l).loads = C.loads
  | [], _, _, _, _ => rfl
  | t :: l, C, ho, hl, h => by
    have ht : t ∈ C.L := h t (by simp)
    have hb := CV.ok_bd ho
    have hu : C.use t = ⟨C.room, C.L.erase t ++ [t], C.loads⟩ := by
      unfold CV.use
      have hlen : ((C.L.erase t ++ [t]).length : Int) = C.L.length := by
        have := List.length_erase_of_mem ht
        have := List.length_pos_of_mem ht
        simp
        omega
      rw [if_pos ho, if_pos ht, if_neg (by omega)]
    have h1 := CV.use_ok (t := t) ho hl
    rw [CV.uses_cons]
    rw [CV.uses_there l (C.use t) h1 (by rw [hu]; exact hl) ?_, hu]
    intro s hs
    rw [hu]
    show s ∈ C.L.erase t ++ [t]
    by_cases e : s = t
    · simp [e]
    · exact List.mem_append_left _ ((List.mem_erase_of_ne e).2 (h s (by simp [hs])))
/-- a second use of few tiles loads nothing in a cache with room -/
theorem CV.uses_twice {C : CV} {l : List T3} (ho : C.ok = true) (hl : C.loads + l.length < 1000000000) (hr : (l.length : Int) ≤ C.room) : ((C.uses l).uses l).loads = (C.uses l).loads := by
  have h0 : C.tail [] 0 := ⟨C.L, [], by simp, by simp, fun s hs => by simp at hs⟩
  have h1 := CV.tail_uses l C [] 0 h0 ho (by omega) (by omega)
  obtain ⟨A, B, e, _, hS⟩ := h1
  have h2 := CV.uses_ok l C ho (by omega)
  exact CV.uses_there l _ h2.1 (by omega) fun t ht => by
    rw [e]
    exact List.mem_append_right _ (hS t (by simpa using ht))
end Go.Proofs.Ytcogkglkioejaaa
end

section
/- This text proves that the reference draws valid textures. -/
namespace Go.Proofs.Ytcogkglkioejaaa
open Go.RowKit

set_option maxHeartbeats 800000 in
theorem l01Pick_any (hi B g n : Nat) (xs : List Int) (w : World) (hc : Cur hi w B) (hg : Blk w g 3 (xs.map (Value.int .i64))) (hne : g ≠ B) (hn : xs.length = n) (h1 : 1 ≤ n) (h2 : n ≤ 1000) :
    Calls Try.prog 51 #[.pointer (some ⟨B, 0, none⟩), .slice (some ⟨g, 0, none⟩) n n] w fun e w' => ∃ x : Int, e = .returned (.int .i64 x) ∧ x ∈ xs ∧ Cur hi w' B ∧ Gr B w w' := by
  have HC := hid hc
  have HG := hid hg
  have HN := hid hn
  clear hc hg hn
  go_enter Try.func51, Try.ntmps51
  go_wp2_with fail
  refine (l01Below_any hi B n _ HC.out (by omega) ⟨by omega, by omega⟩).mono ?_
  rintro e w1 ⟨x, rfl, ⟨x0, x1⟩, C1, G1⟩
  obtain ⟨k, rfl⟩ : ∃ k : Nat, x = k := ⟨x.toNat, by omega⟩
  have B1 := G1.blk HG.out hne
  have hk : k < xs.length := by rw [HN.out]; omega
  have c0 := B1.cell k (v := .int .i64 xs[k]) (by simp [hk])
  have hm : xs[k] ∈ xs := List.getElem_mem hk
  obtain ⟨y, hy⟩ : ∃ y, xs[k] = y := ⟨_, rfl⟩
  rw [hy] at c0 hm
  have z1 := B1.lt
  have hkn : k < n := by omega
  clear hy hk
  go_wp2
  go_ret
  exact ⟨y, rfl, hm, C1, G1⟩

/-- the drawer's state: the box of the texture under way, its row of texels, the cursor -/
structure TSt (hi B : Nat) (wa wr : World) (g : Nat) (L : Int) (v : Value) (px : List Int) : Prop where
  gr : Gr B wa wr
  low : wa.heap.size ≤ g
  cur : Cur hi wr B
  box : Blk wr g 25 [.int .i64 L, v]
  own : OwnInts (g + 1) wr v px
  all : ∀ p ∈ px, 0 ≤ p ∧ p ≤ 256
theorem TSt.to {hi B : Nat} {wa wr w' : World} {g : Nat} {L : Int} {v : Value} {px : List Int} (h : TSt hi B wa wr g L v px) (e : Ext wr w') : TSt hi B wa w' g L v px :=
  ⟨h.gr.ext e, h.low, h.cur.ext e, h.box.ext e, h.own.ext e, h.all⟩

set_option maxRecDepth 10000 in
set_option maxHeartbeats 1600000 in
theorem l15Draw_any (hi B : Nat) (w : World) (hc : Cur hi w B) :
    Calls Try.prog 21 #[.pointer (some ⟨B, 0, none⟩)] w fun e w' => ∃ (v : Value) (t : Tex), e = .returned v ∧ OwnTex w.heap.size w' v t ∧ t.Ok ∧ Cur hi w' B ∧ Gr B w w' := by
  have HC := hid hc
  have hB := hc.lt
  clear hc
  go_enter Try.func21, Try.ntmps21
  go_wp2_with fail
  refine (l01Below_any hi B 4 _ (HC.out.ext (by repeat (with_reducible (first | assumption | exact Ext.refl _ | apply Ext.alloc | apply Ext.drew | apply Ext.drewN)))) (by decide) ⟨by decide, by decide⟩).mono ?_
  rintro e w1 ⟨L, rfl, ⟨L0, L1⟩, C1, G1⟩
  have hL4 : L ≤ 4 := by omega
  obtain ⟨m, hm⟩ : ∃ m : Nat, 2 ^ L.toNat = m := ⟨_, rfl⟩
  have hm16 : m ≤ 8 := by
    have : L = 0 ∨ L = 1 ∨ L = 2 ∨ L = 3 := by omega
    rcases this with h | h | h | h <;> subst h <;> simp at hm <;> omega
  have hm1 : 1 ≤ m := hm ▸ Nat.one_le_two_pow
  obtain ⟨P, hP⟩ : ∃ P : Nat, m * m = P := ⟨_, rfl⟩
  have hP64 : P ≤ 64 := by rw [← hP]; exact Nat.mul_le_mul hm16 hm16
  have hP1 : 1 ≤ P := by rw [← hP]; exact Nat.mul_le_mul hm1 hm1
  have hmm : wrap64 ((m : Int) * (m : Int)) = (P : Int) := by rw [← Int.natCast_mul, hP]; exact I64.wrap ⟨by omega, by omega⟩
  have S0 : TSt hi B (w.alloc (.cells #[.int .i64 0, .slice none 0 0] 25)) (w1.alloc (.cells #[.int .i64 L, .slice none 0 0] 25)) w1.heap.size L (.slice none 0 0) [] :=
    ⟨G1.ext (by repeat (with_reducible (first | assumption | exact Ext.refl _ | apply Ext.alloc | apply Ext.drew | apply Ext.drewN))), G1.size, C1.ext (by repeat (with_reducible (first | assumption | exact Ext.refl _ | apply Ext.alloc | apply Ext.drew | apply Ext.drewN))), Blk.new w1 _ [.int .i64 L, .slice none 0 0], OwnInts.nil _ _, fun p h => by cases h⟩
  have hsz := hid (fun w => hm ▸ l15Size_tex (t := ⟨L, []⟩) L0 hL4 w : ∀ w, Calls Try.prog 50 #[.int .i64 L] w fun e w' => e = .returned (.int .i64 (m : Nat)) ∧ w = w')
  replace S0 := hid S0
  replace hm := hid hm
  replace hP := hid hP
  have c0 := S0.out.box.cell 0 rfl
  have z0 := S0.out.box.lt
  clear C1 G1 hm16 hm1
  go_wp2
  go_quiet ((go_at_call 50; exact quiet_same (hsz.out _)))
  go_wp2
  rw [hmm]
  clear c0 z0 hmm
  go_loopg [4] P (fun k p wr => ∃ (v : Value) (px : List Int), p = .int .i64 k ∧ px.length + k = P ∧ TSt hi B (w.alloc (.cells #[.int .i64 0, .slice none 0 0] 25)) wr w1.heap.size L v px)
  case atStart => exact ⟨_, [], rfl, by simp, S0.out.to (by repeat (with_reducible (first | assumption | exact Ext.refl _ | apply Ext.alloc | apply Ext.drew | apply Ext.drewN)))⟩
  case round =>
    obtain ⟨v, px, rfl, hk, hst⟩ := hrel
    obtain ⟨av, cv, ev, -⟩ := hst.own.form
    obtain ⟨n, hn⟩ : ∃ n, px.length = n := ⟨_, rfl⟩
    rw [hn] at ev hk
    subst ev
    have b1 := hst.box.cell 1 rfl
    have z0 := hst.box.lt
    have HN := hid hn
    have HST := hid hst
    have hgB : w1.heap.size ≠ B := by have := hst.low; simp at this; omega
    clear hst hn
    by_cases hlt : 0 < gk
    · go_wp2
      refine wp_region_stagesX [([0, 1, 2, 3], 4), ([], 5), ([], 6), ([], 7), ([], 8), ([9], 10)] 10 (w1.heap.size + 1) B (by kernel_rfl) (by kernel_rfl) ?_
      refine wpStagesX_cons ?_
      simp only [List.filterMap_cons, List.filterMap_nil, List.getElem?_toArray, List.getElem?_cons_zero, List.getElem?_cons_succ]
      show wpQuiet _ _ _ _ [_, _, _, _] _
      repeat (go_big_quiet_step (fail))
      refine wpQuiet_nil ⟨_, rfl, fun K hK => ?_⟩
      go_wp2_with fail
      refine (l01Below_any hi B 257 _ (HST.out.cur.ext (by repeat (with_reducible (first | assumption | exact Ext.refl _ | apply Ext.alloc | apply Ext.drew | apply Ext.drewN)))) (by decide) ⟨by decide, by decide⟩).mono ?_
      rintro e w3 ⟨p, rfl, ⟨p0, p1⟩, C3, G3⟩
      have G3' : Gr B wr w3 := ((Gr.refl B wr).ext (by repeat (with_reducible (first | assumption | exact Ext.refl _ | apply Ext.alloc | apply Ext.drew | apply Ext.drewN)))).trans G3
      go_wp2_with fail
      refine hK _ _ (.inr (SameX.gr G3' (by omega))) ?_
      clear hK K
      refine wpStagesX_cons ?_
      simp only [List.filterMap_nil]
      show wpQuiet _ _ _ _ [] _
      try simp only [Act.put, List.getElem_toArray, List.getElem_cons_succ, List.getElem_cons_zero, List.setIfInBounds_toArray, List.set_cons_succ, List.set_cons_zero]
      refine wpQuiet_nil ⟨_, rfl, fun K hK => ?_⟩
      go_wp2_with fail
      have y4 : Ext w3 (w3.alloc (.cells #[.int .i64 0, .int .i64 256, .int .i64 p] 3)) := (by repeat (with_reducible (first | assumption | exact Ext.refl _ | apply Ext.alloc | apply Ext.drew | apply Ext.drewN)))
      have G4 := G3'.ext y4
      have C4 := C3.ext y4
      have B4 := Blk.new w3 3 ([0, 256, p].map (Value.int .i64))
      have z3 := G3'.size
      refine hK _ _ (.inr (SameX.gr G4 (by omega))) ?_
      clear hK K
      refine wpStagesX_cons ?_
      simp only [List.filterMap_nil]
      show wpQuiet _ _ _ _ [] _
      try simp only [Act.put, List.getElem_toArray, List.getElem_cons_succ, List.getElem_cons_zero, List.setIfInBounds_toArray, List.set_cons_succ, List.set_cons_zero]
      refine wpQuiet_nil ⟨_, rfl, fun K hK => ?_⟩
      go_wp2_with fail
      refine (l01Pick_any hi B _ 3 [0, 256, p] _ C4 B4 (by have := HST.out.low; simp at this; omega) rfl (by decide) (by decide)).mono ?_
      rintro e w5 ⟨q, rfl, hq, C5, G5⟩
      have hq256 : 0 ≤ q ∧ q ≤ 256 := by
        simp only [List.mem_cons, List.not_mem_nil, or_false] at hq
        rcases hq with rfl | rfl | rfl <;> omega
      have G5' := G4.trans G5
      go_wp2_with fail
      refine hK _ _ (.inr (SameX.gr G5' (by omega))) ?_
      clear hK K hq
      refine wpStagesX_cons ?_
      simp only [List.filterMap_nil]
      show wpQuiet _ _ _ _ [] _
      try simp only [Act.put, List.getElem_toArray, List.getElem_cons_succ, List.getElem_cons_zero, List.setIfInBounds_toArray, List.set_cons_succ, List.set_cons_zero]
      refine wpQuiet_nil ⟨_, rfl, fun K hK => ?_⟩
      go_wp2_with fail
      have y6 : Ext w5 (w5.alloc (.cells #[.int .i64 q] 3)) := (by repeat (with_reducible (first | assumption | exact Ext.refl _ | apply Ext.alloc | apply Ext.drew | apply Ext.drewN)))
      have z5 := G5'.size
      refine hK _ _ (.inr (SameX.gr (G5'.ext y6) (by omega))) ?_
      clear hK K
      refine wpStagesX_cons ?_
      simp only [List.filterMap_nil]
      show wpQuiet _ _ _ _ [] _
      try simp only [Act.put, List.getElem_toArray, List.getElem_cons_succ, List.getElem_cons_zero, List.setIfInBounds_toArray, List.set_cons_succ, List.set_cons_zero]
      refine wpQuiet_nil ⟨_, rfl, fun K hK => ?_⟩
      have hlow := HST.out.low
      rw [World.size_alloc] at hlow
      have own5 : OwnInts (w1.heap.size + 1) w5 (.slice av n cv) px := HST.out.own.kept (fun b hb hb' => G5'.block b hb' (fun e => by simp only [Option.some.injEq] at e; omega))
      refine wpList_append1 _ rfl _ _ rfl (w1.heap.size + 1) (.slice av n cv) px rfl (own5.alloc _) q ⟨by omega, by omega⟩ w5.heap.size rfl (by simp [go_sem]) (by rw [HN.out]; omega) (by simp; omega) ?_
      intro v' w6 hown hg
      obtain ⟨a4, c4, e4, -⟩ := hown.form
      rw [show (px ++ [q]).length = n + 1 by rw [List.length_append, HN.out]; rfl] at e4
      subst e4
      have hz4 := hg.size
      rw [World.size_alloc] at hz4
      have hv3 : ∀ k, (Value.slice av n cv).ownBlock = some k → w1.heap.size + 1 ≤ k := fun k hk => (own5.lt k hk).1
      have hkeep : ∀ b, b < w1.heap.size + 1 → w6.heap[b]? = w5.heap[b]? := fun b hb => (hg.block b (by simp; omega) (fun e => by have := hv3 b e.symm; omega)).trans (y6.block (by omega))
      have X6 : SameX (w1.heap.size + 1) B wr w6 := (SameX.gr G5' (by omega)).trans (SameX.of (fun b _ hb => hkeep b hb))
      have B6 := (G5'.blk HST.out.box hgB).of (hkeep _ (by omega))
      have HC6 := hid (C5.keep (fun b hb => hkeep b (by omega)) : Cur hi w6 B)
      have HG6 := hid (((HST.out.gr.trans G5').ext y6).step hg (fun k hk => by have := hv3 k hk; simp; omega) : Gr B (w.alloc (.cells #[.int .i64 0, .slice none 0 0] 25)) w6)
      have HO6 := hid hown
      have c2' := B6.cell 1 rfl
      have f2' := B6.free 1
      have z4 := B6.lt
      have HB6 := hid B6
      clear hg hown own5 B6 hv3 hkeep C3 G3 G3' C4 G4 B4 y4 C5 G5 G5' y6
      go_wp2_with fail
      refine hK _ _ (.inr X6) ?_
      clear hK K X6
      refine wpStagesX_cons ?_
      simp only [List.filterMap_cons, List.filterMap_nil, List.getElem?_toArray, List.getElem?_cons_zero, List.getElem?_cons_succ]
      show wpQuiet _ _ _ _ [_] _
      try simp only [Act.put, List.getElem_toArray, List.getElem_cons_succ, List.getElem_cons_zero, List.setIfInBounds_toArray, List.set_cons_succ, List.set_cons_zero]
      repeat (go_big_quiet_step (fail))
      refine wpQuiet_nil ⟨_, rfl, fun K hK => ?_⟩
      go_wp2
      refine hK _ _ (.inl (by trivial)) (wpStagesX_nil ?_)
      clear hK K
      go_wp2
      go_roundg (gk - 1)
      case measure => omega
      case rel =>
        refine ⟨_, px ++ [q], by go_num, by rw [List.length_append, HN.out]; simp; omega, ⟨HG6.out.setNew (by simp; omega) _ _, HST.out.low, HC6.out.setNew (by omega) _ _, HB6.out.set 1 _, HO6.out.setLow (by simp) _, ?_⟩⟩
        intro y hy
        rcases List.mem_append.1 hy with h | h
        · exact HST.out.all y h
        · simp at h; subst h; exact hq256
    · have hst := HST.out
      have R0 := hst.gr.blk (Blk.new w 25 [.int .i64 0, .slice none 0 0]) (by omega)
      have r0 := R0.cell 0 rfl
      have r1 := R0.cell 1 rfl
      have f0 := R0.free 0
      have f1 := R0.free 1
      have zr := R0.lt
      have b0 := hst.box.cell 0 rfl
      have hgl := hst.low
      rw [World.size_alloc] at hgl
      have iL : I64 L := ⟨by omega, by omega⟩
      obtain rfl : n = px.length := HN.out.symm
      have hgk : gk = 0 := by omega
      have HK := hid hgk
      have HPx := hid (by omega : px.length = P)
      clear hst hgk hk
      go_wp2
      refine bodyPost_ret (v := .agg #[.int .i64 L, .slice av px.length cv]) (by simp [results, Try.results21, go_sem, *]) rfl ⟨_, rfl, ⟨L, px⟩, ⟨_, rfl, iL, ?_⟩, ⟨L0, hL4, ?_, HST.out.all⟩, ?_, ?_⟩
      · exact ((HST.out.own.setLow (by simp; omega) _).setLow (by simp; omega) _).low (by omega)
      · show px.length = 2 ^ L.toNat * 2 ^ L.toNat
        rw [hm.out, hP.out, HPx.out]
      · exact (HST.out.cur.setNew (by omega) _ _).setNew (by omega) _ _
      · exact ((((Gr.refl B w).ext (show Ext w (w.alloc (.cells #[.int .i64 0, .slice none 0 0] 25)) from (by repeat (with_reducible (first | assumption | exact Ext.refl _ | apply Ext.alloc | apply Ext.drew | apply Ext.drewN))))).trans HST.out.gr).setNew (Nat.le_refl _) _ _).setNew (Nat.le_refl _) _ _

set_option maxHeartbeats 800000 in
theorem MakeTexture_any (hi : Nat) (v : Value) (n : Nat) (w : World) (hv : Byts hi w v n) (hh : hi ≤ w.heap.size) (hn : n ≤ 1048576) :
    Calls Try.prog 5 #[v] w fun e w' => ∃ (v : Value) (t : Tex), e = .returned v ∧ OwnTex w.heap.size w' v t ∧ t.Ok ∧ Ext w w' := by
  have HV := hid hv
  obtain ⟨a, cap, rfl, k1, k2⟩ := hv.open
  clear hv
  go_enter Try.func5, Try.ntmps5
  go_wp2_with fail
  refine (l01New_any hi _ n _ (HV.out.ext hh (by repeat (with_reducible (first | assumption | exact Ext.refl _ | apply Ext.alloc | apply Ext.drew | apply Ext.drewN)))) (by simp; omega) hn).mono ?_
  rintro e w1 ⟨B, rfl, hB, C1, x1⟩
  go_wp2_with fail
  refine (l15Draw_any hi B _ C1).mono ?_
  rintro e w2 ⟨v2, t, rfl, O2, hok, C2, G2⟩
  obtain ⟨u, rfl, hlog, o2⟩ := O2
  obtain ⟨a2, c2, rfl, -⟩ := o2.form
  obtain ⟨m, hm⟩ : ∃ m, t.px.length = m := ⟨_, rfl⟩
  rw [World.size_alloc] at hB
  have x1' : Ext w w1 := Ext.trans (by repeat (with_reducible (first | assumption | exact Ext.refl _ | apply Ext.alloc | apply Ext.drew | apply Ext.drewN))) x1
  have R0 := G2.blk ((Blk.new w 25 [.int .i64 0, .slice none 0 0]).ext x1) (by omega)
  have r0 := R0.cell 0 rfl
  have r1 := R0.cell 1 rfl
  have f0 := R0.free 0
  have f1 := R0.free 1
  have z1 := R0.lt
  have zz := x1.size
  rw [World.size_alloc] at zz
  clear hm
  go_wp2
  refine bodyPost_ret (v := .agg #[.int .i64 t.log, .slice a2 t.px.length c2]) (by simp [results, Try.results5, go_sem, *]) rfl ⟨_, t, rfl, ⟨_, rfl, hlog, ?_⟩, hok, ?_⟩
  · exact ((o2.setLow (by simp; omega) _).setLow (by simp; omega) _).low (by omega)
  · exact ((G2.up x1' (by omega)).setCell (Nat.le_refl _) _).setCell (Nat.le_refl _) _
end Go.Proofs.Ytcogkglkioejaaa
end

section
/- This text walks the law FnCache. -/
namespace Go.Proofs.Ytcogkglkioejaaa
open Go.RowKit

set_option maxRecDepth 10000 in
set_option maxHeartbeats 1600000 in
theorem lawCch2 (v : Value) (n : Nat) (W : World) (hv : Byts W.heap.size W v n) :
    Calls Try.prog 3 #[v] W fun e w' => e = .returned (.bool true) ∧ Ext W w' := by
  have HV := hid hv
  obtain ⟨a, cap, rfl, k1, k2⟩ := hv.open
  clear hv
  by_cases hn : n ≤ 1048576
  · go_enter Try.func3, Try.ntmps3
    go_wp2_with fail
    refine (MakeTexture_any W.heap.size _ n _ HV.out (Nat.le_refl _) hn).mono ?_
    rintro e w1 ⟨v1, t, rfl, O1, hok, x1⟩
    obtain ⟨a1, c1, rfl, _⟩ := O1.form
    have HOK := hid (Tex.okB_iff.2 hok)
    have y1 : Ext w1 (w1.alloc (.cells #[.int .i64 t.log, .slice a1 t.px.length c1] 25)) := (by repeat (with_reducible (first | assumption | exact Ext.refl _ | apply Ext.alloc | apply Ext.drew | apply Ext.drewN)))
    have E1 := x1.trans y1
    have B1 := TBox.made w1 (.int .i64 t.log) (.slice a1 t.px.length c1) 25
    have R1 := O1.ext y1
    clear O1 hok x1
    go_upto_region 4 with fail
    obtain ⟨b1, hb1⟩ : ∃ b, w1.heap.size = b := ⟨_, rfl⟩
    obtain ⟨w2, hw2⟩ : ∃ X, w1.alloc (.cells #[.int .i64 t.log, .slice a1 t.px.length c1] 25) = X := ⟨_, rfl⟩
    rw [hb1, hw2] at B1
    rw [hw2] at E1 R1 y1
    rw [hb1, hw2]
    clear hb1 hw2 y1
    go_wp2_with fail
    refine (MakeCache_any W.heap.size _ n _ (HV.out.ext (Nat.le_refl _) E1) E1.size hn).mono ?_
    rintro e w3 ⟨v3, C, rfl, Q3, ⟨ck, cr, cl⟩, x3⟩
    obtain ⟨a3, c3, rfl⟩ := Q3.open
    have y3 : Ext w3 (w3.alloc (.cells #[.int .i64 C.room, .slice a3 C.L.length c3, .int .i64 C.loads] 29)) := (by repeat (with_reducible (first | assumption | exact Ext.refl _ | apply Ext.alloc | apply Ext.drew | apply Ext.drewN)))
    have E3 := E1.trans (x3.trans y3)
    have B3 := B1.ext (x3.trans y3)
    have R3 := R1.ext (x3.trans y3)
    have Q4 := Q3.ext y3
    have K3 := CBx.made w3 C.room C.loads (.slice a3 C.L.length c3)
    clear E1 B1 R1 Q3 x3
    go_upto_region 5 with fail
    obtain ⟨b3, hb3⟩ : ∃ b, w3.heap.size = b := ⟨_, rfl⟩
    obtain ⟨w4, hw4⟩ : ∃ X, w3.alloc (.cells #[.int .i64 C.room, .slice a3 C.L.length c3, .int .i64 C.loads] 29) = X := ⟨_, rfl⟩
    rw [hb3, hw4] at K3
    rw [hw4] at E3 B3 R3 Q4
    rw [hb3, hw4]
    clear hb3 hw4 y3
    go_wp2_with fail
    refine (MakeNum_any W.heap.size _ n 1 _ (HV.out.ext (Nat.le_refl _) E3) E3.size hn (by decide)).mono ?_
    rintro e w5 ⟨n1, rfl, ⟨n10, n11⟩, x5⟩
    have E5 := E3.trans x5
    go_wp2_with fail
    refine (MakeNum_any W.heap.size _ n 2 _ (HV.out.ext (Nat.le_refl _) E5) E5.size hn (by decide)).mono ?_
    rintro e w6 ⟨n2, rfl, ⟨n20, n21⟩, x6⟩
    have E6 := E5.trans x6
    go_wp2_with fail
    refine (MakeNum_any W.heap.size _ n 3 _ (HV.out.ext (Nat.le_refl _) E6) E6.size hn (by decide)).mono ?_
    rintro e w7 ⟨n3, rfl, ⟨n30, n31⟩, x7⟩
    have x57 := x5.trans (x6.trans x7)
    have E7 := E6.trans x7
    have B7 := B3.ext x57
    have R7 := R3.ext x57
    have Q7 := Q4.ext x57
    have K7 := K3.ext x57
    clear E3 B3 R3 Q4 K3 x5 x6 x7 x57 E5 E6
    have cok := CV.ok_bd ck
    go_upto_region 8 with fail
    generalize n1 % 999 = u
    generalize n2 % 999 = vv
    generalize n3 % 3 = l
    obtain ⟨x, hx⟩ : ∃ x, t.lookR u vv l = x := ⟨_, rfl⟩
    obtain ⟨ts, hts⟩ : ∃ ts, t.tiles u vv l = ts := ⟨_, rfl⟩
    have htl := t.tiles_len u vv l
    rw [hts] at htl
    obtain ⟨D, hD⟩ : ∃ D, C.uses ts = D := ⟨_, rfl⟩
    obtain ⟨F, hF⟩ : ∃ F, D.uses ts = F := ⟨_, rfl⟩
    have hd := CV.uses_ok ts C ck (by omega)
    rw [hD] at hd
    have hf := CV.uses_ok ts D hd.1 (by omega)
    rw [hF] at hf
    have hlow : 4 ≤ C.room → F.loads = D.loads := fun h4 => by
      have := CV.uses_twice (C := C) (l := ts) ck (by omega) (by omega)
      rw [hD, hF] at this
      exact this
    have H1 := hid (show t.cachedN C u vv l = x ∧ t.cachedC C u vv l = D by
      unfold Tex.cachedN Tex.cachedC
      rw [HOK.out, ck]
      exact ⟨hx, by rw [← hD, ← hts]; rfl⟩)
    have H2 := hid (show t.cachedN D u vv l = x ∧ t.cachedC D u vv l = F by
      unfold Tex.cachedN Tex.cachedC
      rw [HOK.out, hd.1]
      exact ⟨hx, by rw [← hF, ← hts]; rfl⟩)
    have HX := hid hx
    have hCl := CV.ok_len ck
    have hDl := CV.ok_len hd.1
    have HDo := hid hd.1
    have HFo := hid hf.1
    have HD2 := hid hd
    have HF2 := hid hf
    have HLW := hid hlow
    clear hx hts hD hF hd hf hlow
    have b0 := B7.lt
    have b1 := B7.c0
    have b2 := B7.c1
    have k0 := K7.c0
    have k1' := K7.c1
    have k2' := K7.c2
    have kl := K7.lt
    go_wp2_with fail
    refine (iCached_val H1.out _ _ _ _ _ _ R7.tex (Nat.le_refl _) Q7 (by omega)).mono ?_
    rintro e w8 ⟨ga, gc, rfl, G8, x8⟩
    have y8 : Ext w8 (w8.alloc (.cells #[.int .i64 D.room, .slice ga D.L.length gc, .int .i64 D.loads] 29)) := (by repeat (with_reducible (first | assumption | exact Ext.refl _ | apply Ext.alloc | apply Ext.drew | apply Ext.drewN)))
    have E8 := E7.trans (x8.trans y8)
    have B8 := B7.ext (x8.trans y8)
    have R8 := R7.ext (x8.trans y8)
    have K8 := K7.ext (x8.trans y8)
    have G9 := G8.ext y8
    have N8 := CBx.made w8 D.room D.loads (.slice ga D.L.length gc)
    clear b0 b1 b2 k0 k1' k2' kl B7 R7 Q7 K7 E7 G8 x8
    go_upto_region 9 with fail
    obtain ⟨b8, hb8⟩ : ∃ b, w8.heap.size = b := ⟨_, rfl⟩
    obtain ⟨w9, hw9⟩ : ∃ X, w8.alloc (.cells #[.int .i64 D.room, .slice ga D.L.length gc, .int .i64 D.loads] 29) = X := ⟨_, rfl⟩
    rw [hb8, hw9] at N8
    rw [hw9] at E8 B8 R8 K8 G9
    rw [hb8, hw9]
    clear hb8 hw9 y8
    have b0 := B8.lt
    have b1 := B8.c0
    have b2 := B8.c1
    have k0 := N8.c0
    have k1' := N8.c1
    have k2' := N8.c2
    have kl := N8.lt
    go_wp2_with fail
    refine (iCached_val H2.out _ _ _ _ _ _ R8.tex (Nat.le_refl _) G9 (by omega)).mono ?_
    rintro e w10 ⟨fa, fc, rfl, F10, x10⟩
    have y10 : Ext w10 (w10.alloc (.cells #[.int .i64 F.room, .slice fa F.L.length fc, .int .i64 F.loads] 29)) := (by repeat (with_reducible (first | assumption | exact Ext.refl _ | apply Ext.alloc | apply Ext.drew | apply Ext.drewN)))
    have E10 := E8.trans (x10.trans y10)
    have B10 := B8.ext (x10.trans y10)
    have R10 := R8.ext (x10.trans y10)
    have K10 := K8.ext (x10.trans y10)
    have N10 := N8.ext (x10.trans y10)
    have G10 := G9.ext (x10.trans y10)
    have F11 := F10.ext y10
    have M10 := CBx.made w10 F.room F.loads (.slice fa F.L.length fc)
    clear b0 b1 b2 k0 k1' k2' kl B8 R8 K8 N8 E8 G9 F10 x10
    go_upto_region 10 with fail
    obtain ⟨b10, hb10⟩ : ∃ b, w10.heap.size = b := ⟨_, rfl⟩
    obtain ⟨w11, hw11⟩ : ∃ X, w10.alloc (.cells #[.int .i64 F.room, .slice fa F.L.length fc, .int .i64 F.loads] 29) = X := ⟨_, rfl⟩
    rw [hb10, hw11] at M10
    rw [hw11] at E10 B10 R10 K10 N10 G10 F11
    rw [hb10, hw11]
    clear hb10 hw11 y10
    have b0 := B10.lt
    have b1 := B10.c0
    have b2 := B10.c1
    go_wp2_with fail
    refine (iLookup_val HX.out _ _ _ _ R10.tex (Nat.le_refl _)).mono ?_
    rintro e w12 ⟨rfl, x12⟩
    have E12 := E10.trans x12
    have K12 := K10.ext x12
    have N12 := N10.ext x12
    have M12 := M10.ext x12
    have G12 := G10.ext x12
    have F12 := F11.ext x12
    clear b0 b1 b2 B10 R10 K10 N10 M10 G10 F11 E10 x12
    have n0 := N12.c0
    have n1' := N12.c1
    have n2' := N12.c2
    have nl := N12.lt
    go_wp2_with fail
    refine (iIsValidCache_any _ _ _ D _ G12.R (Nat.le_refl _)).mono ?_
    rintro e w13 ⟨rfl, x13⟩
    rw [HDo.out]
    have E13 := E12.trans x13
    have K13 := K12.ext x13
    have N13 := N12.ext x13
    have M13 := M12.ext x13
    have F13 := F12.ext x13
    clear n0 n1' n2' nl E12 K12 N12 M12 G12 F12 x13
    have m0 := M13.c0
    have m1' := M13.c1
    have m2' := M13.c2
    have ml := M13.lt
    go_wp2_with fail
    refine (iIsValidCache_any _ _ _ F _ F13.R (Nat.le_refl _)).mono ?_
    rintro e w14 ⟨rfl, x14⟩
    rw [HFo.out]
    have E14 := E13.trans x14
    have K14 := K13.ext x14
    have N14 := N13.ext x14
    have M14 := M13.ext x14
    clear m0 m1' m2' ml E13 K13 N13 M13 F13 x14
    have m2' := M14.c2
    have ml := M14.lt
    have n2' := N14.c2
    have nl := N14.lt
    have k0 := K14.c0
    have k2' := K14.c2
    have kl := K14.lt
    have h1 : D.loads ≥ C.loads := HD2.out.2.1
    have h2 : D.loads ≤ C.loads + 4 := by have := HD2.out.2.2.1; omega
    by_cases h4 : C.room < 4
    · go_wp2_with fail
      go_ret
      exact ⟨rfl, E14⟩
    · have h5 := HLW.out (by omega)
      go_wp2_with fail
      go_ret
      exact ⟨rfl, E14⟩
  · go_enter Try.func3, Try.ntmps3
    go_wp2
    go_ret
    exact ⟨rfl, Ext.refl _⟩
end Go.Proofs.Ytcogkglkioejaaa
end

section
/- This text reads the laws' arguments off the data that the row speaks of: integers, slices of integers, textures. -/
namespace Go.Proofs.Ytcogkglkioejaaa
open Go.ChangeShapes Go.WideShapes Go.ChangeAt Go.RowKit

theorem laidOut : laidOutB Try.prog = true := by kernel_rfl

section
variable {H : Type} {enc : TypeId × Value → H} {W : World} {base b0 : Nat} {sp : Nat → Bool} {held : Bool}

theorem wf_I64 {n : Int} (h : (Lit.int .i64 n).wf = true) : I64 n := by
  simp [Lit.wf, IntKind.min, IntKind.max, IntKind.signed, IntKind.bits] at h
  exact ⟨by omega, by omega⟩
set_option maxRecDepth 100000 in
theorem argInt {v : Value} {d : DataW H} {p : List MemPlace} (hv : Value.okWide Try.prog W .any b0 3 v) (h : DataW.Trod enc Try.prog W base sp held 3 v d p) : ∃ n, v = .int .i64 n ∧ I64 n := by
  obtain ⟨n, rfl, _, _, hw⟩ := open_int Try.underlying3 hv h
  exact ⟨n, rfl, wf_I64 hw⟩
set_option maxRecDepth 100000 in
/-- what lies behind the cell of a slice of integers -/
theorem cellInts {fuel : Nat} {c : Value} {y : DataW H × List MemPlace} (h : DataW.trod enc Try.prog W base sp held fuel 23 [c] = some y) : ∃ xs, Ints 0 W.heap.size W c xs := by
  rcases open_ints Try.underlying23 Try.underlying3 (by kernel_rfl) h with ⟨hcs, _⟩ | ⟨a, len, cap, zs, hcs, _, hl, hm, hz, _, hcell, hwz⟩
  · obtain rfl : c = .slice none 0 0 := by simpa using hcs
    exact ⟨[], none, 0, rfl, Nat.le_refl _, by unfold maxLen; omega, fun i x hx => by simp at hx⟩
  · obtain rfl : c = .slice (some a) len cap := by simpa using hcs
    have hlen : (zs.take len).length = len := by
      rw [List.length_take, hz]
      split <;> omega
    refine ⟨zs.take len, some a, cap, by rw [hlen], by omega, hm, fun i x hx => ?_⟩
    have hi : i < len := by have := (List.getElem?_eq_some_iff.1 hx).1; omega
    rw [List.getElem?_take, if_pos hi] at hx
    have hzi := (List.getElem?_eq_some_iff.1 hx).1
    have hxx : zs.getD i 0 = x := by simp [List.getD, hx]
    obtain ⟨b, o, s⟩ := a
    obtain rfl : s = none := by
      cases s with
      | none => rfl
      | some s =>
        have h0 := hcell 0 (by omega)
        simp only [World.cell?, Addr.add, if_true] at h0
        split at h0 <;> simp at h0
    have hc := hcell i hzi
    rw [hxx] at hc
    have ha : (⟨b, o, none⟩ : Addr).add i = ⟨b, o + i, none⟩ := by
      unfold Addr.add
      split
      · rename_i e; subst e; rfl
      · rfl
    rw [ha] at hc
    refine ⟨wf_I64 (hwz x (List.mem_of_getElem? hx)), b, o, rfl, Nat.zero_le _, ?_, hc⟩
    simp only [World.cell?] at hc
    split at hc
    · rename_i e; exact (Array.getElem?_eq_some_iff.1 e).1
    · cases hc
set_option maxRecDepth 100000 in
theorem argTex {v : Value} {d : DataW H} {p : List MemPlace} (hv : Value.okWide Try.prog W .any b0 37 v) (h : DataW.Trod enc Try.prog W base sp held 37 v d p) :
    ∃ t, TexR 0 W.heap.size W v t := by
  obtain ⟨v0, v1, y0, y1, n, rfl, rfl, rfl, h0, h1⟩ := Go.Joins.open_agg2 Try.underlying37 (by kernel_rfl) (by kernel_rfl) hv h
  obtain ⟨k, e0, _, hw⟩ := DataW.trod_int Try.underlying3 h0
  obtain rfl : v0 = .int .i64 k := by simpa using e0
  obtain ⟨xs, hx⟩ := cellInts h1
  exact ⟨⟨k, xs⟩, _, rfl, wf_I64 hw, hx⟩
end

end Go.Proofs.Ytcogkglkioejaaa
end

section
/- This text reads the laws' arguments that are slices of bytes. -/
namespace Go.Proofs.Ytcogkglkioejaaa
open Go.ChangeShapes Go.WideShapes Go.ChangeAt Go.RowKit
section
variable {H : Type} {enc : TypeId × Value → H} {W : World} {base b0 : Nat} {sp : Nat → Bool} {held : Bool}

theorem wf_U8 {n : Int} (h : (Lit.int .u8 n).wf = true) : 0 ≤ n ∧ n ≤ 255 := by
  simp [Lit.wf, IntKind.min, IntKind.max, IntKind.signed, IntKind.bits] at h
  omega
set_option maxRecDepth 100000 in
theorem cellByts {fuel : Nat} {c : Value} {y : DataW H × List MemPlace} (h : DataW.trod enc Try.prog W base sp held fuel 22 [c] = some y) : ∃ n, Byts W.heap.size W c n := by
  rcases open_ints Try.underlying22 Try.underlying5 (by kernel_rfl) h with ⟨hcs, _⟩ | ⟨a, len, cap, zs, hcs, _, hl, hm, hz, _, hcell, hwz⟩
  · obtain rfl : c = .slice none 0 0 := by simpa using hcs
    exact ⟨0, none, 0, rfl, Nat.le_refl _, by unfold maxLen; omega, fun i hx => by omega⟩
  · obtain rfl : c = .slice (some a) len cap := by simpa using hcs
    refine ⟨len, some a, cap, rfl, by omega, hm, fun i hi => ?_⟩
    have hlz : len ≤ zs.length := by rw [hz]; split <;> omega
    have hzi : i < zs.length := by omega
    obtain ⟨b, o, s⟩ := a
    obtain rfl : s = none := by
      cases s with
      | none => rfl
      | some s =>
        have h0 := hcell 0 (by omega)
        simp only [World.cell?, Addr.add, if_true] at h0
        split at h0 <;> simp at h0
    have hc := hcell i hzi
    have ha : (⟨b, o, none⟩ : Addr).add i = ⟨b, o + i, none⟩ := by
      unfold Addr.add
      split
      · rename_i e; subst e; rfl
      · rfl
    rw [ha] at hc
    have hw := wf_U8 (hwz (zs.getD i 0) (by rw [List.getD_eq_getElem?_getD, List.getElem?_eq_getElem hzi]; exact List.getElem_mem hzi))
    refine ⟨b, o, zs.getD i 0, rfl, ?_, hw.1, hw.2, hc⟩
    simp only [World.cell?] at hc
    split at hc
    · rename_i e; exact (Array.getElem?_eq_some_iff.1 e).1
    · cases hc
set_option maxRecDepth 100000 in
theorem argByts {v : Value} {d : DataW H} {p : List MemPlace} (hv : Value.okWide Try.prog W .any b0 22 v) (h : DataW.Trod enc Try.prog W base sp held 22 v d p) : ∃ n, Byts W.heap.size W v n := by
  obtain ⟨a, len, cap, rfl⟩ := okWide_slice Try.underlying22 hv
  obtain ⟨fuel, hf⟩ := h
  exact cellByts hf
end
end Go.Proofs.Ytcogkglkioejaaa
end

section
/- This text lifts the walk of FnCache to the given statement. -/
namespace Go.Proofs.Ytcogkglkioejaaa.fnCache
open Go.ChangeShapes Go.WideShapes Go.ChangeAt Go.RowKit
set_option linter.unusedVariables false

theorem own : ownKnob Try.prog.godebug = none := by kernel_rfl
theorem laid : laidOutB Try.prog = true := by kernel_rfl

set_option maxRecDepth 100000 in
theorem lifted (os : Os) (started : os.Started) (H : Type) (enc : TypeId × Value → H) :
    ReturnsInHanded {} Try.checked os 3 .any (Rows.fnCacheSpec.pre6 enc Try.prog Try.f3 Rows.fnCacheRow.domain false) (Rows.fnCacheSpec.post enc Try.prog Try.f3 false true false false) := by
  refine returnsInHanded_of_change (C := Try.checked) own started (by kernel_rfl) Try.func3
    (ChangeSpec.witness6 (enc := enc) (C := Try.checked) false ⟨#[], #[.slice none 0 0], []⟩ 8 (by kernel_rfl) (by kernel_rfl) (by kernel_rfl) (by kernel_rfl)) ?_
  intro W base args ds gs before hval0 hW hcnd _
  have hval : ∀ (j : Nat) t v, Try.f3.params[j]? = some t → args[j]? = some v → Value.okWide Try.prog W .any base t v := hval0
  have hW' := hW
  obtain ⟨p, q, hA0, hV, rfl, hfz, hnd⟩ := hW
  have hA : DataW.TrodAll enc Try.prog W 0 (fun _ => true) true Try.f3.params.toList args.toList ds p := hA0
  rw [Try.params3] at hA hval
  obtain ⟨v0, vs0, d0, ds0, p0, q0, hargs, rfl, rfl, h0, r0⟩ := trodAll_cons hA
  obtain ⟨rfl, rfl, rfl⟩ := trodAll_nil r0
  obtain rfl : args = #[v0] := by cases args; simp_all
  obtain ⟨rfl, rfl⟩ := trodVars_none hV
  have k0 := h0
  have lt0 : ∀ x ∈ p0, x.block < W.heap.size := by obtain ⟨m, hm⟩ := k0; exact DataW.trod_lt m _ _ _ hm
  obtain ⟨n0, w0⟩ := argByts (hval 0 22 v0 rfl rfl) h0
  clear hA0 hval0
  refine (lawCch2 v0 n0 W w0).mono fun e W' ⟨he, bel0⟩ => ?_
  have bel : Below W.heap.size W W' := bel0
  subst he
  exact ⟨_, rfl, _, _, _, [], _, [], hW', trodAll_mk1 (shut_bool Try.underlying4 _), (trodAll_cons_mk (Below.trod laid (by kernel_rfl) (of_decide_eq_true (by kernel_rfl)) k0 bel lt0) trodAll_mk0), rfl, bel.frame _, fun h => by cases h⟩

theorem over : Rows.fnCacheRow.holds Try.pinned (OpenSpec.ofChange Rows.fnCacheSpec) :=
  OpenClaim.holds_of_wide 3 Try.f3 rfl rfl rfl rfl rfl rfl rfl ⟨rfl, rfl, rfl, rfl, rfl⟩ rfl rfl rfl rfl rfl (by kernel_rfl) Try.func3 (by kernel_rfl)
    (of_decide_eq_true (by kernel_rfl)) (by unfold Func.isWrapper; first | (rw [if_pos (by decide +kernel)]; kernel_rfl) | (rw [if_neg (by decide +kernel)]; exact ⟨rfl, rfl⟩))
    (fun os started H enc _ => lifted os started H enc)

theorem proved : Rows.FnCacheSaid := over
end Go.Proofs.Ytcogkglkioejaaa.fnCache
end
