/- This text proves the law on regions that draw their order for effects that may write one block besides those that they lay; it speaks of no program. -/
import Derived.Test.YtodblnccgpiigaaDoorPlan
namespace Go.Proofs.YtodblnccgpiigaaDoor

/-- the blocks below N, but for X, are in w' as they were in w -/
def SameX (N X : Nat) (w w' : World) : Prop := ∀ b, b < N → b ≠ X → w'.heap[b]? = w.heap[b]?
theorem SameX.trans {N X : Nat} {w w1 w2 : World} (h : SameX N X w w1) (k : SameX N X w1 w2) : SameX N X w w2 := fun b h1 h2 => (k b h1 h2).trans (h b h1 h2)
theorem SameX.gr {N X : Nat} {w w1 : World} (h : w.grownBy w1 (some X)) (hN : N ≤ w.heap.size) : SameX N X w w1 := fun b h1 h2 => h.block b (by omega) (fun e => h2 (by simpa using e))
theorem SameX.of {N X : Nat} {w w1 : World} (h : Same 0 N w w1) : SameX N X w w1 := fun b h1 _ => h b (Nat.zero_le _) h1
open Classical in
/-- w, or d where d's blocks below N are those of w -/
noncomputable def lowx (N X : Nat) (w d : World) : World := if SameX N X w d then d else w
theorem lowx_same (N X : Nat) (w d : World) : SameX N X w (lowx N X w d) := by
  unfold lowx
  split
  · assumption
  · exact fun _ _ _ => rfl
theorem lowx_of {N X : Nat} {w d : World} (h : SameX N X w d) : d = lowx N X w d := by unfold lowx; rw [if_pos h]
@[go_sem] theorem cell?_lowx (N X : Nat) (w d : World) (a : Addr) (h : a.block < N) (hx : a.block ≠ X) : (lowx N X w d).cell? a = w.cell? a := World.cell?_of_block (w := w) (lowx_same N X w d a.block h hx)
@[go_sem] theorem frozen?_lowx (N X : Nat) (w d : World) (a : Addr) (h : a.block < N) (hx : a.block ≠ X) : (lowx N X w d).frozen? a = w.frozen? a := World.frozen?_of_block (w := w) (lowx_same N X w d a.block h hx)

/-- the stages of a region: reads, then the one operation that may come up, and so on; N: the blocks that no stage but number z writes -/
def wpStagesX (P : Program) (ops : Array Oper) (Q : Exit → Act → World → Prop) (N X : Nat) (w0 : World) (z : Nat) : List (List Nat × Nat) → Act → World → Prop
  | [], a, w => Q .normal a w
  | (T, e) :: r, a, w => wpQuiet P ops (fun w' => ∃ d, w' = lowx N X w0 d) (fun a' => ∃ o, ops[e]? = some o ∧ wpList P ops (Exit.then (fun a2 w2 => (e = z ∨ SameX N X w0 w2) ∧ wpStagesX P ops Q N X w0 z r a2 w2) Q) [o] a' w) (T.filterMap (ops[·]?)) a

theorem plan_of_quietX {P : Program} {ops : Array Oper} {Q : Exit → Act → World → Prop} {N X : Nat} {w0 : World} {z : Nat} {r : List (Bool × Nat)} {w : World} {K : Act → Prop}
    (hK : ∀ a, K a → wpPlan P ops Q (fun w' => ∃ d, w' = lowx N X w0 d) z r a w) :
    ∀ (T : List Nat) (a : Act), T.all (fun i => match ops[i]? with | some o => isRead o.op | none => false) = true → wpQuiet P ops (fun w' => ∃ d, w' = lowx N X w0 d) K (T.filterMap (ops[·]?)) a →
      wpPlan P ops Q (fun w' => ∃ d, w' = lowx N X w0 d) z (T.map (fun i => (true, i)) ++ r) a w
  | [], a, _, h => hK a h
  | i :: T, a, hr, h => by
    simp only [List.all_cons, Bool.and_eq_true] at hr
    obtain ⟨hri, hr'⟩ := hr
    cases ho : ops[i]? with
    | none => rw [ho] at hri; cases hri
    | some o =>
      rw [ho] at hri
      simp only [List.filterMap_cons, ho] at h
      refine ⟨o, ho, ?_⟩
      unfold takeOp
      unfold wpQuiet at h
      split
      · rename_i hw
        rw [if_pos hw] at h
        obtain ⟨v, hv, hn⟩ := h
        refine ⟨v, fun w' hw' => ?_, plan_of_quietX hK T _ hr' hn⟩
        have h1 := hv w' hw'
        unfold Oper.quietAt at h1
        cases hrun : (execOp a.eval o).run P w' with
        | halt x w1 => rw [hrun] at h1; exact h1.elim
        | ok n w1 =>
          obtain ⟨u, rfl⟩ := value_only hri hrun
          rw [hrun] at h1
          obtain ⟨e1, e2⟩ := h1
          rw [e1, e2]
      · rename_i hw
        rw [if_neg hw] at h
        exact plan_of_quietX hK T _ hr' h

theorem plan_of_stagesX {P : Program} {ops : Array Oper} {Q : Exit → Act → World → Prop} {N X : Nat} {w0 : World} {z : Nat} : ∀ (st : List (List Nat × Nat)) (a : Act) (w : World), readsOk ops st = true →
    wpStagesX P ops Q N X w0 z st a w → wpPlan P ops Q (fun w' => ∃ d, w' = lowx N X w0 d) z (stagesPlan st) a w
  | [], _, _, _, h => h
  | (T, e) :: r, a, w, hr, h => by
    simp only [readsOk, Bool.and_eq_true] at hr
    refine plan_of_quietX (K := fun a' => ∃ o, ops[e]? = some o ∧ wpList P ops (Exit.then (fun a2 w2 => (e = z ∨ SameX N X w0 w2) ∧ wpStagesX P ops Q N X w0 z r a2 w2) Q) [o] a' w) (fun a' ha => ?_) T a hr.1 h
    obtain ⟨o, ho, hl⟩ := ha
    refine ⟨o, ho, ?_⟩
    have key : ∀ a2 w2, ((e = z ∨ SameX N X w0 w2) ∧ wpStagesX P ops Q N X w0 z r a2 w2) → ((e = z ∨ ∃ d, w2 = lowx N X w0 d) ∧ wpPlan P ops Q (fun w' => ∃ d, w' = lowx N X w0 d) z (stagesPlan r) a2 w2) :=
      fun a2 w2 ⟨k1, k2⟩ => ⟨k1.imp id (fun k => ⟨_, lowx_of k⟩), plan_of_stagesX r a2 w2 hr.2 k2⟩
    unfold wpList at hl ⊢
    split
    · rename_i hw
      rw [if_pos hw] at hl
      rcases hl with hl | ⟨h1, h2⟩
      · refine .inl ?_
        have h3 := upon_then hl
        have h4 : o.wp P a' w (wpList P ops (Exit.then (fun a2 w2 => (e = z ∨ SameX N X w0 w2) ∧ wpStagesX P ops Q N X w0 z r a2 w2) Q) []) Q := h3
        have h5 := Oper.wp_mono (K' := wpList P ops (Exit.then (fun a2 w2 => (e = z ∨ ∃ d, w2 = lowx N X w0 d) ∧ wpPlan P ops Q (fun w' => ∃ d, w' = lowx N X w0 d) z (stagesPlan r) a2 w2) Q) []) (fun a2 w2 hk => key a2 w2 hk) h4
        unfold Oper.wp at h5 ⊢
        generalize (execOp a'.eval o).run P w = res at h5 ⊢
        cases res with
        | ok n w' => cases n <;> exact h5
        | halt x w' => cases x <;> exact h5
      · exact .inr ⟨h1, h2⟩
    · rename_i hw
      rw [if_neg hw] at hl
      exact key _ _ hl

/-- the law that the walks use -/
theorem wp_region_stagesX {P : Program} {Q : Exit → Act → World → Prop} {id : Nat} {a : Act} {w : World} {l : List Oper} (st : List (List Nat × Nat)) (z N X : Nat) (hm : P.follows .mixedOrders = true)
    (hB : (planB .any l.toArray z (stagesPlan st) && readsOk l.toArray st && (stagesPlan st).length == l.length) = true)
    (h : wpStagesX P l.toArray (NoPanic Q) N X w z st a w.drew) : (Code.region id l.toArray true).wp P Q a w := by
  simp only [Bool.and_eq_true, beq_iff_eq] at hB
  have hs : ∀ w2, SameX N X w w2 → ∃ d, w2 = lowx N X w d := fun w2 k => ⟨_, lowx_of k⟩
  exact wp_region_plan (stagesPlan st) z (fun w' => ∃ d, w' = lowx N X w d) hm hB.1.1 hB.2 (hs _ (fun _ _ _ => rfl)) (plan_of_stagesX st a w.drew hB.1.2 h)

theorem wpStagesX_nil {P : Program} {ops : Array Oper} {Q : Exit → Act → World → Prop} {N X : Nat} {w0 : World} {z : Nat} {a : Act} {w : World} (h : Q .normal a w) : wpStagesX P ops (NoPanic Q) N X w0 z [] a w := h
/-- one stage: the reads, then the operation; what follows stands behind a variable -/
theorem wpStagesX_cons {P : Program} {ops : Array Oper} {Q : Exit → Act → World → Prop} {N X : Nat} {w0 : World} {z : Nat} {T : List Nat} {e : Nat} {r : List (List Nat × Nat)} {a : Act} {w : World}
    (h : wpQuiet P ops (fun w' => ∃ d, w' = lowx N X w0 d) (fun a' => ∃ o, ops[e]? = some o ∧ ∀ K : Act → World → Prop, (∀ a2 w2, (e = z ∨ SameX N X w0 w2) → wpStagesX P ops Q N X w0 z r a2 w2 → K a2 w2) → wpList P ops (Exit.then K Q) [o] a' w) (T.filterMap (ops[·]?)) a) :
    wpStagesX P ops Q N X w0 z ((T, e) :: r) a w := by
  unfold wpStagesX
  have e1 : (fun a' => ∃ o, ops[e]? = some o ∧ wpList P ops (Exit.then (fun a2 w2 => (e = z ∨ SameX N X w0 w2) ∧ wpStagesX P ops Q N X w0 z r a2 w2) Q) [o] a' w) =
      (fun a' => ∃ o, ops[e]? = some o ∧ ∀ K : Act → World → Prop, (∀ a2 w2, (e = z ∨ SameX N X w0 w2) → wpStagesX P ops Q N X w0 z r a2 w2 → K a2 w2) → wpList P ops (Exit.then K Q) [o] a' w) := by
    funext a'
    refine propext ⟨fun ⟨o, ho, hl⟩ => ⟨o, ho, fun K hK => ?_⟩, fun ⟨o, ho, hl⟩ => ⟨o, ho, hl _ fun a2 w2 h1 h2 => ⟨h1, h2⟩⟩⟩
    unfold wpList at hl ⊢
    split
    · rename_i hw
      rw [if_pos hw] at hl
      rcases hl with hl | ⟨h1, h2⟩
      · refine .inl ?_
        have h4 := Oper.wp_mono (K' := wpList P ops (Exit.then K Q) []) (fun a2 w2 hk => hK a2 w2 hk.1 hk.2) hl
        unfold Oper.wp at h4 ⊢
        generalize (execOp a'.eval o).run P w = res at h4 ⊢
        cases res with
        | ok n w' => cases n <;> exact h4
        | halt x w' => cases x <;> exact h4
      · exact .inr ⟨h1, h2⟩
    · rename_i hw
      rw [if_neg hw] at hl
      exact hK _ _ hl.1 hl.2
  rw [e1]
  exact h


end Go.Proofs.YtodblnccgpiigaaDoor
