/- This text proves a law on regions that draw their order: one plan of the operations, reads first where they are stable and effects in their forced order, serves every order; it speaks of no program. -/
import Derived.Test.YtaegmenjgjdimaaGreatBase
import Derived.OrdersHeld
import Derived.StillTail
import Derived.Deep.RegionHeld3
namespace Go.Proofs.YtaegmenjgjdimaaGreat

section
variable {P : Program} {ops : Array Oper} {Q : Exit → Act → World → Prop} {md : Region.Mode} {S : World → Prop} {z : Nat}

/-- whatever order is picked from here on, and S holds behind every operation but number z -/
def wpAnyZ (P : Program) (md : Region.Mode) (ops : Array Oper) (Q : Exit → Act → World → Prop) (S : World → Prop) (z : Nat) : Nat → Array Bool → Act → World → Prop
  | 0, listed, a, w => Region.ready md ops listed = [] ∧ Q .normal a w
  | fuel + 1, listed, a, w =>
    (Region.ready md ops listed = [] → Q .normal a w) ∧
    ∀ i ∈ Region.ready md ops listed, wpOp P ops Q i (fun a' w' => (i = z ∨ S w') ∧ wpAnyZ P md ops Q S z fuel (listed.setIfInBounds i true) a' w') a w

theorem wpAny_of_Z : ∀ (fuel : Nat) (listed : Array Bool) (a : Act) (w : World), wpAnyZ P md ops Q S z fuel listed a w → wpAny P md ops Q fuel listed a w
  | 0, _, _, _, h => h
  | fuel + 1, _, _, _, h => ⟨h.1, fun i hi => wpOp_mono (fun a' w' h' => wpAny_of_Z fuel _ a' w' h'.2) (h.2 i hi)⟩

/-- operation z waits for every other one; or there is no operation z -/
def waitsAll (md : Region.Mode) (ops : Array Oper) (z : Nat) : Bool :=
  match ops[z]? with
  | none => true
  | some o => (List.range ops.size).all fun j => j == z || o.after.any fun e => Region.binds md e && e.on == j

theorem waitsAll_spec (h : waitsAll md ops z = true) {i : Nat} {oi : Oper} (hi : ops[i]? = some oi) (hne : i ≠ z) {listed : Array Bool} (hun : listed.getD i false = false) : z ∉ Region.ready md ops listed := by
  intro hz
  obtain ⟨_, oz, hoz, hall⟩ := mem_ready.1 hz
  unfold waitsAll at h
  simp only [hoz, List.all_eq_true, List.mem_range] at h
  have h1 := h i (Array.getElem?_eq_some_iff.1 hi).1
  simp only [Bool.or_eq_true, beq_iff_eq, hne, false_or] at h1
  obtain ⟨e, he, hb⟩ := Array.any_eq_true'.1 h1
  simp only [Bool.and_eq_true, beq_iff_eq] at hb
  have h2 := hall e he hb.1
  rw [hb.2, hun] at h2
  cases h2

theorem wpAnyZ_first {i : Nat} {oi : Oper} {v : Value} (hi : ops[i]? = some oi) (hz : waitsAll md ops z = true) (hiz : i ≠ z) (hsel : ∀ (j : Nat) (o : Oper) cs b, ops[j]? = some o → o.op ≠ .select cs b)
    (hQ : ∀ c a w, Q (.panic c) (a.put oi.dst v) w → Q (.panic c) a w) :
    ∀ (fuel : Nat) (listed : Array Bool) (a : Act) (w : World),
      (∀ j oj, ops[j]? = some oj → j ≠ i → listed.getD j true = false → (∀ e ∈ oj.after, Region.binds md e = true → e.on ≠ i) → oi.apart ops oj = true) →
      i ∈ Region.ready md ops listed → YieldsIf P ops S oi v a → S w →
      wpAnyZ P md ops Q S z fuel (listed.setIfInBounds i true) (a.put oi.dst v) w → wpAnyZ P md ops Q S z (fuel + 1) listed a w := by
  intro fuel
  induction fuel with
  | zero =>
    intro listed a w _ hr hy hS H
    refine ⟨fun h => (by rw [h] at hr; cases hr), fun j hj => ?_⟩
    by_cases hji : j = i
    · subst hji; exact hy.wpOp hi hS ⟨.inr hS, H⟩
    · have := ready_mono hj hji
      rw [H.1] at this
      cases this
  | succ fuel ih =>
    intro listed a w hfree hr hy hS H
    refine ⟨fun h => (by rw [h] at hr; cases hr), fun j hj => ?_⟩
    by_cases hji : j = i
    · subst hji; exact hy.wpOp hi hS ⟨.inr hS, H⟩
    · have hun : listed.getD i false = false := getD_both (mem_ready.1 hr).1
      have hjz : j ≠ z := fun e => waitsAll_spec hz hi hiz hun (e ▸ hj)
      have h1 := H.2 j (ready_mono hj hji)
      obtain ⟨hjun, oj, hoj, hall⟩ := mem_ready.1 hj
      have hnot : ∀ e ∈ oj.after, Region.binds md e = true → e.on ≠ i := fun e he hb heq => by
        have h1 := hall e he hb
        rw [heq, hun] at h1
        cases h1
      have h2 := wpOp_putIf hoj (hfree j oj hoj hji hjun hnot) (fun cs b => hsel i oi cs b hi) (fun cs b => hsel j oj cs b hoj) hQ hy h1
      have hfree' : ∀ k ok, ops[k]? = some ok → k ≠ i → (listed.setIfInBounds j true).getD k true = false →
          (∀ e ∈ ok.after, Region.binds md e = true → e.on ≠ i) → oi.apart ops ok = true := fun k ok hk hki hun hno => by
        refine hfree k ok hk hki ?_ hno
        by_cases hjk : j = k
        · subst hjk; exact hjun
        · rw [getD_set_ne true hjk] at hun; exact hun
      refine wpOp_mono (fun a' w' h3 => ?_) h2
      have hS' : S w' := h3.2.1.resolve_left hjz
      refine ⟨.inr hS', ih (listed.setIfInBounds j true) a' w' hfree' (ready_mono hr (Ne.symm hji)) h3.1 hS' ?_⟩
      rw [Array.setIfInBounds_comm _ _ hji]
      exact h3.2.2

/-- operation o, taken early: one value in every world that meets S, the world left alone -/
def takeOp (P : Program) (ops : Array Oper) (S : World → Prop) (o : Oper) (a : Act) (K : Act → Prop) : Prop :=
  if Region.wanted o (yielded ops a.tmps) then ∃ v, (∀ w', S w' → (execOp a.eval o).run P w' = .ok (.value v) w') ∧ K (a.put o.dst v) else K (a.put o.dst undef)

/-- a plan of the region: true, i: operation i is taken early; false, i: it is the only one that may come up -/
def wpPlan (P : Program) (ops : Array Oper) (Q : Exit → Act → World → Prop) (S : World → Prop) (z : Nat) : List (Bool × Nat) → Act → World → Prop
  | [], a, w => Q .normal a w
  | (true, i) :: r, a, w => ∃ o, ops[i]? = some o ∧ takeOp P ops S o a (fun a' => wpPlan P ops Q S z r a' w)
  | (false, i) :: r, a, w => ∃ o, ops[i]? = some o ∧ wpList P ops (Exit.then (fun a' w' => (i = z ∨ S w') ∧ wpPlan P ops Q S z r a' w') Q) [o] a w

def planFrom (md : Region.Mode) (ops : Array Oper) (z : Nat) : List (Bool × Nat) → Array Bool → Bool
  | [], listed => (Region.ready md ops listed).isEmpty
  | (true, i) :: r, listed => i != z && Region.free md ops listed i && (Region.ready md ops listed).contains i && planFrom md ops z r (listed.setIfInBounds i true)
  | (false, i) :: r, listed => (Region.ready md ops listed == [i]) && planFrom md ops z r (listed.setIfInBounds i true)

def planB (md : Region.Mode) (ops : Array Oper) (z : Nat) (plan : List (Bool × Nat)) : Bool :=
  Region.noSelect ops && waitsAll md ops z && planFrom md ops z plan (Array.replicate ops.size false)

theorem upon_then {o : Oper} {a : Act} {next K : Act → World → Prop} {r : Result Next} (h : o.upon P a next (Exit.then K Q) r) : o.upon P a next Q r := by
  cases r with
  | ok n w' => cases n <;> exact h
  | halt x w' => cases x <;> exact h

theorem wpAnyZ_of_plan (hsel : Region.noSelect ops = true) (hz : waitsAll md ops z = true) (hQ : ∀ c a a' w, Q (.panic c) a w → Q (.panic c) a' w) :
    ∀ (plan : List (Bool × Nat)) (listed : Array Bool) (a : Act) (w : World), planFrom md ops z plan listed = true → (plan ≠ [] → plan.head?.map (·.1) = some true → S w) → wpPlan P ops Q S z plan a w → wpAnyZ P md ops Q S z plan.length listed a w
  | [], listed, a, w, hB, _, h => ⟨by simpa [planFrom] using hB, h⟩
  | (true, i) :: r, listed, a, w, hB, hS, h => by
    simp only [planFrom, Bool.and_eq_true, bne_iff_ne] at hB
    obtain ⟨⟨⟨hiz, hf⟩, hr⟩, hB'⟩ := hB
    obtain ⟨o, ho, ht⟩ := h
    have hSw : S w := hS (by simp) rfl
    unfold takeOp at ht
    split at ht
    · rename_i hw
      obtain ⟨v, hv, hK⟩ := ht
      exact wpAnyZ_first ho hz hiz (Region.noSelect_spec hsel) (fun c a w => hQ c _ _ w) r.length listed a w (Region.free_spec ho hf) (by simpa using hr) (.inl ⟨hw, hv⟩) hSw
        (wpAnyZ_of_plan hsel hz hQ r _ _ _ hB' (fun _ _ => hSw) hK)
    · rename_i hw
      exact wpAnyZ_first ho hz hiz (Region.noSelect_spec hsel) (fun c a w => hQ c _ _ w) r.length listed a w (Region.free_spec ho hf) (by simpa using hr) (.inr ⟨by simpa using hw, rfl⟩) hSw
        (wpAnyZ_of_plan hsel hz hQ r _ _ _ hB' (fun _ _ => hSw) ht)
  | (false, i) :: r, listed, a, w, hB, hS, h => by
    simp only [planFrom, Bool.and_eq_true, beq_iff_eq] at hB
    obtain ⟨hr, hB'⟩ := hB
    obtain ⟨o, ho, ht⟩ := h
    refine ⟨fun h0 => (by rw [hr] at h0; cases h0), fun j hj => ?_⟩
    rw [hr] at hj
    obtain rfl : j = i := by simpa using hj
    have hstep : ∀ a' w', ((j = z ∨ S w') ∧ wpPlan P ops Q S z r a' w') → ((j = z ∨ S w') ∧ wpAnyZ P md ops Q S z r.length (listed.setIfInBounds j true) a' w') := fun a' w' ⟨k1, k2⟩ =>
      ⟨k1, wpAnyZ_of_plan hsel hz hQ r _ _ _ hB' (fun hne hhd => by
        rcases k1 with k1 | k1
        · subst k1
          cases r with
          | nil => exact absurd rfl hne
          | cons x r' =>
            obtain ⟨b, i'⟩ := x
            simp at hhd
            subst hhd
            simp only [planFrom, Bool.and_eq_true, bne_iff_ne] at hB'
            obtain ⟨⟨⟨hiz, hf'⟩, hr'⟩, _⟩ := hB'
            have hmem : i' ∈ Region.ready md ops (listed.setIfInBounds j true) := by simpa using hr'
            obtain ⟨hun, oi, hoi, _⟩ := mem_ready.1 hmem
            have hun' : listed.getD i' false = false := by
              rw [getD_set_ne true (Ne.symm hiz)] at hun
              exact getD_both hun
            exact absurd (by rw [hr]; simp) (waitsAll_spec hz hoi hiz hun')
        · exact k1) k2⟩
    unfold wpOp
    simp only [ho]
    unfold wpList at ht
    split
    · rename_i hw
      rw [if_pos hw] at ht
      rcases ht with ht | ⟨h1, h2⟩
      · refine .inl ?_
        unfold Oper.wp at *
        have := upon_then ht
        exact Oper.wp_mono (fun a' w' hk => hstep a' w' hk) this
      · exact .inr ⟨h1, h2⟩
    · rename_i hw
      rw [if_neg hw] at ht
      exact hstep _ _ ht

/-- one plan serves every order; the region is to be shown not to panic -/
theorem wp_region_plan {id : Nat} {a : Act} {w : World} {l : List Oper} (plan : List (Bool × Nat)) (z : Nat) (S : World → Prop) (hm : P.follows .mixedOrders = true) (hB : planB .any l.toArray z plan = true) (hl : plan.length = l.length)
    (hS : S w.drew) (h : wpPlan P l.toArray (NoPanic Q) S z plan a w.drew) : (Code.region id l.toArray true).wp P Q a w := by
  simp only [planB, Bool.and_eq_true] at hB
  refine wp_region_noPanic (wp_region_any hm ?_)
  have := wpAny_of_Z _ _ _ _ (wpAnyZ_of_plan (Q := NoPanic Q) hB.1.1 hB.1.2 (fun c a a' w k => k) plan _ a w.drew hB.2 (fun _ _ => hS) h)
  rw [hl] at this
  simpa using this

theorem wpPlan_nil {a : Act} {w : World} (h : Q .normal a w) : wpPlan P ops Q S z [] a w := h
theorem wpPlan_take {i : Nat} {r : List (Bool × Nat)} {a : Act} {w : World} {o : Oper} (ho : ops[i]? = some o) (hw : Region.wanted o (yielded ops a.tmps) = true) {v : Value} (hv : ∀ w', S w' → (execOp a.eval o).run P w' = .ok (.value v) w')
    (h : wpPlan P ops Q S z r (a.put o.dst v) w) : wpPlan P ops Q S z ((true, i) :: r) a w := ⟨o, ho, by unfold takeOp; rw [if_pos hw]; exact ⟨v, hv, h⟩⟩
theorem wpPlan_pass {i : Nat} {r : List (Bool × Nat)} {a : Act} {w : World} {o : Oper} (ho : ops[i]? = some o) (hw : Region.wanted o (yielded ops a.tmps) = false)
    (h : wpPlan P ops Q S z r (a.put o.dst undef) w) : wpPlan P ops Q S z ((true, i) :: r) a w := ⟨o, ho, by unfold takeOp; rw [if_neg (by rw [hw]; exact Bool.false_ne_true)]; exact h⟩
theorem wpPlan_force {i : Nat} {r : List (Bool × Nat)} {a : Act} {w : World} {o : Oper} (ho : ops[i]? = some o)
    (h : ∀ K : Act → World → Prop, (∀ a' w', (i = z ∨ S w') → wpPlan P ops Q S z r a' w' → K a' w') → wpList P ops (Exit.then K Q) [o] a w) : wpPlan P ops Q S z ((false, i) :: r) a w :=
  ⟨o, ho, h _ fun _ _ h1 h2 => ⟨h1, h2⟩⟩
end


/-- operations that read: they hand back a value and call nothing -/
def isRead : Op → Bool
  | .move _ | .assign _ | .pick .. | .load .. | .binOp .. | .unOp .. | .convert .. | .fieldAddr .. | .field .. | .indexAddr .. | .index .. | .slice .. | .build .. | .extract .. | .lookup .. | .makeInterface .. | .makeFunc .. | .sliceToArrayPointer .. => true
  | .call { callee := .builtin .len, .. } => true
  | _ => false

theorem value_run {P : Program} {s : Sem Value} {w w' : World} {n : Next} (h : (s.bind fun v => Sem.pure (Next.value v)).run P w = .ok n w') : ∃ v, n = .value v := by
  rw [Sem.run_bind'] at h
  cases hs : s.run P w with
  | ok v w1 => rw [hs] at h; simp [Sem.run] at h; exact ⟨v, h.1.symm⟩
  | halt x w1 => rw [hs] at h; simp at h

theorem value_only {P : Program} {ρ : Operand → Value} {o : Oper} (hr : isRead o.op = true) {w w' : World} {n : Next} (h : (execOp ρ o).run P w = .ok n w') : ∃ v, n = .value v := by
  unfold execOp at h
  generalize hop : o.op = op at hr h
  cases op <;> first | (simp only [isRead, Bool.false_eq_true] at hr; done) | skip
  case move x => simp at h; exact ⟨_, h.1.symm⟩
  case assign x => simp at h; exact ⟨_, h.1.symm⟩
  case pick c a b =>
    simp at h
    cases hs : (asBool (ρ c)).run P w with
    | ok x w1 => rw [hs] at h; simp at h; exact ⟨_, h.1.symm⟩
    | halt x w1 => rw [hs] at h; simp at h
  case call c =>
    rcases c with ⟨callee, args, ats⟩
    cases callee with
    | value f => cases hr
    | invoke f g => cases hr
    | builtin b =>
      cases b <;> simp only [isRead, Bool.false_eq_true] at hr
      exact value_run (s := Builtin.len_ ats o.type (args.map ρ)) h
  all_goals exact value_run h


open Classical in
/-- w, or d where d's blocks below N are those of w -/
noncomputable def lowg (N : Nat) (w d : World) : World := if Same 0 N w d then d else w
theorem lowg_same (N : Nat) (w d : World) : Same 0 N w (lowg N w d) := by
  unfold lowg
  split
  · assumption
  · exact fun _ _ _ => rfl
theorem lowg_of {N : Nat} {w d : World} (h : Same 0 N w d) : d = lowg N w d := by unfold lowg; rw [if_pos h]
@[go_sem] theorem cell?_lowg (N : Nat) (w d : World) (a : Addr) (h : a.block < N) : (lowg N w d).cell? a = w.cell? a := World.cell?_of_block (w := w) (lowg_same N w d a.block (Nat.zero_le _) h)
@[go_sem] theorem frozen?_lowg (N : Nat) (w d : World) (a : Addr) (h : a.block < N) : (lowg N w d).frozen? a = w.frozen? a := World.frozen?_of_block (w := w) (lowg_same N w d a.block (Nat.zero_le _) h)

/-- the stages of a region: reads, then the one operation that may come up, and so on; N: the blocks that no stage but number z writes -/
def wpStages (P : Program) (ops : Array Oper) (Q : Exit → Act → World → Prop) (N : Nat) (w0 : World) (z : Nat) : List (List Nat × Nat) → Act → World → Prop
  | [], a, w => Q .normal a w
  | (T, e) :: r, a, w => wpQuiet P ops (fun w' => ∃ d, w' = lowg N w0 d) (fun a' => ∃ o, ops[e]? = some o ∧ wpList P ops (Exit.then (fun a2 w2 => (e = z ∨ Same 0 N w0 w2) ∧ wpStages P ops Q N w0 z r a2 w2) Q) [o] a' w) (T.filterMap (ops[·]?)) a

def stagesPlan : List (List Nat × Nat) → List (Bool × Nat)
  | [] => []
  | (T, e) :: r => T.map (fun i => (true, i)) ++ (false, e) :: stagesPlan r

def readsOk (ops : Array Oper) : List (List Nat × Nat) → Bool
  | [] => true
  | (T, _) :: r => T.all (fun i => match ops[i]? with | some o => isRead o.op | none => false) && readsOk ops r

theorem plan_of_quiet {P : Program} {ops : Array Oper} {Q : Exit → Act → World → Prop} {N : Nat} {w0 : World} {z : Nat} {r : List (Bool × Nat)} {w : World} {K : Act → Prop}
    (hK : ∀ a, K a → wpPlan P ops Q (fun w' => ∃ d, w' = lowg N w0 d) z r a w) :
    ∀ (T : List Nat) (a : Act), T.all (fun i => match ops[i]? with | some o => isRead o.op | none => false) = true → wpQuiet P ops (fun w' => ∃ d, w' = lowg N w0 d) K (T.filterMap (ops[·]?)) a →
      wpPlan P ops Q (fun w' => ∃ d, w' = lowg N w0 d) z (T.map (fun i => (true, i)) ++ r) a w
  | [], a, _, h => hK a h
  | i :: T, a, hr, h => by
    simp only [List.all_cons, Bool.and_eq_true] at hr
    obtain ⟨hri, hr'⟩ := hr
    cases ho : ops[i]? with
    | none => rw [ho] at hri; cases hri
    | some o =>
      rw [ho] at hri
      simp only [List.filterMap_cons, ho] at h
      refine ⟨o, ho, ?_⟩
      unfold takeOp
      unfold wpQuiet at h
      split
      · rename_i hw
        rw [if_pos hw] at h
        obtain ⟨v, hv, hn⟩ := h
        refine ⟨v, fun w' hw' => ?_, plan_of_quiet hK T _ hr' hn⟩
        have h1 := hv w' hw'
        unfold Oper.quietAt at h1
        cases hrun : (execOp a.eval o).run P w' with
        | halt x w1 => rw [hrun] at h1; exact h1.elim
        | ok n w1 =>
          obtain ⟨u, rfl⟩ := value_only hri hrun
          rw [hrun] at h1
          obtain ⟨e1, e2⟩ := h1
          rw [e1, e2]
      · rename_i hw
        rw [if_neg hw] at h
        exact plan_of_quiet hK T _ hr' h

theorem plan_of_stages {P : Program} {ops : Array Oper} {Q : Exit → Act → World → Prop} {N : Nat} {w0 : World} {z : Nat} : ∀ (st : List (List Nat × Nat)) (a : Act) (w : World), readsOk ops st = true →
    wpStages P ops Q N w0 z st a w → wpPlan P ops Q (fun w' => ∃ d, w' = lowg N w0 d) z (stagesPlan st) a w
  | [], _, _, _, h => h
  | (T, e) :: r, a, w, hr, h => by
    simp only [readsOk, Bool.and_eq_true] at hr
    refine plan_of_quiet (K := fun a' => ∃ o, ops[e]? = some o ∧ wpList P ops (Exit.then (fun a2 w2 => (e = z ∨ Same 0 N w0 w2) ∧ wpStages P ops Q N w0 z r a2 w2) Q) [o] a' w) (fun a' ha => ?_) T a hr.1 h
    obtain ⟨o, ho, hl⟩ := ha
    refine ⟨o, ho, ?_⟩
    have key : ∀ a2 w2, ((e = z ∨ Same 0 N w0 w2) ∧ wpStages P ops Q N w0 z r a2 w2) → ((e = z ∨ ∃ d, w2 = lowg N w0 d) ∧ wpPlan P ops Q (fun w' => ∃ d, w' = lowg N w0 d) z (stagesPlan r) a2 w2) :=
      fun a2 w2 ⟨k1, k2⟩ => ⟨k1.imp id (fun k => ⟨_, lowg_of k⟩), plan_of_stages r a2 w2 hr.2 k2⟩
    unfold wpList at hl ⊢
    split
    · rename_i hw
      rw [if_pos hw] at hl
      rcases hl with hl | ⟨h1, h2⟩
      · refine .inl ?_
        have h3 := upon_then hl
        have h4 : o.wp P a' w (wpList P ops (Exit.then (fun a2 w2 => (e = z ∨ Same 0 N w0 w2) ∧ wpStages P ops Q N w0 z r a2 w2) Q) []) Q := h3
        have h5 := Oper.wp_mono (K' := wpList P ops (Exit.then (fun a2 w2 => (e = z ∨ ∃ d, w2 = lowg N w0 d) ∧ wpPlan P ops Q (fun w' => ∃ d, w' = lowg N w0 d) z (stagesPlan r) a2 w2) Q) []) (fun a2 w2 hk => key a2 w2 hk) h4
        unfold Oper.wp at h5 ⊢
        generalize (execOp a'.eval o).run P w = res at h5 ⊢
        cases res with
        | ok n w' => cases n <;> exact h5
        | halt x w' => cases x <;> exact h5
      · exact .inr ⟨h1, h2⟩
    · rename_i hw
      rw [if_neg hw] at hl
      exact key _ _ hl

/-- the law that the walks use -/
theorem wp_region_stages {P : Program} {Q : Exit → Act → World → Prop} {id : Nat} {a : Act} {w : World} {l : List Oper} (st : List (List Nat × Nat)) (z N : Nat) (hm : P.follows .mixedOrders = true)
    (hB : (planB .any l.toArray z (stagesPlan st) && readsOk l.toArray st && (stagesPlan st).length == l.length) = true)
    (h : wpStages P l.toArray (NoPanic Q) N w z st a w.drew) : (Code.region id l.toArray true).wp P Q a w := by
  simp only [Bool.and_eq_true, beq_iff_eq] at hB
  have hs : ∀ w2, Same 0 N w w2 → ∃ d, w2 = lowg N w d := fun w2 k => ⟨_, lowg_of k⟩
  exact wp_region_plan (stagesPlan st) z (fun w' => ∃ d, w' = lowg N w d) hm hB.1.1 hB.2 (hs _ (fun _ _ _ => rfl)) (plan_of_stages st a w.drew hB.1.2 h)

theorem wpStages_nil {P : Program} {ops : Array Oper} {Q : Exit → Act → World → Prop} {N : Nat} {w0 : World} {z : Nat} {a : Act} {w : World} (h : Q .normal a w) : wpStages P ops (NoPanic Q) N w0 z [] a w := h
/-- one stage: the reads, then the operation; what follows stands behind a variable -/
theorem wpStages_cons {P : Program} {ops : Array Oper} {Q : Exit → Act → World → Prop} {N : Nat} {w0 : World} {z : Nat} {T : List Nat} {e : Nat} {r : List (List Nat × Nat)} {a : Act} {w : World}
    (h : wpQuiet P ops (fun w' => ∃ d, w' = lowg N w0 d) (fun a' => ∃ o, ops[e]? = some o ∧ ∀ K : Act → World → Prop, (∀ a2 w2, (e = z ∨ Same 0 N w0 w2) → wpStages P ops Q N w0 z r a2 w2 → K a2 w2) → wpList P ops (Exit.then K Q) [o] a' w) (T.filterMap (ops[·]?)) a) :
    wpStages P ops Q N w0 z ((T, e) :: r) a w := by
  unfold wpStages
  have e1 : (fun a' => ∃ o, ops[e]? = some o ∧ wpList P ops (Exit.then (fun a2 w2 => (e = z ∨ Same 0 N w0 w2) ∧ wpStages P ops Q N w0 z r a2 w2) Q) [o] a' w) =
      (fun a' => ∃ o, ops[e]? = some o ∧ ∀ K : Act → World → Prop, (∀ a2 w2, (e = z ∨ Same 0 N w0 w2) → wpStages P ops Q N w0 z r a2 w2 → K a2 w2) → wpList P ops (Exit.then K Q) [o] a' w) := by
    funext a'
    refine propext ⟨fun ⟨o, ho, hl⟩ => ⟨o, ho, fun K hK => ?_⟩, fun ⟨o, ho, hl⟩ => ⟨o, ho, hl _ fun a2 w2 h1 h2 => ⟨h1, h2⟩⟩⟩
    unfold wpList at hl ⊢
    split
    · rename_i hw
      rw [if_pos hw] at hl
      rcases hl with hl | ⟨h1, h2⟩
      · refine .inl ?_
        have h4 := Oper.wp_mono (K' := wpList P ops (Exit.then K Q) []) (fun a2 w2 hk => hK a2 w2 hk.1 hk.2) hl
        unfold Oper.wp at h4 ⊢
        generalize (execOp a'.eval o).run P w = res at h4 ⊢
        cases res with
        | ok n w' => cases n <;> exact h4
        | halt x w' => cases x <;> exact h4
      · exact .inr ⟨h1, h2⟩
    · rename_i hw
      rw [if_neg hw] at hl
      exact hK _ _ hl.1 hl.2
  rw [e1]
  exact h


/-- the state of a region on its way, by stages: see wpZ_stage -/
def wpZ (P : Program) (ops : Array Oper) (Q : Exit → Act → World → Prop) (N : Nat) (w0 : World) (z fuel : Nat) (listed : Array Bool) (a : Act) (w : World) : Prop :=
  wpAnyZ P .any ops Q (fun w' => ∃ d, w' = lowg N w0 d) z fuel listed a w

def listAll : List Nat → Array Bool → Array Bool
  | [], l => l
  | i :: r, l => listAll r (l.setIfInBounds i true)

def takesOk (ops : Array Oper) (z : Nat) : List Nat → Array Bool → Bool
  | [], _ => true
  | i :: r, l => (match ops[i]? with | some o => isRead o.op | none => false) && (i != z && Region.free .any ops l i && (Region.ready .any ops l).contains i) && takesOk ops z r (l.setIfInBounds i true)

def stageOk (ops : Array Oper) (z : Nat) (T E : List Nat) (l : Array Bool) : Bool :=
  Region.noSelect ops && waitsAll .any ops z && takesOk ops z T l && (Region.ready .any ops (listAll T l) == E) && !E.isEmpty

/-- what is asked of the operation that comes up: what follows stands behind a variable -/
def wpComes (P : Program) (ops : Array Oper) (Q : Exit → Act → World → Prop) (N : Nat) (w0 : World) (z fuel : Nat) (l : Array Bool) (e : Nat) (a : Act) (w : World) : Prop :=
  ∃ o, ops[e]? = some o ∧ ∀ K : Act → World → Prop, (∀ a2 w2, (e = z ∨ Same 0 N w0 w2) → wpZ P ops Q N w0 z fuel (l.setIfInBounds e true) a2 w2 → K a2 w2) → wpList P ops (Exit.then K Q) [o] a w

theorem wpOp_of_comes {P : Program} {ops : Array Oper} {Q : Exit → Act → World → Prop} {N : Nat} {w0 : World} {z fuel : Nat} {l : Array Bool} {e : Nat} {a : Act} {w : World} (h : wpComes P ops Q N w0 z fuel l e a w) :
    wpOp P ops Q e (fun a' w' => (e = z ∨ ∃ d, w' = lowg N w0 d) ∧ wpZ P ops Q N w0 z fuel (l.setIfInBounds e true) a' w') a w := by
  obtain ⟨o, ho, hl⟩ := h
  have ht := hl (fun a' w' => (e = z ∨ ∃ d, w' = lowg N w0 d) ∧ wpZ P ops Q N w0 z fuel (l.setIfInBounds e true) a' w') (fun a2 w2 k1 k2 => ⟨k1.imp id (fun k => ⟨_, lowg_of k⟩), k2⟩)
  unfold wpOp
  simp only [ho]
  unfold wpList at ht
  split
  · rename_i hw
    rw [if_pos hw] at ht
    rcases ht with ht | ⟨h1, h2⟩
    · refine .inl ?_
      have h3 := upon_then ht
      exact h3
    · exact .inr ⟨h1, h2⟩
  · rename_i hw
    rw [if_neg hw] at ht
    exact ht

theorem wpZ_takes {P : Program} {ops : Array Oper} {Q : Exit → Act → World → Prop} {N : Nat} {w0 : World} {z fuel : Nat} {w : World} {K : Act → Prop} (hsel : Region.noSelect ops = true) (hz : waitsAll .any ops z = true) (hS : ∃ d, w = lowg N w0 d) :
    ∀ (T : List Nat) (l : Array Bool) (a : Act), takesOk ops z T l = true → (∀ a, K a → wpZ P ops (NoPanic Q) N w0 z fuel (listAll T l) a w) →
      wpQuiet P ops (fun w' => ∃ d, w' = lowg N w0 d) K (T.filterMap (ops[·]?)) a → wpZ P ops (NoPanic Q) N w0 z (T.length + fuel) l a w
  | [], l, a, _, hK, h => by rw [List.length_nil, Nat.zero_add]; exact hK a h
  | i :: T, l, a, hT, hK, h => by
    simp only [takesOk, Bool.and_eq_true, bne_iff_ne] at hT
    obtain ⟨⟨hri, ⟨hiz, hf⟩, hr⟩, hT'⟩ := hT
    cases ho : ops[i]? with
    | none => rw [ho] at hri; cases hri
    | some o =>
      rw [ho] at hri
      simp only [List.filterMap_cons, ho] at h
      unfold wpQuiet at h
      have hlen : (i :: T).length + fuel = T.length + fuel + 1 := by rw [List.length_cons]; omega
      rw [hlen]
      split at h
      · rename_i hw
        obtain ⟨v, hv, hn⟩ := h
        refine wpAnyZ_first (v := v) ho hz hiz (Region.noSelect_spec hsel) (fun c a w k => k) _ l a w (Region.free_spec ho hf) (by simpa using hr) (.inl ⟨hw, fun w' hw' => ?_⟩) hS (wpZ_takes hsel hz hS T _ _ hT' hK hn)
        have h1 := hv w' hw'
        unfold Oper.quietAt at h1
        cases hrun : (execOp a.eval o).run P w' with
        | halt x w1 => rw [hrun] at h1; exact h1.elim
        | ok n w1 =>
          obtain ⟨u, rfl⟩ := value_only hri hrun
          rw [hrun] at h1
          obtain ⟨e1, e2⟩ := h1
          rw [e1, e2]
      · rename_i hw
        exact wpAnyZ_first (v := undef) ho hz hiz (Region.noSelect_spec hsel) (fun c a w k => k) _ l a w (Region.free_spec ho hf) (by simpa using hr) (.inr ⟨by simpa using hw, rfl⟩) hS (wpZ_takes hsel hz hS T _ _ hT' hK h)

/-- a stage: the reads T are taken; then one of E comes up -/
theorem wpZ_stage {P : Program} {ops : Array Oper} {Q : Exit → Act → World → Prop} {N : Nat} {w0 : World} {z fuel : Nat} {l : Array Bool} {a : Act} {w : World} (T E : List Nat) (hB : stageOk ops z T E l = true) (hS : Same 0 N w0 w)
    (h : wpQuiet P ops (fun w' => ∃ d, w' = lowg N w0 d) (fun a' => ∀ e ∈ E, wpComes P ops (NoPanic Q) N w0 z fuel (listAll T l) e a' w) (T.filterMap (ops[·]?)) a) :
    wpZ P ops (NoPanic Q) N w0 z (T.length + (fuel + 1)) l a w := by
  simp only [stageOk, Bool.and_eq_true, beq_iff_eq] at hB
  obtain ⟨⟨⟨⟨h1, h2⟩, h3⟩, h4⟩, h5⟩ := hB
  refine wpZ_takes h1 h2 ⟨_, lowg_of hS⟩ T l a h3 (fun a' hk => ?_) h
  refine ⟨fun h0 => ?_, fun e he => ?_⟩
  · rw [h4] at h0; rw [h0] at h5; cases h5
  · rw [h4] at he
    exact wpOp_of_comes (hk e he)

theorem wpZ_end {P : Program} {ops : Array Oper} {Q : Exit → Act → World → Prop} {N : Nat} {w0 : World} {z : Nat} {l : Array Bool} {a : Act} {w : World} (hB : (Region.ready .any ops l).isEmpty = true) (h : Q .normal a w) : wpZ P ops (NoPanic Q) N w0 z 0 l a w :=
  ⟨by simpa using hB, h⟩

theorem wp_region_Z {P : Program} {Q : Exit → Act → World → Prop} {id : Nat} {a : Act} {w : World} {l : List Oper} (z N : Nat) (hm : P.follows .mixedOrders = true)
    (h : wpZ P l.toArray (NoPanic Q) N w z l.length (Array.replicate l.length false) a w.drew) : (Code.region id l.toArray true).wp P Q a w := by
  refine wp_region_noPanic (wp_region_any hm ?_)
  have := wpAny_of_Z _ _ _ _ h
  simpa using this

end Go.Proofs.YtaegmenjgjdimaaGreat
