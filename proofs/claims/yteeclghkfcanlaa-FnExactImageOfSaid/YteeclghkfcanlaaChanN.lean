/- This text joins walks of plain code with communications of one goroutine that need not wait; it speaks of no program. -/
import Derived.Test.YteeclghkfcanlaaBase
import Derived.Conc.LoneCalls
import Derived.Conc.LoneSelectN
namespace Go.Proofs.Yteeclghkfcanlaa
open Go.RowKit Go.Conc

section
variable {P : Program} {Q : Exit → Act → World → Prop} {a : Act} {w : World}

/-- what code does in the frame of an ordinary call -/
def runsN (P : Program) (c : Code) (Q : Exit → Act → World → Prop) (a : Act) (w : World) : Prop :=
  ∀ (b : Frame) (k : List Item) (cs : List Frame), b.kind = .normal → ∃ e a' w', Q e a' w' ∧ Arrives P (lone (b.at a (.code c :: k)) cs w) b k cs e a' w'
/-- the same within a region, operations l being left -/
def runsR (P : Program) (ops : Array Oper) (l : List Nat) (Q : Exit → Act → World → Prop) (a : Act) (w : World) : Prop :=
  ∀ (b : Frame) (k : List Item) (cs : List Frame), b.kind = .normal → ∃ e a' w', Q e a' w' ∧ Arrives P (lone (b.at a (.inRegion ops l :: k)) cs w) b k cs e a' w'

theorem runsN_wp {c : Code} (h : c.wp P Q a w) : runsN P c Q a w := fun b k cs _ => h b k cs
theorem runsN_seq {x y : Code} (h : runsN P x (Exit.then (runsN P y Q) Q) a w) : runsN P (.seq x y) Q a w := by
  intro b k cs hk
  obtain ⟨e, a1, w1, hq, hs⟩ := h b (.code y :: k) cs hk
  by_cases he : e = .normal
  · subst he
    obtain ⟨e2, a2, w2, hq2, hs2⟩ := hq b k cs hk
    exact ⟨e2, a2, w2, hq2, .of_steps (.head step_seq hs) hs2⟩
  · refine ⟨e, a1, w1, ?_, .of_steps (.one step_seq) (.pass (x := .code y) rfl (fun _ _ => .inl he) hs)⟩
    cases e <;> first | exact hq | exact absurd rfl he
theorem runsN_region {id : Nat} {ops : Array Oper} (h : runsR P ops (List.range ops.size) Q a w) : runsN P (.region id ops false) Q a w := fun b k cs hk =>
  let ⟨e, a', w', q, r⟩ := h b k cs hk; ⟨e, a', w', q, .of_steps (.one step_region) r⟩
theorem runsR_ops {ops : Array Oper} {l : List Nat} (h : wpOps P ops Q l a w) : runsR P ops l Q a w := fun b k cs _ => wp_ops l a w h b k cs
/-- an operation that yields a value -/
theorem runsR_value {ops : Array Oper} {i : Nat} {rest : List Nat} {o : Oper} {v : Value} (ho : ops[i]? = some o) (hw : Region.wanted o (yielded ops a.tmps) = true) (hr : (execOp a.eval o).run P w = .ok (.value v) w)
    (h : runsR P ops rest Q (a.put o.dst v) w) : runsR P ops (i :: rest) Q a w := by
  intro b k cs hk
  obtain ⟨e, a', w2, q, r⟩ := h b k cs hk
  refine ⟨e, a', w2, q, .of_steps (.one (step_lone_go ?_)) r⟩
  have hf := Frame.finish_at b a ops i rest k v
  rw [ho] at hf
  rw [stepG_op ho hw, show (b.at (a.put o.dst v) (.inRegion ops rest :: k)) = _ from hf.symm]
  simp [stepG.apply, hr]
/-- a send into a buffer with room -/
theorem runsR_send {ops : Array Oper} {i : Nat} {rest : List Nat} {o : Oper} {c cap s r : Nat} {buf : Array Value} {v z : Value} {tm : Bool} (ho : ops[i]? = some o) (hw : Region.wanted o (yielded ops a.tmps) = true)
    (hr : (execOp a.eval o).run P w = .ok (.comm #[scase c v z] true .send) w) (hc : w.heap[c]? = some (.chan cap buf false s r tm)) (hroom : buf.size < cap)
    (h : runsR P ops rest Q (a.put o.dst undef) (w.setChan c cap (buf.push v) false (s + 1) r tm)) : runsR P ops (i :: rest) Q a w := by
  intro b k cs hk
  obtain ⟨e, a', w2, q, hs⟩ := h b k cs hk
  refine ⟨e, a', w2, q, .of_steps (.one ?_) hs⟩
  have h1 := step_lone_send_room (stepG_comm (main := true) (k := k) (cs := cs) (rest := rest) ho hw (by rw [hk]; decide) hr) hc hroom
  rw [Frame.finish_at, ho] at h1
  exact h1
theorem selResult (c : Nat) (z v : Value) : commResult #[rcase c z] .select ((0 : Nat) : Int) v true = .tuple #[.int .i64 0, .bool true, v] := by
  simp [commResult, rcase, goInt]
/-- a select of one receive, the buffer holding something -/
theorem runsR_select {ops : Array Oper} {i : Nat} {rest : List Nat} {o : Oper} {c cap s r : Nat} {buf : Array Value} {z : Value} {tm closed : Bool} (ho : ops[i]? = some o) (hw : Region.wanted o (yielded ops a.tmps) = true)
    (hr : (execOp a.eval o).run P w = .ok (.comm #[rcase c z] true .select) w) (hc : w.heap[c]? = some (.chan cap buf closed s r tm)) (hsome : 0 < buf.size)
    (h : runsR P ops rest Q (a.put o.dst (.tuple #[.int .i64 0, .bool true, buf.getD 0 undef])) (w.setChan c cap (buf.extract 1 buf.size) closed s (r + 1) tm)) : runsR P ops (i :: rest) Q a w := by
  intro b k cs hk
  obtain ⟨e, a', w2, q, hs⟩ := h b k cs hk
  refine ⟨e, a', w2, q, .of_steps (.one ?_) hs⟩
  have h1 := step_lone_sel_recv_buf (k := 0) (stepG_comm (main := true) (k := k) (cs := cs) (rest := rest) ho hw (by rw [hk]; decide) hr) rfl (fun m c' hm hc' => by
    rcases m with _ | m
    · exact absurd rfl hm
    · simp at hc') hc hsome
  rw [Frame.finish_at, ho, selResult] at h1
  exact h1
/-- the function comes to its end or to a return, with this result -/
def endPost (P : Program) (fn : Func) (R : Ending → World → Prop) : Exit → Act → World → Prop
  | .normal, a, w | .ret, a, w => a.defers = [] ∧ ∃ v, (results fn a.tmps).run P w = .ok v w ∧ R (.returned v) w
  | _, _, _ => False
theorem endPost_ret {fn : Func} {R : Ending → World → Prop} {v : Value} (hr : (results fn a.tmps).run P w = .ok v w) (hd : a.defers = []) (hR : R (.returned v) w) : endPost P fn R .ret a w := ⟨hd, v, hr, hR⟩
/-- a function's contract out of what its body does -/
theorem calls_of_runsN {f : FuncId} {fn : Func} {c : Code} {args : Array Value} {R : Ending → World → Prop} (hf : P.funcs[f]? = some fn) (hb : fn.body = some c)
    (h : runsN P c (endPost P fn R) { tmps := args ++ Array.replicate (fn.ntmps - args.size) undef, defers := [] } w) : Calls P f args w R := by
  intro cs
  have hin : Frame.enter P f args .normal = ({ (default : Frame) with fn := f, kind := .normal } : Frame).at { tmps := args ++ Array.replicate (fn.ntmps - args.size) undef, defers := [] } [.code c] := by
    simp [Frame.enter, Frame.at, hf, hb]
  obtain ⟨e, a', w', hq, hs⟩ := h { (default : Frame) with fn := f, kind := .normal } [] cs rfl
  rw [← hin] at hs
  cases e
  case normal =>
    obtain ⟨hd, v, hr, hR⟩ := hq
    exact ⟨.returned v, w', _, hR, Steps.trans hs (.one step_end), rfl, rfl, hd, rfl, fn, hf, hr⟩
  case ret =>
    obtain ⟨hd, v, hr, hR⟩ := hq
    obtain ⟨todo, ht⟩ := hs
    exact ⟨.returned v, w', _, hR, ht, rfl, rfl, hd, rfl, fn, hf, hr⟩
  all_goals exact (hq : False).elim
end
end Go.Proofs.Yteeclghkfcanlaa
