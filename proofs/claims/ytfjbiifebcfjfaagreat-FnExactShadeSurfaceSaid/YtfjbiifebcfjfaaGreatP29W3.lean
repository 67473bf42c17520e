/- Texts of this claim, one behind another; what its theorem does not use is left out: PlanC, Fr1, RoundIn, Cells, Rb, Ge1, Tms, Ge4, Ge5, PlanB, PlanD, Ge6, Ge7, Tr1, Tr3, Ge8, Ge9, Ge2, Ge3, Ck2, Ck3, Ck4, Ck5, Ck6, Ow1, Ow2, Ow3, Ow4, Ow5, Ow6, Ow7, Ow8. -/
import Derived.Test.YtfjbiifebcfjfaaGreatP29W1
import Derived.Test.YtfjbiifebcfjfaaGreatP29W2
import Derived.RangeFuncNested
import Derived.RangeFuncBound
import Derived.RangeFuncCalls
import Derived.RangeFuncLeaves
import Derived.Shelf.Abstract
import Derived.Shelf.RegionOpen
import Derived.OwnWalkIn
import Derived.TacticsInMore
import Derived.LoopNIn
import Derived.LoopIn
import Derived.Test.YtfjbiifebcfjfaaGreatRows
import Derived.RangeFuncFrom
import Derived.RangeFuncBox
import Derived.Laws.AppendOwnNone
import Derived.Maps.OwnSet
import Derived.Maps.OwnOps
import Derived.Maps.Views
set_option linter.unusedSimpArgs false
set_option linter.unusedVariables false
set_option maxRecDepth 100000
set_option maxHeartbeats 12800000
namespace Go.Proofs.YtfjbiifebcfjfaaGreat
open Go.RowKit
open Classical in
noncomputable def lowc (C:Addr→Prop) (w d:World):World:=if (∀a,C a→d.cell? a=w.cell? a∧d.frozen? a=w.frozen? a) then d else w
theorem lowc_same (C:Addr→Prop) (w d:World):∀a,C a→(lowc C w d).cell? a=w.cell? a∧(lowc C w d).frozen? a=w.frozen? a:=by
 unfold lowc
 split
 ·assumption
 ·exact fun _ _=>⟨rfl,rfl⟩
@[go_sem] theorem cell?_lowc (C:Addr→Prop) (w d:World) (a:Addr) (h:C a):(lowc C w d).cell? a=w.cell? a:=(lowc_same C w d a h).1
@[go_sem] theorem frozen?_lowc (C:Addr→Prop) (w d:World) (a:Addr) (h:C a):(lowc C w d).frozen? a=w.frozen? a:=(lowc_same C w d a h).2
def SC (C:Addr→Prop) (w:World):World→Prop:=fun w'=>∃d,w'=lowc C w d
theorem SC.of {C:Addr→Prop} {w w2:World} (h:∀a,C a→w2.cell? a=w.cell? a∧w2.frozen? a=w.frozen? a):SC C w w2:=⟨w2,by unfold lowc;rw [if_pos h]⟩
theorem SC.drew (C:Addr→Prop) (w:World):SC C w w.drew:=SC.of fun _ _=>⟨rfl,rfl⟩
theorem SC.get {C:Addr→Prop} {w w2:World} (h:SC C w w2):∀a,C a→w2.cell? a=w.cell? a∧w2.frozen? a=w.frozen? a:=by
 obtain ⟨d,rfl⟩:=h;exact lowc_same C w d
theorem SC.blocks {C:Addr→Prop} {w w2:World} (h:∀a,C a→w2.heap[a.block]?=w.heap[a.block]?):SC C w w2:=SC.of fun a ha=>⟨World.cell?_of_block (h a ha),World.frozen?_of_block (h a ha)⟩
theorem bind_ok {P:Program} {α β : Type} {s:Sem α} {f : α→Sem β} {w w':World} {b : β} (h:(s.bind f).run P w = .ok b w'):∃a w1,(f a).run P w1 = .ok b w':=by
 rw [Sem.run_bind'] at h
 cases hs:s.run P w with
 | ok v w1=>rw [hs] at h;exact ⟨v,w1,h⟩
 | halt x w1=>rw [hs] at h;simp at h
theorem nil_value {P:Program} {ρ : Operand→Value} {x:Operand} {o:Oper} (hx:o.op = .nilCheck x) {w w':World} {n:Next} (h:(execOp ρ o).run P w = .ok n w'):∃v,n = .value v:=by
 unfold execOp at h;rw [hx] at h;dsimp only at h
 have hp:∀{v:Value} {w1:World},Sem.run P (pure (Next.value v)) w1=Result.ok n w'→∃v,n = .value v:=fun h=>by simp at h;exact ⟨_,h.1.symm⟩
 split at h
 ·simp [runtimePanic] at h
 ·simp [runtimePanic] at h
 ·simp [runtimePanic] at h
 ·split at h
  ·simp [runtimePanic] at h
  ·obtain ⟨a,w1,h⟩:=bind_ok h
   obtain ⟨c,w2,h⟩:=bind_ok h
   split at h
   ·obtain ⟨d,w3,h⟩:=bind_ok h
    exact hp h
   ·exact hp h
  ·exact hp h
 ·exact hp h
def isReadC:Op→Bool
 | .nilCheck _=>true
 | o=>isRead o
theorem value_onlyC {P:Program} {ρ : Operand→Value} {o:Oper} (hr:isReadC o.op=true) {w w':World} {n:Next} (h:(execOp ρ o).run P w = .ok n w'):∃v,n = .value v:=by
 by_cases hn:∃x,o.op = .nilCheck x
 ·obtain ⟨x,hx⟩:=hn
  exact nil_value hx h
 ·refine value_only ?_ h
  revert hr hn
  cases o.op <;> intro hr hn <;> first|exact absurd ⟨_,rfl⟩ hn|exact hr
def readsOkC (ops:Array Oper):List (List Nat×Nat)→Bool
 | []=>true
 | (T,_)::r=>T.all (fun i=>match ops[i]? with|some o=>isReadC o.op|none=>false)&&readsOkC ops r
def wpStagesS (P:Program) (ops:Array Oper) (Q:Exit→Act→World→Prop) (S:World→Prop) (z:Nat):List (List Nat×Nat)→Act→World→Prop
 | [],a,w=>Q .normal a w
 | (T,e)::r,a,w=>wpQuiet P ops S (fun a'=>∃o,ops[e]?=some o∧wpList P ops (Exit.then (fun a2 w2=>(e=z∨S w2)∧wpStagesS P ops Q S z r a2 w2) Q) [o] a' w) (T.filterMap (ops[·]?)) a
theorem plan_of_quietS {P:Program} {ops:Array Oper} {Q:Exit→Act→World→Prop} {S:World→Prop} {z:Nat} {r:List (Bool×Nat)} {w:World} {K:Act→Prop}
  (hK:∀a,K a→wpPlan P ops Q S z r a w) :
  ∀(T:List Nat) (a:Act),T.all (fun i=>match ops[i]? with|some o=>isReadC o.op|none=>false)=true→wpQuiet P ops S K (T.filterMap (ops[·]?)) a →
   wpPlan P ops Q S z (T.map (fun i=>(true,i))++r) a w
 | [],a,_,h=>hK a h
 | i::T,a,hr,h=>by
  simp only [List.all_cons,Bool.and_eq_true] at hr;obtain ⟨hri,hr'⟩:=hr
  cases ho:ops[i]? with
  | none=>rw [ho] at hri;cases hri
  | some o=>
   rw [ho] at hri;simp only [List.filterMap_cons,ho] at h;refine ⟨o,ho,?_⟩;unfold takeOp;unfold wpQuiet at h
   split
   ·rename_i hw
    rw [if_pos hw] at h;obtain ⟨v,hv,hn⟩:=h;refine ⟨v,fun w' hw'=>?_,plan_of_quietS hK T _ hr' hn⟩;have h1:=hv w' hw';unfold Oper.quietAt at h1
    cases hrun:(execOp a.eval o).run P w' with
    | halt x w1=>rw [hrun] at h1;exact h1.elim
    | ok n w1=>
     obtain ⟨u,rfl⟩:=value_onlyC hri hrun;rw [hrun] at h1;obtain ⟨e1,e2⟩:=h1;rw [e1,e2]
   ·rename_i hw
    rw [if_neg hw] at h;exact plan_of_quietS hK T _ hr' h
theorem plan_of_stagesS {P:Program} {ops:Array Oper} {Q:Exit→Act→World→Prop} {S:World→Prop} {z:Nat}:∀(st:List (List Nat×Nat)) (a:Act) (w:World),readsOkC ops st=true →
  wpStagesS P ops Q S z st a w→wpPlan P ops Q S z (stagesPlan st) a w
 | [],_,_,_,h=>h
 | (T,e)::r,a,w,hr,h=>by
  simp only [readsOkC,Bool.and_eq_true] at hr;refine plan_of_quietS (K:=fun a'=>∃o,ops[e]?=some o∧wpList P ops (Exit.then (fun a2 w2=>(e=z∨S w2)∧wpStagesS P ops Q S z r a2 w2) Q) [o] a' w) (fun a' ha=>?_) T a hr.1 h;obtain ⟨o,ho,hl⟩:=ha;refine ⟨o,ho,?_⟩
  have key:∀a2 w2,((e=z∨S w2)∧wpStagesS P ops Q S z r a2 w2)→((e=z∨S w2)∧wpPlan P ops Q S z (stagesPlan r) a2 w2):=
   fun a2 w2 ⟨k1,k2⟩=>⟨k1,plan_of_stagesS r a2 w2 hr.2 k2⟩
  unfold wpList at hl ⊢
  split
  ·rename_i hw
   rw [if_pos hw] at hl
   rcases hl with hl|⟨h1,h2⟩
   ·refine .inl ?_
    have h3:=upon_then hl;have h4:o.wp P a' w (wpList P ops (Exit.then (fun a2 w2=>(e=z∨S w2)∧wpStagesS P ops Q S z r a2 w2) Q) []) Q:=h3;have h5:=Oper.wp_mono (K':=wpList P ops (Exit.then (fun a2 w2=>(e=z∨S w2)∧wpPlan P ops Q S z (stagesPlan r) a2 w2) Q) []) (fun a2 w2 hk=>key a2 w2 hk) h4;unfold Oper.wp at h5 ⊢;generalize (execOp a'.eval o).run P w=res at h5 ⊢
    cases res with
    | ok n w'=>cases n <;> exact h5
    | halt x w'=>cases x <;> exact h5
   ·exact .inr ⟨h1,h2⟩
  ·rename_i hw
   rw [if_neg hw] at hl;exact key _ _ hl
theorem wp_region_stagesS {P:Program} {Q:Exit→Act→World→Prop} {id:Nat} {a:Act} {w:World} {l:List Oper} (st:List (List Nat×Nat)) (z:Nat) (S:World→Prop) (hm:P.follows .mixedOrders=true)
  (hB:(planB .any l.toArray z (stagesPlan st)&&readsOkC l.toArray st&&(stagesPlan st).length==l.length)=true)
  (hS:S w.drew) (h:wpStagesS P l.toArray (NoPanic Q) S z st a w.drew):(Code.region id l.toArray true).wp P Q a w:=by
 simp only [Bool.and_eq_true,beq_iff_eq] at hB;exact wp_region_plan (stagesPlan st) z S hm hB.1.1 hB.2 hS (plan_of_stagesS st a w.drew hB.1.2 h)
theorem wpStagesS_nil {P:Program} {ops:Array Oper} {Q:Exit→Act→World→Prop} {S:World→Prop} {z:Nat} {a:Act} {w:World} (h:Q .normal a w):wpStagesS P ops (NoPanic Q) S z [] a w:=h
theorem wpStagesS_cons {P:Program} {ops:Array Oper} {Q:Exit→Act→World→Prop} {S:World→Prop} {z:Nat} {T:List Nat} {e:Nat} {r:List (List Nat×Nat)} {a:Act} {w:World}
  (h:wpQuiet P ops S (fun a'=>∃o,ops[e]?=some o∧∀K:Act→World→Prop,(∀a2 w2,(e=z∨S w2)→wpStagesS P ops Q S z r a2 w2→K a2 w2)→wpList P ops (Exit.then K Q) [o] a' w) (T.filterMap (ops[·]?)) a) :
  wpStagesS P ops Q S z ((T,e)::r) a w:=by
 unfold wpStagesS
 have e1:(fun a'=>∃o,ops[e]?=some o∧wpList P ops (Exit.then (fun a2 w2=>(e=z∨S w2)∧wpStagesS P ops Q S z r a2 w2) Q) [o] a' w) =
   (fun a'=>∃o,ops[e]?=some o∧∀K:Act→World→Prop,(∀a2 w2,(e=z∨S w2)→wpStagesS P ops Q S z r a2 w2→K a2 w2)→wpList P ops (Exit.then K Q) [o] a' w):=by
  funext a'
  refine propext ⟨fun ⟨o,ho,hl⟩=>⟨o,ho,fun K hK=>?_⟩,fun ⟨o,ho,hl⟩=>⟨o,ho,hl _ fun a2 w2 h1 h2=>⟨h1,h2⟩⟩⟩;unfold wpList at hl ⊢
  split
  ·rename_i hw
   rw [if_pos hw] at hl
   rcases hl with hl|⟨h1,h2⟩
   ·refine .inl ?_
    have h4:=Oper.wp_mono (K':=wpList P ops (Exit.then K Q) []) (fun a2 w2 hk=>hK a2 w2 hk.1 hk.2) hl;unfold Oper.wp at h4 ⊢;generalize (execOp a'.eval o).run P w=res at h4 ⊢
    cases res with
    | ok n w'=>cases n <;> exact h4
    | halt x w'=>cases x <;> exact h4
   ·exact .inr ⟨h1,h2⟩
  ·rename_i hw
   rw [if_neg hw] at hl;exact hK _ _ hl.1 hl.2
 rw [e1];exact h
def wpZS (P:Program) (ops:Array Oper) (Q:Exit→Act→World→Prop) (S:World→Prop) (z fuel:Nat) (listed:Array Bool) (a:Act) (w:World):Prop:=
 wpAnyZ P .any ops Q S z fuel listed a w
def takesOkC (ops:Array Oper) (z:Nat):List Nat→Array Bool→Bool
 | [],_=>true
 | i::r,l=>(match ops[i]? with|some o=>isReadC o.op|none=>false)&&(i != z&&Region.free .any ops l i&&(Region.ready .any ops l).contains i)&&takesOkC ops z r (l.setIfInBounds i true)
def stageOkC (ops:Array Oper) (z:Nat) (T E:List Nat) (l:Array Bool):Bool:=
 Region.noSelect ops&&waitsAll .any ops z&&takesOkC ops z T l&&(Region.ready .any ops (listAll T l)==E) && !E.isEmpty
def wpComesS (P:Program) (ops:Array Oper) (Q:Exit→Act→World→Prop) (S:World→Prop) (z fuel:Nat) (l:Array Bool) (e:Nat) (a:Act) (w:World):Prop:=
 ∃o,ops[e]?=some o∧∀K:Act→World→Prop,(∀a2 w2,(e=z∨S w2)→wpZS P ops Q S z fuel (l.setIfInBounds e true) a2 w2→K a2 w2)→wpList P ops (Exit.then K Q) [o] a w
theorem wpOp_of_comesS {P:Program} {ops:Array Oper} {Q:Exit→Act→World→Prop} {S:World→Prop} {z fuel:Nat} {l:Array Bool} {e:Nat} {a:Act} {w:World} (h:wpComesS P ops Q S z fuel l e a w) :
  wpOp P ops Q e (fun a' w'=>(e=z∨S w')∧wpZS P ops Q S z fuel (l.setIfInBounds e true) a' w') a w:=by
 obtain ⟨o,ho,hl⟩:=h;have ht:=hl (fun a' w'=>(e=z∨S w')∧wpZS P ops Q S z fuel (l.setIfInBounds e true) a' w') (fun a2 w2 k1 k2=>⟨k1,k2⟩);unfold wpOp;simp only [ho];unfold wpList at ht
 split
 ·rename_i hw
  rw [if_pos hw] at ht
  rcases ht with ht|⟨h1,h2⟩
  ·refine .inl ?_
   have h3:=upon_then ht;exact h3
  ·exact .inr ⟨h1,h2⟩
 ·rename_i hw
  rw [if_neg hw] at ht;exact ht
theorem wpZS_takes {P:Program} {ops:Array Oper} {Q:Exit→Act→World→Prop} {S:World→Prop} {z fuel:Nat} {w:World} {K:Act→Prop} (hsel:Region.noSelect ops=true) (hz:waitsAll .any ops z=true) (hS:S w) :
  ∀(T:List Nat) (l:Array Bool) (a:Act),takesOkC ops z T l=true→(∀a,K a→wpZS P ops (NoPanic Q) S z fuel (listAll T l) a w) →
   wpQuiet P ops S K (T.filterMap (ops[·]?)) a→wpZS P ops (NoPanic Q) S z (T.length+fuel) l a w
 | [],l,a,_,hK,h=>by rw [List.length_nil,Nat.zero_add];exact hK a h
 | i::T,l,a,hT,hK,h=>by
  simp only [takesOkC,Bool.and_eq_true,bne_iff_ne] at hT;obtain ⟨⟨hri,⟨hiz,hf⟩,hr⟩,hT'⟩:=hT
  cases ho:ops[i]? with
  | none=>rw [ho] at hri;cases hri
  | some o=>
   rw [ho] at hri;simp only [List.filterMap_cons,ho] at h;unfold wpQuiet at h
   have hlen:(i::T).length+fuel=T.length+fuel+1:=by rw [List.length_cons];omega
   rw [hlen]
   split at h
   ·rename_i hw
    obtain ⟨v,hv,hn⟩:=h;refine wpAnyZ_first (v:=v) ho hz hiz (Region.noSelect_spec hsel) (fun c a w k=>k) _ l a w (Region.free_spec ho hf) (by simpa using hr) (.inl ⟨hw,fun w' hw'=>?_⟩) hS (wpZS_takes hsel hz hS T _ _ hT' hK hn);have h1:=hv w' hw';unfold Oper.quietAt at h1
    cases hrun:(execOp a.eval o).run P w' with
    | halt x w1=>rw [hrun] at h1;exact h1.elim
    | ok n w1=>
     obtain ⟨u,rfl⟩:=value_onlyC hri hrun;rw [hrun] at h1;obtain ⟨e1,e2⟩:=h1;rw [e1,e2]
   ·rename_i hw
    exact wpAnyZ_first (v:=undef) ho hz hiz (Region.noSelect_spec hsel) (fun c a w k=>k) _ l a w (Region.free_spec ho hf) (by simpa using hr) (.inr ⟨by simpa using hw,rfl⟩) hS (wpZS_takes hsel hz hS T _ _ hT' hK h)
theorem wpZS_stage {P:Program} {ops:Array Oper} {Q:Exit→Act→World→Prop} {S:World→Prop} {z fuel:Nat} {l:Array Bool} {a:Act} {w:World} (T E:List Nat) (hB:stageOkC ops z T E l=true) (hS:S w)
  (h:wpQuiet P ops S (fun a'=>∀e∈E,wpComesS P ops (NoPanic Q) S z fuel (listAll T l) e a' w) (T.filterMap (ops[·]?)) a) :
  wpZS P ops (NoPanic Q) S z (T.length+(fuel+1)) l a w:=by
 simp only [stageOkC,Bool.and_eq_true,beq_iff_eq] at hB;obtain ⟨⟨⟨⟨h1,h2⟩,h3⟩,h4⟩,h5⟩:=hB;refine wpZS_takes h1 h2 hS T l a h3 (fun a' hk=>?_) h;refine ⟨fun h0=>?_,fun e he=>?_⟩
 ·rw [h4] at h0;rw [h0] at h5;cases h5
 ·rw [h4] at he
  exact wpOp_of_comesS (hk e he)
theorem wpZS_end {P:Program} {ops:Array Oper} {Q:Exit→Act→World→Prop} {S:World→Prop} {z:Nat} {l:Array Bool} {a:Act} {w:World} (hB:(Region.ready .any ops l).isEmpty=true) (h:Q .normal a w):wpZS P ops (NoPanic Q) S z 0 l a w:=
 ⟨by simpa using hB,h⟩
theorem sc_ {P:Program} {ops:Array Oper} {Q:Exit→Act→World→Prop} {S:World→Prop} {z:Nat} {T:List Nat} {e:Nat} {r:List (List Nat×Nat)} {a:Act} {w:World} {l:List Oper} {a0 a1:Act} {o:Oper}
  (h:∀K:Act→World→Prop,(∀a2 w2,(e=z∨S w2)→wpStagesS P ops Q S z r a2 w2→K a2 w2)→wpList P ops (Exit.then K Q) [o] a1 w)
  (hl:T.filterMap (ops[·]?)=l:=by first|(simp only [List.filterMap_cons,List.filterMap_nil,List.getElem?_toArray,List.getElem?_cons_zero,List.getElem?_cons_succ];rfl)|rfl)
  (ha:a=a0:=by first|(simp only [Act.put,List.setIfInBounds_toArray,List.set_cons_succ,List.set_cons_zero];rfl)|rfl)
  (hq:∀R:Act→Prop,R a1→wpQuiet P ops S R l a0:=by intro R h;(repeat (show wpQuiet _ _ _ _ (_::_) _;go_big_quiet_step (fail)));exact wpQuiet_nil h) (ho:ops[e]?=some o:=by rfl):wpStagesS P ops Q S z ((T,e)::r) a w:=by
 subst ha;refine wpStagesS_cons ?_;rw [hl];exact hq _ ⟨o,ho,h⟩
section
variable {P : Program} {ops : Array Oper} {Q : Exit → Act → World → Prop} {md : Region.Mode} {l n : Nat}
abbrev rd (l:Nat):Fence:=Fence.wide.inRound l
theorem round_room (l n:Nat):(rd l).depth.isSome=true→1≤n:=fun h=>by simp [rd,Fence.wide] at h
theorem rows_in {row:String} {args:Array Value} {w:World} {R:Value→World→Prop} (h:Rows P row args w R):RowsIn (rd l) n P row args w R:=
 fun c cs _=>let ⟨v,w',r,s⟩:=h c cs;⟨v,w',r,(stepsIn_wide (P:=P)).2 s⟩
theorem oper_in {o:Oper} {a:Act} {w:World} {K:Act→World→Prop} (hd:∀c,o.op≠.defer c) (hl : ¬LetsOut Q) (h:o.wp P a w K Q∨(o.asks P a w∧LetsOut Q)):o.wpIn (rd l) n P a w K Q:=by
 rcases h with h|⟨_,h⟩
 ·refine ⟨fun _ _=>trivial,?_⟩
  rw [show (rd l).round=some l from rfl,Oper.semAt_some l _ _ hd];unfold Oper.wp at h;generalize (execOp a.eval o).run P w=r at h ⊢
  cases r with
  | ok x w'=>
   cases x
   case value v=>exact h
   case skip=>exact h
   case defer d=>exact h
   case enter f args=>exact ⟨round_room l n,CallsIn.inRound l ((callsIn_wide (n:=n - 1)).2 h)⟩
   case row r args=>exact ⟨round_room l n,rows_in h⟩
   all_goals exact (h:False).elim
  | halt x w'=>
   cases x
   all_goals first|exact h|exact (h:False).elim
 ·exact (hl h).elim
def noDefer (ops:List Oper):Bool:=ops.all fun o=>match o.op with | .defer _=>false|_=>true
theorem noDefer_at {ops:List Oper} (h:noDefer ops=true) {i:Nat} {o:Oper} (ho:ops[i]?=some o):∀c,o.op≠.defer c:=by
 intro c hc;have:=List.all_eq_true.1 h o (List.mem_of_getElem? ho);rw [hc] at this;cases this
theorem wpAny_in (hd:noDefer ops.toList=true) (hl : ¬LetsOut Q):∀(fuel:Nat) (listed:Array Bool) (a:Act) (w:World),wpAny P md ops Q fuel listed a w→wpAnyIn (rd l) n P md ops Q fuel listed a w
 | 0,_,_,_,h=>h
 | fuel+1,listed,a,w,h=>by
  refine ⟨h.1,fun i hi=>?_⟩;have h2:=wpOp_mono (fun a' w' h'=>wpAny_in hd hl fuel _ a' w' h') (h.2 i hi);unfold wpOp at h2;unfold wpOpIn
  cases ho:ops[i]? with
  | none=>rw [ho] at h2;exact h2
  | some o=>
   rw [ho] at h2;simp only at h2 ⊢
   split
   ·rename_i hw
    rw [if_pos hw] at h2;exact oper_in (noDefer_at (i:=i) hd (by simpa using ho)) hl h2
   ·rename_i hw
    rw [if_neg hw] at h2;exact ⟨fun _ _=>trivial,h2⟩
theorem wpList_in (hl : ¬LetsOut Q):∀(rest:List Oper) (a:Act) (w:World),noDefer rest=true→wpList P ops Q rest a w→wpListIn (rd l) n P ops Q rest a w
 | [],_,_,_,h=>h
 | o::rest,a,w,hd,h=>by
  have hd2:noDefer rest=true:=by
   unfold noDefer at hd ⊢;rw [List.all_cons,Bool.and_eq_true] at hd;exact hd.2
  unfold wpList at h;unfold wpListIn
  split
  ·rename_i hw
   rw [if_pos hw] at h;refine oper_in (noDefer_at (i:=0) hd rfl) hl (h.imp (fun k=>?_) id);exact Oper.wp_mono (fun a' w' h'=>wpList_in hl rest a' w' hd2 h') k
  ·rename_i hw
   rw [if_neg hw] at h;exact ⟨fun _ _=>trivial,wpList_in hl rest _ _ hd2 h⟩
theorem noPanic_out (hl : ¬LetsOut Q) : ¬LetsOut (NoPanic Q):=fun ⟨a,w,h⟩=>hl ⟨a,w,h⟩
theorem wpIn_region_plain {id:Nat} {a:Act} {w:World} {l':List Oper} (hd:noDefer l'=true) (hl : ¬LetsOut Q) (h:wpList P l'.toArray Q l' a w):(Code.region id l'.toArray false).wpIn (rd l) n P Q a w:=
 wpIn_region_lit (wpList_in hl _ _ _ hd h)
end
section
open Go.RowKit Go.Shelf
attribute [local go_sem] Oper.semAt_some
def cellK (n:Nat) (hn:0<n) (k:Nat):Fin n×Fin n:=(⟨k % n,Nat.mod_lt _ hn⟩,⟨k / n % n,Nat.mod_lt _ hn⟩)
def cellsTo (n:Nat) (hn:0<n) (k:Nat):List (Fin n×Fin n):=(List.range k).map (cellK n hn)
theorem cellsTo_length (n:Nat) (hn:0<n) (k:Nat):(cellsTo n hn k).length=k:=by simp [cellsTo]
theorem cellsTo_succ (n:Nat) (hn:0<n) (k:Nat):cellsTo n hn (k+1)=cellsTo n hn k++[cellK n hn k]:=by simp [cellsTo,List.range_succ]
def KB (B:Nat) (W W':World):Prop:=W'.heap[B]?=W.heap[B]?
theorem KB.trans {B:Nat} {X Y Z:World} (h:KB B X Y) (k:KB B Y Z):KB B X Z:=Eq.trans k h
theorem cells_val (n:Nat) (m:Nat) (w:World) :
  CallsIn Fence.wide m Tryz.prog 157 #[.int .i64 n] w fun e w'=>e = .returned (.func (.func 219) #[] #[.pointer (some ⟨w.heap.size,0,none⟩)])∧w'=w.alloc (.cells #[.int .i64 n] 3):=by
 refine callsIn_wide.2 ?_;have hmf:∀w:World,(Instr.makeFunc (.func 219) #[] #[.pointer (some ⟨w.heap.size,0,none⟩)]).run Tryz.prog w = .ok (.func (.func 219) #[] #[.pointer (some ⟨w.heap.size,0,none⟩)]) w:=fun _=>rfl;go_enter Tryz.func157,Tryz.ntmps157;go_wp2;go_ret;exact ⟨rfl,rfl⟩
theorem cells_in (n:Nat) (h0n:0<n) (hn':n≤64) (m:Nat) (l B:Nat) (J Jx:List (Fin n×Fin n)→World→Prop)
  (hJd:∀s W,J s W→J s W.drew)
  (hY:∀pre x W,J pre W→pre.length<n*n→YieldAt Fence.wide (m - 1) Tryz.prog l #[.int .i64 (x.1:Nat),.int .i64 (x.2:Nat)] W fun e W'=>
   (e = .returned (.bool true)∧J (pre++[x]) W'∧KB B W W')∨(e = .returned (.bool false)∧Jx (pre++[x]) W'))
  (W:World) (hW:W.cell? ⟨B,0,none⟩=some (.int .i64 n)) (h0:J [] W) :
  CallsIn Fence.wide m Tryz.prog 219 #[.func (.yield l) #[] #[],.pointer (some ⟨B,0,none⟩)] W fun e W'=>(∃v,e = .returned v) ∧
   ((∃xs,xs=cellsTo n h0n (n*n)∧J xs W')∨(∃pre,True∧Jx pre W')):=by
 have hnn:n*n≤4096:=Nat.mul_le_mul hn' hn';refine callsIn_of_wp Tryz.func219 rfl trivial ?_ rfl;simp only [Tryz.ntmps219,List.size_toArray,List.length_cons,List.length_nil,Nat.reduceAdd,Nat.reduceSub,Array.replicate_succ,Array.replicate_zero,List.push_toArray,List.append_toArray,List.nil_append,List.cons_append]
 gi_wp2
 gi_loopw [3] (fun i wr=>∃k:Nat,k≤n*n∧i = .int .i64 k∧J (cellsTo n h0n k) wr∧KB B W wr) (fun i _=>n*n - (intOf i).toNat)
 case atStart=>exact ⟨0,Nat.zero_le _,rfl,h0,rfl⟩
 case round=>
  obtain ⟨k,hk,rfl,hJs,hnx⟩:=hrel;have hc:wr.cell? ⟨B,0,none⟩=some (.int .i64 n):=(World.cell?_of_block (w:=W) (w':=wr) (a:=⟨B,0,none⟩) hnx).trans hW
  have hmul:(n:Int)*n=((n*n:Nat):Int):=by simp
  obtain ⟨N,hN⟩:∃N,n*n=N:=⟨_,rfl⟩
  rw [hN] at hmul hk hnn ⊢
  by_cases hlt:k<N
  ·have hne:(n:Int)≠0:=by omega
   have hq:k / n % n=k / n:=Nat.mod_eq_of_lt (Nat.div_lt_of_lt_mul (by rw [hN];exact hlt));have hm:k % n<n:=Nat.mod_lt _ h0n
   have t1:Int.tmod (k:Int) n=((k % n:Nat):Int):=by rw [Int.tmod_eq_emod_of_nonneg (by omega)];rfl
   have t2:Int.tdiv (k:Int) n=((k / n:Nat):Int):=by rw [Int.tdiv_eq_ediv_of_nonneg (by omega)];rfl
   have hd:k / n<n:=Nat.div_lt_of_lt_mul (by rw [hN];exact hlt)
   obtain ⟨r,hr⟩:∃r,k % n=r:=⟨_,rfl⟩
   obtain ⟨d,hdd⟩:∃d,k / n=d:=⟨_,rfl⟩
   obtain ⟨fn,tmps,assign,body,hy,hR⟩:=hY (cellsTo n h0n k) (cellK n h0n k) wr.drew (hJd _ _ hJs) (by rw [cellsTo_length,hN];exact hlt);rw [←cellsTo_succ] at hR;dsimp only [cellK] at hy;rw [hq,hr,hdd] at hy;rw [hr] at t1 hm;rw [hdd] at t2 hd;have t3:IntKind.i64.wrap (d:Int)=(d:Int):=IntWalk.i64_in _ (by omega);clear hq hr hdd hJs
   gi_wp2
   have hmx:Tryz.prog.follows .mixedOrders=true:=by kernel_rfl
   have hR2:=RoundIn.mono (R':=fun e W'=>∃b:Bool,e = .returned (.bool b)∧((b=true∧J (cellsTo n h0n (k+1)) W'∧KB B wr.drew W')∨(b=false∧Jx (cellsTo n h0n (k+1)) W'))) hR (fun e W' h=>by
    rcases h with ⟨rfl,h1,h2⟩|⟨rfl,h1⟩
    ·exact ⟨true,rfl,.inl ⟨rfl,h1,h2⟩⟩
    ·exact ⟨false,rfl,.inr ⟨rfl,h1⟩⟩)
   clear hR
   gi_region_with_o (refine ⟨fun h=>by simp [Fence.wide] at h,?_⟩;refine hR2.mono ?_;rintro e W3 ⟨b,rfl,h3⟩)
   all_goals (try simp only [Act.put,List.getElem_toArray,List.getElem_cons_succ,List.getElem_cons_zero,List.setIfInBounds_toArray,List.set_cons_succ,List.set_cons_zero])
   all_goals clear hR2 hy hY t1 t2 t3
   all_goals rcases h3 with ⟨rfl,h4,h5⟩|⟨rfl,h4⟩
   all_goals first
    | (have h6:KB B W _:=KB.trans (Y:=wr.drew) hnx h5
       gi_wp2
       go_roundw
       case rel=>exact ⟨k+1,by omega,by go_num,h4,h6⟩
       case measure=>simp [intOf];omega)
    | (gi_wp2
       refine bodyPost_ret (results_none rfl _ _ _) rfl ?_
       exact ⟨⟨_,rfl⟩,.inr ⟨_,trivial,h4⟩⟩)
  ·obtain rfl:k=N:=by omega
   gi_wp2
   go_end0
   exact ⟨⟨_,rfl⟩,.inl ⟨_,rfl,by rw [hN];exact hJs⟩⟩
theorem cells_stops (n:Nat) (h0n:0<n) (hn':n≤64) (m B:Nat) (w:World) (hw0:B<w.heap.size) (hw:w.cell? ⟨B,0,none⟩=some (.int .i64 n)) :
  SeqStopsK Fence.wide m Tryz.prog 219 #[.pointer (some ⟨B,0,none⟩)] (fun x:Fin n×Fin n=>#[.int .i64 (x.1:Nat),.int .i64 (x.2:Nat)]) (KB B)
   (fun xs=>xs=cellsTo n h0n (n*n)) (fun _=>True) (n*n) w:=fun l J Jx W hW hJ _ hY h0=>
 cells_in n h0n hn' m l B J Jx (fun s W hs=>hJ s W _ none hs ⟨rfl,rfl,rfl,Nat.le_refl _,fun _ _ _=>rfl⟩ (fun r e=>by cases e)) hY W ((Below.cell (p:=⟨B,0,none⟩) hW hw0).trans hw) h0
end
section
open Go.RowKit Go.Shelf
theorem lt_of_block {W:World} {B:Nat} {o:Obj} (h:W.heap[B]?=some o):B<W.heap.size:=(Array.getElem?_eq_some_iff.1 h).1
theorem cells_not_row {W:World} {B:Nat} {t e:TypeId} {cs:Array Value} {fz:Nat×Nat} (h:W.heap[B]?=some (.cells cs t fz)) (hte:t≠e) {base size k:Nat} {v:Value} {xs:List Value} (hr:W.ownsRow base e size v k xs):some B≠v.ownBlock:=by
 rcases hr.2 with ⟨rfl,_⟩|⟨g,cap,cur,rfl,hb,hg,_⟩
 ·simp [Value.ownBlock]
 ·simp only [Value.ownBlock,ne_eq,Option.some.injEq]
  intro e';subst e';rw [hg] at h;simp only [Option.some.injEq,Obj.cells.injEq] at h;exact hte h.2.1.symm
theorem kept_cells {A B:World} {row:Option Nat} (hg:A.grownBy B row) (hr:∀r,row=some r→∃o:Obj,A.heap[r]?=some o∧o.isCells=false) {b:Nat} {cs:Array Value} {t:TypeId} {fz:Nat×Nat} (h:A.heap[b]?=some (.cells cs t fz)):B.heap[b]?=some (.cells cs t fz):=
 (hg.block b (lt_of_block h) (fun e=>by obtain ⟨o,ho,hc⟩:=hr b e.symm;rw [h] at ho;cases ho;cases hc)).trans h
theorem Ext.others {A B:World} (h:Ext A B):KeepsOthers A B:=⟨h.size,fun _ _ hk _=>(h.block (lt_of_block hk)).trans hk⟩
structure RB {α : Type} (cs : α→List Value) (e:TypeId) (sz:Nat) (bt:TypeId) (bx:Value→List Value) (w:World) (Bt:Nat) (F:List (Nat×TypeId×List Value)) (W:World) (xs:List α):Prop where
 ext:Ext w W
 fx:∀p∈F,Blk W p.1 p.2.1 p.2.2
 tl:w.heap.size≤Bt
 tb:∃v,Blk W Bt bt (bx v)∧OwnG cs w.heap.size e sz W v xs
section
variable {α : Type} {cs : α → List Value} {e : TypeId} {sz : Nat} {bt : TypeId} {bx : Value → List Value} {w : World} {Bt : Nat} {F : List (Nat × TypeId × List Value)} {W : World} {xs : List α}
theorem RB.to (h:RB cs e sz bt bx w Bt F W xs) {W':World} (x:Ext W W'):RB cs e sz bt bx w Bt F W' xs:=by
 obtain ⟨v,h1,h2⟩:=h.tb;exact ⟨h.ext.trans x,fun p hp=>(h.fx p hp).ext x,h.tl,v,h1.ext x,h2.ext x⟩
theorem kept_blk {A B:World} {row:Option Nat} (hg:A.grownBy B row) (hr:∀r,row=some r→∃o:Obj,A.heap[r]?=some o∧o.isCells=false) {b:Nat} {t:TypeId} {cs:List Value} (h:Blk A b t cs):Blk B b t cs:=kept_cells hg hr h
theorem OwnG.owns {lo:Nat} {A B:World} {v:Value} (h:OwnG cs lo e sz A v xs) {row:Option Nat} (hg:A.grownBy B row) (hr:∀r,row=some r→∃o:Obj,A.heap[r]?=some o∧o.isCells=false):OwnG cs lo e sz B v xs:=by
 obtain ⟨h1,h2⟩:=h;refine ⟨h1,?_⟩
 rcases h2 with hn|⟨g,cap,cur,hv,hb,hgg,r⟩
 ·exact .inl hn
 ·exact .inr ⟨g,cap,cur,hv,hb,kept_cells hg hr hgg,r⟩
theorem RB.owns {B0:Nat} (hB:w.heap.size≤B0) {β : Type} (f : β→List α):OwnFrom B0 (fun (b : β) W=>RB cs e sz bt bx w Bt F W (f b)):=fun b A B row h hg hr=>by
 have hr':∀r,row=some r→∃o:Obj,A.heap[r]?=some o∧o.isCells=false:=fun r e=>(hr r e).2;obtain ⟨v,h1,h2⟩:=h.tb;exact ⟨h.ext.grown hg (fun k e=>Nat.le_trans hB (hr k e).1),fun p hp=>kept_blk hg hr' (h.fx p hp),h.tl,v,kept_blk hg hr' h1,h2.owns hg hr'⟩
theorem blk_not_row {A:World} {b:Nat} {t:TypeId} {us:List Value} (h:Blk A b t us) (hte:t≠e) {lo:Nat} {v:Value} (hr:OwnG cs lo e sz A v xs):some b≠v.ownBlock:=cells_not_row h hte hr
theorem OwnG.setBlk {lo:Nat} {A:World} {b:Nat} {t:TypeId} {us:List Value} {v:Value} (h:OwnG cs lo e sz A v xs) (hb:Blk A b t us) (hte:t≠e) (q:Nat) (u:Value):OwnG cs lo e sz (A.setCell ⟨b,q,none⟩ u) v xs:=
 ownsRow_setCell_other h (fun e'=>blk_not_row hb hte h e'.symm) u
theorem RB.push {W5 W6 W7:World} {v v':Value} {xs':List α} (h:RB cs e sz bt bx w Bt F W5 xs) (hF:∀p∈F,p.2.1≠e∧p.1≠Bt) (hbt:bt≠e) (q:Nat) (hq:(bx v).set q v'=bx v')
  (hv:Blk W5 Bt bt (bx v)) (ho:OwnG cs w.heap.size e sz W5 v xs) (x6:Ext W5 W6) (hg:W6.grownBy W7 v.ownBlock) (hown:OwnG cs w.heap.size e sz W7 v' xs') :
  RB cs e sz bt bx w Bt F (W7.setCell ⟨Bt,q,none⟩ v') xs':=by
 have k:∀{b:Nat} {t:TypeId} {us:List Value},t≠e→Blk W5 b t us→Blk W7 b t us:=fun hte hb=>(hb.ext x6).grown hg (blk_not_row hb hte ho);have ht:=k hbt hv;have hE:Ext w W7:=(h.ext.trans x6).grown hg (fun k e=>(ho.lt k e).1);refine ⟨hE.setCell h.tl _,fun p hp=>(k (hF p hp).1 (h.fx p hp)).other (hF p hp).2 _,h.tl,v',?_,hown.setBlk ht hbt q v'⟩;rw [←hq];exact ht.set q v'
theorem own_blk {lo:Nat} {A A':World} {v:Value} (x:Ext A A') (ho:OwnG cs lo e sz A v xs):∀(j:Nat) (o':Obj),v.ownBlock=some j→A'.heap[j]?=some o'→o'.isCells=true:=by
 intro j o' hj h'
 rcases ho.2 with ⟨rfl,_⟩|⟨g,cap,cur,rfl,hb,hg,_⟩
 ·simp [Value.ownBlock] at hj
 ·simp only [Value.ownBlock,Option.some.injEq] at hj
  subst hj;rw [x.block (lt_of_block hg),hg] at h'
  cases h'
  rfl
end
end
theorem iIsValidCamera_any (c:Cam) (w:World):Calls Tryz.prog 53 #[c.V] w fun e w'=>e = .returned (.bool c.okB)∧Ext w w':=by
 obtain ⟨cw,ch,zo,ne,de,le,fo⟩:=c
 obtain ⟨b1,h1⟩:∃b,inB cw 1 12=b:=⟨_,rfl⟩
 obtain ⟨b2,h2⟩:∃b,inB ch 1 12=b:=⟨_,rfl⟩
 obtain ⟨b3,h3⟩:∃b,inB zo 1 65536=b:=⟨_,rfl⟩
 obtain ⟨b4,h4⟩:∃b,inB ne 1 1000000=b:=⟨_,rfl⟩
 obtain ⟨b5,h5⟩:∃b,inB le 0 64=b:=⟨_,rfl⟩
 obtain ⟨b6,h6⟩:∃b,inB fo 0 1000000=b:=⟨_,rfl⟩
 have e:(Cam.mk cw ch zo ne de le fo).okB=(b1&&b2&&b3&&b4&&b5&&b6):=by unfold Cam.okB;simp only [h1,h2,h3,h4,h5,h6]
 rw [e];have H1:=hid h1;have H2:=hid h2;have H3:=hid h3;have H4:=hid h4;have H5:=hid h5;have H6:=hid h6;clear h1 h2 h3 h4 h5 h6 e
 show Calls Tryz.prog 53 #[.agg #[.int .i64 cw,.int .i64 ch,.int .i64 zo,.int .i64 ne,.bool de,.int .i64 le,.int .i64 fo]] w _
 cases b1
 rotate_left
 cases b2
 rotate_left
 cases b3
 rotate_left
 cases b4
 rotate_left
 cases b5
 rotate_left
 cases b6
 all_goals
  go_enter Tryz.func53,Tryz.ntmps53;go_wp2_with (go_at_call 54;with_reducible first|(refine (within_val H1.out _).mono ?_;rintro e w1 ⟨rfl,rfl⟩)|(refine (within_val H2.out _).mono ?_;rintro e w1 ⟨rfl,rfl⟩)|(refine (within_val H3.out _).mono ?_;rintro e w1 ⟨rfl,rfl⟩)|(refine (within_val H4.out _).mono ?_;rintro e w1 ⟨rfl,rfl⟩)|(refine (within_val H5.out _).mono ?_;rintro e w1 ⟨rfl,rfl⟩)|(refine (within_val H6.out _).mono ?_;rintro e w1 ⟨rfl,rfl⟩));go_ret;exact ⟨rfl,X_⟩
theorem iIsValidCamera_val {c:Cam} {b:Bool} (h:c.okB=b) (w:World):Calls Tryz.prog 53 #[c.V] w fun e w'=>e = .returned (.bool b)∧Ext w w':=h▸iIsValidCamera_any c w
theorem Blk.alloc {w:World} {g:Nat} {t:TypeId} {cs:List Value} (h:Blk w g t cs) (o:Obj):Blk (w.alloc o) g t cs:=h.ext ((Ext.refl _).alloc o)
theorem I64.of {n m:Int} (h : -m≤n∧n≤m) (hm:m≤1152921504606846976):I64 n:=⟨by omega,by omega⟩
theorem timesFn_val {n k c:Int} {p:Nat} (h:wrap64 (k*n)=c) (w:World) (hp:w.cell? ⟨p,0,none⟩=some (.int .i64 k)):Calls Tryz.prog 265 #[.int .i64 n,.pointer (some ⟨p,0,none⟩)] w fun e w'=>e = .returned (.int .i64 c)∧w=w':=by
 go_enter Tryz.func265,Tryz.ntmps265;go_wp2;go_ret;exact ⟨ret_int h,rfl⟩
theorem eachTimes_val {x y z a b c k:Int} {p:Nat} (ha:wrap64 (k*x)=a) (hb:wrap64 (k*y)=b) (hc:wrap64 (k*z)=c) (w:World) (hp:w.cell? ⟨p,0,none⟩=some (.int .i64 k)) (hlt:p<w.heap.size) :
  Calls Tryz.prog 231 #[.agg #[.int .i64 x,.int .i64 y,.int .i64 z],.func (.func 265) #[] #[.pointer (some ⟨p,0,none⟩)]] w fun e w'=>e = .returned (.agg #[.int .i64 a,.int .i64 b,.int .i64 c])∧Ext w w':=by
 have HA:=hid ha;have HB:=hid hb;have HC:=hid hc;have HP:=hid hp;clear ha hb hc hp;go_enter Tryz.func231,Tryz.ntmps231;go_wp2;refine wp_region_stages [([0,1,2,4,5,6,8,9,10],3),([],7),([],11),([12],13)] 13 (w.heap.size+1+1) (by kernel_rfl) (by kernel_rfl) ?_;refine wpStages_cons ?_;simp only [List.filterMap_cons,List.filterMap_nil,List.getElem?_toArray,List.getElem?_cons_zero,List.getElem?_cons_succ]
 show wpQuiet _ _ _ _ [_,_,_,_,_,_,_,_,_] _
 repeat (go_big_quiet_step (fail))
 refine wpQuiet_nil ⟨_,rfl,fun K hK=>?_⟩;go_wp2_with fail;refine (timesFn_val HA.out _ ((Ext.cells (w:=w) X_).1 _ _ hlt |>.trans HP.out)).mono ?_;rintro e w1 ⟨rfl,rfl⟩;go_wp2_with fail;refine hK _ _ (.inr (fun b _ hb=>Ext.block X_ (by simp;omega))) ?_;clear hK K;refine wpStages_cons ?_;simp only [List.filterMap_nil]
 show wpQuiet _ _ _ _ [] _
 try simp only [Act.put,List.setIfInBounds_toArray,List.set_cons_succ,List.set_cons_zero]
 refine wpQuiet_nil ⟨_,rfl,fun K hK=>?_⟩;go_wp2_with fail;refine (timesFn_val HB.out _ ((Ext.cells (w:=w) X_).1 _ _ hlt |>.trans HP.out)).mono ?_;rintro e w1 ⟨rfl,rfl⟩;go_wp2_with fail;refine hK _ _ (.inr (fun b _ hb=>Ext.block X_ (by simp;omega))) ?_;clear hK K;refine wpStages_cons ?_;simp only [List.filterMap_nil]
 show wpQuiet _ _ _ _ [] _
 try simp only [Act.put,List.setIfInBounds_toArray,List.set_cons_succ,List.set_cons_zero]
 refine wpQuiet_nil ⟨_,rfl,fun K hK=>?_⟩;go_wp2_with fail;refine (timesFn_val HC.out _ ((Ext.cells (w:=w) X_).1 _ _ hlt |>.trans HP.out)).mono ?_;rintro e w1 ⟨rfl,rfl⟩;go_wp2_with fail;refine hK _ _ (.inr (fun b _ hb=>Ext.block X_ (by simp;omega))) ?_;clear hK K;refine wpStages_cons ?_;simp only [List.filterMap_cons,List.filterMap_nil,List.getElem?_toArray,List.getElem?_cons_zero,List.getElem?_cons_succ]
 show wpQuiet _ _ _ _ [_] _
 try simp only [Act.put,List.setIfInBounds_toArray,List.set_cons_succ,List.set_cons_zero]
 repeat (go_big_quiet_step (fail))
 refine wpQuiet_nil ⟨_,rfl,fun K hK=>?_⟩;go_wp2_with fail;refine hK _ _ (.inl (by trivial)) (wpStages_nil ?_);clear hK K;go_wp2;exact bodyPost_ret (v:=.agg #[.int .i64 a,.int .i64 b,.int .i64 c]) (by simp [results,Tryz.results231,go_sem, *]) rfl ⟨rfl,S_⟩
theorem times_val {x y z a b c k:Int} (ha:wrap64 (k*x)=a) (hb:wrap64 (k*y)=b) (hc:wrap64 (k*z)=c) (w:World) :
  Calls Tryz.prog 221 #[.agg #[.int .i64 x,.int .i64 y,.int .i64 z],.int .i64 k] w fun e w'=>e = .returned (.agg #[.int .i64 a,.int .i64 b,.int .i64 c])∧Ext w w':=by
 have HA:=hid ha;have HB:=hid hb;have HC:=hid hc;clear ha hb hc;have hmf:∀(fn:Fn) (first cap:Array Value) (w:World),(Instr.makeFunc fn first cap).run Tryz.prog w = .ok (.func fn first cap) w:=fun _ _ _ _=>rfl;go_enter Tryz.func221,Tryz.ntmps221;go_wp2_with fail;refine (eachTimes_val HA.out HB.out HC.out _ (by simp [go_sem]) (by simp)).mono ?_;rintro e w1 ⟨rfl,h1⟩;obtain ⟨c1,f1⟩:=h1.cells;have z1:=h1.size;simp only [World.size_alloc] at z1
 have q2:w.heap.size+1+1<w1.heap.size:=by omega
 have E1:Ext w w1:=Ext.trans X_ h1;go_wp2;exact bodyPost_ret (v:=.agg #[.int .i64 a,.int .i64 b,.int .i64 c]) (by simp [results,Tryz.results221,go_sem, *]) rfl ⟨rfl,S_⟩
theorem wt_bd {n i j:Int} (hn:1≤n∧n≤64) (hi:0≤i∧i≤n) (hj:0≤j∧j≤n):0≤i*j∧i*j≤4096:=by
 have h1:=Int.mul_nonneg hi.1 hj.1;have h2:=Int.mul_le_mul (show i≤64 by omega) (show j≤64 by omega) hj.1 (by omega);omega
theorem wprod {g x:Int} (hg:0≤g∧g≤4096) (hx : -1000000≤x∧x≤1000000):(-4096000000≤g*x∧g*x≤4096000000):=mul_abs (A:=4096) (B:=1000000) (by omega) hx
theorem idxP (f:Nat→Int) (k:Nat) (hk:k<4) (w:World):(Instr.index 38 (.agg #[.int .i64 (f 0),.int .i64 (f 1),.int .i64 (f 2),.int .i64 (f 3),.int .i64 (f 4),.int .i64 (f 5),.int .i64 (f 6),.int .i64 (f 7),.int .i64 (f 8),.int .i64 (f 9),.int .i64 (f 10),.int .i64 (f 11)]) (.int .i64 (k:Nat))).run Tryz.prog w = .ok (.agg #[.int .i64 (f (3*k)),.int .i64 (f (3*k+1)),.int .i64 (f (3*k+2))]) w:=by
 rcases (show k=0∨k=1∨k=2∨k=3 by omega) with rfl|rfl|rfl|rfl <;> kernel_rfl
theorem evalPatch_any (f:Nat→Int) (i j n:Int) (hn:1≤n∧n≤64) (hi:0≤i∧i≤n) (hj:0≤j∧j≤n) (w:World) :
  Calls Tryz.prog 158 #[.agg #[.int .i64 (f 0),.int .i64 (f 1),.int .i64 (f 2),.int .i64 (f 3),.int .i64 (f 4),.int .i64 (f 5),.int .i64 (f 6),.int .i64 (f 7),.int .i64 (f 8),.int .i64 (f 9),.int .i64 (f 10),.int .i64 (f 11)],.int .i64 i,.int .i64 j,.int .i64 n] w fun e w'=>e = .returned ((evP f i j n).V)∧Ext w w':=by
 have b0:=wt_bd (n:=n) (i:=(n - i)) (j:=(n - j)) hn (by omega) (by omega)
 obtain ⟨g0,e0⟩:∃r,(n - i)*(n - j)=r:=⟨_,rfl⟩
 rw [e0] at b0;have b1:=wt_bd (n:=n) (i:=i) (j:=(n - j)) hn (by omega) (by omega)
 obtain ⟨g1,e1⟩:∃r,i*(n - j)=r:=⟨_,rfl⟩
 rw [e1] at b1;have b2:=wt_bd (n:=n) (i:=(n - i)) (j:=j) hn (by omega) (by omega)
 obtain ⟨g2,e2⟩:∃r,(n - i)*j=r:=⟨_,rfl⟩
 rw [e2] at b2;have b3:=wt_bd (n:=n) (i:=i) (j:=j) hn (by omega) (by omega)
 obtain ⟨g3,e3⟩:∃r,i*j=r:=⟨_,rfl⟩
 rw [e3] at b3;have bn:=wt_bd (n:=n) (i:=n) (j:=n) hn (by omega) (by omega)
 obtain ⟨nn,en⟩:∃r,n*n=r:=⟨_,rfl⟩
 rw [en] at bn
 obtain ⟨u00,hu00⟩:∃r,cl (f 0)=r:=⟨_,rfl⟩
 have v00:=cl_bd (f 0);rw [hu00] at v00;have t00:=wprod b0 v00
 obtain ⟨p00,m00⟩:∃r,g0*u00=r:=⟨_,rfl⟩
 rw [m00] at t00;have U00:=hid hu00;have M00:=hid (show wrap64 (g0*u00)=p00 by rw [m00];exact wrap_small (by omega) (by omega))
 obtain ⟨u10,hu10⟩:∃r,cl (f 3)=r:=⟨_,rfl⟩
 have v10:=cl_bd (f 3);rw [hu10] at v10;have t10:=wprod b1 v10
 obtain ⟨p10,m10⟩:∃r,g1*u10=r:=⟨_,rfl⟩
 rw [m10] at t10;have U10:=hid hu10;have M10:=hid (show wrap64 (g1*u10)=p10 by rw [m10];exact wrap_small (by omega) (by omega))
 obtain ⟨u20,hu20⟩:∃r,cl (f 6)=r:=⟨_,rfl⟩
 have v20:=cl_bd (f 6);rw [hu20] at v20;have t20:=wprod b2 v20
 obtain ⟨p20,m20⟩:∃r,g2*u20=r:=⟨_,rfl⟩
 rw [m20] at t20;have U20:=hid hu20;have M20:=hid (show wrap64 (g2*u20)=p20 by rw [m20];exact wrap_small (by omega) (by omega))
 obtain ⟨u30,hu30⟩:∃r,cl (f 9)=r:=⟨_,rfl⟩
 have v30:=cl_bd (f 9);rw [hu30] at v30;have t30:=wprod b3 v30
 obtain ⟨p30,m30⟩:∃r,g3*u30=r:=⟨_,rfl⟩
 rw [m30] at t30;have U30:=hid hu30;have M30:=hid (show wrap64 (g3*u30)=p30 by rw [m30];exact wrap_small (by omega) (by omega))
 have hv0:evC (f 0) (f 3) (f 6) (f 9) i j n=fdiv (p00+p10+p20+p30) nn:=by
  unfold evC;rw [hu00,hu10,hu20,hu30,e0,e1,e2,e3,en,Int.mul_comm u00,Int.mul_comm u10,Int.mul_comm u20,Int.mul_comm u30,m00,m10,m20,m30]
 have A00:=hid (show wrap64 (0+p00)=p00 from by rw [Int.zero_add];exact wrap_small (by omega) (by omega));have A10:=hid (show wrap64 (p00+p10)=p00+p10 from by exact wrap_small (by omega) (by omega));have A20:=hid (show wrap64 (p00+p10+p20)=p00+p10+p20 from by exact wrap_small (by omega) (by omega));have A30:=hid (show wrap64 (p00+p10+p20+p30)=p00+p10+p20+p30 from by exact wrap_small (by omega) (by omega));have I0:=hid (I64.of (n:=p00+p10+p20+p30) (m:=20000000000) (by omega) (by decide));clear hu00 m00 t00 v00 hu10 m10 t10 v10 hu20 m20 t20 v20 hu30 m30 t30 v30
 obtain ⟨u01,hu01⟩:∃r,cl (f 1)=r:=⟨_,rfl⟩
 have v01:=cl_bd (f 1);rw [hu01] at v01;have t01:=wprod b0 v01
 obtain ⟨p01,m01⟩:∃r,g0*u01=r:=⟨_,rfl⟩
 rw [m01] at t01;have U01:=hid hu01;have M01:=hid (show wrap64 (g0*u01)=p01 by rw [m01];exact wrap_small (by omega) (by omega))
 obtain ⟨u11,hu11⟩:∃r,cl (f 4)=r:=⟨_,rfl⟩
 have v11:=cl_bd (f 4);rw [hu11] at v11;have t11:=wprod b1 v11
 obtain ⟨p11,m11⟩:∃r,g1*u11=r:=⟨_,rfl⟩
 rw [m11] at t11;have U11:=hid hu11;have M11:=hid (show wrap64 (g1*u11)=p11 by rw [m11];exact wrap_small (by omega) (by omega))
 obtain ⟨u21,hu21⟩:∃r,cl (f 7)=r:=⟨_,rfl⟩
 have v21:=cl_bd (f 7);rw [hu21] at v21;have t21:=wprod b2 v21
 obtain ⟨p21,m21⟩:∃r,g2*u21=r:=⟨_,rfl⟩
 rw [m21] at t21;have U21:=hid hu21;have M21:=hid (show wrap64 (g2*u21)=p21 by rw [m21];exact wrap_small (by omega) (by omega))
 obtain ⟨u31,hu31⟩:∃r,cl (f 10)=r:=⟨_,rfl⟩
 have v31:=cl_bd (f 10);rw [hu31] at v31;have t31:=wprod b3 v31
 obtain ⟨p31,m31⟩:∃r,g3*u31=r:=⟨_,rfl⟩
 rw [m31] at t31;have U31:=hid hu31;have M31:=hid (show wrap64 (g3*u31)=p31 by rw [m31];exact wrap_small (by omega) (by omega))
 have hv1:evC (f 1) (f 4) (f 7) (f 10) i j n=fdiv (p01+p11+p21+p31) nn:=by
  unfold evC;rw [hu01,hu11,hu21,hu31,e0,e1,e2,e3,en,Int.mul_comm u01,Int.mul_comm u11,Int.mul_comm u21,Int.mul_comm u31,m01,m11,m21,m31]
 have A01:=hid (show wrap64 (0+p01)=p01 from by rw [Int.zero_add];exact wrap_small (by omega) (by omega));have A11:=hid (show wrap64 (p01+p11)=p01+p11 from by exact wrap_small (by omega) (by omega));have A21:=hid (show wrap64 (p01+p11+p21)=p01+p11+p21 from by exact wrap_small (by omega) (by omega));have A31:=hid (show wrap64 (p01+p11+p21+p31)=p01+p11+p21+p31 from by exact wrap_small (by omega) (by omega));have I1:=hid (I64.of (n:=p01+p11+p21+p31) (m:=20000000000) (by omega) (by decide));clear hu01 m01 t01 v01 hu11 m11 t11 v11 hu21 m21 t21 v21 hu31 m31 t31 v31
 obtain ⟨u02,hu02⟩:∃r,cl (f 2)=r:=⟨_,rfl⟩
 have v02:=cl_bd (f 2);rw [hu02] at v02;have t02:=wprod b0 v02
 obtain ⟨p02,m02⟩:∃r,g0*u02=r:=⟨_,rfl⟩
 rw [m02] at t02;have U02:=hid hu02;have M02:=hid (show wrap64 (g0*u02)=p02 by rw [m02];exact wrap_small (by omega) (by omega))
 obtain ⟨u12,hu12⟩:∃r,cl (f 5)=r:=⟨_,rfl⟩
 have v12:=cl_bd (f 5);rw [hu12] at v12;have t12:=wprod b1 v12
 obtain ⟨p12,m12⟩:∃r,g1*u12=r:=⟨_,rfl⟩
 rw [m12] at t12;have U12:=hid hu12;have M12:=hid (show wrap64 (g1*u12)=p12 by rw [m12];exact wrap_small (by omega) (by omega))
 obtain ⟨u22,hu22⟩:∃r,cl (f 8)=r:=⟨_,rfl⟩
 have v22:=cl_bd (f 8);rw [hu22] at v22;have t22:=wprod b2 v22
 obtain ⟨p22,m22⟩:∃r,g2*u22=r:=⟨_,rfl⟩
 rw [m22] at t22;have U22:=hid hu22;have M22:=hid (show wrap64 (g2*u22)=p22 by rw [m22];exact wrap_small (by omega) (by omega))
 obtain ⟨u32,hu32⟩:∃r,cl (f 11)=r:=⟨_,rfl⟩
 have v32:=cl_bd (f 11);rw [hu32] at v32;have t32:=wprod b3 v32
 obtain ⟨p32,m32⟩:∃r,g3*u32=r:=⟨_,rfl⟩
 rw [m32] at t32;have U32:=hid hu32;have M32:=hid (show wrap64 (g3*u32)=p32 by rw [m32];exact wrap_small (by omega) (by omega))
 have hv2:evC (f 2) (f 5) (f 8) (f 11) i j n=fdiv (p02+p12+p22+p32) nn:=by
  unfold evC;rw [hu02,hu12,hu22,hu32,e0,e1,e2,e3,en,Int.mul_comm u02,Int.mul_comm u12,Int.mul_comm u22,Int.mul_comm u32,m02,m12,m22,m32]
 have A02:=hid (show wrap64 (0+p02)=p02 from by rw [Int.zero_add];exact wrap_small (by omega) (by omega));have A12:=hid (show wrap64 (p02+p12)=p02+p12 from by exact wrap_small (by omega) (by omega));have A22:=hid (show wrap64 (p02+p12+p22)=p02+p12+p22 from by exact wrap_small (by omega) (by omega));have A32:=hid (show wrap64 (p02+p12+p22+p32)=p02+p12+p22+p32 from by exact wrap_small (by omega) (by omega));have I2:=hid (I64.of (n:=p02+p12+p22+p32) (m:=20000000000) (by omega) (by decide));clear hu02 m02 t02 v02 hu12 m12 t12 v12 hu22 m22 t22 v22 hu32 m32 t32 v32
 have hV:(evP f i j n).V = .agg #[.int .i64 (fdiv (p00+p10+p20+p30) nn),.int .i64 (fdiv (p01+p11+p21+p31) nn),.int .i64 (fdiv (p02+p12+p22+p32) nn)]:=by
  unfold evP V3.V;simp only [hv0,hv1,hv2]
 rw [hV];clear hV hv0 hv1 hv2;have G0:=hid b0;have G1:=hid b1;have G2:=hid b2;have G3:=hid b3;have j0:=idxP f 0 (by decide);have j1:=idxP f 1 (by decide);have j2:=idxP f 2 (by decide);have j3:=idxP f 3 (by decide);simp only [Nat.mul_zero,Nat.zero_add,Nat.mul_one,Nat.reduceAdd,Nat.reduceMul,Int.ofNat_eq_natCast,Int.cast_ofNat_Int] at j0 j1 j2 j3;have z0:Ext w w:=Ext.refl w;go_enter Tryz.func158,Tryz.ntmps158;go_wp2_with fail;have q1:=Blk.new (w.alloc (.cells #[.int .i64 (f 0),.int .i64 (f 1),.int .i64 (f 2),.int .i64 (f 3),.int .i64 (f 4),.int .i64 (f 5),.int .i64 (f 6),.int .i64 (f 7),.int .i64 (f 8),.int .i64 (f 9),.int .i64 (f 10),.int .i64 (f 11)] 40)) 37 [.int .i64 0,.int .i64 0,.int .i64 0];have q2:=Blk.new ((w.alloc (.cells #[.int .i64 (f 0),.int .i64 (f 1),.int .i64 (f 2),.int .i64 (f 3),.int .i64 (f 4),.int .i64 (f 5),.int .i64 (f 6),.int .i64 (f 7),.int .i64 (f 8),.int .i64 (f 9),.int .i64 (f 10),.int .i64 (f 11)] 40)).alloc (.cells #[.int .i64 0,.int .i64 0,.int .i64 0] 37)) 299 [.int .i64 g0,.int .i64 g1,.int .i64 g2,.int .i64 g3];have q3:=Blk.new (((w.alloc (.cells #[.int .i64 (f 0),.int .i64 (f 1),.int .i64 (f 2),.int .i64 (f 3),.int .i64 (f 4),.int .i64 (f 5),.int .i64 (f 6),.int .i64 (f 7),.int .i64 (f 8),.int .i64 (f 9),.int .i64 (f 10),.int .i64 (f 11)] 40)).alloc (.cells #[.int .i64 0,.int .i64 0,.int .i64 0] 37)).alloc (.cells #[.int .i64 g0,.int .i64 g1,.int .i64 g2,.int .i64 g3] 299)) 37 [.int .i64 0,.int .i64 0,.int .i64 0];simp only [World.size_alloc] at q1 q2 q3;have Q1:=hid ((q1.alloc (.cells #[.int .i64 g0,.int .i64 g1,.int .i64 g2,.int .i64 g3] 299)).alloc (.cells #[.int .i64 0,.int .i64 0,.int .i64 0] 37));have Q2:=hid (q2.alloc (.cells #[.int .i64 0,.int .i64 0,.int .i64 0] 37));have Q3:=hid q3;have X0:=hid (show Ext w ((((w.alloc (.cells #[.int .i64 (f 0),.int .i64 (f 1),.int .i64 (f 2),.int .i64 (f 3),.int .i64 (f 4),.int .i64 (f 5),.int .i64 (f 6),.int .i64 (f 7),.int .i64 (f 8),.int .i64 (f 9),.int .i64 (f 10),.int .i64 (f 11)] 40)).alloc (.cells #[.int .i64 0,.int .i64 0,.int .i64 0] 37)).alloc (.cells #[.int .i64 g0,.int .i64 g1,.int .i64 g2,.int .i64 g3] 299)).alloc (.cells #[.int .i64 0,.int .i64 0,.int .i64 0] 37)) from X_);clear q1 q2 q3 z0
 obtain ⟨W0,hW0⟩:∃W0,((((w.alloc (.cells #[.int .i64 (f 0),.int .i64 (f 1),.int .i64 (f 2),.int .i64 (f 3),.int .i64 (f 4),.int .i64 (f 5),.int .i64 (f 6),.int .i64 (f 7),.int .i64 (f 8),.int .i64 (f 9),.int .i64 (f 10),.int .i64 (f 11)] 40)).alloc (.cells #[.int .i64 0,.int .i64 0,.int .i64 0] 37)).alloc (.cells #[.int .i64 g0,.int .i64 g1,.int .i64 g2,.int .i64 g3] 299)).alloc (.cells #[.int .i64 0,.int .i64 0,.int .i64 0] 37))=W0:=⟨_,rfl⟩
 rw [hW0] at Q1 Q2 Q3 X0 ⊢;clear hW0 e0 e1 e2 e3
 go_loopw [37] (fun i wr=>∃k:Nat,k≤4∧i = .int .i64 (k:Nat)∧Ext w wr∧Blk wr (w.heap.size+1) 37 [.int .i64 0,.int .i64 0,.int .i64 0]∧Blk wr (w.heap.size+2) 299 [.int .i64 g0,.int .i64 g1,.int .i64 g2,.int .i64 g3]∧(k=0→Blk wr (w.heap.size+3) 37 [.int .i64 0,.int .i64 0,.int .i64 0])∧(k=1→Blk wr (w.heap.size+3) 37 [.int .i64 (p00),.int .i64 (p01),.int .i64 (p02)])∧(k=2→Blk wr (w.heap.size+3) 37 [.int .i64 (p00+p10),.int .i64 (p01+p11),.int .i64 (p02+p12)])∧(k=3→Blk wr (w.heap.size+3) 37 [.int .i64 (p00+p10+p20),.int .i64 (p01+p11+p21),.int .i64 (p02+p12+p22)])∧(k=4→Blk wr (w.heap.size+3) 37 [.int .i64 (p00+p10+p20+p30),.int .i64 (p01+p11+p21+p31),.int .i64 (p02+p12+p22+p32)])) (fun i _=>4 - (intOf i).toNat)
 case atStart=>exact ⟨0,by omega,rfl,X0.out,Q1.out,Q2.out,fun _=>Q3.out,fun h=>absurd h (by decide),fun h=>absurd h (by decide),fun h=>absurd h (by decide),fun h=>absurd h (by decide)⟩
 case round=>
  obtain ⟨k,hk,rfl,hx,h1,h2,s0,s1,s2,s3,s4⟩:=hrel;have HX:=hid hx;have H1:=hid h1;have H2:=hid h2;have zw:=hx.size;have zr:=h2.lt
  have zq:w.heap.size+1<wr.heap.size:=by omega
  have S0:=hid s0;have S1:=hid s1;have S2:=hid s2;have S3:=hid s3;have S4:=hid s4;clear hx h1 h2 s0 s1 s2 s3 s4
  rcases (show k=0∨k=1∨k=2∨k=3∨k=4 by omega) with rfl|rfl|rfl|rfl|rfl
  ·have HS:=hid (S0.out rfl)
   obtain ⟨a0,a1,a2⟩:=HS.out.q3;have zs:=HS.out.lt;have c0:=H2.out.cell 0 rfl;clear S0 S1 S2 S3 S4;go_wp2_with fail;refine wp_region_stages [([0,1,3,4,5],2),([],6),([],7),([],8)] 8 (wr.heap.size+1) (by kernel_rfl) (by kernel_rfl) ?_;refine st_ fun K hK=>?_;go_wp2_with fail;refine (clamped_val U00.out U01.out U02.out _).mono ?_;rintro e w3 ⟨rfl,x3⟩;have y3:Ext (wr.alloc (.cells #[.int .i64 (f 0),.int .i64 (f 1),.int .i64 (f 2)] 37)) w3:=Ext.trans (Ext.drew (Ext.refl _)) x3;go_wp2_with fail;refine hK _ _ (.inr (y3.same (by simp))) ?_;clear hK K;refine st_ fun K hK=>?_;go_wp2_with fail;refine (times_val M00.out M01.out M02.out _).mono ?_;rintro e w4 ⟨rfl,x4⟩;have y4:=y3.trans x4;go_wp2_with fail;refine hK _ _ (.inr (y4.same (by simp))) ?_;clear hK K;refine st_ fun K hK=>?_;go_wp2_with fail;refine (plus_val A00.out A01.out A02.out _).mono ?_;rintro e w5 ⟨rfl,x5⟩;have y5:=y4.trans x5;go_wp2_with fail;refine hK _ _ (.inr (y5.same (by simp))) ?_;clear hK K;have Y5:Ext wr w5:=Ext.trans (show Ext wr (wr.alloc (.cells #[.int .i64 (f 0),.int .i64 (f 1),.int .i64 (f 2)] 37)) from X_) y5;have D1:=H1.out.ext Y5;have D2:=H2.out.ext Y5;have D3:=HS.out.ext Y5;have f0:=D3.free 0;have f1:=D3.free 1;have f2:=D3.free 2;have z3:=D3.lt;obtain ⟨k0,k1,k2⟩:=D3.q3;have X5:=HX.out.trans Y5
   have n1:w.heap.size+1≠w.heap.size+3:=by omega
   have n2:w.heap.size+2≠w.heap.size+3:=by omega
   have G3:=hid (((D3.set 0 (.int .i64 (p00))).set 1 (.int .i64 (p01))).set 2 (.int .i64 (p02)));have G1':=hid (((D1.other (a:=⟨w.heap.size+3,0,none⟩) n1 (.int .i64 (p00))).other (a:=⟨w.heap.size+3,1,none⟩) n1 (.int .i64 (p01))).other (a:=⟨w.heap.size+3,2,none⟩) n1 (.int .i64 (p02)));have G2':=hid (((D2.other (a:=⟨w.heap.size+3,0,none⟩) n2 (.int .i64 (p00))).other (a:=⟨w.heap.size+3,1,none⟩) n2 (.int .i64 (p01))).other (a:=⟨w.heap.size+3,2,none⟩) n2 (.int .i64 (p02)));have GX:=hid (show Ext w (((w5.setCell ⟨w.heap.size+3,0,none⟩ (.int .i64 (p00))).setCell ⟨w.heap.size+3,1,none⟩ (.int .i64 (p01))).setCell ⟨w.heap.size+3,2,none⟩ (.int .i64 (p02))) from S_);clear D1 D2 D3 X5 Y5 y3 y4 y5 x3 x4 x5 a0 a1 a2 c0;refine st_ fun K hK=>?_;go_wp2_with fail;refine hK _ _ (.inl (by trivial)) ?_;clear hK K;refine wpStages_nil ?_;go_wp2;go_roundw
   case rel=>exact ⟨1,by omega,by go_num,GX.out,G1'.out,G2'.out,fun h=>absurd h (by decide),fun _=>G3.out,fun h=>absurd h (by decide),fun h=>absurd h (by decide),fun h=>absurd h (by decide)⟩
   case measure=>simp [intOf]
  ·have HS:=hid (S1.out rfl)
   obtain ⟨a0,a1,a2⟩:=HS.out.q3;have zs:=HS.out.lt;have c0:=H2.out.cell 1 rfl;clear S0 S1 S2 S3 S4;go_wp2_with fail;refine wp_region_stages [([0,1,3,4,5],2),([],6),([],7),([],8)] 8 (wr.heap.size+1) (by kernel_rfl) (by kernel_rfl) ?_;refine st_ fun K hK=>?_;go_wp2_with fail;refine (clamped_val U10.out U11.out U12.out _).mono ?_;rintro e w3 ⟨rfl,x3⟩;have y3:Ext (wr.alloc (.cells #[.int .i64 (f 3),.int .i64 (f 4),.int .i64 (f 5)] 37)) w3:=Ext.trans (Ext.drew (Ext.refl _)) x3;go_wp2_with fail;refine hK _ _ (.inr (y3.same (by simp))) ?_;clear hK K;refine st_ fun K hK=>?_;go_wp2_with fail;refine (times_val M10.out M11.out M12.out _).mono ?_;rintro e w4 ⟨rfl,x4⟩;have y4:=y3.trans x4;go_wp2_with fail;refine hK _ _ (.inr (y4.same (by simp))) ?_;clear hK K;refine st_ fun K hK=>?_;go_wp2_with fail;refine (plus_val A10.out A11.out A12.out _).mono ?_;rintro e w5 ⟨rfl,x5⟩;have y5:=y4.trans x5;go_wp2_with fail;refine hK _ _ (.inr (y5.same (by simp))) ?_;clear hK K;have Y5:Ext wr w5:=Ext.trans (show Ext wr (wr.alloc (.cells #[.int .i64 (f 3),.int .i64 (f 4),.int .i64 (f 5)] 37)) from X_) y5;have D1:=H1.out.ext Y5;have D2:=H2.out.ext Y5;have D3:=HS.out.ext Y5;have f0:=D3.free 0;have f1:=D3.free 1;have f2:=D3.free 2;have z3:=D3.lt;obtain ⟨k0,k1,k2⟩:=D3.q3;have X5:=HX.out.trans Y5
   have n1:w.heap.size+1≠w.heap.size+3:=by omega
   have n2:w.heap.size+2≠w.heap.size+3:=by omega
   have G3:=hid (((D3.set 0 (.int .i64 (p00+p10))).set 1 (.int .i64 (p01+p11))).set 2 (.int .i64 (p02+p12)));have G1':=hid (((D1.other (a:=⟨w.heap.size+3,0,none⟩) n1 (.int .i64 (p00+p10))).other (a:=⟨w.heap.size+3,1,none⟩) n1 (.int .i64 (p01+p11))).other (a:=⟨w.heap.size+3,2,none⟩) n1 (.int .i64 (p02+p12)));have G2':=hid (((D2.other (a:=⟨w.heap.size+3,0,none⟩) n2 (.int .i64 (p00+p10))).other (a:=⟨w.heap.size+3,1,none⟩) n2 (.int .i64 (p01+p11))).other (a:=⟨w.heap.size+3,2,none⟩) n2 (.int .i64 (p02+p12)));have GX:=hid (show Ext w (((w5.setCell ⟨w.heap.size+3,0,none⟩ (.int .i64 (p00+p10))).setCell ⟨w.heap.size+3,1,none⟩ (.int .i64 (p01+p11))).setCell ⟨w.heap.size+3,2,none⟩ (.int .i64 (p02+p12))) from S_);clear D1 D2 D3 X5 Y5 y3 y4 y5 x3 x4 x5 a0 a1 a2 c0;refine st_ fun K hK=>?_;go_wp2_with fail;refine hK _ _ (.inl (by trivial)) ?_;clear hK K;refine wpStages_nil ?_;go_wp2;go_roundw
   case rel=>exact ⟨2,by omega,by go_num,GX.out,G1'.out,G2'.out,fun h=>absurd h (by decide),fun h=>absurd h (by decide),fun _=>G3.out,fun h=>absurd h (by decide),fun h=>absurd h (by decide)⟩
   case measure=>simp [intOf]
  ·have HS:=hid (S2.out rfl)
   obtain ⟨a0,a1,a2⟩:=HS.out.q3;have zs:=HS.out.lt;have c0:=H2.out.cell 2 rfl;clear S0 S1 S2 S3 S4;go_wp2_with fail;refine wp_region_stages [([0,1,3,4,5],2),([],6),([],7),([],8)] 8 (wr.heap.size+1) (by kernel_rfl) (by kernel_rfl) ?_;refine st_ fun K hK=>?_;go_wp2_with fail;refine (clamped_val U20.out U21.out U22.out _).mono ?_;rintro e w3 ⟨rfl,x3⟩;have y3:Ext (wr.alloc (.cells #[.int .i64 (f 6),.int .i64 (f 7),.int .i64 (f 8)] 37)) w3:=Ext.trans (Ext.drew (Ext.refl _)) x3;go_wp2_with fail;refine hK _ _ (.inr (y3.same (by simp))) ?_;clear hK K;refine st_ fun K hK=>?_;go_wp2_with fail;refine (times_val M20.out M21.out M22.out _).mono ?_;rintro e w4 ⟨rfl,x4⟩;have y4:=y3.trans x4;go_wp2_with fail;refine hK _ _ (.inr (y4.same (by simp))) ?_;clear hK K;refine st_ fun K hK=>?_;go_wp2_with fail;refine (plus_val A20.out A21.out A22.out _).mono ?_;rintro e w5 ⟨rfl,x5⟩;have y5:=y4.trans x5;go_wp2_with fail;refine hK _ _ (.inr (y5.same (by simp))) ?_;clear hK K;have Y5:Ext wr w5:=Ext.trans (show Ext wr (wr.alloc (.cells #[.int .i64 (f 6),.int .i64 (f 7),.int .i64 (f 8)] 37)) from X_) y5;have D1:=H1.out.ext Y5;have D2:=H2.out.ext Y5;have D3:=HS.out.ext Y5;have f0:=D3.free 0;have f1:=D3.free 1;have f2:=D3.free 2;have z3:=D3.lt;obtain ⟨k0,k1,k2⟩:=D3.q3;have X5:=HX.out.trans Y5
   have n1:w.heap.size+1≠w.heap.size+3:=by omega
   have n2:w.heap.size+2≠w.heap.size+3:=by omega
   have G3:=hid (((D3.set 0 (.int .i64 (p00+p10+p20))).set 1 (.int .i64 (p01+p11+p21))).set 2 (.int .i64 (p02+p12+p22)));have G1':=hid (((D1.other (a:=⟨w.heap.size+3,0,none⟩) n1 (.int .i64 (p00+p10+p20))).other (a:=⟨w.heap.size+3,1,none⟩) n1 (.int .i64 (p01+p11+p21))).other (a:=⟨w.heap.size+3,2,none⟩) n1 (.int .i64 (p02+p12+p22)));have G2':=hid (((D2.other (a:=⟨w.heap.size+3,0,none⟩) n2 (.int .i64 (p00+p10+p20))).other (a:=⟨w.heap.size+3,1,none⟩) n2 (.int .i64 (p01+p11+p21))).other (a:=⟨w.heap.size+3,2,none⟩) n2 (.int .i64 (p02+p12+p22)));have GX:=hid (show Ext w (((w5.setCell ⟨w.heap.size+3,0,none⟩ (.int .i64 (p00+p10+p20))).setCell ⟨w.heap.size+3,1,none⟩ (.int .i64 (p01+p11+p21))).setCell ⟨w.heap.size+3,2,none⟩ (.int .i64 (p02+p12+p22))) from S_);clear D1 D2 D3 X5 Y5 y3 y4 y5 x3 x4 x5 a0 a1 a2 c0;refine st_ fun K hK=>?_;go_wp2_with fail;refine hK _ _ (.inl (by trivial)) ?_;clear hK K;refine wpStages_nil ?_;go_wp2;go_roundw
   case rel=>exact ⟨3,by omega,by go_num,GX.out,G1'.out,G2'.out,fun h=>absurd h (by decide),fun h=>absurd h (by decide),fun h=>absurd h (by decide),fun _=>G3.out,fun h=>absurd h (by decide)⟩
   case measure=>simp [intOf]
  ·have HS:=hid (S3.out rfl)
   obtain ⟨a0,a1,a2⟩:=HS.out.q3;have zs:=HS.out.lt;have c0:=H2.out.cell 3 rfl;clear S0 S1 S2 S3 S4;go_wp2_with fail;refine wp_region_stages [([0,1,3,4,5],2),([],6),([],7),([],8)] 8 (wr.heap.size+1) (by kernel_rfl) (by kernel_rfl) ?_;refine st_ fun K hK=>?_;go_wp2_with fail;refine (clamped_val U30.out U31.out U32.out _).mono ?_;rintro e w3 ⟨rfl,x3⟩;have y3:Ext (wr.alloc (.cells #[.int .i64 (f 9),.int .i64 (f 10),.int .i64 (f 11)] 37)) w3:=Ext.trans (Ext.drew (Ext.refl _)) x3;go_wp2_with fail;refine hK _ _ (.inr (y3.same (by simp))) ?_;clear hK K;refine st_ fun K hK=>?_;go_wp2_with fail;refine (times_val M30.out M31.out M32.out _).mono ?_;rintro e w4 ⟨rfl,x4⟩;have y4:=y3.trans x4;go_wp2_with fail;refine hK _ _ (.inr (y4.same (by simp))) ?_;clear hK K;refine st_ fun K hK=>?_;go_wp2_with fail;refine (plus_val A30.out A31.out A32.out _).mono ?_;rintro e w5 ⟨rfl,x5⟩;have y5:=y4.trans x5;go_wp2_with fail;refine hK _ _ (.inr (y5.same (by simp))) ?_;clear hK K;have Y5:Ext wr w5:=Ext.trans (show Ext wr (wr.alloc (.cells #[.int .i64 (f 9),.int .i64 (f 10),.int .i64 (f 11)] 37)) from X_) y5;have D1:=H1.out.ext Y5;have D2:=H2.out.ext Y5;have D3:=HS.out.ext Y5;have f0:=D3.free 0;have f1:=D3.free 1;have f2:=D3.free 2;have z3:=D3.lt;obtain ⟨k0,k1,k2⟩:=D3.q3;have X5:=HX.out.trans Y5
   have n1:w.heap.size+1≠w.heap.size+3:=by omega
   have n2:w.heap.size+2≠w.heap.size+3:=by omega
   have G3:=hid (((D3.set 0 (.int .i64 (p00+p10+p20+p30))).set 1 (.int .i64 (p01+p11+p21+p31))).set 2 (.int .i64 (p02+p12+p22+p32)));have G1':=hid (((D1.other (a:=⟨w.heap.size+3,0,none⟩) n1 (.int .i64 (p00+p10+p20+p30))).other (a:=⟨w.heap.size+3,1,none⟩) n1 (.int .i64 (p01+p11+p21+p31))).other (a:=⟨w.heap.size+3,2,none⟩) n1 (.int .i64 (p02+p12+p22+p32)));have G2':=hid (((D2.other (a:=⟨w.heap.size+3,0,none⟩) n2 (.int .i64 (p00+p10+p20+p30))).other (a:=⟨w.heap.size+3,1,none⟩) n2 (.int .i64 (p01+p11+p21+p31))).other (a:=⟨w.heap.size+3,2,none⟩) n2 (.int .i64 (p02+p12+p22+p32)));have GX:=hid (show Ext w (((w5.setCell ⟨w.heap.size+3,0,none⟩ (.int .i64 (p00+p10+p20+p30))).setCell ⟨w.heap.size+3,1,none⟩ (.int .i64 (p01+p11+p21+p31))).setCell ⟨w.heap.size+3,2,none⟩ (.int .i64 (p02+p12+p22+p32))) from S_);clear D1 D2 D3 X5 Y5 y3 y4 y5 x3 x4 x5 a0 a1 a2 c0;refine st_ fun K hK=>?_;go_wp2_with fail;refine hK _ _ (.inl (by trivial)) ?_;clear hK K;refine wpStages_nil ?_;go_wp2;go_roundw
   case rel=>exact ⟨4,by omega,by go_num,GX.out,G1'.out,G2'.out,fun h=>absurd h (by decide),fun h=>absurd h (by decide),fun h=>absurd h (by decide),fun h=>absurd h (by decide),fun _=>G3.out⟩
   case measure=>simp [intOf]
  ·have HS:=hid (S4.out rfl)
   obtain ⟨a0,a1,a2⟩:=HS.out.q3;have zs:=HS.out.lt;have EN:=hid en;clear S0 S1 S2 S3 S4;go_wp2_with fail;refine (over_val I0.out I1.out I2.out rfl rfl rfl _).mono ?_;rintro e w3 ⟨rfl,x3⟩;have D1:=H1.out.ext x3;have f0:=D1.free 0;have f1:=D1.free 1;have f2:=D1.free 2;have z3:=D1.lt;obtain ⟨k0,k1,k2⟩:=D1.q3;have X5:=HX.out.trans x3;go_wp2;exact bodyPost_ret (v:=.agg #[.int .i64 (fdiv (p00+p10+p20+p30) nn),.int .i64 (fdiv (p01+p11+p21+p31) nn),.int .i64 (fdiv (p02+p12+p22+p32) nn)]) (by simp [results,Tryz.results158,go_sem, *]) rfl ⟨rfl,S_⟩
@[go_sem] theorem store_fn {P:Program} {w:World} {a:Addr} {m:Mode} (fn:Fn) (first captured:Array Value):(store a (.func fn first captured) m).run P w=stored P w a (.func fn first captured) m:=run_store P w a _ m rfl
structure BSpec where
 op:Nat
 dst:Nat
 good:Value→World→Prop
section
variable {P : Program} {ops : Array Oper} {Q : Exit → Act → World → Prop} {S : World → Prop} {z fuel : Nat} {w0 : World} {a : Act} {l0 : Array Bool} {B : List BSpec}
end
section
variable {P : Program} {ops : Array Oper} {Q : Exit → Act → World → Prop} {S : World → Prop} {z fuel : Nat} {w0 : World} {a : Act} {l0 : Array Bool} {B : List BSpec}
end
section
open Go.RowKit Go.Shelf
attribute [local go_sem] Oper.semAt_some
theorem evalPatch_val {f:Nat→Int} {i j n X Y Z:Int} (h:evP f i j n=⟨X,Y,Z⟩) (hn:1≤n∧n≤64) (hi:0≤i∧i≤n) (hj:0≤j∧j≤n) (w:World) :
  Calls Tryz.prog 158 #[.agg #[.int .i64 (f 0),.int .i64 (f 1),.int .i64 (f 2),.int .i64 (f 3),.int .i64 (f 4),.int .i64 (f 5),.int .i64 (f 6),.int .i64 (f 7),.int .i64 (f 8),.int .i64 (f 9),.int .i64 (f 10),.int .i64 (f 11)],.int .i64 i,.int .i64 j,.int .i64 n] w fun e w'=>e = .returned (.agg #[.int .i64 X,.int .i64 Y,.int .i64 Z])∧Ext w w':=by
 have:=evalPatch_any f i j n hn hi hj w;rw [h] at this;exact this
theorem OwnG.fresh0 {α : Type} {cs : α→List Value} {lo g:Nat} {e:TypeId} {sz:Nat} {w:World} (hl:lo≤g) (h:Blk w g e []):OwnG cs lo e sz w (.slice (some ⟨g,0,none⟩) 0 0) []:=
 ⟨by simp,.inr ⟨g,0,#[],rfl,hl,h,Nat.le_refl _,by unfold maxLen;omega,by simp,by simp⟩⟩
def micL (a b d:V3) (u v n:Int):List Value:=[.int .i64 a.x,.int .i64 a.y,.int .i64 a.z,.int .i64 b.x,.int .i64 b.y,.int .i64 b.z,.int .i64 d.x,.int .i64 d.y,.int .i64 d.z,.int .i64 u,.int .i64 v,.int .i64 n]
def GB (W:World):Value→World→Prop:=fun v w=>∃b,v = .pointer (some ⟨b,0,none⟩)∧W.heap.size≤b∧Blk w b 37 [.int .i64 0,.int .i64 0,.int .i64 0]
theorem GB.ext {W:World} {v:Value} {w w':World} (h:GB W v w) (x:Ext w w'):GB W v w':=by
 obtain ⟨b,h1,h2,h3⟩:=h;exact ⟨b,h1,h2,h3.ext x⟩
theorem GB.fresh {W:World} {u:Value} {w1:World} (h:GB W u w1) (e:u = .pointer (some ⟨w1.heap.size,0,none⟩)):False:=by
 obtain ⟨b,rfl,h2,h3⟩:=h;simp only [Value.pointer.injEq,Option.some.injEq,Addr.mk.injEq,and_true] at e;have:=h3.lt;omega
end
section
open Go.RowKit Go.Shelf
attribute [local go_sem] Oper.semAt_some
theorem wpIn_region_ZS {P:Program} {Q:Exit→Act→World→Prop} {l n:Nat} {id:Nat} {a:Act} {w:World} {l':List Oper} (z:Nat) (S:World→Prop) (hm:P.follows .mixedOrders=true) (hd:noDefer l'=true) (hl : ¬LetsOut Q)
  (h:wpZS P l'.toArray (NoPanic Q) S z l'.length (Array.replicate l'.length false) a w.drew):(Code.region id l'.toArray true).wpIn (rd l) n P Q a w:=by
 refine Go.wpIn_mono (wpIn_region_any hm (wpAny_in (by simpa using hd) (noPanic_out hl) _ _ _ _ ?_)) NoPanic.imp;have:=wpAny_of_Z _ _ _ _ h
 simpa using this
def CDs (w b:Nat):Addr→Prop:=fun a=>a.block=w∨a.block=w+1∨a.block=w+2∨a.block=w+3∨a.block=w+4∨a.block=w+5∨a.block=b+1∨a.block=b+2
@[go_sem] theorem CDs_of {w b k o:Nat} (h:k=w∨k=w+1∨k=w+2∨k=w+3∨k=w+4∨k=w+5∨k=b+1∨k=b+2):CDs w b ⟨k,o,none⟩:=h
structure Mc where
 (a b d:V3)
 (u v n:Int)
def Mc.cs (m:Mc):List Value:=micL m.a m.b m.d m.u m.v m.n
theorem Mc.one (m:Mc):∀u∈m.cs,u.oneCell'=true:=by
 intro u hu;simp only [Mc.cs,micL,List.mem_cons,List.not_mem_nil,or_false] at hu
 rcases hu with rfl|rfl|rfl|rfl|rfl|rfl|rfl|rfl|rfl|rfl|rfl|rfl <;> rfl
end
theorem toVec_val (x y z:Int) (w:World):Calls Tryz.prog 287 #[.agg #[.int .i64 x,.int .i64 y,.int .i64 z]] w fun e w'=>e = .returned (.agg #[.int .i64 x,.int .i64 y,.int .i64 z])∧Ext w w':=by
 go_enter Tryz.func287,Tryz.ntmps287;go_wp2;exact bodyPost_ret (v:=.agg #[.int .i64 x,.int .i64 y,.int .i64 z]) (by simp [results,Tryz.results287,go_sem]) rfl ⟨rfl,S_⟩
theorem eqVec_same (x y z:Int) (w:World):Calls Tryz.prog 288 #[.agg #[.int .i64 x,.int .i64 y,.int .i64 z],.agg #[.int .i64 x,.int .i64 y,.int .i64 z]] w fun e w'=>e = .returned (.bool true)∧Ext w w':=by
 go_enter Tryz.func288,Tryz.ntmps288;go_wp2;go_ret;exact ⟨rfl,X_⟩
theorem nine {i:Nat} (h:i<9):i=0∨i=1∨i=2∨i=3∨i=4∨i=5∨i=6∨i=7∨i=8:=by omega
theorem twelve {i:Nat} (h:i<12):i=0∨i=1∨i=2∨i=3∨i=4∨i=5∨i=6∨i=7∨i=8∨i=9∨i=10∨i=11:=by omega
theorem rowI12_new {w:World} {b:Nat} {t:TypeId} {f:Nat→Int} (hb:w.heap.size=b):RowI (w.alloc (.cells #[.int .i64 (f 0),.int .i64 (f 1),.int .i64 (f 2),.int .i64 (f 3),.int .i64 (f 4),.int .i64 (f 5),.int .i64 (f 6),.int .i64 (f 7),.int .i64 (f 8),.int .i64 (f 9),.int .i64 (f 10),.int .i64 (f 11)] t)) b t 12 f:=
 hb▸World.rowIs_alloc _ _ _ _ fun i hi=>by rcases twelve hi with h|h|h|h|h|h|h|h|h|h|h|h <;> subst h <;> rfl
theorem toVecA4_val (x0 x1 x2 x3 x4 x5 x6 x7 x8 x9 x10 x11:Int) (w:World) :
  Calls Tryz.prog 252 #[.agg #[.int .i64 x0,.int .i64 x1,.int .i64 x2,.int .i64 x3,.int .i64 x4,.int .i64 x5,.int .i64 x6,.int .i64 x7,.int .i64 x8,.int .i64 x9,.int .i64 x10,.int .i64 x11]] w fun e w'=>e = .returned (.agg #[.int .i64 x0,.int .i64 x1,.int .i64 x2,.int .i64 x3,.int .i64 x4,.int .i64 x5,.int .i64 x6,.int .i64 x7,.int .i64 x8,.int .i64 x9,.int .i64 x10,.int .i64 x11])∧Ext w w':=by
 obtain ⟨f,hf⟩:∃f:Nat→Int,f=fun i=>[x0,x1,x2,x3,x4,x5,x6,x7,x8,x9,x10,x11].getD i 0:=⟨_,rfl⟩
 have f0:f 0=x0:=by subst hf;rfl
 have f1:f 1=x1:=by subst hf;rfl
 have f2:f 2=x2:=by subst hf;rfl
 have f3:f 3=x3:=by subst hf;rfl
 have f4:f 4=x4:=by subst hf;rfl
 have f5:f 5=x5:=by subst hf;rfl
 have f6:f 6=x6:=by subst hf;rfl
 have f7:f 7=x7:=by subst hf;rfl
 have f8:f 8=x8:=by subst hf;rfl
 have f9:f 9=x9:=by subst hf;rfl
 have f10:f 10=x10:=by subst hf;rfl
 have f11:f 11=x11:=by subst hf;rfl
 clear hf;rw [←f0,←f1,←f2,←f3,←f4,←f5,←f6,←f7,←f8,←f9,←f10,←f11];clear f0 f1 f2 f3 f4 f5 f6 f7 f8 f9 f10 f11;go_enter Tryz.func252,Tryz.ntmps252;go_wp2
 go_loopw [4] (fun i wr=>∃k:Nat,k≤4∧i = .int .i64 k∧Ext w wr∧RowI wr w.heap.size 208 12 f∧RowI wr (w.heap.size+1) 38 12 (fun _=>0)∧RowI wr (w.heap.size+1+1) 38 12 (fillI f (k*3))) (fun i _=>4 - (intOf i).toNat)
 case atStart=>
  refine ⟨0,by omega,rfl,X_,?_,?_,?_⟩
  ·exact ((rowI12_new rfl).alloc _).alloc _
  ·exact (rowI12_new (f:=fun _=>0) (by simp)).alloc _
  ·exact RowI.zero (rowI12_new (f:=fun _=>0) (by simp))
 case round=>
  obtain ⟨k,hk,rfl,hE,h1,h2,h3⟩:=hrel
  by_cases hlt:k<4
  ·have c0:=h1.cell (i:=k*3) (by omega)
   have c1:=h1.cell (i:=k*3+1) (by omega);have c2:=h1.cell (i:=k*3+2) (by omega);have H1:=hid h1;have H2:=hid h2;have H3:=hid h3;have HE:=hid hE;clear h1 h2 h3 hE;go_wp2_with fail;refine (toVec_val (f (k*3)) (f (k*3+1)) (f (k*3+2)) _).mono ?_;rintro e w2 ⟨rfl,y2⟩;have h3:=H3.out.ext y2;have d0:=h3.cell (i:=k*3) (by omega);have d1:=h3.cell (i:=k*3+1) (by omega);have d2:=h3.cell (i:=k*3+2) (by omega);have e0:=h3.frozen (k*3);have e1:=h3.frozen (k*3+1);have e2:=h3.frozen (k*3+2);have G1:=hid (H1.out.ext y2);have G2:=hid (H2.out.ext y2);have G3:=hid h3;have GE:=hid (HE.out.trans y2);clear h3 H1 H2 H3 HE y2;go_wp2;go_roundw
   case rel=>
    refine ⟨k+1,by omega,by go_num,?_,?_,?_,?_⟩
    ·have hE:=GE.out
     exact S_
    ·exact ((G1.out.other (by simp;omega) _).other (by simp;omega) _).other (by simp;omega) _
    ·exact ((G2.out.other (by simp) _).other (by simp) _).other (by simp) _
    ·rw [Nat.add_mul,Nat.one_mul]
     exact RowI.step (RowI.step (RowI.step G3.out rfl rfl) rfl rfl) rfl rfl
   case measure=>simp [intOf];omega
  ·obtain rfl:k=4:=by omega
   have h3:=h3.full;have c0:=h3.cell (i:=0) (by decide);have d0:=h2.cell (i:=0) (by decide);have e0:=h2.frozen 0;have c1:=h3.cell (i:=1) (by decide);have d1:=h2.cell (i:=1) (by decide);have e1:=h2.frozen 1;have c2:=h3.cell (i:=2) (by decide);have d2:=h2.cell (i:=2) (by decide);have e2:=h2.frozen 2;have c3:=h3.cell (i:=3) (by decide);have d3:=h2.cell (i:=3) (by decide);have e3:=h2.frozen 3;have c4:=h3.cell (i:=4) (by decide);have d4:=h2.cell (i:=4) (by decide);have e4:=h2.frozen 4;have c5:=h3.cell (i:=5) (by decide);have d5:=h2.cell (i:=5) (by decide);have e5:=h2.frozen 5;have c6:=h3.cell (i:=6) (by decide);have d6:=h2.cell (i:=6) (by decide);have e6:=h2.frozen 6;have c7:=h3.cell (i:=7) (by decide);have d7:=h2.cell (i:=7) (by decide);have e7:=h2.frozen 7;have c8:=h3.cell (i:=8) (by decide);have d8:=h2.cell (i:=8) (by decide);have e8:=h2.frozen 8;have c9:=h3.cell (i:=9) (by decide);have d9:=h2.cell (i:=9) (by decide);have e9:=h2.frozen 9;have c10:=h3.cell (i:=10) (by decide);have d10:=h2.cell (i:=10) (by decide);have e10:=h2.frozen 10;have c11:=h3.cell (i:=11) (by decide);have d11:=h2.cell (i:=11) (by decide);have e11:=h2.frozen 11;have HE:=hid hE;clear h1 h2 h3 hE;go_wp2;exact bodyPost_ret (v:=.agg #[.int .i64 (f 0),.int .i64 (f 1),.int .i64 (f 2),.int .i64 (f 3),.int .i64 (f 4),.int .i64 (f 5),.int .i64 (f 6),.int .i64 (f 7),.int .i64 (f 8),.int .i64 (f 9),.int .i64 (f 10),.int .i64 (f 11)]) (by simp [results,Tryz.results252,go_sem, *]) rfl ⟨rfl,by have hE:=HE.out;exact S_⟩
theorem eqVecA4_same (x0 x1 x2 x3 x4 x5 x6 x7 x8 x9 x10 x11:Int) (w:World) :
  Calls Tryz.prog 255 #[.agg #[.int .i64 x0,.int .i64 x1,.int .i64 x2,.int .i64 x3,.int .i64 x4,.int .i64 x5,.int .i64 x6,.int .i64 x7,.int .i64 x8,.int .i64 x9,.int .i64 x10,.int .i64 x11],.agg #[.int .i64 x0,.int .i64 x1,.int .i64 x2,.int .i64 x3,.int .i64 x4,.int .i64 x5,.int .i64 x6,.int .i64 x7,.int .i64 x8,.int .i64 x9,.int .i64 x10,.int .i64 x11]] w fun e w'=>e = .returned (.bool true)∧Ext w w':=by
 obtain ⟨f,hf⟩:∃f:Nat→Int,f=fun i=>[x0,x1,x2,x3,x4,x5,x6,x7,x8,x9,x10,x11].getD i 0:=⟨_,rfl⟩
 have f0:f 0=x0:=by subst hf;rfl
 have f1:f 1=x1:=by subst hf;rfl
 have f2:f 2=x2:=by subst hf;rfl
 have f3:f 3=x3:=by subst hf;rfl
 have f4:f 4=x4:=by subst hf;rfl
 have f5:f 5=x5:=by subst hf;rfl
 have f6:f 6=x6:=by subst hf;rfl
 have f7:f 7=x7:=by subst hf;rfl
 have f8:f 8=x8:=by subst hf;rfl
 have f9:f 9=x9:=by subst hf;rfl
 have f10:f 10=x10:=by subst hf;rfl
 have f11:f 11=x11:=by subst hf;rfl
 clear hf;rw [←f0,←f1,←f2,←f3,←f4,←f5,←f6,←f7,←f8,←f9,←f10,←f11];clear f0 f1 f2 f3 f4 f5 f6 f7 f8 f9 f10 f11;go_enter Tryz.func255,Tryz.ntmps255;go_wp2
 go_loopw [5] (fun i wr=>∃k:Nat,k≤4∧i = .int .i64 k∧Ext w wr∧RowI wr w.heap.size 38 12 f∧RowI wr (w.heap.size+1) 38 12 f) (fun i _=>4 - (intOf i).toNat)
 case atStart=>
  exact ⟨0,by omega,rfl,X_,(rowI12_new rfl).alloc _,rowI12_new (by simp)⟩
 case round=>
  obtain ⟨k,hk,rfl,hE,h1,h2⟩:=hrel
  by_cases hlt:k<4
  ·have c0:=h1.cell (i:=k*3) (by omega)
   have c1:=h1.cell (i:=k*3+1) (by omega);have c2:=h1.cell (i:=k*3+2) (by omega);have d0:=h2.cell (i:=k*3) (by omega);have d1:=h2.cell (i:=k*3+1) (by omega);have d2:=h2.cell (i:=k*3+2) (by omega);have s1:=h1.lt;have s2:=h2.lt;have H1:=hid h1;have H2:=hid h2;have HE:=hid hE;clear h1 h2 hE;go_wp2;refine wp_region_ext (by kernel_rfl) (by kernel_rfl) ?_
   repeat (go_big_quiet_step ((go_at_call 288;exact grow_call (eqVec_same _ _ _ _))))
   refine wpQuiet_nil ?_;intro w1 y1;go_wp2;go_roundw
   case rel=>exact ⟨k+1,by omega,by go_num,HE.out.trans y1,H1.out.ext y1,H2.out.ext y1⟩
   case measure=>simp [intOf];omega
  ·go_wp2
   go_ret;exact ⟨rfl,hE⟩
theorem toPatch_val (x0 x1 x2 x3 x4 x5 x6 x7 x8 x9 x10 x11:Int) (w:World) :
  Calls Tryz.prog 197 #[.agg #[.int .i64 x0,.int .i64 x1,.int .i64 x2,.int .i64 x3,.int .i64 x4,.int .i64 x5,.int .i64 x6,.int .i64 x7,.int .i64 x8,.int .i64 x9,.int .i64 x10,.int .i64 x11]] w fun e w'=>e = .returned (.agg #[.int .i64 x0,.int .i64 x1,.int .i64 x2,.int .i64 x3,.int .i64 x4,.int .i64 x5,.int .i64 x6,.int .i64 x7,.int .i64 x8,.int .i64 x9,.int .i64 x10,.int .i64 x11])∧Ext w w':=by
 go_enter Tryz.func197,Tryz.ntmps197;go_wp2_with fail;refine (toVecA4_val x0 x1 x2 x3 x4 x5 x6 x7 x8 x9 x10 x11 _).mono ?_;rintro e w1 ⟨rfl,h1⟩;obtain ⟨c1,f1⟩:=h1.cells;have z1:=h1.size;simp only [World.size_alloc] at z1;have E1:Ext w w1:=Ext.trans X_ h1
 have k1:w.heap.size<w1.heap.size:=by omega
 have k2:w.heap.size+1<w1.heap.size:=by omega
 have k3:w.heap.size+1+1<w1.heap.size:=by omega
 go_wp2;exact bodyPost_ret (v:=.agg #[.int .i64 x0,.int .i64 x1,.int .i64 x2,.int .i64 x3,.int .i64 x4,.int .i64 x5,.int .i64 x6,.int .i64 x7,.int .i64 x8,.int .i64 x9,.int .i64 x10,.int .i64 x11]) (by simp [results,Tryz.results197,go_sem, *]) rfl ⟨rfl,S_⟩
theorem eqPatch_same (x0 x1 x2 x3 x4 x5 x6 x7 x8 x9 x10 x11:Int) (w:World) :
  Calls Tryz.prog 200 #[.agg #[.int .i64 x0,.int .i64 x1,.int .i64 x2,.int .i64 x3,.int .i64 x4,.int .i64 x5,.int .i64 x6,.int .i64 x7,.int .i64 x8,.int .i64 x9,.int .i64 x10,.int .i64 x11],.agg #[.int .i64 x0,.int .i64 x1,.int .i64 x2,.int .i64 x3,.int .i64 x4,.int .i64 x5,.int .i64 x6,.int .i64 x7,.int .i64 x8,.int .i64 x9,.int .i64 x10,.int .i64 x11]] w fun e w'=>e = .returned (.bool true)∧Ext w w':=by
 go_enter Tryz.func200,Tryz.ntmps200;go_wp2_with fail;refine (eqVecA4_same x0 x1 x2 x3 x4 x5 x6 x7 x8 x9 x10 x11 _).mono ?_;rintro e w1 ⟨rfl,h1⟩;go_wp2;go_ret;exact ⟨rfl,Ext.trans X_ h1⟩
def C1e (b:Nat):Addr→Prop:=fun a=>a.block=b
@[go_sem] theorem C1e_of {b k o:Nat} (h:k=b):C1e b ⟨k,o,none⟩:=h
def C2e (b c:Nat):Addr→Prop:=fun a=>a.block=b∨a.block=c
@[go_sem] theorem C2e_of {b c k o:Nat} (h:k=b∨k=c):C2e b c ⟨k,o,none⟩:=h
structure EdgeBox (w:World) (D A E:Nat) (a b:V3):Prop where
 ld:D<w.heap.size
 la:A<w.heap.size
 le:E<w.heap.size
 d:w.cell? ⟨D,0,none⟩=some (.int .i64 (b.x - a.x))
 a0:w.cell? ⟨A,0,none⟩=some (.int .i64 a.x)
 a1:w.cell? ⟨A,1,none⟩=some (.int .i64 a.y)
 e:w.cell? ⟨E,0,none⟩=some (.int .i64 (b.y - a.y))
theorem EdgeBox.ext {w w':World} {D A E:Nat} {a b:V3} (h:EdgeBox w D A E a b) (x:Ext w w'):EdgeBox w' D A E a b:=
 ⟨Nat.lt_of_lt_of_le h.ld x.size,Nat.lt_of_lt_of_le h.la x.size,Nat.lt_of_lt_of_le h.le x.size,(x.cells.1 _ _ h.ld).trans h.d,(x.cells.1 _ _ h.la).trans h.a0,(x.cells.1 _ _ h.la).trans h.a1,(x.cells.1 _ _ h.le).trans h.e⟩
structure TBox9 (w:World) (B:Nat) (a b c:V3):Prop where
 lt:B<w.heap.size
 c0:w.cell? ⟨B,0,none⟩=some (.int .i64 a.x)
 c1:w.cell? ⟨B,1,none⟩=some (.int .i64 a.y)
 c2:w.cell? ⟨B,2,none⟩=some (.int .i64 a.z)
 c3:w.cell? ⟨B,3,none⟩=some (.int .i64 b.x)
 c4:w.cell? ⟨B,4,none⟩=some (.int .i64 b.y)
 c5:w.cell? ⟨B,5,none⟩=some (.int .i64 b.z)
 c6:w.cell? ⟨B,6,none⟩=some (.int .i64 c.x)
 c7:w.cell? ⟨B,7,none⟩=some (.int .i64 c.y)
 c8:w.cell? ⟨B,8,none⟩=some (.int .i64 c.z)
theorem TBox9.ext {w w':World} {B:Nat} {a b c:V3} (h:TBox9 w B a b c) (x:Ext w w'):TBox9 w' B a b c:=
 ⟨Nat.lt_of_lt_of_le h.lt x.size,(x.cells.1 _ _ h.lt).trans h.c0,(x.cells.1 _ _ h.lt).trans h.c1,(x.cells.1 _ _ h.lt).trans h.c2,(x.cells.1 _ _ h.lt).trans h.c3,(x.cells.1 _ _ h.lt).trans h.c4,(x.cells.1 _ _ h.lt).trans h.c5,(x.cells.1 _ _ h.lt).trans h.c6,(x.cells.1 _ _ h.lt).trans h.c7,(x.cells.1 _ _ h.lt).trans h.c8⟩
structure VBox3 (w:World) (B:Nat) (s:V3):Prop where
 lt:B<w.heap.size
 c0:w.cell? ⟨B,0,none⟩=some (.int .i64 s.x)
 c1:w.cell? ⟨B,1,none⟩=some (.int .i64 s.y)
 c2:w.cell? ⟨B,2,none⟩=some (.int .i64 s.z)
theorem VBox3.ext {w w':World} {B:Nat} {s:V3} (h:VBox3 w B s) (x:Ext w w'):VBox3 w' B s:=
 ⟨Nat.lt_of_lt_of_le h.lt x.size,(x.cells.1 _ _ h.lt).trans h.c0,(x.cells.1 _ _ h.lt).trans h.c1,(x.cells.1 _ _ h.lt).trans h.c2⟩
theorem TBox9.of {w:World} {B:Nat} {a b c:V3} {t:TypeId} (h:Blk w B t [.int .i64 a.x,.int .i64 a.y,.int .i64 a.z,.int .i64 b.x,.int .i64 b.y,.int .i64 b.z,.int .i64 c.x,.int .i64 c.y,.int .i64 c.z]):TBox9 w B a b c:=
 ⟨h.lt,h.cell 0 rfl,h.cell 1 rfl,h.cell 2 rfl,h.cell 3 rfl,h.cell 4 rfl,h.cell 5 rfl,h.cell 6 rfl,h.cell 7 rfl,h.cell 8 rfl⟩
theorem VBox3.of {w:World} {B:Nat} {s:V3} {t:TypeId} (h:Blk w B t [.int .i64 s.x,.int .i64 s.y,.int .i64 s.z]):VBox3 w B s:=⟨h.lt,h.cell 0 rfl,h.cell 1 rfl,h.cell 2 rfl⟩
def namedB (op:Int):Bool:=op==2||op==8
def lenB (op l:Int):Bool:=if op=1∨op=2 then l==0 else if op=3 then l==1 else if 4≤op∧op≤7 then l==2 else if op=8 then decide (l≤3) else false
def nodeF (x:Nd):Bool:=(if namedB x.op then identB x.name else x.name.toList==[])&&(if x.op=1 then inB x.num 0 2559999 else x.num==0)&&lenB x.op x.args.length
theorem ident_empty {s:ByteArray} (h:identB s=true):(s.toList==[])=false:=by
 rw [beq_eq_false_iff_ne];intro e
 have h1:s.size=0:=by
  rw [ByteArray.toList_eq] at e
  have:s.data.toList.length=s.size:=by simp
  rw [←this,e]
  rfl
 unfold identB at h;rw [h1] at h;simp at h
theorem iIsIdentifier_val {s:ByteArray} {b:Bool} (h:identB s=b) (w:World) (hs:s.size≤maxLen):Calls Tryz.prog 276 #[.string s] w fun e w'=>e = .returned (.bool b)∧Ext w w':=h▸iIsIdentifier_any s w hs
theorem sIsIdentifier_val {s:ByteArray} {b:Bool} (h:identB s=b) (w:World) (hs:s.size≤maxLen):Calls Tryz.prog 239 #[.string s] w fun e w'=>e = .returned (.bool b)∧w=w':=h▸sIsIdentifier_any s w hs
theorem op_cases (op:Int) (bn:Bool):(op=1∧bn=true)∨(op=1∧bn=false)∨op=2∨op=3∨op=4∨op=5∨op=6∨op=7∨op=8∨(op≠1∧op≠2∧op≠3∧op≠4∧op≠5∧op≠6∧op≠7∧op≠8):=by
 cases bn <;> simp <;> omega
theorem iValidNode_any (op:Int) (s:ByteArray) (n:Int) (a:Option Addr) (r:List Int) (cap:Nat) (w:World) (hs:s.size≤maxLen) :
  Calls Tryz.prog 275 #[.agg #[.int .i64 op,.string s,.int .i64 n,.slice a r.length cap]] w fun e w'=>e = .returned (.bool (nodeF ⟨op,s,n,r⟩))∧Ext w w':=by
 obtain ⟨bi,hbi⟩:∃b,identB s=b:=⟨_,rfl⟩
 obtain ⟨be,hbe⟩:∃b,(s.toList==[])=b:=⟨_,rfl⟩
 obtain ⟨bn,hbn⟩:∃b,inB n 0 2559999=b:=⟨_,rfl⟩
 have hie:bi=true→be=false:=fun h=>by rw [←hbe];exact ident_empty (by rw [hbi,h])
 have bA:=Bx.made w #[.int .i64 op,.string s,.int .i64 n,.slice a r.length cap] 243;have HS:=hid hs;have HI:=hid hbi;clear hs
 rcases op_cases op bn with ⟨rfl,rfl⟩|⟨rfl,rfl⟩|rfl|rfl|rfl|rfl|rfl|rfl|rfl|⟨o1,o2,o3,o4,o5,o6,o7,o8⟩
 all_goals cases bi <;> cases be
 all_goals first|(exfalso;simp at hie;done)|skip
 all_goals
  try have q1:(op==1)=false:=beq_eq_false_iff_ne.2 o1
  try have q2:(op==2)=false:=beq_eq_false_iff_ne.2 o2
  try have q3:(op==3)=false:=beq_eq_false_iff_ne.2 o3
  try have q4:(op==4)=false:=beq_eq_false_iff_ne.2 o4
  try have q5:(op==5)=false:=beq_eq_false_iff_ne.2 o5
  try have q6:(op==6)=false:=beq_eq_false_iff_ne.2 o6
  try have q7:(op==7)=false:=beq_eq_false_iff_ne.2 o7
  try have q8:(op==8)=false:=beq_eq_false_iff_ne.2 o8
  clear hie hbi;go_enter Tryz.func275,Tryz.ntmps275;go_wp2_with fail;refine (iIsIdentifier_val HI.out _ HS.out).mono ?_;rintro e w1 ⟨rfl,x1⟩;have bA1:=bA.ext x1;have X1:Ext w w1:=Ext.trans X_ x1;clear bA x1;have y:=bA1.lt;have y0:=bA1.cell 0;simp only [List.getElem?_toArray,List.getElem?_cons_zero,List.getElem?_cons_succ] at y0;have y1:=bA1.cell 1;simp only [List.getElem?_toArray,List.getElem?_cons_zero,List.getElem?_cons_succ] at y1;have y2:=bA1.cell 2;simp only [List.getElem?_toArray,List.getElem?_cons_zero,List.getElem?_cons_succ] at y2;have y3:=bA1.cell 3;simp only [List.getElem?_toArray,List.getElem?_cons_zero,List.getElem?_cons_succ] at y3;clear bA1;go_wp2_with (go_at_call 54;refine (within_val hbn _).mono ?_;rintro e w2 ⟨rfl,rfl⟩)
  all_goals (go_ret;exact ⟨by first|(simp [nodeF,namedB,lenB,HI.out,hbn, *];done)|(simp [nodeF,namedB,lenB,HI.out,hbn, *] <;> simp_all;done)|(simp [nodeF,namedB,lenB,HI.out,hbn, *] <;> omega),X1⟩)
def argsB (r:List Int) (i:Int):Bool:=r.all fun a=>inB a 0 (i - 1)
theorem in47:inB 4 4 7=true∧inB 5 4 7=true∧inB 6 4 7=true∧inB 7 4 7=true:=⟨rfl,rfl,rfl,rfl⟩
theorem sNode_any (lo hi:Nat) (op:Int) (s:ByteArray) (n:Int) (u:Value) (r:List Int) (i:Int) (w:World) (hu:Ints lo hi w u r) (hh:hi≤w.heap.size) (hs:s.size≤maxLen) (hi1:0≤i) (hi2:i≤10000000) :
  Calls Tryz.prog 238 #[.agg #[.int .i64 op,.string s,.int .i64 n,u],.int .i64 i] w fun e w'=>e = .returned (.bool (argsB r i&&nodeF ⟨op,s,n,r⟩))∧Ext w w':=by
 obtain ⟨a,cap,rfl,HU⟩:=hu.open;have l1:=HU.le;have l2:=HU.cap
 obtain ⟨bi,hbi⟩:∃b,identB s=b:=⟨_,rfl⟩
 obtain ⟨be,hbe⟩:∃b,(s.toList==[])=b:=⟨_,rfl⟩
 obtain ⟨bn,hbn⟩:∃b,inB n 0 2559999=b:=⟨_,rfl⟩
 have hie:bi=true→be=false:=fun h=>by rw [←hbe];exact ident_empty (by rw [hbi,h])
 have HS:=hid hs;have HI:=hid hbi;have HE:=hid hbe;have HB:=hid hbn;have x0:Ext w (w.alloc (.cells #[.int .i64 op,.string s,.int .i64 n,.slice a r.length cap] 243)):=X_;have HIE:=hid hie;clear hs hbi hbe hbn hie hu;go_enter Tryz.func238,Tryz.ntmps238;go_wp2
 go_loopw [11] (fun q wr=>∃k:Nat,k≤r.length∧q = .int .i64 k∧wr=(w.alloc (.cells #[.int .i64 op,.string s,.int .i64 n,.slice a r.length cap] 243))∧∀j x,j<k→r[j]?=some x→inB x 0 (i - 1)=true) (fun q _=>r.length - (intOf q).toNat)
 case atStart=>exact ⟨0,by omega,rfl,rfl,fun j x h=>by omega⟩
 case round=>
  obtain ⟨k,hk,rfl,rfl,hno⟩:=hrel
  by_cases hlt:k<r.length
  ·obtain ⟨b,off,rfl,hb1,hb2,hc⟩:=HU.at hlt
   have hget:r[k]?=some r[k]:=by simp [hlt]
   obtain ⟨y,hy⟩:∃y,r[k]=y:=⟨_,rfl⟩
   rw [hy] at hc hget;clear hy;rw [←x0.cells.1 b _ (by omega)] at hc
   obtain ⟨bb,hbb⟩:∃c,inB y 0 (i - 1)=c:=⟨_,rfl⟩
   have hb3:b<(w.alloc (.cells #[.int .i64 op,.string s,.int .i64 n,.slice (some ⟨b,off,none⟩) r.length cap] 243)).heap.size:=by simp;omega
   cases bb
   ·have HN:Hid (argsB r i=false):=hid (by
     unfold argsB;rw [List.all_eq_false]
     exact ⟨y,List.mem_of_getElem? hget,by rw [hbb];simp⟩)
    have HBB:=hid hbb;clear hno hget hbb;go_wp2_with (go_at_call 70;refine (l01In_val HBB.out _).mono ?_;rintro e w1 ⟨rfl,rfl⟩);go_ret;exact ⟨by rw [HN.out];rfl,x0⟩
   ·have HN:Hid (∀j x,j<k+1→r[j]?=some x→inB x 0 (i - 1)=true):=hid (fun j z hj hz=>by
     by_cases e:j=k
     ·subst e
      rw [hget] at hz;injection hz with hz;subst hz;exact hbb
     ·exact hno j z (by omega) hz)
    have HBB:=hid hbb;clear hno hget hbb;go_wp2_with (go_at_call 70;refine (l01In_val HBB.out _).mono ?_;rintro e w1 ⟨rfl,rfl⟩);go_roundw
    case rel=>exact ⟨k+1,by omega,by go_num,by trivial,HN.out⟩
    case measure=>simp [intOf];omega
  ·obtain rfl:k=r.length:=by omega
   have HN:Hid (argsB r i=true):=hid (by
    unfold argsB;rw [List.all_eq_true];intro x hx;obtain ⟨j,hj,rfl⟩:=List.getElem_of_mem hx
    exact hno j _ hj (by simp [hj]))
   clear hno;have hie:=HIE.out;have hbe:=HE.out;have hbn:=HB.out
   rcases op_cases op bn with ⟨rfl,rfl⟩|⟨rfl,rfl⟩|rfl|rfl|rfl|rfl|rfl|rfl|rfl|⟨o1,o2,o3,o4,o5,o6,o7,o8⟩
   all_goals cases bi <;> cases be
   all_goals first|(exfalso;simp at hie;done)|skip
   all_goals
    try have q1:(op==1)=false:=beq_eq_false_iff_ne.2 o1
    try have q2:(op==2)=false:=beq_eq_false_iff_ne.2 o2
    try have q3:(op==3)=false:=beq_eq_false_iff_ne.2 o3
    try have q8:(op==8)=false:=beq_eq_false_iff_ne.2 o8
    try have q47:inB op 4 7=false:=by unfold inB;simp;omega
    clear hie;go_wp2_with (first|(go_at_call 239;refine (sIsIdentifier_val HI.out _ HS.out).mono ?_;rintro e w1 ⟨rfl,rfl⟩)|(go_at_call 70;(first|with_reducible refine (l01In_val hbn _).mono ?_|with_reducible refine (l01In_val q47 _).mono ?_|with_reducible refine (l01In_val in47.1 _).mono ?_|with_reducible refine (l01In_val in47.2.1 _).mono ?_|with_reducible refine (l01In_val in47.2.2.1 _).mono ?_|with_reducible refine (l01In_val in47.2.2.2 _).mono ?_);rintro e w1 ⟨rfl,rfl⟩))
    all_goals (go_ret;exact ⟨by rw [HN.out,Bool.true_and];first|(simp [nodeF,namedB,lenB,HI.out,hbn, *];done)|(simp [nodeF,namedB,lenB,HI.out,hbn, *] <;> simp_all;done)|(simp [nodeF,namedB,lenB,HI.out,hbn, *] <;> omega),x0⟩)
def bumpU (u:List Int) (i:Nat):List Int:=u.set i (u.getD i 0+1)
def bumpL (u:List Int) (es:List Int):List Int:=es.foldl (fun u a=>bumpU u a.toNat) u
def usesN (u:List Int) (xs:List Nd):List Int:=xs.foldl (fun u x=>bumpL u x.args) u
def usesG (u:List Int) (gs:List Asg):List Int:=gs.foldl (fun u a=>bumpU u a.root.toNat) u
def Prg.usesA (p:Prg):List Int:=usesN (List.replicate p.ns.length 0) p.ns
def Prg.uses (p:Prg):List Int:=usesG p.usesA p.gs
def Prg.ndB (p:Prg) (k:Nat):Bool:=match p.ns[k]? with|some x=>argsB x.args k&&nodeF x|none=>true
def Prg.agB (p:Prg) (k:Nat):Bool:=match p.gs[k]? with|some x=>identB x.name&&inB x.root 0 ((p.ns.length:Int) - 1)|none=>true
def Prg.okB (p:Prg):Bool:=decide (p.ns.length≤60)&&(List.range p.ns.length).all p.ndB&&(List.range p.gs.length).all p.agB&&p.uses.all (· == 1)
theorem Prg.ndB_at {p:Prg} {k:Nat} {x:Nd} (h:p.ns[k]?=some x):p.ndB k=(argsB x.args k&&nodeF x):=by unfold Prg.ndB;rw [h]
theorem Prg.agB_at {p:Prg} {k:Nat} {x:Asg} (h:p.gs[k]?=some x):p.agB k=(identB x.name&&inB x.root 0 ((p.ns.length:Int) - 1)):=by unfold Prg.agB;rw [h]
def UpTo (u:List Int) (t:Nat):Prop:=∀i,0≤u.getD i 0∧u.getD i 0≤t
theorem UpTo.zero (n:Nat):UpTo (List.replicate n 0) 0:=fun i=>by
 rw [List.getD_eq_getElem?_getD,List.getElem?_replicate]
 split <;> simp
theorem UpTo.bump {u:List Int} {t:Nat} (h:UpTo u t) (i:Nat):UpTo (bumpU u i) (t+1):=fun j=>by
 have h1:=h i;have h2:=h j;unfold bumpU;rw [List.getD_eq_getElem?_getD,List.getElem?_set]
 split
 ·split
  ·simp only [Option.getD_some];omega
  ·simp;omega
 ·rw [←List.getD_eq_getElem?_getD];omega
theorem UpTo.mono {u:List Int} {t t':Nat} (h:UpTo u t) (ht:t≤t'):UpTo u t':=fun i=>⟨(h i).1,by have:=(h i).2;omega⟩
theorem bumpU_len (u:List Int) (i:Nat):(bumpU u i).length=u.length:=by simp [bumpU]
theorem bumpL_len (es:List Int):∀u:List Int,(bumpL u es).length=u.length:=by
 unfold bumpL
 induction es with
 | nil=>intro u;rfl
 | cons a r ih=>intro u;rw [List.foldl_cons,ih,bumpU_len]
theorem usesN_len (xs:List Nd):∀u:List Int,(usesN u xs).length=u.length:=by
 unfold usesN
 induction xs with
 | nil=>intro u;rfl
 | cons a r ih=>intro u;rw [List.foldl_cons,ih,bumpL_len]
theorem usesG_len (xs:List Asg):∀u:List Int,(usesG u xs).length=u.length:=by
 unfold usesG
 induction xs with
 | nil=>intro u;rfl
 | cons a r ih=>intro u;rw [List.foldl_cons,ih,bumpU_len]
theorem Prg.usesA_len (p:Prg):p.usesA.length=p.ns.length:=by unfold Prg.usesA;rw [usesN_len,List.length_replicate]
theorem take_step {α : Type} {xs:List α} {k:Nat} {x : α} (h:xs[k]?=some x):xs.take (k+1)=xs.take k++[x]:=by
 obtain ⟨hk,rfl⟩:=List.getElem?_eq_some_iff.1 h;exact List.take_succ_eq_append_getElem hk
theorem bumpL_step {u es:List Int} {k:Nat} {y:Int} (h:es[k]?=some y):bumpU (bumpL u (es.take k)) y.toNat=bumpL u (es.take (k+1)):=by
 rw [take_step h];simp [bumpL]
theorem usesN_step {u:List Int} {xs:List Nd} {k:Nat} {x:Nd} (h:xs[k]?=some x):bumpL (usesN u (xs.take k)) x.args=usesN u (xs.take (k+1)):=by
 rw [take_step h];simp [usesN]
theorem usesG_step {u:List Int} {xs:List Asg} {k:Nat} {x:Asg} (h:xs[k]?=some x):bumpU (usesG u (xs.take k)) x.root.toNat=usesG u (xs.take (k+1)):=by
 rw [take_step h];simp [usesG]
theorem nodeF_len {x:Nd} (h:nodeF x=true):x.args.length≤3:=by
 unfold nodeF at h;simp only [Bool.and_eq_true] at h;have:=h.2;unfold lenB at this
 split at this
 ·simp at this;simp [this]
 split at this
 ·simp at this;omega
 split at this
 ·simp at this;omega
 split at this
 ·simp at this;omega
 ·cases this
theorem OwnInts.upd {lo b n cap:Nat} {w:World} {u:List Int} (h:OwnInts lo w (.slice (some ⟨b,0,none⟩) n cap) u) (hl:n=u.length) {q:Nat} (hq:q<n) :
  lo≤b∧b<w.heap.size∧w.cell? ⟨b,q,none⟩=some (.int .i64 (u.getD q 0))∧w.frozen? ⟨b,q,none⟩=false∧∀x,I64 x→OwnInts lo (w.setCell ⟨b,q,none⟩ (.int .i64 x)) (.slice (some ⟨b,0,none⟩) n cap) (u.set q x):=by
 obtain ⟨g,y,e,h1,h2,h3,h4,h5,h6⟩:=h.at hl (k:=q) (by omega);simp only [Option.some.injEq,Addr.mk.injEq,and_true] at e;subst e;refine ⟨h1,h2,?_,h5,fun x hx=>(h6 x hx).1⟩;rw [h4,List.getD_eq_getElem?_getD,h3]
 rfl
theorem all_one_no {xs:List Int} {k:Nat} (h:k<xs.length) (hp:xs[k]≠1):xs.all (· == 1)=false:=all_no h (by simpa using hp)
theorem indexOnce_any (lo hi:Nat) (u:Value) (xs:List Int) (w:World) (hu:Ints lo hi w u xs) :
  Calls Tryz.prog 304 #[u,.func (.func 278) #[] #[]] w fun e w'=>(∃i:Int,e = .returned (.int .i64 i)∧decide (i≥0) = !(xs.all (· == 1)))∧w=w':=by
 obtain ⟨a,cap,rfl,HU⟩:=hu.open;have l1:=HU.le;have l2:=HU.cap;clear hu;go_enter Tryz.func304,Tryz.ntmps304;go_wp2
 go_loopw [8] (fun i wr=>∃k:Nat,k≤xs.length∧i = .int .i64 k∧wr=w∧(xs.take k).all (· == 1)=true) (fun i _=>xs.length - (intOf i).toNat)
 case atStart=>exact ⟨0,by omega,rfl,rfl,rfl⟩
 case round=>
  obtain ⟨k,hk,rfl,rfl,hall⟩:=hrel;have HA:=hid hall;clear hall
  by_cases hlt:k<xs.length
  ·obtain ⟨b,off,rfl,hb1,hb2,hc⟩:=HU.at hlt
   by_cases h1:xs[k]=1
   ·rw [h1] at hc
    have H1:=hid h1;clear h1;go_wp2;go_roundw
    case rel=>exact ⟨k+1,by omega,by go_num,by trivial,all_step hlt HA.out (by simp [H1.out])⟩
    case measure=>simp [intOf];omega
   ·obtain ⟨y,hy⟩:∃y,xs[k]=y:=⟨_,rfl⟩
    have H1:=hid (all_one_no hlt h1);rw [hy] at hc h1;have h2:(y==1)=false:=beq_eq_false_iff_ne.2 h1;clear hy;go_wp2;go_ret;exact ⟨⟨_,rfl,by rw [H1.out];simp⟩,rfl⟩
  ·obtain rfl:k=xs.length:=by omega
   go_wp2;go_ret;have hA:=HA.out;rw [List.take_length] at hA;exact ⟨⟨_,rfl,by rw [hA];rfl⟩,rfl⟩
theorem containsOnce_val {b:Bool} (lo hi:Nat) (u:Value) (xs:List Int) (w:World) (hb:xs.all (· == 1)=b) (hu:Ints lo hi w u xs) :
  Calls Tryz.prog 277 #[u,.func (.func 278) #[] #[]] w fun e w'=>e = .returned (.bool (!b))∧w=w':=by
 obtain ⟨a,cap,rfl,HU⟩:=hu.open;have HI:=hid hu;clear hu;go_enter Tryz.func277,Tryz.ntmps277;go_wp2_with fail;refine (indexOnce_any lo hi _ xs _ HI.out).mono ?_;rintro e w1 ⟨⟨i,rfl,hi2⟩,rfl⟩;go_wp2;go_ret;exact ⟨ret_bool (by first|rfl|(rw [←hb];exact hi2)),rfl⟩
theorem iValidNode_val {x:Nd} {b:Bool} (h:nodeF x=b) (a:Option Addr) (cap:Nat) (w:World) (hs:x.name.size≤maxLen) :
  Calls Tryz.prog 275 #[.agg #[.int .i64 x.op,.string x.name,.int .i64 x.num,.slice a x.args.length cap]] w fun e w'=>e = .returned (.bool b)∧Ext w w':=h▸iValidNode_any x.op x.name x.num a x.args cap w hs
theorem args_at {r:List Int} {i:Int} {j:Nat} {y:Int} (h:argsB r i=true) (hj:r[j]?=some y):0≤y∧y≤i - 1:=by
 unfold argsB at h;rw [List.all_eq_true] at h;exact inB_iff.1 (h y (List.mem_of_getElem? hj))
theorem Ints.openS {lo hi:Nat} {w:World} {u:Value} {xs:List Int} (h:Ints lo hi w u xs):∃a c,u = .slice a xs.length c∧Ints lo hi w (.slice a xs.length c) xs∧IntsAt lo hi w a c xs:=by
 obtain ⟨a,c,rfl,H⟩:=h.open;exact ⟨a,c,rfl,h,H⟩
theorem NdsAt.atW {lo hi:Nat} {w:World} {a:Option Addr} {cap:Nat} {xs:List Nd} (h:NdsAt lo hi w a cap xs) {k:Nat} (hk:k<xs.length) {wr:World} (hx:Ext w wr) (hh:hi≤w.heap.size) :
  ∃b off op s n sa sc r,a=some ⟨b,off,none⟩∧b<w.heap.size∧b<wr.heap.size∧xs[k]?=some ⟨op,s,n,r⟩∧I64 op∧I64 n∧Ints lo hi w (.slice sa r.length sc) r∧IntsAt lo hi w sa sc r∧wr.cell? ⟨b,off+k*4,none⟩=some (.int .i64 op)∧wr.cell? ⟨b,off+k*4+1,none⟩=some (.string s)∧wr.cell? ⟨b,off+k*4+2,none⟩=some (.int .i64 n)∧wr.cell? ⟨b,off+k*4+3,none⟩=some (.slice sa r.length sc):=by
 obtain ⟨⟨i1,i2⟩,b,off,u,e,h1,h2,c0,c1,c2,c3,hu⟩:=h.cell k xs[k] (by simp [hk]);have hz:=hx.size;obtain ⟨sa,sc,rfl,hI,HI⟩:=hu.openS;refine ⟨b,off,xs[k].op,xs[k].name,xs[k].num,sa,sc,xs[k].args,e,by omega,by omega,by simp [hk],i1,i2,hI,HI,?_,?_,?_,?_⟩
 ·exact (hx.cells.1 b _ (by omega)).trans c0
 ·exact (hx.cells.1 b _ (by omega)).trans c1
 ·exact (hx.cells.1 b _ (by omega)).trans c2
 ·exact (hx.cells.1 b _ (by omega)).trans c3
theorem IntsAt.atE {lo hi:Nat} {w:World} {a:Option Addr} {cap:Nat} {xs:List Int} (h:IntsAt lo hi w a cap xs) {k:Nat} (hk:k<xs.length) {wr:World} (hx:Ext w wr) (hh:hi≤w.heap.size) :
  ∃b off y,a=some ⟨b,off,none⟩∧b<wr.heap.size∧xs[k]?=some y∧I64 y∧wr.cell? ⟨b,off+k,none⟩=some (.int .i64 y):=by
 obtain ⟨b,off,e,h1,h2,c0⟩:=h.at hk;have hz:=hx.size;exact ⟨b,off,xs[k],e,by omega,by simp [hk],h.i64 hk,(hx.cells.1 b _ (by omega)).trans c0⟩
theorem OwnInts.bump {lo b n cap t:Nat} {w:World} {u:List Int} (h:OwnInts lo w (.slice (some ⟨b,0,none⟩) n cap) u) (hl:n=u.length) {q:Nat} (hq:q<n) (hu:UpTo u t) (ht:t≤1000000000) :
  ∃x:Int,0≤x∧x≤1000000000∧b<w.heap.size∧lo≤b∧w.cell? ⟨b,q,none⟩=some (.int .i64 x)∧w.frozen? ⟨b,q,none⟩=false∧OwnInts lo (w.setCell ⟨b,q,none⟩ (.int .i64 (x+1))) (.slice (some ⟨b,0,none⟩) n cap) (bumpU u q):=by
 obtain ⟨h1,h2,h3,h4,h5⟩:=h.upd hl hq;have:=hu q;exact ⟨_,this.1,by omega,h2,h1,h3,h4,h5 _ ⟨by omega,by omega⟩⟩
theorem iIsValidProgram_any (lo hi:Nat) (v:Value) (p:Prg) (w:World) (hv:p.R lo hi w v) (hh:hi≤w.heap.size) (hb:p.bd) (hgl:p.gs.length≤1048576) :
  Calls Tryz.prog 225 #[v] w fun e w'=>e = .returned (.bool p.okB)∧Ext w w':=by
 obtain ⟨i0,hi0,hz0,hz1,hz2⟩:=info_parts info_int;obtain ⟨a1,c1,a2,c2,rfl,HN,HG⟩:=hv.form;have l1:=HN.le;have l2:=HN.cap;have l3:=HG.le;have l4:=HG.cap;have HBD:=hid hb;clear hv hb
 by_cases hlen:p.ns.length≤60
 case neg=>
  have e:p.okB=false:=by unfold Prg.okB;rw [decide_eq_false hlen];simp
  rw [e];clear e;go_enter Tryz.func225,Tryz.ntmps225;go_wp2;go_ret;exact ⟨rfl,X_⟩
 have bB:=Bx.made w #[.slice a1 p.ns.length c1,.slice a2 p.gs.length c2] 132;have x0:Ext w (w.alloc (.cells #[.slice a1 p.ns.length c1,.slice a2 p.gs.length c2] 132)):=X_;go_enter Tryz.func225,Tryz.ntmps225;go_wp2_with (at_make;refine wpList_make_full _ rfl _ _ 25 rfl (w.heap.size+1) 3 i0 (.int .i64 0) 1 Tryz.underlying25 hi0 hz0 hz1 _ _ _ _ p.ns.length rfl rfl rfl rfl (by rw [hz2];omega) (by unfold maxLen;omega) (by simp) ?_);intro w1 hown hgrow;rw [made_ints] at hown;have hs1:=World.size_alloc w (.cells #[.slice a1 p.ns.length c1,.slice a2 p.gs.length c2] 132);have x1:Ext (w.alloc (.cells #[.slice a1 p.ns.length c1,.slice a2 p.gs.length c2] 132)) w1:=(Ext.refl _).grown hgrow (fun k h=>by cases h);have HO:=hid (show OwnInts (w.heap.size+1) w1 (.slice (some ⟨w.heap.size+1,0,none⟩) p.ns.length p.ns.length) (List.replicate p.ns.length 0) from ⟨by simpa using hown,fun x hx=>by rw [(List.mem_replicate.1 hx).2];exact ⟨by decide,by decide⟩⟩);have X1:=hid (x0.trans x1);have bB1':=bB.ext x1;have bB1:=hid bB1';have q:=bB1'.lt;have q0:=bB1'.cell 0;simp only [List.getElem?_toArray,List.getElem?_cons_zero,List.getElem?_cons_succ] at q0;have q1:=bB1'.cell 1;simp only [List.getElem?_toArray,List.getElem?_cons_zero,List.getElem?_cons_succ] at q1;clear bB1';clear hown hgrow hi0 hz0 hz1 hz2 x1 x0 bB hs1;go_wp2
 go_loopw [21] (fun i wr=>∃k:Nat,k≤p.ns.length∧i = .int .i64 k∧(∀j,j<k→p.ndB j=true)∧Ext w wr∧Bx wr w.heap.size #[.slice a1 p.ns.length c1,.slice a2 p.gs.length c2] 132∧OwnInts (w.heap.size+1) wr (.slice (some ⟨w.heap.size+1,0,none⟩) p.ns.length p.ns.length) (usesN (List.replicate p.ns.length 0) (p.ns.take k))∧UpTo (usesN (List.replicate p.ns.length 0) (p.ns.take k)) (3*k)) (fun i _=>p.ns.length - (intOf i).toNat)
 case atStart=>exact ⟨0,by omega,rfl,fun j h=>by omega,X1.out,bB1.out,HO.out,UpTo.zero _⟩
 case round=>
  clear HO X1 bB1 q q0 q1;obtain ⟨k,hk,rfl,hall,hx,hB,hO,hU⟩:=hrel;have HA:=hid hall;have HX:=hid hx;have HB:=hid hB;have HO:=hid hO;have HU:=hid hU
  by_cases hlt:k<p.ns.length
  ·obtain ⟨b,off,op,s,num,sa,sc,ra,rfl,hb1,hbw,hget,io,inn,hI,HI,y0,y1,y2,y3⟩:=HN.atW hlt hx hh
   have HII:=hid (hI.ext hh hx);have li1:=HI.le;have li2:=HI.cap;have HG1:=hid hget;have hsz:=hid (HBD.out.1 _ (List.mem_of_getElem? hget));have zx:=hx.size;have bQ:=Bx.made wr #[.int .i64 op,.string s,.int .i64 num,.slice sa ra.length sc] 243;have q0:Ext wr (wr.alloc (.cells #[.int .i64 op,.string s,.int .i64 num,.slice sa ra.length sc] 243)):=X_;clear hget hall hx hB hO hU hI
   obtain ⟨bn,hbn⟩:∃b,nodeF ⟨op,s,num,ra⟩=b:=⟨_,rfl⟩
   obtain ⟨ba,hba⟩:∃b,argsB ra k=b:=⟨_,rfl⟩
   have HBN:=hid hbn;have HBA:=hid hba;have HND:Hid (p.ndB k=(ba&&bn)):=hid (by rw [Prg.ndB_at HG1.out,hba,hbn]);clear hbn hba;go_wp2_with fail;refine (iValidNode_val HBN.out sa sc _ hsz.out).mono ?_;rintro e w2 ⟨rfl,x2⟩;have X2:=q0.trans x2;have zx2:=X2.size;have bQ2:=bQ.ext x2;have HII2:=hid (HII.out.ext (by omega) X2);have q:=bQ2.lt;have q0:=bQ2.cell 0;simp only [List.getElem?_toArray,List.getElem?_cons_zero,List.getElem?_cons_succ] at q0;have q1:=bQ2.cell 1;simp only [List.getElem?_toArray,List.getElem?_cons_zero,List.getElem?_cons_succ] at q1;have q2:=bQ2.cell 2;simp only [List.getElem?_toArray,List.getElem?_cons_zero,List.getElem?_cons_succ] at q2;have q3:=bQ2.cell 3;simp only [List.getElem?_toArray,List.getElem?_cons_zero,List.getElem?_cons_succ] at q3;clear x2 q0 bQ;have HBQ:=hid bQ2;clear bQ2
   cases bn
   ·go_wp2
    go_ret;refine ⟨ret_bool ?_,HX.out.trans X2⟩;unfold Prg.okB;rw [rng_no hlt (by rw [HND.out];simp)];simp
   go_wp2_with fail;refine (allWithin_val HBA.out _ _ _ _ HII2.out).mono ?_;rintro e w3 ⟨rfl,rfl⟩
   cases ba
   ·go_wp2
    go_ret;refine ⟨ret_bool ?_,HX.out.trans X2⟩;unfold Prg.okB;rw [rng_no hlt (by rw [HND.out];simp)];simp
   have HXX:=hid (HX.out.trans X2);have HB2:=hid (HB.out.ext X2);have HO2:=hid (HO.out.ext X2);have lar:Hid (ra.length≤3):=hid (nodeF_len HBN.out);clear HB HO X2;go_wp2
   go_loopw [40] (fun i wq=>∃j:Nat,j≤ra.length∧i = .int .i64 j∧Ext w wq∧Bx wq w.heap.size #[.slice (some ⟨b,off,none⟩) p.ns.length c1,.slice a2 p.gs.length c2] 132∧OwnInts (w.heap.size+1) wq (.slice (some ⟨w.heap.size+1,0,none⟩) p.ns.length p.ns.length) (bumpL (usesN (List.replicate p.ns.length 0) (p.ns.take k)) (ra.take j))∧UpTo (bumpL (usesN (List.replicate p.ns.length 0) (p.ns.take k)) (ra.take j)) (3*k+j)) (fun i _=>ra.length - (intOf i).toNat)
   case atStart=>exact ⟨0,by omega,rfl,HXX.out,HB2.out,HO2.out,HU.out⟩
   case round=>
    clear HB2 HO2 HXX;obtain ⟨j,hj,rfl,hx,hB,hO,hU⟩:=hrel;have HX:=hid hx;have HB:=hid hB;have HO:=hid hO;have HU:=hid hU
    by_cases hlj:j<ra.length
    ·obtain ⟨b3,off3,y,rfl,hb3,hy,_,hc3⟩:=HI.atE hlj hx hh
     obtain ⟨hy1,hy2⟩:=args_at HBA.out hy
     obtain ⟨q,rfl⟩:∃q:Nat,y=q:=⟨y.toNat,by omega⟩
     have hq:q<p.ns.length:=by omega
     have hjl:=lar.out;obtain ⟨x,hx1,hx2,hx3,hx4,hx5,hx6,hx7⟩:=hO.bump (by rw [bumpL_len,usesN_len,List.length_replicate]) hq hU (by omega);have HY:=hid hy;have HS:=hid hx7;clear hx hB hO hU hy hx7 hjl;go_wp2;go_roundw
     case rel=>
      refine ⟨j+1,by omega,by go_num,?_,?_,?_,?_⟩
      ·have hx:=HX.out
       exact S_
      ·exact HB.out.other (by simp) _
      ·rw [←bumpL_step HY.out,Int.toNat_natCast]
       exact HS.out
      ·rw [←bumpL_step HY.out]
       exact (HU.out.bump _).mono (by omega)
     case measure=>simp [intOf];omega
    ·obtain rfl:j=ra.length:=by omega
     rw [List.take_length] at hO hU;rw [usesN_step HG1.out] at hO hU;have HO:=hid hO;have HU:=hid hU;have hjl:=lar.out;clear hB hO hU hx;go_wp2;go_roundw
     case rel=>
      refine ⟨k+1,by omega,by go_num,fun i hi=>?_,HX.out,HB.out,HO.out,HU.out.mono (by omega)⟩
      by_cases e:i=k
      ·subst e;exact HND.out
      ·exact HA.out i (by omega)
     case measure=>simp [intOf];omega
  ·obtain rfl:k=p.ns.length:=by omega
   rw [List.take_length] at hO hU;have HO:=hid (show OwnInts (w.heap.size+1) wr (.slice (some ⟨w.heap.size+1,0,none⟩) p.ns.length p.ns.length) p.usesA from hO);have HU:=hid (show UpTo p.usesA (3*p.ns.length) from hU);have q:=hB.lt;have q0:=hB.cell 0;simp only [List.getElem?_toArray,List.getElem?_cons_zero,List.getElem?_cons_succ] at q0;have q1:=hB.cell 1;simp only [List.getElem?_toArray,List.getElem?_cons_zero,List.getElem?_cons_succ] at q1;clear hO hU hall hx hB;go_wp2
   go_loopw [55] (fun i wr=>∃k:Nat,k≤p.gs.length∧i = .int .i64 k∧(∀j,j<k→p.agB j=true)∧Ext w wr∧Bx wr w.heap.size #[.slice a1 p.ns.length c1,.slice a2 p.gs.length c2] 132∧OwnInts (w.heap.size+1) wr (.slice (some ⟨w.heap.size+1,0,none⟩) p.ns.length p.ns.length) (usesG p.usesA (p.gs.take k))∧UpTo (usesG p.usesA (p.gs.take k)) (3*p.ns.length+k)) (fun i _=>p.gs.length - (intOf i).toNat)
   case atStart=>exact ⟨0,by omega,rfl,fun j h=>by omega,HX.out,HB.out,HO.out,HU.out⟩
   case round=>
    clear HO HX HB HU q q0 q1;obtain ⟨k,hk,rfl,hall,hx,hB,hO,hU⟩:=hrel;have HA2:=hid hall;have HX:=hid hx;have HB:=hid hB;have HO:=hid hO;have HU:=hid hU
    by_cases hlt:k<p.gs.length
    ·obtain ⟨b,off,s,rt,rfl,hb1,hbw,hdrop,hget,ir,y0,y1⟩:=HG.at hlt hx hh
     have HG1:=hid hget;have hsz:=hid (HBD.out.2 _ (List.mem_of_getElem? hget));have zx:=hx.size;have bQ:=Bx.made wr #[.string s,.int .i64 rt] 194;have q0:Ext wr (wr.alloc (.cells #[.string s,.int .i64 rt] 194)):=X_;clear hdrop hget hall hx hB hO hU
     obtain ⟨bn,hbn⟩:∃b,identB s=b:=⟨_,rfl⟩
     obtain ⟨ba,hba⟩:∃b,inB rt 0 ((p.ns.length:Int) - 1)=b:=⟨_,rfl⟩
     have HBN:=hid hbn;have HBA:=hid hba;have HND:Hid (p.agB k=(bn&&ba)):=hid (by rw [Prg.agB_at HG1.out,hba,hbn]);clear hbn hba;go_wp2_with fail;refine (iIsIdentifier_val HBN.out _ hsz.out).mono ?_;rintro e w2 ⟨rfl,x2⟩;have X2:=q0.trans x2;have zx2:=X2.size;have bQ2:=bQ.ext x2;have HBw:=hid (HB.out.ext X2);have HBw':=HBw.out;have q:=bQ2.lt;have q0:=bQ2.cell 0;simp only [List.getElem?_toArray,List.getElem?_cons_zero,List.getElem?_cons_succ] at q0;have q1:=bQ2.cell 1;simp only [List.getElem?_toArray,List.getElem?_cons_zero,List.getElem?_cons_succ] at q1;have d:=HBw'.lt;have d0:=HBw'.cell 0;simp only [List.getElem?_toArray,List.getElem?_cons_zero,List.getElem?_cons_succ] at d0;have d1:=HBw'.cell 1;simp only [List.getElem?_toArray,List.getElem?_cons_zero,List.getElem?_cons_succ] at d1;have HBQ:=hid bQ2;clear x2 q0 bQ bQ2 HBw'
     cases bn
     ·go_wp2
      go_ret;refine ⟨ret_bool ?_,HX.out.trans X2⟩;unfold Prg.okB;rw [rng_no (p:=p.agB) hlt (by rw [HND.out];simp)];simp
     go_wp2_with fail;refine (within_val HBA.out _).mono ?_;rintro e w3 ⟨rfl,rfl⟩
     cases ba
     ·go_wp2
      go_ret;refine ⟨ret_bool ?_,HX.out.trans X2⟩;unfold Prg.okB;rw [rng_no (p:=p.agB) hlt (by rw [HND.out];simp)];simp
     have hO:=HO.out.ext X2;have hba:=inB_iff.1 HBA.out
     obtain ⟨r,rfl⟩:∃r:Nat,rt=r:=⟨rt.toNat,by omega⟩
     have hr:r<p.ns.length:=by omega
     obtain ⟨x,hx1,hx2,hx3,hx4,hx5,hx6,hx7⟩:=hO.bump (by rw [usesG_len,Prg.usesA_len]) hr HU.out (by omega);have HS:=hid hx7;have HXX:=hid (HX.out.trans X2);clear hO HO HX hx7 hba;go_wp2;go_roundw
     case rel=>
      refine ⟨k+1,by omega,by go_num,fun i hi=>?_,?_,?_,?_,?_⟩
      ·by_cases e:i=k
       ·subst e;exact HND.out
       ·exact HA2.out i (by omega)
      ·have hx:=HXX.out
       exact S_
      ·exact HBw.out.other (by simp) _
      ·rw [←usesG_step HG1.out,Int.toNat_natCast]
       exact HS.out
      ·rw [←usesG_step HG1.out]
       exact (HU.out.bump _).mono (by omega)
     case measure=>simp [intOf];omega
    ·obtain rfl:k=p.gs.length:=by omega
     rw [List.take_length] at hO;have HO:=hid (show OwnInts (w.heap.size+1) wr (.slice (some ⟨w.heap.size+1,0,none⟩) p.ns.length p.ns.length) p.uses from hO)
     have hul:p.uses.length=p.ns.length:=by unfold Prg.uses;rw [usesG_len,Prg.usesA_len]
     have hok:p.okB=p.uses.all (· == 1):=by
      unfold Prg.okB;rw [rng_all HA.out,rng_all HA2.out,decide_eq_true hlen];simp
     have hI:=HO.out.ints;have HOK:=hid hok;clear hO hU hall hx hB HO hok;have HI:=hid hI;clear hI;go_wp2_with fail;refine (containsOnce_val _ _ _ p.uses _ rfl HI.out).mono ?_;rintro e w3 ⟨rfl,rfl⟩;go_wp2;go_ret;exact ⟨ret_bool (by rw [HOK.out]),HX.out⟩
theorem sNode_val {op num i:Int} {s:ByteArray} {r:List Int} {b:Bool} (h:(argsB r i&&nodeF ⟨op,s,num,r⟩)=b) (lo hi:Nat) (u:Value) (w:World) (hu:Ints lo hi w u r) (hh:hi≤w.heap.size) (hs:s.size≤maxLen) (hi1:0≤i) (hi2:i≤10000000) :
  Calls Tryz.prog 238 #[.agg #[.int .i64 op,.string s,.int .i64 num,u],.int .i64 i] w fun e w'=>e = .returned (.bool b)∧Ext w w':=h▸sNode_any lo hi op s num u r i w hu hh hs hi1 hi2
theorem sUses_any (lo hi:Nat) (v:Value) (p:Prg) (w:World) (hv:p.R lo hi w v) (hh:hi≤w.heap.size) (hnl:p.ns.length≤1048576) (hgl:p.gs.length≤1048576) (hnd:∀k,k<p.ns.length→p.ndB k=true) (hag:∀k,k<p.gs.length→p.agB k=true) :
  Calls Tryz.prog 240 #[v] w fun e w'=>∃a c,e = .returned (.slice a p.ns.length c)∧OwnInts w.heap.size w' (.slice a p.ns.length c) p.uses∧Ext w w':=by
 obtain ⟨i0,hi0,hz0,hz1,hz2⟩:=info_parts info_int;obtain ⟨a1,c1,a2,c2,rfl,HN,HG⟩:=hv.form;have l1:=HN.le;have l2:=HN.cap;have l3:=HG.le;have l4:=HG.cap;have HND:=hid hnd;have HAG:=hid hag;clear hv hnd hag;have bB:=Bx.made w #[.slice a1 p.ns.length c1,.slice a2 p.gs.length c2] 132;have x0:Ext w (w.alloc (.cells #[.slice a1 p.ns.length c1,.slice a2 p.gs.length c2] 132)):=X_;go_enter Tryz.func240,Tryz.ntmps240;go_wp2_with (at_make;refine wpList_make_full _ rfl _ _ 25 rfl (w.heap.size+1) 3 i0 (.int .i64 0) 1 Tryz.underlying25 hi0 hz0 hz1 _ _ _ _ p.ns.length rfl rfl rfl rfl (by rw [hz2];omega) (by unfold maxLen;omega) (by simp) ?_);intro w1 hown hgrow;rw [made_ints] at hown;have hs1:=World.size_alloc w (.cells #[.slice a1 p.ns.length c1,.slice a2 p.gs.length c2] 132);have x1:Ext (w.alloc (.cells #[.slice a1 p.ns.length c1,.slice a2 p.gs.length c2] 132)) w1:=(Ext.refl _).grown hgrow (fun k h=>by cases h);have HO:=hid (show OwnInts (w.heap.size+1) w1 (.slice (some ⟨w.heap.size+1,0,none⟩) p.ns.length p.ns.length) (List.replicate p.ns.length 0) from ⟨by simpa using hown,fun x hx=>by rw [(List.mem_replicate.1 hx).2];exact ⟨by decide,by decide⟩⟩);have X1:=hid (x0.trans x1);have bB1':=bB.ext x1;have bB1:=hid bB1';have q:=bB1'.lt;have q0:=bB1'.cell 0;simp only [List.getElem?_toArray,List.getElem?_cons_zero,List.getElem?_cons_succ] at q0;have q1:=bB1'.cell 1;simp only [List.getElem?_toArray,List.getElem?_cons_zero,List.getElem?_cons_succ] at q1;clear bB1';clear hown hgrow hi0 hz0 hz1 hz2 x1 x0 bB hs1;go_wp2
 go_loopw [17] (fun i wr=>∃k:Nat,k≤p.ns.length∧i = .int .i64 k∧Ext w wr∧Bx wr w.heap.size #[.slice a1 p.ns.length c1,.slice a2 p.gs.length c2] 132∧OwnInts (w.heap.size+1) wr (.slice (some ⟨w.heap.size+1,0,none⟩) p.ns.length p.ns.length) (usesN (List.replicate p.ns.length 0) (p.ns.take k))∧UpTo (usesN (List.replicate p.ns.length 0) (p.ns.take k)) (3*k)) (fun i _=>p.ns.length - (intOf i).toNat)
 case atStart=>exact ⟨0,by omega,rfl,X1.out,bB1.out,HO.out,UpTo.zero _⟩
 case round=>
  clear HO X1 bB1 q q0 q1;obtain ⟨k,hk,rfl,hx,hB,hO,hU⟩:=hrel;have HX:=hid hx;have HB:=hid hB;have HO:=hid hO;have HU:=hid hU
  by_cases hlt:k<p.ns.length
  ·obtain ⟨b,off,op,s,num,sa,sc,ra,rfl,hb1,hbw,hget,io,inn,hI,HI,y0,y1,y2,y3⟩:=HN.atW hlt hx hh
   have li1:=HI.le;have li2:=HI.cap;have HG1:=hid hget;have hb9:=HND.out k hlt;rw [Prg.ndB_at hget,Bool.and_eq_true] at hb9;have HBA:=hid hb9.1;have lar:Hid (ra.length≤3):=hid (nodeF_len hb9.2);have q0:Ext wr (wr.alloc (.cells #[.int .i64 op,.string s,.int .i64 num,.slice sa ra.length sc] 243)):=X_;have HXX:=hid (hx.trans q0);have HB2:=hid (hB.ext q0);have HO2:=hid (hO.ext q0);clear hget hx hB hO hU hI q0 hb9 HB HO HX;go_wp2
   go_loopw [24] (fun i wq=>∃j:Nat,j≤ra.length∧i = .int .i64 j∧Ext w wq∧Bx wq w.heap.size #[.slice (some ⟨b,off,none⟩) p.ns.length c1,.slice a2 p.gs.length c2] 132∧OwnInts (w.heap.size+1) wq (.slice (some ⟨w.heap.size+1,0,none⟩) p.ns.length p.ns.length) (bumpL (usesN (List.replicate p.ns.length 0) (p.ns.take k)) (ra.take j))∧UpTo (bumpL (usesN (List.replicate p.ns.length 0) (p.ns.take k)) (ra.take j)) (3*k+j)) (fun i _=>ra.length - (intOf i).toNat)
   case atStart=>exact ⟨0,by omega,rfl,HXX.out,HB2.out,HO2.out,HU.out⟩
   case round=>
    clear HB2 HO2 HXX;obtain ⟨j,hj,rfl,hx,hB,hO,hU⟩:=hrel;have HX:=hid hx;have HB:=hid hB;have HO:=hid hO;have HU:=hid hU
    by_cases hlj:j<ra.length
    ·obtain ⟨b3,off3,y,rfl,hb3,hy,_,hc3⟩:=HI.atE hlj hx hh
     obtain ⟨hy1,hy2⟩:=args_at HBA.out hy
     obtain ⟨q,rfl⟩:∃q:Nat,y=q:=⟨y.toNat,by omega⟩
     have hq:q<p.ns.length:=by omega
     have hjl:=lar.out;obtain ⟨x,hx1,hx2,hx3,hx4,hx5,hx6,hx7⟩:=hO.bump (by rw [bumpL_len,usesN_len,List.length_replicate]) hq hU (by omega);have HY:=hid hy;have HS:=hid hx7;clear hx hB hO hU hy hx7 hjl;go_wp2;go_roundw
     case rel=>
      refine ⟨j+1,by omega,by go_num,?_,?_,?_,?_⟩
      ·have hx:=HX.out
       exact S_
      ·exact HB.out.other (by simp) _
      ·rw [←bumpL_step HY.out,Int.toNat_natCast]
       exact HS.out
      ·rw [←bumpL_step HY.out]
       exact (HU.out.bump _).mono (by omega)
     case measure=>simp [intOf];omega
    ·obtain rfl:j=ra.length:=by omega
     rw [List.take_length] at hO hU;rw [usesN_step HG1.out] at hO hU;have HO:=hid hO;have HU:=hid hU;have hjl:=lar.out;clear hB hO hU hx;go_wp2;go_roundw
     case rel=>exact ⟨k+1,by omega,by go_num,HX.out,HB.out,HO.out,HU.out.mono (by omega)⟩
     case measure=>simp [intOf];omega
  ·obtain rfl:k=p.ns.length:=by omega
   rw [List.take_length] at hO hU;have HO:=hid (show OwnInts (w.heap.size+1) wr (.slice (some ⟨w.heap.size+1,0,none⟩) p.ns.length p.ns.length) p.usesA from hO);have HU:=hid (show UpTo p.usesA (3*p.ns.length) from hU);have q:=hB.lt;have q0:=hB.cell 0;simp only [List.getElem?_toArray,List.getElem?_cons_zero,List.getElem?_cons_succ] at q0;have q1:=hB.cell 1;simp only [List.getElem?_toArray,List.getElem?_cons_zero,List.getElem?_cons_succ] at q1;clear hO hU hx hB;go_wp2
   go_loopw [39] (fun i wr=>∃k:Nat,k≤p.gs.length∧i = .int .i64 k∧Ext w wr∧OwnInts (w.heap.size+1) wr (.slice (some ⟨w.heap.size+1,0,none⟩) p.ns.length p.ns.length) (usesG p.usesA (p.gs.take k))∧UpTo (usesG p.usesA (p.gs.take k)) (3*p.ns.length+k)) (fun i _=>p.gs.length - (intOf i).toNat)
   case atStart=>exact ⟨0,by omega,rfl,HX.out,HO.out,HU.out⟩
   case round=>
    clear HO HX HB HU q q0 q1;obtain ⟨k,hk,rfl,hx,hO,hU⟩:=hrel;have HX:=hid hx;have HO:=hid hO;have HU:=hid hU
    by_cases hlt:k<p.gs.length
    ·obtain ⟨b,off,s,rt,rfl,hb1,hbw,hdrop,hget,ir,y0,y1⟩:=HG.at hlt hx hh
     have HG1:=hid hget;have hb9:=HAG.out k hlt;rw [Prg.agB_at hget,Bool.and_eq_true] at hb9;have hba:0≤rt∧rt≤(p.ns.length:Int) - 1:=inB_iff.1 hb9.2;have q0:Ext wr (wr.alloc (.cells #[.string s,.int .i64 rt] 194)):=X_;have hO2:=hO.ext q0;have HXX:=hid (hx.trans q0);have zx:=q0.size
     obtain ⟨r,rfl⟩:∃r:Nat,rt=r:=⟨rt.toNat,by omega⟩
     have hr:r<p.ns.length:=by omega
     obtain ⟨x,hx1,hx2,hx3,hx4,hx5,hx6,hx7⟩:=hO2.bump (by rw [usesG_len,Prg.usesA_len]) hr HU.out (by omega);have HS:=hid hx7
     have hx3':w.heap.size<wr.heap.size:=by have:=hO.lt _ rfl;omega
     clear hO hO2 HO HX hx7 hba hb9 hdrop hget hx hU q0;go_wp2;go_roundw
     case rel=>
      refine ⟨k+1,by omega,by go_num,?_,?_,?_⟩
      ·have hx:=HXX.out
       exact S_
      ·rw [←usesG_step HG1.out,Int.toNat_natCast]
       exact HS.out
      ·rw [←usesG_step HG1.out]
       exact (HU.out.bump _).mono (by omega)
     case measure=>simp [intOf];omega
    ·obtain rfl:k=p.gs.length:=by omega
     rw [List.take_length] at hO;have HO:=hid (show OwnInts (w.heap.size+1) wr (.slice (some ⟨w.heap.size+1,0,none⟩) p.ns.length p.ns.length) p.uses from hO);clear hO hU hx;go_wp2;go_ret;exact ⟨_,_,rfl,HO.out.low (by omega),HX.out⟩
theorem sIsValidProgram_any (lo hi:Nat) (v:Value) (p:Prg) (w:World) (hv:p.R lo hi w v) (hh:hi≤w.heap.size) (hb:p.bd) (hnl:p.ns.length≤1048576) (hgl:p.gs.length≤1048576) :
  Calls Tryz.prog 179 #[v] w fun e w'=>e = .returned (.bool p.okB)∧Ext w w':=by
 have HV:=hid hv;obtain ⟨a1,c1,a2,c2,rfl,HN,HG⟩:=hv.form;have l1:=HN.le;have l2:=HN.cap;have l3:=HG.le;have l4:=HG.cap;have HBD:=hid hb;clear hv hb;have bB:=hid (Bx.made w #[.slice a1 p.ns.length c1,.slice a2 p.gs.length c2] 132);have X1:=hid (show Ext w (w.alloc (.cells #[.slice a1 p.ns.length c1,.slice a2 p.gs.length c2] 132)) from X_);go_enter Tryz.func179,Tryz.ntmps179;go_wp2
 go_loopw [12] (fun i wr=>∃k:Nat,k≤p.ns.length∧i = .int .i64 k∧(∀j,j<k→p.ndB j=true)∧Ext w wr∧Bx wr w.heap.size #[.slice a1 p.ns.length c1,.slice a2 p.gs.length c2] 132) (fun i _=>p.ns.length - (intOf i).toNat)
 case atStart=>exact ⟨0,by omega,rfl,fun j h=>by omega,X1.out,bB.out⟩
 case round=>
  clear X1 bB;obtain ⟨k,hk,rfl,hall,hx,hB⟩:=hrel;have HA:=hid hall;have HX:=hid hx;have HB:=hid hB
  by_cases hlt:k<p.ns.length
  ·obtain ⟨b,off,op,s,num,sa,sc,ra,rfl,hb1,hbw,hget,io,inn,hI,HI,y0,y1,y2,y3⟩:=HN.atW hlt hx hh
   have HII:=hid (hI.ext hh hx);have li1:=HI.le;have li2:=HI.cap;have HG1:=hid hget;have hsz:=hid (HBD.out.1 _ (List.mem_of_getElem? hget));have zx:=hx.size;have q0:Ext wr (wr.alloc (.cells #[.int .i64 op,.string s,.int .i64 num,.slice sa ra.length sc] 243)):=X_;clear hget hall hx hB hI HI
   obtain ⟨bn,hbn⟩:∃b,(argsB ra k&&nodeF ⟨op,s,num,ra⟩)=b:=⟨_,rfl⟩
   have HBN:=hid hbn;have HND:Hid (p.ndB k=bn):=hid (by rw [Prg.ndB_at HG1.out,hbn]);clear hbn;go_wp2_with fail;refine (sNode_val HBN.out lo hi _ _ (HII.out.ext (by omega) q0) (by simp;omega) hsz.out (by omega) (by omega)).mono ?_;rintro e w2 ⟨rfl,x2⟩;have X2:=q0.trans x2;clear q0 x2
   cases bn
   ·go_wp2
    go_ret;refine ⟨ret_bool ?_,HX.out.trans X2⟩;unfold Prg.okB;rw [rng_no hlt HND.out];simp
   ·have HB2:=hid (HB.out.ext X2)
    go_wp2;go_roundw
    case rel=>
     refine ⟨k+1,by omega,by go_num,fun i hi=>?_,HX.out.trans X2,HB2.out⟩
     by_cases e:i=k
     ·subst e;exact HND.out
     ·exact HA.out i (by omega)
    case measure=>simp [intOf];omega
  ·obtain rfl:k=p.ns.length:=by omega
   have q:=hB.lt;have q0:=hB.cell 0;simp only [List.getElem?_toArray,List.getElem?_cons_zero,List.getElem?_cons_succ] at q0;have q1:=hB.cell 1;simp only [List.getElem?_toArray,List.getElem?_cons_zero,List.getElem?_cons_succ] at q1;clear hall hx hB;go_wp2
   go_loopw [25] (fun i wr=>∃k:Nat,k≤p.gs.length∧i = .int .i64 k∧(∀j,j<k→p.agB j=true)∧Ext w wr∧Bx wr w.heap.size #[.slice a1 p.ns.length c1,.slice a2 p.gs.length c2] 132) (fun i _=>p.gs.length - (intOf i).toNat)
   case atStart=>exact ⟨0,by omega,rfl,fun j h=>by omega,HX.out,HB.out⟩
   case round=>
    clear HX HB q q0 q1;obtain ⟨k,hk,rfl,hall,hx,hB⟩:=hrel;have HA2:=hid hall;have HX:=hid hx;have HB:=hid hB
    by_cases hlt:k<p.gs.length
    ·obtain ⟨b,off,s,rt,rfl,hb1,hbw,hdrop,hget,ir,y0,y1⟩:=HG.at hlt hx hh
     have HG1:=hid hget;have hsz:=hid (HBD.out.2 _ (List.mem_of_getElem? hget));have zx:=hx.size;have bQ:=Bx.made wr #[.string s,.int .i64 rt] 194;have q0:Ext wr (wr.alloc (.cells #[.string s,.int .i64 rt] 194)):=X_;have HBw:=hid (hB.ext q0);have hBw:=HBw.out;have d:=hBw.lt;have d0:=hBw.cell 0;simp only [List.getElem?_toArray,List.getElem?_cons_zero,List.getElem?_cons_succ] at d0;have d1:=hBw.cell 1;simp only [List.getElem?_toArray,List.getElem?_cons_zero,List.getElem?_cons_succ] at d1;clear hdrop hget hall hx hB hBw
     obtain ⟨bn,hbn⟩:∃b,identB s=b:=⟨_,rfl⟩
     obtain ⟨ba,hba⟩:∃b,inB rt 0 ((p.ns.length:Int) - 1)=b:=⟨_,rfl⟩
     have HBN:=hid hbn;have HBA:=hid hba;have HND:Hid (p.agB k=(bn&&ba)):=hid (by rw [Prg.agB_at HG1.out,hba,hbn]);clear hbn hba;go_wp2_with fail;refine (sIsIdentifier_val HBN.out _ hsz.out).mono ?_;rintro e w2 ⟨rfl,rfl⟩
     cases bn
     ·go_wp2
      go_ret;refine ⟨ret_bool ?_,HX.out.trans q0⟩;unfold Prg.okB;rw [rng_no (p:=p.agB) hlt (by rw [HND.out];simp)];simp
     go_wp2_with fail;refine (l01In_val HBA.out _).mono ?_;rintro e w3 ⟨rfl,rfl⟩
     cases ba
     ·go_wp2
      go_ret;refine ⟨ret_bool ?_,HX.out.trans q0⟩;unfold Prg.okB;rw [rng_no (p:=p.agB) hlt (by rw [HND.out];simp)];simp
     go_wp2;go_roundw
     case rel=>
      refine ⟨k+1,by omega,by go_num,fun i hi=>?_,HX.out.trans q0,HBw.out⟩
      by_cases e:i=k
      ·subst e;exact HND.out
      ·exact HA2.out i (by omega)
     case measure=>simp [intOf];omega
    ·obtain rfl:k=p.gs.length:=by omega
     have zx:=hx.size;have HUL:Hid (p.uses.length=p.ns.length):=hid (by unfold Prg.uses;rw [usesG_len,Prg.usesA_len])
     have HOK:Hid (p.okB=(p.uses.all (· == 1)&&decide (p.ns.length≤60))):=hid (by
      unfold Prg.okB;rw [rng_all HA.out,rng_all HA2.out]
      simp [Bool.and_comm])
     have q:=hB.lt;have q0:=hB.cell 0;simp only [List.getElem?_toArray,List.getElem?_cons_zero,List.getElem?_cons_succ] at q0;have q1:=hB.cell 1;simp only [List.getElem?_toArray,List.getElem?_cons_zero,List.getElem?_cons_succ] at q1;have hv:=HV.out.ext hh hx;have HV2:=hid hv;clear hall hx hB hv;go_wp2_with fail;refine (sUses_any lo hi _ p _ HV2.out (by omega) hnl hgl HA.out HA2.out).mono ?_;rintro e w3 ⟨ua,uc,rfl,hO,x3⟩;have hI:=hO.ints;have e0:=HUL.out;obtain ⟨ua',uc',e1,HU⟩:=hI.open;rw [e0] at e1;simp only [Value.slice.injEq,true_and] at e1;obtain ⟨rfl,rfl⟩:=e1;have lu1:=HU.le;have lu2:=HU.cap;have HX3:=hid (HX.out.trans x3);have HB3:=hid (HB.out.ext x3);clear hO hI x3;go_wp2
     go_loopw [47] (fun i wq=>∃k:Nat,k≤p.ns.length∧i = .int .i64 k∧wq=w3∧(p.uses.take k).all (· == 1)=true) (fun i _=>p.ns.length - (intOf i).toNat)
     case atStart=>exact ⟨0,by omega,rfl,rfl,rfl⟩
     case round=>
      obtain ⟨k,hk,rfl,rfl,hall⟩:=hrel;have HA3:=hid hall;clear hall
      by_cases hlt:k<p.uses.length
      ·obtain ⟨b,off,rfl,hb1,hb2,hc⟩:=HU.at hlt
       by_cases h1:p.uses[k]=1
       ·rw [h1] at hc
        have H1:=hid h1;clear h1;go_wp2;go_roundw
        case rel=>exact ⟨k+1,by omega,by go_num,by trivial,all_step hlt HA3.out (by simp [H1.out])⟩
        case measure=>simp [intOf];omega
       ·obtain ⟨y,hy⟩:∃y,p.uses[k]=y:=⟨_,rfl⟩
        have H1:=hid (all_one_no hlt h1);rw [hy] at hc h1;have h2:(y==1)=false:=beq_eq_false_iff_ne.2 h1;clear hy;go_wp2;go_ret;exact ⟨ret_bool (by rw [HOK.out,H1.out];rfl),HX3.out⟩
      ·have hA:=HA3.out
       rw [List.take_of_length_le (by omega)] at hA;have HA4:=hid hA;have hB:=HB3.out;have q:=hB.lt;have q0:=hB.cell 0;simp only [List.getElem?_toArray,List.getElem?_cons_zero,List.getElem?_cons_succ] at q0;have q1:=hB.cell 1;simp only [List.getElem?_toArray,List.getElem?_cons_zero,List.getElem?_cons_succ] at q1;clear hA hB;go_wp2;go_ret;exact ⟨ret_bool (by rw [HOK.out,HA4.out];simp;omega),HX3.out⟩
inductive Sub (p:Prg) (r:Nat):Nat→Prop
 | refl:Sub p r r
 | arg {i j:Nat} {x:Nd}:Sub p r i→p.ns[i]?=some x→(j:Int)∈x.args→Sub p r j
def Own (p:Prg) (j k:Nat):Prop:=∃(s:ByteArray) (r:Nat),p.gs[k]?=some ⟨s,r⟩∧Sub p r j
theorem Sub.trans {p:Prg} {r i j:Nat} (h:Sub p r i) (k:Sub p i j):Sub p r j:=by
 induction k with
 | refl=>exact h
 | arg _ h2 h3 ih=>exact ih.arg h2 h3
def cntL (j:Nat) (es:List Int):Nat:=es.countP fun a=>a.toNat==j
def cntN (j:Nat) (xs:List Nd):Nat:=(xs.map fun x=>cntL j x.args).sum
def cntG (j:Nat) (gs:List Asg):Nat:=(gs.map fun a=>if a.root.toNat=j then 1 else 0).sum
theorem bumpU_at (u:List Int) (i j:Nat) (hi:i<u.length):(bumpU u i).getD j 0=u.getD j 0+(if i=j then 1 else 0):=by
 unfold bumpU;rw [List.getD_eq_getElem?_getD,List.getElem?_set]
 by_cases e:i=j
 ·subst e;simp [hi]
 ·simp [e]
theorem bumpL_at (j:Nat):∀(es:List Int) (u:List Int),(∀a∈es,a.toNat<u.length)→(bumpL u es).getD j 0=u.getD j 0+cntL j es:=by
 intro es
 induction es with
 | nil=>intro u _;simp [bumpL,cntL]
 | cons a r ih=>
  intro u h;have h1:bumpL u (a::r)=bumpL (bumpU u a.toNat) r:=rfl;rw [h1,ih _ (fun b hb=>by rw [bumpU_len];exact h b (by simp [hb])),bumpU_at _ _ _ (h a (by simp))];unfold cntL;rw [List.countP_cons]
  by_cases e:a.toNat=j <;> simp [e] <;> omega
theorem usesN_at (j:Nat):∀(xs:List Nd) (u:List Int),(∀x∈xs,∀a∈x.args,a.toNat<u.length)→(usesN u xs).getD j 0=u.getD j 0+cntN j xs:=by
 intro xs
 induction xs with
 | nil=>intro u _;simp [usesN,cntN]
 | cons x r ih=>
  intro u h;have h1:usesN u (x::r)=usesN (bumpL u x.args) r:=rfl;rw [h1,ih _ (fun y hy b hb=>by rw [bumpL_len];exact h y (by simp [hy]) b hb),bumpL_at _ _ _ (h x (by simp))];simp [cntN];omega
theorem usesG_at (j:Nat):∀(gs:List Asg) (u:List Int),(∀a∈gs,a.root.toNat<u.length)→(usesG u gs).getD j 0=u.getD j 0+cntG j gs:=by
 intro gs
 induction gs with
 | nil=>intro u _;simp [usesG,cntG]
 | cons x r ih=>
  intro u h;have h1:usesG u (x::r)=usesG (bumpU u x.root.toNat) r:=rfl;rw [h1,ih _ (fun y hy=>by rw [bumpU_len];exact h y (by simp [hy])),bumpU_at _ _ _ (h x (by simp))]
  by_cases e:x.root.toNat=j <;> simp [cntG,e] <;> omega
theorem sum_one {L:List Nat} {i a:Nat} (h:L[i]?=some a):a≤L.sum:=by
 induction L generalizing i with
 | nil=>simp at h
 | cons x r ih=>
  cases i with
  | zero=>simp at h;simp;omega
  | succ i=>have:=ih (by simpa using h);simp;omega
theorem sum_two {L:List Nat} {i i' a b:Nat} (h:L[i]?=some a) (h':L[i']?=some b) (hne:i≠i'):a+b≤L.sum:=by
 induction L generalizing i i' with
 | nil=>simp at h
 | cons x r ih=>
  cases i with
  | zero=>
   cases i' with
   | zero=>omega
   | succ i'=>have:=sum_one (L:=r) (by simpa using h');simp at h;simp;omega
  | succ i=>
   cases i' with
   | zero=>have:=sum_one (L:=r) (by simpa using h);simp at h';simp;omega
   | succ i'=>have:=ih (i:=i) (i':=i') (by simpa using h) (by simpa using h') (by omega);simp;omega
theorem sum_pos {L:List Nat} (h:0<L.sum):∃(i a:Nat),L[i]?=some a∧0<a:=by
 induction L with
 | nil=>simp at h
 | cons x r ih=>
  by_cases e:0<x
  ·exact ⟨0,x,rfl,e⟩
  ·obtain ⟨i,a,h1,h2⟩:=ih (by simp at h;omega)
   exact ⟨i+1,a,by simpa using h1,h2⟩
theorem cntL_pos {j:Nat} {es:List Int} (h0:∀a∈es,0≤a):0<cntL j es↔(j:Int)∈es:=by
 unfold cntL;rw [List.countP_pos_iff]
 constructor
 ·rintro ⟨a,ha,e⟩
  have:=h0 a ha;simp at e
  have:a=j:=by omega
  exact this▸ha
 ·intro h
  exact ⟨j,h,by simp⟩
structure Prg.V (p:Prg):Prop where
 len:p.ns.length≤60
 nd:∀(k:Nat) (x:Nd),p.ns[k]?=some x→nodeF x=true∧∀a∈x.args,0≤a∧a≤(k:Int) - 1
 ag:∀(k:Nat) (x:Asg),p.gs[k]?=some x→identB x.name=true∧0≤x.root∧x.root≤(p.ns.length:Int) - 1
 one:∀j,j<p.ns.length→cntN j p.ns+cntG j p.gs=1
theorem Prg.okB_V {p:Prg} (h:p.okB=true):p.V:=by
 unfold Prg.okB at h;simp only [Bool.and_eq_true,decide_eq_true_eq] at h;obtain ⟨⟨⟨h1,h2⟩,h3⟩,h4⟩:=h;rw [List.all_eq_true] at h2 h3 h4
 have hn:∀(k:Nat) (x:Nd),p.ns[k]?=some x→nodeF x=true∧∀a∈x.args,0≤a∧a≤(k:Int) - 1:=by
  intro k x hx;have:=h2 k (List.mem_range.2 (List.getElem?_eq_some_iff.1 hx).1);rw [Prg.ndB_at hx,Bool.and_eq_true] at this;refine ⟨this.2,fun a ha=>?_⟩;have h5:=this.1;unfold argsB at h5;rw [List.all_eq_true] at h5;exact inB_iff.1 (h5 a ha)
 have hg:∀(k:Nat) (x:Asg),p.gs[k]?=some x→identB x.name=true∧0≤x.root∧x.root≤(p.ns.length:Int) - 1:=by
  intro k x hx;have:=h3 k (List.mem_range.2 (List.getElem?_eq_some_iff.1 hx).1);rw [Prg.agB_at hx,Bool.and_eq_true] at this;exact ⟨this.1,inB_iff.1 this.2⟩
 refine ⟨h1,hn,hg,fun j hj=>?_⟩
 have hul:p.uses.length=p.ns.length:=by unfold Prg.uses;rw [usesG_len,Prg.usesA_len]
 have hu:p.uses.getD j 0=1:=by
  have hm:p.uses[j]?=some (p.uses[j]'(by omega)):=by simp [hul,hj]
  rw [List.getD_eq_getElem?_getD,hm];have:=h4 _ (List.getElem_mem (show j<p.uses.length by omega))
  simpa using this
 unfold Prg.uses at hu;rw [usesG_at,Prg.usesA,usesN_at] at hu
 ·have:(List.replicate p.ns.length (0:Int)).getD j 0=0:=by
   rw [List.getD_eq_getElem?_getD,List.getElem?_replicate,if_pos hj];rfl
  rw [this] at hu;omega
 ·intro x hx a ha
  obtain ⟨k,hk,rfl⟩:=List.getElem_of_mem hx;have:=(hn k _ (by simp [hk])).2 a ha;simp;omega
 ·intro a ha
  rw [Prg.usesA_len];obtain ⟨k,hk,rfl⟩:=List.getElem_of_mem ha;have:=(hg k p.gs[k] (by simp [hk])).2;omega
theorem Prg.V.arg_lt {p:Prg} (h:p.V) {k j:Nat} {x:Nd} (hx:p.ns[k]?=some x) (hj:(j:Int)∈x.args):j<k:=by
 have:=((h.nd k x hx).2 _ hj).2;omega
theorem Prg.V.cnt {p:Prg} (h:p.V) {k j:Nat} {x:Nd} (hx:p.ns[k]?=some x):(p.ns.map fun x=>cntL j x.args)[k]?=some (cntL j x.args)∧((j:Int)∈x.args→0<cntL j x.args):=
 ⟨by simp [hx],fun hj=>(cntL_pos (fun a ha=>((h.nd k x hx).2 a ha).1)).2 hj⟩
theorem cntG_one {gs:List Asg} {k r:Nat} {s:ByteArray} (hk:gs[k]?=some ⟨s,r⟩):(gs.map fun a=>if a.root.toNat=r then 1 else 0)[k]?=some 1:=by simp [hk]
theorem Own.up {p:Prg} {j k:Nat} (h:Own p j k):(∃s:ByteArray,p.gs[k]?=some ⟨s,(j:Nat)⟩)∨∃(i:Nat) (x:Nd),p.ns[i]?=some x∧(j:Int)∈x.args∧Own p i k:=by
 obtain ⟨s,r,h1,h2⟩:=h
 cases h2 with
 | refl=>exact .inl ⟨s,h1⟩
 | arg h3 h4 h5=>exact .inr ⟨_,_,h4,h5,s,r,h1,h3⟩
theorem Own.down {p:Prg} {i j k:Nat} {x:Nd} (h:Own p i k) (hx:p.ns[i]?=some x) (hj:(j:Int)∈x.args):Own p j k:=by
 obtain ⟨s,r,h1,h2⟩:=h;exact ⟨s,r,h1,h2.arg hx hj⟩
theorem Own.root {p:Prg} {k r:Nat} {s:ByteArray} (h:p.gs[k]?=some ⟨s,r⟩):Own p r k:=⟨s,r,h,.refl⟩
theorem Own.lt {p:Prg} (hv:p.V) {j k:Nat} (h:Own p j k):j<p.ns.length∧k<p.gs.length:=by
 obtain ⟨s,r,h1,h2⟩:=h;have hr:=(hv.ag k _ h1).2.2;simp only at hr;refine ⟨?_,(List.getElem?_eq_some_iff.1 h1).1⟩
 have hr:r<p.ns.length:=by omega
 clear h1
 induction h2 with
 | refl=>exact hr
 | arg _ h4 h5 ih=>have:=hv.arg_lt h4 h5;have:=(List.getElem?_eq_some_iff.1 h4).1;omega
theorem Prg.V.some {p:Prg} (hv:p.V):∀(d j:Nat),j+d=p.ns.length→0<d→∃k,Own p j k:=by
 intro d
 induction d using Nat.strongRecOn with
 | _ d ih=>
  intro j hj hd;have h1:=hv.one j (by omega)
  by_cases hg:0<cntG j p.gs
  ·obtain ⟨k,a,hk,ha⟩:=sum_pos hg
   rw [List.getElem?_map] at hk
   cases hgk:p.gs[k]? with
   | none=>rw [hgk] at hk;simp at hk
   | some y=>
    rw [hgk] at hk;simp at hk
    have h2:y.root.toNat=j:=by
     by_cases e:y.root.toNat=j
     ·exact e
     ·rw [if_neg e] at hk;omega
    have h3:=(hv.ag k y hgk).2
    have h4:y.root=(j:Int):=by omega
    exact ⟨k,y.name,j,by rw [hgk];cases y;simp only at h4;rw [h4],.refl⟩
  ·obtain ⟨i,a,hi,ha⟩:=sum_pos (L:=p.ns.map fun x=>cntL j x.args) (by unfold cntN at h1;omega)
   rw [List.getElem?_map] at hi
   cases hx:p.ns[i]? with
   | none=>rw [hx] at hi;simp at hi
   | some x=>
    rw [hx] at hi;simp at hi;have hm:(j:Int)∈x.args:=(cntL_pos (fun a ha=>((hv.nd i x hx).2 a ha).1)).1 (by omega);have h2:=hv.arg_lt hx hm;have h3:=(List.getElem?_eq_some_iff.1 hx).1;obtain ⟨k,hk⟩:=ih (p.ns.length - i) (by omega) i (by omega) (by omega);exact ⟨k,hk.down hx hm⟩
theorem Prg.V.uniq {p:Prg} (hv:p.V):∀(d j k k':Nat),j+d=p.ns.length→Own p j k→Own p j k'→k=k':=by
 intro d
 induction d using Nat.strongRecOn with
 | _ d ih=>
  intro j k k' hj h h';have hjl:=(h.lt hv).1;have h1:=hv.one j hjl
  rcases h.up with ⟨s,hs⟩|⟨i,x,hx,hm,ho⟩
  ·rcases h'.up with ⟨s',hs'⟩|⟨i',x',hx',hm',ho'⟩
   ·by_cases e:k=k'
    ·exact e
    ·have:=sum_two (cntG_one hs) (cntG_one hs') e
     unfold cntG at h1;omega
   ·have h2:=sum_one (cntG_one hs)
    have h3:=hv.cnt (j:=j) hx';have h4:=h3.2 hm';have h5:=sum_one h3.1;unfold cntN cntG at h1;omega
  ·have h3:=hv.cnt (j:=j) hx
   have h4:=h3.2 hm
   rcases h'.up with ⟨s',hs'⟩|⟨i',x',hx',hm',ho'⟩
   ·have h2:=sum_one (cntG_one hs')
    have h5:=sum_one h3.1;unfold cntN cntG at h1;omega
   ·have h3':=hv.cnt (j:=j) hx'
    have h4':=h3'.2 hm'
    by_cases e:i=i'
    ·subst e
     have h6:=hv.arg_lt hx hm;have h7:=(List.getElem?_eq_some_iff.1 hx).1;exact ih (p.ns.length - i) (by omega) i k k' (by omega) ho ho'
    ·have h5:=sum_two h3.1 h3'.1 e
     unfold cntN at h1;omega
open Classical in
noncomputable def Prg.own (p:Prg) (j:Nat):Nat:=if h:∃k,Own p j k then h.choose else 0
theorem Prg.V.own_is {p:Prg} (hv:p.V) {j:Nat} (hj:j<p.ns.length):Own p j (p.own j):=by
 unfold Prg.own;have:=hv.some (p.ns.length - j) j (by omega) (by omega);rw [dif_pos this];exact this.choose_spec
theorem Prg.V.own_eq {p:Prg} (hv:p.V) {j k:Nat} (h:Own p j k):p.own j=k:=by
 have hj:=(h.lt hv).1;exact hv.uniq (p.ns.length - j) j _ _ (by omega) (hv.own_is hj) h
noncomputable def Prg.ownL (p:Prg):List Int:=(List.range p.ns.length).map fun j=>(p.own j:Int)
theorem Prg.ownL_len (p:Prg):p.ownL.length=p.ns.length:=by simp [Prg.ownL]
theorem Prg.ownL_of {p:Prg} (hv:p.V) {o:List Int} (hl:o.length=p.ns.length) (h:∀j k,Own p j k→o.getD j 0=k):o=p.ownL:=by
 apply List.ext_getElem (by rw [hl,Prg.ownL_len]);intro j h1 h2;have:=h j _ (hv.own_is (by omega));rw [List.getD_eq_getElem?_getD,List.getElem?_eq_getElem h1] at this;simp [Prg.ownL]
 simpa using this
@[go_sem] theorem store_func {P:Program} {w:World} {a:Addr} {m:Mode} (fn:Fn) (first captured:Array Value):(store a (.func fn first captured) m).run P w=stored P w a (.func fn first captured) m:=run_store P w a _ m rfl
def OwnTo (p:Prg) (k:Nat) (o o':List Int):Prop:=o'.length=o.length∧∀j,o'.getD j 0=o.getD j 0∨(o'.getD j 0=k∧Own p j k)
theorem OwnTo.refl (p:Prg) (k:Nat) (o:List Int):OwnTo p k o o:=⟨rfl,fun _=>.inl rfl⟩
theorem OwnTo.trans {p:Prg} {k:Nat} {o o1 o2:List Int} (h:OwnTo p k o o1) (h':OwnTo p k o1 o2):OwnTo p k o o2:=
 ⟨h'.1.trans h.1,fun j=>by
  rcases h'.2 j with e|e
  ·rw [e];exact h.2 j
  ·exact .inr e⟩
theorem getD_set (o:List Int) (i j:Nat) (x:Int) (hi:i<o.length):(o.set i x).getD j 0=if i=j then x else o.getD j 0:=by
 rw [List.getD_eq_getElem?_getD,List.getElem?_set]
 by_cases e:i=j
 ·subst e;simp [hi]
 ·simp [e]
theorem OwnTo.set {p:Prg} {k i:Nat} {o:List Int} (h:Own p i k) (hi:i<o.length):OwnTo p k o (o.set i k):=
 ⟨by simp,fun j=>by
  rw [getD_set _ _ _ _ hi]
  by_cases e:i=j
  ·subst e;exact .inr ⟨by simp,h⟩
  ·exact .inl (by simp [e])⟩
structure OB (p:Prg) (B O n:Nat) (a1 a2:Option Addr) (c1 c2:Nat) (w:World) (o:List Int):Prop where
 prog:Bx w B #[.slice a1 p.ns.length c1,.slice a2 p.gs.length c2] 132
 out:Bx w O #[.slice (some ⟨B+1,0,none⟩) n n] 25
 fn:Bx w (O+1) #[.func (.func 279) #[] #[.pointer (some ⟨O,0,none⟩),.pointer (some ⟨B,0,none⟩),.pointer (some ⟨O+1,0,none⟩)]] 351
 row:OwnInts (B+1) w (.slice (some ⟨B+1,0,none⟩) n n) o
theorem Sub.head {p:Prg} {r j:Nat} (h:Sub p r j):r=j∨∃(x:Nd) (a:Nat),p.ns[r]?=some x∧(a:Int)∈x.args∧Sub p a j:=by
 induction h with
 | refl=>exact .inl rfl
 | arg h1 h2 h3 ih=>
  rcases ih with rfl|⟨x,a,h4,h5,h6⟩
  ·exact .inr ⟨_,_,h2,h3,.refl⟩
  ·exact .inr ⟨x,a,h4,h5,h6.arg h2 h3⟩
theorem OwnTo.keep {p:Prg} {k:Nat} {o o':List Int} (h:OwnTo p k o o') {j:Nat} (hj:o.getD j 0=k):o'.getD j 0=k:=by
 rcases h.2 j with e|e
 ·rw [e,hj]
 ·exact e.1
theorem iVisit_any (lo hi:Nat) (p:Prg) (hv:p.V) (W:World) (a1 a2:Option Addr) (c1 c2:Nat) (HN:NdsAt lo hi W a1 c1 p.ns) (hh:hi≤W.heap.size) (O:Nat) (hO:W.heap.size+1<O) (k:Nat) (hk:k≤10000000) (m:Nat) :
  ∀(node:Nat) (o:List Int) (w:World),node<m→Own p node k→o.length=p.ns.length→OB p W.heap.size O p.ns.length a1 a2 c1 c2 w o→Ext W w →
  Calls Tryz.prog 279 #[.int .i64 node,.int .i64 k,.pointer (some ⟨O,0,none⟩),.pointer (some ⟨W.heap.size,0,none⟩),.pointer (some ⟨O+1,0,none⟩)] w fun e w'=>e = .returned (.tuple #[])∧(∃o',OB p W.heap.size O p.ns.length a1 a2 c1 c2 w' o'∧OwnTo p k o o'∧∀j,Sub p node j→o'.getD j 0=k)∧Ext W w':=by
 have l1:=HN.le;have l2:=HN.cap
 induction m with
 | zero=>intro node o w hm;omega
 | succ m ih=>
  intro node o w hm hown hol hB hx;have hnl:=(hown.lt hv).1;have zx:=hx.size;obtain ⟨hB1,hB2,hB3,hB4⟩:=hB;obtain ⟨r1,r2,r3,r4,r5⟩:=hB4.upd (by omega) hnl;have hS:=r5 k ⟨by omega,by omega⟩;have HB1:=hid hB1;have HB2:=hid hB2;have HB3:=hid hB3;have HS:=hid hS;have HX:=hid hx;have HOL:=hid hol;have HOW:=hid hown;obtain ⟨b,off,op,s,num,sa,sc,ra,rfl,hb1,hbw,hget,io,inn,hI,HI,y0,y1,y2,y3⟩:=HN.atW hnl hx hh;have HG:=hid hget;have li1:=HI.le;have li2:=HI.cap;have q:=hB1.lt;have q0:=hB1.cell 0;simp only [List.getElem?_toArray,List.getElem?_cons_zero,List.getElem?_cons_succ] at q0;have q1:=hB1.cell 1;simp only [List.getElem?_toArray,List.getElem?_cons_zero,List.getElem?_cons_succ] at q1;have d:=hB2.lt;have d0:=hB2.cell 0;simp only [List.getElem?_toArray,List.getElem?_cons_zero,List.getElem?_cons_succ] at d0
  have hbS:b≠W.heap.size+1:=by omega
  have hOS:O≠W.heap.size+1:=by omega
  have IH:=hid ih;clear ih hget hB1 hB2 hB3 hB4 hS hx hol hown hI r5 y0 y1 y2;go_enter Tryz.func279,Tryz.ntmps279;go_wp2
  go_loopw [20] (fun i wr=>∃(j:Nat) (o':List Int),j≤ra.length∧i = .int .i64 j∧OB p W.heap.size O p.ns.length (some ⟨b,off,none⟩) a2 c1 c2 wr o'∧OwnTo p k o o'∧o'.getD node 0=k∧(∀(t a:Nat),t<j→ra[t]?=some (a:Int)→∀q,Sub p a q→o'.getD q 0=k)∧Ext W wr) (fun i _=>ra.length - (intOf i).toNat)
  case atStart=>
   refine ⟨0,o.set node k,by omega,rfl,⟨HB1.out.other (by simp) _,HB2.out.other (by simpa using hOS) _,HB3.out.other (by simp;omega) _,HS.out⟩,OwnTo.set HOW.out (by rw [HOL.out];exact hnl),?_,fun t a ht=>by omega,?_⟩
   ·rw [getD_set _ _ _ _ (by rw [HOL.out];exact hnl),if_pos rfl]
   ·have hx:=HX.out
    exact S_
  case round=>
   clear HB1 HB2 HB3 HS HX q q0 q1 d d0 r1 r2 r3 r4;obtain ⟨j,o',hj,rfl,hB,hO,hN,hA,hx⟩:=hrel
   by_cases hlj:j<ra.length
   ·obtain ⟨b3,off3,y,rfl,hb3,hy,_,hc3⟩:=HI.atE hlj hx hh
    have hyb:=(hv.nd node _ HG.out).2 y (List.mem_of_getElem? hy)
    obtain ⟨z,rfl⟩:∃z:Nat,y=z:=⟨y.toNat,by omega⟩
    have hOz:=hid (HOW.out.down HG.out (List.mem_of_getElem? hy));have HY:=hid hy;have HB:=hid hB;have HO:=hid hO;have HN2:=hid hN;have HA:=hid hA;have HX:=hid hx;have hB3:=hB.fn;have f:=hB3.lt;have f0:=hB3.cell 0;simp only [List.getElem?_toArray,List.getElem?_cons_zero,List.getElem?_cons_succ] at f0;clear hy hB hO hN hA hx hB3;go_wp2_with fail;refine (IH.out z o' _ (by omega) hOz.out (by rw [HO.out.1];exact HOL.out) HB.out HX.out).mono ?_;rintro e w1 ⟨rfl,⟨o2,hB2,hO2,hS2⟩,hx2⟩;have HB':=hid hB2;have HO':=hid hO2;have HS':=hid hS2;have HX':=hid hx2;clear hB2 hO2 hS2 hx2 HB HX f f0;go_wp2;go_roundw
    case rel=>
     refine ⟨j+1,o2,by omega,by go_num,HB'.out,HO.out.trans HO'.out,HO'.out.keep HN2.out,fun t a ht ha q hq=>?_,HX'.out⟩
     by_cases e:t=j
     ·subst e
      rw [HY.out] at ha;injection ha with ha
      have:z=a:=by omega
      subst this;exact HS'.out q hq
     ·exact HO'.out.keep (HA.out t a (by omega) ha q hq)
    case measure=>simp [intOf];omega
   ·have HB:=hid hB
    have HO:=hid hO;have HN2:=hid hN;have HA:=hid hA;have HX:=hid hx;clear hB hO hN hA hx;go_wp2
    go_end0
    refine ⟨rfl,⟨o',HB.out,HO.out,fun q hq=>?_⟩,HX.out⟩
    rcases hq.head with rfl|⟨x,a,h1,h2,h3⟩
    ·exact HN2.out
    ·rw [HG.out] at h1
     injection h1 with h1;subst h1;obtain ⟨t,ht,hta⟩:=List.getElem_of_mem h2;exact HA.out t a (by have:t<ra.length:=ht;omega) (by rw [←hta];simp [ht]) q h3
theorem iOwners_any (lo hi:Nat) (v:Value) (p:Prg) (w:World) (hv:p.R lo hi w v) (hh:hi≤w.heap.size) (hp:p.V) (hgl:p.gs.length≤1048576) :
  Calls Tryz.prog 226 #[v] w fun e w'=>(∃a c,e = .returned (.slice a p.ns.length c)∧OwnInts w.heap.size w' (.slice a p.ns.length c) p.ownL)∧Ext w w':=by
 obtain ⟨i0,hi0,hz0,hz1,hz2⟩:=info_parts info_int;obtain ⟨a1,c1,a2,c2,rfl,HN,HG⟩:=hv.form;have l1:=HN.le;have l2:=HN.cap;have l3:=HG.le;have l4:=HG.cap;have l5:=hp.len;clear hv;have bB:=Bx.made w #[.slice a1 p.ns.length c1,.slice a2 p.gs.length c2] 132;have x0:Ext w (w.alloc (.cells #[.slice a1 p.ns.length c1,.slice a2 p.gs.length c2] 132)):=X_;go_enter Tryz.func226,Tryz.ntmps226;go_wp2_with (at_make;refine wpList_make_full _ rfl _ _ 25 rfl (w.heap.size+1) 3 i0 (.int .i64 0) 1 Tryz.underlying25 hi0 hz0 hz1 _ _ _ _ p.ns.length rfl rfl rfl rfl (by rw [hz2];omega) (by unfold maxLen;omega) (by simp) ?_);intro w1 hown hgrow;rw [made_ints] at hown;have hs1:=World.size_alloc w (.cells #[.slice a1 p.ns.length c1,.slice a2 p.gs.length c2] 132);have x1:Ext (w.alloc (.cells #[.slice a1 p.ns.length c1,.slice a2 p.gs.length c2] 132)) w1:=(Ext.refl _).grown hgrow (fun k h=>by cases h);have bB1:=bB.ext x1;have hz1':=x1.size;have HO:=hid (show OwnInts (w.heap.size+1) w1 (.slice (some ⟨w.heap.size+1,0,none⟩) p.ns.length p.ns.length) (List.replicate p.ns.length 0) from ⟨by simpa using hown,fun x hx=>by rw [(List.mem_replicate.1 hx).2];exact ⟨by decide,by decide⟩⟩);have hlt:=HO.out.lt _ rfl;have X1:=hid (x0.trans x1);have HB1:=hid bB1;have q:=bB1.lt;have q0:=bB1.cell 0;simp only [List.getElem?_toArray,List.getElem?_cons_zero,List.getElem?_cons_succ] at q0;have q1:=bB1.cell 1;simp only [List.getElem?_toArray,List.getElem?_cons_zero,List.getElem?_cons_succ] at q1;clear hown hgrow hi0 hz0 hz1 hz2 x1 x0 bB hs1 bB1;go_wp2
 have HO0:=hid (show OB p w.heap.size w1.heap.size p.ns.length a1 a2 c1 c2 ((w1.alloc (.cells #[.slice (some ⟨w.heap.size+1,0,none⟩) p.ns.length p.ns.length] 25)).alloc (.cells #[.func (.func 279) #[] #[.pointer (some ⟨w1.heap.size,0,none⟩),.pointer (some ⟨w.heap.size,0,none⟩),.pointer (some ⟨w1.heap.size+1,0,none⟩)]] 351)) (List.replicate p.ns.length 0) from
  { prog:=HB1.out.ext X_
    out:=(Bx.made w1 _ _).ext X_
    fn:=Bx.madeAt _ _ _ (by simp)
    row:=HO.out.ext X_ } )
 go_loopw [15] (fun i wr=>∃(k:Nat) (o:List Int),k≤p.gs.length∧i = .int .i64 k∧o.length=p.ns.length∧OB p w.heap.size w1.heap.size p.ns.length a1 a2 c1 c2 wr o∧(∀j t,Own p j t→t<k→o.getD j 0=t)∧Ext w wr) (fun i _=>p.gs.length - (intOf i).toNat)
 case atStart=>
  refine ⟨0,List.replicate p.ns.length 0,by omega,rfl,by simp,HO0.out,fun j t _ h=>by omega,?_⟩;have hx:=X1.out;exact S_
 case round=>
  clear HO0 HO X1 HB1 q q0 q1;obtain ⟨k,o,hk,rfl,hol,hB,hA,hx⟩:=hrel;have HOL:=hid hol;have HB:=hid hB;have HA:=hid hA;have HX:=hid hx
  by_cases hlt2:k<p.gs.length
  ·obtain ⟨b,off,s,rt,rfl,hb1,hbw,hdrop,hget,ir,y0,y1⟩:=HG.at hlt2 hx hh
   have hrb:=(hp.ag k _ hget).2;simp only at hrb
   obtain ⟨r,rfl⟩:∃r:Nat,rt=r:=⟨rt.toNat,by omega⟩
   have HG1:=hid hget;have q0:Ext wr (wr.alloc (.cells #[.string s,.int .i64 r] 194)):=X_
   have hB':OB p w.heap.size w1.heap.size p.ns.length a1 (some ⟨b,off,none⟩) c1 c2 (wr.alloc (.cells #[.string s,.int .i64 r] 194)) o:=⟨hB.prog.ext q0,hB.out.ext q0,hB.fn.ext q0,hB.row.ext q0⟩
   have HB':=hid hB';have hf:=hB.fn;have f:=hf.lt;have f0:=hf.cell 0;simp only [List.getElem?_toArray,List.getElem?_cons_zero,List.getElem?_cons_succ] at f0;have zx:=hx.size;have HX':=hid (hx.trans q0);clear hol hB hA hx hdrop hget hB' q0 HB hf;go_wp2_with fail;refine (iVisit_any lo hi p hp w a1 (some ⟨b,off,none⟩) c1 c2 HN hh w1.heap.size (by omega) k (by omega) (r+1) r o _ (by omega) (Own.root HG1.out) HOL.out HB'.out HX'.out).mono ?_;rintro e w2 ⟨rfl,⟨o2,hB2,hO2,hS2⟩,hx2⟩;have HB2:=hid hB2;have HO2:=hid hO2;have HS2:=hid hS2;have HX2:=hid hx2;clear hB2 hO2 hS2 hx2 HB' HX';go_wp2;go_roundw
   case rel=>
    refine ⟨k+1,o2,by omega,by go_num,by rw [HO2.out.1];exact HOL.out,HB2.out,fun j t hjt ht=>?_,HX2.out⟩
    by_cases e:t=k
    ·subst e
     obtain ⟨s',r',h1,h2⟩:=hjt;rw [HG1.out] at h1;simp only [Option.some.injEq,Asg.mk.injEq] at h1
     have:r=r':=by omega
     subst this;exact HS2.out j h2
    ·rcases HO2.out.2 j with e2|⟨e2,e3⟩
     ·rw [e2]
      exact HA.out j t hjt (by omega)
     ·have:=hp.own_eq hjt
      have:=hp.own_eq e3;omega
   case measure=>simp [intOf];omega
  ·obtain rfl:k=p.gs.length:=by omega
   have hB2:=hB.out;have f:=hB2.lt;have f0:=hB2.cell 0;simp only [List.getElem?_toArray,List.getElem?_cons_zero,List.getElem?_cons_succ] at f0;clear hol hB hA hx hB2;go_wp2;go_ret;have e:o=p.ownL:=Prg.ownL_of hp HOL.out (fun j t hjt=>HA.out j t hjt (hjt.lt hp).2);exact ⟨⟨_,_,rfl,by rw [←e];exact HB.out.row.low (by omega)⟩,HX.out⟩
def Has (p:Prg) (m:Nat) (ra:List Int) (q j t:Nat):Prop:=
 (∃s:ByteArray,p.gs[t]?=some ⟨s,(j:Nat)⟩)∨(∃(i:Nat) (x:Nd),m≤i∧p.ns[i]?=some x∧(j:Int)∈x.args)∨(∃e,e<q∧ra[e]?=some (j:Int))
def Owned (p:Prg) (m:Nat) (ra:List Int) (q:Nat) (o:List Int):Prop:=∀j t,Own p j t→Has p m ra q j t→o.getD j 0=t
theorem Owned.all {p:Prg} (hv:p.V) {o:List Int} (h:Owned p 0 [] 0 o):∀j t,Own p j t→o.getD j 0=t:=fun j t ho=>by
 refine h j t ho ?_
 rcases ho.up with h1|⟨i,x,h1,h2,_⟩
 ·exact .inl h1
 ·exact .inr (.inl ⟨i,x,by omega,h1,h2⟩)
theorem Owned.at {p:Prg} (hv:p.V) {i q:Nat} {ra o:List Int} (h:Owned p (i+1) ra q o) (hi:i<p.ns.length):o.getD i 0=p.own i:=by
 have ho:=hv.own_is hi;refine h i _ ho ?_
 rcases ho.up with h1|⟨i',x,h1,h2,_⟩
 ·exact .inl h1
 ·have:=hv.arg_lt h1 h2
  exact .inr (.inl ⟨i',x,by omega,h1,h2⟩)
theorem Owned.step {p:Prg} (hv:p.V) {i q a:Nat} {x:Nd} {o:List Int} (h:Owned p (i+1) x.args q o) (hx:p.ns[i]?=some x) (ha:x.args[q]?=some (a:Int)) (hl:a<o.length):Owned p (i+1) x.args (q+1) (o.set a (p.own i)):=by
 intro j t ho hs;have hi:=(List.getElem?_eq_some_iff.1 hx).1;rw [getD_set _ _ _ _ hl]
 by_cases e:a=j
 ·subst e
  rw [if_pos rfl];have h1:=(hv.own_is hi).down hx (List.mem_of_getElem? ha);have h2:=hv.own_eq h1;have h3:=hv.own_eq ho;omega
 ·rw [if_neg e]
  refine h j t ho ?_
  rcases hs with h1|h1|⟨y,h1,h2⟩
  ·exact .inl h1
  ·exact .inr (.inl h1)
  ·by_cases e2:y=q
   ·subst e2
    rw [ha] at h2;injection h2 with h2;omega
   ·exact .inr (.inr ⟨y,by omega,h2⟩)
theorem Owned.next {p:Prg} {i:Nat} {x:Nd} {o:List Int} (h:Owned p (i+1) x.args x.args.length o) (hx:p.ns[i]?=some x):Owned p i [] 0 o:=by
 intro j t ho hs;refine h j t ho ?_
 rcases hs with h1|⟨i',y,h1,h2,h3⟩|⟨y,h1,h2⟩
 ·exact .inl h1
 ·by_cases e:i'=i
  ·subst e
   rw [hx] at h2;injection h2 with h2;subst h2;obtain ⟨q,hq,hqa⟩:=List.getElem_of_mem h3;exact .inr (.inr ⟨q,hq,by rw [←hqa];simp [hq]⟩)
  ·exact .inr (.inl ⟨i',y,by omega,h2,h3⟩)
 ·omega
theorem Owned.any {p:Prg} {m:Nat} {ra:List Int} {o:List Int} (h:Owned p m [] 0 o):Owned p m ra 0 o:=by
 intro j t ho hs;refine h j t ho ?_
 rcases hs with h1|h1|⟨y,h1,h2⟩
 ·exact .inl h1
 ·exact .inr (.inl h1)
 ·omega
theorem sOwners_any (lo hi:Nat) (v:Value) (p:Prg) (w:World) (hv:p.R lo hi w v) (hh:hi≤w.heap.size) (hp:p.V) (hgl:p.gs.length≤1048576) :
  Calls Tryz.prog 241 #[v] w fun e w'=>(∃a c,e = .returned (.slice a p.ns.length c)∧OwnInts w.heap.size w' (.slice a p.ns.length c) p.ownL)∧Ext w w':=by
 obtain ⟨i0,hi0,hz0,hz1,hz2⟩:=info_parts info_int;obtain ⟨a1,c1,a2,c2,rfl,HN,HG⟩:=hv.form;have l1:=HN.le;have l2:=HN.cap;have l3:=HG.le;have l4:=HG.cap;have l5:=hp.len;clear hv;have bB:=Bx.made w #[.slice a1 p.ns.length c1,.slice a2 p.gs.length c2] 132;have x0:Ext w (w.alloc (.cells #[.slice a1 p.ns.length c1,.slice a2 p.gs.length c2] 132)):=X_;go_enter Tryz.func241,Tryz.ntmps241;go_wp2_with (at_make;refine wpList_make_full _ rfl _ _ 25 rfl (w.heap.size+1) 3 i0 (.int .i64 0) 1 Tryz.underlying25 hi0 hz0 hz1 _ _ _ _ p.ns.length rfl rfl rfl rfl (by rw [hz2];omega) (by unfold maxLen;omega) (by simp) ?_);intro w1 hown hgrow;rw [made_ints] at hown;have hs1:=World.size_alloc w (.cells #[.slice a1 p.ns.length c1,.slice a2 p.gs.length c2] 132);have x1:Ext (w.alloc (.cells #[.slice a1 p.ns.length c1,.slice a2 p.gs.length c2] 132)) w1:=(Ext.refl _).grown hgrow (fun k h=>by cases h);have HO:=hid (show OwnInts (w.heap.size+1) w1 (.slice (some ⟨w.heap.size+1,0,none⟩) p.ns.length p.ns.length) (List.replicate p.ns.length 0) from ⟨by simpa using hown,fun x hx=>by rw [(List.mem_replicate.1 hx).2];exact ⟨by decide,by decide⟩⟩);have X1:=hid (x0.trans x1);have bB1':=bB.ext x1;have bB1:=hid bB1';have q:=bB1'.lt;have q0:=bB1'.cell 0;simp only [List.getElem?_toArray,List.getElem?_cons_zero,List.getElem?_cons_succ] at q0;have q1:=bB1'.cell 1;simp only [List.getElem?_toArray,List.getElem?_cons_zero,List.getElem?_cons_succ] at q1;clear bB1';clear hown hgrow hi0 hz0 hz1 hz2 x1 x0 bB hs1;go_wp2
 go_loopw [16] (fun i wr=>∃(k:Nat) (o:List Int),k≤p.gs.length∧i = .int .i64 k∧Ext w wr∧Bx wr w.heap.size #[.slice a1 p.ns.length c1,.slice a2 p.gs.length c2] 132∧OwnInts (w.heap.size+1) wr (.slice (some ⟨w.heap.size+1,0,none⟩) p.ns.length p.ns.length) o∧o.length=p.ns.length∧(∀(t j:Nat) (s:ByteArray),t<k→p.gs[t]?=some ⟨s,j⟩→o.getD j 0=t)) (fun i _=>p.gs.length - (intOf i).toNat)
 case atStart=>exact ⟨0,_,by omega,rfl,X1.out,bB1.out,HO.out,by simp,fun t j s h=>by omega⟩
 case round=>
  clear HO X1 bB1 q q0 q1;obtain ⟨k,o,hk,rfl,hx,hB,hO,hol,hA⟩:=hrel;have HX:=hid hx;have HB:=hid hB;have HO:=hid hO;have HOL:=hid hol;have HA:=hid hA
  by_cases hlt:k<p.gs.length
  ·obtain ⟨b,off,s,rt,rfl,hb1,hbw,hdrop,hget,ir,y0,y1⟩:=HG.at hlt hx hh
   have hrb:=(hp.ag k _ hget).2;simp only at hrb
   obtain ⟨r,rfl⟩:∃r:Nat,rt=r:=⟨rt.toNat,by omega⟩
   have hr:r<p.ns.length:=by omega
   have HG1:=hid hget;have q0:Ext wr (wr.alloc (.cells #[.string s,.int .i64 r] 194)):=X_;have hO2:=hO.ext q0;have HXX:=hid (hx.trans q0);have HB2:=hid (hB.ext q0);have zx:=q0.size;obtain ⟨r1,r2,r3,r4,r5⟩:=hO2.upd (by omega) hr;have HS:=hid (r5 k ⟨by omega,by omega⟩);clear hO hO2 HO HX hB HB hol hA hdrop hget hx q0 r5;go_wp2;go_roundw
   case rel=>
    refine ⟨k+1,o.set r k,by omega,by go_num,?_,HB2.out.other (by simp) _,HS.out,by rw [List.length_set];exact HOL.out,fun t j s' ht hs'=>?_⟩
    ·have hx:=HXX.out
     exact S_
    ·rw [getD_set _ _ _ _ (by rw [HOL.out];exact hr)]
     by_cases e:r=j
     ·subst e
      rw [if_pos rfl];have h1:=hp.own_eq (Own.root HG1.out);have h2:=hp.own_eq (Own.root hs');omega
     ·rw [if_neg e]
      refine HA.out t j s' ?_ hs'
      by_cases e2:t=k
      ·subst e2
       rw [HG1.out] at hs';simp only [Option.some.injEq,Asg.mk.injEq] at hs';omega
      ·omega
   case measure=>simp [intOf];omega
  ·obtain rfl:k=p.gs.length:=by omega
   have HW:Hid (Owned p p.ns.length [] 0 o):=hid (fun j t _ hs=>by
    rcases hs with ⟨s,h1⟩|⟨i,x,h1,h2,_⟩|⟨y,h1,h2⟩
    ·exact HA.out t j s (List.getElem?_eq_some_iff.1 h1).1 h1
    ·have:=(List.getElem?_eq_some_iff.1 h2).1
     omega
    ·omega)
   have q:=hB.lt;have q0:=hB.cell 0;simp only [List.getElem?_toArray,List.getElem?_cons_zero,List.getElem?_cons_succ] at q0;have q1:=hB.cell 1;simp only [List.getElem?_toArray,List.getElem?_cons_zero,List.getElem?_cons_succ] at q1;clear hx hB hO hol hA HA;go_wp2
   go_loopw [6] (fun i wr=>∃(m:Nat) (o:List Int),m≤p.ns.length∧i = .int .i64 ((m:Int) - 1)∧Ext w wr∧Bx wr w.heap.size #[.slice a1 p.ns.length c1,.slice a2 p.gs.length c2] 132∧OwnInts (w.heap.size+1) wr (.slice (some ⟨w.heap.size+1,0,none⟩) p.ns.length p.ns.length) o∧o.length=p.ns.length∧Owned p m [] 0 o) (fun i _=>(intOf i+1).toNat)
   case atStart=>exact ⟨p.ns.length,o,by omega,rfl,HX.out,HB.out,HO.out,HOL.out,HW.out⟩
   case round=>
    clear HX HB HO HOL HW q q0 q1;obtain ⟨m,o,hm,rfl,hx,hB,hO,hol,hW⟩:=hrel;have HX:=hid hx;have HB:=hid hB;have HO:=hid hO;have HOL:=hid hol;have HW:=hid hW
    rcases (show m=0∨∃i,m=i+1 from by cases m <;> simp) with rfl|⟨i,rfl⟩
    ·clear hx hB hO hol hW
     go_wp2;go_ret;have e:o=p.ownL:=Prg.ownL_of hp HOL.out (HW.out.all hp);exact ⟨⟨_,_,rfl,by rw [←e];exact HO.out.low (by omega)⟩,HX.out⟩
    ·have e1:(((i+1:Nat):Int) - 1)=i:=by omega
     rw [e1]
     have hil:i<p.ns.length:=by omega
     obtain ⟨b,off,op,s,num,sa,sc,ra,rfl,hb1,hbw,hget,io,inn,hI,HI,y0,y1,y2,y3⟩:=HN.atW hil hx hh;have HG1:=hid hget;have li1:=HI.le;have li2:=HI.cap;have q:=hB.lt;have q0:=hB.cell 0;simp only [List.getElem?_toArray,List.getElem?_cons_zero,List.getElem?_cons_succ] at q0;have q1:=hB.cell 1;simp only [List.getElem?_toArray,List.getElem?_cons_zero,List.getElem?_cons_succ] at q1;clear hget hx hB hO hol hW hI e1 y0 y1 y2;go_wp2
     go_loopw [42] (fun z wr=>∃(j:Nat) (o:List Int),j≤ra.length∧z = .int .i64 j∧Ext w wr∧Bx wr w.heap.size #[.slice (some ⟨b,off,none⟩) p.ns.length c1,.slice a2 p.gs.length c2] 132∧OwnInts (w.heap.size+1) wr (.slice (some ⟨w.heap.size+1,0,none⟩) p.ns.length p.ns.length) o∧o.length=p.ns.length∧Owned p (i+1) ra j o) (fun z _=>ra.length - (intOf z).toNat)
     case atStart=>exact ⟨0,o,by omega,rfl,HX.out,HB.out,HO.out,HOL.out,HW.out.any⟩
     case round=>
      clear HX HB HO HOL HW q q0 q1;obtain ⟨j,o,hj,rfl,hx,hB,hO,hol,hW⟩:=hrel;have HX:=hid hx;have HB:=hid hB;have HO:=hid hO;have HOL:=hid hol;have HW:=hid hW
      by_cases hlj:j<ra.length
      ·obtain ⟨b3,off3,y,rfl,hb3,hy,_,hc3⟩:=HI.atE hlj hx hh
       have hyb:=(hp.nd i _ HG1.out).2 y (List.mem_of_getElem? hy)
       obtain ⟨z,rfl⟩:∃z:Nat,y=z:=⟨y.toNat,by omega⟩
       have hz:z<p.ns.length:=by omega
       have HY:=hid hy;have hoi:=hW.at hp hil;obtain ⟨g1,g2,g3,g4,g5⟩:=hO.upd (by omega) hil;rw [hoi] at g3;obtain ⟨r1,r2,r3,r4,r5⟩:=hO.upd (by omega) hz;have hob:=((hp.own_is hil).lt hp).2
       obtain ⟨ow,how⟩:∃ow,p.own i=ow:=⟨_,rfl⟩
       have HOW:=hid how;rw [how] at g3 hob;have HS:=hid (r5 ow ⟨by omega,by omega⟩);clear hx hB hO hol hW hy g5 r5 hoi how;go_wp2;go_roundw
       case rel=>
        refine ⟨j+1,o.set z ow,by omega,by go_num,?_,HB.out.other (by simp) _,HS.out,by rw [List.length_set];exact HOL.out,?_⟩
        ·have hx:=HX.out
         exact S_
        ·have:=HW.out.step (x:=⟨op,s,num,ra⟩) hp HG1.out HY.out (by rw [HOL.out];exact hz)
         rw [HOW.out] at this;exact this
       case measure=>simp [intOf];omega
      ·obtain rfl:j=ra.length:=by omega
       have HW2:=hid (hW.next (x:=⟨op,s,num,ra⟩) HG1.out);clear hx hB hO hol hW HW;go_wp2;go_roundw
       case rel=>exact ⟨i,o,by omega,by go_num,HX.out,HB.out,HO.out,HOL.out,HW2.out⟩
       case measure=>simp [intOf] <;> omega
section
open Go.RowKit Go.Maps Go.WideMaps
def frst (gs:List Asg) (k:Nat) (l:List UInt8):Option Nat:=(gs.take k).findIdx? fun a=>a.name.toList==l
def asgB (gs:List Asg) (t:Nat) (l:List UInt8):Bool:=(gs.take t).any fun a=>a.name.toList==l
theorem frst_succ {gs:List Asg} {k:Nat} {a:Asg} (h:gs[k]?=some a) (l:List UInt8):frst gs (k+1) l=(frst gs k l).or (if a.name.toList==l then some k else none):=by
 have hk:=(List.getElem?_eq_some_iff.1 h).1;unfold frst;rw [take_step h,List.findIdx?_append,List.length_take,Nat.min_eq_left (by omega)]
 cases (gs.take k).findIdx? fun a=>a.name.toList==l
 ·by_cases e:(a.name.toList==l)=true <;> simp [e,List.findIdx?_cons]
 ·simp
theorem asgB_iff {gs:List Asg} {t:Nat} {l:List UInt8}:asgB gs t l=true↔∃(i:Nat) (a:Asg),i<t∧gs[i]?=some a∧a.name.toList=l:=by
 unfold asgB;rw [List.any_eq_true]
 constructor
 ·rintro ⟨a,ha,he⟩
  obtain ⟨i,hi,rfl⟩:=List.getElem_of_mem ha;simp only [List.length_take] at hi;exact ⟨i,gs[i]'(by omega),by omega,by simp,by simpa using he⟩
 ·rintro ⟨i,a,h1,h2,h3⟩
  refine ⟨a,?_,by simp [h3]⟩;have hi:=(List.getElem?_eq_some_iff.1 h2).1;exact List.mem_of_getElem? (i:=i) (by rw [List.getElem?_take,if_pos h1];exact h2)
theorem frst_some {gs:List Asg} {k i:Nat} {l:List UInt8} (h:frst gs k l=some i):i<k∧(∃a:Asg,gs[i]?=some a∧a.name.toList=l)∧∀(j:Nat) (a:Asg),j<i→gs[j]?=some a→a.name.toList≠l:=by
 unfold frst at h;rw [List.findIdx?_eq_some_iff_getElem] at h;obtain ⟨h1,h2,h3⟩:=h;simp only [List.length_take] at h1;refine ⟨by omega,⟨gs[i]'(by omega),by simp,by simpa using h2⟩,fun j a hj ha=>?_⟩;have:=h3 j hj
 have hl:=(List.getElem?_eq_some_iff.1 ha)
 simp only [List.getElem_take] at this;rw [hl.2] at this
 simpa using this
theorem frst_none {gs:List Asg} {k:Nat} {l:List UInt8} (h:frst gs k l=none):asgB gs k l=false:=by
 unfold frst at h;rw [List.findIdx?_eq_none_iff] at h;unfold asgB;rw [List.any_eq_false];intro a ha
 simpa using h a ha
theorem frst_lt {gs:List Asg} {i t:Nat} {l:List UInt8} (h:frst gs gs.length l=some i):asgB gs t l=decide (i<t):=by
 obtain ⟨h1,⟨a,h2,h3⟩,h4⟩:=frst_some h;rw [Bool.eq_iff_iff,asgB_iff,decide_eq_true_eq]
 constructor
 ·rintro ⟨j,b,h5,h6,h7⟩
  have : ¬j<i:=fun hj=>h4 j b hj h6 h7;omega
 ·intro ht
  exact ⟨i,a,ht,h2,h3⟩
theorem frst_no {gs:List Asg} {t:Nat} {l:List UInt8} (h:frst gs gs.length l=none):asgB gs t l=false:=by
 have h1:=frst_none h
 cases e:asgB gs t l
 ·rfl
 ·obtain ⟨i,a,h2,h3,h4⟩:=asgB_iff.1 e
  have:=asgB_iff.2 ⟨i,a,(List.getElem?_eq_some_iff.1 h3).1,h3,h4⟩;rw [h1] at this;cases this
theorem strLaw:Keyed Tryz.prog 9:=string_keyed Tryz.underlying9
theorem keyS {s:ByteArray} (hs:s.size≤maxLen):keyOf Tryz.prog 9 (.string s)=some (.string s.toList):=by
 rw [keyOf_string_mk Tryz.underlying9 hs,Lib.toList_data]
theorem zeroI (w:World):(zeroValue 3).run Tryz.prog w = .ok (.int .i64 0) w:=by kernel_rfl
def FirstD (D:DataW Unit) (gs:List Asg) (k:Nat):Prop:=
 IsMap D∧∀s:ByteArray,s.size≤maxLen→has D (.string s.toList)=(frst gs k s.toList).isSome∧∀t,frst gs k s.toList=some t→∀z,D.atKey (.string s.toList) z = .lit (.int .i64 (t:Nat))
def FM (w:World) (b:Nat) (gs:List Asg) (k:Nat):Prop:=∃(n:Nat) (D:DataW Unit),n≤k∧w.ownsMap Tryz.prog 9 (plainElem Tryz.prog 3) b n D∧FirstD D gs k
theorem FM.of_block {w w':World} {b:Nat} {gs:List Asg} {k:Nat} (h:FM w b gs k) (e:w'.heap[b]?=w.heap[b]?):FM w' b gs k:=by
 obtain ⟨n,D,hn,⟨es,clock,hb,r⟩,hD⟩:=h;exact ⟨n,D,hn,⟨es,clock,by rw [e];exact hb,r⟩,hD⟩
theorem FM.lt {w:World} {b:Nat} {gs:List Asg} {k:Nat} (h:FM w b gs k):b<w.heap.size:=by
 obtain ⟨n,D,hn,h1,hD⟩:=h;exact h1.lt
theorem FM.ext {w w':World} {b:Nat} {gs:List Asg} {k:Nat} (h:FM w b gs k) (e:Ext w w'):FM w' b gs k:=h.of_block (e.block h.lt)
theorem FM.made (w:World) (gs:List Asg):FM (w.alloc (.map #[] 0)) w.heap.size gs 0:=
 ⟨0,_,Nat.le_refl _,World.ownsMap_made _ _ _ _,isMap_empty,fun s _=>⟨rfl,fun t h=>by simp [frst] at h⟩⟩
theorem wpList_first_ok (w:World) {ops:Array Oper} {rest:List Oper} {o:Oper} {a:Act} {Q:Exit→Act→World→Prop} (hg:o.guard=none) (m x:Operand) (hop:o.op=Op.lookup 239 m x true)
  (b k:Nat) (gs:List Asg) (hm:a.eval m = .map (some b)) (h:FM w b gs k) (s:ByteArray) (hs:s.size≤maxLen) (hx:a.eval x = .string s) (r:Option Nat) (hr:frst gs k s.toList=r)
  (hK:wpList Tryz.prog ops Q rest (a.put o.dst (.tuple #[.int .i64 ((r.getD 0:Nat):Int),.bool r.isSome])) w):wpList Tryz.prog ops Q (o::rest) a w:=by
 obtain ⟨n,D,hn,hown,hm1,hm2⟩:=h;obtain ⟨h1,h2⟩:=hm2 s hs;refine wpList_lookup_own_ok_int w hg m x 239 hop 9 3 .i64 strLaw Tryz.underlying239 Tryz.underlying3 (zeroI _) b n D hm hown _ _ hx (keyS hs) ?_;intro c hat _;rw [h1,hr]
 have hc:c=((r.getD 0:Nat):Int):=by
  cases r with
  | none=>
   rw [hr] at h1;rw [atKey_of_not_has (by simpa using h1)] at hat;injection hat with hat;injection hat with _ hat;rw [←hat]
   rfl
  | some t=>
   rw [h2 t hr] at hat;injection hat with hat;injection hat with _ hat;exact hat.symm
 rw [hc];exact hK
theorem wpList_first (w:World) {ops:Array Oper} {rest:List Oper} {o:Oper} {a:Act} {Q:Exit→Act→World→Prop} (hg:o.guard=none) (m x:Operand) (hop:o.op=Op.lookup 239 m x false)
  (b k:Nat) (gs:List Asg) (hm:a.eval m = .map (some b)) (h:FM w b gs k) (s:ByteArray) (hs:s.size≤maxLen) (hx:a.eval x = .string s) (t:Nat) (hr:frst gs k s.toList=some t)
  (hK:wpList Tryz.prog ops Q rest (a.put o.dst (.int .i64 (t:Int))) w):wpList Tryz.prog ops Q (o::rest) a w:=by
 obtain ⟨n,D,hn,hown,hm1,hm2⟩:=h;obtain ⟨h1,h2⟩:=hm2 s hs;refine wpList_lookup_own_int w hg m x 239 hop 9 3 .i64 strLaw Tryz.underlying239 Tryz.underlying3 (zeroI _) b n D hm hown _ _ hx (keyS hs) ?_;intro c hat _;rw [h2 t hr] at hat;injection hat with hat;injection hat with _ hat;rw [←hat];exact hK
theorem FirstD.skip {D:DataW Unit} {gs:List Asg} {k t:Nat} {a:Asg} (h:FirstD D gs k) (ha:gs[k]?=some a) (ht:frst gs k a.name.toList=some t):FirstD D gs (k+1):=by
 refine ⟨h.1,fun s hs=>?_⟩
 have e:frst gs (k+1) s.toList=frst gs k s.toList:=by
  rw [frst_succ ha]
  by_cases he:(a.name.toList==s.toList)=true
  ·rw [eq_of_beq he] at ht
   rw [ht]
   rfl
  ·simp [he]
 rw [e];exact h.2 s hs
theorem FirstD.put {D:DataW Unit} {gs:List Asg} {k:Nat} {a:Asg} (h:FirstD D gs k) (ha:gs[k]?=some a) (hn:a.name.size≤maxLen) (ht:frst gs k a.name.toList=none):FirstD (D.put (.string a.name.toList) (.lit (.int .i64 (k:Nat)))) gs (k+1):=by
 have hkl:WideAt.IsKeyLit (.string a.name.toList):=strLaw.key (keyS hn);refine ⟨h.1.put _ _,fun s hs=>?_⟩;rw [frst_succ ha]
 by_cases he:(a.name.toList==s.toList)=true
 ·have e:=eq_of_beq he
  rw [←e,ht];refine ⟨by rw [has_put_same h.1 hkl];simp,fun t hts z=>?_⟩;rw [atKey_put_same h.1 hkl];simp at hts;rw [hts]
 ·have hne:Lit.string s.toList≠Lit.string a.name.toList:=fun e=>he (by injection e with e;rw [e];simp)
  rw [has_put_other hne];simp only [he,Bool.false_eq_true,if_false,Option.or_none];exact ⟨(h.2 s hs).1,fun t hts z=>by rw [atKey_put_other hne];exact (h.2 s hs).2 t hts z⟩
theorem FM.skip {w:World} {b k t:Nat} {gs:List Asg} {a:Asg} (h:FM w b gs k) (ha:gs[k]?=some a) (ht:frst gs k a.name.toList=some t):FM w b gs (k+1):=by
 obtain ⟨n,D,hn,h1,h2⟩:=h;exact ⟨n,D,by omega,h1,h2.skip ha ht⟩
theorem wpList_first_put (w:World) {ops:Array Oper} {rest:List Oper} {o:Oper} {a:Act} {Q:Exit→Act→World→Prop} (hg:o.guard=none) (m x v:Operand) (hop:o.op=Op.mapUpdate 239 m x v)
  (b k:Nat) (gs:List Asg) (hm:a.eval m = .map (some b)) (h:FM w b gs k) (hk:k≤10000000) (g:Asg) (hgk:gs[k]?=some g) (hs:g.name.size≤maxLen) (hx:a.eval x = .string g.name) (hv:a.eval v = .int .i64 (k:Int)) (hr:frst gs k g.name.toList=none)
  (hK:∀w',FM w' b gs (k+1)→w.grownBy w' (some b)→wpList Tryz.prog ops Q rest (a.put o.dst undef) w'):wpList Tryz.prog ops Q (o::rest) a w:=by
 obtain ⟨n,D,hn,hown,hD⟩:=h;refine wpList_mapUpdate_own w hg m x v 239 hop 9 3 strLaw Tryz.underlying239 _ b n D hm hown (by unfold maxLen;omega) _ _ _ hx hv (keyS hs) (.lit (.int .i64 (k:Int))) [] (plainElem_int Tryz.underlying3 (by simp [Lit.wf,IntKind.min,IntKind.max,IntKind.bits,IntKind.signed];omega)) ?_;intro w' h1 h2;exact hK w' ⟨n+1,_,by omega,h1,hD.put hgk hs hr⟩ h2
end
section
open Go.RowKit Go.Maps Go.WideMaps
theorem iAssigned_any (lo hi:Nat) (v:Value) (p:Prg) (w:World) (hv:p.R lo hi w v) (hh:hi≤w.heap.size) (hb:p.bd) (hgl:p.gs.length≤1048576) :
  Calls Tryz.prog 154 #[v] w fun e w'=>(∃b,e = .returned (.map (some b))∧w.heap.size≤b∧FM w' b p.gs p.gs.length)∧Ext w w':=by
 obtain ⟨a1,c1,a2,c2,rfl,HN,HG⟩:=hv.form;have l3:=HG.le;have l4:=HG.cap;have HBD:=hid hb.2;clear hv hb HN;have hmm:=@run_makeMap Tryz.prog;go_enter Tryz.func154,Tryz.ntmps154;go_wp2;have hM:=FM.made (w.alloc (.cells #[.slice a1 p.ns.length c1,.slice a2 p.gs.length c2] 132)) p.gs;simp only [World.size_alloc] at hM
 go_loopw [12] (fun i wr=>∃k:Nat,k≤p.gs.length∧i = .int .i64 k∧FM wr (w.heap.size+1) p.gs k∧Ext w wr) (fun i _=>p.gs.length - (intOf i).toNat)
 case atStart=>exact ⟨0,by omega,rfl,hM,X_⟩
 case round=>
  clear hM hmm;obtain ⟨k,hk,rfl,hM,hx⟩:=hrel;have HX:=hid hx;have HM:=hid hM;have hml:=hM.lt
  by_cases hlt:k<p.gs.length
  ·obtain ⟨b,off,s,rt,rfl,hb1,hbw,hdrop,hget,ir,y0,y1⟩:=HG.at hlt hx hh
   have hsz:=HBD.out _ (List.mem_of_getElem? hget);simp only at hsz;have HG1:=hid hget;have q0:Ext wr (wr.alloc (.cells #[.string s,.int .i64 rt] 194)):=X_;have HMX:=hid (hM.ext q0);have HXX:=hid (hx.trans q0);clear hdrop hget hx hM q0
   cases hr:frst p.gs k s.toList with
   | none=>
    have HR:=hid hr;clear hr;go_wp2_with (first|(at_lookup;refine wpList_first_ok _ rfl _ _ rfl _ _ _ rfl HMX.out _ hsz rfl _ HR.out ?_)|(at_mapUpdate;refine wpList_first_put _ rfl _ _ _ rfl _ _ _ rfl HMX.out (by omega) _ HG1.out hsz rfl rfl HR.out ?_;intro w2 hM2 hg2));have HM2:=hid hM2;have HX2:=hid (HXX.out.grown hg2 (fun k h=>by cases h;omega));clear hM2 hg2;go_wp2;go_roundw
    case rel=>exact ⟨k+1,by omega,by go_num,HM2.out,HX2.out⟩
    case measure=>simp [intOf];omega
   | some t=>
    have HR:=hid hr;clear hr;go_wp2_with (at_lookup;refine wpList_first_ok _ rfl _ _ rfl _ _ _ rfl HMX.out _ hsz rfl _ HR.out ?_);go_roundw
    case rel=>exact ⟨k+1,by omega,by go_num,HMX.out.skip HG1.out HR.out,HXX.out⟩
    case measure=>simp [intOf];omega
  ·obtain rfl:k=p.gs.length:=by omega
   clear hx hM;go_wp2;go_ret;exact ⟨⟨_,rfl,by omega,HM.out⟩,HX.out⟩
def atB (gs:List Asg) (k:Nat) (l:List UInt8):Bool:=match gs[k]? with|some a=>a.name.toList==l|none=>false
theorem atB_at {gs:List Asg} {k:Nat} {a:Asg} (h:gs[k]?=some a) (l:List UInt8):atB gs k l=(a.name.toList==l):=by unfold atB;rw [h]
def lastTo (gs:List Asg) (t:Int) (l:List UInt8):Nat→Int
 | 0=>-1
 | k+1=>if (k:Int)<t∧atB gs k l=true then (k:Int) else lastTo gs t l k
theorem lastTo_step {gs:List Asg} {t:Int} {l:List UInt8} {k:Nat} {a:Asg} (h:gs[k]?=some a):lastTo gs t l (k+1)=if (k:Int)<t∧(a.name.toList==l)=true then (k:Int) else lastTo gs t l k:=by
 simp only [lastTo,atB_at h]
theorem lastTo_some {gs:List Asg} {t:Int} {l:List UInt8}:∀{k:Nat},0≤lastTo gs t l k→∃(i:Nat) (a:Asg),lastTo gs t l k=i∧i<k∧(i:Int)<t∧gs[i]?=some a∧a.name.toList=l:=by
 intro k
 induction k with
 | zero=>intro h;simp [lastTo] at h
 | succ k ih=>
  intro h;unfold lastTo at h ⊢
  by_cases hc:(k:Int)<t∧atB gs k l=true
  ·rw [if_pos hc]
   cases hg:gs[k]? with
   | none=>have:=hc.2;unfold atB at this;rw [hg] at this;cases this
   | some a=>exact ⟨k,a,rfl,by omega,hc.1,hg,by have:=hc.2;rw [atB_at hg] at this;simpa using this⟩
  ·rw [if_neg hc] at h ⊢
   obtain ⟨i,a,h1,h2,h3⟩:=ih h;exact ⟨i,a,h1,by omega,h3⟩
theorem lastTo_none {gs:List Asg} {t:Int} {l:List UInt8}:∀{k:Nat},lastTo gs t l k<0→∀(i:Nat) (a:Asg),i<k→(i:Int)<t→gs[i]?=some a→a.name.toList≠l:=by
 intro k
 induction k with
 | zero=>intro h i a hi;omega
 | succ k ih=>
  intro h i a hi ht hg;unfold lastTo at h
  by_cases hc:(k:Int)<t∧atB gs k l=true
  ·rw [if_pos hc] at h
   omega
  ·rw [if_neg hc] at h
   by_cases e:i=k
   ·subst e
    intro he;exact hc ⟨ht,by rw [atB_at hg];simp [he]⟩
   ·exact ih h i a (by omega) ht hg
theorem lastTo_asg (gs:List Asg) (t:Nat) (l:List UInt8):decide (0≤lastTo gs t l gs.length)=asgB gs t l:=by
 rw [Bool.eq_iff_iff,decide_eq_true_eq,asgB_iff]
 constructor
 ·intro h
  obtain ⟨i,a,h1,h2,h3,h4,h5⟩:=lastTo_some h;exact ⟨i,a,by omega,h4,h5⟩
 ·rintro ⟨i,a,h1,h2,h3⟩
  by_cases e:0≤lastTo gs t l gs.length
  ·exact e
  ·exact absurd h3 (lastTo_none (gs:=gs) (t:=t) (l:=l) (k:=gs.length) (by omega) i a (List.getElem?_eq_some_iff.1 h2).1 (by omega) h2)
theorem sAssigned_any (lo hi:Nat) (v:Value) (p:Prg) (s:ByteArray) (t:Int) (w:World) (hv:p.R lo hi w v) (hh:hi≤w.heap.size) (hgl:p.gs.length≤1048576) :
  Calls Tryz.prog 183 #[v,.string s,.int .i64 t] w fun e w'=>e = .returned (.int .i64 (lastTo p.gs t s.toList p.gs.length))∧Ext w w':=by
 obtain ⟨a1,c1,a2,c2,rfl,HN,HG⟩:=hv.form;have l3:=HG.le;have l4:=HG.cap;clear hv HN;go_enter Tryz.func183,Tryz.ntmps183;go_wp2
 go_loopw [7,13] (fun q i wr=>∃k:Nat,k≤p.gs.length∧i = .int .i64 k∧q = .int .i64 (lastTo p.gs t s.toList k)∧Ext w wr) (fun _ i _=>p.gs.length - (intOf i).toNat)
 case atStart=>exact ⟨0,by omega,rfl,rfl,X_⟩
 case round=>
  obtain ⟨k,hk,rfl,rfl,hx⟩:=hrel;have HX:=hid hx
  by_cases hlt:k<p.gs.length
  ·obtain ⟨b,off,s2,rt,rfl,hb1,hbw,hdrop,hget,ir,y0,y1⟩:=HG.at hlt hx hh
   have HS:=hid (lastTo_step (t:=t) (l:=s.toList) hget);have HXX:=hid (show Ext w (wr.alloc (.cells #[.string s2,.int .i64 rt] 194)) from X_);clear hdrop hget hx
   by_cases ht:(k:Int)<t
   ·cases he:(s2.toList==s.toList)
    ·have HE:=hid he
     go_wp2;go_roundw
     case rel=>exact ⟨k+1,by omega,by go_num,by rw [HS.out];simp [HE.out],HXX.out⟩
     case measure=>simp [intOf];omega
    ·have HE:=hid he
     go_wp2;go_roundw
     case rel=>exact ⟨k+1,by omega,by go_num,by rw [HS.out];simp only [HE.out,ht,and_self,if_true],HXX.out⟩
     case measure=>simp [intOf];omega
   ·go_wp2
    go_roundw
    case rel=>exact ⟨k+1,by omega,by go_num,by rw [HS.out,if_neg (fun h=>by omega)],HXX.out⟩
    case measure=>simp [intOf];omega
  ·obtain rfl:k=p.gs.length:=by omega
   clear hx;go_wp2;go_ret;exact ⟨rfl,HX.out⟩
end
noncomputable def Prg.nameB (p:Prg) (k:Nat):Bool:=match p.ns[k]? with|some x=>if x.op=2 then isVar x.name||asgB p.gs (p.own k) x.name.toList else if x.op=8 then decide (0≤arity x.name) else true|none=>true
theorem Prg.nameB_at {p:Prg} {k:Nat} {x:Nd} (h:p.ns[k]?=some x):p.nameB k=if x.op=2 then isVar x.name||asgB p.gs (p.own k) x.name.toList else if x.op=8 then decide (0≤arity x.name) else true:=by unfold Prg.nameB;rw [h]
theorem ownL_at {p:Prg} {k:Nat} {y:Int} (h:p.ownL[k]?=some y):y=p.own k:=by
 unfold Prg.ownL at h;rw [List.getElem?_map] at h
 cases hk:(List.range p.ns.length)[k]? with
 | none=>rw [hk] at h;cases h
 | some j=>
  have hj:=(List.getElem?_eq_some_iff.1 hk)
  rw [hk] at h;obtain ⟨h1,h2⟩:=hj;simp at h2;subst h2
  simpa using h.symm
theorem sAssigned_val {gs:List Asg} {t:Nat} {s:ByteArray} {z:Int} (hz:lastTo gs t s.toList gs.length=z) (lo hi:Nat) (v:Value) (p:Prg) (w:World) (hp:p.gs=gs) (hv:p.R lo hi w v) (hh:hi≤w.heap.size) (hgl:p.gs.length≤1048576) :
  Calls Tryz.prog 183 #[v,.string s,.int .i64 t] w fun e w'=>e = .returned (.int .i64 z)∧Ext w w':=by
 subst hp;exact hz▸sAssigned_any lo hi v p s t w hv hh hgl
theorem sNames_any (lo hi:Nat) (v:Value) (p:Prg) (w:World) (hv:p.R lo hi w v) (hh:hi≤w.heap.size) (hp:p.V) (hgl:p.gs.length≤1048576) :
  Calls Tryz.prog 180 #[v] w fun e w'=>(∃i:Int,e = .returned (.int .i64 i)∧decide (0≤i) = !((List.range p.ns.length).all p.nameB))∧Ext w w':=by
 have HV:=hid hv;obtain ⟨a1,c1,a2,c2,rfl,HN,HG⟩:=hv.form;have l1:=HN.le;have l2:=HN.cap;have l3:=HG.le;have l4:=HG.cap;have l5:=hp.len;clear hv;have x0:Ext w (w.alloc (.cells #[.slice a1 p.ns.length c1,.slice a2 p.gs.length c2] 132)):=X_;have bB:=Bx.made w #[.slice a1 p.ns.length c1,.slice a2 p.gs.length c2] 132;go_enter Tryz.func180,Tryz.ntmps180;go_wp2_with fail;refine (sOwners_any lo hi _ p _ (HV.out.ext hh x0) (Nat.le_trans hh x0.size) hp hgl).mono ?_;rintro e w1 ⟨⟨oa,oc,rfl,hO⟩,x1⟩;have hI:=hO.ints;obtain ⟨oa',oc',e1,HO⟩:=hI.open;rw [Prg.ownL_len] at e1;simp only [Value.slice.injEq,true_and] at e1;obtain ⟨rfl,rfl⟩:=e1;have lo1:=HO.le;have lo2:=HO.cap;rw [Prg.ownL_len] at lo1;have bB1:=bB.ext x1;have HB1:=hid bB1;have X1:=hid (x0.trans x1);have q:=bB1.lt;have q0:=bB1.cell 0;simp only [List.getElem?_toArray,List.getElem?_cons_zero,List.getElem?_cons_succ] at q0;have q1:=bB1.cell 1;simp only [List.getElem?_toArray,List.getElem?_cons_zero,List.getElem?_cons_succ] at q1;clear x1 x0 bB bB1 hO hI;go_wp2
 go_loopw [11] (fun i wr=>∃k:Nat,k≤p.ns.length∧i = .int .i64 k∧(∀j,j<k→p.nameB j=true)∧Bx wr w.heap.size #[.slice a1 p.ns.length c1,.slice a2 p.gs.length c2] 132∧Ext w wr∧Ext w1 wr) (fun i _=>p.ns.length - (intOf i).toNat)
 case atStart=>exact ⟨0,by omega,rfl,fun j h=>by omega,HB1.out,X1.out,Ext.refl _⟩
 case round=>
  clear HB1 X1 q q0 q1;obtain ⟨k,hk,rfl,hall,hB,hx,hx1⟩:=hrel;have HA:=hid hall;have HX:=hid hx;have HX1:=hid hx1
  by_cases hlt:k<p.ns.length
  ·obtain ⟨b,off,op,s,num,sa,sc,ra,rfl,hb1,hbw,hget,io,inn,hI,HI,y0,y1,y2,y3⟩:=HN.atW hlt hx hh
   have li1:=HI.le;have li2:=HI.cap;obtain ⟨ob,oo,oy,rfl,hob,hoy,_,hoc⟩:=HO.atE (k:=k) (by rw [Prg.ownL_len];exact hlt) hx1 (Nat.le_refl _);have e9:=ownL_at hoy;subst e9;have q0:Ext wr (wr.alloc (.cells #[.int .i64 op,.string s,.int .i64 num,.slice sa ra.length sc] 243)):=X_;have HND:=hid (Prg.nameB_at hget);have HBW:=hid (hB.ext q0);have hVW:=HV.out.ext hh (hx.trans q0);have HVW:=hid hVW;have zx:=hx.size;clear hget hall hB hx hx1 hI hoy hVW
   rcases (show op=2∨op=8∨(op≠2∧op≠8) by omega) with rfl|rfl|⟨o2,o8⟩
   ·cases hv:isVar s
    ·obtain ⟨z,hz⟩:∃z,lastTo p.gs (p.own k) s.toList p.gs.length=z:=⟨_,rfl⟩
     have HZ:=hid hz;have HVR:=hid hv;have HND2:Hid (p.nameB k=asgB p.gs (p.own k) s.toList):=hid (by rw [HND.out,if_pos rfl,hv];rfl);clear HND;have hbw:=HBW.out;have d:=hbw.lt;have d0:=hbw.cell 0;simp only [List.getElem?_toArray,List.getElem?_cons_zero,List.getElem?_cons_succ] at d0;have d1:=hbw.cell 1;simp only [List.getElem?_toArray,List.getElem?_cons_zero,List.getElem?_cons_succ] at d1;clear hz hv hbw
     have hob':ob≤wr.heap.size:=by omega
     have hob2:ob<wr.heap.size+1:=by omega
     have hbb2:w.heap.size<wr.heap.size+1:=by omega
     go_wp2_with fail;refine wp_region_stages [([0,1,2,3,4,5],6),([7,8,9,10,11,12,13,14,15,16],17),([18],19)] 99 (wr.heap.size+1) (by kernel_rfl) (by kernel_rfl) ?_;refine st_ fun K hK=>?_;go_wp2_with fail;refine (sIsVariable_val HVR.out _).mono ?_;rintro e w2 ⟨rfl,x1⟩;have X2:Ext (wr.alloc (.cells #[.int .i64 2,.string s,.int .i64 num,.slice sa ra.length sc] 243)) w2:=Ext.trans X_ x1;go_wp2_with fail;refine hK _ _ (.inr (fun k _ hk=>x1.block (by first|omega|(simp;omega)))) ?_;clear hK K;refine st_ fun K hK=>?_;go_wp2_with fail;refine (sAssigned_val HZ.out lo hi _ p _ rfl (HVW.out.ext (by simp;omega) X_) (by have:=X2.size;simp at this ⊢;omega) hgl).mono ?_;rintro e w3 ⟨rfl,x3⟩;have X3:=X2.trans x3;go_wp2_with fail;refine hK _ _ (.inr (fun k _ hk=>X3.block (by first|omega|(simp;omega)))) ?_;clear hK K;have hb4:=HBW.out.ext X3;have HX3:=hid ((HX.out.trans q0).trans X3);have HX4:=hid ((HX1.out.trans q0).trans X3);have HB4:=hid hb4
     have hxb:=((Bx.made wr #[.int .i64 2,.string s,.int .i64 num,.slice sa ra.length sc] 243).ext X3)
     have hza:=lastTo_asg p.gs (p.own k) s.toList;rw [HZ.out] at hza;have HZA:=hid hza;have c:=hxb.lt;have c0:=hxb.cell 0;simp only [List.getElem?_toArray,List.getElem?_cons_zero,List.getElem?_cons_succ] at c0;have c1:=hxb.cell 1;simp only [List.getElem?_toArray,List.getElem?_cons_zero,List.getElem?_cons_succ] at c1;have c2:=hxb.cell 2;simp only [List.getElem?_toArray,List.getElem?_cons_zero,List.getElem?_cons_succ] at c2;have c3:=hxb.cell 3;simp only [List.getElem?_toArray,List.getElem?_cons_zero,List.getElem?_cons_succ] at c3;clear hb4 hxb hza
     by_cases hz0:z<0
     ·have HN:Hid (p.nameB k=false):=hid (by rw [HND2.out,←HZA.out];simp;omega)
      refine st_ fun K hK=>?_;go_wp2_with fail;go_wp2_with fail;refine hK _ _ (.inr (fun k _ hk=>X3.block (by first|omega|(simp;omega)))) ?_;clear hK K;refine wpStages_nil ?_;go_wp2;go_ret;exact ⟨⟨_,rfl,by rw [rng_no hlt HN.out];simp⟩,HX3.out⟩
     ·have HN:Hid (p.nameB k=true):=hid (by rw [HND2.out,←HZA.out];simp;omega)
      refine st_ fun K hK=>?_;go_wp2_with fail;go_wp2_with fail;refine hK _ _ (.inr (fun k _ hk=>X3.block (by first|omega|(simp;omega)))) ?_;clear hK K;refine wpStages_nil ?_;go_wp2;go_roundw
      case rel=>
       refine ⟨k+1,by omega,by go_num,fun i hi=>?_,HB4.out,HX3.out,HX4.out⟩
       by_cases e:i=k
       ·subst e;exact HN.out
       ·exact HA.out i (by omega)
      case measure=>simp [intOf];omega
    ·have HN:Hid (p.nameB k=true):=hid (by rw [HND.out,if_pos rfl,hv];rfl)
     have HVR:=hid hv;clear hv;go_wp2_with fail;refine wp_region_stages [([0,1,2,3,4,5],6),([7,8,9,10,11,12,13,14,15,16],17),([18],19)] 99 (wr.heap.size+1) (by kernel_rfl) (by kernel_rfl) ?_;refine st_ fun K hK=>?_;go_wp2_with fail;refine (sIsVariable_val HVR.out _).mono ?_;rintro e w2 ⟨rfl,x1⟩;have X2:Ext (wr.alloc (.cells #[.int .i64 2,.string s,.int .i64 num,.slice sa ra.length sc] 243)) w2:=Ext.trans X_ x1;go_wp2_with fail;refine hK _ _ (.inr (fun k _ hk=>X2.block (by first|omega|(simp;omega)))) ?_;clear hK K;have HX3:=hid ((HX.out.trans q0).trans X2);have HX4:=hid ((HX1.out.trans q0).trans X2);have HB4:=hid (HBW.out.ext X2)
     have hxb:=((Bx.made wr #[.int .i64 2,.string s,.int .i64 num,.slice sa ra.length sc] 243).ext X2)
     have c:=hxb.lt;have c0:=hxb.cell 0;simp only [List.getElem?_toArray,List.getElem?_cons_zero,List.getElem?_cons_succ] at c0;have c1:=hxb.cell 1;simp only [List.getElem?_toArray,List.getElem?_cons_zero,List.getElem?_cons_succ] at c1;have c2:=hxb.cell 2;simp only [List.getElem?_toArray,List.getElem?_cons_zero,List.getElem?_cons_succ] at c2;have c3:=hxb.cell 3;simp only [List.getElem?_toArray,List.getElem?_cons_zero,List.getElem?_cons_succ] at c3;clear hxb;refine st_ fun K hK=>?_;go_wp2_with fail;go_wp2_with fail;refine hK _ _ (.inr (fun k _ hk=>X2.block (by first|omega|(simp;omega)))) ?_;clear hK K;refine st_ fun K hK=>?_;go_wp2_with fail;go_wp2_with fail;refine hK _ _ (.inr (fun k _ hk=>X2.block (by first|omega|(simp;omega)))) ?_;clear hK K;refine wpStages_nil ?_;go_wp2;go_roundw
     case rel=>
      refine ⟨k+1,by omega,by go_num,fun i hi=>?_,HB4.out,HX3.out,HX4.out⟩
      by_cases e:i=k
      ·subst e;exact HN.out
      ·exact HA.out i (by omega)
     case measure=>simp [intOf];omega
   ·obtain ⟨z,hz⟩:∃z,arity s=z:=⟨_,rfl⟩
    have HZ:=hid hz;have HN:Hid (p.nameB k=decide (0≤z)):=hid (by rw [HND.out,hz];rfl);have HX3:=hid (HX.out.trans q0);have HX4:=hid (HX1.out.trans q0);clear hz;go_wp2_with fail;refine wp_region_stages [([0,1,2,3,4,5],6),([7,8,9,10,11,12,13,14,15,16],17),([18],19)] 99 (wr.heap.size+1) (by kernel_rfl) (by kernel_rfl) ?_;refine st_ fun K hK=>?_;go_wp2_with fail;go_wp2_with fail;refine hK _ _ (.inr (fun k _ hk=>Ext.block X_ (by first|omega|(simp;omega)))) ?_;clear hK K;refine st_ fun K hK=>?_;go_wp2_with fail;go_wp2_with fail;refine hK _ _ (.inr (fun k _ hk=>Ext.block X_ (by first|omega|(simp;omega)))) ?_;clear hK K;refine st_ fun K hK=>?_;go_wp2_with fail;go_wp2_with fail;refine hK _ _ (.inr (fun k _ hk=>Ext.block X_ (by first|omega|(simp;omega)))) ?_;clear hK K;refine wpStages_nil ?_;go_wp2_with fail;refine (sArity_val HZ.out _).mono ?_;rintro e w3 ⟨rfl,rfl⟩
    by_cases hz0:0≤z
    ·have HN2:=hid (HN.out.trans (decide_eq_true hz0))
     clear HN;go_wp2;go_roundw
     case rel=>
      refine ⟨k+1,by omega,by go_num,fun i hi=>?_,HBW.out.ext ((Ext.refl _).drew),HX3.out.drew,HX4.out.drew⟩
      by_cases e:i=k
      ·subst e;exact HN2.out
      ·exact HA.out i (by omega)
     case measure=>simp [intOf];omega
    ·have HN2:=hid (HN.out.trans (decide_eq_false hz0))
     clear HN;go_wp2;go_ret;exact ⟨⟨_,rfl,by rw [rng_no hlt HN2.out];simp⟩,HX3.out.drew⟩
   ·have e2:(op==2)=false:=beq_eq_false_iff_ne.2 o2
    have e8:(op==8)=false:=beq_eq_false_iff_ne.2 o8;have HN:Hid (p.nameB k=true):=hid (by rw [HND.out,if_neg o2,if_neg o8]);have HX3:=hid (HX.out.trans q0);have HX4:=hid (HX1.out.trans q0);clear HND;go_wp2_with fail;refine wp_region_stages [([0,1,2,3,4,5],6),([7,8,9,10,11,12,13,14,15,16],17),([18],19)] 99 (wr.heap.size+1) (by kernel_rfl) (by kernel_rfl) ?_;refine st_ fun K hK=>?_;go_wp2_with fail;go_wp2_with fail;refine hK _ _ (.inr (fun k _ hk=>Ext.block X_ (by first|omega|(simp;omega)))) ?_;clear hK K;refine st_ fun K hK=>?_;go_wp2_with fail;go_wp2_with fail;refine hK _ _ (.inr (fun k _ hk=>Ext.block X_ (by first|omega|(simp;omega)))) ?_;clear hK K;refine st_ fun K hK=>?_;go_wp2_with fail;go_wp2_with fail;refine hK _ _ (.inr (fun k _ hk=>Ext.block X_ (by first|omega|(simp;omega)))) ?_;clear hK K;refine wpStages_nil ?_;go_wp2;go_roundw
    case rel=>
     refine ⟨k+1,by omega,by go_num,fun i hi=>?_,HBW.out.ext ((Ext.refl _).drew),HX3.out.drew,HX4.out.drew⟩
     by_cases e:i=k
     ·subst e;exact HN.out
     ·exact HA.out i (by omega)
    case measure=>simp [intOf];omega
  ·obtain rfl:k=p.ns.length:=by omega
   have HN:=hid (rng_all HA.out);clear hall hB hx hx1;go_wp2;go_ret;exact ⟨⟨_,rfl,by rw [HN.out];rfl⟩,HX.out⟩
def Prg.arB (p:Prg) (k:Nat):Bool:=match p.ns[k]? with|some x=>if x.op=8 then decide (arity x.name=x.args.length) else true|none=>true
def Prg.asB (p:Prg) (k:Nat):Bool:=match p.gs[k]? with|some x=>!(isVar x.name) && !(asgB p.gs k x.name.toList)|none=>true
def Prg.colB (p:Prg):Bool:=asgB p.gs p.gs.length [99,111,108,111,114]
noncomputable def Prg.chkB (p:Prg):Bool:=p.okB&&(List.range p.ns.length).all p.nameB&&(List.range p.ns.length).all p.arB&&(List.range p.gs.length).all p.asB&&p.colB
theorem Prg.arB_at {p:Prg} {k:Nat} {x:Nd} (h:p.ns[k]?=some x):p.arB k=if x.op=8 then decide (arity x.name=x.args.length) else true:=by unfold Prg.arB;rw [h]
theorem Prg.asB_at {p:Prg} {k:Nat} {x:Asg} (h:p.gs[k]?=some x):p.asB k=(!(isVar x.name) && !(asgB p.gs k x.name.toList)):=by unfold Prg.asB;rw [h]
theorem sIsValidProgram_val {p:Prg} {b:Bool} (h:p.okB=b) (lo hi:Nat) (v:Value) (w:World) (hv:p.R lo hi w v) (hh:hi≤w.heap.size) (hb:p.bd) (hnl:p.ns.length≤1048576) (hgl:p.gs.length≤1048576) :
  Calls Tryz.prog 179 #[v] w fun e w'=>e = .returned (.bool b)∧Ext w w':=h▸sIsValidProgram_any lo hi v p w hv hh hb hnl hgl
theorem colS:(⟨#[99,111,108,111,114]⟩:ByteArray).toList=[99,111,108,111,114]:=by rw [Lib.toList_data]
theorem sCheck_any (lo hi:Nat) (v:Value) (p:Prg) (w:World) (hv:p.R lo hi w v) (hh:hi≤w.heap.size) (hb:p.bd) (hnl:p.ns.length≤1048576) (hgl:p.gs.length≤1048576) :
  Calls Tryz.prog 120 #[v] w fun e w'=>(∃c k:Int,e = .returned (.tuple #[.int .i64 c,.int .i64 k])∧(c==0)=p.chkB)∧Ext w w':=by
 have HV:=hid hv;obtain ⟨a1,c1,a2,c2,rfl,HN,HG⟩:=hv.form;have l1:=HN.le;have l2:=HN.cap;have l3:=HG.le;have l4:=HG.cap;have HBD:=hid hb;clear hv hb;have x0:Ext w (w.alloc (.cells #[.slice a1 p.ns.length c1,.slice a2 p.gs.length c2] 132)):=X_;have bB:=Bx.made w #[.slice a1 p.ns.length c1,.slice a2 p.gs.length c2] 132
 cases hok:p.okB
 ·have HOK:=hid hok
  have HC:Hid (p.chkB=false):=hid (by unfold Prg.chkB;rw [hok];rfl);clear hok;go_enter Tryz.func120,Tryz.ntmps120;go_wp2_with fail;refine (sIsValidProgram_val HOK.out lo hi _ _ (HV.out.ext hh x0) (Nat.le_trans hh x0.size) HBD.out hnl hgl).mono ?_;rintro e w1 ⟨rfl,x1⟩;have X1:=x0.trans x1;go_wp2;refine bodyPost_ret (v:=.tuple #[.int .i64 1,.int .i64 0]) (by simp [results,Tryz.results120,go_sem]) rfl ⟨⟨_,_,rfl,by rw [HC.out];rfl⟩,X1⟩
 have HP:=hid (Prg.okB_V hok);have l5:=HP.out.len;have HOK:=hid hok;clear hok;go_enter Tryz.func120,Tryz.ntmps120;go_wp2_with fail;refine (sIsValidProgram_val HOK.out lo hi _ _ (HV.out.ext hh x0) (Nat.le_trans hh x0.size) HBD.out hnl hgl).mono ?_;rintro e w1 ⟨rfl,x1⟩;have X1:=x0.trans x1;have bB1:=bB.ext x1;have q:=bB1.lt;have q0:=bB1.cell 0;simp only [List.getElem?_toArray,List.getElem?_cons_zero,List.getElem?_cons_succ] at q0;have q1:=bB1.cell 1;simp only [List.getElem?_toArray,List.getElem?_cons_zero,List.getElem?_cons_succ] at q1;clear x0 x1 bB;go_wp2_with fail;refine (sNames_any lo hi _ p _ (HV.out.ext hh X1) (Nat.le_trans hh X1.size) HP.out hgl).mono ?_;rintro e w2 ⟨⟨i,rfl,hi2⟩,x2⟩;have X2:=X1.trans x2;have bB2:=bB1.ext x2;have HI:=hid hi2;clear x2 bB1 X1 q q0 q1 hi2
 by_cases hi0:0≤i
 ·have HC:Hid (p.chkB=false):=hid (by
   have:=HI.out;rw [decide_eq_true hi0] at this;unfold Prg.chkB
   have e:(List.range p.ns.length).all p.nameB=false:=by revert this;cases (List.range p.ns.length).all p.nameB <;> simp
   rw [e];simp)
  go_wp2;refine bodyPost_ret (v:=.tuple #[.int .i64 2,.int .i64 i]) (by simp [results,Tryz.results120,go_sem]) rfl ⟨⟨_,_,rfl,by rw [HC.out];rfl⟩,X2⟩
 have HNM:Hid ((List.range p.ns.length).all p.nameB=true):=hid (by
  have:=HI.out;rw [decide_eq_false hi0] at this
  revert this;cases (List.range p.ns.length).all p.nameB <;> simp)
 clear HI;have q:=bB2.lt;have q0:=bB2.cell 0;simp only [List.getElem?_toArray,List.getElem?_cons_zero,List.getElem?_cons_succ] at q0;have q1:=bB2.cell 1;simp only [List.getElem?_toArray,List.getElem?_cons_zero,List.getElem?_cons_succ] at q1;have HB2:=hid bB2;have HX2:=hid X2;clear bB2 X2;go_wp2
 go_loopw [20] (fun i wr=>∃k:Nat,k≤p.ns.length∧i = .int .i64 k∧(∀j,j<k→p.arB j=true)∧Bx wr w.heap.size #[.slice a1 p.ns.length c1,.slice a2 p.gs.length c2] 132∧Ext w wr) (fun i _=>p.ns.length - (intOf i).toNat)
 case atStart=>exact ⟨0,by omega,rfl,fun j h=>by omega,HB2.out,HX2.out⟩
 case round=>
  clear HB2 HX2 q q0 q1 hi0;obtain ⟨k,hk,rfl,hall,hB,hx⟩:=hrel;have HA:=hid hall;have HX:=hid hx;have HB:=hid hB
  by_cases hlt:k<p.ns.length
  ·obtain ⟨b,off,op,s,num,sa,sc,ra,rfl,hb1,hbw,hget,io,inn,hI,HI,y0,y1,y2,y3⟩:=HN.atW hlt hx hh
   have li1:=HI.le;have li2:=HI.cap;have q0:Ext wr (wr.alloc (.cells #[.int .i64 op,.string s,.int .i64 num,.slice sa ra.length sc] 243)):=X_;have HND:=hid (Prg.arB_at hget);have HX3:=hid (hx.trans q0);have HB3:=hid (hB.ext q0);clear hget hall hB hx hI HX HB
   by_cases o8:op=8
   ·subst o8
    obtain ⟨z,hz⟩:∃z,arity s=z:=⟨_,rfl⟩
    have HZ:=hid hz;have HN2:Hid (p.arB k=decide (z=ra.length)):=hid (by rw [HND.out,hz];rfl);clear HND hz;go_wp2_with fail;refine wp_region_stages [([0,1,2,3,4,5,7,8,9],6),([10],11)] 99 (wr.heap.size+1) (by kernel_rfl) (by kernel_rfl) ?_;refine st_ fun K hK=>?_;go_wp2_with fail;refine (sArity_val HZ.out _).mono ?_;rintro e w3 ⟨rfl,rfl⟩
    by_cases hz2:z=ra.length
    ·have HN3:=hid (HN2.out.trans (decide_eq_true hz2))
     have e2:(z != (ra.length:Int))=false:=by simp [hz2]
     clear HN2 hz2;go_wp2_with fail;refine hK _ _ (.inr (fun k _ hk=>Ext.block X_ (by first|omega|(simp;omega)))) ?_;clear hK K;refine st_ fun K hK=>?_;go_wp2_with fail;go_wp2_with fail;refine hK _ _ (.inr (fun k _ hk=>Ext.block X_ (by first|omega|(simp;omega)))) ?_;clear hK K;refine wpStages_nil ?_;go_wp2;go_roundw
     case rel=>
      refine ⟨k+1,by omega,by go_num,fun i hi=>?_,HB3.out.ext ((Ext.refl _).drew),HX3.out.drew⟩
      by_cases e:i=k
      ·subst e;exact HN3.out
      ·exact HA.out i (by omega)
     case measure=>simp [intOf];omega
    ·have HN3:=hid (HN2.out.trans (decide_eq_false hz2))
     have e2:(z != (ra.length:Int))=true:=by simp [hz2]
     clear HN2 hz2;go_wp2_with fail;refine hK _ _ (.inr (fun k _ hk=>Ext.block X_ (by first|omega|(simp;omega)))) ?_;clear hK K;refine st_ fun K hK=>?_;go_wp2_with fail;go_wp2_with fail;refine hK _ _ (.inr (fun k _ hk=>Ext.block X_ (by first|omega|(simp;omega)))) ?_;clear hK K;refine wpStages_nil ?_;go_wp2
     have HC:p.chkB=false:=by unfold Prg.chkB;rw [rng_no (p:=p.arB) hlt HN3.out];simp
     refine bodyPost_ret (v:=.tuple #[.int .i64 3,.int .i64 k]) (by simp [results,Tryz.results120,go_sem]) rfl ⟨⟨_,_,rfl,by rw [HC];rfl⟩,HX3.out.drew⟩
   ·have e8:(op==8)=false:=beq_eq_false_iff_ne.2 o8
    have HN3:Hid (p.arB k=true):=hid (by rw [HND.out,if_neg o8]);clear HND;go_wp2_with fail;refine wp_region_stages [([0,1,2,3,4,5,7,8,9],6),([10],11)] 99 (wr.heap.size+1) (by kernel_rfl) (by kernel_rfl) ?_;refine st_ fun K hK=>?_;go_wp2_with fail;go_wp2_with fail;refine hK _ _ (.inr (fun k _ hk=>Ext.block X_ (by first|omega|(simp;omega)))) ?_;clear hK K;refine st_ fun K hK=>?_;go_wp2_with fail;go_wp2_with fail;refine hK _ _ (.inr (fun k _ hk=>Ext.block X_ (by first|omega|(simp;omega)))) ?_;clear hK K;refine wpStages_nil ?_;go_wp2;go_roundw
    case rel=>
     refine ⟨k+1,by omega,by go_num,fun i hi=>?_,HB3.out.ext ((Ext.refl _).drew),HX3.out.drew⟩
     by_cases e:i=k
     ·subst e;exact HN3.out
     ·exact HA.out i (by omega)
    case measure=>simp [intOf];omega
  ·obtain rfl:k=p.ns.length:=by omega
   have q:=hB.lt;have q0:=hB.cell 0;simp only [List.getElem?_toArray,List.getElem?_cons_zero,List.getElem?_cons_succ] at q0;have q1:=hB.cell 1;simp only [List.getElem?_toArray,List.getElem?_cons_zero,List.getElem?_cons_succ] at q1;clear hall hB hx;go_wp2
   go_loopw [42] (fun i wr=>∃k:Nat,k≤p.gs.length∧i = .int .i64 k∧(∀j,j<k→p.asB j=true)∧Bx wr w.heap.size #[.slice a1 p.ns.length c1,.slice a2 p.gs.length c2] 132∧Ext w wr) (fun i _=>p.gs.length - (intOf i).toNat)
   case atStart=>exact ⟨0,by omega,rfl,fun j h=>by omega,HB.out,HX.out⟩
   case round=>
    clear HB HX q q0 q1;obtain ⟨k,hk,rfl,hall,hB,hx⟩:=hrel;have HA2:=hid hall;have HX:=hid hx;have HB:=hid hB
    by_cases hlt:k<p.gs.length
    ·obtain ⟨b,off,s,rt,rfl,hb1,hbw,hdrop,hget,ir,y0,y1⟩:=HG.at hlt hx hh
     have q0:Ext wr (wr.alloc (.cells #[.string s,.int .i64 rt] 194)):=X_;have bQ:=Bx.made wr #[.string s,.int .i64 rt] 194
     obtain ⟨bv,hbv⟩:∃b,isVar s=b:=⟨_,rfl⟩
     have HBV:=hid hbv;have HND:Hid (p.asB k=(!bv && !(asgB p.gs k s.toList))):=hid (by rw [Prg.asB_at hget,hbv]);have HX3:=hid (hx.trans q0);have HB3:=hid (hB.ext q0);clear hdrop hget hall hB hx HX HB hbv;go_wp2_with fail;refine (sIsVariable_val HBV.out _).mono ?_;rintro e w3 ⟨rfl,x3⟩;have HX4:=hid (HX3.out.trans x3);have hB4:=HB3.out.ext x3;have HB4:=hid hB4;have hb5:=bQ.ext x3;have r:=hB4.lt;have r0:=hB4.cell 0;simp only [List.getElem?_toArray,List.getElem?_cons_zero,List.getElem?_cons_succ] at r0;have r1:=hB4.cell 1;simp only [List.getElem?_toArray,List.getElem?_cons_zero,List.getElem?_cons_succ] at r1;have d:=hb5.lt;have d0:=hb5.cell 0;simp only [List.getElem?_toArray,List.getElem?_cons_zero,List.getElem?_cons_succ] at d0;have d1:=hb5.cell 1;simp only [List.getElem?_toArray,List.getElem?_cons_zero,List.getElem?_cons_succ] at d1;clear hB4 hb5 x3 HX3 HB3 bQ q0
     cases bv
     case true=>
      go_wp2
      have HC:p.chkB=false:=by unfold Prg.chkB;rw [rng_no (p:=p.asB) hlt (by rw [HND.out];rfl)];simp
      refine bodyPost_ret (v:=.tuple #[.int .i64 4,.int .i64 k]) (by simp [results,Tryz.results120,go_sem]) rfl ⟨⟨_,_,rfl,by rw [HC];rfl⟩,HX4.out⟩
     obtain ⟨z,hz⟩:∃z,lastTo p.gs k s.toList p.gs.length=z:=⟨_,rfl⟩
     have hza:=lastTo_asg p.gs k s.toList;rw [hz] at hza;have HZ:=hid hz;have HZA:=hid hza;clear hz hza;go_wp2_with fail;refine (sAssigned_val HZ.out lo hi _ p _ rfl (HV.out.ext hh HX4.out) (Nat.le_trans hh HX4.out.size) hgl).mono ?_;rintro e w4 ⟨rfl,x4⟩
     by_cases hz0:0≤z
     ·have HN3:Hid (p.asB k=false):=hid (by rw [HND.out,←HZA.out,decide_eq_true hz0];rfl)
      go_wp2
      have HC:p.chkB=false:=by unfold Prg.chkB;rw [rng_no (p:=p.asB) hlt HN3.out];simp
      refine bodyPost_ret (v:=.tuple #[.int .i64 4,.int .i64 k]) (by simp [results,Tryz.results120,go_sem]) rfl ⟨⟨_,_,rfl,by rw [HC];rfl⟩,HX4.out.trans x4⟩
     ·have HN3:Hid (p.asB k=true):=hid (by rw [HND.out,←HZA.out,decide_eq_false hz0];rfl)
      have HX5:=hid (HX4.out.trans x4);have HB5:=hid (HB4.out.ext x4);clear x4;go_wp2;go_roundw
      case rel=>
       refine ⟨k+1,by omega,by go_num,fun i hi=>?_,HB5.out,HX5.out⟩
       by_cases e:i=k
       ·subst e;exact HN3.out
       ·exact HA2.out i (by omega)
      case measure=>simp [intOf];omega
    ·obtain rfl:k=p.gs.length:=by omega
     have q:=hB.lt;have q0:=hB.cell 0;simp only [List.getElem?_toArray,List.getElem?_cons_zero,List.getElem?_cons_succ] at q0;have q1:=hB.cell 1;simp only [List.getElem?_toArray,List.getElem?_cons_zero,List.getElem?_cons_succ] at q1
     obtain ⟨z,hz⟩:∃z,lastTo p.gs (p.gs.length:Nat) [99,111,108,111,114] p.gs.length=z:=⟨_,rfl⟩
     have hza:=lastTo_asg p.gs p.gs.length [99,111,108,111,114];rw [hz] at hza;have HZ:=hid hz;have HZA:=hid hza;have zx:=hx.size;clear hz hza hall hB hx;go_wp2_with fail;refine (sAssigned_val (z:=z) (t:=p.gs.length) (s:=⟨#[99,111,108,111,114]⟩) (by rw [colS];exact HZ.out) lo hi _ p _ rfl (HV.out.ext hh HX.out) (by omega) hgl).mono ?_;rintro e w4 ⟨rfl,x4⟩;have HX5:=hid (HX.out.trans x4);clear x4;have HC:Hid (p.chkB=decide (0≤z)):=hid (by unfold Prg.chkB Prg.colB;rw [HOK.out,HNM.out,rng_all HA.out,rng_all HA2.out,HZA.out];rfl)
     by_cases hz0:0≤z
     ·have HC2:=hid (HC.out.trans (decide_eq_true hz0))
      clear HC;go_wp2;refine bodyPost_ret (v:=.tuple #[.int .i64 0,.int .i64 0]) (by simp [results,Tryz.results120,go_sem]) rfl ⟨⟨_,_,rfl,HC2.out.symm⟩,HX5.out⟩
     ·have HC2:=hid (HC.out.trans (decide_eq_false hz0))
      have hz1:z<0:=by omega
      clear HC hz0;go_wp2;refine bodyPost_ret (v:=.tuple #[.int .i64 5,.int .i64 0]) (by simp [results,Tryz.results120,go_sem]) rfl ⟨⟨_,_,rfl,HC2.out.symm⟩,HX5.out⟩
section
open Go.RowKit Go.Maps Go.WideMaps
@[go_sem] theorem mkVar (x:Value) (w:World):(Instr.makeInterface 295 x).run Tryz.prog w = .ok (.iface 295 x) w:=run_makeInterface w 295 x (by kernel_rfl)
@[go_sem] theorem mkCall (x:Value) (w:World):(Instr.makeInterface 297 x).run Tryz.prog w = .ok (.iface 297 x) w:=run_makeInterface w 297 x (by kernel_rfl)
@[go_sem] theorem mkPlain (x:Value) (w:World):(Instr.makeInterface 344 x).run Tryz.prog w = .ok (.iface 344 x) w:=run_makeInterface w 344 x (by kernel_rfl)
def exprV (op:Int) (x:Value):Value:=.iface (if op=2 then 295 else if op=8 then 297 else 344) x
theorem iExprOf_any (op:Int) (s:ByteArray) (num:Int) (u:Value) (w:World):Calls Tryz.prog 217 #[.agg #[.int .i64 op,.string s,.int .i64 num,u]] w fun e w'=>e = .returned (exprV op (.agg #[.int .i64 op,.string s,.int .i64 num,u]))∧Ext w w':=by
 rcases (show op=2∨op=8∨(op≠2∧op≠8) by omega) with rfl|rfl|⟨o2,o8⟩
 ·go_enter Tryz.func217,Tryz.ntmps217
  go_wp2;go_ret;exact ⟨rfl,X_⟩
 ·go_enter Tryz.func217,Tryz.ntmps217
  go_wp2;go_ret;exact ⟨rfl,X_⟩
 ·have e2:(op==2)=false:=beq_eq_false_iff_ne.2 o2
  have e8:(op==8)=false:=beq_eq_false_iff_ne.2 o8;go_enter Tryz.func217,Tryz.ntmps217;go_wp2;go_ret;exact ⟨by unfold exprV;rw [if_neg o2,if_neg o8];rfl,X_⟩
theorem as_vv (v:Value) (w:World):(Instr.typeAssert (.iface 295 v) 292 295 true).run Tryz.prog w = .ok (.tuple #[v,.bool true]) w:=by kernel_rfl
theorem as_cv (v:Value) (w:World):(Instr.typeAssert (.iface 297 v) 292 295 true).run Tryz.prog w = .ok (.tuple #[.agg #[.int .i64 0,.string ⟨#[]⟩,.int .i64 0,.slice none 0 0],.bool false]) w:=by kernel_rfl
theorem as_cc (v:Value) (w:World):(Instr.typeAssert (.iface 297 v) 292 297 true).run Tryz.prog w = .ok (.tuple #[v,.bool true]) w:=by kernel_rfl
theorem as_vc (v:Value) (w:World):(Instr.typeAssert (.iface 295 v) 292 297 true).run Tryz.prog w = .ok (.tuple #[.agg #[.int .i64 0,.string ⟨#[]⟩,.int .i64 0,.slice none 0 0],.bool false]) w:=by kernel_rfl
theorem as_pv (v:Value) (w:World):(Instr.typeAssert (.iface 344 v) 292 295 true).run Tryz.prog w = .ok (.tuple #[.agg #[.int .i64 0,.string ⟨#[]⟩,.int .i64 0,.slice none 0 0],.bool false]) w:=by kernel_rfl
theorem as_pc (v:Value) (w:World):(Instr.typeAssert (.iface 344 v) 292 297 true).run Tryz.prog w = .ok (.tuple #[.agg #[.int .i64 0,.string ⟨#[]⟩,.int .i64 0,.slice none 0 0],.bool false]) w:=by kernel_rfl
theorem iIsVariable_val {s:ByteArray} {b:Bool} (h:isVar s=b) (w:World):Calls Tryz.prog 218 #[.string s] w fun e w'=>e = .returned (.bool b)∧w=w':=h▸iIsVariable_any s w
def knownB (gs:List Asg) (op:Int) (s:ByteArray) (o:Nat):Bool:=if op=2 then isVar s||asgB gs o s.toList else if op=8 then decide (0≤arity s) else true
theorem iKnown_any (gs:List Asg) (op:Int) (s:ByteArray) (num:Int) (sa:Option Addr) (sn sc o b:Nat) (w:World) (hM:FM w b gs gs.length) (hs:s.size≤maxLen) (ho:o≤10000000) (hgl:gs.length≤1048576) :
  Calls Tryz.prog 227 #[exprV op (.agg #[.int .i64 op,.string s,.int .i64 num,.slice sa sn sc]),.int .i64 o,.map (some b)] w fun e w'=>e = .returned (.bool (knownB gs op s o))∧Ext w w':=by
 rcases (show op=2∨op=8∨(op≠2∧op≠8) by omega) with rfl|rfl|⟨o2,o8⟩
 ·have h0:=as_vv (.agg #[.int .i64 2,.string s,.int .i64 num,.slice sa sn sc])
  obtain ⟨bv,hbv⟩:∃b,isVar s=b:=⟨_,rfl⟩
  have HBV:=hid hbv
  obtain ⟨r,hr⟩:∃r,frst gs gs.length s.toList=r:=⟨_,rfl⟩
  have HR:=hid hr
  have e1:Hid (knownB gs 2 s o=(bv||r.elim false fun i=>decide (i<o))):=hid (by
   unfold knownB;rw [if_pos rfl,hbv]
   cases r with
   | none=>rw [frst_no hr];rfl
   | some i=>rw [frst_lt hr];rfl)
  have HM:=hid hM;clear hbv hr hM;unfold exprV;rw [if_pos rfl]
  cases r with
  | none=>
   go_enter Tryz.func227,Tryz.ntmps227;go_wp2_with (first|(at_lookup;refine wpList_first_ok _ rfl _ _ rfl _ _ _ rfl (HM.out.ext X_) _ hs rfl _ HR.out ?_)|(go_at_call 218;refine (iIsVariable_val HBV.out _).mono ?_;rintro e w1 ⟨rfl,rfl⟩))
   all_goals (go_ret;exact ⟨ret_bool (by rw [e1.out];first|rfl|simp_all),X_⟩)
  | some i=>
   have HI:Hid (i≤1048576):=hid (by have:=(frst_some HR.out).1;omega);have hi:=HI.out;go_enter Tryz.func227,Tryz.ntmps227;go_wp2_with (first|(at_lookup;refine wpList_first_ok _ rfl _ _ rfl _ _ _ rfl (HM.out.ext X_) _ hs rfl _ HR.out ?_)|(go_at_call 218;refine (iIsVariable_val HBV.out _).mono ?_;rintro e w1 ⟨rfl,rfl⟩))
   all_goals (go_ret;exact ⟨ret_bool (by rw [e1.out];first|rfl|simp_all),X_⟩)
 ·have h0:=as_cv (.agg #[.int .i64 8,.string s,.int .i64 num,.slice sa sn sc])
  have h1:=as_cc (.agg #[.int .i64 8,.string s,.int .i64 num,.slice sa sn sc])
  obtain ⟨z,hz⟩:∃z,arity s=z:=⟨_,rfl⟩
  have HZ:=hid hz;have e1:Hid (knownB gs 8 s o=decide (0≤z)):=hid (by unfold knownB;rw [if_neg (by decide),if_pos rfl,hz]);clear hz;unfold exprV;rw [if_neg (by decide),if_pos rfl];go_enter Tryz.func227,Tryz.ntmps227;go_wp2_with (go_at_call 274;refine (iArity_val HZ.out _).mono ?_;rintro e w1 ⟨rfl,rfl⟩)
  all_goals (go_ret;exact ⟨ret_bool (by rw [e1.out]),X_⟩)
 ·have h0:=as_pv (.agg #[.int .i64 op,.string s,.int .i64 num,.slice sa sn sc])
  have h1:=as_pc (.agg #[.int .i64 op,.string s,.int .i64 num,.slice sa sn sc]);have e1:Hid (knownB gs op s o=true):=hid (by unfold knownB;rw [if_neg o2,if_neg o8]);unfold exprV;rw [if_neg o2,if_neg o8];go_enter Tryz.func227,Tryz.ntmps227;go_wp2
  all_goals (go_ret;exact ⟨ret_bool (by rw [e1.out]),X_⟩)
def fitB (op:Int) (s:ByteArray) (n:Nat):Bool:=if op=8 then decide (arity s=n) else true
theorem iFitting_any (op:Int) (s:ByteArray) (num:Int) (sa:Option Addr) (sn sc:Nat) (w:World) :
  Calls Tryz.prog 228 #[exprV op (.agg #[.int .i64 op,.string s,.int .i64 num,.slice sa sn sc])] w fun e w'=>e = .returned (.bool (fitB op s sn))∧Ext w w':=by
 rcases (show op=2∨op=8∨(op≠2∧op≠8) by omega) with rfl|rfl|⟨o2,o8⟩
 ·have h0:=as_vc (.agg #[.int .i64 2,.string s,.int .i64 num,.slice sa sn sc])
  unfold exprV;rw [if_pos rfl];go_enter Tryz.func228,Tryz.ntmps228;go_wp2_with fail;refine wp_region_stages [([0,1,2,3,4,5,6,7,8,9],10),([11,12],13)] 99 (w.heap.size+1) (by kernel_rfl) (by kernel_rfl) ?_;refine st_ fun K hK=>?_;go_wp2_with fail;go_wp2_with fail;refine hK _ _ (.inr (fun k _ hk=>Ext.block X_ (by first|omega|(simp;omega)))) ?_;clear hK K;refine st_ fun K hK=>?_;go_wp2_with fail;go_wp2_with fail;refine hK _ _ (.inr (fun k _ hk=>Ext.block X_ (by first|omega|(simp;omega)))) ?_;clear hK K;refine wpStages_nil ?_;go_wp2;go_ret;exact ⟨rfl,X_⟩
 ·have h0:=as_cc (.agg #[.int .i64 8,.string s,.int .i64 num,.slice sa sn sc])
  obtain ⟨z,hz⟩:∃z,arity s=z:=⟨_,rfl⟩
  have HZ:=hid hz;have e1:Hid (fitB 8 s sn=decide (z=sn)):=hid (by unfold fitB;rw [if_pos rfl,hz]);clear hz;unfold exprV;rw [if_neg (by decide),if_pos rfl];go_enter Tryz.func228,Tryz.ntmps228;go_wp2_with fail;refine wp_region_stages [([0,1,2,3,4,5,6,7,8,9],10),([11,12],13)] 99 (w.heap.size+1) (by kernel_rfl) (by kernel_rfl) ?_;refine st_ fun K hK=>?_;go_wp2_with fail;refine (iArity_val HZ.out _).mono ?_;rintro e w1 ⟨rfl,rfl⟩;go_wp2_with fail;refine hK _ _ (.inr (fun k _ hk=>Ext.block X_ (by first|omega|(simp;omega)))) ?_;clear hK K;refine st_ fun K hK=>?_;go_wp2_with fail;go_wp2_with fail;refine hK _ _ (.inr (fun k _ hk=>Ext.block X_ (by first|omega|(simp;omega)))) ?_;clear hK K;refine wpStages_nil ?_;go_wp2;go_ret;exact ⟨ret_bool (by rw [e1.out,Bool.eq_iff_iff];simp;omega),X_⟩
 ·have h0:=as_pc (.agg #[.int .i64 op,.string s,.int .i64 num,.slice sa sn sc])
  have e1:Hid (fitB op s sn=true):=hid (by unfold fitB;rw [if_neg o8]);unfold exprV;rw [if_neg o2,if_neg o8];go_enter Tryz.func228,Tryz.ntmps228;go_wp2_with fail;refine wp_region_stages [([0,1,2,3,4,5,6,7,8,9],10),([11,12],13)] 99 (w.heap.size+1) (by kernel_rfl) (by kernel_rfl) ?_;refine st_ fun K hK=>?_;go_wp2_with fail;go_wp2_with fail;refine hK _ _ (.inr (fun k _ hk=>Ext.block X_ (by first|omega|(simp;omega)))) ?_;clear hK K;refine st_ fun K hK=>?_;go_wp2_with fail;go_wp2_with fail;refine hK _ _ (.inr (fun k _ hk=>Ext.block X_ (by first|omega|(simp;omega)))) ?_;clear hK K;refine wpStages_nil ?_;go_wp2;go_ret;exact ⟨by rw [e1.out];rfl,X_⟩
end
end Go.Proofs.YtfjbiifebcfjfaaGreat
