/- Texts of this claim, one behind another; what its theorem does not use is left out: Cp1, Cp2, Sc2, Gx0, Ge10, Cpy, In0, PlanE, L05a, Sc4, TrS, Draw, DrawT, Dr1, Dw1, Gd1, Fresh, Bxs, SrfI, Dw2, Tk2, Tk3, Tk4, Tk5, Ps1, Ps2, C2b, Ps3, Ps4, Ps5, Ps6, Ps7, Ps8, Ps9, Dr2, FlG, Dw3, In1, Ge11, Gd2, Gd3, Gd4, Ge17, Ge12, Ge13, Cp3, Cp4, Cp5, Cp6, Cp7, Ge18, Ge19, In2, Sc5, Sc7, In3, Fr2, In4, In5, Rs1, Rs2, Gd5, Rs3, Sc6, Dw8, Rs4, Cat, Rs5, Rs6. -/
import Derived.Test.YthgpegkmjeigmaaGreatP31W3
import Derived.Test.YthgpegkmjeigmaaGreatP31W1
import Derived.Test.YthgpegkmjeigmaaGreatP31W2
import Derived.Great.BuildSlice
import Derived.Deep.MidRow
import Derived.Laws.CopyRow
import Derived.Laws.CopyOwn
import Derived.Lib.SliceRun
import Derived.Deep.LoopGhost
import Derived.Deep.OwnRows
import Derived.Laws.ResultCell
import Derived.Lib.SlBytesConst
import Derived.Maps.AppendAt
import Derived.Deep.CutBlock
set_option linter.unusedSimpArgs false
set_option linter.unusedVariables false
set_option maxRecDepth 100000
set_option maxHeartbeats 12800000
namespace Go.Proofs.YthgpegkmjeigmaaGreat
open Go.RowKit
open Go.Proofs.Tryz
variable {a:Act} {ops:Array Oper} {Q:Exit→Act→World→Prop} {tm:Int} {xs:List Int} {rest:List Oper} {A g hi i j k lo lo' m n p q r sz:Nat} {f:Nat→Int} {o:Oper} {P:Program} {e t:TypeId} {v:Value} {b w w' wr:World}
open _root_.Array renaming getElem?_eq_some_iff→aQ9,replicate→aUu
open _root_.Bool renaming false_eq_true→aTi,and_eq_true→aQ4,or_eq_true→aVj
open _root_.Go.Act renaming put→aR9
open _root_.Go.Builtin renaming append→aTd
open _root_.Go.Callee renaming builtin→aTe
open _root_.Go.Obj.cells renaming injEq→aR0
open _root_.Go.Proofs.Tryz renaming prog→aQt
open _root_.Go.Proofs.YthgpegkmjeigmaaGreat renaming col→aTo
open _root_.Go.Proofs.YthgpegkmjeigmaaGreat.Blk renaming new→aQx
open _root_.Go.Proofs.YthgpegkmjeigmaaGreat.Ext renaming trans→aQu,drew→aRr,refl→aQy,block→aQ1,grown→aRz,setCell→aQ6,alloc→aW9
open _root_.Go.Proofs.YthgpegkmjeigmaaGreat.SC renaming drew→aTh,blocks→aRx
open _root_.Go.Region renaming Mode→aUz,binds→aVf,ready→aSd,noSelect→aT4,noSelect_spec→aTj,free_spec→aT7
open _root_.Go.Result renaming andThen_ok→aWy
open _root_.Go.RowKit.Below renaming trans→aVr,heap_setCell→aQz
open _root_.Go.Sem renaming run_bind→aYt,run_pure→aZ7
open _root_.Go.Value renaming ownBlock→aRm,slice→aR4
open _root_.Go.Value.slice renaming injEq→aRi
open _root_.Go.World renaming size_alloc→aQp,cell?→aSn,size_setCell→aSc
open _root_.Int renaming toNat_natCast→aRh,natCast_add→aSw,natCast_mul→aT3,cast_ofNat_Int→aWg,lt_or_le→aXr,tdiv_eq_ediv_of_nonneg→aS7,mul_nonneg→aR6,mul_le_mul_of_nonneg_left→aS1
open _root_.List renaming flatMap_cons→aSp,append_assoc→aRp,replicate→aRa,nil_append→aSk,getD_eq_getElem?_getD→aRj,length_map→aR7,append_nil→aTk,getElem?_eq_some_iff→aQq,length_append→aRg,map_append→aSy,take_length→aRo,length_cons→aR3,mem_append→aS2,mem_flatMap→aU7,mem_singleton→aTq,all_eq_true→aRw,getElem?_map→aSf,getElem?_eq_getElem→aQ0,range→aRc,mem_range→aRu,mem_cons→aRb,not_mem_nil→aQ5,range_succ→aS3,flatMap_append→aR1,flatMap_singleton→aUi,take_succ_eq_append_getElem→aRk,take_of_length_le→aRt,length_range→aUf,getElem_map→aU6,getElem_range→aT6,setIfInBounds_toArray→aQv,set_cons_succ→aQ3,set_cons_zero→aQ2,filterMap_cons→aRd,filterMap_nil→aQ7,getElem?_toArray→aQs,getElem?_cons_zero→aQm,getElem?_cons_succ→aQn,mem_of_getElem?→aRe,map_toArray→aYh,map_cons→aSu,map_nil→aVy,length_nil→aSx,take_append_drop→aUt,length_take→aRf,cons_append→aVw,take_append→aW6,length_drop→aTl,getElem?_take→aSr,getElem?_append_right→aRs,getElem?_append_left→aR2,take_take→aX1,take_zero→aU8,eq_nil_of_length_eq_zero→aVa,size_toArray→aVn,map_singleton→aVc,getElem_of_mem→aRn,getElem_mem→aQ8,all_eq_false→aTw,take_add_one→aWt,getElem_toArray→aVt,getElem_cons_succ→aUj,getElem_cons_zero→aUk
open _root_.Nat renaming lt_succ_self→aYk,le_refl→aQo,mul_pos→bAj,mod_lt→aTf,div_lt_of_lt_mul→aTb,mul_le_mul→aRq,zero_add→aRl,lt_or_ge→aRy,add_zero→aSa,mul_le_mul_right→aSh,add_mul→aS4,one_mul→aS5,lt_of_lt_of_le→aSb,min_eq_left→aS6,sub_self→aZ5,mul_zero→aYs,mul_one→aUl,reduceAdd→aTp,reduceMul→aYd,mod_eq_of_lt→aUn,le_trans→aQw,le_of_lt→aTx,zero_le→aR8,add_comm→aYr,succ_mul→aWu
open _root_.Option renaming map_eq_some_iff→aWw
open _root_.Option.some renaming injEq→aQr,inj→aSm
def pG (p:Prg) (s:ByteArray):Nat:=(eM p.gs p.gs.length s.toList).getD 0
def bJ (p:Prg) (x:Nd):Ins:=
 if x.op=1 then ⟨1,⟨#[]⟩,x.num⟩ else if x.op=3 then ⟨5,⟨#[]⟩,3⟩ else if x.op=2 then (if cT x.name then ⟨2,x.name,0⟩ else ⟨3,⟨#[]⟩,(pG p x.name:Nat)⟩) else if x.op=8 then ⟨7,x.name,0⟩ else ⟨6,⟨#[]⟩,x.op⟩
def trF (p:Prg):Nat->Nat->List Ins
 | 0,_=>[]
 | F+1,j=>match p.ns[j]? with|some x=>(x.args.flatMap fun a=>trF p F a.toNat)++[bJ p x]|none=>[]
def Prg.tr (p:Prg) (j:Nat):List Ins:=trF p (j+1) j
def Prg.trs (p:Prg):Nat->List Ins
 | 0=>[]
 | k+1=>p.trs k++(match p.gs[k]? with|some a=>p.tr a.root.toNat++[⟨4,⟨#[]⟩,(k:Nat)⟩]|none=>[])
def Prg.code (p:Prg):Cod:=⟨p.trs p.gs.length,p.gs.map (·.name)⟩
theorem nW {α β : Type} {L:List α} {f g : α->List β} (h:∀a∈L,f a=g a):L.flatMap f=L.flatMap g:=by
 induction L with
 | nil=>rfl
 | cons a r ih=>rw [aSp,aSp,h a (by simp),ih fun b hb=>h b (by simp [hb])]
theorem aOd {p:Prg} (h:p.V):∀(F F' j:Nat),j<F->j<F'->trF p F j=trF p F' j:=by
 intro F
 induction F with
 | zero=>intro F' j hj;omega
 | succ F ih=>
  intro F' j hj h0
  obtain ⟨G,rfl⟩:∃G,F'=G+1:=⟨F' - 1,by omega⟩
  unfold trF
  cases hx:p.ns[j]? with
  | none=>rfl
  | some x=>
   simp only;rw [nW fun a ha=>ih G a.toNat (by have:=(h.nd j x hx).2 a ha;omega) (by have:=(h.nd j x hx).2 a ha;omega)]
theorem Prg.V.tr_step {p:Prg} (h:p.V) {x:Nd} (hx:p.ns[j]?=Option.some x):p.tr j=(x.args.flatMap fun a=>p.tr a.toNat)++[bJ p x]:=by
 have e:p.tr j=(x.args.flatMap fun a=>trF p j a.toNat)++[bJ p x]:=by
  show trF p (j+1) j=_
  rw [trF,hx]
 rw [e,nW fun a ha=>aOd h _ _ _ (by have:=(h.nd j x hx).2 a ha;omega) (aYk _)]
 rfl
theorem Prg.trs_step {p:Prg} {a:Asg} (h:p.gs[k]?=some a):p.trs (k+1)=p.trs k++(p.tr a.root.toNat++[⟨4,⟨#[]⟩,(k:Nat)⟩]):=by
 rw [Prg.trs,h]
theorem xE {p:Prg} (h:p.K) {x:Nd} (hx:p.ns[j]?=some x):cI (bJ p x).op (bJ p x).name=x.args.length/\(bJ p x).op≠4/\fZ (bJ p x).op=1:=by
 rcases jI (h.v.nd j x hx).1 with ⟨o,h2,h3⟩|⟨o,h3⟩|⟨o,h3⟩|⟨o,o',h3⟩|⟨o,h3⟩
 ·unfold bJ;rw [if_pos o,h3];exact ⟨rfl,by show (_:Int)≠4;simp,rfl⟩
 ·unfold bJ
  rw [if_neg (by omega),if_neg (by omega),if_pos o,h3]
  split
  ·exact ⟨rfl,by show (_:Int)≠4;simp,rfl⟩
  ·exact ⟨rfl,by show (_:Int)≠4;simp,rfl⟩
 ·unfold bJ;rw [if_neg (by omega),if_pos o,h3];exact ⟨rfl,by show (_:Int)≠4;simp,rfl⟩
 ·unfold bJ;rw [if_neg (by omega),if_neg (by omega),if_neg (by omega),if_neg (by omega),h3];exact ⟨rfl,by show (_:Int)≠4;simp,rfl⟩
 ·unfold bJ
  rw [if_neg (by omega),if_neg (by omega),if_neg (by omega),if_pos o,<-(h.call j x hx o).2];exact ⟨rfl,by show (7:Int)≠4;simp,rfl⟩
def aMs (p:Prg) (V:Nat->List Int) (k:Nat) (L:List (List Int)):Prop:=∀(i:Nat) (a:Asg),i<k->p.gs[i]?=some a->L.getD i []=V a.root.toNat
theorem aK2 {p:Prg} (h:p.K) {t:Tex} {x:Nd} (hx:p.ns[j]?=some x) {L:List (List Int)} (hL:aMs p (p.ev n m f tm t) (p.own j) L) :
  iM n m f tm t (bJ p x).op (bJ p x).name (bJ p x).num (x.args.map fun a=>p.ev n m f tm t a.toNat) L=p.ev n m f tm t j:=by
 rw [h.ev_step hx];unfold evB
 rcases jI (h.v.nd j x hx).1 with ⟨o,h2,h3⟩|⟨o,h3⟩|⟨o,h3⟩|⟨o,o',h3⟩|⟨o,h3⟩
 ·rw [if_pos o];unfold bJ;rw [if_pos o];rfl
 ·rw [if_neg (by omega),if_pos o]
  unfold bJ;rw [if_neg (by omega),if_neg (by omega),if_pos o]
  cases hv:cT x.name
  ·obtain ⟨i,hi,h0⟩:=h.name j x hx o hv
   obtain ⟨s',g1,g2,g3,g4⟩:=h.root hi
   have e1:pG p x.name=i:=by unfold pG;rw [hi];rfl
   have:=hL i _ h0 g1
   show L.getD ((pG p x.name:Nat):Int).toNat []=p.ev n m f tm t (p.rootOf x.name)
   rw [e1,aRh,this];simp
  ·rfl
 ·rw [if_neg (by omega),if_neg (by omega),if_neg (by omega)]
  unfold bJ;rw [if_neg (by omega),if_pos o,o]
  rfl
 ·rw [if_neg (by omega),if_neg (by omega),if_neg (by omega)]
  unfold bJ;rw [if_neg (by omega),if_neg (by omega),if_neg (by omega),if_neg (by omega)]
  show List.zipWith (eU x.op) _ _=_
  rw [if_neg (by omega)]
 ·rw [if_neg (by omega),if_neg (by omega),if_pos o]
  unfold bJ;rw [if_neg (by omega),if_neg (by omega),if_neg (by omega),if_pos o]
  rfl
theorem aMt {p:Prg} (h:p.K) {t:Tex} {x:Nd} (hx:p.ns[j]?=some x) {L:List (List Int)} (hL:aMs p (p.ev n m f tm t) (p.own j) L) (rest:List Ins) (S:List (List Int)) :
  kW n m f tm t (bJ p x::rest) (S++x.args.map fun a=>p.ev n m f tm t a.toNat) L=kW n m f tm t rest (S++[p.ev n m f tm t j]) L:=by
 obtain ⟨h1,h2,h3⟩:=xE h hx
 have hc:iN (bJ p x).op (bJ p x).name (S++x.args.map fun a=>p.ev n m f tm t a.toNat)=S.length:=by
  unfold iN;rw [h1];simp
 rw [kW];unfold eH gD;rw [if_neg h2,if_neg h2,hc,List.take_left,List.drop_left,aK2 h hx hL]
theorem aOe {p:Prg} (h:p.K) {t:Tex}:∀(F j:Nat),j<F->j<p.ns.length->∀(L:List (List Int)),aMs p (p.ev n m f tm t) (p.own j) L->∀(rest:List Ins) (S:List (List Int)),
  kW n m f tm t (p.tr j++rest) S L=kW n m f tm t rest (S++[p.ev n m f tm t j]) L:=by
 intro F
 induction F with
 | zero=>intro j hj;omega
 | succ F ih=>
  intro j hj h0 L hL rest S
  have hx:p.ns[j]?=some p.ns[j]:=by simp [h0]
  obtain ⟨x,h1⟩:∃x,p.ns[j]=x:=⟨_,rfl⟩
  rw [h1] at hx;rw [h.v.tr_step hx,aRp,<-aMt h hx hL rest S]
  have h2:∀(es:List Int),(∀a∈es,a∈x.args)->∀(rest:List Ins) (S:List (List Int)),kW n m f tm t ((es.flatMap fun a=>p.tr a.toNat)++rest) S L=kW n m f tm t rest (S++es.map fun a=>p.ev n m f tm t a.toNat) L:=by
   intro es
   induction es with
   | nil=>intro _ rest S;simp
   | cons a r ihr=>
    intro hs rest S;have ha:=hs a (by simp);have hr:=h.rank_arg hx ha;have h3:=(h.v.nd j x hx).2 a ha;rw [aSp,aRp,ih a.toNat (by omega) hr.2.1 L (by rw [hr.2.2];exact hL),ihr (fun b hb=>hs b (by simp [hb]))];simp
  exact h2 x.args (fun a ha=>ha) _ S
theorem aMu {p:Prg} (h:p.K) {t:Tex}:∀k,k<=p.gs.length->∀rest,∃L,L.length=p.gs.length/\aMs p (p.ev n m f tm t) k L/\kW n m f tm t (p.trs k++rest) [] (aRa p.gs.length [])=kW n m f tm t rest [] L:=by
 intro k
 induction k with
 | zero=>intro _ rest;exact ⟨aRa p.gs.length [],List.length_replicate,fun i a hi=>by omega,by rw [Prg.trs,aSk]⟩
 | succ k ih=>
  intro hk rest
  have ha:p.gs[k]?=some p.gs[k]:=by simp [show k<p.gs.length by omega]
  obtain ⟨a,h0⟩:∃a,p.gs[k]=a:=⟨_,rfl⟩
  rw [h0] at ha;obtain ⟨L,h1,h2,h3⟩:=ih (by omega) ((p.tr a.root.toNat++[⟨4,⟨#[]⟩,(k:Nat)⟩])++rest);have hr:=(h.v.ag k a ha).2
  have e2:a=⟨a.name,(a.root.toNat:Nat)⟩:=by cases a;simp only [Asg.mk.injEq,true_and] at *;omega
  have ho:p.own a.root.toNat=k:=h.v.own_eq (Own.root (s:=a.name) (by rw [ha];exact congrArg some e2));refine ⟨L.set k (p.ev n m f tm t a.root.toNat),by simp [h1],fun i b hi hb=>?_,?_⟩
  ·rw [aRj,List.getElem?_set]
   by_cases e:k=i
   ·subst e
    rw [ha] at hb;injection hb with hb;subst hb;simp [h1,show k<p.gs.length by omega]
   ·rw [if_neg e,<-aRj]
    exact h2 i b (by omega) hb
  ·rw [Prg.trs_step ha,aRp,h3,aRp,aOe h (a.root.toNat+1) a.root.toNat (by omega) (by omega) L (by rw [ho];exact h2),aSk]
   show kW n m f tm t (_::rest) _ _=_
   rw [kW]
   rfl
theorem Prg.K.out {p:Prg} (h:p.K) (g:Grd):∀(i:Nat) (a:Asg),p.gs[i]?=some a->(p.code.out g).getD i []=evV p g a.root.toNat:=by
 intro i a ha;obtain ⟨L,h1,h2,h3⟩:=aMu h (n:=g.n.toNat) (m:=g.m) (f:=g.f) (tm:=g.tm) (t:=g.t) p.gs.length (aQo _) [];unfold Cod.out Prg.code evV;simp only [aR7];rw [aTk] at h3;rw [h3,kW];exact h2 i a (aQq.1 ha).1 ha
theorem aD1 {p:Prg} (h:p.K) {x:Nd} (hx:p.ns[j]?=some x):wfI (bJ p x).op (bJ p x).name (bJ p x).num p.gs.length=true/\gX (bJ p x)=true/\((bJ p x).op=3->∃i,i<p.own j/\(bJ p x).num=(i:Nat)):=by
 have e0:((⟨#[]⟩:ByteArray).toList==[])=true:=by rw [Lib.toList_data];rfl
 have hv:=h.v;have h1:=(aQq.1 hx).1
 rcases jI (h.v.nd j x hx).1 with ⟨o,h2,h3⟩|⟨o,h3⟩|⟨o,h3⟩|⟨o,o',h3⟩|⟨o,h3⟩
 ·unfold bJ
  rw [if_pos o];have:=aG.1 h2;refine ⟨by simp [wfI,e0],aG.2 (by simp only;omega),fun e=>by simp at e⟩
 ·unfold bJ
  rw [if_neg (by omega),if_neg (by omega),if_pos o]
  cases hv:cT x.name
  ·obtain ⟨i,hi,h0⟩:=h.name j x hx o hv
   obtain ⟨g1,⟨a,g2,_⟩,_⟩:=eX hi;have hl:=(aQq.1 g2).1
   have e1:pG p x.name=i:=by unfold pG;rw [hi];rfl
   refine ⟨?_,?_,fun _=>⟨i,h0,by simp [e1]⟩⟩
   ·simp only [aTi,if_false,wfI,e1,e0]
    simp [aG];omega
   ·simp only [aTi,if_false,e1]
    refine aG.2 ⟨by simp only;omega,?_⟩;simp only;have:=h.v.gs_len;omega
  ·simp only [if_true,wfI,hv]
   exact ⟨by simp,aG.2 (by simp),fun e=>by simp at e⟩
 ·unfold bJ
  rw [if_neg (by omega),if_pos o];exact ⟨by simp [wfI,e0],aG.2 (by simp),fun e=>by simp at e⟩
 ·unfold bJ
  rw [if_neg (by omega),if_neg (by omega),if_neg (by omega),if_neg (by omega)];exact ⟨by simp [wfI,e0,aG];omega,aG.2 (by simp only;omega),fun e=>by simp at e⟩
 ·unfold bJ
  rw [if_neg (by omega),if_neg (by omega),if_neg (by omega),if_pos o];have:=(h.call j x hx o).1;exact ⟨by simp [wfI,this],aG.2 (by simp),fun e=>by simp at e⟩
theorem aOf {p:Prg} (h:p.K) {x:Nd} (hx:p.ns[j]?=some x):(p.tr j).length=1+(x.args.map fun a=>(p.tr a.toNat).length).sum:=by
 rw [h.v.tr_step hx,aRg,List.length_flatMap];simp;omega
theorem aMv {p:Prg}:∀k,k<=p.gs.length->(p.trs k).length=((p.gs.take k).map fun a=>(p.tr a.root.toNat).length).sum+k:=by
 intro k
 induction k with
 | zero=>intro _;rfl
 | succ k ih=>
  intro hk
  have ha:p.gs[k]?=some p.gs[k]:=by simp [show k<p.gs.length by omega]
  rw [Prg.trs_step ha,aRg,ih (by omega),<-List.take_append_getElem (show k<p.gs.length by omega),aSy,List.sum_append];simp;omega
theorem nX {p:Prg} (h:p.K):p.code.xs.length<=120:=by
 show (p.trs p.gs.length).length<=120
 rw [aMv _ (aQo _),aRo,h.v.sum_roots (fun j=>(p.tr j).length) fun j x hx=>aOf h hx];have:=h.v.len;have:=h.v.gs_len;omega
theorem aK3 {p:Prg} (h:p.K) {x:Nd} (hx:p.ns[j]?=some x) {st:Nat->Bool} (hst:∀i,i<p.own j->st i=true) (rest:List Ins) (d m:Int) (hd:0<=d) (hr:∀m',(iA p.gs.length rest (d+1) m' st).isSome=true) :
  (iA p.gs.length (bJ p x::rest) (d+x.args.length) m st).isSome=true:=by
 obtain ⟨h1,h2,h3⟩:=xE h hx;obtain ⟨w1,w2,w3⟩:=aD1 h hx;unfold iA;rw [if_pos ⟨w1,fun e=>by obtain ⟨i,hi,hn⟩:=w3 e;rw [hn];exact hst i hi,by rw [h1];omega⟩,h1,h3]
 have em:hZ (bJ p x).op (bJ p x).num st=st:=by unfold hZ;rw [if_neg h2]
 rw [em,show d+(x.args.length:Int) - x.args.length+1=d+1 by omega];exact hr _
theorem aMw {p:Prg} (h:p.K):∀(F j:Nat),j<F->j<p.ns.length->∀(st:Nat->Bool),(∀i,i<p.own j->st i=true)->∀(rest:List Ins) (d m:Int),0<=d->(∀m',(iA p.gs.length rest (d+1) m' st).isSome=true) ->
  (iA p.gs.length (p.tr j++rest) d m st).isSome=true:=by
 intro F
 induction F with
 | zero=>intro j hj;omega
 | succ F ih=>
  intro j hj h1 st h0 rest d m hd hr
  have hx:p.ns[j]?=some p.ns[j]:=by simp [h1]
  obtain ⟨x,h2⟩:∃x,p.ns[j]=x:=⟨_,rfl⟩
  rw [h2] at hx;rw [h.v.tr_step hx,aRp]
  have h3:∀(es:List Int),(∀a∈es,a∈x.args)->∀(rest:List Ins) (d m:Int),0<=d->(∀m',(iA p.gs.length rest (d+es.length) m' st).isSome=true)->(iA p.gs.length ((es.flatMap fun a=>p.tr a.toNat)++rest) d m st).isSome=true:=by
   intro es
   induction es with
   | nil=>intro _ rest d m _ hr;simpa using hr m
   | cons a r ihr=>
    intro hs rest d m hd hr;have ha:=hs a (by simp);have hk:=h.rank_arg hx ha;have h4:=(h.v.nd j x hx).2 a ha;rw [aSp,aRp];refine ih a.toNat (by omega) hk.2.1 st (by rw [hk.2.2];exact h0) _ d m hd fun m'=>?_;refine ihr (fun b hb=>hs b (by simp [hb])) rest (d+1) m' (by omega) fun m2=>?_;have:=hr m2;rw [aR3] at this;rw [show d+1+(r.length:Int)=d+((r.length+1:Nat):Int) by omega];exact this
  exact h3 x.args (fun a ha=>ha) _ d m hd fun m'=>aK3 h hx h0 rest d m' hd hr
theorem aK4 {p:Prg} (h:p.K):∀k,k<=p.gs.length->∀(rest:List Ins) (m:Int),(∀m' st,(∀i,i<k->st i=true)->(iA p.gs.length rest 0 m' st).isSome=true)->(iA p.gs.length (p.trs k++rest) 0 m fun _=>false).isSome=true:=by
 intro k
 induction k with
 | zero=>intro _ rest m hr;rw [Prg.trs,aSk];exact hr m _ fun i hi=>by omega
 | succ k ih=>
  intro hk rest m hr
  have ha:p.gs[k]?=some p.gs[k]:=by simp [show k<p.gs.length by omega]
  obtain ⟨a,h0⟩:∃a,p.gs[k]=a:=⟨_,rfl⟩
  rw [h0] at ha;have h1:=(h.v.ag k a ha).2
  have e2:a=⟨a.name,(a.root.toNat:Nat)⟩:=by cases a;simp only [Asg.mk.injEq,true_and] at *;omega
  have ho:p.own a.root.toNat=k:=h.v.own_eq (Own.root (s:=a.name) (by rw [ha];exact congrArg some e2))
  have e0:((⟨#[]⟩:ByteArray).toList==[])=true:=by rw [Lib.toList_data];rfl
  rw [Prg.trs_step ha,aRp];refine ih (by omega) _ m fun m' st hst=>?_;rw [aRp];refine aMw h (a.root.toNat+1) a.root.toNat (by omega) (by omega) st (by rw [ho];exact hst) _ 0 m' (by omega) fun m2=>?_
  show (iA p.gs.length (_::rest) _ _ _).isSome=true
  unfold iA;rw [if_pos ⟨by simp [wfI,e0,aG];omega,fun e=>by simp at e,by show (1:Int)<=0+1;omega⟩];refine hr _ _ fun i hi=>?_
  show hZ 4 ((k:Nat):Int) st i=true
  unfold hZ;rw [if_pos rfl];simp only [aRh]
  by_cases e:i=k
  ·rw [if_pos e]
  ·rw [if_neg e];exact hst i (by omega)
theorem aMx {p:Prg} (h:p.K):∀x∈p.code.xs,gX x=true:=by
 have t1:∀(F j:Nat),j<F->j<p.ns.length->∀x∈p.tr j,gX x=true:=by
  intro F
  induction F with
  | zero=>intro j hj;omega
  | succ F ih=>
   intro j hj h0 y hy
   have hx:p.ns[j]?=some p.ns[j]:=by simp [h0]
   rw [h.v.tr_step hx] at hy
   rcases aS2.1 hy with hy|hy
   ·obtain ⟨a,ha,hy⟩:=aU7.1 hy
    have hk:=h.rank_arg hx ha;have h1:=(h.v.nd j _ hx).2 a ha;exact ih a.toNat (by omega) hk.2.1 y hy
   ·rw [aTq.1 hy]
    exact (aD1 h hx).2.1
 have t2:∀k,k<=p.gs.length->∀x∈p.trs k,gX x=true:=by
  intro k
  induction k with
  | zero=>intro _ x hx;cases hx
  | succ k ih=>
   intro hk x hx
   have ha:p.gs[k]?=some p.gs[k]:=by simp [show k<p.gs.length by omega]
   have h2:=(h.v.ag k _ ha).2;rw [Prg.trs_step ha] at hx
   rcases aS2.1 hx with hx|hx
   ·exact ih (by omega) x hx
   ·rcases aS2.1 hx with hx|hx
    ·exact t1 _ _ (aYk _) (by omega) x hx
    ·rw [aTq.1 hx]
     have:=h.v.gs_len;exact aG.2 (by simp only;omega)
 exact t2 _ (aQo _)
theorem Prg.K.runB {p:Prg} (h:p.K):p.code.runB=true:=by
 unfold Cod.runB;rw [aQ4];refine ⟨?_,aRw.2 (aMx h)⟩;unfold Cod.depth;rw [if_pos (by have:=nX h;omega)]
 show (iA (p.gs.map (·.name)).length (p.trs p.gs.length) 0 0 fun _=>false).isSome=true
 rw [aR7];have:=aK4 h p.gs.length (aQo _) [] 0 fun m' st _=>rfl
 rwa [aTk] at this
theorem vB {gs:List Asg} {l:List UInt8}:ixL l (gs.map (·.name))=match eM gs gs.length l with|some k=>(k:Int)|none=>-1:=by
 cases h:eM gs gs.length l with
 | none=>
  refine aGd fun j z hj hz=>?_;rw [aSf] at hz;obtain ⟨a,ha,rfl⟩:=aWw.1 hz;intro e;have h1:=uZ (t:=gs.length) h;rw [jG.2 ⟨j,a,(aQq.1 ha).1,ha,e⟩] at h1;cases h1
 | some k=>
  obtain ⟨h1,⟨a,h2,h3⟩,h4⟩:=eX h;refine aGc (y:=a.name) (by simp [h2]) h3 fun j z hj hz=>?_;rw [aSf] at hz;obtain ⟨b,hb,rfl⟩:=aWw.1 hz;exact h4 j b hj hb
theorem aD2 {p:Prg} (h:p.K) {g:Grd} (hg:g.okB=true) (hr:r<p.ns.length):fG g.m (evV p g r):=by
 obtain ⟨n,hn,h0,n1,n8,_,ht,hf⟩:=Grd.partsE hg
 have hV:evV p g=p.ev n g.m g.f g.tm g.t:=by unfold evV;rw [hn];rfl
 rw [hV];exact h.ev_good h0 hf ht (p.rank r+1) r (by omega) hr
theorem aAm (h:q<xs.length):(xs.map col).getD q 0=col (xs.getD q 0):=by
 rw [aRj,aRj,aSf,aQ0 h]
 rfl
theorem Prg.K.shade {p:Prg} (h:p.K) (hp:p.chkB=true) {g:Grd} (hg:g.okB=true):∃X Y:List Int,p.code.shade g=(X,Y,true)/\X.length=g.m/\Y.length=g.m /\
  ∀i j:Nat,(i:Int)<g.n->(j:Int)<g.n->X.getD ((j:Int)*g.n+i).toNat 0=shC p g i j/\Y.getD ((j:Int)*g.n+i).toNat 0=shA p g i j:=by
 obtain ⟨n,hn,h6,n1,n8,_,ht,hf⟩:=Grd.partsE hg
 have h7:0<g.m:=by rw [<-h6];exact bAj n1 n1
 have hR:(p.code.runB&&g.okB)=true:=by rw [h.runB,hg];rfl
 have h3:p.code.res g=p.code.out g:=by unfold Cod.res;rw [if_pos hR]
 obtain ⟨k,hk⟩:=h.col;obtain ⟨s,r,k1,k2,k3,k4⟩:=h.asg hk
 have h5:kB p.code.ls=(k:Int):=by
  unfold kB;rw [aL9]
  show ixL _ (p.gs.map (·.name))=_
  rw [vB,hk]
 have o1:(p.code.out g).getD k []=evV p g r:=by have:=h.out g k _ k1;simpa using this
 have g1:=aD2 h hg k2
 have ne:∀{xs:List Int},xs.length=g.m->xs≠[]:=fun hl e=>by rw [e] at hl;simp at hl;omega
 have pt:∀i j:Nat,(i:Int)<g.n->(j:Int)<g.n->∃q,((j:Int)*g.n+i).toNat=q/\q<g.m/\aMl p g i j=true:=fun i j hi hj=>by
  refine ⟨_,rfl,?_,?_⟩
  ·rw [hn] at hi hj ⊢
   have:=aOz h6 (i:=i) (j:=j) (by omega) (by omega);rw [show ((j:Int)*n+i)=((j*n+i:Nat):Int) by simp];exact this
  ·unfold aMl
   rw [hp,hg];simp only [Bool.true_and,aQ4];exact ⟨aG.2 (by omega),aG.2 (by omega)⟩
 have h0:∀i j:Nat,(i:Int)<g.n->(j:Int)<g.n->((evV p g r).map aTo).getD ((j:Int)*g.n+i).toNat 0=shC p g i j:=fun i j hi hj=>by
  obtain ⟨q,hq,h2,h1⟩:=pt i j hi hj;unfold shC;rw [if_pos h1,hq,wR hk k1,aAm (by rw [g1.1];exact h2)]
  rfl
 cases ha:eM p.gs p.gs.length [97,108,112,104,97] with
 | none=>
  have h4:gS p.code.ls = -1:=by
   unfold gS;rw [aKq]
   show ixL _ (p.gs.map (·.name))=_
   rw [vB,ha]
  refine ⟨(evV p g r).map aTo,aRa g.m 256,?_,by rw [aR7,g1.1],by simp,fun i j hi hj=>⟨h0 i j hi hj,?_⟩⟩
  ·unfold Cod.shade
   rw [h5,h4,h3,aRh,o1,if_pos ⟨hR,by omega,ne g1.1,.inl (by omega)⟩,if_pos (by omega)]
  ·obtain ⟨q,hq,h2,h1⟩:=pt i j hi hj
   unfold shA;rw [if_pos h1,hq,aF4 ha,aRj,List.getElem?_replicate,if_pos h2]
   rfl
 | some l=>
  obtain ⟨s',r',l1,l2,l3,l4⟩:=h.asg ha
  have h4:gS p.code.ls=(l:Int):=by
   unfold gS;rw [aKq]
   show ixL _ (p.gs.map (·.name))=_
   rw [vB,ha]
  have o2:(p.code.out g).getD l []=evV p g r':=by have:=h.out g l _ l1;simpa using this
  have g2:=aD2 h hg l2;refine ⟨(evV p g r).map aTo,(evV p g r').map aTo,?_,by rw [aR7,g1.1],by rw [aR7,g2.1],fun i j hi hj=>⟨h0 i j hi hj,?_⟩⟩
  ·unfold Cod.shade
   rw [h5,h4,h3,aRh,aRh,o1,o2,if_pos ⟨hR,by omega,ne g1.1,.inr (ne g2.1)⟩,if_neg (by omega)]
  ·obtain ⟨q,hq,h2,h1⟩:=pt i j hi hj
   unfold shA;rw [if_pos h1,hq,wR ha l1,aAm (by rw [g2.1];exact h2)]
   rfl
def gL (lo hi:Nat) (w:World) (v:Value) (ps:List Prg):Prop:=
 ∃a cap,v = .slice a ps.length cap/\ps.length<=cap/\cap<=maxLen/\∀k p,ps[k]?=some p->∃b off u1 u2,a=some ⟨b,off,none⟩/\lo<=b/\b<hi/\w.cell? ⟨b,off+k*2,none⟩=some u1/\w.cell? ⟨b,off+k*2+1,none⟩=some u2/\p.R lo hi w (.agg #[u1,u2])
theorem gL.same {ps:List Prg} (h:gL lo hi w v ps) (s:aM lo hi w w'):gL lo hi w' v ps:=by
 obtain ⟨a,cap,h1,h2,h3,h4⟩:=h;refine ⟨a,cap,h1,h2,h3,fun k p hk=>?_⟩;obtain ⟨b,h0,u1,u2,e1,e2,e3,e4,e5,e6⟩:=h4 k p hk;exact ⟨b,h0,u1,u2,e1,e2,e3,(s.cell e2 e3).trans e4,(s.cell e2 e3).trans e5,e6.same s⟩
theorem gL.ext {ps:List Prg} (h:gL lo hi w v ps) (hh:hi<=w.heap.size) (e:Ext w w'):gL lo hi w' v ps:=h.same (e.same hh)
structure aB5 (lo hi:Nat) (w:World) (a:Option Addr) (cap:Nat) (ps:List Prg):Prop where
 le:ps.length<=cap
 cap:cap<=9223372036854775807
 cell:∀k p,ps[k]?=some p->∃b off u1 u2,a=some ⟨b,off,none⟩/\lo<=b/\b<hi/\w.cell? ⟨b,off+k*2,none⟩=some u1/\w.cell? ⟨b,off+k*2+1,none⟩=some u2/\p.R lo hi w (.agg #[u1,u2])
theorem gL.open {ps:List Prg} (h:gL lo hi w v ps):∃a cap,v = .slice a ps.length cap/\aB5 lo hi w a cap ps:=by
 obtain ⟨a,cap,g1,g2,g3,g4⟩:=h;exact ⟨a,cap,g1,g2,by unfold maxLen at g3;omega,g4⟩
theorem aB5.at {a:Option Addr} {cap:Nat} {ps:List Prg} (h:aB5 lo hi w a cap ps) (hk:k<ps.length) (hx:Ext w wr) (hh:hi<=w.heap.size) :
  ∃b off a1 c1 a2 c2,a=some ⟨b,off,none⟩/\b<w.heap.size/\b<wr.heap.size/\wr.cell? ⟨b,off+k*2,none⟩=some (.slice a1 ps[k].ns.length c1)/\wr.cell? ⟨b,off+k*2+1,none⟩=some (.slice a2 ps[k].gs.length c2)/\ps[k].R lo hi wr (.agg #[.slice a1 ps[k].ns.length c1,.slice a2 ps[k].gs.length c2]):=by
 obtain ⟨b,off,u1,u2,e,h1,h2,c0,c1,hu⟩:=h.cell k ps[k] (by simp [hk]);have hz:=hx.size;obtain ⟨a1,k1,a2,k2,e1,-,-⟩:=hu.form;simp only [Value.agg.injEq,Array.mk.injEq,List.cons.injEq,and_true] at e1;obtain ⟨rfl,rfl⟩:=e1;exact ⟨b,off,a1,k1,a2,k2,e,by omega,by omega,(hx.cells.1 b _ (by omega)).trans c0,(hx.cells.1 b _ (by omega)).trans c1,hu.ext hh hx⟩
structure Scn where
 c:Cam
 t:Tex
 ps:List Prg
 m:Nat
 F:Nat->Int
 side:Int
def Scn.st (s:Scn) (k:Nat):Nat->Int:=fun j=>s.F (k*26+j)
def Scn.en (s:Scn) (k:Nat):Nat->Int:=fun j=>s.F (k*26+12+j)
def Scn.sh (s:Scn) (k:Nat):Int:=s.F (k*26+24)
def Scn.rt (s:Scn) (k:Nat):Int:=s.F (k*26+25)
def Scn.R (s:Scn) (lo hi:Nat) (w:World) (v:Value):Prop:=
 ∃tu pu su,v = .agg #[s.c.w,s.c.h,s.c.zoom,s.c.near,.bool s.c.deep,s.c.lens,s.c.focus,s.t.log,tu,pu,su,s.side] /\
  s.c.I/\I64 s.t.log/\I64 s.side/\aU lo hi w tu s.t.px/\gL lo hi w pu s.ps/\cY 26 lo hi w su s.m s.F
theorem Scn.R.same {s:Scn} (h:s.R lo hi w v) (e:aM lo hi w w'):s.R lo hi w' v:=by
 obtain ⟨tu,pu,su,h1,h2,h3,h4,h5,h6,h7⟩:=h;exact ⟨tu,pu,su,h1,h2,h3,h4,h5.same e,h6.same e,h7.same e⟩
theorem Scn.R.ext {s:Scn} (h:s.R lo hi w v) (hh:hi<=w.heap.size) (e:Ext w w'):s.R lo hi w' v:=h.same (e.same hh)
theorem Scn.R.form {s:Scn} (h:s.R lo hi w v) :
  ∃a1 c1 a2 c2 a3 c3,v = .agg #[s.c.w,s.c.h,s.c.zoom,s.c.near,.bool s.c.deep,s.c.lens,s.c.focus,s.t.log,.slice a1 s.t.px.length c1,.slice a2 s.ps.length c2,.slice a3 s.m c3,s.side] /\
   s.c.I/\I64 s.t.log/\I64 s.side/\fY lo hi w a1 c1 s.t.px/\aB5 lo hi w a2 c2 s.ps/\jO 26 lo hi w a3 c3 s.m s.F:=by
 obtain ⟨tu,pu,su,rfl,h2,h3,h4,h5,h6,h7⟩:=h;obtain ⟨a1,c1,rfl,H1⟩:=h5.open;obtain ⟨a2,c2,rfl,H2⟩:=h6.open;obtain ⟨a3,c3,rfl,H3⟩:=h7.open;exact ⟨a1,c1,a2,c2,a3,c3,rfl,h2,h3,h4,H1,H2,H3⟩
def qR (f:Nat->Int):Bool:=cU (f 0) (f 1) (f 2)&&cU (f 3) (f 4) (f 5)&&cU (f 6) (f 7) (f 8)&&cU (f 9) (f 10) (f 11)
def uE (r:Int):Bool:=r==1||r==2||r==4||r==8
def pV (r:Int):Bool:=r==1||r==2||r==4
def aMy (f g:Nat->Int) (sh rt:Int) (n:Nat):Bool:=qR f&&qR g&&decide (0<=sh)&&decide (sh<(n:Int))&&uE rt
def Scn.srfB (s:Scn) (k:Nat):Bool:=aMy (s.st k) (s.en k) (s.sh k) (s.rt k) s.ps.length
noncomputable def Scn.okB (s:Scn):Bool:=s.c.okB&&s.t.okB&&inB (s.ps.length:Int) 1 3&&decide (s.m<=5)&&pV s.side&&s.ps.all Prg.chkB&&(aRc s.m).all s.srfB
def Scn.small (s:Scn):Prop:=∀p∈s.ps,p.bd/\p.small
structure Scn.Ok (s:Scn):Prop where
 c:s.c.Ok
 cb:s.c.okB=true
 t:s.t.okB=true
 n:1<=s.ps.length/\s.ps.length<=3
 m:s.m<=5
 side:s.side=1\/s.side=2\/s.side=4
 prg:∀p∈s.ps,p.chkB=true
 srf:∀k,k<s.m->s.srfB k=true
theorem Scn.okB_iff {s:Scn}:s.okB=true↔s.Ok:=by
 unfold Scn.okB pV;simp only [aQ4,aG,decide_eq_true_eq,aRw,aRu,aVj,beq_iff_eq]
 constructor
 ·rintro ⟨⟨⟨⟨⟨⟨a,b⟩,d,d'⟩,e⟩,f⟩,g⟩,h⟩
  exact ⟨Cam.okB_iff.1 a,a,b,⟨by omega,by omega⟩,e,by omega,g,h⟩
 ·rintro ⟨a,a',b,d,e,f,g,h⟩
  exact ⟨⟨⟨⟨⟨⟨a',b⟩,by omega,by omega⟩,e⟩,by omega⟩,g⟩,h⟩
structure aPb (f g:Nat->Int) (sh rt:Int) (n:Nat):Prop where
 f:qR f=true
 g:qR g=true
 sh:0<=sh/\sh<n
 rt:rt=1\/rt=2\/rt=4\/rt=8
theorem aK5 {g:Nat->Int} {sh rt:Int}:aMy f g sh rt n=true↔aPb f g sh rt n:=by
 unfold aMy uE;simp only [aQ4,decide_eq_true_eq,aVj,beq_iff_eq]
 constructor
 ·rintro ⟨⟨⟨⟨a,b⟩,c⟩,d⟩,e⟩
  exact ⟨a,b,⟨c,d⟩,by omega⟩
 ·rintro ⟨a,b,⟨c,d⟩,e⟩
  exact ⟨⟨⟨⟨a,b⟩,c⟩,d⟩,by omega⟩
def aAn (f:Nat->Int) (n:Nat):Nat->Int:=fun q=>
 if q % 5=0 then ((q / 5 % n:Nat):Int)*256 / (n:Int) else if q % 5=1 then ((q / 5 / n:Nat):Int)*256 / (n:Int)
 else if q % 5=2 then (evP f ((q / 5 % n:Nat):Int) ((q / 5 / n:Nat):Int) n).x else if q % 5=3 then (evP f ((q / 5 % n:Nat):Int) ((q / 5 / n:Nat):Int) n).y
 else (evP f ((q / 5 % n:Nat):Int) ((q / 5 / n:Nat):Int) n).z
def mY (f:Nat->Int) (n:Nat) (t:Tex):Grd:=⟨(n:Int),n*n,aAn f n,0,t⟩
def Scn.prg (s:Scn) (k:Nat):Prg:=s.ps.getD (s.sh k).toNat ⟨[],[]⟩
def Scn.grd (s:Scn) (k:Nat):Grd:=mY (s.st k) (s.rt k).toNat s.t
def Scn.shade (s:Scn) (k:Nat):List Int×List Int:=let r:=(s.prg k).code.shade (s.grd k);(r.1,r.2.1)
def Scn.hits (s:Scn) (k:Nat) (p:Smp):List aP:=tN s.c (aY (s.st k) (s.en k) p.t) (s.rt k).toNat p (k:Nat) (s.shade k).1 (s.shade k).2
abbrev sA_ (s:Scn) (a1:Option Addr) (c1:Nat) (a2:Option Addr) (c2:Nat) (a3:Option Addr) (c3:Nat):Array Value:=#[.int .i64 s.c.w,.int .i64 s.c.h,.int .i64 s.c.zoom,.int .i64 s.c.near,.bool s.c.deep,.int .i64 s.c.lens,.int .i64 s.c.focus,.int .i64 s.t.log,.slice a1 s.t.px.length c1,.slice a2 s.ps.length c2,.slice a3 s.m c3,.int .i64 s.side]
abbrev sL_ (s:Scn) (a1:Option Addr) (c1:Nat) (a2:Option Addr) (c2:Nat) (a3:Option Addr) (c3:Nat):List Value:=[.int .i64 s.c.w,.int .i64 s.c.h,.int .i64 s.c.zoom,.int .i64 s.c.near,.bool s.c.deep,.int .i64 s.c.lens,.int .i64 s.c.focus,.int .i64 s.t.log,.slice a1 s.t.px.length c1,.slice a2 s.ps.length c2,.slice a3 s.m c3,.int .i64 s.side]
def qS (s:Smp) (k:Int) (cols als:List Int) (m:Mc):List aP:=
 if qD m.a m.b m.d s.at then [⟨eC m.a m.b m.d s.at,k,m.v*m.n+m.u,cols.getD (m.v*m.n+m.u).toNat 0,als.getD (m.v*m.n+m.u).toNat 0⟩] else []
theorem aAo (a b d:V3) (s:Smp) (k:Int) (cols als:List Int) (u v n:Nat) :
  aH3 a b d s.at k ((v*n+u:Nat):Int) (cols.getD (v*n+u) 0) (als.getD (v*n+u) 0)=qS s k cols als ⟨a,b,d,(u:Nat),(v:Nat),(n:Nat)⟩:=by
 have e:((v:Nat):Int)*((n:Nat):Int)+((u:Nat):Int)=((v*n+u:Nat):Int):=by rw [aSw,aT3]
 unfold aH3 qS;simp only [e,aRh]
theorem aD3 (c:Cam) (f:Nat->Int) (n:Nat) (s:Smp) (k:Int) (cols als:List Int) (u v:Nat):zW c f n s k cols als u v=(fX c f n s u v).flatMap (qS s k cols als):=by
 unfold zW fX
 split
 ·rw [aAo,aAo]
  simp only [aSp,List.flatMap_nil,aTk]
 ·rfl
theorem xF (c:Cam) (f:Nat->Int) (n:Nat) (s:Smp) (k:Int) (cols als:List Int):tN c f n s k cols als=(jW c f n s).flatMap (qS s k cols als):=by
 unfold tN qE jW;rw [List.flatMap_assoc];exact vY fun q _=>aD3 ..
structure aPy (n:Nat) (m:Mc):Prop where
 a:m.a.scr
 b:m.b.scr
 d:m.d.scr
 z:(-1000000<=m.a.z/\m.a.z<=1000000)/\(-1000000<=m.b.z/\m.b.z<=1000000)/\(-1000000<=m.d.z/\m.d.z<=1000000)
 q:∃u v:Nat,m.u=(u:Nat)/\m.v=(v:Nat)/\m.n=(n:Nat)/\u<n/\v<n
theorem lV (c:Cam) (f:Nat->Int) (n:Nat) (s:Smp) (u v:Nat):(cW c f n s u v).scr:=⟨aM9 _,aM9 _⟩
theorem tG (c:Cam) (f:Nat->Int) (s:Smp) {u v:Nat} (hn:1<=n) (hu:u<=n) (hv:v<=n) : -1000000<=(cW c f n s u v).z/\(cW c f n s u v).z<=1000000:=
 ⟨aJo (by omega) (by omega) (by omega) (cM _).1 (cM _).1 (cM _).1 (cM _).1,aJp (by omega) (by omega) (by omega) (cM _).2 (cM _).2 (cM _).2 (cM _).2⟩
theorem aD4 {c:Cam} {s:Smp} (hn:1<=n):∀m∈jW c f n s,aPy n m:=by
 intro m hm;unfold jW at hm;rw [aU7] at hm;obtain ⟨q,hq,hm⟩:=hm;rw [aRu] at hq;have hu:q % n<n:=aTf _ (by omega);have hv:q / n<n:=aTb hq;generalize q % n=u at hu hm;generalize q / n=v at hv hm;unfold fX at hm
 split at hm
 ·simp only [aRb,aQ5,or_false] at hm
  rcases hm with rfl|rfl
  ·exact ⟨lV ..,lV ..,lV ..,⟨tG _ _ _ hn (by omega) (by omega),tG _ _ _ hn (by omega) (by omega),tG _ _ _ hn (by omega) (by omega)⟩,u,v,rfl,rfl,rfl,hu,hv⟩
  ·exact ⟨lV ..,lV ..,lV ..,⟨tG _ _ _ hn (by omega) (by omega),tG _ _ _ hn (by omega) (by omega),tG _ _ _ hn (by omega) (by omega)⟩,u,v,rfl,rfl,rfl,hu,hv⟩
 ·cases hm
theorem rU (c:Cam) (f:Nat->Int) (s:Smp) (hn:n<=8):(jW c f n s).length<=128:=by
 have h:∀q,((aRc q).flatMap fun i=>fX c f n s (i % n) (i / n)).length<=2*q:=by
  intro q
  induction q with
  | zero=>simp
  | succ q ih=>
   rw [aS3,aR1,aRg,aUi];have:=iW c f n s (q % n) (q / n);omega
 have h2:=h (n*n);have h3:n*n<=8*8:=aRq hn hn;unfold jW;omega
def aB6 (s:Smp) (k:Int) (cols als:List Int) (ms:List Mc) (j:Nat):List aP:=(ms.take j).flatMap (qS s k cols als)
theorem lW {s:Smp} {k:Int} {cols als:List Int} {ms:List Mc} {m:Mc} (h:ms[j]?=some m):aB6 s k cols als ms (j+1)=aB6 s k cols als ms j++qS s k cols als m:=by
 obtain ⟨hj,rfl⟩:=aQq.1 h;unfold aB6;rw [aRk hj,aR1,aUi]
theorem aD5 (s:Smp) (k:Int) (cols als:List Int) (ms:List Mc):aB6 s k cols als ms ms.length=ms.flatMap (qS s k cols als):=by unfold aB6;rw [aRo]
theorem aD6 (s:Smp) (k:Int) (cols als:List Int) (m:Mc):(qS s k cols als m).length<=1:=by unfold qS;split <;> simp
theorem uF (s:Smp) (k:Int) (cols als:List Int) (ms:List Mc):∀j,(aB6 s k cols als ms j).length<=j:=by
 intro j
 induction j with
 | zero=>exact aQo _
 | succ j ih=>
  cases h:ms[j]? with
  | none=>
   have hl:=List.getElem?_eq_none_iff.1 h;unfold aB6 at ih ⊢;rw [aRt (by omega)] at ih ⊢;omega
  | some m=>
   rw [lW h,aRg];have:=aD6 s k cols als m;omega
theorem Ext.setRow {w1:World} (h:Ext w w1) (hg:w.heap.size<=g) (cs:Array Value):Ext w (w1.setRow g cs):=
 aVr h ⟨rfl,rfl,rfl,by simp,fun k hk=>setRow_other _ _ _ _ (by omega)⟩
theorem Blk.row {cs:List Value} (h:Blk w g t cs) (ds:List Value):Blk (w.setRow g ds.toArray) g t ds:=setRow_heap _ _ _ _ _ _ h
theorem Blk.otherRow {g':Nat} {cs:List Value} (h:Blk w g t cs) (ne:g≠g') (ds:Array Value):Blk (w.setRow g' ds) g t cs:=h.of (setRow_other _ _ _ _ ne)
theorem eN {C:World->Prop} {Q:Act->Prop} {op:Oper} (hw:Region.wanted op (yielded ops a.tmps)=true) (ty:TypeId) (x:Operand) (ho:op.op = .load ty x)
  (b o:Nat) (hx:a.eval x = .pointer (some ⟨b,o,none⟩)) (cs:List Value) (d:TypeDesc) (hC:∀w,C w->w.rangeAt b o cs) (hu:P.underlying ty=some d) (hd:d.isRow=true) (hi:(P.info? ty).map (·.size)=some cs.length)
  (h:wpQuiet P ops C Q rest (a.put op.dst (.agg cs.toArray))):wpQuiet P ops C Q (op::rest) a:=by
 refine wpQuiet_step fun K hK=>?_;rw [if_pos hw];refine ⟨.agg cs.toArray,fun w hw=>?_,hK _ h⟩;unfold Oper.quietAt execOp;simp only [ho,hx,aYt,run_loadAt_mid w b o ty cs d (hC w hw) hu hd hi,aWy];exact ⟨rfl,rfl⟩
def CHt (N:Nat):Addr->Prop:=fun a=>a.block<N
@[go_sem] theorem aPz {N o:Nat} (h:k<N):CHt N ⟨k,o,none⟩:=h
theorem aF.rowE {α : Type} {cs : α->List Value} {xs:List α} (h:aF cs lo e sz w v xs):∀k,v.ownBlock=some k->lo<=k/\∃c,w.heap[k]?=some (.cells c e (0,0)):=by
 intro k hk
 rcases h.2 with ⟨rfl,h4⟩|⟨g,cap,cur,rfl,hb,hg,_⟩
 ·simp [aRm] at hk
 ·simp only [aRm,aQr] at hk
  subst hk;exact ⟨hb,_,hg⟩
theorem aF.grownE {α : Type} {cs : α->List Value} {e':TypeId} {xs:List α} {row:Option Nat} (h:aF cs lo e sz w v xs) (hg:w.grownBy w' row) (he:e≠e') (hr:∀k,row=some k->∃c,w.heap[k]?=some (.cells c e' (0,0))):aF cs lo e sz w' v xs:=
 h.of fun b c _ hb=>(hg.block b (aQ9.1 hb).1 fun e1=>by
  obtain ⟨c',hc'⟩:=hr b e1.symm;rw [hb] at hc';simp only [aQr,aR0] at hc'
  exact he hc'.2.1).trans hb
theorem iD:(Tryz.prog.info? 95).map (fun i=>(i.zero,i.size,i.bytes))=some (some (.agg #[(),(),(),(),()]),5,40):=by kernel_rfl
theorem iE (w:World) (hg:o.guard=none) (s x:Operand)
  (hop:o.op=Op.call { callee:=aTe aTd,args:=#[s,x],argTypes:=#[48,48] }) (lo:Nat) (v:Value) (xs:List aP) (hs:a.eval s=v) (hown:aF aP.cs lo 95 5 w v xs)
  (y:aP) (b:Nat) (hx:a.eval x = .slice (some ⟨b,0,none⟩) 1 1) (hcell:∀j,j<5->w.cell? ⟨b,j,none⟩=y.cs[j]?) (hlen:xs.length<1000000) (hlo:lo<=w.heap.size)
  (hK:∀v' w',aF aP.cs lo 95 5 w' v' (xs++[y])->w.grownBy w' v.ownBlock->wpList aQt ops Q rest (a.put o.dst v') w'):wpList aQt ops Q (o::rest) a w:=by
 refine dW aP.cs 95 5 40 _ w hg s x 48 hop underlying48 iD rfl (by decide) (by decide) (fun _=>rfl) lo v xs hs hown y b hx hcell ?_ hlen hlo hK;intro u hu;simp only [aP.cs,aRb,aQ5,or_false] at hu
 rcases hu with rfl|rfl|rfl|rfl|rfl <;> rfl
theorem fQ:(Tryz.prog.info? 127).map (fun i=>i.size)=some 26:=by kernel_rfl
theorem aI6 (s:Scn) (lo hi:Nat) (v:Value) (k:Nat) (p:Smp) (n:Nat) (cols als:List Int) (cu au:Value) (w:World) (hv:s.R lo hi w v) (hh:hi<=w.heap.size) (hk:k<s.m) (hr:s.rt k=(n:Nat)) (hn:1<=n/\n<=8) (hp:p.okB s.c=true)
  (hc:aU 0 w.heap.size w cu cols) (ha:aU 0 w.heap.size w au als) (hlc:cols.length=n*n) (hla:als.length=n*n) :
  Calls aQt 58 #[v,(k:Nat),.agg #[p.x,p.y,p.t,p.lx,p.ly],.agg #[cu,au]] w fun e w'=>∃r,e = .returned r/\aF aP.cs w.heap.size 95 5 w' r (tN s.c (aY (s.st k) (s.en k) p.t) n p (k:Nat) cols als)/\Ext w w':=by
 obtain ⟨a1,c1,a2,c2,a3,c3,rfl,-,-,-,-,-,hF⟩:=hv.form;obtain ⟨a4,c4,rfl,hC⟩:=hc.open;obtain ⟨a5,c5,rfl,hA⟩:=ha.open;have e5:=hF.cap;have g7:=hF.le;obtain ⟨b,h6,rfl,g1,g2,h0⟩:=hF.at hk (by decide)
 obtain ⟨f,hf⟩:∃f,s.st k=f:=⟨_,rfl⟩
 obtain ⟨g,hg⟩:∃f,s.en k=f:=⟨_,rfl⟩
 obtain ⟨sh,b0⟩:∃f,s.sh k=f:=⟨_,rfl⟩
 have bw:b<w.heap.size:=by omega
 have xw:Ext w (((w.alloc (.cells (sA_ s a1 c1 a2 c2 (some ⟨b,h6,none⟩) c3) 40)).alloc (.cells #[p.x,p.y,p.t,p.lx,p.ly] 42)).alloc (.cells #[.slice a4 cols.length c4,.slice a5 als.length c5] 91)):=X_
 have q5:(((w.alloc (.cells (sA_ s a1 c1 a2 c2 (some ⟨b,h6,none⟩) c3) 40)).alloc (.cells #[p.x,p.y,p.t,p.lx,p.ly] 42)).alloc (.cells #[.slice a4 cols.length c4,.slice a5 als.length c5] 91)).rangeAt b (h6+k*26) ((aRc 26).map fun j=>.int .i64 (s.F (k*26+j))):=by
  intro j v hj;obtain ⟨h1,h2⟩:=aQq.1 hj;simp only [aR7,aUf] at h1;simp only [aU6,aT6] at h2;subst h2;exact (xw.cells.1 b _ bw).trans (h0 j h1)
 change (((w.alloc (.cells (sA_ s a1 c1 a2 c2 (some ⟨b,h6,none⟩) c3) 40)).alloc (.cells #[p.x,p.y,p.t,p.lx,p.ly] 42)).alloc (.cells #[.slice a4 cols.length c4,.slice a5 als.length c5] 91)).rangeAt b (h6+k*26) [(s.st k 0),(s.st k 1),(s.st k 2),(s.st k 3),(s.st k 4),(s.st k 5),(s.st k 6),(s.st k 7),(s.st k 8),(s.st k 9),(s.st k 10),(s.st k 11),(s.en k 0),(s.en k 1),(s.en k 2),(s.en k 3),(s.en k 4),(s.en k 5),(s.en k 6),(s.en k 7),(s.en k 8),(s.en k 9),(s.en k 10),(s.en k 11),(s.sh k),(s.rt k)] at q5;simp only [hf,hg,b0,hr] at q5;have q0:=aQx w 40 (sL_ s a1 c1 a2 c2 (some ⟨b,h6,none⟩) c3);have q1:=aQx (w.alloc (.cells (sA_ s a1 c1 a2 c2 (some ⟨b,h6,none⟩) c3) 40)) 42 [p.x,p.y,p.t,p.lx,p.ly];have q2:=aQx ((w.alloc (.cells (sA_ s a1 c1 a2 c2 (some ⟨b,h6,none⟩) c3) 40)).alloc (.cells #[p.x,p.y,p.t,p.lx,p.ly] 42)) 91 [.slice a4 cols.length c4,.slice a5 als.length c5];simp only [aQp] at q1 q2;have r0:=q0.ext (show Ext (w.alloc (.cells (sA_ s a1 c1 a2 c2 (some ⟨b,h6,none⟩) c3) 40)) (((w.alloc (.cells (sA_ s a1 c1 a2 c2 (some ⟨b,h6,none⟩) c3) 40)).alloc (.cells #[p.x,p.y,p.t,p.lx,p.ly] 42)).alloc (.cells #[.slice a4 cols.length c4,.slice a5 als.length c5] 91)) from X_);have r1:=q1.ext (show Ext ((w.alloc (.cells (sA_ s a1 c1 a2 c2 (some ⟨b,h6,none⟩) c3) 40)).alloc (.cells #[p.x,p.y,p.t,p.lx,p.ly] 42)) (((w.alloc (.cells (sA_ s a1 c1 a2 c2 (some ⟨b,h6,none⟩) c3) 40)).alloc (.cells #[p.x,p.y,p.t,p.lx,p.ly] 42)).alloc (.cells #[.slice a4 cols.length c4,.slice a5 als.length c5] 91)) from X_);have r2:=q2.ext (show Ext (((w.alloc (.cells (sA_ s a1 c1 a2 c2 (some ⟨b,h6,none⟩) c3) 40)).alloc (.cells #[p.x,p.y,p.t,p.lx,p.ly] 42)).alloc (.cells #[.slice a4 cols.length c4,.slice a5 als.length c5] 91)) (((w.alloc (.cells (sA_ s a1 c1 a2 c2 (some ⟨b,h6,none⟩) c3) 40)).alloc (.cells #[p.x,p.y,p.t,p.lx,p.ly] 42)).alloc (.cells #[.slice a4 cols.length c4,.slice a5 als.length c5] 91)) from X_)
 have z3:(((w.alloc (.cells (sA_ s a1 c1 a2 c2 (some ⟨b,h6,none⟩) c3) 40)).alloc (.cells #[p.x,p.y,p.t,p.lx,p.ly] 42)).alloc (.cells #[.slice a4 cols.length c4,.slice a5 als.length c5] 91)).heap.size=w.heap.size+3:=by simp
 have HC:=hid hC;have HA:=hid hA;have g0:=hid hc;have e9:=hid ha;have HP:=hid hp
 have ht:0<=p.t/\p.t<=16:=by
  unfold Smp.okB at hp;simp only [aQ4,aG] at hp;omega
 have HT:=hid ht;have b6:=hid hlc;have b3:=hid hla;clear hlc hla q0 q1 q2 hC hA hc ha hp ht h0 hF hv b0 hr;rw [hf,hg,xF];have z5:=aD4 (c:=s.c) (f:=aY f g p.t) (n:=n) (s:=p) hn.1;have z1:=rU s.c (aY f g p.t) p hn.2
 obtain ⟨M,h9⟩:∃M,jW s.c (aY f g p.t) n p=M:=⟨_,rfl⟩
 rw [h9] at z5 z1 ⊢;have d1:=hid z5;have b8:=hid z1;have b9:=hid h9;clear hf hg z5 z1 h9;go_enter func58,ntmps58;go_upto_region 1 with fail
 obtain ⟨W0,q9⟩:∃W0,(((w.alloc (.cells (sA_ s a1 c1 a2 c2 (some ⟨b,h6,none⟩) c3) 40)).alloc (.cells #[p.x,p.y,p.t,p.lx,p.ly] 42)).alloc (.cells #[.slice a4 cols.length c4,.slice a5 als.length c5] 91))=W0:=⟨_,rfl⟩
 rw [q9] at q5 r0 r1 r2 z3 xw
 try simp only [aQp] at q9
 rw [q9];clear q9
 have bl:b<W0.heap.size:=by omega
 have d0:=r0.cell 10 rfl;have l0:=r0.lt;have R0:=hid r0;have R1:=hid r1;have R2:=hid r2;have XW:=hid xw;have Z3:=hid z3;clear r0 r1 r2 xw z3
 go_cut [9,10] from 16 to 21 (fun r q wx=>∃A,q = .pointer (some ⟨A,0,none⟩)/\Ext W0 wx/\W0.heap.size<=A/\Blk wx A 127 [(f 0),(f 1),(f 2),(f 3),(f 4),(f 5),(f 6),(f 7),(f 8),(f 9),(f 10),(f 11),(g 0),(g 1),(g 2),(g 3),(g 4),(g 5),(g 6),(g 7),(g 8),(g 9),(g 10),(g 11),sh,(n:Nat)]/\aF aP.cs W0.heap.size 95 5 wx r [])
 case first=>
  refine cZ 8 W0.heap.size (by kernel_rfl) ?_;refine aZ (fuel:=3) [1,2,3,4,5] [0,6] (by kernel_rfl) (fun b _ hb=>rfl) ?_
  try simp only [aR9,aQv,aQ3,aQ2]
  simp only [aRd,aQ7,aQs,aQm,aQn]
  show wpQuiet _ _ _ _ [_,_,_,_,_] _
  go_big_quiet_step (fail)
  go_big_quiet_step (fail)
  go_big_quiet_step (fail)
  go_big_quiet_step (fail)
  refine eN rfl _ _ rfl b (h6+k*26) rfl [(f 0),(f 1),(f 2),(f 3),(f 4),(f 5),(f 6),(f 7),(f 8),(f 9),(f 10),(f 11),(g 0),(g 1),(g 2),(g 3),(g 4),(g 5),(g 6),(g 7),(g 8),(g 9),(g 10),(g 11),sh,(n:Nat)] _ (by rintro _ ⟨d,rfl⟩ j v hj;rw [jC _ _ _ _ bl];exact q5 j v hj) underlying127 rfl fQ ?_
  try simp only [aR9,aQv,aQ3,aQ2]
  refine wpQuiet_nil ?_;intro e he;simp only [aRb,aQ5,or_false] at he
  rcases he with rfl|rfl
  ·(unfold bU;simp only [aQs,aQn,aQm,aQr];refine ⟨_,rfl,fun K hK=>?_⟩)
   go_wp2;have y1:Ext W0 (W0.drew.alloc (.cells #[] 95)):=X_;refine hK _ _ (.inr (fun b _ hb=>y1.block (by omega))) ?_;clear hK K;refine aZ (fuel:=2) [] [6] (by kernel_rfl) (fun b _ hb=>y1.block (by omega)) ?_;refine wpQuiet_nil ?_;intro e he;simp only [aRb,aQ5,or_false] at he;subst he
   (unfold bU;simp only [aQs,aQn,aQm,aQr];refine ⟨_,rfl,fun K hK=>?_⟩)
   go_wp2;have y2:Ext W0 ((W0.drew.alloc (.cells #[] 95)).alloc (.cells #[(),(),(),(),(),(),(),(),(),(),(),(),(),(),(),(),(),(),(),(),(),(),(),(),(),()] 127)):=X_
   have bF:Blk ((W0.drew.alloc (.cells #[] 95)).alloc (.cells #[(),(),(),(),(),(),(),(),(),(),(),(),(),(),(),(),(),(),(),(),(),(),(),(),(),()] 127)) (W0.heap.size) 95 []:=by exact (aQx W0.drew 95 []).alloc (.cells #[(),(),(),(),(),(),(),(),(),(),(),(),(),(),(),(),(),(),(),(),(),(),(),(),(),()] 127)
   have bS:Blk ((W0.drew.alloc (.cells #[] 95)).alloc (.cells #[(),(),(),(),(),(),(),(),(),(),(),(),(),(),(),(),(),(),(),(),(),(),(),(),(),()] 127)) (W0.heap.size+1) 127 [(),(),(),(),(),(),(),(),(),(),(),(),(),(),(),(),(),(),(),(),(),(),(),(),(),()]:=by have q:=aQx (W0.drew.alloc (.cells #[] 95)) 127 [(),(),(),(),(),(),(),(),(),(),(),(),(),(),(),(),(),(),(),(),(),(),(),(),(),()];rw [aQp] at q;exact q
   refine hK _ _ (.inr (fun b _ hb=>y2.block (by omega))) ?_;clear hK K;refine aZ (fuel:=0) [7] [8] (by kernel_rfl) (fun b _ hb=>y2.block (by omega)) ?_
   try simp only [aR9,aQv,aQ3,aQ2]
   simp only [aRd,aQ7,aQs,aQm,aQn]
   show wpQuiet _ _ _ _ [_] _
   repeat (go_big_quiet_step (fail))
   refine wpQuiet_nil ?_;intro e he;simp only [aRb,aQ5,or_false] at he;subst he
   (unfold bU;simp only [aQs,aQn,aQm,aQr];refine ⟨_,rfl,fun K hK=>?_⟩)
   try simp only [aQp,World.drew_heap]
   refine wpList_store_rowTo rfl _ _ _ rfl rfl (W0.heap.size+1) #[(f 0),(f 1),(f 2),(f 3),(f 4),(f 5),(f 6),(f 7),(f 8),(f 9),(f 10),(f 11),(g 0),(g 1),(g 2),(g 3),(g 4),(g 5),(g 6),(g 7),(g 8),(g 9),(g 10),(g 11),sh,(n:Nat)] rfl rfl 127 _ bS fQ rfl (by rw [List.all_toArray];rfl) ?_;go_wp2;refine l_ hK ?_;clear hK K;refine bX (by kernel_rfl) ?_;go_wp2_with fail
   go_meet
   exact ⟨W0.heap.size+1,rfl,y2.setRow (by omega) _,by omega,bS.row [(f 0),(f 1),(f 2),(f 3),(f 4),(f 5),(f 6),(f 7),(f 8),(f 9),(f 10),(f 11),(g 0),(g 1),(g 2),(g 3),(g 4),(g 5),(g 6),(g 7),(g 8),(g 9),(g 10),(g 11),sh,(n:Nat)],aF.fresh0 (by omega) (bF.otherRow (by omega) _)⟩
  ·(unfold bU;simp only [aQs,aQn,aQm,aQr];refine ⟨_,rfl,fun K hK=>?_⟩)
   go_wp2;have y1:Ext W0 (W0.drew.alloc (.cells #[(),(),(),(),(),(),(),(),(),(),(),(),(),(),(),(),(),(),(),(),(),(),(),(),(),()] 127)):=X_;refine hK _ _ (.inr (fun b _ hb=>y1.block (by omega))) ?_;clear hK K;refine aZ (fuel:=2) [] [0] (by kernel_rfl) (fun b _ hb=>y1.block (by omega)) ?_;refine wpQuiet_nil ?_;intro e he;simp only [aRb,aQ5,or_false] at he;subst he
   (unfold bU;simp only [aQs,aQn,aQm,aQr];refine ⟨_,rfl,fun K hK=>?_⟩)
   go_wp2;have y2:Ext W0 ((W0.drew.alloc (.cells #[(),(),(),(),(),(),(),(),(),(),(),(),(),(),(),(),(),(),(),(),(),(),(),(),(),()] 127)).alloc (.cells #[] 95)):=X_
   have bF:Blk ((W0.drew.alloc (.cells #[(),(),(),(),(),(),(),(),(),(),(),(),(),(),(),(),(),(),(),(),(),(),(),(),(),()] 127)).alloc (.cells #[] 95)) (W0.heap.size+1) 95 []:=by have q:=aQx (W0.drew.alloc (.cells #[(),(),(),(),(),(),(),(),(),(),(),(),(),(),(),(),(),(),(),(),(),(),(),(),(),()] 127)) 95 [];rw [aQp] at q;exact q
   have bS:Blk ((W0.drew.alloc (.cells #[(),(),(),(),(),(),(),(),(),(),(),(),(),(),(),(),(),(),(),(),(),(),(),(),(),()] 127)).alloc (.cells #[] 95)) (W0.heap.size) 127 [(),(),(),(),(),(),(),(),(),(),(),(),(),(),(),(),(),(),(),(),(),(),(),(),(),()]:=by exact (aQx W0.drew 127 [(),(),(),(),(),(),(),(),(),(),(),(),(),(),(),(),(),(),(),(),(),(),(),(),(),()]).alloc (.cells #[] 95)
   refine hK _ _ (.inr (fun b _ hb=>y2.block (by omega))) ?_;clear hK K;refine aZ (fuel:=0) [7] [8] (by kernel_rfl) (fun b _ hb=>y2.block (by omega)) ?_
   try simp only [aR9,aQv,aQ3,aQ2]
   simp only [aRd,aQ7,aQs,aQm,aQn]
   show wpQuiet _ _ _ _ [_] _
   repeat (go_big_quiet_step (fail))
   refine wpQuiet_nil ?_;intro e he;simp only [aRb,aQ5,or_false] at he;subst he
   (unfold bU;simp only [aQs,aQn,aQm,aQr];refine ⟨_,rfl,fun K hK=>?_⟩)
   try simp only [aQp,World.drew_heap]
   refine wpList_store_rowTo rfl _ _ _ rfl rfl (W0.heap.size) #[(f 0),(f 1),(f 2),(f 3),(f 4),(f 5),(f 6),(f 7),(f 8),(f 9),(f 10),(f 11),(g 0),(g 1),(g 2),(g 3),(g 4),(g 5),(g 6),(g 7),(g 8),(g 9),(g 10),(g 11),sh,(n:Nat)] rfl rfl 127 _ bS fQ rfl (by rw [List.all_toArray];rfl) ?_;go_wp2;refine l_ hK ?_;clear hK K;refine bX (by kernel_rfl) ?_;go_wp2_with fail
   go_meet
   exact ⟨W0.heap.size,rfl,y2.setRow (by omega) _,by omega,bS.row [(f 0),(f 1),(f 2),(f 3),(f 4),(f 5),(f 6),(f 7),(f 8),(f 9),(f 10),(f 11),(g 0),(g 1),(g 2),(g 3),(g 4),(g 5),(g 6),(g 7),(g 8),(g 9),(g 10),(g 11),sh,(n:Nat)],aF.fresh0 (by omega) (bF.otherRow (by omega) _)⟩
 case rest=>
  obtain ⟨A,rfl,xa,d8,bS,hO⟩:=hcut;have HS:=hid bS;have HO:=hid hO;have HX:=hid xa;have lA:=bS.lt;have la:=xa.size;have d3:=bS.cell 25 rfl
  have a7:wc.rangeAt A 0 [(f 0),(f 1),(f 2),(f 3),(f 4),(f 5),(f 6),(f 7),(f 8),(f 9),(f 10),(f 11),(g 0),(g 1),(g 2),(g 3),(g 4),(g 5),(g 6),(g 7),(g 8),(g 9),(g 10),(g 11),sh,(n:Nat)]:=fun j v hj=>by rw [aRl];exact bS.cell j hj
  have e0:=R0.ext xa;have e1:=R1.ext xa;obtain ⟨m0,m1,m2,m3,m4,m5,m6⟩:=e0.q7;have s2:=e1.cell 2 rfl;have s3:=e1.cell 3 rfl;have s4:=e1.cell 4 rfl;have l1:=e0.lt;have l2:=e1.lt;clear e0 e1 bS hO xa d0 l0 q5 R0;go_upto_region 2 with fail;refine aA [([0,1,2,3,4,6,7,8,9,10,11,14],5),([],12),([],13)] 99 wc.heap.size (by kernel_rfl) (by kernel_rfl) ?_;refine aI ?_;simp only [aRd,aQ7,aQs,aQm,aQn]
  show wpQuiet _ _ _ _ [_,_,_,_,_,_,_,_,_,_,_,_] _
  go_big_quiet_step (fail)
  go_big_quiet_step (fail)
  refine eN rfl _ _ rfl A 0 rfl [(f 0),(f 1),(f 2),(f 3),(f 4),(f 5),(f 6),(f 7),(f 8),(f 9),(f 10),(f 11),(g 0),(g 1),(g 2),(g 3),(g 4),(g 5),(g 6),(g 7),(g 8),(g 9),(g 10),(g 11),sh,(n:Nat)] _ (by rintro _ ⟨d,rfl⟩ j v hj;rw [jC _ _ _ _ lA];exact a7 j v hj) underlying127 rfl fQ ?_
  try simp only [aR9,aQv,aQ3,aQ2]
  repeat (go_big_quiet_step (fail))
  refine wpQuiet_nil ⟨_,rfl,fun K hK=>?_⟩;go_wp2_with fail;refine r_ (wC f g sh (n:Nat) p.t HT _) fun w5 x5=>?_;have y5:Ext wc w5:=aQu (aRr (aQy _)) x5;go_wp2_with fail;refine k_ hK ?_;clear hK K;refine st_ fun K hK=>?_;go_wp2_with fail;refine (wD s.c (aY f g p.t) n p hn _).mono ?_;rintro e w6 ⟨r',rfl,hM,x6⟩;rw [b9] at hM;have y6:=y5.trans x6;obtain ⟨ta,tc,rfl,e8⟩:=aF.form hM;go_wp2_with fail;refine k_ hK ?_;clear hK K;refine st_ fun K hK=>?_;go_wp2_with fail;refine k_ hK ?_;clear hK K;refine aC ?_;go_wp2_with fail;have y0:=hid (hM.low (lo':=W0.heap.size) (by have:=y5.size;omega));have z8:=hid (HO.ext y6);have y4:=hid (HX.trans y6);clear hM y5 y6 x5 x6 a7 HS HO HX d3 m0 m1 m2 m3 m4 m5 m6 s2 s3 s4 lA la l1 l2 d8
  have hs:(-100000<=p.x/\p.x<=100000)/\(-100000<=p.y/\p.y<=100000):=by
   have hq:=HP.out;unfold Smp.okB at hq;simp only [aQ4,aG] at hq;obtain ⟨⟨⟨⟨⟨q1,q2⟩,q3⟩,-⟩,-⟩,-⟩:=hq;have h1:=(Cam.okB_iff.1 q1).w;have h2:=(Cam.okB_iff.1 q1).h;omega
  have y8:=hid hs;clear hs
  go_loopw [9,36] (fun v i wr=>∃j:Nat,j<=M.length/\i = .int .i64 (j:Nat)/\Ext W0 wr/\aF Mc.cs W0.heap.size 155 12 wr (.slice ta M.length tc) M/\aF aP.cs W0.heap.size 95 5 wr v (aB6 p (k:Nat) cols als M j)) (fun _ i _=>M.length - (intOf i).toNat)
  case atStart=>exact ⟨0,by omega,rfl,y4,y0,z8⟩
  case round=>
   obtain ⟨j,hj,rfl,hx,hm,ho⟩:=hrel;have q8:=hid hx;have z9:=hid hm;have x2:=hid ho;clear y4 y0 z8
   rcases aRy j M.length with hlt|hge
   ·obtain ⟨m,x0⟩:∃m,M[j]?=some m:=⟨_,aQ0 hlt⟩
    have h3:=d1.out m (aRe x0);obtain ⟨gm,cap,he,-,d7,x4,d6,-,h0⟩:=aF.at hm (fun _=>rfl) x0;simp only [aRi,true_and] at he;obtain ⟨rfl,rfl⟩:=he;have c0:=h0 0 (by decide);have c1:=h0 1 (by decide);have c2:=h0 2 (by decide);have c3:=h0 3 (by decide);have c4:=h0 4 (by decide);have c5:=h0 5 (by decide);have c6:=h0 6 (by decide);have c7:=h0 7 (by decide);have c8:=h0 8 (by decide);have c9:=h0 9 (by decide);have y9:=h0 10 (by decide);have a0:=h0 11 (by decide);simp only [Mc.cs,aIl,aSa,aQm,aQn] at c0 c1 c2 c3 c4 c5 c6 c7 c8 c9 y9 a0;have e1:=R1.ext hx;obtain ⟨s0,s1⟩:=e1.q2;have l1:=e1.lt;have y3:=hid x0;clear hx hm ho h0 x0 e1;go_wp2_with fail
    by_cases h7:qD m.a m.b m.d p.at=true
    ·refine (aDi m.a.x m.a.y m.a.z m.b.x m.b.y m.b.z m.d.x m.d.y m.d.z h3.a h3.b h3.d h3.z p.x p.y y8 h7 (r:=eC m.a m.b m.d p.at) rfl _).mono ?_
     rintro e w7 ⟨rfl,x7⟩;have y7:Ext wr w7:=aQu (show Ext wr (wr.alloc (.cells #[m.a.x,m.a.y,m.a.z,m.b.x,m.b.y,m.b.z,m.d.x,m.d.y,m.d.z,m.u,m.v,m.n] 155)) from X_) x7;have hX:=hid (q8.trans y7);have h9:=hid (z9.ext y7);have x8:=hid (x2.ext y7);have q4:=(aQx wr 155 [m.a.x,m.a.y,m.a.z,m.b.x,m.b.y,m.b.z,m.d.x,m.d.y,m.d.z,m.u,m.v,m.n]).ext x7;have k9:=q4.cell 9 rfl;have g8:=q4.cell 10 rfl;have g9:=q4.cell 11 rfl;have kl:=q4.lt;have e2:=R2.ext (q8.trans y7);obtain ⟨t0,t1⟩:=e2.q2;have tl:=e2.lt;obtain ⟨u,vv,hu,z7,z4,lu,lv⟩:=h3.q
     have e7:vv*n+u<n*n:=by
      have h:=aSh n (show vv+1<=n by omega);rw [aS4,aS5] at h;omega
     have z2:n*n<=64:=aRq hn.2 hn.2
     obtain ⟨q,hq⟩:∃q:Nat,vv*n+u=q:=⟨_,rfl⟩
     have x3:m.v*m.n+m.u=(q:Nat):=by rw [hu,z7,z4,<-hq,aSw,aT3]
     obtain ⟨pr,x1⟩:∃pr,m.v*m.n=pr:=⟨_,rfl⟩
     have z6:pr=((vv*n:Nat):Int):=by rw [<-x1,z7,z4,aT3]
     have i0:wrap64 (m.v*m.n)=pr:=by rw [x1];exact aD (by omega) (by omega)
     have i1:wrap64 (pr+m.u)=(q:Nat):=by rw [<-x1,x3];exact aD (by omega) (by omega)
     have a8:q<cols.length:=by rw [b6];omega
     have a9:q<als.length:=by rw [b3];omega
     obtain ⟨b4,o4,rfl,-,h4,ct⟩:=HC.at a8;obtain ⟨b5,o5,rfl,-,h5,dt⟩:=HA.at a9;have xt:=XW.trans hX.out;have d4:=(xt.cells.1 b4 _ h4).trans ct;have d5:=(xt.cells.1 b5 _ h5).trans dt
     obtain ⟨cv,z0⟩:∃c,cols[q]=c:=⟨_,rfl⟩
     obtain ⟨av,x9⟩:∃c,als[q]=c:=⟨_,rfl⟩
     rw [z0] at d4;rw [x9] at d5
     have e6:=hid (show qS p (k:Nat) cols als m=[⟨eC m.a m.b m.d p.at,(k:Nat),(q:Nat),cv,av⟩] by
      unfold qS;rw [if_pos h7,x3,aRh,aRj,aRj,aQ0 a8,aQ0 a9,z0,x9]
      rfl)
     have z3:=Z3.out
     have g4:b4<W0.heap.size:=by omega
     have g5:b5<W0.heap.size:=by omega
     have g6:w.heap.size+1+1<W0.heap.size:=by omega
     clear z3 h7 q4 e2 y7 x7 hu z7 z4 lu lv e7 z2 hq x3 x1 z6 ct dt z0 x9 xt h4 h5 h3 c0 c1 c2 c3 c4 c5 c6 c7 c8 c9 y9 a0 s0 s1 l1 d7 x4 d6;go_wp2_with fail;refine aJ [([0,1,2,3,4,5,6,7,8,9,10,11,12,13,14],15),([],16),([],17)] 17 (fun w'=>∃d,w'=fU (CHt W0.heap.size) _ d) (by kernel_rfl) (by kernel_rfl) (aTh _ _) ?_;refine sc_ fun K hK=>?_;go_wp2_with fail;have b1:=hX.out.size;refine hK _ _ (.inr (aRx fun a ha=>aQ1 (w:=w7) X_ (aSb ha b1))) ?_;clear hK K;have HB:=hid (aQx w7.drew 95 [(eC m.a m.b m.d p.at),(k:Nat),(q:Nat),cv,av]);have a6:=hid (x8.out.ext (show Ext w7 (w7.drew.alloc (.cells #[(eC m.a m.b m.d p.at),(k:Nat),(q:Nat),cv,av] 95)) from X_));have e3:=hid (h9.out.ext (show Ext w7 (w7.drew.alloc (.cells #[(eC m.a m.b m.d p.at),(k:Nat),(q:Nat),cv,av] 95)) from X_));have e4:=hid (hX.out.trans (show Ext w7 (w7.drew.alloc (.cells #[(eC m.a m.b m.d p.at),(k:Nat),(q:Nat),cv,av] 95)) from X_));have g3:=uF p (k:Nat) cols als M j;refine sc_ fun K hK=>?_
     refine iE _ rfl _ _ rfl W0.heap.size _ _ rfl a6.out ⟨eC m.a m.b m.d p.at,(k:Nat),(q:Nat),cv,av⟩ w7.heap.size rfl (fun q hq=>by
       rcases (show q=0\/q=1\/q=2\/q=3\/q=4 by omega) with rfl|rfl|rfl|rfl|rfl
       ·exact HB.cell 0 rfl
       ·exact HB.cell 1 rfl
       ·exact HB.cell 2 rfl
       ·exact HB.cell 3 rfl
       ·exact HB.cell 4 rfl) (by have:=b8.out;omega) (by simp;omega) ?_
     intro v2 w9 q6 hg;have h8:=aF.rowE a6.out;have b2:=hid q6;have d2:=hid (aRz e4.out hg (fun k e=>(h8 k e).1));have b7:=hid (e3.out.grownE hg (by decide) (fun k e=>(h8 k e).2));have d9:=hid (fun a:Addr=>fun ha:CHt W0.heap.size a=>show w9.heap[a.block]?=w7.drew.heap[a.block]? from (hg.block _ (by have:a.block<W0.heap.size:=ha;simp;omega) (fun e=>by have h1:=(h8 _ e.symm).1;have h2:a.block<W0.heap.size:=ha;omega)).trans (aQ1 (w:=w7) X_ (aSb ha b1)));clear q6 hg h8;go_wp2_with fail;refine hK _ _ (.inr (aRx fun a ha=>d9.out a ha)) ?_;clear hK K;refine sc_ fun K hK=>?_;go_wp2_with fail;refine l_ hK ?_;clear hK K;refine aQ ?_;go_wp2;go_roundw
     case rel=>exact ⟨j+1,by omega,by go_num,d2,b7,by rw [lW y3,e6.out];exact b2⟩
     case measure=>simp [intOf];omega
    ·refine (aFq m.a.x m.a.y m.a.z m.b.x m.b.y m.b.z m.d.x m.d.y m.d.z h3.a h3.b h3.d h3.z p.x p.y y8 (Bool.eq_false_iff.2 h7) _).mono ?_
     rintro e w7 ⟨rfl,x7⟩;have y7:Ext wr w7:=aQu (show Ext wr (wr.alloc (.cells #[m.a.x,m.a.y,m.a.z,m.b.x,m.b.y,m.b.z,m.d.x,m.d.y,m.d.z,m.u,m.v,m.n] 155)) from X_) x7;have hX:=hid (q8.trans y7);have h9:=hid (z9.ext y7);have x8:=hid (x2.ext y7);go_wp2;go_roundw
     case rel=>exact ⟨j+1,by omega,by go_num,hX.out,h9.out,by rw [lW y3];unfold qS;rw [if_neg h7,aTk];exact x8.out⟩
     case measure=>simp [intOf];omega
   ·obtain rfl:j=M.length:=by omega
    go_wp2;go_ret;refine ⟨_,rfl,?_,XW.trans q8⟩;rw [<-aD5];exact aF.low x2 (by have:=Z3.out;omega)
section
variable {P : Program}
theorem zF (w:World) (dT sT ty elem:TypeId) (g o dLen dCap:Nat) (a:Addr) (sLen sCap:Nat) (cur:Array Value) (t:TypeId) (cs:List Value) (k m:Nat)
  (hu:P.underlying dT=some (.slice elem)) (hs:(P.info? elem).map (·.size)=some k)
  (hg:w.heap[g]?=some (.cells cur t (0,0))) (hm:m=Nat.min sLen dLen) (hn:cs.length=m*k)
  (hsrc:∀j v,cs[j]?=some v->w.cell? (a.add j)=some v) (hfit:o+cs.length<=cur.size) (h1:∀v∈cs,v.oneCell'=true) :
  (Builtin.copy_ #[dT,sT] ty #[.slice (some ⟨g,o,none⟩) dLen dCap,.slice (some a) sLen sCap]).run P w =
   .ok (goInt m) (w.setRow g (cur.toList.take o++cs++cur.toList.drop (o+cs.length)).toArray):=by
 have hl:=run_loadCells_list (P:=P) w a cs hsrc;have h0:=run_storeCells_at P g o t cs 0 cur w hg (by simpa using hfit) h1
 cases hq:P.info? elem with
 | none=>simp [hq] at hs
 | some i=>
  have hi:i.size=k:=by simpa [hq] using hs
  rw [hn] at hl;simp [Builtin.copy_,run_underlying hu,Builtin.lenOf,Builtin.firstCells,sizeOf,typeInfo,hq,hi,<-hm,hl,h0]
theorem tH {w:World} {ops:Array Oper} {rest:List Oper} {o:Oper} {a:Act} {Q:Exit->Act->World->Prop} (hgd:o.guard=none) (d s:Operand) (dT sT:TypeId)
  (ho:o.op = .call { callee:=.builtin .copy,args:=#[d,s],argTypes:=#[dT,sT] }) (elem:TypeId) (k m:Nat) (hu:P.underlying dT=some (.slice elem)) (hsz:(P.info? elem).map (·.size)=some k)
  (g off dLen dCap:Nat) (ad:Addr) (sLen sCap:Nat) (hd:a.eval d = .slice (some ⟨g,off,none⟩) dLen dCap) (hs:a.eval s = .slice (some ad) sLen sCap)
  (cur:Array Value) (t:TypeId) (hg:w.heap[g]?=some (.cells cur t (0,0))) (cs:List Value) (hm:m=Nat.min sLen dLen) (hn:cs.length=m*k)
  (hsrc:∀j v,cs[j]?=some v->w.cell? (ad.add j)=some v) (hfit:off+cs.length<=cur.size) (h1:∀v∈cs,v.oneCell'=true)
  (h:wpList P ops Q rest (a.put o.dst (goInt m)) (w.setRow g (cur.toList.take off++cs++cur.toList.drop (off+cs.length)).toArray)):wpList P ops Q (o::rest) a w:=by
 refine wpList_plain hgd fun K hK=>?_;have h0:=zF (P:=P) w dT sT o.type elem g off dLen dCap ad sLen sCap cur t cs k m hu hsz hg hm hn hsrc hfit h1;unfold Oper.wp;simp only [execOp,ho,resolve,invoke,builtin,aYt,aZ7,aWy,aYh,aSu,aVy,hd,hs,h0];exact hK _ _ h
theorem rV (w:World) (g:Nat) (cs:Array Value):w.grownBy (w.setRow g cs) (some g):=⟨rfl,rfl,rfl,by simp,fun k _ hk=>setRow_other w g k _ (fun e=>hk (by simp [e]))⟩
theorem lX {w:World} {ops:Array Oper} {rest:List Oper} {o:Oper} {a:Act} {Q:Exit->Act->World->Prop} (hgd:o.guard=none) (d s:Operand) (dT sT:TypeId)
  (ho:o.op = .call { callee:=.builtin .copy,args:=#[d,s],argTypes:=#[dT,sT] }) (elem:TypeId) (k m:Nat) (hu:P.underlying dT=some (.slice elem)) (hsz:(P.info? elem).map (·.size)=some k)
  (g off dLen dCap:Nat) (ad:Addr) (sLen sCap:Nat) (hd:a.eval d = .slice (some ⟨g,off,none⟩) dLen dCap) (hs:a.eval s = .slice (some ad) sLen sCap)
  (cur:Array Value) (t:TypeId) (hg:w.heap[g]?=some (.cells cur t (0,0))) (cs:List Value) (hm:m=Nat.min sLen dLen) (hn:cs.length=m*k)
  (hsrc:∀j v,cs[j]?=some v->w.cell? (ad.add j)=some v) (hfit:off+cs.length<=cur.size) (h1:∀v∈cs,v.oneCell'=true)
  (h:∀w',w'.heap[g]?=some (.cells (cur.toList.take off++cs++cur.toList.drop (off+cs.length)).toArray t (0,0))->w.grownBy w' (some g)->wpList P ops Q rest (a.put o.dst (goInt m)) w'):wpList P ops Q (o::rest) a w:=
 tH hgd d s dT sT ho elem k m hu hsz g off dLen dCap ad sLen sCap hd hs cur t hg cs hm hn hsrc hfit h1 (h _ (setRow_heap w g cur _ t _ hg) (rV w g _))
end
theorem rW (g:Nat) (t:TypeId):∀(vs:List Value) (o:Nat) (cur:List Value) (w:World),w.heap[g]?=some (.cells cur.toArray t (0,0))->o+vs.length<=cur.length ->
  w.setCells g o vs=w.setRow g (cur.take o++vs++cur.drop (o+vs.length)).toArray
 | [],o,cur,w,hg,_=>by
  simp only [World.setCells,aTk,aSx,aSa,aUt];rw [setRow_self w g cur.toArray t (0,0) hg]
 | v::rest,o,cur,w,hg,hl=>by
  have hi:o<cur.length:=by simp at hl;omega
  have e1:w.setCell ⟨g,o,none⟩ v=w.setRow g (cur.set o v).toArray:=by
   have:=setCell_eq_setRow w g o cur.toArray t (0,0) v hg
   simpa using this
  have ih:=rW g t rest (o+1) (cur.set o v) (w.setRow g (cur.set o v).toArray) (by have:=setRow_heap w g cur.toArray (cur.set o v).toArray t _ hg;exact this) (by simp at hl ⊢;omega);unfold World.setCells;rw [e1,ih,setRow_setRow]
  congr 2
  rw [List.take_set,List.drop_set,if_pos (by omega)];rw [aRk hi,List.set_append_right _ _ (by rw [aRf];omega)];simp only [aRf,aR3,aRp];rw [aS6 (by omega),aZ5];simp only [aQ2,aVw,aSk];rw [show o+1+rest.length=o+(rest.length+1) by omega]
theorem aGg (fs:List aP) (p:Nat):(fs.take p).flatMap aP.cs=(fs.flatMap aP.cs).take (p*5):=by
 induction fs generalizing p with
 | nil=>simp
 | cons y l ih=>
  cases p with
  | zero=>simp
  | succ p=>
   rw [List.take_succ_cons,aSp,aSp,ih,aW6,show y.cs.length=5 from rfl,show (p+1)*5 - 5=p*5 by omega,aRt (show y.cs.length<=(p+1)*5 by rw [show y.cs.length=5 from rfl];omega)]
theorem iF (fs:List aP):(fs.flatMap aP.cs).length=fs.length*5:=gI (sz:=5) (fun _=>rfl) fs
theorem aOg {L:List Value} {fs:List aP} {x:aP} (hp:p<=fs.length) (ht:L.take ((fs.length+1)*5)=(fs++[x]).flatMap aP.cs):∀j v,((fs.drop p).flatMap aP.cs)[j]?=some v->L[p*5+j]?=some v:=by
 intro j v h;have hj:=(aQq.1 h).1;rw [iF,aTl] at hj
 have e:(L.take ((fs.length+1)*5))[p*5+j]?=L[p*5+j]?:=by
  rw [aSr,if_pos (by omega)]
 have l1:((fs.take p).flatMap aP.cs).length=p*5:=by rw [iF,aRf];omega
 rw [<-e,ht,aR1]
 conv=>lhs;rw [<-aUt p fs]
 rw [aR1,aRp,aRs (by omega),l1,Nat.add_sub_cancel_left,aR2 (by rw [iF,aTl];exact hj)];exact h
theorem aK6 {L:List Value} {fs:List aP} {x:aP} (hp:p<=fs.length) (hL:(fs.length+1)*5<=L.length) (ht:L.take ((fs.length+1)*5)=(fs++[x]).flatMap aP.cs) {D C1:List Value}
  (hD:D=(fs.drop p).flatMap aP.cs) (h1:C1=L.take ((p+1)*5)++D++L.drop ((p+1)*5+D.length)) :
  (C1.take (p*5)++x.cs++C1.drop (p*5+x.cs.length)).take ((fs.length+1)*5)=(fs.take p++x::fs.drop p).flatMap aP.cs:=by
 have lx:x.cs.length=5:=rfl
 have lD:D.length=(fs.length - p)*5:=by rw [hD,iF,aTl]
 have l1:(L.take ((p+1)*5)).length=(p+1)*5:=by rw [aRf];omega
 have lA:((fs.take p).flatMap aP.cs).length=p*5:=by rw [iF,aRf];omega
 have eA:C1.take (p*5)=(fs.take p).flatMap aP.cs:=by
  have e2:(L.take ((fs.length+1)*5)).take (p*5)=L.take (p*5):=by rw [aX1,aS6 (by omega)]
  rw [h1,aRp,aW6,l1,show p*5 - (p+1)*5=0 by omega,aU8,aTk,aX1,aS6 (by omega),<-e2,ht,<-aGg,aW6,show p - fs.length=0 by omega,aU8,aTk]
 have eD:C1.drop (p*5+x.cs.length)=D++L.drop ((p+1)*5+D.length):=by
  rw [h1,aRp,List.drop_append,l1,lx,show p*5+5 - (p+1)*5=0 by omega,List.drop_zero,List.drop_of_length_le (by rw [l1];omega),aSk]
 rw [eA,eD,aR1,aSp,<-hD,aRp,<-aRp x.cs,<-aRp,aW6]
 have l3:((fs.take p).flatMap aP.cs++(x.cs++D)).length=(fs.length+1)*5:=by rw [aRg,aRg,lA,lx,lD];omega
 rw [l3,aZ5,aU8,aTk,aRt (by omega)]
structure aB7 (lo:Nat) (w:World) (O:Nat) (fs:List aP) (v:Value):Prop where
 box:Blk w O 180 [v,.func (.func 174) #[] #[]]
 low:lo<=O
 row:aF aP.cs lo 95 5 w v fs
theorem aB7.ext {O:Nat} {fs:List aP} (h:aB7 lo w O fs v) (x:Ext w w'):aB7 lo w' O fs v:=⟨h.box.ext x,h.low,h.row.ext x⟩
theorem aF.rowF {α : Type} {cs : α->List Value} {xs:List α} (h:aF cs lo e sz w v xs):∀k,v.ownBlock=some k->lo<=k/\∃c,w.heap[k]?=some (.cells c e (0,0)):=by
 intro k hk
 rcases h.2 with ⟨rfl,h4⟩|⟨g,cap,cur,rfl,hb,hg,_⟩
 ·cases hk
 ·simp only [aRm,aQr] at hk
  subst hk;exact ⟨hb,cur,hg⟩
theorem xG (x:aP):∀u∈x.cs,u.oneCell'=true:=by
 intro u hu;simp only [aP.cs,aRb,aQ5,or_false] at hu
 rcases hu with rfl|rfl|rfl|rfl|rfl <;> rfl
theorem aI7 (l:List aP):∀u∈l.flatMap aP.cs,u.oneCell'=true:=by
 intro u hu;obtain ⟨x,_,h⟩:=aU7.1 hu;exact xG x u h
theorem qT:(Tryz.prog.info? 95).map (·.size)=some 5:=by kernel_rfl
def C3f (b c d:Nat):Addr->Prop:=fun a=>a.block=b\/a.block=c\/a.block=d
@[go_sem] theorem aQd (b c d o:Nat):C3f b c d ⟨b,o,none⟩:=.inl rfl
@[go_sem] theorem aQe (b c d o:Nat):C3f b c d ⟨c,o,none⟩:=.inr (.inl rfl)
@[go_sem] theorem aQf (b c d o:Nat):C3f b c d ⟨d,o,none⟩:=.inr (.inr rfl)
theorem xH (w:World):Calls aQt 112 #[] w fun e w'=>e = .returned (.pointer (some ⟨w.heap.size,0,none⟩))/\aB7 w.heap.size w' w.heap.size [] (.slice none 0 0)/\Ext w w':=by
 go_enter func112,ntmps112;go_wp2;go_ret;exact ⟨rfl,⟨aQx w _ _,aQo _,aF.nil _ _ _ _ _⟩,X_⟩
section
variable {P : Program} {ops : Array Oper} {Q : Exit -> Act -> World -> Prop} {md : aUz} {S : World -> Prop} {y : Nat} {R : Array Bool -> Act -> World -> Prop}
def rX (md:aUz) (ops:Array Oper) (y i:Nat):Bool:=
 match ops[y]? with
 | none=>false
 | some o=>o.after.any fun e=>aVf md e&&e.on==i
theorem zG {i:Nat} (h:rX md ops y i=true) {listed:Array Bool} (hun:listed.getD i false=false):y∉aSd md ops listed:=by
 intro hz;obtain ⟨_,oz,h1,h0⟩:=mem_ready.1 hz;unfold rX at h;simp only [h1] at h;obtain ⟨e,he,hb⟩:=Array.any_eq_true'.1 h;simp only [aQ4,beq_iff_eq] at hb;have h2:=h0 e he hb.1;rw [hb.2,hun] at h2;cases h2
def tI (P:Program) (md:aUz) (ops:Array Oper) (Q:Exit->Act->World->Prop) (S:World->Prop) (R:Array Bool->Act->World->Prop):Nat->Array Bool->Act->World->Prop
 | 0,listed,a,w=>R listed a w
 | fuel+1,listed,a,w=>
  (aSd md ops listed=[]->Q .normal a w) /\
  ∀i∈aSd md ops listed,wpOp P ops Q i (fun a' w'=>S w'/\tI P md ops Q S R fuel (listed.setIfInBounds i true) a' w') a w
theorem xI {g:Nat} (hR:∀l a w,R l a w->wpAny P md ops Q g l a w):∀(fuel:Nat) (listed:Array Bool) (a:Act) (w:World),tI P md ops Q S R fuel listed a w->wpAny P md ops Q (fuel+g) listed a w
 | 0,l,a,w,h=>by rw [aRl];exact hR l a w h
 | fuel+1,l,a,w,h=>by
  rw [Nat.succ_add];exact ⟨h.1,fun i hi=>wpOp_mono (fun a' w' h'=>xI hR fuel _ a' w' h'.2) (h.2 i hi)⟩
theorem rY {i:Nat} {oi:Oper} {v:Value} (hi:ops[i]?=some oi) (hy1:rX md ops y i=true) (hR:∀l a w,R l a w->aSd md ops l=[y]) (hsel:∀(j:Nat) (o:Oper) cs b,ops[j]?=some o->o.op≠.select cs b)
  (hQ:∀c a w,Q (.panic c) (a.put oi.dst v) w->Q (.panic c) a w) :
  ∀(fuel:Nat) (listed:Array Bool) (a:Act) (w:World),
   (∀j oj,ops[j]?=some oj->j≠i->listed.getD j true=false->(∀e∈oj.after,aVf md e=true->e.on≠i)->oi.apart ops oj=true) ->
   i∈aSd md ops listed->YieldsIf P ops S oi v a->S w ->
   tI P md ops Q S R fuel (listed.setIfInBounds i true) (a.put oi.dst v) w->tI P md ops Q S R (fuel+1) listed a w:=by
 intro fuel
 induction fuel with
 | zero=>
  intro listed a w _ hr hy hS H;refine ⟨fun h=>(by rw [h] at hr;cases hr),fun j hj=>?_⟩
  by_cases h4:j=i
  ·subst h4;exact hy.wpOp hi hS ⟨hS,H⟩
  ·have h6:listed.getD i false=false:=getD_both (mem_ready.1 hr).1
   have:=ready_mono hj h4;rw [hR _ _ _ H] at this;simp only [aRb,aQ5,or_false] at this;exact absurd (this▸hj) (zG hy1 h6)
 | succ fuel ih=>
  intro listed a w h0 hr hy hS H;refine ⟨fun h=>(by rw [h] at hr;cases hr),fun j hj=>?_⟩
  by_cases h4:j=i
  ·subst h4;exact hy.wpOp hi hS ⟨hS,H⟩
  ·have h6:listed.getD i false=false:=getD_both (mem_ready.1 hr).1
   have h1:=H.2 j (ready_mono hj h4);obtain ⟨h7,oj,q0,h8⟩:=mem_ready.1 hj
   have h9:∀e∈oj.after,aVf md e=true->e.on≠i:=fun e he hb heq=>by
    have h1:=h8 e he hb;rw [heq,h6] at h1;cases h1
   have h2:=wpOp_putIf q0 (h0 j oj q0 h4 h7 h9) (fun cs b=>hsel i oi cs b hi) (fun cs b=>hsel j oj cs b q0) hQ hy h1
   have h5:∀k ok,ops[k]?=some ok->k≠i->(listed.setIfInBounds j true).getD k true=false ->
     (∀e∈ok.after,aVf md e=true->e.on≠i)->oi.apart ops ok=true:=fun k ok hk hki h6 hno=>by
    refine h0 k ok hk hki ?_ hno
    by_cases q2:j=k
    ·subst q2;exact h7
    ·rw [getD_set_ne true q2] at h6;exact h6
   refine wpOp_mono (fun a' w' h3=>?_) h2;have q1:S w':=h3.2.1;refine ⟨q1,ih (listed.setIfInBounds j true) a' w' h5 (ready_mono hr (Ne.symm h4)) h3.1 q1 ?_⟩;rw [Array.setIfInBounds_comm _ _ h4];exact h3.2.2
def eY (md:aUz) (ops:Array Oper) (z y:Nat):List (Bool×Nat)->Array Bool->Bool
 | [],listed=>aSd md ops listed==[y]
 | (true,i)::r,listed=>i != z&&rX md ops y i&&Region.free md ops listed i&&(aSd md ops listed).contains i&&eY md ops z y r (listed.setIfInBounds i true)
 | (false,i)::r,listed=>i != z&&(aSd md ops listed==[i])&&eY md ops z y r (listed.setIfInBounds i true)
def jK:List (Bool×Nat)->Array Bool->Array Bool
 | [],l=>l
 | (_,i)::r,l=>jK r (l.setIfInBounds i true)
theorem kY {z:Nat}:∀(plan:List (Bool×Nat)) (l:Array Bool),eY md ops z y plan l=true->aSd md ops (jK plan l)=[y]
 | [],l,h=>by simpa [eY,jK] using h
 | (true,i)::r,l,h=>by
  simp only [eY,aQ4] at h;exact kY r _ h.2
 | (false,i)::r,l,h=>by
  simp only [eY,aQ4] at h;exact kY r _ h.2
theorem gT {z:Nat} {C:Act->World->Prop} (hsel:aT4 ops=true) (hQ:∀c a a' w,Q (.panic c) a w->Q (.panic c) a' w) :
  ∀(plan:List (Bool×Nat)) (listed:Array Bool) (a:Act) (w:World),eY md ops z y plan listed=true->S w->eQ P ops (Exit.then C Q) S z plan a w->tI P md ops Q S (fun l a w=>l=jK plan listed/\C a w) plan.length listed a w
 | [],listed,a,w,hB,_,h=>⟨rfl,h⟩
 | (true,i)::r,listed,a,w,hB,hS,h=>by
  have hend:=kY _ _ hB;simp only [eY,aQ4,bne_iff_ne] at hB;obtain ⟨⟨⟨⟨hiz,hw1⟩,hf⟩,hr⟩,hB'⟩:=hB;obtain ⟨o,ho,ht⟩:=h
  have hR:∀l a w,(l=jK ((true,i)::r) listed/\C a w)->aSd md ops l=[y]:=fun l a w k=>by rw [k.1];exact hend
  unfold vD at ht
  split at ht
  ·rename_i hw
   obtain ⟨v,hv,hK⟩:=ht
   exact rY ho hw1 hR (aTj hsel) (fun c a w=>hQ c _ _ w) r.length listed a w (aT7 ho hf) (by simpa using hr) (.inl ⟨hw,hv⟩) hS
    (gT hsel hQ r _ _ _ hB' hS hK)
  ·rename_i hw
   exact rY ho hw1 hR (aTj hsel) (fun c a w=>hQ c _ _ w) r.length listed a w (aT7 ho hf) (by simpa using hr) (.inr ⟨by simpa using hw,rfl⟩) hS
    (gT hsel hQ r _ _ _ hB' hS ht)
 | (false,i)::r,listed,a,w,hB,hS,h=>by
  simp only [eY,aQ4,beq_iff_eq,bne_iff_ne] at hB;obtain ⟨⟨hiz,hr⟩,hB'⟩:=hB;obtain ⟨o,ho,ht⟩:=h;refine ⟨fun h0=>(by rw [hr] at h0;cases h0),fun j hj=>?_⟩;rw [hr] at hj
  obtain rfl:j=i:=by simpa using hj
  have h5:∀a' w',((j=z\/S w')/\eQ P ops (Exit.then C Q) S z r a' w')->(S w'/\tI P md ops Q S (fun l a w=>l=jK r (listed.setIfInBounds j true)/\C a w) r.length (listed.setIfInBounds j true) a' w'):=fun a' w' ⟨k1,k2⟩=>
   ⟨k1.resolve_left hiz,gT hsel hQ r _ _ _ hB' (k1.resolve_left hiz) k2⟩
  unfold wpOp;simp only [ho];unfold wpList at ht
  split
  ·rename_i hw
   rw [if_pos hw] at ht
   rcases ht with ht|⟨h1,h2⟩
   ·refine .inl ?_
    unfold Oper.wp at ht
    have h3:o.upon P a (wpList P ops (Exit.then (fun a' w'=>(j=z\/S w')/\eQ P ops (Exit.then C Q) S z r a' w') (Exit.then C Q)) []) Q ((execOp a.eval o).run P w):=by
     cases h6:(execOp a.eval o).run P w with
     | ok n w'=>rw [h6] at ht;cases n <;> exact ht
     | halt x w'=>rw [h6] at ht;cases x <;> exact ht
    have h4:o.wp P a w (wpList P ops (Exit.then (fun a' w'=>(j=z\/S w')/\eQ P ops (Exit.then C Q) S z r a' w') (Exit.then C Q)) []) Q:=h3;exact Oper.wp_mono (fun a' w' hk=>h5 a' w' hk) h4
   ·exact .inr ⟨h1,h2⟩
  ·rename_i hw
   rw [if_neg hw] at ht;exact h5 _ _ ht
end
def aD7 (ops:Array Oper) (y:Nat) (st1 st2:List (List Nat×Nat)):Bool:=
 aT4 ops&&fH .any ops 99&&eY .any ops 99 y (bW st1) (aUu ops.size false)&&gO .any ops 99 (bW st2) (jK (bW st1) (aUu ops.size false))&&lM ops st1&&lM ops st2&&((bW st1).length+(bW st2).length==ops.size)
theorem tJ {P:Program} {Q:Exit->Act->World->Prop} {id:Nat} {a:Act} {w:World} {l:List Oper} (st1 st2:List (List Nat×Nat)) (y:Nat) (S1:World->Prop) (hm:P.follows .mixedOrders=true)
  (hB:aD7 l.toArray y st1 st2=true) (hS:S1 w.drew)
  (h:cH P l.toArray (Exit.then (fun a w=>∃S2:World->Prop,S2 w/\cH P l.toArray (NoPanic Q) S2 99 st2 a w) (NoPanic Q)) S1 99 st1 a w.drew):(Code.region id l.toArray true).wp P Q a w:=by
 unfold aD7 at hB;simp only [aQ4,beq_iff_eq] at hB;obtain ⟨⟨⟨⟨⟨⟨h1,h2⟩,h3⟩,h4⟩,h5⟩,h6⟩,h7⟩:=hB;refine wp_region_noPanic (wp_region_any hm ?_);have hp:=gG st1 a w.drew h5 h;have hE:=gT h1 (fun c a a' w k=>k) _ _ a w.drew h3 hS hp
 have hA:=xI (g:=(bW st2).length) (fun l' a w hk=>by
  obtain ⟨rfl,S2,h0,h8⟩:=hk
  exact hG _ _ _ _ (fI h1 h2 (fun c a a' w k=>k) _ _ a w h4 (fun _ _=>h0) (gG st2 a w h6 h8))) _ _ _ _ hE
 rw [h7] at hA
 simpa using hA
theorem aD8 {P:Program} {ops:Array Oper} {Q:Exit->Act->World->Prop} {S:World->Prop} {C:Act->World->Prop} {a:Act} {w:World} (h:C a w):cH P ops (Exit.then C Q) S 99 [] a w:=h
theorem aB8 {P:Program} {ops:Array Oper} {Q:Exit->Act->World->Prop} {st:List (List Nat×Nat)} {a:Act} {w:World} (h:cH P ops Q (fun _=>True) 99 st a w):∃S2:World->Prop,S2 w/\cH P ops Q S2 99 st a w:=⟨_,trivial,h⟩
theorem aMz (h:i<12):i=0\/i=1\/i=2\/i=3\/i=4\/i=5\/i=6\/i=7\/i=8\/i=9\/i=10\/i=11:=by omega
theorem aB9 (w:World) (zs cs:Array Value) (t:TypeId):(w.alloc (.cells zs t)).setRow w.heap.size cs=w.alloc (.cells cs t):=by
 unfold World.setRow World.alloc
 congr 1
 apply Array.ext_getElem?;intro k;simp only [Array.getElem?_modify,Array.getElem?_push]
 by_cases hk:k=w.heap.size
 ·subst hk;simp
 ·simp [hk,Ne.symm hk]
theorem dI (w0:World) (zs:Array Value) (t:TypeId) (hgd:o.guard=none) (ty:TypeId) (x y:Operand) (ho:o.op = .store ty x y)
  (hd:o.dst=none) (cells:Array Value) (N:Nat) (hN:w0.heap.size=N) (hx:a.eval x = .pointer (some ⟨N,0,none⟩)) (hy:a.eval y = .agg cells)
  (hi:(P.info? ty).map (·.size)=some cells.size) (hold:zs.size=cells.size) (h1:cells.all (·.oneCell')=true)
  (h:wpList P ops Q rest a (w0.alloc (.cells cells t))):wpList P ops Q (o::rest) a (w0.alloc (.cells zs t)):=by
 subst hN;refine wpList_store_rowTo hgd ty x y ho hd w0.heap.size cells hx hy t zs (Go.Deep.blk_alloc_new _ _) hi hold h1 ?_;rw [aB9];exact h
theorem Blk.rowB {cs:List Value} (h:Blk w g t cs) (ds:List Value):Blk (w.setRow g ds.toArray) g t ds:=setRow_heap _ _ _ _ _ _ h
theorem Blk.otherRowB {g':Nat} {cs:List Value} (h:Blk w g t cs) (ne:g≠g') (ds:Array Value):Blk (w.setRow g' ds) g t cs:=h.of (setRow_other _ _ _ _ ne)
theorem Ext.setRowB {w1:World} (h:Ext w w1) (hg:w.heap.size<=g) (cs:Array Value):Ext w (w1.setRow g cs):=
 aVr h ⟨rfl,rfl,rfl,by simp,fun k hk=>setRow_other _ _ _ _ (by omega)⟩
theorem aCa {fn:Func} {R:Ending->World->Prop} {p:Tmp} {ty:TypeId} {cs:List Value} (h:fn.results=#[.cell p ty]) (hp:a.tmps.getD p undef = .pointer (some ⟨g,0,none⟩)) (hb:Blk w g t cs)
  (d:TypeDesc) (hu:P.underlying ty=some d) (hd:(match d with | .struct _ | .array _ _=>true|_=>false)=true) (hi:(P.info? ty).map (·.size)=some cs.toArray.size) (hdf:a.defers=[]) (hR:R (.returned (.agg cs.toArray)) w):bodyPost P fn R .ret a w:=
 bodyPost_ret (results_cell_row h _ _ g t cs.toArray (0,0) d hp hb hu hd hi) hdf hR
theorem aD9 {fn:Func} {p u:Tmp} {ty:TypeId} {cs:List Value} (h:fn.results=#[.cell p ty,.tmp u]) (tmps:Array Value) (w:World) (hp:tmps.getD p undef = .pointer (some ⟨g,0,none⟩)) (hb:Blk w g t cs)
  (d:TypeDesc) (hu:P.underlying ty=some d) (hd:(match d with | .struct _ | .array _ _=>true|_=>false)=true) (hi:(P.info? ty).map (·.size)=some cs.toArray.size):(results fn tmps).run P w = .ok (.tuple #[.agg cs.toArray,tmps.getD u undef]) w:=by
 rw [results_cell_tmp h,hp];simp [asAddr,run_loadVar_row w g t ty cs.toArray (0,0) d hb hu hd hi,Result.andThen]
theorem iG:(Tryz.prog.info? 127).map (fun i=>i.size)=some 26:=by kernel_rfl
def C2b (b c:Nat):Addr->Prop:=fun a=>a.block=b\/a.block=c
@[go_sem] theorem aQg (b c o:Nat):C2b b c ⟨b,o,none⟩:=.inl rfl
@[go_sem] theorem aQh (b c o:Nat):C2b b c ⟨c,o,none⟩:=.inr rfl
theorem aM.trans {a c:World} (h:aM lo hi a b) (k:aM lo hi b c):aM lo hi a c:=fun i h1 h2=>(k i h1 h2).trans (h i h1 h2)
theorem aF.flatsI {α : Type} {cs : α->List Value} {ls : α->List Int} {xs:List α} {F:Nat->Int} (h:aF cs lo e sz w v xs) (hsz:0<sz) (hcs:∀x,cs x=(ls x).map (.int .i64)) (hl:∀x,(ls x).length=sz)
  (hI:∀x∈xs,∀n∈ls x,I64 n) (hF:∀i x k,xs[i]?=some x->k<sz->F (i*sz+k)=(ls x).getD k 0):cY sz lo w.heap.size w v xs.length F:=by
 have hc:∀x,(cs x).length=sz:=fun x=>by rw [hcs,aR7,hl]
 have h2:∀i,i<xs.length*sz->∃x,xs[i / sz]?=some x/\F i=(ls x).getD (i % sz) 0/\(ls x)[i % sz]?=some (F i):=fun i hi=>by
  have hk:i / sz<xs.length:=aTb (by rw [Nat.mul_comm];exact hi)
  obtain ⟨x,hx⟩:∃x,xs[i / sz]?=some x:=⟨_,aQ0 hk⟩
  have hm:=aTf i hsz;have e1:=hF (i / sz) x (i % sz) hx hm;rw [Nat.div_add_mod'] at e1;refine ⟨x,hx,e1,?_⟩;rw [e1,aRj,aQ0 (by rw [hl];exact hm)]
  rfl
 rcases h.2 with ⟨rfl,h4⟩|⟨g,cap,cur,rfl,hb,hg,hcap,hm,hs,ht⟩
 ·exact ⟨none,0,by rw [h4],by omega,by unfold maxLen;omega,fun i hx=>by rw [h4] at hx;omega⟩
 ·refine ⟨_,cap,rfl,hcap,hm,fun i hx=>?_⟩
  obtain ⟨x,h0,h3,h1⟩:=h2 i hx;refine ⟨hI x (aRe h0) _ (aRe h1),g,0,rfl,hb,(aQ9.1 hg).1,?_⟩;have e1:=mI hc h0 (i % sz) (aTf i hsz);rw [Nat.div_add_mod'] at e1;rw [hcs,aSf,h1] at e1;rw [<-ht,aSr,if_pos hx] at e1;rw [aRl]
  show w.cell? ⟨g,i,none⟩=some (.int .i64 (F i))
  simp only [Option.map_some] at e1;rw [<-e1];simp only [aSn,hg];simp
def TuR (lo:Nat) (w:World) (v:Value) (xs:List Int):Prop:=∃g cs,lo<=g/\Blk w g 3 cs/\∀w',Blk w' g 3 cs->aB lo w' v xs
theorem TuR.ext (h:TuR lo w v xs) (x:Ext w w'):TuR lo w' v xs:=by
 obtain ⟨g,cs,h1,h2,h3⟩:=h;exact ⟨g,cs,h1,h2.ext x,h3⟩
theorem aB.tur (h:aB lo w v xs) (h1:1<=xs.length):TuR lo w v xs:=by
 obtain ⟨⟨k1,k2⟩,k3⟩:=h
 rcases k2 with ⟨rfl,h4⟩|⟨g,cap,cur,rfl,hb,hg,hcap,hm,hs,ht⟩
 ·omega
 ·exact ⟨g,cur.toList,hb,hg,fun w' hw=>⟨⟨k1,.inr ⟨g,cap,cur,rfl,hb,hw,hcap,hm,hs,ht⟩⟩,k3⟩⟩
theorem TuR.set (h:TuR lo w v xs) {us:List Value} (hb:Blk w A t us) (ht:t≠3) (i:Nat) (u:Value):TuR lo (w.setCell ⟨A,i,none⟩ u) v xs:=by
 obtain ⟨g,cs,h1,h2,h3⟩:=h;refine ⟨g,cs,h1,h2.other (fun e=>?_) u,h3⟩;simp only at e;subst e;unfold Blk at h2 hb;rw [h2] at hb;simp only [aQr,aR0] at hb;exact ht hb.2.1.symm
theorem aI8 (b off n cap:Nat) (w:World):(binOp .eql 24 (.slice (some ⟨b,off,none⟩) n cap) (.slice none 0 0)).run aQt w = .ok (.bool false) w:=by
 simp only [binOp];simp [Op.equal,Op.maxDepth,Lib.run_equalIn_slice_nil w 9999 24 3 (some ⟨b,off,none⟩) n cap 0 0 underlying24]
theorem aGh (lo hi:Nat) (u:Value) (xs:List Int) (w:World) (hu:aU lo hi w u xs) (hh:hi<=w.heap.size) (h1:1<=xs.length) (h2:xs.length<=1000) :
  Calls aQt 164 #[u] w fun e w'=>∃v',e = .returned v'/\aB w.heap.size w' v' xs/\Ext w w':=by
 obtain ⟨a,cap,rfl,HU⟩:=hu.open;obtain ⟨b,h7,rfl,q0,q1,_⟩:=HU.at (k:=0) (by omega);have l1:=HU.le;have l2:=HU.cap;clear hu;go_enter func164,ntmps164
 have HC:∀i y,xs[i]?=some y->I64 y/\(w.alloc (.cells #[] 3)).cell? ⟨b,h7+i,none⟩=some (.int .i64 y):=by
  intro i y hy;obtain ⟨h3,b',h9,e,h4,h5,h6⟩:=HU.cell i y hy;simp only [aQr,Addr.mk.injEq,and_true] at e;obtain ⟨rfl,rfl⟩:=e;exact ⟨h3,(((aQy w).alloc _).cells.1 b _ (by omega)).trans h6⟩
 have HC:=hid HC;have h8:=fun w=>aI8 b h7 xs.length cap w;go_wp2_with (at_builtin;refine bY _ rfl _ _ rfl w.heap.size (.slice (some ⟨w.heap.size,0,none⟩) 0 0) [] xs rfl (aB.fresh0 (aQo _) (aQx w 3 [])) b h7 cap rfl HC (by simp;omega) (by simp) ?_;intro v' w1 h0 hg;obtain ⟨a',c',rfl,_⟩:=h0.form);go_ret;exact ⟨_,rfl,by simpa using h0,((aQy w).alloc _).grown hg (fun k e=>by simp [aRm] at e;omega)⟩
theorem zH (w:World) (base:Nat) (t ty e:TypeId) (i:TypeInfo) (z:Value) (size bytes:Nat) (ht:P.underlying t=some (.slice e)) (hi:P.info? e=some i) (hz:i.zero=some z)
  (hsize:i.size=size) (hby:i.bytes=bytes) (hzs:z.cells.size=size) (hsz:0<size)
  (v:Value) (n:Nat) (xs:List Value) (hown:w.ownsRow base e size v n xs)
  (a:Addr) (m c:Nat) (news:List Value) (hl:news.length=m*size) (hnews:∀j u,news[j]?=some u->w.cell? (a.add j)=some u) (h1:∀u∈news,u.oneCell'=true)
  (h63:n+m<=maxLen) (hbytes:(n+m)*bytes<=140737488355328) (hbase:base<=w.heap.size) :
  ∃v' w',(Builtin.append_ #[t,t] ty #[v,.slice (some a) m c]).run P w = .ok v' w'/\w'.ownsRow base e size v' (n+m) (xs++news)/\w.grownBy w' v.ownBlock/\(∀k,v'.ownBlock=some k->v.ownBlock=some k\/w.heap.size<=k):=by
 obtain ⟨v',w',hr,h2,h3,-⟩:=run_append_own (P:=P) w base t ty e i z size bytes ht hi hz hsize hby hzs hsz v n xs hown a m c news hl hnews h1 h63 hbytes hbase;refine ⟨v',w',hr,h2,h3,?_⟩
 rcases hown.2 with ⟨rfl,rfl⟩|⟨g,cap,cur,rfl,hbg,hg,hnc,hcm,hcs,htake⟩
 ·have hx:xs=[]:=aVa (by simpa using hown.1)
  subst hx;obtain ⟨v2,w2,h0,k2,-,-⟩:=run_append_own (P:=P) w w.heap.size t ty e i z size bytes ht hi hz hsize hby hzs hsz (.slice none 0 0) 0 [] (World.ownsRow_nil _ _ _ _) a m c news hl hnews h1 h63 hbytes (aQo _);rw [hr] at h0;simp only [Result.ok.injEq] at h0;obtain ⟨rfl,rfl⟩:=h0;exact fun k hk=>.inr (k2.lt k hk).1
 ·by_cases h4:n+m<=cap
  ·subst hsize
   have h6:n*i.size+news.length<=cur.size:=by rw [hl,hcs,<-aS4];exact aSh _ h4
   have h0:=run_append_room (P:=P) w t ty e i ht hi g n cap cur hg a m c news hl hnews h1 h4 h6;rw [hr] at h0;simp only [Result.ok.injEq] at h0;obtain ⟨rfl,-⟩:=h0;exact fun k hk=>.inl hk
  ·subst hsize
   subst hby
   have h7:n+m<=9223372036854775807:=by simp only [maxLen] at h63;omega
   have h5:∀j u,xs[j]?=some u->w.cell? ((⟨g,0,none⟩:Addr).add j)=some u:=hown.cells (g:=g) rfl;have h0:=run_append_grow (P:=P) w t ty e i z ht hi hz ⟨g,0,none⟩ n cap xs hown.1 h5 a m c news hl hnews (by omega) (by omega) (growslice_fits (by omega) hbytes);rw [hr] at h0;simp only [Result.ok.injEq] at h0;obtain ⟨rfl,-⟩:=h0;intro k hk;simp only [aRm,aQr] at hk;subst hk;exact .inr (aQo _)
theorem iH {α : Type} (cs : α->List Value) (e:TypeId) (sz bytes:Nat) (z:Value) (w:World) (hg:o.guard=none) (s x:Operand) (t:TypeId)
  (hop:o.op=Op.call { callee:=aTe aTd,args:=#[s,x],argTypes:=#[t,t] }) (ht:Tryz.prog.underlying t=some (.slice e))
  (hinfo:(Tryz.prog.info? e).map (fun i=>(i.zero,i.size,i.bytes))=some (some z,sz,bytes)) (hzs:z.cells.size=sz) (hsz:0<sz) (hby:bytes<=1000) (hc:∀x,(cs x).length=sz)
  (lo:Nat) (v:Value) (xs:List α) (hs:a.eval s=v) (hown:aF cs lo e sz w v xs)
  (y : α) (b:Nat) (hx:a.eval x = .slice (some ⟨b,0,none⟩) 1 1) (hcell:∀j,j<sz->w.cell? ⟨b,j,none⟩=(cs y)[j]?) (h1:∀u∈cs y,u.oneCell'=true) (hlen:xs.length<1000000) (hlo:lo<=w.heap.size)
  (hK:∀v' w',aF cs lo e sz w' v' (xs++[y])->w.grownBy w' v.ownBlock->(∀k,v'.ownBlock=some k->v.ownBlock=some k\/w.heap.size<=k)->wpList aQt ops Q rest (a.put o.dst v') w'):wpList aQt ops Q (o::rest) a w:=by
 obtain ⟨i0,h0,h6,h7,h8⟩:=info_parts hinfo;refine wpList_plain hg fun _ hKK=>?_
 obtain ⟨v',w',hr,h2,h3,h4⟩:=zH (P:=aQt) w lo t o.type e i0 z sz bytes ht h0 h6 h7 h8 hzs hsz v xs.length _ hown ⟨b,0,none⟩ 1 1 (cs y) (by rw [hc,aS5]) (by
  intro j u hj
  have h5:j<sz:=by rw [<-hc y];exact (aQq.1 hj).1
  have ea:(⟨b,0,none⟩:Addr).add j=⟨b,j,none⟩:=by
   unfold Addr.add
   split <;> simp_all
  rw [ea,hcell j h5,hj]) h1 (by unfold maxLen;omega) (by
   have:(xs.length+1)*bytes<=1000000*1000:=aRq (by omega) hby
   omega) hlo
 unfold Oper.wp execOp;simp only [hop,resolve,invoke,builtin,aYt,aZ7,aWy,aYh,aSu,aVy,hs,hx,hr];refine hKK _ _ (hK v' w' ?_ h3 h4);unfold aF;rw [aRg,aR1]
 simpa using h2
def nY (u:Value×Value):List Value:=[u.1,u.2]
theorem aEa {O:Nat} {fs:List aP} (h:aB7 lo w O fs v) (x:aP) (hl:fs.length<=100000) :
  Calls aQt 113 #[.pointer (some ⟨O,0,none⟩),.agg #[x.d,x.s,x.c,x.col,x.al]] w fun e w'=>∃v',e = .returned (.tuple #[])/\aB7 lo w' O (sM x fs) v'/\KN lo O 95 w w'/\(∀b,b<w.heap.size->b≠O->v.ownBlock≠some b->w'.heap[b]?=w.heap[b]?)/\(∀k,v'.ownBlock=some k->v.ownBlock=some k\/w.heap.size<=k):=by
 have x0:Ext w (w.alloc (.cells #[x.d,x.s,x.c,x.col,x.al] 95)):=X_;have hB:=aQx w 95 [x.d,x.s,x.c,x.col,x.al]
 obtain ⟨W0,x4⟩:∃W0,w.alloc (.cells #[x.d,x.s,x.c,x.col,x.al] 95)=W0:=⟨_,rfl⟩
 rw [x4] at x0
 have hB:Blk W0 w.heap.size 95 [x.d,x.s,x.c,x.col,x.al]:=by rw [<-x4];exact hB
 have c4:O<w.heap.size:=h.box.lt;have z6:=hid h;have HP:=hid (h.ext x0);have z8:=hid x0;have HB:=hid hB;have a3:=hid x4;have y2:=h.low
 obtain ⟨p,hp⟩:∃p,fA x fs=p:=⟨_,rfl⟩
 have h8:p<=fs.length:=hp▸zZ x fs;have x2:∀k,k<p->∃hk:k<fs.length,x.lt fs[k]=false:=fun k hk=>aAa (hp.symm▸hk)
 have q9:∀f,fs[p]?=some f->x.lt f=true:=fun f hf=>by
  obtain ⟨h1,h2⟩:=aQq.1 hf;subst h2;subst hp;exact aAb h1
 have q8:sM x fs=fs.take p++x::fs.drop p:=by rw [<-hp];exact aG2 x fs
 have a1:=hid x2;have a0:=hid q9;have z2:=hid q8;clear x2 q9 q8 hp;obtain ⟨a,cap,rfl,b8⟩:=h.row.form;clear h x0 hB x4;go_enter func113,ntmps113
 go_upto_block 0 with fail
 rw [a3]
 go_cut [4] from 5 to 29 (fun i wx=>i = .int .i64 (p:Nat)/\Ext W0 wx)
 case first=>
  go_wp2_with fail
  go_loopw [4] (fun i wr=>∃k:Nat,k<=p/\i = .int .i64 (k:Nat)/\Ext W0 wr) (fun i _=>fs.length - (intOf i).toNat)
  case atStart=>exact ⟨0,by omega,rfl,aQy _⟩
  case round=>
   obtain ⟨k,hk,rfl,hx⟩:=hrel;have HX:=hid hx;have c1:=(HP.ext hx).box.cell 0 rfl;have c2:=(HP.ext hx).box.cell 1 rfl;have h9:=hid (HB.ext hx);obtain ⟨b0,b1,b2,b3,b4⟩:=h9.q5;have zx:=h9.lt;have h6:=hid (HP.ext hx);clear hx
   rcases aRy k fs.length with x8|hge
   ·obtain ⟨f,hf⟩:∃f,fs[k]?=some f:=⟨_,aQ0 x8⟩
    obtain ⟨g,x7,he,-,c3,a7,c0,-,h3⟩:=aF.at h6.row (fun _=>rfl) hf;simp only [aRi,true_and] at he;obtain ⟨rfl,rfl⟩:=he;have d0:=h3 0 (by decide);have d1:=h3 1 (by decide);have d2:=h3 2 (by decide);have d3:=h3 3 (by decide);have d4:=h3 4 (by decide);simp only [aP.cs,aSa,aQm,aQn] at d0 d1 d2 d3 d4
    obtain ⟨r,hr⟩:∃r,x.cmp f=r:=⟨_,rfl⟩
    have HR:=hid hr;have HF:=hid hf
    have y3:decide (r<0)=x.lt f:=by rw [<-hr];exact aP.cmp_lt x f
    have z7:=hid y3;clear h3 hr hf y3
    rcases aRy k p with hkp|hkp
    ·have b9:0<=r:=by
      obtain ⟨b7,hq⟩:=a1 k hkp
      have e1:fs[k]=f:=by have:=HF.out;rw [aQ0 b7] at this;exact aSm this
      rw [e1] at hq;have:=z7.out;rw [hq] at this;have:=of_decide_eq_false this;omega
     go_wp2_with fail;refine aJ [([0,1,2,3,4,5,6,7,8,9,10,11,12,13,14,15,16,17,18,19],20),([21],22)] 99 (fun w'=>∃d,w'=fU (C3f O w.heap.size g) _ d) (by kernel_rfl) (by kernel_rfl) (aTh _ _) ?_;refine sc_ fun K hK=>?_;go_wp2_with fail;refine r_ (tT HR _) fun w1 x1=>?_;have Y1:=hid (aQu (w:=wr) X_ x1);have X1:=hid (HX.trans Y1);clear x1;go_wp2_with fail;refine hK _ _ (.inr (aRx fun a ha=>Y1.block (by rcases ha with ha|ha|ha <;> rw [ha] <;> omega))) ?_;clear hK K;refine sc_ fun K hK=>?_;go_wp2_with fail;go_wp2_with fail;refine hK _ _ (.inr (aRx fun a ha=>Y1.block (by rcases ha with ha|ha|ha <;> rw [ha] <;> omega))) ?_;clear hK K;refine aQ ?_;go_wp2;go_roundw
     case rel=>exact ⟨k+1,by omega,by go_num,X1⟩
     case measure=>simp [intOf];omega
    ·obtain rfl:k=p:=by omega
     have b9:r<0:=by
      have:=z7.out;rw [a0 f HF] at this;exact of_decide_eq_true this
     go_wp2_with fail;refine aJ [([0,1,2,3,4,5,6,7,8,9,10,11,12,13,14,15,16,17,18,19],20),([21],22)] 99 (fun w'=>∃d,w'=fU (C3f O w.heap.size g) _ d) (by kernel_rfl) (by kernel_rfl) (aTh _ _) ?_;refine sc_ fun K hK=>?_;go_wp2_with fail;refine r_ (tT HR _) fun w1 x1=>?_;have Y1:=hid (aQu (w:=wr) X_ x1);have X1:=hid (HX.trans Y1);clear x1;go_wp2_with fail;refine hK _ _ (.inr (aRx fun a ha=>Y1.block (by rcases ha with ha|ha|ha <;> rw [ha] <;> omega))) ?_;clear hK K;refine sc_ fun K hK=>?_;go_wp2_with fail;go_wp2_with fail;refine hK _ _ (.inr (aRx fun a ha=>Y1.block (by rcases ha with ha|ha|ha <;> rw [ha] <;> omega))) ?_;clear hK K;refine aQ ?_;go_wp2
     go_meet
     exact ⟨rfl,X1⟩
   ·obtain rfl:k=p:=by omega
    obtain rfl:k=fs.length:=by omega
    go_wp2_with fail;refine aJ [([0,1,2,3,4,5,6,7,8,9,10,11,12,13,14,15,16,17,18,19],20),([21],22)] 99 (fun w'=>∃d,w'=fU (C3f O O O) _ d) (by kernel_rfl) (by kernel_rfl) (aTh _ _) ?_;refine sc_ fun K hK=>?_;go_wp2_with fail;go_wp2_with fail;refine hK _ _ (.inr (aRx fun a ha=>rfl)) ?_;clear hK K;refine sc_ fun K hK=>?_;go_wp2_with fail;go_wp2_with fail;refine hK _ _ (.inr (aRx fun a ha=>rfl)) ?_;clear hK K;refine aQ ?_;go_wp2
    go_meet
    exact ⟨rfl,HX.trans (aRr (aQy _))⟩
 case rest=>
  obtain ⟨rfl,hx⟩:=hcut;have HX:=hid hx;have h6:=hid (HP.ext hx);have h9:=hid (HB.ext hx);have zx:=h9.lt;have c1:=h6.box.cell 0 rfl;obtain ⟨b0,b1,b2,b3,b4⟩:=h9.q5;clear hx;go_wp2_with fail;refine tJ [([0,1,2,3,4,5],6),([],7)] [([],8),([],9),([],10)] 8 (fun w'=>∃d,w'=fU (C3f O w.heap.size w.heap.size) _ d) (by kernel_rfl) (by kernel_rfl) (aTh _ _) ?_;refine sc_ fun K hK=>?_;go_wp2_with fail;have y1:Ext wc ((wc.alloc (.cells #[x.d,x.s,x.c,x.col,x.al] 95)).drew):=S_;have B2:Blk ((wc.alloc (.cells #[x.d,x.s,x.c,x.col,x.al] 95)).drew) wc.heap.size 95 x.cs:=aQx wc 95 x.cs;refine hK _ _ (.inr (aRx fun a ha=>y1.block (by rcases ha with ha|ha|ha <;> rw [ha] <;> omega))) ?_;clear hK K;have q0:=hid y1;have y7:=hid B2;have HN:=hid (h6.row.ext y1);clear y1 B2;have z1:=q0.size;refine sc_ fun K hK=>?_;refine iH aP.cs 95 5 40 _ _ rfl _ _ 48 rfl underlying48 iD rfl (by decide) (by decide) (fun _=>rfl) lo (.slice a fs.length cap) fs rfl HN x wc.heap.size rfl (fun j hj=>?_) (xG x) (by omega) (by omega) ?_
  ·rw [aQ0 (show j<x.cs.length from hj)]
   exact y7.cell j (aQ0 hj)
  intro y4 w2 h7 hg q6;have q7:∀k,y4.ownBlock=some k->(aR4 a fs.length cap).ownBlock=some k\/w.heap.size<=k:=fun k hk=>(q6 k hk).imp id (fun h=>by omega);have q2:=hid q7
  have q6:∀k,y4.ownBlock=some k->k≠w.heap.size:=fun k hk=>by
   rcases q6 k hk with h|h
   ·have:=(z6.row.lt _ h).2
    omega
   ·omega
  have y6:=hid q6;have hr:∀k,(aR4 a fs.length cap).ownBlock=some k->lo<=k/\∃c,wc.heap[k]?=some (.cells c 95 (0,0)):=aF.rowF h6.row;have k2:∀b,b<wc.heap.size->(∀c,wc.heap[b]?≠some (.cells c 95 (0,0)))->w2.heap[b]?=wc.heap[b]?:=fun b hb hn=>(hg.block b (by omega) (fun e=>(by obtain ⟨_,c,hc⟩:=hr b e.symm;exact hn c hc))).trans (q0.block hb)
  have B3:=h6.box.of (k2 O (by omega) (fun c hc=>by
   have:=h6.box;unfold Blk at this;rw [this] at hc;simp only [aQr,aR0] at hc
   exact absurd hc.2.1 (by decide)))
  have K3:KN lo O 95 wc w2:=KN.grown (q0.kn lo O 95) hg (fun k hk=>by
   obtain ⟨q1,c,hc⟩:=hr k hk
   exact ⟨q1,c,(q0.block (aQ9.1 hc).1).trans hc⟩)
  have kO:w2.heap[O]?=wc.heap[O]?:=k2 O (by omega) (fun c hc=>by
   have:=h6.box;unfold Blk at this;rw [this] at hc;simp only [aQr,aR0] at hc
   exact absurd hc.2.1 (by decide))
  have kX:w2.heap[w.heap.size]?=wc.heap[w.heap.size]?:=(hg.block _ (by omega) (fun e=>by
   have:=(z6.row.lt _ e.symm).2
   omega)).trans (q0.block zx)
  have k3:∀b,b<w.heap.size->(aR4 a fs.length cap).ownBlock≠some b->w2.heap[b]?=w.heap[b]?:=fun b hb hn=>((hg.block b (by omega) (fun e=>hn e.symm)).trans (q0.block (by omega))).trans ((z8.trans HX).block hb);have a5:=hid k3;clear k3 q7;go_wp2_with fail;refine hK _ _ (.inr (aRx fun a ha=>?_)) ?_
  ·rcases ha with ha|ha|ha <;> rw [ha]
   ·exact kO
   ·exact kX
   ·exact kX
  clear hK K;have BX:=h9.of kX;have y8:=hid BX;have d0:=B3.cell 0 rfl;have e0:=B3.free 0;have x9:=hid B3;have y9:=hid K3;have HO:=hid h7;obtain ⟨a2,h0,rfl,_⟩:=h7.form
  have y0:(fs++[x]).length=fs.length+1:=by simp
  have z4:=hid y0;clear h7 hg q6 hr k2 kO kX B3 K3 c1 b0 b1 b2 b3 b4 BX y0;refine aD8 (aB8 ?_);refine sc_ fun K hK=>?_;go_wp2_with fail;go_wp2_with fail;refine hK _ _ (.inr (trivial)) ?_;clear hK K;refine sc_ fun K hK=>?_;go_wp2_with fail;go_wp2_with fail;refine hK _ _ (.inr (trivial)) ?_;clear hK K;refine sc_ fun K hK=>?_;go_wp2_with fail;go_wp2_with fail;refine hK _ _ (.inr (trivial)) ?_;clear hK K;refine aQ ?_
  try rw [z4]
  have z5:=hid (aF.set HO x9 (by decide) 0 (.slice a2 (fs.length+1) h0));have q3:=hid (x9.set 0 (.slice a2 (fs.length+1) h0));have z3:=hid (y9.set y2 0 (.slice a2 (fs.length+1) h0));have x3:=hid (y8.other (a:=⟨O,0,none⟩) (by show w.heap.size≠O;omega) (.slice a2 (fs.length+1) h0))
  obtain ⟨W3,x5⟩:∃W3,w2.setCell ⟨O,0,none⟩ (.slice a2 (fs.length+1) h0)=W3:=⟨_,rfl⟩
  rw [x5] at z5 q3 z3 x3;rw [x5];have a6:Hid (∀b,b≠O->W3.heap[b]?=w2.heap[b]?):=hid (fun b hb=>by rw [<-x5];exact aQz _ _ _ _ (by simpa using hb));clear d0 e0 x5
  rcases z5.2 with ⟨_,h4⟩|⟨g,x7,cur,he,hb,hg,hc,hm,hs,ht⟩
  ·exact absurd h4 (by simp)
  rw [z4] at he hc ht;simp only [aRi,true_and] at he;obtain ⟨rfl,rfl⟩:=he;have HG:=hid hg;have HS:=hid hs;have HT:=hid ht;have c1:=q3.cell 0 rfl;have b6:g≠w.heap.size:=y6 g rfl;clear hg hs ht;unfold maxLen at hm
  have x6:O≠g:=fun e=>by
   have h1:=q3.out;have h2:=HG.out;unfold Blk at h1;rw [e,h2] at h1;simp only [aQr,aR0] at h1;exact absurd h1.2.1 (by decide)
  have zO:O<W3.heap.size:=q3.lt
  obtain ⟨D,hD⟩:∃D,D=(fs.drop p).flatMap aP.cs:=⟨_,rfl⟩
  have lD:D.length=(fs.length - p)*5:=by rw [hD,iF,aTl]
  have HD:=hid hD;have LD:=hid lD;have LC:Hid (cur.toList.length=h0*5):=hid (by simpa using HS.out);clear hD lD;go_upto_region 5 with fail
  go_cut [] from 40 to 53 (fun wx=>∃C1:List Value,wx.heap[g]?=some (.cells C1.toArray 95 (0,0))/\C1.length=h0*5/\(C1.take (p*5)++x.cs++C1.drop (p*5+x.cs.length)).take ((fs.length+1)*5)=(sM x fs).flatMap aP.cs/\W3.grownBy wx (some g))
  case first=>
   by_cases a9:h0=p+1
   ·obtain rfl:p=fs.length:=by omega
    obtain rfl:h0=fs.length+1:=a9;have a8:D=[]:=aVa (by rw [LD];omega);subst a8
    have c6:((fs.length:Nat):Int)+1<=9223372036854775807:=by omega
    go_wp2_with fail;refine aJ [([0,1,2,3,4,5,6,7,8,9,10,11,12],13)] 99 (fun w'=>∃d,w'=fU (C3f O O O) _ d) (by kernel_rfl) (by kernel_rfl) (aTh _ _) ?_;refine sc_ fun K hK=>?_;go_wp2_with (refine lX rfl _ _ _ _ rfl 95 5 0 underlying48 qT g _ _ _ _ _ _ rfl rfl cur 95 HG [] ?_ rfl ?_ ?_ ?_ ?_)
    ·rfl
    ·intro j v h
     simp at h
    ·simp
    ·intro v h
     cases h
    intro W4 h4 q4
    have q5:W3.grownBy W4 (some g):=⟨q4.os,q4.tape,q4.output,q4.size,q4.block⟩
    have Q4:=hid q5;have H4:=hid h4;clear h4 q4 q5;go_wp2_with fail;refine hK _ _ (.inr (aRx fun a ha=>(by rcases ha with ha|ha|ha <;> rw [ha] <;> exact Q4.block O zO (fun e=>x6 (aSm e))))) ?_;clear hK K;refine aQ ?_;go_wp2_with fail
    go_meet
    refine ⟨cur.toList,by simpa using H4.out,LC,?_,Q4⟩;rw [z2];exact aK6 (p:=fs.length) (L:=cur.toList) (C1:=cur.toList) h8 (by rw [LC];exact aQo _) HT HD (by simp)
   ·have b5:p+1<h0:=by omega
    go_wp2_with fail;refine aJ [([0,1,2,3,4,5,6,7,8,9,10,11,12],13)] 99 (fun w'=>∃d,w'=fU (C3f O O O) _ d) (by kernel_rfl) (by kernel_rfl) (aTh _ _) ?_;refine sc_ fun K hK=>?_;go_wp2_with (refine lX rfl _ _ _ _ rfl 95 5 (fs.length - p) underlying48 qT g _ _ _ _ _ _ rfl rfl cur 95 HG D ?_ LD ?_ ?_ ?_ ?_)
    ·show fs.length - p=min (fs.length+1 - p) (fs.length - p)
     omega
    ·intro j v hj
     have e2:(⟨g,p*5,none⟩:Addr).add j=⟨g,p*5+j,none⟩:=by
      cases j <;> simp [Addr.add]
     rw [e2];have e3:=aOg (x:=x) h8 HT j v (HD.out▸hj)
     show W3.cell? _=_
     simp only [aSn,HG.out]
     simpa using e3
    ·rw [LD,HS]
     omega
    ·rw [HD]
     exact aI7 _
    intro W4 h4 q4
    try rw [<-aRp] at h4
    have q5:W3.grownBy W4 (some g):=⟨q4.os,q4.tape,q4.output,q4.size,q4.block⟩
    have Q4:=hid q5;have H4:=hid h4;clear h4 q4 q5;go_wp2_with fail;refine hK _ _ (.inr (aRx fun a ha=>(by rcases ha with ha|ha|ha <;> rw [ha] <;> exact Q4.block O zO (fun e=>x6 (aSm e))))) ?_;clear hK K;refine aQ ?_;go_wp2_with fail
    go_meet
    refine ⟨_,H4,?_,?_,Q4⟩
    ·rw [aRg,aRg,aRf,aTl,LD,LC]
     omega
    ·rw [z2]
     exact aK6 h8 (by rw [LC];exact aSh 5 hc) HT HD rfl
  case rest=>
   obtain ⟨C1,h5,l5,t5,q5⟩:=hcut;have z0:=hid (q3.of (q5.block O zO (fun e=>x6 (aSm e))));have a4:=hid (x3.of (q5.block w.heap.size x3.lt (fun e=>b6 (aSm e).symm)));have H5:=hid h5;have L5:=hid l5;have T5:=hid t5;have Q5:=hid q5;have c1:=z0.cell 0 rfl;obtain ⟨b0,b1,b2,b3,b4⟩:=a4.q5;have eW:=rW g 95 x.cs (p*5) C1 (wc.drew) h5 (by rw [l5,show x.cs.length=5 from rfl];omega);have EW:=hid eW;clear h5 l5 t5 q5 eW;go_wp2_with fail;refine aJ [([0,1,2,3,4,5,6],7)] 7 (fun w'=>∃d,w'=fU (C3f O w.heap.size w.heap.size) _ d) (by kernel_rfl) (by kernel_rfl) (aTh _ _) ?_;refine sc_ fun K hK=>?_;go_wp2_with (refine wpList_store_mid rfl _ _ _ rfl g (p*5) #[x.d,x.s,x.c,x.col,x.al] rfl rfl ?_ qT (all_oneCell_toArray (xG x)) ?_)
   ·intro j hj
    have c5:j<5:=hj;have e1:wc.drew.heap[g]?=some (.cells C1.toArray 95 (0,0)):=H5;have e0:wc.heap[g]?=some (.cells C1.toArray 95 (0,0)):=H5;have l5:=L5.out
    have x8:p*5+j<C1.length:=by omega
    refine ⟨?_,?_⟩
    ·simp only [aSn,e1,e0]
     simp [x8]
    ·simp only [World.frozen?,e1,e0]
     simp
   have y5:Hid (wc.drew.setCells g (p*5) [x.d,x.s,x.c,x.col,x.al]=_):=EW;rw [y5];go_wp2_with fail;refine l_ hK ?_;clear hK K;refine aQ ?_;go_wp2
   go_end0
   have lR:(C1.take (p*5)++x.cs++C1.drop (p*5+x.cs.length)).length=h0*5:=by
    rw [aRg,aRg,aRf,aTl,show x.cs.length=5 from rfl,L5];omega
   refine ⟨.slice (some ⟨g,0,none⟩) (fs.length+1) h0,rfl,⟨?_,y2,?_⟩,?_,fun b hb hbO hbv=>?_,fun k hk=>q2 k hk⟩
   ·exact Blk.otherRowB (w:=wc.drew) z0 x6 _
   ·refine ⟨iF _,.inr ⟨g,h0,(C1.take (p*5)++x.cs++C1.drop (p*5+x.cs.length)).toArray,?_,hb,setRow_heap wc.drew g C1.toArray _ _ _ H5,?_,?_,?_,?_⟩⟩
    ·rw [jR]
    ·rw [jR];exact hc
    ·unfold maxLen;exact hm
    ·rw [aVn,lR]
    ·rw [jR];exact T5
   ·refine KN.grown (KN.grown (((z8.trans HX).kn lo O 95).trans z3) (w2:=wc.drew) (row:=some g) ⟨Q5.os,Q5.tape,Q5.output,Q5.size,Q5.block⟩ ?_) (rV wc.drew g _) ?_
    ·intro k hk
     obtain rfl:=aSm hk;exact ⟨hb,_,HG⟩
    ·intro k hk
     obtain rfl:=aSm hk;exact ⟨hb,_,H5⟩
   ·have z9:b≠g:=fun e=>by
     rcases q2 g rfl with h|h
     ·exact hbv (e▸h)
     ·omega
    exact (setRow_other wc.drew g b _ z9).trans ((Q5.block b (Nat.lt_trans hb x3.lt) (fun e=>z9 (aSm e))).trans ((a6 b hbO).trans (a5 b hb hbv)))
theorem aEb (r:Int) (w:World):R_ 146 #[r] w (.bool (uE r)):=by
 unfold uE;go_enter func146,ntmps146;go_wp2
 all_goals
  go_ret;exact ⟨by first|rfl|simp [*],X_⟩
theorem aEc (r:Int) (w:World):R_ 93 #[r] w (.bool (pV r)):=by
 unfold pV;go_enter func93,ntmps93;go_wp2
 all_goals
  go_ret;exact ⟨by first|rfl|simp [*],X_⟩
theorem eG (f:Nat->Int):qR f=(cU (f 0) (f 1) (f 2)&&cU (f 3) (f 4) (f 5)&&cU (f 6) (f 7) (f 8)&&cU (f 9) (f 10) (f 11)):=rfl
theorem gU (f:Nat->Int) (w:World):R_ 145 #[.agg f] w (.bool (qR f)):=by
 have j0:=pD f 0 (by decide);have j1:=pD f 1 (by decide);have j2:=pD f 2 (by decide);have j3:=pD f 3 (by decide);simp only [aYs,aRl,aUl,aTp,aYd,aWg] at j0 j1 j2 j3;have X0:Ext w (w.alloc (.cells f 125)):=X_;go_enter func145,ntmps145;go_wp2_with fail
 obtain ⟨W0,h0⟩:∃W0,(w.alloc (.cells f 125))=W0:=⟨_,rfl⟩
 rw [h0] at X0 ⊢;clear h0
 go_loopw [7] (fun i wr=>∃k:Nat,k<=4/\i = .int .i64 (k:Nat)/\Ext w wr/\(0<k->cU (f 0) (f 1) (f 2)=true)/\(1<k->cU (f 3) (f 4) (f 5)=true)/\(2<k->cU (f 6) (f 7) (f 8)=true)/\(3<k->cU (f 9) (f 10) (f 11)=true)) (fun i _=>4 - (intOf i).toNat)
 case atStart=>exact ⟨0,by omega,rfl,X0,by omega,by omega,by omega,by omega⟩
 case round=>
  obtain ⟨k,hk,rfl,hx,b0,b1,b2,b3⟩:=hrel;have HX:=hid hx;have B0:=hid b0;have B1:=hid b1;have B2:=hid b2;have B3:=hid b3;clear hx b0 b1 b2 b3 X0
  rcases (show k=0\/k=1\/k=2\/k=3\/k=4 by omega) with rfl|rfl|rfl|rfl|rfl
  ·go_wp2_with fail
   refine r_ (dK _) fun w3 x3=>?_;have y3:Ext wr w3:=aQu (show Ext wr (wr.alloc (.cells #[(f 0),(f 1),(f 2)] 122)) from X_) x3
   cases hb:cU (f 0) (f 1) (f 2)
   ·go_wp2
    go_ret;exact ⟨by rw [eG,hb];simp,HX.trans y3⟩
   ·have HB:=hid hb
    clear hb;go_wp2;go_roundw
    case rel=>exact ⟨1,by omega,by go_num,HX.trans y3,fun _=>HB.out,fun h=>absurd h (by omega),fun h=>absurd h (by omega),fun h=>absurd h (by omega)⟩
    case measure=>simp [intOf]
  ·go_wp2_with fail
   refine r_ (dK _) fun w3 x3=>?_;have y3:Ext wr w3:=aQu (show Ext wr (wr.alloc (.cells #[(f 3),(f 4),(f 5)] 122)) from X_) x3
   cases hb:cU (f 3) (f 4) (f 5)
   ·go_wp2
    go_ret;exact ⟨by rw [eG,hb];simp,HX.trans y3⟩
   ·have HB:=hid hb
    clear hb;go_wp2;go_roundw
    case rel=>exact ⟨2,by omega,by go_num,HX.trans y3,fun h=>B0.out (by omega),fun _=>HB.out,fun h=>absurd h (by omega),fun h=>absurd h (by omega)⟩
    case measure=>simp [intOf]
  ·go_wp2_with fail
   refine r_ (dK _) fun w3 x3=>?_;have y3:Ext wr w3:=aQu (show Ext wr (wr.alloc (.cells #[(f 6),(f 7),(f 8)] 122)) from X_) x3
   cases hb:cU (f 6) (f 7) (f 8)
   ·go_wp2
    go_ret;exact ⟨by rw [eG,hb];simp,HX.trans y3⟩
   ·have HB:=hid hb
    clear hb;go_wp2;go_roundw
    case rel=>exact ⟨3,by omega,by go_num,HX.trans y3,fun h=>B0.out (by omega),fun h=>B1.out (by omega),fun _=>HB.out,fun h=>absurd h (by omega)⟩
    case measure=>simp [intOf]
  ·go_wp2_with fail
   refine r_ (dK _) fun w3 x3=>?_;have y3:Ext wr w3:=aQu (show Ext wr (wr.alloc (.cells #[(f 9),(f 10),(f 11)] 122)) from X_) x3
   cases hb:cU (f 9) (f 10) (f 11)
   ·go_wp2
    go_ret;exact ⟨by rw [eG,hb];simp,HX.trans y3⟩
   ·have HB:=hid hb
    clear hb;go_wp2;go_roundw
    case rel=>exact ⟨4,by omega,by go_num,HX.trans y3,fun h=>B0.out (by omega),fun h=>B1.out (by omega),fun h=>B2.out (by omega),fun _=>HB.out⟩
    case measure=>simp [intOf]
  ·go_wp2
   go_ret;exact ⟨by rw [eG,B0 (by omega),B1 (by omega),B2 (by omega),B3 (by omega)];rfl,HX⟩
theorem pH (f g:Nat->Int) (sh rt:Int) (n:Nat) (w:World):R_ 95 #[.agg #[(f 0),(f 1),(f 2),(f 3),(f 4),(f 5),(f 6),(f 7),(f 8),(f 9),(f 10),(f 11),(g 0),(g 1),(g 2),(g 3),(g 4),(g 5),(g 6),(g 7),(g 8),(g 9),(g 10),(g 11),sh,rt],(n:Nat)] w (.bool (aMy f g sh rt n)):=by
 have q0:=aQx w 127 [(f 0),(f 1),(f 2),(f 3),(f 4),(f 5),(f 6),(f 7),(f 8),(f 9),(f 10),(f 11),(g 0),(g 1),(g 2),(g 3),(g 4),(g 5),(g 6),(g 7),(g 8),(g 9),(g 10),(g 11),sh,rt];have R0:=hid q0;have X0:=hid (show Ext w (w.alloc (.cells #[(f 0),(f 1),(f 2),(f 3),(f 4),(f 5),(f 6),(f 7),(f 8),(f 9),(f 10),(f 11),(g 0),(g 1),(g 2),(g 3),(g 4),(g 5),(g 6),(g 7),(g 8),(g 9),(g 10),(g 11),sh,rt] 127)) from X_);clear q0
 obtain ⟨b1,q5⟩:∃b,qR f=b:=⟨_,rfl⟩
 obtain ⟨b2,q6⟩:∃b,qR g=b:=⟨_,rfl⟩
 obtain ⟨b3,q7⟩:∃b,uE rt=b:=⟨_,rfl⟩
 have C1:∀W:World,R_ 145 #[.agg f] W (.bool b1):=fun W=>q5▸gU f W;have C2:∀W:World,R_ 145 #[.agg g] W (.bool b2):=fun W=>q6▸gU g W;have C3:∀W:World,R_ 146 #[rt] W (.bool b3):=fun W=>q7▸aEb rt W;have H1:=hid C1;have H2:=hid C2;have H3:=hid C3;unfold aMy;rw [q5,q6,q7];clear q5 q6 q7 C1 C2 C3
 cases b1
 case false=>
  go_enter func95,ntmps95;go_wp2_with fail;refine r_ (H1 _) fun w1 x1=>?_;have X1:=hid (X0.trans x1);have R1:=hid (R0.ext x1);clear x1;go_wp2;go_ret;exact ⟨by simp [*],X1⟩
 case true=>
  cases b2
  case false=>
   go_enter func95,ntmps95;go_wp2_with fail;refine r_ (H1 _) fun w1 x1=>?_;have X1:=hid (X0.trans x1);have R1:=hid (R0.ext x1);clear x1;have h2:=R1.cell 12 rfl;have h3:=R1.cell 13 rfl;have h4:=R1.cell 14 rfl;have h5:=R1.cell 15 rfl;have h6:=R1.cell 16 rfl;have h7:=R1.cell 17 rfl;have h8:=R1.cell 18 rfl;have h9:=R1.cell 19 rfl;have q1:=R1.cell 20 rfl;have q2:=R1.cell 21 rfl;have q3:=R1.cell 22 rfl;have q4:=R1.cell 23 rfl;go_wp2_with fail;refine r_ (H2 _) fun w2 x2=>?_;have X2:=hid (X1.trans x2);have R2:=hid (R1.ext x2);clear x2;go_wp2;go_ret;exact ⟨by simp [*],X2⟩
  case true=>
   rcases aXr sh 0 with h0|h0
   ·have g0:decide (0<=sh)=false:=by simp;omega
    go_enter func95,ntmps95;go_wp2_with fail;refine r_ (H1 _) fun w1 x1=>?_;have X1:=hid (X0.trans x1);have R1:=hid (R0.ext x1);clear x1;have h2:=R1.cell 12 rfl;have h3:=R1.cell 13 rfl;have h4:=R1.cell 14 rfl;have h5:=R1.cell 15 rfl;have h6:=R1.cell 16 rfl;have h7:=R1.cell 17 rfl;have h8:=R1.cell 18 rfl;have h9:=R1.cell 19 rfl;have q1:=R1.cell 20 rfl;have q2:=R1.cell 21 rfl;have q3:=R1.cell 22 rfl;have q4:=R1.cell 23 rfl;go_wp2_with fail;refine r_ (H2 _) fun w2 x2=>?_;have X2:=hid (X1.trans x2);have R2:=hid (R1.ext x2);clear x2;have q8:=R2.cell 24 rfl;go_wp2;go_ret;exact ⟨by simp [*],X2⟩
   ·have g0:decide (0<=sh)=true:=by simp;omega
    rcases aXr sh n with h1|h1
    ·have g1:decide (sh<(n:Int))=true:=by simp;omega
     go_enter func95,ntmps95;go_wp2_with fail;refine r_ (H1 _) fun w1 x1=>?_;have X1:=hid (X0.trans x1);have R1:=hid (R0.ext x1);clear x1;have h2:=R1.cell 12 rfl;have h3:=R1.cell 13 rfl;have h4:=R1.cell 14 rfl;have h5:=R1.cell 15 rfl;have h6:=R1.cell 16 rfl;have h7:=R1.cell 17 rfl;have h8:=R1.cell 18 rfl;have h9:=R1.cell 19 rfl;have q1:=R1.cell 20 rfl;have q2:=R1.cell 21 rfl;have q3:=R1.cell 22 rfl;have q4:=R1.cell 23 rfl;go_wp2_with fail;refine r_ (H2 _) fun w2 x2=>?_;have X2:=hid (X1.trans x2);have R2:=hid (R1.ext x2);clear x2;have q8:=R2.cell 24 rfl;have q9:=R2.cell 25 rfl;go_wp2_with fail;refine r_ (H3 _) fun w3 x3=>?_;have X3:=hid (X2.trans x3);have R3:=hid (R2.ext x3);clear x3;go_wp2;go_ret;exact ⟨by simp [*],X3⟩
    ·have g1:decide (sh<(n:Int))=false:=by simp;omega
     go_enter func95,ntmps95;go_wp2_with fail;refine r_ (H1 _) fun w1 x1=>?_;have X1:=hid (X0.trans x1);have R1:=hid (R0.ext x1);clear x1;have h2:=R1.cell 12 rfl;have h3:=R1.cell 13 rfl;have h4:=R1.cell 14 rfl;have h5:=R1.cell 15 rfl;have h6:=R1.cell 16 rfl;have h7:=R1.cell 17 rfl;have h8:=R1.cell 18 rfl;have h9:=R1.cell 19 rfl;have q1:=R1.cell 20 rfl;have q2:=R1.cell 21 rfl;have q3:=R1.cell 22 rfl;have q4:=R1.cell 23 rfl;go_wp2_with fail;refine r_ (H2 _) fun w2 x2=>?_;have X2:=hid (X1.trans x2);have R2:=hid (R1.ext x2);clear x2;have q8:=R2.cell 24 rfl;go_wp2;go_ret;exact ⟨by simp [*],X2⟩
theorem aAp {b:Nat} (hb:w.heap.size=b):bE (w.alloc (.cells f t)) b t 12 f:=
 hb▸World.rowIs_alloc _ _ _ _ fun i hi=>by rcases aMz hi with h|h|h|h|h|h|h|h|h|h|h|h <;> subst h <;> rfl
structure Pt where
 u:Int
 v:Int
 x:Int
 y:Int
 z:Int
def Pt.ls (p:Pt):List Int:=[p.u,p.v,p.x,p.y,p.z]
def Pt.cs (p:Pt):List Value:=[p.u,p.v,p.x,p.y,p.z]
def aCb (lo:Nat) (w:World) (v:Value) (xs:List Pt):Prop:=aF Pt.cs lo 228 5 w v xs
theorem aEd:(Tryz.prog.info? 228).map (fun i=>(i.zero,i.size,i.bytes))=some (some (.agg #[(),(),(),(),()]),5,40):=by kernel_rfl
theorem lY (w:World) (hg:o.guard=none) (s x:Operand)
  (hop:o.op=Op.call { callee:=aTe aTd,args:=#[s,x],argTypes:=#[166,166] }) (lo:Nat) (v:Value) (xs:List Pt) (hs:a.eval s=v) (hown:aCb lo w v xs)
  (y:Pt) (b:Nat) (hx:a.eval x = .slice (some ⟨b,0,none⟩) 1 1) (hcell:∀j,j<5->w.cell? ⟨b,j,none⟩=y.cs[j]?) (hlen:xs.length<1000000) (hlo:lo<=w.heap.size)
  (hK:∀v' w',aCb lo w' v' (xs++[y])->w.grownBy w' v.ownBlock->wpList aQt ops Q rest (a.put o.dst v') w'):wpList aQt ops Q (o::rest) a w:=by
 refine dW Pt.cs 228 5 40 _ w hg s x 166 hop underlying166 aEd rfl (by decide) (by decide) (fun _=>rfl) lo v xs hs hown y b hx hcell ?_ hlen hlo hK;intro u hu;simp only [Pt.cs,aRb,aQ5,or_false] at hu
 rcases hu with rfl|rfl|rfl|rfl|rfl <;> rfl
section
open Go.RowKit Go.Shelf
attribute [local go_sem] Oper.semAt_some
def ptG (f:Nat->Int) (n i j:Nat):Pt:=⟨(i:Int)*256 / (n:Int),(j:Int)*256 / (n:Int),(evP f i j n).x,(evP f i j n).y,(evP f i j n).z⟩
def gV (f:Nat->Int) (n:Nat) (pre:List (Fin n×Fin n)):List Pt:=pre.map fun p=>ptG f n p.1 p.2
theorem aI9 (f:Nat->Int) (n:Nat) (pre:List (Fin n×Fin n)) (x:Fin n×Fin n):gV f n (pre++[x])=gV f n pre++[ptG f n x.1 x.2]:=by
 unfold gV;rw [aSy,aVc]
theorem aEe (f:Nat->Int) (n:Nat) (hn:0<n) {i:Nat} {x:Pt} (h:(gV f n (cC n hn (n*n)))[i]?=some x):x=ptG f n (i % n) (i / n):=by
 unfold gV cC at h;rw [List.map_map,aSf] at h;obtain ⟨q,hq,rfl⟩:=aWw.1 h;obtain ⟨hl,rfl⟩:=aQq.1 hq;rw [aUf] at hl;rw [aT6];have hd:i / n<n:=aTb hl
 show ptG f n (i % n) (i / n % n)=_
 rw [aUn hd]
theorem jL (f:Nat->Int) (n q k:Nat) (hk:k<5):aAn f n (q*5+k)=(ptG f n (q % n) (q / n)).ls.getD k 0:=by
 have e1:(q*5+k) / 5=q:=by omega
 have e2:(q*5+k) % 5=k:=by omega
 unfold aAn;rw [e1,e2]
 rcases (show k=0\/k=1\/k=2\/k=3\/k=4 by omega) with rfl|rfl|rfl|rfl|rfl <;> rfl
theorem aGi {a b c d i j n:Int} (hn:1<=n) (hi:0<=i/\i<=n) (hj:0<=j/\j<=n) : -1000000<=evC a b c d i j n/\evC a b c d i j n<=1000000:=
 ⟨aJo hn hi hj (cM _).1 (cM _).1 (cM _).1 (cM _).1,aJp hn hi hj (cM _).2 (cM _).2 (cM _).2 (cM _).2⟩
theorem aNo {i n:Nat} (h1:1<=n) (h:i<n):0<=((i:Int)*256 / (n:Int))/\((i:Int)*256 / (n:Int))<=256:=
 ⟨Int.ediv_nonneg (by omega) (by omega),Int.ediv_le_of_le_mul (by omega) (by omega)⟩
theorem aGj (f:Nat->Int) {n i j:Nat} (h1:1<=n) (hi:i<n) (hj:j<n):∀x∈(ptG f n i j).ls,-1000000<=x/\x<=1000000:=by
 intro x hx;have u:=aNo h1 hi;have v:=aNo h1 hj;simp only [ptG,Pt.ls,evP,aRb,aQ5,or_false] at hx
 rcases hx with rfl|rfl|rfl|rfl|rfl
 ·omega
 ·omega
 ·exact aGi (by omega) (by omega) (by omega)
 ·exact aGi (by omega) (by omega) (by omega)
 ·exact aGi (by omega) (by omega) (by omega)
theorem xJ {f:Nat->Int} {n:Nat} {t:Tex} (hn:1<=n/\n<=8) (ht:t.okB=true):(mY f n t).okB=true:=by
 unfold Grd.okB mY;simp only [aQ4,aG,decide_eq_true_eq,aRw,aRu];refine ⟨⟨⟨⟨⟨by omega,by omega⟩,by rw [aT3]⟩,by decide,by decide⟩,ht⟩,fun q hq=>?_⟩;unfold ptB;rw [aRw];intro x hx;have hu:q % n<n:=aTf _ (by omega);have hv:q / n<n:=aTb hq;refine aG.2 (aGj f hn.1 hu hv x ?_);have e0:=jL f n q 0 (by decide);have e1:=jL f n q 1 (by decide);have e2:=jL f n q 2 (by decide);have e3:=jL f n q 3 (by decide);have e4:=jL f n q 4 (by decide);simp only [ptL,aRb,aQ5,or_false] at hx;simp only [Pt.ls,List.getD_cons_zero,List.getD_cons_succ,aSa] at e0 e1 e2 e3 e4;simp only [Pt.ls,aRb,aQ5,or_false]
 rcases hx with rfl|rfl|rfl|rfl|rfl
 ·exact .inl e0
 ·exact .inr (.inl e1)
 ·exact .inr (.inr (.inl e2))
 ·exact .inr (.inr (.inr (.inl e3)))
 ·exact .inr (.inr (.inr (.inr e4)))
theorem aHq {t:Tex} (h:t.okB=true):1<=t.px.length/\t.px.length<=1000:=by
 have h:=Tex.okB_iff.1 h;obtain ⟨h0,h4,hl,-⟩:=h;have h1:=h0;rw [hl];unfold Tex.n
 have:t.log=0\/t.log=1\/t.log=2\/t.log=3\/t.log=4:=by omega
 rcases this with e|e|e|e|e <;> rw [e] <;> decide
theorem xK (l1 lo hi:Nat) (u:Value) (xs:List Int) (w:World) (hu:aU lo hi w u xs) (hh:hi<=w.heap.size) (h1:1<=xs.length) (h2:xs.length<=1000) (hl:l1<=w.heap.size) :
  Calls aQt 164 #[u] w fun e w'=>∃v',e = .returned v'/\aB l1 w' v' xs/\Ext w w':=(aGh lo hi u xs w hu hh h1 h2).mono (by rintro e w' ⟨v',h1,h2,h3⟩;exact ⟨v',h1,h2.low hl,h3⟩)
theorem aGk:(Tryz.prog.info? 168).map (fun i=>i.size)=some 5:=by kernel_rfl
theorem TuR.open {lo:Nat} {w:World} {v:Value} {xs:List Int} (h:TuR lo w v xs):∃g cs,Blk w g 3 cs/\∀w',Blk w' g 3 cs->aB lo w' v xs:=by
 obtain ⟨g,cs,_,h2,h3⟩:=h;exact ⟨g,cs,h2,h3⟩
def CGr (w A m:Nat):Addr->Prop:=fun a=>a.block=w+1\/a.block=A\/a.block=m
@[go_sem] theorem aP0 {w A m k o:Nat} (h:k=w+1\/k=A\/k=m):CGr w A m ⟨k,o,none⟩:=h
def grF (f:Nat->Int) (n:Nat) (t:Tex) (a:Option Addr) (cap w g:Nat) (cs:List Value) (nb:Nat):List (Nat×TypeId×List Value):=
 [(w,125,f),(w+1,3,[(n:Nat)]),(w+1+1,36,[t.log,.slice a t.px.length cap]),(w+1+1+1,168,[(),.slice none 0 0,(),(),.slice none 0 0]),(g,3,cs),(nb,3,[(n:Nat)])]
theorem aOh {f:Nat->Int} {n:Nat} {t:Tex} {a:Option Addr} {cap w g:Nat} {cs:List Value} {nb A:Nat} (h1:w+4<=A) (h2:g≠A) (h3:nb≠A):∀p∈grF f n t a cap w g cs nb,p.2.1≠228/\p.1≠A:=by
 intro p hp;simp only [grF,aRb,aQ5,or_false] at hp
 rcases hp with rfl|rfl|rfl|rfl|rfl|rfl <;> exact ⟨by simp,by simp only [ne_eq];omega⟩
theorem aEf (lo hi:Nat) (f:Nat->Int) (hf:qR f=true) (n:Nat) (hn:1<=n/\n<=8) (tv:Value) (t:Tex) (w:World) (ht:cN lo hi w tv t) (hh:hi<=w.heap.size) (hok:t.okB=true) :
  Calls aQt 106 #[.agg f,(n:Nat),(),tv] w fun e w'=>∃v,e = .returned (.tuple #[v,.bool true])/\(mY f n t).R w.heap.size w'.heap.size w' v/\Ext w w':=by
 obtain ⟨tu,rfl,x8,hu⟩:=ht;have HU:=hid hu;obtain ⟨a,cap,rfl,HA⟩:=hu.open;have z5:=(aHq hok).1;have x4:=(aHq hok).2;have d1:=hid hok;have HF:=hid hf;have d4:=hid x8;clear hu HA hf hok x8;have C0:∀W:World,Calls aQt 165 #[(n:Nat)] W fun e w'=>e = .returned (.func (.func 217) #[] #[.pointer (some ⟨W.heap.size,0,none⟩)])/\w'=W.alloc (.cells #[(n:Nat)] 3):=fun W=>(callsIn_wide (n:=0)).1 (sW n 0 W);have C2:=hid C0;clear C0;have I1:=hid (aG.2 (show (1:Int)<=(n:Int)/\(n:Int)<=8 by omega))
 have h4:0<n:=by omega
 have q0:=aQx w 125 f;have q1:=aQx (w.alloc (.cells f 125)) 3 [(n:Nat)];have q2:=aQx ((w.alloc (.cells f 125)).alloc (.cells #[(n:Nat)] 3)) 36 [t.log,.slice a t.px.length cap];have q3:=aQx (((w.alloc (.cells f 125)).alloc (.cells #[(n:Nat)] 3)).alloc (.cells #[t.log,.slice a t.px.length cap] 36)) 168 [(),.slice none 0 0,(),(),.slice none 0 0];simp only [aQp] at q1 q2 q3;have r0:=q0.ext (show Ext (w.alloc (.cells f 125)) ((((w.alloc (.cells f 125)).alloc (.cells #[(n:Nat)] 3)).alloc (.cells #[t.log,.slice a t.px.length cap] 36)).alloc (.cells #[(),.slice none 0 0,(),(),.slice none 0 0] 168)) from X_);have R0:=hid r0;have r1:=q1.ext (show Ext ((w.alloc (.cells f 125)).alloc (.cells #[(n:Nat)] 3)) ((((w.alloc (.cells f 125)).alloc (.cells #[(n:Nat)] 3)).alloc (.cells #[t.log,.slice a t.px.length cap] 36)).alloc (.cells #[(),.slice none 0 0,(),(),.slice none 0 0] 168)) from X_);have R1:=hid r1;have r2:=q2.ext (show Ext (((w.alloc (.cells f 125)).alloc (.cells #[(n:Nat)] 3)).alloc (.cells #[t.log,.slice a t.px.length cap] 36)) ((((w.alloc (.cells f 125)).alloc (.cells #[(n:Nat)] 3)).alloc (.cells #[t.log,.slice a t.px.length cap] 36)).alloc (.cells #[(),.slice none 0 0,(),(),.slice none 0 0] 168)) from X_);have R2:=hid r2;have r3:=q3.ext (show Ext ((((w.alloc (.cells f 125)).alloc (.cells #[(n:Nat)] 3)).alloc (.cells #[t.log,.slice a t.px.length cap] 36)).alloc (.cells #[(),.slice none 0 0,(),(),.slice none 0 0] 168)) ((((w.alloc (.cells f 125)).alloc (.cells #[(n:Nat)] 3)).alloc (.cells #[t.log,.slice a t.px.length cap] 36)).alloc (.cells #[(),.slice none 0 0,(),(),.slice none 0 0] 168)) from X_);have R3:=hid r3;have X0:=hid (show Ext w ((((w.alloc (.cells f 125)).alloc (.cells #[(n:Nat)] 3)).alloc (.cells #[t.log,.slice a t.px.length cap] 36)).alloc (.cells #[(),.slice none 0 0,(),(),.slice none 0 0] 168)) from X_)
 have z0:((((w.alloc (.cells f 125)).alloc (.cells #[(n:Nat)] 3)).alloc (.cells #[t.log,.slice a t.px.length cap] 36)).alloc (.cells #[(),.slice none 0 0,(),(),.slice none 0 0] 168)).heap.size=w.heap.size+4:=by simp
 have Z0:=hid z0;clear q0 q1 q2 q3 r0 r1 r2 r3 z0;refine (callsIn_wide (n:=3)).1 ?_;refine callsIn_of_wp_marks func106 rfl trivial ?_ rfl;simp only [ntmps106,aVn,aR3,aSx,aTp,Nat.reduceSub,Array.replicate_succ,Array.replicate_zero,List.push_toArray,List.append_toArray,aSk,aVw];refine wpIn_wide.2 ?_;go_wp2_with fail;refine (gU f _).mono ?_;rw [HF];rintro e w1 ⟨rfl,x1⟩;have S0:=R0.ext x1;have S1:=R1.ext x1;have S2:=R2.ext x1;have S3:=R3.ext x1;have X1:=hid (X0.trans x1);have Z1:=hid (show w.heap.size+4<=w1.heap.size by have:=x1.size;have:=Z0.out;omega);have n0:=S1.cell 0 rfl;have l1:=S1.lt;obtain ⟨t0,t1⟩:=S2.q2;have l2:=S2.lt;have H0:=hid S0;have H1:=hid S1;have H2:=hid S2;have H3:=hid S3;clear S0 S1 S2 S3 x1 R0 R1 R2 R3 X0 Z0;go_upto_region 3 with (go_at_call 92;refine z_ (aH I1 _) ?_)
 go_cut [10] from 23 to 31 (fun q wx=>∃A sa sc,q = .pointer (some ⟨A,0,none⟩)/\w1.heap.size<=A/\Blk wx A 168 [(n:Nat),.slice none 0 0,(),t.log,.slice sa t.px.length sc]/\TuR w1.heap.size wx (.slice sa t.px.length sc) t.px/\Ext w1 wx)
 case first=>
  refine cZ 10 w1.heap.size (by kernel_rfl) ?_;refine z2_ (fuel:=4) [0,1,2,3,4,5] 6 9 (fun b _ hb=>rfl) (fun K hK=>?_) fun K hK=>?_
  ·go_wp2_with fail
   refine (xK w1.heap.size lo hi _ t.px _ (HU.ext hh (X1.trans (aRr (aQy _)))) (aQw hh (X1.trans (aRr (aQy _))).size) z5 x4 (Ext.size (aRr (aQy _)))).mono ?_;rintro e a0 ⟨v0,rfl,o0,y0⟩;have u0:Ext w1 a0:=aQu X_ y0;obtain ⟨g7,g8,rfl,_⟩:=o0.form;have T0:=o0.tur z5;clear o0;go_wp2_with fail;refine hK _ _ (.inr (fun b _ hb=>u0.block (by omega))) ?_;clear hK K;refine z1_ (fuel:=1) [7,8] 9 (fun b _ hb=>u0.block (by omega)) fun K hK=>?_;go_wp2;have z8:w1.heap.size<=a0.heap.size:=u0.size;refine hK _ _ (.inr (fun b _ hb=>(aQ1 (w:=a0) X_ (by omega)).trans (u0.block (by omega)))) ?_;clear hK K;have q7:Ext a0 (a0.alloc (.cells #[(),.slice none 0 0,(),(),.slice none 0 0] 168)):=X_;have h0:Blk (a0.alloc (.cells #[(),.slice none 0 0,(),(),.slice none 0 0] 168)) (a0.heap.size) 168 [(),.slice none 0 0,(),(),.slice none 0 0]:=aQx _ _ _
   obtain ⟨d8,x2⟩:∃d,a0.alloc (.cells #[(),.slice none 0 0,(),(),.slice none 0 0] 168)=d:=⟨_,rfl⟩
   rw [x2] at q7 h0 ⊢;have c7:Ext w1 d8:=u0.trans q7;have d5:=T0.ext q7;clear x2;refine z1_ (fuel:=0) [] 10 (fun b _ hb=>c7.block (by omega)) fun K hK=>?_;have z0:=h0.cell 0 rfl;have e8:=h0.free 0;have z1:=h0.cell 1 rfl;have e9:=h0.free 1;have z2:=h0.cell 2 rfl;have g0:=h0.free 2;have z3:=h0.cell 3 rfl;have g1:=h0.free 3;have z4:=h0.cell 4 rfl;have g2:=h0.free 4;have zl:=h0.lt;go_wp2;refine l_ hK ?_;clear hK K;refine bX (by kernel_rfl) ?_;go_wp2_with fail
   go_meet
   have h6:=z8;exact ⟨a0.heap.size,_,_,rfl,h6,(((((h0.set 0 _).set 1 _).set 2 _).set 3 _).set 4 _),(((((d5.set h0 (by decide) 0 _).set (h0.set 0 _) (by decide) 1 _).set ((h0.set 0 _).set 1 _) (by decide) 2 _).set (((h0.set 0 _).set 1 _).set 2 _) (by decide) 3 _).set ((((h0.set 0 _).set 1 _).set 2 _).set 3 _) (by decide) 4 _),(aQ6 (aQ6 (aQ6 (aQ6 (aQ6 c7 (p:=⟨a0.heap.size,0,none⟩) h6 _) (p:=⟨a0.heap.size,1,none⟩) h6 _) (p:=⟨a0.heap.size,2,none⟩) h6 _) (p:=⟨a0.heap.size,3,none⟩) h6 _) (p:=⟨a0.heap.size,4,none⟩) h6 _)⟩
  ·go_wp2
   have d9:w1.heap.size<=w1.heap.size:=aQo _;refine k_ hK ?_;clear hK K;have c9:Ext w1 ((w1.alloc (.cells #[(),.slice none 0 0,(),(),.slice none 0 0] 168)).drew):=X_;have bA:Blk ((w1.alloc (.cells #[(),.slice none 0 0,(),(),.slice none 0 0] 168)).drew) (w1.heap.size) 168 [(),.slice none 0 0,(),(),.slice none 0 0]:=(aQx _ _ _).ext (aRr (aQy _))
   obtain ⟨dA,c3⟩:∃d,(w1.alloc (.cells #[(),.slice none 0 0,(),(),.slice none 0 0] 168)).drew=d:=⟨_,rfl⟩
   rw [c3] at c9 bA ⊢;have uA:Ext w1 dA:=c9;clear c3;refine z1_ (fuel:=3) [] 6 (fun b _ hb=>uA.block (by omega)) fun K hK=>?_;go_wp2_with fail;refine (xK w1.heap.size lo hi _ t.px _ (HU.ext hh (X1.trans uA)) (aQw hh (X1.trans uA).size) z5 x4 (Ext.size uA)).mono ?_;rintro e aA0 ⟨g9,rfl,a8,c8⟩;have b5:Ext w1 aA0:=uA.trans c8;have h3:=bA.ext c8;obtain ⟨e6,e7,rfl,_⟩:=a8.form;have d6:=a8.tur z5;clear a8;go_wp2_with fail;refine hK _ _ (.inr (fun b _ hb=>b5.block (by omega))) ?_;clear hK K;refine z1_ (fuel:=0) [7,8] 10 (fun b _ hb=>b5.block (by omega)) fun K hK=>?_;have z0:=h3.cell 0 rfl;have e8:=h3.free 0;have z1:=h3.cell 1 rfl;have e9:=h3.free 1;have z2:=h3.cell 2 rfl;have g0:=h3.free 2;have z3:=h3.cell 3 rfl;have g1:=h3.free 3;have z4:=h3.cell 4 rfl;have g2:=h3.free 4;have zl:=h3.lt;go_wp2;refine l_ hK ?_;clear hK K;refine bX (by kernel_rfl) ?_;go_wp2_with fail
   go_meet
   have h6:=d9;exact ⟨w1.heap.size,_,_,rfl,h6,(((((h3.set 0 _).set 1 _).set 2 _).set 3 _).set 4 _),(((((d6.set h3 (by decide) 0 _).set (h3.set 0 _) (by decide) 1 _).set ((h3.set 0 _).set 1 _) (by decide) 2 _).set (((h3.set 0 _).set 1 _).set 2 _) (by decide) 3 _).set ((((h3.set 0 _).set 1 _).set 2 _).set 3 _) (by decide) 4 _),(aQ6 (aQ6 (aQ6 (aQ6 (aQ6 b5 (p:=⟨w1.heap.size,0,none⟩) h6 _) (p:=⟨w1.heap.size,1,none⟩) h6 _) (p:=⟨w1.heap.size,2,none⟩) h6 _) (p:=⟨w1.heap.size,3,none⟩) h6 _) (p:=⟨w1.heap.size,4,none⟩) h6 _)⟩
 case rest=>
  obtain ⟨A,sa,sc,rfl,hA,bA,tA,xa⟩:=hcut;obtain ⟨g,cs,bg,q9⟩:=tA.open
  have e0:g≠A:=fun e=>by
   subst e;unfold Blk at bg bA;rw [bg] at bA;simp only [aQr,aR0] at bA;exact absurd bA.2.1 (by decide)
  have la:=xa.size;have e1:=H1.ext xa;have n1:=e1.cell 0 rfl;have e5:=e1.lt;have K0:=hid (H0.ext xa);have K1:=hid e1;have K2:=hid (H2.ext xa);have K3:=hid (H3.ext xa);have KA:=hid bA;have KG:=hid bg;have KO:=hid q9;have XC:=hid (X1.trans xa);clear e1 bA tA bg q9 xa H0 H1 H2 H3 n0 l1 t0 t1 l2;go_wp2_with fail;refine (C2 _).mono ?_;rintro e _ ⟨rfl,rfl⟩;go_wp2_with fail
  obtain ⟨W0,x0⟩:∃W0,wc.alloc (.cells #[(n:Nat)] 3)=W0:=⟨_,rfl⟩
  have xx:Ext wc W0:=x0▸X_;have z0:W0.heap.size=wc.heap.size+1:=x0▸aQp _ _;have r9:Blk W0 wc.heap.size 3 [(n:Nat)]:=x0▸aQx wc 3 [(n:Nat)];rw [x0];clear x0;have g5:=KA.lt
  have z6:w.heap.size+4<=A:=by have:=Z1.out;omega
  have NE:=hid (aOh (f:=f) (n:=n) (t:=t) (a:=a) (cap:=cap) (w:=w.heap.size) (g:=g) (cs:=cs) (nb:=wc.heap.size) z6 e0 (by omega))
  have z7:RB Pt.cs 228 5 168 (fun v=>[(n:Nat),v,(),t.log,.slice sa t.px.length sc]) w A (grF f n t a cap w.heap.size g cs wc.heap.size) W0 (gV f n []):=by
   refine ⟨XC.trans xx,fun p hp=>?_,by omega,_,KA.ext xx,aF.nil _ _ _ _ _⟩;simp only [grF,aRb,aQ5,or_false] at hp
   rcases hp with rfl|rfl|rfl|rfl|rfl|rfl
   ·exact K0.ext xx
   ·exact K1.ext xx
   ·exact K2.ext xx
   ·exact K3.ext xx
   ·exact KG.ext xx
   ·exact r9
  have z7:=hid z7;have NB:=r9.cell 0 rfl;clear r9 xx K0 K1 K2 K3 KA KG XC C2 n1 e5 X1;refine (wpIn_wide (n:=3)).1 ?_
  refine' wpIn_rangeFunc_ownG rfl (by omega) (gf:=217) (lb:=#[.pointer (some ⟨wc.heap.size,0,none⟩)]) rfl trivial (enters_of func217 (by kernel_rfl) rfl)
   (nP n h4 (by omega) _ wc.heap.size W0 (by omega) NB) (fun h k=>KB.trans h k) ?hKb (Below.refl _ _) (fun _=>rfl)
   (fun h5 W=>RB Pt.cs 228 5 168 (fun v=>[(n:Nat),v,(),t.log,.slice sa t.px.length sc]) w A (grF f n t a cap w.heap.size g cs wc.heap.size) W (gV f n h5))
   (fun cd h5 W=>False) ?owns ?ownsx z7 _ ?assign ?body ?done ?stop
  case hKb=>exact fun W l o o' hl ho _ _=>World.putObj_heap_other (by omega)
  case assign=>
   intro l x W K hK
   gi_wp2
   exact hK
  case owns=>exact fun h5 A' B row h hg hr=>RB.owns (by omega) (gV f n) h5 A' B row h hg hr
  case ownsx=>exact fun cd h5 A B row h hg hr=>h
  case stop=>
   rintro D cd h5 W hD - h hK;exact h.elim
  case body=>
   intro l h5 x W hI e3;have HI:=hid hI
   obtain ⟨i,z9⟩:∃i:Nat,(x.1:Nat)=i:=⟨_,rfl⟩
   obtain ⟨j,y1⟩:∃i:Nat,(x.2:Nat)=i:=⟨_,rfl⟩
   have g3:i<n:=z9▸x.1.2;have g4:j<n:=y1▸x.2.2
   obtain ⟨X,Y,Z,hE⟩:∃X Y Z,evP f (i:Int) (j:Int) (n:Int)=⟨X,Y,Z⟩:=⟨_,_,_,rfl⟩
   have b7:=hid hE;have N1:=hid (show (1:Int)<=n/\(n:Int)<=64 by omega);have N2:=hid (show (0:Int)<=(i:Int)/\(i:Int)<=(n:Int) by omega);have N3:=hid (show (0:Int)<=(j:Int)/\(j:Int)<=(n:Int) by omega);obtain ⟨tv,q6,h8⟩:=hI.tb;obtain ⟨ta,tc,rfl,a9⟩:=aF.form h8;have T1:=hid q6;have T2:=hid h8;have m0:=hI.fx _ (.head _);have m1:=hI.fx _ (.tail _ (.head _));have M1:=hid m1;obtain ⟨y2,y3,y4,y5,y6,y7,y8,y9,a5,a6,x6,x7⟩:=m0.q12;have a7:=m1.cell 0 rfl;have c5:=m0.lt;have c6:=m1.lt
   try simp only [grF] at c5 c6
   rw [z9,y1];clear hE hI q6 h8 m0 m1;refine wpIn_block ?_;refine wpIn_seq_k fun K1 HK1=>?_;refine dX (by kernel_rfl) (fun ⟨_,_,h⟩=>h) ?_;go_wp2_with fail;refine r_ (gB b7 N1 N2 N3 _) fun w5 x5=>?_;have Y5:=hid x5;clear x5 y2 y3 y4 y5 y6 y7 y8 y9 a5 a6 x6 x7 a7 c5 c6;go_wp2_with fail;have xv:Ext w5 (w5.alloc (.cells #[X,Y,Z] 122)):=X_;have bV:=aQx w5 122 [X,Y,Z];have zV:(w5.alloc (.cells #[X,Y,Z] 122)).heap.size=w5.heap.size+1:=aQp _ _
   obtain ⟨WV,c2⟩:∃WV,w5.alloc (.cells #[X,Y,Z] 122)=WV:=⟨_,rfl⟩
   rw [c2] at xv bV zV ⊢;have ZV:=hid zV;clear c2 zV;have YV:=hid (Y5.trans xv);have U1:=hid (T1.ext YV);have U2:=hid (aF.ext T2 YV);have UN:=hid (M1.ext YV);have UV:=hid bV;have c1:=U1.cell 1 rfl;have al:=U1.lt;have n0:=UN.cell 0 rfl;have nl:=UN.lt;obtain ⟨v0,v1,v2⟩:=bV.q3;have vl:=bV.lt
   try simp only [grF] at nl n0
   have g6:(n:Int)≠0:=by omega
   clear bV xv;refine nU 20 (fun w'=>∃d,w'=fU (CGr w.heap.size A w5.heap.size) WV d) (by kernel_rfl) (by kernel_rfl) (fun ⟨_,_,h⟩=>h) ?_;refine fN (fuel:=3) [0,1,2,3,4,5,6,7,8,9,10,11,12,13,14,15,16] [17] (by kernel_rfl) (aTh _ _) ?_
   try simp only [aR9,aQv,aQ3,aQ2]
   simp only [aRd,aQ7,aQs,aQm,aQn]
   show wpQuiet _ _ _ _ [_,_,_,_,_,_,_,_,_,_,_,_,_,_,_,_,_] _
   repeat (go_big_quiet_step (fail))
   refine wpQuiet_nil ?_;intro e he;simp only [aRb,aQ5,or_false] at he;subst he
   (unfold gA;simp only [aQs,aQn,aQm,aQr];refine ⟨_,rfl,fun K hK=>?_⟩)
   go_wp2;have CL:=hid (show ∀q:Addr,CGr w.heap.size A w5.heap.size q->q.block<WV.heap.size from fun q hq=>by have hz:=ZV.out;rcases hq with h|h|h <;> omega);refine hK _ _ (.inr (aRx fun q hq=>aQ1 (w:=WV) X_ (CL q hq))) ?_;clear hK K
   obtain ⟨U,hU⟩:∃U,(i:Int)*256 / (n:Int)=U:=⟨_,rfl⟩
   obtain ⟨V,hV⟩:∃V,(j:Int)*256 / (n:Int)=V:=⟨_,rfl⟩
   rw [hU,hV]
   have c4:ptG f n i j=⟨U,V,X,Y,Z⟩:=by unfold ptG;rw [hU,hV,b7]
   have d3:=hid c4;clear c4 hU hV;have xP:Ext WV ((WV.alloc (.cells #[U,V,X,Y,Z] 228)).drew):=X_;have bP:Blk ((WV.alloc (.cells #[U,V,X,Y,Z] 228)).drew) WV.heap.size 228 [U,V,X,Y,Z]:=(aQx WV 228 [U,V,X,Y,Z]).ext (aRr (aQy _))
   obtain ⟨WP,c0⟩:∃WP,(WV.alloc (.cells #[U,V,X,Y,Z] 228)).drew=WP:=⟨_,rfl⟩
   rw [c0] at xP bP ⊢;clear c0;have XP:=hid xP;have BP:=hid bP
   have h7:(gV f n h5).length<1000000:=by
    have h1:(gV f n h5).length=h5.length:=by unfold gV;rw [aR7]
    have h2:n*n<=64:=aRq (by omega:n<=8) (by omega:n<=8);omega
   have e4:w.heap.size<=WP.heap.size:=by have:=XP.size;omega
   have d2:=hid h7;clear xP bP h7 v0 v1 v2 c1 n0;refine fN (fuel:=2) [] [18] (by kernel_rfl) (aRx fun q hq=>XP.block (CL q hq)) ?_;refine wpQuiet_nil ?_;intro e he;simp only [aRb,aQ5,or_false] at he;subst he
   (unfold gA;simp only [aQs,aQn,aQm,aQr];refine ⟨_,rfl,fun K hK=>?_⟩)
   refine lY _ rfl _ _ rfl w.heap.size (.slice ta (gV f n h5).length tc) (gV f n h5) rfl (aF.ext U2 XP) ⟨U,V,X,Y,Z⟩ WV.heap.size rfl (fun q hq=>by
    rcases (show q=0\/q=1\/q=2\/q=3\/q=4 by omega) with rfl|rfl|rfl|rfl|rfl
    ·exact BP.cell 0 rfl
    ·exact BP.cell 1 rfl
    ·exact BP.cell 2 rfl
    ·exact BP.cell 3 rfl
    ·exact BP.cell 4 rfl) d2 e4 ?_
   intro v8 w8 q4 hg;obtain ⟨va,vc,rfl,_⟩:=aF.form q4
   have b6:=hid (show ∀q:Addr,CGr w.heap.size A w5.heap.size q->w8.heap[q.block]?=WV.heap[q.block]? from fun q hq=>by
    have hl:=CL.out q hq
    have hr:some q.block≠(aR4 ta (gV f n h5).length tc).ownBlock:=by
     rcases hq with h|h|h
     ·rw [h];exact bT UN (by decide) U2
     ·rw [h];exact bT U1 (by decide) U2
     ·rw [h];exact bT UV (by decide) U2
    exact (hg.block _ (aSb hl XP.size) hr).trans (XP.block hl))
   have G1:=(U1.ext XP).grown hg (bT U1 (by decide) U2);have c1:=G1.cell 1 rfl;have f1:=G1.free 1;have gl:=G1.lt;have HO:=hid q4;have HG:=hid hg;clear q4 hg G1;go_wp2_with fail;refine hK _ _ (.inr (aRx b6)) ?_;clear hK K;refine fN (fuel:=0) [19] [20] (by kernel_rfl) (aRx b6) ?_
   try simp only [aR9,aQv,aQ3,aQ2]
   simp only [aRd,aQ7,aQs,aQm,aQn]
   show wpQuiet _ _ _ _ [_] _
   repeat (go_big_quiet_step (fail))
   refine wpQuiet_nil ?_;intro e he;simp only [aRb,aQ5,or_false] at he;subst he
   (unfold gA;simp only [aQs,aQn,aQm,aQr];refine ⟨_,rfl,fun K hK=>?_⟩)
   go_wp2;refine l_ hK ?_;clear hK K;refine vQ (by kernel_rfl) ?_;have T4:=HI.push NE (by decide) 1 rfl T1 T2 (YV.trans XP) HG HO;simp only [aRg,aR3,aSx,aRl] at T4;refine ⟨(((Ext.others (YV.trans XP)).trans (KeepsOthers.of_grownBy HG (aBq (YV.trans XP) T2))).trans (KeepsOthers.setCell _ _ _)).from _,(T4.fx _ (.tail _ (.tail _ (.tail _ (.tail _ (.tail _ (.head _))))))).trans (HI.fx _ (.tail _ (.tail _ (.tail _ (.tail _ (.tail _ (.head _))))))).symm,?_⟩
   show RB _ _ _ _ _ _ _ _ _ (gV f n (h5++[x]))
   rw [aI9,z9,y1,d3];exact T4
  case done=>
   rintro D ys W hD rfl hI hK;obtain ⟨tv,q6,h8⟩:=hI.tb;obtain ⟨ta,tc,rfl,a9⟩:=aF.form h8
   have h9:(gV f n (cC n h4 (n*n))).length=n*n:=by unfold gV;rw [aR7,nO]
   have b8:=hid (show ∀W2:World,aF Pt.cs w.heap.size 228 5 W2 (.slice ta (gV f n (cC n h4 (n*n))).length tc) (gV f n (cC n h4 (n*n)))->aB w1.heap.size W2 (.slice sa t.px.length sc) t.px->(mY f n t).R w.heap.size W2.heap.size W2 (.agg #[(n:Nat),.slice ta (gV f n (cC n h4 (n*n))).length tc,(),t.log,.slice sa t.px.length sc]) from fun W2 o1 o2=>by
    refine ⟨_,_,rfl,⟨by show -9223372036854775808<=(n:Int);omega,by show (n:Int)<=9223372036854775807;omega⟩,⟨by show (-9223372036854775808:Int)<=0;decide,by show (0:Int)<=9223372036854775807;decide⟩,d4,?_,?_⟩
    ·have h:=aF.flatsI (ls:=Pt.ls) (F:=aAn f n) o1 (by decide) (fun _=>rfl) (fun _=>rfl) (fun p hp y hy=>by
      obtain ⟨q,hq,rfl⟩:=aRn hp;have e:=aEe f n h4 (aQ0 hq);rw [h9] at hq;rw [e] at hy;have:=aGj f (n:=n) (i:=q % n) (j:=q / n) (by omega) (aTf _ h4) (aTb hq) y hy
      exact ⟨by omega,by omega⟩) (fun q p k hq hk=>by rw [aEe f n h4 hq];exact jL f n q k hk)
     rw [h9] at h ⊢;exact h
    ·exact o2.ints.wide (by have:=Z1.out;omega) (aQo _))
   have hR:=b8.out W h8 (KO W (hI.fx _ (.tail _ (.tail _ (.tail _ (.tail _ (.head _)))))));have d7:=hid h8;have KG:=hid (hI.fx _ (.tail _ (.tail _ (.tail _ (.tail _ (.head _))))));have HR:=hid hR;have k3:=hI.fx _ (.tail _ (.tail _ (.tail _ (.head _))));have K3:=hid k3;have KA:=hid q6;have d0:=hid hI.ext;have HD:=hid hK;obtain ⟨a0,a1,a2,a3,a4⟩:=q6.q5;have al:=q6.lt;clear hR hI q6 h8 k3 hK h9;go_wp2_with fail;refine (lL w.heap.size W.heap.size _ (mY f n t) _ HR (aQo _)).mono ?_;rw [xJ hn d1];rintro e w9 ⟨rfl,x9⟩;have A9:=KA.ext x9;have B9:=K3.ext x9;have X9:=hid x9;clear x9 a0 a1 a2 a3 a4 al;obtain ⟨a0,a1,a2,a3,a4⟩:=A9.q5;have al:=A9.lt;obtain ⟨b0,b1,b2,b3,b4⟩:=B9.q5;have f0:=B9.free 0;have f1:=B9.free 1;have f2:=B9.free 2;have f3:=B9.free 3;have f4:=B9.free 4;have bl:=B9.lt
   try simp only [grF] at b0 b1 b2 b3 b4 f0 f1 f2 f3 f4 bl
   have BB:Blk w9 (w.heap.size+1+1+1) 168 [(),.slice none 0 0,(),(),.slice none 0 0]:=B9
   have x3:g≠w.heap.size+1+1+1:=fun e=>by
    have h:Blk w9 g 3 cs:=KG.ext X9;rw [e] at h;unfold Blk at h BB;rw [h] at BB;simp only [aQr,aR0] at BB;exact absurd BB.2.1 (by decide)
   have q8:=hid BB;clear A9 B9 BB;go_wp2_with fail
   have oF:=(aF.setBlk (aF.setBlk (aF.setBlk (aF.setBlk (aF.setBlk (aF.ext d7 X9) q8 (by decide) 0 (.int .i64 (n:Nat))) (q8.set 0 (.int .i64 (n:Nat))) (by decide) 1 (.slice ta (gV f n (cC n h4 (n*n))).length tc)) ((q8.set 0 (.int .i64 (n:Nat))).set 1 (.slice ta (gV f n (cC n h4 (n*n))).length tc)) (by decide) 2 (.int .i64 0)) (((q8.set 0 (.int .i64 (n:Nat))).set 1 (.slice ta (gV f n (cC n h4 (n*n))).length tc)).set 2 (.int .i64 0)) (by decide) 3 (.int .i64 t.log)) ((((q8.set 0 (.int .i64 (n:Nat))).set 1 (.slice ta (gV f n (cC n h4 (n*n))).length tc)).set 2 (.int .i64 0)).set 3 (.int .i64 t.log)) (by decide) 4 (.slice sa t.px.length sc))
   have gF:=((((((KG.ext X9).other (a:=⟨w.heap.size+1+1+1,0,none⟩) x3 (.int .i64 (n:Nat))).other (a:=⟨w.heap.size+1+1+1,1,none⟩) x3 (.slice ta (gV f n (cC n h4 (n*n))).length tc)).other (a:=⟨w.heap.size+1+1+1,2,none⟩) x3 (.int .i64 0)).other (a:=⟨w.heap.size+1+1+1,3,none⟩) x3 (.int .i64 t.log)).other (a:=⟨w.heap.size+1+1+1,4,none⟩) x3 (.slice sa t.px.length sc))
   have eF:=(aQ6 (aQ6 (aQ6 (aQ6 (aQ6 (d0.trans X9) (p:=⟨w.heap.size+1+1+1,0,none⟩) (by simp only;omega) (.int .i64 (n:Nat))) (p:=⟨w.heap.size+1+1+1,1,none⟩) (by simp only;omega) (.slice ta (gV f n (cC n h4 (n*n))).length tc)) (p:=⟨w.heap.size+1+1+1,2,none⟩) (by simp only;omega) (.int .i64 0)) (p:=⟨w.heap.size+1+1+1,3,none⟩) (by simp only;omega) (.int .i64 t.log)) (p:=⟨w.heap.size+1+1+1,4,none⟩) (by simp only;omega) (.slice sa t.px.length sc))
   have bF:=(((((q8.set 0 (.int .i64 (n:Nat))).set 1 (.slice ta (gV f n (cC n h4 (n*n))).length tc)).set 2 (.int .i64 0)).set 3 (.int .i64 t.log)).set 4 (.slice sa t.px.length sc))
   have e2:=gJ HD
   have dF:((((((w9.setCell ⟨w.heap.size+1+1+1,0,none⟩ (.int .i64 (n:Nat))).setCell ⟨w.heap.size+1+1+1,1,none⟩ (.slice ta (gV f n (cC n h4 (n*n))).length tc)).setCell ⟨w.heap.size+1+1+1,2,none⟩ ()).setCell ⟨w.heap.size+1+1+1,3,none⟩ t.log).setCell ⟨w.heap.size+1+1+1,4,none⟩ (.slice sa t.px.length sc))).heap[D]?=some (.deferred (some [])):=by
    rw [aQz _ _ _ _ (by simp only;omega),aQz _ _ _ _ (by simp only;omega),aQz _ _ _ _ (by simp only;omega),aQz _ _ _ _ (by simp only;omega),aQz _ _ _ _ (by simp only;omega)];exact (X9.block e2).trans HD
   obtain ⟨WF,b9⟩:∃WF,(((((w9.setCell ⟨w.heap.size+1+1+1,0,none⟩ (.int .i64 (n:Nat))).setCell ⟨w.heap.size+1+1+1,1,none⟩ (.slice ta (gV f n (cC n h4 (n*n))).length tc)).setCell ⟨w.heap.size+1+1+1,2,none⟩ ()).setCell ⟨w.heap.size+1+1+1,3,none⟩ t.log).setCell ⟨w.heap.size+1+1+1,4,none⟩ (.slice sa t.px.length sc))=WF:=⟨_,rfl⟩
   rw [b9] at oF gF eF bF dF ⊢;clear b9
   have kk:∀r,some D=some r->∃o:Obj,WF.heap[r]?=some o/\o.isCells=false:=fun r e=>by cases e;exact ⟨_,dF,rfl⟩
   refine ⟨by simp,.inl ⟨_,_,rfl,run_takeDeferred dF,?_⟩⟩;refine ⟨_,aD9 rfl _ _ rfl (nQ (grownBy_putObj' WF D _) kk bF) _ underlying168 rfl aGk,_,rfl,?_,?_⟩
   ·exact b8 _ (aF.owns oF (grownBy_putObj' WF D _) kk) (KO _ (nQ (grownBy_putObj' WF D _) kk gF))
   ·exact eF.grown (grownBy_putObj' WF D _) (fun k e=>by cases e;omega)
end
def uO (c:Cam) (x y:Int):Bool:=c.okB&&inB x 0 (c.w*16 - 1)&&inB y 0 (c.h*16 - 1)
theorem aEg (c:Cam) (x y:Int) (h:uO c x y=false) (w:World) :
  R_ 101 #[.agg c,x,y] w (.tuple #[(),(),.bool false]):=by
 have q0:=aQx w 35 c;have R0:=hid q0;have X0:=hid (show Ext w (w.alloc (.cells c 35)) from X_);clear q0;unfold uO at h
 cases hb:c.okB
 ·have HB:=hid hb
  clear h hb;go_enter func101,ntmps101;go_wp2_with fail;refine r_ (aW HB.out _) fun w1 x1=>?_;have X1:=X0.out.trans x1;go_wp2;exact bodyPost_ret (v:=.tuple #[(),(),.bool false]) (by simp [results,results101,go_sem, *]) rfl ⟨rfl,X1⟩
 ·have HB:=hid hb
  have hk:=Cam.okB_iff.1 hb;have k1:=hk.w;have k2:=hk.h;have h0:wrap64 (c.w*16)=c.w*16:=aD (by omega) (by omega);have h2:wrap64 (c.w*16 - 1)=c.w*16 - 1:=aD (by omega) (by omega);have h3:wrap64 (c.h*16)=c.h*16:=aD (by omega) (by omega);have h4:wrap64 (c.h*16 - 1)=c.h*16 - 1:=aD (by omega) (by omega);rw [hb] at h;clear hb hk
  cases h1:inB x 0 (c.w*16 - 1)
  ·have I1:=hid h1
   clear h h1;go_enter func101,ntmps101;go_wp2_with fail;refine r_ (aW HB.out _) fun w1 x1=>?_;have X1:=X0.out.trans x1;have c0:=(R0.out.ext x1).cell 0 rfl;go_wp2_with (go_at_call 92;refine z_ (aH I1.out _) ?_);exact bodyPost_ret (v:=.tuple #[(),(),.bool false]) (by simp [results,results101,go_sem, *]) rfl ⟨rfl,X1⟩
  ·rw [h1] at h
   have I1:=hid h1;have I2:=hid (show inB y 0 (c.h*16 - 1)=false by simpa using h);clear h h1;go_enter func101,ntmps101;go_wp2_with fail;refine r_ (aW HB.out _) fun w1 x1=>?_;have X1:=X0.out.trans x1;have c0:=(R0.out.ext x1).cell 0 rfl;have c1:=(R0.out.ext x1).cell 1 rfl;go_wp2_with (go_at_call 92;with_reducible first|(refine z_ (aH I1.out _) ?_)|(refine z_ (aH I2.out _) ?_));exact bodyPost_ret (v:=.tuple #[(),(),.bool false]) (by simp [results,results101,go_sem, *]) rfl ⟨rfl,X1⟩
theorem aCc (c:Cam) (x y:Int) (h:uO c x y=true) (w:World) :
  R_ 101 #[.agg c,x,y] w (.tuple #[.int .i64 (x / 16),.int .i64 (y / 16),.bool true]):=by
 have q0:=aQx w 35 c;have R0:=hid q0;have X0:=hid (show Ext w (w.alloc (.cells c 35)) from X_);clear q0;unfold uO at h;simp only [aQ4] at h;obtain ⟨⟨hb,h1⟩,h2⟩:=h;have HB:=hid hb;have I1:=hid h1;have I2:=hid h2;have hk:=Cam.okB_iff.1 hb;have k1:=hk.w;have k2:=hk.h;rw [aG] at h1 h2;have h0:wrap64 (c.w*16)=c.w*16:=aD (by omega) (by omega);have h3:wrap64 (c.w*16 - 1)=c.w*16 - 1:=aD (by omega) (by omega);have h4:wrap64 (c.h*16)=c.h*16:=aD (by omega) (by omega);have h5:wrap64 (c.h*16 - 1)=c.h*16 - 1:=aD (by omega) (by omega);have t1:Int.tdiv x 16=x / 16:=aS7 (by omega);have t2:Int.tdiv y 16=y / 16:=aS7 (by omega);have h6:wrap64 (x / 16)=x / 16:=aD (by omega) (by omega);have h7:wrap64 (y / 16)=y / 16:=aD (by omega) (by omega);clear hb hk h1 h2;go_enter func101,ntmps101;go_wp2_with fail;refine r_ (aW HB.out _) fun w1 x1=>?_;have X1:=X0.out.trans x1;have c0:=(R0.out.ext x1).cell 0 rfl;have c1:=(R0.out.ext x1).cell 1 rfl;go_wp2_with (go_at_call 92;with_reducible first|(refine z_ (aH I1.out _) ?_)|(refine z_ (aH I2.out _) ?_));exact bodyPost_ret (v:=.tuple #[.int .i64 (x / 16),.int .i64 (y / 16),.bool true]) (by simp [results,results101,go_sem, *]) rfl ⟨rfl,X1⟩
theorem Smp.okB_eq (c:Cam) (p:Smp):p.okB c=(uO c p.x p.y&&inB p.t 0 15&&inB p.lx (-16) 16&&inB p.ly (-16) 16):=rfl
theorem jM (c:Cam) (p:Smp) (w:World) :
  R_ 57 #[.agg c,.agg #[p.x,p.y,p.t,p.lx,p.ly]] w (.bool (p.okB c)):=by
 have q0:=aQx w 35 c;have q1:=aQx (w.alloc (.cells c 35)) 42 [p.x,p.y,p.t,p.lx,p.ly];rw [aQp] at q1;have R1:=hid q1;have X0:=hid (show Ext w ((w.alloc (.cells c 35)).alloc (.cells #[p.x,p.y,p.t,p.lx,p.ly] 42)) from X_);clear q0 q1;rw [Smp.okB_eq]
 cases h0:uO c p.x p.y
 ·have H0:=hid h0
  clear h0;go_enter func57,ntmps57;go_wp2_with fail;refine r_ (aEg c p.x p.y H0.out _) fun w1 x1=>?_;have X1:=X0.out.trans x1;go_wp2;go_ret;exact ⟨rfl,X1⟩
 ·have H0:=hid h0
  clear h0
  obtain ⟨b1,h1⟩:∃b,inB p.t 0 15=b:=⟨_,rfl⟩
  obtain ⟨b2,h2⟩:∃b,inB p.lx (-16) 16=b:=⟨_,rfl⟩
  obtain ⟨b3,h3⟩:∃b,inB p.ly (-16) 16=b:=⟨_,rfl⟩
  have I1:=hid h1;have I2:=hid h2;have I3:=hid h3;rw [h1,h2,h3];clear h1 h2 h3
  cases b1
  rotate_left
  cases b2
  rotate_left
  all_goals
   go_enter func57,ntmps57;go_wp2_with fail;refine r_ (aCc c p.x p.y H0.out _) fun w1 x1=>?_;have X1:=X0.out.trans x1;have c2:=(R1.out.ext x1).cell 2 rfl;have c3:=(R1.out.ext x1).cell 3 rfl;have c4:=(R1.out.ext x1).cell 4 rfl;go_wp2_with (go_at_call 92;with_reducible first|(refine z_ (aH I1.out _) ?_)|(refine z_ (aH I2.out _) ?_)|(refine z_ (aH I3.out _) ?_));go_ret;exact ⟨rfl,X1⟩
theorem kE (s:Scn) (lo hi:Nat) (v:Value) (w:World) (hv:s.R lo hi w v) (hh:hi<=w.heap.size) (hsm:s.small) :
  R_ 49 #[v] w (.bool s.okB):=by
 obtain ⟨a1,c1,a2,c2,a3,c3,rfl,-,h8,-,h1,h2,h3⟩:=hv.form;have q0:=aQx w 40 (sL_ s a1 c1 a2 c2 a3 c3);have R0:=hid q0;have X0:=hid (show Ext w (w.alloc (.cells (sA_ s a1 c1 a2 c2 a3 c3) 40)) from X_);have HT:=hid (show ∀W:World,Ext w W->cN lo hi W (.agg #[s.t.log,.slice a1 s.t.px.length c1]) s.t from fun W x=>⟨_,rfl,h8,(h1.shut).ext hh x⟩);have H1:=hid h1;have H2:=hid h2;have H3:=hid h3;have x9:=h2.le;have x0:=h2.cap;have z0:=h3.le;have x3:=h3.cap;have HS:=hid hsm;clear q0 hv h8 h1 h2 h3 hsm;unfold Scn.okB
 obtain ⟨b1,h9⟩:∃b,s.c.okB=b:=⟨_,rfl⟩
 obtain ⟨b2,q1⟩:∃b,s.t.okB=b:=⟨_,rfl⟩
 obtain ⟨b3,q4⟩:∃b,inB (s.ps.length:Int) 1 3=b:=⟨_,rfl⟩
 obtain ⟨b5,q5⟩:∃b,pV s.side=b:=⟨_,rfl⟩
 have C1:=hid h9;have C2:=hid q1;have C3:=hid q4;have C5:=hid (show ∀W:World,R_ 93 #[s.side] W (.bool b5) from fun W=>q5▸aEc s.side W);rw [h9,q1,q4,q5];clear h9 q1 q4 q5
 cases b1
 case false=>
  go_enter func49,ntmps49;go_wp2_with fail;refine r_ (aW C1 _) fun w1 x1=>?_;have X1:=hid (X0.trans x1);have R1:=hid (R0.ext x1);clear x1;go_wp2;go_ret;exact ⟨by simp [*],X1⟩
 cases b2
 case true.false=>
  go_enter func49,ntmps49;go_wp2_with fail;refine r_ (aW C1 _) fun w1 x1=>?_;have X1:=hid (X0.trans x1);have R1:=hid (R0.ext x1);clear x1;have c7:=R1.cell 7 rfl;have c8:=R1.cell 8 rfl;have l1:=R1.lt;go_wp2_with fail;refine r_ (cJ C2 lo hi _ _ (HT _ X1) (aQw hh X1.size)) fun w2 x2=>?_;have X2:=hid (X1.trans x2);have R2:=hid (R1.ext x2);clear x2 c7 c8 l1;go_wp2;go_ret;exact ⟨by simp [*],X2⟩
 cases b3
 case true.true.false=>
  go_enter func49,ntmps49;go_wp2_with fail;refine r_ (aW C1 _) fun w1 x1=>?_;have X1:=hid (X0.trans x1);have R1:=hid (R0.ext x1);clear x1;have c7:=R1.cell 7 rfl;have c8:=R1.cell 8 rfl;have l1:=R1.lt;go_wp2_with fail;refine r_ (cJ C2 lo hi _ _ (HT _ X1) (aQw hh X1.size)) fun w2 x2=>?_;have X2:=hid (X1.trans x2);have R2:=hid (R1.ext x2);clear x2 c7 c8 l1;have c9:=R2.cell 9 rfl;have h6:=R2.cell 10 rfl;have h7:=R2.cell 11 rfl;have l2:=R2.lt;go_wp2_with (go_at_call 92;refine z_ (aH C3 _) ?_);go_ret;exact ⟨by simp [*],X2⟩
 rcases aRy 5 s.m with hm|hm
 ·have g0:decide (s.m<=5)=false:=by simp;omega
  go_enter func49,ntmps49;go_wp2_with fail;refine r_ (aW C1 _) fun w1 x1=>?_;have X1:=hid (X0.trans x1);have R1:=hid (R0.ext x1);clear x1;have c7:=R1.cell 7 rfl;have c8:=R1.cell 8 rfl;have l1:=R1.lt;go_wp2_with fail;refine r_ (cJ C2 lo hi _ _ (HT _ X1) (aQw hh X1.size)) fun w2 x2=>?_;have X2:=hid (X1.trans x2);have R2:=hid (R1.ext x2);clear x2 c7 c8 l1;have c9:=R2.cell 9 rfl;have h6:=R2.cell 10 rfl;have h7:=R2.cell 11 rfl;have l2:=R2.lt;go_wp2_with (go_at_call 92;refine z_ (aH C3 _) ?_);go_ret;exact ⟨by simp [*],X2⟩
 have g0:decide (s.m<=5)=true:=by simp;omega
 cases b5
 case true.true.true.inr.false=>
  go_enter func49,ntmps49;go_wp2_with fail;refine r_ (aW C1 _) fun w1 x1=>?_;have X1:=hid (X0.trans x1);have R1:=hid (R0.ext x1);clear x1;have c7:=R1.cell 7 rfl;have c8:=R1.cell 8 rfl;have l1:=R1.lt;go_wp2_with fail;refine r_ (cJ C2 lo hi _ _ (HT _ X1) (aQw hh X1.size)) fun w2 x2=>?_;have X2:=hid (X1.trans x2);have R2:=hid (R1.ext x2);clear x2 c7 c8 l1;have c9:=R2.cell 9 rfl;have h6:=R2.cell 10 rfl;have h7:=R2.cell 11 rfl;have l2:=R2.lt;go_wp2_with (go_at_call 92;refine z_ (aH C3 _) ?_);refine r_ (C5 _) fun w4 x4=>?_;have X4:=hid (X2.trans x4);have R4:=hid (R2.ext x4);clear x4 c9 h6 h7 l2;go_wp2;go_ret;exact ⟨by simp [*],X4⟩
 go_enter func49,ntmps49;go_wp2_with fail;refine r_ (aW C1 _) fun w1 x1=>?_;have X1:=hid (X0.trans x1);have R1:=hid (R0.ext x1);clear x1;have c7:=R1.cell 7 rfl;have c8:=R1.cell 8 rfl;have l1:=R1.lt;go_wp2_with fail;refine r_ (cJ C2 lo hi _ _ (HT _ X1) (aQw hh X1.size)) fun w2 x2=>?_;have X2:=hid (X1.trans x2);have R2:=hid (R1.ext x2);clear x2 c7 c8 l1;have c9:=R2.cell 9 rfl;have h6:=R2.cell 10 rfl;have h7:=R2.cell 11 rfl;have l2:=R2.lt;go_wp2_with (go_at_call 92;refine z_ (aH C3 _) ?_);refine r_ (C5 _) fun w4 x4=>?_;have X4:=hid (X2.trans x4);have R4:=hid (R2.ext x4);clear x4 c9 h6 h7 l2;have h6:=R4.cell 9 rfl;have l4:=R4.lt;go_wp2_with fail;clear h6 l4
 go_loopw [39] (fun i wr=>∃k:Nat,k<=s.ps.length/\i = .int .i64 (k:Nat)/\Ext w wr/\Blk wr w.heap.size 40 (sL_ s a1 c1 a2 c2 a3 c3)/\∀q (hq:q<k) (hq2:q<s.ps.length),s.ps[q].chkB=true) (fun i _=>s.ps.length - (intOf i).toNat)
 case atStart=>exact ⟨0,by omega,rfl,X4,R4,fun q hq=>absurd hq (by omega)⟩
 case round=>
  obtain ⟨k,hk,rfl,hx,hb,hc⟩:=hrel;have HX:=hid hx;have HB:=hid hb;have HC:=hid hc
  rcases aRy k s.ps.length with hlt|hge
  ·obtain ⟨b,q2,e1,d1,e2,d2,rfl,x8,x7,k1,k2,hR⟩:=H2.at hlt hx hh
   have HR:=hid hR;have hz:=hx.size;have HL:=hid hlt;clear hx hb hc hR X1 X2 X4 R1 R2 R4;go_wp2_with fail
   cases h4:(s.ps[k]'hlt).chkB
   ·refine (tE h4 lo hi _ _ (HR.ext (by omega) (show Ext wr (wr.alloc (.cells #[.slice e1 (s.ps[k]'hlt).ns.length d1,.slice e2 (s.ps[k]'hlt).gs.length d2] 119)) from X_)) (by simp;omega) (HS _ (aQ8 hlt)).1 (HS _ (aQ8 hlt)).2.2).mono ?_
    rintro e w5 ⟨rfl,x5⟩;have y5:Ext wr w5:=aQu (show Ext wr (wr.alloc (.cells #[.slice e1 (s.ps[k]'hlt).ns.length d1,.slice e2 (s.ps[k]'hlt).gs.length d2] 119)) from X_) x5;have h0:s.ps.all Prg.chkB=false:=aTw.2 ⟨_,aQ8 hlt,by simp [h4]⟩;have X5:=HX.trans y5;clear h4;go_wp2;go_ret;exact ⟨by rw [h0];simp,X5⟩
   ·refine (tE h4 lo hi _ _ (HR.ext (by omega) (show Ext wr (wr.alloc (.cells #[.slice e1 (s.ps[k]'hlt).ns.length d1,.slice e2 (s.ps[k]'hlt).gs.length d2] 119)) from X_)) (by simp;omega) (HS _ (aQ8 hlt)).1 (HS _ (aQ8 hlt)).2.2).mono ?_
    rintro e w5 ⟨rfl,x5⟩;have y5:Ext wr w5:=aQu (show Ext wr (wr.alloc (.cells #[.slice e1 (s.ps[k]'hlt).ns.length d1,.slice e2 (s.ps[k]'hlt).gs.length d2] 119)) from X_) x5;have X5:=hid (HX.trans y5);have R5:=hid (HB.ext y5);have q3:=hid h4;clear h4;go_wp2;go_roundw
    case rel=>
     refine ⟨k+1,by omega,by go_num,X5,R5,fun q hq hq2=>?_⟩
     rcases aRy q k with h|h
     ·exact HC q h hq2
     ·obtain rfl:q=k:=by omega
      exact q3
    case measure=>simp [intOf];omega
  ·obtain rfl:k=s.ps.length:=by omega
   have h0:s.ps.all Prg.chkB=true:=aRw.2 (fun x hx=>by obtain ⟨q,hq,rfl⟩:=aRn hx;exact hc q hq hq);have HA:=hid h0;have h7:=hb.cell 10 rfl;have lb:=hb.lt;clear hx hb hc h0 X1 X2 X4 R1 R2 R4;go_wp2_with fail;clear h7 lb
   go_loopw [50] (fun i wr=>∃k:Nat,k<=s.m/\i = .int .i64 (k:Nat)/\Ext w wr/\Blk wr w.heap.size 40 (sL_ s a1 c1 a2 c2 a3 c3)/\∀q,q<k->s.srfB q=true) (fun i _=>s.m - (intOf i).toNat)
   case atStart=>exact ⟨0,by omega,rfl,HX,HB,fun q hq=>absurd hq (by omega)⟩
   case round=>
    obtain ⟨j,hj,rfl,hx,hb,hc⟩:=hrel;have HX:=hid hx;have HB:=hid hb;have HC:=hid hc
    rcases aRy j s.m with hlt|hge
    ·obtain ⟨b,q2,rfl,h9,q1,h5⟩:=H3.at hlt (by decide)
     have bw:b<w.heap.size:=by omega
     have q6:wr.rangeAt b (q2+j*26) ((aRc 26).map fun q=>.int .i64 (s.F (j*26+q))):=by
      intro q v hq;obtain ⟨h1,h2⟩:=aQq.1 hq;simp only [aR7,aUf] at h1;simp only [aU6,aT6] at h2;subst h2;exact (hx.cells.1 b _ bw).trans (h5 q h1)
     change wr.rangeAt b (q2+j*26) [(s.st j 0),(s.st j 1),(s.st j 2),(s.st j 3),(s.st j 4),(s.st j 5),(s.st j 6),(s.st j 7),(s.st j 8),(s.st j 9),(s.st j 10),(s.st j 11),(s.en j 0),(s.en j 1),(s.en j 2),(s.en j 3),(s.en j 4),(s.en j 5),(s.en j 6),(s.en j 7),(s.en j 8),(s.en j 9),(s.en j 10),(s.en j 11),(s.sh j),(s.rt j)] at q6;have q9:=hid q6
     have q7:World.rangeAt (wr.alloc (.cells #[(s.st j 0),(s.st j 1),(s.st j 2),(s.st j 3),(s.st j 4),(s.st j 5),(s.st j 6),(s.st j 7),(s.st j 8),(s.st j 9),(s.st j 10),(s.st j 11),(s.en j 0),(s.en j 1),(s.en j 2),(s.en j 3),(s.en j 4),(s.en j 5),(s.en j 6),(s.en j 7),(s.en j 8),(s.en j 9),(s.en j 10),(s.en j 11),(s.sh j),(s.rt j)] 127)) wr.heap.size 0 [(s.st j 0),(s.st j 1),(s.st j 2),(s.st j 3),(s.st j 4),(s.st j 5),(s.st j 6),(s.st j 7),(s.st j 8),(s.st j 9),(s.st j 10),(s.st j 11),(s.en j 0),(s.en j 1),(s.en j 2),(s.en j 3),(s.en j 4),(s.en j 5),(s.en j 6),(s.en j 7),(s.en j 8),(s.en j 9),(s.en j 10),(s.en j 11),(s.sh j),(s.rt j)]:=fun q v hq=>by rw [aRl];exact (aQx wr 127 [(s.st j 0),(s.st j 1),(s.st j 2),(s.st j 3),(s.st j 4),(s.st j 5),(s.st j 6),(s.st j 7),(s.st j 8),(s.st j 9),(s.st j 10),(s.st j 11),(s.en j 0),(s.en j 1),(s.en j 2),(s.en j 3),(s.en j 4),(s.en j 5),(s.en j 6),(s.en j 7),(s.en j 8),(s.en j 9),(s.en j 10),(s.en j 11),(s.sh j),(s.rt j)]).cell q hq
     have q8:=hid q7;clear q6 q7;have b9:=hb.cell 9 rfl;have bl:=hb.lt;have x6:b<wr.heap.size:=aSb bw hx.size;clear hx hb hc h5;go_upto_region 12 with (first|(show wpList _ _ _ [_,_,_] _ _;refine wpList_load_mid rfl _ _ rfl b (q2+j*26) rfl [(s.st j 0),(s.st j 1),(s.st j 2),(s.st j 3),(s.st j 4),(s.st j 5),(s.st j 6),(s.st j 7),(s.st j 8),(s.st j 9),(s.st j 10),(s.st j 11),(s.en j 0),(s.en j 1),(s.en j 2),(s.en j 3),(s.en j 4),(s.en j 5),(s.en j 6),(s.en j 7),(s.en j 8),(s.en j 9),(s.en j 10),(s.en j 11),(s.sh j),(s.rt j)] _ q9 underlying127 rfl fQ ?_)|(show wpList _ _ _ [_] _ _;refine dI _ _ _ rfl 127 (.tmp 6) (.tmp 53) rfl rfl #[(s.st j 0),(s.st j 1),(s.st j 2),(s.st j 3),(s.st j 4),(s.st j 5),(s.st j 6),(s.st j 7),(s.st j 8),(s.st j 9),(s.st j 10),(s.st j 11),(s.en j 0),(s.en j 1),(s.en j 2),(s.en j 3),(s.en j 4),(s.en j 5),(s.en j 6),(s.en j 7),(s.en j 8),(s.en j 9),(s.en j 10),(s.en j 11),(s.sh j),(s.rt j)] wr.heap.size rfl rfl rfl (by kernel_rfl) (by kernel_rfl) (by kernel_rfl) ?_));go_wp2_with (show wpList _ _ _ [_,_,_,_,_,_] _ _;refine wpList_load_mid rfl _ _ rfl wr.heap.size 0 rfl [(s.st j 0),(s.st j 1),(s.st j 2),(s.st j 3),(s.st j 4),(s.st j 5),(s.st j 6),(s.st j 7),(s.st j 8),(s.st j 9),(s.st j 10),(s.st j 11),(s.en j 0),(s.en j 1),(s.en j 2),(s.en j 3),(s.en j 4),(s.en j 5),(s.en j 6),(s.en j 7),(s.en j 8),(s.en j 9),(s.en j 10),(s.en j 11),(s.sh j),(s.rt j)] _ q8 underlying127 rfl fQ ?_);refine r_ (pH (s.st j) (s.en j) (s.sh j) (s.rt j) s.ps.length _) fun w5 x5=>?_;have y5:Ext wr w5:=aQu (show Ext wr (wr.alloc (.cells #[(s.st j 0),(s.st j 1),(s.st j 2),(s.st j 3),(s.st j 4),(s.st j 5),(s.st j 6),(s.st j 7),(s.st j 8),(s.st j 9),(s.st j 10),(s.st j 11),(s.en j 0),(s.en j 1),(s.en j 2),(s.en j 3),(s.en j 4),(s.en j 5),(s.en j 6),(s.en j 7),(s.en j 8),(s.en j 9),(s.en j 10),(s.en j 11),(s.sh j),(s.rt j)] 127)) from X_) x5;have X5:=hid (HX.trans y5);have R5:=hid (HB.ext y5)
     cases h4:aMy (s.st j) (s.en j) (s.sh j) (s.rt j) s.ps.length
     ·have h0:(aRc s.m).all s.srfB=false:=aTw.2 ⟨j,aRu.2 hlt,by unfold Scn.srfB;simp [h4]⟩
      clear h4;go_wp2;go_ret;exact ⟨by rw [h0];simp,X5⟩
     ·have q3:=hid h4
      clear h4;go_wp2;go_roundw
      case rel=>
       refine ⟨j+1,by omega,by go_num,X5,R5,fun q hq=>?_⟩
       rcases aRy q j with h|h
       ·exact HC q h
       ·obtain rfl:q=j:=by omega
        exact q3
      case measure=>simp [intOf];omega
    ·obtain rfl:j=s.m:=by omega
     have h0:(aRc s.m).all s.srfB=true:=aRw.2 (fun q hq=>HC q (aRu.1 hq));go_wp2;go_ret;exact ⟨by rw [h0,HA,g0];rfl,HX⟩
section
open Go.RowKit Go.Maps Go.WideMaps
theorem iI {p:Prg} {op num:Int} {s:ByteArray} {us:List Int} {o n:Int} {t:ByteArray} (h:bJ p ⟨op,s,num,us⟩=⟨o,t,n⟩):(bJ p ⟨op,s,num,us⟩).val = .agg #[o,.string t,n]:=by rw [h];rfl
theorem aGl (p:Prg) (hK:p.K) (j:Nat) (op num:Int) (s:ByteArray) (ra:List Int) (hx:p.ns[j]?=some ⟨op,s,num,ra⟩) (sa:Option Addr) (sn sc b:Nat) (w:World) (hM:FM w b p.gs p.gs.length) (hs:s.size<=maxLen) (hgl:p.gs.length<=1048576) :
  Calls aQt 163 #[.agg #[op,.string s,num,.slice sa sn sc],.map (some b)] w fun e w'=>e = .returned (bJ p ⟨op,s,num,ra⟩).val/\Ext w w':=by
 have HM:=hid hM;have nF:=jI (hK.v.nd j _ hx).1;simp only at nF;have HX:=hid hx;clear hM hx
 by_cases o1:op=1
 ·subst o1
  clear nF;have hi:bJ p ⟨1,s,num,ra⟩=⟨1,⟨#[]⟩,num⟩:=rfl;rw [iI hi];clear hi;have NB:=hid (aQx w 197 [.int .i64 (1),.string s,num,.slice sa sn sc]);go_enter func163,ntmps163;go_wp2_with fail;refine r_ (fP (1) s num _ _) fun w1 x1=>?_;have N1:=NB.ext (show Ext _ ((w.alloc (.cells #[.int .i64 (1),.string s,num,.slice sa sn sc] 197)).alloc (.cells #[(),.string ⟨#[]⟩,()] 221)) from X_);have R1:=aQx (w.alloc (.cells #[.int .i64 (1),.string s,num,.slice sa sn sc] 197)) 221 [(),.string ⟨#[]⟩,()];rw [aQp] at R1;have X1:Ext w w1:=aQu X_ x1;have N2:=N1.ext x1;have R2:=R1.ext x1;have M2:=hid (HM.ext X1);obtain ⟨n0,n1,n2⟩:=N2.q3;obtain ⟨r0,r1,r2⟩:=R2.q3;have f0:=R2.free 0;have f1:=R2.free 1;have f2:=R2.free 2;have zn:=N2.lt;have zr:=R2.lt;clear N1 R1 N2 R2 x1;unfold gC;rw [if_neg (by decide),if_neg (by decide)];go_wp2;refine bodyPost_ret (v:=.agg #[.int .i64 (1),.string ⟨#[]⟩,.int .i64 (num)]) (by simp [results,results163,go_sem, *]) rfl ?_;exact ⟨rfl,S_⟩
 by_cases o3:op=3
 ·subst o3
  clear nF;have hi:bJ p ⟨3,s,num,ra⟩=⟨5,⟨#[]⟩,3⟩:=rfl;rw [iI hi];clear hi;have NB:=hid (aQx w 197 [.int .i64 (3),.string s,num,.slice sa sn sc]);go_enter func163,ntmps163;go_wp2_with fail;refine r_ (fP (3) s num _ _) fun w1 x1=>?_;have N1:=NB.ext (show Ext _ ((w.alloc (.cells #[.int .i64 (3),.string s,num,.slice sa sn sc] 197)).alloc (.cells #[(),.string ⟨#[]⟩,()] 221)) from X_);have R1:=aQx (w.alloc (.cells #[.int .i64 (3),.string s,num,.slice sa sn sc] 197)) 221 [(),.string ⟨#[]⟩,()];rw [aQp] at R1;have X1:Ext w w1:=aQu X_ x1;have N2:=N1.ext x1;have R2:=R1.ext x1;have M2:=hid (HM.ext X1);obtain ⟨n0,n1,n2⟩:=N2.q3;obtain ⟨r0,r1,r2⟩:=R2.q3;have f0:=R2.free 0;have f1:=R2.free 1;have f2:=R2.free 2;have zn:=N2.lt;have zr:=R2.lt;clear N1 R1 N2 R2 x1;unfold gC;rw [if_neg (by decide),if_neg (by decide)];go_wp2;refine bodyPost_ret (v:=.agg #[.int .i64 (5),.string ⟨#[]⟩,.int .i64 (3)]) (by simp [results,results163,go_sem, *]) rfl ?_;exact ⟨rfl,S_⟩
 by_cases o2:op=2
 ·subst o2
  have h0:=aNl (.agg #[.int .i64 2,.string s,num,.slice sa sn sc]);clear nF
  cases hv:cT s
  ·obtain ⟨i,h2,h4⟩:=hK.name j _ HX rfl hv
   simp only at h2;have HI:=hid h2;have h5:=(eX h2).1
   have h3:pG p s=i:=by unfold pG;rw [h2];rfl
   have HV:=hid hv;clear h2
   have hi:bJ p ⟨2,s,num,ra⟩=⟨3,⟨#[]⟩,(i:Nat)⟩:=by unfold bJ;simp [hv,h3]
   rw [iI hi];clear hi;clear hv h3;have NB:=hid (aQx w 197 [.int .i64 (2),.string s,num,.slice sa sn sc]);go_enter func163,ntmps163;go_wp2_with fail;refine r_ (fP (2) s num _ _) fun w1 x1=>?_;have N1:=NB.ext (show Ext _ ((w.alloc (.cells #[.int .i64 (2),.string s,num,.slice sa sn sc] 197)).alloc (.cells #[(),.string ⟨#[]⟩,()] 221)) from X_);have R1:=aQx (w.alloc (.cells #[.int .i64 (2),.string s,num,.slice sa sn sc] 197)) 221 [(),.string ⟨#[]⟩,()];rw [aQp] at R1;have X1:Ext w w1:=aQu X_ x1;have N2:=N1.ext x1;have R2:=R1.ext x1;have M2:=hid (HM.ext X1);obtain ⟨n0,n1,n2⟩:=N2.q3;obtain ⟨r0,r1,r2⟩:=R2.q3;have f0:=R2.free 0;have f1:=R2.free 1;have f2:=R2.free 2;have zn:=N2.lt;have zr:=R2.lt;clear N1 R1 N2 R2 x1;unfold gC;rw [if_pos rfl];go_wp2_with (first|(at_lookup;refine aBw _ rfl _ _ rfl _ _ _ rfl (M2.ext X_) _ hs rfl _ HI ?_)|(go_at_call 201;refine z_ (cX HV _) ?_));refine bodyPost_ret (v:=.agg #[.int .i64 (3),.string ⟨#[]⟩,.int .i64 ((i:Nat))]) (by simp [results,results163,go_sem, *]) rfl ?_;exact ⟨rfl,S_⟩
  ·have HV:=hid hv
   have hi:bJ p ⟨2,s,num,ra⟩=⟨2,s,0⟩:=by unfold bJ;simp [hv]
   rw [iI hi];clear hi;clear hv;have NB:=hid (aQx w 197 [.int .i64 (2),.string s,num,.slice sa sn sc]);go_enter func163,ntmps163;go_wp2_with fail;refine r_ (fP (2) s num _ _) fun w1 x1=>?_;have N1:=NB.ext (show Ext _ ((w.alloc (.cells #[.int .i64 (2),.string s,num,.slice sa sn sc] 197)).alloc (.cells #[(),.string ⟨#[]⟩,()] 221)) from X_);have R1:=aQx (w.alloc (.cells #[.int .i64 (2),.string s,num,.slice sa sn sc] 197)) 221 [(),.string ⟨#[]⟩,()];rw [aQp] at R1;have X1:Ext w w1:=aQu X_ x1;have N2:=N1.ext x1;have R2:=R1.ext x1;have M2:=hid (HM.ext X1);obtain ⟨n0,n1,n2⟩:=N2.q3;obtain ⟨r0,r1,r2⟩:=R2.q3;have f0:=R2.free 0;have f1:=R2.free 1;have f2:=R2.free 2;have zn:=N2.lt;have zr:=R2.lt;clear N1 R1 N2 R2 x1;unfold gC;rw [if_pos rfl];go_wp2_with (go_at_call 201;refine z_ (cX HV _) ?_);refine bodyPost_ret (v:=.agg #[.int .i64 (2),.string s,.int .i64 (0)]) (by simp [results,results163,go_sem, *]) rfl ?_;exact ⟨rfl,S_⟩
 by_cases o8:op=8
 ·subst o8
  have h0:=aNm (.agg #[.int .i64 8,.string s,num,.slice sa sn sc]);have h1:=aKg (.agg #[.int .i64 8,.string s,num,.slice sa sn sc]);clear nF;have hi:bJ p ⟨8,s,num,ra⟩=⟨7,s,0⟩:=rfl;rw [iI hi];clear hi;have NB:=hid (aQx w 197 [.int .i64 (8),.string s,num,.slice sa sn sc]);go_enter func163,ntmps163;go_wp2_with fail;refine r_ (fP (8) s num _ _) fun w1 x1=>?_;have N1:=NB.ext (show Ext _ ((w.alloc (.cells #[.int .i64 (8),.string s,num,.slice sa sn sc] 197)).alloc (.cells #[(),.string ⟨#[]⟩,()] 221)) from X_);have R1:=aQx (w.alloc (.cells #[.int .i64 (8),.string s,num,.slice sa sn sc] 197)) 221 [(),.string ⟨#[]⟩,()];rw [aQp] at R1;have X1:Ext w w1:=aQu X_ x1;have N2:=N1.ext x1;have R2:=R1.ext x1;have M2:=hid (HM.ext X1);obtain ⟨n0,n1,n2⟩:=N2.q3;obtain ⟨r0,r1,r2⟩:=R2.q3;have f0:=R2.free 0;have f1:=R2.free 1;have f2:=R2.free 2;have zn:=N2.lt;have zr:=R2.lt;clear N1 R1 N2 R2 x1;unfold gC;rw [if_neg (by decide),if_pos rfl];go_wp2;refine bodyPost_ret (v:=.agg #[.int .i64 (7),.string s,.int .i64 (0)]) (by simp [results,results163,go_sem, *]) rfl ?_;exact ⟨rfl,S_⟩
 have h0:=aNn (.agg #[op,.string s,num,.slice sa sn sc]);have h1:=aKh (.agg #[op,.string s,num,.slice sa sn sc]);have b1:(op==1)=false:=beq_eq_false_iff_ne.2 o1;have b3:(op==3)=false:=beq_eq_false_iff_ne.2 o3
 have hi:bJ p ⟨op,s,num,ra⟩=⟨6,⟨#[]⟩,op⟩:=by unfold bJ;simp [o1,o2,o3,o8]
 rw [iI hi];clear hi;have NB:=hid (aQx w 197 [.int .i64 (op),.string s,num,.slice sa sn sc]);go_enter func163,ntmps163;go_wp2_with fail;refine r_ (fP (op) s num _ _) fun w1 x1=>?_;have N1:=NB.ext (show Ext _ ((w.alloc (.cells #[.int .i64 (op),.string s,num,.slice sa sn sc] 197)).alloc (.cells #[(),.string ⟨#[]⟩,()] 221)) from X_);have R1:=aQx (w.alloc (.cells #[.int .i64 (op),.string s,num,.slice sa sn sc] 197)) 221 [(),.string ⟨#[]⟩,()];rw [aQp] at R1;have X1:Ext w w1:=aQu X_ x1;have N2:=N1.ext x1;have R2:=R1.ext x1;have M2:=hid (HM.ext X1);obtain ⟨n0,n1,n2⟩:=N2.q3;obtain ⟨r0,r1,r2⟩:=R2.q3;have f0:=R2.free 0;have f1:=R2.free 1;have f2:=R2.free 2;have zn:=N2.lt;have zr:=R2.lt;clear N1 R1 N2 R2 x1;unfold gC;rw [if_neg o2,if_neg o8];go_wp2;refine bodyPost_ret (v:=.agg #[.int .i64 (6),.string ⟨#[]⟩,.int .i64 (op)]) (by simp [results,results163,go_sem, *]) rfl ?_;exact ⟨rfl,S_⟩
end
section
open Go.RowKit Go.Maps Go.WideMaps
def Ins.cs (x:Ins):List Value:=[x.op,.string x.name,x.num]
def fV (lo:Nat) (w:World) (v:Value) (xs:List Ins):Prop:=aF Ins.cs lo 221 3 w v xs
theorem tK:(Tryz.prog.info? 221).map (fun i=>(i.zero,i.size,i.bytes))=some (some (.agg #[(),.string ⟨#[]⟩,()]),3,32):=by kernel_rfl
theorem bZ (w:World) {ops:Array Oper} {rest:List Oper} {o:Oper} {a:Act} {Q:Exit->Act->World->Prop} (hg:o.guard=none) (s x:Operand)
  (hop:o.op=Op.call { callee:=aTe aTd,args:=#[s,x],argTypes:=#[160,160] }) (lo:Nat) (v:Value) (xs:List Ins) (hs:a.eval s=v) (hown:fV lo w v xs)
  (y:Ins) (b:Nat) (hx:a.eval x = .slice (some ⟨b,0,none⟩) 1 1) (hcell:w.cell? ⟨b,0,none⟩=some (.int .i64 y.op)/\w.cell? ⟨b,1,none⟩=some (.string y.name)/\w.cell? ⟨b,2,none⟩=some (.int .i64 y.num)) (hlen:xs.length<1000000) (hlo:lo<=w.heap.size)
  (hK:∀v' w',fV lo w' v' (xs++[y])->w.grownBy w' v.ownBlock->wpList aQt ops Q rest (a.put o.dst v') w'):wpList aQt ops Q (o::rest) a w:=by
 refine dW Ins.cs 221 3 32 _ w hg s x 160 hop underlying160 tK rfl (by decide) (by decide) (fun _=>rfl) lo v xs hs hown y b hx ?_ ?_ hlen hlo hK
 ·intro j hj
  obtain ⟨c0,c1,c2⟩:=hcell
  rcases (show j=0\/j=1\/j=2 by omega) with rfl|rfl|rfl
  ·exact c0
  ·exact c1
  ·exact c2
 ·intro u hu
  simp only [Ins.cs,aRb,aQ5,or_false] at hu
  rcases hu with rfl|rfl|rfl <;> rfl
theorem aF.rowC {α : Type} {cs : α->List Value} {lo:Nat} {e:TypeId} {sz:Nat} {w:World} {v:Value} {xs:List α} (h:aF cs lo e sz w v xs):∀k,v.ownBlock=some k->lo<=k/\∃c,w.heap[k]?=some (.cells c e (0,0)):=by
 intro k hk
 rcases h.2 with ⟨rfl,h4⟩|⟨g,cap,cur,rfl,hb,hg,_⟩
 ·cases hk
 ·simp only [aRm,aQr] at hk
  subst hk;exact ⟨hb,cur,hg⟩
theorem KN.strs {lo B:Nat} {e:TypeId} {lo':Nat} {w w':World} {v:Value} {xs:List ByteArray} (h:cG lo' w v xs) (k:KN lo B e w w') (hB:∀c,w.heap[B]?≠some (.cells c 9 (0,0))) (he:9≠e):cG lo' w' v xs:=by
 obtain ⟨h1,h2⟩:=h;refine ⟨h1,?_⟩
 rcases h2 with hn|⟨g,cap,cur,hv,hb,hg,r⟩
 ·exact .inl hn
 ·refine .inr ⟨g,cap,cur,hv,hb,?_,r⟩
  exact (k.block g (aQ9.1 hg).1 (.inr ⟨fun e1=>hB cur (e1▸hg),fun c' h'=>by rw [hg] at h';simp only [aQr,aR0] at h';exact he h'.2.1⟩)).trans hg
structure TB (p:Prg) (P T C M mb lo:Nat) (a1 a2:Option Addr) (c1 c2:Nat) (w:World) (xs:List Ins) (iv:Value) (ls:List ByteArray) (lv:Value):Prop where
 prog:Blk w P 119 [.slice a1 p.ns.length c1,.slice a2 p.gs.length c2]
 fn:Blk w T 219 [.func (.func 162) #[] #[.pointer (some ⟨P,0,none⟩),.pointer (some ⟨T,0,none⟩),.pointer (some ⟨C,0,none⟩),.pointer (some ⟨M,0,none⟩)]]
 code:Blk w C 163 [iv,lv]
 mp:Blk w M 217 [.map (some mb)]
 map:FM w mb p.gs p.gs.length
 ins:fV lo w iv xs
 loc:cG lo w lv ls
 low:lo<=C
theorem Blk.neq {w:World} {A B:Nat} {cs ds:List Value} {t u:TypeId} (h:Blk w A t cs) (k:Blk w B u ds) (ht:t≠u):A≠B:=fun e=>by
 subst e;unfold Blk at h k;rw [h] at k;simp only [aQr,aR0] at k;exact ht k.2.1
theorem Blk.noCells {w:World} {A:Nat} {cs:List Value} {t e:TypeId} (h:Blk w A t cs) (he:e≠t):∀c,w.heap[A]?≠some (.cells c e (0,0)):=fun c hc=>by
 unfold Blk at h;rw [h] at hc;simp only [aQr,aR0] at hc;exact he hc.2.1.symm
theorem KN.fm {lo B:Nat} {e:TypeId} {w w':World} {b k:Nat} {gs:List Asg} {ds:List Value} {u:TypeId} (h:FM w b gs k) (kn:KN lo B e w w') (hB:Blk w B u ds):FM w' b gs k:=by
 have hl:=h.lt;have h':=h;obtain ⟨n,D,_,⟨es,clock,h1,_⟩,_⟩:=h';refine h.of_block (kn.block b hl (.inr ⟨fun e1=>?_,fun c hc=>?_⟩))
 ·subst e1
  unfold Blk at hB;rw [hB] at h1;cases h1
 ·rw [hc] at h1
  cases h1
theorem TB.ext {p:Prg} {P T C M mb lo:Nat} {a1 a2:Option Addr} {c1 c2:Nat} {w w':World} {xs:List Ins} {iv:Value} {ls:List ByteArray} {lv:Value} (h:TB p P T C M mb lo a1 a2 c1 c2 w xs iv ls lv) (x:Ext w w'):TB p P T C M mb lo a1 a2 c1 c2 w' xs iv ls lv:=
 ⟨h.prog.ext x,h.fn.ext x,h.code.ext x,h.mp.ext x,h.map.ext x,aF.ext h.ins x,h.loc.ext x,h.low⟩
theorem TB.kn {p:Prg} {P T C M mb lo:Nat} {a1 a2:Option Addr} {c1 c2:Nat} {w w':World} {xs xs':List Ins} {iv iv':Value} {ls:List ByteArray} {lv:Value} (h:TB p P T C M mb lo a1 a2 c1 c2 w xs iv ls lv) (k:KN lo C 221 w w') (hc:Blk w' C 163 [iv',lv]) (hi:fV lo w' iv' xs'):TB p P T C M mb lo a1 a2 c1 c2 w' xs' iv' ls lv:=
 ⟨KN.blk h.prog k (h.prog.neq h.code (by decide)) (by decide),KN.blk h.fn k (h.fn.neq h.code (by decide)) (by decide),hc,KN.blk h.mp k (h.mp.neq h.code (by decide)) (by decide),KN.fm h.map k h.code,hi,KN.strs h.loc k (h.code.noCells (by decide)) (by decide),h.low⟩
def C3b (b c d:Nat):Addr->Prop:=fun a=>a.block=b\/a.block=c\/a.block=d
@[go_sem] theorem aQj (b c d o:Nat):C3b b c d ⟨b,o,none⟩:=.inl rfl
@[go_sem] theorem aQk (b c d o:Nat):C3b b c d ⟨c,o,none⟩:=.inr (.inl rfl)
@[go_sem] theorem aQl (b c d o:Nat):C3b b c d ⟨d,o,none⟩:=.inr (.inr rfl)
end
section
open Go.RowKit Go.Maps Go.WideMaps
theorem oW {p:Prg} {ra:List Int} {j:Nat} (hj:j<=ra.length):((ra.take j).flatMap fun a=>p.tr a.toNat).length<=(ra.flatMap fun a=>p.tr a.toNat).length:=by
 conv=>rhs;rw [<-aUt j ra,aR1,aRg]
 omega
theorem aM0 (lo hi:Nat) (p:Prg) (hv:p.K) (hbd:p.bd) (hgl:p.gs.length<=1048576) (W:World) (a1 a2:Option Addr) (c1 c2:Nat) (HN:rE lo hi W a1 c1 p.ns) (hh:hi<=W.heap.size) (P T C M mb l2:Nat) (hl2:W.heap.size<=l2) (ls:List ByteArray) (lv:Value):∀m,
  ∀(node:Nat) (xs:List Ins) (iv:Value) (w:World),node<m->node<p.ns.length->xs.length+(p.tr node).length<=900000->TB p P T C M mb l2 a1 a2 c1 c2 w xs iv ls lv->Ext W w ->
  Calls aQt 162 #[(node:Nat),.pointer (some ⟨P,0,none⟩),.pointer (some ⟨T,0,none⟩),.pointer (some ⟨C,0,none⟩),.pointer (some ⟨M,0,none⟩)] w fun e w'=>e = .returned (.tuple #[])/\(∃iv',TB p P T C M mb l2 a1 a2 c1 c2 w' (xs++p.tr node) iv' ls lv)/\KN l2 C 221 w w':=by
 intro m;have l1:=HN.le;have l3:=HN.cap
 induction m with
 | zero=>intro node xs iv w hm;omega
 | succ m ih=>
  intro node xs iv w hm z6 z2 hB hx;have zx:=hx.size;have HB:=hid hB;have HX:=hid hx;obtain ⟨b,z8,op,s,num,sa,sc,ra,rfl,y9,a3,h2,io,b1,hI,HI,y0,y1,y2,y3⟩:=HN.atW z6 hx hh;have HG:=hid h2;have b2:=HI.le;have b4:=HI.cap;have qp:=hB.prog.cell 0 rfl;have pl:=hB.prog.lt;have a7:=hB.low;have a5:=hB.code.lt;have q2:=hv.v.tr_step h2;simp only at q2
  have a6:(p.tr node).length=(ra.flatMap fun a=>p.tr a.toNat).length+1:=by rw [q2];simp
  have x9:=hid q2;have IH:=hid ih;have z7:s.size<=maxLen:=hbd.1 _ (aRe h2);have nb:=aQx w 197 [op,.string s,num,.slice sa ra.length sc];have xn:Ext w (w.alloc (.cells #[op,.string s,num,.slice sa ra.length sc] 197)):=X_;have NB:=hid nb;have XN:=hid xn;clear ih h2 hB hx nb xn q2;go_enter func162,ntmps162;go_wp2
  go_loopw [17] (fun i wr=>∃(j:Nat) (iv':Value),j<=ra.length/\i = .int .i64 (j:Nat)/\TB p P T C M mb l2 (some ⟨b,z8,none⟩) a2 c1 c2 wr (xs++(ra.take j).flatMap fun a=>p.tr a.toNat) iv' ls lv/\Blk wr w.heap.size 197 [op,.string s,num,.slice sa ra.length sc]/\KN l2 C 221 w wr) (fun i _=>ra.length - (intOf i).toNat)
  case atStart=>exact ⟨0,iv,by omega,rfl,by simpa using HB.ext XN,NB,(KN.refl _ _ _ _).ext XN⟩
  case round=>
   clear HB NB XN;obtain ⟨j,iv',hj,rfl,hB,hN,hk⟩:=hrel;have HB:=hid hB;have h3:=hid hN;have HK:=hid hk;have h9:=hid (hk.up HX hl2);have x0:=oW (p:=p) hj;clear hB hN hk
   by_cases z3:j<ra.length
   ·obtain ⟨b3,z9,y,rfl,a0,hy,_,a4⟩:=HI.atE z3 h9 hh
    have a8:=(hv.v.nd node _ HG).2 y (aRe hy)
    obtain ⟨z,rfl⟩:∃z:Nat,y=z:=⟨y.toNat,by omega⟩
    have hf:=HB.fn;have qf:=hf.cell 0 rfl
    have q8:((ra.take (j+1)).flatMap fun a=>p.tr a.toNat)=((ra.take j).flatMap fun a=>p.tr a.toNat)++p.tr z:=by
     rw [aWt,hy,aR1];simp
    have q6:=oW (p:=p) (ra:=ra) (j:=j+1) (by omega);rw [q8,aRg] at q6;have x8:=hid q8;clear hy q8 hf;go_wp2_with fail;refine (IH z _ iv' _ (by omega) (by omega) (by rw [aRg];omega) HB h9).mono ?_;rintro e w1 ⟨rfl,⟨h7,hB2⟩,hk2⟩;have x2:=hid hB2;have q3:=hid (KN.blk h3 hk2 (h3.neq HB.code (by decide)) (by decide));have x4:=hid (HK.trans hk2);clear hB2 hk2 HB h3 HK h9 qf;go_wp2;go_roundw
    case rel=>exact ⟨j+1,h7,by omega,by go_num,by rw [x8,<-aRp];exact x2,q3,x4⟩
    case measure=>simp [intOf];omega
   ·obtain rfl:j=ra.length:=by omega
    rw [aRo] at HB x0
    obtain ⟨L,hL⟩:∃L,xs++(ra.flatMap fun a=>p.tr a.toNat)=L:=⟨_,rfl⟩
    have y5:L.length<=900000:=by rw [<-hL,aRg];omega
    rw [hL] at HB;have HL:=hid hL;obtain ⟨ia,ic,rfl,-⟩:=aF.form HB.ins;clear hL x0;have q0:=HB.code;have z0:=q0.cell 0 rfl;have z1:=q0.free 0;have y4:=q0.lt;have q7:=HB.mp;have m0:=q7.cell 0 rfl;have ml:=q7.lt;obtain ⟨n0,n1,n2,n3⟩:=h3.q4;have zn:=h3.lt;have b6:=h9.size;have y8:=h3.neq HB.code (by decide)
    have q1:∃o t n,bJ p ⟨op,s,num,ra⟩=⟨o,t,n⟩:=⟨_,_,_,rfl⟩
    obtain ⟨io,it,h6,q1⟩:=q1;have q9:=hid q1;clear q1 q0 q7;go_wp2_with fail;refine aJ [([0,1,2,3],4),([],5),([],6),([7],8)] 8 (fun w'=>∃d,w'=fU (C3b C w.heap.size M) _ d) (by kernel_rfl) (by kernel_rfl) (aTh _ _) ?_;refine sc_ fun K hK=>?_;go_wp2_with fail;refine r_ (aGl p hv node op num s ra HG sa ra.length sc mb _ (HB.map.ext X_) z7 hgl) fun w6 x6=>?_;rw [iI q9];have y6:Ext wr w6:=aQu (aRr (aQy _)) x6;go_wp2_with fail;refine hK _ _ (.inr (aRx fun a ha=>?_)) ?_
    ·rcases ha with ha|ha|ha
     ·exact y6.block (by rw [ha];omega)
     ·exact y6.block (by rw [ha];omega)
     ·exact y6.block (by rw [ha];omega)
    clear hK K;refine sc_ fun K hK=>?_;go_wp2_with fail;have y7:Ext w6 (w6.alloc (.cells #[io,.string it,h6] 221)):=X_;have b7:=aQx w6 221 [io,.string it,h6];have h1:=y6.trans y7;refine hK _ _ (.inr (aRx fun a ha=>?_)) ?_
    ·rcases ha with ha|ha|ha
     ·exact h1.block (by rw [ha];omega)
     ·exact h1.block (by rw [ha];omega)
     ·exact h1.block (by rw [ha];omega)
    clear hK K;have h8:=hid (HB.ext h1);have x7:=hid (h3.ext h1);have b5:=h1.size;have z5:=h9.size;refine sc_ fun K hK=>?_;refine bZ _ rfl _ _ rfl l2 (.slice ia L.length ic) L rfl h8.ins ⟨io,it,h6⟩ w6.heap.size rfl ⟨b7.cell 0 rfl,b7.cell 1 rfl,b7.cell 2 rfl⟩ (by omega) (by omega) ?_;intro h7 w8 h4 hg;have h5:=aF.rowC h8.ins
    have h0:∀{B:Nat} {t:TypeId} {cs:List Value},Blk (w6.alloc (.cells #[io,.string it,h6] 221)) B t cs->t≠221->w8.heap[B]?=(w6.alloc (.cells #[io,.string it,h6] 221)).heap[B]?:=fun hb ht=>hg.block _ hb.lt (fun e=>by
     obtain ⟨_,c,hc⟩:=h5 _ e.symm
     exact hb.noCells (Ne.symm ht) c hc)
    have kC:=h0 h8.code (by decide);have kN:=h0 x7 (by decide);have kM:=h0 h8.mp (by decide);have K8:KN l2 C 221 wr w8:=((KN.refl l2 C 221 wr).ext h1).grown hg h5;have C8:=h8.code.of kC;have e0:=C8.cell 0 rfl;have g0:=C8.free 0;have x5:=hid (HK.trans (K8.set HB.low 0 h7));have x3:=hid (HB.kn (K8.set HB.low 0 h7) (C8.set 0 h7) (aF.set h4 C8 (by decide) 0 h7));go_wp2_with fail;refine hK _ _ (.inr (aRx fun a ha=>?_)) ?_
    ·rcases ha with ha|ha|ha
     ·rw [ha];exact kC.trans (h1.block (by omega))
     ·rw [ha];exact kN.trans (h1.block (by omega))
     ·rw [ha];exact kM.trans (h1.block (by omega))
    clear hK K;obtain ⟨a9,b0,x1,_⟩:=aF.form h4
    have z4:(L++[(⟨io,it,h6⟩:Ins)]).length=L.length+1:=by simp
    rw [z4] at x1;subst x1;clear h4 hg h5 h0 kC kN kM K8 C8 z0 z1 m0 n0 n1 n2 n3;refine gR ?_;simp only [aRd,aQ7,aQs,aQm,aQn]
    show wpQuiet _ _ _ _ [_] _
    simp only [aR9,aQv,aQ3,aQ2,aVt,aUj,aUk]
    repeat (go_big_quiet_step (fail))
    refine wpQuiet_nil ⟨_,rfl,fun K hK=>?_⟩;go_wp2_with fail;refine l_ hK ?_;clear hK K;refine aQ ?_
    have q5:L++[(⟨io,it,h6⟩:Ins)]=xs++p.tr node:=by rw [x9,q9,<-HL,aRp]
    go_wp2
    go_end0
    exact ⟨rfl,⟨_,by rw [<-q5];exact x3⟩,x5⟩
end
section
open Go.RowKit Go.Maps Go.WideMaps
theorem zI {z:Int} (h:0<=z/\z<=9):I64 z:=⟨by omega,by omega⟩
theorem aK7 {p:Prg} (h:p.K) (hgl:p.gs.length<=1048576) {j:Nat} {x:Nd} (hx:p.ns[j]?=some x) (hn:I64 x.num):I64 (bJ p x).op/\I64 (bJ p x).num:=by
 have h0:((pG p x.name:Nat):Int)<=1048576:=by
  unfold pG
  cases e:eM p.gs p.gs.length x.name.toList with
  | none=>decide
  | some i=>
   have:=(eX e).1
   show ((i:Nat):Int)<=1048576
   omega
 rcases jI (h.v.nd j x hx).1 with ⟨o,h2,h3⟩|⟨o,h3⟩|⟨o,h3⟩|⟨o,o',h3⟩|⟨o,h3⟩
 ·unfold bJ;rw [if_pos o];exact ⟨zI (z:=1) ⟨by decide,by decide⟩,hn⟩
 ·unfold bJ
  rw [if_neg (by omega),if_neg (by omega),if_pos o]
  split
  ·exact ⟨zI (z:=2) ⟨by decide,by decide⟩,zI (z:=0) ⟨by decide,by decide⟩⟩
  ·exact ⟨zI (z:=3) ⟨by decide,by decide⟩,⟨by show (-9223372036854775808:Int)<=((pG p x.name:Nat):Int);omega,by show ((pG p x.name:Nat):Int)<=9223372036854775807;omega⟩⟩
 ·unfold bJ;rw [if_neg (by omega),if_pos o];exact ⟨zI (z:=5) ⟨by decide,by decide⟩,zI (z:=3) ⟨by decide,by decide⟩⟩
 ·unfold bJ;rw [if_neg (by omega),if_neg (by omega),if_neg (by omega),if_neg (by omega)]
  exact ⟨zI (z:=6) ⟨by decide,by decide⟩,⟨by show (-9223372036854775808:Int)<=x.op;omega,by show x.op<=9223372036854775807;omega⟩⟩
 ·unfold bJ;rw [if_neg (by omega),if_neg (by omega),if_neg (by omega),if_pos o];exact ⟨zI (z:=7) ⟨by decide,by decide⟩,zI (z:=0) ⟨by decide,by decide⟩⟩
theorem aPc {p:Prg} (h:p.K) (hgl:p.gs.length<=1048576) (hn:∀x∈p.ns,I64 x.num):∀(F j:Nat),j<F->∀y∈p.tr j,I64 y.op/\I64 y.num:=by
 intro F
 induction F with
 | zero=>intro j hj;omega
 | succ F ih=>
  intro j hj y hy
  cases hx:p.ns[j]? with
  | none=>
   have:p.tr j=[]:=by show trF p (j+1) j=[];rw [trF,hx]
   rw [this] at hy;cases hy
  | some x=>
   rw [h.v.tr_step hx] at hy
   rcases aS2.1 hy with hy|hy
   ·obtain ⟨a,ha,hy⟩:=aU7.1 hy
    have:=(h.v.nd j x hx).2 a ha;exact ih a.toNat (by omega) y hy
   ·simp only [aRb,aQ5,or_false] at hy
    subst hy;exact aK7 h hgl hx (hn x (aRe hx))
theorem aK8 {p:Prg} (h:p.K) (hgl:p.gs.length<=1048576) (hn:∀x∈p.ns,I64 x.num):∀(k:Nat),k<=p.gs.length->∀y∈p.trs k,I64 y.op/\I64 y.num:=by
 intro k
 induction k with
 | zero=>intro _ y hy;cases hy
 | succ k ih=>
  intro hk y hy
  obtain ⟨a,ha⟩:∃a,p.gs[k]?=some a:=⟨p.gs[k],aQ0 (by omega)⟩
  rw [Prg.trs_step ha] at hy
  rcases aS2.1 hy with hy|hy
  ·exact ih (by omega) y hy
  ·rcases aS2.1 hy with hy|hy
   ·exact aPc h hgl hn _ _ (aYk _) y hy
   ·simp only [aRb,aQ5,or_false] at hy
    subst hy;exact ⟨zI (z:=4) ⟨by decide,by decide⟩,⟨by show (-9223372036854775808:Int)<=((k:Nat):Int);omega,by show ((k:Nat):Int)<=9223372036854775807;omega⟩⟩
theorem fV.inss {lo l2:Nat} {w:World} {v:Value} {xs:List Ins} (h:fV lo w v xs) (hl:l2<=lo) (hg:∀x∈xs,I64 x.op/\I64 x.num):aFd l2 w.heap.size w v xs:=by
 obtain ⟨a,c,rfl,_⟩:=aF.form h
 have hc:xs.length<=c/\c<=maxLen:=by
  rcases h.2 with ⟨e,h4⟩|⟨g,cap,cur,e,hb,hh,hc,hm,_⟩
  ·simp only [aRi] at e
   obtain ⟨rfl,e2,rfl⟩:=e;exact ⟨by omega,by unfold maxLen;omega⟩
  ·simp only [aRi] at e
   obtain ⟨rfl,e2,rfl⟩:=e;exact ⟨hc,hm⟩
 refine ⟨a,c,rfl,hc.1,hc.2,fun i x hx=>?_⟩;obtain ⟨g,cap,e,g1,g2,_,_,_,h0⟩:=aF.at h (fun _=>rfl) hx;simp only [aRi] at e;obtain ⟨rfl,_,rfl⟩:=e;have c0:=h0 0 (by decide);have c1:=h0 1 (by decide);have c2:=h0 2 (by decide);simp only [Ins.cs,aSa,aQm,aQn] at c0 c1 c2;exact ⟨hg x (aRe hx),g,0,rfl,by omega,g2,by rw [aRl];exact c0,by rw [aRl];exact c1,by rw [aRl];exact c2⟩
theorem cG.row {lo:Nat} {w:World} {v:Value} {xs:List ByteArray} (h:cG lo w v xs):∀k,v.ownBlock=some k->lo<=k/\∃c,w.heap[k]?=some (.cells c 9 (0,0)):=by
 intro k hk
 rcases h.2 with ⟨rfl,h4⟩|⟨g,cap,cur,rfl,hb,hg,_⟩
 ·cases hk
 ·simp only [aRm,aQr] at hk
  subst hk;exact ⟨hb,cur,hg⟩
theorem TB.knS {p:Prg} {P T C M mb lo:Nat} {a1 a2:Option Addr} {c1 c2:Nat} {w w':World} {xs:List Ins} {iv lv lv':Value} {ls ls':List ByteArray} (h:TB p P T C M mb lo a1 a2 c1 c2 w xs iv ls lv) (k:KN lo C 9 w w') (hc:Blk w' C 163 [iv,lv']) (hl:cG lo w' lv' ls'):TB p P T C M mb lo a1 a2 c1 c2 w' xs iv ls' lv':=
 ⟨KN.blk h.prog k (h.prog.neq h.code (by decide)) (by decide),KN.blk h.fn k (h.fn.neq h.code (by decide)) (by decide),hc,KN.blk h.mp k (h.mp.neq h.code (by decide)) (by decide),KN.fm h.map k h.code,KN.row h.ins k (h.code.noCells (by decide)) (by decide),hl,h.low⟩
end
section
open Go.RowKit Go.Maps Go.WideMaps
theorem Cod.R.wideC {c:Cod} {lo hi l2 h2:Nat} {w:World} {v:Value} (h:c.R lo hi w v) (hl:l2<=lo) (hh:hi<=h2):c.R l2 h2 w v:=by
 obtain ⟨iu,lu,rfl,⟨a,cap,e1,e2,e3,e4⟩,⟨a',cap',f1,f2,f3,f4⟩⟩:=h;refine ⟨iu,lu,rfl,⟨a,cap,e1,e2,e3,fun i x hx=>?_⟩,⟨a',cap',f1,f2,f3,fun i x hx=>?_⟩⟩
 ·obtain ⟨g0,b,h0,g1,g2,g3,g4⟩:=e4 i x hx
  exact ⟨g0,b,h0,g1,by omega,by omega,g4⟩
 ·obtain ⟨b,h0,g1,g2,g3,g4⟩:=f4 i x hx
  exact ⟨b,h0,g1,by omega,by omega,g4⟩
theorem aEh {p:Prg} {k:Nat}:∀m,k<=m->m<=p.gs.length->(p.trs k).length<=(p.trs m).length:=by
 intro m
 induction m with
 | zero=>
  intro h _
  have:k=0:=by omega
  rw [this];exact aQo _
 | succ m ih=>
  intro h hm
  by_cases e:k=m+1
  ·subst e;exact aQo _
  ·have:=ih (by omega) (by omega)
   obtain ⟨a,ha⟩:∃a,p.gs[m]?=some a:=⟨p.gs[m],aQ0 (by omega)⟩
   rw [Prg.trs_step ha,aRg];omega
theorem aCd (lo hi:Nat) (v:Value) (p:Prg) (w:World) (hv:p.R lo hi w v) (hh:hi<=w.heap.size) (hchk:p.chkB=true) (hbd:p.bd) (hgl:p.gs.length<=1048576) :
  Calls aQt 105 #[v] w fun e w'=>∃u,e = .returned (.tuple #[u,.bool true])/\p.code.R w.heap.size w'.heap.size w' u/\Ext w w':=by
 have HV:=hid hv;have hp:=Prg.chkB_K hchk;have HP:=hid hp;have b1:=hid hchk;obtain ⟨a1,c1,a2,c2,rfl,HN,HG⟩:=hv.form;have l1:=HN.le;have l2:=HN.cap;have l3:=HG.le;have l4:=HG.cap;have l5:=hp.v.len;have l6:=hp.v.gs_len
 have q5:∀x∈p.ns,I64 x.num:=fun x hx=>by
  obtain ⟨i,hi,c8⟩:=aRn hx;exact (HN.cell i x (by rw [<-c8];simp [hi])).1.2
 have a9:=hid (aK8 hp hgl q5);have q3:=nX hp;have b2:=hid q3;have b0:=aQx w 119 [.slice a1 p.ns.length c1,.slice a2 p.gs.length c2];have r0:=aQx (w.alloc (.cells #[.slice a1 p.ns.length c1,.slice a2 p.gs.length c2] 119)) 163 [.slice none 0 0,.slice none 0 0];rw [aQp] at r0;have x0:Ext w ((w.alloc (.cells #[.slice a1 p.ns.length c1,.slice a2 p.gs.length c2] 119)).alloc (.cells #[.slice none 0 0,.slice none 0 0] 163)):=X_;have z9:=hid (b0.ext (show Ext _ ((w.alloc (.cells #[.slice a1 p.ns.length c1,.slice a2 p.gs.length c2] 119)).alloc (.cells #[.slice none 0 0,.slice none 0 0] 163)) from X_));have y4:=hid r0;have x7:=hid x0;clear hv hp hchk b0 r0 x0 q5 q3;go_enter func105,ntmps105;go_wp2_with fail;refine r_ (tE b1 lo hi _ _ (HV.ext hh x7) (aQw hh x7.size) hbd hgl) fun w1 x1=>?_;have h4:=hid (x7.trans x1);have x4:=hid (z9.ext x1);have h6:=hid (y4.ext x1);obtain ⟨q0,q1⟩:=x4.q2;have ql:=x4.lt;clear x1 x7 z9 y4;go_wp2_with fail;refine (pU lo hi _ p _ (HV.ext hh h4) (aQw hh h4.size) hbd hgl).mono ?_;rintro e w2 ⟨⟨mb,rfl,hmb,hM⟩,x2⟩;have z4:=hid (h4.trans x2);have x5:=hid (x4.ext x2);have z1:=hid (h6.ext x2);have y3:=hid hM;have q1:=x5.cell 1 rfl;have g8:=x5.lt;have g9:=z1.lt;have x3:=z4.size;clear x2 hM h4 x4 h6;have xb:Ext w2 (((w2.alloc (.cells #[.slice none 0 0,.slice none 0 0] 163)).alloc (.cells #[.map (some mb)] 217)).alloc (.cells #[.func (.func 162) #[] #[.pointer (some ⟨w.heap.size,0,none⟩),.pointer (some ⟨w2.heap.size+1+1,0,none⟩),.pointer (some ⟨w2.heap.size,0,none⟩),.pointer (some ⟨w2.heap.size+1,0,none⟩)]] 219)):=X_;have cb:=(aQx w2 163 [.slice none 0 0,.slice none 0 0]).ext (show Ext (w2.alloc (.cells #[.slice none 0 0,.slice none 0 0] 163)) (((w2.alloc (.cells #[.slice none 0 0,.slice none 0 0] 163)).alloc (.cells #[.map (some mb)] 217)).alloc (.cells #[.func (.func 162) #[] #[.pointer (some ⟨w.heap.size,0,none⟩),.pointer (some ⟨w2.heap.size+1+1,0,none⟩),.pointer (some ⟨w2.heap.size,0,none⟩),.pointer (some ⟨w2.heap.size+1,0,none⟩)]] 219)) from X_);have z8:=(aQx (w2.alloc (.cells #[.slice none 0 0,.slice none 0 0] 163)) 217 [.map (some mb)]).ext (show Ext ((w2.alloc (.cells #[.slice none 0 0,.slice none 0 0] 163)).alloc (.cells #[.map (some mb)] 217)) (((w2.alloc (.cells #[.slice none 0 0,.slice none 0 0] 163)).alloc (.cells #[.map (some mb)] 217)).alloc (.cells #[.func (.func 162) #[] #[.pointer (some ⟨w.heap.size,0,none⟩),.pointer (some ⟨w2.heap.size+1+1,0,none⟩),.pointer (some ⟨w2.heap.size,0,none⟩),.pointer (some ⟨w2.heap.size+1,0,none⟩)]] 219)) from X_);have fb:=aQx ((w2.alloc (.cells #[.slice none 0 0,.slice none 0 0] 163)).alloc (.cells #[.map (some mb)] 217)) 219 [.func (.func 162) #[] #[.pointer (some ⟨w.heap.size,0,none⟩),.pointer (some ⟨w2.heap.size+1+1,0,none⟩),.pointer (some ⟨w2.heap.size,0,none⟩),.pointer (some ⟨w2.heap.size+1,0,none⟩)]];simp only [aQp] at z8 fb
 have hT:TB p w.heap.size (w2.heap.size+1+1) w2.heap.size (w2.heap.size+1) mb w2.heap.size a1 a2 c1 c2 (((w2.alloc (.cells #[.slice none 0 0,.slice none 0 0] 163)).alloc (.cells #[.map (some mb)] 217)).alloc (.cells #[.func (.func 162) #[] #[.pointer (some ⟨w.heap.size,0,none⟩),.pointer (some ⟨w2.heap.size+1+1,0,none⟩),.pointer (some ⟨w2.heap.size,0,none⟩),.pointer (some ⟨w2.heap.size+1,0,none⟩)]] 219)) [] (.slice none 0 0) [] (.slice none 0 0):=⟨x5.ext xb,fb,cb,z8,y3.ext xb,aF.nil _ _ _ _ _,cG.nil _ _,aQo _⟩
 have HT:=hid hT;have y9:=hid (z1.ext xb);have a4:=hid (z4.trans xb);have d3:=hT.prog.cell 1 rfl;clear cb z8 fb hT xb x5 y3 z1 z4;go_wp2_with fail
 go_loopw [20] (fun i wr=>∃(k:Nat) (iv lv:Value),k<=p.gs.length/\i = .int .i64 (k:Nat)/\TB p w.heap.size (w2.heap.size+1+1) w2.heap.size (w2.heap.size+1) mb w2.heap.size a1 a2 c1 c2 wr (p.trs k) iv ((p.gs.take k).map (·.name)) lv/\Blk wr (w.heap.size+1) 163 [.slice none 0 0,.slice none 0 0]/\Ext w wr) (fun i _=>p.gs.length - (intOf i).toNat)
 case atStart=>exact ⟨0,_,_,by omega,rfl,HT,y9,a4⟩
 case round=>
  clear HT y9 a4 d3;obtain ⟨k,iv,lv,hk,rfl,hT,hR,hx⟩:=hrel;have HT:=hid hT;have HR:=hid hR;have HX:=hid hx
  by_cases d0:k<p.gs.length
  ·obtain ⟨b,d2,s,rt,rfl,e9,g2,q4,h3,ir,y0,y1⟩:=HG.at d0 hx hh
   have d1:=(HP.v.ag k _ h3).2;simp only at d1
   obtain ⟨r,rfl⟩:∃r:Nat,rt=r:=⟨rt.toNat,by omega⟩
   have b3:=hid h3;have z0:=Prg.trs_step h3;have g5:=aEh (p:=p) (k:=k+1) p.gs.length (by omega) (aQo _);have q3:=b2.out;have c7:(p.trs p.gs.length).length<=120:=q3;simp only [aRh] at z0
   have g3:(p.trs (k+1)).length=(p.trs k).length+(p.tr r).length+1:=by rw [z0];simp;omega
   have b8:=hid z0;have y0:Ext wr (wr.alloc (.cells #[.string s,(r:Nat)] 200)):=X_;have HA:=hid (aQx wr 200 [.string s,(r:Nat)]);have z3:=hid (hT.ext y0);have h6:=hid (hR.ext y0);have h4:=hid (hx.trans y0);have z6:=hT.fn;have f0:=z6.cell 0 rfl;have fl:=z6.lt;have zr:=hx.size;have g4:=hT.low;have e5:=hT.code.lt;clear hT hR hx q4 h3 z0 q3 HT HR HX z6;go_wp2_with fail;refine (aM0 lo hi p HP hbd hgl w a1 (some ⟨b,d2,none⟩) c1 c2 HN hh w.heap.size (w2.heap.size+1+1) w2.heap.size (w2.heap.size+1) mb w2.heap.size x3 _ _ (r+1) r _ iv _ (by omega) (by omega) (by omega) z3 h4).mono ?_;rintro e w5 ⟨rfl,⟨iv2,hT5⟩,hk5⟩;have h5:=hid (KN.blk HA hk5 (HA.neq z3.code (by decide)) (by decide));have y7:=hid (h6.of (hk5.block _ h6.lt (.inl (by omega))));have a3:=hid (hk5.up h4 x3)
   obtain ⟨L,hL⟩:∃L,p.trs k++p.tr r=L:=⟨_,rfl⟩
   have e6:L.length<=200:=by rw [<-hL,aRg];omega
   rw [hL] at hT5;have HL:=hid hL
   obtain ⟨NL,x9⟩:∃N,(p.gs.take k).map (·.name)=N:=⟨_,rfl⟩
   have e7:NL.length<=200:=by rw [<-x9,aR7,aRf];omega
   rw [x9] at hT5;have b4:=hid x9;have x6:=hid hT5;obtain ⟨ia,ic,rfl,-⟩:=aF.form hT5.ins;obtain ⟨la,lc,rfl,-⟩:=hT5.loc.form;obtain ⟨a5,a6⟩:=hT5.code.q2;have c5:=hT5.code.free 0;have c6:=hT5.code.free 1;have cl:=hT5.code.lt;obtain ⟨k0,k1⟩:=h5.q2;have kl:=h5.lt;have y5:Ext w5 (w5.alloc (.cells #[.int .i64 4,.string ⟨#[]⟩,(k:Nat)] 221)):=X_;have b5:=aQx w5 221 [.int .i64 4,.string ⟨#[]⟩,(k:Nat)];have z5:=hid y5;have d7:=hid b5;have y2:=hid (aF.ext hT5.ins y5);have i0:=a3.size;have d4:=y5.size;clear hL x9 hT5 hk5 y5 b5 z3 h6 h4 HA f0;go_wp2_with (at_builtin;refine bZ _ rfl _ _ rfl w2.heap.size (.slice ia L.length ic) L rfl ?_ ⟨4,⟨#[]⟩,(k:Nat)⟩ w5.heap.size rfl ?_ ?_ ?_ ?_)
   ·exact y2
   ·omega
   ·exact aQw (aTx cl) d4
   intro h7 w6 h1 hg;have h2:=aF.rowC y2
   have h0:∀{B:Nat} {t:TypeId} {cs:List Value},Blk w5 B t cs->t≠221->w6.heap[B]?=w5.heap[B]?:=fun hb ht=>(hg.block _ (by have:=hb.lt;omega) (fun e=>by
    obtain ⟨_,c,hc⟩:=h2 _ e.symm
    exact (hb.ext z5).noCells (Ne.symm ht) c hc)).trans (z5.block hb.lt)
   have kC:=h0 x6.code (by decide);have kA:=h0 h5 (by decide);have K6:KN w2.heap.size w2.heap.size 221 w5 w6:=((KN.refl _ _ _ w5).ext z5).grown hg h2;have C6:=x6.code.of kC;have d6:=hid ((h5.of kA).other (a:=⟨w2.heap.size,0,none⟩) (h5.neq x6.code (by decide)) h7);have h9:=hid (x6.kn (K6.set (aQo _) 0 h7) (C6.set 0 h7) (aF.set h1 C6 (by decide) 0 h7));have y8:=hid (y7.of ((K6.set (aQo _) 0 h7).block _ y7.lt (.inl (by omega))));have c0:=hid ((K6.set (aQo _) 0 h7).up a3 x3);obtain ⟨q7,q8,q6,_⟩:=aF.form h1
   have c9:(L++[(⟨4,⟨#[]⟩,(k:Nat)⟩:Ins)]).length=L.length+1:=by simp
   rw [c9] at q6;subst q6;obtain ⟨e0,e1⟩:=C6.q2;have g0:=C6.free 0;have g1:=C6.free 1;have a0:=(h5.of kA).cell 0 rfl;have al:=(h5.of kA).lt;have d8:=C6.lt;clear h1 hg h2 h0 kC kA K6 C6 a5 a6 c5 c6 k0 k1;have y6:Ext (w6.setCell ⟨w2.heap.size,0,none⟩ (.slice q7 (L.length+1) q8)) ((w6.setCell ⟨w2.heap.size,0,none⟩ (.slice q7 (L.length+1) q8)).alloc (.cells #[.string s] 9)):=X_;have z2:=hid (h9.loc.ext y6);have x8:=hid y6;have b6:=aQx (w6.setCell ⟨w2.heap.size,0,none⟩ (.slice q7 (L.length+1) q8)) 9 [.string s];rw [aSc] at b6;have d5:=y6.size;have a8:=h9.code.lt;clear y6;go_wp2_with (at_builtin;refine jS _ rfl _ _ rfl w2.heap.size (.slice la NL.length lc) NL rfl ?_ s w6.heap.size rfl ?_ ?_ ?_ ?_)
   ·exact z2
   ·exact b6.cell 0 rfl
   ·omega
   ·exact aQw (aTx a8) d5
   intro q9 w8 h1 hg;have h2:=cG.row z2
   have kC:w8.heap[w2.heap.size]?=(w6.setCell ⟨w2.heap.size,0,none⟩ (.slice q7 (L.length+1) q8)).heap[w2.heap.size]?:=(hg.block _ (by omega) (fun e=>by
    obtain ⟨_,c,hc⟩:=h2 _ e.symm
    exact (h9.code.ext x8).noCells (by decide) c hc)).trans (x8.block a8)
   have K8:KN w2.heap.size w2.heap.size 9 (w6.setCell ⟨w2.heap.size,0,none⟩ (.slice q7 (L.length+1) q8)) w8:=((KN.refl _ _ _ _).ext x8).grown hg h2;have C8:=h9.code.of kC;have O9:=KN.strs h1 ((KN.refl w2.heap.size w2.heap.size 221 w8).set (aQo _) 1 q9) (C8.noCells (by decide)) (by decide);have b9:=hid (h9.knS (K8.set (aQo _) 1 q9) (C8.set 1 q9) O9);have b7:=hid (y8.of ((K8.set (aQo _) 1 q9).block _ y8.lt (.inl (by omega))));have c3:=hid ((K8.set (aQo _) 1 q9).up c0 x3);obtain ⟨g6,g7,q6,_⟩:=h1.form
   have z7:(NL++[s]).length=NL.length+1:=by simp
   rw [z7] at q6;subst q6;have e3:=C8.cell 1 rfl;have e4:=C8.free 1;have d9:=C8.lt;clear h1 hg h2 kC K8 C8 O9 z2 x8;go_wp2_with fail;go_roundw
   case rel=>
    have e1:L++[(⟨4,⟨#[]⟩,(k:Nat)⟩:Ins)]=p.trs (k+1):=by rw [b8,<-HL,aRp]
    have e2:NL++[s]=(p.gs.take (k+1)).map (·.name):=by rw [aWt,b3,aSy,b4];rfl
    have h8:=b9.out;rw [e1,e2] at h8;exact ⟨k+1,_,_,by omega,by go_num,h8,b7,c3⟩
   case measure=>simp [intOf];omega
  ·obtain rfl:k=p.gs.length:=by omega
   rw [aRo] at HT;obtain ⟨ia,ic,rfl,-⟩:=aF.form HT.ins;obtain ⟨la,lc,rfl,-⟩:=HT.loc.form;obtain ⟨a5,a6⟩:=HT.code.q2;have cl:=HT.code.lt;obtain ⟨r0,r1⟩:=HR.q2;have f0:=HR.free 0;have f1:=HR.free 1;have rl:=HR.lt;have zX:=HX.size;have hS:=hid (HT.loc.strs);have hI:=hid (HT.ins.inss (aQo _) (a9 _ (aQo _)))
   have a7:p.code.R w2.heap.size wr.heap.size wr (.agg #[.slice ia (p.trs p.gs.length).length ic,.slice la p.gs.length lc]):=⟨_,_,rfl,hI.out,by have h:=hS.out;rw [aR7] at h;exact h⟩
   have c4:=hid (a7.same ((aM.setLow wr (p:=⟨w.heap.size+1,0,none⟩) (by simp only;omega) (.slice ia (p.trs p.gs.length).length ic)).trans (aM.setLow _ (p:=⟨w.heap.size+1,1,none⟩) (by simp only;omega) (.slice la p.gs.length lc))));have e8:=HX.out;clear hT hR hx a7;go_wp2;refine bodyPost_ret (v:=.tuple #[.agg #[.slice ia (p.trs p.gs.length).length ic,.slice la p.gs.length lc],.bool true]) (by simp [results,results105,go_sem, *]) rfl ?_;exact ⟨_,rfl,c4.wideC x3 (by simp),S_⟩
end
theorem Scn.prg_at {s:Scn} (h:s.sh k=(q:Nat)) (hq:q<s.ps.length):s.prg k=s.ps[q]:=by
 unfold Scn.prg;rw [h,aRh,aRj,aQ0 hq]
 rfl
theorem Scn.shade_at {s:Scn} (h:s.sh k=(q:Nat)) (hq:q<s.ps.length) (hn:s.rt k=(n:Nat)):s.shade k=((s.ps[q].code.shade (mY (s.st k) n s.t)).1,(s.ps[q].code.shade (mY (s.st k) n s.t)).2.1):=by
 unfold Scn.shade;rw [Scn.prg_at h hq];unfold Scn.grd;rw [hn,aRh]
theorem Scn.Ok.at {s:Scn} (ho:s.Ok) (hk:k<s.m):∃q n:Nat,s.sh k=(q:Nat)/\q<s.ps.length/\s.rt k=(n:Nat)/\1<=n/\n<=8/\qR (s.st k)=true/\qR (s.en k)=true:=by
 have h:=aK5.1 (ho.srf k hk);have h1:=h.sh;have h2:=h.rt;exact ⟨(s.sh k).toNat,(s.rt k).toNat,by omega,by omega,by omega,by omega,by omega,h.f,h.g⟩
theorem Scn.Ok.shade {s:Scn} (ho:s.Ok) (hk:k<s.m):(s.shade k).1.length=(s.rt k).toNat*(s.rt k).toNat/\(s.shade k).2.length=(s.rt k).toNat*(s.rt k).toNat:=by
 obtain ⟨q,n,h1,h2,h3,h4,h5,h6,-⟩:=ho.at hk;have hc:=ho.prg _ (aQ8 h2);obtain ⟨X,Y,e,x,y,-⟩:=(Prg.chkB_K hc).shade hc (xJ (f:=s.st k) (n:=n) (t:=s.t) ⟨h4,h5⟩ ho.t);rw [Scn.shade_at h1 h2 h3,e,h3,aRh];exact ⟨x,y⟩
theorem Grd.R.formS {g:Grd} (h:g.R lo hi w v):∃a1 c1 a2 c2,v = .agg #[g.n,.slice a1 g.m c1,g.tm,g.t.log,.slice a2 g.t.px.length c2]:=by
 obtain ⟨pu,tu,rfl,_,_,_,hp,hu⟩:=h;obtain ⟨a1,c1,rfl,_⟩:=hp;obtain ⟨a2,c2,rfl,_⟩:=hu;exact ⟨a1,c1,a2,c2,rfl⟩
theorem aK9:(Tryz.prog.info? 91).map (fun i=>i.size)=some 2:=by kernel_rfl
theorem fW.low' (h:fW lo hi w v xs) (hl:lo'<=lo):fW lo' hi w v xs:=⟨h.1.low hl,h.2⟩
theorem fW.setLow (h:fW lo hi w v xs) {p:Addr} (hp:p.block<lo) (u:Value):fW lo hi (w.setCell p u) v xs:=⟨h.1.setLow hp u,h.2⟩
theorem fW.form (h:fW lo hi w v xs):∃a c,v = .slice a xs.length c:=by
 obtain ⟨a,c,e,_⟩:=h.1.form;exact ⟨a,c,e⟩
theorem aGm (s:Scn) (lo hi:Nat) (v:Value) (k:Nat) (w:World) (hv:s.R lo hi w v) (hh:hi<=w.heap.size) (ho:s.Ok) (hsm:s.small) (hk:k<s.m) :
  Calls aQt 59 #[v,(k:Nat)] w fun e w'=>∃r1 r2,e = .returned (.agg #[r1,r2])/\∃h,w.heap.size<=h/\h<=w'.heap.size/\fW w.heap.size h w' r1 (s.shade k).1/\fW h w'.heap.size w' r2 (s.shade k).2/\Ext w w':=by
 obtain ⟨q,n,x0,hq,q9,d3,d4,q8,d5⟩:=ho.at hk;obtain ⟨a1,c1,a2,c2,a3,c3,rfl,-,h5,-,h1,h2,h3⟩:=hv.form;have d1:=h3.cap;have i8:=h3.le;have j0:=h2.le;have b5:=h2.cap;obtain ⟨b,h0,rfl,i5,i6,h4⟩:=h3.at hk (by decide)
 obtain ⟨f,hf⟩:∃f,s.st k=f:=⟨_,rfl⟩
 obtain ⟨g,hg⟩:∃f,s.en k=f:=⟨_,rfl⟩
 have bw:b<w.heap.size:=by omega
 have q3:w.rangeAt b (h0+k*26) ((aRc 26).map fun j=>.int .i64 (s.F (k*26+j))):=by
  intro j v hj;obtain ⟨h1,h2⟩:=aQq.1 hj;simp only [aR7,aUf] at h1;simp only [aU6,aT6] at h2;subst h2;exact h4 j h1
 change w.rangeAt b (h0+k*26) [(s.st k 0),(s.st k 1),(s.st k 2),(s.st k 3),(s.st k 4),(s.st k 5),(s.st k 6),(s.st k 7),(s.st k 8),(s.st k 9),(s.st k 10),(s.st k 11),(s.en k 0),(s.en k 1),(s.en k 2),(s.en k 3),(s.en k 4),(s.en k 5),(s.en k 6),(s.en k 7),(s.en k 8),(s.en k 9),(s.en k 10),(s.en k 11),(s.sh k),(s.rt k)] at q3;simp only [hf,hg,x0,q9] at q3;have h6:=Scn.shade_at x0 hq q9;rw [hf] at h6 q8;have h8:=ho.prg _ (aQ8 hq);have z7:=hsm _ (aQ8 hq);have h9:=ho.t;have H1:=hid h1;have H2:=hid h2;have x8:=hid q3;have a0:=hid h5;have c4:=hid (show ∀W:World,Ext w W->cN lo hi W (.agg #[s.t.log,.slice a1 s.t.px.length c1]) s.t from fun W x=>⟨_,rfl,h5,(h1.shut).ext hh x⟩);have x4:=hid h8;have q4:=hid z7;have b3:=hid h9;have b0:=hid q8;have b1:=hid h6;have x2:Ext w ((w.alloc (.cells (sA_ s a1 c1 a2 c2 (some ⟨b,h0,none⟩) c3) 40)).alloc (.cells #[.slice none 0 0,.slice none 0 0] 91)):=X_;have bS:=(aQx w 40 (sL_ s a1 c1 a2 c2 (some ⟨b,h0,none⟩) c3)).ext (show Ext (w.alloc (.cells (sA_ s a1 c1 a2 c2 (some ⟨b,h0,none⟩) c3) 40)) ((w.alloc (.cells (sA_ s a1 c1 a2 c2 (some ⟨b,h0,none⟩) c3) 40)).alloc (.cells #[.slice none 0 0,.slice none 0 0] 91)) from X_)
 have bH:Blk ((w.alloc (.cells (sA_ s a1 c1 a2 c2 (some ⟨b,h0,none⟩) c3) 40)).alloc (.cells #[.slice none 0 0,.slice none 0 0] 91)) (w.heap.size+1) 91 [.slice none 0 0,.slice none 0 0]:=by
  have h:=aQx (w.alloc (.cells (sA_ s a1 c1 a2 c2 (some ⟨b,h0,none⟩) c3) 40)) 91 [.slice none 0 0,.slice none 0 0];rw [aQp] at h;exact h
 have z2:((w.alloc (.cells (sA_ s a1 c1 a2 c2 (some ⟨b,h0,none⟩) c3) 40)).alloc (.cells #[.slice none 0 0,.slice none 0 0] 91)).heap.size=w.heap.size+2:=by simp
 clear hv h1 h2 h3 q3 h8 z7 h9 q8 d5 h6 x0 q9 h4 hf hg h5;go_enter func59,ntmps59;go_upto_region 1 with fail
 obtain ⟨W0,q6⟩:∃W0,((w.alloc (.cells (sA_ s a1 c1 a2 c2 (some ⟨b,h0,none⟩) c3) 40)).alloc (.cells #[.slice none 0 0,.slice none 0 0] 91))=W0:=⟨_,rfl⟩
 rw [q6] at x2 bS bH z2;rw [q6];clear q6;have z1:=hid x2;have HS:=hid bS;have HH:=hid bH;have Z2:=hid z2;have z4:W0.rangeAt b (h0+k*26) [(f 0),(f 1),(f 2),(f 3),(f 4),(f 5),(f 6),(f 7),(f 8),(f 9),(f 10),(f 11),(g 0),(g 1),(g 2),(g 3),(g 4),(g 5),(g 6),(g 7),(g 8),(g 9),(g 10),(g 11),(q:Nat),(n:Nat)]:=fun j v hj=>(x2.cells.1 b _ bw).trans (x8 j v hj);have x3:=hid z4;have b6:=bS.cell 10 rfl;have ls:=bS.lt
 have lb:b<W0.heap.size:=by omega
 clear x2 bS bH z2 z4;go_upto_region 2 with (first|(show wpList _ _ _ [_,_,_] _ _;refine wpList_load_mid rfl _ _ rfl b (h0+k*26) rfl [(f 0),(f 1),(f 2),(f 3),(f 4),(f 5),(f 6),(f 7),(f 8),(f 9),(f 10),(f 11),(g 0),(g 1),(g 2),(g 3),(g 4),(g 5),(g 6),(g 7),(g 8),(g 9),(g 10),(g 11),(q:Nat),(n:Nat)] _ x3 underlying127 rfl iG ?_)|(show wpList _ _ _ [_] _ _;refine dI _ _ _ rfl 127 (.tmp 5) (.tmp 17) rfl rfl #[(f 0),(f 1),(f 2),(f 3),(f 4),(f 5),(f 6),(f 7),(f 8),(f 9),(f 10),(f 11),(g 0),(g 1),(g 2),(g 3),(g 4),(g 5),(g 6),(g 7),(g 8),(g 9),(g 10),(g 11),(q:Nat),(n:Nat)] W0.heap.size rfl rfl rfl (by kernel_rfl) (by kernel_rfl) (by kernel_rfl) ?_));have xA:Ext W0 (W0.alloc (.cells #[(f 0),(f 1),(f 2),(f 3),(f 4),(f 5),(f 6),(f 7),(f 8),(f 9),(f 10),(f 11),(g 0),(g 1),(g 2),(g 3),(g 4),(g 5),(g 6),(g 7),(g 8),(g 9),(g 10),(g 11),(q:Nat),(n:Nat)] 127)):=X_;have bA:=aQx W0 127 [(f 0),(f 1),(f 2),(f 3),(f 4),(f 5),(f 6),(f 7),(f 8),(f 9),(f 10),(f 11),(g 0),(g 1),(g 2),(g 3),(g 4),(g 5),(g 6),(g 7),(g 8),(g 9),(g 10),(g 11),(q:Nat),(n:Nat)]
 obtain ⟨A,hA⟩:∃A,W0.heap.size=A:=⟨_,rfl⟩
 obtain ⟨W1,z3⟩:∃W1,W0.alloc (.cells #[(f 0),(f 1),(f 2),(f 3),(f 4),(f 5),(f 6),(f 7),(f 8),(f 9),(f 10),(f 11),(g 0),(g 1),(g 2),(g 3),(g 4),(g 5),(g 6),(g 7),(g 8),(g 9),(g 10),(g 11),(q:Nat),(n:Nat)] 127)=W1:=⟨_,rfl⟩
 rw [z3] at xA bA ⊢;rw [hA] at bA ls lb ⊢;have X1:=hid (z1.trans xA);have S1:=HS.ext xA;have z0:=hid S1;have x9:=hid (HH.ext xA);have x1:=hid bA;have ZA:=hid (show w.heap.size+2<=A by have:=Z2.out;omega);have d9:=S1.cell 9 rfl;have g3:=S1.lt;have b9:=bA.cell 24 rfl;have lA:=bA.lt;obtain ⟨b2,g5,na,nc,ga,gc,rfl,d0,c9,k1,k2,hR⟩:=H2.at hq X1 hh;have HR:=hid hR;clear z3 hA xA bA S1 hR b6 ls lb HS HH z1 x3 x8;go_wp2_with fail;refine (aCd lo hi _ (s.ps[q]'hq) _ HR (aQw hh X1.size) x4 q4.1 q4.2.2).mono ?_;rintro e w5 ⟨u,rfl,R5,x5⟩
 obtain ⟨K,hK⟩:∃K,(s.ps[q]'hq).code=K:=⟨_,rfl⟩
 have y9:=hid (show K.small by rw [<-hK];exact ⟨by have:=nX (Prg.chkB_K x4);omega,by show ((s.ps[q]'hq).gs.map (·.name)).length<=1048576;rw [aR7];exact q4.2.2⟩);have y8:=hid hK;rw [hK] at R5;obtain ⟨a5,c5,a6,c6,rfl,-,-⟩:=R5.form;have y5:Ext w5 (w5.alloc (.cells #[.slice a5 K.xs.length c5,.slice a6 K.ls.length c6] 163)):=X_;have bC:=aQx w5 163 [.slice a5 K.xs.length c5,.slice a6 K.ls.length c6];have y0:=hid (R5.ext (aQo _) y5);have X5:=hid (X1.trans (x5.trans y5));have S5:=z0.ext (x5.trans y5);have g8:=hid S5;have y4:=hid (x9.ext (x5.trans y5));have A5:=x1.ext (x5.trans y5);have g7:=hid A5;have z8:=hid bC;have z5:=(x5.trans y5).size;have g6:=y5.size;have j2:=x5.size;have d7:=S5.cell 7 rfl;have d8:=S5.cell 8 rfl;have g4:=S5.lt;obtain ⟨e0,e1,e2,e3,e4,e5,e6,e7,e8,e9,b7,b8⟩:=A5.q12;have c0:=A5.cell 25 rfl;have d6:=A5.lt;have ZF:=hid (show w.heap.size+2<=(w5.alloc (.cells #[.slice a5 K.xs.length c5,.slice a6 K.ls.length c6] 163)).heap.size by have:=ZA.out;omega);clear R5 x5 y5 bC S5 A5 d9 g3 b9 lA k1 k2 hK z0 x9 x1 HR;go_wp2_with fail;refine (aEf lo hi f b0 n ⟨d3,d4⟩ _ s.t _ (c4.out _ X5) (aQw hh X5.size) b3).mono ?_;rintro e w6 ⟨gv,rfl,R6,x6⟩
 obtain ⟨g1,g2,hg⟩:∃g:Grd,mY f n s.t=g/\True:=⟨_,rfl,trivial⟩
 have y3:=hid g2;rw [g2] at R6;obtain ⟨a7,c7,a8,c8,rfl⟩:=Grd.R.formS R6;have y6:Ext w6 (w6.alloc (.cells #[g1.n,.slice a7 g1.m c7,g1.tm,g1.t.log,.slice a8 g1.t.px.length c8] 168)):=X_;have bG:=aQx w6 168 [g1.n,.slice a7 g1.m c7,g1.tm,g1.t.log,.slice a8 g1.t.px.length c8];have y2:=hid (R6.ext (aQo _) y6);have X6:=hid (X5.trans (x6.trans y6));have y7:=hid (y4.ext (x6.trans y6));have B6:=z8.ext (x6.trans y6);have y1:=hid (y0.ext (by have:=g6;omega) (x6.trans y6));have z6:=(x6.trans y6).size;have j1:=y6.size;obtain ⟨f0,f1⟩:=B6.q2;have g0:=B6.lt;obtain ⟨i0,i1,i2,i3,i4⟩:=bG.q5;have lG:=bG.lt;clear R6 x6 y6 bG B6 hg g2 d7 d8 g4 e0 e1 e2 e3 e4 e5 e6 e7 e8 e9 b7 b8 c0 d6;go_wp2_with fail
 have hS:∃X Y bb,K.shade g1=(X,Y,bb):=⟨_,_,_,rfl⟩
 obtain ⟨X,Y,bb,q7⟩:=hS
 have h7:(s.shade k).1=X/\(s.shade k).2=Y:=by
  rw [b1,y8,y3,q7];exact ⟨rfl,rfl⟩
 have HE:=hid h7;have b4:=hid q7;clear q7 h7;refine (xB _ _ _ _ _ _ K g1 _ b4 y1 (by omega) y2 (by omega) y9).mono ?_;rintro e w7 ⟨r1,r2,rfl,h,i7,d2,O1,O2,x7⟩;obtain ⟨ra,rc,rfl⟩:=O1.form;obtain ⟨sa,sc,rfl⟩:=O2.form;have B7:=y7.ext x7;have z9:=hid B7;have X7:=hid (X6.trans x7);have a4:=hid O1;have a9:=hid O2;obtain ⟨p0,p1⟩:=B7.q2;have q0:=B7.free 0;have q1:=B7.free 1;have i9:=B7.lt;clear B7 O1 O2 x7 f0 f1 g0 i0 i1 i2 i3 i4 lG;go_wp2;have bF:=(z9.set 0 (.slice ra X.length rc)).set 1 (.slice sa Y.length sc);refine aCa rfl rfl bF _ underlying91 rfl aK9 rfl ?_;have g9:=ZF.out;refine ⟨_,_,rfl,h,by omega,by rw [aSc,aSc];exact d2,?_,?_,?_⟩
 ·rw [HE.1]
  exact ((a4.setLow (p:=⟨w.heap.size+1,0,none⟩) (by simp only;omega) _).setLow (p:=⟨w.heap.size+1,1,none⟩) (by simp only;omega) _).low' (by omega)
 ·rw [HE.2,aSc,aSc]
  exact (a9.setLow (p:=⟨w.heap.size+1,0,none⟩) (by simp only;omega) _).setLow (p:=⟨w.heap.size+1,1,none⟩) (by simp only;omega) _
 ·exact aQ6 (aQ6 X7 (by simp only;omega) _) (by simp only;omega) _
theorem Scn.R.formV {s:Scn} (h:s.R lo hi w v):∃a1 c1 a2 c2 a3 c3,v = .agg #[s.c.w,s.c.h,s.c.zoom,s.c.near,.bool s.c.deep,s.c.lens,s.c.focus,s.t.log,.slice a1 s.t.px.length c1,.slice a2 s.ps.length c2,.slice a3 s.m c3,s.side]:=by
 obtain ⟨a1,c1,a2,c2,a3,c3,e,_⟩:=h.form;exact ⟨a1,c1,a2,c2,a3,c3,e⟩
def rZ (s:Scn) (lo:Nat) (w:World) (v:Value) (j:Nat):Prop:=∃us:List (Value×Value),us.length=j/\aF nY lo 91 2 w v us/\∀k u,us[k]?=some u->aB lo w u.1 (s.shade k).1/\aB lo w u.2 (s.shade k).2
theorem rZ.ext {s:Scn} (h:rZ s lo w v j) (x:Ext w w'):rZ s lo w' v j:=by
 obtain ⟨us,h1,h2,h3⟩:=h;exact ⟨us,h1,h2.ext x,fun k u hu=>⟨(h3 k u hu).1.ext x,(h3 k u hu).2.ext x⟩⟩
theorem rZ.low {s:Scn} (h:rZ s lo w v j) (hl:lo'<=lo):rZ s lo' w v j:=by
 obtain ⟨us,h1,h2,h3⟩:=h;exact ⟨us,h1,h2.low hl,fun k u hu=>⟨(h3 k u hu).1.low hl,(h3 k u hu).2.low hl⟩⟩
theorem aB.grownS {r:Value} {us:List (Value×Value)} (h:aB lo w r xs) (ho:aF nY lo' 91 2 w v us) (hg:w.grownBy w' v.ownBlock):aB lo w' r xs:=
 h.grown hg fun k hk e=>by
  obtain ⟨c,hc⟩:=h.block hk;obtain ⟨_,c',hc'⟩:=aF.rowF ho k e.symm;rw [hc] at hc';simp only [aQr,aR0] at hc';exact absurd hc'.2.1 (by decide)
theorem rZ.push {s:Scn} {v' r1 r2:Value} {us:List (Value×Value)} (h1:us.length=j) (h2:aF nY lo 91 2 w v us) (h3:∀k u,us[k]?=some u->aB lo w u.1 (s.shade k).1/\aB lo w u.2 (s.shade k).2)
  (hr1:aB lo w r1 (s.shade j).1) (hr2:aB lo w r2 (s.shade j).2) (hg:w.grownBy w' v.ownBlock) (hown:aF nY lo 91 2 w' v' (us++[(r1,r2)])):rZ s lo w' v' (j+1):=by
 refine ⟨us++[(r1,r2)],by simp [h1],hown,fun k u hu=>?_⟩
 rcases aRy k us.length with hk|hk
 ·rw [aR2 hk] at hu
  exact ⟨(h3 k u hu).1.grownS h2 hg,(h3 k u hu).2.grownS h2 hg⟩
 ·rw [aRs hk] at hu
  have h0:k - us.length=0:=by
   have:=(aQq.1 hu).1;simp at this;omega
  rw [h0] at hu
  obtain rfl:(r1,r2)=u:=by simpa using hu
  obtain rfl:k=j:=by omega
  exact ⟨hr1.grownS h2 hg,hr2.grownS h2 hg⟩
theorem aJa:(Tryz.prog.info? 91).map (fun i=>(i.zero,i.size,i.bytes))=some (some (.agg #[.slice none 0 0,.slice none 0 0]),2,48):=by kernel_rfl
theorem aF.empty {α : Type} (cs : α->List Value) (hl:lo<=g) (hg:w.heap[g]?=some (.cells #[] e (0,0))):aF cs lo e sz w (.slice (some ⟨g,0,none⟩) 0 0) []:=
 ⟨by simp,.inr ⟨g,0,#[],rfl,hl,hg,aQo _,by unfold maxLen;omega,by simp,by simp⟩⟩
theorem zJ (s:Scn) (lo hi:Nat) (v:Value) (w:World) (hv:s.R lo hi w v) (hh:hi<=w.heap.size) (ho:s.Ok) (hsm:s.small) :
  Calls aQt 53 #[v] w fun e w'=>∃r,e = .returned r/\rZ s w.heap.size w' r s.m/\Ext w w':=by
 have HV:=hid hv;have x2:=ho.m;obtain ⟨a1,c1,a2,c2,a3,c3,rfl⟩:=hv.formV;have q3:=hid hsm;have HO:=hid ho;have x0:Ext w (w.alloc (.cells (sA_ s a1 c1 a2 c2 a3 c3) 40)):=X_;have bS:=aQx w 40 (sL_ s a1 c1 a2 c2 a3 c3)
 obtain ⟨W0,h3⟩:∃W0,w.alloc (.cells (sA_ s a1 c1 a2 c2 a3 c3) 40)=W0:=⟨_,rfl⟩
 have bS:Blk W0 w.heap.size 40 (sL_ s a1 c1 a2 c2 a3 c3):=h3▸bS;rw [h3] at x0;have h4:=hid x0;have q0:=hid bS;have q5:=hid h3;have z0:w.heap.size<W0.heap.size:=bS.lt;have s0:=rZ.ext (j:=0) (s:=s) (lo:=W0.heap.size) (v:=.slice (some ⟨W0.heap.size,0,none⟩) 0 0) ⟨[],rfl,aF.empty nY (aQo _) (aQx W0 91 []),fun k u hu=>by simp at hu⟩ (aQy _);have S0:=hid s0;clear hv ho hsm x0 bS h3 s0;go_enter func53,ntmps53;go_upto_region 1 with fail;rw [q5];have h5:=q0.cell 10 rfl;go_wp2_with fail;clear h5
 go_loopw [3,9] (fun r i wr=>∃k:Nat,k<=s.m/\i = .int .i64 (k:Nat)/\rZ s W0.heap.size wr r k/\Ext W0 wr) (fun _ i _=>s.m - (intOf i).toNat)
 case atStart=>exact ⟨0,by omega,rfl,S0,X_⟩
 case round=>
  obtain ⟨k,hk,rfl,hs,hx⟩:=hrel;have HX:=hid hx;have HS:=hid hs
  rcases aRy k s.m with hlt|hge
  ·have b1:=q0.ext hx
   obtain ⟨c0,c1,c2,c3,c4,c5,c6,c7,c8,c9,h5,q7⟩:=b1.q12;have zr:=HX.size;clear b1 hx hs;go_wp2_with fail;refine (aGm s lo hi _ k _ (HV.ext hh (h4.trans HX)) (aQw hh (h4.trans HX).size) HO q3 hlt).mono ?_;rintro e w1 ⟨r1,r2,rfl,h,h1,h2,i1,i2,x1⟩;obtain ⟨us,u1,u2,u3⟩:=HS.ext x1;obtain ⟨ra,rc,rfl,x3⟩:=u2.form;have o1:aB W0.heap.size w1 r1 (s.shade k).1:=i1.1.low (by omega);have o2:aB W0.heap.size w1 r2 (s.shade k).2:=i2.1.low (by omega);obtain ⟨h6,h8,rfl,-⟩:=o1.form;obtain ⟨h7,h9,rfl,-⟩:=o2.form;have y1:Ext w1 (w1.alloc (.cells #[.slice h6 (s.shade k).1.length h8,.slice h7 (s.shade k).2.length h9] 91)):=X_;have B1:=aQx w1 91 [.slice h6 (s.shade k).1.length h8,.slice h7 (s.shade k).2.length h9];have zw:=x1.size;have q6:=hid (HX.trans (x1.trans y1));have HU:=hid (u2.ext y1);have q1:=hid u3;have q4:=hid u1;have O1:=hid (o1.ext y1);have O2:=hid (o2.ext y1);have Y1:=hid y1;have q2:=hid B1
   have q9:us.length<1000000:=by omega
   clear u1 u2 u3 o1 o2 i1 i2 x1 y1 B1 c0 c1 c2 c3 c4 c5 c6 c7 c8 c9 h5 q7 HS
   go_wp2_with (refine dW nY 91 2 48 _ _ rfl _ _ 83 rfl underlying83 aJa rfl (by decide) (by decide) (fun _=>rfl) W0.heap.size (.slice ra us.length rc) us rfl HU (.slice h6 (s.shade k).1.length h8,.slice h7 (s.shade k).2.length h9) w1.heap.size rfl (fun j hj=>(q2.cell j (aQ0 hj)).trans (aQ0 hj).symm) (fun u hu=>by
    simp only [nY,aRb,aQ5,or_false] at hu
    rcases hu with rfl|rfl <;> rfl) q9 (by rw [aQp];omega) ?_)
   intro v2 w2 h0 hg;have P:=hid (rZ.push q4 HU (fun k u hu=>⟨(q1 k u hu).1.ext Y1,(q1 k u hu).2.ext Y1⟩) O1 O2 hg h0);have X2:=hid (q6.grown hg (fun b hb=>(HU.lt b hb).1));clear h0 hg;go_wp2;go_roundw
   case rel=>exact ⟨k+1,by omega,by go_num,P,X2⟩
   case measure=>simp [intOf];omega
  ·obtain rfl:k=s.m:=by omega
   have q8:=hid (hs.low (aTx z0));have X2:=hid (h4.trans hx);clear hs hx HX HS;go_wp2;go_ret;exact ⟨_,rfl,q8.out,X2⟩
def Scn.allH (s:Scn) (p:Smp):List aP:=(aRc s.m).flatMap fun k=>s.hits k p
def Scn.seen (s:Scn) (p:Smp):List aP:=fK [] (s.allH p)
theorem aHr (A B C P:V3) (k c col al:Int):(aH3 A B C P k c col al).length<=1:=by
 unfold aH3
 repeat' split
 all_goals simp
theorem aLa (c:Cam) (f:Nat->Int) (n:Nat) (s:Smp) (k:Int) (cols als:List Int) (u v:Nat):(zW c f n s k cols als u v).length<=2:=by
 unfold zW
 split
 ·rw [aRg]
  exact Nat.add_le_add (aHr _ _ _ _ _ _ _ _) (aHr _ _ _ _ _ _ _ _)
 ·simp
theorem aJb (c:Cam) (f:Nat->Int) (n:Nat) (s:Smp) (k:Int) (cols als:List Int) (q:Nat):(qE c f n s k cols als q).length<=2*q:=by
 induction q with
 | zero=>simp [qE]
 | succ q ih=>
  rw [aCz,aRg];have:=aLa c f n s k cols als (q % n) (q / n);omega
theorem Scn.Ok.hits_le {s:Scn} (ho:s.Ok) (p:Smp) (hk:k<s.m):(s.hits k p).length<=128:=by
 obtain ⟨q,n,-,-,h3,h4,h5,-,-⟩:=ho.at hk;unfold Scn.hits tN;rw [h3,aRh];have h1:=aJb s.c (aY (s.st k) (s.en k) p.t) n p (k:Nat) (s.shade k).1 (s.shade k).2 (n*n);have h2:n*n<=8*8:=aRq h5 h5;omega
def Scn.seenTo (s:Scn) (p:Smp) (j:Nat):List aP:=fK [] ((aRc j).flatMap fun k=>s.hits k p)
theorem Scn.seenTo_succ (s:Scn) (p:Smp) (j:Nat):s.seenTo p (j+1)=fK (s.seenTo p j) (s.hits j p):=by
 unfold Scn.seenTo;rw [aS3,aR1,pN];simp
theorem Scn.Ok.seenTo_le {s:Scn} (ho:s.Ok) (p:Smp) (hj:j<=s.m):(s.seenTo p j).length<=128*j:=by
 induction j with
 | zero=>simp [Scn.seenTo,fK]
 | succ j ih=>
  rw [Scn.seenTo_succ,kJ];have:=ho.hits_le p (show j<s.m by omega);have:=ih (by omega);omega
theorem uG {l xs:List aP} {f:aP} (h:xs[j]?=some f):fK l (xs.take (j+1))=sM f (fK l (xs.take j)):=by
 obtain ⟨hj,rfl⟩:=aQq.1 h;rw [aRk hj,pN]
 rfl
theorem aF.keptBlk {α : Type} {cs : α->List Value} {xs:List α} (h:aF cs lo e sz w v xs) (s:∀k,v.ownBlock=some k->w'.heap[k]?=w.heap[k]?):aF cs lo e sz w' v xs:=by
 refine ⟨h.1,?_⟩
 rcases h.2 with hn|⟨g,cap,cur,hv,hb,hg,r⟩
 ·exact .inl hn
 ·exact .inr ⟨g,cap,cur,hv,hb,(s g (by rw [hv];rfl)).trans hg,r⟩
theorem aJc (s:Scn) (lo lo2 hi:Nat) (v u:Value) (p:Smp) (w:World) (hv:s.R lo hi w v) (hh:hi<=w.heap.size) (ho:s.Ok) (hp:p.okB s.c=true) (hu:rZ s lo2 w u s.m) :
  Calls aQt 65 #[v,.agg #[p.x,p.y,p.t,p.lx,p.ly],u] w fun e w'=>∃r,e = .returned r/\aF aP.cs w.heap.size 95 5 w' r (s.seen p)/\Ext w w':=by
 have HV:=hid hv;have a6:=ho.m;obtain ⟨a1,c1,a2,c2,a3,c3,rfl⟩:=hv.formV;have HO:=hid ho;have HP:=hid hp;have HU:=hid hu;obtain ⟨us,q3,x3,z6⟩:=hu;obtain ⟨ua,uc,rfl,-⟩:=x3.form;have x6:=hid q3;have y4:=hid x3;have y5:=hid z6;have x0:Ext w ((w.alloc (.cells (sA_ s a1 c1 a2 c2 a3 c3) 40)).alloc (.cells #[p.x,p.y,p.t,p.lx,p.ly] 42)):=X_;have bS:=(aQx w 40 (sL_ s a1 c1 a2 c2 a3 c3)).ext (show Ext _ ((w.alloc (.cells (sA_ s a1 c1 a2 c2 a3 c3) 40)).alloc (.cells #[p.x,p.y,p.t,p.lx,p.ly] 42)) from X_);have bP:=aQx (w.alloc (.cells (sA_ s a1 c1 a2 c2 a3 c3) 40)) 42 [p.x,p.y,p.t,p.lx,p.ly];rw [aQp] at bP
 obtain ⟨W0,q0⟩:∃W0,(w.alloc (.cells (sA_ s a1 c1 a2 c2 a3 c3) 40)).alloc (.cells #[p.x,p.y,p.t,p.lx,p.ly] 42)=W0:=⟨_,rfl⟩
 rw [q0] at x0;have bS:Blk W0 w.heap.size 40 (sL_ s a1 c1 a2 c2 a3 c3):=q0▸bS;have bP:Blk W0 (w.heap.size+1) 42 [p.x,p.y,p.t,p.lx,p.ly]:=q0▸bP;have x7:=hid x0;have x5:=hid bS;have y0:=hid bP;have y7:=hid q0;have z0:w.heap.size+1<W0.heap.size:=bP.lt;clear hv ho hp x3 z6 q3 x0 bS bP q0;go_enter func65,ntmps65;go_upto_region 1 with fail;rw [y7];go_wp2_with fail;refine (xH _).mono ?_;rintro e w1 ⟨rfl,o1,x1⟩;have q1:=hid o1;have h9:=hid x1;have q7:=(x5.ext x1).cell 10 rfl;have z1:=x1.size;clear o1 x1;go_wp2_with fail;clear q7
 go_loopw [15] (fun i wr=>∃(k:Nat) (vv:Value),k<=s.m/\i = .int .i64 (k:Nat)/\aB7 W0.heap.size wr W0.heap.size (s.seenTo p k) vv/\Ext W0 wr) (fun i _=>s.m - (intOf i).toNat)
 case atStart=>exact ⟨0,_,by omega,rfl,q1,h9⟩
 case round=>
  obtain ⟨WA,rfl⟩:∃W,W=wr:=⟨_,rfl⟩
  obtain ⟨k,vv,hk,rfl,h8,hx⟩:=hrel;have HX:=hid hx;have HR:=hid h8;have zr:=hx.size
  rcases aRy k s.m with hlt|hge
  ·have b1:=x5.ext hx
   obtain ⟨c0,c1,c2,c3,c4,c5,c6,c7,c8,c9,q7,y8⟩:=b1.q12;have b2:=y0.ext hx;obtain ⟨d0,d1,d2,d3,d4⟩:=b2.q5;have xw:Ext w WA:=x7.trans hx;have XW:=hid xw
   obtain ⟨y,hy⟩:∃y,us[k]?=some y:=⟨_,aQ0 (by have:=x6.out;omega)⟩
   obtain ⟨y1,y2⟩:=y;obtain ⟨gu,b3,he,-,a0,q8,y9,-,h0⟩:=aF.at (aF.ext y4 xw) (fun _=>rfl) hy;simp only [aRi,true_and] at he;obtain ⟨rfl,rfl⟩:=he;obtain ⟨i1,i2⟩:=y5 k _ hy;have j1:aB lo2 WA y1 (s.shade k).1:=i1.ext xw;have j2:aB lo2 WA y2 (s.shade k).2:=i2.ext xw;clear i1 i2;obtain ⟨e1,f1,rfl,-⟩:=j1.form;obtain ⟨e2,f2,rfl,-⟩:=j2.form;have g0:=h0 0 (by decide);have g1:=h0 1 (by decide);simp only [nY,aSa,aQm,aQn] at g0 g1;have I1:=hid j1;have I2:=hid j2;obtain ⟨q,n,-,-,h3,h4,h5,-,-⟩:=HO.at hlt;have h7:=HO.shade hlt;rw [h3,aRh] at h7;have h6:=hid h7;have q6:=hid h3;have q3:=x6.out
   have a7:((k:Nat):Int)<(us.length:Nat):=by omega
   have a9:s.m<=5:=a6;clear b1 b2 hx h8 xw h0 hy j1 j2 h7 h3 q3;go_wp2_with fail;refine aJ [([0,1,2,3,4,5,6,9],7),([],8)] 99 (fun w'=>∃d,w'=fU (C3f w.heap.size (w.heap.size+1) gu) _ d) (by kernel_rfl) (by kernel_rfl) (aTh _ _) ?_;refine sc_ fun K hK=>?_;go_wp2_with fail
   have eh:tN s.c (aY (s.st k) (s.en k) p.t) n p (k:Nat) (s.shade k).1 (s.shade k).2=s.hits k p:=by unfold Scn.hits;rw [q6,aRh]
   refine (aI6 s lo hi _ k p n (s.shade k).1 (s.shade k).2 _ _ _ (HV.ext hh (XW.trans X_)) (aQw hh (XW.trans (aRr (aQy _))).size) hlt q6 ⟨h4,h5⟩ HP ((I1.ext (show Ext WA WA.drew from aRr (aQy _))).ints.wide (aR8 _) (aQo _)) ((I2.ext (show Ext WA WA.drew from aRr (aQy _))).ints.wide (aR8 _) (aQo _)) h6.1 h6.2).mono ?_;rintro e w2 ⟨r,rfl,hr,x2⟩;rw [eh] at hr
   obtain ⟨L,hL⟩:∃L,s.hits k p=L:=⟨_,rfl⟩
   rw [hL] at hr;have hr:aF aP.cs WA.heap.size 95 5 w2 r L:=hr;have HL:=hid hL;have z2:L.length<=128:=hL▸HO.out.hits_le p hlt;have a4:=HO.seenTo_le p (aTx hlt)
   obtain ⟨F0,hF⟩:∃F,s.seenTo p k=F:=⟨_,rfl⟩
   rw [hF] at a4;have HF:=hid hF;have y3:=hid (hF▸HR.out);obtain ⟨ra,rc,rfl,-⟩:=hr.form;have Y2:=hid (aQu (w:=WA) X_ x2);have q2:=hid hr;have a8:=HR.box.lt;have zy:=Y2.size;have z7:=HR.row.lt;have y6:=hid z7
   have b4:w.heap.size<WA.heap.size:=by omega
   clear x2 hr hL hF eh z7 q6 h6 I1 I2 HR;go_wp2_with fail;refine hK _ _ (.inr (aRx fun a ha=>Y2.block (by rcases ha with ha|ha|ha <;> rw [ha] <;> omega))) ?_;clear hK K;refine sc_ fun K hK=>?_;go_wp2_with fail;go_wp2_with fail;refine hK _ _ (.inr (aRx fun a ha=>Y2.block (by rcases ha with ha|ha|ha <;> rw [ha] <;> omega))) ?_;clear hK K;refine aQ ?_;clear c0 c1 c2 c3 c4 c5 c6 c7 c8 c9 q7 y8 d0 d1 d2 d3 d4 g0 g1;go_wp2_with fail
   go_loopw [27] (fun j wr=>∃(jn:Nat) (vq:Value),jn<=L.length/\j = .int .i64 (jn:Nat)/\aB7 W0.heap.size wr W0.heap.size (fK F0 (L.take jn)) vq/\aF aP.cs WA.heap.size 95 5 wr (.slice ra L.length rc) L/\(∀b,(aR4 ra L.length rc).ownBlock=some b->vq.ownBlock≠some b)/\Ext W0 wr) (fun j _=>L.length - (intOf j).toNat)
   case atStart=>exact ⟨0,vv,by omega,rfl,y3.ext Y2,q2,fun b hb e=>by
    have h1:=(q2.lt b hb).1;have h2:=(y6 b e).2
    omega,HX.trans Y2⟩
   case round=>
    obtain ⟨jn,vq,hj,rfl,z4,z5,z3,z8⟩:=hrel;have q1:=hid z4;have q4:=hid z5;have x4:=hid z3;have h9:=hid z8;clear z4 z5 z3 z8
    rcases aRy jn L.length with hjl|hjl
    ·obtain ⟨f,hf⟩:∃f,L[jn]?=some f:=⟨_,aQ0 hjl⟩
     obtain ⟨g,b0,he,-,a0,q8,y9,-,h0⟩:=aF.at q4 (fun _=>rfl) hf;simp only [aRi,true_and] at he;obtain ⟨rfl,rfl⟩:=he;have d0:=h0 0 (by decide);have d1:=h0 1 (by decide);have d2:=h0 2 (by decide);have d3:=h0 3 (by decide);have d4:=h0 4 (by decide);simp only [aP.cs,aSa,aQm,aQn] at d0 d1 d2 d3 d4;have z9:=hid hf
     have a5:(fK F0 (L.take jn)).length<=100000:=by
      rw [kJ,aRf];omega
     have zq:=h9.size;clear h0 hf;go_wp2_with fail;refine (aEa (q1.ext (show Ext _ (wr.alloc (.cells #[f.d,f.s,f.c,f.col,f.al] 95)) from X_)) f a5).mono ?_;rintro e w3 ⟨v3,rfl,o3,k3,x9,x8⟩;have q9:WA.heap.size<=g/\g<wr.heap.size:=q4.lt g rfl;have P1:=hid o3;have P2:Hid (Ext W0 w3):=hid (k3.up (h9.trans X_) (aQo _))
     have P3:=hid (q4.keptBlk (w':=w3) (fun b hb=>by
      obtain rfl:g=b:=aSm hb
      exact (x9 g (by rw [aQp];omega) (by omega) (x4 g rfl)).trans (aQ1 (show Ext wr (wr.alloc (.cells #[f.d,f.s,f.c,f.col,f.al] 95)) from X_) q9.2)))
     have P4:Hid (∀b,(aR4 (some ⟨g,0,none⟩) L.length rc).ownBlock=some b->v3.ownBlock≠some b):=hid (fun b hb e=>by
      obtain rfl:g=b:=aSm hb
      rcases x8 g e with h|h
      ·exact x4 g rfl h
      ·rw [aQp] at h
       omega)
     clear o3 k3 x9 x8;go_wp2;go_roundw
     case rel=>exact ⟨jn+1,v3,by omega,by go_num,by rw [uG z9];exact P1,P3,P4,P2⟩
     case measure=>simp [intOf];omega
    ·obtain rfl:jn=L.length:=by omega
     have P1:Hid (aB7 W0.heap.size wr W0.heap.size (s.seenTo p (k+1)) vq):=hid (by
      rw [Scn.seenTo_succ,HF,HL];have:=q1.out;rw [aRo] at this
      exact this)
     go_wp2;go_roundw
     case rel=>exact ⟨k+1,vq,by omega,by go_num,P1,h9⟩
     case measure=>simp [intOf];omega
  ·obtain rfl:k=s.m:=by omega
   have c0:=HR.box.cell 0 rfl;have c1:=HR.box.lt;have X2:=hid (x7.trans hx);have q2:=hid (HR.row.low (show w.heap.size<=W0.heap.size by omega));clear hx h8 HX;go_wp2;go_ret;exact ⟨_,rfl,q2,X2⟩
theorem aAq {l:List aP} {f:aP} (h:l[k]?=some f) {s t p q u:Int} (h0:mT (l.take k)=(s,t)) (h1:t*aO f.al 0 256=p) (h2:p / 256=q) (h3:q*aO f.col 0 256=u):mT (l.take (k+1))=(s+u,t - q):=by
 obtain ⟨hk,rfl⟩:=aQq.1 h;rw [aE0 hk,h0];unfold dM;simp only [h1,h2,h3]
theorem xL (lo:Nat) (v:Value) (fs:List aP) (w:World) (hv:aF aP.cs lo 95 5 w v fs) :
  R_ 40 #[v] w (.int .i64 (rA fs)):=by
 have HV:=hid hv;obtain ⟨a,cap,rfl,h5⟩:=hv.form;clear hv;go_enter func40,ntmps40;go_wp2_with fail
 go_loopw [3,4,10] (fun x y i wr=>∃(k:Nat) (s t:Int),k<=fs.length/\i = .int .i64 (k:Nat)/\x = .int .i64 s/\y = .int .i64 t/\mT (fs.take k)=(s,t)/\Ext w wr) (fun _ _ i _=>fs.length - (intOf i).toNat)
 case atStart=>exact ⟨0,0,65536,by omega,rfl,rfl,rfl,by rw [aU8];rfl,aQy _⟩
 case round=>
  obtain ⟨k,s,t,hk,rfl,rfl,rfl,hl,hx⟩:=hrel;have HX:=hid hx;have hb:=aC0 (fs.take k);rw [hl] at hb;simp only at hb;have HL:=hid hl
  rcases aRy k fs.length with hlt|hge
  ·obtain ⟨f,hf⟩:∃f,fs[k]?=some f:=⟨_,aQ0 hlt⟩
   obtain ⟨g,h3,he,-,h7,h4,h6,-,h0⟩:=aF.at (aF.ext HV.out hx) (fun _=>rfl) hf;simp only [aRi,true_and] at he;obtain ⟨rfl,rfl⟩:=he;have c0:=h0 0 (by decide);have c1:=h0 1 (by decide);have c2:=h0 2 (by decide);have c3:=h0 3 (by decide);have c4:=h0 4 (by decide);simp only [aP.cs,aSa,aQm,aQn] at c0 c1 c2 c3 c4;have HF:=hid hf
   obtain ⟨ca,h1⟩:∃n,aO f.al 0 256=n:=⟨_,rfl⟩
   obtain ⟨cc,h2⟩:∃n,aO f.col 0 256=n:=⟨_,rfl⟩
   have ba:=lI f.al;have bc:=lI f.col;rw [h1] at ba;rw [h2] at bc
   obtain ⟨p,hp⟩:∃n,t*ca=n:=⟨_,rfl⟩
   have bp:0<=p/\p<=t*256:=hp▸⟨aR6 hb.2.1 ba.1,aS1 ba.2 hb.2.1⟩
   obtain ⟨q,hq⟩:∃n,p / 256=n:=⟨_,rfl⟩
   have bq:0<=q/\q<=t:=by omega
   obtain ⟨u,hu⟩:∃n,q*cc=n:=⟨_,rfl⟩
   have bu:0<=u/\u<=q*256:=hu▸⟨aR6 bq.1 bc.1,aS1 bc.2 bq.1⟩;have HN:=hid (aAq (p:=p) (q:=q) (u:=u) HF.out HL.out (by rw [h1];exact hp) hq (by rw [h2];exact hu));have HA:=hid h1;have HC:=hid h2
   have i1 : -9223372036854775808<=p/\p<=9223372036854775807:=by omega
   have i2 : -9223372036854775808<=u/\u<=9223372036854775807:=by omega
   clear hl hx h0 hf h1 h2;go_wp2_with (go_at_call 81;with_reducible first|(refine z_ (cV HA.out _) ?_)|(refine z_ (cV HC.out _) ?_));go_roundw
   case rel=>exact ⟨k+1,s+u,t - q,by omega,by go_num,by go_num,by go_num,HN.out,aQu HX.out X_⟩
   case measure=>simp [intOf];omega
  ·obtain rfl:k=fs.length:=by omega
   have hr:s / 65536=rA fs:=by
    unfold rA;rw [aRo] at hl;rw [hl]
   have HR:=hid hr;clear hl hx;go_wp2;go_ret;exact ⟨cK HR.out,HX.out⟩
theorem nZ (s:Scn) (lo hi:Nat) (v:Value) (p:Smp) (w:World) (hv:s.R lo hi w v) (hh:hi<=w.heap.size) (ho:s.Ok) (hsm:s.small) (hp:p.okB s.c=true) :
  Calls aQt 24 #[v,.agg #[p.x,p.y,p.t,p.lx,p.ly]] w fun e w'=>∃r,e = .returned r/\aF aP.cs w.heap.size 95 5 w' r (s.seen p)/\Ext w w':=by
 have HV:=hid hv;obtain ⟨a1,c1,a2,c2,a3,c3,rfl⟩:=hv.formV;have HO:=hid ho;have h7:=hid hsm;have HP:=hid hp;have q1:=hid (Scn.okB_iff.2 ho);have x0:Ext w ((w.alloc (.cells (sA_ s a1 c1 a2 c2 a3 c3) 40)).alloc (.cells #[p.x,p.y,p.t,p.lx,p.ly] 42)):=X_;have bS:=(aQx w 40 (sL_ s a1 c1 a2 c2 a3 c3)).ext (show Ext _ ((w.alloc (.cells (sA_ s a1 c1 a2 c2 a3 c3) 40)).alloc (.cells #[p.x,p.y,p.t,p.lx,p.ly] 42)) from X_);have bP:=aQx (w.alloc (.cells (sA_ s a1 c1 a2 c2 a3 c3) 40)) 42 [p.x,p.y,p.t,p.lx,p.ly];rw [aQp] at bP
 obtain ⟨W0,h0⟩:∃W0,(w.alloc (.cells (sA_ s a1 c1 a2 c2 a3 c3) 40)).alloc (.cells #[p.x,p.y,p.t,p.lx,p.ly] 42)=W0:=⟨_,rfl⟩
 rw [h0] at x0;have bS:Blk W0 w.heap.size 40 (sL_ s a1 c1 a2 c2 a3 c3):=h0▸bS;have bP:Blk W0 (w.heap.size+1) 42 [p.x,p.y,p.t,p.lx,p.ly]:=h0▸bP;have h1:=hid x0;have h5:=hid bS;have h4:=hid bP;have q2:=hid h0;have z0:=bP.lt;clear hv ho hp hsm x0 bS bP h0;go_enter func24,ntmps24;go_upto_region 1 with fail;rw [q2];have bs:=h5.ext (aQy _);obtain ⟨c0,c1,c2,c3,c4,c5,c6,c7,c8,c9,h2,h3⟩:=bs.q12;have bp:=h4.ext (aQy _);obtain ⟨d0,d1,d2,d3,d4⟩:=bp.q5;have ls:=bs.lt;have lp:=bp.lt;clear bs bp;go_wp2_with fail;refine (kE s lo hi _ _ (HV.ext hh h1) (aQw hh h1.size) h7).mono ?_;rw [q1];rintro e w3 ⟨rfl,x3⟩;have X3:=hid x3;clear x3 ls lp;clear c0 c1 c2 c3 c4 c5 c6 c7 c8 c9 h2 h3 d0 d1 d2 d3 d4;have bs:=h5.ext X3;obtain ⟨c0,c1,c2,c3,c4,c5,c6,c7,c8,c9,h2,h3⟩:=bs.q12;have bp:=h4.ext X3;obtain ⟨d0,d1,d2,d3,d4⟩:=bp.q5;have ls:=bs.lt;have lp:=bp.lt;clear bs bp;go_wp2_with fail;refine (jM s.c p _).mono ?_;rw [HP];rintro e w4 ⟨rfl,x4⟩;have X4:=hid (X3.trans x4);clear x4 ls lp;clear c0 c1 c2 c3 c4 c5 c6 c7 c8 c9 h2 h3 d0 d1 d2 d3 d4;have bs:=h5.ext X4;obtain ⟨c0,c1,c2,c3,c4,c5,c6,c7,c8,c9,h2,h3⟩:=bs.q12;have bp:=h4.ext X4;obtain ⟨d0,d1,d2,d3,d4⟩:=bp.q5;have ls:=bs.lt;have lp:=bp.lt;clear bs bp;go_upto_region 3 with fail;refine aA [([0,1,2],3),([],4),([],5)] 5 w4.heap.size (by kernel_rfl) (by kernel_rfl) ?_;refine st_ fun K hK=>?_;go_wp2_with fail;have xd:Ext w w4.drew:=h1.trans (X4.trans (aRr (aQy _)));refine (zJ s lo hi _ _ (HV.ext hh xd) (aQw hh xd.size) HO h7).mono ?_;rintro e w5 ⟨r,rfl,hr,x5⟩;have y5:Ext w4 w5:=aQu (aRr (aQy _)) x5;obtain ⟨us,h9,h6,h8⟩:=hr;obtain ⟨ra,rc,rfl,-⟩:=h6.form;have HR:Hid (rZ s w4.drew.heap.size w5 (.slice ra us.length rc) s.m):=hid ⟨us,h9,h6,h8⟩;have X5:=hid (h1.trans (X4.trans y5));clear h9 h6 h8 x5 xd;go_wp2_with fail;refine k_ hK ?_;clear hK K;refine st_ fun K hK=>?_;go_wp2_with fail;have CS:=aJc s lo w4.drew.heap.size hi _ _ p w5 (HV.ext hh X5) (aQw hh X5.size) HO HP HR;refine CS.mono ?_;clear CS;rintro e w6 ⟨q,rfl,O6,x6⟩;obtain ⟨ta,tc,rfl,tl⟩:=aF.form O6;have y6:=y5.trans x6;have X6:=hid (X5.trans x6);have q0:=hid O6;clear O6 x6 tl;go_wp2_with fail;refine k_ hK ?_;clear hK K y5 y6;refine st_ fun K hK=>?_;go_wp2_with fail;refine l_ hK ?_;clear hK K;refine aC ?_;go_wp2;go_ret;exact ⟨_,rfl,aF.low q0 X5.size,X6⟩
theorem aJd (r:Int) (w:World):R_ 138 #[r] w (.bool (uE r)):=by
 unfold uE;go_enter func138,ntmps138;go_wp2
 all_goals
  go_ret;exact ⟨by first|rfl|simp [*],X_⟩
theorem gW (f:Nat->Int) (w:World):R_ 137 #[.agg f] w (.bool (qR f)):=by
 have j0:=pD f 0 (by decide);have j1:=pD f 1 (by decide);have j2:=pD f 2 (by decide);have j3:=pD f 3 (by decide);simp only [aYs,aRl,aUl,aTp,aYd,aWg] at j0 j1 j2 j3;have X0:Ext w (w.alloc (.cells f 125)):=X_;go_enter func137,ntmps137;go_wp2_with fail
 obtain ⟨W0,h0⟩:∃W0,(w.alloc (.cells f 125))=W0:=⟨_,rfl⟩
 rw [h0] at X0 ⊢;clear h0
 go_loopw [7] (fun i wr=>∃k:Nat,k<=4/\i = .int .i64 (k:Nat)/\Ext w wr/\(0<k->cU (f 0) (f 1) (f 2)=true)/\(1<k->cU (f 3) (f 4) (f 5)=true)/\(2<k->cU (f 6) (f 7) (f 8)=true)/\(3<k->cU (f 9) (f 10) (f 11)=true)) (fun i _=>4 - (intOf i).toNat)
 case atStart=>exact ⟨0,by omega,rfl,X0,by omega,by omega,by omega,by omega⟩
 case round=>
  obtain ⟨k,hk,rfl,hx,b0,b1,b2,b3⟩:=hrel;have HX:=hid hx;have B0:=hid b0;have B1:=hid b1;have B2:=hid b2;have B3:=hid b3;clear hx b0 b1 b2 b3 X0
  rcases (show k=0\/k=1\/k=2\/k=3\/k=4 by omega) with rfl|rfl|rfl|rfl|rfl
  ·go_wp2_with fail
   refine r_ (dL _) fun w3 x3=>?_;have y3:Ext wr w3:=aQu (show Ext wr (wr.alloc (.cells #[(f 0),(f 1),(f 2)] 122)) from X_) x3
   cases hb:cU (f 0) (f 1) (f 2)
   ·go_wp2
    go_ret;exact ⟨by rw [eG,hb];simp,HX.trans y3⟩
   ·have HB:=hid hb
    clear hb;go_wp2;go_roundw
    case rel=>exact ⟨1,by omega,by go_num,HX.trans y3,fun _=>HB.out,fun h=>absurd h (by omega),fun h=>absurd h (by omega),fun h=>absurd h (by omega)⟩
    case measure=>simp [intOf]
  ·go_wp2_with fail
   refine r_ (dL _) fun w3 x3=>?_;have y3:Ext wr w3:=aQu (show Ext wr (wr.alloc (.cells #[(f 3),(f 4),(f 5)] 122)) from X_) x3
   cases hb:cU (f 3) (f 4) (f 5)
   ·go_wp2
    go_ret;exact ⟨by rw [eG,hb];simp,HX.trans y3⟩
   ·have HB:=hid hb
    clear hb;go_wp2;go_roundw
    case rel=>exact ⟨2,by omega,by go_num,HX.trans y3,fun h=>B0.out (by omega),fun _=>HB.out,fun h=>absurd h (by omega),fun h=>absurd h (by omega)⟩
    case measure=>simp [intOf]
  ·go_wp2_with fail
   refine r_ (dL _) fun w3 x3=>?_;have y3:Ext wr w3:=aQu (show Ext wr (wr.alloc (.cells #[(f 6),(f 7),(f 8)] 122)) from X_) x3
   cases hb:cU (f 6) (f 7) (f 8)
   ·go_wp2
    go_ret;exact ⟨by rw [eG,hb];simp,HX.trans y3⟩
   ·have HB:=hid hb
    clear hb;go_wp2;go_roundw
    case rel=>exact ⟨3,by omega,by go_num,HX.trans y3,fun h=>B0.out (by omega),fun h=>B1.out (by omega),fun _=>HB.out,fun h=>absurd h (by omega)⟩
    case measure=>simp [intOf]
  ·go_wp2_with fail
   refine r_ (dL _) fun w3 x3=>?_;have y3:Ext wr w3:=aQu (show Ext wr (wr.alloc (.cells #[(f 9),(f 10),(f 11)] 122)) from X_) x3
   cases hb:cU (f 9) (f 10) (f 11)
   ·go_wp2
    go_ret;exact ⟨by rw [eG,hb];simp,HX.trans y3⟩
   ·have HB:=hid hb
    clear hb;go_wp2;go_roundw
    case rel=>exact ⟨4,by omega,by go_num,HX.trans y3,fun h=>B0.out (by omega),fun h=>B1.out (by omega),fun h=>B2.out (by omega),fun _=>HB.out⟩
    case measure=>simp [intOf]
  ·go_wp2
   go_ret;exact ⟨by rw [eG,B0 (by omega),B1 (by omega),B2 (by omega),B3 (by omega)];rfl,HX⟩
theorem pI (f g:Nat->Int) (sh rt:Int) (n:Nat) (w:World):R_ 86 #[.agg #[(f 0),(f 1),(f 2),(f 3),(f 4),(f 5),(f 6),(f 7),(f 8),(f 9),(f 10),(f 11),(g 0),(g 1),(g 2),(g 3),(g 4),(g 5),(g 6),(g 7),(g 8),(g 9),(g 10),(g 11),sh,rt],(n:Nat)] w (.bool (aMy f g sh rt n)):=by
 have q0:=aQx w 127 [(f 0),(f 1),(f 2),(f 3),(f 4),(f 5),(f 6),(f 7),(f 8),(f 9),(f 10),(f 11),(g 0),(g 1),(g 2),(g 3),(g 4),(g 5),(g 6),(g 7),(g 8),(g 9),(g 10),(g 11),sh,rt];have R0:=hid q0;have X0:=hid (show Ext w (w.alloc (.cells #[(f 0),(f 1),(f 2),(f 3),(f 4),(f 5),(f 6),(f 7),(f 8),(f 9),(f 10),(f 11),(g 0),(g 1),(g 2),(g 3),(g 4),(g 5),(g 6),(g 7),(g 8),(g 9),(g 10),(g 11),sh,rt] 127)) from X_);clear q0
 obtain ⟨b1,q5⟩:∃b,qR f=b:=⟨_,rfl⟩
 obtain ⟨b2,q6⟩:∃b,qR g=b:=⟨_,rfl⟩
 obtain ⟨b3,q7⟩:∃b,uE rt=b:=⟨_,rfl⟩
 have C1:∀W:World,R_ 137 #[.agg f] W (.bool b1):=fun W=>q5▸gW f W;have C2:∀W:World,R_ 137 #[.agg g] W (.bool b2):=fun W=>q6▸gW g W;have C3:∀W:World,R_ 138 #[rt] W (.bool b3):=fun W=>q7▸aJd rt W;have H1:=hid C1;have H2:=hid C2;have H3:=hid C3;unfold aMy;rw [q5,q6,q7];clear q5 q6 q7 C1 C2 C3
 cases b1
 case false=>
  go_enter func86,ntmps86;go_wp2_with fail;refine r_ (H1 _) fun w1 x1=>?_;have X1:=hid (X0.trans x1);have R1:=hid (R0.ext x1);clear x1;go_wp2;go_ret;exact ⟨by simp [*],X1⟩
 case true=>
  cases b2
  case false=>
   go_enter func86,ntmps86;go_wp2_with fail;refine r_ (H1 _) fun w1 x1=>?_;have X1:=hid (X0.trans x1);have R1:=hid (R0.ext x1);clear x1;have h2:=R1.cell 12 rfl;have h3:=R1.cell 13 rfl;have h4:=R1.cell 14 rfl;have h5:=R1.cell 15 rfl;have h6:=R1.cell 16 rfl;have h7:=R1.cell 17 rfl;have h8:=R1.cell 18 rfl;have h9:=R1.cell 19 rfl;have q1:=R1.cell 20 rfl;have q2:=R1.cell 21 rfl;have q3:=R1.cell 22 rfl;have q4:=R1.cell 23 rfl;go_wp2_with fail;refine r_ (H2 _) fun w2 x2=>?_;have X2:=hid (X1.trans x2);have R2:=hid (R1.ext x2);clear x2;go_wp2;go_ret;exact ⟨by simp [*],X2⟩
  case true=>
   rcases aXr sh 0 with h0|h0
   ·have g0:decide (0<=sh)=false:=by simp;omega
    go_enter func86,ntmps86;go_wp2_with fail;refine r_ (H1 _) fun w1 x1=>?_;have X1:=hid (X0.trans x1);have R1:=hid (R0.ext x1);clear x1;have h2:=R1.cell 12 rfl;have h3:=R1.cell 13 rfl;have h4:=R1.cell 14 rfl;have h5:=R1.cell 15 rfl;have h6:=R1.cell 16 rfl;have h7:=R1.cell 17 rfl;have h8:=R1.cell 18 rfl;have h9:=R1.cell 19 rfl;have q1:=R1.cell 20 rfl;have q2:=R1.cell 21 rfl;have q3:=R1.cell 22 rfl;have q4:=R1.cell 23 rfl;go_wp2_with fail;refine r_ (H2 _) fun w2 x2=>?_;have X2:=hid (X1.trans x2);have R2:=hid (R1.ext x2);clear x2;have q8:=R2.cell 24 rfl;go_wp2;go_ret;exact ⟨by simp [*],X2⟩
   ·have g0:decide (0<=sh)=true:=by simp;omega
    rcases aXr sh n with h1|h1
    ·have g1:decide (sh<(n:Int))=true:=by simp;omega
     go_enter func86,ntmps86;go_wp2_with fail;refine r_ (H1 _) fun w1 x1=>?_;have X1:=hid (X0.trans x1);have R1:=hid (R0.ext x1);clear x1;have h2:=R1.cell 12 rfl;have h3:=R1.cell 13 rfl;have h4:=R1.cell 14 rfl;have h5:=R1.cell 15 rfl;have h6:=R1.cell 16 rfl;have h7:=R1.cell 17 rfl;have h8:=R1.cell 18 rfl;have h9:=R1.cell 19 rfl;have q1:=R1.cell 20 rfl;have q2:=R1.cell 21 rfl;have q3:=R1.cell 22 rfl;have q4:=R1.cell 23 rfl;go_wp2_with fail;refine r_ (H2 _) fun w2 x2=>?_;have X2:=hid (X1.trans x2);have R2:=hid (R1.ext x2);clear x2;have q8:=R2.cell 24 rfl;have q9:=R2.cell 25 rfl;go_wp2_with fail;refine r_ (H3 _) fun w3 x3=>?_;have X3:=hid (X2.trans x3);have R3:=hid (R2.ext x3);clear x3;go_wp2;go_ret;exact ⟨by simp [*],X3⟩
    ·have g1:decide (sh<(n:Int))=false:=by simp;omega
     go_enter func86,ntmps86;go_wp2_with fail;refine r_ (H1 _) fun w1 x1=>?_;have X1:=hid (X0.trans x1);have R1:=hid (R0.ext x1);clear x1;have h2:=R1.cell 12 rfl;have h3:=R1.cell 13 rfl;have h4:=R1.cell 14 rfl;have h5:=R1.cell 15 rfl;have h6:=R1.cell 16 rfl;have h7:=R1.cell 17 rfl;have h8:=R1.cell 18 rfl;have h9:=R1.cell 19 rfl;have q1:=R1.cell 20 rfl;have q2:=R1.cell 21 rfl;have q3:=R1.cell 22 rfl;have q4:=R1.cell 23 rfl;go_wp2_with fail;refine r_ (H2 _) fun w2 x2=>?_;have X2:=hid (X1.trans x2);have R2:=hid (R1.ext x2);clear x2;have q8:=R2.cell 24 rfl;go_wp2;go_ret;exact ⟨by simp [*],X2⟩
theorem oA {a b d e i j n r:Int} (ha : -1000000<=a/\a<=1000000) (hb : -1000000<=b/\b<=1000000) (hd : -1000000<=d/\d<=1000000) (he : -1000000<=e/\e<=1000000) (hn:1<=n/\n<=64) (hi:0<=i/\i<=n) (hj:0<=j/\j<=n)
  (hr:bI (a*((n - i)*(n - j))+b*(i*(n - j))+d*((n - i)*j)+e*(i*j)) (n*n)=r) (w:World) :
  Calls aQt 231 #[a,b,d,e,i,j,n] w fun x w'=>x = .returned (.int .i64 r)/\w=w':=by
 obtain ⟨ni,h2⟩:∃x,n - i=x:=⟨_,rfl⟩
 obtain ⟨nj,h3⟩:∃x,n - j=x:=⟨_,rfl⟩
 have h0 : -64<=ni/\ni<=64:=by omega
 have h1 : -64<=nj/\nj<=64:=by omega
 have ib : -64<=i/\i<=64:=by omega
 have jb : -64<=j/\j<=64:=by omega
 have nb : -64<=n/\n<=64:=by omega
 obtain ⟨q1,h4⟩:∃x,a*ni=x:=⟨_,rfl⟩
 have b1 : -64000000<=q1/\q1<=64000000:=by have:=bL (A:=1000000) (B:=64) ha h0;omega
 obtain ⟨q2,h5⟩:∃x,q1*nj=x:=⟨_,rfl⟩
 have b2 : -4096000000<=q2/\q2<=4096000000:=by have:=bL (A:=64000000) (B:=64) b1 h1;omega
 obtain ⟨q3,h6⟩:∃x,b*i=x:=⟨_,rfl⟩
 have b3 : -64000000<=q3/\q3<=64000000:=by have:=bL (A:=1000000) (B:=64) hb ib;omega
 obtain ⟨q4,h7⟩:∃x,q3*nj=x:=⟨_,rfl⟩
 have b4 : -4096000000<=q4/\q4<=4096000000:=by have:=bL (A:=64000000) (B:=64) b3 h1;omega
 obtain ⟨q5,h8⟩:∃x,d*ni=x:=⟨_,rfl⟩
 have b5 : -64000000<=q5/\q5<=64000000:=by have:=bL (A:=1000000) (B:=64) hd h0;omega
 obtain ⟨q6,h9⟩:∃x,q5*j=x:=⟨_,rfl⟩
 have b6 : -4096000000<=q6/\q6<=4096000000:=by have:=bL (A:=64000000) (B:=64) b5 jb;omega
 obtain ⟨q7,q0⟩:∃x,e*i=x:=⟨_,rfl⟩
 have b7 : -64000000<=q7/\q7<=64000000:=by have:=bL (A:=1000000) (B:=64) he ib;omega
 obtain ⟨q8,x0⟩:∃x,q7*j=x:=⟨_,rfl⟩
 have b8 : -4096000000<=q8/\q8<=4096000000:=by have:=bL (A:=64000000) (B:=64) b7 jb;omega
 obtain ⟨q9,x1⟩:∃x,n*n=x:=⟨_,rfl⟩
 have b9 : -4096<=q9/\q9<=4096:=by have:=bL (A:=64) (B:=64) nb nb;omega
 have hs:bI (q2+q4+q6+q8) q9=r:=by
  rw [<-hr,<-x1]
  congr 1
  rw [<-h5,<-h7,<-h9,<-x0,<-h4,<-h6,<-h8,<-q0,h2,h3];simp only [Int.mul_assoc]
 have HS:=hid hs;clear hr hs;go_enter func231,ntmps231;go_wp2_with fail;refine (aT ⟨by omega,by omega⟩ HS _).mono ?_;rintro e1 w1 ⟨rfl,rfl⟩;go_wp2;go_ret;exact ⟨rfl,rfl⟩
theorem aGn (f:Nat->Int) (i j n:Int) (hn:1<=n/\n<=64) (hi:0<=i/\i<=n) (hj:0<=j/\j<=n) (w:World) :
  R_ 192 #[.agg f,i,j,n] w ((evP f i j n).V):=by
 obtain ⟨g,hg⟩:∃g:Nat->Int,g=fun k=>cl (f k):=⟨_,rfl⟩
 have HG:=hid (show ∀k,cl (f k)=g k from fun k=>by rw [hg]);have HB:=hid (show ∀k,-1000000<=g k/\g k<=1000000 from fun k=>by rw [hg];exact cM _)
 obtain ⟨m1,h3⟩:∃m,(evP f i j n).x=m:=⟨_,rfl⟩
 obtain ⟨m2,h4⟩:∃m,(evP f i j n).y=m:=⟨_,rfl⟩
 obtain ⟨m3,h5⟩:∃m,(evP f i j n).z=m:=⟨_,rfl⟩
 have x7:=hid (show bI (g 0*((n - i)*(n - j))+g 3*(i*(n - j))+g 6*((n - i)*j)+g 9*(i*j)) (n*n)=m1 by rw [hg,<-h3];rfl);have x8:=hid (show bI (g 1*((n - i)*(n - j))+g 4*(i*(n - j))+g 7*((n - i)*j)+g 10*(i*j)) (n*n)=m2 by rw [hg,<-h4];rfl);have x9:=hid (show bI (g 2*((n - i)*(n - j))+g 5*(i*(n - j))+g 8*((n - i)*j)+g 11*(i*j)) (n*n)=m3 by rw [hg,<-h5];rfl)
 have hV:(evP f i j n).V = .agg #[m1,m2,m3]:=by rw [<-h3,<-h4,<-h5];rfl
 rw [hV];have h2:=hid hn;have h0:=hid hi;have h1:=hid hj;clear hg h3 h4 h5 hV;have r0:=aAp (w:=w) (t:=125) (f:=f) rfl
 have q0:=(aQx (w.alloc (.cells f 125)) 122 [(),(),()])
 rw [aQp] at q0;have x0:Ext w ((w.alloc (.cells f 125)).alloc (.cells #[(),(),()] 122)):=X_;have R0:=hid (r0.alloc (.cells #[(),(),()] 122));have Q0:=hid q0;have X0:=hid x0;have x6:inB n 1 64=true:=aG.2 ⟨by omega,by omega⟩;have q9:inB i 0 n=true:=aG.2 ⟨by omega,by omega⟩;have x5:inB j 0 n=true:=aG.2 ⟨by omega,by omega⟩;have HN:=hid x6;have HI:=hid q9;have HJ:=hid x5;clear r0 q0 x0 x6 q9 x5;go_enter func192,ntmps192;go_wp2_with fail;refine r_ (jD (HG 0) (HG 1) (HG 2) _) fun w1 x1=>?_;have y1:Ext w1 (w1.alloc (.cells #[(g 0),(g 1),(g 2)] 122)):=X_;have b1:=aQx w1 122 [(g 0),(g 1),(g 2)];have R1:=hid ((R0.ext x1).ext y1);have Q1:=hid ((Q0.ext x1).ext y1);have X1:=hid ((X0.trans x1).trans y1);have h6:=hid b1;have c3:=R1.cell (i:=3) (by decide);have c4:=R1.cell (i:=4) (by decide);have c5:=R1.cell (i:=5) (by decide);clear R0 Q0 X0 x1 y1 b1;go_wp2_with fail;refine r_ (jD (HG 3) (HG 4) (HG 5) _) fun w2 x2=>?_;have y2:Ext w2 (w2.alloc (.cells #[(g 3),(g 4),(g 5)] 122)):=X_;have b2:=aQx w2 122 [(g 3),(g 4),(g 5)];have R2:=hid ((R1.ext x2).ext y2);have Q2:=hid ((Q1.ext x2).ext y2);have X2:=hid ((X1.trans x2).trans y2);have h7:=hid ((h6.ext x2).ext y2);have q4:=hid b2;have c6:=R2.cell (i:=6) (by decide);have c7:=R2.cell (i:=7) (by decide);have c8:=R2.cell (i:=8) (by decide);clear R1 Q1 X1 x2 y2 b2 h6 c3 c4 c5;go_wp2_with fail;refine r_ (jD (HG 6) (HG 7) (HG 8) _) fun w3 x3=>?_;have y3:Ext w3 (w3.alloc (.cells #[(g 6),(g 7),(g 8)] 122)):=X_;have b3:=aQx w3 122 [(g 6),(g 7),(g 8)];have R3:=hid ((R2.ext x3).ext y3);have Q3:=hid ((Q2.ext x3).ext y3);have X3:=hid ((X2.trans x3).trans y3);have h8:=hid ((h7.ext x3).ext y3);have q5:=hid ((q4.ext x3).ext y3);have q7:=hid b3;have c9:=R3.cell (i:=9) (by decide);have z0:=R3.cell (i:=10) (by decide);have z1:=R3.cell (i:=11) (by decide);clear R2 Q2 X2 x3 y3 b3 h7 q4 c6 c7 c8;go_wp2_with fail;refine r_ (jD (HG 9) (HG 10) (HG 11) _) fun w4 x4=>?_;have y4:Ext w4 (w4.alloc (.cells #[(g 9),(g 10),(g 11)] 122)):=X_;have b4:=aQx w4 122 [(g 9),(g 10),(g 11)];have Q4:=hid (Q3.ext x4);have X4:=hid (X3.trans x4);have h9:=hid (h8.ext x4);have q6:=hid (q5.ext x4);have q8:=hid (q7.ext x4);have l0:=Q4.lt;have l1:=h9.lt;have l2:=q6.lt;have l3:=q8.lt;have g0:=Q4.free 0;have g1:=Q4.free 1;have g2:=Q4.free 2;obtain ⟨o0,o1,o2⟩:=Q4.q3;obtain ⟨p0,p1,p2⟩:=h9.q3;obtain ⟨q0,q1,q2⟩:=q6.q3;obtain ⟨r0,r1,r2⟩:=q8.q3;have zx:=X4.size;clear R3 Q3 X3 x4 y4 b4 h8 q5 q7 c9 z0 z1;go_wp2_with fail;refine z_ (aE HN _) ?_;go_wp2_with fail;refine z_ (aE HI _) ?_;go_wp2_with fail;refine z_ (aE HJ _) ?_;go_wp2_with fail;refine aA [([0,1,2,3,4,5,6,7,8,9,10,12,13,14,15,16,17,18,19,20,21,22,24,25,26,27,28,29,30,31,32,33,34],11),([],23),([],35),([36],37)] 37 (w4.heap.size+1) (by kernel_rfl) (by kernel_rfl) ?_;refine st_ fun K hK=>?_;go_wp2_with fail;refine z_ (oA (HB 0) (HB 3) (HB 6) (HB 9) h2 h0 h1 x7 _) ?_;go_wp2_with fail;refine k_ hK ?_;clear hK K;refine st_ fun K hK=>?_;go_wp2_with fail;refine z_ (oA (HB 1) (HB 4) (HB 7) (HB 10) h2 h0 h1 x8 _) ?_;go_wp2_with fail;refine k_ hK ?_;clear hK K;refine st_ fun K hK=>?_;go_wp2_with fail;refine z_ (oA (HB 2) (HB 5) (HB 8) (HB 11) h2 h0 h1 x9 _) ?_;go_wp2_with fail;refine k_ hK ?_;clear hK K;refine st_ fun K hK=>?_;go_wp2_with fail;refine l_ hK ?_;clear hK K;refine aC ?_;go_wp2;refine bodyPost_ret (v:=.agg #[m1,m2,m3]) (by simp [results,results192,go_sem, *]) rfl ?_;have z2:=X4.out;exact ⟨rfl,S_⟩
theorem aF.rowT {α : Type} {cs : α->List Value} {xs:List α} (h:aF cs lo e sz w v xs):∀k,v.ownBlock=some k->lo<=k/\∃c,w.heap[k]?=some (.cells c e (0,0)):=by
 intro k hk
 rcases h.2 with ⟨rfl,h4⟩|⟨g,cap,cur,rfl,hb,hg,_⟩
 ·cases hk
 ·simp only [aRm,aQr] at hk
  subst hk;exact ⟨hb,cur,hg⟩
theorem aAr {Q:Nat} (w:World) (hQ:Q<lo) (a b c d e:Value):aM lo hi w (((((w.setCell ⟨Q,0,none⟩ a).setCell ⟨Q,1,none⟩ b).setCell ⟨Q,2,none⟩ c).setCell ⟨Q,3,none⟩ d).setCell ⟨Q,4,none⟩ e):=fun k h1 _=>by
 have hk:Q≠k:=by omega
 rw [aQz _ _ _ _ (by exact hk.symm),aQz _ _ _ _ (by exact hk.symm),aQz _ _ _ _ (by exact hk.symm),aQz _ _ _ _ (by exact hk.symm),aQz _ _ _ _ (by exact hk.symm)]
structure GSr (lo n:Nat) (tm:Int) (t:Tex) (f:Nat->Int) (A P Q:Nat) (tu:Value) (w wr:World) (ps:List Pt) (pu:Value):Prop where
 ext:Ext w wr
 pat:bE wr P 125 12 f
 res:Blk wr Q 168 [(),.slice none 0 0,(),(),.slice none 0 0]
 box:Blk wr A 168 [(n:Nat),pu,tm,t.log,tu]
 pts:aCb lo wr pu ps
 tex:aB lo wr tu t.px
theorem GSr.to {t:Tex} {P Q:Nat} {tu pu:Value} {ps:List Pt} (h:GSr lo n tm t f A P Q tu w wr ps pu) (x:Ext wr w'):GSr lo n tm t f A P Q tu w w' ps pu:=
 ⟨h.ext.trans x,h.pat.ext x,h.res.ext x,h.box.ext x,aF.ext h.pts x,h.tex.ext x⟩
theorem GSr.grow {t:Tex} {P Q:Nat} {tu pu pu':Value} {ps ps':List Pt} (h:GSr lo n tm t f A P Q tu w wr ps pu) (hP:P<lo) (hQ:Q<lo) (hA:lo<=A) (hw:w.heap.size<=lo) (hg:wr.grownBy w' pu.ownBlock) (hown:aCb lo w' pu' ps'):GSr lo n tm t f A P Q tu w (w'.setCell ⟨A,1,none⟩ pu') ps' pu':=by
 have hr:=aF.rowT h.pts
 have hB:=h.box.grown hg (fun e=>by
  obtain ⟨_,c,hc⟩:=hr A e.symm;have hb:=h.box;unfold Blk at hb;rw [hb] at hc;simp only [aQr,aR0] at hc
  exact absurd hc.2.1 (by decide))
 have hT:=h.tex.grown hg (fun k hk e=>by
  obtain ⟨_,c,hc⟩:=hr k e.symm;obtain ⟨c',h0⟩:=h.tex.block hk;rw [h0] at hc;simp only [aQr,aR0] at hc
  exact absurd hc.2.1 (by decide))
 refine ⟨aQ6 (aRz h.ext hg (fun k hk=>by have:=(hr k hk).1;omega)) (by simp only;omega) _,(h.pat.of (hg.block _ h.pat.lt (fun e=>by have:=(hr _ e.symm).1;omega))).other (by simp only;omega) _,(h.res.grown hg (fun e=>by have:=(hr _ e.symm).1;omega)).other (by simp only;omega) _,hB.set 1 _,aF.set hown hB (by decide) 1 _,hT.setOther (fun e=>?_) _⟩;obtain ⟨c,hc⟩:=hT.block e;unfold Blk at hB;simp only at hc;rw [hB] at hc;simp only [aQr,aR0] at hc;exact absurd hc.2.1 (by decide)
def aCe (f:Nat->Int) (n k:Nat):List Pt:=(aRc k).map fun q=>ptG f n (q % n) (q / n)
theorem aEi (f:Nat->Int) (n k:Nat):(aCe f n k).length=k:=by unfold aCe;simp
theorem aJe (f:Nat->Int) (hi:i<n):aCe f n (j*n+(i+1))=aCe f n (j*n+i)++[ptG f n i j]:=by
 unfold aCe;rw [show j*n+(i+1)=(j*n+i)+1 by omega,aS3,aSy,aVc]
 have e1:(j*n+i) % n=i:=by rw [aYr,Nat.add_mul_mod_self_right,aUn hi]
 have e2:(j*n+i) / n=j:=by rw [aYr,Nat.add_mul_div_right _ _ (by omega),Nat.div_eq_of_lt hi,aRl]
 rw [e1,e2]
theorem aHs {x:Pt} (h:(aCe f n k)[i]?=some x):x=ptG f n (i % n) (i / n)/\i<k:=by
 have hl:=(aQq.1 h).1;rw [aEi] at hl;unfold aCe at h;rw [aSf,List.getElem?_range hl] at h;exact ⟨(aSm h).symm,hl⟩
theorem xM {i j n X Y Z:Int} (h:evP f i j n=⟨X,Y,Z⟩) (hn:1<=n/\n<=64) (hi:0<=i/\i<=n) (hj:0<=j/\j<=n) (w:World) :
  R_ 192 #[.agg f,i,j,n] w (.agg #[X,Y,Z]):=by
 have:=aGn f i j n hn hi hj w;rw [h] at this;exact this
theorem aGo (lo hi:Nat) (f:Nat->Int) (hf:qR f=true) (n:Nat) (hn:1<=n/\n<=8) (tm:Int) (htm:0<=tm/\tm<=256) (tv:Value) (t:Tex) (w:World) (ht:cN lo hi w tv t) (hh:hi<=w.heap.size) (hok:t.Ok) :
  Calls aQt 141 #[.agg f,(n:Nat),tm,tv] w fun e w'=>∃v:Value,e = .returned (.tuple #[v,.bool true])/\(Grd.mk (n:Nat) (n*n) (aAn f n) tm t).R w.heap.size w'.heap.size w' v/\Ext w w':=by
 have HT:=hid ht;have HF:=hid hf;obtain ⟨tu,rfl,y5,hu⟩:=ht;obtain ⟨a,cap,rfl,HU⟩:=hu.open;have l1:=HU.le;have l2:=HU.cap
 have b5:1<=t.px.length:=by rw [hok.len];exact bAj hok.n_pos hok.n_pos
 have b6:t.px.length<=256:=by rw [hok.len];exact aRq hok.n_le hok.n_le
 obtain ⟨_,bx,h9,rfl,_,b7,_⟩:=HU.cell 0 _ (aQ0 (by omega));have a1:inB ((n:Nat):Int) 1 8=true:=aG.2 ⟨by omega,by omega⟩;have a2:inB tm 0 256=true:=aG.2 htm;have HN:=hid a1;have HM:=hid a2;have HK:=hid (Tex.okB_iff.2 hok);have r0:=aAp (w:=w) (t:=125) (f:=f) rfl;have t0:=aQx (w.alloc (.cells f 125)) 36 [t.log,.slice (some ⟨bx,h9,none⟩) t.px.length cap];have q0:=aQx ((w.alloc (.cells f 125)).alloc (.cells #[t.log,.slice (some ⟨bx,h9,none⟩) t.px.length cap] 36)) 168 [(),.slice none 0 0,(),(),.slice none 0 0];simp only [aQp] at t0 q0;have x0:Ext w (((w.alloc (.cells f 125)).alloc (.cells #[t.log,.slice (some ⟨bx,h9,none⟩) t.px.length cap] 36)).alloc (.cells #[(),.slice none 0 0,(),(),.slice none 0 0] 168)):=X_;have R0:=hid ((r0.alloc (.cells #[t.log,.slice (some ⟨bx,h9,none⟩) t.px.length cap] 36)).alloc (.cells #[(),.slice none 0 0,(),(),.slice none 0 0] 168));have T0:=hid (t0.ext (show Ext _ (((w.alloc (.cells f 125)).alloc (.cells #[t.log,.slice (some ⟨bx,h9,none⟩) t.px.length cap] 36)).alloc (.cells #[(),.slice none 0 0,(),(),.slice none 0 0] 168)) from X_));have Q0:=hid q0;have X0:=hid x0;clear a1 a2 hu r0 t0 q0 x0;go_enter func141,ntmps141;go_wp2_with fail;refine (gW f _).mono ?_;rw [HF];rintro e w1 ⟨rfl,x1⟩;have R1:=hid (R0.ext x1);have T1:=hid (T0.ext x1);have Q1:=hid (Q0.ext x1);have X1:=hid (X0.trans x1);clear R0 T0 Q0 X0 x1;go_wp2_with fail;refine z_ (aE HN _) ?_;go_wp2_with fail;refine z_ (aE HM _) ?_;obtain ⟨t0,t1⟩:=T1.q2;have z1:=X1.size;go_wp2_with fail;refine r_ (aK HK lo hi _ _ (HT.ext hh X1) (by omega)) fun w2 x2=>?_;have R2:=hid (R1.ext x2);have T2:=hid (T1.ext x2);have Q2:=hid (Q1.ext x2);have x5:=hid (X1.trans x2);have z2:=x5.size;clear R1 T1 Q1 X1 x2 t0 t1;obtain ⟨t0,t1⟩:=T2.q2;have zt:=T2.lt;go_upto_region 3 with fail
 go_cut [10] from 33 to 42 (fun p wx=>∃A tu,p = .pointer (some ⟨A,0,none⟩)/\w2.heap.size<=A/\Blk wx A 168 [(n:Nat),.slice none 0 0,tm,t.log,tu]/\aB w2.heap.size wx tu t.px/\Ext w2 wx)
 case first=>
  refine cZ 11 w2.heap.size (by kernel_rfl) ?_;refine z2_ (fuel:=5) [0,1,2,3,5,6] 4 10 (fun b _ hb=>rfl) (fun K hK=>?_) fun K hK=>?_
  ·have k1:Ext w2 (w2.drew.alloc (.cells #[] 3)):=X_
   have o1:aB w2.heap.size (w2.drew.alloc (.cells #[] 3)) (.slice (some ⟨w2.heap.size,0,none⟩) 0 0) []:=aB.fresh0 (aQo _) (aQx w2.drew 3 []);go_wp2;refine hK _ _ (.inr (fun b _ hb=>aQ1 k1 (by omega))) ?_;clear hK K;refine z2_ (fuel:=4) [] 7 10 (fun b _ hb=>aQ1 k1 (by omega)) (fun K hK=>?_) fun K hK=>?_
   ·refine bY _ rfl _ _ rfl w2.heap.size (.slice (some ⟨w2.heap.size,0,none⟩) 0 0) [] t.px rfl o1 bx h9 cap rfl (fun i y hy=>by
     obtain ⟨i1,b',o',e',_,h3,h4⟩:=HU.cell i y hy
     cases e'
     exact ⟨i1,((x5.trans k1).cells.1 bx _ (by omega)).trans h4⟩) (by simp;omega) k1.size ?_
    intro v7 w7 h0 q7;have u7:Ext w2 w7:=aRz k1 q7 (fun k hk=>(o1.lt k hk).1);go_wp2_with fail;refine hK _ _ (.inr (fun b _ hb=>aQ1 u7 (by omega))) ?_;clear hK K;obtain ⟨h5,h6,h8,_⟩:=h0.form;simp only [aSk] at h0 h8;subst h8;refine z1_ (fuel:=1) [8,9] 10 (fun b _ hb=>aQ1 u7 (by omega)) fun K hK=>?_;have k8:Ext w2 (w7.alloc (.cells #[(),.slice none 0 0,(),(),.slice none 0 0] 168)):=aW9 u7 _;go_wp2;refine hK _ _ (.inr (fun b _ hb=>aQ1 (w:=w2) (show Ext w2 _ from aW9 u7 _) (by omega))) ?_;clear hK K;refine z1_ (fuel:=0) [] 11 (fun b _ hb=>aQ1 k8 (by omega)) fun K hK=>?_;go_wp2;refine l_ hK ?_;clear hK K;refine bX (by kernel_rfl) ?_;go_wp2_with fail
    go_meet
    exact ⟨w7.heap.size,_,rfl,u7.size,aQx w7 168 [(n:Nat),.slice none 0 0,tm,t.log,.slice h5 t.px.length h6],h0.alloc _,aW9 u7 _⟩
   ·have g1:Ext w2 ((w2.drew.alloc (.cells #[] 3)).alloc (.cells #[(),.slice none 0 0,(),(),.slice none 0 0] 168)):=X_
    have o2:=o1.alloc (.cells #[(),.slice none 0 0,(),(),.slice none 0 0] 168);have n2:=aQx (w2.drew.alloc (.cells #[] 3)) 168 [(),.slice none 0 0,(),(),.slice none 0 0];rw [aQp,show w2.drew.heap.size=w2.heap.size from rfl] at n2;go_wp2;refine hK _ _ (.inr (fun b _ hb=>aQ1 g1 (by omega))) ?_;clear hK K;refine z1_ (fuel:=3) [] 7 (fun b _ hb=>aQ1 g1 (by omega)) fun K hK=>?_
    refine bY _ rfl _ _ rfl w2.heap.size (.slice (some ⟨w2.heap.size,0,none⟩) 0 0) [] t.px rfl o2 bx h9 cap rfl (fun i y hy=>by
     obtain ⟨i1,b',o',e',_,h3,h4⟩:=HU.cell i y hy
     cases e'
     exact ⟨i1,((x5.trans g1).cells.1 bx _ (by omega)).trans h4⟩) (by simp;omega) g1.size ?_
    intro v7 w7 h0 q7;have u7:Ext w2 w7:=aRz g1 q7 (fun k hk=>(o2.lt k hk).1);go_wp2_with fail;refine hK _ _ (.inr (fun b _ hb=>aQ1 u7 (by omega))) ?_;clear hK K;obtain ⟨h5,h6,h8,_⟩:=h0.form;simp only [aSk] at h0 h8;subst h8;have n3:=n2.grown q7 (by simp [aRm]);refine z1_ (fuel:=0) [8,9] 11 (fun b _ hb=>aQ1 u7 (by omega)) fun K hK=>?_;have h2:=n3;obtain ⟨p0,p1,p2,p3,p4⟩:=h2.q5;have f0:=h2.free 0;have f1:=h2.free 1;have f2:=h2.free 2;have f3:=h2.free 3;have f4:=h2.free 4
    have h7:w2.heap.size<=(w2.heap.size+1):=by first|omega|(simp;omega)
    have h1:∀k,(aR4 h5 t.px.length h6).ownBlock=some k->k≠(w2.heap.size+1):=fun k hk e=>by
     obtain ⟨c,hc⟩:=(h0).block hk;rw [e] at hc;unfold Blk at h2;rw [h2] at hc;simp only [aQr,aR0] at hc;exact absurd hc.2.1 (by decide)
    have y4:Ext w2 ((((((((((w7).setCell ⟨(w2.heap.size+1),0,none⟩ (.int .i64 (n:Nat)))).setCell ⟨(w2.heap.size+1),1,none⟩ (.slice none 0 0))).setCell ⟨(w2.heap.size+1),2,none⟩ tm)).setCell ⟨(w2.heap.size+1),3,none⟩ t.log)).setCell ⟨(w2.heap.size+1),4,none⟩ (.slice h5 t.px.length h6)):=aQ6 (aQ6 (aQ6 (aQ6 (aQ6 u7 h7 _) h7 _) h7 _) h7 _) h7 _;have y0:Blk ((((((((((w7).setCell ⟨(w2.heap.size+1),0,none⟩ (.int .i64 (n:Nat)))).setCell ⟨(w2.heap.size+1),1,none⟩ (.slice none 0 0))).setCell ⟨(w2.heap.size+1),2,none⟩ tm)).setCell ⟨(w2.heap.size+1),3,none⟩ t.log)).setCell ⟨(w2.heap.size+1),4,none⟩ (.slice h5 t.px.length h6)) ((w2.heap.size+1)) 168 [(n:Nat),.slice none 0 0,tm,t.log,.slice h5 t.px.length h6]:=((((h2.set 0 _).set 1 _).set 2 _).set 3 _).set 4 _
    have y2:aB w2.heap.size ((((((((((w7).setCell ⟨(w2.heap.size+1),0,none⟩ (.int .i64 (n:Nat)))).setCell ⟨(w2.heap.size+1),1,none⟩ (.slice none 0 0))).setCell ⟨(w2.heap.size+1),2,none⟩ tm)).setCell ⟨(w2.heap.size+1),3,none⟩ t.log)).setCell ⟨(w2.heap.size+1),4,none⟩ (.slice h5 t.px.length h6)) (.slice h5 t.px.length h6) t.px:=((((((h0).setOther (a:=⟨(w2.heap.size+1),0,none⟩) (fun e=>h1 _ e rfl) _).setOther (a:=⟨(w2.heap.size+1),1,none⟩) (fun e=>h1 _ e rfl) _).setOther (a:=⟨(w2.heap.size+1),2,none⟩) (fun e=>h1 _ e rfl) _).setOther (a:=⟨(w2.heap.size+1),3,none⟩) (fun e=>h1 _ e rfl) _).setOther (a:=⟨(w2.heap.size+1),4,none⟩) (fun e=>h1 _ e rfl) _)
    go_wp2;refine l_ hK ?_;clear hK K;refine bX (by kernel_rfl) ?_;go_wp2_with fail
    go_meet
    exact ⟨(w2.heap.size+1),_,rfl,h7,y0,y2,y4⟩
  ·have g1:Ext w2 (w2.drew.alloc (.cells #[(),.slice none 0 0,(),(),.slice none 0 0] 168)):=X_
   have n2:=aQx w2.drew 168 [(),.slice none 0 0,(),(),.slice none 0 0];rw [show w2.drew.heap.size=w2.heap.size from rfl] at n2;go_wp2;refine hK _ _ (.inr (fun b _ hb=>aQ1 g1 (by omega))) ?_;clear hK K;refine z1_ (fuel:=4) [] 4 (fun b _ hb=>aQ1 g1 (by omega)) fun K hK=>?_;have g2:Ext w2 ((w2.drew.alloc (.cells #[(),.slice none 0 0,(),(),.slice none 0 0] 168)).alloc (.cells #[] 3)):=X_;have n3:=n2.ext (show Ext _ ((w2.drew.alloc (.cells #[(),.slice none 0 0,(),(),.slice none 0 0] 168)).alloc (.cells #[] 3)) from X_);have b2:=aQx (w2.drew.alloc (.cells #[(),.slice none 0 0,(),(),.slice none 0 0] 168)) 3 [];rw [aQp,show w2.drew.heap.size=w2.heap.size from rfl] at b2;have o2:aB w2.heap.size ((w2.drew.alloc (.cells #[(),.slice none 0 0,(),(),.slice none 0 0] 168)).alloc (.cells #[] 3)) (.slice (some ⟨w2.heap.size+1,0,none⟩) 0 0) []:=aB.fresh0 (by omega) b2;go_wp2;refine hK _ _ (.inr (fun b _ hb=>aQ1 g2 (by omega))) ?_;clear hK K;refine z1_ (fuel:=3) [] 7 (fun b _ hb=>aQ1 g2 (by omega)) fun K hK=>?_
   refine bY _ rfl _ _ rfl w2.heap.size (.slice (some ⟨w2.heap.size+1,0,none⟩) 0 0) [] t.px rfl o2 bx h9 cap rfl (fun i y hy=>by
    obtain ⟨i1,b',o',e',_,h3,h4⟩:=HU.cell i y hy
    cases e'
    exact ⟨i1,((x5.trans g2).cells.1 bx _ (by omega)).trans h4⟩) (by simp;omega) g2.size ?_
   intro v7 w7 h0 q7;have u7:Ext w2 w7:=aRz g2 q7 (fun k hk=>(o2.lt k hk).1);go_wp2_with fail;refine hK _ _ (.inr (fun b _ hb=>aQ1 u7 (by omega))) ?_;clear hK K;obtain ⟨h5,h6,h8,_⟩:=h0.form;simp only [aSk] at h0 h8;subst h8;have n4:=n3.grown q7 (by simp [aRm]);refine z1_ (fuel:=0) [8,9] 11 (fun b _ hb=>aQ1 u7 (by omega)) fun K hK=>?_;have h2:=n4;obtain ⟨p0,p1,p2,p3,p4⟩:=h2.q5;have f0:=h2.free 0;have f1:=h2.free 1;have f2:=h2.free 2;have f3:=h2.free 3;have f4:=h2.free 4
   have h7:w2.heap.size<=w2.heap.size:=by first|omega|(simp;omega)
   have h1:∀k,(aR4 h5 t.px.length h6).ownBlock=some k->k≠w2.heap.size:=fun k hk e=>by
    obtain ⟨c,hc⟩:=(h0).block hk;rw [e] at hc;unfold Blk at h2;rw [h2] at hc;simp only [aQr,aR0] at hc;exact absurd hc.2.1 (by decide)
   have y4:Ext w2 ((((((((((w7).setCell ⟨w2.heap.size,0,none⟩ (.int .i64 (n:Nat)))).setCell ⟨w2.heap.size,1,none⟩ (.slice none 0 0))).setCell ⟨w2.heap.size,2,none⟩ tm)).setCell ⟨w2.heap.size,3,none⟩ t.log)).setCell ⟨w2.heap.size,4,none⟩ (.slice h5 t.px.length h6)):=aQ6 (aQ6 (aQ6 (aQ6 (aQ6 u7 h7 _) h7 _) h7 _) h7 _) h7 _;have y0:Blk ((((((((((w7).setCell ⟨w2.heap.size,0,none⟩ (.int .i64 (n:Nat)))).setCell ⟨w2.heap.size,1,none⟩ (.slice none 0 0))).setCell ⟨w2.heap.size,2,none⟩ tm)).setCell ⟨w2.heap.size,3,none⟩ t.log)).setCell ⟨w2.heap.size,4,none⟩ (.slice h5 t.px.length h6)) (w2.heap.size) 168 [(n:Nat),.slice none 0 0,tm,t.log,.slice h5 t.px.length h6]:=((((h2.set 0 _).set 1 _).set 2 _).set 3 _).set 4 _
   have y2:aB w2.heap.size ((((((((((w7).setCell ⟨w2.heap.size,0,none⟩ (.int .i64 (n:Nat)))).setCell ⟨w2.heap.size,1,none⟩ (.slice none 0 0))).setCell ⟨w2.heap.size,2,none⟩ tm)).setCell ⟨w2.heap.size,3,none⟩ t.log)).setCell ⟨w2.heap.size,4,none⟩ (.slice h5 t.px.length h6)) (.slice h5 t.px.length h6) t.px:=((((((h0).setOther (a:=⟨w2.heap.size,0,none⟩) (fun e=>h1 _ e rfl) _).setOther (a:=⟨w2.heap.size,1,none⟩) (fun e=>h1 _ e rfl) _).setOther (a:=⟨w2.heap.size,2,none⟩) (fun e=>h1 _ e rfl) _).setOther (a:=⟨w2.heap.size,3,none⟩) (fun e=>h1 _ e rfl) _).setOther (a:=⟨w2.heap.size,4,none⟩) (fun e=>h1 _ e rfl) _)
   go_wp2;refine l_ hK ?_;clear hK K;refine bX (by kernel_rfl) ?_;go_wp2_with fail
   go_meet
   exact ⟨w2.heap.size,_,rfl,h7,y0,y2,y4⟩
 case rest=>
  obtain ⟨A,tu,rfl,hA,B3,O3,E3⟩:=hcut;obtain ⟨z5,z6,rfl,-⟩:=O3.form
  have S3:GSr w2.heap.size n tm t f A w.heap.size (w.heap.size+1+1) (.slice z5 t.px.length z6) w wc [] (.slice none 0 0):=
   ⟨x5.trans E3,R2.ext E3,Q2.ext E3,B3,aF.nil _ _ _ _ _,O3⟩
  have y9:=hid S3;have zQ:=Q2.lt;clear R2 T2 Q2 x5 t0 t1 zt B3 O3 E3 S3;go_wp2_with fail
  go_loopw [11] (fun v wr=>∃(j:Nat) (ps:List Pt) (pu:Value),j<=n/\v = .int .i64 (j:Nat)/\ps.length=j*n/\ps=aCe f n (j*n)/\GSr w2.heap.size n tm t f A w.heap.size (w.heap.size+1+1) (.slice z5 t.px.length z6) w wr ps pu) (fun v _=>n - (intOf v).toNat)
  case atStart=>exact ⟨0,[],_,by omega,rfl,by simp,by rw [Nat.zero_mul];rfl,y9⟩
  case round=>
   obtain ⟨j,ps,pu,hj,rfl,z0,x9,hs⟩:=hrel;have y7:=hid z0;have z7:=hid x9;clear z0 x9;have HS:=hid hs;clear hs y9
   by_cases b9:j<n
   ·go_wp2_with fail
    go_loopw [12] (fun v wr=>∃(i:Nat) (ps:List Pt) (pu:Value),i<=n/\v = .int .i64 (i:Nat)/\ps.length=j*n+i/\ps=aCe f n (j*n+i)/\GSr w2.heap.size n tm t f A w.heap.size (w.heap.size+1+1) (.slice z5 t.px.length z6) w wr ps pu) (fun v _=>n - (intOf v).toNat)
    case atStart=>exact ⟨0,ps,pu,by omega,rfl,y7,z7,HS⟩
    case round=>
     obtain ⟨i,ps,pu,hi',rfl,z0,x9,hs⟩:=hrel;have q6:=hid z0;have x7:=hid x9;clear z0 x9;have x8:=hid hs;clear hs HS
     by_cases y1:i<n
     ·have hR:=x8.pat
      have c0:=hR.cell (i:=0) (by decide);have c1:=hR.cell (i:=1) (by decide);have c2:=hR.cell (i:=2) (by decide);have c3:=hR.cell (i:=3) (by decide);have c4:=hR.cell (i:=4) (by decide);have c5:=hR.cell (i:=5) (by decide);have c6:=hR.cell (i:=6) (by decide);have c7:=hR.cell (i:=7) (by decide);have c8:=hR.cell (i:=8) (by decide);have c9:=hR.cell (i:=9) (by decide);have a5:=hR.cell (i:=10) (by decide);have a6:=hR.cell (i:=11) (by decide);go_wp2_with fail
      obtain ⟨x,y,z,a0⟩:∃x y z,evP f ((i:Nat):Int) ((j:Nat):Int) ((n:Nat):Int)=⟨x,y,z⟩:=⟨_,_,_,rfl⟩
      have y6:=hid a0;clear a0;refine r_ (xM y6 ⟨by omega,by omega⟩ ⟨by omega,by omega⟩ ⟨by omega,by omega⟩ _) fun w3 x3=>?_;have y3:Ext w3 (w3.alloc (.cells #[x,y,z] 122)):=X_;have v3:=aQx w3 122 [x,y,z];have x4:=hid (x8.to (x3.trans y3));have a4:=hid v3;have z3:=x3.size;have b1:=x4.box.cell 1 rfl;have a7:=x4.box.free 1;have zA:=x4.box.lt
      have d5:A<w3.heap.size:=by
       have:=x8.box.lt;omega
      obtain ⟨pa,pc,rfl,-⟩:=aF.form x4.pts;clear x3 y3 v3 c0 c1 c2 c3 c4 c5 c6 c7 c8 c9 a5 a6 hR x8;go_wp2_with fail;refine aJ [([0,1,2,3,4,5,6,7,8,9,10,11,12,13,14,15,16],17),([],18),([19],20)] 20 (fun w'=>∃d,w'=fU (C2b A w3.heap.size) _ d) (by kernel_rfl) (by kernel_rfl) (aTh _ _) ?_;refine sc_ fun K hK=>?_;go_wp2_with fail;have y8:Ext (w3.alloc (.cells #[x,y,z] 122)) (((w3.alloc (.cells #[x,y,z] 122)).alloc (.cells #[.int .i64 ((i:Int)*256 / (n:Int)),.int .i64 ((j:Int)*256 / (n:Int)),x,y,z] 228)).drew):=S_;have b8:=(aQx (w3.alloc (.cells #[x,y,z] 122)) 228 [.int .i64 ((i:Int)*256 / (n:Int)),.int .i64 ((j:Int)*256 / (n:Int)),x,y,z]).ext (show Ext _ (((w3.alloc (.cells #[x,y,z] 122)).alloc (.cells #[.int .i64 ((i:Int)*256 / (n:Int)),.int .i64 ((j:Int)*256 / (n:Int)),x,y,z] 228)).drew) from S_);rw [aQp] at b8;refine hK _ _ (.inr (aRx fun a ha=>?_)) ?_
      ·rcases ha with ha|ha
       ·exact y8.block (by rw [ha,aQp];omega)
       ·exact y8.block (by rw [ha,aQp];omega)
      clear hK K;have z4:=hid (x4.to y8);have x6:=hid b8;have z9:=hid y8;have z8:=y8.size;rw [aQp] at z8
      have d0:j*n+i<=64:=by
       have:j*n<=7*8:=aRq (by omega) (by omega);omega
      clear y8 b8;refine sc_ fun K hK=>?_
      refine lY _ rfl _ _ rfl w2.heap.size (.slice pa ps.length pc) ps rfl z4.pts ⟨(i:Int)*256 / (n:Int),(j:Int)*256 / (n:Int),x,y,z⟩ (w3.heap.size+1) rfl (fun q hq=>by
       rcases (show q=0\/q=1\/q=2\/q=3\/q=4 by omega) with rfl|rfl|rfl|rfl|rfl
       ·exact x6.cell 0 rfl
       ·exact x6.cell 1 rfl
       ·exact x6.cell 2 rfl
       ·exact x6.cell 3 rfl
       ·exact x6.cell 4 rfl) (by have:=q6.out;omega) (by omega) ?_
      intro d4 w9 q8 hg;have q9:=aF.rowT z4.pts
      have kA:w9.heap[A]?=(w3.alloc (.cells #[x,y,z] 122)).heap[A]?:=(hg.block _ (by omega) (fun e=>by
       obtain ⟨_,c,hc⟩:=q9 _ e.symm;have hb:=z4.box;unfold Blk at hb;rw [hb] at hc;simp only [aQr,aR0] at hc
       exact absurd hc.2.1 (by decide))).trans (z9.block zA)
      have kV:w9.heap[w3.heap.size]?=(w3.alloc (.cells #[x,y,z] 122)).heap[w3.heap.size]?:=(hg.block _ (by omega) (fun e=>by
       obtain ⟨_,c,hc⟩:=q9 _ e.symm;have hb:=a4.ext z9;unfold Blk at hb;rw [hb] at hc;simp only [aQr,aR0] at hc
       exact absurd hc.2.1 (by decide))).trans (z9.block (by rw [aQp];omega))
      have a3:=hid (z4.grow (by omega) zQ hA z2 hg q8);have B9:=x4.box.of kA;have e1:=B9.cell 1 rfl;have g1:=B9.free 1;go_wp2_with fail;refine hK _ _ (.inr (aRx fun a ha=>?_)) ?_
      ·rcases ha with ha|ha
       ·rw [ha];exact kA
       ·rw [ha];exact kV
      clear hK K;obtain ⟨d2,d3,hv,_⟩:=aF.form q8
      have a9:(ps++[(⟨(i:Int)*256 / (n:Int),(j:Int)*256 / (n:Int),x,y,z⟩:Pt)]).length=ps.length+1:=by simp
      rw [a9] at hv;subst hv;clear q8 hg q9 kA kV b1 a7 B9;refine gR ?_;simp only [aRd,aQ7,aQs,aQm,aQn]
      show wpQuiet _ _ _ _ [_] _
      simp only [aR9,aQv,aQ3,aQ2,aVt,aUj,aUk]
      repeat (go_big_quiet_step (fail))
      refine wpQuiet_nil ⟨_,rfl,fun K hK=>?_⟩;go_wp2_with fail;refine l_ hK ?_;clear hK K;refine aQ ?_;go_wp2;go_roundw
      case rel=>exact ⟨i+1,ps++[(⟨(i:Int)*256 / (n:Int),(j:Int)*256 / (n:Int),x,y,z⟩:Pt)],_,by omega,by go_num,by have:=q6.out;omega,by rw [x7,aJe f y1];congr 1;unfold ptG;rw [y6],a3⟩
      case measure=>simp [intOf];omega
     ·obtain rfl:i=n:=by omega
      go_wp2;go_roundw
      case rel=>exact ⟨j+1,ps,pu,by omega,by go_num,by rw [q6,aWu],by rw [x7,aWu],x8⟩
      case measure=>simp [intOf];omega
   ·obtain rfl:j=n:=by omega
    obtain ⟨b0,b1,b2,b3,b4⟩:=HS.box.q5;obtain ⟨q0,q1,q2,q3,q4⟩:=HS.res.q5;have g0:=HS.res.free 0;have g1:=HS.res.free 1;have g2:=HS.res.free 2;have g3:=HS.res.free 3;have g4:=HS.res.free 4;have zq:=HS.res.lt;have za:=HS.box.lt;obtain ⟨pa,pc,rfl,-⟩:=aF.form HS.pts;go_wp2;refine bodyPost_ret (v:=.tuple #[.agg #[(j:Nat),.slice pa ps.length pc,tm,t.log,.slice z5 t.px.length z6],.bool true]) (by simp [results,results141,go_sem, *]) rfl ?_;have a8:=HS.ext;have d1:=a8.size
    have FL:∀m,ps.length=m->cY 5 w2.heap.size wr.heap.size wr (.slice pa ps.length pc) m (aAn f j):=fun m hm=>by
     subst hm;refine aF.flatsI (ls:=Pt.ls) HS.pts (by decide) (fun _=>rfl) (fun _=>rfl) (fun p hp u hu=>?_) (fun q p k hq hk=>?_)
     ·rw [z7] at hp
      obtain ⟨q,hq,rfl⟩:=aRn hp;obtain ⟨e2,hl⟩:=aHs (aQ0 hq);rw [e2] at hu;have:=aGj f (n:=j) (i:=q % j) (j:=q / j) (by omega) (aTf _ (by omega)) (aTb hl) u hu;exact ⟨by omega,by omega⟩
     ·rw [z7] at hq
      obtain ⟨rfl,-⟩:=aHs hq;exact jL f j q k hk
    exact ⟨_,rfl,⟨_,_,rfl,⟨by show (-9223372036854775808:Int)<=((j:Nat):Int);omega,by show ((j:Nat):Int)<=9223372036854775807;omega⟩,⟨by show (-9223372036854775808:Int)<=tm;omega,by show tm<=9223372036854775807;omega⟩,y5,(((FL _ y7).same (aAr wr zQ _ _ _ _ _)).wide z2 (by simp)),((HS.tex.ints.same (aAr wr zQ _ _ _ _ _)).wide z2 (by simp))⟩,S_⟩
theorem qU (c:Cam) (w:World):R_ 87 #[c.V] w (.bool c.okB):=by
 obtain ⟨cw,ch,zo,ne,de,le,fo⟩:=c
 obtain ⟨b1,h1⟩:∃b,inB cw 1 12=b:=⟨_,rfl⟩
 obtain ⟨b2,h2⟩:∃b,inB ch 1 12=b:=⟨_,rfl⟩
 obtain ⟨b3,h3⟩:∃b,inB zo 1 65536=b:=⟨_,rfl⟩
 obtain ⟨b4,h4⟩:∃b,inB ne 1 1000000=b:=⟨_,rfl⟩
 obtain ⟨b5,h5⟩:∃b,inB le 0 64=b:=⟨_,rfl⟩
 obtain ⟨b6,h6⟩:∃b,inB fo 0 1000000=b:=⟨_,rfl⟩
 have e:(Cam.mk cw ch zo ne de le fo).okB=(b1&&b2&&b3&&b4&&b5&&b6):=by unfold Cam.okB;simp only [h1,h2,h3,h4,h5,h6]
 rw [e];have H1:=hid h1;have H2:=hid h2;have H3:=hid h3;have H4:=hid h4;have H5:=hid h5;have H6:=hid h6;clear h1 h2 h3 h4 h5 h6 e
 show Calls aQt 87 #[.agg #[cw,ch,zo,ne,.bool de,le,fo]] w _
 cases b1
 rotate_left
 cases b2
 rotate_left
 cases b3
 rotate_left
 cases b4
 rotate_left
 cases b5
 rotate_left
 cases b6
 all_goals
  go_enter func87,ntmps87;go_wp2_with (go_at_call 46;with_reducible first|(refine z_ (aE H1.out _) ?_)|(refine z_ (aE H2.out _) ?_)|(refine z_ (aE H3.out _) ?_)|(refine z_ (aE H4.out _) ?_)|(refine z_ (aE H5.out _) ?_)|(refine z_ (aE H6.out _) ?_));go_ret;exact ⟨rfl,X_⟩
theorem aN {c:Cam} {b:Bool} (h:c.okB=b) (w:World):R_ 87 #[c.V] w (.bool b):=h▸qU c w
theorem xN {α : Type} (f:Nat->α) (n:Nat):(aRc (n+1)).map f=(aRc n).map f++[f n]:=by rw [aS3,aSy,aVc]
theorem sA (s:Scn) (lo hi:Nat) (v:Value) (w:World) (hv:s.R lo hi w v) (hh:hi<=w.heap.size) (hsm:s.small) :
  R_ 45 #[v] w (.bool s.okB):=by
 obtain ⟨a1,c1,a2,c2,a3,c3,rfl,-,q1,-,h1,h2,h3⟩:=hv.form;have q0:=aQx w 40 (sL_ s a1 c1 a2 c2 a3 c3);have R0:=hid q0;have X0:=hid (show Ext w (w.alloc (.cells (sA_ s a1 c1 a2 c2 a3 c3) 40)) from X_);have HT:=hid (show ∀W:World,Ext w W->cN lo hi W (.agg #[s.t.log,.slice a1 s.t.px.length c1]) s.t from fun W x=>⟨_,rfl,q1,(h1.shut).ext hh x⟩);have H1:=hid h1;have H2:=hid h2;have H3:=hid h3;have z7:=h2.le;have z2:=h2.cap;have z8:=h3.le;have z3:=h3.cap;have HS:=hid hsm;clear q0 hv q1 h1 h2 h3 hsm;unfold Scn.okB
 obtain ⟨b1,q3⟩:∃b,s.c.okB=b:=⟨_,rfl⟩
 obtain ⟨b2,q4⟩:∃b,s.t.okB=b:=⟨_,rfl⟩
 obtain ⟨b3,q8⟩:∃b,inB (s.ps.length:Int) 1 3=b:=⟨_,rfl⟩
 have C1:=hid q3;have C2:=hid q4;have C3:=hid q8;rw [q3,q4,q8];clear q3 q4 q8;go_enter func45,ntmps45;go_wp2_with fail
 go_loopw [13] (fun i wr=>∃k:Nat,k<=s.ps.length/\i = .int .i64 (k:Nat)/\Ext w wr/\Blk wr w.heap.size 40 (sL_ s a1 c1 a2 c2 a3 c3)/\∀q (hq:q<k) (hq2:q<s.ps.length),s.ps[q].chkB=true) (fun i _=>s.ps.length - (intOf i).toNat)
 case atStart=>exact ⟨0,by omega,rfl,X0,R0,fun q hq=>absurd hq (by omega)⟩
 case round=>
  obtain ⟨k,hk,rfl,hx,hb,hc⟩:=hrel;have HX:=hid hx;have HB:=hid hb;have HC:=hid hc
  rcases aRy k s.ps.length with hlt|hge
  ·obtain ⟨b,q6,e1,d1,e2,d2,rfl,z6,z5,k1,k2,hR⟩:=H2.at hlt hx hh
   have HR:=hid hR;have hz:=hx.size;have HL:=hid hlt;clear hx hb hc hR;go_wp2_with fail;refine (wK lo hi _ _ _ (HR.ext (by omega) (show Ext wr (wr.alloc (.cells #[.slice e1 (s.ps[k]'hlt).ns.length d1,.slice e2 (s.ps[k]'hlt).gs.length d2] 119)) from X_)) (by simp;omega) (HS _ (aQ8 hlt)).1 (HS _ (aQ8 hlt)).2.1.1 (HS _ (aQ8 hlt)).2.2).mono ?_;rintro e w5 ⟨⟨cc,ck,rfl,hcc⟩,x5⟩;have y5:Ext wr w5:=aQu (show Ext wr (wr.alloc (.cells #[.slice e1 (s.ps[k]'hlt).ns.length d1,.slice e2 (s.ps[k]'hlt).gs.length d2] 119)) from X_) x5
   by_cases x7:cc=0
   ·subst x7
    have X5:=hid (HX.trans y5);have R5:=hid (HB.ext y5);have q7:=hid hcc.symm;clear hcc x5 y5;go_wp2;go_roundw
    case rel=>
     refine ⟨k+1,by omega,by go_num,X5,R5,fun q hq hq2=>?_⟩
     rcases aRy q k with h|h
     ·exact HC q h hq2
     ·obtain rfl:q=k:=by omega
      exact q7
    case measure=>simp [intOf];omega
   ·have h8:s.ps.all Prg.chkB=false:=aTw.2 ⟨_,aQ8 hlt,by rw [<-hcc];simp [x7]⟩
    have h6:=hid h8;have X5:=hid (HX.trans y5);clear hcc x5 y5 h8;go_wp2;go_ret;exact ⟨by rw [h6];simp,X5⟩
  ·obtain rfl:k=s.ps.length:=by omega
   have h8:s.ps.all Prg.chkB=true:=aRw.2 (fun x hx=>by obtain ⟨q,hq,rfl⟩:=aRn hx;exact hc q hq hq);have HA:=hid h8;have z1:=hb.cell 10 rfl;have lb:=hb.lt;clear hx hb hc h8;go_wp2_with fail;clear z1 lb
   go_loopw [28] (fun i wr=>∃k:Nat,k<=s.m/\i = .int .i64 (k:Nat)/\Ext w wr/\Blk wr w.heap.size 40 (sL_ s a1 c1 a2 c2 a3 c3)/\∀q,q<k->s.srfB q=true) (fun i _=>s.m - (intOf i).toNat)
   case atStart=>exact ⟨0,by omega,rfl,HX,HB,fun q hq=>absurd hq (by omega)⟩
   case round=>
    obtain ⟨j,hj,rfl,hx,hb,hc⟩:=hrel;have HX:=hid hx;have HB:=hid hb;have HC:=hid hc
    rcases aRy j s.m with hlt|hge
    ·obtain ⟨b,q6,rfl,q3,q4,h9⟩:=H3.at hlt (by decide)
     have bw:b<w.heap.size:=by omega
     have q9:wr.rangeAt b (q6+j*26) ((aRc 26).map fun q=>.int .i64 (s.F (j*26+q))):=by
      intro q v hq;obtain ⟨h1,h2⟩:=aQq.1 hq;simp only [aR7,aUf] at h1;simp only [aU6,aT6] at h2;subst h2;exact (hx.cells.1 b _ bw).trans (h9 q h1)
     change wr.rangeAt b (q6+j*26) [(s.st j 0),(s.st j 1),(s.st j 2),(s.st j 3),(s.st j 4),(s.st j 5),(s.st j 6),(s.st j 7),(s.st j 8),(s.st j 9),(s.st j 10),(s.st j 11),(s.en j 0),(s.en j 1),(s.en j 2),(s.en j 3),(s.en j 4),(s.en j 5),(s.en j 6),(s.en j 7),(s.en j 8),(s.en j 9),(s.en j 10),(s.en j 11),(s.sh j),(s.rt j)] at q9;have x9:=hid q9
     have x4:World.rangeAt (wr.alloc (.cells #[(s.st j 0),(s.st j 1),(s.st j 2),(s.st j 3),(s.st j 4),(s.st j 5),(s.st j 6),(s.st j 7),(s.st j 8),(s.st j 9),(s.st j 10),(s.st j 11),(s.en j 0),(s.en j 1),(s.en j 2),(s.en j 3),(s.en j 4),(s.en j 5),(s.en j 6),(s.en j 7),(s.en j 8),(s.en j 9),(s.en j 10),(s.en j 11),(s.sh j),(s.rt j)] 127)) wr.heap.size 0 [(s.st j 0),(s.st j 1),(s.st j 2),(s.st j 3),(s.st j 4),(s.st j 5),(s.st j 6),(s.st j 7),(s.st j 8),(s.st j 9),(s.st j 10),(s.st j 11),(s.en j 0),(s.en j 1),(s.en j 2),(s.en j 3),(s.en j 4),(s.en j 5),(s.en j 6),(s.en j 7),(s.en j 8),(s.en j 9),(s.en j 10),(s.en j 11),(s.sh j),(s.rt j)]:=fun q v hq=>by rw [aRl];exact (aQx wr 127 [(s.st j 0),(s.st j 1),(s.st j 2),(s.st j 3),(s.st j 4),(s.st j 5),(s.st j 6),(s.st j 7),(s.st j 8),(s.st j 9),(s.st j 10),(s.st j 11),(s.en j 0),(s.en j 1),(s.en j 2),(s.en j 3),(s.en j 4),(s.en j 5),(s.en j 6),(s.en j 7),(s.en j 8),(s.en j 9),(s.en j 10),(s.en j 11),(s.sh j),(s.rt j)]).cell q hq
     have x8:=hid x4;clear q9 x4;have b9:=hb.cell 9 rfl;have bl:=hb.lt;have z4:b<wr.heap.size:=aSb bw hx.size;clear hx hb hc h9;go_upto_region 11 with (first|(show wpList _ _ _ [_,_,_] _ _;refine wpList_load_mid rfl _ _ rfl b (q6+j*26) rfl [(s.st j 0),(s.st j 1),(s.st j 2),(s.st j 3),(s.st j 4),(s.st j 5),(s.st j 6),(s.st j 7),(s.st j 8),(s.st j 9),(s.st j 10),(s.st j 11),(s.en j 0),(s.en j 1),(s.en j 2),(s.en j 3),(s.en j 4),(s.en j 5),(s.en j 6),(s.en j 7),(s.en j 8),(s.en j 9),(s.en j 10),(s.en j 11),(s.sh j),(s.rt j)] _ x9 underlying127 rfl fQ ?_)|(show wpList _ _ _ [_] _ _;refine dI _ _ _ rfl 127 (.tmp 8) (.tmp 31) rfl rfl #[(s.st j 0),(s.st j 1),(s.st j 2),(s.st j 3),(s.st j 4),(s.st j 5),(s.st j 6),(s.st j 7),(s.st j 8),(s.st j 9),(s.st j 10),(s.st j 11),(s.en j 0),(s.en j 1),(s.en j 2),(s.en j 3),(s.en j 4),(s.en j 5),(s.en j 6),(s.en j 7),(s.en j 8),(s.en j 9),(s.en j 10),(s.en j 11),(s.sh j),(s.rt j)] wr.heap.size rfl rfl rfl (by kernel_rfl) (by kernel_rfl) (by kernel_rfl) ?_));go_wp2_with (show wpList _ _ _ [_,_,_,_,_,_] _ _;refine wpList_load_mid rfl _ _ rfl wr.heap.size 0 rfl [(s.st j 0),(s.st j 1),(s.st j 2),(s.st j 3),(s.st j 4),(s.st j 5),(s.st j 6),(s.st j 7),(s.st j 8),(s.st j 9),(s.st j 10),(s.st j 11),(s.en j 0),(s.en j 1),(s.en j 2),(s.en j 3),(s.en j 4),(s.en j 5),(s.en j 6),(s.en j 7),(s.en j 8),(s.en j 9),(s.en j 10),(s.en j 11),(s.sh j),(s.rt j)] _ x8 underlying127 rfl fQ ?_);refine r_ (pI (s.st j) (s.en j) (s.sh j) (s.rt j) s.ps.length _) fun w5 x5=>?_;have y5:Ext wr w5:=aQu (show Ext wr (wr.alloc (.cells #[(s.st j 0),(s.st j 1),(s.st j 2),(s.st j 3),(s.st j 4),(s.st j 5),(s.st j 6),(s.st j 7),(s.st j 8),(s.st j 9),(s.st j 10),(s.st j 11),(s.en j 0),(s.en j 1),(s.en j 2),(s.en j 3),(s.en j 4),(s.en j 5),(s.en j 6),(s.en j 7),(s.en j 8),(s.en j 9),(s.en j 10),(s.en j 11),(s.sh j),(s.rt j)] 127)) from X_) x5;have X5:=hid (HX.trans y5);have R5:=hid (HB.ext y5)
     cases q5:aMy (s.st j) (s.en j) (s.sh j) (s.rt j) s.ps.length
     ·have h8:(aRc s.m).all s.srfB=false:=aTw.2 ⟨j,aRu.2 hlt,by unfold Scn.srfB;simp [q5]⟩
      have h6:=hid h8;clear q5 h8 x5 y5;go_wp2;go_ret;exact ⟨by rw [h6];simp,X5⟩
     ·have q7:=hid q5
      clear q5 x5 y5;go_wp2;go_roundw
      case rel=>
       refine ⟨j+1,by omega,by go_num,X5,R5,fun q hq=>?_⟩
       rcases aRy q j with h|h
       ·exact HC q h
       ·obtain rfl:q=j:=by omega
        exact q7
      case measure=>simp [intOf];omega
    ·obtain rfl:j=s.m:=by omega
     have h8:(aRc s.m).all s.srfB=true:=aRw.2 (fun q hq=>HC q (aRu.1 hq));have h6:=hid h8;clear hx hb hc h8;clear HC;have HG:=hid hge;have HJ:=hid hj;clear hge hj
     by_cases hs:pV s.side=true
     ·have h3:s.side=1\/s.side=2\/s.side=4:=by unfold pV at hs;simpa [or_assoc] using hs
      have x3:=hid hs;clear hs
      obtain ⟨sd,x0⟩:∃sd,s.side=sd:=⟨_,rfl⟩
      have h5:=hid (show Blk wr w.heap.size 40 [s.c.w,s.c.h,s.c.zoom,s.c.near,.bool s.c.deep,s.c.lens,s.c.focus,s.t.log,.slice a1 s.t.px.length c1,.slice a2 s.ps.length c2,.slice a3 s.m c3,sd] from x0▸HB.out);have h7:=hid (show pV s.side=true from x3);rw [x0] at h3;clear x0 HB x3
      rcases h3 with rfl|rfl|rfl
      ·skip
       cases b1
       ·skip
        obtain ⟨s0,s1,s2,s3,s4,s5,s6,s7,s8,s9,h0,h4⟩:=h5.q12;have sl:=h5.lt;go_wp2_with fail;refine r_ (aN (c:=s.c) C1 _) fun w1 x1=>?_;have X1:=hid (HX.trans x1);have R1:=hid (h5.ext x1);clear s0 s1 s2 s3 s4 s5 s6 s7 s8 s9 h0 h4 sl;clear x1;go_wp2;go_ret;exact ⟨by rw [h6,HA,h7];first|rfl|simp [*],X1⟩
       ·cases b2
        ·skip
         obtain ⟨s0,s1,s2,s3,s4,s5,s6,s7,s8,s9,h0,h4⟩:=h5.q12;have sl:=h5.lt;go_wp2_with fail;refine r_ (aN (c:=s.c) C1 _) fun w1 x1=>?_;have X1:=hid (HX.trans x1);have R1:=hid (h5.ext x1);clear s0 s1 s2 s3 s4 s5 s6 s7 s8 s9 h0 h4 sl;clear x1;have s7:=R1.cell 7 rfl;have s8:=R1.cell 8 rfl;have s9:=R1.cell 9 rfl;have h0:=R1.cell 10 rfl;have h4:=R1.cell 11 rfl;have sl:=R1.lt;go_wp2_with fail;refine r_ (aK C2 lo hi _ _ (HT _ X1) (aQw hh X1.size)) fun w2 x2=>?_;have X2:=hid (X1.trans x2);have R2:=hid (R1.ext x2);clear s7 s8 s9 h0 h4 sl;clear x2;go_wp2;go_ret;exact ⟨by rw [h6,HA,h7];first|rfl|simp [*],X2⟩
        ·cases b3
         ·skip
          obtain ⟨s0,s1,s2,s3,s4,s5,s6,s7,s8,s9,h0,h4⟩:=h5.q12;have sl:=h5.lt;go_wp2_with fail;refine r_ (aN (c:=s.c) C1 _) fun w1 x1=>?_;have X1:=hid (HX.trans x1);have R1:=hid (h5.ext x1);clear s0 s1 s2 s3 s4 s5 s6 s7 s8 s9 h0 h4 sl;clear x1;have s7:=R1.cell 7 rfl;have s8:=R1.cell 8 rfl;have s9:=R1.cell 9 rfl;have h0:=R1.cell 10 rfl;have h4:=R1.cell 11 rfl;have sl:=R1.lt;go_wp2_with fail;refine r_ (aK C2 lo hi _ _ (HT _ X1) (aQw hh X1.size)) fun w2 x2=>?_;have X2:=hid (X1.trans x2);have R2:=hid (R1.ext x2);clear s7 s8 s9 h0 h4 sl;clear x2;have s9:=R2.cell 9 rfl;have h0:=R2.cell 10 rfl;have h4:=R2.cell 11 rfl;have sl:=R2.lt;go_wp2_with (go_at_call 46;refine z_ (aE C3 _) ?_);go_ret;exact ⟨by rw [h6,HA,h7];first|rfl|simp [*],X2⟩
         ·rcases aRy 5 s.m with hm|hm
          ·have q2 : ¬((s.m:Int)<=5):=by omega
           have g0:decide (s.m<=5)=false:=by simp;omega
           have G0:=hid g0;clear g0;obtain ⟨s0,s1,s2,s3,s4,s5,s6,s7,s8,s9,h0,h4⟩:=h5.q12;have sl:=h5.lt;go_wp2_with fail;refine r_ (aN (c:=s.c) C1 _) fun w1 x1=>?_;have X1:=hid (HX.trans x1);have R1:=hid (h5.ext x1);clear s0 s1 s2 s3 s4 s5 s6 s7 s8 s9 h0 h4 sl;clear x1;have s7:=R1.cell 7 rfl;have s8:=R1.cell 8 rfl;have s9:=R1.cell 9 rfl;have h0:=R1.cell 10 rfl;have h4:=R1.cell 11 rfl;have sl:=R1.lt;go_wp2_with fail;refine r_ (aK C2 lo hi _ _ (HT _ X1) (aQw hh X1.size)) fun w2 x2=>?_;have X2:=hid (X1.trans x2);have R2:=hid (R1.ext x2);clear s7 s8 s9 h0 h4 sl;clear x2;have s9:=R2.cell 9 rfl;have h0:=R2.cell 10 rfl;have h4:=R2.cell 11 rfl;have sl:=R2.lt;go_wp2_with (go_at_call 46;refine z_ (aE C3 _) ?_);go_ret;exact ⟨by rw [h6,HA,h7,G0];first|rfl|simp [*],X2⟩
          ·have q2:(s.m:Int)<=5:=by omega
           have g0:decide (s.m<=5)=true:=by simp;omega
           have G0:=hid g0;clear g0;obtain ⟨s0,s1,s2,s3,s4,s5,s6,s7,s8,s9,h0,h4⟩:=h5.q12;have sl:=h5.lt;go_wp2_with fail;refine r_ (aN (c:=s.c) C1 _) fun w1 x1=>?_;have X1:=hid (HX.trans x1);have R1:=hid (h5.ext x1);clear s0 s1 s2 s3 s4 s5 s6 s7 s8 s9 h0 h4 sl;clear x1;have s7:=R1.cell 7 rfl;have s8:=R1.cell 8 rfl;have s9:=R1.cell 9 rfl;have h0:=R1.cell 10 rfl;have h4:=R1.cell 11 rfl;have sl:=R1.lt;go_wp2_with fail;refine r_ (aK C2 lo hi _ _ (HT _ X1) (aQw hh X1.size)) fun w2 x2=>?_;have X2:=hid (X1.trans x2);have R2:=hid (R1.ext x2);clear s7 s8 s9 h0 h4 sl;clear x2;have s9:=R2.cell 9 rfl;have h0:=R2.cell 10 rfl;have h4:=R2.cell 11 rfl;have sl:=R2.lt;go_wp2_with (go_at_call 46;refine z_ (aE C3 _) ?_);go_ret;exact ⟨by rw [h6,HA,h7,G0];first|rfl|simp [*],X2⟩
      ·skip
       cases b1
       ·skip
        obtain ⟨s0,s1,s2,s3,s4,s5,s6,s7,s8,s9,h0,h4⟩:=h5.q12;have sl:=h5.lt;go_wp2_with fail;refine r_ (aN (c:=s.c) C1 _) fun w1 x1=>?_;have X1:=hid (HX.trans x1);have R1:=hid (h5.ext x1);clear s0 s1 s2 s3 s4 s5 s6 s7 s8 s9 h0 h4 sl;clear x1;go_wp2;go_ret;exact ⟨by rw [h6,HA,h7];first|rfl|simp [*],X1⟩
       ·cases b2
        ·skip
         obtain ⟨s0,s1,s2,s3,s4,s5,s6,s7,s8,s9,h0,h4⟩:=h5.q12;have sl:=h5.lt;go_wp2_with fail;refine r_ (aN (c:=s.c) C1 _) fun w1 x1=>?_;have X1:=hid (HX.trans x1);have R1:=hid (h5.ext x1);clear s0 s1 s2 s3 s4 s5 s6 s7 s8 s9 h0 h4 sl;clear x1;have s7:=R1.cell 7 rfl;have s8:=R1.cell 8 rfl;have s9:=R1.cell 9 rfl;have h0:=R1.cell 10 rfl;have h4:=R1.cell 11 rfl;have sl:=R1.lt;go_wp2_with fail;refine r_ (aK C2 lo hi _ _ (HT _ X1) (aQw hh X1.size)) fun w2 x2=>?_;have X2:=hid (X1.trans x2);have R2:=hid (R1.ext x2);clear s7 s8 s9 h0 h4 sl;clear x2;go_wp2;go_ret;exact ⟨by rw [h6,HA,h7];first|rfl|simp [*],X2⟩
        ·cases b3
         ·skip
          obtain ⟨s0,s1,s2,s3,s4,s5,s6,s7,s8,s9,h0,h4⟩:=h5.q12;have sl:=h5.lt;go_wp2_with fail;refine r_ (aN (c:=s.c) C1 _) fun w1 x1=>?_;have X1:=hid (HX.trans x1);have R1:=hid (h5.ext x1);clear s0 s1 s2 s3 s4 s5 s6 s7 s8 s9 h0 h4 sl;clear x1;have s7:=R1.cell 7 rfl;have s8:=R1.cell 8 rfl;have s9:=R1.cell 9 rfl;have h0:=R1.cell 10 rfl;have h4:=R1.cell 11 rfl;have sl:=R1.lt;go_wp2_with fail;refine r_ (aK C2 lo hi _ _ (HT _ X1) (aQw hh X1.size)) fun w2 x2=>?_;have X2:=hid (X1.trans x2);have R2:=hid (R1.ext x2);clear s7 s8 s9 h0 h4 sl;clear x2;have s9:=R2.cell 9 rfl;have h0:=R2.cell 10 rfl;have h4:=R2.cell 11 rfl;have sl:=R2.lt;go_wp2_with (go_at_call 46;refine z_ (aE C3 _) ?_);go_ret;exact ⟨by rw [h6,HA,h7];first|rfl|simp [*],X2⟩
         ·rcases aRy 5 s.m with hm|hm
          ·have q2 : ¬((s.m:Int)<=5):=by omega
           have g0:decide (s.m<=5)=false:=by simp;omega
           have G0:=hid g0;clear g0;obtain ⟨s0,s1,s2,s3,s4,s5,s6,s7,s8,s9,h0,h4⟩:=h5.q12;have sl:=h5.lt;go_wp2_with fail;refine r_ (aN (c:=s.c) C1 _) fun w1 x1=>?_;have X1:=hid (HX.trans x1);have R1:=hid (h5.ext x1);clear s0 s1 s2 s3 s4 s5 s6 s7 s8 s9 h0 h4 sl;clear x1;have s7:=R1.cell 7 rfl;have s8:=R1.cell 8 rfl;have s9:=R1.cell 9 rfl;have h0:=R1.cell 10 rfl;have h4:=R1.cell 11 rfl;have sl:=R1.lt;go_wp2_with fail;refine r_ (aK C2 lo hi _ _ (HT _ X1) (aQw hh X1.size)) fun w2 x2=>?_;have X2:=hid (X1.trans x2);have R2:=hid (R1.ext x2);clear s7 s8 s9 h0 h4 sl;clear x2;have s9:=R2.cell 9 rfl;have h0:=R2.cell 10 rfl;have h4:=R2.cell 11 rfl;have sl:=R2.lt;go_wp2_with (go_at_call 46;refine z_ (aE C3 _) ?_);go_ret;exact ⟨by rw [h6,HA,h7,G0];first|rfl|simp [*],X2⟩
          ·have q2:(s.m:Int)<=5:=by omega
           have g0:decide (s.m<=5)=true:=by simp;omega
           have G0:=hid g0;clear g0;obtain ⟨s0,s1,s2,s3,s4,s5,s6,s7,s8,s9,h0,h4⟩:=h5.q12;have sl:=h5.lt;go_wp2_with fail;refine r_ (aN (c:=s.c) C1 _) fun w1 x1=>?_;have X1:=hid (HX.trans x1);have R1:=hid (h5.ext x1);clear s0 s1 s2 s3 s4 s5 s6 s7 s8 s9 h0 h4 sl;clear x1;have s7:=R1.cell 7 rfl;have s8:=R1.cell 8 rfl;have s9:=R1.cell 9 rfl;have h0:=R1.cell 10 rfl;have h4:=R1.cell 11 rfl;have sl:=R1.lt;go_wp2_with fail;refine r_ (aK C2 lo hi _ _ (HT _ X1) (aQw hh X1.size)) fun w2 x2=>?_;have X2:=hid (X1.trans x2);have R2:=hid (R1.ext x2);clear s7 s8 s9 h0 h4 sl;clear x2;have s9:=R2.cell 9 rfl;have h0:=R2.cell 10 rfl;have h4:=R2.cell 11 rfl;have sl:=R2.lt;go_wp2_with (go_at_call 46;refine z_ (aE C3 _) ?_);go_ret;exact ⟨by rw [h6,HA,h7,G0];first|rfl|simp [*],X2⟩
      ·skip
       cases b1
       ·skip
        obtain ⟨s0,s1,s2,s3,s4,s5,s6,s7,s8,s9,h0,h4⟩:=h5.q12;have sl:=h5.lt;go_wp2_with fail;refine r_ (aN (c:=s.c) C1 _) fun w1 x1=>?_;have X1:=hid (HX.trans x1);have R1:=hid (h5.ext x1);clear s0 s1 s2 s3 s4 s5 s6 s7 s8 s9 h0 h4 sl;clear x1;go_wp2;go_ret;exact ⟨by rw [h6,HA,h7];first|rfl|simp [*],X1⟩
       ·cases b2
        ·skip
         obtain ⟨s0,s1,s2,s3,s4,s5,s6,s7,s8,s9,h0,h4⟩:=h5.q12;have sl:=h5.lt;go_wp2_with fail;refine r_ (aN (c:=s.c) C1 _) fun w1 x1=>?_;have X1:=hid (HX.trans x1);have R1:=hid (h5.ext x1);clear s0 s1 s2 s3 s4 s5 s6 s7 s8 s9 h0 h4 sl;clear x1;have s7:=R1.cell 7 rfl;have s8:=R1.cell 8 rfl;have s9:=R1.cell 9 rfl;have h0:=R1.cell 10 rfl;have h4:=R1.cell 11 rfl;have sl:=R1.lt;go_wp2_with fail;refine r_ (aK C2 lo hi _ _ (HT _ X1) (aQw hh X1.size)) fun w2 x2=>?_;have X2:=hid (X1.trans x2);have R2:=hid (R1.ext x2);clear s7 s8 s9 h0 h4 sl;clear x2;go_wp2;go_ret;exact ⟨by rw [h6,HA,h7];first|rfl|simp [*],X2⟩
        ·cases b3
         ·skip
          obtain ⟨s0,s1,s2,s3,s4,s5,s6,s7,s8,s9,h0,h4⟩:=h5.q12;have sl:=h5.lt;go_wp2_with fail;refine r_ (aN (c:=s.c) C1 _) fun w1 x1=>?_;have X1:=hid (HX.trans x1);have R1:=hid (h5.ext x1);clear s0 s1 s2 s3 s4 s5 s6 s7 s8 s9 h0 h4 sl;clear x1;have s7:=R1.cell 7 rfl;have s8:=R1.cell 8 rfl;have s9:=R1.cell 9 rfl;have h0:=R1.cell 10 rfl;have h4:=R1.cell 11 rfl;have sl:=R1.lt;go_wp2_with fail;refine r_ (aK C2 lo hi _ _ (HT _ X1) (aQw hh X1.size)) fun w2 x2=>?_;have X2:=hid (X1.trans x2);have R2:=hid (R1.ext x2);clear s7 s8 s9 h0 h4 sl;clear x2;have s9:=R2.cell 9 rfl;have h0:=R2.cell 10 rfl;have h4:=R2.cell 11 rfl;have sl:=R2.lt;go_wp2_with (go_at_call 46;refine z_ (aE C3 _) ?_);go_ret;exact ⟨by rw [h6,HA,h7];first|rfl|simp [*],X2⟩
         ·rcases aRy 5 s.m with hm|hm
          ·have q2 : ¬((s.m:Int)<=5):=by omega
           have g0:decide (s.m<=5)=false:=by simp;omega
           have G0:=hid g0;clear g0;obtain ⟨s0,s1,s2,s3,s4,s5,s6,s7,s8,s9,h0,h4⟩:=h5.q12;have sl:=h5.lt;go_wp2_with fail;refine r_ (aN (c:=s.c) C1 _) fun w1 x1=>?_;have X1:=hid (HX.trans x1);have R1:=hid (h5.ext x1);clear s0 s1 s2 s3 s4 s5 s6 s7 s8 s9 h0 h4 sl;clear x1;have s7:=R1.cell 7 rfl;have s8:=R1.cell 8 rfl;have s9:=R1.cell 9 rfl;have h0:=R1.cell 10 rfl;have h4:=R1.cell 11 rfl;have sl:=R1.lt;go_wp2_with fail;refine r_ (aK C2 lo hi _ _ (HT _ X1) (aQw hh X1.size)) fun w2 x2=>?_;have X2:=hid (X1.trans x2);have R2:=hid (R1.ext x2);clear s7 s8 s9 h0 h4 sl;clear x2;have s9:=R2.cell 9 rfl;have h0:=R2.cell 10 rfl;have h4:=R2.cell 11 rfl;have sl:=R2.lt;go_wp2_with (go_at_call 46;refine z_ (aE C3 _) ?_);go_ret;exact ⟨by rw [h6,HA,h7,G0];first|rfl|simp [*],X2⟩
          ·have q2:(s.m:Int)<=5:=by omega
           have g0:decide (s.m<=5)=true:=by simp;omega
           have G0:=hid g0;clear g0;obtain ⟨s0,s1,s2,s3,s4,s5,s6,s7,s8,s9,h0,h4⟩:=h5.q12;have sl:=h5.lt;go_wp2_with fail;refine r_ (aN (c:=s.c) C1 _) fun w1 x1=>?_;have X1:=hid (HX.trans x1);have R1:=hid (h5.ext x1);clear s0 s1 s2 s3 s4 s5 s6 s7 s8 s9 h0 h4 sl;clear x1;have s7:=R1.cell 7 rfl;have s8:=R1.cell 8 rfl;have s9:=R1.cell 9 rfl;have h0:=R1.cell 10 rfl;have h4:=R1.cell 11 rfl;have sl:=R1.lt;go_wp2_with fail;refine r_ (aK C2 lo hi _ _ (HT _ X1) (aQw hh X1.size)) fun w2 x2=>?_;have X2:=hid (X1.trans x2);have R2:=hid (R1.ext x2);clear s7 s8 s9 h0 h4 sl;clear x2;have s9:=R2.cell 9 rfl;have h0:=R2.cell 10 rfl;have h4:=R2.cell 11 rfl;have sl:=R2.lt;go_wp2_with (go_at_call 46;refine z_ (aE C3 _) ?_);go_ret;exact ⟨by rw [h6,HA,h7,G0];first|rfl|simp [*],X2⟩
     ·have x6:pV s.side=false:=by cases h:pV s.side with|true=>exact absurd h hs|false=>rfl
      have z0:=hid x6
      have h1 : ¬s.side=1:=fun h=>by rw [h] at hs;exact hs rfl
      have h2 : ¬s.side=2:=fun h=>by rw [h] at hs;exact hs rfl
      have h3 : ¬s.side=4:=fun h=>by rw [h] at hs;exact hs rfl
      clear hs x6;obtain ⟨s0,s1,s2,s3,s4,s5,s6,s7,s8,s9,h0,h4⟩:=HB.q12;have sl:=HB.lt;go_wp2;go_ret;exact ⟨by rw [h6,HA,z0];simp,HX⟩
def Rd {α : Type} (cs : α->List Value) (lo hi:Nat) (w:World) (v:Value) (ys:List α):Prop:=
 ∃ad c,v = .slice ad ys.length c/\ys.length<=c/\c<=9223372036854775807/\(ad=none->c=0)/\(ys=[]\/∃b off,ad=some ⟨b,off,none⟩/\lo<=b/\b<hi/\∀j u,(ys.flatMap cs)[j]?=some u->w.cell? ⟨b,off+j,none⟩=some u)
theorem Rd.same {α : Type} {cs : α->List Value} {ys:List α} (h:Rd cs lo hi w v ys) (s:aM lo hi w w'):Rd cs lo hi w' v ys:=by
 obtain ⟨ad,c,h1,h2,h3,h4,h5⟩:=h;refine ⟨ad,c,h1,h2,h3,h4,?_⟩
 rcases h5 with h5|⟨b,off,e,l1,l2,hc⟩
 ·exact .inl h5
 ·exact .inr ⟨b,off,e,l1,l2,fun j u hj=>(s.cell l1 l2).trans (hc j u hj)⟩
theorem Rd.ext {α : Type} {cs : α->List Value} {ys:List α} (h:Rd cs lo hi w v ys) (hh:hi<=w.heap.size) (e:Ext w w'):Rd cs lo hi w' v ys:=h.same (e.same hh)
theorem aF.rd {α : Type} {cs : α->List Value} {xs:List α} (h:aF cs lo e sz w v xs) (hc:∀x,(cs x).length=sz):Rd cs lo w.heap.size w v xs:=by
 obtain ⟨h1,h2⟩:=h
 rcases h2 with ⟨rfl,h4⟩|⟨g,cap,cur,rfl,hb,hg,hcap,hm,hs,ht⟩
 ·have:xs=[]:=aVa h4
  subst this;exact ⟨none,0,rfl,aQo _,by omega,fun _=>rfl,.inl rfl⟩
 ·refine ⟨_,cap,rfl,hcap,by unfold maxLen at hm;omega,(fun h=>nomatch h),.inr ⟨g,0,rfl,hb,(aQ9.1 hg).1,fun j u hj=>?_⟩⟩
  have hl:=(aQq.1 hj).1;rw [gI hc] at hl;rw [<-ht,aSr,if_pos hl] at hj;simp only [aSn,hg,aRl]
  simpa using hj
theorem aF.freshC {α : Type} {cs : α->List Value} (hl:lo<=g) (h:Blk w g e []):aF cs lo e sz w (.slice (some ⟨g,0,none⟩) 0 0) []:=
 ⟨by simp,.inr ⟨g,0,#[],rfl,hl,h,aQo _,by unfold maxLen;omega,by simp,by simp⟩⟩
theorem Rd.nil {α : Type} (cs : α->List Value) (lo hi:Nat) (w:World):Rd cs lo hi w (.slice none 0 0) ([]:List α):=⟨none,0,rfl,aQo _,by omega,fun _=>rfl,.inl rfl⟩
theorem Rd.form {α : Type} {cs : α->List Value} {ys:List α} (h:Rd cs lo hi w v ys):∃ad c,v = .slice ad ys.length c/\ys.length<=c/\c<=9223372036854775807/\Rd cs lo hi w (.slice ad ys.length c) ys:=by
 obtain ⟨ad,c,rfl,h2,h3,h4⟩:=h;exact ⟨ad,c,rfl,h2,h3,_,c,rfl,h2,h3,h4⟩
theorem Rd.at {α : Type} {cs : α->List Value} (hc:∀x,(cs x).length=sz) {ad:Option Addr} {c:Nat} {ys:List α} (h:Rd cs lo hi w (.slice ad n c) ys) {y : α} (hk:ys[k]?=some y) :
  ∃b off,ad=some ⟨b,off,none⟩/\lo<=b/\b<hi/\∀j,j<sz->w.cell? ⟨b,off+k*sz+j,none⟩=(cs y)[j]?:=by
 obtain ⟨h1,c',e,h2,h3,h4,h5⟩:=h;simp only [aRi] at e;obtain ⟨rfl,rfl,rfl⟩:=e
 rcases h5 with rfl|⟨b,off,rfl,l1,l2,hcell⟩
 ·cases hk
 refine ⟨b,off,rfl,l1,l2,fun j hj=>?_⟩;have e2:=mI (cs:=cs) (sz:=sz) hc hk j hj
 have h0:j<(cs y).length:=by rw [hc];exact hj
 rw [aQ0 h0] at e2 ⊢;rw [Nat.add_assoc];exact hcell _ _ e2
theorem cR {α : Type} (cs : α->List Value) (e:TypeId) (sz bytes:Nat) (z:Value) (w:World) (hg:o.guard=none) (s x:Operand) (t:TypeId)
  (hop:o.op=Op.call { callee:=aTe aTd,args:=#[s,x],argTypes:=#[t,t] }) (ht:Tryz.prog.underlying t=some (.slice e))
  (hinfo:(Tryz.prog.info? e).map (fun i=>(i.zero,i.size,i.bytes))=some (some z,sz,bytes)) (hzs:z.cells.size=sz) (hsz:0<sz) (hby:bytes<=1000) (hc:∀x,(cs x).length=sz) (h1:∀y,∀u∈cs y,u.oneCell'=true)
  (lo:Nat) (v:Value) (xs:List α) (hs:a.eval s=v) (hown:aF cs lo e sz w v xs)
  (lo2 hi2:Nat) (u:Value) (ys:List α) (hx:a.eval x=u) (hu:Rd cs lo2 hi2 w u ys) (hlen:xs.length+ys.length<=10000000) (hlo:lo<=w.heap.size)
  (hK:∀v' w',aF cs lo e sz w' v' (xs++ys)->w.grownBy w' v.ownBlock->wpList aQt ops Q rest (a.put o.dst v') w'):wpList aQt ops Q (o::rest) a w:=by
 obtain ⟨i0,h7,h9,q0,q1⟩:=info_parts hinfo;obtain ⟨ad,c,rfl,h2,h3,h4,h5⟩:=hu
 cases ad with
 | none=>
  have hy:ys=[]:=by
   rcases h5 with h5|⟨b,off,e',_⟩
   ·exact h5
   ·cases e'
  have h8:=h4 rfl;subst hy h8;have hr:=run_append_owned_none (w:=w) lo t o.type e i0 sz ht h7 v xs.length _ hown;refine wpList_plain hg fun _ hK'=>?_;unfold Oper.wp execOp;simp only [hop,resolve,invoke,builtin,aYt,aZ7,aWy,aYh,aSu,aVy,hs,hx,aSx,hr];exact hK' _ _ (hK v w (by rw [aTk];exact hown) (grownBy.refl _ _))
 | some ad=>
  refine wpList_append_own w hg s x t hop lo e i0 z sz bytes ht h7 h9 q0 q1 hzs hsz v xs.length _ hs hown ad ys.length c (ys.flatMap cs) hx (gI hc ys) ?_ ?_ ?_ ?_ hlo ?_
  ·intro j q hj
   rcases h5 with rfl|⟨b,off,e',l1,l2,hcell⟩
   ·cases hj
   ·cases e'
    have ea:(⟨b,off,none⟩:Addr).add j=⟨b,off+j,none⟩:=by
     unfold Addr.add
     split <;> simp_all
    rw [ea];exact hcell j q hj
  ·intro q hq
   obtain ⟨y,hy,hq⟩:=aU7.1 hq;exact h1 y q hq
  ·unfold maxLen;omega
  ·have:(xs.length+ys.length)*bytes<=10000000*1000:=aRq hlen hby
   omega
  ·intro v' w1 h6 h0 _
   refine hK v' w1 ?_ h0;unfold aF;rw [aRg,aR1];exact h6
theorem Ins.one (y:Ins):∀u∈y.cs,u.oneCell'=true:=by
 intro u hu;simp only [Ins.cs,aRb,aQ5,or_false] at hu
 rcases hu with rfl|rfl|rfl <;> rfl
theorem aJf {p:Prg} {ra:List Int} (hj:j<ra.length):((ra.take (j+1)).flatMap fun a=>p.tr a.toNat)=((ra.take j).flatMap fun a=>p.tr a.toNat)++p.tr (ra[j]).toNat:=by
 rw [aRk hj,aR1];simp
theorem aM1 (lo hi lo2 hi2:Nat) (p:Prg) (hp:p.K) (W W2:World) (a1 a2:Option Addr) (c1 c2:Nat) (HN:rE lo hi W a1 c1 p.ns) (hh:hi<=W.heap.size) (lv:Value) (hL:qF lo2 hi2 W2 lv (p.gs.map (·.name))) (hh2:hi2<=W2.heap.size) :
  ∀(F r:Nat) (w:World),r<F->r<p.ns.length->Ext W w->Ext W2 w->(p.tr r).length<=1000->Calls aQt 191 #[.agg #[.slice a1 p.ns.length c1,.slice a2 p.gs.length c2],lv,(r:Nat)] w fun e w'=>∃u,e = .returned u/\fV w.heap.size w' u (p.tr r)/\Ext w w':=by
 intro F
 induction F with
 | zero=>intro r w h;omega
 | succ F ih=>
  intro r w hF hr hx y7 q5;have IH:=hid ih;have HP:=hid hp;have a4:=hid hL;have l1:=HN.le;have l2:=HN.cap;have l5:=hp.v.len;have l6:=hp.v.gs_len;obtain ⟨b,q4,op,s,n,ua,ra,rfl,b2,b3,x8,h9,io,b6,y4,x0,x1,x2,x3⟩:=HN.at hr hx hh;have hk:=jI (hp.v.nd r _ h9).1;have x5:=hid (hp.v.nd r _ h9).2;have z8:=hp.v.tr_step h9
  have y3:(ra.flatMap fun a=>p.tr a.toNat).length<=1000:=by rw [z8,aRg] at q5;simp only at q5;omega
  have z9:=hid y3;have a8:=hid z8;have HG:=hid h9;have HX:=hid hx;have y1:=hid y7;obtain ⟨ax,ac,rfl,HI⟩:=y4.open;have m1:=HI.le;have m2:=HI.cap;have y9:=hid HI
  have b4:ra.length<=3:=by rcases hk with ⟨_,_,h⟩|⟨_,h⟩|⟨_,h⟩|⟨_,_,h⟩|⟨_,h⟩ <;> (simp only at h;omega)
  have HK:=hid hk;have zz:=hx.size;have y8:Ext w (((w.alloc (.cells #[.slice (some ⟨b,q4,none⟩) p.ns.length c1,.slice a2 p.gs.length c2] 119)).alloc (.cells #[op,.string s,n,.slice ax ra.length ac] 197)).alloc (.cells #[] 221)):=X_;have bP:=(aQx w 119 [.slice (some ⟨b,q4,none⟩) p.ns.length c1,.slice a2 p.gs.length c2]).ext (show Ext (w.alloc (.cells #[.slice (some ⟨b,q4,none⟩) p.ns.length c1,.slice a2 p.gs.length c2] 119)) (((w.alloc (.cells #[.slice (some ⟨b,q4,none⟩) p.ns.length c1,.slice a2 p.gs.length c2] 119)).alloc (.cells #[op,.string s,n,.slice ax ra.length ac] 197)).alloc (.cells #[] 221)) from X_);have bN:=(aQx (w.alloc (.cells #[.slice (some ⟨b,q4,none⟩) p.ns.length c1,.slice a2 p.gs.length c2] 119)) 197 [op,.string s,n,.slice ax ra.length ac]).ext (show Ext ((w.alloc (.cells #[.slice (some ⟨b,q4,none⟩) p.ns.length c1,.slice a2 p.gs.length c2] 119)).alloc (.cells #[op,.string s,n,.slice ax ra.length ac] 197)) (((w.alloc (.cells #[.slice (some ⟨b,q4,none⟩) p.ns.length c1,.slice a2 p.gs.length c2] 119)).alloc (.cells #[op,.string s,n,.slice ax ra.length ac] 197)).alloc (.cells #[] 221)) from X_);have bO:=aQx ((w.alloc (.cells #[.slice (some ⟨b,q4,none⟩) p.ns.length c1,.slice a2 p.gs.length c2] 119)).alloc (.cells #[op,.string s,n,.slice ax ra.length ac] 197)) 221 [];simp only [aQp] at bN bO;have y0:=hid y8;have q9:=hid bP;have q1:=hid bN;have HO:=hid (show fV w.heap.size (((w.alloc (.cells #[.slice (some ⟨b,q4,none⟩) p.ns.length c1,.slice a2 p.gs.length c2] 119)).alloc (.cells #[op,.string s,n,.slice ax ra.length ac] 197)).alloc (.cells #[] 221)) (.slice (some ⟨w.heap.size+1+1,0,none⟩) 0 0) [] from aF.freshC (by omega) bO);clear ih hp hL x8 h9 y4 HI hk hx y7 z8 y3 q5 bP bN bO y8;go_enter func191,ntmps191;go_wp2_with fail
  go_loopw [8,20] (fun v i wr=>∃(k:Nat) (xs:List Ins),k<=ra.length/\i = .int .i64 (k:Nat)/\xs=((ra.take k).flatMap fun a=>p.tr a.toNat)/\fV w.heap.size wr v xs/\Blk wr w.heap.size 119 [.slice (some ⟨b,q4,none⟩) p.ns.length c1,.slice a2 p.gs.length c2]/\Blk wr (w.heap.size+1) 197 [op,.string s,n,.slice ax ra.length ac]/\Ext w wr) (fun _ i _=>ra.length - (intOf i).toNat)
  case atStart=>exact ⟨0,[],by omega,rfl,rfl,HO,q9,q1,y0⟩
  case round=>
   clear y0 q9 q1 HO;obtain ⟨k,xs,hk,rfl,z0,ho,x6,q7,hx⟩:=hrel;obtain ⟨xa,xc,rfl,-⟩:=aF.form ho;have z4:=hid z0
   have b5:xs.length<=1000:=by rw [z0];exact aQw (oW hk) z9
   by_cases z7:k<ra.length
   ·obtain ⟨b',b1,rfl,d1,d2,hc⟩:=y9.at z7
    have ha:=x5.out ra[k] (aQ8 z7);have x9:=aJf (p:=p) z7
    obtain ⟨q,hq⟩:∃q:Nat,ra[k]=q:=⟨ra[k].toNat,by omega⟩
    rw [hq] at hc ha x9;simp only [aRh] at x9
    have y6:xs.length+(p.tr q).length<=1000:=by rw [z0,<-aRg,<-x9];exact aQw (oW (by omega)) z9
    have a7:=hid x9;have HO:=hid ho;have q9:=hid x6;have q1:=hid q7;have h6:=hid hx;have b0:=(hx.cells.1 b' _ (by omega)).trans hc;obtain ⟨p0,p1⟩:=x6.q2;have pl:=x6.lt
    have bl:b'<wr.heap.size:=by have:=hx.size;omega
    have TL:=hid (show (p.tr q).length<=1000 by omega);have a3:=hid y6;clear z0 ho x6 q7 hx hc x9 hq y6;go_wp2_with fail;refine (IH q wr (by omega) (by omega) (HX.trans h6) (y1.trans h6) TL).mono ?_;rintro e w3 ⟨u,rfl,O3,x3⟩;have a5:=hid (aF.rd (sz:=3) O3 (fun _=>rfl));have z1:=hid (aF.ext HO x3);have x4:=hid (q9.ext x3);have q8:=hid (q1.ext x3);have y2:=hid (h6.trans x3);have b7:=y2.size;clear O3 x3 HO q9 q1 h6 p0 p1 pl b0;go_wp2_with (at_builtin;refine cR Ins.cs 221 3 32 _ w3 rfl _ _ 160 rfl underlying160 tK rfl (by decide) (by decide) (fun _=>rfl) Ins.one w.heap.size (.slice xa xs.length xc) xs rfl z1 _ _ u (p.tr q) rfl a5 ?_ ?_ ?_)
    ·have:=a3.out;omega
    ·omega
    intro v4 w4 h0 hg;have a6:=hid h0;have z3:=hid (x4.grown hg (bT x4 (by decide) z1));have z2:=hid (q8.grown hg (bT q8 (by decide) z1));have a9:=hid (aRz y2 hg (fun k hk=>(aF.lt z1 k hk).1));clear h0 hg;go_wp2;go_roundw
    case rel=>exact ⟨k+1,xs++p.tr q,by omega,by go_num,by rw [z4,a7],a6,z3,z2,a9⟩
    case measure=>simp [intOf];omega
   ·obtain rfl:k=ra.length:=by omega
    rw [aRo] at z4;have q1:=hid q7;have h6:=hid hx;have HO:=hid ho;obtain ⟨n0,n1,n2⟩:=q7.q3;have nl:=q7.lt;have zw:=hx.size;have q6:=hid (show ∀(y:Ins) (v':Value) (w':World),bJ p ⟨op,s,n,ra⟩=y->fV w.heap.size w' v' (xs++[y])->Ext w w'->∃u,Ending.returned v' = .returned u/\fV w.heap.size w' u (p.tr r)/\Ext w w' from fun y v' w' hy h1 h2=>⟨_,rfl,by rw [a8,hy,<-z4];exact h1,h2⟩);clear z0 ho x6 q7 hx
    rcases HK with ⟨rfl,-,-⟩|⟨rfl,-⟩|⟨rfl,-⟩|⟨o1,o2,-⟩|⟨rfl,-⟩
    ·skip
     have y5:Ext wr (wr.alloc (.cells #[.int .i64 1,.string ⟨#[]⟩,n] 221)):=X_;have h4:=hid (aF.ext HO y5);have h5:=hid (h6.trans y5);have q0:=h5.size;clear y5;go_wp2_with (at_builtin;refine bZ _ rfl _ _ rfl w.heap.size (.slice xa xs.length xc) xs rfl ?_ ⟨1,⟨#[]⟩,n⟩ wr.heap.size rfl ?_ ?_ ?_ ?_)
     ·exact h4
     ·omega
     ·first|exact q0|omega
     intro v6 w6 h0 hg;have h7:=aRz h5 hg (fun k hk=>(aF.lt h4 k hk).1);go_wp2;go_ret;exact q6 _ _ _ rfl h0 h7
    ·cases hv:cT s
     ·have z6:ixL s.toList (p.gs.map (·.name))=((pG p s:Nat):Int):=by
       obtain ⟨i,hi,_⟩:=HP.name r _ HG rfl hv;rw [vB];unfold pG;rw [hi]
       rfl
      have hy:bJ p ⟨2,s,n,ra⟩=⟨3,⟨#[]⟩,((pG p s:Nat):Int)⟩:=by unfold bJ;simp [hv]
      obtain ⟨z,hz⟩:∃z,((pG p s:Nat):Int)=z:=⟨_,rfl⟩
      rw [hz] at z6 hy;have a0:=hid z6;have z5:=hid hy;clear z6 hy hz;go_wp2_with fail;refine r_ (dO hv _) fun w7 x7=>?_;replace HO:=hid (aF.ext HO x7);replace h6:=hid (h6.trans x7);have n1:=(q1.ext x7).cell 1 rfl;have nl:=(q1.ext x7).lt;go_wp2_with fail;refine (wX lo2 hi2 _ _ s _ (a4.ext hh2 (y1.trans h6)) (by rw [aR7];omega)).mono ?_;rw [a0];rintro e w8 ⟨rfl,rfl⟩;have y5:Ext w7 (w7.alloc (.cells #[.int .i64 3,.string ⟨#[]⟩,z] 221)):=X_;have h4:=hid (aF.ext HO y5);have h5:=hid (h6.trans y5);have q0:=h5.size;clear y5;go_wp2_with (at_builtin;refine bZ _ rfl _ _ rfl w.heap.size (.slice xa xs.length xc) xs rfl ?_ ⟨3,⟨#[]⟩,z⟩ w7.heap.size rfl ?_ ?_ ?_ ?_)
      ·exact h4
      ·omega
      ·first|exact q0|omega
      intro v6 w6 h0 hg;have h7:=aRz h5 hg (fun k hk=>(aF.lt h4 k hk).1);go_wp2;go_ret;exact q6 _ _ _ z5 h0 h7
     ·have hy:bJ p ⟨2,s,n,ra⟩=⟨2,s,0⟩:=by unfold bJ;simp [hv]
      have z5:=hid hy;clear hy;go_wp2_with fail;refine r_ (dO hv _) fun w7 x7=>?_;replace HO:=hid (aF.ext HO x7);replace h6:=hid (h6.trans x7);have n1:=(q1.ext x7).cell 1 rfl;have nl:=(q1.ext x7).lt;have y5:Ext w7 (w7.alloc (.cells #[.int .i64 2,.string s,()] 221)):=X_;have h4:=hid (aF.ext HO y5);have h5:=hid (h6.trans y5);have q0:=h5.size;clear y5;go_wp2_with (at_builtin;refine bZ _ rfl _ _ rfl w.heap.size (.slice xa xs.length xc) xs rfl ?_ ⟨2,s,0⟩ w7.heap.size rfl ?_ ?_ ?_ ?_)
      ·exact h4
      ·omega
      ·first|exact q0|omega
      intro v6 w6 h0 hg;have h7:=aRz h5 hg (fun k hk=>(aF.lt h4 k hk).1);go_wp2;go_ret;exact q6 _ _ _ z5 h0 h7
    ·skip
     have y5:Ext wr (wr.alloc (.cells #[.int .i64 5,.string ⟨#[]⟩,.int .i64 3] 221)):=X_;have h4:=hid (aF.ext HO y5);have h5:=hid (h6.trans y5);have q0:=h5.size;clear y5;go_wp2_with (at_builtin;refine bZ _ rfl _ _ rfl w.heap.size (.slice xa xs.length xc) xs rfl ?_ ⟨5,⟨#[]⟩,3⟩ wr.heap.size rfl ?_ ?_ ?_ ?_)
     ·exact h4
     ·omega
     ·first|exact q0|omega
     intro v6 w6 h0 hg;have h7:=aRz h5 hg (fun k hk=>(aF.lt h4 k hk).1);go_wp2;go_ret;exact q6 _ _ _ rfl h0 h7
    ·have h1 : ¬op=1:=by omega
     have h2 : ¬op=2:=by omega
     have h3 : ¬op=3:=by omega
     have h8 : ¬op=8:=by omega
     have hy:=hid (show bJ p ⟨op,s,n,ra⟩=⟨6,⟨#[]⟩,op⟩ by unfold bJ;simp [h1,h2,h3,h8]);have y5:Ext wr (wr.alloc (.cells #[.int .i64 6,.string ⟨#[]⟩,op] 221)):=X_;have h4:=hid (aF.ext HO y5);have h5:=hid (h6.trans y5);have q0:=h5.size;clear y5;go_wp2_with (at_builtin;refine bZ _ rfl _ _ rfl w.heap.size (.slice xa xs.length xc) xs rfl ?_ ⟨6,⟨#[]⟩,op⟩ wr.heap.size rfl ?_ ?_ ?_ ?_)
     ·exact h4
     ·omega
     ·first|exact q0|omega
     intro v6 w6 h0 hg;have h7:=aRz h5 hg (fun k hk=>(aF.lt h4 k hk).1);go_wp2;go_ret;exact q6 _ _ _ hy.out h0 h7
    ·skip
     have y5:Ext wr (wr.alloc (.cells #[.int .i64 7,.string s,()] 221)):=X_;have h4:=hid (aF.ext HO y5);have h5:=hid (h6.trans y5);have q0:=h5.size;clear y5;go_wp2_with (at_builtin;refine bZ _ rfl _ _ rfl w.heap.size (.slice xa xs.length xc) xs rfl ?_ ⟨7,s,0⟩ wr.heap.size rfl ?_ ?_ ?_ ?_)
     ·exact h4
     ·omega
     ·first|exact q0|omega
     intro v6 w6 h0 hg;have h7:=aRz h5 hg (fun k hk=>(aF.lt h4 k hk).1);go_wp2;go_ret;exact q6 _ _ _ rfl h0 h7
section
open Go.RowKit Go.Maps Go.WideMaps
structure SB (p:Prg) (P R C lo:Nat) (a1 a2:Option Addr) (c1 c2:Nat) (w:World) (xs:List Ins) (iv:Value) (ls:List ByteArray) (lv:Value):Prop where
 prog:Blk w P 119 [.slice a1 p.ns.length c1,.slice a2 p.gs.length c2]
 res:Blk w R 163 [.slice none 0 0,.slice none 0 0]
 code:Blk w C 163 [iv,lv]
 ins:fV lo w iv xs
 loc:cG lo w lv ls
 low:lo<=C/\R<lo
theorem SB.ext {p:Prg} {P R C lo:Nat} {a1 a2:Option Addr} {c1 c2:Nat} {w w':World} {xs:List Ins} {iv:Value} {ls:List ByteArray} {lv:Value} (h:SB p P R C lo a1 a2 c1 c2 w xs iv ls lv) (x:Ext w w'):SB p P R C lo a1 a2 c1 c2 w' xs iv ls lv:=
 ⟨h.prog.ext x,h.res.ext x,h.code.ext x,aF.ext h.ins x,h.loc.ext x,h.low⟩
theorem SB.kn {p:Prg} {P R C lo:Nat} {a1 a2:Option Addr} {c1 c2:Nat} {w w':World} {xs xs':List Ins} {iv iv':Value} {ls:List ByteArray} {lv:Value} (h:SB p P R C lo a1 a2 c1 c2 w xs iv ls lv) (k:KN lo C 221 w w') (hc:Blk w' C 163 [iv',lv]) (hi:fV lo w' iv' xs'):SB p P R C lo a1 a2 c1 c2 w' xs' iv' ls lv:=
 ⟨KN.blk h.prog k (h.prog.neq h.code (by decide)) (by decide),KN.blk h.res k (by have:=h.low;omega) (by decide),hc,hi,KN.strs h.loc k (h.code.noCells (by decide)) (by decide),h.low⟩
theorem SB.knS {p:Prg} {P R C lo:Nat} {a1 a2:Option Addr} {c1 c2:Nat} {w w':World} {xs:List Ins} {iv lv lv':Value} {ls ls':List ByteArray} (h:SB p P R C lo a1 a2 c1 c2 w xs iv ls lv) (k:KN lo C 9 w w') (hc:Blk w' C 163 [iv,lv']) (hl:cG lo w' lv' ls'):SB p P R C lo a1 a2 c1 c2 w' xs iv ls' lv':=
 ⟨KN.blk h.prog k (h.prog.neq h.code (by decide)) (by decide),KN.blk h.res k (by have:=h.low;omega) (by decide),hc,KN.row h.ins k (h.code.noCells (by decide)) (by decide),hl,h.low⟩
theorem aCf (lo hi:Nat) (v:Value) (p:Prg) (w:World) (hv:p.R lo hi w v) (hh:hi<=w.heap.size) (hchk:p.chkB=true) (hbd:p.bd) (hnl:p.ns.length<=1048576) (hgl:p.gs.length<=1048576) :
  Calls aQt 140 #[v] w fun e w'=>∃u,e = .returned (.tuple #[u,.bool true])/\p.code.R w.heap.size w'.heap.size w' u/\Ext w w':=by
 have HV:=hid hv;have hp:=Prg.chkB_K hchk;have HP:=hid hp;have b7:=hid hchk;obtain ⟨a1,c1,a2,c2,rfl,HN,HG⟩:=hv.form;have l1:=HN.le;have l2:=HN.cap;have l3:=HG.le;have l4:=HG.cap;have l5:=hp.v.len;have l6:=hp.v.gs_len;have c3:=hid HN;have y5:=hid HG
 have q4:∀x∈p.ns,I64 x.num:=fun x hx=>by
  obtain ⟨i,hi,d6⟩:=aRn hx;exact (HN.cell i x (by rw [<-d6];simp [hi])).1.2
 have b3:=hid (aK8 hp hgl q4);have a6:=nX hp;have b8:=hid a6;have b0:=aQx w 119 [.slice a1 p.ns.length c1,.slice a2 p.gs.length c2];have r0:=aQx (w.alloc (.cells #[.slice a1 p.ns.length c1,.slice a2 p.gs.length c2] 119)) 163 [.slice none 0 0,.slice none 0 0];rw [aQp] at r0;have x0:Ext w ((w.alloc (.cells #[.slice a1 p.ns.length c1,.slice a2 p.gs.length c2] 119)).alloc (.cells #[.slice none 0 0,.slice none 0 0] 163)):=X_;have y4:=hid (b0.ext (show Ext _ ((w.alloc (.cells #[.slice a1 p.ns.length c1,.slice a2 p.gs.length c2] 119)).alloc (.cells #[.slice none 0 0,.slice none 0 0] 163)) from X_));have y9:=hid r0;have q8:=hid x0;clear hv hp hchk b0 r0 x0 q4 a6 HN HG;go_enter func140,ntmps140;go_wp2_with fail;refine (wK lo hi _ p _ (HV.ext hh q8) (aQw hh q8.size) hbd hnl hgl).mono ?_;rintro e w1 ⟨⟨c,k,rfl,hc⟩,x1⟩;rw [b7] at hc
 obtain rfl:c=0:=by simpa using hc
 have c6:=hid (q8.trans x1);have x9:=hid (y4.ext x1);have z0:=hid (y9.ext x1);have e5:w.heap.size+1<w1.heap.size:=z0.lt;clear x1 q8 y4 y9 hc;have xb:Ext w1 (w1.alloc (.cells #[.slice none 0 0,.slice none 0 0] 163)):=X_
 have a0:=hid (show SB p w.heap.size (w.heap.size+1) w1.heap.size w1.heap.size a1 a2 c1 c2 (w1.alloc (.cells #[.slice none 0 0,.slice none 0 0] 163)) [] (.slice none 0 0) [] (.slice none 0 0) from
  ⟨x9.ext xb,z0.ext xb,aQx w1 163 [.slice none 0 0,.slice none 0 0],aF.nil _ _ _ _ _,cG.nil _ _,⟨aQo _,e5⟩⟩)
 have a4:=hid (c6.trans xb);have q1:=(x9.ext xb).cell 1 rfl;clear xb x9 z0;go_wp2_with fail
 go_loopw [23] (fun i wr=>∃(k:Nat) (lv:Value),k<=p.gs.length/\i = .int .i64 (k:Nat)/\SB p w.heap.size (w.heap.size+1) w1.heap.size w1.heap.size a1 a2 c1 c2 wr [] (.slice none 0 0) ((p.gs.take k).map (·.name)) lv/\Ext w wr) (fun i _=>p.gs.length - (intOf i).toNat)
 case atStart=>exact ⟨0,_,by omega,rfl,a0,a4⟩
 case round=>
  clear a0 a4 q1;obtain ⟨k,lv,hk,rfl,hS,hx⟩:=hrel
  by_cases y2:k<p.gs.length
  ·obtain ⟨b,b2,s,rt,rfl,d4,d5,h6,h4,ir,y0,y1⟩:=y5.at y2 hx hh
   have b9:=hid h4
   obtain ⟨NL,h7⟩:∃N,(p.gs.take k).map (·.name)=N:=⟨_,rfl⟩
   have z4:NL.length<=200:=by rw [<-h7,aR7,aRf];omega
   rw [h7] at hS;have q7:=hid h7;obtain ⟨la,lc,rfl,-⟩:=hS.loc.form;have HS:=hid hS;have HX:=hid hx;have yA:Ext wr ((wr.alloc (.cells #[.string s,rt] 200)).alloc (.cells #[.string s] 9)):=X_;have HY:=hid yA;have q3:=hid (hS.ext yA);have b6:=aQx (wr.alloc (.cells #[.string s,rt] 200)) 9 [.string s];rw [aQp] at b6;have b4:=hid b6;obtain ⟨q9,x2⟩:=hS.code.q2;have d2:=hS.code.free 1;have cl:=hS.code.lt;have zr:=hx.size;have zy:=yA.size;clear hS hx h7 h6 h4 yA b6;go_wp2_with (at_builtin;refine jS _ rfl _ _ rfl w1.heap.size (.slice la NL.length lc) NL rfl ?_ s (wr.heap.size+1) rfl ?_ ?_ ?_ ?_)
   ·exact q3.loc
   ·exact b4.cell 0 rfl
   ·omega
   ·exact aQw (aTx cl) zy
   intro x8 w8 h1 hg;have h2:=cG.row q3.loc
   have kC:w8.heap[w1.heap.size]?=((wr.alloc (.cells #[.string s,rt] 200)).alloc (.cells #[.string s] 9)).heap[w1.heap.size]?:=hg.block _ (by omega) (fun e=>by
    obtain ⟨_,c,hc⟩:=h2 _ e.symm
    exact q3.code.noCells (by decide) c hc)
   have K8:KN w1.heap.size w1.heap.size 9 wr w8:=((KN.refl _ _ _ _).ext HY).grown hg h2;have C8:=q3.code.of kC;have O9:=KN.strs h1 ((KN.refl w1.heap.size w1.heap.size 221 w8).set (aQo _) 1 x8) (C8.noCells (by decide)) (by decide);have z1:=hid (HS.knS (K8.set (aQo _) 1 x8) (C8.set 1 x8) O9);have z2:=hid ((K8.set (aQo _) 1 x8).up HX (aTx (by omega)));obtain ⟨g6,g7,x4,_⟩:=h1.form
   have z9:(NL++[s]).length=NL.length+1:=by simp
   rw [z9] at x4;subst x4;have e7:=C8.cell 1 rfl;have e8:=C8.free 1;have d1:=C8.lt;clear h1 hg h2 kC K8 C8 O9 q3 HY q9 x2 d2;go_wp2_with fail;go_roundw
   case rel=>
    have e2:NL++[s]=(p.gs.take (k+1)).map (·.name):=by rw [aWt,b9,aSy,q7];rfl
    have h5:=z1.out;rw [e2] at h5;exact ⟨k+1,_,by omega,by go_num,h5,z2⟩
   case measure=>simp [intOf];omega
  ·obtain rfl:k=p.gs.length:=by omega
   rw [aRo] at hS
   obtain ⟨NL,h7⟩:∃N,p.gs.map (·.name)=N:=⟨_,rfl⟩
   have z4:NL.length=p.gs.length:=by rw [<-h7,aR7]
   rw [h7] at hS;have q7:=hid h7;have e6:=hid z4;have HS:=hid hS;have HX:=hid hx;have q1:=hS.prog.cell 1 rfl;have ql:=hS.prog.lt;clear hS hx h7 z4;go_wp2_with fail;clear q1 ql
   go_loopw [38] (fun i wr=>∃(k:Nat) (iv:Value),k<=p.gs.length/\i = .int .i64 (k:Nat)/\SB p w.heap.size (w.heap.size+1) w1.heap.size w1.heap.size a1 a2 c1 c2 wr (p.trs k) iv NL lv/\Ext w wr) (fun i _=>p.gs.length - (intOf i).toNat)
   case atStart=>exact ⟨0,_,by omega,rfl,HS,HX⟩
   case round=>
    clear HS HX;obtain ⟨k,iv,hk,rfl,hS,hx⟩:=hrel
    by_cases y2:k<p.gs.length
    ·obtain ⟨b,b2,s,rt,rfl,d4,d5,h6,h4,ir,y0,y1⟩:=y5.at y2 hx hh
     have d9:=(HP.v.ag k _ h4).2;simp only at d9
     obtain ⟨r,rfl⟩:∃r:Nat,rt=r:=⟨rt.toNat,by omega⟩
     have x3:=Prg.trs_step h4;have d8:=aEh (p:=p) (k:=k+1) p.gs.length (by omega) (aQo _);have z6:(p.trs p.gs.length).length<=120:=b8;simp only [aRh] at x3
     have z8:(p.trs (k+1)).length=(p.trs k).length+(p.tr r).length+1:=by rw [x3];simp;omega
     have c4:=hid x3
     obtain ⟨L,hL⟩:∃L,p.trs k=L:=⟨_,rfl⟩
     rw [hL] at hS z8;have HL:=hid hL
     obtain ⟨T,hT⟩:∃T,p.tr r=T:=⟨_,rfl⟩
     rw [hT] at z8;have HT:=hid hT
     have e9:L.length<=120:=by omega
     have g2:T.length<=120:=by omega
     have c5:=hid (show (p.tr r).length<=1000 by rw [hT];omega);obtain ⟨ia,ic,rfl,-⟩:=aF.form hS.ins;obtain ⟨la,lc,rfl,-⟩:=hS.loc.form;have yA:Ext wr (wr.alloc (.cells #[.string s,(r:Nat)] 200)):=X_;have HS:=hid hS;have HX:=hid hx;have c8:=hid yA;have a3:=hid (hS.ext yA);have bA:=aQx wr 200 [.string s,(r:Nat)];have b5:=hid bA;obtain ⟨q9,x2⟩:=hS.code.q2;have cl:=hS.code.lt;obtain ⟨e3,e4⟩:=hS.prog.q2;have pl:=hS.prog.lt;have zr:=hx.size;have zy:=yA.size;rw [aQp] at zy;clear hS hx h6 h4 x3 hL hT z8 d8 z6 yA bA;go_wp2_with fail;refine aJ [([0,1,2,3,4,5,6],7),([],8),([9],10)] 10 (fun w'=>∃d,w'=fU (C3b w1.heap.size wr.heap.size w.heap.size) _ d) (by kernel_rfl) (by kernel_rfl) (aTh _ _) ?_;refine sc_ fun K hK=>?_;go_wp2_with fail;refine (aM1 lo hi w1.heap.size wr.heap.size p HP w wr a1 (some ⟨b,b2,none⟩) c1 c2 c3 hh (.slice la NL.length lc) (by rw [q7];exact HS.loc.strs) (aQo _) (r+1) r _ (by omega) (by omega) (HX.trans X_) X_ c5).mono ?_;rintro e w5 ⟨u,rfl,O5,x5⟩;rw [HT] at O5;have Y5:Ext (wr.alloc (.cells #[.string s,(r:Nat)] 200)) w5:=aQu X_ x5;have h8:=hid Y5;have q0:=hid (a3.ext Y5);have y3:=hid (b5.ext Y5);have y8:=hid (aF.rd (sz:=3) O5 (fun _=>rfl));have z5:=Y5.size;rw [aQp] at z5;clear O5 x5 Y5;go_wp2_with fail;refine hK _ _ (.inr (aRx fun a ha=>?_)) ?_
     ·rcases ha with ha|ha|ha
      ·exact h8.block (by rw [ha,aQp];omega)
      ·exact h8.block (by rw [ha,aQp];omega)
      ·exact h8.block (by rw [ha,aQp];omega)
     clear hK K
     obtain ⟨M,hM⟩:∃M,L++T=M:=⟨_,rfl⟩
     have g1:M.length<=300:=by rw [<-hM,aRg];omega
     have c0:=hid hM;refine sc_ fun K hK=>?_;refine cR Ins.cs 221 3 32 _ w5 rfl _ _ 160 rfl underlying160 tK rfl (by decide) (by decide) (fun _=>rfl) Ins.one w1.heap.size (.slice ia L.length ic) L rfl q0.ins _ _ u T rfl y8 (by omega) (by omega) ?_;rw [hM];intro x6 w6 h1 hg;clear hM;have h2:=aF.rowC q0.ins
     have h3:∀{B:Nat} {t:TypeId} {cs:List Value},Blk w5 B t cs->t≠221->w6.heap[B]?=w5.heap[B]?:=fun hb ht=>hg.block _ hb.lt (fun e=>by
      obtain ⟨_,c,hc⟩:=h2 _ e.symm
      exact hb.noCells (Ne.symm ht) c hc)
     have kC:=h3 q0.code (by decide);have kA:=h3 y3 (by decide);have kP:=h3 q0.prog (by decide);have K6:KN w1.heap.size w1.heap.size 221 (wr.alloc (.cells #[.string s,(r:Nat)] 200)) w6:=((KN.refl _ _ _ _).ext h8).grown hg h2;have C6:=q0.code.of kC;have h9:=hid (a3.kn (K6.set (aQo _) 0 x6) (C6.set 0 x6) (aF.set h1 C6 (by decide) 0 x6));have c7:=hid ((K6.set (aQo _) 0 x6).up (HX.trans c8) (by omega));obtain ⟨q5,q6,x4,_⟩:=aF.form h1;subst x4;obtain ⟨e0,e1⟩:=C6.q2;have g0:=C6.free 0;have d0:=C6.lt;have a9:=hid (kC.trans (h8.block (by rw [aQp];omega)));have a8:=hid (kA.trans (h8.block (by rw [aQp];omega)));have b1:=hid (kP.trans (h8.block (by rw [aQp];omega)));clear h1 hg h2 h3 kC kA kP K6 C6;go_wp2_with fail;refine hK _ _ (.inr (aRx fun a ha=>?_)) ?_
     ·rcases ha with ha|ha|ha
      ·rw [ha];exact a9.out
      ·rw [ha];exact a8.out
      ·rw [ha];exact b1.out
     clear hK K;refine gR ?_;simp only [aRd,aQ7,aQs,aQm,aQn]
     show wpQuiet _ _ _ _ [_] _
     simp only [aR9,aQv,aQ3,aQ2,aVt,aUj,aUk]
     repeat (go_big_quiet_step (fail))
     refine wpQuiet_nil ⟨_,rfl,fun K hK=>?_⟩;go_wp2_with fail;refine l_ hK ?_;clear hK K;refine aQ ?_;clear e0 e1 g0 q9 x2 e3 e4 a9 a8 b1 h8 q0 y3 y8;have e0:=h9.code.cell 0 rfl;have g0:=h9.code.free 0;have el:=h9.code.lt;have y7:Ext (w6.setCell ⟨w1.heap.size,0,none⟩ (.slice q5 M.length q6)) ((w6.setCell ⟨w1.heap.size,0,none⟩ (.slice q5 M.length q6)).alloc (.cells #[.int .i64 4,.string ⟨#[]⟩,(k:Nat)] 221)):=X_;have y6:=hid (aF.ext h9.ins y7);have z3:=hid y7;have z7:=y7.size;clear y7;go_wp2_with (at_builtin;refine bZ _ rfl _ _ rfl w1.heap.size (.slice q5 M.length q6) M rfl ?_ ⟨4,⟨#[]⟩,(k:Nat)⟩ w6.heap.size rfl ?_ ?_ ?_ ?_)
     ·exact y6
     ·omega
     ·simp at d0 z7 ⊢;omega
     intro x7 w8 h1 hg;have h2:=aF.rowC y6
     have kC:w8.heap[w1.heap.size]?=(w6.setCell ⟨w1.heap.size,0,none⟩ (.slice q5 M.length q6)).heap[w1.heap.size]?:=(hg.block _ (by simp;omega) (fun e=>by
      obtain ⟨_,c,hc⟩:=h2 _ e.symm
      exact (h9.code.ext z3).noCells (by decide) c hc)).trans (z3.block el)
     have K8:KN w1.heap.size w1.heap.size 221 (w6.setCell ⟨w1.heap.size,0,none⟩ (.slice q5 M.length q6)) w8:=((KN.refl _ _ _ _).ext z3).grown hg h2;have C8:=h9.code.of kC;have z1:=hid (h9.kn (K8.set (aQo _) 0 x7) (C8.set 0 x7) (aF.set h1 C8 (by decide) 0 x7));have z2:=hid ((K8.set (aQo _) 0 x7).up c7 (by omega));obtain ⟨g4,g5,a7,_⟩:=aF.form h1
     have d7:(M++[(⟨4,⟨#[]⟩,(k:Nat)⟩:Ins)]).length=M.length+1:=by simp
     rw [d7] at a7;subst a7;have f0:=C8.cell 0 rfl;have h0:=C8.free 0;have d1:=C8.lt;clear h1 hg h2 kC K8 C8 e0 g0 el;go_wp2_with fail;go_roundw
     case rel=>
      have e1:M++[(⟨4,⟨#[]⟩,(k:Nat)⟩:Ins)]=p.trs (k+1):=by rw [c4,HL,HT,<-c0,aRp]
      have h5:=z1.out;rw [e1] at h5;exact ⟨k+1,_,by omega,by go_num,h5,z2⟩
     case measure=>simp [intOf];omega
    ·obtain rfl:k=p.gs.length:=by omega
     obtain ⟨ia,ic,rfl,-⟩:=aF.form hS.ins;obtain ⟨la,lc,rfl,-⟩:=hS.loc.form;obtain ⟨q9,x2⟩:=hS.code.q2;have cl:=hS.code.lt;obtain ⟨r0,r1⟩:=hS.res.q2;have f0:=hS.res.free 0;have f1:=hS.res.free 1;have rl:=hS.res.lt;have zX:=hx.size;have d3:=hid (hS.loc.strs);have hI:=hid (hS.ins.inss (aQo _) (b3 _ (aQo _)))
     have a5:p.code.R w1.heap.size wr.heap.size wr (.agg #[.slice ia (p.trs p.gs.length).length ic,.slice la NL.length lc]):=⟨_,_,rfl,hI.out,by rw [show p.code.ls=NL from q7];exact d3.out⟩
     have c9:=hid (a5.same ((aM.setLow wr (p:=⟨w.heap.size+1,0,none⟩) (by simp only;omega) (.slice ia (p.trs p.gs.length).length ic)).trans (aM.setLow _ (p:=⟨w.heap.size+1,1,none⟩) (by simp only;omega) (.slice la NL.length lc))));have g3:=hx;clear hS a5;go_wp2;refine bodyPost_ret (v:=.tuple #[.agg #[.slice ia (p.trs p.gs.length).length ic,.slice la NL.length lc],.bool true]) (by simp [results,results140,go_sem, *]) rfl ?_;exact ⟨_,rfl,c9.wideC (by omega) (by simp),S_⟩
end
end Go.Proofs.YthgpegkmjeigmaaGreat
