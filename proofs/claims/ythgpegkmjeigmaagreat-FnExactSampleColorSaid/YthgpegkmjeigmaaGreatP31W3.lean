/- Texts of this claim, one behind another; what its theorem does not use is left out: Ow3, Ow4, Ow5, Ow6, Ow7, Ow8, Ow9, Cl2, Cl3, Ld1, FnT, Ev1, Mc1, Mc2, PlanX, Ev2, Ev3, Pr2, Pr3, Ev4, Ev5, Ev6, Mc3, Mc4, Mc5, Mc6, Rg1, Rg2, Rg3, Ex2H, LawKitH, Lk8, Df1, Fl1, Ap1, Ap2, Sr1, Sr3, Sr2, Lk9, Sg1, Sg2, Sg3, Sg4, Cp0. -/
import Derived.Test.YthgpegkmjeigmaaGreatP31W2
import Derived.Maps.OwnSet
import Derived.Maps.OwnOps
import Derived.Maps.Views
import Derived.Test.YthgpegkmjeigmaaGreatP31W1
import Derived.Lib.SliceRun
set_option linter.unusedSimpArgs false
set_option linter.unusedVariables false
set_option maxRecDepth 100000
set_option maxHeartbeats 12800000
namespace Go.Proofs.YthgpegkmjeigmaaGreat
open Go.RowKit
open Go.Proofs.Tryz
open _root_.Go.Act renaming put→aR9
variable {cs:Array Value} {b:Bool} {lg num op tm:Int} {X Y a o x xs:List Int} {us vs:List Value} {B L0 cap g hi i j k lo lo' lo2 m mb n p q:Nat} {f:Nat→Int} {e t:TypeId} {lv pu r sv tu v y:Value} {w w' w1 w2:World}
open _root_.Array renaming getElem?_eq_some_iff→aQ9,getElem?_toList→aTn
open _root_.Bool renaming eq_iff_iff→aVi,false_eq_true→aTi,not_eq_true→aYf,and_eq_true→aQ4,and_true→aYc,and_assoc→aY9
open _root_.Go.Addr.mk renaming injEq→aRv
open _root_.Go.Instr renaming makeInterface→aXn,typeAssert→aU5,findNow→aTa
open _root_.Go.Lib renaming toList_data→aVk,run_equalIn_slice_nil→aV4
open _root_.Go.Proofs.Tryz renaming prog→aQt
open _root_.Go.Proofs.YthgpegkmjeigmaaGreat.Ext renaming refl→aQy,trans→aQu,grown→aRz,drew→aRr
open _root_.Go.RowKit.Below renaming heap_setCell→aQz,mono→aZr,setCell→aXc,grown→bAg,refl→aW5,trans→aVr
open _root_.Go.Value renaming ownBlock→aRm,slice→aR4
open _root_.Go.Value.slice renaming injEq→aRi
open _root_.Go.World renaming size_alloc→aQp,rowIs_made→aW8,cell?→aSn,cell?_of_block→aR5,frozen?_of_block→aSj,ownsRow_nil→aUg
open _root_.Go.World.ownsRow renaming alloc→aU4,lt→aSl,cellAt→aSv,frozenAt→aYu,stored→aZl
open _root_.Int renaming toNat_natCast→aRh,one_mul→aZb
open _root_.List renaming getElem?_eq_some_iff→aQq,mem_of_getElem?→aRe,getElem_of_mem→aRn,replicate→aRa,mem_replicate→aVe,getElem?_toArray→aQs,getElem?_cons_zero→aQm,getElem?_cons_succ→aQn,length_set→aY1,length_take→aRf,getElem?_take→aSr,getElem?_map→aSf,range→aRc,take_succ_eq_append_getElem→aRk,mem_map→aSt,getElem_mem→aQ8,take_of_length_le→aRt,zipWith→aTg,all_eq_true→aRw,mem_range→aRu,all_cons→aXd,map_congr_left→aTz,getElem?_eq_getElem→aQ0,getElem?_append_left→aR2,getElem?_append_right→aRs,getElem?_drop→aS0,getElem?_set→aUd,pairwise_append→aXi,mem_append→aS2,mem_singleton→aTq,pairwise_singleton→aYi,pairwise_cons→aWh,set_cons_zero→aQ2,mem_cons_of_mem→aUx,set_cons_succ→aQ3,mem_or_eq_of_mem_set→aV5,mem_cons_self→aVd,length_append→aRg,append_assoc→aRp,take_left→aZh,drop_left→aZd,mem_of_mem_drop→aT9,drop_eq_getElem_cons→aTc,drop_of_length_le→aWp,getD→aTr,eq_of_mem_replicate→aT8,length_singleton→aUs,take_length→aRo,drop_zero→aWq,drop_length→aVx,filterMap_nil→aQ7,setIfInBounds_toArray→aQv,map→aXg,getElem?_eq_none→aUq,all_append→aYz,nil_append→aSk,length_cons→aR3,length_eq_zero_iff→aUe,replicate_succ'→aZg,range_succ→aS3,map_append→aSy,sum_append→aUv,map_cons→aSu,sum_cons→aU2,countP_cons→aYg,flatMap_cons→aSp,countP_append→aZu,map_map→aXs,filterMap_cons→aRd
open _root_.Nat renaming min_eq_left→aS6,le_refl→aQo,le_trans→aQw,add_zero→aSa,mul_le_mul→aRq,mod_lt→aTf,zero_le→aR8,mul_le_mul_right→aSh,add_mul→aS4,one_mul→aS5,mul_one→aUl,zero_add→aRl,le_of_lt→aTx,mul_comm→aUy
open _root_.Option.some renaming injEq→aQr,inj→aSm
def Has (p:Prg) (m:Nat) (ra:List Int) (q j t:Nat):Prop:=
 (∃s:ByteArray,p.gs[t]?=some ⟨s,(j:Nat)⟩)\/(∃(i:Nat) (x:Nd),m<=i/\p.ns[i]?=some x/\(j:Int)∈x.args)\/(∃e,e<q/\ra[e]?=some (j:Int))
def iS (p:Prg) (m:Nat) (ra:List Int) (q:Nat) (o:List Int):Prop:=∀j t,Own p j t->Has p m ra q j t->o.getD j 0=t
theorem iS.all {p:Prg} (hv:p.V) (h:iS p 0 [] 0 o):∀j t,Own p j t->o.getD j 0=t:=fun j t ho=>by
 refine h j t ho ?_
 rcases ho.up with h1|⟨i,x,h1,h2,_⟩
 ·exact .inl h1
 ·exact .inr (.inl ⟨i,x,by omega,h1,h2⟩)
theorem iS.at {p:Prg} (hv:p.V) {ra:List Int} (h:iS p (i+1) ra q o) (hi:i<p.ns.length):o.getD i 0=p.own i:=by
 have ho:=hv.own_is hi;refine h i _ ho ?_
 rcases ho.up with h1|⟨i',x,h1,h2,_⟩
 ·exact .inl h1
 ·have:=hv.arg_lt h1 h2
  exact .inr (.inl ⟨i',x,by omega,h1,h2⟩)
theorem iS.step {p:Prg} (hv:p.V) {a:Nat} {x:Nd} (h:iS p (i+1) x.args q o) (hx:p.ns[i]?=some x) (ha:x.args[q]?=some (a:Int)) (hl:a<o.length):iS p (i+1) x.args (q+1) (o.set a (p.own i)):=by
 intro j t ho hs;have hi:=(aQq.1 hx).1;rw [rR _ _ _ _ hl]
 by_cases e:a=j
 ·subst e
  rw [if_pos rfl];have h1:=(hv.own_is hi).down hx (aRe ha);have h2:=hv.own_eq h1;have h3:=hv.own_eq ho;omega
 ·rw [if_neg e]
  refine h j t ho ?_
  rcases hs with h1|h1|⟨y,h1,h2⟩
  ·exact .inl h1
  ·exact .inr (.inl h1)
  ·by_cases e2:y=q
   ·subst e2
    rw [ha] at h2;injection h2 with h2;omega
   ·exact .inr (.inr ⟨y,by omega,h2⟩)
theorem iS.next {p:Prg} {x:Nd} (h:iS p (i+1) x.args x.args.length o) (hx:p.ns[i]?=some x):iS p i [] 0 o:=by
 intro j t ho hs;refine h j t ho ?_
 rcases hs with h1|⟨i',y,h1,h2,h3⟩|⟨y,h1,h2⟩
 ·exact .inl h1
 ·by_cases e:i'=i
  ·subst e
   rw [hx] at h2;injection h2 with h2;subst h2;obtain ⟨q,hq,h0⟩:=aRn h3;exact .inr (.inr ⟨q,hq,by rw [<-h0];simp [hq]⟩)
  ·exact .inr (.inl ⟨i',y,by omega,h2,h3⟩)
 ·omega
theorem iS.any {p:Prg} {ra:List Int} (h:iS p m [] 0 o):iS p m ra 0 o:=by
 intro j t ho hs;refine h j t ho ?_
 rcases hs with h1|h1|⟨y,h1,h2⟩
 ·exact .inl h1
 ·exact .inr (.inl h1)
 ·omega
theorem aDn (lo hi:Nat) (v:Value) (p:Prg) (w:World) (hv:p.R lo hi w v) (hh:hi<=w.heap.size) (hp:p.V) (hgl:p.gs.length<=1048576) :
  Calls aQt 189 #[v] w fun e w'=>(∃a c,e = .returned (.slice a p.ns.length c)/\aB w.heap.size w' (.slice a p.ns.length c) p.ownL)/\Ext w w':=by
 obtain ⟨i0,q7,q9,x2,x3⟩:=info_parts eK;obtain ⟨a1,c1,a2,c2,rfl,HN,HG⟩:=hv.form;have l1:=HN.le;have l2:=HN.cap;have l3:=HG.le;have l4:=HG.cap;have l5:=hp.len;clear hv;have bB:=Bx.made w #[.slice a1 p.ns.length c1,.slice a2 p.gs.length c2] 119;have x0:Ext w (w.alloc (.cells #[.slice a1 p.ns.length c1,.slice a2 p.gs.length c2] 119)):=X_;go_enter func189,ntmps189;go_wp2_with (at_make;refine wpList_make_full _ rfl _ _ 24 rfl (w.heap.size+1) 3 i0 (.int .i64 0) 1 underlying24 q7 q9 x2 _ _ _ _ p.ns.length rfl rfl rfl rfl (by rw [x3];omega) (by unfold maxLen;omega) (by simp) ?_);intro w1 h7 h6;rw [fS] at h7;have z5:=aQp w (.cells #[.slice a1 p.ns.length c1,.slice a2 p.gs.length c2] 119);have x1:Ext (w.alloc (.cells #[.slice a1 p.ns.length c1,.slice a2 p.gs.length c2] 119)) w1:=(aQy _).grown h6 (fun k h=>by cases h);have HO:=hid (show aB (w.heap.size+1) w1 (.slice (some ⟨w.heap.size+1,0,none⟩) p.ns.length p.ns.length) (aRa p.ns.length 0) from ⟨by simpa using h7,fun x hx=>by rw [(aVe.1 hx).2];exact ⟨by decide,by decide⟩⟩);have X1:=hid (x0.trans x1);have h4:=bB.ext x1;have q5:=hid h4;have q:=h4.lt;have q0:=h4.cell 0;simp only [aQs,aQm,aQn] at q0;have q1:=h4.cell 1;simp only [aQs,aQm,aQn] at q1;clear h4;clear h7 h6 q7 q9 x2 x3 x1 x0 bB z5;go_wp2
 go_loopw [16] (fun i wr=>∃(k:Nat) (o:List Int),k<=p.gs.length/\i = .int .i64 k/\Ext w wr/\Bx wr w.heap.size #[.slice a1 p.ns.length c1,.slice a2 p.gs.length c2] 119/\aB (w.heap.size+1) wr (.slice (some ⟨w.heap.size+1,0,none⟩) p.ns.length p.ns.length) o/\o.length=p.ns.length/\(∀(t j:Nat) (s:ByteArray),t<k->p.gs[t]?=some ⟨s,j⟩->o.getD j 0=t)) (fun i _=>p.gs.length - (intOf i).toNat)
 case atStart=>exact ⟨0,_,by omega,rfl,X1,q5.out,HO,by simp,fun t j s h=>by omega⟩
 case round=>
  clear HO X1 q5 q q0 q1;obtain ⟨k,o,hk,rfl,hx,hB,hO,h5,hA⟩:=hrel;have HX:=hid hx;have HB:=hid hB;have HO:=hid hO;have h3:=hid h5;have HA:=hid hA
  by_cases z2:k<p.gs.length
  ·obtain ⟨b,x4,s,rt,rfl,x9,z0,h9,h0,ir,y0,y1⟩:=HG.at z2 hx hh
   have z4:=(hp.ag k _ h0).2;simp only at z4
   obtain ⟨r,rfl⟩:∃r:Nat,rt=r:=⟨rt.toNat,by omega⟩
   have hr:r<p.ns.length:=by omega
   have h8:=hid h0;have q0:Ext wr (wr.alloc (.cells #[.string s,r] 200)):=X_;have q6:=hO.ext q0;have x8:=hid (hx.trans q0);have x5:=hid (hB.ext q0);have zx:=q0.size;obtain ⟨r1,r2,r3,r4,r5⟩:=q6.upd (by omega) hr;have HS:=hid (r5 k ⟨by omega,by omega⟩);clear hO q6 HO HX hB HB h5 hA h9 h0 hx q0 r5;go_wp2;go_roundw
   case rel=>
    refine ⟨k+1,o.set r k,by omega,by go_num,?_,x5.other (by simp) _,HS,by rw [aY1];exact h3,fun t j s' ht hs'=>?_⟩
    ·have hx:=x8.out
     exact S_
    ·rw [rR _ _ _ _ (by rw [h3];exact hr)]
     by_cases e:r=j
     ·subst e
      rw [if_pos rfl];have h1:=hp.own_eq (Own.root h8);have h2:=hp.own_eq (Own.root hs');omega
     ·rw [if_neg e]
      refine HA t j s' ?_ hs'
      by_cases e2:t=k
      ·subst e2
       rw [h8] at hs';simp only [aQr,Asg.mk.injEq] at hs';omega
      ·omega
   case measure=>simp [intOf];omega
  ·obtain rfl:k=p.gs.length:=by omega
   have HW:Hid (iS p p.ns.length [] 0 o):=hid (fun j t _ hs=>by
    rcases hs with ⟨s,h1⟩|⟨i,x,h1,h2,_⟩|⟨y,h1,h2⟩
    ·exact HA t j s (aQq.1 h1).1 h1
    ·have:=(aQq.1 h2).1
     omega
    ·omega)
   have q:=hB.lt;obtain ⟨q0,q1⟩:=hB.q2;clear hx hB hO h5 hA HA;go_wp2
   go_loopw [6] (fun i wr=>∃(m:Nat) (o:List Int),m<=p.ns.length/\i = .int .i64 ((m:Int) - 1)/\Ext w wr/\Bx wr w.heap.size #[.slice a1 p.ns.length c1,.slice a2 p.gs.length c2] 119/\aB (w.heap.size+1) wr (.slice (some ⟨w.heap.size+1,0,none⟩) p.ns.length p.ns.length) o/\o.length=p.ns.length/\iS p m [] 0 o) (fun i _=>(intOf i+1).toNat)
   case atStart=>exact ⟨p.ns.length,o,by omega,rfl,HX,HB,HO,h3,HW⟩
   case round=>
    clear HX HB HO h3 HW q q0 q1;obtain ⟨m,o,hm,rfl,hx,hB,hO,h5,hW⟩:=hrel;have HX:=hid hx;have HB:=hid hB;have HO:=hid hO;have h3:=hid h5;have HW:=hid hW
    rcases (show m=0\/∃i,m=i+1 from by cases m <;> simp) with rfl|⟨i,rfl⟩
    ·clear hx hB hO h5 hW
     go_wp2;go_ret;have e:o=p.ownL:=Prg.ownL_of hp h3 (HW.all hp);exact ⟨⟨_,_,rfl,by rw [<-e];exact HO.low (by omega)⟩,HX⟩
    ·have e1:(((i+1:Nat):Int) - 1)=i:=by omega
     rw [e1]
     have q3:i<p.ns.length:=by omega
     obtain ⟨b,x4,op,s,num,sa,sc,ra,rfl,x9,z0,h0,io,y4,hI,HI,y0,y1,y2,y3⟩:=HN.atW q3 hx hh;have h8:=hid h0;have y5:=HI.le;have y6:=HI.cap;have q:=hB.lt;obtain ⟨q0,q1⟩:=hB.q2;clear h0 hx hB hO h5 hW hI e1 y0 y1 y2;go_wp2
     go_loopw [42] (fun z wr=>∃(j:Nat) (o:List Int),j<=ra.length/\z = .int .i64 j/\Ext w wr/\Bx wr w.heap.size #[.slice (some ⟨b,x4,none⟩) p.ns.length c1,.slice a2 p.gs.length c2] 119/\aB (w.heap.size+1) wr (.slice (some ⟨w.heap.size+1,0,none⟩) p.ns.length p.ns.length) o/\o.length=p.ns.length/\iS p (i+1) ra j o) (fun z _=>ra.length - (intOf z).toNat)
     case atStart=>exact ⟨0,o,by omega,rfl,HX,HB,HO,h3,HW.any⟩
     case round=>
      clear HX HB HO h3 HW q q0 q1;obtain ⟨j,o,hj,rfl,hx,hB,hO,h5,hW⟩:=hrel;have HX:=hid hx;have HB:=hid hB;have HO:=hid hO;have h3:=hid h5;have HW:=hid hW
      by_cases z1:j<ra.length
      ·obtain ⟨b3,z6,y,rfl,z7,hy,_,z8⟩:=HI.atE z1 hx hh
       have z9:=(hp.nd i _ h8).2 y (aRe hy)
       obtain ⟨z,rfl⟩:∃z:Nat,y=z:=⟨y.toNat,by omega⟩
       have hz:z<p.ns.length:=by omega
       have HY:=hid hy;have q8:=hW.at hp q3;obtain ⟨g1,g2,g3,g4,g5⟩:=hO.upd (by omega) q3;rw [q8] at g3;obtain ⟨r1,r2,r3,r4,r5⟩:=hO.upd (by omega) hz;have z3:=((hp.own_is q3).lt hp).2
       obtain ⟨ow,q4⟩:∃ow,p.own i=ow:=⟨_,rfl⟩
       have x6:=hid q4;rw [q4] at g3 z3;have HS:=hid (r5 ow ⟨by omega,by omega⟩);clear hx hB hO h5 hW hy g5 r5 q8 q4;go_wp2;go_roundw
       case rel=>
        refine ⟨j+1,o.set z ow,by omega,by go_num,?_,HB.other (by simp) _,HS,by rw [aY1];exact h3,?_⟩
        ·have hx:=HX.out
         exact S_
        ·have:=HW.step (x:=⟨op,s,num,ra⟩) hp h8 HY (by rw [h3];exact hz)
         rw [x6] at this;exact this
       case measure=>simp [intOf];omega
      ·obtain rfl:j=ra.length:=by omega
       have x7:=hid (hW.next (x:=⟨op,s,num,ra⟩) h8);clear hx hB hO h5 hW HW;go_wp2;go_roundw
       case rel=>exact ⟨i,o,by omega,by go_num,HX,HB,HO,h3,x7⟩
       case measure=>simp [intOf] <;> omega
section
open Go.RowKit Go.Maps Go.WideMaps
def eM (gs:List Asg) (k:Nat) (l:List UInt8):Option Nat:=(gs.take k).findIdx? fun a=>a.name.toList==l
def nA (gs:List Asg) (t:Nat) (l:List UInt8):Bool:=(gs.take t).any fun a=>a.name.toList==l
theorem aAf {gs:List Asg} {k:Nat} {a:Asg} (h:gs[k]?=some a) (l:List UInt8):eM gs (k+1) l=(eM gs k l).or (if a.name.toList==l then some k else none):=by
 have hk:=(aQq.1 h).1;unfold eM;rw [oS h,List.findIdx?_append,aRf,aS6 (by omega)]
 cases (gs.take k).findIdx? fun a=>a.name.toList==l
 ·by_cases e:(a.name.toList==l)=true <;> simp [e,List.findIdx?_cons]
 ·simp
theorem jG {gs:List Asg} {t:Nat} {l:List UInt8}:nA gs t l=true↔∃(i:Nat) (a:Asg),i<t/\gs[i]?=some a/\a.name.toList=l:=by
 unfold nA;rw [List.any_eq_true]
 constructor
 ·rintro ⟨a,ha,he⟩
  obtain ⟨i,hi,rfl⟩:=aRn ha;simp only [aRf] at hi;exact ⟨i,gs[i]'(by omega),by omega,by simp,by simpa using he⟩
 ·rintro ⟨i,a,h1,h2,h3⟩
  refine ⟨a,?_,by simp [h3]⟩;have hi:=(aQq.1 h2).1;exact aRe (i:=i) (by rw [aSr,if_pos h1];exact h2)
theorem eX {gs:List Asg} {k i:Nat} {l:List UInt8} (h:eM gs k l=some i):i<k/\(∃a:Asg,gs[i]?=some a/\a.name.toList=l)/\∀(j:Nat) (a:Asg),j<i->gs[j]?=some a->a.name.toList≠l:=by
 unfold eM at h;rw [List.findIdx?_eq_some_iff_getElem] at h;obtain ⟨h1,h2,h3⟩:=h;simp only [aRf] at h1;refine ⟨by omega,⟨gs[i]'(by omega),by simp,by simpa using h2⟩,fun j a hj ha=>?_⟩;have:=h3 j hj
 have hl:=(aQq.1 ha)
 simp only [List.getElem_take] at this;rw [hl.2] at this
 simpa using this
theorem aAg {gs:List Asg} {k:Nat} {l:List UInt8} (h:eM gs k l=none):nA gs k l=false:=by
 unfold eM at h;rw [List.findIdx?_eq_none_iff] at h;unfold nA;rw [List.any_eq_false];intro a ha
 simpa using h a ha
theorem uY {gs:List Asg} {i t:Nat} {l:List UInt8} (h:eM gs gs.length l=some i):nA gs t l=decide (i<t):=by
 obtain ⟨h1,⟨a,h2,h3⟩,h4⟩:=eX h;rw [aVi,jG,decide_eq_true_eq]
 constructor
 ·rintro ⟨j,b,h5,h6,h7⟩
  have : ¬j<i:=fun hj=>h4 j b hj h6 h7;omega
 ·intro ht
  exact ⟨i,a,ht,h2,h3⟩
theorem uZ {gs:List Asg} {t:Nat} {l:List UInt8} (h:eM gs gs.length l=none):nA gs t l=false:=by
 have h1:=aAg h
 cases e:nA gs t l
 ·rfl
 ·obtain ⟨i,a,h2,h3,h4⟩:=jG.1 e
  have:=jG.2 ⟨i,a,(aQq.1 h3).1,h3,h4⟩;rw [h1] at this;cases this
theorem wJ:Keyed aQt 9:=string_keyed underlying9
theorem aKe {s:ByteArray} (hs:s.size<=maxLen):keyOf aQt 9 (.string s)=some (.string s.toList):=by
 rw [keyOf_string_mk underlying9 hs,aVk]
theorem aKf (w:World):(zeroValue 3).run aQt w = .ok (.int .i64 0) w:=by kernel_rfl
def qP (D:DataW Unit) (gs:List Asg) (k:Nat):Prop:=
 IsMap D/\∀s:ByteArray,s.size<=maxLen->has D (.string s.toList)=(eM gs k s.toList).isSome/\∀t,eM gs k s.toList=some t->∀z,D.atKey (.string s.toList) z = .lit (.int .i64 (t:Nat))
def FM (w:World) (b:Nat) (gs:List Asg) (k:Nat):Prop:=∃(n:Nat) (D:DataW Unit),n<=k/\w.ownsMap aQt 9 (plainElem aQt 3) b n D/\qP D gs k
theorem FM.of_block {w w':World} {b:Nat} {gs:List Asg} {k:Nat} (h:FM w b gs k) (e:w'.heap[b]?=w.heap[b]?):FM w' b gs k:=by
 obtain ⟨n,D,hn,⟨es,clock,hb,r⟩,hD⟩:=h;exact ⟨n,D,hn,⟨es,clock,by rw [e];exact hb,r⟩,hD⟩
theorem FM.lt {w:World} {b:Nat} {gs:List Asg} {k:Nat} (h:FM w b gs k):b<w.heap.size:=by
 obtain ⟨n,D,hn,h1,hD⟩:=h;exact h1.lt
theorem FM.ext {w w':World} {b:Nat} {gs:List Asg} {k:Nat} (h:FM w b gs k) (e:Ext w w'):FM w' b gs k:=h.of_block (e.block h.lt)
theorem FM.made (w:World) (gs:List Asg):FM (w.alloc (.map #[] 0)) w.heap.size gs 0:=
 ⟨0,_,aQo _,World.ownsMap_made _ _ _ _,isMap_empty,fun s _=>⟨rfl,fun t h=>by simp [eM] at h⟩⟩
theorem dP (w:World) {ops:Array Oper} {rest:List Oper} {o:Oper} {a:Act} {Q:Exit->Act->World->Prop} (hg:o.guard=none) (m x:Operand) (hop:o.op=Op.lookup 217 m x true)
  (b k:Nat) (gs:List Asg) (hm:a.eval m = .map (some b)) (h:FM w b gs k) (s:ByteArray) (hs:s.size<=maxLen) (hx:a.eval x = .string s) (r:Option Nat) (hr:eM gs k s.toList=r)
  (hK:wpList aQt ops Q rest (a.put o.dst (.tuple #[.int .i64 ((r.getD 0:Nat):Int),.bool r.isSome])) w):wpList aQt ops Q (o::rest) a w:=by
 obtain ⟨n,D,hn,h3,h5,h4⟩:=h;obtain ⟨h1,h2⟩:=h4 s hs;refine wpList_lookup_own_ok_int w hg m x 217 hop 9 3 .i64 wJ underlying217 underlying3 (aKf _) b n D hm h3 _ _ hx (aKe hs) ?_;intro c h0 _;rw [h1,hr]
 have hc:c=((r.getD 0:Nat):Int):=by
  cases r with
  | none=>
   rw [hr] at h1;rw [atKey_of_not_has (by simpa using h1)] at h0;injection h0 with h0;injection h0 with _ h0;rw [<-h0]
   rfl
  | some t=>
   rw [h2 t hr] at h0;injection h0 with h0;injection h0 with _ h0;exact h0.symm
 rw [hc];exact hK
theorem aBw (w:World) {ops:Array Oper} {rest:List Oper} {o:Oper} {a:Act} {Q:Exit->Act->World->Prop} (hg:o.guard=none) (m x:Operand) (hop:o.op=Op.lookup 217 m x false)
  (b k:Nat) (gs:List Asg) (hm:a.eval m = .map (some b)) (h:FM w b gs k) (s:ByteArray) (hs:s.size<=maxLen) (hx:a.eval x = .string s) (t:Nat) (hr:eM gs k s.toList=some t)
  (hK:wpList aQt ops Q rest (a.put o.dst (.int .i64 (t:Int))) w):wpList aQt ops Q (o::rest) a w:=by
 obtain ⟨n,D,hn,h3,h5,h4⟩:=h;obtain ⟨h1,h2⟩:=h4 s hs;refine wpList_lookup_own_int w hg m x 217 hop 9 3 .i64 wJ underlying217 underlying3 (aKf _) b n D hm h3 _ _ hx (aKe hs) ?_;intro c h0 _;rw [h2 t hr] at h0;injection h0 with h0;injection h0 with _ h0;rw [<-h0];exact hK
theorem qP.skip {D:DataW Unit} {gs:List Asg} {k t:Nat} {a:Asg} (h:qP D gs k) (ha:gs[k]?=some a) (ht:eM gs k a.name.toList=some t):qP D gs (k+1):=by
 refine ⟨h.1,fun s hs=>?_⟩
 have e:eM gs (k+1) s.toList=eM gs k s.toList:=by
  rw [aAf ha]
  by_cases he:(a.name.toList==s.toList)=true
  ·rw [eq_of_beq he] at ht
   rw [ht]
   rfl
  ·simp [he]
 rw [e];exact h.2 s hs
theorem qP.put {D:DataW Unit} {gs:List Asg} {k:Nat} {a:Asg} (h:qP D gs k) (ha:gs[k]?=some a) (hn:a.name.size<=maxLen) (ht:eM gs k a.name.toList=none):qP (D.put (.string a.name.toList) (.lit (.int .i64 (k:Nat)))) gs (k+1):=by
 have h0:WideAt.IsKeyLit (.string a.name.toList):=wJ.key (aKe hn);refine ⟨h.1.put _ _,fun s hs=>?_⟩;rw [aAf ha]
 by_cases he:(a.name.toList==s.toList)=true
 ·have e:=eq_of_beq he
  rw [<-e,ht];refine ⟨by rw [has_put_same h.1 h0];simp,fun t hts z=>?_⟩;rw [atKey_put_same h.1 h0];simp at hts;rw [hts]
 ·have h1:Lit.string s.toList≠Lit.string a.name.toList:=fun e=>he (by injection e with e;rw [e];simp)
  rw [has_put_other h1];simp only [he,aTi,if_false,Option.or_none];exact ⟨(h.2 s hs).1,fun t hts z=>by rw [atKey_put_other h1];exact (h.2 s hs).2 t hts z⟩
theorem FM.skip {w:World} {b k t:Nat} {gs:List Asg} {a:Asg} (h:FM w b gs k) (ha:gs[k]?=some a) (ht:eM gs k a.name.toList=some t):FM w b gs (k+1):=by
 obtain ⟨n,D,hn,h1,h2⟩:=h;exact ⟨n,D,by omega,h1,h2.skip ha ht⟩
theorem tD (w:World) {ops:Array Oper} {rest:List Oper} {o:Oper} {a:Act} {Q:Exit->Act->World->Prop} (hg:o.guard=none) (m x v:Operand) (hop:o.op=Op.mapUpdate 217 m x v)
  (b k:Nat) (gs:List Asg) (hm:a.eval m = .map (some b)) (h:FM w b gs k) (hk:k<=10000000) (g:Asg) (hgk:gs[k]?=some g) (hs:g.name.size<=maxLen) (hx:a.eval x = .string g.name) (hv:a.eval v = .int .i64 (k:Int)) (hr:eM gs k g.name.toList=none)
  (hK:∀w',FM w' b gs (k+1)->w.grownBy w' (some b)->wpList aQt ops Q rest (a.put o.dst undef) w'):wpList aQt ops Q (o::rest) a w:=by
 obtain ⟨n,D,hn,h0,hD⟩:=h;refine wpList_mapUpdate_own w hg m x v 217 hop 9 3 wJ underlying217 _ b n D hm h0 (by unfold maxLen;omega) _ _ _ hx hv (aKe hs) (.lit (.int .i64 (k:Int))) [] (plainElem_int underlying3 (by simp [Lit.wf,IntKind.min,IntKind.max,IntKind.bits,IntKind.signed];omega)) ?_;intro w' h1 h2;exact hK w' ⟨n+1,_,by omega,h1,hD.put hgk hs hr⟩ h2
end
section
open Go.RowKit Go.Maps Go.WideMaps
theorem pU (lo hi:Nat) (v:Value) (p:Prg) (w:World) (hv:p.R lo hi w v) (hh:hi<=w.heap.size) (hb:p.bd) (hgl:p.gs.length<=1048576) :
  Calls aQt 161 #[v] w fun e w'=>(∃b,e = .returned (.map (some b))/\w.heap.size<=b/\FM w' b p.gs p.gs.length)/\Ext w w':=by
 obtain ⟨a1,c1,a2,c2,rfl,HN,HG⟩:=hv.form;have l3:=HG.le;have l4:=HG.cap;have h6:=hid hb.2;clear hv hb HN;have q1:=@run_makeMap aQt;go_enter func161,ntmps161;go_wp2;have hM:=FM.made (w.alloc (.cells #[.slice a1 p.ns.length c1,.slice a2 p.gs.length c2] 119)) p.gs;simp only [aQp] at hM
 go_loopw [12] (fun i wr=>∃k:Nat,k<=p.gs.length/\i = .int .i64 k/\FM wr (w.heap.size+1) p.gs k/\Ext w wr) (fun i _=>p.gs.length - (intOf i).toNat)
 case atStart=>exact ⟨0,by omega,rfl,hM,X_⟩
 case round=>
  clear hM q1;obtain ⟨k,hk,rfl,hM,hx⟩:=hrel;have HX:=hid hx;have HM:=hid hM;have q4:=hM.lt
  by_cases h9:k<p.gs.length
  ·obtain ⟨b,q5,s,rt,rfl,q2,q3,h1,h0,ir,y0,y1⟩:=HG.at h9 hx hh
   have h3:=h6.out _ (aRe h0);simp only at h3;have h4:=hid h0;have q0:Ext wr (wr.alloc (.cells #[.string s,rt] 200)):=X_;have h2:=hid (hM.ext q0);have h5:=hid (hx.trans q0);clear h1 h0 hx hM q0
   cases hr:eM p.gs k s.toList with
   | none=>
    have HR:=hid hr;clear hr;go_wp2_with (first|(at_lookup;refine dP _ rfl _ _ rfl _ _ _ rfl h2 _ h3 rfl _ HR ?_)|(at_mapUpdate;refine tD _ rfl _ _ _ rfl _ _ _ rfl h2 (by omega) _ h4 h3 rfl rfl HR ?_;intro w2 hM2 hg2));have h7:=hid hM2;have h8:=hid (h5.grown hg2 (fun k h=>by cases h;omega));clear hM2 hg2;go_wp2;go_roundw
    case rel=>exact ⟨k+1,by omega,by go_num,h7,h8⟩
    case measure=>simp [intOf];omega
   | some t=>
    have HR:=hid hr;clear hr;go_wp2_with (at_lookup;refine dP _ rfl _ _ rfl _ _ _ rfl h2 _ h3 rfl _ HR ?_);go_roundw
    case rel=>exact ⟨k+1,by omega,by go_num,h2.skip h4 HR,h5⟩
    case measure=>simp [intOf];omega
  ·obtain rfl:k=p.gs.length:=by omega
   clear hx hM;go_wp2;go_ret;exact ⟨⟨_,rfl,by omega,HM⟩,HX⟩
def atB (gs:List Asg) (k:Nat) (l:List UInt8):Bool:=match gs[k]? with|some a=>a.name.toList==l|none=>false
theorem aFs {gs:List Asg} {k:Nat} {a:Asg} (h:gs[k]?=some a) (l:List UInt8):atB gs k l=(a.name.toList==l):=by unfold atB;rw [h]
def fB (gs:List Asg) (t:Int) (l:List UInt8):Nat->Int
 | 0=>-1
 | k+1=>if (k:Int)<t/\atB gs k l=true then (k:Int) else fB gs t l k
theorem aDo {gs:List Asg} {t:Int} {l:List UInt8} {k:Nat} {a:Asg} (h:gs[k]?=some a):fB gs t l (k+1)=if (k:Int)<t/\(a.name.toList==l)=true then (k:Int) else fB gs t l k:=by
 simp only [fB,aFs h]
theorem aDp {gs:List Asg} {t:Int} {l:List UInt8}:∀{k:Nat},0<=fB gs t l k->∃(i:Nat) (a:Asg),fB gs t l k=i/\i<k/\(i:Int)<t/\gs[i]?=some a/\a.name.toList=l:=by
 intro k
 induction k with
 | zero=>intro h;simp [fB] at h
 | succ k ih=>
  intro h;unfold fB at h ⊢
  by_cases hc:(k:Int)<t/\atB gs k l=true
  ·rw [if_pos hc]
   cases hg:gs[k]? with
   | none=>have:=hc.2;unfold atB at this;rw [hg] at this;cases this
   | some a=>exact ⟨k,a,rfl,by omega,hc.1,hg,by have:=hc.2;rw [aFs hg] at this;simpa using this⟩
  ·rw [if_neg hc] at h ⊢
   obtain ⟨i,a,h1,h2,h3⟩:=ih h;exact ⟨i,a,h1,by omega,h3⟩
theorem aDq {gs:List Asg} {t:Int} {l:List UInt8}:∀{k:Nat},fB gs t l k<0->∀(i:Nat) (a:Asg),i<k->(i:Int)<t->gs[i]?=some a->a.name.toList≠l:=by
 intro k
 induction k with
 | zero=>intro h i a hi;omega
 | succ k ih=>
  intro h i a hi ht hg;unfold fB at h
  by_cases hc:(k:Int)<t/\atB gs k l=true
  ·rw [if_pos hc] at h
   omega
  ·rw [if_neg hc] at h
   by_cases e:i=k
   ·subst e
    intro he;exact hc ⟨ht,by rw [aFs hg];simp [he]⟩
   ·exact ih h i a (by omega) ht hg
theorem qQ (gs:List Asg) (t:Nat) (l:List UInt8):decide (0<=fB gs t l gs.length)=nA gs t l:=by
 rw [aVi,decide_eq_true_eq,jG]
 constructor
 ·intro h
  obtain ⟨i,a,h1,h2,h3,h4,h5⟩:=aDp h;exact ⟨i,a,by omega,h4,h5⟩
 ·rintro ⟨i,a,h1,h2,h3⟩
  by_cases e:0<=fB gs t l gs.length
  ·exact e
  ·exact absurd h3 (aDq (gs:=gs) (t:=t) (l:=l) (k:=gs.length) (by omega) i a (aQq.1 h2).1 (by omega) h2)
theorem zB (lo hi:Nat) (v:Value) (p:Prg) (s:ByteArray) (t:Int) (w:World) (hv:p.R lo hi w v) (hh:hi<=w.heap.size) (hgl:p.gs.length<=1048576) :
  R_ 136 #[v,.string s,t] w (.int .i64 (fB p.gs t s.toList p.gs.length)):=by
 obtain ⟨a1,c1,a2,c2,rfl,HN,HG⟩:=hv.form;have l3:=HG.le;have l4:=HG.cap;clear hv HN;go_enter func136,ntmps136;go_wp2
 go_loopw [7,13] (fun q i wr=>∃k:Nat,k<=p.gs.length/\i = .int .i64 k/\q = .int .i64 (fB p.gs t s.toList k)/\Ext w wr) (fun _ i _=>p.gs.length - (intOf i).toNat)
 case atStart=>exact ⟨0,by omega,rfl,rfl,X_⟩
 case round=>
  obtain ⟨k,hk,rfl,rfl,hx⟩:=hrel;have HX:=hid hx
  by_cases h3:k<p.gs.length
  ·obtain ⟨b,h6,s2,rt,rfl,h4,h5,h0,h1,ir,y0,y1⟩:=HG.at h3 hx hh
   have HS:=hid (aDo (t:=t) (l:=s.toList) h1);have h2:=hid (show Ext w (wr.alloc (.cells #[.string s2,rt] 200)) from X_);clear h0 h1 hx
   by_cases ht:(k:Int)<t
   ·cases he:(s2.toList==s.toList)
    ·have HE:=hid he
     go_wp2;go_roundw
     case rel=>exact ⟨k+1,by omega,by go_num,by rw [HS];simp [HE.out],h2⟩
     case measure=>simp [intOf];omega
    ·have HE:=hid he
     go_wp2;go_roundw
     case rel=>exact ⟨k+1,by omega,by go_num,by rw [HS];simp only [HE.out,ht,and_self,if_true],h2⟩
     case measure=>simp [intOf];omega
   ·go_wp2
    go_roundw
    case rel=>exact ⟨k+1,by omega,by go_num,by rw [HS,if_neg (fun h=>by omega)],h2⟩
    case measure=>simp [intOf];omega
  ·obtain rfl:k=p.gs.length:=by omega
   clear hx;go_wp2;go_ret;exact ⟨rfl,HX⟩
end
noncomputable def Prg.nameB (p:Prg) (k:Nat):Bool:=match p.ns[k]? with|some x=>if x.op=2 then cT x.name||nA p.gs (p.own k) x.name.toList else if x.op=8 then decide (0<=cA x.name) else true|none=>true
theorem Prg.nameB_at {p:Prg} {x:Nd} (h:p.ns[k]?=some x):p.nameB k=if x.op=2 then cT x.name||nA p.gs (p.own k) x.name.toList else if x.op=8 then decide (0<=cA x.name) else true:=by unfold Prg.nameB;rw [h]
theorem aHj {p:Prg} {y:Int} (h:p.ownL[k]?=some y):y=p.own k:=by
 unfold Prg.ownL at h;rw [aSf] at h
 cases hk:(aRc p.ns.length)[k]? with
 | none=>rw [hk] at h;cases h
 | some j=>
  have hj:=(aQq.1 hk)
  rw [hk] at h;obtain ⟨h1,h2⟩:=hj;simp at h2;subst h2
  simpa using h.symm
theorem kT {gs:List Asg} {t:Nat} {s:ByteArray} {z:Int} (hz:fB gs t s.toList gs.length=z) (lo hi:Nat) (v:Value) (p:Prg) (w:World) (hp:p.gs=gs) (hv:p.R lo hi w v) (hh:hi<=w.heap.size) (hgl:p.gs.length<=1048576) :
  R_ 136 #[v,.string s,t] w (.int .i64 z):=by
 subst hp;exact hz▸zB lo hi v p s t w hv hh hgl
theorem aFt (lo hi:Nat) (v:Value) (p:Prg) (w:World) (hv:p.R lo hi w v) (hh:hi<=w.heap.size) (hp:p.V) (hgl:p.gs.length<=1048576) :
  Calls aQt 133 #[v] w fun e w'=>(∃i:Int,e = .returned (.int .i64 i)/\decide (0<=i) = !((aRc p.ns.length).all p.nameB))/\Ext w w':=by
 have HV:=hid hv;obtain ⟨a1,c1,a2,c2,rfl,HN,HG⟩:=hv.form;have l1:=HN.le;have l2:=HN.cap;have l3:=HG.le;have l4:=HG.cap;have l5:=hp.len;clear hv;have x0:Ext w (w.alloc (.cells #[.slice a1 p.ns.length c1,.slice a2 p.gs.length c2] 119)):=X_;have bB:=Bx.made w #[.slice a1 p.ns.length c1,.slice a2 p.gs.length c2] 119;go_enter func133,ntmps133;go_wp2_with fail;refine (aDn lo hi _ p _ (HV.ext hh x0) (aQw hh x0.size) hp hgl).mono ?_;rintro e w1 ⟨⟨oa,oc,rfl,hO⟩,x1⟩;have hI:=hO.ints;obtain ⟨y6,y7,e1,HO⟩:=hI.open;rw [Prg.ownL_len] at e1;simp only [aRi,true_and] at e1;obtain ⟨rfl,rfl⟩:=e1;have z4:=HO.le;have y5:=HO.cap;rw [Prg.ownL_len] at z4;have h9:=bB.ext x1;have x5:=hid h9;have X1:=hid (x0.trans x1);have q:=h9.lt;obtain ⟨q0,q1⟩:=h9.q2;clear x1 x0 bB h9 hO hI;go_wp2
 go_loopw [11] (fun i wr=>∃k:Nat,k<=p.ns.length/\i = .int .i64 k/\(∀j,j<k->p.nameB j=true)/\Bx wr w.heap.size #[.slice a1 p.ns.length c1,.slice a2 p.gs.length c2] 119/\Ext w wr/\Ext w1 wr) (fun i _=>p.ns.length - (intOf i).toNat)
 case atStart=>exact ⟨0,by omega,rfl,fun j h=>by omega,x5,X1,aQy _⟩
 case round=>
  clear x5 X1 q q0 q1;obtain ⟨k,hk,rfl,h2,hB,hx,q6⟩:=hrel;have HA:=hid h2;have HX:=hid hx;have h8:=hid q6
  by_cases q5:k<p.ns.length
  ·obtain ⟨b,y8,op,s,num,sa,sc,ra,rfl,z5,q3,h7,io,z8,hI,HI,y0,y1,y2,y3⟩:=HN.atW q5 hx hh
   have z9:=HI.le;have y4:=HI.cap;obtain ⟨ob,oo,oy,rfl,z6,x9,_,z7⟩:=HO.atE (k:=k) (by rw [Prg.ownL_len];exact q5) q6 (aQo _);have e9:=aHj x9;subst e9;have q0:Ext wr (wr.alloc (.cells #[op,.string s,num,.slice sa ra.length sc] 197)):=X_;have h4:=hid (Prg.nameB_at h7);have h5:=hid (hB.ext q0);have x7:=HV.ext hh (hx.trans q0);have z0:=hid x7;have zx:=hx.size;clear h7 h2 hB hx q6 hI x9 x7
   rcases (show op=2\/op=8\/(op≠2/\op≠8) by omega) with rfl|rfl|⟨o2,o8⟩
   ·cases hv:cT s
    ·obtain ⟨z,hz⟩:∃z,fB p.gs (p.own k) s.toList p.gs.length=z:=⟨_,rfl⟩
     have HZ:=hid hz;have q9:=hid hv;have h6:Hid (p.nameB k=nA p.gs (p.own k) s.toList):=hid (by rw [h4,if_pos rfl,hv];rfl);clear h4;have q3:=h5.out;have d:=q3.lt;obtain ⟨d0,d1⟩:=q3.q2;clear hz hv q3
     have z2:ob<=wr.heap.size:=by omega
     have z3:ob<wr.heap.size+1:=by omega
     have z1:w.heap.size<wr.heap.size+1:=by omega
     go_wp2_with fail;refine aA [([0,1,2,3,4,5],6),([7,8,9,10,11,12,13,14,15,16],17),([18],19)] 99 (wr.heap.size+1) (by kernel_rfl) (by kernel_rfl) ?_;refine st_ fun K hK=>?_;go_wp2_with fail;refine r_ (dO q9 _) fun w2 x1=>?_;have X2:Ext (wr.alloc (.cells #[.int .i64 2,.string s,num,.slice sa ra.length sc] 197)) w2:=aQu X_ x1;go_wp2_with fail;refine hK _ _ (.inr (fun k _ hk=>x1.block (by first|omega|(simp;omega)))) ?_;clear hK K;refine st_ fun K hK=>?_;go_wp2_with fail;refine r_ (kT HZ lo hi _ p _ rfl (z0.ext (by simp;omega) X_) (by have:=X2.size;simp at this ⊢;omega) hgl) fun w3 x3=>?_;have X3:=X2.trans x3;go_wp2_with fail;refine hK _ _ (.inr (fun k _ hk=>X3.block (by first|omega|(simp;omega)))) ?_;clear hK K;have x8:=h5.ext X3;have h0:=hid ((HX.trans q0).trans X3);have h1:=hid ((h8.trans q0).trans X3);have q7:=hid x8
     have h3:=((Bx.made wr #[.int .i64 2,.string s,num,.slice sa ra.length sc] 197).ext X3)
     have x4:=qQ p.gs (p.own k) s.toList;rw [HZ] at x4;have x6:=hid x4;have c:=h3.lt;obtain ⟨c0,c1,c2,c3⟩:=h3.q4;clear x8 h3 x4
     by_cases x2:z<0
     ·have HN:Hid (p.nameB k=false):=hid (by rw [h6,<-x6];simp;omega)
      refine st_ fun K hK=>?_;go_wp2_with fail;go_wp2_with fail;refine hK _ _ (.inr (fun k _ hk=>X3.block (by first|omega|(simp;omega)))) ?_;clear hK K;refine aC ?_;go_wp2;go_ret;exact ⟨⟨_,rfl,by rw [fL q5 HN.out];simp⟩,h0⟩
     ·have HN:Hid (p.nameB k=true):=hid (by rw [h6,<-x6];simp;omega)
      refine st_ fun K hK=>?_;go_wp2_with fail;go_wp2_with fail;refine hK _ _ (.inr (fun k _ hk=>X3.block (by first|omega|(simp;omega)))) ?_;clear hK K;refine aC ?_;go_wp2;go_roundw
      case rel=>
       refine ⟨k+1,by omega,by go_num,fun i hi=>?_,q7,h0,h1⟩
       by_cases e:i=k
       ·subst e;exact HN
       ·exact HA i (by omega)
      case measure=>simp [intOf];omega
    ·have HN:Hid (p.nameB k=true):=hid (by rw [h4,if_pos rfl,hv];rfl)
     have q9:=hid hv;clear hv;go_wp2_with fail;refine aA [([0,1,2,3,4,5],6),([7,8,9,10,11,12,13,14,15,16],17),([18],19)] 99 (wr.heap.size+1) (by kernel_rfl) (by kernel_rfl) ?_;refine st_ fun K hK=>?_;go_wp2_with fail;refine r_ (dO q9 _) fun w2 x1=>?_;have X2:Ext (wr.alloc (.cells #[.int .i64 2,.string s,num,.slice sa ra.length sc] 197)) w2:=aQu X_ x1;go_wp2_with fail;refine hK _ _ (.inr (fun k _ hk=>X2.block (by first|omega|(simp;omega)))) ?_;clear hK K;have h0:=hid ((HX.trans q0).trans X2);have h1:=hid ((h8.trans q0).trans X2);have q7:=hid (h5.ext X2)
     have h3:=((Bx.made wr #[.int .i64 2,.string s,num,.slice sa ra.length sc] 197).ext X2)
     have c:=h3.lt;obtain ⟨c0,c1,c2,c3⟩:=h3.q4;clear h3;refine st_ fun K hK=>?_;go_wp2_with fail;go_wp2_with fail;refine hK _ _ (.inr (fun k _ hk=>X2.block (by first|omega|(simp;omega)))) ?_;clear hK K;refine st_ fun K hK=>?_;go_wp2_with fail;go_wp2_with fail;refine hK _ _ (.inr (fun k _ hk=>X2.block (by first|omega|(simp;omega)))) ?_;clear hK K;refine aC ?_;go_wp2;go_roundw
     case rel=>
      refine ⟨k+1,by omega,by go_num,fun i hi=>?_,q7,h0,h1⟩
      by_cases e:i=k
      ·subst e;exact HN
      ·exact HA i (by omega)
     case measure=>simp [intOf];omega
   ·obtain ⟨z,hz⟩:∃z,cA s=z:=⟨_,rfl⟩
    have HZ:=hid hz;have HN:Hid (p.nameB k=decide (0<=z)):=hid (by rw [h4,hz];rfl);have h0:=hid (HX.trans q0);have h1:=hid (h8.trans q0);clear hz;go_wp2_with fail;refine aA [([0,1,2,3,4,5],6),([7,8,9,10,11,12,13,14,15,16],17),([18],19)] 99 (wr.heap.size+1) (by kernel_rfl) (by kernel_rfl) ?_;refine st_ fun K hK=>?_;go_wp2_with fail;go_wp2_with fail;refine k_ hK ?_;clear hK K;refine st_ fun K hK=>?_;go_wp2_with fail;go_wp2_with fail;refine k_ hK ?_;clear hK K;refine st_ fun K hK=>?_;go_wp2_with fail;go_wp2_with fail;refine k_ hK ?_;clear hK K;refine aC ?_;go_wp2_with fail;refine z_ (mH HZ _) ?_
    by_cases x2:0<=z
    ·have q8:=hid (HN.trans (decide_eq_true x2))
     clear HN;go_wp2;go_roundw
     case rel=>
      refine ⟨k+1,by omega,by go_num,fun i hi=>?_,h5.ext ((aQy _).drew),h0.drew,h1.drew⟩
      by_cases e:i=k
      ·subst e;exact q8
      ·exact HA i (by omega)
     case measure=>simp [intOf];omega
    ·have q8:=hid (HN.trans (decide_eq_false x2))
     clear HN;go_wp2;go_ret;exact ⟨⟨_,rfl,by rw [fL q5 q8.out];simp⟩,h0.drew⟩
   ·have e2:(op==2)=false:=beq_eq_false_iff_ne.2 o2
    have e8:(op==8)=false:=beq_eq_false_iff_ne.2 o8;have HN:Hid (p.nameB k=true):=hid (by rw [h4,if_neg o2,if_neg o8]);have h0:=hid (HX.trans q0);have h1:=hid (h8.trans q0);clear h4;go_wp2_with fail;refine aA [([0,1,2,3,4,5],6),([7,8,9,10,11,12,13,14,15,16],17),([18],19)] 99 (wr.heap.size+1) (by kernel_rfl) (by kernel_rfl) ?_;refine st_ fun K hK=>?_;go_wp2_with fail;go_wp2_with fail;refine k_ hK ?_;clear hK K;refine st_ fun K hK=>?_;go_wp2_with fail;go_wp2_with fail;refine k_ hK ?_;clear hK K;refine st_ fun K hK=>?_;go_wp2_with fail;go_wp2_with fail;refine k_ hK ?_;clear hK K;refine aC ?_;go_wp2;go_roundw
    case rel=>
     refine ⟨k+1,by omega,by go_num,fun i hi=>?_,h5.ext ((aQy _).drew),h0.drew,h1.drew⟩
     by_cases e:i=k
     ·subst e;exact HN
     ·exact HA i (by omega)
    case measure=>simp [intOf];omega
  ·obtain rfl:k=p.ns.length:=by omega
   have HN:=hid (gE HA);clear h2 hB hx q6;go_wp2;go_ret;exact ⟨⟨_,rfl,by rw [HN];rfl⟩,HX⟩
def Prg.arB (p:Prg) (k:Nat):Bool:=match p.ns[k]? with|some x=>if x.op=8 then decide (cA x.name=x.args.length) else true|none=>true
def Prg.asB (p:Prg) (k:Nat):Bool:=match p.gs[k]? with|some x=>!(cT x.name) && !(nA p.gs k x.name.toList)|none=>true
def Prg.colB (p:Prg):Bool:=nA p.gs p.gs.length [99,111,108,111,114]
noncomputable def Prg.chkB (p:Prg):Bool:=p.okB&&(aRc p.ns.length).all p.nameB&&(aRc p.ns.length).all p.arB&&(aRc p.gs.length).all p.asB&&p.colB
theorem Prg.arB_at {p:Prg} {x:Nd} (h:p.ns[k]?=some x):p.arB k=if x.op=8 then decide (cA x.name=x.args.length) else true:=by unfold Prg.arB;rw [h]
theorem Prg.asB_at {p:Prg} {x:Asg} (h:p.gs[k]?=some x):p.asB k=(!(cT x.name) && !(nA p.gs k x.name.toList)):=by unfold Prg.asB;rw [h]
theorem iT {p:Prg} (h:p.okB=b) (lo hi:Nat) (v:Value) (w:World) (hv:p.R lo hi w v) (hh:hi<=w.heap.size) (hb:p.bd) (hnl:p.ns.length<=1048576) (hgl:p.gs.length<=1048576) :
  R_ 132 #[v] w (.bool b):=h▸pF lo hi v p w hv hh hb hnl hgl
theorem aL9:(⟨#[99,111,108,111,114]⟩:ByteArray).toList=[99,111,108,111,114]:=by rw [aVk]
theorem wK (lo hi:Nat) (v:Value) (p:Prg) (w:World) (hv:p.R lo hi w v) (hh:hi<=w.heap.size) (hb:p.bd) (hnl:p.ns.length<=1048576) (hgl:p.gs.length<=1048576) :
  Calls aQt 85 #[v] w fun e w'=>(∃c k:Int,e = .returned (.tuple #[c,k])/\(c==0)=p.chkB)/\Ext w w':=by
 have HV:=hid hv;obtain ⟨a1,c1,a2,c2,rfl,HN,HG⟩:=hv.form;have l1:=HN.le;have l2:=HN.cap;have l3:=HG.le;have l4:=HG.cap;have z4:=hid hb;clear hv hb;have x0:Ext w (w.alloc (.cells #[.slice a1 p.ns.length c1,.slice a2 p.gs.length c2] 119)):=X_;have bB:=Bx.made w #[.slice a1 p.ns.length c1,.slice a2 p.gs.length c2] 119
 cases h7:p.okB
 ·have q7:=hid h7
  have HC:Hid (p.chkB=false):=hid (by unfold Prg.chkB;rw [h7];rfl);clear h7;go_enter func85,ntmps85;go_wp2_with fail;refine r_ (iT q7 lo hi _ _ (HV.ext hh x0) (aQw hh x0.size) z4 hnl hgl) fun w1 x1=>?_;have X1:=x0.trans x1;go_wp2;refine bodyPost_ret (v:=.tuple #[.int .i64 1,()]) (by simp [results,results85,go_sem]) rfl ⟨⟨_,_,rfl,by rw [HC];rfl⟩,X1⟩
 have HP:=hid (Prg.okB_V h7);have l5:=HP.len;have q7:=hid h7;clear h7;go_enter func85,ntmps85;go_wp2_with fail;refine r_ (iT q7 lo hi _ _ (HV.ext hh x0) (aQw hh x0.size) z4 hnl hgl) fun w1 x1=>?_;have X1:=x0.trans x1;have x5:=bB.ext x1;have q:=x5.lt;obtain ⟨q0,q1⟩:=x5.q2;clear x0 x1 bB;go_wp2_with fail;refine (aFt lo hi _ p _ (HV.ext hh X1) (aQw hh X1.size) HP hgl).mono ?_;rintro e w2 ⟨⟨i,rfl,hi2⟩,x2⟩;have X2:=X1.trans x2;have x6:=x5.ext x2;have HI:=hid hi2;clear x2 x5 X1 q q0 q1 hi2
 by_cases z1:0<=i
 ·have HC:Hid (p.chkB=false):=hid (by
   have:=HI.out;rw [decide_eq_true z1] at this;unfold Prg.chkB
   have e:(aRc p.ns.length).all p.nameB=false:=by revert this;cases (aRc p.ns.length).all p.nameB <;> simp
   rw [e];simp)
  go_wp2;refine bodyPost_ret (v:=.tuple #[.int .i64 2,i]) (by simp [results,results85,go_sem]) rfl ⟨⟨_,_,rfl,by rw [HC];rfl⟩,X2⟩
 have z9:Hid ((aRc p.ns.length).all p.nameB=true):=hid (by
  have:=HI.out;rw [decide_eq_false z1] at this
  revert this;cases (aRc p.ns.length).all p.nameB <;> simp)
 clear HI;have q:=x6.lt;obtain ⟨q0,q1⟩:=x6.q2;have z3:=hid x6;have z5:=hid X2;clear x6 X2;go_wp2
 go_loopw [20] (fun i wr=>∃k:Nat,k<=p.ns.length/\i = .int .i64 k/\(∀j,j<k->p.arB j=true)/\Bx wr w.heap.size #[.slice a1 p.ns.length c1,.slice a2 p.gs.length c2] 119/\Ext w wr) (fun i _=>p.ns.length - (intOf i).toNat)
 case atStart=>exact ⟨0,by omega,rfl,fun j h=>by omega,z3,z5⟩
 case round=>
  clear z3 z5 q q0 q1 z1;obtain ⟨k,hk,rfl,h0,hB,hx⟩:=hrel;have HA:=hid h0;have HX:=hid hx;have HB:=hid hB
  by_cases h6:k<p.ns.length
  ·obtain ⟨b,y6,op,s,num,sa,sc,ra,rfl,y4,y5,h1,io,y8,hI,HI,y0,y1,y2,y3⟩:=HN.atW h6 hx hh
   have y9:=HI.le;have a0:=HI.cap;have q0:Ext wr (wr.alloc (.cells #[op,.string s,num,.slice sa ra.length sc] 197)):=X_;have h3:=hid (Prg.arB_at h1);have h5:=hid (hx.trans q0);have q3:=hid (hB.ext q0);clear h1 h0 hB hx hI HX HB
   by_cases o8:op=8
   ·subst o8
    obtain ⟨z,hz⟩:∃z,cA s=z:=⟨_,rfl⟩
    have HZ:=hid hz;have q6:Hid (p.arB k=decide (z=ra.length)):=hid (by rw [h3,hz];rfl);clear h3 hz;go_wp2_with fail;refine aA [([0,1,2,3,4,5,7,8,9],6),([10],11)] 99 (wr.heap.size+1) (by kernel_rfl) (by kernel_rfl) ?_;refine st_ fun K hK=>?_;go_wp2_with fail;refine z_ (mH HZ _) ?_
    by_cases h9:z=ra.length
    ·have h2:=hid (q6.trans (decide_eq_true h9))
     have e2:(z != (ra.length:Int))=false:=by simp [h9]
     clear q6 h9;go_wp2_with fail;refine k_ hK ?_;clear hK K;refine st_ fun K hK=>?_;go_wp2_with fail;go_wp2_with fail;refine k_ hK ?_;clear hK K;refine aC ?_;go_wp2;go_roundw
     case rel=>
      refine ⟨k+1,by omega,by go_num,fun i hi=>?_,q3.ext ((aQy _).drew),h5.drew⟩
      by_cases e:i=k
      ·subst e;exact h2
      ·exact HA i (by omega)
     case measure=>simp [intOf];omega
    ·have h2:=hid (q6.trans (decide_eq_false h9))
     have e2:(z != (ra.length:Int))=true:=by simp [h9]
     clear q6 h9;go_wp2_with fail;refine k_ hK ?_;clear hK K;refine st_ fun K hK=>?_;go_wp2_with fail;go_wp2_with fail;refine k_ hK ?_;clear hK K;refine aC ?_;go_wp2
     have HC:p.chkB=false:=by unfold Prg.chkB;rw [fL (p:=p.arB) h6 h2.out];simp
     refine bodyPost_ret (v:=.tuple #[.int .i64 3,k]) (by simp [results,results85,go_sem]) rfl ⟨⟨_,_,rfl,by rw [HC];rfl⟩,h5.drew⟩
   ·have e8:(op==8)=false:=beq_eq_false_iff_ne.2 o8
    have h2:Hid (p.arB k=true):=hid (by rw [h3,if_neg o8]);clear h3;go_wp2_with fail;refine aA [([0,1,2,3,4,5,7,8,9],6),([10],11)] 99 (wr.heap.size+1) (by kernel_rfl) (by kernel_rfl) ?_;refine st_ fun K hK=>?_;go_wp2_with fail;go_wp2_with fail;refine k_ hK ?_;clear hK K;refine st_ fun K hK=>?_;go_wp2_with fail;go_wp2_with fail;refine k_ hK ?_;clear hK K;refine aC ?_;go_wp2;go_roundw
    case rel=>
     refine ⟨k+1,by omega,by go_num,fun i hi=>?_,q3.ext ((aQy _).drew),h5.drew⟩
     by_cases e:i=k
     ·subst e;exact h2
     ·exact HA i (by omega)
    case measure=>simp [intOf];omega
  ·obtain rfl:k=p.ns.length:=by omega
   have q:=hB.lt;obtain ⟨q0,q1⟩:=hB.q2;clear h0 hB hx;go_wp2
   go_loopw [42] (fun i wr=>∃k:Nat,k<=p.gs.length/\i = .int .i64 k/\(∀j,j<k->p.asB j=true)/\Bx wr w.heap.size #[.slice a1 p.ns.length c1,.slice a2 p.gs.length c2] 119/\Ext w wr) (fun i _=>p.gs.length - (intOf i).toNat)
   case atStart=>exact ⟨0,by omega,rfl,fun j h=>by omega,HB,HX⟩
   case round=>
    clear HB HX q q0 q1;obtain ⟨k,hk,rfl,h0,hB,hx⟩:=hrel;have z2:=hid h0;have HX:=hid hx;have HB:=hid hB
    by_cases h6:k<p.gs.length
    ·obtain ⟨b,y6,s,rt,rfl,y4,y5,q5,h1,ir,y0,y1⟩:=HG.at h6 hx hh
     have q0:Ext wr (wr.alloc (.cells #[.string s,rt] 200)):=X_;have bQ:=Bx.made wr #[.string s,rt] 200
     obtain ⟨bv,z0⟩:∃b,cT s=b:=⟨_,rfl⟩
     have z8:=hid z0;have h3:Hid (p.asB k=(!bv && !(nA p.gs k s.toList))):=hid (by rw [Prg.asB_at h1,z0]);have h5:=hid (hx.trans q0);have q3:=hid (hB.ext q0);clear q5 h1 h0 hB hx HX HB z0;go_wp2_with fail;refine r_ (dO z8 _) fun w3 x3=>?_;have q4:=hid (h5.trans x3);have x7:=q3.ext x3;have z6:=hid x7;have x9:=bQ.ext x3;have r:=x7.lt;obtain ⟨r0,r1⟩:=x7.q2;have d:=x9.lt;obtain ⟨d0,d1⟩:=x9.q2;clear x7 x9 x3 h5 q3 bQ q0
     cases bv
     case true=>
      go_wp2
      have HC:p.chkB=false:=by unfold Prg.chkB;rw [fL (p:=p.asB) h6 (by rw [h3];rfl)];simp
      refine bodyPost_ret (v:=.tuple #[.int .i64 4,k]) (by simp [results,results85,go_sem]) rfl ⟨⟨_,_,rfl,by rw [HC];rfl⟩,q4⟩
     obtain ⟨z,hz⟩:∃z,fB p.gs k s.toList p.gs.length=z:=⟨_,rfl⟩
     have h4:=qQ p.gs k s.toList;rw [hz] at h4;have HZ:=hid hz;have q9:=hid h4;clear hz h4;go_wp2_with fail;refine r_ (kT HZ lo hi _ p _ rfl (HV.ext hh q4) (aQw hh q4.size) hgl) fun w4 x4=>?_
     by_cases h8:0<=z
     ·have h2:Hid (p.asB k=false):=hid (by rw [h3,<-q9,decide_eq_true h8];rfl)
      go_wp2
      have HC:p.chkB=false:=by unfold Prg.chkB;rw [fL (p:=p.asB) h6 h2.out];simp
      refine bodyPost_ret (v:=.tuple #[.int .i64 4,k]) (by simp [results,results85,go_sem]) rfl ⟨⟨_,_,rfl,by rw [HC];rfl⟩,q4.trans x4⟩
     ·have h2:Hid (p.asB k=true):=hid (by rw [h3,<-q9,decide_eq_false h8];rfl)
      have q8:=hid (q4.trans x4);have z7:=hid (z6.ext x4);clear x4;go_wp2;go_roundw
      case rel=>
       refine ⟨k+1,by omega,by go_num,fun i hi=>?_,z7,q8⟩
       by_cases e:i=k
       ·subst e;exact h2
       ·exact z2 i (by omega)
      case measure=>simp [intOf];omega
    ·obtain rfl:k=p.gs.length:=by omega
     have q:=hB.lt;obtain ⟨q0,q1⟩:=hB.q2
     obtain ⟨z,hz⟩:∃z,fB p.gs (p.gs.length:Nat) [99,111,108,111,114] p.gs.length=z:=⟨_,rfl⟩
     have h4:=qQ p.gs p.gs.length [99,111,108,111,114];rw [hz] at h4;have HZ:=hid hz;have q9:=hid h4;have zx:=hx.size;clear hz h4 h0 hB hx;go_wp2_with fail;refine r_ (kT (z:=z) (t:=p.gs.length) (s:=⟨#[99,111,108,111,114]⟩) (by rw [aL9];exact HZ) lo hi _ p _ rfl (HV.ext hh HX) (by omega) hgl) fun w4 x4=>?_;have q8:=hid (HX.trans x4);clear x4;have HC:Hid (p.chkB=decide (0<=z)):=hid (by unfold Prg.chkB Prg.colB;rw [q7,z9,gE HA,gE z2,q9];rfl)
     by_cases h8:0<=z
     ·have x8:=hid (HC.trans (decide_eq_true h8))
      clear HC;go_wp2;refine bodyPost_ret (v:=.tuple #[(),()]) (by simp [results,results85,go_sem]) rfl ⟨⟨_,_,rfl,x8.symm⟩,q8⟩
     ·have x8:=hid (HC.trans (decide_eq_false h8))
      have y7:z<0:=by omega
      clear HC h8;go_wp2;refine bodyPost_ret (v:=.tuple #[.int .i64 5,()]) (by simp [results,results85,go_sem]) rfl ⟨⟨_,_,rfl,x8.symm⟩,q8⟩
section
open Go.RowKit Go.Maps Go.WideMaps
@[go_sem] theorem aP4 (x:Value) (w:World):(aXn 266 x).run aQt w = .ok (.iface 266 x) w:=run_makeInterface w 266 x (by kernel_rfl)
@[go_sem] theorem aPw (x:Value) (w:World):(aXn 268 x).run aQt w = .ok (.iface 268 x) w:=run_makeInterface w 268 x (by kernel_rfl)
@[go_sem] theorem aPe (x:Value) (w:World):(aXn 290 x).run aQt w = .ok (.iface 290 x) w:=run_makeInterface w 290 x (by kernel_rfl)
def gC (op:Int) (x:Value):Value:=.iface (if op=2 then 266 else if op=8 then 268 else 290) x
theorem fP (op:Int) (s:ByteArray) (num:Int) (u:Value) (w:World):R_ 199 #[.agg #[op,.string s,num,u]] w (gC op (.agg #[op,.string s,num,u])):=by
 rcases (show op=2\/op=8\/(op≠2/\op≠8) by omega) with rfl|rfl|⟨o2,o8⟩
 ·go_enter func199,ntmps199
  go_wp2;go_ret;exact ⟨rfl,X_⟩
 ·go_enter func199,ntmps199
  go_wp2;go_ret;exact ⟨rfl,X_⟩
 ·have e2:(op==2)=false:=beq_eq_false_iff_ne.2 o2
  have e8:(op==8)=false:=beq_eq_false_iff_ne.2 o8;go_enter func199,ntmps199;go_wp2;go_ret;exact ⟨by unfold gC;rw [if_neg o2,if_neg o8];rfl,X_⟩
theorem aNl (v:Value) (w:World):(aU5 (.iface 266 v) 252 266 true).run aQt w = .ok (.tuple #[v,.bool true]) w:=by kernel_rfl
theorem aNm (v:Value) (w:World):(aU5 (.iface 268 v) 252 266 true).run aQt w = .ok (.tuple #[.agg #[(),.string ⟨#[]⟩,(),.slice none 0 0],.bool false]) w:=by kernel_rfl
theorem aKg (v:Value) (w:World):(aU5 (.iface 268 v) 252 268 true).run aQt w = .ok (.tuple #[v,.bool true]) w:=by kernel_rfl
theorem aOy (v:Value) (w:World):(aU5 (.iface 266 v) 252 268 true).run aQt w = .ok (.tuple #[.agg #[(),.string ⟨#[]⟩,(),.slice none 0 0],.bool false]) w:=by kernel_rfl
theorem aNn (v:Value) (w:World):(aU5 (.iface 290 v) 252 266 true).run aQt w = .ok (.tuple #[.agg #[(),.string ⟨#[]⟩,(),.slice none 0 0],.bool false]) w:=by kernel_rfl
theorem aKh (v:Value) (w:World):(aU5 (.iface 290 v) 252 268 true).run aQt w = .ok (.tuple #[.agg #[(),.string ⟨#[]⟩,(),.slice none 0 0],.bool false]) w:=by kernel_rfl
theorem cX {s:ByteArray} {b:Bool} (h:cT s=b) (w:World):Z_ 201 #[.string s] w (.bool b):=h▸iP s w
def mN (gs:List Asg) (op:Int) (s:ByteArray) (o:Nat):Bool:=if op=2 then cT s||nA gs o s.toList else if op=8 then decide (0<=cA s) else true
theorem aFu (gs:List Asg) (op:Int) (s:ByteArray) (num:Int) (sa:Option Addr) (sn sc o b:Nat) (w:World) (hM:FM w b gs gs.length) (hs:s.size<=maxLen) (ho:o<=10000000) (hgl:gs.length<=1048576) :
  R_ 198 #[gC op (.agg #[op,.string s,num,.slice sa sn sc]),o,.map (some b)] w (.bool (mN gs op s o)):=by
 rcases (show op=2\/op=8\/(op≠2/\op≠8) by omega) with rfl|rfl|⟨o2,o8⟩
 ·have h0:=aNl (.agg #[.int .i64 2,.string s,num,.slice sa sn sc])
  obtain ⟨bv,h2⟩:∃b,cT s=b:=⟨_,rfl⟩
  have h3:=hid h2
  obtain ⟨r,hr⟩:∃r,eM gs gs.length s.toList=r:=⟨_,rfl⟩
  have HR:=hid hr
  have e1:Hid (mN gs 2 s o=(bv||r.elim false fun i=>decide (i<o))):=hid (by
   unfold mN;rw [if_pos rfl,h2]
   cases r with
   | none=>rw [uZ hr];rfl
   | some i=>rw [uY hr];rfl)
  have HM:=hid hM;clear h2 hr hM;unfold gC;rw [if_pos rfl]
  cases r with
  | none=>
   go_enter func198,ntmps198;go_wp2_with (first|(at_lookup;refine dP _ rfl _ _ rfl _ _ _ rfl (HM.ext X_) _ hs rfl _ HR ?_)|(go_at_call 201;refine z_ (cX h3 _) ?_))
   all_goals (go_ret;exact ⟨aL (by rw [e1.out];first|rfl|simp_all),X_⟩)
  | some i=>
   have HI:Hid (i<=1048576):=hid (by have:=(eX HR).1;omega);have hi:=HI.out;go_enter func198,ntmps198;go_wp2_with (first|(at_lookup;refine dP _ rfl _ _ rfl _ _ _ rfl (HM.ext X_) _ hs rfl _ HR ?_)|(go_at_call 201;refine z_ (cX h3 _) ?_))
   all_goals (go_ret;exact ⟨aL (by rw [e1.out];first|rfl|simp_all),X_⟩)
 ·have h0:=aNm (.agg #[.int .i64 8,.string s,num,.slice sa sn sc])
  have h1:=aKg (.agg #[.int .i64 8,.string s,num,.slice sa sn sc])
  obtain ⟨z,hz⟩:∃z,cA s=z:=⟨_,rfl⟩
  have HZ:=hid hz;have e1:Hid (mN gs 8 s o=decide (0<=z)):=hid (by unfold mN;rw [if_neg (by decide),if_pos rfl,hz]);clear hz;unfold gC;rw [if_neg (by decide),if_pos rfl];go_enter func198,ntmps198;go_wp2_with (go_at_call 242;refine z_ (qH HZ _) ?_)
  all_goals (go_ret;exact ⟨aL (by rw [e1.out]),X_⟩)
 ·have h0:=aNn (.agg #[op,.string s,num,.slice sa sn sc])
  have h1:=aKh (.agg #[op,.string s,num,.slice sa sn sc]);have e1:Hid (mN gs op s o=true):=hid (by unfold mN;rw [if_neg o2,if_neg o8]);unfold gC;rw [if_neg o2,if_neg o8];go_enter func198,ntmps198;go_wp2
  all_goals (go_ret;exact ⟨aL (by rw [e1.out]),X_⟩)
def aFv (op:Int) (s:ByteArray) (n:Nat):Bool:=if op=8 then decide (cA s=n) else true
theorem aBx (op:Int) (s:ByteArray) (num:Int) (sa:Option Addr) (sn sc:Nat) (w:World) :
  R_ 200 #[gC op (.agg #[op,.string s,num,.slice sa sn sc])] w (.bool (aFv op s sn)):=by
 rcases (show op=2\/op=8\/(op≠2/\op≠8) by omega) with rfl|rfl|⟨o2,o8⟩
 ·have h0:=aOy (.agg #[.int .i64 2,.string s,num,.slice sa sn sc])
  unfold gC;rw [if_pos rfl];go_enter func200,ntmps200;go_wp2_with fail;refine aA [([0,1,2,3,4,5,6,7,8,9],10),([11,12],13)] 99 (w.heap.size+1) (by kernel_rfl) (by kernel_rfl) ?_;refine st_ fun K hK=>?_;go_wp2_with fail;go_wp2_with fail;refine k_ hK ?_;clear hK K;refine st_ fun K hK=>?_;go_wp2_with fail;go_wp2_with fail;refine k_ hK ?_;clear hK K;refine aC ?_;go_wp2;go_ret;exact ⟨rfl,X_⟩
 ·have h0:=aKg (.agg #[.int .i64 8,.string s,num,.slice sa sn sc])
  obtain ⟨z,hz⟩:∃z,cA s=z:=⟨_,rfl⟩
  have HZ:=hid hz;have e1:Hid (aFv 8 s sn=decide (z=sn)):=hid (by unfold aFv;rw [if_pos rfl,hz]);clear hz;unfold gC;rw [if_neg (by decide),if_pos rfl];go_enter func200,ntmps200;go_wp2_with fail;refine aA [([0,1,2,3,4,5,6,7,8,9],10),([11,12],13)] 99 (w.heap.size+1) (by kernel_rfl) (by kernel_rfl) ?_;refine st_ fun K hK=>?_;go_wp2_with fail;refine z_ (qH HZ _) ?_;go_wp2_with fail;refine k_ hK ?_;clear hK K;refine st_ fun K hK=>?_;go_wp2_with fail;go_wp2_with fail;refine k_ hK ?_;clear hK K;refine aC ?_;go_wp2;go_ret;exact ⟨aL (by rw [e1.out,aVi];simp;omega),X_⟩
 ·have h0:=aKh (.agg #[op,.string s,num,.slice sa sn sc])
  have e1:Hid (aFv op s sn=true):=hid (by unfold aFv;rw [if_neg o8]);unfold gC;rw [if_neg o2,if_neg o8];go_enter func200,ntmps200;go_wp2_with fail;refine aA [([0,1,2,3,4,5,6,7,8,9],10),([11,12],13)] 99 (w.heap.size+1) (by kernel_rfl) (by kernel_rfl) ?_;refine st_ fun K hK=>?_;go_wp2_with fail;go_wp2_with fail;refine k_ hK ?_;clear hK K;refine st_ fun K hK=>?_;go_wp2_with fail;go_wp2_with fail;refine k_ hK ?_;clear hK K;refine aC ?_;go_wp2;go_ret;exact ⟨by rw [e1.out];rfl,X_⟩
end
section
open Go.RowKit Go.Maps Go.WideMaps
theorem iU {p:Prg} {b:Bool} (h:p.okB=b) (lo hi:Nat) (v:Value) (w:World) (hv:p.R lo hi w v) (hh:hi<=w.heap.size) (hb:p.bd) (hgl:p.gs.length<=1048576) :
  R_ 196 #[v] w (.bool b):=h▸pE lo hi v p w hv hh hb hgl
theorem aFw {gs:List Asg} {op:Int} {s:ByteArray} {o:Nat} {r:Bool} (h:mN gs op s o=r) (num:Int) (sa:Option Addr) (sn sc b:Nat) (w:World) (hM:FM w b gs gs.length) (hs:s.size<=maxLen) (ho:o<=10000000) (hgl:gs.length<=1048576) :
  R_ 198 #[gC op (.agg #[op,.string s,num,.slice sa sn sc]),o,.map (some b)] w (.bool r):=h▸aFu gs op s num sa sn sc o b w hM hs ho hgl
theorem aBy {op:Int} {s:ByteArray} {sn:Nat} {r:Bool} (h:aFv op s sn=r) (num:Int) (sa:Option Addr) (sc:Nat) (w:World) :
  R_ 200 #[gC op (.agg #[op,.string s,num,.slice sa sn sc])] w (.bool r):=h▸aBx op s num sa sn sc w
theorem uC {op:Int} {s:ByteArray} {num:Int} {u E:Value} (h:gC op (.agg #[op,.string s,num,u])=E) (w:World):R_ 199 #[.agg #[op,.string s,num,u]] w E:=h▸fP op s num u w
theorem FM.look {w:World} {b k:Nat} {gs:List Asg} (h:FM w b gs k) {s:ByteArray} (hs:s.size<=maxLen) {t:Nat} (hr:eM gs k s.toList=some t) :
  (Instr.lookup 217 (.map (some b)) (.string s) false).run aQt w = .ok (.int .i64 (t:Int)) w:=by
 obtain ⟨n,D,hn,h3,h6,h5⟩:=h;obtain ⟨h1,h2⟩:=h5 s hs;obtain ⟨c,h4,h0,h7⟩:=h3.lookup_int wJ underlying217 underlying3 (aKf _) (aKe hs);rw [h2 t hr] at h0;simp only [DataW.lit.injEq,Lit.int.injEq,true_and] at h0;subst h0;exact h4
theorem aFx (lo hi:Nat) (v:Value) (p:Prg) (w:World) (hv:p.R lo hi w v) (hh:hi<=w.heap.size) (hb:p.bd) (hgl:p.gs.length<=1048576) :
  Calls aQt 144 #[v] w fun e w'=>(∃c k:Int,e = .returned (.tuple #[c,k])/\(c==0)=p.chkB)/\Ext w w':=by
 have HV:=hid hv;obtain ⟨a1,c1,a2,c2,rfl,HN,HG⟩:=hv.form;have l1:=HN.le;have l2:=HN.cap;have l3:=HG.le;have l4:=HG.cap;have q3:=hid hb;clear hv hb;have x0:Ext w (w.alloc (.cells #[.slice a1 p.ns.length c1,.slice a2 p.gs.length c2] 119)):=X_;have bB:=Bx.made w #[.slice a1 p.ns.length c1,.slice a2 p.gs.length c2] 119
 cases h9:p.okB
 ·have q7:=hid h9
  have HC:Hid (p.chkB=false):=hid (by unfold Prg.chkB;rw [h9];rfl);clear h9;go_enter func144,ntmps144;go_wp2_with fail;refine r_ (iU q7 lo hi _ _ (HV.ext hh x0) (aQw hh x0.size) q3 hgl) fun w1 x1=>?_;have X1:=x0.trans x1;go_wp2;refine bodyPost_ret (v:=.tuple #[.int .i64 1,()]) (by simp [results,results144,go_sem]) rfl ⟨⟨_,_,rfl,by rw [HC];rfl⟩,X1⟩
 have HP:=hid (Prg.okB_V h9);have l5:=HP.len;have q7:=hid h9;clear h9;go_enter func144,ntmps144;go_wp2_with fail;refine r_ (iU q7 lo hi _ _ (HV.ext hh x0) (aQw hh x0.size) q3 hgl) fun w1 x1=>?_;have X1:=x0.trans x1;have q8:=bB.ext x1;have q:=q8.lt;obtain ⟨q0,q1⟩:=q8.q2;clear x0 x1 bB;go_wp2_with fail;refine aA [([0,2],1),([],3),([4],5)] 99 w1.heap.size (by kernel_rfl) (by kernel_rfl) ?_;refine st_ fun K hK=>?_;go_wp2_with fail;refine (pU lo hi _ p _ ((HV.ext hh X1).ext (aQw hh X1.size) X_) (by have:=X1.size;simp;omega) q3 hgl).mono ?_;rintro e w2 ⟨⟨mb,rfl,hmb,hM⟩,x2⟩;have y2:Ext w1 w2:=aQu X_ x2;have z2:=y2.size;go_wp2_with fail;refine hK _ _ (.inr (fun k _ hk=>y2.block (by first|omega|(simp;omega)))) ?_;clear hK K;refine st_ fun K hK=>?_;go_wp2_with fail;refine (aDm lo hi _ p _ ((HV.ext hh X1).ext (aQw hh X1.size) y2) (by have:=X1.size;omega) HP hgl).mono ?_;rintro e w3 ⟨⟨oa,oc,rfl,hO⟩,x3⟩;have y3:=y2.trans x3;have z9:=hM.ext x3;go_wp2_with fail;refine hK _ _ (.inr (fun k _ hk=>y3.block (by first|omega|(simp;omega)))) ?_;clear hK K;refine st_ fun K hK=>?_;go_wp2_with fail;go_wp2_with fail;refine hK _ _ (.inr (fun k _ hk=>y3.block (by first|omega|(simp;omega)))) ?_;clear hK K;refine aC ?_;have hI:=hO.ints;obtain ⟨b5,b6,e1,HO⟩:=hI.open;rw [Prg.ownL_len] at e1;simp only [aRi,true_and] at e1;obtain ⟨rfl,rfl⟩:=e1;have a8:=HO.le;have b4:=HO.cap;rw [Prg.ownL_len] at a8;have q9:=q8.ext y3;have z7:=hid q9;have h8:=hid (X1.trans y3);have z1:=hid z9;clear x2 x3 y2 y3 hM z9 q8 hO hI X1 q q0 q1 z2;have q:=q9.lt;obtain ⟨q0,q1⟩:=q9.q2;clear q9;go_wp2
 go_loopw [24] (fun i wr=>∃k:Nat,k<=p.ns.length/\i = .int .i64 k/\(∀j,j<k->p.nameB j=true)/\Bx wr w.heap.size #[.slice a1 p.ns.length c1,.slice a2 p.gs.length c2] 119/\Ext w wr/\Ext w3 wr) (fun i _=>p.ns.length - (intOf i).toNat)
 case atStart=>exact ⟨0,by omega,rfl,fun j h=>by omega,z7,h8,aQy _⟩
 case round=>
  clear z7 h8 q q0 q1;obtain ⟨k,hk,rfl,h0,hB,hx,h2⟩:=hrel;have HA:=hid h0;have HX:=hid hx;have h5:=hid h2;have HB:=hid hB
  by_cases h3:k<p.ns.length
  ·obtain ⟨b,y9,op,s,num,sa,sc,ra,rfl,y4,y5,h1,io,a5,hI,HI,y0,y1,y2,y3⟩:=HN.atW h3 hx hh
   have a6:=HI.le;have a7:=HI.cap;obtain ⟨ob,oo,oy,rfl,b0,y7,_,b1⟩:=HO.atE (k:=k) (by rw [Prg.ownL_len];exact h3) h2 (aQo _);have e9:=aHj y7;subst e9;have x6:=hid (q3.1 _ (aRe h1));have q0:Ext wr (wr.alloc (.cells #[op,.string s,num,.slice sa ra.length sc] 197)):=X_;have b2:=((HP.own_is h3).lt HP).2
   obtain ⟨E,hE⟩:∃E,gC op (.agg #[op,.string s,num,.slice sa ra.length sc])=E:=⟨_,rfl⟩
   obtain ⟨bk,h6⟩:∃r,mN p.gs op s (p.own k)=r:=⟨_,rfl⟩
   have HE:=hid hE;have x8:=hid h6;have h4:Hid (p.nameB k=bk):=hid (by rw [Prg.nameB_at h1,<-h6];rfl)
   have a3:ob<=wr.heap.size:=by omega
   have a4:ob<wr.heap.size+1:=by omega
   have a9:=hid (hx.size);clear h1 h0 hB hx h2 hI y7 hE h6;go_wp2_with fail;refine aA [([0,2,3,4,5,6],1),([],7),([],8)] 99 (wr.heap.size+1) (by kernel_rfl) (by kernel_rfl) ?_;refine st_ fun K hK=>?_;go_wp2_with fail;refine r_ (uC HE _) fun w4 x4=>?_;have X4:Ext (wr.alloc (.cells #[op,.string s,num,.slice sa ra.length sc] 197)) w4:=aQu X_ x4;go_wp2_with fail;refine hK _ _ (.inr (fun k _ hk=>X4.block (by first|omega|(simp;omega)))) ?_;clear hK K;refine st_ fun K hK=>?_;go_wp2_with fail;have h7:=aFw x8 num sa ra.length sc mb w4 ((z1.ext h5).ext (q0.trans X4)) x6.out (by omega) hgl;rw [HE] at h7;refine h7.mono ?_;clear h7;rintro e w5 ⟨rfl,x5⟩;have X5:=X4.trans x5;go_wp2_with fail;refine hK _ _ (.inr (fun k _ hk=>X5.block (by first|omega|(simp;omega)))) ?_;clear hK K;refine st_ fun K hK=>?_;go_wp2_with fail;go_wp2_with fail;refine hK _ _ (.inr (fun k _ hk=>X5.block (by first|omega|(simp;omega)))) ?_;clear hK K;refine aC ?_;have q4:=hid ((HX.trans q0).trans X5);have z3:=hid ((h5.trans q0).trans X5);have x7:=hid ((HB.ext q0).ext X5);clear x4 X4 x5 X5
   cases bk
   ·go_wp2
    have HC:p.chkB=false:=by unfold Prg.chkB;rw [fL (p:=p.nameB) h3 h4.out];simp
    refine bodyPost_ret (v:=.tuple #[.int .i64 2,k]) (by simp [results,results144,go_sem]) rfl ⟨⟨_,_,rfl,by rw [HC];rfl⟩,q4⟩
   ·go_wp2
    go_roundw
    case rel=>
     refine ⟨k+1,by omega,by go_num,fun i hi=>?_,x7,q4,z3⟩
     by_cases e:i=k
     ·subst e;exact h4
     ·exact HA i (by omega)
    case measure=>simp [intOf];omega
  ·obtain rfl:k=p.ns.length:=by omega
   have q:=hB.lt;obtain ⟨q0,q1⟩:=hB.q2;clear h0 hB hx h2;go_wp2
   go_loopw [43] (fun i wr=>∃k:Nat,k<=p.ns.length/\i = .int .i64 k/\(∀j,j<k->p.arB j=true)/\Bx wr w.heap.size #[.slice a1 p.ns.length c1,.slice a2 p.gs.length c2] 119/\Ext w wr/\Ext w3 wr) (fun i _=>p.ns.length - (intOf i).toNat)
   case atStart=>exact ⟨0,by omega,rfl,fun j h=>by omega,HB,HX,h5⟩
   case round=>
    clear HB HX h5 q q0 q1;obtain ⟨k,hk,rfl,h0,hB,hx,h2⟩:=hrel;have z5:=hid h0;have HX:=hid hx;have h5:=hid h2;have HB:=hid hB
    by_cases h3:k<p.ns.length
    ·obtain ⟨b,y9,op,s,num,sa,sc,ra,rfl,y4,y5,h1,io,a5,hI,HI,y0,y1,y2,y3⟩:=HN.atW h3 hx hh
     have a6:=HI.le;have a7:=HI.cap;have q0:Ext wr (wr.alloc (.cells #[op,.string s,num,.slice sa ra.length sc] 197)):=X_
     obtain ⟨E,hE⟩:∃E,gC op (.agg #[op,.string s,num,.slice sa ra.length sc])=E:=⟨_,rfl⟩
     obtain ⟨bk,h6⟩:∃r,aFv op s ra.length=r:=⟨_,rfl⟩
     have HE:=hid hE;have x8:=hid h6;have h4:Hid (p.arB k=bk):=hid (by rw [Prg.arB_at h1,<-h6];rfl);clear h1 h0 hB hx h2 hI hE h6;go_wp2_with fail;refine r_ (uC HE _) fun w4 x4=>?_;go_wp2_with fail;have h7:=aBy x8 num sa sc w4;rw [HE] at h7;refine h7.mono ?_;clear h7;rintro e w5 ⟨rfl,x5⟩;have X5:=x4.trans x5;have q4:=hid ((HX.trans q0).trans X5);have z3:=hid ((h5.trans q0).trans X5);have x7:=hid ((HB.ext q0).ext X5);clear x4 x5 X5
     cases bk
     ·go_wp2
      have HC:p.chkB=false:=by unfold Prg.chkB;rw [fL (p:=p.arB) h3 h4.out];simp
      refine bodyPost_ret (v:=.tuple #[.int .i64 3,k]) (by simp [results,results144,go_sem]) rfl ⟨⟨_,_,rfl,by rw [HC];rfl⟩,q4⟩
     ·go_wp2
      go_roundw
      case rel=>
       refine ⟨k+1,by omega,by go_num,fun i hi=>?_,x7,q4,z3⟩
       by_cases e:i=k
       ·subst e;exact h4
       ·exact z5 i (by omega)
      case measure=>simp [intOf];omega
    ·obtain rfl:k=p.ns.length:=by omega
     have q:=hB.lt;obtain ⟨q0,q1⟩:=hB.q2;clear h0 hB hx h2;go_wp2
     go_loopw [57] (fun i wr=>∃k:Nat,k<=p.gs.length/\i = .int .i64 k/\(∀j,j<k->p.asB j=true)/\Ext w wr/\Ext w3 wr) (fun i _=>p.gs.length - (intOf i).toNat)
     case atStart=>exact ⟨0,by omega,rfl,fun j h=>by omega,HX,h5⟩
     case round=>
      clear HB HX h5 q q0 q1;obtain ⟨k,hk,rfl,h0,hx,h2⟩:=hrel;have z6:=hid h0;have HX:=hid hx;have h5:=hid h2
      by_cases h3:k<p.gs.length
      ·obtain ⟨b,y9,s,rt,rfl,y4,y5,q5,h1,ir,y0,y1⟩:=HG.at h3 hx hh
       have q0:Ext wr (wr.alloc (.cells #[.string s,rt] 200)):=X_;have x6:=q3.2 _ (aRe h1);simp only at x6
       obtain ⟨bv,z4⟩:∃b,cT s=b:=⟨_,rfl⟩
       have x9:=hid z4
       obtain ⟨t,ht⟩:∃t,eM p.gs p.gs.length s.toList=some t:=by
        cases e:eM p.gs p.gs.length s.toList with
        | some t=>exact ⟨t,rfl⟩
        | none=>
         have:=aAg e;rw [jG.2 ⟨k,_,h3,h1,rfl⟩] at this;cases this
       have HT:=hid ht
       have b3:t<=1048576:=by have:=(eX ht).1;omega
       have h4:Hid (p.asB k=(!bv && !(decide (t<k)))):=hid (by rw [Prg.asB_at h1,z4,uY ht]);have h8:=hid (hx.trans q0);have a0:=hid (h2.trans q0);have y6:=((z1.ext h2).ext q0).look x6 ht;clear q5 h1 h0 hx h2 HX h5 z4 ht
       have e0:decide (t<k)=true\/decide (t<k)=false:=by cases decide (t<k) <;> simp
       have q6:p.asB k=false->p.chkB=false:=fun h=>by unfold Prg.chkB;rw [fL (p:=p.asB) h3 h];simp
       have HF:=hid q6;clear q6
       by_cases y8:t<k
       ·have HD:=hid (h4.trans (by rw [decide_eq_true y8];simp:_=false))
        clear h4 e0
        cases bv
        all_goals
         go_wp2_with (go_at_call 201;refine z_ (cX x9 _) ?_);refine bodyPost_ret (v:=.tuple #[.int .i64 4,k]) (by simp [results,results144,go_sem]) rfl ⟨⟨_,_,rfl,by rw [HF HD];rfl⟩,h8⟩
       ·have HD:=hid (h4.trans (by rw [decide_eq_false y8];simp:_ = !bv))
        clear h4 e0
        cases bv
        ·go_wp2_with (go_at_call 201;refine z_ (cX x9 _) ?_)
         go_roundw
         case rel=>
          refine ⟨k+1,by omega,by go_num,fun i hi=>?_,h8,a0⟩
          by_cases e:i=k
          ·subst e;exact HD
          ·exact z6 i (by omega)
         case measure=>simp [intOf];omega
        ·go_wp2_with (go_at_call 201;refine z_ (cX x9 _) ?_)
         refine bodyPost_ret (v:=.tuple #[.int .i64 4,k]) (by simp [results,results144,go_sem]) rfl ⟨⟨_,_,rfl,by rw [HF HD];rfl⟩,h8⟩
      ·obtain rfl:k=p.gs.length:=by omega
       have z8:=hid (z1.ext h2);clear h0 hx h2;have HC:Hid (p.chkB=nA p.gs p.gs.length [99,111,108,111,114]):=hid (by unfold Prg.chkB Prg.colB;rw [q7,gE HA,gE z5,gE z6];rfl)
       cases hc:eM p.gs p.gs.length [99,111,108,111,114] with
       | none=>
        have z0:=hid (HC.trans (uZ hc));have HQ:=hid hc;clear HC hc;go_wp2_with (at_lookup;refine dP _ rfl _ _ rfl _ _ _ rfl z8 (⟨#[99,111,108,111,114]⟩:ByteArray) (by decide) rfl none (by rw [aL9];exact HQ) ?_);refine bodyPost_ret (v:=.tuple #[.int .i64 5,()]) (by simp [results,results144,go_sem]) rfl ⟨⟨_,_,rfl,z0.symm⟩,HX⟩
       | some t=>
        have z0:=hid (HC.trans ((uY hc).trans (decide_eq_true (eX hc).1)));have HQ:=hid hc;clear HC hc;go_wp2_with (at_lookup;refine dP _ rfl _ _ rfl _ _ _ rfl z8 (⟨#[99,111,108,111,114]⟩:ByteArray) (by decide) rfl (some t) (by rw [aL9];exact HQ) ?_);refine bodyPost_ret (v:=.tuple #[(),()]) (by simp [results,results144,go_sem]) rfl ⟨⟨_,_,rfl,z0.symm⟩,HX⟩
theorem tE {p:Prg} {b:Bool} (h:p.chkB=b) (lo hi:Nat) (v:Value) (w:World) (hv:p.R lo hi w v) (hh:hi<=w.heap.size) (hb:p.bd) (hgl:p.gs.length<=1048576) :
  R_ 94 #[v] w (.bool b):=by
 have HV:=hid hv;obtain ⟨a1,c1,a2,c2,rfl,HN,HG⟩:=hv.form;have x0:Ext w (w.alloc (.cells #[.slice a1 p.ns.length c1,.slice a2 p.gs.length c2] 119)):=X_;have HH:=hid h;clear hv HN HG h;go_enter func94,ntmps94;go_wp2_with fail;refine (aFx lo hi _ p _ (HV.ext hh x0) (aQw hh x0.size) hb hgl).mono ?_;rintro e w1 ⟨⟨c,k,rfl,hc⟩,x1⟩;rw [HH] at hc;have X1:=x0.trans x1;go_wp2;go_ret;exact ⟨rfl,X1⟩
end
def cS (S:List (List Int)) (k:Nat):List Int:=S.map fun r=>r.getD k 0
theorem dD (S:List (List Int)) (k:Nat):(cS S k).length=S.length:=by simp [cS]
theorem mO (S:List (List Int)) (k j:Nat) (h:j<S.length):(cS S k).take j++[S[j].getD k 0]=(cS S k).take (j+1):=by
 rw [aRk (by rw [dD];exact h)];simp [cS]
def fG (m:Nat) (r:List Int):Prop:=r.length=m/\∀x∈r,S9 x
theorem rS {S:List (List Int)} (h:∀r∈S,fG m r) (hk:k<m):∀x∈cS S k,S9 x:=by
 intro x hx;obtain ⟨r,hr,rfl⟩:=aSt.1 hx;obtain ⟨h1,h2⟩:=h r hr;have e:r.getD k 0=r[k]'(by omega):=cQ r k (by omega);exact e▸h2 _ (aQ8 _)
def Fun (F:Nat) (t:Tex) (ar:Nat) (fv:List Int->Int):Prop:=
 ∀(lo hi lo' hi':Nat) (u v:Value) (x:List Int) (w:World),x.length=ar->(∀y∈x,S9 y)->aU lo hi w u x->hi<=w.heap.size->cN lo' hi' w v t->hi'<=w.heap.size ->
  Calls aQt F #[v,u] w fun e w'=>e = .returned (.int .i64 (fv x))/\Ext w w'
structure wL (w:World) (B:Nat) (a b:Value):Prop where
 lt:B<w.heap.size
 c0:w.cell? ⟨B,0,none⟩=some a
 c1:w.cell? ⟨B,1,none⟩=some b
 f0:w.frozen? ⟨B,0,none⟩=false
 f1:w.frozen? ⟨B,1,none⟩=false
theorem wL.made (w:World) (a b:Value) (ty:TypeId):wL (w.alloc (.cells #[a,b] ty)) w.heap.size a b:=⟨by simp,by simp [go_sem],by simp [go_sem],by simp [go_sem],by simp [go_sem]⟩
theorem wL.ext {a b:Value} (h:wL w B a b) (e:Ext w w'):wL w' B a b:=by
 have:=e.size;have h0:=h.lt;obtain ⟨p,q⟩:=e.cells;exact ⟨by omega,(p B _ h0).trans h.c0,(p B _ h0).trans h.c1,(q B _ h0).trans h.f0,(q B _ h0).trans h.f1⟩
theorem wL.set2 {a b:Value} (h:wL w B a b) (x y:Value):hH ((w.setCell ⟨B,0,none⟩ x).setCell ⟨B,1,none⟩ y) B x y:=by
 have h0:=h.lt;have h1:=h.c0;have h2:=h.c1;refine ⟨by simpa using h0,by simp [go_sem,h1],by simp [go_sem,h2]⟩
theorem aDr (F:Nat) (fv:List Int->Int) (i0:Nat) (s:ByteArray) (S:List (List Int)) (lo hi lo' hi':Nat) (n m:Nat) (pu tu av:Value) (tm:Int) (t:Tex) (w:World)
  (hdu:(s.toList==[100,117])=false) (hdv:(s.toList==[100,118])=false) (hlook:aTa .string (.string s) dN.toList 0=some (some (i0,.func (.func F) #[] #[])))
  (hE:∀xs w',(callFunc F xs).run aQt w' = .ok (.enter F xs) w') (hF:Fun F t S.length fv) (hS:SS lo hi w av S) (hh:hi<=w.heap.size) (hT:cN lo' hi' w (.agg #[t.log,tu]) t) (hh':hi'<=w.heap.size) (hg:∀r∈S,fG m r) (hm:(n:Int)*n=m) (hm2:m<=64) (hl:S.length<=3) :
  Calls aQt 259 #[.string s,.agg #[n,pu,tm,t.log,tu],av] w fun e w'=>∃r,e = .returned r/\aB w.heap.size w' r ((aRc m).map fun k=>dU (fv (cS S k)))/\Ext w w':=by
 obtain ⟨a,cap,rfl,HS⟩:=hS.open;have l1:=HS.le;have l2:=HS.cap
 obtain ⟨ta,tc,rfl⟩:∃ta tc,tu = .slice ta t.px.length tc:=by
  obtain ⟨u,h1,_,h2⟩:=hT;obtain ⟨ta,tc,h3,_⟩:=h2.open;simp only [Value.agg.injEq,Array.mk.injEq,List.cons.injEq,true_and,and_true] at h1;exact ⟨ta,tc,h1.trans h3⟩
 have HT:=hid hT;have HG:=hid hg;have HF:=hid hF;clear hS hT hg hF;obtain ⟨j0,x2,x5,x6,x8⟩:=info_parts eK;go_enter func259,ntmps259
 have z7:w.heap.size+1=(w.alloc (.cells #[n,pu,tm,t.log,.slice ta t.px.length tc] 168)).heap.size:=by simp
 have q6:Ext w (w.alloc (.cells #[n,pu,tm,t.log,.slice ta t.px.length tc] 168)):=X_
 have q4:(w.alloc (.cells #[n,pu,tm,t.log,.slice ta t.px.length tc] 168)).cell? ⟨w.heap.size,0,none⟩=some (.int .i64 n):=by simp [go_sem]
 have q9:(w.alloc (.cells #[n,pu,tm,t.log,.slice ta t.px.length tc] 168)).cell? ⟨w.heap.size,3,none⟩=some (.int .i64 t.log):=by simp [go_sem]
 have x0:(w.alloc (.cells #[n,pu,tm,t.log,.slice ta t.px.length tc] 168)).cell? ⟨w.heap.size,4,none⟩=some (.slice ta t.px.length tc):=by simp [go_sem]
 go_upto_region 6 with fail;generalize (w.alloc (.cells #[n,pu,tm,t.log,.slice ta t.px.length tc] 168))=W0 at z7 q6 q4 q9 x0 ⊢
 have h7:w.heap.size<W0.heap.size:=by omega
 go_cut [7,8] from 31 to 36 (fun fn p wx=>fn = .func (.func F) #[] #[]/\∃A,p = .pointer (some ⟨A,0,none⟩)/\W0.heap.size<=A/\Ext W0 wx/\hH wx A (.int .i64 t.log) (.slice ta t.px.length tc))
 case first=>
  refine cZ 8 W0.heap.size (by kernel_rfl) ?_;refine z2_ (fuel:=4) [1,3,4,5] 0 6 (fun b _ hb=>rfl) (fun K hK=>?_) fun K hK=>?_
  ·go_wp2_with fail
   refine (pO _).mono ?_;rintro e wa ⟨mb,rfl,y0,x9,mh,xa⟩;have ua:Ext W0 wa:=aQu X_ xa;go_wp2_with fail;refine hK _ _ (.inr (fun b _ hb=>ua.block (by omega))) ?_;clear hK K;refine z2_ (fuel:=3) [] 2 6 (fun b _ hb=>ua.block (by omega)) (fun K hK=>?_) fun K hK=>?_
   ·refine nM _ rfl _ _ rfl mb _ _ _ rfl mh _ rfl _ hlook ?_
    go_wp2;refine hK _ _ (.inr (fun b _ hb=>ua.block (by omega))) ?_;clear hK K;refine z1_ (fuel:=2) [] 6 (fun b _ hb=>ua.block (by omega)) fun K hK=>?_;go_wp2;have ub:=ua.alloc (.cells #[(),.slice none 0 0] 313);have bx:=wL.made wa (.int .i64 0) (.slice none 0 0) 313;have hA:=ua.size;refine hK _ _ (.inr (fun b _ hb=>ub.block (by omega))) ?_;clear hK K;refine z1_ (fuel:=0) [7] 8 (fun b _ hb=>ub.block (by omega)) fun K hK=>?_;have k0:=bx.lt;have k1:=bx.c0;have k2:=bx.c1;have k3:=bx.f0;have k4:=bx.f1;go_wp2;refine l_ hK ?_;clear hK K;refine bX (by kernel_rfl) ?_;go_wp2_with fail
    go_meet
    exact ⟨rfl,wa.heap.size,rfl,by omega,(by have X:=ub;exact S_),by first|exact hH.made _ _ _ _|exact bx.set2 _ _⟩
   ·go_wp2
    have ub:=ua.alloc (.cells #[(),.slice none 0 0] 313);have bx:=wL.made wa (.int .i64 0) (.slice none 0 0) 313;have hA:=ua.size;refine hK _ _ (.inr (fun b _ hb=>ub.block (by omega))) ?_;clear hK K;refine z1_ (fuel:=2) [] 2 (fun b _ hb=>ub.block (by omega)) fun K hK=>?_;refine nM _ rfl _ _ rfl mb _ _ _ rfl ((Ext.block (w:=wa) X_ x9).trans mh) _ rfl _ hlook ?_;go_wp2;refine hK _ _ (.inr (fun b _ hb=>ub.block (by omega))) ?_;clear hK K;refine z1_ (fuel:=0) [7] 8 (fun b _ hb=>ub.block (by omega)) fun K hK=>?_;have k0:=bx.lt;have k1:=bx.c0;have k2:=bx.c1;have k3:=bx.f0;have k4:=bx.f1;go_wp2;refine l_ hK ?_;clear hK K;refine bX (by kernel_rfl) ?_;go_wp2_with fail
    go_meet
    exact ⟨rfl,wa.heap.size,rfl,by omega,(by have X:=ub;exact S_),by first|exact hH.made _ _ _ _|exact bx.set2 _ _⟩
  ·go_wp2
   have ub:Ext W0 (W0.drew.alloc (.cells #[(),.slice none 0 0] 313)):=X_;have bx:wL (W0.drew.alloc (.cells #[(),.slice none 0 0] 313)) W0.heap.size (.int .i64 0) (.slice none 0 0):=wL.made W0.drew (.int .i64 0) (.slice none 0 0) 313;refine hK _ _ (.inr (fun b _ hb=>ub.block (by omega))) ?_;clear hK K;refine z1_ (fuel:=3) [] 0 (fun b _ hb=>ub.block (by omega)) fun K hK=>?_;go_wp2_with fail;refine (pO _).mono ?_;rintro e wa ⟨mb,rfl,y0,x9,mh,xa⟩;have ua:=ub.trans xa;have h6:=bx.ext xa;go_wp2_with fail;refine hK _ _ (.inr (fun b _ hb=>ua.block (by omega))) ?_;clear hK K;refine z1_ (fuel:=2) [] 2 (fun b _ hb=>ua.block (by omega)) fun K hK=>?_;refine nM _ rfl _ _ rfl mb _ _ _ rfl mh _ rfl _ hlook ?_;go_wp2;refine hK _ _ (.inr (fun b _ hb=>ua.block (by omega))) ?_;clear hK K;refine z1_ (fuel:=0) [7] 8 (fun b _ hb=>ua.block (by omega)) fun K hK=>?_;have k0:=h6.lt;have k1:=h6.c0;have k2:=h6.c1;have k3:=h6.f0;have k4:=h6.f1;go_wp2;refine l_ hK ?_;clear hK K;refine bX (by kernel_rfl) ?_;go_wp2_with fail
   go_meet
   exact ⟨rfl,W0.heap.size,rfl,by omega,(by have X:=ua;exact S_),by first|exact hH.made _ _ _ _|exact h6.set2 _ _⟩
 case rest=>
  obtain ⟨rfl,A,rfl,hA,xc,tb⟩:=hcut;have X:=q6.trans xc;have e0:=(xc.cells.1 _ _ h7).trans q4
  have y7:w.heap.size<wc.heap.size:=by have:=xc.size;omega
  have y9:(aRc m).length=m:=by simp
  clear q4 q9 x0 q6 xc hlook;go_wp2_with (at_make;refine wpList_make_row _ rfl _ _ 24 rfl 3 j0 (.int .i64 0) underlying24 x2 x5 x6 rfl .i64 .i64 m rfl rfl (by rw [x8];omega) (by omega) ?_);have h4:=hid (bE.zero (f:=fun k=>dU (fv (cS S k))) (show bE _ _ _ m (fun _=>0) from aW8 wc (.int .i64 0) m 3));have X1:=hid (X.alloc (.cells (madeCells #[()] m) 3));have z0:=hid (tb.ext ((aQy wc).alloc (.cells (madeCells #[()] m) 3)))
  have q3:w.heap.size<=wc.heap.size:=by omega
  have q8:A≠wc.heap.size:=by have:=tb.lt;omega
  generalize hB:wc.heap.size=B at h4 q3 q8;clear x2 x5 x6 x8 X tb e0;go_wp2
  go_loopw [45] (fun i wr=>∃k:Nat,k<=m/\i = .int .i64 k/\Ext w wr/\bE wr B 3 m (lB (fun k=>dU (fv (cS S k))) k)/\hH wr A (.int .i64 t.log) (.slice ta t.px.length tc)) (fun i _=>m - (intOf i).toNat)
  case atStart=>exact ⟨0,by omega,rfl,X1,h4.out,z0.out⟩
  case round=>
   clear h4 X1 z0;obtain ⟨k,hk,rfl,hx,h4,tb⟩:=hrel
   by_cases h7:k<m
   ·have HX:=hid hx
    have HR:=hid h4;have HB:=hid tb;clear hx h4 tb
    rename World=>W1
    go_wp2
    go_loopw [11,51] (fun v i wq=>∃j:Nat,j<=S.length/\i = .int .i64 j/\aB W1.heap.size wq v ((cS S k).take j)/\Ext W1 wq) (fun _ i _=>S.length - (intOf i).toNat)
    case atStart=>exact ⟨0,by omega,rfl,aB.lit0 W1,X_⟩
    case round=>
     obtain ⟨j,hj,rfl,h0,hy⟩:=hrel;obtain ⟨av,cv,rfl,y8⟩:=h0.form
     have h5:((cS S k).take j).length=j:=by rw [aRf,dD];omega
     rw [h5] at h0 ⊢
     by_cases q5:j<S.length
     ·obtain ⟨b,a0,u,rfl,y2,y3,c0,hu⟩:=HS.at q5 (HX.trans hy) hh
      obtain ⟨g1,g2⟩:=HG _ (aQ8 q5);obtain ⟨ua,uc,rfl,HU⟩:=hu.open;have lu:=HU.le;have lc:=HU.cap;obtain ⟨b3,y1,rfl,y4,y5,c3⟩:=HU.at (k:=k) (by omega);have z8:=HX.size;have z9:=hy.size
      have y6:b3<wr.heap.size:=by omega
      have x1:=cQ S[j] k (by omega);have h8:=mO S k j q5;rw [x1] at h8;have i9:=(g2 _ (aQ8 (show k<S[j].length by omega))).i64
      obtain ⟨x,x4⟩:∃x,S[j][k]'(by omega)=x:=⟨_,rfl⟩
      rw [x4] at c3 h8 i9;rw [g1] at lu c0;have HO:=hid h0;have HY:=hid hy;have z3:=hid h8;have HL:=hid h5;have HI:=hid i9;clear h0 hy h8 h5 x4 x1 hu HU i9 z8 z9 g1 g2;go_wp2_with (at_builtin;refine aV _ rfl _ _ rfl W1.heap.size _ _ rfl (HO.alloc _) x HI wr.heap.size rfl (by simp [go_sem]) (by rw [HL];omega) (by have:=HY.size;simp;omega) ?_;intro v' w7 h0 hg);rw [z3] at h0;go_wp2;go_roundw
      case rel=>exact ⟨j+1,by omega,by go_num,h0,aRz (HY.alloc _) hg (fun g e=>(HO.lt g e).1)⟩
      case measure=>simp [intOf];omega
     ·obtain rfl:j=S.length:=by omega
      rw [aRt (by rw [dD];omega)] at h0;have tb:=HB.ext hy;have q0:=tb.lt;have q1:=tb.c0;have q2:=tb.c1;have xq:=HX.trans hy;have x3:=rS HG h7;have HC:=hid (HF _ _ _ _ _ _ _ wr (dD S k) x3 h0.ints (aQo _) (HT.ext hh' xq) (by have:=xq.size;omega));have z5:=hid xq;have z1:=hid (HR.ext hy);have z4:=hid tb;clear h0 hy tb xq x3;go_wp2_with fail;refine HC.mono ?_;rintro e w7 ⟨rfl,x7⟩;have R7:=z1.ext x7;have r0:=R7.cell h7;have r1:=R7.frozen k;have r2:=R7.lt;have z2:=hid R7
      obtain ⟨y,hy⟩:∃y,dU (fv (cS S k))=y:=⟨_,rfl⟩
      have q7:=hid hy;have z6:=hid (z5.trans x7);have h9:=hid (z4.ext x7);clear R7 hy x7 q0 q1 q2;go_wp2_with fail;refine z_ (cO q7 _) ?_;go_wp2;go_roundw
      case rel=>exact ⟨k+1,by omega,by go_num,z6.setCell q3 _,z2.step rfl q7.symm,h9.at (by simp) (aQz _ _ _ _ q8)⟩
      case measure=>simp [intOf];omega
   ·obtain rfl:k=m:=by omega
    go_wp2;go_ret;exact ⟨_,rfl,h4.full.ownInts q3 (by unfold maxLen;omega) (fun i _=>(fD _).i64),hx⟩
def fnV (t:Tex) (s:List UInt8) (x:List Int):Int:=
 if s==[97,98,115] then fT (x.getD 0 0) else if s==[102,108,111,111,114] then vK (x.getD 0 0) else if s==[109,105,110] then aH0 (x.getD 0 0) (x.getD 1 0) else if s==[109,97,120] then aHz (x.getD 0 0) (x.getD 1 0) else if s==[115,116,101,112] then aG1 (x.getD 0 0) (x.getD 1 0) else if s==[110,111,105,115,101] then mD [x.getD 0 0,x.getD 1 0] else if s==[99,108,97,109,112] then aO (x.getD 0 0) (x.getD 1 0) (x.getD 2 0) else if s==[109,105,120] then vL (x.getD 0 0) (x.getD 1 0) (x.getD 2 0) else if s==[116,101,120] then t.look (x.getD 0 0) (x.getD 1 0) else 0
def eJ (n m:Nat) (t:Tex) (s:List UInt8) (S:List (List Int)):List Int:=
 if s==[100,117] then iL (S.getD 0 []) n false else if s==[100,118] then iL (S.getD 0 []) n true else (aRc m).map fun k=>dU (fnV t s (cS S k))
theorem wM (h:x.length=1):∃a,x=[a]:=by
 match x,h with
 | [a],_=>exact ⟨a,rfl⟩
theorem jH (h:x.length=2):∃a b,x=[a,b]:=by
 match x,h with
 | [a,b],_=>exact ⟨a,b,rfl⟩
theorem rT (h:x.length=3):∃a b c,x=[a,b,c]:=by
 match x,h with
 | [a,b,c],_=>exact ⟨a,b,c,rfl⟩
theorem mP {f : FuncId} {fn : Func} (hf : Tryz.prog.funcs[f]? = some fn) (hname : (fn.name == "runtime.NumGoroutine") = false) (hb : fn.body.isSome = true) (args : Array Value) (w : World) : (callFunc f args).run aQt w = .ok (.enter f args) w := by
 cases h:fn.body with
 | none=>rw [h] at hb;cases hb
 | some c=>
  have h1 : fn.name ≠ "runtime.NumGoroutine" := by simpa using hname
  simp [callFunc,hf,h1,h]
theorem aMa (t:Tex) (_ht:t.okB=true):Fun 285 t 1 (fnV t [97,98,115]):=by
 intro lo hi lo' hi' u v x w hl hs hu hh hv h0;obtain ⟨a,rfl⟩:=wM hl;obtain ⟨cu,rfl,c1,c2⟩:=hv;exact aE3 lo hi u _ _ w hu hh (hs a (by simp)) rfl
theorem aKi:Instr.findNow .string (.string ⟨#[97,98,115]⟩) dN.toList 0=some (some (0,.func (.func 285) #[] #[])):=by rfl
theorem aIt (t:Tex) (_ht:t.okB=true):Fun 286 t 1 (fnV t [102,108,111,111,114]):=by
 intro lo hi lo' hi' u v x w hl hs hu hh hv h0;obtain ⟨a,rfl⟩:=wM hl;obtain ⟨cu,rfl,c1,c2⟩:=hv;exact aBd lo hi u _ _ w hu hh (hs a (by simp)) rfl
theorem aFy:Instr.findNow .string (.string ⟨#[102,108,111,111,114]⟩) dN.toList 0=some (some (1,.func (.func 286) #[] #[])):=by rfl
theorem aMb (t:Tex) (_ht:t.okB=true):Fun 287 t 2 (fnV t [109,105,110]):=by
 intro lo hi lo' hi' u v x w hl hs hu hh hv h0;obtain ⟨a,b,rfl⟩:=jH hl;obtain ⟨cu,rfl,c1,c2⟩:=hv;exact aE4 lo hi u _ _ w hu hh  rfl
theorem aKj:Instr.findNow .string (.string ⟨#[109,105,110]⟩) dN.toList 0=some (some (2,.func (.func 287) #[] #[])):=by rfl
theorem aMc (t:Tex) (_ht:t.okB=true):Fun 288 t 2 (fnV t [109,97,120]):=by
 intro lo hi lo' hi' u v x w hl hs hu hh hv h0;obtain ⟨a,b,rfl⟩:=jH hl;obtain ⟨cu,rfl,c1,c2⟩:=hv;exact aE5 lo hi u _ _ w hu hh  rfl
theorem aKk:Instr.findNow .string (.string ⟨#[109,97,120]⟩) dN.toList 0=some (some (3,.func (.func 288) #[] #[])):=by rfl
theorem aKl (t:Tex) (_ht:t.okB=true):Fun 289 t 2 (fnV t [115,116,101,112]):=by
 intro lo hi lo' hi' u v x w hl hs hu hh hv h0;obtain ⟨a,b,rfl⟩:=jH hl;obtain ⟨cu,rfl,c1,c2⟩:=hv;exact aC5 lo hi u _ _ w hu hh (hs a (by simp)) (hs b (by simp)) rfl
theorem aIu:Instr.findNow .string (.string ⟨#[115,116,101,112]⟩) dN.toList 0=some (some (4,.func (.func 289) #[] #[])):=by rfl
theorem aIv (t:Tex) (_ht:t.okB=true):Fun 290 t 2 (fnV t [110,111,105,115,101]):=by
 intro lo hi lo' hi' u v x w hl hs hu hh hv h0;obtain ⟨a,b,rfl⟩:=jH hl;obtain ⟨cu,rfl,c1,c2⟩:=hv;exact aBe lo hi u _ _ [a,b] w hu hh rfl
theorem aFz:Instr.findNow .string (.string ⟨#[110,111,105,115,101]⟩) dN.toList 0=some (some (5,.func (.func 290) #[] #[])):=by rfl
theorem aIw (t:Tex) (_ht:t.okB=true):Fun 291 t 3 (fnV t [99,108,97,109,112]):=by
 intro lo hi lo' hi' u v x w hl hs hu hh hv h0;obtain ⟨a,b,c,rfl⟩:=rT hl;obtain ⟨cu,rfl,c1,c2⟩:=hv;exact aBf lo hi u _ _ w hu hh  rfl
theorem aF0:Instr.findNow .string (.string ⟨#[99,108,97,109,112]⟩) dN.toList 0=some (some (6,.func (.func 291) #[] #[])):=by rfl
theorem aMd (t:Tex) (_ht:t.okB=true):Fun 292 t 3 (fnV t [109,105,120]):=by
 intro lo hi lo' hi' u v x w hl hs hu hh hv h0;obtain ⟨a,b,c,rfl⟩:=rT hl;obtain ⟨cu,rfl,c1,c2⟩:=hv;exact aE6 lo hi u _ _ w hu hh (hs a (by simp)) (hs b (by simp)) (hs c (by simp)) rfl
theorem aKm:Instr.findNow .string (.string ⟨#[109,105,120]⟩) dN.toList 0=some (some (7,.func (.func 292) #[] #[])):=by rfl
theorem aMe (t:Tex) (_ht:t.okB=true):Fun 293 t 2 (fnV t [116,101,120]):=by
 intro lo hi lo' hi' u v x w hl hs hu hh hv h0;obtain ⟨a,b,rfl⟩:=jH hl;obtain ⟨cu,rfl,c1,c2⟩:=hv
 have hv:cN lo' hi' w (.agg #[t.log,cu]) t:=⟨cu,rfl,c1,c2⟩
 exact aE8 lo hi lo' hi' u _ t w hu hh hv h0 (Tex.okB_iff.1 _ht) rfl
theorem aKn:Instr.findNow .string (.string ⟨#[116,101,120]⟩) dN.toList 0=some (some (8,.func (.func 293) #[] #[])):=by rfl
theorem aIx (rows:Bool) (xs:List Int) (lo hi:Nat) (n m:Nat) (pu tu av:Value) (tm g3:Int) (w:World) (s:ByteArray) (S:List (List Int)) (hs:s.toList=if rows then [100,118] else [100,117]) (hxs:S[0]?=some xs)
  (hS:SS lo hi w av S) (hh:hi<=w.heap.size) (hg:fG m xs) (hm:n*n=m) (h1:1<=n) (h8:n<=8) :
  Calls aQt 259 #[.string s,.agg #[n,pu,tm,g3,tu],av] w fun e w'=>∃r,e = .returned r/\aB w.heap.size w' r (iL xs n rows)/\Ext w w':=by
 obtain ⟨a,cap,rfl,HS⟩:=hS.open;have l1:=HS.le;have l2:=HS.cap;have h2:=(aQq.1 hxs).1;have h0:=(aQq.1 hxs).2;obtain ⟨b,h6,u,rfl,h3,h4,c0,hu⟩:=HS.at h2 (aQy w) hh;rw [h0] at hu;simp only [aSa] at c0
 have h5:b≠w.heap.size:=by omega
 have HU:=hid hu;clear hu hxs h0
 cases rows
 ·have e:=aIc (l:=[100,117]) hs
  subst e;clear hs;go_enter func259,ntmps259;go_wp2_with fail;refine aA [([0,1,2,3,4],5),([],6)] 99 (w.heap.size+1) (by kernel_rfl) (by kernel_rfl) ?_;refine st_ fun K hK=>?_;go_wp2_with fail;refine (yP lo hi u xs n _ (HU.ext hh X_) (by simp;omega) (hg.1.trans hm.symm) h1 h8 hg.2).mono ?_;rintro e w1 ⟨r,rfl,hr,x1⟩;obtain ⟨ra,rc,rfl,_⟩:=hr.form;have X1:Ext w w1:=aQu X_ x1;go_wp2_with fail;refine hK _ _ (.inr (fun k _ hk=>x1.block (by first|omega|(simp;omega)))) ?_;clear hK K;refine st_ fun K hK=>?_;go_wp2_with fail;go_wp2_with fail;refine hK _ _ (.inr (fun k _ hk=>x1.block (by first|omega|(simp;omega)))) ?_;clear hK K;refine aC ?_;go_wp2;go_ret;exact ⟨_,rfl,hr.low (by simp),X1⟩
 ·have e:=aIc (l:=[100,118]) hs
  subst e;clear hs;go_enter func259,ntmps259;go_wp2_with fail;refine aA [([0,1,2,3,4],5),([],6)] 99 (w.heap.size+1) (by kernel_rfl) (by kernel_rfl) ?_;refine st_ fun K hK=>?_;go_wp2_with fail;refine (yQ lo hi u xs n _ (HU.ext hh X_) (by simp;omega) (hg.1.trans hm.symm) h1 h8 hg.2).mono ?_;rintro e w1 ⟨r,rfl,hr,x1⟩;obtain ⟨ra,rc,rfl,_⟩:=hr.form;have X1:Ext w w1:=aQu X_ x1;go_wp2_with fail;refine hK _ _ (.inr (fun k _ hk=>x1.block (by first|omega|(simp;omega)))) ?_;clear hK K;refine st_ fun K hK=>?_;go_wp2_with fail;go_wp2_with fail;refine hK _ _ (.inr (fun k _ hk=>x1.block (by first|omega|(simp;omega)))) ?_;clear hK K;refine aC ?_;go_wp2;go_ret;exact ⟨_,rfl,hr.low (by simp),X1⟩
theorem aDs (s:ByteArray) (S:List (List Int)) (lo hi lo' hi':Nat) (n m:Nat) (pu tu av:Value) (tm:Int) (t:Tex) (w:World) (hs:0<=cA s) (hl:(S.length:Int)=cA s) (ht:t.okB=true)
  (hS:SS lo hi w av S) (hh:hi<=w.heap.size) (hT:cN lo' hi' w (.agg #[t.log,tu]) t) (hh':hi'<=w.heap.size) (hg:∀r∈S,fG m r) (hm:n*n=m) (h1:1<=n) (h8:n<=8) :
  Calls aQt 259 #[.string s,.agg #[n,pu,tm,t.log,tu],av] w fun e w'=>∃r,e = .returned r/\aB w.heap.size w' r (eJ n m t s.toList S)/\Ext w w':=by
 have x4:(n:Int)*n=m:=by rw [<-hm];simp
 have x3:m<=64:=by
  have:n*n<=8*8:=aRq h8 h8;omega
 have q3:∀(l:List UInt8) (F i0 ar:Nat),s.toList=l->(l==[100,117])=false->(l==[100,118])=false->(kL l=ar)->ar<=3->aTa .string (.string ⟨l.toArray⟩) dN.toList 0=some (some (i0,.func (.func F) #[] #[])) ->
   (∀xs w',(callFunc F xs).run aQt w' = .ok (.enter F xs) w')->Fun F t ar (fnV t l)->Calls aQt 259 #[.string s,.agg #[n,pu,tm,t.log,tu],av] w fun e w'=>∃r,e = .returned r/\aB w.heap.size w' r (eJ n m t s.toList S)/\Ext w w':=by
  intro l F i0 ar q2 q7 q8 x0 q9 x2 hE hF
  have q6:S.length=ar:=by
   unfold cA at hl;rw [q2,x0] at hl;omega
  subst q6;rw [q2];unfold eJ;rw [q7,q8];have e:=aIc q2;subst e;exact aDr F (fnV t l) i0 _ S lo hi lo' hi' n m pu tu av tm t w (by rw [q2];exact q7) (by rw [q2];exact q8) x2 hE hF hS hh hT hh' hg x4 x3 q9
 have hd:∀q1:Bool,s.toList=(if q1 then [100,118] else [100,117])->Calls aQt 259 #[.string s,.agg #[n,pu,tm,t.log,tu],av] w fun e w'=>∃r,e = .returned r/\aB w.heap.size w' r (eJ n m t s.toList S)/\Ext w w':=by
  intro q1 q2
  have x1:S.length=1:=by
   unfold cA at hl;rw [q2] at hl
   cases q1 <;> (have:(S.length:Int)=1:=hl;omega)
  obtain ⟨xs,rfl⟩:∃xs,S=[xs]:=by
   match S,x1 with
   | [a],_=>exact ⟨a,rfl⟩
  have:=aIx q1 xs lo hi n m pu tu av tm t.log w s [xs] q2 rfl hS hh (hg xs (by simp)) hm h1 h8;rw [q2]
  cases q1 <;> exact this
 unfold cA kL at hs
 by_cases h5:(s.toList==[97,98,115])=true
 ·exact q3 [97,98,115] _ _ 1 (eq_of_beq h5) rfl rfl rfl (by decide) aKi (mP func285 (by kernel_rfl) (by kernel_rfl)) (aMa t ht)
 by_cases h2:(s.toList==[102,108,111,111,114])=true
 ·exact q3 [102,108,111,111,114] _ _ 1 (eq_of_beq h2) rfl rfl rfl (by decide) aFy (mP func286 (by kernel_rfl) (by kernel_rfl)) (aIt t ht)
 by_cases q4:(s.toList==[100,117])=true
 ·exact hd false (eq_of_beq q4)
 by_cases q5:(s.toList==[100,118])=true
 ·exact hd true (eq_of_beq q5)
 by_cases h7:(s.toList==[109,105,110])=true
 ·exact q3 [109,105,110] _ _ 2 (eq_of_beq h7) rfl rfl rfl (by decide) aKj (mP func287 (by kernel_rfl) (by kernel_rfl)) (aMb t ht)
 by_cases h6:(s.toList==[109,97,120])=true
 ·exact q3 [109,97,120] _ _ 2 (eq_of_beq h6) rfl rfl rfl (by decide) aKk (mP func288 (by kernel_rfl) (by kernel_rfl)) (aMc t ht)
 by_cases h4:(s.toList==[115,116,101,112])=true
 ·exact q3 [115,116,101,112] _ _ 2 (eq_of_beq h4) rfl rfl rfl (by decide) aIu (mP func289 (by kernel_rfl) (by kernel_rfl)) (aKl t ht)
 by_cases h3:(s.toList==[110,111,105,115,101])=true
 ·exact q3 [110,111,105,115,101] _ _ 2 (eq_of_beq h3) rfl rfl rfl (by decide) aFz (mP func290 (by kernel_rfl) (by kernel_rfl)) (aIv t ht)
 by_cases q0:(s.toList==[116,101,120])=true
 ·exact q3 [116,101,120] _ _ 2 (eq_of_beq q0) rfl rfl rfl (by decide) aKn (mP func293 (by kernel_rfl) (by kernel_rfl)) (aMe t ht)
 by_cases h0:(s.toList==[99,108,97,109,112])=true
 ·exact q3 [99,108,97,109,112] _ _ 3 (eq_of_beq h0) rfl rfl rfl (by decide) aF0 (mP func291 (by kernel_rfl) (by kernel_rfl)) (aIw t ht)
 by_cases h9:(s.toList==[109,105,120])=true
 ·exact q3 [109,105,120] _ _ 3 (eq_of_beq h9) rfl rfl rfl (by decide) aKm (mP func292 (by kernel_rfl) (by kernel_rfl)) (aMd t ht)
 simp only [aYf] at h5 h2 q4 q5 h7 h6 h4 h3 q0 h0 h9;simp [h5,h2,q4,q5,h7,h6,h4,h3,q0,h0,h9] at hs
theorem aDt (s:ByteArray) (lo hi:Nat) (n m:Nat) (pu tu:Value) (f:Nat->Int) (tm g3:Int) (w:World) (hp:cY 5 lo hi w pu m f) (hh:hi<=w.heap.size) (hm:(n:Int)*n=m) (hm2:m<=64) (htm:I64 tm) :
  Calls aQt 257 #[.string s,.agg #[n,pu,tm,g3,tu]] w fun e w'=>∃r,e = .returned r/\aB w.heap.size w' r ((aRc m).map (lK s.toList f tm))/\Ext w w':=by
 obtain ⟨a,cap,rfl,HP⟩:=hp.open;have l1:=HP.le;have l2:=HP.cap;clear hp;obtain ⟨j0,h2,h4,h5,h6⟩:=info_parts eK;go_enter func257,ntmps257;go_wp2_with (at_make;refine wpList_make_row _ rfl _ _ 24 rfl 3 j0 (.int .i64 0) underlying24 h2 h4 h5 rfl .i64 .i64 m rfl rfl (by rw [h6];omega) (by omega) ?_);have h0:=hid (bE.zero (f:=lK s.toList f tm) (show bE _ _ _ m (fun _=>0) from aW8 (w.alloc (.cells #[n,.slice a m cap,tm,g3,tu] 168)) (.int .i64 0) m 3));have X0:=hid (show Ext w ((w.alloc (.cells #[n,.slice a m cap,tm,g3,tu] 168)).alloc (.cells (madeCells #[()] m) 3)) from X_)
 have c2:((w.alloc (.cells #[n,.slice a m cap,tm,g3,tu] 168)).alloc (.cells (madeCells #[()] m) 3)).cell? ⟨w.heap.size,2,none⟩=some (.int .i64 tm):=by simp [go_sem]
 have C2:=hid c2;clear h2 h4 h5 h6 c2;simp only [aQp] at h0;generalize hB:w.heap.size+1=B at h0
 have h1:w.heap.size<=B:=by omega
 have h7:w.heap.size≠B:=by omega
 go_wp2
 go_loopw [17] (fun i wr=>∃k:Nat,k<=m/\i = .int .i64 k/\Ext w wr/\bE wr B 3 m (lB (lK s.toList f tm) k)/\wr.cell? ⟨w.heap.size,2,none⟩=some (.int .i64 tm)) (fun i _=>m - (intOf i).toNat)
 case atStart=>exact ⟨0,by omega,rfl,X0,h0.out,C2⟩
 case round=>
  clear X0 h0 C2;obtain ⟨k,hk,rfl,hx,h0,q2⟩:=hrel;have Q2:=hid q2
  by_cases h3:k<m
  ·obtain ⟨b,q5,rfl,q1,q3,hc⟩:=HP.at h3 (by decide)
   have zs:=hx.size;have q0:=h0.lt;have c0:=(hx.cells.1 b _ (by omega)).trans (hc 0 (by decide));have c1:=(hx.cells.1 b _ (by omega)).trans (hc 1 (by decide));have c2:=(hx.cells.1 b _ (by omega)).trans (hc 2 (by decide));have c3:=(hx.cells.1 b _ (by omega)).trans (hc 3 (by decide));have c4:=(hx.cells.1 b _ (by omega)).trans (hc 4 (by decide));simp only [aSa] at c0
   have q4:b<wr.heap.size:=by omega
   have h8:w.heap.size<wr.heap.size:=by omega
   have r0:=h0.cell h3;have r1:=h0.frozen k;have HX:=hid hx;have HR:=hid h0;clear hc hx h0;go_wp2
   all_goals
    go_roundw
    case rel=>
     refine ⟨k+1,by omega,by go_num,(Ext.setCell HX h1 _).alloc _,bE.alloc (bE.step HR rfl ?_) _,?_⟩
     ·simp only [lK]
      simp [*]
     ·have:=Q2.out
      simp [go_sem,h7,h8,this]
    case measure=>simp [intOf];omega
  ·obtain rfl:k=m:=by omega
   have h9:∀i,i<k->I64 (lK s.toList f tm i):=fun i hi=>by
    unfold lK
    split
    ·exact HP.i64 (j:=0) hi (by decide)
    split
    ·exact HP.i64 (j:=1) hi (by decide)
    split
    ·exact HP.i64 (j:=2) hi (by decide)
    split
    ·exact HP.i64 (j:=3) hi (by decide)
    split
    ·exact HP.i64 (j:=4) hi (by decide)
    ·exact htm
   go_wp2;go_ret;exact ⟨_,rfl,h0.full.ownInts h1 (by unfold maxLen;omega) h9,hx⟩
theorem aAh {b:List Int} (ha:a.length=m) (hb:b.length=m):fG m (aTg (eU op) a b):=by
 refine ⟨by simp;omega,fun x hx=>?_⟩;obtain ⟨i,hi,rfl⟩:=aRn hx;simp;exact fD _
theorem aKo (l:List UInt8) (hf:∀i,i<m*5->S9 (f i)) (ht:S9 tm) (hq:q<m):S9 (lK l f tm q):=by
 unfold lK
 split
 ·exact hf _ (by omega)
 split
 ·exact hf _ (by omega)
 split
 ·exact hf _ (by omega)
 split
 ·exact hf _ (by omega)
 split
 ·exact hf _ (by omega)
 ·exact ht
theorem aF1 (hm:n*n=m) (t:Tex) (l:List UInt8) (S:List (List Int)):fG m (eJ n m t l S):=by
 have hd:∀xs rows,fG m (iL xs n rows):=fun xs rows=>⟨by rw [gQ,hm],fun x hx=>by
  obtain ⟨i,hi,rfl⟩:=aRn hx;rw [nK]
  exact rD _ _ _ _⟩
 unfold eJ
 split
 ·exact hd _ _
 split
 ·exact hd _ _
 ·refine ⟨by simp,fun x hx=>?_⟩
  obtain ⟨i,hi,rfl⟩:=aSt.1 hx;exact fD _
theorem Grd.partsE {g:Grd} (h:g.okB=true):∃n:Nat,g.n=n/\n*n=g.m/\1<=n/\n<=8/\g.t.okB=true/\S9 g.tm/\∀i,i<g.m*5->S9 (g.f i):=by
 unfold Grd.okB at h;simp only [aQ4,decide_eq_true_eq,aRw,aRu] at h;obtain ⟨⟨⟨⟨h1,h2⟩,h3⟩,h4⟩,h5⟩:=h;have h1:=aG.1 h1;have h3:=aG.1 h3
 obtain ⟨n,hn⟩:∃n:Nat,g.n=n:=⟨g.n.toNat,by omega⟩
 rw [hn] at h1 h2
 have h6:((n*n:Nat):Int)=(g.m:Int):=by rw [h2];simp
 refine ⟨n,hn,by omega,by omega,by omega,h4,⟨by omega,by omega⟩,fun i hi=>?_⟩;have h7:=h5 (i / 5) (by omega);unfold ptB ptL at h7;simp only [aXd,List.all_nil,aYc,aQ4] at h7;obtain ⟨a0,a1,a2,a3,a4⟩:=h7
 have h0:i=i / 5*5+i % 5:=by omega
 have h9:i % 5<5:=aTf _ (by decide)
 have h8:inB (g.f i) (-1000000) 1000000=true:=by
  rcases (show i % 5=0\/i % 5=1\/i % 5=2\/i % 5=3\/i % 5=4 by omega) with e|e|e|e|e <;> rw [e] at h0 <;> rw [h0]
  ·exact a0
  ·exact a1
  ·exact a2
  ·exact a3
  ·exact a4
 have:=aG.1 h8;exact ⟨by omega,by omega⟩
def Prg.rootOf (p:Prg) (s:ByteArray):Nat:=match eM p.gs p.gs.length s.toList with|some i=>((p.gs[i]?).map fun a=>a.root.toNat).getD 0|none=>0
def evB (p:Prg) (n m:Nat) (f:Nat->Int) (tm:Int) (t:Tex) (rec:Nat->List Int) (x:Nd):List Int:=
 if x.op=1 then aRa m x.num else if x.op=2 then (if cT x.name then (aRc m).map (lK x.name.toList f tm) else rec (p.rootOf x.name))
 else if x.op=8 then eJ n m t x.name.toList (x.args.map fun a=>rec a.toNat)
 else aTg (eU x.op) ((x.args.map fun a=>rec a.toNat).getD 0 []) ((x.args.map fun a=>rec a.toNat).getD (if x.op=3 then 0 else 1) [])
def evF (p:Prg) (n m:Nat) (f:Nat->Int) (tm:Int) (t:Tex):Nat->Nat->List Int
 | 0,_=>[]
 | F+1,j=>match p.ns[j]? with|some x=>evB p n m f tm t (evF p n m f tm t F) x|none=>[]
noncomputable def Prg.rank (p:Prg) (j:Nat):Nat:=p.own j*64+j
noncomputable def Prg.ev (p:Prg) (n m:Nat) (f:Nat->Int) (tm:Int) (t:Tex) (j:Nat):List Int:=evF p n m f tm t (p.rank j+1) j
structure Prg.K (p:Prg):Prop where
 v:p.V
 name:∀(k:Nat) (x:Nd),p.ns[k]?=some x->x.op=2->cT x.name=false->∃i,eM p.gs p.gs.length x.name.toList=some i/\i<p.own k
 call:∀(k:Nat) (x:Nd),p.ns[k]?=some x->x.op=8->0<=cA x.name/\cA x.name=x.args.length
 one:∀(i j:Nat) (a b:Asg),p.gs[i]?=some a->p.gs[j]?=some b->a.name.toList=b.name.toList->i=j
 col:∃i,eM p.gs p.gs.length [99,111,108,111,114]=some i
theorem aHk {gs:List Asg} {l:List UInt8} {t:Nat} (h:nA gs t l=true):∃i,eM gs gs.length l=some i/\i<t:=by
 cases e:eM gs gs.length l with
 | none=>rw [uZ e] at h;cases h
 | some i=>rw [uY e,decide_eq_true_eq] at h;exact ⟨i,rfl,h⟩
theorem Prg.chkB_K {p:Prg} (h:p.chkB=true):p.K:=by
 unfold Prg.chkB at h;simp only [aQ4] at h;obtain ⟨⟨⟨⟨h1,h2⟩,h3⟩,h4⟩,h5⟩:=h;rw [aRw] at h2 h3 h4;have hv:=Prg.okB_V h1
 have h7:∀(i j:Nat) (a b:Asg),i<j->p.gs[i]?=some a->p.gs[j]?=some b->a.name.toList=b.name.toList->False:=by
  intro i j a b h0 ha hb he;have:=h4 j (aRu.2 (aQq.1 hb).1);rw [Prg.asB_at hb,aQ4] at this;have h6:=this.2;rw [jG.2 ⟨i,a,h0,ha,he⟩] at h6;cases h6
 refine ⟨hv,fun k x hx h2' hvar=>?_,fun k x hx h8=>?_,fun i j a b ha hb he=>?_,?_⟩
 ·have:=h2 k (aRu.2 (aQq.1 hx).1)
  rw [Prg.nameB_at hx,if_pos h2',hvar,Bool.false_or] at this;exact aHk this
 ·have e1:=h2 k (aRu.2 (aQq.1 hx).1)
  rw [Prg.nameB_at hx,if_neg (by omega),if_pos h8,decide_eq_true_eq] at e1;have e2:=h3 k (aRu.2 (aQq.1 hx).1);rw [Prg.arB_at hx,if_pos h8,decide_eq_true_eq] at e2;exact ⟨e1,e2⟩
 ·rcases Nat.lt_trichotomy i j with h0|h0|h0
  ·exact (h7 i j a b h0 ha hb he).elim
  ·exact h0
  ·exact (h7 j i b a h0 hb ha he.symm).elim
 ·obtain ⟨i,hi,_⟩:=aHk h5
  exact ⟨i,hi⟩
theorem Prg.K.root {p:Prg} (h:p.K) {s:ByteArray} (hf:eM p.gs p.gs.length s.toList=some i):∃(s':ByteArray),p.gs[i]?=some ⟨s',(p.rootOf s:Nat)⟩/\s'.toList=s.toList/\p.own (p.rootOf s)=i/\p.rootOf s<p.ns.length:=by
 obtain ⟨h1,⟨a,h2,h3⟩,_⟩:=eX hf;have hr:=(h.v.ag i a h2).2
 have e:p.rootOf s=a.root.toNat:=by unfold Prg.rootOf;rw [hf];simp [h2]
 have e2:a=⟨a.name,(p.rootOf s:Nat)⟩:=by cases a;simp only [Asg.mk.injEq,true_and] at *;omega
 have h4:p.gs[i]?=some ⟨a.name,(p.rootOf s:Nat)⟩:=by rw [h2];exact congrArg some e2
 have ho:=h.v.own_eq (Own.root h4);exact ⟨a.name,h4,h3,ho,by omega⟩
theorem Prg.K.rank_arg {p:Prg} (h:p.K) {x:Nd} (hx:p.ns[j]?=some x) {a:Int} (ha:a∈x.args):p.rank a.toNat<p.rank j/\a.toNat<p.ns.length/\p.own a.toNat=p.own j:=by
 have h1:=(h.v.nd j x hx).2 a ha;have h2:=(aQq.1 hx).1;have h3:=(h.v.own_is h2).down hx (j:=a.toNat) (by rw [Int.toNat_of_nonneg h1.1];exact ha);have h4:=h.v.own_eq h3;unfold Prg.rank;rw [h4];omega
theorem Prg.K.rank_name {p:Prg} (h:p.K) {x:Nd} (hx:p.ns[j]?=some x) (h2:x.op=2) (hv:cT x.name=false):p.rank (p.rootOf x.name)<p.rank j:=by
 obtain ⟨i,hi,h0⟩:=h.name j x hx h2 hv;obtain ⟨s',_,_,h3,h4⟩:=h.root hi;have:=h.v.len;unfold Prg.rank;rw [h3];omega
theorem aAi {p:Prg} {t:Tex} {rec rec':Nat->List Int} {x:Nd} (h1:∀a∈x.args,rec a.toNat=rec' a.toNat) (h2:x.op=2->cT x.name=false->rec (p.rootOf x.name)=rec' (p.rootOf x.name)) :
  evB p n m f tm t rec x=evB p n m f tm t rec' x:=by
 have e:(x.args.map fun a=>rec a.toNat)=x.args.map fun a=>rec' a.toNat:=aTz h1;unfold evB;rw [e]
 by_cases o2:x.op=2
 ·cases hv:cT x.name
  ·rw [h2 o2 hv]
  ·rfl
 ·simp only [if_neg o2]
theorem aKp {p:Prg} (h:p.K) {t:Tex}:∀(F F' j:Nat),p.rank j<F->p.rank j<F'->evF p n m f tm t F j=evF p n m f tm t F' j:=by
 intro F
 induction F with
 | zero=>intro F' j hj;omega
 | succ F ih=>
  intro F' j hj h0
  obtain ⟨G,rfl⟩:∃G,F'=G+1:=⟨F' - 1,by omega⟩
  unfold evF
  cases hx:p.ns[j]? with
  | none=>rfl
  | some x=>
   refine aAi (fun a ha=>?_) (fun o2 hv=>?_)
   ·have:=(h.rank_arg hx ha).1
    exact ih G _ (by omega) (by omega)
   ·have:=h.rank_name hx o2 hv
    exact ih G _ (by omega) (by omega)
theorem Prg.K.ev_step {p:Prg} (h:p.K) {t:Tex} {x:Nd} (hx:p.ns[j]?=some x):p.ev n m f tm t j=evB p n m f tm t (p.ev n m f tm t) x:=by
 have e:p.ev n m f tm t j=evB p n m f tm t (evF p n m f tm t (p.rank j)) x:=by
  unfold Prg.ev evF;rw [hx]
 rw [e];refine aAi (fun a ha=>?_) (fun o2 hv=>?_)
 ·exact aKp h _ _ _ (h.rank_arg hx ha).1 (by omega)
 ·exact aKp h _ _ _ (h.rank_name hx o2 hv) (by omega)
theorem wN {α : Type} (L:List α) (g : α->List Int) (hi:i<L.length):(L.map g).getD i []=g L[i]:=by
 rw [List.getD_eq_getElem?_getD,aSf,aQ0 hi]
 rfl
theorem jI {x:Nd} (h:gK x=true):(x.op=1/\inB x.num 0 2559999=true/\x.args.length=0)\/(x.op=2/\x.args.length=0)\/(x.op=3/\x.args.length=1)\/(4<=x.op/\x.op<=7/\x.args.length=2)\/(x.op=8/\x.args.length<=3):=by
 unfold gK at h;simp only [aQ4] at h;obtain ⟨⟨_,h2⟩,h3⟩:=h;unfold aBv at h3
 split at h3
 ·rename_i hc
  have h3:x.args.length=0:=by simpa using h3
  rcases hc with hc|hc
  ·rw [if_pos hc] at h2;exact .inl ⟨hc,h2,h3⟩
  ·exact .inr (.inl ⟨hc,h3⟩)
 split at h3
 ·rename_i hc
  exact .inr (.inr (.inl ⟨hc,by simp at h3;omega⟩))
 split at h3
 ·rename_i hc
  exact .inr (.inr (.inr (.inl ⟨hc.1,hc.2,by simp at h3;omega⟩)))
 split at h3
 ·rename_i hc
  exact .inr (.inr (.inr (.inr ⟨hc,by simp at h3;omega⟩)))
 ·cases h3
theorem Prg.K.ev_good {p:Prg} (h:p.K) {t:Tex} (hm:n*n=m) (hf:∀i,i<m*5->S9 (f i)) (ht:S9 tm):∀(F j:Nat),p.rank j<F->j<p.ns.length->fG m (p.ev n m f tm t j):=by
 intro F
 induction F with
 | zero=>intro j hj;omega
 | succ F ih=>
  intro j hj h0
  have hx:p.ns[j]?=some p.ns[j]:=by simp [h0]
  obtain ⟨x,h1⟩:∃x,p.ns[j]=x:=⟨_,rfl⟩
  rw [h1] at hx;rw [h.ev_step hx]
  have hA:∀a∈x.args,fG m (p.ev n m f tm t a.toNat):=fun a ha=>by
   have:=h.rank_arg hx ha;exact ih _ (by omega) this.2.1
  unfold evB
  rcases jI (h.v.nd j x hx).1 with ⟨o,h2,h3⟩|⟨o,h3⟩|⟨o,h3⟩|⟨o,o',h3⟩|⟨o,h3⟩
  ·rw [if_pos o]
   have:=aG.1 h2;exact ⟨by simp,fun y hy=>by rw [(aVe.1 hy).2];exact ⟨by omega,by omega⟩⟩
  ·rw [if_neg (by omega),if_pos o]
   cases hv:cT x.name
   ·obtain ⟨i,hi,_⟩:=h.name j x hx o hv
    obtain ⟨s',_,_,h4,h5⟩:=h.root hi;have:=h.rank_name hx o hv;exact ih _ (by omega) h5
   ·refine ⟨by simp,fun y hy=>?_⟩
    obtain ⟨q,hq,rfl⟩:=aSt.1 hy;exact aKo _ hf ht (aRu.1 hq)
  ·rw [if_neg (by omega),if_neg (by omega),if_neg (by omega),if_pos o,wN _ _ (by omega)]
   exact aAh (hA _ (aQ8 _)).1 (hA _ (aQ8 _)).1
  ·rw [if_neg (by omega),if_neg (by omega),if_neg (by omega),if_neg (by omega),wN _ _ (by omega),wN _ _ (by omega)]
   exact aAh (hA _ (aQ8 _)).1 (hA _ (aQ8 _)).1
  ·rw [if_neg (by omega),if_neg (by omega),if_pos o]
   exact aF1 hm t _ _
def fE (w w':World):Prop:=∀(b:Nat) (cur:Array Value) (fr:Nat×Nat),w.heap[b]?=some (.cells cur 3 fr)->w'.heap[b]?=some (.cells cur 3 fr)
theorem fE.trans (h:fE w w1) (k:fE w1 w2):fE w w2:=fun b c f e=>k b c f (h b c f e)
theorem Ext.keepI (h:Ext w w'):fE w w':=fun b c f e=>(h.block (aQ9.1 e).1).trans e
theorem fE.grown {row:Option Nat} (h:w.grownBy w' row) (hr:∀(k:Nat) (cur:Array Value) (fr:Nat×Nat),row=some k->w.heap[k]?≠some (.cells cur 3 fr)):fE w w':=fun b c f e=>
 (h.block b (aQ9.1 e).1 (fun e'=>hr b c f e'.symm e)).trans e
theorem fE.setCell {p:Addr} (u:Value) (h:∀(cur:Array Value) (fr:Nat×Nat),w.heap[p.block]?≠some (.cells cur 3 fr)):fE w (w.setCell p u):=fun b c f e=>by
 have hne:b≠p.block:=fun e'=>h c f (e'▸e);rw [aQz w p u b hne];exact e
theorem aB.keepI (h:aB lo w v xs) (k:fE w w'):aB lo w' v xs:=by
 obtain ⟨⟨h1,h2⟩,h3⟩:=h;refine ⟨⟨h1,?_⟩,h3⟩
 rcases h2 with hn|⟨g,cap,cur,hv,hb,hg,r⟩
 ·exact .inl hn
 ·exact .inr ⟨g,cap,cur,hv,hb,k _ _ _ hg,r⟩
structure Rws (lo:Nat) (w:World) (vs:List Value) (S:List (List Int)):Prop where
 len:vs.length=S.length
 own:∀(i:Nat) (v:Value) (xs:List Int),vs[i]?=some v->S[i]?=some xs->aB lo w v xs
theorem Rws.keepI {S:List (List Int)} (h:Rws lo w vs S) (k:fE w w'):Rws lo w' vs S:=⟨h.len,fun i v xs h1 h2=>(h.own i v xs h1 h2).keepI k⟩
theorem Rws.nil (lo:Nat) (w:World):Rws lo w [] []:=⟨rfl,fun i v xs h=>by simp at h⟩
theorem Rws.snoc {S:List (List Int)} (h:Rws lo w vs S) (hv:aB lo w v xs):Rws lo w (vs++[v]) (S++[xs]):=by
 have hl:=h.len;refine ⟨by simp [hl],fun i u ys h1 h2=>?_⟩
 by_cases hi:i<vs.length
 ·rw [aR2 hi] at h1
  rw [aR2 (by omega)] at h2;exact h.own i u ys h1 h2
 ·rw [aRs (by omega)] at h1
  rw [aRs (by omega)] at h2
  have h0:i - vs.length=0:=by
   have:=(aQq.1 h1).1;simp at this;omega
  rw [h0] at h1;rw [show i - S.length=0 by omega] at h2;simp at h1 h2;subst h1 h2;exact hv
theorem Rws.take {S:List (List Int)} (h:Rws lo w vs S) (k:Nat):Rws lo w (vs.take k) (S.take k):=by
 refine ⟨by simp [h.len],fun i u ys h1 h2=>?_⟩;rw [aSr] at h1 h2
 split at h1
 ·rename_i hk
  rw [if_pos hk] at h2;exact h.own i u ys h1 h2
 ·cases h1
theorem Rws.drop {S:List (List Int)} (h:Rws lo w vs S) (k:Nat):Rws lo w (vs.drop k) (S.drop k):=by
 refine ⟨by simp [h.len],fun i u ys h1 h2=>?_⟩;rw [aS0] at h1 h2;exact h.own _ u ys h1 h2
theorem Rws.set {S:List (List Int)} (h:Rws lo w vs S) (k:Nat) (hv:aB lo w v xs):Rws lo w (vs.set k v) (S.set k xs):=by
 refine ⟨by simp [h.len],fun i u ys h1 h2=>?_⟩;rw [aUd] at h1 h2
 split at h1
 ·rename_i hk
  rw [if_pos hk] at h2
  split at h1
  ·split at h2
   ·injection h1 with h1
    injection h2 with h2;subst h1 h2;exact hv
   ·cases h2
  ·cases h1
 ·rename_i hk
  rw [if_neg hk] at h2;exact h.own i u ys h1 h2
def Apt (vs:List Value):Prop:=vs.Pairwise fun u v=>∀k,u.ownBlock=some k->v.ownBlock≠some k
def zC (r:Value) (vs:List Value):Prop:=∀u∈vs,∀k,u.ownBlock=some k->r.ownBlock≠some k
theorem zC.of {M:Nat} {S:List (List Int)} (h:Rws lo w vs S) (hM:w.heap.size<=M) (hr:∀k,r.ownBlock=some k->M<=k):zC r vs:=by
 intro u hu k hk e;obtain ⟨i,hi,rfl⟩:=aRn hu;have hl:=h.len;have:=((h.own i vs[i] (S[i]'(by omega)) (by simp [hi]) (by simp [show i<S.length by omega])).lt k hk).2;have:=hr k e;omega
theorem Apt.insert (h:Apt (vs++us)) (hr:zC r (vs++us)):Apt ((vs++[r])++us):=by
 unfold Apt at *;simp only [aXi,aS2,aTq,aYi,true_and] at h ⊢;obtain ⟨h1,h2,h3⟩:=h;refine ⟨⟨h1,?_⟩,h2,?_⟩
 ·rintro a ha b rfl k hk
  exact hr a (List.mem_append_left _ ha) k hk
 ·rintro a (ha|rfl) b hb k hk
  ·exact h3 a ha b hb k hk
  ·intro e
   exact hr b (List.mem_append_right _ hb) k e hk
theorem Apt.sub {vs' us':List Value} (h:Apt (vs++us)) (h1:List.Sublist vs' vs) (h2:List.Sublist us' us):Apt (vs'++us'):=List.Pairwise.sublist (h1.append h2) h
theorem Apt.store (h:Apt ((vs++[r])++us)) (k:Nat):Apt (vs++us.set k r):=by
 unfold Apt at *;simp only [aXi,aS2,aTq,aYi,true_and] at h ⊢;obtain ⟨⟨h1,h4⟩,h2,h3⟩:=h
 have h0:∀(us:List Value) (k:Nat),us.Pairwise (fun u v=>∀k,u.ownBlock=some k->v.ownBlock≠some k)->(∀b∈us,∀k,r.ownBlock=some k->b.ownBlock≠some k)->(us.set k r).Pairwise (fun u v=>∀k,u.ownBlock=some k->v.ownBlock≠some k):=by
  intro us
  induction us with
  | nil=>intro k _ _;simp
  | cons x xs ih=>
   intro k hp hr;rw [aWh] at hp
   cases k with
   | zero=>
    rw [aQ2,aWh];exact ⟨fun b hb=>hr b (aUx _ hb),hp.2⟩
   | succ k=>
    rw [aQ3,aWh];refine ⟨fun b hb j hj e=>?_,ih k hp.2 fun b hb=>hr b (aUx _ hb)⟩
    rcases aV5 hb with hb|rfl
    ·exact hp.1 b hb j hj e
    ·exact hr x aVd j e hj
 refine ⟨h1,h0 us k h2 fun b hb j hj=>h3 r (.inr rfl) b hb j hj,?_⟩;intro a ha b hb j hj e
 rcases aV5 hb with hb|rfl
 ·exact h3 a (.inl ha) b hb j hj e
 ·exact h4 a ha b rfl j hj e
theorem oU:(Tryz.prog.info? 24).map (fun i=>(i.zero,i.size,i.bytes))=some (some (.slice none 0 0),1,24):=by kernel_rfl
theorem ownsRow.form {size:Nat} {xs:List Value} (h:w.ownsRow lo e size v n xs):∃a cap,v = .slice a n cap:=by
 rcases h.2 with ⟨rfl,h4⟩|⟨g,cap,cur,rfl,hb,hg,hc,hm,hs,ht⟩
 ·exact ⟨none,0,by rw [h4]⟩
 ·exact ⟨some ⟨g,0,none⟩,cap,rfl⟩
theorem fF (w:World) {ops:Array Oper} {rest:List Oper} {o:Oper} {a:Act} {Q:Exit->Act->World->Prop} (hg:o.guard=none) (s x:Operand)
  (hop:o.op=Op.call { callee:=Callee.builtin Builtin.append,args:=#[s,x],argTypes:=#[76,76] }) (lo:Nat) (v:Value) (n:Nat) (vs:List Value) (hs:a.eval s=v) (hown:w.ownsRow lo 24 1 v n vs)
  (y:Value) (hy:y.oneCell'=true) (b:Nat) (hx:a.eval x = .slice (some ⟨b,0,none⟩) 1 1) (hcell:w.cell? ⟨b,0,none⟩=some y) (hlen:n<1000000) (hlo:lo<=w.heap.size)
  (hK:∀v' w',w'.ownsRow lo 24 1 v' (n+1) (vs++[y])->w.grownBy w' v.ownBlock->wpList aQt ops Q rest (a.put o.dst v') w'):wpList aQt ops Q (o::rest) a w:=by
 obtain ⟨i0,h2,h3,h4,h5⟩:=info_parts oU;refine wpList_append_own w hg s x 76 hop lo 24 i0 (.slice none 0 0) 1 24 underlying76 h2 h3 h4 h5 rfl (by decide) v n _ hs hown ⟨b,0,none⟩ 1 1 [y] hx rfl ?_ ?_ ?_ ?_ hlo ?_
 ·intro j u hj
  match j,hj with
  | 0,hj=>simp at hj;subst hj;exact hcell
 ·intro u hu;simp at hu;subst hu;exact hy
 ·unfold maxLen;omega
 ·omega
 ·intro v' w1 h1 h0 _
  exact hK v' w1 h1 h0
theorem dH (w:World) {ops:Array Oper} {rest:List Oper} {o:Oper} {a:Act} {Q:Exit->Act->World->Prop} (hg:o.guard=none) (s x:Operand)
  (hop:o.op=Op.call { callee:=Callee.builtin Builtin.append,args:=#[s,x],argTypes:=#[76,76] }) (lo:Nat) (v:Value) (n:Nat) (vs:List Value) (hs:a.eval s=v) (hown:w.ownsRow lo 24 1 v n vs)
  (ys:List Value) (hy:∀y∈ys,y.oneCell'=true) (b off cap:Nat) (hx:a.eval x = .slice (some ⟨b,off,none⟩) ys.length cap) (hcell:∀i y,ys[i]?=some y->w.cell? ⟨b,off+i,none⟩=some y) (hlen:n+ys.length<1000000) (hlo:lo<=w.heap.size)
  (hK:∀v' w',w'.ownsRow lo 24 1 v' (n+ys.length) (vs++ys)->w.grownBy w' v.ownBlock->wpList aQt ops Q rest (a.put o.dst v') w'):wpList aQt ops Q (o::rest) a w:=by
 obtain ⟨i0,h2,h3,h4,h5⟩:=info_parts oU;refine wpList_append_own w hg s x 76 hop lo 24 i0 (.slice none 0 0) 1 24 underlying76 h2 h3 h4 h5 rfl (by decide) v n _ hs hown ⟨b,off,none⟩ ys.length cap ys hx (by simp) ?_ hy ?_ ?_ hlo ?_
 ·intro j u hj
  have:=hcell j u hj
  rwa [Addr.add_lit]
 ·unfold maxLen;omega
 ·omega
 ·intro v' w1 h1 h0 _
  exact hK v' w1 h1 h0
theorem aIy (b off n cap:Nat) (w:World):(binOp .eql 24 (.slice (some ⟨b,off,none⟩) n cap) (.slice none 0 0)).run aQt w = .ok (.bool false) w:=by
 simp only [binOp];simp [Op.equal,Op.maxDepth,aV4 w 9999 24 3 (some ⟨b,off,none⟩) n cap 0 0 underlying24]
theorem aIz (b off n cap:Nat) (w:World):(binOp .eql 76 (.slice (some ⟨b,off,none⟩) n cap) (.slice none 0 0)).run aQt w = .ok (.bool false) w:=by
 simp only [binOp];simp [Op.equal,Op.maxDepth,aV4 w 9999 76 24 (some ⟨b,off,none⟩) n cap 0 0 underlying76]
theorem wO (lo hi:Nat) (u:Value) (xs:List Int) (w:World) (hu:aU lo hi w u xs) (hh:hi<=w.heap.size) (h1:1<=xs.length) (h2:xs.length<=144) :
  Calls aQt 164 #[u] w fun e w'=>∃v',e = .returned v'/\aB w.heap.size w' v' xs/\Ext w w':=by
 obtain ⟨a,cap,rfl,HU⟩:=hu.open;obtain ⟨b,h7,rfl,q0,q1,_⟩:=HU.at (k:=0) (by omega);have l1:=HU.le;have l2:=HU.cap;clear hu;go_enter func164,ntmps164
 have HC:∀i y,xs[i]?=some y->I64 y/\(w.alloc (.cells #[] 3)).cell? ⟨b,h7+i,none⟩=some (.int .i64 y):=by
  intro i y hy;obtain ⟨h3,b',h9,e,h4,h5,h6⟩:=HU.cell i y hy;simp only [aQr,aRv,and_true] at e;obtain ⟨rfl,rfl⟩:=e;exact ⟨h3,(((aQy w).alloc _).cells.1 b _ (by omega)).trans h6⟩
 have HC:=hid HC;have h8:=fun w=>aIy b h7 xs.length cap w;go_wp2_with (at_builtin;refine bY _ rfl _ _ rfl w.heap.size (.slice (some ⟨w.heap.size,0,none⟩) 0 0) [] xs rfl (aB.empty (aQo _) (cB w _)) b h7 cap rfl HC (by simp;omega) (by simp) ?_;intro v' w1 h0 hg;obtain ⟨a',c',rfl,_⟩:=h0.form);go_ret;exact ⟨_,rfl,by simpa using h0,((aQy w).alloc _).grown hg (fun k e=>by simp [aRm] at e;omega)⟩
theorem ownsRow.empty (hl:lo<=g) (hg:w.heap[g]?=some (.cells #[] e)):w.ownsRow lo e 1 (.slice (some ⟨g,0,none⟩) 0 0) 0 []:=
 ⟨rfl,.inr ⟨g,0,#[],rfl,hl,hg,aQo _,aR8 _,rfl,rfl⟩⟩
theorem zD (b off cap:Nat) (ys:List Value) (w:World) (hb:b<w.heap.size) (hc:ys.length<=cap) (hc2:cap<=9223372036854775807) (hcell:∀i y,ys[i]?=some y->w.cell? ⟨b,off+i,none⟩=some y) (hy:∀y∈ys,y.oneCell'=true) (h2:ys.length<=1000) :
  Calls aQt 273 #[.slice (some ⟨b,off,none⟩) ys.length cap] w fun e w'=>∃v',e = .returned v'/\w'.ownsRow w.heap.size 24 1 v' ys.length ys/\Ext w w':=by
 go_enter func273,ntmps273;have HC:∀i y,ys[i]?=some y->(w.alloc (.cells #[] 24)).cell? ⟨b,off+i,none⟩=some y:=fun i y h=>(((aQy w).alloc _).cells.1 b _ hb).trans (hcell i y h);have HC:=hid HC;have HY:=hid hy;have h1:=fun w=>aIz b off ys.length cap w;clear hcell hy;go_wp2_with (at_builtin;refine dH _ rfl _ _ rfl w.heap.size (.slice (some ⟨w.heap.size,0,none⟩) 0 0) 0 [] rfl (ownsRow.empty (aQo _) (cB w _)) ys HY b off cap rfl HC (by omega) (by simp) ?_;intro v' w1 h0 hg;obtain ⟨a',c',rfl⟩:=ownsRow.form h0);go_ret;exact ⟨_,rfl,by simpa using h0,((aQy w).alloc _).grown hg (fun k e=>by simp [aRm] at e;omega)⟩
def Nls (us:List Value) (L:List (List Int)):Prop:=∀(j:Nat) (u:Value),us[j]?=some u->L[j]?=some []->u = .slice none 0 0
theorem Nls.set {L:List (List Int)} (h:Nls us L) (j:Nat) (hx:xs≠[]):Nls (us.set j v) (L.set j xs):=by
 intro i u h1 h2;rw [aUd] at h1 h2
 by_cases e:j=i
 ·rw [if_pos e] at h2
  split at h2
  ·injection h2 with h2;exact absurd h2 hx
  ·cases h2
 ·rw [if_neg e] at h1 h2
  exact h i u h1 h2
theorem Nls.nils (k:Nat):Nls (aRa k (.slice none 0 0)) (aRa k []):=by
 intro j u h1 _;rw [List.getElem?_replicate] at h1
 split at h1
 ·injection h1 with h1;exact h1.symm
 ·cases h1
structure fC (lo lo2:Nat) (w:World) (mb n:Nat) (pu tu:Value) (tm lg:Int) (sv lv:Value) (vs us:List Value) (S L:List (List Int)):Prop where
 box:w.heap[mb]?=some (.cells #[n,pu,tm,lg,tu,sv,lv] 276)
 low:lo<=mb
 so:w.ownsRow lo2 24 1 sv vs.length vs
 lo':w.ownsRow lo 24 1 lv us.length us
 sep:∀k,lv.ownBlock=some k->k<lo2
 hl:lo<=lo2
 hl2:lo2<=w.heap.size
 sl:vs.length=S.length
 rows:Rws lo w (vs++us) (S++L)
 apt:Apt (vs++us)
 nls:Nls us L
theorem aR {b:Nat} (h:w.heap[b]?=some (.cells cs t)) (i:Nat):w.cell? ⟨b,i,none⟩=cs[i]?:=by simp [aSn,h]
theorem dQ {b:Nat} (h:w.heap[b]?=some (.cells cs t)) (i:Nat):w.frozen? ⟨b,i,none⟩=false:=by simp [World.frozen?,h]
theorem fC.lt {S L:List (List Int)} (M:fC lo lo2 w mb n pu tu tm lg sv lv vs us S L):mb<w.heap.size:=(aQ9.1 M.box).1
theorem ownsRow.not {size:Nat} {xs:List Value} (h:w.ownsRow lo e size v n xs) {A:Nat} {T:TypeId} (hA:w.heap[A]?=some (.cells cs T)) (hT:T≠e):v.ownBlock≠some A:=by
 intro k
 rcases h.2 with ⟨rfl,_⟩|⟨g,cap,cur,rfl,_,hg,_⟩
 ·cases k
 ·simp only [aRm,aQr] at k
  subst k;rw [hg] at hA;simp only [aQr,Obj.cells.injEq] at hA;exact hT hA.2.1.symm
theorem ownsRow.int {size:Nat} {xs:List Value} (h:w.ownsRow lo e size v n xs) (hT:e≠3):∀(k:Nat) (cur:Array Value) (fr:Nat×Nat),v.ownBlock=some k->w.heap[k]?≠some (.cells cur 3 fr):=by
 intro k cur fr hk e'
 rcases h.2 with ⟨rfl,_⟩|⟨g,cap,cur',rfl,_,hg,_⟩
 ·cases hk
 ·simp only [aRm,aQr] at hk
  subst hk;rw [hg] at e';simp only [aQr,Obj.cells.injEq] at e';exact hT e'.2.1
structure kU (lo:Nat) (w w':World):Prop where
 below:Below lo w w'
 keep:fE w w'
theorem kU.trans (h:kU lo w w1) (k:kU lo w1 w2):kU lo w w2:=⟨h.below.trans k.below,h.keep.trans k.keep⟩
theorem Ext.step (h:Ext w w') (hl:lo<=w.heap.size):kU lo w w':=⟨aZr h hl,h.keepI⟩
theorem kU.size (h:kU lo w w'):w.heap.size<=w'.heap.size:=Below.size h.below
theorem fC.ext {S L:List (List Int)} (M:fC lo lo2 w mb n pu tu tm lg sv lv vs us S L) (e:Ext w w'):fC lo lo2 w' mb n pu tu tm lg sv lv vs us S L:=by
 have hg:w.grownBy w' none:=⟨Below.os e,Below.tape e,Below.output e,e.size,fun k hk _=>e.block hk⟩
 exact ⟨(e.block M.lt).trans M.box,M.low,M.so.kept hg (by cases sv.ownBlock <;> simp),M.lo'.kept hg (by cases lv.ownBlock <;> simp),M.sep,M.hl,aQw M.hl2 e.size,M.sl,M.rows.keepI e.keepI,M.apt,M.nls⟩
theorem aAj {b:Nat} {x0 x1 x2 x3 x4 x5 x6:Value} (h:w.heap[b]?=some (.cells #[x0,x1,x2,x3,x4,x5,x6] t)) (v:Value):(w.setCell ⟨b,5,none⟩ v).heap[b]?=some (.cells #[x0,x1,x2,x3,x4,v,x6] t):=by
 simp [World.setCell,Array.getElem?_modify,h]
theorem Rws.insert {S L:List (List Int)} (hl:vs.length=S.length) (h:Rws lo w (vs++us) (S++L)) (hv:aB lo w v xs):Rws lo w ((vs++[v])++us) ((S++[xs])++L):=by
 have h0:=h.len;simp only [aRg] at h0;refine ⟨by simp;omega,fun i u ys h1 h2=>?_⟩
 by_cases h3:i<vs.length
 ·rw [aRp,aR2 h3] at h1
  rw [aRp,aR2 (by omega)] at h2;exact h.own i u ys (by rw [aR2 h3];exact h1) (by rw [aR2 (by omega)];exact h2)
 ·by_cases h4:i=vs.length
  ·subst h4
   rw [aRp,aRs (aQo _)] at h1;rw [aRp,hl,aRs (aQo _)] at h2;simp at h1 h2;subst h1 h2;exact hv
  ·rw [aRs (by simp;omega)] at h1
   rw [aRs (by simp;omega)] at h2;refine h.own (i - 1) u ys ?_ ?_
   ·rw [aRs (by omega),show i - 1 - vs.length=i - (vs++[v]).length by simp;omega]
    exact h1
   ·rw [aRs (by omega),show i - 1 - S.length=i - (S++[xs]).length by simp;omega]
    exact h2
theorem lT {S L:List (List Int)} (M:fC lo lo2 w mb n pu tu tm lg sv lv vs us S L) (hr:aB lo w r xs) (hlone:zC r (vs++us)) (hS:vs.length<=1000) :
  Calls aQt 256 #[.pointer (some ⟨mb,0,none⟩),r] w fun e w'=>e = .returned (.tuple #[])/\(∃sv',fC lo lo2 w' mb n pu tu tm lg sv' lv (vs++[r]) us (S++[xs]) L)/\kU lo w w'/\∀b,b<w.heap.size->b≠mb->sv.ownBlock≠some b->w'.heap[b]?=w.heap[b]?:=by
 obtain ⟨sa,sc,rfl⟩:=ownsRow.form M.so;obtain ⟨ra,rc,rfl,_⟩:=hr.form;have hb:=M.lt;have x1:=M.low;have c5:=aR M.box 5;have f5:=dQ M.box 5;simp at c5;have q7:=ownsRow.not M.so M.box (by decide);have HM:=hid M;have HR:=hid hr;have HL:=hid hlone;clear M hr hlone;go_enter func256,ntmps256;go_wp2_with (at_builtin;refine fF _ rfl _ _ rfl lo2 _ _ _ rfl (aU4 HM.so _) (.slice ra xs.length rc) rfl w.heap.size rfl (by simp [go_sem]) (by omega) (by have:=HM.hl2;simp;omega) ?_;intro v' w1 h4 hg;obtain ⟨va,vc,rfl⟩:=ownsRow.form h4;obtain ⟨x2,h6⟩:mb<w1.heap.size/\w1.heap[mb]?=w.heap[mb]?:=⟨by have:=hg.size;simp at this;omega,(hg.block mb (by simp;omega) (fun e=>q7 e.symm)).trans ((aQy w).alloc _ |>.block hb)⟩;have h0:=h6.trans HM.box;have d5:=aR h0 5;have g5:=dQ h0 5;simp at d5;have h9:=hid h0;clear h0 h6)
 go_end0
 obtain ⟨M,h8,h3,h0⟩:fC lo lo2 w mb n pu tu tm lg (.slice sa vs.length sc) lv vs us S L/\_/\_/\_:=⟨HM,h4,hg,h9⟩
 have hr:=HR.out;have x0:Ext w (w.alloc (.cells #[.slice ra xs.length rc] 24)):=X_;have q5:lo<=w.heap.size:=aQw M.hl M.hl2;have h7:=aSl M.so;have k1:fE w w1:=x0.keepI.trans (fE.grown h3 (fun k cur fr hk=>ownsRow.int (aU4 M.so _) (by decide) k cur fr hk))
 have k2:fE w1 (w1.setCell ⟨mb,5,none⟩ (.slice va (vs.length+1) vc)):=fE.setCell _ (fun cur fr e=>by
  rw [h0] at e
  simp at e)
 have q6:=ownsRow.not h8 h0 (by decide)
 have h5:w1.grownBy (w1.setCell ⟨mb,5,none⟩ (.slice va (vs.length+1) vc)) (some mb):=⟨rfl,rfl,rfl,by simp,fun k hk hne=>aQz _ _ _ _ (by simpa using hne)⟩
 have q3:=M.lo'.alloc (.cells #[.slice ra xs.length rc] 24);have q4:=ownsRow.not M.lo' M.box (by decide);refine ⟨rfl,⟨_,aAj h0 _,M.low,?_,?_,M.sep,M.hl,by have:=h3.size;have:=x0.size;have:=M.hl2;simp;omega,by simp [M.sl],?_,?_,M.nls⟩,⟨?_,k1.trans k2⟩,?_⟩
 ·have:=h8.kept h5 (.inr q6)
  simpa using this
 ·refine (q3.kept h3 ?_).kept h5 (.inr q4)
  cases hk:lv.ownBlock with
  | none=>exact .inl rfl
  | some k=>
   refine .inr fun e=>?_;have h1:=M.sep k hk;have h2:=(h7 k e.symm).1;omega
 ·have q8:=(M.rows.keepI (k1.trans k2))
  have q9:aB lo _ _ _:=hr.keepI (k1.trans k2);exact Rws.insert M.sl q8 q9
 ·exact M.apt.insert HL
 ·exact aXc (bAg (aZr x0 q5) h3 (by have:=x0.size;omega) (fun k hk=>by have:=(h7 k hk).1;have:=M.hl;omega)) M.low _
 ·intro b q0 q1 q2
  exact (aQz _ _ _ _ q1).trans ((h3.block b (by simp;omega) (fun e=>q2 e.symm)).trans (x0.block q0))
theorem aU.setLow (h:aU lo hi w v xs) {p:Addr} (hp:p.block<lo) (x:Value):aU lo hi (w.setCell p x) v xs:=
 h.same (fun k h1 _=>aQz _ _ _ _ (by omega))
def ndC (xs:List Nd) (us:Nat->Value) (i:Nat):Value:=
 match xs[i / 4]? with
 | some x=>if i % 4=0 then .int .i64 x.op else if i % 4=1 then .string x.name else if i % 4=2 then .int .i64 x.num else us (i / 4)
 | none=>.int .i64 0
def ndZ (i:Nat):Value:=if i % 4=1 then .string ⟨#[]⟩ else if i % 4=3 then .slice none 0 0 else .int .i64 0
theorem aBz {xs:List Nd} {us:Nat->Value} {x:Nd} (h:xs[k]?=some x):ndC xs us (k*4) = .int .i64 x.op/\ndC xs us (k*4+1) = .string x.name/\ndC xs us (k*4+2) = .int .i64 x.num/\ndC xs us (k*4+3)=us k:=by
 refine ⟨?_,?_,?_,?_⟩
 ·unfold ndC
  rw [show k*4 / 4=k by omega,h,show k*4 % 4=0 by omega]
  rfl
 ·unfold ndC
  rw [show (k*4+1) / 4=k by omega,h,show (k*4+1) % 4=1 by omega]
  rfl
 ·unfold ndC
  rw [show (k*4+2) / 4=k by omega,h,show (k*4+2) % 4=2 by omega]
  rfl
 ·unfold ndC
  rw [show (k*4+3) / 4=k by omega,h,show (k*4+3) % 4=3 by omega]
  rfl
theorem aN8 (k:Nat):ndZ (k*4) = .int .i64 0/\ndZ (k*4+1) = .string ⟨#[]⟩/\ndZ (k*4+2) = .int .i64 0/\ndZ (k*4+3) = .slice none 0 0:=by
 refine ⟨?_,?_,?_,?_⟩
 ·unfold ndZ;rw [show k*4 % 4=0 by omega];rfl
 ·unfold ndZ;rw [show (k*4+1) % 4=1 by omega];rfl
 ·unfold ndZ;rw [show (k*4+2) % 4=2 by omega];rfl
 ·unfold ndZ;rw [show (k*4+3) % 4=3 by omega];rfl
theorem aMg {xs:List Nd} {us:Nat->Value} {u:Value}:∀i,i<k*4->ndC xs us i=ndC xs (fun j=>if j=k then u else us j) i:=by
 intro i hi;unfold ndC;simp only [if_neg (show ¬i / 4=k by omega)]
theorem aMh:(Tryz.prog.info? 197).map (fun i=>(i.zero,i.size,i.bytes))=some (some (.agg #[(),.string ⟨#[]⟩,(),.slice none 0 0]),4,56):=by kernel_rfl
theorem aMi (n:Nat):∀i,i<n->(madeCells #[(),.string ⟨#[]⟩,(),.slice none 0 0] n)[i]?=some (ndZ i):=by
 intro i hi;unfold ndZ;have:i % 4<4:=aTf _ (by decide)
 rcases (show i % 4=0\/i % 4=1\/i % 4=2\/i % 4=3 by omega) with e|e|e|e <;> simp [madeCells,hi,e]
theorem aI0 (lo hi lo' hi':Nat) (u v:Value) (xs:List Int) (w:World) (hu:aU lo hi w u xs) (hv:aU lo' hi' w v xs) :
  R_ 82 #[u,v] w (.bool true):=(vE lo hi lo' hi' u v xs xs w hu hv).mono fun e w' ⟨h1,n,h2⟩=>⟨by rw [h1];simp,by rw [h2];exact (aQy w).drewN n⟩
theorem aDu (lo hi lo' hi':Nat) (op:Int) (s:ByteArray) (n:Int) (u u':Value) (r:List Int) (w:World) (hu:aU lo hi w u r) (hv:aU lo' hi' w u' r) (hh:hi<=w.heap.size) (hh':hi'<=w.heap.size) :
  R_ 183 #[.agg #[op,.string s,n,u],.agg #[op,.string s,n,u']] w (.bool true):=by
 have HU:=hid hu;have HV:=hid hv;have x0:Ext w ((w.alloc (.cells #[op,.string s,n,u] 197)).alloc (.cells #[op,.string s,n,u'] 197)):=X_;clear hu hv;go_enter func183,ntmps183;go_wp2_with fail;refine r_ (aI0 lo hi lo' hi' _ _ r _ (HU.ext hh x0) (HV.ext hh' x0)) fun w1 x1=>?_;have X1:=x0.trans x1;go_wp2;go_ret;exact ⟨rfl,X1⟩
theorem aB0 (lo hi lo' hi':Nat) (u v:Value) (xs:List Nd) (w:World) (hu:Nds lo hi w u xs) (hv:Nds lo' hi' w v xs) (hh:hi<=w.heap.size) (hh':hi'<=w.heap.size) :
  R_ 129 #[u,v] w (.bool true):=by
 obtain ⟨a,cap,rfl,HU⟩:=hu.open;obtain ⟨a',q0,rfl,HV⟩:=hv.open;clear hu hv;have h1:=HU.le;have h2:=HU.cap;have q6:=HV.le;have q7:=HV.cap;go_enter func129,ntmps129;go_wp2
 go_loopw [5] (fun i wr=>∃k:Nat,k<=xs.length/\i = .int .i64 k/\Ext w wr) (fun i _=>xs.length - (intOf i).toNat)
 case atStart=>exact ⟨0,by omega,rfl,X_⟩
 case round=>
  obtain ⟨k,hk,rfl,hx⟩:=hrel
  by_cases h8:k<xs.length
  ·obtain ⟨b,x6,op,s,n,ua,ra,rfl,q8,q9,h4,h5,io,x4,h7,x0,x1,x2,x3⟩:=HU.at h8 hx hh
   obtain ⟨b',q4,x7,s',n',q5,x8,rfl,q1,q2,h3,h0,x5,q3,h6,x9,z0,z1,z2⟩:=HV.at h8 hx hh';rw [h5] at h0;simp only [aQr,Nd.mk.injEq] at h0;obtain ⟨rfl,rfl,rfl,rfl⟩:=h0;have HX:=hid hx;have HI:=hid h7;have h9:=hid h6;have zx:=hx.size;clear hx h4 h3 h5 h7 h6;go_wp2_with fail;refine aA [([0,1,2,3,4,5,6,7],8),([],9)] 99 wr.heap.size (by kernel_rfl) (by kernel_rfl) ?_;refine st_ fun K hK=>?_;go_wp2_with fail;refine r_ (aDu lo hi lo' hi' op s n ua q5 ra _ (HI.ext (by omega) X_) (h9.ext (by omega) X_) (by simp;omega) (by simp;omega)) fun w1 h1=>?_;have y1:Ext wr w1:=aQu X_ h1;go_wp2_with fail;refine k_ hK ?_;clear hK K;refine st_ fun K hK=>?_;go_wp2_with fail;refine k_ hK ?_;clear hK K;refine aC ?_;have hX:=HX.trans y1;clear h1 y1 HX;go_wp2;go_roundw
   case rel=>exact ⟨k+1,by omega,by go_num,hX⟩
   case measure=>simp [intOf];omega
  ·go_wp2
   go_ret;exact ⟨rfl,hx⟩
theorem Nds.wide {hi':Nat} {xs:List Nd} (h:Nds lo hi w v xs) (h1:lo'<=lo) (h2:hi<=hi'):Nds lo' hi' w v xs:=by
 obtain ⟨a,cap,g1,g2,g3,g4⟩:=h;refine ⟨a,cap,g1,g2,g3,fun i x hx=>?_⟩;obtain ⟨h5,b,q1,u,h6,h7,h8,h9,h0,h3,h4,q0⟩:=g4 i x hx;exact ⟨h5,b,q1,u,h6,by omega,by omega,h9,h0,h3,h4,q0.wide h1 h2⟩
theorem mZ.wide {hi':Nat} {xs:List Asg} (h:mZ lo hi w v xs) (h1:lo'<=lo) (h2:hi<=hi'):mZ lo' hi' w v xs:=by
 obtain ⟨a,cap,g1,g2,g3,g4⟩:=h;refine ⟨a,cap,g1,g2,g3,fun i x hx=>?_⟩;obtain ⟨h5,b,h0,h6,h7,h8,h9⟩:=g4 i x hx;exact ⟨h5,b,h0,h6,by omega,by omega,h9⟩
def agC (xs:List Asg) (i:Nat):Value:=
 match xs[i / 2]? with
 | some x=>if i % 2=0 then .string x.name else .int .i64 x.root
 | none=>.int .i64 0
def agZ (i:Nat):Value:=if i % 2=0 then .string ⟨#[]⟩ else .int .i64 0
theorem aF2 {xs:List Asg} {x:Asg} (h:xs[k]?=some x):agC xs (k*2) = .string x.name/\agC xs (k*2+1) = .int .i64 x.root:=by
 refine ⟨?_,?_⟩
 ·unfold agC
  rw [show k*2 / 2=k by omega,h,show k*2 % 2=0 by omega]
  rfl
 ·unfold agC
  rw [show (k*2+1) / 2=k by omega,h,show (k*2+1) % 2=1 by omega]
  rfl
theorem aN9 (k:Nat):agZ (k*2) = .string ⟨#[]⟩/\agZ (k*2+1) = .int .i64 0:=by
 refine ⟨?_,?_⟩
 ·unfold agZ;rw [show k*2 % 2=0 by omega];rfl
 ·unfold agZ;rw [show (k*2+1) % 2=1 by omega];rfl
theorem aMj:(Tryz.prog.info? 200).map (fun i=>(i.zero,i.size,i.bytes))=some (some (.agg #[.string ⟨#[]⟩,()]),2,24):=by kernel_rfl
theorem aMk (n:Nat):∀i,i<n->(madeCells #[.string ⟨#[]⟩,()] n)[i]?=some (agZ i):=by
 intro i hi;unfold agZ;have:i % 2<2:=aTf _ (by decide)
 rcases (show i % 2=0\/i % 2=1 by omega) with e|e <;> simp [madeCells,hi,e]
theorem aI1 (s:ByteArray) (n:Int) (w:World):R_ 181 #[.agg #[.string s,n]] w (.agg #[.string s,n]):=by
 go_enter func181,ntmps181;go_wp2;refine bodyPost_ret (v:=.agg #[.string s,n]) (by simp [results,results181,go_sem]) rfl ⟨rfl,?_⟩;exact S_
theorem aF3 (s:ByteArray) (n:Int) (w:World):R_ 184 #[.agg #[.string s,n],.agg #[.string s,n]] w (.bool true):=by
 go_enter func184,ntmps184;go_wp2;go_ret;exact ⟨rfl,S_⟩
theorem aDv (lo hi lo' hi':Nat) (u v:Value) (xs:List Asg) (w:World) (hu:mZ lo hi w u xs) (hv:mZ lo' hi' w v xs) (hh:hi<=w.heap.size) (hh':hi'<=w.heap.size) :
  R_ 130 #[u,v] w (.bool true):=by
 obtain ⟨a,cap,rfl,HU⟩:=hu.open;obtain ⟨a',h7,rfl,HV⟩:=hv.open;clear hu hv;have h1:=HU.le;have h2:=HU.cap;have q1:=HV.le;have q2:=HV.cap;go_enter func130,ntmps130;go_wp2
 go_loopw [5] (fun i wr=>∃k:Nat,k<=xs.length/\i = .int .i64 k/\Ext w wr) (fun i _=>xs.length - (intOf i).toNat)
 case atStart=>exact ⟨0,by omega,rfl,X_⟩
 case round=>
  obtain ⟨k,hk,rfl,hx⟩:=hrel
  by_cases h6:k<xs.length
  ·obtain ⟨b,q6,s,n,rfl,q3,q4,h4,h5,io,x0,x1⟩:=HU.at h6 hx hh
   obtain ⟨b',q0,s',n',rfl,h8,h9,h3,h0,q5,q7,q8⟩:=HV.at h6 hx hh';rw [h5] at h0;simp only [aQr,Asg.mk.injEq] at h0;obtain ⟨rfl,rfl⟩:=h0;have HX:=hid hx;clear hx h4 h3 h5;go_wp2;refine cL (by kernel_rfl) (by kernel_rfl) ?_
   repeat (go_big_quiet_step ((go_at_call 184;exact cE (aF3 _ _ _))))
   refine wpQuiet_nil ?_;intro w1 h1;have hX:=HX.trans h1;clear h1 HX;go_wp2;go_roundw
   case rel=>exact ⟨k+1,by omega,by go_num,hX⟩
   case measure=>simp [intOf];omega
  ·go_wp2
   go_ret;exact ⟨rfl,hx⟩
theorem wP (lo hi lo' hi':Nat) (v v':Value) (p:Prg) (w:World) (hv:p.R lo hi w v) (hh:hi<=w.heap.size) (hv':p.R lo' hi' w v') (hh':hi'<=w.heap.size) :
  R_ 83 #[v,v'] w (.bool true):=by
 obtain ⟨iu,lu,rfl,h4,h6⟩:=hv;obtain ⟨h0,h1,rfl,h5,h7⟩:=hv';have HI:=hid h4;have HL:=hid h6;have h8:=hid h5;have h9:=hid h7;clear h4 h6 h5 h7;have x0:Ext w ((w.alloc (.cells #[iu,lu] 119)).alloc (.cells #[h0,h1] 119)):=X_;have bA:=(Bx.made w #[iu,lu] 119).ext ((aQy _).alloc (.cells #[h0,h1] 119));have bB:=Bx.madeAt (B:=w.heap.size+1) (w.alloc (.cells #[iu,lu] 119)) #[h0,h1] 119 (by simp);go_enter func83,ntmps83;go_wp2_with fail;refine r_ (aB0 lo hi lo' hi' _ _ p.ns _ (HI.ext hh x0) (h8.ext hh' x0) (aQw hh x0.size) (aQw hh' x0.size)) fun w1 x1=>?_;have h2:=bA.ext x1;have h3:=bB.ext x1;have X1:=x0.trans x1;clear bA bB x0 x1;have y:=h2.lt;obtain ⟨y0,y1⟩:=h2.q2;have q:=h3.lt;obtain ⟨q0,q1⟩:=h3.q2;go_wp2_with fail;refine r_ (aDv lo hi lo' hi' _ _ p.gs _ (HL.ext hh X1) (h9.ext hh' X1) (aQw hh X1.size) (aQw hh' X1.size)) fun w2 x2=>?_;go_wp2;go_ret;exact ⟨rfl,X1.trans x2⟩
section
open Go.RowKit Go.Maps Go.WideMaps
noncomputable def aMl (p:Prg) (g:Grd) (i j:Int):Bool:=p.chkB&&g.okB&&inB i 0 (g.n - 1)&&inB j 0 (g.n - 1)
end
section
open Go.RowKit Go.Maps Go.WideMaps
noncomputable def evV (p:Prg) (g:Grd):Nat->List Int:=p.ev g.n.toNat g.m g.f g.tm g.t
theorem aOz {n m i j:Nat} (hm:n*n=m) (hi:i<n) (hj:j<n):j*n+i<m:=by
 have h1:(j+1)*n<=n*n:=aSh n hj;rw [aS4,aS5] at h1;omega
end
section
open Go.RowKit Go.Maps Go.WideMaps
noncomputable def wQ (p:Prg) (g:Grd) (q:Nat) (l:List UInt8):Int:=match eM p.gs p.gs.length l with|some k=>(evV p g (((p.gs[k]?).map fun a=>a.root.toNat).getD 0)).getD q 0|none=>256
noncomputable def shC (p:Prg) (g:Grd) (i j:Int):Int:=if aMl p g i j=true then aO (wQ p g (j*g.n+i).toNat [99,111,108,111,114]) 0 256 else 0
noncomputable def shA (p:Prg) (g:Grd) (i j:Int):Int:=if aMl p g i j=true then aO (wQ p g (j*g.n+i).toNat [97,108,112,104,97]) 0 256 else 0
theorem aKq:(⟨#[97,108,112,104,97]⟩:ByteArray).toList=[97,108,112,104,97]:=by rw [aVk]
theorem wR {p:Prg} {g:Grd} {q:Nat} {l:List UInt8} {k r:Nat} {s:ByteArray} (h:eM p.gs p.gs.length l=some k) (hk:p.gs[k]?=some ⟨s,r⟩):wQ p g q l=(evV p g r).getD q 0:=by
 unfold wQ;rw [h];simp [hk]
theorem aF4 {p:Prg} {g:Grd} {q:Nat} {l:List UInt8} (h:eM p.gs p.gs.length l=none):wQ p g q l=256:=by unfold wQ;rw [h]
theorem Prg.K.asg {p:Prg} (h:p.K) {l:List UInt8} {k:Nat} (hf:eM p.gs p.gs.length l=some k):∃(s:ByteArray) (r:Nat),p.gs[k]?=some ⟨s,(r:Nat)⟩/\r<p.ns.length/\k<p.gs.length/\s.toList=l:=by
 obtain ⟨h1,⟨a,h2,h3⟩,_⟩:=eX hf;have hr:=(h.v.ag k a h2).2;refine ⟨a.name,a.root.toNat,?_,by omega,h1,h3⟩;rw [h2]
 cases a
 simp only [aQr,Asg.mk.injEq,true_and] at *;omega
end
theorem ownsRow.shrink {xs:List Value} (h:w.ownsRow lo e 1 (.slice (some ⟨g,0,none⟩) n cap) n xs) (hq:q<=n):w.ownsRow lo e 1 (.slice (some ⟨g,0,none⟩) q cap) q (xs.take q):=by
 obtain ⟨h1,h2⟩:=h;refine ⟨by simp;omega,?_⟩
 rcases h2 with ⟨hn,_⟩|⟨g',cap',cur,hv,hb,hg,hc,hm,hs,ht⟩
 ·simp at hn
 ·simp only [aRi,aQr,aRv,and_true,true_and] at hv
  obtain ⟨rfl,rfl⟩:=hv;refine .inr ⟨g,cap,cur,rfl,hb,hg,by omega,hm,hs,?_⟩;rw [<-ht,List.take_take,aUl,aUl,aS6 hq]
theorem ownsRow.caps {xs:List Value} (h:w.ownsRow lo e 1 (.slice (some ⟨g,0,none⟩) n cap) n xs):n<=cap/\cap<=9223372036854775807:=by
 rcases h.2 with ⟨hn,_⟩|⟨g',cap',cur,hv,hb,hg,hc,hm,hs,ht⟩
 ·simp at hn
 ·simp only [aRi,aQr,aRv,and_true,true_and] at hv
  obtain ⟨rfl,rfl⟩:=hv;unfold maxLen at hm;exact ⟨hc,by omega⟩
theorem ownsRow.form1 {size:Nat} {xs:List Value} (h:w.ownsRow lo e size v n xs) (hn:1<=n):∃g cap,v = .slice (some ⟨g,0,none⟩) n cap/\lo<=g/\g<w.heap.size:=by
 rcases h.2 with ⟨rfl,h4⟩|⟨g,cap,cur,rfl,hb,hg,hc,hm,hs,ht⟩
 ·omega
 ·exact ⟨g,cap,rfl,hb,(aQ9.1 hg).1⟩
theorem Rws.one {S:List (List Int)} (h:Rws lo w vs S):∀v∈vs,v.oneCell'=true:=by
 intro v hv;obtain ⟨i,hi,rfl⟩:=aRn hv;have hl:=h.len;obtain ⟨a,c,e,_⟩:=(h.own i vs[i] (S[i]'(by omega)) (by simp [hi]) (by simp [show i<S.length by omega])).form;rw [e]
 rfl
theorem Rws.left {S L:List (List Int)} (hl:vs.length=S.length) (h:Rws lo w (vs++us) (S++L)):Rws lo w vs S:=by
 have:=h.take vs.length
 rwa [aZh,hl,aZh] at this
theorem Rws.right {S L:List (List Int)} (hl:vs.length=S.length) (h:Rws lo w (vs++us) (S++L)):Rws lo w us L:=by
 have:=h.drop vs.length
 rwa [aZd,hl,aZd] at this
theorem Rws.app {S L:List (List Int)} (h:Rws lo w vs S) (k:Rws lo w us L):Rws lo w (vs++us) (S++L):=by
 have hl:=h.len;refine ⟨by simp [h.len,k.len],fun i u ys h1 h2=>?_⟩
 by_cases h3:i<vs.length
 ·rw [aR2 h3] at h1
  rw [aR2 (by omega)] at h2;exact h.own i u ys h1 h2
 ·rw [aRs (by omega)] at h1 h2
  rw [hl] at h1;exact k.own _ u ys h1 h2
theorem vA {S L:List (List Int)} (M:fC lo lo2 w mb n pu tu tm lg sv lv vs us S L) (p q:Nat) (hp:1<=p) (hq:q+p=vs.length) (hS:vs.length<=1000) :
  Calls aQt 258 #[.pointer (some ⟨mb,0,none⟩),p] w fun e w'=>∃r,e = .returned r/\w'.ownsRow w.heap.size 24 1 r p (vs.drop q)/\(∃sv',fC lo lo2 w' mb n pu tu tm lg sv' lv (vs.take q) us (S.take q) L/\sv'.ownBlock=sv.ownBlock)/\kU lo w w'/\∀b,b<w.heap.size->b≠mb->w'.heap[b]?=w.heap[b]?:=by
 obtain ⟨g,sc,rfl,q5,h9⟩:=ownsRow.form1 M.so (by omega);have hb:=M.lt;have q6:=M.low;obtain ⟨l1,l2⟩:=ownsRow.caps M.so;have c5:=aR M.box 5;have f5:=dQ M.box 5;simp at c5
 have q8:(vs.length:Int) - p=q:=by omega
 have q9:vs.length - q=p:=by omega
 have q2:=ownsRow.not M.so M.box (by decide)
 have h7:(vs.drop q).length=p:=by simp;omega
 have h0:∀i y,(vs.drop q)[i]?=some y->w.cell? ⟨g,q+i,none⟩=some y:=by
  intro i y hy;rw [aS0] at hy;have q7:=(aQq.1 hy).1;rw [aSv M.so (q+i) (by omega)];exact hy
 have h3:∀y∈vs.drop q,y.oneCell'=true:=fun y hy=>(Rws.left M.sl M.rows).one y (aT9 hy);have HM:=hid M;have HC:=hid h0;have HO:=hid h3;have HD:=hid h7;clear M h0 h3 h7;go_enter func258,ntmps258;go_wp2_with fail;have h5:=zD g q (sc - q) (vs.drop q) w h9 (by rw [HD];omega) (by omega) HC HO (by rw [HD];omega);rw [HD] at h5;refine h5.mono ?_;rintro e w1 ⟨r,rfl,hr,x1⟩;obtain ⟨ra,rc,rfl⟩:=ownsRow.form hr;have M1:=HM.ext x1;have b5:=aR M1.box 5;have g5:=dQ M1.box 5;simp at b5;have h6:=M1.lt;have HR:=hid hr;have h8:=hid M1;clear h5 hr M1 c5 f5;go_wp2;go_ret
 obtain ⟨M,hr⟩:fC lo lo2 w1 mb n pu tu tm lg _ lv vs us S L/\_:=⟨h8,HR⟩
 have k2:fE w1 (w1.setCell ⟨mb,5,none⟩ (.slice (some ⟨g,0,none⟩) q sc)):=fE.setCell _ (fun cur fr e=>by
  rw [M.box] at e
  simp at e)
 have h4:w1.grownBy (w1.setCell ⟨mb,5,none⟩ (.slice (some ⟨g,0,none⟩) q sc)) (some mb):=⟨rfl,rfl,rfl,by simp,fun k hk hne=>aQz _ _ _ _ (by simpa using hne)⟩
 have q0:=ownsRow.not M.lo' M.box (by decide);have q1:lo<=w.heap.size:=aQw HM.hl HM.hl2;have q3:=ownsRow.not hr M.box (by decide)
 have q4:(vs.take q).length=q:=by simp;omega
 refine ⟨_,rfl,hr.kept h4 (.inr q3),⟨_,⟨aAj M.box _,M.low,?_,M.lo'.kept h4 (.inr q0),M.sep,M.hl,by have:=M.hl2;simpa using this,by simp [M.sl],?_,?_,M.nls⟩,rfl⟩,⟨?_,x1.keepI.trans k2⟩,fun b hb1 h6=>(aQz _ _ _ _ h6).trans (x1.block hb1)⟩
 ·rw [q4]
  exact (ownsRow.shrink M.so (by omega)).kept h4 (.inr q2)
 ·have h1:=(Rws.left M.sl M.rows).keepI k2
  have h2:=(Rws.right M.sl M.rows).keepI k2;exact (h1.take q).app h2
 ·exact M.apt.sub (List.take_sublist _ _) (List.Sublist.refl _)
 ·exact aXc (aZr x1 q1) M.low _
theorem SC.go {C:Addr->Prop} (h:SC C w w1) (k:∀a,C a->w2.heap[a.block]?=w1.heap[a.block]?):SC C w w2:=SC.of fun a ha=>by
 have h1:=h.get a ha;exact ⟨(aR5 (k a ha)).trans h1.1,(aSj (k a ha)).trans h1.2⟩
theorem lU {α : Type} (l:List α) (q:Nat) (hq:q+1=l.length):∃x,l.drop q=[x]/\l=l.take q++[x]:=by
 refine ⟨l[q]'(by omega),?_,?_⟩
 ·rw [aTc (by omega),aWp (by omega)]
 ·rw [<-aRk (by omega),aRt (by omega)]
theorem wS {α : Type} (l:List α) (q:Nat) (hq:q+2=l.length):∃x y,l.drop q=[x,y]/\l=l.take q++[x]++[y]:=by
 refine ⟨l[q]'(by omega),l[q+1]'(by omega),?_,?_⟩
 ·rw [aTc (by omega),aTc (by omega),aWp (by omega)]
 ·rw [<-aRk (by omega),<-aRk (by omega),aRt (by omega)]
theorem aI2 {S L:List (List Int)} (M:fC lo lo2 w mb n pu tu tm lg sv lv vs us S L) (q m:Nat) (op:Int) (hop:mU op) (hq:q+1=S.length) (hS:S.length<=1000)
  (hg:∀r∈S,fG m r) (hm:m<=64) :
  Calls aQt 255 #[.pointer (some ⟨mb,0,none⟩),op] w fun e w'=>e = .returned (.tuple #[])/\(∃sv' vs',fC lo lo2 w' mb n pu tu tm lg sv' lv vs' us (S.take q++[aTg (eU op) (S.getD q []) (S.getD q [])]) L)/\kU lo w w':=by
 have x1:=M.sl;obtain ⟨x,h7,q9⟩:=lU vs q (by omega);obtain ⟨xs,h0,q3⟩:=lU S q hq;have hR:=Rws.left M.sl M.rows
 have h3:aB lo w x xs:=by
  have:=(hR.drop q).own 0 x xs (by rw [h7];rfl) (by rw [h0];rfl);exact this
 have h9:S.getD q []=xs:=by
  have h1:S[q]?=(S.drop q)[0]?:=by rw [aS0,aSa]
  rw [aTr,h1,h0]
  rfl
 rw [h9];obtain ⟨g1,g2⟩:=hg xs (by rw [q3];simp);replace g1:=hid g1;replace h9:=hid h9
 obtain ⟨zs,h4⟩:∃zs,aTg (eU op) xs xs=zs:=⟨_,rfl⟩
 rw [h4];replace h4:=hid h4;have HM:=hid M;have HO:=hid h3;have h8:=hid h7;have q2:lo<=w.heap.size:=aQw M.hl M.hl2;clear M h3 hR h7 q9 h0 q3;go_enter func255,ntmps255;go_wp2_with fail;refine (vA HM 1 q (aQo _) (by omega) (by omega)).mono ?_;rintro e w1 ⟨r,rfl,hr,⟨sv1,M1,hsv0⟩,st1,fr1⟩;have h6:∀k,sv1.ownBlock=some k->k<w.heap.size:=fun k hk=>(aSl HM.so k (hsv0▸hk)).2;clear hsv0;obtain ⟨rb,rc,rfl,q7,h5⟩:=ownsRow.form1 hr (aQo _);rw [h8.out] at hr;have r0:=aSv hr 0 (by omega);simp at r0;obtain ⟨xa,xc,rfl,_⟩:=HO.form;have q0:=hid M1;have q5:=hid ((HO.keepI st1.keep));have hu:=hid (q5.ints.wide (aR8 _) (aQo _));have q4:=hid st1;have x0:=hid fr1;have h0:=st1.size;clear HM M1 st1 fr1;go_wp2_with fail;refine aJ [([0,1,2,3,4,5,6,7],8),([],9)] 99 (fun w'=>∃d,w'=fU (fun a=>a.block=rb) _ d) (by kernel_rfl) (by kernel_rfl) (SC.drew _ _) ?_;refine sc_ fun K hK=>?_;go_wp2_with fail;refine (pR 0 w1.heap.size 0 w1.heap.size _ _ op xs xs _ hop (hu.out.ext (aQo _) (aRr (aQy _))) (aQo _) (hu.out.ext (aQo _) (aRr (aQy _))) (aQo _) rfl (by rw [g1.out];omega) g2 g2).mono ?_;rintro e w2 ⟨y,rfl,hy,x2⟩;rw [h4.out] at hy;obtain ⟨ya,yc,rfl,_⟩:=hy.form;have X2:Ext w1 w2:=aQu (aRr (aQy _)) x2;have q1:SC (fun a=>a.block=rb) w1 w2:=SC.blocks (fun a ha=>by rw [ha];exact X2.block h5);go_wp2_with fail;refine hK _ _ (.inr (q1)) ?_;clear hK K;refine sc_ fun K hK=>?_;go_wp2_with fail;have M2:=q0.ext X2;have h2:=zC.of (M:=w1.heap.size) q0.rows (aQo _) (fun k hk=>(hy.lt k hk).1);refine (lT M2 (hy.low (aQw q2 h0)) h2 (by simp;omega)).mono ?_;rintro e w3 ⟨rfl,⟨sv3,M3⟩,st3,fr3⟩
 have q6:SC (fun a=>a.block=rb) w1 w3:=q1.go (fun a ha=>by
  have q8:=ownsRow.not (hr.kept (row:=none) ⟨X2.os,X2.tape,X2.output,X2.size,fun k hk _=>X2.block hk⟩ (by simp [aRm])) M2.box (by decide);rw [ha]
  exact fr3 rb (by have:=X2.size;omega) (fun e=>q8 (by rw [e];rfl)) (fun e=>by have:=h6 rb e;omega))
 go_wp2_with fail;refine hK _ _ (.inr (q6)) ?_;clear hK K;refine aQ ?_;go_wp2
 go_end0
 exact ⟨rfl,⟨sv3,_,M3⟩,q4.trans ((X2.step (aQw q2 h0)).trans st3)⟩
theorem aF5 {S L:List (List Int)} (M:fC lo lo2 w mb n pu tu tm lg sv lv vs us S L) (q m:Nat) (op:Int) (hop:mU op) (hq:q+2=S.length) (hS:S.length<=1000)
  (hg:∀r∈S,fG m r) (hm:m<=64) :
  Calls aQt 254 #[.pointer (some ⟨mb,0,none⟩),op] w fun e w'=>e = .returned (.tuple #[])/\(∃sv' vs',fC lo lo2 w' mb n pu tu tm lg sv' lv vs' us (S.take q++[aTg (eU op) (S.getD q []) (S.getD (q+1) [])]) L)/\kU lo w w':=by
 have x6:=M.sl;obtain ⟨x,x',h5,x4⟩:=wS vs q (by omega);obtain ⟨xs,ys,h2,h8⟩:=wS S q hq;have hR:=Rws.left M.sl M.rows
 have h4:aB lo w x xs:=by
  have:=(hR.drop q).own 0 x xs (by rw [h5];rfl) (by rw [h2];rfl);exact this
 have h0:aB lo w x' ys:=by
  have:=(hR.drop q).own 1 x' ys (by rw [h5];rfl) (by rw [h2];rfl);exact this
 have q1:S.getD q []=xs:=by
  have h1:S[q]?=(S.drop q)[0]?:=by rw [aS0,aSa]
  rw [aTr,h1,h2]
  rfl
 have q2:S.getD (q+1) []=ys:=by
  have h1:S[q+1]?=(S.drop q)[1]?:=by rw [aS0]
  rw [aTr,h1,h2]
  rfl
 rw [q1,q2];obtain ⟨g1,g2⟩:=hg xs (by rw [h8];simp);obtain ⟨g3,g4⟩:=hg ys (by rw [h8];simp);replace g1:=hid g1;replace g3:=hid g3;replace q1:=hid q1;replace q2:=hid q2
 obtain ⟨zs,h6⟩:∃zs,aTg (eU op) xs ys=zs:=⟨_,rfl⟩
 rw [h6];replace h6:=hid h6;have HM:=hid M;have HO:=hid h4;have q4:=hid h0;have q0:=hid h5;have q6:lo<=w.heap.size:=aQw M.hl M.hl2;clear M h4 h0 hR h5 x4 h2 h8;go_enter func254,ntmps254;go_wp2_with fail;refine (vA HM 2 q (by omega) (by omega) (by omega)).mono ?_;rintro e w1 ⟨r,rfl,hr,⟨sv1,M1,hsv0⟩,st1,fr1⟩;have h9:∀k,sv1.ownBlock=some k->k<w.heap.size:=fun k hk=>(aSl HM.so k (hsv0▸hk)).2;clear hsv0;obtain ⟨rb,rc,rfl,x0,h7⟩:=ownsRow.form1 hr (by omega);rw [q0.out] at hr;have r0:=aSv hr 0 (by omega);have r1:=aSv hr 1 (by omega);simp at r0 r1;obtain ⟨xa,xc,rfl,_⟩:=HO.form;obtain ⟨x7,x8,rfl,_⟩:=q4.form;have q3:=hid M1;have q8:=hid ((HO.keepI st1.keep));have hu:=hid (q8.ints.wide (aR8 _) (aQo _));have x3:=hid ((q4.keepI st1.keep).ints.wide (aR8 _) (aQo _));have q7:=hid st1;have x5:=hid fr1;have h2:=st1.size;clear HM M1 st1 fr1;go_wp2_with fail;refine aJ [([0,1,2,3,4,5,6,7],8),([],9)] 99 (fun w'=>∃d,w'=fU (fun a=>a.block=rb) _ d) (by kernel_rfl) (by kernel_rfl) (SC.drew _ _) ?_;refine sc_ fun K hK=>?_;go_wp2_with fail;refine (pR 0 w1.heap.size 0 w1.heap.size _ _ op xs ys _ hop (hu.out.ext (aQo _) (aRr (aQy _))) (aQo _) (x3.out.ext (aQo _) (aRr (aQy _))) (aQo _) (by rw [g1.out,g3.out]) (by rw [g3.out];omega) g2 g4).mono ?_;rintro e w2 ⟨y,rfl,hy,x2⟩;rw [h6.out] at hy;obtain ⟨ya,yc,rfl,_⟩:=hy.form;have X2:Ext w1 w2:=aQu (aRr (aQy _)) x2;have q5:SC (fun a=>a.block=rb) w1 w2:=SC.blocks (fun a ha=>by rw [ha];exact X2.block h7);go_wp2_with fail;refine hK _ _ (.inr (q5)) ?_;clear hK K;refine sc_ fun K hK=>?_;go_wp2_with fail;have M2:=q3.ext X2;have h3:=zC.of (M:=w1.heap.size) q3.rows (aQo _) (fun k hk=>(hy.lt k hk).1);refine (lT M2 (hy.low (aQw q6 h2)) h3 (by simp;omega)).mono ?_;rintro e w3 ⟨rfl,⟨sv3,M3⟩,st3,fr3⟩
 have q9:SC (fun a=>a.block=rb) w1 w3:=q5.go (fun a ha=>by
  have x1:=ownsRow.not (hr.kept (row:=none) ⟨X2.os,X2.tape,X2.output,X2.size,fun k hk _=>X2.block hk⟩ (by simp [aRm])) M2.box (by decide);rw [ha]
  exact fr3 rb (by have:=X2.size;omega) (fun e=>x1 (by rw [e];rfl)) (fun e=>by have:=h9 rb e;omega))
 go_wp2_with fail;refine hK _ _ (.inr (q9)) ?_;clear hK K;refine aQ ?_;go_wp2
 go_end0
 exact ⟨rfl,⟨sv3,_,M3⟩,q7.trans ((X2.step (aQw q6 h2)).trans st3)⟩
def CMx (mb xb:Nat):Addr->Prop:=fun a=>a.block=xb\/a=⟨mb,0,none⟩\/a=⟨mb,1,none⟩\/a=⟨mb,2,none⟩\/a=⟨mb,3,none⟩\/a=⟨mb,4,none⟩\/a=⟨mb,6,none⟩
@[go_sem] theorem aO0 (mb xb o:Nat):CMx mb xb ⟨xb,o,none⟩:=.inl rfl
@[go_sem] theorem aP5 (mb xb:Nat):CMx mb xb ⟨mb,0,none⟩:=.inr (.inl rfl)
@[go_sem] theorem aP6 (mb xb:Nat):CMx mb xb ⟨mb,1,none⟩:=.inr (.inr (.inl rfl))
@[go_sem] theorem aP7 (mb xb:Nat):CMx mb xb ⟨mb,2,none⟩:=.inr (.inr (.inr (.inl rfl)))
@[go_sem] theorem aP8 (mb xb:Nat):CMx mb xb ⟨mb,3,none⟩:=.inr (.inr (.inr (.inr (.inl rfl))))
@[go_sem] theorem aP9 (mb xb:Nat):CMx mb xb ⟨mb,4,none⟩:=.inr (.inr (.inr (.inr (.inr (.inl rfl)))))
@[go_sem] theorem aO1 (mb xb:Nat):CMx mb xb ⟨mb,6,none⟩:=.inr (.inr (.inr (.inr (.inr (.inr rfl)))))
theorem jJ {xb:Nat} {sv':Value} {vs' us':List Value} {S L S' L':List (List Int)} (M:fC lo lo2 w mb n pu tu tm lg sv lv vs us S L) (M':fC lo lo2 w' mb n pu tu tm lg sv' lv vs' us' S' L')
  (hx:w'.heap[xb]?=w.heap[xb]?):SC (CMx mb xb) w w':=SC.of fun a ha=>by
 rcases ha with ha|ha|ha|ha|ha|ha|ha
 ·have h:w'.heap[a.block]?=w.heap[a.block]?:=by rw [ha];exact hx
  exact ⟨aR5 h,aSj h⟩
 all_goals
  subst ha;rw [aR M.box,aR M'.box,dQ M.box,dQ M'.box];exact ⟨rfl,rfl⟩
structure iC (lo:Nat) (w:World) (n m:Nat) (pu tu:Value) (f:Nat->Int) (tm:Int) (t:Tex):Prop where
 flats:cY 5 0 lo w pu m f
 tex:cN 0 lo w (.agg #[t.log,tu]) t
 hm:n*n=m
 h1:1<=n
 h8:n<=8
 ok:t.okB=true
 tm9:S9 tm
 f9:∀i,i<m*5->S9 (f i)
theorem iC.step {t:Tex} (h:iC lo w n m pu tu f tm t) (s:Below lo w w'):iC lo w' n m pu tu f tm t:=by
 have e:aM 0 lo w w':=fun b _ hb=>s.block b hb;exact ⟨h.flats.same e,h.tex.same e,h.hm,h.h1,h.h8,h.ok,h.tm9,h.f9⟩
theorem iC.hmi {t:Tex} (h:iC lo w n m pu tu f tm t):(n:Int)*n=m/\1<=m/\m<=64:=by
 have h1:=h.h1;have h8:=h.h8;have h2:n*n<=8*8:=aRq h8 h8;have h3:1*1<=n*n:=aRq h1 h1;have:=h.hm;refine ⟨by rw [<-h.hm];simp,by omega,by omega⟩
theorem ownsRow.ss {S:List (List Int)} (h:w.ownsRow lo 24 1 v p vs) (hr:Rws lo' w vs S):SS 0 w.heap.size w v S:=by
 have hl:=hr.len
 have hp:p=S.length:=by have:=h.1;omega
 subst hp
 rcases h.2 with ⟨rfl,h4⟩|⟨g,cap,cur,rfl,hb,hg,hc,hm,hs,ht⟩
 ·refine ⟨none,0,by rw [h4],by omega,by unfold maxLen;omega,fun i xs hx=>?_⟩
  have:=(aQq.1 hx).1;omega
 ·refine ⟨some ⟨g,0,none⟩,cap,rfl,hc,hm,fun i xs hx=>?_⟩
  have hi:=(aQq.1 hx).1
  obtain ⟨v,hv⟩:∃v,vs[i]?=some v:=⟨vs[i]'(by omega),by simp [show i<vs.length by omega]⟩
  refine ⟨g,0,v,rfl,aR8 _,(aQ9.1 hg).1,?_,(hr.own i _ xs hv hx).ints.wide (aR8 _) (aQo _)⟩;have e:=hv;rw [<-ht,aSr,if_pos (by omega)] at e;simp only [aSn,hg,aRl];rw [<-aTn];exact e
theorem aO2 {t:Tex} {S L:List (List Int)} (M:fC lo lo2 w mb n pu tu tm t.log sv lv vs us S L) (G:iC lo w n m pu tu f tm t) (s:ByteArray) (num:Int) (hn:I64 num) (hS:S.length<=1000)
  (zs:List Int) (hz:aRa m num=zs) :
  Calls aQt 223 #[.pointer (some ⟨mb,0,none⟩),.agg #[.int .i64 1,.string s,num]] w fun e w'=>e = .returned (.tuple #[])/\(∃sv' vs',fC lo lo2 w' mb n pu tu tm t.log sv' lv vs' us (S++[zs]) L)/\kU lo w w':=by
 obtain ⟨q1,q2,q3⟩:=G.hmi;have hb:=M.lt;have h6:=M.sl;have c0:=aR M.box 0;have c1:=aR M.box 1;have c2:=aR M.box 2;have c3:=aR M.box 3;have c4:=aR M.box 4;simp at c0 c1 c2 c3 c4;have h4:lo<=w.heap.size:=aQw M.hl M.hl2;have h5:=aSl M.so;have x0:Ext w (w.alloc (.cells #[.int .i64 1,.string s,num] 221)):=X_;have HM:=hid (M.ext x0)
 have h1:w.heap.size<(w.alloc (.cells #[.int .i64 1,.string s,num] 221)).heap.size:=by simp
 replace hz:=hid hz;clear M G;go_enter func223,ntmps223;go_wp2_with fail;refine aJ [([0,1,2,3,4,5,6],7),([],8)] 99 (fun w'=>∃d,w'=fU (CMx mb w.heap.size) _ d) (by kernel_rfl) (by kernel_rfl) (SC.drew _ _) ?_;refine sc_ fun K hK=>?_;go_wp2_with fail;refine (pP num n m _ _ _ _ _ q1 (by omega) hn).mono ?_;rintro e w2 ⟨y,rfl,hy,x2⟩;rw [hz.out] at hy;obtain ⟨ya,yc,rfl,_⟩:=hy.form;have X2:Ext (w.alloc (.cells #[.int .i64 1,.string s,num] 221)) w2:=aQu (aRr (aQy _)) x2;have M2:=HM.ext X2;have h2:=jJ HM M2 (X2.block h1);go_wp2_with fail;refine hK _ _ (.inr (h2)) ?_;clear hK K;refine sc_ fun K hK=>?_;go_wp2_with fail;have h0:=zC.of (M:=(w.alloc (.cells #[.int .i64 1,.string s,num] 221)).heap.size) HM.rows (aQo _) (fun k hk=>(hy.lt k hk).1);refine (lT M2 (hy.low (by have:=x0.size;simp;omega)) h0 (by omega)).mono ?_;rintro e w3 ⟨rfl,⟨sv3,M3⟩,st3,fr3⟩;have h3:=jJ HM M3 ((fr3 w.heap.size (by have:=X2.size;omega) (by omega) (fun e=>by have:=(h5 _ e).2;omega)).trans (X2.block h1));go_wp2_with fail;refine hK _ _ (.inr (h3)) ?_;clear hK K;refine aQ ?_;go_wp2
 go_end0
 exact ⟨rfl,⟨sv3,_,M3⟩,((x0.trans X2).step h4).trans st3⟩
theorem aO3 {t:Tex} {S L:List (List Int)} (M:fC lo lo2 w mb n pu tu tm t.log sv lv vs us S L) (G:iC lo w n m pu tu f tm t) (s:ByteArray) (num:Int) (hS:S.length<=1000)
  (zs:List Int) (hz:(aRc m).map (lK s.toList f tm)=zs) :
  Calls aQt 223 #[.pointer (some ⟨mb,0,none⟩),.agg #[.int .i64 2,.string s,num]] w fun e w'=>e = .returned (.tuple #[])/\(∃sv' vs',fC lo lo2 w' mb n pu tu tm t.log sv' lv vs' us (S++[zs]) L)/\kU lo w w':=by
 obtain ⟨q1,q2,q3⟩:=G.hmi;have hb:=M.lt;have h6:=M.sl;have c0:=aR M.box 0;have c1:=aR M.box 1;have c2:=aR M.box 2;have c3:=aR M.box 3;have c4:=aR M.box 4;simp at c0 c1 c2 c3 c4;have h1:lo<=w.heap.size:=aQw M.hl M.hl2;have h5:=aSl M.so;have x0:Ext w (w.alloc (.cells #[.int .i64 2,.string s,num] 221)):=X_;have HM:=hid (M.ext x0)
 have h2:w.heap.size<(w.alloc (.cells #[.int .i64 2,.string s,num] 221)).heap.size:=by simp
 replace hz:=hid hz;have HF:=hid (G.flats.ext h1 x0);have t9:=G.tm9.i64;clear M G;go_enter func223,ntmps223;go_wp2_with fail;refine aJ [([0,1,2,3,4,5,6],7),([],8)] 99 (fun w'=>∃d,w'=fU (CMx mb w.heap.size) _ d) (by kernel_rfl) (by kernel_rfl) (SC.drew _ _) ?_;refine sc_ fun K hK=>?_;go_wp2_with fail;refine (aDt s 0 lo n m _ _ f tm _ _ (HF.ext (aQw h1 x0.size) (aRr (aQy _))) (aQw h1 x0.size) q1 q3 t9).mono ?_;rintro e w2 ⟨y,rfl,hy,x2⟩;rw [hz.out] at hy;obtain ⟨ya,yc,rfl,_⟩:=hy.form;have X2:Ext (w.alloc (.cells #[.int .i64 2,.string s,num] 221)) w2:=aQu (aRr (aQy _)) x2;have M2:=HM.ext X2;have h3:=jJ HM M2 (X2.block h2);go_wp2_with fail;refine hK _ _ (.inr (h3)) ?_;clear hK K;refine sc_ fun K hK=>?_;go_wp2_with fail;have h0:=zC.of (M:=(w.alloc (.cells #[.int .i64 2,.string s,num] 221)).heap.size) HM.rows (aQo _) (fun k hk=>(hy.lt k hk).1);refine (lT M2 (hy.low (by have:=x0.size;simp;omega)) h0 (by omega)).mono ?_;rintro e w3 ⟨rfl,⟨sv3,M3⟩,st3,fr3⟩;have h4:=jJ HM M3 ((fr3 w.heap.size (by have:=X2.size;omega) (by omega) (fun e=>by have:=(h5 _ e).2;omega)).trans (X2.block h2));go_wp2_with fail;refine hK _ _ (.inr (h4)) ?_;clear hK K;refine aQ ?_;go_wp2
 go_end0
 exact ⟨rfl,⟨sv3,_,M3⟩,((x0.trans X2).step h1).trans st3⟩
theorem aO4 {t:Tex} {S L:List (List Int)} (M:fC lo lo2 w mb n pu tu tm t.log sv lv vs us S L) (G:iC lo w n m pu tu f tm t) (s:ByteArray) (num:Int) (hS:S.length<=1000)
  (zs:List Int) (p q:Nat) (hp:cA s=p) (hp1:1<=p) (hq:q+p=S.length) (hg:∀r∈S,fG m r) (hz:eJ n m t s.toList (S.drop q)=zs) :
  Calls aQt 223 #[.pointer (some ⟨mb,0,none⟩),.agg #[.int .i64 7,.string s,num]] w fun e w'=>e = .returned (.tuple #[])/\(∃sv' vs',fC lo lo2 w' mb n pu tu tm t.log sv' lv vs' us (S.take q++[zs]) L)/\kU lo w w':=by
 obtain ⟨q1,q2,q3⟩:=G.hmi;have hb:=M.lt;have x2:=M.sl;have c0:=aR M.box 0;have c1:=aR M.box 1;have c2:=aR M.box 2;have c3:=aR M.box 3;have c4:=aR M.box 4;simp at c0 c1 c2 c3 c4;have h5:lo<=w.heap.size:=aQw M.hl M.hl2;have q6:=aSl M.so;have x0:Ext w (w.alloc (.cells #[.int .i64 7,.string s,num] 221)):=X_;have HM:=hid (M.ext x0)
 have h4:w.heap.size<(w.alloc (.cells #[.int .i64 7,.string s,num] 221)).heap.size:=by simp
 replace hz:=hid hz;have HG:=hid (G.step (x0.step h5).below);have h3:∀r∈S.drop q,fG m r:=fun r hr=>hg r (aT9 hr)
 have h2:(S.drop q).length=p:=by simp;omega
 replace hp:=hid hp;replace hg:=hid hg;replace h3:=hid h3;replace h2:=hid h2;clear M G;go_enter func223,ntmps223;go_wp2_with fail;refine aJ [([0,1,2,3,4,5,6,7,8,9],10),([],11),([],12),([],13)] 99 (fun w'=>∃d,w'=fU (CMx mb w.heap.size) _ d) (by kernel_rfl) (by kernel_rfl) (SC.drew _ _) ?_;refine sc_ fun K hK=>?_;go_wp2_with fail;refine z_ (qH hp.out _) ?_;have X1:Ext (w.alloc (.cells #[.int .i64 7,.string s,num] 221)) (w.alloc (.cells #[.int .i64 7,.string s,num] 221)).drew:=aRr (aQy _);have M1:=HM.ext X1;have h6:=jJ HM M1 (X1.block h4);go_wp2_with fail;refine hK _ _ (.inr (h6)) ?_;clear hK K;refine sc_ fun K hK=>?_;go_wp2_with fail;refine (vA M1 p q hp1 (by omega) (by omega)).mono ?_;rintro e w2 ⟨r,rfl,hr,⟨sv2,M2,hsv2⟩,st2,fr2⟩;obtain ⟨ra,rc,rfl⟩:=ownsRow.form hr;have h7:=jJ HM M2 ((fr2 w.heap.size (by have:=X1.size;omega) (by omega)).trans (X1.block h4));have HR:=hid hr;go_wp2_with fail;refine hK _ _ (.inr (h7)) ?_;clear hK K;refine sc_ fun K hK=>?_;go_wp2_with fail;have G2:=HG.step ((X1.step (by simp;omega)).trans st2).below;have q9:=st2.size;have q8:=X1.size;have q7:=x0.size
 have q4:SS 0 w2.heap.size w2 (.slice ra p rc) (S.drop q):=by
  have q5:=((Rws.left M1.sl M1.rows).drop q).keepI st2.keep;exact ownsRow.ss HR q5
 refine (aDs s (S.drop q) 0 w2.heap.size 0 lo n m _ _ _ tm t w2 (by rw [hp.out];omega) (by rw [h2.out,hp.out]) G2.ok q4 (aQo _) G2.tex (by omega) h3.out G2.hm G2.h1 G2.h8).mono ?_;rintro e w3 ⟨y,rfl,hy,x3⟩;rw [hz.out] at hy;obtain ⟨ya,yc,rfl,_⟩:=hy.form;have M3:=M2.ext x3;have f2:=(fr2 w.heap.size (by omega) (by omega)).trans (X1.block h4);have f3:=(x3.block (by omega)).trans f2;have h9:=jJ HM M3 f3;go_wp2_with fail;refine hK _ _ (.inr (h9)) ?_;clear hK K;refine sc_ fun K hK=>?_;go_wp2_with fail;have h0:=zC.of (M:=w2.heap.size) M2.rows (aQo _) (fun k hk=>(hy.lt k hk).1);refine (lT M3 (hy.low (by omega)) h0 (by simp;omega)).mono ?_;rintro e w4 ⟨rfl,⟨sv4,M4⟩,st4,fr4⟩;have x1:=x3.size;have q0:=jJ HM M4 ((fr4 w.heap.size (by omega) (by omega) (fun e=>by have:=(q6 _ (hsv2▸e)).2;omega)).trans f3);go_wp2_with fail;refine hK _ _ (.inr (q0)) ?_;clear hK K;refine aQ ?_;go_wp2
 go_end0
 exact ⟨rfl,⟨sv4,_,M4⟩,(((x0.trans X1).step h5).trans st2).trans ((x3.step (by omega)).trans st4)⟩
def CMl (mb xb lb:Nat):Addr->Prop:=fun a=>a.block=lb\/CMx mb xb a
@[go_sem] theorem aQa (mb xb lb o:Nat):CMl mb xb lb ⟨lb,o,none⟩:=.inl rfl
@[go_sem] theorem aQb (mb xb lb o:Nat):CMl mb xb lb ⟨xb,o,none⟩:=.inr (aO0 _ _ _)
@[go_sem] theorem aQc (mb xb lb:Nat):CMl mb xb lb ⟨mb,6,none⟩:=.inr (aO1 _ _)
theorem aKr {xb lb:Nat} (h:SC (CMx mb xb) w w') (hl:w'.heap[lb]?=w.heap[lb]?):SC (CMl mb xb lb) w w':=SC.of fun a ha=>by
 rcases ha with ha|ha
 ·have h:w'.heap[a.block]?=w.heap[a.block]?:=by rw [ha];exact hl
  exact ⟨aR5 h,aSj h⟩
 ·exact h.get a ha
theorem aO5 {S L:List (List Int)} (M:fC lo lo2 w mb n pu tu tm lg sv lv vs us S L) (s:ByteArray) (j:Nat) (xs:List Int) (hx:L[j]?=some xs) (h1:1<=xs.length) (h2:xs.length<=64) (hS:S.length<=1000) :
  Calls aQt 223 #[.pointer (some ⟨mb,0,none⟩),.agg #[.int .i64 3,.string s,j]] w fun e w'=>e = .returned (.tuple #[])/\(∃sv' vs',fC lo lo2 w' mb n pu tu tm lg sv' lv vs' us (S++[xs]) L)/\kU lo w w':=by
 have hR:=Rws.right M.sl M.rows;have q6:=(aQq.1 hx).1;have q7:=hR.len
 have h9:j<us.length:=by omega
 obtain ⟨v,hv⟩:∃v,us[j]?=some v:=⟨us[j],by simp [h9]⟩
 have h0:=hR.own j v xs hv hx;obtain ⟨va,vc,rfl,_⟩:=h0.form;obtain ⟨lb,lc,rfl,q0,q1⟩:=ownsRow.form1 M.lo' (by omega);obtain ⟨k1,k2⟩:=ownsRow.caps M.lo';have q5:=M.sep lb rfl;have q8:=M.sl;have hb:=M.lt;have c6:=aR M.box 6;simp at c6;have r0:=aSv M.lo' j (by omega);rw [hv] at r0;have q3:lo<=w.heap.size:=aQw M.hl M.hl2;have h5:=aSl M.so;have q4:=M.so
 have h8:lb≠mb:=fun e=>by
  have:=ownsRow.not M.lo' M.box (by decide);exact this (by rw [<-e];rfl)
 have x0:Ext w (w.alloc (.cells #[.int .i64 3,.string s,j] 221)):=X_;have HM:=hid (M.ext x0);have HO:=hid (h0.ints.ext (aQo _) x0)
 have h4:w.heap.size<(w.alloc (.cells #[.int .i64 3,.string s,j] 221)).heap.size:=by simp
 have q2:=M.hl2;clear M h0 hv hx hR q4;go_enter func223,ntmps223;go_wp2_with fail;refine aJ [([0,1,2,3,4,5,6,7,8],9),([],10)] 99 (fun w'=>∃d,w'=fU (CMl mb w.heap.size lb) _ d) (by kernel_rfl) (by kernel_rfl) (SC.drew _ _) ?_;refine sc_ fun K hK=>?_;go_wp2_with fail;refine (wO lo w.heap.size _ xs _ (HO.ext (aTx h4) (aRr (aQy _))) (aTx h4) h1 (by omega)).mono ?_;rintro e w2 ⟨y,rfl,hy,x2⟩;obtain ⟨ya,yc,rfl,_⟩:=hy.form;have X2:Ext (w.alloc (.cells #[.int .i64 3,.string s,j] 221)) w2:=aQu (aRr (aQy _)) x2;have M2:=HM.ext X2;have h6:=aKr (jJ HM M2 (X2.block h4)) (X2.block (k:=lb) (by omega));go_wp2_with fail;refine hK _ _ (.inr (h6)) ?_;clear hK K;refine sc_ fun K hK=>?_;go_wp2_with fail;have h3:=zC.of (M:=(w.alloc (.cells #[.int .i64 3,.string s,j] 221)).heap.size) HM.rows (aQo _) (fun k hk=>(hy.lt k hk).1);refine (lT M2 (hy.low (by have:=x0.size;simp;omega)) h3 (by omega)).mono ?_;rintro e w3 ⟨rfl,⟨sv3,M3⟩,st3,fr3⟩;have q9:=X2.size;have h7:=aKr (jJ HM M3 ((fr3 w.heap.size (by omega) (by omega) (fun e=>by have:=(h5 _ e).2;omega)).trans (X2.block h4))) ((fr3 lb (by omega) h8 (fun e=>by have:=(h5 _ e).1;omega)).trans (X2.block (k:=lb) (by omega)));go_wp2_with fail;refine hK _ _ (.inr (h7)) ?_;clear hK K;refine aQ ?_;go_wp2
 go_end0
 exact ⟨rfl,⟨sv3,_,M3⟩,((x0.trans X2).step q3).trans st3⟩
theorem aO6 {S L:List (List Int)} (M:fC lo lo2 w mb n pu tu tm lg sv lv vs us S L) (s:ByteArray) (q:Nat) (op:Int) (hop:mU op) (hq:q+1=S.length) (hS:S.length<=1000) (hg:∀r∈S,fG m r) (hm:m<=64) :
  Calls aQt 223 #[.pointer (some ⟨mb,0,none⟩),.agg #[.int .i64 5,.string s,op]] w fun e w'=>e = .returned (.tuple #[])/\(∃sv' vs',fC lo lo2 w' mb n pu tu tm lg sv' lv vs' us (S.take q++[aTg (eU op) (S.getD q []) (S.getD q [])]) L)/\kU lo w w':=by
 have h0:lo<=w.heap.size:=aQw M.hl M.hl2;have x0:Ext w (w.alloc (.cells #[.int .i64 5,.string s,op] 221)):=X_;have HC:=hid (aI2 (M.ext x0) q m op hop hq hS hg hm);clear M hop hq;go_enter func223,ntmps223;go_wp2_with fail;refine HC.mono ?_;rintro e w2 ⟨rfl,h1,h2⟩;go_wp2
 go_end0
 exact ⟨rfl,h1,(x0.step h0).trans h2⟩
theorem aO7 {S L:List (List Int)} (M:fC lo lo2 w mb n pu tu tm lg sv lv vs us S L) (s:ByteArray) (q:Nat) (op:Int) (hop:mU op) (hq:q+2=S.length) (hS:S.length<=1000) (hg:∀r∈S,fG m r) (hm:m<=64) :
  Calls aQt 223 #[.pointer (some ⟨mb,0,none⟩),.agg #[.int .i64 6,.string s,op]] w fun e w'=>e = .returned (.tuple #[])/\(∃sv' vs',fC lo lo2 w' mb n pu tu tm lg sv' lv vs' us (S.take q++[aTg (eU op) (S.getD q []) (S.getD (q+1) [])]) L)/\kU lo w w':=by
 have h0:lo<=w.heap.size:=aQw M.hl M.hl2;have x0:Ext w (w.alloc (.cells #[.int .i64 6,.string s,op] 221)):=X_;have HC:=hid (aF5 (M.ext x0) q m op hop hq hS hg hm);clear M hop hq;go_enter func223,ntmps223;go_wp2_with fail;refine HC.mono ?_;rintro e w2 ⟨rfl,h1,h2⟩;go_wp2
 go_end0
 exact ⟨rfl,h1,(x0.step h0).trans h2⟩
theorem aO8 {S L:List (List Int)} (M:fC lo lo2 w mb n pu tu tm lg sv lv vs us S L) (s:ByteArray) (j q:Nat) (hj:j<L.length) (hq:q+1=S.length) (hS:S.length<=1000) (hne:∀r∈S,r≠[]) :
  Calls aQt 223 #[.pointer (some ⟨mb,0,none⟩),.agg #[.int .i64 4,.string s,j]] w fun e w'=>e = .returned (.tuple #[])/\(∃sv' vs' us',fC lo lo2 w' mb n pu tu tm lg sv' lv vs' us' (S.take q) (L.set j (S.getD q [])))/\kU lo w w':=by
 have hR:=Rws.right M.sl M.rows;have z0:=hR.len
 have q6:j<us.length:=by omega
 have z1:=M.sl;obtain ⟨x,h6,q0⟩:=lU vs q (by omega);obtain ⟨xs,h5,x6⟩:=lU S q hq;have h9:=Rws.left M.sl M.rows
 have h0:aB lo w x xs:=by
  have:=(h9.drop q).own 0 x xs (by rw [h6];rfl) (by rw [h5];rfl);exact this
 have x3:xs≠[]:=hne xs (aT9 (by rw [h5];exact aTq.2 rfl))
 have q1:S.getD q []=xs:=by
  have h1:S[q]?=(S.drop q)[0]?:=by rw [aS0,aSa]
  rw [aTr,h1,h5]
  rfl
 rw [q1];obtain ⟨xa,xc,rfl,_⟩:=h0.form;obtain ⟨lb,lc,rfl,h7,q8⟩:=ownsRow.form1 M.lo' (by omega);obtain ⟨k1,k2⟩:=ownsRow.caps M.lo';have x8:=M.sep lb rfl;have hb:=M.lt;have c6:=aR M.box 6;simp at c6;have x2:lo<=w.heap.size:=aQw M.hl M.hl2;have x9:=aSl M.so;have q9:=M.hl2
 have h2:Apt ((vs.take q++[.slice xa xs.length xc])++us):=by rw [<-q0];exact M.apt
 have x0:Ext w (w.alloc (.cells #[.int .i64 4,.string s,j] 221)):=X_;have HM:=hid (M.ext x0);have HO:=hid h0;have HA:=hid h2
 have x7:w.heap.size<(w.alloc (.cells #[.int .i64 4,.string s,j] 221)).heap.size:=by simp
 replace h6:=hid h6;clear M h0 hR h9 h2 q0 h5 x6 q1;go_enter func223,ntmps223;go_wp2_with fail;refine aJ [([0,1,2,3,4,5,6],7),([],8),([],9),([],10),([],11)] 11 (fun w'=>∃d,w'=fU (CMx mb w.heap.size) _ d) (by kernel_rfl) (by kernel_rfl) (SC.drew _ _) ?_;refine sc_ fun K hK=>?_;go_wp2_with fail;have X1:Ext (w.alloc (.cells #[.int .i64 4,.string s,j] 221)) (w.alloc (.cells #[.int .i64 4,.string s,j] 221)).drew:=aRr (aQy _);have M1:=HM.ext X1;refine (vA M1 1 q (aQo _) (by omega) (by omega)).mono ?_;rintro e w2 ⟨r,rfl,hr,⟨sv2,M2,hsv2⟩,st2,fr2⟩;obtain ⟨rb,rc,rfl,x4,x5⟩:=ownsRow.form1 hr (aQo _);rw [h6.out] at hr;have r0:=aSv hr 0 (by omega);simp at r0;have h4:=jJ HM M2 ((fr2 w.heap.size (by have:=X1.size;omega) (by omega)).trans (X1.block x7));have x1:=(aSl M2.lo' lb rfl).2
 obtain ⟨y0,q2⟩:∃y,us[j]?=some y:=⟨us[j],by simp [q6]⟩
 have t0:=aSv M2.lo' j (by omega);rw [q2] at t0;have t1:=aYu M2.lo' j;have q3:=hid M2;have q4:=hid st2;have HX:=hid (HO.keepI ((x0.trans X1).keepI.trans st2.keep));clear M2 hr st2 fr2 q2;go_wp2_with fail;refine hK _ _ (.inr (h4)) ?_;clear hK K;refine sc_ fun K hK=>?_;go_wp2_with fail;go_wp2_with fail;refine hK _ _ (.inr (h4)) ?_;clear hK K;refine sc_ fun K hK=>?_;go_wp2_with fail;go_wp2_with fail;refine hK _ _ (.inr (h4)) ?_;clear hK K;refine sc_ fun K hK=>?_;go_wp2_with fail;go_wp2_with fail;refine hK _ _ (.inr (h4)) ?_;clear hK K;refine sc_ fun K hK=>?_;go_wp2_with fail;go_wp2_with fail;refine l_ hK ?_;clear hK K;refine aQ ?_;go_wp2
 go_end0
 have M2:=q3.out;have h3:=aZl M2.lo' j (.slice xa xs.length xc);have q5:lb≠mb:=fun e=>ownsRow.not M2.lo' M2.box (by decide) (by rw [<-e];rfl);have kk:fE w2 (w2.setCell ⟨lb,j,none⟩ (.slice xa xs.length xc)):=fE.setCell _ (fun cur fr=>ownsRow.int M2.lo' (by decide) lb cur fr rfl);have h8:=aSl M2.so
 have q7:(us.set j (.slice xa xs.length xc)).length=us.length:=by simp
 refine ⟨rfl,⟨sv2,vs.take q,us.set j (.slice xa xs.length xc),⟨?_,M2.low,?_,?_,M2.sep,M2.hl,by have:=M2.hl2;simpa using this,M2.sl,?_,HA.store j,M2.nls.set j x3⟩⟩,(((x0.trans X1).step x2).trans q4).trans ⟨aXc (aW5 _ _) h7 _,kk⟩⟩
 ·exact (aQz _ _ _ _ (fun e=>q5 e.symm)).trans M2.box
 ·refine M2.so.kept h3.2 ?_
  cases hk:sv2.ownBlock with
  | none=>exact .inl rfl
  | some k=>exact .inr (fun e=>by have:=(h8 k hk).1;injection e with e;omega)
 ·rw [q7]
  exact h3.1
 ·exact (Rws.left M2.sl M2.rows).keepI kk |>.app (((Rws.right M2.sl M2.rows).keepI kk).set j (HX.keepI kk))
def iM (n m:Nat) (f:Nat->Int) (tm:Int) (t:Tex) (op:Int) (s:ByteArray) (num:Int) (args L:List (List Int)):List Int:=
 if op=1 then aRa m num else if op=2 then (aRc m).map (lK s.toList f tm) else if op=3 then L.getD num.toNat [] else if op=5 then aTg (eU num) (args.getD 0 []) (args.getD 0 [])
 else if op=6 then aTg (eU num) (args.getD 0 []) (args.getD 1 []) else eJ n m t s.toList args
def iN (op:Int) (s:ByteArray) (S:List (List Int)):Nat:=S.length - (cI op s).toNat
def eH (n m:Nat) (f:Nat->Int) (tm:Int) (t:Tex) (x:Ins) (S L:List (List Int)):List (List Int):=
 if x.op=4 then S.take (iN x.op x.name S) else S.take (iN x.op x.name S)++[iM n m f tm t x.op x.name x.num (S.drop (iN x.op x.name S)) L]
def gD (x:Ins) (S L:List (List Int)):List (List Int):=if x.op=4 then L.set x.num.toNat (S.getD (iN x.op x.name S) []) else L
def kW (n m:Nat) (f:Nat->Int) (tm:Int) (t:Tex):List Ins->List (List Int)->List (List Int)->List (List Int)
 | [],_,L=>L
 | x::r,S,L=>kW n m f tm t r (eH n m f tm t x S L) (gD x S L)
theorem aDw {b:List Int} (ha:a.length=m) (hb:b.length=m):fG m (aTg (eU op) a b):=by
 refine ⟨by simp;omega,fun x hx=>?_⟩;obtain ⟨i,hi,rfl⟩:=aRn hx;simp;exact fD _
theorem aHl (l:List UInt8) (hf:∀i,i<m*5->S9 (f i)) (ht:S9 tm) (hq:q<m):S9 (lK l f tm q):=by
 unfold lK
 split
 ·exact hf _ (by omega)
 split
 ·exact hf _ (by omega)
 split
 ·exact hf _ (by omega)
 split
 ·exact hf _ (by omega)
 split
 ·exact hf _ (by omega)
 ·exact ht
theorem aI3 (hm:n*n=m) (t:Tex) (l:List UInt8) (S:List (List Int)):fG m (eJ n m t l S):=by
 have hd:∀xs rows,fG m (iL xs n rows):=fun xs rows=>⟨by rw [gQ,hm],fun x hx=>by
  obtain ⟨i,hi,rfl⟩:=aRn hx;rw [nK]
  exact rD _ _ _ _⟩
 unfold eJ
 split
 ·exact hd _ _
 split
 ·exact hd _ _
 ·refine ⟨by simp,fun x hx=>?_⟩
  obtain ⟨i,hi,rfl⟩:=aSt.1 hx;exact fD _
structure nB (L0 m:Nat) (xs:List Ins) (S L:List (List Int)):Prop where
 run:∃d st,(iA L0 xs S.length d st).isSome=true/\∀j r,L[j]?=some r->(st j=true/\fG m r)\/(st j=false/\r=[])
 len:L.length=L0
 rows:∀r∈S,fG m r
theorem nB.wf {x:Ins} {r:List Ins} {S L:List (List Int)} (h:nB L0 m (x::r) S L):wfI x.op x.name x.num L0=true:=by
 obtain ⟨d,st,h1,_⟩:=h.run;exact aBk _ _ _ _ h1 x (aVd)
theorem nB.pops {x:Ins} {r:List Ins} {S L:List (List Int)} (h:nB L0 m (x::r) S L):∃p:Nat,cI x.op x.name=p/\iN x.op x.name S+p=S.length:=by
 obtain ⟨d,st,h1,_⟩:=h.run;have hb:=aBj h.wf;unfold iA at h1
 split at h1
 ·rename_i hc
  refine ⟨(cI x.op x.name).toNat,by omega,?_⟩;unfold iN;omega
 ·simp at h1
theorem nB.local {x:Ins} {r:List Ins} {S L:List (List Int)} (h:nB L0 m (x::r) S L) (h3:x.op=3):∃xs,L[x.num.toNat]?=some xs/\fG m xs:=by
 obtain ⟨d,st,h1,h2⟩:=h.run;obtain ⟨j,hj,h0⟩:=mV h.wf (.inl h3);unfold iA at h1
 split at h1
 ·rename_i hc
  have hs:=hc.2.1 h3;rw [hj] at hs ⊢;simp only [aRh] at hs ⊢;have hl:=h.len
  have hx:L[j]?=some (L[j]'(by omega)):=by simp [show j<L.length by omega]
  rcases h2 j _ hx with h4|h4
  ·exact ⟨_,hx,h4.2⟩
  ·rw [hs] at h4;cases h4.1
 ·simp at h1
theorem nB.next {t:Tex} {x:Ins} {r:List Ins} {S L:List (List Int)} (h:nB L0 m (x::r) S L) (hm:n*n=m) (hn:gX x=true) (hf:∀i,i<m*5->S9 (f i)) (ht:S9 tm):nB L0 m r (eH n m f tm t x S L) (gD x S L):=by
 obtain ⟨p,hp,hc⟩:=h.pops;have q7:=h.wf;have q0:=h.local;have h0:=h.rows;obtain ⟨d,st,h1,h2⟩:=h.run;have h8:=h.len;have hd:∀y∈S.drop (iN x.op x.name S),fG m y:=fun y hy=>h0 y (aT9 hy);have q3:∀y∈S.take (iN x.op x.name S),fG m y:=fun y hy=>h0 y (List.mem_of_mem_take hy)
 have q8:(S.drop (iN x.op x.name S)).length=p:=by simp;omega
 have h7:∀i,i<p->fG m ((S.drop (iN x.op x.name S)).getD i []):=fun i hi=>by
  have e:(S.drop (iN x.op x.name S)).getD i []=(S.drop (iN x.op x.name S))[i]'(by omega):=by rw [aTr,aQ0 (show i<(S.drop (iN x.op x.name S)).length by omega)];rfl
  rw [e];exact hd _ (aQ8 _)
 unfold iA at h1
 split at h1
 case isFalse=>simp at h1
 rename_i q2;generalize (if (S.length:Int) - cI x.op x.name+fZ x.op > d then (S.length:Int) - cI x.op x.name+fZ x.op else d)=d2 at h1
 by_cases h4:x.op=4
 ·have x0:p=1:=by
   rw [h4] at hp;have:cI 4 x.name=1:=rfl;omega
  have q5:fZ x.op=0:=by rw [h4];rfl
  obtain ⟨j,hj,q9⟩:=mV q7 (.inr h4);refine ⟨⟨d2,hZ x.op x.num st,?_,?_⟩,?_,?_⟩
  ·unfold eH
   rw [if_pos h4,aRf,aS6 (by omega)]
   have e:((S.length:Int) - cI x.op x.name+fZ x.op)=(iN x.op x.name S:Nat):=by rw [hp,q5];omega
   rw [e] at h1;exact h1
  ·intro i y hy
   unfold gD at hy;rw [if_pos h4,hj,aRh] at hy;unfold hZ;rw [if_pos h4,hj,aRh];rw [aUd] at hy
   by_cases h9:j=i
   ·subst h9
    rw [if_pos rfl,if_pos (by omega)] at hy;injection hy with hy;subst hy;refine .inl ⟨by simp,?_⟩;have:=h7 0 (by omega);rw [aTr,aS0,aSa] at this;exact this
   ·rw [if_neg h9] at hy
    have:=h2 i y hy;rw [if_neg (fun e=>h9 e.symm)];exact this
  ·unfold gD
   rw [if_pos h4,aY1];exact h8
  ·intro y hy
   unfold eH at hy;rw [if_pos h4] at hy;exact q3 y hy
 ·have q6:fZ x.op=1:=by unfold fZ;rw [if_neg h4]
  have q4:hZ x.op x.num st=st:=by unfold hZ;rw [if_neg h4]
  have hL:gD x S L=L:=by unfold gD;rw [if_neg h4]
  have q1:fG m (iM n m f tm t x.op x.name x.num (S.drop (iN x.op x.name S)) L):=by
   unfold iM
   split
   ·have hb:=aG.1 (show inB x.num (-1000000000) 1000000000=true from hn)
    refine ⟨by simp,fun y hy=>?_⟩;rw [aT8 hy];exact hb
   split
   ·refine ⟨by simp,fun y hy=>?_⟩
    obtain ⟨i,hi,rfl⟩:=aSt.1 hy;exact aHl _ hf ht (aRu.1 hi)
   split
   ·rename_i h3
    obtain ⟨xs,hx,hg⟩:=q0 h3;rw [aTr,hx];exact hg
   split
   ·rename_i h5
    have x1:p=1:=by
     rw [h5] at hp;have:cI 5 x.name=1:=rfl;omega
    exact aDw (h7 0 (by omega)).1 (h7 0 (by omega)).1
   split
   ·rename_i h6
    have x2:p=2:=by
     rw [h6] at hp;have:cI 6 x.name=2:=rfl;omega
    exact aDw (h7 0 (by omega)).1 (h7 1 (by omega)).1
   ·exact aI3 hm t _ _
  refine ⟨⟨d2,st,?_,?_⟩,by rw [hL];exact h8,?_⟩
  ·unfold eH
   rw [if_neg h4,aRg,aRf,aS6 (by omega),aUs];rw [q4] at h1
   have e:((S.length:Int) - cI x.op x.name+fZ x.op)=((iN x.op x.name S+1:Nat):Int):=by rw [hp,q6];omega
   rw [e] at h1;exact h1
  ·rw [hL]
   exact h2
  ·intro y hy
   unfold eH at hy;rw [if_neg h4] at hy
   rcases aS2.1 hy with hy|hy
   ·exact q3 y hy
   ·simp at hy
    subst hy;exact q1
theorem aKs (h:inB num 4 7=true):mU num:=by
 have:=aG.1 h;unfold mU;omega
theorem aDx {t:Tex} {S L:List (List Int)} {x:Ins} {r:List Ins} (M:fC lo lo2 w mb n pu tu tm t.log sv lv vs us S L) (G:iC lo w n m pu tu f tm t) (ok:nB L0 m (x::r) S L) (hn:gX x=true) (hS:S.length<=1000) :
  Calls aQt 223 #[.pointer (some ⟨mb,0,none⟩),.agg #[x.op,.string x.name,x.num]] w fun e w'=>e = .returned (.tuple #[])/\(∃sv' vs' us',fC lo lo2 w' mb n pu tu tm t.log sv' lv vs' us' (eH n m f tm t x S L) (gD x S L))/\kU lo w w':=by
 have h7:=ok.wf;obtain ⟨p,hp,hc⟩:=ok.pops;obtain ⟨q1,q2,q3⟩:=G.hmi;have h8:=ok.local;have h6:=ok.rows;have h9:=ok.len;clear ok;obtain ⟨op,s,num⟩:=x;simp only at h7 hp hc h8 ⊢
 have q8:1<=op/\op<=7:=by
  by_cases h:1<=op/\op<=7
  ·exact h
  ·unfold wfI at h7
   rw [if_neg (by omega),if_neg (by omega),if_neg (by omega),if_neg (by omega),if_neg (by omega),if_neg (by omega),if_neg (by omega)] at h7;cases h7
 have q5:=aG.1 (show inB num (-1000000000) 1000000000=true from hn)
 have wrap:∀{e:Ending} {w':World} {S' L':List (List Int)},(eH n m f tm t ⟨op,s,num⟩ S L=S')->(gD ⟨op,s,num⟩ S L=L')->(e = .returned (.tuple #[])/\(∃sv' vs',fC lo lo2 w' mb n pu tu tm t.log sv' lv vs' us S' L')/\kU lo w w')->(e = .returned (.tuple #[])/\(∃sv' vs' us',fC lo lo2 w' mb n pu tu tm t.log sv' lv vs' us' (eH n m f tm t ⟨op,s,num⟩ S L) (gD ⟨op,s,num⟩ S L))/\kU lo w w'):=by
  intro e w' S' L' h1 h2 ⟨h3,⟨sv',vs',h4⟩,h5⟩;subst h1 h2;exact ⟨h3,⟨sv',vs',us,h4⟩,h5⟩
 rcases (show op=1\/op=2\/op=3\/op=4\/op=5\/op=6\/op=7 by omega) with rfl|rfl|rfl|rfl|rfl|rfl|rfl
 ·have h0:p=0:=by have:cI 1 s=0:=rfl;omega
  refine (aO2 M G s num ⟨by omega,by omega⟩ hS _ rfl).mono fun e w' h=>wrap ?_ rfl h;unfold eH;rw [if_neg (by simp),show iN 1 s S=S.length by omega,aRo]
  rfl
 ·have h0:p=0:=by have:cI 2 s=0:=rfl;omega
  refine (aO3 M G s num hS _ rfl).mono fun e w' h=>wrap ?_ rfl h;unfold eH;rw [if_neg (by simp),show iN 2 s S=S.length by omega,aRo]
  rfl
 ·have h0:p=0:=by have:cI 3 s=0:=rfl;omega
  obtain ⟨j,rfl,hj⟩:=mV h7 (.inl rfl);obtain ⟨xs,hx,hg⟩:=h8 rfl;simp only [aRh] at hx;refine (aO5 M s j xs hx (by rw [hg.1];omega) (by rw [hg.1];omega) hS).mono fun e w' h=>wrap ?_ rfl h;unfold eH;rw [if_neg (by simp),show iN 3 s S=S.length by omega,aRo];unfold iM;rw [if_neg (by simp),if_neg (by simp),if_pos rfl,aRh,aTr,hx]
  rfl
 ·have h0:p=1:=by have:cI 4 s=1:=rfl;omega
  obtain ⟨j,rfl,hj⟩:=mV h7 (.inr rfl);have h4:=aO8 M s j (iN 4 s S) (by omega) (by omega) hS (fun r hr e=>by have:=(h6 r hr).1;rw [e] at this;simp at this;omega);unfold eH gD;rw [if_pos rfl,if_pos rfl];exact h4
 ·have h0:p=1:=by have:cI 5 s=1:=rfl;omega
  have q0:num=3:=by simp [wfI] at h7;exact h7.2
  refine (aO6 (m:=m) M s (iN 5 s S) num (by subst q0;unfold mU;omega) (by omega) hS h6 q3).mono fun e w' h=>wrap ?_ rfl h;unfold eH;rw [if_neg (by simp)];unfold iM;rw [if_neg (by simp),if_neg (by simp),if_neg (by simp),if_pos rfl];simp only [aTr,aS0,aSa]
 ·have h0:p=2:=by have:cI 6 s=2:=rfl;omega
  have q4:inB num 4 7=true:=by simp [wfI] at h7;exact h7.2
  refine (aO7 (m:=m) M s (iN 6 s S) num (aKs q4) (by omega) hS h6 q3).mono fun e w' h=>wrap ?_ rfl h;unfold eH;rw [if_neg (by simp)];unfold iM;rw [if_neg (by simp),if_neg (by simp),if_neg (by simp),if_neg (by simp),if_pos rfl];simp only [aTr,aS0,aSa]
 ·have q6:cA s=p:=by have:cI 7 s=cA s:=rfl;omega
  have q7:=nN s;refine (aO4 M G s num hS _ p (iN 7 s S) q6 (by omega) hc h6 rfl).mono fun e w' h=>wrap ?_ rfl h;unfold eH;rw [if_neg (by simp)];unfold iM;rw [if_neg (by simp),if_neg (by simp),if_neg (by simp),if_neg (by simp),if_neg (by simp)]
def wT (lo:Nat) (w:World) (v:Value) (S:List (List Int)):Prop:=∃us,w.ownsRow lo 24 1 v us.length us/\Rws lo w us S/\Apt us/\Nls us S
def Cod.out (c:Cod) (g:Grd):List (List Int):=kW g.n.toNat g.m g.f g.tm g.t c.xs [] (aRa c.ls.length [])
theorem wU {g:Grd} {r:Bool} (h:g.okB=r) (lo hi:Nat) (v:Value) (w:World) (hv:g.R lo hi w v) (hh:hi<=w.heap.size) :
  R_ 167 #[v] w (.bool r):=h▸lL lo hi v g w hv hh
theorem wV {g:Grd} {r:Bool} (h:g.okB=r) (lo hi:Nat) (v:Value) (w:World) (hv:g.R lo hi w v) (hh:hi<=w.heap.size) :
  R_ 233 #[v] w (.bool r):=h▸sP lo hi v g w hv hh
theorem Grd.parts {g:Grd} (h:g.okB=true):∃n:Nat,g.n=n/\n*n=g.m/\1<=n/\n<=8/\g.t.okB=true/\S9 g.tm/\∀i,i<g.m*5->S9 (g.f i):=by
 unfold Grd.okB at h;simp only [aQ4,decide_eq_true_eq,aRw,aRu] at h;obtain ⟨⟨⟨⟨h1,h2⟩,h3⟩,h4⟩,h5⟩:=h;have h1:=aG.1 h1;have h3:=aG.1 h3
 obtain ⟨n,hn⟩:∃n:Nat,g.n=n:=⟨g.n.toNat,by omega⟩
 rw [hn] at h1 h2
 have h6:((n*n:Nat):Int)=(g.m:Int):=by rw [h2];simp
 refine ⟨n,hn,by omega,by omega,by omega,h4,⟨by omega,by omega⟩,fun i hi=>?_⟩;have h7:=h5 (i / 5) (by omega);unfold ptB ptL at h7;simp only [aXd,List.all_nil,aYc,aQ4] at h7;obtain ⟨a0,a1,a2,a3,a4⟩:=h7
 have h0:i=i / 5*5+i % 5:=by omega
 have h9:i % 5<5:=aTf _ (by decide)
 have h8:inB (g.f i) (-1000000) 1000000=true:=by
  rcases (show i % 5=0\/i % 5=1\/i % 5=2\/i % 5=3\/i % 5=4 by omega) with e|e|e|e|e <;> rw [e] at h0 <;> rw [h0]
  ·exact a0
  ·exact a1
  ·exact a2
  ·exact a3
  ·exact a4
 have:=aG.1 h8;exact ⟨by omega,by omega⟩
theorem nB.start {c:Cod} (h:c.depth.isSome=true):nB c.ls.length m c.xs [] (aRa c.ls.length []):=by
 unfold Cod.depth at h
 split at h
 ·refine ⟨⟨0,fun _=>false,h,fun j r hj=>.inr ⟨rfl,?_⟩⟩,by simp,fun r hr=>by cases hr⟩
  exact aT8 (aRe hj)
 ·simp at h
theorem Rws.nils (lo:Nat) (w:World) (k:Nat):Rws lo w (aRa k (.slice none 0 0)) (aRa k []):=by
 refine ⟨by simp,fun i v xs h1 h2=>?_⟩;rw [aT8 (aRe h1),aT8 (aRe h2)];exact aB.nil lo w
theorem Apt.nils (k:Nat):Apt (aRa k (.slice none 0 0)):=by
 unfold Apt
 induction k with
 | zero=>simp
 | succ k ih=>
  rw [List.replicate_succ,aWh];refine ⟨fun b hb j hj=>?_,ih⟩;simp [aRm] at hj
theorem ownsRow.fresh (w:World) (lo k:Nat) (hl:lo<=w.heap.size) (hk:k<=2000000):(w.alloc (.cells (madeCells #[.slice none 0 0] k) 24)).ownsRow lo 24 1 (.slice (some ⟨w.heap.size,0,none⟩) k k) (aRa k (aR4 none 0 0)).length (aRa k (.slice none 0 0)):=by
 have h:=World.ownsRow_lit (size:=1) (e:=24) w (madeCells #[aR4 none 0 0] k) k hl (by unfold maxLen;omega) (by rw [aUl];exact size_madeCells _ _);rw [toList_madeCells_one] at h
 simpa using h
theorem aDy (lo hi lo' hi':Nat) (v u:Value) (c:Cod) (g:Grd) (w:World) (hv:c.R lo hi w v) (hh:hi<=w.heap.size) (hu:g.R lo' hi' w u) (hh':hi'<=w.heap.size) (hL:c.ls.length<=2000000) (hno:(c.runB&&g.okB)=false) :
  R_ 168 #[v,u] w (.tuple #[.slice none 0 0,.bool false]):=by
 have HV:=hid hv;have HU:=hid hu;obtain ⟨a1,c1,a2,c2,rfl,-,-⟩:=hv.form;obtain ⟨pu,tu,rfl,-,-,-,-,-⟩:=hu;clear hv
 cases h1:c.runB
 ·go_enter func168,ntmps168
  go_wp2_with (go_at_call 222;refine r_ (kQ h1 lo hi _ _ (HV.ext hh X_) (by simp;omega) hL) fun w1 x1=>?_);refine bodyPost_ret (v:=.tuple #[.slice none 0 0,.bool false]) (by simp [results,results168,go_sem]) rfl ⟨rfl,aQu X_ x1⟩
 ·have h2:g.okB=false:=by rw [h1] at hno;simpa using hno
  have h0:=hid (show ∀w1,Ext ((w.alloc (.cells #[.slice a1 c.xs.length c1,.slice a2 c.ls.length c2] 163)).alloc (.cells #[g.n,pu,g.tm,g.t.log,tu] 168)) w1->w.heap.size+1<w1.heap.size/\w1.cell? ⟨w.heap.size+1,0,none⟩=some (.int .i64 g.n)/\w1.cell? ⟨w.heap.size+1,1,none⟩=some pu/\w1.cell? ⟨w.heap.size+1,2,none⟩=some (.int .i64 g.tm)/\w1.cell? ⟨w.heap.size+1,3,none⟩=some (.int .i64 g.t.log)/\w1.cell? ⟨w.heap.size+1,4,none⟩=some tu from by
   intro w1 x1;have:=x1.size
   refine ⟨by simp at this;omega,?_,?_,?_,?_,?_⟩ <;> (rw [x1.cells.1 _ _ (by simp)];simp [go_sem]))
  go_enter func168,ntmps168;go_wp2_with (go_at_call 222;refine r_ (kQ h1 lo hi _ _ (HV.ext hh X_) (by simp;omega) hL) fun w1 x1=>?_;obtain ⟨d,d0,d1,d2,d3,d4⟩:=h0.out w1 x1;have X1:Ext w w1:=aQu X_ x1;clear x1);refine r_ (wU h2 lo' hi' _ _ (HU.ext hh' X1) (by have:=X1.size;omega)) fun w2 x2=>?_;go_wp2;refine bodyPost_ret (v:=.tuple #[.slice none 0 0,.bool false]) (by simp [results,results168,go_sem]) rfl ⟨rfl,X1.trans x2⟩
theorem aB1 (lo hi lo' hi':Nat) (v u:Value) (c:Cod) (g:Grd) (w:World) (hv:c.R lo hi w v) (hh:hi<=w.heap.size) (hu:g.R lo' hi' w u) (hh':hi'<=w.heap.size) (hL:c.ls.length<=2000000) (hyes:(c.runB&&g.okB)=true) :
  Calls aQt 168 #[v,u] w fun e w'=>∃r,e = .returned (.tuple #[r,.bool true])/\wT w.heap.size w' r (c.out g)/\Ext w w':=by
 have HV:=hid hv;have HU:=hid hu;obtain ⟨a1,c1,a2,c2,rfl,HI,-⟩:=hv.form;obtain ⟨pu,tu,rfl,-,z2,x6,hp,ht⟩:=hu;clear hv;simp only [aQ4] at hyes;obtain ⟨h1,h2⟩:=hyes;obtain ⟨n,hn,q8,n1,n8,q9,h9,q6⟩:=Grd.parts h2
 have h3:c.depth.isSome=true:=by unfold Cod.runB at h1;simp at h1;exact h1.1
 have h5:∀x∈c.xs,gX x=true:=by unfold Cod.runB at h1;simp at h1;exact h1.2
 have x9:c.xs.length<=300:=by
  unfold Cod.depth at h3
  split at h3
  ·assumption
  ·simp at h3
 have h8:kW n g.m g.f g.tm g.t c.xs [] (aRa c.ls.length [])=c.out g:=by unfold Cod.out;rw [hn];rfl
 have HG:=hid (show iC w.heap.size w n g.m pu tu g.f g.tm g.t from ⟨hp.wide (aR8 _) hh',⟨tu,rfl,x6,ht.wide (aR8 _) hh'⟩,q8,n1,n8,q9,h9,q6⟩);have HD:=hid h3;have HN:=hid h5;have q0:=hid h8;clear hp ht z2 x6 q8 q9 h9 q6 h3 h5 h8;rw [hn];replace hn:=hid hn;obtain ⟨i0,q7,x3,x4,x5⟩:=info_parts oU
 have q2:=hid (show ∀w1,Ext ((w.alloc (.cells #[.slice a1 c.xs.length c1,.slice a2 c.ls.length c2] 163)).alloc (.cells #[n,pu,g.tm,g.t.log,tu] 168)) w1->w.heap.size+1<w1.heap.size/\w1.cell? ⟨w.heap.size+1,0,none⟩=some (.int .i64 n)/\w1.cell? ⟨w.heap.size+1,1,none⟩=some pu/\w1.cell? ⟨w.heap.size+1,2,none⟩=some (.int .i64 g.tm)/\w1.cell? ⟨w.heap.size+1,3,none⟩=some (.int .i64 g.t.log)/\w1.cell? ⟨w.heap.size+1,4,none⟩=some tu/\w.heap.size<w1.heap.size/\w1.cell? ⟨w.heap.size,0,none⟩=some (.slice a1 c.xs.length c1)/\w1.cell? ⟨w.heap.size,1,none⟩=some (.slice a2 c.ls.length c2) from by
  intro w1 x1;have:=x1.size;simp at this
  refine ⟨by omega,?_,?_,?_,?_,?_,by omega,?_,?_⟩ <;> (rw [x1.cells.1 _ _ (by simp <;> omega)];simp [go_sem]))
 go_enter func168,ntmps168;go_wp2_with (go_at_call 222;refine r_ (kQ h1 lo hi _ _ (HV.ext hh X_) (by simp;omega) hL) fun w1 x1=>?_;obtain ⟨d,d0,d1,d2,d3,d4,-⟩:=q2.out w1 x1);refine r_ (wU h2 lo' hi' _ _ (by have:=HU.ext hh' (aQu X_ x1:Ext w w1);rw [hn.out] at this;exact this) (by have:=x1.size;simp at this;omega)) fun w2 x2=>?_;clear d d0 d1 d2 d3 d4;obtain ⟨d,d0,d1,d2,d3,d4,e,e0,e1⟩:=q2.out w2 (x1.trans x2);have X2:Ext w w2:=(aQu X_ x1:Ext w w1).trans x2;clear x1 x2 q2;have z3:=hid X2;go_wp2_with fail;refine aA [([0,1,2,3],4),([5],6),([],7)] 7 w2.heap.size (by kernel_rfl) (by kernel_rfl) ?_;refine st_ fun K hK=>?_;go_wp2_with (at_make;refine wpList_make_row _ rfl _ _ 76 rfl 24 i0 (.slice none 0 0) underlying76 q7 x3 x4 rfl .i64 .i64 c.ls.length rfl rfl (by rw [x5];omega) (by omega) ?_);go_wp2_with fail;refine k_ hK ?_;clear hK K;clear q7 x3 x4 x5;refine st_ fun K hK=>?_;go_wp2_with fail;go_wp2_with fail;refine k_ hK ?_;clear hK K;refine st_ fun K hK=>?_;go_wp2_with fail;go_wp2_with fail;refine l_ hK ?_;clear hK K;refine aC ?_
 have M0:fC w.heap.size (w2.heap.size+1) ((w2.drew.alloc (.cells (madeCells #[.slice none 0 0] c.ls.length) 24)).alloc (.cells #[n,pu,g.tm,g.t.log,tu,.slice none 0 0,.slice (some ⟨w2.heap.size,0,none⟩) c.ls.length c.ls.length] 276)) (w2.heap.size+1) n pu tu g.tm g.t.log (.slice none 0 0) (.slice (some ⟨w2.heap.size,0,none⟩) c.ls.length c.ls.length) [] (aRa c.ls.length (.slice none 0 0)) [] (aRa c.ls.length []):=by
  have hz:=X2.size;have hf:=ownsRow.fresh w2.drew w.heap.size c.ls.length hz hL;refine ⟨?_,by omega,aUg _ _ _ _,hf.alloc _,fun k hk=>by simp [aRm] at hk;omega,by omega,by simp,rfl,Rws.nils _ _ _,Apt.nils _,Nls.nils _⟩;have:=aJy (w2.drew.alloc (.cells (madeCells #[.slice none 0 0] c.ls.length) 24)) (.cells #[n,pu,g.tm,g.t.log,tu,.slice none 0 0,.slice (some ⟨w2.heap.size,0,none⟩) c.ls.length c.ls.length] 276)
  simpa using this
 have X3:Ext w ((w2.drew.alloc (.cells (madeCells #[.slice none 0 0] c.ls.length) 24)).alloc (.cells #[n,pu,g.tm,g.t.log,tu,.slice none 0 0,.slice (some ⟨w2.heap.size,0,none⟩) c.ls.length c.ls.length] 276)):=(X2.drew.alloc _).alloc _;have q1:Ext w2 ((w2.drew.alloc (.cells (madeCells #[.slice none 0 0] c.ls.length) 24)).alloc (.cells #[n,pu,g.tm,g.t.log,tu,.slice none 0 0,.slice (some ⟨w2.heap.size,0,none⟩) c.ls.length c.ls.length] 276)):=X_;have f0:=(q1.cells.1 _ 0 e).trans e0
 have f1:w.heap.size<((w2.drew.alloc (.cells (madeCells #[.slice none 0 0] c.ls.length) 24)).alloc (.cells #[n,pu,g.tm,g.t.log,tu,.slice none 0 0,.slice (some ⟨w2.heap.size,0,none⟩) c.ls.length c.ls.length] 276)).heap.size:=by have:=q1.size;omega
 go_wp2_with fail;have q5:=hid M0;have q4:=hid X3;clear M0 X3 q1 f0 f1;clear d d0 d1 d2 d3 d4 e e0 e1 X2;have k1:=HI.le;have k2:=HI.cap
 go_loopw [27] (fun i wr=>∃(k:Nat) (sv:Value) (vs us:List Value) (S L:List (List Int)),k<=c.xs.length/\i = .int .i64 k/\fC w.heap.size (w2.heap.size+1) wr (w2.heap.size+1) n pu tu g.tm g.t.log sv (.slice (some ⟨w2.heap.size,0,none⟩) c.ls.length c.ls.length) vs us S L/\nB c.ls.length g.m (c.xs.drop k) S L/\kW n g.m g.f g.tm g.t (c.xs.drop k) S L=c.out g/\S.length<=k/\Ext w wr) (fun i _=>c.xs.length - (intOf i).toNat)
 case atStart=>exact ⟨0,_,_,_,_,_,by omega,rfl,q5,by rw [aWq];exact nB.start HD,by rw [aWq];exact q0,by simp,q4⟩
 case round=>
  clear q5 q4;obtain ⟨k,sv,vs,us,S,L,hk,rfl,M,ok,h0,z4,hx⟩:=hrel
  by_cases z0:k<c.xs.length
  ·obtain ⟨b,y1,op,s,num,rfl,z5,z6,h4,h7,io,z9,x0,x1,x2⟩:=HI.at z0 hx hh
   rw [h4] at ok h0;have q3:gX ⟨op,s,num⟩=true:=HN _ (aRe h7);have y0:Ext wr (wr.alloc (.cells #[op,.string s,num] 221)):=X_;have HC:=hid (aDx (M.ext y0) (HG.step (hx.trans y0)) ok q3 (by omega));have HK:=hid (ok.next (t:=g.t) HG.hm q3 HG.f9 HG.tm9);have z1:=ok.pops;have HR:=hid h0;have HX:=hid (hx.trans y0);clear M ok h0 h7 h4 hx y0 q3;go_wp2_with fail;refine HC.mono ?_;rintro e w7 ⟨rfl,⟨sv',vs',us',M'⟩,st⟩;have x7:=hid M';have x8:=hid st;clear M' st;go_wp2;go_roundw
   case rel=>
    refine ⟨k+1,sv',vs',us',_,_,by omega,by go_num,x7,HK,HR,?_,aVr HX x8.below⟩;obtain ⟨p,z7,z8⟩:=z1;unfold eH
    split
    ·rw [aRf];omega
    ·rw [aRg,aRf,aUs];omega
   case measure=>simp [intOf];omega
  ·obtain rfl:k=c.xs.length:=by omega
   rw [aVx] at h0;have c6:=aR M.box 6;simp at c6;have hb:=M.lt;have h6:L=c.out g:=h0;have HM:=hid M;have HR:=hid h6;clear M ok h0 h6;go_wp2;refine bodyPost_ret (v:=.tuple #[.slice (some ⟨w2.heap.size,0,none⟩) c.ls.length c.ls.length,.bool true]) (by simp [results,results168,go_sem]) rfl ⟨_,rfl,?_,hx⟩;rw [<-HR];have M:=HM.out;exact ⟨us,M.lo',Rws.right M.sl M.rows,(aXi.1 M.apt).2.1,M.nls⟩
theorem aHm (hi:i<n):(j*n+i) % n=i/\(j*n+i) / n=j:=by
 constructor
 ·rw [aUy,Nat.mul_add_mod];exact Nat.mod_eq_of_lt hi
 ·rw [aUy,Nat.mul_add_div (by omega),Nat.div_eq_of_lt hi,aSa]
theorem aO9 (hi:i<n) (hn:n≠1):rC xs n false (j*n+i)=if i+1<n then dU (xs.getD (j*n+(i+1)) 0 - xs.getD (j*n+i) 0) else dU (xs.getD (j*n+i) 0 - xs.getD (j*n+(i - 1)) 0):=by
 obtain ⟨h1,h2⟩:=aHm (j:=j) hi;unfold rC dAt nJ;rw [if_neg hn];simp only [aTi,if_false,h1]
 by_cases h:i+1<n
 ·rw [if_pos (by omega),if_pos h,Nat.add_assoc]
 ·rw [if_neg (by omega),if_neg h,Nat.add_sub_assoc (by omega)]
theorem aPa (hi:i<n) (hn:n≠1):rC xs n true (j*n+i)=if j+1<n then dU (xs.getD (j*n+n+i) 0 - xs.getD (j*n+i) 0) else dU (xs.getD (j*n+i) 0 - xs.getD (j*n - n+i) 0):=by
 obtain ⟨h1,h2⟩:=aHm (j:=j) hi;unfold rC dAt nJ;rw [if_neg hn];simp only [if_true,h2]
 by_cases h:j+1<n
 ·rw [if_pos (by omega),if_pos h,show j*n+i+n=j*n+n+i by omega]
 ·rw [if_neg (by omega),if_neg h]
  have hj:1<=j\/j=0:=by omega
  rcases hj with hj|hj
  ·have:1*n<=j*n:=aSh _ hj
   rw [show j*n+i - n=j*n - n+i by omega]
  ·subst hj
   exact absurd (by omega) hn
theorem aB.take_snoc {D:List Int} {x:Int} (h:aB lo w v (D.take k++[x])) (hk:k<D.length) (hx:D[k]=x):aB lo w v (D.take (k+1)):=by
 rw [aRk hk,hx];exact h
theorem aAk (lo hi:Nat) (u:Value) (xs:List Int) (n:Nat) (rows:Bool) (w:World) (hu:aU lo hi w u xs) (hh:hi<=w.heap.size) (hl:xs.length=n*n) (h1:1<=n) (h8:n<=8) (hx9:∀x∈xs,S9 x) :
  Calls aQt 263 #[u,n,.bool rows] w fun e w'=>∃r,e = .returned r/\aB w.heap.size w' r (iL xs n rows)/\Ext w w':=by
 have y9:=hid hu;obtain ⟨a,cap,rfl,HU⟩:=hu.open;have l1:=HU.le;have l2:=HU.cap;have y5:n*n<=8*8:=aRq h8 h8;have x9:=gQ xs n rows;have z5:=nK xs n rows
 obtain ⟨D,hD⟩:∃D,iL xs n rows=D:=⟨_,rfl⟩
 rw [hD] at x9
 have x2:∀k (h:k<D.length),D[k]=rC xs n rows k:=by subst hD;exact z5
 rw [hD];have HL:=hid hl;have H9:=hid hx9;have HD:=hid x2;have z3:=hid x9;clear hu hx9 z5 x2 hD x9 hl
 obtain ⟨m,hm⟩:∃m,n*n=m:=⟨_,rfl⟩
 have HM:=hid hm;have z2:xs.length=m:=HL.trans hm;rw [hm] at y5;clear hm;rw [z2] at l1 ⊢;have q1:=hid z2;clear z2;go_enter func263,ntmps263;go_wp2_with fail
 have z4:aU lo hi w (.slice a m cap) xs:=by rw [<-q1];exact HU.shut
 have x0:Ext w (w.alloc (.cells #[] 3)):=X_;refine z_ (aIa lo hi _ xs n _ (z4.ext hh x0) h1 h8 HL) ?_;have hO:=hid (aB.lit0 w);have z0:=hid x0;clear z4 x0;go_wp2
 go_loopw [23] (fun i wr=>∃k:Nat,k<=m/\i = .int .i64 k/\wr=w.alloc (.cells #[] 3)) (fun i _=>m - (intOf i).toNat)
 case atStart=>exact ⟨0,by omega,rfl,rfl⟩
 case round=>
  obtain ⟨k,hk,rfl,rfl⟩:=hrel
  by_cases y4:k<m
  ·have z6:k<xs.length:=by rw [q1];exact y4
   obtain ⟨b,x5,rfl,x6,x7,hc⟩:=HU.at z6;have h4:=(z0.out.cells.1 b (x5+k) (by omega)).trans hc;have h9:=H9.out _ (aQ8 z6)
   obtain ⟨x,hx⟩:∃x,xs[k]=x:=⟨_,rfl⟩
   rw [hx] at h4 h9;have q8:=hid (aG.2 h9:inB x (-1000000000) 1000000000=true)
   have x8:b<(w.alloc (.cells #[] 3)).heap.size:=by have:=z0.out.size;omega
   clear hc hx h9;go_wp2_with fail;refine z_ (aE q8.out _) ?_;go_wp2;go_roundw
   case rel=>exact ⟨k+1,by omega,by go_num,by trivial⟩
   case measure=>simp [intOf];omega
  ·go_wp2
   go_loopw [7,10] (fun v jv wr=>∃j:Nat,j<=n/\jv = .int .i64 j/\aB w.heap.size wr v (D.take (j*n))/\Ext w wr) (fun _ jv _=>n - (intOf jv).toNat)
   case atStart=>exact ⟨0,by omega,rfl,by simpa using hO.out,z0.out⟩
   case round=>
    obtain ⟨j,hj,rfl,h2,hx⟩:=hrel
    by_cases y3:j<n
    ·have z7:=aSh n (show j+1<=n from y3)
     have y6:j+1<n->j*n+n+n<=m:=fun h=>by
      have:=aSh n (show j+2<=n from h);rw [aS4,HM] at this;omega
     have z9:1<=j->n<=j*n:=fun h=>by have:=aSh n h;omega
     rw [aS4,aS5,HM] at z7
     obtain ⟨p,hp⟩:∃p,j*n=p:=⟨_,rfl⟩
     have z8:(j:Int)*n=p:=by rw [<-hp];simp
     have y7:((j:Int)+1)*n=p+n:=by rw [Int.add_mul,z8,aZb]
     have x4:((j:Int) - 1)*n=p - n:=by rw [Int.sub_mul,z8,aZb]
     rw [hp] at z7 h2 z9 y6;have HP:=hid hp;have HO:=hid h2;have HX:=hid hx;clear hp h2 hx;go_wp2
     go_loopw [7,11] (fun v iv wq=>∃i:Nat,i<=n/\iv = .int .i64 i/\aB w.heap.size wq v (D.take (p+i))/\Ext w wq) (fun _ iv _=>n - (intOf iv).toNat)
     case atStart=>exact ⟨0,by omega,rfl,HO,HX⟩
     case round=>
      clear HO HX;obtain ⟨i,hi,rfl,h2,hx⟩:=hrel;obtain ⟨av,cv,rfl,_⟩:=h2.form;have a0:=hx.size;have q3:=z3.out;rw [HM] at q3;replace q3:=hid q3
      by_cases q8:i<n
      ·have q6:(D.take (p+i)).length=p+i:=by rw [aRf,q3.out];omega
       rw [q6] at h2 ⊢;have x1:=hid q6;clear q6
       have x3:p+i<D.length:=by rw [q3.out];omega
       have q2:=hid x3;clear x3
       by_cases q9:n=1
       ·have e1:((n:Int)==1)=true:=by simp [q9]
        have hv:=hid (show D[p+i]'q2.out=0 by rw [HD];unfold rC;rw [if_pos q9]);have HN:=hid q9;have HO:=hid h2;have HX:=hid hx;clear q9 h2 hx;go_wp2_with (at_builtin;refine aV _ rfl _ _ rfl w.heap.size _ _ rfl (HO.alloc _) 0 ⟨by omega,by omega⟩ wr.heap.size rfl (by simp [go_sem]) (by rw [x1];omega) (by simp;omega) ?_;intro v' w7 h2 hg);have h0:=h2.take_snoc q2 hv.out;go_wp2;go_roundw
        case rel=>exact ⟨i+1,by omega,by go_num,h0,aRz (HX.alloc _) hg (fun g e=>(HO.lt g e).1)⟩
        case measure=>simp [intOf];omega
       ·have e1:((n:Int)==1)=false:=by simp;omega
        have HN:=hid q9;clear q9
        cases rows
        ·by_cases hs:i+1<n
         ·have k1:(p+(i+1))<xs.length:=by rw [q1];omega
          have k2:(p+i)<xs.length:=by rw [q1];omega
          obtain ⟨b,x5,rfl,x6,x7,h5⟩:=HU.at k1;obtain ⟨b',q7,e',q4,q5,h4⟩:=HU.at k2;simp only [aQr,aRv,and_true] at e';obtain ⟨rfl,rfl⟩:=e';have g1:=H9.out _ (aQ8 k1);have g2:=H9.out _ (aQ8 k2);have c1:=(hx.cells.1 b _ (by omega)).trans h5;have c2:=(hx.cells.1 b _ (by omega)).trans h4
          have x8:b<w.heap.size:=by omega
          have hv:D[p+i]'q2.out=dU (xs[(p+(i+1))] - xs[(p+i)]):=by
           rw [HD];have:=aO9 (xs:=xs) (j:=j) q8 HN;rw [HP] at this;rw [this,if_pos hs,cQ _ _ k1,cQ _ _ k2]
          obtain ⟨y1,h6⟩:∃y,xs[(p+(i+1))]=y:=⟨_,rfl⟩
          obtain ⟨y2,h7⟩:∃y,xs[(p+i)]=y:=⟨_,rfl⟩
          rw [h6] at c1 g1 hv;rw [h7] at c2 g2 hv
          obtain ⟨z,hz⟩:∃z,dU (y1 - y2)=z:=⟨_,rfl⟩
          have q0:=hid (fD (y1 - y2)).i64;rw [hz] at hv q0;have HZ:=hid hz;have HV:=hid hv;have HO:=hid h2;have HX:=hid hx;obtain ⟨g3,g4⟩:=g1;obtain ⟨g5,g6⟩:=g2
          have z1:b<wr.heap.size:=by omega
          clear hv hz h6 h7 h5 h4 k1 k2 h2 hx;go_wp2_with fail;refine z_ (jT n i _ (by omega) (by omega)) ?_;rw [if_pos hs,if_pos hs];go_wp2_with fail;refine aA [([0,1,2,3,4,5,6,7,8,9,10,11,12,13,14,15,16,17],18),([],19),([],20),([],21)] 99 w.heap.size (by kernel_rfl) (by kernel_rfl) ?_;refine st_ fun K hK=>?_;go_wp2_with fail;refine z_ (eB HZ _) ?_;go_wp2_with fail;refine k_ hK ?_;clear hK K;refine st_ fun K hK=>?_;go_wp2_with fail;go_wp2_with fail;refine k_ hK ?_;clear hK K;refine aI ?_;simp only [aQ7]
          show wpQuiet _ _ _ _ [] _
          try simp only [Act.put,aQv,aQ3,aQ2]
          repeat (go_big_quiet_step (fail))
          refine wpQuiet_nil ⟨_,rfl,fun K hK=>?_⟩;refine aV _ rfl _ _ rfl w.heap.size _ _ rfl (HO.ext X_) z q0.out wr.heap.size rfl (by simp [go_sem]) (by rw [x1];omega) (by simp;omega) ?_;intro v' w7 h2 hg;have X7:Ext w w7:=aRz (aQu HX X_) hg (fun g e=>(HO.lt g e).1);have h0:=h2.take_snoc q2 HV
          have h3:(D.take (p+i+1)).length=p+i+1:=by rw [aRf,q3.out];omega
          clear h2;obtain ⟨va,vc,rfl,_⟩:=h0.form;rw [h3] at h0 ⊢;replace h0:=hid h0;clear h3;go_wp2_with fail;refine hK _ _ (.inr (fun k _ hk=>(X7.block hk).trans (HX.block hk).symm)) ?_;clear hK K;refine st_ fun K hK=>?_;go_wp2_with fail;go_wp2_with fail;refine hK _ _ (.inr (fun k _ hk=>(X7.block hk).trans (HX.block hk).symm)) ?_;clear hK K;refine aC ?_;go_wp2;go_roundw
          case rel=>exact ⟨i+1,by omega,by go_num,h0.out,X7⟩
          case measure=>simp [intOf];omega
         ·obtain ⟨i',rfl⟩:∃i',i=i'+1:=⟨i - 1,by have:=HN.out;omega⟩
          have y0:((i':Int)+1) - 1=i':=by omega
          have k1:(p+(i'+1))<xs.length:=by rw [q1];omega
          have k2:(p+i')<xs.length:=by rw [q1];omega
          obtain ⟨b,x5,rfl,x6,x7,h5⟩:=HU.at k1;obtain ⟨b',q7,e',q4,q5,h4⟩:=HU.at k2;simp only [aQr,aRv,and_true] at e';obtain ⟨rfl,rfl⟩:=e';have g1:=H9.out _ (aQ8 k1);have g2:=H9.out _ (aQ8 k2);have c1:=(hx.cells.1 b _ (by omega)).trans h5;have c2:=(hx.cells.1 b _ (by omega)).trans h4
          have x8:b<w.heap.size:=by omega
          have hv:D[p+(i'+1)]'q2.out=dU (xs[(p+(i'+1))] - xs[(p+i')]):=by
           rw [HD];have:=aO9 (xs:=xs) (j:=j) q8 HN;rw [HP] at this;rw [this,if_neg hs,show i'+1 - 1=i' from rfl,cQ _ _ k1,cQ _ _ k2]
          obtain ⟨y1,h6⟩:∃y,xs[(p+(i'+1))]=y:=⟨_,rfl⟩
          obtain ⟨y2,h7⟩:∃y,xs[(p+i')]=y:=⟨_,rfl⟩
          rw [h6] at c1 g1 hv;rw [h7] at c2 g2 hv
          obtain ⟨z,hz⟩:∃z,dU (y1 - y2)=z:=⟨_,rfl⟩
          have q0:=hid (fD (y1 - y2)).i64;rw [hz] at hv q0;have HZ:=hid hz;have HV:=hid hv;have HO:=hid h2;have HX:=hid hx;obtain ⟨g3,g4⟩:=g1;obtain ⟨g5,g6⟩:=g2
          have z1:b<wr.heap.size:=by omega
          clear hv hz h6 h7 h5 h4 k1 k2 h2 hx;go_wp2_with fail;refine z_ (jT n (i'+1) _ (by omega) (by omega)) ?_;rw [if_neg hs,if_neg hs];go_wp2_with fail;refine aA [([0,1,2,3,4,5,6,7,8,9,10,11,12,13,14,15,16,17],18),([],19),([],20),([],21)] 99 w.heap.size (by kernel_rfl) (by kernel_rfl) ?_;refine st_ fun K hK=>?_;go_wp2_with fail;refine z_ (eB HZ _) ?_;go_wp2_with fail;refine k_ hK ?_;clear hK K;refine st_ fun K hK=>?_;go_wp2_with fail;go_wp2_with fail;refine k_ hK ?_;clear hK K;refine aI ?_;simp only [aQ7]
          show wpQuiet _ _ _ _ [] _
          try simp only [Act.put,aQv,aQ3,aQ2]
          repeat (go_big_quiet_step (fail))
          refine wpQuiet_nil ⟨_,rfl,fun K hK=>?_⟩;refine aV _ rfl _ _ rfl w.heap.size _ _ rfl (HO.ext X_) z q0.out wr.heap.size rfl (by simp [go_sem]) (by rw [x1];omega) (by simp;omega) ?_;intro v' w7 h2 hg;have X7:Ext w w7:=aRz (aQu HX X_) hg (fun g e=>(HO.lt g e).1);have h0:=h2.take_snoc q2 HV
          have h3:(D.take (p+(i'+1)+1)).length=p+(i'+1)+1:=by rw [aRf,q3.out];omega
          clear h2;obtain ⟨va,vc,rfl,_⟩:=h0.form;rw [h3] at h0 ⊢;replace h0:=hid h0;clear h3;go_wp2_with fail;refine hK _ _ (.inr (fun k _ hk=>(X7.block hk).trans (HX.block hk).symm)) ?_;clear hK K;refine st_ fun K hK=>?_;go_wp2_with fail;go_wp2_with fail;refine hK _ _ (.inr (fun k _ hk=>(X7.block hk).trans (HX.block hk).symm)) ?_;clear hK K;refine aC ?_;go_wp2;go_roundw
          case rel=>exact ⟨i'+1+1,by omega,by go_num,h0.out,X7⟩
          case measure=>simp [intOf];omega
        ·by_cases hs:j+1<n
         ·have k1:(p+n+i)<xs.length:=by rw [q1];omega
          have k2:(p+i)<xs.length:=by rw [q1];omega
          obtain ⟨b,x5,rfl,x6,x7,h5⟩:=HU.at k1;obtain ⟨b',q7,e',q4,q5,h4⟩:=HU.at k2;simp only [aQr,aRv,and_true] at e';obtain ⟨rfl,rfl⟩:=e';have g1:=H9.out _ (aQ8 k1);have g2:=H9.out _ (aQ8 k2);have c1:=(hx.cells.1 b _ (by omega)).trans h5;have c2:=(hx.cells.1 b _ (by omega)).trans h4
          have x8:b<w.heap.size:=by omega
          have hv:D[p+i]'q2.out=dU (xs[(p+n+i)] - xs[(p+i)]):=by
           rw [HD];have:=aPa (xs:=xs) (j:=j) q8 HN;rw [HP] at this;rw [this,if_pos hs,cQ _ _ k1,cQ _ _ k2]
          obtain ⟨y1,h6⟩:∃y,xs[(p+n+i)]=y:=⟨_,rfl⟩
          obtain ⟨y2,h7⟩:∃y,xs[(p+i)]=y:=⟨_,rfl⟩
          rw [h6] at c1 g1 hv;rw [h7] at c2 g2 hv
          obtain ⟨z,hz⟩:∃z,dU (y1 - y2)=z:=⟨_,rfl⟩
          have q0:=hid (fD (y1 - y2)).i64;rw [hz] at hv q0;have HZ:=hid hz;have HV:=hid hv;have HO:=hid h2;have HX:=hid hx;obtain ⟨g3,g4⟩:=g1;obtain ⟨g5,g6⟩:=g2
          have z1:b<wr.heap.size:=by omega
          clear hv hz h6 h7 h5 h4 k1 k2 h2 hx;go_wp2_with fail;refine z_ (jT n j _ (by omega) (by omega)) ?_;rw [if_pos hs,if_pos hs];go_wp2_with fail;refine aA [([0,1,2,3,4,5,6,7,8,9,10,11,12,13,14,15,16,17],18),([],19),([],20),([],21)] 99 w.heap.size (by kernel_rfl) (by kernel_rfl) ?_;refine st_ fun K hK=>?_;go_wp2_with fail;refine z_ (eB HZ _) ?_;go_wp2_with fail;refine k_ hK ?_;clear hK K;refine st_ fun K hK=>?_;go_wp2_with fail;go_wp2_with fail;refine k_ hK ?_;clear hK K;refine aI ?_;simp only [aQ7]
          show wpQuiet _ _ _ _ [] _
          try simp only [Act.put,aQv,aQ3,aQ2]
          repeat (go_big_quiet_step (fail))
          refine wpQuiet_nil ⟨_,rfl,fun K hK=>?_⟩;refine aV _ rfl _ _ rfl w.heap.size _ _ rfl (HO.ext X_) z q0.out wr.heap.size rfl (by simp [go_sem]) (by rw [x1];omega) (by simp;omega) ?_;intro v' w7 h2 hg;have X7:Ext w w7:=aRz (aQu HX X_) hg (fun g e=>(HO.lt g e).1);have h0:=h2.take_snoc q2 HV
          have h3:(D.take (p+i+1)).length=p+i+1:=by rw [aRf,q3.out];omega
          clear h2;obtain ⟨va,vc,rfl,_⟩:=h0.form;rw [h3] at h0 ⊢;replace h0:=hid h0;clear h3;go_wp2_with fail;refine hK _ _ (.inr (fun k _ hk=>(X7.block hk).trans (HX.block hk).symm)) ?_;clear hK K;refine st_ fun K hK=>?_;go_wp2_with fail;go_wp2_with fail;refine hK _ _ (.inr (fun k _ hk=>(X7.block hk).trans (HX.block hk).symm)) ?_;clear hK K;refine aC ?_;go_wp2;go_roundw
          case rel=>exact ⟨i+1,by omega,by go_num,h0.out,X7⟩
          case measure=>simp [intOf];omega
         ·obtain ⟨p',rfl⟩:∃p',p=p'+n:=⟨p - n,by have:=HN.out;have:=z9 (by omega);omega⟩
          have y8:((j:Int) - 1)*n=p':=by rw [x4];omega
          clear x4
          have k1:(p'+n+i)<xs.length:=by rw [q1];omega
          have k2:(p'+i)<xs.length:=by rw [q1];omega
          obtain ⟨b,x5,rfl,x6,x7,h5⟩:=HU.at k1;obtain ⟨b',q7,e',q4,q5,h4⟩:=HU.at k2;simp only [aQr,aRv,and_true] at e';obtain ⟨rfl,rfl⟩:=e';have g1:=H9.out _ (aQ8 k1);have g2:=H9.out _ (aQ8 k2);have c1:=(hx.cells.1 b _ (by omega)).trans h5;have c2:=(hx.cells.1 b _ (by omega)).trans h4
          have x8:b<w.heap.size:=by omega
          have hv:D[p'+n+i]'q2.out=dU (xs[(p'+n+i)] - xs[(p'+i)]):=by
           rw [HD];have:=aPa (xs:=xs) (j:=j) q8 HN;rw [HP] at this;rw [this,if_neg hs,show p'+n - n+i=p'+i by omega,cQ _ _ k1,cQ _ _ k2]
          obtain ⟨y1,h6⟩:∃y,xs[(p'+n+i)]=y:=⟨_,rfl⟩
          obtain ⟨y2,h7⟩:∃y,xs[(p'+i)]=y:=⟨_,rfl⟩
          rw [h6] at c1 g1 hv;rw [h7] at c2 g2 hv
          obtain ⟨z,hz⟩:∃z,dU (y1 - y2)=z:=⟨_,rfl⟩
          have q0:=hid (fD (y1 - y2)).i64;rw [hz] at hv q0;have HZ:=hid hz;have HV:=hid hv;have HO:=hid h2;have HX:=hid hx;obtain ⟨g3,g4⟩:=g1;obtain ⟨g5,g6⟩:=g2
          have z1:b<wr.heap.size:=by omega
          clear hv hz h6 h7 h5 h4 k1 k2 h2 hx;go_wp2_with fail;refine z_ (jT n j _ (by omega) (by omega)) ?_;rw [if_neg hs,if_neg hs];go_wp2_with fail;refine aA [([0,1,2,3,4,5,6,7,8,9,10,11,12,13,14,15,16,17],18),([],19),([],20),([],21)] 99 w.heap.size (by kernel_rfl) (by kernel_rfl) ?_;refine st_ fun K hK=>?_;go_wp2_with fail;refine z_ (eB HZ _) ?_;go_wp2_with fail;refine k_ hK ?_;clear hK K;refine st_ fun K hK=>?_;go_wp2_with fail;go_wp2_with fail;refine k_ hK ?_;clear hK K;refine aI ?_;simp only [aQ7]
          show wpQuiet _ _ _ _ [] _
          try simp only [Act.put,aQv,aQ3,aQ2]
          repeat (go_big_quiet_step (fail))
          refine wpQuiet_nil ⟨_,rfl,fun K hK=>?_⟩;refine aV _ rfl _ _ rfl w.heap.size _ _ rfl (HO.ext X_) z q0.out wr.heap.size rfl (by simp [go_sem]) (by rw [x1];omega) (by simp;omega) ?_;intro v' w7 h2 hg;have X7:Ext w w7:=aRz (aQu HX X_) hg (fun g e=>(HO.lt g e).1);have h0:=h2.take_snoc q2 HV
          have h3:(D.take (p'+n+i+1)).length=p'+n+i+1:=by rw [aRf,q3.out];omega
          clear h2;obtain ⟨va,vc,rfl,_⟩:=h0.form;rw [h3] at h0 ⊢;replace h0:=hid h0;clear h3;go_wp2_with fail;refine hK _ _ (.inr (fun k _ hk=>(X7.block hk).trans (HX.block hk).symm)) ?_;clear hK K;refine st_ fun K hK=>?_;go_wp2_with fail;go_wp2_with fail;refine hK _ _ (.inr (fun k _ hk=>(X7.block hk).trans (HX.block hk).symm)) ?_;clear hK K;refine aC ?_;go_wp2;go_roundw
          case rel=>exact ⟨i+1,by omega,by go_num,h0.out,X7⟩
          case measure=>simp [intOf];omega
      ·obtain rfl:i=n:=by omega
       go_wp2;go_roundw
       case rel=>exact ⟨j+1,by omega,by go_num,by rw [aS4,aS5,HP];exact h2,hx⟩
       case measure=>simp [intOf];omega
    ·obtain rfl:j=n:=by omega
     rw [aRt (by rw [z3];exact aQo _)] at h2;go_wp2;go_ret;exact ⟨_,rfl,h2,hx⟩
structure tF (w:World) (B:Nat) (n:Int) (pu:Value) (tm lg:Int) (tu:Value):Prop where
 lt:B<w.heap.size
 c0:w.cell? ⟨B,0,none⟩=some (.int .i64 n)
 c1:w.cell? ⟨B,1,none⟩=some pu
 c2:w.cell? ⟨B,2,none⟩=some (.int .i64 tm)
 c3:w.cell? ⟨B,3,none⟩=some (.int .i64 lg)
 c4:w.cell? ⟨B,4,none⟩=some tu
theorem tF.made (w:World) (n:Int) (pu:Value) (tm lg:Int) (tu:Value) (ty:TypeId):tF (w.alloc (.cells #[n,pu,tm,lg,tu] ty)) w.heap.size n pu tm lg tu:=⟨by simp,by simp [go_sem],by simp [go_sem],by simp [go_sem],by simp [go_sem],by simp [go_sem]⟩
theorem tF.ext {n:Int} (h:tF w B n pu tm lg tu) (e:Ext w w'):tF w' B n pu tm lg tu:=by
 have:=e.size;have h0:=h.lt;obtain ⟨a,b⟩:=e.cells;exact ⟨by omega,(a B _ h0).trans h.c0,(a B _ h0).trans h.c1,(a B _ h0).trans h.c2,(a B _ h0).trans h.c3,(a B _ h0).trans h.c4⟩
theorem aF6 {s:ByteArray} {r:Int} (hr:lK s.toList f tm q=r) (lo hi n m i j:Nat) (u:Value) (g3:Int) (g4:Value) (w:World) (hu:cY 5 lo hi w u m f) (hh:hi<=w.heap.size) (hq:(j:Int)*n+i=q) (hq':q<m) (hm:m<=1000) (hj:(j:Int)*n<=1000) (h0:0<=(j:Int)*n) (hi0:i<=1000) :
  R_ 262 #[.agg #[n,u,tm,g3,g4],.string s,i,j] w (.int .i64 r):=hr▸uM lo hi n m i j q u f tm g3 g4 s w hu hh hq hq' hm hj h0 hi0
theorem aOa (lo hi:Nat) (n:Int) (pu tu lv:Value) (tm lg:Int) (s:ByteArray) (j:Nat) (L:List (List Int)) (xs:List Int) (w:World) (hL:SS lo hi w lv L) (hh:hi<=w.heap.size) (hx:L[j]?=some xs) (h1:1<=xs.length) (h2:xs.length<=64) :
  Calls aQt 235 #[.agg #[n,pu,tm,lg,tu],.agg #[.int .i64 3,.string s,j],lv] w fun e w'=>∃r,e = .returned r/\aB w.heap.size w' r xs/\Ext w w':=by
 obtain ⟨a,cap,rfl,HL⟩:=hL.open;have l1:=HL.le;have l2:=HL.cap;have hj:=(aQq.1 hx).1;have h8:=(aQq.1 hx).2;obtain ⟨b,q6,u,rfl,q2,q3,c0,hu⟩:=HL.at hj (aQy w) hh;rw [h8] at hu;obtain ⟨ua,uc,rfl,HU⟩:=hu.open;obtain ⟨b2,h7,rfl,q4,q5,_⟩:=HU.at (k:=0) (by omega)
 have h9:b<w.heap.size+1:=by omega
 have q0:b<w.heap.size+1+1:=by omega
 have k1:=HU.le;have k2:=HU.cap
 have HC:∀(w1:World),Ext w w1->∀i y,xs[i]?=some y->I64 y/\w1.cell? ⟨b2,h7+i,none⟩=some (.int .i64 y):=by
  intro w1 x1 i y hy;obtain ⟨h3,b',q1,e,h4,h5,h6⟩:=HU.cell i y hy;simp only [aQr,aRv,and_true] at e;obtain ⟨rfl,rfl⟩:=e;exact ⟨h3,(x1.cells.1 _ _ (by omega)).trans h6⟩
 replace HC:=hid HC;clear hL hx h8 hu;go_enter func235,ntmps235;go_wp2_with (at_builtin;refine bY _ rfl _ _ rfl w.heap.size (.slice (some ⟨w.heap.size+1+1,0,none⟩) 0 0) [] xs rfl (aB.empty (by omega) (by have:=cB ((w.alloc (.cells #[n,pu,tm,lg,tu] 168)).alloc (.cells #[.int .i64 3,.string s,j] 221)) (.cells #[] 3);simpa using this)) b2 h7 uc rfl (HC _ X_) (by simp;omega) (by simp <;> omega) ?_;intro v' w1 h0 hg;obtain ⟨a',c',rfl,_⟩:=h0.form);go_ret;refine ⟨_,rfl,by simpa using h0,aRz X_ hg (fun k e=>by simp [aRm] at e;omega)⟩
theorem aOb (lo hi:Nat) (n m:Nat) (pu tu lv:Value) (f:Nat->Int) (tm lg:Int) (s:ByteArray) (num:Int) (w:World) (hp:cY 5 lo hi w pu m f) (hh:hi<=w.heap.size) (hm:n*n=m) (h1:1<=n) (h8:n<=8) (D:List Int) (hD:D.length=m) (hn:I64 num) (hz:∀k (h:k<D.length),D[k]=num) :
  Calls aQt 235 #[.agg #[n,pu,tm,lg,tu],.agg #[.int .i64 1,.string s,num],lv] w fun e w'=>∃r,e = .returned r/\aB w.heap.size w' r D/\Ext w w':=by
 have x3:=hid hp;have HM:=hid hm;have h7:=hid hD;have q8:n*n<=8*8:=aRq h8 h8;rw [hm] at q8;have x0:Ext w ((w.alloc (.cells #[n,pu,tm,lg,tu] 168)).alloc (.cells #[.int .i64 1,.string s,num] 221)):=X_;have gb:=(tF.made w n pu tm lg tu 168).ext ((aQy _).alloc (.cells #[.int .i64 1,.string s,num] 221));have xb:=jN.made (w.alloc (.cells #[n,pu,tm,lg,tu] 168)) 1 s num 221;simp only [aQp] at xb
 obtain ⟨W0,h6⟩:∃W,(w.alloc (.cells #[n,pu,tm,lg,tu] 168)).alloc (.cells #[.int .i64 1,.string s,num] 221)=W:=⟨_,rfl⟩
 rw [h6] at x0 gb xb;have h9:=hid gb;have q6:=hid xb;have q5:=hid x0;have q4:=hid h6;have x6:=x0.size
 have q9:w.heap.size+2=W0.heap.size:=by rw [<-h6];simp
 clear hp hm hD gb xb x0 h6;have HV:=hid hz;clear hz;go_enter func235,ntmps235;go_wp2;rw [q4]
 go_loopw [7,8] (fun v jv wr=>∃j:Nat,j<=n/\jv = .int .i64 j/\aB W0.heap.size wr v (D.take (j*n))/\Ext W0 wr) (fun _ jv _=>n - (intOf jv).toNat)
 case atStart=>exact ⟨0,by omega,rfl,by simpa [<-q9] using aB.lit0 W0,X_⟩
 case round=>
  obtain ⟨j,hj,rfl,h0,hx⟩:=hrel;have h2:=h9.ext hx
  by_cases q7:j<n
  ·have q0:=aSh n (show j+1<=n from q7)
   rw [aS4,aS5,HM] at q0
   obtain ⟨p,hp⟩:∃p,j*n=p:=⟨_,rfl⟩
   have q1:(j:Int)*n=p:=by rw [<-hp];simp
   rw [hp] at q0 h0;have HP:=hid hp;have x2:=hid q1;have HO:=hid h0;have HX:=hid hx;have g0:=h2.lt;have g1:=h2.c0;have g2:=h2.c1;have g3:=h2.c2;have g4:=h2.c3;have g5:=h2.c4;clear hp q1 h0 hx h2;go_wp2
   go_loopw [7,9] (fun v iv wq=>∃i:Nat,i<=n/\iv = .int .i64 i/\aB W0.heap.size wq v (D.take (p+i))/\Ext W0 wq) (fun _ iv _=>n - (intOf iv).toNat)
   case atStart=>exact ⟨0,by omega,rfl,HO,HX⟩
   case round=>
    clear HO HX g0 g1 g2 g3 g4 g5;obtain ⟨i,x4,rfl,h0,hx⟩:=hrel;obtain ⟨av,cv,rfl,_⟩:=h0.form;have h2:=h9.ext hx;have h4:=q6.ext hx;have x7:=hx.size
    by_cases x5:i<n
    ·have h3:(D.take (p+i)).length=p+i:=by rw [aRf,h7];omega
     have q3:Hid (p+i<D.length):=by rw [h7];show p+i<m;omega
     rw [h3] at h0 ⊢;have q2:=hid h3;clear h3;have g0:=h2.lt;have g1:=h2.c0;have g2:=h2.c1;have g3:=h2.c2;have g4:=h2.c3;have g5:=h2.c4;have y0:=h4.lt;have y1:=h4.c0;have y2:=h4.c1;have y3:=h4.c2;have HX:=hid hx;have HO:=hid h0;clear h2 h4 h0 hx;go_wp2_with (at_builtin;refine aV _ rfl _ _ rfl W0.heap.size _ _ rfl (HO.alloc _) num hn wr.heap.size rfl (by simp [go_sem]) (by rw [q2];omega) (by simp;omega) ?_;intro v' w7 h0 hg);have h5:=h0.take_snoc q3 (HV _ _);clear h0;have X7:Ext W0 w7:=aRz (HX.alloc _) hg (fun g e=>(HO.lt g e).1);have x1:=hid (h9.ext X7);go_wp2;go_roundw
     case rel=>exact ⟨i+1,by omega,by go_num,h5,X7⟩
     case measure=>simp [intOf];omega
    ·obtain rfl:i=n:=by omega
     have g0:=h2.lt;have g1:=h2.c0;have g2:=h2.c1;have g3:=h2.c2;have g4:=h2.c3;have g5:=h2.c4;clear h2 h4;go_wp2;go_roundw
     case rel=>exact ⟨j+1,by omega,by go_num,by rw [aS4,aS5,HP];exact h0,hx⟩
     case measure=>simp [intOf];omega
  ·obtain rfl:j=n:=by omega
   rw [aRt (by rw [h7,HM];exact aQo _)] at h0;have g0:=h2.lt;have g1:=h2.c0;have g2:=h2.c1;have g3:=h2.c2;have g4:=h2.c3;have g5:=h2.c4;go_wp2;go_ret;exact ⟨_,rfl,h0.low (by omega),q5.trans hx⟩
theorem aOc (lo hi:Nat) (n m:Nat) (pu tu lv:Value) (f:Nat->Int) (tm lg:Int) (s:ByteArray) (num:Int) (w:World) (hp:cY 5 lo hi w pu m f) (hh:hi<=w.heap.size) (hm:n*n=m) (h1:1<=n) (h8:n<=8) (D:List Int) (hD:D.length=m) (hz:∀k (h:k<D.length),D[k]=lK s.toList f tm k) (h9:∀x∈D,I64 x) :
  Calls aQt 235 #[.agg #[n,pu,tm,lg,tu],.agg #[.int .i64 2,.string s,num],lv] w fun e w'=>∃r,e = .returned r/\aB w.heap.size w' r D/\Ext w w':=by
 have q9:=hid hp;have HM:=hid hm;have q0:=hid hD;have x6:n*n<=8*8:=aRq h8 h8;rw [hm] at x6;have x0:Ext w ((w.alloc (.cells #[n,pu,tm,lg,tu] 168)).alloc (.cells #[.int .i64 2,.string s,num] 221)):=X_;have gb:=(tF.made w n pu tm lg tu 168).ext ((aQy _).alloc (.cells #[.int .i64 2,.string s,num] 221));have xb:=jN.made (w.alloc (.cells #[n,pu,tm,lg,tu] 168)) 2 s num 221;simp only [aQp] at xb
 obtain ⟨W0,h7⟩:∃W,(w.alloc (.cells #[n,pu,tm,lg,tu] 168)).alloc (.cells #[.int .i64 2,.string s,num] 221)=W:=⟨_,rfl⟩
 rw [h7] at x0 gb xb;have q1:=hid gb;have x4:=hid xb;have q4:=hid x0;have x2:=hid h7;have z2:=x0.size
 have x8:w.heap.size+2=W0.heap.size:=by rw [<-h7];simp
 clear hp hm hD gb xb x0 h7;have HV:=hid hz;have H9:=hid h9;clear hz h9;go_enter func235,ntmps235;go_wp2;rw [x2]
 go_loopw [7,8] (fun v jv wr=>∃j:Nat,j<=n/\jv = .int .i64 j/\aB W0.heap.size wr v (D.take (j*n))/\Ext W0 wr) (fun _ jv _=>n - (intOf jv).toNat)
 case atStart=>exact ⟨0,by omega,rfl,by simpa [<-x8] using aB.lit0 W0,X_⟩
 case round=>
  obtain ⟨j,hj,rfl,h0,hx⟩:=hrel;have h2:=q1.ext hx
  by_cases x5:j<n
  ·have q5:=aSh n (show j+1<=n from x5)
   rw [aS4,aS5,HM] at q5
   obtain ⟨p,hp⟩:∃p,j*n=p:=⟨_,rfl⟩
   have q6:(j:Int)*n=p:=by rw [<-hp];simp
   rw [hp] at q5 h0;have HP:=hid hp;have q2:=hid q6;have HO:=hid h0;have HX:=hid hx;have g0:=h2.lt;have g1:=h2.c0;have g2:=h2.c1;have g3:=h2.c2;have g4:=h2.c3;have g5:=h2.c4;clear hp q6 h0 hx h2;go_wp2
   go_loopw [7,9] (fun v iv wq=>∃i:Nat,i<=n/\iv = .int .i64 i/\aB W0.heap.size wq v (D.take (p+i))/\Ext W0 wq) (fun _ iv _=>n - (intOf iv).toNat)
   case atStart=>exact ⟨0,by omega,rfl,HO,HX⟩
   case round=>
    clear HO HX g0 g1 g2 g3 g4 g5;obtain ⟨i,z0,rfl,h0,hx⟩:=hrel;obtain ⟨av,cv,rfl,_⟩:=h0.form;have h2:=q1.ext hx;have h4:=x4.ext hx;have z4:=hx.size
    by_cases z1:i<n
    ·have h3:(D.take (p+i)).length=p+i:=by rw [aRf,q0];omega
     have h6:Hid (p+i<D.length):=by rw [q0];show p+i<m;omega
     rw [h3] at h0 ⊢;have q8:=hid h3;clear h3;have g0:=h2.lt;have g1:=h2.c0;have g2:=h2.c1;have g3:=h2.c2;have g4:=h2.c3;have g5:=h2.c4;have y0:=h4.lt;have y1:=h4.c0;have y2:=h4.c1;have y3:=h4.c2;have HX:=hid hx;have HO:=hid h0;clear h2 h4 h0 hx
     obtain ⟨z,hz⟩:∃z,lK s.toList f tm (p+i)=z:=⟨_,rfl⟩
     have q7:Hid (D[p+i]'h6.out=z):=(HV _ h6).trans hz
     have x7:Hid (I64 z):=by have:=H9.out _ (aQ8 h6.out);rw [q7.out] at this;exact this
     have HZ:=hid hz;clear hz;go_wp2_with fail;refine r_ (aF6 HZ lo hi n m i j _ _ _ _ (q9.ext hh (q4.trans HX)) (by omega) (by rw [q2];omega) (by omega) (by omega) (by rw [q2];omega) (by rw [q2];omega) (by omega)) fun w1 x1=>?_;have q3:=hid (HO.ext x1);have x3:=hid (HX.trans x1);have z3:=x1.size;clear g0 g1 g2 g3 g4 g5 y0 y1 y2 y3;go_wp2_with (at_builtin;refine aV _ rfl _ _ rfl W0.heap.size _ _ rfl (q3.alloc _) z x7.out w1.heap.size rfl (by simp [go_sem]) (by rw [q8];omega) (by simp;omega) ?_;intro v' w7 h0 hg);have h5:=h0.take_snoc h6 q7.out;clear h0;have X7:Ext W0 w7:=aRz (x3.alloc _) hg (fun g e=>(q3.lt g e).1);have x9:=hid (q1.ext X7);go_wp2;go_roundw
     case rel=>exact ⟨i+1,by omega,by go_num,h5,X7⟩
     case measure=>simp [intOf];omega
    ·obtain rfl:i=n:=by omega
     have g0:=h2.lt;have g1:=h2.c0;have g2:=h2.c1;have g3:=h2.c2;have g4:=h2.c3;have g5:=h2.c4;clear h2 h4;go_wp2;go_roundw
     case rel=>exact ⟨j+1,by omega,by go_num,by rw [aS4,aS5,HP];exact h0,hx⟩
     case measure=>simp [intOf];omega
  ·obtain rfl:j=n:=by omega
   rw [aRt (by rw [q0,HM];exact aQo _)] at h0;have g0:=h2.lt;have g1:=h2.c0;have g2:=h2.c1;have g3:=h2.c2;have g4:=h2.c3;have g5:=h2.c4;go_wp2;go_ret;exact ⟨_,rfl,h0.low (by omega),q4.trans hx⟩
def wW (s:ByteArray) (n:Nat) (pu:Value) (tm:Int) (tu:Value) (t:Tex) (ar:Nat) (fv:List Int->Int):Prop:=
 ∀(lo hi lo' hi':Nat) (u:Value) (x:List Int) (w:World),x.length=ar->(∀y∈x,S9 y)->aU lo hi w u x->hi<=w.heap.size->cN lo' hi' w (.agg #[t.log,tu]) t->hi'<=w.heap.size ->
  R_ 264 #[.agg #[n,pu,tm,t.log,tu],.string s,u] w (.int .i64 (fv x))
def aMm (num:Int) (ar:Nat) (fv:List Int->Int):Prop:=
 ∀(lo hi:Nat) (u:Value) (x:List Int) (w:World),x.length=ar->(∀y∈x,S9 y)->aU lo hi w u x->hi<=w.heap.size ->
  R_ 265 #[num,u] w (.int .i64 (fv x))
theorem aMn (fv:List Int->Int) (s:ByteArray) (num:Int) (S:List (List Int)) (lo hi lo' hi':Nat) (n m:Nat) (pu tu av:Value) (tm:Int) (t:Tex) (w:World)
  (hdu:(s.toList==[100,117])=false) (hdv:(s.toList==[100,118])=false) (hF:wW s n pu tm tu t S.length fv) (hS:SS lo hi w av S) (hh:hi<=w.heap.size) (hT:cN lo' hi' w (.agg #[t.log,tu]) t) (hh':hi'<=w.heap.size) (hg:∀r∈S,fG m r) (hm:(n:Int)*n=m) (hm2:m<=64) (hl:S.length<=3) :
  Calls aQt 236 #[.agg #[n,pu,tm,t.log,tu],.agg #[.int .i64 7,.string s,num],av] w fun e w'=>∃r,e = .returned r/\aB w.heap.size w' r ((aRc m).map fun k=>dU (fv (cS S k)))/\Ext w w':=by
 obtain ⟨a,cap,rfl,HS⟩:=hS.open;have l1:=HS.le;have l2:=HS.cap;have HT:=hid hT;have HG:=hid hg;have HF:=hid hF;clear hS hT hg hF
 obtain ⟨D,hD⟩:∃D,((aRc m).map fun k=>dU (fv (cS S k)))=D:=⟨_,rfl⟩
 have h5:Hid (D.length=m):=by rw [<-hD];show (aXg _ _).length=m;simp
 have x2:Hid (∀k (h:k<D.length),D[k]=dU (fv (cS S k))):=by subst hD;show ∀k (h:k<(aXg _ _).length),(aXg _ _)[k]=_;intro k h;simp
 rw [hD];clear hD;have x0:Ext w ((w.alloc (.cells #[n,pu,tm,t.log,tu] 168)).alloc (.cells #[.int .i64 7,.string s,num] 221)):=X_;have gb:=(tF.made w n pu tm t.log tu 168).ext ((aQy _).alloc (.cells #[.int .i64 7,.string s,num] 221));have xb:=jN.made (w.alloc (.cells #[n,pu,tm,t.log,tu] 168)) 7 s num 221;simp only [aQp] at xb
 obtain ⟨W0,h8⟩:∃W,(w.alloc (.cells #[n,pu,tm,t.log,tu] 168)).alloc (.cells #[.int .i64 7,.string s,num] 221)=W:=⟨_,rfl⟩
 rw [h8] at x0 gb xb;have q3:=hid gb;have q6:=hid xb;have h7:=hid x0;have x5:=hid h8;have y4:=x0.size
 have z2:w.heap.size+2=W0.heap.size:=by rw [<-h8];simp
 clear gb xb x0 h8;go_enter func236,ntmps236;go_wp2;rw [x5]
 go_loopw [7,8] (fun v jv wr=>∃k:Nat,k<=m/\jv = .int .i64 k/\aB W0.heap.size wr v (D.take k)/\Ext W0 wr) (fun _ jv _=>m - (intOf jv).toNat)
 case atStart=>exact ⟨0,by omega,rfl,by simpa [<-z2] using aB.lit0 W0,X_⟩
 case round=>
  obtain ⟨k,hk,rfl,h0,hx⟩:=hrel;obtain ⟨ov,oc,rfl,_⟩:=h0.form;have h2:=q3.ext hx;have h3:=q6.ext hx;have g0:=h2.lt;have g1:=h2.c0;have g2:=h2.c1;have g3:=h2.c2;have g4:=h2.c3;have g5:=h2.c4
  by_cases q8:k<m
  ·have h1:(D.take k).length=k:=by rw [aRf,h5];omega
   have q1:Hid (k<D.length):=by rw [h5];exact q8
   rw [h1] at h0 ⊢;have x3:=hid h1;clear h1;have HO:=hid h0;have HX:=hid hx;clear h0 hx h2 h3
   rename World=>W1
   have y6:=HX.size;go_wp2
   go_loopw [9,48] (fun v i wq=>∃j:Nat,j<=S.length/\i = .int .i64 j/\aB W1.heap.size wq v ((cS S k).take j)/\Ext W1 wq) (fun _ i _=>S.length - (intOf i).toNat)
   case atStart=>exact ⟨0,by omega,rfl,aB.lit0 W1,X_⟩
   case round=>
    clear g0 g1 g2 g3 g4 g5;obtain ⟨j,hj,rfl,h0,hy⟩:=hrel;obtain ⟨av,cv,rfl,z9⟩:=h0.form
    have h1:((cS S k).take j).length=j:=by rw [aRf,dD];omega
    rw [h1] at h0 ⊢
    by_cases q2:j<S.length
    ·obtain ⟨b,y7,u,rfl,z4,z5,c0,hu⟩:=HS.at q2 (h7.trans (HX.trans hy)) hh
     obtain ⟨g1,g2⟩:=HG _ (aQ8 q2);obtain ⟨ua,uc,rfl,HU⟩:=hu.open;have lu:=HU.le;have lc:=HU.cap;obtain ⟨b3,z3,rfl,z6,z7,c3⟩:=HU.at (k:=k) (by omega);have x9:=HX.size;have z0:=hy.size
     have z8:b3<wr.heap.size:=by omega
     have q7:=cQ S[j] k (by omega);have h9:=mO S k j q2;rw [q7] at h9;have i9:=(g2 _ (aQ8 (show k<S[j].length by omega))).i64
     obtain ⟨x,x1⟩:∃x,S[j][k]'(by omega)=x:=⟨_,rfl⟩
     rw [x1] at c3 h9 i9;rw [g1] at lu c0;have h6:=hid h0;have HY:=hid hy;have x4:=hid h9;have HL:=hid h1;have HI:=hid i9;clear h0 hy h9 h1 x1 q7 hu HU i9 x9 z0 g1 g2;go_wp2_with (at_builtin;refine aV _ rfl _ _ rfl W1.heap.size _ _ rfl (h6.alloc _) x HI wr.heap.size rfl (by simp [go_sem]) (by rw [HL];omega) (by have:=HY.size;simp;omega) ?_;intro v' w7 h0 hg);rw [x4] at h0;go_wp2;go_roundw
     case rel=>exact ⟨j+1,by omega,by go_num,h0,aRz (HY.alloc _) hg (fun g e=>(h6.lt g e).1)⟩
     case measure=>simp [intOf];omega
    ·obtain rfl:j=S.length:=by omega
     rw [aRt (by rw [dD];omega)] at h0;have xq:=HX.trans hy;have q9:=rS HG q8;have h2:=q3.ext xq;have h3:=q6.ext xq;have HC:=hid (HF _ _ _ _ _ _ wr (dD S k) q9 h0.ints (aQo _) (HT.ext hh' (h7.trans xq)) (by have:=xq.size;omega));have x6:=hid xq;have h6:=hid (HO.ext hy);have g0:=h2.lt;have g1:=h2.c0;have g2:=h2.c1;have g3:=h2.c2;have g4:=h2.c3;have g5:=h2.c4;have y0:=h3.lt;have y1:=h3.c0;have y2:=h3.c1;have y3:=h3.c2;clear h0 hy xq q9 h1 h2 h3;go_wp2_with fail;refine HC.mono ?_;rintro e w7 ⟨rfl,x7⟩
     obtain ⟨z,hz⟩:∃y,dU (fv (cS S k))=y:=⟨_,rfl⟩
     have HZ:=hid hz;have z1:Hid (I64 z):=hid (by rw [<-hz];exact (fD _).i64);have q5:=hid (x6.trans x7);have q4:=hid (h6.ext x7);have x8:Hid (D[k]'q1.out=z):=(x2 _ q1).trans hz;have y5:=q5.size;clear hz x7 g0 g1 g2 g3 g4 g5 y0 y1 y2 y3;go_wp2_with fail;refine z_ (eB HZ _) ?_;go_wp2_with (at_builtin;refine aV _ rfl _ _ rfl W0.heap.size _ _ rfl (q4.alloc _) z z1.out w7.heap.size rfl (by simp [go_sem]) (by rw [x3];omega) (by simp;omega) ?_;intro v' w9 h0 hg);have h4:=h0.take_snoc q1 x8.out;clear h0;have X9:Ext W0 w9:=aRz (q5.alloc _) hg (fun g e=>(q4.lt g e).1);go_wp2;go_roundw
     case rel=>exact ⟨k+1,by omega,by go_num,h4,X9⟩
     case measure=>simp [intOf];omega
  ·obtain rfl:k=m:=by omega
   rw [aRt (by rw [h5];exact aQo _)] at h0 ⊢;have q0:=h5.out;go_wp2;go_ret
   first|exact ⟨_,rfl,h0.low (by omega),h7.trans hx⟩|(rw [q0] at h0;exact ⟨_,rfl,h0.low (by omega),h7.trans hx⟩)
theorem aMo (fv:List Int->Int) (s:ByteArray) (num:Int) (S:List (List Int)) (lo hi lo' hi':Nat) (n m:Nat) (pu tu av:Value) (tm:Int) (t:Tex) (w:World)
  (hF:aMm num S.length fv) (hS:SS lo hi w av S) (hh:hi<=w.heap.size) (hT:cN lo' hi' w (.agg #[t.log,tu]) t) (hh':hi'<=w.heap.size) (hg:∀r∈S,fG m r) (hm:(n:Int)*n=m) (hm2:m<=64) (hl:S.length<=3) :
  Calls aQt 236 #[.agg #[n,pu,tm,t.log,tu],.agg #[.int .i64 5,.string s,num],av] w fun e w'=>∃r,e = .returned r/\aB w.heap.size w' r ((aRc m).map fun k=>dU (fv (cS S k)))/\Ext w w':=by
 obtain ⟨a,cap,rfl,HS⟩:=hS.open;have l1:=HS.le;have l2:=HS.cap;have HT:=hid hT;have HG:=hid hg;have HF:=hid hF;clear hS hT hg hF
 obtain ⟨D,hD⟩:∃D,((aRc m).map fun k=>dU (fv (cS S k)))=D:=⟨_,rfl⟩
 have h5:Hid (D.length=m):=by rw [<-hD];show (aXg _ _).length=m;simp
 have x2:Hid (∀k (h:k<D.length),D[k]=dU (fv (cS S k))):=by subst hD;show ∀k (h:k<(aXg _ _).length),(aXg _ _)[k]=_;intro k h;simp
 rw [hD];clear hD;have x0:Ext w ((w.alloc (.cells #[n,pu,tm,t.log,tu] 168)).alloc (.cells #[.int .i64 5,.string s,num] 221)):=X_;have gb:=(tF.made w n pu tm t.log tu 168).ext ((aQy _).alloc (.cells #[.int .i64 5,.string s,num] 221));have xb:=jN.made (w.alloc (.cells #[n,pu,tm,t.log,tu] 168)) 5 s num 221;simp only [aQp] at xb
 obtain ⟨W0,h7⟩:∃W,(w.alloc (.cells #[n,pu,tm,t.log,tu] 168)).alloc (.cells #[.int .i64 5,.string s,num] 221)=W:=⟨_,rfl⟩
 rw [h7] at x0 gb xb;have q3:=hid gb;have q6:=hid xb;have q1:=hid x0;have x5:=hid h7;have y4:=x0.size
 have z2:w.heap.size+2=W0.heap.size:=by rw [<-h7];simp
 clear gb xb x0 h7;go_enter func236,ntmps236;go_wp2;rw [x5]
 go_loopw [7,8] (fun v jv wr=>∃k:Nat,k<=m/\jv = .int .i64 k/\aB W0.heap.size wr v (D.take k)/\Ext W0 wr) (fun _ jv _=>m - (intOf jv).toNat)
 case atStart=>exact ⟨0,by omega,rfl,by simpa [<-z2] using aB.lit0 W0,X_⟩
 case round=>
  obtain ⟨k,hk,rfl,h0,hx⟩:=hrel;obtain ⟨ov,oc,rfl,_⟩:=h0.form;have h2:=q3.ext hx;have h3:=q6.ext hx;have g0:=h2.lt;have g1:=h2.c0;have g2:=h2.c1;have g3:=h2.c2;have g4:=h2.c3;have g5:=h2.c4
  by_cases q8:k<m
  ·have h1:(D.take k).length=k:=by rw [aRf,h5];omega
   have q0:Hid (k<D.length):=by rw [h5];exact q8
   rw [h1] at h0 ⊢;have x3:=hid h1;clear h1;have HO:=hid h0;have HX:=hid hx;clear h0 hx h2 h3
   rename World=>W1
   have y6:=HX.size;go_wp2
   go_loopw [9,48] (fun v i wq=>∃j:Nat,j<=S.length/\i = .int .i64 j/\aB W1.heap.size wq v ((cS S k).take j)/\Ext W1 wq) (fun _ i _=>S.length - (intOf i).toNat)
   case atStart=>exact ⟨0,by omega,rfl,aB.lit0 W1,X_⟩
   case round=>
    clear g0 g1 g2 g3 g4 g5;obtain ⟨j,hj,rfl,h0,hy⟩:=hrel;obtain ⟨av,cv,rfl,z9⟩:=h0.form
    have h1:((cS S k).take j).length=j:=by rw [aRf,dD];omega
    rw [h1] at h0 ⊢
    by_cases q2:j<S.length
    ·obtain ⟨b,y7,u,rfl,z4,z5,c0,hu⟩:=HS.at q2 (q1.trans (HX.trans hy)) hh
     obtain ⟨g1,g2⟩:=HG _ (aQ8 q2);obtain ⟨ua,uc,rfl,HU⟩:=hu.open;have lu:=HU.le;have lc:=HU.cap;obtain ⟨b3,z3,rfl,z6,z7,c3⟩:=HU.at (k:=k) (by omega);have x9:=HX.size;have z0:=hy.size
     have z8:b3<wr.heap.size:=by omega
     have q7:=cQ S[j] k (by omega);have h8:=mO S k j q2;rw [q7] at h8;have i9:=(g2 _ (aQ8 (show k<S[j].length by omega))).i64
     obtain ⟨x,x1⟩:∃x,S[j][k]'(by omega)=x:=⟨_,rfl⟩
     rw [x1] at c3 h8 i9;rw [g1] at lu c0;have h6:=hid h0;have HY:=hid hy;have x4:=hid h8;have HL:=hid h1;have HI:=hid i9;clear h0 hy h8 h1 x1 q7 hu HU i9 x9 z0 g1 g2;go_wp2_with (at_builtin;refine aV _ rfl _ _ rfl W1.heap.size _ _ rfl (h6.alloc _) x HI wr.heap.size rfl (by simp [go_sem]) (by rw [HL];omega) (by have:=HY.size;simp;omega) ?_;intro v' w7 h0 hg);rw [x4] at h0;go_wp2;go_roundw
     case rel=>exact ⟨j+1,by omega,by go_num,h0,aRz (HY.alloc _) hg (fun g e=>(h6.lt g e).1)⟩
     case measure=>simp [intOf];omega
    ·obtain rfl:j=S.length:=by omega
     rw [aRt (by rw [dD];omega)] at h0;have xq:=HX.trans hy;have q9:=rS HG q8;have h2:=q3.ext xq;have h3:=q6.ext xq;have HC:=hid (HF _ _ _ _ wr (dD S k) q9 h0.ints (aQo _));have x6:=hid xq;have h6:=hid (HO.ext hy);have g0:=h2.lt;have g1:=h2.c0;have g2:=h2.c1;have g3:=h2.c2;have g4:=h2.c3;have g5:=h2.c4;have y0:=h3.lt;have y1:=h3.c0;have y2:=h3.c1;have y3:=h3.c2;clear h0 hy xq q9 h1 h2 h3;go_wp2_with fail;refine HC.mono ?_;rintro e w7 ⟨rfl,x7⟩
     obtain ⟨z,hz⟩:∃y,dU (fv (cS S k))=y:=⟨_,rfl⟩
     have HZ:=hid hz;have z1:Hid (I64 z):=hid (by rw [<-hz];exact (fD _).i64);have q5:=hid (x6.trans x7);have q4:=hid (h6.ext x7);have x8:Hid (D[k]'q0.out=z):=(x2 _ q0).trans hz;have y5:=q5.size;clear hz x7 g0 g1 g2 g3 g4 g5 y0 y1 y2 y3;go_wp2_with fail;refine z_ (eB HZ _) ?_;go_wp2_with (at_builtin;refine aV _ rfl _ _ rfl W0.heap.size _ _ rfl (q4.alloc _) z z1.out w7.heap.size rfl (by simp [go_sem]) (by rw [x3];omega) (by simp;omega) ?_;intro v' w9 h0 hg);have h4:=h0.take_snoc q0 x8.out;clear h0;have X9:Ext W0 w9:=aRz (q5.alloc _) hg (fun g e=>(q4.lt g e).1);go_wp2;go_roundw
     case rel=>exact ⟨k+1,by omega,by go_num,h4,X9⟩
     case measure=>simp [intOf];omega
  ·obtain rfl:k=m:=by omega
   rw [aRt (by rw [h5];exact aQo _)] at h0 ⊢;have h9:=h5.out;go_wp2;go_ret
   first|exact ⟨_,rfl,h0.low (by omega),q1.trans hx⟩|(rw [h9] at h0;exact ⟨_,rfl,h0.low (by omega),q1.trans hx⟩)
theorem aMp (fv:List Int->Int) (s:ByteArray) (num:Int) (S:List (List Int)) (lo hi lo' hi':Nat) (n m:Nat) (pu tu av:Value) (tm:Int) (t:Tex) (w:World)
  (hF:aMm num S.length fv) (hS:SS lo hi w av S) (hh:hi<=w.heap.size) (hT:cN lo' hi' w (.agg #[t.log,tu]) t) (hh':hi'<=w.heap.size) (hg:∀r∈S,fG m r) (hm:(n:Int)*n=m) (hm2:m<=64) (hl:S.length<=3) :
  Calls aQt 236 #[.agg #[n,pu,tm,t.log,tu],.agg #[.int .i64 6,.string s,num],av] w fun e w'=>∃r,e = .returned r/\aB w.heap.size w' r ((aRc m).map fun k=>dU (fv (cS S k)))/\Ext w w':=by
 obtain ⟨a,cap,rfl,HS⟩:=hS.open;have l1:=HS.le;have l2:=HS.cap;have HT:=hid hT;have HG:=hid hg;have HF:=hid hF;clear hS hT hg hF
 obtain ⟨D,hD⟩:∃D,((aRc m).map fun k=>dU (fv (cS S k)))=D:=⟨_,rfl⟩
 have h5:Hid (D.length=m):=by rw [<-hD];show (aXg _ _).length=m;simp
 have x2:Hid (∀k (h:k<D.length),D[k]=dU (fv (cS S k))):=by subst hD;show ∀k (h:k<(aXg _ _).length),(aXg _ _)[k]=_;intro k h;simp
 rw [hD];clear hD;have x0:Ext w ((w.alloc (.cells #[n,pu,tm,t.log,tu] 168)).alloc (.cells #[.int .i64 6,.string s,num] 221)):=X_;have gb:=(tF.made w n pu tm t.log tu 168).ext ((aQy _).alloc (.cells #[.int .i64 6,.string s,num] 221));have xb:=jN.made (w.alloc (.cells #[n,pu,tm,t.log,tu] 168)) 6 s num 221;simp only [aQp] at xb
 obtain ⟨W0,h7⟩:∃W,(w.alloc (.cells #[n,pu,tm,t.log,tu] 168)).alloc (.cells #[.int .i64 6,.string s,num] 221)=W:=⟨_,rfl⟩
 rw [h7] at x0 gb xb;have q3:=hid gb;have q6:=hid xb;have q1:=hid x0;have x5:=hid h7;have y4:=x0.size
 have z2:w.heap.size+2=W0.heap.size:=by rw [<-h7];simp
 clear gb xb x0 h7;go_enter func236,ntmps236;go_wp2;rw [x5]
 go_loopw [7,8] (fun v jv wr=>∃k:Nat,k<=m/\jv = .int .i64 k/\aB W0.heap.size wr v (D.take k)/\Ext W0 wr) (fun _ jv _=>m - (intOf jv).toNat)
 case atStart=>exact ⟨0,by omega,rfl,by simpa [<-z2] using aB.lit0 W0,X_⟩
 case round=>
  obtain ⟨k,hk,rfl,h0,hx⟩:=hrel;obtain ⟨ov,oc,rfl,_⟩:=h0.form;have h2:=q3.ext hx;have h3:=q6.ext hx;have g0:=h2.lt;have g1:=h2.c0;have g2:=h2.c1;have g3:=h2.c2;have g4:=h2.c3;have g5:=h2.c4
  by_cases q8:k<m
  ·have h1:(D.take k).length=k:=by rw [aRf,h5];omega
   have q0:Hid (k<D.length):=by rw [h5];exact q8
   rw [h1] at h0 ⊢;have x3:=hid h1;clear h1;have HO:=hid h0;have HX:=hid hx;clear h0 hx h2 h3
   rename World=>W1
   have y6:=HX.size;go_wp2
   go_loopw [9,48] (fun v i wq=>∃j:Nat,j<=S.length/\i = .int .i64 j/\aB W1.heap.size wq v ((cS S k).take j)/\Ext W1 wq) (fun _ i _=>S.length - (intOf i).toNat)
   case atStart=>exact ⟨0,by omega,rfl,aB.lit0 W1,X_⟩
   case round=>
    clear g0 g1 g2 g3 g4 g5;obtain ⟨j,hj,rfl,h0,hy⟩:=hrel;obtain ⟨av,cv,rfl,z9⟩:=h0.form
    have h1:((cS S k).take j).length=j:=by rw [aRf,dD];omega
    rw [h1] at h0 ⊢
    by_cases q2:j<S.length
    ·obtain ⟨b,y7,u,rfl,z4,z5,c0,hu⟩:=HS.at q2 (q1.trans (HX.trans hy)) hh
     obtain ⟨g1,g2⟩:=HG _ (aQ8 q2);obtain ⟨ua,uc,rfl,HU⟩:=hu.open;have lu:=HU.le;have lc:=HU.cap;obtain ⟨b3,z3,rfl,z6,z7,c3⟩:=HU.at (k:=k) (by omega);have x9:=HX.size;have z0:=hy.size
     have z8:b3<wr.heap.size:=by omega
     have q7:=cQ S[j] k (by omega);have h8:=mO S k j q2;rw [q7] at h8;have i9:=(g2 _ (aQ8 (show k<S[j].length by omega))).i64
     obtain ⟨x,x1⟩:∃x,S[j][k]'(by omega)=x:=⟨_,rfl⟩
     rw [x1] at c3 h8 i9;rw [g1] at lu c0;have h6:=hid h0;have HY:=hid hy;have x4:=hid h8;have HL:=hid h1;have HI:=hid i9;clear h0 hy h8 h1 x1 q7 hu HU i9 x9 z0 g1 g2;go_wp2_with (at_builtin;refine aV _ rfl _ _ rfl W1.heap.size _ _ rfl (h6.alloc _) x HI wr.heap.size rfl (by simp [go_sem]) (by rw [HL];omega) (by have:=HY.size;simp;omega) ?_;intro v' w7 h0 hg);rw [x4] at h0;go_wp2;go_roundw
     case rel=>exact ⟨j+1,by omega,by go_num,h0,aRz (HY.alloc _) hg (fun g e=>(h6.lt g e).1)⟩
     case measure=>simp [intOf];omega
    ·obtain rfl:j=S.length:=by omega
     rw [aRt (by rw [dD];omega)] at h0;have xq:=HX.trans hy;have q9:=rS HG q8;have h2:=q3.ext xq;have h3:=q6.ext xq;have HC:=hid (HF _ _ _ _ wr (dD S k) q9 h0.ints (aQo _));have x6:=hid xq;have h6:=hid (HO.ext hy);have g0:=h2.lt;have g1:=h2.c0;have g2:=h2.c1;have g3:=h2.c2;have g4:=h2.c3;have g5:=h2.c4;have y0:=h3.lt;have y1:=h3.c0;have y2:=h3.c1;have y3:=h3.c2;clear h0 hy xq q9 h1 h2 h3;go_wp2_with fail;refine HC.mono ?_;rintro e w7 ⟨rfl,x7⟩
     obtain ⟨z,hz⟩:∃y,dU (fv (cS S k))=y:=⟨_,rfl⟩
     have HZ:=hid hz;have z1:Hid (I64 z):=hid (by rw [<-hz];exact (fD _).i64);have q5:=hid (x6.trans x7);have q4:=hid (h6.ext x7);have x8:Hid (D[k]'q0.out=z):=(x2 _ q0).trans hz;have y5:=q5.size;clear hz x7 g0 g1 g2 g3 g4 g5 y0 y1 y2 y3;go_wp2_with fail;refine z_ (eB HZ _) ?_;go_wp2_with (at_builtin;refine aV _ rfl _ _ rfl W0.heap.size _ _ rfl (q4.alloc _) z z1.out w7.heap.size rfl (by simp [go_sem]) (by rw [x3];omega) (by simp;omega) ?_;intro v' w9 h0 hg);have h4:=h0.take_snoc q0 x8.out;clear h0;have X9:Ext W0 w9:=aRz (q5.alloc _) hg (fun g e=>(q4.lt g e).1);go_wp2;go_roundw
     case rel=>exact ⟨k+1,by omega,by go_num,h4,X9⟩
     case measure=>simp [intOf];omega
  ·obtain rfl:k=m:=by omega
   rw [aRt (by rw [h5];exact aQo _)] at h0 ⊢;have h9:=h5.out;go_wp2;go_ret
   first|exact ⟨_,rfl,h0.low (by omega),q1.trans hx⟩|(rw [h9] at h0;exact ⟨_,rfl,h0.low (by omega),q1.trans hx⟩)
theorem aKt (n:Nat) (pu:Value) (tm:Int) (tu:Value) (t:Tex) (_ht:t.okB=true):wW ⟨#[97,98,115]⟩ n pu tm tu t 1 (fnV t [97,98,115]):=by
 intro lo hi lo' hi' u x w hl hs hu hh hv h0;obtain ⟨a,rfl⟩:=wM hl;exact aLx lo hi u _ _ _ _ _ w hu hh (hs a (by simp)) rfl
theorem aF7 (n:Nat) (pu:Value) (tm:Int) (tu:Value) (t:Tex) (_ht:t.okB=true):wW ⟨#[102,108,111,111,114]⟩ n pu tm tu t 1 (fnV t [102,108,111,111,114]):=by
 intro lo hi lo' hi' u x w hl hs hu hh hv h0;obtain ⟨a,rfl⟩:=wM hl;exact aH7 lo hi u _ _ _ _ _ w hu hh (hs a (by simp)) rfl
theorem aKu (n:Nat) (pu:Value) (tm:Int) (tu:Value) (t:Tex) (_ht:t.okB=true):wW ⟨#[109,105,110]⟩ n pu tm tu t 2 (fnV t [109,105,110]):=by
 intro lo hi lo' hi' u x w hl hs hu hh hv h0;obtain ⟨a,b,rfl⟩:=jH hl;exact aLy lo hi u _ _ _ _ _ w hu hh (hs a (by simp)) (hs b (by simp)) rfl
theorem aKv (n:Nat) (pu:Value) (tm:Int) (tu:Value) (t:Tex) (_ht:t.okB=true):wW ⟨#[109,97,120]⟩ n pu tm tu t 2 (fnV t [109,97,120]):=by
 intro lo hi lo' hi' u x w hl hs hu hh hv h0;obtain ⟨a,b,rfl⟩:=jH hl;exact aLz lo hi u _ _ _ _ _ w hu hh (hs a (by simp)) (hs b (by simp)) rfl
theorem aI4 (n:Nat) (pu:Value) (tm:Int) (tu:Value) (t:Tex) (_ht:t.okB=true):wW ⟨#[115,116,101,112]⟩ n pu tm tu t 2 (fnV t [115,116,101,112]):=by
 intro lo hi lo' hi' u x w hl hs hu hh hv h0;obtain ⟨a,b,rfl⟩:=jH hl;exact aJx lo hi u _ _ _ _ _ w hu hh (hs a (by simp)) (hs b (by simp)) rfl
theorem aF8 (n:Nat) (pu:Value) (tm:Int) (tu:Value) (t:Tex) (_ht:t.okB=true):wW ⟨#[110,111,105,115,101]⟩ n pu tm tu t 2 (fnV t [110,111,105,115,101]):=by
 intro lo hi lo' hi' u x w hl hs hu hh hv h0;obtain ⟨a,b,rfl⟩:=jH hl;exact aH9 lo hi u _ _ _ _ _ w hu hh (hs a (by simp)) (hs b (by simp)) rfl
theorem aKw (n:Nat) (pu:Value) (tm:Int) (tu:Value) (t:Tex) (_ht:t.okB=true):wW ⟨#[116,101,120]⟩ n pu tm tu t 2 (fnV t [116,101,120]):=by
 intro lo hi lo' hi' u x w hl hs hu hh hv h0;obtain ⟨a,b,rfl⟩:=jH hl;exact aL1 lo hi lo' hi' u _ _ _ _ _ t w hu hh hv h0 _ht rfl
theorem aF9 (n:Nat) (pu:Value) (tm:Int) (tu:Value) (t:Tex) (_ht:t.okB=true):wW ⟨#[99,108,97,109,112]⟩ n pu tm tu t 3 (fnV t [99,108,97,109,112]):=by
 intro lo hi lo' hi' u x w hl hs hu hh hv h0;obtain ⟨a,b,c,rfl⟩:=rT hl;exact aH8 lo hi u _ _ _ _ _ w hu hh  rfl
theorem aKx (n:Nat) (pu:Value) (tm:Int) (tu:Value) (t:Tex) (_ht:t.okB=true):wW ⟨#[109,105,120]⟩ n pu tm tu t 3 (fnV t [109,105,120]):=by
 intro lo hi lo' hi' u x w hl hs hu hh hv h0;obtain ⟨a,b,c,rfl⟩:=rT hl;exact aL0 lo hi u _ _ _ _ _ w hu hh (hs a (by simp)) (hs b (by simp)) (hs c (by simp)) rfl
theorem aKy (rows:Bool) (xs:List Int) (lo hi:Nat) (n m:Nat) (pu tu av:Value) (tm g3 num:Int) (w:World) (s:ByteArray) (S:List (List Int)) (hs:s.toList=if rows then [100,118] else [100,117]) (hxs:S[0]?=some xs)
  (hS:SS lo hi w av S) (hh:hi<=w.heap.size) (hg:fG m xs) (hm:n*n=m) (h1:1<=n) (h8:n<=8) :
  Calls aQt 236 #[.agg #[n,pu,tm,g3,tu],.agg #[.int .i64 7,.string s,num],av] w fun e w'=>∃r,e = .returned r/\aB w.heap.size w' r (iL xs n rows)/\Ext w w':=by
 obtain ⟨a,cap,rfl,HS⟩:=hS.open;have l1:=HS.le;have l2:=HS.cap;have h4:=(aQq.1 hxs).1;have h0:=(aQq.1 hxs).2;obtain ⟨b,h9,u,rfl,h5,h6,c0,hu⟩:=HS.at h4 (aQy w) hh;rw [h0] at hu;simp only [aSa] at c0
 have h7:b≠w.heap.size:=by omega
 have h3:b≠w.heap.size+1:=by omega
 have h2:b<w.heap.size+1:=by omega
 have HU:=hid hu;replace hg:=hid hg;clear hu hxs h0
 cases rows
 ·have e:=aIc (l:=[100,117]) hs
  subst e;clear hs;go_enter func236,ntmps236;go_wp2_with fail;refine aA [([0,1,2,3,4,5,6,7],8),([],9)] 99 (w.heap.size+1+1) (by kernel_rfl) (by kernel_rfl) ?_;refine st_ fun K hK=>?_;go_wp2_with fail;refine (aAk lo hi u xs n false _ (HU.ext hh X_) (by simp;omega) (hg.out.1.trans hm.symm) h1 h8 hg.out.2).mono ?_;rintro e w1 ⟨r,rfl,hr,x1⟩;obtain ⟨ra,rc,rfl,_⟩:=hr.form;have X1:Ext w w1:=aQu X_ x1;go_wp2_with fail;refine hK _ _ (.inr (fun k _ hk=>x1.block (by first|omega|(simp;omega)))) ?_;clear hK K;refine st_ fun K hK=>?_;go_wp2_with fail;go_wp2_with fail;refine hK _ _ (.inr (fun k _ hk=>x1.block (by first|omega|(simp;omega)))) ?_;clear hK K;refine aC ?_;go_wp2;go_ret;exact ⟨_,rfl,hr.low (by simp;omega),X1⟩
 ·have e:=aIc (l:=[100,118]) hs
  subst e;clear hs;go_enter func236,ntmps236;go_wp2_with fail;refine aA [([0,1,2,3,4,5,6,7],8),([],9)] 99 (w.heap.size+1+1) (by kernel_rfl) (by kernel_rfl) ?_;refine st_ fun K hK=>?_;go_wp2_with fail;refine (aAk lo hi u xs n true _ (HU.ext hh X_) (by simp;omega) (hg.out.1.trans hm.symm) h1 h8 hg.out.2).mono ?_;rintro e w1 ⟨r,rfl,hr,x1⟩;obtain ⟨ra,rc,rfl,_⟩:=hr.form;have X1:Ext w w1:=aQu X_ x1;go_wp2_with fail;refine hK _ _ (.inr (fun k _ hk=>x1.block (by first|omega|(simp;omega)))) ?_;clear hK K;refine st_ fun K hK=>?_;go_wp2_with fail;go_wp2_with fail;refine hK _ _ (.inr (fun k _ hk=>x1.block (by first|omega|(simp;omega)))) ?_;clear hK K;refine aC ?_;go_wp2;go_ret;exact ⟨_,rfl,hr.low (by simp;omega),X1⟩
theorem aI5 (s:ByteArray) (num:Int) (S:List (List Int)) (lo hi lo' hi':Nat) (n m:Nat) (pu tu av:Value) (tm:Int) (t:Tex) (w:World) (hs:0<=cA s) (hl:(S.length:Int)=cA s) (ht:t.okB=true)
  (hS:SS lo hi w av S) (hh:hi<=w.heap.size) (hT:cN lo' hi' w (.agg #[t.log,tu]) t) (hh':hi'<=w.heap.size) (hg:∀r∈S,fG m r) (hm:n*n=m) (h1:1<=n) (h8:n<=8) :
  Calls aQt 236 #[.agg #[n,pu,tm,t.log,tu],.agg #[.int .i64 7,.string s,num],av] w fun e w'=>∃r,e = .returned r/\aB w.heap.size w' r (eJ n m t s.toList S)/\Ext w w':=by
 have x3:(n:Int)*n=m:=by rw [<-hm];simp
 have x2:m<=64:=by
  have:n*n<=8*8:=aRq h8 h8;omega
 have q3:∀(l:List UInt8) (ar:Nat),s.toList=l->(l==[100,117])=false->(l==[100,118])=false->(kL l=ar)->ar<=3 ->
   wW ⟨l.toArray⟩ n pu tm tu t ar (fnV t l)->Calls aQt 236 #[.agg #[n,pu,tm,t.log,tu],.agg #[.int .i64 7,.string s,num],av] w fun e w'=>∃r,e = .returned r/\aB w.heap.size w' r (eJ n m t s.toList S)/\Ext w w':=by
  intro l ar q2 q7 q8 x0 q9 hF
  have q6:S.length=ar:=by
   unfold cA at hl;rw [q2,x0] at hl;omega
  subst q6;rw [q2];unfold eJ;rw [q7,q8];have e:=aIc q2;subst e;exact aMn (fnV t l) _ num S lo hi lo' hi' n m pu tu av tm t w (by rw [q2];exact q7) (by rw [q2];exact q8) hF hS hh hT hh' hg x3 x2 q9
 have hd:∀q1:Bool,s.toList=(if q1 then [100,118] else [100,117])->Calls aQt 236 #[.agg #[n,pu,tm,t.log,tu],.agg #[.int .i64 7,.string s,num],av] w fun e w'=>∃r,e = .returned r/\aB w.heap.size w' r (eJ n m t s.toList S)/\Ext w w':=by
  intro q1 q2
  have x1:S.length=1:=by
   unfold cA at hl;rw [q2] at hl
   cases q1 <;> (have:(S.length:Int)=1:=hl;omega)
  obtain ⟨xs,rfl⟩:∃xs,S=[xs]:=by
   match S,x1 with
   | [a],_=>exact ⟨a,rfl⟩
  have:=aKy q1 xs lo hi n m pu tu av tm t.log num w s [xs] q2 rfl hS hh (hg xs (by simp)) hm h1 h8;rw [q2]
  cases q1 <;> exact this
 unfold cA kL at hs
 by_cases h5:(s.toList==[97,98,115])=true
 ·exact q3 [97,98,115] 1 (eq_of_beq h5) rfl rfl rfl (by decide) (aKt n pu tm tu t ht)
 by_cases h2:(s.toList==[102,108,111,111,114])=true
 ·exact q3 [102,108,111,111,114] 1 (eq_of_beq h2) rfl rfl rfl (by decide) (aF7 n pu tm tu t ht)
 by_cases q4:(s.toList==[100,117])=true
 ·exact hd false (eq_of_beq q4)
 by_cases q5:(s.toList==[100,118])=true
 ·exact hd true (eq_of_beq q5)
 by_cases h7:(s.toList==[109,105,110])=true
 ·exact q3 [109,105,110] 2 (eq_of_beq h7) rfl rfl rfl (by decide) (aKu n pu tm tu t ht)
 by_cases h6:(s.toList==[109,97,120])=true
 ·exact q3 [109,97,120] 2 (eq_of_beq h6) rfl rfl rfl (by decide) (aKv n pu tm tu t ht)
 by_cases h4:(s.toList==[115,116,101,112])=true
 ·exact q3 [115,116,101,112] 2 (eq_of_beq h4) rfl rfl rfl (by decide) (aI4 n pu tm tu t ht)
 by_cases h3:(s.toList==[110,111,105,115,101])=true
 ·exact q3 [110,111,105,115,101] 2 (eq_of_beq h3) rfl rfl rfl (by decide) (aF8 n pu tm tu t ht)
 by_cases q0:(s.toList==[116,101,120])=true
 ·exact q3 [116,101,120] 2 (eq_of_beq q0) rfl rfl rfl (by decide) (aKw n pu tm tu t ht)
 by_cases h0:(s.toList==[99,108,97,109,112])=true
 ·exact q3 [99,108,97,109,112] 3 (eq_of_beq h0) rfl rfl rfl (by decide) (aF9 n pu tm tu t ht)
 by_cases h9:(s.toList==[109,105,120])=true
 ·exact q3 [109,105,120] 3 (eq_of_beq h9) rfl rfl rfl (by decide) (aKx n pu tm tu t ht)
 simp only [aYf] at h5 h2 q4 q5 h7 h6 h4 h3 q0 h0 h9;simp [h5,h2,q4,q5,h7,h6,h4,h3,q0,h0,h9] at hs
def opV (num:Int) (x:List Int):Int:=opI num (x.getD 0 0) (x.getD (if num=3 then 0 else 1) 0)
theorem aMq:aMm 3 1 (opV 3):=by
 intro lo hi u x w hl hs hu hh;obtain ⟨a,rfl⟩:=wM hl;exact aG5 lo hi u (op:=3) (a:=a) (b:=a) (by unfold mU;omega) (hs a (by simp)) (hs a (by simp)) rfl w hu hh
theorem aKz (h:inB num 4 7=true):aMm num 2 (opV num):=by
 intro lo hi u x w hl hs hu hh;obtain ⟨a,b,rfl⟩:=jH hl;have hb:=aG.1 h
 have h3:num≠3:=by omega
 refine aG5 lo hi u (op:=num) (a:=a) (b:=b) (by unfold mU;omega) (hs a (by simp)) (hs b (by simp)) (by unfold opV;rw [if_neg h3];rfl) w (by unfold aJw;rw [if_neg h3];exact hu) hh
theorem aK0 {S:List (List Int)} {b:List Int} (ha:S[0]?=some a) (hb:S[if num=3 then 0 else 1]?=some b) (h1:a.length=m) (h2:b.length=m):((aRc m).map fun k=>dU (opV num (cS S k)))=aTg (eU num) a b:=by
 apply List.ext_getElem?;intro i
 by_cases hi:i<m
 ·have e1:(cS S i).getD 0 0=a[i]'(by omega):=by
   unfold cS;rw [aTr,aSf,ha];exact cQ a i (by omega)
  have e2:(cS S i).getD (if num=3 then 0 else 1) 0=b[i]'(by omega):=by
   unfold cS;rw [aTr,aSf,hb];exact cQ b i (by omega)
  rw [aSf,List.getElem?_range hi,aQ0 (by simp;omega),List.getElem_zipWith];simp only [Option.map_some,aQr];unfold opV eU;rw [e1,e2]
 ·rw [aUq (by simp;omega),aUq (by simp;omega)]
theorem aAl {t:Tex} {L:List (List Int)} {s:ByteArray} {args:List (List Int)} (G:iC lo w n m pu tu f tm t) (hlo:lo<=w.heap.size) (hL:SS 0 lo' w lv L) (hlo':lo'<=w.heap.size) (hn:S9 num) (ho:op=1\/op=2\/op=3)
  (h3:op=3->∃j:Nat,num=j/\∃xs,L[j]?=some xs/\fG m xs) :
  Calls aQt 235 #[.agg #[n,pu,tm,t.log,tu],.agg #[op,.string s,num],lv] w fun e w'=>∃r,e = .returned r/\aB w.heap.size w' r (iM n m f tm t op s num args L)/\Ext w w':=by
 obtain ⟨q1,q2,q3⟩:=G.hmi
 rcases ho with rfl|rfl|rfl
 ·have e:iM n m f tm t 1 s num args L=aRa m num:=by unfold iM;rw [if_pos rfl]
  rw [e];exact aOb 0 lo n m pu tu lv f tm t.log s num w G.flats hlo G.hm G.h1 G.h8 (aRa m num) (by simp) hn.i64 (fun k h=>by simp)
 ·have e:iM n m f tm t 2 s num args L=(aRc m).map (lK s.toList f tm):=by unfold iM;rw [if_neg (by simp),if_pos rfl]
  rw [e];refine aOc 0 lo n m pu tu lv f tm t.log s num w G.flats hlo G.hm G.h1 G.h8 ((aRc m).map (lK s.toList f tm)) (by simp) (fun k h=>by simp) (fun x hx=>?_);obtain ⟨i,hi,rfl⟩:=aSt.1 hx;exact (aHl _ G.f9 G.tm9 (aRu.1 hi)).i64
 ·obtain ⟨j,rfl,xs,hx,hg⟩:=h3 rfl
  have e:iM n m f tm t 3 s j args L=xs:=by unfold iM;rw [if_neg (by simp),if_neg (by simp),if_pos rfl,aRh,aTr,hx];rfl
  rw [e];exact aOa 0 lo' n pu tu lv tm t.log s j L xs w hL hlo' hx (by rw [hg.1];omega) (by rw [hg.1];omega)
theorem aGa {av:Value} {t:Tex} {L args:List (List Int)} {s:ByteArray} (G:iC lo w n m pu tu f tm t) (hlo:lo<=w.heap.size) (hS:SS 0 lo' w av args) (hlo':lo'<=w.heap.size) (ho:op=5\/op=6\/op=7)
  (hwf:wfI op s num L0=true) (hp:cI op s=p) (hl:args.length=p) (hg:∀r∈args,fG m r) :
  Calls aQt 236 #[.agg #[n,pu,tm,t.log,tu],.agg #[op,.string s,num],av] w fun e w'=>∃r,e = .returned r/\aB w.heap.size w' r (iM n m f tm t op s num args L)/\Ext w w':=by
 obtain ⟨q1,q2,q3⟩:=G.hmi
 rcases ho with rfl|rfl|rfl
 ·have h0:p=1:=by have:cI 5 s=1:=rfl;omega
  have h4:num=3:=by simp [wfI] at hwf;exact hwf.2
  subst h4
  obtain ⟨a,rfl⟩:∃a,args=[a]:=by
   match args,hl.trans h0 with
   | [a],_=>exact ⟨a,rfl⟩
  have e:iM n m f tm t 5 s 3 [a] L=(aRc m).map fun k=>dU (opV 3 (cS [a] k)):=by
   unfold iM;rw [if_neg (by simp),if_neg (by simp),if_neg (by simp),if_pos rfl,aK0 (a:=a) (b:=a) rfl rfl (hg a (by simp)).1 (hg a (by simp)).1]
   rfl
  rw [e];exact aMo (opV 3) s 3 [a] 0 lo' 0 lo n m pu tu av tm t w aMq hS hlo' G.tex hlo hg q1 q3 (by simp)
 ·have h0:p=2:=by have:cI 6 s=2:=rfl;omega
  have h2:inB num 4 7=true:=by simp [wfI] at hwf;exact hwf.2
  have hb:=aG.1 h2
  have h3:num≠3:=by omega
  obtain ⟨a,b,rfl⟩:∃a b,args=[a,b]:=by
   match args,hl.trans h0 with
   | [a,b],_=>exact ⟨a,b,rfl⟩
  have e:iM n m f tm t 6 s num [a,b] L=(aRc m).map fun k=>dU (opV num (cS [a,b] k)):=by
   unfold iM;rw [if_neg (by simp),if_neg (by simp),if_neg (by simp),if_neg (by simp),if_pos rfl,aK0 (a:=a) (b:=b) rfl (by rw [if_neg h3];rfl) (hg a (by simp)).1 (hg b (by simp)).1]
   rfl
  rw [e];exact aMp (opV num) s num [a,b] 0 lo' 0 lo n m pu tu av tm t w (aKz h2) hS hlo' G.tex hlo hg q1 q3 (by simp)
 ·have h5:cA s=p:=by have:cI 7 s=cA s:=rfl;omega
  have e:iM n m f tm t 7 s num args L=eJ n m t s.toList args:=by
   unfold iM;rw [if_neg (by simp),if_neg (by simp),if_neg (by simp),if_neg (by simp),if_neg (by simp)]
  rw [e];exact aI5 s num args 0 lo' 0 lo n m pu tu av tm t w (by omega) (by omega) G.ok hS hlo' G.tex hlo hg G.hm G.h1 G.h8
structure Mst (lo lo2:Nat) (w:World) (sv lv:Value) (vs us:List Value) (S L:List (List Int)):Prop where
 so:w.ownsRow lo2 24 1 sv vs.length vs
 lo':w.ownsRow lo 24 1 lv us.length us
 sep:∀k,lv.ownBlock=some k->k<lo2
 hl:lo<=lo2
 hl2:lo2<=w.heap.size
 sr:Rws lo w vs S
 lr:Rws lo w us L
theorem Mst.ext {S L:List (List Int)} (M:Mst lo lo2 w sv lv vs us S L) (e:Ext w w'):Mst lo lo2 w' sv lv vs us S L:=by
 have hg:w.grownBy w' none:=⟨Below.os e,Below.tape e,Below.output e,e.size,fun k hk _=>e.block hk⟩
 exact ⟨M.so.kept hg (by cases sv.ownBlock <;> simp),M.lo'.kept hg (by cases lv.ownBlock <;> simp),M.sep,M.hl,aQw M.hl2 e.size,M.sr.keepI e.keepI,M.lr.keepI e.keepI⟩
theorem Mst.push {v':Value} {S L:List (List Int)} {r:List Int} (M:Mst lo lo2 w sv lv vs us S L) (hv':w'.ownsRow lo2 24 1 v' (vs.length+1) (vs++[y])) (hg:w.grownBy w' sv.ownBlock) (hy:aB lo w y r) :
  Mst lo lo2 w' v' lv (vs++[y]) us (S++[r]) L/\Below lo w w':=by
 have h0:=aSl M.so;have kk:fE w w':=fE.grown hg (fun k cur fr hk=>ownsRow.int M.so (by decide) k cur fr hk);refine ⟨⟨by simpa using hv',M.lo'.kept hg ?_,M.sep,M.hl,aQw M.hl2 hg.size,(M.sr.keepI kk).snoc (hy.keepI kk),M.lr.keepI kk⟩,bAg (aW5 _ _) hg (aQw M.hl M.hl2) (fun k hk=>by have:=(h0 k hk).1;have:=M.hl;omega)⟩
 cases hk:lv.ownBlock with
 | none=>exact .inl rfl
 | some k=>exact .inr (fun e=>by have h1:=M.sep k hk;have h2:=(h0 k e.symm).1;omega)
theorem Mst.shrink {S L:List (List Int)} (M:Mst lo lo2 w (.slice (some ⟨g,0,none⟩) vs.length cap) lv vs us S L) (q:Nat) (hq:q<=vs.length):Mst lo lo2 w (.slice (some ⟨g,0,none⟩) q cap) lv (vs.take q) us (S.take q) L:=by
 have e:(vs.take q).length=q:=by simp;omega
 exact ⟨by rw [e];exact ownsRow.shrink M.so hq,M.lo',M.sep,M.hl,M.hl2,M.sr.take q,M.lr⟩
theorem Mst.store {lb lc:Nat} {S L:List (List Int)} {r:List Int} (M:Mst lo lo2 w sv (.slice (some ⟨lb,0,none⟩) us.length lc) vs us S L) (j:Nat) (hy:aB lo w y r) :
  Mst lo lo2 (w.setCell ⟨lb,j,none⟩ y) sv (.slice (some ⟨lb,0,none⟩) us.length lc) vs (us.set j y) S (L.set j r)/\Below lo w (w.setCell ⟨lb,j,none⟩ y):=by
 have h0:=aZl M.lo' j y;have kk:fE w (w.setCell ⟨lb,j,none⟩ y):=fE.setCell _ (fun cur fr=>ownsRow.int M.lo' (by decide) lb cur fr rfl);have h5:=aSl M.so;have h4:=aSl M.lo' lb rfl
 have h3:(us.set j y).length=us.length:=by simp
 refine ⟨⟨M.so.kept h0.2 ?_,by rw [h3];exact h0.1,M.sep,M.hl,by have:=M.hl2;simpa using this,M.sr.keepI kk,(M.lr.keepI kk).set j (hy.keepI kk)⟩,aXc (aW5 _ _) h4.1 _⟩
 cases hk:sv.ownBlock with
 | none=>exact .inl rfl
 | some k=>exact .inr (fun e=>by injection e with e;have h1:=M.sep lb rfl;have h2:=(h5 k hk).1;omega)
theorem ownsRow.ssF {L:Nat} {S:List (List Int)} (h:w.ownsRow lo 24 1 v p vs) (hr:Rws lo' w vs S) (h0:L<=lo) (h1:L<=lo'):SS L w.heap.size w v S:=by
 have hl:=hr.len
 have hp:p=S.length:=by have:=h.1;omega
 subst hp
 rcases h.2 with ⟨rfl,h4⟩|⟨g,cap,cur,rfl,hb,hg,hc,hm,hs,ht⟩
 ·refine ⟨none,0,by rw [h4],by omega,by unfold maxLen;omega,fun i xs hx=>?_⟩
  have:=(aQq.1 hx).1;omega
 ·refine ⟨some ⟨g,0,none⟩,cap,rfl,hc,hm,fun i xs hx=>?_⟩
  have hi:=(aQq.1 hx).1
  obtain ⟨v,hv⟩:∃v,vs[i]?=some v:=⟨vs[i]'(by omega),by simp [show i<vs.length by omega]⟩
  refine ⟨g,0,v,rfl,aQw h0 hb,(aQ9.1 hg).1,?_,(hr.own i _ xs hv hx).ints.wide h1 (aQo _)⟩;have e:=hv;rw [<-ht,aSr,if_pos (by omega)] at e;simp only [aSn,hg,aRl];rw [<-aTn];exact e
theorem aB2 (lo hi lo' hi':Nat) (v u:Value) (c:Cod) (g:Grd) (w:World) (hv:c.R lo hi w v) (hh:hi<=w.heap.size) (hu:g.R lo' hi' w u) (hh':hi'<=w.heap.size) (hL:c.ls.length<=2000000) (hyes:(c.runB&&g.okB)=true) :
  Calls aQt 193 #[v,u] w fun e w'=>∃r,e = .returned (.tuple #[r,.bool true])/\SS w.heap.size w'.heap.size w' r (c.out g)/\Ext w w':=by
 have HV:=hid hv;have HU:=hid hu;obtain ⟨a1,c1,a2,c2,rfl,HI,-⟩:=hv.form;obtain ⟨pu,tu,rfl,-,n7,k3,hp,ht⟩:=hu;clear hv;have k1:=HI.le;have k2:=HI.cap;simp only [aQ4] at hyes;obtain ⟨h1,h2⟩:=hyes;obtain ⟨n,hn,j3,n1,n8,j4,b5,i8⟩:=Grd.parts h2
 have z6:∀x∈c.xs,gX x=true:=by unfold Cod.runB at h1;simp at h1;exact h1.2
 have h7:c.depth.isSome=true:=by unfold Cod.runB at h1;simp at h1;exact h1.1
 have j1:c.xs.length<=300:=by
  have h7:=h7;unfold Cod.depth at h7
  split at h7
  ·assumption
  ·simp at h7
 have a9:kW n g.m g.f g.tm g.t c.xs [] (aRa c.ls.length [])=c.out g:=by unfold Cod.out;rw [hn];rfl
 have HG:=hid (show iC w.heap.size w n g.m pu tu g.f g.tm g.t from ⟨hp.wide (aR8 _) hh',⟨tu,rfl,k3,ht.wide (aR8 _) hh'⟩,j3,n1,n8,j4,b5,i8⟩);have HD:=hid h7;have HN:=hid z6;have d2:=hid a9;clear hp ht n7 k3 j3 j4 b5 i8 h7 z6 a9;rw [hn];replace hn:=hid hn;have x0:Ext w ((w.alloc (.cells #[.slice a1 c.xs.length c1,.slice a2 c.ls.length c2] 163)).alloc (.cells #[n,pu,g.tm,g.t.log,tu] 168)):=X_;have cb:=(hH.made w (.slice a1 c.xs.length c1) (.slice a2 c.ls.length c2) 163).ext ((aQy _).alloc (.cells #[n,pu,g.tm,g.t.log,tu] 168));have gb:=tF.made (w.alloc (.cells #[.slice a1 c.xs.length c1,.slice a2 c.ls.length c2] 163)) n pu g.tm g.t.log tu 168;simp only [aQp] at gb
 obtain ⟨W0,c8⟩:∃W,(w.alloc (.cells #[.slice a1 c.xs.length c1,.slice a2 c.ls.length c2] 163)).alloc (.cells #[n,pu,g.tm,g.t.log,tu] 168)=W:=⟨_,rfl⟩
 rw [c8] at x0 cb gb;have a0:=hid cb;have a3:=hid gb;have z1:=hid x0;have l0:=hid c8;have o6:=x0.size
 have o9:w.heap.size+2=W0.heap.size:=by rw [<-c8];simp
 clear cb gb x0 c8
 obtain ⟨a5,a7⟩:∃b,c.depth.isSome=b:=⟨_,rfl⟩
 obtain ⟨dm,i7⟩:∃b,c.depth.getD 0=b:=⟨_,rfl⟩
 have g8:=hid a7;have k4:=hid i7;clear a7 i7;go_enter func193,ntmps193;go_wp2_with fail;rw [l0];refine r_ (vN ⟨k4,g8⟩ lo hi _ _ (HV.ext hh z1) (by omega) hL) fun w1 x1=>?_;have c6:=a0.ext x1;have i4:=hid x1;have q0:=c6.lt;have q1:=c6.c0;have q2:=c6.c1;clear c6 x1;go_wp2
 go_loopw [7,26] (fun okv i wr=>∃k:Nat,k<=c.xs.length/\i = .int .i64 k/\okv = .bool (a5&&(c.xs.take k).all gX)/\Ext W0 wr) (fun _ i _=>c.xs.length - (intOf i).toNat)
 case atStart=>exact ⟨0,by omega,rfl,by simp,i4⟩
 case round=>
  clear q0 q1 q2 i4;obtain ⟨k,hk,rfl,rfl,hx⟩:=hrel
  by_cases a8:k<c.xs.length
  ·obtain ⟨b,n6,op,s,num,rfl,l9,m0,q4,q8,io,n5,y0,y1,y2⟩:=HI.at a8 (z1.trans hx) hh
   have j0:c.xs[k]=⟨op,s,num⟩:=by have:=q8;rw [aQ0 a8] at this;exact aSm this
   have d8:(a5&&(c.xs.take (k+1)).all gX)=((a5&&(c.xs.take k).all gX)&&inB num (-1000000000) 1000000000):=by
    rw [aRk a8,aYz,j0,aY9];simp [gX]
   obtain ⟨l5,a6⟩:∃b,(a5&&(c.xs.take k).all gX)=b:=⟨_,rfl⟩
   rw [a6] at d8 ⊢;have d0:=hid d8;have HX:=hid hx;clear d8 a6 j0 q8 q4 hx
   cases l5
   ·go_wp2
    go_roundw
    case rel=>exact ⟨k+1,by omega,by go_num,by rw [d0];rfl,by have hx:=HX.out;exact S_⟩
    case measure=>simp [intOf];omega
   ·cases z4:inB num (-1000000000) 1000000000
    ·have a4:=hid z4
     clear z4;go_wp2_with fail;refine z_ (aE a4 _) ?_;go_wp2;go_roundw
     case rel=>exact ⟨k+1,by omega,by go_num,by rw [d0,a4];rfl,by have hx:=HX.out;exact S_⟩
     case measure=>simp [intOf];omega
    ·have a4:=hid z4
     clear z4;go_wp2_with fail;refine z_ (aE a4 _) ?_;go_wp2;go_roundw
     case rel=>exact ⟨k+1,by omega,by go_num,by rw [d0,a4];rfl,by have hx:=HX.out;exact S_⟩
     case measure=>simp [intOf];omega
  ·obtain rfl:k=c.xs.length:=by omega
   rw [aRo]
   have j7:(a5&&c.xs.all gX)=c.runB:=by rw [<-g8];rfl
   rw [j7];have h6:=a3.ext hx;have h9:=a0.ext hx;have HX:=hid hx;have g0:=h6.lt;have g1:=h6.c0;have g2:=h6.c1;have g3:=h6.c2;have g4:=h6.c3;have g5:=h6.c4;have q0:=h9.lt;have q1:=h9.c0;have q2:=h9.c1;clear j7 hx h6 h9;rw [h1];have p0:=HX.size;go_wp2_with fail;refine r_ (wV h2 lo' hi' _ _ (by have:=HU.ext hh' (z1.trans HX);rw [hn.out] at this;exact this) (by omega)) fun w2 x2=>?_;have X2:=HX.trans x2;have h6:=a3.ext X2;have h9:=a0.ext X2;clear g0 g1 g2 g3 g4 g5 q0 q1 q2;have g0:=h6.lt;have g1:=h6.c0;have g2:=h6.c1;have g3:=h6.c2;have g4:=h6.c3;have g5:=h6.c4;have q0:=h9.lt;have q1:=h9.c0;have q2:=h9.c1;have l1:=hid X2;have n4:=X2.size;clear h6 h9 X2 x2;obtain ⟨i0,i9,b8,b9,c5⟩:=info_parts oU;go_wp2_with (at_make;refine wpList_make_row _ rfl _ _ 76 rfl 24 i0 (.slice none 0 0) underlying76 i9 b8 b9 rfl .i64 .i64 c.ls.length rfl rfl (by rw [c5];omega) (by omega) ?_);clear i9 b8 b9 c5
   have M0:=hid (show Mst W0.heap.size (w2.heap.size+1) ((w2.alloc (.cells (madeCells #[.slice none 0 0] c.ls.length) 24)).alloc (.cells #[] 24)) (.slice (some ⟨w2.heap.size+1,0,none⟩) 0 0) (.slice (some ⟨w2.heap.size,0,none⟩) c.ls.length c.ls.length) [] (aRa c.ls.length (.slice none 0 0)) [] (aRa c.ls.length []) from by
    have hf:=ownsRow.fresh w2 W0.heap.size c.ls.length n4 hL;refine ⟨?_,hf.alloc _,fun k hk=>by simp [aRm] at hk;omega,by omega,by simp,Rws.nil _ _,Rws.nils _ _ _⟩;have:=aJy (w2.alloc (.cells (madeCells #[.slice none 0 0] c.ls.length) 24)) (.cells #[] 24)
    exact ownsRow.empty (aQo _) (by simpa using this))
   have X3:=hid (show Ext W0 ((w2.alloc (.cells (madeCells #[.slice none 0 0] c.ls.length) 24)).alloc (.cells #[] 24)) from (l1.alloc _).alloc _)
   have o2:w.heap.size<=W0.heap.size:=by omega
   clear g0 g1 g2 g3 g4 g5 q0 q1 q2
   go_loopw [11,52] (fun sv i wr=>∃(k:Nat) (vs us:List Value) (S L:List (List Int)),k<=c.xs.length/\i = .int .i64 k/\Mst W0.heap.size (w2.heap.size+1) wr sv (.slice (some ⟨w2.heap.size,0,none⟩) c.ls.length c.ls.length) vs us S L/\(∃g cap,sv = .slice (some ⟨g,0,none⟩) vs.length cap)/\nB c.ls.length g.m (c.xs.drop k) S L/\kW n g.m g.f g.tm g.t (c.xs.drop k) S L=c.out g/\S.length<=k/\Ext W0 wr) (fun _ i _=>c.xs.length - (intOf i).toNat)
   case atStart=>exact ⟨0,_,_,_,_,by omega,rfl,M0,⟨_,_,rfl⟩,by rw [aWq];exact nB.start HD,by rw [aWq];exact d2,by simp,X3⟩
   case round=>
    clear M0 X3;obtain ⟨k,vs,us,S,L,hk,rfl,M,⟨gs,gc,rfl⟩,ok,hrun,hSk,hx⟩:=hrel
    by_cases a8:k<c.xs.length
    ·obtain ⟨b,n6,op,s,num,rfl,l9,m0,q4,q8,io,n5,y0,y1,y2⟩:=HI.at a8 (z1.trans hx) hh
     rw [q4] at ok hrun;have z4:gX ⟨op,s,num⟩=true:=HN _ (aRe q8);have e4:=ok.wf;obtain ⟨p,hp,d9⟩:=ok.pops;have y5:=ok.local;have HK:=hid (ok.next (t:=g.t) HG.hm z4 HG.f9 HG.tm9);have z3:=ok.rows;have j2:=ok.len;simp only at e4 hp d9 y5
     obtain ⟨q,e0⟩:∃q,iN op s S=q:=⟨_,rfl⟩
     rw [e0] at d9;have x8:=M.sr.len;have e3:=M.lr.len;rw [<-x8] at d9 hSk;replace x8:=hid x8;replace e3:=hid e3
     obtain ⟨qv,j5⟩:∃q,fZ op=q:=⟨_,rfl⟩
     have z5:S9 num:=aG.1 (show inB num (-1000000000) 1000000000=true from z4);obtain ⟨p1,p2⟩:=ownsRow.caps M.so;obtain ⟨m4,d7⟩:=aSl M.so gs rfl
     have n2:(vs.length:Int) - p=q:=by omega
     have j8:vs.length - q=p:=by omega
     have e9:Ext wr (wr.alloc (.cells #[op,.string s,num] 221)):=X_;have HX:=hid hx;have HM:=hid (M.ext e9);have HQ:=hid e0;have x3:=hid hrun;have HP:=hid hp;have k7:=hid j5;have y7:=hid e4;have k5:=hid z3;have k6:=hid y5
     have i6:(vs.drop q).length=p:=by simp;omega
     have y6:=hid i6
     have g6:Hid (∀(w':World),Ext wr w'->∀i y,(vs.drop q)[i]?=some y->w'.cell? ⟨gs,q+i,none⟩=some y):=by
      intro w' x' i y hy;rw [aS0] at hy;have m7:=(aQq.1 hy).1;rw [x'.cells.1 _ _ d7,aSv M.so (q+i) (by omega)];exact hy
     have i2:Hid (∀y∈vs.drop q,y.oneCell'=true):=fun y hy=>M.sr.one y (aT9 hy);have h9:=a0.ext hx;have h6:=a3.ext hx;have b0:=h9.lt;have b1:=h9.c0;have b2:=h9.c1;have g0:=h6.lt;have g1:=h6.c0;have g2:=h6.c1;have g3:=h6.c2;have g4:=h6.c3;have g5:=h6.c4;have o7:=hx.size;clear M ok hrun q8 q4 hx z4 e4 hp j5 z3 y5 e0 i6 h9 h6;go_wp2_with fail;refine r_ (oM _ _ _ _ _ c.ls.length hL op s num _ y7 HP k7) fun w4 x4=>?_;have x5:Ext wr w4:=e9.trans x4;have M4:=HM.ext x4;have h9:=a0.ext (HX.trans x5);have h6:=a3.ext (HX.trans x5);have y9:=(jN.made wr op s num 221).ext x4;have y4:=hid M4;have q9:=hid x5;have d4:=hid y9;have o8:=x5.size;clear b0 b1 b2 g0 g1 g2 g3 g4 g5 y0 y1 y2 HM M4;have b0:=h9.lt;have b1:=h9.c0;have b2:=h9.c1;have g0:=h6.lt;have g1:=h6.c0;have g2:=h6.c1;have g3:=h6.c2;have g4:=h6.c3;have g5:=h6.c4;have y0:=y9.lt;have y1:=y9.c0;have y2:=y9.c1;have y3:=y9.c2;clear h9 h6 y9 x4 x5 e9
     have c9:=hid (show ∀w5,Ext w4 w5->tF w5 (w.heap.size+1) n pu g.tm g.t.log tu/\jN w5 wr.heap.size op s num from fun w5 x5=>⟨(a3.ext (HX.trans (q9.trans x5))),by
      have hq:=d4.ext x5
      exact hq⟩)
     by_cases m8:p=0
     ·subst m8
      have q5:op=1\/op=2\/op=3:=by
       have hw:=y7.out;have z8:=HP.out;have o3:=nN s
       by_cases h1:1<=op/\op<=7
       ·rcases (show op=1\/op=2\/op=3\/op=4\/op=5\/op=6\/op=7 by omega) with rfl|rfl|rfl|rfl|rfl|rfl|rfl
        ·exact .inl rfl
        ·exact .inr (.inl rfl)
        ·exact .inr (.inr rfl)
        ·exact absurd z8 (by have:cI 4 s=1:=rfl;omega)
        ·exact absurd z8 (by have:cI 5 s=1:=rfl;omega)
        ·exact absurd z8 (by have:cI 6 s=2:=rfl;omega)
        ·exact absurd z8 (by have:cI 7 s=cA s:=rfl;omega)
       ·unfold wfI at hw
        rw [if_neg (by omega),if_neg (by omega),if_neg (by omega),if_neg (by omega),if_neg (by omega),if_neg (by omega),if_neg (by omega)] at hw;cases hw
      have h4:(op==4)=false:=by rcases q5 with rfl|rfl|rfl <;> rfl
      have i5:op≠4:=by rintro rfl;cases h4
      obtain rfl:q=vs.length:=by omega
      have z7:=hid q5
      have j6:Hid (op=3->∃j:Nat,num=j/\∃xs,L[j]?=some xs/\fG g.m xs):=fun h3=>by
       obtain ⟨j,hj,_⟩:=mV y7 (.inl h3);obtain ⟨xs,hx,m5⟩:=k6 h3;rw [hj,aRh] at hx;exact ⟨j,hj,xs,hx,m5⟩
      clear q5
      have eS:Hid (eH n g.m g.f g.tm g.t ⟨op,s,num⟩ S L=S.take vs.length++[iM n g.m g.f g.tm g.t op s num (S.drop vs.length) L]):=by
       unfold eH;rw [if_neg i5,HQ]
       rfl
      have eL:Hid (gD ⟨op,s,num⟩ S L=L):=by unfold gD;rw [if_neg i5];rfl
      obtain ⟨row,h8⟩:∃r,iM n g.m g.f g.tm g.t op s num (S.drop vs.length) L=r:=⟨_,rfl⟩
      have q3:=hid h8;clear h8
      by_cases m2:gc=vs.length
      ·subst m2
       go_wp2_with (at_builtin;refine dH _ rfl _ _ rfl w4.heap.size (.slice (some ⟨w4.heap.size,0,none⟩) 0 0) 0 [] rfl (ownsRow.empty (aQo _) (cB w4 _)) [] (fun y h=>by cases h) _ _ _ rfl (fun i y h=>by simp at h) (by simp) (by simp) ?_;intro v5 w5 h0 q7;have X5:Ext w4 w5:=((aQy w4).alloc _).grown q7 (fun k e=>by simp [aRm] at e;omega);obtain ⟨n9,e8,rfl⟩:=ownsRow.form h0;obtain ⟨⟨u0,u1,u2,u3,u4,u5⟩,⟨t0,t1,t2,t3⟩⟩:=c9.out w5 X5;have e7:=X5.size);have M5:=y4.ext X5;have q6:=aAl (args:=S.drop vs.length) (lo:=w.heap.size) (lo':=w5.heap.size) (op:=op) (s:=s) (num:=num) (HG.step (z1.trans (HX.trans (q9.trans X5)))) (by omega) (ownsRow.ss M5.lo' M5.lr) (aQo _) z5 z7.out j6.out;rw [q3] at q6;refine q6.mono ?_;rintro e w6 ⟨r,rfl,hr,x6⟩;obtain ⟨ra,rc,rfl,_⟩:=hr.form;have M6:=hid (M5.ext x6);have b4:=hid (hr.low (show W0.heap.size<=w5.heap.size by omega));have X6:=hid ((HX.trans (q9.trans X5)).trans x6);have k0:=x6.size;clear q6 M5 hr x6 u0 u1 u2 u3 u4 u5 t0 t1 t2 t3 h0 q7 X5;go_wp2_with (at_builtin;refine fF _ rfl _ _ rfl (w2.heap.size+1) _ vs.length vs rfl (aU4 M6.so _) (.slice ra row.length rc) rfl w6.heap.size rfl (by simp [go_sem]) (by omega) (by have:=M6.hl2;simp;omega) ?_;intro v7 w7 h5 z2;obtain ⟨g7,c7,rfl,_,_⟩:=ownsRow.form1 h5 (by omega));have MB:=(M6.ext ((aQy w6).alloc (.cells #[.slice ra row.length rc] 24))).push h5 z2 (b4.out.ext ((aQy w6).alloc (.cells #[.slice ra row.length rc] 24)));have x9:=hid MB;clear MB h5 z2;go_wp2;go_roundw
       case rel=>
        refine ⟨k+1,vs++[.slice ra row.length rc],us,eH n g.m g.f g.tm g.t ⟨op,s,num⟩ S L,gD ⟨op,s,num⟩ S L,by omega,by go_num,?_,⟨g7,c7,by simp⟩,HK,x3,?_,aVr (X6.alloc _) x9.2⟩
        ·have hS:S.take vs.length=S:=by rw [x8.out,aRo]
         rw [eS.out,eL.out,q3,hS];exact x9.1
        ·have hv:=x8.out
         rw [eS.out,aRg,aRf,aUs];omega
       case measure=>simp [intOf];omega
      ·skip
       go_wp2_with (at_builtin;refine dH _ rfl _ _ rfl w4.heap.size (.slice (some ⟨w4.heap.size,0,none⟩) 0 0) 0 [] rfl (ownsRow.empty (aQo _) (cB w4 _)) [] (fun y h=>by cases h) _ _ _ rfl (fun i y h=>by simp at h) (by simp) (by simp) ?_;intro v5 w5 h0 q7;have X5:Ext w4 w5:=((aQy w4).alloc _).grown q7 (fun k e=>by simp [aRm] at e;omega);obtain ⟨n9,e8,rfl⟩:=ownsRow.form h0;obtain ⟨⟨u0,u1,u2,u3,u4,u5⟩,⟨t0,t1,t2,t3⟩⟩:=c9.out w5 X5;have e7:=X5.size);have M5:=y4.ext X5;have q6:=aAl (args:=S.drop vs.length) (lo:=w.heap.size) (lo':=w5.heap.size) (op:=op) (s:=s) (num:=num) (HG.step (z1.trans (HX.trans (q9.trans X5)))) (by omega) (ownsRow.ss M5.lo' M5.lr) (aQo _) z5 z7.out j6.out;rw [q3] at q6;refine q6.mono ?_;rintro e w6 ⟨r,rfl,hr,x6⟩;obtain ⟨ra,rc,rfl,_⟩:=hr.form;have M6:=hid (M5.ext x6);have b4:=hid (hr.low (show W0.heap.size<=w5.heap.size by omega));have X6:=hid ((HX.trans (q9.trans X5)).trans x6);have k0:=x6.size;clear q6 M5 hr x6 u0 u1 u2 u3 u4 u5 t0 t1 t2 t3 h0 q7 X5;go_wp2_with (at_builtin;refine fF _ rfl _ _ rfl (w2.heap.size+1) _ vs.length vs rfl (aU4 M6.so _) (.slice ra row.length rc) rfl w6.heap.size rfl (by simp [go_sem]) (by omega) (by have:=M6.hl2;simp;omega) ?_;intro v7 w7 h5 z2;obtain ⟨g7,c7,rfl,_,_⟩:=ownsRow.form1 h5 (by omega));have MB:=(M6.ext ((aQy w6).alloc (.cells #[.slice ra row.length rc] 24))).push h5 z2 (b4.out.ext ((aQy w6).alloc (.cells #[.slice ra row.length rc] 24)));have x9:=hid MB;clear MB h5 z2;go_wp2;go_roundw
       case rel=>
        refine ⟨k+1,vs++[.slice ra row.length rc],us,eH n g.m g.f g.tm g.t ⟨op,s,num⟩ S L,gD ⟨op,s,num⟩ S L,by omega,by go_num,?_,⟨g7,c7,by simp⟩,HK,x3,?_,aVr (X6.alloc _) x9.2⟩
        ·have hS:S.take vs.length=S:=by rw [x8.out,aRo]
         rw [eS.out,eL.out,q3,hS];exact x9.1
        ·have hv:=x8.out
         rw [eS.out,aRg,aRf,aUs];omega
       case measure=>simp [intOf];omega
     ·have m3 : ¬gc=q:=by omega
      have x7:q<=vs.length:=by omega
      have o5:1<=p:=by omega
      by_cases h4:op=4
      ·subst h4
       have b3:p=1:=by
        have:=HP.out;have e:cI 4 s=1:=rfl;omega
       have n0:q+1=vs.length:=by omega
       replace b3:=hid b3;obtain ⟨j,rfl,o4⟩:=mV y7 (.inr rfl);obtain ⟨y,e5,n3⟩:=lU vs q n0
       obtain ⟨row,h8⟩:∃r,S.getD q []=r:=⟨_,rfl⟩
       have e6:aB W0.heap.size w4 y row:=by
        have h1:S[q]?=some row:=by
         rw [<-h8,aTr,aQ0 (by have:=x8.out;omega)]
         rfl
        have h2:vs[q]?=some y:=by
         have:(vs.drop q)[0]?=some y:=by rw [e5];rfl
         rwa [aS0,aSa] at this
        exact y4.sr.own q y row h2 h1
       obtain ⟨ya,yc,rfl,_⟩:=e6.form;have l4:=hid e6;have l3:=hid e5
       have b6:us.length=c.ls.length:=by have:=e3.out;have:=y4.lr.len;omega
       have m6:j<us.length:=by omega
       obtain ⟨y0,j9⟩:∃y,us[j]?=some y:=⟨us[j],by simp [m6]⟩
       have l2:=hid j9;have d3:=hid b6
       have l8:Hid (∀(w':World),Ext w4 w'->w'.cell? ⟨w2.heap.size,j,none⟩=some y0/\w'.frozen? ⟨w2.heap.size,j,none⟩=false/\w2.heap.size<w'.heap.size):=fun w' x'=>by
        have M':=(y4.ext x').lo';have hb:=(aSl M' w2.heap.size rfl).2;rw [d3] at M';exact ⟨(aSv M' j (by omega)).trans l2,aYu M' j,hb⟩
       have eS:Hid (eH n g.m g.f g.tm g.t ⟨4,s,j⟩ S L=S.take q):=by
        unfold eH;rw [if_pos rfl,HQ]
        rfl
       have eL:Hid (gD ⟨4,s,j⟩ S L=L.set j row):=by
        unfold gD;rw [if_pos rfl,HQ,h8,aRh]
        rfl
       have o1:=hid h8;clear e6 e5 n3 b6 j9 h8;go_wp2_with (at_builtin;refine dH _ rfl _ _ rfl w4.heap.size (.slice (some ⟨w4.heap.size,0,none⟩) 0 0) 0 [] rfl (ownsRow.empty (aQo _) (cB w4 _)) (vs.drop q) i2 gs q (gc - q) (Eq.trans (b:=aR4 (some ⟨gs,q,none⟩) p (gc - q)) rfl (by rw [y6])) (g6 _ (q9.alloc _)) (by rw [y6];omega) (by simp) ?_;intro v5 w5 h0 q7;have X5:Ext w4 w5:=((aQy w4).alloc _).grown q7 (fun k e=>by simp [aRm] at e;omega);rw [y6,aRl,aSk] at h0;obtain ⟨l6,e8,rfl,d5,d6⟩:=ownsRow.form1 h0 (by omega);obtain ⟨⟨u0,u1,u2,u3,u4,u5⟩,⟨t0,t1,t2,t3⟩⟩:=c9.out w5 X5;have e7:=X5.size ;rw [l3] at h0;have z0:=aSv h0 0 (by omega);simp at z0;obtain ⟨b0,b1,b2⟩:=l8.out w5 X5);refine aA [([0,1,2,3,4,5,6],7)] 7 w5.heap.size (by kernel_rfl) (by kernel_rfl) ?_;refine st_ fun K hK=>?_;go_wp2_with fail;go_wp2_with fail;refine l_ hK ?_;clear hK K;refine aC ?_;have M5:=y4.ext X5;have MS:=M5.shrink q x7;have b7:=l4.ext X5;rw [<-d3] at MS;have MT:=MS.store j b7;have i1:=hid MT;have X6:=hid ((HX.trans (q9.trans X5)));clear M5 MS MT b7 X5 h0 q7;go_wp2;go_roundw
       case rel=>
        refine ⟨k+1,vs.take q,us.set j (.slice ya row.length yc),eH n g.m g.f g.tm g.t ⟨4,s,j⟩ S L,gD ⟨4,s,j⟩ S L,by omega,by go_num,?_,⟨gs,gc,by rw [aRf,aS6 x7]⟩,HK,x3,?_,aVr X6 ?_⟩
        ·rw [eS.out,eL.out]
         have:=i1.1;rw [d3] at this;exact this.ext (aRr (aQy _))
        ·rw [eS.out,aRf]
         omega
        ·exact i1.2.drew
       case measure=>simp [intOf];omega
      ·have q5:op=5\/op=6\/op=7:=by
        have hw:=y7.out;have z8:=HP.out
        by_cases h1:1<=op/\op<=7
        ·rcases (show op=1\/op=2\/op=3\/op=4\/op=5\/op=6\/op=7 by omega) with rfl|rfl|rfl|rfl|rfl|rfl|rfl
         ·exact absurd z8 (by have:cI 1 s=0:=rfl;omega)
         ·exact absurd z8 (by have:cI 2 s=0:=rfl;omega)
         ·exact absurd z8 (by have:cI 3 s=0:=rfl;omega)
         ·exact absurd rfl h4
         ·exact .inl rfl
         ·exact .inr (.inl rfl)
         ·exact .inr (.inr rfl)
        ·unfold wfI at hw
         rw [if_neg (by omega),if_neg (by omega),if_neg (by omega),if_neg (by omega),if_neg (by omega),if_neg (by omega),if_neg (by omega)] at hw;cases hw
       have eS:Hid (eH n g.m g.f g.tm g.t ⟨op,s,num⟩ S L=S.take q++[iM n g.m g.f g.tm g.t op s num (S.drop q) L]):=by
        unfold eH;rw [if_neg h4,HQ]
        rfl
       have eL:Hid (gD ⟨op,s,num⟩ S L=L):=by unfold gD;rw [if_neg h4];rfl
       have o0:(op==4)=false:=beq_eq_false_iff_ne.2 h4;have m9:((p:Int)==0)=false:=beq_eq_false_iff_ne.2 (by omega);have m1:Hid (∀r∈S.drop q,fG g.m r):=fun r hr=>k5 r (aT9 hr)
       have l7:Hid ((S.drop q).length=p):=by have:=x8.out;show (S.drop q).length=p;rw [List.length_drop];omega
       obtain ⟨row,h8⟩:∃r,iM n g.m g.f g.tm g.t op s num (S.drop q) L=r:=⟨_,rfl⟩
       have q3:=hid h8;have d1:=hid q5;clear h8 q5;go_wp2_with (at_builtin;refine dH _ rfl _ _ rfl w4.heap.size (.slice (some ⟨w4.heap.size,0,none⟩) 0 0) 0 [] rfl (ownsRow.empty (aQo _) (cB w4 _)) (vs.drop q) i2 gs q (gc - q) (Eq.trans (b:=aR4 (some ⟨gs,q,none⟩) p (gc - q)) rfl (by rw [y6])) (g6 _ (q9.alloc _)) (by rw [y6];omega) (by simp) ?_;intro v5 w5 h0 q7;have X5:Ext w4 w5:=((aQy w4).alloc _).grown q7 (fun k e=>by simp [aRm] at e;omega);rw [y6,aRl,aSk] at h0;obtain ⟨l6,e8,rfl,d5,d6⟩:=ownsRow.form1 h0 (by omega);obtain ⟨⟨u0,u1,u2,u3,u4,u5⟩,⟨t0,t1,t2,t3⟩⟩:=c9.out w5 X5;have e7:=X5.size);have M5:=y4.ext X5;have y8:=ownsRow.ss h0 ((M5.sr).drop q);have q6:=aGa (L:=L) (lo:=w.heap.size) (lo':=w5.heap.size) (op:=op) (s:=s) (num:=num) (HG.step (z1.trans (HX.trans (q9.trans X5)))) (by omega) y8 (aQo _) d1 y7 HP l7.out m1.out;rw [q3] at q6;refine q6.mono ?_;rintro e w6 ⟨r,rfl,hr,x6⟩;obtain ⟨ra,rc,rfl,_⟩:=hr.form
       have e2:(vs.take q).length=q:=by rw [aRf,aS6 x7]
       have M6:=(M5.shrink q x7).ext x6;have e1:=M6.so;rw [e2] at e1;have k8:=hid e1;have g9:=hid M6;have i3:=hid e2;have b4:=hid (hr.low (show W0.heap.size<=w5.heap.size by omega));have X6:=hid ((HX.trans (q9.trans X5)).trans x6);have k0:=x6.size;clear q6 M5 M6 e1 e2 hr x6 u0 u1 u2 u3 u4 u5 t0 t1 t2 t3 h0 q7 X5 y8;go_wp2_with (at_builtin;refine fF _ rfl _ _ rfl (w2.heap.size+1) _ q (vs.take q) rfl (aU4 k8 _) (.slice ra row.length rc) rfl w6.heap.size rfl (by simp [go_sem]) (by omega) (by have:=g9.hl2;simp;omega) ?_;intro v7 w7 h5 z2;obtain ⟨g7,c7,rfl,_,_⟩:=ownsRow.form1 h5 (by omega));have MB:=(g9.ext ((aQy w6).alloc (.cells #[.slice ra row.length rc] 24))).push (by rw [i3];exact h5) z2 (b4.out.ext ((aQy w6).alloc (.cells #[.slice ra row.length rc] 24)));have x9:=hid MB;clear MB h5 z2;go_wp2;go_roundw
       case rel=>
        refine ⟨k+1,vs.take q++[.slice ra row.length rc],us,eH n g.m g.f g.tm g.t ⟨op,s,num⟩ S L,gD ⟨op,s,num⟩ S L,by omega,by go_num,?_,⟨g7,c7,by rw [aRg,i3];rfl⟩,HK,x3,?_,aVr (X6.alloc _) x9.2⟩
        ·rw [eS.out,eL.out,q3]
         exact x9.1
        ·rw [eS.out,aRg,aRf,aUs]
         omega
       case measure=>simp [intOf];omega
    ·obtain rfl:k=c.xs.length:=by omega
     rw [aVx] at hrun;have z9:L=c.out g:=hrun;have y8:=ownsRow.ssF (L:=w.heap.size) M.lo' M.lr (by omega) (by omega);rw [z9] at y8;have k9:=hid y8;clear hrun z9 y8 M ok;go_wp2;refine bodyPost_ret (v:=.tuple #[.slice (some ⟨w2.heap.size,0,none⟩) c.ls.length c.ls.length,.bool true]) (by simp [results,results193,go_sem]) rfl ⟨_,rfl,k9,z1.trans hx⟩
theorem aDz (lo hi lo' hi':Nat) (v u:Value) (c:Cod) (g:Grd) (w:World) (hv:c.R lo hi w v) (hh:hi<=w.heap.size) (hu:g.R lo' hi' w u) (hh':hi'<=w.heap.size) (hL:c.ls.length<=2000000) (hno:(c.runB&&g.okB)=false) :
  R_ 193 #[v,u] w (.tuple #[.slice none 0 0,.bool false]):=by
 have HV:=hid hv;have HU:=hid hu;obtain ⟨a1,c1,a2,c2,rfl,HI,-⟩:=hv.form;obtain ⟨pu,tu,rfl,-,y4,z9,hp,ht⟩:=hu;clear hv;have k1:=HI.le;have k2:=HI.cap;have x0:Ext w ((w.alloc (.cells #[.slice a1 c.xs.length c1,.slice a2 c.ls.length c2] 163)).alloc (.cells #[g.n,pu,g.tm,g.t.log,tu] 168)):=X_;have cb:=(hH.made w (.slice a1 c.xs.length c1) (.slice a2 c.ls.length c2) 163).ext ((aQy _).alloc (.cells #[g.n,pu,g.tm,g.t.log,tu] 168));have gb:=tF.made (w.alloc (.cells #[.slice a1 c.xs.length c1,.slice a2 c.ls.length c2] 163)) g.n pu g.tm g.t.log tu 168;simp only [aQp] at gb
 obtain ⟨W0,q4⟩:∃W,(w.alloc (.cells #[.slice a1 c.xs.length c1,.slice a2 c.ls.length c2] 163)).alloc (.cells #[g.n,pu,g.tm,g.t.log,tu] 168)=W:=⟨_,rfl⟩
 rw [q4] at x0 cb gb;have x3:=hid cb;have z0:=hid gb;have h4:=hid x0;have z1:=hid q4;have z5:=x0.size
 have z6:w.heap.size+2=W0.heap.size:=by rw [<-q4];simp
 clear cb gb x0 q4
 obtain ⟨h5,h7⟩:∃b,c.depth.isSome=b:=⟨_,rfl⟩
 obtain ⟨dm,x6⟩:∃b,c.depth.getD 0=b:=⟨_,rfl⟩
 have x4:=hid h7;have x9:=hid x6;clear h7 x6;go_enter func193,ntmps193;go_wp2_with fail;rw [z1];refine r_ (vN ⟨x9,x4⟩ lo hi _ _ (HV.ext hh h4) (by omega) hL) fun w1 x1=>?_;have q3:=x3.ext x1;have x5:=hid x1;have q0:=q3.lt;have q1:=q3.c0;have q2:=q3.c1;clear q3 x1;go_wp2
 go_loopw [7,26] (fun okv i wr=>∃k:Nat,k<=c.xs.length/\i = .int .i64 k/\okv = .bool (h5&&(c.xs.take k).all gX)/\Ext W0 wr) (fun _ i _=>c.xs.length - (intOf i).toNat)
 case atStart=>exact ⟨0,by omega,rfl,by simp,x5⟩
 case round=>
  clear q0 q1 q2 x5;obtain ⟨k,hk,rfl,rfl,hx⟩:=hrel
  by_cases q8:k<c.xs.length
  ·obtain ⟨b,y3,op,s,num,rfl,z3,z4,h8,h9,io,z8,y0,y1,y2⟩:=HI.at q8 (h4.trans hx) hh
   have x7:c.xs[k]=⟨op,s,num⟩:=by have:=h9;rw [aQ0 q8] at this;exact aSm this
   have q9:(h5&&(c.xs.take (k+1)).all gX)=((h5&&(c.xs.take k).all gX)&&inB num (-1000000000) 1000000000):=by
    rw [aRk q8,aYz,x7,aY9];simp [gX]
   obtain ⟨z2,h6⟩:∃b,(h5&&(c.xs.take k).all gX)=b:=⟨_,rfl⟩
   rw [h6] at q9 ⊢;have q7:=hid q9;have HX:=hid hx;clear q9 h6 x7 h9 h8 hx
   cases z2
   ·go_wp2
    go_roundw
    case rel=>exact ⟨k+1,by omega,by go_num,by rw [q7];rfl,by have hx:=HX.out;exact S_⟩
    case measure=>simp [intOf];omega
   ·cases q6:inB num (-1000000000) 1000000000
    ·have h3:=hid q6
     clear q6;go_wp2_with fail;refine z_ (aE h3 _) ?_;go_wp2;go_roundw
     case rel=>exact ⟨k+1,by omega,by go_num,by rw [q7,h3];rfl,by have hx:=HX.out;exact S_⟩
     case measure=>simp [intOf];omega
    ·have h3:=hid q6
     clear q6;go_wp2_with fail;refine z_ (aE h3 _) ?_;go_wp2;go_roundw
     case rel=>exact ⟨k+1,by omega,by go_num,by rw [q7,h3];rfl,by have hx:=HX.out;exact S_⟩
     case measure=>simp [intOf];omega
  ·obtain rfl:k=c.xs.length:=by omega
   rw [aRo]
   have x8:(h5&&c.xs.all gX)=c.runB:=by rw [<-x4];rfl
   rw [x8];have h0:=z0.ext hx;have q5:=x3.ext hx;have HX:=hid hx;have g0:=h0.lt;have g1:=h0.c0;have g2:=h0.c1;have g3:=h0.c2;have g4:=h0.c3;have g5:=h0.c4;have q0:=q5.lt;have q1:=q5.c0;have q2:=q5.c1;clear x8 hx h0 q5
   cases h1:c.runB
   ·go_wp2
    refine bodyPost_ret (v:=.tuple #[.slice none 0 0,.bool false]) (by simp [results,results193,go_sem]) rfl ⟨rfl,h4.trans HX⟩
   ·have h2:g.okB=false:=by rw [h1] at hno;simpa using hno
    have z7:=HX.size;go_wp2_with fail;refine r_ (wV h2 lo' hi' _ _ (HU.ext hh' (h4.trans HX)) (by omega)) fun w2 x2=>?_;go_wp2;refine bodyPost_ret (v:=.tuple #[.slice none 0 0,.bool false]) (by simp [results,results193,go_sem]) rfl ⟨rfl,(h4.trans HX).trans x2⟩
def Cod.res (c:Cod) (g:Grd):List (List Int):=if (c.runB&&g.okB)=true then c.out g else []
theorem wT.nil (lo:Nat) (w:World):wT lo w (.slice none 0 0) []:=⟨[],aUg _ _ _ _,⟨rfl,fun i v xs h=>by simp at h⟩,List.Pairwise.nil,fun j u h=>by simp at h⟩
theorem SS.nil (lo hi:Nat) (w:World):SS lo hi w (.slice none 0 0) []:=⟨none,0,rfl,aQo _,by unfold maxLen;omega,fun i xs h=>by simp at h⟩
theorem aB3 {S:List (List Int)} (lo hi lo' hi':Nat) (v u:Value) (c:Cod) (g:Grd) (w:World) (hb:(c.runB&&g.okB)=b) (hS:c.res g=S) (hv:c.R lo hi w v) (hh:hi<=w.heap.size) (hu:g.R lo' hi' w u) (hh':hi'<=w.heap.size) (hL:c.small) :
  Calls aQt 168 #[v,u] w fun e w'=>∃r,e = .returned (.tuple #[r,.bool b])/\wT w.heap.size w' r S/\Ext w w':=by
 have h0:c.ls.length<=2000000:=by have:=hL.2;omega
 subst hS;unfold Cod.res
 cases b
 ·rw [hb,if_neg (by decide)]
  exact (aDy lo hi lo' hi' v u c g w hv hh hu hh' h0 hb).mono fun e w' ⟨h1,h2⟩=>⟨_,h1,wT.nil _ _,h2⟩
 ·rw [hb,if_pos rfl]
  exact aB1 lo hi lo' hi' v u c g w hv hh hu hh' h0 hb
theorem aB4 {S:List (List Int)} (lo hi lo' hi':Nat) (v u:Value) (c:Cod) (g:Grd) (w:World) (hb:(c.runB&&g.okB)=b) (hS:c.res g=S) (hv:c.R lo hi w v) (hh:hi<=w.heap.size) (hu:g.R lo' hi' w u) (hh':hi'<=w.heap.size) (hL:c.small) :
  Calls aQt 193 #[v,u] w fun e w'=>∃r,e = .returned (.tuple #[r,.bool b])/\SS w.heap.size w'.heap.size w' r S/\Ext w w':=by
 have h0:c.ls.length<=2000000:=by have:=hL.2;omega
 subst hS;unfold Cod.res
 cases b
 ·rw [hb,if_neg (by decide)]
  exact (aDz lo hi lo' hi' v u c g w hv hh hu hh' h0 hb).mono fun e w' ⟨h1,h2⟩=>⟨_,h1,SS.nil _ _ _,h2⟩
 ·rw [hb,if_pos rfl]
  exact aB2 lo hi lo' hi' v u c g w hv hh hu hh' h0 hb
theorem aGb {t:Tex} (hm:n*n=m) (hf:∀i,i<m*5->S9 (f i)) (ht:S9 tm) :
  ∀(xs:List Ins) (S L:List (List Int)),(∀x∈xs,gX x=true)->nB L0 m xs S L->(kW n m f tm t xs S L).length=L0/\∀r∈kW n m f tm t xs S L,r.length<=m:=by
 intro xs
 induction xs with
 | nil=>
  intro S L _ h;refine ⟨h.len,fun r hr=>?_⟩;obtain ⟨d,st,_,h2⟩:=h.run;obtain ⟨j,hj⟩:=List.mem_iff_getElem?.1 hr
  rcases h2 j r hj with ⟨_,h3⟩|⟨_,h3⟩
  ·have:=h3.1;omega
  ·rw [h3];simp
 | cons x r ih=>
  intro S L hn h;exact ih _ _ (fun y hy=>hn y (aUx _ hy)) (h.next hm (hn x aVd) hf ht)
def ixL (s:List UInt8):List ByteArray->Int
 | []=>-1
 | x::r=>if x.toList=s then 0 else if ixL s r<0 then -1 else ixL s r+1
theorem aK1 (s:List UInt8):∀ls,-1<=ixL s ls/\ixL s ls<ls.length:=by
 intro ls
 induction ls with
 | nil=>simp [ixL]
 | cons x r ih=>
  simp only [ixL,aR3]
  split
  ·omega
  ·split <;> omega
theorem aGc {s:List UInt8}:∀{ls:List ByteArray} {k:Nat} {y:ByteArray},ls[k]?=some y->y.toList=s->(∀j z,j<k->ls[j]?=some z->z.toList≠s)->ixL s ls=k:=by
 intro ls
 induction ls with
 | nil=>intro k y h;simp at h
 | cons x r ih=>
  intro k y h1 h2 h3
  cases k with
  | zero=>
   simp at h1;subst h1;simp [ixL,h2]
  | succ k=>
   have h0:=h3 0 x (by omega) rfl;have:=ih (k:=k) (by simpa using h1) h2 (fun j z hj hz=>h3 (j+1) z (by omega) (by simpa using hz));simp only [ixL,if_neg h0,this];rw [if_neg (by omega)];simp
theorem aGd {s:List UInt8}:∀{ls:List ByteArray},(∀j z,j<ls.length->ls[j]?=some z->z.toList≠s)->ixL s ls = -1:=by
 intro ls
 induction ls with
 | nil=>intro _;rfl
 | cons x r ih=>
  intro h;have h0:=h 0 x (by simp) rfl;have:=ih (fun j z hj hz=>h (j+1) z (by simp;omega) (by simpa using hz));simp [ixL,if_neg h0,this]
theorem aGe (lo hi:Nat) (u:Value) (ls:List ByteArray) (s:ByteArray) (w:World) (hu:qF lo hi w u ls) (hl:ls.length<=2000000) :
  Z_ 169 #[u,.string s] w (.int .i64 (ixL s.toList ls)):=by
 obtain ⟨a,cap,rfl,HU⟩:=hu.open;have l1:=HU.le;have l2:=HU.cap;clear hu;go_enter func169,ntmps169;go_wp2
 go_loopw [8] (fun i wr=>∃k:Nat,k<=ls.length/\i = .int .i64 k/\wr=w/\∀j z,j<k->ls[j]?=some z->z.toList≠s.toList) (fun i _=>ls.length - (intOf i).toNat)
 case atStart=>exact ⟨0,by omega,rfl,rfl,fun j x h=>by omega⟩
 case round=>
  obtain ⟨k,hk,rfl,rfl,h1⟩:=hrel
  by_cases h2:k<ls.length
  ·obtain ⟨b,h6,rfl,h4,h5,hc⟩:=HU.at h2
   have h0:ls[k]?=some ls[k]:=by simp [h2]
   obtain ⟨y,hy⟩:∃y,ls[k]=y:=⟨_,rfl⟩
   rw [hy] at hc h0;clear hy
   by_cases he:(s.toList==y.toList)=true
   ·have hv:=hid (aGc h0 (eq_of_beq he).symm h1)
    clear h1 h0;go_wp2;go_ret;exact ⟨by first|(rw [hv.out];done)|(rw [hv.out];rfl),rfl⟩
   ·have HN:Hid (∀j z,j<k+1->ls[j]?=some z->z.toList≠s.toList):=hid (fun j z hj hz=>by
     by_cases h3:j=k
     ·subst h3
      rw [h0] at hz;injection hz with hz;subst hz;intro e;exact he (by rw [e];simp)
     ·exact h1 j z (by omega) hz)
    clear h1 h0;go_wp2;go_roundw
    case rel=>exact ⟨k+1,by omega,by go_num,by trivial,HN⟩
    case measure=>simp [intOf];omega
  ·obtain rfl:k=ls.length:=by omega
   have hv:=hid (aGd h1);clear h1;go_wp2;go_ret;exact ⟨by first|(rw [hv.out];done)|(rw [hv.out];rfl),rfl⟩
theorem wX (lo hi:Nat) (u:Value) (ls:List ByteArray) (s:ByteArray) (w:World) (hu:qF lo hi w u ls) (hl:ls.length<=2000000) :
  Z_ 194 #[u,.string s] w (.int .i64 (ixL s.toList ls)):=by
 obtain ⟨a,cap,rfl,HU⟩:=hu.open;have l1:=HU.le;have l2:=HU.cap;clear hu;go_enter func194,ntmps194;go_wp2
 go_loopw [9] (fun i wr=>∃k:Nat,k<=ls.length/\i = .int .i64 k/\wr=w/\∀j z,j<k->ls[j]?=some z->z.toList≠s.toList) (fun i _=>ls.length - (intOf i).toNat)
 case atStart=>exact ⟨0,by omega,rfl,rfl,fun j x h=>by omega⟩
 case round=>
  obtain ⟨k,hk,rfl,rfl,h1⟩:=hrel
  by_cases h2:k<ls.length
  ·obtain ⟨b,h6,rfl,h4,h5,hc⟩:=HU.at h2
   have h0:ls[k]?=some ls[k]:=by simp [h2]
   obtain ⟨y,hy⟩:∃y,ls[k]=y:=⟨_,rfl⟩
   rw [hy] at hc h0;clear hy
   by_cases he:(y.toList==s.toList)=true
   ·have hv:=hid (aGc h0 (eq_of_beq he) h1)
    clear h1 h0;go_wp2;go_ret;exact ⟨by first|(rw [hv.out];done)|(rw [hv.out];rfl),rfl⟩
   ·have HN:Hid (∀j z,j<k+1->ls[j]?=some z->z.toList≠s.toList):=hid (fun j z hj hz=>by
     by_cases h3:j=k
     ·subst h3
      rw [h0] at hz;injection hz with hz;subst hz;intro e;exact he (by rw [e];simp)
     ·exact h1 j z (by omega) hz)
    clear h1 h0;go_wp2;go_roundw
    case rel=>exact ⟨k+1,by omega,by go_num,by trivial,HN⟩
    case measure=>simp [intOf];omega
  ·obtain rfl:k=ls.length:=by omega
   have hv:=hid (aGd h1);clear h1;go_wp2;go_ret;exact ⟨by first|(rw [hv.out];done)|(rw [hv.out];rfl),rfl⟩
theorem wY {i:Int} {s:ByteArray} {ls:List ByteArray} (h:ixL s.toList ls=i) (lo hi:Nat) (u:Value) (w:World) (hu:qF lo hi w u ls) (hl:ls.length<=2000000) :
  Z_ 169 #[u,.string s] w (.int .i64 i):=h▸aGe lo hi u ls s w hu hl
theorem wZ {i:Int} {s:ByteArray} {ls:List ByteArray} (h:ixL s.toList ls=i) (lo hi:Nat) (u:Value) (w:World) (hu:qF lo hi w u ls) (hl:ls.length<=2000000) :
  Z_ 194 #[u,.string s] w (.int .i64 i):=h▸wX lo hi u ls s w hu hl
def kB (ls:List ByteArray):Int:=ixL (⟨#[99,111,108,111,114]⟩:ByteArray).toList ls
def gS (ls:List ByteArray):Int:=ixL (⟨#[97,108,112,104,97]⟩:ByteArray).toList ls
def Cod.shade (c:Cod) (g:Grd):List Int×List Int×Bool:=
 if (c.runB&&g.okB)=true/\0<=kB c.ls/\(c.res g).getD (kB c.ls).toNat []≠[]/\(gS c.ls<0\/(c.res g).getD (gS c.ls).toNat []≠[]) then
  (((c.res g).getD (kB c.ls).toNat []).map col,if gS c.ls<0 then aRa g.m 256 else ((c.res g).getD (gS c.ls).toNat []).map col,true)
 else ([],[],false)
theorem Cod.res_small {c:Cod} {g:Grd} (h:(c.runB&&g.okB)=true):(c.res g).length=c.ls.length/\∀r∈c.res g,r.length<=64:=by
 unfold Cod.res;rw [if_pos h];simp only [aQ4] at h;obtain ⟨h1,h2⟩:=h;obtain ⟨n,hn,hm,h5,h0,ht,h4,hf⟩:=g.parts h2;unfold Cod.runB at h1;simp only [aQ4,aRw] at h1;have h3:=aGb (t:=g.t) (f:=g.f) (tm:=g.tm) hm hf h4 c.xs [] (aRa c.ls.length []) h1.2 (nB.start h1.1)
 have e:c.out g=kW n g.m g.f g.tm g.t c.xs [] (aRa c.ls.length []):=by unfold Cod.out;rw [hn];rfl
 rw [e];have h6:n*n<=8*8:=aRq h0 h0;exact ⟨h3.1,fun r hr=>by have:=h3.2 r hr;omega⟩
theorem oV {P:Prop} [Decidable P] {A:List Int×List Int×Bool} (h:(if P then A else ([],[],false))=(X,Y,b)) (hP : ¬P):X=[]/\Y=[]/\b=false:=by
 rw [if_neg hP] at h;simp only [Prod.mk.injEq] at h;exact ⟨h.1.symm,h.2.1.symm,h.2.2.symm⟩
structure aMr (m:Nat) (R:Bool) (S:List (List Int)) (i j:Int) (X Y:List Int) (b:Bool):Prop where
 all:(R=false/\X=[]/\Y=[]/\b=false) \/
  (R=true/\i = -1/\X=[]/\Y=[]/\b=false) \/
  (R=true/\∃k:Nat,i=k/\k<=2000000/\S[k]?=some []/\X=[]/\Y=[]/\b=false) \/
  (R=true/\∃(k:Nat) (r:List Int),i=k/\k<=2000000/\S[k]?=some r/\r≠[]/\r.length<=64 /\
   ((∃l:Nat,j=l/\l<=2000000/\S[l]?=some []/\X=[]/\Y=[]/\b=false)\/(j = -1/\X=r.map col/\Y=aRa m 256/\b=true) \/
    ∃(l:Nat) (q:List Int),j=l/\l<=2000000/\S[l]?=some q/\q≠[]/\q.length<=64/\X=r.map col/\Y=q.map col/\b=true))
theorem uD {c:Cod} {g:Grd} {R:Bool} {S:List (List Int)} {i j:Int} (hL:c.small) (hs:c.shade g=(X,Y,b)) (eR:(c.runB&&g.okB)=R) (eS:c.res g=S) (ei:kB c.ls=i) (ej:gS c.ls=j):aMr g.m R S i j X Y b:=by
 have bi:=aK1 (⟨#[99,111,108,111,114]⟩:ByteArray).toList c.ls;have bj:=aK1 (⟨#[97,108,112,104,97]⟩:ByteArray).toList c.ls;have hl:=hL.2;rw [show ixL (⟨#[99,111,108,111,114]⟩:ByteArray).toList c.ls=i from ei] at bi;rw [show ixL (⟨#[97,108,112,104,97]⟩:ByteArray).toList c.ls=j from ej] at bj;unfold Cod.shade at hs;rw [eR,eS,ei,ej] at hs;refine ⟨?_⟩
 cases R with
 | false=>exact .inl ⟨rfl,oV hs (fun h=>by cases h.1)⟩
 | true=>
  right
  have hz:=Cod.res_small eR;rw [eS] at hz
  by_cases h1:i<0
  ·exact .inl ⟨rfl,by omega,oV hs (fun h=>by have:=h.2.1;omega)⟩
  ·right
   obtain ⟨k,rfl⟩:∃k:Nat,i=k:=⟨i.toNat,by omega⟩
   simp only [aRh] at hs
   have hk:k<S.length:=by omega
   have gk:S.getD k []=S[k]:=by simp [aTr,hk]
   have sk:S[k]?=some S[k]:=by simp [hk]
   rw [gk] at hs
   by_cases h2:S[k]=[]
   ·exact .inl ⟨rfl,k,rfl,by omega,h2▸sk,oV hs (fun h=>h.2.2.1 h2)⟩
   ·refine .inr ⟨rfl,k,S[k],rfl,by omega,sk,h2,hz.2 _ (aQ8 hk),?_⟩
    by_cases h3:j<0
    ·rw [if_pos ⟨by trivial,by omega,h2,.inl h3⟩,if_pos h3] at hs
     simp only [Prod.mk.injEq] at hs;exact .inr (.inl ⟨by omega,hs.1.symm,hs.2.1.symm,hs.2.2.symm⟩)
    ·obtain ⟨l,rfl⟩:∃l:Nat,j=l:=⟨j.toNat,by omega⟩
     simp only [aRh] at hs
     have h0:l<S.length:=by omega
     have gl:S.getD l []=S[l]:=by simp [aTr,h0]
     have sl:S[l]?=some S[l]:=by simp [h0]
     rw [gl] at hs
     by_cases h4:S[l]=[]
     ·exact .inl ⟨l,rfl,by omega,h4▸sl,oV hs (fun h=>by rcases h.2.2.2 with h|h;exact h3 h;exact h h4)⟩
     ·rw [if_pos ⟨by trivial,by omega,h2,.inr h4⟩,if_neg h3] at hs
      simp only [Prod.mk.injEq] at hs;exact .inr (.inr ⟨l,S[l],rfl,by omega,sl,h4,hz.2 _ (aQ8 h0),hs.1.symm,hs.2.1.symm,hs.2.2.symm⟩)
theorem wT.open1 {S:List (List Int)} (h:wT lo w v S) (hn:1<=S.length):∃b cap,v = .slice (some ⟨b,0,none⟩) S.length cap/\b<w.heap.size/\S.length<=cap/\cap<=9223372036854775807/\∀k r,S[k]?=some r->∃ru,w.cell? ⟨b,k,none⟩=some ru/\aB lo w ru r/\(r=[]->ru = .slice none 0 0):=by
 obtain ⟨us,h1,h2,h3,h4⟩:=h;have hl:=h2.len;obtain ⟨b,cap,rfl,h5,h0⟩:=ownsRow.form1 h1 (by omega);obtain ⟨k1,k2⟩:=ownsRow.caps h1;refine ⟨b,cap,by rw [hl],h0,by omega,k2,fun k r hr=>?_⟩
 have hk:k<us.length:=by have:=(aQq.1 hr).1;omega
 have hu:us[k]?=some us[k]:=by simp [hk]
 refine ⟨us[k],?_,h2.own k us[k] r hu hr,fun e=>h4 k us[k] hu (e▸hr)⟩;have:=aSv h1 k (by omega);rw [hu] at this;exact this
theorem aB.someAt (h:aB lo w v xs) (hx:xs≠[]):∃g c,v = .slice (some ⟨g,0,none⟩) xs.length c/\g<w.heap.size:=by
 rcases h.1.2 with ⟨rfl,h4⟩|⟨g,cap,cur,rfl,hb,hg,hc,hm,hs,ht⟩
 ·exact absurd (aUe.1 h4) hx
 ·exact ⟨g,cap,rfl,(aQ9.1 hg).1⟩
theorem fW.nil (lo hi:Nat) (w:World):fW lo hi w (.slice none 0 0) []:=⟨⟨aUg _ _ _ _,fun x h=>by cases h⟩,fun k h=>by cases h⟩
theorem aD0 {g:Grd} (hg:g.n=n) (c:Int) (g1:Value) (g2 g3:Int) (g4:Value) (w:World) (hm:(n:Int)*n=g.m) (hn:g.m<=1000000) (hc:I64 c) :
  Calls aQt 171 #[c,.agg #[g.n,g1,g2,g3,g4]] w fun e w'=>∃v,e = .returned v/\aB w.heap.size w' v (aRa g.m c)/\Ext w w':=by
 rw [hg];exact pP c n g.m g1 g2 g3 g4 w hm hn hc
theorem mQ (h:Ext w w'):∃r1 r2,Ending.returned (.tuple #[.slice none 0 0,.slice none 0 0,.bool false]) = .returned (.tuple #[r1,r2,.bool false])/\∃h,w.heap.size<=h/\h<=w'.heap.size/\fW w.heap.size h w' r1 []/\fW h w'.heap.size w' r2 []/\Ext w w':=
 ⟨_,_,rfl,w'.heap.size,h.size,aQo _,fW.nil _ _ _,fW.nil _ _ _,h⟩
theorem xB (lo hi lo' hi':Nat) (v u:Value) (c:Cod) (g:Grd) (w:World) (hs:c.shade g=(X,Y,b)) (hv:c.R lo hi w v) (hh:hi<=w.heap.size) (hu:g.R lo' hi' w u) (hh':hi'<=w.heap.size) (hL:c.small) :
  Calls aQt 107 #[v,u] w fun e w'=>∃r1 r2,e = .returned (.tuple #[r1,r2,.bool b])/\∃h,w.heap.size<=h/\h<=w'.heap.size/\fW w.heap.size h w' r1 X/\fW h w'.heap.size w' r2 Y/\Ext w w':=by
 obtain ⟨R,eR⟩:∃R,(c.runB&&g.okB)=R:=⟨_,rfl⟩
 obtain ⟨S,eS⟩:∃S,c.res g=S:=⟨_,rfl⟩
 obtain ⟨i,ei⟩:∃i,kB c.ls=i:=⟨_,rfl⟩
 obtain ⟨j,ej⟩:∃j,gS c.ls=j:=⟨_,rfl⟩
 have hn:R=true->∃n:Nat,g.n=n/\(n:Int)*n=g.m/\g.m<=64:=by
  intro h;rw [h] at eR;simp only [aQ4] at eR;obtain ⟨n,hn,hm,x8,h9,-⟩:=g.parts eR.2;have h6:n*n<=8*8:=aRq h9 h9;exact ⟨n,hn,by rw [<-hm];simp,by omega⟩
 have CS:=hid (uD hL hs eR eS ei ej);have HC:=hid hv;have HG:=hid hu;have ER:=hid eR;have ES:=hid eS;have EI:=hid ei;have EJ:=hid ej;have HL:=hid hL;have HN:=hid hn;have hl:c.ls.length<=1048576:=hL.2;obtain ⟨iu,lu,rfl,-,h8⟩:=hv;have h5:=hid h8;obtain ⟨pu,tu,rfl,_⟩:=hu;clear hs eR eS ei ej hn h8 hL;have en:∀(w:World) (a:Option Addr) (n c:Nat),(binOp .eql 24 (.slice a n c) (.slice none 0 0)).run aQt w = .ok (.bool a.isNone) w:=fun w a n c=>Lib.run_eql_slice_nil w _ _ a n c 0 0 underlying24;go_enter func107,ntmps107;go_wp2_with fail;refine (aB3 lo hi lo' hi' _ _ c g _ ER ES (HC.ext hh X_) (by simp;omega) (HG.ext hh' X_) (by simp;omega) HL).mono ?_;rintro e w1 ⟨r,rfl,O1,x1⟩;have BP:=hid (((Bx.made w #[iu,lu] _).ext ((aQy _).alloc _)).ext x1);have BQ:=hid ((Bx.madeAt (B:=w.heap.size+1) (w.alloc _) #[g.n,pu,g.tm,g.t.log,tu] _ (by simp)).ext x1);have E:Ext w w1:=aQu X_ x1;have z1:=E.size;have q7:=O1;obtain ⟨x9,h0,h7,-⟩:=q7;obtain ⟨ra,rc,q6⟩:=ownsRow.form h0;rw [h7.len] at q6;subst q6;have OR:=hid O1;clear x1 O1 h0 h7;have p:=BP.lt;obtain ⟨p0,p1⟩:=BP.q2;have q:=BQ.lt;obtain ⟨q0,q1,q2,q3,q4⟩:=BQ.q5;go_wp2_with fail;refine aA [([0,1,3,4],2),([],5),([6],7)] 7 w1.heap.size (by kernel_rfl) (by kernel_rfl) ?_;refine st_ fun K hK=>?_;go_wp2_with fail;refine z_ (wY EI lo hi _ _ (h5.ext hh E.drew) (by omega)) ?_;go_wp2_with fail;refine k_ hK ?_;clear hK K;refine st_ fun K hK=>?_;go_wp2_with fail;refine z_ (wY EJ lo hi _ _ (h5.ext hh E.drew) (by omega)) ?_;go_wp2_with fail;refine k_ hK ?_;clear hK K;refine st_ fun K hK=>?_;go_wp2_with fail;go_wp2_with fail;refine l_ hK ?_;clear hK K;refine aC ?_
 rcases CS.all with ⟨rfl,rfl,rfl,rfl⟩|⟨rfl,rfl,rfl,rfl,rfl⟩|⟨rfl,k,rfl,hk,sk,rfl,rfl,rfl⟩|⟨rfl,k,a,rfl,hk,sk,ha,la,hrest⟩
 ·go_wp2
  refine bodyPost_ret (v:=.tuple #[.slice none 0 0,.slice none 0 0,.bool false]) (by simp [results,results107,go_sem]) rfl (mQ E.drew)
 ·go_wp2
  refine bodyPost_ret (v:=.tuple #[.slice none 0 0,.slice none 0 0,.bool false]) (by simp [results,results107,go_sem]) rfl (mQ E.drew)
 ·have SK:=hid sk
  have x3:k<S.length:=(aQq.1 sk).1;obtain ⟨rb,x5,h2,q8,q9,x0,h1⟩:=OR.open1 (by omega);simp only [aRi] at h2;obtain ⟨rfl,-,rfl⟩:=h2;obtain ⟨ru,c0,-,e0⟩:=h1 k _ sk;obtain rfl:=e0 rfl;clear sk h1 e0;go_wp2;refine bodyPost_ret (v:=.tuple #[.slice none 0 0,.slice none 0 0,.bool false]) (by simp [results,results107,go_sem]) rfl (mQ E.drew)
 have SK:=hid sk;have x3:k<S.length:=(aQq.1 sk).1;obtain ⟨rb,x5,h2,q8,q9,x0,h1⟩:=OR.open1 (by omega);simp only [aRi] at h2;obtain ⟨rfl,-,rfl⟩:=h2;obtain ⟨ru,c0,o0,-⟩:=h1 k _ sk;obtain ⟨ga,ca,rfl,x6⟩:=o0.someAt ha;have O0:=hid (o0.low (lo':=w.heap.size) (by simp <;> omega));clear o0;obtain ⟨n,gn,h4,hm⟩:=HN rfl
 rcases hrest with ⟨l,rfl,hl2,sl,rfl,rfl,rfl⟩|⟨rfl,rfl,rfl,rfl⟩|⟨l,q,rfl,hl2,sl,hq,lq,rfl,rfl,rfl⟩
 ·have SL:=hid sl
  have x4:l<S.length:=(aQq.1 sl).1;obtain ⟨rw,c1,-,e1⟩:=h1 l _ sl;obtain rfl:=e1 rfl;clear sk sl h1 e1 h4 gn;go_wp2;refine bodyPost_ret (v:=.tuple #[.slice none 0 0,.slice none 0 0,.bool false]) (by simp [results,results107,go_sem]) rfl (mQ E.drew)
 ·clear sk h1
  have GN:=hid gn;have NN:=hid h4;clear gn h4;go_wp2_with fail;refine aA [([0,1,2,3,5],4),([],6),([7,8],9)] 9 w1.heap.size (by kernel_rfl) (by kernel_rfl) ?_;refine st_ fun K hK=>?_;go_wp2_with fail;refine (mE w.heap.size w1.heap.size _ a _ (O0.ints.ext (aQo _) X_) (by simp) (by omega)).mono ?_;rintro e w3 ⟨r1,rfl,o1,x1⟩;have y3:Ext w1 w3:=aQu X_ x1;have z3:=y3.size;go_wp2_with fail;refine hK _ _ (.inr (y3.same (aQo _))) ?_;clear hK K;refine st_ fun K hK=>?_;go_wp2_with fail;refine (aD0 GN 256 _ _ _ _ _ NN (by omega) ⟨by omega,by omega⟩).mono ?_;rintro e w4 ⟨r2,rfl,o2,x2⟩;have y4:Ext w1 w4:=y3.trans (aQu X_ x2);have h3:Ext w3 w4:=aQu X_ x2;have z4:=h3.size;go_wp2_with fail;refine hK _ _ (.inr (y4.same (aQo _))) ?_;clear hK K;refine st_ fun K hK=>?_;go_wp2_with fail;go_wp2_with fail;refine l_ hK ?_;clear hK K;refine aC ?_;go_wp2;refine bodyPost_ret (v:=.tuple #[r1,r2,.bool true]) (by simp [results,results107,go_sem]) rfl ⟨r1,r2,rfl,w3.heap.size,by omega,z4,?_,?_,E.trans y4⟩
  ·exact (o1.low (by simp;omega)).o.kp (h3.kp (aQo _))
  ·exact (o2.low (by simp)).o
 ·have SL:=hid sl
  have x4:l<S.length:=(aQq.1 sl).1;obtain ⟨rw,c1,o9,-⟩:=h1 l _ sl;obtain ⟨gb,cb,rfl,x7⟩:=o9.someAt hq;have O9:=hid (o9.low (lo':=w.heap.size) (by simp <;> omega));clear sk sl h1 o9 h4 gn;go_wp2_with fail;refine aA [([0,1,2,3,5,6,7,8],4),([],9),([10,11],12)] 12 w1.heap.size (by kernel_rfl) (by kernel_rfl) ?_;refine st_ fun K hK=>?_;go_wp2_with fail;refine (mE w.heap.size w1.heap.size _ a _ (O0.ints.ext (aQo _) X_) (by simp) (by omega)).mono ?_;rintro e w3 ⟨r1,rfl,o1,x1⟩;have y3:Ext w1 w3:=aQu X_ x1;have z3:=y3.size;go_wp2_with fail;refine hK _ _ (.inr (y3.same (aQo _))) ?_;clear hK K;refine st_ fun K hK=>?_;go_wp2_with fail;refine (mE w.heap.size w1.heap.size _ q _ (O9.ints.ext (aQo _) (y3.trans X_)) (by first|omega|(simp;omega)) (by omega)).mono ?_;rintro e w4 ⟨r2,rfl,o2,x2⟩;have y4:Ext w1 w4:=y3.trans (aQu X_ x2);have h3:Ext w3 w4:=aQu X_ x2;have z4:=h3.size;go_wp2_with fail;refine hK _ _ (.inr (y4.same (aQo _))) ?_;clear hK K;refine st_ fun K hK=>?_;go_wp2_with fail;go_wp2_with fail;refine l_ hK ?_;clear hK K;refine aC ?_;go_wp2;refine bodyPost_ret (v:=.tuple #[r1,r2,.bool true]) (by simp [results,results107,go_sem]) rfl ⟨r1,r2,rfl,w3.heap.size,by omega,z4,?_,?_,E.trans y4⟩
  ·exact (o1.low (by simp;omega)).o.kp (h3.kp (aQo _))
  ·exact (o2.low (by simp)).o
theorem aU.nil0 (lo hi:Nat) (w:World):aU lo hi w (.slice none 0 0) []:=⟨none,0,rfl,aQo _,by unfold maxLen;omega,fun i x h=>by simp at h⟩
theorem kD (h:Ext w w'):∃r1 r2,Ending.returned (.tuple #[.slice none 0 0,.slice none 0 0,.bool false]) = .returned (.tuple #[r1,r2,.bool false])/\aU w.heap.size w'.heap.size w' r1 []/\aU w.heap.size w'.heap.size w' r2 []/\Ext w w':=
 ⟨_,_,rfl,aU.nil0 _ _ _,aU.nil0 _ _ _,h⟩
theorem xC (lo hi lo' hi':Nat) (v u:Value) (c:Cod) (g:Grd) (w:World) (hs:c.shade g=(X,Y,b)) (hv:c.R lo hi w v) (hh:hi<=w.heap.size) (hu:g.R lo' hi' w u) (hh':hi'<=w.heap.size) (hL:c.small) :
  Calls aQt 142 #[v,u] w fun e w'=>∃r1 r2,e = .returned (.tuple #[r1,r2,.bool b])/\aU w.heap.size w'.heap.size w' r1 X/\aU w.heap.size w'.heap.size w' r2 Y/\Ext w w':=by
 obtain ⟨R,eR⟩:∃R,(c.runB&&g.okB)=R:=⟨_,rfl⟩
 obtain ⟨S,eS⟩:∃S,c.res g=S:=⟨_,rfl⟩
 obtain ⟨i,ei⟩:∃i,kB c.ls=i:=⟨_,rfl⟩
 obtain ⟨j,ej⟩:∃j,gS c.ls=j:=⟨_,rfl⟩
 have hn:R=true->g.m<=64:=by
  intro h;rw [h] at eR;simp only [aQ4] at eR;obtain ⟨n,hn,hm,z0,h9,-⟩:=g.parts eR.2;have h6:n*n<=8*8:=aRq h9 h9;omega
 have CS:=hid (uD hL hs eR eS ei ej);have HC:=hid hv;have HG:=hid hu;have ER:=hid eR;have ES:=hid eS;have EI:=hid ei;have EJ:=hid ej;have HL:=hid hL;have HN:=hid hn;have hl:c.ls.length<=1048576:=hL.2;obtain ⟨iu,lu,rfl,-,h8⟩:=hv;have h5:=hid h8;obtain ⟨pu,tu,rfl,-,-,-,hp,-⟩:=hu;obtain ⟨pa,pc,rfl,HP⟩:=hp.open;have p1:=HP.le;have p2:=HP.cap;clear hs eR eS ei ej hn h8 hL hp HP;go_enter func142,ntmps142;go_wp2_with fail;refine (aB4 lo hi lo' hi' _ _ c g _ ER ES (HC.ext hh X_) (by simp;omega) (HG.ext hh' X_) (by simp;omega) HL).mono ?_;rintro e w1 ⟨r,rfl,O1,x1⟩;have BP:=hid (((Bx.made w #[iu,lu] _).ext ((aQy _).alloc _)).ext x1);have BQ:=hid ((Bx.madeAt (B:=w.heap.size+1) (w.alloc _) #[g.n,.slice pa g.m pc,g.tm,g.t.log,tu] _ (by simp)).ext x1);have E:Ext w w1:=aQu X_ x1;have z1:=E.size;obtain ⟨ra,rc,rfl,h3⟩:=O1.open;have r1:=h3.le;have r2:=h3.cap;have HA:=hid h3;clear x1 O1 h3;have p:=BP.lt;obtain ⟨p0,p1⟩:=BP.q2;have q:=BQ.lt;obtain ⟨q0,q1,q2,q3,q4⟩:=BQ.q5;go_wp2_with fail;refine z_ (wZ EI lo hi _ _ (h5.ext hh E) (by omega)) ?_;go_wp2_with fail;refine z_ (wZ EJ lo hi _ _ (h5.ext hh E) (by omega)) ?_
 rcases CS.all with ⟨rfl,rfl,rfl,rfl⟩|⟨rfl,rfl,rfl,rfl,rfl⟩|⟨rfl,k,rfl,hk,sk,rfl,rfl,rfl⟩|⟨rfl,k,a,rfl,hk,sk,ha,la,hrest⟩
 ·go_wp2
  refine bodyPost_ret (v:=.tuple #[.slice none 0 0,.slice none 0 0,.bool false]) (by simp [results,results142,go_sem]) rfl (kD E)
 ·go_wp2
  refine bodyPost_ret (v:=.tuple #[.slice none 0 0,.slice none 0 0,.bool false]) (by simp [results,results142,go_sem]) rfl (kD E)
 ·have q9:k<S.length:=(aQq.1 sk).1
  obtain ⟨rb,ro,ru,rfl,q6,q7,c0,i0⟩:=HA.cell k _ sk;obtain ⟨ua,uc,rfl,-⟩:=i0.open;clear sk i0;go_wp2;refine bodyPost_ret (v:=.tuple #[.slice none 0 0,.slice none 0 0,.bool false]) (by simp [results,results142,go_sem]) rfl (kD E)
 have q9:k<S.length:=(aQq.1 sk).1;obtain ⟨rb,ro,ru,rfl,q6,q7,c0,i0⟩:=HA.cell k _ sk;obtain ⟨ua,uc,rfl,x4⟩:=i0.open;have I0:=hid i0;have z2:((a.length:Int)==0)=false:=beq_eq_false_iff_ne.2 (fun e=>ha (aUe.1 (by omega)));have hm:=HN.out rfl;clear sk i0 ha x4
 rcases hrest with ⟨l,rfl,hl2,sl,rfl,rfl,rfl⟩|⟨rfl,rfl,rfl,rfl⟩|⟨l,q,rfl,hl2,sl,hq,lq,rfl,rfl,rfl⟩
 ·have x0:l<S.length:=(aQq.1 sl).1
  obtain ⟨x5,x6,x7,h2,-,-,c1,i1⟩:=HA.cell l _ sl;simp only [aQr,aRv,and_true] at h2;obtain ⟨rfl,rfl⟩:=h2;obtain ⟨ub,x8,rfl,-⟩:=i1.open;clear sl i1;go_wp2;refine bodyPost_ret (v:=.tuple #[.slice none 0 0,.slice none 0 0,.bool false]) (by simp [results,results142,go_sem]) rfl (kD E)
 ·go_wp2
  go_loopw [11,54] (fun v i wr=>∃n:Nat,n<=g.m/\i = .int .i64 n/\aB w1.heap.size wr v (aRa n 256)/\Ext w1 wr) (fun _ i _=>g.m - (intOf i).toNat)
  case atStart=>exact ⟨0,by omega,rfl,aB.lit0 w1,X_⟩
  obtain ⟨n,hn,rfl,h0,hx⟩:=hrel;obtain ⟨av,cv,rfl,q8⟩:=h0.form
  have h1:(aRa n (256:Int)).length=n:=by simp
  rw [h1] at h0 ⊢
  by_cases x3:n<g.m
  ·have HO:=hid h0
   have HX:=hid hx;have h4:=hid h1;have zs:=hx.size;clear h0 hx h1;go_wp2_with (at_builtin;refine aV _ rfl _ _ rfl w1.heap.size _ _ rfl (HO.alloc _) 256 ⟨by omega,by omega⟩ wr.heap.size rfl (by simp [go_sem]) (by rw [h4];omega) (by simp;omega) ?_;intro v' w7 h0 hg);rw [<-aZg] at h0;go_wp2;go_roundw
   case rel=>exact ⟨n+1,by omega,by go_num,h0,aRz (HX.alloc _) hg (fun g e=>(HO.lt g e).1)⟩
   case measure=>simp [intOf];omega
  obtain rfl:n=g.m:=by omega
  have HO:=hid h0;have zs:=hx.size;rw [<-hx.cells.1 rb _ (by omega)] at c0;have HX:=hid hx;clear h0 hx;go_wp2_with fail;refine (mF 0 w1.heap.size _ a _ ((I0.ext (aQo _) HX).wide (aR8 _) (aQo _)) zs (by omega)).mono ?_;rintro e w3 ⟨r1,rfl,o1,x1⟩;go_wp2;refine bodyPost_ret (v:=.tuple #[r1,.slice av g.m cv,.bool true]) (by simp [results,results142,go_sem]) rfl ⟨r1,_,rfl,o1.ints.wide (by omega) (aQo _),?_,E.trans (HX.trans x1)⟩;exact (HO.ints.ext (aQo _) x1).wide (by omega) x1.size
 ·have x0:l<S.length:=(aQq.1 sl).1
  obtain ⟨x5,x6,x7,h2,-,-,c1,i1⟩:=HA.cell l _ sl;simp only [aQr,aRv,and_true] at h2;obtain ⟨rfl,rfl⟩:=h2;obtain ⟨ub,x8,rfl,-⟩:=i1.open;have I1:=hid i1;have z4:((q.length:Int)==0)=false:=beq_eq_false_iff_ne.2 (fun e=>hq (aUe.1 (by omega)));clear sl i1 hq;go_wp2
  go_loopw [11,54] (fun v i wr=>∃n:Nat,n<=g.m/\i = .int .i64 n/\aB w1.heap.size wr v (aRa n 256)/\Ext w1 wr) (fun _ i _=>g.m - (intOf i).toNat)
  case atStart=>exact ⟨0,by omega,rfl,aB.lit0 w1,X_⟩
  obtain ⟨n,hn,rfl,h0,hx⟩:=hrel;obtain ⟨av,cv,rfl,q8⟩:=h0.form
  have h1:(aRa n (256:Int)).length=n:=by simp
  rw [h1] at h0 ⊢
  by_cases x3:n<g.m
  ·have HO:=hid h0
   have HX:=hid hx;have h4:=hid h1;have zs:=hx.size;clear h0 hx h1;go_wp2_with (at_builtin;refine aV _ rfl _ _ rfl w1.heap.size _ _ rfl (HO.alloc _) 256 ⟨by omega,by omega⟩ wr.heap.size rfl (by simp [go_sem]) (by rw [h4];omega) (by simp;omega) ?_;intro v' w7 h0 hg);rw [<-aZg] at h0;go_wp2;go_roundw
   case rel=>exact ⟨n+1,by omega,by go_num,h0,aRz (HX.alloc _) hg (fun g e=>(HO.lt g e).1)⟩
   case measure=>simp [intOf];omega
  obtain rfl:n=g.m:=by omega
  have HO:=hid h0;have zs:=hx.size;rw [<-hx.cells.1 rb _ (by omega)] at c0;rw [<-hx.cells.1 rb _ (by omega)] at c1;have HX:=hid hx;clear h0 hx;go_wp2_with fail;refine (mF 0 w1.heap.size _ q _ ((I1.ext (aQo _) HX).wide (aR8 _) (aQo _)) zs (by omega)).mono ?_;rintro e w3 ⟨r2,rfl,o2,x2⟩;have X3:Ext w1 w3:=HX.trans x2;rw [<-x2.cells.1 rb _ (by omega)] at c0;have z3:=x2.size;have h7:=hid X3;have x9:=hid x2;clear c1 x2 X3;go_wp2_with fail;refine (mF 0 w1.heap.size _ a _ ((I0.ext (aQo _) h7).wide (aR8 _) (aQo _)) (by omega) (by omega)).mono ?_;rintro e w4 ⟨r1,rfl,o1,x1⟩;go_wp2;refine bodyPost_ret (v:=.tuple #[r1,r2,.bool true]) (by simp [results,results142,go_sem]) rfl ⟨r1,r2,rfl,o1.ints.wide (by omega) (aQo _),?_,E.trans (h7.trans x1)⟩;exact (o2.ints.ext (aQo _) x1).wide (by omega) x1.size
theorem xD:∀n:Nat,((List.range n).map fun _=>0).sum=0
 | 0=>rfl
 | n+1=>by rw [aS3,aSy,aUv,xD n];rfl
theorem aGf (w:Nat->Nat):∀(n e:Nat),e<n->((aRc n).map fun j=>if e=j then w j else 0).sum=w e:=by
 intro n
 induction n with
 | zero=>intro e h;omega
 | succ n ih=>
  intro e h;rw [aS3,aSy,aUv]
  by_cases he:e=n
  ·subst he
   have:((aRc e).map fun j=>if e=j then w j else 0).sum=0:=by
    rw [aTz (g:=fun _=>0) fun j hj=>if_neg (by have:=aRu.1 hj;omega)];exact xD e
   rw [this];simp
  ·rw [ih e (by omega)]
   simp [he]
theorem aHn {α : Type} (f g : α->Nat):∀L:List α,(L.map fun x=>f x+g x).sum=(L.map f).sum+(L.map g).sum
 | []=>rfl
 | x::r=>by simp only [aSu,aU2,aHn f g r];omega
theorem aPx (w:Nat->Nat) (n:Nat):∀E:List Nat,(∀e∈E,e<n)->(E.map w).sum=((aRc n).map fun j=>(E.countP fun e=>e==j)*w j).sum:=by
 intro E
 induction E with
 | nil=>
  intro _
  have e:((aRc n).map fun j=>(([]:List Nat).countP fun e=>e==j)*w j)=(aRc n).map fun _=>0:=aTz fun j _=>by simp
  rw [e,xD]
  rfl
 | cons e r ih=>
  intro h;rw [aSu,aU2,ih fun x hx=>h x (by simp [hx]),<-aGf w n e (h e (by simp)),<-aHn]
  congr 1
  refine aTz fun j _=>?_;rw [aYg]
  by_cases hj:e=j
  ·subst hj;simp [aS4];omega
  ·simp [hj]
def Prg.refs (p:Prg):List Nat:=(p.ns.flatMap fun x=>x.args.map Int.toNat)++p.gs.map fun a=>a.root.toNat
theorem aHo (j:Nat):∀xs:List Nd,((xs.flatMap fun x=>x.args.map Int.toNat).countP fun e=>e==j)=yY j xs
 | []=>rfl
 | x::r=>by
  rw [aSp,aZu,aHo j r];simp only [yY,aSu,aU2]
  congr 1
  unfold wI;rw [List.countP_map]
  rfl
theorem aHp (j:Nat):∀xs:List Asg,((xs.map fun a=>a.root.toNat).countP fun e=>e==j)=yZ j xs
 | []=>rfl
 | x::r=>by
  rw [aSu,aYg,aHp j r];simp only [yZ,aSu,aU2]
  by_cases h:x.root.toNat=j <;> simp [h] <;> omega
theorem Prg.V.refs_lt {p:Prg} (h:p.V):∀e∈p.refs,e<p.ns.length:=by
 intro e he;unfold Prg.refs at he
 rcases aS2.1 he with he|he
 ·obtain ⟨x,hx,he⟩:=List.mem_flatMap.1 he
  obtain ⟨a,ha,rfl⟩:=aSt.1 he;obtain ⟨k,hk,rfl⟩:=aRn hx;have:=(h.nd k _ (by simp [hk])).2 a ha;omega
 ·obtain ⟨a,ha,rfl⟩:=aSt.1 he
  obtain ⟨k,hk,rfl⟩:=aRn ha;have:=(h.ag k p.gs[k] (by simp [hk])).2;omega
theorem Prg.V.sum_refs {p:Prg} (h:p.V) (w:Nat->Nat):(p.refs.map w).sum=((aRc p.ns.length).map w).sum:=by
 rw [aPx w p.ns.length p.refs h.refs_lt]
 congr 1
 refine aTz fun j hj=>?_;have h1:=h.one j (aRu.1 hj)
 have:(p.refs.countP fun e=>e==j)=1:=by
  unfold Prg.refs;rw [aZu,aHo,aHp];exact h1
 rw [this,aS5]
theorem Prg.V.gs_len {p:Prg} (h:p.V):p.gs.length<=60:=by
 have h1:=h.sum_refs (fun _=>1);have h2:=h.len;unfold Prg.refs at h1;simp only [aSy,aUv,aXs] at h1
 have e1:(p.gs.map ((fun _=>1) ∘ fun a:Asg=>a.root.toNat)).sum=p.gs.length:=by
  have:∀xs:List Asg,(xs.map ((fun _=>1) ∘ fun a:Asg=>a.root.toNat)).sum=xs.length:=fun xs=>by
   induction xs with
   | nil=>rfl
   | cons x r ih=>rw [aSu,aU2,ih];simp;omega
  exact this _
 have e2:((aRc p.ns.length).map fun _=>1).sum=p.ns.length:=by
  have:∀n:Nat,((aRc n).map fun _=>1).sum=n:=fun n=>by
   induction n with
   | zero=>rfl
   | succ n ih=>rw [aS3,aSy,aUv,ih];rfl
  exact this _
 rw [e1,e2] at h1;omega
theorem Prg.V.sum_roots {p:Prg} (h:p.V) (w:Nat->Nat) (hw:∀(j:Nat) (x:Nd),p.ns[j]?=Option.some x->w j=1+(x.args.map fun a=>w a.toNat).sum):(p.gs.map fun a=>w a.root.toNat).sum=p.ns.length:=by
 have h1:=h.sum_refs w
 have e1:((aRc p.ns.length).map w).sum=p.ns.length+(p.ns.map fun x=>(x.args.map fun a=>w a.toNat).sum).sum:=by
  have:∀(xs:List Nd) (o:Nat),(∀(j:Nat) (x:Nd),xs[j]?=Option.some x->w (o+j)=1+(x.args.map fun a=>w a.toNat).sum)->((aRc xs.length).map fun j=>w (o+j)).sum=xs.length+(xs.map fun x=>(x.args.map fun a=>w a.toNat).sum).sum:=by
   intro xs
   induction xs with
   | nil=>intro o _;rfl
   | cons x r ih=>
    intro o ho;rw [aR3,List.range_succ_eq_map,aSu,aU2,aXs,aSu,aU2]
    have:=ih (o+1) fun j y hy=>by
     have:=ho (j+1) y (by simpa using hy);rw [<-this]
     congr 1
     omega
    have e:(aRc r.length).map ((fun j=>w (o+j)) ∘ Nat.succ)=(aRc r.length).map fun j=>w (o+1+j):=aTz fun j _=>by
     show w (o+(j+1))=w (o+1+j)
     congr 1
     omega
    rw [e,this];have h0:=ho 0 x (by simp);rw [h0];omega
  have:=this p.ns 0 fun j x hx=>by rw [aRl];exact hw j x hx
  simpa using this
 have e2:∀xs:List Nd,((xs.flatMap fun x=>x.args.map Int.toNat).map w).sum=(xs.map fun x=>(x.args.map fun a=>w a.toNat).sum).sum:=fun xs=>by
  induction xs with
  | nil=>rfl
  | cons x r ih=>
   rw [aSp,aSy,aUv,ih,aSu,aU2,aXs]
   rfl
 unfold Prg.refs at h1;rw [aSy,aUv,e2,e1,aXs] at h1;have e3:(p.gs.map (w ∘ fun a:Asg=>a.root.toNat)).sum=(p.gs.map fun a=>w a.root.toNat).sum:=rfl;omega
end Go.Proofs.YthgpegkmjeigmaaGreat
