/- Texts of this claim, one behind another; what its theorem does not use is left out: Sr1, Sr3, Sr2, Lk9, Sg1, Sg2, Sg3, Sg4, Cp0, Cp1, Cp2, Sc2, Gx0, Ge10, Cpy, In0, PlanE, L05a, Sc4, TrS, Draw, DrawT, Dr1, Dw1, Gd1, Fresh, Bxs, SrfI, Dw2, Tk2, Tk3, Tk4, Tk5, Ps1, Ps2, C2b, Ps3, Ps4, Ps5, Ps6, Ps7, Ps8, Ps9, Dr2, FlG, Dw3, In1, Ge11, Gd2, Gd3, Gd4, Ge17, Ge12, Ge13, Cp3, Cp4, Cp5, Cp6, Cp7, Ge18, Ge19, In2, Sc5, Sc7, In3, Fr2, In4, In5. -/
import Derived.Test.YthgpegkmjeigmaaGreatP32W3
import Derived.Test.YthgpegkmjeigmaaGreatP32W2
import Derived.Great.BuildSlice
import Derived.Deep.MidRow
import Derived.Test.YthgpegkmjeigmaaGreatP32W1
import Derived.Laws.CopyRow
import Derived.Laws.CopyOwn
import Derived.Lib.SliceRun
import Derived.Deep.LoopGhost
import Derived.Deep.OwnRows
import Derived.Laws.ResultCell
import Derived.Lib.SlBytesConst
import Derived.Maps.AppendAt
import Derived.Deep.CutBlock
set_option linter.unusedSimpArgs false
set_option linter.unusedVariables false
set_option maxRecDepth 100000
set_option maxHeartbeats 12800000
namespace Go.Proofs.YthgpegkmjeigmaaGreat
open Go.RowKit
open Go.Proofs.Tryz
open _root_.Go.Act renaming put→aSj
variable {a:Act} {ops:Array Oper} {b:Bool} {Q:Exit→Act→World→Prop} {i op tm:Int} {X Y r xs:List Int} {rest:List Oper} {L us vs:List Value} {g hi j k lo lo' lo2 m n p q sz:Nat} {f:Nat→Int} {o:Oper} {P:Program} {e t:TypeId} {lv sv v:Value} {w w':World}
open _root_.Array renaming getElem?_eq_some_iff→aRi,replicate→aU4
open _root_.Bool renaming and_eq_true→aRd,and_assoc→aZn,false_eq_true→aTs,or_eq_true→aVt
open _root_.Go.Obj.cells renaming injEq→aR8
open _root_.Go.Proofs.Tryz renaming prog→aQ2
open _root_.Go.Proofs.YthgpegkmjeigmaaGreat renaming col→aTw
open _root_.Go.Proofs.YthgpegkmjeigmaaGreat.Blk renaming new→aQ8
open _root_.Go.Proofs.YthgpegkmjeigmaaGreat.Ext renaming refl→aQ6,drew→aRz,trans→aQ3,grown→aR7,block→aRa,setCell→aRf
open _root_.Go.Proofs.YthgpegkmjeigmaaGreat.SC renaming drew→aTr,blocks→aR6
open _root_.Go.Region renaming Mode→aU8,binds→aVp,ready→aSm,noSelect→aUc,noSelect_spec→aTt,free_spec→aUf
open _root_.Go.RowKit.Below renaming refl→aXe,trans→aVh,heap_setCell→aQ7
open _root_.Go.Value renaming ownBlock→aRu,slice→aR9
open _root_.Go.Value.slice renaming injEq→aRo
open _root_.Go.World renaming cell?→aSy,size_alloc→aQy,ownsRow_nil→aUp,size_setCell→aSg
open _root_.Go.World.ownsRow renaming lt→aSw,stored→aZz,cellAt→aS5,alloc→aVd,frozenAt→aY9
open _root_.Int renaming toNat_natCast→aRr,natCast_add→aS6,natCast_mul→aUb,lt_or_le→aX1,tdiv_eq_ediv_of_nonneg→aTb
open _root_.List renaming replicate→aRj,range→aRl,mem_map→aS3,mem_range→aR4,getD→aTz,getElem?_eq_some_iff→aQz,getElem?_take→aS1,getElem?_eq_getElem→aQ9,take_succ_eq_append_getElem→aRv,all_append→aZe,take_length→aR2,drop_zero→aWx,mem_of_getElem?→aRn,getElem?_drop→aTc,mem_of_mem_drop→aUi,length_append→aRq,length_take→aRp,length_singleton→aU2,nil_append→aSu,length_drop→aTu,length_cons→aSc,all_eq_true→aR5,getElem_mem→aRh,length_eq_zero_iff→aUn,replicate_succ'→aZu,range_succ→aS9,map_append→aS8,sum_append→aU5,map_congr_left→aT7,map_cons→aS4,sum_cons→aVb,countP_cons→aYt,flatMap_cons→aS0,countP_append→aZ6,mem_append→aTe,mem_flatMap→aVg,getElem_of_mem→aRw,map_map→aX2,append_assoc→aRx,getD_eq_getElem?_getD→aRs,length_map→aSh,append_nil→aTo,mem_singleton→aTy,getElem?_map→aSo,mem_cons→aRk,not_mem_nil→aRe,flatMap_append→aSa,flatMap_singleton→aUr,take_of_length_le→aR3,length_range→aUo,getElem_map→aVf,getElem_range→aUe,setIfInBounds_toArray→aQ4,set_cons_succ→aRc,set_cons_zero→aRb,filterMap_cons→aRm,filterMap_nil→aRg,getElem?_toArray→aQ1,getElem?_cons_zero→aQw,getElem?_cons_succ→aQx,map_toArray→aYu,map_nil→aV7,length_nil→aS7,take_append_drop→aU3,cons_append→aV5,take_append→aXf,getElem?_append_right→aR0,getElem?_append_left→aSb,take_take→aYc,take_zero→aW1,eq_nil_of_length_eq_zero→aVj,size_toArray→aVx,all_eq_false→aT4,take_add_one→aW0
open _root_.Nat renaming le_trans→aQ5,le_refl→aQv,zero_add→aRt,zero_le→aSi,add_zero→aSk,min_eq_left→aTi,mul_le_mul→aRy,add_mul→aTf,one_mul→aTh,lt_succ_self→aYx,mod_lt→aTp,div_lt_of_lt_mul→aTg,lt_or_ge→aSd,mul_le_mul_right→aSq,lt_of_lt_of_le→aSf,sub_self→aY7,reduceAdd→aTx,le_of_lt→aT5
open _root_.Option renaming map_eq_some_iff→aW4
open _root_.Option.some renaming inj→aSx,injEq→aQ0
theorem aAu {pu tu:Value} {t:Tex} {L:List (List Int)} {s:ByteArray} {num:Int} {args:List (List Int)} (G:iD lo w n m pu tu f tm t) (hlo:lo<=w.heap.size) (hL:SS 0 lo' w lv L) (hlo':lo'<=w.heap.size) (hn:S9 num) (ho:op=1\/op=2\/op=3)
  (h3:op=3->∃j:Nat,num=j/\∃xs,L[j]?=some xs/\fG m xs) :
  Calls aQ2 235 #[.agg #[n,pu,tm,t.log,tu],.agg #[op,.string s,num],lv] w fun e w'=>∃r,e = .returned r/\aB w.heap.size w' r (iM n m f tm t op s num args L)/\Ext w w':=by
 obtain ⟨q1,q2,q3⟩:=G.hmi
 rcases ho with rfl|rfl|rfl
 ·have e:iM n m f tm t 1 s num args L=aRj m num:=by unfold iM;rw [if_pos rfl]
  rw [e];exact aOj 0 lo n m pu tu lv f tm t.log s num w G.flats hlo G.hm G.h1 G.h8 (aRj m num) (by simp) hn.i64 (fun k h=>by simp)
 ·have e:iM n m f tm t 2 s num args L=(aRl m).map (lL s.toList f tm):=by unfold iM;rw [if_neg (by simp),if_pos rfl]
  rw [e];refine aOk 0 lo n m pu tu lv f tm t.log s num w G.flats hlo G.hm G.h1 G.h8 ((aRl m).map (lL s.toList f tm)) (by simp) (fun k h=>by simp) (fun x hx=>?_);obtain ⟨i,hi,rfl⟩:=aS3.1 hx;exact (aHt _ G.f9 G.tm9 (aR4.1 hi)).i64
 ·obtain ⟨j,rfl,xs,hx,hg⟩:=h3 rfl
  have e:iM n m f tm t 3 s j args L=xs:=by unfold iM;rw [if_neg (by simp),if_neg (by simp),if_pos rfl,aRr,aTz,hx];rfl
  rw [e];exact aOi 0 lo' n pu tu lv tm t.log s j L xs w hL hlo' hx (by rw [hg.1];omega) (by rw [hg.1];omega)
theorem aGh {pu tu av:Value} {t:Tex} {L args:List (List Int)} {s:ByteArray} {num:Int} {L0:Nat} (G:iD lo w n m pu tu f tm t) (hlo:lo<=w.heap.size) (hS:SS 0 lo' w av args) (hlo':lo'<=w.heap.size) (ho:op=5\/op=6\/op=7)
  (hwf:wfI op s num L0=true) (hp:cI op s=p) (hl:args.length=p) (hg:∀r∈args,fG m r) :
  Calls aQ2 236 #[.agg #[n,pu,tm,t.log,tu],.agg #[op,.string s,num],av] w fun e w'=>∃r,e = .returned r/\aB w.heap.size w' r (iM n m f tm t op s num args L)/\Ext w w':=by
 obtain ⟨q1,q2,q3⟩:=G.hmi
 rcases ho with rfl|rfl|rfl
 ·have h0:p=1:=by have:cI 5 s=1:=rfl;omega
  have h4:num=3:=by simp [wfI] at hwf;exact hwf.2
  subst h4
  obtain ⟨a,rfl⟩:∃a,args=[a]:=by
   match args,hl.trans h0 with
   | [a],_=>exact ⟨a,rfl⟩
  have e:iM n m f tm t 5 s 3 [a] L=(aRl m).map fun k=>dS (opV 3 (cR [a] k)):=by
   unfold iM;rw [if_neg (by simp),if_neg (by simp),if_neg (by simp),if_pos rfl,aK7 (a:=a) (b:=a) rfl rfl (hg a (by simp)).1 (hg a (by simp)).1]
   rfl
  rw [e];exact aMv (opV 3) s 3 [a] 0 lo' 0 lo n m pu tu av tm t w aMx hS hlo' G.tex hlo hg q1 q3 (by simp)
 ·have h0:p=2:=by have:cI 6 s=2:=rfl;omega
  have h2:inB num 4 7=true:=by simp [wfI] at hwf;exact hwf.2
  have hb:=aG.1 h2
  have h3:num≠3:=by omega
  obtain ⟨a,b,rfl⟩:∃a b,args=[a,b]:=by
   match args,hl.trans h0 with
   | [a,b],_=>exact ⟨a,b,rfl⟩
  have e:iM n m f tm t 6 s num [a,b] L=(aRl m).map fun k=>dS (opV num (cR [a,b] k)):=by
   unfold iM;rw [if_neg (by simp),if_neg (by simp),if_neg (by simp),if_neg (by simp),if_pos rfl,aK7 (a:=a) (b:=b) rfl (by rw [if_neg h3];rfl) (hg a (by simp)).1 (hg b (by simp)).1]
   rfl
  rw [e];exact aMw (opV num) s num [a,b] 0 lo' 0 lo n m pu tu av tm t w (aK6 h2) hS hlo' G.tex hlo hg q1 q3 (by simp)
 ·have h5:cA s=p:=by have:cI 7 s=cA s:=rfl;omega
  have e:iM n m f tm t 7 s num args L=eJ n m t s.toList args:=by
   unfold iM;rw [if_neg (by simp),if_neg (by simp),if_neg (by simp),if_neg (by simp),if_neg (by simp)]
  rw [e];exact aJc s num args 0 lo' 0 lo n m pu tu av tm t w (by omega) (by omega) G.ok hS hlo' G.tex hlo hg G.hm G.h1 G.h8
structure Mst (lo lo2:Nat) (w:World) (sv lv:Value) (vs us:List Value) (S L:List (List Int)):Prop where
 so:w.ownsRow lo2 24 1 sv vs.length vs
 lo':w.ownsRow lo 24 1 lv us.length us
 sep:∀k,lv.ownBlock=some k->k<lo2
 hl:lo<=lo2
 hl2:lo2<=w.heap.size
 sr:Rws lo w vs S
 lr:Rws lo w us L
theorem Mst.ext {S L:List (List Int)} (M:Mst lo lo2 w sv lv vs us S L) (e:Ext w w'):Mst lo lo2 w' sv lv vs us S L:=by
 have hg:w.grownBy w' none:=⟨Below.os e,Below.tape e,Below.output e,e.size,fun k hk _=>e.block hk⟩
 exact ⟨M.so.kept hg (by cases sv.ownBlock <;> simp),M.lo'.kept hg (by cases lv.ownBlock <;> simp),M.sep,M.hl,aQ5 M.hl2 e.size,M.sr.keepI e.keepI,M.lr.keepI e.keepI⟩
theorem Mst.push {v' y:Value} {S L:List (List Int)} (M:Mst lo lo2 w sv lv vs us S L) (hv':w'.ownsRow lo2 24 1 v' (vs.length+1) (vs++[y])) (hg:w.grownBy w' sv.ownBlock) (hy:aB lo w y r) :
  Mst lo lo2 w' v' lv (vs++[y]) us (S++[r]) L/\Below lo w w':=by
 have h0:=aSw M.so;have kk:fE w w':=fE.grown hg (fun k cur fr hk=>ownsRow.int M.so (by decide) k cur fr hk);refine ⟨⟨by simpa using hv',M.lo'.kept hg ?_,M.sep,M.hl,aQ5 M.hl2 hg.size,(M.sr.keepI kk).snoc (hy.keepI kk),M.lr.keepI kk⟩,Below.grown (aXe _ _) hg (aQ5 M.hl M.hl2) (fun k hk=>by have:=(h0 k hk).1;have:=M.hl;omega)⟩
 cases hk:lv.ownBlock with
 | none=>exact .inl rfl
 | some k=>exact .inr (fun e=>by have h1:=M.sep k hk;have h2:=(h0 k e.symm).1;omega)
theorem Mst.shrink {cap:Nat} {S L:List (List Int)} (M:Mst lo lo2 w (.slice (some ⟨g,0,none⟩) vs.length cap) lv vs us S L) (q:Nat) (hq:q<=vs.length):Mst lo lo2 w (.slice (some ⟨g,0,none⟩) q cap) lv (vs.take q) us (S.take q) L:=by
 have e:(vs.take q).length=q:=by simp;omega
 exact ⟨by rw [e];exact ownsRow.shrink M.so hq,M.lo',M.sep,M.hl,M.hl2,M.sr.take q,M.lr⟩
theorem Mst.store {lb lc:Nat} {y:Value} {S L:List (List Int)} (M:Mst lo lo2 w sv (.slice (some ⟨lb,0,none⟩) us.length lc) vs us S L) (j:Nat) (hy:aB lo w y r) :
  Mst lo lo2 (w.setCell ⟨lb,j,none⟩ y) sv (.slice (some ⟨lb,0,none⟩) us.length lc) vs (us.set j y) S (L.set j r)/\Below lo w (w.setCell ⟨lb,j,none⟩ y):=by
 have h0:=aZz M.lo' j y;have kk:fE w (w.setCell ⟨lb,j,none⟩ y):=fE.setCell _ (fun cur fr=>ownsRow.int M.lo' (by decide) lb cur fr rfl);have h5:=aSw M.so;have h4:=aSw M.lo' lb rfl
 have h3:(us.set j y).length=us.length:=by simp
 refine ⟨⟨M.so.kept h0.2 ?_,by rw [h3];exact h0.1,M.sep,M.hl,by have:=M.hl2;simpa using this,M.sr.keepI kk,(M.lr.keepI kk).set j (hy.keepI kk)⟩,Below.setCell (aXe _ _) h4.1 _⟩
 cases hk:sv.ownBlock with
 | none=>exact .inl rfl
 | some k=>exact .inr (fun e=>by injection e with e;have h1:=M.sep lb rfl;have h2:=(h5 k hk).1;omega)
theorem ownsRow.ssF {L:Nat} {S:List (List Int)} (h:w.ownsRow lo 24 1 v p vs) (hr:Rws lo' w vs S) (h0:L<=lo) (h1:L<=lo'):SS L w.heap.size w v S:=by
 have hl:=hr.len
 have hp:p=S.length:=by have:=h.1;omega
 subst hp
 rcases h.2 with ⟨rfl,h4⟩|⟨g,cap,cur,rfl,hb,hg,hc,hm,hs,ht⟩
 ·refine ⟨none,0,by rw [h4],by omega,by unfold maxLen;omega,fun i xs hx=>?_⟩
  have:=(aQz.1 hx).1;omega
 ·refine ⟨some ⟨g,0,none⟩,cap,rfl,hc,hm,fun i xs hx=>?_⟩
  have hi:=(aQz.1 hx).1
  obtain ⟨v,hv⟩:∃v,vs[i]?=some v:=⟨vs[i]'(by omega),by simp [show i<vs.length by omega]⟩
  refine ⟨g,0,v,rfl,aQ5 h0 hb,(aRi.1 hg).1,?_,(hr.own i _ xs hv hx).ints.wide h1 (aQv _)⟩;have e:=hv;rw [<-ht,aS1,if_pos (by omega)] at e;simp only [aSy,hg,aRt];rw [<-Array.getElem?_toList];exact e
theorem aB9 (lo hi lo' hi':Nat) (v u:Value) (c:Cod) (g:Grd) (w:World) (hv:c.R lo hi w v) (hh:hi<=w.heap.size) (hu:g.R lo' hi' w u) (hh':hi'<=w.heap.size) (hL:c.ls.length<=2000000) (hyes:(c.runB&&g.okB)=true) :
  Calls aQ2 193 #[v,u] w fun e w'=>∃r,e = .returned (.tuple #[r,.bool true])/\SS w.heap.size w'.heap.size w' r (c.out g)/\Ext w w':=by
 have HV:=hid hv;have HU:=hid hu;obtain ⟨a1,c1,a2,c2,rfl,HI,-⟩:=hv.form;obtain ⟨pu,tu,rfl,-,n7,k3,hp,ht⟩:=hu;clear hv;have k1:=HI.le;have k2:=HI.cap;simp only [aRd] at hyes;obtain ⟨h1,h2⟩:=hyes;obtain ⟨n,hn,j3,n1,n8,j4,b5,i8⟩:=Grd.parts h2
 have z6:∀x∈c.xs,gY x=true:=by unfold Cod.runB at h1;simp at h1;exact h1.2
 have h7:c.depth.isSome=true:=by unfold Cod.runB at h1;simp at h1;exact h1.1
 have j1:c.xs.length<=300:=by
  have h7:=h7;unfold Cod.depth at h7
  split at h7
  ·assumption
  ·simp at h7
 have a9:lE n g.m g.f g.tm g.t c.xs [] (aRj c.ls.length [])=c.out g:=by unfold Cod.out;rw [hn];rfl
 have HG:=hid (show iD w.heap.size w n g.m pu tu g.f g.tm g.t from ⟨hp.wide (aSi _) hh',⟨tu,rfl,k3,ht.wide (aSi _) hh'⟩,j3,n1,n8,j4,b5,i8⟩);have HD:=hid h7;have HN:=hid z6;have d2:=hid a9;clear hp ht n7 k3 j3 j4 b5 i8 h7 z6 a9;rw [hn];replace hn:=hid hn;have x0:Ext w ((w.alloc (.cells #[.slice a1 c.xs.length c1,.slice a2 c.ls.length c2] 163)).alloc (.cells #[n,pu,g.tm,g.t.log,tu] 168)):=X_;have cb:=(hZ.made w (.slice a1 c.xs.length c1) (.slice a2 c.ls.length c2) 163).ext ((aQ6 _).alloc (.cells #[n,pu,g.tm,g.t.log,tu] 168));have gb:=tL.made (w.alloc (.cells #[.slice a1 c.xs.length c1,.slice a2 c.ls.length c2] 163)) n pu g.tm g.t.log tu 168;simp only [aQy] at gb
 obtain ⟨W0,c8⟩:=e_ ((w.alloc (.cells #[.slice a1 c.xs.length c1,.slice a2 c.ls.length c2] 163)).alloc (.cells #[n,pu,g.tm,g.t.log,tu] 168))
 rw [c8] at x0 cb gb;have a0:=hid cb;have a3:=hid gb;have z1:=hid x0;have l0:=hid c8;have o6:=x0.size
 have o9:w.heap.size+2=W0.heap.size:=by rw [<-c8];simp
 clear cb gb x0 c8
 obtain ⟨a5,a7⟩:=e_ c.depth.isSome
 obtain ⟨dm,i7⟩:=e_ (c.depth.getD 0)
 have g8:=hid a7;have k4:=hid i7;clear a7 i7;go_enter func193,ntmps193;go_wp2_with fail;rw [l0];refine r_ (vV ⟨k4,g8⟩ lo hi _ _ (HV.ext hh z1) (by omega) hL) fun w1 x1=>?_;have c6:=a0.ext x1;have i4:=hid x1;have q0:=c6.lt;have q1:=c6.c0;have q2:=c6.c1;clear c6 x1;go_wp2
 go_loopw [7,26] (fun okv i wr=>∃k:Nat,k<=c.xs.length/\i = .int .i64 k/\okv = .bool (a5&&(c.xs.take k).all gY)/\Ext W0 wr) (fun _ i _=>c.xs.length - (intOf i).toNat)
 case atStart=>exact ⟨0,by omega,rfl,by simp,i4⟩
 case round=>
  clear q0 q1 q2 i4;obtain ⟨k,hk,rfl,rfl,hx⟩:=hrel
  by_cases a8:k<c.xs.length
  ·obtain ⟨b,n6,op,s,num,rfl,l9,m0,q4,q8,io,n5,y0,y1,y2⟩:=HI.at a8 (z1.trans hx) hh
   have j0:c.xs[k]=⟨op,s,num⟩:=by have:=q8;rw [aQ9 a8] at this;exact aSx this
   have d8:(a5&&(c.xs.take (k+1)).all gY)=((a5&&(c.xs.take k).all gY)&&inB num (-1000000000) 1000000000):=by
    rw [aRv a8,aZe,j0,aZn];simp [gY]
   obtain ⟨l5,a6⟩:=e_ (a5&&(c.xs.take k).all gY)
   rw [a6] at d8 ⊢;have d0:=hid d8;have HX:=hid hx;clear d8 a6 j0 q8 q4 hx
   cases l5
   ·go_wp2
    go_roundw
    case rel=>exact ⟨k+1,by omega,by go_num,by rw [d0];rfl,by have hx:=HX.out;exact S_⟩
    case measure=>simp [intOf];omega
   ·cases z4:inB num (-1000000000) 1000000000
    ·have a4:=hid z4
     clear z4;go_wp2_with fail;refine z_ (aE a4 _) ?_;go_wp2;go_roundw
     case rel=>exact ⟨k+1,by omega,by go_num,by rw [d0,a4];rfl,by have hx:=HX.out;exact S_⟩
     case measure=>simp [intOf];omega
    ·have a4:=hid z4
     clear z4;go_wp2_with fail;refine z_ (aE a4 _) ?_;go_wp2;go_roundw
     case rel=>exact ⟨k+1,by omega,by go_num,by rw [d0,a4];rfl,by have hx:=HX.out;exact S_⟩
     case measure=>simp [intOf];omega
  ·obtain rfl:k=c.xs.length:=by omega
   rw [aR2]
   have j7:(a5&&c.xs.all gY)=c.runB:=by rw [<-g8];rfl
   rw [j7];have h6:=a3.ext hx;have h9:=a0.ext hx;have HX:=hid hx;have g0:=h6.lt;have g1:=h6.c0;have g2:=h6.c1;have g3:=h6.c2;have g4:=h6.c3;have g5:=h6.c4;have q0:=h9.lt;have q1:=h9.c0;have q2:=h9.c1;clear j7 hx h6 h9;rw [h1];have p0:=HX.size;go_wp2_with fail;refine r_ (xE h2 lo' hi' _ _ (by have:=HU.ext hh' (z1.trans HX);rw [hn.out] at this;exact this) (by omega)) fun w2 x2=>?_;have X2:=HX.trans x2;have h6:=a3.ext X2;have h9:=a0.ext X2;clear g0 g1 g2 g3 g4 g5 q0 q1 q2;have g0:=h6.lt;have g1:=h6.c0;have g2:=h6.c1;have g3:=h6.c2;have g4:=h6.c3;have g5:=h6.c4;have q0:=h9.lt;have q1:=h9.c0;have q2:=h9.c1;have l1:=hid X2;have n4:=X2.size;clear h6 h9 X2 x2;obtain ⟨i0,i9,b8,b9,c5⟩:=info_parts pA;go_wp2_with (at_make;refine wpList_make_row _ rfl _ _ 76 rfl 24 i0 (.slice none 0 0) underlying76 i9 b8 b9 rfl .i64 .i64 c.ls.length rfl rfl (by rw [c5];omega) (by omega) ?_);clear i9 b8 b9 c5
   have M0:=hid (show Mst W0.heap.size (w2.heap.size+1) ((w2.alloc (.cells (madeCells #[.slice none 0 0] c.ls.length) 24)).alloc (.cells #[] 24)) (.slice (some ⟨w2.heap.size+1,0,none⟩) 0 0) (.slice (some ⟨w2.heap.size,0,none⟩) c.ls.length c.ls.length) [] (aRj c.ls.length (.slice none 0 0)) [] (aRj c.ls.length []) from by
    have hf:=ownsRow.fresh w2 W0.heap.size c.ls.length n4 hL;refine ⟨?_,hf.alloc _,fun k hk=>by simp [aRu] at hk;omega,by omega,by simp,Rws.nil _ _,Rws.nils _ _ _⟩;have:=aJ2 (w2.alloc (.cells (madeCells #[.slice none 0 0] c.ls.length) 24)) (.cells #[] 24)
    exact ownsRow.empty (aQv _) (by simpa using this))
   have X3:=hid (show Ext W0 ((w2.alloc (.cells (madeCells #[.slice none 0 0] c.ls.length) 24)).alloc (.cells #[] 24)) from (l1.alloc _).alloc _)
   have o2:w.heap.size<=W0.heap.size:=by omega
   clear g0 g1 g2 g3 g4 g5 q0 q1 q2
   go_loopw [11,52] (fun sv i wr=>∃(k:Nat) (vs us:List Value) (S L:List (List Int)),k<=c.xs.length/\i = .int .i64 k/\Mst W0.heap.size (w2.heap.size+1) wr sv (.slice (some ⟨w2.heap.size,0,none⟩) c.ls.length c.ls.length) vs us S L/\(∃g cap,sv = .slice (some ⟨g,0,none⟩) vs.length cap)/\nJ c.ls.length g.m (c.xs.drop k) S L/\lE n g.m g.f g.tm g.t (c.xs.drop k) S L=c.out g/\S.length<=k/\Ext W0 wr) (fun _ i _=>c.xs.length - (intOf i).toNat)
   case atStart=>exact ⟨0,_,_,_,_,by omega,rfl,M0,⟨_,_,rfl⟩,by rw [aWx];exact nJ.start HD,by rw [aWx];exact d2,by simp,X3⟩
   case round=>
    clear M0 X3;obtain ⟨k,vs,us,S,L,hk,rfl,M,⟨gs,gc,rfl⟩,ok,hrun,hSk,hx⟩:=hrel
    by_cases a8:k<c.xs.length
    ·obtain ⟨b,n6,op,s,num,rfl,l9,m0,q4,q8,io,n5,y0,y1,y2⟩:=HI.at a8 (z1.trans hx) hh
     rw [q4] at ok hrun;have z4:gY ⟨op,s,num⟩=true:=HN _ (aRn q8);have e4:=ok.wf;obtain ⟨p,hp,d9⟩:=ok.pops;have y5:=ok.local;have HK:=hid (ok.next (t:=g.t) HG.hm z4 HG.f9 HG.tm9);have z3:=ok.rows;have j2:=ok.len;simp only at e4 hp d9 y5
     obtain ⟨q,e0⟩:=e_ (iN op s S)
     rw [e0] at d9;have x8:=M.sr.len;have e3:=M.lr.len;rw [<-x8] at d9 hSk;replace x8:=hid x8;replace e3:=hid e3
     obtain ⟨qv,j5⟩:=e_ (fZ op)
     have z5:S9 num:=aG.1 (show inB num (-1000000000) 1000000000=true from z4);obtain ⟨p1,p2⟩:=ownsRow.caps M.so;obtain ⟨m4,d7⟩:=aSw M.so gs rfl
     have n2:(vs.length:Int) - p=q:=by omega
     have j8:vs.length - q=p:=by omega
     have e9:Ext wr (wr.alloc (.cells #[op,.string s,num] 221)):=X_;have HX:=hid hx;have HM:=hid (M.ext e9);have HQ:=hid e0;have x3:=hid hrun;have HP:=hid hp;have k7:=hid j5;have y7:=hid e4;have k5:=hid z3;have k6:=hid y5
     have i6:(vs.drop q).length=p:=by simp;omega
     have y6:=hid i6
     have g6:Hid (∀(w':World),Ext wr w'->∀i y,(vs.drop q)[i]?=some y->w'.cell? ⟨gs,q+i,none⟩=some y):=by
      intro w' x' i y hy;rw [aTc] at hy;have m7:=(aQz.1 hy).1;rw [x'.cells.1 _ _ d7,aS5 M.so (q+i) (by omega)];exact hy
     have i2:Hid (∀y∈vs.drop q,y.oneCell'=true):=fun y hy=>M.sr.one y (aUi hy);have h9:=a0.ext hx;have h6:=a3.ext hx;have b0:=h9.lt;have b1:=h9.c0;have b2:=h9.c1;have g0:=h6.lt;have g1:=h6.c0;have g2:=h6.c1;have g3:=h6.c2;have g4:=h6.c3;have g5:=h6.c4;have o7:=hx.size;clear M ok hrun q8 q4 hx z4 e4 hp j5 z3 y5 e0 i6 h9 h6;go_wp2_with fail;refine r_ (oS _ _ _ _ _ c.ls.length hL op s num _ y7 HP k7) fun w4 x4=>?_;have x5:Ext wr w4:=e9.trans x4;have M4:=HM.ext x4;have h9:=a0.ext (HX.trans x5);have h6:=a3.ext (HX.trans x5);have y9:=(jQ.made wr op s num 221).ext x4;have y4:=hid M4;have q9:=hid x5;have d4:=hid y9;have o8:=x5.size;clear b0 b1 b2 g0 g1 g2 g3 g4 g5 y0 y1 y2 HM M4;have b0:=h9.lt;have b1:=h9.c0;have b2:=h9.c1;have g0:=h6.lt;have g1:=h6.c0;have g2:=h6.c1;have g3:=h6.c2;have g4:=h6.c3;have g5:=h6.c4;have y0:=y9.lt;have y1:=y9.c0;have y2:=y9.c1;have y3:=y9.c2;clear h9 h6 y9 x4 x5 e9
     have c9:=hid (show ∀w5,Ext w4 w5->tL w5 (w.heap.size+1) n pu g.tm g.t.log tu/\jQ w5 wr.heap.size op s num from fun w5 x5=>⟨(a3.ext (HX.trans (q9.trans x5))),by
      have hq:=d4.ext x5
      exact hq⟩)
     by_cases m8:p=0
     ·subst m8
      have q5:op=1\/op=2\/op=3:=by
       have hw:=y7.out;have z8:=HP.out;have o3:=nS s
       by_cases h1:1<=op/\op<=7
       ·rcases (show op=1\/op=2\/op=3\/op=4\/op=5\/op=6\/op=7 by omega) with rfl|rfl|rfl|rfl|rfl|rfl|rfl
        ·exact .inl rfl
        ·exact .inr (.inl rfl)
        ·exact .inr (.inr rfl)
        ·exact absurd z8 (by have:cI 4 s=1:=rfl;omega)
        ·exact absurd z8 (by have:cI 5 s=1:=rfl;omega)
        ·exact absurd z8 (by have:cI 6 s=2:=rfl;omega)
        ·exact absurd z8 (by have:cI 7 s=cA s:=rfl;omega)
       ·unfold wfI at hw
        rw [if_neg (by omega),if_neg (by omega),if_neg (by omega),if_neg (by omega),if_neg (by omega),if_neg (by omega),if_neg (by omega)] at hw;cases hw
      have h4:(op==4)=false:=by rcases q5 with rfl|rfl|rfl <;> rfl
      have i5:op≠4:=by rintro rfl;cases h4
      obtain rfl:q=vs.length:=by omega
      have z7:=hid q5
      have j6:Hid (op=3->∃j:Nat,num=j/\∃xs,L[j]?=some xs/\fG g.m xs):=fun h3=>by
       obtain ⟨j,hj,_⟩:=nB y7 (.inl h3);obtain ⟨xs,hx,m5⟩:=k6 h3;rw [hj,aRr] at hx;exact ⟨j,hj,xs,hx,m5⟩
      clear q5
      have eS:Hid (eH n g.m g.f g.tm g.t ⟨op,s,num⟩ S L=S.take vs.length++[iM n g.m g.f g.tm g.t op s num (S.drop vs.length) L]):=by
       unfold eH;rw [if_neg i5,HQ]
       rfl
      have eL:Hid (gD ⟨op,s,num⟩ S L=L):=by unfold gD;rw [if_neg i5];rfl
      obtain ⟨row,h8⟩:=e_ (iM n g.m g.f g.tm g.t op s num (S.drop vs.length) L)
      have q3:=hid h8;clear h8
      by_cases m2:gc=vs.length
      ·subst m2
       go_wp2_with (at_builtin;refine dH _ rfl _ _ rfl w4.heap.size (.slice (some ⟨w4.heap.size,0,none⟩) 0 0) 0 [] rfl (ownsRow.empty (aQv _) (cB w4 _)) [] (fun y h=>by cases h) _ _ _ rfl (fun i y h=>by simp at h) (by simp) (by simp) ?_;intro v5 w5 h0 q7;have X5:Ext w4 w5:=((aQ6 w4).alloc _).grown q7 (fun k e=>by simp [aRu] at e;omega);obtain ⟨n9,e8,rfl⟩:=ownsRow.form h0;obtain ⟨⟨u0,u1,u2,u3,u4,u5⟩,⟨t0,t1,t2,t3⟩⟩:=c9.out w5 X5;have e7:=X5.size);have M5:=y4.ext X5;have q6:=aAu (args:=S.drop vs.length) (lo:=w.heap.size) (lo':=w5.heap.size) (op:=op) (s:=s) (num:=num) (HG.step (z1.trans (HX.trans (q9.trans X5)))) (by omega) (ownsRow.ss M5.lo' M5.lr) (aQv _) z5 z7.out j6.out;rw [q3] at q6;refine q6.mono ?_;rintro e w6 ⟨r,rfl,hr,x6⟩;obtain ⟨ra,rc,rfl,_⟩:=hr.form;have M6:=hid (M5.ext x6);have b4:=hid (hr.low (show W0.heap.size<=w5.heap.size by omega));have X6:=hid ((HX.trans (q9.trans X5)).trans x6);have k0:=x6.size;clear q6 M5 hr x6 u0 u1 u2 u3 u4 u5 t0 t1 t2 t3 h0 q7 X5;go_wp2_with (at_builtin;refine fF _ rfl _ _ rfl (w2.heap.size+1) _ vs.length vs rfl (aVd M6.so _) (.slice ra row.length rc) rfl w6.heap.size rfl (by simp [go_sem]) (by omega) (by have:=M6.hl2;simp;omega) ?_;intro v7 w7 h5 z2;obtain ⟨g7,c7,rfl,_,_⟩:=ownsRow.form1 h5 (by omega));have MB:=(M6.ext ((aQ6 w6).alloc (.cells #[.slice ra row.length rc] 24))).push h5 z2 (b4.out.ext ((aQ6 w6).alloc (.cells #[.slice ra row.length rc] 24)));have x9:=hid MB;clear MB h5 z2;go_wp2;go_roundw
       case rel=>
        refine ⟨k+1,vs++[.slice ra row.length rc],us,eH n g.m g.f g.tm g.t ⟨op,s,num⟩ S L,gD ⟨op,s,num⟩ S L,by omega,by go_num,?_,⟨g7,c7,by simp⟩,HK,x3,?_,aVh (X6.alloc _) x9.2⟩
        ·have hS:S.take vs.length=S:=by rw [x8.out,aR2]
         rw [eS.out,eL.out,q3,hS];exact x9.1
        ·have hv:=x8.out
         rw [eS.out,aRq,aRp,aU2];omega
       case measure=>simp [intOf];omega
      ·skip
       go_wp2_with (at_builtin;refine dH _ rfl _ _ rfl w4.heap.size (.slice (some ⟨w4.heap.size,0,none⟩) 0 0) 0 [] rfl (ownsRow.empty (aQv _) (cB w4 _)) [] (fun y h=>by cases h) _ _ _ rfl (fun i y h=>by simp at h) (by simp) (by simp) ?_;intro v5 w5 h0 q7;have X5:Ext w4 w5:=((aQ6 w4).alloc _).grown q7 (fun k e=>by simp [aRu] at e;omega);obtain ⟨n9,e8,rfl⟩:=ownsRow.form h0;obtain ⟨⟨u0,u1,u2,u3,u4,u5⟩,⟨t0,t1,t2,t3⟩⟩:=c9.out w5 X5;have e7:=X5.size);have M5:=y4.ext X5;have q6:=aAu (args:=S.drop vs.length) (lo:=w.heap.size) (lo':=w5.heap.size) (op:=op) (s:=s) (num:=num) (HG.step (z1.trans (HX.trans (q9.trans X5)))) (by omega) (ownsRow.ss M5.lo' M5.lr) (aQv _) z5 z7.out j6.out;rw [q3] at q6;refine q6.mono ?_;rintro e w6 ⟨r,rfl,hr,x6⟩;obtain ⟨ra,rc,rfl,_⟩:=hr.form;have M6:=hid (M5.ext x6);have b4:=hid (hr.low (show W0.heap.size<=w5.heap.size by omega));have X6:=hid ((HX.trans (q9.trans X5)).trans x6);have k0:=x6.size;clear q6 M5 hr x6 u0 u1 u2 u3 u4 u5 t0 t1 t2 t3 h0 q7 X5;go_wp2_with (at_builtin;refine fF _ rfl _ _ rfl (w2.heap.size+1) _ vs.length vs rfl (aVd M6.so _) (.slice ra row.length rc) rfl w6.heap.size rfl (by simp [go_sem]) (by omega) (by have:=M6.hl2;simp;omega) ?_;intro v7 w7 h5 z2;obtain ⟨g7,c7,rfl,_,_⟩:=ownsRow.form1 h5 (by omega));have MB:=(M6.ext ((aQ6 w6).alloc (.cells #[.slice ra row.length rc] 24))).push h5 z2 (b4.out.ext ((aQ6 w6).alloc (.cells #[.slice ra row.length rc] 24)));have x9:=hid MB;clear MB h5 z2;go_wp2;go_roundw
       case rel=>
        refine ⟨k+1,vs++[.slice ra row.length rc],us,eH n g.m g.f g.tm g.t ⟨op,s,num⟩ S L,gD ⟨op,s,num⟩ S L,by omega,by go_num,?_,⟨g7,c7,by simp⟩,HK,x3,?_,aVh (X6.alloc _) x9.2⟩
        ·have hS:S.take vs.length=S:=by rw [x8.out,aR2]
         rw [eS.out,eL.out,q3,hS];exact x9.1
        ·have hv:=x8.out
         rw [eS.out,aRq,aRp,aU2];omega
       case measure=>simp [intOf];omega
     ·have m3 : ¬gc=q:=by omega
      have x7:q<=vs.length:=by omega
      have o5:1<=p:=by omega
      by_cases h4:op=4
      ·subst h4
       have b3:p=1:=by
        have:=HP.out;have e:cI 4 s=1:=rfl;omega
       have n0:q+1=vs.length:=by omega
       replace b3:=hid b3;obtain ⟨j,rfl,o4⟩:=nB y7 (.inr rfl);obtain ⟨y,e5,n3⟩:=lY vs q n0
       obtain ⟨row,h8⟩:=e_ (S.getD q [])
       have e6:aB W0.heap.size w4 y row:=by
        have h1:S[q]?=some row:=by
         rw [<-h8,aTz,aQ9 (by have:=x8.out;omega)]
         rfl
        have h2:vs[q]?=some y:=by
         have:(vs.drop q)[0]?=some y:=by rw [e5];rfl
         rwa [aTc,aSk] at this
        exact y4.sr.own q y row h2 h1
       obtain ⟨ya,yc,rfl,_⟩:=e6.form;have l4:=hid e6;have l3:=hid e5
       have b6:us.length=c.ls.length:=by have:=e3.out;have:=y4.lr.len;omega
       have m6:j<us.length:=by omega
       obtain ⟨y0,j9⟩:∃y,us[j]?=some y:=⟨us[j],by simp [m6]⟩
       have l2:=hid j9;have d3:=hid b6
       have l8:Hid (∀(w':World),Ext w4 w'->w'.cell? ⟨w2.heap.size,j,none⟩=some y0/\w'.frozen? ⟨w2.heap.size,j,none⟩=false/\w2.heap.size<w'.heap.size):=fun w' x'=>by
        have M':=(y4.ext x').lo';have hb:=(aSw M' w2.heap.size rfl).2;rw [d3] at M';exact ⟨(aS5 M' j (by omega)).trans l2,aY9 M' j,hb⟩
       have eS:Hid (eH n g.m g.f g.tm g.t ⟨4,s,j⟩ S L=S.take q):=by
        unfold eH;rw [if_pos rfl,HQ]
        rfl
       have eL:Hid (gD ⟨4,s,j⟩ S L=L.set j row):=by
        unfold gD;rw [if_pos rfl,HQ,h8,aRr]
        rfl
       have o1:=hid h8;clear e6 e5 n3 b6 j9 h8;go_wp2_with (at_builtin;refine dH _ rfl _ _ rfl w4.heap.size (.slice (some ⟨w4.heap.size,0,none⟩) 0 0) 0 [] rfl (ownsRow.empty (aQv _) (cB w4 _)) (vs.drop q) i2 gs q (gc - q) (Eq.trans (b:=aR9 (some ⟨gs,q,none⟩) p (gc - q)) rfl (by rw [y6])) (g6 _ (q9.alloc _)) (by rw [y6];omega) (by simp) ?_;intro v5 w5 h0 q7;have X5:Ext w4 w5:=((aQ6 w4).alloc _).grown q7 (fun k e=>by simp [aRu] at e;omega);rw [y6,aRt,aSu] at h0;obtain ⟨l6,e8,rfl,d5,d6⟩:=ownsRow.form1 h0 (by omega);obtain ⟨⟨u0,u1,u2,u3,u4,u5⟩,⟨t0,t1,t2,t3⟩⟩:=c9.out w5 X5;have e7:=X5.size ;rw [l3] at h0;have z0:=aS5 h0 0 (by omega);simp at z0;obtain ⟨b0,b1,b2⟩:=l8.out w5 X5);refine aA [([0,1,2,3,4,5,6],7)] 7 w5.heap.size (by kernel_rfl) (by kernel_rfl) ?_;refine st_ fun K hK=>?_;go_wp2_with fail;go_wp2_with fail;refine l_ hK ?_;clear hK K;refine aC ?_;have M5:=y4.ext X5;have MS:=M5.shrink q x7;have b7:=l4.ext X5;rw [<-d3] at MS;have MT:=MS.store j b7;have i1:=hid MT;have X6:=hid ((HX.trans (q9.trans X5)));clear M5 MS MT b7 X5 h0 q7;go_wp2;go_roundw
       case rel=>
        refine ⟨k+1,vs.take q,us.set j (.slice ya row.length yc),eH n g.m g.f g.tm g.t ⟨4,s,j⟩ S L,gD ⟨4,s,j⟩ S L,by omega,by go_num,?_,⟨gs,gc,by rw [aRp,aTi x7]⟩,HK,x3,?_,aVh X6 ?_⟩
        ·rw [eS.out,eL.out]
         have:=i1.1;rw [d3] at this;exact this.ext (aRz (aQ6 _))
        ·rw [eS.out,aRp]
         omega
        ·exact i1.2.drew
       case measure=>simp [intOf];omega
      ·have q5:op=5\/op=6\/op=7:=by
        have hw:=y7.out;have z8:=HP.out
        by_cases h1:1<=op/\op<=7
        ·rcases (show op=1\/op=2\/op=3\/op=4\/op=5\/op=6\/op=7 by omega) with rfl|rfl|rfl|rfl|rfl|rfl|rfl
         ·exact absurd z8 (by have:cI 1 s=0:=rfl;omega)
         ·exact absurd z8 (by have:cI 2 s=0:=rfl;omega)
         ·exact absurd z8 (by have:cI 3 s=0:=rfl;omega)
         ·exact absurd rfl h4
         ·exact .inl rfl
         ·exact .inr (.inl rfl)
         ·exact .inr (.inr rfl)
        ·unfold wfI at hw
         rw [if_neg (by omega),if_neg (by omega),if_neg (by omega),if_neg (by omega),if_neg (by omega),if_neg (by omega),if_neg (by omega)] at hw;cases hw
       have eS:Hid (eH n g.m g.f g.tm g.t ⟨op,s,num⟩ S L=S.take q++[iM n g.m g.f g.tm g.t op s num (S.drop q) L]):=by
        unfold eH;rw [if_neg h4,HQ]
        rfl
       have eL:Hid (gD ⟨op,s,num⟩ S L=L):=by unfold gD;rw [if_neg h4];rfl
       have o0:(op==4)=false:=beq_eq_false_iff_ne.2 h4;have m9:((p:Int)==0)=false:=beq_eq_false_iff_ne.2 (by omega);have m1:Hid (∀r∈S.drop q,fG g.m r):=fun r hr=>k5 r (aUi hr)
       have l7:Hid ((S.drop q).length=p):=by have:=x8.out;show (S.drop q).length=p;rw [aTu];omega
       obtain ⟨row,h8⟩:=e_ (iM n g.m g.f g.tm g.t op s num (S.drop q) L)
       have q3:=hid h8;have d1:=hid q5;clear h8 q5;go_wp2_with (at_builtin;refine dH _ rfl _ _ rfl w4.heap.size (.slice (some ⟨w4.heap.size,0,none⟩) 0 0) 0 [] rfl (ownsRow.empty (aQv _) (cB w4 _)) (vs.drop q) i2 gs q (gc - q) (Eq.trans (b:=aR9 (some ⟨gs,q,none⟩) p (gc - q)) rfl (by rw [y6])) (g6 _ (q9.alloc _)) (by rw [y6];omega) (by simp) ?_;intro v5 w5 h0 q7;have X5:Ext w4 w5:=((aQ6 w4).alloc _).grown q7 (fun k e=>by simp [aRu] at e;omega);rw [y6,aRt,aSu] at h0;obtain ⟨l6,e8,rfl,d5,d6⟩:=ownsRow.form1 h0 (by omega);obtain ⟨⟨u0,u1,u2,u3,u4,u5⟩,⟨t0,t1,t2,t3⟩⟩:=c9.out w5 X5;have e7:=X5.size);have M5:=y4.ext X5;have y8:=ownsRow.ss h0 ((M5.sr).drop q);have q6:=aGh (L:=L) (lo:=w.heap.size) (lo':=w5.heap.size) (op:=op) (s:=s) (num:=num) (HG.step (z1.trans (HX.trans (q9.trans X5)))) (by omega) y8 (aQv _) d1 y7 HP l7.out m1.out;rw [q3] at q6;refine q6.mono ?_;rintro e w6 ⟨r,rfl,hr,x6⟩;obtain ⟨ra,rc,rfl,_⟩:=hr.form
       have e2:(vs.take q).length=q:=by rw [aRp,aTi x7]
       have M6:=(M5.shrink q x7).ext x6;have e1:=M6.so;rw [e2] at e1;have k8:=hid e1;have g9:=hid M6;have i3:=hid e2;have b4:=hid (hr.low (show W0.heap.size<=w5.heap.size by omega));have X6:=hid ((HX.trans (q9.trans X5)).trans x6);have k0:=x6.size;clear q6 M5 M6 e1 e2 hr x6 u0 u1 u2 u3 u4 u5 t0 t1 t2 t3 h0 q7 X5 y8;go_wp2_with (at_builtin;refine fF _ rfl _ _ rfl (w2.heap.size+1) _ q (vs.take q) rfl (aVd k8 _) (.slice ra row.length rc) rfl w6.heap.size rfl (by simp [go_sem]) (by omega) (by have:=g9.hl2;simp;omega) ?_;intro v7 w7 h5 z2;obtain ⟨g7,c7,rfl,_,_⟩:=ownsRow.form1 h5 (by omega));have MB:=(g9.ext ((aQ6 w6).alloc (.cells #[.slice ra row.length rc] 24))).push (by rw [i3];exact h5) z2 (b4.out.ext ((aQ6 w6).alloc (.cells #[.slice ra row.length rc] 24)));have x9:=hid MB;clear MB h5 z2;go_wp2;go_roundw
       case rel=>
        refine ⟨k+1,vs.take q++[.slice ra row.length rc],us,eH n g.m g.f g.tm g.t ⟨op,s,num⟩ S L,gD ⟨op,s,num⟩ S L,by omega,by go_num,?_,⟨g7,c7,by rw [aRq,i3];rfl⟩,HK,x3,?_,aVh (X6.alloc _) x9.2⟩
        ·rw [eS.out,eL.out,q3]
         exact x9.1
        ·rw [eS.out,aRq,aRp,aU2]
         omega
       case measure=>simp [intOf];omega
    ·obtain rfl:k=c.xs.length:=by omega
     rw [List.drop_length] at hrun;have z9:L=c.out g:=hrun;have y8:=ownsRow.ssF (L:=w.heap.size) M.lo' M.lr (by omega) (by omega);rw [z9] at y8;have k9:=hid y8;clear hrun z9 y8 M ok;go_wp2;refine bodyPost_ret (v:=.tuple #[.slice (some ⟨w2.heap.size,0,none⟩) c.ls.length c.ls.length,.bool true]) (by simp [results,results193,go_sem]) rfl ⟨_,rfl,k9,z1.trans hx⟩
theorem aD5 (lo hi lo' hi':Nat) (v u:Value) (c:Cod) (g:Grd) (w:World) (hv:c.R lo hi w v) (hh:hi<=w.heap.size) (hu:g.R lo' hi' w u) (hh':hi'<=w.heap.size) (hL:c.ls.length<=2000000) (hno:(c.runB&&g.okB)=false) :
  R_ 193 #[v,u] w (.tuple #[.slice none 0 0,.bool false]):=by
 have HV:=hid hv;have HU:=hid hu;obtain ⟨a1,c1,a2,c2,rfl,HI,-⟩:=hv.form;obtain ⟨pu,tu,rfl,-,y4,z9,hp,ht⟩:=hu;clear hv;have k1:=HI.le;have k2:=HI.cap;have x0:Ext w ((w.alloc (.cells #[.slice a1 c.xs.length c1,.slice a2 c.ls.length c2] 163)).alloc (.cells #[g.n,pu,g.tm,g.t.log,tu] 168)):=X_;have cb:=(hZ.made w (.slice a1 c.xs.length c1) (.slice a2 c.ls.length c2) 163).ext ((aQ6 _).alloc (.cells #[g.n,pu,g.tm,g.t.log,tu] 168));have gb:=tL.made (w.alloc (.cells #[.slice a1 c.xs.length c1,.slice a2 c.ls.length c2] 163)) g.n pu g.tm g.t.log tu 168;simp only [aQy] at gb
 obtain ⟨W0,q4⟩:=e_ ((w.alloc (.cells #[.slice a1 c.xs.length c1,.slice a2 c.ls.length c2] 163)).alloc (.cells #[g.n,pu,g.tm,g.t.log,tu] 168))
 rw [q4] at x0 cb gb;have x3:=hid cb;have z0:=hid gb;have h4:=hid x0;have z1:=hid q4;have z5:=x0.size
 have z6:w.heap.size+2=W0.heap.size:=by rw [<-q4];simp
 clear cb gb x0 q4
 obtain ⟨h5,h7⟩:=e_ c.depth.isSome
 obtain ⟨dm,x6⟩:=e_ (c.depth.getD 0)
 have x4:=hid h7;have x9:=hid x6;clear h7 x6;go_enter func193,ntmps193;go_wp2_with fail;rw [z1];refine r_ (vV ⟨x9,x4⟩ lo hi _ _ (HV.ext hh h4) (by omega) hL) fun w1 x1=>?_;have q3:=x3.ext x1;have x5:=hid x1;have q0:=q3.lt;have q1:=q3.c0;have q2:=q3.c1;clear q3 x1;go_wp2
 go_loopw [7,26] (fun okv i wr=>∃k:Nat,k<=c.xs.length/\i = .int .i64 k/\okv = .bool (h5&&(c.xs.take k).all gY)/\Ext W0 wr) (fun _ i _=>c.xs.length - (intOf i).toNat)
 case atStart=>exact ⟨0,by omega,rfl,by simp,x5⟩
 case round=>
  clear q0 q1 q2 x5;obtain ⟨k,hk,rfl,rfl,hx⟩:=hrel
  by_cases q8:k<c.xs.length
  ·obtain ⟨b,y3,op,s,num,rfl,z3,z4,h8,h9,io,z8,y0,y1,y2⟩:=HI.at q8 (h4.trans hx) hh
   have x7:c.xs[k]=⟨op,s,num⟩:=by have:=h9;rw [aQ9 q8] at this;exact aSx this
   have q9:(h5&&(c.xs.take (k+1)).all gY)=((h5&&(c.xs.take k).all gY)&&inB num (-1000000000) 1000000000):=by
    rw [aRv q8,aZe,x7,aZn];simp [gY]
   obtain ⟨z2,h6⟩:=e_ (h5&&(c.xs.take k).all gY)
   rw [h6] at q9 ⊢;have q7:=hid q9;have HX:=hid hx;clear q9 h6 x7 h9 h8 hx
   cases z2
   ·go_wp2
    go_roundw
    case rel=>exact ⟨k+1,by omega,by go_num,by rw [q7];rfl,by have hx:=HX.out;exact S_⟩
    case measure=>simp [intOf];omega
   ·cases q6:inB num (-1000000000) 1000000000
    ·have h3:=hid q6
     clear q6;go_wp2_with fail;refine z_ (aE h3 _) ?_;go_wp2;go_roundw
     case rel=>exact ⟨k+1,by omega,by go_num,by rw [q7,h3];rfl,by have hx:=HX.out;exact S_⟩
     case measure=>simp [intOf];omega
    ·have h3:=hid q6
     clear q6;go_wp2_with fail;refine z_ (aE h3 _) ?_;go_wp2;go_roundw
     case rel=>exact ⟨k+1,by omega,by go_num,by rw [q7,h3];rfl,by have hx:=HX.out;exact S_⟩
     case measure=>simp [intOf];omega
  ·obtain rfl:k=c.xs.length:=by omega
   rw [aR2]
   have x8:(h5&&c.xs.all gY)=c.runB:=by rw [<-x4];rfl
   rw [x8];have h0:=z0.ext hx;have q5:=x3.ext hx;have HX:=hid hx;have g0:=h0.lt;have g1:=h0.c0;have g2:=h0.c1;have g3:=h0.c2;have g4:=h0.c3;have g5:=h0.c4;have q0:=q5.lt;have q1:=q5.c0;have q2:=q5.c1;clear x8 hx h0 q5
   cases h1:c.runB
   ·go_wp2
    refine bodyPost_ret (v:=.tuple #[.slice none 0 0,.bool false]) (by simp [results,results193,go_sem]) rfl ⟨rfl,h4.trans HX⟩
   ·have h2:g.okB=false:=by rw [h1] at hno;simpa using hno
    have z7:=HX.size;go_wp2_with fail;refine r_ (xE h2 lo' hi' _ _ (HU.ext hh' (h4.trans HX)) (by omega)) fun w2 x2=>?_;go_wp2;refine bodyPost_ret (v:=.tuple #[.slice none 0 0,.bool false]) (by simp [results,results193,go_sem]) rfl ⟨rfl,(h4.trans HX).trans x2⟩
def Cod.res (c:Cod) (g:Grd):List (List Int):=if (c.runB&&g.okB)=true then c.out g else []
theorem xC.nil (lo:Nat) (w:World):xC lo w (.slice none 0 0) []:=⟨[],aUp _ _ _ _,⟨rfl,fun i v xs h=>by simp at h⟩,List.Pairwise.nil,fun j u h=>by simp at h⟩
theorem SS.nil (lo hi:Nat) (w:World):SS lo hi w (.slice none 0 0) []:=⟨none,0,rfl,aQv _,by unfold maxLen;omega,fun i xs h=>by simp at h⟩
theorem aCa {S:List (List Int)} (lo hi lo' hi':Nat) (v u:Value) (c:Cod) (g:Grd) (w:World) (hb:(c.runB&&g.okB)=b) (hS:c.res g=S) (hv:c.R lo hi w v) (hh:hi<=w.heap.size) (hu:g.R lo' hi' w u) (hh':hi'<=w.heap.size) (hL:c.small) :
  Calls aQ2 168 #[v,u] w fun e w'=>∃r,e = .returned (.tuple #[r,.bool b])/\xC w.heap.size w' r S/\Ext w w':=by
 have h0:c.ls.length<=2000000:=by have:=hL.2;omega
 subst hS;unfold Cod.res
 cases b
 ·rw [hb,if_neg (by decide)]
  exact (aD4 lo hi lo' hi' v u c g w hv hh hu hh' h0 hb).mono fun e w' ⟨h1,h2⟩=>⟨_,h1,xC.nil _ _,h2⟩
 ·rw [hb,if_pos rfl]
  exact aB8 lo hi lo' hi' v u c g w hv hh hu hh' h0 hb
theorem aCb {S:List (List Int)} (lo hi lo' hi':Nat) (v u:Value) (c:Cod) (g:Grd) (w:World) (hb:(c.runB&&g.okB)=b) (hS:c.res g=S) (hv:c.R lo hi w v) (hh:hi<=w.heap.size) (hu:g.R lo' hi' w u) (hh':hi'<=w.heap.size) (hL:c.small) :
  Calls aQ2 193 #[v,u] w fun e w'=>∃r,e = .returned (.tuple #[r,.bool b])/\SS w.heap.size w'.heap.size w' r S/\Ext w w':=by
 have h0:c.ls.length<=2000000:=by have:=hL.2;omega
 subst hS;unfold Cod.res
 cases b
 ·rw [hb,if_neg (by decide)]
  exact (aD5 lo hi lo' hi' v u c g w hv hh hu hh' h0 hb).mono fun e w' ⟨h1,h2⟩=>⟨_,h1,SS.nil _ _ _,h2⟩
 ·rw [hb,if_pos rfl]
  exact aB9 lo hi lo' hi' v u c g w hv hh hu hh' h0 hb
theorem aGi {L0:Nat} {t:Tex} (hm:n*n=m) (hf:∀i,i<m*5->S9 (f i)) (ht:S9 tm) :
  ∀(xs:List Ins) (S L:List (List Int)),(∀x∈xs,gY x=true)->nJ L0 m xs S L->(lE n m f tm t xs S L).length=L0/\∀r∈lE n m f tm t xs S L,r.length<=m:=by
 intro xs
 induction xs with
 | nil=>
  intro S L _ h;refine ⟨h.len,fun r hr=>?_⟩;obtain ⟨d,st,_,h2⟩:=h.run;obtain ⟨j,hj⟩:=List.mem_iff_getElem?.1 hr
  rcases h2 j r hj with ⟨_,h3⟩|⟨_,h3⟩
  ·have:=h3.1;omega
  ·rw [h3];simp
 | cons x r ih=>
  intro S L hn h;exact ih _ _ (fun y hy=>hn y (List.mem_cons_of_mem _ hy)) (h.next hm (hn x List.mem_cons_self) hf ht)
def ixL (s:List UInt8):List ByteArray->Int
 | []=>-1
 | x::r=>if x.toList=s then 0 else if ixL s r<0 then -1 else ixL s r+1
theorem aK8 (s:List UInt8):∀ls,-1<=ixL s ls/\ixL s ls<ls.length:=by
 intro ls
 induction ls with
 | nil=>simp [ixL]
 | cons x r ih=>
  simp only [ixL,aSc]
  split
  ·omega
  ·split <;> omega
theorem aGj {s:List UInt8}:∀{ls:List ByteArray} {k:Nat} {y:ByteArray},ls[k]?=some y->y.toList=s->(∀j z,j<k->ls[j]?=some z->z.toList≠s)->ixL s ls=k:=by
 intro ls
 induction ls with
 | nil=>intro k y h;simp at h
 | cons x r ih=>
  intro k y h1 h2 h3
  cases k with
  | zero=>
   simp at h1;subst h1;simp [ixL,h2]
  | succ k=>
   have h0:=h3 0 x (by omega) rfl;have:=ih (k:=k) (by simpa using h1) h2 (fun j z hj hz=>h3 (j+1) z (by omega) (by simpa using hz));simp only [ixL,if_neg h0,this];rw [if_neg (by omega)];simp
theorem aGk {s:List UInt8}:∀{ls:List ByteArray},(∀j z,j<ls.length->ls[j]?=some z->z.toList≠s)->ixL s ls = -1:=by
 intro ls
 induction ls with
 | nil=>intro _;rfl
 | cons x r ih=>
  intro h;have h0:=h 0 x (by simp) rfl;have:=ih (fun j z hj hz=>h (j+1) z (by simp;omega) (by simpa using hz));simp [ixL,if_neg h0,this]
theorem aGl (lo hi:Nat) (u:Value) (ls:List ByteArray) (s:ByteArray) (w:World) (hu:qF lo hi w u ls) (hl:ls.length<=2000000) :
  Z_ 169 #[u,.string s] w (.int .i64 (ixL s.toList ls)):=by
 obtain ⟨a,cap,rfl,HU⟩:=hu.open;have l1:=HU.le;have l2:=HU.cap;clear hu;go_enter func169,ntmps169;go_wp2
 go_loopw [8] (fun i wr=>∃k:Nat,k<=ls.length/\i = .int .i64 k/\wr=w/\∀j z,j<k->ls[j]?=some z->z.toList≠s.toList) (fun i _=>ls.length - (intOf i).toNat)
 case atStart=>exact ⟨0,by omega,rfl,rfl,fun j x h=>by omega⟩
 case round=>
  obtain ⟨k,hk,rfl,rfl,h1⟩:=hrel
  by_cases h2:k<ls.length
  ·obtain ⟨b,h6,rfl,h4,h5,hc⟩:=HU.at h2
   have h0:ls[k]?=some ls[k]:=by simp [h2]
   obtain ⟨y,hy⟩:=e_ (ls[k])
   rw [hy] at hc h0;clear hy
   by_cases he:(s.toList==y.toList)=true
   ·have hv:=hid (aGj h0 (eq_of_beq he).symm h1)
    clear h1 h0;go_wp2;go_ret;exact ⟨by first|(rw [hv.out];done)|(rw [hv.out];rfl),rfl⟩
   ·have HN:Hid (∀j z,j<k+1->ls[j]?=some z->z.toList≠s.toList):=hid (fun j z hj hz=>by
     by_cases h3:j=k
     ·subst h3
      rw [h0] at hz;injection hz with hz;subst hz;intro e;exact he (by rw [e];simp)
     ·exact h1 j z (by omega) hz)
    clear h1 h0;go_wp2;go_roundw
    case rel=>exact ⟨k+1,by omega,by go_num,by trivial,HN⟩
    case measure=>simp [intOf];omega
  ·obtain rfl:k=ls.length:=by omega
   have hv:=hid (aGk h1);clear h1;go_wp2;go_ret;exact ⟨by first|(rw [hv.out];done)|(rw [hv.out];rfl),rfl⟩
theorem xG (lo hi:Nat) (u:Value) (ls:List ByteArray) (s:ByteArray) (w:World) (hu:qF lo hi w u ls) (hl:ls.length<=2000000) :
  Z_ 194 #[u,.string s] w (.int .i64 (ixL s.toList ls)):=by
 obtain ⟨a,cap,rfl,HU⟩:=hu.open;have l1:=HU.le;have l2:=HU.cap;clear hu;go_enter func194,ntmps194;go_wp2
 go_loopw [9] (fun i wr=>∃k:Nat,k<=ls.length/\i = .int .i64 k/\wr=w/\∀j z,j<k->ls[j]?=some z->z.toList≠s.toList) (fun i _=>ls.length - (intOf i).toNat)
 case atStart=>exact ⟨0,by omega,rfl,rfl,fun j x h=>by omega⟩
 case round=>
  obtain ⟨k,hk,rfl,rfl,h1⟩:=hrel
  by_cases h2:k<ls.length
  ·obtain ⟨b,h6,rfl,h4,h5,hc⟩:=HU.at h2
   have h0:ls[k]?=some ls[k]:=by simp [h2]
   obtain ⟨y,hy⟩:=e_ (ls[k])
   rw [hy] at hc h0;clear hy
   by_cases he:(y.toList==s.toList)=true
   ·have hv:=hid (aGj h0 (eq_of_beq he) h1)
    clear h1 h0;go_wp2;go_ret;exact ⟨by first|(rw [hv.out];done)|(rw [hv.out];rfl),rfl⟩
   ·have HN:Hid (∀j z,j<k+1->ls[j]?=some z->z.toList≠s.toList):=hid (fun j z hj hz=>by
     by_cases h3:j=k
     ·subst h3
      rw [h0] at hz;injection hz with hz;subst hz;intro e;exact he (by rw [e];simp)
     ·exact h1 j z (by omega) hz)
    clear h1 h0;go_wp2;go_roundw
    case rel=>exact ⟨k+1,by omega,by go_num,by trivial,HN⟩
    case measure=>simp [intOf];omega
  ·obtain rfl:k=ls.length:=by omega
   have hv:=hid (aGk h1);clear h1;go_wp2;go_ret;exact ⟨by first|(rw [hv.out];done)|(rw [hv.out];rfl),rfl⟩
theorem xH {s:ByteArray} {ls:List ByteArray} (h:ixL s.toList ls=i) (lo hi:Nat) (u:Value) (w:World) (hu:qF lo hi w u ls) (hl:ls.length<=2000000) :
  Z_ 169 #[u,.string s] w (.int .i64 i):=h▸aGl lo hi u ls s w hu hl
theorem xI {s:ByteArray} {ls:List ByteArray} (h:ixL s.toList ls=i) (lo hi:Nat) (u:Value) (w:World) (hu:qF lo hi w u ls) (hl:ls.length<=2000000) :
  Z_ 194 #[u,.string s] w (.int .i64 i):=h▸xG lo hi u ls s w hu hl
def kF (ls:List ByteArray):Int:=ixL (⟨#[99,111,108,111,114]⟩:ByteArray).toList ls
def gT (ls:List ByteArray):Int:=ixL (⟨#[97,108,112,104,97]⟩:ByteArray).toList ls
def Cod.shade (c:Cod) (g:Grd):List Int×List Int×Bool:=
 if (c.runB&&g.okB)=true/\0<=kF c.ls/\(c.res g).getD (kF c.ls).toNat []≠[]/\(gT c.ls<0\/(c.res g).getD (gT c.ls).toNat []≠[]) then
  (((c.res g).getD (kF c.ls).toNat []).map col,if gT c.ls<0 then aRj g.m 256 else ((c.res g).getD (gT c.ls).toNat []).map col,true)
 else ([],[],false)
theorem Cod.res_small {c:Cod} {g:Grd} (h:(c.runB&&g.okB)=true):(c.res g).length=c.ls.length/\∀r∈c.res g,r.length<=64:=by
 unfold Cod.res;rw [if_pos h];simp only [aRd] at h;obtain ⟨h1,h2⟩:=h;obtain ⟨n,hn,hm,h5,h0,ht,h4,hf⟩:=g.parts h2;unfold Cod.runB at h1;simp only [aRd,aR5] at h1;have h3:=aGi (t:=g.t) (f:=g.f) (tm:=g.tm) hm hf h4 c.xs [] (aRj c.ls.length []) h1.2 (nJ.start h1.1)
 have e:c.out g=lE n g.m g.f g.tm g.t c.xs [] (aRj c.ls.length []):=by unfold Cod.out;rw [hn];rfl
 rw [e];have h6:n*n<=8*8:=aRy h0 h0;exact ⟨h3.1,fun r hr=>by have:=h3.2 r hr;omega⟩
theorem pB {P:Prop} [Decidable P] {A:List Int×List Int×Bool} (h:(if P then A else ([],[],false))=(X,Y,b)) (hP : ¬P):X=[]/\Y=[]/\b=false:=by
 rw [if_neg hP] at h;simp only [Prod.mk.injEq] at h;exact ⟨h.1.symm,h.2.1.symm,h.2.2.symm⟩
structure aMy (m:Nat) (R:Bool) (S:List (List Int)) (i j:Int) (X Y:List Int) (b:Bool):Prop where
 all:(R=false/\X=[]/\Y=[]/\b=false) \/
  (R=true/\i = -1/\X=[]/\Y=[]/\b=false) \/
  (R=true/\∃k:Nat,i=k/\k<=2000000/\S[k]?=some []/\X=[]/\Y=[]/\b=false) \/
  (R=true/\∃(k:Nat) (r:List Int),i=k/\k<=2000000/\S[k]?=some r/\r≠[]/\r.length<=64 /\
   ((∃l:Nat,j=l/\l<=2000000/\S[l]?=some []/\X=[]/\Y=[]/\b=false)\/(j = -1/\X=r.map col/\Y=aRj m 256/\b=true) \/
    ∃(l:Nat) (q:List Int),j=l/\l<=2000000/\S[l]?=some q/\q≠[]/\q.length<=64/\X=r.map col/\Y=q.map col/\b=true))
theorem uK {c:Cod} {g:Grd} {R:Bool} {S:List (List Int)} {j:Int} (hL:c.small) (hs:c.shade g=(X,Y,b)) (eR:(c.runB&&g.okB)=R) (eS:c.res g=S) (ei:kF c.ls=i) (ej:gT c.ls=j):aMy g.m R S i j X Y b:=by
 have bi:=aK8 (⟨#[99,111,108,111,114]⟩:ByteArray).toList c.ls;have bj:=aK8 (⟨#[97,108,112,104,97]⟩:ByteArray).toList c.ls;have hl:=hL.2;rw [show ixL (⟨#[99,111,108,111,114]⟩:ByteArray).toList c.ls=i from ei] at bi;rw [show ixL (⟨#[97,108,112,104,97]⟩:ByteArray).toList c.ls=j from ej] at bj;unfold Cod.shade at hs;rw [eR,eS,ei,ej] at hs;refine ⟨?_⟩
 cases R with
 | false=>exact .inl ⟨rfl,pB hs (fun h=>by cases h.1)⟩
 | true=>
  right
  have hz:=Cod.res_small eR;rw [eS] at hz
  by_cases h1:i<0
  ·exact .inl ⟨rfl,by omega,pB hs (fun h=>by have:=h.2.1;omega)⟩
  ·right
   obtain ⟨k,rfl⟩:∃k:Nat,i=k:=⟨i.toNat,by omega⟩
   simp only [aRr] at hs
   have hk:k<S.length:=by omega
   have gk:S.getD k []=S[k]:=by simp [aTz,hk]
   have sk:S[k]?=some S[k]:=by simp [hk]
   rw [gk] at hs
   by_cases h2:S[k]=[]
   ·exact .inl ⟨rfl,k,rfl,by omega,h2▸sk,pB hs (fun h=>h.2.2.1 h2)⟩
   ·refine .inr ⟨rfl,k,S[k],rfl,by omega,sk,h2,hz.2 _ (aRh hk),?_⟩
    by_cases h3:j<0
    ·rw [if_pos ⟨by trivial,by omega,h2,.inl h3⟩,if_pos h3] at hs
     simp only [Prod.mk.injEq] at hs;exact .inr (.inl ⟨by omega,hs.1.symm,hs.2.1.symm,hs.2.2.symm⟩)
    ·obtain ⟨l,rfl⟩:∃l:Nat,j=l:=⟨j.toNat,by omega⟩
     simp only [aRr] at hs
     have h0:l<S.length:=by omega
     have gl:S.getD l []=S[l]:=by simp [aTz,h0]
     have sl:S[l]?=some S[l]:=by simp [h0]
     rw [gl] at hs
     by_cases h4:S[l]=[]
     ·exact .inl ⟨l,rfl,by omega,h4▸sl,pB hs (fun h=>by rcases h.2.2.2 with h|h;exact h3 h;exact h h4)⟩
     ·rw [if_pos ⟨by trivial,by omega,h2,.inr h4⟩,if_neg h3] at hs
      simp only [Prod.mk.injEq] at hs;exact .inr (.inr ⟨l,S[l],rfl,by omega,sl,h4,hz.2 _ (aRh h0),hs.1.symm,hs.2.1.symm,hs.2.2.symm⟩)
theorem xC.open1 {S:List (List Int)} (h:xC lo w v S) (hn:1<=S.length):∃b cap,v = .slice (some ⟨b,0,none⟩) S.length cap/\b<w.heap.size/\S.length<=cap/\cap<=9223372036854775807/\∀k r,S[k]?=some r->∃ru,w.cell? ⟨b,k,none⟩=some ru/\aB lo w ru r/\(r=[]->ru = .slice none 0 0):=by
 obtain ⟨us,h1,h2,h3,h4⟩:=h;have hl:=h2.len;obtain ⟨b,cap,rfl,h5,h0⟩:=ownsRow.form1 h1 (by omega);obtain ⟨k1,k2⟩:=ownsRow.caps h1;refine ⟨b,cap,by rw [hl],h0,by omega,k2,fun k r hr=>?_⟩
 have hk:k<us.length:=by have:=(aQz.1 hr).1;omega
 have hu:us[k]?=some us[k]:=by simp [hk]
 refine ⟨us[k],?_,h2.own k us[k] r hu hr,fun e=>h4 k us[k] hu (e▸hr)⟩;have:=aS5 h1 k (by omega);rw [hu] at this;exact this
theorem aB.someAt (h:aB lo w v xs) (hx:xs≠[]):∃g c,v = .slice (some ⟨g,0,none⟩) xs.length c/\g<w.heap.size:=by
 rcases h.1.2 with ⟨rfl,h4⟩|⟨g,cap,cur,rfl,hb,hg,hc,hm,hs,ht⟩
 ·exact absurd (aUn.1 h4) hx
 ·exact ⟨g,cap,rfl,(aRi.1 hg).1⟩
theorem fW.nil (lo hi:Nat) (w:World):fW lo hi w (.slice none 0 0) []:=⟨⟨aUp _ _ _ _,fun x h=>by cases h⟩,fun k h=>by cases h⟩
theorem aD6 {g:Grd} (hg:g.n=n) (c:Int) (g1:Value) (g2 g3:Int) (g4:Value) (w:World) (hm:(n:Int)*n=g.m) (hn:g.m<=1000000) (hc:I64 c) :
  Calls aQ2 171 #[c,.agg #[g.n,g1,g2,g3,g4]] w fun e w'=>∃v,e = .returned v/\aB w.heap.size w' v (aRj g.m c)/\Ext w w':=by
 rw [hg];exact pU c n g.m g1 g2 g3 g4 w hm hn hc
theorem mV (h:Ext w w'):∃r1 r2,Ending.returned (.tuple #[.slice none 0 0,.slice none 0 0,.bool false]) = .returned (.tuple #[r1,r2,.bool false])/\∃h,w.heap.size<=h/\h<=w'.heap.size/\fW w.heap.size h w' r1 []/\fW h w'.heap.size w' r2 []/\Ext w w':=
 ⟨_,_,rfl,w'.heap.size,h.size,aQv _,fW.nil _ _ _,fW.nil _ _ _,h⟩
theorem xJ (lo hi lo' hi':Nat) (v u:Value) (c:Cod) (g:Grd) (w:World) (hs:c.shade g=(X,Y,b)) (hv:c.R lo hi w v) (hh:hi<=w.heap.size) (hu:g.R lo' hi' w u) (hh':hi'<=w.heap.size) (hL:c.small) :
  Calls aQ2 107 #[v,u] w fun e w'=>∃r1 r2,e = .returned (.tuple #[r1,r2,.bool b])/\∃h,w.heap.size<=h/\h<=w'.heap.size/\fW w.heap.size h w' r1 X/\fW h w'.heap.size w' r2 Y/\Ext w w':=by
 obtain ⟨R,eR⟩:=e_ (c.runB&&g.okB)
 obtain ⟨S,eS⟩:=e_ (c.res g)
 obtain ⟨i,ei⟩:=e_ (kF c.ls)
 obtain ⟨j,ej⟩:=e_ (gT c.ls)
 have hn:R=true->∃n:Nat,g.n=n/\(n:Int)*n=g.m/\g.m<=64:=by
  intro h;rw [h] at eR;simp only [aRd] at eR;obtain ⟨n,hn,hm,x8,h9,-⟩:=g.parts eR.2;have h6:n*n<=8*8:=aRy h9 h9;exact ⟨n,hn,by rw [<-hm];simp,by omega⟩
 have CS:=hid (uK hL hs eR eS ei ej);have HC:=hid hv;have HG:=hid hu;have ER:=hid eR;have ES:=hid eS;have EI:=hid ei;have EJ:=hid ej;have HL:=hid hL;have HN:=hid hn;have hl:c.ls.length<=1048576:=hL.2;obtain ⟨iu,lu,rfl,-,h8⟩:=hv;have h5:=hid h8;obtain ⟨pu,tu,rfl,_⟩:=hu;clear hs eR eS ei ej hn h8 hL;have en:∀(w:World) (a:Option Addr) (n c:Nat),(binOp .eql 24 (.slice a n c) (.slice none 0 0)).run aQ2 w = .ok (.bool a.isNone) w:=fun w a n c=>Lib.run_eql_slice_nil w _ _ a n c 0 0 underlying24;go_enter func107,ntmps107;go_wp2_with fail;refine (aCa lo hi lo' hi' _ _ c g _ ER ES (HC.ext hh X_) (by simp;omega) (HG.ext hh' X_) (by simp;omega) HL).mono ?_;rintro e w1 ⟨r,rfl,O1,x1⟩;have BP:=hid (((Bx.made w #[iu,lu] _).ext ((aQ6 _).alloc _)).ext x1);have BQ:=hid ((Bx.madeAt (B:=w.heap.size+1) (w.alloc _) #[g.n,pu,g.tm,g.t.log,tu] _ (by simp)).ext x1);have E:Ext w w1:=aQ3 X_ x1;have z1:=E.size;have q7:=O1;obtain ⟨x9,h0,h7,-⟩:=q7;obtain ⟨ra,rc,q6⟩:=ownsRow.form h0;rw [h7.len] at q6;subst q6;have OR:=hid O1;clear x1 O1 h0 h7;have p:=BP.lt;obtain ⟨p0,p1⟩:=BP.q2;have q:=BQ.lt;obtain ⟨q0,q1,q2,q3,q4⟩:=BQ.q5;go_wp2_with fail;refine aA [([0,1,3,4],2),([],5),([6],7)] 7 w1.heap.size (by kernel_rfl) (by kernel_rfl) ?_;refine st_ fun K hK=>?_;go_wp2_with fail;refine z_ (xH EI lo hi _ _ (h5.ext hh E.drew) (by omega)) ?_;go_wp2_with fail;refine k_ hK ?_;clear hK K;refine st_ fun K hK=>?_;go_wp2_with fail;refine z_ (xH EJ lo hi _ _ (h5.ext hh E.drew) (by omega)) ?_;go_wp2_with fail;refine k_ hK ?_;clear hK K;refine st_ fun K hK=>?_;go_wp2_with fail;go_wp2_with fail;refine l_ hK ?_;clear hK K;refine aC ?_
 rcases CS.all with ⟨rfl,rfl,rfl,rfl⟩|⟨rfl,rfl,rfl,rfl,rfl⟩|⟨rfl,k,rfl,hk,sk,rfl,rfl,rfl⟩|⟨rfl,k,a,rfl,hk,sk,ha,la,hrest⟩
 ·go_wp2
  refine bodyPost_ret (v:=.tuple #[.slice none 0 0,.slice none 0 0,.bool false]) (by simp [results,results107,go_sem]) rfl (mV E.drew)
 ·go_wp2
  refine bodyPost_ret (v:=.tuple #[.slice none 0 0,.slice none 0 0,.bool false]) (by simp [results,results107,go_sem]) rfl (mV E.drew)
 ·have SK:=hid sk
  have x3:k<S.length:=(aQz.1 sk).1;obtain ⟨rb,x5,h2,q8,q9,x0,h1⟩:=OR.open1 (by omega);simp only [aRo] at h2;obtain ⟨rfl,-,rfl⟩:=h2;obtain ⟨ru,c0,-,e0⟩:=h1 k _ sk;obtain rfl:=e0 rfl;clear sk h1 e0;go_wp2;refine bodyPost_ret (v:=.tuple #[.slice none 0 0,.slice none 0 0,.bool false]) (by simp [results,results107,go_sem]) rfl (mV E.drew)
 have SK:=hid sk;have x3:k<S.length:=(aQz.1 sk).1;obtain ⟨rb,x5,h2,q8,q9,x0,h1⟩:=OR.open1 (by omega);simp only [aRo] at h2;obtain ⟨rfl,-,rfl⟩:=h2;obtain ⟨ru,c0,o0,-⟩:=h1 k _ sk;obtain ⟨ga,ca,rfl,x6⟩:=o0.someAt ha;have O0:=hid (o0.low (lo':=w.heap.size) (by simp <;> omega));clear o0;obtain ⟨n,gn,h4,hm⟩:=HN rfl
 rcases hrest with ⟨l,rfl,hl2,sl,rfl,rfl,rfl⟩|⟨rfl,rfl,rfl,rfl⟩|⟨l,q,rfl,hl2,sl,hq,lq,rfl,rfl,rfl⟩
 ·have SL:=hid sl
  have x4:l<S.length:=(aQz.1 sl).1;obtain ⟨rw,c1,-,e1⟩:=h1 l _ sl;obtain rfl:=e1 rfl;clear sk sl h1 e1 h4 gn;go_wp2;refine bodyPost_ret (v:=.tuple #[.slice none 0 0,.slice none 0 0,.bool false]) (by simp [results,results107,go_sem]) rfl (mV E.drew)
 ·clear sk h1
  have GN:=hid gn;have NN:=hid h4;clear gn h4;go_wp2_with fail;refine aA [([0,1,2,3,5],4),([],6),([7,8],9)] 9 w1.heap.size (by kernel_rfl) (by kernel_rfl) ?_;refine st_ fun K hK=>?_;go_wp2_with fail;refine (mJ w.heap.size w1.heap.size _ a _ (O0.ints.ext (aQv _) X_) (by simp) (by omega)).mono ?_;rintro e w3 ⟨r1,rfl,o1,x1⟩;have y3:Ext w1 w3:=aQ3 X_ x1;have z3:=y3.size;go_wp2_with fail;refine hK _ _ (.inr (y3.same (aQv _))) ?_;clear hK K;refine st_ fun K hK=>?_;go_wp2_with fail;refine (aD6 GN 256 _ _ _ _ _ NN (by omega) ⟨by omega,by omega⟩).mono ?_;rintro e w4 ⟨r2,rfl,o2,x2⟩;have y4:Ext w1 w4:=y3.trans (aQ3 X_ x2);have h3:Ext w3 w4:=aQ3 X_ x2;have z4:=h3.size;go_wp2_with fail;refine hK _ _ (.inr (y4.same (aQv _))) ?_;clear hK K;refine st_ fun K hK=>?_;go_wp2_with fail;go_wp2_with fail;refine l_ hK ?_;clear hK K;refine aC ?_;go_wp2;refine bodyPost_ret (v:=.tuple #[r1,r2,.bool true]) (by simp [results,results107,go_sem]) rfl ⟨r1,r2,rfl,w3.heap.size,by omega,z4,?_,?_,E.trans y4⟩
  ·exact (o1.low (by simp;omega)).o.kp (h3.kp (aQv _))
  ·exact (o2.low (by simp)).o
 ·have SL:=hid sl
  have x4:l<S.length:=(aQz.1 sl).1;obtain ⟨rw,c1,o9,-⟩:=h1 l _ sl;obtain ⟨gb,cb,rfl,x7⟩:=o9.someAt hq;have O9:=hid (o9.low (lo':=w.heap.size) (by simp <;> omega));clear sk sl h1 o9 h4 gn;go_wp2_with fail;refine aA [([0,1,2,3,5,6,7,8],4),([],9),([10,11],12)] 12 w1.heap.size (by kernel_rfl) (by kernel_rfl) ?_;refine st_ fun K hK=>?_;go_wp2_with fail;refine (mJ w.heap.size w1.heap.size _ a _ (O0.ints.ext (aQv _) X_) (by simp) (by omega)).mono ?_;rintro e w3 ⟨r1,rfl,o1,x1⟩;have y3:Ext w1 w3:=aQ3 X_ x1;have z3:=y3.size;go_wp2_with fail;refine hK _ _ (.inr (y3.same (aQv _))) ?_;clear hK K;refine st_ fun K hK=>?_;go_wp2_with fail;refine (mJ w.heap.size w1.heap.size _ q _ (O9.ints.ext (aQv _) (y3.trans X_)) (by first|omega|(simp;omega)) (by omega)).mono ?_;rintro e w4 ⟨r2,rfl,o2,x2⟩;have y4:Ext w1 w4:=y3.trans (aQ3 X_ x2);have h3:Ext w3 w4:=aQ3 X_ x2;have z4:=h3.size;go_wp2_with fail;refine hK _ _ (.inr (y4.same (aQv _))) ?_;clear hK K;refine st_ fun K hK=>?_;go_wp2_with fail;go_wp2_with fail;refine l_ hK ?_;clear hK K;refine aC ?_;go_wp2;refine bodyPost_ret (v:=.tuple #[r1,r2,.bool true]) (by simp [results,results107,go_sem]) rfl ⟨r1,r2,rfl,w3.heap.size,by omega,z4,?_,?_,E.trans y4⟩
  ·exact (o1.low (by simp;omega)).o.kp (h3.kp (aQv _))
  ·exact (o2.low (by simp)).o
theorem aU.nil0 (lo hi:Nat) (w:World):aU lo hi w (.slice none 0 0) []:=⟨none,0,rfl,aQv _,by unfold maxLen;omega,fun i x h=>by simp at h⟩
theorem kG (h:Ext w w'):∃r1 r2,Ending.returned (.tuple #[.slice none 0 0,.slice none 0 0,.bool false]) = .returned (.tuple #[r1,r2,.bool false])/\aU w.heap.size w'.heap.size w' r1 []/\aU w.heap.size w'.heap.size w' r2 []/\Ext w w':=
 ⟨_,_,rfl,aU.nil0 _ _ _,aU.nil0 _ _ _,h⟩
theorem xK (lo hi lo' hi':Nat) (v u:Value) (c:Cod) (g:Grd) (w:World) (hs:c.shade g=(X,Y,b)) (hv:c.R lo hi w v) (hh:hi<=w.heap.size) (hu:g.R lo' hi' w u) (hh':hi'<=w.heap.size) (hL:c.small) :
  Calls aQ2 142 #[v,u] w fun e w'=>∃r1 r2,e = .returned (.tuple #[r1,r2,.bool b])/\aU w.heap.size w'.heap.size w' r1 X/\aU w.heap.size w'.heap.size w' r2 Y/\Ext w w':=by
 obtain ⟨R,eR⟩:=e_ (c.runB&&g.okB)
 obtain ⟨S,eS⟩:=e_ (c.res g)
 obtain ⟨i,ei⟩:=e_ (kF c.ls)
 obtain ⟨j,ej⟩:=e_ (gT c.ls)
 have hn:R=true->g.m<=64:=by
  intro h;rw [h] at eR;simp only [aRd] at eR;obtain ⟨n,hn,hm,z0,h9,-⟩:=g.parts eR.2;have h6:n*n<=8*8:=aRy h9 h9;omega
 have CS:=hid (uK hL hs eR eS ei ej);have HC:=hid hv;have HG:=hid hu;have ER:=hid eR;have ES:=hid eS;have EI:=hid ei;have EJ:=hid ej;have HL:=hid hL;have HN:=hid hn;have hl:c.ls.length<=1048576:=hL.2;obtain ⟨iu,lu,rfl,-,h8⟩:=hv;have h5:=hid h8;obtain ⟨pu,tu,rfl,-,-,-,hp,-⟩:=hu;obtain ⟨pa,pc,rfl,HP⟩:=hp.open;have p1:=HP.le;have p2:=HP.cap;clear hs eR eS ei ej hn h8 hL hp HP;go_enter func142,ntmps142;go_wp2_with fail;refine (aCb lo hi lo' hi' _ _ c g _ ER ES (HC.ext hh X_) (by simp;omega) (HG.ext hh' X_) (by simp;omega) HL).mono ?_;rintro e w1 ⟨r,rfl,O1,x1⟩;have BP:=hid (((Bx.made w #[iu,lu] _).ext ((aQ6 _).alloc _)).ext x1);have BQ:=hid ((Bx.madeAt (B:=w.heap.size+1) (w.alloc _) #[g.n,.slice pa g.m pc,g.tm,g.t.log,tu] _ (by simp)).ext x1);have E:Ext w w1:=aQ3 X_ x1;have z1:=E.size;obtain ⟨ra,rc,rfl,h3⟩:=O1.open;have r1:=h3.le;have r2:=h3.cap;have HA:=hid h3;clear x1 O1 h3;have p:=BP.lt;obtain ⟨p0,p1⟩:=BP.q2;have q:=BQ.lt;obtain ⟨q0,q1,q2,q3,q4⟩:=BQ.q5;go_wp2_with fail;refine z_ (xI EI lo hi _ _ (h5.ext hh E) (by omega)) ?_;go_wp2_with fail;refine z_ (xI EJ lo hi _ _ (h5.ext hh E) (by omega)) ?_
 rcases CS.all with ⟨rfl,rfl,rfl,rfl⟩|⟨rfl,rfl,rfl,rfl,rfl⟩|⟨rfl,k,rfl,hk,sk,rfl,rfl,rfl⟩|⟨rfl,k,a,rfl,hk,sk,ha,la,hrest⟩
 ·go_wp2
  refine bodyPost_ret (v:=.tuple #[.slice none 0 0,.slice none 0 0,.bool false]) (by simp [results,results142,go_sem]) rfl (kG E)
 ·go_wp2
  refine bodyPost_ret (v:=.tuple #[.slice none 0 0,.slice none 0 0,.bool false]) (by simp [results,results142,go_sem]) rfl (kG E)
 ·have q9:k<S.length:=(aQz.1 sk).1
  obtain ⟨rb,ro,ru,rfl,q6,q7,c0,i0⟩:=HA.cell k _ sk;obtain ⟨ua,uc,rfl,-⟩:=i0.open;clear sk i0;go_wp2;refine bodyPost_ret (v:=.tuple #[.slice none 0 0,.slice none 0 0,.bool false]) (by simp [results,results142,go_sem]) rfl (kG E)
 have q9:k<S.length:=(aQz.1 sk).1;obtain ⟨rb,ro,ru,rfl,q6,q7,c0,i0⟩:=HA.cell k _ sk;obtain ⟨ua,uc,rfl,x4⟩:=i0.open;have I0:=hid i0;have z2:((a.length:Int)==0)=false:=beq_eq_false_iff_ne.2 (fun e=>ha (aUn.1 (by omega)));have hm:=HN.out rfl;clear sk i0 ha x4
 rcases hrest with ⟨l,rfl,hl2,sl,rfl,rfl,rfl⟩|⟨rfl,rfl,rfl,rfl⟩|⟨l,q,rfl,hl2,sl,hq,lq,rfl,rfl,rfl⟩
 ·have x0:l<S.length:=(aQz.1 sl).1
  obtain ⟨x5,x6,x7,h2,-,-,c1,i1⟩:=HA.cell l _ sl;simp only [aQ0,Addr.mk.injEq,and_true] at h2;obtain ⟨rfl,rfl⟩:=h2;obtain ⟨ub,x8,rfl,-⟩:=i1.open;clear sl i1;go_wp2;refine bodyPost_ret (v:=.tuple #[.slice none 0 0,.slice none 0 0,.bool false]) (by simp [results,results142,go_sem]) rfl (kG E)
 ·go_wp2
  go_loopw [11,54] (fun v i wr=>∃n:Nat,n<=g.m/\i = .int .i64 n/\aB w1.heap.size wr v (aRj n 256)/\Ext w1 wr) (fun _ i _=>g.m - (intOf i).toNat)
  case atStart=>exact ⟨0,by omega,rfl,aB.lit0 w1,X_⟩
  obtain ⟨n,hn,rfl,h0,hx⟩:=hrel;obtain ⟨av,cv,rfl,q8⟩:=h0.form
  have h1:(aRj n (256:Int)).length=n:=by simp
  rw [h1] at h0 ⊢
  by_cases x3:n<g.m
  ·have HO:=hid h0
   have HX:=hid hx;have h4:=hid h1;have zs:=hx.size;clear h0 hx h1;go_wp2_with (at_builtin;refine aV _ rfl _ _ rfl w1.heap.size _ _ rfl (HO.alloc _) 256 ⟨by omega,by omega⟩ wr.heap.size rfl (by simp [go_sem]) (by rw [h4];omega) (by simp;omega) ?_;intro v' w7 h0 hg);rw [<-aZu] at h0;go_wp2;go_roundw
   case rel=>exact ⟨n+1,by omega,by go_num,h0,aR7 (HX.alloc _) hg (fun g e=>(HO.lt g e).1)⟩
   case measure=>simp [intOf];omega
  obtain rfl:n=g.m:=by omega
  have HO:=hid h0;have zs:=hx.size;rw [<-hx.cells.1 rb _ (by omega)] at c0;have HX:=hid hx;clear h0 hx;go_wp2_with fail;refine (mK 0 w1.heap.size _ a _ ((I0.ext (aQv _) HX).wide (aSi _) (aQv _)) zs (by omega)).mono ?_;rintro e w3 ⟨r1,rfl,o1,x1⟩;go_wp2;refine bodyPost_ret (v:=.tuple #[r1,.slice av g.m cv,.bool true]) (by simp [results,results142,go_sem]) rfl ⟨r1,_,rfl,o1.ints.wide (by omega) (aQv _),?_,E.trans (HX.trans x1)⟩;exact (HO.ints.ext (aQv _) x1).wide (by omega) x1.size
 ·have x0:l<S.length:=(aQz.1 sl).1
  obtain ⟨x5,x6,x7,h2,-,-,c1,i1⟩:=HA.cell l _ sl;simp only [aQ0,Addr.mk.injEq,and_true] at h2;obtain ⟨rfl,rfl⟩:=h2;obtain ⟨ub,x8,rfl,-⟩:=i1.open;have I1:=hid i1;have z4:((q.length:Int)==0)=false:=beq_eq_false_iff_ne.2 (fun e=>hq (aUn.1 (by omega)));clear sl i1 hq;go_wp2
  go_loopw [11,54] (fun v i wr=>∃n:Nat,n<=g.m/\i = .int .i64 n/\aB w1.heap.size wr v (aRj n 256)/\Ext w1 wr) (fun _ i _=>g.m - (intOf i).toNat)
  case atStart=>exact ⟨0,by omega,rfl,aB.lit0 w1,X_⟩
  obtain ⟨n,hn,rfl,h0,hx⟩:=hrel;obtain ⟨av,cv,rfl,q8⟩:=h0.form
  have h1:(aRj n (256:Int)).length=n:=by simp
  rw [h1] at h0 ⊢
  by_cases x3:n<g.m
  ·have HO:=hid h0
   have HX:=hid hx;have h4:=hid h1;have zs:=hx.size;clear h0 hx h1;go_wp2_with (at_builtin;refine aV _ rfl _ _ rfl w1.heap.size _ _ rfl (HO.alloc _) 256 ⟨by omega,by omega⟩ wr.heap.size rfl (by simp [go_sem]) (by rw [h4];omega) (by simp;omega) ?_;intro v' w7 h0 hg);rw [<-aZu] at h0;go_wp2;go_roundw
   case rel=>exact ⟨n+1,by omega,by go_num,h0,aR7 (HX.alloc _) hg (fun g e=>(HO.lt g e).1)⟩
   case measure=>simp [intOf];omega
  obtain rfl:n=g.m:=by omega
  have HO:=hid h0;have zs:=hx.size;rw [<-hx.cells.1 rb _ (by omega)] at c0;rw [<-hx.cells.1 rb _ (by omega)] at c1;have HX:=hid hx;clear h0 hx;go_wp2_with fail;refine (mK 0 w1.heap.size _ q _ ((I1.ext (aQv _) HX).wide (aSi _) (aQv _)) zs (by omega)).mono ?_;rintro e w3 ⟨r2,rfl,o2,x2⟩;have X3:Ext w1 w3:=HX.trans x2;rw [<-x2.cells.1 rb _ (by omega)] at c0;have z3:=x2.size;have h7:=hid X3;have x9:=hid x2;clear c1 x2 X3;go_wp2_with fail;refine (mK 0 w1.heap.size _ a _ ((I0.ext (aQv _) h7).wide (aSi _) (aQv _)) (by omega) (by omega)).mono ?_;rintro e w4 ⟨r1,rfl,o1,x1⟩;go_wp2;refine bodyPost_ret (v:=.tuple #[r1,r2,.bool true]) (by simp [results,results142,go_sem]) rfl ⟨r1,r2,rfl,o1.ints.wide (by omega) (aQv _),?_,E.trans (h7.trans x1)⟩;exact (o2.ints.ext (aQv _) x1).wide (by omega) x1.size
theorem xL:∀n:Nat,((List.range n).map fun _=>0).sum=0
 | 0=>rfl
 | n+1=>by rw [aS9,aS8,aU5,xL n];rfl
theorem aGm (w:Nat->Nat):∀(n e:Nat),e<n->((aRl n).map fun j=>if e=j then w j else 0).sum=w e:=by
 intro n
 induction n with
 | zero=>intro e h;omega
 | succ n ih=>
  intro e h;rw [aS9,aS8,aU5]
  by_cases he:e=n
  ·subst he
   have:((aRl e).map fun j=>if e=j then w j else 0).sum=0:=by
    rw [aT7 (g:=fun _=>0) fun j hj=>if_neg (by have:=aR4.1 hj;omega)];exact xL e
   rw [this];simp
  ·rw [ih e (by omega)]
   simp [he]
theorem aHv {α : Type} (f g : α->Nat):∀L:List α,(L.map fun x=>f x+g x).sum=(L.map f).sum+(L.map g).sum
 | []=>rfl
 | x::r=>by simp only [aS4,aVb,aHv f g r];omega
theorem aP6 (w:Nat->Nat) (n:Nat):∀E:List Nat,(∀e∈E,e<n)->(E.map w).sum=((aRl n).map fun j=>(E.countP fun e=>e==j)*w j).sum:=by
 intro E
 induction E with
 | nil=>
  intro _
  have e:((aRl n).map fun j=>(([]:List Nat).countP fun e=>e==j)*w j)=(aRl n).map fun _=>0:=aT7 fun j _=>by simp
  rw [e,xL]
  rfl
 | cons e r ih=>
  intro h;rw [aS4,aVb,ih fun x hx=>h x (by simp [hx]),<-aGm w n e (h e (by simp)),<-aHv]
  congr 1
  refine aT7 fun j _=>?_;rw [aYt]
  by_cases hj:e=j
  ·subst hj;simp [aTf];omega
  ·simp [hj]
def Prg.refs (p:Prg):List Nat:=(p.ns.flatMap fun x=>x.args.map Int.toNat)++p.gs.map fun a=>a.root.toNat
theorem aHw (j:Nat):∀xs:List Nd,((xs.flatMap fun x=>x.args.map Int.toNat).countP fun e=>e==j)=zH j xs
 | []=>rfl
 | x::r=>by
  rw [aS0,aZ6,aHw j r];simp only [zH,aS4,aVb]
  congr 1
  unfold wQ;rw [List.countP_map]
  rfl
theorem aHx (j:Nat):∀xs:List Asg,((xs.map fun a=>a.root.toNat).countP fun e=>e==j)=zI j xs
 | []=>rfl
 | x::r=>by
  rw [aS4,aYt,aHx j r];simp only [zI,aS4,aVb]
  by_cases h:x.root.toNat=j <;> simp [h] <;> omega
theorem Prg.V.refs_lt {p:Prg} (h:p.V):∀e∈p.refs,e<p.ns.length:=by
 intro e he;unfold Prg.refs at he
 rcases aTe.1 he with he|he
 ·obtain ⟨x,hx,he⟩:=aVg.1 he
  obtain ⟨a,ha,rfl⟩:=aS3.1 he;obtain ⟨k,hk,rfl⟩:=aRw hx;have:=(h.nd k _ (by simp [hk])).2 a ha;omega
 ·obtain ⟨a,ha,rfl⟩:=aS3.1 he
  obtain ⟨k,hk,rfl⟩:=aRw ha;have:=(h.ag k p.gs[k] (by simp [hk])).2;omega
theorem Prg.V.sum_refs {p:Prg} (h:p.V) (w:Nat->Nat):(p.refs.map w).sum=((aRl p.ns.length).map w).sum:=by
 rw [aP6 w p.ns.length p.refs h.refs_lt]
 congr 1
 refine aT7 fun j hj=>?_;have h1:=h.one j (aR4.1 hj)
 have:(p.refs.countP fun e=>e==j)=1:=by
  unfold Prg.refs;rw [aZ6,aHw,aHx];exact h1
 rw [this,aTh]
theorem Prg.V.gs_len {p:Prg} (h:p.V):p.gs.length<=60:=by
 have h1:=h.sum_refs (fun _=>1);have h2:=h.len;unfold Prg.refs at h1;simp only [aS8,aU5,aX2] at h1
 have e1:(p.gs.map ((fun _=>1) ∘ fun a:Asg=>a.root.toNat)).sum=p.gs.length:=by
  have:∀xs:List Asg,(xs.map ((fun _=>1) ∘ fun a:Asg=>a.root.toNat)).sum=xs.length:=fun xs=>by
   induction xs with
   | nil=>rfl
   | cons x r ih=>rw [aS4,aVb,ih];simp;omega
  exact this _
 have e2:((aRl p.ns.length).map fun _=>1).sum=p.ns.length:=by
  have:∀n:Nat,((aRl n).map fun _=>1).sum=n:=fun n=>by
   induction n with
   | zero=>rfl
   | succ n ih=>rw [aS9,aS8,aU5,ih];rfl
  exact this _
 rw [e1,e2] at h1;omega
theorem Prg.V.sum_roots {p:Prg} (h:p.V) (w:Nat->Nat) (hw:∀(j:Nat) (x:Nd),p.ns[j]?=Option.some x->w j=1+(x.args.map fun a=>w a.toNat).sum):(p.gs.map fun a=>w a.root.toNat).sum=p.ns.length:=by
 have h1:=h.sum_refs w
 have e1:((aRl p.ns.length).map w).sum=p.ns.length+(p.ns.map fun x=>(x.args.map fun a=>w a.toNat).sum).sum:=by
  have:∀(xs:List Nd) (o:Nat),(∀(j:Nat) (x:Nd),xs[j]?=Option.some x->w (o+j)=1+(x.args.map fun a=>w a.toNat).sum)->((aRl xs.length).map fun j=>w (o+j)).sum=xs.length+(xs.map fun x=>(x.args.map fun a=>w a.toNat).sum).sum:=by
   intro xs
   induction xs with
   | nil=>intro o _;rfl
   | cons x r ih=>
    intro o ho;rw [aSc,List.range_succ_eq_map,aS4,aVb,aX2,aS4,aVb]
    have:=ih (o+1) fun j y hy=>by
     have:=ho (j+1) y (by simpa using hy);rw [<-this]
     congr 1
     omega
    have e:(aRl r.length).map ((fun j=>w (o+j)) ∘ Nat.succ)=(aRl r.length).map fun j=>w (o+1+j):=aT7 fun j _=>by
     show w (o+(j+1))=w (o+1+j)
     congr 1
     omega
    rw [e,this];have h0:=ho 0 x (by simp);rw [h0];omega
  have:=this p.ns 0 fun j x hx=>by rw [aRt];exact hw j x hx
  simpa using this
 have e2:∀xs:List Nd,((xs.flatMap fun x=>x.args.map Int.toNat).map w).sum=(xs.map fun x=>(x.args.map fun a=>w a.toNat).sum).sum:=fun xs=>by
  induction xs with
  | nil=>rfl
  | cons x r ih=>
   rw [aS0,aS8,aU5,ih,aS4,aVb,aX2]
   rfl
 unfold Prg.refs at h1;rw [aS8,aU5,e2,e1,aX2] at h1;have e3:(p.gs.map (w ∘ fun a:Asg=>a.root.toNat)).sum=(p.gs.map fun a=>w a.root.toNat).sum:=rfl;omega
def pM (p:Prg) (s:ByteArray):Nat:=(eM p.gs p.gs.length s.toList).getD 0
def bJ (p:Prg) (x:Nd):Ins:=
 if x.op=1 then ⟨1,⟨#[]⟩,x.num⟩ else if x.op=3 then ⟨5,⟨#[]⟩,3⟩ else if x.op=2 then (if cT x.name then ⟨2,x.name,0⟩ else ⟨3,⟨#[]⟩,(pM p x.name:Nat)⟩) else if x.op=8 then ⟨7,x.name,0⟩ else ⟨6,⟨#[]⟩,x.op⟩
def trF (p:Prg):Nat->Nat->List Ins
 | 0,_=>[]
 | F+1,j=>match p.ns[j]? with|some x=>(x.args.flatMap fun a=>trF p F a.toNat)++[bJ p x]|none=>[]
def Prg.tr (p:Prg) (j:Nat):List Ins:=trF p (j+1) j
def Prg.trs (p:Prg):Nat->List Ins
 | 0=>[]
 | k+1=>p.trs k++(match p.gs[k]? with|some a=>p.tr a.root.toNat++[⟨4,⟨#[]⟩,(k:Nat)⟩]|none=>[])
def Prg.code (p:Prg):Cod:=⟨p.trs p.gs.length,p.gs.map (·.name)⟩
theorem oD {α β : Type} {L:List α} {f g : α->List β} (h:∀a∈L,f a=g a):L.flatMap f=L.flatMap g:=by
 induction L with
 | nil=>rfl
 | cons a r ih=>rw [aS0,aS0,h a (by simp),ih fun b hb=>h b (by simp [hb])]
theorem aOl {p:Prg} (h:p.V):∀(F F' j:Nat),j<F->j<F'->trF p F j=trF p F' j:=by
 intro F
 induction F with
 | zero=>intro F' j hj;omega
 | succ F ih=>
  intro F' j hj h0
  obtain ⟨G,rfl⟩:∃G,F'=G+1:=⟨F' - 1,by omega⟩
  unfold trF
  cases hx:p.ns[j]? with
  | none=>rfl
  | some x=>
   simp only;rw [oD fun a ha=>ih G a.toNat (by have:=(h.nd j x hx).2 a ha;omega) (by have:=(h.nd j x hx).2 a ha;omega)]
theorem Prg.V.tr_step {p:Prg} (h:p.V) {x:Nd} (hx:p.ns[j]?=Option.some x):p.tr j=(x.args.flatMap fun a=>p.tr a.toNat)++[bJ p x]:=by
 have e:p.tr j=(x.args.flatMap fun a=>trF p j a.toNat)++[bJ p x]:=by
  show trF p (j+1) j=_
  rw [trF,hx]
 rw [e,oD fun a ha=>aOl h _ _ _ (by have:=(h.nd j x hx).2 a ha;omega) (aYx _)]
 rfl
theorem Prg.trs_step {p:Prg} {a:Asg} (h:p.gs[k]?=some a):p.trs (k+1)=p.trs k++(p.tr a.root.toNat++[⟨4,⟨#[]⟩,(k:Nat)⟩]):=by
 rw [Prg.trs,h]
theorem xM {p:Prg} (h:p.K) {x:Nd} (hx:p.ns[j]?=some x):cI (bJ p x).op (bJ p x).name=x.args.length/\(bJ p x).op≠4/\fZ (bJ p x).op=1:=by
 rcases jI (h.v.nd j x hx).1 with ⟨o,h2,h3⟩|⟨o,h3⟩|⟨o,h3⟩|⟨o,o',h3⟩|⟨o,h3⟩
 ·unfold bJ;rw [if_pos o,h3];exact ⟨rfl,by show (_:Int)≠4;simp,rfl⟩
 ·unfold bJ
  rw [if_neg (by omega),if_neg (by omega),if_pos o,h3]
  split
  ·exact ⟨rfl,by show (_:Int)≠4;simp,rfl⟩
  ·exact ⟨rfl,by show (_:Int)≠4;simp,rfl⟩
 ·unfold bJ;rw [if_neg (by omega),if_pos o,h3];exact ⟨rfl,by show (_:Int)≠4;simp,rfl⟩
 ·unfold bJ;rw [if_neg (by omega),if_neg (by omega),if_neg (by omega),if_neg (by omega),h3];exact ⟨rfl,by show (_:Int)≠4;simp,rfl⟩
 ·unfold bJ
  rw [if_neg (by omega),if_neg (by omega),if_neg (by omega),if_pos o,<-(h.call j x hx o).2];exact ⟨rfl,by show (7:Int)≠4;simp,rfl⟩
def aMz (p:Prg) (V:Nat->List Int) (k:Nat) (L:List (List Int)):Prop:=∀(i:Nat) (a:Asg),i<k->p.gs[i]?=some a->L.getD i []=V a.root.toNat
theorem aK9 {p:Prg} (h:p.K) {t:Tex} {x:Nd} (hx:p.ns[j]?=some x) {L:List (List Int)} (hL:aMz p (p.ev n m f tm t) (p.own j) L) :
  iM n m f tm t (bJ p x).op (bJ p x).name (bJ p x).num (x.args.map fun a=>p.ev n m f tm t a.toNat) L=p.ev n m f tm t j:=by
 rw [h.ev_step hx];unfold evB
 rcases jI (h.v.nd j x hx).1 with ⟨o,h2,h3⟩|⟨o,h3⟩|⟨o,h3⟩|⟨o,o',h3⟩|⟨o,h3⟩
 ·rw [if_pos o];unfold bJ;rw [if_pos o];rfl
 ·rw [if_neg (by omega),if_pos o]
  unfold bJ;rw [if_neg (by omega),if_neg (by omega),if_pos o]
  cases hv:cT x.name
  ·obtain ⟨i,hi,h0⟩:=h.name j x hx o hv
   obtain ⟨s',g1,g2,g3,g4⟩:=h.root hi
   have e1:pM p x.name=i:=by unfold pM;rw [hi];rfl
   have:=hL i _ h0 g1
   show L.getD ((pM p x.name:Nat):Int).toNat []=p.ev n m f tm t (p.rootOf x.name)
   rw [e1,aRr,this];simp
  ·rfl
 ·rw [if_neg (by omega),if_neg (by omega),if_neg (by omega)]
  unfold bJ;rw [if_neg (by omega),if_pos o,o]
  rfl
 ·rw [if_neg (by omega),if_neg (by omega),if_neg (by omega)]
  unfold bJ;rw [if_neg (by omega),if_neg (by omega),if_neg (by omega),if_neg (by omega)]
  show List.zipWith (eU x.op) _ _=_
  rw [if_neg (by omega)]
 ·rw [if_neg (by omega),if_neg (by omega),if_pos o]
  unfold bJ;rw [if_neg (by omega),if_neg (by omega),if_neg (by omega),if_pos o]
  rfl
theorem aM0 {p:Prg} (h:p.K) {t:Tex} {x:Nd} (hx:p.ns[j]?=some x) {L:List (List Int)} (hL:aMz p (p.ev n m f tm t) (p.own j) L) (rest:List Ins) (S:List (List Int)) :
  lE n m f tm t (bJ p x::rest) (S++x.args.map fun a=>p.ev n m f tm t a.toNat) L=lE n m f tm t rest (S++[p.ev n m f tm t j]) L:=by
 obtain ⟨h1,h2,h3⟩:=xM h hx
 have hc:iN (bJ p x).op (bJ p x).name (S++x.args.map fun a=>p.ev n m f tm t a.toNat)=S.length:=by
  unfold iN;rw [h1];simp
 rw [lE];unfold eH gD;rw [if_neg h2,if_neg h2,hc,List.take_left,List.drop_left,aK9 h hx hL]
theorem aOm {p:Prg} (h:p.K) {t:Tex}:∀(F j:Nat),j<F->j<p.ns.length->∀(L:List (List Int)),aMz p (p.ev n m f tm t) (p.own j) L->∀(rest:List Ins) (S:List (List Int)),
  lE n m f tm t (p.tr j++rest) S L=lE n m f tm t rest (S++[p.ev n m f tm t j]) L:=by
 intro F
 induction F with
 | zero=>intro j hj;omega
 | succ F ih=>
  intro j hj h0 L hL rest S
  have hx:p.ns[j]?=some p.ns[j]:=by simp [h0]
  obtain ⟨x,h1⟩:=e_ (p.ns[j])
  rw [h1] at hx;rw [h.v.tr_step hx,aRx,<-aM0 h hx hL rest S]
  have h2:∀(es:List Int),(∀a∈es,a∈x.args)->∀(rest:List Ins) (S:List (List Int)),lE n m f tm t ((es.flatMap fun a=>p.tr a.toNat)++rest) S L=lE n m f tm t rest (S++es.map fun a=>p.ev n m f tm t a.toNat) L:=by
   intro es
   induction es with
   | nil=>intro _ rest S;simp
   | cons a r ihr=>
    intro hs rest S;have ha:=hs a (by simp);have hr:=h.rank_arg hx ha;have h3:=(h.v.nd j x hx).2 a ha;rw [aS0,aRx,ih a.toNat (by omega) hr.2.1 L (by rw [hr.2.2];exact hL),ihr (fun b hb=>hs b (by simp [hb]))];simp
  exact h2 x.args (fun a ha=>ha) _ S
theorem aM1 {p:Prg} (h:p.K) {t:Tex}:∀k,k<=p.gs.length->∀rest,∃L,L.length=p.gs.length/\aMz p (p.ev n m f tm t) k L/\lE n m f tm t (p.trs k++rest) [] (aRj p.gs.length [])=lE n m f tm t rest [] L:=by
 intro k
 induction k with
 | zero=>intro _ rest;exact ⟨aRj p.gs.length [],List.length_replicate,fun i a hi=>by omega,by rw [Prg.trs,aSu]⟩
 | succ k ih=>
  intro hk rest
  have ha:p.gs[k]?=some p.gs[k]:=by simp [show k<p.gs.length by omega]
  obtain ⟨a,h0⟩:=e_ (p.gs[k])
  rw [h0] at ha;obtain ⟨L,h1,h2,h3⟩:=ih (by omega) ((p.tr a.root.toNat++[⟨4,⟨#[]⟩,(k:Nat)⟩])++rest);have hr:=(h.v.ag k a ha).2
  have e2:a=⟨a.name,(a.root.toNat:Nat)⟩:=by cases a;simp only [Asg.mk.injEq,true_and] at *;omega
  have ho:p.own a.root.toNat=k:=h.v.own_eq (Own.root (s:=a.name) (by rw [ha];exact congrArg some e2));refine ⟨L.set k (p.ev n m f tm t a.root.toNat),by simp [h1],fun i b hi hb=>?_,?_⟩
  ·rw [aRs,List.getElem?_set]
   by_cases e:k=i
   ·subst e
    rw [ha] at hb;injection hb with hb;subst hb;simp [h1,show k<p.gs.length by omega]
   ·rw [if_neg e,<-aRs]
    exact h2 i b (by omega) hb
  ·rw [Prg.trs_step ha,aRx,h3,aRx,aOm h (a.root.toNat+1) a.root.toNat (by omega) (by omega) L (by rw [ho];exact h2),aSu]
   show lE n m f tm t (_::rest) _ _=_
   rw [lE]
   rfl
theorem Prg.K.out {p:Prg} (h:p.K) (g:Grd):∀(i:Nat) (a:Asg),p.gs[i]?=some a->(p.code.out g).getD i []=evV p g a.root.toNat:=by
 intro i a ha;obtain ⟨L,h1,h2,h3⟩:=aM1 h (n:=g.n.toNat) (m:=g.m) (f:=g.f) (tm:=g.tm) (t:=g.t) p.gs.length (aQv _) [];unfold Cod.out Prg.code evV;simp only [aSh];rw [aTo] at h3;rw [h3,lE];exact h2 i a (aQz.1 ha).1 ha
theorem aD7 {p:Prg} (h:p.K) {x:Nd} (hx:p.ns[j]?=some x):wfI (bJ p x).op (bJ p x).name (bJ p x).num p.gs.length=true/\gY (bJ p x)=true/\((bJ p x).op=3->∃i,i<p.own j/\(bJ p x).num=(i:Nat)):=by
 have e0:((⟨#[]⟩:ByteArray).toList==[])=true:=by rw [Lib.toList_data];rfl
 have hv:=h.v;have h1:=(aQz.1 hx).1
 rcases jI (h.v.nd j x hx).1 with ⟨o,h2,h3⟩|⟨o,h3⟩|⟨o,h3⟩|⟨o,o',h3⟩|⟨o,h3⟩
 ·unfold bJ
  rw [if_pos o];have:=aG.1 h2;refine ⟨by simp [wfI,e0],aG.2 (by simp only;omega),fun e=>by simp at e⟩
 ·unfold bJ
  rw [if_neg (by omega),if_neg (by omega),if_pos o]
  cases hv:cT x.name
  ·obtain ⟨i,hi,h0⟩:=h.name j x hx o hv
   obtain ⟨g1,⟨a,g2,_⟩,_⟩:=eX hi;have hl:=(aQz.1 g2).1
   have e1:pM p x.name=i:=by unfold pM;rw [hi];rfl
   refine ⟨?_,?_,fun _=>⟨i,h0,by simp [e1]⟩⟩
   ·simp only [aTs,if_false,wfI,e1,e0]
    simp [aG];omega
   ·simp only [aTs,if_false,e1]
    refine aG.2 ⟨by simp only;omega,?_⟩;simp only;have:=h.v.gs_len;omega
  ·simp only [if_true,wfI,hv]
   exact ⟨by simp,aG.2 (by simp),fun e=>by simp at e⟩
 ·unfold bJ
  rw [if_neg (by omega),if_pos o];exact ⟨by simp [wfI,e0],aG.2 (by simp),fun e=>by simp at e⟩
 ·unfold bJ
  rw [if_neg (by omega),if_neg (by omega),if_neg (by omega),if_neg (by omega)];exact ⟨by simp [wfI,e0,aG];omega,aG.2 (by simp only;omega),fun e=>by simp at e⟩
 ·unfold bJ
  rw [if_neg (by omega),if_neg (by omega),if_neg (by omega),if_pos o];have:=(h.call j x hx o).1;exact ⟨by simp [wfI,this],aG.2 (by simp),fun e=>by simp at e⟩
theorem aOn {p:Prg} (h:p.K) {x:Nd} (hx:p.ns[j]?=some x):(p.tr j).length=1+(x.args.map fun a=>(p.tr a.toNat).length).sum:=by
 rw [h.v.tr_step hx,aRq,List.length_flatMap];simp;omega
theorem aM2 {p:Prg}:∀k,k<=p.gs.length->(p.trs k).length=((p.gs.take k).map fun a=>(p.tr a.root.toNat).length).sum+k:=by
 intro k
 induction k with
 | zero=>intro _;rfl
 | succ k ih=>
  intro hk
  have ha:p.gs[k]?=some p.gs[k]:=by simp [show k<p.gs.length by omega]
  rw [Prg.trs_step ha,aRq,ih (by omega),<-List.take_append_getElem (show k<p.gs.length by omega),aS8,aU5];simp;omega
theorem oE {p:Prg} (h:p.K):p.code.xs.length<=120:=by
 show (p.trs p.gs.length).length<=120
 rw [aM2 _ (aQv _),aR2,h.v.sum_roots (fun j=>(p.tr j).length) fun j x hx=>aOn h hx];have:=h.v.len;have:=h.v.gs_len;omega
theorem aLa {p:Prg} (h:p.K) {x:Nd} (hx:p.ns[j]?=some x) {st:Nat->Bool} (hst:∀i,i<p.own j->st i=true) (rest:List Ins) (d m:Int) (hd:0<=d) (hr:∀m',(iB p.gs.length rest (d+1) m' st).isSome=true) :
  (iB p.gs.length (bJ p x::rest) (d+x.args.length) m st).isSome=true:=by
 obtain ⟨h1,h2,h3⟩:=xM h hx;obtain ⟨w1,w2,w3⟩:=aD7 h hx;unfold iB;rw [if_pos ⟨w1,fun e=>by obtain ⟨i,hi,hn⟩:=w3 e;rw [hn];exact hst i hi,by rw [h1];omega⟩,h1,h3]
 have em:iA (bJ p x).op (bJ p x).num st=st:=by unfold iA;rw [if_neg h2]
 rw [em,show d+(x.args.length:Int) - x.args.length+1=d+1 by omega];exact hr _
theorem aM3 {p:Prg} (h:p.K):∀(F j:Nat),j<F->j<p.ns.length->∀(st:Nat->Bool),(∀i,i<p.own j->st i=true)->∀(rest:List Ins) (d m:Int),0<=d->(∀m',(iB p.gs.length rest (d+1) m' st).isSome=true) ->
  (iB p.gs.length (p.tr j++rest) d m st).isSome=true:=by
 intro F
 induction F with
 | zero=>intro j hj;omega
 | succ F ih=>
  intro j hj h1 st h0 rest d m hd hr
  have hx:p.ns[j]?=some p.ns[j]:=by simp [h1]
  obtain ⟨x,h2⟩:=e_ (p.ns[j])
  rw [h2] at hx;rw [h.v.tr_step hx,aRx]
  have h3:∀(es:List Int),(∀a∈es,a∈x.args)->∀(rest:List Ins) (d m:Int),0<=d->(∀m',(iB p.gs.length rest (d+es.length) m' st).isSome=true)->(iB p.gs.length ((es.flatMap fun a=>p.tr a.toNat)++rest) d m st).isSome=true:=by
   intro es
   induction es with
   | nil=>intro _ rest d m _ hr;simpa using hr m
   | cons a r ihr=>
    intro hs rest d m hd hr;have ha:=hs a (by simp);have hk:=h.rank_arg hx ha;have h4:=(h.v.nd j x hx).2 a ha;rw [aS0,aRx];refine ih a.toNat (by omega) hk.2.1 st (by rw [hk.2.2];exact h0) _ d m hd fun m'=>?_;refine ihr (fun b hb=>hs b (by simp [hb])) rest (d+1) m' (by omega) fun m2=>?_;have:=hr m2;rw [aSc] at this;rw [show d+1+(r.length:Int)=d+((r.length+1:Nat):Int) by omega];exact this
  exact h3 x.args (fun a ha=>ha) _ d m hd fun m'=>aLa h hx h0 rest d m' hd hr
theorem aLb {p:Prg} (h:p.K):∀k,k<=p.gs.length->∀(rest:List Ins) (m:Int),(∀m' st,(∀i,i<k->st i=true)->(iB p.gs.length rest 0 m' st).isSome=true)->(iB p.gs.length (p.trs k++rest) 0 m fun _=>false).isSome=true:=by
 intro k
 induction k with
 | zero=>intro _ rest m hr;rw [Prg.trs,aSu];exact hr m _ fun i hi=>by omega
 | succ k ih=>
  intro hk rest m hr
  have ha:p.gs[k]?=some p.gs[k]:=by simp [show k<p.gs.length by omega]
  obtain ⟨a,h0⟩:=e_ (p.gs[k])
  rw [h0] at ha;have h1:=(h.v.ag k a ha).2
  have e2:a=⟨a.name,(a.root.toNat:Nat)⟩:=by cases a;simp only [Asg.mk.injEq,true_and] at *;omega
  have ho:p.own a.root.toNat=k:=h.v.own_eq (Own.root (s:=a.name) (by rw [ha];exact congrArg some e2))
  have e0:((⟨#[]⟩:ByteArray).toList==[])=true:=by rw [Lib.toList_data];rfl
  rw [Prg.trs_step ha,aRx];refine ih (by omega) _ m fun m' st hst=>?_;rw [aRx];refine aM3 h (a.root.toNat+1) a.root.toNat (by omega) (by omega) st (by rw [ho];exact hst) _ 0 m' (by omega) fun m2=>?_
  show (iB p.gs.length (_::rest) _ _ _).isSome=true
  unfold iB;rw [if_pos ⟨by simp [wfI,e0,aG];omega,fun e=>by simp at e,by show (1:Int)<=0+1;omega⟩];refine hr _ _ fun i hi=>?_
  show iA 4 ((k:Nat):Int) st i=true
  unfold iA;rw [if_pos rfl];simp only [aRr]
  by_cases e:i=k
  ·rw [if_pos e]
  ·rw [if_neg e];exact hst i (by omega)
theorem aM4 {p:Prg} (h:p.K):∀x∈p.code.xs,gY x=true:=by
 have t1:∀(F j:Nat),j<F->j<p.ns.length->∀x∈p.tr j,gY x=true:=by
  intro F
  induction F with
  | zero=>intro j hj;omega
  | succ F ih=>
   intro j hj h0 y hy
   have hx:p.ns[j]?=some p.ns[j]:=by simp [h0]
   rw [h.v.tr_step hx] at hy
   rcases aTe.1 hy with hy|hy
   ·obtain ⟨a,ha,hy⟩:=aVg.1 hy
    have hk:=h.rank_arg hx ha;have h1:=(h.v.nd j _ hx).2 a ha;exact ih a.toNat (by omega) hk.2.1 y hy
   ·rw [aTy.1 hy]
    exact (aD7 h hx).2.1
 have t2:∀k,k<=p.gs.length->∀x∈p.trs k,gY x=true:=by
  intro k
  induction k with
  | zero=>intro _ x hx;cases hx
  | succ k ih=>
   intro hk x hx
   have ha:p.gs[k]?=some p.gs[k]:=by simp [show k<p.gs.length by omega]
   have h2:=(h.v.ag k _ ha).2;rw [Prg.trs_step ha] at hx
   rcases aTe.1 hx with hx|hx
   ·exact ih (by omega) x hx
   ·rcases aTe.1 hx with hx|hx
    ·exact t1 _ _ (aYx _) (by omega) x hx
    ·rw [aTy.1 hx]
     have:=h.v.gs_len;exact aG.2 (by simp only;omega)
 exact t2 _ (aQv _)
theorem Prg.K.runB {p:Prg} (h:p.K):p.code.runB=true:=by
 unfold Cod.runB;rw [aRd];refine ⟨?_,aR5.2 (aM4 h)⟩;unfold Cod.depth;rw [if_pos (by have:=oE h;omega)]
 show (iB (p.gs.map (·.name)).length (p.trs p.gs.length) 0 0 fun _=>false).isSome=true
 rw [aSh];have:=aLb h p.gs.length (aQv _) [] 0 fun m' st _=>rfl
 rwa [aTo] at this
theorem vJ {gs:List Asg} {l:List UInt8}:ixL l (gs.map (·.name))=match eM gs gs.length l with|some k=>(k:Int)|none=>-1:=by
 cases h:eM gs gs.length l with
 | none=>
  refine aGk fun j z hj hz=>?_;rw [aSo] at hz;obtain ⟨a,ha,rfl⟩:=aW4.1 hz;intro e;have h1:=vH (t:=gs.length) h;rw [jG.2 ⟨j,a,(aQz.1 ha).1,ha,e⟩] at h1;cases h1
 | some k=>
  obtain ⟨h1,⟨a,h2,h3⟩,h4⟩:=eX h;refine aGj (y:=a.name) (by simp [h2]) h3 fun j z hj hz=>?_;rw [aSo] at hz;obtain ⟨b,hb,rfl⟩:=aW4.1 hz;exact h4 j b hj hb
theorem aD8 {p:Prg} (h:p.K) {g:Grd} (hg:g.okB=true) {r:Nat} (hr:r<p.ns.length):fG g.m (evV p g r):=by
 obtain ⟨n,hn,h0,n1,n8,_,ht,hf⟩:=Grd.partsE hg
 have hV:evV p g=p.ev n g.m g.f g.tm g.t:=by unfold evV;rw [hn];rfl
 rw [hV];exact h.ev_good h0 hf ht (p.rank r+1) r (by omega) hr
theorem aAv (h:q<xs.length):(xs.map col).getD q 0=col (xs.getD q 0):=by
 rw [aRs,aRs,aSo,aQ9 h]
 rfl
theorem Prg.K.shade {p:Prg} (h:p.K) (hp:p.chkB=true) {g:Grd} (hg:g.okB=true):∃X Y:List Int,p.code.shade g=(X,Y,true)/\X.length=g.m/\Y.length=g.m /\
  ∀i j:Nat,(i:Int)<g.n->(j:Int)<g.n->X.getD ((j:Int)*g.n+i).toNat 0=shC p g i j/\Y.getD ((j:Int)*g.n+i).toNat 0=shA p g i j:=by
 obtain ⟨n,hn,h6,n1,n8,_,ht,hf⟩:=Grd.partsE hg
 have h7:0<g.m:=by rw [<-h6];exact Nat.mul_pos n1 n1
 have hR:(p.code.runB&&g.okB)=true:=by rw [h.runB,hg];rfl
 have h3:p.code.res g=p.code.out g:=by unfold Cod.res;rw [if_pos hR]
 obtain ⟨k,hk⟩:=h.col;obtain ⟨s,r,k1,k2,k3,k4⟩:=h.asg hk
 have h5:kF p.code.ls=(k:Int):=by
  unfold kF;rw [aMg]
  show ixL _ (p.gs.map (·.name))=_
  rw [vJ,hk]
 have o1:(p.code.out g).getD k []=evV p g r:=by have:=h.out g k _ k1;simpa using this
 have g1:=aD8 h hg k2
 have ne:∀{xs:List Int},xs.length=g.m->xs≠[]:=fun hl e=>by rw [e] at hl;simp at hl;omega
 have pt:∀i j:Nat,(i:Int)<g.n->(j:Int)<g.n->∃q,((j:Int)*g.n+i).toNat=q/\q<g.m/\aMs p g i j=true:=fun i j hi hj=>by
  refine ⟨_,rfl,?_,?_⟩
  ·rw [hn] at hi hj ⊢
   have:=aO8 h6 (i:=i) (j:=j) (by omega) (by omega);rw [show ((j:Int)*n+i)=((j*n+i:Nat):Int) by simp];exact this
  ·unfold aMs
   rw [hp,hg];simp only [Bool.true_and,aRd];exact ⟨aG.2 (by omega),aG.2 (by omega)⟩
 have h0:∀i j:Nat,(i:Int)<g.n->(j:Int)<g.n->((evV p g r).map aTw).getD ((j:Int)*g.n+i).toNat 0=shC p g i j:=fun i j hi hj=>by
  obtain ⟨q,hq,h2,h1⟩:=pt i j hi hj;unfold shC;rw [if_pos h1,hq,wZ hk k1,aAv (by rw [g1.1];exact h2)]
  rfl
 cases ha:eM p.gs p.gs.length [97,108,112,104,97] with
 | none=>
  have h4:gT p.code.ls = -1:=by
   unfold gT;rw [aKx]
   show ixL _ (p.gs.map (·.name))=_
   rw [vJ,ha]
  refine ⟨(evV p g r).map aTw,aRj g.m 256,?_,by rw [aSh,g1.1],by simp,fun i j hi hj=>⟨h0 i j hi hj,?_⟩⟩
  ·unfold Cod.shade
   rw [h5,h4,h3,aRr,o1,if_pos ⟨hR,by omega,ne g1.1,.inl (by omega)⟩,if_pos (by omega)]
  ·obtain ⟨q,hq,h2,h1⟩:=pt i j hi hj
   unfold shA;rw [if_pos h1,hq,aGb ha,aRs,List.getElem?_replicate,if_pos h2]
   rfl
 | some l=>
  obtain ⟨s',r',l1,l2,l3,l4⟩:=h.asg ha
  have h4:gT p.code.ls=(l:Int):=by
   unfold gT;rw [aKx]
   show ixL _ (p.gs.map (·.name))=_
   rw [vJ,ha]
  have o2:(p.code.out g).getD l []=evV p g r':=by have:=h.out g l _ l1;simpa using this
  have g2:=aD8 h hg l2;refine ⟨(evV p g r).map aTw,(evV p g r').map aTw,?_,by rw [aSh,g1.1],by rw [aSh,g2.1],fun i j hi hj=>⟨h0 i j hi hj,?_⟩⟩
  ·unfold Cod.shade
   rw [h5,h4,h3,aRr,aRr,o1,o2,if_pos ⟨hR,by omega,ne g1.1,.inr (ne g2.1)⟩,if_neg (by omega)]
  ·obtain ⟨q,hq,h2,h1⟩:=pt i j hi hj
   unfold shA;rw [if_pos h1,hq,wZ ha l1,aAv (by rw [g2.1];exact h2)]
   rfl
def gL (lo hi:Nat) (w:World) (v:Value) (ps:List Prg):Prop:=
 ∃a cap,v = .slice a ps.length cap/\ps.length<=cap/\cap<=maxLen/\∀k p,ps[k]?=some p->∃b off u1 u2,a=some ⟨b,off,none⟩/\lo<=b/\b<hi/\w.cell? ⟨b,off+k*2,none⟩=some u1/\w.cell? ⟨b,off+k*2+1,none⟩=some u2/\p.R lo hi w (.agg #[u1,u2])
theorem gL.same {ps:List Prg} (h:gL lo hi w v ps) (s:aM lo hi w w'):gL lo hi w' v ps:=by
 obtain ⟨a,cap,h1,h2,h3,h4⟩:=h;refine ⟨a,cap,h1,h2,h3,fun k p hk=>?_⟩;obtain ⟨b,h0,u1,u2,e1,e2,e3,e4,e5,e6⟩:=h4 k p hk;exact ⟨b,h0,u1,u2,e1,e2,e3,(s.cell e2 e3).trans e4,(s.cell e2 e3).trans e5,e6.same s⟩
theorem gL.ext {ps:List Prg} (h:gL lo hi w v ps) (hh:hi<=w.heap.size) (e:Ext w w'):gL lo hi w' v ps:=h.same (e.same hh)
structure aCc (lo hi:Nat) (w:World) (a:Option Addr) (cap:Nat) (ps:List Prg):Prop where
 le:ps.length<=cap
 cap:cap<=9223372036854775807
 cell:∀k p,ps[k]?=some p->∃b off u1 u2,a=some ⟨b,off,none⟩/\lo<=b/\b<hi/\w.cell? ⟨b,off+k*2,none⟩=some u1/\w.cell? ⟨b,off+k*2+1,none⟩=some u2/\p.R lo hi w (.agg #[u1,u2])
theorem gL.open {ps:List Prg} (h:gL lo hi w v ps):∃a cap,v = .slice a ps.length cap/\aCc lo hi w a cap ps:=by
 obtain ⟨a,cap,g1,g2,g3,g4⟩:=h;exact ⟨a,cap,g1,g2,by unfold maxLen at g3;omega,g4⟩
theorem aCc.at {a:Option Addr} {cap:Nat} {ps:List Prg} (h:aCc lo hi w a cap ps) (hk:k<ps.length) {wr:World} (hx:Ext w wr) (hh:hi<=w.heap.size) :
  ∃b off a1 c1 a2 c2,a=some ⟨b,off,none⟩/\b<w.heap.size/\b<wr.heap.size/\wr.cell? ⟨b,off+k*2,none⟩=some (.slice a1 ps[k].ns.length c1)/\wr.cell? ⟨b,off+k*2+1,none⟩=some (.slice a2 ps[k].gs.length c2)/\ps[k].R lo hi wr (.agg #[.slice a1 ps[k].ns.length c1,.slice a2 ps[k].gs.length c2]):=by
 obtain ⟨b,off,u1,u2,e,h1,h2,c0,c1,hu⟩:=h.cell k ps[k] (by simp [hk]);have hz:=hx.size;obtain ⟨a1,k1,a2,k2,e1,-,-⟩:=hu.form;simp only [Value.agg.injEq,Array.mk.injEq,List.cons.injEq,and_true] at e1;obtain ⟨rfl,rfl⟩:=e1;exact ⟨b,off,a1,k1,a2,k2,e,by omega,by omega,(hx.cells.1 b _ (by omega)).trans c0,(hx.cells.1 b _ (by omega)).trans c1,hu.ext hh hx⟩
structure Scn where
 c:Cam
 t:Tex
 ps:List Prg
 m:Nat
 F:Nat->Int
 side:Int
def Scn.st (s:Scn) (k:Nat):Nat->Int:=fun j=>s.F (k*26+j)
def Scn.en (s:Scn) (k:Nat):Nat->Int:=fun j=>s.F (k*26+12+j)
def Scn.sh (s:Scn) (k:Nat):Int:=s.F (k*26+24)
def Scn.rt (s:Scn) (k:Nat):Int:=s.F (k*26+25)
def Scn.R (s:Scn) (lo hi:Nat) (w:World) (v:Value):Prop:=
 ∃tu pu su,v = .agg #[s.c.w,s.c.h,s.c.zoom,s.c.near,.bool s.c.deep,s.c.lens,s.c.focus,s.t.log,tu,pu,su,s.side] /\
  s.c.I/\I64 s.t.log/\I64 s.side/\aU lo hi w tu s.t.px/\gL lo hi w pu s.ps/\cY 26 lo hi w su s.m s.F
theorem Scn.R.same {s:Scn} (h:s.R lo hi w v) (e:aM lo hi w w'):s.R lo hi w' v:=by
 obtain ⟨tu,pu,su,h1,h2,h3,h4,h5,h6,h7⟩:=h;exact ⟨tu,pu,su,h1,h2,h3,h4,h5.same e,h6.same e,h7.same e⟩
theorem Scn.R.ext {s:Scn} (h:s.R lo hi w v) (hh:hi<=w.heap.size) (e:Ext w w'):s.R lo hi w' v:=h.same (e.same hh)
theorem Scn.R.form {s:Scn} (h:s.R lo hi w v) :
  ∃a1 c1 a2 c2 a3 c3,v = .agg #[s.c.w,s.c.h,s.c.zoom,s.c.near,.bool s.c.deep,s.c.lens,s.c.focus,s.t.log,.slice a1 s.t.px.length c1,.slice a2 s.ps.length c2,.slice a3 s.m c3,s.side] /\
   s.c.I/\I64 s.t.log/\I64 s.side/\fY lo hi w a1 c1 s.t.px/\aCc lo hi w a2 c2 s.ps/\jR 26 lo hi w a3 c3 s.m s.F:=by
 obtain ⟨tu,pu,su,rfl,h2,h3,h4,h5,h6,h7⟩:=h;obtain ⟨a1,c1,rfl,H1⟩:=h5.open;obtain ⟨a2,c2,rfl,H2⟩:=h6.open;obtain ⟨a3,c3,rfl,H3⟩:=h7.open;exact ⟨a1,c1,a2,c2,a3,c3,rfl,h2,h3,h4,H1,H2,H3⟩
def qX (f:Nat->Int):Bool:=cU (f 0) (f 1) (f 2)&&cU (f 3) (f 4) (f 5)&&cU (f 6) (f 7) (f 8)&&cU (f 9) (f 10) (f 11)
def uL (r:Int):Bool:=r==1||r==2||r==4||r==8
def qC (r:Int):Bool:=r==1||r==2||r==4
def aM5 (f g:Nat->Int) (sh rt:Int) (n:Nat):Bool:=qX f&&qX g&&decide (0<=sh)&&decide (sh<(n:Int))&&uL rt
def Scn.srfB (s:Scn) (k:Nat):Bool:=aM5 (s.st k) (s.en k) (s.sh k) (s.rt k) s.ps.length
noncomputable def Scn.okB (s:Scn):Bool:=s.c.okB&&s.t.okB&&inB (s.ps.length:Int) 1 3&&decide (s.m<=5)&&qC s.side&&s.ps.all Prg.chkB&&(aRl s.m).all s.srfB
def Scn.small (s:Scn):Prop:=∀p∈s.ps,p.bd/\p.small
structure Scn.Ok (s:Scn):Prop where
 c:s.c.Ok
 cb:s.c.okB=true
 t:s.t.okB=true
 n:1<=s.ps.length/\s.ps.length<=3
 m:s.m<=5
 side:s.side=1\/s.side=2\/s.side=4
 prg:∀p∈s.ps,p.chkB=true
 srf:∀k,k<s.m->s.srfB k=true
theorem Scn.okB_iff {s:Scn}:s.okB=true↔s.Ok:=by
 unfold Scn.okB qC;simp only [aRd,aG,decide_eq_true_eq,aR5,aR4,aVt,beq_iff_eq]
 constructor
 ·rintro ⟨⟨⟨⟨⟨⟨a,b⟩,d,d'⟩,e⟩,f⟩,g⟩,h⟩
  exact ⟨Cam.okB_iff.1 a,a,b,⟨by omega,by omega⟩,e,by omega,g,h⟩
 ·rintro ⟨a,a',b,d,e,f,g,h⟩
  exact ⟨⟨⟨⟨⟨⟨a',b⟩,by omega,by omega⟩,e⟩,by omega⟩,g⟩,h⟩
structure aPk (f g:Nat->Int) (sh rt:Int) (n:Nat):Prop where
 f:qX f=true
 g:qX g=true
 sh:0<=sh/\sh<n
 rt:rt=1\/rt=2\/rt=4\/rt=8
theorem aLc {g:Nat->Int} {sh rt:Int}:aM5 f g sh rt n=true↔aPk f g sh rt n:=by
 unfold aM5 uL;simp only [aRd,decide_eq_true_eq,aVt,beq_iff_eq]
 constructor
 ·rintro ⟨⟨⟨⟨a,b⟩,c⟩,d⟩,e⟩
  exact ⟨a,b,⟨c,d⟩,by omega⟩
 ·rintro ⟨a,b,⟨c,d⟩,e⟩
  exact ⟨⟨⟨⟨a,b⟩,c⟩,d⟩,by omega⟩
def aAw (f:Nat->Int) (n:Nat):Nat->Int:=fun q=>
 if q % 5=0 then ((q / 5 % n:Nat):Int)*256 / (n:Int) else if q % 5=1 then ((q / 5 / n:Nat):Int)*256 / (n:Int)
 else if q % 5=2 then (evP f ((q / 5 % n:Nat):Int) ((q / 5 / n:Nat):Int) n).x else if q % 5=3 then (evP f ((q / 5 % n:Nat):Int) ((q / 5 / n:Nat):Int) n).y
 else (evP f ((q / 5 % n:Nat):Int) ((q / 5 / n:Nat):Int) n).z
def nE (f:Nat->Int) (n:Nat) (t:Tex):Grd:=⟨(n:Int),n*n,aAw f n,0,t⟩
def Scn.prg (s:Scn) (k:Nat):Prg:=s.ps.getD (s.sh k).toNat ⟨[],[]⟩
def Scn.grd (s:Scn) (k:Nat):Grd:=nE (s.st k) (s.rt k).toNat s.t
def Scn.shade (s:Scn) (k:Nat):List Int×List Int:=let r:=(s.prg k).code.shade (s.grd k);(r.1,r.2.1)
def Scn.hits (s:Scn) (k:Nat) (p:Smp):List aO:=tY s.c (aY (s.st k) (s.en k) p.t) (s.rt k).toNat p (k:Nat) (s.shade k).1 (s.shade k).2
abbrev sA_ (s:Scn) (a1:Option Addr) (c1:Nat) (a2:Option Addr) (c2:Nat) (a3:Option Addr) (c3:Nat):Array Value:=#[.int .i64 s.c.w,.int .i64 s.c.h,.int .i64 s.c.zoom,.int .i64 s.c.near,.bool s.c.deep,.int .i64 s.c.lens,.int .i64 s.c.focus,.int .i64 s.t.log,.slice a1 s.t.px.length c1,.slice a2 s.ps.length c2,.slice a3 s.m c3,.int .i64 s.side]
abbrev sL_ (s:Scn) (a1:Option Addr) (c1:Nat) (a2:Option Addr) (c2:Nat) (a3:Option Addr) (c3:Nat):List Value:=[.int .i64 s.c.w,.int .i64 s.c.h,.int .i64 s.c.zoom,.int .i64 s.c.near,.bool s.c.deep,.int .i64 s.c.lens,.int .i64 s.c.focus,.int .i64 s.t.log,.slice a1 s.t.px.length c1,.slice a2 s.ps.length c2,.slice a3 s.m c3,.int .i64 s.side]
def qY (s:Smp) (k:Int) (cols als:List Int) (m:Mc):List aO:=
 if qO m.a m.b m.d s.at then [⟨eC m.a m.b m.d s.at,k,m.v*m.n+m.u,cols.getD (m.v*m.n+m.u).toNat 0,als.getD (m.v*m.n+m.u).toNat 0⟩] else []
theorem aAx (a b d:V3) (s:Smp) (k:Int) (cols als:List Int) (u v n:Nat) :
  aIj a b d s.at k ((v*n+u:Nat):Int) (cols.getD (v*n+u) 0) (als.getD (v*n+u) 0)=qY s k cols als ⟨a,b,d,(u:Nat),(v:Nat),(n:Nat)⟩:=by
 have e:((v:Nat):Int)*((n:Nat):Int)+((u:Nat):Int)=((v*n+u:Nat):Int):=by rw [aS6,aUb]
 unfold aIj qY;simp only [e,aRr]
theorem aD9 (c:Cam) (f:Nat->Int) (n:Nat) (s:Smp) (k:Int) (cols als:List Int) (u v:Nat):aAh c f n s k cols als u v=(fX c f n s u v).flatMap (qY s k cols als):=by
 unfold aAh fX
 split
 ·rw [aAx,aAx]
  simp only [aS0,List.flatMap_nil,aTo]
 ·rfl
theorem xN (c:Cam) (f:Nat->Int) (n:Nat) (s:Smp) (k:Int) (cols als:List Int):tY c f n s k cols als=(jZ c f n s).flatMap (qY s k cols als):=by
 unfold tY qP jZ;rw [List.flatMap_assoc];exact wG fun q _=>aD9 ..
structure aP7 (n:Nat) (m:Mc):Prop where
 a:m.a.scr
 b:m.b.scr
 d:m.d.scr
 z:(-1000000<=m.a.z/\m.a.z<=1000000)/\(-1000000<=m.b.z/\m.b.z<=1000000)/\(-1000000<=m.d.z/\m.d.z<=1000000)
 q:∃u v:Nat,m.u=(u:Nat)/\m.v=(v:Nat)/\m.n=(n:Nat)/\u<n/\v<n
theorem lZ (c:Cam) (f:Nat->Int) (n:Nat) (s:Smp) (u v:Nat):(cW c f n s u v).scr:=⟨aNo _,aNo _⟩
theorem tM (c:Cam) (f:Nat->Int) (s:Smp) {u v:Nat} (hn:1<=n) (hu:u<=n) (hv:v<=n) : -1000000<=(cW c f n s u v).z/\(cW c f n s u v).z<=1000000:=
 ⟨aJ6 (by omega) (by omega) (by omega) (cM _).1 (cM _).1 (cM _).1 (cM _).1,aJ7 (by omega) (by omega) (by omega) (cM _).2 (cM _).2 (cM _).2 (cM _).2⟩
theorem aEa {c:Cam} {s:Smp} (hn:1<=n):∀m∈jZ c f n s,aP7 n m:=by
 intro m hm;unfold jZ at hm;rw [aVg] at hm;obtain ⟨q,hq,hm⟩:=hm;rw [aR4] at hq;have hu:q % n<n:=aTp _ (by omega);have hv:q / n<n:=aTg hq;generalize q % n=u at hu hm;generalize q / n=v at hv hm;unfold fX at hm
 split at hm
 ·simp only [aRk,aRe,or_false] at hm
  rcases hm with rfl|rfl
  ·exact ⟨lZ ..,lZ ..,lZ ..,⟨tM _ _ _ hn (by omega) (by omega),tM _ _ _ hn (by omega) (by omega),tM _ _ _ hn (by omega) (by omega)⟩,u,v,rfl,rfl,rfl,hu,hv⟩
  ·exact ⟨lZ ..,lZ ..,lZ ..,⟨tM _ _ _ hn (by omega) (by omega),tM _ _ _ hn (by omega) (by omega),tM _ _ _ hn (by omega) (by omega)⟩,u,v,rfl,rfl,rfl,hu,hv⟩
 ·cases hm
theorem sA (c:Cam) (f:Nat->Int) (s:Smp) (hn:n<=8):(jZ c f n s).length<=128:=by
 have h:∀q,((aRl q).flatMap fun i=>fX c f n s (i % n) (i / n)).length<=2*q:=by
  intro q
  induction q with
  | zero=>simp
  | succ q ih=>
   rw [aS9,aSa,aRq,aUr];have:=iW c f n s (q % n) (q / n);omega
 have h2:=h (n*n);have h3:n*n<=8*8:=aRy hn hn;unfold jZ;omega
def aCd (s:Smp) (k:Int) (cols als:List Int) (ms:List Mc) (j:Nat):List aO:=(ms.take j).flatMap (qY s k cols als)
theorem mA {s:Smp} {k:Int} {cols als:List Int} {ms:List Mc} {m:Mc} (h:ms[j]?=some m):aCd s k cols als ms (j+1)=aCd s k cols als ms j++qY s k cols als m:=by
 obtain ⟨hj,rfl⟩:=aQz.1 h;unfold aCd;rw [aRv hj,aSa,aUr]
theorem aEb (s:Smp) (k:Int) (cols als:List Int) (ms:List Mc):aCd s k cols als ms ms.length=ms.flatMap (qY s k cols als):=by unfold aCd;rw [aR2]
theorem aEc (s:Smp) (k:Int) (cols als:List Int) (m:Mc):(qY s k cols als m).length<=1:=by unfold qY;split <;> simp
theorem uM (s:Smp) (k:Int) (cols als:List Int) (ms:List Mc):∀j,(aCd s k cols als ms j).length<=j:=by
 intro j
 induction j with
 | zero=>exact aQv _
 | succ j ih=>
  cases h:ms[j]? with
  | none=>
   have hl:=List.getElem?_eq_none_iff.1 h;unfold aCd at ih ⊢;rw [aR3 (by omega)] at ih ⊢;omega
  | some m=>
   rw [mA h,aRq];have:=aEc s k cols als m;omega
theorem Ext.setRow {w1:World} (h:Ext w w1) (hg:w.heap.size<=g) (cs:Array Value):Ext w (w1.setRow g cs):=
 aVh h ⟨rfl,rfl,rfl,by simp,fun k hk=>setRow_other _ _ _ _ (by omega)⟩
theorem Blk.row {cs:List Value} (h:Blk w g t cs) (ds:List Value):Blk (w.setRow g ds.toArray) g t ds:=setRow_heap _ _ _ _ _ _ h
theorem Blk.otherRow {g':Nat} {cs:List Value} (h:Blk w g t cs) (ne:g≠g') (ds:Array Value):Blk (w.setRow g' ds) g t cs:=h.of (setRow_other _ _ _ _ ne)
theorem eN {C:World->Prop} {Q:Act->Prop} {op:Oper} (hw:Region.wanted op (yielded ops a.tmps)=true) (ty:TypeId) (x:Operand) (ho:op.op = .load ty x)
  (b o:Nat) (hx:a.eval x = .pointer (some ⟨b,o,none⟩)) (cs:List Value) (d:TypeDesc) (hC:∀w,C w->w.rangeAt b o cs) (hu:P.underlying ty=some d) (hd:d.isRow=true) (hi:(P.info? ty).map (·.size)=some cs.length)
  (h:wpQuiet P ops C Q rest (a.put op.dst (.agg cs.toArray))):wpQuiet P ops C Q (op::rest) a:=by
 refine wpQuiet_step fun K hK=>?_;rw [if_pos hw];refine ⟨.agg cs.toArray,fun w hw=>?_,hK _ h⟩;unfold Oper.quietAt execOp;simp only [ho,hx,Sem.run_bind,run_loadAt_mid w b o ty cs d (hC w hw) hu hd hi,Result.andThen_ok];exact ⟨rfl,rfl⟩
def CHt (N:Nat):Addr->Prop:=fun a=>a.block<N
@[go_sem] theorem aP8 {N o:Nat} (h:k<N):CHt N ⟨k,o,none⟩:=h
theorem aF.rowE {α : Type} {cs : α->List Value} {xs:List α} (h:aF cs lo e sz w v xs):∀k,v.ownBlock=some k->lo<=k/\∃c,w.heap[k]?=some (.cells c e (0,0)):=by
 intro k hk
 rcases h.2 with ⟨rfl,h4⟩|⟨g,cap,cur,rfl,hb,hg,_⟩
 ·simp [aRu] at hk
 ·simp only [aRu,aQ0] at hk
  subst hk;exact ⟨hb,_,hg⟩
theorem aF.grownE {α : Type} {cs : α->List Value} {e':TypeId} {xs:List α} {row:Option Nat} (h:aF cs lo e sz w v xs) (hg:w.grownBy w' row) (he:e≠e') (hr:∀k,row=some k->∃c,w.heap[k]?=some (.cells c e' (0,0))):aF cs lo e sz w' v xs:=
 h.of fun b c _ hb=>(hg.block b (aRi.1 hb).1 fun e1=>by
  obtain ⟨c',hc'⟩:=hr b e1.symm;rw [hb] at hc';simp only [aQ0,aR8] at hc'
  exact he hc'.2.1).trans hb
theorem iE:(Tryz.prog.info? 95).map (fun i=>(i.zero,i.size,i.bytes))=some (some (.agg #[(),(),(),(),()]),5,40):=by kernel_rfl
theorem iF (w:World) (hg:o.guard=none) (s x:Operand)
  (hop:o.op=Op.call { callee:=Callee.builtin Builtin.append,args:=#[s,x],argTypes:=#[48,48] }) (lo:Nat) (v:Value) (xs:List aO) (hs:a.eval s=v) (hown:aF aO.cs lo 95 5 w v xs)
  (y:aO) (b:Nat) (hx:a.eval x = .slice (some ⟨b,0,none⟩) 1 1) (hcell:∀j,j<5->w.cell? ⟨b,j,none⟩=y.cs[j]?) (hlen:xs.length<1000000) (hlo:lo<=w.heap.size)
  (hK:∀v' w',aF aO.cs lo 95 5 w' v' (xs++[y])->w.grownBy w' v.ownBlock->wpList aQ2 ops Q rest (a.put o.dst v') w'):wpList aQ2 ops Q (o::rest) a w:=by
 refine dV aO.cs 95 5 40 _ w hg s x 48 hop underlying48 iE rfl (by decide) (by decide) (fun _=>rfl) lo v xs hs hown y b hx hcell ?_ hlen hlo hK;intro u hu;simp only [aO.cs,aRk,aRe,or_false] at hu
 rcases hu with rfl|rfl|rfl|rfl|rfl <;> rfl
theorem fQ:(Tryz.prog.info? 127).map (fun i=>i.size)=some 26:=by kernel_rfl
theorem aJd (s:Scn) (lo hi:Nat) (v:Value) (k:Nat) (p:Smp) (n:Nat) (cols als:List Int) (cu au:Value) (w:World) (hv:s.R lo hi w v) (hh:hi<=w.heap.size) (hk:k<s.m) (hr:s.rt k=(n:Nat)) (hn:1<=n/\n<=8) (hp:p.okB s.c=true)
  (hc:aU 0 w.heap.size w cu cols) (ha:aU 0 w.heap.size w au als) (hlc:cols.length=n*n) (hla:als.length=n*n) :
  Calls aQ2 58 #[v,(k:Nat),.agg #[p.x,p.y,p.t,p.lx,p.ly],.agg #[cu,au]] w fun e w'=>∃r,e = .returned r/\aF aO.cs w.heap.size 95 5 w' r (tY s.c (aY (s.st k) (s.en k) p.t) n p (k:Nat) cols als)/\Ext w w':=by
 obtain ⟨a1,c1,a2,c2,a3,c3,rfl,-,-,-,-,-,hF⟩:=hv.form;obtain ⟨a4,c4,rfl,hC⟩:=hc.open;obtain ⟨a5,c5,rfl,hA⟩:=ha.open;have e5:=hF.cap;have g7:=hF.le;obtain ⟨b,h6,rfl,g1,g2,h0⟩:=hF.at hk (by decide)
 obtain ⟨f,hf⟩:=e_ (s.st k)
 obtain ⟨g,hg⟩:=e_ (s.en k)
 obtain ⟨sh,b0⟩:=e_ (s.sh k)
 have bw:b<w.heap.size:=by omega
 have xw:Ext w (((w.alloc (.cells (sA_ s a1 c1 a2 c2 (some ⟨b,h6,none⟩) c3) 40)).alloc (.cells #[p.x,p.y,p.t,p.lx,p.ly] 42)).alloc (.cells #[.slice a4 cols.length c4,.slice a5 als.length c5] 91)):=X_
 have q5:(((w.alloc (.cells (sA_ s a1 c1 a2 c2 (some ⟨b,h6,none⟩) c3) 40)).alloc (.cells #[p.x,p.y,p.t,p.lx,p.ly] 42)).alloc (.cells #[.slice a4 cols.length c4,.slice a5 als.length c5] 91)).rangeAt b (h6+k*26) ((aRl 26).map fun j=>.int .i64 (s.F (k*26+j))):=by
  intro j v hj;obtain ⟨h1,h2⟩:=aQz.1 hj;simp only [aSh,aUo] at h1;simp only [aVf,aUe] at h2;subst h2;exact (xw.cells.1 b _ bw).trans (h0 j h1)
 change (((w.alloc (.cells (sA_ s a1 c1 a2 c2 (some ⟨b,h6,none⟩) c3) 40)).alloc (.cells #[p.x,p.y,p.t,p.lx,p.ly] 42)).alloc (.cells #[.slice a4 cols.length c4,.slice a5 als.length c5] 91)).rangeAt b (h6+k*26) [(s.st k 0),(s.st k 1),(s.st k 2),(s.st k 3),(s.st k 4),(s.st k 5),(s.st k 6),(s.st k 7),(s.st k 8),(s.st k 9),(s.st k 10),(s.st k 11),(s.en k 0),(s.en k 1),(s.en k 2),(s.en k 3),(s.en k 4),(s.en k 5),(s.en k 6),(s.en k 7),(s.en k 8),(s.en k 9),(s.en k 10),(s.en k 11),(s.sh k),(s.rt k)] at q5;simp only [hf,hg,b0,hr] at q5;have q0:=aQ8 w 40 (sL_ s a1 c1 a2 c2 (some ⟨b,h6,none⟩) c3);have q1:=aQ8 (w.alloc (.cells (sA_ s a1 c1 a2 c2 (some ⟨b,h6,none⟩) c3) 40)) 42 [p.x,p.y,p.t,p.lx,p.ly];have q2:=aQ8 ((w.alloc (.cells (sA_ s a1 c1 a2 c2 (some ⟨b,h6,none⟩) c3) 40)).alloc (.cells #[p.x,p.y,p.t,p.lx,p.ly] 42)) 91 [.slice a4 cols.length c4,.slice a5 als.length c5];simp only [aQy] at q1 q2;have r0:=q0.ext (show Ext (w.alloc (.cells (sA_ s a1 c1 a2 c2 (some ⟨b,h6,none⟩) c3) 40)) (((w.alloc (.cells (sA_ s a1 c1 a2 c2 (some ⟨b,h6,none⟩) c3) 40)).alloc (.cells #[p.x,p.y,p.t,p.lx,p.ly] 42)).alloc (.cells #[.slice a4 cols.length c4,.slice a5 als.length c5] 91)) from X_);have r1:=q1.ext (show Ext ((w.alloc (.cells (sA_ s a1 c1 a2 c2 (some ⟨b,h6,none⟩) c3) 40)).alloc (.cells #[p.x,p.y,p.t,p.lx,p.ly] 42)) (((w.alloc (.cells (sA_ s a1 c1 a2 c2 (some ⟨b,h6,none⟩) c3) 40)).alloc (.cells #[p.x,p.y,p.t,p.lx,p.ly] 42)).alloc (.cells #[.slice a4 cols.length c4,.slice a5 als.length c5] 91)) from X_);have r2:=q2.ext (show Ext (((w.alloc (.cells (sA_ s a1 c1 a2 c2 (some ⟨b,h6,none⟩) c3) 40)).alloc (.cells #[p.x,p.y,p.t,p.lx,p.ly] 42)).alloc (.cells #[.slice a4 cols.length c4,.slice a5 als.length c5] 91)) (((w.alloc (.cells (sA_ s a1 c1 a2 c2 (some ⟨b,h6,none⟩) c3) 40)).alloc (.cells #[p.x,p.y,p.t,p.lx,p.ly] 42)).alloc (.cells #[.slice a4 cols.length c4,.slice a5 als.length c5] 91)) from X_)
 have z3:(((w.alloc (.cells (sA_ s a1 c1 a2 c2 (some ⟨b,h6,none⟩) c3) 40)).alloc (.cells #[p.x,p.y,p.t,p.lx,p.ly] 42)).alloc (.cells #[.slice a4 cols.length c4,.slice a5 als.length c5] 91)).heap.size=w.heap.size+3:=by simp
 have HC:=hid hC;have HA:=hid hA;have g0:=hid hc;have e9:=hid ha;have HP:=hid hp
 have ht:0<=p.t/\p.t<=16:=by
  unfold Smp.okB at hp;simp only [aRd,aG] at hp;omega
 have HT:=hid ht;have b6:=hid hlc;have b3:=hid hla;clear hlc hla q0 q1 q2 hC hA hc ha hp ht h0 hF hv b0 hr;rw [hf,hg,xN];have z5:=aEa (c:=s.c) (f:=aY f g p.t) (n:=n) (s:=p) hn.1;have z1:=sA s.c (aY f g p.t) p hn.2
 obtain ⟨M,h9⟩:=e_ (jZ s.c (aY f g p.t) n p)
 rw [h9] at z5 z1 ⊢;have d1:=hid z5;have b8:=hid z1;have b9:=hid h9;clear hf hg z5 z1 h9;go_enter func58,ntmps58;go_upto_region 1 with fail
 obtain ⟨W0,q9⟩:=e_ (((w.alloc (.cells (sA_ s a1 c1 a2 c2 (some ⟨b,h6,none⟩) c3) 40)).alloc (.cells #[p.x,p.y,p.t,p.lx,p.ly] 42)).alloc (.cells #[.slice a4 cols.length c4,.slice a5 als.length c5] 91))
 rw [q9] at q5 r0 r1 r2 z3 xw
 try simp only [aQy] at q9
 rw [q9];clear q9
 have bl:b<W0.heap.size:=by omega
 have d0:=r0.cell 10 rfl;have l0:=r0.lt;have R0:=hid r0;have R1:=hid r1;have R2:=hid r2;have XW:=hid xw;have Z3:=hid z3;clear r0 r1 r2 xw z3
 go_cut [9,10] from 16 to 21 (fun r q wx=>∃A,q = .pointer (some ⟨A,0,none⟩)/\Ext W0 wx/\W0.heap.size<=A/\Blk wx A 127 [(f 0),(f 1),(f 2),(f 3),(f 4),(f 5),(f 6),(f 7),(f 8),(f 9),(f 10),(f 11),(g 0),(g 1),(g 2),(g 3),(g 4),(g 5),(g 6),(g 7),(g 8),(g 9),(g 10),(g 11),sh,(n:Nat)]/\aF aO.cs W0.heap.size 95 5 wx r [])
 case first=>
  refine cZ 8 W0.heap.size (by kernel_rfl) ?_;refine aZ (fuel:=3) [1,2,3,4,5] [0,6] (by kernel_rfl) (fun b _ hb=>rfl) ?_
  try simp only [Act.put,aQ4,aRc,aRb]
  simp only [aRm,aRg,aQ1,aQw,aQx]
  show wpQuiet _ _ _ _ [_,_,_,_,_] _
  go_big_quiet_step (fail)
  go_big_quiet_step (fail)
  go_big_quiet_step (fail)
  go_big_quiet_step (fail)
  refine eN rfl _ _ rfl b (h6+k*26) rfl [(f 0),(f 1),(f 2),(f 3),(f 4),(f 5),(f 6),(f 7),(f 8),(f 9),(f 10),(f 11),(g 0),(g 1),(g 2),(g 3),(g 4),(g 5),(g 6),(g 7),(g 8),(g 9),(g 10),(g 11),sh,(n:Nat)] _ (by rintro _ ⟨d,rfl⟩ j v hj;rw [jD _ _ _ _ bl];exact q5 j v hj) underlying127 rfl fQ ?_
  try simp only [Act.put,aQ4,aRc,aRb]
  refine wpQuiet_nil ?_;intro e he;simp only [aRk,aRe,or_false] at he
  rcases he with rfl|rfl
  ·(unfold bU;simp only [aQ1,aQx,aQw,aQ0];refine ⟨_,rfl,fun K hK=>?_⟩)
   go_wp2;have y1:Ext W0 (W0.drew.alloc (.cells #[] 95)):=X_;refine hK _ _ (.inr (fun b _ hb=>y1.block (by omega))) ?_;clear hK K;refine aZ (fuel:=2) [] [6] (by kernel_rfl) (fun b _ hb=>y1.block (by omega)) ?_;refine wpQuiet_nil ?_;intro e he;simp only [aRk,aRe,or_false] at he;subst he
   (unfold bU;simp only [aQ1,aQx,aQw,aQ0];refine ⟨_,rfl,fun K hK=>?_⟩)
   go_wp2;have y2:Ext W0 ((W0.drew.alloc (.cells #[] 95)).alloc (.cells #[(),(),(),(),(),(),(),(),(),(),(),(),(),(),(),(),(),(),(),(),(),(),(),(),(),()] 127)):=X_
   have bF:Blk ((W0.drew.alloc (.cells #[] 95)).alloc (.cells #[(),(),(),(),(),(),(),(),(),(),(),(),(),(),(),(),(),(),(),(),(),(),(),(),(),()] 127)) (W0.heap.size) 95 []:=by exact (aQ8 W0.drew 95 []).alloc (.cells #[(),(),(),(),(),(),(),(),(),(),(),(),(),(),(),(),(),(),(),(),(),(),(),(),(),()] 127)
   have bS:Blk ((W0.drew.alloc (.cells #[] 95)).alloc (.cells #[(),(),(),(),(),(),(),(),(),(),(),(),(),(),(),(),(),(),(),(),(),(),(),(),(),()] 127)) (W0.heap.size+1) 127 [(),(),(),(),(),(),(),(),(),(),(),(),(),(),(),(),(),(),(),(),(),(),(),(),(),()]:=by have q:=aQ8 (W0.drew.alloc (.cells #[] 95)) 127 [(),(),(),(),(),(),(),(),(),(),(),(),(),(),(),(),(),(),(),(),(),(),(),(),(),()];rw [aQy] at q;exact q
   refine hK _ _ (.inr (fun b _ hb=>y2.block (by omega))) ?_;clear hK K;refine aZ (fuel:=0) [7] [8] (by kernel_rfl) (fun b _ hb=>y2.block (by omega)) ?_
   try simp only [Act.put,aQ4,aRc,aRb]
   simp only [aRm,aRg,aQ1,aQw,aQx]
   show wpQuiet _ _ _ _ [_] _
   repeat (go_big_quiet_step (fail))
   refine wpQuiet_nil ?_;intro e he;simp only [aRk,aRe,or_false] at he;subst he
   (unfold bU;simp only [aQ1,aQx,aQw,aQ0];refine ⟨_,rfl,fun K hK=>?_⟩)
   try simp only [aQy,World.drew_heap]
   refine wpList_store_rowTo rfl _ _ _ rfl rfl (W0.heap.size+1) #[(f 0),(f 1),(f 2),(f 3),(f 4),(f 5),(f 6),(f 7),(f 8),(f 9),(f 10),(f 11),(g 0),(g 1),(g 2),(g 3),(g 4),(g 5),(g 6),(g 7),(g 8),(g 9),(g 10),(g 11),sh,(n:Nat)] rfl rfl 127 _ bS fQ rfl (by rw [List.all_toArray];rfl) ?_;go_wp2;refine l_ hK ?_;clear hK K;refine bX (by kernel_rfl) ?_;go_wp2_with fail
   go_meet
   exact ⟨W0.heap.size+1,rfl,y2.setRow (by omega) _,by omega,bS.row [(f 0),(f 1),(f 2),(f 3),(f 4),(f 5),(f 6),(f 7),(f 8),(f 9),(f 10),(f 11),(g 0),(g 1),(g 2),(g 3),(g 4),(g 5),(g 6),(g 7),(g 8),(g 9),(g 10),(g 11),sh,(n:Nat)],aF.fresh0 (by omega) (bF.otherRow (by omega) _)⟩
  ·(unfold bU;simp only [aQ1,aQx,aQw,aQ0];refine ⟨_,rfl,fun K hK=>?_⟩)
   go_wp2;have y1:Ext W0 (W0.drew.alloc (.cells #[(),(),(),(),(),(),(),(),(),(),(),(),(),(),(),(),(),(),(),(),(),(),(),(),(),()] 127)):=X_;refine hK _ _ (.inr (fun b _ hb=>y1.block (by omega))) ?_;clear hK K;refine aZ (fuel:=2) [] [0] (by kernel_rfl) (fun b _ hb=>y1.block (by omega)) ?_;refine wpQuiet_nil ?_;intro e he;simp only [aRk,aRe,or_false] at he;subst he
   (unfold bU;simp only [aQ1,aQx,aQw,aQ0];refine ⟨_,rfl,fun K hK=>?_⟩)
   go_wp2;have y2:Ext W0 ((W0.drew.alloc (.cells #[(),(),(),(),(),(),(),(),(),(),(),(),(),(),(),(),(),(),(),(),(),(),(),(),(),()] 127)).alloc (.cells #[] 95)):=X_
   have bF:Blk ((W0.drew.alloc (.cells #[(),(),(),(),(),(),(),(),(),(),(),(),(),(),(),(),(),(),(),(),(),(),(),(),(),()] 127)).alloc (.cells #[] 95)) (W0.heap.size+1) 95 []:=by have q:=aQ8 (W0.drew.alloc (.cells #[(),(),(),(),(),(),(),(),(),(),(),(),(),(),(),(),(),(),(),(),(),(),(),(),(),()] 127)) 95 [];rw [aQy] at q;exact q
   have bS:Blk ((W0.drew.alloc (.cells #[(),(),(),(),(),(),(),(),(),(),(),(),(),(),(),(),(),(),(),(),(),(),(),(),(),()] 127)).alloc (.cells #[] 95)) (W0.heap.size) 127 [(),(),(),(),(),(),(),(),(),(),(),(),(),(),(),(),(),(),(),(),(),(),(),(),(),()]:=by exact (aQ8 W0.drew 127 [(),(),(),(),(),(),(),(),(),(),(),(),(),(),(),(),(),(),(),(),(),(),(),(),(),()]).alloc (.cells #[] 95)
   refine hK _ _ (.inr (fun b _ hb=>y2.block (by omega))) ?_;clear hK K;refine aZ (fuel:=0) [7] [8] (by kernel_rfl) (fun b _ hb=>y2.block (by omega)) ?_
   try simp only [Act.put,aQ4,aRc,aRb]
   simp only [aRm,aRg,aQ1,aQw,aQx]
   show wpQuiet _ _ _ _ [_] _
   repeat (go_big_quiet_step (fail))
   refine wpQuiet_nil ?_;intro e he;simp only [aRk,aRe,or_false] at he;subst he
   (unfold bU;simp only [aQ1,aQx,aQw,aQ0];refine ⟨_,rfl,fun K hK=>?_⟩)
   try simp only [aQy,World.drew_heap]
   refine wpList_store_rowTo rfl _ _ _ rfl rfl (W0.heap.size) #[(f 0),(f 1),(f 2),(f 3),(f 4),(f 5),(f 6),(f 7),(f 8),(f 9),(f 10),(f 11),(g 0),(g 1),(g 2),(g 3),(g 4),(g 5),(g 6),(g 7),(g 8),(g 9),(g 10),(g 11),sh,(n:Nat)] rfl rfl 127 _ bS fQ rfl (by rw [List.all_toArray];rfl) ?_;go_wp2;refine l_ hK ?_;clear hK K;refine bX (by kernel_rfl) ?_;go_wp2_with fail
   go_meet
   exact ⟨W0.heap.size,rfl,y2.setRow (by omega) _,by omega,bS.row [(f 0),(f 1),(f 2),(f 3),(f 4),(f 5),(f 6),(f 7),(f 8),(f 9),(f 10),(f 11),(g 0),(g 1),(g 2),(g 3),(g 4),(g 5),(g 6),(g 7),(g 8),(g 9),(g 10),(g 11),sh,(n:Nat)],aF.fresh0 (by omega) (bF.otherRow (by omega) _)⟩
 case rest=>
  obtain ⟨A,rfl,xa,d8,bS,hO⟩:=hcut;have HS:=hid bS;have HO:=hid hO;have HX:=hid xa;have lA:=bS.lt;have la:=xa.size;have d3:=bS.cell 25 rfl
  have a7:wc.rangeAt A 0 [(f 0),(f 1),(f 2),(f 3),(f 4),(f 5),(f 6),(f 7),(f 8),(f 9),(f 10),(f 11),(g 0),(g 1),(g 2),(g 3),(g 4),(g 5),(g 6),(g 7),(g 8),(g 9),(g 10),(g 11),sh,(n:Nat)]:=fun j v hj=>by rw [aRt];exact bS.cell j hj
  have e0:=R0.ext xa;have e1:=R1.ext xa;obtain ⟨m0,m1,m2,m3,m4,m5,m6⟩:=e0.q7;have s2:=e1.cell 2 rfl;have s3:=e1.cell 3 rfl;have s4:=e1.cell 4 rfl;have l1:=e0.lt;have l2:=e1.lt;clear e0 e1 bS hO xa d0 l0 q5 R0;go_upto_region 2 with fail;refine aA [([0,1,2,3,4,6,7,8,9,10,11,14],5),([],12),([],13)] 99 wc.heap.size (by kernel_rfl) (by kernel_rfl) ?_;refine aI ?_;simp only [aRm,aRg,aQ1,aQw,aQx]
  show wpQuiet _ _ _ _ [_,_,_,_,_,_,_,_,_,_,_,_] _
  go_big_quiet_step (fail)
  go_big_quiet_step (fail)
  refine eN rfl _ _ rfl A 0 rfl [(f 0),(f 1),(f 2),(f 3),(f 4),(f 5),(f 6),(f 7),(f 8),(f 9),(f 10),(f 11),(g 0),(g 1),(g 2),(g 3),(g 4),(g 5),(g 6),(g 7),(g 8),(g 9),(g 10),(g 11),sh,(n:Nat)] _ (by rintro _ ⟨d,rfl⟩ j v hj;rw [jD _ _ _ _ lA];exact a7 j v hj) underlying127 rfl fQ ?_
  try simp only [Act.put,aQ4,aRc,aRb]
  repeat (go_big_quiet_step (fail))
  refine wpQuiet_nil ⟨_,rfl,fun K hK=>?_⟩;go_wp2_with fail;refine r_ (wK f g sh (n:Nat) p.t HT _) fun w5 x5=>?_;have y5:Ext wc w5:=aQ3 (aRz (aQ6 _)) x5;go_wp2_with fail;refine k_ hK ?_;clear hK K;refine st_ fun K hK=>?_;go_wp2_with fail;refine (wL s.c (aY f g p.t) n p hn _).mono ?_;rintro e w6 ⟨r',rfl,hM,x6⟩;rw [b9] at hM;have y6:=y5.trans x6;obtain ⟨ta,tc,rfl,e8⟩:=aF.form hM;go_wp2_with fail;refine k_ hK ?_;clear hK K;refine st_ fun K hK=>?_;go_wp2_with fail;refine k_ hK ?_;clear hK K;refine aC ?_;go_wp2_with fail;have y0:=hid (hM.low (lo':=W0.heap.size) (by have:=y5.size;omega));have z8:=hid (HO.ext y6);have y4:=hid (HX.trans y6);clear hM y5 y6 x5 x6 a7 HS HO HX d3 m0 m1 m2 m3 m4 m5 m6 s2 s3 s4 lA la l1 l2 d8
  have hs:(-100000<=p.x/\p.x<=100000)/\(-100000<=p.y/\p.y<=100000):=by
   have hq:=HP.out;unfold Smp.okB at hq;simp only [aRd,aG] at hq;obtain ⟨⟨⟨⟨⟨q1,q2⟩,q3⟩,-⟩,-⟩,-⟩:=hq;have h1:=(Cam.okB_iff.1 q1).w;have h2:=(Cam.okB_iff.1 q1).h;omega
  have y8:=hid hs;clear hs
  go_loopw [9,36] (fun v i wr=>∃j:Nat,j<=M.length/\i = .int .i64 (j:Nat)/\Ext W0 wr/\aF Mc.cs W0.heap.size 155 12 wr (.slice ta M.length tc) M/\aF aO.cs W0.heap.size 95 5 wr v (aCd p (k:Nat) cols als M j)) (fun _ i _=>M.length - (intOf i).toNat)
  case atStart=>exact ⟨0,by omega,rfl,y4,y0,z8⟩
  case round=>
   obtain ⟨j,hj,rfl,hx,hm,ho⟩:=hrel;have q8:=hid hx;have z9:=hid hm;have x2:=hid ho;clear y4 y0 z8
   rcases aSd j M.length with hlt|hge
   ·obtain ⟨m,x0⟩:∃m,M[j]?=some m:=⟨_,aQ9 hlt⟩
    have h3:=d1.out m (aRn x0);obtain ⟨gm,cap,he,-,d7,x4,d6,-,h0⟩:=aF.at hm (fun _=>rfl) x0;simp only [aRo,true_and] at he;obtain ⟨rfl,rfl⟩:=he;have c0:=h0 0 (by decide);have c1:=h0 1 (by decide);have c2:=h0 2 (by decide);have c3:=h0 3 (by decide);have c4:=h0 4 (by decide);have c5:=h0 5 (by decide);have c6:=h0 6 (by decide);have c7:=h0 7 (by decide);have c8:=h0 8 (by decide);have c9:=h0 9 (by decide);have y9:=h0 10 (by decide);have a0:=h0 11 (by decide);simp only [Mc.cs,aIs,aSk,aQw,aQx] at c0 c1 c2 c3 c4 c5 c6 c7 c8 c9 y9 a0;have e1:=R1.ext hx;obtain ⟨s0,s1⟩:=e1.q2;have l1:=e1.lt;have y3:=hid x0;clear hx hm ho h0 x0 e1;go_wp2_with fail
    by_cases h7:qO m.a m.b m.d p.at=true
    ·refine (aDo m.a.x m.a.y m.a.z m.b.x m.b.y m.b.z m.d.x m.d.y m.d.z h3.a h3.b h3.d h3.z p.x p.y y8 h7 (r:=eC m.a m.b m.d p.at) rfl _).mono ?_
     rintro e w7 ⟨rfl,x7⟩;have y7:Ext wr w7:=aQ3 (show Ext wr (wr.alloc (.cells #[m.a.x,m.a.y,m.a.z,m.b.x,m.b.y,m.b.z,m.d.x,m.d.y,m.d.z,m.u,m.v,m.n] 155)) from X_) x7;have hX:=hid (q8.trans y7);have h9:=hid (z9.ext y7);have x8:=hid (x2.ext y7);have q4:=(aQ8 wr 155 [m.a.x,m.a.y,m.a.z,m.b.x,m.b.y,m.b.z,m.d.x,m.d.y,m.d.z,m.u,m.v,m.n]).ext x7;have k9:=q4.cell 9 rfl;have g8:=q4.cell 10 rfl;have g9:=q4.cell 11 rfl;have kl:=q4.lt;have e2:=R2.ext (q8.trans y7);obtain ⟨t0,t1⟩:=e2.q2;have tl:=e2.lt;obtain ⟨u,vv,hu,z7,z4,lu,lv⟩:=h3.q
     have e7:vv*n+u<n*n:=by
      have h:=aSq n (show vv+1<=n by omega);rw [aTf,aTh] at h;omega
     have z2:n*n<=64:=aRy hn.2 hn.2
     obtain ⟨q,hq⟩:=e_ (vv*n+u:Nat)
     have x3:m.v*m.n+m.u=(q:Nat):=by rw [hu,z7,z4,<-hq,aS6,aUb]
     obtain ⟨pr,x1⟩:=e_ (m.v*m.n)
     have z6:pr=((vv*n:Nat):Int):=by rw [<-x1,z7,z4,aUb]
     have i0:wrap64 (m.v*m.n)=pr:=by rw [x1];exact aD (by omega) (by omega)
     have i1:wrap64 (pr+m.u)=(q:Nat):=by rw [<-x1,x3];exact aD (by omega) (by omega)
     have a8:q<cols.length:=by rw [b6];omega
     have a9:q<als.length:=by rw [b3];omega
     obtain ⟨b4,o4,rfl,-,h4,ct⟩:=HC.at a8;obtain ⟨b5,o5,rfl,-,h5,dt⟩:=HA.at a9;have xt:=XW.trans hX.out;have d4:=(xt.cells.1 b4 _ h4).trans ct;have d5:=(xt.cells.1 b5 _ h5).trans dt
     obtain ⟨cv,z0⟩:=e_ (cols[q])
     obtain ⟨av,x9⟩:=e_ (als[q])
     rw [z0] at d4;rw [x9] at d5
     have e6:=hid (show qY p (k:Nat) cols als m=[⟨eC m.a m.b m.d p.at,(k:Nat),(q:Nat),cv,av⟩] by
      unfold qY;rw [if_pos h7,x3,aRr,aRs,aRs,aQ9 a8,aQ9 a9,z0,x9]
      rfl)
     have z3:=Z3.out
     have g4:b4<W0.heap.size:=by omega
     have g5:b5<W0.heap.size:=by omega
     have g6:w.heap.size+1+1<W0.heap.size:=by omega
     clear z3 h7 q4 e2 y7 x7 hu z7 z4 lu lv e7 z2 hq x3 x1 z6 ct dt z0 x9 xt h4 h5 h3 c0 c1 c2 c3 c4 c5 c6 c7 c8 c9 y9 a0 s0 s1 l1 d7 x4 d6;go_wp2_with fail;refine aJ [([0,1,2,3,4,5,6,7,8,9,10,11,12,13,14],15),([],16),([],17)] 17 (fun w'=>∃d,w'=fU (CHt W0.heap.size) _ d) (by kernel_rfl) (by kernel_rfl) (aTr _ _) ?_;refine sc_ fun K hK=>?_;go_wp2_with fail;have b1:=hX.out.size;refine hK _ _ (.inr (aR6 fun a ha=>aRa (w:=w7) X_ (aSf ha b1))) ?_;clear hK K;have HB:=hid (aQ8 w7.drew 95 [(eC m.a m.b m.d p.at),(k:Nat),(q:Nat),cv,av]);have a6:=hid (x8.out.ext (show Ext w7 (w7.drew.alloc (.cells #[(eC m.a m.b m.d p.at),(k:Nat),(q:Nat),cv,av] 95)) from X_));have e3:=hid (h9.out.ext (show Ext w7 (w7.drew.alloc (.cells #[(eC m.a m.b m.d p.at),(k:Nat),(q:Nat),cv,av] 95)) from X_));have e4:=hid (hX.out.trans (show Ext w7 (w7.drew.alloc (.cells #[(eC m.a m.b m.d p.at),(k:Nat),(q:Nat),cv,av] 95)) from X_));have g3:=uM p (k:Nat) cols als M j;refine sc_ fun K hK=>?_
     refine iF _ rfl _ _ rfl W0.heap.size _ _ rfl a6.out ⟨eC m.a m.b m.d p.at,(k:Nat),(q:Nat),cv,av⟩ w7.heap.size rfl (fun q hq=>by
       rcases (show q=0\/q=1\/q=2\/q=3\/q=4 by omega) with rfl|rfl|rfl|rfl|rfl
       ·exact HB.cell 0 rfl
       ·exact HB.cell 1 rfl
       ·exact HB.cell 2 rfl
       ·exact HB.cell 3 rfl
       ·exact HB.cell 4 rfl) (by have:=b8.out;omega) (by simp;omega) ?_
     intro v2 w9 q6 hg;have h8:=aF.rowE a6.out;have b2:=hid q6;have d2:=hid (aR7 e4.out hg (fun k e=>(h8 k e).1));have b7:=hid (e3.out.grownE hg (by decide) (fun k e=>(h8 k e).2));have d9:=hid (fun a:Addr=>fun ha:CHt W0.heap.size a=>show w9.heap[a.block]?=w7.drew.heap[a.block]? from (hg.block _ (by have:a.block<W0.heap.size:=ha;simp;omega) (fun e=>by have h1:=(h8 _ e.symm).1;have h2:a.block<W0.heap.size:=ha;omega)).trans (aRa (w:=w7) X_ (aSf ha b1)));clear q6 hg h8;go_wp2_with fail;refine hK _ _ (.inr (aR6 fun a ha=>d9.out a ha)) ?_;clear hK K;refine sc_ fun K hK=>?_;go_wp2_with fail;refine l_ hK ?_;clear hK K;refine aP ?_;go_wp2;go_roundw
     case rel=>exact ⟨j+1,by omega,by go_num,d2,b7,by rw [mA y3,e6.out];exact b2⟩
     case measure=>simp [intOf];omega
    ·refine (aFx m.a.x m.a.y m.a.z m.b.x m.b.y m.b.z m.d.x m.d.y m.d.z h3.a h3.b h3.d h3.z p.x p.y y8 (Bool.eq_false_iff.2 h7) _).mono ?_
     rintro e w7 ⟨rfl,x7⟩;have y7:Ext wr w7:=aQ3 (show Ext wr (wr.alloc (.cells #[m.a.x,m.a.y,m.a.z,m.b.x,m.b.y,m.b.z,m.d.x,m.d.y,m.d.z,m.u,m.v,m.n] 155)) from X_) x7;have hX:=hid (q8.trans y7);have h9:=hid (z9.ext y7);have x8:=hid (x2.ext y7);go_wp2;go_roundw
     case rel=>exact ⟨j+1,by omega,by go_num,hX.out,h9.out,by rw [mA y3];unfold qY;rw [if_neg h7,aTo];exact x8.out⟩
     case measure=>simp [intOf];omega
   ·obtain rfl:j=M.length:=by omega
    go_wp2;go_ret;refine ⟨_,rfl,?_,XW.trans q8⟩;rw [<-aEb];exact aF.low x2 (by have:=Z3.out;omega)
section
variable {P : Program}
theorem zM (w:World) (dT sT ty elem:TypeId) (g o dLen dCap:Nat) (a:Addr) (sLen sCap:Nat) (cur:Array Value) (t:TypeId) (cs:List Value) (k m:Nat)
  (hu:P.underlying dT=some (.slice elem)) (hs:(P.info? elem).map (·.size)=some k)
  (hg:w.heap[g]?=some (.cells cur t (0,0))) (hm:m=Nat.min sLen dLen) (hn:cs.length=m*k)
  (hsrc:∀j v,cs[j]?=some v->w.cell? (a.add j)=some v) (hfit:o+cs.length<=cur.size) (h1:∀v∈cs,v.oneCell'=true) :
  (Builtin.copy_ #[dT,sT] ty #[.slice (some ⟨g,o,none⟩) dLen dCap,.slice (some a) sLen sCap]).run P w =
   .ok (goInt m) (w.setRow g (cur.toList.take o++cs++cur.toList.drop (o+cs.length)).toArray):=by
 have hl:=run_loadCells_list (P:=P) w a cs hsrc;have h0:=run_storeCells_at P g o t cs 0 cur w hg (by simpa using hfit) h1
 cases hq:P.info? elem with
 | none=>simp [hq] at hs
 | some i=>
  have hi:i.size=k:=by simpa [hq] using hs
  rw [hn] at hl;simp [Builtin.copy_,run_underlying hu,Builtin.lenOf,Builtin.firstCells,sizeOf,typeInfo,hq,hi,<-hm,hl,h0]
theorem tN {w:World} {ops:Array Oper} {rest:List Oper} {o:Oper} {a:Act} {Q:Exit->Act->World->Prop} (hgd:o.guard=none) (d s:Operand) (dT sT:TypeId)
  (ho:o.op = .call { callee:=.builtin .copy,args:=#[d,s],argTypes:=#[dT,sT] }) (elem:TypeId) (k m:Nat) (hu:P.underlying dT=some (.slice elem)) (hsz:(P.info? elem).map (·.size)=some k)
  (g off dLen dCap:Nat) (ad:Addr) (sLen sCap:Nat) (hd:a.eval d = .slice (some ⟨g,off,none⟩) dLen dCap) (hs:a.eval s = .slice (some ad) sLen sCap)
  (cur:Array Value) (t:TypeId) (hg:w.heap[g]?=some (.cells cur t (0,0))) (cs:List Value) (hm:m=Nat.min sLen dLen) (hn:cs.length=m*k)
  (hsrc:∀j v,cs[j]?=some v->w.cell? (ad.add j)=some v) (hfit:off+cs.length<=cur.size) (h1:∀v∈cs,v.oneCell'=true)
  (h:wpList P ops Q rest (a.put o.dst (goInt m)) (w.setRow g (cur.toList.take off++cs++cur.toList.drop (off+cs.length)).toArray)):wpList P ops Q (o::rest) a w:=by
 refine wpList_plain hgd fun K hK=>?_;have h0:=zM (P:=P) w dT sT o.type elem g off dLen dCap ad sLen sCap cur t cs k m hu hsz hg hm hn hsrc hfit h1;unfold Oper.wp;simp only [execOp,ho,resolve,invoke,builtin,Sem.run_bind,Sem.run_pure,Result.andThen_ok,aYu,aS4,aV7,hd,hs,h0];exact hK _ _ h
theorem sB (w:World) (g:Nat) (cs:Array Value):w.grownBy (w.setRow g cs) (some g):=⟨rfl,rfl,rfl,by simp,fun k _ hk=>setRow_other w g k _ (fun e=>hk (by simp [e]))⟩
theorem mB {w:World} {ops:Array Oper} {rest:List Oper} {o:Oper} {a:Act} {Q:Exit->Act->World->Prop} (hgd:o.guard=none) (d s:Operand) (dT sT:TypeId)
  (ho:o.op = .call { callee:=.builtin .copy,args:=#[d,s],argTypes:=#[dT,sT] }) (elem:TypeId) (k m:Nat) (hu:P.underlying dT=some (.slice elem)) (hsz:(P.info? elem).map (·.size)=some k)
  (g off dLen dCap:Nat) (ad:Addr) (sLen sCap:Nat) (hd:a.eval d = .slice (some ⟨g,off,none⟩) dLen dCap) (hs:a.eval s = .slice (some ad) sLen sCap)
  (cur:Array Value) (t:TypeId) (hg:w.heap[g]?=some (.cells cur t (0,0))) (cs:List Value) (hm:m=Nat.min sLen dLen) (hn:cs.length=m*k)
  (hsrc:∀j v,cs[j]?=some v->w.cell? (ad.add j)=some v) (hfit:off+cs.length<=cur.size) (h1:∀v∈cs,v.oneCell'=true)
  (h:∀w',w'.heap[g]?=some (.cells (cur.toList.take off++cs++cur.toList.drop (off+cs.length)).toArray t (0,0))->w.grownBy w' (some g)->wpList P ops Q rest (a.put o.dst (goInt m)) w'):wpList P ops Q (o::rest) a w:=
 tN hgd d s dT sT ho elem k m hu hsz g off dLen dCap ad sLen sCap hd hs cur t hg cs hm hn hsrc hfit h1 (h _ (setRow_heap w g cur _ t _ hg) (sB w g _))
end
theorem sC (g:Nat) (t:TypeId):∀(vs:List Value) (o:Nat) (cur:List Value) (w:World),w.heap[g]?=some (.cells cur.toArray t (0,0))->o+vs.length<=cur.length ->
  w.setCells g o vs=w.setRow g (cur.take o++vs++cur.drop (o+vs.length)).toArray
 | [],o,cur,w,hg,_=>by
  simp only [World.setCells,aTo,aS7,aSk,aU3];rw [setRow_self w g cur.toArray t (0,0) hg]
 | v::rest,o,cur,w,hg,hl=>by
  have hi:o<cur.length:=by simp at hl;omega
  have e1:w.setCell ⟨g,o,none⟩ v=w.setRow g (cur.set o v).toArray:=by
   have:=setCell_eq_setRow w g o cur.toArray t (0,0) v hg
   simpa using this
  have ih:=sC g t rest (o+1) (cur.set o v) (w.setRow g (cur.set o v).toArray) (by have:=setRow_heap w g cur.toArray (cur.set o v).toArray t _ hg;exact this) (by simp at hl ⊢;omega);unfold World.setCells;rw [e1,ih,setRow_setRow]
  congr 2
  rw [List.take_set,List.drop_set,if_pos (by omega)];rw [aRv hi,List.set_append_right _ _ (by rw [aRp];omega)];simp only [aRp,aSc,aRx];rw [aTi (by omega),aY7];simp only [aRb,aV5,aSu];rw [show o+1+rest.length=o+(rest.length+1) by omega]
theorem aGn (fs:List aO) (p:Nat):(fs.take p).flatMap aO.cs=(fs.flatMap aO.cs).take (p*5):=by
 induction fs generalizing p with
 | nil=>simp
 | cons y l ih=>
  cases p with
  | zero=>simp
  | succ p=>
   rw [List.take_succ_cons,aS0,aS0,ih,aXf,show y.cs.length=5 from rfl,show (p+1)*5 - 5=p*5 by omega,aR3 (show y.cs.length<=(p+1)*5 by rw [show y.cs.length=5 from rfl];omega)]
theorem gM (fs:List aO):(fs.flatMap aO.cs).length=fs.length*5:=gH (sz:=5) (fun _=>rfl) fs
theorem aOo {fs:List aO} {x:aO} (hp:p<=fs.length) (ht:L.take ((fs.length+1)*5)=(fs++[x]).flatMap aO.cs):∀j v,((fs.drop p).flatMap aO.cs)[j]?=some v->L[p*5+j]?=some v:=by
 intro j v h;have hj:=(aQz.1 h).1;rw [gM,aTu] at hj
 have e:(L.take ((fs.length+1)*5))[p*5+j]?=L[p*5+j]?:=by
  rw [aS1,if_pos (by omega)]
 have l1:((fs.take p).flatMap aO.cs).length=p*5:=by rw [gM,aRp];omega
 rw [<-e,ht,aSa]
 conv=>lhs;rw [<-aU3 p fs]
 rw [aSa,aRx,aR0 (by omega),l1,Nat.add_sub_cancel_left,aSb (by rw [gM,aTu];exact hj)];exact h
theorem aLd {fs:List aO} {x:aO} (hp:p<=fs.length) (hL:(fs.length+1)*5<=L.length) (ht:L.take ((fs.length+1)*5)=(fs++[x]).flatMap aO.cs) {D C1:List Value}
  (hD:D=(fs.drop p).flatMap aO.cs) (h1:C1=L.take ((p+1)*5)++D++L.drop ((p+1)*5+D.length)) :
  (C1.take (p*5)++x.cs++C1.drop (p*5+x.cs.length)).take ((fs.length+1)*5)=(fs.take p++x::fs.drop p).flatMap aO.cs:=by
 have lx:x.cs.length=5:=rfl
 have lD:D.length=(fs.length - p)*5:=by rw [hD,gM,aTu]
 have l1:(L.take ((p+1)*5)).length=(p+1)*5:=by rw [aRp];omega
 have lA:((fs.take p).flatMap aO.cs).length=p*5:=by rw [gM,aRp];omega
 have eA:C1.take (p*5)=(fs.take p).flatMap aO.cs:=by
  have e2:(L.take ((fs.length+1)*5)).take (p*5)=L.take (p*5):=by rw [aYc,aTi (by omega)]
  rw [h1,aRx,aXf,l1,show p*5 - (p+1)*5=0 by omega,aW1,aTo,aYc,aTi (by omega),<-e2,ht,<-aGn,aXf,show p - fs.length=0 by omega,aW1,aTo]
 have eD:C1.drop (p*5+x.cs.length)=D++L.drop ((p+1)*5+D.length):=by
  rw [h1,aRx,List.drop_append,l1,lx,show p*5+5 - (p+1)*5=0 by omega,aWx,List.drop_of_length_le (by rw [l1];omega),aSu]
 rw [eA,eD,aSa,aS0,<-hD,aRx,<-aRx x.cs,<-aRx,aXf]
 have l3:((fs.take p).flatMap aO.cs++(x.cs++D)).length=(fs.length+1)*5:=by rw [aRq,aRq,lA,lx,lD];omega
 rw [l3,aY7,aW1,aTo,aR3 (by omega)]
structure aCe (lo:Nat) (w:World) (O:Nat) (fs:List aO) (v:Value):Prop where
 box:Blk w O 180 [v,.func (.func 174) #[] #[]]
 low:lo<=O
 row:aF aO.cs lo 95 5 w v fs
theorem aCe.ext {O:Nat} {fs:List aO} (h:aCe lo w O fs v) (x:Ext w w'):aCe lo w' O fs v:=⟨h.box.ext x,h.low,h.row.ext x⟩
theorem aF.rowF {α : Type} {cs : α->List Value} {xs:List α} (h:aF cs lo e sz w v xs):∀k,v.ownBlock=some k->lo<=k/\∃c,w.heap[k]?=some (.cells c e (0,0)):=by
 intro k hk
 rcases h.2 with ⟨rfl,h4⟩|⟨g,cap,cur,rfl,hb,hg,_⟩
 ·cases hk
 ·simp only [aRu,aQ0] at hk
  subst hk;exact ⟨hb,cur,hg⟩
theorem xO (x:aO):∀u∈x.cs,u.oneCell'=true:=by
 intro u hu;simp only [aO.cs,aRk,aRe,or_false] at hu
 rcases hu with rfl|rfl|rfl|rfl|rfl <;> rfl
theorem aJe (l:List aO):∀u∈l.flatMap aO.cs,u.oneCell'=true:=by
 intro u hu;obtain ⟨x,_,h⟩:=aVg.1 hu;exact xO x u h
theorem qZ:(Tryz.prog.info? 95).map (·.size)=some 5:=by kernel_rfl
def C3f (b c d:Nat):Addr->Prop:=fun a=>a.block=b\/a.block=c\/a.block=d
@[go_sem] theorem aQm (b c d o:Nat):C3f b c d ⟨b,o,none⟩:=.inl rfl
@[go_sem] theorem aQn (b c d o:Nat):C3f b c d ⟨c,o,none⟩:=.inr (.inl rfl)
@[go_sem] theorem aQo (b c d o:Nat):C3f b c d ⟨d,o,none⟩:=.inr (.inr rfl)
theorem xQ (w:World):Calls aQ2 112 #[] w fun e w'=>e = .returned (.pointer (some ⟨w.heap.size,0,none⟩))/\aCe w.heap.size w' w.heap.size [] (.slice none 0 0)/\Ext w w':=by
 go_enter func112,ntmps112;go_wp2;go_ret;exact ⟨rfl,⟨aQ8 w _ _,aQv _,aF.nil _ _ _ _ _⟩,X_⟩
section
variable {P : Program} {ops : Array Oper} {Q : Exit -> Act -> World -> Prop} {md : aU8} {S : World -> Prop} {y : Nat} {R : Array Bool -> Act -> World -> Prop}
def sD (md:aU8) (ops:Array Oper) (y i:Nat):Bool:=
 match ops[y]? with
 | none=>false
 | some o=>o.after.any fun e=>aVp md e&&e.on==i
theorem zN {i:Nat} (h:sD md ops y i=true) {listed:Array Bool} (hun:listed.getD i false=false):y∉aSm md ops listed:=by
 intro hz;obtain ⟨_,oz,h1,h0⟩:=mem_ready.1 hz;unfold sD at h;simp only [h1] at h;obtain ⟨e,he,hb⟩:=Array.any_eq_true'.1 h;simp only [aRd,beq_iff_eq] at hb;have h2:=h0 e he hb.1;rw [hb.2,hun] at h2;cases h2
def tO (P:Program) (md:aU8) (ops:Array Oper) (Q:Exit->Act->World->Prop) (S:World->Prop) (R:Array Bool->Act->World->Prop):Nat->Array Bool->Act->World->Prop
 | 0,listed,a,w=>R listed a w
 | fuel+1,listed,a,w=>
  (aSm md ops listed=[]->Q .normal a w) /\
  ∀i∈aSm md ops listed,wpOp P ops Q i (fun a' w'=>S w'/\tO P md ops Q S R fuel (listed.setIfInBounds i true) a' w') a w
theorem xS {g:Nat} (hR:∀l a w,R l a w->wpAny P md ops Q g l a w):∀(fuel:Nat) (listed:Array Bool) (a:Act) (w:World),tO P md ops Q S R fuel listed a w->wpAny P md ops Q (fuel+g) listed a w
 | 0,l,a,w,h=>by rw [aRt];exact hR l a w h
 | fuel+1,l,a,w,h=>by
  rw [Nat.succ_add];exact ⟨h.1,fun i hi=>wpOp_mono (fun a' w' h'=>xS hR fuel _ a' w' h'.2) (h.2 i hi)⟩
theorem sE {i:Nat} {oi:Oper} {v:Value} (hi:ops[i]?=some oi) (hy1:sD md ops y i=true) (hR:∀l a w,R l a w->aSm md ops l=[y]) (hsel:∀(j:Nat) (o:Oper) cs b,ops[j]?=some o->o.op≠.select cs b)
  (hQ:∀c a w,Q (.panic c) (a.put oi.dst v) w->Q (.panic c) a w) :
  ∀(fuel:Nat) (listed:Array Bool) (a:Act) (w:World),
   (∀j oj,ops[j]?=some oj->j≠i->listed.getD j true=false->(∀e∈oj.after,aVp md e=true->e.on≠i)->oi.apart ops oj=true) ->
   i∈aSm md ops listed->YieldsIf P ops S oi v a->S w ->
   tO P md ops Q S R fuel (listed.setIfInBounds i true) (a.put oi.dst v) w->tO P md ops Q S R (fuel+1) listed a w:=by
 intro fuel
 induction fuel with
 | zero=>
  intro listed a w _ hr hy hS H;refine ⟨fun h=>(by rw [h] at hr;cases hr),fun j hj=>?_⟩
  by_cases h4:j=i
  ·subst h4;exact hy.wpOp hi hS ⟨hS,H⟩
  ·have h6:listed.getD i false=false:=getD_both (mem_ready.1 hr).1
   have:=ready_mono hj h4;rw [hR _ _ _ H] at this;simp only [aRk,aRe,or_false] at this;exact absurd (this▸hj) (zN hy1 h6)
 | succ fuel ih=>
  intro listed a w h0 hr hy hS H;refine ⟨fun h=>(by rw [h] at hr;cases hr),fun j hj=>?_⟩
  by_cases h4:j=i
  ·subst h4;exact hy.wpOp hi hS ⟨hS,H⟩
  ·have h6:listed.getD i false=false:=getD_both (mem_ready.1 hr).1
   have h1:=H.2 j (ready_mono hj h4);obtain ⟨h7,oj,q0,h8⟩:=mem_ready.1 hj
   have h9:∀e∈oj.after,aVp md e=true->e.on≠i:=fun e he hb heq=>by
    have h1:=h8 e he hb;rw [heq,h6] at h1;cases h1
   have h2:=wpOp_putIf q0 (h0 j oj q0 h4 h7 h9) (fun cs b=>hsel i oi cs b hi) (fun cs b=>hsel j oj cs b q0) hQ hy h1
   have h5:∀k ok,ops[k]?=some ok->k≠i->(listed.setIfInBounds j true).getD k true=false ->
     (∀e∈ok.after,aVp md e=true->e.on≠i)->oi.apart ops ok=true:=fun k ok hk hki h6 hno=>by
    refine h0 k ok hk hki ?_ hno
    by_cases q2:j=k
    ·subst q2;exact h7
    ·rw [getD_set_ne true q2] at h6;exact h6
   refine wpOp_mono (fun a' w' h3=>?_) h2;have q1:S w':=h3.2.1;refine ⟨q1,ih (listed.setIfInBounds j true) a' w' h5 (ready_mono hr (Ne.symm h4)) h3.1 q1 ?_⟩;rw [Array.setIfInBounds_comm _ _ h4];exact h3.2.2
def eY (md:aU8) (ops:Array Oper) (z y:Nat):List (Bool×Nat)->Array Bool->Bool
 | [],listed=>aSm md ops listed==[y]
 | (true,i)::r,listed=>i != z&&sD md ops y i&&Region.free md ops listed i&&(aSm md ops listed).contains i&&eY md ops z y r (listed.setIfInBounds i true)
 | (false,i)::r,listed=>i != z&&(aSm md ops listed==[i])&&eY md ops z y r (listed.setIfInBounds i true)
def jK:List (Bool×Nat)->Array Bool->Array Bool
 | [],l=>l
 | (_,i)::r,l=>jK r (l.setIfInBounds i true)
theorem lF {z:Nat}:∀(plan:List (Bool×Nat)) (l:Array Bool),eY md ops z y plan l=true->aSm md ops (jK plan l)=[y]
 | [],l,h=>by simpa [eY,jK] using h
 | (true,i)::r,l,h=>by
  simp only [eY,aRd] at h;exact lF r _ h.2
 | (false,i)::r,l,h=>by
  simp only [eY,aRd] at h;exact lF r _ h.2
theorem gU {z:Nat} {C:Act->World->Prop} (hsel:aUc ops=true) (hQ:∀c a a' w,Q (.panic c) a w->Q (.panic c) a' w) :
  ∀(plan:List (Bool×Nat)) (listed:Array Bool) (a:Act) (w:World),eY md ops z y plan listed=true->S w->eT P ops (Exit.then C Q) S z plan a w->tO P md ops Q S (fun l a w=>l=jK plan listed/\C a w) plan.length listed a w
 | [],listed,a,w,hB,_,h=>⟨rfl,h⟩
 | (true,i)::r,listed,a,w,hB,hS,h=>by
  have hend:=lF _ _ hB;simp only [eY,aRd,bne_iff_ne] at hB;obtain ⟨⟨⟨⟨hiz,hw1⟩,hf⟩,hr⟩,hB'⟩:=hB;obtain ⟨o,ho,ht⟩:=h
  have hR:∀l a w,(l=jK ((true,i)::r) listed/\C a w)->aSm md ops l=[y]:=fun l a w k=>by rw [k.1];exact hend
  unfold vN at ht
  split at ht
  ·rename_i hw
   obtain ⟨v,hv,hK⟩:=ht
   exact sE ho hw1 hR (aTt hsel) (fun c a w=>hQ c _ _ w) r.length listed a w (aUf ho hf) (by simpa using hr) (.inl ⟨hw,hv⟩) hS
    (gU hsel hQ r _ _ _ hB' hS hK)
  ·rename_i hw
   exact sE ho hw1 hR (aTt hsel) (fun c a w=>hQ c _ _ w) r.length listed a w (aUf ho hf) (by simpa using hr) (.inr ⟨by simpa using hw,rfl⟩) hS
    (gU hsel hQ r _ _ _ hB' hS ht)
 | (false,i)::r,listed,a,w,hB,hS,h=>by
  simp only [eY,aRd,beq_iff_eq,bne_iff_ne] at hB;obtain ⟨⟨hiz,hr⟩,hB'⟩:=hB;obtain ⟨o,ho,ht⟩:=h;refine ⟨fun h0=>(by rw [hr] at h0;cases h0),fun j hj=>?_⟩;rw [hr] at hj
  obtain rfl:j=i:=by simpa using hj
  have h5:∀a' w',((j=z\/S w')/\eT P ops (Exit.then C Q) S z r a' w')->(S w'/\tO P md ops Q S (fun l a w=>l=jK r (listed.setIfInBounds j true)/\C a w) r.length (listed.setIfInBounds j true) a' w'):=fun a' w' ⟨k1,k2⟩=>
   ⟨k1.resolve_left hiz,gU hsel hQ r _ _ _ hB' (k1.resolve_left hiz) k2⟩
  unfold wpOp;simp only [ho];unfold wpList at ht
  split
  ·rename_i hw
   rw [if_pos hw] at ht
   rcases ht with ht|⟨h1,h2⟩
   ·refine .inl ?_
    unfold Oper.wp at ht
    have h3:o.upon P a (wpList P ops (Exit.then (fun a' w'=>(j=z\/S w')/\eT P ops (Exit.then C Q) S z r a' w') (Exit.then C Q)) []) Q ((execOp a.eval o).run P w):=by
     cases h6:(execOp a.eval o).run P w with
     | ok n w'=>rw [h6] at ht;cases n <;> exact ht
     | halt x w'=>rw [h6] at ht;cases x <;> exact ht
    have h4:o.wp P a w (wpList P ops (Exit.then (fun a' w'=>(j=z\/S w')/\eT P ops (Exit.then C Q) S z r a' w') (Exit.then C Q)) []) Q:=h3;exact Oper.wp_mono (fun a' w' hk=>h5 a' w' hk) h4
   ·exact .inr ⟨h1,h2⟩
  ·rename_i hw
   rw [if_neg hw] at ht;exact h5 _ _ ht
end
def aEd (ops:Array Oper) (y:Nat) (st1 st2:List (List Nat×Nat)):Bool:=
 aUc ops&&fI .any ops 99&&eY .any ops 99 y (bW st1) (aU4 ops.size false)&&gP .any ops 99 (bW st2) (jK (bW st1) (aU4 ops.size false))&&lQ ops st1&&lQ ops st2&&((bW st1).length+(bW st2).length==ops.size)
theorem tP {P:Program} {Q:Exit->Act->World->Prop} {id:Nat} {a:Act} {w:World} {l:List Oper} (st1 st2:List (List Nat×Nat)) (y:Nat) (S1:World->Prop) (hm:P.follows .mixedOrders=true)
  (hB:aEd l.toArray y st1 st2=true) (hS:S1 w.drew)
  (h:cH P l.toArray (Exit.then (fun a w=>∃S2:World->Prop,S2 w/\cH P l.toArray (NoPanic Q) S2 99 st2 a w) (NoPanic Q)) S1 99 st1 a w.drew):(Code.region id l.toArray true).wp P Q a w:=by
 unfold aEd at hB;simp only [aRd,beq_iff_eq] at hB;obtain ⟨⟨⟨⟨⟨⟨h1,h2⟩,h3⟩,h4⟩,h5⟩,h6⟩,h7⟩:=hB;refine wp_region_noPanic (wp_region_any hm ?_);have hp:=gG st1 a w.drew h5 h;have hE:=gU h1 (fun c a a' w k=>k) _ _ a w.drew h3 hS hp
 have hA:=xS (g:=(bW st2).length) (fun l' a w hk=>by
  obtain ⟨rfl,S2,h0,h8⟩:=hk
  exact hH _ _ _ _ (fJ h1 h2 (fun c a a' w k=>k) _ _ a w h4 (fun _ _=>h0) (gG st2 a w h6 h8))) _ _ _ _ hE
 rw [h7] at hA
 simpa using hA
theorem aEe {P:Program} {ops:Array Oper} {Q:Exit->Act->World->Prop} {S:World->Prop} {C:Act->World->Prop} {a:Act} {w:World} (h:C a w):cH P ops (Exit.then C Q) S 99 [] a w:=h
theorem aCf {P:Program} {ops:Array Oper} {Q:Exit->Act->World->Prop} {st:List (List Nat×Nat)} {a:Act} {w:World} (h:cH P ops Q (fun _=>True) 99 st a w):∃S2:World->Prop,S2 w/\cH P ops Q S2 99 st a w:=⟨_,trivial,h⟩
theorem aM6 {i:Nat} (h:i<12):i=0\/i=1\/i=2\/i=3\/i=4\/i=5\/i=6\/i=7\/i=8\/i=9\/i=10\/i=11:=by omega
theorem aCg (w:World) (zs cs:Array Value) (t:TypeId):(w.alloc (.cells zs t)).setRow w.heap.size cs=w.alloc (.cells cs t):=by
 unfold World.setRow World.alloc
 congr 1
 apply Array.ext_getElem?;intro k;simp only [Array.getElem?_modify,Array.getElem?_push]
 by_cases hk:k=w.heap.size
 ·subst hk;simp
 ·simp [hk,Ne.symm hk]
theorem dI (w0:World) (zs:Array Value) (t:TypeId) (hgd:o.guard=none) (ty:TypeId) (x y:Operand) (ho:o.op = .store ty x y)
  (hd:o.dst=none) (cells:Array Value) (N:Nat) (hN:w0.heap.size=N) (hx:a.eval x = .pointer (some ⟨N,0,none⟩)) (hy:a.eval y = .agg cells)
  (hi:(P.info? ty).map (·.size)=some cells.size) (hold:zs.size=cells.size) (h1:cells.all (·.oneCell')=true)
  (h:wpList P ops Q rest a (w0.alloc (.cells cells t))):wpList P ops Q (o::rest) a (w0.alloc (.cells zs t)):=by
 subst hN;refine wpList_store_rowTo hgd ty x y ho hd w0.heap.size cells hx hy t zs (Go.Deep.blk_alloc_new _ _) hi hold h1 ?_;rw [aCg];exact h
theorem Blk.rowB {cs:List Value} (h:Blk w g t cs) (ds:List Value):Blk (w.setRow g ds.toArray) g t ds:=setRow_heap _ _ _ _ _ _ h
theorem Blk.otherRowB {g':Nat} {cs:List Value} (h:Blk w g t cs) (ne:g≠g') (ds:Array Value):Blk (w.setRow g' ds) g t cs:=h.of (setRow_other _ _ _ _ ne)
theorem Ext.setRowB {w1:World} (h:Ext w w1) (hg:w.heap.size<=g) (cs:Array Value):Ext w (w1.setRow g cs):=
 aVh h ⟨rfl,rfl,rfl,by simp,fun k hk=>setRow_other _ _ _ _ (by omega)⟩
theorem aCh {fn:Func} {R:Ending->World->Prop} {p:Tmp} {ty:TypeId} {cs:List Value} (h:fn.results=#[.cell p ty]) (hp:a.tmps.getD p undef = .pointer (some ⟨g,0,none⟩)) (hb:Blk w g t cs)
  (d:TypeDesc) (hu:P.underlying ty=some d) (hd:(match d with | .struct _ | .array _ _=>true|_=>false)=true) (hi:(P.info? ty).map (·.size)=some cs.toArray.size) (hdf:a.defers=[]) (hR:R (.returned (.agg cs.toArray)) w):bodyPost P fn R .ret a w:=
 bodyPost_ret (results_cell_row h _ _ g t cs.toArray (0,0) d hp hb hu hd hi) hdf hR
theorem aEf {fn:Func} {p u:Tmp} {ty:TypeId} {cs:List Value} (h:fn.results=#[.cell p ty,.tmp u]) (tmps:Array Value) (w:World) (hp:tmps.getD p undef = .pointer (some ⟨g,0,none⟩)) (hb:Blk w g t cs)
  (d:TypeDesc) (hu:P.underlying ty=some d) (hd:(match d with | .struct _ | .array _ _=>true|_=>false)=true) (hi:(P.info? ty).map (·.size)=some cs.toArray.size):(results fn tmps).run P w = .ok (.tuple #[.agg cs.toArray,tmps.getD u undef]) w:=by
 rw [results_cell_tmp h,hp];simp [asAddr,run_loadVar_row w g t ty cs.toArray (0,0) d hb hu hd hi,Result.andThen]
theorem iG:(Tryz.prog.info? 127).map (fun i=>i.size)=some 26:=by kernel_rfl
def C2b (b c:Nat):Addr->Prop:=fun a=>a.block=b\/a.block=c
@[go_sem] theorem aQp (b c o:Nat):C2b b c ⟨b,o,none⟩:=.inl rfl
@[go_sem] theorem aQq (b c o:Nat):C2b b c ⟨c,o,none⟩:=.inr rfl
theorem aM.trans {a b c:World} (h:aM lo hi a b) (k:aM lo hi b c):aM lo hi a c:=fun i h1 h2=>(k i h1 h2).trans (h i h1 h2)
theorem aF.flatsI {α : Type} {cs : α->List Value} {ls : α->List Int} {xs:List α} {F:Nat->Int} (h:aF cs lo e sz w v xs) (hsz:0<sz) (hcs:∀x,cs x=(ls x).map (.int .i64)) (hl:∀x,(ls x).length=sz)
  (hI:∀x∈xs,∀n∈ls x,I64 n) (hF:∀i x k,xs[i]?=some x->k<sz->F (i*sz+k)=(ls x).getD k 0):cY sz lo w.heap.size w v xs.length F:=by
 have hc:∀x,(cs x).length=sz:=fun x=>by rw [hcs,aSh,hl]
 have h2:∀i,i<xs.length*sz->∃x,xs[i / sz]?=some x/\F i=(ls x).getD (i % sz) 0/\(ls x)[i % sz]?=some (F i):=fun i hi=>by
  have hk:i / sz<xs.length:=aTg (by rw [Nat.mul_comm];exact hi)
  obtain ⟨x,hx⟩:∃x,xs[i / sz]?=some x:=⟨_,aQ9 hk⟩
  have hm:=aTp i hsz;have e1:=hF (i / sz) x (i % sz) hx hm;rw [Nat.div_add_mod'] at e1;refine ⟨x,hx,e1,?_⟩;rw [e1,aRs,aQ9 (by rw [hl];exact hm)]
  rfl
 rcases h.2 with ⟨rfl,h4⟩|⟨g,cap,cur,rfl,hb,hg,hcap,hm,hs,ht⟩
 ·exact ⟨none,0,by rw [h4],by omega,by unfold maxLen;omega,fun i hx=>by rw [h4] at hx;omega⟩
 ·refine ⟨_,cap,rfl,hcap,hm,fun i hx=>?_⟩
  obtain ⟨x,h0,h3,h1⟩:=h2 i hx;refine ⟨hI x (aRn h0) _ (aRn h1),g,0,rfl,hb,(aRi.1 hg).1,?_⟩;have e1:=mN hc h0 (i % sz) (aTp i hsz);rw [Nat.div_add_mod'] at e1;rw [hcs,aSo,h1] at e1;rw [<-ht,aS1,if_pos hx] at e1;rw [aRt]
  show w.cell? ⟨g,i,none⟩=some (.int .i64 (F i))
  simp only [Option.map_some] at e1;rw [<-e1];simp only [aSy,hg];simp
def TuR (lo:Nat) (w:World) (v:Value) (xs:List Int):Prop:=∃g cs,lo<=g/\Blk w g 3 cs/\∀w',Blk w' g 3 cs->aB lo w' v xs
theorem TuR.ext (h:TuR lo w v xs) (x:Ext w w'):TuR lo w' v xs:=by
 obtain ⟨g,cs,h1,h2,h3⟩:=h;exact ⟨g,cs,h1,h2.ext x,h3⟩
theorem aB.tur (h:aB lo w v xs) (h1:1<=xs.length):TuR lo w v xs:=by
 obtain ⟨⟨k1,k2⟩,k3⟩:=h
 rcases k2 with ⟨rfl,h4⟩|⟨g,cap,cur,rfl,hb,hg,hcap,hm,hs,ht⟩
 ·omega
 ·exact ⟨g,cur.toList,hb,hg,fun w' hw=>⟨⟨k1,.inr ⟨g,cap,cur,rfl,hb,hw,hcap,hm,hs,ht⟩⟩,k3⟩⟩
theorem TuR.set (h:TuR lo w v xs) {A:Nat} (hb:Blk w A t us) (ht:t≠3) (i:Nat) (u:Value):TuR lo (w.setCell ⟨A,i,none⟩ u) v xs:=by
 obtain ⟨g,cs,h1,h2,h3⟩:=h;refine ⟨g,cs,h1,h2.other (fun e=>?_) u,h3⟩;simp only at e;subst e;unfold Blk at h2 hb;rw [h2] at hb;simp only [aQ0,aR8] at hb;exact ht hb.2.1.symm
theorem aJf (b off n cap:Nat) (w:World):(binOp .eql 24 (.slice (some ⟨b,off,none⟩) n cap) (.slice none 0 0)).run aQ2 w = .ok (.bool false) w:=by
 simp only [binOp];simp [Op.equal,Op.maxDepth,Lib.run_equalIn_slice_nil w 9999 24 3 (some ⟨b,off,none⟩) n cap 0 0 underlying24]
theorem aGo (lo hi:Nat) (u:Value) (xs:List Int) (w:World) (hu:aU lo hi w u xs) (hh:hi<=w.heap.size) (h1:1<=xs.length) (h2:xs.length<=1000) :
  Calls aQ2 164 #[u] w fun e w'=>∃v',e = .returned v'/\aB w.heap.size w' v' xs/\Ext w w':=by
 obtain ⟨a,cap,rfl,HU⟩:=hu.open;obtain ⟨b,h7,rfl,q0,q1,_⟩:=HU.at (k:=0) (by omega);have l1:=HU.le;have l2:=HU.cap;clear hu;go_enter func164,ntmps164
 have HC:∀i y,xs[i]?=some y->I64 y/\(w.alloc (.cells #[] 3)).cell? ⟨b,h7+i,none⟩=some (.int .i64 y):=by
  intro i y hy;obtain ⟨h3,b',h9,e,h4,h5,h6⟩:=HU.cell i y hy;simp only [aQ0,Addr.mk.injEq,and_true] at e;obtain ⟨rfl,rfl⟩:=e;exact ⟨h3,(((aQ6 w).alloc _).cells.1 b _ (by omega)).trans h6⟩
 have HC:=hid HC;have h8:=fun w=>aJf b h7 xs.length cap w;go_wp2_with (at_builtin;refine bY _ rfl _ _ rfl w.heap.size (.slice (some ⟨w.heap.size,0,none⟩) 0 0) [] xs rfl (aB.fresh0 (aQv _) (aQ8 w 3 [])) b h7 cap rfl HC (by simp;omega) (by simp) ?_;intro v' w1 h0 hg;obtain ⟨a',c',rfl,_⟩:=h0.form);go_ret;exact ⟨_,rfl,by simpa using h0,((aQ6 w).alloc _).grown hg (fun k e=>by simp [aRu] at e;omega)⟩
theorem zP (w:World) (base:Nat) (t ty e:TypeId) (i:TypeInfo) (z:Value) (size bytes:Nat) (ht:P.underlying t=some (.slice e)) (hi:P.info? e=some i) (hz:i.zero=some z)
  (hsize:i.size=size) (hby:i.bytes=bytes) (hzs:z.cells.size=size) (hsz:0<size)
  (v:Value) (n:Nat) (xs:List Value) (hown:w.ownsRow base e size v n xs)
  (a:Addr) (m c:Nat) (news:List Value) (hl:news.length=m*size) (hnews:∀j u,news[j]?=some u->w.cell? (a.add j)=some u) (h1:∀u∈news,u.oneCell'=true)
  (h63:n+m<=maxLen) (hbytes:(n+m)*bytes<=140737488355328) (hbase:base<=w.heap.size) :
  ∃v' w',(Builtin.append_ #[t,t] ty #[v,.slice (some a) m c]).run P w = .ok v' w'/\w'.ownsRow base e size v' (n+m) (xs++news)/\w.grownBy w' v.ownBlock/\(∀k,v'.ownBlock=some k->v.ownBlock=some k\/w.heap.size<=k):=by
 obtain ⟨v',w',hr,h2,h3,-⟩:=run_append_own (P:=P) w base t ty e i z size bytes ht hi hz hsize hby hzs hsz v n xs hown a m c news hl hnews h1 h63 hbytes hbase;refine ⟨v',w',hr,h2,h3,?_⟩
 rcases hown.2 with ⟨rfl,rfl⟩|⟨g,cap,cur,rfl,hbg,hg,hnc,hcm,hcs,htake⟩
 ·have hx:xs=[]:=aVj (by simpa using hown.1)
  subst hx;obtain ⟨v2,w2,h0,k2,-,-⟩:=run_append_own (P:=P) w w.heap.size t ty e i z size bytes ht hi hz hsize hby hzs hsz (.slice none 0 0) 0 [] (aUp _ _ _ _) a m c news hl hnews h1 h63 hbytes (aQv _);rw [hr] at h0;simp only [Result.ok.injEq] at h0;obtain ⟨rfl,rfl⟩:=h0;exact fun k hk=>.inr (k2.lt k hk).1
 ·by_cases h4:n+m<=cap
  ·subst hsize
   have h6:n*i.size+news.length<=cur.size:=by rw [hl,hcs,<-aTf];exact aSq _ h4
   have h0:=run_append_room (P:=P) w t ty e i ht hi g n cap cur hg a m c news hl hnews h1 h4 h6;rw [hr] at h0;simp only [Result.ok.injEq] at h0;obtain ⟨rfl,-⟩:=h0;exact fun k hk=>.inl hk
  ·subst hsize
   subst hby
   have h7:n+m<=9223372036854775807:=by simp only [maxLen] at h63;omega
   have h5:∀j u,xs[j]?=some u->w.cell? ((⟨g,0,none⟩:Addr).add j)=some u:=hown.cells (g:=g) rfl;have h0:=run_append_grow (P:=P) w t ty e i z ht hi hz ⟨g,0,none⟩ n cap xs hown.1 h5 a m c news hl hnews (by omega) (by omega) (growslice_fits (by omega) hbytes);rw [hr] at h0;simp only [Result.ok.injEq] at h0;obtain ⟨rfl,-⟩:=h0;intro k hk;simp only [aRu,aQ0] at hk;subst hk;exact .inr (aQv _)
theorem iH {α : Type} (cs : α->List Value) (e:TypeId) (sz bytes:Nat) (z:Value) (w:World) (hg:o.guard=none) (s x:Operand) (t:TypeId)
  (hop:o.op=Op.call { callee:=Callee.builtin Builtin.append,args:=#[s,x],argTypes:=#[t,t] }) (ht:Tryz.prog.underlying t=some (.slice e))
  (hinfo:(Tryz.prog.info? e).map (fun i=>(i.zero,i.size,i.bytes))=some (some z,sz,bytes)) (hzs:z.cells.size=sz) (hsz:0<sz) (hby:bytes<=1000) (hc:∀x,(cs x).length=sz)
  (lo:Nat) (v:Value) (xs:List α) (hs:a.eval s=v) (hown:aF cs lo e sz w v xs)
  (y : α) (b:Nat) (hx:a.eval x = .slice (some ⟨b,0,none⟩) 1 1) (hcell:∀j,j<sz->w.cell? ⟨b,j,none⟩=(cs y)[j]?) (h1:∀u∈cs y,u.oneCell'=true) (hlen:xs.length<1000000) (hlo:lo<=w.heap.size)
  (hK:∀v' w',aF cs lo e sz w' v' (xs++[y])->w.grownBy w' v.ownBlock->(∀k,v'.ownBlock=some k->v.ownBlock=some k\/w.heap.size<=k)->wpList aQ2 ops Q rest (a.put o.dst v') w'):wpList aQ2 ops Q (o::rest) a w:=by
 obtain ⟨i0,h0,h6,h7,h8⟩:=info_parts hinfo;refine wpList_plain hg fun _ hKK=>?_
 obtain ⟨v',w',hr,h2,h3,h4⟩:=zP (P:=aQ2) w lo t o.type e i0 z sz bytes ht h0 h6 h7 h8 hzs hsz v xs.length _ hown ⟨b,0,none⟩ 1 1 (cs y) (by rw [hc,aTh]) (by
  intro j u hj
  have h5:j<sz:=by rw [<-hc y];exact (aQz.1 hj).1
  have ea:(⟨b,0,none⟩:Addr).add j=⟨b,j,none⟩:=by
   unfold Addr.add
   split <;> simp_all
  rw [ea,hcell j h5,hj]) h1 (by unfold maxLen;omega) (by
   have:(xs.length+1)*bytes<=1000000*1000:=aRy (by omega) hby
   omega) hlo
 unfold Oper.wp execOp;simp only [hop,resolve,invoke,builtin,Sem.run_bind,Sem.run_pure,Result.andThen_ok,aYu,aS4,aV7,hs,hx,hr];refine hKK _ _ (hK v' w' ?_ h3 h4);unfold aF;rw [aRq,aSa]
 simpa using h2
def oG (u:Value×Value):List Value:=[u.1,u.2]
theorem aEg {O:Nat} {fs:List aO} (h:aCe lo w O fs v) (x:aO) (hl:fs.length<=100000) :
  Calls aQ2 113 #[.pointer (some ⟨O,0,none⟩),.agg #[x.d,x.s,x.c,x.col,x.al]] w fun e w'=>∃v',e = .returned (.tuple #[])/\aCe lo w' O (tB x fs) v'/\KN lo O 95 w w'/\(∀b,b<w.heap.size->b≠O->v.ownBlock≠some b->w'.heap[b]?=w.heap[b]?)/\(∀k,v'.ownBlock=some k->v.ownBlock=some k\/w.heap.size<=k):=by
 have x0:Ext w (w.alloc (.cells #[x.d,x.s,x.c,x.col,x.al] 95)):=X_;have hB:=aQ8 w 95 [x.d,x.s,x.c,x.col,x.al]
 obtain ⟨W0,x4⟩:=e_ (w.alloc (.cells #[x.d,x.s,x.c,x.col,x.al] 95))
 rw [x4] at x0
 have hB:Blk W0 w.heap.size 95 [x.d,x.s,x.c,x.col,x.al]:=by rw [<-x4];exact hB
 have c4:O<w.heap.size:=h.box.lt;have z6:=hid h;have HP:=hid (h.ext x0);have z8:=hid x0;have HB:=hid hB;have a3:=hid x4;have y2:=h.low
 obtain ⟨p,hp⟩:=e_ (fA x fs)
 have h8:p<=fs.length:=hp▸aAj x fs;have x2:∀k,k<p->∃hk:k<fs.length,x.lt fs[k]=false:=fun k hk=>aAk (hp.symm▸hk)
 have q9:∀f,fs[p]?=some f->x.lt f=true:=fun f hf=>by
  obtain ⟨h1,h2⟩:=aQz.1 hf;subst h2;subst hp;exact aAl h1
 have q8:tB x fs=fs.take p++x::fs.drop p:=by rw [<-hp];exact aHg x fs
 have a1:=hid x2;have a0:=hid q9;have z2:=hid q8;clear x2 q9 q8 hp;obtain ⟨a,cap,rfl,b8⟩:=h.row.form;clear h x0 hB x4;go_enter func113,ntmps113
 go_upto_block 0 with fail
 rw [a3]
 go_cut [4] from 5 to 29 (fun i wx=>i = .int .i64 (p:Nat)/\Ext W0 wx)
 case first=>
  go_wp2_with fail
  go_loopw [4] (fun i wr=>∃k:Nat,k<=p/\i = .int .i64 (k:Nat)/\Ext W0 wr) (fun i _=>fs.length - (intOf i).toNat)
  case atStart=>exact ⟨0,by omega,rfl,aQ6 _⟩
  case round=>
   obtain ⟨k,hk,rfl,hx⟩:=hrel;have HX:=hid hx;have c1:=(HP.ext hx).box.cell 0 rfl;have c2:=(HP.ext hx).box.cell 1 rfl;have h9:=hid (HB.ext hx);obtain ⟨b0,b1,b2,b3,b4⟩:=h9.q5;have zx:=h9.lt;have h6:=hid (HP.ext hx);clear hx
   rcases aSd k fs.length with x8|hge
   ·obtain ⟨f,hf⟩:∃f,fs[k]?=some f:=⟨_,aQ9 x8⟩
    obtain ⟨g,x7,he,-,c3,a7,c0,-,h3⟩:=aF.at h6.row (fun _=>rfl) hf;simp only [aRo,true_and] at he;obtain ⟨rfl,rfl⟩:=he;have d0:=h3 0 (by decide);have d1:=h3 1 (by decide);have d2:=h3 2 (by decide);have d3:=h3 3 (by decide);have d4:=h3 4 (by decide);simp only [aO.cs,aSk,aQw,aQx] at d0 d1 d2 d3 d4
    obtain ⟨r,hr⟩:=e_ (x.cmp f)
    have HR:=hid hr;have HF:=hid hf
    have y3:decide (r<0)=x.lt f:=by rw [<-hr];exact aO.cmp_lt x f
    have z7:=hid y3;clear h3 hr hf y3
    rcases aSd k p with hkp|hkp
    ·have b9:0<=r:=by
      obtain ⟨b7,hq⟩:=a1 k hkp
      have e1:fs[k]=f:=by have:=HF.out;rw [aQ9 b7] at this;exact aSx this
      rw [e1] at hq;have:=z7.out;rw [hq] at this;have:=of_decide_eq_false this;omega
     go_wp2_with fail;refine aJ [([0,1,2,3,4,5,6,7,8,9,10,11,12,13,14,15,16,17,18,19],20),([21],22)] 99 (fun w'=>∃d,w'=fU (C3f O w.heap.size g) _ d) (by kernel_rfl) (by kernel_rfl) (aTr _ _) ?_;refine sc_ fun K hK=>?_;go_wp2_with fail;refine r_ (uC HR _) fun w1 x1=>?_;have Y1:=hid (aQ3 (w:=wr) X_ x1);have X1:=hid (HX.trans Y1);clear x1;go_wp2_with fail;refine hK _ _ (.inr (aR6 fun a ha=>Y1.block (by rcases ha with ha|ha|ha <;> rw [ha] <;> omega))) ?_;clear hK K;refine sc_ fun K hK=>?_;go_wp2_with fail;go_wp2_with fail;refine hK _ _ (.inr (aR6 fun a ha=>Y1.block (by rcases ha with ha|ha|ha <;> rw [ha] <;> omega))) ?_;clear hK K;refine aP ?_;go_wp2;go_roundw
     case rel=>exact ⟨k+1,by omega,by go_num,X1⟩
     case measure=>simp [intOf];omega
    ·obtain rfl:k=p:=by omega
     have b9:r<0:=by
      have:=z7.out;rw [a0 f HF] at this;exact of_decide_eq_true this
     go_wp2_with fail;refine aJ [([0,1,2,3,4,5,6,7,8,9,10,11,12,13,14,15,16,17,18,19],20),([21],22)] 99 (fun w'=>∃d,w'=fU (C3f O w.heap.size g) _ d) (by kernel_rfl) (by kernel_rfl) (aTr _ _) ?_;refine sc_ fun K hK=>?_;go_wp2_with fail;refine r_ (uC HR _) fun w1 x1=>?_;have Y1:=hid (aQ3 (w:=wr) X_ x1);have X1:=hid (HX.trans Y1);clear x1;go_wp2_with fail;refine hK _ _ (.inr (aR6 fun a ha=>Y1.block (by rcases ha with ha|ha|ha <;> rw [ha] <;> omega))) ?_;clear hK K;refine sc_ fun K hK=>?_;go_wp2_with fail;go_wp2_with fail;refine hK _ _ (.inr (aR6 fun a ha=>Y1.block (by rcases ha with ha|ha|ha <;> rw [ha] <;> omega))) ?_;clear hK K;refine aP ?_;go_wp2
     go_meet
     exact ⟨rfl,X1⟩
   ·obtain rfl:k=p:=by omega
    obtain rfl:k=fs.length:=by omega
    go_wp2_with fail;refine aJ [([0,1,2,3,4,5,6,7,8,9,10,11,12,13,14,15,16,17,18,19],20),([21],22)] 99 (fun w'=>∃d,w'=fU (C3f O O O) _ d) (by kernel_rfl) (by kernel_rfl) (aTr _ _) ?_;refine sc_ fun K hK=>?_;go_wp2_with fail;go_wp2_with fail;refine hK _ _ (.inr (aR6 fun a ha=>rfl)) ?_;clear hK K;refine sc_ fun K hK=>?_;go_wp2_with fail;go_wp2_with fail;refine hK _ _ (.inr (aR6 fun a ha=>rfl)) ?_;clear hK K;refine aP ?_;go_wp2
    go_meet
    exact ⟨rfl,HX.trans (aRz (aQ6 _))⟩
 case rest=>
  obtain ⟨rfl,hx⟩:=hcut;have HX:=hid hx;have h6:=hid (HP.ext hx);have h9:=hid (HB.ext hx);have zx:=h9.lt;have c1:=h6.box.cell 0 rfl;obtain ⟨b0,b1,b2,b3,b4⟩:=h9.q5;clear hx;go_wp2_with fail;refine tP [([0,1,2,3,4,5],6),([],7)] [([],8),([],9),([],10)] 8 (fun w'=>∃d,w'=fU (C3f O w.heap.size w.heap.size) _ d) (by kernel_rfl) (by kernel_rfl) (aTr _ _) ?_;refine sc_ fun K hK=>?_;go_wp2_with fail;have y1:Ext wc ((wc.alloc (.cells #[x.d,x.s,x.c,x.col,x.al] 95)).drew):=S_;have B2:Blk ((wc.alloc (.cells #[x.d,x.s,x.c,x.col,x.al] 95)).drew) wc.heap.size 95 x.cs:=aQ8 wc 95 x.cs;refine hK _ _ (.inr (aR6 fun a ha=>y1.block (by rcases ha with ha|ha|ha <;> rw [ha] <;> omega))) ?_;clear hK K;have q0:=hid y1;have y7:=hid B2;have HN:=hid (h6.row.ext y1);clear y1 B2;have z1:=q0.size;refine sc_ fun K hK=>?_;refine iH aO.cs 95 5 40 _ _ rfl _ _ 48 rfl underlying48 iE rfl (by decide) (by decide) (fun _=>rfl) lo (.slice a fs.length cap) fs rfl HN x wc.heap.size rfl (fun j hj=>?_) (xO x) (by omega) (by omega) ?_
  ·rw [aQ9 (show j<x.cs.length from hj)]
   exact y7.cell j (aQ9 hj)
  intro y4 w2 h7 hg q6;have q7:∀k,y4.ownBlock=some k->(aR9 a fs.length cap).ownBlock=some k\/w.heap.size<=k:=fun k hk=>(q6 k hk).imp id (fun h=>by omega);have q2:=hid q7
  have q6:∀k,y4.ownBlock=some k->k≠w.heap.size:=fun k hk=>by
   rcases q6 k hk with h|h
   ·have:=(z6.row.lt _ h).2
    omega
   ·omega
  have y6:=hid q6;have hr:∀k,(aR9 a fs.length cap).ownBlock=some k->lo<=k/\∃c,wc.heap[k]?=some (.cells c 95 (0,0)):=aF.rowF h6.row;have k2:∀b,b<wc.heap.size->(∀c,wc.heap[b]?≠some (.cells c 95 (0,0)))->w2.heap[b]?=wc.heap[b]?:=fun b hb hn=>(hg.block b (by omega) (fun e=>(by obtain ⟨_,c,hc⟩:=hr b e.symm;exact hn c hc))).trans (q0.block hb)
  have B3:=h6.box.of (k2 O (by omega) (fun c hc=>by
   have:=h6.box;unfold Blk at this;rw [this] at hc;simp only [aQ0,aR8] at hc
   exact absurd hc.2.1 (by decide)))
  have K3:KN lo O 95 wc w2:=KN.grown (q0.kn lo O 95) hg (fun k hk=>by
   obtain ⟨q1,c,hc⟩:=hr k hk
   exact ⟨q1,c,(q0.block (aRi.1 hc).1).trans hc⟩)
  have kO:w2.heap[O]?=wc.heap[O]?:=k2 O (by omega) (fun c hc=>by
   have:=h6.box;unfold Blk at this;rw [this] at hc;simp only [aQ0,aR8] at hc
   exact absurd hc.2.1 (by decide))
  have kX:w2.heap[w.heap.size]?=wc.heap[w.heap.size]?:=(hg.block _ (by omega) (fun e=>by
   have:=(z6.row.lt _ e.symm).2
   omega)).trans (q0.block zx)
  have k3:∀b,b<w.heap.size->(aR9 a fs.length cap).ownBlock≠some b->w2.heap[b]?=w.heap[b]?:=fun b hb hn=>((hg.block b (by omega) (fun e=>hn e.symm)).trans (q0.block (by omega))).trans ((z8.trans HX).block hb);have a5:=hid k3;clear k3 q7;go_wp2_with fail;refine hK _ _ (.inr (aR6 fun a ha=>?_)) ?_
  ·rcases ha with ha|ha|ha <;> rw [ha]
   ·exact kO
   ·exact kX
   ·exact kX
  clear hK K;have BX:=h9.of kX;have y8:=hid BX;have d0:=B3.cell 0 rfl;have e0:=B3.free 0;have x9:=hid B3;have y9:=hid K3;have HO:=hid h7;obtain ⟨a2,h0,rfl,_⟩:=h7.form
  have y0:(fs++[x]).length=fs.length+1:=by simp
  have z4:=hid y0;clear h7 hg q6 hr k2 kO kX B3 K3 c1 b0 b1 b2 b3 b4 BX y0;refine aEe (aCf ?_);refine sc_ fun K hK=>?_;go_wp2_with fail;go_wp2_with fail;refine hK _ _ (.inr (trivial)) ?_;clear hK K;refine sc_ fun K hK=>?_;go_wp2_with fail;go_wp2_with fail;refine hK _ _ (.inr (trivial)) ?_;clear hK K;refine sc_ fun K hK=>?_;go_wp2_with fail;go_wp2_with fail;refine hK _ _ (.inr (trivial)) ?_;clear hK K;refine aP ?_
  try rw [z4]
  have z5:=hid (aF.set HO x9 (by decide) 0 (.slice a2 (fs.length+1) h0));have q3:=hid (x9.set 0 (.slice a2 (fs.length+1) h0));have z3:=hid (y9.set y2 0 (.slice a2 (fs.length+1) h0));have x3:=hid (y8.other (a:=⟨O,0,none⟩) (by show w.heap.size≠O;omega) (.slice a2 (fs.length+1) h0))
  obtain ⟨W3,x5⟩:=e_ (w2.setCell ⟨O,0,none⟩ (.slice a2 (fs.length+1) h0))
  rw [x5] at z5 q3 z3 x3;rw [x5];have a6:Hid (∀b,b≠O->W3.heap[b]?=w2.heap[b]?):=hid (fun b hb=>by rw [<-x5];exact aQ7 _ _ _ _ (by simpa using hb));clear d0 e0 x5
  rcases z5.2 with ⟨_,h4⟩|⟨g,x7,cur,he,hb,hg,hc,hm,hs,ht⟩
  ·exact absurd h4 (by simp)
  rw [z4] at he hc ht;simp only [aRo,true_and] at he;obtain ⟨rfl,rfl⟩:=he;have HG:=hid hg;have HS:=hid hs;have HT:=hid ht;have c1:=q3.cell 0 rfl;have b6:g≠w.heap.size:=y6 g rfl;clear hg hs ht;unfold maxLen at hm
  have x6:O≠g:=fun e=>by
   have h1:=q3.out;have h2:=HG.out;unfold Blk at h1;rw [e,h2] at h1;simp only [aQ0,aR8] at h1;exact absurd h1.2.1 (by decide)
  have zO:O<W3.heap.size:=q3.lt
  obtain ⟨D,hD⟩:=i_ ((fs.drop p).flatMap aO.cs)
  have lD:D.length=(fs.length - p)*5:=by rw [hD,gM,aTu]
  have HD:=hid hD;have LD:=hid lD;have LC:Hid (cur.toList.length=h0*5):=hid (by simpa using HS.out);clear hD lD;go_upto_region 5 with fail
  go_cut [] from 40 to 53 (fun wx=>∃C1:List Value,wx.heap[g]?=some (.cells C1.toArray 95 (0,0))/\C1.length=h0*5/\(C1.take (p*5)++x.cs++C1.drop (p*5+x.cs.length)).take ((fs.length+1)*5)=(tB x fs).flatMap aO.cs/\W3.grownBy wx (some g))
  case first=>
   by_cases a9:h0=p+1
   ·obtain rfl:p=fs.length:=by omega
    obtain rfl:h0=fs.length+1:=a9;have a8:D=[]:=aVj (by rw [LD];omega);subst a8
    have c6:((fs.length:Nat):Int)+1<=9223372036854775807:=by omega
    go_wp2_with fail;refine aJ [([0,1,2,3,4,5,6,7,8,9,10,11,12],13)] 99 (fun w'=>∃d,w'=fU (C3f O O O) _ d) (by kernel_rfl) (by kernel_rfl) (aTr _ _) ?_;refine sc_ fun K hK=>?_;go_wp2_with (refine mB rfl _ _ _ _ rfl 95 5 0 underlying48 qZ g _ _ _ _ _ _ rfl rfl cur 95 HG [] ?_ rfl ?_ ?_ ?_ ?_)
    ·rfl
    ·intro j v h
     simp at h
    ·simp
    ·intro v h
     cases h
    intro W4 h4 q4
    have q5:W3.grownBy W4 (some g):=⟨q4.os,q4.tape,q4.output,q4.size,q4.block⟩
    have Q4:=hid q5;have H4:=hid h4;clear h4 q4 q5;go_wp2_with fail;refine hK _ _ (.inr (aR6 fun a ha=>(by rcases ha with ha|ha|ha <;> rw [ha] <;> exact Q4.block O zO (fun e=>x6 (aSx e))))) ?_;clear hK K;refine aP ?_;go_wp2_with fail
    go_meet
    refine ⟨cur.toList,by simpa using H4.out,LC,?_,Q4⟩;rw [z2];exact aLd (p:=fs.length) (L:=cur.toList) (C1:=cur.toList) h8 (by rw [LC];exact aQv _) HT HD (by simp)
   ·have b5:p+1<h0:=by omega
    go_wp2_with fail;refine aJ [([0,1,2,3,4,5,6,7,8,9,10,11,12],13)] 99 (fun w'=>∃d,w'=fU (C3f O O O) _ d) (by kernel_rfl) (by kernel_rfl) (aTr _ _) ?_;refine sc_ fun K hK=>?_;go_wp2_with (refine mB rfl _ _ _ _ rfl 95 5 (fs.length - p) underlying48 qZ g _ _ _ _ _ _ rfl rfl cur 95 HG D ?_ LD ?_ ?_ ?_ ?_)
    ·show fs.length - p=min (fs.length+1 - p) (fs.length - p)
     omega
    ·intro j v hj
     have e2:(⟨g,p*5,none⟩:Addr).add j=⟨g,p*5+j,none⟩:=by
      cases j <;> simp [Addr.add]
     rw [e2];have e3:=aOo (x:=x) h8 HT j v (HD.out▸hj)
     show W3.cell? _=_
     simp only [aSy,HG.out]
     simpa using e3
    ·rw [LD,HS]
     omega
    ·rw [HD]
     exact aJe _
    intro W4 h4 q4
    try rw [<-aRx] at h4
    have q5:W3.grownBy W4 (some g):=⟨q4.os,q4.tape,q4.output,q4.size,q4.block⟩
    have Q4:=hid q5;have H4:=hid h4;clear h4 q4 q5;go_wp2_with fail;refine hK _ _ (.inr (aR6 fun a ha=>(by rcases ha with ha|ha|ha <;> rw [ha] <;> exact Q4.block O zO (fun e=>x6 (aSx e))))) ?_;clear hK K;refine aP ?_;go_wp2_with fail
    go_meet
    refine ⟨_,H4,?_,?_,Q4⟩
    ·rw [aRq,aRq,aRp,aTu,LD,LC]
     omega
    ·rw [z2]
     exact aLd h8 (by rw [LC];exact aSq 5 hc) HT HD rfl
  case rest=>
   obtain ⟨C1,h5,l5,t5,q5⟩:=hcut;have z0:=hid (q3.of (q5.block O zO (fun e=>x6 (aSx e))));have a4:=hid (x3.of (q5.block w.heap.size x3.lt (fun e=>b6 (aSx e).symm)));have H5:=hid h5;have L5:=hid l5;have T5:=hid t5;have Q5:=hid q5;have c1:=z0.cell 0 rfl;obtain ⟨b0,b1,b2,b3,b4⟩:=a4.q5;have eW:=sC g 95 x.cs (p*5) C1 (wc.drew) h5 (by rw [l5,show x.cs.length=5 from rfl];omega);have EW:=hid eW;clear h5 l5 t5 q5 eW;go_wp2_with fail;refine aJ [([0,1,2,3,4,5,6],7)] 7 (fun w'=>∃d,w'=fU (C3f O w.heap.size w.heap.size) _ d) (by kernel_rfl) (by kernel_rfl) (aTr _ _) ?_;refine sc_ fun K hK=>?_;go_wp2_with (refine wpList_store_mid rfl _ _ _ rfl g (p*5) #[x.d,x.s,x.c,x.col,x.al] rfl rfl ?_ qZ (all_oneCell_toArray (xO x)) ?_)
   ·intro j hj
    have c5:j<5:=hj;have e1:wc.drew.heap[g]?=some (.cells C1.toArray 95 (0,0)):=H5;have e0:wc.heap[g]?=some (.cells C1.toArray 95 (0,0)):=H5;have l5:=L5.out
    have x8:p*5+j<C1.length:=by omega
    refine ⟨?_,?_⟩
    ·simp only [aSy,e1,e0]
     simp [x8]
    ·simp only [World.frozen?,e1,e0]
     simp
   have y5:Hid (wc.drew.setCells g (p*5) [x.d,x.s,x.c,x.col,x.al]=_):=EW;rw [y5];go_wp2_with fail;refine l_ hK ?_;clear hK K;refine aP ?_;go_wp2
   go_end0
   have lR:(C1.take (p*5)++x.cs++C1.drop (p*5+x.cs.length)).length=h0*5:=by
    rw [aRq,aRq,aRp,aTu,show x.cs.length=5 from rfl,L5];omega
   refine ⟨.slice (some ⟨g,0,none⟩) (fs.length+1) h0,rfl,⟨?_,y2,?_⟩,?_,fun b hb hbO hbv=>?_,fun k hk=>q2 k hk⟩
   ·exact Blk.otherRowB (w:=wc.drew) z0 x6 _
   ·refine ⟨gM _,.inr ⟨g,h0,(C1.take (p*5)++x.cs++C1.drop (p*5+x.cs.length)).toArray,?_,hb,setRow_heap wc.drew g C1.toArray _ _ _ H5,?_,?_,?_,?_⟩⟩
    ·rw [jX]
    ·rw [jX];exact hc
    ·unfold maxLen;exact hm
    ·rw [aVx,lR]
    ·rw [jX];exact T5
   ·refine KN.grown (KN.grown (((z8.trans HX).kn lo O 95).trans z3) (w2:=wc.drew) (row:=some g) ⟨Q5.os,Q5.tape,Q5.output,Q5.size,Q5.block⟩ ?_) (sB wc.drew g _) ?_
    ·intro k hk
     obtain rfl:=aSx hk;exact ⟨hb,_,HG⟩
    ·intro k hk
     obtain rfl:=aSx hk;exact ⟨hb,_,H5⟩
   ·have z9:b≠g:=fun e=>by
     rcases q2 g rfl with h|h
     ·exact hbv (e▸h)
     ·omega
    exact (setRow_other wc.drew g b _ z9).trans ((Q5.block b (Nat.lt_trans hb x3.lt) (fun e=>z9 (aSx e))).trans ((a6 b hbO).trans (a5 b hb hbv)))
theorem aEh (r:Int) (w:World):R_ 146 #[r] w (.bool (uL r)):=by
 unfold uL;go_enter func146,ntmps146;go_wp2
 all_goals
  go_ret;exact ⟨by first|rfl|simp [*],X_⟩
theorem aEi (r:Int) (w:World):R_ 93 #[r] w (.bool (qC r)):=by
 unfold qC;go_enter func93,ntmps93;go_wp2
 all_goals
  go_ret;exact ⟨by first|rfl|simp [*],X_⟩
theorem eG (f:Nat->Int):qX f=(cU (f 0) (f 1) (f 2)&&cU (f 3) (f 4) (f 5)&&cU (f 6) (f 7) (f 8)&&cU (f 9) (f 10) (f 11)):=rfl
theorem gV (f:Nat->Int) (w:World):R_ 145 #[.agg f] w (.bool (qX f)):=by
 have j0:=pJ f 0 (by decide);have j1:=pJ f 1 (by decide);have j2:=pJ f 2 (by decide);have j3:=pJ f 3 (by decide);simp only [Nat.mul_zero,aRt,Nat.mul_one,aTx,Nat.reduceMul,Int.cast_ofNat_Int] at j0 j1 j2 j3;have X0:Ext w (w.alloc (.cells f 125)):=X_;go_enter func145,ntmps145;go_wp2_with fail
 obtain ⟨W0,h0⟩:=e_ (w.alloc (.cells f 125))
 rw [h0] at X0 ⊢;clear h0
 go_loopw [7] (fun i wr=>∃k:Nat,k<=4/\i = .int .i64 (k:Nat)/\Ext w wr/\(0<k->cU (f 0) (f 1) (f 2)=true)/\(1<k->cU (f 3) (f 4) (f 5)=true)/\(2<k->cU (f 6) (f 7) (f 8)=true)/\(3<k->cU (f 9) (f 10) (f 11)=true)) (fun i _=>4 - (intOf i).toNat)
 case atStart=>exact ⟨0,by omega,rfl,X0,by omega,by omega,by omega,by omega⟩
 case round=>
  obtain ⟨k,hk,rfl,hx,b0,b1,b2,b3⟩:=hrel;have HX:=hid hx;have B0:=hid b0;have B1:=hid b1;have B2:=hid b2;have B3:=hid b3;clear hx b0 b1 b2 b3 X0
  rcases (show k=0\/k=1\/k=2\/k=3\/k=4 by omega) with rfl|rfl|rfl|rfl|rfl
  ·go_wp2_with fail
   refine r_ (dM _) fun w3 x3=>?_;have y3:Ext wr w3:=aQ3 (show Ext wr (wr.alloc (.cells #[(f 0),(f 1),(f 2)] 122)) from X_) x3
   cases hb:cU (f 0) (f 1) (f 2)
   ·go_wp2
    go_ret;exact ⟨by rw [eG,hb];simp,HX.trans y3⟩
   ·have HB:=hid hb
    clear hb;go_wp2;go_roundw
    case rel=>exact ⟨1,by omega,by go_num,HX.trans y3,fun _=>HB.out,fun h=>absurd h (by omega),fun h=>absurd h (by omega),fun h=>absurd h (by omega)⟩
    case measure=>simp [intOf]
  ·go_wp2_with fail
   refine r_ (dM _) fun w3 x3=>?_;have y3:Ext wr w3:=aQ3 (show Ext wr (wr.alloc (.cells #[(f 3),(f 4),(f 5)] 122)) from X_) x3
   cases hb:cU (f 3) (f 4) (f 5)
   ·go_wp2
    go_ret;exact ⟨by rw [eG,hb];simp,HX.trans y3⟩
   ·have HB:=hid hb
    clear hb;go_wp2;go_roundw
    case rel=>exact ⟨2,by omega,by go_num,HX.trans y3,fun h=>B0.out (by omega),fun _=>HB.out,fun h=>absurd h (by omega),fun h=>absurd h (by omega)⟩
    case measure=>simp [intOf]
  ·go_wp2_with fail
   refine r_ (dM _) fun w3 x3=>?_;have y3:Ext wr w3:=aQ3 (show Ext wr (wr.alloc (.cells #[(f 6),(f 7),(f 8)] 122)) from X_) x3
   cases hb:cU (f 6) (f 7) (f 8)
   ·go_wp2
    go_ret;exact ⟨by rw [eG,hb];simp,HX.trans y3⟩
   ·have HB:=hid hb
    clear hb;go_wp2;go_roundw
    case rel=>exact ⟨3,by omega,by go_num,HX.trans y3,fun h=>B0.out (by omega),fun h=>B1.out (by omega),fun _=>HB.out,fun h=>absurd h (by omega)⟩
    case measure=>simp [intOf]
  ·go_wp2_with fail
   refine r_ (dM _) fun w3 x3=>?_;have y3:Ext wr w3:=aQ3 (show Ext wr (wr.alloc (.cells #[(f 9),(f 10),(f 11)] 122)) from X_) x3
   cases hb:cU (f 9) (f 10) (f 11)
   ·go_wp2
    go_ret;exact ⟨by rw [eG,hb];simp,HX.trans y3⟩
   ·have HB:=hid hb
    clear hb;go_wp2;go_roundw
    case rel=>exact ⟨4,by omega,by go_num,HX.trans y3,fun h=>B0.out (by omega),fun h=>B1.out (by omega),fun h=>B2.out (by omega),fun _=>HB.out⟩
    case measure=>simp [intOf]
  ·go_wp2
   go_ret;exact ⟨by rw [eG,B0 (by omega),B1 (by omega),B2 (by omega),B3 (by omega)];rfl,HX⟩
theorem pN (f g:Nat->Int) (sh rt:Int) (n:Nat) (w:World):R_ 95 #[.agg #[(f 0),(f 1),(f 2),(f 3),(f 4),(f 5),(f 6),(f 7),(f 8),(f 9),(f 10),(f 11),(g 0),(g 1),(g 2),(g 3),(g 4),(g 5),(g 6),(g 7),(g 8),(g 9),(g 10),(g 11),sh,rt],(n:Nat)] w (.bool (aM5 f g sh rt n)):=by
 have q0:=aQ8 w 127 [(f 0),(f 1),(f 2),(f 3),(f 4),(f 5),(f 6),(f 7),(f 8),(f 9),(f 10),(f 11),(g 0),(g 1),(g 2),(g 3),(g 4),(g 5),(g 6),(g 7),(g 8),(g 9),(g 10),(g 11),sh,rt];have R0:=hid q0;have X0:=hid (show Ext w (w.alloc (.cells #[(f 0),(f 1),(f 2),(f 3),(f 4),(f 5),(f 6),(f 7),(f 8),(f 9),(f 10),(f 11),(g 0),(g 1),(g 2),(g 3),(g 4),(g 5),(g 6),(g 7),(g 8),(g 9),(g 10),(g 11),sh,rt] 127)) from X_);clear q0
 obtain ⟨b1,q5⟩:=e_ (qX f)
 obtain ⟨b2,q6⟩:=e_ (qX g)
 obtain ⟨b3,q7⟩:=e_ (uL rt)
 have C1:∀W:World,R_ 145 #[.agg f] W (.bool b1):=fun W=>q5▸gV f W;have C2:∀W:World,R_ 145 #[.agg g] W (.bool b2):=fun W=>q6▸gV g W;have C3:∀W:World,R_ 146 #[rt] W (.bool b3):=fun W=>q7▸aEh rt W;have H1:=hid C1;have H2:=hid C2;have H3:=hid C3;unfold aM5;rw [q5,q6,q7];clear q5 q6 q7 C1 C2 C3
 cases b1
 case false=>
  go_enter func95,ntmps95;go_wp2_with fail;refine r_ (H1 _) fun w1 x1=>?_;have X1:=hid (X0.trans x1);have R1:=hid (R0.ext x1);clear x1;go_wp2;go_ret;exact ⟨by simp [*],X1⟩
 case true=>
  cases b2
  case false=>
   go_enter func95,ntmps95;go_wp2_with fail;refine r_ (H1 _) fun w1 x1=>?_;have X1:=hid (X0.trans x1);have R1:=hid (R0.ext x1);clear x1;have h2:=R1.cell 12 rfl;have h3:=R1.cell 13 rfl;have h4:=R1.cell 14 rfl;have h5:=R1.cell 15 rfl;have h6:=R1.cell 16 rfl;have h7:=R1.cell 17 rfl;have h8:=R1.cell 18 rfl;have h9:=R1.cell 19 rfl;have q1:=R1.cell 20 rfl;have q2:=R1.cell 21 rfl;have q3:=R1.cell 22 rfl;have q4:=R1.cell 23 rfl;go_wp2_with fail;refine r_ (H2 _) fun w2 x2=>?_;have X2:=hid (X1.trans x2);have R2:=hid (R1.ext x2);clear x2;go_wp2;go_ret;exact ⟨by simp [*],X2⟩
  case true=>
   rcases aX1 sh 0 with h0|h0
   ·have g0:decide (0<=sh)=false:=by simp;omega
    go_enter func95,ntmps95;go_wp2_with fail;refine r_ (H1 _) fun w1 x1=>?_;have X1:=hid (X0.trans x1);have R1:=hid (R0.ext x1);clear x1;have h2:=R1.cell 12 rfl;have h3:=R1.cell 13 rfl;have h4:=R1.cell 14 rfl;have h5:=R1.cell 15 rfl;have h6:=R1.cell 16 rfl;have h7:=R1.cell 17 rfl;have h8:=R1.cell 18 rfl;have h9:=R1.cell 19 rfl;have q1:=R1.cell 20 rfl;have q2:=R1.cell 21 rfl;have q3:=R1.cell 22 rfl;have q4:=R1.cell 23 rfl;go_wp2_with fail;refine r_ (H2 _) fun w2 x2=>?_;have X2:=hid (X1.trans x2);have R2:=hid (R1.ext x2);clear x2;have q8:=R2.cell 24 rfl;go_wp2;go_ret;exact ⟨by simp [*],X2⟩
   ·have g0:decide (0<=sh)=true:=by simp;omega
    rcases aX1 sh n with h1|h1
    ·have g1:decide (sh<(n:Int))=true:=by simp;omega
     go_enter func95,ntmps95;go_wp2_with fail;refine r_ (H1 _) fun w1 x1=>?_;have X1:=hid (X0.trans x1);have R1:=hid (R0.ext x1);clear x1;have h2:=R1.cell 12 rfl;have h3:=R1.cell 13 rfl;have h4:=R1.cell 14 rfl;have h5:=R1.cell 15 rfl;have h6:=R1.cell 16 rfl;have h7:=R1.cell 17 rfl;have h8:=R1.cell 18 rfl;have h9:=R1.cell 19 rfl;have q1:=R1.cell 20 rfl;have q2:=R1.cell 21 rfl;have q3:=R1.cell 22 rfl;have q4:=R1.cell 23 rfl;go_wp2_with fail;refine r_ (H2 _) fun w2 x2=>?_;have X2:=hid (X1.trans x2);have R2:=hid (R1.ext x2);clear x2;have q8:=R2.cell 24 rfl;have q9:=R2.cell 25 rfl;go_wp2_with fail;refine r_ (H3 _) fun w3 x3=>?_;have X3:=hid (X2.trans x3);have R3:=hid (R2.ext x3);clear x3;go_wp2;go_ret;exact ⟨by simp [*],X3⟩
    ·have g1:decide (sh<(n:Int))=false:=by simp;omega
     go_enter func95,ntmps95;go_wp2_with fail;refine r_ (H1 _) fun w1 x1=>?_;have X1:=hid (X0.trans x1);have R1:=hid (R0.ext x1);clear x1;have h2:=R1.cell 12 rfl;have h3:=R1.cell 13 rfl;have h4:=R1.cell 14 rfl;have h5:=R1.cell 15 rfl;have h6:=R1.cell 16 rfl;have h7:=R1.cell 17 rfl;have h8:=R1.cell 18 rfl;have h9:=R1.cell 19 rfl;have q1:=R1.cell 20 rfl;have q2:=R1.cell 21 rfl;have q3:=R1.cell 22 rfl;have q4:=R1.cell 23 rfl;go_wp2_with fail;refine r_ (H2 _) fun w2 x2=>?_;have X2:=hid (X1.trans x2);have R2:=hid (R1.ext x2);clear x2;have q8:=R2.cell 24 rfl;go_wp2;go_ret;exact ⟨by simp [*],X2⟩
theorem aAy {b:Nat} (hb:w.heap.size=b):bE (w.alloc (.cells f t)) b t 12 f:=
 hb▸World.rowIs_alloc _ _ _ _ fun i hi=>by rcases aM6 hi with h|h|h|h|h|h|h|h|h|h|h|h <;> subst h <;> rfl
structure Pt where
 u:Int
 v:Int
 x:Int
 y:Int
 z:Int
def Pt.ls (p:Pt):List Int:=[p.u,p.v,p.x,p.y,p.z]
def Pt.cs (p:Pt):List Value:=[p.u,p.v,p.x,p.y,p.z]
def aCi (lo:Nat) (w:World) (v:Value) (xs:List Pt):Prop:=aF Pt.cs lo 228 5 w v xs
theorem aEj:(Tryz.prog.info? 228).map (fun i=>(i.zero,i.size,i.bytes))=some (some (.agg #[(),(),(),(),()]),5,40):=by kernel_rfl
theorem mC (w:World) (hg:o.guard=none) (s x:Operand)
  (hop:o.op=Op.call { callee:=Callee.builtin Builtin.append,args:=#[s,x],argTypes:=#[166,166] }) (lo:Nat) (v:Value) (xs:List Pt) (hs:a.eval s=v) (hown:aCi lo w v xs)
  (y:Pt) (b:Nat) (hx:a.eval x = .slice (some ⟨b,0,none⟩) 1 1) (hcell:∀j,j<5->w.cell? ⟨b,j,none⟩=y.cs[j]?) (hlen:xs.length<1000000) (hlo:lo<=w.heap.size)
  (hK:∀v' w',aCi lo w' v' (xs++[y])->w.grownBy w' v.ownBlock->wpList aQ2 ops Q rest (a.put o.dst v') w'):wpList aQ2 ops Q (o::rest) a w:=by
 refine dV Pt.cs 228 5 40 _ w hg s x 166 hop underlying166 aEj rfl (by decide) (by decide) (fun _=>rfl) lo v xs hs hown y b hx hcell ?_ hlen hlo hK;intro u hu;simp only [Pt.cs,aRk,aRe,or_false] at hu
 rcases hu with rfl|rfl|rfl|rfl|rfl <;> rfl
section
open Go.RowKit Go.Shelf
attribute [local go_sem] Oper.semAt_some
def ptG (f:Nat->Int) (n i j:Nat):Pt:=⟨(i:Int)*256 / (n:Int),(j:Int)*256 / (n:Int),(evP f i j n).x,(evP f i j n).y,(evP f i j n).z⟩
def gW (f:Nat->Int) (n:Nat) (pre:List (Fin n×Fin n)):List Pt:=pre.map fun p=>ptG f n p.1 p.2
theorem aJg (f:Nat->Int) (n:Nat) (pre:List (Fin n×Fin n)) (x:Fin n×Fin n):gW f n (pre++[x])=gW f n pre++[ptG f n x.1 x.2]:=by
 unfold gW;rw [aS8,List.map_singleton]
theorem aEk (f:Nat->Int) (n:Nat) (hn:0<n) {i:Nat} {x:Pt} (h:(gW f n (cC n hn (n*n)))[i]?=some x):x=ptG f n (i % n) (i / n):=by
 unfold gW cC at h;rw [aX2,aSo] at h;obtain ⟨q,hq,rfl⟩:=aW4.1 h;obtain ⟨hl,rfl⟩:=aQz.1 hq;rw [aUo] at hl;rw [aUe];have hd:i / n<n:=aTg hl
 show ptG f n (i % n) (i / n % n)=_
 rw [Nat.mod_eq_of_lt hd]
theorem jL (f:Nat->Int) (n q k:Nat) (hk:k<5):aAw f n (q*5+k)=(ptG f n (q % n) (q / n)).ls.getD k 0:=by
 have e1:(q*5+k) / 5=q:=by omega
 have e2:(q*5+k) % 5=k:=by omega
 unfold aAw;rw [e1,e2]
 rcases (show k=0\/k=1\/k=2\/k=3\/k=4 by omega) with rfl|rfl|rfl|rfl|rfl <;> rfl
theorem aGp {a b c d i j n:Int} (hn:1<=n) (hi:0<=i/\i<=n) (hj:0<=j/\j<=n) : -1000000<=evC a b c d i j n/\evC a b c d i j n<=1000000:=
 ⟨aJ6 hn hi hj (cM _).1 (cM _).1 (cM _).1 (cM _).1,aJ7 hn hi hj (cM _).2 (cM _).2 (cM _).2 (cM _).2⟩
theorem aNv {i n:Nat} (h1:1<=n) (h:i<n):0<=((i:Int)*256 / (n:Int))/\((i:Int)*256 / (n:Int))<=256:=
 ⟨Int.ediv_nonneg (by omega) (by omega),Int.ediv_le_of_le_mul (by omega) (by omega)⟩
theorem aGq (f:Nat->Int) {n i j:Nat} (h1:1<=n) (hi:i<n) (hj:j<n):∀x∈(ptG f n i j).ls,-1000000<=x/\x<=1000000:=by
 intro x hx;have u:=aNv h1 hi;have v:=aNv h1 hj;simp only [ptG,Pt.ls,evP,aRk,aRe,or_false] at hx
 rcases hx with rfl|rfl|rfl|rfl|rfl
 ·omega
 ·omega
 ·exact aGp (by omega) (by omega) (by omega)
 ·exact aGp (by omega) (by omega) (by omega)
 ·exact aGp (by omega) (by omega) (by omega)
theorem xT {f:Nat->Int} {n:Nat} {t:Tex} (hn:1<=n/\n<=8) (ht:t.okB=true):(nE f n t).okB=true:=by
 unfold Grd.okB nE;simp only [aRd,aG,decide_eq_true_eq,aR5,aR4];refine ⟨⟨⟨⟨⟨by omega,by omega⟩,by rw [aUb]⟩,by decide,by decide⟩,ht⟩,fun q hq=>?_⟩;unfold ptB;rw [aR5];intro x hx;have hu:q % n<n:=aTp _ (by omega);have hv:q / n<n:=aTg hq;refine aG.2 (aGq f hn.1 hu hv x ?_);have e0:=jL f n q 0 (by decide);have e1:=jL f n q 1 (by decide);have e2:=jL f n q 2 (by decide);have e3:=jL f n q 3 (by decide);have e4:=jL f n q 4 (by decide);simp only [ptL,aRk,aRe,or_false] at hx;simp only [Pt.ls,List.getD_cons_zero,List.getD_cons_succ,aSk] at e0 e1 e2 e3 e4;simp only [Pt.ls,aRk,aRe,or_false]
 rcases hx with rfl|rfl|rfl|rfl|rfl
 ·exact .inl e0
 ·exact .inr (.inl e1)
 ·exact .inr (.inr (.inl e2))
 ·exact .inr (.inr (.inr (.inl e3)))
 ·exact .inr (.inr (.inr (.inr e4)))
theorem aHy {t:Tex} (h:t.okB=true):1<=t.px.length/\t.px.length<=1000:=by
 have h:=Tex.okB_iff.1 h;obtain ⟨h0,h4,hl,-⟩:=h;have h1:=h0;rw [hl];unfold Tex.n
 have:t.log=0\/t.log=1\/t.log=2\/t.log=3\/t.log=4:=by omega
 rcases this with e|e|e|e|e <;> rw [e] <;> decide
theorem xU (l1 lo hi:Nat) (u:Value) (xs:List Int) (w:World) (hu:aU lo hi w u xs) (hh:hi<=w.heap.size) (h1:1<=xs.length) (h2:xs.length<=1000) (hl:l1<=w.heap.size) :
  Calls aQ2 164 #[u] w fun e w'=>∃v',e = .returned v'/\aB l1 w' v' xs/\Ext w w':=(aGo lo hi u xs w hu hh h1 h2).mono (by rintro e w' ⟨v',h1,h2,h3⟩;exact ⟨v',h1,h2.low hl,h3⟩)
theorem aGr:(Tryz.prog.info? 168).map (fun i=>i.size)=some 5:=by kernel_rfl
theorem TuR.open {lo:Nat} {w:World} {v:Value} {xs:List Int} (h:TuR lo w v xs):∃g cs,Blk w g 3 cs/\∀w',Blk w' g 3 cs->aB lo w' v xs:=by
 obtain ⟨g,cs,_,h2,h3⟩:=h;exact ⟨g,cs,h2,h3⟩
def CGr (w A m:Nat):Addr->Prop:=fun a=>a.block=w+1\/a.block=A\/a.block=m
@[go_sem] theorem aP9 {w A m k o:Nat} (h:k=w+1\/k=A\/k=m):CGr w A m ⟨k,o,none⟩:=h
def grF (f:Nat->Int) (n:Nat) (t:Tex) (a:Option Addr) (cap w g:Nat) (cs:List Value) (nb:Nat):List (Nat×TypeId×List Value):=
 [(w,125,f),(w+1,3,[(n:Nat)]),(w+1+1,36,[t.log,.slice a t.px.length cap]),(w+1+1+1,168,[(),.slice none 0 0,(),(),.slice none 0 0]),(g,3,cs),(nb,3,[(n:Nat)])]
theorem aOp {f:Nat->Int} {n:Nat} {t:Tex} {a:Option Addr} {cap w g:Nat} {cs:List Value} {nb A:Nat} (h1:w+4<=A) (h2:g≠A) (h3:nb≠A):∀p∈grF f n t a cap w g cs nb,p.2.1≠228/\p.1≠A:=by
 intro p hp;simp only [grF,aRk,aRe,or_false] at hp
 rcases hp with rfl|rfl|rfl|rfl|rfl|rfl <;> exact ⟨by simp,by simp only [ne_eq];omega⟩
theorem aEl (lo hi:Nat) (f:Nat->Int) (hf:qX f=true) (n:Nat) (hn:1<=n/\n<=8) (tv:Value) (t:Tex) (w:World) (ht:cN lo hi w tv t) (hh:hi<=w.heap.size) (hok:t.okB=true) :
  Calls aQ2 106 #[.agg f,(n:Nat),(),tv] w fun e w'=>∃v,e = .returned (.tuple #[v,.bool true])/\(nE f n t).R w.heap.size w'.heap.size w' v/\Ext w w':=by
 obtain ⟨tu,rfl,x8,hu⟩:=ht;have HU:=hid hu;obtain ⟨a,cap,rfl,HA⟩:=hu.open;have z5:=(aHy hok).1;have x4:=(aHy hok).2;have d1:=hid hok;have HF:=hid hf;have d4:=hid x8;clear hu HA hf hok x8;have C0:∀W:World,Calls aQ2 165 #[(n:Nat)] W fun e w'=>e = .returned (.func (.func 217) #[] #[.pointer (some ⟨W.heap.size,0,none⟩)])/\w'=W.alloc (.cells #[(n:Nat)] 3):=fun W=>(callsIn_wide (n:=0)).1 (sZ n 0 W);have C2:=hid C0;clear C0;have I1:=hid (aG.2 (show (1:Int)<=(n:Int)/\(n:Int)<=8 by omega))
 have h4:0<n:=by omega
 have q0:=aQ8 w 125 f;have q1:=aQ8 (w.alloc (.cells f 125)) 3 [(n:Nat)];have q2:=aQ8 ((w.alloc (.cells f 125)).alloc (.cells #[(n:Nat)] 3)) 36 [t.log,.slice a t.px.length cap];have q3:=aQ8 (((w.alloc (.cells f 125)).alloc (.cells #[(n:Nat)] 3)).alloc (.cells #[t.log,.slice a t.px.length cap] 36)) 168 [(),.slice none 0 0,(),(),.slice none 0 0];simp only [aQy] at q1 q2 q3;have r0:=q0.ext (show Ext (w.alloc (.cells f 125)) ((((w.alloc (.cells f 125)).alloc (.cells #[(n:Nat)] 3)).alloc (.cells #[t.log,.slice a t.px.length cap] 36)).alloc (.cells #[(),.slice none 0 0,(),(),.slice none 0 0] 168)) from X_);have R0:=hid r0;have r1:=q1.ext (show Ext ((w.alloc (.cells f 125)).alloc (.cells #[(n:Nat)] 3)) ((((w.alloc (.cells f 125)).alloc (.cells #[(n:Nat)] 3)).alloc (.cells #[t.log,.slice a t.px.length cap] 36)).alloc (.cells #[(),.slice none 0 0,(),(),.slice none 0 0] 168)) from X_);have R1:=hid r1;have r2:=q2.ext (show Ext (((w.alloc (.cells f 125)).alloc (.cells #[(n:Nat)] 3)).alloc (.cells #[t.log,.slice a t.px.length cap] 36)) ((((w.alloc (.cells f 125)).alloc (.cells #[(n:Nat)] 3)).alloc (.cells #[t.log,.slice a t.px.length cap] 36)).alloc (.cells #[(),.slice none 0 0,(),(),.slice none 0 0] 168)) from X_);have R2:=hid r2;have r3:=q3.ext (show Ext ((((w.alloc (.cells f 125)).alloc (.cells #[(n:Nat)] 3)).alloc (.cells #[t.log,.slice a t.px.length cap] 36)).alloc (.cells #[(),.slice none 0 0,(),(),.slice none 0 0] 168)) ((((w.alloc (.cells f 125)).alloc (.cells #[(n:Nat)] 3)).alloc (.cells #[t.log,.slice a t.px.length cap] 36)).alloc (.cells #[(),.slice none 0 0,(),(),.slice none 0 0] 168)) from X_);have R3:=hid r3;have X0:=hid (show Ext w ((((w.alloc (.cells f 125)).alloc (.cells #[(n:Nat)] 3)).alloc (.cells #[t.log,.slice a t.px.length cap] 36)).alloc (.cells #[(),.slice none 0 0,(),(),.slice none 0 0] 168)) from X_)
 have z0:((((w.alloc (.cells f 125)).alloc (.cells #[(n:Nat)] 3)).alloc (.cells #[t.log,.slice a t.px.length cap] 36)).alloc (.cells #[(),.slice none 0 0,(),(),.slice none 0 0] 168)).heap.size=w.heap.size+4:=by simp
 have Z0:=hid z0;clear q0 q1 q2 q3 r0 r1 r2 r3 z0;refine (callsIn_wide (n:=3)).1 ?_;refine callsIn_of_wp_marks func106 rfl trivial ?_ rfl;simp only [ntmps106,aVx,aSc,aS7,aTx,Nat.reduceSub,Array.replicate_succ,Array.replicate_zero,List.push_toArray,List.append_toArray,aSu,aV5];refine wpIn_wide.2 ?_;go_wp2_with fail;refine (gV f _).mono ?_;rw [HF];rintro e w1 ⟨rfl,x1⟩;have S0:=R0.ext x1;have S1:=R1.ext x1;have S2:=R2.ext x1;have S3:=R3.ext x1;have X1:=hid (X0.trans x1);have Z1:=hid (show w.heap.size+4<=w1.heap.size by have:=x1.size;have:=Z0.out;omega);have n0:=S1.cell 0 rfl;have l1:=S1.lt;obtain ⟨t0,t1⟩:=S2.q2;have l2:=S2.lt;have H0:=hid S0;have H1:=hid S1;have H2:=hid S2;have H3:=hid S3;clear S0 S1 S2 S3 x1 R0 R1 R2 R3 X0 Z0;go_upto_region 3 with (go_at_call 92;refine z_ (aH I1 _) ?_)
 go_cut [10] from 23 to 31 (fun q wx=>∃A sa sc,q = .pointer (some ⟨A,0,none⟩)/\w1.heap.size<=A/\Blk wx A 168 [(n:Nat),.slice none 0 0,(),t.log,.slice sa t.px.length sc]/\TuR w1.heap.size wx (.slice sa t.px.length sc) t.px/\Ext w1 wx)
 case first=>
  refine cZ 10 w1.heap.size (by kernel_rfl) ?_;refine z2_ (fuel:=4) [0,1,2,3,4,5] 6 9 (fun b _ hb=>rfl) (fun K hK=>?_) fun K hK=>?_
  ·go_wp2_with fail
   refine (xU w1.heap.size lo hi _ t.px _ (HU.ext hh (X1.trans (aRz (aQ6 _)))) (aQ5 hh (X1.trans (aRz (aQ6 _))).size) z5 x4 (Ext.size (aRz (aQ6 _)))).mono ?_;rintro e a0 ⟨v0,rfl,o0,y0⟩;have u0:Ext w1 a0:=aQ3 X_ y0;obtain ⟨g7,g8,rfl,_⟩:=o0.form;have T0:=o0.tur z5;clear o0;go_wp2_with fail;refine hK _ _ (.inr (fun b _ hb=>u0.block (by omega))) ?_;clear hK K;refine z1_ (fuel:=1) [7,8] 9 (fun b _ hb=>u0.block (by omega)) fun K hK=>?_;go_wp2;have z8:w1.heap.size<=a0.heap.size:=u0.size;refine hK _ _ (.inr (fun b _ hb=>(aRa (w:=a0) X_ (by omega)).trans (u0.block (by omega)))) ?_;clear hK K;have q7:Ext a0 (a0.alloc (.cells #[(),.slice none 0 0,(),(),.slice none 0 0] 168)):=X_;have h0:Blk (a0.alloc (.cells #[(),.slice none 0 0,(),(),.slice none 0 0] 168)) (a0.heap.size) 168 [(),.slice none 0 0,(),(),.slice none 0 0]:=aQ8 _ _ _
   obtain ⟨d8,x2⟩:=e_ (a0.alloc (.cells #[(),.slice none 0 0,(),(),.slice none 0 0] 168))
   rw [x2] at q7 h0 ⊢;have c7:Ext w1 d8:=u0.trans q7;have d5:=T0.ext q7;clear x2;refine z1_ (fuel:=0) [] 10 (fun b _ hb=>c7.block (by omega)) fun K hK=>?_;have z0:=h0.cell 0 rfl;have e8:=h0.free 0;have z1:=h0.cell 1 rfl;have e9:=h0.free 1;have z2:=h0.cell 2 rfl;have g0:=h0.free 2;have z3:=h0.cell 3 rfl;have g1:=h0.free 3;have z4:=h0.cell 4 rfl;have g2:=h0.free 4;have zl:=h0.lt;go_wp2;refine l_ hK ?_;clear hK K;refine bX (by kernel_rfl) ?_;go_wp2_with fail
   go_meet
   have h6:=z8;exact ⟨a0.heap.size,_,_,rfl,h6,(((((h0.set 0 _).set 1 _).set 2 _).set 3 _).set 4 _),(((((d5.set h0 (by decide) 0 _).set (h0.set 0 _) (by decide) 1 _).set ((h0.set 0 _).set 1 _) (by decide) 2 _).set (((h0.set 0 _).set 1 _).set 2 _) (by decide) 3 _).set ((((h0.set 0 _).set 1 _).set 2 _).set 3 _) (by decide) 4 _),(aRf (aRf (aRf (aRf (aRf c7 (p:=⟨a0.heap.size,0,none⟩) h6 _) (p:=⟨a0.heap.size,1,none⟩) h6 _) (p:=⟨a0.heap.size,2,none⟩) h6 _) (p:=⟨a0.heap.size,3,none⟩) h6 _) (p:=⟨a0.heap.size,4,none⟩) h6 _)⟩
  ·go_wp2
   have d9:w1.heap.size<=w1.heap.size:=aQv _;refine k_ hK ?_;clear hK K;have c9:Ext w1 ((w1.alloc (.cells #[(),.slice none 0 0,(),(),.slice none 0 0] 168)).drew):=X_;have bA:Blk ((w1.alloc (.cells #[(),.slice none 0 0,(),(),.slice none 0 0] 168)).drew) (w1.heap.size) 168 [(),.slice none 0 0,(),(),.slice none 0 0]:=(aQ8 _ _ _).ext (aRz (aQ6 _))
   obtain ⟨dA,c3⟩:=e_ ((w1.alloc (.cells #[(),.slice none 0 0,(),(),.slice none 0 0] 168)).drew)
   rw [c3] at c9 bA ⊢;have uA:Ext w1 dA:=c9;clear c3;refine z1_ (fuel:=3) [] 6 (fun b _ hb=>uA.block (by omega)) fun K hK=>?_;go_wp2_with fail;refine (xU w1.heap.size lo hi _ t.px _ (HU.ext hh (X1.trans uA)) (aQ5 hh (X1.trans uA).size) z5 x4 (Ext.size uA)).mono ?_;rintro e aA0 ⟨g9,rfl,a8,c8⟩;have b5:Ext w1 aA0:=uA.trans c8;have h3:=bA.ext c8;obtain ⟨e6,e7,rfl,_⟩:=a8.form;have d6:=a8.tur z5;clear a8;go_wp2_with fail;refine hK _ _ (.inr (fun b _ hb=>b5.block (by omega))) ?_;clear hK K;refine z1_ (fuel:=0) [7,8] 10 (fun b _ hb=>b5.block (by omega)) fun K hK=>?_;have z0:=h3.cell 0 rfl;have e8:=h3.free 0;have z1:=h3.cell 1 rfl;have e9:=h3.free 1;have z2:=h3.cell 2 rfl;have g0:=h3.free 2;have z3:=h3.cell 3 rfl;have g1:=h3.free 3;have z4:=h3.cell 4 rfl;have g2:=h3.free 4;have zl:=h3.lt;go_wp2;refine l_ hK ?_;clear hK K;refine bX (by kernel_rfl) ?_;go_wp2_with fail
   go_meet
   have h6:=d9;exact ⟨w1.heap.size,_,_,rfl,h6,(((((h3.set 0 _).set 1 _).set 2 _).set 3 _).set 4 _),(((((d6.set h3 (by decide) 0 _).set (h3.set 0 _) (by decide) 1 _).set ((h3.set 0 _).set 1 _) (by decide) 2 _).set (((h3.set 0 _).set 1 _).set 2 _) (by decide) 3 _).set ((((h3.set 0 _).set 1 _).set 2 _).set 3 _) (by decide) 4 _),(aRf (aRf (aRf (aRf (aRf b5 (p:=⟨w1.heap.size,0,none⟩) h6 _) (p:=⟨w1.heap.size,1,none⟩) h6 _) (p:=⟨w1.heap.size,2,none⟩) h6 _) (p:=⟨w1.heap.size,3,none⟩) h6 _) (p:=⟨w1.heap.size,4,none⟩) h6 _)⟩
 case rest=>
  obtain ⟨A,sa,sc,rfl,hA,bA,tA,xa⟩:=hcut;obtain ⟨g,cs,bg,q9⟩:=tA.open
  have e0:g≠A:=fun e=>by
   subst e;unfold Blk at bg bA;rw [bg] at bA;simp only [aQ0,aR8] at bA;exact absurd bA.2.1 (by decide)
  have la:=xa.size;have e1:=H1.ext xa;have n1:=e1.cell 0 rfl;have e5:=e1.lt;have K0:=hid (H0.ext xa);have K1:=hid e1;have K2:=hid (H2.ext xa);have K3:=hid (H3.ext xa);have KA:=hid bA;have KG:=hid bg;have KO:=hid q9;have XC:=hid (X1.trans xa);clear e1 bA tA bg q9 xa H0 H1 H2 H3 n0 l1 t0 t1 l2;go_wp2_with fail;refine (C2 _).mono ?_;rintro e _ ⟨rfl,rfl⟩;go_wp2_with fail
  obtain ⟨W0,x0⟩:=e_ (wc.alloc (.cells #[(n:Nat)] 3))
  have xx:Ext wc W0:=x0▸X_;have z0:W0.heap.size=wc.heap.size+1:=x0▸aQy _ _;have r9:Blk W0 wc.heap.size 3 [(n:Nat)]:=x0▸aQ8 wc 3 [(n:Nat)];rw [x0];clear x0;have g5:=KA.lt
  have z6:w.heap.size+4<=A:=by have:=Z1.out;omega
  have NE:=hid (aOp (f:=f) (n:=n) (t:=t) (a:=a) (cap:=cap) (w:=w.heap.size) (g:=g) (cs:=cs) (nb:=wc.heap.size) z6 e0 (by omega))
  have z7:RB Pt.cs 228 5 168 (fun v=>[(n:Nat),v,(),t.log,.slice sa t.px.length sc]) w A (grF f n t a cap w.heap.size g cs wc.heap.size) W0 (gW f n []):=by
   refine ⟨XC.trans xx,fun p hp=>?_,by omega,_,KA.ext xx,aF.nil _ _ _ _ _⟩;simp only [grF,aRk,aRe,or_false] at hp
   rcases hp with rfl|rfl|rfl|rfl|rfl|rfl
   ·exact K0.ext xx
   ·exact K1.ext xx
   ·exact K2.ext xx
   ·exact K3.ext xx
   ·exact KG.ext xx
   ·exact r9
  have z7:=hid z7;have NB:=r9.cell 0 rfl;clear r9 xx K0 K1 K2 K3 KA KG XC C2 n1 e5 X1;refine (wpIn_wide (n:=3)).1 ?_
  refine' wpIn_rangeFunc_ownG rfl (by omega) (gf:=217) (lb:=#[.pointer (some ⟨wc.heap.size,0,none⟩)]) rfl trivial (enters_of func217 (by kernel_rfl) rfl)
   (nU n h4 (by omega) _ wc.heap.size W0 (by omega) NB) (fun h k=>KB.trans h k) ?hKb (aXe _ _) (fun _=>rfl)
   (fun h5 W=>RB Pt.cs 228 5 168 (fun v=>[(n:Nat),v,(),t.log,.slice sa t.px.length sc]) w A (grF f n t a cap w.heap.size g cs wc.heap.size) W (gW f n h5))
   (fun cd h5 W=>False) ?owns ?ownsx z7 _ ?assign ?body ?done ?stop
  case hKb=>exact fun W l o o' hl ho _ _=>World.putObj_heap_other (by omega)
  case assign=>
   intro l x W K hK
   gi_wp2
   exact hK
  case owns=>exact fun h5 A' B row h hg hr=>RB.owns (by omega) (gW f n) h5 A' B row h hg hr
  case ownsx=>exact fun cd h5 A B row h hg hr=>h
  case stop=>
   rintro D cd h5 W hD - h hK;exact h.elim
  case body=>
   intro l h5 x W hI e3;have HI:=hid hI
   obtain ⟨i,z9⟩:=e_ (x.1:Nat)
   obtain ⟨j,y1⟩:=e_ (x.2:Nat)
   have g3:i<n:=z9▸x.1.2;have g4:j<n:=y1▸x.2.2
   obtain ⟨X,Y,Z,hE⟩:∃X Y Z,evP f (i:Int) (j:Int) (n:Int)=⟨X,Y,Z⟩:=⟨_,_,_,rfl⟩
   have b7:=hid hE;have N1:=hid (show (1:Int)<=n/\(n:Int)<=64 by omega);have N2:=hid (show (0:Int)<=(i:Int)/\(i:Int)<=(n:Int) by omega);have N3:=hid (show (0:Int)<=(j:Int)/\(j:Int)<=(n:Int) by omega);obtain ⟨tv,q6,h8⟩:=hI.tb;obtain ⟨ta,tc,rfl,a9⟩:=aF.form h8;have T1:=hid q6;have T2:=hid h8;have m0:=hI.fx _ (.head _);have m1:=hI.fx _ (.tail _ (.head _));have M1:=hid m1;obtain ⟨y2,y3,y4,y5,y6,y7,y8,y9,a5,a6,x6,x7⟩:=m0.q12;have a7:=m1.cell 0 rfl;have c5:=m0.lt;have c6:=m1.lt
   try simp only [grF] at c5 c6
   rw [z9,y1];clear hE hI q6 h8 m0 m1;refine wpIn_block ?_;refine wpIn_seq_k fun K1 HK1=>?_;refine dW (by kernel_rfl) (fun ⟨_,_,h⟩=>h) ?_;go_wp2_with fail;refine r_ (gB b7 N1 N2 N3 _) fun w5 x5=>?_;have Y5:=hid x5;clear x5 y2 y3 y4 y5 y6 y7 y8 y9 a5 a6 x6 x7 a7 c5 c6;go_wp2_with fail;have xv:Ext w5 (w5.alloc (.cells #[X,Y,Z] 122)):=X_;have bV:=aQ8 w5 122 [X,Y,Z];have zV:(w5.alloc (.cells #[X,Y,Z] 122)).heap.size=w5.heap.size+1:=aQy _ _
   obtain ⟨WV,c2⟩:=e_ (w5.alloc (.cells #[X,Y,Z] 122))
   rw [c2] at xv bV zV ⊢;have ZV:=hid zV;clear c2 zV;have YV:=hid (Y5.trans xv);have U1:=hid (T1.ext YV);have U2:=hid (aF.ext T2 YV);have UN:=hid (M1.ext YV);have UV:=hid bV;have c1:=U1.cell 1 rfl;have al:=U1.lt;have n0:=UN.cell 0 rfl;have nl:=UN.lt;obtain ⟨v0,v1,v2⟩:=bV.q3;have vl:=bV.lt
   try simp only [grF] at nl n0
   have g6:(n:Int)≠0:=by omega
   clear bV xv;refine oB 20 (fun w'=>∃d,w'=fU (CGr w.heap.size A w5.heap.size) WV d) (by kernel_rfl) (by kernel_rfl) (fun ⟨_,_,h⟩=>h) ?_;refine fN (fuel:=3) [0,1,2,3,4,5,6,7,8,9,10,11,12,13,14,15,16] [17] (by kernel_rfl) (aTr _ _) ?_
   try simp only [Act.put,aQ4,aRc,aRb]
   simp only [aRm,aRg,aQ1,aQw,aQx]
   show wpQuiet _ _ _ _ [_,_,_,_,_,_,_,_,_,_,_,_,_,_,_,_,_] _
   repeat (go_big_quiet_step (fail))
   refine wpQuiet_nil ?_;intro e he;simp only [aRk,aRe,or_false] at he;subst he
   (unfold gA;simp only [aQ1,aQx,aQw,aQ0];refine ⟨_,rfl,fun K hK=>?_⟩)
   go_wp2;have CL:=hid (show ∀q:Addr,CGr w.heap.size A w5.heap.size q->q.block<WV.heap.size from fun q hq=>by have hz:=ZV.out;rcases hq with h|h|h <;> omega);refine hK _ _ (.inr (aR6 fun q hq=>aRa (w:=WV) X_ (CL q hq))) ?_;clear hK K
   obtain ⟨U,hU⟩:=e_ ((i:Int)*256 / (n:Int))
   obtain ⟨V,hV⟩:=e_ ((j:Int)*256 / (n:Int))
   rw [hU,hV]
   have c4:ptG f n i j=⟨U,V,X,Y,Z⟩:=by unfold ptG;rw [hU,hV,b7]
   have d3:=hid c4;clear c4 hU hV;have xP:Ext WV ((WV.alloc (.cells #[U,V,X,Y,Z] 228)).drew):=X_;have bP:Blk ((WV.alloc (.cells #[U,V,X,Y,Z] 228)).drew) WV.heap.size 228 [U,V,X,Y,Z]:=(aQ8 WV 228 [U,V,X,Y,Z]).ext (aRz (aQ6 _))
   obtain ⟨WP,c0⟩:=e_ ((WV.alloc (.cells #[U,V,X,Y,Z] 228)).drew)
   rw [c0] at xP bP ⊢;clear c0;have XP:=hid xP;have BP:=hid bP
   have h7:(gW f n h5).length<1000000:=by
    have h1:(gW f n h5).length=h5.length:=by unfold gW;rw [aSh]
    have h2:n*n<=64:=aRy (by omega:n<=8) (by omega:n<=8);omega
   have e4:w.heap.size<=WP.heap.size:=by have:=XP.size;omega
   have d2:=hid h7;clear xP bP h7 v0 v1 v2 c1 n0;refine fN (fuel:=2) [] [18] (by kernel_rfl) (aR6 fun q hq=>XP.block (CL q hq)) ?_;refine wpQuiet_nil ?_;intro e he;simp only [aRk,aRe,or_false] at he;subst he
   (unfold gA;simp only [aQ1,aQx,aQw,aQ0];refine ⟨_,rfl,fun K hK=>?_⟩)
   refine mC _ rfl _ _ rfl w.heap.size (.slice ta (gW f n h5).length tc) (gW f n h5) rfl (aF.ext U2 XP) ⟨U,V,X,Y,Z⟩ WV.heap.size rfl (fun q hq=>by
    rcases (show q=0\/q=1\/q=2\/q=3\/q=4 by omega) with rfl|rfl|rfl|rfl|rfl
    ·exact BP.cell 0 rfl
    ·exact BP.cell 1 rfl
    ·exact BP.cell 2 rfl
    ·exact BP.cell 3 rfl
    ·exact BP.cell 4 rfl) d2 e4 ?_
   intro v8 w8 q4 hg;obtain ⟨va,vc,rfl,_⟩:=aF.form q4
   have b6:=hid (show ∀q:Addr,CGr w.heap.size A w5.heap.size q->w8.heap[q.block]?=WV.heap[q.block]? from fun q hq=>by
    have hl:=CL.out q hq
    have hr:some q.block≠(aR9 ta (gW f n h5).length tc).ownBlock:=by
     rcases hq with h|h|h
     ·rw [h];exact bT UN (by decide) U2
     ·rw [h];exact bT U1 (by decide) U2
     ·rw [h];exact bT UV (by decide) U2
    exact (hg.block _ (aSf hl XP.size) hr).trans (XP.block hl))
   have G1:=(U1.ext XP).grown hg (bT U1 (by decide) U2);have c1:=G1.cell 1 rfl;have f1:=G1.free 1;have gl:=G1.lt;have HO:=hid q4;have HG:=hid hg;clear q4 hg G1;go_wp2_with fail;refine hK _ _ (.inr (aR6 b6)) ?_;clear hK K;refine fN (fuel:=0) [19] [20] (by kernel_rfl) (aR6 b6) ?_
   try simp only [Act.put,aQ4,aRc,aRb]
   simp only [aRm,aRg,aQ1,aQw,aQx]
   show wpQuiet _ _ _ _ [_] _
   repeat (go_big_quiet_step (fail))
   refine wpQuiet_nil ?_;intro e he;simp only [aRk,aRe,or_false] at he;subst he
   (unfold gA;simp only [aQ1,aQx,aQw,aQ0];refine ⟨_,rfl,fun K hK=>?_⟩)
   go_wp2;refine l_ hK ?_;clear hK K;refine wC (by kernel_rfl) ?_;have T4:=HI.push NE (by decide) 1 rfl T1 T2 (YV.trans XP) HG HO;simp only [aRq,aSc,aS7,aRt] at T4;refine ⟨(((Ext.others (YV.trans XP)).trans (KeepsOthers.of_grownBy HG (aBr (YV.trans XP) T2))).trans (KeepsOthers.setCell _ _ _)).from _,(T4.fx _ (.tail _ (.tail _ (.tail _ (.tail _ (.tail _ (.head _))))))).trans (HI.fx _ (.tail _ (.tail _ (.tail _ (.tail _ (.tail _ (.head _))))))).symm,?_⟩
   show RB _ _ _ _ _ _ _ _ _ (gW f n (h5++[x]))
   rw [aJg,z9,y1,d3];exact T4
  case done=>
   rintro D ys W hD rfl hI hK;obtain ⟨tv,q6,h8⟩:=hI.tb;obtain ⟨ta,tc,rfl,a9⟩:=aF.form h8
   have h9:(gW f n (cC n h4 (n*n))).length=n*n:=by unfold gW;rw [aSh,nT]
   have b8:=hid (show ∀W2:World,aF Pt.cs w.heap.size 228 5 W2 (.slice ta (gW f n (cC n h4 (n*n))).length tc) (gW f n (cC n h4 (n*n)))->aB w1.heap.size W2 (.slice sa t.px.length sc) t.px->(nE f n t).R w.heap.size W2.heap.size W2 (.agg #[(n:Nat),.slice ta (gW f n (cC n h4 (n*n))).length tc,(),t.log,.slice sa t.px.length sc]) from fun W2 o1 o2=>by
    refine ⟨_,_,rfl,⟨by show -9223372036854775808<=(n:Int);omega,by show (n:Int)<=9223372036854775807;omega⟩,⟨by show (-9223372036854775808:Int)<=0;decide,by show (0:Int)<=9223372036854775807;decide⟩,d4,?_,?_⟩
    ·have h:=aF.flatsI (ls:=Pt.ls) (F:=aAw f n) o1 (by decide) (fun _=>rfl) (fun _=>rfl) (fun p hp y hy=>by
      obtain ⟨q,hq,rfl⟩:=aRw hp;have e:=aEk f n h4 (aQ9 hq);rw [h9] at hq;rw [e] at hy;have:=aGq f (n:=n) (i:=q % n) (j:=q / n) (by omega) (aTp _ h4) (aTg hq) y hy
      exact ⟨by omega,by omega⟩) (fun q p k hq hk=>by rw [aEk f n h4 hq];exact jL f n q k hk)
     rw [h9] at h ⊢;exact h
    ·exact o2.ints.wide (by have:=Z1.out;omega) (aQv _))
   have hR:=b8.out W h8 (KO W (hI.fx _ (.tail _ (.tail _ (.tail _ (.tail _ (.head _)))))));have d7:=hid h8;have KG:=hid (hI.fx _ (.tail _ (.tail _ (.tail _ (.tail _ (.head _))))));have HR:=hid hR;have k3:=hI.fx _ (.tail _ (.tail _ (.tail _ (.head _))));have K3:=hid k3;have KA:=hid q6;have d0:=hid hI.ext;have HD:=hid hK;obtain ⟨a0,a1,a2,a3,a4⟩:=q6.q5;have al:=q6.lt;clear hR hI q6 h8 k3 hK h9;go_wp2_with fail;refine (lM w.heap.size W.heap.size _ (nE f n t) _ HR (aQv _)).mono ?_;rw [xT hn d1];rintro e w9 ⟨rfl,x9⟩;have A9:=KA.ext x9;have B9:=K3.ext x9;have X9:=hid x9;clear x9 a0 a1 a2 a3 a4 al;obtain ⟨a0,a1,a2,a3,a4⟩:=A9.q5;have al:=A9.lt;obtain ⟨b0,b1,b2,b3,b4⟩:=B9.q5;have f0:=B9.free 0;have f1:=B9.free 1;have f2:=B9.free 2;have f3:=B9.free 3;have f4:=B9.free 4;have bl:=B9.lt
   try simp only [grF] at b0 b1 b2 b3 b4 f0 f1 f2 f3 f4 bl
   have BB:Blk w9 (w.heap.size+1+1+1) 168 [(),.slice none 0 0,(),(),.slice none 0 0]:=B9
   have x3:g≠w.heap.size+1+1+1:=fun e=>by
    have h:Blk w9 g 3 cs:=KG.ext X9;rw [e] at h;unfold Blk at h BB;rw [h] at BB;simp only [aQ0,aR8] at BB;exact absurd BB.2.1 (by decide)
   have q8:=hid BB;clear A9 B9 BB;go_wp2_with fail
   have oF:=(aF.setBlk (aF.setBlk (aF.setBlk (aF.setBlk (aF.setBlk (aF.ext d7 X9) q8 (by decide) 0 (.int .i64 (n:Nat))) (q8.set 0 (.int .i64 (n:Nat))) (by decide) 1 (.slice ta (gW f n (cC n h4 (n*n))).length tc)) ((q8.set 0 (.int .i64 (n:Nat))).set 1 (.slice ta (gW f n (cC n h4 (n*n))).length tc)) (by decide) 2 (.int .i64 0)) (((q8.set 0 (.int .i64 (n:Nat))).set 1 (.slice ta (gW f n (cC n h4 (n*n))).length tc)).set 2 (.int .i64 0)) (by decide) 3 (.int .i64 t.log)) ((((q8.set 0 (.int .i64 (n:Nat))).set 1 (.slice ta (gW f n (cC n h4 (n*n))).length tc)).set 2 (.int .i64 0)).set 3 (.int .i64 t.log)) (by decide) 4 (.slice sa t.px.length sc))
   have gF:=((((((KG.ext X9).other (a:=⟨w.heap.size+1+1+1,0,none⟩) x3 (.int .i64 (n:Nat))).other (a:=⟨w.heap.size+1+1+1,1,none⟩) x3 (.slice ta (gW f n (cC n h4 (n*n))).length tc)).other (a:=⟨w.heap.size+1+1+1,2,none⟩) x3 (.int .i64 0)).other (a:=⟨w.heap.size+1+1+1,3,none⟩) x3 (.int .i64 t.log)).other (a:=⟨w.heap.size+1+1+1,4,none⟩) x3 (.slice sa t.px.length sc))
   have eF:=(aRf (aRf (aRf (aRf (aRf (d0.trans X9) (p:=⟨w.heap.size+1+1+1,0,none⟩) (by simp only;omega) (.int .i64 (n:Nat))) (p:=⟨w.heap.size+1+1+1,1,none⟩) (by simp only;omega) (.slice ta (gW f n (cC n h4 (n*n))).length tc)) (p:=⟨w.heap.size+1+1+1,2,none⟩) (by simp only;omega) (.int .i64 0)) (p:=⟨w.heap.size+1+1+1,3,none⟩) (by simp only;omega) (.int .i64 t.log)) (p:=⟨w.heap.size+1+1+1,4,none⟩) (by simp only;omega) (.slice sa t.px.length sc))
   have bF:=(((((q8.set 0 (.int .i64 (n:Nat))).set 1 (.slice ta (gW f n (cC n h4 (n*n))).length tc)).set 2 (.int .i64 0)).set 3 (.int .i64 t.log)).set 4 (.slice sa t.px.length sc))
   have e2:=gI HD
   have dF:((((((w9.setCell ⟨w.heap.size+1+1+1,0,none⟩ (.int .i64 (n:Nat))).setCell ⟨w.heap.size+1+1+1,1,none⟩ (.slice ta (gW f n (cC n h4 (n*n))).length tc)).setCell ⟨w.heap.size+1+1+1,2,none⟩ ()).setCell ⟨w.heap.size+1+1+1,3,none⟩ t.log).setCell ⟨w.heap.size+1+1+1,4,none⟩ (.slice sa t.px.length sc))).heap[D]?=some (.deferred (some [])):=by
    rw [aQ7 _ _ _ _ (by simp only;omega),aQ7 _ _ _ _ (by simp only;omega),aQ7 _ _ _ _ (by simp only;omega),aQ7 _ _ _ _ (by simp only;omega),aQ7 _ _ _ _ (by simp only;omega)];exact (X9.block e2).trans HD
   obtain ⟨WF,b9⟩:=e_ (((((w9.setCell ⟨w.heap.size+1+1+1,0,none⟩ (.int .i64 (n:Nat))).setCell ⟨w.heap.size+1+1+1,1,none⟩ (.slice ta (gW f n (cC n h4 (n*n))).length tc)).setCell ⟨w.heap.size+1+1+1,2,none⟩ ()).setCell ⟨w.heap.size+1+1+1,3,none⟩ t.log).setCell ⟨w.heap.size+1+1+1,4,none⟩ (.slice sa t.px.length sc))
   rw [b9] at oF gF eF bF dF ⊢;clear b9
   have kk:∀r,some D=some r->∃o:Obj,WF.heap[r]?=some o/\o.isCells=false:=fun r e=>by cases e;exact ⟨_,dF,rfl⟩
   refine ⟨by simp,.inl ⟨_,_,rfl,run_takeDeferred dF,?_⟩⟩;refine ⟨_,aEf rfl _ _ rfl (nV (grownBy_putObj' WF D _) kk bF) _ underlying168 rfl aGr,_,rfl,?_,?_⟩
   ·exact b8 _ (aF.owns oF (grownBy_putObj' WF D _) kk) (KO _ (nV (grownBy_putObj' WF D _) kk gF))
   ·exact eF.grown (grownBy_putObj' WF D _) (fun k e=>by cases e;omega)
end
def uV (c:Cam) (x y:Int):Bool:=c.okB&&inB x 0 (c.w*16 - 1)&&inB y 0 (c.h*16 - 1)
theorem aEm (c:Cam) (x y:Int) (h:uV c x y=false) (w:World) :
  R_ 101 #[.agg c,x,y] w (.tuple #[(),(),.bool false]):=by
 have q0:=aQ8 w 35 c;have R0:=hid q0;have X0:=hid (show Ext w (w.alloc (.cells c 35)) from X_);clear q0;unfold uV at h
 cases hb:c.okB
 ·have HB:=hid hb
  clear h hb;go_enter func101,ntmps101;go_wp2_with fail;refine r_ (aW HB.out _) fun w1 x1=>?_;have X1:=X0.out.trans x1;go_wp2;exact bodyPost_ret (v:=.tuple #[(),(),.bool false]) (by simp [results,results101,go_sem, *]) rfl ⟨rfl,X1⟩
 ·have HB:=hid hb
  have hk:=Cam.okB_iff.1 hb;have k1:=hk.w;have k2:=hk.h;have h0:wrap64 (c.w*16)=c.w*16:=aD (by omega) (by omega);have h2:wrap64 (c.w*16 - 1)=c.w*16 - 1:=aD (by omega) (by omega);have h3:wrap64 (c.h*16)=c.h*16:=aD (by omega) (by omega);have h4:wrap64 (c.h*16 - 1)=c.h*16 - 1:=aD (by omega) (by omega);rw [hb] at h;clear hb hk
  cases h1:inB x 0 (c.w*16 - 1)
  ·have I1:=hid h1
   clear h h1;go_enter func101,ntmps101;go_wp2_with fail;refine r_ (aW HB.out _) fun w1 x1=>?_;have X1:=X0.out.trans x1;have c0:=(R0.out.ext x1).cell 0 rfl;go_wp2_with (go_at_call 92;refine z_ (aH I1.out _) ?_);exact bodyPost_ret (v:=.tuple #[(),(),.bool false]) (by simp [results,results101,go_sem, *]) rfl ⟨rfl,X1⟩
  ·rw [h1] at h
   have I1:=hid h1;have I2:=hid (show inB y 0 (c.h*16 - 1)=false by simpa using h);clear h h1;go_enter func101,ntmps101;go_wp2_with fail;refine r_ (aW HB.out _) fun w1 x1=>?_;have X1:=X0.out.trans x1;have c0:=(R0.out.ext x1).cell 0 rfl;have c1:=(R0.out.ext x1).cell 1 rfl;go_wp2_with (go_at_call 92;with_reducible first|(refine z_ (aH I1.out _) ?_)|(refine z_ (aH I2.out _) ?_));exact bodyPost_ret (v:=.tuple #[(),(),.bool false]) (by simp [results,results101,go_sem, *]) rfl ⟨rfl,X1⟩
theorem aCj (c:Cam) (x y:Int) (h:uV c x y=true) (w:World) :
  R_ 101 #[.agg c,x,y] w (.tuple #[.int .i64 (x / 16),.int .i64 (y / 16),.bool true]):=by
 have q0:=aQ8 w 35 c;have R0:=hid q0;have X0:=hid (show Ext w (w.alloc (.cells c 35)) from X_);clear q0;unfold uV at h;simp only [aRd] at h;obtain ⟨⟨hb,h1⟩,h2⟩:=h;have HB:=hid hb;have I1:=hid h1;have I2:=hid h2;have hk:=Cam.okB_iff.1 hb;have k1:=hk.w;have k2:=hk.h;rw [aG] at h1 h2;have h0:wrap64 (c.w*16)=c.w*16:=aD (by omega) (by omega);have h3:wrap64 (c.w*16 - 1)=c.w*16 - 1:=aD (by omega) (by omega);have h4:wrap64 (c.h*16)=c.h*16:=aD (by omega) (by omega);have h5:wrap64 (c.h*16 - 1)=c.h*16 - 1:=aD (by omega) (by omega);have t1:Int.tdiv x 16=x / 16:=aTb (by omega);have t2:Int.tdiv y 16=y / 16:=aTb (by omega);have h6:wrap64 (x / 16)=x / 16:=aD (by omega) (by omega);have h7:wrap64 (y / 16)=y / 16:=aD (by omega) (by omega);clear hb hk h1 h2;go_enter func101,ntmps101;go_wp2_with fail;refine r_ (aW HB.out _) fun w1 x1=>?_;have X1:=X0.out.trans x1;have c0:=(R0.out.ext x1).cell 0 rfl;have c1:=(R0.out.ext x1).cell 1 rfl;go_wp2_with (go_at_call 92;with_reducible first|(refine z_ (aH I1.out _) ?_)|(refine z_ (aH I2.out _) ?_));exact bodyPost_ret (v:=.tuple #[.int .i64 (x / 16),.int .i64 (y / 16),.bool true]) (by simp [results,results101,go_sem, *]) rfl ⟨rfl,X1⟩
theorem Smp.okB_eq (c:Cam) (p:Smp):p.okB c=(uV c p.x p.y&&inB p.t 0 15&&inB p.lx (-16) 16&&inB p.ly (-16) 16):=rfl
theorem jM (c:Cam) (p:Smp) (w:World) :
  R_ 57 #[.agg c,.agg #[p.x,p.y,p.t,p.lx,p.ly]] w (.bool (p.okB c)):=by
 have q0:=aQ8 w 35 c;have q1:=aQ8 (w.alloc (.cells c 35)) 42 [p.x,p.y,p.t,p.lx,p.ly];rw [aQy] at q1;have R1:=hid q1;have X0:=hid (show Ext w ((w.alloc (.cells c 35)).alloc (.cells #[p.x,p.y,p.t,p.lx,p.ly] 42)) from X_);clear q0 q1;rw [Smp.okB_eq]
 cases h0:uV c p.x p.y
 ·have H0:=hid h0
  clear h0;go_enter func57,ntmps57;go_wp2_with fail;refine r_ (aEm c p.x p.y H0.out _) fun w1 x1=>?_;have X1:=X0.out.trans x1;go_wp2;go_ret;exact ⟨rfl,X1⟩
 ·have H0:=hid h0
  clear h0
  obtain ⟨b1,h1⟩:=e_ (inB p.t 0 15)
  obtain ⟨b2,h2⟩:=e_ (inB p.lx (-16) 16)
  obtain ⟨b3,h3⟩:=e_ (inB p.ly (-16) 16)
  have I1:=hid h1;have I2:=hid h2;have I3:=hid h3;rw [h1,h2,h3];clear h1 h2 h3
  cases b1
  rotate_left
  cases b2
  rotate_left
  all_goals
   go_enter func57,ntmps57;go_wp2_with fail;refine r_ (aCj c p.x p.y H0.out _) fun w1 x1=>?_;have X1:=X0.out.trans x1;have c2:=(R1.out.ext x1).cell 2 rfl;have c3:=(R1.out.ext x1).cell 3 rfl;have c4:=(R1.out.ext x1).cell 4 rfl;go_wp2_with (go_at_call 92;with_reducible first|(refine z_ (aH I1.out _) ?_)|(refine z_ (aH I2.out _) ?_)|(refine z_ (aH I3.out _) ?_));go_ret;exact ⟨rfl,X1⟩
theorem kH (s:Scn) (lo hi:Nat) (v:Value) (w:World) (hv:s.R lo hi w v) (hh:hi<=w.heap.size) (hsm:s.small) :
  R_ 49 #[v] w (.bool s.okB):=by
 obtain ⟨a1,c1,a2,c2,a3,c3,rfl,-,h8,-,h1,h2,h3⟩:=hv.form;have q0:=aQ8 w 40 (sL_ s a1 c1 a2 c2 a3 c3);have R0:=hid q0;have X0:=hid (show Ext w (w.alloc (.cells (sA_ s a1 c1 a2 c2 a3 c3) 40)) from X_);have HT:=hid (show ∀W:World,Ext w W->cN lo hi W (.agg #[s.t.log,.slice a1 s.t.px.length c1]) s.t from fun W x=>⟨_,rfl,h8,(h1.shut).ext hh x⟩);have H1:=hid h1;have H2:=hid h2;have H3:=hid h3;have x9:=h2.le;have x0:=h2.cap;have z0:=h3.le;have x3:=h3.cap;have HS:=hid hsm;clear q0 hv h8 h1 h2 h3 hsm;unfold Scn.okB
 obtain ⟨b1,h9⟩:=e_ s.c.okB
 obtain ⟨b2,q1⟩:=e_ s.t.okB
 obtain ⟨b3,q4⟩:=e_ (inB (s.ps.length:Int) 1 3)
 obtain ⟨b5,q5⟩:=e_ (qC s.side)
 have C1:=hid h9;have C2:=hid q1;have C3:=hid q4;have C5:=hid (show ∀W:World,R_ 93 #[s.side] W (.bool b5) from fun W=>q5▸aEi s.side W);rw [h9,q1,q4,q5];clear h9 q1 q4 q5
 cases b1
 case false=>
  go_enter func49,ntmps49;go_wp2_with fail;refine r_ (aW C1 _) fun w1 x1=>?_;have X1:=hid (X0.trans x1);have R1:=hid (R0.ext x1);clear x1;go_wp2;go_ret;exact ⟨by simp [*],X1⟩
 cases b2
 case true.false=>
  go_enter func49,ntmps49;go_wp2_with fail;refine r_ (aW C1 _) fun w1 x1=>?_;have X1:=hid (X0.trans x1);have R1:=hid (R0.ext x1);clear x1;have c7:=R1.cell 7 rfl;have c8:=R1.cell 8 rfl;have l1:=R1.lt;go_wp2_with fail;refine r_ (cJ C2 lo hi _ _ (HT _ X1) (aQ5 hh X1.size)) fun w2 x2=>?_;have X2:=hid (X1.trans x2);have R2:=hid (R1.ext x2);clear x2 c7 c8 l1;go_wp2;go_ret;exact ⟨by simp [*],X2⟩
 cases b3
 case true.true.false=>
  go_enter func49,ntmps49;go_wp2_with fail;refine r_ (aW C1 _) fun w1 x1=>?_;have X1:=hid (X0.trans x1);have R1:=hid (R0.ext x1);clear x1;have c7:=R1.cell 7 rfl;have c8:=R1.cell 8 rfl;have l1:=R1.lt;go_wp2_with fail;refine r_ (cJ C2 lo hi _ _ (HT _ X1) (aQ5 hh X1.size)) fun w2 x2=>?_;have X2:=hid (X1.trans x2);have R2:=hid (R1.ext x2);clear x2 c7 c8 l1;have c9:=R2.cell 9 rfl;have h6:=R2.cell 10 rfl;have h7:=R2.cell 11 rfl;have l2:=R2.lt;go_wp2_with (go_at_call 92;refine z_ (aH C3 _) ?_);go_ret;exact ⟨by simp [*],X2⟩
 rcases aSd 5 s.m with hm|hm
 ·have g0:decide (s.m<=5)=false:=by simp;omega
  go_enter func49,ntmps49;go_wp2_with fail;refine r_ (aW C1 _) fun w1 x1=>?_;have X1:=hid (X0.trans x1);have R1:=hid (R0.ext x1);clear x1;have c7:=R1.cell 7 rfl;have c8:=R1.cell 8 rfl;have l1:=R1.lt;go_wp2_with fail;refine r_ (cJ C2 lo hi _ _ (HT _ X1) (aQ5 hh X1.size)) fun w2 x2=>?_;have X2:=hid (X1.trans x2);have R2:=hid (R1.ext x2);clear x2 c7 c8 l1;have c9:=R2.cell 9 rfl;have h6:=R2.cell 10 rfl;have h7:=R2.cell 11 rfl;have l2:=R2.lt;go_wp2_with (go_at_call 92;refine z_ (aH C3 _) ?_);go_ret;exact ⟨by simp [*],X2⟩
 have g0:decide (s.m<=5)=true:=by simp;omega
 cases b5
 case true.true.true.inr.false=>
  go_enter func49,ntmps49;go_wp2_with fail;refine r_ (aW C1 _) fun w1 x1=>?_;have X1:=hid (X0.trans x1);have R1:=hid (R0.ext x1);clear x1;have c7:=R1.cell 7 rfl;have c8:=R1.cell 8 rfl;have l1:=R1.lt;go_wp2_with fail;refine r_ (cJ C2 lo hi _ _ (HT _ X1) (aQ5 hh X1.size)) fun w2 x2=>?_;have X2:=hid (X1.trans x2);have R2:=hid (R1.ext x2);clear x2 c7 c8 l1;have c9:=R2.cell 9 rfl;have h6:=R2.cell 10 rfl;have h7:=R2.cell 11 rfl;have l2:=R2.lt;go_wp2_with (go_at_call 92;refine z_ (aH C3 _) ?_);refine r_ (C5 _) fun w4 x4=>?_;have X4:=hid (X2.trans x4);have R4:=hid (R2.ext x4);clear x4 c9 h6 h7 l2;go_wp2;go_ret;exact ⟨by simp [*],X4⟩
 go_enter func49,ntmps49;go_wp2_with fail;refine r_ (aW C1 _) fun w1 x1=>?_;have X1:=hid (X0.trans x1);have R1:=hid (R0.ext x1);clear x1;have c7:=R1.cell 7 rfl;have c8:=R1.cell 8 rfl;have l1:=R1.lt;go_wp2_with fail;refine r_ (cJ C2 lo hi _ _ (HT _ X1) (aQ5 hh X1.size)) fun w2 x2=>?_;have X2:=hid (X1.trans x2);have R2:=hid (R1.ext x2);clear x2 c7 c8 l1;have c9:=R2.cell 9 rfl;have h6:=R2.cell 10 rfl;have h7:=R2.cell 11 rfl;have l2:=R2.lt;go_wp2_with (go_at_call 92;refine z_ (aH C3 _) ?_);refine r_ (C5 _) fun w4 x4=>?_;have X4:=hid (X2.trans x4);have R4:=hid (R2.ext x4);clear x4 c9 h6 h7 l2;have h6:=R4.cell 9 rfl;have l4:=R4.lt;go_wp2_with fail;clear h6 l4
 go_loopw [39] (fun i wr=>∃k:Nat,k<=s.ps.length/\i = .int .i64 (k:Nat)/\Ext w wr/\Blk wr w.heap.size 40 (sL_ s a1 c1 a2 c2 a3 c3)/\∀q (hq:q<k) (hq2:q<s.ps.length),s.ps[q].chkB=true) (fun i _=>s.ps.length - (intOf i).toNat)
 case atStart=>exact ⟨0,by omega,rfl,X4,R4,fun q hq=>absurd hq (by omega)⟩
 case round=>
  obtain ⟨k,hk,rfl,hx,hb,hc⟩:=hrel;have HX:=hid hx;have HB:=hid hb;have HC:=hid hc
  rcases aSd k s.ps.length with hlt|hge
  ·obtain ⟨b,q2,e1,d1,e2,d2,rfl,x8,x7,k1,k2,hR⟩:=H2.at hlt hx hh
   have HR:=hid hR;have hz:=hx.size;have HL:=hid hlt;clear hx hb hc hR X1 X2 X4 R1 R2 R4;go_wp2_with fail
   cases h4:(s.ps[k]'hlt).chkB
   ·refine (tK h4 lo hi _ _ (HR.ext (by omega) (show Ext wr (wr.alloc (.cells #[.slice e1 (s.ps[k]'hlt).ns.length d1,.slice e2 (s.ps[k]'hlt).gs.length d2] 119)) from X_)) (by simp;omega) (HS _ (aRh hlt)).1 (HS _ (aRh hlt)).2.2).mono ?_
    rintro e w5 ⟨rfl,x5⟩;have y5:Ext wr w5:=aQ3 (show Ext wr (wr.alloc (.cells #[.slice e1 (s.ps[k]'hlt).ns.length d1,.slice e2 (s.ps[k]'hlt).gs.length d2] 119)) from X_) x5;have h0:s.ps.all Prg.chkB=false:=aT4.2 ⟨_,aRh hlt,by simp [h4]⟩;have X5:=HX.trans y5;clear h4;go_wp2;go_ret;exact ⟨by rw [h0];simp,X5⟩
   ·refine (tK h4 lo hi _ _ (HR.ext (by omega) (show Ext wr (wr.alloc (.cells #[.slice e1 (s.ps[k]'hlt).ns.length d1,.slice e2 (s.ps[k]'hlt).gs.length d2] 119)) from X_)) (by simp;omega) (HS _ (aRh hlt)).1 (HS _ (aRh hlt)).2.2).mono ?_
    rintro e w5 ⟨rfl,x5⟩;have y5:Ext wr w5:=aQ3 (show Ext wr (wr.alloc (.cells #[.slice e1 (s.ps[k]'hlt).ns.length d1,.slice e2 (s.ps[k]'hlt).gs.length d2] 119)) from X_) x5;have X5:=hid (HX.trans y5);have R5:=hid (HB.ext y5);have q3:=hid h4;clear h4;go_wp2;go_roundw
    case rel=>
     refine ⟨k+1,by omega,by go_num,X5,R5,fun q hq hq2=>?_⟩
     rcases aSd q k with h|h
     ·exact HC q h hq2
     ·obtain rfl:q=k:=by omega
      exact q3
    case measure=>simp [intOf];omega
  ·obtain rfl:k=s.ps.length:=by omega
   have h0:s.ps.all Prg.chkB=true:=aR5.2 (fun x hx=>by obtain ⟨q,hq,rfl⟩:=aRw hx;exact hc q hq hq);have HA:=hid h0;have h7:=hb.cell 10 rfl;have lb:=hb.lt;clear hx hb hc h0 X1 X2 X4 R1 R2 R4;go_wp2_with fail;clear h7 lb
   go_loopw [50] (fun i wr=>∃k:Nat,k<=s.m/\i = .int .i64 (k:Nat)/\Ext w wr/\Blk wr w.heap.size 40 (sL_ s a1 c1 a2 c2 a3 c3)/\∀q,q<k->s.srfB q=true) (fun i _=>s.m - (intOf i).toNat)
   case atStart=>exact ⟨0,by omega,rfl,HX,HB,fun q hq=>absurd hq (by omega)⟩
   case round=>
    obtain ⟨j,hj,rfl,hx,hb,hc⟩:=hrel;have HX:=hid hx;have HB:=hid hb;have HC:=hid hc
    rcases aSd j s.m with hlt|hge
    ·obtain ⟨b,q2,rfl,h9,q1,h5⟩:=H3.at hlt (by decide)
     have bw:b<w.heap.size:=by omega
     have q6:wr.rangeAt b (q2+j*26) ((aRl 26).map fun q=>.int .i64 (s.F (j*26+q))):=by
      intro q v hq;obtain ⟨h1,h2⟩:=aQz.1 hq;simp only [aSh,aUo] at h1;simp only [aVf,aUe] at h2;subst h2;exact (hx.cells.1 b _ bw).trans (h5 q h1)
     change wr.rangeAt b (q2+j*26) [(s.st j 0),(s.st j 1),(s.st j 2),(s.st j 3),(s.st j 4),(s.st j 5),(s.st j 6),(s.st j 7),(s.st j 8),(s.st j 9),(s.st j 10),(s.st j 11),(s.en j 0),(s.en j 1),(s.en j 2),(s.en j 3),(s.en j 4),(s.en j 5),(s.en j 6),(s.en j 7),(s.en j 8),(s.en j 9),(s.en j 10),(s.en j 11),(s.sh j),(s.rt j)] at q6;have q9:=hid q6
     have q7:World.rangeAt (wr.alloc (.cells #[(s.st j 0),(s.st j 1),(s.st j 2),(s.st j 3),(s.st j 4),(s.st j 5),(s.st j 6),(s.st j 7),(s.st j 8),(s.st j 9),(s.st j 10),(s.st j 11),(s.en j 0),(s.en j 1),(s.en j 2),(s.en j 3),(s.en j 4),(s.en j 5),(s.en j 6),(s.en j 7),(s.en j 8),(s.en j 9),(s.en j 10),(s.en j 11),(s.sh j),(s.rt j)] 127)) wr.heap.size 0 [(s.st j 0),(s.st j 1),(s.st j 2),(s.st j 3),(s.st j 4),(s.st j 5),(s.st j 6),(s.st j 7),(s.st j 8),(s.st j 9),(s.st j 10),(s.st j 11),(s.en j 0),(s.en j 1),(s.en j 2),(s.en j 3),(s.en j 4),(s.en j 5),(s.en j 6),(s.en j 7),(s.en j 8),(s.en j 9),(s.en j 10),(s.en j 11),(s.sh j),(s.rt j)]:=fun q v hq=>by rw [aRt];exact (aQ8 wr 127 [(s.st j 0),(s.st j 1),(s.st j 2),(s.st j 3),(s.st j 4),(s.st j 5),(s.st j 6),(s.st j 7),(s.st j 8),(s.st j 9),(s.st j 10),(s.st j 11),(s.en j 0),(s.en j 1),(s.en j 2),(s.en j 3),(s.en j 4),(s.en j 5),(s.en j 6),(s.en j 7),(s.en j 8),(s.en j 9),(s.en j 10),(s.en j 11),(s.sh j),(s.rt j)]).cell q hq
     have q8:=hid q7;clear q6 q7;have b9:=hb.cell 9 rfl;have bl:=hb.lt;have x6:b<wr.heap.size:=aSf bw hx.size;clear hx hb hc h5;go_upto_region 12 with (first|(show wpList _ _ _ [_,_,_] _ _;refine wpList_load_mid rfl _ _ rfl b (q2+j*26) rfl [(s.st j 0),(s.st j 1),(s.st j 2),(s.st j 3),(s.st j 4),(s.st j 5),(s.st j 6),(s.st j 7),(s.st j 8),(s.st j 9),(s.st j 10),(s.st j 11),(s.en j 0),(s.en j 1),(s.en j 2),(s.en j 3),(s.en j 4),(s.en j 5),(s.en j 6),(s.en j 7),(s.en j 8),(s.en j 9),(s.en j 10),(s.en j 11),(s.sh j),(s.rt j)] _ q9 underlying127 rfl fQ ?_)|(show wpList _ _ _ [_] _ _;refine dI _ _ _ rfl 127 (.tmp 6) (.tmp 53) rfl rfl #[(s.st j 0),(s.st j 1),(s.st j 2),(s.st j 3),(s.st j 4),(s.st j 5),(s.st j 6),(s.st j 7),(s.st j 8),(s.st j 9),(s.st j 10),(s.st j 11),(s.en j 0),(s.en j 1),(s.en j 2),(s.en j 3),(s.en j 4),(s.en j 5),(s.en j 6),(s.en j 7),(s.en j 8),(s.en j 9),(s.en j 10),(s.en j 11),(s.sh j),(s.rt j)] wr.heap.size rfl rfl rfl (by kernel_rfl) (by kernel_rfl) (by kernel_rfl) ?_));go_wp2_with (show wpList _ _ _ [_,_,_,_,_,_] _ _;refine wpList_load_mid rfl _ _ rfl wr.heap.size 0 rfl [(s.st j 0),(s.st j 1),(s.st j 2),(s.st j 3),(s.st j 4),(s.st j 5),(s.st j 6),(s.st j 7),(s.st j 8),(s.st j 9),(s.st j 10),(s.st j 11),(s.en j 0),(s.en j 1),(s.en j 2),(s.en j 3),(s.en j 4),(s.en j 5),(s.en j 6),(s.en j 7),(s.en j 8),(s.en j 9),(s.en j 10),(s.en j 11),(s.sh j),(s.rt j)] _ q8 underlying127 rfl fQ ?_);refine r_ (pN (s.st j) (s.en j) (s.sh j) (s.rt j) s.ps.length _) fun w5 x5=>?_;have y5:Ext wr w5:=aQ3 (show Ext wr (wr.alloc (.cells #[(s.st j 0),(s.st j 1),(s.st j 2),(s.st j 3),(s.st j 4),(s.st j 5),(s.st j 6),(s.st j 7),(s.st j 8),(s.st j 9),(s.st j 10),(s.st j 11),(s.en j 0),(s.en j 1),(s.en j 2),(s.en j 3),(s.en j 4),(s.en j 5),(s.en j 6),(s.en j 7),(s.en j 8),(s.en j 9),(s.en j 10),(s.en j 11),(s.sh j),(s.rt j)] 127)) from X_) x5;have X5:=hid (HX.trans y5);have R5:=hid (HB.ext y5)
     cases h4:aM5 (s.st j) (s.en j) (s.sh j) (s.rt j) s.ps.length
     ·have h0:(aRl s.m).all s.srfB=false:=aT4.2 ⟨j,aR4.2 hlt,by unfold Scn.srfB;simp [h4]⟩
      clear h4;go_wp2;go_ret;exact ⟨by rw [h0];simp,X5⟩
     ·have q3:=hid h4
      clear h4;go_wp2;go_roundw
      case rel=>
       refine ⟨j+1,by omega,by go_num,X5,R5,fun q hq=>?_⟩
       rcases aSd q j with h|h
       ·exact HC q h
       ·obtain rfl:q=j:=by omega
        exact q3
      case measure=>simp [intOf];omega
    ·obtain rfl:j=s.m:=by omega
     have h0:(aRl s.m).all s.srfB=true:=aR5.2 (fun q hq=>HC q (aR4.1 hq));go_wp2;go_ret;exact ⟨by rw [h0,HA,g0];rfl,HX⟩
section
open Go.RowKit Go.Maps Go.WideMaps
theorem iI {p:Prg} {op num:Int} {s:ByteArray} {us:List Int} {o n:Int} {t:ByteArray} (h:bJ p ⟨op,s,num,us⟩=⟨o,t,n⟩):(bJ p ⟨op,s,num,us⟩).val = .agg #[o,.string t,n]:=by rw [h];rfl
theorem aGs (p:Prg) (hK:p.K) (j:Nat) (op num:Int) (s:ByteArray) (ra:List Int) (hx:p.ns[j]?=some ⟨op,s,num,ra⟩) (sa:Option Addr) (sn sc b:Nat) (w:World) (hM:FM w b p.gs p.gs.length) (hs:s.size<=maxLen) (hgl:p.gs.length<=1048576) :
  Calls aQ2 163 #[.agg #[op,.string s,num,.slice sa sn sc],.map (some b)] w fun e w'=>e = .returned (bJ p ⟨op,s,num,ra⟩).val/\Ext w w':=by
 have HM:=hid hM;have nF:=jI (hK.v.nd j _ hx).1;simp only at nF;have HX:=hid hx;clear hM hx
 by_cases o1:op=1
 ·subst o1
  clear nF;have hi:bJ p ⟨1,s,num,ra⟩=⟨1,⟨#[]⟩,num⟩:=rfl;rw [iI hi];clear hi;have NB:=hid (aQ8 w 197 [.int .i64 (1),.string s,num,.slice sa sn sc]);go_enter func163,ntmps163;go_wp2_with fail;refine r_ (fP (1) s num _ _) fun w1 x1=>?_;have N1:=NB.ext (show Ext _ ((w.alloc (.cells #[.int .i64 (1),.string s,num,.slice sa sn sc] 197)).alloc (.cells #[(),.string ⟨#[]⟩,()] 221)) from X_);have R1:=aQ8 (w.alloc (.cells #[.int .i64 (1),.string s,num,.slice sa sn sc] 197)) 221 [(),.string ⟨#[]⟩,()];rw [aQy] at R1;have X1:Ext w w1:=aQ3 X_ x1;have N2:=N1.ext x1;have R2:=R1.ext x1;have M2:=hid (HM.ext X1);obtain ⟨n0,n1,n2⟩:=N2.q3;obtain ⟨r0,r1,r2⟩:=R2.q3;have f0:=R2.free 0;have f1:=R2.free 1;have f2:=R2.free 2;have zn:=N2.lt;have zr:=R2.lt;clear N1 R1 N2 R2 x1;unfold gC;rw [if_neg (by decide),if_neg (by decide)];go_wp2;refine bodyPost_ret (v:=.agg #[.int .i64 (1),.string ⟨#[]⟩,.int .i64 (num)]) (by simp [results,results163,go_sem, *]) rfl ?_;exact ⟨rfl,S_⟩
 by_cases o3:op=3
 ·subst o3
  clear nF;have hi:bJ p ⟨3,s,num,ra⟩=⟨5,⟨#[]⟩,3⟩:=rfl;rw [iI hi];clear hi;have NB:=hid (aQ8 w 197 [.int .i64 (3),.string s,num,.slice sa sn sc]);go_enter func163,ntmps163;go_wp2_with fail;refine r_ (fP (3) s num _ _) fun w1 x1=>?_;have N1:=NB.ext (show Ext _ ((w.alloc (.cells #[.int .i64 (3),.string s,num,.slice sa sn sc] 197)).alloc (.cells #[(),.string ⟨#[]⟩,()] 221)) from X_);have R1:=aQ8 (w.alloc (.cells #[.int .i64 (3),.string s,num,.slice sa sn sc] 197)) 221 [(),.string ⟨#[]⟩,()];rw [aQy] at R1;have X1:Ext w w1:=aQ3 X_ x1;have N2:=N1.ext x1;have R2:=R1.ext x1;have M2:=hid (HM.ext X1);obtain ⟨n0,n1,n2⟩:=N2.q3;obtain ⟨r0,r1,r2⟩:=R2.q3;have f0:=R2.free 0;have f1:=R2.free 1;have f2:=R2.free 2;have zn:=N2.lt;have zr:=R2.lt;clear N1 R1 N2 R2 x1;unfold gC;rw [if_neg (by decide),if_neg (by decide)];go_wp2;refine bodyPost_ret (v:=.agg #[.int .i64 (5),.string ⟨#[]⟩,.int .i64 (3)]) (by simp [results,results163,go_sem, *]) rfl ?_;exact ⟨rfl,S_⟩
 by_cases o2:op=2
 ·subst o2
  have h0:=aNs (.agg #[.int .i64 2,.string s,num,.slice sa sn sc]);clear nF
  cases hv:cT s
  ·obtain ⟨i,h2,h4⟩:=hK.name j _ HX rfl hv
   simp only at h2;have HI:=hid h2;have h5:=(eX h2).1
   have h3:pM p s=i:=by unfold pM;rw [h2];rfl
   have HV:=hid hv;clear h2
   have hi:bJ p ⟨2,s,num,ra⟩=⟨3,⟨#[]⟩,(i:Nat)⟩:=by unfold bJ;simp [hv,h3]
   rw [iI hi];clear hi;clear hv h3;have NB:=hid (aQ8 w 197 [.int .i64 (2),.string s,num,.slice sa sn sc]);go_enter func163,ntmps163;go_wp2_with fail;refine r_ (fP (2) s num _ _) fun w1 x1=>?_;have N1:=NB.ext (show Ext _ ((w.alloc (.cells #[.int .i64 (2),.string s,num,.slice sa sn sc] 197)).alloc (.cells #[(),.string ⟨#[]⟩,()] 221)) from X_);have R1:=aQ8 (w.alloc (.cells #[.int .i64 (2),.string s,num,.slice sa sn sc] 197)) 221 [(),.string ⟨#[]⟩,()];rw [aQy] at R1;have X1:Ext w w1:=aQ3 X_ x1;have N2:=N1.ext x1;have R2:=R1.ext x1;have M2:=hid (HM.ext X1);obtain ⟨n0,n1,n2⟩:=N2.q3;obtain ⟨r0,r1,r2⟩:=R2.q3;have f0:=R2.free 0;have f1:=R2.free 1;have f2:=R2.free 2;have zn:=N2.lt;have zr:=R2.lt;clear N1 R1 N2 R2 x1;unfold gC;rw [if_pos rfl];go_wp2_with (first|(at_lookup;refine aB3 _ rfl _ _ rfl _ _ _ rfl (M2.ext X_) _ hs rfl _ HI ?_)|(go_at_call 201;refine z_ (cX HV _) ?_));refine bodyPost_ret (v:=.agg #[.int .i64 (3),.string ⟨#[]⟩,.int .i64 ((i:Nat))]) (by simp [results,results163,go_sem, *]) rfl ?_;exact ⟨rfl,S_⟩
  ·have HV:=hid hv
   have hi:bJ p ⟨2,s,num,ra⟩=⟨2,s,0⟩:=by unfold bJ;simp [hv]
   rw [iI hi];clear hi;clear hv;have NB:=hid (aQ8 w 197 [.int .i64 (2),.string s,num,.slice sa sn sc]);go_enter func163,ntmps163;go_wp2_with fail;refine r_ (fP (2) s num _ _) fun w1 x1=>?_;have N1:=NB.ext (show Ext _ ((w.alloc (.cells #[.int .i64 (2),.string s,num,.slice sa sn sc] 197)).alloc (.cells #[(),.string ⟨#[]⟩,()] 221)) from X_);have R1:=aQ8 (w.alloc (.cells #[.int .i64 (2),.string s,num,.slice sa sn sc] 197)) 221 [(),.string ⟨#[]⟩,()];rw [aQy] at R1;have X1:Ext w w1:=aQ3 X_ x1;have N2:=N1.ext x1;have R2:=R1.ext x1;have M2:=hid (HM.ext X1);obtain ⟨n0,n1,n2⟩:=N2.q3;obtain ⟨r0,r1,r2⟩:=R2.q3;have f0:=R2.free 0;have f1:=R2.free 1;have f2:=R2.free 2;have zn:=N2.lt;have zr:=R2.lt;clear N1 R1 N2 R2 x1;unfold gC;rw [if_pos rfl];go_wp2_with (go_at_call 201;refine z_ (cX HV _) ?_);refine bodyPost_ret (v:=.agg #[.int .i64 (2),.string s,.int .i64 (0)]) (by simp [results,results163,go_sem, *]) rfl ?_;exact ⟨rfl,S_⟩
 by_cases o8:op=8
 ·subst o8
  have h0:=aNt (.agg #[.int .i64 8,.string s,num,.slice sa sn sc]);have h1:=aKn (.agg #[.int .i64 8,.string s,num,.slice sa sn sc]);clear nF;have hi:bJ p ⟨8,s,num,ra⟩=⟨7,s,0⟩:=rfl;rw [iI hi];clear hi;have NB:=hid (aQ8 w 197 [.int .i64 (8),.string s,num,.slice sa sn sc]);go_enter func163,ntmps163;go_wp2_with fail;refine r_ (fP (8) s num _ _) fun w1 x1=>?_;have N1:=NB.ext (show Ext _ ((w.alloc (.cells #[.int .i64 (8),.string s,num,.slice sa sn sc] 197)).alloc (.cells #[(),.string ⟨#[]⟩,()] 221)) from X_);have R1:=aQ8 (w.alloc (.cells #[.int .i64 (8),.string s,num,.slice sa sn sc] 197)) 221 [(),.string ⟨#[]⟩,()];rw [aQy] at R1;have X1:Ext w w1:=aQ3 X_ x1;have N2:=N1.ext x1;have R2:=R1.ext x1;have M2:=hid (HM.ext X1);obtain ⟨n0,n1,n2⟩:=N2.q3;obtain ⟨r0,r1,r2⟩:=R2.q3;have f0:=R2.free 0;have f1:=R2.free 1;have f2:=R2.free 2;have zn:=N2.lt;have zr:=R2.lt;clear N1 R1 N2 R2 x1;unfold gC;rw [if_neg (by decide),if_pos rfl];go_wp2;refine bodyPost_ret (v:=.agg #[.int .i64 (7),.string s,.int .i64 (0)]) (by simp [results,results163,go_sem, *]) rfl ?_;exact ⟨rfl,S_⟩
 have h0:=aNu (.agg #[op,.string s,num,.slice sa sn sc]);have h1:=aKo (.agg #[op,.string s,num,.slice sa sn sc]);have b1:(op==1)=false:=beq_eq_false_iff_ne.2 o1;have b3:(op==3)=false:=beq_eq_false_iff_ne.2 o3
 have hi:bJ p ⟨op,s,num,ra⟩=⟨6,⟨#[]⟩,op⟩:=by unfold bJ;simp [o1,o2,o3,o8]
 rw [iI hi];clear hi;have NB:=hid (aQ8 w 197 [.int .i64 (op),.string s,num,.slice sa sn sc]);go_enter func163,ntmps163;go_wp2_with fail;refine r_ (fP (op) s num _ _) fun w1 x1=>?_;have N1:=NB.ext (show Ext _ ((w.alloc (.cells #[.int .i64 (op),.string s,num,.slice sa sn sc] 197)).alloc (.cells #[(),.string ⟨#[]⟩,()] 221)) from X_);have R1:=aQ8 (w.alloc (.cells #[.int .i64 (op),.string s,num,.slice sa sn sc] 197)) 221 [(),.string ⟨#[]⟩,()];rw [aQy] at R1;have X1:Ext w w1:=aQ3 X_ x1;have N2:=N1.ext x1;have R2:=R1.ext x1;have M2:=hid (HM.ext X1);obtain ⟨n0,n1,n2⟩:=N2.q3;obtain ⟨r0,r1,r2⟩:=R2.q3;have f0:=R2.free 0;have f1:=R2.free 1;have f2:=R2.free 2;have zn:=N2.lt;have zr:=R2.lt;clear N1 R1 N2 R2 x1;unfold gC;rw [if_neg o2,if_neg o8];go_wp2;refine bodyPost_ret (v:=.agg #[.int .i64 (6),.string ⟨#[]⟩,.int .i64 (op)]) (by simp [results,results163,go_sem, *]) rfl ?_;exact ⟨rfl,S_⟩
end
section
open Go.RowKit Go.Maps Go.WideMaps
def Ins.cs (x:Ins):List Value:=[x.op,.string x.name,x.num]
def fV (lo:Nat) (w:World) (v:Value) (xs:List Ins):Prop:=aF Ins.cs lo 221 3 w v xs
theorem tQ:(Tryz.prog.info? 221).map (fun i=>(i.zero,i.size,i.bytes))=some (some (.agg #[(),.string ⟨#[]⟩,()]),3,32):=by kernel_rfl
theorem bZ (w:World) {ops:Array Oper} {rest:List Oper} {o:Oper} {a:Act} {Q:Exit->Act->World->Prop} (hg:o.guard=none) (s x:Operand)
  (hop:o.op=Op.call { callee:=Callee.builtin Builtin.append,args:=#[s,x],argTypes:=#[160,160] }) (lo:Nat) (v:Value) (xs:List Ins) (hs:a.eval s=v) (hown:fV lo w v xs)
  (y:Ins) (b:Nat) (hx:a.eval x = .slice (some ⟨b,0,none⟩) 1 1) (hcell:w.cell? ⟨b,0,none⟩=some (.int .i64 y.op)/\w.cell? ⟨b,1,none⟩=some (.string y.name)/\w.cell? ⟨b,2,none⟩=some (.int .i64 y.num)) (hlen:xs.length<1000000) (hlo:lo<=w.heap.size)
  (hK:∀v' w',fV lo w' v' (xs++[y])->w.grownBy w' v.ownBlock->wpList aQ2 ops Q rest (a.put o.dst v') w'):wpList aQ2 ops Q (o::rest) a w:=by
 refine dV Ins.cs 221 3 32 _ w hg s x 160 hop underlying160 tQ rfl (by decide) (by decide) (fun _=>rfl) lo v xs hs hown y b hx ?_ ?_ hlen hlo hK
 ·intro j hj
  obtain ⟨c0,c1,c2⟩:=hcell
  rcases (show j=0\/j=1\/j=2 by omega) with rfl|rfl|rfl
  ·exact c0
  ·exact c1
  ·exact c2
 ·intro u hu
  simp only [Ins.cs,aRk,aRe,or_false] at hu
  rcases hu with rfl|rfl|rfl <;> rfl
theorem aF.rowC {α : Type} {cs : α->List Value} {lo:Nat} {e:TypeId} {sz:Nat} {w:World} {v:Value} {xs:List α} (h:aF cs lo e sz w v xs):∀k,v.ownBlock=some k->lo<=k/\∃c,w.heap[k]?=some (.cells c e (0,0)):=by
 intro k hk
 rcases h.2 with ⟨rfl,h4⟩|⟨g,cap,cur,rfl,hb,hg,_⟩
 ·cases hk
 ·simp only [aRu,aQ0] at hk
  subst hk;exact ⟨hb,cur,hg⟩
theorem KN.strs {lo B:Nat} {e:TypeId} {lo':Nat} {w w':World} {v:Value} {xs:List ByteArray} (h:cG lo' w v xs) (k:KN lo B e w w') (hB:∀c,w.heap[B]?≠some (.cells c 9 (0,0))) (he:9≠e):cG lo' w' v xs:=by
 obtain ⟨h1,h2⟩:=h;refine ⟨h1,?_⟩
 rcases h2 with hn|⟨g,cap,cur,hv,hb,hg,r⟩
 ·exact .inl hn
 ·refine .inr ⟨g,cap,cur,hv,hb,?_,r⟩
  exact (k.block g (aRi.1 hg).1 (.inr ⟨fun e1=>hB cur (e1▸hg),fun c' h'=>by rw [hg] at h';simp only [aQ0,aR8] at h';exact he h'.2.1⟩)).trans hg
structure TB (p:Prg) (P T C M mb lo:Nat) (a1 a2:Option Addr) (c1 c2:Nat) (w:World) (xs:List Ins) (iv:Value) (ls:List ByteArray) (lv:Value):Prop where
 prog:Blk w P 119 [.slice a1 p.ns.length c1,.slice a2 p.gs.length c2]
 fn:Blk w T 219 [.func (.func 162) #[] #[.pointer (some ⟨P,0,none⟩),.pointer (some ⟨T,0,none⟩),.pointer (some ⟨C,0,none⟩),.pointer (some ⟨M,0,none⟩)]]
 code:Blk w C 163 [iv,lv]
 mp:Blk w M 217 [.map (some mb)]
 map:FM w mb p.gs p.gs.length
 ins:fV lo w iv xs
 loc:cG lo w lv ls
 low:lo<=C
theorem Blk.neq {w:World} {A B:Nat} {cs ds:List Value} {t u:TypeId} (h:Blk w A t cs) (k:Blk w B u ds) (ht:t≠u):A≠B:=fun e=>by
 subst e;unfold Blk at h k;rw [h] at k;simp only [aQ0,aR8] at k;exact ht k.2.1
theorem Blk.noCells {w:World} {A:Nat} {cs:List Value} {t e:TypeId} (h:Blk w A t cs) (he:e≠t):∀c,w.heap[A]?≠some (.cells c e (0,0)):=fun c hc=>by
 unfold Blk at h;rw [h] at hc;simp only [aQ0,aR8] at hc;exact he hc.2.1.symm
theorem KN.fm {lo B:Nat} {e:TypeId} {w w':World} {b k:Nat} {gs:List Asg} {ds:List Value} {u:TypeId} (h:FM w b gs k) (kn:KN lo B e w w') (hB:Blk w B u ds):FM w' b gs k:=by
 have hl:=h.lt;have h':=h;obtain ⟨n,D,_,⟨es,clock,h1,_⟩,_⟩:=h';refine h.of_block (kn.block b hl (.inr ⟨fun e1=>?_,fun c hc=>?_⟩))
 ·subst e1
  unfold Blk at hB;rw [hB] at h1;cases h1
 ·rw [hc] at h1
  cases h1
theorem TB.ext {p:Prg} {P T C M mb lo:Nat} {a1 a2:Option Addr} {c1 c2:Nat} {w w':World} {xs:List Ins} {iv:Value} {ls:List ByteArray} {lv:Value} (h:TB p P T C M mb lo a1 a2 c1 c2 w xs iv ls lv) (x:Ext w w'):TB p P T C M mb lo a1 a2 c1 c2 w' xs iv ls lv:=
 ⟨h.prog.ext x,h.fn.ext x,h.code.ext x,h.mp.ext x,h.map.ext x,aF.ext h.ins x,h.loc.ext x,h.low⟩
theorem TB.kn {p:Prg} {P T C M mb lo:Nat} {a1 a2:Option Addr} {c1 c2:Nat} {w w':World} {xs xs':List Ins} {iv iv':Value} {ls:List ByteArray} {lv:Value} (h:TB p P T C M mb lo a1 a2 c1 c2 w xs iv ls lv) (k:KN lo C 221 w w') (hc:Blk w' C 163 [iv',lv]) (hi:fV lo w' iv' xs'):TB p P T C M mb lo a1 a2 c1 c2 w' xs' iv' ls lv:=
 ⟨KN.blk h.prog k (h.prog.neq h.code (by decide)) (by decide),KN.blk h.fn k (h.fn.neq h.code (by decide)) (by decide),hc,KN.blk h.mp k (h.mp.neq h.code (by decide)) (by decide),KN.fm h.map k h.code,hi,KN.strs h.loc k (h.code.noCells (by decide)) (by decide),h.low⟩
def C3b (b c d:Nat):Addr->Prop:=fun a=>a.block=b\/a.block=c\/a.block=d
@[go_sem] theorem aQs (b c d o:Nat):C3b b c d ⟨b,o,none⟩:=.inl rfl
@[go_sem] theorem aQt (b c d o:Nat):C3b b c d ⟨c,o,none⟩:=.inr (.inl rfl)
@[go_sem] theorem aQu (b c d o:Nat):C3b b c d ⟨d,o,none⟩:=.inr (.inr rfl)
end
section
open Go.RowKit Go.Maps Go.WideMaps
theorem pC {p:Prg} {ra:List Int} {j:Nat} (hj:j<=ra.length):((ra.take j).flatMap fun a=>p.tr a.toNat).length<=(ra.flatMap fun a=>p.tr a.toNat).length:=by
 conv=>rhs;rw [<-aU3 j ra,aSa,aRq]
 omega
theorem aM7 (lo hi:Nat) (p:Prg) (hv:p.K) (hbd:p.bd) (hgl:p.gs.length<=1048576) (W:World) (a1 a2:Option Addr) (c1 c2:Nat) (HN:rJ lo hi W a1 c1 p.ns) (hh:hi<=W.heap.size) (P T C M mb l2:Nat) (hl2:W.heap.size<=l2) (ls:List ByteArray) (lv:Value):∀m,
  ∀(node:Nat) (xs:List Ins) (iv:Value) (w:World),node<m->node<p.ns.length->xs.length+(p.tr node).length<=900000->TB p P T C M mb l2 a1 a2 c1 c2 w xs iv ls lv->Ext W w ->
  Calls aQ2 162 #[(node:Nat),.pointer (some ⟨P,0,none⟩),.pointer (some ⟨T,0,none⟩),.pointer (some ⟨C,0,none⟩),.pointer (some ⟨M,0,none⟩)] w fun e w'=>e = .returned (.tuple #[])/\(∃iv',TB p P T C M mb l2 a1 a2 c1 c2 w' (xs++p.tr node) iv' ls lv)/\KN l2 C 221 w w':=by
 intro m;have l1:=HN.le;have l3:=HN.cap
 induction m with
 | zero=>intro node xs iv w hm;omega
 | succ m ih=>
  intro node xs iv w hm z6 z2 hB hx;have zx:=hx.size;have HB:=hid hB;have HX:=hid hx;obtain ⟨b,z8,op,s,num,sa,sc,ra,rfl,y9,a3,h2,io,b1,hI,HI,y0,y1,y2,y3⟩:=HN.atW z6 hx hh;have HG:=hid h2;have b2:=HI.le;have b4:=HI.cap;have qp:=hB.prog.cell 0 rfl;have pl:=hB.prog.lt;have a7:=hB.low;have a5:=hB.code.lt;have q2:=hv.v.tr_step h2;simp only at q2
  have a6:(p.tr node).length=(ra.flatMap fun a=>p.tr a.toNat).length+1:=by rw [q2];simp
  have x9:=hid q2;have IH:=hid ih;have z7:s.size<=maxLen:=hbd.1 _ (aRn h2);have nb:=aQ8 w 197 [op,.string s,num,.slice sa ra.length sc];have xn:Ext w (w.alloc (.cells #[op,.string s,num,.slice sa ra.length sc] 197)):=X_;have NB:=hid nb;have XN:=hid xn;clear ih h2 hB hx nb xn q2;go_enter func162,ntmps162;go_wp2
  go_loopw [17] (fun i wr=>∃(j:Nat) (iv':Value),j<=ra.length/\i = .int .i64 (j:Nat)/\TB p P T C M mb l2 (some ⟨b,z8,none⟩) a2 c1 c2 wr (xs++(ra.take j).flatMap fun a=>p.tr a.toNat) iv' ls lv/\Blk wr w.heap.size 197 [op,.string s,num,.slice sa ra.length sc]/\KN l2 C 221 w wr) (fun i _=>ra.length - (intOf i).toNat)
  case atStart=>exact ⟨0,iv,by omega,rfl,by simpa using HB.ext XN,NB,(KN.refl _ _ _ _).ext XN⟩
  case round=>
   clear HB NB XN;obtain ⟨j,iv',hj,rfl,hB,hN,hk⟩:=hrel;have HB:=hid hB;have h3:=hid hN;have HK:=hid hk;have h9:=hid (hk.up HX hl2);have x0:=pC (p:=p) hj;clear hB hN hk
   by_cases z3:j<ra.length
   ·obtain ⟨b3,z9,y,rfl,a0,hy,_,a4⟩:=HI.atE z3 h9 hh
    have a8:=(hv.v.nd node _ HG).2 y (aRn hy)
    obtain ⟨z,rfl⟩:∃z:Nat,y=z:=⟨y.toNat,by omega⟩
    have hf:=HB.fn;have qf:=hf.cell 0 rfl
    have q8:((ra.take (j+1)).flatMap fun a=>p.tr a.toNat)=((ra.take j).flatMap fun a=>p.tr a.toNat)++p.tr z:=by
     rw [aW0,hy,aSa];simp
    have q6:=pC (p:=p) (ra:=ra) (j:=j+1) (by omega);rw [q8,aRq] at q6;have x8:=hid q8;clear hy q8 hf;go_wp2_with fail;refine (IH z _ iv' _ (by omega) (by omega) (by rw [aRq];omega) HB h9).mono ?_;rintro e w1 ⟨rfl,⟨h7,hB2⟩,hk2⟩;have x2:=hid hB2;have q3:=hid (KN.blk h3 hk2 (h3.neq HB.code (by decide)) (by decide));have x4:=hid (HK.trans hk2);clear hB2 hk2 HB h3 HK h9 qf;go_wp2;go_roundw
    case rel=>exact ⟨j+1,h7,by omega,by go_num,by rw [x8,<-aRx];exact x2,q3,x4⟩
    case measure=>simp [intOf];omega
   ·obtain rfl:j=ra.length:=by omega
    rw [aR2] at HB x0
    obtain ⟨L,hL⟩:=e_ (xs++(ra.flatMap fun a=>p.tr a.toNat))
    have y5:L.length<=900000:=by rw [<-hL,aRq];omega
    rw [hL] at HB;have HL:=hid hL;obtain ⟨ia,ic,rfl,-⟩:=aF.form HB.ins;clear hL x0;have q0:=HB.code;have z0:=q0.cell 0 rfl;have z1:=q0.free 0;have y4:=q0.lt;have q7:=HB.mp;have m0:=q7.cell 0 rfl;have ml:=q7.lt;obtain ⟨n0,n1,n2,n3⟩:=h3.q4;have zn:=h3.lt;have b6:=h9.size;have y8:=h3.neq HB.code (by decide)
    have q1:∃o t n,bJ p ⟨op,s,num,ra⟩=⟨o,t,n⟩:=⟨_,_,_,rfl⟩
    obtain ⟨io,it,h6,q1⟩:=q1;have q9:=hid q1;clear q1 q0 q7;go_wp2_with fail;refine aJ [([0,1,2,3],4),([],5),([],6),([7],8)] 8 (fun w'=>∃d,w'=fU (C3b C w.heap.size M) _ d) (by kernel_rfl) (by kernel_rfl) (aTr _ _) ?_;refine sc_ fun K hK=>?_;go_wp2_with fail;refine r_ (aGs p hv node op num s ra HG sa ra.length sc mb _ (HB.map.ext X_) z7 hgl) fun w6 x6=>?_;rw [iI q9];have y6:Ext wr w6:=aQ3 (aRz (aQ6 _)) x6;go_wp2_with fail;refine hK _ _ (.inr (aR6 fun a ha=>?_)) ?_
    ·rcases ha with ha|ha|ha
     ·exact y6.block (by rw [ha];omega)
     ·exact y6.block (by rw [ha];omega)
     ·exact y6.block (by rw [ha];omega)
    clear hK K;refine sc_ fun K hK=>?_;go_wp2_with fail;have y7:Ext w6 (w6.alloc (.cells #[io,.string it,h6] 221)):=X_;have b7:=aQ8 w6 221 [io,.string it,h6];have h1:=y6.trans y7;refine hK _ _ (.inr (aR6 fun a ha=>?_)) ?_
    ·rcases ha with ha|ha|ha
     ·exact h1.block (by rw [ha];omega)
     ·exact h1.block (by rw [ha];omega)
     ·exact h1.block (by rw [ha];omega)
    clear hK K;have h8:=hid (HB.ext h1);have x7:=hid (h3.ext h1);have b5:=h1.size;have z5:=h9.size;refine sc_ fun K hK=>?_;refine bZ _ rfl _ _ rfl l2 (.slice ia L.length ic) L rfl h8.ins ⟨io,it,h6⟩ w6.heap.size rfl ⟨b7.cell 0 rfl,b7.cell 1 rfl,b7.cell 2 rfl⟩ (by omega) (by omega) ?_;intro h7 w8 h4 hg;have h5:=aF.rowC h8.ins
    have h0:∀{B:Nat} {t:TypeId} {cs:List Value},Blk (w6.alloc (.cells #[io,.string it,h6] 221)) B t cs->t≠221->w8.heap[B]?=(w6.alloc (.cells #[io,.string it,h6] 221)).heap[B]?:=fun hb ht=>hg.block _ hb.lt (fun e=>by
     obtain ⟨_,c,hc⟩:=h5 _ e.symm
     exact hb.noCells (Ne.symm ht) c hc)
    have kC:=h0 h8.code (by decide);have kN:=h0 x7 (by decide);have kM:=h0 h8.mp (by decide);have K8:KN l2 C 221 wr w8:=((KN.refl l2 C 221 wr).ext h1).grown hg h5;have C8:=h8.code.of kC;have e0:=C8.cell 0 rfl;have g0:=C8.free 0;have x5:=hid (HK.trans (K8.set HB.low 0 h7));have x3:=hid (HB.kn (K8.set HB.low 0 h7) (C8.set 0 h7) (aF.set h4 C8 (by decide) 0 h7));go_wp2_with fail;refine hK _ _ (.inr (aR6 fun a ha=>?_)) ?_
    ·rcases ha with ha|ha|ha
     ·rw [ha];exact kC.trans (h1.block (by omega))
     ·rw [ha];exact kN.trans (h1.block (by omega))
     ·rw [ha];exact kM.trans (h1.block (by omega))
    clear hK K;obtain ⟨a9,b0,x1,_⟩:=aF.form h4
    have z4:(L++[(⟨io,it,h6⟩:Ins)]).length=L.length+1:=by simp
    rw [z4] at x1;subst x1;clear h4 hg h5 h0 kC kN kM K8 C8 z0 z1 m0 n0 n1 n2 n3;refine gS ?_;simp only [aRm,aRg,aQ1,aQw,aQx]
    show wpQuiet _ _ _ _ [_] _
    simp only [Act.put,aQ4,aRc,aRb,List.getElem_toArray,List.getElem_cons_succ,List.getElem_cons_zero]
    repeat (go_big_quiet_step (fail))
    refine wpQuiet_nil ⟨_,rfl,fun K hK=>?_⟩;go_wp2_with fail;refine l_ hK ?_;clear hK K;refine aP ?_
    have q5:L++[(⟨io,it,h6⟩:Ins)]=xs++p.tr node:=by rw [x9,q9,<-HL,aRx]
    go_wp2
    go_end0
    exact ⟨rfl,⟨_,by rw [<-q5];exact x3⟩,x5⟩
end
section
open Go.RowKit Go.Maps Go.WideMaps
theorem zR {z:Int} (h:0<=z/\z<=9):I64 z:=⟨by omega,by omega⟩
theorem aLe {p:Prg} (h:p.K) (hgl:p.gs.length<=1048576) {j:Nat} {x:Nd} (hx:p.ns[j]?=some x) (hn:I64 x.num):I64 (bJ p x).op/\I64 (bJ p x).num:=by
 have h0:((pM p x.name:Nat):Int)<=1048576:=by
  unfold pM
  cases e:eM p.gs p.gs.length x.name.toList with
  | none=>decide
  | some i=>
   have:=(eX e).1
   show ((i:Nat):Int)<=1048576
   omega
 rcases jI (h.v.nd j x hx).1 with ⟨o,h2,h3⟩|⟨o,h3⟩|⟨o,h3⟩|⟨o,o',h3⟩|⟨o,h3⟩
 ·unfold bJ;rw [if_pos o];exact ⟨zR (z:=1) ⟨by decide,by decide⟩,hn⟩
 ·unfold bJ
  rw [if_neg (by omega),if_neg (by omega),if_pos o]
  split
  ·exact ⟨zR (z:=2) ⟨by decide,by decide⟩,zR (z:=0) ⟨by decide,by decide⟩⟩
  ·exact ⟨zR (z:=3) ⟨by decide,by decide⟩,⟨by show (-9223372036854775808:Int)<=((pM p x.name:Nat):Int);omega,by show ((pM p x.name:Nat):Int)<=9223372036854775807;omega⟩⟩
 ·unfold bJ;rw [if_neg (by omega),if_pos o];exact ⟨zR (z:=5) ⟨by decide,by decide⟩,zR (z:=3) ⟨by decide,by decide⟩⟩
 ·unfold bJ;rw [if_neg (by omega),if_neg (by omega),if_neg (by omega),if_neg (by omega)]
  exact ⟨zR (z:=6) ⟨by decide,by decide⟩,⟨by show (-9223372036854775808:Int)<=x.op;omega,by show x.op<=9223372036854775807;omega⟩⟩
 ·unfold bJ;rw [if_neg (by omega),if_neg (by omega),if_neg (by omega),if_pos o];exact ⟨zR (z:=7) ⟨by decide,by decide⟩,zR (z:=0) ⟨by decide,by decide⟩⟩
theorem aPl {p:Prg} (h:p.K) (hgl:p.gs.length<=1048576) (hn:∀x∈p.ns,I64 x.num):∀(F j:Nat),j<F->∀y∈p.tr j,I64 y.op/\I64 y.num:=by
 intro F
 induction F with
 | zero=>intro j hj;omega
 | succ F ih=>
  intro j hj y hy
  cases hx:p.ns[j]? with
  | none=>
   have:p.tr j=[]:=by show trF p (j+1) j=[];rw [trF,hx]
   rw [this] at hy;cases hy
  | some x=>
   rw [h.v.tr_step hx] at hy
   rcases aTe.1 hy with hy|hy
   ·obtain ⟨a,ha,hy⟩:=aVg.1 hy
    have:=(h.v.nd j x hx).2 a ha;exact ih a.toNat (by omega) y hy
   ·simp only [aRk,aRe,or_false] at hy
    subst hy;exact aLe h hgl hx (hn x (aRn hx))
theorem aLf {p:Prg} (h:p.K) (hgl:p.gs.length<=1048576) (hn:∀x∈p.ns,I64 x.num):∀(k:Nat),k<=p.gs.length->∀y∈p.trs k,I64 y.op/\I64 y.num:=by
 intro k
 induction k with
 | zero=>intro _ y hy;cases hy
 | succ k ih=>
  intro hk y hy
  obtain ⟨a,ha⟩:∃a,p.gs[k]?=some a:=⟨p.gs[k],aQ9 (by omega)⟩
  rw [Prg.trs_step ha] at hy
  rcases aTe.1 hy with hy|hy
  ·exact ih (by omega) y hy
  ·rcases aTe.1 hy with hy|hy
   ·exact aPl h hgl hn _ _ (aYx _) y hy
   ·simp only [aRk,aRe,or_false] at hy
    subst hy;exact ⟨zR (z:=4) ⟨by decide,by decide⟩,⟨by show (-9223372036854775808:Int)<=((k:Nat):Int);omega,by show ((k:Nat):Int)<=9223372036854775807;omega⟩⟩
theorem fV.inss {lo l2:Nat} {w:World} {v:Value} {xs:List Ins} (h:fV lo w v xs) (hl:l2<=lo) (hg:∀x∈xs,I64 x.op/\I64 x.num):aFj l2 w.heap.size w v xs:=by
 obtain ⟨a,c,rfl,_⟩:=aF.form h
 have hc:xs.length<=c/\c<=maxLen:=by
  rcases h.2 with ⟨e,h4⟩|⟨g,cap,cur,e,hb,hh,hc,hm,_⟩
  ·simp only [aRo] at e
   obtain ⟨rfl,e2,rfl⟩:=e;exact ⟨by omega,by unfold maxLen;omega⟩
  ·simp only [aRo] at e
   obtain ⟨rfl,e2,rfl⟩:=e;exact ⟨hc,hm⟩
 refine ⟨a,c,rfl,hc.1,hc.2,fun i x hx=>?_⟩;obtain ⟨g,cap,e,g1,g2,_,_,_,h0⟩:=aF.at h (fun _=>rfl) hx;simp only [aRo] at e;obtain ⟨rfl,_,rfl⟩:=e;have c0:=h0 0 (by decide);have c1:=h0 1 (by decide);have c2:=h0 2 (by decide);simp only [Ins.cs,aSk,aQw,aQx] at c0 c1 c2;exact ⟨hg x (aRn hx),g,0,rfl,by omega,g2,by rw [aRt];exact c0,by rw [aRt];exact c1,by rw [aRt];exact c2⟩
theorem cG.row {lo:Nat} {w:World} {v:Value} {xs:List ByteArray} (h:cG lo w v xs):∀k,v.ownBlock=some k->lo<=k/\∃c,w.heap[k]?=some (.cells c 9 (0,0)):=by
 intro k hk
 rcases h.2 with ⟨rfl,h4⟩|⟨g,cap,cur,rfl,hb,hg,_⟩
 ·cases hk
 ·simp only [aRu,aQ0] at hk
  subst hk;exact ⟨hb,cur,hg⟩
theorem TB.knS {p:Prg} {P T C M mb lo:Nat} {a1 a2:Option Addr} {c1 c2:Nat} {w w':World} {xs:List Ins} {iv lv lv':Value} {ls ls':List ByteArray} (h:TB p P T C M mb lo a1 a2 c1 c2 w xs iv ls lv) (k:KN lo C 9 w w') (hc:Blk w' C 163 [iv,lv']) (hl:cG lo w' lv' ls'):TB p P T C M mb lo a1 a2 c1 c2 w' xs iv ls' lv':=
 ⟨KN.blk h.prog k (h.prog.neq h.code (by decide)) (by decide),KN.blk h.fn k (h.fn.neq h.code (by decide)) (by decide),hc,KN.blk h.mp k (h.mp.neq h.code (by decide)) (by decide),KN.fm h.map k h.code,KN.row h.ins k (h.code.noCells (by decide)) (by decide),hl,h.low⟩
end
section
open Go.RowKit Go.Maps Go.WideMaps
theorem Cod.R.wideC {c:Cod} {lo hi l2 h2:Nat} {w:World} {v:Value} (h:c.R lo hi w v) (hl:l2<=lo) (hh:hi<=h2):c.R l2 h2 w v:=by
 obtain ⟨iu,lu,rfl,⟨a,cap,e1,e2,e3,e4⟩,⟨a',cap',f1,f2,f3,f4⟩⟩:=h;refine ⟨iu,lu,rfl,⟨a,cap,e1,e2,e3,fun i x hx=>?_⟩,⟨a',cap',f1,f2,f3,fun i x hx=>?_⟩⟩
 ·obtain ⟨g0,b,h0,g1,g2,g3,g4⟩:=e4 i x hx
  exact ⟨g0,b,h0,g1,by omega,by omega,g4⟩
 ·obtain ⟨b,h0,g1,g2,g3,g4⟩:=f4 i x hx
  exact ⟨b,h0,g1,by omega,by omega,g4⟩
theorem aEn {p:Prg} {k:Nat}:∀m,k<=m->m<=p.gs.length->(p.trs k).length<=(p.trs m).length:=by
 intro m
 induction m with
 | zero=>
  intro h _
  have:k=0:=by omega
  rw [this];exact aQv _
 | succ m ih=>
  intro h hm
  by_cases e:k=m+1
  ·subst e;exact aQv _
  ·have:=ih (by omega) (by omega)
   obtain ⟨a,ha⟩:∃a,p.gs[m]?=some a:=⟨p.gs[m],aQ9 (by omega)⟩
   rw [Prg.trs_step ha,aRq];omega
theorem aCk (lo hi:Nat) (v:Value) (p:Prg) (w:World) (hv:p.R lo hi w v) (hh:hi<=w.heap.size) (hchk:p.chkB=true) (hbd:p.bd) (hgl:p.gs.length<=1048576) :
  Calls aQ2 105 #[v] w fun e w'=>∃u,e = .returned (.tuple #[u,.bool true])/\p.code.R w.heap.size w'.heap.size w' u/\Ext w w':=by
 have HV:=hid hv;have hp:=Prg.chkB_K hchk;have HP:=hid hp;have b1:=hid hchk;obtain ⟨a1,c1,a2,c2,rfl,HN,HG⟩:=hv.form;have l1:=HN.le;have l2:=HN.cap;have l3:=HG.le;have l4:=HG.cap;have l5:=hp.v.len;have l6:=hp.v.gs_len
 have q5:∀x∈p.ns,I64 x.num:=fun x hx=>by
  obtain ⟨i,hi,c8⟩:=aRw hx;exact (HN.cell i x (by rw [<-c8];simp [hi])).1.2
 have a9:=hid (aLf hp hgl q5);have q3:=oE hp;have b2:=hid q3;have b0:=aQ8 w 119 [.slice a1 p.ns.length c1,.slice a2 p.gs.length c2];have r0:=aQ8 (w.alloc (.cells #[.slice a1 p.ns.length c1,.slice a2 p.gs.length c2] 119)) 163 [.slice none 0 0,.slice none 0 0];rw [aQy] at r0;have x0:Ext w ((w.alloc (.cells #[.slice a1 p.ns.length c1,.slice a2 p.gs.length c2] 119)).alloc (.cells #[.slice none 0 0,.slice none 0 0] 163)):=X_;have z9:=hid (b0.ext (show Ext _ ((w.alloc (.cells #[.slice a1 p.ns.length c1,.slice a2 p.gs.length c2] 119)).alloc (.cells #[.slice none 0 0,.slice none 0 0] 163)) from X_));have y4:=hid r0;have x7:=hid x0;clear hv hp hchk b0 r0 x0 q5 q3;go_enter func105,ntmps105;go_wp2_with fail;refine r_ (tK b1 lo hi _ _ (HV.ext hh x7) (aQ5 hh x7.size) hbd hgl) fun w1 x1=>?_;have h4:=hid (x7.trans x1);have x4:=hid (z9.ext x1);have h6:=hid (y4.ext x1);obtain ⟨q0,q1⟩:=x4.q2;have ql:=x4.lt;clear x1 x7 z9 y4;go_wp2_with fail;refine (qB lo hi _ p _ (HV.ext hh h4) (aQ5 hh h4.size) hbd hgl).mono ?_;rintro e w2 ⟨⟨mb,rfl,hmb,hM⟩,x2⟩;have z4:=hid (h4.trans x2);have x5:=hid (x4.ext x2);have z1:=hid (h6.ext x2);have y3:=hid hM;have q1:=x5.cell 1 rfl;have g8:=x5.lt;have g9:=z1.lt;have x3:=z4.size;clear x2 hM h4 x4 h6;have xb:Ext w2 (((w2.alloc (.cells #[.slice none 0 0,.slice none 0 0] 163)).alloc (.cells #[.map (some mb)] 217)).alloc (.cells #[.func (.func 162) #[] #[.pointer (some ⟨w.heap.size,0,none⟩),.pointer (some ⟨w2.heap.size+1+1,0,none⟩),.pointer (some ⟨w2.heap.size,0,none⟩),.pointer (some ⟨w2.heap.size+1,0,none⟩)]] 219)):=X_;have cb:=(aQ8 w2 163 [.slice none 0 0,.slice none 0 0]).ext (show Ext (w2.alloc (.cells #[.slice none 0 0,.slice none 0 0] 163)) (((w2.alloc (.cells #[.slice none 0 0,.slice none 0 0] 163)).alloc (.cells #[.map (some mb)] 217)).alloc (.cells #[.func (.func 162) #[] #[.pointer (some ⟨w.heap.size,0,none⟩),.pointer (some ⟨w2.heap.size+1+1,0,none⟩),.pointer (some ⟨w2.heap.size,0,none⟩),.pointer (some ⟨w2.heap.size+1,0,none⟩)]] 219)) from X_);have z8:=(aQ8 (w2.alloc (.cells #[.slice none 0 0,.slice none 0 0] 163)) 217 [.map (some mb)]).ext (show Ext ((w2.alloc (.cells #[.slice none 0 0,.slice none 0 0] 163)).alloc (.cells #[.map (some mb)] 217)) (((w2.alloc (.cells #[.slice none 0 0,.slice none 0 0] 163)).alloc (.cells #[.map (some mb)] 217)).alloc (.cells #[.func (.func 162) #[] #[.pointer (some ⟨w.heap.size,0,none⟩),.pointer (some ⟨w2.heap.size+1+1,0,none⟩),.pointer (some ⟨w2.heap.size,0,none⟩),.pointer (some ⟨w2.heap.size+1,0,none⟩)]] 219)) from X_);have fb:=aQ8 ((w2.alloc (.cells #[.slice none 0 0,.slice none 0 0] 163)).alloc (.cells #[.map (some mb)] 217)) 219 [.func (.func 162) #[] #[.pointer (some ⟨w.heap.size,0,none⟩),.pointer (some ⟨w2.heap.size+1+1,0,none⟩),.pointer (some ⟨w2.heap.size,0,none⟩),.pointer (some ⟨w2.heap.size+1,0,none⟩)]];simp only [aQy] at z8 fb
 have hT:TB p w.heap.size (w2.heap.size+1+1) w2.heap.size (w2.heap.size+1) mb w2.heap.size a1 a2 c1 c2 (((w2.alloc (.cells #[.slice none 0 0,.slice none 0 0] 163)).alloc (.cells #[.map (some mb)] 217)).alloc (.cells #[.func (.func 162) #[] #[.pointer (some ⟨w.heap.size,0,none⟩),.pointer (some ⟨w2.heap.size+1+1,0,none⟩),.pointer (some ⟨w2.heap.size,0,none⟩),.pointer (some ⟨w2.heap.size+1,0,none⟩)]] 219)) [] (.slice none 0 0) [] (.slice none 0 0):=⟨x5.ext xb,fb,cb,z8,y3.ext xb,aF.nil _ _ _ _ _,cG.nil _ _,aQv _⟩
 have HT:=hid hT;have y9:=hid (z1.ext xb);have a4:=hid (z4.trans xb);have d3:=hT.prog.cell 1 rfl;clear cb z8 fb hT xb x5 y3 z1 z4;go_wp2_with fail
 go_loopw [20] (fun i wr=>∃(k:Nat) (iv lv:Value),k<=p.gs.length/\i = .int .i64 (k:Nat)/\TB p w.heap.size (w2.heap.size+1+1) w2.heap.size (w2.heap.size+1) mb w2.heap.size a1 a2 c1 c2 wr (p.trs k) iv ((p.gs.take k).map (·.name)) lv/\Blk wr (w.heap.size+1) 163 [.slice none 0 0,.slice none 0 0]/\Ext w wr) (fun i _=>p.gs.length - (intOf i).toNat)
 case atStart=>exact ⟨0,_,_,by omega,rfl,HT,y9,a4⟩
 case round=>
  clear HT y9 a4 d3;obtain ⟨k,iv,lv,hk,rfl,hT,hR,hx⟩:=hrel;have HT:=hid hT;have HR:=hid hR;have HX:=hid hx
  by_cases d0:k<p.gs.length
  ·obtain ⟨b,d2,s,rt,rfl,e9,g2,q4,h3,ir,y0,y1⟩:=HG.at d0 hx hh
   have d1:=(HP.v.ag k _ h3).2;simp only at d1
   obtain ⟨r,rfl⟩:∃r:Nat,rt=r:=⟨rt.toNat,by omega⟩
   have b3:=hid h3;have z0:=Prg.trs_step h3;have g5:=aEn (p:=p) (k:=k+1) p.gs.length (by omega) (aQv _);have q3:=b2.out;have c7:(p.trs p.gs.length).length<=120:=q3;simp only [aRr] at z0
   have g3:(p.trs (k+1)).length=(p.trs k).length+(p.tr r).length+1:=by rw [z0];simp;omega
   have b8:=hid z0;have y0:Ext wr (wr.alloc (.cells #[.string s,(r:Nat)] 200)):=X_;have HA:=hid (aQ8 wr 200 [.string s,(r:Nat)]);have z3:=hid (hT.ext y0);have h6:=hid (hR.ext y0);have h4:=hid (hx.trans y0);have z6:=hT.fn;have f0:=z6.cell 0 rfl;have fl:=z6.lt;have zr:=hx.size;have g4:=hT.low;have e5:=hT.code.lt;clear hT hR hx q4 h3 z0 q3 HT HR HX z6;go_wp2_with fail;refine (aM7 lo hi p HP hbd hgl w a1 (some ⟨b,d2,none⟩) c1 c2 HN hh w.heap.size (w2.heap.size+1+1) w2.heap.size (w2.heap.size+1) mb w2.heap.size x3 _ _ (r+1) r _ iv _ (by omega) (by omega) (by omega) z3 h4).mono ?_;rintro e w5 ⟨rfl,⟨iv2,hT5⟩,hk5⟩;have h5:=hid (KN.blk HA hk5 (HA.neq z3.code (by decide)) (by decide));have y7:=hid (h6.of (hk5.block _ h6.lt (.inl (by omega))));have a3:=hid (hk5.up h4 x3)
   obtain ⟨L,hL⟩:=e_ (p.trs k++p.tr r)
   have e6:L.length<=200:=by rw [<-hL,aRq];omega
   rw [hL] at hT5;have HL:=hid hL
   obtain ⟨NL,x9⟩:=e_ ((p.gs.take k).map (·.name))
   have e7:NL.length<=200:=by rw [<-x9,aSh,aRp];omega
   rw [x9] at hT5;have b4:=hid x9;have x6:=hid hT5;obtain ⟨ia,ic,rfl,-⟩:=aF.form hT5.ins;obtain ⟨la,lc,rfl,-⟩:=hT5.loc.form;obtain ⟨a5,a6⟩:=hT5.code.q2;have c5:=hT5.code.free 0;have c6:=hT5.code.free 1;have cl:=hT5.code.lt;obtain ⟨k0,k1⟩:=h5.q2;have kl:=h5.lt;have y5:Ext w5 (w5.alloc (.cells #[.int .i64 4,.string ⟨#[]⟩,(k:Nat)] 221)):=X_;have b5:=aQ8 w5 221 [.int .i64 4,.string ⟨#[]⟩,(k:Nat)];have z5:=hid y5;have d7:=hid b5;have y2:=hid (aF.ext hT5.ins y5);have i0:=a3.size;have d4:=y5.size;clear hL x9 hT5 hk5 y5 b5 z3 h6 h4 HA f0;go_wp2_with (at_builtin;refine bZ _ rfl _ _ rfl w2.heap.size (.slice ia L.length ic) L rfl ?_ ⟨4,⟨#[]⟩,(k:Nat)⟩ w5.heap.size rfl ?_ ?_ ?_ ?_)
   ·exact y2
   ·omega
   ·exact aQ5 (aT5 cl) d4
   intro h7 w6 h1 hg;have h2:=aF.rowC y2
   have h0:∀{B:Nat} {t:TypeId} {cs:List Value},Blk w5 B t cs->t≠221->w6.heap[B]?=w5.heap[B]?:=fun hb ht=>(hg.block _ (by have:=hb.lt;omega) (fun e=>by
    obtain ⟨_,c,hc⟩:=h2 _ e.symm
    exact (hb.ext z5).noCells (Ne.symm ht) c hc)).trans (z5.block hb.lt)
   have kC:=h0 x6.code (by decide);have kA:=h0 h5 (by decide);have K6:KN w2.heap.size w2.heap.size 221 w5 w6:=((KN.refl _ _ _ w5).ext z5).grown hg h2;have C6:=x6.code.of kC;have d6:=hid ((h5.of kA).other (a:=⟨w2.heap.size,0,none⟩) (h5.neq x6.code (by decide)) h7);have h9:=hid (x6.kn (K6.set (aQv _) 0 h7) (C6.set 0 h7) (aF.set h1 C6 (by decide) 0 h7));have y8:=hid (y7.of ((K6.set (aQv _) 0 h7).block _ y7.lt (.inl (by omega))));have c0:=hid ((K6.set (aQv _) 0 h7).up a3 x3);obtain ⟨q7,q8,q6,_⟩:=aF.form h1
   have c9:(L++[(⟨4,⟨#[]⟩,(k:Nat)⟩:Ins)]).length=L.length+1:=by simp
   rw [c9] at q6;subst q6;obtain ⟨e0,e1⟩:=C6.q2;have g0:=C6.free 0;have g1:=C6.free 1;have a0:=(h5.of kA).cell 0 rfl;have al:=(h5.of kA).lt;have d8:=C6.lt;clear h1 hg h2 h0 kC kA K6 C6 a5 a6 c5 c6 k0 k1;have y6:Ext (w6.setCell ⟨w2.heap.size,0,none⟩ (.slice q7 (L.length+1) q8)) ((w6.setCell ⟨w2.heap.size,0,none⟩ (.slice q7 (L.length+1) q8)).alloc (.cells #[.string s] 9)):=X_;have z2:=hid (h9.loc.ext y6);have x8:=hid y6;have b6:=aQ8 (w6.setCell ⟨w2.heap.size,0,none⟩ (.slice q7 (L.length+1) q8)) 9 [.string s];rw [aSg] at b6;have d5:=y6.size;have a8:=h9.code.lt;clear y6;go_wp2_with (at_builtin;refine jS _ rfl _ _ rfl w2.heap.size (.slice la NL.length lc) NL rfl ?_ s w6.heap.size rfl ?_ ?_ ?_ ?_)
   ·exact z2
   ·exact b6.cell 0 rfl
   ·omega
   ·exact aQ5 (aT5 a8) d5
   intro q9 w8 h1 hg;have h2:=cG.row z2
   have kC:w8.heap[w2.heap.size]?=(w6.setCell ⟨w2.heap.size,0,none⟩ (.slice q7 (L.length+1) q8)).heap[w2.heap.size]?:=(hg.block _ (by omega) (fun e=>by
    obtain ⟨_,c,hc⟩:=h2 _ e.symm
    exact (h9.code.ext x8).noCells (by decide) c hc)).trans (x8.block a8)
   have K8:KN w2.heap.size w2.heap.size 9 (w6.setCell ⟨w2.heap.size,0,none⟩ (.slice q7 (L.length+1) q8)) w8:=((KN.refl _ _ _ _).ext x8).grown hg h2;have C8:=h9.code.of kC;have O9:=KN.strs h1 ((KN.refl w2.heap.size w2.heap.size 221 w8).set (aQv _) 1 q9) (C8.noCells (by decide)) (by decide);have b9:=hid (h9.knS (K8.set (aQv _) 1 q9) (C8.set 1 q9) O9);have b7:=hid (y8.of ((K8.set (aQv _) 1 q9).block _ y8.lt (.inl (by omega))));have c3:=hid ((K8.set (aQv _) 1 q9).up c0 x3);obtain ⟨g6,g7,q6,_⟩:=h1.form
   have z7:(NL++[s]).length=NL.length+1:=by simp
   rw [z7] at q6;subst q6;have e3:=C8.cell 1 rfl;have e4:=C8.free 1;have d9:=C8.lt;clear h1 hg h2 kC K8 C8 O9 z2 x8;go_wp2_with fail;go_roundw
   case rel=>
    have e1:L++[(⟨4,⟨#[]⟩,(k:Nat)⟩:Ins)]=p.trs (k+1):=by rw [b8,<-HL,aRx]
    have e2:NL++[s]=(p.gs.take (k+1)).map (·.name):=by rw [aW0,b3,aS8,b4];rfl
    have h8:=b9.out;rw [e1,e2] at h8;exact ⟨k+1,_,_,by omega,by go_num,h8,b7,c3⟩
   case measure=>simp [intOf];omega
  ·obtain rfl:k=p.gs.length:=by omega
   rw [aR2] at HT;obtain ⟨ia,ic,rfl,-⟩:=aF.form HT.ins;obtain ⟨la,lc,rfl,-⟩:=HT.loc.form;obtain ⟨a5,a6⟩:=HT.code.q2;have cl:=HT.code.lt;obtain ⟨r0,r1⟩:=HR.q2;have f0:=HR.free 0;have f1:=HR.free 1;have rl:=HR.lt;have zX:=HX.size;have hS:=hid (HT.loc.strs);have hI:=hid (HT.ins.inss (aQv _) (a9 _ (aQv _)))
   have a7:p.code.R w2.heap.size wr.heap.size wr (.agg #[.slice ia (p.trs p.gs.length).length ic,.slice la p.gs.length lc]):=⟨_,_,rfl,hI.out,by have h:=hS.out;rw [aSh] at h;exact h⟩
   have c4:=hid (a7.same ((aM.setLow wr (p:=⟨w.heap.size+1,0,none⟩) (by simp only;omega) (.slice ia (p.trs p.gs.length).length ic)).trans (aM.setLow _ (p:=⟨w.heap.size+1,1,none⟩) (by simp only;omega) (.slice la p.gs.length lc))));have e8:=HX.out;clear hT hR hx a7;go_wp2;refine bodyPost_ret (v:=.tuple #[.agg #[.slice ia (p.trs p.gs.length).length ic,.slice la p.gs.length lc],.bool true]) (by simp [results,results105,go_sem, *]) rfl ?_;exact ⟨_,rfl,c4.wideC x3 (by simp),S_⟩
end
theorem Scn.prg_at {s:Scn} (h:s.sh k=(q:Nat)) (hq:q<s.ps.length):s.prg k=s.ps[q]:=by
 unfold Scn.prg;rw [h,aRr,aRs,aQ9 hq]
 rfl
theorem Scn.shade_at {s:Scn} (h:s.sh k=(q:Nat)) (hq:q<s.ps.length) (hn:s.rt k=(n:Nat)):s.shade k=((s.ps[q].code.shade (nE (s.st k) n s.t)).1,(s.ps[q].code.shade (nE (s.st k) n s.t)).2.1):=by
 unfold Scn.shade;rw [Scn.prg_at h hq];unfold Scn.grd;rw [hn,aRr]
theorem Scn.Ok.at {s:Scn} (ho:s.Ok) (hk:k<s.m):∃q n:Nat,s.sh k=(q:Nat)/\q<s.ps.length/\s.rt k=(n:Nat)/\1<=n/\n<=8/\qX (s.st k)=true/\qX (s.en k)=true:=by
 have h:=aLc.1 (ho.srf k hk);have h1:=h.sh;have h2:=h.rt;exact ⟨(s.sh k).toNat,(s.rt k).toNat,by omega,by omega,by omega,by omega,by omega,h.f,h.g⟩
theorem Scn.Ok.shade {s:Scn} (ho:s.Ok) (hk:k<s.m):(s.shade k).1.length=(s.rt k).toNat*(s.rt k).toNat/\(s.shade k).2.length=(s.rt k).toNat*(s.rt k).toNat:=by
 obtain ⟨q,n,h1,h2,h3,h4,h5,h6,-⟩:=ho.at hk;have hc:=ho.prg _ (aRh h2);obtain ⟨X,Y,e,x,y,-⟩:=(Prg.chkB_K hc).shade hc (xT (f:=s.st k) (n:=n) (t:=s.t) ⟨h4,h5⟩ ho.t);rw [Scn.shade_at h1 h2 h3,e,h3,aRr];exact ⟨x,y⟩
theorem Grd.R.formS {g:Grd} (h:g.R lo hi w v):∃a1 c1 a2 c2,v = .agg #[g.n,.slice a1 g.m c1,g.tm,g.t.log,.slice a2 g.t.px.length c2]:=by
 obtain ⟨pu,tu,rfl,_,_,_,hp,hu⟩:=h;obtain ⟨a1,c1,rfl,_⟩:=hp;obtain ⟨a2,c2,rfl,_⟩:=hu;exact ⟨a1,c1,a2,c2,rfl⟩
theorem aLg:(Tryz.prog.info? 91).map (fun i=>i.size)=some 2:=by kernel_rfl
theorem fW.low' (h:fW lo hi w v xs) (hl:lo'<=lo):fW lo' hi w v xs:=⟨h.1.low hl,h.2⟩
theorem fW.setLow (h:fW lo hi w v xs) {p:Addr} (hp:p.block<lo) (u:Value):fW lo hi (w.setCell p u) v xs:=⟨h.1.setLow hp u,h.2⟩
theorem fW.form (h:fW lo hi w v xs):∃a c,v = .slice a xs.length c:=by
 obtain ⟨a,c,e,_⟩:=h.1.form;exact ⟨a,c,e⟩
theorem aGt (s:Scn) (lo hi:Nat) (v:Value) (k:Nat) (w:World) (hv:s.R lo hi w v) (hh:hi<=w.heap.size) (ho:s.Ok) (hsm:s.small) (hk:k<s.m) :
  Calls aQ2 59 #[v,(k:Nat)] w fun e w'=>∃r1 r2,e = .returned (.agg #[r1,r2])/\∃h,w.heap.size<=h/\h<=w'.heap.size/\fW w.heap.size h w' r1 (s.shade k).1/\fW h w'.heap.size w' r2 (s.shade k).2/\Ext w w':=by
 obtain ⟨q,n,x0,hq,q9,d3,d4,q8,d5⟩:=ho.at hk;obtain ⟨a1,c1,a2,c2,a3,c3,rfl,-,h5,-,h1,h2,h3⟩:=hv.form;have d1:=h3.cap;have i8:=h3.le;have j0:=h2.le;have b5:=h2.cap;obtain ⟨b,h0,rfl,i5,i6,h4⟩:=h3.at hk (by decide)
 obtain ⟨f,hf⟩:=e_ (s.st k)
 obtain ⟨g,hg⟩:=e_ (s.en k)
 have bw:b<w.heap.size:=by omega
 have q3:w.rangeAt b (h0+k*26) ((aRl 26).map fun j=>.int .i64 (s.F (k*26+j))):=by
  intro j v hj;obtain ⟨h1,h2⟩:=aQz.1 hj;simp only [aSh,aUo] at h1;simp only [aVf,aUe] at h2;subst h2;exact h4 j h1
 change w.rangeAt b (h0+k*26) [(s.st k 0),(s.st k 1),(s.st k 2),(s.st k 3),(s.st k 4),(s.st k 5),(s.st k 6),(s.st k 7),(s.st k 8),(s.st k 9),(s.st k 10),(s.st k 11),(s.en k 0),(s.en k 1),(s.en k 2),(s.en k 3),(s.en k 4),(s.en k 5),(s.en k 6),(s.en k 7),(s.en k 8),(s.en k 9),(s.en k 10),(s.en k 11),(s.sh k),(s.rt k)] at q3;simp only [hf,hg,x0,q9] at q3;have h6:=Scn.shade_at x0 hq q9;rw [hf] at h6 q8;have h8:=ho.prg _ (aRh hq);have z7:=hsm _ (aRh hq);have h9:=ho.t;have H1:=hid h1;have H2:=hid h2;have x8:=hid q3;have a0:=hid h5;have c4:=hid (show ∀W:World,Ext w W->cN lo hi W (.agg #[s.t.log,.slice a1 s.t.px.length c1]) s.t from fun W x=>⟨_,rfl,h5,(h1.shut).ext hh x⟩);have x4:=hid h8;have q4:=hid z7;have b3:=hid h9;have b0:=hid q8;have b1:=hid h6;have x2:Ext w ((w.alloc (.cells (sA_ s a1 c1 a2 c2 (some ⟨b,h0,none⟩) c3) 40)).alloc (.cells #[.slice none 0 0,.slice none 0 0] 91)):=X_;have bS:=(aQ8 w 40 (sL_ s a1 c1 a2 c2 (some ⟨b,h0,none⟩) c3)).ext (show Ext (w.alloc (.cells (sA_ s a1 c1 a2 c2 (some ⟨b,h0,none⟩) c3) 40)) ((w.alloc (.cells (sA_ s a1 c1 a2 c2 (some ⟨b,h0,none⟩) c3) 40)).alloc (.cells #[.slice none 0 0,.slice none 0 0] 91)) from X_)
 have bH:Blk ((w.alloc (.cells (sA_ s a1 c1 a2 c2 (some ⟨b,h0,none⟩) c3) 40)).alloc (.cells #[.slice none 0 0,.slice none 0 0] 91)) (w.heap.size+1) 91 [.slice none 0 0,.slice none 0 0]:=by
  have h:=aQ8 (w.alloc (.cells (sA_ s a1 c1 a2 c2 (some ⟨b,h0,none⟩) c3) 40)) 91 [.slice none 0 0,.slice none 0 0];rw [aQy] at h;exact h
 have z2:((w.alloc (.cells (sA_ s a1 c1 a2 c2 (some ⟨b,h0,none⟩) c3) 40)).alloc (.cells #[.slice none 0 0,.slice none 0 0] 91)).heap.size=w.heap.size+2:=by simp
 clear hv h1 h2 h3 q3 h8 z7 h9 q8 d5 h6 x0 q9 h4 hf hg h5;go_enter func59,ntmps59;go_upto_region 1 with fail
 obtain ⟨W0,q6⟩:=e_ ((w.alloc (.cells (sA_ s a1 c1 a2 c2 (some ⟨b,h0,none⟩) c3) 40)).alloc (.cells #[.slice none 0 0,.slice none 0 0] 91))
 rw [q6] at x2 bS bH z2;rw [q6];clear q6;have z1:=hid x2;have HS:=hid bS;have HH:=hid bH;have Z2:=hid z2;have z4:W0.rangeAt b (h0+k*26) [(f 0),(f 1),(f 2),(f 3),(f 4),(f 5),(f 6),(f 7),(f 8),(f 9),(f 10),(f 11),(g 0),(g 1),(g 2),(g 3),(g 4),(g 5),(g 6),(g 7),(g 8),(g 9),(g 10),(g 11),(q:Nat),(n:Nat)]:=fun j v hj=>(x2.cells.1 b _ bw).trans (x8 j v hj);have x3:=hid z4;have b6:=bS.cell 10 rfl;have ls:=bS.lt
 have lb:b<W0.heap.size:=by omega
 clear x2 bS bH z2 z4;go_upto_region 2 with (first|(show wpList _ _ _ [_,_,_] _ _;refine wpList_load_mid rfl _ _ rfl b (h0+k*26) rfl [(f 0),(f 1),(f 2),(f 3),(f 4),(f 5),(f 6),(f 7),(f 8),(f 9),(f 10),(f 11),(g 0),(g 1),(g 2),(g 3),(g 4),(g 5),(g 6),(g 7),(g 8),(g 9),(g 10),(g 11),(q:Nat),(n:Nat)] _ x3 underlying127 rfl iG ?_)|(show wpList _ _ _ [_] _ _;refine dI _ _ _ rfl 127 (.tmp 5) (.tmp 17) rfl rfl #[(f 0),(f 1),(f 2),(f 3),(f 4),(f 5),(f 6),(f 7),(f 8),(f 9),(f 10),(f 11),(g 0),(g 1),(g 2),(g 3),(g 4),(g 5),(g 6),(g 7),(g 8),(g 9),(g 10),(g 11),(q:Nat),(n:Nat)] W0.heap.size rfl rfl rfl (by kernel_rfl) (by kernel_rfl) (by kernel_rfl) ?_));have xA:Ext W0 (W0.alloc (.cells #[(f 0),(f 1),(f 2),(f 3),(f 4),(f 5),(f 6),(f 7),(f 8),(f 9),(f 10),(f 11),(g 0),(g 1),(g 2),(g 3),(g 4),(g 5),(g 6),(g 7),(g 8),(g 9),(g 10),(g 11),(q:Nat),(n:Nat)] 127)):=X_;have bA:=aQ8 W0 127 [(f 0),(f 1),(f 2),(f 3),(f 4),(f 5),(f 6),(f 7),(f 8),(f 9),(f 10),(f 11),(g 0),(g 1),(g 2),(g 3),(g 4),(g 5),(g 6),(g 7),(g 8),(g 9),(g 10),(g 11),(q:Nat),(n:Nat)]
 obtain ⟨A,hA⟩:=e_ W0.heap.size
 obtain ⟨W1,z3⟩:=e_ (W0.alloc (.cells #[(f 0),(f 1),(f 2),(f 3),(f 4),(f 5),(f 6),(f 7),(f 8),(f 9),(f 10),(f 11),(g 0),(g 1),(g 2),(g 3),(g 4),(g 5),(g 6),(g 7),(g 8),(g 9),(g 10),(g 11),(q:Nat),(n:Nat)] 127))
 rw [z3] at xA bA ⊢;rw [hA] at bA ls lb ⊢;have X1:=hid (z1.trans xA);have S1:=HS.ext xA;have z0:=hid S1;have x9:=hid (HH.ext xA);have x1:=hid bA;have ZA:=hid (show w.heap.size+2<=A by have:=Z2.out;omega);have d9:=S1.cell 9 rfl;have g3:=S1.lt;have b9:=bA.cell 24 rfl;have lA:=bA.lt;obtain ⟨b2,g5,na,nc,ga,gc,rfl,d0,c9,k1,k2,hR⟩:=H2.at hq X1 hh;have HR:=hid hR;clear z3 hA xA bA S1 hR b6 ls lb HS HH z1 x3 x8;go_wp2_with fail;refine (aCk lo hi _ (s.ps[q]'hq) _ HR (aQ5 hh X1.size) x4 q4.1 q4.2.2).mono ?_;rintro e w5 ⟨u,rfl,R5,x5⟩
 obtain ⟨K,hK⟩:=e_ ((s.ps[q]'hq).code)
 have y9:=hid (show K.small by rw [<-hK];exact ⟨by have:=oE (Prg.chkB_K x4);omega,by show ((s.ps[q]'hq).gs.map (·.name)).length<=1048576;rw [aSh];exact q4.2.2⟩);have y8:=hid hK;rw [hK] at R5;obtain ⟨a5,c5,a6,c6,rfl,-,-⟩:=R5.form;have y5:Ext w5 (w5.alloc (.cells #[.slice a5 K.xs.length c5,.slice a6 K.ls.length c6] 163)):=X_;have bC:=aQ8 w5 163 [.slice a5 K.xs.length c5,.slice a6 K.ls.length c6];have y0:=hid (R5.ext (aQv _) y5);have X5:=hid (X1.trans (x5.trans y5));have S5:=z0.ext (x5.trans y5);have g8:=hid S5;have y4:=hid (x9.ext (x5.trans y5));have A5:=x1.ext (x5.trans y5);have g7:=hid A5;have z8:=hid bC;have z5:=(x5.trans y5).size;have g6:=y5.size;have j2:=x5.size;have d7:=S5.cell 7 rfl;have d8:=S5.cell 8 rfl;have g4:=S5.lt;obtain ⟨e0,e1,e2,e3,e4,e5,e6,e7,e8,e9,b7,b8⟩:=A5.q12;have c0:=A5.cell 25 rfl;have d6:=A5.lt;have ZF:=hid (show w.heap.size+2<=(w5.alloc (.cells #[.slice a5 K.xs.length c5,.slice a6 K.ls.length c6] 163)).heap.size by have:=ZA.out;omega);clear R5 x5 y5 bC S5 A5 d9 g3 b9 lA k1 k2 hK z0 x9 x1 HR;go_wp2_with fail;refine (aEl lo hi f b0 n ⟨d3,d4⟩ _ s.t _ (c4.out _ X5) (aQ5 hh X5.size) b3).mono ?_;rintro e w6 ⟨gv,rfl,R6,x6⟩
 obtain ⟨g1,g2,hg⟩:∃g:Grd,nE f n s.t=g/\True:=⟨_,rfl,trivial⟩
 have y3:=hid g2;rw [g2] at R6;obtain ⟨a7,c7,a8,c8,rfl⟩:=Grd.R.formS R6;have y6:Ext w6 (w6.alloc (.cells #[g1.n,.slice a7 g1.m c7,g1.tm,g1.t.log,.slice a8 g1.t.px.length c8] 168)):=X_;have bG:=aQ8 w6 168 [g1.n,.slice a7 g1.m c7,g1.tm,g1.t.log,.slice a8 g1.t.px.length c8];have y2:=hid (R6.ext (aQv _) y6);have X6:=hid (X5.trans (x6.trans y6));have y7:=hid (y4.ext (x6.trans y6));have B6:=z8.ext (x6.trans y6);have y1:=hid (y0.ext (by have:=g6;omega) (x6.trans y6));have z6:=(x6.trans y6).size;have j1:=y6.size;obtain ⟨f0,f1⟩:=B6.q2;have g0:=B6.lt;obtain ⟨i0,i1,i2,i3,i4⟩:=bG.q5;have lG:=bG.lt;clear R6 x6 y6 bG B6 hg g2 d7 d8 g4 e0 e1 e2 e3 e4 e5 e6 e7 e8 e9 b7 b8 c0 d6;go_wp2_with fail
 have hS:∃X Y bb,K.shade g1=(X,Y,bb):=⟨_,_,_,rfl⟩
 obtain ⟨X,Y,bb,q7⟩:=hS
 have h7:(s.shade k).1=X/\(s.shade k).2=Y:=by
  rw [b1,y8,y3,q7];exact ⟨rfl,rfl⟩
 have HE:=hid h7;have b4:=hid q7;clear q7 h7;refine (xJ _ _ _ _ _ _ K g1 _ b4 y1 (by omega) y2 (by omega) y9).mono ?_;rintro e w7 ⟨r1,r2,rfl,h,i7,d2,O1,O2,x7⟩;obtain ⟨ra,rc,rfl⟩:=O1.form;obtain ⟨sa,sc,rfl⟩:=O2.form;have B7:=y7.ext x7;have z9:=hid B7;have X7:=hid (X6.trans x7);have a4:=hid O1;have a9:=hid O2;obtain ⟨p0,p1⟩:=B7.q2;have q0:=B7.free 0;have q1:=B7.free 1;have i9:=B7.lt;clear B7 O1 O2 x7 f0 f1 g0 i0 i1 i2 i3 i4 lG;go_wp2;have bF:=(z9.set 0 (.slice ra X.length rc)).set 1 (.slice sa Y.length sc);refine aCh rfl rfl bF _ underlying91 rfl aLg rfl ?_;have g9:=ZF.out;refine ⟨_,_,rfl,h,by omega,by rw [aSg,aSg];exact d2,?_,?_,?_⟩
 ·rw [HE.1]
  exact ((a4.setLow (p:=⟨w.heap.size+1,0,none⟩) (by simp only;omega) _).setLow (p:=⟨w.heap.size+1,1,none⟩) (by simp only;omega) _).low' (by omega)
 ·rw [HE.2,aSg,aSg]
  exact (a9.setLow (p:=⟨w.heap.size+1,0,none⟩) (by simp only;omega) _).setLow (p:=⟨w.heap.size+1,1,none⟩) (by simp only;omega) _
 ·exact aRf (aRf X7 (by simp only;omega) _) (by simp only;omega) _
theorem Scn.R.formV {s:Scn} (h:s.R lo hi w v):∃a1 c1 a2 c2 a3 c3,v = .agg #[s.c.w,s.c.h,s.c.zoom,s.c.near,.bool s.c.deep,s.c.lens,s.c.focus,s.t.log,.slice a1 s.t.px.length c1,.slice a2 s.ps.length c2,.slice a3 s.m c3,s.side]:=by
 obtain ⟨a1,c1,a2,c2,a3,c3,e,_⟩:=h.form;exact ⟨a1,c1,a2,c2,a3,c3,e⟩
def sF (s:Scn) (lo:Nat) (w:World) (v:Value) (j:Nat):Prop:=∃us:List (Value×Value),us.length=j/\aF oG lo 91 2 w v us/\∀k u,us[k]?=some u->aB lo w u.1 (s.shade k).1/\aB lo w u.2 (s.shade k).2
theorem sF.ext {s:Scn} (h:sF s lo w v j) (x:Ext w w'):sF s lo w' v j:=by
 obtain ⟨us,h1,h2,h3⟩:=h;exact ⟨us,h1,h2.ext x,fun k u hu=>⟨(h3 k u hu).1.ext x,(h3 k u hu).2.ext x⟩⟩
theorem sF.low {s:Scn} (h:sF s lo w v j) (hl:lo'<=lo):sF s lo' w v j:=by
 obtain ⟨us,h1,h2,h3⟩:=h;exact ⟨us,h1,h2.low hl,fun k u hu=>⟨(h3 k u hu).1.low hl,(h3 k u hu).2.low hl⟩⟩
theorem aB.grownS {r:Value} {us:List (Value×Value)} (h:aB lo w r xs) (ho:aF oG lo' 91 2 w v us) (hg:w.grownBy w' v.ownBlock):aB lo w' r xs:=
 h.grown hg fun k hk e=>by
  obtain ⟨c,hc⟩:=h.block hk;obtain ⟨_,c',hc'⟩:=aF.rowF ho k e.symm;rw [hc] at hc';simp only [aQ0,aR8] at hc';exact absurd hc'.2.1 (by decide)
theorem sF.push {s:Scn} {v' r1 r2:Value} {us:List (Value×Value)} (h1:us.length=j) (h2:aF oG lo 91 2 w v us) (h3:∀k u,us[k]?=some u->aB lo w u.1 (s.shade k).1/\aB lo w u.2 (s.shade k).2)
  (hr1:aB lo w r1 (s.shade j).1) (hr2:aB lo w r2 (s.shade j).2) (hg:w.grownBy w' v.ownBlock) (hown:aF oG lo 91 2 w' v' (us++[(r1,r2)])):sF s lo w' v' (j+1):=by
 refine ⟨us++[(r1,r2)],by simp [h1],hown,fun k u hu=>?_⟩
 rcases aSd k us.length with hk|hk
 ·rw [aSb hk] at hu
  exact ⟨(h3 k u hu).1.grownS h2 hg,(h3 k u hu).2.grownS h2 hg⟩
 ·rw [aR0 hk] at hu
  have h0:k - us.length=0:=by
   have:=(aQz.1 hu).1;simp at this;omega
  rw [h0] at hu
  obtain rfl:(r1,r2)=u:=by simpa using hu
  obtain rfl:k=j:=by omega
  exact ⟨hr1.grownS h2 hg,hr2.grownS h2 hg⟩
theorem aJh:(Tryz.prog.info? 91).map (fun i=>(i.zero,i.size,i.bytes))=some (some (.agg #[.slice none 0 0,.slice none 0 0]),2,48):=by kernel_rfl
theorem aF.empty {α : Type} (cs : α->List Value) (hl:lo<=g) (hg:w.heap[g]?=some (.cells #[] e (0,0))):aF cs lo e sz w (.slice (some ⟨g,0,none⟩) 0 0) []:=
 ⟨by simp,.inr ⟨g,0,#[],rfl,hl,hg,aQv _,by unfold maxLen;omega,by simp,by simp⟩⟩
theorem zS (s:Scn) (lo hi:Nat) (v:Value) (w:World) (hv:s.R lo hi w v) (hh:hi<=w.heap.size) (ho:s.Ok) (hsm:s.small) :
  Calls aQ2 53 #[v] w fun e w'=>∃r,e = .returned r/\sF s w.heap.size w' r s.m/\Ext w w':=by
 have HV:=hid hv;have x2:=ho.m;obtain ⟨a1,c1,a2,c2,a3,c3,rfl⟩:=hv.formV;have q3:=hid hsm;have HO:=hid ho;have x0:Ext w (w.alloc (.cells (sA_ s a1 c1 a2 c2 a3 c3) 40)):=X_;have bS:=aQ8 w 40 (sL_ s a1 c1 a2 c2 a3 c3)
 obtain ⟨W0,h3⟩:=e_ (w.alloc (.cells (sA_ s a1 c1 a2 c2 a3 c3) 40))
 have bS:Blk W0 w.heap.size 40 (sL_ s a1 c1 a2 c2 a3 c3):=h3▸bS;rw [h3] at x0;have h4:=hid x0;have q0:=hid bS;have q5:=hid h3;have z0:w.heap.size<W0.heap.size:=bS.lt;have s0:=sF.ext (j:=0) (s:=s) (lo:=W0.heap.size) (v:=.slice (some ⟨W0.heap.size,0,none⟩) 0 0) ⟨[],rfl,aF.empty oG (aQv _) (aQ8 W0 91 []),fun k u hu=>by simp at hu⟩ (aQ6 _);have S0:=hid s0;clear hv ho hsm x0 bS h3 s0;go_enter func53,ntmps53;go_upto_region 1 with fail;rw [q5];have h5:=q0.cell 10 rfl;go_wp2_with fail;clear h5
 go_loopw [3,9] (fun r i wr=>∃k:Nat,k<=s.m/\i = .int .i64 (k:Nat)/\sF s W0.heap.size wr r k/\Ext W0 wr) (fun _ i _=>s.m - (intOf i).toNat)
 case atStart=>exact ⟨0,by omega,rfl,S0,X_⟩
 case round=>
  obtain ⟨k,hk,rfl,hs,hx⟩:=hrel;have HX:=hid hx;have HS:=hid hs
  rcases aSd k s.m with hlt|hge
  ·have b1:=q0.ext hx
   obtain ⟨c0,c1,c2,c3,c4,c5,c6,c7,c8,c9,h5,q7⟩:=b1.q12;have zr:=HX.size;clear b1 hx hs;go_wp2_with fail;refine (aGt s lo hi _ k _ (HV.ext hh (h4.trans HX)) (aQ5 hh (h4.trans HX).size) HO q3 hlt).mono ?_;rintro e w1 ⟨r1,r2,rfl,h,h1,h2,i1,i2,x1⟩;obtain ⟨us,u1,u2,u3⟩:=HS.ext x1;obtain ⟨ra,rc,rfl,x3⟩:=u2.form;have o1:aB W0.heap.size w1 r1 (s.shade k).1:=i1.1.low (by omega);have o2:aB W0.heap.size w1 r2 (s.shade k).2:=i2.1.low (by omega);obtain ⟨h6,h8,rfl,-⟩:=o1.form;obtain ⟨h7,h9,rfl,-⟩:=o2.form;have y1:Ext w1 (w1.alloc (.cells #[.slice h6 (s.shade k).1.length h8,.slice h7 (s.shade k).2.length h9] 91)):=X_;have B1:=aQ8 w1 91 [.slice h6 (s.shade k).1.length h8,.slice h7 (s.shade k).2.length h9];have zw:=x1.size;have q6:=hid (HX.trans (x1.trans y1));have HU:=hid (u2.ext y1);have q1:=hid u3;have q4:=hid u1;have O1:=hid (o1.ext y1);have O2:=hid (o2.ext y1);have Y1:=hid y1;have q2:=hid B1
   have q9:us.length<1000000:=by omega
   clear u1 u2 u3 o1 o2 i1 i2 x1 y1 B1 c0 c1 c2 c3 c4 c5 c6 c7 c8 c9 h5 q7 HS
   go_wp2_with (refine dV oG 91 2 48 _ _ rfl _ _ 83 rfl underlying83 aJh rfl (by decide) (by decide) (fun _=>rfl) W0.heap.size (.slice ra us.length rc) us rfl HU (.slice h6 (s.shade k).1.length h8,.slice h7 (s.shade k).2.length h9) w1.heap.size rfl (fun j hj=>(q2.cell j (aQ9 hj)).trans (aQ9 hj).symm) (fun u hu=>by
    simp only [oG,aRk,aRe,or_false] at hu
    rcases hu with rfl|rfl <;> rfl) q9 (by rw [aQy];omega) ?_)
   intro v2 w2 h0 hg;have P:=hid (sF.push q4 HU (fun k u hu=>⟨(q1 k u hu).1.ext Y1,(q1 k u hu).2.ext Y1⟩) O1 O2 hg h0);have X2:=hid (q6.grown hg (fun b hb=>(HU.lt b hb).1));clear h0 hg;go_wp2;go_roundw
   case rel=>exact ⟨k+1,by omega,by go_num,P,X2⟩
   case measure=>simp [intOf];omega
  ·obtain rfl:k=s.m:=by omega
   have q8:=hid (hs.low (aT5 z0));have X2:=hid (h4.trans hx);clear hs hx HX HS;go_wp2;go_ret;exact ⟨_,rfl,q8.out,X2⟩
def Scn.allH (s:Scn) (p:Smp):List aO:=(aRl s.m).flatMap fun k=>s.hits k p
def Scn.seen (s:Scn) (p:Smp):List aO:=fM [] (s.allH p)
theorem aHz (A B C P:V3) (k c col al:Int):(aIj A B C P k c col al).length<=1:=by
 unfold aIj
 repeat' split
 all_goals simp
theorem aLh (c:Cam) (f:Nat->Int) (n:Nat) (s:Smp) (k:Int) (cols als:List Int) (u v:Nat):(aAh c f n s k cols als u v).length<=2:=by
 unfold aAh
 split
 ·rw [aRq]
  exact Nat.add_le_add (aHz _ _ _ _ _ _ _ _) (aHz _ _ _ _ _ _ _ _)
 ·simp
theorem aJi (c:Cam) (f:Nat->Int) (n:Nat) (s:Smp) (k:Int) (cols als:List Int) (q:Nat):(qP c f n s k cols als q).length<=2*q:=by
 induction q with
 | zero=>simp [qP]
 | succ q ih=>
  rw [aDh,aRq];have:=aLh c f n s k cols als (q % n) (q / n);omega
theorem Scn.Ok.hits_le {s:Scn} (ho:s.Ok) (p:Smp) (hk:k<s.m):(s.hits k p).length<=128:=by
 obtain ⟨q,n,-,-,h3,h4,h5,-,-⟩:=ho.at hk;unfold Scn.hits tY;rw [h3,aRr];have h1:=aJi s.c (aY (s.st k) (s.en k) p.t) n p (k:Nat) (s.shade k).1 (s.shade k).2 (n*n);have h2:n*n<=8*8:=aRy h5 h5;omega
def Scn.seenTo (s:Scn) (p:Smp) (j:Nat):List aO:=fM [] ((aRl j).flatMap fun k=>s.hits k p)
theorem Scn.seenTo_succ (s:Scn) (p:Smp) (j:Nat):s.seenTo p (j+1)=fM (s.seenTo p j) (s.hits j p):=by
 unfold Scn.seenTo;rw [aS9,aSa,qA];simp
theorem Scn.Ok.seenTo_le {s:Scn} (ho:s.Ok) (p:Smp) (hj:j<=s.m):(s.seenTo p j).length<=128*j:=by
 induction j with
 | zero=>simp [Scn.seenTo,fM]
 | succ j ih=>
  rw [Scn.seenTo_succ,kY];have:=ho.hits_le p (show j<s.m by omega);have:=ih (by omega);omega
theorem uN {l xs:List aO} {f:aO} (h:xs[j]?=some f):fM l (xs.take (j+1))=tB f (fM l (xs.take j)):=by
 obtain ⟨hj,rfl⟩:=aQz.1 h;rw [aRv hj,qA]
 rfl
theorem aF.keptBlk {α : Type} {cs : α->List Value} {xs:List α} (h:aF cs lo e sz w v xs) (s:∀k,v.ownBlock=some k->w'.heap[k]?=w.heap[k]?):aF cs lo e sz w' v xs:=by
 refine ⟨h.1,?_⟩
 rcases h.2 with hn|⟨g,cap,cur,hv,hb,hg,r⟩
 ·exact .inl hn
 ·exact .inr ⟨g,cap,cur,hv,hb,(s g (by rw [hv];rfl)).trans hg,r⟩
theorem aJj (s:Scn) (lo lo2 hi:Nat) (v u:Value) (p:Smp) (w:World) (hv:s.R lo hi w v) (hh:hi<=w.heap.size) (ho:s.Ok) (hp:p.okB s.c=true) (hu:sF s lo2 w u s.m) :
  Calls aQ2 65 #[v,.agg #[p.x,p.y,p.t,p.lx,p.ly],u] w fun e w'=>∃r,e = .returned r/\aF aO.cs w.heap.size 95 5 w' r (s.seen p)/\Ext w w':=by
 have HV:=hid hv;have a6:=ho.m;obtain ⟨a1,c1,a2,c2,a3,c3,rfl⟩:=hv.formV;have HO:=hid ho;have HP:=hid hp;have HU:=hid hu;obtain ⟨us,q3,x3,z6⟩:=hu;obtain ⟨ua,uc,rfl,-⟩:=x3.form;have x6:=hid q3;have y4:=hid x3;have y5:=hid z6;have x0:Ext w ((w.alloc (.cells (sA_ s a1 c1 a2 c2 a3 c3) 40)).alloc (.cells #[p.x,p.y,p.t,p.lx,p.ly] 42)):=X_;have bS:=(aQ8 w 40 (sL_ s a1 c1 a2 c2 a3 c3)).ext (show Ext _ ((w.alloc (.cells (sA_ s a1 c1 a2 c2 a3 c3) 40)).alloc (.cells #[p.x,p.y,p.t,p.lx,p.ly] 42)) from X_);have bP:=aQ8 (w.alloc (.cells (sA_ s a1 c1 a2 c2 a3 c3) 40)) 42 [p.x,p.y,p.t,p.lx,p.ly];rw [aQy] at bP
 obtain ⟨W0,q0⟩:=e_ ((w.alloc (.cells (sA_ s a1 c1 a2 c2 a3 c3) 40)).alloc (.cells #[p.x,p.y,p.t,p.lx,p.ly] 42))
 rw [q0] at x0;have bS:Blk W0 w.heap.size 40 (sL_ s a1 c1 a2 c2 a3 c3):=q0▸bS;have bP:Blk W0 (w.heap.size+1) 42 [p.x,p.y,p.t,p.lx,p.ly]:=q0▸bP;have x7:=hid x0;have x5:=hid bS;have y0:=hid bP;have y7:=hid q0;have z0:w.heap.size+1<W0.heap.size:=bP.lt;clear hv ho hp x3 z6 q3 x0 bS bP q0;go_enter func65,ntmps65;go_upto_region 1 with fail;rw [y7];go_wp2_with fail;refine (xQ _).mono ?_;rintro e w1 ⟨rfl,o1,x1⟩;have q1:=hid o1;have h9:=hid x1;have q7:=(x5.ext x1).cell 10 rfl;have z1:=x1.size;clear o1 x1;go_wp2_with fail;clear q7
 go_loopw [15] (fun i wr=>∃(k:Nat) (vv:Value),k<=s.m/\i = .int .i64 (k:Nat)/\aCe W0.heap.size wr W0.heap.size (s.seenTo p k) vv/\Ext W0 wr) (fun i _=>s.m - (intOf i).toNat)
 case atStart=>exact ⟨0,_,by omega,rfl,q1,h9⟩
 case round=>
  obtain ⟨WA,rfl⟩:=i_ wr
  obtain ⟨k,vv,hk,rfl,h8,hx⟩:=hrel;have HX:=hid hx;have HR:=hid h8;have zr:=hx.size
  rcases aSd k s.m with hlt|hge
  ·have b1:=x5.ext hx
   obtain ⟨c0,c1,c2,c3,c4,c5,c6,c7,c8,c9,q7,y8⟩:=b1.q12;have b2:=y0.ext hx;obtain ⟨d0,d1,d2,d3,d4⟩:=b2.q5;have xw:Ext w WA:=x7.trans hx;have XW:=hid xw
   obtain ⟨y,hy⟩:∃y,us[k]?=some y:=⟨_,aQ9 (by have:=x6.out;omega)⟩
   obtain ⟨y1,y2⟩:=y;obtain ⟨gu,b3,he,-,a0,q8,y9,-,h0⟩:=aF.at (aF.ext y4 xw) (fun _=>rfl) hy;simp only [aRo,true_and] at he;obtain ⟨rfl,rfl⟩:=he;obtain ⟨i1,i2⟩:=y5 k _ hy;have j1:aB lo2 WA y1 (s.shade k).1:=i1.ext xw;have j2:aB lo2 WA y2 (s.shade k).2:=i2.ext xw;clear i1 i2;obtain ⟨e1,f1,rfl,-⟩:=j1.form;obtain ⟨e2,f2,rfl,-⟩:=j2.form;have g0:=h0 0 (by decide);have g1:=h0 1 (by decide);simp only [oG,aSk,aQw,aQx] at g0 g1;have I1:=hid j1;have I2:=hid j2;obtain ⟨q,n,-,-,h3,h4,h5,-,-⟩:=HO.at hlt;have h7:=HO.shade hlt;rw [h3,aRr] at h7;have h6:=hid h7;have q6:=hid h3;have q3:=x6.out
   have a7:((k:Nat):Int)<(us.length:Nat):=by omega
   have a9:s.m<=5:=a6;clear b1 b2 hx h8 xw h0 hy j1 j2 h7 h3 q3;go_wp2_with fail;refine aJ [([0,1,2,3,4,5,6,9],7),([],8)] 99 (fun w'=>∃d,w'=fU (C3f w.heap.size (w.heap.size+1) gu) _ d) (by kernel_rfl) (by kernel_rfl) (aTr _ _) ?_;refine sc_ fun K hK=>?_;go_wp2_with fail
   have eh:tY s.c (aY (s.st k) (s.en k) p.t) n p (k:Nat) (s.shade k).1 (s.shade k).2=s.hits k p:=by unfold Scn.hits;rw [q6,aRr]
   refine (aJd s lo hi _ k p n (s.shade k).1 (s.shade k).2 _ _ _ (HV.ext hh (XW.trans X_)) (aQ5 hh (XW.trans (aRz (aQ6 _))).size) hlt q6 ⟨h4,h5⟩ HP ((I1.ext (show Ext WA WA.drew from aRz (aQ6 _))).ints.wide (aSi _) (aQv _)) ((I2.ext (show Ext WA WA.drew from aRz (aQ6 _))).ints.wide (aSi _) (aQv _)) h6.1 h6.2).mono ?_;rintro e w2 ⟨r,rfl,hr,x2⟩;rw [eh] at hr
   obtain ⟨L,hL⟩:=e_ (s.hits k p)
   rw [hL] at hr;have hr:aF aO.cs WA.heap.size 95 5 w2 r L:=hr;have HL:=hid hL;have z2:L.length<=128:=hL▸HO.out.hits_le p hlt;have a4:=HO.seenTo_le p (aT5 hlt)
   obtain ⟨F0,hF⟩:=e_ (s.seenTo p k)
   rw [hF] at a4;have HF:=hid hF;have y3:=hid (hF▸HR.out);obtain ⟨ra,rc,rfl,-⟩:=hr.form;have Y2:=hid (aQ3 (w:=WA) X_ x2);have q2:=hid hr;have a8:=HR.box.lt;have zy:=Y2.size;have z7:=HR.row.lt;have y6:=hid z7
   have b4:w.heap.size<WA.heap.size:=by omega
   clear x2 hr hL hF eh z7 q6 h6 I1 I2 HR;go_wp2_with fail;refine hK _ _ (.inr (aR6 fun a ha=>Y2.block (by rcases ha with ha|ha|ha <;> rw [ha] <;> omega))) ?_;clear hK K;refine sc_ fun K hK=>?_;go_wp2_with fail;go_wp2_with fail;refine hK _ _ (.inr (aR6 fun a ha=>Y2.block (by rcases ha with ha|ha|ha <;> rw [ha] <;> omega))) ?_;clear hK K;refine aP ?_;clear c0 c1 c2 c3 c4 c5 c6 c7 c8 c9 q7 y8 d0 d1 d2 d3 d4 g0 g1;go_wp2_with fail
   go_loopw [27] (fun j wr=>∃(jn:Nat) (vq:Value),jn<=L.length/\j = .int .i64 (jn:Nat)/\aCe W0.heap.size wr W0.heap.size (fM F0 (L.take jn)) vq/\aF aO.cs WA.heap.size 95 5 wr (.slice ra L.length rc) L/\(∀b,(aR9 ra L.length rc).ownBlock=some b->vq.ownBlock≠some b)/\Ext W0 wr) (fun j _=>L.length - (intOf j).toNat)
   case atStart=>exact ⟨0,vv,by omega,rfl,y3.ext Y2,q2,fun b hb e=>by
    have h1:=(q2.lt b hb).1;have h2:=(y6 b e).2
    omega,HX.trans Y2⟩
   case round=>
    obtain ⟨jn,vq,hj,rfl,z4,z5,z3,z8⟩:=hrel;have q1:=hid z4;have q4:=hid z5;have x4:=hid z3;have h9:=hid z8;clear z4 z5 z3 z8
    rcases aSd jn L.length with hjl|hjl
    ·obtain ⟨f,hf⟩:∃f,L[jn]?=some f:=⟨_,aQ9 hjl⟩
     obtain ⟨g,b0,he,-,a0,q8,y9,-,h0⟩:=aF.at q4 (fun _=>rfl) hf;simp only [aRo,true_and] at he;obtain ⟨rfl,rfl⟩:=he;have d0:=h0 0 (by decide);have d1:=h0 1 (by decide);have d2:=h0 2 (by decide);have d3:=h0 3 (by decide);have d4:=h0 4 (by decide);simp only [aO.cs,aSk,aQw,aQx] at d0 d1 d2 d3 d4;have z9:=hid hf
     have a5:(fM F0 (L.take jn)).length<=100000:=by
      rw [kY,aRp];omega
     have zq:=h9.size;clear h0 hf;go_wp2_with fail;refine (aEg (q1.ext (show Ext _ (wr.alloc (.cells #[f.d,f.s,f.c,f.col,f.al] 95)) from X_)) f a5).mono ?_;rintro e w3 ⟨v3,rfl,o3,k3,x9,x8⟩;have q9:WA.heap.size<=g/\g<wr.heap.size:=q4.lt g rfl;have P1:=hid o3;have P2:Hid (Ext W0 w3):=hid (k3.up (h9.trans X_) (aQv _))
     have P3:=hid (q4.keptBlk (w':=w3) (fun b hb=>by
      obtain rfl:g=b:=aSx hb
      exact (x9 g (by rw [aQy];omega) (by omega) (x4 g rfl)).trans (aRa (show Ext wr (wr.alloc (.cells #[f.d,f.s,f.c,f.col,f.al] 95)) from X_) q9.2)))
     have P4:Hid (∀b,(aR9 (some ⟨g,0,none⟩) L.length rc).ownBlock=some b->v3.ownBlock≠some b):=hid (fun b hb e=>by
      obtain rfl:g=b:=aSx hb
      rcases x8 g e with h|h
      ·exact x4 g rfl h
      ·rw [aQy] at h
       omega)
     clear o3 k3 x9 x8;go_wp2;go_roundw
     case rel=>exact ⟨jn+1,v3,by omega,by go_num,by rw [uN z9];exact P1,P3,P4,P2⟩
     case measure=>simp [intOf];omega
    ·obtain rfl:jn=L.length:=by omega
     have P1:Hid (aCe W0.heap.size wr W0.heap.size (s.seenTo p (k+1)) vq):=hid (by
      rw [Scn.seenTo_succ,HF,HL];have:=q1.out;rw [aR2] at this
      exact this)
     go_wp2;go_roundw
     case rel=>exact ⟨k+1,vq,by omega,by go_num,P1,h9⟩
     case measure=>simp [intOf];omega
  ·obtain rfl:k=s.m:=by omega
   have c0:=HR.box.cell 0 rfl;have c1:=HR.box.lt;have X2:=hid (x7.trans hx);have q2:=hid (HR.row.low (show w.heap.size<=W0.heap.size by omega));clear hx h8 HX;go_wp2;go_ret;exact ⟨_,rfl,q2,X2⟩
theorem oH (s:Scn) (lo hi:Nat) (v:Value) (p:Smp) (w:World) (hv:s.R lo hi w v) (hh:hi<=w.heap.size) (ho:s.Ok) (hsm:s.small) (hp:p.okB s.c=true) :
  Calls aQ2 24 #[v,.agg #[p.x,p.y,p.t,p.lx,p.ly]] w fun e w'=>∃r,e = .returned r/\aF aO.cs w.heap.size 95 5 w' r (s.seen p)/\Ext w w':=by
 have HV:=hid hv;obtain ⟨a1,c1,a2,c2,a3,c3,rfl⟩:=hv.formV;have HO:=hid ho;have h7:=hid hsm;have HP:=hid hp;have q1:=hid (Scn.okB_iff.2 ho);have x0:Ext w ((w.alloc (.cells (sA_ s a1 c1 a2 c2 a3 c3) 40)).alloc (.cells #[p.x,p.y,p.t,p.lx,p.ly] 42)):=X_;have bS:=(aQ8 w 40 (sL_ s a1 c1 a2 c2 a3 c3)).ext (show Ext _ ((w.alloc (.cells (sA_ s a1 c1 a2 c2 a3 c3) 40)).alloc (.cells #[p.x,p.y,p.t,p.lx,p.ly] 42)) from X_);have bP:=aQ8 (w.alloc (.cells (sA_ s a1 c1 a2 c2 a3 c3) 40)) 42 [p.x,p.y,p.t,p.lx,p.ly];rw [aQy] at bP
 obtain ⟨W0,h0⟩:=e_ ((w.alloc (.cells (sA_ s a1 c1 a2 c2 a3 c3) 40)).alloc (.cells #[p.x,p.y,p.t,p.lx,p.ly] 42))
 rw [h0] at x0;have bS:Blk W0 w.heap.size 40 (sL_ s a1 c1 a2 c2 a3 c3):=h0▸bS;have bP:Blk W0 (w.heap.size+1) 42 [p.x,p.y,p.t,p.lx,p.ly]:=h0▸bP;have h1:=hid x0;have h5:=hid bS;have h4:=hid bP;have q2:=hid h0;have z0:=bP.lt;clear hv ho hp hsm x0 bS bP h0;go_enter func24,ntmps24;go_upto_region 1 with fail;rw [q2];have bs:=h5.ext (aQ6 _);obtain ⟨c0,c1,c2,c3,c4,c5,c6,c7,c8,c9,h2,h3⟩:=bs.q12;have bp:=h4.ext (aQ6 _);obtain ⟨d0,d1,d2,d3,d4⟩:=bp.q5;have ls:=bs.lt;have lp:=bp.lt;clear bs bp;go_wp2_with fail;refine (kH s lo hi _ _ (HV.ext hh h1) (aQ5 hh h1.size) h7).mono ?_;rw [q1];rintro e w3 ⟨rfl,x3⟩;have X3:=hid x3;clear x3 ls lp;clear c0 c1 c2 c3 c4 c5 c6 c7 c8 c9 h2 h3 d0 d1 d2 d3 d4;have bs:=h5.ext X3;obtain ⟨c0,c1,c2,c3,c4,c5,c6,c7,c8,c9,h2,h3⟩:=bs.q12;have bp:=h4.ext X3;obtain ⟨d0,d1,d2,d3,d4⟩:=bp.q5;have ls:=bs.lt;have lp:=bp.lt;clear bs bp;go_wp2_with fail;refine (jM s.c p _).mono ?_;rw [HP];rintro e w4 ⟨rfl,x4⟩;have X4:=hid (X3.trans x4);clear x4 ls lp;clear c0 c1 c2 c3 c4 c5 c6 c7 c8 c9 h2 h3 d0 d1 d2 d3 d4;have bs:=h5.ext X4;obtain ⟨c0,c1,c2,c3,c4,c5,c6,c7,c8,c9,h2,h3⟩:=bs.q12;have bp:=h4.ext X4;obtain ⟨d0,d1,d2,d3,d4⟩:=bp.q5;have ls:=bs.lt;have lp:=bp.lt;clear bs bp;go_upto_region 3 with fail;refine aA [([0,1,2],3),([],4),([],5)] 5 w4.heap.size (by kernel_rfl) (by kernel_rfl) ?_;refine st_ fun K hK=>?_;go_wp2_with fail;have xd:Ext w w4.drew:=h1.trans (X4.trans (aRz (aQ6 _)));refine (zS s lo hi _ _ (HV.ext hh xd) (aQ5 hh xd.size) HO h7).mono ?_;rintro e w5 ⟨r,rfl,hr,x5⟩;have y5:Ext w4 w5:=aQ3 (aRz (aQ6 _)) x5;obtain ⟨us,h9,h6,h8⟩:=hr;obtain ⟨ra,rc,rfl,-⟩:=h6.form;have HR:Hid (sF s w4.drew.heap.size w5 (.slice ra us.length rc) s.m):=hid ⟨us,h9,h6,h8⟩;have X5:=hid (h1.trans (X4.trans y5));clear h9 h6 h8 x5 xd;go_wp2_with fail;refine k_ hK ?_;clear hK K;refine st_ fun K hK=>?_;go_wp2_with fail;have CS:=aJj s lo w4.drew.heap.size hi _ _ p w5 (HV.ext hh X5) (aQ5 hh X5.size) HO HP HR;refine CS.mono ?_;clear CS;rintro e w6 ⟨q,rfl,O6,x6⟩;obtain ⟨ta,tc,rfl,tl⟩:=aF.form O6;have y6:=y5.trans x6;have X6:=hid (X5.trans x6);have q0:=hid O6;clear O6 x6 tl;go_wp2_with fail;refine k_ hK ?_;clear hK K y5 y6;refine st_ fun K hK=>?_;go_wp2_with fail;refine l_ hK ?_;clear hK K;refine aC ?_;go_wp2;go_ret;exact ⟨_,rfl,aF.low q0 X5.size,X6⟩
end Go.Proofs.YthgpegkmjeigmaaGreat
