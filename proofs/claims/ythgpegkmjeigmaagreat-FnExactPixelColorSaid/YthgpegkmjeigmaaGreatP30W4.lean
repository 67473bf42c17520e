/- Texts of this claim, one behind another; what its theorem does not use is left out: Sr3, Sr2, Lk9, Sg1, Sg2, Sg3, Sg4, Cp0, Cp1, Cp2, Sc2, Gx0, Ge10, Cpy, In0, PlanE, L05a, Sc4, TrS, Draw, DrawT, Dr1, Dw1, Gd1, Fresh, Bxs, SrfI, Dw2, Tk2, Tk3, Tk4, Tk5, Ps1, Ps2, C2b, Ps3, Ps4, Ps5, Ps6, Ps7, Ps8, Ps9, Dr2, FlG, Dw3, In1, Ge11, Gd2, Gd3, Gd4, Ge17, Ge12, Ge13, Cp3, Cp4, Cp5, Cp6, Cp7, Ge18, Ge19, In2, Sc5, Sc7, In3, Fr2, In4, In5, Rs1. -/
import Derived.Test.YthgpegkmjeigmaaGreatP30W3
import Derived.Test.YthgpegkmjeigmaaGreatP30W1
import Derived.Test.YthgpegkmjeigmaaGreatP30W2
import Derived.Great.BuildSlice
import Derived.Deep.MidRow
import Derived.Laws.CopyRow
import Derived.Laws.CopyOwn
import Derived.Lib.SliceRun
import Derived.Deep.LoopGhost
import Derived.Deep.OwnRows
import Derived.Laws.ResultCell
import Derived.Lib.SlBytesConst
import Derived.Maps.AppendAt
import Derived.Deep.CutBlock
set_option linter.unusedSimpArgs false
set_option linter.unusedVariables false
set_option maxRecDepth 100000
set_option maxHeartbeats 12800000
namespace Go.Proofs.YthgpegkmjeigmaaGreat
open Go.RowKit
open Go.Proofs.Tryz
open _root_.Go.Act renaming put→aS4
variable {a:Act} {ops:Array Oper} {b:Bool} {Q:Exit→Act→World→Prop} {i tm:Int} {X Y r xs:List Int} {rest:List Oper} {L us vs:List Value} {g hi j k lo lo' lo2 m n p q sz:Nat} {f:Nat→Int} {o:Oper} {P:Program} {e t:TypeId} {lv sv v:Value} {w w':World}
open _root_.Array renaming getElem?_eq_some_iff→aR3,replicate→aVr
open _root_.Bool renaming and_eq_true→aRy,and_assoc→aZ8,false_eq_true→aUc,or_eq_true→aWf
open _root_.Go.Obj.cells renaming injEq→aSx
open _root_.Go.Proofs.Tryz renaming prog→aRn
open _root_.Go.Proofs.YthgpegkmjeigmaaGreat renaming col→aUk
open _root_.Go.Proofs.YthgpegkmjeigmaaGreat.Blk renaming new→aRr
open _root_.Go.Proofs.YthgpegkmjeigmaaGreat.Ext renaming refl→aRu,drew→aSk,trans→aRo,grown→aSt,block→aRv,setCell→aR0
open _root_.Go.Proofs.YthgpegkmjeigmaaGreat.SC renaming drew→aUb,blocks→aSn
open _root_.Go.Region renaming Mode→aVw,binds→aWc,ready→aS8,noSelect→aU0,noSelect_spec→aUe,free_spec→aU5
open _root_.Go.RowKit.Below renaming refl→aX8,trans→aWn,heap_setCell→aRt
open _root_.Go.Value renaming ownBlock→aSg,slice→aS2
open _root_.Go.Value.slice renaming injEq→aSb
open _root_.Go.World renaming cell?→aTi,size_alloc→aRj,ownsRow_nil→aVd,size_setCell→aS6
open _root_.Go.World.ownsRow renaming lt→aTg,stored→bAk,cellAt→aTt,alloc→aV2,frozenAt→aZv
open _root_.Int renaming toNat_natCast→aSc,natCast_add→aTn,natCast_mul→aUz,cast_ofNat_Int→aXg,lt_or_le→aYv,mul_nonneg→aSu,mul_le_mul_of_nonneg_left→aTy
open _root_.List renaming getElem?_eq_some_iff→aRk,getElem?_take→aTo,replicate→aR5,getElem?_eq_getElem→aRs,take_succ_eq_append_getElem→aSd,all_append→aZ0,take_length→aSh,drop_zero→aXr,mem_of_getElem?→aR7,getElem?_drop→aTx,mem_of_mem_drop→aU8,length_append→aSa,length_take→aR9,length_singleton→aVp,getD→aUn,nil_append→aTf,length_drop→aUg,length_cons→aSw,all_eq_true→aSs,getElem_mem→aR2,length_eq_zero_iff→aVc,replicate_succ'→bAg,range→aR6,range_succ→aT3,map_append→aTp,sum_append→aVt,map_congr_left→aUw,mem_range→aSq,map_cons→aTr,sum_cons→aV0,countP_cons→aZi,flatMap_cons→aTk,countP_append→bAu,mem_append→aTz,mem_flatMap→aV6,mem_map→aTl,getElem_of_mem→aSj,map_map→aYw,append_assoc→aSl,getD_eq_getElem?_getD→aSe,length_map→aSv,append_nil→aUf,mem_singleton→aUm,getElem?_map→aS7,mem_cons→aR4,not_mem_nil→aRz,flatMap_append→aSy,flatMap_singleton→aVf,take_of_length_le→aSp,length_range→aUi,getElem_map→aU3,getElem_range→aUd,setIfInBounds_toArray→aRp,set_cons_succ→aRx,set_cons_zero→aRw,filterMap_cons→aR8,filterMap_nil→aR1,getElem?_toArray→aRm,getElem?_cons_zero→aRg,getElem?_cons_succ→aRh,map_toArray→aZj,map_nil→aWv,length_nil→aTu,take_append_drop→aVq,cons_append→aWt,take_append→aX9,getElem?_append_right→aSm,getElem?_append_left→aSz,take_take→aY5,take_zero→aV7,eq_nil_of_length_eq_zero→aV9,size_toArray→aWj,all_eq_false→aUt,take_add_one→aXv
open _root_.Nat renaming le_trans→aRq,le_refl→aRi,zero_add→aSf,zero_le→aS1,add_zero→aS0,min_eq_left→aT0,mul_le_mul→aSi,add_mul→aT1,one_mul→aT2,lt_succ_self→aZm,mod_lt→aT4,div_lt_of_lt_mul→aTs,lt_or_ge→aSo,mul_le_mul_right→aTb,lt_of_lt_of_le→aS5,sub_self→bA5,mul_zero→aZt,mul_one→aVi,reduceAdd→aUl,reduceMul→aZe,le_of_lt→aUu
open _root_.Option renaming map_eq_some_iff→aXy
open _root_.Option.some renaming inj→aTh,injEq→aRl
structure Mst (lo lo2:Nat) (w:World) (sv lv:Value) (vs us:List Value) (S L:List (List Int)):Prop where
 so:w.ownsRow lo2 24 1 sv vs.length vs
 lo':w.ownsRow lo 24 1 lv us.length us
 sep:∀k,lv.ownBlock=some k->k<lo2
 hl:lo<=lo2
 hl2:lo2<=w.heap.size
 sr:Rws lo w vs S
 lr:Rws lo w us L
theorem Mst.ext {S L:List (List Int)} (M:Mst lo lo2 w sv lv vs us S L) (e:Ext w w'):Mst lo lo2 w' sv lv vs us S L:=by
 have hg:w.grownBy w' none:=⟨Below.os e,Below.tape e,Below.output e,e.size,fun k hk _=>e.block hk⟩
 exact ⟨M.so.kept hg (by cases sv.ownBlock <;> simp),M.lo'.kept hg (by cases lv.ownBlock <;> simp),M.sep,M.hl,aRq M.hl2 e.size,M.sr.keepI e.keepI,M.lr.keepI e.keepI⟩
theorem Mst.push {v' y:Value} {S L:List (List Int)} (M:Mst lo lo2 w sv lv vs us S L) (hv':w'.ownsRow lo2 24 1 v' (vs.length+1) (vs++[y])) (hg:w.grownBy w' sv.ownBlock) (hy:aB lo w y r) :
  Mst lo lo2 w' v' lv (vs++[y]) us (S++[r]) L/\Below lo w w':=by
 have h0:=aTg M.so;have kk:fK w w':=fK.grown hg (fun k cur fr hk=>ownsRow.int M.so (by decide) k cur fr hk);refine ⟨⟨by simpa using hv',M.lo'.kept hg ?_,M.sep,M.hl,aRq M.hl2 hg.size,(M.sr.keepI kk).snoc (hy.keepI kk),M.lr.keepI kk⟩,Below.grown (aX8 _ _) hg (aRq M.hl M.hl2) (fun k hk=>by have:=(h0 k hk).1;have:=M.hl;omega)⟩
 cases hk:lv.ownBlock with
 | none=>exact .inl rfl
 | some k=>exact .inr (fun e=>by have h1:=M.sep k hk;have h2:=(h0 k e.symm).1;omega)
theorem Mst.shrink {cap:Nat} {S L:List (List Int)} (M:Mst lo lo2 w (.slice (some ⟨g,0,none⟩) vs.length cap) lv vs us S L) (q:Nat) (hq:q<=vs.length):Mst lo lo2 w (.slice (some ⟨g,0,none⟩) q cap) lv (vs.take q) us (S.take q) L:=by
 have e:(vs.take q).length=q:=by simp;omega
 exact ⟨by rw [e];exact ownsRow.shrink M.so hq,M.lo',M.sep,M.hl,M.hl2,M.sr.take q,M.lr⟩
theorem Mst.store {lb lc:Nat} {y:Value} {S L:List (List Int)} (M:Mst lo lo2 w sv (.slice (some ⟨lb,0,none⟩) us.length lc) vs us S L) (j:Nat) (hy:aB lo w y r) :
  Mst lo lo2 (w.setCell ⟨lb,j,none⟩ y) sv (.slice (some ⟨lb,0,none⟩) us.length lc) vs (us.set j y) S (L.set j r)/\Below lo w (w.setCell ⟨lb,j,none⟩ y):=by
 have h0:=bAk M.lo' j y;have kk:fK w (w.setCell ⟨lb,j,none⟩ y):=fK.setCell _ (fun cur fr=>ownsRow.int M.lo' (by decide) lb cur fr rfl);have h5:=aTg M.so;have h4:=aTg M.lo' lb rfl
 have h3:(us.set j y).length=us.length:=by simp
 refine ⟨⟨M.so.kept h0.2 ?_,by rw [h3];exact h0.1,M.sep,M.hl,by have:=M.hl2;simpa using this,M.sr.keepI kk,(M.lr.keepI kk).set j (hy.keepI kk)⟩,Below.setCell (aX8 _ _) h4.1 _⟩
 cases hk:sv.ownBlock with
 | none=>exact .inl rfl
 | some k=>exact .inr (fun e=>by injection e with e;have h1:=M.sep lb rfl;have h2:=(h5 k hk).1;omega)
theorem ownsRow.ssF {L:Nat} {S:List (List Int)} (h:w.ownsRow lo 24 1 v p vs) (hr:Rws lo' w vs S) (h0:L<=lo) (h1:L<=lo'):SS L w.heap.size w v S:=by
 have hl:=hr.len
 have hp:p=S.length:=by have:=h.1;omega
 subst hp
 rcases h.2 with ⟨rfl,h4⟩|⟨g,cap,cur,rfl,hb,hg,hc,hm,hs,ht⟩
 ·refine ⟨none,0,by rw [h4],by omega,by unfold maxLen;omega,fun i xs hx=>?_⟩
  have:=(aRk.1 hx).1;omega
 ·refine ⟨some ⟨g,0,none⟩,cap,rfl,hc,hm,fun i xs hx=>?_⟩
  have hi:=(aRk.1 hx).1
  obtain ⟨v,hv⟩:∃v,vs[i]?=some v:=⟨vs[i]'(by omega),by simp [show i<vs.length by omega]⟩
  refine ⟨g,0,v,rfl,aRq h0 hb,(aR3.1 hg).1,?_,(hr.own i _ xs hv hx).ints.wide h1 (aRi _)⟩;have e:=hv;rw [<-ht,aTo,if_pos (by omega)] at e;simp only [aTi,hg,aSf];rw [<-Array.getElem?_toList];exact e
theorem aCs (lo hi lo' hi':Nat) (v u:Value) (c:Cod) (g:Grd) (w:World) (hv:c.R lo hi w v) (hh:hi<=w.heap.size) (hu:g.R lo' hi' w u) (hh':hi'<=w.heap.size) (hL:c.ls.length<=2000000) (hyes:(c.runB&&g.okB)=true) :
  Calls aRn 193 #[v,u] w fun e w'=>∃r,e = .returned (.tuple #[r,.bool true])/\SS w.heap.size w'.heap.size w' r (c.out g)/\Ext w w':=by
 have HV:=hid hv;have HU:=hid hu;obtain ⟨a1,c1,a2,c2,rfl,HI,-⟩:=hv.form;obtain ⟨pu,tu,rfl,-,n7,k3,hp,ht⟩:=hu;clear hv;have k1:=HI.le;have k2:=HI.cap;simp only [aRy] at hyes;obtain ⟨h1,h2⟩:=hyes;obtain ⟨n,hn,j3,n1,n8,j4,b5,i8⟩:=Grd.parts h2
 have z6:∀x∈c.xs,iD x=true:=by unfold Cod.runB at h1;simp at h1;exact h1.2
 have h7:c.depth.isSome=true:=by unfold Cod.runB at h1;simp at h1;exact h1.1
 have j1:c.xs.length<=300:=by
  have h7:=h7;unfold Cod.depth at h7
  split at h7
  ·assumption
  ·simp at h7
 have a9:lQ n g.m g.f g.tm g.t c.xs [] (aR5 c.ls.length [])=c.out g:=by unfold Cod.out;rw [hn];rfl
 have HG:=hid (show iO w.heap.size w n g.m pu tu g.f g.tm g.t from ⟨hp.wide (aS1 _) hh',⟨tu,rfl,k3,ht.wide (aS1 _) hh'⟩,j3,n1,n8,j4,b5,i8⟩);have HD:=hid h7;have HN:=hid z6;have d2:=hid a9;clear hp ht n7 k3 j3 j4 b5 i8 h7 z6 a9;rw [hn];replace hn:=hid hn;have x0:Ext w ((w.alloc (.cells #[.slice a1 c.xs.length c1,.slice a2 c.ls.length c2] 163)).alloc (.cells #[n,pu,g.tm,g.t.log,tu] 168)):=X_;have cb:=(iH.made w (.slice a1 c.xs.length c1) (.slice a2 c.ls.length c2) 163).ext ((aRu _).alloc (.cells #[n,pu,g.tm,g.t.log,tu] 168));have gb:=tX.made (w.alloc (.cells #[.slice a1 c.xs.length c1,.slice a2 c.ls.length c2] 163)) n pu g.tm g.t.log tu 168;simp only [aRj] at gb
 obtain ⟨W0,c8⟩:∃W,(w.alloc (.cells #[.slice a1 c.xs.length c1,.slice a2 c.ls.length c2] 163)).alloc (.cells #[n,pu,g.tm,g.t.log,tu] 168)=W:=⟨_,rfl⟩
 rw [c8] at x0 cb gb;have a0:=hid cb;have a3:=hid gb;have z1:=hid x0;have l0:=hid c8;have o6:=x0.size
 have o9:w.heap.size+2=W0.heap.size:=by rw [<-c8];simp
 clear cb gb x0 c8
 obtain ⟨a5,a7⟩:∃b,c.depth.isSome=b:=⟨_,rfl⟩
 obtain ⟨dm,i7⟩:∃b,c.depth.getD 0=b:=⟨_,rfl⟩
 have g8:=hid a7;have k4:=hid i7;clear a7 i7;go_enter func193,ntmps193;go_wp2_with fail;rw [l0];refine r_ (wI ⟨k4,g8⟩ lo hi _ _ (HV.ext hh z1) (by omega) hL) fun w1 x1=>?_;have c6:=a0.ext x1;have i4:=hid x1;have q0:=c6.lt;have q1:=c6.c0;have q2:=c6.c1;clear c6 x1;go_wp2
 go_loopw [7,26] (fun okv i wr=>∃k:Nat,k<=c.xs.length/\i = .int .i64 k/\okv = .bool (a5&&(c.xs.take k).all iD)/\Ext W0 wr) (fun _ i _=>c.xs.length - (intOf i).toNat)
 case atStart=>exact ⟨0,by omega,rfl,by simp,i4⟩
 case round=>
  clear q0 q1 q2 i4;obtain ⟨k,hk,rfl,rfl,hx⟩:=hrel
  by_cases a8:k<c.xs.length
  ·obtain ⟨b,n6,op,s,num,rfl,l9,m0,q4,q8,io,n5,y0,y1,y2⟩:=HI.at a8 (z1.trans hx) hh
   have j0:c.xs[k]=⟨op,s,num⟩:=by have:=q8;rw [aRs a8] at this;exact aTh this
   have d8:(a5&&(c.xs.take (k+1)).all iD)=((a5&&(c.xs.take k).all iD)&&inB num (-1000000000) 1000000000):=by
    rw [aSd a8,aZ0,j0,aZ8];simp [iD]
   obtain ⟨l5,a6⟩:∃b,(a5&&(c.xs.take k).all iD)=b:=⟨_,rfl⟩
   rw [a6] at d8 ⊢;have d0:=hid d8;have HX:=hid hx;clear d8 a6 j0 q8 q4 hx
   cases l5
   ·go_wp2
    go_roundw
    case rel=>exact ⟨k+1,by omega,by go_num,by rw [d0];rfl,by have hx:=HX.out;exact S_⟩
    case measure=>simp [intOf];omega
   ·cases z4:inB num (-1000000000) 1000000000
    ·have a4:=hid z4
     clear z4;go_wp2_with fail;refine z_ (aF a4 _) ?_;go_wp2;go_roundw
     case rel=>exact ⟨k+1,by omega,by go_num,by rw [d0,a4];rfl,by have hx:=HX.out;exact S_⟩
     case measure=>simp [intOf];omega
    ·have a4:=hid z4
     clear z4;go_wp2_with fail;refine z_ (aF a4 _) ?_;go_wp2;go_roundw
     case rel=>exact ⟨k+1,by omega,by go_num,by rw [d0,a4];rfl,by have hx:=HX.out;exact S_⟩
     case measure=>simp [intOf];omega
  ·obtain rfl:k=c.xs.length:=by omega
   rw [aSh]
   have j7:(a5&&c.xs.all iD)=c.runB:=by rw [<-g8];rfl
   rw [j7];have h6:=a3.ext hx;have h9:=a0.ext hx;have HX:=hid hx;have g0:=h6.lt;have g1:=h6.c0;have g2:=h6.c1;have g3:=h6.c2;have g4:=h6.c3;have g5:=h6.c4;have q0:=h9.lt;have q1:=h9.c0;have q2:=h9.c1;clear j7 hx h6 h9;rw [h1];have p0:=HX.size;go_wp2_with fail;refine r_ (xV h2 lo' hi' _ _ (by have:=HU.ext hh' (z1.trans HX);rw [hn.out] at this;exact this) (by omega)) fun w2 x2=>?_;have X2:=HX.trans x2;have h6:=a3.ext X2;have h9:=a0.ext X2;clear g0 g1 g2 g3 g4 g5 q0 q1 q2;have g0:=h6.lt;have g1:=h6.c0;have g2:=h6.c1;have g3:=h6.c2;have g4:=h6.c3;have g5:=h6.c4;have q0:=h9.lt;have q1:=h9.c0;have q2:=h9.c1;have l1:=hid X2;have n4:=X2.size;clear h6 h9 X2 x2;obtain ⟨i0,i9,b8,b9,c5⟩:=info_parts pH;go_wp2_with (at_make;refine wpList_make_row _ rfl _ _ 76 rfl 24 i0 (.slice none 0 0) underlying76 i9 b8 b9 rfl .i64 .i64 c.ls.length rfl rfl (by rw [c5];omega) (by omega) ?_);clear i9 b8 b9 c5
   have M0:=hid (show Mst W0.heap.size (w2.heap.size+1) ((w2.alloc (.cells (madeCells #[.slice none 0 0] c.ls.length) 24)).alloc (.cells #[] 24)) (.slice (some ⟨w2.heap.size+1,0,none⟩) 0 0) (.slice (some ⟨w2.heap.size,0,none⟩) c.ls.length c.ls.length) [] (aR5 c.ls.length (.slice none 0 0)) [] (aR5 c.ls.length []) from by
    have hf:=ownsRow.fresh w2 W0.heap.size c.ls.length n4 hL;refine ⟨?_,hf.alloc _,fun k hk=>by simp [aSg] at hk;omega,by omega,by simp,Rws.nil _ _,Rws.nils _ _ _⟩;have:=aKs (w2.alloc (.cells (madeCells #[.slice none 0 0] c.ls.length) 24)) (.cells #[] 24)
    exact ownsRow.empty (aRi _) (by simpa using this))
   have X3:=hid (show Ext W0 ((w2.alloc (.cells (madeCells #[.slice none 0 0] c.ls.length) 24)).alloc (.cells #[] 24)) from (l1.alloc _).alloc _)
   have o2:w.heap.size<=W0.heap.size:=by omega
   clear g0 g1 g2 g3 g4 g5 q0 q1 q2
   go_loopw [11,52] (fun sv i wr=>∃(k:Nat) (vs us:List Value) (S L:List (List Int)),k<=c.xs.length/\i = .int .i64 k/\Mst W0.heap.size (w2.heap.size+1) wr sv (.slice (some ⟨w2.heap.size,0,none⟩) c.ls.length c.ls.length) vs us S L/\(∃g cap,sv = .slice (some ⟨g,0,none⟩) vs.length cap)/\nS c.ls.length g.m (c.xs.drop k) S L/\lQ n g.m g.f g.tm g.t (c.xs.drop k) S L=c.out g/\S.length<=k/\Ext W0 wr) (fun _ i _=>c.xs.length - (intOf i).toNat)
   case atStart=>exact ⟨0,_,_,_,_,by omega,rfl,M0,⟨_,_,rfl⟩,by rw [aXr];exact nS.start HD,by rw [aXr];exact d2,by simp,X3⟩
   case round=>
    clear M0 X3;obtain ⟨k,vs,us,S,L,hk,rfl,M,⟨gs,gc,rfl⟩,ok,hrun,hSk,hx⟩:=hrel
    by_cases a8:k<c.xs.length
    ·obtain ⟨b,n6,op,s,num,rfl,l9,m0,q4,q8,io,n5,y0,y1,y2⟩:=HI.at a8 (z1.trans hx) hh
     rw [q4] at ok hrun;have z4:iD ⟨op,s,num⟩=true:=HN _ (aR7 q8);have e4:=ok.wf;obtain ⟨p,hp,d9⟩:=ok.pops;have y5:=ok.local;have HK:=hid (ok.next (t:=g.t) HG.hm z4 HG.f9 HG.tm9);have z3:=ok.rows;have j2:=ok.len;simp only at e4 hp d9 y5
     obtain ⟨q,e0⟩:∃q,iZ op s S=q:=⟨_,rfl⟩
     rw [e0] at d9;have x8:=M.sr.len;have e3:=M.lr.len;rw [<-x8] at d9 hSk;replace x8:=hid x8;replace e3:=hid e3
     obtain ⟨qv,j5⟩:∃q,gI op=q:=⟨_,rfl⟩
     have z5:S9 num:=aG.1 (show inB num (-1000000000) 1000000000=true from z4);obtain ⟨p1,p2⟩:=ownsRow.caps M.so;obtain ⟨m4,d7⟩:=aTg M.so gs rfl
     have n2:(vs.length:Int) - p=q:=by omega
     have j8:vs.length - q=p:=by omega
     have e9:Ext wr (wr.alloc (.cells #[op,.string s,num] 221)):=X_;have HX:=hid hx;have HM:=hid (M.ext e9);have HQ:=hid e0;have x3:=hid hrun;have HP:=hid hp;have k7:=hid j5;have y7:=hid e4;have k5:=hid z3;have k6:=hid y5
     have i6:(vs.drop q).length=p:=by simp;omega
     have y6:=hid i6
     have g6:Hid (∀(w':World),Ext wr w'->∀i y,(vs.drop q)[i]?=some y->w'.cell? ⟨gs,q+i,none⟩=some y):=by
      intro w' x' i y hy;rw [aTx] at hy;have m7:=(aRk.1 hy).1;rw [x'.cells.1 _ _ d7,aTt M.so (q+i) (by omega)];exact hy
     have i2:Hid (∀y∈vs.drop q,y.oneCell'=true):=fun y hy=>M.sr.one y (aU8 hy);have h9:=a0.ext hx;have h6:=a3.ext hx;have b0:=h9.lt;have b1:=h9.c0;have b2:=h9.c1;have g0:=h6.lt;have g1:=h6.c0;have g2:=h6.c1;have g3:=h6.c2;have g4:=h6.c3;have g5:=h6.c4;have o7:=hx.size;clear M ok hrun q8 q4 hx z4 e4 hp j5 z3 y5 e0 i6 h9 h6;go_wp2_with fail;refine r_ (oZ _ _ _ _ _ c.ls.length hL op s num _ y7 HP k7) fun w4 x4=>?_;have x5:Ext wr w4:=e9.trans x4;have M4:=HM.ext x4;have h9:=a0.ext (HX.trans x5);have h6:=a3.ext (HX.trans x5);have y9:=(kE.made wr op s num 221).ext x4;have y4:=hid M4;have q9:=hid x5;have d4:=hid y9;have o8:=x5.size;clear b0 b1 b2 g0 g1 g2 g3 g4 g5 y0 y1 y2 HM M4;have b0:=h9.lt;have b1:=h9.c0;have b2:=h9.c1;have g0:=h6.lt;have g1:=h6.c0;have g2:=h6.c1;have g3:=h6.c2;have g4:=h6.c3;have g5:=h6.c4;have y0:=y9.lt;have y1:=y9.c0;have y2:=y9.c1;have y3:=y9.c2;clear h9 h6 y9 x4 x5 e9
     have c9:=hid (show ∀w5,Ext w4 w5->tX w5 (w.heap.size+1) n pu g.tm g.t.log tu/\kE w5 wr.heap.size op s num from fun w5 x5=>⟨(a3.ext (HX.trans (q9.trans x5))),by
      have hq:=d4.ext x5
      exact hq⟩)
     by_cases m8:p=0
     ·subst m8
      have q5:op=1\/op=2\/op=3:=by
       have hw:=y7.out;have z8:=HP.out;have o3:=oD s
       by_cases h1:1<=op/\op<=7
       ·rcases (show op=1\/op=2\/op=3\/op=4\/op=5\/op=6\/op=7 by omega) with rfl|rfl|rfl|rfl|rfl|rfl|rfl
        ·exact .inl rfl
        ·exact .inr (.inl rfl)
        ·exact .inr (.inr rfl)
        ·exact absurd z8 (by have:cP 4 s=1:=rfl;omega)
        ·exact absurd z8 (by have:cP 5 s=1:=rfl;omega)
        ·exact absurd z8 (by have:cP 6 s=2:=rfl;omega)
        ·exact absurd z8 (by have:cP 7 s=cF s:=rfl;omega)
       ·unfold wfI at hw
        rw [if_neg (by omega),if_neg (by omega),if_neg (by omega),if_neg (by omega),if_neg (by omega),if_neg (by omega),if_neg (by omega)] at hw;cases hw
      have h4:(op==4)=false:=by rcases q5 with rfl|rfl|rfl <;> rfl
      have i5:op≠4:=by rintro rfl;cases h4
      obtain rfl:q=vs.length:=by omega
      have z7:=hid q5
      have j6:Hid (op=3->∃j:Nat,num=j/\∃xs,L[j]?=some xs/\fM g.m xs):=fun h3=>by
       obtain ⟨j,hj,_⟩:=nM y7 (.inl h3);obtain ⟨xs,hx,m5⟩:=k6 h3;rw [hj,aSc] at hx;exact ⟨j,hj,xs,hx,m5⟩
      clear q5
      have eS:Hid (eO n g.m g.f g.tm g.t ⟨op,s,num⟩ S L=S.take vs.length++[iY n g.m g.f g.tm g.t op s num (S.drop vs.length) L]):=by
       unfold eO;rw [if_neg i5,HQ]
       rfl
      have eL:Hid (gM ⟨op,s,num⟩ S L=L):=by unfold gM;rw [if_neg i5];rfl
      obtain ⟨row,h8⟩:∃r,iY n g.m g.f g.tm g.t op s num (S.drop vs.length) L=r:=⟨_,rfl⟩
      have q3:=hid h8;clear h8
      by_cases m2:gc=vs.length
      ·subst m2
       go_wp2_with (at_builtin;refine dO _ rfl _ _ rfl w4.heap.size (.slice (some ⟨w4.heap.size,0,none⟩) 0 0) 0 [] rfl (ownsRow.empty (aRi _) (cG w4 _)) [] (fun y h=>by cases h) _ _ _ rfl (fun i y h=>by simp at h) (by simp) (by simp) ?_;intro v5 w5 h0 q7;have X5:Ext w4 w5:=((aRu w4).alloc _).grown q7 (fun k e=>by simp [aSg] at e;omega);obtain ⟨n9,e8,rfl⟩:=ownsRow.form h0;obtain ⟨⟨u0,u1,u2,u3,u4,u5⟩,⟨t0,t1,t2,t3⟩⟩:=c9.out w5 X5;have e7:=X5.size);have M5:=y4.ext X5;have q6:=aA9 (args:=S.drop vs.length) (lo:=w.heap.size) (lo':=w5.heap.size) (op:=op) (s:=s) (num:=num) (HG.step (z1.trans (HX.trans (q9.trans X5)))) (by omega) (ownsRow.ss M5.lo' M5.lr) (aRi _) z5 z7.out j6.out;rw [q3] at q6;refine q6.mono ?_;rintro e w6 ⟨r,rfl,hr,x6⟩;obtain ⟨ra,rc,rfl,_⟩:=hr.form;have M6:=hid (M5.ext x6);have b4:=hid (hr.low (show W0.heap.size<=w5.heap.size by omega));have X6:=hid ((HX.trans (q9.trans X5)).trans x6);have k0:=x6.size;clear q6 M5 hr x6 u0 u1 u2 u3 u4 u5 t0 t1 t2 t3 h0 q7 X5;go_wp2_with (at_builtin;refine fL _ rfl _ _ rfl (w2.heap.size+1) _ vs.length vs rfl (aV2 M6.so _) (.slice ra row.length rc) rfl w6.heap.size rfl (by simp [go_sem]) (by omega) (by have:=M6.hl2;simp;omega) ?_;intro v7 w7 h5 z2;obtain ⟨g7,c7,rfl,_,_⟩:=ownsRow.form1 h5 (by omega));have MB:=(M6.ext ((aRu w6).alloc (.cells #[.slice ra row.length rc] 24))).push h5 z2 (b4.out.ext ((aRu w6).alloc (.cells #[.slice ra row.length rc] 24)));have x9:=hid MB;clear MB h5 z2;go_wp2;go_roundw
       case rel=>
        refine ⟨k+1,vs++[.slice ra row.length rc],us,eO n g.m g.f g.tm g.t ⟨op,s,num⟩ S L,gM ⟨op,s,num⟩ S L,by omega,by go_num,?_,⟨g7,c7,by simp⟩,HK,x3,?_,aWn (X6.alloc _) x9.2⟩
        ·have hS:S.take vs.length=S:=by rw [x8.out,aSh]
         rw [eS.out,eL.out,q3,hS];exact x9.1
        ·have hv:=x8.out
         rw [eS.out,aSa,aR9,aVp];omega
       case measure=>simp [intOf];omega
      ·skip
       go_wp2_with (at_builtin;refine dO _ rfl _ _ rfl w4.heap.size (.slice (some ⟨w4.heap.size,0,none⟩) 0 0) 0 [] rfl (ownsRow.empty (aRi _) (cG w4 _)) [] (fun y h=>by cases h) _ _ _ rfl (fun i y h=>by simp at h) (by simp) (by simp) ?_;intro v5 w5 h0 q7;have X5:Ext w4 w5:=((aRu w4).alloc _).grown q7 (fun k e=>by simp [aSg] at e;omega);obtain ⟨n9,e8,rfl⟩:=ownsRow.form h0;obtain ⟨⟨u0,u1,u2,u3,u4,u5⟩,⟨t0,t1,t2,t3⟩⟩:=c9.out w5 X5;have e7:=X5.size);have M5:=y4.ext X5;have q6:=aA9 (args:=S.drop vs.length) (lo:=w.heap.size) (lo':=w5.heap.size) (op:=op) (s:=s) (num:=num) (HG.step (z1.trans (HX.trans (q9.trans X5)))) (by omega) (ownsRow.ss M5.lo' M5.lr) (aRi _) z5 z7.out j6.out;rw [q3] at q6;refine q6.mono ?_;rintro e w6 ⟨r,rfl,hr,x6⟩;obtain ⟨ra,rc,rfl,_⟩:=hr.form;have M6:=hid (M5.ext x6);have b4:=hid (hr.low (show W0.heap.size<=w5.heap.size by omega));have X6:=hid ((HX.trans (q9.trans X5)).trans x6);have k0:=x6.size;clear q6 M5 hr x6 u0 u1 u2 u3 u4 u5 t0 t1 t2 t3 h0 q7 X5;go_wp2_with (at_builtin;refine fL _ rfl _ _ rfl (w2.heap.size+1) _ vs.length vs rfl (aV2 M6.so _) (.slice ra row.length rc) rfl w6.heap.size rfl (by simp [go_sem]) (by omega) (by have:=M6.hl2;simp;omega) ?_;intro v7 w7 h5 z2;obtain ⟨g7,c7,rfl,_,_⟩:=ownsRow.form1 h5 (by omega));have MB:=(M6.ext ((aRu w6).alloc (.cells #[.slice ra row.length rc] 24))).push h5 z2 (b4.out.ext ((aRu w6).alloc (.cells #[.slice ra row.length rc] 24)));have x9:=hid MB;clear MB h5 z2;go_wp2;go_roundw
       case rel=>
        refine ⟨k+1,vs++[.slice ra row.length rc],us,eO n g.m g.f g.tm g.t ⟨op,s,num⟩ S L,gM ⟨op,s,num⟩ S L,by omega,by go_num,?_,⟨g7,c7,by simp⟩,HK,x3,?_,aWn (X6.alloc _) x9.2⟩
        ·have hS:S.take vs.length=S:=by rw [x8.out,aSh]
         rw [eS.out,eL.out,q3,hS];exact x9.1
        ·have hv:=x8.out
         rw [eS.out,aSa,aR9,aVp];omega
       case measure=>simp [intOf];omega
     ·have m3 : ¬gc=q:=by omega
      have x7:q<=vs.length:=by omega
      have o5:1<=p:=by omega
      by_cases h4:op=4
      ·subst h4
       have b3:p=1:=by
        have:=HP.out;have e:cP 4 s=1:=rfl;omega
       have n0:q+1=vs.length:=by omega
       replace b3:=hid b3;obtain ⟨j,rfl,o4⟩:=nM y7 (.inr rfl);obtain ⟨y,e5,n3⟩:=mK vs q n0
       obtain ⟨row,h8⟩:∃r,S.getD q []=r:=⟨_,rfl⟩
       have e6:aB W0.heap.size w4 y row:=by
        have h1:S[q]?=some row:=by
         rw [<-h8,aUn,aRs (by have:=x8.out;omega)]
         rfl
        have h2:vs[q]?=some y:=by
         have:(vs.drop q)[0]?=some y:=by rw [e5];rfl
         rwa [aTx,aS0] at this
        exact y4.sr.own q y row h2 h1
       obtain ⟨ya,yc,rfl,_⟩:=e6.form;have l4:=hid e6;have l3:=hid e5
       have b6:us.length=c.ls.length:=by have:=e3.out;have:=y4.lr.len;omega
       have m6:j<us.length:=by omega
       obtain ⟨y0,j9⟩:∃y,us[j]?=some y:=⟨us[j],by simp [m6]⟩
       have l2:=hid j9;have d3:=hid b6
       have l8:Hid (∀(w':World),Ext w4 w'->w'.cell? ⟨w2.heap.size,j,none⟩=some y0/\w'.frozen? ⟨w2.heap.size,j,none⟩=false/\w2.heap.size<w'.heap.size):=fun w' x'=>by
        have M':=(y4.ext x').lo';have hb:=(aTg M' w2.heap.size rfl).2;rw [d3] at M';exact ⟨(aTt M' j (by omega)).trans l2,aZv M' j,hb⟩
       have eS:Hid (eO n g.m g.f g.tm g.t ⟨4,s,j⟩ S L=S.take q):=by
        unfold eO;rw [if_pos rfl,HQ]
        rfl
       have eL:Hid (gM ⟨4,s,j⟩ S L=L.set j row):=by
        unfold gM;rw [if_pos rfl,HQ,h8,aSc]
        rfl
       have o1:=hid h8;clear e6 e5 n3 b6 j9 h8;go_wp2_with (at_builtin;refine dO _ rfl _ _ rfl w4.heap.size (.slice (some ⟨w4.heap.size,0,none⟩) 0 0) 0 [] rfl (ownsRow.empty (aRi _) (cG w4 _)) (vs.drop q) i2 gs q (gc - q) (Eq.trans (b:=aS2 (some ⟨gs,q,none⟩) p (gc - q)) rfl (by rw [y6])) (g6 _ (q9.alloc _)) (by rw [y6];omega) (by simp) ?_;intro v5 w5 h0 q7;have X5:Ext w4 w5:=((aRu w4).alloc _).grown q7 (fun k e=>by simp [aSg] at e;omega);rw [y6,aSf,aTf] at h0;obtain ⟨l6,e8,rfl,d5,d6⟩:=ownsRow.form1 h0 (by omega);obtain ⟨⟨u0,u1,u2,u3,u4,u5⟩,⟨t0,t1,t2,t3⟩⟩:=c9.out w5 X5;have e7:=X5.size ;rw [l3] at h0;have z0:=aTt h0 0 (by omega);simp at z0;obtain ⟨b0,b1,b2⟩:=l8.out w5 X5);refine aA [([0,1,2,3,4,5,6],7)] 7 w5.heap.size (by kernel_rfl) (by kernel_rfl) ?_;refine st_ fun K hK=>?_;go_wp2_with fail;go_wp2_with fail;refine l_ hK ?_;clear hK K;refine aC ?_;have M5:=y4.ext X5;have MS:=M5.shrink q x7;have b7:=l4.ext X5;rw [<-d3] at MS;have MT:=MS.store j b7;have i1:=hid MT;have X6:=hid ((HX.trans (q9.trans X5)));clear M5 MS MT b7 X5 h0 q7;go_wp2;go_roundw
       case rel=>
        refine ⟨k+1,vs.take q,us.set j (.slice ya row.length yc),eO n g.m g.f g.tm g.t ⟨4,s,j⟩ S L,gM ⟨4,s,j⟩ S L,by omega,by go_num,?_,⟨gs,gc,by rw [aR9,aT0 x7]⟩,HK,x3,?_,aWn X6 ?_⟩
        ·rw [eS.out,eL.out]
         have:=i1.1;rw [d3] at this;exact this.ext (aSk (aRu _))
        ·rw [eS.out,aR9]
         omega
        ·exact i1.2.drew
       case measure=>simp [intOf];omega
      ·have q5:op=5\/op=6\/op=7:=by
        have hw:=y7.out;have z8:=HP.out
        by_cases h1:1<=op/\op<=7
        ·rcases (show op=1\/op=2\/op=3\/op=4\/op=5\/op=6\/op=7 by omega) with rfl|rfl|rfl|rfl|rfl|rfl|rfl
         ·exact absurd z8 (by have:cP 1 s=0:=rfl;omega)
         ·exact absurd z8 (by have:cP 2 s=0:=rfl;omega)
         ·exact absurd z8 (by have:cP 3 s=0:=rfl;omega)
         ·exact absurd rfl h4
         ·exact .inl rfl
         ·exact .inr (.inl rfl)
         ·exact .inr (.inr rfl)
        ·unfold wfI at hw
         rw [if_neg (by omega),if_neg (by omega),if_neg (by omega),if_neg (by omega),if_neg (by omega),if_neg (by omega),if_neg (by omega)] at hw;cases hw
       have eS:Hid (eO n g.m g.f g.tm g.t ⟨op,s,num⟩ S L=S.take q++[iY n g.m g.f g.tm g.t op s num (S.drop q) L]):=by
        unfold eO;rw [if_neg h4,HQ]
        rfl
       have eL:Hid (gM ⟨op,s,num⟩ S L=L):=by unfold gM;rw [if_neg h4];rfl
       have o0:(op==4)=false:=beq_eq_false_iff_ne.2 h4;have m9:((p:Int)==0)=false:=beq_eq_false_iff_ne.2 (by omega);have m1:Hid (∀r∈S.drop q,fM g.m r):=fun r hr=>k5 r (aU8 hr)
       have l7:Hid ((S.drop q).length=p):=by have:=x8.out;show (S.drop q).length=p;rw [aUg];omega
       obtain ⟨row,h8⟩:∃r,iY n g.m g.f g.tm g.t op s num (S.drop q) L=r:=⟨_,rfl⟩
       have q3:=hid h8;have d1:=hid q5;clear h8 q5;go_wp2_with (at_builtin;refine dO _ rfl _ _ rfl w4.heap.size (.slice (some ⟨w4.heap.size,0,none⟩) 0 0) 0 [] rfl (ownsRow.empty (aRi _) (cG w4 _)) (vs.drop q) i2 gs q (gc - q) (Eq.trans (b:=aS2 (some ⟨gs,q,none⟩) p (gc - q)) rfl (by rw [y6])) (g6 _ (q9.alloc _)) (by rw [y6];omega) (by simp) ?_;intro v5 w5 h0 q7;have X5:Ext w4 w5:=((aRu w4).alloc _).grown q7 (fun k e=>by simp [aSg] at e;omega);rw [y6,aSf,aTf] at h0;obtain ⟨l6,e8,rfl,d5,d6⟩:=ownsRow.form1 h0 (by omega);obtain ⟨⟨u0,u1,u2,u3,u4,u5⟩,⟨t0,t1,t2,t3⟩⟩:=c9.out w5 X5;have e7:=X5.size);have M5:=y4.ext X5;have y8:=ownsRow.ss h0 ((M5.sr).drop q);have q6:=aGz (L:=L) (lo:=w.heap.size) (lo':=w5.heap.size) (op:=op) (s:=s) (num:=num) (HG.step (z1.trans (HX.trans (q9.trans X5)))) (by omega) y8 (aRi _) d1 y7 HP l7.out m1.out;rw [q3] at q6;refine q6.mono ?_;rintro e w6 ⟨r,rfl,hr,x6⟩;obtain ⟨ra,rc,rfl,_⟩:=hr.form
       have e2:(vs.take q).length=q:=by rw [aR9,aT0 x7]
       have M6:=(M5.shrink q x7).ext x6;have e1:=M6.so;rw [e2] at e1;have k8:=hid e1;have g9:=hid M6;have i3:=hid e2;have b4:=hid (hr.low (show W0.heap.size<=w5.heap.size by omega));have X6:=hid ((HX.trans (q9.trans X5)).trans x6);have k0:=x6.size;clear q6 M5 M6 e1 e2 hr x6 u0 u1 u2 u3 u4 u5 t0 t1 t2 t3 h0 q7 X5 y8;go_wp2_with (at_builtin;refine fL _ rfl _ _ rfl (w2.heap.size+1) _ q (vs.take q) rfl (aV2 k8 _) (.slice ra row.length rc) rfl w6.heap.size rfl (by simp [go_sem]) (by omega) (by have:=g9.hl2;simp;omega) ?_;intro v7 w7 h5 z2;obtain ⟨g7,c7,rfl,_,_⟩:=ownsRow.form1 h5 (by omega));have MB:=(g9.ext ((aRu w6).alloc (.cells #[.slice ra row.length rc] 24))).push (by rw [i3];exact h5) z2 (b4.out.ext ((aRu w6).alloc (.cells #[.slice ra row.length rc] 24)));have x9:=hid MB;clear MB h5 z2;go_wp2;go_roundw
       case rel=>
        refine ⟨k+1,vs.take q++[.slice ra row.length rc],us,eO n g.m g.f g.tm g.t ⟨op,s,num⟩ S L,gM ⟨op,s,num⟩ S L,by omega,by go_num,?_,⟨g7,c7,by rw [aSa,i3];rfl⟩,HK,x3,?_,aWn (X6.alloc _) x9.2⟩
        ·rw [eS.out,eL.out,q3]
         exact x9.1
        ·rw [eS.out,aSa,aR9,aVp]
         omega
       case measure=>simp [intOf];omega
    ·obtain rfl:k=c.xs.length:=by omega
     rw [List.drop_length] at hrun;have z9:L=c.out g:=hrun;have y8:=ownsRow.ssF (L:=w.heap.size) M.lo' M.lr (by omega) (by omega);rw [z9] at y8;have k9:=hid y8;clear hrun z9 y8 M ok;go_wp2;refine bodyPost_ret (v:=.tuple #[.slice (some ⟨w2.heap.size,0,none⟩) c.ls.length c.ls.length,.bool true]) (by simp [results,results193,go_sem]) rfl ⟨_,rfl,k9,z1.trans hx⟩
theorem aEp (lo hi lo' hi':Nat) (v u:Value) (c:Cod) (g:Grd) (w:World) (hv:c.R lo hi w v) (hh:hi<=w.heap.size) (hu:g.R lo' hi' w u) (hh':hi'<=w.heap.size) (hL:c.ls.length<=2000000) (hno:(c.runB&&g.okB)=false) :
  R_ 193 #[v,u] w (.tuple #[.slice none 0 0,.bool false]):=by
 have HV:=hid hv;have HU:=hid hu;obtain ⟨a1,c1,a2,c2,rfl,HI,-⟩:=hv.form;obtain ⟨pu,tu,rfl,-,y4,z9,hp,ht⟩:=hu;clear hv;have k1:=HI.le;have k2:=HI.cap;have x0:Ext w ((w.alloc (.cells #[.slice a1 c.xs.length c1,.slice a2 c.ls.length c2] 163)).alloc (.cells #[g.n,pu,g.tm,g.t.log,tu] 168)):=X_;have cb:=(iH.made w (.slice a1 c.xs.length c1) (.slice a2 c.ls.length c2) 163).ext ((aRu _).alloc (.cells #[g.n,pu,g.tm,g.t.log,tu] 168));have gb:=tX.made (w.alloc (.cells #[.slice a1 c.xs.length c1,.slice a2 c.ls.length c2] 163)) g.n pu g.tm g.t.log tu 168;simp only [aRj] at gb
 obtain ⟨W0,q4⟩:∃W,(w.alloc (.cells #[.slice a1 c.xs.length c1,.slice a2 c.ls.length c2] 163)).alloc (.cells #[g.n,pu,g.tm,g.t.log,tu] 168)=W:=⟨_,rfl⟩
 rw [q4] at x0 cb gb;have x3:=hid cb;have z0:=hid gb;have h4:=hid x0;have z1:=hid q4;have z5:=x0.size
 have z6:w.heap.size+2=W0.heap.size:=by rw [<-q4];simp
 clear cb gb x0 q4
 obtain ⟨h5,h7⟩:∃b,c.depth.isSome=b:=⟨_,rfl⟩
 obtain ⟨dm,x6⟩:∃b,c.depth.getD 0=b:=⟨_,rfl⟩
 have x4:=hid h7;have x9:=hid x6;clear h7 x6;go_enter func193,ntmps193;go_wp2_with fail;rw [z1];refine r_ (wI ⟨x9,x4⟩ lo hi _ _ (HV.ext hh h4) (by omega) hL) fun w1 x1=>?_;have q3:=x3.ext x1;have x5:=hid x1;have q0:=q3.lt;have q1:=q3.c0;have q2:=q3.c1;clear q3 x1;go_wp2
 go_loopw [7,26] (fun okv i wr=>∃k:Nat,k<=c.xs.length/\i = .int .i64 k/\okv = .bool (h5&&(c.xs.take k).all iD)/\Ext W0 wr) (fun _ i _=>c.xs.length - (intOf i).toNat)
 case atStart=>exact ⟨0,by omega,rfl,by simp,x5⟩
 case round=>
  clear q0 q1 q2 x5;obtain ⟨k,hk,rfl,rfl,hx⟩:=hrel
  by_cases q8:k<c.xs.length
  ·obtain ⟨b,y3,op,s,num,rfl,z3,z4,h8,h9,io,z8,y0,y1,y2⟩:=HI.at q8 (h4.trans hx) hh
   have x7:c.xs[k]=⟨op,s,num⟩:=by have:=h9;rw [aRs q8] at this;exact aTh this
   have q9:(h5&&(c.xs.take (k+1)).all iD)=((h5&&(c.xs.take k).all iD)&&inB num (-1000000000) 1000000000):=by
    rw [aSd q8,aZ0,x7,aZ8];simp [iD]
   obtain ⟨z2,h6⟩:∃b,(h5&&(c.xs.take k).all iD)=b:=⟨_,rfl⟩
   rw [h6] at q9 ⊢;have q7:=hid q9;have HX:=hid hx;clear q9 h6 x7 h9 h8 hx
   cases z2
   ·go_wp2
    go_roundw
    case rel=>exact ⟨k+1,by omega,by go_num,by rw [q7];rfl,by have hx:=HX.out;exact S_⟩
    case measure=>simp [intOf];omega
   ·cases q6:inB num (-1000000000) 1000000000
    ·have h3:=hid q6
     clear q6;go_wp2_with fail;refine z_ (aF h3 _) ?_;go_wp2;go_roundw
     case rel=>exact ⟨k+1,by omega,by go_num,by rw [q7,h3];rfl,by have hx:=HX.out;exact S_⟩
     case measure=>simp [intOf];omega
    ·have h3:=hid q6
     clear q6;go_wp2_with fail;refine z_ (aF h3 _) ?_;go_wp2;go_roundw
     case rel=>exact ⟨k+1,by omega,by go_num,by rw [q7,h3];rfl,by have hx:=HX.out;exact S_⟩
     case measure=>simp [intOf];omega
  ·obtain rfl:k=c.xs.length:=by omega
   rw [aSh]
   have x8:(h5&&c.xs.all iD)=c.runB:=by rw [<-x4];rfl
   rw [x8];have h0:=z0.ext hx;have q5:=x3.ext hx;have HX:=hid hx;have g0:=h0.lt;have g1:=h0.c0;have g2:=h0.c1;have g3:=h0.c2;have g4:=h0.c3;have g5:=h0.c4;have q0:=q5.lt;have q1:=q5.c0;have q2:=q5.c1;clear x8 hx h0 q5
   cases h1:c.runB
   ·go_wp2
    refine bodyPost_ret (v:=.tuple #[.slice none 0 0,.bool false]) (by simp [results,results193,go_sem]) rfl ⟨rfl,h4.trans HX⟩
   ·have h2:g.okB=false:=by rw [h1] at hno;simpa using hno
    have z7:=HX.size;go_wp2_with fail;refine r_ (xV h2 lo' hi' _ _ (HU.ext hh' (h4.trans HX)) (by omega)) fun w2 x2=>?_;go_wp2;refine bodyPost_ret (v:=.tuple #[.slice none 0 0,.bool false]) (by simp [results,results193,go_sem]) rfl ⟨rfl,(h4.trans HX).trans x2⟩
def Cod.res (c:Cod) (g:Grd):List (List Int):=if (c.runB&&g.okB)=true then c.out g else []
theorem xT.nil (lo:Nat) (w:World):xT lo w (.slice none 0 0) []:=⟨[],aVd _ _ _ _,⟨rfl,fun i v xs h=>by simp at h⟩,List.Pairwise.nil,fun j u h=>by simp at h⟩
theorem SS.nil (lo hi:Nat) (w:World):SS lo hi w (.slice none 0 0) []:=⟨none,0,rfl,aRi _,by unfold maxLen;omega,fun i xs h=>by simp at h⟩
theorem aCt {S:List (List Int)} (lo hi lo' hi':Nat) (v u:Value) (c:Cod) (g:Grd) (w:World) (hb:(c.runB&&g.okB)=b) (hS:c.res g=S) (hv:c.R lo hi w v) (hh:hi<=w.heap.size) (hu:g.R lo' hi' w u) (hh':hi'<=w.heap.size) (hL:c.small) :
  Calls aRn 168 #[v,u] w fun e w'=>∃r,e = .returned (.tuple #[r,.bool b])/\xT w.heap.size w' r S/\Ext w w':=by
 have h0:c.ls.length<=2000000:=by have:=hL.2;omega
 subst hS;unfold Cod.res
 cases b
 ·rw [hb,if_neg (by decide)]
  exact (aEo lo hi lo' hi' v u c g w hv hh hu hh' h0 hb).mono fun e w' ⟨h1,h2⟩=>⟨_,h1,xT.nil _ _,h2⟩
 ·rw [hb,if_pos rfl]
  exact aCr lo hi lo' hi' v u c g w hv hh hu hh' h0 hb
theorem aCu {S:List (List Int)} (lo hi lo' hi':Nat) (v u:Value) (c:Cod) (g:Grd) (w:World) (hb:(c.runB&&g.okB)=b) (hS:c.res g=S) (hv:c.R lo hi w v) (hh:hi<=w.heap.size) (hu:g.R lo' hi' w u) (hh':hi'<=w.heap.size) (hL:c.small) :
  Calls aRn 193 #[v,u] w fun e w'=>∃r,e = .returned (.tuple #[r,.bool b])/\SS w.heap.size w'.heap.size w' r S/\Ext w w':=by
 have h0:c.ls.length<=2000000:=by have:=hL.2;omega
 subst hS;unfold Cod.res
 cases b
 ·rw [hb,if_neg (by decide)]
  exact (aEp lo hi lo' hi' v u c g w hv hh hu hh' h0 hb).mono fun e w' ⟨h1,h2⟩=>⟨_,h1,SS.nil _ _ _,h2⟩
 ·rw [hb,if_pos rfl]
  exact aCs lo hi lo' hi' v u c g w hv hh hu hh' h0 hb
theorem aG0 {L0:Nat} {t:Tex} (hm:n*n=m) (hf:∀i,i<m*5->S9 (f i)) (ht:S9 tm) :
  ∀(xs:List Ins) (S L:List (List Int)),(∀x∈xs,iD x=true)->nS L0 m xs S L->(lQ n m f tm t xs S L).length=L0/\∀r∈lQ n m f tm t xs S L,r.length<=m:=by
 intro xs
 induction xs with
 | nil=>
  intro S L _ h;refine ⟨h.len,fun r hr=>?_⟩;obtain ⟨d,st,_,h2⟩:=h.run;obtain ⟨j,hj⟩:=List.mem_iff_getElem?.1 hr
  rcases h2 j r hj with ⟨_,h3⟩|⟨_,h3⟩
  ·have:=h3.1;omega
  ·rw [h3];simp
 | cons x r ih=>
  intro S L hn h;exact ih _ _ (fun y hy=>hn y (List.mem_cons_of_mem _ hy)) (h.next hm (hn x List.mem_cons_self) hf ht)
def ixL (s:List UInt8):List ByteArray->Int
 | []=>-1
 | x::r=>if x.toList=s then 0 else if ixL s r<0 then -1 else ixL s r+1
theorem aLv (s:List UInt8):∀ls,-1<=ixL s ls/\ixL s ls<ls.length:=by
 intro ls
 induction ls with
 | nil=>simp [ixL]
 | cons x r ih=>
  simp only [ixL,aSw]
  split
  ·omega
  ·split <;> omega
theorem aG1 {s:List UInt8}:∀{ls:List ByteArray} {k:Nat} {y:ByteArray},ls[k]?=some y->y.toList=s->(∀j z,j<k->ls[j]?=some z->z.toList≠s)->ixL s ls=k:=by
 intro ls
 induction ls with
 | nil=>intro k y h;simp at h
 | cons x r ih=>
  intro k y h1 h2 h3
  cases k with
  | zero=>
   simp at h1;subst h1;simp [ixL,h2]
  | succ k=>
   have h0:=h3 0 x (by omega) rfl;have:=ih (k:=k) (by simpa using h1) h2 (fun j z hj hz=>h3 (j+1) z (by omega) (by simpa using hz));simp only [ixL,if_neg h0,this];rw [if_neg (by omega)];simp
theorem aG2 {s:List UInt8}:∀{ls:List ByteArray},(∀j z,j<ls.length->ls[j]?=some z->z.toList≠s)->ixL s ls = -1:=by
 intro ls
 induction ls with
 | nil=>intro _;rfl
 | cons x r ih=>
  intro h;have h0:=h 0 x (by simp) rfl;have:=ih (fun j z hj hz=>h (j+1) z (by simp;omega) (by simpa using hz));simp [ixL,if_neg h0,this]
theorem aG3 (lo hi:Nat) (u:Value) (ls:List ByteArray) (s:ByteArray) (w:World) (hu:qU lo hi w u ls) (hl:ls.length<=2000000) :
  Z_ 169 #[u,.string s] w (.int .i64 (ixL s.toList ls)):=by
 obtain ⟨a,cap,rfl,HU⟩:=hu.open;have l1:=HU.le;have l2:=HU.cap;clear hu;go_enter func169,ntmps169;go_wp2
 go_loopw [8] (fun i wr=>∃k:Nat,k<=ls.length/\i = .int .i64 k/\wr=w/\∀j z,j<k->ls[j]?=some z->z.toList≠s.toList) (fun i _=>ls.length - (intOf i).toNat)
 case atStart=>exact ⟨0,by omega,rfl,rfl,fun j x h=>by omega⟩
 case round=>
  obtain ⟨k,hk,rfl,rfl,h1⟩:=hrel
  by_cases h2:k<ls.length
  ·obtain ⟨b,h6,rfl,h4,h5,hc⟩:=HU.at h2
   have h0:ls[k]?=some ls[k]:=by simp [h2]
   obtain ⟨y,hy⟩:∃y,ls[k]=y:=⟨_,rfl⟩
   rw [hy] at hc h0;clear hy
   by_cases he:(s.toList==y.toList)=true
   ·have hv:=hid (aG1 h0 (eq_of_beq he).symm h1)
    clear h1 h0;go_wp2;go_ret;exact ⟨by first|(rw [hv.out];done)|(rw [hv.out];rfl),rfl⟩
   ·have HN:Hid (∀j z,j<k+1->ls[j]?=some z->z.toList≠s.toList):=hid (fun j z hj hz=>by
     by_cases h3:j=k
     ·subst h3
      rw [h0] at hz;injection hz with hz;subst hz;intro e;exact he (by rw [e];simp)
     ·exact h1 j z (by omega) hz)
    clear h1 h0;go_wp2;go_roundw
    case rel=>exact ⟨k+1,by omega,by go_num,by trivial,HN⟩
    case measure=>simp [intOf];omega
  ·obtain rfl:k=ls.length:=by omega
   have hv:=hid (aG2 h1);clear h1;go_wp2;go_ret;exact ⟨by first|(rw [hv.out];done)|(rw [hv.out];rfl),rfl⟩
theorem xY (lo hi:Nat) (u:Value) (ls:List ByteArray) (s:ByteArray) (w:World) (hu:qU lo hi w u ls) (hl:ls.length<=2000000) :
  Z_ 194 #[u,.string s] w (.int .i64 (ixL s.toList ls)):=by
 obtain ⟨a,cap,rfl,HU⟩:=hu.open;have l1:=HU.le;have l2:=HU.cap;clear hu;go_enter func194,ntmps194;go_wp2
 go_loopw [9] (fun i wr=>∃k:Nat,k<=ls.length/\i = .int .i64 k/\wr=w/\∀j z,j<k->ls[j]?=some z->z.toList≠s.toList) (fun i _=>ls.length - (intOf i).toNat)
 case atStart=>exact ⟨0,by omega,rfl,rfl,fun j x h=>by omega⟩
 case round=>
  obtain ⟨k,hk,rfl,rfl,h1⟩:=hrel
  by_cases h2:k<ls.length
  ·obtain ⟨b,h6,rfl,h4,h5,hc⟩:=HU.at h2
   have h0:ls[k]?=some ls[k]:=by simp [h2]
   obtain ⟨y,hy⟩:∃y,ls[k]=y:=⟨_,rfl⟩
   rw [hy] at hc h0;clear hy
   by_cases he:(y.toList==s.toList)=true
   ·have hv:=hid (aG1 h0 (eq_of_beq he) h1)
    clear h1 h0;go_wp2;go_ret;exact ⟨by first|(rw [hv.out];done)|(rw [hv.out];rfl),rfl⟩
   ·have HN:Hid (∀j z,j<k+1->ls[j]?=some z->z.toList≠s.toList):=hid (fun j z hj hz=>by
     by_cases h3:j=k
     ·subst h3
      rw [h0] at hz;injection hz with hz;subst hz;intro e;exact he (by rw [e];simp)
     ·exact h1 j z (by omega) hz)
    clear h1 h0;go_wp2;go_roundw
    case rel=>exact ⟨k+1,by omega,by go_num,by trivial,HN⟩
    case measure=>simp [intOf];omega
  ·obtain rfl:k=ls.length:=by omega
   have hv:=hid (aG2 h1);clear h1;go_wp2;go_ret;exact ⟨by first|(rw [hv.out];done)|(rw [hv.out];rfl),rfl⟩
theorem xZ {s:ByteArray} {ls:List ByteArray} (h:ixL s.toList ls=i) (lo hi:Nat) (u:Value) (w:World) (hu:qU lo hi w u ls) (hl:ls.length<=2000000) :
  Z_ 169 #[u,.string s] w (.int .i64 i):=h▸aG3 lo hi u ls s w hu hl
theorem yB {s:ByteArray} {ls:List ByteArray} (h:ixL s.toList ls=i) (lo hi:Nat) (u:Value) (w:World) (hu:qU lo hi w u ls) (hl:ls.length<=2000000) :
  Z_ 194 #[u,.string s] w (.int .i64 i):=h▸xY lo hi u ls s w hu hl
def kZ (ls:List ByteArray):Int:=ixL (⟨#[99,111,108,111,114]⟩:ByteArray).toList ls
def hH (ls:List ByteArray):Int:=ixL (⟨#[97,108,112,104,97]⟩:ByteArray).toList ls
def Cod.shade (c:Cod) (g:Grd):List Int×List Int×Bool:=
 if (c.runB&&g.okB)=true/\0<=kZ c.ls/\(c.res g).getD (kZ c.ls).toNat []≠[]/\(hH c.ls<0\/(c.res g).getD (hH c.ls).toNat []≠[]) then
  (((c.res g).getD (kZ c.ls).toNat []).map col,if hH c.ls<0 then aR5 g.m 256 else ((c.res g).getD (hH c.ls).toNat []).map col,true)
 else ([],[],false)
theorem Cod.res_small {c:Cod} {g:Grd} (h:(c.runB&&g.okB)=true):(c.res g).length=c.ls.length/\∀r∈c.res g,r.length<=64:=by
 unfold Cod.res;rw [if_pos h];simp only [aRy] at h;obtain ⟨h1,h2⟩:=h;obtain ⟨n,hn,hm,h5,h0,ht,h4,hf⟩:=g.parts h2;unfold Cod.runB at h1;simp only [aRy,aSs] at h1;have h3:=aG0 (t:=g.t) (f:=g.f) (tm:=g.tm) hm hf h4 c.xs [] (aR5 c.ls.length []) h1.2 (nS.start h1.1)
 have e:c.out g=lQ n g.m g.f g.tm g.t c.xs [] (aR5 c.ls.length []):=by unfold Cod.out;rw [hn];rfl
 rw [e];have h6:n*n<=8*8:=aSi h0 h0;exact ⟨h3.1,fun r hr=>by have:=h3.2 r hr;omega⟩
theorem pI {P:Prop} [Decidable P] {A:List Int×List Int×Bool} (h:(if P then A else ([],[],false))=(X,Y,b)) (hP : ¬P):X=[]/\Y=[]/\b=false:=by
 rw [if_neg hP] at h;simp only [Prod.mk.injEq] at h;exact ⟨h.1.symm,h.2.1.symm,h.2.2.symm⟩
structure aNl (m:Nat) (R:Bool) (S:List (List Int)) (i j:Int) (X Y:List Int) (b:Bool):Prop where
 all:(R=false/\X=[]/\Y=[]/\b=false) \/
  (R=true/\i = -1/\X=[]/\Y=[]/\b=false) \/
  (R=true/\∃k:Nat,i=k/\k<=2000000/\S[k]?=some []/\X=[]/\Y=[]/\b=false) \/
  (R=true/\∃(k:Nat) (r:List Int),i=k/\k<=2000000/\S[k]?=some r/\r≠[]/\r.length<=64 /\
   ((∃l:Nat,j=l/\l<=2000000/\S[l]?=some []/\X=[]/\Y=[]/\b=false)\/(j = -1/\X=r.map col/\Y=aR5 m 256/\b=true) \/
    ∃(l:Nat) (q:List Int),j=l/\l<=2000000/\S[l]?=some q/\q≠[]/\q.length<=64/\X=r.map col/\Y=q.map col/\b=true))
theorem uT {c:Cod} {g:Grd} {R:Bool} {S:List (List Int)} {j:Int} (hL:c.small) (hs:c.shade g=(X,Y,b)) (eR:(c.runB&&g.okB)=R) (eS:c.res g=S) (ei:kZ c.ls=i) (ej:hH c.ls=j):aNl g.m R S i j X Y b:=by
 have bi:=aLv (⟨#[99,111,108,111,114]⟩:ByteArray).toList c.ls;have bj:=aLv (⟨#[97,108,112,104,97]⟩:ByteArray).toList c.ls;have hl:=hL.2;rw [show ixL (⟨#[99,111,108,111,114]⟩:ByteArray).toList c.ls=i from ei] at bi;rw [show ixL (⟨#[97,108,112,104,97]⟩:ByteArray).toList c.ls=j from ej] at bj;unfold Cod.shade at hs;rw [eR,eS,ei,ej] at hs;refine ⟨?_⟩
 cases R with
 | false=>exact .inl ⟨rfl,pI hs (fun h=>by cases h.1)⟩
 | true=>
  right
  have hz:=Cod.res_small eR;rw [eS] at hz
  by_cases h1:i<0
  ·exact .inl ⟨rfl,by omega,pI hs (fun h=>by have:=h.2.1;omega)⟩
  ·right
   obtain ⟨k,rfl⟩:∃k:Nat,i=k:=⟨i.toNat,by omega⟩
   simp only [aSc] at hs
   have hk:k<S.length:=by omega
   have gk:S.getD k []=S[k]:=by simp [aUn,hk]
   have sk:S[k]?=some S[k]:=by simp [hk]
   rw [gk] at hs
   by_cases h2:S[k]=[]
   ·exact .inl ⟨rfl,k,rfl,by omega,h2▸sk,pI hs (fun h=>h.2.2.1 h2)⟩
   ·refine .inr ⟨rfl,k,S[k],rfl,by omega,sk,h2,hz.2 _ (aR2 hk),?_⟩
    by_cases h3:j<0
    ·rw [if_pos ⟨by trivial,by omega,h2,.inl h3⟩,if_pos h3] at hs
     simp only [Prod.mk.injEq] at hs;exact .inr (.inl ⟨by omega,hs.1.symm,hs.2.1.symm,hs.2.2.symm⟩)
    ·obtain ⟨l,rfl⟩:∃l:Nat,j=l:=⟨j.toNat,by omega⟩
     simp only [aSc] at hs
     have h0:l<S.length:=by omega
     have gl:S.getD l []=S[l]:=by simp [aUn,h0]
     have sl:S[l]?=some S[l]:=by simp [h0]
     rw [gl] at hs
     by_cases h4:S[l]=[]
     ·exact .inl ⟨l,rfl,by omega,h4▸sl,pI hs (fun h=>by rcases h.2.2.2 with h|h;exact h3 h;exact h h4)⟩
     ·rw [if_pos ⟨by trivial,by omega,h2,.inr h4⟩,if_neg h3] at hs
      simp only [Prod.mk.injEq] at hs;exact .inr (.inr ⟨l,S[l],rfl,by omega,sl,h4,hz.2 _ (aR2 h0),hs.1.symm,hs.2.1.symm,hs.2.2.symm⟩)
theorem xT.open1 {S:List (List Int)} (h:xT lo w v S) (hn:1<=S.length):∃b cap,v = .slice (some ⟨b,0,none⟩) S.length cap/\b<w.heap.size/\S.length<=cap/\cap<=9223372036854775807/\∀k r,S[k]?=some r->∃ru,w.cell? ⟨b,k,none⟩=some ru/\aB lo w ru r/\(r=[]->ru = .slice none 0 0):=by
 obtain ⟨us,h1,h2,h3,h4⟩:=h;have hl:=h2.len;obtain ⟨b,cap,rfl,h5,h0⟩:=ownsRow.form1 h1 (by omega);obtain ⟨k1,k2⟩:=ownsRow.caps h1;refine ⟨b,cap,by rw [hl],h0,by omega,k2,fun k r hr=>?_⟩
 have hk:k<us.length:=by have:=(aRk.1 hr).1;omega
 have hu:us[k]?=some us[k]:=by simp [hk]
 refine ⟨us[k],?_,h2.own k us[k] r hu hr,fun e=>h4 k us[k] hu (e▸hr)⟩;have:=aTt h1 k (by omega);rw [hu] at this;exact this
theorem aB.someAt (h:aB lo w v xs) (hx:xs≠[]):∃g c,v = .slice (some ⟨g,0,none⟩) xs.length c/\g<w.heap.size:=by
 rcases h.1.2 with ⟨rfl,h4⟩|⟨g,cap,cur,rfl,hb,hg,hc,hm,hs,ht⟩
 ·exact absurd (aVc.1 h4) hx
 ·exact ⟨g,cap,rfl,(aR3.1 hg).1⟩
theorem gE.nil (lo hi:Nat) (w:World):gE lo hi w (.slice none 0 0) []:=⟨⟨aVd _ _ _ _,fun x h=>by cases h⟩,fun k h=>by cases h⟩
theorem aEq {g:Grd} (hg:g.n=n) (c:Int) (g1:Value) (g2 g3:Int) (g4:Value) (w:World) (hm:(n:Int)*n=g.m) (hn:g.m<=1000000) (hc:I64 c) :
  Calls aRn 171 #[c,.agg #[g.n,g1,g2,g3,g4]] w fun e w'=>∃v,e = .returned v/\aB w.heap.size w' v (aR5 g.m c)/\Ext w w':=by
 rw [hg];exact qE c n g.m g1 g2 g3 g4 w hm hn hc
theorem nG (h:Ext w w'):∃r1 r2,Ending.returned (.tuple #[.slice none 0 0,.slice none 0 0,.bool false]) = .returned (.tuple #[r1,r2,.bool false])/\∃h,w.heap.size<=h/\h<=w'.heap.size/\gE w.heap.size h w' r1 []/\gE h w'.heap.size w' r2 []/\Ext w w':=
 ⟨_,_,rfl,w'.heap.size,h.size,aRi _,gE.nil _ _ _,gE.nil _ _ _,h⟩
theorem yC (lo hi lo' hi':Nat) (v u:Value) (c:Cod) (g:Grd) (w:World) (hs:c.shade g=(X,Y,b)) (hv:c.R lo hi w v) (hh:hi<=w.heap.size) (hu:g.R lo' hi' w u) (hh':hi'<=w.heap.size) (hL:c.small) :
  Calls aRn 107 #[v,u] w fun e w'=>∃r1 r2,e = .returned (.tuple #[r1,r2,.bool b])/\∃h,w.heap.size<=h/\h<=w'.heap.size/\gE w.heap.size h w' r1 X/\gE h w'.heap.size w' r2 Y/\Ext w w':=by
 obtain ⟨R,eR⟩:∃R,(c.runB&&g.okB)=R:=⟨_,rfl⟩
 obtain ⟨S,eS⟩:∃S,c.res g=S:=⟨_,rfl⟩
 obtain ⟨i,ei⟩:∃i,kZ c.ls=i:=⟨_,rfl⟩
 obtain ⟨j,ej⟩:∃j,hH c.ls=j:=⟨_,rfl⟩
 have hn:R=true->∃n:Nat,g.n=n/\(n:Int)*n=g.m/\g.m<=64:=by
  intro h;rw [h] at eR;simp only [aRy] at eR;obtain ⟨n,hn,hm,x8,h9,-⟩:=g.parts eR.2;have h6:n*n<=8*8:=aSi h9 h9;exact ⟨n,hn,by rw [<-hm];simp,by omega⟩
 have CS:=hid (uT hL hs eR eS ei ej);have HC:=hid hv;have HG:=hid hu;have ER:=hid eR;have ES:=hid eS;have EI:=hid ei;have EJ:=hid ej;have HL:=hid hL;have HN:=hid hn;have hl:c.ls.length<=1048576:=hL.2;obtain ⟨iu,lu,rfl,-,h8⟩:=hv;have h5:=hid h8;obtain ⟨pu,tu,rfl,_⟩:=hu;clear hs eR eS ei ej hn h8 hL;have en:∀(w:World) (a:Option Addr) (n c:Nat),(binOp .eql 24 (.slice a n c) (.slice none 0 0)).run aRn w = .ok (.bool a.isNone) w:=fun w a n c=>Lib.run_eql_slice_nil w _ _ a n c 0 0 underlying24;go_enter func107,ntmps107;go_wp2_with fail;refine (aCt lo hi lo' hi' _ _ c g _ ER ES (HC.ext hh X_) (by simp;omega) (HG.ext hh' X_) (by simp;omega) HL).mono ?_;rintro e w1 ⟨r,rfl,O1,x1⟩;have BP:=hid (((Bx.made w #[iu,lu] _).ext ((aRu _).alloc _)).ext x1);have BQ:=hid ((Bx.madeAt (B:=w.heap.size+1) (w.alloc _) #[g.n,pu,g.tm,g.t.log,tu] _ (by simp)).ext x1);have E:Ext w w1:=aRo X_ x1;have z1:=E.size;have q7:=O1;obtain ⟨x9,h0,h7,-⟩:=q7;obtain ⟨ra,rc,q6⟩:=ownsRow.form h0;rw [h7.len] at q6;subst q6;have OR:=hid O1;clear x1 O1 h0 h7;have p:=BP.lt;obtain ⟨p0,p1⟩:=BP.q2;have q:=BQ.lt;obtain ⟨q0,q1,q2,q3,q4⟩:=BQ.q5;go_wp2_with fail;refine aA [([0,1,3,4],2),([],5),([6],7)] 7 w1.heap.size (by kernel_rfl) (by kernel_rfl) ?_;refine st_ fun K hK=>?_;go_wp2_with fail;refine z_ (xZ EI lo hi _ _ (h5.ext hh E.drew) (by omega)) ?_;go_wp2_with fail;refine k_ hK ?_;clear hK K;refine st_ fun K hK=>?_;go_wp2_with fail;refine z_ (xZ EJ lo hi _ _ (h5.ext hh E.drew) (by omega)) ?_;go_wp2_with fail;refine k_ hK ?_;clear hK K;refine st_ fun K hK=>?_;go_wp2_with fail;go_wp2_with fail;refine l_ hK ?_;clear hK K;refine aC ?_
 rcases CS.all with ⟨rfl,rfl,rfl,rfl⟩|⟨rfl,rfl,rfl,rfl,rfl⟩|⟨rfl,k,rfl,hk,sk,rfl,rfl,rfl⟩|⟨rfl,k,a,rfl,hk,sk,ha,la,hrest⟩
 ·go_wp2
  refine bodyPost_ret (v:=.tuple #[.slice none 0 0,.slice none 0 0,.bool false]) (by simp [results,results107,go_sem]) rfl (nG E.drew)
 ·go_wp2
  refine bodyPost_ret (v:=.tuple #[.slice none 0 0,.slice none 0 0,.bool false]) (by simp [results,results107,go_sem]) rfl (nG E.drew)
 ·have SK:=hid sk
  have x3:k<S.length:=(aRk.1 sk).1;obtain ⟨rb,x5,h2,q8,q9,x0,h1⟩:=OR.open1 (by omega);simp only [aSb] at h2;obtain ⟨rfl,-,rfl⟩:=h2;obtain ⟨ru,c0,-,e0⟩:=h1 k _ sk;obtain rfl:=e0 rfl;clear sk h1 e0;go_wp2;refine bodyPost_ret (v:=.tuple #[.slice none 0 0,.slice none 0 0,.bool false]) (by simp [results,results107,go_sem]) rfl (nG E.drew)
 have SK:=hid sk;have x3:k<S.length:=(aRk.1 sk).1;obtain ⟨rb,x5,h2,q8,q9,x0,h1⟩:=OR.open1 (by omega);simp only [aSb] at h2;obtain ⟨rfl,-,rfl⟩:=h2;obtain ⟨ru,c0,o0,-⟩:=h1 k _ sk;obtain ⟨ga,ca,rfl,x6⟩:=o0.someAt ha;have O0:=hid (o0.low (lo':=w.heap.size) (by simp <;> omega));clear o0;obtain ⟨n,gn,h4,hm⟩:=HN rfl
 rcases hrest with ⟨l,rfl,hl2,sl,rfl,rfl,rfl⟩|⟨rfl,rfl,rfl,rfl⟩|⟨l,q,rfl,hl2,sl,hq,lq,rfl,rfl,rfl⟩
 ·have SL:=hid sl
  have x4:l<S.length:=(aRk.1 sl).1;obtain ⟨rw,c1,-,e1⟩:=h1 l _ sl;obtain rfl:=e1 rfl;clear sk sl h1 e1 h4 gn;go_wp2;refine bodyPost_ret (v:=.tuple #[.slice none 0 0,.slice none 0 0,.bool false]) (by simp [results,results107,go_sem]) rfl (nG E.drew)
 ·clear sk h1
  have GN:=hid gn;have NN:=hid h4;clear gn h4;go_wp2_with fail;refine aA [([0,1,2,3,5],4),([],6),([7,8],9)] 9 w1.heap.size (by kernel_rfl) (by kernel_rfl) ?_;refine st_ fun K hK=>?_;go_wp2_with fail;refine (mT w.heap.size w1.heap.size _ a _ (O0.ints.ext (aRi _) X_) (by simp) (by omega)).mono ?_;rintro e w3 ⟨r1,rfl,o1,x1⟩;have y3:Ext w1 w3:=aRo X_ x1;have z3:=y3.size;go_wp2_with fail;refine hK _ _ (.inr (y3.same (aRi _))) ?_;clear hK K;refine st_ fun K hK=>?_;go_wp2_with fail;refine (aEq GN 256 _ _ _ _ _ NN (by omega) ⟨by omega,by omega⟩).mono ?_;rintro e w4 ⟨r2,rfl,o2,x2⟩;have y4:Ext w1 w4:=y3.trans (aRo X_ x2);have h3:Ext w3 w4:=aRo X_ x2;have z4:=h3.size;go_wp2_with fail;refine hK _ _ (.inr (y4.same (aRi _))) ?_;clear hK K;refine st_ fun K hK=>?_;go_wp2_with fail;go_wp2_with fail;refine l_ hK ?_;clear hK K;refine aC ?_;go_wp2;refine bodyPost_ret (v:=.tuple #[r1,r2,.bool true]) (by simp [results,results107,go_sem]) rfl ⟨r1,r2,rfl,w3.heap.size,by omega,z4,?_,?_,E.trans y4⟩
  ·exact (o1.low (by simp;omega)).o.kp (h3.kp (aRi _))
  ·exact (o2.low (by simp)).o
 ·have SL:=hid sl
  have x4:l<S.length:=(aRk.1 sl).1;obtain ⟨rw,c1,o9,-⟩:=h1 l _ sl;obtain ⟨gb,cb,rfl,x7⟩:=o9.someAt hq;have O9:=hid (o9.low (lo':=w.heap.size) (by simp <;> omega));clear sk sl h1 o9 h4 gn;go_wp2_with fail;refine aA [([0,1,2,3,5,6,7,8],4),([],9),([10,11],12)] 12 w1.heap.size (by kernel_rfl) (by kernel_rfl) ?_;refine st_ fun K hK=>?_;go_wp2_with fail;refine (mT w.heap.size w1.heap.size _ a _ (O0.ints.ext (aRi _) X_) (by simp) (by omega)).mono ?_;rintro e w3 ⟨r1,rfl,o1,x1⟩;have y3:Ext w1 w3:=aRo X_ x1;have z3:=y3.size;go_wp2_with fail;refine hK _ _ (.inr (y3.same (aRi _))) ?_;clear hK K;refine st_ fun K hK=>?_;go_wp2_with fail;refine (mT w.heap.size w1.heap.size _ q _ (O9.ints.ext (aRi _) (y3.trans X_)) (by first|omega|(simp;omega)) (by omega)).mono ?_;rintro e w4 ⟨r2,rfl,o2,x2⟩;have y4:Ext w1 w4:=y3.trans (aRo X_ x2);have h3:Ext w3 w4:=aRo X_ x2;have z4:=h3.size;go_wp2_with fail;refine hK _ _ (.inr (y4.same (aRi _))) ?_;clear hK K;refine st_ fun K hK=>?_;go_wp2_with fail;go_wp2_with fail;refine l_ hK ?_;clear hK K;refine aC ?_;go_wp2;refine bodyPost_ret (v:=.tuple #[r1,r2,.bool true]) (by simp [results,results107,go_sem]) rfl ⟨r1,r2,rfl,w3.heap.size,by omega,z4,?_,?_,E.trans y4⟩
  ·exact (o1.low (by simp;omega)).o.kp (h3.kp (aRi _))
  ·exact (o2.low (by simp)).o
theorem aS.nil0 (lo hi:Nat) (w:World):aS lo hi w (.slice none 0 0) []:=⟨none,0,rfl,aRi _,by unfold maxLen;omega,fun i x h=>by simp at h⟩
theorem lB (h:Ext w w'):∃r1 r2,Ending.returned (.tuple #[.slice none 0 0,.slice none 0 0,.bool false]) = .returned (.tuple #[r1,r2,.bool false])/\aS w.heap.size w'.heap.size w' r1 []/\aS w.heap.size w'.heap.size w' r2 []/\Ext w w':=
 ⟨_,_,rfl,aS.nil0 _ _ _,aS.nil0 _ _ _,h⟩
theorem yD (lo hi lo' hi':Nat) (v u:Value) (c:Cod) (g:Grd) (w:World) (hs:c.shade g=(X,Y,b)) (hv:c.R lo hi w v) (hh:hi<=w.heap.size) (hu:g.R lo' hi' w u) (hh':hi'<=w.heap.size) (hL:c.small) :
  Calls aRn 142 #[v,u] w fun e w'=>∃r1 r2,e = .returned (.tuple #[r1,r2,.bool b])/\aS w.heap.size w'.heap.size w' r1 X/\aS w.heap.size w'.heap.size w' r2 Y/\Ext w w':=by
 obtain ⟨R,eR⟩:∃R,(c.runB&&g.okB)=R:=⟨_,rfl⟩
 obtain ⟨S,eS⟩:∃S,c.res g=S:=⟨_,rfl⟩
 obtain ⟨i,ei⟩:∃i,kZ c.ls=i:=⟨_,rfl⟩
 obtain ⟨j,ej⟩:∃j,hH c.ls=j:=⟨_,rfl⟩
 have hn:R=true->g.m<=64:=by
  intro h;rw [h] at eR;simp only [aRy] at eR;obtain ⟨n,hn,hm,z0,h9,-⟩:=g.parts eR.2;have h6:n*n<=8*8:=aSi h9 h9;omega
 have CS:=hid (uT hL hs eR eS ei ej);have HC:=hid hv;have HG:=hid hu;have ER:=hid eR;have ES:=hid eS;have EI:=hid ei;have EJ:=hid ej;have HL:=hid hL;have HN:=hid hn;have hl:c.ls.length<=1048576:=hL.2;obtain ⟨iu,lu,rfl,-,h8⟩:=hv;have h5:=hid h8;obtain ⟨pu,tu,rfl,-,-,-,hp,-⟩:=hu;obtain ⟨pa,pc,rfl,HP⟩:=hp.open;have p1:=HP.le;have p2:=HP.cap;clear hs eR eS ei ej hn h8 hL hp HP;go_enter func142,ntmps142;go_wp2_with fail;refine (aCu lo hi lo' hi' _ _ c g _ ER ES (HC.ext hh X_) (by simp;omega) (HG.ext hh' X_) (by simp;omega) HL).mono ?_;rintro e w1 ⟨r,rfl,O1,x1⟩;have BP:=hid (((Bx.made w #[iu,lu] _).ext ((aRu _).alloc _)).ext x1);have BQ:=hid ((Bx.madeAt (B:=w.heap.size+1) (w.alloc _) #[g.n,.slice pa g.m pc,g.tm,g.t.log,tu] _ (by simp)).ext x1);have E:Ext w w1:=aRo X_ x1;have z1:=E.size;obtain ⟨ra,rc,rfl,h3⟩:=O1.open;have r1:=h3.le;have r2:=h3.cap;have HA:=hid h3;clear x1 O1 h3;have p:=BP.lt;obtain ⟨p0,p1⟩:=BP.q2;have q:=BQ.lt;obtain ⟨q0,q1,q2,q3,q4⟩:=BQ.q5;go_wp2_with fail;refine z_ (yB EI lo hi _ _ (h5.ext hh E) (by omega)) ?_;go_wp2_with fail;refine z_ (yB EJ lo hi _ _ (h5.ext hh E) (by omega)) ?_
 rcases CS.all with ⟨rfl,rfl,rfl,rfl⟩|⟨rfl,rfl,rfl,rfl,rfl⟩|⟨rfl,k,rfl,hk,sk,rfl,rfl,rfl⟩|⟨rfl,k,a,rfl,hk,sk,ha,la,hrest⟩
 ·go_wp2
  refine bodyPost_ret (v:=.tuple #[.slice none 0 0,.slice none 0 0,.bool false]) (by simp [results,results142,go_sem]) rfl (lB E)
 ·go_wp2
  refine bodyPost_ret (v:=.tuple #[.slice none 0 0,.slice none 0 0,.bool false]) (by simp [results,results142,go_sem]) rfl (lB E)
 ·have q9:k<S.length:=(aRk.1 sk).1
  obtain ⟨rb,ro,ru,rfl,q6,q7,c0,i0⟩:=HA.cell k _ sk;obtain ⟨ua,uc,rfl,-⟩:=i0.open;clear sk i0;go_wp2;refine bodyPost_ret (v:=.tuple #[.slice none 0 0,.slice none 0 0,.bool false]) (by simp [results,results142,go_sem]) rfl (lB E)
 have q9:k<S.length:=(aRk.1 sk).1;obtain ⟨rb,ro,ru,rfl,q6,q7,c0,i0⟩:=HA.cell k _ sk;obtain ⟨ua,uc,rfl,x4⟩:=i0.open;have I0:=hid i0;have z2:((a.length:Int)==0)=false:=beq_eq_false_iff_ne.2 (fun e=>ha (aVc.1 (by omega)));have hm:=HN.out rfl;clear sk i0 ha x4
 rcases hrest with ⟨l,rfl,hl2,sl,rfl,rfl,rfl⟩|⟨rfl,rfl,rfl,rfl⟩|⟨l,q,rfl,hl2,sl,hq,lq,rfl,rfl,rfl⟩
 ·have x0:l<S.length:=(aRk.1 sl).1
  obtain ⟨x5,x6,x7,h2,-,-,c1,i1⟩:=HA.cell l _ sl;simp only [aRl,Addr.mk.injEq,and_true] at h2;obtain ⟨rfl,rfl⟩:=h2;obtain ⟨ub,x8,rfl,-⟩:=i1.open;clear sl i1;go_wp2;refine bodyPost_ret (v:=.tuple #[.slice none 0 0,.slice none 0 0,.bool false]) (by simp [results,results142,go_sem]) rfl (lB E)
 ·go_wp2
  go_loopw [11,54] (fun v i wr=>∃n:Nat,n<=g.m/\i = .int .i64 n/\aB w1.heap.size wr v (aR5 n 256)/\Ext w1 wr) (fun _ i _=>g.m - (intOf i).toNat)
  case atStart=>exact ⟨0,by omega,rfl,aB.lit0 w1,X_⟩
  obtain ⟨n,hn,rfl,h0,hx⟩:=hrel;obtain ⟨av,cv,rfl,q8⟩:=h0.form
  have h1:(aR5 n (256:Int)).length=n:=by simp
  rw [h1] at h0 ⊢
  by_cases x3:n<g.m
  ·have HO:=hid h0
   have HX:=hid hx;have h4:=hid h1;have zs:=hx.size;clear h0 hx h1;go_wp2_with (at_builtin;refine aU _ rfl _ _ rfl w1.heap.size _ _ rfl (HO.alloc _) 256 ⟨by omega,by omega⟩ wr.heap.size rfl (by simp [go_sem]) (by rw [h4];omega) (by simp;omega) ?_;intro v' w7 h0 hg);rw [<-bAg] at h0;go_wp2;go_roundw
   case rel=>exact ⟨n+1,by omega,by go_num,h0,aSt (HX.alloc _) hg (fun g e=>(HO.lt g e).1)⟩
   case measure=>simp [intOf];omega
  obtain rfl:n=g.m:=by omega
  have HO:=hid h0;have zs:=hx.size;rw [<-hx.cells.1 rb _ (by omega)] at c0;have HX:=hid hx;clear h0 hx;go_wp2_with fail;refine (mU 0 w1.heap.size _ a _ ((I0.ext (aRi _) HX).wide (aS1 _) (aRi _)) zs (by omega)).mono ?_;rintro e w3 ⟨r1,rfl,o1,x1⟩;go_wp2;refine bodyPost_ret (v:=.tuple #[r1,.slice av g.m cv,.bool true]) (by simp [results,results142,go_sem]) rfl ⟨r1,_,rfl,o1.ints.wide (by omega) (aRi _),?_,E.trans (HX.trans x1)⟩;exact (HO.ints.ext (aRi _) x1).wide (by omega) x1.size
 ·have x0:l<S.length:=(aRk.1 sl).1
  obtain ⟨x5,x6,x7,h2,-,-,c1,i1⟩:=HA.cell l _ sl;simp only [aRl,Addr.mk.injEq,and_true] at h2;obtain ⟨rfl,rfl⟩:=h2;obtain ⟨ub,x8,rfl,-⟩:=i1.open;have I1:=hid i1;have z4:((q.length:Int)==0)=false:=beq_eq_false_iff_ne.2 (fun e=>hq (aVc.1 (by omega)));clear sl i1 hq;go_wp2
  go_loopw [11,54] (fun v i wr=>∃n:Nat,n<=g.m/\i = .int .i64 n/\aB w1.heap.size wr v (aR5 n 256)/\Ext w1 wr) (fun _ i _=>g.m - (intOf i).toNat)
  case atStart=>exact ⟨0,by omega,rfl,aB.lit0 w1,X_⟩
  obtain ⟨n,hn,rfl,h0,hx⟩:=hrel;obtain ⟨av,cv,rfl,q8⟩:=h0.form
  have h1:(aR5 n (256:Int)).length=n:=by simp
  rw [h1] at h0 ⊢
  by_cases x3:n<g.m
  ·have HO:=hid h0
   have HX:=hid hx;have h4:=hid h1;have zs:=hx.size;clear h0 hx h1;go_wp2_with (at_builtin;refine aU _ rfl _ _ rfl w1.heap.size _ _ rfl (HO.alloc _) 256 ⟨by omega,by omega⟩ wr.heap.size rfl (by simp [go_sem]) (by rw [h4];omega) (by simp;omega) ?_;intro v' w7 h0 hg);rw [<-bAg] at h0;go_wp2;go_roundw
   case rel=>exact ⟨n+1,by omega,by go_num,h0,aSt (HX.alloc _) hg (fun g e=>(HO.lt g e).1)⟩
   case measure=>simp [intOf];omega
  obtain rfl:n=g.m:=by omega
  have HO:=hid h0;have zs:=hx.size;rw [<-hx.cells.1 rb _ (by omega)] at c0;rw [<-hx.cells.1 rb _ (by omega)] at c1;have HX:=hid hx;clear h0 hx;go_wp2_with fail;refine (mU 0 w1.heap.size _ q _ ((I1.ext (aRi _) HX).wide (aS1 _) (aRi _)) zs (by omega)).mono ?_;rintro e w3 ⟨r2,rfl,o2,x2⟩;have X3:Ext w1 w3:=HX.trans x2;rw [<-x2.cells.1 rb _ (by omega)] at c0;have z3:=x2.size;have h7:=hid X3;have x9:=hid x2;clear c1 x2 X3;go_wp2_with fail;refine (mU 0 w1.heap.size _ a _ ((I0.ext (aRi _) h7).wide (aS1 _) (aRi _)) (by omega) (by omega)).mono ?_;rintro e w4 ⟨r1,rfl,o1,x1⟩;go_wp2;refine bodyPost_ret (v:=.tuple #[r1,r2,.bool true]) (by simp [results,results142,go_sem]) rfl ⟨r1,r2,rfl,o1.ints.wide (by omega) (aRi _),?_,E.trans (h7.trans x1)⟩;exact (o2.ints.ext (aRi _) x1).wide (by omega) x1.size
theorem yE:∀n:Nat,((List.range n).map fun _=>0).sum=0
 | 0=>rfl
 | n+1=>by rw [aT3,aTp,aVt,yE n];rfl
theorem aG4 (w:Nat->Nat):∀(n e:Nat),e<n->((aR6 n).map fun j=>if e=j then w j else 0).sum=w e:=by
 intro n
 induction n with
 | zero=>intro e h;omega
 | succ n ih=>
  intro e h;rw [aT3,aTp,aVt]
  by_cases he:e=n
  ·subst he
   have:((aR6 e).map fun j=>if e=j then w j else 0).sum=0:=by
    rw [aUw (g:=fun _=>0) fun j hj=>if_neg (by have:=aSq.1 hj;omega)];exact yE e
   rw [this];simp
  ·rw [ih e (by omega)]
   simp [he]
theorem aId {α : Type} (f g : α->Nat):∀L:List α,(L.map fun x=>f x+g x).sum=(L.map f).sum+(L.map g).sum
 | []=>rfl
 | x::r=>by simp only [aTr,aV0,aId f g r];omega
theorem aQr (w:Nat->Nat) (n:Nat):∀E:List Nat,(∀e∈E,e<n)->(E.map w).sum=((aR6 n).map fun j=>(E.countP fun e=>e==j)*w j).sum:=by
 intro E
 induction E with
 | nil=>
  intro _
  have e:((aR6 n).map fun j=>(([]:List Nat).countP fun e=>e==j)*w j)=(aR6 n).map fun _=>0:=aUw fun j _=>by simp
  rw [e,yE]
  rfl
 | cons e r ih=>
  intro h;rw [aTr,aV0,ih fun x hx=>h x (by simp [hx]),<-aG4 w n e (h e (by simp)),<-aId]
  congr 1
  refine aUw fun j _=>?_;rw [aZi]
  by_cases hj:e=j
  ·subst hj;simp [aT1];omega
  ·simp [hj]
def Prg.refs (p:Prg):List Nat:=(p.ns.flatMap fun x=>x.args.map Int.toNat)++p.gs.map fun a=>a.root.toNat
theorem aIe (j:Nat):∀xs:List Nd,((xs.flatMap fun x=>x.args.map Int.toNat).countP fun e=>e==j)=aAb j xs
 | []=>rfl
 | x::r=>by
  rw [aTk,bAu,aIe j r];simp only [aAb,aTr,aV0]
  congr 1
  unfold xG;rw [List.countP_map]
  rfl
theorem aIf (j:Nat):∀xs:List Asg,((xs.map fun a=>a.root.toNat).countP fun e=>e==j)=aAc j xs
 | []=>rfl
 | x::r=>by
  rw [aTr,aZi,aIf j r];simp only [aAc,aTr,aV0]
  by_cases h:x.root.toNat=j <;> simp [h] <;> omega
theorem Prg.V.refs_lt {p:Prg} (h:p.V):∀e∈p.refs,e<p.ns.length:=by
 intro e he;unfold Prg.refs at he
 rcases aTz.1 he with he|he
 ·obtain ⟨x,hx,he⟩:=aV6.1 he
  obtain ⟨a,ha,rfl⟩:=aTl.1 he;obtain ⟨k,hk,rfl⟩:=aSj hx;have:=(h.nd k _ (by simp [hk])).2 a ha;omega
 ·obtain ⟨a,ha,rfl⟩:=aTl.1 he
  obtain ⟨k,hk,rfl⟩:=aSj ha;have:=(h.ag k p.gs[k] (by simp [hk])).2;omega
theorem Prg.V.sum_refs {p:Prg} (h:p.V) (w:Nat->Nat):(p.refs.map w).sum=((aR6 p.ns.length).map w).sum:=by
 rw [aQr w p.ns.length p.refs h.refs_lt]
 congr 1
 refine aUw fun j hj=>?_;have h1:=h.one j (aSq.1 hj)
 have:(p.refs.countP fun e=>e==j)=1:=by
  unfold Prg.refs;rw [bAu,aIe,aIf];exact h1
 rw [this,aT2]
theorem Prg.V.gs_len {p:Prg} (h:p.V):p.gs.length<=60:=by
 have h1:=h.sum_refs (fun _=>1);have h2:=h.len;unfold Prg.refs at h1;simp only [aTp,aVt,aYw] at h1
 have e1:(p.gs.map ((fun _=>1) ∘ fun a:Asg=>a.root.toNat)).sum=p.gs.length:=by
  have:∀xs:List Asg,(xs.map ((fun _=>1) ∘ fun a:Asg=>a.root.toNat)).sum=xs.length:=fun xs=>by
   induction xs with
   | nil=>rfl
   | cons x r ih=>rw [aTr,aV0,ih];simp;omega
  exact this _
 have e2:((aR6 p.ns.length).map fun _=>1).sum=p.ns.length:=by
  have:∀n:Nat,((aR6 n).map fun _=>1).sum=n:=fun n=>by
   induction n with
   | zero=>rfl
   | succ n ih=>rw [aT3,aTp,aVt,ih];rfl
  exact this _
 rw [e1,e2] at h1;omega
theorem Prg.V.sum_roots {p:Prg} (h:p.V) (w:Nat->Nat) (hw:∀(j:Nat) (x:Nd),p.ns[j]?=Option.some x->w j=1+(x.args.map fun a=>w a.toNat).sum):(p.gs.map fun a=>w a.root.toNat).sum=p.ns.length:=by
 have h1:=h.sum_refs w
 have e1:((aR6 p.ns.length).map w).sum=p.ns.length+(p.ns.map fun x=>(x.args.map fun a=>w a.toNat).sum).sum:=by
  have:∀(xs:List Nd) (o:Nat),(∀(j:Nat) (x:Nd),xs[j]?=Option.some x->w (o+j)=1+(x.args.map fun a=>w a.toNat).sum)->((aR6 xs.length).map fun j=>w (o+j)).sum=xs.length+(xs.map fun x=>(x.args.map fun a=>w a.toNat).sum).sum:=by
   intro xs
   induction xs with
   | nil=>intro o _;rfl
   | cons x r ih=>
    intro o ho;rw [aSw,List.range_succ_eq_map,aTr,aV0,aYw,aTr,aV0]
    have:=ih (o+1) fun j y hy=>by
     have:=ho (j+1) y (by simpa using hy);rw [<-this]
     congr 1
     omega
    have e:(aR6 r.length).map ((fun j=>w (o+j)) ∘ Nat.succ)=(aR6 r.length).map fun j=>w (o+1+j):=aUw fun j _=>by
     show w (o+(j+1))=w (o+1+j)
     congr 1
     omega
    rw [e,this];have h0:=ho 0 x (by simp);rw [h0];omega
  have:=this p.ns 0 fun j x hx=>by rw [aSf];exact hw j x hx
  simpa using this
 have e2:∀xs:List Nd,((xs.flatMap fun x=>x.args.map Int.toNat).map w).sum=(xs.map fun x=>(x.args.map fun a=>w a.toNat).sum).sum:=fun xs=>by
  induction xs with
  | nil=>rfl
  | cons x r ih=>
   rw [aTk,aTp,aVt,ih,aTr,aV0,aYw]
   rfl
 unfold Prg.refs at h1;rw [aTp,aVt,e2,e1,aYw] at h1;have e3:(p.gs.map (w ∘ fun a:Asg=>a.root.toNat)).sum=(p.gs.map fun a=>w a.root.toNat).sum:=rfl;omega
def pT (p:Prg) (s:ByteArray):Nat:=(eU p.gs p.gs.length s.toList).getD 0
def bM (p:Prg) (x:Nd):Ins:=
 if x.op=1 then ⟨1,⟨#[]⟩,x.num⟩ else if x.op=3 then ⟨5,⟨#[]⟩,3⟩ else if x.op=2 then (if dB x.name then ⟨2,x.name,0⟩ else ⟨3,⟨#[]⟩,(pT p x.name:Nat)⟩) else if x.op=8 then ⟨7,x.name,0⟩ else ⟨6,⟨#[]⟩,x.op⟩
def trF (p:Prg):Nat->Nat->List Ins
 | 0,_=>[]
 | F+1,j=>match p.ns[j]? with|some x=>(x.args.flatMap fun a=>trF p F a.toNat)++[bM p x]|none=>[]
def Prg.tr (p:Prg) (j:Nat):List Ins:=trF p (j+1) j
def Prg.trs (p:Prg):Nat->List Ins
 | 0=>[]
 | k+1=>p.trs k++(match p.gs[k]? with|some a=>p.tr a.root.toNat++[⟨4,⟨#[]⟩,(k:Nat)⟩]|none=>[])
def Prg.code (p:Prg):Cod:=⟨p.trs p.gs.length,p.gs.map (·.name)⟩
theorem oN {α β : Type} {L:List α} {f g : α->List β} (h:∀a∈L,f a=g a):L.flatMap f=L.flatMap g:=by
 induction L with
 | nil=>rfl
 | cons a r ih=>rw [aTk,aTk,h a (by simp),ih fun b hb=>h b (by simp [hb])]
theorem aO9 {p:Prg} (h:p.V):∀(F F' j:Nat),j<F->j<F'->trF p F j=trF p F' j:=by
 intro F
 induction F with
 | zero=>intro F' j hj;omega
 | succ F ih=>
  intro F' j hj h0
  obtain ⟨G,rfl⟩:∃G,F'=G+1:=⟨F' - 1,by omega⟩
  unfold trF
  cases hx:p.ns[j]? with
  | none=>rfl
  | some x=>
   simp only;rw [oN fun a ha=>ih G a.toNat (by have:=(h.nd j x hx).2 a ha;omega) (by have:=(h.nd j x hx).2 a ha;omega)]
theorem Prg.V.tr_step {p:Prg} (h:p.V) {x:Nd} (hx:p.ns[j]?=Option.some x):p.tr j=(x.args.flatMap fun a=>p.tr a.toNat)++[bM p x]:=by
 have e:p.tr j=(x.args.flatMap fun a=>trF p j a.toNat)++[bM p x]:=by
  show trF p (j+1) j=_
  rw [trF,hx]
 rw [e,oN fun a ha=>aO9 h _ _ _ (by have:=(h.nd j x hx).2 a ha;omega) (aZm _)]
 rfl
theorem Prg.trs_step {p:Prg} {a:Asg} (h:p.gs[k]?=some a):p.trs (k+1)=p.trs k++(p.tr a.root.toNat++[⟨4,⟨#[]⟩,(k:Nat)⟩]):=by
 rw [Prg.trs,h]
theorem yF {p:Prg} (h:p.K) {x:Nd} (hx:p.ns[j]?=some x):cP (bM p x).op (bM p x).name=x.args.length/\(bM p x).op≠4/\gI (bM p x).op=1:=by
 rcases jW (h.v.nd j x hx).1 with ⟨o,h2,h3⟩|⟨o,h3⟩|⟨o,h3⟩|⟨o,o',h3⟩|⟨o,h3⟩
 ·unfold bM;rw [if_pos o,h3];exact ⟨rfl,by show (_:Int)≠4;simp,rfl⟩
 ·unfold bM
  rw [if_neg (by omega),if_neg (by omega),if_pos o,h3]
  split
  ·exact ⟨rfl,by show (_:Int)≠4;simp,rfl⟩
  ·exact ⟨rfl,by show (_:Int)≠4;simp,rfl⟩
 ·unfold bM;rw [if_neg (by omega),if_pos o,h3];exact ⟨rfl,by show (_:Int)≠4;simp,rfl⟩
 ·unfold bM;rw [if_neg (by omega),if_neg (by omega),if_neg (by omega),if_neg (by omega),h3];exact ⟨rfl,by show (_:Int)≠4;simp,rfl⟩
 ·unfold bM
  rw [if_neg (by omega),if_neg (by omega),if_neg (by omega),if_pos o,<-(h.call j x hx o).2];exact ⟨rfl,by show (7:Int)≠4;simp,rfl⟩
def aNm (p:Prg) (V:Nat->List Int) (k:Nat) (L:List (List Int)):Prop:=∀(i:Nat) (a:Asg),i<k->p.gs[i]?=some a->L.getD i []=V a.root.toNat
theorem aLw {p:Prg} (h:p.K) {t:Tex} {x:Nd} (hx:p.ns[j]?=some x) {L:List (List Int)} (hL:aNm p (p.ev n m f tm t) (p.own j) L) :
  iY n m f tm t (bM p x).op (bM p x).name (bM p x).num (x.args.map fun a=>p.ev n m f tm t a.toNat) L=p.ev n m f tm t j:=by
 rw [h.ev_step hx];unfold evB
 rcases jW (h.v.nd j x hx).1 with ⟨o,h2,h3⟩|⟨o,h3⟩|⟨o,h3⟩|⟨o,o',h3⟩|⟨o,h3⟩
 ·rw [if_pos o];unfold bM;rw [if_pos o];rfl
 ·rw [if_neg (by omega),if_pos o]
  unfold bM;rw [if_neg (by omega),if_neg (by omega),if_pos o]
  cases hv:dB x.name
  ·obtain ⟨i,hi,h0⟩:=h.name j x hx o hv
   obtain ⟨s',g1,g2,g3,g4⟩:=h.root hi
   have e1:pT p x.name=i:=by unfold pT;rw [hi];rfl
   have:=hL i _ h0 g1
   show L.getD ((pT p x.name:Nat):Int).toNat []=p.ev n m f tm t (p.rootOf x.name)
   rw [e1,aSc,this];simp
  ·rfl
 ·rw [if_neg (by omega),if_neg (by omega),if_neg (by omega)]
  unfold bM;rw [if_neg (by omega),if_pos o,o]
  rfl
 ·rw [if_neg (by omega),if_neg (by omega),if_neg (by omega)]
  unfold bM;rw [if_neg (by omega),if_neg (by omega),if_neg (by omega),if_neg (by omega)]
  show List.zipWith (fB x.op) _ _=_
  rw [if_neg (by omega)]
 ·rw [if_neg (by omega),if_neg (by omega),if_pos o]
  unfold bM;rw [if_neg (by omega),if_neg (by omega),if_neg (by omega),if_pos o]
  rfl
theorem aNn {p:Prg} (h:p.K) {t:Tex} {x:Nd} (hx:p.ns[j]?=some x) {L:List (List Int)} (hL:aNm p (p.ev n m f tm t) (p.own j) L) (rest:List Ins) (S:List (List Int)) :
  lQ n m f tm t (bM p x::rest) (S++x.args.map fun a=>p.ev n m f tm t a.toNat) L=lQ n m f tm t rest (S++[p.ev n m f tm t j]) L:=by
 obtain ⟨h1,h2,h3⟩:=yF h hx
 have hc:iZ (bM p x).op (bM p x).name (S++x.args.map fun a=>p.ev n m f tm t a.toNat)=S.length:=by
  unfold iZ;rw [h1];simp
 rw [lQ];unfold eO gM;rw [if_neg h2,if_neg h2,hc,List.take_left,List.drop_left,aLw h hx hL]
theorem aPa {p:Prg} (h:p.K) {t:Tex}:∀(F j:Nat),j<F->j<p.ns.length->∀(L:List (List Int)),aNm p (p.ev n m f tm t) (p.own j) L->∀(rest:List Ins) (S:List (List Int)),
  lQ n m f tm t (p.tr j++rest) S L=lQ n m f tm t rest (S++[p.ev n m f tm t j]) L:=by
 intro F
 induction F with
 | zero=>intro j hj;omega
 | succ F ih=>
  intro j hj h0 L hL rest S
  have hx:p.ns[j]?=some p.ns[j]:=by simp [h0]
  obtain ⟨x,h1⟩:∃x,p.ns[j]=x:=⟨_,rfl⟩
  rw [h1] at hx;rw [h.v.tr_step hx,aSl,<-aNn h hx hL rest S]
  have h2:∀(es:List Int),(∀a∈es,a∈x.args)->∀(rest:List Ins) (S:List (List Int)),lQ n m f tm t ((es.flatMap fun a=>p.tr a.toNat)++rest) S L=lQ n m f tm t rest (S++es.map fun a=>p.ev n m f tm t a.toNat) L:=by
   intro es
   induction es with
   | nil=>intro _ rest S;simp
   | cons a r ihr=>
    intro hs rest S;have ha:=hs a (by simp);have hr:=h.rank_arg hx ha;have h3:=(h.v.nd j x hx).2 a ha;rw [aTk,aSl,ih a.toNat (by omega) hr.2.1 L (by rw [hr.2.2];exact hL),ihr (fun b hb=>hs b (by simp [hb]))];simp
  exact h2 x.args (fun a ha=>ha) _ S
theorem aNo {p:Prg} (h:p.K) {t:Tex}:∀k,k<=p.gs.length->∀rest,∃L,L.length=p.gs.length/\aNm p (p.ev n m f tm t) k L/\lQ n m f tm t (p.trs k++rest) [] (aR5 p.gs.length [])=lQ n m f tm t rest [] L:=by
 intro k
 induction k with
 | zero=>intro _ rest;exact ⟨aR5 p.gs.length [],List.length_replicate,fun i a hi=>by omega,by rw [Prg.trs,aTf]⟩
 | succ k ih=>
  intro hk rest
  have ha:p.gs[k]?=some p.gs[k]:=by simp [show k<p.gs.length by omega]
  obtain ⟨a,h0⟩:∃a,p.gs[k]=a:=⟨_,rfl⟩
  rw [h0] at ha;obtain ⟨L,h1,h2,h3⟩:=ih (by omega) ((p.tr a.root.toNat++[⟨4,⟨#[]⟩,(k:Nat)⟩])++rest);have hr:=(h.v.ag k a ha).2
  have e2:a=⟨a.name,(a.root.toNat:Nat)⟩:=by cases a;simp only [Asg.mk.injEq,true_and] at *;omega
  have ho:p.own a.root.toNat=k:=h.v.own_eq (Own.root (s:=a.name) (by rw [ha];exact congrArg some e2));refine ⟨L.set k (p.ev n m f tm t a.root.toNat),by simp [h1],fun i b hi hb=>?_,?_⟩
  ·rw [aSe,List.getElem?_set]
   by_cases e:k=i
   ·subst e
    rw [ha] at hb;injection hb with hb;subst hb;simp [h1,show k<p.gs.length by omega]
   ·rw [if_neg e,<-aSe]
    exact h2 i b (by omega) hb
  ·rw [Prg.trs_step ha,aSl,h3,aSl,aPa h (a.root.toNat+1) a.root.toNat (by omega) (by omega) L (by rw [ho];exact h2),aTf]
   show lQ n m f tm t (_::rest) _ _=_
   rw [lQ]
   rfl
theorem Prg.K.out {p:Prg} (h:p.K) (g:Grd):∀(i:Nat) (a:Asg),p.gs[i]?=some a->(p.code.out g).getD i []=evV p g a.root.toNat:=by
 intro i a ha;obtain ⟨L,h1,h2,h3⟩:=aNo h (n:=g.n.toNat) (m:=g.m) (f:=g.f) (tm:=g.tm) (t:=g.t) p.gs.length (aRi _) [];unfold Cod.out Prg.code evV;simp only [aSv];rw [aUf] at h3;rw [h3,lQ];exact h2 i a (aRk.1 ha).1 ha
theorem aEr {p:Prg} (h:p.K) {x:Nd} (hx:p.ns[j]?=some x):wfI (bM p x).op (bM p x).name (bM p x).num p.gs.length=true/\iD (bM p x)=true/\((bM p x).op=3->∃i,i<p.own j/\(bM p x).num=(i:Nat)):=by
 have e0:((⟨#[]⟩:ByteArray).toList==[])=true:=by rw [Lib.toList_data];rfl
 have hv:=h.v;have h1:=(aRk.1 hx).1
 rcases jW (h.v.nd j x hx).1 with ⟨o,h2,h3⟩|⟨o,h3⟩|⟨o,h3⟩|⟨o,o',h3⟩|⟨o,h3⟩
 ·unfold bM
  rw [if_pos o];have:=aG.1 h2;refine ⟨by simp [wfI,e0],aG.2 (by simp only;omega),fun e=>by simp at e⟩
 ·unfold bM
  rw [if_neg (by omega),if_neg (by omega),if_pos o]
  cases hv:dB x.name
  ·obtain ⟨i,hi,h0⟩:=h.name j x hx o hv
   obtain ⟨g1,⟨a,g2,_⟩,_⟩:=fD hi;have hl:=(aRk.1 g2).1
   have e1:pT p x.name=i:=by unfold pT;rw [hi];rfl
   refine ⟨?_,?_,fun _=>⟨i,h0,by simp [e1]⟩⟩
   ·simp only [aUc,if_false,wfI,e1,e0]
    simp [aG];omega
   ·simp only [aUc,if_false,e1]
    refine aG.2 ⟨by simp only;omega,?_⟩;simp only;have:=h.v.gs_len;omega
  ·simp only [if_true,wfI,hv]
   exact ⟨by simp,aG.2 (by simp),fun e=>by simp at e⟩
 ·unfold bM
  rw [if_neg (by omega),if_pos o];exact ⟨by simp [wfI,e0],aG.2 (by simp),fun e=>by simp at e⟩
 ·unfold bM
  rw [if_neg (by omega),if_neg (by omega),if_neg (by omega),if_neg (by omega)];exact ⟨by simp [wfI,e0,aG];omega,aG.2 (by simp only;omega),fun e=>by simp at e⟩
 ·unfold bM
  rw [if_neg (by omega),if_neg (by omega),if_neg (by omega),if_pos o];have:=(h.call j x hx o).1;exact ⟨by simp [wfI,this],aG.2 (by simp),fun e=>by simp at e⟩
theorem aPb {p:Prg} (h:p.K) {x:Nd} (hx:p.ns[j]?=some x):(p.tr j).length=1+(x.args.map fun a=>(p.tr a.toNat).length).sum:=by
 rw [h.v.tr_step hx,aSa,List.length_flatMap];simp;omega
theorem aNp {p:Prg}:∀k,k<=p.gs.length->(p.trs k).length=((p.gs.take k).map fun a=>(p.tr a.root.toNat).length).sum+k:=by
 intro k
 induction k with
 | zero=>intro _;rfl
 | succ k ih=>
  intro hk
  have ha:p.gs[k]?=some p.gs[k]:=by simp [show k<p.gs.length by omega]
  rw [Prg.trs_step ha,aSa,ih (by omega),<-List.take_append_getElem (show k<p.gs.length by omega),aTp,aVt];simp;omega
theorem oO {p:Prg} (h:p.K):p.code.xs.length<=120:=by
 show (p.trs p.gs.length).length<=120
 rw [aNp _ (aRi _),aSh,h.v.sum_roots (fun j=>(p.tr j).length) fun j x hx=>aPb h hx];have:=h.v.len;have:=h.v.gs_len;omega
theorem aLx {p:Prg} (h:p.K) {x:Nd} (hx:p.ns[j]?=some x) {st:Nat->Bool} (hst:∀i,i<p.own j->st i=true) (rest:List Ins) (d m:Int) (hd:0<=d) (hr:∀m',(iM p.gs.length rest (d+1) m' st).isSome=true) :
  (iM p.gs.length (bM p x::rest) (d+x.args.length) m st).isSome=true:=by
 obtain ⟨h1,h2,h3⟩:=yF h hx;obtain ⟨w1,w2,w3⟩:=aEr h hx;unfold iM;rw [if_pos ⟨w1,fun e=>by obtain ⟨i,hi,hn⟩:=w3 e;rw [hn];exact hst i hi,by rw [h1];omega⟩,h1,h3]
 have em:iL (bM p x).op (bM p x).num st=st:=by unfold iL;rw [if_neg h2]
 rw [em,show d+(x.args.length:Int) - x.args.length+1=d+1 by omega];exact hr _
theorem aNq {p:Prg} (h:p.K):∀(F j:Nat),j<F->j<p.ns.length->∀(st:Nat->Bool),(∀i,i<p.own j->st i=true)->∀(rest:List Ins) (d m:Int),0<=d->(∀m',(iM p.gs.length rest (d+1) m' st).isSome=true) ->
  (iM p.gs.length (p.tr j++rest) d m st).isSome=true:=by
 intro F
 induction F with
 | zero=>intro j hj;omega
 | succ F ih=>
  intro j hj h1 st h0 rest d m hd hr
  have hx:p.ns[j]?=some p.ns[j]:=by simp [h1]
  obtain ⟨x,h2⟩:∃x,p.ns[j]=x:=⟨_,rfl⟩
  rw [h2] at hx;rw [h.v.tr_step hx,aSl]
  have h3:∀(es:List Int),(∀a∈es,a∈x.args)->∀(rest:List Ins) (d m:Int),0<=d->(∀m',(iM p.gs.length rest (d+es.length) m' st).isSome=true)->(iM p.gs.length ((es.flatMap fun a=>p.tr a.toNat)++rest) d m st).isSome=true:=by
   intro es
   induction es with
   | nil=>intro _ rest d m _ hr;simpa using hr m
   | cons a r ihr=>
    intro hs rest d m hd hr;have ha:=hs a (by simp);have hk:=h.rank_arg hx ha;have h4:=(h.v.nd j x hx).2 a ha;rw [aTk,aSl];refine ih a.toNat (by omega) hk.2.1 st (by rw [hk.2.2];exact h0) _ d m hd fun m'=>?_;refine ihr (fun b hb=>hs b (by simp [hb])) rest (d+1) m' (by omega) fun m2=>?_;have:=hr m2;rw [aSw] at this;rw [show d+1+(r.length:Int)=d+((r.length+1:Nat):Int) by omega];exact this
  exact h3 x.args (fun a ha=>ha) _ d m hd fun m'=>aLx h hx h0 rest d m' hd hr
theorem aLy {p:Prg} (h:p.K):∀k,k<=p.gs.length->∀(rest:List Ins) (m:Int),(∀m' st,(∀i,i<k->st i=true)->(iM p.gs.length rest 0 m' st).isSome=true)->(iM p.gs.length (p.trs k++rest) 0 m fun _=>false).isSome=true:=by
 intro k
 induction k with
 | zero=>intro _ rest m hr;rw [Prg.trs,aTf];exact hr m _ fun i hi=>by omega
 | succ k ih=>
  intro hk rest m hr
  have ha:p.gs[k]?=some p.gs[k]:=by simp [show k<p.gs.length by omega]
  obtain ⟨a,h0⟩:∃a,p.gs[k]=a:=⟨_,rfl⟩
  rw [h0] at ha;have h1:=(h.v.ag k a ha).2
  have e2:a=⟨a.name,(a.root.toNat:Nat)⟩:=by cases a;simp only [Asg.mk.injEq,true_and] at *;omega
  have ho:p.own a.root.toNat=k:=h.v.own_eq (Own.root (s:=a.name) (by rw [ha];exact congrArg some e2))
  have e0:((⟨#[]⟩:ByteArray).toList==[])=true:=by rw [Lib.toList_data];rfl
  rw [Prg.trs_step ha,aSl];refine ih (by omega) _ m fun m' st hst=>?_;rw [aSl];refine aNq h (a.root.toNat+1) a.root.toNat (by omega) (by omega) st (by rw [ho];exact hst) _ 0 m' (by omega) fun m2=>?_
  show (iM p.gs.length (_::rest) _ _ _).isSome=true
  unfold iM;rw [if_pos ⟨by simp [wfI,e0,aG];omega,fun e=>by simp at e,by show (1:Int)<=0+1;omega⟩];refine hr _ _ fun i hi=>?_
  show iL 4 ((k:Nat):Int) st i=true
  unfold iL;rw [if_pos rfl];simp only [aSc]
  by_cases e:i=k
  ·rw [if_pos e]
  ·rw [if_neg e];exact hst i (by omega)
theorem aNr {p:Prg} (h:p.K):∀x∈p.code.xs,iD x=true:=by
 have t1:∀(F j:Nat),j<F->j<p.ns.length->∀x∈p.tr j,iD x=true:=by
  intro F
  induction F with
  | zero=>intro j hj;omega
  | succ F ih=>
   intro j hj h0 y hy
   have hx:p.ns[j]?=some p.ns[j]:=by simp [h0]
   rw [h.v.tr_step hx] at hy
   rcases aTz.1 hy with hy|hy
   ·obtain ⟨a,ha,hy⟩:=aV6.1 hy
    have hk:=h.rank_arg hx ha;have h1:=(h.v.nd j _ hx).2 a ha;exact ih a.toNat (by omega) hk.2.1 y hy
   ·rw [aUm.1 hy]
    exact (aEr h hx).2.1
 have t2:∀k,k<=p.gs.length->∀x∈p.trs k,iD x=true:=by
  intro k
  induction k with
  | zero=>intro _ x hx;cases hx
  | succ k ih=>
   intro hk x hx
   have ha:p.gs[k]?=some p.gs[k]:=by simp [show k<p.gs.length by omega]
   have h2:=(h.v.ag k _ ha).2;rw [Prg.trs_step ha] at hx
   rcases aTz.1 hx with hx|hx
   ·exact ih (by omega) x hx
   ·rcases aTz.1 hx with hx|hx
    ·exact t1 _ _ (aZm _) (by omega) x hx
    ·rw [aUm.1 hx]
     have:=h.v.gs_len;exact aG.2 (by simp only;omega)
 exact t2 _ (aRi _)
theorem Prg.K.runB {p:Prg} (h:p.K):p.code.runB=true:=by
 unfold Cod.runB;rw [aRy];refine ⟨?_,aSs.2 (aNr h)⟩;unfold Cod.depth;rw [if_pos (by have:=oO h;omega)]
 show (iM (p.gs.map (·.name)).length (p.trs p.gs.length) 0 0 fun _=>false).isSome=true
 rw [aSv];have:=aLy h p.gs.length (aRi _) [] 0 fun m' st _=>rfl
 rwa [aUf] at this
theorem vU {gs:List Asg} {l:List UInt8}:ixL l (gs.map (·.name))=match eU gs gs.length l with|some k=>(k:Int)|none=>-1:=by
 cases h:eU gs gs.length l with
 | none=>
  refine aG2 fun j z hj hz=>?_;rw [aS7] at hz;obtain ⟨a,ha,rfl⟩:=aXy.1 hz;intro e;have h1:=vS (t:=gs.length) h;rw [jU.2 ⟨j,a,(aRk.1 ha).1,ha,e⟩] at h1;cases h1
 | some k=>
  obtain ⟨h1,⟨a,h2,h3⟩,h4⟩:=fD h;refine aG1 (y:=a.name) (by simp [h2]) h3 fun j z hj hz=>?_;rw [aS7] at hz;obtain ⟨b,hb,rfl⟩:=aXy.1 hz;exact h4 j b hj hb
theorem aEs {p:Prg} (h:p.K) {g:Grd} (hg:g.okB=true) {r:Nat} (hr:r<p.ns.length):fM g.m (evV p g r):=by
 obtain ⟨n,hn,h0,n1,n8,_,ht,hf⟩:=Grd.partsE hg
 have hV:evV p g=p.ev n g.m g.f g.tm g.t:=by unfold evV;rw [hn];rfl
 rw [hV];exact h.ev_good h0 hf ht (p.rank r+1) r (by omega) hr
theorem aBa (h:q<xs.length):(xs.map col).getD q 0=col (xs.getD q 0):=by
 rw [aSe,aSe,aS7,aRs h]
 rfl
theorem Prg.K.shade {p:Prg} (h:p.K) (hp:p.chkB=true) {g:Grd} (hg:g.okB=true):∃X Y:List Int,p.code.shade g=(X,Y,true)/\X.length=g.m/\Y.length=g.m /\
  ∀i j:Nat,(i:Int)<g.n->(j:Int)<g.n->X.getD ((j:Int)*g.n+i).toNat 0=shC p g i j/\Y.getD ((j:Int)*g.n+i).toNat 0=shA p g i j:=by
 obtain ⟨n,hn,h6,n1,n8,_,ht,hf⟩:=Grd.partsE hg
 have h7:0<g.m:=by rw [<-h6];exact Nat.mul_pos n1 n1
 have hR:(p.code.runB&&g.okB)=true:=by rw [h.runB,hg];rfl
 have h3:p.code.res g=p.code.out g:=by unfold Cod.res;rw [if_pos hR]
 obtain ⟨k,hk⟩:=h.col;obtain ⟨s,r,k1,k2,k3,k4⟩:=h.asg hk
 have h5:kZ p.code.ls=(k:Int):=by
  unfold kZ;rw [aM3]
  show ixL _ (p.gs.map (·.name))=_
  rw [vU,hk]
 have o1:(p.code.out g).getD k []=evV p g r:=by have:=h.out g k _ k1;simpa using this
 have g1:=aEs h hg k2
 have ne:∀{xs:List Int},xs.length=g.m->xs≠[]:=fun hl e=>by rw [e] at hl;simp at hl;omega
 have pt:∀i j:Nat,(i:Int)<g.n->(j:Int)<g.n->∃q,((j:Int)*g.n+i).toNat=q/\q<g.m/\aNf p g i j=true:=fun i j hi hj=>by
  refine ⟨_,rfl,?_,?_⟩
  ·rw [hn] at hi hj ⊢
   have:=aPt h6 (i:=i) (j:=j) (by omega) (by omega);rw [show ((j:Int)*n+i)=((j*n+i:Nat):Int) by simp];exact this
  ·unfold aNf
   rw [hp,hg];simp only [Bool.true_and,aRy];exact ⟨aG.2 (by omega),aG.2 (by omega)⟩
 have h0:∀i j:Nat,(i:Int)<g.n->(j:Int)<g.n->((evV p g r).map aUk).getD ((j:Int)*g.n+i).toNat 0=shC p g i j:=fun i j hi hj=>by
  obtain ⟨q,hq,h2,h1⟩:=pt i j hi hj;unfold shC;rw [if_pos h1,hq,xQ hk k1,aBa (by rw [g1.1];exact h2)]
  rfl
 cases ha:eU p.gs p.gs.length [97,108,112,104,97] with
 | none=>
  have h4:hH p.code.ls = -1:=by
   unfold hH;rw [aLk]
   show ixL _ (p.gs.map (·.name))=_
   rw [vU,ha]
  refine ⟨(evV p g r).map aUk,aR5 g.m 256,?_,by rw [aSv,g1.1],by simp,fun i j hi hj=>⟨h0 i j hi hj,?_⟩⟩
  ·unfold Cod.shade
   rw [h5,h4,h3,aSc,o1,if_pos ⟨hR,by omega,ne g1.1,.inl (by omega)⟩,if_pos (by omega)]
  ·obtain ⟨q,hq,h2,h1⟩:=pt i j hi hj
   unfold shA;rw [if_pos h1,hq,aGt ha,aSe,List.getElem?_replicate,if_pos h2]
   rfl
 | some l=>
  obtain ⟨s',r',l1,l2,l3,l4⟩:=h.asg ha
  have h4:hH p.code.ls=(l:Int):=by
   unfold hH;rw [aLk]
   show ixL _ (p.gs.map (·.name))=_
   rw [vU,ha]
  have o2:(p.code.out g).getD l []=evV p g r':=by have:=h.out g l _ l1;simpa using this
  have g2:=aEs h hg l2;refine ⟨(evV p g r).map aUk,(evV p g r').map aUk,?_,by rw [aSv,g1.1],by rw [aSv,g2.1],fun i j hi hj=>⟨h0 i j hi hj,?_⟩⟩
  ·unfold Cod.shade
   rw [h5,h4,h3,aSc,aSc,o1,o2,if_pos ⟨hR,by omega,ne g1.1,.inr (ne g2.1)⟩,if_neg (by omega)]
  ·obtain ⟨q,hq,h2,h1⟩:=pt i j hi hj
   unfold shA;rw [if_pos h1,hq,xQ ha l1,aBa (by rw [g2.1];exact h2)]
   rfl
def gU (lo hi:Nat) (w:World) (v:Value) (ps:List Prg):Prop:=
 ∃a cap,v = .slice a ps.length cap/\ps.length<=cap/\cap<=maxLen/\∀k p,ps[k]?=some p->∃b off u1 u2,a=some ⟨b,off,none⟩/\lo<=b/\b<hi/\w.cell? ⟨b,off+k*2,none⟩=some u1/\w.cell? ⟨b,off+k*2+1,none⟩=some u2/\p.R lo hi w (.agg #[u1,u2])
theorem gU.same {ps:List Prg} (h:gU lo hi w v ps) (s:aM lo hi w w'):gU lo hi w' v ps:=by
 obtain ⟨a,cap,h1,h2,h3,h4⟩:=h;refine ⟨a,cap,h1,h2,h3,fun k p hk=>?_⟩;obtain ⟨b,h0,u1,u2,e1,e2,e3,e4,e5,e6⟩:=h4 k p hk;exact ⟨b,h0,u1,u2,e1,e2,e3,(s.cell e2 e3).trans e4,(s.cell e2 e3).trans e5,e6.same s⟩
theorem gU.ext {ps:List Prg} (h:gU lo hi w v ps) (hh:hi<=w.heap.size) (e:Ext w w'):gU lo hi w' v ps:=h.same (e.same hh)
structure aCv (lo hi:Nat) (w:World) (a:Option Addr) (cap:Nat) (ps:List Prg):Prop where
 le:ps.length<=cap
 cap:cap<=9223372036854775807
 cell:∀k p,ps[k]?=some p->∃b off u1 u2,a=some ⟨b,off,none⟩/\lo<=b/\b<hi/\w.cell? ⟨b,off+k*2,none⟩=some u1/\w.cell? ⟨b,off+k*2+1,none⟩=some u2/\p.R lo hi w (.agg #[u1,u2])
theorem gU.open {ps:List Prg} (h:gU lo hi w v ps):∃a cap,v = .slice a ps.length cap/\aCv lo hi w a cap ps:=by
 obtain ⟨a,cap,g1,g2,g3,g4⟩:=h;exact ⟨a,cap,g1,g2,by unfold maxLen at g3;omega,g4⟩
theorem aCv.at {a:Option Addr} {cap:Nat} {ps:List Prg} (h:aCv lo hi w a cap ps) (hk:k<ps.length) {wr:World} (hx:Ext w wr) (hh:hi<=w.heap.size) :
  ∃b off a1 c1 a2 c2,a=some ⟨b,off,none⟩/\b<w.heap.size/\b<wr.heap.size/\wr.cell? ⟨b,off+k*2,none⟩=some (.slice a1 ps[k].ns.length c1)/\wr.cell? ⟨b,off+k*2+1,none⟩=some (.slice a2 ps[k].gs.length c2)/\ps[k].R lo hi wr (.agg #[.slice a1 ps[k].ns.length c1,.slice a2 ps[k].gs.length c2]):=by
 obtain ⟨b,off,u1,u2,e,h1,h2,c0,c1,hu⟩:=h.cell k ps[k] (by simp [hk]);have hz:=hx.size;obtain ⟨a1,k1,a2,k2,e1,-,-⟩:=hu.form;simp only [Value.agg.injEq,Array.mk.injEq,List.cons.injEq,and_true] at e1;obtain ⟨rfl,rfl⟩:=e1;exact ⟨b,off,a1,k1,a2,k2,e,by omega,by omega,(hx.cells.1 b _ (by omega)).trans c0,(hx.cells.1 b _ (by omega)).trans c1,hu.ext hh hx⟩
structure Scn where
 c:Cam
 t:Tex
 ps:List Prg
 m:Nat
 F:Nat->Int
 side:Int
def Scn.st (s:Scn) (k:Nat):Nat->Int:=fun j=>s.F (k*26+j)
def Scn.en (s:Scn) (k:Nat):Nat->Int:=fun j=>s.F (k*26+12+j)
def Scn.sh (s:Scn) (k:Nat):Int:=s.F (k*26+24)
def Scn.rt (s:Scn) (k:Nat):Int:=s.F (k*26+25)
def Scn.R (s:Scn) (lo hi:Nat) (w:World) (v:Value):Prop:=
 ∃tu pu su,v = .agg #[s.c.w,s.c.h,s.c.zoom,s.c.near,.bool s.c.deep,s.c.lens,s.c.focus,s.t.log,tu,pu,su,s.side] /\
  s.c.I/\I64 s.t.log/\I64 s.side/\aS lo hi w tu s.t.px/\gU lo hi w pu s.ps/\dH 26 lo hi w su s.m s.F
theorem Scn.R.same {s:Scn} (h:s.R lo hi w v) (e:aM lo hi w w'):s.R lo hi w' v:=by
 obtain ⟨tu,pu,su,h1,h2,h3,h4,h5,h6,h7⟩:=h;exact ⟨tu,pu,su,h1,h2,h3,h4,h5.same e,h6.same e,h7.same e⟩
theorem Scn.R.ext {s:Scn} (h:s.R lo hi w v) (hh:hi<=w.heap.size) (e:Ext w w'):s.R lo hi w' v:=h.same (e.same hh)
theorem Scn.R.form {s:Scn} (h:s.R lo hi w v) :
  ∃a1 c1 a2 c2 a3 c3,v = .agg #[s.c.w,s.c.h,s.c.zoom,s.c.near,.bool s.c.deep,s.c.lens,s.c.focus,s.t.log,.slice a1 s.t.px.length c1,.slice a2 s.ps.length c2,.slice a3 s.m c3,s.side] /\
   s.c.I/\I64 s.t.log/\I64 s.side/\gH lo hi w a1 c1 s.t.px/\aCv lo hi w a2 c2 s.ps/\kG 26 lo hi w a3 c3 s.m s.F:=by
 obtain ⟨tu,pu,su,rfl,h2,h3,h4,h5,h6,h7⟩:=h;obtain ⟨a1,c1,rfl,H1⟩:=h5.open;obtain ⟨a2,c2,rfl,H2⟩:=h6.open;obtain ⟨a3,c3,rfl,H3⟩:=h7.open;exact ⟨a1,c1,a2,c2,a3,c3,rfl,h2,h3,h4,H1,H2,H3⟩
def rG (f:Nat->Int):Bool:=dC (f 0) (f 1) (f 2)&&dC (f 3) (f 4) (f 5)&&dC (f 6) (f 7) (f 8)&&dC (f 9) (f 10) (f 11)
def uU (r:Int):Bool:=r==1||r==2||r==4||r==8
def qK (r:Int):Bool:=r==1||r==2||r==4
def aNs (f g:Nat->Int) (sh rt:Int) (n:Nat):Bool:=rG f&&rG g&&decide (0<=sh)&&decide (sh<(n:Int))&&uU rt
def Scn.srfB (s:Scn) (k:Nat):Bool:=aNs (s.st k) (s.en k) (s.sh k) (s.rt k) s.ps.length
noncomputable def Scn.okB (s:Scn):Bool:=s.c.okB&&s.t.okB&&inB (s.ps.length:Int) 1 3&&decide (s.m<=5)&&qK s.side&&s.ps.all Prg.chkB&&(aR6 s.m).all s.srfB
def Scn.small (s:Scn):Prop:=∀p∈s.ps,p.bd/\p.small
structure Scn.Ok (s:Scn):Prop where
 c:s.c.Ok
 cb:s.c.okB=true
 t:s.t.okB=true
 n:1<=s.ps.length/\s.ps.length<=3
 m:s.m<=5
 side:s.side=1\/s.side=2\/s.side=4
 prg:∀p∈s.ps,p.chkB=true
 srf:∀k,k<s.m->s.srfB k=true
theorem Scn.okB_iff {s:Scn}:s.okB=true↔s.Ok:=by
 unfold Scn.okB qK;simp only [aRy,aG,decide_eq_true_eq,aSs,aSq,aWf,beq_iff_eq]
 constructor
 ·rintro ⟨⟨⟨⟨⟨⟨a,b⟩,d,d'⟩,e⟩,f⟩,g⟩,h⟩
  exact ⟨Cam.okB_iff.1 a,a,b,⟨by omega,by omega⟩,e,by omega,g,h⟩
 ·rintro ⟨a,a',b,d,e,f,g,h⟩
  exact ⟨⟨⟨⟨⟨⟨a',b⟩,by omega,by omega⟩,e⟩,by omega⟩,g⟩,h⟩
structure aP5 (f g:Nat->Int) (sh rt:Int) (n:Nat):Prop where
 f:rG f=true
 g:rG g=true
 sh:0<=sh/\sh<n
 rt:rt=1\/rt=2\/rt=4\/rt=8
theorem aLz {g:Nat->Int} {sh rt:Int}:aNs f g sh rt n=true↔aP5 f g sh rt n:=by
 unfold aNs uU;simp only [aRy,decide_eq_true_eq,aWf,beq_iff_eq]
 constructor
 ·rintro ⟨⟨⟨⟨a,b⟩,c⟩,d⟩,e⟩
  exact ⟨a,b,⟨c,d⟩,by omega⟩
 ·rintro ⟨a,b,⟨c,d⟩,e⟩
  exact ⟨⟨⟨⟨a,b⟩,c⟩,d⟩,by omega⟩
def aBb (f:Nat->Int) (n:Nat):Nat->Int:=fun q=>
 if q % 5=0 then ((q / 5 % n:Nat):Int)*256 / (n:Int) else if q % 5=1 then ((q / 5 / n:Nat):Int)*256 / (n:Int)
 else if q % 5=2 then (evP f ((q / 5 % n:Nat):Int) ((q / 5 / n:Nat):Int) n).x else if q % 5=3 then (evP f ((q / 5 % n:Nat):Int) ((q / 5 / n:Nat):Int) n).y
 else (evP f ((q / 5 % n:Nat):Int) ((q / 5 / n:Nat):Int) n).z
def nP (f:Nat->Int) (n:Nat) (t:Tex):Grd:=⟨(n:Int),n*n,aBb f n,0,t⟩
def Scn.prg (s:Scn) (k:Nat):Prg:=s.ps.getD (s.sh k).toNat ⟨[],[]⟩
def Scn.grd (s:Scn) (k:Nat):Grd:=nP (s.st k) (s.rt k).toNat s.t
def Scn.shade (s:Scn) (k:Nat):List Int×List Int:=let r:=(s.prg k).code.shade (s.grd k);(r.1,r.2.1)
def Scn.hits (s:Scn) (k:Nat) (p:Smp):List aP:=uE s.c (aX (s.st k) (s.en k) p.t) (s.rt k).toNat p (k:Nat) (s.shade k).1 (s.shade k).2
abbrev sA_ (s:Scn) (a1:Option Addr) (c1:Nat) (a2:Option Addr) (c2:Nat) (a3:Option Addr) (c3:Nat):Array Value:=#[.int .i64 s.c.w,.int .i64 s.c.h,.int .i64 s.c.zoom,.int .i64 s.c.near,.bool s.c.deep,.int .i64 s.c.lens,.int .i64 s.c.focus,.int .i64 s.t.log,.slice a1 s.t.px.length c1,.slice a2 s.ps.length c2,.slice a3 s.m c3,.int .i64 s.side]
abbrev sL_ (s:Scn) (a1:Option Addr) (c1:Nat) (a2:Option Addr) (c2:Nat) (a3:Option Addr) (c3:Nat):List Value:=[.int .i64 s.c.w,.int .i64 s.c.h,.int .i64 s.c.zoom,.int .i64 s.c.near,.bool s.c.deep,.int .i64 s.c.lens,.int .i64 s.c.focus,.int .i64 s.t.log,.slice a1 s.t.px.length c1,.slice a2 s.ps.length c2,.slice a3 s.m c3,.int .i64 s.side]
def rH (s:Smp) (k:Int) (cols als:List Int) (m:Mc):List aP:=
 if qS m.a m.b m.d s.at then [⟨eK m.a m.b m.d s.at,k,m.v*m.n+m.u,cols.getD (m.v*m.n+m.u).toNat 0,als.getD (m.v*m.n+m.u).toNat 0⟩] else []
theorem aBc (a b d:V3) (s:Smp) (k:Int) (cols als:List Int) (u v n:Nat) :
  aIu a b d s.at k ((v*n+u:Nat):Int) (cols.getD (v*n+u) 0) (als.getD (v*n+u) 0)=rH s k cols als ⟨a,b,d,(u:Nat),(v:Nat),(n:Nat)⟩:=by
 have e:((v:Nat):Int)*((n:Nat):Int)+((u:Nat):Int)=((v*n+u:Nat):Int):=by rw [aTn,aUz]
 unfold aIu rH;simp only [e,aSc]
theorem aEt (c:Cam) (f:Nat->Int) (n:Nat) (s:Smp) (k:Int) (cols als:List Int) (u v:Nat):aAu c f n s k cols als u v=(gG c f n s u v).flatMap (rH s k cols als):=by
 unfold aAu gG
 split
 ·rw [aBc,aBc]
  simp only [aTk,List.flatMap_nil,aUf]
 ·rfl
theorem yG (c:Cam) (f:Nat->Int) (n:Nat) (s:Smp) (k:Int) (cols als:List Int):uE c f n s k cols als=(kT c f n s).flatMap (rH s k cols als):=by
 unfold uE qT kT;rw [List.flatMap_assoc];exact wT fun q _=>aEt ..
structure aQs (n:Nat) (m:Mc):Prop where
 a:m.a.scr
 b:m.b.scr
 d:m.d.scr
 z:(-1000000<=m.a.z/\m.a.z<=1000000)/\(-1000000<=m.b.z/\m.b.z<=1000000)/\(-1000000<=m.d.z/\m.d.z<=1000000)
 q:∃u v:Nat,m.u=(u:Nat)/\m.v=(v:Nat)/\m.n=(n:Nat)/\u<n/\v<n
theorem mL (c:Cam) (f:Nat->Int) (n:Nat) (s:Smp) (u v:Nat):(dE c f n s u v).scr:=⟨aN5 _,aN5 _⟩
theorem tY (c:Cam) (f:Nat->Int) (s:Smp) {u v:Nat} (hn:1<=n) (hu:u<=n) (hv:v<=n) : -1000000<=(dE c f n s u v).z/\(dE c f n s u v).z<=1000000:=
 ⟨aKi (by omega) (by omega) (by omega) (cS _).1 (cS _).1 (cS _).1 (cS _).1,aKj (by omega) (by omega) (by omega) (cS _).2 (cS _).2 (cS _).2 (cS _).2⟩
theorem aEu {c:Cam} {s:Smp} (hn:1<=n):∀m∈kT c f n s,aQs n m:=by
 intro m hm;unfold kT at hm;rw [aV6] at hm;obtain ⟨q,hq,hm⟩:=hm;rw [aSq] at hq;have hu:q % n<n:=aT4 _ (by omega);have hv:q / n<n:=aTs hq;generalize q % n=u at hu hm;generalize q / n=v at hv hm;unfold gG at hm
 split at hm
 ·simp only [aR4,aRz,or_false] at hm
  rcases hm with rfl|rfl
  ·exact ⟨mL ..,mL ..,mL ..,⟨tY _ _ _ hn (by omega) (by omega),tY _ _ _ hn (by omega) (by omega),tY _ _ _ hn (by omega) (by omega)⟩,u,v,rfl,rfl,rfl,hu,hv⟩
  ·exact ⟨mL ..,mL ..,mL ..,⟨tY _ _ _ hn (by omega) (by omega),tY _ _ _ hn (by omega) (by omega),tY _ _ _ hn (by omega) (by omega)⟩,u,v,rfl,rfl,rfl,hu,hv⟩
 ·cases hm
theorem sI (c:Cam) (f:Nat->Int) (s:Smp) (hn:n<=8):(kT c f n s).length<=128:=by
 have h:∀q,((aR6 q).flatMap fun i=>gG c f n s (i % n) (i / n)).length<=2*q:=by
  intro q
  induction q with
  | zero=>simp
  | succ q ih=>
   rw [aT3,aSy,aSa,aVf];have:=jK c f n s (q % n) (q / n);omega
 have h2:=h (n*n);have h3:n*n<=8*8:=aSi hn hn;unfold kT;omega
def aCw (s:Smp) (k:Int) (cols als:List Int) (ms:List Mc) (j:Nat):List aP:=(ms.take j).flatMap (rH s k cols als)
theorem mM {s:Smp} {k:Int} {cols als:List Int} {ms:List Mc} {m:Mc} (h:ms[j]?=some m):aCw s k cols als ms (j+1)=aCw s k cols als ms j++rH s k cols als m:=by
 obtain ⟨hj,rfl⟩:=aRk.1 h;unfold aCw;rw [aSd hj,aSy,aVf]
theorem aEv (s:Smp) (k:Int) (cols als:List Int) (ms:List Mc):aCw s k cols als ms ms.length=ms.flatMap (rH s k cols als):=by unfold aCw;rw [aSh]
theorem aEw (s:Smp) (k:Int) (cols als:List Int) (m:Mc):(rH s k cols als m).length<=1:=by unfold rH;split <;> simp
theorem uV (s:Smp) (k:Int) (cols als:List Int) (ms:List Mc):∀j,(aCw s k cols als ms j).length<=j:=by
 intro j
 induction j with
 | zero=>exact aRi _
 | succ j ih=>
  cases h:ms[j]? with
  | none=>
   have hl:=List.getElem?_eq_none_iff.1 h;unfold aCw at ih ⊢;rw [aSp (by omega)] at ih ⊢;omega
  | some m=>
   rw [mM h,aSa];have:=aEw s k cols als m;omega
theorem Ext.setRow {w1:World} (h:Ext w w1) (hg:w.heap.size<=g) (cs:Array Value):Ext w (w1.setRow g cs):=
 aWn h ⟨rfl,rfl,rfl,by simp,fun k hk=>setRow_other _ _ _ _ (by omega)⟩
theorem Blk.row {cs:List Value} (h:Blk w g t cs) (ds:List Value):Blk (w.setRow g ds.toArray) g t ds:=setRow_heap _ _ _ _ _ _ h
theorem Blk.otherRow {g':Nat} {cs:List Value} (h:Blk w g t cs) (ne:g≠g') (ds:Array Value):Blk (w.setRow g' ds) g t cs:=h.of (setRow_other _ _ _ _ ne)
theorem eV {C:World->Prop} {Q:Act->Prop} {op:Oper} (hw:Region.wanted op (yielded ops a.tmps)=true) (ty:TypeId) (x:Operand) (ho:op.op = .load ty x)
  (b o:Nat) (hx:a.eval x = .pointer (some ⟨b,o,none⟩)) (cs:List Value) (d:TypeDesc) (hC:∀w,C w->w.rangeAt b o cs) (hu:P.underlying ty=some d) (hd:d.isRow=true) (hi:(P.info? ty).map (·.size)=some cs.length)
  (h:wpQuiet P ops C Q rest (a.put op.dst (.agg cs.toArray))):wpQuiet P ops C Q (op::rest) a:=by
 refine wpQuiet_step fun K hK=>?_;rw [if_pos hw];refine ⟨.agg cs.toArray,fun w hw=>?_,hK _ h⟩;unfold Oper.quietAt execOp;simp only [ho,hx,Sem.run_bind,run_loadAt_mid w b o ty cs d (hC w hw) hu hd hi,Result.andThen_ok];exact ⟨rfl,rfl⟩
def CHt (N:Nat):Addr->Prop:=fun a=>a.block<N
@[go_sem] theorem aQt {N o:Nat} (h:k<N):CHt N ⟨k,o,none⟩:=h
theorem aE.rowE {α : Type} {cs : α->List Value} {xs:List α} (h:aE cs lo e sz w v xs):∀k,v.ownBlock=some k->lo<=k/\∃c,w.heap[k]?=some (.cells c e (0,0)):=by
 intro k hk
 rcases h.2 with ⟨rfl,h4⟩|⟨g,cap,cur,rfl,hb,hg,_⟩
 ·simp [aSg] at hk
 ·simp only [aSg,aRl] at hk
  subst hk;exact ⟨hb,_,hg⟩
theorem aE.grownE {α : Type} {cs : α->List Value} {e':TypeId} {xs:List α} {row:Option Nat} (h:aE cs lo e sz w v xs) (hg:w.grownBy w' row) (he:e≠e') (hr:∀k,row=some k->∃c,w.heap[k]?=some (.cells c e' (0,0))):aE cs lo e sz w' v xs:=
 h.of fun b c _ hb=>(hg.block b (aR3.1 hb).1 fun e1=>by
  obtain ⟨c',hc'⟩:=hr b e1.symm;rw [hb] at hc';simp only [aRl,aSx] at hc'
  exact he hc'.2.1).trans hb
theorem iP:(Tryz.prog.info? 95).map (fun i=>(i.zero,i.size,i.bytes))=some (some (.agg #[(),(),(),(),()]),5,40):=by kernel_rfl
theorem iQ (w:World) (hg:o.guard=none) (s x:Operand)
  (hop:o.op=Op.call { callee:=Callee.builtin Builtin.append,args:=#[s,x],argTypes:=#[48,48] }) (lo:Nat) (v:Value) (xs:List aP) (hs:a.eval s=v) (hown:aE aP.cs lo 95 5 w v xs)
  (y:aP) (b:Nat) (hx:a.eval x = .slice (some ⟨b,0,none⟩) 1 1) (hcell:∀j,j<5->w.cell? ⟨b,j,none⟩=y.cs[j]?) (hlen:xs.length<1000000) (hlo:lo<=w.heap.size)
  (hK:∀v' w',aE aP.cs lo 95 5 w' v' (xs++[y])->w.grownBy w' v.ownBlock->wpList aRn ops Q rest (a.put o.dst v') w'):wpList aRn ops Q (o::rest) a w:=by
 refine cX aP.cs 95 5 40 _ w hg s x 48 hop underlying48 iP rfl (by decide) (by decide) (fun _=>rfl) lo v xs hs hown y b hx hcell ?_ hlen hlo hK;intro u hu;simp only [aP.cs,aR4,aRz,or_false] at hu
 rcases hu with rfl|rfl|rfl|rfl|rfl <;> rfl
theorem fX:(Tryz.prog.info? 127).map (fun i=>i.size)=some 26:=by kernel_rfl
theorem aJx (s:Scn) (lo hi:Nat) (v:Value) (k:Nat) (p:Smp) (n:Nat) (cols als:List Int) (cu au:Value) (w:World) (hv:s.R lo hi w v) (hh:hi<=w.heap.size) (hk:k<s.m) (hr:s.rt k=(n:Nat)) (hn:1<=n/\n<=8) (hp:p.okB s.c=true)
  (hc:aS 0 w.heap.size w cu cols) (ha:aS 0 w.heap.size w au als) (hlc:cols.length=n*n) (hla:als.length=n*n) :
  Calls aRn 58 #[v,(k:Nat),.agg #[p.x,p.y,p.t,p.lx,p.ly],.agg #[cu,au]] w fun e w'=>∃r,e = .returned r/\aE aP.cs w.heap.size 95 5 w' r (uE s.c (aX (s.st k) (s.en k) p.t) n p (k:Nat) cols als)/\Ext w w':=by
 obtain ⟨a1,c1,a2,c2,a3,c3,rfl,-,-,-,-,-,hF⟩:=hv.form;obtain ⟨a4,c4,rfl,hC⟩:=hc.open;obtain ⟨a5,c5,rfl,hA⟩:=ha.open;have e5:=hF.cap;have g7:=hF.le;obtain ⟨b,h6,rfl,g1,g2,h0⟩:=hF.at hk (by decide)
 obtain ⟨f,hf⟩:∃f,s.st k=f:=⟨_,rfl⟩
 obtain ⟨g,hg⟩:∃f,s.en k=f:=⟨_,rfl⟩
 obtain ⟨sh,b0⟩:∃f,s.sh k=f:=⟨_,rfl⟩
 have bw:b<w.heap.size:=by omega
 have xw:Ext w (((w.alloc (.cells (sA_ s a1 c1 a2 c2 (some ⟨b,h6,none⟩) c3) 40)).alloc (.cells #[p.x,p.y,p.t,p.lx,p.ly] 42)).alloc (.cells #[.slice a4 cols.length c4,.slice a5 als.length c5] 91)):=X_
 have q5:(((w.alloc (.cells (sA_ s a1 c1 a2 c2 (some ⟨b,h6,none⟩) c3) 40)).alloc (.cells #[p.x,p.y,p.t,p.lx,p.ly] 42)).alloc (.cells #[.slice a4 cols.length c4,.slice a5 als.length c5] 91)).rangeAt b (h6+k*26) ((aR6 26).map fun j=>.int .i64 (s.F (k*26+j))):=by
  intro j v hj;obtain ⟨h1,h2⟩:=aRk.1 hj;simp only [aSv,aUi] at h1;simp only [aU3,aUd] at h2;subst h2;exact (xw.cells.1 b _ bw).trans (h0 j h1)
 change (((w.alloc (.cells (sA_ s a1 c1 a2 c2 (some ⟨b,h6,none⟩) c3) 40)).alloc (.cells #[p.x,p.y,p.t,p.lx,p.ly] 42)).alloc (.cells #[.slice a4 cols.length c4,.slice a5 als.length c5] 91)).rangeAt b (h6+k*26) [(s.st k 0),(s.st k 1),(s.st k 2),(s.st k 3),(s.st k 4),(s.st k 5),(s.st k 6),(s.st k 7),(s.st k 8),(s.st k 9),(s.st k 10),(s.st k 11),(s.en k 0),(s.en k 1),(s.en k 2),(s.en k 3),(s.en k 4),(s.en k 5),(s.en k 6),(s.en k 7),(s.en k 8),(s.en k 9),(s.en k 10),(s.en k 11),(s.sh k),(s.rt k)] at q5;simp only [hf,hg,b0,hr] at q5;have q0:=aRr w 40 (sL_ s a1 c1 a2 c2 (some ⟨b,h6,none⟩) c3);have q1:=aRr (w.alloc (.cells (sA_ s a1 c1 a2 c2 (some ⟨b,h6,none⟩) c3) 40)) 42 [p.x,p.y,p.t,p.lx,p.ly];have q2:=aRr ((w.alloc (.cells (sA_ s a1 c1 a2 c2 (some ⟨b,h6,none⟩) c3) 40)).alloc (.cells #[p.x,p.y,p.t,p.lx,p.ly] 42)) 91 [.slice a4 cols.length c4,.slice a5 als.length c5];simp only [aRj] at q1 q2;have r0:=q0.ext (show Ext (w.alloc (.cells (sA_ s a1 c1 a2 c2 (some ⟨b,h6,none⟩) c3) 40)) (((w.alloc (.cells (sA_ s a1 c1 a2 c2 (some ⟨b,h6,none⟩) c3) 40)).alloc (.cells #[p.x,p.y,p.t,p.lx,p.ly] 42)).alloc (.cells #[.slice a4 cols.length c4,.slice a5 als.length c5] 91)) from X_);have r1:=q1.ext (show Ext ((w.alloc (.cells (sA_ s a1 c1 a2 c2 (some ⟨b,h6,none⟩) c3) 40)).alloc (.cells #[p.x,p.y,p.t,p.lx,p.ly] 42)) (((w.alloc (.cells (sA_ s a1 c1 a2 c2 (some ⟨b,h6,none⟩) c3) 40)).alloc (.cells #[p.x,p.y,p.t,p.lx,p.ly] 42)).alloc (.cells #[.slice a4 cols.length c4,.slice a5 als.length c5] 91)) from X_);have r2:=q2.ext (show Ext (((w.alloc (.cells (sA_ s a1 c1 a2 c2 (some ⟨b,h6,none⟩) c3) 40)).alloc (.cells #[p.x,p.y,p.t,p.lx,p.ly] 42)).alloc (.cells #[.slice a4 cols.length c4,.slice a5 als.length c5] 91)) (((w.alloc (.cells (sA_ s a1 c1 a2 c2 (some ⟨b,h6,none⟩) c3) 40)).alloc (.cells #[p.x,p.y,p.t,p.lx,p.ly] 42)).alloc (.cells #[.slice a4 cols.length c4,.slice a5 als.length c5] 91)) from X_)
 have z3:(((w.alloc (.cells (sA_ s a1 c1 a2 c2 (some ⟨b,h6,none⟩) c3) 40)).alloc (.cells #[p.x,p.y,p.t,p.lx,p.ly] 42)).alloc (.cells #[.slice a4 cols.length c4,.slice a5 als.length c5] 91)).heap.size=w.heap.size+3:=by simp
 have HC:=hid hC;have HA:=hid hA;have g0:=hid hc;have e9:=hid ha;have HP:=hid hp
 have ht:0<=p.t/\p.t<=16:=by
  unfold Smp.okB at hp;simp only [aRy,aG] at hp;omega
 have HT:=hid ht;have b6:=hid hlc;have b3:=hid hla;clear hlc hla q0 q1 q2 hC hA hc ha hp ht h0 hF hv b0 hr;rw [hf,hg,yG];have z5:=aEu (c:=s.c) (f:=aX f g p.t) (n:=n) (s:=p) hn.1;have z1:=sI s.c (aX f g p.t) p hn.2
 obtain ⟨M,h9⟩:∃M,kT s.c (aX f g p.t) n p=M:=⟨_,rfl⟩
 rw [h9] at z5 z1 ⊢;have d1:=hid z5;have b8:=hid z1;have b9:=hid h9;clear hf hg z5 z1 h9;go_enter func58,ntmps58;go_upto_region 1 with fail
 obtain ⟨W0,q9⟩:∃W0,(((w.alloc (.cells (sA_ s a1 c1 a2 c2 (some ⟨b,h6,none⟩) c3) 40)).alloc (.cells #[p.x,p.y,p.t,p.lx,p.ly] 42)).alloc (.cells #[.slice a4 cols.length c4,.slice a5 als.length c5] 91))=W0:=⟨_,rfl⟩
 rw [q9] at q5 r0 r1 r2 z3 xw
 try simp only [aRj] at q9
 rw [q9];clear q9
 have bl:b<W0.heap.size:=by omega
 have d0:=r0.cell 10 rfl;have l0:=r0.lt;have R0:=hid r0;have R1:=hid r1;have R2:=hid r2;have XW:=hid xw;have Z3:=hid z3;clear r0 r1 r2 xw z3
 go_cut [9,10] from 16 to 21 (fun r q wx=>∃A,q = .pointer (some ⟨A,0,none⟩)/\Ext W0 wx/\W0.heap.size<=A/\Blk wx A 127 [(f 0),(f 1),(f 2),(f 3),(f 4),(f 5),(f 6),(f 7),(f 8),(f 9),(f 10),(f 11),(g 0),(g 1),(g 2),(g 3),(g 4),(g 5),(g 6),(g 7),(g 8),(g 9),(g 10),(g 11),sh,(n:Nat)]/\aE aP.cs W0.heap.size 95 5 wx r [])
 case first=>
  refine dI 8 W0.heap.size (by kernel_rfl) ?_;refine aZ (fuel:=3) [1,2,3,4,5] [0,6] (by kernel_rfl) (fun b _ hb=>rfl) ?_
  try simp only [Act.put,aRp,aRx,aRw]
  simp only [aR8,aR1,aRm,aRg,aRh]
  show wpQuiet _ _ _ _ [_,_,_,_,_] _
  go_big_quiet_step (fail)
  go_big_quiet_step (fail)
  go_big_quiet_step (fail)
  go_big_quiet_step (fail)
  refine eV rfl _ _ rfl b (h6+k*26) rfl [(f 0),(f 1),(f 2),(f 3),(f 4),(f 5),(f 6),(f 7),(f 8),(f 9),(f 10),(f 11),(g 0),(g 1),(g 2),(g 3),(g 4),(g 5),(g 6),(g 7),(g 8),(g 9),(g 10),(g 11),sh,(n:Nat)] _ (by rintro _ ⟨d,rfl⟩ j v hj;rw [jQ _ _ _ _ bl];exact q5 j v hj) underlying127 rfl fX ?_
  try simp only [Act.put,aRp,aRx,aRw]
  refine wpQuiet_nil ?_;intro e he;simp only [aR4,aRz,or_false] at he
  rcases he with rfl|rfl
  ·(unfold bZ;simp only [aRm,aRh,aRg,aRl];refine ⟨_,rfl,fun K hK=>?_⟩)
   go_wp2;have y1:Ext W0 (W0.drew.alloc (.cells #[] 95)):=X_;refine hK _ _ (.inr (fun b _ hb=>y1.block (by omega))) ?_;clear hK K;refine aZ (fuel:=2) [] [6] (by kernel_rfl) (fun b _ hb=>y1.block (by omega)) ?_;refine wpQuiet_nil ?_;intro e he;simp only [aR4,aRz,or_false] at he;subst he
   (unfold bZ;simp only [aRm,aRh,aRg,aRl];refine ⟨_,rfl,fun K hK=>?_⟩)
   go_wp2;have y2:Ext W0 ((W0.drew.alloc (.cells #[] 95)).alloc (.cells #[(),(),(),(),(),(),(),(),(),(),(),(),(),(),(),(),(),(),(),(),(),(),(),(),(),()] 127)):=X_
   have bF:Blk ((W0.drew.alloc (.cells #[] 95)).alloc (.cells #[(),(),(),(),(),(),(),(),(),(),(),(),(),(),(),(),(),(),(),(),(),(),(),(),(),()] 127)) (W0.heap.size) 95 []:=by exact (aRr W0.drew 95 []).alloc (.cells #[(),(),(),(),(),(),(),(),(),(),(),(),(),(),(),(),(),(),(),(),(),(),(),(),(),()] 127)
   have bS:Blk ((W0.drew.alloc (.cells #[] 95)).alloc (.cells #[(),(),(),(),(),(),(),(),(),(),(),(),(),(),(),(),(),(),(),(),(),(),(),(),(),()] 127)) (W0.heap.size+1) 127 [(),(),(),(),(),(),(),(),(),(),(),(),(),(),(),(),(),(),(),(),(),(),(),(),(),()]:=by have q:=aRr (W0.drew.alloc (.cells #[] 95)) 127 [(),(),(),(),(),(),(),(),(),(),(),(),(),(),(),(),(),(),(),(),(),(),(),(),(),()];rw [aRj] at q;exact q
   refine hK _ _ (.inr (fun b _ hb=>y2.block (by omega))) ?_;clear hK K;refine aZ (fuel:=0) [7] [8] (by kernel_rfl) (fun b _ hb=>y2.block (by omega)) ?_
   try simp only [Act.put,aRp,aRx,aRw]
   simp only [aR8,aR1,aRm,aRg,aRh]
   show wpQuiet _ _ _ _ [_] _
   repeat (go_big_quiet_step (fail))
   refine wpQuiet_nil ?_;intro e he;simp only [aR4,aRz,or_false] at he;subst he
   (unfold bZ;simp only [aRm,aRh,aRg,aRl];refine ⟨_,rfl,fun K hK=>?_⟩)
   try simp only [aRj,World.drew_heap]
   refine wpList_store_rowTo rfl _ _ _ rfl rfl (W0.heap.size+1) #[(f 0),(f 1),(f 2),(f 3),(f 4),(f 5),(f 6),(f 7),(f 8),(f 9),(f 10),(f 11),(g 0),(g 1),(g 2),(g 3),(g 4),(g 5),(g 6),(g 7),(g 8),(g 9),(g 10),(g 11),sh,(n:Nat)] rfl rfl 127 _ bS fX rfl (by rw [List.all_toArray];rfl) ?_;go_wp2;refine l_ hK ?_;clear hK K;refine cC (by kernel_rfl) ?_;go_wp2_with fail
   go_meet
   exact ⟨W0.heap.size+1,rfl,y2.setRow (by omega) _,by omega,bS.row [(f 0),(f 1),(f 2),(f 3),(f 4),(f 5),(f 6),(f 7),(f 8),(f 9),(f 10),(f 11),(g 0),(g 1),(g 2),(g 3),(g 4),(g 5),(g 6),(g 7),(g 8),(g 9),(g 10),(g 11),sh,(n:Nat)],aE.fresh0 (by omega) (bF.otherRow (by omega) _)⟩
  ·(unfold bZ;simp only [aRm,aRh,aRg,aRl];refine ⟨_,rfl,fun K hK=>?_⟩)
   go_wp2;have y1:Ext W0 (W0.drew.alloc (.cells #[(),(),(),(),(),(),(),(),(),(),(),(),(),(),(),(),(),(),(),(),(),(),(),(),(),()] 127)):=X_;refine hK _ _ (.inr (fun b _ hb=>y1.block (by omega))) ?_;clear hK K;refine aZ (fuel:=2) [] [0] (by kernel_rfl) (fun b _ hb=>y1.block (by omega)) ?_;refine wpQuiet_nil ?_;intro e he;simp only [aR4,aRz,or_false] at he;subst he
   (unfold bZ;simp only [aRm,aRh,aRg,aRl];refine ⟨_,rfl,fun K hK=>?_⟩)
   go_wp2;have y2:Ext W0 ((W0.drew.alloc (.cells #[(),(),(),(),(),(),(),(),(),(),(),(),(),(),(),(),(),(),(),(),(),(),(),(),(),()] 127)).alloc (.cells #[] 95)):=X_
   have bF:Blk ((W0.drew.alloc (.cells #[(),(),(),(),(),(),(),(),(),(),(),(),(),(),(),(),(),(),(),(),(),(),(),(),(),()] 127)).alloc (.cells #[] 95)) (W0.heap.size+1) 95 []:=by have q:=aRr (W0.drew.alloc (.cells #[(),(),(),(),(),(),(),(),(),(),(),(),(),(),(),(),(),(),(),(),(),(),(),(),(),()] 127)) 95 [];rw [aRj] at q;exact q
   have bS:Blk ((W0.drew.alloc (.cells #[(),(),(),(),(),(),(),(),(),(),(),(),(),(),(),(),(),(),(),(),(),(),(),(),(),()] 127)).alloc (.cells #[] 95)) (W0.heap.size) 127 [(),(),(),(),(),(),(),(),(),(),(),(),(),(),(),(),(),(),(),(),(),(),(),(),(),()]:=by exact (aRr W0.drew 127 [(),(),(),(),(),(),(),(),(),(),(),(),(),(),(),(),(),(),(),(),(),(),(),(),(),()]).alloc (.cells #[] 95)
   refine hK _ _ (.inr (fun b _ hb=>y2.block (by omega))) ?_;clear hK K;refine aZ (fuel:=0) [7] [8] (by kernel_rfl) (fun b _ hb=>y2.block (by omega)) ?_
   try simp only [Act.put,aRp,aRx,aRw]
   simp only [aR8,aR1,aRm,aRg,aRh]
   show wpQuiet _ _ _ _ [_] _
   repeat (go_big_quiet_step (fail))
   refine wpQuiet_nil ?_;intro e he;simp only [aR4,aRz,or_false] at he;subst he
   (unfold bZ;simp only [aRm,aRh,aRg,aRl];refine ⟨_,rfl,fun K hK=>?_⟩)
   try simp only [aRj,World.drew_heap]
   refine wpList_store_rowTo rfl _ _ _ rfl rfl (W0.heap.size) #[(f 0),(f 1),(f 2),(f 3),(f 4),(f 5),(f 6),(f 7),(f 8),(f 9),(f 10),(f 11),(g 0),(g 1),(g 2),(g 3),(g 4),(g 5),(g 6),(g 7),(g 8),(g 9),(g 10),(g 11),sh,(n:Nat)] rfl rfl 127 _ bS fX rfl (by rw [List.all_toArray];rfl) ?_;go_wp2;refine l_ hK ?_;clear hK K;refine cC (by kernel_rfl) ?_;go_wp2_with fail
   go_meet
   exact ⟨W0.heap.size,rfl,y2.setRow (by omega) _,by omega,bS.row [(f 0),(f 1),(f 2),(f 3),(f 4),(f 5),(f 6),(f 7),(f 8),(f 9),(f 10),(f 11),(g 0),(g 1),(g 2),(g 3),(g 4),(g 5),(g 6),(g 7),(g 8),(g 9),(g 10),(g 11),sh,(n:Nat)],aE.fresh0 (by omega) (bF.otherRow (by omega) _)⟩
 case rest=>
  obtain ⟨A,rfl,xa,d8,bS,hO⟩:=hcut;have HS:=hid bS;have HO:=hid hO;have HX:=hid xa;have lA:=bS.lt;have la:=xa.size;have d3:=bS.cell 25 rfl
  have a7:wc.rangeAt A 0 [(f 0),(f 1),(f 2),(f 3),(f 4),(f 5),(f 6),(f 7),(f 8),(f 9),(f 10),(f 11),(g 0),(g 1),(g 2),(g 3),(g 4),(g 5),(g 6),(g 7),(g 8),(g 9),(g 10),(g 11),sh,(n:Nat)]:=fun j v hj=>by rw [aSf];exact bS.cell j hj
  have e0:=R0.ext xa;have e1:=R1.ext xa;obtain ⟨m0,m1,m2,m3,m4,m5,m6⟩:=e0.q7;have s2:=e1.cell 2 rfl;have s3:=e1.cell 3 rfl;have s4:=e1.cell 4 rfl;have l1:=e0.lt;have l2:=e1.lt;clear e0 e1 bS hO xa d0 l0 q5 R0;go_upto_region 2 with fail;refine aA [([0,1,2,3,4,6,7,8,9,10,11,14],5),([],12),([],13)] 99 wc.heap.size (by kernel_rfl) (by kernel_rfl) ?_;refine aI ?_;simp only [aR8,aR1,aRm,aRg,aRh]
  show wpQuiet _ _ _ _ [_,_,_,_,_,_,_,_,_,_,_,_] _
  go_big_quiet_step (fail)
  go_big_quiet_step (fail)
  refine eV rfl _ _ rfl A 0 rfl [(f 0),(f 1),(f 2),(f 3),(f 4),(f 5),(f 6),(f 7),(f 8),(f 9),(f 10),(f 11),(g 0),(g 1),(g 2),(g 3),(g 4),(g 5),(g 6),(g 7),(g 8),(g 9),(g 10),(g 11),sh,(n:Nat)] _ (by rintro _ ⟨d,rfl⟩ j v hj;rw [jQ _ _ _ _ lA];exact a7 j v hj) underlying127 rfl fX ?_
  try simp only [Act.put,aRp,aRx,aRw]
  repeat (go_big_quiet_step (fail))
  refine wpQuiet_nil ⟨_,rfl,fun K hK=>?_⟩;go_wp2_with fail;refine r_ (wX f g sh (n:Nat) p.t HT _) fun w5 x5=>?_;have y5:Ext wc w5:=aRo (aSk (aRu _)) x5;go_wp2_with fail;refine k_ hK ?_;clear hK K;refine st_ fun K hK=>?_;go_wp2_with fail;refine (wY s.c (aX f g p.t) n p hn _).mono ?_;rintro e w6 ⟨r',rfl,hM,x6⟩;rw [b9] at hM;have y6:=y5.trans x6;obtain ⟨ta,tc,rfl,e8⟩:=aE.form hM;go_wp2_with fail;refine k_ hK ?_;clear hK K;refine st_ fun K hK=>?_;go_wp2_with fail;refine k_ hK ?_;clear hK K;refine aC ?_;go_wp2_with fail;have y0:=hid (hM.low (lo':=W0.heap.size) (by have:=y5.size;omega));have z8:=hid (HO.ext y6);have y4:=hid (HX.trans y6);clear hM y5 y6 x5 x6 a7 HS HO HX d3 m0 m1 m2 m3 m4 m5 m6 s2 s3 s4 lA la l1 l2 d8
  have hs:(-100000<=p.x/\p.x<=100000)/\(-100000<=p.y/\p.y<=100000):=by
   have hq:=HP.out;unfold Smp.okB at hq;simp only [aRy,aG] at hq;obtain ⟨⟨⟨⟨⟨q1,q2⟩,q3⟩,-⟩,-⟩,-⟩:=hq;have h1:=(Cam.okB_iff.1 q1).w;have h2:=(Cam.okB_iff.1 q1).h;omega
  have y8:=hid hs;clear hs
  go_loopw [9,36] (fun v i wr=>∃j:Nat,j<=M.length/\i = .int .i64 (j:Nat)/\Ext W0 wr/\aE Mc.cs W0.heap.size 155 12 wr (.slice ta M.length tc) M/\aE aP.cs W0.heap.size 95 5 wr v (aCw p (k:Nat) cols als M j)) (fun _ i _=>M.length - (intOf i).toNat)
  case atStart=>exact ⟨0,by omega,rfl,y4,y0,z8⟩
  case round=>
   obtain ⟨j,hj,rfl,hx,hm,ho⟩:=hrel;have q8:=hid hx;have z9:=hid hm;have x2:=hid ho;clear y4 y0 z8
   rcases aSo j M.length with hlt|hge
   ·obtain ⟨m,x0⟩:∃m,M[j]?=some m:=⟨_,aRs hlt⟩
    have h3:=d1.out m (aR7 x0);obtain ⟨gm,cap,he,-,d7,x4,d6,-,h0⟩:=aE.at hm (fun _=>rfl) x0;simp only [aSb,true_and] at he;obtain ⟨rfl,rfl⟩:=he;have c0:=h0 0 (by decide);have c1:=h0 1 (by decide);have c2:=h0 2 (by decide);have c3:=h0 3 (by decide);have c4:=h0 4 (by decide);have c5:=h0 5 (by decide);have c6:=h0 6 (by decide);have c7:=h0 7 (by decide);have c8:=h0 8 (by decide);have c9:=h0 9 (by decide);have y9:=h0 10 (by decide);have a0:=h0 11 (by decide);simp only [Mc.cs,aJc,aS0,aRg,aRh] at c0 c1 c2 c3 c4 c5 c6 c7 c8 c9 y9 a0;have e1:=R1.ext hx;obtain ⟨s0,s1⟩:=e1.q2;have l1:=e1.lt;have y3:=hid x0;clear hx hm ho h0 x0 e1;go_wp2_with fail
    by_cases h7:qS m.a m.b m.d p.at=true
    ·refine (aD8 m.a.x m.a.y m.a.z m.b.x m.b.y m.b.z m.d.x m.d.y m.d.z h3.a h3.b h3.d h3.z p.x p.y y8 h7 (r:=eK m.a m.b m.d p.at) rfl _).mono ?_
     rintro e w7 ⟨rfl,x7⟩;have y7:Ext wr w7:=aRo (show Ext wr (wr.alloc (.cells #[m.a.x,m.a.y,m.a.z,m.b.x,m.b.y,m.b.z,m.d.x,m.d.y,m.d.z,m.u,m.v,m.n] 155)) from X_) x7;have hX:=hid (q8.trans y7);have h9:=hid (z9.ext y7);have x8:=hid (x2.ext y7);have q4:=(aRr wr 155 [m.a.x,m.a.y,m.a.z,m.b.x,m.b.y,m.b.z,m.d.x,m.d.y,m.d.z,m.u,m.v,m.n]).ext x7;have k9:=q4.cell 9 rfl;have g8:=q4.cell 10 rfl;have g9:=q4.cell 11 rfl;have kl:=q4.lt;have e2:=R2.ext (q8.trans y7);obtain ⟨t0,t1⟩:=e2.q2;have tl:=e2.lt;obtain ⟨u,vv,hu,z7,z4,lu,lv⟩:=h3.q
     have e7:vv*n+u<n*n:=by
      have h:=aTb n (show vv+1<=n by omega);rw [aT1,aT2] at h;omega
     have z2:n*n<=64:=aSi hn.2 hn.2
     obtain ⟨q,hq⟩:∃q:Nat,vv*n+u=q:=⟨_,rfl⟩
     have x3:m.v*m.n+m.u=(q:Nat):=by rw [hu,z7,z4,<-hq,aTn,aUz]
     obtain ⟨pr,x1⟩:∃pr,m.v*m.n=pr:=⟨_,rfl⟩
     have z6:pr=((vv*n:Nat):Int):=by rw [<-x1,z7,z4,aUz]
     have i0:wrap64 (m.v*m.n)=pr:=by rw [x1];exact aD (by omega) (by omega)
     have i1:wrap64 (pr+m.u)=(q:Nat):=by rw [<-x1,x3];exact aD (by omega) (by omega)
     have a8:q<cols.length:=by rw [b6];omega
     have a9:q<als.length:=by rw [b3];omega
     obtain ⟨b4,o4,rfl,-,h4,ct⟩:=HC.at a8;obtain ⟨b5,o5,rfl,-,h5,dt⟩:=HA.at a9;have xt:=XW.trans hX.out;have d4:=(xt.cells.1 b4 _ h4).trans ct;have d5:=(xt.cells.1 b5 _ h5).trans dt
     obtain ⟨cv,z0⟩:∃c,cols[q]=c:=⟨_,rfl⟩
     obtain ⟨av,x9⟩:∃c,als[q]=c:=⟨_,rfl⟩
     rw [z0] at d4;rw [x9] at d5
     have e6:=hid (show rH p (k:Nat) cols als m=[⟨eK m.a m.b m.d p.at,(k:Nat),(q:Nat),cv,av⟩] by
      unfold rH;rw [if_pos h7,x3,aSc,aSe,aSe,aRs a8,aRs a9,z0,x9]
      rfl)
     have z3:=Z3.out
     have g4:b4<W0.heap.size:=by omega
     have g5:b5<W0.heap.size:=by omega
     have g6:w.heap.size+1+1<W0.heap.size:=by omega
     clear z3 h7 q4 e2 y7 x7 hu z7 z4 lu lv e7 z2 hq x3 x1 z6 ct dt z0 x9 xt h4 h5 h3 c0 c1 c2 c3 c4 c5 c6 c7 c8 c9 y9 a0 s0 s1 l1 d7 x4 d6;go_wp2_with fail;refine aH [([0,1,2,3,4,5,6,7,8,9,10,11,12,13,14],15),([],16),([],17)] 17 (fun w'=>∃d,w'=fT (CHt W0.heap.size) _ d) (by kernel_rfl) (by kernel_rfl) (aUb _ _) ?_;refine sc_ fun K hK=>?_;go_wp2_with fail;have b1:=hX.out.size;refine hK _ _ (.inr (aSn fun a ha=>aRv (w:=w7) X_ (aS5 ha b1))) ?_;clear hK K;have HB:=hid (aRr w7.drew 95 [(eK m.a m.b m.d p.at),(k:Nat),(q:Nat),cv,av]);have a6:=hid (x8.out.ext (show Ext w7 (w7.drew.alloc (.cells #[(eK m.a m.b m.d p.at),(k:Nat),(q:Nat),cv,av] 95)) from X_));have e3:=hid (h9.out.ext (show Ext w7 (w7.drew.alloc (.cells #[(eK m.a m.b m.d p.at),(k:Nat),(q:Nat),cv,av] 95)) from X_));have e4:=hid (hX.out.trans (show Ext w7 (w7.drew.alloc (.cells #[(eK m.a m.b m.d p.at),(k:Nat),(q:Nat),cv,av] 95)) from X_));have g3:=uV p (k:Nat) cols als M j;refine sc_ fun K hK=>?_
     refine iQ _ rfl _ _ rfl W0.heap.size _ _ rfl a6.out ⟨eK m.a m.b m.d p.at,(k:Nat),(q:Nat),cv,av⟩ w7.heap.size rfl (fun q hq=>by
       rcases (show q=0\/q=1\/q=2\/q=3\/q=4 by omega) with rfl|rfl|rfl|rfl|rfl
       ·exact HB.cell 0 rfl
       ·exact HB.cell 1 rfl
       ·exact HB.cell 2 rfl
       ·exact HB.cell 3 rfl
       ·exact HB.cell 4 rfl) (by have:=b8.out;omega) (by simp;omega) ?_
     intro v2 w9 q6 hg;have h8:=aE.rowE a6.out;have b2:=hid q6;have d2:=hid (aSt e4.out hg (fun k e=>(h8 k e).1));have b7:=hid (e3.out.grownE hg (by decide) (fun k e=>(h8 k e).2));have d9:=hid (fun a:Addr=>fun ha:CHt W0.heap.size a=>show w9.heap[a.block]?=w7.drew.heap[a.block]? from (hg.block _ (by have:a.block<W0.heap.size:=ha;simp;omega) (fun e=>by have h1:=(h8 _ e.symm).1;have h2:a.block<W0.heap.size:=ha;omega)).trans (aRv (w:=w7) X_ (aS5 ha b1)));clear q6 hg h8;go_wp2_with fail;refine hK _ _ (.inr (aSn fun a ha=>d9.out a ha)) ?_;clear hK K;refine sc_ fun K hK=>?_;go_wp2_with fail;refine l_ hK ?_;clear hK K;refine aQ ?_;go_wp2;go_roundw
     case rel=>exact ⟨j+1,by omega,by go_num,d2,b7,by rw [mM y3,e6.out];exact b2⟩
     case measure=>simp [intOf];omega
    ·refine (aGf m.a.x m.a.y m.a.z m.b.x m.b.y m.b.z m.d.x m.d.y m.d.z h3.a h3.b h3.d h3.z p.x p.y y8 (Bool.eq_false_iff.2 h7) _).mono ?_
     rintro e w7 ⟨rfl,x7⟩;have y7:Ext wr w7:=aRo (show Ext wr (wr.alloc (.cells #[m.a.x,m.a.y,m.a.z,m.b.x,m.b.y,m.b.z,m.d.x,m.d.y,m.d.z,m.u,m.v,m.n] 155)) from X_) x7;have hX:=hid (q8.trans y7);have h9:=hid (z9.ext y7);have x8:=hid (x2.ext y7);go_wp2;go_roundw
     case rel=>exact ⟨j+1,by omega,by go_num,hX.out,h9.out,by rw [mM y3];unfold rH;rw [if_neg h7,aUf];exact x8.out⟩
     case measure=>simp [intOf];omega
   ·obtain rfl:j=M.length:=by omega
    go_wp2;go_ret;refine ⟨_,rfl,?_,XW.trans q8⟩;rw [<-aEv];exact aE.low x2 (by have:=Z3.out;omega)
section
variable {P : Program}
theorem aAg (w:World) (dT sT ty elem:TypeId) (g o dLen dCap:Nat) (a:Addr) (sLen sCap:Nat) (cur:Array Value) (t:TypeId) (cs:List Value) (k m:Nat)
  (hu:P.underlying dT=some (.slice elem)) (hs:(P.info? elem).map (·.size)=some k)
  (hg:w.heap[g]?=some (.cells cur t (0,0))) (hm:m=Nat.min sLen dLen) (hn:cs.length=m*k)
  (hsrc:∀j v,cs[j]?=some v->w.cell? (a.add j)=some v) (hfit:o+cs.length<=cur.size) (h1:∀v∈cs,v.oneCell'=true) :
  (Builtin.copy_ #[dT,sT] ty #[.slice (some ⟨g,o,none⟩) dLen dCap,.slice (some a) sLen sCap]).run P w =
   .ok (goInt m) (w.setRow g (cur.toList.take o++cs++cur.toList.drop (o+cs.length)).toArray):=by
 have hl:=run_loadCells_list (P:=P) w a cs hsrc;have h0:=run_storeCells_at P g o t cs 0 cur w hg (by simpa using hfit) h1
 cases hq:P.info? elem with
 | none=>simp [hq] at hs
 | some i=>
  have hi:i.size=k:=by simpa [hq] using hs
  rw [hn] at hl;simp [Builtin.copy_,run_underlying hu,Builtin.lenOf,Builtin.firstCells,sizeOf,typeInfo,hq,hi,<-hm,hl,h0]
theorem tZ {w:World} {ops:Array Oper} {rest:List Oper} {o:Oper} {a:Act} {Q:Exit->Act->World->Prop} (hgd:o.guard=none) (d s:Operand) (dT sT:TypeId)
  (ho:o.op = .call { callee:=.builtin .copy,args:=#[d,s],argTypes:=#[dT,sT] }) (elem:TypeId) (k m:Nat) (hu:P.underlying dT=some (.slice elem)) (hsz:(P.info? elem).map (·.size)=some k)
  (g off dLen dCap:Nat) (ad:Addr) (sLen sCap:Nat) (hd:a.eval d = .slice (some ⟨g,off,none⟩) dLen dCap) (hs:a.eval s = .slice (some ad) sLen sCap)
  (cur:Array Value) (t:TypeId) (hg:w.heap[g]?=some (.cells cur t (0,0))) (cs:List Value) (hm:m=Nat.min sLen dLen) (hn:cs.length=m*k)
  (hsrc:∀j v,cs[j]?=some v->w.cell? (ad.add j)=some v) (hfit:off+cs.length<=cur.size) (h1:∀v∈cs,v.oneCell'=true)
  (h:wpList P ops Q rest (a.put o.dst (goInt m)) (w.setRow g (cur.toList.take off++cs++cur.toList.drop (off+cs.length)).toArray)):wpList P ops Q (o::rest) a w:=by
 refine wpList_plain hgd fun K hK=>?_;have h0:=aAg (P:=P) w dT sT o.type elem g off dLen dCap ad sLen sCap cur t cs k m hu hsz hg hm hn hsrc hfit h1;unfold Oper.wp;simp only [execOp,ho,resolve,invoke,builtin,Sem.run_bind,Sem.run_pure,Result.andThen_ok,aZj,aTr,aWv,hd,hs,h0];exact hK _ _ h
theorem sJ (w:World) (g:Nat) (cs:Array Value):w.grownBy (w.setRow g cs) (some g):=⟨rfl,rfl,rfl,by simp,fun k _ hk=>setRow_other w g k _ (fun e=>hk (by simp [e]))⟩
theorem mN {w:World} {ops:Array Oper} {rest:List Oper} {o:Oper} {a:Act} {Q:Exit->Act->World->Prop} (hgd:o.guard=none) (d s:Operand) (dT sT:TypeId)
  (ho:o.op = .call { callee:=.builtin .copy,args:=#[d,s],argTypes:=#[dT,sT] }) (elem:TypeId) (k m:Nat) (hu:P.underlying dT=some (.slice elem)) (hsz:(P.info? elem).map (·.size)=some k)
  (g off dLen dCap:Nat) (ad:Addr) (sLen sCap:Nat) (hd:a.eval d = .slice (some ⟨g,off,none⟩) dLen dCap) (hs:a.eval s = .slice (some ad) sLen sCap)
  (cur:Array Value) (t:TypeId) (hg:w.heap[g]?=some (.cells cur t (0,0))) (cs:List Value) (hm:m=Nat.min sLen dLen) (hn:cs.length=m*k)
  (hsrc:∀j v,cs[j]?=some v->w.cell? (ad.add j)=some v) (hfit:off+cs.length<=cur.size) (h1:∀v∈cs,v.oneCell'=true)
  (h:∀w',w'.heap[g]?=some (.cells (cur.toList.take off++cs++cur.toList.drop (off+cs.length)).toArray t (0,0))->w.grownBy w' (some g)->wpList P ops Q rest (a.put o.dst (goInt m)) w'):wpList P ops Q (o::rest) a w:=
 tZ hgd d s dT sT ho elem k m hu hsz g off dLen dCap ad sLen sCap hd hs cur t hg cs hm hn hsrc hfit h1 (h _ (setRow_heap w g cur _ t _ hg) (sJ w g _))
end
theorem sK (g:Nat) (t:TypeId):∀(vs:List Value) (o:Nat) (cur:List Value) (w:World),w.heap[g]?=some (.cells cur.toArray t (0,0))->o+vs.length<=cur.length ->
  w.setCells g o vs=w.setRow g (cur.take o++vs++cur.drop (o+vs.length)).toArray
 | [],o,cur,w,hg,_=>by
  simp only [World.setCells,aUf,aTu,aS0,aVq];rw [setRow_self w g cur.toArray t (0,0) hg]
 | v::rest,o,cur,w,hg,hl=>by
  have hi:o<cur.length:=by simp at hl;omega
  have e1:w.setCell ⟨g,o,none⟩ v=w.setRow g (cur.set o v).toArray:=by
   have:=setCell_eq_setRow w g o cur.toArray t (0,0) v hg
   simpa using this
  have ih:=sK g t rest (o+1) (cur.set o v) (w.setRow g (cur.set o v).toArray) (by have:=setRow_heap w g cur.toArray (cur.set o v).toArray t _ hg;exact this) (by simp at hl ⊢;omega);unfold World.setCells;rw [e1,ih,setRow_setRow]
  congr 2
  rw [List.take_set,List.drop_set,if_pos (by omega)];rw [aSd hi,List.set_append_right _ _ (by rw [aR9];omega)];simp only [aR9,aSw,aSl];rw [aT0 (by omega),bA5];simp only [aRw,aWt,aTf];rw [show o+1+rest.length=o+(rest.length+1) by omega]
theorem aG5 (fs:List aP) (p:Nat):(fs.take p).flatMap aP.cs=(fs.flatMap aP.cs).take (p*5):=by
 induction fs generalizing p with
 | nil=>simp
 | cons y l ih=>
  cases p with
  | zero=>simp
  | succ p=>
   rw [List.take_succ_cons,aTk,aTk,ih,aX9,show y.cs.length=5 from rfl,show (p+1)*5 - 5=p*5 by omega,aSp (show y.cs.length<=(p+1)*5 by rw [show y.cs.length=5 from rfl];omega)]
theorem iR (fs:List aP):(fs.flatMap aP.cs).length=fs.length*5:=gR (sz:=5) (fun _=>rfl) fs
theorem aPc {fs:List aP} {x:aP} (hp:p<=fs.length) (ht:L.take ((fs.length+1)*5)=(fs++[x]).flatMap aP.cs):∀j v,((fs.drop p).flatMap aP.cs)[j]?=some v->L[p*5+j]?=some v:=by
 intro j v h;have hj:=(aRk.1 h).1;rw [iR,aUg] at hj
 have e:(L.take ((fs.length+1)*5))[p*5+j]?=L[p*5+j]?:=by
  rw [aTo,if_pos (by omega)]
 have l1:((fs.take p).flatMap aP.cs).length=p*5:=by rw [iR,aR9];omega
 rw [<-e,ht,aSy]
 conv=>lhs;rw [<-aVq p fs]
 rw [aSy,aSl,aSm (by omega),l1,Nat.add_sub_cancel_left,aSz (by rw [iR,aUg];exact hj)];exact h
theorem aL0 {fs:List aP} {x:aP} (hp:p<=fs.length) (hL:(fs.length+1)*5<=L.length) (ht:L.take ((fs.length+1)*5)=(fs++[x]).flatMap aP.cs) {D C1:List Value}
  (hD:D=(fs.drop p).flatMap aP.cs) (h1:C1=L.take ((p+1)*5)++D++L.drop ((p+1)*5+D.length)) :
  (C1.take (p*5)++x.cs++C1.drop (p*5+x.cs.length)).take ((fs.length+1)*5)=(fs.take p++x::fs.drop p).flatMap aP.cs:=by
 have lx:x.cs.length=5:=rfl
 have lD:D.length=(fs.length - p)*5:=by rw [hD,iR,aUg]
 have l1:(L.take ((p+1)*5)).length=(p+1)*5:=by rw [aR9];omega
 have lA:((fs.take p).flatMap aP.cs).length=p*5:=by rw [iR,aR9];omega
 have eA:C1.take (p*5)=(fs.take p).flatMap aP.cs:=by
  have e2:(L.take ((fs.length+1)*5)).take (p*5)=L.take (p*5):=by rw [aY5,aT0 (by omega)]
  rw [h1,aSl,aX9,l1,show p*5 - (p+1)*5=0 by omega,aV7,aUf,aY5,aT0 (by omega),<-e2,ht,<-aG5,aX9,show p - fs.length=0 by omega,aV7,aUf]
 have eD:C1.drop (p*5+x.cs.length)=D++L.drop ((p+1)*5+D.length):=by
  rw [h1,aSl,List.drop_append,l1,lx,show p*5+5 - (p+1)*5=0 by omega,aXr,List.drop_of_length_le (by rw [l1];omega),aTf]
 rw [eA,eD,aSy,aTk,<-hD,aSl,<-aSl x.cs,<-aSl,aX9]
 have l3:((fs.take p).flatMap aP.cs++(x.cs++D)).length=(fs.length+1)*5:=by rw [aSa,aSa,lA,lx,lD];omega
 rw [l3,bA5,aV7,aUf,aSp (by omega)]
structure aCx (lo:Nat) (w:World) (O:Nat) (fs:List aP) (v:Value):Prop where
 box:Blk w O 180 [v,.func (.func 174) #[] #[]]
 low:lo<=O
 row:aE aP.cs lo 95 5 w v fs
theorem aCx.ext {O:Nat} {fs:List aP} (h:aCx lo w O fs v) (x:Ext w w'):aCx lo w' O fs v:=⟨h.box.ext x,h.low,h.row.ext x⟩
theorem aE.rowF {α : Type} {cs : α->List Value} {xs:List α} (h:aE cs lo e sz w v xs):∀k,v.ownBlock=some k->lo<=k/\∃c,w.heap[k]?=some (.cells c e (0,0)):=by
 intro k hk
 rcases h.2 with ⟨rfl,h4⟩|⟨g,cap,cur,rfl,hb,hg,_⟩
 ·cases hk
 ·simp only [aSg,aRl] at hk
  subst hk;exact ⟨hb,cur,hg⟩
theorem yH (x:aP):∀u∈x.cs,u.oneCell'=true:=by
 intro u hu;simp only [aP.cs,aR4,aRz,or_false] at hu
 rcases hu with rfl|rfl|rfl|rfl|rfl <;> rfl
theorem aJy (l:List aP):∀u∈l.flatMap aP.cs,u.oneCell'=true:=by
 intro u hu;obtain ⟨x,_,h⟩:=aV6.1 hu;exact yH x u h
theorem rI:(Tryz.prog.info? 95).map (·.size)=some 5:=by kernel_rfl
def C3f (b c d:Nat):Addr->Prop:=fun a=>a.block=b\/a.block=c\/a.block=d
@[go_sem] theorem aQ7 (b c d o:Nat):C3f b c d ⟨b,o,none⟩:=.inl rfl
@[go_sem] theorem aQ8 (b c d o:Nat):C3f b c d ⟨c,o,none⟩:=.inr (.inl rfl)
@[go_sem] theorem aQ9 (b c d o:Nat):C3f b c d ⟨d,o,none⟩:=.inr (.inr rfl)
theorem yI (w:World):Calls aRn 112 #[] w fun e w'=>e = .returned (.pointer (some ⟨w.heap.size,0,none⟩))/\aCx w.heap.size w' w.heap.size [] (.slice none 0 0)/\Ext w w':=by
 go_enter func112,ntmps112;go_wp2;go_ret;exact ⟨rfl,⟨aRr w _ _,aRi _,aE.nil _ _ _ _ _⟩,X_⟩
section
variable {P : Program} {ops : Array Oper} {Q : Exit -> Act -> World -> Prop} {md : aVw} {S : World -> Prop} {y : Nat} {R : Array Bool -> Act -> World -> Prop}
def sL (md:aVw) (ops:Array Oper) (y i:Nat):Bool:=
 match ops[y]? with
 | none=>false
 | some o=>o.after.any fun e=>aWc md e&&e.on==i
theorem aAh {i:Nat} (h:sL md ops y i=true) {listed:Array Bool} (hun:listed.getD i false=false):y∉aS8 md ops listed:=by
 intro hz;obtain ⟨_,oz,h1,h0⟩:=mem_ready.1 hz;unfold sL at h;simp only [h1] at h;obtain ⟨e,he,hb⟩:=Array.any_eq_true'.1 h;simp only [aRy,beq_iff_eq] at hb;have h2:=h0 e he hb.1;rw [hb.2,hun] at h2;cases h2
def uB (P:Program) (md:aVw) (ops:Array Oper) (Q:Exit->Act->World->Prop) (S:World->Prop) (R:Array Bool->Act->World->Prop):Nat->Array Bool->Act->World->Prop
 | 0,listed,a,w=>R listed a w
 | fuel+1,listed,a,w=>
  (aS8 md ops listed=[]->Q .normal a w) /\
  ∀i∈aS8 md ops listed,wpOp P ops Q i (fun a' w'=>S w'/\uB P md ops Q S R fuel (listed.setIfInBounds i true) a' w') a w
theorem yJ {g:Nat} (hR:∀l a w,R l a w->wpAny P md ops Q g l a w):∀(fuel:Nat) (listed:Array Bool) (a:Act) (w:World),uB P md ops Q S R fuel listed a w->wpAny P md ops Q (fuel+g) listed a w
 | 0,l,a,w,h=>by rw [aSf];exact hR l a w h
 | fuel+1,l,a,w,h=>by
  rw [Nat.succ_add];exact ⟨h.1,fun i hi=>wpOp_mono (fun a' w' h'=>yJ hR fuel _ a' w' h'.2) (h.2 i hi)⟩
theorem sM {i:Nat} {oi:Oper} {v:Value} (hi:ops[i]?=some oi) (hy1:sL md ops y i=true) (hR:∀l a w,R l a w->aS8 md ops l=[y]) (hsel:∀(j:Nat) (o:Oper) cs b,ops[j]?=some o->o.op≠.select cs b)
  (hQ:∀c a w,Q (.panic c) (a.put oi.dst v) w->Q (.panic c) a w) :
  ∀(fuel:Nat) (listed:Array Bool) (a:Act) (w:World),
   (∀j oj,ops[j]?=some oj->j≠i->listed.getD j true=false->(∀e∈oj.after,aWc md e=true->e.on≠i)->oi.apart ops oj=true) ->
   i∈aS8 md ops listed->YieldsIf P ops S oi v a->S w ->
   uB P md ops Q S R fuel (listed.setIfInBounds i true) (a.put oi.dst v) w->uB P md ops Q S R (fuel+1) listed a w:=by
 intro fuel
 induction fuel with
 | zero=>
  intro listed a w _ hr hy hS H;refine ⟨fun h=>(by rw [h] at hr;cases hr),fun j hj=>?_⟩
  by_cases h4:j=i
  ·subst h4;exact hy.wpOp hi hS ⟨hS,H⟩
  ·have h6:listed.getD i false=false:=getD_both (mem_ready.1 hr).1
   have:=ready_mono hj h4;rw [hR _ _ _ H] at this;simp only [aR4,aRz,or_false] at this;exact absurd (this▸hj) (aAh hy1 h6)
 | succ fuel ih=>
  intro listed a w h0 hr hy hS H;refine ⟨fun h=>(by rw [h] at hr;cases hr),fun j hj=>?_⟩
  by_cases h4:j=i
  ·subst h4;exact hy.wpOp hi hS ⟨hS,H⟩
  ·have h6:listed.getD i false=false:=getD_both (mem_ready.1 hr).1
   have h1:=H.2 j (ready_mono hj h4);obtain ⟨h7,oj,q0,h8⟩:=mem_ready.1 hj
   have h9:∀e∈oj.after,aWc md e=true->e.on≠i:=fun e he hb heq=>by
    have h1:=h8 e he hb;rw [heq,h6] at h1;cases h1
   have h2:=wpOp_putIf q0 (h0 j oj q0 h4 h7 h9) (fun cs b=>hsel i oi cs b hi) (fun cs b=>hsel j oj cs b q0) hQ hy h1
   have h5:∀k ok,ops[k]?=some ok->k≠i->(listed.setIfInBounds j true).getD k true=false ->
     (∀e∈ok.after,aWc md e=true->e.on≠i)->oi.apart ops ok=true:=fun k ok hk hki h6 hno=>by
    refine h0 k ok hk hki ?_ hno
    by_cases q2:j=k
    ·subst q2;exact h7
    ·rw [getD_set_ne true q2] at h6;exact h6
   refine wpOp_mono (fun a' w' h3=>?_) h2;have q1:S w':=h3.2.1;refine ⟨q1,ih (listed.setIfInBounds j true) a' w' h5 (ready_mono hr (Ne.symm h4)) h3.1 q1 ?_⟩;rw [Array.setIfInBounds_comm _ _ h4];exact h3.2.2
def fE (md:aVw) (ops:Array Oper) (z y:Nat):List (Bool×Nat)->Array Bool->Bool
 | [],listed=>aS8 md ops listed==[y]
 | (true,i)::r,listed=>i != z&&sL md ops y i&&Region.free md ops listed i&&(aS8 md ops listed).contains i&&fE md ops z y r (listed.setIfInBounds i true)
 | (false,i)::r,listed=>i != z&&(aS8 md ops listed==[i])&&fE md ops z y r (listed.setIfInBounds i true)
def jY:List (Bool×Nat)->Array Bool->Array Bool
 | [],l=>l
 | (_,i)::r,l=>jY r (l.setIfInBounds i true)
theorem lS {z:Nat}:∀(plan:List (Bool×Nat)) (l:Array Bool),fE md ops z y plan l=true->aS8 md ops (jY plan l)=[y]
 | [],l,h=>by simpa [fE,jY] using h
 | (true,i)::r,l,h=>by
  simp only [fE,aRy] at h;exact lS r _ h.2
 | (false,i)::r,l,h=>by
  simp only [fE,aRy] at h;exact lS r _ h.2
theorem hZ {z:Nat} {C:Act->World->Prop} (hsel:aU0 ops=true) (hQ:∀c a a' w,Q (.panic c) a w->Q (.panic c) a' w) :
  ∀(plan:List (Bool×Nat)) (listed:Array Bool) (a:Act) (w:World),fE md ops z y plan listed=true->S w->eZ P ops (Exit.then C Q) S z plan a w->uB P md ops Q S (fun l a w=>l=jY plan listed/\C a w) plan.length listed a w
 | [],listed,a,w,hB,_,h=>⟨rfl,h⟩
 | (true,i)::r,listed,a,w,hB,hS,h=>by
  have hend:=lS _ _ hB;simp only [fE,aRy,bne_iff_ne] at hB;obtain ⟨⟨⟨⟨hiz,hw1⟩,hf⟩,hr⟩,hB'⟩:=hB;obtain ⟨o,ho,ht⟩:=h
  have hR:∀l a w,(l=jY ((true,i)::r) listed/\C a w)->aS8 md ops l=[y]:=fun l a w k=>by rw [k.1];exact hend
  unfold vW at ht
  split at ht
  ·rename_i hw
   obtain ⟨v,hv,hK⟩:=ht
   exact sM ho hw1 hR (aUe hsel) (fun c a w=>hQ c _ _ w) r.length listed a w (aU5 ho hf) (by simpa using hr) (.inl ⟨hw,hv⟩) hS
    (hZ hsel hQ r _ _ _ hB' hS hK)
  ·rename_i hw
   exact sM ho hw1 hR (aUe hsel) (fun c a w=>hQ c _ _ w) r.length listed a w (aU5 ho hf) (by simpa using hr) (.inr ⟨by simpa using hw,rfl⟩) hS
    (hZ hsel hQ r _ _ _ hB' hS ht)
 | (false,i)::r,listed,a,w,hB,hS,h=>by
  simp only [fE,aRy,beq_iff_eq,bne_iff_ne] at hB;obtain ⟨⟨hiz,hr⟩,hB'⟩:=hB;obtain ⟨o,ho,ht⟩:=h;refine ⟨fun h0=>(by rw [hr] at h0;cases h0),fun j hj=>?_⟩;rw [hr] at hj
  obtain rfl:j=i:=by simpa using hj
  have h5:∀a' w',((j=z\/S w')/\eZ P ops (Exit.then C Q) S z r a' w')->(S w'/\uB P md ops Q S (fun l a w=>l=jY r (listed.setIfInBounds j true)/\C a w) r.length (listed.setIfInBounds j true) a' w'):=fun a' w' ⟨k1,k2⟩=>
   ⟨k1.resolve_left hiz,hZ hsel hQ r _ _ _ hB' (k1.resolve_left hiz) k2⟩
  unfold wpOp;simp only [ho];unfold wpList at ht
  split
  ·rename_i hw
   rw [if_pos hw] at ht
   rcases ht with ht|⟨h1,h2⟩
   ·refine .inl ?_
    unfold Oper.wp at ht
    have h3:o.upon P a (wpList P ops (Exit.then (fun a' w'=>(j=z\/S w')/\eZ P ops (Exit.then C Q) S z r a' w') (Exit.then C Q)) []) Q ((execOp a.eval o).run P w):=by
     cases h6:(execOp a.eval o).run P w with
     | ok n w'=>rw [h6] at ht;cases n <;> exact ht
     | halt x w'=>rw [h6] at ht;cases x <;> exact ht
    have h4:o.wp P a w (wpList P ops (Exit.then (fun a' w'=>(j=z\/S w')/\eZ P ops (Exit.then C Q) S z r a' w') (Exit.then C Q)) []) Q:=h3;exact Oper.wp_mono (fun a' w' hk=>h5 a' w' hk) h4
   ·exact .inr ⟨h1,h2⟩
  ·rename_i hw
   rw [if_neg hw] at ht;exact h5 _ _ ht
end
def aEx (ops:Array Oper) (y:Nat) (st1 st2:List (List Nat×Nat)):Bool:=
 aU0 ops&&fN .any ops 99&&fE .any ops 99 y (cB st1) (aVr ops.size false)&&gX .any ops 99 (cB st2) (jY (cB st1) (aVr ops.size false))&&mD ops st1&&mD ops st2&&((cB st1).length+(cB st2).length==ops.size)
theorem uC {P:Program} {Q:Exit->Act->World->Prop} {id:Nat} {a:Act} {w:World} {l:List Oper} (st1 st2:List (List Nat×Nat)) (y:Nat) (S1:World->Prop) (hm:P.follows .mixedOrders=true)
  (hB:aEx l.toArray y st1 st2=true) (hS:S1 w.drew)
  (h:cO P l.toArray (Exit.then (fun a w=>∃S2:World->Prop,S2 w/\cO P l.toArray (NoPanic Q) S2 99 st2 a w) (NoPanic Q)) S1 99 st1 a w.drew):(Code.region id l.toArray true).wp P Q a w:=by
 unfold aEx at hB;simp only [aRy,beq_iff_eq] at hB;obtain ⟨⟨⟨⟨⟨⟨h1,h2⟩,h3⟩,h4⟩,h5⟩,h6⟩,h7⟩:=hB;refine wp_region_noPanic (wp_region_any hm ?_);have hp:=gO st1 a w.drew h5 h;have hE:=hZ h1 (fun c a a' w k=>k) _ _ a w.drew h3 hS hp
 have hA:=yJ (g:=(cB st2).length) (fun l' a w hk=>by
  obtain ⟨rfl,S2,h0,h8⟩:=hk
  exact iG _ _ _ _ (fO h1 h2 (fun c a a' w k=>k) _ _ a w h4 (fun _ _=>h0) (gO st2 a w h6 h8))) _ _ _ _ hE
 rw [h7] at hA
 simpa using hA
theorem aEy {P:Program} {ops:Array Oper} {Q:Exit->Act->World->Prop} {S:World->Prop} {C:Act->World->Prop} {a:Act} {w:World} (h:C a w):cO P ops (Exit.then C Q) S 99 [] a w:=h
theorem aCy {P:Program} {ops:Array Oper} {Q:Exit->Act->World->Prop} {st:List (List Nat×Nat)} {a:Act} {w:World} (h:cO P ops Q (fun _=>True) 99 st a w):∃S2:World->Prop,S2 w/\cO P ops Q S2 99 st a w:=⟨_,trivial,h⟩
theorem aNt {i:Nat} (h:i<12):i=0\/i=1\/i=2\/i=3\/i=4\/i=5\/i=6\/i=7\/i=8\/i=9\/i=10\/i=11:=by omega
theorem aCz (w:World) (zs cs:Array Value) (t:TypeId):(w.alloc (.cells zs t)).setRow w.heap.size cs=w.alloc (.cells cs t):=by
 unfold World.setRow World.alloc
 congr 1
 apply Array.ext_getElem?;intro k;simp only [Array.getElem?_modify,Array.getElem?_push]
 by_cases hk:k=w.heap.size
 ·subst hk;simp
 ·simp [hk,Ne.symm hk]
theorem dP (w0:World) (zs:Array Value) (t:TypeId) (hgd:o.guard=none) (ty:TypeId) (x y:Operand) (ho:o.op = .store ty x y)
  (hd:o.dst=none) (cells:Array Value) (N:Nat) (hN:w0.heap.size=N) (hx:a.eval x = .pointer (some ⟨N,0,none⟩)) (hy:a.eval y = .agg cells)
  (hi:(P.info? ty).map (·.size)=some cells.size) (hold:zs.size=cells.size) (h1:cells.all (·.oneCell')=true)
  (h:wpList P ops Q rest a (w0.alloc (.cells cells t))):wpList P ops Q (o::rest) a (w0.alloc (.cells zs t)):=by
 subst hN;refine wpList_store_rowTo hgd ty x y ho hd w0.heap.size cells hx hy t zs (Go.Deep.blk_alloc_new _ _) hi hold h1 ?_;rw [aCz];exact h
theorem Blk.rowB {cs:List Value} (h:Blk w g t cs) (ds:List Value):Blk (w.setRow g ds.toArray) g t ds:=setRow_heap _ _ _ _ _ _ h
theorem Blk.otherRowB {g':Nat} {cs:List Value} (h:Blk w g t cs) (ne:g≠g') (ds:Array Value):Blk (w.setRow g' ds) g t cs:=h.of (setRow_other _ _ _ _ ne)
theorem Ext.setRowB {w1:World} (h:Ext w w1) (hg:w.heap.size<=g) (cs:Array Value):Ext w (w1.setRow g cs):=
 aWn h ⟨rfl,rfl,rfl,by simp,fun k hk=>setRow_other _ _ _ _ (by omega)⟩
theorem aC0 {fn:Func} {R:Ending->World->Prop} {p:Tmp} {ty:TypeId} {cs:List Value} (h:fn.results=#[.cell p ty]) (hp:a.tmps.getD p undef = .pointer (some ⟨g,0,none⟩)) (hb:Blk w g t cs)
  (d:TypeDesc) (hu:P.underlying ty=some d) (hd:(match d with | .struct _ | .array _ _=>true|_=>false)=true) (hi:(P.info? ty).map (·.size)=some cs.toArray.size) (hdf:a.defers=[]) (hR:R (.returned (.agg cs.toArray)) w):bodyPost P fn R .ret a w:=
 bodyPost_ret (results_cell_row h _ _ g t cs.toArray (0,0) d hp hb hu hd hi) hdf hR
theorem aEz {fn:Func} {p u:Tmp} {ty:TypeId} {cs:List Value} (h:fn.results=#[.cell p ty,.tmp u]) (tmps:Array Value) (w:World) (hp:tmps.getD p undef = .pointer (some ⟨g,0,none⟩)) (hb:Blk w g t cs)
  (d:TypeDesc) (hu:P.underlying ty=some d) (hd:(match d with | .struct _ | .array _ _=>true|_=>false)=true) (hi:(P.info? ty).map (·.size)=some cs.toArray.size):(results fn tmps).run P w = .ok (.tuple #[.agg cs.toArray,tmps.getD u undef]) w:=by
 rw [results_cell_tmp h,hp];simp [asAddr,run_loadVar_row w g t ty cs.toArray (0,0) d hb hu hd hi,Result.andThen]
theorem iS:(Tryz.prog.info? 127).map (fun i=>i.size)=some 26:=by kernel_rfl
def C2b (b c:Nat):Addr->Prop:=fun a=>a.block=b\/a.block=c
@[go_sem] theorem aRa (b c o:Nat):C2b b c ⟨b,o,none⟩:=.inl rfl
@[go_sem] theorem aRb (b c o:Nat):C2b b c ⟨c,o,none⟩:=.inr rfl
theorem aM.trans {a b c:World} (h:aM lo hi a b) (k:aM lo hi b c):aM lo hi a c:=fun i h1 h2=>(k i h1 h2).trans (h i h1 h2)
theorem aE.flatsI {α : Type} {cs : α->List Value} {ls : α->List Int} {xs:List α} {F:Nat->Int} (h:aE cs lo e sz w v xs) (hsz:0<sz) (hcs:∀x,cs x=(ls x).map (.int .i64)) (hl:∀x,(ls x).length=sz)
  (hI:∀x∈xs,∀n∈ls x,I64 n) (hF:∀i x k,xs[i]?=some x->k<sz->F (i*sz+k)=(ls x).getD k 0):dH sz lo w.heap.size w v xs.length F:=by
 have hc:∀x,(cs x).length=sz:=fun x=>by rw [hcs,aSv,hl]
 have h2:∀i,i<xs.length*sz->∃x,xs[i / sz]?=some x/\F i=(ls x).getD (i % sz) 0/\(ls x)[i % sz]?=some (F i):=fun i hi=>by
  have hk:i / sz<xs.length:=aTs (by rw [Nat.mul_comm];exact hi)
  obtain ⟨x,hx⟩:∃x,xs[i / sz]?=some x:=⟨_,aRs hk⟩
  have hm:=aT4 i hsz;have e1:=hF (i / sz) x (i % sz) hx hm;rw [Nat.div_add_mod'] at e1;refine ⟨x,hx,e1,?_⟩;rw [e1,aSe,aRs (by rw [hl];exact hm)]
  rfl
 rcases h.2 with ⟨rfl,h4⟩|⟨g,cap,cur,rfl,hb,hg,hcap,hm,hs,ht⟩
 ·exact ⟨none,0,by rw [h4],by omega,by unfold maxLen;omega,fun i hx=>by rw [h4] at hx;omega⟩
 ·refine ⟨_,cap,rfl,hcap,hm,fun i hx=>?_⟩
  obtain ⟨x,h0,h3,h1⟩:=h2 i hx;refine ⟨hI x (aR7 h0) _ (aR7 h1),g,0,rfl,hb,(aR3.1 hg).1,?_⟩;have e1:=mX hc h0 (i % sz) (aT4 i hsz);rw [Nat.div_add_mod'] at e1;rw [hcs,aS7,h1] at e1;rw [<-ht,aTo,if_pos hx] at e1;rw [aSf]
  show w.cell? ⟨g,i,none⟩=some (.int .i64 (F i))
  simp only [Option.map_some] at e1;rw [<-e1];simp only [aTi,hg];simp
def TuR (lo:Nat) (w:World) (v:Value) (xs:List Int):Prop:=∃g cs,lo<=g/\Blk w g 3 cs/\∀w',Blk w' g 3 cs->aB lo w' v xs
theorem TuR.ext (h:TuR lo w v xs) (x:Ext w w'):TuR lo w' v xs:=by
 obtain ⟨g,cs,h1,h2,h3⟩:=h;exact ⟨g,cs,h1,h2.ext x,h3⟩
theorem aB.tur (h:aB lo w v xs) (h1:1<=xs.length):TuR lo w v xs:=by
 obtain ⟨⟨k1,k2⟩,k3⟩:=h
 rcases k2 with ⟨rfl,h4⟩|⟨g,cap,cur,rfl,hb,hg,hcap,hm,hs,ht⟩
 ·omega
 ·exact ⟨g,cur.toList,hb,hg,fun w' hw=>⟨⟨k1,.inr ⟨g,cap,cur,rfl,hb,hw,hcap,hm,hs,ht⟩⟩,k3⟩⟩
theorem TuR.set (h:TuR lo w v xs) {A:Nat} (hb:Blk w A t us) (ht:t≠3) (i:Nat) (u:Value):TuR lo (w.setCell ⟨A,i,none⟩ u) v xs:=by
 obtain ⟨g,cs,h1,h2,h3⟩:=h;refine ⟨g,cs,h1,h2.other (fun e=>?_) u,h3⟩;simp only at e;subst e;unfold Blk at h2 hb;rw [h2] at hb;simp only [aRl,aSx] at hb;exact ht hb.2.1.symm
theorem aJz (b off n cap:Nat) (w:World):(binOp .eql 24 (.slice (some ⟨b,off,none⟩) n cap) (.slice none 0 0)).run aRn w = .ok (.bool false) w:=by
 simp only [binOp];simp [Op.equal,Op.maxDepth,Lib.run_equalIn_slice_nil w 9999 24 3 (some ⟨b,off,none⟩) n cap 0 0 underlying24]
theorem aG6 (lo hi:Nat) (u:Value) (xs:List Int) (w:World) (hu:aS lo hi w u xs) (hh:hi<=w.heap.size) (h1:1<=xs.length) (h2:xs.length<=1000) :
  Calls aRn 164 #[u] w fun e w'=>∃v',e = .returned v'/\aB w.heap.size w' v' xs/\Ext w w':=by
 obtain ⟨a,cap,rfl,HU⟩:=hu.open;obtain ⟨b,h7,rfl,q0,q1,_⟩:=HU.at (k:=0) (by omega);have l1:=HU.le;have l2:=HU.cap;clear hu;go_enter func164,ntmps164
 have HC:∀i y,xs[i]?=some y->I64 y/\(w.alloc (.cells #[] 3)).cell? ⟨b,h7+i,none⟩=some (.int .i64 y):=by
  intro i y hy;obtain ⟨h3,b',h9,e,h4,h5,h6⟩:=HU.cell i y hy;simp only [aRl,Addr.mk.injEq,and_true] at e;obtain ⟨rfl,rfl⟩:=e;exact ⟨h3,(((aRu w).alloc _).cells.1 b _ (by omega)).trans h6⟩
 have HC:=hid HC;have h8:=fun w=>aJz b h7 xs.length cap w;go_wp2_with (at_builtin;refine cD _ rfl _ _ rfl w.heap.size (.slice (some ⟨w.heap.size,0,none⟩) 0 0) [] xs rfl (aB.fresh0 (aRi _) (aRr w 3 [])) b h7 cap rfl HC (by simp;omega) (by simp) ?_;intro v' w1 h0 hg;obtain ⟨a',c',rfl,_⟩:=h0.form);go_ret;exact ⟨_,rfl,by simpa using h0,((aRu w).alloc _).grown hg (fun k e=>by simp [aSg] at e;omega)⟩
theorem aAi (w:World) (base:Nat) (t ty e:TypeId) (i:TypeInfo) (z:Value) (size bytes:Nat) (ht:P.underlying t=some (.slice e)) (hi:P.info? e=some i) (hz:i.zero=some z)
  (hsize:i.size=size) (hby:i.bytes=bytes) (hzs:z.cells.size=size) (hsz:0<size)
  (v:Value) (n:Nat) (xs:List Value) (hown:w.ownsRow base e size v n xs)
  (a:Addr) (m c:Nat) (news:List Value) (hl:news.length=m*size) (hnews:∀j u,news[j]?=some u->w.cell? (a.add j)=some u) (h1:∀u∈news,u.oneCell'=true)
  (h63:n+m<=maxLen) (hbytes:(n+m)*bytes<=140737488355328) (hbase:base<=w.heap.size) :
  ∃v' w',(Builtin.append_ #[t,t] ty #[v,.slice (some a) m c]).run P w = .ok v' w'/\w'.ownsRow base e size v' (n+m) (xs++news)/\w.grownBy w' v.ownBlock/\(∀k,v'.ownBlock=some k->v.ownBlock=some k\/w.heap.size<=k):=by
 obtain ⟨v',w',hr,h2,h3,-⟩:=run_append_own (P:=P) w base t ty e i z size bytes ht hi hz hsize hby hzs hsz v n xs hown a m c news hl hnews h1 h63 hbytes hbase;refine ⟨v',w',hr,h2,h3,?_⟩
 rcases hown.2 with ⟨rfl,rfl⟩|⟨g,cap,cur,rfl,hbg,hg,hnc,hcm,hcs,htake⟩
 ·have hx:xs=[]:=aV9 (by simpa using hown.1)
  subst hx;obtain ⟨v2,w2,h0,k2,-,-⟩:=run_append_own (P:=P) w w.heap.size t ty e i z size bytes ht hi hz hsize hby hzs hsz (.slice none 0 0) 0 [] (aVd _ _ _ _) a m c news hl hnews h1 h63 hbytes (aRi _);rw [hr] at h0;simp only [Result.ok.injEq] at h0;obtain ⟨rfl,rfl⟩:=h0;exact fun k hk=>.inr (k2.lt k hk).1
 ·by_cases h4:n+m<=cap
  ·subst hsize
   have h6:n*i.size+news.length<=cur.size:=by rw [hl,hcs,<-aT1];exact aTb _ h4
   have h0:=run_append_room (P:=P) w t ty e i ht hi g n cap cur hg a m c news hl hnews h1 h4 h6;rw [hr] at h0;simp only [Result.ok.injEq] at h0;obtain ⟨rfl,-⟩:=h0;exact fun k hk=>.inl hk
  ·subst hsize
   subst hby
   have h7:n+m<=9223372036854775807:=by simp only [maxLen] at h63;omega
   have h5:∀j u,xs[j]?=some u->w.cell? ((⟨g,0,none⟩:Addr).add j)=some u:=hown.cells (g:=g) rfl;have h0:=run_append_grow (P:=P) w t ty e i z ht hi hz ⟨g,0,none⟩ n cap xs hown.1 h5 a m c news hl hnews (by omega) (by omega) (growslice_fits (by omega) hbytes);rw [hr] at h0;simp only [Result.ok.injEq] at h0;obtain ⟨rfl,-⟩:=h0;intro k hk;simp only [aSg,aRl] at hk;subst hk;exact .inr (aRi _)
theorem iT {α : Type} (cs : α->List Value) (e:TypeId) (sz bytes:Nat) (z:Value) (w:World) (hg:o.guard=none) (s x:Operand) (t:TypeId)
  (hop:o.op=Op.call { callee:=Callee.builtin Builtin.append,args:=#[s,x],argTypes:=#[t,t] }) (ht:Tryz.prog.underlying t=some (.slice e))
  (hinfo:(Tryz.prog.info? e).map (fun i=>(i.zero,i.size,i.bytes))=some (some z,sz,bytes)) (hzs:z.cells.size=sz) (hsz:0<sz) (hby:bytes<=1000) (hc:∀x,(cs x).length=sz)
  (lo:Nat) (v:Value) (xs:List α) (hs:a.eval s=v) (hown:aE cs lo e sz w v xs)
  (y : α) (b:Nat) (hx:a.eval x = .slice (some ⟨b,0,none⟩) 1 1) (hcell:∀j,j<sz->w.cell? ⟨b,j,none⟩=(cs y)[j]?) (h1:∀u∈cs y,u.oneCell'=true) (hlen:xs.length<1000000) (hlo:lo<=w.heap.size)
  (hK:∀v' w',aE cs lo e sz w' v' (xs++[y])->w.grownBy w' v.ownBlock->(∀k,v'.ownBlock=some k->v.ownBlock=some k\/w.heap.size<=k)->wpList aRn ops Q rest (a.put o.dst v') w'):wpList aRn ops Q (o::rest) a w:=by
 obtain ⟨i0,h0,h6,h7,h8⟩:=info_parts hinfo;refine wpList_plain hg fun _ hKK=>?_
 obtain ⟨v',w',hr,h2,h3,h4⟩:=aAi (P:=aRn) w lo t o.type e i0 z sz bytes ht h0 h6 h7 h8 hzs hsz v xs.length _ hown ⟨b,0,none⟩ 1 1 (cs y) (by rw [hc,aT2]) (by
  intro j u hj
  have h5:j<sz:=by rw [<-hc y];exact (aRk.1 hj).1
  have ea:(⟨b,0,none⟩:Addr).add j=⟨b,j,none⟩:=by
   unfold Addr.add
   split <;> simp_all
  rw [ea,hcell j h5,hj]) h1 (by unfold maxLen;omega) (by
   have:(xs.length+1)*bytes<=1000000*1000:=aSi (by omega) hby
   omega) hlo
 unfold Oper.wp execOp;simp only [hop,resolve,invoke,builtin,Sem.run_bind,Sem.run_pure,Result.andThen_ok,aZj,aTr,aWv,hs,hx,hr];refine hKK _ _ (hK v' w' ?_ h3 h4);unfold aE;rw [aSa,aSy]
 simpa using h2
def oP (u:Value×Value):List Value:=[u.1,u.2]
theorem aE0 {O:Nat} {fs:List aP} (h:aCx lo w O fs v) (x:aP) (hl:fs.length<=100000) :
  Calls aRn 113 #[.pointer (some ⟨O,0,none⟩),.agg #[x.d,x.s,x.c,x.col,x.al]] w fun e w'=>∃v',e = .returned (.tuple #[])/\aCx lo w' O (tG x fs) v'/\KN lo O 95 w w'/\(∀b,b<w.heap.size->b≠O->v.ownBlock≠some b->w'.heap[b]?=w.heap[b]?)/\(∀k,v'.ownBlock=some k->v.ownBlock=some k\/w.heap.size<=k):=by
 have x0:Ext w (w.alloc (.cells #[x.d,x.s,x.c,x.col,x.al] 95)):=X_;have hB:=aRr w 95 [x.d,x.s,x.c,x.col,x.al]
 obtain ⟨W0,x4⟩:∃W0,w.alloc (.cells #[x.d,x.s,x.c,x.col,x.al] 95)=W0:=⟨_,rfl⟩
 rw [x4] at x0
 have hB:Blk W0 w.heap.size 95 [x.d,x.s,x.c,x.col,x.al]:=by rw [<-x4];exact hB
 have c4:O<w.heap.size:=h.box.lt;have z6:=hid h;have HP:=hid (h.ext x0);have z8:=hid x0;have HB:=hid hB;have a3:=hid x4;have y2:=h.low
 obtain ⟨p,hp⟩:∃p,fG x fs=p:=⟨_,rfl⟩
 have h8:p<=fs.length:=hp▸aAw x fs;have x2:∀k,k<p->∃hk:k<fs.length,x.lt fs[k]=false:=fun k hk=>aAx (hp.symm▸hk)
 have q9:∀f,fs[p]?=some f->x.lt f=true:=fun f hf=>by
  obtain ⟨h1,h2⟩:=aRk.1 hf;subst h2;subst hp;exact aAy h1
 have q8:tG x fs=fs.take p++x::fs.drop p:=by rw [<-hp];exact aHs x fs
 have a1:=hid x2;have a0:=hid q9;have z2:=hid q8;clear x2 q9 q8 hp;obtain ⟨a,cap,rfl,b8⟩:=h.row.form;clear h x0 hB x4;go_enter func113,ntmps113
 go_upto_block 0 with fail
 rw [a3]
 go_cut [4] from 5 to 29 (fun i wx=>i = .int .i64 (p:Nat)/\Ext W0 wx)
 case first=>
  go_wp2_with fail
  go_loopw [4] (fun i wr=>∃k:Nat,k<=p/\i = .int .i64 (k:Nat)/\Ext W0 wr) (fun i _=>fs.length - (intOf i).toNat)
  case atStart=>exact ⟨0,by omega,rfl,aRu _⟩
  case round=>
   obtain ⟨k,hk,rfl,hx⟩:=hrel;have HX:=hid hx;have c1:=(HP.ext hx).box.cell 0 rfl;have c2:=(HP.ext hx).box.cell 1 rfl;have h9:=hid (HB.ext hx);obtain ⟨b0,b1,b2,b3,b4⟩:=h9.q5;have zx:=h9.lt;have h6:=hid (HP.ext hx);clear hx
   rcases aSo k fs.length with x8|hge
   ·obtain ⟨f,hf⟩:∃f,fs[k]?=some f:=⟨_,aRs x8⟩
    obtain ⟨g,x7,he,-,c3,a7,c0,-,h3⟩:=aE.at h6.row (fun _=>rfl) hf;simp only [aSb,true_and] at he;obtain ⟨rfl,rfl⟩:=he;have d0:=h3 0 (by decide);have d1:=h3 1 (by decide);have d2:=h3 2 (by decide);have d3:=h3 3 (by decide);have d4:=h3 4 (by decide);simp only [aP.cs,aS0,aRg,aRh] at d0 d1 d2 d3 d4
    obtain ⟨r,hr⟩:∃r,x.cmp f=r:=⟨_,rfl⟩
    have HR:=hid hr;have HF:=hid hf
    have y3:decide (r<0)=x.lt f:=by rw [<-hr];exact aP.cmp_lt x f
    have z7:=hid y3;clear h3 hr hf y3
    rcases aSo k p with hkp|hkp
    ·have b9:0<=r:=by
      obtain ⟨b7,hq⟩:=a1 k hkp
      have e1:fs[k]=f:=by have:=HF.out;rw [aRs b7] at this;exact aTh this
      rw [e1] at hq;have:=z7.out;rw [hq] at this;have:=of_decide_eq_false this;omega
     go_wp2_with fail;refine aH [([0,1,2,3,4,5,6,7,8,9,10,11,12,13,14,15,16,17,18,19],20),([21],22)] 99 (fun w'=>∃d,w'=fT (C3f O w.heap.size g) _ d) (by kernel_rfl) (by kernel_rfl) (aUb _ _) ?_;refine sc_ fun K hK=>?_;go_wp2_with fail;refine r_ (uK HR _) fun w1 x1=>?_;have Y1:=hid (aRo (w:=wr) X_ x1);have X1:=hid (HX.trans Y1);clear x1;go_wp2_with fail;refine hK _ _ (.inr (aSn fun a ha=>Y1.block (by rcases ha with ha|ha|ha <;> rw [ha] <;> omega))) ?_;clear hK K;refine sc_ fun K hK=>?_;go_wp2_with fail;go_wp2_with fail;refine hK _ _ (.inr (aSn fun a ha=>Y1.block (by rcases ha with ha|ha|ha <;> rw [ha] <;> omega))) ?_;clear hK K;refine aQ ?_;go_wp2;go_roundw
     case rel=>exact ⟨k+1,by omega,by go_num,X1⟩
     case measure=>simp [intOf];omega
    ·obtain rfl:k=p:=by omega
     have b9:r<0:=by
      have:=z7.out;rw [a0 f HF] at this;exact of_decide_eq_true this
     go_wp2_with fail;refine aH [([0,1,2,3,4,5,6,7,8,9,10,11,12,13,14,15,16,17,18,19],20),([21],22)] 99 (fun w'=>∃d,w'=fT (C3f O w.heap.size g) _ d) (by kernel_rfl) (by kernel_rfl) (aUb _ _) ?_;refine sc_ fun K hK=>?_;go_wp2_with fail;refine r_ (uK HR _) fun w1 x1=>?_;have Y1:=hid (aRo (w:=wr) X_ x1);have X1:=hid (HX.trans Y1);clear x1;go_wp2_with fail;refine hK _ _ (.inr (aSn fun a ha=>Y1.block (by rcases ha with ha|ha|ha <;> rw [ha] <;> omega))) ?_;clear hK K;refine sc_ fun K hK=>?_;go_wp2_with fail;go_wp2_with fail;refine hK _ _ (.inr (aSn fun a ha=>Y1.block (by rcases ha with ha|ha|ha <;> rw [ha] <;> omega))) ?_;clear hK K;refine aQ ?_;go_wp2
     go_meet
     exact ⟨rfl,X1⟩
   ·obtain rfl:k=p:=by omega
    obtain rfl:k=fs.length:=by omega
    go_wp2_with fail;refine aH [([0,1,2,3,4,5,6,7,8,9,10,11,12,13,14,15,16,17,18,19],20),([21],22)] 99 (fun w'=>∃d,w'=fT (C3f O O O) _ d) (by kernel_rfl) (by kernel_rfl) (aUb _ _) ?_;refine sc_ fun K hK=>?_;go_wp2_with fail;go_wp2_with fail;refine hK _ _ (.inr (aSn fun a ha=>rfl)) ?_;clear hK K;refine sc_ fun K hK=>?_;go_wp2_with fail;go_wp2_with fail;refine hK _ _ (.inr (aSn fun a ha=>rfl)) ?_;clear hK K;refine aQ ?_;go_wp2
    go_meet
    exact ⟨rfl,HX.trans (aSk (aRu _))⟩
 case rest=>
  obtain ⟨rfl,hx⟩:=hcut;have HX:=hid hx;have h6:=hid (HP.ext hx);have h9:=hid (HB.ext hx);have zx:=h9.lt;have c1:=h6.box.cell 0 rfl;obtain ⟨b0,b1,b2,b3,b4⟩:=h9.q5;clear hx;go_wp2_with fail;refine uC [([0,1,2,3,4,5],6),([],7)] [([],8),([],9),([],10)] 8 (fun w'=>∃d,w'=fT (C3f O w.heap.size w.heap.size) _ d) (by kernel_rfl) (by kernel_rfl) (aUb _ _) ?_;refine sc_ fun K hK=>?_;go_wp2_with fail;have y1:Ext wc ((wc.alloc (.cells #[x.d,x.s,x.c,x.col,x.al] 95)).drew):=S_;have B2:Blk ((wc.alloc (.cells #[x.d,x.s,x.c,x.col,x.al] 95)).drew) wc.heap.size 95 x.cs:=aRr wc 95 x.cs;refine hK _ _ (.inr (aSn fun a ha=>y1.block (by rcases ha with ha|ha|ha <;> rw [ha] <;> omega))) ?_;clear hK K;have q0:=hid y1;have y7:=hid B2;have HN:=hid (h6.row.ext y1);clear y1 B2;have z1:=q0.size;refine sc_ fun K hK=>?_;refine iT aP.cs 95 5 40 _ _ rfl _ _ 48 rfl underlying48 iP rfl (by decide) (by decide) (fun _=>rfl) lo (.slice a fs.length cap) fs rfl HN x wc.heap.size rfl (fun j hj=>?_) (yH x) (by omega) (by omega) ?_
  ·rw [aRs (show j<x.cs.length from hj)]
   exact y7.cell j (aRs hj)
  intro y4 w2 h7 hg q6;have q7:∀k,y4.ownBlock=some k->(aS2 a fs.length cap).ownBlock=some k\/w.heap.size<=k:=fun k hk=>(q6 k hk).imp id (fun h=>by omega);have q2:=hid q7
  have q6:∀k,y4.ownBlock=some k->k≠w.heap.size:=fun k hk=>by
   rcases q6 k hk with h|h
   ·have:=(z6.row.lt _ h).2
    omega
   ·omega
  have y6:=hid q6;have hr:∀k,(aS2 a fs.length cap).ownBlock=some k->lo<=k/\∃c,wc.heap[k]?=some (.cells c 95 (0,0)):=aE.rowF h6.row;have k2:∀b,b<wc.heap.size->(∀c,wc.heap[b]?≠some (.cells c 95 (0,0)))->w2.heap[b]?=wc.heap[b]?:=fun b hb hn=>(hg.block b (by omega) (fun e=>(by obtain ⟨_,c,hc⟩:=hr b e.symm;exact hn c hc))).trans (q0.block hb)
  have B3:=h6.box.of (k2 O (by omega) (fun c hc=>by
   have:=h6.box;unfold Blk at this;rw [this] at hc;simp only [aRl,aSx] at hc
   exact absurd hc.2.1 (by decide)))
  have K3:KN lo O 95 wc w2:=KN.grown (q0.kn lo O 95) hg (fun k hk=>by
   obtain ⟨q1,c,hc⟩:=hr k hk
   exact ⟨q1,c,(q0.block (aR3.1 hc).1).trans hc⟩)
  have kO:w2.heap[O]?=wc.heap[O]?:=k2 O (by omega) (fun c hc=>by
   have:=h6.box;unfold Blk at this;rw [this] at hc;simp only [aRl,aSx] at hc
   exact absurd hc.2.1 (by decide))
  have kX:w2.heap[w.heap.size]?=wc.heap[w.heap.size]?:=(hg.block _ (by omega) (fun e=>by
   have:=(z6.row.lt _ e.symm).2
   omega)).trans (q0.block zx)
  have k3:∀b,b<w.heap.size->(aS2 a fs.length cap).ownBlock≠some b->w2.heap[b]?=w.heap[b]?:=fun b hb hn=>((hg.block b (by omega) (fun e=>hn e.symm)).trans (q0.block (by omega))).trans ((z8.trans HX).block hb);have a5:=hid k3;clear k3 q7;go_wp2_with fail;refine hK _ _ (.inr (aSn fun a ha=>?_)) ?_
  ·rcases ha with ha|ha|ha <;> rw [ha]
   ·exact kO
   ·exact kX
   ·exact kX
  clear hK K;have BX:=h9.of kX;have y8:=hid BX;have d0:=B3.cell 0 rfl;have e0:=B3.free 0;have x9:=hid B3;have y9:=hid K3;have HO:=hid h7;obtain ⟨a2,h0,rfl,_⟩:=h7.form
  have y0:(fs++[x]).length=fs.length+1:=by simp
  have z4:=hid y0;clear h7 hg q6 hr k2 kO kX B3 K3 c1 b0 b1 b2 b3 b4 BX y0;refine aEy (aCy ?_);refine sc_ fun K hK=>?_;go_wp2_with fail;go_wp2_with fail;refine hK _ _ (.inr (trivial)) ?_;clear hK K;refine sc_ fun K hK=>?_;go_wp2_with fail;go_wp2_with fail;refine hK _ _ (.inr (trivial)) ?_;clear hK K;refine sc_ fun K hK=>?_;go_wp2_with fail;go_wp2_with fail;refine hK _ _ (.inr (trivial)) ?_;clear hK K;refine aQ ?_
  try rw [z4]
  have z5:=hid (aE.set HO x9 (by decide) 0 (.slice a2 (fs.length+1) h0));have q3:=hid (x9.set 0 (.slice a2 (fs.length+1) h0));have z3:=hid (y9.set y2 0 (.slice a2 (fs.length+1) h0));have x3:=hid (y8.other (a:=⟨O,0,none⟩) (by show w.heap.size≠O;omega) (.slice a2 (fs.length+1) h0))
  obtain ⟨W3,x5⟩:∃W3,w2.setCell ⟨O,0,none⟩ (.slice a2 (fs.length+1) h0)=W3:=⟨_,rfl⟩
  rw [x5] at z5 q3 z3 x3;rw [x5];have a6:Hid (∀b,b≠O->W3.heap[b]?=w2.heap[b]?):=hid (fun b hb=>by rw [<-x5];exact aRt _ _ _ _ (by simpa using hb));clear d0 e0 x5
  rcases z5.2 with ⟨_,h4⟩|⟨g,x7,cur,he,hb,hg,hc,hm,hs,ht⟩
  ·exact absurd h4 (by simp)
  rw [z4] at he hc ht;simp only [aSb,true_and] at he;obtain ⟨rfl,rfl⟩:=he;have HG:=hid hg;have HS:=hid hs;have HT:=hid ht;have c1:=q3.cell 0 rfl;have b6:g≠w.heap.size:=y6 g rfl;clear hg hs ht;unfold maxLen at hm
  have x6:O≠g:=fun e=>by
   have h1:=q3.out;have h2:=HG.out;unfold Blk at h1;rw [e,h2] at h1;simp only [aRl,aSx] at h1;exact absurd h1.2.1 (by decide)
  have zO:O<W3.heap.size:=q3.lt
  obtain ⟨D,hD⟩:∃D,D=(fs.drop p).flatMap aP.cs:=⟨_,rfl⟩
  have lD:D.length=(fs.length - p)*5:=by rw [hD,iR,aUg]
  have HD:=hid hD;have LD:=hid lD;have LC:Hid (cur.toList.length=h0*5):=hid (by simpa using HS.out);clear hD lD;go_upto_region 5 with fail
  go_cut [] from 40 to 53 (fun wx=>∃C1:List Value,wx.heap[g]?=some (.cells C1.toArray 95 (0,0))/\C1.length=h0*5/\(C1.take (p*5)++x.cs++C1.drop (p*5+x.cs.length)).take ((fs.length+1)*5)=(tG x fs).flatMap aP.cs/\W3.grownBy wx (some g))
  case first=>
   by_cases a9:h0=p+1
   ·obtain rfl:p=fs.length:=by omega
    obtain rfl:h0=fs.length+1:=a9;have a8:D=[]:=aV9 (by rw [LD];omega);subst a8
    have c6:((fs.length:Nat):Int)+1<=9223372036854775807:=by omega
    go_wp2_with fail;refine aH [([0,1,2,3,4,5,6,7,8,9,10,11,12],13)] 99 (fun w'=>∃d,w'=fT (C3f O O O) _ d) (by kernel_rfl) (by kernel_rfl) (aUb _ _) ?_;refine sc_ fun K hK=>?_;go_wp2_with (refine mN rfl _ _ _ _ rfl 95 5 0 underlying48 rI g _ _ _ _ _ _ rfl rfl cur 95 HG [] ?_ rfl ?_ ?_ ?_ ?_)
    ·rfl
    ·intro j v h
     simp at h
    ·simp
    ·intro v h
     cases h
    intro W4 h4 q4
    have q5:W3.grownBy W4 (some g):=⟨q4.os,q4.tape,q4.output,q4.size,q4.block⟩
    have Q4:=hid q5;have H4:=hid h4;clear h4 q4 q5;go_wp2_with fail;refine hK _ _ (.inr (aSn fun a ha=>(by rcases ha with ha|ha|ha <;> rw [ha] <;> exact Q4.block O zO (fun e=>x6 (aTh e))))) ?_;clear hK K;refine aQ ?_;go_wp2_with fail
    go_meet
    refine ⟨cur.toList,by simpa using H4.out,LC,?_,Q4⟩;rw [z2];exact aL0 (p:=fs.length) (L:=cur.toList) (C1:=cur.toList) h8 (by rw [LC];exact aRi _) HT HD (by simp)
   ·have b5:p+1<h0:=by omega
    go_wp2_with fail;refine aH [([0,1,2,3,4,5,6,7,8,9,10,11,12],13)] 99 (fun w'=>∃d,w'=fT (C3f O O O) _ d) (by kernel_rfl) (by kernel_rfl) (aUb _ _) ?_;refine sc_ fun K hK=>?_;go_wp2_with (refine mN rfl _ _ _ _ rfl 95 5 (fs.length - p) underlying48 rI g _ _ _ _ _ _ rfl rfl cur 95 HG D ?_ LD ?_ ?_ ?_ ?_)
    ·show fs.length - p=min (fs.length+1 - p) (fs.length - p)
     omega
    ·intro j v hj
     have e2:(⟨g,p*5,none⟩:Addr).add j=⟨g,p*5+j,none⟩:=by
      cases j <;> simp [Addr.add]
     rw [e2];have e3:=aPc (x:=x) h8 HT j v (HD.out▸hj)
     show W3.cell? _=_
     simp only [aTi,HG.out]
     simpa using e3
    ·rw [LD,HS]
     omega
    ·rw [HD]
     exact aJy _
    intro W4 h4 q4
    try rw [<-aSl] at h4
    have q5:W3.grownBy W4 (some g):=⟨q4.os,q4.tape,q4.output,q4.size,q4.block⟩
    have Q4:=hid q5;have H4:=hid h4;clear h4 q4 q5;go_wp2_with fail;refine hK _ _ (.inr (aSn fun a ha=>(by rcases ha with ha|ha|ha <;> rw [ha] <;> exact Q4.block O zO (fun e=>x6 (aTh e))))) ?_;clear hK K;refine aQ ?_;go_wp2_with fail
    go_meet
    refine ⟨_,H4,?_,?_,Q4⟩
    ·rw [aSa,aSa,aR9,aUg,LD,LC]
     omega
    ·rw [z2]
     exact aL0 h8 (by rw [LC];exact aTb 5 hc) HT HD rfl
  case rest=>
   obtain ⟨C1,h5,l5,t5,q5⟩:=hcut;have z0:=hid (q3.of (q5.block O zO (fun e=>x6 (aTh e))));have a4:=hid (x3.of (q5.block w.heap.size x3.lt (fun e=>b6 (aTh e).symm)));have H5:=hid h5;have L5:=hid l5;have T5:=hid t5;have Q5:=hid q5;have c1:=z0.cell 0 rfl;obtain ⟨b0,b1,b2,b3,b4⟩:=a4.q5;have eW:=sK g 95 x.cs (p*5) C1 (wc.drew) h5 (by rw [l5,show x.cs.length=5 from rfl];omega);have EW:=hid eW;clear h5 l5 t5 q5 eW;go_wp2_with fail;refine aH [([0,1,2,3,4,5,6],7)] 7 (fun w'=>∃d,w'=fT (C3f O w.heap.size w.heap.size) _ d) (by kernel_rfl) (by kernel_rfl) (aUb _ _) ?_;refine sc_ fun K hK=>?_;go_wp2_with (refine wpList_store_mid rfl _ _ _ rfl g (p*5) #[x.d,x.s,x.c,x.col,x.al] rfl rfl ?_ rI (all_oneCell_toArray (yH x)) ?_)
   ·intro j hj
    have c5:j<5:=hj;have e1:wc.drew.heap[g]?=some (.cells C1.toArray 95 (0,0)):=H5;have e0:wc.heap[g]?=some (.cells C1.toArray 95 (0,0)):=H5;have l5:=L5.out
    have x8:p*5+j<C1.length:=by omega
    refine ⟨?_,?_⟩
    ·simp only [aTi,e1,e0]
     simp [x8]
    ·simp only [World.frozen?,e1,e0]
     simp
   have y5:Hid (wc.drew.setCells g (p*5) [x.d,x.s,x.c,x.col,x.al]=_):=EW;rw [y5];go_wp2_with fail;refine l_ hK ?_;clear hK K;refine aQ ?_;go_wp2
   go_end0
   have lR:(C1.take (p*5)++x.cs++C1.drop (p*5+x.cs.length)).length=h0*5:=by
    rw [aSa,aSa,aR9,aUg,show x.cs.length=5 from rfl,L5];omega
   refine ⟨.slice (some ⟨g,0,none⟩) (fs.length+1) h0,rfl,⟨?_,y2,?_⟩,?_,fun b hb hbO hbv=>?_,fun k hk=>q2 k hk⟩
   ·exact Blk.otherRowB (w:=wc.drew) z0 x6 _
   ·refine ⟨iR _,.inr ⟨g,h0,(C1.take (p*5)++x.cs++C1.drop (p*5+x.cs.length)).toArray,?_,hb,setRow_heap wc.drew g C1.toArray _ _ _ H5,?_,?_,?_,?_⟩⟩
    ·rw [kH]
    ·rw [kH];exact hc
    ·unfold maxLen;exact hm
    ·rw [aWj,lR]
    ·rw [kH];exact T5
   ·refine KN.grown (KN.grown (((z8.trans HX).kn lo O 95).trans z3) (w2:=wc.drew) (row:=some g) ⟨Q5.os,Q5.tape,Q5.output,Q5.size,Q5.block⟩ ?_) (sJ wc.drew g _) ?_
    ·intro k hk
     obtain rfl:=aTh hk;exact ⟨hb,_,HG⟩
    ·intro k hk
     obtain rfl:=aTh hk;exact ⟨hb,_,H5⟩
   ·have z9:b≠g:=fun e=>by
     rcases q2 g rfl with h|h
     ·exact hbv (e▸h)
     ·omega
    exact (setRow_other wc.drew g b _ z9).trans ((Q5.block b (Nat.lt_trans hb x3.lt) (fun e=>z9 (aTh e))).trans ((a6 b hbO).trans (a5 b hb hbv)))
theorem aE1 (r:Int) (w:World):R_ 146 #[r] w (.bool (uU r)):=by
 unfold uU;go_enter func146,ntmps146;go_wp2
 all_goals
  go_ret;exact ⟨by first|rfl|simp [*],X_⟩
theorem aE2 (r:Int) (w:World):R_ 93 #[r] w (.bool (qK r)):=by
 unfold qK;go_enter func93,ntmps93;go_wp2
 all_goals
  go_ret;exact ⟨by first|rfl|simp [*],X_⟩
theorem eN (f:Nat->Int):rG f=(dC (f 0) (f 1) (f 2)&&dC (f 3) (f 4) (f 5)&&dC (f 6) (f 7) (f 8)&&dC (f 9) (f 10) (f 11)):=rfl
theorem iA (f:Nat->Int) (w:World):R_ 145 #[.agg f] w (.bool (rG f)):=by
 have j0:=pQ f 0 (by decide);have j1:=pQ f 1 (by decide);have j2:=pQ f 2 (by decide);have j3:=pQ f 3 (by decide);simp only [aZt,aSf,aVi,aUl,aZe,aXg] at j0 j1 j2 j3;have X0:Ext w (w.alloc (.cells f 125)):=X_;go_enter func145,ntmps145;go_wp2_with fail
 obtain ⟨W0,h0⟩:∃W0,(w.alloc (.cells f 125))=W0:=⟨_,rfl⟩
 rw [h0] at X0 ⊢;clear h0
 go_loopw [7] (fun i wr=>∃k:Nat,k<=4/\i = .int .i64 (k:Nat)/\Ext w wr/\(0<k->dC (f 0) (f 1) (f 2)=true)/\(1<k->dC (f 3) (f 4) (f 5)=true)/\(2<k->dC (f 6) (f 7) (f 8)=true)/\(3<k->dC (f 9) (f 10) (f 11)=true)) (fun i _=>4 - (intOf i).toNat)
 case atStart=>exact ⟨0,by omega,rfl,X0,by omega,by omega,by omega,by omega⟩
 case round=>
  obtain ⟨k,hk,rfl,hx,b0,b1,b2,b3⟩:=hrel;have HX:=hid hx;have B0:=hid b0;have B1:=hid b1;have B2:=hid b2;have B3:=hid b3;clear hx b0 b1 b2 b3 X0
  rcases (show k=0\/k=1\/k=2\/k=3\/k=4 by omega) with rfl|rfl|rfl|rfl|rfl
  ·go_wp2_with fail
   refine r_ (dR _) fun w3 x3=>?_;have y3:Ext wr w3:=aRo (show Ext wr (wr.alloc (.cells #[(f 0),(f 1),(f 2)] 122)) from X_) x3
   cases hb:dC (f 0) (f 1) (f 2)
   ·go_wp2
    go_ret;exact ⟨by rw [eN,hb];simp,HX.trans y3⟩
   ·have HB:=hid hb
    clear hb;go_wp2;go_roundw
    case rel=>exact ⟨1,by omega,by go_num,HX.trans y3,fun _=>HB.out,fun h=>absurd h (by omega),fun h=>absurd h (by omega),fun h=>absurd h (by omega)⟩
    case measure=>simp [intOf]
  ·go_wp2_with fail
   refine r_ (dR _) fun w3 x3=>?_;have y3:Ext wr w3:=aRo (show Ext wr (wr.alloc (.cells #[(f 3),(f 4),(f 5)] 122)) from X_) x3
   cases hb:dC (f 3) (f 4) (f 5)
   ·go_wp2
    go_ret;exact ⟨by rw [eN,hb];simp,HX.trans y3⟩
   ·have HB:=hid hb
    clear hb;go_wp2;go_roundw
    case rel=>exact ⟨2,by omega,by go_num,HX.trans y3,fun h=>B0.out (by omega),fun _=>HB.out,fun h=>absurd h (by omega),fun h=>absurd h (by omega)⟩
    case measure=>simp [intOf]
  ·go_wp2_with fail
   refine r_ (dR _) fun w3 x3=>?_;have y3:Ext wr w3:=aRo (show Ext wr (wr.alloc (.cells #[(f 6),(f 7),(f 8)] 122)) from X_) x3
   cases hb:dC (f 6) (f 7) (f 8)
   ·go_wp2
    go_ret;exact ⟨by rw [eN,hb];simp,HX.trans y3⟩
   ·have HB:=hid hb
    clear hb;go_wp2;go_roundw
    case rel=>exact ⟨3,by omega,by go_num,HX.trans y3,fun h=>B0.out (by omega),fun h=>B1.out (by omega),fun _=>HB.out,fun h=>absurd h (by omega)⟩
    case measure=>simp [intOf]
  ·go_wp2_with fail
   refine r_ (dR _) fun w3 x3=>?_;have y3:Ext wr w3:=aRo (show Ext wr (wr.alloc (.cells #[(f 9),(f 10),(f 11)] 122)) from X_) x3
   cases hb:dC (f 9) (f 10) (f 11)
   ·go_wp2
    go_ret;exact ⟨by rw [eN,hb];simp,HX.trans y3⟩
   ·have HB:=hid hb
    clear hb;go_wp2;go_roundw
    case rel=>exact ⟨4,by omega,by go_num,HX.trans y3,fun h=>B0.out (by omega),fun h=>B1.out (by omega),fun h=>B2.out (by omega),fun _=>HB.out⟩
    case measure=>simp [intOf]
  ·go_wp2
   go_ret;exact ⟨by rw [eN,B0 (by omega),B1 (by omega),B2 (by omega),B3 (by omega)];rfl,HX⟩
theorem pU (f g:Nat->Int) (sh rt:Int) (n:Nat) (w:World):R_ 95 #[.agg #[(f 0),(f 1),(f 2),(f 3),(f 4),(f 5),(f 6),(f 7),(f 8),(f 9),(f 10),(f 11),(g 0),(g 1),(g 2),(g 3),(g 4),(g 5),(g 6),(g 7),(g 8),(g 9),(g 10),(g 11),sh,rt],(n:Nat)] w (.bool (aNs f g sh rt n)):=by
 have q0:=aRr w 127 [(f 0),(f 1),(f 2),(f 3),(f 4),(f 5),(f 6),(f 7),(f 8),(f 9),(f 10),(f 11),(g 0),(g 1),(g 2),(g 3),(g 4),(g 5),(g 6),(g 7),(g 8),(g 9),(g 10),(g 11),sh,rt];have R0:=hid q0;have X0:=hid (show Ext w (w.alloc (.cells #[(f 0),(f 1),(f 2),(f 3),(f 4),(f 5),(f 6),(f 7),(f 8),(f 9),(f 10),(f 11),(g 0),(g 1),(g 2),(g 3),(g 4),(g 5),(g 6),(g 7),(g 8),(g 9),(g 10),(g 11),sh,rt] 127)) from X_);clear q0
 obtain ⟨b1,q5⟩:∃b,rG f=b:=⟨_,rfl⟩
 obtain ⟨b2,q6⟩:∃b,rG g=b:=⟨_,rfl⟩
 obtain ⟨b3,q7⟩:∃b,uU rt=b:=⟨_,rfl⟩
 have C1:∀W:World,R_ 145 #[.agg f] W (.bool b1):=fun W=>q5▸iA f W;have C2:∀W:World,R_ 145 #[.agg g] W (.bool b2):=fun W=>q6▸iA g W;have C3:∀W:World,R_ 146 #[rt] W (.bool b3):=fun W=>q7▸aE1 rt W;have H1:=hid C1;have H2:=hid C2;have H3:=hid C3;unfold aNs;rw [q5,q6,q7];clear q5 q6 q7 C1 C2 C3
 cases b1
 case false=>
  go_enter func95,ntmps95;go_wp2_with fail;refine r_ (H1 _) fun w1 x1=>?_;have X1:=hid (X0.trans x1);have R1:=hid (R0.ext x1);clear x1;go_wp2;go_ret;exact ⟨by simp [*],X1⟩
 case true=>
  cases b2
  case false=>
   go_enter func95,ntmps95;go_wp2_with fail;refine r_ (H1 _) fun w1 x1=>?_;have X1:=hid (X0.trans x1);have R1:=hid (R0.ext x1);clear x1;have h2:=R1.cell 12 rfl;have h3:=R1.cell 13 rfl;have h4:=R1.cell 14 rfl;have h5:=R1.cell 15 rfl;have h6:=R1.cell 16 rfl;have h7:=R1.cell 17 rfl;have h8:=R1.cell 18 rfl;have h9:=R1.cell 19 rfl;have q1:=R1.cell 20 rfl;have q2:=R1.cell 21 rfl;have q3:=R1.cell 22 rfl;have q4:=R1.cell 23 rfl;go_wp2_with fail;refine r_ (H2 _) fun w2 x2=>?_;have X2:=hid (X1.trans x2);have R2:=hid (R1.ext x2);clear x2;go_wp2;go_ret;exact ⟨by simp [*],X2⟩
  case true=>
   rcases aYv sh 0 with h0|h0
   ·have g0:decide (0<=sh)=false:=by simp;omega
    go_enter func95,ntmps95;go_wp2_with fail;refine r_ (H1 _) fun w1 x1=>?_;have X1:=hid (X0.trans x1);have R1:=hid (R0.ext x1);clear x1;have h2:=R1.cell 12 rfl;have h3:=R1.cell 13 rfl;have h4:=R1.cell 14 rfl;have h5:=R1.cell 15 rfl;have h6:=R1.cell 16 rfl;have h7:=R1.cell 17 rfl;have h8:=R1.cell 18 rfl;have h9:=R1.cell 19 rfl;have q1:=R1.cell 20 rfl;have q2:=R1.cell 21 rfl;have q3:=R1.cell 22 rfl;have q4:=R1.cell 23 rfl;go_wp2_with fail;refine r_ (H2 _) fun w2 x2=>?_;have X2:=hid (X1.trans x2);have R2:=hid (R1.ext x2);clear x2;have q8:=R2.cell 24 rfl;go_wp2;go_ret;exact ⟨by simp [*],X2⟩
   ·have g0:decide (0<=sh)=true:=by simp;omega
    rcases aYv sh n with h1|h1
    ·have g1:decide (sh<(n:Int))=true:=by simp;omega
     go_enter func95,ntmps95;go_wp2_with fail;refine r_ (H1 _) fun w1 x1=>?_;have X1:=hid (X0.trans x1);have R1:=hid (R0.ext x1);clear x1;have h2:=R1.cell 12 rfl;have h3:=R1.cell 13 rfl;have h4:=R1.cell 14 rfl;have h5:=R1.cell 15 rfl;have h6:=R1.cell 16 rfl;have h7:=R1.cell 17 rfl;have h8:=R1.cell 18 rfl;have h9:=R1.cell 19 rfl;have q1:=R1.cell 20 rfl;have q2:=R1.cell 21 rfl;have q3:=R1.cell 22 rfl;have q4:=R1.cell 23 rfl;go_wp2_with fail;refine r_ (H2 _) fun w2 x2=>?_;have X2:=hid (X1.trans x2);have R2:=hid (R1.ext x2);clear x2;have q8:=R2.cell 24 rfl;have q9:=R2.cell 25 rfl;go_wp2_with fail;refine r_ (H3 _) fun w3 x3=>?_;have X3:=hid (X2.trans x3);have R3:=hid (R2.ext x3);clear x3;go_wp2;go_ret;exact ⟨by simp [*],X3⟩
    ·have g1:decide (sh<(n:Int))=false:=by simp;omega
     go_enter func95,ntmps95;go_wp2_with fail;refine r_ (H1 _) fun w1 x1=>?_;have X1:=hid (X0.trans x1);have R1:=hid (R0.ext x1);clear x1;have h2:=R1.cell 12 rfl;have h3:=R1.cell 13 rfl;have h4:=R1.cell 14 rfl;have h5:=R1.cell 15 rfl;have h6:=R1.cell 16 rfl;have h7:=R1.cell 17 rfl;have h8:=R1.cell 18 rfl;have h9:=R1.cell 19 rfl;have q1:=R1.cell 20 rfl;have q2:=R1.cell 21 rfl;have q3:=R1.cell 22 rfl;have q4:=R1.cell 23 rfl;go_wp2_with fail;refine r_ (H2 _) fun w2 x2=>?_;have X2:=hid (X1.trans x2);have R2:=hid (R1.ext x2);clear x2;have q8:=R2.cell 24 rfl;go_wp2;go_ret;exact ⟨by simp [*],X2⟩
theorem aBd {b:Nat} (hb:w.heap.size=b):bK (w.alloc (.cells f t)) b t 12 f:=
 hb▸World.rowIs_alloc _ _ _ _ fun i hi=>by rcases aNt hi with h|h|h|h|h|h|h|h|h|h|h|h <;> subst h <;> rfl
structure Pt where
 u:Int
 v:Int
 x:Int
 y:Int
 z:Int
def Pt.ls (p:Pt):List Int:=[p.u,p.v,p.x,p.y,p.z]
def Pt.cs (p:Pt):List Value:=[p.u,p.v,p.x,p.y,p.z]
def aC1 (lo:Nat) (w:World) (v:Value) (xs:List Pt):Prop:=aE Pt.cs lo 228 5 w v xs
theorem aE3:(Tryz.prog.info? 228).map (fun i=>(i.zero,i.size,i.bytes))=some (some (.agg #[(),(),(),(),()]),5,40):=by kernel_rfl
theorem mO (w:World) (hg:o.guard=none) (s x:Operand)
  (hop:o.op=Op.call { callee:=Callee.builtin Builtin.append,args:=#[s,x],argTypes:=#[166,166] }) (lo:Nat) (v:Value) (xs:List Pt) (hs:a.eval s=v) (hown:aC1 lo w v xs)
  (y:Pt) (b:Nat) (hx:a.eval x = .slice (some ⟨b,0,none⟩) 1 1) (hcell:∀j,j<5->w.cell? ⟨b,j,none⟩=y.cs[j]?) (hlen:xs.length<1000000) (hlo:lo<=w.heap.size)
  (hK:∀v' w',aC1 lo w' v' (xs++[y])->w.grownBy w' v.ownBlock->wpList aRn ops Q rest (a.put o.dst v') w'):wpList aRn ops Q (o::rest) a w:=by
 refine cX Pt.cs 228 5 40 _ w hg s x 166 hop underlying166 aE3 rfl (by decide) (by decide) (fun _=>rfl) lo v xs hs hown y b hx hcell ?_ hlen hlo hK;intro u hu;simp only [Pt.cs,aR4,aRz,or_false] at hu
 rcases hu with rfl|rfl|rfl|rfl|rfl <;> rfl
section
open Go.RowKit Go.Shelf
attribute [local go_sem] Oper.semAt_some
def ptG (f:Nat->Int) (n i j:Nat):Pt:=⟨(i:Int)*256 / (n:Int),(j:Int)*256 / (n:Int),(evP f i j n).x,(evP f i j n).y,(evP f i j n).z⟩
def iB (f:Nat->Int) (n:Nat) (pre:List (Fin n×Fin n)):List Pt:=pre.map fun p=>ptG f n p.1 p.2
theorem aJ0 (f:Nat->Int) (n:Nat) (pre:List (Fin n×Fin n)) (x:Fin n×Fin n):iB f n (pre++[x])=iB f n pre++[ptG f n x.1 x.2]:=by
 unfold iB;rw [aTp,List.map_singleton]
theorem aE4 (f:Nat->Int) (n:Nat) (hn:0<n) {i:Nat} {x:Pt} (h:(iB f n (cH n hn (n*n)))[i]?=some x):x=ptG f n (i % n) (i / n):=by
 unfold iB cH at h;rw [aYw,aS7] at h;obtain ⟨q,hq,rfl⟩:=aXy.1 h;obtain ⟨hl,rfl⟩:=aRk.1 hq;rw [aUi] at hl;rw [aUd];have hd:i / n<n:=aTs hl
 show ptG f n (i % n) (i / n % n)=_
 rw [Nat.mod_eq_of_lt hd]
theorem jZ (f:Nat->Int) (n q k:Nat) (hk:k<5):aBb f n (q*5+k)=(ptG f n (q % n) (q / n)).ls.getD k 0:=by
 have e1:(q*5+k) / 5=q:=by omega
 have e2:(q*5+k) % 5=k:=by omega
 unfold aBb;rw [e1,e2]
 rcases (show k=0\/k=1\/k=2\/k=3\/k=4 by omega) with rfl|rfl|rfl|rfl|rfl <;> rfl
theorem aG7 {a b c d i j n:Int} (hn:1<=n) (hi:0<=i/\i<=n) (hj:0<=j/\j<=n) : -1000000<=evC a b c d i j n/\evC a b c d i j n<=1000000:=
 ⟨aKi hn hi hj (cS _).1 (cS _).1 (cS _).1 (cS _).1,aKj hn hi hj (cS _).2 (cS _).2 (cS _).2 (cS _).2⟩
theorem aOk {i n:Nat} (h1:1<=n) (h:i<n):0<=((i:Int)*256 / (n:Int))/\((i:Int)*256 / (n:Int))<=256:=
 ⟨Int.ediv_nonneg (by omega) (by omega),Int.ediv_le_of_le_mul (by omega) (by omega)⟩
theorem aG8 (f:Nat->Int) {n i j:Nat} (h1:1<=n) (hi:i<n) (hj:j<n):∀x∈(ptG f n i j).ls,-1000000<=x/\x<=1000000:=by
 intro x hx;have u:=aOk h1 hi;have v:=aOk h1 hj;simp only [ptG,Pt.ls,evP,aR4,aRz,or_false] at hx
 rcases hx with rfl|rfl|rfl|rfl|rfl
 ·omega
 ·omega
 ·exact aG7 (by omega) (by omega) (by omega)
 ·exact aG7 (by omega) (by omega) (by omega)
 ·exact aG7 (by omega) (by omega) (by omega)
theorem yK {f:Nat->Int} {n:Nat} {t:Tex} (hn:1<=n/\n<=8) (ht:t.okB=true):(nP f n t).okB=true:=by
 unfold Grd.okB nP;simp only [aRy,aG,decide_eq_true_eq,aSs,aSq];refine ⟨⟨⟨⟨⟨by omega,by omega⟩,by rw [aUz]⟩,by decide,by decide⟩,ht⟩,fun q hq=>?_⟩;unfold ptB;rw [aSs];intro x hx;have hu:q % n<n:=aT4 _ (by omega);have hv:q / n<n:=aTs hq;refine aG.2 (aG8 f hn.1 hu hv x ?_);have e0:=jZ f n q 0 (by decide);have e1:=jZ f n q 1 (by decide);have e2:=jZ f n q 2 (by decide);have e3:=jZ f n q 3 (by decide);have e4:=jZ f n q 4 (by decide);simp only [ptL,aR4,aRz,or_false] at hx;simp only [Pt.ls,List.getD_cons_zero,List.getD_cons_succ,aS0] at e0 e1 e2 e3 e4;simp only [Pt.ls,aR4,aRz,or_false]
 rcases hx with rfl|rfl|rfl|rfl|rfl
 ·exact .inl e0
 ·exact .inr (.inl e1)
 ·exact .inr (.inr (.inl e2))
 ·exact .inr (.inr (.inr (.inl e3)))
 ·exact .inr (.inr (.inr (.inr e4)))
theorem aIg {t:Tex} (h:t.okB=true):1<=t.px.length/\t.px.length<=1000:=by
 have h:=Tex.okB_iff.1 h;obtain ⟨h0,h4,hl,-⟩:=h;have h1:=h0;rw [hl];unfold Tex.n
 have:t.log=0\/t.log=1\/t.log=2\/t.log=3\/t.log=4:=by omega
 rcases this with e|e|e|e|e <;> rw [e] <;> decide
theorem yL (l1 lo hi:Nat) (u:Value) (xs:List Int) (w:World) (hu:aS lo hi w u xs) (hh:hi<=w.heap.size) (h1:1<=xs.length) (h2:xs.length<=1000) (hl:l1<=w.heap.size) :
  Calls aRn 164 #[u] w fun e w'=>∃v',e = .returned v'/\aB l1 w' v' xs/\Ext w w':=(aG6 lo hi u xs w hu hh h1 h2).mono (by rintro e w' ⟨v',h1,h2,h3⟩;exact ⟨v',h1,h2.low hl,h3⟩)
theorem aG9:(Tryz.prog.info? 168).map (fun i=>i.size)=some 5:=by kernel_rfl
theorem TuR.open {lo:Nat} {w:World} {v:Value} {xs:List Int} (h:TuR lo w v xs):∃g cs,Blk w g 3 cs/\∀w',Blk w' g 3 cs->aB lo w' v xs:=by
 obtain ⟨g,cs,_,h2,h3⟩:=h;exact ⟨g,cs,h2,h3⟩
def CGr (w A m:Nat):Addr->Prop:=fun a=>a.block=w+1\/a.block=A\/a.block=m
@[go_sem] theorem aQu {w A m k o:Nat} (h:k=w+1\/k=A\/k=m):CGr w A m ⟨k,o,none⟩:=h
def grF (f:Nat->Int) (n:Nat) (t:Tex) (a:Option Addr) (cap w g:Nat) (cs:List Value) (nb:Nat):List (Nat×TypeId×List Value):=
 [(w,125,f),(w+1,3,[(n:Nat)]),(w+1+1,36,[t.log,.slice a t.px.length cap]),(w+1+1+1,168,[(),.slice none 0 0,(),(),.slice none 0 0]),(g,3,cs),(nb,3,[(n:Nat)])]
theorem aPd {f:Nat->Int} {n:Nat} {t:Tex} {a:Option Addr} {cap w g:Nat} {cs:List Value} {nb A:Nat} (h1:w+4<=A) (h2:g≠A) (h3:nb≠A):∀p∈grF f n t a cap w g cs nb,p.2.1≠228/\p.1≠A:=by
 intro p hp;simp only [grF,aR4,aRz,or_false] at hp
 rcases hp with rfl|rfl|rfl|rfl|rfl|rfl <;> exact ⟨by simp,by simp only [ne_eq];omega⟩
theorem aE5 (lo hi:Nat) (f:Nat->Int) (hf:rG f=true) (n:Nat) (hn:1<=n/\n<=8) (tv:Value) (t:Tex) (w:World) (ht:cT lo hi w tv t) (hh:hi<=w.heap.size) (hok:t.okB=true) :
  Calls aRn 106 #[.agg f,(n:Nat),(),tv] w fun e w'=>∃v,e = .returned (.tuple #[v,.bool true])/\(nP f n t).R w.heap.size w'.heap.size w' v/\Ext w w':=by
 obtain ⟨tu,rfl,x8,hu⟩:=ht;have HU:=hid hu;obtain ⟨a,cap,rfl,HA⟩:=hu.open;have z5:=(aIg hok).1;have x4:=(aIg hok).2;have d1:=hid hok;have HF:=hid hf;have d4:=hid x8;clear hu HA hf hok x8;have C0:∀W:World,Calls aRn 165 #[(n:Nat)] W fun e w'=>e = .returned (.func (.func 217) #[] #[.pointer (some ⟨W.heap.size,0,none⟩)])/\w'=W.alloc (.cells #[(n:Nat)] 3):=fun W=>(callsIn_wide (n:=0)).1 (tP n 0 W);have C2:=hid C0;clear C0;have I1:=hid (aG.2 (show (1:Int)<=(n:Int)/\(n:Int)<=8 by omega))
 have h4:0<n:=by omega
 have q0:=aRr w 125 f;have q1:=aRr (w.alloc (.cells f 125)) 3 [(n:Nat)];have q2:=aRr ((w.alloc (.cells f 125)).alloc (.cells #[(n:Nat)] 3)) 36 [t.log,.slice a t.px.length cap];have q3:=aRr (((w.alloc (.cells f 125)).alloc (.cells #[(n:Nat)] 3)).alloc (.cells #[t.log,.slice a t.px.length cap] 36)) 168 [(),.slice none 0 0,(),(),.slice none 0 0];simp only [aRj] at q1 q2 q3;have r0:=q0.ext (show Ext (w.alloc (.cells f 125)) ((((w.alloc (.cells f 125)).alloc (.cells #[(n:Nat)] 3)).alloc (.cells #[t.log,.slice a t.px.length cap] 36)).alloc (.cells #[(),.slice none 0 0,(),(),.slice none 0 0] 168)) from X_);have R0:=hid r0;have r1:=q1.ext (show Ext ((w.alloc (.cells f 125)).alloc (.cells #[(n:Nat)] 3)) ((((w.alloc (.cells f 125)).alloc (.cells #[(n:Nat)] 3)).alloc (.cells #[t.log,.slice a t.px.length cap] 36)).alloc (.cells #[(),.slice none 0 0,(),(),.slice none 0 0] 168)) from X_);have R1:=hid r1;have r2:=q2.ext (show Ext (((w.alloc (.cells f 125)).alloc (.cells #[(n:Nat)] 3)).alloc (.cells #[t.log,.slice a t.px.length cap] 36)) ((((w.alloc (.cells f 125)).alloc (.cells #[(n:Nat)] 3)).alloc (.cells #[t.log,.slice a t.px.length cap] 36)).alloc (.cells #[(),.slice none 0 0,(),(),.slice none 0 0] 168)) from X_);have R2:=hid r2;have r3:=q3.ext (show Ext ((((w.alloc (.cells f 125)).alloc (.cells #[(n:Nat)] 3)).alloc (.cells #[t.log,.slice a t.px.length cap] 36)).alloc (.cells #[(),.slice none 0 0,(),(),.slice none 0 0] 168)) ((((w.alloc (.cells f 125)).alloc (.cells #[(n:Nat)] 3)).alloc (.cells #[t.log,.slice a t.px.length cap] 36)).alloc (.cells #[(),.slice none 0 0,(),(),.slice none 0 0] 168)) from X_);have R3:=hid r3;have X0:=hid (show Ext w ((((w.alloc (.cells f 125)).alloc (.cells #[(n:Nat)] 3)).alloc (.cells #[t.log,.slice a t.px.length cap] 36)).alloc (.cells #[(),.slice none 0 0,(),(),.slice none 0 0] 168)) from X_)
 have z0:((((w.alloc (.cells f 125)).alloc (.cells #[(n:Nat)] 3)).alloc (.cells #[t.log,.slice a t.px.length cap] 36)).alloc (.cells #[(),.slice none 0 0,(),(),.slice none 0 0] 168)).heap.size=w.heap.size+4:=by simp
 have Z0:=hid z0;clear q0 q1 q2 q3 r0 r1 r2 r3 z0;refine (callsIn_wide (n:=3)).1 ?_;refine callsIn_of_wp_marks func106 rfl trivial ?_ rfl;simp only [ntmps106,aWj,aSw,aTu,aUl,Nat.reduceSub,Array.replicate_succ,Array.replicate_zero,List.push_toArray,List.append_toArray,aTf,aWt];refine wpIn_wide.2 ?_;go_wp2_with fail;refine (iA f _).mono ?_;rw [HF];rintro e w1 ⟨rfl,x1⟩;have S0:=R0.ext x1;have S1:=R1.ext x1;have S2:=R2.ext x1;have S3:=R3.ext x1;have X1:=hid (X0.trans x1);have Z1:=hid (show w.heap.size+4<=w1.heap.size by have:=x1.size;have:=Z0.out;omega);have n0:=S1.cell 0 rfl;have l1:=S1.lt;obtain ⟨t0,t1⟩:=S2.q2;have l2:=S2.lt;have H0:=hid S0;have H1:=hid S1;have H2:=hid S2;have H3:=hid S3;clear S0 S1 S2 S3 x1 R0 R1 R2 R3 X0 Z0;go_upto_region 3 with (go_at_call 92;refine z_ (aL I1 _) ?_)
 go_cut [10] from 23 to 31 (fun q wx=>∃A sa sc,q = .pointer (some ⟨A,0,none⟩)/\w1.heap.size<=A/\Blk wx A 168 [(n:Nat),.slice none 0 0,(),t.log,.slice sa t.px.length sc]/\TuR w1.heap.size wx (.slice sa t.px.length sc) t.px/\Ext w1 wx)
 case first=>
  refine dI 10 w1.heap.size (by kernel_rfl) ?_;refine z2_ (fuel:=4) [0,1,2,3,4,5] 6 9 (fun b _ hb=>rfl) (fun K hK=>?_) fun K hK=>?_
  ·go_wp2_with fail
   refine (yL w1.heap.size lo hi _ t.px _ (HU.ext hh (X1.trans (aSk (aRu _)))) (aRq hh (X1.trans (aSk (aRu _))).size) z5 x4 (Ext.size (aSk (aRu _)))).mono ?_;rintro e a0 ⟨v0,rfl,o0,y0⟩;have u0:Ext w1 a0:=aRo X_ y0;obtain ⟨g7,g8,rfl,_⟩:=o0.form;have T0:=o0.tur z5;clear o0;go_wp2_with fail;refine hK _ _ (.inr (fun b _ hb=>u0.block (by omega))) ?_;clear hK K;refine z1_ (fuel:=1) [7,8] 9 (fun b _ hb=>u0.block (by omega)) fun K hK=>?_;go_wp2;have z8:w1.heap.size<=a0.heap.size:=u0.size;refine hK _ _ (.inr (fun b _ hb=>(aRv (w:=a0) X_ (by omega)).trans (u0.block (by omega)))) ?_;clear hK K;have q7:Ext a0 (a0.alloc (.cells #[(),.slice none 0 0,(),(),.slice none 0 0] 168)):=X_;have h0:Blk (a0.alloc (.cells #[(),.slice none 0 0,(),(),.slice none 0 0] 168)) (a0.heap.size) 168 [(),.slice none 0 0,(),(),.slice none 0 0]:=aRr _ _ _
   obtain ⟨d8,x2⟩:∃d,a0.alloc (.cells #[(),.slice none 0 0,(),(),.slice none 0 0] 168)=d:=⟨_,rfl⟩
   rw [x2] at q7 h0 ⊢;have c7:Ext w1 d8:=u0.trans q7;have d5:=T0.ext q7;clear x2;refine z1_ (fuel:=0) [] 10 (fun b _ hb=>c7.block (by omega)) fun K hK=>?_;have z0:=h0.cell 0 rfl;have e8:=h0.free 0;have z1:=h0.cell 1 rfl;have e9:=h0.free 1;have z2:=h0.cell 2 rfl;have g0:=h0.free 2;have z3:=h0.cell 3 rfl;have g1:=h0.free 3;have z4:=h0.cell 4 rfl;have g2:=h0.free 4;have zl:=h0.lt;go_wp2;refine l_ hK ?_;clear hK K;refine cC (by kernel_rfl) ?_;go_wp2_with fail
   go_meet
   have h6:=z8;exact ⟨a0.heap.size,_,_,rfl,h6,(((((h0.set 0 _).set 1 _).set 2 _).set 3 _).set 4 _),(((((d5.set h0 (by decide) 0 _).set (h0.set 0 _) (by decide) 1 _).set ((h0.set 0 _).set 1 _) (by decide) 2 _).set (((h0.set 0 _).set 1 _).set 2 _) (by decide) 3 _).set ((((h0.set 0 _).set 1 _).set 2 _).set 3 _) (by decide) 4 _),(aR0 (aR0 (aR0 (aR0 (aR0 c7 (p:=⟨a0.heap.size,0,none⟩) h6 _) (p:=⟨a0.heap.size,1,none⟩) h6 _) (p:=⟨a0.heap.size,2,none⟩) h6 _) (p:=⟨a0.heap.size,3,none⟩) h6 _) (p:=⟨a0.heap.size,4,none⟩) h6 _)⟩
  ·go_wp2
   have d9:w1.heap.size<=w1.heap.size:=aRi _;refine k_ hK ?_;clear hK K;have c9:Ext w1 ((w1.alloc (.cells #[(),.slice none 0 0,(),(),.slice none 0 0] 168)).drew):=X_;have bA:Blk ((w1.alloc (.cells #[(),.slice none 0 0,(),(),.slice none 0 0] 168)).drew) (w1.heap.size) 168 [(),.slice none 0 0,(),(),.slice none 0 0]:=(aRr _ _ _).ext (aSk (aRu _))
   obtain ⟨dA,c3⟩:∃d,(w1.alloc (.cells #[(),.slice none 0 0,(),(),.slice none 0 0] 168)).drew=d:=⟨_,rfl⟩
   rw [c3] at c9 bA ⊢;have uA:Ext w1 dA:=c9;clear c3;refine z1_ (fuel:=3) [] 6 (fun b _ hb=>uA.block (by omega)) fun K hK=>?_;go_wp2_with fail;refine (yL w1.heap.size lo hi _ t.px _ (HU.ext hh (X1.trans uA)) (aRq hh (X1.trans uA).size) z5 x4 (Ext.size uA)).mono ?_;rintro e aA0 ⟨g9,rfl,a8,c8⟩;have b5:Ext w1 aA0:=uA.trans c8;have h3:=bA.ext c8;obtain ⟨e6,e7,rfl,_⟩:=a8.form;have d6:=a8.tur z5;clear a8;go_wp2_with fail;refine hK _ _ (.inr (fun b _ hb=>b5.block (by omega))) ?_;clear hK K;refine z1_ (fuel:=0) [7,8] 10 (fun b _ hb=>b5.block (by omega)) fun K hK=>?_;have z0:=h3.cell 0 rfl;have e8:=h3.free 0;have z1:=h3.cell 1 rfl;have e9:=h3.free 1;have z2:=h3.cell 2 rfl;have g0:=h3.free 2;have z3:=h3.cell 3 rfl;have g1:=h3.free 3;have z4:=h3.cell 4 rfl;have g2:=h3.free 4;have zl:=h3.lt;go_wp2;refine l_ hK ?_;clear hK K;refine cC (by kernel_rfl) ?_;go_wp2_with fail
   go_meet
   have h6:=d9;exact ⟨w1.heap.size,_,_,rfl,h6,(((((h3.set 0 _).set 1 _).set 2 _).set 3 _).set 4 _),(((((d6.set h3 (by decide) 0 _).set (h3.set 0 _) (by decide) 1 _).set ((h3.set 0 _).set 1 _) (by decide) 2 _).set (((h3.set 0 _).set 1 _).set 2 _) (by decide) 3 _).set ((((h3.set 0 _).set 1 _).set 2 _).set 3 _) (by decide) 4 _),(aR0 (aR0 (aR0 (aR0 (aR0 b5 (p:=⟨w1.heap.size,0,none⟩) h6 _) (p:=⟨w1.heap.size,1,none⟩) h6 _) (p:=⟨w1.heap.size,2,none⟩) h6 _) (p:=⟨w1.heap.size,3,none⟩) h6 _) (p:=⟨w1.heap.size,4,none⟩) h6 _)⟩
 case rest=>
  obtain ⟨A,sa,sc,rfl,hA,bA,tA,xa⟩:=hcut;obtain ⟨g,cs,bg,q9⟩:=tA.open
  have e0:g≠A:=fun e=>by
   subst e;unfold Blk at bg bA;rw [bg] at bA;simp only [aRl,aSx] at bA;exact absurd bA.2.1 (by decide)
  have la:=xa.size;have e1:=H1.ext xa;have n1:=e1.cell 0 rfl;have e5:=e1.lt;have K0:=hid (H0.ext xa);have K1:=hid e1;have K2:=hid (H2.ext xa);have K3:=hid (H3.ext xa);have KA:=hid bA;have KG:=hid bg;have KO:=hid q9;have XC:=hid (X1.trans xa);clear e1 bA tA bg q9 xa H0 H1 H2 H3 n0 l1 t0 t1 l2;go_wp2_with fail;refine (C2 _).mono ?_;rintro e _ ⟨rfl,rfl⟩;go_wp2_with fail
  obtain ⟨W0,x0⟩:∃W0,wc.alloc (.cells #[(n:Nat)] 3)=W0:=⟨_,rfl⟩
  have xx:Ext wc W0:=x0▸X_;have z0:W0.heap.size=wc.heap.size+1:=x0▸aRj _ _;have r9:Blk W0 wc.heap.size 3 [(n:Nat)]:=x0▸aRr wc 3 [(n:Nat)];rw [x0];clear x0;have g5:=KA.lt
  have z6:w.heap.size+4<=A:=by have:=Z1.out;omega
  have NE:=hid (aPd (f:=f) (n:=n) (t:=t) (a:=a) (cap:=cap) (w:=w.heap.size) (g:=g) (cs:=cs) (nb:=wc.heap.size) z6 e0 (by omega))
  have z7:RB Pt.cs 228 5 168 (fun v=>[(n:Nat),v,(),t.log,.slice sa t.px.length sc]) w A (grF f n t a cap w.heap.size g cs wc.heap.size) W0 (iB f n []):=by
   refine ⟨XC.trans xx,fun p hp=>?_,by omega,_,KA.ext xx,aE.nil _ _ _ _ _⟩;simp only [grF,aR4,aRz,or_false] at hp
   rcases hp with rfl|rfl|rfl|rfl|rfl|rfl
   ·exact K0.ext xx
   ·exact K1.ext xx
   ·exact K2.ext xx
   ·exact K3.ext xx
   ·exact KG.ext xx
   ·exact r9
  have z7:=hid z7;have NB:=r9.cell 0 rfl;clear r9 xx K0 K1 K2 K3 KA KG XC C2 n1 e5 X1;refine (wpIn_wide (n:=3)).1 ?_
  refine' wpIn_rangeFunc_ownG rfl (by omega) (gf:=217) (lb:=#[.pointer (some ⟨wc.heap.size,0,none⟩)]) rfl trivial (enters_of func217 (by kernel_rfl) rfl)
   (oG n h4 (by omega) _ wc.heap.size W0 (by omega) NB) (fun h k=>KB.trans h k) ?hKb (aX8 _ _) (fun _=>rfl)
   (fun h5 W=>RB Pt.cs 228 5 168 (fun v=>[(n:Nat),v,(),t.log,.slice sa t.px.length sc]) w A (grF f n t a cap w.heap.size g cs wc.heap.size) W (iB f n h5))
   (fun cd h5 W=>False) ?owns ?ownsx z7 _ ?assign ?body ?done ?stop
  case hKb=>exact fun W l o o' hl ho _ _=>World.putObj_heap_other (by omega)
  case assign=>
   intro l x W K hK
   gi_wp2
   exact hK
  case owns=>exact fun h5 A' B row h hg hr=>RB.owns (by omega) (iB f n) h5 A' B row h hg hr
  case ownsx=>exact fun cd h5 A B row h hg hr=>h
  case stop=>
   rintro D cd h5 W hD - h hK;exact h.elim
  case body=>
   intro l h5 x W hI e3;have HI:=hid hI
   obtain ⟨i,z9⟩:∃i:Nat,(x.1:Nat)=i:=⟨_,rfl⟩
   obtain ⟨j,y1⟩:∃i:Nat,(x.2:Nat)=i:=⟨_,rfl⟩
   have g3:i<n:=z9▸x.1.2;have g4:j<n:=y1▸x.2.2
   obtain ⟨X,Y,Z,hE⟩:∃X Y Z,evP f (i:Int) (j:Int) (n:Int)=⟨X,Y,Z⟩:=⟨_,_,_,rfl⟩
   have b7:=hid hE;have N1:=hid (show (1:Int)<=n/\(n:Int)<=64 by omega);have N2:=hid (show (0:Int)<=(i:Int)/\(i:Int)<=(n:Int) by omega);have N3:=hid (show (0:Int)<=(j:Int)/\(j:Int)<=(n:Int) by omega);obtain ⟨tv,q6,h8⟩:=hI.tb;obtain ⟨ta,tc,rfl,a9⟩:=aE.form h8;have T1:=hid q6;have T2:=hid h8;have m0:=hI.fx _ (.head _);have m1:=hI.fx _ (.tail _ (.head _));have M1:=hid m1;obtain ⟨y2,y3,y4,y5,y6,y7,y8,y9,a5,a6,x6,x7⟩:=m0.q12;have a7:=m1.cell 0 rfl;have c5:=m0.lt;have c6:=m1.lt
   try simp only [grF] at c5 c6
   rw [z9,y1];clear hE hI q6 h8 m0 m1;refine wpIn_block ?_;refine wpIn_seq_k fun K1 HK1=>?_;refine eG (by kernel_rfl) (fun ⟨_,_,h⟩=>h) ?_;go_wp2_with fail;refine r_ (gK b7 N1 N2 N3 _) fun w5 x5=>?_;have Y5:=hid x5;clear x5 y2 y3 y4 y5 y6 y7 y8 y9 a5 a6 x6 x7 a7 c5 c6;go_wp2_with fail;have xv:Ext w5 (w5.alloc (.cells #[X,Y,Z] 122)):=X_;have bV:=aRr w5 122 [X,Y,Z];have zV:(w5.alloc (.cells #[X,Y,Z] 122)).heap.size=w5.heap.size+1:=aRj _ _
   obtain ⟨WV,c2⟩:∃WV,w5.alloc (.cells #[X,Y,Z] 122)=WV:=⟨_,rfl⟩
   rw [c2] at xv bV zV ⊢;have ZV:=hid zV;clear c2 zV;have YV:=hid (Y5.trans xv);have U1:=hid (T1.ext YV);have U2:=hid (aE.ext T2 YV);have UN:=hid (M1.ext YV);have UV:=hid bV;have c1:=U1.cell 1 rfl;have al:=U1.lt;have n0:=UN.cell 0 rfl;have nl:=UN.lt;obtain ⟨v0,v1,v2⟩:=bV.q3;have vl:=bV.lt
   try simp only [grF] at nl n0
   have g6:(n:Int)≠0:=by omega
   clear bV xv;refine oL 20 (fun w'=>∃d,w'=fT (CGr w.heap.size A w5.heap.size) WV d) (by kernel_rfl) (by kernel_rfl) (fun ⟨_,_,h⟩=>h) ?_;refine fU (fuel:=3) [0,1,2,3,4,5,6,7,8,9,10,11,12,13,14,15,16] [17] (by kernel_rfl) (aUb _ _) ?_
   try simp only [Act.put,aRp,aRx,aRw]
   simp only [aR8,aR1,aRm,aRg,aRh]
   show wpQuiet _ _ _ _ [_,_,_,_,_,_,_,_,_,_,_,_,_,_,_,_,_] _
   repeat (go_big_quiet_step (fail))
   refine wpQuiet_nil ?_;intro e he;simp only [aR4,aRz,or_false] at he;subst he
   (unfold gJ;simp only [aRm,aRh,aRg,aRl];refine ⟨_,rfl,fun K hK=>?_⟩)
   go_wp2;have CL:=hid (show ∀q:Addr,CGr w.heap.size A w5.heap.size q->q.block<WV.heap.size from fun q hq=>by have hz:=ZV.out;rcases hq with h|h|h <;> omega);refine hK _ _ (.inr (aSn fun q hq=>aRv (w:=WV) X_ (CL q hq))) ?_;clear hK K
   obtain ⟨U,hU⟩:∃U,(i:Int)*256 / (n:Int)=U:=⟨_,rfl⟩
   obtain ⟨V,hV⟩:∃V,(j:Int)*256 / (n:Int)=V:=⟨_,rfl⟩
   rw [hU,hV]
   have c4:ptG f n i j=⟨U,V,X,Y,Z⟩:=by unfold ptG;rw [hU,hV,b7]
   have d3:=hid c4;clear c4 hU hV;have xP:Ext WV ((WV.alloc (.cells #[U,V,X,Y,Z] 228)).drew):=X_;have bP:Blk ((WV.alloc (.cells #[U,V,X,Y,Z] 228)).drew) WV.heap.size 228 [U,V,X,Y,Z]:=(aRr WV 228 [U,V,X,Y,Z]).ext (aSk (aRu _))
   obtain ⟨WP,c0⟩:∃WP,(WV.alloc (.cells #[U,V,X,Y,Z] 228)).drew=WP:=⟨_,rfl⟩
   rw [c0] at xP bP ⊢;clear c0;have XP:=hid xP;have BP:=hid bP
   have h7:(iB f n h5).length<1000000:=by
    have h1:(iB f n h5).length=h5.length:=by unfold iB;rw [aSv]
    have h2:n*n<=64:=aSi (by omega:n<=8) (by omega:n<=8);omega
   have e4:w.heap.size<=WP.heap.size:=by have:=XP.size;omega
   have d2:=hid h7;clear xP bP h7 v0 v1 v2 c1 n0;refine fU (fuel:=2) [] [18] (by kernel_rfl) (aSn fun q hq=>XP.block (CL q hq)) ?_;refine wpQuiet_nil ?_;intro e he;simp only [aR4,aRz,or_false] at he;subst he
   (unfold gJ;simp only [aRm,aRh,aRg,aRl];refine ⟨_,rfl,fun K hK=>?_⟩)
   refine mO _ rfl _ _ rfl w.heap.size (.slice ta (iB f n h5).length tc) (iB f n h5) rfl (aE.ext U2 XP) ⟨U,V,X,Y,Z⟩ WV.heap.size rfl (fun q hq=>by
    rcases (show q=0\/q=1\/q=2\/q=3\/q=4 by omega) with rfl|rfl|rfl|rfl|rfl
    ·exact BP.cell 0 rfl
    ·exact BP.cell 1 rfl
    ·exact BP.cell 2 rfl
    ·exact BP.cell 3 rfl
    ·exact BP.cell 4 rfl) d2 e4 ?_
   intro v8 w8 q4 hg;obtain ⟨va,vc,rfl,_⟩:=aE.form q4
   have b6:=hid (show ∀q:Addr,CGr w.heap.size A w5.heap.size q->w8.heap[q.block]?=WV.heap[q.block]? from fun q hq=>by
    have hl:=CL.out q hq
    have hr:some q.block≠(aS2 ta (iB f n h5).length tc).ownBlock:=by
     rcases hq with h|h|h
     ·rw [h];exact bY UN (by decide) U2
     ·rw [h];exact bY U1 (by decide) U2
     ·rw [h];exact bY UV (by decide) U2
    exact (hg.block _ (aS5 hl XP.size) hr).trans (XP.block hl))
   have G1:=(U1.ext XP).grown hg (bY U1 (by decide) U2);have c1:=G1.cell 1 rfl;have f1:=G1.free 1;have gl:=G1.lt;have HO:=hid q4;have HG:=hid hg;clear q4 hg G1;go_wp2_with fail;refine hK _ _ (.inr (aSn b6)) ?_;clear hK K;refine fU (fuel:=0) [19] [20] (by kernel_rfl) (aSn b6) ?_
   try simp only [Act.put,aRp,aRx,aRw]
   simp only [aR8,aR1,aRm,aRg,aRh]
   show wpQuiet _ _ _ _ [_] _
   repeat (go_big_quiet_step (fail))
   refine wpQuiet_nil ?_;intro e he;simp only [aR4,aRz,or_false] at he;subst he
   (unfold gJ;simp only [aRm,aRh,aRg,aRl];refine ⟨_,rfl,fun K hK=>?_⟩)
   go_wp2;refine l_ hK ?_;clear hK K;refine wL (by kernel_rfl) ?_;have T4:=HI.push NE (by decide) 1 rfl T1 T2 (YV.trans XP) HG HO;simp only [aSa,aSw,aTu,aSf] at T4;refine ⟨(((Ext.others (YV.trans XP)).trans (KeepsOthers.of_grownBy HG (aCg (YV.trans XP) T2))).trans (KeepsOthers.setCell _ _ _)).from _,(T4.fx _ (.tail _ (.tail _ (.tail _ (.tail _ (.tail _ (.head _))))))).trans (HI.fx _ (.tail _ (.tail _ (.tail _ (.tail _ (.tail _ (.head _))))))).symm,?_⟩
   show RB _ _ _ _ _ _ _ _ _ (iB f n (h5++[x]))
   rw [aJ0,z9,y1,d3];exact T4
  case done=>
   rintro D ys W hD rfl hI hK;obtain ⟨tv,q6,h8⟩:=hI.tb;obtain ⟨ta,tc,rfl,a9⟩:=aE.form h8
   have h9:(iB f n (cH n h4 (n*n))).length=n*n:=by unfold iB;rw [aSv,oE]
   have b8:=hid (show ∀W2:World,aE Pt.cs w.heap.size 228 5 W2 (.slice ta (iB f n (cH n h4 (n*n))).length tc) (iB f n (cH n h4 (n*n)))->aB w1.heap.size W2 (.slice sa t.px.length sc) t.px->(nP f n t).R w.heap.size W2.heap.size W2 (.agg #[(n:Nat),.slice ta (iB f n (cH n h4 (n*n))).length tc,(),t.log,.slice sa t.px.length sc]) from fun W2 o1 o2=>by
    refine ⟨_,_,rfl,⟨by show -9223372036854775808<=(n:Int);omega,by show (n:Int)<=9223372036854775807;omega⟩,⟨by show (-9223372036854775808:Int)<=0;decide,by show (0:Int)<=9223372036854775807;decide⟩,d4,?_,?_⟩
    ·have h:=aE.flatsI (ls:=Pt.ls) (F:=aBb f n) o1 (by decide) (fun _=>rfl) (fun _=>rfl) (fun p hp y hy=>by
      obtain ⟨q,hq,rfl⟩:=aSj hp;have e:=aE4 f n h4 (aRs hq);rw [h9] at hq;rw [e] at hy;have:=aG8 f (n:=n) (i:=q % n) (j:=q / n) (by omega) (aT4 _ h4) (aTs hq) y hy
      exact ⟨by omega,by omega⟩) (fun q p k hq hk=>by rw [aE4 f n h4 hq];exact jZ f n q k hk)
     rw [h9] at h ⊢;exact h
    ·exact o2.ints.wide (by have:=Z1.out;omega) (aRi _))
   have hR:=b8.out W h8 (KO W (hI.fx _ (.tail _ (.tail _ (.tail _ (.tail _ (.head _)))))));have d7:=hid h8;have KG:=hid (hI.fx _ (.tail _ (.tail _ (.tail _ (.tail _ (.head _))))));have HR:=hid hR;have k3:=hI.fx _ (.tail _ (.tail _ (.tail _ (.head _))));have K3:=hid k3;have KA:=hid q6;have d0:=hid hI.ext;have HD:=hid hK;obtain ⟨a0,a1,a2,a3,a4⟩:=q6.q5;have al:=q6.lt;clear hR hI q6 h8 k3 hK h9;go_wp2_with fail;refine (mC w.heap.size W.heap.size _ (nP f n t) _ HR (aRi _)).mono ?_;rw [yK hn d1];rintro e w9 ⟨rfl,x9⟩;have A9:=KA.ext x9;have B9:=K3.ext x9;have X9:=hid x9;clear x9 a0 a1 a2 a3 a4 al;obtain ⟨a0,a1,a2,a3,a4⟩:=A9.q5;have al:=A9.lt;obtain ⟨b0,b1,b2,b3,b4⟩:=B9.q5;have f0:=B9.free 0;have f1:=B9.free 1;have f2:=B9.free 2;have f3:=B9.free 3;have f4:=B9.free 4;have bl:=B9.lt
   try simp only [grF] at b0 b1 b2 b3 b4 f0 f1 f2 f3 f4 bl
   have BB:Blk w9 (w.heap.size+1+1+1) 168 [(),.slice none 0 0,(),(),.slice none 0 0]:=B9
   have x3:g≠w.heap.size+1+1+1:=fun e=>by
    have h:Blk w9 g 3 cs:=KG.ext X9;rw [e] at h;unfold Blk at h BB;rw [h] at BB;simp only [aRl,aSx] at BB;exact absurd BB.2.1 (by decide)
   have q8:=hid BB;clear A9 B9 BB;go_wp2_with fail
   have oF:=(aE.setBlk (aE.setBlk (aE.setBlk (aE.setBlk (aE.setBlk (aE.ext d7 X9) q8 (by decide) 0 (.int .i64 (n:Nat))) (q8.set 0 (.int .i64 (n:Nat))) (by decide) 1 (.slice ta (iB f n (cH n h4 (n*n))).length tc)) ((q8.set 0 (.int .i64 (n:Nat))).set 1 (.slice ta (iB f n (cH n h4 (n*n))).length tc)) (by decide) 2 (.int .i64 0)) (((q8.set 0 (.int .i64 (n:Nat))).set 1 (.slice ta (iB f n (cH n h4 (n*n))).length tc)).set 2 (.int .i64 0)) (by decide) 3 (.int .i64 t.log)) ((((q8.set 0 (.int .i64 (n:Nat))).set 1 (.slice ta (iB f n (cH n h4 (n*n))).length tc)).set 2 (.int .i64 0)).set 3 (.int .i64 t.log)) (by decide) 4 (.slice sa t.px.length sc))
   have gF:=((((((KG.ext X9).other (a:=⟨w.heap.size+1+1+1,0,none⟩) x3 (.int .i64 (n:Nat))).other (a:=⟨w.heap.size+1+1+1,1,none⟩) x3 (.slice ta (iB f n (cH n h4 (n*n))).length tc)).other (a:=⟨w.heap.size+1+1+1,2,none⟩) x3 (.int .i64 0)).other (a:=⟨w.heap.size+1+1+1,3,none⟩) x3 (.int .i64 t.log)).other (a:=⟨w.heap.size+1+1+1,4,none⟩) x3 (.slice sa t.px.length sc))
   have eF:=(aR0 (aR0 (aR0 (aR0 (aR0 (d0.trans X9) (p:=⟨w.heap.size+1+1+1,0,none⟩) (by simp only;omega) (.int .i64 (n:Nat))) (p:=⟨w.heap.size+1+1+1,1,none⟩) (by simp only;omega) (.slice ta (iB f n (cH n h4 (n*n))).length tc)) (p:=⟨w.heap.size+1+1+1,2,none⟩) (by simp only;omega) (.int .i64 0)) (p:=⟨w.heap.size+1+1+1,3,none⟩) (by simp only;omega) (.int .i64 t.log)) (p:=⟨w.heap.size+1+1+1,4,none⟩) (by simp only;omega) (.slice sa t.px.length sc))
   have bF:=(((((q8.set 0 (.int .i64 (n:Nat))).set 1 (.slice ta (iB f n (cH n h4 (n*n))).length tc)).set 2 (.int .i64 0)).set 3 (.int .i64 t.log)).set 4 (.slice sa t.px.length sc))
   have e2:=gS HD
   have dF:((((((w9.setCell ⟨w.heap.size+1+1+1,0,none⟩ (.int .i64 (n:Nat))).setCell ⟨w.heap.size+1+1+1,1,none⟩ (.slice ta (iB f n (cH n h4 (n*n))).length tc)).setCell ⟨w.heap.size+1+1+1,2,none⟩ ()).setCell ⟨w.heap.size+1+1+1,3,none⟩ t.log).setCell ⟨w.heap.size+1+1+1,4,none⟩ (.slice sa t.px.length sc))).heap[D]?=some (.deferred (some [])):=by
    rw [aRt _ _ _ _ (by simp only;omega),aRt _ _ _ _ (by simp only;omega),aRt _ _ _ _ (by simp only;omega),aRt _ _ _ _ (by simp only;omega),aRt _ _ _ _ (by simp only;omega)];exact (X9.block e2).trans HD
   obtain ⟨WF,b9⟩:∃WF,(((((w9.setCell ⟨w.heap.size+1+1+1,0,none⟩ (.int .i64 (n:Nat))).setCell ⟨w.heap.size+1+1+1,1,none⟩ (.slice ta (iB f n (cH n h4 (n*n))).length tc)).setCell ⟨w.heap.size+1+1+1,2,none⟩ ()).setCell ⟨w.heap.size+1+1+1,3,none⟩ t.log).setCell ⟨w.heap.size+1+1+1,4,none⟩ (.slice sa t.px.length sc))=WF:=⟨_,rfl⟩
   rw [b9] at oF gF eF bF dF ⊢;clear b9
   have kk:∀r,some D=some r->∃o:Obj,WF.heap[r]?=some o/\o.isCells=false:=fun r e=>by cases e;exact ⟨_,dF,rfl⟩
   refine ⟨by simp,.inl ⟨_,_,rfl,run_takeDeferred dF,?_⟩⟩;refine ⟨_,aEz rfl _ _ rfl (oH (grownBy_putObj' WF D _) kk bF) _ underlying168 rfl aG9,_,rfl,?_,?_⟩
   ·exact b8 _ (aE.owns oF (grownBy_putObj' WF D _) kk) (KO _ (oH (grownBy_putObj' WF D _) kk gF))
   ·exact eF.grown (grownBy_putObj' WF D _) (fun k e=>by cases e;omega)
end
theorem sN (s:Scn) (lo hi:Nat) (v:Value) (w:World) (hv:s.R lo hi w v) (hh:hi<=w.heap.size) (hsm:s.small) :
  R_ 49 #[v] w (.bool s.okB):=by
 obtain ⟨a1,c1,a2,c2,a3,c3,rfl,-,h8,-,h1,h2,h3⟩:=hv.form;have q0:=aRr w 40 (sL_ s a1 c1 a2 c2 a3 c3);have R0:=hid q0;have X0:=hid (show Ext w (w.alloc (.cells (sA_ s a1 c1 a2 c2 a3 c3) 40)) from X_);have HT:=hid (show ∀W:World,Ext w W->cT lo hi W (.agg #[s.t.log,.slice a1 s.t.px.length c1]) s.t from fun W x=>⟨_,rfl,h8,(h1.shut).ext hh x⟩);have H1:=hid h1;have H2:=hid h2;have H3:=hid h3;have x9:=h2.le;have x0:=h2.cap;have z0:=h3.le;have x3:=h3.cap;have HS:=hid hsm;clear q0 hv h8 h1 h2 h3 hsm;unfold Scn.okB
 obtain ⟨b1,h9⟩:∃b,s.c.okB=b:=⟨_,rfl⟩
 obtain ⟨b2,q1⟩:∃b,s.t.okB=b:=⟨_,rfl⟩
 obtain ⟨b3,q4⟩:∃b,inB (s.ps.length:Int) 1 3=b:=⟨_,rfl⟩
 obtain ⟨b5,q5⟩:∃b,qK s.side=b:=⟨_,rfl⟩
 have C1:=hid h9;have C2:=hid q1;have C3:=hid q4;have C5:=hid (show ∀W:World,R_ 93 #[s.side] W (.bool b5) from fun W=>q5▸aE2 s.side W);rw [h9,q1,q4,q5];clear h9 q1 q4 q5
 cases b1
 case false=>
  go_enter func49,ntmps49;go_wp2_with fail;refine r_ (cJ C1 _) fun w1 x1=>?_;have X1:=hid (X0.trans x1);have R1:=hid (R0.ext x1);clear x1;go_wp2;go_ret;exact ⟨by simp [*],X1⟩
 cases b2
 case true.false=>
  go_enter func49,ntmps49;go_wp2_with fail;refine r_ (cJ C1 _) fun w1 x1=>?_;have X1:=hid (X0.trans x1);have R1:=hid (R0.ext x1);clear x1;have c7:=R1.cell 7 rfl;have c8:=R1.cell 8 rfl;have l1:=R1.lt;go_wp2_with fail;refine r_ (cQ C2 lo hi _ _ (HT _ X1) (aRq hh X1.size)) fun w2 x2=>?_;have X2:=hid (X1.trans x2);have R2:=hid (R1.ext x2);clear x2 c7 c8 l1;go_wp2;go_ret;exact ⟨by simp [*],X2⟩
 cases b3
 case true.true.false=>
  go_enter func49,ntmps49;go_wp2_with fail;refine r_ (cJ C1 _) fun w1 x1=>?_;have X1:=hid (X0.trans x1);have R1:=hid (R0.ext x1);clear x1;have c7:=R1.cell 7 rfl;have c8:=R1.cell 8 rfl;have l1:=R1.lt;go_wp2_with fail;refine r_ (cQ C2 lo hi _ _ (HT _ X1) (aRq hh X1.size)) fun w2 x2=>?_;have X2:=hid (X1.trans x2);have R2:=hid (R1.ext x2);clear x2 c7 c8 l1;have c9:=R2.cell 9 rfl;have h6:=R2.cell 10 rfl;have h7:=R2.cell 11 rfl;have l2:=R2.lt;go_wp2_with (go_at_call 92;refine z_ (aL C3 _) ?_);go_ret;exact ⟨by simp [*],X2⟩
 rcases aSo 5 s.m with hm|hm
 ·have g0:decide (s.m<=5)=false:=by simp;omega
  go_enter func49,ntmps49;go_wp2_with fail;refine r_ (cJ C1 _) fun w1 x1=>?_;have X1:=hid (X0.trans x1);have R1:=hid (R0.ext x1);clear x1;have c7:=R1.cell 7 rfl;have c8:=R1.cell 8 rfl;have l1:=R1.lt;go_wp2_with fail;refine r_ (cQ C2 lo hi _ _ (HT _ X1) (aRq hh X1.size)) fun w2 x2=>?_;have X2:=hid (X1.trans x2);have R2:=hid (R1.ext x2);clear x2 c7 c8 l1;have c9:=R2.cell 9 rfl;have h6:=R2.cell 10 rfl;have h7:=R2.cell 11 rfl;have l2:=R2.lt;go_wp2_with (go_at_call 92;refine z_ (aL C3 _) ?_);go_ret;exact ⟨by simp [*],X2⟩
 have g0:decide (s.m<=5)=true:=by simp;omega
 cases b5
 case true.true.true.inr.false=>
  go_enter func49,ntmps49;go_wp2_with fail;refine r_ (cJ C1 _) fun w1 x1=>?_;have X1:=hid (X0.trans x1);have R1:=hid (R0.ext x1);clear x1;have c7:=R1.cell 7 rfl;have c8:=R1.cell 8 rfl;have l1:=R1.lt;go_wp2_with fail;refine r_ (cQ C2 lo hi _ _ (HT _ X1) (aRq hh X1.size)) fun w2 x2=>?_;have X2:=hid (X1.trans x2);have R2:=hid (R1.ext x2);clear x2 c7 c8 l1;have c9:=R2.cell 9 rfl;have h6:=R2.cell 10 rfl;have h7:=R2.cell 11 rfl;have l2:=R2.lt;go_wp2_with (go_at_call 92;refine z_ (aL C3 _) ?_);refine r_ (C5 _) fun w4 x4=>?_;have X4:=hid (X2.trans x4);have R4:=hid (R2.ext x4);clear x4 c9 h6 h7 l2;go_wp2;go_ret;exact ⟨by simp [*],X4⟩
 go_enter func49,ntmps49;go_wp2_with fail;refine r_ (cJ C1 _) fun w1 x1=>?_;have X1:=hid (X0.trans x1);have R1:=hid (R0.ext x1);clear x1;have c7:=R1.cell 7 rfl;have c8:=R1.cell 8 rfl;have l1:=R1.lt;go_wp2_with fail;refine r_ (cQ C2 lo hi _ _ (HT _ X1) (aRq hh X1.size)) fun w2 x2=>?_;have X2:=hid (X1.trans x2);have R2:=hid (R1.ext x2);clear x2 c7 c8 l1;have c9:=R2.cell 9 rfl;have h6:=R2.cell 10 rfl;have h7:=R2.cell 11 rfl;have l2:=R2.lt;go_wp2_with (go_at_call 92;refine z_ (aL C3 _) ?_);refine r_ (C5 _) fun w4 x4=>?_;have X4:=hid (X2.trans x4);have R4:=hid (R2.ext x4);clear x4 c9 h6 h7 l2;have h6:=R4.cell 9 rfl;have l4:=R4.lt;go_wp2_with fail;clear h6 l4
 go_loopw [39] (fun i wr=>∃k:Nat,k<=s.ps.length/\i = .int .i64 (k:Nat)/\Ext w wr/\Blk wr w.heap.size 40 (sL_ s a1 c1 a2 c2 a3 c3)/\∀q (hq:q<k) (hq2:q<s.ps.length),s.ps[q].chkB=true) (fun i _=>s.ps.length - (intOf i).toNat)
 case atStart=>exact ⟨0,by omega,rfl,X4,R4,fun q hq=>absurd hq (by omega)⟩
 case round=>
  obtain ⟨k,hk,rfl,hx,hb,hc⟩:=hrel;have HX:=hid hx;have HB:=hid hb;have HC:=hid hc
  rcases aSo k s.ps.length with hlt|hge
  ·obtain ⟨b,q2,e1,d1,e2,d2,rfl,x8,x7,k1,k2,hR⟩:=H2.at hlt hx hh
   have HR:=hid hR;have hz:=hx.size;have HL:=hid hlt;clear hx hb hc hR X1 X2 X4 R1 R2 R4;go_wp2_with fail
   cases h4:(s.ps[k]'hlt).chkB
   ·refine (tW h4 lo hi _ _ (HR.ext (by omega) (show Ext wr (wr.alloc (.cells #[.slice e1 (s.ps[k]'hlt).ns.length d1,.slice e2 (s.ps[k]'hlt).gs.length d2] 119)) from X_)) (by simp;omega) (HS _ (aR2 hlt)).1 (HS _ (aR2 hlt)).2.2).mono ?_
    rintro e w5 ⟨rfl,x5⟩;have y5:Ext wr w5:=aRo (show Ext wr (wr.alloc (.cells #[.slice e1 (s.ps[k]'hlt).ns.length d1,.slice e2 (s.ps[k]'hlt).gs.length d2] 119)) from X_) x5;have h0:s.ps.all Prg.chkB=false:=aUt.2 ⟨_,aR2 hlt,by simp [h4]⟩;have X5:=HX.trans y5;clear h4;go_wp2;go_ret;exact ⟨by rw [h0];simp,X5⟩
   ·refine (tW h4 lo hi _ _ (HR.ext (by omega) (show Ext wr (wr.alloc (.cells #[.slice e1 (s.ps[k]'hlt).ns.length d1,.slice e2 (s.ps[k]'hlt).gs.length d2] 119)) from X_)) (by simp;omega) (HS _ (aR2 hlt)).1 (HS _ (aR2 hlt)).2.2).mono ?_
    rintro e w5 ⟨rfl,x5⟩;have y5:Ext wr w5:=aRo (show Ext wr (wr.alloc (.cells #[.slice e1 (s.ps[k]'hlt).ns.length d1,.slice e2 (s.ps[k]'hlt).gs.length d2] 119)) from X_) x5;have X5:=hid (HX.trans y5);have R5:=hid (HB.ext y5);have q3:=hid h4;clear h4;go_wp2;go_roundw
    case rel=>
     refine ⟨k+1,by omega,by go_num,X5,R5,fun q hq hq2=>?_⟩
     rcases aSo q k with h|h
     ·exact HC q h hq2
     ·obtain rfl:q=k:=by omega
      exact q3
    case measure=>simp [intOf];omega
  ·obtain rfl:k=s.ps.length:=by omega
   have h0:s.ps.all Prg.chkB=true:=aSs.2 (fun x hx=>by obtain ⟨q,hq,rfl⟩:=aSj hx;exact hc q hq hq);have HA:=hid h0;have h7:=hb.cell 10 rfl;have lb:=hb.lt;clear hx hb hc h0 X1 X2 X4 R1 R2 R4;go_wp2_with fail;clear h7 lb
   go_loopw [50] (fun i wr=>∃k:Nat,k<=s.m/\i = .int .i64 (k:Nat)/\Ext w wr/\Blk wr w.heap.size 40 (sL_ s a1 c1 a2 c2 a3 c3)/\∀q,q<k->s.srfB q=true) (fun i _=>s.m - (intOf i).toNat)
   case atStart=>exact ⟨0,by omega,rfl,HX,HB,fun q hq=>absurd hq (by omega)⟩
   case round=>
    obtain ⟨j,hj,rfl,hx,hb,hc⟩:=hrel;have HX:=hid hx;have HB:=hid hb;have HC:=hid hc
    rcases aSo j s.m with hlt|hge
    ·obtain ⟨b,q2,rfl,h9,q1,h5⟩:=H3.at hlt (by decide)
     have bw:b<w.heap.size:=by omega
     have q6:wr.rangeAt b (q2+j*26) ((aR6 26).map fun q=>.int .i64 (s.F (j*26+q))):=by
      intro q v hq;obtain ⟨h1,h2⟩:=aRk.1 hq;simp only [aSv,aUi] at h1;simp only [aU3,aUd] at h2;subst h2;exact (hx.cells.1 b _ bw).trans (h5 q h1)
     change wr.rangeAt b (q2+j*26) [(s.st j 0),(s.st j 1),(s.st j 2),(s.st j 3),(s.st j 4),(s.st j 5),(s.st j 6),(s.st j 7),(s.st j 8),(s.st j 9),(s.st j 10),(s.st j 11),(s.en j 0),(s.en j 1),(s.en j 2),(s.en j 3),(s.en j 4),(s.en j 5),(s.en j 6),(s.en j 7),(s.en j 8),(s.en j 9),(s.en j 10),(s.en j 11),(s.sh j),(s.rt j)] at q6;have q9:=hid q6
     have q7:World.rangeAt (wr.alloc (.cells #[(s.st j 0),(s.st j 1),(s.st j 2),(s.st j 3),(s.st j 4),(s.st j 5),(s.st j 6),(s.st j 7),(s.st j 8),(s.st j 9),(s.st j 10),(s.st j 11),(s.en j 0),(s.en j 1),(s.en j 2),(s.en j 3),(s.en j 4),(s.en j 5),(s.en j 6),(s.en j 7),(s.en j 8),(s.en j 9),(s.en j 10),(s.en j 11),(s.sh j),(s.rt j)] 127)) wr.heap.size 0 [(s.st j 0),(s.st j 1),(s.st j 2),(s.st j 3),(s.st j 4),(s.st j 5),(s.st j 6),(s.st j 7),(s.st j 8),(s.st j 9),(s.st j 10),(s.st j 11),(s.en j 0),(s.en j 1),(s.en j 2),(s.en j 3),(s.en j 4),(s.en j 5),(s.en j 6),(s.en j 7),(s.en j 8),(s.en j 9),(s.en j 10),(s.en j 11),(s.sh j),(s.rt j)]:=fun q v hq=>by rw [aSf];exact (aRr wr 127 [(s.st j 0),(s.st j 1),(s.st j 2),(s.st j 3),(s.st j 4),(s.st j 5),(s.st j 6),(s.st j 7),(s.st j 8),(s.st j 9),(s.st j 10),(s.st j 11),(s.en j 0),(s.en j 1),(s.en j 2),(s.en j 3),(s.en j 4),(s.en j 5),(s.en j 6),(s.en j 7),(s.en j 8),(s.en j 9),(s.en j 10),(s.en j 11),(s.sh j),(s.rt j)]).cell q hq
     have q8:=hid q7;clear q6 q7;have b9:=hb.cell 9 rfl;have bl:=hb.lt;have x6:b<wr.heap.size:=aS5 bw hx.size;clear hx hb hc h5;go_upto_region 12 with (first|(show wpList _ _ _ [_,_,_] _ _;refine wpList_load_mid rfl _ _ rfl b (q2+j*26) rfl [(s.st j 0),(s.st j 1),(s.st j 2),(s.st j 3),(s.st j 4),(s.st j 5),(s.st j 6),(s.st j 7),(s.st j 8),(s.st j 9),(s.st j 10),(s.st j 11),(s.en j 0),(s.en j 1),(s.en j 2),(s.en j 3),(s.en j 4),(s.en j 5),(s.en j 6),(s.en j 7),(s.en j 8),(s.en j 9),(s.en j 10),(s.en j 11),(s.sh j),(s.rt j)] _ q9 underlying127 rfl fX ?_)|(show wpList _ _ _ [_] _ _;refine dP _ _ _ rfl 127 (.tmp 6) (.tmp 53) rfl rfl #[(s.st j 0),(s.st j 1),(s.st j 2),(s.st j 3),(s.st j 4),(s.st j 5),(s.st j 6),(s.st j 7),(s.st j 8),(s.st j 9),(s.st j 10),(s.st j 11),(s.en j 0),(s.en j 1),(s.en j 2),(s.en j 3),(s.en j 4),(s.en j 5),(s.en j 6),(s.en j 7),(s.en j 8),(s.en j 9),(s.en j 10),(s.en j 11),(s.sh j),(s.rt j)] wr.heap.size rfl rfl rfl (by kernel_rfl) (by kernel_rfl) (by kernel_rfl) ?_));go_wp2_with (show wpList _ _ _ [_,_,_,_,_,_] _ _;refine wpList_load_mid rfl _ _ rfl wr.heap.size 0 rfl [(s.st j 0),(s.st j 1),(s.st j 2),(s.st j 3),(s.st j 4),(s.st j 5),(s.st j 6),(s.st j 7),(s.st j 8),(s.st j 9),(s.st j 10),(s.st j 11),(s.en j 0),(s.en j 1),(s.en j 2),(s.en j 3),(s.en j 4),(s.en j 5),(s.en j 6),(s.en j 7),(s.en j 8),(s.en j 9),(s.en j 10),(s.en j 11),(s.sh j),(s.rt j)] _ q8 underlying127 rfl fX ?_);refine r_ (pU (s.st j) (s.en j) (s.sh j) (s.rt j) s.ps.length _) fun w5 x5=>?_;have y5:Ext wr w5:=aRo (show Ext wr (wr.alloc (.cells #[(s.st j 0),(s.st j 1),(s.st j 2),(s.st j 3),(s.st j 4),(s.st j 5),(s.st j 6),(s.st j 7),(s.st j 8),(s.st j 9),(s.st j 10),(s.st j 11),(s.en j 0),(s.en j 1),(s.en j 2),(s.en j 3),(s.en j 4),(s.en j 5),(s.en j 6),(s.en j 7),(s.en j 8),(s.en j 9),(s.en j 10),(s.en j 11),(s.sh j),(s.rt j)] 127)) from X_) x5;have X5:=hid (HX.trans y5);have R5:=hid (HB.ext y5)
     cases h4:aNs (s.st j) (s.en j) (s.sh j) (s.rt j) s.ps.length
     ·have h0:(aR6 s.m).all s.srfB=false:=aUt.2 ⟨j,aSq.2 hlt,by unfold Scn.srfB;simp [h4]⟩
      clear h4;go_wp2;go_ret;exact ⟨by rw [h0];simp,X5⟩
     ·have q3:=hid h4
      clear h4;go_wp2;go_roundw
      case rel=>
       refine ⟨j+1,by omega,by go_num,X5,R5,fun q hq=>?_⟩
       rcases aSo q j with h|h
       ·exact HC q h
       ·obtain rfl:q=j:=by omega
        exact q3
      case measure=>simp [intOf];omega
    ·obtain rfl:j=s.m:=by omega
     have h0:(aR6 s.m).all s.srfB=true:=aSs.2 (fun q hq=>HC q (aSq.1 hq));go_wp2;go_ret;exact ⟨by rw [h0,HA,g0];rfl,HX⟩
section
open Go.RowKit Go.Maps Go.WideMaps
theorem iU {p:Prg} {op num:Int} {s:ByteArray} {us:List Int} {o n:Int} {t:ByteArray} (h:bM p ⟨op,s,num,us⟩=⟨o,t,n⟩):(bM p ⟨op,s,num,us⟩).val = .agg #[o,.string t,n]:=by rw [h];rfl
theorem aHa (p:Prg) (hK:p.K) (j:Nat) (op num:Int) (s:ByteArray) (ra:List Int) (hx:p.ns[j]?=some ⟨op,s,num,ra⟩) (sa:Option Addr) (sn sc b:Nat) (w:World) (hM:FM w b p.gs p.gs.length) (hs:s.size<=maxLen) (hgl:p.gs.length<=1048576) :
  Calls aRn 163 #[.agg #[op,.string s,num,.slice sa sn sc],.map (some b)] w fun e w'=>e = .returned (bM p ⟨op,s,num,ra⟩).val/\Ext w w':=by
 have HM:=hid hM;have nF:=jW (hK.v.nd j _ hx).1;simp only at nF;have HX:=hid hx;clear hM hx
 by_cases o1:op=1
 ·subst o1
  clear nF;have hi:bM p ⟨1,s,num,ra⟩=⟨1,⟨#[]⟩,num⟩:=rfl;rw [iU hi];clear hi;have NB:=hid (aRr w 197 [.int .i64 (1),.string s,num,.slice sa sn sc]);go_enter func163,ntmps163;go_wp2_with fail;refine r_ (fW (1) s num _ _) fun w1 x1=>?_;have N1:=NB.ext (show Ext _ ((w.alloc (.cells #[.int .i64 (1),.string s,num,.slice sa sn sc] 197)).alloc (.cells #[(),.string ⟨#[]⟩,()] 221)) from X_);have R1:=aRr (w.alloc (.cells #[.int .i64 (1),.string s,num,.slice sa sn sc] 197)) 221 [(),.string ⟨#[]⟩,()];rw [aRj] at R1;have X1:Ext w w1:=aRo X_ x1;have N2:=N1.ext x1;have R2:=R1.ext x1;have M2:=hid (HM.ext X1);obtain ⟨n0,n1,n2⟩:=N2.q3;obtain ⟨r0,r1,r2⟩:=R2.q3;have f0:=R2.free 0;have f1:=R2.free 1;have f2:=R2.free 2;have zn:=N2.lt;have zr:=R2.lt;clear N1 R1 N2 R2 x1;unfold gL;rw [if_neg (by decide),if_neg (by decide)];go_wp2;refine bodyPost_ret (v:=.agg #[.int .i64 (1),.string ⟨#[]⟩,.int .i64 (num)]) (by simp [results,results163,go_sem, *]) rfl ?_;exact ⟨rfl,S_⟩
 by_cases o3:op=3
 ·subst o3
  clear nF;have hi:bM p ⟨3,s,num,ra⟩=⟨5,⟨#[]⟩,3⟩:=rfl;rw [iU hi];clear hi;have NB:=hid (aRr w 197 [.int .i64 (3),.string s,num,.slice sa sn sc]);go_enter func163,ntmps163;go_wp2_with fail;refine r_ (fW (3) s num _ _) fun w1 x1=>?_;have N1:=NB.ext (show Ext _ ((w.alloc (.cells #[.int .i64 (3),.string s,num,.slice sa sn sc] 197)).alloc (.cells #[(),.string ⟨#[]⟩,()] 221)) from X_);have R1:=aRr (w.alloc (.cells #[.int .i64 (3),.string s,num,.slice sa sn sc] 197)) 221 [(),.string ⟨#[]⟩,()];rw [aRj] at R1;have X1:Ext w w1:=aRo X_ x1;have N2:=N1.ext x1;have R2:=R1.ext x1;have M2:=hid (HM.ext X1);obtain ⟨n0,n1,n2⟩:=N2.q3;obtain ⟨r0,r1,r2⟩:=R2.q3;have f0:=R2.free 0;have f1:=R2.free 1;have f2:=R2.free 2;have zn:=N2.lt;have zr:=R2.lt;clear N1 R1 N2 R2 x1;unfold gL;rw [if_neg (by decide),if_neg (by decide)];go_wp2;refine bodyPost_ret (v:=.agg #[.int .i64 (5),.string ⟨#[]⟩,.int .i64 (3)]) (by simp [results,results163,go_sem, *]) rfl ?_;exact ⟨rfl,S_⟩
 by_cases o2:op=2
 ·subst o2
  have h0:=aOh (.agg #[.int .i64 2,.string s,num,.slice sa sn sc]);clear nF
  cases hv:dB s
  ·obtain ⟨i,h2,h4⟩:=hK.name j _ HX rfl hv
   simp only at h2;have HI:=hid h2;have h5:=(fD h2).1
   have h3:pT p s=i:=by unfold pT;rw [h2];rfl
   have HV:=hid hv;clear h2
   have hi:bM p ⟨2,s,num,ra⟩=⟨3,⟨#[]⟩,(i:Nat)⟩:=by unfold bM;simp [hv,h3]
   rw [iU hi];clear hi;clear hv h3;have NB:=hid (aRr w 197 [.int .i64 (2),.string s,num,.slice sa sn sc]);go_enter func163,ntmps163;go_wp2_with fail;refine r_ (fW (2) s num _ _) fun w1 x1=>?_;have N1:=NB.ext (show Ext _ ((w.alloc (.cells #[.int .i64 (2),.string s,num,.slice sa sn sc] 197)).alloc (.cells #[(),.string ⟨#[]⟩,()] 221)) from X_);have R1:=aRr (w.alloc (.cells #[.int .i64 (2),.string s,num,.slice sa sn sc] 197)) 221 [(),.string ⟨#[]⟩,()];rw [aRj] at R1;have X1:Ext w w1:=aRo X_ x1;have N2:=N1.ext x1;have R2:=R1.ext x1;have M2:=hid (HM.ext X1);obtain ⟨n0,n1,n2⟩:=N2.q3;obtain ⟨r0,r1,r2⟩:=R2.q3;have f0:=R2.free 0;have f1:=R2.free 1;have f2:=R2.free 2;have zn:=N2.lt;have zr:=R2.lt;clear N1 R1 N2 R2 x1;unfold gL;rw [if_pos rfl];go_wp2_with (first|(at_lookup;refine aCm _ rfl _ _ rfl _ _ _ rfl (M2.ext X_) _ hs rfl _ HI ?_)|(go_at_call 201;refine z_ (dG HV _) ?_));refine bodyPost_ret (v:=.agg #[.int .i64 (3),.string ⟨#[]⟩,.int .i64 ((i:Nat))]) (by simp [results,results163,go_sem, *]) rfl ?_;exact ⟨rfl,S_⟩
  ·have HV:=hid hv
   have hi:bM p ⟨2,s,num,ra⟩=⟨2,s,0⟩:=by unfold bM;simp [hv]
   rw [iU hi];clear hi;clear hv;have NB:=hid (aRr w 197 [.int .i64 (2),.string s,num,.slice sa sn sc]);go_enter func163,ntmps163;go_wp2_with fail;refine r_ (fW (2) s num _ _) fun w1 x1=>?_;have N1:=NB.ext (show Ext _ ((w.alloc (.cells #[.int .i64 (2),.string s,num,.slice sa sn sc] 197)).alloc (.cells #[(),.string ⟨#[]⟩,()] 221)) from X_);have R1:=aRr (w.alloc (.cells #[.int .i64 (2),.string s,num,.slice sa sn sc] 197)) 221 [(),.string ⟨#[]⟩,()];rw [aRj] at R1;have X1:Ext w w1:=aRo X_ x1;have N2:=N1.ext x1;have R2:=R1.ext x1;have M2:=hid (HM.ext X1);obtain ⟨n0,n1,n2⟩:=N2.q3;obtain ⟨r0,r1,r2⟩:=R2.q3;have f0:=R2.free 0;have f1:=R2.free 1;have f2:=R2.free 2;have zn:=N2.lt;have zr:=R2.lt;clear N1 R1 N2 R2 x1;unfold gL;rw [if_pos rfl];go_wp2_with (go_at_call 201;refine z_ (dG HV _) ?_);refine bodyPost_ret (v:=.agg #[.int .i64 (2),.string s,.int .i64 (0)]) (by simp [results,results163,go_sem, *]) rfl ?_;exact ⟨rfl,S_⟩
 by_cases o8:op=8
 ·subst o8
  have h0:=aOi (.agg #[.int .i64 8,.string s,num,.slice sa sn sc]);have h1:=aLa (.agg #[.int .i64 8,.string s,num,.slice sa sn sc]);clear nF;have hi:bM p ⟨8,s,num,ra⟩=⟨7,s,0⟩:=rfl;rw [iU hi];clear hi;have NB:=hid (aRr w 197 [.int .i64 (8),.string s,num,.slice sa sn sc]);go_enter func163,ntmps163;go_wp2_with fail;refine r_ (fW (8) s num _ _) fun w1 x1=>?_;have N1:=NB.ext (show Ext _ ((w.alloc (.cells #[.int .i64 (8),.string s,num,.slice sa sn sc] 197)).alloc (.cells #[(),.string ⟨#[]⟩,()] 221)) from X_);have R1:=aRr (w.alloc (.cells #[.int .i64 (8),.string s,num,.slice sa sn sc] 197)) 221 [(),.string ⟨#[]⟩,()];rw [aRj] at R1;have X1:Ext w w1:=aRo X_ x1;have N2:=N1.ext x1;have R2:=R1.ext x1;have M2:=hid (HM.ext X1);obtain ⟨n0,n1,n2⟩:=N2.q3;obtain ⟨r0,r1,r2⟩:=R2.q3;have f0:=R2.free 0;have f1:=R2.free 1;have f2:=R2.free 2;have zn:=N2.lt;have zr:=R2.lt;clear N1 R1 N2 R2 x1;unfold gL;rw [if_neg (by decide),if_pos rfl];go_wp2;refine bodyPost_ret (v:=.agg #[.int .i64 (7),.string s,.int .i64 (0)]) (by simp [results,results163,go_sem, *]) rfl ?_;exact ⟨rfl,S_⟩
 have h0:=aOj (.agg #[op,.string s,num,.slice sa sn sc]);have h1:=aLb (.agg #[op,.string s,num,.slice sa sn sc]);have b1:(op==1)=false:=beq_eq_false_iff_ne.2 o1;have b3:(op==3)=false:=beq_eq_false_iff_ne.2 o3
 have hi:bM p ⟨op,s,num,ra⟩=⟨6,⟨#[]⟩,op⟩:=by unfold bM;simp [o1,o2,o3,o8]
 rw [iU hi];clear hi;have NB:=hid (aRr w 197 [.int .i64 (op),.string s,num,.slice sa sn sc]);go_enter func163,ntmps163;go_wp2_with fail;refine r_ (fW (op) s num _ _) fun w1 x1=>?_;have N1:=NB.ext (show Ext _ ((w.alloc (.cells #[.int .i64 (op),.string s,num,.slice sa sn sc] 197)).alloc (.cells #[(),.string ⟨#[]⟩,()] 221)) from X_);have R1:=aRr (w.alloc (.cells #[.int .i64 (op),.string s,num,.slice sa sn sc] 197)) 221 [(),.string ⟨#[]⟩,()];rw [aRj] at R1;have X1:Ext w w1:=aRo X_ x1;have N2:=N1.ext x1;have R2:=R1.ext x1;have M2:=hid (HM.ext X1);obtain ⟨n0,n1,n2⟩:=N2.q3;obtain ⟨r0,r1,r2⟩:=R2.q3;have f0:=R2.free 0;have f1:=R2.free 1;have f2:=R2.free 2;have zn:=N2.lt;have zr:=R2.lt;clear N1 R1 N2 R2 x1;unfold gL;rw [if_neg o2,if_neg o8];go_wp2;refine bodyPost_ret (v:=.agg #[.int .i64 (6),.string ⟨#[]⟩,.int .i64 (op)]) (by simp [results,results163,go_sem, *]) rfl ?_;exact ⟨rfl,S_⟩
end
section
open Go.RowKit Go.Maps Go.WideMaps
def Ins.cs (x:Ins):List Value:=[x.op,.string x.name,x.num]
def gD (lo:Nat) (w:World) (v:Value) (xs:List Ins):Prop:=aE Ins.cs lo 221 3 w v xs
theorem uD:(Tryz.prog.info? 221).map (fun i=>(i.zero,i.size,i.bytes))=some (some (.agg #[(),.string ⟨#[]⟩,()]),3,32):=by kernel_rfl
theorem cE (w:World) {ops:Array Oper} {rest:List Oper} {o:Oper} {a:Act} {Q:Exit->Act->World->Prop} (hg:o.guard=none) (s x:Operand)
  (hop:o.op=Op.call { callee:=Callee.builtin Builtin.append,args:=#[s,x],argTypes:=#[160,160] }) (lo:Nat) (v:Value) (xs:List Ins) (hs:a.eval s=v) (hown:gD lo w v xs)
  (y:Ins) (b:Nat) (hx:a.eval x = .slice (some ⟨b,0,none⟩) 1 1) (hcell:w.cell? ⟨b,0,none⟩=some (.int .i64 y.op)/\w.cell? ⟨b,1,none⟩=some (.string y.name)/\w.cell? ⟨b,2,none⟩=some (.int .i64 y.num)) (hlen:xs.length<1000000) (hlo:lo<=w.heap.size)
  (hK:∀v' w',gD lo w' v' (xs++[y])->w.grownBy w' v.ownBlock->wpList aRn ops Q rest (a.put o.dst v') w'):wpList aRn ops Q (o::rest) a w:=by
 refine cX Ins.cs 221 3 32 _ w hg s x 160 hop underlying160 uD rfl (by decide) (by decide) (fun _=>rfl) lo v xs hs hown y b hx ?_ ?_ hlen hlo hK
 ·intro j hj
  obtain ⟨c0,c1,c2⟩:=hcell
  rcases (show j=0\/j=1\/j=2 by omega) with rfl|rfl|rfl
  ·exact c0
  ·exact c1
  ·exact c2
 ·intro u hu
  simp only [Ins.cs,aR4,aRz,or_false] at hu
  rcases hu with rfl|rfl|rfl <;> rfl
theorem aE.rowC {α : Type} {cs : α->List Value} {lo:Nat} {e:TypeId} {sz:Nat} {w:World} {v:Value} {xs:List α} (h:aE cs lo e sz w v xs):∀k,v.ownBlock=some k->lo<=k/\∃c,w.heap[k]?=some (.cells c e (0,0)):=by
 intro k hk
 rcases h.2 with ⟨rfl,h4⟩|⟨g,cap,cur,rfl,hb,hg,_⟩
 ·cases hk
 ·simp only [aSg,aRl] at hk
  subst hk;exact ⟨hb,cur,hg⟩
theorem KN.strs {lo B:Nat} {e:TypeId} {lo':Nat} {w w':World} {v:Value} {xs:List ByteArray} (h:cN lo' w v xs) (k:KN lo B e w w') (hB:∀c,w.heap[B]?≠some (.cells c 9 (0,0))) (he:9≠e):cN lo' w' v xs:=by
 obtain ⟨h1,h2⟩:=h;refine ⟨h1,?_⟩
 rcases h2 with hn|⟨g,cap,cur,hv,hb,hg,r⟩
 ·exact .inl hn
 ·refine .inr ⟨g,cap,cur,hv,hb,?_,r⟩
  exact (k.block g (aR3.1 hg).1 (.inr ⟨fun e1=>hB cur (e1▸hg),fun c' h'=>by rw [hg] at h';simp only [aRl,aSx] at h';exact he h'.2.1⟩)).trans hg
structure TB (p:Prg) (P T C M mb lo:Nat) (a1 a2:Option Addr) (c1 c2:Nat) (w:World) (xs:List Ins) (iv:Value) (ls:List ByteArray) (lv:Value):Prop where
 prog:Blk w P 119 [.slice a1 p.ns.length c1,.slice a2 p.gs.length c2]
 fn:Blk w T 219 [.func (.func 162) #[] #[.pointer (some ⟨P,0,none⟩),.pointer (some ⟨T,0,none⟩),.pointer (some ⟨C,0,none⟩),.pointer (some ⟨M,0,none⟩)]]
 code:Blk w C 163 [iv,lv]
 mp:Blk w M 217 [.map (some mb)]
 map:FM w mb p.gs p.gs.length
 ins:gD lo w iv xs
 loc:cN lo w lv ls
 low:lo<=C
theorem Blk.neq {w:World} {A B:Nat} {cs ds:List Value} {t u:TypeId} (h:Blk w A t cs) (k:Blk w B u ds) (ht:t≠u):A≠B:=fun e=>by
 subst e;unfold Blk at h k;rw [h] at k;simp only [aRl,aSx] at k;exact ht k.2.1
theorem Blk.noCells {w:World} {A:Nat} {cs:List Value} {t e:TypeId} (h:Blk w A t cs) (he:e≠t):∀c,w.heap[A]?≠some (.cells c e (0,0)):=fun c hc=>by
 unfold Blk at h;rw [h] at hc;simp only [aRl,aSx] at hc;exact he hc.2.1.symm
theorem KN.fm {lo B:Nat} {e:TypeId} {w w':World} {b k:Nat} {gs:List Asg} {ds:List Value} {u:TypeId} (h:FM w b gs k) (kn:KN lo B e w w') (hB:Blk w B u ds):FM w' b gs k:=by
 have hl:=h.lt;have h':=h;obtain ⟨n,D,_,⟨es,clock,h1,_⟩,_⟩:=h';refine h.of_block (kn.block b hl (.inr ⟨fun e1=>?_,fun c hc=>?_⟩))
 ·subst e1
  unfold Blk at hB;rw [hB] at h1;cases h1
 ·rw [hc] at h1
  cases h1
theorem TB.ext {p:Prg} {P T C M mb lo:Nat} {a1 a2:Option Addr} {c1 c2:Nat} {w w':World} {xs:List Ins} {iv:Value} {ls:List ByteArray} {lv:Value} (h:TB p P T C M mb lo a1 a2 c1 c2 w xs iv ls lv) (x:Ext w w'):TB p P T C M mb lo a1 a2 c1 c2 w' xs iv ls lv:=
 ⟨h.prog.ext x,h.fn.ext x,h.code.ext x,h.mp.ext x,h.map.ext x,aE.ext h.ins x,h.loc.ext x,h.low⟩
theorem TB.kn {p:Prg} {P T C M mb lo:Nat} {a1 a2:Option Addr} {c1 c2:Nat} {w w':World} {xs xs':List Ins} {iv iv':Value} {ls:List ByteArray} {lv:Value} (h:TB p P T C M mb lo a1 a2 c1 c2 w xs iv ls lv) (k:KN lo C 221 w w') (hc:Blk w' C 163 [iv',lv]) (hi:gD lo w' iv' xs'):TB p P T C M mb lo a1 a2 c1 c2 w' xs' iv' ls lv:=
 ⟨KN.blk h.prog k (h.prog.neq h.code (by decide)) (by decide),KN.blk h.fn k (h.fn.neq h.code (by decide)) (by decide),hc,KN.blk h.mp k (h.mp.neq h.code (by decide)) (by decide),KN.fm h.map k h.code,hi,KN.strs h.loc k (h.code.noCells (by decide)) (by decide),h.low⟩
def C3b (b c d:Nat):Addr->Prop:=fun a=>a.block=b\/a.block=c\/a.block=d
@[go_sem] theorem aRd (b c d o:Nat):C3b b c d ⟨b,o,none⟩:=.inl rfl
@[go_sem] theorem aRe (b c d o:Nat):C3b b c d ⟨c,o,none⟩:=.inr (.inl rfl)
@[go_sem] theorem aRf (b c d o:Nat):C3b b c d ⟨d,o,none⟩:=.inr (.inr rfl)
end
section
open Go.RowKit Go.Maps Go.WideMaps
theorem pJ {p:Prg} {ra:List Int} {j:Nat} (hj:j<=ra.length):((ra.take j).flatMap fun a=>p.tr a.toNat).length<=(ra.flatMap fun a=>p.tr a.toNat).length:=by
 conv=>rhs;rw [<-aVq j ra,aSy,aSa]
 omega
theorem aNu (lo hi:Nat) (p:Prg) (hv:p.K) (hbd:p.bd) (hgl:p.gs.length<=1048576) (W:World) (a1 a2:Option Addr) (c1 c2:Nat) (HN:rS lo hi W a1 c1 p.ns) (hh:hi<=W.heap.size) (P T C M mb l2:Nat) (hl2:W.heap.size<=l2) (ls:List ByteArray) (lv:Value):∀m,
  ∀(node:Nat) (xs:List Ins) (iv:Value) (w:World),node<m->node<p.ns.length->xs.length+(p.tr node).length<=900000->TB p P T C M mb l2 a1 a2 c1 c2 w xs iv ls lv->Ext W w ->
  Calls aRn 162 #[(node:Nat),.pointer (some ⟨P,0,none⟩),.pointer (some ⟨T,0,none⟩),.pointer (some ⟨C,0,none⟩),.pointer (some ⟨M,0,none⟩)] w fun e w'=>e = .returned (.tuple #[])/\(∃iv',TB p P T C M mb l2 a1 a2 c1 c2 w' (xs++p.tr node) iv' ls lv)/\KN l2 C 221 w w':=by
 intro m;have l1:=HN.le;have l3:=HN.cap
 induction m with
 | zero=>intro node xs iv w hm;omega
 | succ m ih=>
  intro node xs iv w hm z6 z2 hB hx;have zx:=hx.size;have HB:=hid hB;have HX:=hid hx;obtain ⟨b,z8,op,s,num,sa,sc,ra,rfl,y9,a3,h2,io,b1,hI,HI,y0,y1,y2,y3⟩:=HN.atW z6 hx hh;have HG:=hid h2;have b2:=HI.le;have b4:=HI.cap;have qp:=hB.prog.cell 0 rfl;have pl:=hB.prog.lt;have a7:=hB.low;have a5:=hB.code.lt;have q2:=hv.v.tr_step h2;simp only at q2
  have a6:(p.tr node).length=(ra.flatMap fun a=>p.tr a.toNat).length+1:=by rw [q2];simp
  have x9:=hid q2;have IH:=hid ih;have z7:s.size<=maxLen:=hbd.1 _ (aR7 h2);have nb:=aRr w 197 [op,.string s,num,.slice sa ra.length sc];have xn:Ext w (w.alloc (.cells #[op,.string s,num,.slice sa ra.length sc] 197)):=X_;have NB:=hid nb;have XN:=hid xn;clear ih h2 hB hx nb xn q2;go_enter func162,ntmps162;go_wp2
  go_loopw [17] (fun i wr=>∃(j:Nat) (iv':Value),j<=ra.length/\i = .int .i64 (j:Nat)/\TB p P T C M mb l2 (some ⟨b,z8,none⟩) a2 c1 c2 wr (xs++(ra.take j).flatMap fun a=>p.tr a.toNat) iv' ls lv/\Blk wr w.heap.size 197 [op,.string s,num,.slice sa ra.length sc]/\KN l2 C 221 w wr) (fun i _=>ra.length - (intOf i).toNat)
  case atStart=>exact ⟨0,iv,by omega,rfl,by simpa using HB.ext XN,NB,(KN.refl _ _ _ _).ext XN⟩
  case round=>
   clear HB NB XN;obtain ⟨j,iv',hj,rfl,hB,hN,hk⟩:=hrel;have HB:=hid hB;have h3:=hid hN;have HK:=hid hk;have h9:=hid (hk.up HX hl2);have x0:=pJ (p:=p) hj;clear hB hN hk
   by_cases z3:j<ra.length
   ·obtain ⟨b3,z9,y,rfl,a0,hy,_,a4⟩:=HI.atE z3 h9 hh
    have a8:=(hv.v.nd node _ HG).2 y (aR7 hy)
    obtain ⟨z,rfl⟩:∃z:Nat,y=z:=⟨y.toNat,by omega⟩
    have hf:=HB.fn;have qf:=hf.cell 0 rfl
    have q8:((ra.take (j+1)).flatMap fun a=>p.tr a.toNat)=((ra.take j).flatMap fun a=>p.tr a.toNat)++p.tr z:=by
     rw [aXv,hy,aSy];simp
    have q6:=pJ (p:=p) (ra:=ra) (j:=j+1) (by omega);rw [q8,aSa] at q6;have x8:=hid q8;clear hy q8 hf;go_wp2_with fail;refine (IH z _ iv' _ (by omega) (by omega) (by rw [aSa];omega) HB h9).mono ?_;rintro e w1 ⟨rfl,⟨h7,hB2⟩,hk2⟩;have x2:=hid hB2;have q3:=hid (KN.blk h3 hk2 (h3.neq HB.code (by decide)) (by decide));have x4:=hid (HK.trans hk2);clear hB2 hk2 HB h3 HK h9 qf;go_wp2;go_roundw
    case rel=>exact ⟨j+1,h7,by omega,by go_num,by rw [x8,<-aSl];exact x2,q3,x4⟩
    case measure=>simp [intOf];omega
   ·obtain rfl:j=ra.length:=by omega
    rw [aSh] at HB x0
    obtain ⟨L,hL⟩:∃L,xs++(ra.flatMap fun a=>p.tr a.toNat)=L:=⟨_,rfl⟩
    have y5:L.length<=900000:=by rw [<-hL,aSa];omega
    rw [hL] at HB;have HL:=hid hL;obtain ⟨ia,ic,rfl,-⟩:=aE.form HB.ins;clear hL x0;have q0:=HB.code;have z0:=q0.cell 0 rfl;have z1:=q0.free 0;have y4:=q0.lt;have q7:=HB.mp;have m0:=q7.cell 0 rfl;have ml:=q7.lt;obtain ⟨n0,n1,n2,n3⟩:=h3.q4;have zn:=h3.lt;have b6:=h9.size;have y8:=h3.neq HB.code (by decide)
    have q1:∃o t n,bM p ⟨op,s,num,ra⟩=⟨o,t,n⟩:=⟨_,_,_,rfl⟩
    obtain ⟨io,it,h6,q1⟩:=q1;have q9:=hid q1;clear q1 q0 q7;go_wp2_with fail;refine aH [([0,1,2,3],4),([],5),([],6),([7],8)] 8 (fun w'=>∃d,w'=fT (C3b C w.heap.size M) _ d) (by kernel_rfl) (by kernel_rfl) (aUb _ _) ?_;refine sc_ fun K hK=>?_;go_wp2_with fail;refine r_ (aHa p hv node op num s ra HG sa ra.length sc mb _ (HB.map.ext X_) z7 hgl) fun w6 x6=>?_;rw [iU q9];have y6:Ext wr w6:=aRo (aSk (aRu _)) x6;go_wp2_with fail;refine hK _ _ (.inr (aSn fun a ha=>?_)) ?_
    ·rcases ha with ha|ha|ha
     ·exact y6.block (by rw [ha];omega)
     ·exact y6.block (by rw [ha];omega)
     ·exact y6.block (by rw [ha];omega)
    clear hK K;refine sc_ fun K hK=>?_;go_wp2_with fail;have y7:Ext w6 (w6.alloc (.cells #[io,.string it,h6] 221)):=X_;have b7:=aRr w6 221 [io,.string it,h6];have h1:=y6.trans y7;refine hK _ _ (.inr (aSn fun a ha=>?_)) ?_
    ·rcases ha with ha|ha|ha
     ·exact h1.block (by rw [ha];omega)
     ·exact h1.block (by rw [ha];omega)
     ·exact h1.block (by rw [ha];omega)
    clear hK K;have h8:=hid (HB.ext h1);have x7:=hid (h3.ext h1);have b5:=h1.size;have z5:=h9.size;refine sc_ fun K hK=>?_;refine cE _ rfl _ _ rfl l2 (.slice ia L.length ic) L rfl h8.ins ⟨io,it,h6⟩ w6.heap.size rfl ⟨b7.cell 0 rfl,b7.cell 1 rfl,b7.cell 2 rfl⟩ (by omega) (by omega) ?_;intro h7 w8 h4 hg;have h5:=aE.rowC h8.ins
    have h0:∀{B:Nat} {t:TypeId} {cs:List Value},Blk (w6.alloc (.cells #[io,.string it,h6] 221)) B t cs->t≠221->w8.heap[B]?=(w6.alloc (.cells #[io,.string it,h6] 221)).heap[B]?:=fun hb ht=>hg.block _ hb.lt (fun e=>by
     obtain ⟨_,c,hc⟩:=h5 _ e.symm
     exact hb.noCells (Ne.symm ht) c hc)
    have kC:=h0 h8.code (by decide);have kN:=h0 x7 (by decide);have kM:=h0 h8.mp (by decide);have K8:KN l2 C 221 wr w8:=((KN.refl l2 C 221 wr).ext h1).grown hg h5;have C8:=h8.code.of kC;have e0:=C8.cell 0 rfl;have g0:=C8.free 0;have x5:=hid (HK.trans (K8.set HB.low 0 h7));have x3:=hid (HB.kn (K8.set HB.low 0 h7) (C8.set 0 h7) (aE.set h4 C8 (by decide) 0 h7));go_wp2_with fail;refine hK _ _ (.inr (aSn fun a ha=>?_)) ?_
    ·rcases ha with ha|ha|ha
     ·rw [ha];exact kC.trans (h1.block (by omega))
     ·rw [ha];exact kN.trans (h1.block (by omega))
     ·rw [ha];exact kM.trans (h1.block (by omega))
    clear hK K;obtain ⟨a9,b0,x1,_⟩:=aE.form h4
    have z4:(L++[(⟨io,it,h6⟩:Ins)]).length=L.length+1:=by simp
    rw [z4] at x1;subst x1;clear h4 hg h5 h0 kC kN kM K8 C8 z0 z1 m0 n0 n1 n2 n3;refine hG ?_;simp only [aR8,aR1,aRm,aRg,aRh]
    show wpQuiet _ _ _ _ [_] _
    simp only [Act.put,aRp,aRx,aRw,List.getElem_toArray,List.getElem_cons_succ,List.getElem_cons_zero]
    repeat (go_big_quiet_step (fail))
    refine wpQuiet_nil ⟨_,rfl,fun K hK=>?_⟩;go_wp2_with fail;refine l_ hK ?_;clear hK K;refine aQ ?_
    have q5:L++[(⟨io,it,h6⟩:Ins)]=xs++p.tr node:=by rw [x9,q9,<-HL,aSl]
    go_wp2
    go_end0
    exact ⟨rfl,⟨_,by rw [<-q5];exact x3⟩,x5⟩
end
section
open Go.RowKit Go.Maps Go.WideMaps
theorem aAj {z:Int} (h:0<=z/\z<=9):I64 z:=⟨by omega,by omega⟩
theorem aL1 {p:Prg} (h:p.K) (hgl:p.gs.length<=1048576) {j:Nat} {x:Nd} (hx:p.ns[j]?=some x) (hn:I64 x.num):I64 (bM p x).op/\I64 (bM p x).num:=by
 have h0:((pT p x.name:Nat):Int)<=1048576:=by
  unfold pT
  cases e:eU p.gs p.gs.length x.name.toList with
  | none=>decide
  | some i=>
   have:=(fD e).1
   show ((i:Nat):Int)<=1048576
   omega
 rcases jW (h.v.nd j x hx).1 with ⟨o,h2,h3⟩|⟨o,h3⟩|⟨o,h3⟩|⟨o,o',h3⟩|⟨o,h3⟩
 ·unfold bM;rw [if_pos o];exact ⟨aAj (z:=1) ⟨by decide,by decide⟩,hn⟩
 ·unfold bM
  rw [if_neg (by omega),if_neg (by omega),if_pos o]
  split
  ·exact ⟨aAj (z:=2) ⟨by decide,by decide⟩,aAj (z:=0) ⟨by decide,by decide⟩⟩
  ·exact ⟨aAj (z:=3) ⟨by decide,by decide⟩,⟨by show (-9223372036854775808:Int)<=((pT p x.name:Nat):Int);omega,by show ((pT p x.name:Nat):Int)<=9223372036854775807;omega⟩⟩
 ·unfold bM;rw [if_neg (by omega),if_pos o];exact ⟨aAj (z:=5) ⟨by decide,by decide⟩,aAj (z:=3) ⟨by decide,by decide⟩⟩
 ·unfold bM;rw [if_neg (by omega),if_neg (by omega),if_neg (by omega),if_neg (by omega)]
  exact ⟨aAj (z:=6) ⟨by decide,by decide⟩,⟨by show (-9223372036854775808:Int)<=x.op;omega,by show x.op<=9223372036854775807;omega⟩⟩
 ·unfold bM;rw [if_neg (by omega),if_neg (by omega),if_neg (by omega),if_pos o];exact ⟨aAj (z:=7) ⟨by decide,by decide⟩,aAj (z:=0) ⟨by decide,by decide⟩⟩
theorem aP6 {p:Prg} (h:p.K) (hgl:p.gs.length<=1048576) (hn:∀x∈p.ns,I64 x.num):∀(F j:Nat),j<F->∀y∈p.tr j,I64 y.op/\I64 y.num:=by
 intro F
 induction F with
 | zero=>intro j hj;omega
 | succ F ih=>
  intro j hj y hy
  cases hx:p.ns[j]? with
  | none=>
   have:p.tr j=[]:=by show trF p (j+1) j=[];rw [trF,hx]
   rw [this] at hy;cases hy
  | some x=>
   rw [h.v.tr_step hx] at hy
   rcases aTz.1 hy with hy|hy
   ·obtain ⟨a,ha,hy⟩:=aV6.1 hy
    have:=(h.v.nd j x hx).2 a ha;exact ih a.toNat (by omega) y hy
   ·simp only [aR4,aRz,or_false] at hy
    subst hy;exact aL1 h hgl hx (hn x (aR7 hx))
theorem aL2 {p:Prg} (h:p.K) (hgl:p.gs.length<=1048576) (hn:∀x∈p.ns,I64 x.num):∀(k:Nat),k<=p.gs.length->∀y∈p.trs k,I64 y.op/\I64 y.num:=by
 intro k
 induction k with
 | zero=>intro _ y hy;cases hy
 | succ k ih=>
  intro hk y hy
  obtain ⟨a,ha⟩:∃a,p.gs[k]?=some a:=⟨p.gs[k],aRs (by omega)⟩
  rw [Prg.trs_step ha] at hy
  rcases aTz.1 hy with hy|hy
  ·exact ih (by omega) y hy
  ·rcases aTz.1 hy with hy|hy
   ·exact aP6 h hgl hn _ _ (aZm _) y hy
   ·simp only [aR4,aRz,or_false] at hy
    subst hy;exact ⟨aAj (z:=4) ⟨by decide,by decide⟩,⟨by show (-9223372036854775808:Int)<=((k:Nat):Int);omega,by show ((k:Nat):Int)<=9223372036854775807;omega⟩⟩
theorem gD.inss {lo l2:Nat} {w:World} {v:Value} {xs:List Ins} (h:gD lo w v xs) (hl:l2<=lo) (hg:∀x∈xs,I64 x.op/\I64 x.num):aF2 l2 w.heap.size w v xs:=by
 obtain ⟨a,c,rfl,_⟩:=aE.form h
 have hc:xs.length<=c/\c<=maxLen:=by
  rcases h.2 with ⟨e,h4⟩|⟨g,cap,cur,e,hb,hh,hc,hm,_⟩
  ·simp only [aSb] at e
   obtain ⟨rfl,e2,rfl⟩:=e;exact ⟨by omega,by unfold maxLen;omega⟩
  ·simp only [aSb] at e
   obtain ⟨rfl,e2,rfl⟩:=e;exact ⟨hc,hm⟩
 refine ⟨a,c,rfl,hc.1,hc.2,fun i x hx=>?_⟩;obtain ⟨g,cap,e,g1,g2,_,_,_,h0⟩:=aE.at h (fun _=>rfl) hx;simp only [aSb] at e;obtain ⟨rfl,_,rfl⟩:=e;have c0:=h0 0 (by decide);have c1:=h0 1 (by decide);have c2:=h0 2 (by decide);simp only [Ins.cs,aS0,aRg,aRh] at c0 c1 c2;exact ⟨hg x (aR7 hx),g,0,rfl,by omega,g2,by rw [aSf];exact c0,by rw [aSf];exact c1,by rw [aSf];exact c2⟩
theorem cN.row {lo:Nat} {w:World} {v:Value} {xs:List ByteArray} (h:cN lo w v xs):∀k,v.ownBlock=some k->lo<=k/\∃c,w.heap[k]?=some (.cells c 9 (0,0)):=by
 intro k hk
 rcases h.2 with ⟨rfl,h4⟩|⟨g,cap,cur,rfl,hb,hg,_⟩
 ·cases hk
 ·simp only [aSg,aRl] at hk
  subst hk;exact ⟨hb,cur,hg⟩
theorem TB.knS {p:Prg} {P T C M mb lo:Nat} {a1 a2:Option Addr} {c1 c2:Nat} {w w':World} {xs:List Ins} {iv lv lv':Value} {ls ls':List ByteArray} (h:TB p P T C M mb lo a1 a2 c1 c2 w xs iv ls lv) (k:KN lo C 9 w w') (hc:Blk w' C 163 [iv,lv']) (hl:cN lo w' lv' ls'):TB p P T C M mb lo a1 a2 c1 c2 w' xs iv ls' lv':=
 ⟨KN.blk h.prog k (h.prog.neq h.code (by decide)) (by decide),KN.blk h.fn k (h.fn.neq h.code (by decide)) (by decide),hc,KN.blk h.mp k (h.mp.neq h.code (by decide)) (by decide),KN.fm h.map k h.code,KN.row h.ins k (h.code.noCells (by decide)) (by decide),hl,h.low⟩
end
section
open Go.RowKit Go.Maps Go.WideMaps
theorem Cod.R.wideC {c:Cod} {lo hi l2 h2:Nat} {w:World} {v:Value} (h:c.R lo hi w v) (hl:l2<=lo) (hh:hi<=h2):c.R l2 h2 w v:=by
 obtain ⟨iu,lu,rfl,⟨a,cap,e1,e2,e3,e4⟩,⟨a',cap',f1,f2,f3,f4⟩⟩:=h;refine ⟨iu,lu,rfl,⟨a,cap,e1,e2,e3,fun i x hx=>?_⟩,⟨a',cap',f1,f2,f3,fun i x hx=>?_⟩⟩
 ·obtain ⟨g0,b,h0,g1,g2,g3,g4⟩:=e4 i x hx
  exact ⟨g0,b,h0,g1,by omega,by omega,g4⟩
 ·obtain ⟨b,h0,g1,g2,g3,g4⟩:=f4 i x hx
  exact ⟨b,h0,g1,by omega,by omega,g4⟩
theorem aE6 {p:Prg} {k:Nat}:∀m,k<=m->m<=p.gs.length->(p.trs k).length<=(p.trs m).length:=by
 intro m
 induction m with
 | zero=>
  intro h _
  have:k=0:=by omega
  rw [this];exact aRi _
 | succ m ih=>
  intro h hm
  by_cases e:k=m+1
  ·subst e;exact aRi _
  ·have:=ih (by omega) (by omega)
   obtain ⟨a,ha⟩:∃a,p.gs[m]?=some a:=⟨p.gs[m],aRs (by omega)⟩
   rw [Prg.trs_step ha,aSa];omega
theorem aC2 (lo hi:Nat) (v:Value) (p:Prg) (w:World) (hv:p.R lo hi w v) (hh:hi<=w.heap.size) (hchk:p.chkB=true) (hbd:p.bd) (hgl:p.gs.length<=1048576) :
  Calls aRn 105 #[v] w fun e w'=>∃u,e = .returned (.tuple #[u,.bool true])/\p.code.R w.heap.size w'.heap.size w' u/\Ext w w':=by
 have HV:=hid hv;have hp:=Prg.chkB_K hchk;have HP:=hid hp;have b1:=hid hchk;obtain ⟨a1,c1,a2,c2,rfl,HN,HG⟩:=hv.form;have l1:=HN.le;have l2:=HN.cap;have l3:=HG.le;have l4:=HG.cap;have l5:=hp.v.len;have l6:=hp.v.gs_len
 have q5:∀x∈p.ns,I64 x.num:=fun x hx=>by
  obtain ⟨i,hi,c8⟩:=aSj hx;exact (HN.cell i x (by rw [<-c8];simp [hi])).1.2
 have a9:=hid (aL2 hp hgl q5);have q3:=oO hp;have b2:=hid q3;have b0:=aRr w 119 [.slice a1 p.ns.length c1,.slice a2 p.gs.length c2];have r0:=aRr (w.alloc (.cells #[.slice a1 p.ns.length c1,.slice a2 p.gs.length c2] 119)) 163 [.slice none 0 0,.slice none 0 0];rw [aRj] at r0;have x0:Ext w ((w.alloc (.cells #[.slice a1 p.ns.length c1,.slice a2 p.gs.length c2] 119)).alloc (.cells #[.slice none 0 0,.slice none 0 0] 163)):=X_;have z9:=hid (b0.ext (show Ext _ ((w.alloc (.cells #[.slice a1 p.ns.length c1,.slice a2 p.gs.length c2] 119)).alloc (.cells #[.slice none 0 0,.slice none 0 0] 163)) from X_));have y4:=hid r0;have x7:=hid x0;clear hv hp hchk b0 r0 x0 q5 q3;go_enter func105,ntmps105;go_wp2_with fail;refine r_ (tW b1 lo hi _ _ (HV.ext hh x7) (aRq hh x7.size) hbd hgl) fun w1 x1=>?_;have h4:=hid (x7.trans x1);have x4:=hid (z9.ext x1);have h6:=hid (y4.ext x1);obtain ⟨q0,q1⟩:=x4.q2;have ql:=x4.lt;clear x1 x7 z9 y4;go_wp2_with fail;refine (qJ lo hi _ p _ (HV.ext hh h4) (aRq hh h4.size) hbd hgl).mono ?_;rintro e w2 ⟨⟨mb,rfl,hmb,hM⟩,x2⟩;have z4:=hid (h4.trans x2);have x5:=hid (x4.ext x2);have z1:=hid (h6.ext x2);have y3:=hid hM;have q1:=x5.cell 1 rfl;have g8:=x5.lt;have g9:=z1.lt;have x3:=z4.size;clear x2 hM h4 x4 h6;have xb:Ext w2 (((w2.alloc (.cells #[.slice none 0 0,.slice none 0 0] 163)).alloc (.cells #[.map (some mb)] 217)).alloc (.cells #[.func (.func 162) #[] #[.pointer (some ⟨w.heap.size,0,none⟩),.pointer (some ⟨w2.heap.size+1+1,0,none⟩),.pointer (some ⟨w2.heap.size,0,none⟩),.pointer (some ⟨w2.heap.size+1,0,none⟩)]] 219)):=X_;have cb:=(aRr w2 163 [.slice none 0 0,.slice none 0 0]).ext (show Ext (w2.alloc (.cells #[.slice none 0 0,.slice none 0 0] 163)) (((w2.alloc (.cells #[.slice none 0 0,.slice none 0 0] 163)).alloc (.cells #[.map (some mb)] 217)).alloc (.cells #[.func (.func 162) #[] #[.pointer (some ⟨w.heap.size,0,none⟩),.pointer (some ⟨w2.heap.size+1+1,0,none⟩),.pointer (some ⟨w2.heap.size,0,none⟩),.pointer (some ⟨w2.heap.size+1,0,none⟩)]] 219)) from X_);have z8:=(aRr (w2.alloc (.cells #[.slice none 0 0,.slice none 0 0] 163)) 217 [.map (some mb)]).ext (show Ext ((w2.alloc (.cells #[.slice none 0 0,.slice none 0 0] 163)).alloc (.cells #[.map (some mb)] 217)) (((w2.alloc (.cells #[.slice none 0 0,.slice none 0 0] 163)).alloc (.cells #[.map (some mb)] 217)).alloc (.cells #[.func (.func 162) #[] #[.pointer (some ⟨w.heap.size,0,none⟩),.pointer (some ⟨w2.heap.size+1+1,0,none⟩),.pointer (some ⟨w2.heap.size,0,none⟩),.pointer (some ⟨w2.heap.size+1,0,none⟩)]] 219)) from X_);have fb:=aRr ((w2.alloc (.cells #[.slice none 0 0,.slice none 0 0] 163)).alloc (.cells #[.map (some mb)] 217)) 219 [.func (.func 162) #[] #[.pointer (some ⟨w.heap.size,0,none⟩),.pointer (some ⟨w2.heap.size+1+1,0,none⟩),.pointer (some ⟨w2.heap.size,0,none⟩),.pointer (some ⟨w2.heap.size+1,0,none⟩)]];simp only [aRj] at z8 fb
 have hT:TB p w.heap.size (w2.heap.size+1+1) w2.heap.size (w2.heap.size+1) mb w2.heap.size a1 a2 c1 c2 (((w2.alloc (.cells #[.slice none 0 0,.slice none 0 0] 163)).alloc (.cells #[.map (some mb)] 217)).alloc (.cells #[.func (.func 162) #[] #[.pointer (some ⟨w.heap.size,0,none⟩),.pointer (some ⟨w2.heap.size+1+1,0,none⟩),.pointer (some ⟨w2.heap.size,0,none⟩),.pointer (some ⟨w2.heap.size+1,0,none⟩)]] 219)) [] (.slice none 0 0) [] (.slice none 0 0):=⟨x5.ext xb,fb,cb,z8,y3.ext xb,aE.nil _ _ _ _ _,cN.nil _ _,aRi _⟩
 have HT:=hid hT;have y9:=hid (z1.ext xb);have a4:=hid (z4.trans xb);have d3:=hT.prog.cell 1 rfl;clear cb z8 fb hT xb x5 y3 z1 z4;go_wp2_with fail
 go_loopw [20] (fun i wr=>∃(k:Nat) (iv lv:Value),k<=p.gs.length/\i = .int .i64 (k:Nat)/\TB p w.heap.size (w2.heap.size+1+1) w2.heap.size (w2.heap.size+1) mb w2.heap.size a1 a2 c1 c2 wr (p.trs k) iv ((p.gs.take k).map (·.name)) lv/\Blk wr (w.heap.size+1) 163 [.slice none 0 0,.slice none 0 0]/\Ext w wr) (fun i _=>p.gs.length - (intOf i).toNat)
 case atStart=>exact ⟨0,_,_,by omega,rfl,HT,y9,a4⟩
 case round=>
  clear HT y9 a4 d3;obtain ⟨k,iv,lv,hk,rfl,hT,hR,hx⟩:=hrel;have HT:=hid hT;have HR:=hid hR;have HX:=hid hx
  by_cases d0:k<p.gs.length
  ·obtain ⟨b,d2,s,rt,rfl,e9,g2,q4,h3,ir,y0,y1⟩:=HG.at d0 hx hh
   have d1:=(HP.v.ag k _ h3).2;simp only at d1
   obtain ⟨r,rfl⟩:∃r:Nat,rt=r:=⟨rt.toNat,by omega⟩
   have b3:=hid h3;have z0:=Prg.trs_step h3;have g5:=aE6 (p:=p) (k:=k+1) p.gs.length (by omega) (aRi _);have q3:=b2.out;have c7:(p.trs p.gs.length).length<=120:=q3;simp only [aSc] at z0
   have g3:(p.trs (k+1)).length=(p.trs k).length+(p.tr r).length+1:=by rw [z0];simp;omega
   have b8:=hid z0;have y0:Ext wr (wr.alloc (.cells #[.string s,(r:Nat)] 200)):=X_;have HA:=hid (aRr wr 200 [.string s,(r:Nat)]);have z3:=hid (hT.ext y0);have h6:=hid (hR.ext y0);have h4:=hid (hx.trans y0);have z6:=hT.fn;have f0:=z6.cell 0 rfl;have fl:=z6.lt;have zr:=hx.size;have g4:=hT.low;have e5:=hT.code.lt;clear hT hR hx q4 h3 z0 q3 HT HR HX z6;go_wp2_with fail;refine (aNu lo hi p HP hbd hgl w a1 (some ⟨b,d2,none⟩) c1 c2 HN hh w.heap.size (w2.heap.size+1+1) w2.heap.size (w2.heap.size+1) mb w2.heap.size x3 _ _ (r+1) r _ iv _ (by omega) (by omega) (by omega) z3 h4).mono ?_;rintro e w5 ⟨rfl,⟨iv2,hT5⟩,hk5⟩;have h5:=hid (KN.blk HA hk5 (HA.neq z3.code (by decide)) (by decide));have y7:=hid (h6.of (hk5.block _ h6.lt (.inl (by omega))));have a3:=hid (hk5.up h4 x3)
   obtain ⟨L,hL⟩:∃L,p.trs k++p.tr r=L:=⟨_,rfl⟩
   have e6:L.length<=200:=by rw [<-hL,aSa];omega
   rw [hL] at hT5;have HL:=hid hL
   obtain ⟨NL,x9⟩:∃N,(p.gs.take k).map (·.name)=N:=⟨_,rfl⟩
   have e7:NL.length<=200:=by rw [<-x9,aSv,aR9];omega
   rw [x9] at hT5;have b4:=hid x9;have x6:=hid hT5;obtain ⟨ia,ic,rfl,-⟩:=aE.form hT5.ins;obtain ⟨la,lc,rfl,-⟩:=hT5.loc.form;obtain ⟨a5,a6⟩:=hT5.code.q2;have c5:=hT5.code.free 0;have c6:=hT5.code.free 1;have cl:=hT5.code.lt;obtain ⟨k0,k1⟩:=h5.q2;have kl:=h5.lt;have y5:Ext w5 (w5.alloc (.cells #[.int .i64 4,.string ⟨#[]⟩,(k:Nat)] 221)):=X_;have b5:=aRr w5 221 [.int .i64 4,.string ⟨#[]⟩,(k:Nat)];have z5:=hid y5;have d7:=hid b5;have y2:=hid (aE.ext hT5.ins y5);have i0:=a3.size;have d4:=y5.size;clear hL x9 hT5 hk5 y5 b5 z3 h6 h4 HA f0;go_wp2_with (at_builtin;refine cE _ rfl _ _ rfl w2.heap.size (.slice ia L.length ic) L rfl ?_ ⟨4,⟨#[]⟩,(k:Nat)⟩ w5.heap.size rfl ?_ ?_ ?_ ?_)
   ·exact y2
   ·omega
   ·exact aRq (aUu cl) d4
   intro h7 w6 h1 hg;have h2:=aE.rowC y2
   have h0:∀{B:Nat} {t:TypeId} {cs:List Value},Blk w5 B t cs->t≠221->w6.heap[B]?=w5.heap[B]?:=fun hb ht=>(hg.block _ (by have:=hb.lt;omega) (fun e=>by
    obtain ⟨_,c,hc⟩:=h2 _ e.symm
    exact (hb.ext z5).noCells (Ne.symm ht) c hc)).trans (z5.block hb.lt)
   have kC:=h0 x6.code (by decide);have kA:=h0 h5 (by decide);have K6:KN w2.heap.size w2.heap.size 221 w5 w6:=((KN.refl _ _ _ w5).ext z5).grown hg h2;have C6:=x6.code.of kC;have d6:=hid ((h5.of kA).other (a:=⟨w2.heap.size,0,none⟩) (h5.neq x6.code (by decide)) h7);have h9:=hid (x6.kn (K6.set (aRi _) 0 h7) (C6.set 0 h7) (aE.set h1 C6 (by decide) 0 h7));have y8:=hid (y7.of ((K6.set (aRi _) 0 h7).block _ y7.lt (.inl (by omega))));have c0:=hid ((K6.set (aRi _) 0 h7).up a3 x3);obtain ⟨q7,q8,q6,_⟩:=aE.form h1
   have c9:(L++[(⟨4,⟨#[]⟩,(k:Nat)⟩:Ins)]).length=L.length+1:=by simp
   rw [c9] at q6;subst q6;obtain ⟨e0,e1⟩:=C6.q2;have g0:=C6.free 0;have g1:=C6.free 1;have a0:=(h5.of kA).cell 0 rfl;have al:=(h5.of kA).lt;have d8:=C6.lt;clear h1 hg h2 h0 kC kA K6 C6 a5 a6 c5 c6 k0 k1;have y6:Ext (w6.setCell ⟨w2.heap.size,0,none⟩ (.slice q7 (L.length+1) q8)) ((w6.setCell ⟨w2.heap.size,0,none⟩ (.slice q7 (L.length+1) q8)).alloc (.cells #[.string s] 9)):=X_;have z2:=hid (h9.loc.ext y6);have x8:=hid y6;have b6:=aRr (w6.setCell ⟨w2.heap.size,0,none⟩ (.slice q7 (L.length+1) q8)) 9 [.string s];rw [aS6] at b6;have d5:=y6.size;have a8:=h9.code.lt;clear y6;go_wp2_with (at_builtin;refine kL _ rfl _ _ rfl w2.heap.size (.slice la NL.length lc) NL rfl ?_ s w6.heap.size rfl ?_ ?_ ?_ ?_)
   ·exact z2
   ·exact b6.cell 0 rfl
   ·omega
   ·exact aRq (aUu a8) d5
   intro q9 w8 h1 hg;have h2:=cN.row z2
   have kC:w8.heap[w2.heap.size]?=(w6.setCell ⟨w2.heap.size,0,none⟩ (.slice q7 (L.length+1) q8)).heap[w2.heap.size]?:=(hg.block _ (by omega) (fun e=>by
    obtain ⟨_,c,hc⟩:=h2 _ e.symm
    exact (h9.code.ext x8).noCells (by decide) c hc)).trans (x8.block a8)
   have K8:KN w2.heap.size w2.heap.size 9 (w6.setCell ⟨w2.heap.size,0,none⟩ (.slice q7 (L.length+1) q8)) w8:=((KN.refl _ _ _ _).ext x8).grown hg h2;have C8:=h9.code.of kC;have O9:=KN.strs h1 ((KN.refl w2.heap.size w2.heap.size 221 w8).set (aRi _) 1 q9) (C8.noCells (by decide)) (by decide);have b9:=hid (h9.knS (K8.set (aRi _) 1 q9) (C8.set 1 q9) O9);have b7:=hid (y8.of ((K8.set (aRi _) 1 q9).block _ y8.lt (.inl (by omega))));have c3:=hid ((K8.set (aRi _) 1 q9).up c0 x3);obtain ⟨g6,g7,q6,_⟩:=h1.form
   have z7:(NL++[s]).length=NL.length+1:=by simp
   rw [z7] at q6;subst q6;have e3:=C8.cell 1 rfl;have e4:=C8.free 1;have d9:=C8.lt;clear h1 hg h2 kC K8 C8 O9 z2 x8;go_wp2_with fail;go_roundw
   case rel=>
    have e1:L++[(⟨4,⟨#[]⟩,(k:Nat)⟩:Ins)]=p.trs (k+1):=by rw [b8,<-HL,aSl]
    have e2:NL++[s]=(p.gs.take (k+1)).map (·.name):=by rw [aXv,b3,aTp,b4];rfl
    have h8:=b9.out;rw [e1,e2] at h8;exact ⟨k+1,_,_,by omega,by go_num,h8,b7,c3⟩
   case measure=>simp [intOf];omega
  ·obtain rfl:k=p.gs.length:=by omega
   rw [aSh] at HT;obtain ⟨ia,ic,rfl,-⟩:=aE.form HT.ins;obtain ⟨la,lc,rfl,-⟩:=HT.loc.form;obtain ⟨a5,a6⟩:=HT.code.q2;have cl:=HT.code.lt;obtain ⟨r0,r1⟩:=HR.q2;have f0:=HR.free 0;have f1:=HR.free 1;have rl:=HR.lt;have zX:=HX.size;have hS:=hid (HT.loc.strs);have hI:=hid (HT.ins.inss (aRi _) (a9 _ (aRi _)))
   have a7:p.code.R w2.heap.size wr.heap.size wr (.agg #[.slice ia (p.trs p.gs.length).length ic,.slice la p.gs.length lc]):=⟨_,_,rfl,hI.out,by have h:=hS.out;rw [aSv] at h;exact h⟩
   have c4:=hid (a7.same ((aM.setLow wr (p:=⟨w.heap.size+1,0,none⟩) (by simp only;omega) (.slice ia (p.trs p.gs.length).length ic)).trans (aM.setLow _ (p:=⟨w.heap.size+1,1,none⟩) (by simp only;omega) (.slice la p.gs.length lc))));have e8:=HX.out;clear hT hR hx a7;go_wp2;refine bodyPost_ret (v:=.tuple #[.agg #[.slice ia (p.trs p.gs.length).length ic,.slice la p.gs.length lc],.bool true]) (by simp [results,results105,go_sem, *]) rfl ?_;exact ⟨_,rfl,c4.wideC x3 (by simp),S_⟩
end
theorem Scn.prg_at {s:Scn} (h:s.sh k=(q:Nat)) (hq:q<s.ps.length):s.prg k=s.ps[q]:=by
 unfold Scn.prg;rw [h,aSc,aSe,aRs hq]
 rfl
theorem Scn.shade_at {s:Scn} (h:s.sh k=(q:Nat)) (hq:q<s.ps.length) (hn:s.rt k=(n:Nat)):s.shade k=((s.ps[q].code.shade (nP (s.st k) n s.t)).1,(s.ps[q].code.shade (nP (s.st k) n s.t)).2.1):=by
 unfold Scn.shade;rw [Scn.prg_at h hq];unfold Scn.grd;rw [hn,aSc]
theorem Scn.Ok.at {s:Scn} (ho:s.Ok) (hk:k<s.m):∃q n:Nat,s.sh k=(q:Nat)/\q<s.ps.length/\s.rt k=(n:Nat)/\1<=n/\n<=8/\rG (s.st k)=true/\rG (s.en k)=true:=by
 have h:=aLz.1 (ho.srf k hk);have h1:=h.sh;have h2:=h.rt;exact ⟨(s.sh k).toNat,(s.rt k).toNat,by omega,by omega,by omega,by omega,by omega,h.f,h.g⟩
theorem Scn.Ok.shade {s:Scn} (ho:s.Ok) (hk:k<s.m):(s.shade k).1.length=(s.rt k).toNat*(s.rt k).toNat/\(s.shade k).2.length=(s.rt k).toNat*(s.rt k).toNat:=by
 obtain ⟨q,n,h1,h2,h3,h4,h5,h6,-⟩:=ho.at hk;have hc:=ho.prg _ (aR2 h2);obtain ⟨X,Y,e,x,y,-⟩:=(Prg.chkB_K hc).shade hc (yK (f:=s.st k) (n:=n) (t:=s.t) ⟨h4,h5⟩ ho.t);rw [Scn.shade_at h1 h2 h3,e,h3,aSc];exact ⟨x,y⟩
theorem Grd.R.formS {g:Grd} (h:g.R lo hi w v):∃a1 c1 a2 c2,v = .agg #[g.n,.slice a1 g.m c1,g.tm,g.t.log,.slice a2 g.t.px.length c2]:=by
 obtain ⟨pu,tu,rfl,_,_,_,hp,hu⟩:=h;obtain ⟨a1,c1,rfl,_⟩:=hp;obtain ⟨a2,c2,rfl,_⟩:=hu;exact ⟨a1,c1,a2,c2,rfl⟩
theorem aL3:(Tryz.prog.info? 91).map (fun i=>i.size)=some 2:=by kernel_rfl
theorem gE.low' (h:gE lo hi w v xs) (hl:lo'<=lo):gE lo' hi w v xs:=⟨h.1.low hl,h.2⟩
theorem gE.setLow (h:gE lo hi w v xs) {p:Addr} (hp:p.block<lo) (u:Value):gE lo hi (w.setCell p u) v xs:=⟨h.1.setLow hp u,h.2⟩
theorem gE.form (h:gE lo hi w v xs):∃a c,v = .slice a xs.length c:=by
 obtain ⟨a,c,e,_⟩:=h.1.form;exact ⟨a,c,e⟩
theorem aHb (s:Scn) (lo hi:Nat) (v:Value) (k:Nat) (w:World) (hv:s.R lo hi w v) (hh:hi<=w.heap.size) (ho:s.Ok) (hsm:s.small) (hk:k<s.m) :
  Calls aRn 59 #[v,(k:Nat)] w fun e w'=>∃r1 r2,e = .returned (.agg #[r1,r2])/\∃h,w.heap.size<=h/\h<=w'.heap.size/\gE w.heap.size h w' r1 (s.shade k).1/\gE h w'.heap.size w' r2 (s.shade k).2/\Ext w w':=by
 obtain ⟨q,n,x0,hq,q9,d3,d4,q8,d5⟩:=ho.at hk;obtain ⟨a1,c1,a2,c2,a3,c3,rfl,-,h5,-,h1,h2,h3⟩:=hv.form;have d1:=h3.cap;have i8:=h3.le;have j0:=h2.le;have b5:=h2.cap;obtain ⟨b,h0,rfl,i5,i6,h4⟩:=h3.at hk (by decide)
 obtain ⟨f,hf⟩:∃f,s.st k=f:=⟨_,rfl⟩
 obtain ⟨g,hg⟩:∃f,s.en k=f:=⟨_,rfl⟩
 have bw:b<w.heap.size:=by omega
 have q3:w.rangeAt b (h0+k*26) ((aR6 26).map fun j=>.int .i64 (s.F (k*26+j))):=by
  intro j v hj;obtain ⟨h1,h2⟩:=aRk.1 hj;simp only [aSv,aUi] at h1;simp only [aU3,aUd] at h2;subst h2;exact h4 j h1
 change w.rangeAt b (h0+k*26) [(s.st k 0),(s.st k 1),(s.st k 2),(s.st k 3),(s.st k 4),(s.st k 5),(s.st k 6),(s.st k 7),(s.st k 8),(s.st k 9),(s.st k 10),(s.st k 11),(s.en k 0),(s.en k 1),(s.en k 2),(s.en k 3),(s.en k 4),(s.en k 5),(s.en k 6),(s.en k 7),(s.en k 8),(s.en k 9),(s.en k 10),(s.en k 11),(s.sh k),(s.rt k)] at q3;simp only [hf,hg,x0,q9] at q3;have h6:=Scn.shade_at x0 hq q9;rw [hf] at h6 q8;have h8:=ho.prg _ (aR2 hq);have z7:=hsm _ (aR2 hq);have h9:=ho.t;have H1:=hid h1;have H2:=hid h2;have x8:=hid q3;have a0:=hid h5;have c4:=hid (show ∀W:World,Ext w W->cT lo hi W (.agg #[s.t.log,.slice a1 s.t.px.length c1]) s.t from fun W x=>⟨_,rfl,h5,(h1.shut).ext hh x⟩);have x4:=hid h8;have q4:=hid z7;have b3:=hid h9;have b0:=hid q8;have b1:=hid h6;have x2:Ext w ((w.alloc (.cells (sA_ s a1 c1 a2 c2 (some ⟨b,h0,none⟩) c3) 40)).alloc (.cells #[.slice none 0 0,.slice none 0 0] 91)):=X_;have bS:=(aRr w 40 (sL_ s a1 c1 a2 c2 (some ⟨b,h0,none⟩) c3)).ext (show Ext (w.alloc (.cells (sA_ s a1 c1 a2 c2 (some ⟨b,h0,none⟩) c3) 40)) ((w.alloc (.cells (sA_ s a1 c1 a2 c2 (some ⟨b,h0,none⟩) c3) 40)).alloc (.cells #[.slice none 0 0,.slice none 0 0] 91)) from X_)
 have bH:Blk ((w.alloc (.cells (sA_ s a1 c1 a2 c2 (some ⟨b,h0,none⟩) c3) 40)).alloc (.cells #[.slice none 0 0,.slice none 0 0] 91)) (w.heap.size+1) 91 [.slice none 0 0,.slice none 0 0]:=by
  have h:=aRr (w.alloc (.cells (sA_ s a1 c1 a2 c2 (some ⟨b,h0,none⟩) c3) 40)) 91 [.slice none 0 0,.slice none 0 0];rw [aRj] at h;exact h
 have z2:((w.alloc (.cells (sA_ s a1 c1 a2 c2 (some ⟨b,h0,none⟩) c3) 40)).alloc (.cells #[.slice none 0 0,.slice none 0 0] 91)).heap.size=w.heap.size+2:=by simp
 clear hv h1 h2 h3 q3 h8 z7 h9 q8 d5 h6 x0 q9 h4 hf hg h5;go_enter func59,ntmps59;go_upto_region 1 with fail
 obtain ⟨W0,q6⟩:∃W0,((w.alloc (.cells (sA_ s a1 c1 a2 c2 (some ⟨b,h0,none⟩) c3) 40)).alloc (.cells #[.slice none 0 0,.slice none 0 0] 91))=W0:=⟨_,rfl⟩
 rw [q6] at x2 bS bH z2;rw [q6];clear q6;have z1:=hid x2;have HS:=hid bS;have HH:=hid bH;have Z2:=hid z2;have z4:W0.rangeAt b (h0+k*26) [(f 0),(f 1),(f 2),(f 3),(f 4),(f 5),(f 6),(f 7),(f 8),(f 9),(f 10),(f 11),(g 0),(g 1),(g 2),(g 3),(g 4),(g 5),(g 6),(g 7),(g 8),(g 9),(g 10),(g 11),(q:Nat),(n:Nat)]:=fun j v hj=>(x2.cells.1 b _ bw).trans (x8 j v hj);have x3:=hid z4;have b6:=bS.cell 10 rfl;have ls:=bS.lt
 have lb:b<W0.heap.size:=by omega
 clear x2 bS bH z2 z4;go_upto_region 2 with (first|(show wpList _ _ _ [_,_,_] _ _;refine wpList_load_mid rfl _ _ rfl b (h0+k*26) rfl [(f 0),(f 1),(f 2),(f 3),(f 4),(f 5),(f 6),(f 7),(f 8),(f 9),(f 10),(f 11),(g 0),(g 1),(g 2),(g 3),(g 4),(g 5),(g 6),(g 7),(g 8),(g 9),(g 10),(g 11),(q:Nat),(n:Nat)] _ x3 underlying127 rfl iS ?_)|(show wpList _ _ _ [_] _ _;refine dP _ _ _ rfl 127 (.tmp 5) (.tmp 17) rfl rfl #[(f 0),(f 1),(f 2),(f 3),(f 4),(f 5),(f 6),(f 7),(f 8),(f 9),(f 10),(f 11),(g 0),(g 1),(g 2),(g 3),(g 4),(g 5),(g 6),(g 7),(g 8),(g 9),(g 10),(g 11),(q:Nat),(n:Nat)] W0.heap.size rfl rfl rfl (by kernel_rfl) (by kernel_rfl) (by kernel_rfl) ?_));have xA:Ext W0 (W0.alloc (.cells #[(f 0),(f 1),(f 2),(f 3),(f 4),(f 5),(f 6),(f 7),(f 8),(f 9),(f 10),(f 11),(g 0),(g 1),(g 2),(g 3),(g 4),(g 5),(g 6),(g 7),(g 8),(g 9),(g 10),(g 11),(q:Nat),(n:Nat)] 127)):=X_;have bA:=aRr W0 127 [(f 0),(f 1),(f 2),(f 3),(f 4),(f 5),(f 6),(f 7),(f 8),(f 9),(f 10),(f 11),(g 0),(g 1),(g 2),(g 3),(g 4),(g 5),(g 6),(g 7),(g 8),(g 9),(g 10),(g 11),(q:Nat),(n:Nat)]
 obtain ⟨A,hA⟩:∃A,W0.heap.size=A:=⟨_,rfl⟩
 obtain ⟨W1,z3⟩:∃W1,W0.alloc (.cells #[(f 0),(f 1),(f 2),(f 3),(f 4),(f 5),(f 6),(f 7),(f 8),(f 9),(f 10),(f 11),(g 0),(g 1),(g 2),(g 3),(g 4),(g 5),(g 6),(g 7),(g 8),(g 9),(g 10),(g 11),(q:Nat),(n:Nat)] 127)=W1:=⟨_,rfl⟩
 rw [z3] at xA bA ⊢;rw [hA] at bA ls lb ⊢;have X1:=hid (z1.trans xA);have S1:=HS.ext xA;have z0:=hid S1;have x9:=hid (HH.ext xA);have x1:=hid bA;have ZA:=hid (show w.heap.size+2<=A by have:=Z2.out;omega);have d9:=S1.cell 9 rfl;have g3:=S1.lt;have b9:=bA.cell 24 rfl;have lA:=bA.lt;obtain ⟨b2,g5,na,nc,ga,gc,rfl,d0,c9,k1,k2,hR⟩:=H2.at hq X1 hh;have HR:=hid hR;clear z3 hA xA bA S1 hR b6 ls lb HS HH z1 x3 x8;go_wp2_with fail;refine (aC2 lo hi _ (s.ps[q]'hq) _ HR (aRq hh X1.size) x4 q4.1 q4.2.2).mono ?_;rintro e w5 ⟨u,rfl,R5,x5⟩
 obtain ⟨K,hK⟩:∃K,(s.ps[q]'hq).code=K:=⟨_,rfl⟩
 have y9:=hid (show K.small by rw [<-hK];exact ⟨by have:=oO (Prg.chkB_K x4);omega,by show ((s.ps[q]'hq).gs.map (·.name)).length<=1048576;rw [aSv];exact q4.2.2⟩);have y8:=hid hK;rw [hK] at R5;obtain ⟨a5,c5,a6,c6,rfl,-,-⟩:=R5.form;have y5:Ext w5 (w5.alloc (.cells #[.slice a5 K.xs.length c5,.slice a6 K.ls.length c6] 163)):=X_;have bC:=aRr w5 163 [.slice a5 K.xs.length c5,.slice a6 K.ls.length c6];have y0:=hid (R5.ext (aRi _) y5);have X5:=hid (X1.trans (x5.trans y5));have S5:=z0.ext (x5.trans y5);have g8:=hid S5;have y4:=hid (x9.ext (x5.trans y5));have A5:=x1.ext (x5.trans y5);have g7:=hid A5;have z8:=hid bC;have z5:=(x5.trans y5).size;have g6:=y5.size;have j2:=x5.size;have d7:=S5.cell 7 rfl;have d8:=S5.cell 8 rfl;have g4:=S5.lt;obtain ⟨e0,e1,e2,e3,e4,e5,e6,e7,e8,e9,b7,b8⟩:=A5.q12;have c0:=A5.cell 25 rfl;have d6:=A5.lt;have ZF:=hid (show w.heap.size+2<=(w5.alloc (.cells #[.slice a5 K.xs.length c5,.slice a6 K.ls.length c6] 163)).heap.size by have:=ZA.out;omega);clear R5 x5 y5 bC S5 A5 d9 g3 b9 lA k1 k2 hK z0 x9 x1 HR;go_wp2_with fail;refine (aE5 lo hi f b0 n ⟨d3,d4⟩ _ s.t _ (c4.out _ X5) (aRq hh X5.size) b3).mono ?_;rintro e w6 ⟨gv,rfl,R6,x6⟩
 obtain ⟨g1,g2,hg⟩:∃g:Grd,nP f n s.t=g/\True:=⟨_,rfl,trivial⟩
 have y3:=hid g2;rw [g2] at R6;obtain ⟨a7,c7,a8,c8,rfl⟩:=Grd.R.formS R6;have y6:Ext w6 (w6.alloc (.cells #[g1.n,.slice a7 g1.m c7,g1.tm,g1.t.log,.slice a8 g1.t.px.length c8] 168)):=X_;have bG:=aRr w6 168 [g1.n,.slice a7 g1.m c7,g1.tm,g1.t.log,.slice a8 g1.t.px.length c8];have y2:=hid (R6.ext (aRi _) y6);have X6:=hid (X5.trans (x6.trans y6));have y7:=hid (y4.ext (x6.trans y6));have B6:=z8.ext (x6.trans y6);have y1:=hid (y0.ext (by have:=g6;omega) (x6.trans y6));have z6:=(x6.trans y6).size;have j1:=y6.size;obtain ⟨f0,f1⟩:=B6.q2;have g0:=B6.lt;obtain ⟨i0,i1,i2,i3,i4⟩:=bG.q5;have lG:=bG.lt;clear R6 x6 y6 bG B6 hg g2 d7 d8 g4 e0 e1 e2 e3 e4 e5 e6 e7 e8 e9 b7 b8 c0 d6;go_wp2_with fail
 have hS:∃X Y bb,K.shade g1=(X,Y,bb):=⟨_,_,_,rfl⟩
 obtain ⟨X,Y,bb,q7⟩:=hS
 have h7:(s.shade k).1=X/\(s.shade k).2=Y:=by
  rw [b1,y8,y3,q7];exact ⟨rfl,rfl⟩
 have HE:=hid h7;have b4:=hid q7;clear q7 h7;refine (yC _ _ _ _ _ _ K g1 _ b4 y1 (by omega) y2 (by omega) y9).mono ?_;rintro e w7 ⟨r1,r2,rfl,h,i7,d2,O1,O2,x7⟩;obtain ⟨ra,rc,rfl⟩:=O1.form;obtain ⟨sa,sc,rfl⟩:=O2.form;have B7:=y7.ext x7;have z9:=hid B7;have X7:=hid (X6.trans x7);have a4:=hid O1;have a9:=hid O2;obtain ⟨p0,p1⟩:=B7.q2;have q0:=B7.free 0;have q1:=B7.free 1;have i9:=B7.lt;clear B7 O1 O2 x7 f0 f1 g0 i0 i1 i2 i3 i4 lG;go_wp2;have bF:=(z9.set 0 (.slice ra X.length rc)).set 1 (.slice sa Y.length sc);refine aC0 rfl rfl bF _ underlying91 rfl aL3 rfl ?_;have g9:=ZF.out;refine ⟨_,_,rfl,h,by omega,by rw [aS6,aS6];exact d2,?_,?_,?_⟩
 ·rw [HE.1]
  exact ((a4.setLow (p:=⟨w.heap.size+1,0,none⟩) (by simp only;omega) _).setLow (p:=⟨w.heap.size+1,1,none⟩) (by simp only;omega) _).low' (by omega)
 ·rw [HE.2,aS6,aS6]
  exact (a9.setLow (p:=⟨w.heap.size+1,0,none⟩) (by simp only;omega) _).setLow (p:=⟨w.heap.size+1,1,none⟩) (by simp only;omega) _
 ·exact aR0 (aR0 X7 (by simp only;omega) _) (by simp only;omega) _
theorem Scn.R.formV {s:Scn} (h:s.R lo hi w v):∃a1 c1 a2 c2 a3 c3,v = .agg #[s.c.w,s.c.h,s.c.zoom,s.c.near,.bool s.c.deep,s.c.lens,s.c.focus,s.t.log,.slice a1 s.t.px.length c1,.slice a2 s.ps.length c2,.slice a3 s.m c3,s.side]:=by
 obtain ⟨a1,c1,a2,c2,a3,c3,e,_⟩:=h.form;exact ⟨a1,c1,a2,c2,a3,c3,e⟩
def sO (s:Scn) (lo:Nat) (w:World) (v:Value) (j:Nat):Prop:=∃us:List (Value×Value),us.length=j/\aE oP lo 91 2 w v us/\∀k u,us[k]?=some u->aB lo w u.1 (s.shade k).1/\aB lo w u.2 (s.shade k).2
theorem sO.ext {s:Scn} (h:sO s lo w v j) (x:Ext w w'):sO s lo w' v j:=by
 obtain ⟨us,h1,h2,h3⟩:=h;exact ⟨us,h1,h2.ext x,fun k u hu=>⟨(h3 k u hu).1.ext x,(h3 k u hu).2.ext x⟩⟩
theorem sO.low {s:Scn} (h:sO s lo w v j) (hl:lo'<=lo):sO s lo' w v j:=by
 obtain ⟨us,h1,h2,h3⟩:=h;exact ⟨us,h1,h2.low hl,fun k u hu=>⟨(h3 k u hu).1.low hl,(h3 k u hu).2.low hl⟩⟩
theorem aB.grownS {r:Value} {us:List (Value×Value)} (h:aB lo w r xs) (ho:aE oP lo' 91 2 w v us) (hg:w.grownBy w' v.ownBlock):aB lo w' r xs:=
 h.grown hg fun k hk e=>by
  obtain ⟨c,hc⟩:=h.block hk;obtain ⟨_,c',hc'⟩:=aE.rowF ho k e.symm;rw [hc] at hc';simp only [aRl,aSx] at hc';exact absurd hc'.2.1 (by decide)
theorem sO.push {s:Scn} {v' r1 r2:Value} {us:List (Value×Value)} (h1:us.length=j) (h2:aE oP lo 91 2 w v us) (h3:∀k u,us[k]?=some u->aB lo w u.1 (s.shade k).1/\aB lo w u.2 (s.shade k).2)
  (hr1:aB lo w r1 (s.shade j).1) (hr2:aB lo w r2 (s.shade j).2) (hg:w.grownBy w' v.ownBlock) (hown:aE oP lo 91 2 w' v' (us++[(r1,r2)])):sO s lo w' v' (j+1):=by
 refine ⟨us++[(r1,r2)],by simp [h1],hown,fun k u hu=>?_⟩
 rcases aSo k us.length with hk|hk
 ·rw [aSz hk] at hu
  exact ⟨(h3 k u hu).1.grownS h2 hg,(h3 k u hu).2.grownS h2 hg⟩
 ·rw [aSm hk] at hu
  have h0:k - us.length=0:=by
   have:=(aRk.1 hu).1;simp at this;omega
  rw [h0] at hu
  obtain rfl:(r1,r2)=u:=by simpa using hu
  obtain rfl:k=j:=by omega
  exact ⟨hr1.grownS h2 hg,hr2.grownS h2 hg⟩
theorem aJ1:(Tryz.prog.info? 91).map (fun i=>(i.zero,i.size,i.bytes))=some (some (.agg #[.slice none 0 0,.slice none 0 0]),2,48):=by kernel_rfl
theorem aE.empty {α : Type} (cs : α->List Value) (hl:lo<=g) (hg:w.heap[g]?=some (.cells #[] e (0,0))):aE cs lo e sz w (.slice (some ⟨g,0,none⟩) 0 0) []:=
 ⟨by simp,.inr ⟨g,0,#[],rfl,hl,hg,aRi _,by unfold maxLen;omega,by simp,by simp⟩⟩
theorem aAk (s:Scn) (lo hi:Nat) (v:Value) (w:World) (hv:s.R lo hi w v) (hh:hi<=w.heap.size) (ho:s.Ok) (hsm:s.small) :
  Calls aRn 53 #[v] w fun e w'=>∃r,e = .returned r/\sO s w.heap.size w' r s.m/\Ext w w':=by
 have HV:=hid hv;have x2:=ho.m;obtain ⟨a1,c1,a2,c2,a3,c3,rfl⟩:=hv.formV;have q3:=hid hsm;have HO:=hid ho;have x0:Ext w (w.alloc (.cells (sA_ s a1 c1 a2 c2 a3 c3) 40)):=X_;have bS:=aRr w 40 (sL_ s a1 c1 a2 c2 a3 c3)
 obtain ⟨W0,h3⟩:∃W0,w.alloc (.cells (sA_ s a1 c1 a2 c2 a3 c3) 40)=W0:=⟨_,rfl⟩
 have bS:Blk W0 w.heap.size 40 (sL_ s a1 c1 a2 c2 a3 c3):=h3▸bS;rw [h3] at x0;have h4:=hid x0;have q0:=hid bS;have q5:=hid h3;have z0:w.heap.size<W0.heap.size:=bS.lt;have s0:=sO.ext (j:=0) (s:=s) (lo:=W0.heap.size) (v:=.slice (some ⟨W0.heap.size,0,none⟩) 0 0) ⟨[],rfl,aE.empty oP (aRi _) (aRr W0 91 []),fun k u hu=>by simp at hu⟩ (aRu _);have S0:=hid s0;clear hv ho hsm x0 bS h3 s0;go_enter func53,ntmps53;go_upto_region 1 with fail;rw [q5];have h5:=q0.cell 10 rfl;go_wp2_with fail;clear h5
 go_loopw [3,9] (fun r i wr=>∃k:Nat,k<=s.m/\i = .int .i64 (k:Nat)/\sO s W0.heap.size wr r k/\Ext W0 wr) (fun _ i _=>s.m - (intOf i).toNat)
 case atStart=>exact ⟨0,by omega,rfl,S0,X_⟩
 case round=>
  obtain ⟨k,hk,rfl,hs,hx⟩:=hrel;have HX:=hid hx;have HS:=hid hs
  rcases aSo k s.m with hlt|hge
  ·have b1:=q0.ext hx
   obtain ⟨c0,c1,c2,c3,c4,c5,c6,c7,c8,c9,h5,q7⟩:=b1.q12;have zr:=HX.size;clear b1 hx hs;go_wp2_with fail;refine (aHb s lo hi _ k _ (HV.ext hh (h4.trans HX)) (aRq hh (h4.trans HX).size) HO q3 hlt).mono ?_;rintro e w1 ⟨r1,r2,rfl,h,h1,h2,i1,i2,x1⟩;obtain ⟨us,u1,u2,u3⟩:=HS.ext x1;obtain ⟨ra,rc,rfl,x3⟩:=u2.form;have o1:aB W0.heap.size w1 r1 (s.shade k).1:=i1.1.low (by omega);have o2:aB W0.heap.size w1 r2 (s.shade k).2:=i2.1.low (by omega);obtain ⟨h6,h8,rfl,-⟩:=o1.form;obtain ⟨h7,h9,rfl,-⟩:=o2.form;have y1:Ext w1 (w1.alloc (.cells #[.slice h6 (s.shade k).1.length h8,.slice h7 (s.shade k).2.length h9] 91)):=X_;have B1:=aRr w1 91 [.slice h6 (s.shade k).1.length h8,.slice h7 (s.shade k).2.length h9];have zw:=x1.size;have q6:=hid (HX.trans (x1.trans y1));have HU:=hid (u2.ext y1);have q1:=hid u3;have q4:=hid u1;have O1:=hid (o1.ext y1);have O2:=hid (o2.ext y1);have Y1:=hid y1;have q2:=hid B1
   have q9:us.length<1000000:=by omega
   clear u1 u2 u3 o1 o2 i1 i2 x1 y1 B1 c0 c1 c2 c3 c4 c5 c6 c7 c8 c9 h5 q7 HS
   go_wp2_with (refine cX oP 91 2 48 _ _ rfl _ _ 83 rfl underlying83 aJ1 rfl (by decide) (by decide) (fun _=>rfl) W0.heap.size (.slice ra us.length rc) us rfl HU (.slice h6 (s.shade k).1.length h8,.slice h7 (s.shade k).2.length h9) w1.heap.size rfl (fun j hj=>(q2.cell j (aRs hj)).trans (aRs hj).symm) (fun u hu=>by
    simp only [oP,aR4,aRz,or_false] at hu
    rcases hu with rfl|rfl <;> rfl) q9 (by rw [aRj];omega) ?_)
   intro v2 w2 h0 hg;have P:=hid (sO.push q4 HU (fun k u hu=>⟨(q1 k u hu).1.ext Y1,(q1 k u hu).2.ext Y1⟩) O1 O2 hg h0);have X2:=hid (q6.grown hg (fun b hb=>(HU.lt b hb).1));clear h0 hg;go_wp2;go_roundw
   case rel=>exact ⟨k+1,by omega,by go_num,P,X2⟩
   case measure=>simp [intOf];omega
  ·obtain rfl:k=s.m:=by omega
   have q8:=hid (hs.low (aUu z0));have X2:=hid (h4.trans hx);clear hs hx HX HS;go_wp2;go_ret;exact ⟨_,rfl,q8.out,X2⟩
def Scn.allH (s:Scn) (p:Smp):List aP:=(aR6 s.m).flatMap fun k=>s.hits k p
def Scn.seen (s:Scn) (p:Smp):List aP:=fQ [] (s.allH p)
theorem aIh (A B C P:V3) (k c col al:Int):(aIu A B C P k c col al).length<=1:=by
 unfold aIu
 repeat' split
 all_goals simp
theorem aL4 (c:Cam) (f:Nat->Int) (n:Nat) (s:Smp) (k:Int) (cols als:List Int) (u v:Nat):(aAu c f n s k cols als u v).length<=2:=by
 unfold aAu
 split
 ·rw [aSa]
  exact Nat.add_le_add (aIh _ _ _ _ _ _ _ _) (aIh _ _ _ _ _ _ _ _)
 ·simp
theorem aJ2 (c:Cam) (f:Nat->Int) (n:Nat) (s:Smp) (k:Int) (cols als:List Int) (q:Nat):(qT c f n s k cols als q).length<=2*q:=by
 induction q with
 | zero=>simp [qT]
 | succ q ih=>
  rw [aDq,aSa];have:=aL4 c f n s k cols als (q % n) (q / n);omega
theorem Scn.Ok.hits_le {s:Scn} (ho:s.Ok) (p:Smp) (hk:k<s.m):(s.hits k p).length<=128:=by
 obtain ⟨q,n,-,-,h3,h4,h5,-,-⟩:=ho.at hk;unfold Scn.hits uE;rw [h3,aSc];have h1:=aJ2 s.c (aX (s.st k) (s.en k) p.t) n p (k:Nat) (s.shade k).1 (s.shade k).2 (n*n);have h2:n*n<=8*8:=aSi h5 h5;omega
def Scn.seenTo (s:Scn) (p:Smp) (j:Nat):List aP:=fQ [] ((aR6 j).flatMap fun k=>s.hits k p)
theorem Scn.seenTo_succ (s:Scn) (p:Smp) (j:Nat):s.seenTo p (j+1)=fQ (s.seenTo p j) (s.hits j p):=by
 unfold Scn.seenTo;rw [aT3,aSy,qC];simp
theorem Scn.Ok.seenTo_le {s:Scn} (ho:s.Ok) (p:Smp) (hj:j<=s.m):(s.seenTo p j).length<=128*j:=by
 induction j with
 | zero=>simp [Scn.seenTo,fQ]
 | succ j ih=>
  rw [Scn.seenTo_succ,lI];have:=ho.hits_le p (show j<s.m by omega);have:=ih (by omega);omega
theorem uW {l xs:List aP} {f:aP} (h:xs[j]?=some f):fQ l (xs.take (j+1))=tG f (fQ l (xs.take j)):=by
 obtain ⟨hj,rfl⟩:=aRk.1 h;rw [aSd hj,qC]
 rfl
theorem aE.keptBlk {α : Type} {cs : α->List Value} {xs:List α} (h:aE cs lo e sz w v xs) (s:∀k,v.ownBlock=some k->w'.heap[k]?=w.heap[k]?):aE cs lo e sz w' v xs:=by
 refine ⟨h.1,?_⟩
 rcases h.2 with hn|⟨g,cap,cur,hv,hb,hg,r⟩
 ·exact .inl hn
 ·exact .inr ⟨g,cap,cur,hv,hb,(s g (by rw [hv];rfl)).trans hg,r⟩
theorem aJ3 (s:Scn) (lo lo2 hi:Nat) (v u:Value) (p:Smp) (w:World) (hv:s.R lo hi w v) (hh:hi<=w.heap.size) (ho:s.Ok) (hp:p.okB s.c=true) (hu:sO s lo2 w u s.m) :
  Calls aRn 65 #[v,.agg #[p.x,p.y,p.t,p.lx,p.ly],u] w fun e w'=>∃r,e = .returned r/\aE aP.cs w.heap.size 95 5 w' r (s.seen p)/\Ext w w':=by
 have HV:=hid hv;have a6:=ho.m;obtain ⟨a1,c1,a2,c2,a3,c3,rfl⟩:=hv.formV;have HO:=hid ho;have HP:=hid hp;have HU:=hid hu;obtain ⟨us,q3,x3,z6⟩:=hu;obtain ⟨ua,uc,rfl,-⟩:=x3.form;have x6:=hid q3;have y4:=hid x3;have y5:=hid z6;have x0:Ext w ((w.alloc (.cells (sA_ s a1 c1 a2 c2 a3 c3) 40)).alloc (.cells #[p.x,p.y,p.t,p.lx,p.ly] 42)):=X_;have bS:=(aRr w 40 (sL_ s a1 c1 a2 c2 a3 c3)).ext (show Ext _ ((w.alloc (.cells (sA_ s a1 c1 a2 c2 a3 c3) 40)).alloc (.cells #[p.x,p.y,p.t,p.lx,p.ly] 42)) from X_);have bP:=aRr (w.alloc (.cells (sA_ s a1 c1 a2 c2 a3 c3) 40)) 42 [p.x,p.y,p.t,p.lx,p.ly];rw [aRj] at bP
 obtain ⟨W0,q0⟩:∃W0,(w.alloc (.cells (sA_ s a1 c1 a2 c2 a3 c3) 40)).alloc (.cells #[p.x,p.y,p.t,p.lx,p.ly] 42)=W0:=⟨_,rfl⟩
 rw [q0] at x0;have bS:Blk W0 w.heap.size 40 (sL_ s a1 c1 a2 c2 a3 c3):=q0▸bS;have bP:Blk W0 (w.heap.size+1) 42 [p.x,p.y,p.t,p.lx,p.ly]:=q0▸bP;have x7:=hid x0;have x5:=hid bS;have y0:=hid bP;have y7:=hid q0;have z0:w.heap.size+1<W0.heap.size:=bP.lt;clear hv ho hp x3 z6 q3 x0 bS bP q0;go_enter func65,ntmps65;go_upto_region 1 with fail;rw [y7];go_wp2_with fail;refine (yI _).mono ?_;rintro e w1 ⟨rfl,o1,x1⟩;have q1:=hid o1;have h9:=hid x1;have q7:=(x5.ext x1).cell 10 rfl;have z1:=x1.size;clear o1 x1;go_wp2_with fail;clear q7
 go_loopw [15] (fun i wr=>∃(k:Nat) (vv:Value),k<=s.m/\i = .int .i64 (k:Nat)/\aCx W0.heap.size wr W0.heap.size (s.seenTo p k) vv/\Ext W0 wr) (fun i _=>s.m - (intOf i).toNat)
 case atStart=>exact ⟨0,_,by omega,rfl,q1,h9⟩
 case round=>
  obtain ⟨WA,rfl⟩:∃W,W=wr:=⟨_,rfl⟩
  obtain ⟨k,vv,hk,rfl,h8,hx⟩:=hrel;have HX:=hid hx;have HR:=hid h8;have zr:=hx.size
  rcases aSo k s.m with hlt|hge
  ·have b1:=x5.ext hx
   obtain ⟨c0,c1,c2,c3,c4,c5,c6,c7,c8,c9,q7,y8⟩:=b1.q12;have b2:=y0.ext hx;obtain ⟨d0,d1,d2,d3,d4⟩:=b2.q5;have xw:Ext w WA:=x7.trans hx;have XW:=hid xw
   obtain ⟨y,hy⟩:∃y,us[k]?=some y:=⟨_,aRs (by have:=x6.out;omega)⟩
   obtain ⟨y1,y2⟩:=y;obtain ⟨gu,b3,he,-,a0,q8,y9,-,h0⟩:=aE.at (aE.ext y4 xw) (fun _=>rfl) hy;simp only [aSb,true_and] at he;obtain ⟨rfl,rfl⟩:=he;obtain ⟨i1,i2⟩:=y5 k _ hy;have j1:aB lo2 WA y1 (s.shade k).1:=i1.ext xw;have j2:aB lo2 WA y2 (s.shade k).2:=i2.ext xw;clear i1 i2;obtain ⟨e1,f1,rfl,-⟩:=j1.form;obtain ⟨e2,f2,rfl,-⟩:=j2.form;have g0:=h0 0 (by decide);have g1:=h0 1 (by decide);simp only [oP,aS0,aRg,aRh] at g0 g1;have I1:=hid j1;have I2:=hid j2;obtain ⟨q,n,-,-,h3,h4,h5,-,-⟩:=HO.at hlt;have h7:=HO.shade hlt;rw [h3,aSc] at h7;have h6:=hid h7;have q6:=hid h3;have q3:=x6.out
   have a7:((k:Nat):Int)<(us.length:Nat):=by omega
   have a9:s.m<=5:=a6;clear b1 b2 hx h8 xw h0 hy j1 j2 h7 h3 q3;go_wp2_with fail;refine aH [([0,1,2,3,4,5,6,9],7),([],8)] 99 (fun w'=>∃d,w'=fT (C3f w.heap.size (w.heap.size+1) gu) _ d) (by kernel_rfl) (by kernel_rfl) (aUb _ _) ?_;refine sc_ fun K hK=>?_;go_wp2_with fail
   have eh:uE s.c (aX (s.st k) (s.en k) p.t) n p (k:Nat) (s.shade k).1 (s.shade k).2=s.hits k p:=by unfold Scn.hits;rw [q6,aSc]
   refine (aJx s lo hi _ k p n (s.shade k).1 (s.shade k).2 _ _ _ (HV.ext hh (XW.trans X_)) (aRq hh (XW.trans (aSk (aRu _))).size) hlt q6 ⟨h4,h5⟩ HP ((I1.ext (show Ext WA WA.drew from aSk (aRu _))).ints.wide (aS1 _) (aRi _)) ((I2.ext (show Ext WA WA.drew from aSk (aRu _))).ints.wide (aS1 _) (aRi _)) h6.1 h6.2).mono ?_;rintro e w2 ⟨r,rfl,hr,x2⟩;rw [eh] at hr
   obtain ⟨L,hL⟩:∃L,s.hits k p=L:=⟨_,rfl⟩
   rw [hL] at hr;have hr:aE aP.cs WA.heap.size 95 5 w2 r L:=hr;have HL:=hid hL;have z2:L.length<=128:=hL▸HO.out.hits_le p hlt;have a4:=HO.seenTo_le p (aUu hlt)
   obtain ⟨F0,hF⟩:∃F,s.seenTo p k=F:=⟨_,rfl⟩
   rw [hF] at a4;have HF:=hid hF;have y3:=hid (hF▸HR.out);obtain ⟨ra,rc,rfl,-⟩:=hr.form;have Y2:=hid (aRo (w:=WA) X_ x2);have q2:=hid hr;have a8:=HR.box.lt;have zy:=Y2.size;have z7:=HR.row.lt;have y6:=hid z7
   have b4:w.heap.size<WA.heap.size:=by omega
   clear x2 hr hL hF eh z7 q6 h6 I1 I2 HR;go_wp2_with fail;refine hK _ _ (.inr (aSn fun a ha=>Y2.block (by rcases ha with ha|ha|ha <;> rw [ha] <;> omega))) ?_;clear hK K;refine sc_ fun K hK=>?_;go_wp2_with fail;go_wp2_with fail;refine hK _ _ (.inr (aSn fun a ha=>Y2.block (by rcases ha with ha|ha|ha <;> rw [ha] <;> omega))) ?_;clear hK K;refine aQ ?_;clear c0 c1 c2 c3 c4 c5 c6 c7 c8 c9 q7 y8 d0 d1 d2 d3 d4 g0 g1;go_wp2_with fail
   go_loopw [27] (fun j wr=>∃(jn:Nat) (vq:Value),jn<=L.length/\j = .int .i64 (jn:Nat)/\aCx W0.heap.size wr W0.heap.size (fQ F0 (L.take jn)) vq/\aE aP.cs WA.heap.size 95 5 wr (.slice ra L.length rc) L/\(∀b,(aS2 ra L.length rc).ownBlock=some b->vq.ownBlock≠some b)/\Ext W0 wr) (fun j _=>L.length - (intOf j).toNat)
   case atStart=>exact ⟨0,vv,by omega,rfl,y3.ext Y2,q2,fun b hb e=>by
    have h1:=(q2.lt b hb).1;have h2:=(y6 b e).2
    omega,HX.trans Y2⟩
   case round=>
    obtain ⟨jn,vq,hj,rfl,z4,z5,z3,z8⟩:=hrel;have q1:=hid z4;have q4:=hid z5;have x4:=hid z3;have h9:=hid z8;clear z4 z5 z3 z8
    rcases aSo jn L.length with hjl|hjl
    ·obtain ⟨f,hf⟩:∃f,L[jn]?=some f:=⟨_,aRs hjl⟩
     obtain ⟨g,b0,he,-,a0,q8,y9,-,h0⟩:=aE.at q4 (fun _=>rfl) hf;simp only [aSb,true_and] at he;obtain ⟨rfl,rfl⟩:=he;have d0:=h0 0 (by decide);have d1:=h0 1 (by decide);have d2:=h0 2 (by decide);have d3:=h0 3 (by decide);have d4:=h0 4 (by decide);simp only [aP.cs,aS0,aRg,aRh] at d0 d1 d2 d3 d4;have z9:=hid hf
     have a5:(fQ F0 (L.take jn)).length<=100000:=by
      rw [lI,aR9];omega
     have zq:=h9.size;clear h0 hf;go_wp2_with fail;refine (aE0 (q1.ext (show Ext _ (wr.alloc (.cells #[f.d,f.s,f.c,f.col,f.al] 95)) from X_)) f a5).mono ?_;rintro e w3 ⟨v3,rfl,o3,k3,x9,x8⟩;have q9:WA.heap.size<=g/\g<wr.heap.size:=q4.lt g rfl;have P1:=hid o3;have P2:Hid (Ext W0 w3):=hid (k3.up (h9.trans X_) (aRi _))
     have P3:=hid (q4.keptBlk (w':=w3) (fun b hb=>by
      obtain rfl:g=b:=aTh hb
      exact (x9 g (by rw [aRj];omega) (by omega) (x4 g rfl)).trans (aRv (show Ext wr (wr.alloc (.cells #[f.d,f.s,f.c,f.col,f.al] 95)) from X_) q9.2)))
     have P4:Hid (∀b,(aS2 (some ⟨g,0,none⟩) L.length rc).ownBlock=some b->v3.ownBlock≠some b):=hid (fun b hb e=>by
      obtain rfl:g=b:=aTh hb
      rcases x8 g e with h|h
      ·exact x4 g rfl h
      ·rw [aRj] at h
       omega)
     clear o3 k3 x9 x8;go_wp2;go_roundw
     case rel=>exact ⟨jn+1,v3,by omega,by go_num,by rw [uW z9];exact P1,P3,P4,P2⟩
     case measure=>simp [intOf];omega
    ·obtain rfl:jn=L.length:=by omega
     have P1:Hid (aCx W0.heap.size wr W0.heap.size (s.seenTo p (k+1)) vq):=hid (by
      rw [Scn.seenTo_succ,HF,HL];have:=q1.out;rw [aSh] at this
      exact this)
     go_wp2;go_roundw
     case rel=>exact ⟨k+1,vq,by omega,by go_num,P1,h9⟩
     case measure=>simp [intOf];omega
  ·obtain rfl:k=s.m:=by omega
   have c0:=HR.box.cell 0 rfl;have c1:=HR.box.lt;have X2:=hid (x7.trans hx);have q2:=hid (HR.row.low (show w.heap.size<=W0.heap.size by omega));clear hx h8 HX;go_wp2;go_ret;exact ⟨_,rfl,q2,X2⟩
theorem aBe {l:List aP} {f:aP} (h:l[k]?=some f) {s t p q u:Int} (h0:nK (l.take k)=(s,t)) (h1:t*aN f.al 0 256=p) (h2:p / 256=q) (h3:q*aN f.col 0 256=u):nK (l.take (k+1))=(s+u,t - q):=by
 obtain ⟨hk,rfl⟩:=aRk.1 h;rw [aFp hk,h0];unfold dU;simp only [h1,h2,h3]
theorem yM (lo:Nat) (v:Value) (fs:List aP) (w:World) (hv:aE aP.cs lo 95 5 w v fs) :
  R_ 40 #[v] w (.int .i64 (jD fs)):=by
 have HV:=hid hv;obtain ⟨a,cap,rfl,h5⟩:=hv.form;clear hv;go_enter func40,ntmps40;go_wp2_with fail
 go_loopw [3,4,10] (fun x y i wr=>∃(k:Nat) (s t:Int),k<=fs.length/\i = .int .i64 (k:Nat)/\x = .int .i64 s/\y = .int .i64 t/\nK (fs.take k)=(s,t)/\Ext w wr) (fun _ _ i _=>fs.length - (intOf i).toNat)
 case atStart=>exact ⟨0,0,65536,by omega,rfl,rfl,rfl,by rw [aV7];rfl,aRu _⟩
 case round=>
  obtain ⟨k,s,t,hk,rfl,rfl,rfl,hl,hx⟩:=hrel;have HX:=hid hx;have hb:=wF (fs.take k);rw [hl] at hb;simp only at hb;have HL:=hid hl
  rcases aSo k fs.length with hlt|hge
  ·obtain ⟨f,hf⟩:∃f,fs[k]?=some f:=⟨_,aRs hlt⟩
   obtain ⟨g,h3,he,-,h7,h4,h6,-,h0⟩:=aE.at (aE.ext HV.out hx) (fun _=>rfl) hf;simp only [aSb,true_and] at he;obtain ⟨rfl,rfl⟩:=he;have c0:=h0 0 (by decide);have c1:=h0 1 (by decide);have c2:=h0 2 (by decide);have c3:=h0 3 (by decide);have c4:=h0 4 (by decide);simp only [aP.cs,aS0,aRg,aRh] at c0 c1 c2 c3 c4;have HF:=hid hf
   obtain ⟨ca,h1⟩:∃n,aN f.al 0 256=n:=⟨_,rfl⟩
   obtain ⟨cc,h2⟩:∃n,aN f.col 0 256=n:=⟨_,rfl⟩
   have ba:=lZ f.al;have bc:=lZ f.col;rw [h1] at ba;rw [h2] at bc
   obtain ⟨p,hp⟩:∃n,t*ca=n:=⟨_,rfl⟩
   have bp:0<=p/\p<=t*256:=hp▸⟨aSu hb.2.1 ba.1,aTy ba.2 hb.2.1⟩
   obtain ⟨q,hq⟩:∃n,p / 256=n:=⟨_,rfl⟩
   have bq:0<=q/\q<=t:=by omega
   obtain ⟨u,hu⟩:∃n,q*cc=n:=⟨_,rfl⟩
   have bu:0<=u/\u<=q*256:=hu▸⟨aSu bq.1 bc.1,aTy bc.2 bq.1⟩;have HN:=hid (aBe (p:=p) (q:=q) (u:=u) HF.out HL.out (by rw [h1];exact hp) hq (by rw [h2];exact hu));have HA:=hid h1;have HC:=hid h2
   have i1 : -9223372036854775808<=p/\p<=9223372036854775807:=by omega
   have i2 : -9223372036854775808<=u/\u<=9223372036854775807:=by omega
   clear hl hx h0 hf h1 h2;go_wp2_with (go_at_call 81;with_reducible first|(refine z_ (dD HA.out _) ?_)|(refine z_ (dD HC.out _) ?_));go_roundw
   case rel=>exact ⟨k+1,s+u,t - q,by omega,by go_num,by go_num,by go_num,HN.out,aRo HX.out X_⟩
   case measure=>simp [intOf];omega
  ·obtain rfl:k=fs.length:=by omega
   have hr:s / 65536=jD fs:=by
    unfold jD;rw [aSh] at hl;rw [hl]
   have HR:=hid hr;clear hl hx;go_wp2;go_ret;exact ⟨cK HR.out,HX.out⟩
theorem aJ4 (r:Int) (w:World):R_ 138 #[r] w (.bool (uU r)):=by
 unfold uU;go_enter func138,ntmps138;go_wp2
 all_goals
  go_ret;exact ⟨by first|rfl|simp [*],X_⟩
theorem iC (f:Nat->Int) (w:World):R_ 137 #[.agg f] w (.bool (rG f)):=by
 have j0:=pQ f 0 (by decide);have j1:=pQ f 1 (by decide);have j2:=pQ f 2 (by decide);have j3:=pQ f 3 (by decide);simp only [aZt,aSf,aVi,aUl,aZe,aXg] at j0 j1 j2 j3;have X0:Ext w (w.alloc (.cells f 125)):=X_;go_enter func137,ntmps137;go_wp2_with fail
 obtain ⟨W0,h0⟩:∃W0,(w.alloc (.cells f 125))=W0:=⟨_,rfl⟩
 rw [h0] at X0 ⊢;clear h0
 go_loopw [7] (fun i wr=>∃k:Nat,k<=4/\i = .int .i64 (k:Nat)/\Ext w wr/\(0<k->dC (f 0) (f 1) (f 2)=true)/\(1<k->dC (f 3) (f 4) (f 5)=true)/\(2<k->dC (f 6) (f 7) (f 8)=true)/\(3<k->dC (f 9) (f 10) (f 11)=true)) (fun i _=>4 - (intOf i).toNat)
 case atStart=>exact ⟨0,by omega,rfl,X0,by omega,by omega,by omega,by omega⟩
 case round=>
  obtain ⟨k,hk,rfl,hx,b0,b1,b2,b3⟩:=hrel;have HX:=hid hx;have B0:=hid b0;have B1:=hid b1;have B2:=hid b2;have B3:=hid b3;clear hx b0 b1 b2 b3 X0
  rcases (show k=0\/k=1\/k=2\/k=3\/k=4 by omega) with rfl|rfl|rfl|rfl|rfl
  ·go_wp2_with fail
   refine r_ (dS _) fun w3 x3=>?_;have y3:Ext wr w3:=aRo (show Ext wr (wr.alloc (.cells #[(f 0),(f 1),(f 2)] 122)) from X_) x3
   cases hb:dC (f 0) (f 1) (f 2)
   ·go_wp2
    go_ret;exact ⟨by rw [eN,hb];simp,HX.trans y3⟩
   ·have HB:=hid hb
    clear hb;go_wp2;go_roundw
    case rel=>exact ⟨1,by omega,by go_num,HX.trans y3,fun _=>HB.out,fun h=>absurd h (by omega),fun h=>absurd h (by omega),fun h=>absurd h (by omega)⟩
    case measure=>simp [intOf]
  ·go_wp2_with fail
   refine r_ (dS _) fun w3 x3=>?_;have y3:Ext wr w3:=aRo (show Ext wr (wr.alloc (.cells #[(f 3),(f 4),(f 5)] 122)) from X_) x3
   cases hb:dC (f 3) (f 4) (f 5)
   ·go_wp2
    go_ret;exact ⟨by rw [eN,hb];simp,HX.trans y3⟩
   ·have HB:=hid hb
    clear hb;go_wp2;go_roundw
    case rel=>exact ⟨2,by omega,by go_num,HX.trans y3,fun h=>B0.out (by omega),fun _=>HB.out,fun h=>absurd h (by omega),fun h=>absurd h (by omega)⟩
    case measure=>simp [intOf]
  ·go_wp2_with fail
   refine r_ (dS _) fun w3 x3=>?_;have y3:Ext wr w3:=aRo (show Ext wr (wr.alloc (.cells #[(f 6),(f 7),(f 8)] 122)) from X_) x3
   cases hb:dC (f 6) (f 7) (f 8)
   ·go_wp2
    go_ret;exact ⟨by rw [eN,hb];simp,HX.trans y3⟩
   ·have HB:=hid hb
    clear hb;go_wp2;go_roundw
    case rel=>exact ⟨3,by omega,by go_num,HX.trans y3,fun h=>B0.out (by omega),fun h=>B1.out (by omega),fun _=>HB.out,fun h=>absurd h (by omega)⟩
    case measure=>simp [intOf]
  ·go_wp2_with fail
   refine r_ (dS _) fun w3 x3=>?_;have y3:Ext wr w3:=aRo (show Ext wr (wr.alloc (.cells #[(f 9),(f 10),(f 11)] 122)) from X_) x3
   cases hb:dC (f 9) (f 10) (f 11)
   ·go_wp2
    go_ret;exact ⟨by rw [eN,hb];simp,HX.trans y3⟩
   ·have HB:=hid hb
    clear hb;go_wp2;go_roundw
    case rel=>exact ⟨4,by omega,by go_num,HX.trans y3,fun h=>B0.out (by omega),fun h=>B1.out (by omega),fun h=>B2.out (by omega),fun _=>HB.out⟩
    case measure=>simp [intOf]
  ·go_wp2
   go_ret;exact ⟨by rw [eN,B0 (by omega),B1 (by omega),B2 (by omega),B3 (by omega)];rfl,HX⟩
theorem pV (f g:Nat->Int) (sh rt:Int) (n:Nat) (w:World):R_ 86 #[.agg #[(f 0),(f 1),(f 2),(f 3),(f 4),(f 5),(f 6),(f 7),(f 8),(f 9),(f 10),(f 11),(g 0),(g 1),(g 2),(g 3),(g 4),(g 5),(g 6),(g 7),(g 8),(g 9),(g 10),(g 11),sh,rt],(n:Nat)] w (.bool (aNs f g sh rt n)):=by
 have q0:=aRr w 127 [(f 0),(f 1),(f 2),(f 3),(f 4),(f 5),(f 6),(f 7),(f 8),(f 9),(f 10),(f 11),(g 0),(g 1),(g 2),(g 3),(g 4),(g 5),(g 6),(g 7),(g 8),(g 9),(g 10),(g 11),sh,rt];have R0:=hid q0;have X0:=hid (show Ext w (w.alloc (.cells #[(f 0),(f 1),(f 2),(f 3),(f 4),(f 5),(f 6),(f 7),(f 8),(f 9),(f 10),(f 11),(g 0),(g 1),(g 2),(g 3),(g 4),(g 5),(g 6),(g 7),(g 8),(g 9),(g 10),(g 11),sh,rt] 127)) from X_);clear q0
 obtain ⟨b1,q5⟩:∃b,rG f=b:=⟨_,rfl⟩
 obtain ⟨b2,q6⟩:∃b,rG g=b:=⟨_,rfl⟩
 obtain ⟨b3,q7⟩:∃b,uU rt=b:=⟨_,rfl⟩
 have C1:∀W:World,R_ 137 #[.agg f] W (.bool b1):=fun W=>q5▸iC f W;have C2:∀W:World,R_ 137 #[.agg g] W (.bool b2):=fun W=>q6▸iC g W;have C3:∀W:World,R_ 138 #[rt] W (.bool b3):=fun W=>q7▸aJ4 rt W;have H1:=hid C1;have H2:=hid C2;have H3:=hid C3;unfold aNs;rw [q5,q6,q7];clear q5 q6 q7 C1 C2 C3
 cases b1
 case false=>
  go_enter func86,ntmps86;go_wp2_with fail;refine r_ (H1 _) fun w1 x1=>?_;have X1:=hid (X0.trans x1);have R1:=hid (R0.ext x1);clear x1;go_wp2;go_ret;exact ⟨by simp [*],X1⟩
 case true=>
  cases b2
  case false=>
   go_enter func86,ntmps86;go_wp2_with fail;refine r_ (H1 _) fun w1 x1=>?_;have X1:=hid (X0.trans x1);have R1:=hid (R0.ext x1);clear x1;have h2:=R1.cell 12 rfl;have h3:=R1.cell 13 rfl;have h4:=R1.cell 14 rfl;have h5:=R1.cell 15 rfl;have h6:=R1.cell 16 rfl;have h7:=R1.cell 17 rfl;have h8:=R1.cell 18 rfl;have h9:=R1.cell 19 rfl;have q1:=R1.cell 20 rfl;have q2:=R1.cell 21 rfl;have q3:=R1.cell 22 rfl;have q4:=R1.cell 23 rfl;go_wp2_with fail;refine r_ (H2 _) fun w2 x2=>?_;have X2:=hid (X1.trans x2);have R2:=hid (R1.ext x2);clear x2;go_wp2;go_ret;exact ⟨by simp [*],X2⟩
  case true=>
   rcases aYv sh 0 with h0|h0
   ·have g0:decide (0<=sh)=false:=by simp;omega
    go_enter func86,ntmps86;go_wp2_with fail;refine r_ (H1 _) fun w1 x1=>?_;have X1:=hid (X0.trans x1);have R1:=hid (R0.ext x1);clear x1;have h2:=R1.cell 12 rfl;have h3:=R1.cell 13 rfl;have h4:=R1.cell 14 rfl;have h5:=R1.cell 15 rfl;have h6:=R1.cell 16 rfl;have h7:=R1.cell 17 rfl;have h8:=R1.cell 18 rfl;have h9:=R1.cell 19 rfl;have q1:=R1.cell 20 rfl;have q2:=R1.cell 21 rfl;have q3:=R1.cell 22 rfl;have q4:=R1.cell 23 rfl;go_wp2_with fail;refine r_ (H2 _) fun w2 x2=>?_;have X2:=hid (X1.trans x2);have R2:=hid (R1.ext x2);clear x2;have q8:=R2.cell 24 rfl;go_wp2;go_ret;exact ⟨by simp [*],X2⟩
   ·have g0:decide (0<=sh)=true:=by simp;omega
    rcases aYv sh n with h1|h1
    ·have g1:decide (sh<(n:Int))=true:=by simp;omega
     go_enter func86,ntmps86;go_wp2_with fail;refine r_ (H1 _) fun w1 x1=>?_;have X1:=hid (X0.trans x1);have R1:=hid (R0.ext x1);clear x1;have h2:=R1.cell 12 rfl;have h3:=R1.cell 13 rfl;have h4:=R1.cell 14 rfl;have h5:=R1.cell 15 rfl;have h6:=R1.cell 16 rfl;have h7:=R1.cell 17 rfl;have h8:=R1.cell 18 rfl;have h9:=R1.cell 19 rfl;have q1:=R1.cell 20 rfl;have q2:=R1.cell 21 rfl;have q3:=R1.cell 22 rfl;have q4:=R1.cell 23 rfl;go_wp2_with fail;refine r_ (H2 _) fun w2 x2=>?_;have X2:=hid (X1.trans x2);have R2:=hid (R1.ext x2);clear x2;have q8:=R2.cell 24 rfl;have q9:=R2.cell 25 rfl;go_wp2_with fail;refine r_ (H3 _) fun w3 x3=>?_;have X3:=hid (X2.trans x3);have R3:=hid (R2.ext x3);clear x3;go_wp2;go_ret;exact ⟨by simp [*],X3⟩
    ·have g1:decide (sh<(n:Int))=false:=by simp;omega
     go_enter func86,ntmps86;go_wp2_with fail;refine r_ (H1 _) fun w1 x1=>?_;have X1:=hid (X0.trans x1);have R1:=hid (R0.ext x1);clear x1;have h2:=R1.cell 12 rfl;have h3:=R1.cell 13 rfl;have h4:=R1.cell 14 rfl;have h5:=R1.cell 15 rfl;have h6:=R1.cell 16 rfl;have h7:=R1.cell 17 rfl;have h8:=R1.cell 18 rfl;have h9:=R1.cell 19 rfl;have q1:=R1.cell 20 rfl;have q2:=R1.cell 21 rfl;have q3:=R1.cell 22 rfl;have q4:=R1.cell 23 rfl;go_wp2_with fail;refine r_ (H2 _) fun w2 x2=>?_;have X2:=hid (X1.trans x2);have R2:=hid (R1.ext x2);clear x2;have q8:=R2.cell 24 rfl;go_wp2;go_ret;exact ⟨by simp [*],X2⟩
end Go.Proofs.YthgpegkmjeigmaaGreat
