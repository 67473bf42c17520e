/- Texts of this claim, one behind another; what its theorem does not use is left out: Ps9, Cp6, Cp7, SrfI, Ge18, Ge19, Sc6, Oc1, Oc2, Dr1, Dw1, Dw8, Fr1, Cpy, In0, Oc3, L05a, Sc4, TrS, Dw2, Dr2, Dw3, In1. -/
import Derived.Test.YtfjbiifebcfjfaaGreatP27W6
import Derived.Test.YtfjbiifebcfjfaaGreatP27W4
import Derived.Test.YtfjbiifebcfjfaaGreatP27W1
import Derived.Test.YtfjbiifebcfjfaaGreatP27W5
import Derived.Test.YtfjbiifebcfjfaaGreatP27W2
import Derived.Test.YtfjbiifebcfjfaaGreatP27W3
import Derived.Laws.CopyRow
import Derived.Laws.CopyOwn
import Derived.Lib.SliceRun
import Derived.Deep.MidRow
import Derived.Deep.CutBlock
set_option linter.unusedSimpArgs false
set_option linter.unusedVariables false
set_option maxRecDepth 100000
set_option maxHeartbeats 12800000
namespace Go.Proofs.YtfjbiifebcfjfaaGreat
open Go.RowKit
def CBk (b:Nat):Addr→Prop:=fun a=>a.block=b
@[go_sem] theorem CBk_1 (b o:Nat):CBk b ⟨b,o,none⟩:=rfl
theorem Ints.low {lo l2 hi:Nat} {w:World} {v:Value} {xs:List Int} (h:Ints lo hi w v xs) (hl:l2≤lo):Ints l2 hi w v xs:=by
 obtain ⟨a,cap,h1,h2,h3,h4⟩:=h;refine ⟨a,cap,h1,h2,h3,fun i x hx=>?_⟩;obtain ⟨g1,b,off,g2,g3,g4⟩:=h4 i x hx;exact ⟨g1,b,off,g2,by omega,g4⟩
theorem Prg.R.low {p:Prg} {lo l2 hi h2:Nat} {w:World} {v:Value} (h:p.R lo hi w v) (hl:l2≤lo) (hh:hi≤h2):p.R l2 h2 w v:=by
 obtain ⟨nu,au,rfl,⟨a,c,e1,e2,e3,e4⟩,⟨a',c',f1,f2,f3,f4⟩⟩:=h;refine ⟨nu,au,rfl,⟨a,c,e1,e2,e3,fun i x hx=>?_⟩,⟨a',c',f1,f2,f3,fun i x hx=>?_⟩⟩
 ·obtain ⟨g1,b,off,u,g2,g3,g4,g5,g6,g7,g8,g9⟩:=e4 i x hx
  obtain ⟨ia,ic,i1,i2,i3,i4⟩:=g9
  exact ⟨g1,b,off,u,g2,by omega,by omega,g5,g6,g7,g8,ia,ic,i1,i2,i3,fun j y hy=>by
   obtain ⟨j1,jb,jo,j2,j3,j4,j5⟩:=i4 j y hy
   exact ⟨j1,jb,jo,j2,by omega,by omega,j5⟩⟩
 ·obtain ⟨g1,b,off,g2,g3,g4,g5,g6⟩:=f4 i x hx
  exact ⟨g1,b,off,g2,by omega,by omega,g5,g6⟩
theorem Same.trans {lo hi:Nat} {a b c:World} (h:Same lo hi a b) (k:Same lo hi b c):Same lo hi a c:=fun i h1 h2=>(k i h1 h2).trans (h i h1 h2)
theorem OwnG.row {α : Type} {cs : α→List Value} {lo:Nat} {e:TypeId} {sz:Nat} {w:World} {v:Value} {xs:List α} (h:OwnG cs lo e sz w v xs):∀k,v.ownBlock=some k→lo≤k∧∃c,w.heap[k]?=some (.cells c e (0,0)):=by
 intro k hk
 rcases h.2 with ⟨rfl,h4⟩|⟨g,cap,cur,rfl,hb,hg,_⟩
 ·cases hk
 ·simp only [Value.ownBlock,Option.some.injEq] at hk
  subst hk;exact ⟨hb,cur,hg⟩
theorem OwnNds.grownO {lo:Nat} {X:Nat→Prop} {w w':World} {v:Value} {xs:List Nd} {row:Option Nat} {e:TypeId} (h:OwnNds lo X w v xs) (hg:w.grownBy w' row) (h1:243≠e) (h2:3≠e) (hr:∀k,row=some k→∃c,w.heap[k]?=some (.cells c e (0,0))):OwnNds lo X w' v xs:=by
 obtain ⟨ps,h0,h3,h4⟩:=h;refine ⟨ps,h0,OwnG.grownI h3 hg h1 hr,fun p hp=>⟨(h4 p hp).1.grown hg fun k hk e=>?_,(h4 p hp).2⟩⟩;obtain ⟨c,hc⟩:=(h4 p hp).1.block hk;obtain ⟨c',hc'⟩:=hr k e.symm;rw [hc] at hc';simp only [Option.some.injEq,Obj.cells.injEq] at hc';exact h2 hc'.2.1
theorem Pst.setGs {lo B:Nat} {X:Nat→Prop} {tk:List Tok} {gs gs':List Asg} {w w':World} {k:Nat} {ns:List Nd} {bad:Int} {tv nv gv gv':Value} (h:Pst lo X B tk gs w k ns bad tv nv gv) (hg:w.grownBy w' gv.ownBlock) (hn:OwnAsgs lo w' gv' gs'):Pst lo X B tk gs' (w'.setCell ⟨B,3,none⟩ gv') k ns bad tv nv gv':=by
 have hr:=fun k hk=>(OwnG.row h.asgs k hk).2
 have hb:=h.box.grown hg (fun e=>by
  obtain ⟨c,hc⟩:=hr B e.symm
  exact h.notBox (by decide) c hc)
 exact ⟨hb.set 3 _,h.low,OwnG.set (OwnG.grownI h.toks hg (by decide) hr) hb (by decide) 3 _,OwnNds.set (h.nds.grownO hg (by decide) (by decide) hr) hb (by decide) (by decide) 3 _,OwnG.set hn hb (by decide) 3 _,h.ends,h.here,h.len,h.good,h.b64,fun b hb=>by rw [World.size_setCell];exact Nat.lt_of_lt_of_le (h.xlt b hb) hg.size⟩
theorem sParse_any (s:ByteArray) (w:World) (hs:s.size≤maxLen):Calls Tryz.prog 202 #[.string s] w (ParseR s w):=by
 have hB:=Blk.new w 132 [.slice none 0 0,.slice none 0 0];have x1:Ext w (w.alloc (.cells #[.slice none 0 0,.slice none 0 0] 132)):=X_
 have hA:w.heap.size<(w.alloc (.cells #[.slice none 0 0,.slice none 0 0] 132)).heap.size:=by rw [World.size_alloc];omega
 have rA:=hid hB;have HX1:=hid x1;have z1:(w.alloc (.cells #[.slice none 0 0,.slice none 0 0] 132)).heap.size=w.heap.size+1:=World.size_alloc _ _;clear hB x1;go_enter Tryz.func202,Tryz.ntmps202;go_wp2_with fail;refine (sTokenize_any s _ hs).mono ?_;rintro e w2 ⟨tv,n,rfl,x2,hcu,hn⟩;have HX2:=hid x2;have HCU:=hid hcu;have HN:=hid hn;have b2:=(x2.block hA).trans rA.out;have q0:=Blk.cell (show Blk w2 w.heap.size 132 [.slice none 0 0,.slice none 0 0] from b2) 0 rfl;have q1:=Blk.cell (show Blk w2 w.heap.size 132 [.slice none 0 0,.slice none 0 0] from b2) 1 rfl;have q0f:=Blk.free (show Blk w2 w.heap.size 132 [.slice none 0 0,.slice none 0 0] from b2) 0;have q1f:=Blk.free (show Blk w2 w.heap.size 132 [.slice none 0 0,.slice none 0 0] from b2) 1;have zw2:=x2.size;clear x2 hcu hn b2
 by_cases hn0:0≤n
 ·have EW:Ext w w2:=HX1.out.trans HX2.out
  go_wp2;refine bodyPost_ret (v:=.tuple #[.agg #[.slice none 0 0,.slice none 0 0],.int .i64 n]) (by simp [results,Tryz.results202,go_sem, *]) rfl ?_;exact ⟨⟨[],[]⟩,_,n,rfl,Prg.rNone _ _ _,Prg.bd_none,Prg.small_none,S_,fun e=>by have:=HCU.out e;omega⟩
 ·obtain ⟨hn1,tk,OT,HTK,hcut⟩:=HN.out.resolve_left hn0
  subst hn1
  have hlen0:0<tk.length:=by
   obtain ⟨ts,n,rfl,_⟩:=HTK;simp
  obtain ⟨g,cap,rfl,g1,g2,g3,g4,_,_⟩:=OwnG.at OT (fun _=>rfl) (List.getElem?_eq_getElem hlen0);have y2:Ext w2 (w2.alloc (.cells #[.slice (some ⟨g,0,none⟩) tk.length cap,.int .i64 0,.slice none 0 0,.slice none 0 0,.int .i64 (-1)] 334)):=X_
  have P0:Pst (w.alloc (.cells #[.slice none 0 0,.slice none 0 0] 132)).heap.size (fun _=>False) w2.heap.size tk [] (w2.alloc (.cells #[.slice (some ⟨g,0,none⟩) tk.length cap,.int .i64 0,.slice none 0 0,.slice none 0 0,.int .i64 (-1)] 334)) 0 [] (-1) (.slice (some ⟨g,0,none⟩) tk.length cap) (.slice none 0 0) (.slice none 0 0):=
   ⟨Blk.new w2 334 [.slice (some ⟨g,0,none⟩) tk.length cap,.int .i64 0,.slice none 0 0,.slice none 0 0,.int .i64 (-1)],zw2,OwnG.ext OT y2,OwnNds.nil _ _ _,OwnG.nil _ _ _ _ _,HTK,hlen0,by simp,(fun _ h=>nomatch h),⟨by decide,by decide⟩,(fun _ h=>h.elim)⟩
  have HP0:=hid P0;have HX3:=hid (HX2.out.trans y2);have HCUT:=hid hcut;clear P0 y2 hcut HCU HN OT q0 q1 q0f q1f;go_wp2_with fail
  go_loopw [8] (fun _ wr=>∃(q:Nat) (ns:List Nd) (gs:List Asg) (nv gv:Value),Pst (w.alloc (.cells #[.slice none 0 0,.slice none 0 0] 132)).heap.size (fun _=>False) w2.heap.size tk gs wr q ns (-1) (.slice (some ⟨g,0,none⟩) tk.length cap) nv gv∧Ext (w.alloc (.cells #[.slice none 0 0,.slice none 0 0] 132)) wr∧(∀x∈gs,AsgG x)∧gs.length≤q∧(s=cuS→CuP q ns gs)) (fun _ wr=>msr w2.heap.size tk.length wr)
  case atStart=>exact ⟨0,[],[],_,_,HP0.out,HX3.out,(fun _ h=>nomatch h),Nat.le_refl _,fun _=>.inl ⟨rfl,rfl,rfl⟩⟩
  case round=>
   obtain ⟨q,ns,gs,nv,gv,P,EX,hgs',hgl,hcp⟩:=hrel;have kb:=P.k3000;obtain ⟨t,ht,tk64,tts,tn64,o1,o2,hkl⟩:=P.ends.at P.here;obtain ⟨g',cap',etv,g1',g2',_,_,_,hc⟩:=OwnG.at P.toks (fun _=>rfl) ht;simp only [Value.slice.injEq,Option.some.injEq,Addr.mk.injEq] at etv;obtain ⟨⟨rfl,_⟩,_,rfl⟩:=etv;have hk:=P.here;obtain ⟨c0,c1⟩:=P.box.q2;have c4:=P.box.cell 4 rfl;have zb:=P.box.lt;have d0:=hc 0 (by decide);have d1:=hc 1 (by decide);have d2:=hc 2 (by decide);have d3:=hc 3 (by decide);simp only [Tok.cs,Nat.add_zero,List.getElem?_cons_zero,List.getElem?_cons_succ] at d0 d1 d2 d3;have HP:=hid P;have HE:=hid EX;have hgs:=hid hgs';have HT:=hid ht;have HKL:=hid hkl;have HC:=hid hcp
   have hcuT:s=cuS→cuK[q]?=some t:=fun e=>by rw [←ht,HCUT.out e];rfl
   have HCT:=hid hcuT
   have gne:g≠wr.heap.size:=by omega
   have bne:w2.heap.size≠wr.heap.size:=by omega
   clear P EX hgs' ht hkl hcp hc hcuT HP0 HX3
   by_cases hk0:t.kind=0
   ·have hdone:s=cuS→(⟨ns,gs⟩:Prg)=cuP:=fun e=>(HC.out e).done (HCT.out e) hk0
    go_wp2_with fail;refine wp_region_stagesS [([0,1,2,3,4,5,6,7,8,9,10,11,12,13,14,15,16,17],18)] 99 (fun w'=>∃d,w'=lowx (wr.heap.size) (wr.heap.size) _ d) (by kernel_rfl) (by kernel_rfl) ⟨_,lowx_of (fun _ _ _=>rfl)⟩ ?_;refine sc_ fun K hK=>?_;go_wp2_with fail;go_wp2_with fail;refine hK _ _ (.inr ⟨_,lowx_of (fun b hb _=>Ext.block (show Ext wr _ from X_) hb)⟩) ?_;clear hK K;refine wpStagesS_nil ?_;clear c0 c1 c4 d0 d1 d2 d3;have c0:=HP.out.box.cell 0 rfl;have c2:=HP.out.box.cell 2 rfl;have c3:=HP.out.box.cell 3 rfl;have c4:=HP.out.box.cell 4 rfl;have zB:=HP.out.box.lt;have hlo:=HP.out.low;have r0:=(HE.out.block hA).trans rA.out;have q0:=Blk.cell (show Blk wr w.heap.size 132 [.slice none 0 0,.slice none 0 0] from r0) 0 rfl;have q0f:=Blk.free (show Blk wr w.heap.size 132 [.slice none 0 0,.slice none 0 0] from r0) 0;have q1:=Blk.cell (show Blk wr w.heap.size 132 [.slice none 0 0,.slice none 0 0] from r0) 1 rfl;have q1f:=Blk.free (show Blk wr w.heap.size 132 [.slice none 0 0,.slice none 0 0] from r0) 1;have EW:Ext w wr:=HX1.out.trans HE.out;have R0:=hid (HP.out.prog (Nat.le_refl _) hgs.out);have G1:=hid (HP.out.bd hgs.out);have G2:=hid (HP.out.small (by omega));obtain ⟨na,nc,rfl,-⟩:=HP.out.nds.form;obtain ⟨ga,gc,rfl,-⟩:=OwnG.form HP.out.asgs;clear r0;go_wp2;refine bodyPost_ret (v:=.tuple #[.agg #[.slice na ns.length nc,.slice ga gs.length gc],.int .i64 (-1)]) (by simp [results,Tryz.results202,go_sem, *]) rfl ?_;refine ⟨⟨ns,gs⟩,_,-1,rfl,?_,G1.out,G2.out,S_,hdone⟩;have R1:=R0.out.same ((Same.setLow _ (p:=⟨w.heap.size,0,none⟩) (by simp only;omega) (.slice na ns.length nc)).trans (Same.setLow _ (p:=⟨w.heap.size,1,none⟩) (by simp only;omega) (.slice ga gs.length gc)));exact R1.low (by omega) (by simp)
   ·have hkk:=HKL.out hk0
    go_wp2_with fail;refine wp_region_stagesS [([0,1,2,3,4,5,6,7,8,9,10,11,12,13,14,15,16,17],18)] 99 (fun w'=>∃d,w'=lowx (wr.heap.size) (wr.heap.size) _ d) (by kernel_rfl) (by kernel_rfl) ⟨_,lowx_of (fun _ _ _=>rfl)⟩ ?_;refine sc_ fun K hK=>?_;go_wp2_with fail;go_wp2_with fail;refine hK _ _ (.inr ⟨_,lowx_of (fun b hb _=>Ext.block (show Ext wr _ from X_) hb)⟩) ?_;clear hK K;refine wpStagesS_nil ?_;go_wp2_with fail;have zB6:=HP.out.box.lt;refine wp_region_stagesS [([0,1,2,3,4,5,6,7,8,9],10),([],11)] 99 (fun w'=>∃d,w'=lowx (wr.heap.size) (wr.heap.size) _ d) (by kernel_rfl) (by kernel_rfl) ⟨_,lowx_of (fun _ _ _=>rfl)⟩ ?_;refine sc_ fun K hK=>?_;go_wp2_with fail;go_wp2_with fail;refine hK _ _ (.inr ⟨_,lowx_of (fun b hb _=>Ext.block (show Ext wr _ from X_) hb)⟩) ?_;clear hK K;refine sc_ fun K hK=>?_;go_wp2_with fail;go_wp2_with fail;refine hK _ _ (.inr ⟨_,lowx_of (fun b hb _=>Ext.block (show Ext wr _ from S_) hb)⟩) ?_;clear hK K;refine wpStagesS_nil ?_;have y1:Ext wr ((wr.drew.alloc (.cells #[.int .i64 t.kind,.string t.text,.int .i64 t.num,.int .i64 t.off] 336)).drew):=S_;have T1:Blk ((wr.drew.alloc (.cells #[.int .i64 t.kind,.string t.text,.int .i64 t.num,.int .i64 t.off] 336)).drew) wr.heap.size 336 [.int .i64 t.kind,.string t.text,.int .i64 t.num,.int .i64 t.off]:=(Blk.new wr.drew 336 [.int .i64 t.kind,.string t.text,.int .i64 t.num,.int .i64 t.off]).ext (show Ext (wr.drew.alloc (.cells #[.int .i64 t.kind,.string t.text,.int .i64 t.num,.int .i64 t.off] 336)) _ from S_);have HY1:=hid y1;have HP1:=hid (HP.out.ext y1);have HE1:=hid (Ext.trans HE.out y1);have HT1:=hid T1;clear y1 T1 c0 c1 c4 d0 d1 d2 d3
    by_cases hk2:t.kind=2
    ·have c1:=HP.out.box.cell 1 rfl
     have f1:=HP.out.box.free 1;have e3:Ext (wr.setCell ⟨w2.heap.size,1,none⟩ (.int .i64 ((q:Int)+1))) (((wr.setCell ⟨w2.heap.size,1,none⟩ (.int .i64 ((q:Int)+1))).alloc (.cells #[.int .i64 2,.string t.text,.int .i64 t.num,.int .i64 t.off] 336)).drew.drew):=X_;have b3:=(Blk.new (wr.setCell ⟨w2.heap.size,1,none⟩ (.int .i64 ((q:Int)+1))) 336 [.int .i64 2,.string t.text,.int .i64 t.num,.int .i64 t.off]).ext (show Ext ((wr.setCell ⟨w2.heap.size,1,none⟩ (.int .i64 ((q:Int)+1))).alloc (.cells #[.int .i64 2,.string t.text,.int .i64 t.num,.int .i64 t.off] 336)) (((wr.setCell ⟨w2.heap.size,1,none⟩ (.int .i64 ((q:Int)+1))).alloc (.cells #[.int .i64 2,.string t.text,.int .i64 t.num,.int .i64 t.off] 336)).drew.drew) from X_);rw [World.size_setCell] at b3;have HP3:=hid ((HP.out.step hkk).ext e3);have HE3:=hid ((Ext.setCell HE.out (p:=⟨w2.heap.size,1,none⟩) HP.out.low (.int .i64 ((q:Int)+1))).trans e3);have HT3:=hid b3;have zB0:=HP.out.box.lt;obtain ⟨t3,ht3,_,_,_,_,_,hkl3⟩:=HP3.out.ends.at HP3.out.here;have HTk3:=hid ht3;clear e3 b3 ht3 HT1 HP1 HE1 HY1;go_wp2_with fail;refine (sExpect_any HP3.out HTk3.out ⟨#[61]⟩ (by decide)).mono ?_;rintro e w5 ⟨b5,q5,z5,rfl,P5,K5,hb1,hb2,hb3⟩;have HP5:=hid P5;have HE5:=hid (K5.up HE3.out (Nat.le_refl _));have HT5:=hid (K5.blk HT3.out (by omega) (by decide));have hB3:=hid hb3;clear P5 K5 hb3 c1 f1 HP3 HE3 HT3
     cases b5
     ·have hz5:=hb2 rfl
      have hno:s=cuS→False:=fun e=>by
       obtain ⟨e1,_⟩:=(HC.out e).name (HCT.out e) hk0;have:=HTk3.out;rw [e1,HCUT.out e] at this;exact absurd (hB3.out (cu_eq this)) (by decide)
      clear hb1 hb2;have c0:=HP5.out.box.cell 0 rfl;have c4:=HP5.out.box.cell 4 rfl;have zB:=HP5.out.box.lt;have hlo:=HP5.out.low;have r0:=(HE5.out.block hA).trans rA.out;have q0:=Blk.cell (show Blk w5 w.heap.size 132 [.slice none 0 0,.slice none 0 0] from r0) 0 rfl;have q0f:=Blk.free (show Blk w5 w.heap.size 132 [.slice none 0 0,.slice none 0 0] from r0) 0;have q1:=Blk.cell (show Blk w5 w.heap.size 132 [.slice none 0 0,.slice none 0 0] from r0) 1 rfl;have q1f:=Blk.free (show Blk w5 w.heap.size 132 [.slice none 0 0,.slice none 0 0] from r0) 1;have EW:Ext w w5:=HX1.out.trans HE5.out;clear r0;go_wp2_with fail;refine wp_region_stagesS [([0,1,2,3,4],5),([],6)] 6 (fun w'=>∃d,w'=lowc (CBk w2.heap.size) _ d) (by kernel_rfl) (by kernel_rfl) (SC.drew _ _) ?_;refine sc_ fun K hK=>?_;go_wp2_with fail;refine hK _ _ (.inr (SC.blocks fun a ha=>?_)) ?_
      ·unfold CBk at ha
       exact (Below.heap_setCell _ _ _ _ (by rw [ha];simp only;omega)).trans (Below.heap_setCell _ _ _ _ (by rw [ha];simp only;omega))
      clear hK K;refine sc_ fun K hK=>?_;go_wp2_with fail;refine hK _ _ (.inl trivial) ?_;clear hK K;refine wpStagesS_nil ?_;go_wp2;refine bodyPost_ret (v:=.tuple #[.agg #[.slice none 0 0,.slice none 0 0],.int .i64 z5]) (by simp [results,Tryz.results202,go_sem, *]) rfl ?_;exact ⟨⟨[],[]⟩,_,z5,rfl,Prg.rNone _ _ _,Prg.bd_none,Prg.small_none,S_,fun e=>(hno e).elim⟩
     ·obtain ⟨rfl,rfl⟩:=hb1 rfl
      clear hb1 hb2 hB3;go_wp2_with fail;refine (sExpression_any HP5.out (by decide) (by omega) 1 (by omega) (by omega)).mono ?_;rintro e w6 ⟨r,q6,ns6,z6,nv6,rfl,hr,P6,K6,hz6,hx6⟩;have HP6:=hid P6;have HE6:=hid (K6.up HE5.out (Nat.le_refl _));have HT6:=hid (K6.blk HT5.out (by omega) (by decide));have HX6:=hid hx6;have c4:=P6.box.cell 4 rfl;have k6:=P6.k3000
      have hcu6:s=cuS→z6 = -1∧q6=3∧ns6=[cuN]∧r=0∧gs=[]:=fun e=>by
       obtain ⟨e1,e2,e3,_⟩:=(HC.out e).name (HCT.out e) hk0;obtain ⟨i1,i2,i3,i4⟩:=HX6.out ⟨#[117]⟩ (by rw [HCUT.out e,e1,e2];exact cu_lone);exact ⟨i1,by omega,by rw [i3,e2];rfl,by rw [i4,e2];rfl,e3⟩
      have HCU6:=hid hcu6;clear P6 K6 hx6 hcu6 HP5 HE5 HT5
      by_cases hz60:0≤z6
      ·have hno:s=cuS→False:=fun e=>by
        have:=(HCU6.out e).1;omega
       have c0:=HP6.out.box.cell 0 rfl;have c4:=HP6.out.box.cell 4 rfl;have zB:=HP6.out.box.lt;have hlo:=HP6.out.low;have r0:=(HE6.out.block hA).trans rA.out;have q0:=Blk.cell (show Blk w6 w.heap.size 132 [.slice none 0 0,.slice none 0 0] from r0) 0 rfl;have q0f:=Blk.free (show Blk w6 w.heap.size 132 [.slice none 0 0,.slice none 0 0] from r0) 0;have q1:=Blk.cell (show Blk w6 w.heap.size 132 [.slice none 0 0,.slice none 0 0] from r0) 1 rfl;have q1f:=Blk.free (show Blk w6 w.heap.size 132 [.slice none 0 0,.slice none 0 0] from r0) 1;have EW:Ext w w6:=HX1.out.trans HE6.out;clear r0;go_wp2_with fail;refine wp_region_stagesS [([0,1,2,3,4],5),([],6)] 6 (fun w'=>∃d,w'=lowc (CBk w2.heap.size) _ d) (by kernel_rfl) (by kernel_rfl) (SC.drew _ _) ?_;refine sc_ fun K hK=>?_;go_wp2_with fail;refine hK _ _ (.inr (SC.blocks fun a ha=>?_)) ?_
       ·unfold CBk at ha
        exact (Below.heap_setCell _ _ _ _ (by rw [ha];simp only;omega)).trans (Below.heap_setCell _ _ _ _ (by rw [ha];simp only;omega))
       clear hK K;refine sc_ fun K hK=>?_;go_wp2_with fail;refine hK _ _ (.inl trivial) ?_;clear hK K;refine wpStagesS_nil ?_;go_wp2;refine bodyPost_ret (v:=.tuple #[.agg #[.slice none 0 0,.slice none 0 0],.int .i64 z6]) (by simp [results,Tryz.results202,go_sem, *]) rfl ?_;exact ⟨⟨[],[]⟩,_,z6,rfl,Prg.rNone _ _ _,Prg.bd_none,Prg.small_none,S_,fun e=>(hno e).elim⟩
      ·obtain ⟨rfl,hq6⟩:=hz6.resolve_left hz60
       obtain ⟨t6,ht6,_,_,_,_,_,_⟩:=HP6.out.ends.at HP6.out.here;have HTk6:=hid ht6;clear ht6;go_wp2_with fail;refine (sExpect_any HP6.out HTk6.out ⟨#[59]⟩ (by decide)).mono ?_;rintro e w7 ⟨b7,q7,z7,rfl,P7,K7,hb1,hb2,hb3⟩;have HP7:=hid P7;have HE7:=hid (K7.up HE6.out (Nat.le_refl _));have HT7:=hid (K7.blk HT6.out (by omega) (by decide));have hB3:=hid hb3;clear P7 K7 hb3 c4 HP6 HE6 HT6
       cases b7
       ·have hz7:=hb2 rfl
        have hno:s=cuS→False:=fun e=>by
         obtain ⟨_,e1,_⟩:=HCU6.out e;have:=HTk6.out;rw [e1,HCUT.out e] at this;exact absurd (hB3.out (cu_semi this)) (by decide)
        clear hb1 hb2;have c0:=HP7.out.box.cell 0 rfl;have c4:=HP7.out.box.cell 4 rfl;have zB:=HP7.out.box.lt;have hlo:=HP7.out.low;have r0:=(HE7.out.block hA).trans rA.out;have q0:=Blk.cell (show Blk w7 w.heap.size 132 [.slice none 0 0,.slice none 0 0] from r0) 0 rfl;have q0f:=Blk.free (show Blk w7 w.heap.size 132 [.slice none 0 0,.slice none 0 0] from r0) 0;have q1:=Blk.cell (show Blk w7 w.heap.size 132 [.slice none 0 0,.slice none 0 0] from r0) 1 rfl;have q1f:=Blk.free (show Blk w7 w.heap.size 132 [.slice none 0 0,.slice none 0 0] from r0) 1;have EW:Ext w w7:=HX1.out.trans HE7.out;clear r0;go_wp2_with fail;refine wp_region_stagesS [([0,1,2,3,4],5),([],6)] 6 (fun w'=>∃d,w'=lowc (CBk w2.heap.size) _ d) (by kernel_rfl) (by kernel_rfl) (SC.drew _ _) ?_;refine sc_ fun K hK=>?_;go_wp2_with fail;refine hK _ _ (.inr (SC.blocks fun a ha=>?_)) ?_
        ·unfold CBk at ha
         exact (Below.heap_setCell _ _ _ _ (by rw [ha];simp only;omega)).trans (Below.heap_setCell _ _ _ _ (by rw [ha];simp only;omega))
        clear hK K;refine sc_ fun K hK=>?_;go_wp2_with fail;refine hK _ _ (.inl trivial) ?_;clear hK K;refine wpStagesS_nil ?_;go_wp2;refine bodyPost_ret (v:=.tuple #[.agg #[.slice none 0 0,.slice none 0 0],.int .i64 z7]) (by simp [results,Tryz.results202,go_sem, *]) rfl ?_;exact ⟨⟨[],[]⟩,_,z7,rfl,Prg.rNone _ _ _,Prg.bd_none,Prg.small_none,S_,fun e=>(hno e).elim⟩
       ·obtain ⟨rfl,rfl⟩:=hb1 rfl
        clear hb1 hb2 hB3;have c3:=HP7.out.box.cell 3 rfl;have c0:=HP7.out.box.cell 0 rfl;have f3:=HP7.out.box.free 3;have t1:=HT7.out.cell 1 rfl;have zT:=HT7.out.lt;have zB7:=HP7.out.box.lt;have hlo:=HP7.out.low;obtain ⟨ga,gc,rfl,-⟩:=OwnG.form HP7.out.asgs;go_wp2_with fail;refine wp_region_phases [([0,1,2,3,4,5,6,7,8,9],10),([],11)] [([],12),([],13),([],14),([],15)] 12 (fun w'=>∃d,w'=lowc (C2b w2.heap.size wr.heap.size) _ d) (by kernel_rfl) (by kernel_rfl) (SC.drew _ _) ?_;refine sc_ fun K hK=>?_;go_wp2_with fail;have y8:Ext w7 ((w7.alloc (.cells #[.string t.text,.int .i64 (r:Nat)] 194)).drew):=S_;have B8:=(Blk.new w7 194 [.string t.text,.int .i64 (r:Nat)]).ext (show Ext (w7.alloc (.cells #[.string t.text,.int .i64 (r:Nat)] 194)) ((w7.alloc (.cells #[.string t.text,.int .i64 (r:Nat)] 194)).drew) from S_);refine hK _ _ (.inr (SC.blocks fun a ha=>?_)) ?_
        ·rcases ha with ha|ha
         ·exact y8.block (by rw [ha];omega)
         ·exact y8.block (by rw [ha];omega)
        clear hK K;have HB8:=hid B8;have HP8:=hid (HP7.out.ext y8);have HE8:=hid (HE7.out.trans y8);have HY8:=hid y8;have z8:=y8.size;clear y8 B8;refine sc_ fun K hK=>?_;refine wpList_append_asg _ rfl _ _ rfl (w.alloc (.cells #[.slice none 0 0,.slice none 0 0] 132)).heap.size (.slice ga gs.length gc) gs rfl HP8.out.asgs ⟨t.text,(r:Nat)⟩ w7.heap.size rfl ⟨HB8.out.cell 0 rfl,HB8.out.cell 1 rfl⟩ (by omega) (by omega) ?_;intro gv2 w9 hown hg;have hrow:=OwnG.row HP8.out.asgs
        have kB:w9.heap[w2.heap.size]?=w7.heap[w2.heap.size]?:=(hg.block _ (by omega) (fun e=>by
         obtain ⟨_,c,hc⟩:=hrow _ e.symm
         exact HP8.out.notBox (by decide) c hc)).trans (HY8.out.block zB7)
        have kT:w9.heap[wr.heap.size]?=w7.heap[wr.heap.size]?:=(hg.block _ (by omega) (fun e=>by
         obtain ⟨_,c,hc⟩:=hrow _ e.symm;have h1:=HT7.out.ext HY8.out;unfold Blk at h1;rw [h1] at hc;simp only [Option.some.injEq,Obj.cells.injEq] at hc
         exact absurd hc.2.1 (by decide))).trans (HY8.out.block zT)
        have HP9:=hid (HP8.out.setGs hg hown);have HE9:=hid (Ext.setCell (Ext.grown HE8.out hg (fun k hk=>(hrow k hk).1)) (p:=⟨w2.heap.size,3,none⟩) HP8.out.low gv2);have B9:=HP7.out.box.of kB;have e3:=B9.cell 3 rfl;have e0:=B9.cell 0 rfl;have g3:=B9.free 3;go_wp2_with fail;refine hK _ _ (.inr (SC.blocks fun a ha=>?_)) ?_
        ·rcases ha with ha|ha
         ·rw [ha];exact kB
         ·rw [ha];exact kT
        clear hK K;obtain ⟨ga2,gc2,hv,_⟩:=OwnG.form hown
        have hll:(gs++[(⟨t.text,(r:Nat)⟩:Asg)]).length=gs.length+1:=by simp
        rw [hll] at hv;subst hv;clear hown hg hrow kB kT c3 c0 f3 t1 B9;refine wpPhase_end (wpPhase_free ?_);refine sc_ fun K hK=>?_;go_wp2_with fail;go_wp2_with fail;refine hK _ _ (.inr (trivial)) ?_;clear hK K;refine sc_ fun K hK=>?_;go_wp2_with fail;go_wp2_with fail;refine hK _ _ (.inr (trivial)) ?_;clear hK K;refine sc_ fun K hK=>?_;go_wp2_with fail;go_wp2_with fail;refine hK _ _ (.inr (trivial)) ?_;clear hK K;refine sc_ fun K hK=>?_;go_wp2_with fail;go_wp2_with fail;refine hK _ _ (.inr (trivial)) ?_;clear hK K;refine wpStagesS_nil ?_;go_wp2;go_roundw
        case rel=>exact ⟨q6+1,ns6,gs++[(⟨t.text,(r:Nat)⟩:Asg)],_,_,HP9.out,HE9.out,(fun y hy=>by
         rcases List.mem_append.1 hy with hy|hy
         ·exact hgs.out y hy
         ·simp only [List.mem_cons,List.not_mem_nil,or_false] at hy
          subst hy
          exact ⟨⟨by show (-9223372036854775808:Int)≤((r:Nat):Int);omega,by show ((r:Nat):Int)≤9223372036854775807;omega⟩,tts⟩),by omega,fun e=>by
         obtain ⟨_,i1,i2,i3,i4⟩:=HCU6.out e;obtain ⟨_,_,_,_,i5⟩:=(HC.out e).name (HCT.out e) hk0
         exact .inr ⟨by omega,i2,by rw [i3,i4,i5];rfl⟩⟩
        case measure=>
         rw [HP9.out.msr,HP.out.msr,if_neg (by omega),if_neg (by omega)];have:=HP9.out.here;omega
    ·go_wp2_with fail
     refine (sFail_any HP1.out).mono ?_;rintro e w3 ⟨z3,rfl,hz,P3,K3⟩;have HP3:=hid P3;have HE3:=hid (K3.up HE1.out (Nat.le_refl _));have hno:s=cuS→False:=fun e=>hk2 ((HC.out e).name (HCT.out e) hk0).2.2.2.1;clear P3 K3;have c0:=HP3.out.box.cell 0 rfl;have c4:=HP3.out.box.cell 4 rfl;have zB:=HP3.out.box.lt;have hlo:=HP3.out.low;have r0:=(HE3.out.block hA).trans rA.out;have q0:=Blk.cell (show Blk w3 w.heap.size 132 [.slice none 0 0,.slice none 0 0] from r0) 0 rfl;have q0f:=Blk.free (show Blk w3 w.heap.size 132 [.slice none 0 0,.slice none 0 0] from r0) 0;have q1:=Blk.cell (show Blk w3 w.heap.size 132 [.slice none 0 0,.slice none 0 0] from r0) 1 rfl;have q1f:=Blk.free (show Blk w3 w.heap.size 132 [.slice none 0 0,.slice none 0 0] from r0) 1;have EW:Ext w w3:=HX1.out.trans HE3.out;clear r0;go_wp2_with fail;refine wp_region_stagesS [([0,1,2,3,4],5),([],6)] 6 (fun w'=>∃d,w'=lowc (CBk w2.heap.size) _ d) (by kernel_rfl) (by kernel_rfl) (SC.drew _ _) ?_;refine sc_ fun K hK=>?_;go_wp2_with fail;refine hK _ _ (.inr (SC.blocks fun a ha=>?_)) ?_
     ·unfold CBk at ha
      exact (Below.heap_setCell _ _ _ _ (by rw [ha];simp only;omega)).trans (Below.heap_setCell _ _ _ _ (by rw [ha];simp only;omega))
     clear hK K;refine sc_ fun K hK=>?_;go_wp2_with fail;refine hK _ _ (.inl trivial) ?_;clear hK K;refine wpStagesS_nil ?_;go_wp2;refine bodyPost_ret (v:=.tuple #[.agg #[.slice none 0 0,.slice none 0 0],.int .i64 z3]) (by simp [results,Tryz.results202,go_sem, *]) rfl ?_;exact ⟨⟨[],[]⟩,_,z3,rfl,Prg.rNone _ _ _,Prg.bd_none,Prg.small_none,S_,fun e=>(hno e).elim⟩
section
open Go.RowKit Go.Maps Go.WideMaps
theorem i64L {z:Int} (h:0≤z∧z≤9):I64 z:=⟨by omega,by omega⟩
theorem insOf_64 {p:Prg} (h:p.K) (hgl:p.gs.length≤1048576) {j:Nat} {x:Nd} (hx:p.ns[j]?=some x) (hn:I64 x.num):I64 (insOf p x).op∧I64 (insOf p x).num:=by
 have hix:((ixOf p x.name:Nat):Int)≤1048576:=by
  unfold ixOf
  cases e:frst p.gs p.gs.length x.name.toList with
  | none=>decide
  | some i=>
   have:=(frst_some e).1
   show ((i:Nat):Int)≤1048576
   omega
 rcases nodeF_op (h.v.nd j x hx).1 with ⟨o,h2,h3⟩|⟨o,h3⟩|⟨o,h3⟩|⟨o,o',h3⟩|⟨o,h3⟩
 ·unfold insOf;rw [if_pos o];exact ⟨i64L (z:=1) ⟨by decide,by decide⟩,hn⟩
 ·unfold insOf
  rw [if_neg (by omega),if_neg (by omega),if_pos o]
  split
  ·exact ⟨i64L (z:=2) ⟨by decide,by decide⟩,i64L (z:=0) ⟨by decide,by decide⟩⟩
  ·exact ⟨i64L (z:=3) ⟨by decide,by decide⟩,⟨by show (-9223372036854775808:Int)≤((ixOf p x.name:Nat):Int);omega,by show ((ixOf p x.name:Nat):Int)≤9223372036854775807;omega⟩⟩
 ·unfold insOf;rw [if_neg (by omega),if_pos o];exact ⟨i64L (z:=5) ⟨by decide,by decide⟩,i64L (z:=3) ⟨by decide,by decide⟩⟩
 ·unfold insOf;rw [if_neg (by omega),if_neg (by omega),if_neg (by omega),if_neg (by omega)]
  exact ⟨i64L (z:=6) ⟨by decide,by decide⟩,⟨by show (-9223372036854775808:Int)≤x.op;omega,by show x.op≤9223372036854775807;omega⟩⟩
 ·unfold insOf;rw [if_neg (by omega),if_neg (by omega),if_neg (by omega),if_pos o];exact ⟨i64L (z:=7) ⟨by decide,by decide⟩,i64L (z:=0) ⟨by decide,by decide⟩⟩
theorem tr_64 {p:Prg} (h:p.K) (hgl:p.gs.length≤1048576) (hn:∀x∈p.ns,I64 x.num):∀(F j:Nat),j<F→∀y∈p.tr j,I64 y.op∧I64 y.num:=by
 intro F
 induction F with
 | zero=>intro j hj;omega
 | succ F ih=>
  intro j hj y hy
  cases hx:p.ns[j]? with
  | none=>
   have:p.tr j=[]:=by show trF p (j+1) j=[];rw [trF,hx]
   rw [this] at hy;cases hy
  | some x=>
   rw [h.v.tr_step hx] at hy
   rcases List.mem_append.1 hy with hy|hy
   ·obtain ⟨a,ha,hy⟩:=List.mem_flatMap.1 hy
    have:=(h.v.nd j x hx).2 a ha;exact ih a.toNat (by omega) y hy
   ·simp only [List.mem_cons,List.not_mem_nil,or_false] at hy
    subst hy;exact insOf_64 h hgl hx (hn x (List.mem_of_getElem? hx))
theorem trs_64 {p:Prg} (h:p.K) (hgl:p.gs.length≤1048576) (hn:∀x∈p.ns,I64 x.num):∀(k:Nat),k≤p.gs.length→∀y∈p.trs k,I64 y.op∧I64 y.num:=by
 intro k
 induction k with
 | zero=>intro _ y hy;cases hy
 | succ k ih=>
  intro hk y hy
  obtain ⟨a,ha⟩:∃a,p.gs[k]?=some a:=⟨p.gs[k],List.getElem?_eq_getElem (by omega)⟩
  rw [Prg.trs_step ha] at hy
  rcases List.mem_append.1 hy with hy|hy
  ·exact ih (by omega) y hy
  ·rcases List.mem_append.1 hy with hy|hy
   ·exact tr_64 h hgl hn _ _ (Nat.lt_succ_self _) y hy
   ·simp only [List.mem_cons,List.not_mem_nil,or_false] at hy
    subst hy;exact ⟨i64L (z:=4) ⟨by decide,by decide⟩,⟨by show (-9223372036854775808:Int)≤((k:Nat):Int);omega,by show ((k:Nat):Int)≤9223372036854775807;omega⟩⟩
theorem OwnInss.inss {lo l2:Nat} {w:World} {v:Value} {xs:List Ins} (h:OwnInss lo w v xs) (hl:l2≤lo) (hg:∀x∈xs,I64 x.op∧I64 x.num):Inss l2 w.heap.size w v xs:=by
 obtain ⟨a,c,rfl,_⟩:=OwnG.form h
 have hc:xs.length≤c∧c≤maxLen:=by
  rcases h.2 with ⟨e,h4⟩|⟨g,cap,cur,e,hb,hh,hc,hm,_⟩
  ·simp only [Value.slice.injEq] at e
   obtain ⟨rfl,e2,rfl⟩:=e;exact ⟨by omega,by unfold maxLen;omega⟩
  ·simp only [Value.slice.injEq] at e
   obtain ⟨rfl,e2,rfl⟩:=e;exact ⟨hc,hm⟩
 refine ⟨a,c,rfl,hc.1,hc.2,fun i x hx=>?_⟩;obtain ⟨g,cap,e,g1,g2,_,_,_,hcell⟩:=OwnG.at h (fun _=>rfl) hx;simp only [Value.slice.injEq] at e;obtain ⟨rfl,_,rfl⟩:=e;have c0:=hcell 0 (by decide);have c1:=hcell 1 (by decide);have c2:=hcell 2 (by decide);simp only [Ins.cs,Nat.add_zero,List.getElem?_cons_zero,List.getElem?_cons_succ] at c0 c1 c2;exact ⟨hg x (List.mem_of_getElem? hx),g,0,rfl,by omega,g2,by rw [Nat.zero_add];exact c0,by rw [Nat.zero_add];exact c1,by rw [Nat.zero_add];exact c2⟩
theorem Strs.low {lo l2 hi:Nat} {w:World} {v:Value} {xs:List ByteArray} (h:Strs lo hi w v xs) (hl:l2≤lo):Strs l2 hi w v xs:=by
 obtain ⟨a,cap,h1,h2,h3,h4⟩:=h;refine ⟨a,cap,h1,h2,h3,fun i x hx=>?_⟩;obtain ⟨b,off,g2,g3,g4⟩:=h4 i x hx;exact ⟨b,off,g2,by omega,g4⟩
theorem OwnStrs.row {lo:Nat} {w:World} {v:Value} {xs:List ByteArray} (h:OwnStrs lo w v xs):∀k,v.ownBlock=some k→lo≤k∧∃c,w.heap[k]?=some (.cells c 9 (0,0)):=by
 intro k hk
 rcases h.2 with ⟨rfl,h4⟩|⟨g,cap,cur,rfl,hb,hg,_⟩
 ·cases hk
 ·simp only [Value.ownBlock,Option.some.injEq] at hk
  subst hk;exact ⟨hb,cur,hg⟩
theorem TB.knS {p:Prg} {P T C M mb lo:Nat} {a1 a2:Option Addr} {c1 c2:Nat} {w w':World} {xs:List Ins} {iv lv lv':Value} {ls ls':List ByteArray} (h:TB p P T C M mb lo a1 a2 c1 c2 w xs iv ls lv) (k:KN lo C 9 w w') (hc:Blk w' C 126 [iv,lv']) (hl:OwnStrs lo w' lv' ls'):TB p P T C M mb lo a1 a2 c1 c2 w' xs iv ls' lv':=
 ⟨KN.blk h.prog k (h.prog.neq h.code (by decide)) (by decide),KN.blk h.fn k (h.fn.neq h.code (by decide)) (by decide),hc,KN.blk h.mp k (h.mp.neq h.code (by decide)) (by decide),KN.fm h.map k h.code,KN.row h.ins k (h.code.noCells (by decide)) (by decide),hl,h.low⟩
end
section
open Go.RowKit Go.Maps Go.WideMaps
theorem Cod.R.wideC {c:Cod} {lo hi l2 h2:Nat} {w:World} {v:Value} (h:c.R lo hi w v) (hl:l2≤lo) (hh:hi≤h2):c.R l2 h2 w v:=by
 obtain ⟨iu,lu,rfl,⟨a,cap,e1,e2,e3,e4⟩,⟨a',cap',f1,f2,f3,f4⟩⟩:=h;refine ⟨iu,lu,rfl,⟨a,cap,e1,e2,e3,fun i x hx=>?_⟩,⟨a',cap',f1,f2,f3,fun i x hx=>?_⟩⟩
 ·obtain ⟨g0,b,off,g1,g2,g3,g4⟩:=e4 i x hx
  exact ⟨g0,b,off,g1,by omega,by omega,g4⟩
 ·obtain ⟨b,off,g1,g2,g3,g4⟩:=f4 i x hx
  exact ⟨b,off,g1,by omega,by omega,g4⟩
theorem trs_mono {p:Prg} {k:Nat}:∀m,k≤m→m≤p.gs.length→(p.trs k).length≤(p.trs m).length:=by
 intro m
 induction m with
 | zero=>
  intro h _
  have:k=0:=by omega
  rw [this];exact Nat.le_refl _
 | succ m ih=>
  intro h hm
  by_cases e:k=m+1
  ·subst e;exact Nat.le_refl _
  ·have:=ih (by omega) (by omega)
   obtain ⟨a,ha⟩:∃a,p.gs[m]?=some a:=⟨p.gs[m],List.getElem?_eq_getElem (by omega)⟩
   rw [Prg.trs_step ha,List.length_append];omega
theorem iCompile_any (lo hi:Nat) (v:Value) (p:Prg) (w:World) (hv:p.R lo hi w v) (hh:hi≤w.heap.size) (hchk:p.chkB=true) (hbd:p.bd) (hgl:p.gs.length≤1048576) :
  Calls Tryz.prog 94 #[v] w fun e w'=>∃u,e = .returned (.tuple #[u,.bool true])∧p.code.R w.heap.size w'.heap.size w' u∧Ext w w':=by
 have HV:=hid hv;have hp:=Prg.chkB_K hchk;have HP:=hid hp;have HCH:=hid hchk;obtain ⟨a1,c1,a2,c2,rfl,HN,HG⟩:=hv.form;have l1:=HN.le;have l2:=HN.cap;have l3:=HG.le;have l4:=HG.cap;have l5:=hp.v.len;have l6:=hp.v.gs_len
 have hn64:∀x∈p.ns,I64 x.num:=fun x hx=>by
  obtain ⟨i,hi,hix⟩:=List.getElem_of_mem hx;exact (HN.cell i x (by rw [←hix];simp [hi])).1.2
 have H64:=hid (trs_64 hp hgl hn64);have hcl:=code_len hp;have HCL:=hid hcl;have b0:=Blk.new w 132 [.slice a1 p.ns.length c1,.slice a2 p.gs.length c2];have r0:=Blk.new (w.alloc (.cells #[.slice a1 p.ns.length c1,.slice a2 p.gs.length c2] 132)) 126 [.slice none 0 0,.slice none 0 0];rw [World.size_alloc] at r0;have x0:Ext w ((w.alloc (.cells #[.slice a1 p.ns.length c1,.slice a2 p.gs.length c2] 132)).alloc (.cells #[.slice none 0 0,.slice none 0 0] 126)):=X_;have HB0:=hid (b0.ext (show Ext _ ((w.alloc (.cells #[.slice a1 p.ns.length c1,.slice a2 p.gs.length c2] 132)).alloc (.cells #[.slice none 0 0,.slice none 0 0] 126)) from X_));have HR0:=hid r0;have HX0:=hid x0;clear hv hp hchk b0 r0 x0 hn64 hcl;go_enter Tryz.func94,Tryz.ntmps94;go_wp2_with fail;refine (iIsOk_val HCH.out lo hi _ _ (HV.out.ext hh HX0.out) (Nat.le_trans hh HX0.out.size) hbd hgl).mono ?_;rintro e w1 ⟨rfl,x1⟩;have HX1:=hid (HX0.out.trans x1);have HB1:=hid (HB0.out.ext x1);have HR1:=hid (HR0.out.ext x1);obtain ⟨q0,q1⟩:=HB1.out.q2;have ql:=HB1.out.lt;clear x1 HX0 HB0 HR0;go_wp2_with fail;refine (iAssigned_any lo hi _ p _ (HV.out.ext hh HX1.out) (Nat.le_trans hh HX1.out.size) hbd hgl).mono ?_;rintro e w2 ⟨⟨mb,rfl,hmb,hM⟩,x2⟩;have HX2:=hid (HX1.out.trans x2);have HB2:=hid (HB1.out.ext x2);have HR2:=hid (HR1.out.ext x2);have HM2:=hid hM;have q1:=HB2.out.cell 1 rfl;have ql2:=HB2.out.lt;have rl2:=HR2.out.lt;have zw2:=HX2.out.size;clear x2 hM HX1 HB1 HR1;have xb:Ext w2 (((w2.alloc (.cells #[.slice none 0 0,.slice none 0 0] 126)).alloc (.cells #[.map (some mb)] 239)).alloc (.cells #[.func (.func 155) #[] #[.pointer (some ⟨w.heap.size,0,none⟩),.pointer (some ⟨w2.heap.size+1+1,0,none⟩),.pointer (some ⟨w2.heap.size,0,none⟩),.pointer (some ⟨w2.heap.size+1,0,none⟩)]] 241)):=X_;have cb:=(Blk.new w2 126 [.slice none 0 0,.slice none 0 0]).ext (show Ext (w2.alloc (.cells #[.slice none 0 0,.slice none 0 0] 126)) (((w2.alloc (.cells #[.slice none 0 0,.slice none 0 0] 126)).alloc (.cells #[.map (some mb)] 239)).alloc (.cells #[.func (.func 155) #[] #[.pointer (some ⟨w.heap.size,0,none⟩),.pointer (some ⟨w2.heap.size+1+1,0,none⟩),.pointer (some ⟨w2.heap.size,0,none⟩),.pointer (some ⟨w2.heap.size+1,0,none⟩)]] 241)) from X_);have mbx:=(Blk.new (w2.alloc (.cells #[.slice none 0 0,.slice none 0 0] 126)) 239 [.map (some mb)]).ext (show Ext ((w2.alloc (.cells #[.slice none 0 0,.slice none 0 0] 126)).alloc (.cells #[.map (some mb)] 239)) (((w2.alloc (.cells #[.slice none 0 0,.slice none 0 0] 126)).alloc (.cells #[.map (some mb)] 239)).alloc (.cells #[.func (.func 155) #[] #[.pointer (some ⟨w.heap.size,0,none⟩),.pointer (some ⟨w2.heap.size+1+1,0,none⟩),.pointer (some ⟨w2.heap.size,0,none⟩),.pointer (some ⟨w2.heap.size+1,0,none⟩)]] 241)) from X_);have fb:=Blk.new ((w2.alloc (.cells #[.slice none 0 0,.slice none 0 0] 126)).alloc (.cells #[.map (some mb)] 239)) 241 [.func (.func 155) #[] #[.pointer (some ⟨w.heap.size,0,none⟩),.pointer (some ⟨w2.heap.size+1+1,0,none⟩),.pointer (some ⟨w2.heap.size,0,none⟩),.pointer (some ⟨w2.heap.size+1,0,none⟩)]];simp only [World.size_alloc] at mbx fb
 have hT:TB p w.heap.size (w2.heap.size+1+1) w2.heap.size (w2.heap.size+1) mb w2.heap.size a1 a2 c1 c2 (((w2.alloc (.cells #[.slice none 0 0,.slice none 0 0] 126)).alloc (.cells #[.map (some mb)] 239)).alloc (.cells #[.func (.func 155) #[] #[.pointer (some ⟨w.heap.size,0,none⟩),.pointer (some ⟨w2.heap.size+1+1,0,none⟩),.pointer (some ⟨w2.heap.size,0,none⟩),.pointer (some ⟨w2.heap.size+1,0,none⟩)]] 241)) [] (.slice none 0 0) [] (.slice none 0 0):=⟨HB2.out.ext xb,fb,cb,mbx,HM2.out.ext xb,OwnG.nil _ _ _ _ _,OwnStrs.nil _ _,Nat.le_refl _⟩
 have HT:=hid hT;have HRb:=hid (HR2.out.ext xb);have HXb:=hid (HX2.out.trans xb);have q1b:=hT.prog.cell 1 rfl;clear cb mbx fb hT xb HB2 HM2 HR2 HX2;go_wp2_with fail
 go_loopw [20] (fun i wr=>∃(k:Nat) (iv lv:Value),k≤p.gs.length∧i = .int .i64 (k:Nat)∧TB p w.heap.size (w2.heap.size+1+1) w2.heap.size (w2.heap.size+1) mb w2.heap.size a1 a2 c1 c2 wr (p.trs k) iv ((p.gs.take k).map (·.name)) lv∧Blk wr (w.heap.size+1) 126 [.slice none 0 0,.slice none 0 0]∧Ext w wr) (fun i _=>p.gs.length - (intOf i).toNat)
 case atStart=>exact ⟨0,_,_,by omega,rfl,HT.out,HRb.out,HXb.out⟩
 case round=>
  clear HT HRb HXb q1b;obtain ⟨k,iv,lv,hk,rfl,hT,hR,hx⟩:=hrel;have HT:=hid hT;have HR:=hid hR;have HX:=hid hx
  by_cases hlt:k<p.gs.length
  ·obtain ⟨b,off,s,rt,rfl,hb1,hbw,hdrop,hget,ir,y0,y1⟩:=HG.at hlt hx hh
   have hrb:=(HP.out.v.ag k _ hget).2;simp only at hrb
   obtain ⟨r,rfl⟩:∃r:Nat,rt=r:=⟨rt.toNat,by omega⟩
   have HG1:=hid hget;have hst:=Prg.trs_step hget;have hmo:=trs_mono (p:=p) (k:=k+1) p.gs.length (by omega) (Nat.le_refl _);have hcl:=HCL.out;have hcl2:(p.trs p.gs.length).length≤120:=hcl;simp only [Int.toNat_natCast] at hst
   have hle:(p.trs (k+1)).length=(p.trs k).length+(p.tr r).length+1:=by rw [hst];simp;omega
   have HST:=hid hst;have y0:Ext wr (wr.alloc (.cells #[.string s,.int .i64 (r:Nat)] 194)):=X_;have HA:=hid (Blk.new wr 194 [.string s,.int .i64 (r:Nat)]);have HT1:=hid (hT.ext y0);have HR1:=hid (hR.ext y0);have HX1:=hid (hx.trans y0);have hfn:=hT.fn;have f0:=hfn.cell 0 rfl;have fl:=hfn.lt;have zr:=hx.size;have hlo:=hT.low;have hCl:=hT.code.lt;clear hT hR hx hdrop hget hst hcl HT HR HX hfn;go_wp2_with fail;refine (iTr_any lo hi p HP.out hbd hgl w a1 (some ⟨b,off,none⟩) c1 c2 HN hh w.heap.size (w2.heap.size+1+1) w2.heap.size (w2.heap.size+1) mb w2.heap.size zw2 _ _ (r+1) r _ iv _ (by omega) (by omega) (by omega) HT1.out HX1.out).mono ?_;rintro e w5 ⟨rfl,⟨iv2,hT5⟩,hk5⟩;have HA5:=hid (KN.blk HA.out hk5 (HA.out.neq HT1.out.code (by decide)) (by decide));have HR5:=hid (HR1.out.of (hk5.block _ HR1.out.lt (.inl (by omega))));have HX5:=hid (hk5.up HX1.out zw2)
   obtain ⟨L,hL⟩:∃L,p.trs k++p.tr r=L:=⟨_,rfl⟩
   have hLl:L.length≤200:=by rw [←hL,List.length_append];omega
   rw [hL] at hT5;have HL:=hid hL
   obtain ⟨NL,hNL⟩:∃N,(p.gs.take k).map (·.name)=N:=⟨_,rfl⟩
   have hNl:NL.length≤200:=by rw [←hNL,List.length_map,List.length_take];omega
   rw [hNL] at hT5;have HNL:=hid hNL;have HT5:=hid hT5;obtain ⟨ia,ic,rfl,-⟩:=OwnG.form hT5.ins;obtain ⟨la,lc,rfl,-⟩:=hT5.loc.form;obtain ⟨cc0,cc1⟩:=hT5.code.q2;have cf0:=hT5.code.free 0;have cf1:=hT5.code.free 1;have cl:=hT5.code.lt;obtain ⟨k0,k1⟩:=HA5.out.q2;have kl:=HA5.out.lt;have y5:Ext w5 (w5.alloc (.cells #[.int .i64 4,.string ⟨#[]⟩,.int .i64 (k:Nat)] 197)):=X_;have b5:=Blk.new w5 197 [.int .i64 4,.string ⟨#[]⟩,.int .i64 (k:Nat)];have HY5:=hid y5;have HB5:=hid b5;have HI5:=hid (OwnG.ext hT5.ins y5);have zX5:=HX5.out.size;have zy5:=y5.size;clear hL hNL hT5 hk5 y5 b5 HT1 HR1 HX1 HA f0;go_wp2_with (at_builtin;refine wpList_append_insn _ rfl _ _ rfl w2.heap.size (.slice ia L.length ic) L rfl ?_ ⟨4,⟨#[]⟩,(k:Nat)⟩ w5.heap.size rfl ?_ ?_ ?_ ?_)
   ·exact HI5.out
   ·omega
   ·exact Nat.le_trans (Nat.le_of_lt cl) zy5
   intro iv3 w6 hown hg;have hrow:=OwnG.rowC HI5.out
   have hother:∀{B:Nat} {t:TypeId} {cs:List Value},Blk w5 B t cs→t≠197→w6.heap[B]?=w5.heap[B]?:=fun hb ht=>(hg.block _ (by have:=hb.lt;omega) (fun e=>by
    obtain ⟨_,c,hc⟩:=hrow _ e.symm
    exact (hb.ext HY5.out).noCells (Ne.symm ht) c hc)).trans (HY5.out.block hb.lt)
   have kC:=hother HT5.out.code (by decide);have kA:=hother HA5.out (by decide);have K6:KN w2.heap.size w2.heap.size 197 w5 w6:=((KN.refl _ _ _ w5).ext HY5.out).grown hg hrow;have C6:=HT5.out.code.of kC;have HA6:=hid ((HA5.out.of kA).other (a:=⟨w2.heap.size,0,none⟩) (HA5.out.neq HT5.out.code (by decide)) iv3);have HT6:=hid (HT5.out.kn (K6.set (Nat.le_refl _) 0 iv3) (C6.set 0 iv3) (OwnG.set hown C6 (by decide) 0 iv3));have HR6:=hid (HR5.out.of ((K6.set (Nat.le_refl _) 0 iv3).block _ HR5.out.lt (.inl (by omega))));have HX6:=hid ((K6.set (Nat.le_refl _) 0 iv3).up HX5.out zw2);obtain ⟨ia2,ic2,hv2,_⟩:=OwnG.form hown
   have hll:(L++[(⟨4,⟨#[]⟩,(k:Nat)⟩:Ins)]).length=L.length+1:=by simp
   rw [hll] at hv2;subst hv2;obtain ⟨e0,e1⟩:=C6.q2;have g0:=C6.free 0;have g1:=C6.free 1;have a0:=(HA5.out.of kA).cell 0 rfl;have al:=(HA5.out.of kA).lt;have c6l:=C6.lt;clear hown hg hrow hother kC kA K6 C6 cc0 cc1 cf0 cf1 k0 k1;have y6:Ext (w6.setCell ⟨w2.heap.size,0,none⟩ (.slice ia2 (L.length+1) ic2)) ((w6.setCell ⟨w2.heap.size,0,none⟩ (.slice ia2 (L.length+1) ic2)).alloc (.cells #[.string s] 9)):=X_;have HS6:=hid (HT6.out.loc.ext y6);have HY6:=hid y6;have b6:=Blk.new (w6.setCell ⟨w2.heap.size,0,none⟩ (.slice ia2 (L.length+1) ic2)) 9 [.string s];rw [World.size_setCell] at b6;have zy6:=y6.size;have zc6:=HT6.out.code.lt;clear y6;go_wp2_with (at_builtin;refine wpList_append_str _ rfl _ _ rfl w2.heap.size (.slice la NL.length lc) NL rfl ?_ s w6.heap.size rfl ?_ ?_ ?_ ?_)
   ·exact HS6.out
   ·exact b6.cell 0 rfl
   ·omega
   ·exact Nat.le_trans (Nat.le_of_lt zc6) zy6
   intro lv2 w8 hown hg;have hrow:=OwnStrs.row HS6.out
   have kC:w8.heap[w2.heap.size]?=(w6.setCell ⟨w2.heap.size,0,none⟩ (.slice ia2 (L.length+1) ic2)).heap[w2.heap.size]?:=(hg.block _ (by omega) (fun e=>by
    obtain ⟨_,c,hc⟩:=hrow _ e.symm
    exact (HT6.out.code.ext HY6.out).noCells (by decide) c hc)).trans (HY6.out.block zc6)
   have K8:KN w2.heap.size w2.heap.size 9 (w6.setCell ⟨w2.heap.size,0,none⟩ (.slice ia2 (L.length+1) ic2)) w8:=((KN.refl _ _ _ _).ext HY6.out).grown hg hrow;have C8:=HT6.out.code.of kC;have O9:=KN.strs hown ((KN.refl w2.heap.size w2.heap.size 197 w8).set (Nat.le_refl _) 1 lv2) (C8.noCells (by decide)) (by decide);have HT9:=hid (HT6.out.knS (K8.set (Nat.le_refl _) 1 lv2) (C8.set 1 lv2) O9);have HR9:=hid (HR6.out.of ((K8.set (Nat.le_refl _) 1 lv2).block _ HR6.out.lt (.inl (by omega))));have HX9:=hid ((K8.set (Nat.le_refl _) 1 lv2).up HX6.out zw2);obtain ⟨la2,lc2,hv2,_⟩:=hown.form
   have hll2:(NL++[s]).length=NL.length+1:=by simp
   rw [hll2] at hv2;subst hv2;have e1':=C8.cell 1 rfl;have g1':=C8.free 1;have c8l:=C8.lt;clear hown hg hrow kC K8 C8 O9 HS6 HY6;go_wp2_with fail;go_roundw
   case rel=>
    have e1:L++[(⟨4,⟨#[]⟩,(k:Nat)⟩:Ins)]=p.trs (k+1):=by rw [HST.out,←HL.out,List.append_assoc]
    have e2:NL++[s]=(p.gs.take (k+1)).map (·.name):=by rw [List.take_add_one,HG1.out,List.map_append,HNL.out];rfl
    have HT10:=HT9.out;rw [e1,e2] at HT10;exact ⟨k+1,_,_,by omega,by go_num,HT10,HR9.out,HX9.out⟩
   case measure=>simp [intOf];omega
  ·obtain rfl:k=p.gs.length:=by omega
   rw [List.take_length] at HT;obtain ⟨ia,ic,rfl,-⟩:=OwnG.form HT.out.ins;obtain ⟨la,lc,rfl,-⟩:=HT.out.loc.form;obtain ⟨cc0,cc1⟩:=HT.out.code.q2;have cl:=HT.out.code.lt;obtain ⟨r0,r1⟩:=HR.out.q2;have f0:=HR.out.free 0;have f1:=HR.out.free 1;have rl:=HR.out.lt;have zX:=HX.out.size;have hS:=hid (HT.out.loc.strs);have hI:=hid (HT.out.ins.inss (Nat.le_refl _) (H64.out _ (Nat.le_refl _)))
   have hcR:p.code.R w2.heap.size wr.heap.size wr (.agg #[.slice ia (p.trs p.gs.length).length ic,.slice la p.gs.length lc]):=⟨_,_,rfl,hI.out,by have h:=hS.out;rw [List.length_map] at h;exact h⟩
   have HcR:=hid (hcR.same ((Same.setLow wr (p:=⟨w.heap.size+1,0,none⟩) (by simp only;omega) (.slice ia (p.trs p.gs.length).length ic)).trans (Same.setLow _ (p:=⟨w.heap.size+1,1,none⟩) (by simp only;omega) (.slice la p.gs.length lc))));have hXo:=HX.out;clear hT hR hx hcR;go_wp2;refine bodyPost_ret (v:=.tuple #[.agg #[.slice ia (p.trs p.gs.length).length ic,.slice la p.gs.length lc],.bool true]) (by simp [results,Tryz.results94,go_sem, *]) rfl ?_;exact ⟨_,rfl,HcR.out.wideC zw2 (by simp),S_⟩
end
theorem info_srfS:(Tryz.prog.info? 42).map (fun i=>i.size)=some 26:=by kernel_rfl
theorem Scn.prg_at {s:Scn} {k q:Nat} (h:s.sh k=(q:Nat)) (hq:q<s.ps.length):s.prg k=s.ps[q]:=by
 unfold Scn.prg;rw [h,Int.toNat_natCast,List.getD_eq_getElem?_getD,List.getElem?_eq_getElem hq]
 rfl
theorem Scn.shade_at {s:Scn} {k q n:Nat} (h:s.sh k=(q:Nat)) (hq:q<s.ps.length) (hn:s.rt k=(n:Nat)):s.shade k=((s.ps[q].code.shade (gridP (s.st k) n s.t)).1,(s.ps[q].code.shade (gridP (s.st k) n s.t)).2.1):=by
 unfold Scn.shade;rw [Scn.prg_at h hq];unfold Scn.grd;rw [hn,Int.toNat_natCast]
theorem Scn.Ok.at {s:Scn} (ho:s.Ok) {k:Nat} (hk:k<s.m):∃q n:Nat,s.sh k=(q:Nat)∧q<s.ps.length∧s.rt k=(n:Nat)∧1≤n∧n≤8∧patB (s.st k)=true∧patB (s.en k)=true:=by
 have h:=srfB_iff.1 (ho.srf k hk);have h1:=h.sh;have h2:=h.rt;exact ⟨(s.sh k).toNat,(s.rt k).toNat,by omega,by omega,by omega,by omega,by omega,h.f,h.g⟩
theorem Scn.Ok.shade {s:Scn} (ho:s.Ok) {k:Nat} (hk:k<s.m):(s.shade k).1.length=(s.rt k).toNat*(s.rt k).toNat∧(s.shade k).2.length=(s.rt k).toNat*(s.rt k).toNat:=by
 obtain ⟨q,n,h1,h2,h3,h4,h5,h6,-⟩:=ho.at hk;have hc:=ho.prg _ (List.getElem_mem h2);obtain ⟨X,Y,e,x,y,-⟩:=(Prg.chkB_K hc).shade hc (gridP_ok (f:=s.st k) (n:=n) (t:=s.t) ⟨h4,h5⟩ ho.t);rw [Scn.shade_at h1 h2 h3,e,h3,Int.toNat_natCast];exact ⟨x,y⟩
theorem Grd.R.formS {g:Grd} {lo hi:Nat} {w:World} {v:Value} (h:g.R lo hi w v):∃a1 c1 a2 c2,v = .agg #[.int .i64 g.n,.slice a1 g.m c1,.int .i64 g.tm,.int .i64 g.t.log,.slice a2 g.t.px.length c2]:=by
 obtain ⟨pu,tu,rfl,_,_,_,hp,hu⟩:=h;obtain ⟨a1,c1,rfl,_⟩:=hp;obtain ⟨a2,c2,rfl,_⟩:=hu;exact ⟨a1,c1,a2,c2,rfl⟩
theorem info_shd:(Tryz.prog.info? 92).map (fun i=>i.size)=some 2:=by kernel_rfl
theorem IntsO.low' {lo lo' hi:Nat} {w:World} {v:Value} {xs:List Int} (h:IntsO lo hi w v xs) (hl:lo'≤lo):IntsO lo' hi w v xs:=⟨h.1.low hl,h.2⟩
theorem IntsO.setLow {lo hi:Nat} {w:World} {v:Value} {xs:List Int} (h:IntsO lo hi w v xs) {p:Addr} (hp:p.block<lo) (u:Value):IntsO lo hi (w.setCell p u) v xs:=⟨h.1.setLow hp u,h.2⟩
theorem IntsO.form {lo hi:Nat} {w:World} {v:Value} {xs:List Int} (h:IntsO lo hi w v xs):∃a c,v = .slice a xs.length c:=by
 obtain ⟨a,c,e,_⟩:=h.1.form;exact ⟨a,c,e⟩
theorem iShade_any (s:Scn) (lo hi:Nat) (v:Value) (k:Nat) (w:World) (hv:s.R lo hi w v) (hh:hi≤w.heap.size) (ho:s.Ok) (hsm:s.small) (hk:k<s.m) :
  Calls Tryz.prog 41 #[v,.int .i64 (k:Nat)] w fun e w'=>∃r1 r2,e = .returned (.agg #[r1,r2])∧∃h,w.heap.size≤h∧h≤w'.heap.size∧IntsO w.heap.size h w' r1 (s.shade k).1∧IntsO h w'.heap.size w' r2 (s.shade k).2∧Ext w w':=by
 obtain ⟨q,n,hsh,hq,hrt,hn1,hn8,hpf,hpg⟩:=ho.at hk;obtain ⟨a1,c1,a2,c2,a3,c3,rfl,-,hlog,-,h1,h2,h3⟩:=hv.form;have hcap:=h3.cap;have hle:=h3.le;have le2:=h2.le;have cap2:=h2.cap;obtain ⟨b,off,rfl,hb1,hb2,hcell⟩:=h3.at hk (by decide)
 obtain ⟨f,hf⟩:∃f,s.st k=f:=⟨_,rfl⟩
 obtain ⟨g,hg⟩:∃f,s.en k=f:=⟨_,rfl⟩
 have bw:b<w.heap.size:=by omega
 have hcs:w.rangeAt b (off+k*26) ((List.range 26).map fun j=>.int .i64 (s.F (k*26+j))):=by
  intro j v hj;obtain ⟨h1,h2⟩:=List.getElem?_eq_some_iff.1 hj;simp only [List.length_map,List.length_range] at h1;simp only [List.getElem_map,List.getElem_range] at h2;subst h2;exact hcell j h1
 change w.rangeAt b (off+k*26) [.int .i64 (s.st k 0),.int .i64 (s.st k 1),.int .i64 (s.st k 2),.int .i64 (s.st k 3),.int .i64 (s.st k 4),.int .i64 (s.st k 5),.int .i64 (s.st k 6),.int .i64 (s.st k 7),.int .i64 (s.st k 8),.int .i64 (s.st k 9),.int .i64 (s.st k 10),.int .i64 (s.st k 11),.int .i64 (s.en k 0),.int .i64 (s.en k 1),.int .i64 (s.en k 2),.int .i64 (s.en k 3),.int .i64 (s.en k 4),.int .i64 (s.en k 5),.int .i64 (s.en k 6),.int .i64 (s.en k 7),.int .i64 (s.en k 8),.int .i64 (s.en k 9),.int .i64 (s.en k 10),.int .i64 (s.en k 11),.int .i64 (s.sh k),.int .i64 (s.rt k)] at hcs;simp only [hf,hg,hsh,hrt] at hcs;have hshd:=Scn.shade_at hsh hq hrt;rw [hf] at hshd hpf;have hchk:=ho.prg _ (List.getElem_mem hq);have hsp:=hsm _ (List.getElem_mem hq);have htok:=ho.t;have H1:=hid h1;have H2:=hid h2;have HCS:=hid hcs;have HLOG:=hid hlog;have hTR:=hid (show ∀W:World,Ext w W→TexR lo hi W (.agg #[.int .i64 s.t.log,.slice a1 s.t.px.length c1]) s.t from fun W x=>⟨_,rfl,hlog,(h1.shut).ext hh x⟩);have HCH:=hid hchk;have HSP:=hid hsp;have HTO:=hid htok;have HPF:=hid hpf;have HSD:=hid hshd;have x2:Ext w ((w.alloc (.cells #[.int .i64 s.c.w,.int .i64 s.c.h,.int .i64 s.c.zoom,.int .i64 s.c.near,.bool s.c.deep,.int .i64 s.c.lens,.int .i64 s.c.focus,.int .i64 s.t.log,.slice a1 s.t.px.length c1,.slice a2 s.ps.length c2,.slice (some ⟨b,off,none⟩) s.m c3,.int .i64 s.side] 31)).alloc (.cells #[.slice none 0 0,.slice none 0 0] 92)):=X_;have bS:=(Blk.new w 31 [.int .i64 s.c.w,.int .i64 s.c.h,.int .i64 s.c.zoom,.int .i64 s.c.near,.bool s.c.deep,.int .i64 s.c.lens,.int .i64 s.c.focus,.int .i64 s.t.log,.slice a1 s.t.px.length c1,.slice a2 s.ps.length c2,.slice (some ⟨b,off,none⟩) s.m c3,.int .i64 s.side]).ext (show Ext (w.alloc (.cells #[.int .i64 s.c.w,.int .i64 s.c.h,.int .i64 s.c.zoom,.int .i64 s.c.near,.bool s.c.deep,.int .i64 s.c.lens,.int .i64 s.c.focus,.int .i64 s.t.log,.slice a1 s.t.px.length c1,.slice a2 s.ps.length c2,.slice (some ⟨b,off,none⟩) s.m c3,.int .i64 s.side] 31)) ((w.alloc (.cells #[.int .i64 s.c.w,.int .i64 s.c.h,.int .i64 s.c.zoom,.int .i64 s.c.near,.bool s.c.deep,.int .i64 s.c.lens,.int .i64 s.c.focus,.int .i64 s.t.log,.slice a1 s.t.px.length c1,.slice a2 s.ps.length c2,.slice (some ⟨b,off,none⟩) s.m c3,.int .i64 s.side] 31)).alloc (.cells #[.slice none 0 0,.slice none 0 0] 92)) from X_)
 have bH:Blk ((w.alloc (.cells #[.int .i64 s.c.w,.int .i64 s.c.h,.int .i64 s.c.zoom,.int .i64 s.c.near,.bool s.c.deep,.int .i64 s.c.lens,.int .i64 s.c.focus,.int .i64 s.t.log,.slice a1 s.t.px.length c1,.slice a2 s.ps.length c2,.slice (some ⟨b,off,none⟩) s.m c3,.int .i64 s.side] 31)).alloc (.cells #[.slice none 0 0,.slice none 0 0] 92)) (w.heap.size+1) 92 [.slice none 0 0,.slice none 0 0]:=by
  have h:=Blk.new (w.alloc (.cells #[.int .i64 s.c.w,.int .i64 s.c.h,.int .i64 s.c.zoom,.int .i64 s.c.near,.bool s.c.deep,.int .i64 s.c.lens,.int .i64 s.c.focus,.int .i64 s.t.log,.slice a1 s.t.px.length c1,.slice a2 s.ps.length c2,.slice (some ⟨b,off,none⟩) s.m c3,.int .i64 s.side] 31)) 92 [.slice none 0 0,.slice none 0 0];rw [World.size_alloc] at h;exact h
 have z2:((w.alloc (.cells #[.int .i64 s.c.w,.int .i64 s.c.h,.int .i64 s.c.zoom,.int .i64 s.c.near,.bool s.c.deep,.int .i64 s.c.lens,.int .i64 s.c.focus,.int .i64 s.t.log,.slice a1 s.t.px.length c1,.slice a2 s.ps.length c2,.slice (some ⟨b,off,none⟩) s.m c3,.int .i64 s.side] 31)).alloc (.cells #[.slice none 0 0,.slice none 0 0] 92)).heap.size=w.heap.size+2:=by simp
 clear hv h1 h2 h3 hcs hchk hsp htok hpf hpg hshd hsh hrt hcell hf hg hlog;go_enter Tryz.func41,Tryz.ntmps41;go_upto_region 1 with fail
 obtain ⟨W0,hW0⟩:∃W0,((w.alloc (.cells #[.int .i64 s.c.w,.int .i64 s.c.h,.int .i64 s.c.zoom,.int .i64 s.c.near,.bool s.c.deep,.int .i64 s.c.lens,.int .i64 s.c.focus,.int .i64 s.t.log,.slice a1 s.t.px.length c1,.slice a2 s.ps.length c2,.slice (some ⟨b,off,none⟩) s.m c3,.int .i64 s.side] 31)).alloc (.cells #[.slice none 0 0,.slice none 0 0] 92))=W0:=⟨_,rfl⟩
 rw [hW0] at x2 bS bH z2;rw [hW0];clear hW0;have HX0:=hid x2;have HS:=hid bS;have HH:=hid bH;have Z2:=hid z2;have hc0:W0.rangeAt b (off+k*26) [.int .i64 (f 0),.int .i64 (f 1),.int .i64 (f 2),.int .i64 (f 3),.int .i64 (f 4),.int .i64 (f 5),.int .i64 (f 6),.int .i64 (f 7),.int .i64 (f 8),.int .i64 (f 9),.int .i64 (f 10),.int .i64 (f 11),.int .i64 (g 0),.int .i64 (g 1),.int .i64 (g 2),.int .i64 (g 3),.int .i64 (g 4),.int .i64 (g 5),.int .i64 (g 6),.int .i64 (g 7),.int .i64 (g 8),.int .i64 (g 9),.int .i64 (g 10),.int .i64 (g 11),.int .i64 (q:Nat),.int .i64 (n:Nat)]:=fun j v hj=>(x2.cells.1 b _ bw).trans (HCS.out j v hj);have HC0:=hid hc0;have d10:=bS.cell 10 rfl;have ls:=bS.lt
 have lb:b<W0.heap.size:=by omega
 clear x2 bS bH z2 hc0;go_upto_region 2 with (first|(show wpList _ _ _ [_,_,_] _ _;refine wpList_load_mid rfl _ _ rfl b (off+k*26) rfl [.int .i64 (f 0),.int .i64 (f 1),.int .i64 (f 2),.int .i64 (f 3),.int .i64 (f 4),.int .i64 (f 5),.int .i64 (f 6),.int .i64 (f 7),.int .i64 (f 8),.int .i64 (f 9),.int .i64 (f 10),.int .i64 (f 11),.int .i64 (g 0),.int .i64 (g 1),.int .i64 (g 2),.int .i64 (g 3),.int .i64 (g 4),.int .i64 (g 5),.int .i64 (g 6),.int .i64 (g 7),.int .i64 (g 8),.int .i64 (g 9),.int .i64 (g 10),.int .i64 (g 11),.int .i64 (q:Nat),.int .i64 (n:Nat)] _ HC0.out Tryz.underlying42 rfl info_srfS ?_)|(show wpList _ _ _ [_] _ _;refine wpList_store_fresh _ _ _ rfl 42 (.tmp 5) (.tmp 17) rfl rfl #[.int .i64 (f 0),.int .i64 (f 1),.int .i64 (f 2),.int .i64 (f 3),.int .i64 (f 4),.int .i64 (f 5),.int .i64 (f 6),.int .i64 (f 7),.int .i64 (f 8),.int .i64 (f 9),.int .i64 (f 10),.int .i64 (f 11),.int .i64 (g 0),.int .i64 (g 1),.int .i64 (g 2),.int .i64 (g 3),.int .i64 (g 4),.int .i64 (g 5),.int .i64 (g 6),.int .i64 (g 7),.int .i64 (g 8),.int .i64 (g 9),.int .i64 (g 10),.int .i64 (g 11),.int .i64 (q:Nat),.int .i64 (n:Nat)] W0.heap.size rfl rfl rfl (by kernel_rfl) (by kernel_rfl) (by kernel_rfl) ?_));have xA:Ext W0 (W0.alloc (.cells #[.int .i64 (f 0),.int .i64 (f 1),.int .i64 (f 2),.int .i64 (f 3),.int .i64 (f 4),.int .i64 (f 5),.int .i64 (f 6),.int .i64 (f 7),.int .i64 (f 8),.int .i64 (f 9),.int .i64 (f 10),.int .i64 (f 11),.int .i64 (g 0),.int .i64 (g 1),.int .i64 (g 2),.int .i64 (g 3),.int .i64 (g 4),.int .i64 (g 5),.int .i64 (g 6),.int .i64 (g 7),.int .i64 (g 8),.int .i64 (g 9),.int .i64 (g 10),.int .i64 (g 11),.int .i64 (q:Nat),.int .i64 (n:Nat)] 42)):=X_;have bA:=Blk.new W0 42 [.int .i64 (f 0),.int .i64 (f 1),.int .i64 (f 2),.int .i64 (f 3),.int .i64 (f 4),.int .i64 (f 5),.int .i64 (f 6),.int .i64 (f 7),.int .i64 (f 8),.int .i64 (f 9),.int .i64 (f 10),.int .i64 (f 11),.int .i64 (g 0),.int .i64 (g 1),.int .i64 (g 2),.int .i64 (g 3),.int .i64 (g 4),.int .i64 (g 5),.int .i64 (g 6),.int .i64 (g 7),.int .i64 (g 8),.int .i64 (g 9),.int .i64 (g 10),.int .i64 (g 11),.int .i64 (q:Nat),.int .i64 (n:Nat)]
 obtain ⟨A,hA⟩:∃A,W0.heap.size=A:=⟨_,rfl⟩
 obtain ⟨W1,hW1⟩:∃W1,W0.alloc (.cells #[.int .i64 (f 0),.int .i64 (f 1),.int .i64 (f 2),.int .i64 (f 3),.int .i64 (f 4),.int .i64 (f 5),.int .i64 (f 6),.int .i64 (f 7),.int .i64 (f 8),.int .i64 (f 9),.int .i64 (f 10),.int .i64 (f 11),.int .i64 (g 0),.int .i64 (g 1),.int .i64 (g 2),.int .i64 (g 3),.int .i64 (g 4),.int .i64 (g 5),.int .i64 (g 6),.int .i64 (g 7),.int .i64 (g 8),.int .i64 (g 9),.int .i64 (g 10),.int .i64 (g 11),.int .i64 (q:Nat),.int .i64 (n:Nat)] 42)=W1:=⟨_,rfl⟩
 rw [hW1] at xA bA ⊢;rw [hA] at bA ls lb ⊢;have X1:=hid (HX0.out.trans xA);have S1:=HS.out.ext xA;have HS1:=hid S1;have HH1:=hid (HH.out.ext xA);have HA1:=hid bA;have ZA:=hid (show w.heap.size+2≤A by have:=Z2.out;omega);have d9:=S1.cell 9 rfl;have ls1:=S1.lt;have e24:=bA.cell 24 rfl;have lA:=bA.lt;obtain ⟨b2,off2,na,nc,ga,gc,rfl,hbw2,hbr2,k1,k2,hR⟩:=H2.out.at hq X1.out hh;have HR:=hid hR;clear hW1 hA xA bA S1 hR d10 ls lb HS HH HX0 HC0 HCS;go_wp2_with fail;refine (iCompile_any lo hi _ (s.ps[q]'hq) _ HR.out (Nat.le_trans hh X1.out.size) HCH.out HSP.out.1 HSP.out.2.2).mono ?_;rintro e w5 ⟨u,rfl,R5,x5⟩
 obtain ⟨K,hK⟩:∃K,(s.ps[q]'hq).code=K:=⟨_,rfl⟩
 have HKK:=hid (show K.small by rw [←hK];exact ⟨by have:=code_len (Prg.chkB_K HCH.out);omega,by show ((s.ps[q]'hq).gs.map (·.name)).length≤1048576;rw [List.length_map];exact HSP.out.2.2⟩);have HKD:=hid hK;rw [hK] at R5;obtain ⟨a5,c5,a6,c6,rfl,-,-⟩:=R5.form;have y5:Ext w5 (w5.alloc (.cells #[.slice a5 K.xs.length c5,.slice a6 K.ls.length c6] 126)):=X_;have bC:=Blk.new w5 126 [.slice a5 K.xs.length c5,.slice a6 K.ls.length c6];have HC5:=hid (R5.ext (Nat.le_refl _) y5);have X5:=hid (X1.out.trans (x5.trans y5));have S5:=HS1.out.ext (x5.trans y5);have HS5:=hid S5;have HH5:=hid (HH1.out.ext (x5.trans y5));have A5:=HA1.out.ext (x5.trans y5);have HA5:=hid A5;have HB5:=hid bC;have z5:=(x5.trans y5).size;have zw5:=y5.size;have zx5:=x5.size;have d7:=S5.cell 7 rfl;have d8:=S5.cell 8 rfl;have ls5:=S5.lt;obtain ⟨e0,e1,e2,e3,e4,e5,e6,e7,e8,e9,e10,e11⟩:=A5.q12;have e25:=A5.cell 25 rfl;have lA5:=A5.lt;have ZF:=hid (show w.heap.size+2≤(w5.alloc (.cells #[.slice a5 K.xs.length c5,.slice a6 K.ls.length c6] 126)).heap.size by have:=ZA.out;omega);clear R5 x5 y5 bC S5 A5 d9 ls1 e24 lA k1 k2 hK HS1 HH1 HA1 HR;go_wp2_with fail;refine (iGridOf_any lo hi f HPF.out n ⟨hn1,hn8⟩ _ s.t _ (hTR.out _ X5.out) (Nat.le_trans hh X5.out.size) HTO.out).mono ?_;rintro e w6 ⟨gv,rfl,R6,x6⟩
 obtain ⟨g1,g2,hg⟩:∃g:Grd,gridP f n s.t=g∧True:=⟨_,rfl,trivial⟩
 have HGD:=hid g2;rw [g2] at R6;obtain ⟨a7,c7,a8,c8,rfl⟩:=Grd.R.formS R6;have y6:Ext w6 (w6.alloc (.cells #[.int .i64 g1.n,.slice a7 g1.m c7,.int .i64 g1.tm,.int .i64 g1.t.log,.slice a8 g1.t.px.length c8] 135)):=X_;have bG:=Blk.new w6 135 [.int .i64 g1.n,.slice a7 g1.m c7,.int .i64 g1.tm,.int .i64 g1.t.log,.slice a8 g1.t.px.length c8];have HG6:=hid (R6.ext (Nat.le_refl _) y6);have X6:=hid (X5.out.trans (x6.trans y6));have HH6:=hid (HH5.out.ext (x6.trans y6));have B6:=HB5.out.ext (x6.trans y6);have HC6:=hid (HC5.out.ext (by have:=zw5;omega) (x6.trans y6));have z6:=(x6.trans y6).size;have zw6:=y6.size;obtain ⟨f0,f1⟩:=B6.q2;have lB6:=B6.lt;obtain ⟨i0,i1,i2,i3,i4⟩:=bG.q5;have lG:=bG.lt;clear R6 x6 y6 bG B6 hg g2 d7 d8 ls5 e0 e1 e2 e3 e4 e5 e6 e7 e8 e9 e10 e11 e25 lA5;go_wp2_with fail
 have hS:∃X Y bb,K.shade g1=(X,Y,bb):=⟨_,_,_,rfl⟩
 obtain ⟨X,Y,bb,hXY⟩:=hS
 have hXY2:(s.shade k).1=X∧(s.shade k).2=Y:=by
  rw [HSD.out,HKD.out,HGD.out,hXY];exact ⟨rfl,rfl⟩
 have HE:=hid hXY2;have HXY:=hid hXY;clear hXY hXY2;refine (iShadeGrid_any _ _ _ _ _ _ K g1 _ HXY.out HC6.out (by omega) HG6.out (by omega) HKK.out).mono ?_;rintro e w7 ⟨r1,r2,rfl,h,hh1,hh2,O1,O2,x7⟩;obtain ⟨ra,rc,rfl⟩:=O1.form;obtain ⟨sa,sc,rfl⟩:=O2.form;have B7:=HH6.out.ext x7;have HB7:=hid B7;have X7:=hid (X6.out.trans x7);have HO1:=hid O1;have HO2:=hid O2;obtain ⟨p0,p1⟩:=B7.q2;have q0:=B7.free 0;have q1:=B7.free 1;have lB7:=B7.lt;clear B7 O1 O2 x7 f0 f1 lB6 i0 i1 i2 i3 i4 lG;go_wp2;have bF:=(HB7.out.set 0 (.slice ra X.length rc)).set 1 (.slice sa Y.length sc);refine ret_box rfl rfl bF _ Tryz.underlying92 rfl info_shd rfl ?_;have ZA2:=ZF.out;refine ⟨_,_,rfl,h,by omega,by rw [World.size_setCell,World.size_setCell];exact hh2,?_,?_,?_⟩
 ·rw [HE.out.1]
  exact ((HO1.out.setLow (p:=⟨w.heap.size+1,0,none⟩) (by simp only;omega) _).setLow (p:=⟨w.heap.size+1,1,none⟩) (by simp only;omega) _).low' (by omega)
 ·rw [HE.out.2,World.size_setCell,World.size_setCell]
  exact (HO2.out.setLow (p:=⟨w.heap.size+1,0,none⟩) (by simp only;omega) _).setLow (p:=⟨w.heap.size+1,1,none⟩) (by simp only;omega) _
 ·exact Ext.setCell (Ext.setCell X7.out (by simp only;omega) _) (by simp only;omega) _
theorem Scn.R.formV {s:Scn} {lo hi:Nat} {w:World} {v:Value} (h:s.R lo hi w v):∃a1 c1 a2 c2 a3 c3,v = .agg #[.int .i64 s.c.w,.int .i64 s.c.h,.int .i64 s.c.zoom,.int .i64 s.c.near,.bool s.c.deep,.int .i64 s.c.lens,.int .i64 s.c.focus,.int .i64 s.t.log,.slice a1 s.t.px.length c1,.slice a2 s.ps.length c2,.slice a3 s.m c3,.int .i64 s.side]:=by
 obtain ⟨a1,c1,a2,c2,a3,c3,e,_⟩:=h.form;exact ⟨a1,c1,a2,c2,a3,c3,e⟩
def smpK (i j:Int) (side k:Nat):Smp:=
 ⟨i*16+((k % side:Nat):Int)*((16 / side:Nat):Int)+hashI [i,j,(k:Int),1] % ((16 / side:Nat):Int),j*16+((k / side:Nat):Int)*((16 / side:Nat):Int)+hashI [i,j,(k:Int),2] % ((16 / side:Nat):Int),
  hashI [i,j,(k:Int),3] % 16,hashI [i,j,(k:Int),4] % 33 - 16,hashI [i,j,(k:Int),5] % 33 - 16⟩
def pixS (i j:Int) (side:Nat):List Smp:=(List.range (side*side)).map (smpK i j side)
theorem pixS_length (i j:Int) (side:Nat):(pixS i j side).length=side*side:=by unfold pixS;simp
theorem smpK_at {i j:Int} {side k:Nat} (hs:side=1∨side=2∨side=4) (hk:k<side*side) :
  (i*16≤(smpK i j side k).x∧(smpK i j side k).x≤i*16+15)∧(j*16≤(smpK i j side k).y∧(smpK i j side k).y≤j*16+15)∧(0≤(smpK i j side k).t∧(smpK i j side k).t≤15) ∧
   (-16≤(smpK i j side k).lx∧(smpK i j side k).lx≤16)∧(-16≤(smpK i j side k).ly∧(smpK i j side k).ly≤16):=by
 have h1:k % side<side:=Nat.mod_lt _ (by omega);have h2:k / side<side:=Nat.div_lt_of_lt_mul hk;unfold smpK;simp only;generalize k % side=a at h1 ⊢;generalize k / side=b at h2 ⊢;generalize hashI [i,j,(k:Int),1]=p1;generalize hashI [i,j,(k:Int),2]=p2;generalize hashI [i,j,(k:Int),3]=p3;generalize hashI [i,j,(k:Int),4]=p4;generalize hashI [i,j,(k:Int),5]=p5
 rcases hs with rfl|rfl|rfl
 ·simp only [Nat.div_one];omega
 ·simp only [Nat.reduceDiv];omega
 ·simp only [Nat.reduceDiv];omega
theorem smpK_ok {c:Cam} (hc:c.okB=true) {i j:Int} {side k:Nat} (hi:0≤i∧i<c.w) (hj:0≤j∧j<c.h) (hs:side=1∨side=2∨side=4) (hk:k<side*side):Smp.okB c (smpK i j side k)=true:=by
 obtain ⟨a,b,d,e,f⟩:=smpK_at (i:=i) (j:=j) hs hk;unfold Smp.okB;simp only [Bool.and_eq_true,inB_iff];exact ⟨⟨⟨⟨⟨hc,by omega⟩,by omega⟩,by omega⟩,by omega⟩,by omega⟩
structure Stp where
 (d w:Int)
def Stp.cs (x:Stp):List Value:=[.int .i64 x.d,.int .i64 x.w]
def lastW (l:List Stp):Int:=match l.getLast? with|some x=>x.w|none=>65536
def deeper (l:List Stp) (d w:Int):List Stp:=if w<lastW l∧l.length<64 then l++[⟨d,w⟩] else l
def leftW (w al:Int):Int:=w - w*clampI al 0 256 / 256
def deepTo (l:List Frag):Nat→List Stp×Int
 | 0=>([],65536)
 | k+1=>match l[k]? with
  | none=>deepTo l k
  | some f=>(if (match l[k+1]? with|none=>true|some g=>decide (f.d<g.d)) then deeper (deepTo l k).1 f.d (leftW (deepTo l k).2 f.al) else (deepTo l k).1,leftW (deepTo l k).2 f.al)
def deepF (l:List Frag):List Stp:=(deepTo l l.length).1
def deepR (l:List Frag):List Frag:=insAll [] (l.filter fun f=>inB f.d (-1000000) 1000000)
def deepL (l:List Frag):List Stp:=deepF (deepR l)
structure StpOk (l:List Stp):Prop where
 len:l.length≤64
 bd:∀x∈l,(-1000000≤x.d∧x.d≤1000000)∧(0≤x.w∧x.w≤65535)
 sort:l.Pairwise fun a b=>a.d<b.d∧b.w<a.w
def transW (w0:Int) (l:List Stp) (z:Int):Int:=l.foldl (fun w x=>if x.d<z then x.w else w) w0
def transL (l:List Stp) (z:Int):Int:=transW 65536 l z
theorem transW_le {w0:Int} {l:List Stp} (z:Int) {m:Int} (h:∀x∈l,x.w≤m) (h0:w0≤m):transW w0 l z≤m:=by
 induction l generalizing w0 with
 | nil=>exact h0
 | cons x l ih=>
  show transW (if x.d<z then x.w else w0) l z≤m
  refine ih (fun y hy=>h y (List.mem_cons_of_mem _ hy)) ?_
  split
  ·exact h x (List.mem_cons_self ..)
  ·exact h0
theorem transW_ge {w0:Int} {l:List Stp} (z:Int) {m:Int} (h:∀x∈l,m≤x.w) (h0:m≤w0):m≤transW w0 l z:=by
 induction l generalizing w0 with
 | nil=>exact h0
 | cons x l ih=>
  show m≤transW (if x.d<z then x.w else w0) l z
  refine ih (fun y hy=>h y (List.mem_cons_of_mem _ hy)) ?_
  split
  ·exact h x (List.mem_cons_self ..)
  ·exact h0
theorem transW_none {w0:Int} {l:List Stp} {z:Int} (h:∀x∈l,z≤x.d):transW w0 l z=w0:=by
 induction l generalizing w0 with
 | nil=>rfl
 | cons x l ih=>
  show transW (if x.d<z then x.w else w0) l z=w0
  rw [if_neg (by have:=h x (List.mem_cons_self ..);omega)];exact ih fun y hy=>h y (List.mem_cons_of_mem _ hy)
theorem transW_mono {w0:Int} {l:List Stp} {z z':Int} (hz:z≤z') (hs:l.Pairwise fun a b=>a.d<b.d∧b.w<a.w) (h0:∀x∈l,x.w≤w0):transW w0 l z'≤transW w0 l z:=by
 induction l generalizing w0 with
 | nil=>exact Int.le_refl _
 | cons x l ih=>
  rw [List.pairwise_cons] at hs
  show transW (if x.d<z' then x.w else w0) l z'≤transW (if x.d<z then x.w else w0) l z
  by_cases h1:x.d<z
  ·rw [if_pos h1,if_pos (by omega)]
   exact ih hs.2 fun y hy=>by have:=(hs.1 y hy).2;omega
  ·rw [if_neg h1]
   by_cases h2:x.d<z'
   ·rw [if_pos h2,transW_none (w0:=w0) (l:=l) (z:=z) fun y hy=>by have:=(hs.1 y hy).1;omega]
    exact transW_le z' (fun y hy=>h0 y (List.mem_cons_of_mem _ hy)) (h0 x (List.mem_cons_self ..))
   ·rw [if_neg h2]
    exact ih hs.2 fun y hy=>h0 y (List.mem_cons_of_mem _ hy)
theorem StpOk.trans_mono {l:List Stp} (h:StpOk l) {z z':Int} (hz:z≤z'):transL l z'≤transL l z:=transW_mono hz h.sort fun x hx=>by have:=(h.bd x hx).2;omega
theorem StpOk.trans_bd {l:List Stp} (h:StpOk l) (z:Int):0≤transL l z∧transL l z≤65536:=
 ⟨transW_ge z (fun x hx=>(h.bd x hx).2.1) (by decide),transW_le z (fun x hx=>by have:=(h.bd x hx).2;omega) (by decide)⟩
theorem leftW_bd {w:Int} (al:Int) (h:0≤w):0≤leftW w al∧leftW w al≤w:=by
 have:=part_bd h (clamp256 al);unfold leftW;omega
theorem lastW_append (l:List Stp) (x:Stp):lastW (l++[x])=x.w:=by unfold lastW;simp
theorem lastW_le {l:List Stp} (h:StpOk l):lastW l≤65536∧∀x∈l,lastW l≤x.w:=by
 unfold lastW
 cases hl:l.getLast? with
 | none=>
  rw [List.getLast?_eq_none_iff] at hl;subst hl;exact ⟨Int.le_refl _,fun x hx=>by cases hx⟩
 | some y=>
  obtain ⟨r,rfl⟩:=List.getLast?_eq_some_iff.1 hl;refine ⟨by have:=(h.bd y (by simp)).2;show y.w≤65536;omega,fun x hx=>?_⟩
  show y.w≤x.w
  rw [List.mem_append,List.mem_singleton] at hx
  rcases hx with hx|rfl
  ·have:=(List.pairwise_append.1 h.sort).2.2 x hx y (by simp)
   omega
  ·exact Int.le_refl _
theorem SortF.d_le {l:List Frag} (h:SortF l) {i j:Nat} (hij:i<j) {f g:Frag} (hf:l[i]?=some f) (hg:l[j]?=some g):f.d≤g.d:=by
 obtain ⟨hi,rfl⟩:=List.getElem?_eq_some_iff.1 hf;obtain ⟨hj,rfl⟩:=List.getElem?_eq_some_iff.1 hg;have:=List.pairwise_iff_getElem.1 h i j hi hj hij;rw [Frag.lt_no] at this;omega
theorem deeper_ok {l:List Stp} {d w:Int} (h:StpOk l) (hw:0≤w∧w≤lastW l) (hd:∀x∈l,x.d<d) (hb : -1000000≤d∧d≤1000000) :
  StpOk (deeper l d w)∧w≤lastW (deeper l d w)∧∀x∈deeper l d w,x∈l∨x.d=d:=by
 obtain ⟨q1,q2⟩:=lastW_le h;unfold deeper
 split
 ·rename_i hc
  refine ⟨⟨by simp;omega,fun x hx=>?_,?_⟩,by rw [lastW_append];exact Int.le_refl _,fun x hx=>?_⟩
  ·rw [List.mem_append,List.mem_singleton] at hx
   rcases hx with hx|rfl
   ·exact h.bd x hx
   ·exact ⟨hb,by show 0≤w;omega,by show w≤65535;omega⟩
  ·rw [List.pairwise_append]
   refine ⟨h.sort,List.pairwise_singleton _ _,fun x hx y hy=>?_⟩;rw [List.mem_singleton] at hy;subst hy;exact ⟨hd x hx,by have:=q2 x hx;show w<x.w;omega⟩
  ·rw [List.mem_append,List.mem_singleton] at hx
   rcases hx with hx|rfl
   ·exact .inl hx
   ·exact .inr rfl
 ·exact ⟨h,hw.2,fun x hx=>.inl hx⟩
theorem deepTo_inv {l:List Frag} (hs:SortF l) (hr:∀f∈l,-1000000≤f.d∧f.d≤1000000):∀k,k≤l.length →
  StpOk (deepTo l k).1∧(0≤(deepTo l k).2∧(deepTo l k).2≤lastW (deepTo l k).1)∧(∀x∈(deepTo l k).1,∀g,l[k]?=some g→x.d<g.d)∧∀x∈(deepTo l k).1,∃f∈l,x.d=f.d:=by
 intro k
 induction k with
 | zero=>
  intro _
  show StpOk []∧((0:Int)≤65536∧(65536:Int)≤lastW [])∧(∀x∈([]:List Stp),∀g,l[0]?=some g→x.d<g.d)∧∀x∈([]:List Stp),∃f∈l,x.d=f.d
  refine ⟨⟨by decide,fun x hx=>?_,List.Pairwise.nil⟩,⟨by decide,by decide⟩,fun x hx=>?_,fun x hx=>?_⟩
  all_goals exact absurd hx (List.not_mem_nil)
 | succ k ih=>
  intro hk;obtain ⟨i1,i2,i3,i4⟩:=ih (by omega)
  have hf:l[k]?=some l[k]:=by simp
  obtain ⟨f,hfe⟩:∃f,l[k]=f:=⟨_,rfl⟩
  rw [hfe] at hf;have hfm:f∈l:=List.mem_of_getElem? hf;have lw:=leftW_bd f.al i2.1
  have e:deepTo l (k+1)=(if (match l[k+1]? with|none=>true|some g=>decide (f.d<g.d)) then deeper (deepTo l k).1 f.d (leftW (deepTo l k).2 f.al) else (deepTo l k).1,leftW (deepTo l k).2 f.al):=by
   show (match l[k]? with|none=>deepTo l k|some f=>_)=_
   rw [hf]
  rw [e];have hd:∀x∈(deepTo l k).1,x.d<f.d:=fun x hx=>i3 x hx f hf;obtain ⟨j1,j2,j3⟩:=deeper_ok (w:=leftW (deepTo l k).2 f.al) i1 ⟨lw.1,by omega⟩ hd (hr f hfm)
  cases hg:l[k+1]? with
  | none=>
   simp only [if_true];refine ⟨j1,⟨lw.1,j2⟩,fun x _ g h=>(by cases h),fun x hx=>?_⟩
   rcases j3 x hx with h|h
   ·exact i4 x h
   ·exact ⟨f,hfm,h⟩
  | some g=>
   have hfg:=hs.d_le (Nat.lt_succ_self k) hf hg
   by_cases hlt:f.d<g.d
   ·simp only [hlt,decide_true,if_true]
    refine ⟨j1,⟨lw.1,j2⟩,fun x hx g' h=>?_,fun x hx=>?_⟩
    ·rw [Option.some.injEq] at h
     subst h
     rcases j3 x hx with h|h
     ·have:=hd x h;omega
     ·omega
    ·rcases j3 x hx with h|h
     ·exact i4 x h
     ·exact ⟨f,hfm,h⟩
   ·simp only [hlt,decide_false,Bool.false_eq_true,if_false]
    refine ⟨i1,⟨lw.1,by show leftW (deepTo l k).2 f.al≤_;omega⟩,fun x hx g' h=>?_,i4⟩;rw [Option.some.injEq] at h;subst h;have:=hd x hx;omega
theorem deepR_sort (l:List Frag):SortF (deepR l):=insAll_sort List.Pairwise.nil _
theorem deepR_mem {l:List Frag}:∀f∈deepR l,f∈l∧(-1000000≤f.d∧f.d≤1000000):=by
 intro f hf;unfold deepR at hf;rw [mem_insAll] at hf
 rcases hf with h|h
 ·cases h
 ·rw [List.mem_filter,inB_iff] at h
  exact h
theorem deepL_ok (l:List Frag):StpOk (deepL l):=(deepTo_inv (deepR_sort l) (fun f hf=>(deepR_mem f hf).2) _ (Nat.le_refl _)).1
theorem deepL_near {l:List Frag} {m:Int} (h:∀f∈l,m≤f.d):∀x∈deepL l,m≤x.d:=by
 intro x hx;obtain ⟨f,hf,e⟩:=(deepTo_inv (deepR_sort l) (fun f hf=>(deepR_mem f hf).2) _ (Nat.le_refl _)).2.2.2 x hx;rw [e];exact h f (deepR_mem f hf).1
def lostI (l:List Stp) (z:Int):Int:=(65536 - transL l z) / 256
def sumI (xs:List Int):Int:=xs.foldl (· + ·) 0
def meanI (xs:List Int):Int:=fdiv (sumI xs) (xs.length:Nat)
theorem foldl_add (xs:List Int) (a:Int):xs.foldl (· + ·) a=a+sumI xs:=by
 unfold sumI
 induction xs generalizing a with
 | nil=>simp
 | cons x xs ih=>
  rw [List.foldl_cons,List.foldl_cons,ih,ih (0+x)];omega
theorem sumI_cons (x:Int) (xs:List Int):sumI (x::xs)=x+sumI xs:=by
 show xs.foldl (· + ·) (0+x)=_
 rw [foldl_add];omega
theorem sumI_append (xs ys:List Int):sumI (xs++ys)=sumI xs+sumI ys:=by
 unfold sumI;rw [List.foldl_append,foldl_add]
 rfl
theorem sumI_bd {xs:List Int} {m:Int} (h:∀x∈xs,0≤x∧x≤m):0≤sumI xs∧sumI xs≤m*(xs.length:Nat):=by
 induction xs with
 | nil=>exact ⟨by decide,by simp [sumI]⟩
 | cons x xs ih=>
  have a:=ih fun y hy=>h y (List.mem_cons_of_mem _ hy);have b:=h x (List.mem_cons_self ..);rw [sumI_cons,List.length_cons]
  have e:m*((xs.length+1:Nat):Int)=m*(xs.length:Nat)+m:=by
   rw [Int.natCast_add,Int.mul_add];simp
  omega
theorem sumI_mono {α : Type} {f g : α→Int} {l:List α} (h:∀x∈l,f x≤g x):sumI (l.map f)≤sumI (l.map g):=by
 induction l with
 | nil=>exact Int.le_refl _
 | cons x l ih=>
  rw [List.map_cons,List.map_cons,sumI_cons,sumI_cons];have:=h x (List.mem_cons_self ..);have:=ih fun y hy=>h y (List.mem_cons_of_mem _ hy);omega
theorem lostI_bd {l:List Stp} (h:StpOk l) (z:Int):0≤lostI l z∧lostI l z≤256:=by
 have:=h.trans_bd z;unfold lostI;omega
theorem lostI_mono {l:List Stp} (h:StpOk l) {z z':Int} (hz:z≤z'):lostI l z≤lostI l z':=by
 have:=h.trans_mono hz;unfold lostI;omega
def occI (ls:List (List Stp)) (z:Int):Int:=meanI (ls.map fun l=>lostI l z)
theorem occI_bd {ls:List (List Stp)} (h:∀l∈ls,StpOk l) (hn:ls≠[]) (z:Int):0≤occI ls z∧occI ls z≤256:=by
 have hl:1≤ls.length:=List.length_pos_iff.2 hn
 have b:=sumI_bd (xs:=ls.map fun l=>lostI l z) (m:=256) fun x hx=>by
  obtain ⟨l,hm,rfl⟩:=List.mem_map.1 hx;exact lostI_bd (h l hm) z
 rw [List.length_map] at b;unfold occI meanI;rw [List.length_map];exact ⟨fdiv_lo (by omega) (by omega),fdiv_hi (by omega) b.2⟩
theorem occI_mono {ls:List (List Stp)} (h:∀l∈ls,StpOk l) {z z':Int} (hz:z≤z'):occI ls z≤occI ls z':=by
 have b:=sumI_mono (f:=fun l=>lostI l z) (g:=fun l=>lostI l z') (l:=ls) fun l hl=>lostI_mono (h l hl) hz;unfold occI meanI;rw [List.length_map,List.length_map];unfold fdiv
 split
 ·exact Int.le_refl _
 ·exact Int.ediv_le_ediv (by omega) b
theorem occI_zero {ls:List (List Stp)} {z:Int} (h:∀l∈ls,∀x∈l,z≤x.d):occI ls z=0:=by
 have e:ls.map (fun l=>lostI l z)=ls.map (fun _=>0):=List.map_congr_left fun l hl=>by
  unfold lostI transL;rw [transW_none (h l hl)]
  decide
 have k:sumI (ls.map fun _=>(0:Int))=0:=by
  clear e h
  induction ls with
  | nil=>rfl
  | cons l ls ih=>rw [List.map_cons,sumI_cons,ih];rfl
 unfold occI meanI;rw [e,k];unfold fdiv
 split
 ·rfl
 ·exact Int.zero_ediv _
theorem iMean_val (lo hi:Nat) (v:Value) (xs:List Int) (w:World) (hv:Ints lo hi w v xs) (hb:∀x∈xs,0≤x∧x≤256) (hn:xs.length≤1000) :
  Calls Tryz.prog 49 #[v] w fun e w'=>e = .returned (.int .i64 (meanI xs))∧w=w':=by
 obtain ⟨a,cap,rfl,hx⟩:=hv.open;have HX:=hid hx;have HB:=hid hb;clear hv hx hb;go_enter Tryz.func49,Tryz.ntmps49;go_wp2_with fail
 go_loopw [3,8] (fun t i wr=>∃k:Nat,k≤xs.length∧i = .int .i64 (k:Nat)∧t = .int .i64 (sumI (xs.take k))∧w=wr) (fun _ i _=>xs.length - (intOf i).toNat)
 case atStart=>exact ⟨0,by omega,rfl,rfl,rfl⟩
 case round=>
  obtain ⟨k,hk,rfl,rfl,rfl⟩:=hrel;have hbd:=sumI_bd (xs:=xs.take k) (m:=256) fun x hx=>HB.out x (List.mem_of_mem_take hx);rw [List.length_take,Nat.min_eq_left hk] at hbd
  obtain ⟨t,ht⟩:∃t,sumI (xs.take k)=t:=⟨_,rfl⟩
  rw [ht] at hbd;rw [ht];have HT:=hid ht;clear ht
  rcases Nat.lt_or_ge k xs.length with hlt|hge
  ·obtain ⟨b,off,rfl,-,-,hc⟩:=HX.out.at hlt
   have hxb:=HB.out _ (List.getElem_mem hlt)
   obtain ⟨y,hy⟩:∃y,xs[k]=y:=⟨_,rfl⟩
   rw [hy] at hc hxb
   have hs:sumI (xs.take (k+1))=t+y:=by
    rw [List.take_succ_eq_append_getElem hlt,sumI_append,HT.out,hy];simp [sumI]
   have HS:=hid hs;have hcap:=HX.out.cap;have hle:=HX.out.le;clear hy hs;go_wp2;go_roundw
   case rel=>exact ⟨k+1,by omega,by go_num,by rw [HS.out],by trivial⟩
   case measure=>simp [intOf];omega
  ·obtain rfl:k=xs.length:=by omega
   have hm:fdiv t (xs.length:Nat)=meanI xs:=by
    unfold meanI;rw [←HT.out,List.take_length]
   have HM:=hid hm;clear hm;go_wp2_with fail;refine (iFloorDiv_val (by unfold I64;omega) HM.out _).mono ?_;rintro e w1 ⟨rfl,rfl⟩;go_wp2;go_ret;exact ⟨rfl,rfl⟩
theorem inImage_yes (c:Cam) (i j:Int) (hi:0≤i∧i<c.w) (hj:0≤j∧j<c.h) (hw:c.w≤100000) (hh:c.h≤100000) (w:World) :
  Calls Tryz.prog 50 #[.agg #[.int .i64 c.w,.int .i64 c.h,.int .i64 c.zoom,.int .i64 c.near,.bool c.deep,.int .i64 c.lens,.int .i64 c.focus],.int .i64 i,.int .i64 j] w fun e w'=>e = .returned (.bool true)∧Ext w w':=by
 have h1:inB i 0 (c.w - 1)=true:=by rw [inB_iff];omega
 have h2:inB j 0 (c.h - 1)=true:=by rw [inB_iff];omega
 have H1:=hid h1;have H2:=hid h2;clear h1 h2;go_enter Tryz.func50,Tryz.ntmps50;go_wp2_with (go_at_call 54;with_reducible first|(refine (within_val H1.out _).mono ?_;rintro e w1 ⟨rfl,rfl⟩)|(refine (within_val H2.out _).mono ?_;rintro e w1 ⟨rfl,rfl⟩));go_ret;exact ⟨rfl,X_⟩
theorem l01Once_any (hi B:Nat) (n:Int) (w:World) (hc:Cur hi w B) (h0:0<n) (hn:I64 n) :
  Calls Tryz.prog 142 #[.pointer (some ⟨B,0,none⟩),.int .i64 n] w fun e w'=>∃b:Bool,e = .returned (.bool b)∧Cur hi w' B∧Gr B w w':=by
 have HC:=hid hc;clear hc;go_enter Tryz.func142,Tryz.ntmps142;go_wp2_with fail;refine (l01Below_any hi B n _ HC.out h0 hn).mono ?_;rintro e w1 ⟨x,rfl,⟨x0,x1⟩,C1,G1⟩;go_wp2;go_ret;exact ⟨_,rfl,C1,G1⟩
theorem l01Str_any (hi B g n m:Nat) (xs:List ByteArray) (w:World) (hc:Cur hi w B) (hg:Blk w g 9 (xs.map Value.string)) (hne:g≠B) (hn:xs.length=n) (h1:1≤n) (h2:n≤1000) (hm:∀x∈xs,x.size≤m) :
  Calls Tryz.prog 292 #[.pointer (some ⟨B,0,none⟩),.slice (some ⟨g,0,none⟩) n n] w fun e w'=>∃x:ByteArray,e = .returned (.string x)∧x.size≤m∧Cur hi w' B∧Gr B w w':=by
 have HC:=hid hc;have HG:=hid hg;have HN:=hid hn;have HM:=hid hm;clear hc hg hn hm;go_enter Tryz.func292,Tryz.ntmps292;go_wp2_with fail;refine (l01Below_any hi B n _ HC.out (by omega) ⟨by omega,by omega⟩).mono ?_;rintro e w1 ⟨x,rfl,⟨x0,x1⟩,C1,G1⟩
 obtain ⟨k,rfl⟩:∃k:Nat,x=k:=⟨x.toNat,by omega⟩
 have B1:=G1.blk HG.out hne
 have hk:k<xs.length:=by rw [HN.out];omega
 have c0:=B1.cell k (v:=.string xs[k]) (by simp [hk]);have hm:=HM.out _ (List.getElem_mem hk)
 obtain ⟨y,hy⟩:∃y,xs[k]=y:=⟨_,rfl⟩
 rw [hy] at c0 hm;have z1:=B1.lt
 have hkn:k<n:=by omega
 clear hy hk;go_wp2;go_ret;exact ⟨y,rfl,hm,C1,G1⟩
def eb:Nat→Nat
 | 0=>4
 | d+1=>2*eb d+20
theorem eb_le {d:Nat} (h:d≤2):eb d≤76:=by
 rcases (show d=0∨d=1∨d=2 by omega) with rfl|rfl|rfl <;> decide
def leaves:List ByteArray:=[⟨#[117]⟩,⟨#[118]⟩,⟨#[120]⟩,⟨#[121]⟩,⟨#[122]⟩,⟨#[116]⟩,⟨#[49]⟩,⟨#[48,46,53]⟩,⟨#[50]⟩,⟨#[48,46,50,53]⟩]
theorem leaves_le:∀x∈leaves,x.size≤4:=by
 intro x hx;simp only [leaves,List.mem_cons,List.not_mem_nil,or_false] at hx
 rcases hx with rfl|rfl|rfl|rfl|rfl|rfl|rfl|rfl|rfl|rfl <;> decide
theorem sExpr_any (hi B:Nat):∀(d:Nat) (w:World),d≤3→Cur hi w B→Calls Tryz.prog 260 #[.pointer (some ⟨B,0,none⟩),.int .i64 (d:Nat)] w fun e w'=>∃s:ByteArray,e = .returned (.string s)∧s.size≤eb d∧Cur hi w' B∧Gr B w w':=by
 intro d
 induction d with
 | zero=>
  intro w hd hc;have HC:=hid hc;have hB:=hc.lt;clear hc;go_enter Tryz.func260,Tryz.ntmps260;go_wp2_with fail;have x1:Ext w (w.alloc (.cells (leaves.map Value.string).toArray 9)):=X_;refine (l01Str_any hi B w.heap.size 10 4 leaves _ (HC.out.ext x1) (Blk.new w 9 (leaves.map Value.string)) (by omega) rfl (by decide) (by decide) leaves_le).mono ?_;rintro e w1 ⟨s,rfl,hs,C1,G1⟩;go_wp2;go_ret;exact ⟨s,rfl,hs,C1,((Gr.refl B w).ext x1).trans G1⟩
 | succ d ih=>
  intro w hd hc;have HC:=hid hc;have hB:=hc.lt
  have hdn : ¬((d:Int)+1≤0):=by omega
  have he:=eb_le (show d≤2 by omega);have IH:=hid ih;clear hc ih;go_enter Tryz.func260,Tryz.ntmps260;go_wp2_with fail;refine (l01Once_any hi B 4 _ HC.out (by decide) ⟨by decide,by decide⟩).mono ?_;rintro e w1 ⟨b,rfl,C1,G1⟩;have z1:=G1.size
  cases b
  ·go_wp2_with fail
   refine (IH.out _ (by omega) C1).mono ?_;rintro e w2 ⟨s2,rfl,h2,C2,G2⟩;go_wp2_with fail;refine (IH.out _ (by omega) C2).mono ?_;rintro e w3 ⟨s3,rfl,h3,C3,G3⟩;go_wp2_with fail;refine (l01Below_any hi B 14 _ C3 (by decide) ⟨by decide,by decide⟩).mono ?_;rintro e w4 ⟨x,rfl,⟨x0,x1⟩,C4,G4⟩;have G5:=hid (((G1.trans G2).trans G3).trans G4);have HC4:=hid C4;have he2:eb (d+1)=2*eb d+20:=rfl;have HE:=hid he2
   have h2':s2.size≤76:=by omega
   have h3':s3.size≤76:=by omega
   have HS2:=hid h2;have HS3:=hid h3;clear C1 G1 C2 G2 C3 G3 C4 G4 he2 h2 h3 he;go_wp2
   all_goals go_ret
   all_goals refine ⟨_,rfl,?_,HC4.out,G5.out⟩
   all_goals
    have h2:s2.data.size≤eb d:=HS2.out;have h3:s3.data.size≤eb d:=HS3.out;rw [HE.out];clear HS2 HS3 HE h2' h3';simp only [ByteArray.size_append];simp only [ByteArray.size,List.size_toArray,List.length_cons,List.length_nil];omega
  ·go_wp2_with fail
   have x1:Ext w1 (w1.alloc (.cells (leaves.map Value.string).toArray 9)):=X_;refine (l01Str_any hi B w1.heap.size 10 4 leaves _ (C1.ext x1) (Blk.new w1 9 (leaves.map Value.string)) (by omega) rfl (by decide) (by decide) leaves_le).mono ?_;rintro e w2 ⟨s,rfl,hs,C2,G2⟩;go_wp2;go_ret;exact ⟨s,rfl,by show s.size≤2*eb d+20;omega,C2,(G1.ext x1).trans G2⟩
theorem sSource_any (hi B:Nat) (w:World) (hc:Cur hi w B):Calls Tryz.prog 203 #[.pointer (some ⟨B,0,none⟩)] w fun e w'=>∃s:ByteArray,e = .returned (.string s)∧s.size≤2000∧Cur hi w' B∧Gr B w w':=by
 have HC:=hid hc;clear hc;have e1:eb 1=28:=rfl;have e2:eb 2=76:=rfl;have e3:eb 3=172:=rfl;go_enter Tryz.func203,Tryz.ntmps203;go_wp2_with fail;refine (l01Once_any hi B 2 _ HC.out (by decide) ⟨by decide,by decide⟩).mono ?_;rintro e w1 ⟨b,rfl,C1,G1⟩
 cases b
 ·go_wp2_with fail
  refine (sExpr_any hi B 3 _ (by decide) C1).mono ?_;rintro e w2 ⟨s2,rfl,h2,C2,G2⟩
  have g2:s2.data.size≤172:=by rw [e3] at h2;exact h2
  replace G2:=G1.trans G2;clear C1 G1;go_wp2_with fail;refine (l01Once_any hi B 3 _ C2 (by decide) ⟨by decide,by decide⟩).mono ?_;rintro e w4 ⟨b,rfl,C4,G4⟩;replace G4:=G2.trans G4;clear C2 G2
  cases b
  ·go_wp2
   go_ret;refine ⟨_,rfl,?_,C4,G4⟩;simp only [ByteArray.size_append];simp only [ByteArray.size,List.size_toArray,List.length_cons,List.length_nil];omega
  ·go_wp2_with fail
   refine (sExpr_any hi B 1 _ (by decide) C4).mono ?_;rintro e w5 ⟨s5,rfl,h5,C5,G5⟩
   have g5:s5.data.size≤28:=by rw [e1] at h5;exact h5
   replace G5:=G4.trans G5;clear C4 G4;go_wp2;go_ret;refine ⟨_,rfl,?_,C5,G5⟩;simp only [ByteArray.size_append];simp only [ByteArray.size,List.size_toArray,List.length_cons,List.length_nil];omega
 ·go_wp2_with fail
  refine (sExpr_any hi B 2 _ (by decide) C1).mono ?_;rintro e w2 ⟨s2,rfl,h2,C2,G2⟩
  have g2:s2.data.size≤76:=by rw [e2] at h2;exact h2
  replace G2:=G1.trans G2;clear C1 G1;go_wp2_with fail;refine (sExpr_any hi B 3 _ (by decide) C2).mono ?_;rintro e w3 ⟨s3,rfl,h3,C3,G3⟩
  have g3:s3.data.size≤172:=by rw [e3] at h3;exact h3
  replace G3:=G2.trans G3;clear C2 G2;go_wp2_with fail;refine (l01Once_any hi B 3 _ C3 (by decide) ⟨by decide,by decide⟩).mono ?_;rintro e w4 ⟨b,rfl,C4,G4⟩;replace G4:=G3.trans G4;clear C3 G3
  cases b
  ·go_wp2
   go_ret;refine ⟨_,rfl,?_,C4,G4⟩;simp only [ByteArray.size_append];simp only [ByteArray.size,List.size_toArray,List.length_cons,List.length_nil];omega
  ·go_wp2_with fail
   refine (sExpr_any hi B 1 _ (by decide) C4).mono ?_;rintro e w5 ⟨s5,rfl,h5,C5,G5⟩
   have g5:s5.data.size≤28:=by rw [e1] at h5;exact h5
   replace G5:=G4.trans G5;clear C4 G4;go_wp2;go_ret;refine ⟨_,rfl,?_,C5,G5⟩;simp only [ByteArray.size_append];simp only [ByteArray.size,List.size_toArray,List.length_cons,List.length_nil];omega
def Cam.ls (c:Cam):List Value:=[.int .i64 c.w,.int .i64 c.h,.int .i64 c.zoom,.int .i64 c.near,.bool c.deep,.int .i64 c.lens,.int .i64 c.focus]
structure Cam.Sm (c:Cam):Prop where
 w:2≤c.w∧c.w≤5
 h:2≤c.h∧c.h≤5
 zoom:1≤c.zoom∧c.zoom≤65536
 near:20≤c.near∧c.near≤80
 lens:0≤c.lens∧c.lens≤64
 focus:0≤c.focus∧c.focus≤1000000
theorem Cam.Sm.okB {c:Cam} (h:c.Sm):c.okB=true:=Cam.okB_iff.2 ⟨by have:=h.w;omega,by have:=h.h;omega,h.zoom,by have:=h.near;omega,h.lens,h.focus⟩
theorem Gr.keep {B:Nat} {w w1:World} (h:Gr B w w1) {g:Nat} (hg:g<w.heap.size) (ne:g≠B):w1.heap[g]?=w.heap[g]?:=h.block g hg (fun e=>ne (by simpa using e))
theorem l08Draw_any (hi B:Nat) (w:World) (hc:Cur hi w B):Calls Tryz.prog 137 #[.pointer (some ⟨B,0,none⟩)] w fun e w'=>∃c:Cam,e = .returned (.agg #[.int .i64 c.w,.int .i64 c.h,.int .i64 c.zoom,.int .i64 c.near,.bool c.deep,.int .i64 c.lens,.int .i64 c.focus])∧c.Sm∧Cur hi w' B∧Gr B w w':=by
 have zB:=hc.lt;have q0:=Blk.new w 24 [.int .i64 0,.int .i64 0,.int .i64 0,.int .i64 0,.bool false,.int .i64 0,.int .i64 0];have x0:Ext w (w.alloc (.cells #[.int .i64 0,.int .i64 0,.int .i64 0,.int .i64 0,.bool false,.int .i64 0,.int .i64 0] 24)):=X_;have HQ:=hid q0;have HC0:=hid (hc.ext x0);have HX0:=hid x0;have z1:(w.alloc (.cells #[.int .i64 0,.int .i64 0,.int .i64 0,.int .i64 0,.bool false,.int .i64 0,.int .i64 0] 24)).heap.size=w.heap.size+1:=World.size_alloc _ _;clear hc q0 x0;go_enter Tryz.func137,Tryz.ntmps137;go_wp2_with fail;refine (l01Below_any hi B 4 _ HC0.out (by decide) ⟨by decide,by decide⟩).mono ?_;rintro e w1 ⟨a,rfl,ha,C1,G1⟩;go_wp2_with fail;refine (l01Below_any hi B 4 _ C1 (by decide) ⟨by decide,by decide⟩).mono ?_;rintro e w2 ⟨b,rfl,hb,C2,G2⟩;go_wp2_with fail;refine (l01Below_any hi B 200 _ C2 (by decide) ⟨by decide,by decide⟩).mono ?_;rintro e w3 ⟨c,rfl,hcz,C3,G3⟩;go_wp2_with fail;refine (l01Below_any hi B 60 _ C3 (by decide) ⟨by decide,by decide⟩).mono ?_;rintro e w4 ⟨d,rfl,hd,C4,G4⟩;have G5:=((Gr.refl B w).ext HX0.out).trans (((G1.trans G2).trans G3).trans G4);have R4:=(((G1.trans G2).trans G3).trans G4).blk HQ.out (by omega);have HG:=hid G5;have HR:=hid R4;have HC4:=hid C4;clear C1 G1 C2 G2 C3 G3 C4 G4 G5 R4 HC0 HQ HX0;go_wp2_with fail;have b5:=Blk.new w4 24 [.int .i64 (2+a),.int .i64 (2+b),.int .i64 (60+c),.int .i64 (20+d),.bool false,.int .i64 0,.int .i64 0];have x5:Ext w4 (w4.alloc (.cells #[.int .i64 (2+a),.int .i64 (2+b),.int .i64 (60+c),.int .i64 (20+d),.bool false,.int .i64 0,.int .i64 0] 24)):=X_;have HB5:=hid b5;have HC5:=hid (HC4.out.ext x5);have HG5:=hid (HG.out.ext x5);have HR5:=hid (HR.out.ext x5);have z5:=HG.out.size
 have hA:w.heap.size<w4.heap.size:=by have:=HR.out.lt;omega
 clear b5 x5 HC4 HG HR;refine (l01Once_any hi B 2 _ HC5.out (by decide) ⟨by decide,by decide⟩).mono ?_;rintro e w6 ⟨o1,rfl,C6,G6⟩;have B6:=G6.blk HB5.out (by omega);have R6:=G6.blk HR5.out (by omega);have HB6:=hid B6;have HR6:=hid R6;have HC6:=hid C6;have HG6:=hid (HG5.out.trans G6);clear B6 R6 C6 G6 HB5 HC5 HG5 HR5
 cases o1
 case' true=>
  have f4:=HB6.out.free 4;have c4:=HB6.out.cell 4 rfl;have l6:=HB6.out.lt;go_wp2_with fail;have B7:=HB6.out.set 4 (.bool true);have C7:=HC6.out.setNew (b:=w4.heap.size) (by omega) 4 (.bool true);have G7:=HG6.out.setNew (b:=w4.heap.size) (by omega) 4 (.bool true);have R7:=HR6.out.other (a:=⟨w4.heap.size,4,none⟩) (by simp only;omega) (.bool true);refine (l01Below_any hi B 120 _ C7 (by decide) ⟨by decide,by decide⟩).mono ?_;rintro e w8 ⟨p,rfl,hp,C8,G8⟩;have B8:=G8.blk B7 (by omega);have R8:=G8.blk R7 (by omega);have HB8:=hid B8;have HR8:=hid R8;have HC8:=hid C8;have HG8:=hid (G7.trans G8);clear B7 C7 G7 R7 B8 R8 C8 G8 HB6 HC6 HG6 HR6 f4 c4 l6;have f2:=HB8.out.free 2;have c2:=HB8.out.cell 2 rfl;have l8:=HB8.out.lt;go_wp2_with fail
  obtain ⟨cm,hcm,bX⟩:∃c:Cam,c.Sm∧Blk (w8.setCell ⟨w4.heap.size,2,none⟩ (.int .i64 (60+p))) w4.heap.size 24 c.ls:=⟨⟨2+a,2+b,60+p,20+d,true,0,0⟩,⟨by simp only;omega,by simp only;omega,by simp only;omega,by simp only;omega,by simp only;omega,by simp only;omega⟩,HB8.out.set 2 _⟩
  have HBX:=hid bX;have HCX:=hid (HC8.out.setNew (b:=w4.heap.size) (by omega) 2 (.int .i64 (60+p)));have HGX:=hid (HG8.out.setNew (b:=w4.heap.size) (by omega) 2 (.int .i64 (60+p)));have HRX:=hid (HR8.out.other (a:=⟨w4.heap.size,2,none⟩) (by simp only;omega) (.int .i64 (60+p)));clear bX HB8 HR8 HC8 HG8 f2 c2 l8
 case' false=>
  obtain ⟨cm,hcm,bX⟩:∃c:Cam,c.Sm∧Blk w6 w4.heap.size 24 c.ls:=⟨⟨2+a,2+b,60+c,20+d,false,0,0⟩,⟨by simp only;omega,by simp only;omega,by simp only;omega,by simp only;omega,by simp only;omega,by simp only;omega⟩,HB6.out⟩
  have HBX:=hid bX;have HCX:=HC6;have HGX:=HG6;have HRX:=HR6;clear bX HB6 HC6 HG6 HR6;go_wp2_with fail
 all_goals
  refine (l01Once_any hi B 3 _ HCX.out (by decide) ⟨by decide,by decide⟩).mono ?_;rintro e w9 ⟨o2,rfl,C9,G9⟩;have B9:=G9.blk HBX.out (by omega);have R9:=G9.blk HRX.out (by omega);have HB9:=hid B9;have HR9:=hid R9;have HC9:=hid C9;have HG9:=hid (HGX.out.trans G9);clear B9 R9 C9 G9 HBX HRX HCX HGX
  cases o2
  case' true=>
   go_wp2_with fail;refine (l01Below_any hi B 40 _ HC9.out (by decide) ⟨by decide,by decide⟩).mono ?_;rintro e v1 ⟨p1,rfl,hp1,C1,G1⟩;have B1:=G1.blk HB9.out (by omega);have R1:=G1.blk HR9.out (by omega);have HB1:=hid B1;have HR1:=hid R1;have HC1:=hid C1;have HG1:=hid (HG9.out.trans G1);clear B1 R1 C1 G1 HB9 HR9 HC9 HG9;have f5:=HB1.out.free 5;have c5:=HB1.out.cell 5 rfl;have l1:=HB1.out.lt;go_wp2_with fail;have B7:=HB1.out.set 5 (.int .i64 (8+p1));have C7:=HC1.out.setNew (b:=w4.heap.size) (by omega) 5 (.int .i64 (8+p1));have G7:=HG1.out.setNew (b:=w4.heap.size) (by omega) 5 (.int .i64 (8+p1));have R7:=HR1.out.other (a:=⟨w4.heap.size,5,none⟩) (by simp only;omega) (.int .i64 (8+p1));refine (l01Below_any hi B 200 _ C7 (by decide) ⟨by decide,by decide⟩).mono ?_;rintro e v2 ⟨p2,rfl,hp2,C2,G2⟩;have B2:=G2.blk B7 (by omega);have R2:=G2.blk R7 (by omega);have HB2:=hid B2;have HR2:=hid R2;have HC2:=hid C2;have HG2:=hid (G7.trans G2);clear B7 C7 G7 R7 B2 R2 C2 G2 HB1 HR1 HC1 HG1 f5 c5 l1
   obtain ⟨cn,hcn,bX⟩:∃c:Cam,c.Sm∧Blk (v2.setCell ⟨w4.heap.size,6,none⟩ (.int .i64 (60+p2))) w4.heap.size 24 c.ls:=⟨⟨cm.w,cm.h,cm.zoom,cm.near,cm.deep,8+p1,60+p2⟩,⟨hcm.w,hcm.h,hcm.zoom,hcm.near,by simp only;omega,by simp only;omega⟩,HB2.out.set 6 _⟩
   have f6:=HB2.out.free 6;have c6:=HB2.out.cell 6 rfl;have l2:=HB2.out.lt;have zv:=HG2.out.size;have HBY:=hid bX;have HCY:=hid (HC2.out.setNew (b:=w4.heap.size) (by omega) 6 (.int .i64 (60+p2)));have HGY:=hid (HG2.out.setNew (b:=w4.heap.size) (by omega) 6 (.int .i64 (60+p2)));have HRY:=hid (HR2.out.other (a:=⟨w4.heap.size,6,none⟩) (by simp only;omega) (.int .i64 (60+p2)));clear bX HB2 HR2 HC2 HG2;go_upto_region 8 with fail;clear f6 c6 l2
  case' false=>
   obtain ⟨cn,hcn,bX⟩:∃c:Cam,c.Sm∧Blk w9 w4.heap.size 24 c.ls:=⟨cm,hcm,HB9.out⟩
   have HBY:=hid bX;have HCY:=HC9;have HGY:=HG9;have HRY:=HR9;clear bX HB9 HC9 HG9 HR9;go_upto_region 8 with fail
  all_goals
   obtain ⟨d0,d1,d2,d3,d4,d5,d6⟩:=HBY.out.q7;obtain ⟨e0,e1,e2,e3,e4,e5,e6⟩:=HRY.out.q7;have g0:=HRY.out.free 0;have g1:=HRY.out.free 1;have g2:=HRY.out.free 2;have g3:=HRY.out.free 3;have g4:=HRY.out.free 4;have g5:=HRY.out.free 5;have g6:=HRY.out.free 6;have lY:=HBY.out.lt;have lZ:=HRY.out.lt;clear hcm;go_wp2;refine bodyPost_ret (v:=.agg #[.int .i64 cn.w,.int .i64 cn.h,.int .i64 cn.zoom,.int .i64 cn.near,.bool cn.deep,.int .i64 cn.lens,.int .i64 cn.focus]) (by simp [results,Tryz.results137,go_sem, *]) rfl ?_;exact ⟨cn,rfl,hcn,((((((HCY.out.setNew (by omega) _ _).setNew (by omega) _ _).setNew (by omega) _ _).setNew (by omega) _ _).setNew (by omega) _ _).setNew (by omega) _ _).setNew (by omega) _ _,((((((HGY.out.setNew (Nat.le_refl _) _ _).setNew (Nat.le_refl _) _ _).setNew (Nat.le_refl _) _ _).setNew (Nat.le_refl _) _ _).setNew (Nat.le_refl _) _ _).setNew (Nat.le_refl _) _ _).setNew (Nat.le_refl _) _ _⟩
theorem ints4 {w:World} {g:Nat} {a b c d:Int} (h:Blk w g 3 [.int .i64 a,.int .i64 b,.int .i64 c,.int .i64 d]) (hi:∀y∈[a,b,c,d],I64 y):Ints 0 w.heap.size w (.slice (some ⟨g,0,none⟩) 4 4) [a,b,c,d]:=
 ⟨_,4,rfl,Nat.le_refl _,by unfold maxLen;omega,fun i y hy=>⟨hi y (List.mem_of_getElem? hy),g,0,rfl,Nat.zero_le _,h.lt,by
  rw [Nat.zero_add];have e:=congrArg (Option.map (Value.int .i64)) hy;rw [←List.getElem?_map] at e
  exact h.cell i e⟩⟩
theorem info_SmpT:(Tryz.prog.info? 34).map (fun i=>(i.zero,i.size,i.bytes))=some (some (.agg #[.int .i64 0,.int .i64 0,.int .i64 0,.int .i64 0,.int .i64 0]),5,40):=by kernel_rfl
theorem Smp.one (x:Smp):∀u∈x.cs,u.oneCell'=true:=by
 intro u hu;simp only [Smp.cs,List.mem_cons,List.not_mem_nil,or_false] at hu
 rcases hu with rfl|rfl|rfl|rfl|rfl <;> rfl
theorem OwnG.freshS {α : Type} {cs : α→List Value} {lo g:Nat} {e:TypeId} {sz:Nat} {w:World} (hl:lo≤g) (h:Blk w g e []):OwnG cs lo e sz w (.slice (some ⟨g,0,none⟩) 0 0) []:=
 ⟨by simp,.inr ⟨g,0,#[],rfl,hl,h,Nat.le_refl _,by unfold maxLen;omega,by simp,by simp⟩⟩
theorem range_snoc {α : Type} (f:Nat→α) (n:Nat):(List.range (n+1)).map f=(List.range n).map f++[f n]:=by rw [List.range_succ,List.map_append,List.map_singleton]
def cmpI (a b:Int):Int:=if a<b then -1 else if b<a then 1 else 0
def or3 (x y z:Int):Int:=if x=0 then (if y=0 then z else y) else x
def Frag.cmp (a b:Frag):Int:=or3 (cmpI a.d b.d) (cmpI a.s b.s) (cmpI a.c b.c)
theorem cmpI_lt {a b:Int} (h:a<b):cmpI a b = -1:=by unfold cmpI;rw [if_pos h]
theorem cmpI_eq (a:Int):cmpI a a=0:=by unfold cmpI;rw [if_neg (Int.lt_irrefl _),if_neg (Int.lt_irrefl _)]
theorem cmpI_gt {a b:Int} (h:b<a):cmpI a b=1:=by unfold cmpI;rw [if_neg (by omega),if_pos h]
theorem Frag.cmp_lt (a b:Frag):decide (a.cmp b<0)=a.lt b:=by
 cases hl:a.lt b
 ·rw [Frag.lt_no] at hl
  refine decide_eq_false ?_;unfold Frag.cmp or3
  rcases Int.lt_trichotomy a.d b.d with h|h|h
  ·exact absurd (.inl h) hl
  ·rw [h,cmpI_eq,if_pos rfl]
   rcases Int.lt_trichotomy a.s b.s with k|k|k
   ·exact absurd (.inr ⟨h,.inl k⟩) hl
   ·rw [k,cmpI_eq,if_pos rfl]
    rcases Int.lt_trichotomy a.c b.c with l|l|l
    ·exact absurd (.inr ⟨h,.inr ⟨k,l⟩⟩) hl
    ·rw [l,cmpI_eq];decide
    ·rw [cmpI_gt l];decide
   ·rw [cmpI_gt k,if_neg (by decide)];decide
  ·rw [cmpI_gt h,if_neg (by decide)];decide
 ·rw [Frag.lt_iff] at hl
  refine decide_eq_true ?_;unfold Frag.cmp or3
  rcases hl with h|⟨h,k|⟨k,l⟩⟩
  ·rw [cmpI_lt h,if_neg (by decide)];decide
  ·rw [h,cmpI_eq,if_pos rfl,cmpI_lt k,if_neg (by decide)];decide
  ·rw [h,cmpI_eq,if_pos rfl,k,cmpI_eq,if_pos rfl,cmpI_lt l];decide
theorem isNaN_val (n:Int) (w:World):Calls Tryz.prog 117 #[.int .i64 n] w fun e w'=>e = .returned (.bool false)∧w=w':=by
 go_enter Tryz.func117,Tryz.ntmps117;go_wp2;go_ret;exact ⟨rfl,rfl⟩
theorem cmpInt_val {a b c:Int} (h:cmpI a b=c) (w:World):Calls Tryz.prog 65 #[.int .i64 a,.int .i64 b] w fun e w'=>e = .returned (.int .i64 c)∧w=w':=by
 have H:=hid h;clear h
 by_cases h1:a<b
 ·have e:c = -1:=by rw [←H.out];unfold cmpI;rw [if_pos h1]
  subst e;go_enter Tryz.func65,Tryz.ntmps65;go_wp2_with (first|(go_at_call 117;refine (isNaN_val _ _).mono ?_;rintro e w1 ⟨rfl,rfl⟩));go_ret;exact ⟨rfl,rfl⟩
 ·by_cases h2:b<a
  ·have e:c=1:=by rw [←H.out];unfold cmpI;rw [if_neg h1,if_pos h2]
   subst e;go_enter Tryz.func65,Tryz.ntmps65;go_wp2_with (first|(go_at_call 117;refine (isNaN_val _ _).mono ?_;rintro e w1 ⟨rfl,rfl⟩));go_ret;exact ⟨rfl,rfl⟩
  ·have e:c=0:=by rw [←H.out];unfold cmpI;rw [if_neg h1,if_neg h2]
   subst e;go_enter Tryz.func65,Tryz.ntmps65;go_wp2_with (first|(go_at_call 117;refine (isNaN_val _ _).mono ?_;rintro e w1 ⟨rfl,rfl⟩));go_ret;exact ⟨rfl,rfl⟩
theorem or3_val {x y z r:Int} (h:or3 x y z=r) (g:Nat) (w:World) (hb:Blk w g 3 [.int .i64 x,.int .i64 y,.int .i64 z]):Calls Tryz.prog 64 #[.slice (some ⟨g,0,none⟩) 3 3] w fun e w'=>e = .returned (.int .i64 r)∧w=w':=by
 have H:=hid h;obtain ⟨c0,c1,c2⟩:=hb.q3;have lg:=hb.lt;clear h hb;go_enter Tryz.func64,Tryz.ntmps64;go_wp2
 go_loopw [8] (fun i wr=>∃k:Nat,k≤3∧i = .int .i64 (k:Nat)∧w=wr∧(1≤k→x=0)∧(2≤k→y=0)∧(3≤k→z=0)) (fun i _=>3 - (intOf i).toNat)
 case atStart=>exact ⟨0,by omega,rfl,rfl,fun h=>absurd h (by omega),fun h=>absurd h (by omega),fun h=>absurd h (by omega)⟩
 case round=>
  obtain ⟨k,hk,rfl,rfl,h1,h2,h3⟩:=hrel;have H1:=hid h1;have H2:=hid h2;have H3:=hid h3;clear h1 h2 h3
  rcases (show k=0∨k=1∨k=2∨k=3 by omega) with rfl|rfl|rfl|rfl
  ·by_cases hx:x=0
   ·have HX:=hid hx
    go_wp2;go_roundw
    case rel=>exact ⟨1,by omega,by go_num,by trivial,fun _=>HX.out,fun h=>absurd h (by omega),fun h=>absurd h (by omega)⟩
    case measure=>simp [intOf]
   ·have HR:=hid (show x=r by rw [←H.out];unfold or3;rw [if_neg hx])
    go_wp2;go_ret;exact ⟨ret_int HR.out,rfl⟩
  ·have HX0:=hid (H1.out (by omega))
   by_cases hy:y=0
   ·have HY:=hid hy
    go_wp2;go_roundw
    case rel=>exact ⟨2,by omega,by go_num,by trivial,fun _=>HX0.out,fun _=>HY.out,fun h=>absurd h (by omega)⟩
    case measure=>simp [intOf]
   ·have HR:=hid (show y=r by rw [←H.out];unfold or3;rw [if_pos HX0.out,if_neg hy])
    go_wp2;go_ret;exact ⟨ret_int HR.out,rfl⟩
  ·have HX0:=hid (H1.out (by omega))
   have HY0:=hid (H2.out (by omega))
   by_cases hz:z=0
   ·have HZ:=hid hz
    go_wp2;go_roundw
    case rel=>exact ⟨3,by omega,by go_num,by trivial,fun _=>HX0.out,fun _=>HY0.out,fun _=>HZ.out⟩
    case measure=>simp [intOf]
   ·have HR:=hid (show z=r by rw [←H.out];unfold or3;rw [if_pos HX0.out,if_pos HY0.out])
    go_wp2;go_ret;exact ⟨ret_int HR.out,rfl⟩
  ·have HR:=hid (show 0=r by rw [←H.out];unfold or3;rw [if_pos (H1.out (by omega)),if_pos (H2.out (by omega)),H3.out (by omega)])
   go_wp2;go_ret;exact ⟨ret_int HR.out,rfl⟩
theorem cmpFrag_val {a b:Frag} {r:Int} (h:a.cmp b=r) (w:World) :
  Calls Tryz.prog 103 #[.agg #[.int .i64 a.d,.int .i64 a.s,.int .i64 a.c,.int .i64 a.col,.int .i64 a.al],.agg #[.int .i64 b.d,.int .i64 b.s,.int .i64 b.c,.int .i64 b.col,.int .i64 b.al]] w fun e w'=>e = .returned (.int .i64 r)∧Ext w w':=by
 obtain ⟨c0,h0⟩:∃n,cmpI a.d b.d=n:=⟨_,rfl⟩
 obtain ⟨c1,h1⟩:∃n,cmpI a.s b.s=n:=⟨_,rfl⟩
 obtain ⟨c2,h2⟩:∃n,cmpI a.c b.c=n:=⟨_,rfl⟩
 unfold Frag.cmp at h;rw [h0,h1,h2] at h;have H:=hid h;have H0:=hid h0;have H1:=hid h1;have H2:=hid h2;clear h h0 h1 h2;go_enter Tryz.func103,Tryz.ntmps103;go_wp2;refine wp_region_stages [([0,1,2,3,5,6,7,8,10,11,12,13],4),([],9),([],14),([],15),([],16),([],17)] 17 (w.heap.size+1+1) (by kernel_rfl) (by kernel_rfl) ?_;refine st_ fun K hK=>?_;go_wp2_with fail;refine (cmpInt_val H0.out _).mono ?_;rintro e w1 ⟨rfl,rfl⟩;go_wp2_with fail;refine hK _ _ (.inr (fun k _ hk=>Ext.block X_ (by first|omega|(simp;omega)))) ?_;clear hK K;refine st_ fun K hK=>?_;go_wp2_with fail;refine (cmpInt_val H1.out _).mono ?_;rintro e w1 ⟨rfl,rfl⟩;go_wp2_with fail;refine hK _ _ (.inr (fun k _ hk=>Ext.block X_ (by first|omega|(simp;omega)))) ?_;clear hK K;refine st_ fun K hK=>?_;go_wp2_with fail;refine (cmpInt_val H2.out _).mono ?_;rintro e w1 ⟨rfl,rfl⟩;go_wp2_with fail;refine hK _ _ (.inr (fun k _ hk=>Ext.block X_ (by first|omega|(simp;omega)))) ?_;clear hK K;refine st_ fun K hK=>?_;go_wp2_with fail;refine hK _ _ (.inr (fun k _ hk=>Ext.block X_ (by first|omega|(simp;omega)))) ?_;clear hK K
 obtain ⟨W5,hW5⟩:∃W5,((((w.alloc (.cells #[.int .i64 a.d,.int .i64 a.s,.int .i64 a.c,.int .i64 a.col,.int .i64 a.al] 47)).alloc (.cells #[.int .i64 b.d,.int .i64 b.s,.int .i64 b.c,.int .i64 b.col,.int .i64 b.al] 47)).alloc (.cells #[.int .i64 c0,.int .i64 c1,.int .i64 c2] 3)).drew)=W5:=⟨_,rfl⟩
 have hb:Blk W5 (w.heap.size+1+1) 3 [.int .i64 c0,.int .i64 c1,.int .i64 c2]:=by
  rw [←hW5];have h:=Blk.new ((w.alloc (.cells #[.int .i64 a.d,.int .i64 a.s,.int .i64 a.c,.int .i64 a.col,.int .i64 a.al] 47)).alloc (.cells #[.int .i64 b.d,.int .i64 b.s,.int .i64 b.c,.int .i64 b.col,.int .i64 b.al] 47)) 3 [.int .i64 c0,.int .i64 c1,.int .i64 c2];simp only [World.size_alloc] at h;exact h.ext (Ext.drew (Ext.refl _))
 have HB:=hid hb
 have x5:Ext ((w.alloc (.cells #[.int .i64 a.d,.int .i64 a.s,.int .i64 a.c,.int .i64 a.col,.int .i64 a.al] 47)).alloc (.cells #[.int .i64 b.d,.int .i64 b.s,.int .i64 b.c,.int .i64 b.col,.int .i64 b.al] 47)) W5:=by rw [←hW5];exact X_
 have y5:Ext w W5:=Ext.trans X_ x5;rw [hW5];clear hb hW5;refine st_ fun K hK=>?_;go_wp2_with fail;refine (or3_val H.out _ _ HB.out).mono ?_;rintro e w1 ⟨rfl,rfl⟩;go_wp2_with fail;refine hK _ _ (.inr (x5.same (by simp))) ?_;clear hK K;refine st_ fun K hK=>?_;go_wp2_with fail;refine hK _ _ (.inl (by trivial)) ?_;clear hK K;refine wpStages_nil ?_;go_wp2;go_ret;exact ⟨rfl,y5⟩
section
variable {P : Program}
theorem run_copy_rowK (w:World) (dT sT ty elem:TypeId) (g o dLen dCap:Nat) (a:Addr) (sLen sCap:Nat) (cur:Array Value) (t:TypeId) (cs:List Value) (k m:Nat)
  (hu:P.underlying dT=some (.slice elem)) (hs:(P.info? elem).map (·.size)=some k)
  (hg:w.heap[g]?=some (.cells cur t (0,0))) (hm:m=Nat.min sLen dLen) (hn:cs.length=m*k)
  (hsrc:∀j v,cs[j]?=some v→w.cell? (a.add j)=some v) (hfit:o+cs.length≤cur.size) (h1:∀v∈cs,v.oneCell'=true) :
  (Builtin.copy_ #[dT,sT] ty #[.slice (some ⟨g,o,none⟩) dLen dCap,.slice (some a) sLen sCap]).run P w =
   .ok (goInt m) (w.setRow g (cur.toList.take o++cs++cur.toList.drop (o+cs.length)).toArray):=by
 have hl:=run_loadCells_list (P:=P) w a cs hsrc;have hst:=run_storeCells_at P g o t cs 0 cur w hg (by simpa using hfit) h1
 cases hq:P.info? elem with
 | none=>simp [hq] at hs
 | some i=>
  have hi:i.size=k:=by simpa [hq] using hs
  rw [hn] at hl;simp [Builtin.copy_,run_underlying hu,Builtin.lenOf,Builtin.firstCells,sizeOf,typeInfo,hq,hi,←hm,hl,hst]
theorem wpList_copy_rowK {w:World} {ops:Array Oper} {rest:List Oper} {o:Oper} {a:Act} {Q:Exit→Act→World→Prop} (hgd:o.guard=none) (d s:Operand) (dT sT:TypeId)
  (ho:o.op = .call { callee:=.builtin .copy,args:=#[d,s],argTypes:=#[dT,sT] }) (elem:TypeId) (k m:Nat) (hu:P.underlying dT=some (.slice elem)) (hsz:(P.info? elem).map (·.size)=some k)
  (g off dLen dCap:Nat) (ad:Addr) (sLen sCap:Nat) (hd:a.eval d = .slice (some ⟨g,off,none⟩) dLen dCap) (hs:a.eval s = .slice (some ad) sLen sCap)
  (cur:Array Value) (t:TypeId) (hg:w.heap[g]?=some (.cells cur t (0,0))) (cs:List Value) (hm:m=Nat.min sLen dLen) (hn:cs.length=m*k)
  (hsrc:∀j v,cs[j]?=some v→w.cell? (ad.add j)=some v) (hfit:off+cs.length≤cur.size) (h1:∀v∈cs,v.oneCell'=true)
  (h:wpList P ops Q rest (a.put o.dst (goInt m)) (w.setRow g (cur.toList.take off++cs++cur.toList.drop (off+cs.length)).toArray)):wpList P ops Q (o::rest) a w:=by
 refine wpList_plain hgd fun K hK=>?_;have hrun:=run_copy_rowK (P:=P) w dT sT o.type elem g off dLen dCap ad sLen sCap cur t cs k m hu hsz hg hm hn hsrc hfit h1;unfold Oper.wp;simp only [execOp,ho,resolve,invoke,builtin,Sem.run_bind,Sem.run_pure,Result.andThen_ok,List.map_toArray,List.map_cons,List.map_nil,hd,hs,hrun];exact hK _ _ h
theorem grown_setRow (w:World) (g:Nat) (cs:Array Value):w.grownBy (w.setRow g cs) (some g):=⟨rfl,rfl,rfl,by simp,fun k _ hk=>setRow_other w g k _ (fun e=>hk (by simp [e]))⟩
theorem wpList_copy_rowG {w:World} {ops:Array Oper} {rest:List Oper} {o:Oper} {a:Act} {Q:Exit→Act→World→Prop} (hgd:o.guard=none) (d s:Operand) (dT sT:TypeId)
  (ho:o.op = .call { callee:=.builtin .copy,args:=#[d,s],argTypes:=#[dT,sT] }) (elem:TypeId) (k m:Nat) (hu:P.underlying dT=some (.slice elem)) (hsz:(P.info? elem).map (·.size)=some k)
  (g off dLen dCap:Nat) (ad:Addr) (sLen sCap:Nat) (hd:a.eval d = .slice (some ⟨g,off,none⟩) dLen dCap) (hs:a.eval s = .slice (some ad) sLen sCap)
  (cur:Array Value) (t:TypeId) (hg:w.heap[g]?=some (.cells cur t (0,0))) (cs:List Value) (hm:m=Nat.min sLen dLen) (hn:cs.length=m*k)
  (hsrc:∀j v,cs[j]?=some v→w.cell? (ad.add j)=some v) (hfit:off+cs.length≤cur.size) (h1:∀v∈cs,v.oneCell'=true)
  (h:∀w',w'.heap[g]?=some (.cells (cur.toList.take off++cs++cur.toList.drop (off+cs.length)).toArray t (0,0))→w.grownBy w' (some g)→wpList P ops Q rest (a.put o.dst (goInt m)) w'):wpList P ops Q (o::rest) a w:=
 wpList_copy_rowK hgd d s dT sT ho elem k m hu hsz g off dLen dCap ad sLen sCap hd hs cur t hg cs hm hn hsrc hfit h1 (h _ (setRow_heap w g cur _ t _ hg) (grown_setRow w g _))
end
theorem setCells_row (g:Nat) (t:TypeId):∀(vs:List Value) (o:Nat) (cur:List Value) (w:World),w.heap[g]?=some (.cells cur.toArray t (0,0))→o+vs.length≤cur.length →
  w.setCells g o vs=w.setRow g (cur.take o++vs++cur.drop (o+vs.length)).toArray
 | [],o,cur,w,hg,_=>by
  simp only [World.setCells,List.append_nil,List.length_nil,Nat.add_zero,List.take_append_drop];rw [setRow_self w g cur.toArray t (0,0) hg]
 | v::rest,o,cur,w,hg,hl=>by
  have hi:o<cur.length:=by simp at hl;omega
  have e1:w.setCell ⟨g,o,none⟩ v=w.setRow g (cur.set o v).toArray:=by
   have:=setCell_eq_setRow w g o cur.toArray t (0,0) v hg
   simpa using this
  have ih:=setCells_row g t rest (o+1) (cur.set o v) (w.setRow g (cur.set o v).toArray) (by have:=setRow_heap w g cur.toArray (cur.set o v).toArray t _ hg;exact this) (by simp at hl ⊢;omega);unfold World.setCells;rw [e1,ih,setRow_setRow]
  congr 2
  rw [List.take_set,List.drop_set,if_pos (by omega)];rw [List.take_succ_eq_append_getElem hi,List.set_append_right _ _ (by rw [List.length_take];omega)];simp only [List.length_take,List.length_cons,List.append_assoc];rw [Nat.min_eq_left (by omega),Nat.sub_self];simp only [List.set_cons_zero,List.cons_append,List.nil_append];rw [show o+1+rest.length=o+(rest.length+1) by omega]
theorem flat_take5 (fs:List Frag) (p:Nat):(fs.take p).flatMap Frag.cs=(fs.flatMap Frag.cs).take (p*5):=by
 induction fs generalizing p with
 | nil=>simp
 | cons y l ih=>
  cases p with
  | zero=>simp
  | succ p=>
   rw [List.take_succ_cons,List.flatMap_cons,List.flatMap_cons,ih,List.take_append,show y.cs.length=5 from rfl,show (p+1)*5 - 5=p*5 by omega,List.take_of_length_le (show y.cs.length≤(p+1)*5 by rw [show y.cs.length=5 from rfl];omega)]
theorem flat_len5 (fs:List Frag):(fs.flatMap Frag.cs).length=fs.length*5:=flatMap_len (sz:=5) (fun _=>rfl) fs
theorem fr_src {L:List Value} {fs:List Frag} {x:Frag} {p:Nat} (hp:p≤fs.length) (ht:L.take ((fs.length+1)*5)=(fs++[x]).flatMap Frag.cs):∀j v,((fs.drop p).flatMap Frag.cs)[j]?=some v→L[p*5+j]?=some v:=by
 intro j v h;have hj:=(List.getElem?_eq_some_iff.1 h).1;rw [flat_len5,List.length_drop] at hj
 have e:(L.take ((fs.length+1)*5))[p*5+j]?=L[p*5+j]?:=by
  rw [List.getElem?_take,if_pos (by omega)]
 have l1:((fs.take p).flatMap Frag.cs).length=p*5:=by rw [flat_len5,List.length_take];omega
 rw [←e,ht,List.flatMap_append]
 conv=>lhs;rw [←List.take_append_drop p fs]
 rw [List.flatMap_append,List.append_assoc,List.getElem?_append_right (by omega),l1,Nat.add_sub_cancel_left,List.getElem?_append_left (by rw [flat_len5,List.length_drop];exact hj)];exact h
theorem fr_ins {L:List Value} {fs:List Frag} {x:Frag} {p:Nat} (hp:p≤fs.length) (hL:(fs.length+1)*5≤L.length) (ht:L.take ((fs.length+1)*5)=(fs++[x]).flatMap Frag.cs) {D C1:List Value}
  (hD:D=(fs.drop p).flatMap Frag.cs) (h1:C1=L.take ((p+1)*5)++D++L.drop ((p+1)*5+D.length)) :
  (C1.take (p*5)++x.cs++C1.drop (p*5+x.cs.length)).take ((fs.length+1)*5)=(fs.take p++x::fs.drop p).flatMap Frag.cs:=by
 have lx:x.cs.length=5:=rfl
 have lD:D.length=(fs.length - p)*5:=by rw [hD,flat_len5,List.length_drop]
 have l1:(L.take ((p+1)*5)).length=(p+1)*5:=by rw [List.length_take];omega
 have lA:((fs.take p).flatMap Frag.cs).length=p*5:=by rw [flat_len5,List.length_take];omega
 have eA:C1.take (p*5)=(fs.take p).flatMap Frag.cs:=by
  have e2:(L.take ((fs.length+1)*5)).take (p*5)=L.take (p*5):=by rw [List.take_take,Nat.min_eq_left (by omega)]
  rw [h1,List.append_assoc,List.take_append,l1,show p*5 - (p+1)*5=0 by omega,List.take_zero,List.append_nil,List.take_take,Nat.min_eq_left (by omega),←e2,ht,←flat_take5,List.take_append,show p - fs.length=0 by omega,List.take_zero,List.append_nil]
 have eD:C1.drop (p*5+x.cs.length)=D++L.drop ((p+1)*5+D.length):=by
  rw [h1,List.append_assoc,List.drop_append,l1,lx,show p*5+5 - (p+1)*5=0 by omega,List.drop_zero,List.drop_of_length_le (by rw [l1];omega),List.nil_append]
 rw [eA,eD,List.flatMap_append,List.flatMap_cons,←hD,List.append_assoc,←List.append_assoc x.cs,←List.append_assoc,List.take_append]
 have l3:((fs.take p).flatMap Frag.cs++(x.cs++D)).length=(fs.length+1)*5:=by rw [List.length_append,List.length_append,lA,lx,lD];omega
 rw [l3,Nat.sub_self,List.take_zero,List.append_nil,List.take_of_length_le (by omega)]
structure OrdF (lo:Nat) (w:World) (O:Nat) (fs:List Frag) (v:Value):Prop where
 box:Blk w O 176 [v,.func (.func 103) #[] #[]]
 low:lo≤O
 row:OwnG Frag.cs lo 47 5 w v fs
theorem OrdF.ext {lo O:Nat} {w w':World} {fs:List Frag} {v:Value} (h:OrdF lo w O fs v) (x:Ext w w'):OrdF lo w' O fs v:=⟨h.box.ext x,h.low,h.row.ext x⟩
theorem OwnG.rowF {α : Type} {cs : α→List Value} {lo:Nat} {e:TypeId} {sz:Nat} {w:World} {v:Value} {xs:List α} (h:OwnG cs lo e sz w v xs):∀k,v.ownBlock=some k→lo≤k∧∃c,w.heap[k]?=some (.cells c e (0,0)):=by
 intro k hk
 rcases h.2 with ⟨rfl,h4⟩|⟨g,cap,cur,rfl,hb,hg,_⟩
 ·cases hk
 ·simp only [Value.ownBlock,Option.some.injEq] at hk
  subst hk;exact ⟨hb,cur,hg⟩
theorem frag_one (x:Frag):∀u∈x.cs,u.oneCell'=true:=by
 intro u hu;simp only [Frag.cs,List.mem_cons,List.not_mem_nil,or_false] at hu
 rcases hu with rfl|rfl|rfl|rfl|rfl <;> rfl
theorem frags_one (l:List Frag):∀u∈l.flatMap Frag.cs,u.oneCell'=true:=by
 intro u hu;obtain ⟨x,_,h⟩:=List.mem_flatMap.1 hu;exact frag_one x u h
theorem info_Frag5:(Tryz.prog.info? 47).map (·.size)=some 5:=by kernel_rfl
def C3f (b c d:Nat):Addr→Prop:=fun a=>a.block=b∨a.block=c∨a.block=d
@[go_sem] theorem C3f_1 (b c d o:Nat):C3f b c d ⟨b,o,none⟩:=.inl rfl
@[go_sem] theorem C3f_2 (b c d o:Nat):C3f b c d ⟨c,o,none⟩:=.inr (.inl rfl)
@[go_sem] theorem C3f_3 (b c d o:Nat):C3f b c d ⟨d,o,none⟩:=.inr (.inr rfl)
theorem iFragments_any (w:World):Calls Tryz.prog 101 #[] w fun e w'=>e = .returned (.pointer (some ⟨w.heap.size,0,none⟩))∧OrdF w.heap.size w' w.heap.size [] (.slice none 0 0)∧Ext w w':=by
 go_enter Tryz.func101,Tryz.ntmps101;go_wp2;go_ret;exact ⟨rfl,⟨Blk.new w _ _,Nat.le_refl _,OwnG.nil _ _ _ _ _⟩,X_⟩
theorem iHashRange_val (lo hi:Nat) (u:Value) (xs:List Int) (n:Int) (w:World) (hu:Ints lo hi w u xs) (hn:1≤n∧n≤1000000) {r:Int} (hr:hashI xs % n=r) :
  Calls Tryz.prog 109 #[u,.int .i64 n] w fun e w'=>e = .returned (.int .i64 r)∧w=w':=by
 have HU:=hid hu;obtain ⟨a,cap,rfl,-⟩:=hu.open;have hb:=hashI_range xs
 obtain ⟨h,hh⟩:∃h,hashI xs=h:=⟨_,rfl⟩
 rw [hh] at hb hr;have HH:=hid hh;have HR2:=hid hr;clear hu hr hh;go_enter Tryz.func109,Tryz.ntmps109;go_wp2_with fail;refine (HashInts_any lo hi _ xs _ HU.out).mono ?_;rw [HH.out];rintro e w1 ⟨rfl,rfl⟩;go_wp2;go_ret;exact ⟨ret_int HR2.out,rfl⟩
theorem pixHash_val (i j:Int) (k:Nat) (q n:Int) (hl:∀y∈[i,j,((k:Nat):Int),q],I64 y) (hn:1≤n∧n≤1000000) {r:Int} (hr:hashI [i,j,((k:Nat):Int),q] % n=r) (I J K:Nat) (w:World)
  (c1:w.cell? ⟨I,0,none⟩=some (.int .i64 i)) (c2:w.cell? ⟨J,0,none⟩=some (.int .i64 j)) (c3:w.cell? ⟨K,0,none⟩=some (.int .i64 (k:Nat))) :
  Calls Tryz.prog 108 #[.int .i64 q,.int .i64 n,.pointer (some ⟨I,0,none⟩),.pointer (some ⟨J,0,none⟩),.pointer (some ⟨K,0,none⟩)] w fun e w'=>e = .returned (.int .i64 r)∧Ext w w':=by
 have HR:=hid hr;have HL:=hid hl;have b0:=Blk.new w 3 [.int .i64 i,.int .i64 j,.int .i64 (k:Nat),.int .i64 q];have HB:=hid b0;clear hr hl b0;go_enter Tryz.func108,Tryz.ntmps108;go_wp2_with fail;refine (iHashRange_val 0 _ _ [i,j,(k:Nat),q] n _ (ints4 HB.out HL.out) hn HR.out).mono ?_;rintro e w1 ⟨rfl,rfl⟩;go_wp2;go_ret;exact ⟨rfl,X_⟩
theorem smpK_at2 {i j:Int} {side k q r:Nat} (hq:k % side=q) (hr:k / side=r) {s p1 p2 p3 p4 p5 e1 e2:Int} (hs:((16 / side:Nat):Int)=s) (h1:hashI [i,j,((k:Nat):Int),1] % s=p1) (h2:hashI [i,j,((k:Nat):Int),2] % s=p2)
  (h3:hashI [i,j,((k:Nat):Int),3] % 16=p3) (h4:hashI [i,j,((k:Nat):Int),4] % 33=p4) (h5:hashI [i,j,((k:Nat):Int),5] % 33=p5) (he1:(q:Int)*s=e1) (he2:(r:Int)*s=e2) :
  smpK i j side k=⟨i*16+e1+p1,j*16+e2+p2,p3,p4 - 16,p5 - 16⟩:=by
 subst he1 he2;unfold smpK;rw [hq,hr,hs,h1,h2,h3,h4,h5]
theorem samples_room {side k:Nat} (hs:side=1∨side=2∨side=4) (hk:k<side*side):k % side<side∧k / side<side∧k≤15∧side*(16 / side)=16∧4≤16 / side∧16 / side≤16∧side≤4∧1≤side:=by
 have h1:k % side<side:=Nat.mod_lt _ (by omega);have h2:k / side<side:=Nat.div_lt_of_lt_mul hk
 rcases hs with rfl|rfl|rfl <;> simp at hk h1 h2 ⊢ <;> omega
theorem iPixelSamples_any (i j:Int) (hi:0≤i∧i≤11) (hj:0≤j∧j≤11) (side:Nat) (hs:side=1∨side=2∨side=4) (w:World) :
  Calls Tryz.prog 51 #[.int .i64 i,.int .i64 j,.int .i64 (side:Nat)] w fun e w'=>∃r,e = .returned r∧OwnG Smp.cs w.heap.size 34 5 w' r (pixS i j side)∧Ext w w':=by
 have hmf:∀(fn:Fn) (first cap:Array Value) (w:World),(Instr.makeFunc fn first cap).run Tryz.prog w = .ok (.func fn first cap) w:=fun _ _ _ _=>rfl;have HSD:=hid hs
 have hsd:1≤side∧side≤4:=by omega
 have hne:((side:Nat):Int)≠0:=by omega
 obtain ⟨N,hN⟩:∃N,side*side=N:=⟨_,rfl⟩
 have hmul:((side:Nat):Int)*((side:Nat):Int)=((N:Nat):Int):=by rw [←hN];simp
 have hN16:N≤16:=by rw [←hN];exact Nat.mul_le_mul hsd.2 hsd.2
 obtain ⟨st,hst⟩:∃st:Int,((16 / side:Nat):Int)=st:=⟨_,rfl⟩
 have t0:Int.tdiv 16 ((side:Nat):Int)=st:=by rw [←hst,Int.tdiv_eq_ediv_of_nonneg (by omega)];rfl
 have hstb:4≤st∧st≤16:=by rw [←hst];rcases hs with rfl|rfl|rfl <;> decide
 have HST:=hid hst;have HN:=hid hN;have bI:=(Blk.new w 3 [.int .i64 i]).ext (show Ext _ (((w.alloc (.cells #[.int .i64 i] 3)).alloc (.cells #[.int .i64 j] 3)).alloc (.cells #[] 34)) from X_);have bJ:=(Blk.new (w.alloc (.cells #[.int .i64 i] 3)) 3 [.int .i64 j]).ext (show Ext _ (((w.alloc (.cells #[.int .i64 i] 3)).alloc (.cells #[.int .i64 j] 3)).alloc (.cells #[] 34)) from X_);have bL:=Blk.new ((w.alloc (.cells #[.int .i64 i] 3)).alloc (.cells #[.int .i64 j] 3)) 34 [];rw [World.size_alloc] at bJ;rw [World.size_alloc,World.size_alloc] at bL;have HI:=hid bI;have HJ:=hid bJ;have HL:=hid bL;clear hs hst hN bI bJ bL;go_enter Tryz.func51,Tryz.ntmps51;go_wp2_with fail
 go_loopw [8,17] (fun v x wr=>∃(k:Nat) (xs:List Smp),k≤N∧x = .int .i64 (k:Nat)∧xs=(List.range k).map (smpK i j side)∧OwnG Smp.cs (w.heap.size+1+1) 34 5 wr v xs∧Blk wr w.heap.size 3 [.int .i64 i]∧Blk wr (w.heap.size+1) 3 [.int .i64 j]∧Ext w wr) (fun _ x _=>N - (intOf x).toNat)
 case atStart=>exact ⟨0,[],by omega,rfl,rfl,OwnG.freshS (Nat.le_refl _) HL.out,HI.out,HJ.out,X_⟩
 case round=>
  clear HI HJ HL;obtain ⟨k,xs,hk,rfl,hxs,ho,bI,bJ,hx⟩:=hrel;have HXS:=hid hxs;have HO:=hid ho;have HI:=hid bI;have HJ:=hid bJ;have HX:=hid hx;obtain ⟨xa,xc,rfl,-⟩:=OwnG.form ho
  have hlen:xs.length=k:=by rw [hxs,List.length_map,List.length_range]
  have zz:=HJ.out.lt
  rcases Nat.lt_or_ge k N with hlt|hge
  ·obtain ⟨m1,m2,m3,m4,m5,m6,m7,m8⟩:=samples_room HSD.out (show k<side*side by rw [HN.out];exact hlt)
   have t1:Int.tmod (k:Int) ((side:Nat):Int)=((k % side:Nat):Int):=by rw [Int.tmod_eq_emod_of_nonneg (by omega)];rfl
   have t2:Int.tdiv (k:Int) ((side:Nat):Int)=((k / side:Nat):Int):=by rw [Int.tdiv_eq_ediv_of_nonneg (by omega)];rfl
   obtain ⟨q,hq⟩:∃q,k % side=q:=⟨_,rfl⟩
   obtain ⟨r,hr⟩:∃r,k / side=r:=⟨_,rfl⟩
   obtain ⟨e1,he1⟩:∃e1,(q:Int)*st=e1:=⟨_,rfl⟩
   obtain ⟨e2,he2⟩:∃e2,(r:Int)*st=e2:=⟨_,rfl⟩
   rw [hq] at t1 m1;rw [hr] at t2 m2
   have q1:0≤e1∧e1≤64:=by
    rw [←he1];have:=mul_abs (a:=(q:Int)) (b:=st) (A:=4) (B:=16) (by omega) (by omega);exact ⟨Int.mul_nonneg (by omega) (by omega),by omega⟩
   have q2:0≤e2∧e2≤64:=by
    rw [←he2];have:=mul_abs (a:=(r:Int)) (b:=st) (A:=4) (B:=16) (by omega) (by omega);exact ⟨Int.mul_nonneg (by omega) (by omega),by omega⟩
   obtain ⟨p1,hp1⟩:∃p,hashI [i,j,((k:Nat):Int),1] % st=p:=⟨_,rfl⟩
   obtain ⟨p2,hp2⟩:∃p,hashI [i,j,((k:Nat):Int),2] % st=p:=⟨_,rfl⟩
   obtain ⟨p3,hp3⟩:∃p,hashI [i,j,((k:Nat):Int),3] % 16=p:=⟨_,rfl⟩
   obtain ⟨p4,hp4⟩:∃p,hashI [i,j,((k:Nat):Int),4] % 33=p:=⟨_,rfl⟩
   obtain ⟨p5,hp5⟩:∃p,hashI [i,j,((k:Nat):Int),5] % 33=p:=⟨_,rfl⟩
   have b1:0≤p1∧p1≤15:=by rw [←hp1];exact ⟨Int.emod_nonneg _ (by omega),by have:=Int.emod_lt_of_pos (hashI [i,j,((k:Nat):Int),1]) (show 0<st by omega);omega⟩
   have b2:0≤p2∧p2≤15:=by rw [←hp2];exact ⟨Int.emod_nonneg _ (by omega),by have:=Int.emod_lt_of_pos (hashI [i,j,((k:Nat):Int),2]) (show 0<st by omega);omega⟩
   have b3:0≤p3∧p3≤15:=by omega
   have b4:0≤p4∧p4≤32:=by omega
   have b5:0≤p5∧p5≤32:=by omega
   have P1:=hid hp1;have P2:=hid hp2;have P3:=hid hp3;have P4:=hid hp4;have P5:=hid hp5;have HSM:=hid (smpK_at2 hq hr HST.out hp1 hp2 hp3 hp4 hp5 he1 he2)
   have HL4:=hid (show ∀c:Int,(0≤c∧c≤10)→∀y∈[i,j,((k:Nat):Int),c],I64 y from fun c hc y hy=>by
    simp only [List.mem_cons,List.not_mem_nil,or_false] at hy
    rcases hy with rfl|rfl|rfl|rfl <;> exact ⟨by omega,by omega⟩)
   have HLEN:=hid hlen;have HKB:=hid (Blk.new wr 3 [.int .i64 (k:Nat)]);rw [hlen];have HO2:Hid (OwnG Smp.cs (w.heap.size+1+1) 34 5 wr (.slice xa k xc) xs):=hid (hlen▸ho);have zz0:w.heap.size+1<wr.heap.size:=zz;clear hp1 hp2 hp3 hp4 hp5 hxs ho bI bJ hx hlen hq hr m3 m4 m5 m6 HO;go_wp2_with fail
   obtain ⟨WB,hWB⟩:∃W,wr.alloc (.cells #[.int .i64 (k:Nat)] 3)=W:=⟨_,rfl⟩
   have xB:Ext wr (wr.alloc (.cells #[.int .i64 (k:Nat)] 3)):=X_;have kB:=HKB.out;rw [hWB] at xB kB ⊢;have XB:=hid xB;have KB:=hid kB;have zB:=kB.lt;have CL:=hid (fun (W':World) (x:Ext WB W')=>(⟨((HI.out.ext xB).ext x).cell 0 rfl,((HJ.out.ext xB).ext x).cell 0 rfl,(kB.ext x).cell 0 rfl⟩:_∧_∧_));have iI:=(HI.out.ext xB).cell 0 rfl;have iJ:=(HJ.out.ext xB).cell 0 rfl;have iK:=kB.cell 0 rfl;clear hWB xB kB HKB;refine wp_region_stagesS [([0,1,2,3,4,5,6,7,8,9,10,13,14,15,16,17,18,19,20,21,22,25,27,30],11),([12],23),([24],26),([],28),([29],31),([32,33],34),([],35),([],36)] 36 (fun w'=>∃d,w'=lowc (C3f w.heap.size (w.heap.size+1) wr.heap.size) _ d) (by kernel_rfl) (by kernel_rfl) (SC.drew _ _) ?_;refine sc_ fun K hK=>?_;go_wp2_with fail;obtain ⟨a1,a2,a3⟩:=CL.out _ (Ext.drew (Ext.refl WB));refine (pixHash_val i j k 1 st (HL4.out 1 (by decide)) ⟨by omega,by omega⟩ P1.out w.heap.size (w.heap.size+1) wr.heap.size _ a1 a2 a3).mono ?_;rintro e w1 ⟨rfl,x1⟩;have Y1:=hid (Ext.trans (w:=WB) (Ext.drew (Ext.refl WB)) x1);clear x1 a1 a2 a3;go_wp2_with fail;refine hK _ _ (.inr (SC.blocks fun a ha=>Y1.out.block (by rcases ha with ha|ha|ha <;> rw [ha] <;> omega))) ?_;clear hK K;clear iI iJ iK;refine sc_ fun K hK=>?_;go_wp2_with fail;obtain ⟨a1,a2,a3⟩:=CL.out _ Y1.out;refine (pixHash_val i j k 2 st (HL4.out 2 (by decide)) ⟨by omega,by omega⟩ P2.out w.heap.size (w.heap.size+1) wr.heap.size _ a1 a2 a3).mono ?_;rintro e w2 ⟨rfl,x2⟩;have Y2:=hid (Ext.trans (w:=WB) Y1.out x2);clear x2 a1 a2 a3;go_wp2_with fail;refine hK _ _ (.inr (SC.blocks fun a ha=>Y2.out.block (by rcases ha with ha|ha|ha <;> rw [ha] <;> omega))) ?_;clear hK K;refine sc_ fun K hK=>?_;go_wp2_with fail;obtain ⟨a1,a2,a3⟩:=CL.out _ Y2.out;refine (pixHash_val i j k 3 16 (HL4.out 3 (by decide)) ⟨by omega,by omega⟩ P3.out w.heap.size (w.heap.size+1) wr.heap.size _ a1 a2 a3).mono ?_;rintro e w3 ⟨rfl,x3⟩;have Y3:=hid (Ext.trans (w:=WB) Y2.out x3);clear x3 a1 a2 a3;go_wp2_with fail;refine hK _ _ (.inr (SC.blocks fun a ha=>Y3.out.block (by rcases ha with ha|ha|ha <;> rw [ha] <;> omega))) ?_;clear hK K;refine sc_ fun K hK=>?_;go_wp2_with fail;obtain ⟨a1,a2,a3⟩:=CL.out _ Y3.out;refine (pixHash_val i j k 4 33 (HL4.out 4 (by decide)) ⟨by omega,by omega⟩ P4.out w.heap.size (w.heap.size+1) wr.heap.size _ a1 a2 a3).mono ?_;rintro e w4 ⟨rfl,x4⟩;have Y4:=hid (Ext.trans (w:=WB) Y3.out x4);clear x4 a1 a2 a3;go_wp2_with fail;refine hK _ _ (.inr (SC.blocks fun a ha=>Y4.out.block (by rcases ha with ha|ha|ha <;> rw [ha] <;> omega))) ?_;clear hK K;refine sc_ fun K hK=>?_;go_wp2_with fail;obtain ⟨a1,a2,a3⟩:=CL.out _ Y4.out;refine (pixHash_val i j k 5 33 (HL4.out 5 (by decide)) ⟨by omega,by omega⟩ P5.out w.heap.size (w.heap.size+1) wr.heap.size _ a1 a2 a3).mono ?_;rintro e w5 ⟨rfl,x5⟩;have Y5:=hid (Ext.trans (w:=WB) Y4.out x5);clear x5 a1 a2 a3;go_wp2_with fail;refine hK _ _ (.inr (SC.blocks fun a ha=>Y5.out.block (by rcases ha with ha|ha|ha <;> rw [ha] <;> omega))) ?_;clear hK K;refine sc_ fun K hK=>?_;go_wp2_with fail;have bE:=Blk.new w5 34 [.int .i64 (i*16+e1+p1),.int .i64 (j*16+e2+p2),.int .i64 p3,.int .i64 (p4 - 16),.int .i64 (p5 - 16)];have HE:=hid bE;have xE:Ext WB (w5.alloc (.cells #[.int .i64 (i*16+e1+p1),.int .i64 (j*16+e2+p2),.int .i64 p3,.int .i64 (p4 - 16),.int .i64 (p5 - 16)] 34)):=Ext.trans Y5.out X_;have XE:=hid xE;clear bE xE;go_wp2_with fail;refine hK _ _ (.inr (SC.blocks fun a ha=>XE.out.block (by rcases ha with ha|ha|ha <;> rw [ha] <;> omega))) ?_;clear hK K
   have hlo:w.heap.size+1+1≤(w5.alloc (.cells #[.int .i64 (i*16+e1+p1),.int .i64 (j*16+e2+p2),.int .i64 p3,.int .i64 (p4 - 16),.int .i64 (p5 - 16)] 34)).heap.size:=by
    have:=XE.out.size;omega
   have HLO:=hid hlo;have O6:=hid (HO2.out.ext (XB.out.trans XE.out));clear hlo;refine sc_ fun K hK=>?_
   refine wpList_append_elt Smp.cs 34 5 40 _ _ rfl _ _ 105 rfl Tryz.underlying105 info_SmpT rfl (by decide) (by decide) (fun _=>rfl) (w.heap.size+1+1) (.slice xa k xc) xs (by rfl) O6.out ⟨i*16+e1+p1,j*16+e2+p2,p3,p4 - 16,p5 - 16⟩ w5.heap.size (by rfl) (fun jj hj=>by
    rcases (show jj=0∨jj=1∨jj=2∨jj=3∨jj=4 by omega) with rfl|rfl|rfl|rfl|rfl
    ·exact HE.out.cell 0 rfl
    ·exact HE.out.cell 1 rfl
    ·exact HE.out.cell 2 rfl
    ·exact HE.out.cell 3 rfl
    ·exact HE.out.cell 4 rfl) (Smp.one _) (by rw [HLEN.out];omega) HLO.out ?_
   intro v8 w8 hown hg;have kI:=(HI.out.ext (XB.out.trans XE.out)).grown hg (fun e=>by have:=OwnG.lt O6.out _ e.symm;omega);have kJ:=(HJ.out.ext (XB.out.trans XE.out)).grown hg (fun e=>by have:=OwnG.lt O6.out _ e.symm;omega);have hrow:=OwnG.rowF O6.out
   have kK:=(KB.out.ext XE.out).grown hg (fun e=>by
    obtain ⟨_,c,hc⟩:=hrow _ e.symm
    exact (KB.out.ext XE.out).noCells (by decide) c hc)
   have X8:=hid (Ext.grown (HX.out.trans (XB.out.trans XE.out)) hg (fun b hb=>by have:=(OwnG.lt O6.out b hb).1;omega));have KI:=hid kI;have KJ:=hid kJ
   have SK:Hid (∀a,C3f w.heap.size (w.heap.size+1) wr.heap.size a→w8.heap[a.block]?=WB.heap[a.block]?):=hid (fun a ha=>by
    have e1:=HI.out.ext XB.out;have e2:=HJ.out.ext XB.out;have e3:=KB.out;unfold Blk at kI kJ kK e1 e2 e3
    rcases ha with ha|ha|ha <;> rw [ha]
    ·rw [kI,e1]
    ·rw [kJ,e2]
    ·rw [kK,e3])
   obtain ⟨xs',hxs'⟩:∃xs',xs++[(⟨i*16+e1+p1,j*16+e2+p2,p3,p4 - 16,p5 - 16⟩:Smp)]=xs':=⟨_,rfl⟩
   rw [hxs'] at hown;have HXS2:=hid hxs';have HOW:=hid hown;obtain ⟨va,vc,rfl,-⟩:=OwnG.form hown;clear hown hg hxs' kI kJ kK hrow;go_wp2_with fail;refine hK _ _ (.inr (SC.blocks fun a ha=>SK.out a ha)) ?_;clear hK K;refine sc_ fun K hK=>?_;go_wp2_with fail;go_wp2_with fail;refine hK _ _ (.inl (by trivial)) ?_;clear hK K;refine wpStagesS_nil ?_;go_wp2;go_roundw
   case rel=>
    refine ⟨k+1,xs',by omega,by go_num,?_,HOW.out,KI.out,KJ.out,X8.out⟩;rw [←HXS2.out,←HSM.out,HXS.out];exact (range_snoc _ _).symm
   case measure=>simp [intOf];omega
  ·obtain rfl:k=N:=by omega
   have HF:=hid (show xs=pixS i j side by rw [HXS.out,←HN.out];rfl);clear hxs hlen;go_wp2;go_ret;refine ⟨_,rfl,?_,HX.out⟩;rw [←HF.out];exact OwnG.low HO.out (by omega)
theorem sApplyAll3 {f:Nat→Int} {n:Nat} {x y z q1 q2 q3:Int} (hq:appAll f n ⟨x,y,z⟩=⟨q1,q2,q3⟩) {lo hi:Nat} {u:Value} {w:World} (hu:Flats 12 lo hi w u n f) (hh:hi≤w.heap.size) :
  Calls Tryz.prog 204 #[u,.agg #[.int .i64 x,.int .i64 y,.int .i64 z]] w fun e w'=>e = .returned (.agg #[.int .i64 q1,.int .i64 q2,.int .i64 q3])∧Ext w w':=sApplyAll_val lo hi u n f ⟨x,y,z⟩ ⟨q1,q2,q3⟩ hq w hu hh
def TPatch (F:Nat→Int) (n:Nat) (f q:Nat→Int):Prop:=∀j,j<4→appAll F n ⟨f (j*3),f (j*3+1),f (j*3+2)⟩=⟨q (j*3),q (j*3+1),q (j*3+2)⟩
theorem sTransformPatch_val (lo hi:Nat) (u:Value) (n:Nat) (g f q:Nat→Int) (hq:TPatch g n f q) (w:World) (hu:Flats 12 lo hi w u n g) (hh:hi≤w.heap.size) :
  Calls Tryz.prog 143 #[u,.agg #[.int .i64 (f 0),.int .i64 (f 1),.int .i64 (f 2),.int .i64 (f 3),.int .i64 (f 4),.int .i64 (f 5),.int .i64 (f 6),.int .i64 (f 7),.int .i64 (f 8),.int .i64 (f 9),.int .i64 (f 10),.int .i64 (f 11)]] w fun e w'=>e = .returned (.agg #[.int .i64 (q 0),.int .i64 (q 1),.int .i64 (q 2),.int .i64 (q 3),.int .i64 (q 4),.int .i64 (q 5),.int .i64 (q 6),.int .i64 (q 7),.int .i64 (q 8),.int .i64 (q 9),.int .i64 (q 10),.int .i64 (q 11)])∧Ext w w':=by
 have i0:∀w:World,(Instr.index 38 (.agg #[.int .i64 (f 0),.int .i64 (f 1),.int .i64 (f 2),.int .i64 (f 3),.int .i64 (f 4),.int .i64 (f 5),.int .i64 (f 6),.int .i64 (f 7),.int .i64 (f 8),.int .i64 (f 9),.int .i64 (f 10),.int .i64 (f 11)]) (.int .i64 0)).run Tryz.prog w = .ok (.agg #[.int .i64 (f 0),.int .i64 (f 1),.int .i64 (f 2)]) w:=fun _=>by kernel_rfl
 have i1:∀w:World,(Instr.index 38 (.agg #[.int .i64 (f 0),.int .i64 (f 1),.int .i64 (f 2),.int .i64 (f 3),.int .i64 (f 4),.int .i64 (f 5),.int .i64 (f 6),.int .i64 (f 7),.int .i64 (f 8),.int .i64 (f 9),.int .i64 (f 10),.int .i64 (f 11)]) (.int .i64 1)).run Tryz.prog w = .ok (.agg #[.int .i64 (f 3),.int .i64 (f 4),.int .i64 (f 5)]) w:=fun _=>by kernel_rfl
 have i2:∀w:World,(Instr.index 38 (.agg #[.int .i64 (f 0),.int .i64 (f 1),.int .i64 (f 2),.int .i64 (f 3),.int .i64 (f 4),.int .i64 (f 5),.int .i64 (f 6),.int .i64 (f 7),.int .i64 (f 8),.int .i64 (f 9),.int .i64 (f 10),.int .i64 (f 11)]) (.int .i64 2)).run Tryz.prog w = .ok (.agg #[.int .i64 (f 6),.int .i64 (f 7),.int .i64 (f 8)]) w:=fun _=>by kernel_rfl
 have i3:∀w:World,(Instr.index 38 (.agg #[.int .i64 (f 0),.int .i64 (f 1),.int .i64 (f 2),.int .i64 (f 3),.int .i64 (f 4),.int .i64 (f 5),.int .i64 (f 6),.int .i64 (f 7),.int .i64 (f 8),.int .i64 (f 9),.int .i64 (f 10),.int .i64 (f 11)]) (.int .i64 3)).run Tryz.prog w = .ok (.agg #[.int .i64 (f 9),.int .i64 (f 10),.int .i64 (f 11)]) w:=fun _=>by kernel_rfl
 have A0:=hid (hq 0 (by decide));have A1:=hid (hq 1 (by decide));have A2:=hid (hq 2 (by decide));have A3:=hid (hq 3 (by decide));clear hq;obtain ⟨a,cap,rfl,HU⟩:=hu.open;have HV:=hid hu;clear hu HU;go_enter Tryz.func143,Tryz.ntmps143;go_wp2
 go_loopw [11] (fun i wr=>∃k c:Nat,c=k*3∧k≤4∧i = .int .i64 k∧Ext w wr∧RowI wr (w.heap.size+1) 40 12 (fun _=>0)∧RowI wr (w.heap.size+1+1) 40 12 (mixI f q c)) (fun i _=>4 - (intOf i).toNat)
 case atStart=>
  refine ⟨0,0,rfl,by omega,rfl,S_,?_,?_⟩
  ·refine RowI.ext (rowI12_new (w:=w.alloc (.cells #[.int .i64 (f 0),.int .i64 (f 1),.int .i64 (f 2),.int .i64 (f 3),.int .i64 (f 4),.int .i64 (f 5),.int .i64 (f 6),.int .i64 (f 7),.int .i64 (f 8),.int .i64 (f 9),.int .i64 (f 10),.int .i64 (f 11)] 40)) (f:=fun _=>0) (by simp)) ?_
   exact S_
  ·exact RowI.mix0 (rowI12_new (by simp))
 case round=>
  obtain ⟨k,c,hc,hk,rfl,hE,h1,h2⟩:=hrel
  by_cases hlt:k<4
  ·have s0:=h1.lt
   have s1:=h2.lt;have H1:=hid h1;have H2:=hid h2;have HE:=hid hE;clear h1 h2 hE
   have hk4:k=0∨k=1∨k=2∨k=3:=by omega
   rcases hk4 with h|h|h|h <;> subst h
   ·obtain rfl:c=0:=by omega
    clear hc;go_wp2_with fail;refine (sApplyAll3 A0.out (HV.out.ext hh (Ext.trans HE.out S_)) (by have:=HE.out.size;simp;omega)).mono ?_;rintro e w2 ⟨rfl,y2⟩;have x2:Ext wr w2:=Ext.trans S_ y2;have h2:=H2.out.ext x2;have d0:=h2.cell (i:=0) (by decide);have e0:=h2.frozen 0;have d1:=h2.cell (i:=1) (by decide);have e1:=h2.frozen 1;have d2:=h2.cell (i:=2) (by decide);have e2:=h2.frozen 2;have G1:=hid (H1.out.ext x2);have G2:=hid h2;have GE:=hid (HE.out.trans x2);clear h2 H1 H2 HE x2 y2;go_wp2;go_roundw
    case rel=>
     refine ⟨1,3,rfl,by omega,by go_num,?_,?_,?_⟩
     ·have hE:=GE.out
      exact S_
     ·exact ((G1.out.other (by simp) _).other (by simp) _).other (by simp) _
     ·exact RowI.mix (c:=2) (RowI.mix (c:=1) (RowI.mix (c:=0) G2.out rfl rfl) rfl rfl) rfl rfl
    case measure=>simp [intOf]
   ·obtain rfl:c=3:=by omega
    clear hc;go_wp2_with fail;refine (sApplyAll3 A1.out (HV.out.ext hh (Ext.trans HE.out S_)) (by have:=HE.out.size;simp;omega)).mono ?_;rintro e w2 ⟨rfl,y2⟩;have x2:Ext wr w2:=Ext.trans S_ y2;have h2:=H2.out.ext x2;have d0:=h2.cell (i:=3) (by decide);have e0:=h2.frozen 3;have d1:=h2.cell (i:=4) (by decide);have e1:=h2.frozen 4;have d2:=h2.cell (i:=5) (by decide);have e2:=h2.frozen 5;have G1:=hid (H1.out.ext x2);have G2:=hid h2;have GE:=hid (HE.out.trans x2);clear h2 H1 H2 HE x2 y2;go_wp2;go_roundw
    case rel=>
     refine ⟨2,6,rfl,by omega,by go_num,?_,?_,?_⟩
     ·have hE:=GE.out
      exact S_
     ·exact ((G1.out.other (by simp) _).other (by simp) _).other (by simp) _
     ·exact RowI.mix (c:=5) (RowI.mix (c:=4) (RowI.mix (c:=3) G2.out rfl rfl) rfl rfl) rfl rfl
    case measure=>simp [intOf]
   ·obtain rfl:c=6:=by omega
    clear hc;go_wp2_with fail;refine (sApplyAll3 A2.out (HV.out.ext hh (Ext.trans HE.out S_)) (by have:=HE.out.size;simp;omega)).mono ?_;rintro e w2 ⟨rfl,y2⟩;have x2:Ext wr w2:=Ext.trans S_ y2;have h2:=H2.out.ext x2;have d0:=h2.cell (i:=6) (by decide);have e0:=h2.frozen 6;have d1:=h2.cell (i:=7) (by decide);have e1:=h2.frozen 7;have d2:=h2.cell (i:=8) (by decide);have e2:=h2.frozen 8;have G1:=hid (H1.out.ext x2);have G2:=hid h2;have GE:=hid (HE.out.trans x2);clear h2 H1 H2 HE x2 y2;go_wp2;go_roundw
    case rel=>
     refine ⟨3,9,rfl,by omega,by go_num,?_,?_,?_⟩
     ·have hE:=GE.out
      exact S_
     ·exact ((G1.out.other (by simp) _).other (by simp) _).other (by simp) _
     ·exact RowI.mix (c:=8) (RowI.mix (c:=7) (RowI.mix (c:=6) G2.out rfl rfl) rfl rfl) rfl rfl
    case measure=>simp [intOf]
   ·obtain rfl:c=9:=by omega
    clear hc;go_wp2_with fail;refine (sApplyAll3 A3.out (HV.out.ext hh (Ext.trans HE.out S_)) (by have:=HE.out.size;simp;omega)).mono ?_;rintro e w2 ⟨rfl,y2⟩;have x2:Ext wr w2:=Ext.trans S_ y2;have h2:=H2.out.ext x2;have d0:=h2.cell (i:=9) (by decide);have e0:=h2.frozen 9;have d1:=h2.cell (i:=10) (by decide);have e1:=h2.frozen 10;have d2:=h2.cell (i:=11) (by decide);have e2:=h2.frozen 11;have G1:=hid (H1.out.ext x2);have G2:=hid h2;have GE:=hid (HE.out.trans x2);clear h2 H1 H2 HE x2 y2;go_wp2;go_roundw
    case rel=>
     refine ⟨4,12,rfl,by omega,by go_num,?_,?_,?_⟩
     ·have hE:=GE.out
      exact S_
     ·exact ((G1.out.other (by simp) _).other (by simp) _).other (by simp) _
     ·exact RowI.mix (c:=11) (RowI.mix (c:=10) (RowI.mix (c:=9) G2.out rfl rfl) rfl rfl) rfl rfl
    case measure=>simp [intOf]
  ·obtain rfl:k=4:=by omega
   obtain rfl:c=12:=by omega
   clear hc;have h2:=h2.mixAll;have c0:=h2.cell (i:=0) (by decide);have d0:=h1.cell (i:=0) (by decide);have e0:=h1.frozen 0;have c1:=h2.cell (i:=1) (by decide);have d1:=h1.cell (i:=1) (by decide);have e1:=h1.frozen 1;have c2:=h2.cell (i:=2) (by decide);have d2:=h1.cell (i:=2) (by decide);have e2:=h1.frozen 2;have c3:=h2.cell (i:=3) (by decide);have d3:=h1.cell (i:=3) (by decide);have e3:=h1.frozen 3;have c4:=h2.cell (i:=4) (by decide);have d4:=h1.cell (i:=4) (by decide);have e4:=h1.frozen 4;have c5:=h2.cell (i:=5) (by decide);have d5:=h1.cell (i:=5) (by decide);have e5:=h1.frozen 5;have c6:=h2.cell (i:=6) (by decide);have d6:=h1.cell (i:=6) (by decide);have e6:=h1.frozen 6;have c7:=h2.cell (i:=7) (by decide);have d7:=h1.cell (i:=7) (by decide);have e7:=h1.frozen 7;have c8:=h2.cell (i:=8) (by decide);have d8:=h1.cell (i:=8) (by decide);have e8:=h1.frozen 8;have c9:=h2.cell (i:=9) (by decide);have d9:=h1.cell (i:=9) (by decide);have e9:=h1.frozen 9;have c10:=h2.cell (i:=10) (by decide);have d10:=h1.cell (i:=10) (by decide);have e10:=h1.frozen 10;have c11:=h2.cell (i:=11) (by decide);have d11:=h1.cell (i:=11) (by decide);have e11:=h1.frozen 11;have HE:=hid hE;clear h1 h2 hE;go_wp2;exact bodyPost_ret (v:=.agg #[.int .i64 (q 0),.int .i64 (q 1),.int .i64 (q 2),.int .i64 (q 3),.int .i64 (q 4),.int .i64 (q 5),.int .i64 (q 6),.int .i64 (q 7),.int .i64 (q 8),.int .i64 (q 9),.int .i64 (q 10),.int .i64 (q 11)]) (by simp [results,Tryz.results143,go_sem, *]) rfl ⟨rfl,by have hE:=HE.out;exact S_⟩
def trX (dx dy dz:Int):Nat→Int:=fun j=>if j=0 then 16 else if j=4 then 16 else if j=8 then 16 else if j=9 then dx else if j=10 then dy else if j=11 then dz else 0
def movP (f:Nat→Int) (dx dy dz:Int):Nat→Int:=fun j=>f j+(if j % 3=0 then dx else if j % 3=1 then dy else dz)
theorem addC_in {x o:Int} (hx : -900000≤x∧x≤900000) (ho : -1000≤o∧o≤1000):addC x o=x+o:=by
 unfold addC;rw [cl_fixed (x:=x) (by omega),cl_fixed (x:=o) (by omega),cl_fixed (x:=x+o) (by omega)]
theorem fdiv_16 (x:Int):fdiv (16*x) 16=x:=by
 unfold fdiv;rw [if_neg (by decide)];omega
theorem trX_app {dx dy dz x y z:Int} (hd:(-1000≤dx∧dx≤1000)∧(-1000≤dy∧dy≤1000)∧(-1000≤dz∧dz≤1000)) (hx : -900000≤x∧x≤900000) (hy : -900000≤y∧y≤900000) (hz : -900000≤z∧z≤900000) :
  (xfAt (trX dx dy dz) 0).app ⟨x,y,z⟩=⟨x+dx,y+dy,z+dz⟩:=by
 have e:xfAt (trX dx dy dz) 0=⟨16,0,0,0,16,0,0,0,16,dx,dy,dz⟩:=rfl
 have ok:(⟨16,0,0,0,16,0,0,0,16,dx,dy,dz⟩:Xf).ok=true:=by
  unfold Xf.ok;rw [Bool.and_eq_true,okVec_iff];exact ⟨rfl,⟨by show -1000000≤dx;omega,by show dx≤1000000;omega⟩,⟨by show -1000000≤dy;omega,by show dy≤1000000;omega⟩,⟨by show -1000000≤dz;omega,by show dz≤1000000;omega⟩⟩
 rw [e];unfold Xf.app;rw [if_pos ok]
 have d1:dotC 16 0 0 x y z=16*x:=by unfold dotC;rw [cl_fixed (x:=16) (by decide),cl_fixed (x:=0) (by decide),cl_fixed (x:=x) (by omega)];omega
 have d2:dotC 0 16 0 x y z=16*y:=by unfold dotC;rw [cl_fixed (x:=16) (by decide),cl_fixed (x:=0) (by decide),cl_fixed (x:=y) (by omega)];omega
 have d3:dotC 0 0 16 x y z=16*z:=by unfold dotC;rw [cl_fixed (x:=16) (by decide),cl_fixed (x:=0) (by decide),cl_fixed (x:=z) (by omega)];omega
 simp only [appC,d1,d2,d3,fdiv_16];rw [addC_in hx hd.1,addC_in hy hd.2.1,addC_in hz hd.2.2]
theorem tPatch_mov {f:Nat→Int} {dx dy dz:Int} (hd:(-1000≤dx∧dx≤1000)∧(-1000≤dy∧dy≤1000)∧(-1000≤dz∧dz≤1000)) (hf:∀j,-1000≤f j∧f j≤1000):TPatch (trX dx dy dz) 1 f (movP f dx dy dz):=by
 intro j _;have h0:=hf (j*3);have h1:=hf (j*3+1);have h2:=hf (j*3+2)
 show (xfAt (trX dx dy dz) 0).app ⟨f (j*3),f (j*3+1),f (j*3+2)⟩=_
 rw [trX_app hd (by omega) (by omega) (by omega)]
 have e0:movP f dx dy dz (j*3)=f (j*3)+dx:=by unfold movP;rw [if_pos (by omega)]
 have e1:movP f dx dy dz (j*3+1)=f (j*3+1)+dy:=by unfold movP;rw [if_neg (by omega),if_pos (by omega)]
 have e2:movP f dx dy dz (j*3+2)=f (j*3+2)+dz:=by unfold movP;rw [if_neg (by omega),if_neg (by omega)]
 rw [e0,e1,e2]
theorem movP_bd {f:Nat→Int} {dx dy dz:Int} (hd:(-60≤dx∧dx≤60)∧(-60≤dy∧dy≤60)∧(-60≤dz∧dz≤60)) (hf:∀j,-1000≤f j∧f j≤1000) (j:Nat) : -1060≤movP f dx dy dz j∧movP f dx dy dz j≤1060:=by
 have h:=hf j;unfold movP
 split
 ·omega
 ·split <;> omega
theorem movP_z {f:Nat→Int} {dx dy dz:Int} (hz:0≤dz) {j:Nat} (hj:j % 3=2) {m:Int} (h:m≤f j):m≤movP f dx dy dz j:=by
 unfold movP;rw [if_neg (by omega),if_neg (by omega)];omega
theorem near_ge {f g:Nat→Int} {m:Int} (hm:m≤1000000) (hf:m≤f 2∧m≤f 5∧m≤f 8∧m≤f 11) (hg:m≤g 2∧m≤g 5∧m≤g 8∧m≤g 11):m≤nearS f g:=by
 have k:∀x,m≤x→m≤cl x:=fun x hx=>by
  unfold cl clampI
  split
  ·omega
  ·split <;> omega
 exact le_min3 (le_min3 (le_min3 (le_min3 (k _ hf.1) (k _ hf.2.1)) (k _ hf.2.2.1)) (k _ hf.2.2.2)) (le_min3 (le_min3 (le_min3 (k _ hg.1) (k _ hg.2.1)) (k _ hg.2.2.1)) (k _ hg.2.2.2))
theorem sIdentity_val (w:World):Calls Tryz.prog 205 #[] w fun e w'=>e = .returned (.agg #[.int .i64 16,.int .i64 0,.int .i64 0,.int .i64 0,.int .i64 16,.int .i64 0,.int .i64 0,.int .i64 0,.int .i64 16,.int .i64 0,.int .i64 0,.int .i64 0])∧Ext w w':=by
 go_enter Tryz.func205,Tryz.ntmps205;go_wp2;refine bodyPost_ret (v:=.agg #[.int .i64 16,.int .i64 0,.int .i64 0,.int .i64 0,.int .i64 16,.int .i64 0,.int .i64 0,.int .i64 0,.int .i64 16,.int .i64 0,.int .i64 0,.int .i64 0]) (by simp [results,Tryz.results205,go_sem]) rfl ⟨rfl,?_⟩;exact S_
theorem sTranslation_val (x y z:Int) (h:okVec x y z=true) (w:World):Calls Tryz.prog 144 #[.agg #[.int .i64 x,.int .i64 y,.int .i64 z]] w fun e w'=>e = .returned (.agg #[.int .i64 16,.int .i64 0,.int .i64 0,.int .i64 0,.int .i64 16,.int .i64 0,.int .i64 0,.int .i64 0,.int .i64 16,.int .i64 x,.int .i64 y,.int .i64 z])∧Ext w w':=by
 have HOK:=hid h;clear h;go_enter Tryz.func144,Tryz.ntmps144;go_wp2_with fail;refine (sIdentity_val _).mono ?_;rintro e w2 ⟨rfl,x2⟩
 have R2:Blk w2 (w.heap.size+1) 226 [.int .i64 0,.int .i64 0,.int .i64 0,.int .i64 0,.int .i64 0,.int .i64 0,.int .i64 0,.int .i64 0,.int .i64 0,.int .i64 0,.int .i64 0,.int .i64 0]:=by
  have h:=(Blk.new (w.alloc (.cells #[.int .i64 x,.int .i64 y,.int .i64 z] 37)) 226 [.int .i64 0,.int .i64 0,.int .i64 0,.int .i64 0,.int .i64 0,.int .i64 0,.int .i64 0,.int .i64 0,.int .i64 0,.int .i64 0,.int .i64 0,.int .i64 0]).ext x2;rw [World.size_alloc] at h;exact h
 have V2:=(Blk.new w 37 [.int .i64 x,.int .i64 y,.int .i64 z]).ext (((Ext.refl _).alloc _).trans x2);have E2:Ext w w2:=Ext.trans X_ x2;have HR2:=hid R2;have HV2:=hid V2;obtain ⟨v0,v1,v2⟩:=V2.q3;have vl:=V2.lt;have rl:=R2.lt;clear x2 R2 V2;go_wp2_with fail;refine (sIsValidVec_val _).mono ?_;rw [HOK.out];rintro e w3 ⟨rfl,x3⟩;have y3:Ext w2 w3:=Ext.trans X_ x3;have M3:=(Blk.new w2 226 [.int .i64 16,.int .i64 0,.int .i64 0,.int .i64 0,.int .i64 16,.int .i64 0,.int .i64 0,.int .i64 0,.int .i64 16,.int .i64 0,.int .i64 0,.int .i64 0]).ext x3;have R3:=HR2.out.ext y3;have V3':=HV2.out.ext y3;have E3:=E2.trans y3;clear v0 v1 v2 x3;have v0:=V3'.cell 0 rfl;have v1:=V3'.cell 1 rfl;have v2:=V3'.cell 2 rfl;have vl':=V3'.lt;obtain ⟨m0,m1,m2,m3,m4,m5,m6,m7,m8,m9,m10,m11⟩:=M3.q12;have f0:=M3.free 0;have f1:=M3.free 1;have f2:=M3.free 2;have f3:=M3.free 3;have f4:=M3.free 4;have f5:=M3.free 5;have f6:=M3.free 6;have f7:=M3.free 7;have f8:=M3.free 8;have f9:=M3.free 9;have f10:=M3.free 10;have f11:=M3.free 11;obtain ⟨r0,r1,r2,r3,r4,r5,r6,r7,r8,r9,r10,r11⟩:=R3.q12;have g0:=R3.free 0;have g1:=R3.free 1;have g2:=R3.free 2;have g3:=R3.free 3;have g4:=R3.free 4;have g5:=R3.free 5;have g6:=R3.free 6;have g7:=R3.free 7;have g8:=R3.free 8;have g9:=R3.free 9;have g10:=R3.free 10;have g11:=R3.free 11;have ml:=M3.lt;have rl':=R3.lt;clear M3 R3 V3' y3;go_wp2;refine bodyPost_ret (v:=.agg #[.int .i64 16,.int .i64 0,.int .i64 0,.int .i64 0,.int .i64 16,.int .i64 0,.int .i64 0,.int .i64 0,.int .i64 16,.int .i64 x,.int .i64 y,.int .i64 z]) (by simp [results,Tryz.results144,go_sem, *]) rfl ⟨rfl,?_⟩;have z2:=E2.size;exact S_
structure PtSm (f:Nat→Int):Prop where
 bd:∀j,-2000≤f j∧f j≤2000
 z:60≤f 2∧60≤f 5∧60≤f 8∧60≤f 11
theorem SmF.pt {f:Nat→Int} (h:SmF f) (k:Z60 4 f):PtSm f:=⟨fun j=>by have:=h j;omega,k 0 (by decide),k 1 (by decide),k 2 (by decide),k 3 (by decide)⟩
theorem SmF.mov {f:Nat→Int} (h:SmF f) (k:Z60 4 f) {dx dy dz:Int} (hd:(-60≤dx∧dx≤60)∧(-60≤dy∧dy≤60)∧(0≤dz∧dz≤60)):PtSm (movP f dx dy dz):=
 ⟨fun j=>by have:=movP_bd (f:=f) (dx:=dx) (dy:=dy) (dz:=dz) ⟨hd.1,hd.2.1,by omega⟩ h j;omega,movP_z hd.2.2.1 rfl (k 0 (by decide)),movP_z hd.2.2.1 rfl (k 1 (by decide)),movP_z hd.2.2.1 rfl (k 2 (by decide)),movP_z hd.2.2.1 rfl (k 3 (by decide))⟩
structure SrfSm (f g:Nat→Int) (sh rt:Int) (n:Nat):Prop where
 f:PtSm f
 g:PtSm g
 sh:0≤sh∧sh<n
 rt:rt=1∨rt=2∨rt=4
theorem SrfSm.ok {f g:Nat→Int} {sh rt:Int} {n:Nat} (h:SrfSm f g sh rt n):srfB f g sh rt n=true:=
 srfB_iff.2 ⟨patB_of fun j _=>by have:=h.f.bd j;omega,patB_of fun j _=>by have:=h.g.bd j;omega,h.sh,by have:=h.rt;omega⟩
theorem SrfSm.near {f g:Nat→Int} {sh rt:Int} {n:Nat} (h:SrfSm f g sh rt n):60≤nearS f g:=near_ge (by decide) h.f.z h.g.z
theorem row12_tr {w:World} {dx dy dz:Int}:RowI (w.alloc (.cells #[.int .i64 16,.int .i64 0,.int .i64 0,.int .i64 0,.int .i64 16,.int .i64 0,.int .i64 0,.int .i64 0,.int .i64 16,.int .i64 dx,.int .i64 dy,.int .i64 dz] 226)) w.heap.size 226 12 (trX dx dy dz):=
 World.rowIs_alloc _ _ _ _ fun i hi=>by rcases twelve1 hi with h|h|h|h|h|h|h|h|h|h|h|h <;> subst h <;> rfl
theorem Gr.rowNew {B:Nat} {wa w:World} (h:Gr B wa w) {b:Nat} (hb:wa.heap.size≤b) (cs:Array Value):Gr B wa (w.setRow b cs):=
 ⟨h.os,h.tape,h.output,by rw [size_setRowB];exact h.size,fun k hk hne=>(setRow_other _ _ _ _ (by omega)).trans (h.block k hk hne)⟩
theorem Cur.rowNew {hi:Nat} {w:World} {B b:Nat} (h:Cur hi w B) (hb:B<b) (cs:Array Value):Cur hi (w.setRow b cs) B:=h.keep fun k hk=>setRow_other _ _ _ _ (by omega)
theorem l20Surf_any (hi B n:Nat) (hn:1≤n∧n≤3) (w:World) (hc:Cur hi w B):Calls Tryz.prog 86 #[.pointer (some ⟨B,0,none⟩),.int .i64 (n:Nat)] w fun e w'=>∃(f g:Nat→Int) (sh rt:Int),e = .returned (.agg #[.int .i64 (f 0),.int .i64 (f 1),.int .i64 (f 2),.int .i64 (f 3),.int .i64 (f 4),.int .i64 (f 5),.int .i64 (f 6),.int .i64 (f 7),.int .i64 (f 8),.int .i64 (f 9),.int .i64 (f 10),.int .i64 (f 11),.int .i64 (g 0),.int .i64 (g 1),.int .i64 (g 2),.int .i64 (g 3),.int .i64 (g 4),.int .i64 (g 5),.int .i64 (g 6),.int .i64 (g 7),.int .i64 (g 8),.int .i64 (g 9),.int .i64 (g 10),.int .i64 (g 11),.int .i64 sh,.int .i64 rt])∧SrfSm f g sh rt n∧Cur hi w' B∧Gr B w w':=by
 have zB:=hc.lt;have x0:Ext w (w.alloc (.cells #[.int .i64 0,.int .i64 0,.int .i64 0,.int .i64 0,.int .i64 0,.int .i64 0,.int .i64 0,.int .i64 0,.int .i64 0,.int .i64 0,.int .i64 0,.int .i64 0,.int .i64 0,.int .i64 0,.int .i64 0,.int .i64 0,.int .i64 0,.int .i64 0,.int .i64 0,.int .i64 0,.int .i64 0,.int .i64 0,.int .i64 0,.int .i64 0,.int .i64 0,.int .i64 0] 42)):=X_;have HQ:=hid (Blk.new w 42 [.int .i64 0,.int .i64 0,.int .i64 0,.int .i64 0,.int .i64 0,.int .i64 0,.int .i64 0,.int .i64 0,.int .i64 0,.int .i64 0,.int .i64 0,.int .i64 0,.int .i64 0,.int .i64 0,.int .i64 0,.int .i64 0,.int .i64 0,.int .i64 0,.int .i64 0,.int .i64 0,.int .i64 0,.int .i64 0,.int .i64 0,.int .i64 0,.int .i64 0,.int .i64 0]);have HC0:=hid (hc.ext x0);have HX0:=hid x0;have z1:(w.alloc (.cells #[.int .i64 0,.int .i64 0,.int .i64 0,.int .i64 0,.int .i64 0,.int .i64 0,.int .i64 0,.int .i64 0,.int .i64 0,.int .i64 0,.int .i64 0,.int .i64 0,.int .i64 0,.int .i64 0,.int .i64 0,.int .i64 0,.int .i64 0,.int .i64 0,.int .i64 0,.int .i64 0,.int .i64 0,.int .i64 0,.int .i64 0,.int .i64 0,.int .i64 0,.int .i64 0] 42)).heap.size=w.heap.size+1:=World.size_alloc _ _;clear hc x0;go_enter Tryz.func86,Tryz.ntmps86;go_wp2_with fail;refine (l05Draw_z hi B _ HC0.out).mono ?_;rintro e w1 ⟨f,rfl,hf,hz6,C1,G1⟩;have HF:=hid hf;have HZ:=hid hz6;clear hf hz6;go_wp2_with fail;refine (l01Below_any hi B n _ C1 (by omega) ⟨by omega,by omega⟩).mono ?_;rintro e w2 ⟨sh,rfl,hsh,C2,G2⟩;go_wp2_with fail;refine (l01Pick_any hi B w2.heap.size 4 [1,2,2,4] _ (C2.ext X_) (Blk.new w2 3 [.int .i64 1,.int .i64 2,.int .i64 2,.int .i64 4]) (by have:=C2.lt;omega) rfl (by decide) (by decide)).mono ?_;rintro e w3 ⟨rt,rfl,hrt,C3,G3⟩
 have hrt2:rt=1∨rt=2∨rt=4:=by simp at hrt;omega
 have GG:=((Gr.refl B w).ext HX0.out).trans (G1.trans (G2.trans (((Gr.refl B w2).ext (show Ext w2 (w2.alloc (.cells #[.int .i64 1,.int .i64 2,.int .i64 2,.int .i64 4] 3)) from X_)).trans G3)));have RR:=(G1.trans (G2.trans (((Gr.refl B w2).ext (show Ext w2 (w2.alloc (.cells #[.int .i64 1,.int .i64 2,.int .i64 2,.int .i64 4] 3)) from X_)).trans G3))).blk HQ.out (by omega);have HG:=hid GG;have HR:=hid RR;have HC3:=hid C3;have HRT:=hid hrt2;have z3:=GG.size;have l3:=RR.lt;clear C1 G1 C2 G2 C3 G3 GG RR hrt hrt2 HC0 HQ HX0;go_upto_region 2 with (show wpList _ _ _ [_] _ _;refine wpList_store_fresh _ _ _ rfl 42 (.tmp 5) (.tmp 14) rfl rfl #[.int .i64 (f 0),.int .i64 (f 1),.int .i64 (f 2),.int .i64 (f 3),.int .i64 (f 4),.int .i64 (f 5),.int .i64 (f 6),.int .i64 (f 7),.int .i64 (f 8),.int .i64 (f 9),.int .i64 (f 10),.int .i64 (f 11),.int .i64 0,.int .i64 0,.int .i64 0,.int .i64 0,.int .i64 0,.int .i64 0,.int .i64 0,.int .i64 0,.int .i64 0,.int .i64 0,.int .i64 0,.int .i64 0,.int .i64 sh,.int .i64 rt] w3.heap.size rfl rfl rfl (by kernel_rfl) (by kernel_rfl) (by kernel_rfl) ?_)
 obtain ⟨A,hA⟩:∃A,w3.heap.size=A:=⟨_,rfl⟩
 rw [hA];have b4:=Blk.new w3 42 [.int .i64 (f 0),.int .i64 (f 1),.int .i64 (f 2),.int .i64 (f 3),.int .i64 (f 4),.int .i64 (f 5),.int .i64 (f 6),.int .i64 (f 7),.int .i64 (f 8),.int .i64 (f 9),.int .i64 (f 10),.int .i64 (f 11),.int .i64 0,.int .i64 0,.int .i64 0,.int .i64 0,.int .i64 0,.int .i64 0,.int .i64 0,.int .i64 0,.int .i64 0,.int .i64 0,.int .i64 0,.int .i64 0,.int .i64 sh,.int .i64 rt];have x4:Ext w3 (w3.alloc (.cells #[.int .i64 (f 0),.int .i64 (f 1),.int .i64 (f 2),.int .i64 (f 3),.int .i64 (f 4),.int .i64 (f 5),.int .i64 (f 6),.int .i64 (f 7),.int .i64 (f 8),.int .i64 (f 9),.int .i64 (f 10),.int .i64 (f 11),.int .i64 0,.int .i64 0,.int .i64 0,.int .i64 0,.int .i64 0,.int .i64 0,.int .i64 0,.int .i64 0,.int .i64 0,.int .i64 0,.int .i64 0,.int .i64 0,.int .i64 sh,.int .i64 rt] 42)):=X_;rw [hA] at b4;have HG4:=hid (HG.out.ext x4);have HR4:=hid (HR.out.ext x4);have HC4:=hid (HC3.out.ext x4)
 obtain ⟨W4,hW4⟩:∃W,w3.alloc (.cells #[.int .i64 (f 0),.int .i64 (f 1),.int .i64 (f 2),.int .i64 (f 3),.int .i64 (f 4),.int .i64 (f 5),.int .i64 (f 6),.int .i64 (f 7),.int .i64 (f 8),.int .i64 (f 9),.int .i64 (f 10),.int .i64 (f 11),.int .i64 0,.int .i64 0,.int .i64 0,.int .i64 0,.int .i64 0,.int .i64 0,.int .i64 0,.int .i64 0,.int .i64 0,.int .i64 0,.int .i64 0,.int .i64 0,.int .i64 sh,.int .i64 rt] 42)=W:=⟨_,rfl⟩
 rw [hW4] at HG4 HR4 HC4 b4 ⊢;have HB4:=hid b4
 have hBA:B<A:=by omega
 have hRA:w.heap.size<A:=by omega
 clear hW4 x4 HG HR HC3 hA z3 l3;have c0:=b4.cell 0 rfl;have k0:=b4.free 0;have c1:=b4.cell 1 rfl;have k1:=b4.free 1;have c2:=b4.cell 2 rfl;have k2:=b4.free 2;have c3:=b4.cell 3 rfl;have k3:=b4.free 3;have c4:=b4.cell 4 rfl;have k4:=b4.free 4;have c5:=b4.cell 5 rfl;have k5:=b4.free 5;have c6:=b4.cell 6 rfl;have k6:=b4.free 6;have c7:=b4.cell 7 rfl;have k7:=b4.free 7;have c8:=b4.cell 8 rfl;have k8:=b4.free 8;have c9:=b4.cell 9 rfl;have k9:=b4.free 9;have c10:=b4.cell 10 rfl;have k10:=b4.free 10;have c11:=b4.cell 11 rfl;have k11:=b4.free 11;have c12:=b4.cell 12 rfl;have k12:=b4.free 12;have c13:=b4.cell 13 rfl;have k13:=b4.free 13;have c14:=b4.cell 14 rfl;have k14:=b4.free 14;have c15:=b4.cell 15 rfl;have k15:=b4.free 15;have c16:=b4.cell 16 rfl;have k16:=b4.free 16;have c17:=b4.cell 17 rfl;have k17:=b4.free 17;have c18:=b4.cell 18 rfl;have k18:=b4.free 18;have c19:=b4.cell 19 rfl;have k19:=b4.free 19;have c20:=b4.cell 20 rfl;have k20:=b4.free 20;have c21:=b4.cell 21 rfl;have k21:=b4.free 21;have c22:=b4.cell 22 rfl;have k22:=b4.free 22;have c23:=b4.cell 23 rfl;have k23:=b4.free 23;have c24:=b4.cell 24 rfl;have k24:=b4.free 24;have c25:=b4.cell 25 rfl;have k25:=b4.free 25;have bl:=b4.lt;clear b4;go_upto_region 3 with fail
 have b5:Blk ((((((((((((W4.setCell ⟨A,12,none⟩ (.int .i64 (f 0))).setCell ⟨A,13,none⟩ (.int .i64 (f 1))).setCell ⟨A,14,none⟩ (.int .i64 (f 2))).setCell ⟨A,15,none⟩ (.int .i64 (f 3))).setCell ⟨A,16,none⟩ (.int .i64 (f 4))).setCell ⟨A,17,none⟩ (.int .i64 (f 5))).setCell ⟨A,18,none⟩ (.int .i64 (f 6))).setCell ⟨A,19,none⟩ (.int .i64 (f 7))).setCell ⟨A,20,none⟩ (.int .i64 (f 8))).setCell ⟨A,21,none⟩ (.int .i64 (f 9))).setCell ⟨A,22,none⟩ (.int .i64 (f 10))).setCell ⟨A,23,none⟩ (.int .i64 (f 11))) A 42 [.int .i64 (f 0),.int .i64 (f 1),.int .i64 (f 2),.int .i64 (f 3),.int .i64 (f 4),.int .i64 (f 5),.int .i64 (f 6),.int .i64 (f 7),.int .i64 (f 8),.int .i64 (f 9),.int .i64 (f 10),.int .i64 (f 11),.int .i64 (f 0),.int .i64 (f 1),.int .i64 (f 2),.int .i64 (f 3),.int .i64 (f 4),.int .i64 (f 5),.int .i64 (f 6),.int .i64 (f 7),.int .i64 (f 8),.int .i64 (f 9),.int .i64 (f 10),.int .i64 (f 11),.int .i64 sh,.int .i64 rt]:=((((((((((((HB4.out.set 12 _).set 13 _).set 14 _).set 15 _).set 16 _).set 17 _).set 18 _).set 19 _).set 20 _).set 21 _).set 22 _).set 23 _)
 have C5:Cur hi ((((((((((((W4.setCell ⟨A,12,none⟩ (.int .i64 (f 0))).setCell ⟨A,13,none⟩ (.int .i64 (f 1))).setCell ⟨A,14,none⟩ (.int .i64 (f 2))).setCell ⟨A,15,none⟩ (.int .i64 (f 3))).setCell ⟨A,16,none⟩ (.int .i64 (f 4))).setCell ⟨A,17,none⟩ (.int .i64 (f 5))).setCell ⟨A,18,none⟩ (.int .i64 (f 6))).setCell ⟨A,19,none⟩ (.int .i64 (f 7))).setCell ⟨A,20,none⟩ (.int .i64 (f 8))).setCell ⟨A,21,none⟩ (.int .i64 (f 9))).setCell ⟨A,22,none⟩ (.int .i64 (f 10))).setCell ⟨A,23,none⟩ (.int .i64 (f 11))) B:=((((((((((((HC4.out.setNew (b:=A) hBA 12 _).setNew (b:=A) hBA 13 _).setNew (b:=A) hBA 14 _).setNew (b:=A) hBA 15 _).setNew (b:=A) hBA 16 _).setNew (b:=A) hBA 17 _).setNew (b:=A) hBA 18 _).setNew (b:=A) hBA 19 _).setNew (b:=A) hBA 20 _).setNew (b:=A) hBA 21 _).setNew (b:=A) hBA 22 _).setNew (b:=A) hBA 23 _)
 have G5:Gr B w ((((((((((((W4.setCell ⟨A,12,none⟩ (.int .i64 (f 0))).setCell ⟨A,13,none⟩ (.int .i64 (f 1))).setCell ⟨A,14,none⟩ (.int .i64 (f 2))).setCell ⟨A,15,none⟩ (.int .i64 (f 3))).setCell ⟨A,16,none⟩ (.int .i64 (f 4))).setCell ⟨A,17,none⟩ (.int .i64 (f 5))).setCell ⟨A,18,none⟩ (.int .i64 (f 6))).setCell ⟨A,19,none⟩ (.int .i64 (f 7))).setCell ⟨A,20,none⟩ (.int .i64 (f 8))).setCell ⟨A,21,none⟩ (.int .i64 (f 9))).setCell ⟨A,22,none⟩ (.int .i64 (f 10))).setCell ⟨A,23,none⟩ (.int .i64 (f 11))):=((((((((((((HG4.out.setNew (b:=A) (by omega) 12 _).setNew (b:=A) (by omega) 13 _).setNew (b:=A) (by omega) 14 _).setNew (b:=A) (by omega) 15 _).setNew (b:=A) (by omega) 16 _).setNew (b:=A) (by omega) 17 _).setNew (b:=A) (by omega) 18 _).setNew (b:=A) (by omega) 19 _).setNew (b:=A) (by omega) 20 _).setNew (b:=A) (by omega) 21 _).setNew (b:=A) (by omega) 22 _).setNew (b:=A) (by omega) 23 _)
 have R5:Blk ((((((((((((W4.setCell ⟨A,12,none⟩ (.int .i64 (f 0))).setCell ⟨A,13,none⟩ (.int .i64 (f 1))).setCell ⟨A,14,none⟩ (.int .i64 (f 2))).setCell ⟨A,15,none⟩ (.int .i64 (f 3))).setCell ⟨A,16,none⟩ (.int .i64 (f 4))).setCell ⟨A,17,none⟩ (.int .i64 (f 5))).setCell ⟨A,18,none⟩ (.int .i64 (f 6))).setCell ⟨A,19,none⟩ (.int .i64 (f 7))).setCell ⟨A,20,none⟩ (.int .i64 (f 8))).setCell ⟨A,21,none⟩ (.int .i64 (f 9))).setCell ⟨A,22,none⟩ (.int .i64 (f 10))).setCell ⟨A,23,none⟩ (.int .i64 (f 11))) w.heap.size 42 [.int .i64 0,.int .i64 0,.int .i64 0,.int .i64 0,.int .i64 0,.int .i64 0,.int .i64 0,.int .i64 0,.int .i64 0,.int .i64 0,.int .i64 0,.int .i64 0,.int .i64 0,.int .i64 0,.int .i64 0,.int .i64 0,.int .i64 0,.int .i64 0,.int .i64 0,.int .i64 0,.int .i64 0,.int .i64 0,.int .i64 0,.int .i64 0,.int .i64 0,.int .i64 0]:=((((((((((((HR4.out.other (a:=⟨A,12,none⟩) (by simp only;omega) _).other (a:=⟨A,13,none⟩) (by simp only;omega) _).other (a:=⟨A,14,none⟩) (by simp only;omega) _).other (a:=⟨A,15,none⟩) (by simp only;omega) _).other (a:=⟨A,16,none⟩) (by simp only;omega) _).other (a:=⟨A,17,none⟩) (by simp only;omega) _).other (a:=⟨A,18,none⟩) (by simp only;omega) _).other (a:=⟨A,19,none⟩) (by simp only;omega) _).other (a:=⟨A,20,none⟩) (by simp only;omega) _).other (a:=⟨A,21,none⟩) (by simp only;omega) _).other (a:=⟨A,22,none⟩) (by simp only;omega) _).other (a:=⟨A,23,none⟩) (by simp only;omega) _)
 obtain ⟨W5,hW5⟩:∃W,((((((((((((W4.setCell ⟨A,12,none⟩ (.int .i64 (f 0))).setCell ⟨A,13,none⟩ (.int .i64 (f 1))).setCell ⟨A,14,none⟩ (.int .i64 (f 2))).setCell ⟨A,15,none⟩ (.int .i64 (f 3))).setCell ⟨A,16,none⟩ (.int .i64 (f 4))).setCell ⟨A,17,none⟩ (.int .i64 (f 5))).setCell ⟨A,18,none⟩ (.int .i64 (f 6))).setCell ⟨A,19,none⟩ (.int .i64 (f 7))).setCell ⟨A,20,none⟩ (.int .i64 (f 8))).setCell ⟨A,21,none⟩ (.int .i64 (f 9))).setCell ⟨A,22,none⟩ (.int .i64 (f 10))).setCell ⟨A,23,none⟩ (.int .i64 (f 11)))=W:=⟨_,rfl⟩
 rw [hW5] at b5 C5 G5 R5 ⊢;have HB5:=hid b5;have HC5:=hid C5;have HG5:=hid G5;have HR5:=hid R5;clear hW5 b5 C5 G5 R5 HB4 HC4 HG4 HR4 c0 c1 c2 c3 c4 c5 c6 c7 c8 c9 c10 c11 c12 c13 c14 c15 c16 c17 c18 c19 c20 c21 c22 c23 c24 c25 k0 k1 k2 k3 k4 k5 k6 k7 k8 k9 k10 k11 k12 k13 k14 k15 k16 k17 k18 k19 k20 k21 k22 k23 k24 k25 bl;go_wp2_with fail;refine (l01Once_any hi B 2 _ HC5.out (by decide) ⟨by decide,by decide⟩).mono ?_;rintro e w6 ⟨o,rfl,C6,G6⟩;have HB6:=hid (G6.blk HB5.out (by omega));have HR6:=hid (G6.blk HR5.out (by omega));have HC6:=hid C6;have HG6:=hid (HG5.out.trans G6);clear C6 G6 HB5 HR5 HC5 HG5
 cases o
 case' true=>
  have b6:=HB6.out;have l6:=b6.lt
  have hcs:∀j,j<12→w6.cell? ⟨A,j,none⟩=some (.int .i64 (f j)):=fun j hj=>by rcases twelve1 hj with h|h|h|h|h|h|h|h|h|h|h|h <;> subst h <;> exact b6.cell _ rfl
  obtain ⟨c0,c1,c2,c3,c4,c5,c6,c7,c8,c9,c10,c11⟩:=b6.q12;clear b6 hcs;go_upto_region 4 with fail;refine wp_region_stagesS [([0,3,6,11,12],1),([2],4),([5],7),([8],9),([],10),([],13),([14],15)] 15 (fun w'=>∃d,w'=lowc (CBox A) _ d) (by kernel_rfl) (by kernel_rfl) (SC.drew _ _) ?_;refine sc_ fun K hK=>?_;go_wp2_with fail;refine (l01Below_any hi B 60 _ (HC6.out.ext (Ext.drew (Ext.refl _))) (by decide) ⟨by decide,by decide⟩).mono ?_;rintro e v1 ⟨ax,rfl,hax,C1,G1⟩;have g1:Gr B w6 v1:=((Gr.refl B w6).ext (Ext.drew (Ext.refl _))).trans G1;go_wp2_with fail;refine hK _ _ (.inr (SC.blocks fun a ha=>g1.keep (by rw [ha];exact l6) (by rw [ha];omega))) ?_;clear hK K;refine sc_ fun K hK=>?_;go_wp2_with fail;refine (l01Below_any hi B 60 _ C1 (by decide) ⟨by decide,by decide⟩).mono ?_;rintro e v2 ⟨ay,rfl,hay,C2,G2⟩;have g2:Gr B w6 v2:=g1.trans G2;go_wp2_with fail;refine hK _ _ (.inr (SC.blocks fun a ha=>g2.keep (by rw [ha];exact l6) (by rw [ha];omega))) ?_;clear hK K;refine sc_ fun K hK=>?_;go_wp2_with fail;refine (l01Below_any hi B 30 _ C2 (by decide) ⟨by decide,by decide⟩).mono ?_;rintro e v3 ⟨dz,rfl,hdz,C3,G3⟩;have g3:Gr B w6 v3:=g2.trans G3;go_wp2_with fail;refine hK _ _ (.inr (SC.blocks fun a ha=>g3.keep (by rw [ha];exact l6) (by rw [ha];omega))) ?_;clear hK K;refine sc_ fun K hK=>?_;go_wp2_with fail
  obtain ⟨dx,hdx⟩:∃d,ax - 30=d:=⟨_,rfl⟩
  obtain ⟨dy,hdy⟩:∃d,ay - 30=d:=⟨_,rfl⟩
  rw [hdx,hdy]
  have bd:(-60≤dx∧dx≤60)∧(-60≤dy∧dy≤60)∧(0≤dz∧dz≤60):=by omega
  have HD:=hid bd;clear hdx hdy;refine (sTranslation_val dx dy dz (okVec_iff.2 (by omega)) _).mono ?_;rintro e v4 ⟨rfl,x4⟩;have g4:Gr B w6 v4:=g3.ext x4;go_wp2_with fail;refine hK _ _ (.inr (SC.blocks fun a ha=>g4.keep (by rw [ha];exact l6) (by rw [ha];omega))) ?_;clear hK K;refine sc_ fun K hK=>?_;go_wp2_with fail;have x5:Ext v4 (v4.alloc (.cells #[.int .i64 16,.int .i64 0,.int .i64 0,.int .i64 0,.int .i64 16,.int .i64 0,.int .i64 0,.int .i64 0,.int .i64 16,.int .i64 dx,.int .i64 dy,.int .i64 dz] 226)):=X_;have g5:Gr B w6 (v4.alloc (.cells #[.int .i64 16,.int .i64 0,.int .i64 0,.int .i64 0,.int .i64 16,.int .i64 0,.int .i64 0,.int .i64 0,.int .i64 16,.int .i64 dx,.int .i64 dy,.int .i64 dz] 226)):=g4.ext x5;refine hK _ _ (.inr (SC.blocks fun a ha=>g5.keep (by rw [ha];exact l6) (by rw [ha];omega))) ?_;clear hK K;refine sc_ fun K hK=>?_;go_wp2_with fail
  refine (sTransformPatch_val v4.heap.size (v4.heap.size+1) _ 1 (trX dx dy dz) f (movP f dx dy dz) (tPatch_mov (by have:=HD.out;omega) HF.out) _ (by
   have h:=(row12_tr (w:=v4) (dx:=dx) (dy:=dy) (dz:=dz)).flats (k:=12) (n:=1) (cap:=1) (lo:=v4.heap.size) (by decide) (by decide) (Nat.le_refl _) (fun i hi=>by
    have:=HD.out;unfold trX I64
    repeat' split
    all_goals omega)
   rw [World.size_alloc] at h
   exact h) (by simp)).mono ?_
  rintro e v6 ⟨rfl,x6⟩;have g6:Gr B w6 v6:=g5.ext x6;go_wp2_with fail;refine hK _ _ (.inr (SC.blocks fun a ha=>g6.keep (by rw [ha];exact l6) (by rw [ha];omega))) ?_;clear hK K;have C6:=((C3.ext x4).ext x5).ext x6;have B7:=g6.blk HB6.out (by omega);have HR7:=hid (g6.blk HR6.out (by omega));have HG7:=hid (HG6.out.trans g6);have HB7:=hid B7;have HC7:=hid C6;have l7:=B7.lt;clear C1 G1 g1 C2 G2 g2 C3 G3 g3 x4 g4 x5 g5 x6 g6 C6 HB6 HR6 HC6 HG6 c0 c1 c2 c3 c4 c5 c6 c7 c8 c9 c10 c11;have c12:=B7.cell 12 rfl;have k12:=B7.free 12;have c13:=B7.cell 13 rfl;have k13:=B7.free 13;have c14:=B7.cell 14 rfl;have k14:=B7.free 14;have c15:=B7.cell 15 rfl;have k15:=B7.free 15;have c16:=B7.cell 16 rfl;have k16:=B7.free 16;have c17:=B7.cell 17 rfl;have k17:=B7.free 17;have c18:=B7.cell 18 rfl;have k18:=B7.free 18;have c19:=B7.cell 19 rfl;have k19:=B7.free 19;have c20:=B7.cell 20 rfl;have k20:=B7.free 20;have c21:=B7.cell 21 rfl;have k21:=B7.free 21;have c22:=B7.cell 22 rfl;have k22:=B7.free 22;have c23:=B7.cell 23 rfl;have k23:=B7.free 23;clear B7;refine sc_ fun K hK=>?_;go_wp2_with fail;refine hK _ _ (.inl trivial) ?_;clear hK K;refine wpStagesS_nil ?_
  obtain ⟨g,hg⟩:∃g,movP f dx dy dz=g:=⟨_,rfl⟩
  rw [hg]
  have b5:Blk ((((((((((((v6.setCell ⟨A,12,none⟩ (.int .i64 (g 0))).setCell ⟨A,13,none⟩ (.int .i64 (g 1))).setCell ⟨A,14,none⟩ (.int .i64 (g 2))).setCell ⟨A,15,none⟩ (.int .i64 (g 3))).setCell ⟨A,16,none⟩ (.int .i64 (g 4))).setCell ⟨A,17,none⟩ (.int .i64 (g 5))).setCell ⟨A,18,none⟩ (.int .i64 (g 6))).setCell ⟨A,19,none⟩ (.int .i64 (g 7))).setCell ⟨A,20,none⟩ (.int .i64 (g 8))).setCell ⟨A,21,none⟩ (.int .i64 (g 9))).setCell ⟨A,22,none⟩ (.int .i64 (g 10))).setCell ⟨A,23,none⟩ (.int .i64 (g 11))) A 42 [.int .i64 (f 0),.int .i64 (f 1),.int .i64 (f 2),.int .i64 (f 3),.int .i64 (f 4),.int .i64 (f 5),.int .i64 (f 6),.int .i64 (f 7),.int .i64 (f 8),.int .i64 (f 9),.int .i64 (f 10),.int .i64 (f 11),.int .i64 (g 0),.int .i64 (g 1),.int .i64 (g 2),.int .i64 (g 3),.int .i64 (g 4),.int .i64 (g 5),.int .i64 (g 6),.int .i64 (g 7),.int .i64 (g 8),.int .i64 (g 9),.int .i64 (g 10),.int .i64 (g 11),.int .i64 sh,.int .i64 rt]:=((((((((((((HB7.out.set 12 _).set 13 _).set 14 _).set 15 _).set 16 _).set 17 _).set 18 _).set 19 _).set 20 _).set 21 _).set 22 _).set 23 _)
  have C5:Cur hi ((((((((((((v6.setCell ⟨A,12,none⟩ (.int .i64 (g 0))).setCell ⟨A,13,none⟩ (.int .i64 (g 1))).setCell ⟨A,14,none⟩ (.int .i64 (g 2))).setCell ⟨A,15,none⟩ (.int .i64 (g 3))).setCell ⟨A,16,none⟩ (.int .i64 (g 4))).setCell ⟨A,17,none⟩ (.int .i64 (g 5))).setCell ⟨A,18,none⟩ (.int .i64 (g 6))).setCell ⟨A,19,none⟩ (.int .i64 (g 7))).setCell ⟨A,20,none⟩ (.int .i64 (g 8))).setCell ⟨A,21,none⟩ (.int .i64 (g 9))).setCell ⟨A,22,none⟩ (.int .i64 (g 10))).setCell ⟨A,23,none⟩ (.int .i64 (g 11))) B:=((((((((((((HC7.out.setNew (b:=A) hBA 12 _).setNew (b:=A) hBA 13 _).setNew (b:=A) hBA 14 _).setNew (b:=A) hBA 15 _).setNew (b:=A) hBA 16 _).setNew (b:=A) hBA 17 _).setNew (b:=A) hBA 18 _).setNew (b:=A) hBA 19 _).setNew (b:=A) hBA 20 _).setNew (b:=A) hBA 21 _).setNew (b:=A) hBA 22 _).setNew (b:=A) hBA 23 _)
  have G5:Gr B w ((((((((((((v6.setCell ⟨A,12,none⟩ (.int .i64 (g 0))).setCell ⟨A,13,none⟩ (.int .i64 (g 1))).setCell ⟨A,14,none⟩ (.int .i64 (g 2))).setCell ⟨A,15,none⟩ (.int .i64 (g 3))).setCell ⟨A,16,none⟩ (.int .i64 (g 4))).setCell ⟨A,17,none⟩ (.int .i64 (g 5))).setCell ⟨A,18,none⟩ (.int .i64 (g 6))).setCell ⟨A,19,none⟩ (.int .i64 (g 7))).setCell ⟨A,20,none⟩ (.int .i64 (g 8))).setCell ⟨A,21,none⟩ (.int .i64 (g 9))).setCell ⟨A,22,none⟩ (.int .i64 (g 10))).setCell ⟨A,23,none⟩ (.int .i64 (g 11))):=((((((((((((HG7.out.setNew (b:=A) (by omega) 12 _).setNew (b:=A) (by omega) 13 _).setNew (b:=A) (by omega) 14 _).setNew (b:=A) (by omega) 15 _).setNew (b:=A) (by omega) 16 _).setNew (b:=A) (by omega) 17 _).setNew (b:=A) (by omega) 18 _).setNew (b:=A) (by omega) 19 _).setNew (b:=A) (by omega) 20 _).setNew (b:=A) (by omega) 21 _).setNew (b:=A) (by omega) 22 _).setNew (b:=A) (by omega) 23 _)
  have R5:Blk ((((((((((((v6.setCell ⟨A,12,none⟩ (.int .i64 (g 0))).setCell ⟨A,13,none⟩ (.int .i64 (g 1))).setCell ⟨A,14,none⟩ (.int .i64 (g 2))).setCell ⟨A,15,none⟩ (.int .i64 (g 3))).setCell ⟨A,16,none⟩ (.int .i64 (g 4))).setCell ⟨A,17,none⟩ (.int .i64 (g 5))).setCell ⟨A,18,none⟩ (.int .i64 (g 6))).setCell ⟨A,19,none⟩ (.int .i64 (g 7))).setCell ⟨A,20,none⟩ (.int .i64 (g 8))).setCell ⟨A,21,none⟩ (.int .i64 (g 9))).setCell ⟨A,22,none⟩ (.int .i64 (g 10))).setCell ⟨A,23,none⟩ (.int .i64 (g 11))) w.heap.size 42 [.int .i64 0,.int .i64 0,.int .i64 0,.int .i64 0,.int .i64 0,.int .i64 0,.int .i64 0,.int .i64 0,.int .i64 0,.int .i64 0,.int .i64 0,.int .i64 0,.int .i64 0,.int .i64 0,.int .i64 0,.int .i64 0,.int .i64 0,.int .i64 0,.int .i64 0,.int .i64 0,.int .i64 0,.int .i64 0,.int .i64 0,.int .i64 0,.int .i64 0,.int .i64 0]:=((((((((((((HR7.out.other (a:=⟨A,12,none⟩) (by simp only;omega) _).other (a:=⟨A,13,none⟩) (by simp only;omega) _).other (a:=⟨A,14,none⟩) (by simp only;omega) _).other (a:=⟨A,15,none⟩) (by simp only;omega) _).other (a:=⟨A,16,none⟩) (by simp only;omega) _).other (a:=⟨A,17,none⟩) (by simp only;omega) _).other (a:=⟨A,18,none⟩) (by simp only;omega) _).other (a:=⟨A,19,none⟩) (by simp only;omega) _).other (a:=⟨A,20,none⟩) (by simp only;omega) _).other (a:=⟨A,21,none⟩) (by simp only;omega) _).other (a:=⟨A,22,none⟩) (by simp only;omega) _).other (a:=⟨A,23,none⟩) (by simp only;omega) _)
  have hS:SrfSm f g sh rt n:=⟨HF.out.pt HZ.out,hg▸HF.out.mov HZ.out HD.out,hsh,HRT.out⟩
  obtain ⟨W5,hW5⟩:∃W,((((((((((((v6.setCell ⟨A,12,none⟩ (.int .i64 (g 0))).setCell ⟨A,13,none⟩ (.int .i64 (g 1))).setCell ⟨A,14,none⟩ (.int .i64 (g 2))).setCell ⟨A,15,none⟩ (.int .i64 (g 3))).setCell ⟨A,16,none⟩ (.int .i64 (g 4))).setCell ⟨A,17,none⟩ (.int .i64 (g 5))).setCell ⟨A,18,none⟩ (.int .i64 (g 6))).setCell ⟨A,19,none⟩ (.int .i64 (g 7))).setCell ⟨A,20,none⟩ (.int .i64 (g 8))).setCell ⟨A,21,none⟩ (.int .i64 (g 9))).setCell ⟨A,22,none⟩ (.int .i64 (g 10))).setCell ⟨A,23,none⟩ (.int .i64 (g 11)))=W:=⟨_,rfl⟩
  go_upto_region 5 with fail;rw [hW5] at b5 C5 G5 R5 ⊢;have HB9:=hid b5;have HC9:=hid C5;have HG9:=hid G5;have HR9:=hid R5;have HS:=hid hS;clear hW5 hg b5 C5 G5 R5 HB7 HC7 HG7 HR7 hS c12 c13 c14 c15 c16 c17 c18 c19 c20 c21 c22 c23 k12 k13 k14 k15 k16 k17 k18 k19 k20 k21 k22 k23
 case' false=>
  obtain ⟨g,hg⟩:∃g,f=g:=⟨_,rfl⟩
  have b9:=HB6.out
  have hS:SrfSm f f sh rt n:=⟨HF.out.pt HZ.out,HF.out.pt HZ.out,hsh,HRT.out⟩
  have HB9:Hid (Blk w6 A 42 [.int .i64 (f 0),.int .i64 (f 1),.int .i64 (f 2),.int .i64 (f 3),.int .i64 (f 4),.int .i64 (f 5),.int .i64 (f 6),.int .i64 (f 7),.int .i64 (f 8),.int .i64 (f 9),.int .i64 (f 10),.int .i64 (f 11),.int .i64 (g 0),.int .i64 (g 1),.int .i64 (g 2),.int .i64 (g 3),.int .i64 (g 4),.int .i64 (g 5),.int .i64 (g 6),.int .i64 (g 7),.int .i64 (g 8),.int .i64 (g 9),.int .i64 (g 10),.int .i64 (g 11),.int .i64 sh,.int .i64 rt]):=hid (by rw [←hg];exact b9);have HC9:=HC6;have HG9:=HG6;have HR9:=HR6;have HS:Hid (SrfSm f g sh rt n):=hid (by rw [←hg];exact hS);clear hg b9 hS HB6 HC6 HG6 HR6;go_upto_region 5 with fail
 all_goals
  have hcA:=HB9.out.rangeB;have hbR:=HR9.out;go_wp2_with (first|(show wpList _ _ _ [_,_] _ _;refine wpList_load_mid rfl _ _ rfl A 0 rfl [.int .i64 (f 0),.int .i64 (f 1),.int .i64 (f 2),.int .i64 (f 3),.int .i64 (f 4),.int .i64 (f 5),.int .i64 (f 6),.int .i64 (f 7),.int .i64 (f 8),.int .i64 (f 9),.int .i64 (f 10),.int .i64 (f 11),.int .i64 (g 0),.int .i64 (g 1),.int .i64 (g 2),.int .i64 (g 3),.int .i64 (g 4),.int .i64 (g 5),.int .i64 (g 6),.int .i64 (g 7),.int .i64 (g 8),.int .i64 (g 9),.int .i64 (g 10),.int .i64 (g 11),.int .i64 sh,.int .i64 rt] _ hcA Tryz.underlying42 rfl info_srfS ?_)|(show wpList _ _ _ [_] _ _;refine wpList_store_rowTo rfl _ _ _ rfl rfl w.heap.size #[.int .i64 (f 0),.int .i64 (f 1),.int .i64 (f 2),.int .i64 (f 3),.int .i64 (f 4),.int .i64 (f 5),.int .i64 (f 6),.int .i64 (f 7),.int .i64 (f 8),.int .i64 (f 9),.int .i64 (f 10),.int .i64 (f 11),.int .i64 (g 0),.int .i64 (g 1),.int .i64 (g 2),.int .i64 (g 3),.int .i64 (g 4),.int .i64 (g 5),.int .i64 (g 6),.int .i64 (g 7),.int .i64 (g 8),.int .i64 (g 9),.int .i64 (g 10),.int .i64 (g 11),.int .i64 sh,.int .i64 rt] rfl rfl 42 _ hbR info_srfS rfl (by kernel_rfl) ?_));have bR:=Blk.rowB HR9.out [.int .i64 (f 0),.int .i64 (f 1),.int .i64 (f 2),.int .i64 (f 3),.int .i64 (f 4),.int .i64 (f 5),.int .i64 (f 6),.int .i64 (f 7),.int .i64 (f 8),.int .i64 (f 9),.int .i64 (f 10),.int .i64 (f 11),.int .i64 (g 0),.int .i64 (g 1),.int .i64 (g 2),.int .i64 (g 3),.int .i64 (g 4),.int .i64 (g 5),.int .i64 (g 6),.int .i64 (g 7),.int .i64 (g 8),.int .i64 (g 9),.int .i64 (g 10),.int .i64 (g 11),.int .i64 sh,.int .i64 rt];clear hcA hbR;refine ret_box rfl rfl bR _ Tryz.underlying42 rfl info_srfS rfl ?_;exact ⟨f,g,sh,rt,rfl,HS.out,HC9.out.rowNew (by omega) _,HG9.out.rowNew (Nat.le_refl _) _⟩
theorem Prg.R.set2 {p:Prg} {lo hi l2 A:Nat} {w:World} {v:Value} (h:p.R lo hi w v) (hA:A<lo) (hl:l2≤lo) (hh:hi≤w.heap.size) (u u':Value):p.R l2 ((w.setCell ⟨A,0,none⟩ u).setCell ⟨A,1,none⟩ u').heap.size ((w.setCell ⟨A,0,none⟩ u).setCell ⟨A,1,none⟩ u') v:=
 (h.same ((Same.setLow _ (p:=⟨A,0,none⟩) hA u).trans (Same.setLow _ (p:=⟨A,1,none⟩) hA u'))).low hl (by rw [World.size_setCell,World.size_setCell];exact hh)
theorem Prg.R.ext' {p:Prg} {lo:Nat} {w w':World} {v:Value} (h:p.R lo w.heap.size w v) (e:Ext w w'):p.R lo w'.heap.size w' v:=(h.ext (Nat.le_refl _) e).low (Nat.le_refl _) e.size
theorem cu_chk:cuP.chkB=true:=by
 unfold Prg.chkB;simp only [Bool.and_eq_true];refine ⟨⟨⟨⟨?_,?_⟩,?_⟩,?_⟩,?_⟩
 ·decide
 ·simp [cuP,cuN,cuA,Prg.nameB,isVar,Lib.toList_data]
 ·simp [cuP,cuN,cuA,Prg.arB]
 ·simp [cuP,cuN,cuA,Prg.asB,isVar,asgB,Lib.toList_data]
 ·simp [cuP,cuN,cuA,Prg.colB,asgB,Lib.toList_data]
theorem l14Good_cur (hi B:Nat) (w:World) (hc:Cur hi w B):Calls Tryz.prog 140 #[.pointer (some ⟨B,0,none⟩)] w fun e w'=>∃(p:Prg) (v:Value),e = .returned v∧p.R w.heap.size w'.heap.size w' v∧p.bd∧p.small∧p.chkB=true∧Cur hi w' B∧Gr B w w':=by
 have zB:=hc.lt;have hB:=Blk.new w 132 [.slice none 0 0,.slice none 0 0];have x1:Ext w (w.alloc (.cells #[.slice none 0 0,.slice none 0 0] 132)):=X_;have HC1:=hid (hc.ext x1);have HB1:=hid hB;have HX1:=hid x1;have z1:(w.alloc (.cells #[.slice none 0 0,.slice none 0 0] 132)).heap.size=w.heap.size+1:=World.size_alloc _ _;clear hc hB x1;go_enter Tryz.func140,Tryz.ntmps140;go_wp2_with fail
 go_loopw [3] (fun i wr=>∃k:Nat,k≤20∧i = .int .i64 (k:Nat)∧Cur hi wr B∧Gr B (w.alloc (.cells #[.slice none 0 0,.slice none 0 0] 132)) wr) (fun i _=>20 - (intOf i).toNat)
 case atStart=>exact ⟨0,by omega,rfl,HC1.out,Gr.refl _ _⟩
 case round=>
  obtain ⟨k,hk,rfl,C,G⟩:=hrel;have HC:=hid C;have HG:=hid G;clear C G HC1
  by_cases hlt:k<20
  ·go_wp2_with fail
   refine (sSource_any hi B _ HC.out).mono ?_;rintro e w3 ⟨s,rfl,hs,C3,G3⟩;have HC3:=hid C3;have HG3:=hid (HG.out.trans G3);clear C3 G3 HC HG;go_wp2_with fail;refine (sParse_any s w3 (by unfold maxLen;omega)).mono ?_;rintro e w4 ⟨p,v,n,rfl,R4,bd4,sm4,x4,-⟩;obtain ⟨na,nc,ga,gc,rfl,-,-⟩:=R4.form;have HR:=hid R4;have HX4:=hid x4;have zx:=x4.size;have y5:Ext w4 (w4.alloc (.cells #[.slice na p.ns.length nc,.slice ga p.gs.length gc] 132)):=X_;have HR5:=hid (R4.ext (Nat.le_refl _) y5);have HY5:=hid y5;have zy:=y5.size;clear R4 x4 y5;have b5:=Blk.new w4 132 [.slice na p.ns.length nc,.slice ga p.gs.length gc];have HB5:=hid b5;clear b5;go_wp2_with fail;refine (sCheck_any _ _ _ p _ HR5.out zy bd4 sm4.1.1 sm4.2).mono ?_;rintro e w6 ⟨⟨c,q,rfl,hcc⟩,x6⟩;have HX6:=hid (HY5.out.trans x6);have HB6:=hid (HB5.out.ext x6);have r0:=HG3.out.blk HB1.out (by omega);have HR0:=hid (r0.ext (HX4.out.trans (HY5.out.trans x6)));have HG6:=hid (HG3.out.ext (HX4.out.trans (HY5.out.trans x6)));have HC6:=hid (HC3.out.ext (HX4.out.trans (HY5.out.trans x6)));have HR6:=hid (HR5.out.ext zy x6);obtain ⟨q0,q1⟩:=HB6.out.q2;have z6:=x6.size;have zg3:=HG3.out.size;have hh6:=HX6.out.size;have zlt:=HB6.out.lt;clear x6 r0 HX4 HY5 HR5 HB5 HC3 HG3 HR
   by_cases h0:c=0
   ·have hchk:p.chkB=true:=by rw [←hcc];exact beq_iff_eq.2 h0
    have HCH:=hid hchk;obtain ⟨g0,g1⟩:=HR0.out.q2;have k0:=HR0.out.free 0;have k1:=HR0.out.free 1;have zR:=HR0.out.lt;have zg:=HG6.out.size;clear hchk hcc;go_wp2;refine bodyPost_ret (v:=.agg #[.slice na p.ns.length nc,.slice ga p.gs.length gc]) (by simp [results,Tryz.results140,go_sem, *]) rfl ?_;exact ⟨p,_,rfl,HR6.out.set2 (by omega) (by omega) (by omega) _ _,bd4,sm4,HCH.out,(HC6.out.setNew (by omega) _ _).setNew (by omega) _ _,((((Gr.refl B w).ext HX1.out).trans HG6.out).setNew (Nat.le_refl _) _ _).setNew (Nat.le_refl _) _ _⟩
   ·clear hcc
    go_wp2;go_roundw
    case rel=>exact ⟨k+1,by omega,by go_num,HC6.out,HG6.out⟩
    case measure=>simp [intOf];omega
  ·obtain rfl:k=20:=by omega
   go_wp2_with fail;refine (sParse_any cuS wr (by decide)).mono ?_;rintro e w4 ⟨p,v,n,rfl,R4,bd4,sm4,x4,hcu⟩;obtain rfl:=hcu rfl;obtain ⟨na,nc,ga,gc,rfl,-,-⟩:=R4.form;have HR:=hid R4;have HX4:=hid x4;have r0:=(HG.out.blk HB1.out (by omega)).ext x4;have HG6:=hid (HG.out.ext x4);have zx:=x4.size;have zg3:=HG.out.size;obtain ⟨g0,g1⟩:=r0.q2;have k0:=r0.free 0;have k1:=r0.free 1;have zR:=r0.lt;have HC6:=hid (HC.out.ext x4);clear R4 x4 hcu r0 HC HG;go_wp2;refine bodyPost_ret (v:=.agg #[.slice na cuP.ns.length nc,.slice ga cuP.gs.length gc]) (by simp [results,Tryz.results140,go_sem, *]) rfl ?_;exact ⟨cuP,_,rfl,(HR.out.set2 (A:=w.heap.size) (l2:=w.heap.size) (by omega) (by omega) (Nat.le_refl _) _ _).ext' X_,bd4,sm4,cu_chk,((HC6.out.setNew (by omega) _ _).setNew (by omega) _ _).ext X_,(((((Gr.refl B w).ext HX1.out).trans HG6.out).setNew (Nat.le_refl _) _ _).setNew (Nat.le_refl _) _ _).ext X_⟩
theorem run_append_at {P:Program} (w:World) (base:Nat) (t ty e:TypeId) (i:TypeInfo) (z:Value) (size bytes:Nat) (ht:P.underlying t=some (.slice e)) (hi:P.info? e=some i) (hz:i.zero=some z)
  (hsize:i.size=size) (hby:i.bytes=bytes) (hzs:z.cells.size=size) (hsz:0<size)
  (v:Value) (n:Nat) (xs:List Value) (hown:w.ownsRow base e size v n xs)
  (a:Addr) (m c:Nat) (news:List Value) (hl:news.length=m*size) (hnews:∀j u,news[j]?=some u→w.cell? (a.add j)=some u) (h1:∀u∈news,u.oneCell'=true)
  (h63:n+m≤maxLen) (hbytes:(n+m)*bytes≤140737488355328) (hbase:base≤w.heap.size) :
  ∃v' w',(Builtin.append_ #[t,t] ty #[v,.slice (some a) m c]).run P w = .ok v' w'∧w'.ownsRow base e size v' (n+m) (xs++news)∧w.grownBy w' v.ownBlock∧(∀k,v'.ownBlock=some k→v.ownBlock=some k∨w.heap.size≤k):=by
 obtain ⟨v',w',hr,h2,h3,-⟩:=run_append_own (P:=P) w base t ty e i z size bytes ht hi hz hsize hby hzs hsz v n xs hown a m c news hl hnews h1 h63 hbytes hbase;refine ⟨v',w',hr,h2,h3,?_⟩
 rcases hown.2 with ⟨rfl,rfl⟩|⟨g,cap,cur,rfl,hbg,hg,hnc,hcm,hcs,htake⟩
 ·have hx:xs=[]:=List.eq_nil_of_length_eq_zero (by simpa using hown.1)
  subst hx;obtain ⟨v2,w2,hr2,k2,-,-⟩:=run_append_own (P:=P) w w.heap.size t ty e i z size bytes ht hi hz hsize hby hzs hsz (.slice none 0 0) 0 [] (World.ownsRow_nil _ _ _ _) a m c news hl hnews h1 h63 hbytes (Nat.le_refl _);rw [hr] at hr2;simp only [Result.ok.injEq] at hr2;obtain ⟨rfl,rfl⟩:=hr2;exact fun k hk=>.inr (k2.lt k hk).1
 ·by_cases hroom:n+m≤cap
  ·subst hsize
   have hfit:n*i.size+news.length≤cur.size:=by rw [hl,hcs,←Nat.add_mul];exact Nat.mul_le_mul_right _ hroom
   have hr2:=run_append_room (P:=P) w t ty e i ht hi g n cap cur hg a m c news hl hnews h1 hroom hfit;rw [hr] at hr2;simp only [Result.ok.injEq] at hr2;obtain ⟨rfl,-⟩:=hr2;exact fun k hk=>.inl hk
  ·subst hsize
   subst hby
   have hsmall:n+m≤9223372036854775807:=by simp only [maxLen] at h63;omega
   have holds:∀j u,xs[j]?=some u→w.cell? ((⟨g,0,none⟩:Addr).add j)=some u:=hown.cells (g:=g) rfl;have hr2:=run_append_grow (P:=P) w t ty e i z ht hi hz ⟨g,0,none⟩ n cap xs hown.1 holds a m c news hl hnews (by omega) (by omega) (growslice_fits (by omega) hbytes);rw [hr] at hr2;simp only [Result.ok.injEq] at hr2;obtain ⟨rfl,-⟩:=hr2;intro k hk;simp only [Value.ownBlock,Option.some.injEq] at hk;subst hk;exact .inr (Nat.le_refl _)
theorem wpList_append_at {α : Type} (cs : α→List Value) (e:TypeId) (sz bytes:Nat) (z:Value) (w:World) {ops:Array Oper} {rest:List Oper} {o:Oper} {a:Act} {Q:Exit→Act→World→Prop} (hg:o.guard=none) (s x:Operand) (t:TypeId)
  (hop:o.op=Op.call { callee:=Callee.builtin Builtin.append,args:=#[s,x],argTypes:=#[t,t] }) (ht:Tryz.prog.underlying t=some (.slice e))
  (hinfo:(Tryz.prog.info? e).map (fun i=>(i.zero,i.size,i.bytes))=some (some z,sz,bytes)) (hzs:z.cells.size=sz) (hsz:0<sz) (hby:bytes≤1000) (hc:∀x,(cs x).length=sz)
  (lo:Nat) (v:Value) (xs:List α) (hs:a.eval s=v) (hown:OwnG cs lo e sz w v xs)
  (y : α) (b:Nat) (hx:a.eval x = .slice (some ⟨b,0,none⟩) 1 1) (hcell:∀j,j<sz→w.cell? ⟨b,j,none⟩=(cs y)[j]?) (h1:∀u∈cs y,u.oneCell'=true) (hlen:xs.length<1000000) (hlo:lo≤w.heap.size)
  (hK:∀v' w',OwnG cs lo e sz w' v' (xs++[y])→w.grownBy w' v.ownBlock→(∀k,v'.ownBlock=some k→v.ownBlock=some k∨w.heap.size≤k)→wpList Tryz.prog ops Q rest (a.put o.dst v') w'):wpList Tryz.prog ops Q (o::rest) a w:=by
 obtain ⟨i0,hi0,hz0,hz1,hz2⟩:=info_parts hinfo;refine wpList_plain hg fun _ hKK=>?_
 obtain ⟨v',w',hr,h2,h3,h4⟩:=run_append_at (P:=Tryz.prog) w lo t o.type e i0 z sz bytes ht hi0 hz0 hz1 hz2 hzs hsz v xs.length _ hown ⟨b,0,none⟩ 1 1 (cs y) (by rw [hc,Nat.one_mul]) (by
  intro j u hj
  have hjl:j<sz:=by rw [←hc y];exact (List.getElem?_eq_some_iff.1 hj).1
  have ea:(⟨b,0,none⟩:Addr).add j=⟨b,j,none⟩:=by
   unfold Addr.add
   split <;> simp_all
  rw [ea,hcell j hjl,hj]) h1 (by unfold maxLen;omega) (by
   have:(xs.length+1)*bytes≤1000000*1000:=Nat.mul_le_mul (by omega) hby
   omega) hlo
 unfold Oper.wp execOp;simp only [hop,resolve,invoke,builtin,Sem.run_bind,Sem.run_pure,Result.andThen_ok,List.map_toArray,List.map_cons,List.map_nil,hs,hx,hr];refine hKK _ _ (hK v' w' ?_ h3 h4);unfold OwnG;rw [List.length_append,List.flatMap_append]
 simpa using h2
def pairCs (u:Value×Value):List Value:=[u.1,u.2]
def PRow (lo hp:Nat) (w:World) (v:Value) (ps:List Prg):Prop:=
 hp≤w.heap.size∧∃us:List (Value×Value),us.length=ps.length∧OwnG pairCs lo 132 2 w v us∧∀(i:Nat) (p:Prg) (u:Value×Value),ps[i]?=some p→us[i]?=some u→∃l h,lo≤l∧h≤hp∧p.R l h w (.agg #[u.1,u.2])∧∀k,v.ownBlock=some k→k<l∨h≤k
theorem PRow.nil {lo hp:Nat} {w:World} (h:hp≤w.heap.size):PRow lo hp w (.slice none 0 0) []:=⟨h,[],rfl,OwnG.nil _ _ _ _ _,fun i p u h=>by simp at h⟩
theorem PRow.keep {lo hp:Nat} {w w':World} {v:Value} {ps:List Prg} (h:PRow lo hp w v ps) (hz:w.heap.size≤w'.heap.size) (hb:∀b,lo≤b→b<hp→w'.heap[b]?=w.heap[b]?)
  (hr:∀b c,lo≤b→w.heap[b]?=some (.cells c 132 (0,0))→w'.heap[b]?=some (.cells c 132 (0,0))):PRow lo hp w' v ps:=by
 obtain ⟨h0,us,h1,h2,h3⟩:=h;refine ⟨by omega,us,h1,OwnG.of h2 hr,fun i p u hp hu=>?_⟩;obtain ⟨l,hh,e1,e2,e3,e4⟩:=h3 i p u hp hu;exact ⟨l,hh,e1,e2,e3.same (fun k hk1 hk2=>hb k (by omega) (by omega)),e4⟩
theorem PRow.ext {lo hp:Nat} {w w':World} {v:Value} {ps:List Prg} (h:PRow lo hp w v ps) (x:Ext w w'):PRow lo hp w' v ps:=
 h.keep x.size (fun b _ h2=>x.block (by have:=h.1;omega)) (fun b c _ hc=>(x.block (Array.getElem?_eq_some_iff.1 hc).1).trans hc)
theorem PRow.gr {lo hp B:Nat} {w w':World} {v:Value} {ps:List Prg} (h:PRow lo hp w v ps) (g:Gr B w w') (hB:B<lo):PRow lo hp w' v ps:=
 h.keep g.size (fun b h1 h2=>g.keep (by have:=h.1;omega) (by omega)) (fun b c h1 hc=>(g.keep (Array.getElem?_eq_some_iff.1 hc).1 (by omega)).trans hc)
theorem PRow.set {lo hp:Nat} {w:World} {v:Value} {ps:List Prg} (h:PRow lo hp w v ps) {X:Nat} {t:TypeId} {cs:List Value} (hX:Blk w X t cs) (ht:t≠132) (hx:X<lo∨hp≤X) (i:Nat) (u:Value):PRow lo hp (w.setCell ⟨X,i,none⟩ u) v ps:=
 h.keep (by rw [World.size_setCell];exact Nat.le_refl _) (fun b h1 h2=>Below.heap_setCell _ _ _ _ (by simp only;omega)) (fun b c h1 hc=>(Below.heap_setCell _ _ _ _ (by
  simp only;rintro rfl;unfold Blk at hX;rw [hX] at hc;simp only [Option.some.injEq,Obj.cells.injEq] at hc
  exact ht hc.2.1)).trans hc)
theorem PRow.grown {lo hp:Nat} {w w':World} {v:Value} {ps:List Prg} (h:PRow lo hp w v ps) {row:Option Nat} (hg:w.grownBy w' row) (hr:∀k,row=some k→hp≤k∧∃c e,e≠132∧w.heap[k]?=some (.cells c e (0,0))):PRow lo hp w' v ps:=
 h.keep hg.size (fun b h1 h2=>hg.block b (by have:=h.1;omega) (fun e=>by have:=(hr b e.symm).1;omega)) (fun b c h1 hc=>(hg.block b (Array.getElem?_eq_some_iff.1 hc).1 (fun e=>by
  obtain ⟨_,c',e',ne,h'⟩:=hr b e.symm;rw [hc] at h';simp only [Option.some.injEq,Obj.cells.injEq] at h'
  exact ne h'.2.1.symm)).trans hc)
theorem PRow.push {lo hp B:Nat} {w w1 w2:World} {v v':Value} {ps:List Prg} {p:Prg} {u1 u2:Value} (h0:hp≤w.heap.size) (hl:lo≤w.heap.size) (g:Gr B w w1) (hB:B<lo)
  (hp1:p.R w.heap.size w1.heap.size w1 (.agg #[u1,u2])) {us:List (Value×Value)} (hus:us.length=ps.length) (hR:∀(i:Nat) (p:Prg) (u:Value×Value),ps[i]?=some p→us[i]?=some u→∃l h,lo≤l∧h≤hp∧p.R l h w (.agg #[u.1,u.2])∧∀k,v.ownBlock=some k→k<l∨h≤k)
  (hv:∀k,v.ownBlock=some k→lo≤k∧k<w.heap.size) {w1':World} (x:Ext w1 w1')
  (hown:OwnG pairCs lo 132 2 w2 v' (us++[(u1,u2)])) (hg:w1'.grownBy w2 v.ownBlock) (hat:∀k,v'.ownBlock=some k→v.ownBlock=some k∨w1'.heap.size≤k):PRow lo w1.heap.size w2 v' (ps++[p]):=by
 have hz:=g.size;have hx:=x.size;refine ⟨by have:=hg.size;omega,us++[(u1,u2)],by simp [hus],hown,fun i q u hq hu=>?_⟩
 rcases Nat.lt_or_ge i ps.length with hi|hi
 ·rw [List.getElem?_append_left hi] at hq
  rw [List.getElem?_append_left (by omega)] at hu;obtain ⟨l,hh,e1,e2,e3,e4⟩:=hR i q u hq hu;refine ⟨l,hh,e1,by omega,((e3.same fun k k1 k2=>g.keep (by omega) (by omega)).same fun k k1 k2=>x.block (by omega)).same fun k k1 k2=>hg.block k (by omega) (fun e=>?_),fun k hk=>?_⟩
  ·rcases e4 k e.symm with h5|h5 <;> omega
  ·rcases hat k hk with h5|h5
   ·exact e4 k h5
   ·right;omega
 ·have hi2:i=ps.length:=by
   have h5:=(List.getElem?_eq_some_iff.1 hq).1;simp at h5;omega
  subst hi2;rw [List.getElem?_append_right (Nat.le_refl _)] at hq;rw [List.getElem?_append_right (by omega)] at hu;simp only [Nat.sub_self,hus,List.getElem?_cons_zero,Option.some.injEq] at hq hu;subst hq hu;refine ⟨w.heap.size,w1.heap.size,hl,Nat.le_refl _,(hp1.same fun k k1 k2=>x.block k2).same fun k k1 k2=>hg.block k (by omega) (fun e=>?_),fun k hk=>?_⟩
  ·have:=(hv k e.symm).2;omega
  ·rcases hat k hk with h5|h5
   ·left;exact (hv k h5).2
   ·right;omega
theorem PRow.prgs {lo hp:Nat} {w:World} {v:Value} {ps:List Prg} (h:PRow lo hp w v ps):PrgsR lo w.heap.size w v ps:=by
 obtain ⟨h0,us,h1,h2,h3⟩:=h
 rcases h2.2 with ⟨rfl,h4⟩|⟨g,cap,cur,rfl,hb,hg,hcap,hm,hs,ht⟩
 ·refine ⟨none,0,by rw [←h1,h4],by omega,by unfold maxLen;omega,fun k p hp=>?_⟩
  have:=(List.getElem?_eq_some_iff.1 hp).1;omega
 ·refine ⟨some ⟨g,0,none⟩,cap,by rw [h1],by omega,hm,fun k p hp=>?_⟩
  have hk:=(List.getElem?_eq_some_iff.1 hp).1
  obtain ⟨u,hu⟩:∃u,us[k]?=some u:=⟨_,List.getElem?_eq_getElem (by omega)⟩
  obtain ⟨l,hh,e1,e2,e3,-⟩:=h3 k p u hp hu;obtain ⟨g',cap',he,-,-,-,-,-,hcell⟩:=OwnG.at h2 (fun _=>rfl) hu;simp only [Value.slice.injEq,true_and,Option.some.injEq,Addr.mk.injEq,and_true] at he;obtain ⟨rfl,rfl⟩:=he;refine ⟨g,0,u.1,u.2,rfl,hb,(Array.getElem?_eq_some_iff.1 hg).1,?_,?_,e3.low e1 (by omega)⟩
  ·rw [Nat.zero_add];exact hcell 0 (by decide)
  ·rw [Nat.zero_add];exact hcell 1 (by decide)
structure Srf where
 f:Nat→Int
 g:Nat→Int
 sh:Int
 rt:Int
def Srf.ls (x:Srf):List Int:=[x.f 0,x.f 1,x.f 2,x.f 3,x.f 4,x.f 5,x.f 6,x.f 7,x.f 8,x.f 9,x.f 10,x.f 11,x.g 0,x.g 1,x.g 2,x.g 3,x.g 4,x.g 5,x.g 6,x.g 7,x.g 8,x.g 9,x.g 10,x.g 11,x.sh,x.rt]
def Srf.cs (x:Srf):List Value:=x.ls.map (.int .i64)
theorem Srf.cs_len (x:Srf):x.cs.length=26:=rfl
theorem Srf.one (x:Srf):∀u∈x.cs,u.oneCell'=true:=by
 intro u hu;unfold Srf.cs at hu;obtain ⟨n,-,rfl⟩:=List.mem_map.1 hu
 rfl
def srfF (xs:List Srf):Nat→Int:=fun i=>(xs.flatMap Srf.ls).getD i 0
theorem srfF_at {xs:List Srf} {k:Nat} {x:Srf} (h:xs[k]?=some x) {j:Nat} (hj:j<26):srfF xs (k*26+j)=x.ls.getD j 0:=by
 unfold srfF;rw [List.getD_eq_getElem?_getD,List.getD_eq_getElem?_getD,flatMap_atG (cs:=Srf.ls) (sz:=26) (fun _=>rfl) h j hj]
def Srf.I (x:Srf):Prop:=∀n∈x.ls,I64 n
theorem OwnG.flatsS {lo:Nat} {w:World} {v:Value} {xs:List Srf} (h:OwnG Srf.cs lo 42 26 w v xs) (hI:∀x∈xs,x.I):Flats 26 lo w.heap.size w v xs.length (srfF xs):=
 h.flatsI (by decide) (fun _=>rfl) (fun _=>rfl) hI fun i x k hx hk=>srfF_at hx hk
theorem iInsert_any {lo O:Nat} {fs:List Frag} {v:Value} {w:World} (h:OrdF lo w O fs v) (x:Frag) (hl:fs.length≤100000) :
  Calls Tryz.prog 102 #[.pointer (some ⟨O,0,none⟩),.agg #[.int .i64 x.d,.int .i64 x.s,.int .i64 x.c,.int .i64 x.col,.int .i64 x.al]] w fun e w'=>∃v',e = .returned (.tuple #[])∧OrdF lo w' O (insF x fs) v'∧KN lo O 47 w w'∧(∀b,b<w.heap.size→b≠O→v.ownBlock≠some b→w'.heap[b]?=w.heap[b]?)∧(∀k,v'.ownBlock=some k→v.ownBlock=some k∨w.heap.size≤k):=by
 have x0:Ext w (w.alloc (.cells #[.int .i64 x.d,.int .i64 x.s,.int .i64 x.c,.int .i64 x.col,.int .i64 x.al] 47)):=X_;have hB:=Blk.new w 47 [.int .i64 x.d,.int .i64 x.s,.int .i64 x.c,.int .i64 x.col,.int .i64 x.al]
 obtain ⟨W0,hW0⟩:∃W0,w.alloc (.cells #[.int .i64 x.d,.int .i64 x.s,.int .i64 x.c,.int .i64 x.col,.int .i64 x.al] 47)=W0:=⟨_,rfl⟩
 rw [hW0] at x0
 have hB:Blk W0 w.heap.size 47 [.int .i64 x.d,.int .i64 x.s,.int .i64 x.c,.int .i64 x.col,.int .i64 x.al]:=by rw [←hW0];exact hB
 have hOX:O<w.heap.size:=h.box.lt;have HP0:=hid h;have HP:=hid (h.ext x0);have HX0:=hid x0;have HB:=hid hB;have HW0:=hid hW0;have hlo:=h.low
 obtain ⟨p,hp⟩:∃p,placeF x fs=p:=⟨_,rfl⟩
 have hple:p≤fs.length:=hp▸placeF_le x fs;have hplt:∀k,k<p→∃hk:k<fs.length,x.lt fs[k]=false:=fun k hk=>placeF_lt (hp.symm▸hk)
 have hpat:∀f,fs[p]?=some f→x.lt f=true:=fun f hf=>by
  obtain ⟨h1,h2⟩:=List.getElem?_eq_some_iff.1 hf;subst h2;subst hp;exact placeF_at h1
 have hins:insF x fs=fs.take p++x::fs.drop p:=by rw [←hp];exact insF_eq x fs
 have HPL:=hid hplt;have HPA:=hid hpat;have HIN:=hid hins;clear hplt hpat hins hp;obtain ⟨a,cap,rfl,hlen⟩:=h.row.form;clear h x0 hB hW0;go_enter Tryz.func102,Tryz.ntmps102
 go_upto_block 0 with fail
 rw [HW0.out]
 go_cut [4] from 5 to 29 (fun i wx=>i = .int .i64 (p:Nat)∧Ext W0 wx)
 case first=>
  go_wp2_with fail
  go_loopw [4] (fun i wr=>∃k:Nat,k≤p∧i = .int .i64 (k:Nat)∧Ext W0 wr) (fun i _=>fs.length - (intOf i).toNat)
  case atStart=>exact ⟨0,by omega,rfl,Ext.refl _⟩
  case round=>
   obtain ⟨k,hk,rfl,hx⟩:=hrel;have HX:=hid hx;have c1:=(HP.out.ext hx).box.cell 0 rfl;have c2:=(HP.out.ext hx).box.cell 1 rfl;have HBr:=hid (HB.out.ext hx);obtain ⟨b0,b1,b2,b3,b4⟩:=HBr.out.q5;have zx:=HBr.out.lt;have HOr:=hid (HP.out.ext hx);clear hx
   rcases Nat.lt_or_ge k fs.length with hlt|hge
   ·obtain ⟨f,hf⟩:∃f,fs[k]?=some f:=⟨_,List.getElem?_eq_getElem hlt⟩
    obtain ⟨g,cap',he,-,glt,gcap,gcm,-,hcell⟩:=OwnG.at HOr.out.row (fun _=>rfl) hf;simp only [Value.slice.injEq,true_and] at he;obtain ⟨rfl,rfl⟩:=he;have d0:=hcell 0 (by decide);have d1:=hcell 1 (by decide);have d2:=hcell 2 (by decide);have d3:=hcell 3 (by decide);have d4:=hcell 4 (by decide);simp only [Frag.cs,Nat.add_zero,List.getElem?_cons_zero,List.getElem?_cons_succ] at d0 d1 d2 d3 d4
    obtain ⟨r,hr⟩:∃r,x.cmp f=r:=⟨_,rfl⟩
    have HR:=hid hr;have HF:=hid hf
    have hrl:decide (r<0)=x.lt f:=by rw [←hr];exact Frag.cmp_lt x f
    have HRL:=hid hrl;clear hcell hr hf hrl
    rcases Nat.lt_or_ge k p with hkp|hkp
    ·have hr0:0≤r:=by
      obtain ⟨hk2,hq⟩:=HPL.out k hkp
      have e1:fs[k]=f:=by have:=HF.out;rw [List.getElem?_eq_getElem hk2] at this;exact Option.some.inj this
      rw [e1] at hq;have:=HRL.out;rw [hq] at this;have:=of_decide_eq_false this;omega
     go_wp2_with fail;refine wp_region_stagesS [([0,1,2,3,4,5,6,7,8,9,10,11,12,13,14,15,16,17,18,19],20),([21],22)] 99 (fun w'=>∃d,w'=lowc (C3f O w.heap.size g) _ d) (by kernel_rfl) (by kernel_rfl) (SC.drew _ _) ?_;refine sc_ fun K hK=>?_;go_wp2_with fail;refine (cmpFrag_val HR.out _).mono ?_;rintro e w1 ⟨rfl,x1⟩;have Y1:=hid (Ext.trans (w:=wr) X_ x1);have X1:=hid (HX.out.trans Y1.out);clear x1;go_wp2_with fail;refine hK _ _ (.inr (SC.blocks fun a ha=>Y1.out.block (by rcases ha with ha|ha|ha <;> rw [ha] <;> omega))) ?_;clear hK K;refine sc_ fun K hK=>?_;go_wp2_with fail;go_wp2_with fail;refine hK _ _ (.inr (SC.blocks fun a ha=>Y1.out.block (by rcases ha with ha|ha|ha <;> rw [ha] <;> omega))) ?_;clear hK K;refine wpStagesS_nil ?_;go_wp2;go_roundw
     case rel=>exact ⟨k+1,by omega,by go_num,X1.out⟩
     case measure=>simp [intOf];omega
    ·obtain rfl:k=p:=by omega
     have hr0:r<0:=by
      have:=HRL.out;rw [HPA.out f HF.out] at this;exact of_decide_eq_true this
     go_wp2_with fail;refine wp_region_stagesS [([0,1,2,3,4,5,6,7,8,9,10,11,12,13,14,15,16,17,18,19],20),([21],22)] 99 (fun w'=>∃d,w'=lowc (C3f O w.heap.size g) _ d) (by kernel_rfl) (by kernel_rfl) (SC.drew _ _) ?_;refine sc_ fun K hK=>?_;go_wp2_with fail;refine (cmpFrag_val HR.out _).mono ?_;rintro e w1 ⟨rfl,x1⟩;have Y1:=hid (Ext.trans (w:=wr) X_ x1);have X1:=hid (HX.out.trans Y1.out);clear x1;go_wp2_with fail;refine hK _ _ (.inr (SC.blocks fun a ha=>Y1.out.block (by rcases ha with ha|ha|ha <;> rw [ha] <;> omega))) ?_;clear hK K;refine sc_ fun K hK=>?_;go_wp2_with fail;go_wp2_with fail;refine hK _ _ (.inr (SC.blocks fun a ha=>Y1.out.block (by rcases ha with ha|ha|ha <;> rw [ha] <;> omega))) ?_;clear hK K;refine wpStagesS_nil ?_;go_wp2
     go_meet
     exact ⟨rfl,X1.out⟩
   ·obtain rfl:k=p:=by omega
    obtain rfl:k=fs.length:=by omega
    go_wp2_with fail;refine wp_region_stagesS [([0,1,2,3,4,5,6,7,8,9,10,11,12,13,14,15,16,17,18,19],20),([21],22)] 99 (fun w'=>∃d,w'=lowc (C3f O O O) _ d) (by kernel_rfl) (by kernel_rfl) (SC.drew _ _) ?_;refine sc_ fun K hK=>?_;go_wp2_with fail;go_wp2_with fail;refine hK _ _ (.inr (SC.blocks fun a ha=>rfl)) ?_;clear hK K;refine sc_ fun K hK=>?_;go_wp2_with fail;go_wp2_with fail;refine hK _ _ (.inr (SC.blocks fun a ha=>rfl)) ?_;clear hK K;refine wpStagesS_nil ?_;go_wp2
    go_meet
    exact ⟨rfl,HX.out.trans (Ext.drew (Ext.refl _))⟩
 case rest=>
  obtain ⟨rfl,hx⟩:=hcut;have HX:=hid hx;have HOr:=hid (HP.out.ext hx);have HBr:=hid (HB.out.ext hx);have zx:=HBr.out.lt;have c1:=HOr.out.box.cell 0 rfl;obtain ⟨b0,b1,b2,b3,b4⟩:=HBr.out.q5;clear hx;go_wp2_with fail;refine wp_region_phases [([0,1,2,3,4,5],6),([],7)] [([],8),([],9),([],10)] 8 (fun w'=>∃d,w'=lowc (C3f O w.heap.size w.heap.size) _ d) (by kernel_rfl) (by kernel_rfl) (SC.drew _ _) ?_;refine sc_ fun K hK=>?_;go_wp2_with fail;have y1:Ext wc ((wc.alloc (.cells #[.int .i64 x.d,.int .i64 x.s,.int .i64 x.c,.int .i64 x.col,.int .i64 x.al] 47)).drew):=S_;have B2:Blk ((wc.alloc (.cells #[.int .i64 x.d,.int .i64 x.s,.int .i64 x.c,.int .i64 x.col,.int .i64 x.al] 47)).drew) wc.heap.size 47 x.cs:=Blk.new wc 47 x.cs;refine hK _ _ (.inr (SC.blocks fun a ha=>y1.block (by rcases ha with ha|ha|ha <;> rw [ha] <;> omega))) ?_;clear hK K;have HY1:=hid y1;have HB2:=hid B2;have HN:=hid (HOr.out.row.ext y1);clear y1 B2;have z1:=HY1.out.size;refine sc_ fun K hK=>?_;refine wpList_append_at Frag.cs 47 5 40 _ _ rfl _ _ 44 rfl Tryz.underlying44 info_FragT rfl (by decide) (by decide) (fun _=>rfl) lo (.slice a fs.length cap) fs rfl HN.out x wc.heap.size rfl (fun j hj=>?_) (frag_one x) (by omega) (by omega) ?_
  ·rw [List.getElem?_eq_getElem (show j<x.cs.length from hj)]
   exact HB2.out.cell j (List.getElem?_eq_getElem hj)
  intro nv2 w2 hown hg hat;have hat2:∀k,nv2.ownBlock=some k→(Value.slice a fs.length cap).ownBlock=some k∨w.heap.size≤k:=fun k hk=>(hat k hk).imp id (fun h=>by omega);have HAT2:=hid hat2
  have hat:∀k,nv2.ownBlock=some k→k≠w.heap.size:=fun k hk=>by
   rcases hat k hk with h|h
   ·have:=(HP0.out.row.lt _ h).2
    omega
   ·omega
  have HAT:=hid hat;have hr:∀k,(Value.slice a fs.length cap).ownBlock=some k→lo≤k∧∃c,wc.heap[k]?=some (.cells c 47 (0,0)):=OwnG.rowF HOr.out.row;have k2:∀b,b<wc.heap.size→(∀c,wc.heap[b]?≠some (.cells c 47 (0,0)))→w2.heap[b]?=wc.heap[b]?:=fun b hb hn=>(hg.block b (by omega) (fun e=>(by obtain ⟨_,c,hc⟩:=hr b e.symm;exact hn c hc))).trans (HY1.out.block hb)
  have B3:=HOr.out.box.of (k2 O (by omega) (fun c hc=>by
   have:=HOr.out.box;unfold Blk at this;rw [this] at hc;simp only [Option.some.injEq,Obj.cells.injEq] at hc
   exact absurd hc.2.1 (by decide)))
  have K3:KN lo O 47 wc w2:=KN.grown (HY1.out.kn lo O 47) hg (fun k hk=>by
   obtain ⟨q1,c,hc⟩:=hr k hk
   exact ⟨q1,c,(HY1.out.block (Array.getElem?_eq_some_iff.1 hc).1).trans hc⟩)
  have kO:w2.heap[O]?=wc.heap[O]?:=k2 O (by omega) (fun c hc=>by
   have:=HOr.out.box;unfold Blk at this;rw [this] at hc;simp only [Option.some.injEq,Obj.cells.injEq] at hc
   exact absurd hc.2.1 (by decide))
  have kX:w2.heap[w.heap.size]?=wc.heap[w.heap.size]?:=(hg.block _ (by omega) (fun e=>by
   have:=(HP0.out.row.lt _ e.symm).2
   omega)).trans (HY1.out.block zx)
  have k3:∀b,b<w.heap.size→(Value.slice a fs.length cap).ownBlock≠some b→w2.heap[b]?=w.heap[b]?:=fun b hb hn=>((hg.block b (by omega) (fun e=>hn e.symm)).trans (HY1.out.block (by omega))).trans ((HX0.out.trans HX.out).block hb);have K33:=hid k3;clear k3 hat2;go_wp2_with fail;refine hK _ _ (.inr (SC.blocks fun a ha=>?_)) ?_
  ·rcases ha with ha|ha|ha <;> rw [ha]
   ·exact kO
   ·exact kX
   ·exact kX
  clear hK K;have BX:=HBr.out.of kX;have HBX:=hid BX;have d0:=B3.cell 0 rfl;have e0:=B3.free 0;have HB3:=hid B3;have HK3:=hid K3;have HO:=hid hown;obtain ⟨a2,cap2,rfl,_⟩:=hown.form
  have hll:(fs++[x]).length=fs.length+1:=by simp
  have HLL:=hid hll;clear hown hg hat hr k2 kO kX B3 K3 c1 b0 b1 b2 b3 b4 BX hll;refine wpPhase_end (wpPhase_free ?_);refine sc_ fun K hK=>?_;go_wp2_with fail;go_wp2_with fail;refine hK _ _ (.inr (trivial)) ?_;clear hK K;refine sc_ fun K hK=>?_;go_wp2_with fail;go_wp2_with fail;refine hK _ _ (.inr (trivial)) ?_;clear hK K;refine sc_ fun K hK=>?_;go_wp2_with fail;go_wp2_with fail;refine hK _ _ (.inr (trivial)) ?_;clear hK K;refine wpStagesS_nil ?_
  try rw [HLL.out]
  have HO3:=hid (OwnG.set HO.out HB3.out (by decide) 0 (.slice a2 (fs.length+1) cap2));have HB4:=hid (HB3.out.set 0 (.slice a2 (fs.length+1) cap2));have HK4:=hid (HK3.out.set hlo 0 (.slice a2 (fs.length+1) cap2));have HX4:=hid (HBX.out.other (a:=⟨O,0,none⟩) (by show w.heap.size≠O;omega) (.slice a2 (fs.length+1) cap2))
  obtain ⟨W3,hW3⟩:∃W3,w2.setCell ⟨O,0,none⟩ (.slice a2 (fs.length+1) cap2)=W3:=⟨_,rfl⟩
  rw [hW3] at HO3 HB4 HK4 HX4;rw [hW3];have K34:Hid (∀b,b≠O→W3.heap[b]?=w2.heap[b]?):=hid (fun b hb=>by rw [←hW3];exact Below.heap_setCell _ _ _ _ (by simpa using hb));clear d0 e0 hW3
  rcases HO3.out.2 with ⟨_,h4⟩|⟨g,cap',cur,he,hb,hg,hc,hm,hs,ht⟩
  ·exact absurd h4 (by simp)
  rw [HLL.out] at he hc ht;simp only [Value.slice.injEq,true_and] at he;obtain ⟨rfl,rfl⟩:=he;have HG:=hid hg;have HS:=hid hs;have HT:=hid ht;have c1:=HB4.out.cell 0 rfl;have hgX:g≠w.heap.size:=HAT.out g rfl;clear hg hs ht;unfold maxLen at hm
  have hgO:O≠g:=fun e=>by
   have h1:=HB4.out;have h2:=HG.out;unfold Blk at h1;rw [e,h2] at h1;simp only [Option.some.injEq,Obj.cells.injEq] at h1;exact absurd h1.2.1 (by decide)
  have zO:O<W3.heap.size:=HB4.out.lt
  obtain ⟨D,hD⟩:∃D,D=(fs.drop p).flatMap Frag.cs:=⟨_,rfl⟩
  have lD:D.length=(fs.length - p)*5:=by rw [hD,flat_len5,List.length_drop]
  have HD:=hid hD;have LD:=hid lD;have LC:Hid (cur.toList.length=cap2*5):=hid (by simpa using HS.out);clear hD lD;go_upto_region 5 with fail
  go_cut [] from 40 to 53 (fun wx=>∃C1:List Value,wx.heap[g]?=some (.cells C1.toArray 47 (0,0))∧C1.length=cap2*5∧(C1.take (p*5)++x.cs++C1.drop (p*5+x.cs.length)).take ((fs.length+1)*5)=(insF x fs).flatMap Frag.cs∧W3.grownBy wx (some g))
  case first=>
   by_cases hcp:cap2=p+1
   ·obtain rfl:p=fs.length:=by omega
    obtain rfl:cap2=fs.length+1:=hcp;have hD0:D=[]:=List.eq_nil_of_length_eq_zero (by rw [LD.out];omega);subst hD0
    have hml:((fs.length:Nat):Int)+1≤9223372036854775807:=by omega
    go_wp2_with fail;refine wp_region_stagesS [([0,1,2,3,4,5,6,7,8,9,10,11,12],13)] 99 (fun w'=>∃d,w'=lowc (C3f O O O) _ d) (by kernel_rfl) (by kernel_rfl) (SC.drew _ _) ?_;refine sc_ fun K hK=>?_;go_wp2_with (refine wpList_copy_rowG rfl _ _ _ _ rfl 47 5 0 Tryz.underlying44 info_Frag5 g _ _ _ _ _ _ rfl rfl cur 47 HG.out [] ?_ rfl ?_ ?_ ?_ ?_)
    ·rfl
    ·intro j v h
     simp at h
    ·simp
    ·intro v h
     cases h
    intro W4 h4 q4
    have q5:W3.grownBy W4 (some g):=⟨q4.os,q4.tape,q4.output,q4.size,q4.block⟩
    have Q4:=hid q5;have H4:=hid h4;clear h4 q4 q5;go_wp2_with fail;refine hK _ _ (.inr (SC.blocks fun a ha=>(by rcases ha with ha|ha|ha <;> rw [ha] <;> exact Q4.out.block O zO (fun e=>hgO (Option.some.inj e))))) ?_;clear hK K;refine wpStagesS_nil ?_;go_wp2_with fail
    go_meet
    refine ⟨cur.toList,by simpa using H4.out,LC.out,?_,Q4.out⟩;rw [HIN.out];exact fr_ins (p:=fs.length) (L:=cur.toList) (C1:=cur.toList) hple (by rw [LC.out];exact Nat.le_refl _) HT.out HD.out (by simp)
   ·have hcp2:p+1<cap2:=by omega
    go_wp2_with fail;refine wp_region_stagesS [([0,1,2,3,4,5,6,7,8,9,10,11,12],13)] 99 (fun w'=>∃d,w'=lowc (C3f O O O) _ d) (by kernel_rfl) (by kernel_rfl) (SC.drew _ _) ?_;refine sc_ fun K hK=>?_;go_wp2_with (refine wpList_copy_rowG rfl _ _ _ _ rfl 47 5 (fs.length - p) Tryz.underlying44 info_Frag5 g _ _ _ _ _ _ rfl rfl cur 47 HG.out D ?_ LD.out ?_ ?_ ?_ ?_)
    ·show fs.length - p=min (fs.length+1 - p) (fs.length - p)
     omega
    ·intro j v hj
     have e2:(⟨g,p*5,none⟩:Addr).add j=⟨g,p*5+j,none⟩:=by
      cases j <;> simp [Addr.add]
     rw [e2];have e3:=fr_src (x:=x) hple HT.out j v (HD.out▸hj)
     show W3.cell? _=_
     simp only [World.cell?,HG.out]
     simpa using e3
    ·rw [LD.out,HS.out]
     omega
    ·rw [HD.out]
     exact frags_one _
    intro W4 h4 q4
    try rw [←List.append_assoc] at h4
    have q5:W3.grownBy W4 (some g):=⟨q4.os,q4.tape,q4.output,q4.size,q4.block⟩
    have Q4:=hid q5;have H4:=hid h4;clear h4 q4 q5;go_wp2_with fail;refine hK _ _ (.inr (SC.blocks fun a ha=>(by rcases ha with ha|ha|ha <;> rw [ha] <;> exact Q4.out.block O zO (fun e=>hgO (Option.some.inj e))))) ?_;clear hK K;refine wpStagesS_nil ?_;go_wp2_with fail
    go_meet
    refine ⟨_,H4.out,?_,?_,Q4.out⟩
    ·rw [List.length_append,List.length_append,List.length_take,List.length_drop,LD.out,LC.out]
     omega
    ·rw [HIN.out]
     exact fr_ins hple (by rw [LC.out];exact Nat.mul_le_mul_right 5 hc) HT.out HD.out rfl
  case rest=>
   obtain ⟨C1,h5,l5,t5,q5⟩:=hcut;have HB5:=hid (HB4.out.of (q5.block O zO (fun e=>hgO (Option.some.inj e))));have HX5:=hid (HX4.out.of (q5.block w.heap.size HX4.out.lt (fun e=>hgX (Option.some.inj e).symm)));have H5:=hid h5;have L5:=hid l5;have T5:=hid t5;have Q5:=hid q5;have c1:=HB5.out.cell 0 rfl;obtain ⟨b0,b1,b2,b3,b4⟩:=HX5.out.q5;have eW:=setCells_row g 47 x.cs (p*5) C1 (wc.drew) h5 (by rw [l5,show x.cs.length=5 from rfl];omega);have EW:=hid eW;clear h5 l5 t5 q5 eW;go_wp2_with fail;refine wp_region_stagesS [([0,1,2,3,4,5,6],7)] 7 (fun w'=>∃d,w'=lowc (C3f O w.heap.size w.heap.size) _ d) (by kernel_rfl) (by kernel_rfl) (SC.drew _ _) ?_;refine sc_ fun K hK=>?_;go_wp2_with (refine wpList_store_mid rfl _ _ _ rfl g (p*5) #[.int .i64 x.d,.int .i64 x.s,.int .i64 x.c,.int .i64 x.col,.int .i64 x.al] rfl rfl ?_ info_Frag5 (all_oneCell_toArray (frag_one x)) ?_)
   ·intro j hj
    have hj5:j<5:=hj;have e1:wc.drew.heap[g]?=some (.cells C1.toArray 47 (0,0)):=H5.out;have e0:wc.heap[g]?=some (.cells C1.toArray 47 (0,0)):=H5.out;have l5:=L5.out
    have hlt:p*5+j<C1.length:=by omega
    refine ⟨?_,?_⟩
    ·simp only [World.cell?,e1,e0]
     simp [hlt]
    ·simp only [World.frozen?,e1,e0]
     simp
   have EW2:Hid (wc.drew.setCells g (p*5) [.int .i64 x.d,.int .i64 x.s,.int .i64 x.c,.int .i64 x.col,.int .i64 x.al]=_):=EW;rw [EW2.out];go_wp2_with fail;refine hK _ _ (.inl (by trivial)) ?_;clear hK K;refine wpStagesS_nil ?_;go_wp2
   go_end0
   have lR:(C1.take (p*5)++x.cs++C1.drop (p*5+x.cs.length)).length=cap2*5:=by
    rw [List.length_append,List.length_append,List.length_take,List.length_drop,show x.cs.length=5 from rfl,L5.out];omega
   refine ⟨.slice (some ⟨g,0,none⟩) (fs.length+1) cap2,rfl,⟨?_,hlo,?_⟩,?_,fun b hb hbO hbv=>?_,fun k hk=>HAT2.out k hk⟩
   ·exact Blk.otherRowB (w:=wc.drew) HB5.out hgO _
   ·refine ⟨flat_len5 _,.inr ⟨g,cap2,(C1.take (p*5)++x.cs++C1.drop (p*5+x.cs.length)).toArray,?_,hb,setRow_heap wc.drew g C1.toArray _ _ _ H5.out,?_,?_,?_,?_⟩⟩
    ·rw [insF_length]
    ·rw [insF_length];exact hc
    ·unfold maxLen;exact hm
    ·rw [List.size_toArray,lR]
    ·rw [insF_length];exact T5.out
   ·refine KN.grown (KN.grown (((HX0.out.trans HX.out).kn lo O 47).trans HK4.out) (w2:=wc.drew) (row:=some g) ⟨Q5.out.os,Q5.out.tape,Q5.out.output,Q5.out.size,Q5.out.block⟩ ?_) (grown_setRow wc.drew g _) ?_
    ·intro k hk
     obtain rfl:=Option.some.inj hk;exact ⟨hb,_,HG.out⟩
    ·intro k hk
     obtain rfl:=Option.some.inj hk;exact ⟨hb,_,H5.out⟩
   ·have hbg:b≠g:=fun e=>by
     rcases HAT2.out g rfl with h|h
     ·exact hbv (e▸h)
     ·omega
    exact (setRow_other wc.drew g b _ hbg).trans ((Q5.out.block b (Nat.lt_trans hb HX4.out.lt) (fun e=>hbg (Option.some.inj e))).trans ((K34.out b hbO).trans (K33.out b hb hbv)))
end Go.Proofs.YtfjbiifebcfjfaaGreat
