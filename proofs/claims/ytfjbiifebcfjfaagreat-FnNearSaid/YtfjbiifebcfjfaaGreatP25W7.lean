/- Texts of this claim, one behind another; what its theorem does not use is left out: Ps9, Cp6, Cp7, SrfI, Ge18, Ge19, Sc5, Ge14, Ge15, Ge16, L05a, Sc4, TrS, Dr1, Dw1, Dw2, Dr2, Dw3, Dw4. -/
import Derived.Test.YtfjbiifebcfjfaaGreatP25W6
import Derived.Test.YtfjbiifebcfjfaaGreatP25W4
import Derived.Test.YtfjbiifebcfjfaaGreatP25W1
import Derived.Test.YtfjbiifebcfjfaaGreatP25W5
import Derived.Test.YtfjbiifebcfjfaaGreatP25W2
import Derived.Test.YtfjbiifebcfjfaaGreatP25W3
set_option linter.unusedSimpArgs false
set_option linter.unusedVariables false
set_option maxRecDepth 100000
set_option maxHeartbeats 12800000
namespace Go.Proofs.YtfjbiifebcfjfaaGreat
open Go.RowKit
def CBk (b:Nat):Addr→Prop:=fun a=>a.block=b
@[go_sem] theorem CBk_1 (b o:Nat):CBk b ⟨b,o,none⟩:=rfl
theorem Ints.low {lo l2 hi:Nat} {w:World} {v:Value} {xs:List Int} (h:Ints lo hi w v xs) (hl:l2≤lo):Ints l2 hi w v xs:=by
 obtain ⟨a,cap,h1,h2,h3,h4⟩:=h;refine ⟨a,cap,h1,h2,h3,fun i x hx=>?_⟩;obtain ⟨g1,b,off,g2,g3,g4⟩:=h4 i x hx;exact ⟨g1,b,off,g2,by omega,g4⟩
theorem Prg.R.low {p:Prg} {lo l2 hi h2:Nat} {w:World} {v:Value} (h:p.R lo hi w v) (hl:l2≤lo) (hh:hi≤h2):p.R l2 h2 w v:=by
 obtain ⟨nu,au,rfl,⟨a,c,e1,e2,e3,e4⟩,⟨a',c',f1,f2,f3,f4⟩⟩:=h;refine ⟨nu,au,rfl,⟨a,c,e1,e2,e3,fun i x hx=>?_⟩,⟨a',c',f1,f2,f3,fun i x hx=>?_⟩⟩
 ·obtain ⟨g1,b,off,u,g2,g3,g4,g5,g6,g7,g8,g9⟩:=e4 i x hx
  obtain ⟨ia,ic,i1,i2,i3,i4⟩:=g9
  exact ⟨g1,b,off,u,g2,by omega,by omega,g5,g6,g7,g8,ia,ic,i1,i2,i3,fun j y hy=>by
   obtain ⟨j1,jb,jo,j2,j3,j4,j5⟩:=i4 j y hy
   exact ⟨j1,jb,jo,j2,by omega,by omega,j5⟩⟩
 ·obtain ⟨g1,b,off,g2,g3,g4,g5,g6⟩:=f4 i x hx
  exact ⟨g1,b,off,g2,by omega,by omega,g5,g6⟩
theorem Same.trans {lo hi:Nat} {a b c:World} (h:Same lo hi a b) (k:Same lo hi b c):Same lo hi a c:=fun i h1 h2=>(k i h1 h2).trans (h i h1 h2)
theorem OwnG.row {α : Type} {cs : α→List Value} {lo:Nat} {e:TypeId} {sz:Nat} {w:World} {v:Value} {xs:List α} (h:OwnG cs lo e sz w v xs):∀k,v.ownBlock=some k→lo≤k∧∃c,w.heap[k]?=some (.cells c e (0,0)):=by
 intro k hk
 rcases h.2 with ⟨rfl,h4⟩|⟨g,cap,cur,rfl,hb,hg,_⟩
 ·cases hk
 ·simp only [Value.ownBlock,Option.some.injEq] at hk
  subst hk;exact ⟨hb,cur,hg⟩
theorem OwnNds.grownO {lo:Nat} {X:Nat→Prop} {w w':World} {v:Value} {xs:List Nd} {row:Option Nat} {e:TypeId} (h:OwnNds lo X w v xs) (hg:w.grownBy w' row) (h1:243≠e) (h2:3≠e) (hr:∀k,row=some k→∃c,w.heap[k]?=some (.cells c e (0,0))):OwnNds lo X w' v xs:=by
 obtain ⟨ps,h0,h3,h4⟩:=h;refine ⟨ps,h0,OwnG.grownI h3 hg h1 hr,fun p hp=>⟨(h4 p hp).1.grown hg fun k hk e=>?_,(h4 p hp).2⟩⟩;obtain ⟨c,hc⟩:=(h4 p hp).1.block hk;obtain ⟨c',hc'⟩:=hr k e.symm;rw [hc] at hc';simp only [Option.some.injEq,Obj.cells.injEq] at hc';exact h2 hc'.2.1
theorem Pst.setGs {lo B:Nat} {X:Nat→Prop} {tk:List Tok} {gs gs':List Asg} {w w':World} {k:Nat} {ns:List Nd} {bad:Int} {tv nv gv gv':Value} (h:Pst lo X B tk gs w k ns bad tv nv gv) (hg:w.grownBy w' gv.ownBlock) (hn:OwnAsgs lo w' gv' gs'):Pst lo X B tk gs' (w'.setCell ⟨B,3,none⟩ gv') k ns bad tv nv gv':=by
 have hr:=fun k hk=>(OwnG.row h.asgs k hk).2
 have hb:=h.box.grown hg (fun e=>by
  obtain ⟨c,hc⟩:=hr B e.symm
  exact h.notBox (by decide) c hc)
 exact ⟨hb.set 3 _,h.low,OwnG.set (OwnG.grownI h.toks hg (by decide) hr) hb (by decide) 3 _,OwnNds.set (h.nds.grownO hg (by decide) (by decide) hr) hb (by decide) (by decide) 3 _,OwnG.set hn hb (by decide) 3 _,h.ends,h.here,h.len,h.good,h.b64,fun b hb=>by rw [World.size_setCell];exact Nat.lt_of_lt_of_le (h.xlt b hb) hg.size⟩
theorem sParse_any (s:ByteArray) (w:World) (hs:s.size≤maxLen):Calls Tryz.prog 202 #[.string s] w (ParseR s w):=by
 have hB:=Blk.new w 132 [.slice none 0 0,.slice none 0 0];have x1:Ext w (w.alloc (.cells #[.slice none 0 0,.slice none 0 0] 132)):=X_
 have hA:w.heap.size<(w.alloc (.cells #[.slice none 0 0,.slice none 0 0] 132)).heap.size:=by rw [World.size_alloc];omega
 have rA:=hid hB;have HX1:=hid x1;have z1:(w.alloc (.cells #[.slice none 0 0,.slice none 0 0] 132)).heap.size=w.heap.size+1:=World.size_alloc _ _;clear hB x1;go_enter Tryz.func202,Tryz.ntmps202;go_wp2_with fail;refine (sTokenize_any s _ hs).mono ?_;rintro e w2 ⟨tv,n,rfl,x2,hcu,hn⟩;have HX2:=hid x2;have HCU:=hid hcu;have HN:=hid hn;have b2:=(x2.block hA).trans rA.out;have q0:=Blk.cell (show Blk w2 w.heap.size 132 [.slice none 0 0,.slice none 0 0] from b2) 0 rfl;have q1:=Blk.cell (show Blk w2 w.heap.size 132 [.slice none 0 0,.slice none 0 0] from b2) 1 rfl;have q0f:=Blk.free (show Blk w2 w.heap.size 132 [.slice none 0 0,.slice none 0 0] from b2) 0;have q1f:=Blk.free (show Blk w2 w.heap.size 132 [.slice none 0 0,.slice none 0 0] from b2) 1;have zw2:=x2.size;clear x2 hcu hn b2
 by_cases hn0:0≤n
 ·have EW:Ext w w2:=HX1.out.trans HX2.out
  go_wp2;refine bodyPost_ret (v:=.tuple #[.agg #[.slice none 0 0,.slice none 0 0],.int .i64 n]) (by simp [results,Tryz.results202,go_sem, *]) rfl ?_;exact ⟨⟨[],[]⟩,_,n,rfl,Prg.rNone _ _ _,Prg.bd_none,Prg.small_none,S_,fun e=>by have:=HCU.out e;omega⟩
 ·obtain ⟨hn1,tk,OT,HTK,hcut⟩:=HN.out.resolve_left hn0
  subst hn1
  have hlen0:0<tk.length:=by
   obtain ⟨ts,n,rfl,_⟩:=HTK;simp
  obtain ⟨g,cap,rfl,g1,g2,g3,g4,_,_⟩:=OwnG.at OT (fun _=>rfl) (List.getElem?_eq_getElem hlen0);have y2:Ext w2 (w2.alloc (.cells #[.slice (some ⟨g,0,none⟩) tk.length cap,.int .i64 0,.slice none 0 0,.slice none 0 0,.int .i64 (-1)] 334)):=X_
  have P0:Pst (w.alloc (.cells #[.slice none 0 0,.slice none 0 0] 132)).heap.size (fun _=>False) w2.heap.size tk [] (w2.alloc (.cells #[.slice (some ⟨g,0,none⟩) tk.length cap,.int .i64 0,.slice none 0 0,.slice none 0 0,.int .i64 (-1)] 334)) 0 [] (-1) (.slice (some ⟨g,0,none⟩) tk.length cap) (.slice none 0 0) (.slice none 0 0):=
   ⟨Blk.new w2 334 [.slice (some ⟨g,0,none⟩) tk.length cap,.int .i64 0,.slice none 0 0,.slice none 0 0,.int .i64 (-1)],zw2,OwnG.ext OT y2,OwnNds.nil _ _ _,OwnG.nil _ _ _ _ _,HTK,hlen0,by simp,(fun _ h=>nomatch h),⟨by decide,by decide⟩,(fun _ h=>h.elim)⟩
  have HP0:=hid P0;have HX3:=hid (HX2.out.trans y2);have HCUT:=hid hcut;clear P0 y2 hcut HCU HN OT q0 q1 q0f q1f;go_wp2_with fail
  go_loopw [8] (fun _ wr=>∃(q:Nat) (ns:List Nd) (gs:List Asg) (nv gv:Value),Pst (w.alloc (.cells #[.slice none 0 0,.slice none 0 0] 132)).heap.size (fun _=>False) w2.heap.size tk gs wr q ns (-1) (.slice (some ⟨g,0,none⟩) tk.length cap) nv gv∧Ext (w.alloc (.cells #[.slice none 0 0,.slice none 0 0] 132)) wr∧(∀x∈gs,AsgG x)∧gs.length≤q∧(s=cuS→CuP q ns gs)) (fun _ wr=>msr w2.heap.size tk.length wr)
  case atStart=>exact ⟨0,[],[],_,_,HP0.out,HX3.out,(fun _ h=>nomatch h),Nat.le_refl _,fun _=>.inl ⟨rfl,rfl,rfl⟩⟩
  case round=>
   obtain ⟨q,ns,gs,nv,gv,P,EX,hgs',hgl,hcp⟩:=hrel;have kb:=P.k3000;obtain ⟨t,ht,tk64,tts,tn64,o1,o2,hkl⟩:=P.ends.at P.here;obtain ⟨g',cap',etv,g1',g2',_,_,_,hc⟩:=OwnG.at P.toks (fun _=>rfl) ht;simp only [Value.slice.injEq,Option.some.injEq,Addr.mk.injEq] at etv;obtain ⟨⟨rfl,_⟩,_,rfl⟩:=etv;have hk:=P.here;obtain ⟨c0,c1⟩:=P.box.q2;have c4:=P.box.cell 4 rfl;have zb:=P.box.lt;have d0:=hc 0 (by decide);have d1:=hc 1 (by decide);have d2:=hc 2 (by decide);have d3:=hc 3 (by decide);simp only [Tok.cs,Nat.add_zero,List.getElem?_cons_zero,List.getElem?_cons_succ] at d0 d1 d2 d3;have HP:=hid P;have HE:=hid EX;have hgs:=hid hgs';have HT:=hid ht;have HKL:=hid hkl;have HC:=hid hcp
   have hcuT:s=cuS→cuK[q]?=some t:=fun e=>by rw [←ht,HCUT.out e];rfl
   have HCT:=hid hcuT
   have gne:g≠wr.heap.size:=by omega
   have bne:w2.heap.size≠wr.heap.size:=by omega
   clear P EX hgs' ht hkl hcp hc hcuT HP0 HX3
   by_cases hk0:t.kind=0
   ·have hdone:s=cuS→(⟨ns,gs⟩:Prg)=cuP:=fun e=>(HC.out e).done (HCT.out e) hk0
    go_wp2_with fail;refine wp_region_stagesS [([0,1,2,3,4,5,6,7,8,9,10,11,12,13,14,15,16,17],18)] 99 (fun w'=>∃d,w'=lowx (wr.heap.size) (wr.heap.size) _ d) (by kernel_rfl) (by kernel_rfl) ⟨_,lowx_of (fun _ _ _=>rfl)⟩ ?_;refine sc_ fun K hK=>?_;go_wp2_with fail;go_wp2_with fail;refine hK _ _ (.inr ⟨_,lowx_of (fun b hb _=>Ext.block (show Ext wr _ from X_) hb)⟩) ?_;clear hK K;refine wpStagesS_nil ?_;clear c0 c1 c4 d0 d1 d2 d3;have c0:=HP.out.box.cell 0 rfl;have c2:=HP.out.box.cell 2 rfl;have c3:=HP.out.box.cell 3 rfl;have c4:=HP.out.box.cell 4 rfl;have zB:=HP.out.box.lt;have hlo:=HP.out.low;have r0:=(HE.out.block hA).trans rA.out;have q0:=Blk.cell (show Blk wr w.heap.size 132 [.slice none 0 0,.slice none 0 0] from r0) 0 rfl;have q0f:=Blk.free (show Blk wr w.heap.size 132 [.slice none 0 0,.slice none 0 0] from r0) 0;have q1:=Blk.cell (show Blk wr w.heap.size 132 [.slice none 0 0,.slice none 0 0] from r0) 1 rfl;have q1f:=Blk.free (show Blk wr w.heap.size 132 [.slice none 0 0,.slice none 0 0] from r0) 1;have EW:Ext w wr:=HX1.out.trans HE.out;have R0:=hid (HP.out.prog (Nat.le_refl _) hgs.out);have G1:=hid (HP.out.bd hgs.out);have G2:=hid (HP.out.small (by omega));obtain ⟨na,nc,rfl,-⟩:=HP.out.nds.form;obtain ⟨ga,gc,rfl,-⟩:=OwnG.form HP.out.asgs;clear r0;go_wp2;refine bodyPost_ret (v:=.tuple #[.agg #[.slice na ns.length nc,.slice ga gs.length gc],.int .i64 (-1)]) (by simp [results,Tryz.results202,go_sem, *]) rfl ?_;refine ⟨⟨ns,gs⟩,_,-1,rfl,?_,G1.out,G2.out,S_,hdone⟩;have R1:=R0.out.same ((Same.setLow _ (p:=⟨w.heap.size,0,none⟩) (by simp only;omega) (.slice na ns.length nc)).trans (Same.setLow _ (p:=⟨w.heap.size,1,none⟩) (by simp only;omega) (.slice ga gs.length gc)));exact R1.low (by omega) (by simp)
   ·have hkk:=HKL.out hk0
    go_wp2_with fail;refine wp_region_stagesS [([0,1,2,3,4,5,6,7,8,9,10,11,12,13,14,15,16,17],18)] 99 (fun w'=>∃d,w'=lowx (wr.heap.size) (wr.heap.size) _ d) (by kernel_rfl) (by kernel_rfl) ⟨_,lowx_of (fun _ _ _=>rfl)⟩ ?_;refine sc_ fun K hK=>?_;go_wp2_with fail;go_wp2_with fail;refine hK _ _ (.inr ⟨_,lowx_of (fun b hb _=>Ext.block (show Ext wr _ from X_) hb)⟩) ?_;clear hK K;refine wpStagesS_nil ?_;go_wp2_with fail;have zB6:=HP.out.box.lt;refine wp_region_stagesS [([0,1,2,3,4,5,6,7,8,9],10),([],11)] 99 (fun w'=>∃d,w'=lowx (wr.heap.size) (wr.heap.size) _ d) (by kernel_rfl) (by kernel_rfl) ⟨_,lowx_of (fun _ _ _=>rfl)⟩ ?_;refine sc_ fun K hK=>?_;go_wp2_with fail;go_wp2_with fail;refine hK _ _ (.inr ⟨_,lowx_of (fun b hb _=>Ext.block (show Ext wr _ from X_) hb)⟩) ?_;clear hK K;refine sc_ fun K hK=>?_;go_wp2_with fail;go_wp2_with fail;refine hK _ _ (.inr ⟨_,lowx_of (fun b hb _=>Ext.block (show Ext wr _ from S_) hb)⟩) ?_;clear hK K;refine wpStagesS_nil ?_;have y1:Ext wr ((wr.drew.alloc (.cells #[.int .i64 t.kind,.string t.text,.int .i64 t.num,.int .i64 t.off] 336)).drew):=S_;have T1:Blk ((wr.drew.alloc (.cells #[.int .i64 t.kind,.string t.text,.int .i64 t.num,.int .i64 t.off] 336)).drew) wr.heap.size 336 [.int .i64 t.kind,.string t.text,.int .i64 t.num,.int .i64 t.off]:=(Blk.new wr.drew 336 [.int .i64 t.kind,.string t.text,.int .i64 t.num,.int .i64 t.off]).ext (show Ext (wr.drew.alloc (.cells #[.int .i64 t.kind,.string t.text,.int .i64 t.num,.int .i64 t.off] 336)) _ from S_);have HY1:=hid y1;have HP1:=hid (HP.out.ext y1);have HE1:=hid (Ext.trans HE.out y1);have HT1:=hid T1;clear y1 T1 c0 c1 c4 d0 d1 d2 d3
    by_cases hk2:t.kind=2
    ·have c1:=HP.out.box.cell 1 rfl
     have f1:=HP.out.box.free 1;have e3:Ext (wr.setCell ⟨w2.heap.size,1,none⟩ (.int .i64 ((q:Int)+1))) (((wr.setCell ⟨w2.heap.size,1,none⟩ (.int .i64 ((q:Int)+1))).alloc (.cells #[.int .i64 2,.string t.text,.int .i64 t.num,.int .i64 t.off] 336)).drew.drew):=X_;have b3:=(Blk.new (wr.setCell ⟨w2.heap.size,1,none⟩ (.int .i64 ((q:Int)+1))) 336 [.int .i64 2,.string t.text,.int .i64 t.num,.int .i64 t.off]).ext (show Ext ((wr.setCell ⟨w2.heap.size,1,none⟩ (.int .i64 ((q:Int)+1))).alloc (.cells #[.int .i64 2,.string t.text,.int .i64 t.num,.int .i64 t.off] 336)) (((wr.setCell ⟨w2.heap.size,1,none⟩ (.int .i64 ((q:Int)+1))).alloc (.cells #[.int .i64 2,.string t.text,.int .i64 t.num,.int .i64 t.off] 336)).drew.drew) from X_);rw [World.size_setCell] at b3;have HP3:=hid ((HP.out.step hkk).ext e3);have HE3:=hid ((Ext.setCell HE.out (p:=⟨w2.heap.size,1,none⟩) HP.out.low (.int .i64 ((q:Int)+1))).trans e3);have HT3:=hid b3;have zB0:=HP.out.box.lt;obtain ⟨t3,ht3,_,_,_,_,_,hkl3⟩:=HP3.out.ends.at HP3.out.here;have HTk3:=hid ht3;clear e3 b3 ht3 HT1 HP1 HE1 HY1;go_wp2_with fail;refine (sExpect_any HP3.out HTk3.out ⟨#[61]⟩ (by decide)).mono ?_;rintro e w5 ⟨b5,q5,z5,rfl,P5,K5,hb1,hb2,hb3⟩;have HP5:=hid P5;have HE5:=hid (K5.up HE3.out (Nat.le_refl _));have HT5:=hid (K5.blk HT3.out (by omega) (by decide));have hB3:=hid hb3;clear P5 K5 hb3 c1 f1 HP3 HE3 HT3
     cases b5
     ·have hz5:=hb2 rfl
      have hno:s=cuS→False:=fun e=>by
       obtain ⟨e1,_⟩:=(HC.out e).name (HCT.out e) hk0;have:=HTk3.out;rw [e1,HCUT.out e] at this;exact absurd (hB3.out (cu_eq this)) (by decide)
      clear hb1 hb2;have c0:=HP5.out.box.cell 0 rfl;have c4:=HP5.out.box.cell 4 rfl;have zB:=HP5.out.box.lt;have hlo:=HP5.out.low;have r0:=(HE5.out.block hA).trans rA.out;have q0:=Blk.cell (show Blk w5 w.heap.size 132 [.slice none 0 0,.slice none 0 0] from r0) 0 rfl;have q0f:=Blk.free (show Blk w5 w.heap.size 132 [.slice none 0 0,.slice none 0 0] from r0) 0;have q1:=Blk.cell (show Blk w5 w.heap.size 132 [.slice none 0 0,.slice none 0 0] from r0) 1 rfl;have q1f:=Blk.free (show Blk w5 w.heap.size 132 [.slice none 0 0,.slice none 0 0] from r0) 1;have EW:Ext w w5:=HX1.out.trans HE5.out;clear r0;go_wp2_with fail;refine wp_region_stagesS [([0,1,2,3,4],5),([],6)] 6 (fun w'=>∃d,w'=lowc (CBk w2.heap.size) _ d) (by kernel_rfl) (by kernel_rfl) (SC.drew _ _) ?_;refine sc_ fun K hK=>?_;go_wp2_with fail;refine hK _ _ (.inr (SC.blocks fun a ha=>?_)) ?_
      ·unfold CBk at ha
       exact (Below.heap_setCell _ _ _ _ (by rw [ha];simp only;omega)).trans (Below.heap_setCell _ _ _ _ (by rw [ha];simp only;omega))
      clear hK K;refine sc_ fun K hK=>?_;go_wp2_with fail;refine hK _ _ (.inl trivial) ?_;clear hK K;refine wpStagesS_nil ?_;go_wp2;refine bodyPost_ret (v:=.tuple #[.agg #[.slice none 0 0,.slice none 0 0],.int .i64 z5]) (by simp [results,Tryz.results202,go_sem, *]) rfl ?_;exact ⟨⟨[],[]⟩,_,z5,rfl,Prg.rNone _ _ _,Prg.bd_none,Prg.small_none,S_,fun e=>(hno e).elim⟩
     ·obtain ⟨rfl,rfl⟩:=hb1 rfl
      clear hb1 hb2 hB3;go_wp2_with fail;refine (sExpression_any HP5.out (by decide) (by omega) 1 (by omega) (by omega)).mono ?_;rintro e w6 ⟨r,q6,ns6,z6,nv6,rfl,hr,P6,K6,hz6,hx6⟩;have HP6:=hid P6;have HE6:=hid (K6.up HE5.out (Nat.le_refl _));have HT6:=hid (K6.blk HT5.out (by omega) (by decide));have HX6:=hid hx6;have c4:=P6.box.cell 4 rfl;have k6:=P6.k3000
      have hcu6:s=cuS→z6 = -1∧q6=3∧ns6=[cuN]∧r=0∧gs=[]:=fun e=>by
       obtain ⟨e1,e2,e3,_⟩:=(HC.out e).name (HCT.out e) hk0;obtain ⟨i1,i2,i3,i4⟩:=HX6.out ⟨#[117]⟩ (by rw [HCUT.out e,e1,e2];exact cu_lone);exact ⟨i1,by omega,by rw [i3,e2];rfl,by rw [i4,e2];rfl,e3⟩
      have HCU6:=hid hcu6;clear P6 K6 hx6 hcu6 HP5 HE5 HT5
      by_cases hz60:0≤z6
      ·have hno:s=cuS→False:=fun e=>by
        have:=(HCU6.out e).1;omega
       have c0:=HP6.out.box.cell 0 rfl;have c4:=HP6.out.box.cell 4 rfl;have zB:=HP6.out.box.lt;have hlo:=HP6.out.low;have r0:=(HE6.out.block hA).trans rA.out;have q0:=Blk.cell (show Blk w6 w.heap.size 132 [.slice none 0 0,.slice none 0 0] from r0) 0 rfl;have q0f:=Blk.free (show Blk w6 w.heap.size 132 [.slice none 0 0,.slice none 0 0] from r0) 0;have q1:=Blk.cell (show Blk w6 w.heap.size 132 [.slice none 0 0,.slice none 0 0] from r0) 1 rfl;have q1f:=Blk.free (show Blk w6 w.heap.size 132 [.slice none 0 0,.slice none 0 0] from r0) 1;have EW:Ext w w6:=HX1.out.trans HE6.out;clear r0;go_wp2_with fail;refine wp_region_stagesS [([0,1,2,3,4],5),([],6)] 6 (fun w'=>∃d,w'=lowc (CBk w2.heap.size) _ d) (by kernel_rfl) (by kernel_rfl) (SC.drew _ _) ?_;refine sc_ fun K hK=>?_;go_wp2_with fail;refine hK _ _ (.inr (SC.blocks fun a ha=>?_)) ?_
       ·unfold CBk at ha
        exact (Below.heap_setCell _ _ _ _ (by rw [ha];simp only;omega)).trans (Below.heap_setCell _ _ _ _ (by rw [ha];simp only;omega))
       clear hK K;refine sc_ fun K hK=>?_;go_wp2_with fail;refine hK _ _ (.inl trivial) ?_;clear hK K;refine wpStagesS_nil ?_;go_wp2;refine bodyPost_ret (v:=.tuple #[.agg #[.slice none 0 0,.slice none 0 0],.int .i64 z6]) (by simp [results,Tryz.results202,go_sem, *]) rfl ?_;exact ⟨⟨[],[]⟩,_,z6,rfl,Prg.rNone _ _ _,Prg.bd_none,Prg.small_none,S_,fun e=>(hno e).elim⟩
      ·obtain ⟨rfl,hq6⟩:=hz6.resolve_left hz60
       obtain ⟨t6,ht6,_,_,_,_,_,_⟩:=HP6.out.ends.at HP6.out.here;have HTk6:=hid ht6;clear ht6;go_wp2_with fail;refine (sExpect_any HP6.out HTk6.out ⟨#[59]⟩ (by decide)).mono ?_;rintro e w7 ⟨b7,q7,z7,rfl,P7,K7,hb1,hb2,hb3⟩;have HP7:=hid P7;have HE7:=hid (K7.up HE6.out (Nat.le_refl _));have HT7:=hid (K7.blk HT6.out (by omega) (by decide));have hB3:=hid hb3;clear P7 K7 hb3 c4 HP6 HE6 HT6
       cases b7
       ·have hz7:=hb2 rfl
        have hno:s=cuS→False:=fun e=>by
         obtain ⟨_,e1,_⟩:=HCU6.out e;have:=HTk6.out;rw [e1,HCUT.out e] at this;exact absurd (hB3.out (cu_semi this)) (by decide)
        clear hb1 hb2;have c0:=HP7.out.box.cell 0 rfl;have c4:=HP7.out.box.cell 4 rfl;have zB:=HP7.out.box.lt;have hlo:=HP7.out.low;have r0:=(HE7.out.block hA).trans rA.out;have q0:=Blk.cell (show Blk w7 w.heap.size 132 [.slice none 0 0,.slice none 0 0] from r0) 0 rfl;have q0f:=Blk.free (show Blk w7 w.heap.size 132 [.slice none 0 0,.slice none 0 0] from r0) 0;have q1:=Blk.cell (show Blk w7 w.heap.size 132 [.slice none 0 0,.slice none 0 0] from r0) 1 rfl;have q1f:=Blk.free (show Blk w7 w.heap.size 132 [.slice none 0 0,.slice none 0 0] from r0) 1;have EW:Ext w w7:=HX1.out.trans HE7.out;clear r0;go_wp2_with fail;refine wp_region_stagesS [([0,1,2,3,4],5),([],6)] 6 (fun w'=>∃d,w'=lowc (CBk w2.heap.size) _ d) (by kernel_rfl) (by kernel_rfl) (SC.drew _ _) ?_;refine sc_ fun K hK=>?_;go_wp2_with fail;refine hK _ _ (.inr (SC.blocks fun a ha=>?_)) ?_
        ·unfold CBk at ha
         exact (Below.heap_setCell _ _ _ _ (by rw [ha];simp only;omega)).trans (Below.heap_setCell _ _ _ _ (by rw [ha];simp only;omega))
        clear hK K;refine sc_ fun K hK=>?_;go_wp2_with fail;refine hK _ _ (.inl trivial) ?_;clear hK K;refine wpStagesS_nil ?_;go_wp2;refine bodyPost_ret (v:=.tuple #[.agg #[.slice none 0 0,.slice none 0 0],.int .i64 z7]) (by simp [results,Tryz.results202,go_sem, *]) rfl ?_;exact ⟨⟨[],[]⟩,_,z7,rfl,Prg.rNone _ _ _,Prg.bd_none,Prg.small_none,S_,fun e=>(hno e).elim⟩
       ·obtain ⟨rfl,rfl⟩:=hb1 rfl
        clear hb1 hb2 hB3;have c3:=HP7.out.box.cell 3 rfl;have c0:=HP7.out.box.cell 0 rfl;have f3:=HP7.out.box.free 3;have t1:=HT7.out.cell 1 rfl;have zT:=HT7.out.lt;have zB7:=HP7.out.box.lt;have hlo:=HP7.out.low;obtain ⟨ga,gc,rfl,-⟩:=OwnG.form HP7.out.asgs;go_wp2_with fail;refine wp_region_phases [([0,1,2,3,4,5,6,7,8,9],10),([],11)] [([],12),([],13),([],14),([],15)] 12 (fun w'=>∃d,w'=lowc (C2b w2.heap.size wr.heap.size) _ d) (by kernel_rfl) (by kernel_rfl) (SC.drew _ _) ?_;refine sc_ fun K hK=>?_;go_wp2_with fail;have y8:Ext w7 ((w7.alloc (.cells #[.string t.text,.int .i64 (r:Nat)] 194)).drew):=S_;have B8:=(Blk.new w7 194 [.string t.text,.int .i64 (r:Nat)]).ext (show Ext (w7.alloc (.cells #[.string t.text,.int .i64 (r:Nat)] 194)) ((w7.alloc (.cells #[.string t.text,.int .i64 (r:Nat)] 194)).drew) from S_);refine hK _ _ (.inr (SC.blocks fun a ha=>?_)) ?_
        ·rcases ha with ha|ha
         ·exact y8.block (by rw [ha];omega)
         ·exact y8.block (by rw [ha];omega)
        clear hK K;have HB8:=hid B8;have HP8:=hid (HP7.out.ext y8);have HE8:=hid (HE7.out.trans y8);have HY8:=hid y8;have z8:=y8.size;clear y8 B8;refine sc_ fun K hK=>?_;refine wpList_append_asg _ rfl _ _ rfl (w.alloc (.cells #[.slice none 0 0,.slice none 0 0] 132)).heap.size (.slice ga gs.length gc) gs rfl HP8.out.asgs ⟨t.text,(r:Nat)⟩ w7.heap.size rfl ⟨HB8.out.cell 0 rfl,HB8.out.cell 1 rfl⟩ (by omega) (by omega) ?_;intro gv2 w9 hown hg;have hrow:=OwnG.row HP8.out.asgs
        have kB:w9.heap[w2.heap.size]?=w7.heap[w2.heap.size]?:=(hg.block _ (by omega) (fun e=>by
         obtain ⟨_,c,hc⟩:=hrow _ e.symm
         exact HP8.out.notBox (by decide) c hc)).trans (HY8.out.block zB7)
        have kT:w9.heap[wr.heap.size]?=w7.heap[wr.heap.size]?:=(hg.block _ (by omega) (fun e=>by
         obtain ⟨_,c,hc⟩:=hrow _ e.symm;have h1:=HT7.out.ext HY8.out;unfold Blk at h1;rw [h1] at hc;simp only [Option.some.injEq,Obj.cells.injEq] at hc
         exact absurd hc.2.1 (by decide))).trans (HY8.out.block zT)
        have HP9:=hid (HP8.out.setGs hg hown);have HE9:=hid (Ext.setCell (Ext.grown HE8.out hg (fun k hk=>(hrow k hk).1)) (p:=⟨w2.heap.size,3,none⟩) HP8.out.low gv2);have B9:=HP7.out.box.of kB;have e3:=B9.cell 3 rfl;have e0:=B9.cell 0 rfl;have g3:=B9.free 3;go_wp2_with fail;refine hK _ _ (.inr (SC.blocks fun a ha=>?_)) ?_
        ·rcases ha with ha|ha
         ·rw [ha];exact kB
         ·rw [ha];exact kT
        clear hK K;obtain ⟨ga2,gc2,hv,_⟩:=OwnG.form hown
        have hll:(gs++[(⟨t.text,(r:Nat)⟩:Asg)]).length=gs.length+1:=by simp
        rw [hll] at hv;subst hv;clear hown hg hrow kB kT c3 c0 f3 t1 B9;refine wpPhase_end (wpPhase_free ?_);refine sc_ fun K hK=>?_;go_wp2_with fail;go_wp2_with fail;refine hK _ _ (.inr (trivial)) ?_;clear hK K;refine sc_ fun K hK=>?_;go_wp2_with fail;go_wp2_with fail;refine hK _ _ (.inr (trivial)) ?_;clear hK K;refine sc_ fun K hK=>?_;go_wp2_with fail;go_wp2_with fail;refine hK _ _ (.inr (trivial)) ?_;clear hK K;refine sc_ fun K hK=>?_;go_wp2_with fail;go_wp2_with fail;refine hK _ _ (.inr (trivial)) ?_;clear hK K;refine wpStagesS_nil ?_;go_wp2;go_roundw
        case rel=>exact ⟨q6+1,ns6,gs++[(⟨t.text,(r:Nat)⟩:Asg)],_,_,HP9.out,HE9.out,(fun y hy=>by
         rcases List.mem_append.1 hy with hy|hy
         ·exact hgs.out y hy
         ·simp only [List.mem_cons,List.not_mem_nil,or_false] at hy
          subst hy
          exact ⟨⟨by show (-9223372036854775808:Int)≤((r:Nat):Int);omega,by show ((r:Nat):Int)≤9223372036854775807;omega⟩,tts⟩),by omega,fun e=>by
         obtain ⟨_,i1,i2,i3,i4⟩:=HCU6.out e;obtain ⟨_,_,_,_,i5⟩:=(HC.out e).name (HCT.out e) hk0
         exact .inr ⟨by omega,i2,by rw [i3,i4,i5];rfl⟩⟩
        case measure=>
         rw [HP9.out.msr,HP.out.msr,if_neg (by omega),if_neg (by omega)];have:=HP9.out.here;omega
    ·go_wp2_with fail
     refine (sFail_any HP1.out).mono ?_;rintro e w3 ⟨z3,rfl,hz,P3,K3⟩;have HP3:=hid P3;have HE3:=hid (K3.up HE1.out (Nat.le_refl _));have hno:s=cuS→False:=fun e=>hk2 ((HC.out e).name (HCT.out e) hk0).2.2.2.1;clear P3 K3;have c0:=HP3.out.box.cell 0 rfl;have c4:=HP3.out.box.cell 4 rfl;have zB:=HP3.out.box.lt;have hlo:=HP3.out.low;have r0:=(HE3.out.block hA).trans rA.out;have q0:=Blk.cell (show Blk w3 w.heap.size 132 [.slice none 0 0,.slice none 0 0] from r0) 0 rfl;have q0f:=Blk.free (show Blk w3 w.heap.size 132 [.slice none 0 0,.slice none 0 0] from r0) 0;have q1:=Blk.cell (show Blk w3 w.heap.size 132 [.slice none 0 0,.slice none 0 0] from r0) 1 rfl;have q1f:=Blk.free (show Blk w3 w.heap.size 132 [.slice none 0 0,.slice none 0 0] from r0) 1;have EW:Ext w w3:=HX1.out.trans HE3.out;clear r0;go_wp2_with fail;refine wp_region_stagesS [([0,1,2,3,4],5),([],6)] 6 (fun w'=>∃d,w'=lowc (CBk w2.heap.size) _ d) (by kernel_rfl) (by kernel_rfl) (SC.drew _ _) ?_;refine sc_ fun K hK=>?_;go_wp2_with fail;refine hK _ _ (.inr (SC.blocks fun a ha=>?_)) ?_
     ·unfold CBk at ha
      exact (Below.heap_setCell _ _ _ _ (by rw [ha];simp only;omega)).trans (Below.heap_setCell _ _ _ _ (by rw [ha];simp only;omega))
     clear hK K;refine sc_ fun K hK=>?_;go_wp2_with fail;refine hK _ _ (.inl trivial) ?_;clear hK K;refine wpStagesS_nil ?_;go_wp2;refine bodyPost_ret (v:=.tuple #[.agg #[.slice none 0 0,.slice none 0 0],.int .i64 z3]) (by simp [results,Tryz.results202,go_sem, *]) rfl ?_;exact ⟨⟨[],[]⟩,_,z3,rfl,Prg.rNone _ _ _,Prg.bd_none,Prg.small_none,S_,fun e=>(hno e).elim⟩
section
open Go.RowKit Go.Maps Go.WideMaps
theorem i64L {z:Int} (h:0≤z∧z≤9):I64 z:=⟨by omega,by omega⟩
theorem insOf_64 {p:Prg} (h:p.K) (hgl:p.gs.length≤1048576) {j:Nat} {x:Nd} (hx:p.ns[j]?=some x) (hn:I64 x.num):I64 (insOf p x).op∧I64 (insOf p x).num:=by
 have hix:((ixOf p x.name:Nat):Int)≤1048576:=by
  unfold ixOf
  cases e:frst p.gs p.gs.length x.name.toList with
  | none=>decide
  | some i=>
   have:=(frst_some e).1
   show ((i:Nat):Int)≤1048576
   omega
 rcases nodeF_op (h.v.nd j x hx).1 with ⟨o,h2,h3⟩|⟨o,h3⟩|⟨o,h3⟩|⟨o,o',h3⟩|⟨o,h3⟩
 ·unfold insOf;rw [if_pos o];exact ⟨i64L (z:=1) ⟨by decide,by decide⟩,hn⟩
 ·unfold insOf
  rw [if_neg (by omega),if_neg (by omega),if_pos o]
  split
  ·exact ⟨i64L (z:=2) ⟨by decide,by decide⟩,i64L (z:=0) ⟨by decide,by decide⟩⟩
  ·exact ⟨i64L (z:=3) ⟨by decide,by decide⟩,⟨by show (-9223372036854775808:Int)≤((ixOf p x.name:Nat):Int);omega,by show ((ixOf p x.name:Nat):Int)≤9223372036854775807;omega⟩⟩
 ·unfold insOf;rw [if_neg (by omega),if_pos o];exact ⟨i64L (z:=5) ⟨by decide,by decide⟩,i64L (z:=3) ⟨by decide,by decide⟩⟩
 ·unfold insOf;rw [if_neg (by omega),if_neg (by omega),if_neg (by omega),if_neg (by omega)]
  exact ⟨i64L (z:=6) ⟨by decide,by decide⟩,⟨by show (-9223372036854775808:Int)≤x.op;omega,by show x.op≤9223372036854775807;omega⟩⟩
 ·unfold insOf;rw [if_neg (by omega),if_neg (by omega),if_neg (by omega),if_pos o];exact ⟨i64L (z:=7) ⟨by decide,by decide⟩,i64L (z:=0) ⟨by decide,by decide⟩⟩
theorem tr_64 {p:Prg} (h:p.K) (hgl:p.gs.length≤1048576) (hn:∀x∈p.ns,I64 x.num):∀(F j:Nat),j<F→∀y∈p.tr j,I64 y.op∧I64 y.num:=by
 intro F
 induction F with
 | zero=>intro j hj;omega
 | succ F ih=>
  intro j hj y hy
  cases hx:p.ns[j]? with
  | none=>
   have:p.tr j=[]:=by show trF p (j+1) j=[];rw [trF,hx]
   rw [this] at hy;cases hy
  | some x=>
   rw [h.v.tr_step hx] at hy
   rcases List.mem_append.1 hy with hy|hy
   ·obtain ⟨a,ha,hy⟩:=List.mem_flatMap.1 hy
    have:=(h.v.nd j x hx).2 a ha;exact ih a.toNat (by omega) y hy
   ·simp only [List.mem_cons,List.not_mem_nil,or_false] at hy
    subst hy;exact insOf_64 h hgl hx (hn x (List.mem_of_getElem? hx))
theorem trs_64 {p:Prg} (h:p.K) (hgl:p.gs.length≤1048576) (hn:∀x∈p.ns,I64 x.num):∀(k:Nat),k≤p.gs.length→∀y∈p.trs k,I64 y.op∧I64 y.num:=by
 intro k
 induction k with
 | zero=>intro _ y hy;cases hy
 | succ k ih=>
  intro hk y hy
  obtain ⟨a,ha⟩:∃a,p.gs[k]?=some a:=⟨p.gs[k],List.getElem?_eq_getElem (by omega)⟩
  rw [Prg.trs_step ha] at hy
  rcases List.mem_append.1 hy with hy|hy
  ·exact ih (by omega) y hy
  ·rcases List.mem_append.1 hy with hy|hy
   ·exact tr_64 h hgl hn _ _ (Nat.lt_succ_self _) y hy
   ·simp only [List.mem_cons,List.not_mem_nil,or_false] at hy
    subst hy;exact ⟨i64L (z:=4) ⟨by decide,by decide⟩,⟨by show (-9223372036854775808:Int)≤((k:Nat):Int);omega,by show ((k:Nat):Int)≤9223372036854775807;omega⟩⟩
theorem OwnInss.inss {lo l2:Nat} {w:World} {v:Value} {xs:List Ins} (h:OwnInss lo w v xs) (hl:l2≤lo) (hg:∀x∈xs,I64 x.op∧I64 x.num):Inss l2 w.heap.size w v xs:=by
 obtain ⟨a,c,rfl,_⟩:=OwnG.form h
 have hc:xs.length≤c∧c≤maxLen:=by
  rcases h.2 with ⟨e,h4⟩|⟨g,cap,cur,e,hb,hh,hc,hm,_⟩
  ·simp only [Value.slice.injEq] at e
   obtain ⟨rfl,e2,rfl⟩:=e;exact ⟨by omega,by unfold maxLen;omega⟩
  ·simp only [Value.slice.injEq] at e
   obtain ⟨rfl,e2,rfl⟩:=e;exact ⟨hc,hm⟩
 refine ⟨a,c,rfl,hc.1,hc.2,fun i x hx=>?_⟩;obtain ⟨g,cap,e,g1,g2,_,_,_,hcell⟩:=OwnG.at h (fun _=>rfl) hx;simp only [Value.slice.injEq] at e;obtain ⟨rfl,_,rfl⟩:=e;have c0:=hcell 0 (by decide);have c1:=hcell 1 (by decide);have c2:=hcell 2 (by decide);simp only [Ins.cs,Nat.add_zero,List.getElem?_cons_zero,List.getElem?_cons_succ] at c0 c1 c2;exact ⟨hg x (List.mem_of_getElem? hx),g,0,rfl,by omega,g2,by rw [Nat.zero_add];exact c0,by rw [Nat.zero_add];exact c1,by rw [Nat.zero_add];exact c2⟩
theorem Strs.low {lo l2 hi:Nat} {w:World} {v:Value} {xs:List ByteArray} (h:Strs lo hi w v xs) (hl:l2≤lo):Strs l2 hi w v xs:=by
 obtain ⟨a,cap,h1,h2,h3,h4⟩:=h;refine ⟨a,cap,h1,h2,h3,fun i x hx=>?_⟩;obtain ⟨b,off,g2,g3,g4⟩:=h4 i x hx;exact ⟨b,off,g2,by omega,g4⟩
theorem OwnStrs.row {lo:Nat} {w:World} {v:Value} {xs:List ByteArray} (h:OwnStrs lo w v xs):∀k,v.ownBlock=some k→lo≤k∧∃c,w.heap[k]?=some (.cells c 9 (0,0)):=by
 intro k hk
 rcases h.2 with ⟨rfl,h4⟩|⟨g,cap,cur,rfl,hb,hg,_⟩
 ·cases hk
 ·simp only [Value.ownBlock,Option.some.injEq] at hk
  subst hk;exact ⟨hb,cur,hg⟩
theorem TB.knS {p:Prg} {P T C M mb lo:Nat} {a1 a2:Option Addr} {c1 c2:Nat} {w w':World} {xs:List Ins} {iv lv lv':Value} {ls ls':List ByteArray} (h:TB p P T C M mb lo a1 a2 c1 c2 w xs iv ls lv) (k:KN lo C 9 w w') (hc:Blk w' C 126 [iv,lv']) (hl:OwnStrs lo w' lv' ls'):TB p P T C M mb lo a1 a2 c1 c2 w' xs iv ls' lv':=
 ⟨KN.blk h.prog k (h.prog.neq h.code (by decide)) (by decide),KN.blk h.fn k (h.fn.neq h.code (by decide)) (by decide),hc,KN.blk h.mp k (h.mp.neq h.code (by decide)) (by decide),KN.fm h.map k h.code,KN.row h.ins k (h.code.noCells (by decide)) (by decide),hl,h.low⟩
end
section
open Go.RowKit Go.Maps Go.WideMaps
theorem Cod.R.wideC {c:Cod} {lo hi l2 h2:Nat} {w:World} {v:Value} (h:c.R lo hi w v) (hl:l2≤lo) (hh:hi≤h2):c.R l2 h2 w v:=by
 obtain ⟨iu,lu,rfl,⟨a,cap,e1,e2,e3,e4⟩,⟨a',cap',f1,f2,f3,f4⟩⟩:=h;refine ⟨iu,lu,rfl,⟨a,cap,e1,e2,e3,fun i x hx=>?_⟩,⟨a',cap',f1,f2,f3,fun i x hx=>?_⟩⟩
 ·obtain ⟨g0,b,off,g1,g2,g3,g4⟩:=e4 i x hx
  exact ⟨g0,b,off,g1,by omega,by omega,g4⟩
 ·obtain ⟨b,off,g1,g2,g3,g4⟩:=f4 i x hx
  exact ⟨b,off,g1,by omega,by omega,g4⟩
theorem trs_mono {p:Prg} {k:Nat}:∀m,k≤m→m≤p.gs.length→(p.trs k).length≤(p.trs m).length:=by
 intro m
 induction m with
 | zero=>
  intro h _
  have:k=0:=by omega
  rw [this];exact Nat.le_refl _
 | succ m ih=>
  intro h hm
  by_cases e:k=m+1
  ·subst e;exact Nat.le_refl _
  ·have:=ih (by omega) (by omega)
   obtain ⟨a,ha⟩:∃a,p.gs[m]?=some a:=⟨p.gs[m],List.getElem?_eq_getElem (by omega)⟩
   rw [Prg.trs_step ha,List.length_append];omega
theorem iCompile_any (lo hi:Nat) (v:Value) (p:Prg) (w:World) (hv:p.R lo hi w v) (hh:hi≤w.heap.size) (hchk:p.chkB=true) (hbd:p.bd) (hgl:p.gs.length≤1048576) :
  Calls Tryz.prog 94 #[v] w fun e w'=>∃u,e = .returned (.tuple #[u,.bool true])∧p.code.R w.heap.size w'.heap.size w' u∧Ext w w':=by
 have HV:=hid hv;have hp:=Prg.chkB_K hchk;have HP:=hid hp;have HCH:=hid hchk;obtain ⟨a1,c1,a2,c2,rfl,HN,HG⟩:=hv.form;have l1:=HN.le;have l2:=HN.cap;have l3:=HG.le;have l4:=HG.cap;have l5:=hp.v.len;have l6:=hp.v.gs_len
 have hn64:∀x∈p.ns,I64 x.num:=fun x hx=>by
  obtain ⟨i,hi,hix⟩:=List.getElem_of_mem hx;exact (HN.cell i x (by rw [←hix];simp [hi])).1.2
 have H64:=hid (trs_64 hp hgl hn64);have hcl:=code_len hp;have HCL:=hid hcl;have b0:=Blk.new w 132 [.slice a1 p.ns.length c1,.slice a2 p.gs.length c2];have r0:=Blk.new (w.alloc (.cells #[.slice a1 p.ns.length c1,.slice a2 p.gs.length c2] 132)) 126 [.slice none 0 0,.slice none 0 0];rw [World.size_alloc] at r0;have x0:Ext w ((w.alloc (.cells #[.slice a1 p.ns.length c1,.slice a2 p.gs.length c2] 132)).alloc (.cells #[.slice none 0 0,.slice none 0 0] 126)):=X_;have HB0:=hid (b0.ext (show Ext _ ((w.alloc (.cells #[.slice a1 p.ns.length c1,.slice a2 p.gs.length c2] 132)).alloc (.cells #[.slice none 0 0,.slice none 0 0] 126)) from X_));have HR0:=hid r0;have HX0:=hid x0;clear hv hp hchk b0 r0 x0 hn64 hcl;go_enter Tryz.func94,Tryz.ntmps94;go_wp2_with fail;refine (iIsOk_val HCH.out lo hi _ _ (HV.out.ext hh HX0.out) (Nat.le_trans hh HX0.out.size) hbd hgl).mono ?_;rintro e w1 ⟨rfl,x1⟩;have HX1:=hid (HX0.out.trans x1);have HB1:=hid (HB0.out.ext x1);have HR1:=hid (HR0.out.ext x1);obtain ⟨q0,q1⟩:=HB1.out.q2;have ql:=HB1.out.lt;clear x1 HX0 HB0 HR0;go_wp2_with fail;refine (iAssigned_any lo hi _ p _ (HV.out.ext hh HX1.out) (Nat.le_trans hh HX1.out.size) hbd hgl).mono ?_;rintro e w2 ⟨⟨mb,rfl,hmb,hM⟩,x2⟩;have HX2:=hid (HX1.out.trans x2);have HB2:=hid (HB1.out.ext x2);have HR2:=hid (HR1.out.ext x2);have HM2:=hid hM;have q1:=HB2.out.cell 1 rfl;have ql2:=HB2.out.lt;have rl2:=HR2.out.lt;have zw2:=HX2.out.size;clear x2 hM HX1 HB1 HR1;have xb:Ext w2 (((w2.alloc (.cells #[.slice none 0 0,.slice none 0 0] 126)).alloc (.cells #[.map (some mb)] 239)).alloc (.cells #[.func (.func 155) #[] #[.pointer (some ⟨w.heap.size,0,none⟩),.pointer (some ⟨w2.heap.size+1+1,0,none⟩),.pointer (some ⟨w2.heap.size,0,none⟩),.pointer (some ⟨w2.heap.size+1,0,none⟩)]] 241)):=X_;have cb:=(Blk.new w2 126 [.slice none 0 0,.slice none 0 0]).ext (show Ext (w2.alloc (.cells #[.slice none 0 0,.slice none 0 0] 126)) (((w2.alloc (.cells #[.slice none 0 0,.slice none 0 0] 126)).alloc (.cells #[.map (some mb)] 239)).alloc (.cells #[.func (.func 155) #[] #[.pointer (some ⟨w.heap.size,0,none⟩),.pointer (some ⟨w2.heap.size+1+1,0,none⟩),.pointer (some ⟨w2.heap.size,0,none⟩),.pointer (some ⟨w2.heap.size+1,0,none⟩)]] 241)) from X_);have mbx:=(Blk.new (w2.alloc (.cells #[.slice none 0 0,.slice none 0 0] 126)) 239 [.map (some mb)]).ext (show Ext ((w2.alloc (.cells #[.slice none 0 0,.slice none 0 0] 126)).alloc (.cells #[.map (some mb)] 239)) (((w2.alloc (.cells #[.slice none 0 0,.slice none 0 0] 126)).alloc (.cells #[.map (some mb)] 239)).alloc (.cells #[.func (.func 155) #[] #[.pointer (some ⟨w.heap.size,0,none⟩),.pointer (some ⟨w2.heap.size+1+1,0,none⟩),.pointer (some ⟨w2.heap.size,0,none⟩),.pointer (some ⟨w2.heap.size+1,0,none⟩)]] 241)) from X_);have fb:=Blk.new ((w2.alloc (.cells #[.slice none 0 0,.slice none 0 0] 126)).alloc (.cells #[.map (some mb)] 239)) 241 [.func (.func 155) #[] #[.pointer (some ⟨w.heap.size,0,none⟩),.pointer (some ⟨w2.heap.size+1+1,0,none⟩),.pointer (some ⟨w2.heap.size,0,none⟩),.pointer (some ⟨w2.heap.size+1,0,none⟩)]];simp only [World.size_alloc] at mbx fb
 have hT:TB p w.heap.size (w2.heap.size+1+1) w2.heap.size (w2.heap.size+1) mb w2.heap.size a1 a2 c1 c2 (((w2.alloc (.cells #[.slice none 0 0,.slice none 0 0] 126)).alloc (.cells #[.map (some mb)] 239)).alloc (.cells #[.func (.func 155) #[] #[.pointer (some ⟨w.heap.size,0,none⟩),.pointer (some ⟨w2.heap.size+1+1,0,none⟩),.pointer (some ⟨w2.heap.size,0,none⟩),.pointer (some ⟨w2.heap.size+1,0,none⟩)]] 241)) [] (.slice none 0 0) [] (.slice none 0 0):=⟨HB2.out.ext xb,fb,cb,mbx,HM2.out.ext xb,OwnG.nil _ _ _ _ _,OwnStrs.nil _ _,Nat.le_refl _⟩
 have HT:=hid hT;have HRb:=hid (HR2.out.ext xb);have HXb:=hid (HX2.out.trans xb);have q1b:=hT.prog.cell 1 rfl;clear cb mbx fb hT xb HB2 HM2 HR2 HX2;go_wp2_with fail
 go_loopw [20] (fun i wr=>∃(k:Nat) (iv lv:Value),k≤p.gs.length∧i = .int .i64 (k:Nat)∧TB p w.heap.size (w2.heap.size+1+1) w2.heap.size (w2.heap.size+1) mb w2.heap.size a1 a2 c1 c2 wr (p.trs k) iv ((p.gs.take k).map (·.name)) lv∧Blk wr (w.heap.size+1) 126 [.slice none 0 0,.slice none 0 0]∧Ext w wr) (fun i _=>p.gs.length - (intOf i).toNat)
 case atStart=>exact ⟨0,_,_,by omega,rfl,HT.out,HRb.out,HXb.out⟩
 case round=>
  clear HT HRb HXb q1b;obtain ⟨k,iv,lv,hk,rfl,hT,hR,hx⟩:=hrel;have HT:=hid hT;have HR:=hid hR;have HX:=hid hx
  by_cases hlt:k<p.gs.length
  ·obtain ⟨b,off,s,rt,rfl,hb1,hbw,hdrop,hget,ir,y0,y1⟩:=HG.at hlt hx hh
   have hrb:=(HP.out.v.ag k _ hget).2;simp only at hrb
   obtain ⟨r,rfl⟩:∃r:Nat,rt=r:=⟨rt.toNat,by omega⟩
   have HG1:=hid hget;have hst:=Prg.trs_step hget;have hmo:=trs_mono (p:=p) (k:=k+1) p.gs.length (by omega) (Nat.le_refl _);have hcl:=HCL.out;have hcl2:(p.trs p.gs.length).length≤120:=hcl;simp only [Int.toNat_natCast] at hst
   have hle:(p.trs (k+1)).length=(p.trs k).length+(p.tr r).length+1:=by rw [hst];simp;omega
   have HST:=hid hst;have y0:Ext wr (wr.alloc (.cells #[.string s,.int .i64 (r:Nat)] 194)):=X_;have HA:=hid (Blk.new wr 194 [.string s,.int .i64 (r:Nat)]);have HT1:=hid (hT.ext y0);have HR1:=hid (hR.ext y0);have HX1:=hid (hx.trans y0);have hfn:=hT.fn;have f0:=hfn.cell 0 rfl;have fl:=hfn.lt;have zr:=hx.size;have hlo:=hT.low;have hCl:=hT.code.lt;clear hT hR hx hdrop hget hst hcl HT HR HX hfn;go_wp2_with fail;refine (iTr_any lo hi p HP.out hbd hgl w a1 (some ⟨b,off,none⟩) c1 c2 HN hh w.heap.size (w2.heap.size+1+1) w2.heap.size (w2.heap.size+1) mb w2.heap.size zw2 _ _ (r+1) r _ iv _ (by omega) (by omega) (by omega) HT1.out HX1.out).mono ?_;rintro e w5 ⟨rfl,⟨iv2,hT5⟩,hk5⟩;have HA5:=hid (KN.blk HA.out hk5 (HA.out.neq HT1.out.code (by decide)) (by decide));have HR5:=hid (HR1.out.of (hk5.block _ HR1.out.lt (.inl (by omega))));have HX5:=hid (hk5.up HX1.out zw2)
   obtain ⟨L,hL⟩:∃L,p.trs k++p.tr r=L:=⟨_,rfl⟩
   have hLl:L.length≤200:=by rw [←hL,List.length_append];omega
   rw [hL] at hT5;have HL:=hid hL
   obtain ⟨NL,hNL⟩:∃N,(p.gs.take k).map (·.name)=N:=⟨_,rfl⟩
   have hNl:NL.length≤200:=by rw [←hNL,List.length_map,List.length_take];omega
   rw [hNL] at hT5;have HNL:=hid hNL;have HT5:=hid hT5;obtain ⟨ia,ic,rfl,-⟩:=OwnG.form hT5.ins;obtain ⟨la,lc,rfl,-⟩:=hT5.loc.form;obtain ⟨cc0,cc1⟩:=hT5.code.q2;have cf0:=hT5.code.free 0;have cf1:=hT5.code.free 1;have cl:=hT5.code.lt;obtain ⟨k0,k1⟩:=HA5.out.q2;have kl:=HA5.out.lt;have y5:Ext w5 (w5.alloc (.cells #[.int .i64 4,.string ⟨#[]⟩,.int .i64 (k:Nat)] 197)):=X_;have b5:=Blk.new w5 197 [.int .i64 4,.string ⟨#[]⟩,.int .i64 (k:Nat)];have HY5:=hid y5;have HB5:=hid b5;have HI5:=hid (OwnG.ext hT5.ins y5);have zX5:=HX5.out.size;have zy5:=y5.size;clear hL hNL hT5 hk5 y5 b5 HT1 HR1 HX1 HA f0;go_wp2_with (at_builtin;refine wpList_append_insn _ rfl _ _ rfl w2.heap.size (.slice ia L.length ic) L rfl ?_ ⟨4,⟨#[]⟩,(k:Nat)⟩ w5.heap.size rfl ?_ ?_ ?_ ?_)
   ·exact HI5.out
   ·omega
   ·exact Nat.le_trans (Nat.le_of_lt cl) zy5
   intro iv3 w6 hown hg;have hrow:=OwnG.rowC HI5.out
   have hother:∀{B:Nat} {t:TypeId} {cs:List Value},Blk w5 B t cs→t≠197→w6.heap[B]?=w5.heap[B]?:=fun hb ht=>(hg.block _ (by have:=hb.lt;omega) (fun e=>by
    obtain ⟨_,c,hc⟩:=hrow _ e.symm
    exact (hb.ext HY5.out).noCells (Ne.symm ht) c hc)).trans (HY5.out.block hb.lt)
   have kC:=hother HT5.out.code (by decide);have kA:=hother HA5.out (by decide);have K6:KN w2.heap.size w2.heap.size 197 w5 w6:=((KN.refl _ _ _ w5).ext HY5.out).grown hg hrow;have C6:=HT5.out.code.of kC;have HA6:=hid ((HA5.out.of kA).other (a:=⟨w2.heap.size,0,none⟩) (HA5.out.neq HT5.out.code (by decide)) iv3);have HT6:=hid (HT5.out.kn (K6.set (Nat.le_refl _) 0 iv3) (C6.set 0 iv3) (OwnG.set hown C6 (by decide) 0 iv3));have HR6:=hid (HR5.out.of ((K6.set (Nat.le_refl _) 0 iv3).block _ HR5.out.lt (.inl (by omega))));have HX6:=hid ((K6.set (Nat.le_refl _) 0 iv3).up HX5.out zw2);obtain ⟨ia2,ic2,hv2,_⟩:=OwnG.form hown
   have hll:(L++[(⟨4,⟨#[]⟩,(k:Nat)⟩:Ins)]).length=L.length+1:=by simp
   rw [hll] at hv2;subst hv2;obtain ⟨e0,e1⟩:=C6.q2;have g0:=C6.free 0;have g1:=C6.free 1;have a0:=(HA5.out.of kA).cell 0 rfl;have al:=(HA5.out.of kA).lt;have c6l:=C6.lt;clear hown hg hrow hother kC kA K6 C6 cc0 cc1 cf0 cf1 k0 k1;have y6:Ext (w6.setCell ⟨w2.heap.size,0,none⟩ (.slice ia2 (L.length+1) ic2)) ((w6.setCell ⟨w2.heap.size,0,none⟩ (.slice ia2 (L.length+1) ic2)).alloc (.cells #[.string s] 9)):=X_;have HS6:=hid (HT6.out.loc.ext y6);have HY6:=hid y6;have b6:=Blk.new (w6.setCell ⟨w2.heap.size,0,none⟩ (.slice ia2 (L.length+1) ic2)) 9 [.string s];rw [World.size_setCell] at b6;have zy6:=y6.size;have zc6:=HT6.out.code.lt;clear y6;go_wp2_with (at_builtin;refine wpList_append_str _ rfl _ _ rfl w2.heap.size (.slice la NL.length lc) NL rfl ?_ s w6.heap.size rfl ?_ ?_ ?_ ?_)
   ·exact HS6.out
   ·exact b6.cell 0 rfl
   ·omega
   ·exact Nat.le_trans (Nat.le_of_lt zc6) zy6
   intro lv2 w8 hown hg;have hrow:=OwnStrs.row HS6.out
   have kC:w8.heap[w2.heap.size]?=(w6.setCell ⟨w2.heap.size,0,none⟩ (.slice ia2 (L.length+1) ic2)).heap[w2.heap.size]?:=(hg.block _ (by omega) (fun e=>by
    obtain ⟨_,c,hc⟩:=hrow _ e.symm
    exact (HT6.out.code.ext HY6.out).noCells (by decide) c hc)).trans (HY6.out.block zc6)
   have K8:KN w2.heap.size w2.heap.size 9 (w6.setCell ⟨w2.heap.size,0,none⟩ (.slice ia2 (L.length+1) ic2)) w8:=((KN.refl _ _ _ _).ext HY6.out).grown hg hrow;have C8:=HT6.out.code.of kC;have O9:=KN.strs hown ((KN.refl w2.heap.size w2.heap.size 197 w8).set (Nat.le_refl _) 1 lv2) (C8.noCells (by decide)) (by decide);have HT9:=hid (HT6.out.knS (K8.set (Nat.le_refl _) 1 lv2) (C8.set 1 lv2) O9);have HR9:=hid (HR6.out.of ((K8.set (Nat.le_refl _) 1 lv2).block _ HR6.out.lt (.inl (by omega))));have HX9:=hid ((K8.set (Nat.le_refl _) 1 lv2).up HX6.out zw2);obtain ⟨la2,lc2,hv2,_⟩:=hown.form
   have hll2:(NL++[s]).length=NL.length+1:=by simp
   rw [hll2] at hv2;subst hv2;have e1':=C8.cell 1 rfl;have g1':=C8.free 1;have c8l:=C8.lt;clear hown hg hrow kC K8 C8 O9 HS6 HY6;go_wp2_with fail;go_roundw
   case rel=>
    have e1:L++[(⟨4,⟨#[]⟩,(k:Nat)⟩:Ins)]=p.trs (k+1):=by rw [HST.out,←HL.out,List.append_assoc]
    have e2:NL++[s]=(p.gs.take (k+1)).map (·.name):=by rw [List.take_add_one,HG1.out,List.map_append,HNL.out];rfl
    have HT10:=HT9.out;rw [e1,e2] at HT10;exact ⟨k+1,_,_,by omega,by go_num,HT10,HR9.out,HX9.out⟩
   case measure=>simp [intOf];omega
  ·obtain rfl:k=p.gs.length:=by omega
   rw [List.take_length] at HT;obtain ⟨ia,ic,rfl,-⟩:=OwnG.form HT.out.ins;obtain ⟨la,lc,rfl,-⟩:=HT.out.loc.form;obtain ⟨cc0,cc1⟩:=HT.out.code.q2;have cl:=HT.out.code.lt;obtain ⟨r0,r1⟩:=HR.out.q2;have f0:=HR.out.free 0;have f1:=HR.out.free 1;have rl:=HR.out.lt;have zX:=HX.out.size;have hS:=hid (HT.out.loc.strs);have hI:=hid (HT.out.ins.inss (Nat.le_refl _) (H64.out _ (Nat.le_refl _)))
   have hcR:p.code.R w2.heap.size wr.heap.size wr (.agg #[.slice ia (p.trs p.gs.length).length ic,.slice la p.gs.length lc]):=⟨_,_,rfl,hI.out,by have h:=hS.out;rw [List.length_map] at h;exact h⟩
   have HcR:=hid (hcR.same ((Same.setLow wr (p:=⟨w.heap.size+1,0,none⟩) (by simp only;omega) (.slice ia (p.trs p.gs.length).length ic)).trans (Same.setLow _ (p:=⟨w.heap.size+1,1,none⟩) (by simp only;omega) (.slice la p.gs.length lc))));have hXo:=HX.out;clear hT hR hx hcR;go_wp2;refine bodyPost_ret (v:=.tuple #[.agg #[.slice ia (p.trs p.gs.length).length ic,.slice la p.gs.length lc],.bool true]) (by simp [results,Tryz.results94,go_sem, *]) rfl ?_;exact ⟨_,rfl,HcR.out.wideC zw2 (by simp),S_⟩
end
theorem info_srfS:(Tryz.prog.info? 42).map (fun i=>i.size)=some 26:=by kernel_rfl
theorem Scn.prg_at {s:Scn} {k q:Nat} (h:s.sh k=(q:Nat)) (hq:q<s.ps.length):s.prg k=s.ps[q]:=by
 unfold Scn.prg;rw [h,Int.toNat_natCast,List.getD_eq_getElem?_getD,List.getElem?_eq_getElem hq]
 rfl
theorem Scn.shade_at {s:Scn} {k q n:Nat} (h:s.sh k=(q:Nat)) (hq:q<s.ps.length) (hn:s.rt k=(n:Nat)):s.shade k=((s.ps[q].code.shade (gridP (s.st k) n s.t)).1,(s.ps[q].code.shade (gridP (s.st k) n s.t)).2.1):=by
 unfold Scn.shade;rw [Scn.prg_at h hq];unfold Scn.grd;rw [hn,Int.toNat_natCast]
theorem Scn.Ok.at {s:Scn} (ho:s.Ok) {k:Nat} (hk:k<s.m):∃q n:Nat,s.sh k=(q:Nat)∧q<s.ps.length∧s.rt k=(n:Nat)∧1≤n∧n≤8∧patB (s.st k)=true∧patB (s.en k)=true:=by
 have h:=srfB_iff.1 (ho.srf k hk);have h1:=h.sh;have h2:=h.rt;exact ⟨(s.sh k).toNat,(s.rt k).toNat,by omega,by omega,by omega,by omega,by omega,h.f,h.g⟩
theorem Scn.Ok.shade {s:Scn} (ho:s.Ok) {k:Nat} (hk:k<s.m):(s.shade k).1.length=(s.rt k).toNat*(s.rt k).toNat∧(s.shade k).2.length=(s.rt k).toNat*(s.rt k).toNat:=by
 obtain ⟨q,n,h1,h2,h3,h4,h5,h6,-⟩:=ho.at hk;have hc:=ho.prg _ (List.getElem_mem h2);obtain ⟨X,Y,e,x,y,-⟩:=(Prg.chkB_K hc).shade hc (gridP_ok (f:=s.st k) (n:=n) (t:=s.t) ⟨h4,h5⟩ ho.t);rw [Scn.shade_at h1 h2 h3,e,h3,Int.toNat_natCast];exact ⟨x,y⟩
theorem Grd.R.formS {g:Grd} {lo hi:Nat} {w:World} {v:Value} (h:g.R lo hi w v):∃a1 c1 a2 c2,v = .agg #[.int .i64 g.n,.slice a1 g.m c1,.int .i64 g.tm,.int .i64 g.t.log,.slice a2 g.t.px.length c2]:=by
 obtain ⟨pu,tu,rfl,_,_,_,hp,hu⟩:=h;obtain ⟨a1,c1,rfl,_⟩:=hp;obtain ⟨a2,c2,rfl,_⟩:=hu;exact ⟨a1,c1,a2,c2,rfl⟩
theorem info_shd:(Tryz.prog.info? 92).map (fun i=>i.size)=some 2:=by kernel_rfl
theorem IntsO.low' {lo lo' hi:Nat} {w:World} {v:Value} {xs:List Int} (h:IntsO lo hi w v xs) (hl:lo'≤lo):IntsO lo' hi w v xs:=⟨h.1.low hl,h.2⟩
theorem IntsO.setLow {lo hi:Nat} {w:World} {v:Value} {xs:List Int} (h:IntsO lo hi w v xs) {p:Addr} (hp:p.block<lo) (u:Value):IntsO lo hi (w.setCell p u) v xs:=⟨h.1.setLow hp u,h.2⟩
theorem IntsO.form {lo hi:Nat} {w:World} {v:Value} {xs:List Int} (h:IntsO lo hi w v xs):∃a c,v = .slice a xs.length c:=by
 obtain ⟨a,c,e,_⟩:=h.1.form;exact ⟨a,c,e⟩
theorem iShade_any (s:Scn) (lo hi:Nat) (v:Value) (k:Nat) (w:World) (hv:s.R lo hi w v) (hh:hi≤w.heap.size) (ho:s.Ok) (hsm:s.small) (hk:k<s.m) :
  Calls Tryz.prog 41 #[v,.int .i64 (k:Nat)] w fun e w'=>∃r1 r2,e = .returned (.agg #[r1,r2])∧∃h,w.heap.size≤h∧h≤w'.heap.size∧IntsO w.heap.size h w' r1 (s.shade k).1∧IntsO h w'.heap.size w' r2 (s.shade k).2∧Ext w w':=by
 obtain ⟨q,n,hsh,hq,hrt,hn1,hn8,hpf,hpg⟩:=ho.at hk;obtain ⟨a1,c1,a2,c2,a3,c3,rfl,-,hlog,-,h1,h2,h3⟩:=hv.form;have hcap:=h3.cap;have hle:=h3.le;have le2:=h2.le;have cap2:=h2.cap;obtain ⟨b,off,rfl,hb1,hb2,hcell⟩:=h3.at hk (by decide)
 obtain ⟨f,hf⟩:∃f,s.st k=f:=⟨_,rfl⟩
 obtain ⟨g,hg⟩:∃f,s.en k=f:=⟨_,rfl⟩
 have bw:b<w.heap.size:=by omega
 have hcs:w.rangeAt b (off+k*26) ((List.range 26).map fun j=>.int .i64 (s.F (k*26+j))):=by
  intro j v hj;obtain ⟨h1,h2⟩:=List.getElem?_eq_some_iff.1 hj;simp only [List.length_map,List.length_range] at h1;simp only [List.getElem_map,List.getElem_range] at h2;subst h2;exact hcell j h1
 change w.rangeAt b (off+k*26) [.int .i64 (s.st k 0),.int .i64 (s.st k 1),.int .i64 (s.st k 2),.int .i64 (s.st k 3),.int .i64 (s.st k 4),.int .i64 (s.st k 5),.int .i64 (s.st k 6),.int .i64 (s.st k 7),.int .i64 (s.st k 8),.int .i64 (s.st k 9),.int .i64 (s.st k 10),.int .i64 (s.st k 11),.int .i64 (s.en k 0),.int .i64 (s.en k 1),.int .i64 (s.en k 2),.int .i64 (s.en k 3),.int .i64 (s.en k 4),.int .i64 (s.en k 5),.int .i64 (s.en k 6),.int .i64 (s.en k 7),.int .i64 (s.en k 8),.int .i64 (s.en k 9),.int .i64 (s.en k 10),.int .i64 (s.en k 11),.int .i64 (s.sh k),.int .i64 (s.rt k)] at hcs;simp only [hf,hg,hsh,hrt] at hcs;have hshd:=Scn.shade_at hsh hq hrt;rw [hf] at hshd hpf;have hchk:=ho.prg _ (List.getElem_mem hq);have hsp:=hsm _ (List.getElem_mem hq);have htok:=ho.t;have H1:=hid h1;have H2:=hid h2;have HCS:=hid hcs;have HLOG:=hid hlog;have hTR:=hid (show ∀W:World,Ext w W→TexR lo hi W (.agg #[.int .i64 s.t.log,.slice a1 s.t.px.length c1]) s.t from fun W x=>⟨_,rfl,hlog,(h1.shut).ext hh x⟩);have HCH:=hid hchk;have HSP:=hid hsp;have HTO:=hid htok;have HPF:=hid hpf;have HSD:=hid hshd;have x2:Ext w ((w.alloc (.cells #[.int .i64 s.c.w,.int .i64 s.c.h,.int .i64 s.c.zoom,.int .i64 s.c.near,.bool s.c.deep,.int .i64 s.c.lens,.int .i64 s.c.focus,.int .i64 s.t.log,.slice a1 s.t.px.length c1,.slice a2 s.ps.length c2,.slice (some ⟨b,off,none⟩) s.m c3,.int .i64 s.side] 31)).alloc (.cells #[.slice none 0 0,.slice none 0 0] 92)):=X_;have bS:=(Blk.new w 31 [.int .i64 s.c.w,.int .i64 s.c.h,.int .i64 s.c.zoom,.int .i64 s.c.near,.bool s.c.deep,.int .i64 s.c.lens,.int .i64 s.c.focus,.int .i64 s.t.log,.slice a1 s.t.px.length c1,.slice a2 s.ps.length c2,.slice (some ⟨b,off,none⟩) s.m c3,.int .i64 s.side]).ext (show Ext (w.alloc (.cells #[.int .i64 s.c.w,.int .i64 s.c.h,.int .i64 s.c.zoom,.int .i64 s.c.near,.bool s.c.deep,.int .i64 s.c.lens,.int .i64 s.c.focus,.int .i64 s.t.log,.slice a1 s.t.px.length c1,.slice a2 s.ps.length c2,.slice (some ⟨b,off,none⟩) s.m c3,.int .i64 s.side] 31)) ((w.alloc (.cells #[.int .i64 s.c.w,.int .i64 s.c.h,.int .i64 s.c.zoom,.int .i64 s.c.near,.bool s.c.deep,.int .i64 s.c.lens,.int .i64 s.c.focus,.int .i64 s.t.log,.slice a1 s.t.px.length c1,.slice a2 s.ps.length c2,.slice (some ⟨b,off,none⟩) s.m c3,.int .i64 s.side] 31)).alloc (.cells #[.slice none 0 0,.slice none 0 0] 92)) from X_)
 have bH:Blk ((w.alloc (.cells #[.int .i64 s.c.w,.int .i64 s.c.h,.int .i64 s.c.zoom,.int .i64 s.c.near,.bool s.c.deep,.int .i64 s.c.lens,.int .i64 s.c.focus,.int .i64 s.t.log,.slice a1 s.t.px.length c1,.slice a2 s.ps.length c2,.slice (some ⟨b,off,none⟩) s.m c3,.int .i64 s.side] 31)).alloc (.cells #[.slice none 0 0,.slice none 0 0] 92)) (w.heap.size+1) 92 [.slice none 0 0,.slice none 0 0]:=by
  have h:=Blk.new (w.alloc (.cells #[.int .i64 s.c.w,.int .i64 s.c.h,.int .i64 s.c.zoom,.int .i64 s.c.near,.bool s.c.deep,.int .i64 s.c.lens,.int .i64 s.c.focus,.int .i64 s.t.log,.slice a1 s.t.px.length c1,.slice a2 s.ps.length c2,.slice (some ⟨b,off,none⟩) s.m c3,.int .i64 s.side] 31)) 92 [.slice none 0 0,.slice none 0 0];rw [World.size_alloc] at h;exact h
 have z2:((w.alloc (.cells #[.int .i64 s.c.w,.int .i64 s.c.h,.int .i64 s.c.zoom,.int .i64 s.c.near,.bool s.c.deep,.int .i64 s.c.lens,.int .i64 s.c.focus,.int .i64 s.t.log,.slice a1 s.t.px.length c1,.slice a2 s.ps.length c2,.slice (some ⟨b,off,none⟩) s.m c3,.int .i64 s.side] 31)).alloc (.cells #[.slice none 0 0,.slice none 0 0] 92)).heap.size=w.heap.size+2:=by simp
 clear hv h1 h2 h3 hcs hchk hsp htok hpf hpg hshd hsh hrt hcell hf hg hlog;go_enter Tryz.func41,Tryz.ntmps41;go_upto_region 1 with fail
 obtain ⟨W0,hW0⟩:∃W0,((w.alloc (.cells #[.int .i64 s.c.w,.int .i64 s.c.h,.int .i64 s.c.zoom,.int .i64 s.c.near,.bool s.c.deep,.int .i64 s.c.lens,.int .i64 s.c.focus,.int .i64 s.t.log,.slice a1 s.t.px.length c1,.slice a2 s.ps.length c2,.slice (some ⟨b,off,none⟩) s.m c3,.int .i64 s.side] 31)).alloc (.cells #[.slice none 0 0,.slice none 0 0] 92))=W0:=⟨_,rfl⟩
 rw [hW0] at x2 bS bH z2;rw [hW0];clear hW0;have HX0:=hid x2;have HS:=hid bS;have HH:=hid bH;have Z2:=hid z2;have hc0:W0.rangeAt b (off+k*26) [.int .i64 (f 0),.int .i64 (f 1),.int .i64 (f 2),.int .i64 (f 3),.int .i64 (f 4),.int .i64 (f 5),.int .i64 (f 6),.int .i64 (f 7),.int .i64 (f 8),.int .i64 (f 9),.int .i64 (f 10),.int .i64 (f 11),.int .i64 (g 0),.int .i64 (g 1),.int .i64 (g 2),.int .i64 (g 3),.int .i64 (g 4),.int .i64 (g 5),.int .i64 (g 6),.int .i64 (g 7),.int .i64 (g 8),.int .i64 (g 9),.int .i64 (g 10),.int .i64 (g 11),.int .i64 (q:Nat),.int .i64 (n:Nat)]:=fun j v hj=>(x2.cells.1 b _ bw).trans (HCS.out j v hj);have HC0:=hid hc0;have d10:=bS.cell 10 rfl;have ls:=bS.lt
 have lb:b<W0.heap.size:=by omega
 clear x2 bS bH z2 hc0;go_upto_region 2 with (first|(show wpList _ _ _ [_,_,_] _ _;refine wpList_load_mid rfl _ _ rfl b (off+k*26) rfl [.int .i64 (f 0),.int .i64 (f 1),.int .i64 (f 2),.int .i64 (f 3),.int .i64 (f 4),.int .i64 (f 5),.int .i64 (f 6),.int .i64 (f 7),.int .i64 (f 8),.int .i64 (f 9),.int .i64 (f 10),.int .i64 (f 11),.int .i64 (g 0),.int .i64 (g 1),.int .i64 (g 2),.int .i64 (g 3),.int .i64 (g 4),.int .i64 (g 5),.int .i64 (g 6),.int .i64 (g 7),.int .i64 (g 8),.int .i64 (g 9),.int .i64 (g 10),.int .i64 (g 11),.int .i64 (q:Nat),.int .i64 (n:Nat)] _ HC0.out Tryz.underlying42 rfl info_srfS ?_)|(show wpList _ _ _ [_] _ _;refine wpList_store_fresh _ _ _ rfl 42 (.tmp 5) (.tmp 17) rfl rfl #[.int .i64 (f 0),.int .i64 (f 1),.int .i64 (f 2),.int .i64 (f 3),.int .i64 (f 4),.int .i64 (f 5),.int .i64 (f 6),.int .i64 (f 7),.int .i64 (f 8),.int .i64 (f 9),.int .i64 (f 10),.int .i64 (f 11),.int .i64 (g 0),.int .i64 (g 1),.int .i64 (g 2),.int .i64 (g 3),.int .i64 (g 4),.int .i64 (g 5),.int .i64 (g 6),.int .i64 (g 7),.int .i64 (g 8),.int .i64 (g 9),.int .i64 (g 10),.int .i64 (g 11),.int .i64 (q:Nat),.int .i64 (n:Nat)] W0.heap.size rfl rfl rfl (by kernel_rfl) (by kernel_rfl) (by kernel_rfl) ?_));have xA:Ext W0 (W0.alloc (.cells #[.int .i64 (f 0),.int .i64 (f 1),.int .i64 (f 2),.int .i64 (f 3),.int .i64 (f 4),.int .i64 (f 5),.int .i64 (f 6),.int .i64 (f 7),.int .i64 (f 8),.int .i64 (f 9),.int .i64 (f 10),.int .i64 (f 11),.int .i64 (g 0),.int .i64 (g 1),.int .i64 (g 2),.int .i64 (g 3),.int .i64 (g 4),.int .i64 (g 5),.int .i64 (g 6),.int .i64 (g 7),.int .i64 (g 8),.int .i64 (g 9),.int .i64 (g 10),.int .i64 (g 11),.int .i64 (q:Nat),.int .i64 (n:Nat)] 42)):=X_;have bA:=Blk.new W0 42 [.int .i64 (f 0),.int .i64 (f 1),.int .i64 (f 2),.int .i64 (f 3),.int .i64 (f 4),.int .i64 (f 5),.int .i64 (f 6),.int .i64 (f 7),.int .i64 (f 8),.int .i64 (f 9),.int .i64 (f 10),.int .i64 (f 11),.int .i64 (g 0),.int .i64 (g 1),.int .i64 (g 2),.int .i64 (g 3),.int .i64 (g 4),.int .i64 (g 5),.int .i64 (g 6),.int .i64 (g 7),.int .i64 (g 8),.int .i64 (g 9),.int .i64 (g 10),.int .i64 (g 11),.int .i64 (q:Nat),.int .i64 (n:Nat)]
 obtain ⟨A,hA⟩:∃A,W0.heap.size=A:=⟨_,rfl⟩
 obtain ⟨W1,hW1⟩:∃W1,W0.alloc (.cells #[.int .i64 (f 0),.int .i64 (f 1),.int .i64 (f 2),.int .i64 (f 3),.int .i64 (f 4),.int .i64 (f 5),.int .i64 (f 6),.int .i64 (f 7),.int .i64 (f 8),.int .i64 (f 9),.int .i64 (f 10),.int .i64 (f 11),.int .i64 (g 0),.int .i64 (g 1),.int .i64 (g 2),.int .i64 (g 3),.int .i64 (g 4),.int .i64 (g 5),.int .i64 (g 6),.int .i64 (g 7),.int .i64 (g 8),.int .i64 (g 9),.int .i64 (g 10),.int .i64 (g 11),.int .i64 (q:Nat),.int .i64 (n:Nat)] 42)=W1:=⟨_,rfl⟩
 rw [hW1] at xA bA ⊢;rw [hA] at bA ls lb ⊢;have X1:=hid (HX0.out.trans xA);have S1:=HS.out.ext xA;have HS1:=hid S1;have HH1:=hid (HH.out.ext xA);have HA1:=hid bA;have ZA:=hid (show w.heap.size+2≤A by have:=Z2.out;omega);have d9:=S1.cell 9 rfl;have ls1:=S1.lt;have e24:=bA.cell 24 rfl;have lA:=bA.lt;obtain ⟨b2,off2,na,nc,ga,gc,rfl,hbw2,hbr2,k1,k2,hR⟩:=H2.out.at hq X1.out hh;have HR:=hid hR;clear hW1 hA xA bA S1 hR d10 ls lb HS HH HX0 HC0 HCS;go_wp2_with fail;refine (iCompile_any lo hi _ (s.ps[q]'hq) _ HR.out (Nat.le_trans hh X1.out.size) HCH.out HSP.out.1 HSP.out.2.2).mono ?_;rintro e w5 ⟨u,rfl,R5,x5⟩
 obtain ⟨K,hK⟩:∃K,(s.ps[q]'hq).code=K:=⟨_,rfl⟩
 have HKK:=hid (show K.small by rw [←hK];exact ⟨by have:=code_len (Prg.chkB_K HCH.out);omega,by show ((s.ps[q]'hq).gs.map (·.name)).length≤1048576;rw [List.length_map];exact HSP.out.2.2⟩);have HKD:=hid hK;rw [hK] at R5;obtain ⟨a5,c5,a6,c6,rfl,-,-⟩:=R5.form;have y5:Ext w5 (w5.alloc (.cells #[.slice a5 K.xs.length c5,.slice a6 K.ls.length c6] 126)):=X_;have bC:=Blk.new w5 126 [.slice a5 K.xs.length c5,.slice a6 K.ls.length c6];have HC5:=hid (R5.ext (Nat.le_refl _) y5);have X5:=hid (X1.out.trans (x5.trans y5));have S5:=HS1.out.ext (x5.trans y5);have HS5:=hid S5;have HH5:=hid (HH1.out.ext (x5.trans y5));have A5:=HA1.out.ext (x5.trans y5);have HA5:=hid A5;have HB5:=hid bC;have z5:=(x5.trans y5).size;have zw5:=y5.size;have zx5:=x5.size;have d7:=S5.cell 7 rfl;have d8:=S5.cell 8 rfl;have ls5:=S5.lt;obtain ⟨e0,e1,e2,e3,e4,e5,e6,e7,e8,e9,e10,e11⟩:=A5.q12;have e25:=A5.cell 25 rfl;have lA5:=A5.lt;have ZF:=hid (show w.heap.size+2≤(w5.alloc (.cells #[.slice a5 K.xs.length c5,.slice a6 K.ls.length c6] 126)).heap.size by have:=ZA.out;omega);clear R5 x5 y5 bC S5 A5 d9 ls1 e24 lA k1 k2 hK HS1 HH1 HA1 HR;go_wp2_with fail;refine (iGridOf_any lo hi f HPF.out n ⟨hn1,hn8⟩ _ s.t _ (hTR.out _ X5.out) (Nat.le_trans hh X5.out.size) HTO.out).mono ?_;rintro e w6 ⟨gv,rfl,R6,x6⟩
 obtain ⟨g1,g2,hg⟩:∃g:Grd,gridP f n s.t=g∧True:=⟨_,rfl,trivial⟩
 have HGD:=hid g2;rw [g2] at R6;obtain ⟨a7,c7,a8,c8,rfl⟩:=Grd.R.formS R6;have y6:Ext w6 (w6.alloc (.cells #[.int .i64 g1.n,.slice a7 g1.m c7,.int .i64 g1.tm,.int .i64 g1.t.log,.slice a8 g1.t.px.length c8] 135)):=X_;have bG:=Blk.new w6 135 [.int .i64 g1.n,.slice a7 g1.m c7,.int .i64 g1.tm,.int .i64 g1.t.log,.slice a8 g1.t.px.length c8];have HG6:=hid (R6.ext (Nat.le_refl _) y6);have X6:=hid (X5.out.trans (x6.trans y6));have HH6:=hid (HH5.out.ext (x6.trans y6));have B6:=HB5.out.ext (x6.trans y6);have HC6:=hid (HC5.out.ext (by have:=zw5;omega) (x6.trans y6));have z6:=(x6.trans y6).size;have zw6:=y6.size;obtain ⟨f0,f1⟩:=B6.q2;have lB6:=B6.lt;obtain ⟨i0,i1,i2,i3,i4⟩:=bG.q5;have lG:=bG.lt;clear R6 x6 y6 bG B6 hg g2 d7 d8 ls5 e0 e1 e2 e3 e4 e5 e6 e7 e8 e9 e10 e11 e25 lA5;go_wp2_with fail
 have hS:∃X Y bb,K.shade g1=(X,Y,bb):=⟨_,_,_,rfl⟩
 obtain ⟨X,Y,bb,hXY⟩:=hS
 have hXY2:(s.shade k).1=X∧(s.shade k).2=Y:=by
  rw [HSD.out,HKD.out,HGD.out,hXY];exact ⟨rfl,rfl⟩
 have HE:=hid hXY2;have HXY:=hid hXY;clear hXY hXY2;refine (iShadeGrid_any _ _ _ _ _ _ K g1 _ HXY.out HC6.out (by omega) HG6.out (by omega) HKK.out).mono ?_;rintro e w7 ⟨r1,r2,rfl,h,hh1,hh2,O1,O2,x7⟩;obtain ⟨ra,rc,rfl⟩:=O1.form;obtain ⟨sa,sc,rfl⟩:=O2.form;have B7:=HH6.out.ext x7;have HB7:=hid B7;have X7:=hid (X6.out.trans x7);have HO1:=hid O1;have HO2:=hid O2;obtain ⟨p0,p1⟩:=B7.q2;have q0:=B7.free 0;have q1:=B7.free 1;have lB7:=B7.lt;clear B7 O1 O2 x7 f0 f1 lB6 i0 i1 i2 i3 i4 lG;go_wp2;have bF:=(HB7.out.set 0 (.slice ra X.length rc)).set 1 (.slice sa Y.length sc);refine ret_box rfl rfl bF _ Tryz.underlying92 rfl info_shd rfl ?_;have ZA2:=ZF.out;refine ⟨_,_,rfl,h,by omega,by rw [World.size_setCell,World.size_setCell];exact hh2,?_,?_,?_⟩
 ·rw [HE.out.1]
  exact ((HO1.out.setLow (p:=⟨w.heap.size+1,0,none⟩) (by simp only;omega) _).setLow (p:=⟨w.heap.size+1,1,none⟩) (by simp only;omega) _).low' (by omega)
 ·rw [HE.out.2,World.size_setCell,World.size_setCell]
  exact (HO2.out.setLow (p:=⟨w.heap.size+1,0,none⟩) (by simp only;omega) _).setLow (p:=⟨w.heap.size+1,1,none⟩) (by simp only;omega) _
 ·exact Ext.setCell (Ext.setCell X7.out (by simp only;omega) _) (by simp only;omega) _
theorem Scn.R.formV {s:Scn} {lo hi:Nat} {w:World} {v:Value} (h:s.R lo hi w v):∃a1 c1 a2 c2 a3 c3,v = .agg #[.int .i64 s.c.w,.int .i64 s.c.h,.int .i64 s.c.zoom,.int .i64 s.c.near,.bool s.c.deep,.int .i64 s.c.lens,.int .i64 s.c.focus,.int .i64 s.t.log,.slice a1 s.t.px.length c1,.slice a2 s.ps.length c2,.slice a3 s.m c3,.int .i64 s.side]:=by
 obtain ⟨a1,c1,a2,c2,a3,c3,e,_⟩:=h.form;exact ⟨a1,c1,a2,c2,a3,c3,e⟩
theorem Scn.R.mlt {s:Scn} {lo hi:Nat} {w:World} {v:Value} (h:s.R lo hi w v):(s.m:Int)≤9223372036854775807:=by
 obtain ⟨a1,c1,a2,c2,a3,c3,e,-,-,-,-,-,h3⟩:=h.form;have h1:=h3.le;have h2:=h3.cap;omega
theorem iHasSurface_any (s:Scn) (lo hi:Nat) (v:Value) (k:Int) (w:World) (hv:s.R lo hi w v) (hh:hi≤w.heap.size) (hsm:s.small) {r:Bool} (hr:(s.okB&&inB k 0 ((s.m:Int) - 1))=r) :
  Calls Tryz.prog 38 #[v,.int .i64 k] w fun e w'=>e = .returned (.bool r)∧Ext w w':=by
 have HV:=hid hv;have hm:=hv.mlt;obtain ⟨a1,c1,a2,c2,a3,c3,rfl⟩:=hv.formV;have HSM:=hid hsm;have x1:Ext w (w.alloc (.cells #[.int .i64 s.c.w,.int .i64 s.c.h,.int .i64 s.c.zoom,.int .i64 s.c.near,.bool s.c.deep,.int .i64 s.c.lens,.int .i64 s.c.focus,.int .i64 s.t.log,.slice a1 s.t.px.length c1,.slice a2 s.ps.length c2,.slice a3 s.m c3,.int .i64 s.side] 31)):=X_;have bS:=Blk.new w 31 [.int .i64 s.c.w,.int .i64 s.c.h,.int .i64 s.c.zoom,.int .i64 s.c.near,.bool s.c.deep,.int .i64 s.c.lens,.int .i64 s.c.focus,.int .i64 s.t.log,.slice a1 s.t.px.length c1,.slice a2 s.ps.length c2,.slice a3 s.m c3,.int .i64 s.side];have HX:=hid x1;have HB:=hid bS
 obtain ⟨b,hb⟩:∃b,s.okB=b:=⟨_,rfl⟩
 rw [hb] at hr;have HO:=hid hb;clear hv hsm x1 bS hb
 cases b
 ·have hr2:false=r:=hr
  subst hr2;go_enter Tryz.func38,Tryz.ntmps38;go_wp2_with fail;refine (iIsValidScene_any s lo hi _ _ (HV.out.ext hh HX.out) (Nat.le_trans hh HX.out.size) HSM.out).mono ?_;rw [HO.out];rintro e w3 ⟨rfl,x3⟩;have y3:=HX.out.trans x3;go_wp2;go_ret;exact ⟨rfl,y3⟩
 ·have hr2:inB k 0 ((s.m:Int) - 1)=r:=hr
  have HR:=hid hr2;clear hr hr2;go_enter Tryz.func38,Tryz.ntmps38;go_wp2_with fail;refine (iIsValidScene_any s lo hi _ _ (HV.out.ext hh HX.out) (Nat.le_trans hh HX.out.size) HSM.out).mono ?_;rw [HO.out];rintro e w3 ⟨rfl,x3⟩;have b3:=HB.out.ext x3;have y3:=hid (HX.out.trans x3);have c10:=b3.cell 10 rfl;have l3:=b3.lt;clear b3 x3;go_wp2_with (go_at_call 54;refine (within_val HR.out _).mono ?_;rintro e w4 ⟨rfl,rfl⟩);go_ret;exact ⟨rfl,y3.out⟩
theorem iSurfaceFragments_any (s:Scn) (lo hi:Nat) (v:Value) (k:Nat) (p:Smp) (w:World) (hv:s.R lo hi w v) (hh:hi≤w.heap.size) (ho:s.Ok) (hsm:s.small) (hk:k<s.m) (hp:p.okB s.c=true) :
  Calls Tryz.prog 11 #[v,.int .i64 (k:Nat),.agg #[.int .i64 p.x,.int .i64 p.y,.int .i64 p.t,.int .i64 p.lx,.int .i64 p.ly]] w fun e w'=>∃r,e = .returned r∧OwnG Frag.cs w.heap.size 47 5 w' r (s.hits k p)∧Ext w w':=by
 have HV:=hid hv;have hm:=hv.mlt;obtain ⟨a1,c1,a2,c2,a3,c3,rfl⟩:=hv.formV;obtain ⟨q,n,h1,h2,h3,h4,h5,h6,-⟩:=ho.at hk;have hlen:=ho.shade hk;rw [h3,Int.toNat_natCast] at hlen
 have hb:(s.okB&&inB (k:Int) 0 ((s.m:Int) - 1))=true:=by
  rw [Scn.okB_iff.2 ho,Bool.true_and,inB_iff];omega
 have HSM:=hid hsm;have HBB:=hid hb;have HP:=hid hp;have HO:=hid ho;have HRT:=hid h3;have HLEN:=hid hlen;have x2:Ext w ((w.alloc (.cells #[.int .i64 s.c.w,.int .i64 s.c.h,.int .i64 s.c.zoom,.int .i64 s.c.near,.bool s.c.deep,.int .i64 s.c.lens,.int .i64 s.c.focus,.int .i64 s.t.log,.slice a1 s.t.px.length c1,.slice a2 s.ps.length c2,.slice a3 s.m c3,.int .i64 s.side] 31)).alloc (.cells #[.int .i64 p.x,.int .i64 p.y,.int .i64 p.t,.int .i64 p.lx,.int .i64 p.ly] 34)):=X_;have bS:=(Blk.new w 31 [.int .i64 s.c.w,.int .i64 s.c.h,.int .i64 s.c.zoom,.int .i64 s.c.near,.bool s.c.deep,.int .i64 s.c.lens,.int .i64 s.c.focus,.int .i64 s.t.log,.slice a1 s.t.px.length c1,.slice a2 s.ps.length c2,.slice a3 s.m c3,.int .i64 s.side]).ext (show Ext (w.alloc (.cells #[.int .i64 s.c.w,.int .i64 s.c.h,.int .i64 s.c.zoom,.int .i64 s.c.near,.bool s.c.deep,.int .i64 s.c.lens,.int .i64 s.c.focus,.int .i64 s.t.log,.slice a1 s.t.px.length c1,.slice a2 s.ps.length c2,.slice a3 s.m c3,.int .i64 s.side] 31)) ((w.alloc (.cells #[.int .i64 s.c.w,.int .i64 s.c.h,.int .i64 s.c.zoom,.int .i64 s.c.near,.bool s.c.deep,.int .i64 s.c.lens,.int .i64 s.c.focus,.int .i64 s.t.log,.slice a1 s.t.px.length c1,.slice a2 s.ps.length c2,.slice a3 s.m c3,.int .i64 s.side] 31)).alloc (.cells #[.int .i64 p.x,.int .i64 p.y,.int .i64 p.t,.int .i64 p.lx,.int .i64 p.ly] 34)) from X_)
 have bP:Blk ((w.alloc (.cells #[.int .i64 s.c.w,.int .i64 s.c.h,.int .i64 s.c.zoom,.int .i64 s.c.near,.bool s.c.deep,.int .i64 s.c.lens,.int .i64 s.c.focus,.int .i64 s.t.log,.slice a1 s.t.px.length c1,.slice a2 s.ps.length c2,.slice a3 s.m c3,.int .i64 s.side] 31)).alloc (.cells #[.int .i64 p.x,.int .i64 p.y,.int .i64 p.t,.int .i64 p.lx,.int .i64 p.ly] 34)) (w.heap.size+1) 34 [.int .i64 p.x,.int .i64 p.y,.int .i64 p.t,.int .i64 p.lx,.int .i64 p.ly]:=by
  have h:=Blk.new (w.alloc (.cells #[.int .i64 s.c.w,.int .i64 s.c.h,.int .i64 s.c.zoom,.int .i64 s.c.near,.bool s.c.deep,.int .i64 s.c.lens,.int .i64 s.c.focus,.int .i64 s.t.log,.slice a1 s.t.px.length c1,.slice a2 s.ps.length c2,.slice a3 s.m c3,.int .i64 s.side] 31)) 34 [.int .i64 p.x,.int .i64 p.y,.int .i64 p.t,.int .i64 p.lx,.int .i64 p.ly];rw [World.size_alloc] at h;exact h
 have z2:((w.alloc (.cells #[.int .i64 s.c.w,.int .i64 s.c.h,.int .i64 s.c.zoom,.int .i64 s.c.near,.bool s.c.deep,.int .i64 s.c.lens,.int .i64 s.c.focus,.int .i64 s.t.log,.slice a1 s.t.px.length c1,.slice a2 s.ps.length c2,.slice a3 s.m c3,.int .i64 s.side] 31)).alloc (.cells #[.int .i64 p.x,.int .i64 p.y,.int .i64 p.t,.int .i64 p.lx,.int .i64 p.ly] 34)).heap.size=w.heap.size+2:=by simp
 have HX:=hid x2;have HS:=hid bS;have HM:=hid bP;clear hv hsm hb hp ho h1 h2 h3 h6 hlen x2 bS bP z2;go_enter Tryz.func11,Tryz.ntmps11;go_wp2_with fail;refine (iHasSurface_any s lo hi _ (k:Nat) _ (HV.out.ext hh HX.out) (Nat.le_trans hh HX.out.size) HSM.out HBB.out).mono ?_;rintro e w3 ⟨rfl,x3⟩;have b3:=HS.out.ext x3;have m3:=HM.out.ext x3;have X3:=hid (HX.out.trans x3);obtain ⟨c0,c1,c2,c3,c4,c5,c6,c7,c8,c9,c10,c11⟩:=b3.q12;obtain ⟨d0,d1,d2,d3,d4⟩:=m3.q5;have l3:=b3.lt;have lm3:=m3.lt;have HS3:=hid b3;have HM3:=hid m3;clear b3 m3 x3 HX HS HM;go_wp2_with fail;refine (iIsValidSample_any s.c p _).mono ?_;rw [HP.out];rintro e w4 ⟨rfl,x4⟩;have b4:=HS3.out.ext x4;have m4:=HM3.out.ext x4;have X4:=hid (X3.out.trans x4);clear c0 c1 c2 c3 c4 c5 c6 c7 c8 c9 c10 c11 d0 d1 d2 d3 d4 l3 lm3 x4;obtain ⟨c0,c1,c2,c3,c4,c5,c6,c7,c8,c9,c10,c11⟩:=b4.q12;obtain ⟨d0,d1,d2,d3,d4⟩:=m4.q5;have l3:=b4.lt;have lm3:=m4.lt;clear b4 m4;go_upto_region 3 with fail;refine wp_region_stages [([0,1,2,3,4],5),([],6),([],7)] 7 w4.heap.size (by kernel_rfl) (by kernel_rfl) ?_;refine wpStages_cons ?_;simp only [List.filterMap_cons,List.filterMap_nil,List.getElem?_toArray,List.getElem?_cons_zero,List.getElem?_cons_succ]
 show wpQuiet _ _ _ _ [_,_,_,_,_] _
 repeat (go_big_quiet_step (fail))
 refine wpQuiet_nil ⟨_,rfl,fun K hK=>?_⟩;go_wp2_with fail;have xd:Ext w w4.drew:=X4.out.trans (Ext.drew (Ext.refl _));refine (iShade_any s lo hi _ k _ (HV.out.ext hh xd) (Nat.le_trans hh xd.size) HO.out HSM.out hk).mono ?_;rintro e w5 ⟨r1,r2,rfl,h,hh1,hh2,O1,O2,x5⟩;have y5:Ext w4 w5:=Ext.trans (Ext.drew (Ext.refl _)) x5;obtain ⟨ra,rc,rfl⟩:=O1.form;obtain ⟨sa,sc,rfl⟩:=O2.form;have X5:=hid (X4.out.trans y5);have I1:=hid (O1.1.ints.wide (Nat.zero_le _) (Nat.le_refl _));have I2:=hid (O2.1.ints.wide (Nat.zero_le _) (Nat.le_refl _));clear O1 O2 x5 xd hh1 hh2;go_wp2_with fail;refine hK _ _ (.inr (y5.same (Nat.le_refl _))) ?_;clear hK K;refine st_ fun K hK=>?_;go_wp2_with fail;refine (iHits_any s lo hi _ k p n _ _ _ _ _ (HV.out.ext hh X5.out) (Nat.le_trans hh X5.out.size) hk HRT.out ⟨h4,h5⟩ HP.out I1.out I2.out HLEN.out.1 HLEN.out.2).mono ?_;rintro e w6 ⟨r,rfl,O6,x6⟩;obtain ⟨ta,tc,rfl,tl⟩:=OwnG.form O6;have y6:=y5.trans x6;have X6:=hid (X5.out.trans x6);have HO6:=hid O6;have hE:=hid (show hitsL s.c (midP (s.st k) (s.en k) p.t) n p (k:Nat) (s.shade k).1 (s.shade k).2=s.hits k p by unfold Scn.hits;rw [HRT.out,Int.toNat_natCast]);clear O6 x6 tl;go_wp2_with fail;refine hK _ _ (.inr (y6.same (Nat.le_refl _))) ?_;clear hK K y5 y6;refine st_ fun K hK=>?_;go_wp2_with fail;refine hK _ _ (.inl (by trivial)) ?_;clear hK K;refine wpStages_nil ?_;go_wp2;go_ret;refine ⟨_,rfl,?_,X6.out⟩;have h6:=OwnG.low HO6.out (lo':=w.heap.size) X5.out.size;rw [hE.out] at h6 ⊢;exact h6
def max3 (a b:Int):Int:=if a<b then b else a
def loP (f:Nat→Int) (i:Nat):Int:=min3 (min3 (min3 (cl (f i)) (cl (f (i+3)))) (cl (f (i+6)))) (cl (f (i+9)))
def hiP (f:Nat→Int) (i:Nat):Int:=max3 (max3 (max3 (cl (f i)) (cl (f (i+3)))) (cl (f (i+6)))) (cl (f (i+9)))
def loS (f g:Nat→Int) (i:Nat):Int:=min3 (loP f i) (loP g i)
def hiS (f g:Nat→Int) (i:Nat):Int:=max3 (hiP f i) (hiP g i)
theorem fnMin_val {m n c:Int} (h:min3 m n=c) (w:World):Calls Tryz.prog 207 #[.int .i64 m,.int .i64 n] w fun e w'=>e = .returned (.int .i64 c)∧w=w':=by
 have H:=hid h;clear h;go_enter Tryz.func207,Tryz.ntmps207;go_wp2
 all_goals go_ret
 all_goals
  refine ⟨?_,rfl⟩;rw [←H.out];unfold min3;refine ret_int ?_
  split <;> omega
theorem withMin_val {x y z k l m a b c:Int} (ha:min3 x k=a) (hb:min3 y l=b) (hc:min3 z m=c) (w:World) :
  Calls Tryz.prog 171 #[.agg #[.int .i64 x,.int .i64 y,.int .i64 z],.agg #[.int .i64 k,.int .i64 l,.int .i64 m],.func (.func 207) #[] #[]] w fun e w'=>e = .returned (.agg #[.int .i64 a,.int .i64 b,.int .i64 c])∧Ext w w':=by
 have HA:=hid ha;have HB:=hid hb;have HC:=hid hc;clear ha hb hc;go_enter Tryz.func171,Tryz.ntmps171;go_wp2;refine wp_region_stages [([0,1,2,3,4,6,7,8,9,10,12,13,14,15,16],5),([],11),([],17),([18],19)] 19 (w.heap.size+1+1+1) (by kernel_rfl) (by kernel_rfl) ?_;refine wpStages_cons ?_;simp only [List.filterMap_cons,List.filterMap_nil,List.getElem?_toArray,List.getElem?_cons_zero,List.getElem?_cons_succ]
 show wpQuiet _ _ _ _ [_,_,_,_,_,_,_,_,_,_,_,_,_,_,_] _
 repeat (go_big_quiet_step (fail))
 refine wpQuiet_nil ⟨_,rfl,fun K hK=>?_⟩;go_wp2_with fail;refine (fnMin_val HA.out _).mono ?_;rintro e w1 ⟨rfl,rfl⟩;go_wp2_with fail;refine hK _ _ (.inr (fun b _ hb=>Ext.block X_ (by simp;omega))) ?_;clear hK K;refine wpStages_cons ?_;simp only [List.filterMap_nil]
 show wpQuiet _ _ _ _ [] _
 try simp only [Act.put,List.setIfInBounds_toArray,List.set_cons_succ,List.set_cons_zero]
 refine wpQuiet_nil ⟨_,rfl,fun K hK=>?_⟩;go_wp2_with fail;refine (fnMin_val HB.out _).mono ?_;rintro e w1 ⟨rfl,rfl⟩;go_wp2_with fail;refine hK _ _ (.inr (fun b _ hb=>Ext.block X_ (by simp;omega))) ?_;clear hK K;refine wpStages_cons ?_;simp only [List.filterMap_nil]
 show wpQuiet _ _ _ _ [] _
 try simp only [Act.put,List.setIfInBounds_toArray,List.set_cons_succ,List.set_cons_zero]
 refine wpQuiet_nil ⟨_,rfl,fun K hK=>?_⟩;go_wp2_with fail;refine (fnMin_val HC.out _).mono ?_;rintro e w1 ⟨rfl,rfl⟩;go_wp2_with fail;refine hK _ _ (.inr (fun b _ hb=>Ext.block X_ (by simp;omega))) ?_;clear hK K;refine wpStages_cons ?_;simp only [List.filterMap_cons,List.filterMap_nil,List.getElem?_toArray,List.getElem?_cons_zero,List.getElem?_cons_succ]
 show wpQuiet _ _ _ _ [_] _
 try simp only [Act.put,List.setIfInBounds_toArray,List.set_cons_succ,List.set_cons_zero]
 repeat (go_big_quiet_step (fail))
 refine wpQuiet_nil ⟨_,rfl,fun K hK=>?_⟩;go_wp2_with fail;refine hK _ _ (.inl (by trivial)) (wpStages_nil ?_);clear hK K;go_wp2;exact bodyPost_ret (v:=.agg #[.int .i64 a,.int .i64 b,.int .i64 c]) (by simp [results,Tryz.results171,go_sem, *]) rfl ⟨rfl,S_⟩
theorem fnMax_val {m n c:Int} (h:max3 m n=c) (w:World):Calls Tryz.prog 208 #[.int .i64 m,.int .i64 n] w fun e w'=>e = .returned (.int .i64 c)∧w=w':=by
 have H:=hid h;clear h;go_enter Tryz.func208,Tryz.ntmps208;go_wp2
 all_goals go_ret
 all_goals
  refine ⟨?_,rfl⟩;rw [←H.out];unfold max3;refine ret_int ?_
  split <;> omega
theorem withMax_val {x y z k l m a b c:Int} (ha:max3 x k=a) (hb:max3 y l=b) (hc:max3 z m=c) (w:World) :
  Calls Tryz.prog 171 #[.agg #[.int .i64 x,.int .i64 y,.int .i64 z],.agg #[.int .i64 k,.int .i64 l,.int .i64 m],.func (.func 208) #[] #[]] w fun e w'=>e = .returned (.agg #[.int .i64 a,.int .i64 b,.int .i64 c])∧Ext w w':=by
 have HA:=hid ha;have HB:=hid hb;have HC:=hid hc;clear ha hb hc;go_enter Tryz.func171,Tryz.ntmps171;go_wp2;refine wp_region_stages [([0,1,2,3,4,6,7,8,9,10,12,13,14,15,16],5),([],11),([],17),([18],19)] 19 (w.heap.size+1+1+1) (by kernel_rfl) (by kernel_rfl) ?_;refine wpStages_cons ?_;simp only [List.filterMap_cons,List.filterMap_nil,List.getElem?_toArray,List.getElem?_cons_zero,List.getElem?_cons_succ]
 show wpQuiet _ _ _ _ [_,_,_,_,_,_,_,_,_,_,_,_,_,_,_] _
 repeat (go_big_quiet_step (fail))
 refine wpQuiet_nil ⟨_,rfl,fun K hK=>?_⟩;go_wp2_with fail;refine (fnMax_val HA.out _).mono ?_;rintro e w1 ⟨rfl,rfl⟩;go_wp2_with fail;refine hK _ _ (.inr (fun b _ hb=>Ext.block X_ (by simp;omega))) ?_;clear hK K;refine wpStages_cons ?_;simp only [List.filterMap_nil]
 show wpQuiet _ _ _ _ [] _
 try simp only [Act.put,List.setIfInBounds_toArray,List.set_cons_succ,List.set_cons_zero]
 refine wpQuiet_nil ⟨_,rfl,fun K hK=>?_⟩;go_wp2_with fail;refine (fnMax_val HB.out _).mono ?_;rintro e w1 ⟨rfl,rfl⟩;go_wp2_with fail;refine hK _ _ (.inr (fun b _ hb=>Ext.block X_ (by simp;omega))) ?_;clear hK K;refine wpStages_cons ?_;simp only [List.filterMap_nil]
 show wpQuiet _ _ _ _ [] _
 try simp only [Act.put,List.setIfInBounds_toArray,List.set_cons_succ,List.set_cons_zero]
 refine wpQuiet_nil ⟨_,rfl,fun K hK=>?_⟩;go_wp2_with fail;refine (fnMax_val HC.out _).mono ?_;rintro e w1 ⟨rfl,rfl⟩;go_wp2_with fail;refine hK _ _ (.inr (fun b _ hb=>Ext.block X_ (by simp;omega))) ?_;clear hK K;refine wpStages_cons ?_;simp only [List.filterMap_cons,List.filterMap_nil,List.getElem?_toArray,List.getElem?_cons_zero,List.getElem?_cons_succ]
 show wpQuiet _ _ _ _ [_] _
 try simp only [Act.put,List.setIfInBounds_toArray,List.set_cons_succ,List.set_cons_zero]
 repeat (go_big_quiet_step (fail))
 refine wpQuiet_nil ⟨_,rfl,fun K hK=>?_⟩;go_wp2_with fail;refine hK _ _ (.inl (by trivial)) (wpStages_nil ?_);clear hK K;go_wp2;exact bodyPost_ret (v:=.agg #[.int .i64 a,.int .i64 b,.int .i64 c]) (by simp [results,Tryz.results171,go_sem, *]) rfl ⟨rfl,S_⟩
theorem iMinVec_val {x y z k l m a b c:Int} (ha:min3 (cl x) (cl k)=a) (hb:min3 (cl y) (cl l)=b) (hc:min3 (cl z) (cl m)=c) (w:World) :
  Calls Tryz.prog 146 #[.agg #[.int .i64 x,.int .i64 y,.int .i64 z],.agg #[.int .i64 k,.int .i64 l,.int .i64 m]] w fun e w'=>e = .returned (.agg #[.int .i64 a,.int .i64 b,.int .i64 c])∧Ext w w':=by
 obtain ⟨u0,hu0⟩:∃n,cl x=n:=⟨_,rfl⟩
 rw [hu0] at ha;have U0:=hid hu0
 obtain ⟨u1,hu1⟩:∃n,cl k=n:=⟨_,rfl⟩
 rw [hu1] at ha;have U1:=hid hu1
 obtain ⟨u2,hu2⟩:∃n,cl y=n:=⟨_,rfl⟩
 rw [hu2] at hb;have U2:=hid hu2
 obtain ⟨u3,hu3⟩:∃n,cl l=n:=⟨_,rfl⟩
 rw [hu3] at hb;have U3:=hid hu3
 obtain ⟨u4,hu4⟩:∃n,cl z=n:=⟨_,rfl⟩
 rw [hu4] at hc;have U4:=hid hu4
 obtain ⟨u5,hu5⟩:∃n,cl m=n:=⟨_,rfl⟩
 rw [hu5] at hc;have U5:=hid hu5;have HA:=hid ha;have HB:=hid hb;have HC:=hid hc;clear ha hb hc hu0 hu1 hu2 hu3 hu4 hu5;go_enter Tryz.func146,Tryz.ntmps146;go_wp2;refine wp_region_stages [([0,2],1),([],3),([],4),([],5)] 5 (w.heap.size+1+1+1) (by kernel_rfl) (by kernel_rfl) ?_;refine wpStages_cons ?_;simp only [List.filterMap_cons,List.filterMap_nil,List.getElem?_toArray,List.getElem?_cons_zero,List.getElem?_cons_succ]
 show wpQuiet _ _ _ _ [_,_] _
 repeat (go_big_quiet_step (fail))
 refine wpQuiet_nil ⟨_,rfl,fun K hK=>?_⟩;go_wp2_with fail;refine (clamped_val U0.out U2.out U4.out _).mono ?_;rintro e w1 ⟨rfl,h1⟩;have e1:=Ext.trans (w:=_) X_ h1;go_wp2_with fail;refine hK _ _ (.inr (fun b _ hb=>(h1.block (by simp;omega)).trans (Ext.block X_ (by simp;omega)))) ?_;clear hK K;refine wpStages_cons ?_;simp only [List.filterMap_nil]
 show wpQuiet _ _ _ _ [] _
 try simp only [Act.put,List.setIfInBounds_toArray,List.set_cons_succ,List.set_cons_zero]
 refine wpQuiet_nil ⟨_,rfl,fun K hK=>?_⟩;go_wp2_with fail;refine (clamped_val U1.out U3.out U5.out _).mono ?_;rintro e w2 ⟨rfl,h2⟩;have e2:=h1.trans h2;go_wp2_with fail;refine hK _ _ (.inr (fun b _ hb=>(e2.block (by simp;omega)).trans (Ext.block X_ (by simp;omega)))) ?_;clear hK K;refine wpStages_cons ?_;simp only [List.filterMap_nil]
 show wpQuiet _ _ _ _ [] _
 try simp only [Act.put,List.setIfInBounds_toArray,List.set_cons_succ,List.set_cons_zero]
 refine wpQuiet_nil ⟨_,rfl,fun K hK=>?_⟩;go_wp2_with fail;refine (withMin_val HA.out HB.out HC.out _).mono ?_;rintro e w3 ⟨rfl,h3⟩;have e3:=e2.trans h3;go_wp2_with fail;refine hK _ _ (.inr (fun b _ hb=>(e3.block (by simp;omega)).trans (Ext.block X_ (by simp;omega)))) ?_;clear hK K;refine wpStages_cons ?_;simp only [List.filterMap_nil]
 show wpQuiet _ _ _ _ [] _
 try simp only [Act.put,List.setIfInBounds_toArray,List.set_cons_succ,List.set_cons_zero]
 have z4:=e3.size;simp at z4;obtain ⟨c4,f4⟩:=e3.cells
 have q4:w.heap.size+1+1<w3.heap.size:=by omega
 have E4:Ext w w3:=Ext.trans X_ e3;refine wpQuiet_nil ⟨_,rfl,fun K hK=>?_⟩;go_wp2_with fail;refine hK _ _ (.inl (by trivial)) (wpStages_nil ?_);clear hK K;go_wp2;exact bodyPost_ret (v:=.agg #[.int .i64 a,.int .i64 b,.int .i64 c]) (by simp [results,Tryz.results146,go_sem, *]) rfl ⟨rfl,S_⟩
theorem iMaxVec_val {x y z k l m a b c:Int} (ha:max3 (cl x) (cl k)=a) (hb:max3 (cl y) (cl l)=b) (hc:max3 (cl z) (cl m)=c) (w:World) :
  Calls Tryz.prog 147 #[.agg #[.int .i64 x,.int .i64 y,.int .i64 z],.agg #[.int .i64 k,.int .i64 l,.int .i64 m]] w fun e w'=>e = .returned (.agg #[.int .i64 a,.int .i64 b,.int .i64 c])∧Ext w w':=by
 obtain ⟨u0,hu0⟩:∃n,cl x=n:=⟨_,rfl⟩
 rw [hu0] at ha;have U0:=hid hu0
 obtain ⟨u1,hu1⟩:∃n,cl k=n:=⟨_,rfl⟩
 rw [hu1] at ha;have U1:=hid hu1
 obtain ⟨u2,hu2⟩:∃n,cl y=n:=⟨_,rfl⟩
 rw [hu2] at hb;have U2:=hid hu2
 obtain ⟨u3,hu3⟩:∃n,cl l=n:=⟨_,rfl⟩
 rw [hu3] at hb;have U3:=hid hu3
 obtain ⟨u4,hu4⟩:∃n,cl z=n:=⟨_,rfl⟩
 rw [hu4] at hc;have U4:=hid hu4
 obtain ⟨u5,hu5⟩:∃n,cl m=n:=⟨_,rfl⟩
 rw [hu5] at hc;have U5:=hid hu5;have HA:=hid ha;have HB:=hid hb;have HC:=hid hc;clear ha hb hc hu0 hu1 hu2 hu3 hu4 hu5;go_enter Tryz.func147,Tryz.ntmps147;go_wp2;refine wp_region_stages [([0,2],1),([],3),([],4),([],5)] 5 (w.heap.size+1+1+1) (by kernel_rfl) (by kernel_rfl) ?_;refine wpStages_cons ?_;simp only [List.filterMap_cons,List.filterMap_nil,List.getElem?_toArray,List.getElem?_cons_zero,List.getElem?_cons_succ]
 show wpQuiet _ _ _ _ [_,_] _
 repeat (go_big_quiet_step (fail))
 refine wpQuiet_nil ⟨_,rfl,fun K hK=>?_⟩;go_wp2_with fail;refine (clamped_val U0.out U2.out U4.out _).mono ?_;rintro e w1 ⟨rfl,h1⟩;have e1:=Ext.trans (w:=_) X_ h1;go_wp2_with fail;refine hK _ _ (.inr (fun b _ hb=>(h1.block (by simp;omega)).trans (Ext.block X_ (by simp;omega)))) ?_;clear hK K;refine wpStages_cons ?_;simp only [List.filterMap_nil]
 show wpQuiet _ _ _ _ [] _
 try simp only [Act.put,List.setIfInBounds_toArray,List.set_cons_succ,List.set_cons_zero]
 refine wpQuiet_nil ⟨_,rfl,fun K hK=>?_⟩;go_wp2_with fail;refine (clamped_val U1.out U3.out U5.out _).mono ?_;rintro e w2 ⟨rfl,h2⟩;have e2:=h1.trans h2;go_wp2_with fail;refine hK _ _ (.inr (fun b _ hb=>(e2.block (by simp;omega)).trans (Ext.block X_ (by simp;omega)))) ?_;clear hK K;refine wpStages_cons ?_;simp only [List.filterMap_nil]
 show wpQuiet _ _ _ _ [] _
 try simp only [Act.put,List.setIfInBounds_toArray,List.set_cons_succ,List.set_cons_zero]
 refine wpQuiet_nil ⟨_,rfl,fun K hK=>?_⟩;go_wp2_with fail;refine (withMax_val HA.out HB.out HC.out _).mono ?_;rintro e w3 ⟨rfl,h3⟩;have e3:=e2.trans h3;go_wp2_with fail;refine hK _ _ (.inr (fun b _ hb=>(e3.block (by simp;omega)).trans (Ext.block X_ (by simp;omega)))) ?_;clear hK K;refine wpStages_cons ?_;simp only [List.filterMap_nil]
 show wpQuiet _ _ _ _ [] _
 try simp only [Act.put,List.setIfInBounds_toArray,List.set_cons_succ,List.set_cons_zero]
 have z4:=e3.size;simp at z4;obtain ⟨c4,f4⟩:=e3.cells
 have q4:w.heap.size+1+1<w3.heap.size:=by omega
 have E4:Ext w w3:=Ext.trans X_ e3;refine wpQuiet_nil ⟨_,rfl,fun K hK=>?_⟩;go_wp2_with fail;refine hK _ _ (.inl (by trivial)) (wpStages_nil ?_);clear hK K;go_wp2;exact bodyPost_ret (v:=.agg #[.int .i64 a,.int .i64 b,.int .i64 c]) (by simp [results,Tryz.results147,go_sem, *]) rfl ⟨rfl,S_⟩
theorem iUnionBox_val {a0 a1 a2 a3 a4 a5 b0 b1 b2 b3 b4 b5 r0 r1 r2 r3 r4 r5:Int} (h0:min3 (cl a0) (cl b0)=r0) (h1:min3 (cl a1) (cl b1)=r1) (h2:min3 (cl a2) (cl b2)=r2) (h3:max3 (cl a3) (cl b3)=r3) (h4:max3 (cl a4) (cl b4)=r4) (h5:max3 (cl a5) (cl b5)=r5) (w:World) :
  Calls Tryz.prog 89 #[.agg #[.int .i64 a0,.int .i64 a1,.int .i64 a2,.int .i64 a3,.int .i64 a4,.int .i64 a5],.agg #[.int .i64 b0,.int .i64 b1,.int .i64 b2,.int .i64 b3,.int .i64 b4,.int .i64 b5]] w fun e w'=>e = .returned (.agg #[.int .i64 r0,.int .i64 r1,.int .i64 r2,.int .i64 r3,.int .i64 r4,.int .i64 r5])∧Ext w w':=by
 have H0:=hid h0;have H1:=hid h1;have H2:=hid h2;have H3:=hid h3;have H4:=hid h4;have H5:=hid h5;clear h0 h1 h2 h3 h4 h5;go_enter Tryz.func89,Tryz.ntmps89;go_wp2;refine wp_region_stages [([0,1,2,3,5,6,7,8],4),([],9),([10],11)] 11 (w.heap.size+1+1+1) (by kernel_rfl) (by kernel_rfl) ?_;refine wpStages_cons ?_;simp only [List.filterMap_cons,List.filterMap_nil,List.getElem?_toArray,List.getElem?_cons_zero,List.getElem?_cons_succ]
 show wpQuiet _ _ _ _ [_,_,_,_,_,_,_,_] _
 repeat (go_big_quiet_step (fail))
 refine wpQuiet_nil ⟨_,rfl,fun K hK=>?_⟩;go_wp2_with fail;refine (iMinVec_val H0.out H1.out H2.out _).mono ?_;rintro e w1 ⟨rfl,h1⟩;have e1:=Ext.trans (w:=_) X_ h1;go_wp2_with fail;refine hK _ _ (.inr (fun b _ hb=>(h1.block (by simp;omega)).trans (Ext.block X_ (by simp;omega)))) ?_;clear hK K;refine wpStages_cons ?_;simp only [List.filterMap_nil]
 show wpQuiet _ _ _ _ [] _
 try simp only [Act.put,List.setIfInBounds_toArray,List.set_cons_succ,List.set_cons_zero]
 refine wpQuiet_nil ⟨_,rfl,fun K hK=>?_⟩;go_wp2_with fail;refine (iMaxVec_val H3.out H4.out H5.out _).mono ?_;rintro e w2 ⟨rfl,h2⟩;have e2:=h1.trans h2;go_wp2_with fail;refine hK _ _ (.inr (fun b _ hb=>(e2.block (by simp;omega)).trans (Ext.block X_ (by simp;omega)))) ?_;clear hK K;refine wpStages_cons ?_;simp only [List.filterMap_cons,List.filterMap_nil,List.getElem?_toArray,List.getElem?_cons_zero,List.getElem?_cons_succ]
 show wpQuiet _ _ _ _ [_] _
 try simp only [Act.put,List.setIfInBounds_toArray,List.set_cons_succ,List.set_cons_zero]
 repeat (go_big_quiet_step (fail))
 have z4:=e2.size;simp at z4;obtain ⟨c4,f4⟩:=e2.cells
 have q4:w.heap.size+1+1<w2.heap.size:=by omega
 have E4:Ext w w2:=Ext.trans X_ e2;refine wpQuiet_nil ⟨_,rfl,fun K hK=>?_⟩;go_wp2_with fail;refine hK _ _ (.inl (by trivial)) (wpStages_nil ?_);clear hK K;go_wp2;exact bodyPost_ret (v:=.agg #[.int .i64 r0,.int .i64 r1,.int .i64 r2,.int .i64 r3,.int .i64 r4,.int .i64 r5]) (by simp [results,Tryz.results89,go_sem, *]) rfl ⟨rfl,S_⟩
def loK (f:Nat→Int) (i:Nat):Nat→Int
 | 0=>cl (f i)
 | k+1=>min3 (cl (loK f i k)) (cl (f (3+k*3+i)))
def hiK (f:Nat→Int) (i:Nat):Nat→Int
 | 0=>cl (f i)
 | k+1=>max3 (cl (hiK f i k)) (cl (f (3+k*3+i)))
theorem cl_min3 (a b:Int):cl (min3 (cl a) (cl b))=min3 (cl a) (cl b):=by unfold min3;split <;> exact cl_cl _
theorem cl_max3 (a b:Int):cl (max3 (cl a) (cl b))=max3 (cl a) (cl b):=by unfold max3;split <;> exact cl_cl _
theorem cl_loK (f:Nat→Int) (i k:Nat):cl (loK f i k)=loK f i k:=by
 cases k with
 | zero=>exact cl_cl _
 | succ k=>exact cl_min3 _ _
theorem cl_hiK (f:Nat→Int) (i k:Nat):cl (hiK f i k)=hiK f i k:=by
 cases k with
 | zero=>exact cl_cl _
 | succ k=>exact cl_max3 _ _
theorem loK_all (f:Nat→Int) (i:Nat):loK f i 3=loP f i:=by
 show min3 (cl (loK f i 2)) (cl (f (3+2*3+i)))=_
 rw [cl_loK]
 show min3 (min3 (cl (loK f i 1)) (cl (f (3+1*3+i)))) _=_
 rw [cl_loK]
 show min3 (min3 (min3 (cl (cl (f i))) (cl (f (3+0*3+i)))) _) _=_
 rw [cl_cl];unfold loP;rw [show 3+0*3+i=i+3 by omega,show 3+1*3+i=i+6 by omega,show 3+2*3+i=i+9 by omega]
theorem hiK_all (f:Nat→Int) (i:Nat):hiK f i 3=hiP f i:=by
 show max3 (cl (hiK f i 2)) (cl (f (3+2*3+i)))=_
 rw [cl_hiK]
 show max3 (max3 (cl (hiK f i 1)) (cl (f (3+1*3+i)))) _=_
 rw [cl_hiK]
 show max3 (max3 (max3 (cl (cl (f i))) (cl (f (3+0*3+i)))) _) _=_
 rw [cl_cl];unfold hiP;rw [show 3+0*3+i=i+3 by omega,show 3+1*3+i=i+6 by omega,show 3+2*3+i=i+9 by omega]
theorem cl_loP (f:Nat→Int) (i:Nat):cl (loP f i)=loP f i:=by rw [←loK_all];exact cl_loK _ _ _
theorem cl_hiP (f:Nat→Int) (i:Nat):cl (hiP f i)=hiP f i:=by rw [←hiK_all];exact cl_hiK _ _ _
def NBox (lo:Nat) (t:TypeId) (cs:Array Value) (v:Value) (w:World):Prop:=∃g,v = .pointer (some ⟨g,0,none⟩)∧lo≤g∧Bx w g cs t
theorem NBox.ext {lo:Nat} {t:TypeId} {cs:Array Value} {v:Value} {w w':World} (h:NBox lo t cs v w) (x:Ext w w'):NBox lo t cs v w':=by
 obtain ⟨g,h1,h2,h3⟩:=h;exact ⟨g,h1,h2,h3.ext x⟩
theorem heap_3 (w:World) (A i j l:Nat) (u v x:Value) {b:Nat} (h:b≠A):(((w.setCell ⟨A,i,none⟩ u).setCell ⟨A,j,none⟩ v).setCell ⟨A,l,none⟩ x).heap[b]?=w.heap[b]?:=by
 rw [Below.heap_setCell _ _ _ _ (by exact fun e=>h e),Below.heap_setCell _ _ _ _ (by exact fun e=>h e),Below.heap_setCell _ _ _ _ (by exact fun e=>h e)]
theorem iBoundPoints_any (f:Nat→Int) (B:Nat) (w:World) (hf:RowI w B 40 12 f):Calls Tryz.prog 148 #[.slice (some ⟨B,0,none⟩) 4 4] w fun e w'=>e = .returned (.tuple #[.agg #[.int .i64 (loP f 0),.int .i64 (loP f 1),.int .i64 (loP f 2),.int .i64 (hiP f 0),.int .i64 (hiP f 1),.int .i64 (hiP f 2)],.bool true])∧Ext w w':=by
 have bl:=hf.lt;have z1:(w.alloc (.cells #[.int .i64 0,.int .i64 0,.int .i64 0,.int .i64 0,.int .i64 0,.int .i64 0] 86)).heap.size=w.heap.size+1:=World.size_alloc _ _;have X1:Ext w (w.alloc (.cells #[.int .i64 0,.int .i64 0,.int .i64 0,.int .i64 0,.int .i64 0,.int .i64 0] 86)):=X_;have HX:=hid X1;have HF:=hid (hf.ext X1);have HQ:=hid (Blk.new w 86 [.int .i64 0,.int .i64 0,.int .i64 0,.int .i64 0,.int .i64 0,.int .i64 0]);clear hf X1;go_enter Tryz.func148,Tryz.ntmps148;go_upto_region 3 with fail
 obtain ⟨W0,hW0⟩:∃W0,(w.alloc (.cells #[.int .i64 0,.int .i64 0,.int .i64 0,.int .i64 0,.int .i64 0,.int .i64 0] 86))=W0:=⟨_,rfl⟩
 rw [hW0] at HX HF HQ z1;rw [hW0];clear hW0;have Z1:=hid z1;clear z1;have d0:=HF.out.cell (i:=0) (by decide);have d1:=HF.out.cell (i:=1) (by decide);have d2:=HF.out.cell (i:=2) (by decide);have l0:=HF.out.lt
 go_cut [4] from 11 to 19 (fun q wx=>∃A,q = .pointer (some ⟨A,0,none⟩)∧W0.heap.size≤A∧Blk wx A 86 [.int .i64 (cl (f 0)),.int .i64 (cl (f 1)),.int .i64 (cl (f 2)),.int .i64 (cl (f 0)),.int .i64 (cl (f 1)),.int .i64 (cl (f 2))]∧Ext W0 wx)
 case first=>
  obtain ⟨c0,hc0⟩:∃n,cl (f 0)=n:=⟨_,rfl⟩
  obtain ⟨c1,hc1⟩:∃n,cl (f 1)=n:=⟨_,rfl⟩
  obtain ⟨c2,hc2⟩:∃n,cl (f 2)=n:=⟨_,rfl⟩
  have K0:=hid hc0;have K1:=hid hc1;have K2:=hid hc2;clear hc0 hc1 hc2;refine wp_region_Z 10 W0.heap.size (by kernel_rfl) ?_;refine z2_ (fuel:=4) [0,1,2,4,5,6] 3 9 (fun b _ hb=>rfl) (fun K hK=>?_) fun K hK=>?_
  ·go_wp2_with fail
   refine (clamped_val K0.out K1.out K2.out _).mono ?_;rintro e a0 ⟨rfl,y0⟩;have u0:Ext W0 a0:=Ext.trans X_ y0;go_wp2_with fail;refine hK _ _ (.inr (fun b _ hb=>Ext.block (w:=W0) X_ (by omega))) ?_;clear hK K;refine z2_ (fuel:=3) [] 7 9 (fun b _ hb=>Ext.block u0 (by omega)) (fun K hK=>?_) fun K hK=>?_
   ·go_wp2_with fail
    refine (clamped_val K0.out K1.out K2.out _).mono ?_;rintro e a01 ⟨rfl,y01⟩;have u01:Ext W0 a01:=Ext.trans X_ y01;go_wp2_with fail;refine hK _ _ (.inr (fun b _ hb=>Ext.block (w:=W0) X_ (by omega))) ?_;clear hK K;refine z1_ (fuel:=1) [8] 9 (fun b _ hb=>Ext.block u01 (by omega)) fun K hK=>?_;go_wp2;have hA01A:W0.heap.size≤a01.heap.size:=u01.size;refine hK _ _ (.inr (fun b _ hb=>Ext.block (w:=W0) X_ (by omega))) ?_;clear hK K
    obtain ⟨d01A,hd01A⟩:∃d,d=a01.alloc (.cells #[.int .i64 0,.int .i64 0,.int .i64 0,.int .i64 0,.int .i64 0,.int .i64 0] 86):=⟨_,rfl⟩
    rw [←hd01A]
    have u01A:Ext W0 d01A:=by rw [hd01A];exact X_
    have b01A:Blk d01A (a01.heap.size) 86 [.int .i64 0,.int .i64 0,.int .i64 0,.int .i64 0,.int .i64 0,.int .i64 0]:=hd01A▸Blk.new _ _ _;clear hd01A;refine z1_ (fuel:=0) [] 10 (fun b _ hb=>Ext.block u01A (by omega)) fun K hK=>?_;have z0:=b01A.cell 0 rfl;have zf0:=b01A.free 0;have z1:=b01A.cell 1 rfl;have zf1:=b01A.free 1;have z2:=b01A.cell 2 rfl;have zf2:=b01A.free 2;have z3:=b01A.cell 3 rfl;have zf3:=b01A.free 3;have z4:=b01A.cell 4 rfl;have zf4:=b01A.free 4;have z5:=b01A.cell 5 rfl;have zf5:=b01A.free 5;have zl:=b01A.lt;go_wp2;refine hK _ _ (.inl (by trivial)) ?_;clear hK K;refine wpZ_end (by kernel_rfl) ?_;go_wp2_with fail
    go_meet
    rw [K0.out,K1.out,K2.out];have hlt:=hA01A;exact ⟨a01.heap.size,rfl,hlt,((((((b01A.set 0 _).set 1 _).set 2 _).set 3 _).set 4 _).set 5 _),(Ext.setCell (Ext.setCell (Ext.setCell (Ext.setCell (Ext.setCell (Ext.setCell u01A (p:=⟨a01.heap.size,0,none⟩) hlt _) (p:=⟨a01.heap.size,1,none⟩) hlt _) (p:=⟨a01.heap.size,2,none⟩) hlt _) (p:=⟨a01.heap.size,3,none⟩) hlt _) (p:=⟨a01.heap.size,4,none⟩) hlt _) (p:=⟨a01.heap.size,5,none⟩) hlt _)⟩
   ·go_wp2
    have hA0A:W0.heap.size≤a0.heap.size:=u0.size;refine hK _ _ (.inr (fun b _ hb=>Ext.block (w:=W0) X_ (by omega))) ?_;clear hK K
    obtain ⟨d0A,hd0A⟩:∃d,d=a0.alloc (.cells #[.int .i64 0,.int .i64 0,.int .i64 0,.int .i64 0,.int .i64 0,.int .i64 0] 86):=⟨_,rfl⟩
    rw [←hd0A]
    have u0A:Ext W0 d0A:=by rw [hd0A];exact X_
    have b0A:Blk d0A (a0.heap.size) 86 [.int .i64 0,.int .i64 0,.int .i64 0,.int .i64 0,.int .i64 0,.int .i64 0]:=hd0A▸Blk.new _ _ _;clear hd0A;refine z1_ (fuel:=2) [] 7 (fun b _ hb=>Ext.block u0A (by omega)) fun K hK=>?_;go_wp2_with fail;refine (clamped_val K0.out K1.out K2.out _).mono ?_;rintro e a0A1 ⟨rfl,y0A1⟩;have u0A1:Ext W0 a0A1:=Ext.trans X_ y0A1;have b0A1:=b0A.ext y0A1;go_wp2_with fail;refine hK _ _ (.inr (fun b _ hb=>Ext.block (w:=W0) X_ (by omega))) ?_;clear hK K;refine z1_ (fuel:=0) [8] 10 (fun b _ hb=>Ext.block u0A1 (by omega)) fun K hK=>?_;have z0:=b0A1.cell 0 rfl;have zf0:=b0A1.free 0;have z1:=b0A1.cell 1 rfl;have zf1:=b0A1.free 1;have z2:=b0A1.cell 2 rfl;have zf2:=b0A1.free 2;have z3:=b0A1.cell 3 rfl;have zf3:=b0A1.free 3;have z4:=b0A1.cell 4 rfl;have zf4:=b0A1.free 4;have z5:=b0A1.cell 5 rfl;have zf5:=b0A1.free 5;have zl:=b0A1.lt;go_wp2;refine hK _ _ (.inl (by trivial)) ?_;clear hK K;refine wpZ_end (by kernel_rfl) ?_;go_wp2_with fail
    go_meet
    rw [K0.out,K1.out,K2.out];have hlt:=hA0A;exact ⟨a0.heap.size,rfl,hlt,((((((b0A1.set 0 _).set 1 _).set 2 _).set 3 _).set 4 _).set 5 _),(Ext.setCell (Ext.setCell (Ext.setCell (Ext.setCell (Ext.setCell (Ext.setCell u0A1 (p:=⟨a0.heap.size,0,none⟩) hlt _) (p:=⟨a0.heap.size,1,none⟩) hlt _) (p:=⟨a0.heap.size,2,none⟩) hlt _) (p:=⟨a0.heap.size,3,none⟩) hlt _) (p:=⟨a0.heap.size,4,none⟩) hlt _) (p:=⟨a0.heap.size,5,none⟩) hlt _)⟩
  ·go_wp2
   have hAA:W0.heap.size≤W0.heap.size:=Nat.le_refl _;refine hK _ _ (.inr (fun b _ hb=>Ext.block (w:=W0) X_ (by omega))) ?_;clear hK K
   obtain ⟨dA,hdA⟩:∃d,d=(W0.alloc (.cells #[.int .i64 0,.int .i64 0,.int .i64 0,.int .i64 0,.int .i64 0,.int .i64 0] 86)).drew:=⟨_,rfl⟩
   rw [←hdA]
   have uA:Ext W0 dA:=by rw [hdA];exact X_
   have bA:Blk dA (W0.heap.size) 86 [.int .i64 0,.int .i64 0,.int .i64 0,.int .i64 0,.int .i64 0,.int .i64 0]:=hdA▸(Blk.new _ _ _).ext (Ext.drew (Ext.refl _));clear hdA;refine z1_ (fuel:=3) [] 3 (fun b _ hb=>Ext.block uA (by omega)) fun K hK=>?_;go_wp2_with fail;refine (clamped_val K0.out K1.out K2.out _).mono ?_;rintro e aA0 ⟨rfl,yA0⟩;have uA0:Ext W0 aA0:=Ext.trans X_ yA0;have bA0:=bA.ext yA0;go_wp2_with fail;refine hK _ _ (.inr (fun b _ hb=>Ext.block (w:=W0) X_ (by omega))) ?_;clear hK K;refine z1_ (fuel:=2) [] 7 (fun b _ hb=>Ext.block uA0 (by omega)) fun K hK=>?_;go_wp2_with fail;refine (clamped_val K0.out K1.out K2.out _).mono ?_;rintro e aA01 ⟨rfl,yA01⟩;have uA01:Ext W0 aA01:=Ext.trans X_ yA01;have bA01:=bA0.ext yA01;go_wp2_with fail;refine hK _ _ (.inr (fun b _ hb=>Ext.block (w:=W0) X_ (by omega))) ?_;clear hK K;refine z1_ (fuel:=0) [8] 10 (fun b _ hb=>Ext.block uA01 (by omega)) fun K hK=>?_;have z0:=bA01.cell 0 rfl;have zf0:=bA01.free 0;have z1:=bA01.cell 1 rfl;have zf1:=bA01.free 1;have z2:=bA01.cell 2 rfl;have zf2:=bA01.free 2;have z3:=bA01.cell 3 rfl;have zf3:=bA01.free 3;have z4:=bA01.cell 4 rfl;have zf4:=bA01.free 4;have z5:=bA01.cell 5 rfl;have zf5:=bA01.free 5;have zl:=bA01.lt;go_wp2;refine hK _ _ (.inl (by trivial)) ?_;clear hK K;refine wpZ_end (by kernel_rfl) ?_;go_wp2_with fail
   go_meet
   rw [K0.out,K1.out,K2.out];have hlt:=hAA;exact ⟨W0.heap.size,rfl,hlt,((((((bA01.set 0 _).set 1 _).set 2 _).set 3 _).set 4 _).set 5 _),(Ext.setCell (Ext.setCell (Ext.setCell (Ext.setCell (Ext.setCell (Ext.setCell uA01 (p:=⟨W0.heap.size,0,none⟩) hlt _) (p:=⟨W0.heap.size,1,none⟩) hlt _) (p:=⟨W0.heap.size,2,none⟩) hlt _) (p:=⟨W0.heap.size,3,none⟩) hlt _) (p:=⟨W0.heap.size,4,none⟩) hlt _) (p:=⟨W0.heap.size,5,none⟩) hlt _)⟩
 case rest=>
  obtain ⟨A,rfl,hA,bA,xa⟩:=hcut;have HA:=hid bA;have HX2:=hid xa;have la:=xa.size;clear bA xa d0 d1 d2;go_wp2_with fail
  go_loopw [23] (fun i wr=>∃k:Nat,k≤3∧i = .int .i64 (k:Nat)∧Blk wr A 86 [.int .i64 (loK f 0 k),.int .i64 (loK f 1 k),.int .i64 (loK f 2 k),.int .i64 (hiK f 0 k),.int .i64 (hiK f 1 k),.int .i64 (hiK f 2 k)]∧Ext W0 wr) (fun i _=>3 - (intOf i).toNat)
  case atStart=>exact ⟨0,by omega,rfl,HA.out,HX2.out⟩
  case round=>
   obtain ⟨k,hk,rfl,b,x⟩:=hrel;have HB:=hid b;have HXr:=hid x;have hzr:=x.size
   rcases Nat.lt_or_ge k 3 with hlt|hge
   ·have hr:=HF.out.ext x
    have d0:=hr.cell (i:=3+k*3) (by omega);have d1:=hr.cell (i:=3+k*3+1) (by omega);have d2:=hr.cell (i:=3+k*3+2) (by omega);have lr:=hr.lt;have lA:=b.lt;clear b x hr
    obtain ⟨x0,hx0⟩:∃n,f (3+k*3)=n:=⟨_,rfl⟩
    obtain ⟨x1,hx1⟩:∃n,f (3+k*3+1)=n:=⟨_,rfl⟩
    obtain ⟨x2,hx2⟩:∃n,f (3+k*3+2)=n:=⟨_,rfl⟩
    rw [hx0] at d0;rw [hx1] at d1;rw [hx2] at d2;have E0:=hid (show min3 (cl (loK f 0 k)) (cl x0)=loK f 0 (k+1) by rw [←hx0];rfl);have E1:=hid (show min3 (cl (loK f 1 k)) (cl x1)=loK f 1 (k+1) by rw [←hx1];rfl);have E2:=hid (show min3 (cl (loK f 2 k)) (cl x2)=loK f 2 (k+1) by rw [←hx2];rfl);have E3:=hid (show max3 (cl (hiK f 0 k)) (cl x0)=hiK f 0 (k+1) by rw [←hx0];rfl);have E4:=hid (show max3 (cl (hiK f 1 k)) (cl x1)=hiK f 1 (k+1) by rw [←hx1];rfl);have E5:=hid (show max3 (cl (hiK f 2 k)) (cl x2)=hiK f 2 (k+1) by rw [←hx2];rfl);clear hx0 hx1 hx2;go_upto_region 7 with fail;have bq:=HB.out.ext (show Ext wr (wr.alloc (.cells #[.int .i64 x0,.int .i64 x1,.int .i64 x2] 37)) from X_);have XQ:=hid (HXr.out.trans (show Ext wr (wr.alloc (.cells #[.int .i64 x0,.int .i64 x1,.int .i64 x2] 37)) from X_));have HQ2:=hid bq;have c0:=bq.cell 0 rfl;have c1:=bq.cell 1 rfl;have c2:=bq.cell 2 rfl;have c3:=bq.cell 3 rfl;have c4:=bq.cell 4 rfl;have c5:=bq.cell 5 rfl;have lcl:=bq.lt
    have lA2:A<wr.heap.size+1:=by omega
    clear bq;refine wp_region_ZS 11 (fun w'=>∃d,w'=lowc (CBox wr.heap.size) (wr.alloc (.cells #[.int .i64 x0,.int .i64 x1,.int .i64 x2] 37)) d) (by kernel_rfl) ?_;refine wpZS_stage (fuel:=7) [0,2,4,6] [1,5] (by kernel_rfl) (SC.drew _ _) ?_
    try simp only [Act.put,List.setIfInBounds_toArray,List.set_cons_succ,List.set_cons_zero]
    simp only [List.filterMap_cons,List.filterMap_nil,List.getElem?_toArray,List.getElem?_cons_zero,List.getElem?_cons_succ]
    show wpQuiet _ _ _ _ [_,_,_,_] _
    repeat (go_big_quiet_step (fail))
    refine wpQuiet_nil ?_;intro e he;simp only [List.mem_cons,List.not_mem_nil,or_false] at he
    rcases he with rfl|rfl
    ·skip
     (unfold wpComesS;simp only [List.getElem?_toArray,List.getElem?_cons_succ,List.getElem?_cons_zero,Option.some.injEq];refine ⟨_,rfl,fun K hK=>?_⟩)
     go_wp2;refine hK _ _ (.inr (SC.blocks fun a ha=>Ext.block (w:=(wr.alloc (.cells #[.int .i64 x0,.int .i64 x1,.int .i64 x2] 37))) X_ (by have h:a.block=wr.heap.size:=ha;simp;omega))) ?_;clear hK K;refine wpZS_stage (fuel:=6) [] [3,5] (by kernel_rfl) (SC.blocks fun a ha=>Ext.block (w:=(wr.alloc (.cells #[.int .i64 x0,.int .i64 x1,.int .i64 x2] 37))) X_ (by have h:a.block=wr.heap.size:=ha;simp;omega)) ?_;refine wpQuiet_nil ?_;intro e he;simp only [List.mem_cons,List.not_mem_nil,or_false] at he
     rcases he with rfl|rfl
     ·skip
      (unfold wpComesS;simp only [List.getElem?_toArray,List.getElem?_cons_succ,List.getElem?_cons_zero,Option.some.injEq];refine ⟨_,rfl,fun K hK=>?_⟩)
      go_wp2_with fail;refine (iMinVec_val E0.out E1.out E2.out _).mono ?_;rintro e w5 ⟨rfl,x5⟩;have y5:Ext (wr.alloc (.cells #[.int .i64 x0,.int .i64 x1,.int .i64 x2] 37)) w5:=Ext.trans X_ x5;go_wp2_with fail;refine hK _ _ (.inr (SC.blocks fun a ha=>Ext.block y5 (by have h:a.block=wr.heap.size:=ha;simp;omega))) ?_;clear hK K;have b5:=HQ2.out.ext y5;clear c0 c1 c2 c3 c4 c5;have l5:=b5.lt;have c0:=b5.cell 0 rfl;have c1:=b5.cell 1 rfl;have c2:=b5.cell 2 rfl;have c3:=b5.cell 3 rfl;have c4:=b5.cell 4 rfl;have c5:=b5.cell 5 rfl;clear b5;refine wpZS_stage (fuel:=5) [] [5] (by kernel_rfl) (SC.blocks fun a ha=>Ext.block y5 (by have h:a.block=wr.heap.size:=ha;simp;omega)) ?_;refine wpQuiet_nil ?_;intro e he;simp only [List.mem_cons,List.not_mem_nil,or_false] at he;subst he
      (unfold wpComesS;simp only [List.getElem?_toArray,List.getElem?_cons_succ,List.getElem?_cons_zero,Option.some.injEq];refine ⟨_,rfl,fun K hK=>?_⟩)
      go_wp2;refine hK _ _ (.inr (SC.blocks fun a ha=>Ext.block y5 (by have h:a.block=wr.heap.size:=ha;simp;omega))) ?_;clear hK K;refine wpZS_stage (fuel:=3) [8] [7] (by kernel_rfl) (SC.blocks fun a ha=>Ext.block y5 (by have h:a.block=wr.heap.size:=ha;simp;omega)) ?_
      try simp only [Act.put,List.setIfInBounds_toArray,List.set_cons_succ,List.set_cons_zero]
      simp only [List.filterMap_cons,List.filterMap_nil,List.getElem?_toArray,List.getElem?_cons_zero,List.getElem?_cons_succ]
      show wpQuiet _ _ _ _ [_] _
      repeat (go_big_quiet_step (fail))
      refine wpQuiet_nil ?_;intro e he;simp only [List.mem_cons,List.not_mem_nil,or_false] at he;subst he
      (unfold wpComesS;simp only [List.getElem?_toArray,List.getElem?_cons_succ,List.getElem?_cons_zero,Option.some.injEq];refine ⟨_,rfl,fun K hK=>?_⟩)
      go_wp2_with fail;refine (iMaxVec_val E3.out E4.out E5.out _).mono ?_;rintro e w6 ⟨rfl,x6⟩;have y6:=y5.trans x6;go_wp2_with fail;refine hK _ _ (.inr (SC.blocks fun a ha=>Ext.block y6 (by have h:a.block=wr.heap.size:=ha;simp;omega))) ?_;clear hK K;have b6:=HQ2.out.ext y6;have HY6:=hid (XQ.out.trans y6);have HB6:=hid b6;have l6:=b6.lt;have HYY:=hid y6;clear x5 y5 x6 y6 b6 c0 c1 c2 c3 c4 c5 lcl d0 d1 d2;have c0:=HB6.out.cell 0 rfl;have c1:=HB6.out.cell 1 rfl;have c2:=HB6.out.cell 2 rfl;have c3:=HB6.out.cell 3 rfl;have c4:=HB6.out.cell 4 rfl;have c5:=HB6.out.cell 5 rfl;have k0:=HB6.out.free 0;have k1:=HB6.out.free 1;have k2:=HB6.out.free 2;have k3:=HB6.out.free 3;have k4:=HB6.out.free 4;have k5:=HB6.out.free 5;refine wpZS_stage (fuel:=2) [] [9] (by kernel_rfl) (SC.blocks fun a ha=>Ext.block HYY.out (by have h:a.block=wr.heap.size:=ha;simp;omega)) ?_;refine wpQuiet_nil ?_;intro e he;simp only [List.mem_cons,List.not_mem_nil,or_false] at he;subst he
      (unfold wpComesS;simp only [List.getElem?_toArray,List.getElem?_cons_succ,List.getElem?_cons_zero,Option.some.injEq];refine ⟨_,rfl,fun K hK=>?_⟩)
      go_wp2;refine hK _ _ (.inr (SC.blocks fun a ha=>(heap_3 _ _ _ _ _ _ _ _ (by have h:a.block=wr.heap.size:=ha;omega)).trans (Ext.block HYY.out (by have h:a.block=wr.heap.size:=ha;simp;omega)))) ?_;clear hK K;refine wpZS_stage (fuel:=0) [10] [11] (by kernel_rfl) (SC.blocks fun a ha=>(heap_3 _ _ _ _ _ _ _ _ (by have h:a.block=wr.heap.size:=ha;omega)).trans (Ext.block HYY.out (by have h:a.block=wr.heap.size:=ha;simp;omega))) ?_
      try simp only [Act.put,List.setIfInBounds_toArray,List.set_cons_succ,List.set_cons_zero]
      simp only [List.filterMap_cons,List.filterMap_nil,List.getElem?_toArray,List.getElem?_cons_zero,List.getElem?_cons_succ]
      show wpQuiet _ _ _ _ [_] _
      repeat (go_big_quiet_step (fail))
      refine wpQuiet_nil ?_;intro e he;simp only [List.mem_cons,List.not_mem_nil,or_false] at he;subst he
      (unfold wpComesS;simp only [List.getElem?_toArray,List.getElem?_cons_succ,List.getElem?_cons_zero,Option.some.injEq];refine ⟨_,rfl,fun K hK=>?_⟩)
      go_wp2;refine hK _ _ (.inl (by trivial)) ?_;clear hK K;refine wpZS_end (by kernel_rfl) ?_;go_wp2;go_roundw
      case rel=>exact ⟨k+1,by omega,by go_num,(((((HB6.out.set 0 _).set 1 _).set 2 _).set 3 _).set 4 _).set 5 _,Ext.setCell (Ext.setCell (Ext.setCell (Ext.setCell (Ext.setCell (Ext.setCell HY6.out hA _) hA _) hA _) hA _) hA _) hA _⟩
      case measure=>simp [intOf];omega
     ·skip
      (unfold wpComesS;simp only [List.getElem?_toArray,List.getElem?_cons_succ,List.getElem?_cons_zero,Option.some.injEq];refine ⟨_,rfl,fun K hK=>?_⟩)
      go_wp2;refine hK _ _ (.inr (SC.blocks fun a ha=>Ext.block (w:=(wr.alloc (.cells #[.int .i64 x0,.int .i64 x1,.int .i64 x2] 37))) X_ (by have h:a.block=wr.heap.size:=ha;simp;omega))) ?_;clear hK K;refine wpZS_stage (fuel:=5) [] [3] (by kernel_rfl) (SC.blocks fun a ha=>Ext.block (w:=(wr.alloc (.cells #[.int .i64 x0,.int .i64 x1,.int .i64 x2] 37))) X_ (by have h:a.block=wr.heap.size:=ha;simp;omega)) ?_;refine wpQuiet_nil ?_;intro e he;simp only [List.mem_cons,List.not_mem_nil,or_false] at he;subst he
      (unfold wpComesS;simp only [List.getElem?_toArray,List.getElem?_cons_succ,List.getElem?_cons_zero,Option.some.injEq];refine ⟨_,rfl,fun K hK=>?_⟩)
      go_wp2_with fail;refine (iMinVec_val E0.out E1.out E2.out _).mono ?_;rintro e w5 ⟨rfl,x5⟩;have y5:Ext (wr.alloc (.cells #[.int .i64 x0,.int .i64 x1,.int .i64 x2] 37)) w5:=Ext.trans X_ x5;go_wp2_with fail;refine hK _ _ (.inr (SC.blocks fun a ha=>Ext.block y5 (by have h:a.block=wr.heap.size:=ha;simp;omega))) ?_;clear hK K;refine wpZS_stage (fuel:=3) [8] [7] (by kernel_rfl) (SC.blocks fun a ha=>Ext.block y5 (by have h:a.block=wr.heap.size:=ha;simp;omega)) ?_
      try simp only [Act.put,List.setIfInBounds_toArray,List.set_cons_succ,List.set_cons_zero]
      simp only [List.filterMap_cons,List.filterMap_nil,List.getElem?_toArray,List.getElem?_cons_zero,List.getElem?_cons_succ]
      show wpQuiet _ _ _ _ [_] _
      repeat (go_big_quiet_step (fail))
      refine wpQuiet_nil ?_;intro e he;simp only [List.mem_cons,List.not_mem_nil,or_false] at he;subst he
      (unfold wpComesS;simp only [List.getElem?_toArray,List.getElem?_cons_succ,List.getElem?_cons_zero,Option.some.injEq];refine ⟨_,rfl,fun K hK=>?_⟩)
      go_wp2_with fail;refine (iMaxVec_val E3.out E4.out E5.out _).mono ?_;rintro e w6 ⟨rfl,x6⟩;have y6:=y5.trans x6;go_wp2_with fail;refine hK _ _ (.inr (SC.blocks fun a ha=>Ext.block y6 (by have h:a.block=wr.heap.size:=ha;simp;omega))) ?_;clear hK K;have b6:=HQ2.out.ext y6;have HY6:=hid (XQ.out.trans y6);have HB6:=hid b6;have l6:=b6.lt;have HYY:=hid y6;clear x5 y5 x6 y6 b6 c0 c1 c2 c3 c4 c5 lcl d0 d1 d2;have c0:=HB6.out.cell 0 rfl;have c1:=HB6.out.cell 1 rfl;have c2:=HB6.out.cell 2 rfl;have c3:=HB6.out.cell 3 rfl;have c4:=HB6.out.cell 4 rfl;have c5:=HB6.out.cell 5 rfl;have k0:=HB6.out.free 0;have k1:=HB6.out.free 1;have k2:=HB6.out.free 2;have k3:=HB6.out.free 3;have k4:=HB6.out.free 4;have k5:=HB6.out.free 5;refine wpZS_stage (fuel:=2) [] [9] (by kernel_rfl) (SC.blocks fun a ha=>Ext.block HYY.out (by have h:a.block=wr.heap.size:=ha;simp;omega)) ?_;refine wpQuiet_nil ?_;intro e he;simp only [List.mem_cons,List.not_mem_nil,or_false] at he;subst he
      (unfold wpComesS;simp only [List.getElem?_toArray,List.getElem?_cons_succ,List.getElem?_cons_zero,Option.some.injEq];refine ⟨_,rfl,fun K hK=>?_⟩)
      go_wp2;refine hK _ _ (.inr (SC.blocks fun a ha=>(heap_3 _ _ _ _ _ _ _ _ (by have h:a.block=wr.heap.size:=ha;omega)).trans (Ext.block HYY.out (by have h:a.block=wr.heap.size:=ha;simp;omega)))) ?_;clear hK K;refine wpZS_stage (fuel:=0) [10] [11] (by kernel_rfl) (SC.blocks fun a ha=>(heap_3 _ _ _ _ _ _ _ _ (by have h:a.block=wr.heap.size:=ha;omega)).trans (Ext.block HYY.out (by have h:a.block=wr.heap.size:=ha;simp;omega))) ?_
      try simp only [Act.put,List.setIfInBounds_toArray,List.set_cons_succ,List.set_cons_zero]
      simp only [List.filterMap_cons,List.filterMap_nil,List.getElem?_toArray,List.getElem?_cons_zero,List.getElem?_cons_succ]
      show wpQuiet _ _ _ _ [_] _
      repeat (go_big_quiet_step (fail))
      refine wpQuiet_nil ?_;intro e he;simp only [List.mem_cons,List.not_mem_nil,or_false] at he;subst he
      (unfold wpComesS;simp only [List.getElem?_toArray,List.getElem?_cons_succ,List.getElem?_cons_zero,Option.some.injEq];refine ⟨_,rfl,fun K hK=>?_⟩)
      go_wp2;refine hK _ _ (.inl (by trivial)) ?_;clear hK K;refine wpZS_end (by kernel_rfl) ?_;go_wp2;go_roundw
      case rel=>exact ⟨k+1,by omega,by go_num,(((((HB6.out.set 0 _).set 1 _).set 2 _).set 3 _).set 4 _).set 5 _,Ext.setCell (Ext.setCell (Ext.setCell (Ext.setCell (Ext.setCell (Ext.setCell HY6.out hA _) hA _) hA _) hA _) hA _) hA _⟩
      case measure=>simp [intOf];omega
    ·skip
     (unfold wpComesS;simp only [List.getElem?_toArray,List.getElem?_cons_succ,List.getElem?_cons_zero,Option.some.injEq];refine ⟨_,rfl,fun K hK=>?_⟩)
     go_wp2;refine hK _ _ (.inr (SC.blocks fun a ha=>Ext.block (w:=(wr.alloc (.cells #[.int .i64 x0,.int .i64 x1,.int .i64 x2] 37))) X_ (by have h:a.block=wr.heap.size:=ha;simp;omega))) ?_;clear hK K;refine wpZS_stage (fuel:=6) [] [1] (by kernel_rfl) (SC.blocks fun a ha=>Ext.block (w:=(wr.alloc (.cells #[.int .i64 x0,.int .i64 x1,.int .i64 x2] 37))) X_ (by have h:a.block=wr.heap.size:=ha;simp;omega)) ?_;refine wpQuiet_nil ?_;intro e he;simp only [List.mem_cons,List.not_mem_nil,or_false] at he;subst he
     (unfold wpComesS;simp only [List.getElem?_toArray,List.getElem?_cons_succ,List.getElem?_cons_zero,Option.some.injEq];refine ⟨_,rfl,fun K hK=>?_⟩)
     go_wp2;refine hK _ _ (.inr (SC.blocks fun a ha=>Ext.block (w:=(wr.alloc (.cells #[.int .i64 x0,.int .i64 x1,.int .i64 x2] 37))) X_ (by have h:a.block=wr.heap.size:=ha;simp;omega))) ?_;clear hK K;refine wpZS_stage (fuel:=5) [] [3] (by kernel_rfl) (SC.blocks fun a ha=>Ext.block (w:=(wr.alloc (.cells #[.int .i64 x0,.int .i64 x1,.int .i64 x2] 37))) X_ (by have h:a.block=wr.heap.size:=ha;simp;omega)) ?_;refine wpQuiet_nil ?_;intro e he;simp only [List.mem_cons,List.not_mem_nil,or_false] at he;subst he
     (unfold wpComesS;simp only [List.getElem?_toArray,List.getElem?_cons_succ,List.getElem?_cons_zero,Option.some.injEq];refine ⟨_,rfl,fun K hK=>?_⟩)
     go_wp2_with fail;refine (iMinVec_val E0.out E1.out E2.out _).mono ?_;rintro e w5 ⟨rfl,x5⟩;have y5:Ext (wr.alloc (.cells #[.int .i64 x0,.int .i64 x1,.int .i64 x2] 37)) w5:=Ext.trans X_ x5;go_wp2_with fail;refine hK _ _ (.inr (SC.blocks fun a ha=>Ext.block y5 (by have h:a.block=wr.heap.size:=ha;simp;omega))) ?_;clear hK K;refine wpZS_stage (fuel:=3) [8] [7] (by kernel_rfl) (SC.blocks fun a ha=>Ext.block y5 (by have h:a.block=wr.heap.size:=ha;simp;omega)) ?_
     try simp only [Act.put,List.setIfInBounds_toArray,List.set_cons_succ,List.set_cons_zero]
     simp only [List.filterMap_cons,List.filterMap_nil,List.getElem?_toArray,List.getElem?_cons_zero,List.getElem?_cons_succ]
     show wpQuiet _ _ _ _ [_] _
     repeat (go_big_quiet_step (fail))
     refine wpQuiet_nil ?_;intro e he;simp only [List.mem_cons,List.not_mem_nil,or_false] at he;subst he
     (unfold wpComesS;simp only [List.getElem?_toArray,List.getElem?_cons_succ,List.getElem?_cons_zero,Option.some.injEq];refine ⟨_,rfl,fun K hK=>?_⟩)
     go_wp2_with fail;refine (iMaxVec_val E3.out E4.out E5.out _).mono ?_;rintro e w6 ⟨rfl,x6⟩;have y6:=y5.trans x6;go_wp2_with fail;refine hK _ _ (.inr (SC.blocks fun a ha=>Ext.block y6 (by have h:a.block=wr.heap.size:=ha;simp;omega))) ?_;clear hK K;have b6:=HQ2.out.ext y6;have HY6:=hid (XQ.out.trans y6);have HB6:=hid b6;have l6:=b6.lt;have HYY:=hid y6;clear x5 y5 x6 y6 b6 c0 c1 c2 c3 c4 c5 lcl d0 d1 d2;have c0:=HB6.out.cell 0 rfl;have c1:=HB6.out.cell 1 rfl;have c2:=HB6.out.cell 2 rfl;have c3:=HB6.out.cell 3 rfl;have c4:=HB6.out.cell 4 rfl;have c5:=HB6.out.cell 5 rfl;have k0:=HB6.out.free 0;have k1:=HB6.out.free 1;have k2:=HB6.out.free 2;have k3:=HB6.out.free 3;have k4:=HB6.out.free 4;have k5:=HB6.out.free 5;refine wpZS_stage (fuel:=2) [] [9] (by kernel_rfl) (SC.blocks fun a ha=>Ext.block HYY.out (by have h:a.block=wr.heap.size:=ha;simp;omega)) ?_;refine wpQuiet_nil ?_;intro e he;simp only [List.mem_cons,List.not_mem_nil,or_false] at he;subst he
     (unfold wpComesS;simp only [List.getElem?_toArray,List.getElem?_cons_succ,List.getElem?_cons_zero,Option.some.injEq];refine ⟨_,rfl,fun K hK=>?_⟩)
     go_wp2;refine hK _ _ (.inr (SC.blocks fun a ha=>(heap_3 _ _ _ _ _ _ _ _ (by have h:a.block=wr.heap.size:=ha;omega)).trans (Ext.block HYY.out (by have h:a.block=wr.heap.size:=ha;simp;omega)))) ?_;clear hK K;refine wpZS_stage (fuel:=0) [10] [11] (by kernel_rfl) (SC.blocks fun a ha=>(heap_3 _ _ _ _ _ _ _ _ (by have h:a.block=wr.heap.size:=ha;omega)).trans (Ext.block HYY.out (by have h:a.block=wr.heap.size:=ha;simp;omega))) ?_
     try simp only [Act.put,List.setIfInBounds_toArray,List.set_cons_succ,List.set_cons_zero]
     simp only [List.filterMap_cons,List.filterMap_nil,List.getElem?_toArray,List.getElem?_cons_zero,List.getElem?_cons_succ]
     show wpQuiet _ _ _ _ [_] _
     repeat (go_big_quiet_step (fail))
     refine wpQuiet_nil ?_;intro e he;simp only [List.mem_cons,List.not_mem_nil,or_false] at he;subst he
     (unfold wpComesS;simp only [List.getElem?_toArray,List.getElem?_cons_succ,List.getElem?_cons_zero,Option.some.injEq];refine ⟨_,rfl,fun K hK=>?_⟩)
     go_wp2;refine hK _ _ (.inl (by trivial)) ?_;clear hK K;refine wpZS_end (by kernel_rfl) ?_;go_wp2;go_roundw
     case rel=>exact ⟨k+1,by omega,by go_num,(((((HB6.out.set 0 _).set 1 _).set 2 _).set 3 _).set 4 _).set 5 _,Ext.setCell (Ext.setCell (Ext.setCell (Ext.setCell (Ext.setCell (Ext.setCell HY6.out hA _) hA _) hA _) hA _) hA _) hA _⟩
     case measure=>simp [intOf];omega
   ·obtain rfl:k=3:=by omega
    have q:=HQ.out.ext x;have lq:=q.lt;have c0:=b.cell 0 rfl;have q0:=q.cell 0 rfl;have m0:=q.free 0;have c1:=b.cell 1 rfl;have q1:=q.cell 1 rfl;have m1:=q.free 1;have c2:=b.cell 2 rfl;have q2:=q.cell 2 rfl;have m2:=q.free 2;have c3:=b.cell 3 rfl;have q3:=q.cell 3 rfl;have m3:=q.free 3;have c4:=b.cell 4 rfl;have q4:=q.cell 4 rfl;have m4:=q.free 4;have c5:=b.cell 5 rfl;have q5:=q.cell 5 rfl;have m5:=q.free 5;have lb:=b.lt
    have hne:A≠w.heap.size:=by have:=Z1.out;omega
    rw [loK_all] at c0 c1 c2;rw [hiK_all] at c3 c4 c5;have hx:=HX.out.trans x;have HXF:=hid hx;clear b x q hx;go_wp2;refine bodyPost_ret (v:=.tuple #[.agg #[.int .i64 (loP f 0),.int .i64 (loP f 1),.int .i64 (loP f 2),.int .i64 (hiP f 0),.int .i64 (hiP f 1),.int .i64 (hiP f 2)],.bool true]) (by simp [results,Tryz.results148,go_sem, *]) rfl ⟨rfl,?_⟩;have hx:=HXF.out;exact S_
theorem twelve2 {i:Nat} (h:i<12):i=0∨i=1∨i=2∨i=3∨i=4∨i=5∨i=6∨i=7∨i=8∨i=9∨i=10∨i=11:=by omega
theorem rowI12_w {f:Nat→Int} {w:World} {t:TypeId}:RowI (w.alloc (.cells #[.int .i64 (f 0),.int .i64 (f 1),.int .i64 (f 2),.int .i64 (f 3),.int .i64 (f 4),.int .i64 (f 5),.int .i64 (f 6),.int .i64 (f 7),.int .i64 (f 8),.int .i64 (f 9),.int .i64 (f 10),.int .i64 (f 11)] t)) w.heap.size t 12 f:=
 World.rowIs_alloc _ _ _ _ fun i hi=>by rcases twelve2 hi with h|h|h|h|h|h|h|h|h|h|h|h <;> subst h <;> rfl
theorem iPatchBounds_val (f:Nat→Int) (w:World):Calls Tryz.prog 90 #[.agg #[.int .i64 (f 0),.int .i64 (f 1),.int .i64 (f 2),.int .i64 (f 3),.int .i64 (f 4),.int .i64 (f 5),.int .i64 (f 6),.int .i64 (f 7),.int .i64 (f 8),.int .i64 (f 9),.int .i64 (f 10),.int .i64 (f 11)]] w fun e w'=>e = .returned (.agg #[.int .i64 (loP f 0),.int .i64 (loP f 1),.int .i64 (loP f 2),.int .i64 (hiP f 0),.int .i64 (hiP f 1),.int .i64 (hiP f 2)])∧Ext w w':=by
 have HR:=hid (RowI.alloc (rowI12_w (f:=f) (w:=w) (t:=40)) (.cells #[.int .i64 0,.int .i64 0,.int .i64 0,.int .i64 0,.int .i64 0,.int .i64 0] 86));have hq:=Blk.new (w.alloc (.cells #[.int .i64 (f 0),.int .i64 (f 1),.int .i64 (f 2),.int .i64 (f 3),.int .i64 (f 4),.int .i64 (f 5),.int .i64 (f 6),.int .i64 (f 7),.int .i64 (f 8),.int .i64 (f 9),.int .i64 (f 10),.int .i64 (f 11)] 40)) 86 [.int .i64 0,.int .i64 0,.int .i64 0,.int .i64 0,.int .i64 0,.int .i64 0];rw [World.size_alloc] at hq;have HQ:=hid hq;clear hq;go_enter Tryz.func90,Tryz.ntmps90;go_wp2_with fail;refine (iBoundPoints_any f w.heap.size _ HR.out).mono ?_;rintro e w3 ⟨rfl,x3⟩;have b3:=HQ.out.ext x3;have y3:Ext w w3:=Ext.trans X_ x3;have l3:=b3.lt;have c0:=b3.cell 0 rfl;have k0:=b3.free 0;have c1:=b3.cell 1 rfl;have k1:=b3.free 1;have c2:=b3.cell 2 rfl;have k2:=b3.free 2;have c3:=b3.cell 3 rfl;have k3:=b3.free 3;have c4:=b3.cell 4 rfl;have k4:=b3.free 4;have c5:=b3.cell 5 rfl;have k5:=b3.free 5;clear b3 x3;go_wp2;refine bodyPost_ret (v:=.agg #[.int .i64 (loP f 0),.int .i64 (loP f 1),.int .i64 (loP f 2),.int .i64 (hiP f 0),.int .i64 (hiP f 1),.int .i64 (hiP f 2)]) (by simp [results,Tryz.results90,go_sem, *]) rfl ⟨rfl,S_⟩
theorem iSurfaceBox_val (f g:Nat→Int) (sh rt:Int) (w:World):Calls Tryz.prog 37 #[.agg #[.int .i64 (f 0),.int .i64 (f 1),.int .i64 (f 2),.int .i64 (f 3),.int .i64 (f 4),.int .i64 (f 5),.int .i64 (f 6),.int .i64 (f 7),.int .i64 (f 8),.int .i64 (f 9),.int .i64 (f 10),.int .i64 (f 11),.int .i64 (g 0),.int .i64 (g 1),.int .i64 (g 2),.int .i64 (g 3),.int .i64 (g 4),.int .i64 (g 5),.int .i64 (g 6),.int .i64 (g 7),.int .i64 (g 8),.int .i64 (g 9),.int .i64 (g 10),.int .i64 (g 11),.int .i64 sh,.int .i64 rt]] w fun e w'=>e = .returned (.agg #[.int .i64 (loS f g 0),.int .i64 (loS f g 1),.int .i64 (loS f g 2),.int .i64 (hiS f g 0),.int .i64 (hiS f g 1),.int .i64 (hiS f g 2)])∧Ext w w':=by
 have H0:=hid (show min3 (cl (loP f 0)) (cl (loP g 0))=loS f g 0 by rw [cl_loP,cl_loP];rfl);have H1:=hid (show min3 (cl (loP f 1)) (cl (loP g 1))=loS f g 1 by rw [cl_loP,cl_loP];rfl);have H2:=hid (show min3 (cl (loP f 2)) (cl (loP g 2))=loS f g 2 by rw [cl_loP,cl_loP];rfl);have H3:=hid (show max3 (cl (hiP f 0)) (cl (hiP g 0))=hiS f g 0 by rw [cl_hiP,cl_hiP];rfl);have H4:=hid (show max3 (cl (hiP f 1)) (cl (hiP g 1))=hiS f g 1 by rw [cl_hiP,cl_hiP];rfl);have H5:=hid (show max3 (cl (hiP f 2)) (cl (hiP g 2))=hiS f g 2 by rw [cl_hiP,cl_hiP];rfl);go_enter Tryz.func37,Tryz.ntmps37;go_upto_region 1 with fail
 obtain ⟨W0,hW0⟩:∃W0,(w.alloc (.cells #[.int .i64 (f 0),.int .i64 (f 1),.int .i64 (f 2),.int .i64 (f 3),.int .i64 (f 4),.int .i64 (f 5),.int .i64 (f 6),.int .i64 (f 7),.int .i64 (f 8),.int .i64 (f 9),.int .i64 (f 10),.int .i64 (f 11),.int .i64 (g 0),.int .i64 (g 1),.int .i64 (g 2),.int .i64 (g 3),.int .i64 (g 4),.int .i64 (g 5),.int .i64 (g 6),.int .i64 (g 7),.int .i64 (g 8),.int .i64 (g 9),.int .i64 (g 10),.int .i64 (g 11),.int .i64 sh,.int .i64 rt] 42)).alloc (.cells #[.int .i64 0,.int .i64 0,.int .i64 0,.int .i64 0,.int .i64 0,.int .i64 0] 86)=W0:=⟨_,rfl⟩
 have bS:Blk W0 w.heap.size 42 [.int .i64 (f 0),.int .i64 (f 1),.int .i64 (f 2),.int .i64 (f 3),.int .i64 (f 4),.int .i64 (f 5),.int .i64 (f 6),.int .i64 (f 7),.int .i64 (f 8),.int .i64 (f 9),.int .i64 (f 10),.int .i64 (f 11),.int .i64 (g 0),.int .i64 (g 1),.int .i64 (g 2),.int .i64 (g 3),.int .i64 (g 4),.int .i64 (g 5),.int .i64 (g 6),.int .i64 (g 7),.int .i64 (g 8),.int .i64 (g 9),.int .i64 (g 10),.int .i64 (g 11),.int .i64 sh,.int .i64 rt]:=by rw [←hW0];exact (Blk.new w 42 [.int .i64 (f 0),.int .i64 (f 1),.int .i64 (f 2),.int .i64 (f 3),.int .i64 (f 4),.int .i64 (f 5),.int .i64 (f 6),.int .i64 (f 7),.int .i64 (f 8),.int .i64 (f 9),.int .i64 (f 10),.int .i64 (f 11),.int .i64 (g 0),.int .i64 (g 1),.int .i64 (g 2),.int .i64 (g 3),.int .i64 (g 4),.int .i64 (g 5),.int .i64 (g 6),.int .i64 (g 7),.int .i64 (g 8),.int .i64 (g 9),.int .i64 (g 10),.int .i64 (g 11),.int .i64 sh,.int .i64 rt]).ext X_
 have bB:Blk W0 (w.heap.size+1) 86 [.int .i64 0,.int .i64 0,.int .i64 0,.int .i64 0,.int .i64 0,.int .i64 0]:=by
  rw [←hW0];have h:=Blk.new (w.alloc (.cells #[.int .i64 (f 0),.int .i64 (f 1),.int .i64 (f 2),.int .i64 (f 3),.int .i64 (f 4),.int .i64 (f 5),.int .i64 (f 6),.int .i64 (f 7),.int .i64 (f 8),.int .i64 (f 9),.int .i64 (f 10),.int .i64 (f 11),.int .i64 (g 0),.int .i64 (g 1),.int .i64 (g 2),.int .i64 (g 3),.int .i64 (g 4),.int .i64 (g 5),.int .i64 (g 6),.int .i64 (g 7),.int .i64 (g 8),.int .i64 (g 9),.int .i64 (g 10),.int .i64 (g 11),.int .i64 sh,.int .i64 rt] 42)) 86 [.int .i64 0,.int .i64 0,.int .i64 0,.int .i64 0,.int .i64 0,.int .i64 0];rw [World.size_alloc] at h;exact h
 have X0:Ext w W0:=by rw [←hW0];exact X_
 rw [hW0];clear hW0;have s0:=bS.cell 0 rfl;have s1:=bS.cell 1 rfl;have s2:=bS.cell 2 rfl;have s3:=bS.cell 3 rfl;have s4:=bS.cell 4 rfl;have s5:=bS.cell 5 rfl;have s6:=bS.cell 6 rfl;have s7:=bS.cell 7 rfl;have s8:=bS.cell 8 rfl;have s9:=bS.cell 9 rfl;have s10:=bS.cell 10 rfl;have s11:=bS.cell 11 rfl;have s12:=bS.cell 12 rfl;have s13:=bS.cell 13 rfl;have s14:=bS.cell 14 rfl;have s15:=bS.cell 15 rfl;have s16:=bS.cell 16 rfl;have s17:=bS.cell 17 rfl;have s18:=bS.cell 18 rfl;have s19:=bS.cell 19 rfl;have s20:=bS.cell 20 rfl;have s21:=bS.cell 21 rfl;have s22:=bS.cell 22 rfl;have s23:=bS.cell 23 rfl;have ls:=bS.lt;have HB:=hid bB;have HX:=hid X0;clear bS bB X0;refine wp_region_stages [([0,1,3,4],2),([],5),([],6),([],7)] 7 W0.heap.size (by kernel_rfl) (by kernel_rfl) ?_;refine wpStages_cons ?_;simp only [List.filterMap_cons,List.filterMap_nil,List.getElem?_toArray,List.getElem?_cons_zero,List.getElem?_cons_succ]
 show wpQuiet _ _ _ _ [_,_,_,_] _
 repeat (go_big_quiet_step (fail))
 refine wpQuiet_nil ⟨_,rfl,fun K hK=>?_⟩;go_wp2_with fail;refine (iPatchBounds_val f _).mono ?_;rintro e w3 ⟨rfl,x3⟩;have y3:Ext W0 w3:=Ext.trans (Ext.drew (Ext.refl _)) x3;go_wp2_with fail;refine hK _ _ (.inr (y3.same (Nat.le_refl _))) ?_;clear hK K;refine st_ fun K hK=>?_;go_wp2_with fail;refine (iPatchBounds_val g _).mono ?_;rintro e w4 ⟨rfl,x4⟩;have y4:=y3.trans x4;go_wp2_with fail;refine hK _ _ (.inr (y4.same (Nat.le_refl _))) ?_;clear hK K;refine st_ fun K hK=>?_;go_wp2_with fail;refine (iUnionBox_val H0.out H1.out H2.out H3.out H4.out H5.out _).mono ?_;rintro e w5 ⟨rfl,x5⟩;have y5:=y4.trans x5;go_wp2_with fail;refine hK _ _ (.inr (y5.same (Nat.le_refl _))) ?_;clear hK K;have b5:=HB.out.ext y5;have z5:=HX.out.trans y5;have l5:=b5.lt;have c0:=b5.cell 0 rfl;have k0:=b5.free 0;have c1:=b5.cell 1 rfl;have k1:=b5.free 1;have c2:=b5.cell 2 rfl;have k2:=b5.free 2;have c3:=b5.cell 3 rfl;have k3:=b5.free 3;have c4:=b5.cell 4 rfl;have k4:=b5.free 4;have c5:=b5.cell 5 rfl;have k5:=b5.free 5;clear b5 x3 y3 x4 y4 x5 y5 s0 s1 s2 s3 s4 s5 s6 s7 s8 s9 s10 s11 s12 s13 s14 s15 s16 s17 s18 s19 s20 s21 s22 s23 ls;refine st_ fun K hK=>?_;go_wp2_with fail;refine hK _ _ (.inl (by trivial)) ?_;clear hK K;refine wpStages_nil ?_;go_wp2;refine bodyPost_ret (v:=.agg #[.int .i64 (loS f g 0),.int .i64 (loS f g 1),.int .i64 (loS f g 2),.int .i64 (hiS f g 0),.int .i64 (hiS f g 1),.int .i64 (hiS f g 2)]) (by simp [results,Tryz.results37,go_sem, *]) rfl ⟨rfl,S_⟩
theorem iSurfaceNear_val (f g:Nat→Int) (sh rt:Int) (w:World):Calls Tryz.prog 10 #[.agg #[.int .i64 (f 0),.int .i64 (f 1),.int .i64 (f 2),.int .i64 (f 3),.int .i64 (f 4),.int .i64 (f 5),.int .i64 (f 6),.int .i64 (f 7),.int .i64 (f 8),.int .i64 (f 9),.int .i64 (f 10),.int .i64 (f 11),.int .i64 (g 0),.int .i64 (g 1),.int .i64 (g 2),.int .i64 (g 3),.int .i64 (g 4),.int .i64 (g 5),.int .i64 (g 6),.int .i64 (g 7),.int .i64 (g 8),.int .i64 (g 9),.int .i64 (g 10),.int .i64 (g 11),.int .i64 sh,.int .i64 rt]] w fun e w'=>e = .returned (.int .i64 (nearS f g))∧Ext w w':=by
 have hN:=hid (show loS f g 2=nearS f g from rfl)
 have j0:∀w:World,(Instr.field 86 (.agg #[.int .i64 (loS f g 0),.int .i64 (loS f g 1),.int .i64 (loS f g 2),.int .i64 (hiS f g 0),.int .i64 (hiS f g 1),.int .i64 (hiS f g 2)]) 0).run Tryz.prog w = .ok (.agg #[.int .i64 (loS f g 0),.int .i64 (loS f g 1),.int .i64 (loS f g 2)]) w:=fun _=>by kernel_rfl
 have j1:∀w:World,(Instr.field 37 (.agg #[.int .i64 (loS f g 0),.int .i64 (loS f g 1),.int .i64 (loS f g 2)]) 2).run Tryz.prog w = .ok (.int .i64 (loS f g 2)) w:=fun _=>by kernel_rfl
 have hcA:=(Blk.new w 42 [.int .i64 (f 0),.int .i64 (f 1),.int .i64 (f 2),.int .i64 (f 3),.int .i64 (f 4),.int .i64 (f 5),.int .i64 (f 6),.int .i64 (f 7),.int .i64 (f 8),.int .i64 (f 9),.int .i64 (f 10),.int .i64 (f 11),.int .i64 (g 0),.int .i64 (g 1),.int .i64 (g 2),.int .i64 (g 3),.int .i64 (g 4),.int .i64 (g 5),.int .i64 (g 6),.int .i64 (g 7),.int .i64 (g 8),.int .i64 (g 9),.int .i64 (g 10),.int .i64 (g 11),.int .i64 sh,.int .i64 rt]).rangeB;have X0:Ext w (w.alloc (.cells #[.int .i64 (f 0),.int .i64 (f 1),.int .i64 (f 2),.int .i64 (f 3),.int .i64 (f 4),.int .i64 (f 5),.int .i64 (f 6),.int .i64 (f 7),.int .i64 (f 8),.int .i64 (f 9),.int .i64 (f 10),.int .i64 (f 11),.int .i64 (g 0),.int .i64 (g 1),.int .i64 (g 2),.int .i64 (g 3),.int .i64 (g 4),.int .i64 (g 5),.int .i64 (g 6),.int .i64 (g 7),.int .i64 (g 8),.int .i64 (g 9),.int .i64 (g 10),.int .i64 (g 11),.int .i64 sh,.int .i64 rt] 42)):=X_;have HX:=hid X0;clear X0;go_enter Tryz.func10,Tryz.ntmps10;go_wp2_with (show wpList _ _ _ [_,_,_,_,_] _ _;refine wpList_load_mid rfl _ _ rfl w.heap.size 0 rfl [.int .i64 (f 0),.int .i64 (f 1),.int .i64 (f 2),.int .i64 (f 3),.int .i64 (f 4),.int .i64 (f 5),.int .i64 (f 6),.int .i64 (f 7),.int .i64 (f 8),.int .i64 (f 9),.int .i64 (f 10),.int .i64 (f 11),.int .i64 (g 0),.int .i64 (g 1),.int .i64 (g 2),.int .i64 (g 3),.int .i64 (g 4),.int .i64 (g 5),.int .i64 (g 6),.int .i64 (g 7),.int .i64 (g 8),.int .i64 (g 9),.int .i64 (g 10),.int .i64 (g 11),.int .i64 sh,.int .i64 rt] _ hcA Tryz.underlying42 rfl info_srfS ?_);refine (iSurfaceBox_val f g sh rt _).mono ?_;rintro e w3 ⟨rfl,x3⟩;have y3:=HX.out.trans x3;clear hcA;go_wp2;go_ret;exact ⟨ret_int hN.out,y3⟩
theorem sApplyAll3 {f:Nat→Int} {n:Nat} {x y z q1 q2 q3:Int} (hq:appAll f n ⟨x,y,z⟩=⟨q1,q2,q3⟩) {lo hi:Nat} {u:Value} {w:World} (hu:Flats 12 lo hi w u n f) (hh:hi≤w.heap.size) :
  Calls Tryz.prog 204 #[u,.agg #[.int .i64 x,.int .i64 y,.int .i64 z]] w fun e w'=>e = .returned (.agg #[.int .i64 q1,.int .i64 q2,.int .i64 q3])∧Ext w w':=sApplyAll_val lo hi u n f ⟨x,y,z⟩ ⟨q1,q2,q3⟩ hq w hu hh
def TPatch (F:Nat→Int) (n:Nat) (f q:Nat→Int):Prop:=∀j,j<4→appAll F n ⟨f (j*3),f (j*3+1),f (j*3+2)⟩=⟨q (j*3),q (j*3+1),q (j*3+2)⟩
theorem sTransformPatch_val (lo hi:Nat) (u:Value) (n:Nat) (g f q:Nat→Int) (hq:TPatch g n f q) (w:World) (hu:Flats 12 lo hi w u n g) (hh:hi≤w.heap.size) :
  Calls Tryz.prog 143 #[u,.agg #[.int .i64 (f 0),.int .i64 (f 1),.int .i64 (f 2),.int .i64 (f 3),.int .i64 (f 4),.int .i64 (f 5),.int .i64 (f 6),.int .i64 (f 7),.int .i64 (f 8),.int .i64 (f 9),.int .i64 (f 10),.int .i64 (f 11)]] w fun e w'=>e = .returned (.agg #[.int .i64 (q 0),.int .i64 (q 1),.int .i64 (q 2),.int .i64 (q 3),.int .i64 (q 4),.int .i64 (q 5),.int .i64 (q 6),.int .i64 (q 7),.int .i64 (q 8),.int .i64 (q 9),.int .i64 (q 10),.int .i64 (q 11)])∧Ext w w':=by
 have i0:∀w:World,(Instr.index 38 (.agg #[.int .i64 (f 0),.int .i64 (f 1),.int .i64 (f 2),.int .i64 (f 3),.int .i64 (f 4),.int .i64 (f 5),.int .i64 (f 6),.int .i64 (f 7),.int .i64 (f 8),.int .i64 (f 9),.int .i64 (f 10),.int .i64 (f 11)]) (.int .i64 0)).run Tryz.prog w = .ok (.agg #[.int .i64 (f 0),.int .i64 (f 1),.int .i64 (f 2)]) w:=fun _=>by kernel_rfl
 have i1:∀w:World,(Instr.index 38 (.agg #[.int .i64 (f 0),.int .i64 (f 1),.int .i64 (f 2),.int .i64 (f 3),.int .i64 (f 4),.int .i64 (f 5),.int .i64 (f 6),.int .i64 (f 7),.int .i64 (f 8),.int .i64 (f 9),.int .i64 (f 10),.int .i64 (f 11)]) (.int .i64 1)).run Tryz.prog w = .ok (.agg #[.int .i64 (f 3),.int .i64 (f 4),.int .i64 (f 5)]) w:=fun _=>by kernel_rfl
 have i2:∀w:World,(Instr.index 38 (.agg #[.int .i64 (f 0),.int .i64 (f 1),.int .i64 (f 2),.int .i64 (f 3),.int .i64 (f 4),.int .i64 (f 5),.int .i64 (f 6),.int .i64 (f 7),.int .i64 (f 8),.int .i64 (f 9),.int .i64 (f 10),.int .i64 (f 11)]) (.int .i64 2)).run Tryz.prog w = .ok (.agg #[.int .i64 (f 6),.int .i64 (f 7),.int .i64 (f 8)]) w:=fun _=>by kernel_rfl
 have i3:∀w:World,(Instr.index 38 (.agg #[.int .i64 (f 0),.int .i64 (f 1),.int .i64 (f 2),.int .i64 (f 3),.int .i64 (f 4),.int .i64 (f 5),.int .i64 (f 6),.int .i64 (f 7),.int .i64 (f 8),.int .i64 (f 9),.int .i64 (f 10),.int .i64 (f 11)]) (.int .i64 3)).run Tryz.prog w = .ok (.agg #[.int .i64 (f 9),.int .i64 (f 10),.int .i64 (f 11)]) w:=fun _=>by kernel_rfl
 have A0:=hid (hq 0 (by decide));have A1:=hid (hq 1 (by decide));have A2:=hid (hq 2 (by decide));have A3:=hid (hq 3 (by decide));clear hq;obtain ⟨a,cap,rfl,HU⟩:=hu.open;have HV:=hid hu;clear hu HU;go_enter Tryz.func143,Tryz.ntmps143;go_wp2
 go_loopw [11] (fun i wr=>∃k c:Nat,c=k*3∧k≤4∧i = .int .i64 k∧Ext w wr∧RowI wr (w.heap.size+1) 40 12 (fun _=>0)∧RowI wr (w.heap.size+1+1) 40 12 (mixI f q c)) (fun i _=>4 - (intOf i).toNat)
 case atStart=>
  refine ⟨0,0,rfl,by omega,rfl,S_,?_,?_⟩
  ·refine RowI.ext (rowI12_new (w:=w.alloc (.cells #[.int .i64 (f 0),.int .i64 (f 1),.int .i64 (f 2),.int .i64 (f 3),.int .i64 (f 4),.int .i64 (f 5),.int .i64 (f 6),.int .i64 (f 7),.int .i64 (f 8),.int .i64 (f 9),.int .i64 (f 10),.int .i64 (f 11)] 40)) (f:=fun _=>0) (by simp)) ?_
   exact S_
  ·exact RowI.mix0 (rowI12_new (by simp))
 case round=>
  obtain ⟨k,c,hc,hk,rfl,hE,h1,h2⟩:=hrel
  by_cases hlt:k<4
  ·have s0:=h1.lt
   have s1:=h2.lt;have H1:=hid h1;have H2:=hid h2;have HE:=hid hE;clear h1 h2 hE
   have hk4:k=0∨k=1∨k=2∨k=3:=by omega
   rcases hk4 with h|h|h|h <;> subst h
   ·obtain rfl:c=0:=by omega
    clear hc;go_wp2_with fail;refine (sApplyAll3 A0.out (HV.out.ext hh (Ext.trans HE.out S_)) (by have:=HE.out.size;simp;omega)).mono ?_;rintro e w2 ⟨rfl,y2⟩;have x2:Ext wr w2:=Ext.trans S_ y2;have h2:=H2.out.ext x2;have d0:=h2.cell (i:=0) (by decide);have e0:=h2.frozen 0;have d1:=h2.cell (i:=1) (by decide);have e1:=h2.frozen 1;have d2:=h2.cell (i:=2) (by decide);have e2:=h2.frozen 2;have G1:=hid (H1.out.ext x2);have G2:=hid h2;have GE:=hid (HE.out.trans x2);clear h2 H1 H2 HE x2 y2;go_wp2;go_roundw
    case rel=>
     refine ⟨1,3,rfl,by omega,by go_num,?_,?_,?_⟩
     ·have hE:=GE.out
      exact S_
     ·exact ((G1.out.other (by simp) _).other (by simp) _).other (by simp) _
     ·exact RowI.mix (c:=2) (RowI.mix (c:=1) (RowI.mix (c:=0) G2.out rfl rfl) rfl rfl) rfl rfl
    case measure=>simp [intOf]
   ·obtain rfl:c=3:=by omega
    clear hc;go_wp2_with fail;refine (sApplyAll3 A1.out (HV.out.ext hh (Ext.trans HE.out S_)) (by have:=HE.out.size;simp;omega)).mono ?_;rintro e w2 ⟨rfl,y2⟩;have x2:Ext wr w2:=Ext.trans S_ y2;have h2:=H2.out.ext x2;have d0:=h2.cell (i:=3) (by decide);have e0:=h2.frozen 3;have d1:=h2.cell (i:=4) (by decide);have e1:=h2.frozen 4;have d2:=h2.cell (i:=5) (by decide);have e2:=h2.frozen 5;have G1:=hid (H1.out.ext x2);have G2:=hid h2;have GE:=hid (HE.out.trans x2);clear h2 H1 H2 HE x2 y2;go_wp2;go_roundw
    case rel=>
     refine ⟨2,6,rfl,by omega,by go_num,?_,?_,?_⟩
     ·have hE:=GE.out
      exact S_
     ·exact ((G1.out.other (by simp) _).other (by simp) _).other (by simp) _
     ·exact RowI.mix (c:=5) (RowI.mix (c:=4) (RowI.mix (c:=3) G2.out rfl rfl) rfl rfl) rfl rfl
    case measure=>simp [intOf]
   ·obtain rfl:c=6:=by omega
    clear hc;go_wp2_with fail;refine (sApplyAll3 A2.out (HV.out.ext hh (Ext.trans HE.out S_)) (by have:=HE.out.size;simp;omega)).mono ?_;rintro e w2 ⟨rfl,y2⟩;have x2:Ext wr w2:=Ext.trans S_ y2;have h2:=H2.out.ext x2;have d0:=h2.cell (i:=6) (by decide);have e0:=h2.frozen 6;have d1:=h2.cell (i:=7) (by decide);have e1:=h2.frozen 7;have d2:=h2.cell (i:=8) (by decide);have e2:=h2.frozen 8;have G1:=hid (H1.out.ext x2);have G2:=hid h2;have GE:=hid (HE.out.trans x2);clear h2 H1 H2 HE x2 y2;go_wp2;go_roundw
    case rel=>
     refine ⟨3,9,rfl,by omega,by go_num,?_,?_,?_⟩
     ·have hE:=GE.out
      exact S_
     ·exact ((G1.out.other (by simp) _).other (by simp) _).other (by simp) _
     ·exact RowI.mix (c:=8) (RowI.mix (c:=7) (RowI.mix (c:=6) G2.out rfl rfl) rfl rfl) rfl rfl
    case measure=>simp [intOf]
   ·obtain rfl:c=9:=by omega
    clear hc;go_wp2_with fail;refine (sApplyAll3 A3.out (HV.out.ext hh (Ext.trans HE.out S_)) (by have:=HE.out.size;simp;omega)).mono ?_;rintro e w2 ⟨rfl,y2⟩;have x2:Ext wr w2:=Ext.trans S_ y2;have h2:=H2.out.ext x2;have d0:=h2.cell (i:=9) (by decide);have e0:=h2.frozen 9;have d1:=h2.cell (i:=10) (by decide);have e1:=h2.frozen 10;have d2:=h2.cell (i:=11) (by decide);have e2:=h2.frozen 11;have G1:=hid (H1.out.ext x2);have G2:=hid h2;have GE:=hid (HE.out.trans x2);clear h2 H1 H2 HE x2 y2;go_wp2;go_roundw
    case rel=>
     refine ⟨4,12,rfl,by omega,by go_num,?_,?_,?_⟩
     ·have hE:=GE.out
      exact S_
     ·exact ((G1.out.other (by simp) _).other (by simp) _).other (by simp) _
     ·exact RowI.mix (c:=11) (RowI.mix (c:=10) (RowI.mix (c:=9) G2.out rfl rfl) rfl rfl) rfl rfl
    case measure=>simp [intOf]
  ·obtain rfl:k=4:=by omega
   obtain rfl:c=12:=by omega
   clear hc;have h2:=h2.mixAll;have c0:=h2.cell (i:=0) (by decide);have d0:=h1.cell (i:=0) (by decide);have e0:=h1.frozen 0;have c1:=h2.cell (i:=1) (by decide);have d1:=h1.cell (i:=1) (by decide);have e1:=h1.frozen 1;have c2:=h2.cell (i:=2) (by decide);have d2:=h1.cell (i:=2) (by decide);have e2:=h1.frozen 2;have c3:=h2.cell (i:=3) (by decide);have d3:=h1.cell (i:=3) (by decide);have e3:=h1.frozen 3;have c4:=h2.cell (i:=4) (by decide);have d4:=h1.cell (i:=4) (by decide);have e4:=h1.frozen 4;have c5:=h2.cell (i:=5) (by decide);have d5:=h1.cell (i:=5) (by decide);have e5:=h1.frozen 5;have c6:=h2.cell (i:=6) (by decide);have d6:=h1.cell (i:=6) (by decide);have e6:=h1.frozen 6;have c7:=h2.cell (i:=7) (by decide);have d7:=h1.cell (i:=7) (by decide);have e7:=h1.frozen 7;have c8:=h2.cell (i:=8) (by decide);have d8:=h1.cell (i:=8) (by decide);have e8:=h1.frozen 8;have c9:=h2.cell (i:=9) (by decide);have d9:=h1.cell (i:=9) (by decide);have e9:=h1.frozen 9;have c10:=h2.cell (i:=10) (by decide);have d10:=h1.cell (i:=10) (by decide);have e10:=h1.frozen 10;have c11:=h2.cell (i:=11) (by decide);have d11:=h1.cell (i:=11) (by decide);have e11:=h1.frozen 11;have HE:=hid hE;clear h1 h2 hE;go_wp2;exact bodyPost_ret (v:=.agg #[.int .i64 (q 0),.int .i64 (q 1),.int .i64 (q 2),.int .i64 (q 3),.int .i64 (q 4),.int .i64 (q 5),.int .i64 (q 6),.int .i64 (q 7),.int .i64 (q 8),.int .i64 (q 9),.int .i64 (q 10),.int .i64 (q 11)]) (by simp [results,Tryz.results143,go_sem, *]) rfl ⟨rfl,by have hE:=HE.out;exact S_⟩
def trX (dx dy dz:Int):Nat→Int:=fun j=>if j=0 then 16 else if j=4 then 16 else if j=8 then 16 else if j=9 then dx else if j=10 then dy else if j=11 then dz else 0
def movP (f:Nat→Int) (dx dy dz:Int):Nat→Int:=fun j=>f j+(if j % 3=0 then dx else if j % 3=1 then dy else dz)
theorem addC_in {x o:Int} (hx : -900000≤x∧x≤900000) (ho : -1000≤o∧o≤1000):addC x o=x+o:=by
 unfold addC;rw [cl_fixed (x:=x) (by omega),cl_fixed (x:=o) (by omega),cl_fixed (x:=x+o) (by omega)]
theorem fdiv_16 (x:Int):fdiv (16*x) 16=x:=by
 unfold fdiv;rw [if_neg (by decide)];omega
theorem trX_app {dx dy dz x y z:Int} (hd:(-1000≤dx∧dx≤1000)∧(-1000≤dy∧dy≤1000)∧(-1000≤dz∧dz≤1000)) (hx : -900000≤x∧x≤900000) (hy : -900000≤y∧y≤900000) (hz : -900000≤z∧z≤900000) :
  (xfAt (trX dx dy dz) 0).app ⟨x,y,z⟩=⟨x+dx,y+dy,z+dz⟩:=by
 have e:xfAt (trX dx dy dz) 0=⟨16,0,0,0,16,0,0,0,16,dx,dy,dz⟩:=rfl
 have ok:(⟨16,0,0,0,16,0,0,0,16,dx,dy,dz⟩:Xf).ok=true:=by
  unfold Xf.ok;rw [Bool.and_eq_true,okVec_iff];exact ⟨rfl,⟨by show -1000000≤dx;omega,by show dx≤1000000;omega⟩,⟨by show -1000000≤dy;omega,by show dy≤1000000;omega⟩,⟨by show -1000000≤dz;omega,by show dz≤1000000;omega⟩⟩
 rw [e];unfold Xf.app;rw [if_pos ok]
 have d1:dotC 16 0 0 x y z=16*x:=by unfold dotC;rw [cl_fixed (x:=16) (by decide),cl_fixed (x:=0) (by decide),cl_fixed (x:=x) (by omega)];omega
 have d2:dotC 0 16 0 x y z=16*y:=by unfold dotC;rw [cl_fixed (x:=16) (by decide),cl_fixed (x:=0) (by decide),cl_fixed (x:=y) (by omega)];omega
 have d3:dotC 0 0 16 x y z=16*z:=by unfold dotC;rw [cl_fixed (x:=16) (by decide),cl_fixed (x:=0) (by decide),cl_fixed (x:=z) (by omega)];omega
 simp only [appC,d1,d2,d3,fdiv_16];rw [addC_in hx hd.1,addC_in hy hd.2.1,addC_in hz hd.2.2]
theorem tPatch_mov {f:Nat→Int} {dx dy dz:Int} (hd:(-1000≤dx∧dx≤1000)∧(-1000≤dy∧dy≤1000)∧(-1000≤dz∧dz≤1000)) (hf:∀j,-1000≤f j∧f j≤1000):TPatch (trX dx dy dz) 1 f (movP f dx dy dz):=by
 intro j _;have h0:=hf (j*3);have h1:=hf (j*3+1);have h2:=hf (j*3+2)
 show (xfAt (trX dx dy dz) 0).app ⟨f (j*3),f (j*3+1),f (j*3+2)⟩=_
 rw [trX_app hd (by omega) (by omega) (by omega)]
 have e0:movP f dx dy dz (j*3)=f (j*3)+dx:=by unfold movP;rw [if_pos (by omega)]
 have e1:movP f dx dy dz (j*3+1)=f (j*3+1)+dy:=by unfold movP;rw [if_neg (by omega),if_pos (by omega)]
 have e2:movP f dx dy dz (j*3+2)=f (j*3+2)+dz:=by unfold movP;rw [if_neg (by omega),if_neg (by omega)]
 rw [e0,e1,e2]
theorem movP_bd {f:Nat→Int} {dx dy dz:Int} (hd:(-60≤dx∧dx≤60)∧(-60≤dy∧dy≤60)∧(-60≤dz∧dz≤60)) (hf:∀j,-1000≤f j∧f j≤1000) (j:Nat) : -1060≤movP f dx dy dz j∧movP f dx dy dz j≤1060:=by
 have h:=hf j;unfold movP
 split
 ·omega
 ·split <;> omega
theorem movP_z {f:Nat→Int} {dx dy dz:Int} (hz:0≤dz) {j:Nat} (hj:j % 3=2) {m:Int} (h:m≤f j):m≤movP f dx dy dz j:=by
 unfold movP;rw [if_neg (by omega),if_neg (by omega)];omega
theorem near_ge {f g:Nat→Int} {m:Int} (hm:m≤1000000) (hf:m≤f 2∧m≤f 5∧m≤f 8∧m≤f 11) (hg:m≤g 2∧m≤g 5∧m≤g 8∧m≤g 11):m≤nearS f g:=by
 have k:∀x,m≤x→m≤cl x:=fun x hx=>by
  unfold cl clampI
  split
  ·omega
  ·split <;> omega
 exact le_min3 (le_min3 (le_min3 (le_min3 (k _ hf.1) (k _ hf.2.1)) (k _ hf.2.2.1)) (k _ hf.2.2.2)) (le_min3 (le_min3 (le_min3 (k _ hg.1) (k _ hg.2.1)) (k _ hg.2.2.1)) (k _ hg.2.2.2))
theorem sIdentity_val (w:World):Calls Tryz.prog 205 #[] w fun e w'=>e = .returned (.agg #[.int .i64 16,.int .i64 0,.int .i64 0,.int .i64 0,.int .i64 16,.int .i64 0,.int .i64 0,.int .i64 0,.int .i64 16,.int .i64 0,.int .i64 0,.int .i64 0])∧Ext w w':=by
 go_enter Tryz.func205,Tryz.ntmps205;go_wp2;refine bodyPost_ret (v:=.agg #[.int .i64 16,.int .i64 0,.int .i64 0,.int .i64 0,.int .i64 16,.int .i64 0,.int .i64 0,.int .i64 0,.int .i64 16,.int .i64 0,.int .i64 0,.int .i64 0]) (by simp [results,Tryz.results205,go_sem]) rfl ⟨rfl,?_⟩;exact S_
theorem sTranslation_val (x y z:Int) (h:okVec x y z=true) (w:World):Calls Tryz.prog 144 #[.agg #[.int .i64 x,.int .i64 y,.int .i64 z]] w fun e w'=>e = .returned (.agg #[.int .i64 16,.int .i64 0,.int .i64 0,.int .i64 0,.int .i64 16,.int .i64 0,.int .i64 0,.int .i64 0,.int .i64 16,.int .i64 x,.int .i64 y,.int .i64 z])∧Ext w w':=by
 have HOK:=hid h;clear h;go_enter Tryz.func144,Tryz.ntmps144;go_wp2_with fail;refine (sIdentity_val _).mono ?_;rintro e w2 ⟨rfl,x2⟩
 have R2:Blk w2 (w.heap.size+1) 226 [.int .i64 0,.int .i64 0,.int .i64 0,.int .i64 0,.int .i64 0,.int .i64 0,.int .i64 0,.int .i64 0,.int .i64 0,.int .i64 0,.int .i64 0,.int .i64 0]:=by
  have h:=(Blk.new (w.alloc (.cells #[.int .i64 x,.int .i64 y,.int .i64 z] 37)) 226 [.int .i64 0,.int .i64 0,.int .i64 0,.int .i64 0,.int .i64 0,.int .i64 0,.int .i64 0,.int .i64 0,.int .i64 0,.int .i64 0,.int .i64 0,.int .i64 0]).ext x2;rw [World.size_alloc] at h;exact h
 have V2:=(Blk.new w 37 [.int .i64 x,.int .i64 y,.int .i64 z]).ext (((Ext.refl _).alloc _).trans x2);have E2:Ext w w2:=Ext.trans X_ x2;have HR2:=hid R2;have HV2:=hid V2;obtain ⟨v0,v1,v2⟩:=V2.q3;have vl:=V2.lt;have rl:=R2.lt;clear x2 R2 V2;go_wp2_with fail;refine (sIsValidVec_val _).mono ?_;rw [HOK.out];rintro e w3 ⟨rfl,x3⟩;have y3:Ext w2 w3:=Ext.trans X_ x3;have M3:=(Blk.new w2 226 [.int .i64 16,.int .i64 0,.int .i64 0,.int .i64 0,.int .i64 16,.int .i64 0,.int .i64 0,.int .i64 0,.int .i64 16,.int .i64 0,.int .i64 0,.int .i64 0]).ext x3;have R3:=HR2.out.ext y3;have V3':=HV2.out.ext y3;have E3:=E2.trans y3;clear v0 v1 v2 x3;have v0:=V3'.cell 0 rfl;have v1:=V3'.cell 1 rfl;have v2:=V3'.cell 2 rfl;have vl':=V3'.lt;obtain ⟨m0,m1,m2,m3,m4,m5,m6,m7,m8,m9,m10,m11⟩:=M3.q12;have f0:=M3.free 0;have f1:=M3.free 1;have f2:=M3.free 2;have f3:=M3.free 3;have f4:=M3.free 4;have f5:=M3.free 5;have f6:=M3.free 6;have f7:=M3.free 7;have f8:=M3.free 8;have f9:=M3.free 9;have f10:=M3.free 10;have f11:=M3.free 11;obtain ⟨r0,r1,r2,r3,r4,r5,r6,r7,r8,r9,r10,r11⟩:=R3.q12;have g0:=R3.free 0;have g1:=R3.free 1;have g2:=R3.free 2;have g3:=R3.free 3;have g4:=R3.free 4;have g5:=R3.free 5;have g6:=R3.free 6;have g7:=R3.free 7;have g8:=R3.free 8;have g9:=R3.free 9;have g10:=R3.free 10;have g11:=R3.free 11;have ml:=M3.lt;have rl':=R3.lt;clear M3 R3 V3' y3;go_wp2;refine bodyPost_ret (v:=.agg #[.int .i64 16,.int .i64 0,.int .i64 0,.int .i64 0,.int .i64 16,.int .i64 0,.int .i64 0,.int .i64 0,.int .i64 16,.int .i64 x,.int .i64 y,.int .i64 z]) (by simp [results,Tryz.results144,go_sem, *]) rfl ⟨rfl,?_⟩;have z2:=E2.size;exact S_
theorem l01Once_any (hi B:Nat) (n:Int) (w:World) (hc:Cur hi w B) (h0:0<n) (hn:I64 n) :
  Calls Tryz.prog 142 #[.pointer (some ⟨B,0,none⟩),.int .i64 n] w fun e w'=>∃b:Bool,e = .returned (.bool b)∧Cur hi w' B∧Gr B w w':=by
 have HC:=hid hc;clear hc;go_enter Tryz.func142,Tryz.ntmps142;go_wp2_with fail;refine (l01Below_any hi B n _ HC.out h0 hn).mono ?_;rintro e w1 ⟨x,rfl,⟨x0,x1⟩,C1,G1⟩;go_wp2;go_ret;exact ⟨_,rfl,C1,G1⟩
theorem l01Str_any (hi B g n m:Nat) (xs:List ByteArray) (w:World) (hc:Cur hi w B) (hg:Blk w g 9 (xs.map Value.string)) (hne:g≠B) (hn:xs.length=n) (h1:1≤n) (h2:n≤1000) (hm:∀x∈xs,x.size≤m) :
  Calls Tryz.prog 292 #[.pointer (some ⟨B,0,none⟩),.slice (some ⟨g,0,none⟩) n n] w fun e w'=>∃x:ByteArray,e = .returned (.string x)∧x.size≤m∧Cur hi w' B∧Gr B w w':=by
 have HC:=hid hc;have HG:=hid hg;have HN:=hid hn;have HM:=hid hm;clear hc hg hn hm;go_enter Tryz.func292,Tryz.ntmps292;go_wp2_with fail;refine (l01Below_any hi B n _ HC.out (by omega) ⟨by omega,by omega⟩).mono ?_;rintro e w1 ⟨x,rfl,⟨x0,x1⟩,C1,G1⟩
 obtain ⟨k,rfl⟩:∃k:Nat,x=k:=⟨x.toNat,by omega⟩
 have B1:=G1.blk HG.out hne
 have hk:k<xs.length:=by rw [HN.out];omega
 have c0:=B1.cell k (v:=.string xs[k]) (by simp [hk]);have hm:=HM.out _ (List.getElem_mem hk)
 obtain ⟨y,hy⟩:∃y,xs[k]=y:=⟨_,rfl⟩
 rw [hy] at c0 hm;have z1:=B1.lt
 have hkn:k<n:=by omega
 clear hy hk;go_wp2;go_ret;exact ⟨y,rfl,hm,C1,G1⟩
def eb:Nat→Nat
 | 0=>4
 | d+1=>2*eb d+20
theorem eb_le {d:Nat} (h:d≤2):eb d≤76:=by
 rcases (show d=0∨d=1∨d=2 by omega) with rfl|rfl|rfl <;> decide
def leaves:List ByteArray:=[⟨#[117]⟩,⟨#[118]⟩,⟨#[120]⟩,⟨#[121]⟩,⟨#[122]⟩,⟨#[116]⟩,⟨#[49]⟩,⟨#[48,46,53]⟩,⟨#[50]⟩,⟨#[48,46,50,53]⟩]
theorem leaves_le:∀x∈leaves,x.size≤4:=by
 intro x hx;simp only [leaves,List.mem_cons,List.not_mem_nil,or_false] at hx
 rcases hx with rfl|rfl|rfl|rfl|rfl|rfl|rfl|rfl|rfl|rfl <;> decide
theorem sExpr_any (hi B:Nat):∀(d:Nat) (w:World),d≤3→Cur hi w B→Calls Tryz.prog 260 #[.pointer (some ⟨B,0,none⟩),.int .i64 (d:Nat)] w fun e w'=>∃s:ByteArray,e = .returned (.string s)∧s.size≤eb d∧Cur hi w' B∧Gr B w w':=by
 intro d
 induction d with
 | zero=>
  intro w hd hc;have HC:=hid hc;have hB:=hc.lt;clear hc;go_enter Tryz.func260,Tryz.ntmps260;go_wp2_with fail;have x1:Ext w (w.alloc (.cells (leaves.map Value.string).toArray 9)):=X_;refine (l01Str_any hi B w.heap.size 10 4 leaves _ (HC.out.ext x1) (Blk.new w 9 (leaves.map Value.string)) (by omega) rfl (by decide) (by decide) leaves_le).mono ?_;rintro e w1 ⟨s,rfl,hs,C1,G1⟩;go_wp2;go_ret;exact ⟨s,rfl,hs,C1,((Gr.refl B w).ext x1).trans G1⟩
 | succ d ih=>
  intro w hd hc;have HC:=hid hc;have hB:=hc.lt
  have hdn : ¬((d:Int)+1≤0):=by omega
  have he:=eb_le (show d≤2 by omega);have IH:=hid ih;clear hc ih;go_enter Tryz.func260,Tryz.ntmps260;go_wp2_with fail;refine (l01Once_any hi B 4 _ HC.out (by decide) ⟨by decide,by decide⟩).mono ?_;rintro e w1 ⟨b,rfl,C1,G1⟩;have z1:=G1.size
  cases b
  ·go_wp2_with fail
   refine (IH.out _ (by omega) C1).mono ?_;rintro e w2 ⟨s2,rfl,h2,C2,G2⟩;go_wp2_with fail;refine (IH.out _ (by omega) C2).mono ?_;rintro e w3 ⟨s3,rfl,h3,C3,G3⟩;go_wp2_with fail;refine (l01Below_any hi B 14 _ C3 (by decide) ⟨by decide,by decide⟩).mono ?_;rintro e w4 ⟨x,rfl,⟨x0,x1⟩,C4,G4⟩;have G5:=hid (((G1.trans G2).trans G3).trans G4);have HC4:=hid C4;have he2:eb (d+1)=2*eb d+20:=rfl;have HE:=hid he2
   have h2':s2.size≤76:=by omega
   have h3':s3.size≤76:=by omega
   have HS2:=hid h2;have HS3:=hid h3;clear C1 G1 C2 G2 C3 G3 C4 G4 he2 h2 h3 he;go_wp2
   all_goals go_ret
   all_goals refine ⟨_,rfl,?_,HC4.out,G5.out⟩
   all_goals
    have h2:s2.data.size≤eb d:=HS2.out;have h3:s3.data.size≤eb d:=HS3.out;rw [HE.out];clear HS2 HS3 HE h2' h3';simp only [ByteArray.size_append];simp only [ByteArray.size,List.size_toArray,List.length_cons,List.length_nil];omega
  ·go_wp2_with fail
   have x1:Ext w1 (w1.alloc (.cells (leaves.map Value.string).toArray 9)):=X_;refine (l01Str_any hi B w1.heap.size 10 4 leaves _ (C1.ext x1) (Blk.new w1 9 (leaves.map Value.string)) (by omega) rfl (by decide) (by decide) leaves_le).mono ?_;rintro e w2 ⟨s,rfl,hs,C2,G2⟩;go_wp2;go_ret;exact ⟨s,rfl,by show s.size≤2*eb d+20;omega,C2,(G1.ext x1).trans G2⟩
theorem sSource_any (hi B:Nat) (w:World) (hc:Cur hi w B):Calls Tryz.prog 203 #[.pointer (some ⟨B,0,none⟩)] w fun e w'=>∃s:ByteArray,e = .returned (.string s)∧s.size≤2000∧Cur hi w' B∧Gr B w w':=by
 have HC:=hid hc;clear hc;have e1:eb 1=28:=rfl;have e2:eb 2=76:=rfl;have e3:eb 3=172:=rfl;go_enter Tryz.func203,Tryz.ntmps203;go_wp2_with fail;refine (l01Once_any hi B 2 _ HC.out (by decide) ⟨by decide,by decide⟩).mono ?_;rintro e w1 ⟨b,rfl,C1,G1⟩
 cases b
 ·go_wp2_with fail
  refine (sExpr_any hi B 3 _ (by decide) C1).mono ?_;rintro e w2 ⟨s2,rfl,h2,C2,G2⟩
  have g2:s2.data.size≤172:=by rw [e3] at h2;exact h2
  replace G2:=G1.trans G2;clear C1 G1;go_wp2_with fail;refine (l01Once_any hi B 3 _ C2 (by decide) ⟨by decide,by decide⟩).mono ?_;rintro e w4 ⟨b,rfl,C4,G4⟩;replace G4:=G2.trans G4;clear C2 G2
  cases b
  ·go_wp2
   go_ret;refine ⟨_,rfl,?_,C4,G4⟩;simp only [ByteArray.size_append];simp only [ByteArray.size,List.size_toArray,List.length_cons,List.length_nil];omega
  ·go_wp2_with fail
   refine (sExpr_any hi B 1 _ (by decide) C4).mono ?_;rintro e w5 ⟨s5,rfl,h5,C5,G5⟩
   have g5:s5.data.size≤28:=by rw [e1] at h5;exact h5
   replace G5:=G4.trans G5;clear C4 G4;go_wp2;go_ret;refine ⟨_,rfl,?_,C5,G5⟩;simp only [ByteArray.size_append];simp only [ByteArray.size,List.size_toArray,List.length_cons,List.length_nil];omega
 ·go_wp2_with fail
  refine (sExpr_any hi B 2 _ (by decide) C1).mono ?_;rintro e w2 ⟨s2,rfl,h2,C2,G2⟩
  have g2:s2.data.size≤76:=by rw [e2] at h2;exact h2
  replace G2:=G1.trans G2;clear C1 G1;go_wp2_with fail;refine (sExpr_any hi B 3 _ (by decide) C2).mono ?_;rintro e w3 ⟨s3,rfl,h3,C3,G3⟩
  have g3:s3.data.size≤172:=by rw [e3] at h3;exact h3
  replace G3:=G2.trans G3;clear C2 G2;go_wp2_with fail;refine (l01Once_any hi B 3 _ C3 (by decide) ⟨by decide,by decide⟩).mono ?_;rintro e w4 ⟨b,rfl,C4,G4⟩;replace G4:=G3.trans G4;clear C3 G3
  cases b
  ·go_wp2
   go_ret;refine ⟨_,rfl,?_,C4,G4⟩;simp only [ByteArray.size_append];simp only [ByteArray.size,List.size_toArray,List.length_cons,List.length_nil];omega
  ·go_wp2_with fail
   refine (sExpr_any hi B 1 _ (by decide) C4).mono ?_;rintro e w5 ⟨s5,rfl,h5,C5,G5⟩
   have g5:s5.data.size≤28:=by rw [e1] at h5;exact h5
   replace G5:=G4.trans G5;clear C4 G4;go_wp2;go_ret;refine ⟨_,rfl,?_,C5,G5⟩;simp only [ByteArray.size_append];simp only [ByteArray.size,List.size_toArray,List.length_cons,List.length_nil];omega
def Cam.ls (c:Cam):List Value:=[.int .i64 c.w,.int .i64 c.h,.int .i64 c.zoom,.int .i64 c.near,.bool c.deep,.int .i64 c.lens,.int .i64 c.focus]
structure Cam.Sm (c:Cam):Prop where
 w:2≤c.w∧c.w≤5
 h:2≤c.h∧c.h≤5
 zoom:1≤c.zoom∧c.zoom≤65536
 near:20≤c.near∧c.near≤80
 lens:0≤c.lens∧c.lens≤64
 focus:0≤c.focus∧c.focus≤1000000
theorem Cam.Sm.okB {c:Cam} (h:c.Sm):c.okB=true:=Cam.okB_iff.2 ⟨by have:=h.w;omega,by have:=h.h;omega,h.zoom,by have:=h.near;omega,h.lens,h.focus⟩
theorem Gr.keep {B:Nat} {w w1:World} (h:Gr B w w1) {g:Nat} (hg:g<w.heap.size) (ne:g≠B):w1.heap[g]?=w.heap[g]?:=h.block g hg (fun e=>ne (by simpa using e))
theorem l08Draw_any (hi B:Nat) (w:World) (hc:Cur hi w B):Calls Tryz.prog 137 #[.pointer (some ⟨B,0,none⟩)] w fun e w'=>∃c:Cam,e = .returned (.agg #[.int .i64 c.w,.int .i64 c.h,.int .i64 c.zoom,.int .i64 c.near,.bool c.deep,.int .i64 c.lens,.int .i64 c.focus])∧c.Sm∧Cur hi w' B∧Gr B w w':=by
 have zB:=hc.lt;have q0:=Blk.new w 24 [.int .i64 0,.int .i64 0,.int .i64 0,.int .i64 0,.bool false,.int .i64 0,.int .i64 0];have x0:Ext w (w.alloc (.cells #[.int .i64 0,.int .i64 0,.int .i64 0,.int .i64 0,.bool false,.int .i64 0,.int .i64 0] 24)):=X_;have HQ:=hid q0;have HC0:=hid (hc.ext x0);have HX0:=hid x0;have z1:(w.alloc (.cells #[.int .i64 0,.int .i64 0,.int .i64 0,.int .i64 0,.bool false,.int .i64 0,.int .i64 0] 24)).heap.size=w.heap.size+1:=World.size_alloc _ _;clear hc q0 x0;go_enter Tryz.func137,Tryz.ntmps137;go_wp2_with fail;refine (l01Below_any hi B 4 _ HC0.out (by decide) ⟨by decide,by decide⟩).mono ?_;rintro e w1 ⟨a,rfl,ha,C1,G1⟩;go_wp2_with fail;refine (l01Below_any hi B 4 _ C1 (by decide) ⟨by decide,by decide⟩).mono ?_;rintro e w2 ⟨b,rfl,hb,C2,G2⟩;go_wp2_with fail;refine (l01Below_any hi B 200 _ C2 (by decide) ⟨by decide,by decide⟩).mono ?_;rintro e w3 ⟨c,rfl,hcz,C3,G3⟩;go_wp2_with fail;refine (l01Below_any hi B 60 _ C3 (by decide) ⟨by decide,by decide⟩).mono ?_;rintro e w4 ⟨d,rfl,hd,C4,G4⟩;have G5:=((Gr.refl B w).ext HX0.out).trans (((G1.trans G2).trans G3).trans G4);have R4:=(((G1.trans G2).trans G3).trans G4).blk HQ.out (by omega);have HG:=hid G5;have HR:=hid R4;have HC4:=hid C4;clear C1 G1 C2 G2 C3 G3 C4 G4 G5 R4 HC0 HQ HX0;go_wp2_with fail;have b5:=Blk.new w4 24 [.int .i64 (2+a),.int .i64 (2+b),.int .i64 (60+c),.int .i64 (20+d),.bool false,.int .i64 0,.int .i64 0];have x5:Ext w4 (w4.alloc (.cells #[.int .i64 (2+a),.int .i64 (2+b),.int .i64 (60+c),.int .i64 (20+d),.bool false,.int .i64 0,.int .i64 0] 24)):=X_;have HB5:=hid b5;have HC5:=hid (HC4.out.ext x5);have HG5:=hid (HG.out.ext x5);have HR5:=hid (HR.out.ext x5);have z5:=HG.out.size
 have hA:w.heap.size<w4.heap.size:=by have:=HR.out.lt;omega
 clear b5 x5 HC4 HG HR;refine (l01Once_any hi B 2 _ HC5.out (by decide) ⟨by decide,by decide⟩).mono ?_;rintro e w6 ⟨o1,rfl,C6,G6⟩;have B6:=G6.blk HB5.out (by omega);have R6:=G6.blk HR5.out (by omega);have HB6:=hid B6;have HR6:=hid R6;have HC6:=hid C6;have HG6:=hid (HG5.out.trans G6);clear B6 R6 C6 G6 HB5 HC5 HG5 HR5
 cases o1
 case' true=>
  have f4:=HB6.out.free 4;have c4:=HB6.out.cell 4 rfl;have l6:=HB6.out.lt;go_wp2_with fail;have B7:=HB6.out.set 4 (.bool true);have C7:=HC6.out.setNew (b:=w4.heap.size) (by omega) 4 (.bool true);have G7:=HG6.out.setNew (b:=w4.heap.size) (by omega) 4 (.bool true);have R7:=HR6.out.other (a:=⟨w4.heap.size,4,none⟩) (by simp only;omega) (.bool true);refine (l01Below_any hi B 120 _ C7 (by decide) ⟨by decide,by decide⟩).mono ?_;rintro e w8 ⟨p,rfl,hp,C8,G8⟩;have B8:=G8.blk B7 (by omega);have R8:=G8.blk R7 (by omega);have HB8:=hid B8;have HR8:=hid R8;have HC8:=hid C8;have HG8:=hid (G7.trans G8);clear B7 C7 G7 R7 B8 R8 C8 G8 HB6 HC6 HG6 HR6 f4 c4 l6;have f2:=HB8.out.free 2;have c2:=HB8.out.cell 2 rfl;have l8:=HB8.out.lt;go_wp2_with fail
  obtain ⟨cm,hcm,bX⟩:∃c:Cam,c.Sm∧Blk (w8.setCell ⟨w4.heap.size,2,none⟩ (.int .i64 (60+p))) w4.heap.size 24 c.ls:=⟨⟨2+a,2+b,60+p,20+d,true,0,0⟩,⟨by simp only;omega,by simp only;omega,by simp only;omega,by simp only;omega,by simp only;omega,by simp only;omega⟩,HB8.out.set 2 _⟩
  have HBX:=hid bX;have HCX:=hid (HC8.out.setNew (b:=w4.heap.size) (by omega) 2 (.int .i64 (60+p)));have HGX:=hid (HG8.out.setNew (b:=w4.heap.size) (by omega) 2 (.int .i64 (60+p)));have HRX:=hid (HR8.out.other (a:=⟨w4.heap.size,2,none⟩) (by simp only;omega) (.int .i64 (60+p)));clear bX HB8 HR8 HC8 HG8 f2 c2 l8
 case' false=>
  obtain ⟨cm,hcm,bX⟩:∃c:Cam,c.Sm∧Blk w6 w4.heap.size 24 c.ls:=⟨⟨2+a,2+b,60+c,20+d,false,0,0⟩,⟨by simp only;omega,by simp only;omega,by simp only;omega,by simp only;omega,by simp only;omega,by simp only;omega⟩,HB6.out⟩
  have HBX:=hid bX;have HCX:=HC6;have HGX:=HG6;have HRX:=HR6;clear bX HB6 HC6 HG6 HR6;go_wp2_with fail
 all_goals
  refine (l01Once_any hi B 3 _ HCX.out (by decide) ⟨by decide,by decide⟩).mono ?_;rintro e w9 ⟨o2,rfl,C9,G9⟩;have B9:=G9.blk HBX.out (by omega);have R9:=G9.blk HRX.out (by omega);have HB9:=hid B9;have HR9:=hid R9;have HC9:=hid C9;have HG9:=hid (HGX.out.trans G9);clear B9 R9 C9 G9 HBX HRX HCX HGX
  cases o2
  case' true=>
   go_wp2_with fail;refine (l01Below_any hi B 40 _ HC9.out (by decide) ⟨by decide,by decide⟩).mono ?_;rintro e v1 ⟨p1,rfl,hp1,C1,G1⟩;have B1:=G1.blk HB9.out (by omega);have R1:=G1.blk HR9.out (by omega);have HB1:=hid B1;have HR1:=hid R1;have HC1:=hid C1;have HG1:=hid (HG9.out.trans G1);clear B1 R1 C1 G1 HB9 HR9 HC9 HG9;have f5:=HB1.out.free 5;have c5:=HB1.out.cell 5 rfl;have l1:=HB1.out.lt;go_wp2_with fail;have B7:=HB1.out.set 5 (.int .i64 (8+p1));have C7:=HC1.out.setNew (b:=w4.heap.size) (by omega) 5 (.int .i64 (8+p1));have G7:=HG1.out.setNew (b:=w4.heap.size) (by omega) 5 (.int .i64 (8+p1));have R7:=HR1.out.other (a:=⟨w4.heap.size,5,none⟩) (by simp only;omega) (.int .i64 (8+p1));refine (l01Below_any hi B 200 _ C7 (by decide) ⟨by decide,by decide⟩).mono ?_;rintro e v2 ⟨p2,rfl,hp2,C2,G2⟩;have B2:=G2.blk B7 (by omega);have R2:=G2.blk R7 (by omega);have HB2:=hid B2;have HR2:=hid R2;have HC2:=hid C2;have HG2:=hid (G7.trans G2);clear B7 C7 G7 R7 B2 R2 C2 G2 HB1 HR1 HC1 HG1 f5 c5 l1
   obtain ⟨cn,hcn,bX⟩:∃c:Cam,c.Sm∧Blk (v2.setCell ⟨w4.heap.size,6,none⟩ (.int .i64 (60+p2))) w4.heap.size 24 c.ls:=⟨⟨cm.w,cm.h,cm.zoom,cm.near,cm.deep,8+p1,60+p2⟩,⟨hcm.w,hcm.h,hcm.zoom,hcm.near,by simp only;omega,by simp only;omega⟩,HB2.out.set 6 _⟩
   have f6:=HB2.out.free 6;have c6:=HB2.out.cell 6 rfl;have l2:=HB2.out.lt;have zv:=HG2.out.size;have HBY:=hid bX;have HCY:=hid (HC2.out.setNew (b:=w4.heap.size) (by omega) 6 (.int .i64 (60+p2)));have HGY:=hid (HG2.out.setNew (b:=w4.heap.size) (by omega) 6 (.int .i64 (60+p2)));have HRY:=hid (HR2.out.other (a:=⟨w4.heap.size,6,none⟩) (by simp only;omega) (.int .i64 (60+p2)));clear bX HB2 HR2 HC2 HG2;go_upto_region 8 with fail;clear f6 c6 l2
  case' false=>
   obtain ⟨cn,hcn,bX⟩:∃c:Cam,c.Sm∧Blk w9 w4.heap.size 24 c.ls:=⟨cm,hcm,HB9.out⟩
   have HBY:=hid bX;have HCY:=HC9;have HGY:=HG9;have HRY:=HR9;clear bX HB9 HC9 HG9 HR9;go_upto_region 8 with fail
  all_goals
   obtain ⟨d0,d1,d2,d3,d4,d5,d6⟩:=HBY.out.q7;obtain ⟨e0,e1,e2,e3,e4,e5,e6⟩:=HRY.out.q7;have g0:=HRY.out.free 0;have g1:=HRY.out.free 1;have g2:=HRY.out.free 2;have g3:=HRY.out.free 3;have g4:=HRY.out.free 4;have g5:=HRY.out.free 5;have g6:=HRY.out.free 6;have lY:=HBY.out.lt;have lZ:=HRY.out.lt;clear hcm;go_wp2;refine bodyPost_ret (v:=.agg #[.int .i64 cn.w,.int .i64 cn.h,.int .i64 cn.zoom,.int .i64 cn.near,.bool cn.deep,.int .i64 cn.lens,.int .i64 cn.focus]) (by simp [results,Tryz.results137,go_sem, *]) rfl ?_;exact ⟨cn,rfl,hcn,((((((HCY.out.setNew (by omega) _ _).setNew (by omega) _ _).setNew (by omega) _ _).setNew (by omega) _ _).setNew (by omega) _ _).setNew (by omega) _ _).setNew (by omega) _ _,((((((HGY.out.setNew (Nat.le_refl _) _ _).setNew (Nat.le_refl _) _ _).setNew (Nat.le_refl _) _ _).setNew (Nat.le_refl _) _ _).setNew (Nat.le_refl _) _ _).setNew (Nat.le_refl _) _ _).setNew (Nat.le_refl _) _ _⟩
structure PtSm (f:Nat→Int):Prop where
 bd:∀j,-2000≤f j∧f j≤2000
 z:60≤f 2∧60≤f 5∧60≤f 8∧60≤f 11
theorem SmF.pt {f:Nat→Int} (h:SmF f) (k:Z60 4 f):PtSm f:=⟨fun j=>by have:=h j;omega,k 0 (by decide),k 1 (by decide),k 2 (by decide),k 3 (by decide)⟩
theorem SmF.mov {f:Nat→Int} (h:SmF f) (k:Z60 4 f) {dx dy dz:Int} (hd:(-60≤dx∧dx≤60)∧(-60≤dy∧dy≤60)∧(0≤dz∧dz≤60)):PtSm (movP f dx dy dz):=
 ⟨fun j=>by have:=movP_bd (f:=f) (dx:=dx) (dy:=dy) (dz:=dz) ⟨hd.1,hd.2.1,by omega⟩ h j;omega,movP_z hd.2.2.1 rfl (k 0 (by decide)),movP_z hd.2.2.1 rfl (k 1 (by decide)),movP_z hd.2.2.1 rfl (k 2 (by decide)),movP_z hd.2.2.1 rfl (k 3 (by decide))⟩
structure SrfSm (f g:Nat→Int) (sh rt:Int) (n:Nat):Prop where
 f:PtSm f
 g:PtSm g
 sh:0≤sh∧sh<n
 rt:rt=1∨rt=2∨rt=4
theorem SrfSm.ok {f g:Nat→Int} {sh rt:Int} {n:Nat} (h:SrfSm f g sh rt n):srfB f g sh rt n=true:=
 srfB_iff.2 ⟨patB_of fun j _=>by have:=h.f.bd j;omega,patB_of fun j _=>by have:=h.g.bd j;omega,h.sh,by have:=h.rt;omega⟩
theorem SrfSm.near {f g:Nat→Int} {sh rt:Int} {n:Nat} (h:SrfSm f g sh rt n):60≤nearS f g:=near_ge (by decide) h.f.z h.g.z
theorem row12_tr {w:World} {dx dy dz:Int}:RowI (w.alloc (.cells #[.int .i64 16,.int .i64 0,.int .i64 0,.int .i64 0,.int .i64 16,.int .i64 0,.int .i64 0,.int .i64 0,.int .i64 16,.int .i64 dx,.int .i64 dy,.int .i64 dz] 226)) w.heap.size 226 12 (trX dx dy dz):=
 World.rowIs_alloc _ _ _ _ fun i hi=>by rcases twelve1 hi with h|h|h|h|h|h|h|h|h|h|h|h <;> subst h <;> rfl
theorem Gr.rowNew {B:Nat} {wa w:World} (h:Gr B wa w) {b:Nat} (hb:wa.heap.size≤b) (cs:Array Value):Gr B wa (w.setRow b cs):=
 ⟨h.os,h.tape,h.output,by rw [size_setRowB];exact h.size,fun k hk hne=>(setRow_other _ _ _ _ (by omega)).trans (h.block k hk hne)⟩
theorem Cur.rowNew {hi:Nat} {w:World} {B b:Nat} (h:Cur hi w B) (hb:B<b) (cs:Array Value):Cur hi (w.setRow b cs) B:=h.keep fun k hk=>setRow_other _ _ _ _ (by omega)
theorem l20Surf_any (hi B n:Nat) (hn:1≤n∧n≤3) (w:World) (hc:Cur hi w B):Calls Tryz.prog 86 #[.pointer (some ⟨B,0,none⟩),.int .i64 (n:Nat)] w fun e w'=>∃(f g:Nat→Int) (sh rt:Int),e = .returned (.agg #[.int .i64 (f 0),.int .i64 (f 1),.int .i64 (f 2),.int .i64 (f 3),.int .i64 (f 4),.int .i64 (f 5),.int .i64 (f 6),.int .i64 (f 7),.int .i64 (f 8),.int .i64 (f 9),.int .i64 (f 10),.int .i64 (f 11),.int .i64 (g 0),.int .i64 (g 1),.int .i64 (g 2),.int .i64 (g 3),.int .i64 (g 4),.int .i64 (g 5),.int .i64 (g 6),.int .i64 (g 7),.int .i64 (g 8),.int .i64 (g 9),.int .i64 (g 10),.int .i64 (g 11),.int .i64 sh,.int .i64 rt])∧SrfSm f g sh rt n∧Cur hi w' B∧Gr B w w':=by
 have zB:=hc.lt;have x0:Ext w (w.alloc (.cells #[.int .i64 0,.int .i64 0,.int .i64 0,.int .i64 0,.int .i64 0,.int .i64 0,.int .i64 0,.int .i64 0,.int .i64 0,.int .i64 0,.int .i64 0,.int .i64 0,.int .i64 0,.int .i64 0,.int .i64 0,.int .i64 0,.int .i64 0,.int .i64 0,.int .i64 0,.int .i64 0,.int .i64 0,.int .i64 0,.int .i64 0,.int .i64 0,.int .i64 0,.int .i64 0] 42)):=X_;have HQ:=hid (Blk.new w 42 [.int .i64 0,.int .i64 0,.int .i64 0,.int .i64 0,.int .i64 0,.int .i64 0,.int .i64 0,.int .i64 0,.int .i64 0,.int .i64 0,.int .i64 0,.int .i64 0,.int .i64 0,.int .i64 0,.int .i64 0,.int .i64 0,.int .i64 0,.int .i64 0,.int .i64 0,.int .i64 0,.int .i64 0,.int .i64 0,.int .i64 0,.int .i64 0,.int .i64 0,.int .i64 0]);have HC0:=hid (hc.ext x0);have HX0:=hid x0;have z1:(w.alloc (.cells #[.int .i64 0,.int .i64 0,.int .i64 0,.int .i64 0,.int .i64 0,.int .i64 0,.int .i64 0,.int .i64 0,.int .i64 0,.int .i64 0,.int .i64 0,.int .i64 0,.int .i64 0,.int .i64 0,.int .i64 0,.int .i64 0,.int .i64 0,.int .i64 0,.int .i64 0,.int .i64 0,.int .i64 0,.int .i64 0,.int .i64 0,.int .i64 0,.int .i64 0,.int .i64 0] 42)).heap.size=w.heap.size+1:=World.size_alloc _ _;clear hc x0;go_enter Tryz.func86,Tryz.ntmps86;go_wp2_with fail;refine (l05Draw_z hi B _ HC0.out).mono ?_;rintro e w1 ⟨f,rfl,hf,hz6,C1,G1⟩;have HF:=hid hf;have HZ:=hid hz6;clear hf hz6;go_wp2_with fail;refine (l01Below_any hi B n _ C1 (by omega) ⟨by omega,by omega⟩).mono ?_;rintro e w2 ⟨sh,rfl,hsh,C2,G2⟩;go_wp2_with fail;refine (l01Pick_any hi B w2.heap.size 4 [1,2,2,4] _ (C2.ext X_) (Blk.new w2 3 [.int .i64 1,.int .i64 2,.int .i64 2,.int .i64 4]) (by have:=C2.lt;omega) rfl (by decide) (by decide)).mono ?_;rintro e w3 ⟨rt,rfl,hrt,C3,G3⟩
 have hrt2:rt=1∨rt=2∨rt=4:=by simp at hrt;omega
 have GG:=((Gr.refl B w).ext HX0.out).trans (G1.trans (G2.trans (((Gr.refl B w2).ext (show Ext w2 (w2.alloc (.cells #[.int .i64 1,.int .i64 2,.int .i64 2,.int .i64 4] 3)) from X_)).trans G3)));have RR:=(G1.trans (G2.trans (((Gr.refl B w2).ext (show Ext w2 (w2.alloc (.cells #[.int .i64 1,.int .i64 2,.int .i64 2,.int .i64 4] 3)) from X_)).trans G3))).blk HQ.out (by omega);have HG:=hid GG;have HR:=hid RR;have HC3:=hid C3;have HRT:=hid hrt2;have z3:=GG.size;have l3:=RR.lt;clear C1 G1 C2 G2 C3 G3 GG RR hrt hrt2 HC0 HQ HX0;go_upto_region 2 with (show wpList _ _ _ [_] _ _;refine wpList_store_fresh _ _ _ rfl 42 (.tmp 5) (.tmp 14) rfl rfl #[.int .i64 (f 0),.int .i64 (f 1),.int .i64 (f 2),.int .i64 (f 3),.int .i64 (f 4),.int .i64 (f 5),.int .i64 (f 6),.int .i64 (f 7),.int .i64 (f 8),.int .i64 (f 9),.int .i64 (f 10),.int .i64 (f 11),.int .i64 0,.int .i64 0,.int .i64 0,.int .i64 0,.int .i64 0,.int .i64 0,.int .i64 0,.int .i64 0,.int .i64 0,.int .i64 0,.int .i64 0,.int .i64 0,.int .i64 sh,.int .i64 rt] w3.heap.size rfl rfl rfl (by kernel_rfl) (by kernel_rfl) (by kernel_rfl) ?_)
 obtain ⟨A,hA⟩:∃A,w3.heap.size=A:=⟨_,rfl⟩
 rw [hA];have b4:=Blk.new w3 42 [.int .i64 (f 0),.int .i64 (f 1),.int .i64 (f 2),.int .i64 (f 3),.int .i64 (f 4),.int .i64 (f 5),.int .i64 (f 6),.int .i64 (f 7),.int .i64 (f 8),.int .i64 (f 9),.int .i64 (f 10),.int .i64 (f 11),.int .i64 0,.int .i64 0,.int .i64 0,.int .i64 0,.int .i64 0,.int .i64 0,.int .i64 0,.int .i64 0,.int .i64 0,.int .i64 0,.int .i64 0,.int .i64 0,.int .i64 sh,.int .i64 rt];have x4:Ext w3 (w3.alloc (.cells #[.int .i64 (f 0),.int .i64 (f 1),.int .i64 (f 2),.int .i64 (f 3),.int .i64 (f 4),.int .i64 (f 5),.int .i64 (f 6),.int .i64 (f 7),.int .i64 (f 8),.int .i64 (f 9),.int .i64 (f 10),.int .i64 (f 11),.int .i64 0,.int .i64 0,.int .i64 0,.int .i64 0,.int .i64 0,.int .i64 0,.int .i64 0,.int .i64 0,.int .i64 0,.int .i64 0,.int .i64 0,.int .i64 0,.int .i64 sh,.int .i64 rt] 42)):=X_;rw [hA] at b4;have HG4:=hid (HG.out.ext x4);have HR4:=hid (HR.out.ext x4);have HC4:=hid (HC3.out.ext x4)
 obtain ⟨W4,hW4⟩:∃W,w3.alloc (.cells #[.int .i64 (f 0),.int .i64 (f 1),.int .i64 (f 2),.int .i64 (f 3),.int .i64 (f 4),.int .i64 (f 5),.int .i64 (f 6),.int .i64 (f 7),.int .i64 (f 8),.int .i64 (f 9),.int .i64 (f 10),.int .i64 (f 11),.int .i64 0,.int .i64 0,.int .i64 0,.int .i64 0,.int .i64 0,.int .i64 0,.int .i64 0,.int .i64 0,.int .i64 0,.int .i64 0,.int .i64 0,.int .i64 0,.int .i64 sh,.int .i64 rt] 42)=W:=⟨_,rfl⟩
 rw [hW4] at HG4 HR4 HC4 b4 ⊢;have HB4:=hid b4
 have hBA:B<A:=by omega
 have hRA:w.heap.size<A:=by omega
 clear hW4 x4 HG HR HC3 hA z3 l3;have c0:=b4.cell 0 rfl;have k0:=b4.free 0;have c1:=b4.cell 1 rfl;have k1:=b4.free 1;have c2:=b4.cell 2 rfl;have k2:=b4.free 2;have c3:=b4.cell 3 rfl;have k3:=b4.free 3;have c4:=b4.cell 4 rfl;have k4:=b4.free 4;have c5:=b4.cell 5 rfl;have k5:=b4.free 5;have c6:=b4.cell 6 rfl;have k6:=b4.free 6;have c7:=b4.cell 7 rfl;have k7:=b4.free 7;have c8:=b4.cell 8 rfl;have k8:=b4.free 8;have c9:=b4.cell 9 rfl;have k9:=b4.free 9;have c10:=b4.cell 10 rfl;have k10:=b4.free 10;have c11:=b4.cell 11 rfl;have k11:=b4.free 11;have c12:=b4.cell 12 rfl;have k12:=b4.free 12;have c13:=b4.cell 13 rfl;have k13:=b4.free 13;have c14:=b4.cell 14 rfl;have k14:=b4.free 14;have c15:=b4.cell 15 rfl;have k15:=b4.free 15;have c16:=b4.cell 16 rfl;have k16:=b4.free 16;have c17:=b4.cell 17 rfl;have k17:=b4.free 17;have c18:=b4.cell 18 rfl;have k18:=b4.free 18;have c19:=b4.cell 19 rfl;have k19:=b4.free 19;have c20:=b4.cell 20 rfl;have k20:=b4.free 20;have c21:=b4.cell 21 rfl;have k21:=b4.free 21;have c22:=b4.cell 22 rfl;have k22:=b4.free 22;have c23:=b4.cell 23 rfl;have k23:=b4.free 23;have c24:=b4.cell 24 rfl;have k24:=b4.free 24;have c25:=b4.cell 25 rfl;have k25:=b4.free 25;have bl:=b4.lt;clear b4;go_upto_region 3 with fail
 have b5:Blk ((((((((((((W4.setCell ⟨A,12,none⟩ (.int .i64 (f 0))).setCell ⟨A,13,none⟩ (.int .i64 (f 1))).setCell ⟨A,14,none⟩ (.int .i64 (f 2))).setCell ⟨A,15,none⟩ (.int .i64 (f 3))).setCell ⟨A,16,none⟩ (.int .i64 (f 4))).setCell ⟨A,17,none⟩ (.int .i64 (f 5))).setCell ⟨A,18,none⟩ (.int .i64 (f 6))).setCell ⟨A,19,none⟩ (.int .i64 (f 7))).setCell ⟨A,20,none⟩ (.int .i64 (f 8))).setCell ⟨A,21,none⟩ (.int .i64 (f 9))).setCell ⟨A,22,none⟩ (.int .i64 (f 10))).setCell ⟨A,23,none⟩ (.int .i64 (f 11))) A 42 [.int .i64 (f 0),.int .i64 (f 1),.int .i64 (f 2),.int .i64 (f 3),.int .i64 (f 4),.int .i64 (f 5),.int .i64 (f 6),.int .i64 (f 7),.int .i64 (f 8),.int .i64 (f 9),.int .i64 (f 10),.int .i64 (f 11),.int .i64 (f 0),.int .i64 (f 1),.int .i64 (f 2),.int .i64 (f 3),.int .i64 (f 4),.int .i64 (f 5),.int .i64 (f 6),.int .i64 (f 7),.int .i64 (f 8),.int .i64 (f 9),.int .i64 (f 10),.int .i64 (f 11),.int .i64 sh,.int .i64 rt]:=((((((((((((HB4.out.set 12 _).set 13 _).set 14 _).set 15 _).set 16 _).set 17 _).set 18 _).set 19 _).set 20 _).set 21 _).set 22 _).set 23 _)
 have C5:Cur hi ((((((((((((W4.setCell ⟨A,12,none⟩ (.int .i64 (f 0))).setCell ⟨A,13,none⟩ (.int .i64 (f 1))).setCell ⟨A,14,none⟩ (.int .i64 (f 2))).setCell ⟨A,15,none⟩ (.int .i64 (f 3))).setCell ⟨A,16,none⟩ (.int .i64 (f 4))).setCell ⟨A,17,none⟩ (.int .i64 (f 5))).setCell ⟨A,18,none⟩ (.int .i64 (f 6))).setCell ⟨A,19,none⟩ (.int .i64 (f 7))).setCell ⟨A,20,none⟩ (.int .i64 (f 8))).setCell ⟨A,21,none⟩ (.int .i64 (f 9))).setCell ⟨A,22,none⟩ (.int .i64 (f 10))).setCell ⟨A,23,none⟩ (.int .i64 (f 11))) B:=((((((((((((HC4.out.setNew (b:=A) hBA 12 _).setNew (b:=A) hBA 13 _).setNew (b:=A) hBA 14 _).setNew (b:=A) hBA 15 _).setNew (b:=A) hBA 16 _).setNew (b:=A) hBA 17 _).setNew (b:=A) hBA 18 _).setNew (b:=A) hBA 19 _).setNew (b:=A) hBA 20 _).setNew (b:=A) hBA 21 _).setNew (b:=A) hBA 22 _).setNew (b:=A) hBA 23 _)
 have G5:Gr B w ((((((((((((W4.setCell ⟨A,12,none⟩ (.int .i64 (f 0))).setCell ⟨A,13,none⟩ (.int .i64 (f 1))).setCell ⟨A,14,none⟩ (.int .i64 (f 2))).setCell ⟨A,15,none⟩ (.int .i64 (f 3))).setCell ⟨A,16,none⟩ (.int .i64 (f 4))).setCell ⟨A,17,none⟩ (.int .i64 (f 5))).setCell ⟨A,18,none⟩ (.int .i64 (f 6))).setCell ⟨A,19,none⟩ (.int .i64 (f 7))).setCell ⟨A,20,none⟩ (.int .i64 (f 8))).setCell ⟨A,21,none⟩ (.int .i64 (f 9))).setCell ⟨A,22,none⟩ (.int .i64 (f 10))).setCell ⟨A,23,none⟩ (.int .i64 (f 11))):=((((((((((((HG4.out.setNew (b:=A) (by omega) 12 _).setNew (b:=A) (by omega) 13 _).setNew (b:=A) (by omega) 14 _).setNew (b:=A) (by omega) 15 _).setNew (b:=A) (by omega) 16 _).setNew (b:=A) (by omega) 17 _).setNew (b:=A) (by omega) 18 _).setNew (b:=A) (by omega) 19 _).setNew (b:=A) (by omega) 20 _).setNew (b:=A) (by omega) 21 _).setNew (b:=A) (by omega) 22 _).setNew (b:=A) (by omega) 23 _)
 have R5:Blk ((((((((((((W4.setCell ⟨A,12,none⟩ (.int .i64 (f 0))).setCell ⟨A,13,none⟩ (.int .i64 (f 1))).setCell ⟨A,14,none⟩ (.int .i64 (f 2))).setCell ⟨A,15,none⟩ (.int .i64 (f 3))).setCell ⟨A,16,none⟩ (.int .i64 (f 4))).setCell ⟨A,17,none⟩ (.int .i64 (f 5))).setCell ⟨A,18,none⟩ (.int .i64 (f 6))).setCell ⟨A,19,none⟩ (.int .i64 (f 7))).setCell ⟨A,20,none⟩ (.int .i64 (f 8))).setCell ⟨A,21,none⟩ (.int .i64 (f 9))).setCell ⟨A,22,none⟩ (.int .i64 (f 10))).setCell ⟨A,23,none⟩ (.int .i64 (f 11))) w.heap.size 42 [.int .i64 0,.int .i64 0,.int .i64 0,.int .i64 0,.int .i64 0,.int .i64 0,.int .i64 0,.int .i64 0,.int .i64 0,.int .i64 0,.int .i64 0,.int .i64 0,.int .i64 0,.int .i64 0,.int .i64 0,.int .i64 0,.int .i64 0,.int .i64 0,.int .i64 0,.int .i64 0,.int .i64 0,.int .i64 0,.int .i64 0,.int .i64 0,.int .i64 0,.int .i64 0]:=((((((((((((HR4.out.other (a:=⟨A,12,none⟩) (by simp only;omega) _).other (a:=⟨A,13,none⟩) (by simp only;omega) _).other (a:=⟨A,14,none⟩) (by simp only;omega) _).other (a:=⟨A,15,none⟩) (by simp only;omega) _).other (a:=⟨A,16,none⟩) (by simp only;omega) _).other (a:=⟨A,17,none⟩) (by simp only;omega) _).other (a:=⟨A,18,none⟩) (by simp only;omega) _).other (a:=⟨A,19,none⟩) (by simp only;omega) _).other (a:=⟨A,20,none⟩) (by simp only;omega) _).other (a:=⟨A,21,none⟩) (by simp only;omega) _).other (a:=⟨A,22,none⟩) (by simp only;omega) _).other (a:=⟨A,23,none⟩) (by simp only;omega) _)
 obtain ⟨W5,hW5⟩:∃W,((((((((((((W4.setCell ⟨A,12,none⟩ (.int .i64 (f 0))).setCell ⟨A,13,none⟩ (.int .i64 (f 1))).setCell ⟨A,14,none⟩ (.int .i64 (f 2))).setCell ⟨A,15,none⟩ (.int .i64 (f 3))).setCell ⟨A,16,none⟩ (.int .i64 (f 4))).setCell ⟨A,17,none⟩ (.int .i64 (f 5))).setCell ⟨A,18,none⟩ (.int .i64 (f 6))).setCell ⟨A,19,none⟩ (.int .i64 (f 7))).setCell ⟨A,20,none⟩ (.int .i64 (f 8))).setCell ⟨A,21,none⟩ (.int .i64 (f 9))).setCell ⟨A,22,none⟩ (.int .i64 (f 10))).setCell ⟨A,23,none⟩ (.int .i64 (f 11)))=W:=⟨_,rfl⟩
 rw [hW5] at b5 C5 G5 R5 ⊢;have HB5:=hid b5;have HC5:=hid C5;have HG5:=hid G5;have HR5:=hid R5;clear hW5 b5 C5 G5 R5 HB4 HC4 HG4 HR4 c0 c1 c2 c3 c4 c5 c6 c7 c8 c9 c10 c11 c12 c13 c14 c15 c16 c17 c18 c19 c20 c21 c22 c23 c24 c25 k0 k1 k2 k3 k4 k5 k6 k7 k8 k9 k10 k11 k12 k13 k14 k15 k16 k17 k18 k19 k20 k21 k22 k23 k24 k25 bl;go_wp2_with fail;refine (l01Once_any hi B 2 _ HC5.out (by decide) ⟨by decide,by decide⟩).mono ?_;rintro e w6 ⟨o,rfl,C6,G6⟩;have HB6:=hid (G6.blk HB5.out (by omega));have HR6:=hid (G6.blk HR5.out (by omega));have HC6:=hid C6;have HG6:=hid (HG5.out.trans G6);clear C6 G6 HB5 HR5 HC5 HG5
 cases o
 case' true=>
  have b6:=HB6.out;have l6:=b6.lt
  have hcs:∀j,j<12→w6.cell? ⟨A,j,none⟩=some (.int .i64 (f j)):=fun j hj=>by rcases twelve1 hj with h|h|h|h|h|h|h|h|h|h|h|h <;> subst h <;> exact b6.cell _ rfl
  obtain ⟨c0,c1,c2,c3,c4,c5,c6,c7,c8,c9,c10,c11⟩:=b6.q12;clear b6 hcs;go_upto_region 4 with fail;refine wp_region_stagesS [([0,3,6,11,12],1),([2],4),([5],7),([8],9),([],10),([],13),([14],15)] 15 (fun w'=>∃d,w'=lowc (CBox A) _ d) (by kernel_rfl) (by kernel_rfl) (SC.drew _ _) ?_;refine sc_ fun K hK=>?_;go_wp2_with fail;refine (l01Below_any hi B 60 _ (HC6.out.ext (Ext.drew (Ext.refl _))) (by decide) ⟨by decide,by decide⟩).mono ?_;rintro e v1 ⟨ax,rfl,hax,C1,G1⟩;have g1:Gr B w6 v1:=((Gr.refl B w6).ext (Ext.drew (Ext.refl _))).trans G1;go_wp2_with fail;refine hK _ _ (.inr (SC.blocks fun a ha=>g1.keep (by rw [ha];exact l6) (by rw [ha];omega))) ?_;clear hK K;refine sc_ fun K hK=>?_;go_wp2_with fail;refine (l01Below_any hi B 60 _ C1 (by decide) ⟨by decide,by decide⟩).mono ?_;rintro e v2 ⟨ay,rfl,hay,C2,G2⟩;have g2:Gr B w6 v2:=g1.trans G2;go_wp2_with fail;refine hK _ _ (.inr (SC.blocks fun a ha=>g2.keep (by rw [ha];exact l6) (by rw [ha];omega))) ?_;clear hK K;refine sc_ fun K hK=>?_;go_wp2_with fail;refine (l01Below_any hi B 30 _ C2 (by decide) ⟨by decide,by decide⟩).mono ?_;rintro e v3 ⟨dz,rfl,hdz,C3,G3⟩;have g3:Gr B w6 v3:=g2.trans G3;go_wp2_with fail;refine hK _ _ (.inr (SC.blocks fun a ha=>g3.keep (by rw [ha];exact l6) (by rw [ha];omega))) ?_;clear hK K;refine sc_ fun K hK=>?_;go_wp2_with fail
  obtain ⟨dx,hdx⟩:∃d,ax - 30=d:=⟨_,rfl⟩
  obtain ⟨dy,hdy⟩:∃d,ay - 30=d:=⟨_,rfl⟩
  rw [hdx,hdy]
  have bd:(-60≤dx∧dx≤60)∧(-60≤dy∧dy≤60)∧(0≤dz∧dz≤60):=by omega
  have HD:=hid bd;clear hdx hdy;refine (sTranslation_val dx dy dz (okVec_iff.2 (by omega)) _).mono ?_;rintro e v4 ⟨rfl,x4⟩;have g4:Gr B w6 v4:=g3.ext x4;go_wp2_with fail;refine hK _ _ (.inr (SC.blocks fun a ha=>g4.keep (by rw [ha];exact l6) (by rw [ha];omega))) ?_;clear hK K;refine sc_ fun K hK=>?_;go_wp2_with fail;have x5:Ext v4 (v4.alloc (.cells #[.int .i64 16,.int .i64 0,.int .i64 0,.int .i64 0,.int .i64 16,.int .i64 0,.int .i64 0,.int .i64 0,.int .i64 16,.int .i64 dx,.int .i64 dy,.int .i64 dz] 226)):=X_;have g5:Gr B w6 (v4.alloc (.cells #[.int .i64 16,.int .i64 0,.int .i64 0,.int .i64 0,.int .i64 16,.int .i64 0,.int .i64 0,.int .i64 0,.int .i64 16,.int .i64 dx,.int .i64 dy,.int .i64 dz] 226)):=g4.ext x5;refine hK _ _ (.inr (SC.blocks fun a ha=>g5.keep (by rw [ha];exact l6) (by rw [ha];omega))) ?_;clear hK K;refine sc_ fun K hK=>?_;go_wp2_with fail
  refine (sTransformPatch_val v4.heap.size (v4.heap.size+1) _ 1 (trX dx dy dz) f (movP f dx dy dz) (tPatch_mov (by have:=HD.out;omega) HF.out) _ (by
   have h:=(row12_tr (w:=v4) (dx:=dx) (dy:=dy) (dz:=dz)).flats (k:=12) (n:=1) (cap:=1) (lo:=v4.heap.size) (by decide) (by decide) (Nat.le_refl _) (fun i hi=>by
    have:=HD.out;unfold trX I64
    repeat' split
    all_goals omega)
   rw [World.size_alloc] at h
   exact h) (by simp)).mono ?_
  rintro e v6 ⟨rfl,x6⟩;have g6:Gr B w6 v6:=g5.ext x6;go_wp2_with fail;refine hK _ _ (.inr (SC.blocks fun a ha=>g6.keep (by rw [ha];exact l6) (by rw [ha];omega))) ?_;clear hK K;have C6:=((C3.ext x4).ext x5).ext x6;have B7:=g6.blk HB6.out (by omega);have HR7:=hid (g6.blk HR6.out (by omega));have HG7:=hid (HG6.out.trans g6);have HB7:=hid B7;have HC7:=hid C6;have l7:=B7.lt;clear C1 G1 g1 C2 G2 g2 C3 G3 g3 x4 g4 x5 g5 x6 g6 C6 HB6 HR6 HC6 HG6 c0 c1 c2 c3 c4 c5 c6 c7 c8 c9 c10 c11;have c12:=B7.cell 12 rfl;have k12:=B7.free 12;have c13:=B7.cell 13 rfl;have k13:=B7.free 13;have c14:=B7.cell 14 rfl;have k14:=B7.free 14;have c15:=B7.cell 15 rfl;have k15:=B7.free 15;have c16:=B7.cell 16 rfl;have k16:=B7.free 16;have c17:=B7.cell 17 rfl;have k17:=B7.free 17;have c18:=B7.cell 18 rfl;have k18:=B7.free 18;have c19:=B7.cell 19 rfl;have k19:=B7.free 19;have c20:=B7.cell 20 rfl;have k20:=B7.free 20;have c21:=B7.cell 21 rfl;have k21:=B7.free 21;have c22:=B7.cell 22 rfl;have k22:=B7.free 22;have c23:=B7.cell 23 rfl;have k23:=B7.free 23;clear B7;refine sc_ fun K hK=>?_;go_wp2_with fail;refine hK _ _ (.inl trivial) ?_;clear hK K;refine wpStagesS_nil ?_
  obtain ⟨g,hg⟩:∃g,movP f dx dy dz=g:=⟨_,rfl⟩
  rw [hg]
  have b5:Blk ((((((((((((v6.setCell ⟨A,12,none⟩ (.int .i64 (g 0))).setCell ⟨A,13,none⟩ (.int .i64 (g 1))).setCell ⟨A,14,none⟩ (.int .i64 (g 2))).setCell ⟨A,15,none⟩ (.int .i64 (g 3))).setCell ⟨A,16,none⟩ (.int .i64 (g 4))).setCell ⟨A,17,none⟩ (.int .i64 (g 5))).setCell ⟨A,18,none⟩ (.int .i64 (g 6))).setCell ⟨A,19,none⟩ (.int .i64 (g 7))).setCell ⟨A,20,none⟩ (.int .i64 (g 8))).setCell ⟨A,21,none⟩ (.int .i64 (g 9))).setCell ⟨A,22,none⟩ (.int .i64 (g 10))).setCell ⟨A,23,none⟩ (.int .i64 (g 11))) A 42 [.int .i64 (f 0),.int .i64 (f 1),.int .i64 (f 2),.int .i64 (f 3),.int .i64 (f 4),.int .i64 (f 5),.int .i64 (f 6),.int .i64 (f 7),.int .i64 (f 8),.int .i64 (f 9),.int .i64 (f 10),.int .i64 (f 11),.int .i64 (g 0),.int .i64 (g 1),.int .i64 (g 2),.int .i64 (g 3),.int .i64 (g 4),.int .i64 (g 5),.int .i64 (g 6),.int .i64 (g 7),.int .i64 (g 8),.int .i64 (g 9),.int .i64 (g 10),.int .i64 (g 11),.int .i64 sh,.int .i64 rt]:=((((((((((((HB7.out.set 12 _).set 13 _).set 14 _).set 15 _).set 16 _).set 17 _).set 18 _).set 19 _).set 20 _).set 21 _).set 22 _).set 23 _)
  have C5:Cur hi ((((((((((((v6.setCell ⟨A,12,none⟩ (.int .i64 (g 0))).setCell ⟨A,13,none⟩ (.int .i64 (g 1))).setCell ⟨A,14,none⟩ (.int .i64 (g 2))).setCell ⟨A,15,none⟩ (.int .i64 (g 3))).setCell ⟨A,16,none⟩ (.int .i64 (g 4))).setCell ⟨A,17,none⟩ (.int .i64 (g 5))).setCell ⟨A,18,none⟩ (.int .i64 (g 6))).setCell ⟨A,19,none⟩ (.int .i64 (g 7))).setCell ⟨A,20,none⟩ (.int .i64 (g 8))).setCell ⟨A,21,none⟩ (.int .i64 (g 9))).setCell ⟨A,22,none⟩ (.int .i64 (g 10))).setCell ⟨A,23,none⟩ (.int .i64 (g 11))) B:=((((((((((((HC7.out.setNew (b:=A) hBA 12 _).setNew (b:=A) hBA 13 _).setNew (b:=A) hBA 14 _).setNew (b:=A) hBA 15 _).setNew (b:=A) hBA 16 _).setNew (b:=A) hBA 17 _).setNew (b:=A) hBA 18 _).setNew (b:=A) hBA 19 _).setNew (b:=A) hBA 20 _).setNew (b:=A) hBA 21 _).setNew (b:=A) hBA 22 _).setNew (b:=A) hBA 23 _)
  have G5:Gr B w ((((((((((((v6.setCell ⟨A,12,none⟩ (.int .i64 (g 0))).setCell ⟨A,13,none⟩ (.int .i64 (g 1))).setCell ⟨A,14,none⟩ (.int .i64 (g 2))).setCell ⟨A,15,none⟩ (.int .i64 (g 3))).setCell ⟨A,16,none⟩ (.int .i64 (g 4))).setCell ⟨A,17,none⟩ (.int .i64 (g 5))).setCell ⟨A,18,none⟩ (.int .i64 (g 6))).setCell ⟨A,19,none⟩ (.int .i64 (g 7))).setCell ⟨A,20,none⟩ (.int .i64 (g 8))).setCell ⟨A,21,none⟩ (.int .i64 (g 9))).setCell ⟨A,22,none⟩ (.int .i64 (g 10))).setCell ⟨A,23,none⟩ (.int .i64 (g 11))):=((((((((((((HG7.out.setNew (b:=A) (by omega) 12 _).setNew (b:=A) (by omega) 13 _).setNew (b:=A) (by omega) 14 _).setNew (b:=A) (by omega) 15 _).setNew (b:=A) (by omega) 16 _).setNew (b:=A) (by omega) 17 _).setNew (b:=A) (by omega) 18 _).setNew (b:=A) (by omega) 19 _).setNew (b:=A) (by omega) 20 _).setNew (b:=A) (by omega) 21 _).setNew (b:=A) (by omega) 22 _).setNew (b:=A) (by omega) 23 _)
  have R5:Blk ((((((((((((v6.setCell ⟨A,12,none⟩ (.int .i64 (g 0))).setCell ⟨A,13,none⟩ (.int .i64 (g 1))).setCell ⟨A,14,none⟩ (.int .i64 (g 2))).setCell ⟨A,15,none⟩ (.int .i64 (g 3))).setCell ⟨A,16,none⟩ (.int .i64 (g 4))).setCell ⟨A,17,none⟩ (.int .i64 (g 5))).setCell ⟨A,18,none⟩ (.int .i64 (g 6))).setCell ⟨A,19,none⟩ (.int .i64 (g 7))).setCell ⟨A,20,none⟩ (.int .i64 (g 8))).setCell ⟨A,21,none⟩ (.int .i64 (g 9))).setCell ⟨A,22,none⟩ (.int .i64 (g 10))).setCell ⟨A,23,none⟩ (.int .i64 (g 11))) w.heap.size 42 [.int .i64 0,.int .i64 0,.int .i64 0,.int .i64 0,.int .i64 0,.int .i64 0,.int .i64 0,.int .i64 0,.int .i64 0,.int .i64 0,.int .i64 0,.int .i64 0,.int .i64 0,.int .i64 0,.int .i64 0,.int .i64 0,.int .i64 0,.int .i64 0,.int .i64 0,.int .i64 0,.int .i64 0,.int .i64 0,.int .i64 0,.int .i64 0,.int .i64 0,.int .i64 0]:=((((((((((((HR7.out.other (a:=⟨A,12,none⟩) (by simp only;omega) _).other (a:=⟨A,13,none⟩) (by simp only;omega) _).other (a:=⟨A,14,none⟩) (by simp only;omega) _).other (a:=⟨A,15,none⟩) (by simp only;omega) _).other (a:=⟨A,16,none⟩) (by simp only;omega) _).other (a:=⟨A,17,none⟩) (by simp only;omega) _).other (a:=⟨A,18,none⟩) (by simp only;omega) _).other (a:=⟨A,19,none⟩) (by simp only;omega) _).other (a:=⟨A,20,none⟩) (by simp only;omega) _).other (a:=⟨A,21,none⟩) (by simp only;omega) _).other (a:=⟨A,22,none⟩) (by simp only;omega) _).other (a:=⟨A,23,none⟩) (by simp only;omega) _)
  have hS:SrfSm f g sh rt n:=⟨HF.out.pt HZ.out,hg▸HF.out.mov HZ.out HD.out,hsh,HRT.out⟩
  obtain ⟨W5,hW5⟩:∃W,((((((((((((v6.setCell ⟨A,12,none⟩ (.int .i64 (g 0))).setCell ⟨A,13,none⟩ (.int .i64 (g 1))).setCell ⟨A,14,none⟩ (.int .i64 (g 2))).setCell ⟨A,15,none⟩ (.int .i64 (g 3))).setCell ⟨A,16,none⟩ (.int .i64 (g 4))).setCell ⟨A,17,none⟩ (.int .i64 (g 5))).setCell ⟨A,18,none⟩ (.int .i64 (g 6))).setCell ⟨A,19,none⟩ (.int .i64 (g 7))).setCell ⟨A,20,none⟩ (.int .i64 (g 8))).setCell ⟨A,21,none⟩ (.int .i64 (g 9))).setCell ⟨A,22,none⟩ (.int .i64 (g 10))).setCell ⟨A,23,none⟩ (.int .i64 (g 11)))=W:=⟨_,rfl⟩
  go_upto_region 5 with fail;rw [hW5] at b5 C5 G5 R5 ⊢;have HB9:=hid b5;have HC9:=hid C5;have HG9:=hid G5;have HR9:=hid R5;have HS:=hid hS;clear hW5 hg b5 C5 G5 R5 HB7 HC7 HG7 HR7 hS c12 c13 c14 c15 c16 c17 c18 c19 c20 c21 c22 c23 k12 k13 k14 k15 k16 k17 k18 k19 k20 k21 k22 k23
 case' false=>
  obtain ⟨g,hg⟩:∃g,f=g:=⟨_,rfl⟩
  have b9:=HB6.out
  have hS:SrfSm f f sh rt n:=⟨HF.out.pt HZ.out,HF.out.pt HZ.out,hsh,HRT.out⟩
  have HB9:Hid (Blk w6 A 42 [.int .i64 (f 0),.int .i64 (f 1),.int .i64 (f 2),.int .i64 (f 3),.int .i64 (f 4),.int .i64 (f 5),.int .i64 (f 6),.int .i64 (f 7),.int .i64 (f 8),.int .i64 (f 9),.int .i64 (f 10),.int .i64 (f 11),.int .i64 (g 0),.int .i64 (g 1),.int .i64 (g 2),.int .i64 (g 3),.int .i64 (g 4),.int .i64 (g 5),.int .i64 (g 6),.int .i64 (g 7),.int .i64 (g 8),.int .i64 (g 9),.int .i64 (g 10),.int .i64 (g 11),.int .i64 sh,.int .i64 rt]):=hid (by rw [←hg];exact b9);have HC9:=HC6;have HG9:=HG6;have HR9:=HR6;have HS:Hid (SrfSm f g sh rt n):=hid (by rw [←hg];exact hS);clear hg b9 hS HB6 HC6 HG6 HR6;go_upto_region 5 with fail
 all_goals
  have hcA:=HB9.out.rangeB;have hbR:=HR9.out;go_wp2_with (first|(show wpList _ _ _ [_,_] _ _;refine wpList_load_mid rfl _ _ rfl A 0 rfl [.int .i64 (f 0),.int .i64 (f 1),.int .i64 (f 2),.int .i64 (f 3),.int .i64 (f 4),.int .i64 (f 5),.int .i64 (f 6),.int .i64 (f 7),.int .i64 (f 8),.int .i64 (f 9),.int .i64 (f 10),.int .i64 (f 11),.int .i64 (g 0),.int .i64 (g 1),.int .i64 (g 2),.int .i64 (g 3),.int .i64 (g 4),.int .i64 (g 5),.int .i64 (g 6),.int .i64 (g 7),.int .i64 (g 8),.int .i64 (g 9),.int .i64 (g 10),.int .i64 (g 11),.int .i64 sh,.int .i64 rt] _ hcA Tryz.underlying42 rfl info_srfS ?_)|(show wpList _ _ _ [_] _ _;refine wpList_store_rowTo rfl _ _ _ rfl rfl w.heap.size #[.int .i64 (f 0),.int .i64 (f 1),.int .i64 (f 2),.int .i64 (f 3),.int .i64 (f 4),.int .i64 (f 5),.int .i64 (f 6),.int .i64 (f 7),.int .i64 (f 8),.int .i64 (f 9),.int .i64 (f 10),.int .i64 (f 11),.int .i64 (g 0),.int .i64 (g 1),.int .i64 (g 2),.int .i64 (g 3),.int .i64 (g 4),.int .i64 (g 5),.int .i64 (g 6),.int .i64 (g 7),.int .i64 (g 8),.int .i64 (g 9),.int .i64 (g 10),.int .i64 (g 11),.int .i64 sh,.int .i64 rt] rfl rfl 42 _ hbR info_srfS rfl (by kernel_rfl) ?_));have bR:=Blk.rowB HR9.out [.int .i64 (f 0),.int .i64 (f 1),.int .i64 (f 2),.int .i64 (f 3),.int .i64 (f 4),.int .i64 (f 5),.int .i64 (f 6),.int .i64 (f 7),.int .i64 (f 8),.int .i64 (f 9),.int .i64 (f 10),.int .i64 (f 11),.int .i64 (g 0),.int .i64 (g 1),.int .i64 (g 2),.int .i64 (g 3),.int .i64 (g 4),.int .i64 (g 5),.int .i64 (g 6),.int .i64 (g 7),.int .i64 (g 8),.int .i64 (g 9),.int .i64 (g 10),.int .i64 (g 11),.int .i64 sh,.int .i64 rt];clear hcA hbR;refine ret_box rfl rfl bR _ Tryz.underlying42 rfl info_srfS rfl ?_;exact ⟨f,g,sh,rt,rfl,HS.out,HC9.out.rowNew (by omega) _,HG9.out.rowNew (Nat.le_refl _) _⟩
theorem Prg.R.set2 {p:Prg} {lo hi l2 A:Nat} {w:World} {v:Value} (h:p.R lo hi w v) (hA:A<lo) (hl:l2≤lo) (hh:hi≤w.heap.size) (u u':Value):p.R l2 ((w.setCell ⟨A,0,none⟩ u).setCell ⟨A,1,none⟩ u').heap.size ((w.setCell ⟨A,0,none⟩ u).setCell ⟨A,1,none⟩ u') v:=
 (h.same ((Same.setLow _ (p:=⟨A,0,none⟩) hA u).trans (Same.setLow _ (p:=⟨A,1,none⟩) hA u'))).low hl (by rw [World.size_setCell,World.size_setCell];exact hh)
theorem Prg.R.ext' {p:Prg} {lo:Nat} {w w':World} {v:Value} (h:p.R lo w.heap.size w v) (e:Ext w w'):p.R lo w'.heap.size w' v:=(h.ext (Nat.le_refl _) e).low (Nat.le_refl _) e.size
theorem cu_chk:cuP.chkB=true:=by
 unfold Prg.chkB;simp only [Bool.and_eq_true];refine ⟨⟨⟨⟨?_,?_⟩,?_⟩,?_⟩,?_⟩
 ·decide
 ·simp [cuP,cuN,cuA,Prg.nameB,isVar,Lib.toList_data]
 ·simp [cuP,cuN,cuA,Prg.arB]
 ·simp [cuP,cuN,cuA,Prg.asB,isVar,asgB,Lib.toList_data]
 ·simp [cuP,cuN,cuA,Prg.colB,asgB,Lib.toList_data]
theorem l14Good_cur (hi B:Nat) (w:World) (hc:Cur hi w B):Calls Tryz.prog 140 #[.pointer (some ⟨B,0,none⟩)] w fun e w'=>∃(p:Prg) (v:Value),e = .returned v∧p.R w.heap.size w'.heap.size w' v∧p.bd∧p.small∧p.chkB=true∧Cur hi w' B∧Gr B w w':=by
 have zB:=hc.lt;have hB:=Blk.new w 132 [.slice none 0 0,.slice none 0 0];have x1:Ext w (w.alloc (.cells #[.slice none 0 0,.slice none 0 0] 132)):=X_;have HC1:=hid (hc.ext x1);have HB1:=hid hB;have HX1:=hid x1;have z1:(w.alloc (.cells #[.slice none 0 0,.slice none 0 0] 132)).heap.size=w.heap.size+1:=World.size_alloc _ _;clear hc hB x1;go_enter Tryz.func140,Tryz.ntmps140;go_wp2_with fail
 go_loopw [3] (fun i wr=>∃k:Nat,k≤20∧i = .int .i64 (k:Nat)∧Cur hi wr B∧Gr B (w.alloc (.cells #[.slice none 0 0,.slice none 0 0] 132)) wr) (fun i _=>20 - (intOf i).toNat)
 case atStart=>exact ⟨0,by omega,rfl,HC1.out,Gr.refl _ _⟩
 case round=>
  obtain ⟨k,hk,rfl,C,G⟩:=hrel;have HC:=hid C;have HG:=hid G;clear C G HC1
  by_cases hlt:k<20
  ·go_wp2_with fail
   refine (sSource_any hi B _ HC.out).mono ?_;rintro e w3 ⟨s,rfl,hs,C3,G3⟩;have HC3:=hid C3;have HG3:=hid (HG.out.trans G3);clear C3 G3 HC HG;go_wp2_with fail;refine (sParse_any s w3 (by unfold maxLen;omega)).mono ?_;rintro e w4 ⟨p,v,n,rfl,R4,bd4,sm4,x4,-⟩;obtain ⟨na,nc,ga,gc,rfl,-,-⟩:=R4.form;have HR:=hid R4;have HX4:=hid x4;have zx:=x4.size;have y5:Ext w4 (w4.alloc (.cells #[.slice na p.ns.length nc,.slice ga p.gs.length gc] 132)):=X_;have HR5:=hid (R4.ext (Nat.le_refl _) y5);have HY5:=hid y5;have zy:=y5.size;clear R4 x4 y5;have b5:=Blk.new w4 132 [.slice na p.ns.length nc,.slice ga p.gs.length gc];have HB5:=hid b5;clear b5;go_wp2_with fail;refine (sCheck_any _ _ _ p _ HR5.out zy bd4 sm4.1.1 sm4.2).mono ?_;rintro e w6 ⟨⟨c,q,rfl,hcc⟩,x6⟩;have HX6:=hid (HY5.out.trans x6);have HB6:=hid (HB5.out.ext x6);have r0:=HG3.out.blk HB1.out (by omega);have HR0:=hid (r0.ext (HX4.out.trans (HY5.out.trans x6)));have HG6:=hid (HG3.out.ext (HX4.out.trans (HY5.out.trans x6)));have HC6:=hid (HC3.out.ext (HX4.out.trans (HY5.out.trans x6)));have HR6:=hid (HR5.out.ext zy x6);obtain ⟨q0,q1⟩:=HB6.out.q2;have z6:=x6.size;have zg3:=HG3.out.size;have hh6:=HX6.out.size;have zlt:=HB6.out.lt;clear x6 r0 HX4 HY5 HR5 HB5 HC3 HG3 HR
   by_cases h0:c=0
   ·have hchk:p.chkB=true:=by rw [←hcc];exact beq_iff_eq.2 h0
    have HCH:=hid hchk;obtain ⟨g0,g1⟩:=HR0.out.q2;have k0:=HR0.out.free 0;have k1:=HR0.out.free 1;have zR:=HR0.out.lt;have zg:=HG6.out.size;clear hchk hcc;go_wp2;refine bodyPost_ret (v:=.agg #[.slice na p.ns.length nc,.slice ga p.gs.length gc]) (by simp [results,Tryz.results140,go_sem, *]) rfl ?_;exact ⟨p,_,rfl,HR6.out.set2 (by omega) (by omega) (by omega) _ _,bd4,sm4,HCH.out,(HC6.out.setNew (by omega) _ _).setNew (by omega) _ _,((((Gr.refl B w).ext HX1.out).trans HG6.out).setNew (Nat.le_refl _) _ _).setNew (Nat.le_refl _) _ _⟩
   ·clear hcc
    go_wp2;go_roundw
    case rel=>exact ⟨k+1,by omega,by go_num,HC6.out,HG6.out⟩
    case measure=>simp [intOf];omega
  ·obtain rfl:k=20:=by omega
   go_wp2_with fail;refine (sParse_any cuS wr (by decide)).mono ?_;rintro e w4 ⟨p,v,n,rfl,R4,bd4,sm4,x4,hcu⟩;obtain rfl:=hcu rfl;obtain ⟨na,nc,ga,gc,rfl,-,-⟩:=R4.form;have HR:=hid R4;have HX4:=hid x4;have r0:=(HG.out.blk HB1.out (by omega)).ext x4;have HG6:=hid (HG.out.ext x4);have zx:=x4.size;have zg3:=HG.out.size;obtain ⟨g0,g1⟩:=r0.q2;have k0:=r0.free 0;have k1:=r0.free 1;have zR:=r0.lt;have HC6:=hid (HC.out.ext x4);clear R4 x4 hcu r0 HC HG;go_wp2;refine bodyPost_ret (v:=.agg #[.slice na cuP.ns.length nc,.slice ga cuP.gs.length gc]) (by simp [results,Tryz.results140,go_sem, *]) rfl ?_;exact ⟨cuP,_,rfl,(HR.out.set2 (A:=w.heap.size) (l2:=w.heap.size) (by omega) (by omega) (Nat.le_refl _) _ _).ext' X_,bd4,sm4,cu_chk,((HC6.out.setNew (by omega) _ _).setNew (by omega) _ _).ext X_,(((((Gr.refl B w).ext HX1.out).trans HG6.out).setNew (Nat.le_refl _) _ _).setNew (Nat.le_refl _) _ _).ext X_⟩
theorem run_append_at {P:Program} (w:World) (base:Nat) (t ty e:TypeId) (i:TypeInfo) (z:Value) (size bytes:Nat) (ht:P.underlying t=some (.slice e)) (hi:P.info? e=some i) (hz:i.zero=some z)
  (hsize:i.size=size) (hby:i.bytes=bytes) (hzs:z.cells.size=size) (hsz:0<size)
  (v:Value) (n:Nat) (xs:List Value) (hown:w.ownsRow base e size v n xs)
  (a:Addr) (m c:Nat) (news:List Value) (hl:news.length=m*size) (hnews:∀j u,news[j]?=some u→w.cell? (a.add j)=some u) (h1:∀u∈news,u.oneCell'=true)
  (h63:n+m≤maxLen) (hbytes:(n+m)*bytes≤140737488355328) (hbase:base≤w.heap.size) :
  ∃v' w',(Builtin.append_ #[t,t] ty #[v,.slice (some a) m c]).run P w = .ok v' w'∧w'.ownsRow base e size v' (n+m) (xs++news)∧w.grownBy w' v.ownBlock∧(∀k,v'.ownBlock=some k→v.ownBlock=some k∨w.heap.size≤k):=by
 obtain ⟨v',w',hr,h2,h3,-⟩:=run_append_own (P:=P) w base t ty e i z size bytes ht hi hz hsize hby hzs hsz v n xs hown a m c news hl hnews h1 h63 hbytes hbase;refine ⟨v',w',hr,h2,h3,?_⟩
 rcases hown.2 with ⟨rfl,rfl⟩|⟨g,cap,cur,rfl,hbg,hg,hnc,hcm,hcs,htake⟩
 ·have hx:xs=[]:=List.eq_nil_of_length_eq_zero (by simpa using hown.1)
  subst hx;obtain ⟨v2,w2,hr2,k2,-,-⟩:=run_append_own (P:=P) w w.heap.size t ty e i z size bytes ht hi hz hsize hby hzs hsz (.slice none 0 0) 0 [] (World.ownsRow_nil _ _ _ _) a m c news hl hnews h1 h63 hbytes (Nat.le_refl _);rw [hr] at hr2;simp only [Result.ok.injEq] at hr2;obtain ⟨rfl,rfl⟩:=hr2;exact fun k hk=>.inr (k2.lt k hk).1
 ·by_cases hroom:n+m≤cap
  ·subst hsize
   have hfit:n*i.size+news.length≤cur.size:=by rw [hl,hcs,←Nat.add_mul];exact Nat.mul_le_mul_right _ hroom
   have hr2:=run_append_room (P:=P) w t ty e i ht hi g n cap cur hg a m c news hl hnews h1 hroom hfit;rw [hr] at hr2;simp only [Result.ok.injEq] at hr2;obtain ⟨rfl,-⟩:=hr2;exact fun k hk=>.inl hk
  ·subst hsize
   subst hby
   have hsmall:n+m≤9223372036854775807:=by simp only [maxLen] at h63;omega
   have holds:∀j u,xs[j]?=some u→w.cell? ((⟨g,0,none⟩:Addr).add j)=some u:=hown.cells (g:=g) rfl;have hr2:=run_append_grow (P:=P) w t ty e i z ht hi hz ⟨g,0,none⟩ n cap xs hown.1 holds a m c news hl hnews (by omega) (by omega) (growslice_fits (by omega) hbytes);rw [hr] at hr2;simp only [Result.ok.injEq] at hr2;obtain ⟨rfl,-⟩:=hr2;intro k hk;simp only [Value.ownBlock,Option.some.injEq] at hk;subst hk;exact .inr (Nat.le_refl _)
theorem wpList_append_at {α : Type} (cs : α→List Value) (e:TypeId) (sz bytes:Nat) (z:Value) (w:World) {ops:Array Oper} {rest:List Oper} {o:Oper} {a:Act} {Q:Exit→Act→World→Prop} (hg:o.guard=none) (s x:Operand) (t:TypeId)
  (hop:o.op=Op.call { callee:=Callee.builtin Builtin.append,args:=#[s,x],argTypes:=#[t,t] }) (ht:Tryz.prog.underlying t=some (.slice e))
  (hinfo:(Tryz.prog.info? e).map (fun i=>(i.zero,i.size,i.bytes))=some (some z,sz,bytes)) (hzs:z.cells.size=sz) (hsz:0<sz) (hby:bytes≤1000) (hc:∀x,(cs x).length=sz)
  (lo:Nat) (v:Value) (xs:List α) (hs:a.eval s=v) (hown:OwnG cs lo e sz w v xs)
  (y : α) (b:Nat) (hx:a.eval x = .slice (some ⟨b,0,none⟩) 1 1) (hcell:∀j,j<sz→w.cell? ⟨b,j,none⟩=(cs y)[j]?) (h1:∀u∈cs y,u.oneCell'=true) (hlen:xs.length<1000000) (hlo:lo≤w.heap.size)
  (hK:∀v' w',OwnG cs lo e sz w' v' (xs++[y])→w.grownBy w' v.ownBlock→(∀k,v'.ownBlock=some k→v.ownBlock=some k∨w.heap.size≤k)→wpList Tryz.prog ops Q rest (a.put o.dst v') w'):wpList Tryz.prog ops Q (o::rest) a w:=by
 obtain ⟨i0,hi0,hz0,hz1,hz2⟩:=info_parts hinfo;refine wpList_plain hg fun _ hKK=>?_
 obtain ⟨v',w',hr,h2,h3,h4⟩:=run_append_at (P:=Tryz.prog) w lo t o.type e i0 z sz bytes ht hi0 hz0 hz1 hz2 hzs hsz v xs.length _ hown ⟨b,0,none⟩ 1 1 (cs y) (by rw [hc,Nat.one_mul]) (by
  intro j u hj
  have hjl:j<sz:=by rw [←hc y];exact (List.getElem?_eq_some_iff.1 hj).1
  have ea:(⟨b,0,none⟩:Addr).add j=⟨b,j,none⟩:=by
   unfold Addr.add
   split <;> simp_all
  rw [ea,hcell j hjl,hj]) h1 (by unfold maxLen;omega) (by
   have:(xs.length+1)*bytes≤1000000*1000:=Nat.mul_le_mul (by omega) hby
   omega) hlo
 unfold Oper.wp execOp;simp only [hop,resolve,invoke,builtin,Sem.run_bind,Sem.run_pure,Result.andThen_ok,List.map_toArray,List.map_cons,List.map_nil,hs,hx,hr];refine hKK _ _ (hK v' w' ?_ h3 h4);unfold OwnG;rw [List.length_append,List.flatMap_append]
 simpa using h2
def pairCs (u:Value×Value):List Value:=[u.1,u.2]
def PRow (lo hp:Nat) (w:World) (v:Value) (ps:List Prg):Prop:=
 hp≤w.heap.size∧∃us:List (Value×Value),us.length=ps.length∧OwnG pairCs lo 132 2 w v us∧∀(i:Nat) (p:Prg) (u:Value×Value),ps[i]?=some p→us[i]?=some u→∃l h,lo≤l∧h≤hp∧p.R l h w (.agg #[u.1,u.2])∧∀k,v.ownBlock=some k→k<l∨h≤k
theorem PRow.nil {lo hp:Nat} {w:World} (h:hp≤w.heap.size):PRow lo hp w (.slice none 0 0) []:=⟨h,[],rfl,OwnG.nil _ _ _ _ _,fun i p u h=>by simp at h⟩
theorem PRow.keep {lo hp:Nat} {w w':World} {v:Value} {ps:List Prg} (h:PRow lo hp w v ps) (hz:w.heap.size≤w'.heap.size) (hb:∀b,lo≤b→b<hp→w'.heap[b]?=w.heap[b]?)
  (hr:∀b c,lo≤b→w.heap[b]?=some (.cells c 132 (0,0))→w'.heap[b]?=some (.cells c 132 (0,0))):PRow lo hp w' v ps:=by
 obtain ⟨h0,us,h1,h2,h3⟩:=h;refine ⟨by omega,us,h1,OwnG.of h2 hr,fun i p u hp hu=>?_⟩;obtain ⟨l,hh,e1,e2,e3,e4⟩:=h3 i p u hp hu;exact ⟨l,hh,e1,e2,e3.same (fun k hk1 hk2=>hb k (by omega) (by omega)),e4⟩
theorem PRow.ext {lo hp:Nat} {w w':World} {v:Value} {ps:List Prg} (h:PRow lo hp w v ps) (x:Ext w w'):PRow lo hp w' v ps:=
 h.keep x.size (fun b _ h2=>x.block (by have:=h.1;omega)) (fun b c _ hc=>(x.block (Array.getElem?_eq_some_iff.1 hc).1).trans hc)
theorem PRow.gr {lo hp B:Nat} {w w':World} {v:Value} {ps:List Prg} (h:PRow lo hp w v ps) (g:Gr B w w') (hB:B<lo):PRow lo hp w' v ps:=
 h.keep g.size (fun b h1 h2=>g.keep (by have:=h.1;omega) (by omega)) (fun b c h1 hc=>(g.keep (Array.getElem?_eq_some_iff.1 hc).1 (by omega)).trans hc)
theorem PRow.set {lo hp:Nat} {w:World} {v:Value} {ps:List Prg} (h:PRow lo hp w v ps) {X:Nat} {t:TypeId} {cs:List Value} (hX:Blk w X t cs) (ht:t≠132) (hx:X<lo∨hp≤X) (i:Nat) (u:Value):PRow lo hp (w.setCell ⟨X,i,none⟩ u) v ps:=
 h.keep (by rw [World.size_setCell];exact Nat.le_refl _) (fun b h1 h2=>Below.heap_setCell _ _ _ _ (by simp only;omega)) (fun b c h1 hc=>(Below.heap_setCell _ _ _ _ (by
  simp only;rintro rfl;unfold Blk at hX;rw [hX] at hc;simp only [Option.some.injEq,Obj.cells.injEq] at hc
  exact ht hc.2.1)).trans hc)
theorem PRow.grown {lo hp:Nat} {w w':World} {v:Value} {ps:List Prg} (h:PRow lo hp w v ps) {row:Option Nat} (hg:w.grownBy w' row) (hr:∀k,row=some k→hp≤k∧∃c e,e≠132∧w.heap[k]?=some (.cells c e (0,0))):PRow lo hp w' v ps:=
 h.keep hg.size (fun b h1 h2=>hg.block b (by have:=h.1;omega) (fun e=>by have:=(hr b e.symm).1;omega)) (fun b c h1 hc=>(hg.block b (Array.getElem?_eq_some_iff.1 hc).1 (fun e=>by
  obtain ⟨_,c',e',ne,h'⟩:=hr b e.symm;rw [hc] at h';simp only [Option.some.injEq,Obj.cells.injEq] at h'
  exact ne h'.2.1.symm)).trans hc)
theorem PRow.push {lo hp B:Nat} {w w1 w2:World} {v v':Value} {ps:List Prg} {p:Prg} {u1 u2:Value} (h0:hp≤w.heap.size) (hl:lo≤w.heap.size) (g:Gr B w w1) (hB:B<lo)
  (hp1:p.R w.heap.size w1.heap.size w1 (.agg #[u1,u2])) {us:List (Value×Value)} (hus:us.length=ps.length) (hR:∀(i:Nat) (p:Prg) (u:Value×Value),ps[i]?=some p→us[i]?=some u→∃l h,lo≤l∧h≤hp∧p.R l h w (.agg #[u.1,u.2])∧∀k,v.ownBlock=some k→k<l∨h≤k)
  (hv:∀k,v.ownBlock=some k→lo≤k∧k<w.heap.size) {w1':World} (x:Ext w1 w1')
  (hown:OwnG pairCs lo 132 2 w2 v' (us++[(u1,u2)])) (hg:w1'.grownBy w2 v.ownBlock) (hat:∀k,v'.ownBlock=some k→v.ownBlock=some k∨w1'.heap.size≤k):PRow lo w1.heap.size w2 v' (ps++[p]):=by
 have hz:=g.size;have hx:=x.size;refine ⟨by have:=hg.size;omega,us++[(u1,u2)],by simp [hus],hown,fun i q u hq hu=>?_⟩
 rcases Nat.lt_or_ge i ps.length with hi|hi
 ·rw [List.getElem?_append_left hi] at hq
  rw [List.getElem?_append_left (by omega)] at hu;obtain ⟨l,hh,e1,e2,e3,e4⟩:=hR i q u hq hu;refine ⟨l,hh,e1,by omega,((e3.same fun k k1 k2=>g.keep (by omega) (by omega)).same fun k k1 k2=>x.block (by omega)).same fun k k1 k2=>hg.block k (by omega) (fun e=>?_),fun k hk=>?_⟩
  ·rcases e4 k e.symm with h5|h5 <;> omega
  ·rcases hat k hk with h5|h5
   ·exact e4 k h5
   ·right;omega
 ·have hi2:i=ps.length:=by
   have h5:=(List.getElem?_eq_some_iff.1 hq).1;simp at h5;omega
  subst hi2;rw [List.getElem?_append_right (Nat.le_refl _)] at hq;rw [List.getElem?_append_right (by omega)] at hu;simp only [Nat.sub_self,hus,List.getElem?_cons_zero,Option.some.injEq] at hq hu;subst hq hu;refine ⟨w.heap.size,w1.heap.size,hl,Nat.le_refl _,(hp1.same fun k k1 k2=>x.block k2).same fun k k1 k2=>hg.block k (by omega) (fun e=>?_),fun k hk=>?_⟩
  ·have:=(hv k e.symm).2;omega
  ·rcases hat k hk with h5|h5
   ·left;exact (hv k h5).2
   ·right;omega
theorem PRow.prgs {lo hp:Nat} {w:World} {v:Value} {ps:List Prg} (h:PRow lo hp w v ps):PrgsR lo w.heap.size w v ps:=by
 obtain ⟨h0,us,h1,h2,h3⟩:=h
 rcases h2.2 with ⟨rfl,h4⟩|⟨g,cap,cur,rfl,hb,hg,hcap,hm,hs,ht⟩
 ·refine ⟨none,0,by rw [←h1,h4],by omega,by unfold maxLen;omega,fun k p hp=>?_⟩
  have:=(List.getElem?_eq_some_iff.1 hp).1;omega
 ·refine ⟨some ⟨g,0,none⟩,cap,by rw [h1],by omega,hm,fun k p hp=>?_⟩
  have hk:=(List.getElem?_eq_some_iff.1 hp).1
  obtain ⟨u,hu⟩:∃u,us[k]?=some u:=⟨_,List.getElem?_eq_getElem (by omega)⟩
  obtain ⟨l,hh,e1,e2,e3,-⟩:=h3 k p u hp hu;obtain ⟨g',cap',he,-,-,-,-,-,hcell⟩:=OwnG.at h2 (fun _=>rfl) hu;simp only [Value.slice.injEq,true_and,Option.some.injEq,Addr.mk.injEq,and_true] at he;obtain ⟨rfl,rfl⟩:=he;refine ⟨g,0,u.1,u.2,rfl,hb,(Array.getElem?_eq_some_iff.1 hg).1,?_,?_,e3.low e1 (by omega)⟩
  ·rw [Nat.zero_add];exact hcell 0 (by decide)
  ·rw [Nat.zero_add];exact hcell 1 (by decide)
structure Srf where
 f:Nat→Int
 g:Nat→Int
 sh:Int
 rt:Int
def Srf.ls (x:Srf):List Int:=[x.f 0,x.f 1,x.f 2,x.f 3,x.f 4,x.f 5,x.f 6,x.f 7,x.f 8,x.f 9,x.f 10,x.f 11,x.g 0,x.g 1,x.g 2,x.g 3,x.g 4,x.g 5,x.g 6,x.g 7,x.g 8,x.g 9,x.g 10,x.g 11,x.sh,x.rt]
def Srf.cs (x:Srf):List Value:=x.ls.map (.int .i64)
theorem Srf.cs_len (x:Srf):x.cs.length=26:=rfl
theorem Srf.one (x:Srf):∀u∈x.cs,u.oneCell'=true:=by
 intro u hu;unfold Srf.cs at hu;obtain ⟨n,-,rfl⟩:=List.mem_map.1 hu
 rfl
def srfF (xs:List Srf):Nat→Int:=fun i=>(xs.flatMap Srf.ls).getD i 0
theorem srfF_at {xs:List Srf} {k:Nat} {x:Srf} (h:xs[k]?=some x) {j:Nat} (hj:j<26):srfF xs (k*26+j)=x.ls.getD j 0:=by
 unfold srfF;rw [List.getD_eq_getElem?_getD,List.getD_eq_getElem?_getD,flatMap_atG (cs:=Srf.ls) (sz:=26) (fun _=>rfl) h j hj]
def Srf.I (x:Srf):Prop:=∀n∈x.ls,I64 n
theorem OwnG.flatsS {lo:Nat} {w:World} {v:Value} {xs:List Srf} (h:OwnG Srf.cs lo 42 26 w v xs) (hI:∀x∈xs,x.I):Flats 26 lo w.heap.size w v xs.length (srfF xs):=
 h.flatsI (by decide) (fun _=>rfl) (fun _=>rfl) hI fun i x k hx hk=>srfF_at hx hk
theorem OwnG.rowS {α : Type} {cs : α→List Value} {lo:Nat} {e:TypeId} {sz:Nat} {w:World} {v:Value} {xs:List α} (h:OwnG cs lo e sz w v xs):∀k,v.ownBlock=some k→lo≤k∧∃c,w.heap[k]?=some (.cells c e (0,0)):=by
 intro k hk
 rcases h.2 with ⟨rfl,h4⟩|⟨g,cap,cur,rfl,hb,hg,_⟩
 ·cases hk
 ·simp only [Value.ownBlock,Option.some.injEq] at hk
  subst hk;exact ⟨hb,cur,hg⟩
theorem Blk.neRow {w:World} {A k:Nat} {t e:TypeId} {cs:List Value} {c:Array Value} (h:Blk w A t cs) (hk:w.heap[k]?=some (.cells c e (0,0))) (ne:t≠e):A≠k:=fun e1=>by
 subst e1;unfold Blk at h;rw [h] at hk;simp only [Option.some.injEq,Obj.cells.injEq] at hk;exact ne hk.2.1
structure ScM (lo lp hp:Nat) (w:World) (t:Tex) (tv pv sv:Value) (ps:List Prg) (xs:List Srf):Prop where
 tex:OwnInts lo w tv t.px
 prg:PRow lp hp w pv ps
 srf:OwnG Srf.cs hp 42 26 w sv xs
section
variable {lo lp hp : Nat} {w w' : World} {t : Tex} {tv pv sv : Value} {ps : List Prg} {xs : List Srf}
theorem ScM.ext (h:ScM lo lp hp w t tv pv sv ps xs) (x:Ext w w'):ScM lo lp hp w' t tv pv sv ps xs:=⟨h.tex.ext x,h.prg.ext x,OwnG.ext h.srf x⟩
theorem ScM.gr (h:ScM lo lp hp w t tv pv sv ps xs) {B:Nat} (g:Gr B w w') (hB:B<lo) (h1:lo≤lp) (h2:lo≤hp):ScM lo lp hp w' t tv pv sv ps xs:=
 ⟨h.tex.kept (fun k h1 h2=>g.keep h2 (by omega)),h.prg.gr g (by omega),OwnG.of h.srf fun b c hb hc=>(g.keep (Array.getElem?_eq_some_iff.1 hc).1 (by omega)).trans hc⟩
theorem ints_ne_box {v:Value} {ys:List Int} (h:OwnInts lo w v ys) {X:Nat} {u:TypeId} {cs:List Value} (hX:Blk w X u cs) (hu:u≠3):v.ownBlock≠some X:=fun e=>by
 obtain ⟨c,hc⟩:=h.block e;exact hX.neRow hc hu rfl
theorem ScM.set (h:ScM lo lp hp w t tv pv sv ps xs) {X:Nat} {cs:List Value} (hX:Blk w X 31 cs) (hx:X<lp∨hp≤X) (i:Nat) (u:Value):ScM lo lp hp (w.setCell ⟨X,i,none⟩ u) t tv pv sv ps xs:=
 ⟨h.tex.setOther (ints_ne_box h.tex hX (by decide)) u,h.prg.set hX (by decide) hx i u,OwnG.of h.srf fun b c hb hc=>(Below.heap_setCell _ _ _ _ (by
  simp only
  exact fun e=>hX.neRow (e▸hc) (by decide) rfl)).trans hc⟩
theorem ScM.row (h:ScM lo lp hp w t tv pv sv ps xs) {X:Nat} {cs:List Value} (hX:Blk w X 31 cs) (hx:X<lp∨hp≤X) (ds:Array Value):ScM lo lp hp (w.setRow X ds) t tv pv sv ps xs:=
 ⟨h.tex.grown (row:=some X) ⟨rfl,rfl,rfl,by rw [size_setRowB];exact Nat.le_refl _,fun k hk ne=>setRow_other _ _ _ _ (fun e=>ne (by rw [e]))⟩ (fun k hk e=>ints_ne_box h.tex hX (by decide) (by rw [hk];exact e)),
  h.prg.keep (by rw [size_setRowB];exact Nat.le_refl _) (fun b h1 h2=>setRow_other _ _ _ _ (by omega)) (fun b c h1 hc=>(setRow_other _ _ _ _ (fun e=>hX.neRow (e▸hc) (by decide) rfl)).trans hc),
  OwnG.of h.srf fun b c hb hc=>(setRow_other _ _ _ _ (fun e=>hX.neRow (e▸hc) (by decide) rfl)).trans hc⟩
theorem ScM.push (h:ScM lo lp hp w t tv pv sv ps xs) {sv':Value} {xs':List Srf} (hg:w.grownBy w' sv.ownBlock) (ho:OwnG Srf.cs hp 42 26 w' sv' xs'):ScM lo lp hp w' t tv pv sv' ps xs':=by
 have hr:=OwnG.rowS h.srf;refine ⟨h.tex.grown hg (fun k hk e=>?_),h.prg.grown hg (fun k hk=>?_),ho⟩
 ·obtain ⟨_,c,hc⟩:=hr k e.symm
  obtain ⟨c',hc'⟩:=h.tex.block hk;rw [hc'] at hc;simp only [Option.some.injEq,Obj.cells.injEq] at hc;exact absurd hc.2.1 (by decide)
 ·obtain ⟨h1,c,hc⟩:=hr k hk
  exact ⟨h1,c,_,by decide,hc⟩
theorem ScM.low {lo':Nat} (h:ScM lo lp hp w t tv pv sv ps xs) (hl:lo'≤lo):ScM lo' lp hp w t tv pv sv ps xs:=⟨h.tex.low hl,h.prg,h.srf⟩
end
theorem info_SrfT:(Tryz.prog.info? 42).map (fun i=>(i.zero,i.size,i.bytes))=some (some (.agg #[.int .i64 0,.int .i64 0,.int .i64 0,.int .i64 0,.int .i64 0,.int .i64 0,.int .i64 0,.int .i64 0,.int .i64 0,.int .i64 0,.int .i64 0,.int .i64 0,.int .i64 0,.int .i64 0,.int .i64 0,.int .i64 0,.int .i64 0,.int .i64 0,.int .i64 0,.int .i64 0,.int .i64 0,.int .i64 0,.int .i64 0,.int .i64 0,.int .i64 0,.int .i64 0]),26,208):=by kernel_rfl
theorem info_PrgT:(Tryz.prog.info? 132).map (fun i=>(i.zero,i.size,i.bytes))=some (some (.agg #[.slice none 0 0,.slice none 0 0]),2,48):=by kernel_rfl
theorem info_ScnT:(Tryz.prog.info? 31).map (fun i=>i.size)=some 12:=by kernel_rfl
theorem pair_one (u:Value×Value) (h1:u.1.oneCell'=true) (h2:u.2.oneCell'=true):∀x∈pairCs u,x.oneCell'=true:=by
 intro x hx;simp only [pairCs,List.mem_cons,List.not_mem_nil,or_false] at hx
 rcases hx with rfl|rfl <;> assumption
theorem Cur.grown {hi:Nat} {w w':World} {B:Nat} (h:Cur hi w B) {row:Option Nat} (hg:w.grownBy w' row) (hr:∀k,row=some k→B<k):Cur hi w' B:=
 h.keep fun b hb=>hg.block b (by have:=h.lt;omega) (fun e=>by have:=hr b e.symm;omega)
structure ScSm (c:Cam) (t:Tex) (side:Int) (ps:List Prg) (xs:List Srf):Prop where
 c:c.Sm
 t:t.Ok
 side:side=1∨side=2
 n:1≤ps.length∧ps.length≤2
 prg:∀p∈ps,p.bd∧p.small∧p.chkB=true
 m:xs.length≤3
 srf:∀x∈xs,SrfSm x.f x.g x.sh x.rt ps.length
end Go.Proofs.YtfjbiifebcfjfaaGreat
