/- Texts of this claim, one behind another; what its theorem does not use is left out: Rs4, Rs5, Rs6, Rs7, Ss1, Tg7, Tg1, Tg2, Tg3, Tg4, Tg8, Tg6, Tg5, Tg9, Oc1, Oc2, Oc3, Oc4, Oc5, Oc6, Tp1, Lw1, FgH, Tp3, Tp5, Shp, Mk1, Mk2, Mk3, Mk4, Mk5. -/
import Derived.Test.YthgpegkmjeigmaaGreatP33W4
import Derived.Test.YthgpegkmjeigmaaGreatP33W2
import Derived.Deep.CutBlock
import Derived.Test.YthgpegkmjeigmaaGreatP33W1
import Derived.Test.YthgpegkmjeigmaaGreatP33W3
set_option linter.unusedSimpArgs false
set_option linter.unusedVariables false
set_option maxRecDepth 100000
set_option maxHeartbeats 12800000
namespace Go.Proofs.YthgpegkmjeigmaaGreat
open Go.RowKit
open Go.Proofs.Tryz
open _root_.Go.Act renaming put→aQi
variable {lx ly r x y z:Int} {vs:List Value} {b h hi hi' i j k lo lo' n o:Nat} {f:Nat→Int} {t:TypeId} {av cv u v:Value} {w w':World}
open _root_.Bool renaming and_eq_true→aPk
open _root_.Go.Addr.mk renaming injEq→aP5
open _root_.Go.Proofs.Tryz renaming prog→aPa
open _root_.Go.Proofs.YthgpegkmjeigmaaGreat.Blk renaming new→aPh
open _root_.Go.Proofs.YthgpegkmjeigmaaGreat.Ext renaming trans→aPc,grown→aQj,setCell→aPm,drew→aP9,refl→aPg,block→aPf
open _root_.Go.Proofs.YthgpegkmjeigmaaGreat.V3 renaming scr→aQo
open _root_.Go.RowKit.Below renaming heap_setCell→aPe
open _root_.Go.Value renaming slice→aQk,int→aR9
open _root_.Go.Value.slice renaming injEq→aPz
open _root_.Go.World renaming size_alloc→aO6,size_setCell→aQf,ownsRow→aWk,frozen?_setCell→aQu,cell?_setCell_other→aQl,cell?_setCell_same→aSg
open _root_.Go.World.rowIs renaming congr→aRb,lt→aRp,of_block→aSj,cell→aQt,frozen→aQ4
open _root_.Int renaming toNat_natCast→aPw,tdiv_eq_ediv_of_nonneg→aRc,natCast_add→aQ8,natCast_mul→aSc
open _root_.List renaming getElem_mem→aPp,all_eq_false→aR6,all_eq_true→aQa,getElem_of_mem→aP3,range→aPu,getElem?_eq_some_iff→aO7,length_map→aQg,length_range→aSn,getElem_map→aTe,getElem_range→aSe,mem_range→aP8,flatMap_append→aQ0,length_append→aPy,take_length→aP7,map_append→aQ9,filterMap_cons→aPt,filterMap_nil→aPn,getElem?_toArray→aO9,getElem?_cons_zero→aO4,getElem?_cons_succ→aO5,setIfInBounds_toArray→aPb,set_cons_succ→aPj,set_cons_zero→aPi,append_assoc→aQn,mem_singleton→aR0,range_succ→aRi,flatMap_singleton→aSt,getElem?_eq_getElem→aPo,mem_of_getElem?→aPv,getD_eq_getElem?_getD→aPx,append_nil→aSr,length_cons→aQs,map_cons→aRf,map_nil→aUr,length_nil→aRn
open _root_.Nat renaming lt_or_ge→aQ3,zero_add→aP0,lt_of_lt_of_le→aQe,le_trans→aPd,le_refl→aO3,le_of_lt→aS7,add_assoc→aQv,add_comm→aWx,zero_mul→aTo,add_zero→aQ1,mul_le_mul→aP4,add_mul→aRj,one_mul→aRl,reduceAdd→aRz
open _root_.Option.some renaming injEq→aO8,inj→aTt
theorem rB (s:Scn) (lo hi:Nat) (v:Value) (w:World) (hv:s.R lo hi w v) (hh:hi<=w.heap.size) (hsm:s.small) :
  R_ 45 #[v] w (.bool s.okB):=by
 obtain ⟨a1,c1,a2,c2,a3,c3,rfl,-,q1,-,h1,h2,h3⟩:=hv.form;have q0:=aPh w 40 (sL_ s a1 c1 a2 c2 a3 c3);have R0:=hid q0;have X0:=hid (show Ext w (w.alloc (.cells (sA_ s a1 c1 a2 c2 a3 c3) 40)) from X_);have HT:=hid (show ∀W:World,Ext w W->cJ lo hi W (.agg #[s.t.log,.slice a1 s.t.px.length c1]) s.t from fun W x=>⟨_,rfl,q1,(h1.shut).ext hh x⟩);have H1:=hid h1;have H2:=hid h2;have H3:=hid h3;have z7:=h2.le;have z2:=h2.cap;have z8:=h3.le;have z3:=h3.cap;have HS:=hid hsm;clear q0 hv q1 h1 h2 h3 hsm;unfold Scn.okB
 obtain ⟨b1,q3⟩:∃b,s.c.okB=b:=⟨_,rfl⟩
 obtain ⟨b2,q4⟩:∃b,s.t.okB=b:=⟨_,rfl⟩
 obtain ⟨b3,q8⟩:∃b,inB (s.ps.length:Int) 1 3=b:=⟨_,rfl⟩
 have C1:=hid q3;have C2:=hid q4;have C3:=hid q8;rw [q3,q4,q8];clear q3 q4 q8;go_enter func45,ntmps45;go_wp2_with fail
 go_loopw [13] (fun i wr=>∃k:Nat,k<=s.ps.length/\i = .int .i64 (k:Nat)/\Ext w wr/\Blk wr w.heap.size 40 (sL_ s a1 c1 a2 c2 a3 c3)/\∀q (hq:q<k) (hq2:q<s.ps.length),s.ps[q].chkB=true) (fun i _=>s.ps.length - (intOf i).toNat)
 case atStart=>exact ⟨0,by omega,rfl,X0,R0,fun q hq=>absurd hq (by omega)⟩
 case round=>
  obtain ⟨k,hk,rfl,hx,hb,hc⟩:=hrel;have HX:=hid hx;have HB:=hid hb;have HC:=hid hc
  rcases aQ3 k s.ps.length with hlt|hge
  ·obtain ⟨b,q6,e1,d1,e2,d2,rfl,z6,z5,k1,k2,hR⟩:=H2.at hlt hx hh
   have HR:=hid hR;have hz:=hx.size;have HL:=hid hlt;clear hx hb hc hR;go_wp2_with fail;refine (vE lo hi _ _ _ (HR.ext (by omega) (show Ext wr (wr.alloc (.cells #[.slice e1 (s.ps[k]'hlt).ns.length d1,.slice e2 (s.ps[k]'hlt).gs.length d2] 119)) from X_)) (by simp;omega) (HS _ (aPp hlt)).1 (HS _ (aPp hlt)).2.1.1 (HS _ (aPp hlt)).2.2).mono ?_;rintro e w5 ⟨⟨cc,ck,rfl,hcc⟩,x5⟩;have y5:Ext wr w5:=aPc (show Ext wr (wr.alloc (.cells #[.slice e1 (s.ps[k]'hlt).ns.length d1,.slice e2 (s.ps[k]'hlt).gs.length d2] 119)) from X_) x5
   by_cases x7:cc=0
   ·subst x7
    have X5:=hid (HX.trans y5);have R5:=hid (HB.ext y5);have q7:=hid hcc.symm;clear hcc x5 y5;go_wp2;go_roundw
    case rel=>
     refine ⟨k+1,by omega,by go_num,X5,R5,fun q hq hq2=>?_⟩
     rcases aQ3 q k with h|h
     ·exact HC q h hq2
     ·obtain rfl:q=k:=by omega
      exact q7
    case measure=>simp [intOf];omega
   ·have h8:s.ps.all Prg.chkB=false:=aR6.2 ⟨_,aPp hlt,by rw [<-hcc];simp [x7]⟩
    have h6:=hid h8;have X5:=hid (HX.trans y5);clear hcc x5 y5 h8;go_wp2;go_ret;exact ⟨by rw [h6];simp,X5⟩
  ·obtain rfl:k=s.ps.length:=by omega
   have h8:s.ps.all Prg.chkB=true:=aQa.2 (fun x hx=>by obtain ⟨q,hq,rfl⟩:=aP3 hx;exact hc q hq hq);have HA:=hid h8;have z1:=hb.cell 10 rfl;have lb:=hb.lt;clear hx hb hc h8;go_wp2_with fail;clear z1 lb
   go_loopw [28] (fun i wr=>∃k:Nat,k<=s.m/\i = .int .i64 (k:Nat)/\Ext w wr/\Blk wr w.heap.size 40 (sL_ s a1 c1 a2 c2 a3 c3)/\∀q,q<k->s.srfB q=true) (fun i _=>s.m - (intOf i).toNat)
   case atStart=>exact ⟨0,by omega,rfl,HX,HB,fun q hq=>absurd hq (by omega)⟩
   case round=>
    obtain ⟨j,hj,rfl,hx,hb,hc⟩:=hrel;have HX:=hid hx;have HB:=hid hb;have HC:=hid hc
    rcases aQ3 j s.m with hlt|hge
    ·obtain ⟨b,q6,rfl,q3,q4,h9⟩:=H3.at hlt (by decide)
     have bw:b<w.heap.size:=by omega
     have q9:wr.rangeAt b (q6+j*26) ((aPu 26).map fun q=>.int .i64 (s.F (j*26+q))):=by
      intro q v hq;obtain ⟨h1,h2⟩:=aO7.1 hq;simp only [aQg,aSn] at h1;simp only [aTe,aSe] at h2;subst h2;exact (hx.cells.1 b _ bw).trans (h9 q h1)
     change wr.rangeAt b (q6+j*26) [(s.st j 0),(s.st j 1),(s.st j 2),(s.st j 3),(s.st j 4),(s.st j 5),(s.st j 6),(s.st j 7),(s.st j 8),(s.st j 9),(s.st j 10),(s.st j 11),(s.en j 0),(s.en j 1),(s.en j 2),(s.en j 3),(s.en j 4),(s.en j 5),(s.en j 6),(s.en j 7),(s.en j 8),(s.en j 9),(s.en j 10),(s.en j 11),(s.sh j),(s.rt j)] at q9;have x9:=hid q9
     have x4:World.rangeAt (wr.alloc (.cells #[(s.st j 0),(s.st j 1),(s.st j 2),(s.st j 3),(s.st j 4),(s.st j 5),(s.st j 6),(s.st j 7),(s.st j 8),(s.st j 9),(s.st j 10),(s.st j 11),(s.en j 0),(s.en j 1),(s.en j 2),(s.en j 3),(s.en j 4),(s.en j 5),(s.en j 6),(s.en j 7),(s.en j 8),(s.en j 9),(s.en j 10),(s.en j 11),(s.sh j),(s.rt j)] 127)) wr.heap.size 0 [(s.st j 0),(s.st j 1),(s.st j 2),(s.st j 3),(s.st j 4),(s.st j 5),(s.st j 6),(s.st j 7),(s.st j 8),(s.st j 9),(s.st j 10),(s.st j 11),(s.en j 0),(s.en j 1),(s.en j 2),(s.en j 3),(s.en j 4),(s.en j 5),(s.en j 6),(s.en j 7),(s.en j 8),(s.en j 9),(s.en j 10),(s.en j 11),(s.sh j),(s.rt j)]:=fun q v hq=>by rw [aP0];exact (aPh wr 127 [(s.st j 0),(s.st j 1),(s.st j 2),(s.st j 3),(s.st j 4),(s.st j 5),(s.st j 6),(s.st j 7),(s.st j 8),(s.st j 9),(s.st j 10),(s.st j 11),(s.en j 0),(s.en j 1),(s.en j 2),(s.en j 3),(s.en j 4),(s.en j 5),(s.en j 6),(s.en j 7),(s.en j 8),(s.en j 9),(s.en j 10),(s.en j 11),(s.sh j),(s.rt j)]).cell q hq
     have x8:=hid x4;clear q9 x4;have b9:=hb.cell 9 rfl;have bl:=hb.lt;have z4:b<wr.heap.size:=aQe bw hx.size;clear hx hb hc h9;go_upto_region 11 with (first|(show wpList _ _ _ [_,_,_] _ _;refine wpList_load_mid rfl _ _ rfl b (q6+j*26) rfl [(s.st j 0),(s.st j 1),(s.st j 2),(s.st j 3),(s.st j 4),(s.st j 5),(s.st j 6),(s.st j 7),(s.st j 8),(s.st j 9),(s.st j 10),(s.st j 11),(s.en j 0),(s.en j 1),(s.en j 2),(s.en j 3),(s.en j 4),(s.en j 5),(s.en j 6),(s.en j 7),(s.en j 8),(s.en j 9),(s.en j 10),(s.en j 11),(s.sh j),(s.rt j)] _ x9 underlying127 rfl fE ?_)|(show wpList _ _ _ [_] _ _;refine dE _ _ _ rfl 127 (.tmp 8) (.tmp 31) rfl rfl #[(s.st j 0),(s.st j 1),(s.st j 2),(s.st j 3),(s.st j 4),(s.st j 5),(s.st j 6),(s.st j 7),(s.st j 8),(s.st j 9),(s.st j 10),(s.st j 11),(s.en j 0),(s.en j 1),(s.en j 2),(s.en j 3),(s.en j 4),(s.en j 5),(s.en j 6),(s.en j 7),(s.en j 8),(s.en j 9),(s.en j 10),(s.en j 11),(s.sh j),(s.rt j)] wr.heap.size rfl rfl rfl (by kernel_rfl) (by kernel_rfl) (by kernel_rfl) ?_));go_wp2_with (show wpList _ _ _ [_,_,_,_,_,_] _ _;refine wpList_load_mid rfl _ _ rfl wr.heap.size 0 rfl [(s.st j 0),(s.st j 1),(s.st j 2),(s.st j 3),(s.st j 4),(s.st j 5),(s.st j 6),(s.st j 7),(s.st j 8),(s.st j 9),(s.st j 10),(s.st j 11),(s.en j 0),(s.en j 1),(s.en j 2),(s.en j 3),(s.en j 4),(s.en j 5),(s.en j 6),(s.en j 7),(s.en j 8),(s.en j 9),(s.en j 10),(s.en j 11),(s.sh j),(s.rt j)] _ x8 underlying127 rfl fE ?_);refine r_ (oS (s.st j) (s.en j) (s.sh j) (s.rt j) s.ps.length _) fun w5 x5=>?_;have y5:Ext wr w5:=aPc (show Ext wr (wr.alloc (.cells #[(s.st j 0),(s.st j 1),(s.st j 2),(s.st j 3),(s.st j 4),(s.st j 5),(s.st j 6),(s.st j 7),(s.st j 8),(s.st j 9),(s.st j 10),(s.st j 11),(s.en j 0),(s.en j 1),(s.en j 2),(s.en j 3),(s.en j 4),(s.en j 5),(s.en j 6),(s.en j 7),(s.en j 8),(s.en j 9),(s.en j 10),(s.en j 11),(s.sh j),(s.rt j)] 127)) from X_) x5;have X5:=hid (HX.trans y5);have R5:=hid (HB.ext y5)
     cases q5:aLd (s.st j) (s.en j) (s.sh j) (s.rt j) s.ps.length
     ·have h8:(aPu s.m).all s.srfB=false:=aR6.2 ⟨j,aP8.2 hlt,by unfold Scn.srfB;simp [q5]⟩
      have h6:=hid h8;clear q5 h8 x5 y5;go_wp2;go_ret;exact ⟨by rw [h6];simp,X5⟩
     ·have q7:=hid q5
      clear q5 x5 y5;go_wp2;go_roundw
      case rel=>
       refine ⟨j+1,by omega,by go_num,X5,R5,fun q hq=>?_⟩
       rcases aQ3 q j with h|h
       ·exact HC q h
       ·obtain rfl:q=j:=by omega
        exact q7
      case measure=>simp [intOf];omega
    ·obtain rfl:j=s.m:=by omega
     have h8:(aPu s.m).all s.srfB=true:=aQa.2 (fun q hq=>HC q (aP8.1 hq));have h6:=hid h8;clear hx hb hc h8;clear HC;have HG:=hid hge;have HJ:=hid hj;clear hge hj
     by_cases hs:pE s.side=true
     ·have h3:s.side=1\/s.side=2\/s.side=4:=by unfold pE at hs;simpa [or_assoc] using hs
      have x3:=hid hs;clear hs
      obtain ⟨sd,x0⟩:∃sd,s.side=sd:=⟨_,rfl⟩
      have h5:=hid (show Blk wr w.heap.size 40 [s.c.w,s.c.h,s.c.zoom,s.c.near,.bool s.c.deep,s.c.lens,s.c.focus,s.t.log,.slice a1 s.t.px.length c1,.slice a2 s.ps.length c2,.slice a3 s.m c3,sd] from x0▸HB.out);have h7:=hid (show pE s.side=true from x3);rw [x0] at h3;clear x0 HB x3
      rcases h3 with rfl|rfl|rfl
      ·skip
       cases b1
       ·skip
        obtain ⟨s0,s1,s2,s3,s4,s5,s6,s7,s8,s9,h0,h4⟩:=h5.q12;have sl:=h5.lt;go_wp2_with fail;refine r_ (aM (c:=s.c) C1 _) fun w1 x1=>?_;have X1:=hid (HX.trans x1);have R1:=hid (h5.ext x1);clear s0 s1 s2 s3 s4 s5 s6 s7 s8 s9 h0 h4 sl;clear x1;go_wp2;go_ret;exact ⟨by rw [h6,HA,h7];first|rfl|simp [*],X1⟩
       ·cases b2
        ·skip
         obtain ⟨s0,s1,s2,s3,s4,s5,s6,s7,s8,s9,h0,h4⟩:=h5.q12;have sl:=h5.lt;go_wp2_with fail;refine r_ (aM (c:=s.c) C1 _) fun w1 x1=>?_;have X1:=hid (HX.trans x1);have R1:=hid (h5.ext x1);clear s0 s1 s2 s3 s4 s5 s6 s7 s8 s9 h0 h4 sl;clear x1;have s7:=R1.cell 7 rfl;have s8:=R1.cell 8 rfl;have s9:=R1.cell 9 rfl;have h0:=R1.cell 10 rfl;have h4:=R1.cell 11 rfl;have sl:=R1.lt;go_wp2_with fail;refine r_ (aJ C2 lo hi _ _ (HT _ X1) (aPd hh X1.size)) fun w2 x2=>?_;have X2:=hid (X1.trans x2);have R2:=hid (R1.ext x2);clear s7 s8 s9 h0 h4 sl;clear x2;go_wp2;go_ret;exact ⟨by rw [h6,HA,h7];first|rfl|simp [*],X2⟩
        ·cases b3
         ·skip
          obtain ⟨s0,s1,s2,s3,s4,s5,s6,s7,s8,s9,h0,h4⟩:=h5.q12;have sl:=h5.lt;go_wp2_with fail;refine r_ (aM (c:=s.c) C1 _) fun w1 x1=>?_;have X1:=hid (HX.trans x1);have R1:=hid (h5.ext x1);clear s0 s1 s2 s3 s4 s5 s6 s7 s8 s9 h0 h4 sl;clear x1;have s7:=R1.cell 7 rfl;have s8:=R1.cell 8 rfl;have s9:=R1.cell 9 rfl;have h0:=R1.cell 10 rfl;have h4:=R1.cell 11 rfl;have sl:=R1.lt;go_wp2_with fail;refine r_ (aJ C2 lo hi _ _ (HT _ X1) (aPd hh X1.size)) fun w2 x2=>?_;have X2:=hid (X1.trans x2);have R2:=hid (R1.ext x2);clear s7 s8 s9 h0 h4 sl;clear x2;have s9:=R2.cell 9 rfl;have h0:=R2.cell 10 rfl;have h4:=R2.cell 11 rfl;have sl:=R2.lt;go_wp2_with (go_at_call 46;refine z_ (aE C3 _) ?_);go_ret;exact ⟨by rw [h6,HA,h7];first|rfl|simp [*],X2⟩
         ·rcases aQ3 5 s.m with hm|hm
          ·have q2 : ¬((s.m:Int)<=5):=by omega
           have g0:decide (s.m<=5)=false:=by simp;omega
           have G0:=hid g0;clear g0;obtain ⟨s0,s1,s2,s3,s4,s5,s6,s7,s8,s9,h0,h4⟩:=h5.q12;have sl:=h5.lt;go_wp2_with fail;refine r_ (aM (c:=s.c) C1 _) fun w1 x1=>?_;have X1:=hid (HX.trans x1);have R1:=hid (h5.ext x1);clear s0 s1 s2 s3 s4 s5 s6 s7 s8 s9 h0 h4 sl;clear x1;have s7:=R1.cell 7 rfl;have s8:=R1.cell 8 rfl;have s9:=R1.cell 9 rfl;have h0:=R1.cell 10 rfl;have h4:=R1.cell 11 rfl;have sl:=R1.lt;go_wp2_with fail;refine r_ (aJ C2 lo hi _ _ (HT _ X1) (aPd hh X1.size)) fun w2 x2=>?_;have X2:=hid (X1.trans x2);have R2:=hid (R1.ext x2);clear s7 s8 s9 h0 h4 sl;clear x2;have s9:=R2.cell 9 rfl;have h0:=R2.cell 10 rfl;have h4:=R2.cell 11 rfl;have sl:=R2.lt;go_wp2_with (go_at_call 46;refine z_ (aE C3 _) ?_);go_ret;exact ⟨by rw [h6,HA,h7,G0];first|rfl|simp [*],X2⟩
          ·have q2:(s.m:Int)<=5:=by omega
           have g0:decide (s.m<=5)=true:=by simp;omega
           have G0:=hid g0;clear g0;obtain ⟨s0,s1,s2,s3,s4,s5,s6,s7,s8,s9,h0,h4⟩:=h5.q12;have sl:=h5.lt;go_wp2_with fail;refine r_ (aM (c:=s.c) C1 _) fun w1 x1=>?_;have X1:=hid (HX.trans x1);have R1:=hid (h5.ext x1);clear s0 s1 s2 s3 s4 s5 s6 s7 s8 s9 h0 h4 sl;clear x1;have s7:=R1.cell 7 rfl;have s8:=R1.cell 8 rfl;have s9:=R1.cell 9 rfl;have h0:=R1.cell 10 rfl;have h4:=R1.cell 11 rfl;have sl:=R1.lt;go_wp2_with fail;refine r_ (aJ C2 lo hi _ _ (HT _ X1) (aPd hh X1.size)) fun w2 x2=>?_;have X2:=hid (X1.trans x2);have R2:=hid (R1.ext x2);clear s7 s8 s9 h0 h4 sl;clear x2;have s9:=R2.cell 9 rfl;have h0:=R2.cell 10 rfl;have h4:=R2.cell 11 rfl;have sl:=R2.lt;go_wp2_with (go_at_call 46;refine z_ (aE C3 _) ?_);go_ret;exact ⟨by rw [h6,HA,h7,G0];first|rfl|simp [*],X2⟩
      ·skip
       cases b1
       ·skip
        obtain ⟨s0,s1,s2,s3,s4,s5,s6,s7,s8,s9,h0,h4⟩:=h5.q12;have sl:=h5.lt;go_wp2_with fail;refine r_ (aM (c:=s.c) C1 _) fun w1 x1=>?_;have X1:=hid (HX.trans x1);have R1:=hid (h5.ext x1);clear s0 s1 s2 s3 s4 s5 s6 s7 s8 s9 h0 h4 sl;clear x1;go_wp2;go_ret;exact ⟨by rw [h6,HA,h7];first|rfl|simp [*],X1⟩
       ·cases b2
        ·skip
         obtain ⟨s0,s1,s2,s3,s4,s5,s6,s7,s8,s9,h0,h4⟩:=h5.q12;have sl:=h5.lt;go_wp2_with fail;refine r_ (aM (c:=s.c) C1 _) fun w1 x1=>?_;have X1:=hid (HX.trans x1);have R1:=hid (h5.ext x1);clear s0 s1 s2 s3 s4 s5 s6 s7 s8 s9 h0 h4 sl;clear x1;have s7:=R1.cell 7 rfl;have s8:=R1.cell 8 rfl;have s9:=R1.cell 9 rfl;have h0:=R1.cell 10 rfl;have h4:=R1.cell 11 rfl;have sl:=R1.lt;go_wp2_with fail;refine r_ (aJ C2 lo hi _ _ (HT _ X1) (aPd hh X1.size)) fun w2 x2=>?_;have X2:=hid (X1.trans x2);have R2:=hid (R1.ext x2);clear s7 s8 s9 h0 h4 sl;clear x2;go_wp2;go_ret;exact ⟨by rw [h6,HA,h7];first|rfl|simp [*],X2⟩
        ·cases b3
         ·skip
          obtain ⟨s0,s1,s2,s3,s4,s5,s6,s7,s8,s9,h0,h4⟩:=h5.q12;have sl:=h5.lt;go_wp2_with fail;refine r_ (aM (c:=s.c) C1 _) fun w1 x1=>?_;have X1:=hid (HX.trans x1);have R1:=hid (h5.ext x1);clear s0 s1 s2 s3 s4 s5 s6 s7 s8 s9 h0 h4 sl;clear x1;have s7:=R1.cell 7 rfl;have s8:=R1.cell 8 rfl;have s9:=R1.cell 9 rfl;have h0:=R1.cell 10 rfl;have h4:=R1.cell 11 rfl;have sl:=R1.lt;go_wp2_with fail;refine r_ (aJ C2 lo hi _ _ (HT _ X1) (aPd hh X1.size)) fun w2 x2=>?_;have X2:=hid (X1.trans x2);have R2:=hid (R1.ext x2);clear s7 s8 s9 h0 h4 sl;clear x2;have s9:=R2.cell 9 rfl;have h0:=R2.cell 10 rfl;have h4:=R2.cell 11 rfl;have sl:=R2.lt;go_wp2_with (go_at_call 46;refine z_ (aE C3 _) ?_);go_ret;exact ⟨by rw [h6,HA,h7];first|rfl|simp [*],X2⟩
         ·rcases aQ3 5 s.m with hm|hm
          ·have q2 : ¬((s.m:Int)<=5):=by omega
           have g0:decide (s.m<=5)=false:=by simp;omega
           have G0:=hid g0;clear g0;obtain ⟨s0,s1,s2,s3,s4,s5,s6,s7,s8,s9,h0,h4⟩:=h5.q12;have sl:=h5.lt;go_wp2_with fail;refine r_ (aM (c:=s.c) C1 _) fun w1 x1=>?_;have X1:=hid (HX.trans x1);have R1:=hid (h5.ext x1);clear s0 s1 s2 s3 s4 s5 s6 s7 s8 s9 h0 h4 sl;clear x1;have s7:=R1.cell 7 rfl;have s8:=R1.cell 8 rfl;have s9:=R1.cell 9 rfl;have h0:=R1.cell 10 rfl;have h4:=R1.cell 11 rfl;have sl:=R1.lt;go_wp2_with fail;refine r_ (aJ C2 lo hi _ _ (HT _ X1) (aPd hh X1.size)) fun w2 x2=>?_;have X2:=hid (X1.trans x2);have R2:=hid (R1.ext x2);clear s7 s8 s9 h0 h4 sl;clear x2;have s9:=R2.cell 9 rfl;have h0:=R2.cell 10 rfl;have h4:=R2.cell 11 rfl;have sl:=R2.lt;go_wp2_with (go_at_call 46;refine z_ (aE C3 _) ?_);go_ret;exact ⟨by rw [h6,HA,h7,G0];first|rfl|simp [*],X2⟩
          ·have q2:(s.m:Int)<=5:=by omega
           have g0:decide (s.m<=5)=true:=by simp;omega
           have G0:=hid g0;clear g0;obtain ⟨s0,s1,s2,s3,s4,s5,s6,s7,s8,s9,h0,h4⟩:=h5.q12;have sl:=h5.lt;go_wp2_with fail;refine r_ (aM (c:=s.c) C1 _) fun w1 x1=>?_;have X1:=hid (HX.trans x1);have R1:=hid (h5.ext x1);clear s0 s1 s2 s3 s4 s5 s6 s7 s8 s9 h0 h4 sl;clear x1;have s7:=R1.cell 7 rfl;have s8:=R1.cell 8 rfl;have s9:=R1.cell 9 rfl;have h0:=R1.cell 10 rfl;have h4:=R1.cell 11 rfl;have sl:=R1.lt;go_wp2_with fail;refine r_ (aJ C2 lo hi _ _ (HT _ X1) (aPd hh X1.size)) fun w2 x2=>?_;have X2:=hid (X1.trans x2);have R2:=hid (R1.ext x2);clear s7 s8 s9 h0 h4 sl;clear x2;have s9:=R2.cell 9 rfl;have h0:=R2.cell 10 rfl;have h4:=R2.cell 11 rfl;have sl:=R2.lt;go_wp2_with (go_at_call 46;refine z_ (aE C3 _) ?_);go_ret;exact ⟨by rw [h6,HA,h7,G0];first|rfl|simp [*],X2⟩
      ·skip
       cases b1
       ·skip
        obtain ⟨s0,s1,s2,s3,s4,s5,s6,s7,s8,s9,h0,h4⟩:=h5.q12;have sl:=h5.lt;go_wp2_with fail;refine r_ (aM (c:=s.c) C1 _) fun w1 x1=>?_;have X1:=hid (HX.trans x1);have R1:=hid (h5.ext x1);clear s0 s1 s2 s3 s4 s5 s6 s7 s8 s9 h0 h4 sl;clear x1;go_wp2;go_ret;exact ⟨by rw [h6,HA,h7];first|rfl|simp [*],X1⟩
       ·cases b2
        ·skip
         obtain ⟨s0,s1,s2,s3,s4,s5,s6,s7,s8,s9,h0,h4⟩:=h5.q12;have sl:=h5.lt;go_wp2_with fail;refine r_ (aM (c:=s.c) C1 _) fun w1 x1=>?_;have X1:=hid (HX.trans x1);have R1:=hid (h5.ext x1);clear s0 s1 s2 s3 s4 s5 s6 s7 s8 s9 h0 h4 sl;clear x1;have s7:=R1.cell 7 rfl;have s8:=R1.cell 8 rfl;have s9:=R1.cell 9 rfl;have h0:=R1.cell 10 rfl;have h4:=R1.cell 11 rfl;have sl:=R1.lt;go_wp2_with fail;refine r_ (aJ C2 lo hi _ _ (HT _ X1) (aPd hh X1.size)) fun w2 x2=>?_;have X2:=hid (X1.trans x2);have R2:=hid (R1.ext x2);clear s7 s8 s9 h0 h4 sl;clear x2;go_wp2;go_ret;exact ⟨by rw [h6,HA,h7];first|rfl|simp [*],X2⟩
        ·cases b3
         ·skip
          obtain ⟨s0,s1,s2,s3,s4,s5,s6,s7,s8,s9,h0,h4⟩:=h5.q12;have sl:=h5.lt;go_wp2_with fail;refine r_ (aM (c:=s.c) C1 _) fun w1 x1=>?_;have X1:=hid (HX.trans x1);have R1:=hid (h5.ext x1);clear s0 s1 s2 s3 s4 s5 s6 s7 s8 s9 h0 h4 sl;clear x1;have s7:=R1.cell 7 rfl;have s8:=R1.cell 8 rfl;have s9:=R1.cell 9 rfl;have h0:=R1.cell 10 rfl;have h4:=R1.cell 11 rfl;have sl:=R1.lt;go_wp2_with fail;refine r_ (aJ C2 lo hi _ _ (HT _ X1) (aPd hh X1.size)) fun w2 x2=>?_;have X2:=hid (X1.trans x2);have R2:=hid (R1.ext x2);clear s7 s8 s9 h0 h4 sl;clear x2;have s9:=R2.cell 9 rfl;have h0:=R2.cell 10 rfl;have h4:=R2.cell 11 rfl;have sl:=R2.lt;go_wp2_with (go_at_call 46;refine z_ (aE C3 _) ?_);go_ret;exact ⟨by rw [h6,HA,h7];first|rfl|simp [*],X2⟩
         ·rcases aQ3 5 s.m with hm|hm
          ·have q2 : ¬((s.m:Int)<=5):=by omega
           have g0:decide (s.m<=5)=false:=by simp;omega
           have G0:=hid g0;clear g0;obtain ⟨s0,s1,s2,s3,s4,s5,s6,s7,s8,s9,h0,h4⟩:=h5.q12;have sl:=h5.lt;go_wp2_with fail;refine r_ (aM (c:=s.c) C1 _) fun w1 x1=>?_;have X1:=hid (HX.trans x1);have R1:=hid (h5.ext x1);clear s0 s1 s2 s3 s4 s5 s6 s7 s8 s9 h0 h4 sl;clear x1;have s7:=R1.cell 7 rfl;have s8:=R1.cell 8 rfl;have s9:=R1.cell 9 rfl;have h0:=R1.cell 10 rfl;have h4:=R1.cell 11 rfl;have sl:=R1.lt;go_wp2_with fail;refine r_ (aJ C2 lo hi _ _ (HT _ X1) (aPd hh X1.size)) fun w2 x2=>?_;have X2:=hid (X1.trans x2);have R2:=hid (R1.ext x2);clear s7 s8 s9 h0 h4 sl;clear x2;have s9:=R2.cell 9 rfl;have h0:=R2.cell 10 rfl;have h4:=R2.cell 11 rfl;have sl:=R2.lt;go_wp2_with (go_at_call 46;refine z_ (aE C3 _) ?_);go_ret;exact ⟨by rw [h6,HA,h7,G0];first|rfl|simp [*],X2⟩
          ·have q2:(s.m:Int)<=5:=by omega
           have g0:decide (s.m<=5)=true:=by simp;omega
           have G0:=hid g0;clear g0;obtain ⟨s0,s1,s2,s3,s4,s5,s6,s7,s8,s9,h0,h4⟩:=h5.q12;have sl:=h5.lt;go_wp2_with fail;refine r_ (aM (c:=s.c) C1 _) fun w1 x1=>?_;have X1:=hid (HX.trans x1);have R1:=hid (h5.ext x1);clear s0 s1 s2 s3 s4 s5 s6 s7 s8 s9 h0 h4 sl;clear x1;have s7:=R1.cell 7 rfl;have s8:=R1.cell 8 rfl;have s9:=R1.cell 9 rfl;have h0:=R1.cell 10 rfl;have h4:=R1.cell 11 rfl;have sl:=R1.lt;go_wp2_with fail;refine r_ (aJ C2 lo hi _ _ (HT _ X1) (aPd hh X1.size)) fun w2 x2=>?_;have X2:=hid (X1.trans x2);have R2:=hid (R1.ext x2);clear s7 s8 s9 h0 h4 sl;clear x2;have s9:=R2.cell 9 rfl;have h0:=R2.cell 10 rfl;have h4:=R2.cell 11 rfl;have sl:=R2.lt;go_wp2_with (go_at_call 46;refine z_ (aE C3 _) ?_);go_ret;exact ⟨by rw [h6,HA,h7,G0];first|rfl|simp [*],X2⟩
     ·have x6:pE s.side=false:=by cases h:pE s.side with|true=>exact absurd h hs|false=>rfl
      have z0:=hid x6
      have h1 : ¬s.side=1:=fun h=>by rw [h] at hs;exact hs rfl
      have h2 : ¬s.side=2:=fun h=>by rw [h] at hs;exact hs rfl
      have h3 : ¬s.side=4:=fun h=>by rw [h] at hs;exact hs rfl
      clear hs x6;obtain ⟨s0,s1,s2,s3,s4,s5,s6,s7,s8,s9,h0,h4⟩:=HB.q12;have sl:=HB.lt;go_wp2;go_ret;exact ⟨by rw [h6,HA,z0];simp,HX⟩
theorem Ins.one (y:Ins):∀u∈y.cs,u.oneCell'=true:=by
 intro u hu;simp only [Ins.cs,List.mem_cons,List.not_mem_nil,or_false] at hu
 rcases hu with rfl|rfl|rfl <;> rfl
theorem aHx {p:Prg} {ra:List Int} (hj:j<ra.length):((ra.take (j+1)).flatMap fun a=>p.tr a.toNat)=((ra.take j).flatMap fun a=>p.tr a.toNat)++p.tr (ra[j]).toNat:=by
 rw [List.take_succ_eq_append_getElem hj,aQ0];simp
theorem aLg (lo hi lo2 hi2:Nat) (p:Prg) (hp:p.K) (W W2:World) (a1 a2:Option Addr) (c1 c2:Nat) (HN:qI lo hi W a1 c1 p.ns) (hh:hi<=W.heap.size) (lv:Value) (hL:pG lo2 hi2 W2 lv (p.gs.map (·.name))) (hh2:hi2<=W2.heap.size) :
  ∀(F r:Nat) (w:World),r<F->r<p.ns.length->Ext W w->Ext W2 w->(p.tr r).length<=1000->Calls aPa 191 #[.agg #[.slice a1 p.ns.length c1,.slice a2 p.gs.length c2],lv,(r:Nat)] w fun e w'=>∃u,e = .returned u/\fI w.heap.size w' u (p.tr r)/\Ext w w':=by
 intro F
 induction F with
 | zero=>intro r w h;omega
 | succ F ih=>
  intro r w hF hr hx y7 q5;have IH:=hid ih;have HP:=hid hp;have a4:=hid hL;have l1:=HN.le;have l2:=HN.cap;have l5:=hp.v.len;have l6:=hp.v.gs_len;obtain ⟨b,q4,op,s,n,ua,ra,rfl,b2,b3,x8,h9,io,b6,y4,x0,x1,x2,x3⟩:=HN.at hr hx hh;have hk:=iU (hp.v.nd r _ h9).1;have x5:=hid (hp.v.nd r _ h9).2;have z8:=hp.v.tr_step h9
  have y3:(ra.flatMap fun a=>p.tr a.toNat).length<=1000:=by rw [z8,aPy] at q5;simp only at q5;omega
  have z9:=hid y3;have a8:=hid z8;have HG:=hid h9;have HX:=hid hx;have y1:=hid y7;obtain ⟨ax,ac,rfl,HI⟩:=y4.open;have m1:=HI.le;have m2:=HI.cap;have y9:=hid HI
  have b4:ra.length<=3:=by rcases hk with ⟨_,_,h⟩|⟨_,h⟩|⟨_,h⟩|⟨_,_,h⟩|⟨_,h⟩ <;> (simp only at h;omega)
  have HK:=hid hk;have zz:=hx.size;have y8:Ext w (((w.alloc (.cells #[.slice (some ⟨b,q4,none⟩) p.ns.length c1,.slice a2 p.gs.length c2] 119)).alloc (.cells #[op,.string s,n,.slice ax ra.length ac] 197)).alloc (.cells #[] 221)):=X_;have bP:=(aPh w 119 [.slice (some ⟨b,q4,none⟩) p.ns.length c1,.slice a2 p.gs.length c2]).ext (show Ext (w.alloc (.cells #[.slice (some ⟨b,q4,none⟩) p.ns.length c1,.slice a2 p.gs.length c2] 119)) (((w.alloc (.cells #[.slice (some ⟨b,q4,none⟩) p.ns.length c1,.slice a2 p.gs.length c2] 119)).alloc (.cells #[op,.string s,n,.slice ax ra.length ac] 197)).alloc (.cells #[] 221)) from X_);have bN:=(aPh (w.alloc (.cells #[.slice (some ⟨b,q4,none⟩) p.ns.length c1,.slice a2 p.gs.length c2] 119)) 197 [op,.string s,n,.slice ax ra.length ac]).ext (show Ext ((w.alloc (.cells #[.slice (some ⟨b,q4,none⟩) p.ns.length c1,.slice a2 p.gs.length c2] 119)).alloc (.cells #[op,.string s,n,.slice ax ra.length ac] 197)) (((w.alloc (.cells #[.slice (some ⟨b,q4,none⟩) p.ns.length c1,.slice a2 p.gs.length c2] 119)).alloc (.cells #[op,.string s,n,.slice ax ra.length ac] 197)).alloc (.cells #[] 221)) from X_);have bO:=aPh ((w.alloc (.cells #[.slice (some ⟨b,q4,none⟩) p.ns.length c1,.slice a2 p.gs.length c2] 119)).alloc (.cells #[op,.string s,n,.slice ax ra.length ac] 197)) 221 [];simp only [aO6] at bN bO;have y0:=hid y8;have q9:=hid bP;have q1:=hid bN;have HO:=hid (show fI w.heap.size (((w.alloc (.cells #[.slice (some ⟨b,q4,none⟩) p.ns.length c1,.slice a2 p.gs.length c2] 119)).alloc (.cells #[op,.string s,n,.slice ax ra.length ac] 197)).alloc (.cells #[] 221)) (.slice (some ⟨w.heap.size+1+1,0,none⟩) 0 0) [] from aF.freshC (by omega) bO);clear ih hp hL x8 h9 y4 HI hk hx y7 z8 y3 q5 bP bN bO y8;go_enter func191,ntmps191;go_wp2_with fail
  go_loopw [8,20] (fun v i wr=>∃(k:Nat) (xs:List Ins),k<=ra.length/\i = .int .i64 (k:Nat)/\xs=((ra.take k).flatMap fun a=>p.tr a.toNat)/\fI w.heap.size wr v xs/\Blk wr w.heap.size 119 [.slice (some ⟨b,q4,none⟩) p.ns.length c1,.slice a2 p.gs.length c2]/\Blk wr (w.heap.size+1) 197 [op,.string s,n,.slice ax ra.length ac]/\Ext w wr) (fun _ i _=>ra.length - (intOf i).toNat)
  case atStart=>exact ⟨0,[],by omega,rfl,rfl,HO,q9,q1,y0⟩
  case round=>
   clear y0 q9 q1 HO;obtain ⟨k,xs,hk,rfl,z0,ho,x6,q7,hx⟩:=hrel;obtain ⟨xa,xc,rfl,-⟩:=aF.form ho;have z4:=hid z0
   have b5:xs.length<=1000:=by rw [z0];exact aPd (oH hk) z9
   by_cases z7:k<ra.length
   ·obtain ⟨b',b1,rfl,d1,d2,hc⟩:=y9.at z7
    have ha:=x5.out ra[k] (aPp z7);have x9:=aHx (p:=p) z7
    obtain ⟨q,hq⟩:∃q:Nat,ra[k]=q:=⟨ra[k].toNat,by omega⟩
    rw [hq] at hc ha x9;simp only [aPw] at x9
    have y6:xs.length+(p.tr q).length<=1000:=by rw [z0,<-aPy,<-x9];exact aPd (oH (by omega)) z9
    have a7:=hid x9;have HO:=hid ho;have q9:=hid x6;have q1:=hid q7;have h6:=hid hx;have b0:=(hx.cells.1 b' _ (by omega)).trans hc;obtain ⟨p0,p1⟩:=x6.q2;have pl:=x6.lt
    have bl:b'<wr.heap.size:=by have:=hx.size;omega
    have TL:=hid (show (p.tr q).length<=1000 by omega);have a3:=hid y6;clear z0 ho x6 q7 hx hc x9 hq y6;go_wp2_with fail;refine (IH q wr (by omega) (by omega) (HX.trans h6) (y1.trans h6) TL).mono ?_;rintro e w3 ⟨u,rfl,O3,x3⟩;have a5:=hid (aF.rd (sz:=3) O3 (fun _=>rfl));have z1:=hid (aF.ext HO x3);have x4:=hid (q9.ext x3);have q8:=hid (q1.ext x3);have y2:=hid (h6.trans x3);have b7:=y2.size;clear O3 x3 HO q9 q1 h6 p0 p1 pl b0;go_wp2_with (at_builtin;refine gD Ins.cs 221 3 32 _ w3 rfl _ _ 160 rfl underlying160 sE rfl (by decide) (by decide) (fun _=>rfl) Ins.one w.heap.size (.slice xa xs.length xc) xs rfl z1 _ _ u (p.tr q) rfl a5 ?_ ?_ ?_)
    ·have:=a3.out;omega
    ·omega
    intro v4 w4 h0 hg;have a6:=hid h0;have z3:=hid (x4.grown hg (bL x4 (by decide) z1));have z2:=hid (q8.grown hg (bL q8 (by decide) z1));have a9:=hid (aQj y2 hg (fun k hk=>(aF.lt z1 k hk).1));clear h0 hg;go_wp2;go_roundw
    case rel=>exact ⟨k+1,xs++p.tr q,by omega,by go_num,by rw [z4,a7],a6,z3,z2,a9⟩
    case measure=>simp [intOf];omega
   ·obtain rfl:k=ra.length:=by omega
    rw [aP7] at z4;have q1:=hid q7;have h6:=hid hx;have HO:=hid ho;obtain ⟨n0,n1,n2⟩:=q7.q3;have nl:=q7.lt;have zw:=hx.size;have q6:=hid (show ∀(y:Ins) (v':Value) (w':World),bE p ⟨op,s,n,ra⟩=y->fI w.heap.size w' v' (xs++[y])->Ext w w'->∃u,Ending.returned v' = .returned u/\fI w.heap.size w' u (p.tr r)/\Ext w w' from fun y v' w' hy h1 h2=>⟨_,rfl,by rw [a8,hy,<-z4];exact h1,h2⟩);clear z0 ho x6 q7 hx
    rcases HK with ⟨rfl,-,-⟩|⟨rfl,-⟩|⟨rfl,-⟩|⟨o1,o2,-⟩|⟨rfl,-⟩
    ·skip
     have y5:Ext wr (wr.alloc (.cells #[.int .i64 1,.string ⟨#[]⟩,n] 221)):=X_;have h4:=hid (aF.ext HO y5);have h5:=hid (h6.trans y5);have q0:=h5.size;clear y5;go_wp2_with (at_builtin;refine bW _ rfl _ _ rfl w.heap.size (.slice xa xs.length xc) xs rfl ?_ ⟨1,⟨#[]⟩,n⟩ wr.heap.size rfl ?_ ?_ ?_ ?_)
     ·exact h4
     ·omega
     ·first|exact q0|omega
     intro v6 w6 h0 hg;have h7:=aQj h5 hg (fun k hk=>(aF.lt h4 k hk).1);go_wp2;go_ret;exact q6 _ _ _ rfl h0 h7
    ·cases hv:cN s
     ·have z6:ixL s.toList (p.gs.map (·.name))=((oQ p s:Nat):Int):=by
       obtain ⟨i,hi,_⟩:=HP.name r _ HG rfl hv;rw [tV];unfold oQ;rw [hi]
       rfl
      have hy:bE p ⟨2,s,n,ra⟩=⟨3,⟨#[]⟩,((oQ p s:Nat):Int)⟩:=by unfold bE;simp [hv]
      obtain ⟨z,hz⟩:∃z,((oQ p s:Nat):Int)=z:=⟨_,rfl⟩
      rw [hz] at z6 hy;have a0:=hid z6;have z5:=hid hy;clear z6 hy hz;go_wp2_with fail;refine r_ (dJ hv _) fun w7 x7=>?_;replace HO:=hid (aF.ext HO x7);replace h6:=hid (h6.trans x7);have n1:=(q1.ext x7).cell 1 rfl;have nl:=(q1.ext x7).lt;go_wp2_with fail;refine (vR lo2 hi2 _ _ s _ (a4.ext hh2 (y1.trans h6)) (by rw [aQg];omega)).mono ?_;rw [a0];rintro e w8 ⟨rfl,rfl⟩;have y5:Ext w7 (w7.alloc (.cells #[.int .i64 3,.string ⟨#[]⟩,z] 221)):=X_;have h4:=hid (aF.ext HO y5);have h5:=hid (h6.trans y5);have q0:=h5.size;clear y5;go_wp2_with (at_builtin;refine bW _ rfl _ _ rfl w.heap.size (.slice xa xs.length xc) xs rfl ?_ ⟨3,⟨#[]⟩,z⟩ w7.heap.size rfl ?_ ?_ ?_ ?_)
      ·exact h4
      ·omega
      ·first|exact q0|omega
      intro v6 w6 h0 hg;have h7:=aQj h5 hg (fun k hk=>(aF.lt h4 k hk).1);go_wp2;go_ret;exact q6 _ _ _ z5 h0 h7
     ·have hy:bE p ⟨2,s,n,ra⟩=⟨2,s,0⟩:=by unfold bE;simp [hv]
      have z5:=hid hy;clear hy;go_wp2_with fail;refine r_ (dJ hv _) fun w7 x7=>?_;replace HO:=hid (aF.ext HO x7);replace h6:=hid (h6.trans x7);have n1:=(q1.ext x7).cell 1 rfl;have nl:=(q1.ext x7).lt;have y5:Ext w7 (w7.alloc (.cells #[.int .i64 2,.string s,()] 221)):=X_;have h4:=hid (aF.ext HO y5);have h5:=hid (h6.trans y5);have q0:=h5.size;clear y5;go_wp2_with (at_builtin;refine bW _ rfl _ _ rfl w.heap.size (.slice xa xs.length xc) xs rfl ?_ ⟨2,s,0⟩ w7.heap.size rfl ?_ ?_ ?_ ?_)
      ·exact h4
      ·omega
      ·first|exact q0|omega
      intro v6 w6 h0 hg;have h7:=aQj h5 hg (fun k hk=>(aF.lt h4 k hk).1);go_wp2;go_ret;exact q6 _ _ _ z5 h0 h7
    ·skip
     have y5:Ext wr (wr.alloc (.cells #[.int .i64 5,.string ⟨#[]⟩,.int .i64 3] 221)):=X_;have h4:=hid (aF.ext HO y5);have h5:=hid (h6.trans y5);have q0:=h5.size;clear y5;go_wp2_with (at_builtin;refine bW _ rfl _ _ rfl w.heap.size (.slice xa xs.length xc) xs rfl ?_ ⟨5,⟨#[]⟩,3⟩ wr.heap.size rfl ?_ ?_ ?_ ?_)
     ·exact h4
     ·omega
     ·first|exact q0|omega
     intro v6 w6 h0 hg;have h7:=aQj h5 hg (fun k hk=>(aF.lt h4 k hk).1);go_wp2;go_ret;exact q6 _ _ _ rfl h0 h7
    ·have h1 : ¬op=1:=by omega
     have h2 : ¬op=2:=by omega
     have h3 : ¬op=3:=by omega
     have h8 : ¬op=8:=by omega
     have hy:=hid (show bE p ⟨op,s,n,ra⟩=⟨6,⟨#[]⟩,op⟩ by unfold bE;simp [h1,h2,h3,h8]);have y5:Ext wr (wr.alloc (.cells #[.int .i64 6,.string ⟨#[]⟩,op] 221)):=X_;have h4:=hid (aF.ext HO y5);have h5:=hid (h6.trans y5);have q0:=h5.size;clear y5;go_wp2_with (at_builtin;refine bW _ rfl _ _ rfl w.heap.size (.slice xa xs.length xc) xs rfl ?_ ⟨6,⟨#[]⟩,op⟩ wr.heap.size rfl ?_ ?_ ?_ ?_)
     ·exact h4
     ·omega
     ·first|exact q0|omega
     intro v6 w6 h0 hg;have h7:=aQj h5 hg (fun k hk=>(aF.lt h4 k hk).1);go_wp2;go_ret;exact q6 _ _ _ hy.out h0 h7
    ·skip
     have y5:Ext wr (wr.alloc (.cells #[.int .i64 7,.string s,()] 221)):=X_;have h4:=hid (aF.ext HO y5);have h5:=hid (h6.trans y5);have q0:=h5.size;clear y5;go_wp2_with (at_builtin;refine bW _ rfl _ _ rfl w.heap.size (.slice xa xs.length xc) xs rfl ?_ ⟨7,s,0⟩ wr.heap.size rfl ?_ ?_ ?_ ?_)
     ·exact h4
     ·omega
     ·first|exact q0|omega
     intro v6 w6 h0 hg;have h7:=aQj h5 hg (fun k hk=>(aF.lt h4 k hk).1);go_wp2;go_ret;exact q6 _ _ _ rfl h0 h7
section
open Go.RowKit Go.Maps Go.WideMaps
structure SB (p:Prg) (P R C lo:Nat) (a1 a2:Option Addr) (c1 c2:Nat) (w:World) (xs:List Ins) (iv:Value) (ls:List ByteArray) (lv:Value):Prop where
 prog:Blk w P 119 [.slice a1 p.ns.length c1,.slice a2 p.gs.length c2]
 res:Blk w R 163 [.slice none 0 0,.slice none 0 0]
 code:Blk w C 163 [iv,lv]
 ins:fI lo w iv xs
 loc:cD lo w lv ls
 low:lo<=C/\R<lo
theorem SB.ext {p:Prg} {P R C lo:Nat} {a1 a2:Option Addr} {c1 c2:Nat} {w w':World} {xs:List Ins} {iv:Value} {ls:List ByteArray} {lv:Value} (h:SB p P R C lo a1 a2 c1 c2 w xs iv ls lv) (x:Ext w w'):SB p P R C lo a1 a2 c1 c2 w' xs iv ls lv:=
 ⟨h.prog.ext x,h.res.ext x,h.code.ext x,aF.ext h.ins x,h.loc.ext x,h.low⟩
theorem SB.kn {p:Prg} {P R C lo:Nat} {a1 a2:Option Addr} {c1 c2:Nat} {w w':World} {xs xs':List Ins} {iv iv':Value} {ls:List ByteArray} {lv:Value} (h:SB p P R C lo a1 a2 c1 c2 w xs iv ls lv) (k:KN lo C 221 w w') (hc:Blk w' C 163 [iv',lv]) (hi:fI lo w' iv' xs'):SB p P R C lo a1 a2 c1 c2 w' xs' iv' ls lv:=
 ⟨KN.blk h.prog k (h.prog.neq h.code (by decide)) (by decide),KN.blk h.res k (by have:=h.low;omega) (by decide),hc,hi,KN.strs h.loc k (h.code.noCells (by decide)) (by decide),h.low⟩
theorem SB.knS {p:Prg} {P R C lo:Nat} {a1 a2:Option Addr} {c1 c2:Nat} {w w':World} {xs:List Ins} {iv lv lv':Value} {ls ls':List ByteArray} (h:SB p P R C lo a1 a2 c1 c2 w xs iv ls lv) (k:KN lo C 9 w w') (hc:Blk w' C 163 [iv,lv']) (hl:cD lo w' lv' ls'):SB p P R C lo a1 a2 c1 c2 w' xs iv ls' lv':=
 ⟨KN.blk h.prog k (h.prog.neq h.code (by decide)) (by decide),KN.blk h.res k (by have:=h.low;omega) (by decide),hc,KN.row h.ins k (h.code.noCells (by decide)) (by decide),hl,h.low⟩
theorem aA3 (lo hi:Nat) (v:Value) (p:Prg) (w:World) (hv:p.R lo hi w v) (hh:hi<=w.heap.size) (hchk:p.chkB=true) (hbd:p.bd) (hnl:p.ns.length<=1048576) (hgl:p.gs.length<=1048576) :
  Calls aPa 140 #[v] w fun e w'=>∃u,e = .returned (.tuple #[u,.bool true])/\p.code.R w.heap.size w'.heap.size w' u/\Ext w w':=by
 have HV:=hid hv;have hp:=Prg.chkB_K hchk;have HP:=hid hp;have b7:=hid hchk;obtain ⟨a1,c1,a2,c2,rfl,HN,HG⟩:=hv.form;have l1:=HN.le;have l2:=HN.cap;have l3:=HG.le;have l4:=HG.cap;have l5:=hp.v.len;have l6:=hp.v.gs_len;have c3:=hid HN;have y5:=hid HG
 have q4:∀x∈p.ns,I64 x.num:=fun x hx=>by
  obtain ⟨i,hi,d6⟩:=aP3 hx;exact (HN.cell i x (by rw [<-d6];simp [hi])).1.2
 have b3:=hid (aJp hp hgl q4);have a6:=nN hp;have b8:=hid a6;have b0:=aPh w 119 [.slice a1 p.ns.length c1,.slice a2 p.gs.length c2];have r0:=aPh (w.alloc (.cells #[.slice a1 p.ns.length c1,.slice a2 p.gs.length c2] 119)) 163 [.slice none 0 0,.slice none 0 0];rw [aO6] at r0;have x0:Ext w ((w.alloc (.cells #[.slice a1 p.ns.length c1,.slice a2 p.gs.length c2] 119)).alloc (.cells #[.slice none 0 0,.slice none 0 0] 163)):=X_;have y4:=hid (b0.ext (show Ext _ ((w.alloc (.cells #[.slice a1 p.ns.length c1,.slice a2 p.gs.length c2] 119)).alloc (.cells #[.slice none 0 0,.slice none 0 0] 163)) from X_));have y9:=hid r0;have q8:=hid x0;clear hv hp hchk b0 r0 x0 q4 a6 HN HG;go_enter func140,ntmps140;go_wp2_with fail;refine (vE lo hi _ p _ (HV.ext hh q8) (aPd hh q8.size) hbd hnl hgl).mono ?_;rintro e w1 ⟨⟨c,k,rfl,hc⟩,x1⟩;rw [b7] at hc
 obtain rfl:c=0:=by simpa using hc
 have c6:=hid (q8.trans x1);have x9:=hid (y4.ext x1);have z0:=hid (y9.ext x1);have e5:w.heap.size+1<w1.heap.size:=z0.lt;clear x1 q8 y4 y9 hc;have xb:Ext w1 (w1.alloc (.cells #[.slice none 0 0,.slice none 0 0] 163)):=X_
 have a0:=hid (show SB p w.heap.size (w.heap.size+1) w1.heap.size w1.heap.size a1 a2 c1 c2 (w1.alloc (.cells #[.slice none 0 0,.slice none 0 0] 163)) [] (.slice none 0 0) [] (.slice none 0 0) from
  ⟨x9.ext xb,z0.ext xb,aPh w1 163 [.slice none 0 0,.slice none 0 0],aF.nil _ _ _ _ _,cD.nil _ _,⟨aO3 _,e5⟩⟩)
 have a4:=hid (c6.trans xb);have q1:=(x9.ext xb).cell 1 rfl;clear xb x9 z0;go_wp2_with fail
 go_loopw [23] (fun i wr=>∃(k:Nat) (lv:Value),k<=p.gs.length/\i = .int .i64 (k:Nat)/\SB p w.heap.size (w.heap.size+1) w1.heap.size w1.heap.size a1 a2 c1 c2 wr [] (.slice none 0 0) ((p.gs.take k).map (·.name)) lv/\Ext w wr) (fun i _=>p.gs.length - (intOf i).toNat)
 case atStart=>exact ⟨0,_,by omega,rfl,a0,a4⟩
 case round=>
  clear a0 a4 q1;obtain ⟨k,lv,hk,rfl,hS,hx⟩:=hrel
  by_cases y2:k<p.gs.length
  ·obtain ⟨b,b2,s,rt,rfl,d4,d5,h6,h4,ir,y0,y1⟩:=y5.at y2 hx hh
   have b9:=hid h4
   obtain ⟨NL,h7⟩:∃N,(p.gs.take k).map (·.name)=N:=⟨_,rfl⟩
   have z4:NL.length<=200:=by rw [<-h7,aQg,List.length_take];omega
   rw [h7] at hS;have q7:=hid h7;obtain ⟨la,lc,rfl,-⟩:=hS.loc.form;have HS:=hid hS;have HX:=hid hx;have yA:Ext wr ((wr.alloc (.cells #[.string s,rt] 200)).alloc (.cells #[.string s] 9)):=X_;have HY:=hid yA;have q3:=hid (hS.ext yA);have b6:=aPh (wr.alloc (.cells #[.string s,rt] 200)) 9 [.string s];rw [aO6] at b6;have b4:=hid b6;obtain ⟨q9,x2⟩:=hS.code.q2;have d2:=hS.code.free 1;have cl:=hS.code.lt;have zr:=hx.size;have zy:=yA.size;clear hS hx h7 h6 h4 yA b6;go_wp2_with (at_builtin;refine jC _ rfl _ _ rfl w1.heap.size (.slice la NL.length lc) NL rfl ?_ s (wr.heap.size+1) rfl ?_ ?_ ?_ ?_)
   ·exact q3.loc
   ·exact b4.cell 0 rfl
   ·omega
   ·exact aPd (aS7 cl) zy
   intro x8 w8 h1 hg;have h2:=cD.row q3.loc
   have kC:w8.heap[w1.heap.size]?=((wr.alloc (.cells #[.string s,rt] 200)).alloc (.cells #[.string s] 9)).heap[w1.heap.size]?:=hg.block _ (by omega) (fun e=>by
    obtain ⟨_,c,hc⟩:=h2 _ e.symm
    exact q3.code.noCells (by decide) c hc)
   have K8:KN w1.heap.size w1.heap.size 9 wr w8:=((KN.refl _ _ _ _).ext HY).grown hg h2;have C8:=q3.code.of kC;have O9:=KN.strs h1 ((KN.refl w1.heap.size w1.heap.size 221 w8).set (aO3 _) 1 x8) (C8.noCells (by decide)) (by decide);have z1:=hid (HS.knS (K8.set (aO3 _) 1 x8) (C8.set 1 x8) O9);have z2:=hid ((K8.set (aO3 _) 1 x8).up HX (aS7 (by omega)));obtain ⟨g6,g7,x4,_⟩:=h1.form
   have z9:(NL++[s]).length=NL.length+1:=by simp
   rw [z9] at x4;subst x4;have e7:=C8.cell 1 rfl;have e8:=C8.free 1;have d1:=C8.lt;clear h1 hg h2 kC K8 C8 O9 q3 HY q9 x2 d2;go_wp2_with fail;go_roundw
   case rel=>
    have e2:NL++[s]=(p.gs.take (k+1)).map (·.name):=by rw [List.take_add_one,b9,aQ9,q7];rfl
    have h5:=z1.out;rw [e2] at h5;exact ⟨k+1,_,by omega,by go_num,h5,z2⟩
   case measure=>simp [intOf];omega
  ·obtain rfl:k=p.gs.length:=by omega
   rw [aP7] at hS
   obtain ⟨NL,h7⟩:∃N,p.gs.map (·.name)=N:=⟨_,rfl⟩
   have z4:NL.length=p.gs.length:=by rw [<-h7,aQg]
   rw [h7] at hS;have q7:=hid h7;have e6:=hid z4;have HS:=hid hS;have HX:=hid hx;have q1:=hS.prog.cell 1 rfl;have ql:=hS.prog.lt;clear hS hx h7 z4;go_wp2_with fail;clear q1 ql
   go_loopw [38] (fun i wr=>∃(k:Nat) (iv:Value),k<=p.gs.length/\i = .int .i64 (k:Nat)/\SB p w.heap.size (w.heap.size+1) w1.heap.size w1.heap.size a1 a2 c1 c2 wr (p.trs k) iv NL lv/\Ext w wr) (fun i _=>p.gs.length - (intOf i).toNat)
   case atStart=>exact ⟨0,_,by omega,rfl,HS,HX⟩
   case round=>
    clear HS HX;obtain ⟨k,iv,hk,rfl,hS,hx⟩:=hrel
    by_cases y2:k<p.gs.length
    ·obtain ⟨b,b2,s,rt,rfl,d4,d5,h6,h4,ir,y0,y1⟩:=y5.at y2 hx hh
     have d9:=(HP.v.ag k _ h4).2;simp only at d9
     obtain ⟨r,rfl⟩:∃r:Nat,rt=r:=⟨rt.toNat,by omega⟩
     have x3:=Prg.trs_step h4;have d8:=aC1 (p:=p) (k:=k+1) p.gs.length (by omega) (aO3 _);have z6:(p.trs p.gs.length).length<=120:=b8;simp only [aPw] at x3
     have z8:(p.trs (k+1)).length=(p.trs k).length+(p.tr r).length+1:=by rw [x3];simp;omega
     have c4:=hid x3
     obtain ⟨L,hL⟩:∃L,p.trs k=L:=⟨_,rfl⟩
     rw [hL] at hS z8;have HL:=hid hL
     obtain ⟨T,hT⟩:∃T,p.tr r=T:=⟨_,rfl⟩
     rw [hT] at z8;have HT:=hid hT
     have e9:L.length<=120:=by omega
     have g2:T.length<=120:=by omega
     have c5:=hid (show (p.tr r).length<=1000 by rw [hT];omega);obtain ⟨ia,ic,rfl,-⟩:=aF.form hS.ins;obtain ⟨la,lc,rfl,-⟩:=hS.loc.form;have yA:Ext wr (wr.alloc (.cells #[.string s,(r:Nat)] 200)):=X_;have HS:=hid hS;have HX:=hid hx;have c8:=hid yA;have a3:=hid (hS.ext yA);have bA:=aPh wr 200 [.string s,(r:Nat)];have b5:=hid bA;obtain ⟨q9,x2⟩:=hS.code.q2;have cl:=hS.code.lt;obtain ⟨e3,e4⟩:=hS.prog.q2;have pl:=hS.prog.lt;have zr:=hx.size;have zy:=yA.size;rw [aO6] at zy;clear hS hx h6 h4 x3 hL hT z8 d8 z6 yA bA;go_wp2_with fail;refine aO [([0,1,2,3,4,5,6],7),([],8),([9],10)] 10 (fun w'=>∃d,w'=gY (C3b w1.heap.size wr.heap.size w.heap.size) _ d) (by kernel_rfl) (by kernel_rfl) (SC.drew _ _) ?_;refine sc_ fun K hK=>?_;go_wp2_with fail;refine (aLg lo hi w1.heap.size wr.heap.size p HP w wr a1 (some ⟨b,b2,none⟩) c1 c2 c3 hh (.slice la NL.length lc) (by rw [q7];exact HS.loc.strs) (aO3 _) (r+1) r _ (by omega) (by omega) (HX.trans X_) X_ c5).mono ?_;rintro e w5 ⟨u,rfl,O5,x5⟩;rw [HT] at O5;have Y5:Ext (wr.alloc (.cells #[.string s,(r:Nat)] 200)) w5:=aPc X_ x5;have h8:=hid Y5;have q0:=hid (a3.ext Y5);have y3:=hid (b5.ext Y5);have y8:=hid (aF.rd (sz:=3) O5 (fun _=>rfl));have z5:=Y5.size;rw [aO6] at z5;clear O5 x5 Y5;go_wp2_with fail;refine hK _ _ (.inr (SC.blocks fun a ha=>?_)) ?_
     ·rcases ha with ha|ha|ha
      ·exact h8.block (by rw [ha,aO6];omega)
      ·exact h8.block (by rw [ha,aO6];omega)
      ·exact h8.block (by rw [ha,aO6];omega)
     clear hK K
     obtain ⟨M,hM⟩:∃M,L++T=M:=⟨_,rfl⟩
     have g1:M.length<=300:=by rw [<-hM,aPy];omega
     have c0:=hid hM;refine sc_ fun K hK=>?_;refine gD Ins.cs 221 3 32 _ w5 rfl _ _ 160 rfl underlying160 sE rfl (by decide) (by decide) (fun _=>rfl) Ins.one w1.heap.size (.slice ia L.length ic) L rfl q0.ins _ _ u T rfl y8 (by omega) (by omega) ?_;rw [hM];intro x6 w6 h1 hg;clear hM;have h2:=aF.rowC q0.ins
     have h3:∀{B:Nat} {t:TypeId} {cs:List Value},Blk w5 B t cs->t≠221->w6.heap[B]?=w5.heap[B]?:=fun hb ht=>hg.block _ hb.lt (fun e=>by
      obtain ⟨_,c,hc⟩:=h2 _ e.symm
      exact hb.noCells (Ne.symm ht) c hc)
     have kC:=h3 q0.code (by decide);have kA:=h3 y3 (by decide);have kP:=h3 q0.prog (by decide);have K6:KN w1.heap.size w1.heap.size 221 (wr.alloc (.cells #[.string s,(r:Nat)] 200)) w6:=((KN.refl _ _ _ _).ext h8).grown hg h2;have C6:=q0.code.of kC;have h9:=hid (a3.kn (K6.set (aO3 _) 0 x6) (C6.set 0 x6) (aF.set h1 C6 (by decide) 0 x6));have c7:=hid ((K6.set (aO3 _) 0 x6).up (HX.trans c8) (by omega));obtain ⟨q5,q6,x4,_⟩:=aF.form h1;subst x4;obtain ⟨e0,e1⟩:=C6.q2;have g0:=C6.free 0;have d0:=C6.lt;have a9:=hid (kC.trans (h8.block (by rw [aO6];omega)));have a8:=hid (kA.trans (h8.block (by rw [aO6];omega)));have b1:=hid (kP.trans (h8.block (by rw [aO6];omega)));clear h1 hg h2 h3 kC kA kP K6 C6;go_wp2_with fail;refine hK _ _ (.inr (SC.blocks fun a ha=>?_)) ?_
     ·rcases ha with ha|ha|ha
      ·rw [ha];exact a9.out
      ·rw [ha];exact a8.out
      ·rw [ha];exact b1.out
     clear hK K;refine gE ?_;simp only [aPt,aPn,aO9,aO4,aO5]
     show wpQuiet _ _ _ _ [_] _
     simp only [Act.put,aPb,aPj,aPi,List.getElem_toArray,List.getElem_cons_succ,List.getElem_cons_zero]
     repeat (go_big_quiet_step (fail))
     refine wpQuiet_nil ⟨_,rfl,fun K hK=>?_⟩;go_wp2_with fail;refine l_ hK ?_;clear hK K;refine aZ ?_;clear e0 e1 g0 q9 x2 e3 e4 a9 a8 b1 h8 q0 y3 y8;have e0:=h9.code.cell 0 rfl;have g0:=h9.code.free 0;have el:=h9.code.lt;have y7:Ext (w6.setCell ⟨w1.heap.size,0,none⟩ (.slice q5 M.length q6)) ((w6.setCell ⟨w1.heap.size,0,none⟩ (.slice q5 M.length q6)).alloc (.cells #[.int .i64 4,.string ⟨#[]⟩,(k:Nat)] 221)):=X_;have y6:=hid (aF.ext h9.ins y7);have z3:=hid y7;have z7:=y7.size;clear y7;go_wp2_with (at_builtin;refine bW _ rfl _ _ rfl w1.heap.size (.slice q5 M.length q6) M rfl ?_ ⟨4,⟨#[]⟩,(k:Nat)⟩ w6.heap.size rfl ?_ ?_ ?_ ?_)
     ·exact y6
     ·omega
     ·simp at d0 z7 ⊢;omega
     intro x7 w8 h1 hg;have h2:=aF.rowC y6
     have kC:w8.heap[w1.heap.size]?=(w6.setCell ⟨w1.heap.size,0,none⟩ (.slice q5 M.length q6)).heap[w1.heap.size]?:=(hg.block _ (by simp;omega) (fun e=>by
      obtain ⟨_,c,hc⟩:=h2 _ e.symm
      exact (h9.code.ext z3).noCells (by decide) c hc)).trans (z3.block el)
     have K8:KN w1.heap.size w1.heap.size 221 (w6.setCell ⟨w1.heap.size,0,none⟩ (.slice q5 M.length q6)) w8:=((KN.refl _ _ _ _).ext z3).grown hg h2;have C8:=h9.code.of kC;have z1:=hid (h9.kn (K8.set (aO3 _) 0 x7) (C8.set 0 x7) (aF.set h1 C8 (by decide) 0 x7));have z2:=hid ((K8.set (aO3 _) 0 x7).up c7 (by omega));obtain ⟨g4,g5,a7,_⟩:=aF.form h1
     have d7:(M++[(⟨4,⟨#[]⟩,(k:Nat)⟩:Ins)]).length=M.length+1:=by simp
     rw [d7] at a7;subst a7;have f0:=C8.cell 0 rfl;have h0:=C8.free 0;have d1:=C8.lt;clear h1 hg h2 kC K8 C8 e0 g0 el;go_wp2_with fail;go_roundw
     case rel=>
      have e1:M++[(⟨4,⟨#[]⟩,(k:Nat)⟩:Ins)]=p.trs (k+1):=by rw [c4,HL,HT,<-c0,aQn]
      have h5:=z1.out;rw [e1] at h5;exact ⟨k+1,_,by omega,by go_num,h5,z2⟩
     case measure=>simp [intOf];omega
    ·obtain rfl:k=p.gs.length:=by omega
     obtain ⟨ia,ic,rfl,-⟩:=aF.form hS.ins;obtain ⟨la,lc,rfl,-⟩:=hS.loc.form;obtain ⟨q9,x2⟩:=hS.code.q2;have cl:=hS.code.lt;obtain ⟨r0,r1⟩:=hS.res.q2;have f0:=hS.res.free 0;have f1:=hS.res.free 1;have rl:=hS.res.lt;have zX:=hx.size;have d3:=hid (hS.loc.strs);have hI:=hid (hS.ins.inss (aO3 _) (b3 _ (aO3 _)))
     have a5:p.code.R w1.heap.size wr.heap.size wr (.agg #[.slice ia (p.trs p.gs.length).length ic,.slice la NL.length lc]):=⟨_,_,rfl,hI.out,by rw [show p.code.ls=NL from q7];exact d3.out⟩
     have c9:=hid (a5.same ((aL.setLow wr (p:=⟨w.heap.size+1,0,none⟩) (by simp only;omega) (.slice ia (p.trs p.gs.length).length ic)).trans (aL.setLow _ (p:=⟨w.heap.size+1,1,none⟩) (by simp only;omega) (.slice la NL.length lc))));have g3:=hx;clear hS a5;go_wp2;refine bodyPost_ret (v:=.tuple #[.agg #[.slice ia (p.trs p.gs.length).length ic,.slice la NL.length lc],.bool true]) (by simp [results,results140,go_sem, *]) rfl ?_;exact ⟨_,rfl,c9.wideC (by omega) (by simp),S_⟩
end
theorem Scn.Ok.shadeT {s:Scn} (ho:s.Ok) {q:Nat} (hq:q<s.ps.length) (hn:1<=n/\n<=8) (f:Nat->Int):∃X Y,s.ps[q].code.shade (mJ f n s.t)=(X,Y,true):=by
 have hc:=ho.prg _ (aPp hq);obtain ⟨X,Y,e,-⟩:=(Prg.chkB_K hc).shade hc (vZ (f:=f) (n:=n) (t:=s.t) hn ho.t);exact ⟨X,Y,e⟩
theorem jQ {s:Scn} {b:Bool} (h:s.okB=b) (lo hi:Nat) (v:Value) (w:World) (hv:s.R lo hi w v) (hh:hi<=w.heap.size) (hsm:s.small):R_ 45 #[v] w (.bool b):=h▸rB s lo hi v w hv hh hsm
theorem rC (s:Scn) (lo hi:Nat) (v:Value) (k:Nat) (w:World) (hv:s.R lo hi w v) (hh:hi<=w.heap.size) (ho:s.Ok) (hsm:s.small) (hk:k<s.m) :
  Calls aPa 89 #[v,(k:Nat)] w fun e w'=>∃r1 r2,e = .returned (.tuple #[r1,r2,.bool true])/\aS w.heap.size w'.heap.size w' r1 (s.shade k).1/\aS w.heap.size w'.heap.size w' r2 (s.shade k).2/\Ext w w':=by
 obtain ⟨q,n,q9,hq,q8,z7,z8,q7,d2⟩:=ho.at hk;have HV:=hid hv;have HO:=hid (Scn.okB_iff.2 ho);have b1:=hid hsm;have z4:inB ((k:Nat):Int) 0 ((s.m:Int) - 1)=true:=aG.2 ⟨by omega,by omega⟩;have y7:=hid z4;obtain ⟨XX,YY,x0⟩:=ho.shadeT hq ⟨z7,z8⟩ (s.st k);obtain ⟨a1,c1,a2,c2,a3,c3,rfl,-,h5,-,h1,h2,h3⟩:=hv.form;have d1:=h3.cap;have g6:=h3.le;have g7:=h2.le;have b5:=h2.cap;obtain ⟨b,h7,rfl,g4,g5,h4⟩:=h3.at hk (by decide)
 obtain ⟨f,hf⟩:∃f,s.st k=f:=⟨_,rfl⟩
 obtain ⟨g,hg⟩:∃f,s.en k=f:=⟨_,rfl⟩
 have bw:b<w.heap.size:=by omega
 have q3:w.rangeAt b (h7+k*26) ((aPu 26).map fun j=>.int .i64 (s.F (k*26+j))):=by
  intro j v hj;obtain ⟨h1,h2⟩:=aO7.1 hj;simp only [aQg,aSn] at h1;simp only [aTe,aSe] at h2;subst h2;exact h4 j h1
 change w.rangeAt b (h7+k*26) [(s.st k 0),(s.st k 1),(s.st k 2),(s.st k 3),(s.st k 4),(s.st k 5),(s.st k 6),(s.st k 7),(s.st k 8),(s.st k 9),(s.st k 10),(s.st k 11),(s.en k 0),(s.en k 1),(s.en k 2),(s.en k 3),(s.en k 4),(s.en k 5),(s.en k 6),(s.en k 7),(s.en k 8),(s.en k 9),(s.en k 10),(s.en k 11),(s.sh k),(s.rt k)] at q3;simp only [hf,hg,q9,q8] at q3;have h6:=Scn.shade_at q9 hq q8;rw [hf] at h6 q7 x0;have h9:=ho.prg _ (aPp hq);have z9:=hsm _ (aPp hq);have q0:=Tex.okB_iff.1 ho.t;have H1:=hid h1;have H2:=hid h2;have x8:=hid q3;have y9:=hid h5;have c4:=hid (show ∀W:World,Ext w W->cJ lo hi W (.agg #[s.t.log,.slice a1 s.t.px.length c1]) s.t from fun W x=>⟨_,rfl,h5,(h1.shut).ext hh x⟩);have x4:=hid h9;have q1:=hid z9;have b3:=hid q0;have a9:=hid q7;have b0:=hid h6;have q4:=hid x0;have x2:Ext w (w.alloc (.cells (sA_ s a1 c1 a2 c2 (some ⟨b,h7,none⟩) c3) 40)):=X_;have bS:=aPh w 40 (sL_ s a1 c1 a2 c2 (some ⟨b,h7,none⟩) c3);clear hv h1 h2 h3 q3 h9 z9 q0 q7 d2 h6 q9 q8 h4 hf hg h5 z4 ho hsm x0;have h0:=hid x2;have HS:=hid bS;clear x2 bS;go_enter func89,ntmps89;go_wp2_with fail;refine r_ (jQ HO lo hi _ _ (HV.ext hh h0) (aPd hh h0.size) b1) fun W0 x1=>?_;have x2:=h0.trans x1;have bS:=HS.ext x1;clear h0 HS x1;have h0:=hid x2;have HS:=hid bS;have b6:=bS.cell 10 rfl;have ls:=bS.lt;clear x2 bS;go_wp2_with fail;refine z_ (aE y7 _) ?_;have z3:W0.rangeAt b (h7+k*26) [(f 0),(f 1),(f 2),(f 3),(f 4),(f 5),(f 6),(f 7),(f 8),(f 9),(f 10),(f 11),(g 0),(g 1),(g 2),(g 3),(g 4),(g 5),(g 6),(g 7),(g 8),(g 9),(g 10),(g 11),(q:Nat),(n:Nat)]:=fun j v hj=>(h0.cells.1 b _ bw).trans (x8 j v hj);have x3:=hid z3
 have lb:b<W0.heap.size:=by have:=h0.size;omega
 clear z3;go_upto_region 4 with (first|(show wpList _ _ _ [_,_,_] _ _;refine wpList_load_mid rfl _ _ rfl b (h7+k*26) rfl [(f 0),(f 1),(f 2),(f 3),(f 4),(f 5),(f 6),(f 7),(f 8),(f 9),(f 10),(f 11),(g 0),(g 1),(g 2),(g 3),(g 4),(g 5),(g 6),(g 7),(g 8),(g 9),(g 10),(g 11),(q:Nat),(n:Nat)] _ x3 underlying127 rfl gS ?_)|(show wpList _ _ _ [_] _ _;refine dE _ _ _ rfl 127 (.tmp 7) (.tmp 28) rfl rfl #[(f 0),(f 1),(f 2),(f 3),(f 4),(f 5),(f 6),(f 7),(f 8),(f 9),(f 10),(f 11),(g 0),(g 1),(g 2),(g 3),(g 4),(g 5),(g 6),(g 7),(g 8),(g 9),(g 10),(g 11),(q:Nat),(n:Nat)] W0.heap.size rfl rfl rfl (by kernel_rfl) (by kernel_rfl) (by kernel_rfl) ?_));have xA:Ext W0 (W0.alloc (.cells #[(f 0),(f 1),(f 2),(f 3),(f 4),(f 5),(f 6),(f 7),(f 8),(f 9),(f 10),(f 11),(g 0),(g 1),(g 2),(g 3),(g 4),(g 5),(g 6),(g 7),(g 8),(g 9),(g 10),(g 11),(q:Nat),(n:Nat)] 127)):=X_;have bA:=aPh W0 127 [(f 0),(f 1),(f 2),(f 3),(f 4),(f 5),(f 6),(f 7),(f 8),(f 9),(f 10),(f 11),(g 0),(g 1),(g 2),(g 3),(g 4),(g 5),(g 6),(g 7),(g 8),(g 9),(g 10),(g 11),(q:Nat),(n:Nat)]
 obtain ⟨A,hA⟩:∃A,W0.heap.size=A:=⟨_,rfl⟩
 obtain ⟨W1,z2⟩:∃W1,W0.alloc (.cells #[(f 0),(f 1),(f 2),(f 3),(f 4),(f 5),(f 6),(f 7),(f 8),(f 9),(f 10),(f 11),(g 0),(g 1),(g 2),(g 3),(g 4),(g 5),(g 6),(g 7),(g 8),(g 9),(g 10),(g 11),(q:Nat),(n:Nat)] 127)=W1:=⟨_,rfl⟩
 rw [z2] at xA bA ⊢;rw [hA] at bA ls lb ⊢;have X1:=hid (h0.trans xA);have S1:=HS.ext xA;have z1:=hid S1;have y0:=hid bA;have d9:=S1.cell 9 rfl;have d5:=S1.lt;have b9:=bA.cell 24 rfl;have lA:=bA.lt;obtain ⟨b2,g0,na,nc,ga,gc,rfl,d0,c9,k1,k2,hR⟩:=H2.at hq X1 hh;have HR:=hid hR;clear z2 hA xA bA S1 hR b6 ls lb HS h0 x3 x8;go_wp2_with fail;refine (aA3 lo hi _ (s.ps[q]'hq) _ HR (aPd hh X1.size) x4 q1.1 q1.2.1.1 q1.2.2).mono ?_;rintro e w5 ⟨u,rfl,R5,x5⟩
 obtain ⟨K,hK⟩:∃K,(s.ps[q]'hq).code=K:=⟨_,rfl⟩
 have y8:=hid (show K.small by rw [<-hK];exact ⟨by have:=nN (Prg.chkB_K x4);omega,by show ((s.ps[q]'hq).gs.map (·.name)).length<=1048576;rw [aQg];exact q1.2.2⟩);have z0:=hid hK;rw [hK] at R5;obtain ⟨a5,c5,a6,c6,rfl,-,-⟩:=R5.form;have y5:Ext w5 (w5.alloc (.cells #[.slice a5 K.xs.length c5,.slice a6 K.ls.length c6] 163)):=X_;have bC:=aPh w5 163 [.slice a5 K.xs.length c5,.slice a6 K.ls.length c6];have y2:=hid (R5.ext (aO3 _) y5);have X5:=hid (X1.trans (x5.trans y5));have S5:=z1.ext (x5.trans y5);have A5:=y0.ext (x5.trans y5);have y1:=hid bC;have z5:=(x5.trans y5).size;have g3:=y5.size;have g9:=x5.size;have d7:=S5.cell 7 rfl;have d8:=S5.cell 8 rfl;have d6:=S5.lt;obtain ⟨e0,e1,e2,e3,e4,e5,e6,e7,e8,e9,b7,b8⟩:=A5.q12;have c0:=A5.cell 25 rfl;have d3:=A5.lt;clear R5 x5 y5 bC S5 A5 d9 d5 b9 lA k1 k2 hK z1 HR;go_wp2_with fail;refine (aE7 lo hi f a9 n ⟨z7,z8⟩ 0 ⟨by decide,by decide⟩ _ s.t _ (c4.out _ X5) (aPd hh X5.size) b3).mono ?_;rintro e w6 ⟨gv,rfl,R6,x6⟩
 obtain ⟨g1,g2,hg⟩:∃g:Grd,mJ f n s.t=g/\True:=⟨_,rfl,trivial⟩
 have x9:=hid g2;change (mJ f n s.t).R _ _ _ _ at R6;rw [g2] at R6;obtain ⟨a7,c7,a8,c8,rfl⟩:=Grd.R.formS R6;have y6:Ext w6 (w6.alloc (.cells #[g1.n,.slice a7 g1.m c7,g1.tm,g1.t.log,.slice a8 g1.t.px.length c8] 168)):=X_;have bG:=aPh w6 168 [g1.n,.slice a7 g1.m c7,g1.tm,g1.t.log,.slice a8 g1.t.px.length c8];have y4:=hid (R6.ext (aO3 _) y6);have X6:=hid (X5.trans (x6.trans y6));have B6:=y1.ext (x6.trans y6);have y3:=hid (y2.ext (by have:=g3;omega) (x6.trans y6));have z6:=(x6.trans y6).size;have g8:=y6.size;obtain ⟨f0,f1⟩:=B6.q2;have d4:=B6.lt;obtain ⟨i0,i1,i2,i3,i4⟩:=bG.q5;have lG:=bG.lt;clear R6 x6 y6 bG B6 hg g2 d7 d8 d6 e0 e1 e2 e3 e4 e5 e6 e7 e8 e9 b7 b8 c0 d3;go_wp2_with fail
 have q6:K.shade g1=(XX,YY,true):=by rw [<-z0,<-x9];exact q4
 have h8:(s.shade k).1=XX/\(s.shade k).2=YY:=by
  rw [b0,z0,x9,q6];exact ⟨rfl,rfl⟩
 have HE:=hid h8;have b4:=hid q6;clear q6 h8;refine (vV _ _ _ _ _ _ K g1 _ b4 y3 (by omega) y4 (by omega) y8).mono ?_;rintro e w7 ⟨r1,r2,rfl,O1,O2,x7⟩;have X7:=hid (X6.trans x7);have a0:=hid O1;have a4:=hid O2;clear O1 O2 x7 f0 f1 d4 i0 i1 i2 i3 i4 lG;go_wp2
 go_ret3
 have zl:=X6.size;exact ⟨r1,r2,rfl,by rw [HE.1];exact a0.wide zl (aO3 _),by rw [HE.2];exact a4.wide zl (aO3 _),X7⟩
def rD (s:Scn) (j:Nat):List (List Int):=(aPu j).map fun k=>(s.shade k).1
def aA4 (s:Scn) (j:Nat):List (List Int):=(aPu j).map fun k=>(s.shade k).2
theorem aE8 (s:Scn) (j:Nat):rD s (j+1)=rD s j++[(s.shade j).1]:=wC _ _
theorem aHy (s:Scn) (j:Nat):aA4 s (j+1)=aA4 s j++[(s.shade j).2]:=wC _ _
theorem aJs (s:Scn) (h:k<j):(rD s j)[k]?=some (s.shade k).1:=by simp [rD,h]
theorem aLh (s:Scn) (h:k<j):(aA4 s j)[k]?=some (s.shade k).2:=by simp [aA4,h]
theorem rE (s:Scn) (j:Nat):(rD s j).length=j:=by simp [rD]
theorem sZ (s:Scn) (j:Nat):(aA4 s j).length=j:=by simp [aA4]
theorem wD:(Tryz.prog.info? 24).map (fun i=>(i.zero,i.size,i.bytes))=some (some (.slice none 0 0),1,24):=by kernel_rfl
theorem aHz:(Tryz.prog.info? 78).map (·.size)=some 2:=by kernel_rfl
theorem aS.formS {l:Nat} {r:List Int} (hi:aS l h w u r):∃a c,u = .slice a r.length c:=by
 obtain ⟨a,c,e,-⟩:=hi;exact ⟨a,c,e⟩
def aJt (v v2:Value):Prop:=∀k,v.ownBlock=some k->v2.ownBlock≠some k
structure aC3 (s:Scn) (lo:Nat) (w:World) (cv av:Value) (j:Nat):Prop where
 c:dH lo w cv av (rD s j)
 a:dH lo w av cv (aA4 s j)
 ap:aJt cv av
theorem aC3.ext {s:Scn} (h:aC3 s lo w cv av j) (x:Ext w w'):aC3 s lo w' cv av j:=⟨h.c.ext x,h.a.ext x,h.ap⟩
theorem aF.otherRow {α : Type} {cs : α->List Value} {sz:Nat} {e:TypeId} {v2:Value} {xs:List α} (h:aF cs lo e sz w v xs) (hg:w.grownBy w' v2.ownBlock) (ap:∀k,v.ownBlock=some k->v2.ownBlock≠some k):aF cs lo e sz w' v xs:=by
 refine ⟨h.1,?_⟩
 rcases h.2 with hn|⟨g,cap,cur,hv,hb,hg2,r⟩
 ·exact .inl hn
 ·exact .inr ⟨g,cap,cur,hv,hb,(hg.block g (Array.getElem?_eq_some_iff.1 hg2).1 (fun e=>ap g (by rw [hv];rfl) e.symm)).trans hg2,r⟩
theorem dH.lt {v2:Value} {rows:List (List Int)} (h:dH lo w v v2 rows):∀k,v.ownBlock=some k->lo<=k/\k<w.heap.size:=by
 obtain ⟨us,-,h2,-⟩:=h;exact h2.lt
theorem aJu (s:Scn) (lo hi:Nat) (v:Value) (w:World) (hv:s.R lo hi w v) (hh:hi<=w.heap.size) (ho:s.Ok) (hsm:s.small) :
  Calls aPa 48 #[v] w fun e w'=>∃cv av,e = .returned (.agg #[cv,av])/\aC3 s w.heap.size w' cv av s.m/\Ext w w':=by
 have HV:=hid hv;have b5:=ho.m;obtain ⟨a1,c1,a2,c2,a3,c3,rfl⟩:=hv.formV;have b3:=hid hsm;have HO:=hid ho;have x0:Ext w (((w.alloc (.cells (sA_ s a1 c1 a2 c2 a3 c3) 40)).alloc (.cells #[.slice none 0 0,.slice none 0 0] 78)).alloc (.cells #[.slice none 0 0,.slice none 0 0] 78)):=X_;have bS:=((aPh w 40 (sL_ s a1 c1 a2 c2 a3 c3)).ext (show Ext _ ((w.alloc (.cells (sA_ s a1 c1 a2 c2 a3 c3) 40)).alloc (.cells #[.slice none 0 0,.slice none 0 0] 78)) from X_)).ext (show Ext _ (((w.alloc (.cells (sA_ s a1 c1 a2 c2 a3 c3) 40)).alloc (.cells #[.slice none 0 0,.slice none 0 0] 78)).alloc (.cells #[.slice none 0 0,.slice none 0 0] 78)) from X_);have bR:=(aPh (w.alloc (.cells (sA_ s a1 c1 a2 c2 a3 c3) 40)) 78 [.slice none 0 0,.slice none 0 0]).ext (show Ext _ (((w.alloc (.cells (sA_ s a1 c1 a2 c2 a3 c3) 40)).alloc (.cells #[.slice none 0 0,.slice none 0 0] 78)).alloc (.cells #[.slice none 0 0,.slice none 0 0] 78)) from X_);have bO:=aPh ((w.alloc (.cells (sA_ s a1 c1 a2 c2 a3 c3) 40)).alloc (.cells #[.slice none 0 0,.slice none 0 0] 78)) 78 [.slice none 0 0,.slice none 0 0];simp only [aO6] at bR bO
 obtain ⟨W0,z9⟩:∃W0,((w.alloc (.cells (sA_ s a1 c1 a2 c2 a3 c3) 40)).alloc (.cells #[.slice none 0 0,.slice none 0 0] 78)).alloc (.cells #[.slice none 0 0,.slice none 0 0] 78)=W0:=⟨_,rfl⟩
 rw [z9] at x0 bS bR bO;have y8:=hid x0;have z2:=hid bS;have y6:=hid bR;have y4:=hid bO;have y7:=hid z9
 have z0:w.heap.size+2<W0.heap.size:=by have:=bO.lt;omega
 clear hv ho hsm x0 bS bR bO z9;go_enter func48,ntmps48;go_upto_region 2 with fail
 try simp only [aO6]
 rw [y7];have z8:=z2.cell 10 rfl;go_wp2_with fail;clear z8
 go_loopw [12] (fun i wr=>∃(k:Nat) (cv av:Value),k<=s.m/\i = .int .i64 (k:Nat)/\Ext w wr/\Blk wr w.heap.size 40 (sL_ s a1 c1 a2 c2 a3 c3)/\Blk wr (w.heap.size+1) 78 [.slice none 0 0,.slice none 0 0]/\Blk wr (w.heap.size+2) 78 [cv,av]/\aC3 s (w.heap.size+3) wr cv av k) (fun i _=>s.m - (intOf i).toNat)
 case atStart=>exact ⟨0,_,_,by omega,rfl,y8,z2,y6,y4,dH.nil (aF.nil _ _ _ _ _),dH.nil (aF.nil _ _ _ _ _),fun k e=>nomatch e⟩
 case round=>
  obtain ⟨k,cv,av,hk,rfl,hx,hs,hr,hb,hd⟩:=hrel;have HX:=hid hx;have HS:=hid hs;have HR:=hid hr;have HB:=hid hb;have HD:=hid hd;have zr:=hb.lt;clear y8 z2 y6 y4 y7 z0
  rcases aQ3 k s.m with hlt|hge
  ·have b6:=b5
   have c:=hs.lt;obtain ⟨c0,c1,c2,c3,c4,c5,c6,c7,c8,c9,z8,b4⟩:=hs.q12;clear hx hs hr hb hd;go_wp2_with fail;have CH:=rC s lo hi _ k _ (HV.ext hh HX) (aPd hh HX.size) HO b3 hlt;refine CH.mono ?_;clear CH;rintro e w1 ⟨r1,r2,rfl,i1,i2,x1⟩;have D1:=hid (HD.ext x1);have h9:=hid (HB.ext x1);have z4:=hid (HS.ext x1);have z1:=hid (HR.ext x1);have z6:=hid (HX.trans x1);have zw:=x1.size;obtain ⟨ra,rc,rfl⟩:=i1.formS;obtain ⟨qa,qc,rfl⟩:=i2.formS;obtain ⟨us,h1,h2,h3⟩:=D1.c;obtain ⟨ca,cc,rfl,-⟩:=h2.form;obtain ⟨q7,k1,k2,k3⟩:=D1.a;obtain ⟨aa,ac,rfl,-⟩:=k2.form;have L0:=hid HD.c.lt;have L1:=hid HD.a.lt;have I1:=hid i1;have I2:=hid i2;have H1:=hid h1;have H2:=hid h2;have H3:=hid h3;have K1:=hid k1
   have a6:us.length<1000000:=by rw [h1,rE];omega
   have z5:=hid a6;clear x1 i1 i2 c c0 c1 c2 c3 c4 c5 c6 c7 c8 c9 z8 b4 h1 h2 h3 k1 k2 k3 a6;have b:=h9.lt;obtain ⟨b0,b1⟩:=h9.q2;have y1:Ext w1 (w1.alloc (.cells #[.slice ra (s.shade k).1.length rc] 24)):=X_;have HE:=hid (aPh w1 24 [.slice ra (s.shade k).1.length rc]);have Y1:=hid y1;clear y1
   have x7:Hid (∀j,j<1->(w1.alloc (.cells #[.slice ra (s.shade k).1.length rc] 24)).cell? ⟨w1.heap.size,j,none⟩=[aQk ra (s.shade k).1.length rc][j]?):=hid (fun j hj=>by
    obtain rfl:j=0:=by omega
    exact HE.cell 0 rfl)
   have x8:Hid (∀u∈[aQk ra (s.shade k).1.length rc],u.oneCell'=true):=hid (fun u hu=>by
    rw [aR0] at hu;subst hu
    rfl)
   have x9:=hid (show w.heap.size+3<=(w1.alloc (.cells #[.slice ra (s.shade k).1.length rc] 24)).heap.size by simp;omega);have q6:=hid (H2.ext Y1);have a9:=hid (fun e:(w.heap.size+2)=0=>e);have h6:=aF.rowE q6;have q0:=hid (h9.ext Y1);have h7:=hid (show ∀q,q<w.heap.size+3->some q≠(aQk ca us.length cc).ownBlock from fun q hq e=>by have:=(h6 q e.symm).1;omega)
   have a0:w.heap.size+2<w.heap.size+3:=by omega
   have x6:=hid a0;clear b b0 b1 a0 h6;have b:=h9.lt;obtain ⟨b0,b1⟩:=h9.q2;go_upto_region 7 with (at_builtin;refine lE (fun u=>[u]) 24 1 24 _ _ rfl _ _ 76 rfl underlying76 wD rfl (by decide) (by decide) (fun _=>rfl) (w.heap.size+3) (.slice ca us.length cc) us rfl q6 (.slice ra (s.shade k).1.length rc) w1.heap.size rfl x7 x8 z5 x9 ?_;intro v2 w2 h5 hg x3;obtain ⟨va,vc,rfl,-⟩:=aF.form h5;have h4:=hid (q0.grown hg (h7 _ x6));have e0:=h4.cell 0 rfl;have e1:=h4.cell 1 rfl;have f0:=h4.free 0;have f1:=h4.free 1;have lb:=h4.lt;have q1:=hid h5;have HG:=hid hg;have h8:=hid x3;clear h5 hg x3)
   obtain ⟨nu,b7⟩:∃n,(us++[aQk ra (s.shade k).1.length rc]).length=n:=⟨_,rfl⟩
   have y2:(w1.alloc (.cells #[.slice ra (s.shade k).1.length rc] 24)).heap.size=w1.heap.size+1:=aO6 _ _
   have P1:dH (w.heap.size+3) w2 (.slice va (us++[aQk ra (s.shade k).1.length rc]).length vc) (.slice aa q7.length ac) (rD s (k+1)):=by
    rw [aE8];refine dH.push (v:=.slice ca us.length cc) (w:=w1.alloc (.cells #[.slice ra (s.shade k).1.length rc] 24)) H1 (fun k' u r hu hr=>?_) HG q1 h8 (l:=wr.heap.size) (h:=w1.heap.size) (by omega) (by omega) ((I1.ext (aO3 _) Y1)) ?_ ?_
    ·obtain ⟨l,h,e0,e1,e2,e3,e4⟩:=H3 k' u r hu hr
     exact ⟨l,h,e0,aPd e1 (by omega),e2.ext e1 Y1,e3,e4⟩
    ·intro b e
     exact .inl (L0 b e).2
    ·intro b e
     exact .inl (L1 b e).2
   have P2:dH (w.heap.size+3) w2 (.slice aa q7.length ac) (.slice va (us++[aQk ra (s.shade k).1.length rc]).length vc) (aA4 s k):=by
    refine (D1.a.ext Y1).beside HG h8 fun us' ho=>ho.otherRow HG fun b e e2=>D1.ap b e2 e
   have P3:aJt (.slice va (us++[aQk ra (s.shade k).1.length rc]).length vc) (.slice aa q7.length ac):=by
    intro b e e2
    rcases h8 b e with h|h
    ·exact D1.ap b h e2
    ·have:=(L1 b e2).2
     omega
   have q9:=hid ((z4.ext Y1).grown HG (h7 _ (by omega)));have q8:=hid ((z1.ext Y1).grown HG (h7 _ (by omega)));have x2:=hid (aQj (z6.trans Y1) HG (fun k e=>Nat.le_of_not_lt fun h=>h7.out k (by omega) e.symm))
   have b8:w1.heap.size+1<=w2.heap.size:=by have:=HG.size;omega
   have y5:=hid (I2.same (w':=w2) (fun b b1 b2=>(HG.block b (by omega) (fun e=>by
     have:=(L0 b e.symm).2
     omega)).trans (Y1.block b2)))
   have q3:=hid P1;have q5:=hid P2;have q4:=hid P3;have y9:=hid L1
   have z7:Hid (∀b,(aQk va (us++[aQk ra (s.shade k).1.length rc]).length vc).ownBlock=some b->b<wr.heap.size\/w1.heap.size<=b):=hid (fun b e=>by
    rcases h8 b e with h|h
    ·exact .inl (L0 b h).2
    ·exact .inr (by omega))
   clear P1 P2 P3 e0 e1 f0 f1 lb b b0 b1 y2 b7 nu L0 L1
   have x4:(us++[aQk ra (s.shade k).1.length rc]).length=us.length+1:=by simp
   rw [x4] at q3 q5 q4 z7
   obtain ⟨nc,a5⟩:∃n,us.length+1=n:=⟨_,rfl⟩
   rw [a5] at q3 q5 q4 z7 ⊢;have b9:=hid q3.lt;have B3:Blk (w2.setCell ⟨w.heap.size+1+1,0,none⟩ (.slice va nc vc)) (w.heap.size+2) 78 [.slice va nc vc,.slice aa q7.length ac]:=h4.set 0 (.slice va nc vc);have S3:Blk (w2.setCell ⟨w.heap.size+1+1,0,none⟩ (.slice va nc vc)) w.heap.size 40 (sL_ s a1 c1 a2 c2 a3 c3):=q9.other (by simp only;omega) _;have R3:Blk (w2.setCell ⟨w.heap.size+1+1,0,none⟩ (.slice va nc vc)) (w.heap.size+1) 78 [.slice none 0 0,.slice none 0 0]:=q8.other (by simp only;omega) _;have X3:Ext w (w2.setCell ⟨w.heap.size+1+1,0,none⟩ (.slice va nc vc)):=aPm x2 (by simp only;omega) _;have P1:=q3.setLow (p:=⟨w.heap.size+1+1,0,none⟩) (by simp only;omega) (.slice va nc vc);have P2:=q5.setLow (p:=⟨w.heap.size+1+1,0,none⟩) (by simp only;omega) (.slice va nc vc);have I3:=y5.setLow (p:=⟨w.heap.size+1+1,0,none⟩) (by simp only;omega) (.slice va nc vc);have z3:(w2.setCell ⟨w.heap.size+1+1,0,none⟩ (.slice va nc vc)).heap.size=w2.heap.size:=aQf _ _ _
   obtain ⟨wq,a7⟩:∃W,w2.setCell ⟨w.heap.size+1+1,0,none⟩ (.slice va nc vc)=W:=⟨_,rfl⟩
   rw [a7] at B3 S3 R3 X3 P1 P2 I3 z3 ⊢
   have d0:w1.heap.size+1<=wq.heap.size:=by omega
   obtain ⟨h0,k1,k2,k3⟩:=P2
   have x5:h0.length<1000000:=by rw [k1,sZ];omega
   obtain ⟨ab,ad,a4,-⟩:=k2.form;simp only [aPz] at a4;obtain ⟨rfl,y0,rfl⟩:=a4;rw [y0] at q4 B3 y9 k2 P1;simp only [y0] at k3;have L1:=hid k2.lt;have L0:=hid P1.lt;have h9:=hid B3;have z4:=hid S3;have z1:=hid R3;have z6:=hid X3;have a8:=hid P1;have y3:=hid q4;have I2:=hid I3;have H1:=hid k1;have H2:=hid k2;have H3:=hid k3;have z5:=hid x5;clear B3 S3 R3 X3 P1 I3 k1 k2 k3 x5 a7 q3 q5 q4 h4 q9 q8 x2 y5 x4 y0 HG h8 q1 x7 x8 x9 q6 HE Y1 q0 h7 x6 a9 z3 b8;have y1:Ext wq (wq.alloc (.cells #[.slice qa (s.shade k).2.length qc] 24)):=X_;have HE:=hid (aPh wq 24 [.slice qa (s.shade k).2.length qc]);have Y1:=hid y1;clear y1
   have x7:Hid (∀j,j<1->(wq.alloc (.cells #[.slice qa (s.shade k).2.length qc] 24)).cell? ⟨wq.heap.size,j,none⟩=[aQk qa (s.shade k).2.length qc][j]?):=hid (fun j hj=>by
    obtain rfl:j=0:=by omega
    exact HE.cell 0 rfl)
   have x8:Hid (∀u∈[aQk qa (s.shade k).2.length qc],u.oneCell'=true):=hid (fun u hu=>by
    rw [aR0] at hu;subst hu
    rfl)
   have x9:=hid (show w.heap.size+3<=(wq.alloc (.cells #[.slice qa (s.shade k).2.length qc] 24)).heap.size by simp;omega);have q6:=hid (H2.ext Y1);have h6:=aF.rowE q6;have q0:=hid (h9.ext Y1);have h7:=hid (show ∀q,q<w.heap.size+3->some q≠(aQk aa h0.length ac).ownBlock from fun q hq e=>by have:=(h6 q e.symm).1;omega);have x6:=hid (show w.heap.size+2<w.heap.size+3 by omega);clear h6;have b:=h9.lt;obtain ⟨b0,b1⟩:=h9.q2;go_upto_region 8 with (at_builtin;refine lE (fun u=>[u]) 24 1 24 _ _ rfl _ _ 76 rfl underlying76 wD rfl (by decide) (by decide) (fun _=>rfl) (w.heap.size+3) (.slice aa h0.length ac) h0 rfl q6 (.slice qa (s.shade k).2.length qc) wq.heap.size rfl x7 x8 z5 x9 ?_;intro v4 w4 h5 hg x3;obtain ⟨vb,vd,rfl,-⟩:=aF.form h5;have h4:=hid (q0.grown hg (h7 _ x6));have e0:=h4.cell 0 rfl;have e1:=h4.cell 1 rfl;have f0:=h4.free 0;have f1:=h4.free 1;have lb:=h4.lt;have q1:=hid h5;have HG:=hid hg;have h8:=hid x3;clear h5 hg x3);have y2:(wq.alloc (.cells #[.slice qa (s.shade k).2.length qc] 24)).heap.size=wq.heap.size+1:=aO6 _ _
   have P1:dH (w.heap.size+3) w4 (.slice vb (h0++[aQk qa (s.shade k).2.length qc]).length vd) (.slice va nc vc) (aA4 s (k+1)):=by
    rw [aHy];refine dH.push (v:=.slice aa h0.length ac) (w:=wq.alloc (.cells #[.slice qa (s.shade k).2.length qc] 24)) H1 (fun k' u r hu hr=>?_) HG q1 h8 (l:=wr.heap.size) (h:=w1.heap.size) (by omega) (by omega) (I2.same (w':=wq.alloc (.cells #[.slice qa (s.shade k).2.length qc] 24)) (fun b b1 b2=>Y1.block (by omega))) ?_ ?_
    ·obtain ⟨l,h,e0,e1,e2,e3,e4⟩:=H3 k' u r hu hr
     exact ⟨l,h,e0,aPd e1 (by omega),e2.ext e1 Y1,e3,e4⟩
    ·intro b e
     exact .inl (y9 b e).2
    ·intro b e
     rcases z7 b e with h|h
     ·exact .inl h
     ·exact .inr h
   have P2:dH (w.heap.size+3) w4 (.slice va nc vc) (.slice vb (h0++[aQk qa (s.shade k).2.length qc]).length vd) (rD s (k+1)):=by
    refine (a8.ext Y1).beside HG h8 fun us' ho=>ho.otherRow HG fun b e e2=>y3 b e e2
   have P3:aJt (.slice va nc vc) (.slice vb (h0++[aQk qa (s.shade k).2.length qc]).length vd):=by
    intro b e e2
    rcases h8 b e2 with h|h
    ·exact y3 b e h
    ·have:=(L0 b e).2
     omega
   have q9:=hid ((z4.ext Y1).grown HG (h7 _ (by omega)));have q8:=hid ((z1.ext Y1).grown HG (h7 _ (by omega)));have x2:=hid (aQj (z6.trans Y1) HG (fun k e=>Nat.le_of_not_lt fun h=>h7.out k (by omega) e.symm));have q3:=hid P1;have q5:=hid P2;have q4:=hid P3;clear P1 P2 P3 e0 e1 f0 f1 lb b b0 b1 y2
   have x4:(h0++[aQk qa (s.shade k).2.length qc]).length=h0.length+1:=by simp
   rw [x4] at q3 q5 q4;have B5:=hid (show Blk (w4.setCell ⟨w.heap.size+1+1,1,none⟩ (.slice vb (h0.length+1) vd)) (w.heap.size+2) 78 [.slice va nc vc,.slice vb (h0.length+1) vd] from h4.set 1 (.slice vb (h0.length+1) vd));have S5:=hid (show Blk (w4.setCell ⟨w.heap.size+1+1,1,none⟩ (.slice vb (h0.length+1) vd)) w.heap.size 40 (sL_ s a1 c1 a2 c2 a3 c3) from q9.other (by simp only;omega) _);have R5:=hid (show Blk (w4.setCell ⟨w.heap.size+1+1,1,none⟩ (.slice vb (h0.length+1) vd)) (w.heap.size+1) 78 [.slice none 0 0,.slice none 0 0] from q8.other (by simp only;omega) _);have X5:=hid (show Ext w (w4.setCell ⟨w.heap.size+1+1,1,none⟩ (.slice vb (h0.length+1) vd)) from aPm x2 (by simp only;omega) _);have D5:=hid (aC3.mk (s:=s) (j:=k+1) (q5.setLow (p:=⟨w.heap.size+1+1,1,none⟩) (by simp only;omega) (.slice vb (h0.length+1) vd)) (q3.setLow (p:=⟨w.heap.size+1+1,1,none⟩) (by simp only;omega) (.slice vb (h0.length+1) vd)) q4);clear q3 q5 q4 h4 q9 q8 x2 x4 a5;go_wp2;go_roundw
   case rel=>exact ⟨k+1,_,_,by omega,by go_num,X5,S5,R5,B5,D5⟩
   case measure=>simp [intOf];omega
  ·obtain rfl:k=s.m:=by omega
   have b:=hb.lt;obtain ⟨b0,b1⟩:=hb.q2;have r:=hr.lt;obtain ⟨r0,r1⟩:=hr.q2;have d1:=hr.free 0;have d2:=hr.free 1;obtain ⟨us,h1,h2,h3⟩:=HD.c;obtain ⟨ca,cc,rfl,-⟩:=h2.form;obtain ⟨q7,k1,k2,k3⟩:=HD.a;obtain ⟨aa,ac,rfl,-⟩:=k2.form;clear hx hs hr hb hd h1 h2 h3 k1 k2 k3;go_wp2;have bF:=(HR.set 0 (.slice ca us.length cc)).set 1 (.slice aa q7.length ac);refine aAx rfl rfl bF _ underlying78 rfl aHz rfl ?_;refine ⟨_,_,rfl,⟨?_,?_,HD.ap⟩,?_⟩
   ·exact ((HD.c.setLow (p:=⟨w.heap.size+1,0,none⟩) (by simp only;omega) _).setLow (p:=⟨w.heap.size+1,1,none⟩) (by simp only;omega) _).low (by omega)
   ·exact ((HD.a.setLow (p:=⟨w.heap.size+1,0,none⟩) (by simp only;omega) _).setLow (p:=⟨w.heap.size+1,1,none⟩) (by simp only;omega) _).low (by omega)
   ·exact aPm (aPm HX (by simp only;omega) _) (by simp only;omega) _
theorem yV {cw ch zo ne:Int} {de:Bool} {le fo:Int} (hc:(Cam.mk cw ch zo ne de le fo).Ok) {l half:Int} (hx : -1000000<=x/\x<=1000000) (hz:1<=z/\z<=1000000) (hl : -16<=l/\l<=16) (hp:0<=half/\half<=1000) (hr:(Cam.mk cw ch zo ne de le fo).pj x z l half=r) (w:World) :
  R_ 243 #[.agg #[cw,ch,zo,ne,.bool de,le,fo],x,z,l,half] w (.int .i64 r):=by
 have h1:0<=le/\le<=64:=hc.lens;have h2:0<=fo/\fo<=1000000:=hc.focus;have h3:1<=zo/\zo<=65536:=hc.zoom
 obtain ⟨p1,e1⟩:∃p,l*le=p:=⟨_,rfl⟩
 have b1 : -1024<=p1/\p1<=1024:=by have:=bJ (A:=16) (B:=64) hl (show -64<=le/\le<=64 by omega);omega
 obtain ⟨d,e0⟩:∃d,z - fo=d:=⟨_,rfl⟩
 obtain ⟨p2,e2⟩:∃p,p1*d=p:=⟨_,rfl⟩
 have b2 : -1024000000<=p2/\p2<=1024000000:=by have:=bJ (A:=1024) (B:=1000000) b1 (show -1000000<=d/\d<=1000000 by omega);omega
 obtain ⟨q,e3⟩:∃q,bD p2 4096=q:=⟨_,rfl⟩
 have b3 : -1024000001<=q/\q<=1024000000:=by have:=lL (b:=4096) (m:=1024000000) b2 (by decide);omega
 obtain ⟨y,e4⟩:∃y,x+q=y:=⟨_,rfl⟩
 obtain ⟨p3,e5⟩:∃p,y*zo=p:=⟨_,rfl⟩
 have b4 : -80000000000000<=p3/\p3<=80000000000000:=by have:=bJ (A:=1100000000) (B:=65536) (show -1100000000<=y/\y<=1100000000 by omega) (show -65536<=zo/\zo<=65536 by omega);omega
 obtain ⟨t,e6⟩:∃t,bD p3 ((Cam.mk cw ch zo ne de le fo).by z)=t:=⟨_,rfl⟩
 have b5 : -80000000000001<=t/\t<=80000000000000:=by have:=lL (b:=(Cam.mk cw ch zo ne de le fo).by z) (m:=80000000000000) b4 (by decide);omega
 have hR:aP (t+half) (-100000) 100000=r:=by
  rw [<-hr]
  show _=sc (bD ((x+bD (l*le*(z - fo)) 4096)*zo) ((Cam.mk cw ch zo ne de le fo).by z)+half)
  rw [e1,e0,e2,e3,e4,e5,e6]
  rfl
 have E3:=hid e3;have E6:=hid e6;have HR:=hid hR;clear hr hR e3 e6 hc
 cases de
 ·have E7:=hid (show bD p3 256=t from E6)
  go_enter func243,ntmps243;go_wp2_with fail;refine z_ (aR ⟨by omega,by omega⟩ E3 _) ?_;go_wp2_with fail;refine z_ (aR ⟨by omega,by omega⟩ E7 _) ?_;go_wp2_with fail;refine z_ (cR HR _) ?_;go_wp2;go_ret;exact ⟨rfl,X_⟩
 ·have E7:=hid (show bD p3 z=t from E6)
  go_enter func243,ntmps243;go_wp2_with fail;refine z_ (aR ⟨by omega,by omega⟩ E3 _) ?_;go_wp2_with fail;refine z_ (aR ⟨by omega,by omega⟩ E7 _) ?_;go_wp2_with fail;refine z_ (cR HR _) ?_;go_wp2;go_ret;exact ⟨rfl,X_⟩
theorem aL5 {w:Int} (h:1<=w/\w<=12):Int.tdiv (w*16) 2=w*8:=by rw [aRc (by omega)];omega
theorem aA5 (c:Cam) (x y z lx ly:Int) (h:c.prB ⟨x,y,z⟩ lx ly=true) (w:World) :
  R_ 203 #[c.V,.agg #[x,y,z],lx,ly] w (.tuple #[(c.pr ⟨x,y,z⟩ lx ly).V,.bool true]):=by
 unfold Cam.prB at h;simp only [aPk,decide_eq_true_eq] at h;obtain ⟨⟨⟨⟨hc,hv⟩,hx⟩,hy⟩,hz⟩:=h;have OK:=Cam.okB_iff.1 hc;have h2:=yF.1 hv;have h3:=aG.1 hx;have h4:=aG.1 hy;have hn:=OK.near
 obtain ⟨px,h0⟩:∃n,c.pj x z lx (c.w*8)=n:=⟨_,rfl⟩
 obtain ⟨py,h1⟩:∃n,c.pj y z ly (c.h*8)=n:=⟨_,rfl⟩
 have hV:(c.pr ⟨x,y,z⟩ lx ly).V = .agg #[px,py,z]:=by
  unfold Cam.pr V3.V;simp only [h0,h1]
 rw [hV];have h8:=hid hx;have h9:=hid hy;have HO:=hid OK;have P1:=hid h0;have P2:=hid h1;have VX:=hid h2.1;have VY:=hid h2.2.1;have VZ:=hid (show 1<=z/\z<=1000000 by omega);have LX:=hid h3;have LY:=hid h4;have WB:=OK.w;have HB:=OK.h;have q0:decide (z<c.near)=false:=decide_eq_false (by omega);have t1:=aL5 WB;have t2:=aL5 HB;have s1:wrap64 (c.w*16)=c.w*16:=aD (by omega) (by omega);have s2:wrap64 (c.h*16)=c.h*16:=aD (by omega) (by omega);have HV:=hid hv;have HC:=hid hc;have B0:=hid ((aPh w 35 c).ext (show Ext (w.alloc (.cells c 35)) (((w.alloc (.cells c 35)).alloc (.cells #[x,y,z] 122)).alloc (.cells #[(),(),()] 122)) from X_));have B1:=hid (show Blk (((w.alloc (.cells c 35)).alloc (.cells #[x,y,z] 122)).alloc (.cells #[(),(),()] 122)) (w.heap.size+1) 122 [x,y,z] from by have q:=(aPh (w.alloc (.cells c 35)) 122 [x,y,z]).ext (show Ext ((w.alloc (.cells c 35)).alloc (.cells #[x,y,z] 122)) (((w.alloc (.cells c 35)).alloc (.cells #[x,y,z] 122)).alloc (.cells #[(),(),()] 122)) from X_);simp only [aO6] at q;exact q);have B2:=hid (show Blk (((w.alloc (.cells c 35)).alloc (.cells #[x,y,z] 122)).alloc (.cells #[(),(),()] 122)) (w.heap.size+2) 122 [(),(),()] from by have q:=(aPh ((w.alloc (.cells c 35)).alloc (.cells #[x,y,z] 122)) 122 [(),(),()]).ext (show Ext (((w.alloc (.cells c 35)).alloc (.cells #[x,y,z] 122)).alloc (.cells #[(),(),()] 122)) (((w.alloc (.cells c 35)).alloc (.cells #[x,y,z] 122)).alloc (.cells #[(),(),()] 122)) from X_);simp only [aO6] at q;exact q);have X0:=hid (show Ext w (((w.alloc (.cells c 35)).alloc (.cells #[x,y,z] 122)).alloc (.cells #[(),(),()] 122)) from X_);clear hc hv hx hy OK h2 h3 h4 hn h0 h1 hV hz
 show Calls aPa 203 #[.agg c,.agg #[x,y,z],lx,ly] w _
 go_enter func203,ntmps203;go_wp2_with fail;refine r_ (aM HC _) fun w1 x1=>?_;replace B0:=hid (B0.ext x1);replace B1:=hid (B1.ext x1);replace B2:=hid (B2.ext x1);replace X0:=hid (X0.trans x1);have v:=B1.lt;obtain ⟨v0,v1,v2⟩:=B1.q3;go_wp2_with fail;refine (dL _).mono ?_;rintro e w2 ⟨he,x2⟩;rw [HV] at he;subst he;clear v0 v1 v2 v;replace B0:=hid (B0.ext x2);replace B1:=hid (B1.ext x2);replace B2:=hid (B2.ext x2);replace X0:=hid (X0.trans x2);have c_:=B0.lt;obtain ⟨q1,q2,q4,q5,q6,q8,q9⟩:=B0.q7;have v:=B1.lt;obtain ⟨v0,v1,v2⟩:=B1.q3;have r:=B2.lt;obtain ⟨r0,r1,r2⟩:=B2.q3;have h5:=B2.free 0;have h6:=B2.free 1;have h7:=B2.free 2;have zs:=X0.size;go_wp2_with fail;refine z_ (aE h8 _) ?_;go_wp2_with fail;refine z_ (aE h9 _) ?_;go_wp2_with fail;clear q0;refine aA [([0,1,2,3,4,5,6,7,8,9,11,12,13,14,15,16,17,18,19,20,22,23],10),([],21),([24],25),([],26)] 26 (w.heap.size+2) (by kernel_rfl) (by kernel_rfl) ?_;refine st_ fun K hK=>?_;go_wp2_with fail;refine r_ (yV HO VX VZ LX (show (0:Int)<=c.w*8/\c.w*8<=1000 by omega) P1 _) fun w3 x3=>?_;have y3:Ext w2 w3:=aPc (aP9 (aPg _)) x3;go_wp2_with fail;refine hK _ _ (.inr (fun k _ hk=>y3.block (by first|omega|(simp;omega)))) ?_;clear hK K;refine st_ fun K hK=>?_;go_wp2_with fail;refine r_ (yV HO VY VZ LY (show (0:Int)<=c.h*8/\c.h*8<=1000 by omega) P2 _) fun w4 x4=>?_;have y4:=y3.trans x4;go_wp2_with fail;refine hK _ _ (.inr (fun k _ hk=>y4.block (by first|omega|(simp;omega)))) ?_;clear hK K;clear r r0 r1 r2 h5 h6 h7;have D:=B2.ext y4;have XX:=X0.trans y4;have r:=D.lt;obtain ⟨r0,r1,r2⟩:=D.q3;have h5:=D.free 0;have h6:=D.free 1;have h7:=D.free 2;refine st_ fun K hK=>?_;go_wp2_with fail
 refine hK _ _ (.inr (fun k _ hk=>by
  rw [aPe _ _ _ _ (by first|omega|(simp only;omega)|(simp;omega)),aPe _ _ _ _ (by first|omega|(simp only;omega)|(simp;omega)),aPe _ _ _ _ (by first|omega|(simp only;omega)|(simp;omega))]
  exact y4.block (by omega))) ?_
 clear hK K;refine st_ fun K hK=>?_;go_wp2_with fail;refine l_ hK ?_;clear hK K;refine aC ?_;go_wp2;exact bodyPost_ret (v:=.tuple #[.agg #[px,py,z],.bool true]) (by simp [results,results203,go_sem, *]) rfl ⟨rfl,S_⟩
theorem Cam.prB_parts {c:Cam} {b:Bool} (h:c.prB ⟨x,y,z⟩ lx ly=b):(c.okB&&cP x y z&&inB lx (-16) 16&&inB ly (-16) 16&&decide (c.near<=z))=b:=h
theorem aC4 (c:Cam) (x y z lx ly:Int) (h:c.prB ⟨x,y,z⟩ lx ly=false) (w:World) :
  R_ 203 #[c.V,.agg #[x,y,z],lx,ly] w (.tuple #[.agg #[(),(),()],.bool false]):=by
 have h:=Cam.prB_parts h
 obtain ⟨b1,hc⟩:∃b,c.okB=b:=⟨_,rfl⟩
 obtain ⟨b2,hv⟩:∃b,cP x y z=b:=⟨_,rfl⟩
 obtain ⟨b3,hx⟩:∃b,inB lx (-16) 16=b:=⟨_,rfl⟩
 obtain ⟨b4,hy⟩:∃b,inB ly (-16) 16=b:=⟨_,rfl⟩
 rw [hc,hv,hx,hy] at h;have h4:=hid hx;have h5:=hid hy;have HV:=hid hv;have HC:=hid hc;have B0:=hid ((aPh w 35 c).ext (show Ext (w.alloc (.cells c 35)) (((w.alloc (.cells c 35)).alloc (.cells #[x,y,z] 122)).alloc (.cells #[(),(),()] 122)) from X_));have B1:=hid (show Blk (((w.alloc (.cells c 35)).alloc (.cells #[x,y,z] 122)).alloc (.cells #[(),(),()] 122)) (w.heap.size+1) 122 [x,y,z] from by have q:=(aPh (w.alloc (.cells c 35)) 122 [x,y,z]).ext (show Ext ((w.alloc (.cells c 35)).alloc (.cells #[x,y,z] 122)) (((w.alloc (.cells c 35)).alloc (.cells #[x,y,z] 122)).alloc (.cells #[(),(),()] 122)) from X_);simp only [aO6] at q;exact q);have B2:=hid (show Blk (((w.alloc (.cells c 35)).alloc (.cells #[x,y,z] 122)).alloc (.cells #[(),(),()] 122)) (w.heap.size+2) 122 [(),(),()] from by have q:=(aPh ((w.alloc (.cells c 35)).alloc (.cells #[x,y,z] 122)) 122 [(),(),()]).ext (show Ext (((w.alloc (.cells c 35)).alloc (.cells #[x,y,z] 122)).alloc (.cells #[(),(),()] 122)) (((w.alloc (.cells c 35)).alloc (.cells #[x,y,z] 122)).alloc (.cells #[(),(),()] 122)) from X_);simp only [aO6] at q;exact q);have X0:=hid (show Ext w (((w.alloc (.cells c 35)).alloc (.cells #[x,y,z] 122)).alloc (.cells #[(),(),()] 122)) from X_);clear hc hv hx hy
 show Calls aPa 203 #[.agg c,.agg #[x,y,z],lx,ly] w _
 go_enter func203,ntmps203;go_wp2_with fail;refine r_ (aM HC _) fun w1 x1=>?_;replace B0:=hid (B0.ext x1);replace B1:=hid (B1.ext x1);replace B2:=hid (B2.ext x1);replace X0:=hid (X0.trans x1);have r:=B2.lt;obtain ⟨r0,r1,r2⟩:=B2.q3;have h0:=B2.free 0;have h2:=B2.free 1;have h3:=B2.free 2;have XX:=X0.out
 cases b1
 ·go_wp2
  exact bodyPost_ret (v:=.tuple #[.agg #[(),(),()],.bool false]) (by simp [results,results203,go_sem, *]) rfl ⟨rfl,S_⟩
 clear r r0 r1 r2 h0 h2 h3 XX;have v:=B1.lt;obtain ⟨v0,v1,v2⟩:=B1.q3;go_wp2_with fail;refine (dL _).mono ?_;rintro e w2 ⟨he,x2⟩;rw [HV] at he;subst he;clear v0 v1 v2 v;replace B0:=hid (B0.ext x2);replace B1:=hid (B1.ext x2);replace B2:=hid (B2.ext x2);replace X0:=hid (X0.trans x2);have r:=B2.lt;obtain ⟨r0,r1,r2⟩:=B2.q3;have h0:=B2.free 0;have h2:=B2.free 1;have h3:=B2.free 2;have XX:=X0.out
 cases b2
 ·go_wp2
  exact bodyPost_ret (v:=.tuple #[.agg #[(),(),()],.bool false]) (by simp [results,results203,go_sem, *]) rfl ⟨rfl,S_⟩
 go_wp2_with fail;refine z_ (aE h4 _) ?_
 cases b3
 ·go_wp2
  exact bodyPost_ret (v:=.tuple #[.agg #[(),(),()],.bool false]) (by simp [results,results203,go_sem, *]) rfl ⟨rfl,S_⟩
 go_wp2_with fail;refine z_ (aE h5 _) ?_
 cases b4
 ·go_wp2
  exact bodyPost_ret (v:=.tuple #[.agg #[(),(),()],.bool false]) (by simp [results,results203,go_sem, *]) rfl ⟨rfl,S_⟩
 have q4:decide (z<c.near)=true:=by
  have h1 : ¬c.near<=z:=by simpa using h
  exact decide_eq_true (by omega)
 clear h;have c_:=B0.lt;obtain ⟨h6,h7,h8,h9,q0,q1,q2⟩:=B0.q7;have v:=B1.lt;obtain ⟨v0,v1,v2⟩:=B1.q3;go_wp2;exact bodyPost_ret (v:=.tuple #[.agg #[(),(),()],.bool false]) (by simp [results,results203,go_sem, *]) rfl ⟨rfl,S_⟩
theorem wE (h:aQo ⟨x,y,z⟩) (hz : -1000000<=z/\z<=1000000) (w:World) :
  R_ 208 #[.agg #[x,y,z]] w (.agg #[x,y,z]):=by
 have h1:=hid (aAe h.1);have h2:=hid (aAe h.2);have h3:=hid (qM hz);clear h hz;go_enter func208,ntmps208;go_upto_region 1 with fail;refine aA [([0,1,3,4,6,7],2),([],5),([],8),([9],10)] 10 (w.heap.size+1) (by kernel_rfl) (by kernel_rfl) ?_;refine st_ fun K hK=>?_;go_wp2_with fail;refine z_ (cR h1.out _) ?_;go_wp2_with fail;refine k_ hK ?_;clear hK K;refine st_ fun K hK=>?_;go_wp2_with fail;refine z_ (cR h2.out _) ?_;go_wp2_with fail;refine k_ hK ?_;clear hK K;refine st_ fun K hK=>?_;go_wp2_with fail;refine z_ (tP h3.out _) ?_;go_wp2_with fail;refine k_ hK ?_;clear hK K;refine st_ fun K hK=>?_;go_wp2_with fail;refine l_ hK ?_;clear hK K;refine aC ?_;go_wp2;exact bodyPost_ret (v:=.agg #[x,y,z]) (by simp [results,results208,go_sem, *]) rfl ⟨rfl,S_⟩
theorem rF (ax ay az bx by' bz cx cy cz:Int) (ha:aQo ⟨ax,ay,az⟩) (hb:aQo ⟨bx,by',bz⟩) (hc:aQo ⟨cx,cy,cz⟩) (hz:(-1000000<=az/\az<=1000000)/\(-1000000<=bz/\bz<=1000000)/\(-1000000<=cz/\cz<=1000000)) (w:World) :
  R_ 151 #[.agg #[ax,ay,az,bx,by',bz,cx,cy,cz]] w (.agg #[ax,ay,az,bx,by',bz,cx,cy,cz]):=by
 have Ha:=aQ ha;have Hb:=aQ hb;have Hc:=aQ hc;have Hz:=hid hz;have B0:=hid ((aPh w 153 [ax,ay,az,bx,by',bz,cx,cy,cz]).ext (show Ext (w.alloc (.cells #[ax,ay,az,bx,by',bz,cx,cy,cz] 153)) ((w.alloc (.cells #[ax,ay,az,bx,by',bz,cx,cy,cz] 153)).alloc (.cells #[(),(),(),(),(),(),(),(),()] 151)) from X_));have B1:=hid (show Blk ((w.alloc (.cells #[ax,ay,az,bx,by',bz,cx,cy,cz] 153)).alloc (.cells #[(),(),(),(),(),(),(),(),()] 151)) (w.heap.size+1) 151 [(),(),(),(),(),(),(),(),()] from by have q:=(aPh (w.alloc (.cells #[ax,ay,az,bx,by',bz,cx,cy,cz] 153)) 151 [(),(),(),(),(),(),(),(),()]).ext (show Ext ((w.alloc (.cells #[ax,ay,az,bx,by',bz,cx,cy,cz] 153)).alloc (.cells #[(),(),(),(),(),(),(),(),()] 151)) ((w.alloc (.cells #[ax,ay,az,bx,by',bz,cx,cy,cz] 153)).alloc (.cells #[(),(),(),(),(),(),(),(),()] 151)) from X_);simp only [aO6] at q;exact q);have X0:=hid (show Ext w ((w.alloc (.cells #[ax,ay,az,bx,by',bz,cx,cy,cz] 153)).alloc (.cells #[(),(),(),(),(),(),(),(),()] 151)) from X_);clear ha hb hc hz;go_enter func151,ntmps151;go_upto_region 1 with fail
 obtain ⟨W,hW⟩:∃W,((w.alloc (.cells #[ax,ay,az,bx,by',bz,cx,cy,cz] 153)).alloc (.cells #[(),(),(),(),(),(),(),(),()] 151))=W:=⟨_,rfl⟩
 try simp only [aO6]
 rw [hW];rw [hW] at B0 B1 X0;clear hW;have zs:w.heap.size+1<W.heap.size:=B1.lt;have t:=B0.lt;have t0:=B0.cell 0 rfl;have t1:=B0.cell 1 rfl;have t2:=B0.cell 2 rfl;have t3:=B0.cell 3 rfl;have t4:=B0.cell 4 rfl;have t5:=B0.cell 5 rfl;have t6:=B0.cell 6 rfl;have t7:=B0.cell 7 rfl;have t8:=B0.cell 8 rfl;have h9:=B0.free 0;have q0:=B0.free 1;have q1:=B0.free 2;have q2:=B0.free 3;have q3:=B0.free 4;have q4:=B0.free 5;have q5:=B0.free 6;have q6:=B0.free 7;have q7:=B0.free 8;refine aA [([0,1,2,4,5,6,8,9,10],3),([],7),([],11),([12],13)] 13 (w.heap.size+1) (by kernel_rfl) (by kernel_rfl) ?_;refine st_ fun K hK=>?_;go_wp2_with fail;refine r_ (wE Ha Hz.1 _) fun w1 x1=>?_;have y1:Ext W w1:=aPc (aP9 (aPg _)) x1;go_wp2_with fail;refine hK _ _ (.inr (fun k _ hk=>y1.block (by first|omega|(simp;omega)))) ?_;clear hK K;refine st_ fun K hK=>?_;go_wp2_with fail;refine r_ (wE Hb Hz.2.1 _) fun w2 x2=>?_;have y2:=y1.trans x2;go_wp2_with fail;refine hK _ _ (.inr (fun k _ hk=>y2.block (by first|omega|(simp;omega)))) ?_;clear hK K;refine st_ fun K hK=>?_;go_wp2_with fail;refine r_ (wE Hc Hz.2.2 _) fun w3 x3=>?_;have y3:=y2.trans x3;go_wp2_with fail;refine hK _ _ (.inr (fun k _ hk=>y3.block (by first|omega|(simp;omega)))) ?_;clear hK K;have D:=B1.ext y3;have XX:=X0.trans y3;have r:=D.lt;have r0:=D.cell 0 rfl;have r1:=D.cell 1 rfl;have r2:=D.cell 2 rfl;have r3:=D.cell 3 rfl;have r4:=D.cell 4 rfl;have r5:=D.cell 5 rfl;have r6:=D.cell 6 rfl;have r7:=D.cell 7 rfl;have r8:=D.cell 8 rfl;have h0:=D.free 0;have h1:=D.free 1;have h2:=D.free 2;have h3:=D.free 3;have h4:=D.free 4;have h5:=D.free 5;have h6:=D.free 6;have h7:=D.free 7;have h8:=D.free 8;refine st_ fun K hK=>?_;go_wp2_with fail;refine l_ hK ?_;clear hK K;refine aC ?_;go_wp2;exact bodyPost_ret (v:=.agg #[ax,ay,az,bx,by',bz,cx,cy,cz]) (by simp [results,results151,go_sem, *]) rfl ⟨rfl,S_⟩
theorem hH (ax ay az bx by' bz:Int) (ha:aQo ⟨ax,ay,az⟩) (hb:aQo ⟨bx,by',bz⟩) (hs:aQo ⟨x,y,0⟩) (hr:aV ⟨ax,ay,az⟩ ⟨bx,by',bz⟩ ⟨x,y,0⟩=r) (w:World) :
  R_ 154 #[.agg #[ax,ay,az],.agg #[bx,by',bz],x,y] w (.int .i64 r):=by
 obtain ⟨g1,g2⟩:=qS ha hb hs;obtain ⟨a1,a2⟩:=ha;obtain ⟨b1,b2⟩:=hb;obtain ⟨s1,s2⟩:=hs;simp only at a1 a2 b1 b2 s1 s2 g1 g2
 obtain ⟨p1,e5⟩:∃p,(bx - ax)*(y - ay)=p:=⟨_,rfl⟩
 obtain ⟨p2,e6⟩:∃p,(by' - ay)*(x - ax)=p:=⟨_,rfl⟩
 rw [e5] at g1;rw [e6] at g2
 have hR:p1 - p2=r:=by
  rw [<-hr,<-e5,<-e6]
  rfl
 have u1:wrap64 (bx - ax)=bx - ax:=aD (by omega) (by omega);have u2:wrap64 (y - ay)=y - ay:=aD (by omega) (by omega)
 have u3:wrap64 (by' - ay)=by' - ay:=aD (by omega) (by omega)
 have u4:wrap64 (x - ax)=x - ax:=aD (by omega) (by omega)
 have u5:wrap64 ((bx - ax)*(y - ay))=p1:=by rw [e5];exact aD (by omega) (by omega)
 have u6:wrap64 ((by' - ay)*(x - ax))=p2:=by rw [e6];exact aD (by omega) (by omega)
 have u7:wrap64 (p1 - p2)=r:=by rw [hR];exact aD (by omega) (by omega)
 clear hr hR e5 e6 g1 g2 a1 a2 b1 b2 s1 s2;go_enter func154,ntmps154;go_wp2;go_ret;exact ⟨dG u7,X_⟩
theorem fY (ax ay az bx by' bz:Int) (ha:aQo ⟨ax,ay,az⟩) (hb:aQo ⟨bx,by',bz⟩) (hs:aQo ⟨x,y,0⟩) {r:Bool} (hr:cX ⟨ax,ay,az⟩ ⟨bx,by',bz⟩ ⟨x,y,0⟩=r) (w:World) :
  R_ 207 #[.agg #[ax,ay,az],.agg #[bx,by',bz],x,y] w (.bool r):=by
 obtain ⟨d,hd⟩:∃d,aV ⟨ax,ay,az⟩ ⟨bx,by',bz⟩ ⟨x,y,0⟩=d:=⟨_,rfl⟩
 have HD:=hid hd;have Ha:=aQ ha;have Hb:=aQ hb;have Hs:=aQ hs;have B0:=hid ((aPh w 122 [ax,ay,az]).ext (show Ext (w.alloc (.cells #[ax,ay,az] 122)) ((w.alloc (.cells #[ax,ay,az] 122)).alloc (.cells #[bx,by',bz] 122)) from X_));have B1:=hid (show Blk ((w.alloc (.cells #[ax,ay,az] 122)).alloc (.cells #[bx,by',bz] 122)) (w.heap.size+1) 122 [bx,by',bz] from by have q:=(aPh (w.alloc (.cells #[ax,ay,az] 122)) 122 [bx,by',bz]).ext (show Ext ((w.alloc (.cells #[ax,ay,az] 122)).alloc (.cells #[bx,by',bz] 122)) ((w.alloc (.cells #[ax,ay,az] 122)).alloc (.cells #[bx,by',bz] 122)) from X_);simp only [aO6] at q;exact q);have X0:=hid (show Ext w ((w.alloc (.cells #[ax,ay,az] 122)).alloc (.cells #[bx,by',bz] 122)) from X_);unfold cX at hr;simp only [hd] at hr;clear ha hb hs hd;go_enter func207,ntmps207;go_wp2_with fail;refine r_ (hH _ _ _ _ _ _ Ha Hb Hs HD _) fun w1 x1=>?_;replace B0:=hid (B0.ext x1);replace B1:=hid (B1.ext x1);replace X0:=hid (X0.trans x1);have p:=B0.lt;obtain ⟨p0,p1,p2⟩:=B0.q3;have q:=B1.lt;obtain ⟨q0,q1,q2⟩:=B1.q3
 by_cases h0:d=0
 ·subst h0
  rcases Int.lt_trichotomy by' ay with h1|h1|h1
  ·have e1:r=true:=by rw [<-hr];simp [h1]
   subst e1;go_wp2;go_ret;exact ⟨aK (by simp [h1]),X0⟩
  ·have e1:decide (ax<bx)=r:=by rw [<-hr];simp [h1]
   clear hr;subst h1;go_wp2;go_ret;exact ⟨aK (by first|exact e1|rfl),X0⟩
  ·have h2 : ¬by'<ay:=by omega
   have h3 : ¬by'=ay:=by omega
   have e1:r=false:=by rw [<-hr];simp [h2,h3]
   subst e1;go_wp2;go_ret;exact ⟨aK (by simp [h2,h3]),X0⟩
 ·have e1:decide (0<d)=r:=by rw [<-hr];simp [h0]
  clear hr;go_wp2;go_ret;exact ⟨aK (by first|exact e1|rfl),X0⟩
theorem yW (ax ay az bx by' bz cx cy cz:Int) (ha:aQo ⟨ax,ay,az⟩) (hb:aQo ⟨bx,by',bz⟩) (hc:aQo ⟨cx,cy,cz⟩) (hz:(-1000000<=az/\az<=1000000)/\(-1000000<=bz/\bz<=1000000)/\(-1000000<=cz/\cz<=1000000)) {d:Int} (hd:aV ⟨ax,ay,az⟩ ⟨bx,by',bz⟩ ⟨cx,cy,0⟩=d) (w:World) :
  R_ 153 #[.agg #[ax,ay,az,bx,by',bz,cx,cy,cz]] w (.int .i64 d):=by
 have Ha:=aQ ha;have Hb:=aQ hb;have Hc:=aQ hc;have Hz:=hid hz;have HD:=hid hd;clear ha hb hc hz hd;go_enter func153,ntmps153;go_wp2_with fail;refine r_ (rF _ _ _ _ _ _ _ _ _ Ha Hb Hc Hz _) fun w1 x1=>?_;have y1:Ext w w1:=aPc X_ x1;have z1:=y1.size;go_wp2_with fail;refine r_ (hH _ _ _ _ _ _ Ha Hb (show aQo ⟨cx,cy,0⟩ from Hc) HD _) fun w2 x2=>?_;go_wp2;go_ret;exact ⟨rfl,y1.trans (aPc S_ x2)⟩
theorem aH0 (ax ay az bx by' bz cx cy cz:Int) (w:World) :
  R_ 206 #[.agg #[ax,ay,az,bx,by',bz,cx,cy,cz]] w (.agg #[ax,ay,az,cx,cy,cz,bx,by',bz]):=by
 go_enter func206,ntmps206;go_wp2;exact bodyPost_ret (v:=.agg #[ax,ay,az,cx,cy,cz,bx,by',bz]) (by simp [results,results206,go_sem, *]) rfl ⟨rfl,S_⟩
theorem aE9 (h:aQo ⟨x,y,0⟩) (w:World):Z_ 205 #[x,y] w (.bool true):=by
 have h1:=hid (aG.2 h.1);have h2:=hid (aG.2 h.2);clear h;go_enter func205,ntmps205;go_wp2_with fail;refine z_ (aE h1.out _) ?_;go_wp2_with fail;refine z_ (aE h2.out _) ?_;go_wp2;go_ret;exact ⟨rfl,rfl⟩
theorem rG (hx : -100000000000<=x/\x<=100000000000) (h:fH x=r) (w:World):Z_ 152 #[x] w (.int .i64 r):=by
 rcases Int.lt_or_le x 0 with h0|h0
 ·have e1 : -x=r:=by rw [<-h];exact ((dC (x:=x)).2.2 (by omega)).symm
  have e2:wrap64 (-x)=r:=by rw [e1];exact aD (by omega) (by omega)
  clear h;go_enter func152,ntmps152;go_wp2;go_ret;exact ⟨dG (by first|exact e1|exact e2|rfl),rfl⟩
 ·have e1:x=r:=by rw [<-h];exact ((dC (x:=x)).2.1 (by omega)).symm
  subst e1;clear h;go_enter func152,ntmps152;go_wp2;go_ret;exact ⟨rfl,rfl⟩
theorem tB (ax ay az bx by' bz cx cy cz:Int) (ha:aQo ⟨ax,ay,az⟩) (hb:aQo ⟨bx,by',bz⟩) (hc:aQo ⟨cx,cy,cz⟩) (hz:(-1000000<=az/\az<=1000000)/\(-1000000<=bz/\bz<=1000000)/\(-1000000<=cz/\cz<=1000000)) (sx sy:Int) (hs:aQo ⟨sx,sy,0⟩) {r:Bool} (hr:pP ⟨ax,ay,az⟩ ⟨bx,by',bz⟩ ⟨cx,cy,cz⟩ ⟨sx,sy,0⟩=r) (w:World) :
  R_ 150 #[.agg #[ax,ay,az,bx,by',bz,cx,cy,cz],sx,sy] w (.bool r):=by
 have Ha:=aQ ha;have Hb:=aQ hb;have Hc:=aQ hc;have Hz:=hid hz;have HS:=aQ hs
 obtain ⟨d,hd⟩:∃d,aV ⟨ax,ay,az⟩ ⟨bx,by',bz⟩ ⟨cx,cy,cz⟩=d:=⟨_,rfl⟩
 have HD:=hid (show aV ⟨ax,ay,az⟩ ⟨bx,by',bz⟩ ⟨cx,cy,0⟩=d from hd);unfold pP at hr;rw [hd] at hr;have B0:=hid ((aPh w 153 [ax,ay,az,bx,by',bz,cx,cy,cz]).ext (show Ext (w.alloc (.cells #[ax,ay,az,bx,by',bz,cx,cy,cz] 153)) (w.alloc (.cells #[ax,ay,az,bx,by',bz,cx,cy,cz] 153)) from X_));have X0:=hid (show Ext w (w.alloc (.cells #[ax,ay,az,bx,by',bz,cx,cy,cz] 153)) from X_);clear ha hb hc hz hs hd;go_enter func150,ntmps150;go_wp2_with fail;refine r_ (yW _ _ _ _ _ _ _ _ _ Ha Hb Hc Hz HD _) fun w1 x1=>?_;replace B0:=hid (B0.ext x1);replace X0:=hid (X0.trans x1)
 by_cases h0:d=0
 ·subst h0
  rw [if_pos rfl] at hr;go_wp2;go_ret;exact ⟨aK hr,X0⟩
 rw [if_neg h0] at hr;have h1:(d==0)=false:=beq_eq_false_iff_ne.2 h0;go_wp2_with fail;refine z_ (aE9 HS _) ?_;have p:=B0.lt;have p0:=B0.cell 0 rfl;have p1:=B0.cell 1 rfl;have p2:=B0.cell 2 rfl;have p3:=B0.cell 3 rfl;have p4:=B0.cell 4 rfl;have p5:=B0.cell 5 rfl;have p6:=B0.cell 6 rfl;have p7:=B0.cell 7 rfl;have p8:=B0.cell 8 rfl;go_wp2_with fail;refine r_ (rF _ _ _ _ _ _ _ _ _ Ha Hb Hc Hz _) fun w2 x2=>?_;clear p p0 p1 p2 p3 p4 p5 p6 p7 p8;replace B0:=hid (B0.ext x2);replace X0:=hid (X0.trans x2);have G:=hid (aPh w2 151 [ax,ay,az,bx,by',bz,cx,cy,cz]);have yN:Ext w2 (w2.alloc (.cells #[ax,ay,az,bx,by',bz,cx,cy,cz] 151)):=X_
 by_cases h2:d<0
 ·rw [if_pos h2] at hr
  obtain ⟨b1,e1⟩:∃b,cX ⟨ax,ay,az⟩ ⟨cx,cy,cz⟩ ⟨sx,sy,0⟩=b:=⟨_,rfl⟩
  obtain ⟨b2,e2⟩:∃b,cX ⟨cx,cy,cz⟩ ⟨bx,by',bz⟩ ⟨sx,sy,0⟩=b:=⟨_,rfl⟩
  obtain ⟨b3,e3⟩:∃b,cX ⟨bx,by',bz⟩ ⟨ax,ay,az⟩ ⟨sx,sy,0⟩=b:=⟨_,rfl⟩
  rw [e1,e2,e3] at hr;have H1:=hid e1;have H2:=hid e2;have H3:=hid e3;clear e1 e2 e3;replace B0:=hid (B0.ext yN);have X:=hid (X0.trans yN);have zz:=X0.size;clear yN X0;have p:=B0.lt;have p0:=B0.cell 0 rfl;have p1:=B0.cell 1 rfl;have p2:=B0.cell 2 rfl;have p3:=B0.cell 3 rfl;have p4:=B0.cell 4 rfl;have p5:=B0.cell 5 rfl;have p6:=B0.cell 6 rfl;have p7:=B0.cell 7 rfl;have p8:=B0.cell 8 rfl;go_wp2_with fail;refine r_ (aH0 _ _ _ _ _ _ _ _ _ _) fun w3 x3=>?_;replace G:=hid (G.ext x3);replace X:=hid (X.trans x3);clear p p0 p1 p2 p3 p4 p5 p6 p7 p8;go_wp2_with fail;refine r_ (rF _ _ _ _ _ _ _ _ _ Ha Hc Hb ⟨Hz.1,Hz.2.2,Hz.2.1⟩ _) fun w4 x4=>?_;replace G:=hid (G.ext x4);replace X:=hid (X.trans x4);have g:=G.lt;have g0:=G.cell 0 rfl;have g1:=G.cell 1 rfl;have g2:=G.cell 2 rfl;have g3:=G.cell 3 rfl;have g4:=G.cell 4 rfl;have g5:=G.cell 5 rfl;have g6:=G.cell 6 rfl;have g7:=G.cell 7 rfl;have g8:=G.cell 8 rfl;have h4:=G.free 0;have h5:=G.free 1;have h6:=G.free 2;have h7:=G.free 3;have h8:=G.free 4;have h9:=G.free 5;have q0:=G.free 6;have q1:=G.free 7;have q2:=G.free 8;go_upto_region 7 with fail;have XX:=X.out
  have G5:Blk (((((((((w4.setCell ⟨w2.heap.size,0,none⟩ ax).setCell ⟨w2.heap.size,1,none⟩ ay).setCell ⟨w2.heap.size,2,none⟩ az).setCell ⟨w2.heap.size,3,none⟩ cx).setCell ⟨w2.heap.size,4,none⟩ cy).setCell ⟨w2.heap.size,5,none⟩ cz).setCell ⟨w2.heap.size,6,none⟩ bx).setCell ⟨w2.heap.size,7,none⟩ by').setCell ⟨w2.heap.size,8,none⟩ bz) w2.heap.size 151 [ax,ay,az,cx,cy,cz,bx,by',bz]:=(((((((((G.set 0 (.int .i64 ax)).set 1 (.int .i64 ay)).set 2 (.int .i64 az)).set 3 (.int .i64 cx)).set 4 (.int .i64 cy)).set 5 (.int .i64 cz)).set 6 (.int .i64 bx)).set 7 (.int .i64 by')).set 8 (.int .i64 bz))
  have X5:Ext w (((((((((w4.setCell ⟨w2.heap.size,0,none⟩ ax).setCell ⟨w2.heap.size,1,none⟩ ay).setCell ⟨w2.heap.size,2,none⟩ az).setCell ⟨w2.heap.size,3,none⟩ cx).setCell ⟨w2.heap.size,4,none⟩ cy).setCell ⟨w2.heap.size,5,none⟩ cz).setCell ⟨w2.heap.size,6,none⟩ bx).setCell ⟨w2.heap.size,7,none⟩ by').setCell ⟨w2.heap.size,8,none⟩ bz):=S_
  obtain ⟨W5,h3⟩:∃W,(((((((((w4.setCell ⟨w2.heap.size,0,none⟩ ax).setCell ⟨w2.heap.size,1,none⟩ ay).setCell ⟨w2.heap.size,2,none⟩ az).setCell ⟨w2.heap.size,3,none⟩ cx).setCell ⟨w2.heap.size,4,none⟩ cy).setCell ⟨w2.heap.size,5,none⟩ cz).setCell ⟨w2.heap.size,6,none⟩ bx).setCell ⟨w2.heap.size,7,none⟩ by').setCell ⟨w2.heap.size,8,none⟩ bz)=W:=⟨_,rfl⟩
  rw [h3] at G5 X5 ⊢;clear h3 XX g g0 g1 g2 g3 g4 g5 g6 g7 g8 h4 h5 h6 h7 h8 h9 q0 q1 q2 x4 x3;replace G:=hid G5;replace X:=hid X5;clear G5 X5;have g:=G.lt;have g0:=G.cell 0 rfl;have g1:=G.cell 1 rfl;have g2:=G.cell 2 rfl;have g3:=G.cell 3 rfl;have g4:=G.cell 4 rfl;have g5:=G.cell 5 rfl;have g6:=G.cell 6 rfl;have g7:=G.cell 7 rfl;have g8:=G.cell 8 rfl;go_wp2_with fail;refine r_ (fY _ _ _ _ _ _ Ha Hc HS H1 _) fun u1 zu1=>?_;replace G:=hid (G.ext zu1);replace X:=hid (X.trans zu1);clear g g0 g1 g2 g3 g4 g5 g6 g7 g8
  cases b1
  ·go_wp2
   go_ret;exact ⟨aK (by simpa using hr),X⟩
  have g:=G.lt;have g0:=G.cell 0 rfl;have g1:=G.cell 1 rfl;have g2:=G.cell 2 rfl;have g3:=G.cell 3 rfl;have g4:=G.cell 4 rfl;have g5:=G.cell 5 rfl;have g6:=G.cell 6 rfl;have g7:=G.cell 7 rfl;have g8:=G.cell 8 rfl;go_wp2_with fail;refine r_ (fY _ _ _ _ _ _ Hc Hb HS H2 _) fun u2 zu2=>?_;replace G:=hid (G.ext zu2);replace X:=hid (X.trans zu2);clear g g0 g1 g2 g3 g4 g5 g6 g7 g8
  cases b2
  ·go_wp2
   go_ret;exact ⟨aK (by simpa using hr),X⟩
  have g:=G.lt;have g0:=G.cell 0 rfl;have g1:=G.cell 1 rfl;have g2:=G.cell 2 rfl;have g3:=G.cell 3 rfl;have g4:=G.cell 4 rfl;have g5:=G.cell 5 rfl;have g6:=G.cell 6 rfl;have g7:=G.cell 7 rfl;have g8:=G.cell 8 rfl;go_wp2_with fail;refine r_ (fY _ _ _ _ _ _ Hb Ha HS H3 _) fun u3 zu3=>?_;go_wp2;go_ret;exact ⟨aK (by simpa using hr),X.trans zu3⟩
 ·rw [if_neg h2] at hr
  obtain ⟨b1,e1⟩:∃b,cX ⟨ax,ay,az⟩ ⟨bx,by',bz⟩ ⟨sx,sy,0⟩=b:=⟨_,rfl⟩
  obtain ⟨b2,e2⟩:∃b,cX ⟨bx,by',bz⟩ ⟨cx,cy,cz⟩ ⟨sx,sy,0⟩=b:=⟨_,rfl⟩
  obtain ⟨b3,e3⟩:∃b,cX ⟨cx,cy,cz⟩ ⟨ax,ay,az⟩ ⟨sx,sy,0⟩=b:=⟨_,rfl⟩
  rw [e1,e2,e3] at hr;have H1:=hid e1;have H2:=hid e2;have H3:=hid e3;clear e1 e2 e3;have X:=hid (X0.trans yN);clear yN X0 B0;have g:=G.lt;have g0:=G.cell 0 rfl;have g1:=G.cell 1 rfl;have g2:=G.cell 2 rfl;have g3:=G.cell 3 rfl;have g4:=G.cell 4 rfl;have g5:=G.cell 5 rfl;have g6:=G.cell 6 rfl;have g7:=G.cell 7 rfl;have g8:=G.cell 8 rfl;go_wp2_with fail;refine r_ (fY _ _ _ _ _ _ Ha Hb HS H1 _) fun u1 zu1=>?_;replace G:=hid (G.ext zu1);replace X:=hid (X.trans zu1);clear g g0 g1 g2 g3 g4 g5 g6 g7 g8
  cases b1
  ·go_wp2
   go_ret;exact ⟨aK (by simpa using hr),X⟩
  have g:=G.lt;have g0:=G.cell 0 rfl;have g1:=G.cell 1 rfl;have g2:=G.cell 2 rfl;have g3:=G.cell 3 rfl;have g4:=G.cell 4 rfl;have g5:=G.cell 5 rfl;have g6:=G.cell 6 rfl;have g7:=G.cell 7 rfl;have g8:=G.cell 8 rfl;go_wp2_with fail;refine r_ (fY _ _ _ _ _ _ Hb Hc HS H2 _) fun u2 zu2=>?_;replace G:=hid (G.ext zu2);replace X:=hid (X.trans zu2);clear g g0 g1 g2 g3 g4 g5 g6 g7 g8
  cases b2
  ·go_wp2
   go_ret;exact ⟨aK (by simpa using hr),X⟩
  have g:=G.lt;have g0:=G.cell 0 rfl;have g1:=G.cell 1 rfl;have g2:=G.cell 2 rfl;have g3:=G.cell 3 rfl;have g4:=G.cell 4 rfl;have g5:=G.cell 5 rfl;have g6:=G.cell 6 rfl;have g7:=G.cell 7 rfl;have g8:=G.cell 8 rfl;go_wp2_with fail;refine r_ (fY _ _ _ _ _ _ Hc Ha HS H3 _) fun u3 zu3=>?_;go_wp2;go_ret;exact ⟨aK (by simpa using hr),X.trans zu3⟩
theorem aH1 (ax ay az bx by' bz cx cy cz:Int) (ha:aQo ⟨ax,ay,az⟩) (hb:aQo ⟨bx,by',bz⟩) (hc:aQo ⟨cx,cy,cz⟩) (hz:(-1000000<=az/\az<=1000000)/\(-1000000<=bz/\bz<=1000000)/\(-1000000<=cz/\cz<=1000000)) (sx sy:Int) (hs:aQo ⟨sx,sy,0⟩) (hr:pP ⟨ax,ay,az⟩ ⟨bx,by',bz⟩ ⟨cx,cy,cz⟩ ⟨sx,sy,0⟩=false) (w:World) :
  R_ 100 #[.agg #[ax,ay,az,bx,by',bz,cx,cy,cz],sx,sy] w (.tuple #[(),.bool false]):=by
 have Ha:=aQ ha;have Hb:=aQ hb;have Hc:=aQ hc;have Hz:=hid hz;have HS:=aQ hs;have HR:=hid hr;clear ha hb hc hz hs hr;have B0:=hid ((aPh w 153 [ax,ay,az,bx,by',bz,cx,cy,cz]).ext (show Ext (w.alloc (.cells #[ax,ay,az,bx,by',bz,cx,cy,cz] 153)) (w.alloc (.cells #[ax,ay,az,bx,by',bz,cx,cy,cz] 153)) from X_));have X0:=hid (show Ext w (w.alloc (.cells #[ax,ay,az,bx,by',bz,cx,cy,cz] 153)) from X_);go_enter func100,ntmps100;go_wp2_with fail;refine r_ (tB _ _ _ _ _ _ _ _ _ Ha Hb Hc Hz _ _ HS HR _) fun w1 x1=>?_;go_wp2;exact bodyPost_ret (v:=.tuple #[(),.bool false]) (by simp [results,results100,go_sem, *]) rfl ⟨rfl,X0.trans x1⟩
theorem oI {a b s:V3} (ha:a.scr) (hb:b.scr) (hs:s.scr) : -100000000000<=aV a b s/\aV a b s<=100000000000:=by
 have h:=qS ha hb hs;unfold aV;omega
theorem aFa (ax ay az bx by' bz cx cy cz:Int) (ha:aQo ⟨ax,ay,az⟩) (hb:aQo ⟨bx,by',bz⟩) (hc:aQo ⟨cx,cy,cz⟩) (hz:(-1000000<=az/\az<=1000000)/\(-1000000<=bz/\bz<=1000000)/\(-1000000<=cz/\cz<=1000000)) (sx sy:Int) (hs:aQo ⟨sx,sy,0⟩) (hr:pP ⟨ax,ay,az⟩ ⟨bx,by',bz⟩ ⟨cx,cy,cz⟩ ⟨sx,sy,0⟩=true) (hd:dX ⟨ax,ay,az⟩ ⟨bx,by',bz⟩ ⟨cx,cy,cz⟩ ⟨sx,sy,0⟩=r) (w:World) :
  R_ 100 #[.agg #[ax,ay,az,bx,by',bz,cx,cy,cz],sx,sy] w (.tuple #[r,.bool true]):=by
 have Ha:=aQ ha;have Hb:=aQ hb;have Hc:=aQ hc;have Hz:=hid hz;have HS:=aQ hs;have HR:=hid hr;unfold dX at hd;simp only at hd
 obtain ⟨n,en⟩:∃d,aV ⟨ax,ay,az⟩ ⟨bx,by',bz⟩ ⟨cx,cy,cz⟩=d:=⟨_,rfl⟩
 obtain ⟨s1,e1⟩:∃d,aV ⟨bx,by',bz⟩ ⟨cx,cy,cz⟩ ⟨sx,sy,0⟩=d:=⟨_,rfl⟩
 obtain ⟨s2,e2⟩:∃d,aV ⟨cx,cy,cz⟩ ⟨ax,ay,az⟩ ⟨sx,sy,0⟩=d:=⟨_,rfl⟩
 obtain ⟨s3,e3⟩:∃d,aV ⟨ax,ay,az⟩ ⟨bx,by',bz⟩ ⟨sx,sy,0⟩=d:=⟨_,rfl⟩
 have gn:=oI ha hb hc;have g1:=oI hb hc hs;have g2:=oI hc ha hs;have g3:=oI ha hb hs;have h0:=aIj hr;rw [en,e1,e2,e3] at h0 hd;rw [en] at gn;rw [e1] at g1;rw [e2] at g2;rw [e3] at g3
 obtain ⟨an,fn⟩:∃d,fH n=d:=⟨_,rfl⟩
 obtain ⟨a1,f1⟩:∃d,fH s1=d:=⟨_,rfl⟩
 obtain ⟨a2,f2⟩:∃d,fH s2=d:=⟨_,rfl⟩
 obtain ⟨a3,f3⟩:∃d,fH s3=d:=⟨_,rfl⟩
 have k1:=(dC (x:=s1)).1;have k2:=(dC (x:=s2)).1;have k3:=(dC (x:=s3)).1
 have kn:an<=100000000000:=by
  rcases Int.le_total 0 n with h|h
  ·have:=(dC (x:=n)).2.1 h;omega
  ·have:=(dC (x:=n)).2.2 h;omega
 rw [fn,f1,f2,f3] at h0;rw [f1] at k1;rw [f2] at k2;rw [f3] at k3;rw [fn,f1,f2,f3] at hd
 obtain ⟨q1,i1⟩:∃q,az*a1=q:=⟨_,rfl⟩
 obtain ⟨q2,i2⟩:∃q,bz*a2=q:=⟨_,rfl⟩
 obtain ⟨q3,i3⟩:∃q,cz*a3=q:=⟨_,rfl⟩
 have j1:=bJ (A:=1000000) (B:=100000000000) (a:=az) (b:=a1) hz.1 (by omega);have j2:=bJ (A:=1000000) (B:=100000000000) (a:=bz) (b:=a2) hz.2.1 (by omega);have j3:=bJ (A:=1000000) (B:=100000000000) (a:=cz) (b:=a3) hz.2.2 (by omega);rw [i1] at j1 hd;rw [i2] at j2 hd;rw [i3] at j3 hd;have w1:=hid (show wrap64 (az*a1)=q1 by rw [i1];exact aD (by omega) (by omega));have w2:=hid (show wrap64 (bz*a2)=q2 by rw [i2];exact aD (by omega) (by omega));have w3:=hid (show wrap64 (cz*a3)=q3 by rw [i3];exact aD (by omega) (by omega));have w4:=hid (show wrap64 (q1+q2)=q1+q2 from aD (by omega) (by omega));have w5:=hid (show wrap64 (q1+q2+q3)=q1+q2+q3 from aD (by omega) (by omega));have I9:=hid (show I64 (q1+q2+q3) from I64.of (m:=400000000000000000) (by omega) (by decide));have HN:=hid (show aV ⟨ax,ay,az⟩ ⟨bx,by',bz⟩ ⟨cx,cy,0⟩=n from en);have H1:=hid e1;have H2:=hid e2;have H3:=hid e3;have FN:=hid fn;have F1:=hid f1;have F2:=hid f2;have F3:=hid f3;have GN:=hid gn;have G1:=hid g1;have G2:=hid g2;have G3:=hid g3;have HD:=hid hd;clear ha hb hc hz hs hr hd en e1 e2 e3 fn f1 f2 f3 gn g1 g2 g3 h0 i1 i2 i3 j1 j2 j3 k1 k2 k3 kn;have B0:=hid ((aPh w 153 [ax,ay,az,bx,by',bz,cx,cy,cz]).ext (show Ext (w.alloc (.cells #[ax,ay,az,bx,by',bz,cx,cy,cz] 153)) (w.alloc (.cells #[ax,ay,az,bx,by',bz,cx,cy,cz] 153)) from X_));have X0:=hid (show Ext w (w.alloc (.cells #[ax,ay,az,bx,by',bz,cx,cy,cz] 153)) from X_);go_enter func100,ntmps100;go_wp2_with fail;refine r_ (tB _ _ _ _ _ _ _ _ _ Ha Hb Hc Hz _ _ HS HR _) fun v1 x1=>?_;replace B0:=hid (B0.ext x1);replace X0:=hid (X0.trans x1);have p:=B0.lt;have p0:=B0.cell 0 rfl;have p1:=B0.cell 1 rfl;have p2:=B0.cell 2 rfl;have p3:=B0.cell 3 rfl;have p4:=B0.cell 4 rfl;have p5:=B0.cell 5 rfl;have p6:=B0.cell 6 rfl;have p7:=B0.cell 7 rfl;have p8:=B0.cell 8 rfl;go_wp2_with fail;refine r_ (rF _ _ _ _ _ _ _ _ _ Ha Hb Hc Hz _) fun v2 x2=>?_;clear p p0 p1 p2 p3 p4 p5 p6 p7 p8;replace B0:=hid (B0.ext x2);replace X0:=hid (X0.trans x2);have G:=hid (aPh v2 151 [ax,ay,az,bx,by',bz,cx,cy,cz]);have yN:Ext v2 (v2.alloc (.cells #[ax,ay,az,bx,by',bz,cx,cy,cz] 151)):=X_;replace B0:=hid (B0.ext yN);replace X0:=hid (X0.trans yN);clear yN x1 x2;have p:=B0.lt;have p0:=B0.cell 0 rfl;have p1:=B0.cell 1 rfl;have p2:=B0.cell 2 rfl;have p3:=B0.cell 3 rfl;have p4:=B0.cell 4 rfl;have p5:=B0.cell 5 rfl;have p6:=B0.cell 6 rfl;have p7:=B0.cell 7 rfl;have p8:=B0.cell 8 rfl;go_wp2_with fail;refine r_ (yW _ _ _ _ _ _ _ _ _ Ha Hb Hc Hz HN _) fun v3 x3=>?_;replace G:=hid (G.ext x3);replace X0:=hid (X0.trans x3);clear p p0 p1 p2 p3 p4 p5 p6 p7 p8;go_wp2_with fail;refine z_ (rG GN FN _) ?_;have g:=G.lt;have g0:=G.cell 0 rfl;have g1:=G.cell 1 rfl;have g2:=G.cell 2 rfl;have g3:=G.cell 3 rfl;have g4:=G.cell 4 rfl;have g5:=G.cell 5 rfl;have g6:=G.cell 6 rfl;have g7:=G.cell 7 rfl;have g8:=G.cell 8 rfl;go_wp2_with fail;refine r_ (hH _ _ _ _ _ _ Hb Hc HS H1 _) fun v5 x5=>?_;replace G:=hid (G.ext x5);replace X0:=hid (X0.trans x5);clear g g0 g1 g2 g3 g4 g5 g6 g7 g8;go_wp2_with fail;refine z_ (rG G1 F1 _) ?_;have g:=G.lt;have g0:=G.cell 0 rfl;have g1:=G.cell 1 rfl;have g2:=G.cell 2 rfl;have g3:=G.cell 3 rfl;have g4:=G.cell 4 rfl;have g5:=G.cell 5 rfl;have g6:=G.cell 6 rfl;have g7:=G.cell 7 rfl;have g8:=G.cell 8 rfl;go_wp2_with fail;refine r_ (hH _ _ _ _ _ _ Hc Ha HS H2 _) fun v6 x6=>?_;replace G:=hid (G.ext x6);replace X0:=hid (X0.trans x6);clear g g0 g1 g2 g3 g4 g5 g6 g7 g8;go_wp2_with fail;refine z_ (rG G2 F2 _) ?_;have g:=G.lt;have g0:=G.cell 0 rfl;have g1:=G.cell 1 rfl;have g2:=G.cell 2 rfl;have g3:=G.cell 3 rfl;have g4:=G.cell 4 rfl;have g5:=G.cell 5 rfl;have g6:=G.cell 6 rfl;have g7:=G.cell 7 rfl;have g8:=G.cell 8 rfl;go_wp2_with fail;refine r_ (hH _ _ _ _ _ _ Ha Hb HS H3 _) fun v7 x7=>?_;replace G:=hid (G.ext x7);replace X0:=hid (X0.trans x7);clear g g0 g1 g2 g3 g4 g5 g6 g7 g8;go_wp2_with fail;refine z_ (rG G3 F3 _) ?_;have g:=G.lt;have g0:=G.cell 0 rfl;have g1:=G.cell 1 rfl;have g2:=G.cell 2 rfl;have g3:=G.cell 3 rfl;have g4:=G.cell 4 rfl;have g5:=G.cell 5 rfl;have g6:=G.cell 6 rfl;have g7:=G.cell 7 rfl;have g8:=G.cell 8 rfl;have u1:=w1.out;have u2:=w2.out;have u3:=w3.out;have u4:=w4.out;have u5:=w5.out;go_wp2_with fail;refine z_ (aR I9 HD _) ?_;go_wp2;exact bodyPost_ret (v:=.tuple #[r,.bool true]) (by simp [results,results100,go_sem, *]) rfl ⟨rfl,X0⟩
theorem oJ (x y z k l m t:Int) (ht:0<=t/\t<=16) (w:World) :
  R_ 204 #[.agg #[x,y,z],.agg #[k,l,m],t,.int .i64 16] w (.agg #[(fV x k t 16),(fV y l t 16),(fV z m t 16)]):=by
 obtain ⟨ux,h3⟩:∃r,cl x=r:=⟨_,rfl⟩
 have h9:=cI x;rw [h3] at h9
 obtain ⟨uy,h4⟩:∃r,cl y=r:=⟨_,rfl⟩
 have q4:=cI y;rw [h4] at q4
 obtain ⟨uz,h5⟩:∃r,cl z=r:=⟨_,rfl⟩
 have q5:=cI z;rw [h5] at q5
 obtain ⟨uk,h0⟩:∃r,cl k=r:=⟨_,rfl⟩
 have h6:=cI k;rw [h0] at h6
 obtain ⟨ul,h1⟩:∃r,cl l=r:=⟨_,rfl⟩
 have h7:=cI l;rw [h1] at h7
 obtain ⟨um,h2⟩:∃r,cl m=r:=⟨_,rfl⟩
 have h8:=cI m;rw [h2] at h8;have p0:=bJ (A:=1000000) (B:=16) (a:=ux) (b:=16 - t) h9 (by omega)
 obtain ⟨q0,e0⟩:∃r,ux*(16 - t)=r:=⟨_,rfl⟩
 rw [e0] at p0;have r0:=bJ (A:=1000000) (B:=16) (a:=uk) (b:=t) h6 (by omega)
 obtain ⟨s0,g0⟩:∃r,uk*t=r:=⟨_,rfl⟩
 rw [g0] at r0
 obtain ⟨v0,q6⟩:∃r,fV x k t 16=r:=⟨_,rfl⟩
 rw [q6];have F0:=hid (show bD (q0+s0) 16=v0 by rw [<-q6];unfold fV;rw [h3,h0,e0,g0]);have M0:=hid (show wrap64 (ux*(16 - t))=q0 by rw [e0];exact aD (by omega) (by omega));have N0:=hid (show wrap64 (uk*t)=s0 by rw [g0];exact aD (by omega) (by omega));have S0:=hid (show wrap64 (q0+s0)=q0+s0 from aD (by omega) (by omega));have I0:=hid (I64.of (n:=q0+s0) (m:=40000000) (by omega) (by decide));have p1:=bJ (A:=1000000) (B:=16) (a:=uy) (b:=16 - t) q4 (by omega)
 obtain ⟨q1,e1⟩:∃r,uy*(16 - t)=r:=⟨_,rfl⟩
 rw [e1] at p1;have r1:=bJ (A:=1000000) (B:=16) (a:=ul) (b:=t) h7 (by omega)
 obtain ⟨s1,g1⟩:∃r,ul*t=r:=⟨_,rfl⟩
 rw [g1] at r1
 obtain ⟨v1,q7⟩:∃r,fV y l t 16=r:=⟨_,rfl⟩
 rw [q7];have F1:=hid (show bD (q1+s1) 16=v1 by rw [<-q7];unfold fV;rw [h4,h1,e1,g1]);have M1:=hid (show wrap64 (uy*(16 - t))=q1 by rw [e1];exact aD (by omega) (by omega));have N1:=hid (show wrap64 (ul*t)=s1 by rw [g1];exact aD (by omega) (by omega));have S1:=hid (show wrap64 (q1+s1)=q1+s1 from aD (by omega) (by omega));have I1:=hid (I64.of (n:=q1+s1) (m:=40000000) (by omega) (by decide));have p2:=bJ (A:=1000000) (B:=16) (a:=uz) (b:=16 - t) q5 (by omega)
 obtain ⟨q2,e2⟩:∃r,uz*(16 - t)=r:=⟨_,rfl⟩
 rw [e2] at p2;have r2:=bJ (A:=1000000) (B:=16) (a:=um) (b:=t) h8 (by omega)
 obtain ⟨s2,g2⟩:∃r,um*t=r:=⟨_,rfl⟩
 rw [g2] at r2
 obtain ⟨v2,q8⟩:∃r,fV z m t 16=r:=⟨_,rfl⟩
 rw [q8];have F2:=hid (show bD (q2+s2) 16=v2 by rw [<-q8];unfold fV;rw [h5,h2,e2,g2]);have M2:=hid (show wrap64 (uz*(16 - t))=q2 by rw [e2];exact aD (by omega) (by omega));have N2:=hid (show wrap64 (um*t)=s2 by rw [g2];exact aD (by omega) (by omega));have S2:=hid (show wrap64 (q2+s2)=q2+s2 from aD (by omega) (by omega));have I2:=hid (I64.of (n:=q2+s2) (m:=40000000) (by omega) (by decide));have x5:=hid h3;have x6:=hid h4;have x7:=hid h5;have q9:=hid h0;have x3:=hid h1;have x4:=hid h2;have T0:=hid (show wrap64 (16 - t)=16 - t from aD (by omega) (by omega));clear h3 h9 h4 q4 h5 q5 h0 h6 h1 h7 h2 h8 p0 e0 r0 g0 q6 p1 e1 r1 g1 q7 p2 e2 r2 g2 q8;have J1:=hid (show inB 16 1 4096=true from rfl);have J2:=hid (aG.2 (show (0:Int)<=t/\t<=16 from ht));clear ht;have B0:=hid ((aPh w 122 [x,y,z]).ext (show Ext (w.alloc (.cells #[x,y,z] 122)) (((w.alloc (.cells #[x,y,z] 122)).alloc (.cells #[k,l,m] 122)).alloc (.cells #[(),(),()] 122)) from X_));have B1:=hid (show Blk (((w.alloc (.cells #[x,y,z] 122)).alloc (.cells #[k,l,m] 122)).alloc (.cells #[(),(),()] 122)) (w.heap.size+1) 122 [k,l,m] from by have q:=(aPh (w.alloc (.cells #[x,y,z] 122)) 122 [k,l,m]).ext (show Ext ((w.alloc (.cells #[x,y,z] 122)).alloc (.cells #[k,l,m] 122)) (((w.alloc (.cells #[x,y,z] 122)).alloc (.cells #[k,l,m] 122)).alloc (.cells #[(),(),()] 122)) from X_);simp only [aO6] at q;exact q);have B2:=hid (show Blk (((w.alloc (.cells #[x,y,z] 122)).alloc (.cells #[k,l,m] 122)).alloc (.cells #[(),(),()] 122)) (w.heap.size+2) 122 [(),(),()] from by have q:=(aPh ((w.alloc (.cells #[x,y,z] 122)).alloc (.cells #[k,l,m] 122)) 122 [(),(),()]).ext (show Ext (((w.alloc (.cells #[x,y,z] 122)).alloc (.cells #[k,l,m] 122)).alloc (.cells #[(),(),()] 122)) (((w.alloc (.cells #[x,y,z] 122)).alloc (.cells #[k,l,m] 122)).alloc (.cells #[(),(),()] 122)) from X_);simp only [aO6] at q;exact q);have X0:=hid (show Ext w (((w.alloc (.cells #[x,y,z] 122)).alloc (.cells #[k,l,m] 122)).alloc (.cells #[(),(),()] 122)) from X_);go_enter func204,ntmps204;go_wp2_with fail;refine r_ (iQ x5 x6 x7 _) fun w1 x1=>?_;replace B0:=hid (B0.ext x1);replace B1:=hid (B1.ext x1);replace B2:=hid (B2.ext x1);replace X0:=hid (X0.trans x1);have b:=B1.lt;obtain ⟨b0,b1,b2⟩:=B1.q3;have z1:=X0.size;go_wp2_with fail;refine r_ (iQ q9 x3 x4 _) fun w2 x2=>?_;have D1:=(aPh w1 122 [ux,uy,uz]).ext x2;have y1:Ext w1 w2:=aPc X_ x2;clear b0 b1 b2 b;replace B0:=hid (B0.ext y1);replace B1:=hid (B1.ext y1);replace B2:=hid (B2.ext y1);replace X0:=hid (X0.trans y1);have a:=D1.lt;obtain ⟨a0,a1,a2⟩:=D1.q3;have r:=B2.lt;obtain ⟨r0,r1,r2⟩:=B2.q3;have x8:=B2.free 0;have x9:=B2.free 1;have z0:=B2.free 2;have z2:=X0.size;have z3:=y1.size;have x0:=X0.out;clear D1 x2 y1 x1;go_wp2_with fail;refine z_ (aE J1 _) ?_;go_wp2_with fail;refine z_ (aE J2 _) ?_;have t0:=T0.out;have m0:=M0.out;have n0:=N0.out;have z4:=S0.out;have m1:=M1.out;have n1:=N1.out;have z5:=S1.out;have m2:=M2.out;have n2:=N2.out;have z6:=S2.out;go_wp2_with fail;refine aA [([0,1,2,3,4,5,6,7,8,9,10,11,13,14,15,16,17,18,19,20,21,22,23,24,26,27,28,29,30,31,32,33,34,35,36,37],12),([],25),([],38),([39],40)] 40 (w2.heap.size+1) (by kernel_rfl) (by kernel_rfl) ?_;refine st_ fun K hK=>?_;go_wp2_with fail;refine z_ (aR I0 F0 _) ?_;go_wp2_with fail;refine k_ hK ?_;clear hK K;refine st_ fun K hK=>?_;go_wp2_with fail;refine z_ (aR I1 F1 _) ?_;go_wp2_with fail;refine k_ hK ?_;clear hK K;refine st_ fun K hK=>?_;go_wp2_with fail;refine z_ (aR I2 F2 _) ?_;go_wp2_with fail;refine k_ hK ?_;clear hK K;refine st_ fun K hK=>?_;go_wp2_with fail;refine l_ hK ?_;clear hK K;refine aC ?_;go_wp2;exact bodyPost_ret (v:=.agg #[v0,v1,v2]) (by simp [results,results204,go_sem, *]) rfl ⟨rfl,S_⟩
def aOh (f g:Nat->Int) (t:Int) (j:Nat):List Value:=(aPu 12).map fun i=>.int .i64 (if i<3*j then aW f g t i else f i)
theorem aJv (f g:Nat->Int) (t:Int) (ht:0<=t/\t<=16) (w:World) :
  R_ 149 #[.agg f,.agg g,t] w (.agg (aW f g t)):=by
 have HT:=hid ht;have J2:=hid (aG.2 (show (0:Int)<=t/\t<=16 from ht));clear ht;have B0:=hid ((aPh w 125 f).ext (show Ext (w.alloc (.cells f 125)) ((((w.alloc (.cells f 125)).alloc (.cells g 125)).alloc (.cells #[(),(),(),(),(),(),(),(),(),(),(),()] 125)).alloc (.cells f 125)) from X_));have B1:=hid (show Blk ((((w.alloc (.cells f 125)).alloc (.cells g 125)).alloc (.cells #[(),(),(),(),(),(),(),(),(),(),(),()] 125)).alloc (.cells f 125)) (w.heap.size+1) 125 g from by have q:=(aPh (w.alloc (.cells f 125)) 125 g).ext (show Ext ((w.alloc (.cells f 125)).alloc (.cells g 125)) ((((w.alloc (.cells f 125)).alloc (.cells g 125)).alloc (.cells #[(),(),(),(),(),(),(),(),(),(),(),()] 125)).alloc (.cells f 125)) from X_);simp only [aO6] at q;exact q);have B2:=hid (show Blk ((((w.alloc (.cells f 125)).alloc (.cells g 125)).alloc (.cells #[(),(),(),(),(),(),(),(),(),(),(),()] 125)).alloc (.cells f 125)) (w.heap.size+2) 125 [(),(),(),(),(),(),(),(),(),(),(),()] from by have q:=(aPh ((w.alloc (.cells f 125)).alloc (.cells g 125)) 125 [(),(),(),(),(),(),(),(),(),(),(),()]).ext (show Ext (((w.alloc (.cells f 125)).alloc (.cells g 125)).alloc (.cells #[(),(),(),(),(),(),(),(),(),(),(),()] 125)) ((((w.alloc (.cells f 125)).alloc (.cells g 125)).alloc (.cells #[(),(),(),(),(),(),(),(),(),(),(),()] 125)).alloc (.cells f 125)) from X_);simp only [aO6] at q;exact q);have B3:=hid (show Blk ((((w.alloc (.cells f 125)).alloc (.cells g 125)).alloc (.cells #[(),(),(),(),(),(),(),(),(),(),(),()] 125)).alloc (.cells f 125)) (w.heap.size+3) 125 f from by have q:=(aPh (((w.alloc (.cells f 125)).alloc (.cells g 125)).alloc (.cells #[(),(),(),(),(),(),(),(),(),(),(),()] 125)) 125 f).ext (show Ext ((((w.alloc (.cells f 125)).alloc (.cells g 125)).alloc (.cells #[(),(),(),(),(),(),(),(),(),(),(),()] 125)).alloc (.cells f 125)) ((((w.alloc (.cells f 125)).alloc (.cells g 125)).alloc (.cells #[(),(),(),(),(),(),(),(),(),(),(),()] 125)).alloc (.cells f 125)) from X_);simp only [aO6] at q;exact q);have X0:=hid (show Ext w ((((w.alloc (.cells f 125)).alloc (.cells g 125)).alloc (.cells #[(),(),(),(),(),(),(),(),(),(),(),()] 125)).alloc (.cells f 125)) from X_);go_enter func149,ntmps149;go_wp2_with fail;refine z_ (aE J2 _) ?_;go_wp2_with fail
 obtain ⟨W,hW⟩:∃W,((((w.alloc (.cells f 125)).alloc (.cells g 125)).alloc (.cells #[(),(),(),(),(),(),(),(),(),(),(),()] 125)).alloc (.cells f 125))=W:=⟨_,rfl⟩
 try simp only [aO6]
 rw [hW];rw [hW] at B0 B1 B2 B3 X0;clear hW
 go_loopw [14] (fun i wr=>∃j:Nat,j<=4/\i = .int .i64 (j:Nat)/\Ext w wr/\Blk wr w.heap.size 125 f/\Blk wr (w.heap.size+1) 125 g/\Blk wr (w.heap.size+2) 125 [(),(),(),(),(),(),(),(),(),(),(),()]/\Blk wr (w.heap.size+3) 125 (aOh f g t j)) (fun i _=>4 - (intOf i).toNat)
 case atStart=>exact ⟨0,by omega,rfl,X0,B0,B1,B2,B3⟩
 case round=>
  obtain ⟨j,hj,rfl,hx,h0,h1,h2,h3⟩:=hrel;clear B0 B1 B2 B3 X0;have X0:=hid hx;have B0:=hid h0;have B1:=hid h1;have B2:=hid h2;have B3:=hid h3;clear hx h0 h1 h2 h3
  rcases (show j=0\/j=1\/j=2\/j=3\/j=4 by omega) with rfl|rfl|rfl|rfl|rfl
  ·replace B3:=hid (show Blk wr (w.heap.size+3) 125 f from B3)
   have p:=B0.lt;obtain ⟨p0,p1,p2,p3,p4,p5,p6,p7,p8,p9,z0,z1⟩:=B0.q12;have q:=B1.lt;obtain ⟨q0,q1,q2,q3,q4,q5,q6,q7,q8,q9,z2,z4⟩:=B1.q12;have r:=B3.lt;obtain ⟨r0,r1,r2,r3,r4,r5,r6,r7,r8,r9,h6,h7⟩:=B3.q12;have h8:=B3.free 0;have h9:=B3.free 1;have x1:=B3.free 2;have x2:=B3.free 3;have x3:=B3.free 4;have x4:=B3.free 5;have x6:=B3.free 6;have x7:=B3.free 7;have x8:=B3.free 8;have x9:=B3.free 9;have h4:=B3.free 10;have h5:=B3.free 11;have zs:=X0.size;have z3:=B3.lt;go_wp2_with fail;refine aA [([0,1,2,3,4,5,6,7,8,9,11],10),([12],13)] 99 (w.heap.size+3) (by kernel_rfl) (by kernel_rfl) ?_;refine st_ fun K hK=>?_;go_wp2_with fail;refine r_ (oJ _ _ _ _ _ _ t HT _) fun w5 x5=>?_;have y5:Ext wr w5:=aPc (aP9 (aPg _)) x5;go_wp2_with fail;refine hK _ _ (.inr (fun k _ hk=>y5.block (by first|omega|(simp;omega)))) ?_;clear hK K;clear r r0 r1 r2 r3 r4 r5 r6 r7 r8 r9 h6 h7 h8 h9 x1 x2 x3 x4 x6 x7 x8 x9 h4 h5;have C3:=B3.ext y5;have r:=C3.lt;obtain ⟨r0,r1,r2,r3,r4,r5,r6,r7,r8,r9,h6,h7⟩:=C3.q12;have h8:=C3.free 0;have h9:=C3.free 1;have x1:=C3.free 2;have x2:=C3.free 3;have x3:=C3.free 4;have x4:=C3.free 5;have x6:=C3.free 6;have x7:=C3.free 7;have x8:=C3.free 8;have x9:=C3.free 9;have h4:=C3.free 10;have h5:=C3.free 11;refine st_ fun K hK=>?_;go_wp2_with fail;have D:=hid (((C3.set 0 (.int .i64 (aW f g t 0))).set 1 (.int .i64 (aW f g t 1))).set 2 (.int .i64 (aW f g t 2)));have e0:=hid (((B0.ext y5).other (a:=⟨w.heap.size+3,0,none⟩) (by simp) (.int .i64 (aW f g t 0))).other (a:=⟨w.heap.size+3,1,none⟩) (by simp) (.int .i64 (aW f g t 1)) |>.other (a:=⟨w.heap.size+3,2,none⟩) (by simp) (.int .i64 (aW f g t 2)));have e1:=hid (((B1.ext y5).other (a:=⟨w.heap.size+3,0,none⟩) (by simp) (.int .i64 (aW f g t 0))).other (a:=⟨w.heap.size+3,1,none⟩) (by simp) (.int .i64 (aW f g t 1)) |>.other (a:=⟨w.heap.size+3,2,none⟩) (by simp) (.int .i64 (aW f g t 2)));have e2:=hid (((B2.ext y5).other (a:=⟨w.heap.size+3,0,none⟩) (by simp) (.int .i64 (aW f g t 0))).other (a:=⟨w.heap.size+3,1,none⟩) (by simp) (.int .i64 (aW f g t 1)) |>.other (a:=⟨w.heap.size+3,2,none⟩) (by simp) (.int .i64 (aW f g t 2)));have ex:=hid (aPm (aPm (aPm (X0.trans y5) (by simp) _) (by simp) _) (by simp) _:Ext w (((w5.setCell ⟨w.heap.size+3,0,none⟩ (aW f g t 0)).setCell ⟨w.heap.size+3,1,none⟩ (aW f g t 1)).setCell ⟨w.heap.size+3,2,none⟩ (aW f g t 2)))
   refine hK _ _ (.inr (fun k _ hk=>by
    rw [aPe _ _ _ _ (by simp only;omega),aPe _ _ _ _ (by simp only;omega),aPe _ _ _ _ (by simp only;omega)]
    exact y5.block (by omega))) ?_
   clear hK K;refine aC ?_;go_wp2;go_roundw
   case rel=>exact ⟨1,by omega,by go_num,ex.out,e0.out,e1.out,e2.out,D⟩
   case measure=>simp [intOf]
  ·replace B3:=hid (show Blk wr (w.heap.size+3) 125 [(aW f g t 0),(aW f g t 1),(aW f g t 2),(f 3),(f 4),(f 5),(f 6),(f 7),(f 8),(f 9),(f 10),(f 11)] from B3)
   have p:=B0.lt;obtain ⟨p0,p1,p2,p3,p4,p5,p6,p7,p8,p9,z0,z1⟩:=B0.q12;have q:=B1.lt;obtain ⟨q0,q1,q2,q3,q4,q5,q6,q7,q8,q9,z2,z4⟩:=B1.q12;have r:=B3.lt;obtain ⟨r0,r1,r2,r3,r4,r5,r6,r7,r8,r9,h6,h7⟩:=B3.q12;have h8:=B3.free 0;have h9:=B3.free 1;have x1:=B3.free 2;have x2:=B3.free 3;have x3:=B3.free 4;have x4:=B3.free 5;have x6:=B3.free 6;have x7:=B3.free 7;have x8:=B3.free 8;have x9:=B3.free 9;have h4:=B3.free 10;have h5:=B3.free 11;have zs:=X0.size;have z3:=B3.lt;go_wp2_with fail;refine aA [([0,1,2,3,4,5,6,7,8,9,11],10),([12],13)] 99 (w.heap.size+3) (by kernel_rfl) (by kernel_rfl) ?_;refine st_ fun K hK=>?_;go_wp2_with fail;refine r_ (oJ _ _ _ _ _ _ t HT _) fun w5 x5=>?_;have y5:Ext wr w5:=aPc (aP9 (aPg _)) x5;go_wp2_with fail;refine hK _ _ (.inr (fun k _ hk=>y5.block (by first|omega|(simp;omega)))) ?_;clear hK K;clear r r0 r1 r2 r3 r4 r5 r6 r7 r8 r9 h6 h7 h8 h9 x1 x2 x3 x4 x6 x7 x8 x9 h4 h5;have C3:=B3.ext y5;have r:=C3.lt;obtain ⟨r0,r1,r2,r3,r4,r5,r6,r7,r8,r9,h6,h7⟩:=C3.q12;have h8:=C3.free 0;have h9:=C3.free 1;have x1:=C3.free 2;have x2:=C3.free 3;have x3:=C3.free 4;have x4:=C3.free 5;have x6:=C3.free 6;have x7:=C3.free 7;have x8:=C3.free 8;have x9:=C3.free 9;have h4:=C3.free 10;have h5:=C3.free 11;refine st_ fun K hK=>?_;go_wp2_with fail;have D:=hid (((C3.set 3 (.int .i64 (aW f g t 3))).set 4 (.int .i64 (aW f g t 4))).set 5 (.int .i64 (aW f g t 5)));have e0:=hid (((B0.ext y5).other (a:=⟨w.heap.size+3,3,none⟩) (by simp) (.int .i64 (aW f g t 3))).other (a:=⟨w.heap.size+3,4,none⟩) (by simp) (.int .i64 (aW f g t 4)) |>.other (a:=⟨w.heap.size+3,5,none⟩) (by simp) (.int .i64 (aW f g t 5)));have e1:=hid (((B1.ext y5).other (a:=⟨w.heap.size+3,3,none⟩) (by simp) (.int .i64 (aW f g t 3))).other (a:=⟨w.heap.size+3,4,none⟩) (by simp) (.int .i64 (aW f g t 4)) |>.other (a:=⟨w.heap.size+3,5,none⟩) (by simp) (.int .i64 (aW f g t 5)));have e2:=hid (((B2.ext y5).other (a:=⟨w.heap.size+3,3,none⟩) (by simp) (.int .i64 (aW f g t 3))).other (a:=⟨w.heap.size+3,4,none⟩) (by simp) (.int .i64 (aW f g t 4)) |>.other (a:=⟨w.heap.size+3,5,none⟩) (by simp) (.int .i64 (aW f g t 5)));have ex:=hid (aPm (aPm (aPm (X0.trans y5) (by simp) _) (by simp) _) (by simp) _:Ext w (((w5.setCell ⟨w.heap.size+3,3,none⟩ (aW f g t 3)).setCell ⟨w.heap.size+3,4,none⟩ (aW f g t 4)).setCell ⟨w.heap.size+3,5,none⟩ (aW f g t 5)))
   refine hK _ _ (.inr (fun k _ hk=>by
    rw [aPe _ _ _ _ (by simp only;omega),aPe _ _ _ _ (by simp only;omega),aPe _ _ _ _ (by simp only;omega)]
    exact y5.block (by omega))) ?_
   clear hK K;refine aC ?_;go_wp2;go_roundw
   case rel=>exact ⟨2,by omega,by go_num,ex.out,e0.out,e1.out,e2.out,D⟩
   case measure=>simp [intOf]
  ·replace B3:=hid (show Blk wr (w.heap.size+3) 125 [(aW f g t 0),(aW f g t 1),(aW f g t 2),(aW f g t 3),(aW f g t 4),(aW f g t 5),(f 6),(f 7),(f 8),(f 9),(f 10),(f 11)] from B3)
   have p:=B0.lt;obtain ⟨p0,p1,p2,p3,p4,p5,p6,p7,p8,p9,z0,z1⟩:=B0.q12;have q:=B1.lt;obtain ⟨q0,q1,q2,q3,q4,q5,q6,q7,q8,q9,z2,z4⟩:=B1.q12;have r:=B3.lt;obtain ⟨r0,r1,r2,r3,r4,r5,r6,r7,r8,r9,h6,h7⟩:=B3.q12;have h8:=B3.free 0;have h9:=B3.free 1;have x1:=B3.free 2;have x2:=B3.free 3;have x3:=B3.free 4;have x4:=B3.free 5;have x6:=B3.free 6;have x7:=B3.free 7;have x8:=B3.free 8;have x9:=B3.free 9;have h4:=B3.free 10;have h5:=B3.free 11;have zs:=X0.size;have z3:=B3.lt;go_wp2_with fail;refine aA [([0,1,2,3,4,5,6,7,8,9,11],10),([12],13)] 99 (w.heap.size+3) (by kernel_rfl) (by kernel_rfl) ?_;refine st_ fun K hK=>?_;go_wp2_with fail;refine r_ (oJ _ _ _ _ _ _ t HT _) fun w5 x5=>?_;have y5:Ext wr w5:=aPc (aP9 (aPg _)) x5;go_wp2_with fail;refine hK _ _ (.inr (fun k _ hk=>y5.block (by first|omega|(simp;omega)))) ?_;clear hK K;clear r r0 r1 r2 r3 r4 r5 r6 r7 r8 r9 h6 h7 h8 h9 x1 x2 x3 x4 x6 x7 x8 x9 h4 h5;have C3:=B3.ext y5;have r:=C3.lt;obtain ⟨r0,r1,r2,r3,r4,r5,r6,r7,r8,r9,h6,h7⟩:=C3.q12;have h8:=C3.free 0;have h9:=C3.free 1;have x1:=C3.free 2;have x2:=C3.free 3;have x3:=C3.free 4;have x4:=C3.free 5;have x6:=C3.free 6;have x7:=C3.free 7;have x8:=C3.free 8;have x9:=C3.free 9;have h4:=C3.free 10;have h5:=C3.free 11;refine st_ fun K hK=>?_;go_wp2_with fail;have D:=hid (((C3.set 6 (.int .i64 (aW f g t 6))).set 7 (.int .i64 (aW f g t 7))).set 8 (.int .i64 (aW f g t 8)));have e0:=hid (((B0.ext y5).other (a:=⟨w.heap.size+3,6,none⟩) (by simp) (.int .i64 (aW f g t 6))).other (a:=⟨w.heap.size+3,7,none⟩) (by simp) (.int .i64 (aW f g t 7)) |>.other (a:=⟨w.heap.size+3,8,none⟩) (by simp) (.int .i64 (aW f g t 8)));have e1:=hid (((B1.ext y5).other (a:=⟨w.heap.size+3,6,none⟩) (by simp) (.int .i64 (aW f g t 6))).other (a:=⟨w.heap.size+3,7,none⟩) (by simp) (.int .i64 (aW f g t 7)) |>.other (a:=⟨w.heap.size+3,8,none⟩) (by simp) (.int .i64 (aW f g t 8)));have e2:=hid (((B2.ext y5).other (a:=⟨w.heap.size+3,6,none⟩) (by simp) (.int .i64 (aW f g t 6))).other (a:=⟨w.heap.size+3,7,none⟩) (by simp) (.int .i64 (aW f g t 7)) |>.other (a:=⟨w.heap.size+3,8,none⟩) (by simp) (.int .i64 (aW f g t 8)));have ex:=hid (aPm (aPm (aPm (X0.trans y5) (by simp) _) (by simp) _) (by simp) _:Ext w (((w5.setCell ⟨w.heap.size+3,6,none⟩ (aW f g t 6)).setCell ⟨w.heap.size+3,7,none⟩ (aW f g t 7)).setCell ⟨w.heap.size+3,8,none⟩ (aW f g t 8)))
   refine hK _ _ (.inr (fun k _ hk=>by
    rw [aPe _ _ _ _ (by simp only;omega),aPe _ _ _ _ (by simp only;omega),aPe _ _ _ _ (by simp only;omega)]
    exact y5.block (by omega))) ?_
   clear hK K;refine aC ?_;go_wp2;go_roundw
   case rel=>exact ⟨3,by omega,by go_num,ex.out,e0.out,e1.out,e2.out,D⟩
   case measure=>simp [intOf]
  ·replace B3:=hid (show Blk wr (w.heap.size+3) 125 [(aW f g t 0),(aW f g t 1),(aW f g t 2),(aW f g t 3),(aW f g t 4),(aW f g t 5),(aW f g t 6),(aW f g t 7),(aW f g t 8),(f 9),(f 10),(f 11)] from B3)
   have p:=B0.lt;obtain ⟨p0,p1,p2,p3,p4,p5,p6,p7,p8,p9,z0,z1⟩:=B0.q12;have q:=B1.lt;obtain ⟨q0,q1,q2,q3,q4,q5,q6,q7,q8,q9,z2,z4⟩:=B1.q12;have r:=B3.lt;obtain ⟨r0,r1,r2,r3,r4,r5,r6,r7,r8,r9,h6,h7⟩:=B3.q12;have h8:=B3.free 0;have h9:=B3.free 1;have x1:=B3.free 2;have x2:=B3.free 3;have x3:=B3.free 4;have x4:=B3.free 5;have x6:=B3.free 6;have x7:=B3.free 7;have x8:=B3.free 8;have x9:=B3.free 9;have h4:=B3.free 10;have h5:=B3.free 11;have zs:=X0.size;have z3:=B3.lt;go_wp2_with fail;refine aA [([0,1,2,3,4,5,6,7,8,9,11],10),([12],13)] 99 (w.heap.size+3) (by kernel_rfl) (by kernel_rfl) ?_;refine st_ fun K hK=>?_;go_wp2_with fail;refine r_ (oJ _ _ _ _ _ _ t HT _) fun w5 x5=>?_;have y5:Ext wr w5:=aPc (aP9 (aPg _)) x5;go_wp2_with fail;refine hK _ _ (.inr (fun k _ hk=>y5.block (by first|omega|(simp;omega)))) ?_;clear hK K;clear r r0 r1 r2 r3 r4 r5 r6 r7 r8 r9 h6 h7 h8 h9 x1 x2 x3 x4 x6 x7 x8 x9 h4 h5;have C3:=B3.ext y5;have r:=C3.lt;obtain ⟨r0,r1,r2,r3,r4,r5,r6,r7,r8,r9,h6,h7⟩:=C3.q12;have h8:=C3.free 0;have h9:=C3.free 1;have x1:=C3.free 2;have x2:=C3.free 3;have x3:=C3.free 4;have x4:=C3.free 5;have x6:=C3.free 6;have x7:=C3.free 7;have x8:=C3.free 8;have x9:=C3.free 9;have h4:=C3.free 10;have h5:=C3.free 11;refine st_ fun K hK=>?_;go_wp2_with fail;have D:=hid (((C3.set 9 (.int .i64 (aW f g t 9))).set 10 (.int .i64 (aW f g t 10))).set 11 (.int .i64 (aW f g t 11)));have e0:=hid (((B0.ext y5).other (a:=⟨w.heap.size+3,9,none⟩) (by simp) (.int .i64 (aW f g t 9))).other (a:=⟨w.heap.size+3,10,none⟩) (by simp) (.int .i64 (aW f g t 10)) |>.other (a:=⟨w.heap.size+3,11,none⟩) (by simp) (.int .i64 (aW f g t 11)));have e1:=hid (((B1.ext y5).other (a:=⟨w.heap.size+3,9,none⟩) (by simp) (.int .i64 (aW f g t 9))).other (a:=⟨w.heap.size+3,10,none⟩) (by simp) (.int .i64 (aW f g t 10)) |>.other (a:=⟨w.heap.size+3,11,none⟩) (by simp) (.int .i64 (aW f g t 11)));have e2:=hid (((B2.ext y5).other (a:=⟨w.heap.size+3,9,none⟩) (by simp) (.int .i64 (aW f g t 9))).other (a:=⟨w.heap.size+3,10,none⟩) (by simp) (.int .i64 (aW f g t 10)) |>.other (a:=⟨w.heap.size+3,11,none⟩) (by simp) (.int .i64 (aW f g t 11)));have ex:=hid (aPm (aPm (aPm (X0.trans y5) (by simp) _) (by simp) _) (by simp) _:Ext w (((w5.setCell ⟨w.heap.size+3,9,none⟩ (aW f g t 9)).setCell ⟨w.heap.size+3,10,none⟩ (aW f g t 10)).setCell ⟨w.heap.size+3,11,none⟩ (aW f g t 11)))
   refine hK _ _ (.inr (fun k _ hk=>by
    rw [aPe _ _ _ _ (by simp only;omega),aPe _ _ _ _ (by simp only;omega),aPe _ _ _ _ (by simp only;omega)]
    exact y5.block (by omega))) ?_
   clear hK K;refine aC ?_;go_wp2;go_roundw
   case rel=>exact ⟨4,by omega,by go_num,ex.out,e0.out,e1.out,e2.out,D⟩
   case measure=>simp [intOf]
  ·replace B3:=hid (show Blk wr (w.heap.size+3) 125 (aW f g t) from B3)
   have p:=B3.lt;obtain ⟨p0,p1,p2,p3,p4,p5,p6,p7,p8,p9,z0,z1⟩:=B3.q12;have r:=B2.lt;obtain ⟨r0,r1,r2,r3,r4,r5,r6,r7,r8,r9,h6,h7⟩:=B2.q12;have h8:=B2.free 0;have h9:=B2.free 1;have x1:=B2.free 2;have x2:=B2.free 3;have x3:=B2.free 4;have x4:=B2.free 5;have x6:=B2.free 6;have x7:=B2.free 7;have x8:=B2.free 8;have x9:=B2.free 9;have h4:=B2.free 10;have h5:=B2.free 11;have x0:=X0.out;go_wp2;exact bodyPost_ret (v:=.agg (aW f g t)) (by simp [results,results149,go_sem, *]) rfl ⟨rfl,S_⟩
theorem wF (f g:Nat->Int) (sh rt t:Int) (ht:0<=t/\t<=16) (w:World) :
  R_ 99 #[.agg #[(f 0),(f 1),(f 2),(f 3),(f 4),(f 5),(f 6),(f 7),(f 8),(f 9),(f 10),(f 11),(g 0),(g 1),(g 2),(g 3),(g 4),(g 5),(g 6),(g 7),(g 8),(g 9),(g 10),(g 11),sh,rt],t] w (.agg (aW f g t)):=by
 have HT:=hid ht;clear ht;have B0:=hid ((aPh w 127 [(f 0),(f 1),(f 2),(f 3),(f 4),(f 5),(f 6),(f 7),(f 8),(f 9),(f 10),(f 11),(g 0),(g 1),(g 2),(g 3),(g 4),(g 5),(g 6),(g 7),(g 8),(g 9),(g 10),(g 11),sh,rt]).ext (show Ext (w.alloc (.cells #[(f 0),(f 1),(f 2),(f 3),(f 4),(f 5),(f 6),(f 7),(f 8),(f 9),(f 10),(f 11),(g 0),(g 1),(g 2),(g 3),(g 4),(g 5),(g 6),(g 7),(g 8),(g 9),(g 10),(g 11),sh,rt] 127)) ((w.alloc (.cells #[(f 0),(f 1),(f 2),(f 3),(f 4),(f 5),(f 6),(f 7),(f 8),(f 9),(f 10),(f 11),(g 0),(g 1),(g 2),(g 3),(g 4),(g 5),(g 6),(g 7),(g 8),(g 9),(g 10),(g 11),sh,rt] 127)).alloc (.cells #[(),(),(),(),(),(),(),(),(),(),(),()] 125)) from X_));have B1:=hid (show Blk ((w.alloc (.cells #[(f 0),(f 1),(f 2),(f 3),(f 4),(f 5),(f 6),(f 7),(f 8),(f 9),(f 10),(f 11),(g 0),(g 1),(g 2),(g 3),(g 4),(g 5),(g 6),(g 7),(g 8),(g 9),(g 10),(g 11),sh,rt] 127)).alloc (.cells #[(),(),(),(),(),(),(),(),(),(),(),()] 125)) (w.heap.size+1) 125 [(),(),(),(),(),(),(),(),(),(),(),()] from by have q:=(aPh (w.alloc (.cells #[(f 0),(f 1),(f 2),(f 3),(f 4),(f 5),(f 6),(f 7),(f 8),(f 9),(f 10),(f 11),(g 0),(g 1),(g 2),(g 3),(g 4),(g 5),(g 6),(g 7),(g 8),(g 9),(g 10),(g 11),sh,rt] 127)) 125 [(),(),(),(),(),(),(),(),(),(),(),()]).ext (show Ext ((w.alloc (.cells #[(f 0),(f 1),(f 2),(f 3),(f 4),(f 5),(f 6),(f 7),(f 8),(f 9),(f 10),(f 11),(g 0),(g 1),(g 2),(g 3),(g 4),(g 5),(g 6),(g 7),(g 8),(g 9),(g 10),(g 11),sh,rt] 127)).alloc (.cells #[(),(),(),(),(),(),(),(),(),(),(),()] 125)) ((w.alloc (.cells #[(f 0),(f 1),(f 2),(f 3),(f 4),(f 5),(f 6),(f 7),(f 8),(f 9),(f 10),(f 11),(g 0),(g 1),(g 2),(g 3),(g 4),(g 5),(g 6),(g 7),(g 8),(g 9),(g 10),(g 11),sh,rt] 127)).alloc (.cells #[(),(),(),(),(),(),(),(),(),(),(),()] 125)) from X_);simp only [aO6] at q;exact q);have X0:=hid (show Ext w ((w.alloc (.cells #[(f 0),(f 1),(f 2),(f 3),(f 4),(f 5),(f 6),(f 7),(f 8),(f 9),(f 10),(f 11),(g 0),(g 1),(g 2),(g 3),(g 4),(g 5),(g 6),(g 7),(g 8),(g 9),(g 10),(g 11),sh,rt] 127)).alloc (.cells #[(),(),(),(),(),(),(),(),(),(),(),()] 125)) from X_);go_enter func99,ntmps99;go_wp2_with fail;refine r_ (aJv f g t HT _) fun w1 x1=>?_;replace B1:=hid (B1.ext x1);replace X0:=hid (X0.trans x1);have r:=B1.lt;obtain ⟨r0,r1,r2,r3,r4,r5,r6,r7,r8,r9,h2,h3⟩:=B1.q12;have h4:=B1.free 0;have h5:=B1.free 1;have h6:=B1.free 2;have h7:=B1.free 3;have h8:=B1.free 4;have h9:=B1.free 5;have q0:=B1.free 6;have q1:=B1.free 7;have q2:=B1.free 8;have q3:=B1.free 9;have h0:=B1.free 10;have h1:=B1.free 11;have x0:=X0.out;go_wp2;exact bodyPost_ret (v:=.agg (aW f g t)) (by simp [results,results99,go_sem, *]) rfl ⟨rfl,S_⟩
theorem mA {c:Cam} {a b d:Int} (h:c.prB ⟨x,y,z⟩ lx ly=true) (hp:c.pr ⟨x,y,z⟩ lx ly=⟨a,b,d⟩) (w:World) :
  R_ 203 #[.agg c,.agg #[x,y,z],lx,ly] w (.tuple #[.agg #[a,b,d],.bool true]):=by
 have:=aA5 c x y z lx ly h w;rw [hp] at this;exact this
theorem mB {c:Cam} (h:c.prB ⟨x,y,z⟩ lx ly=false) (w:World) :
  R_ 203 #[.agg c,.agg #[x,y,z],lx,ly] w (.tuple #[.agg #[(),(),()],.bool false]):=aC4 c x y z lx ly h w
theorem oK {i j i' j' n X Y Z:Int} (e1:i'=i) (e2:j'=j) (h:evP f i j n=⟨X,Y,Z⟩) (hn:1<=n/\n<=64) (hi:0<=i/\i<=n) (hj:0<=j/\j<=n) (w:World) :
  R_ 192 #[.agg f,i',j',n] w (.agg #[X,Y,Z]):=by
 subst e1 e2;exact wB h hn hi hj w
def crn (c:Cam) (f:Nat->Int) (n:Nat) (s:Smp) (u v q:Nat):V3:=cS c f n s (u+q % 2) (v+q / 2)
def aFb (c:Cam) (f:Nat->Int) (n:Nat) (s:Smp) (u v q:Nat):Bool:=kO c f n s (u+q % 2) (v+q / 2)
theorem aLi {c:Cam} {s:Smp} {u v:Nat} (h:∀q,q<4->aFb c f n s u v q=true):kQ c f n s u v=true:=by
 have h0:=h 0 (by decide);have h1:=h 1 (by decide);have h2:=h 2 (by decide);have h3:=h 3 (by decide);unfold kQ;simp only [aPk];exact ⟨⟨⟨h0,h1⟩,h2⟩,h3⟩
theorem aJw {c:Cam} {s:Smp} {u v q:Nat} (hq:q<4) (h:aFb c f n s u v q=false):kQ c f n s u v=false:=
 aFy (i:=q % 2) (j:=q / 2) (by omega) (by omega) h
theorem aFx.rd {c:Cam} {s:Smp} {u v:Nat} {r:Value} (h:aFx c f n s u v lo w r):Rd Mc.cs lo w.heap.size w r (fK c f n s u v):=by
 rcases h with ⟨hd,rfl⟩|⟨hd,g,hl,rfl,hb⟩
 ·unfold fK
  rw [if_neg (by rw [hd];exact Bool.false_ne_true)];exact Rd.nil _ _ _ _
 ·unfold fK
  rw [if_pos hd];refine ⟨some ⟨g,0,none⟩,2,rfl,aO3 _,by omega,(fun e=>nomatch e),.inr ⟨g,0,rfl,hl,hb.lt,fun j u hj=>?_⟩⟩;rw [aP0];exact hb.cell j hj
theorem xS (c:Cam) (f:Nat->Int) (n:Nat) (s:Smp) (u v:Nat) (hn:1<=n/\n<=64) (hu:u<n) (hv:v<n) (w:World) :
  Calls aPa 148 #[.agg c,.agg f,(u:Nat),(v:Nat),(n:Nat),s.lx,s.ly] w fun e w'=>∃r,e = .returned r/\aFx c f n s u v w.heap.size w' r/\Ext w w':=by
 have J1:=hid (aG.2 (show (1:Int)<=(n:Int)/\(n:Int)<=64 by omega));have J2:=hid (aG.2 (show (0:Int)<=(u:Int)/\(u:Int)<=(n:Int) - 1 by omega));have J3:=hid (aG.2 (show (0:Int)<=(v:Int)/\(v:Int)<=(n:Int) - 1 by omega));have N0:=hid (show wrap64 ((n:Int) - 1)=(n:Int) - 1 from aD (by omega) (by omega));have HN:=hid hn;have HU:=hid hu;have HV:=hid hv;clear hn hu hv;have B0:=hid ((aPh w 35 c).ext (show Ext (w.alloc (.cells c 35)) ((w.alloc (.cells c 35)).alloc (.cells f 125)) from X_));have B1:=hid (show Blk ((w.alloc (.cells c 35)).alloc (.cells f 125)) (w.heap.size+1) 125 f from by have q:=(aPh (w.alloc (.cells c 35)) 125 f).ext (show Ext ((w.alloc (.cells c 35)).alloc (.cells f 125)) ((w.alloc (.cells c 35)).alloc (.cells f 125)) from X_);simp only [aO6] at q;exact q);have X0:=hid (show Ext w ((w.alloc (.cells c 35)).alloc (.cells f 125)) from X_);have n0:=N0.out;go_enter func148,ntmps148;go_wp2_with fail;refine z_ (aE J1 _) ?_;go_wp2_with fail;refine z_ (aE J2 _) ?_;go_wp2_with fail;refine z_ (aE J3 _) ?_;clear n0;go_upto_region 4 with fail
 obtain ⟨W,hW⟩:∃W,(((w.alloc (.cells c 35)).alloc (.cells f 125)).alloc (.cells #[] 122))=W:=⟨_,rfl⟩
 have OW:aF tG (w.heap.size+2) 122 3 (((w.alloc (.cells c 35)).alloc (.cells f 125)).alloc (.cells #[] 122)) (.slice (some ⟨w.heap.size+2,0,none⟩) 0 0) []:=aF.fresh0 (aO3 _) (by have q:=aPh ((w.alloc (.cells c 35)).alloc (.cells f 125)) 122 [];simp only [aO6] at q;exact q);have YW:Ext ((w.alloc (.cells c 35)).alloc (.cells f 125)) (((w.alloc (.cells c 35)).alloc (.cells f 125)).alloc (.cells #[] 122)):=X_;replace B0:=hid (B0.ext YW);replace B1:=hid (B1.ext YW);replace X0:=hid (X0.trans YW);clear YW
 try simp only [aO6]
 rw [hW];rw [hW] at B0 B1 X0 OW;have OO:=hid OW;clear hW OW;go_wp2_with fail
 go_loopw [15,16] (fun l i wr=>∃j:Nat,j<=4/\i = .int .i64 (j:Nat)/\(∀q,q<j->aFb c f n s u v q=true)/\Ext w wr/\Blk wr w.heap.size 35 c/\Blk wr (w.heap.size+1) 125 f/\aF tG (w.heap.size+2) 122 3 wr l ((aPu j).map (crn c f n s u v))) (fun _ i _=>4 - (intOf i).toNat)
 case atStart=>exact ⟨0,by omega,rfl,(fun q h=>absurd h (by omega)),X0,B0,B1,OO⟩
 case round=>
  obtain ⟨j,hj,rfl,y8,hx,h0,h1,ho⟩:=hrel;clear B0 B1 X0 OO;have X0:=hid hx;have B0:=hid h0;have B1:=hid h1;have OO:=hid ho;have HA:=hid y8;clear hx h0 h1 ho y8
  rcases aQ3 j 4 with hlt|hge
  ·obtain ⟨a,ha⟩:∃a:Nat,j % 2=a:=⟨_,rfl⟩
   obtain ⟨b,hb⟩:∃b:Nat,j / 2=b:=⟨_,rfl⟩
   have b8:a<2:=by omega
   have b9:b<2:=by omega
   have c6:=HU.out;have c7:=HV.out;have c5:=HN.out;have N2:=hid (show (0:Int)<=(u:Int)+(a:Int)/\(u:Int)+(a:Int)<=(n:Int) by omega);have N3:=hid (show (0:Int)<=(v:Int)+(b:Int)/\(v:Int)+(b:Int)<=(n:Int) by omega);have T1:=hid (show Int.tmod (j:Int) 2=(a:Int) by rw [Int.tmod_eq_emod_of_nonneg (by omega)];omega);have T2:=hid (show Int.tdiv (j:Int) 2=(b:Int) by rw [aRc (by omega)];omega);have R1:=hid (show wrap64 ((u:Int)+(a:Int))=(u:Int)+(a:Int) from aD (by omega) (by omega));have R2:=hid (show wrap64 ((v:Int)+wrap64 (b:Int))=(v:Int)+(b:Int) by rw [aD (n:=(b:Int)) (by omega) (by omega)];exact aD (by omega) (by omega));have y5:=hid (And.intro ha hb);have a6:decide ((j:Int)<4)=true:=decide_eq_true (by omega);clear ha hb c6 c7 c5 b8 b9
   obtain ⟨X,Y,Z,hE⟩:∃X Y Z,evP f ((u:Int)+(a:Int)) ((v:Int)+(b:Int)) (n:Int)=⟨X,Y,Z⟩:=⟨_,_,_,rfl⟩
   have y4:=hid hE;have N1:=hid (aMl HN);have ZW:=X0.size;have a9:=hid hlt;clear hE;have t1:=T1.out;have t2:=T2.out;have p:=B0.lt;obtain ⟨p0,p1,p2,p3,p4,p5,p6⟩:=B0.q7;have q:=B1.lt;obtain ⟨q0,q1,q2,q3,q4,q5,q6,q7,q8,q9,e6,e7⟩:=B1.q12;go_upto_region 7 with fail;clear a6
   cases hb:c.prB ⟨X,Y,Z⟩ s.lx s.ly
   ·have HB:=hid hb
    clear hb;refine cW 20 wr.heap.size (by kernel_rfl) ?_;refine z2_ (fuel:=7) [0,1,2,3,4,5,6,7,8,9,10,12,13] 11 18 (fun b _ hb=>rfl) (fun K hK=>?n2) fun K hK=>?n3
    case' n2=>
     clear t1 t2;go_wp2_with fail;refine r_ (oK R1 R2 y4 N1 N2 N3 _) fun a0 y0=>?_;have u0:Ext wr a0:=aPc X_ y0;go_wp2_with fail;refine k_ hK ?_;clear hK K;refine z2_ (fuel:=6) [] 14 18 (fun b _ hb=>aPf u0 (by omega)) (fun K hK=>?n4) fun K hK=>?n5
     case' n4=>
      go_wp2_with fail;refine r_ (mB HB _) fun a01 y01=>?_;have a1:Ext wr a01:=aPc X_ y01;go_wp2_with fail;refine k_ hK ?_;clear hK K;refine z1_ (fuel:=2) [15,16,17] 18 (fun b _ hb=>aPf a1 (by omega)) fun K hK=>?_;go_wp2;have h7:wr.heap.size<=a01.heap.size:=a1.size;refine k_ hK ?_;clear hK K
      obtain ⟨h4,h3⟩:∃d,d=a01.alloc (.cells #[(),(),()] 122):=⟨_,rfl⟩
      rw [<-h3]
      have x8:Ext wr h4:=by rw [h3];exact X_
      have h9:Blk h4 a01.heap.size 122 [(),(),()]:=h3▸aPh _ _ _;clear h3;refine z1_ (fuel:=1) [] 19 (fun b _ hb=>aPf x8 (by omega)) fun K hK=>?_;obtain ⟨z0,z1,z2,z3,z4,z5,z6⟩:=mI h9;go_wp2;have x7:=h7;refine hK _ _ (.inr (fun b _ hb=>aPf (w:=wr) S_ (by omega))) ?_;clear hK K;refine z1_ (fuel:=0) [] 20 (fun b _ hb=>aPf (w:=wr) S_ (by omega)) fun K hK=>?_;go_wp2;refine l_ hK ?_;clear hK K;refine bT (by kernel_rfl) ?_;have h2:=h7;have hE:Ext wr (((h4.setCell ⟨a01.heap.size,0,none⟩ ()).setCell ⟨a01.heap.size,1,none⟩ ()).setCell ⟨a01.heap.size,2,none⟩ ()):=aPm (aPm (aPm x8 h2 _) h2 _) h2 _
      have h5:Blk (((h4.setCell ⟨a01.heap.size,0,none⟩ ()).setCell ⟨a01.heap.size,1,none⟩ ()).setCell ⟨a01.heap.size,2,none⟩ ()) (a01.heap.size) 122 [(),(),()]:=(((h9.set 0 (.int .i64 0)).set 1 (.int .i64 0)).set 2 (.int .i64 0))
      clear z0 z1 z2 z3 z4 z5 z6
      obtain ⟨A,hA⟩:∃A,a01.heap.size=A:=⟨_,rfl⟩
      rw [hA] at hE h5 h2 ⊢
      obtain ⟨wx,h8⟩:∃wx,((h4.setCell ⟨A,0,none⟩ ()).setCell ⟨A,1,none⟩ ()).setCell ⟨A,2,none⟩ ()=wx:=⟨_,rfl⟩
      rw [h8] at hE h5 ⊢;clear h8 hA
     case' n5=>
      go_wp2;have x6:wr.heap.size<=a0.heap.size:=u0.size;refine k_ hK ?_;clear hK K
      obtain ⟨y6,h6⟩:∃d,d=a0.alloc (.cells #[(),(),()] 122):=⟨_,rfl⟩
      rw [<-h6]
      have a7:Ext wr y6:=by rw [h6];exact X_
      have a3:Blk y6 a0.heap.size 122 [(),(),()]:=h6▸aPh _ _ _;clear h6;refine z1_ (fuel:=5) [] 14 (fun b _ hb=>aPf a7 (by omega)) fun K hK=>?_;go_wp2_with fail;refine r_ (mB HB _) fun a0A1 y0A1=>?_;have x9:Ext wr a0A1:=aPc X_ y0A1;have x4:=a3.ext y0A1;go_wp2_with fail;refine k_ hK ?_;clear hK K;refine z1_ (fuel:=1) [15,16,17] 19 (fun b _ hb=>aPf x9 (by omega)) fun K hK=>?_;obtain ⟨z0,z1,z2,z3,z4,z5,z6⟩:=mI x4;go_wp2;have x7:=x6;refine hK _ _ (.inr (fun b _ hb=>aPf (w:=wr) S_ (by omega))) ?_;clear hK K;refine z1_ (fuel:=0) [] 20 (fun b _ hb=>aPf (w:=wr) S_ (by omega)) fun K hK=>?_;go_wp2;refine l_ hK ?_;clear hK K;refine bT (by kernel_rfl) ?_;have h2:=x6;have hE:Ext wr (((a0A1.setCell ⟨a0.heap.size,0,none⟩ ()).setCell ⟨a0.heap.size,1,none⟩ ()).setCell ⟨a0.heap.size,2,none⟩ ()):=aPm (aPm (aPm x9 h2 _) h2 _) h2 _
      have h5:Blk (((a0A1.setCell ⟨a0.heap.size,0,none⟩ ()).setCell ⟨a0.heap.size,1,none⟩ ()).setCell ⟨a0.heap.size,2,none⟩ ()) (a0.heap.size) 122 [(),(),()]:=(((x4.set 0 (.int .i64 0)).set 1 (.int .i64 0)).set 2 (.int .i64 0))
      clear z0 z1 z2 z3 z4 z5 z6
      obtain ⟨A,hA⟩:∃A,a0.heap.size=A:=⟨_,rfl⟩
      rw [hA] at hE h5 h2 ⊢
      obtain ⟨wx,h8⟩:∃wx,((a0A1.setCell ⟨A,0,none⟩ ()).setCell ⟨A,1,none⟩ ()).setCell ⟨A,2,none⟩ ()=wx:=⟨_,rfl⟩
      rw [h8] at hE h5 ⊢;clear h8 hA
    case' n3=>
     clear t1 t2;go_wp2;have y7:wr.heap.size<=wr.heap.size:=aO3 _;refine k_ hK ?_;clear hK K
     obtain ⟨dA,z8⟩:∃d,d=(wr.alloc (.cells #[(),(),()] 122)).drew:=⟨_,rfl⟩
     rw [<-z8]
     have uA:Ext wr dA:=by rw [z8];exact X_
     have bA:Blk dA wr.heap.size 122 [(),(),()]:=z8▸(aPh _ _ _).ext (aP9 (aPg _));clear z8;refine z1_ (fuel:=6) [] 11 (fun b _ hb=>aPf uA (by omega)) fun K hK=>?_;go_wp2_with fail;refine r_ (oK R1 R2 y4 N1 N2 N3 _) fun aA0 yA0=>?_;have a8:Ext wr aA0:=aPc X_ yA0;have a4:=bA.ext yA0;go_wp2_with fail;refine k_ hK ?_;clear hK K;refine z1_ (fuel:=5) [] 14 (fun b _ hb=>aPf a8 (by omega)) fun K hK=>?_;go_wp2_with fail;refine r_ (mB HB _) fun aA01 yA01=>?_;have z7:Ext wr aA01:=aPc X_ yA01;have x5:=a4.ext yA01;go_wp2_with fail;refine k_ hK ?_;clear hK K;refine z1_ (fuel:=1) [15,16,17] 19 (fun b _ hb=>aPf z7 (by omega)) fun K hK=>?_;obtain ⟨z0,z1,z2,z3,z4,z5,z6⟩:=mI x5;go_wp2;have x7:=y7;refine hK _ _ (.inr (fun b _ hb=>aPf (w:=wr) S_ (by omega))) ?_;clear hK K;refine z1_ (fuel:=0) [] 20 (fun b _ hb=>aPf (w:=wr) S_ (by omega)) fun K hK=>?_;go_wp2;refine l_ hK ?_;clear hK K;refine bT (by kernel_rfl) ?_;have h2:=y7;have hE:Ext wr (((aA01.setCell ⟨wr.heap.size,0,none⟩ ()).setCell ⟨wr.heap.size,1,none⟩ ()).setCell ⟨wr.heap.size,2,none⟩ ()):=aPm (aPm (aPm z7 h2 _) h2 _) h2 _
     have h5:Blk (((aA01.setCell ⟨wr.heap.size,0,none⟩ ()).setCell ⟨wr.heap.size,1,none⟩ ()).setCell ⟨wr.heap.size,2,none⟩ ()) (wr.heap.size) 122 [(),(),()]:=(((x5.set 0 (.int .i64 0)).set 1 (.int .i64 0)).set 2 (.int .i64 0))
     clear z0 z1 z2 z3 z4 z5 z6
     obtain ⟨A,hA⟩:∃A,wr.heap.size=A:=⟨_,rfl⟩
     rw [hA] at hE h5 h2 ⊢
     obtain ⟨wx,h8⟩:∃wx,((aA01.setCell ⟨A,0,none⟩ ()).setCell ⟨A,1,none⟩ ()).setCell ⟨A,2,none⟩ ()=wx:=⟨_,rfl⟩
     rw [h8] at hE h5 ⊢;clear h8 hA
    all_goals
     have y9:aFb c f n s u v j=false:=by unfold aFb kO;rw [y5.1,y5.2,aQ8,aQ8,y4];exact HB
     have a5:=hid (X0.trans hE);have a2:=hid y9;clear hE y9;go_wp2;go_ret;exact ⟨_,rfl,.inl ⟨aJw a9 a2,rfl⟩,a5.out⟩
   ·have HB:=hid hb
    obtain ⟨x1,x2,x3,hP⟩:∃a b d,c.pr ⟨X,Y,Z⟩ s.lx s.ly=⟨a,b,d⟩:=⟨_,_,_,rfl⟩
    have HP:=hid hP;clear hb hP;refine cW 20 wr.heap.size (by kernel_rfl) ?_;refine z2_ (fuel:=7) [0,1,2,3,4,5,6,7,8,9,10,12,13] 11 18 (fun b _ hb=>rfl) (fun K hK=>?p2) fun K hK=>?p3
    case' p2=>
     clear t1 t2;go_wp2_with fail;refine r_ (oK R1 R2 y4 N1 N2 N3 _) fun a0 y0=>?_;have u0:Ext wr a0:=aPc X_ y0;go_wp2_with fail;refine k_ hK ?_;clear hK K;refine z2_ (fuel:=6) [] 14 18 (fun b _ hb=>aPf u0 (by omega)) (fun K hK=>?p4) fun K hK=>?p5
     case' p4=>
      go_wp2_with fail;refine r_ (mA HB HP _) fun a01 y01=>?_;have a1:Ext wr a01:=aPc X_ y01;go_wp2_with fail;refine k_ hK ?_;clear hK K;refine z1_ (fuel:=2) [15,16,17] 18 (fun b _ hb=>aPf a1 (by omega)) fun K hK=>?_;go_wp2;have h7:wr.heap.size<=a01.heap.size:=a1.size;refine k_ hK ?_;clear hK K
      obtain ⟨h4,h3⟩:∃d,d=a01.alloc (.cells #[(),(),()] 122):=⟨_,rfl⟩
      rw [<-h3]
      have x8:Ext wr h4:=by rw [h3];exact X_
      have h9:Blk h4 a01.heap.size 122 [(),(),()]:=h3▸aPh _ _ _;clear h3;refine z1_ (fuel:=1) [] 19 (fun b _ hb=>aPf x8 (by omega)) fun K hK=>?_;obtain ⟨z0,z1,z2,z3,z4,z5,z6⟩:=mI h9;go_wp2;have x7:=h7;refine hK _ _ (.inr (fun b _ hb=>aPf (w:=wr) S_ (by omega))) ?_;clear hK K;refine z1_ (fuel:=0) [] 20 (fun b _ hb=>aPf (w:=wr) S_ (by omega)) fun K hK=>?_;go_wp2;refine l_ hK ?_;clear hK K;refine bT (by kernel_rfl) ?_;have h2:=h7;have hE:Ext wr (((h4.setCell ⟨a01.heap.size,0,none⟩ x1).setCell ⟨a01.heap.size,1,none⟩ x2).setCell ⟨a01.heap.size,2,none⟩ x3):=aPm (aPm (aPm x8 h2 _) h2 _) h2 _
      have h5:Blk (((h4.setCell ⟨a01.heap.size,0,none⟩ x1).setCell ⟨a01.heap.size,1,none⟩ x2).setCell ⟨a01.heap.size,2,none⟩ x3) (a01.heap.size) 122 [x1,x2,x3]:=(((h9.set 0 (.int .i64 x1)).set 1 (.int .i64 x2)).set 2 (.int .i64 x3))
      clear z0 z1 z2 z3 z4 z5 z6
      obtain ⟨A,hA⟩:∃A,a01.heap.size=A:=⟨_,rfl⟩
      rw [hA] at hE h5 h2 ⊢
      obtain ⟨wx,h8⟩:∃wx,((h4.setCell ⟨A,0,none⟩ x1).setCell ⟨A,1,none⟩ x2).setCell ⟨A,2,none⟩ x3=wx:=⟨_,rfl⟩
      rw [h8] at hE h5 ⊢;clear h8 hA
     case' p5=>
      go_wp2;have x6:wr.heap.size<=a0.heap.size:=u0.size;refine k_ hK ?_;clear hK K
      obtain ⟨y6,h6⟩:∃d,d=a0.alloc (.cells #[(),(),()] 122):=⟨_,rfl⟩
      rw [<-h6]
      have a7:Ext wr y6:=by rw [h6];exact X_
      have a3:Blk y6 a0.heap.size 122 [(),(),()]:=h6▸aPh _ _ _;clear h6;refine z1_ (fuel:=5) [] 14 (fun b _ hb=>aPf a7 (by omega)) fun K hK=>?_;go_wp2_with fail;refine r_ (mA HB HP _) fun a0A1 y0A1=>?_;have x9:Ext wr a0A1:=aPc X_ y0A1;have x4:=a3.ext y0A1;go_wp2_with fail;refine k_ hK ?_;clear hK K;refine z1_ (fuel:=1) [15,16,17] 19 (fun b _ hb=>aPf x9 (by omega)) fun K hK=>?_;obtain ⟨z0,z1,z2,z3,z4,z5,z6⟩:=mI x4;go_wp2;have x7:=x6;refine hK _ _ (.inr (fun b _ hb=>aPf (w:=wr) S_ (by omega))) ?_;clear hK K;refine z1_ (fuel:=0) [] 20 (fun b _ hb=>aPf (w:=wr) S_ (by omega)) fun K hK=>?_;go_wp2;refine l_ hK ?_;clear hK K;refine bT (by kernel_rfl) ?_;have h2:=x6;have hE:Ext wr (((a0A1.setCell ⟨a0.heap.size,0,none⟩ x1).setCell ⟨a0.heap.size,1,none⟩ x2).setCell ⟨a0.heap.size,2,none⟩ x3):=aPm (aPm (aPm x9 h2 _) h2 _) h2 _
      have h5:Blk (((a0A1.setCell ⟨a0.heap.size,0,none⟩ x1).setCell ⟨a0.heap.size,1,none⟩ x2).setCell ⟨a0.heap.size,2,none⟩ x3) (a0.heap.size) 122 [x1,x2,x3]:=(((x4.set 0 (.int .i64 x1)).set 1 (.int .i64 x2)).set 2 (.int .i64 x3))
      clear z0 z1 z2 z3 z4 z5 z6
      obtain ⟨A,hA⟩:∃A,a0.heap.size=A:=⟨_,rfl⟩
      rw [hA] at hE h5 h2 ⊢
      obtain ⟨wx,h8⟩:∃wx,((a0A1.setCell ⟨A,0,none⟩ x1).setCell ⟨A,1,none⟩ x2).setCell ⟨A,2,none⟩ x3=wx:=⟨_,rfl⟩
      rw [h8] at hE h5 ⊢;clear h8 hA
    case' p3=>
     clear t1 t2;go_wp2;have y7:wr.heap.size<=wr.heap.size:=aO3 _;refine k_ hK ?_;clear hK K
     obtain ⟨dA,z8⟩:∃d,d=(wr.alloc (.cells #[(),(),()] 122)).drew:=⟨_,rfl⟩
     rw [<-z8]
     have uA:Ext wr dA:=by rw [z8];exact X_
     have bA:Blk dA wr.heap.size 122 [(),(),()]:=z8▸(aPh _ _ _).ext (aP9 (aPg _));clear z8;refine z1_ (fuel:=6) [] 11 (fun b _ hb=>aPf uA (by omega)) fun K hK=>?_;go_wp2_with fail;refine r_ (oK R1 R2 y4 N1 N2 N3 _) fun aA0 yA0=>?_;have a8:Ext wr aA0:=aPc X_ yA0;have a4:=bA.ext yA0;go_wp2_with fail;refine k_ hK ?_;clear hK K;refine z1_ (fuel:=5) [] 14 (fun b _ hb=>aPf a8 (by omega)) fun K hK=>?_;go_wp2_with fail;refine r_ (mA HB HP _) fun aA01 yA01=>?_;have z7:Ext wr aA01:=aPc X_ yA01;have x5:=a4.ext yA01;go_wp2_with fail;refine k_ hK ?_;clear hK K;refine z1_ (fuel:=1) [15,16,17] 19 (fun b _ hb=>aPf z7 (by omega)) fun K hK=>?_;obtain ⟨z0,z1,z2,z3,z4,z5,z6⟩:=mI x5;go_wp2;have x7:=y7;refine hK _ _ (.inr (fun b _ hb=>aPf (w:=wr) S_ (by omega))) ?_;clear hK K;refine z1_ (fuel:=0) [] 20 (fun b _ hb=>aPf (w:=wr) S_ (by omega)) fun K hK=>?_;go_wp2;refine l_ hK ?_;clear hK K;refine bT (by kernel_rfl) ?_;have h2:=y7;have hE:Ext wr (((aA01.setCell ⟨wr.heap.size,0,none⟩ x1).setCell ⟨wr.heap.size,1,none⟩ x2).setCell ⟨wr.heap.size,2,none⟩ x3):=aPm (aPm (aPm z7 h2 _) h2 _) h2 _
     have h5:Blk (((aA01.setCell ⟨wr.heap.size,0,none⟩ x1).setCell ⟨wr.heap.size,1,none⟩ x2).setCell ⟨wr.heap.size,2,none⟩ x3) (wr.heap.size) 122 [x1,x2,x3]:=(((x5.set 0 (.int .i64 x1)).set 1 (.int .i64 x2)).set 2 (.int .i64 x3))
     clear z0 z1 z2 z3 z4 z5 z6
     obtain ⟨A,hA⟩:∃A,wr.heap.size=A:=⟨_,rfl⟩
     rw [hA] at hE h5 h2 ⊢
     obtain ⟨wx,h8⟩:∃wx,((aA01.setCell ⟨A,0,none⟩ x1).setCell ⟨A,1,none⟩ x2).setCell ⟨A,2,none⟩ x3=wx:=⟨_,rfl⟩
     rw [h8] at hE h5 ⊢;clear h8 hA
    all_goals
     have b1:crn c f n s u v j=⟨x1,x2,x3⟩:=by unfold crn cS;rw [y5.1,y5.2,aQ8,aQ8,y4];exact HP
     have y9:aFb c f n s u v j=true:=by unfold aFb kO;rw [y5.1,y5.2,aQ8,aQ8,y4];exact HB
     have b2:=hid b1;have a2:=hid y9;have a5:=hid (X0.trans hE);have C0:=hid (B0.ext hE);have C1:=hid (B1.ext hE);have O2:=hid (OO.ext hE);have zx:=hE.size;clear hE b1 y9;have y:=h5.lt;obtain ⟨y0,y1,y2⟩:=h5.q3;have c8:=hid h5;have LL:=hid (show ((aPu j).map (crn c f n s u v)).length<1000000 by have:=a9.out;simp;omega);clear h5;go_wp2_with (at_builtin;refine kS _ rfl _ _ rfl (w.heap.size+2) _ _ rfl (aF.ext O2 X_) ⟨x1,x2,x3⟩ wx.heap.size rfl (aFw wx x1 x2 x3) LL (by simp;omega) ?_;intro v8 w8 hown hg);have xe:Ext wx (wx.alloc (.cells #[x1,x2,x3] 122)):=X_;have z9:=aF.rowE (aF.ext O2 xe);have R0:=hid ((C0.ext xe).grown hg (fun e=>by have h1:=(z9 _ e.symm).1;omega));have R1:=hid ((C1.ext xe).grown hg (fun e=>by have h1:=(z9 _ e.symm).1;omega));have RX:=hid (aQj (a5.out.trans xe) hg (fun k e=>by have h1:=(z9 k e).1;omega));have RO:=hid hown;clear hown hg z9 xe;go_wp2;go_roundw
     case rel=>
      refine ⟨j+1,by omega,by go_num,?_,RX,R0,R1,?_⟩
      ·intro q hq
       rcases aQ3 q j with h|h
       ·exact HA q h
       ·obtain rfl:q=j:=by omega
        exact a2
      ·rw [aRi,aQ9,List.map_singleton,b2]
       exact RO
     case measure=>simp [intOf];omega
  ·obtain rfl:j=4:=by omega
   have c4:=hid (aLi (fun q hq=>HA q hq));have hI:=OO.out;rw [show (aPu 4).map (crn c f n s u v)=[crn c f n s u v 0,crn c f n s u v 1,crn c f n s u v 2,crn c f n s u v 3] from rfl] at hI
   obtain ⟨⟨x0,y0,s0⟩,e0⟩:∃p,crn c f n s u v 0=p:=⟨_,rfl⟩
   rw [e0] at hI;have b3:=hid e0
   obtain ⟨⟨x1,y1,s1⟩,e1⟩:∃p,crn c f n s u v 1=p:=⟨_,rfl⟩
   rw [e1] at hI;have b4:=hid e1
   obtain ⟨⟨x2,y2,s2⟩,e2⟩:∃p,crn c f n s u v 2=p:=⟨_,rfl⟩
   rw [e2] at hI;have b5:=hid e2
   obtain ⟨⟨x3,y3,s3⟩,e3⟩:∃p,crn c f n s u v 3=p:=⟨_,rfl⟩
   rw [e3] at hI;have b6:=hid e3;obtain ⟨g,tc,rfl,gl,gw,b0,c9,-,c0⟩:=aF.at hI (fun _=>rfl) (i:=0) rfl;obtain ⟨g1,e8,he,-,-,-,-,-,c1⟩:=aF.at hI (fun _=>rfl) (i:=1) rfl;simp only [aPz,aO8,aP5,and_true,true_and] at he;obtain ⟨rfl,rfl⟩:=he;obtain ⟨g2,e9,he,-,-,-,-,-,c2⟩:=aF.at hI (fun _=>rfl) (i:=2) rfl;simp only [aPz,aO8,aP5,and_true,true_and] at he;obtain ⟨rfl,rfl⟩:=he;obtain ⟨g3,g0,he,-,-,-,-,-,c3⟩:=aF.at hI (fun _=>rfl) (i:=3) rfl;simp only [aPz,aO8,aP5,and_true,true_and] at he;obtain ⟨rfl,rfl⟩:=he;have d0:wr.cell? ⟨g,0,none⟩=some (.int .i64 x0):=c0 0 (by decide);have d1:wr.cell? ⟨g,1,none⟩=some (.int .i64 y0):=c0 1 (by decide);have d2:wr.cell? ⟨g,2,none⟩=some (.int .i64 s0):=c0 2 (by decide);have d3:wr.cell? ⟨g,3,none⟩=some (.int .i64 x1):=c1 0 (by decide);have d4:wr.cell? ⟨g,4,none⟩=some (.int .i64 y1):=c1 1 (by decide);have d5:wr.cell? ⟨g,5,none⟩=some (.int .i64 s1):=c1 2 (by decide);have d6:wr.cell? ⟨g,6,none⟩=some (.int .i64 x2):=c2 0 (by decide);have d7:wr.cell? ⟨g,7,none⟩=some (.int .i64 y2):=c2 1 (by decide);have d8:wr.cell? ⟨g,8,none⟩=some (.int .i64 s2):=c2 2 (by decide);have d9:wr.cell? ⟨g,9,none⟩=some (.int .i64 x3):=c3 0 (by decide);have e4:wr.cell? ⟨g,10,none⟩=some (.int .i64 y3):=c3 1 (by decide);have e5:wr.cell? ⟨g,11,none⟩=some (.int .i64 s3):=c3 2 (by decide);have b7:4<=tc:=b0;have ZW:=X0.size;clear hI c0 c1 c2 c3 b0 e0 e1 e2 e3 hge;go_wp2_with fail;refine aA [([0,1,2,3,4,5,6,7,8,9,10,11,12,13,14,15,16,17,18,19,20,21,22,23,24,25,26,27,28,29],30),([],31)] 99 wr.heap.size (by kernel_rfl) (by kernel_rfl) ?_;refine st_ fun K hK=>?_;go_wp2_with fail;go_wp2_with fail;refine k_ hK ?_;clear hK K;refine st_ fun K hK=>?_;go_wp2_with fail;go_wp2_with fail;refine k_ hK ?_;clear hK K;refine aC ?_;have BF:=aPh wr.drew 155 [x0,y0,s0,x1,y1,s1,x2,y2,s2,(u:Nat),(v:Nat),(n:Nat),x1,y1,s1,x3,y3,s3,x2,y2,s2,(u:Nat),(v:Nat),(n:Nat)];have XF:Ext wr (wr.drew.alloc (.cells #[x0,y0,s0,x1,y1,s1,x2,y2,s2,(u:Nat),(v:Nat),(n:Nat),x1,y1,s1,x3,y3,s3,x2,y2,s2,(u:Nat),(v:Nat),(n:Nat)] 155)):=X_;go_wp2;go_ret;refine ⟨_,rfl,.inr ⟨c4.out,wr.heap.size,ZW,rfl,?_⟩,X0.trans XF⟩;rw [show cS c f n s u v=⟨x0,y0,s0⟩ from b3,show cS c f n s (u+1) v=⟨x1,y1,s1⟩ from b4,show cS c f n s u (v+1)=⟨x2,y2,s2⟩ from b5,show cS c f n s (u+1) (v+1)=⟨x3,y3,s3⟩ from b6];exact BF
def pF (c:Cam) (f:Nat->Int) (n:Nat) (s:Smp) (k:Nat):List Mc:=(aPu k).flatMap fun q=>fK c f n s (q % n) (q / n)
theorem aFc (c:Cam) (f:Nat->Int) (n:Nat) (s:Smp) {u v:Nat} (hu:u<n):pF c f n s (v*n+(u+1))=pF c f n s (v*n+u)++fK c f n s u v:=by
 unfold pF;rw [<-aQv,aRi,aQ0,aSt]
 have e1:(v*n+u) % n=u:=by rw [aWx,Nat.add_mul_mod_self_right,Nat.mod_eq_of_lt hu]
 have e2:(v*n+u) / n=v:=by rw [aWx,Nat.add_mul_div_right _ _ (by omega),Nat.div_eq_of_lt hu,aP0]
 rw [e1,e2]
theorem aA6 (c:Cam) (f:Nat->Int) (n:Nat) (s:Smp) (k:Nat):(pF c f n s k).length<=2*k:=by
 unfold pF
 induction k with
 | zero=>simp
 | succ k ih=>
  rw [aRi,aQ0,aSt,aPy];have:=iH c f n s (k % n) (k / n);omega
theorem Mc.oneC (y:Mc):∀u∈y.cs,u.oneCell'=true:=y.one
theorem wG (c:Cam) (f:Nat->Int) (n:Nat) (s:Smp) (hn:1<=n/\n<=8) (w:World) :
  Calls aPa 98 #[.agg c,.agg f,(n:Nat),s.lx,s.ly] w fun e w'=>∃r,e = .returned r/\aF Mc.cs w.heap.size 155 12 w' r (jJ c f n s)/\Ext w w':=by
 have J1:=hid (aG.2 (show (1:Int)<=(n:Int)/\(n:Int)<=8 by omega));have HN:=hid hn;clear hn;have B0:=hid ((aPh w 35 c).ext (show Ext (w.alloc (.cells c 35)) ((w.alloc (.cells c 35)).alloc (.cells f 125)) from X_));have B1:=hid (show Blk ((w.alloc (.cells c 35)).alloc (.cells f 125)) (w.heap.size+1) 125 f from by have q:=(aPh (w.alloc (.cells c 35)) 125 f).ext (show Ext ((w.alloc (.cells c 35)).alloc (.cells f 125)) ((w.alloc (.cells c 35)).alloc (.cells f 125)) from X_);simp only [aO6] at q;exact q);have X0:=hid (show Ext w ((w.alloc (.cells c 35)).alloc (.cells f 125)) from X_);go_enter func98,ntmps98;go_wp2_with fail;refine z_ (aE J1 _) ?_;go_upto_region 4 with fail
 obtain ⟨W,hW⟩:∃W,(((w.alloc (.cells c 35)).alloc (.cells f 125)).alloc (.cells #[] 155))=W:=⟨_,rfl⟩
 have OW:aF Mc.cs (w.heap.size+2) 155 12 (((w.alloc (.cells c 35)).alloc (.cells f 125)).alloc (.cells #[] 155)) (.slice (some ⟨w.heap.size+2,0,none⟩) 0 0) []:=aF.freshC (aO3 _) (by have q:=aPh ((w.alloc (.cells c 35)).alloc (.cells f 125)) 155 [];simp only [aO6] at q;exact q);have YW:Ext ((w.alloc (.cells c 35)).alloc (.cells f 125)) (((w.alloc (.cells c 35)).alloc (.cells f 125)).alloc (.cells #[] 155)):=X_;replace B0:=hid (B0.ext YW);replace B1:=hid (B1.ext YW);replace X0:=hid (X0.trans YW);clear YW
 try simp only [aO6]
 rw [hW];rw [hW] at B0 B1 X0 OW;have OO:=hid OW;clear hW OW;go_wp2_with fail
 go_loopw [11,12] (fun l x wr=>∃r:Nat,r<=n/\x = .int .i64 (r:Nat)/\Ext w wr/\Blk wr w.heap.size 35 c/\Blk wr (w.heap.size+1) 125 f/\aF Mc.cs (w.heap.size+2) 155 12 wr l (pF c f n s (r*n))) (fun _ x _=>n - (intOf x).toNat)
 case atStart=>exact ⟨0,by omega,rfl,X0,B0,B1,by rw [aTo];exact OO⟩
 case round=>
  obtain ⟨r,hr,rfl,hx,h0,h1,ho⟩:=hrel;clear B0 B1 X0 OO;have X0:=hid hx;have B0:=hid h0;have B1:=hid h1;have OO:=hid ho;obtain ⟨la,lc,rfl,-⟩:=aF.form ho;clear hx h0 h1 ho
  rcases aQ3 r n with hrn|hrn
  ·go_wp2_with fail
   obtain ⟨WA,h9⟩:∃W,W=wr:=⟨_,rfl⟩
   rw [<-h9] at B0 B1 X0 OO ⊢;clear h9
   go_loopw [11,13] (fun l x wr=>∃q:Nat,q<=n/\x = .int .i64 (q:Nat)/\Ext w wr/\Blk wr w.heap.size 35 c/\Blk wr (w.heap.size+1) 125 f/\aF Mc.cs (w.heap.size+2) 155 12 wr l (pF c f n s (r*n+q))) (fun _ x _=>n - (intOf x).toNat)
   case atStart=>exact ⟨0,by omega,rfl,X0,B0,B1,by rw [aQ1];exact OO⟩
   case round=>
    obtain ⟨q,hq,rfl,hx,h0,h1,ho⟩:=hrel;clear B0 B1 X0 OO;have X0:=hid hx;have B0:=hid h0;have B1:=hid h1;have OO:=hid ho;have h6:=aA6 c f n s (r*n+q)
    have q5:r*n+q<=64:=by
     have h:=aP4 (show r<=7 by have:=HN.out;omega) (show n<=8 by have:=HN.out;omega);have:=HN.out;omega
    have h3:=hid (show (pF c f n s (r*n+q)).length<=200 by omega);clear h6 q5
    rcases aQ3 q n with hqn|hqn
    ·have h4:=hid (aFc c f n s (v:=r) hqn)
     obtain ⟨T,hT⟩:∃T,pF c f n s (r*n+q)=T:=⟨_,rfl⟩
     rw [hT] at ho OO h3 h4;clear hT;obtain ⟨ma,mc,rfl,-⟩:=aF.form ho;have ZW:=hx.size;clear hx h0 h1 ho;have p:=B0.lt;obtain ⟨p0,p1,p2,p3,p4,p5,p6⟩:=B0.q7;have g:=B1.lt;obtain ⟨g0,g1,g2,g3,g4,g5,g6,g7,g8,g9,q2,q3⟩:=B1.q12;go_wp2_with fail;refine (xS c f n s q r ⟨HN.1,by have:=HN.out;omega⟩ hqn hrn _).mono ?_;rintro e w5 ⟨d,rfl,hD,x5⟩;have hR:=hD.rd;have h5:=iH c f n s q r
     obtain ⟨L,hL⟩:∃L,fK c f n s q r=L:=⟨_,rfl⟩
     replace h4:=hid (hL▸h4.out);rw [hL] at hR h5;clear hL;obtain ⟨da,dc,rfl,-,-,h8⟩:=hR.form;have HR:=hid h8;have O5:=hid (OO.ext x5);have C0:=hid (B0.ext x5);have C1:=hid (B1.ext x5);have CX:=hid (X0.trans x5);have z5:=CX.size;have h7:=hid h5;have q6:=C1.lt;clear hD hR h8 h5 x5 p p0 p1 p2 p3 p4 p5 p6 g g0 g1 g2 g3 g4 g5 g6 g7 g8 g9 q2 q3;go_wp2_with (at_builtin;refine gD Mc.cs 155 12 96 _ w5 rfl _ _ 148 rfl underlying148 uU rfl (by decide) (by decide) (fun _=>rfl) Mc.oneC (w.heap.size+2) (.slice ma T.length mc) T rfl O5 _ _ (.slice da L.length dc) L rfl HR (by have:=h3.out;have:=h7.out;omega) (by omega) ?_;intro v6 w6 hown hg);have h2:=aF.rowE O5;have RX:=hid (aQj CX hg (fun k e=>by have:=(h2 k e).1;omega));have R0:=hid (C0.grown hg (fun e=>by have:=(h2 _ e.symm).1;omega));have R1:=hid (C1.grown hg (fun e=>by have:=(h2 _ e.symm).1;omega));have RO:=hid hown;clear hown hg h2;have q0:=HN.out;have HW:=hid (show wrap64 ((q:Int)+1)=((q+1:Nat):Int) by rw [aD (by omega) (by omega)];omega);have q1:=hid (show aF Mc.cs (w.heap.size+2) 155 12 w6 v6 (pF c f n s (r*n+(q+1))) by rw [h4];exact RO)
     obtain ⟨n8,q4⟩:∃b:Nat,n=b:=⟨_,rfl⟩
     clear h3 h7 HR O5 C0 C1 CX h4 RO HN q0 q4 n8;go_wp2;go_roundw
     case rel=>exact ⟨q+1,by omega,congrArg (aR9 .i64) HW,RX,R0,R1,q1⟩
     case measure=>
      rw [HW]
      show n - (q+1)<n - q
      omega
    ·obtain rfl:q=n:=by omega
     obtain ⟨ma,mc,rfl,-⟩:=aF.form ho;clear hx h0 h1 ho;have q0:=HN.out;go_wp2;go_roundw
     case rel=>exact ⟨r+1,by omega,by go_num,X0,B0,B1,by rw [Nat.succ_mul];exact OO⟩
     case measure=>simp [intOf];omega
  ·obtain rfl:r=n:=by omega
   go_wp2;go_ret;exact ⟨_,rfl,aF.low (show aF Mc.cs (w.heap.size+2) 155 12 wr _ (jJ c f _ s) from OO) (by omega),X0⟩
structure aFd (s:Scn) (h:Nat) (w:World) (cv av:Value):Prop where
 hh:h<=w.heap.size
 c:∃us:List Value,us.length=s.m/\Rd (fun u=>[u]) 0 h w cv us/\∀k u,us[k]?=some u->aS 0 h w u (s.shade k).1
 a:∃us:List Value,us.length=s.m/\Rd (fun u=>[u]) 0 h w av us/\∀k u,us[k]?=some u->aS 0 h w u (s.shade k).2
theorem Rd.low0 {α : Type} {cs : α->List Value} {ys:List α} (h:Rd cs lo hi w v ys):Rd cs 0 hi w v ys:=by
 obtain ⟨ad,c,h1,h2,h3,h4,h5⟩:=h;refine ⟨ad,c,h1,h2,h3,h4,?_⟩
 rcases h5 with h5|⟨b,off,e,l1,l2,hc⟩
 ·exact .inl h5
 ·exact .inr ⟨b,off,e,Nat.zero_le _,l2,hc⟩
theorem aC3.rd {s:Scn} (h:aC3 s lo w cv av s.m):aFd s w.heap.size w cv av:=by
 obtain ⟨us,h1,h2,h3⟩:=h.c.ints;obtain ⟨h0,k1,k2,k3⟩:=h.a.ints;rw [rE] at h1;rw [sZ] at k1;refine ⟨aO3 _,⟨us,h1,h2.low0,fun k u hu=>h3 k u _ hu (aJs s ?_)⟩,h0,k1,k2.low0,fun k u hu=>k3 k u _ hu (aLh s ?_)⟩
 ·have:=(aO7.1 hu).1
  omega
 ·have:=(aO7.1 hu).1
  omega
theorem aFd.at {s:Scn} (r:aFd s h w cv av) (hk:k<s.m) :
  ∃bc oc cc ba oa ca a4 c4 a5 c5,cv = .slice (some ⟨bc,oc,none⟩) s.m cc/\av = .slice (some ⟨ba,oa,none⟩) s.m ca/\bc<h/\ba<h/\w.cell? ⟨bc,oc+k,none⟩=some (.slice a4 (s.shade k).1.length c4)/\w.cell? ⟨ba,oa+k,none⟩=some (.slice a5 (s.shade k).2.length c5)/\fL 0 h w a4 c4 (s.shade k).1/\fL 0 h w a5 c5 (s.shade k).2:=by
 obtain ⟨hh,⟨us,h1,h2,h3⟩,us2,k1,k2,k3⟩:=r;obtain ⟨ad,cc,rfl,-,-,q2⟩:=h2.form;obtain ⟨h5,ca,rfl,-,-,q4⟩:=k2.form
 obtain ⟨u,hu⟩:∃u,us[k]?=some u:=⟨_,aPo (by omega)⟩
 obtain ⟨u2,h0⟩:∃u,us2[k]?=some u:=⟨_,aPo (by omega)⟩
 obtain ⟨bc,oc,rfl,-,l1,hc⟩:=Rd.at (sz:=1) (fun _=>rfl) q2 hu;obtain ⟨ba,oa,rfl,-,l2,h4⟩:=Rd.at (sz:=1) (fun _=>rfl) q4 h0;obtain ⟨a4,c4,rfl,i4⟩:=(h3 k u hu).open;obtain ⟨a5,c5,rfl,i5⟩:=(k3 k u2 h0).open;have e1:=hc 0 (by omega);have e2:=h4 0 (by omega);rw [Nat.mul_one,aQ1] at e1 e2;exact ⟨bc,oc,cc,ba,oa,ca,a4,c4,a5,c5,by rw [h1],by rw [k1],l1,l2,e1,e2,i4,i5⟩
theorem aA7 (s:Scn) (lo hi h0:Nat) (v cv av:Value) (k:Nat) (p:Smp) (n:Nat) (cols als:List Int) (w:World) (hv:s.R lo hi w v) (hh:hi<=w.heap.size) (hk:k<s.m) (hm5:s.m<=5) (hr:s.rt k=(n:Nat)) (hn:1<=n/\n<=8) (hp:p.okB s.c=true)
  (hd:aFd s h0 w cv av) (hlc:cols.length=n*n) (hla:als.length=n*n) (hcols:(s.shade k).1=cols) (hals:(s.shade k).2=als) :
  Calls aPa 55 #[v,.agg #[cv,av],(k:Nat),.agg #[p.x,p.y,p.t,p.lx,p.ly]] w fun e w'=>∃r,e = .returned r/\aF cV.cs w.heap.size 95 5 w' r (sM s.c (aW (s.st k) (s.en k) p.t) n p (k:Nat) cols als)/\Ext w w':=by
 obtain ⟨a1,c1,a2,c2,a3,c3,rfl,-,-,-,-,-,hF⟩:=hv.form;have i2:=hd.hh;obtain ⟨bc,oc,cc,ba,oa,ca,a4,c4,a5,c5,rfl,rfl,lc,la,ec,ea,hC,hA⟩:=hd.at hk;rw [hcols] at ec hC;rw [hals] at ea hA;have e8:=hF.cap;have i5:=hF.le;obtain ⟨b,h7,rfl,i0,i1,h3⟩:=hF.at hk (by decide)
 obtain ⟨f,hf⟩:∃f,s.st k=f:=⟨_,rfl⟩
 obtain ⟨g,hg⟩:∃f,s.en k=f:=⟨_,rfl⟩
 obtain ⟨sh,b1⟩:∃f,s.sh k=f:=⟨_,rfl⟩
 have bw:b<w.heap.size:=by omega
 have xw:Ext w (((w.alloc (.cells (sA_ s a1 c1 a2 c2 (some ⟨b,h7,none⟩) c3) 40)).alloc (.cells #[.slice (some ⟨bc,oc,none⟩) s.m cc,.slice (some ⟨ba,oa,none⟩) s.m ca] 78)).alloc (.cells #[p.x,p.y,p.t,p.lx,p.ly] 42)):=X_
 have q6:(((w.alloc (.cells (sA_ s a1 c1 a2 c2 (some ⟨b,h7,none⟩) c3) 40)).alloc (.cells #[.slice (some ⟨bc,oc,none⟩) s.m cc,.slice (some ⟨ba,oa,none⟩) s.m ca] 78)).alloc (.cells #[p.x,p.y,p.t,p.lx,p.ly] 42)).rangeAt b (h7+k*26) ((aPu 26).map fun j=>.int .i64 (s.F (k*26+j))):=by
  intro j v hj;obtain ⟨h1,h2⟩:=aO7.1 hj;simp only [aQg,aSn] at h1;simp only [aTe,aSe] at h2;subst h2;exact (xw.cells.1 b _ bw).trans (h3 j h1)
 change (((w.alloc (.cells (sA_ s a1 c1 a2 c2 (some ⟨b,h7,none⟩) c3) 40)).alloc (.cells #[.slice (some ⟨bc,oc,none⟩) s.m cc,.slice (some ⟨ba,oa,none⟩) s.m ca] 78)).alloc (.cells #[p.x,p.y,p.t,p.lx,p.ly] 42)).rangeAt b (h7+k*26) [(s.st k 0),(s.st k 1),(s.st k 2),(s.st k 3),(s.st k 4),(s.st k 5),(s.st k 6),(s.st k 7),(s.st k 8),(s.st k 9),(s.st k 10),(s.st k 11),(s.en k 0),(s.en k 1),(s.en k 2),(s.en k 3),(s.en k 4),(s.en k 5),(s.en k 6),(s.en k 7),(s.en k 8),(s.en k 9),(s.en k 10),(s.en k 11),(s.sh k),(s.rt k)] at q6;simp only [hf,hg,b1,hr] at q6;have q0:=aPh w 40 (sL_ s a1 c1 a2 c2 (some ⟨b,h7,none⟩) c3);have q1:=aPh (w.alloc (.cells (sA_ s a1 c1 a2 c2 (some ⟨b,h7,none⟩) c3) 40)) 78 [.slice (some ⟨bc,oc,none⟩) s.m cc,.slice (some ⟨ba,oa,none⟩) s.m ca];have q2:=aPh ((w.alloc (.cells (sA_ s a1 c1 a2 c2 (some ⟨b,h7,none⟩) c3) 40)).alloc (.cells #[.slice (some ⟨bc,oc,none⟩) s.m cc,.slice (some ⟨ba,oa,none⟩) s.m ca] 78)) 42 [p.x,p.y,p.t,p.lx,p.ly];simp only [aO6] at q1 q2;have r0:=q0.ext (show Ext (w.alloc (.cells (sA_ s a1 c1 a2 c2 (some ⟨b,h7,none⟩) c3) 40)) (((w.alloc (.cells (sA_ s a1 c1 a2 c2 (some ⟨b,h7,none⟩) c3) 40)).alloc (.cells #[.slice (some ⟨bc,oc,none⟩) s.m cc,.slice (some ⟨ba,oa,none⟩) s.m ca] 78)).alloc (.cells #[p.x,p.y,p.t,p.lx,p.ly] 42)) from X_);have r1:=q1.ext (show Ext ((w.alloc (.cells (sA_ s a1 c1 a2 c2 (some ⟨b,h7,none⟩) c3) 40)).alloc (.cells #[.slice (some ⟨bc,oc,none⟩) s.m cc,.slice (some ⟨ba,oa,none⟩) s.m ca] 78)) (((w.alloc (.cells (sA_ s a1 c1 a2 c2 (some ⟨b,h7,none⟩) c3) 40)).alloc (.cells #[.slice (some ⟨bc,oc,none⟩) s.m cc,.slice (some ⟨ba,oa,none⟩) s.m ca] 78)).alloc (.cells #[p.x,p.y,p.t,p.lx,p.ly] 42)) from X_);have r2:=q2.ext (show Ext (((w.alloc (.cells (sA_ s a1 c1 a2 c2 (some ⟨b,h7,none⟩) c3) 40)).alloc (.cells #[.slice (some ⟨bc,oc,none⟩) s.m cc,.slice (some ⟨ba,oa,none⟩) s.m ca] 78)).alloc (.cells #[p.x,p.y,p.t,p.lx,p.ly] 42)) (((w.alloc (.cells (sA_ s a1 c1 a2 c2 (some ⟨b,h7,none⟩) c3) 40)).alloc (.cells #[.slice (some ⟨bc,oc,none⟩) s.m cc,.slice (some ⟨ba,oa,none⟩) s.m ca] 78)).alloc (.cells #[p.x,p.y,p.t,p.lx,p.ly] 42)) from X_)
 have z3:(((w.alloc (.cells (sA_ s a1 c1 a2 c2 (some ⟨b,h7,none⟩) c3) 40)).alloc (.cells #[.slice (some ⟨bc,oc,none⟩) s.m cc,.slice (some ⟨ba,oa,none⟩) s.m ca] 78)).alloc (.cells #[p.x,p.y,p.t,p.lx,p.ly] 42)).heap.size=w.heap.size+3:=by simp
 have HC:=hid hC;have HA:=hid hA;have b7:=hid ec;have b6:=hid ea;have HP:=hid hp
 have ht:0<=p.t/\p.t<=16:=by
  unfold Smp.okB at hp;simp only [aPk,aG] at hp;omega
 have HT:=hid ht;have d1:=hid hlc;have b9:=hid hla;clear hlc hla q0 q1 q2 hC hA ec ea hp ht h3 hF hv b1 hr hd hcols hals;rw [hf,hg,vY];have z7:=aCr (c:=s.c) (f:=aW f g p.t) (n:=n) (s:=p) hn.1;have z4:=rA s.c (aW f g p.t) p hn.2
 obtain ⟨M,q4⟩:∃M,jJ s.c (aW f g p.t) n p=M:=⟨_,rfl⟩
 rw [q4] at z7 z4 ⊢;have d5:=hid z7;have d3:=hid z4;have d4:=hid q4;clear hf hg z7 z4 q4;go_enter func55,ntmps55;go_upto_region 1 with fail
 obtain ⟨W0,x1⟩:∃W0,(((w.alloc (.cells (sA_ s a1 c1 a2 c2 (some ⟨b,h7,none⟩) c3) 40)).alloc (.cells #[.slice (some ⟨bc,oc,none⟩) s.m cc,.slice (some ⟨ba,oa,none⟩) s.m ca] 78)).alloc (.cells #[p.x,p.y,p.t,p.lx,p.ly] 42))=W0:=⟨_,rfl⟩
 rw [x1] at q6 r0 r1 r2 z3 xw
 try simp only [aO6] at x1
 rw [x1];clear x1
 have bl:b<W0.heap.size:=by omega
 have d0:=r0.cell 10 rfl;have l0:=r0.lt;have R0:=hid r0;have R1:=hid r1;have R2:=hid r2;have XW:=hid xw;have Z3:=hid z3
 have i4:((k:Nat):Int)<(s.m:Nat):=by omega
 have q8:(W0.alloc (.cells #[] 95)).rangeAt b (h7+k*26) [(f 0),(f 1),(f 2),(f 3),(f 4),(f 5),(f 6),(f 7),(f 8),(f 9),(f 10),(f 11),(g 0),(g 1),(g 2),(g 3),(g 4),(g 5),(g 6),(g 7),(g 8),(g 9),(g 10),(g 11),sh,(n:Nat)]:=fun j v hj=>((show Ext W0 (W0.alloc (.cells #[] 95)) from X_).cells.1 b _ bl).trans (q6 j v hj);clear r0 r1 r2 xw z3 q6;go_upto_region 3 with (first|(show wpList _ _ _ [_,_,_] _ _;refine wpList_load_mid rfl _ _ rfl b (h7+k*26) rfl [(f 0),(f 1),(f 2),(f 3),(f 4),(f 5),(f 6),(f 7),(f 8),(f 9),(f 10),(f 11),(g 0),(g 1),(g 2),(g 3),(g 4),(g 5),(g 6),(g 7),(g 8),(g 9),(g 10),(g 11),sh,(n:Nat)] _ q8 underlying127 rfl fE ?_)|(show wpList _ _ _ [_] _ _;refine dE _ _ _ rfl 127 (.tmp 10) (.tmp 21) rfl rfl #[(f 0),(f 1),(f 2),(f 3),(f 4),(f 5),(f 6),(f 7),(f 8),(f 9),(f 10),(f 11),(g 0),(g 1),(g 2),(g 3),(g 4),(g 5),(g 6),(g 7),(g 8),(g 9),(g 10),(g 11),sh,(n:Nat)] (W0.heap.size+1) (by simp) rfl rfl (by kernel_rfl) (by kernel_rfl) (by kernel_rfl) ?_))
 have bS:Blk ((W0.alloc (.cells #[] 95)).alloc (.cells #[(f 0),(f 1),(f 2),(f 3),(f 4),(f 5),(f 6),(f 7),(f 8),(f 9),(f 10),(f 11),(g 0),(g 1),(g 2),(g 3),(g 4),(g 5),(g 6),(g 7),(g 8),(g 9),(g 10),(g 11),sh,(n:Nat)] 127)) (W0.heap.size+1) 127 [(f 0),(f 1),(f 2),(f 3),(f 4),(f 5),(f 6),(f 7),(f 8),(f 9),(f 10),(f 11),(g 0),(g 1),(g 2),(g 3),(g 4),(g 5),(g 6),(g 7),(g 8),(g 9),(g 10),(g 11),sh,(n:Nat)]:=by
  have q:=aPh (W0.alloc (.cells #[] 95)) 127 [(f 0),(f 1),(f 2),(f 3),(f 4),(f 5),(f 6),(f 7),(f 8),(f 9),(f 10),(f 11),(g 0),(g 1),(g 2),(g 3),(g 4),(g 5),(g 6),(g 7),(g 8),(g 9),(g 10),(g 11),sh,(n:Nat)];rw [aO6] at q;exact q
 have hO:aF cV.cs W0.heap.size 95 5 ((W0.alloc (.cells #[] 95)).alloc (.cells #[(f 0),(f 1),(f 2),(f 3),(f 4),(f 5),(f 6),(f 7),(f 8),(f 9),(f 10),(f 11),(g 0),(g 1),(g 2),(g 3),(g 4),(g 5),(g 6),(g 7),(g 8),(g 9),(g 10),(g 11),sh,(n:Nat)] 127)) (.slice (some ⟨W0.heap.size,0,none⟩) 0 0) []:=aF.ext (aF.fresh0 (aO3 _) (aPh W0 95 [])) (show Ext (W0.alloc (.cells #[] 95)) ((W0.alloc (.cells #[] 95)).alloc (.cells #[(f 0),(f 1),(f 2),(f 3),(f 4),(f 5),(f 6),(f 7),(f 8),(f 9),(f 10),(f 11),(g 0),(g 1),(g 2),(g 3),(g 4),(g 5),(g 6),(g 7),(g 8),(g 9),(g 10),(g 11),sh,(n:Nat)] 127)) from X_);have xa:Ext W0 ((W0.alloc (.cells #[] 95)).alloc (.cells #[(f 0),(f 1),(f 2),(f 3),(f 4),(f 5),(f 6),(f 7),(f 8),(f 9),(f 10),(f 11),(g 0),(g 1),(g 2),(g 3),(g 4),(g 5),(g 6),(g 7),(g 8),(g 9),(g 10),(g 11),sh,(n:Nat)] 127)):=X_
 obtain ⟨wc,b3⟩:∃W,((W0.alloc (.cells #[] 95)).alloc (.cells #[(f 0),(f 1),(f 2),(f 3),(f 4),(f 5),(f 6),(f 7),(f 8),(f 9),(f 10),(f 11),(g 0),(g 1),(g 2),(g 3),(g 4),(g 5),(g 6),(g 7),(g 8),(g 9),(g 10),(g 11),sh,(n:Nat)] 127))=W:=⟨_,rfl⟩
 rw [b3] at bS hO xa ⊢;clear b3 q8
 obtain ⟨A,a6⟩:∃A,W0.heap.size+1=A:=⟨_,rfl⟩
 rw [a6] at bS ⊢;have HS:=hid bS;have HO:=hid hO;have HX:=hid xa;have lA:=bS.lt;have g1:=xa.size;have d7:=bS.cell 25 rfl
 have a8:wc.rangeAt A 0 [(f 0),(f 1),(f 2),(f 3),(f 4),(f 5),(f 6),(f 7),(f 8),(f 9),(f 10),(f 11),(g 0),(g 1),(g 2),(g 3),(g 4),(g 5),(g 6),(g 7),(g 8),(g 9),(g 10),(g 11),sh,(n:Nat)]:=fun j v hj=>by rw [aP0];exact bS.cell j hj
 have e0:=R0.ext xa;have e1:=R2.ext xa;obtain ⟨m0,m1,m2,m3,m4,m5,m6⟩:=e0.q7;have s2:=e1.cell 2 rfl;have s3:=e1.cell 3 rfl;have s4:=e1.cell 4 rfl;have l1:=e0.lt;have l2:=e1.lt;clear e0 e1 bS hO xa d0 l0 R0;refine aA [([0,1,2,3,4,6,7,8,9,10,11,14],5),([],12),([],13)] 99 wc.heap.size (by kernel_rfl) (by kernel_rfl) ?_;refine aI ?_;simp only [aPt,aPn,aO9,aO4,aO5]
 show wpQuiet _ _ _ _ [_,_,_,_,_,_,_,_,_,_,_,_] _
 go_big_quiet_step (fail)
 go_big_quiet_step (fail)
 refine eG rfl _ _ rfl A 0 rfl [(f 0),(f 1),(f 2),(f 3),(f 4),(f 5),(f 6),(f 7),(f 8),(f 9),(f 10),(f 11),(g 0),(g 1),(g 2),(g 3),(g 4),(g 5),(g 6),(g 7),(g 8),(g 9),(g 10),(g 11),sh,(n:Nat)] _ (by rintro _ ⟨d,rfl⟩ j v hj;rw [iP _ _ _ _ lA];exact a8 j v hj) underlying127 rfl fE ?_
 try simp only [Act.put,aPb,aPj,aPi]
 repeat (go_big_quiet_step (fail))
 refine wpQuiet_nil ⟨_,rfl,fun K hK=>?_⟩;go_wp2_with fail;refine r_ (wF f g sh (n:Nat) p.t HT _) fun w5 x5=>?_;have y5:Ext wc w5:=aPc (aP9 (aPg _)) x5;go_wp2_with fail;refine k_ hK ?_;clear hK K;refine st_ fun K hK=>?_;go_wp2_with fail;refine (wG s.c (aW f g p.t) n p hn _).mono ?_;rintro e w6 ⟨r',rfl,hM,x6⟩;rw [d4] at hM;have y6:=y5.trans x6;obtain ⟨ta,tc,rfl,g2⟩:=aF.form hM;go_wp2_with fail;refine k_ hK ?_;clear hK K;refine st_ fun K hK=>?_;go_wp2_with fail;refine k_ hK ?_;clear hK K;refine aC ?_;go_wp2_with fail;have y2:=hid (hM.low (lo':=W0.heap.size) (by have:=y5.size;omega));have y0:=hid (HO.ext y6);have y4:=hid (HX.trans y6);clear hM y5 y6 x5 x6 a8 HS HO HX d7 m0 m1 m2 m3 m4 m5 m6 s2 s3 s4 lA g1 l1 l2 a6
 have hs:(-100000<=p.x/\p.x<=100000)/\(-100000<=p.y/\p.y<=100000):=by
  have hq:=HP.out;unfold Smp.okB at hq;simp only [aPk,aG] at hq;obtain ⟨⟨⟨⟨⟨q1,q2⟩,q3⟩,-⟩,-⟩,-⟩:=hq;have h1:=(Cam.okB_iff.1 q1).w;have h2:=(Cam.okB_iff.1 q1).h;omega
 have y8:=hid hs;clear hs
 go_loopw [9,36] (fun v i wr=>∃j:Nat,j<=M.length/\i = .int .i64 (j:Nat)/\Ext W0 wr/\aF Mc.cs W0.heap.size 155 12 wr (.slice ta M.length tc) M/\aF cV.cs W0.heap.size 95 5 wr v (aAv p (k:Nat) cols als M j)) (fun _ i _=>M.length - (intOf i).toNat)
 case atStart=>exact ⟨0,by omega,rfl,y4,y2,y0⟩
 case round=>
  obtain ⟨j,hj,rfl,hx,hm,ho⟩:=hrel;have x0:=hid hx;have y1:=hid hm;have x4:=hid ho;clear y4 y2 y0
  rcases aQ3 j M.length with hlt|hge
  ·obtain ⟨m,x2⟩:∃m,M[j]?=some m:=⟨_,aPo hlt⟩
   have h6:=d5.out m (aPv x2);obtain ⟨gm,cap,he,-,e4,x9,e3,-,h3⟩:=aF.at hm (fun _=>rfl) x2;simp only [aPz,true_and] at he;obtain ⟨rfl,rfl⟩:=he;have c0:=h3 0 (by decide);have c1:=h3 1 (by decide);have c2:=h3 2 (by decide);have c3:=h3 3 (by decide);have c4:=h3 4 (by decide);have c5:=h3 5 (by decide);have c6:=h3 6 (by decide);have c7:=h3 7 (by decide);have c8:=h3 8 (by decide);have c9:=h3 9 (by decide);have y9:=h3 10 (by decide);have a0:=h3 11 (by decide);simp only [Mc.cs,aG5,aQ1,aO4,aO5] at c0 c1 c2 c3 c4 c5 c6 c7 c8 c9 y9 a0;have e1:=R2.ext hx;obtain ⟨s0,s1⟩:=e1.q2;have l1:=e1.lt;have y3:=hid x2;clear hx hm ho h3 x2 e1;go_wp2_with fail
   by_cases h8:pP m.a m.b m.d p.at=true
   ·refine (aFa m.a.x m.a.y m.a.z m.b.x m.b.y m.b.z m.d.x m.d.y m.d.z h6.a h6.b h6.d h6.z p.x p.y y8 h8 (r:=dX m.a m.b m.d p.at) rfl _).mono ?_
    rintro e w7 ⟨rfl,x7⟩;have y7:Ext wr w7:=aPc (show Ext wr (wr.alloc (.cells #[m.a.x,m.a.y,m.a.z,m.b.x,m.b.y,m.b.z,m.d.x,m.d.y,m.d.z,m.u,m.v,m.n] 155)) from X_) x7;have hX:=hid (x0.trans y7);have q4:=hid (y1.ext y7);have z0:=hid (x4.ext y7);have q5:=(aPh wr 155 [m.a.x,m.a.y,m.a.z,m.b.x,m.b.y,m.b.z,m.d.x,m.d.y,m.d.z,m.u,m.v,m.n]).ext x7;have k9:=q5.cell 9 rfl;have i6:=q5.cell 10 rfl;have i7:=q5.cell 11 rfl;have kl:=q5.lt;have e2:=R1.ext (x0.trans y7);obtain ⟨t0,t1⟩:=e2.q2;have tl:=e2.lt;obtain ⟨u,vv,hu,z9,z6,lu,lv⟩:=h6.q
    have g0:vv*n+u<n*n:=by
     have h:=Nat.mul_le_mul_right n (show vv+1<=n by omega);rw [aRj,aRl] at h;omega
    have z5:n*n<=64:=aP4 hn.2 hn.2
    obtain ⟨q,hq⟩:∃q:Nat,vv*n+u=q:=⟨_,rfl⟩
    have x8:m.v*m.n+m.u=(q:Nat):=by rw [hu,z9,z6,<-hq,aQ8,aSc]
    obtain ⟨pr,x3⟩:∃pr,m.v*m.n=pr:=⟨_,rfl⟩
    have z8:pr=((vv*n:Nat):Int):=by rw [<-x3,z9,z6,aSc]
    have i8:wrap64 (m.v*m.n)=pr:=by rw [x3];exact aD (by omega) (by omega)
    have i9:wrap64 (pr+m.u)=(q:Nat):=by rw [<-x3,x8];exact aD (by omega) (by omega)
    have a9:q<cols.length:=by rw [d1];omega
    have b0:q<als.length:=by rw [b9];omega
    obtain ⟨b4,o4,rfl,-,h4,ct⟩:=HC.at a9;obtain ⟨b5,o5,rfl,-,h5,dt⟩:=HA.at b0;have xt:=XW.trans hX.out;have d8:=(xt.cells.1 b4 _ (by omega)).trans ct;have d9:=(xt.cells.1 b5 _ (by omega)).trans dt;have g7:=(xt.cells.1 bc _ (by omega)).trans b7;have g3:=(xt.cells.1 ba _ (by omega)).trans b6
    obtain ⟨cv,z2⟩:∃c,cols[q]=c:=⟨_,rfl⟩
    obtain ⟨av,z1⟩:∃c,als[q]=c:=⟨_,rfl⟩
    rw [z2] at d8;rw [z1] at d9
    have e9:=hid (show pZ p (k:Nat) cols als m=[⟨dX m.a m.b m.d p.at,(k:Nat),(q:Nat),cv,av⟩] by
     unfold pZ;rw [if_pos h8,x8,aPw,aPx,aPx,aPo a9,aPo b0,z2,z1]
     rfl)
    have z3:=Z3.out
    have g4:b4<W0.heap.size:=by omega
    have g5:b5<W0.heap.size:=by omega
    have g9:bc<W0.heap.size:=by omega
    have g8:ba<W0.heap.size:=by omega
    have g6:w.heap.size+1<W0.heap.size:=by omega
    clear z3 h8 q5 e2 y7 x7 hu z9 z6 lu lv g0 z5 hq x8 x3 z8 ct dt z2 z1 xt h4 h5 h6 c0 c1 c2 c3 c4 c5 c6 c7 c8 c9 y9 a0 s0 s1 l1 e4 x9 e3;go_wp2_with fail;refine aO [([0,1,2,3,4,5,6,7,8,9,10,11,12,13,14,15,16,17,18,19,20],21),([],22),([],23)] 23 (fun w'=>∃d,w'=gY (CHt W0.heap.size) _ d) (by kernel_rfl) (by kernel_rfl) (SC.drew _ _) ?_;refine sc_ fun K hK=>?_;go_wp2_with fail;have b2:=hX.out.size;refine hK _ _ (.inr (SC.blocks fun a ha=>aPf (w:=w7) X_ (aQe ha b2))) ?_;clear hK K;have HB:=hid (aPh w7.drew 95 [(dX m.a m.b m.d p.at),(k:Nat),(q:Nat),cv,av]);have a7:=hid (z0.out.ext (show Ext w7 (w7.drew.alloc (.cells #[(dX m.a m.b m.d p.at),(k:Nat),(q:Nat),cv,av] 95)) from X_));have e6:=hid (q4.out.ext (show Ext w7 (w7.drew.alloc (.cells #[(dX m.a m.b m.d p.at),(k:Nat),(q:Nat),cv,av] 95)) from X_));have e7:=hid (hX.out.trans (show Ext w7 (w7.drew.alloc (.cells #[(dX m.a m.b m.d p.at),(k:Nat),(q:Nat),cv,av] 95)) from X_));have i3:=sY p (k:Nat) cols als M j;refine sc_ fun K hK=>?_
    refine lD _ rfl _ _ rfl W0.heap.size _ _ rfl a7.out ⟨dX m.a m.b m.d p.at,(k:Nat),(q:Nat),cv,av⟩ w7.heap.size rfl (fun q hq=>by
      rcases (show q=0\/q=1\/q=2\/q=3\/q=4 by omega) with rfl|rfl|rfl|rfl|rfl
      ·exact HB.cell 0 rfl
      ·exact HB.cell 1 rfl
      ·exact HB.cell 2 rfl
      ·exact HB.cell 3 rfl
      ·exact HB.cell 4 rfl) (by have:=d3.out;omega) (by simp;omega) ?_
    intro v2 w9 q9 hg;have h9:=aF.rowE a7.out;have b8:=hid q9;have d6:=hid (aQj e7.out hg (fun k e=>(h9 k e).1));have d2:=hid (e6.out.grownE hg (by decide) (fun k e=>(h9 k e).2));have e5:=hid (fun a:Addr=>fun ha:CHt W0.heap.size a=>show w9.heap[a.block]?=w7.drew.heap[a.block]? from (hg.block _ (by have:a.block<W0.heap.size:=ha;simp;omega) (fun e=>by have h1:=(h9 _ e.symm).1;have h2:a.block<W0.heap.size:=ha;omega)).trans (aPf (w:=w7) X_ (aQe ha b2)));clear q9 hg h9;go_wp2_with fail;refine hK _ _ (.inr (SC.blocks fun a ha=>e5.out a ha)) ?_;clear hK K;refine sc_ fun K hK=>?_;go_wp2_with fail;refine l_ hK ?_;clear hK K;refine aZ ?_;go_wp2;go_roundw
    case rel=>exact ⟨j+1,by omega,by go_num,d6,d2,by rw [lC y3,e9.out];exact b8⟩
    case measure=>simp [intOf];omega
   ·refine (aH1 m.a.x m.a.y m.a.z m.b.x m.b.y m.b.z m.d.x m.d.y m.d.z h6.a h6.b h6.d h6.z p.x p.y y8 (Bool.eq_false_iff.2 h8) _).mono ?_
    rintro e w7 ⟨rfl,x7⟩;have y7:Ext wr w7:=aPc (show Ext wr (wr.alloc (.cells #[m.a.x,m.a.y,m.a.z,m.b.x,m.b.y,m.b.z,m.d.x,m.d.y,m.d.z,m.u,m.v,m.n] 155)) from X_) x7;have hX:=hid (x0.trans y7);have q4:=hid (y1.ext y7);have z0:=hid (x4.ext y7);go_wp2;go_roundw
    case rel=>exact ⟨j+1,by omega,by go_num,hX.out,q4.out,by rw [lC y3];unfold pZ;rw [if_neg h8,aSr];exact z0.out⟩
    case measure=>simp [intOf];omega
  ·obtain rfl:j=M.length:=by omega
   go_wp2;go_ret;refine ⟨_,rfl,?_,XW.trans x0⟩;rw [<-aCs];exact aF.low x4 (by have:=Z3.out;omega)
theorem xT (s:Scn) (lo hi h0:Nat) (v cv av:Value) (k:Nat) (p:Smp) (w:World) (hv:s.R lo hi w v) (hh:hi<=w.heap.size) (ho:s.Ok) (hk:k<s.m) (hp:p.okB s.c=true) (hd:aFd s h0 w cv av) :
  Calls aPa 55 #[v,.agg #[cv,av],(k:Nat),.agg #[p.x,p.y,p.t,p.lx,p.ly]] w fun e w'=>∃r,e = .returned r/\aF cV.cs w.heap.size 95 5 w' r (s.hits k p)/\Ext w w':=by
 obtain ⟨q,n,-,-,h3,h4,h5,-,-⟩:=ho.at hk;have h1:=ho.shade hk;rw [h3,aPw] at h1
 have eh:sM s.c (aW (s.st k) (s.en k) p.t) n p (k:Nat) (s.shade k).1 (s.shade k).2=s.hits k p:=by unfold Scn.hits;rw [h3,aPw]
 rw [<-eh];exact aA7 s lo hi h0 v cv av k p n _ _ w hv hh hk ho.m h3 ⟨h4,h5⟩ hp hd h1.1 h1.2 rfl rfl
theorem aJx {m:Int}:inB (bD x 16) 0 (m - 1)=inB x 0 (m*16 - 1):=by
 have e:bD x 16=x / 16:=rfl;rw [Bool.eq_iff_iff,aG,aG,e];omega
theorem aA8 (c:Cam) (x y:Int) (hx:I64 x) (hy:I64 y) (w:World) :
  Calls aPa 147 #[.agg c,x,y] w fun e w'=>∃i j:Int,e = .returned (.tuple #[i,j,.bool (tH c x y)])/\Ext w w':=by
 have HX:=hid hx;have HY:=hid hy
 obtain ⟨i,hi⟩:∃i,bD x 16=i:=⟨_,rfl⟩
 obtain ⟨j,hj⟩:∃j,bD y 16=j:=⟨_,rfl⟩
 have HI:=hid hi;have HJ:=hid hj;have B0:=hid (aPh w 35 c);have X0:=hid (show Ext w (w.alloc (.cells c 35)) from X_)
 cases hb:c.okB
 ·have hp:tH c x y=false:=by unfold tH;rw [hb];rfl
  rw [hp];have HB:=hid hb;clear hx hy hi hj hb hp;go_enter func147,ntmps147;go_wp2_with fail;refine z_ (aR HX HI _) ?_;go_wp2_with fail;refine z_ (aR HY HJ _) ?_;go_wp2_with fail;refine r_ (aM HB _) fun w1 x1=>?_;go_wp2;exact bodyPost_ret (v:=.tuple #[(),(),.bool false]) (by simp [results,results147,go_sem, *]) rfl ⟨_,_,rfl,X0.trans x1⟩
 ·have hk:=Cam.okB_iff.1 hb
  have k1:=hk.w;have k2:=hk.h;have u1:wrap64 (c.w - 1)=c.w - 1:=aD (by omega) (by omega);have u2:wrap64 (c.h - 1)=c.h - 1:=aD (by omega) (by omega)
  obtain ⟨b1,h1⟩:∃b,inB i 0 (c.w - 1)=b:=⟨_,rfl⟩
  obtain ⟨b2,h2⟩:∃b,inB j 0 (c.h - 1)=b:=⟨_,rfl⟩
  have H1:=hid h1;have H2:=hid h2
  have hp:tH c x y=(b1&&b2):=by
   unfold tH;rw [hb,<-aJx,<-aJx,hi,hj,h1,h2]
   rfl
  rw [hp];have HB:=hid hb;have U1:=hid u1;have U2:=hid u2;clear hx hy hi hj hb hp h1 h2 hk k1 k2 u1 u2;go_enter func147,ntmps147;go_wp2_with fail;refine z_ (aR HX HI _) ?_;go_wp2_with fail;refine z_ (aR HY HJ _) ?_;go_wp2_with fail;refine r_ (aM HB _) fun w1 x1=>?_;replace B0:=hid (B0.ext x1);replace X0:=hid (X0.trans x1);have p:=B0.lt;obtain ⟨p0,p1,p2,p3,p4,p5,p6⟩:=B0.q7;have u1:=U1.out;have u2:=U2.out;go_wp2_with fail;refine z_ (aE H1 _) ?_
  cases b1
  ·go_wp2
   exact bodyPost_ret (v:=.tuple #[(),(),.bool false]) (by simp [results,results147,go_sem, *]) rfl ⟨_,_,rfl,X0⟩
  ·go_wp2_with fail
   refine z_ (aE H2 _) ?_
   cases b2
   ·go_wp2
    exact bodyPost_ret (v:=.tuple #[(),(),.bool false]) (by simp [results,results147,go_sem, *]) rfl ⟨_,_,rfl,X0⟩
   ·go_wp2
    exact bodyPost_ret (v:=.tuple #[i,j,.bool true]) (by simp [results,results147,go_sem, *]) rfl ⟨_,_,rfl,X0⟩
theorem qB (c:Cam) (p:Smp) (hx:I64 p.x) (hy:I64 p.y) (w:World) :
  R_ 97 #[.agg c,.agg #[p.x,p.y,p.t,p.lx,p.ly]] w (.bool (p.okB c)):=by
 have HX:=hid hx;have HY:=hid hy
 obtain ⟨b,hb⟩:∃b,tH c p.x p.y=b:=⟨_,rfl⟩
 obtain ⟨b1,h1⟩:∃b,inB p.t 0 15=b:=⟨_,rfl⟩
 obtain ⟨b2,h2⟩:∃b,inB p.lx (-16) 16=b:=⟨_,rfl⟩
 obtain ⟨b3,h3⟩:∃b,inB p.ly (-16) 16=b:=⟨_,rfl⟩
 have hr:p.okB c=(b&&b1&&b2&&b3):=by rw [Smp.okB_eq,hb,h1,h2,h3]
 rw [hr];have HB:=hid hb;have H1:=hid h1;have H2:=hid h2;have H3:=hid h3;have B1:=hid (show Blk ((w.alloc (.cells c 35)).alloc (.cells #[p.x,p.y,p.t,p.lx,p.ly] 42)) (w.heap.size+1) 42 [p.x,p.y,p.t,p.lx,p.ly] from by have q:=aPh (w.alloc (.cells c 35)) 42 [p.x,p.y,p.t,p.lx,p.ly];simp only [aO6] at q;exact q);have X0:=hid (show Ext w ((w.alloc (.cells c 35)).alloc (.cells #[p.x,p.y,p.t,p.lx,p.ly] 42)) from X_);clear hx hy hb h1 h2 h3 hr;go_enter func97,ntmps97;go_wp2_with fail;refine (aA8 c p.x p.y HX HY _).mono ?_;rintro e w1 ⟨i,j,rfl,x1⟩;rw [HB];replace B1:=hid (B1.ext x1);replace X0:=hid (X0.trans x1);have q:=B1.lt;obtain ⟨q0,q1,q2,q3,q4⟩:=B1.q5
 cases b
 ·go_wp2
  go_ret;exact ⟨rfl,X0⟩
 ·go_wp2_with fail
  refine z_ (aE H1 _) ?_
  cases b1
  ·go_wp2
   go_ret;exact ⟨rfl,X0⟩
  ·go_wp2_with fail
   refine z_ (aE H2 _) ?_
   cases b2
   ·go_wp2
    go_ret;exact ⟨rfl,X0⟩
   ·go_wp2_with fail
    refine z_ (aE H3 _) ?_;go_wp2;go_ret;exact ⟨rfl,X0⟩
theorem aFd.forms {s:Scn} (r:aFd s h w cv av):∃xa xc ya yc,cv = .slice xa s.m xc/\av = .slice ya s.m yc:=by
 obtain ⟨hh,⟨us,h1,h2,h3⟩,us2,k1,k2,k3⟩:=r;obtain ⟨ad,cc,rfl,-,-,-⟩:=h2.form;obtain ⟨h0,ca,rfl,-,-,-⟩:=k2.form;exact ⟨ad,cc,h0,ca,by rw [h1],by rw [k1]⟩
theorem aFe {s:Scn} {p:Smp} {b1 b2:Bool} (h1:s.okB=b1) (h2:p.okB s.c=b2) (lo hi:Nat) (v:Value) (w:World) (hv:s.R lo hi w v) (hh:hi<=w.heap.size) (hsm:s.small) (hx:I64 p.x) (hy:I64 p.y) :
  R_ 54 #[v,.agg #[p.x,p.y,p.t,p.lx,p.ly]] w (.bool (b1&&b2)):=by
 have HV:=hid hv;obtain ⟨a1,c1,a2,c2,a3,c3,rfl⟩:=hv.formV;have H1:=hid h1;have H2:=hid h2;have x7:=hid hsm;have HI:=hid (And.intro hx hy);clear hv h1 h2 hsm hx hy;have x0:Ext w ((w.alloc (.cells (sA_ s a1 c1 a2 c2 a3 c3) 40)).alloc (.cells #[p.x,p.y,p.t,p.lx,p.ly] 42)):=X_;have bS:=(aPh w 40 (sL_ s a1 c1 a2 c2 a3 c3)).ext (show Ext _ ((w.alloc (.cells (sA_ s a1 c1 a2 c2 a3 c3) 40)).alloc (.cells #[p.x,p.y,p.t,p.lx,p.ly] 42)) from X_);have bP:=(aPh (w.alloc (.cells (sA_ s a1 c1 a2 c2 a3 c3) 40)) 42 [p.x,p.y,p.t,p.lx,p.ly]).ext (show Ext _ ((w.alloc (.cells (sA_ s a1 c1 a2 c2 a3 c3) 40)).alloc (.cells #[p.x,p.y,p.t,p.lx,p.ly] 42)) from X_)
 try simp only [aO6] at bS bP
 obtain ⟨W0,h5⟩:∃W0,((w.alloc (.cells (sA_ s a1 c1 a2 c2 a3 c3) 40)).alloc (.cells #[p.x,p.y,p.t,p.lx,p.ly] 42))=W0:=⟨_,rfl⟩
 rw [h5] at x0 bS bP;have h4:=hid x0;have x8:=hid h5;have z0:=bP.lt;have x6:=hid bS;have x5:=hid bP;clear x0 h5 bS bP;go_enter func54,ntmps54;go_upto_region 1 with fail;rw [x8];have bq:=x6.ext (aPg _);obtain ⟨q1,q2,q3,q4,q6,q7,q8,q9,x1,x2,h0,h3⟩:=bq.q12;have sl:=bq.lt;clear bq;have bq:=x5.ext (aPg _);obtain ⟨h6,h7,h8,h9,q0⟩:=bq.q5;have pl:=bq.lt;clear bq;go_wp2_with fail;refine r_ (jQ H1 lo hi _ _ (HV.ext hh h4) (aPd hh h4.size) x7) fun w3 x3=>?_;have X3:=hid x3;clear x3;clear sl q1 q2 q3 q4 q6 q7 q8 q9 x1 x2 h0 h3 pl h6 h7 h8 h9 q0;have bq:=x6.ext X3;obtain ⟨q1,q2,q3,q4,q6,q7,q8,q9,x1,x2,h0,h3⟩:=bq.q12;have sl:=bq.lt;clear bq;have bq:=x5.ext X3;obtain ⟨h6,h7,h8,h9,q0⟩:=bq.q5;have pl:=bq.lt;clear bq
 cases b1
 ·go_wp2
  go_ret;exact ⟨rfl,h4.trans X3⟩
 ·go_wp2_with fail
  refine (qB s.c p HI.1 HI.2 _).mono ?_;rw [H2];rintro e w4 ⟨rfl,x4⟩;have X4:=hid x4;clear x4;clear sl q1 q2 q3 q4 q6 q7 q8 q9 x1 x2 h0 h3 pl h6 h7 h8 h9 q0;go_wp2;go_ret;exact ⟨by cases b2 <;> rfl,h4.trans (X3.trans X4)⟩
def FrO (lo hi:Nat) (w:World) (u:Value) (n:Nat) (vs:List Value):Prop:=w.ownsRow lo 95 5 u n vs/\∀k,u.ownBlock=some k->k<hi
theorem aF.frO {xs:List cV} (h:aF cV.cs lo 95 5 w u xs):FrO lo w.heap.size w u xs.length (xs.flatMap cV.cs):=⟨h,fun k hk=>(aF.lt h k hk).2⟩
theorem FrO.kp (h:FrO lo hi w u n vs) (k:Kp lo hi w w'):FrO lo hi w' u n vs:=by
 obtain ⟨⟨h1,h2⟩,h4⟩:=h;refine ⟨⟨h1,?_⟩,h4⟩
 rcases h2 with hn|⟨g,cap,cur,hv,hb,hg,r⟩
 ·exact .inl hn
 ·exact .inr ⟨g,cap,cur,hv,hb,(k.2 g hb (h4 g (by rw [hv];rfl))).trans hg,r⟩
theorem FrO.form (h:FrO lo hi w u n vs):∃a cap,u = .slice a n cap/\n<=9223372036854775807:=by
 obtain ⟨⟨h1,h2⟩,h3⟩:=h
 rcases h2 with ⟨rfl,rfl⟩|⟨g,cap,cur,rfl,hb,hg,hc,hm,hs,ht⟩
 ·exact ⟨none,0,rfl,by omega⟩
 ·exact ⟨some ⟨g,0,none⟩,cap,rfl,by unfold maxLen at hm;omega⟩
def upV (k0:Int) (c:Nat):List Value:=(aPu c).map fun (j:Nat)=>.int .i64 (k0+(j:Int))
theorem wH (k0:Int) (c:Nat):(upV k0 c).length=c:=by simp [upV]
theorem aJy (k0:Int) (n:Nat):upV k0 (n+1)=upV k0 n++[.int .i64 (k0+n)]:=by simp [upV,aRi]
theorem aMx {k0:Int} (h:i<n):(upV k0 n)[i]?=some (.int .i64 (k0+i)):=by simp [upV,h]
theorem iY (k0:Int) (xs:List Value) (k:Nat) (h:k<xs.length):(upV k0 k++xs.drop k).set k (.int .i64 (k0+k))=upV k0 (k+1)++xs.drop (k+1):=by
 rw [List.set_append_right _ _ (by rw [wH];omega),wH,Nat.sub_self,List.drop_eq_getElem_cons h,aPi,aJy,aQn]
 rfl
theorem cH {e:TypeId} {sz cap:Nat} {a:Option Addr} (h:w.ownsRow lo e sz (.slice a n cap) n vs) {c:Nat} (hc:c<n*sz) :
  ∃g y,a=some ⟨g,0,none⟩/\lo<=g/\g<w.heap.size/\vs[c]?=some y/\w.cell? ⟨g,c,none⟩=some y/\w.frozen? ⟨g,c,none⟩=false /\
   ∀x,(w.setCell ⟨g,c,none⟩ x).ownsRow lo e sz (.slice a n cap) n (vs.set c x)/\w.grownBy (w.setCell ⟨g,c,none⟩ x) (some g):=by
 have h0:=h;have h2:vs.length=n*sz:=h.1
 rcases h.2 with ⟨h1,h4⟩|⟨g,cap',cur,h1,hb',hg,hcc,hm,hs,ht⟩
 ·simp only [aPz] at h1
  rw [h1.2.1,aTo] at hc;omega
 ·simp only [aPz] at h1
  obtain ⟨rfl,h1,rfl⟩:=h1
  obtain ⟨y,hy⟩:∃y,vs[c]?=some y:=⟨_,aPo (by omega)⟩
  exact ⟨g,y,rfl,hb',(Array.getElem?_eq_some_iff.1 hg).1,hy,(h0.cellAt c (by omega)).trans hy,h0.frozenAt c,fun x=>h0.stored c x⟩
theorem tI (f:cV) (w:World):R_ 60 #[.agg #[f.d,f.s,f.c,f.col,f.al],.agg #[f.d,f.s,f.c,f.col,f.al]] w (.bool true):=by
 go_enter func60,ntmps60;go_wp2;go_ret;exact ⟨rfl,X_⟩
theorem mC (lo hi lo' hi':Nat) (u v:Value) (xs:List cV) (w:World) (hu:FrO lo hi w u xs.length (xs.flatMap cV.cs)) (hv:FrO lo' hi' w v xs.length (xs.flatMap cV.cs)) :
  R_ 19 #[u,v] w (.bool true):=by
 have h2:aF cV.cs lo 95 5 w u xs:=hu.1;have h3:aF cV.cs lo' 95 5 w v xs:=hv.1;obtain ⟨a,c,rfl,-⟩:=h2.form;obtain ⟨b,d,rfl,-⟩:=h3.form;have HU:=hid h2;have HV:=hid h3;clear hu hv h2 h3;go_enter func19,ntmps19;go_wp2_with fail
 go_loopw [5] (fun x wr=>∃k:Nat,k<=xs.length/\x = .int .i64 (k:Nat)/\Ext w wr) (fun x _=>xs.length - (intOf x).toNat)
 case atStart=>exact ⟨0,by omega,rfl,aPg _⟩
 case round=>
  obtain ⟨k,hk,rfl,hx⟩:=hrel;have HX:=hid hx
  rcases aQ3 k xs.length with hlt|hge
  ·obtain ⟨f,hf⟩:∃f,xs[k]?=some f:=⟨_,aPo hlt⟩
   obtain ⟨g,cap,he,-,q0,h6,h9,-,h1⟩:=aF.at (HU.ext hx) (fun _=>rfl) hf;simp only [aPz,true_and] at he;obtain ⟨rfl,rfl⟩:=he;obtain ⟨g2,h5,he,-,h8,h4,h7,-,h0⟩:=aF.at (HV.ext hx) (fun _=>rfl) hf;simp only [aPz,true_and] at he;obtain ⟨rfl,rfl⟩:=he;have c0:=h1 0 (by decide);have c1:=h1 1 (by decide);have c2:=h1 2 (by decide);have c3:=h1 3 (by decide);have c4:=h1 4 (by decide);have d0:=h0 0 (by decide);have d1:=h0 1 (by decide);have d2:=h0 2 (by decide);have d3:=h0 3 (by decide);have d4:=h0 4 (by decide);simp only [cV.cs,aQ1,aO4,aO5] at c0 c1 c2 c3 c4 d0 d1 d2 d3 d4;clear hx h1 h0 hf;go_wp2_with fail;refine aA [([0,1,2,3,4,5,6,7],8),([],9)] 99 wr.heap.size (by kernel_rfl) (by kernel_rfl) ?_;refine st_ fun K hK=>?_;go_wp2_with fail;refine r_ (tI f _) fun w1 x1=>?_;have y1:Ext wr w1:=aPc (aP9 (aPg _)) x1;have Y1:=hid (HX.trans y1);go_wp2_with fail;refine k_ hK ?_;clear hK K;refine st_ fun K hK=>?_;go_wp2_with fail;refine k_ hK ?_;clear hK K x1 y1;refine aC ?_;go_wp2;go_roundw
   case rel=>exact ⟨k+1,by omega,by go_num,Y1⟩
   case measure=>simp [intOf];omega
  ·go_wp2
   go_ret;exact ⟨rfl,HX⟩
theorem aC5 (lo hi:Nat) (u:Value) (xs:List cV) (k0:Int) (w:World) (hu:FrO lo hi w u xs.length (xs.flatMap cV.cs)) (hl:lo<=w.heap.size) (h0:0<=k0) (hsz:k0+(xs.length*5:Nat)<=1152921504606846976) :
  Calls aPa 21 #[u,k0] w fun e w'=>e = .returned (.int .i64 (k0+(xs.length*5:Nat)))/\FrO lo hi w' u xs.length (upV k0 (xs.length*5))/\iZ lo hi w w':=by
 obtain ⟨a,cap,rfl,h9⟩:=hu.form;have HU:=hid hu;have h6:=hid (show (xs.flatMap cV.cs).length=xs.length*5 from aHr xs)
 obtain ⟨n,hn⟩:∃n,xs.length=n:=⟨_,rfl⟩
 obtain ⟨vs,q4⟩:∃vs,xs.flatMap cV.cs=vs:=⟨_,rfl⟩
 rw [hn] at h9 hsz h6 HU ⊢;rw [q4] at HU h6;clear hu hn q4;go_enter func21,ntmps21;go_wp2
 go_loopw [1,5] (fun q i wr=>∃k:Nat,k<=n/\i = .int .i64 (k:Nat)/\q = .int .i64 (k0+(k*5:Nat))/\wr.ownsRow lo 95 5 (.slice a n cap) n (upV k0 (k*5)++vs.drop (k*5))/\w.grownBy wr (aQk a n cap).ownBlock) (fun _ i _=>n - (intOf i).toNat)
 case atStart=>exact ⟨0,by omega,rfl,by simp,by simpa [upV] using HU.1,grownBy.refl _ _⟩
 case round=>
  obtain ⟨k,hk,rfl,rfl,h1,hg⟩:=hrel
  by_cases x6:k<n
  ·have q5:k0+((k*5:Nat):Int)+5<=1152921504606846976:=by omega
   obtain ⟨j,hj⟩:∃j,k*5=j:=⟨_,rfl⟩
   have q2:(k+1)*5=j+5:=by omega
   have q8:j+5<=n*5:=by omega
   rw [hj] at h1 q5 ⊢;have q9:=h6.out;obtain ⟨g,y0,rfl,x0,x5,-,x1,x3,q3⟩:=cH h1 (c:=j) (by omega);obtain ⟨o1,g1⟩:=q3 (.int .i64 (k0+(j:Nat)));rw [iY _ _ _ (by omega)] at o1;obtain ⟨g',y1,e1,_,_,-,x2,x4,h2⟩:=cH o1 (c:=j+1) (by omega);simp only [aO8,aP5,and_true] at e1;subst e1;obtain ⟨o2,g2⟩:=h2 (.int .i64 (k0+((j+1:Nat):Int)));rw [iY _ _ _ (by omega)] at o2;replace o2:aWk _ _ _ _ _ _ (upV k0 (j+2)++vs.drop (j+2)):=o2;obtain ⟨g',y2,e2,_,_,-,q6,q7,h3⟩:=cH o2 (c:=j+2) (by omega);simp only [aO8,aP5,and_true] at e2;subst e2;obtain ⟨o3,g3⟩:=h3 (.int .i64 (k0+((j+2:Nat):Int)));rw [iY _ _ _ (by omega)] at o3;replace o3:aWk _ _ _ _ _ _ (upV k0 (j+3)++vs.drop (j+3)):=o3;obtain ⟨g',y3,e3,_,_,-,q0,q1,h4⟩:=cH o3 (c:=j+3) (by omega);simp only [aO8,aP5,and_true] at e3;subst e3;obtain ⟨o4,g4⟩:=h4 (.int .i64 (k0+((j+3:Nat):Int)));rw [iY _ _ _ (by omega)] at o4;replace o4:aWk _ _ _ _ _ _ (upV k0 (j+4)++vs.drop (j+4)):=o4;obtain ⟨g',y4,e4,_,_,-,h7,h8,h5⟩:=cH o4 (c:=j+4) (by omega);simp only [aO8,aP5,and_true] at e4;subst e4;obtain ⟨o5,g5⟩:=h5 (.int .i64 (k0+((j+4:Nat):Int)));rw [iY _ _ _ (by omega)] at o5;replace o5:aWk _ _ _ _ _ _ (upV k0 (j+5)++vs.drop (j+5)):=o5
   have E1:k0+((j+1:Nat):Int)=k0+(j:Nat)+1:=by omega
   have E2:k0+((j+2:Nat):Int)=k0+(j:Nat)+1+1:=by omega
   have E3:k0+((j+3:Nat):Int)=k0+(j:Nat)+1+1+1:=by omega
   have E4:k0+((j+4:Nat):Int)=k0+(j:Nat)+1+1+1+1:=by omega
   rw [E1] at q6 q7 q0 q1 h7 h8 o5 g2 g3 g4 g5;rw [E2] at q0 q1 h7 h8 o5 g3 g4 g5;rw [E3] at h7 h8 o5 g4 g5;rw [E4] at  o5 g5;have HO:=hid o5;have HG:=hid (grownBy.trans hg (grownBy.trans g1 (grownBy.trans g2 (grownBy.trans g3 (grownBy.trans g4 g5)))));have HJ:=hid q2;clear q3 h2 h3 h4 h5 o1 o2 o3 o4 o5 g1 g2 g3 g4 g5 hg h1 E1 E2 E3 E4 q9 q2 q8;go_wp2;go_roundw
   case rel=>exact ⟨k+1,by omega,by go_num,by congr 1;have:=HJ.out;omega,by rw [HJ];exact HO,HG⟩
   case measure=>simp [intOf];omega
  ·obtain rfl:k=n:=by omega
   have hd:vs.drop (k*5)=[]:=List.drop_eq_nil_of_le (by rw [h6];exact aO3 _);rw [hd,aSr] at h1;go_wp2;go_ret;exact ⟨rfl,⟨h1,HU.2⟩,iZ.of hg (fun k hk=>⟨(HU.1.lt k hk).1,HU.2 k hk⟩) hl⟩
theorem rH (lo hi:Nat) (u:Value) (n:Nat) (k0:Int) (w:World) (hu:FrO lo hi w u n (upV k0 (n*5))) (h0:0<=k0) (hsz:k0+(n*5:Nat)<=1152921504606846976) :
  R_ 22 #[u,k0] w (.int .i64 (k0+(n*5:Nat))):=by
 obtain ⟨a,cap,rfl,h3⟩:=hu.form;have HU:=hid hu.1;clear hu;go_enter func22,ntmps22;go_wp2
 go_loopw [1,5] (fun q i wr=>∃k:Nat,k<=n/\i = .int .i64 (k:Nat)/\q = .int .i64 (k0+(k*5:Nat))/\wr=w) (fun _ i _=>n - (intOf i).toNat)
 case atStart=>exact ⟨0,by omega,rfl,by simp,rfl⟩
 case round=>
  obtain ⟨k,hk,rfl,rfl,rfl⟩:=hrel
  by_cases h7:k<n
  ·have h2:k0+((k*5:Nat):Int)+5<=1152921504606846976:=by omega
   obtain ⟨j,hj⟩:∃j,k*5=j:=⟨_,rfl⟩
   have h1:(k+1)*5=j+5:=by omega
   have h6:j+5<=n*5:=by omega
   rw [hj] at h2 ⊢;obtain ⟨g,y0,rfl,h4,h5,q0,c0,-,-⟩:=cH HU (c:=j) (by omega);obtain ⟨g1,y1,e1,_,_,q1,c1,-,-⟩:=cH HU (c:=j+1) (by omega);obtain ⟨g2,y2,e2,_,_,q2,c2,-,-⟩:=cH HU (c:=j+2) (by omega);obtain ⟨g3,y3,e3,_,_,q3,c3,-,-⟩:=cH HU (c:=j+3) (by omega);obtain ⟨g4,y4,e4,_,_,q4,c4,-,-⟩:=cH HU (c:=j+4) (by omega);simp only [aO8,aP5,and_true] at e1 e2 e3 e4;subst e1 e2 e3 e4;rw [aMx (by omega)] at q0 q1 q2 q3 q4;simp only [aO8] at q0 q1 q2 q3 q4;subst q0 q1 q2 q3 q4
   have E1:k0+((j+1:Nat):Int)=k0+(j:Nat)+1:=by omega
   have E2:k0+((j+2:Nat):Int)=k0+(j:Nat)+1+1:=by omega
   have E3:k0+((j+3:Nat):Int)=k0+(j:Nat)+1+1+1:=by omega
   have E4:k0+((j+4:Nat):Int)=k0+(j:Nat)+1+1+1+1:=by omega
   rw [E1] at c1;rw [E2] at c2;rw [E3] at c3;rw [E4] at c4;have HJ:=hid h1;clear E1 E2 E3 E4 h1;go_wp2;go_roundw
   case rel=>exact ⟨k+1,by omega,by go_num,by congr 1;have:=HJ.out;omega,by first|rfl|trivial⟩
   case measure=>simp [intOf];omega
  ·obtain rfl:k=n:=by omega
   go_wp2;go_ret;exact ⟨rfl,aPg _⟩
def Smp.I (p:Smp):Prop:=I64 p.x/\I64 p.y/\I64 p.t/\I64 p.lx/\I64 p.ly
def aNt:Prop:=True
theorem mD (p:Smp) (w:World):Calls aPa 12 #[.agg #[p.x,p.y,p.t,p.lx,p.ly]] w fun e w'=>e = .returned (.agg #[p.x,p.y,p.t,p.lx,p.ly])/\aNt/\Ext w w':=by
 go_enter func12,ntmps12;go_wp2;exact bodyPost_ret (v:=.agg #[p.x,p.y,p.t,p.lx,p.ly]) (by simp [results,results12,go_sem]) rfl ⟨rfl,trivial,X_⟩
open Classical in
noncomputable def Scn.sfr (s:Scn) (k:Int) (p:Smp):List cV:=if ((s.okB&&inB k 0 ((s.m:Int) - 1))&&p.okB s.c)=true then s.hits k.toNat p else []
theorem Scn.sfr_cases {s:Scn} {k:Int} {p:Smp} {X:List cV} (h:s.sfr k p=X):(∃q:Nat,k=(q:Nat)/\q<s.m/\s.Ok/\p.okB s.c=true/\X=s.hits q p)\/(((s.okB&&inB k 0 ((s.m:Int) - 1))&&p.okB s.c)=false/\X=[]):=by
 unfold Scn.sfr at h
 split at h
 ·rename_i h1
  simp only [aPk] at h1;have h2:=aG.1 h1.1.2;exact .inl ⟨k.toNat,by omega,by omega,Scn.okB_iff.1 h1.1.1,h1.2,h.symm⟩
 ·rename_i h1
  exact .inr ⟨by simpa using h1,h.symm⟩
theorem Scn.sfr_len {s:Scn} {k:Int} {p:Smp} {X:List cV} (h:s.sfr k p=X):X.length<=128:=by
 rcases Scn.sfr_cases h with ⟨q,-,hq,ho,-,rfl⟩|⟨-,rfl⟩
 ·exact ho.hits_le p hq
 ·simp
theorem nP (s:Scn) (lo hi:Nat) (v:Value) (k:Int) (p:Smp) (w:World) (hv:s.R lo hi w v) (hh:hi<=w.heap.size) (hsm:s.small) (hb:((s.okB&&inB k 0 ((s.m:Int) - 1))&&p.okB s.c)=false) :
  R_ 18 #[v,k,.agg #[p.x,p.y,p.t,p.lx,p.ly]] w (.slice none 0 0):=by
 have HV:=hid hv;obtain ⟨a1,c1,a2,c2,a3,c3,rfl⟩:=hv.formV;have x6:=hid hsm;have HB:=hid hb
 obtain ⟨b1,x5⟩:∃b,(s.okB&&inB k 0 ((s.m:Int) - 1))=b:=⟨_,rfl⟩
 have H1:=hid x5;clear hv hsm hb x5;have x0:Ext w ((w.alloc (.cells (sA_ s a1 c1 a2 c2 a3 c3) 40)).alloc (.cells #[p.x,p.y,p.t,p.lx,p.ly] 42)):=X_;have bS:=(aPh w 40 (sL_ s a1 c1 a2 c2 a3 c3)).ext (show Ext _ ((w.alloc (.cells (sA_ s a1 c1 a2 c2 a3 c3) 40)).alloc (.cells #[p.x,p.y,p.t,p.lx,p.ly] 42)) from X_);have bP:=(aPh (w.alloc (.cells (sA_ s a1 c1 a2 c2 a3 c3) 40)) 42 [p.x,p.y,p.t,p.lx,p.ly]).ext (show Ext _ ((w.alloc (.cells (sA_ s a1 c1 a2 c2 a3 c3) 40)).alloc (.cells #[p.x,p.y,p.t,p.lx,p.ly] 42)) from X_)
 try simp only [aO6] at bS bP
 obtain ⟨W0,h3⟩:∃W0,((w.alloc (.cells (sA_ s a1 c1 a2 c2 a3 c3) 40)).alloc (.cells #[p.x,p.y,p.t,p.lx,p.ly] 42))=W0:=⟨_,rfl⟩
 rw [h3] at x0 bS bP;have h2:=hid x0;have x7:=hid h3;have z0:=bP.lt;have x2:=hid bS;have x1:=hid bP;clear x0 h3 bS bP;go_enter func18,ntmps18;go_upto_region 1 with fail;rw [x7];have bq:=x2.ext (aPg _);obtain ⟨h9,q0,q1,q2,q3,q4,q6,q7,q8,q9,h0,h1⟩:=bq.q12;have sl:=bq.lt;clear bq;have bq:=x1.ext (aPg _);obtain ⟨h4,h5,h6,h7,h8⟩:=bq.q5;have pl:=bq.lt;clear bq;go_wp2_with fail;refine r_ (mK s lo hi _ k W0 (HV.ext hh h2) (aPd hh h2.size) x6 H1) fun w3 x3=>?_;have X3:=hid x3;clear x3;clear sl h9 q0 q1 q2 q3 q4 q6 q7 q8 q9 h0 h1 pl h4 h5 h6 h7 h8;have bq:=x2.ext X3;obtain ⟨h9,q0,q1,q2,q3,q4,q6,q7,q8,q9,h0,h1⟩:=bq.q12;have sl:=bq.lt;clear bq;have bq:=x1.ext X3;obtain ⟨h4,h5,h6,h7,h8⟩:=bq.q5;have pl:=bq.lt;clear bq
 cases b1
 ·go_wp2
  go_ret;exact ⟨rfl,h2.trans X3⟩
 ·have hp:p.okB s.c=false:=by
   have:=HB.out;rw [H1] at this;exact this
  have HP:=hid hp;clear hp;go_wp2_with fail;have CH:=iX s.c p w3;rw [HP] at CH;refine CH.mono ?_;clear CH;rintro e w4 ⟨rfl,x4⟩;have X4:=hid x4;clear x4;clear sl h9 q0 q1 q2 q3 q4 q6 q7 q8 q9 h0 h1 pl h4 h5 h6 h7 h8;go_wp2;go_ret;exact ⟨rfl,h2.trans (X3.trans X4)⟩
theorem mQ (lo hi:Nat) (v:Value) (s:Scn) (k:Int) (p:Smp) (w:World) {X:List cV} (hX:s.sfr k p=X) (hv:s.R lo hi w v) (hh:hi<=w.heap.size) (hsm:s.small) :
  Calls aPa 18 #[v,k,.agg #[p.x,p.y,p.t,p.lx,p.ly]] w fun e w'=>∃r,e = .returned r/\aF cV.cs w.heap.size 95 5 w' r X/\Ext w w':=by
 rcases Scn.sfr_cases hX with ⟨q,rfl,hq,ho,hp,rfl⟩|⟨hb,rfl⟩
 ·exact mP s lo hi v q p w hv hh ho hsm hq hp
 ·refine (nP s lo hi v k p w hv hh hsm hb).mono ?_
  rintro e w' ⟨rfl,x⟩;exact ⟨_,rfl,aF.nil _ _ _ _ _,x⟩
theorem mR (lo hi:Nat) (v:Value) (s:Scn) (k:Int) (p:Smp) (w:World) {X:List cV} (hX:s.sfr k p=X) (hv:s.R lo hi w v) (hh:hi<=w.heap.size) (hsm:s.small) (hx:I64 p.x) (hy:I64 p.y) :
  Calls aPa 17 #[v,k,.agg #[p.x,p.y,p.t,p.lx,p.ly]] w fun e w'=>∃r,e = .returned r/\aF cV.cs w.heap.size 95 5 w' r X/\Ext w w':=by
 have HV:=hid hv;have z5:=hv.mlt;obtain ⟨a1,c1,a2,c2,a3,c3,rfl⟩:=hv.formV;have h9:=hid hsm;have HI:=hid (And.intro hx hy);have HQ:=hid (Scn.sfr_cases hX)
 obtain ⟨b,hb⟩:∃b,(s.okB&&p.okB s.c)=b:=⟨_,rfl⟩
 obtain ⟨b2,q0⟩:∃b,inB k 0 ((s.m:Int) - 1)=b:=⟨_,rfl⟩
 have HB:=hid hb;have h5:=hid q0;clear hv hsm hx hy hX hb q0;have x0:Ext w ((w.alloc (.cells (sA_ s a1 c1 a2 c2 a3 c3) 40)).alloc (.cells #[p.x,p.y,p.t,p.lx,p.ly] 42)):=X_;have bS:=(aPh w 40 (sL_ s a1 c1 a2 c2 a3 c3)).ext (show Ext _ ((w.alloc (.cells (sA_ s a1 c1 a2 c2 a3 c3) 40)).alloc (.cells #[p.x,p.y,p.t,p.lx,p.ly] 42)) from X_);have bP:=(aPh (w.alloc (.cells (sA_ s a1 c1 a2 c2 a3 c3) 40)) 42 [p.x,p.y,p.t,p.lx,p.ly]).ext (show Ext _ ((w.alloc (.cells (sA_ s a1 c1 a2 c2 a3 c3) 40)).alloc (.cells #[p.x,p.y,p.t,p.lx,p.ly] 42)) from X_)
 try simp only [aO6] at bS bP
 obtain ⟨W0,h6⟩:∃W0,((w.alloc (.cells (sA_ s a1 c1 a2 c2 a3 c3) 40)).alloc (.cells #[p.x,p.y,p.t,p.lx,p.ly] 42))=W0:=⟨_,rfl⟩
 rw [h6] at x0 bS bP;have h0:=hid x0;have z4:=hid h6;have z0:=bP.lt;have h8:=hid bS;have h7:=hid bP;clear x0 h6 bS bP;go_enter func17,ntmps17;go_upto_region 1 with fail;rw [z4];have bq:=h8.ext (aPg _);obtain ⟨q7,q8,q9,x1,x2,x4,x7,x8,x9,z1,h3,h4⟩:=bq.q12;have sl:=bq.lt;clear bq;have bq:=h7.ext (aPg _);obtain ⟨q1,q2,q3,q4,q6⟩:=bq.q5;have pl:=bq.lt;clear bq;go_wp2_with fail;have CH:=aFe (s:=s) (p:=p) rfl rfl lo hi _ W0 (HV.ext hh h0) (aPd hh h0.size) h9 HI.1 HI.2;rw [HB] at CH;refine CH.mono ?_;clear CH;rintro e w3 ⟨rfl,x3⟩;have X3:=hid x3;clear x3;clear sl q7 q8 q9 x1 x2 x4 x7 x8 x9 z1 h3 h4 pl q1 q2 q3 q4 q6;have bq:=h8.ext X3;obtain ⟨q7,q8,q9,x1,x2,x4,x7,x8,x9,z1,h3,h4⟩:=bq.q12;have sl:=bq.lt;clear bq;have bq:=h7.ext X3;obtain ⟨q1,q2,q3,q4,q6⟩:=bq.q5;have pl:=bq.lt;clear bq
 cases b
 ·skip
  have hX:X=[]:=by
   rcases HQ with ⟨q,rfl,hq,ho,hp,-⟩|⟨-,h⟩
   ·have h1:=HB.out
    rw [Scn.okB_iff.2 ho,hp] at h1;exact absurd h1 (by decide)
   ·exact h
  subst hX;go_wp2;go_ret;exact ⟨_,rfl,aF.nil _ _ _ _ _,h0.trans X3⟩
 ·go_wp2_with fail
  refine z_ (aE h5 _) ?_
  cases b2
  ·skip
   have hX:X=[]:=by
    rcases HQ with ⟨q,rfl,hq,ho,hp,-⟩|⟨-,h⟩
    ·have h1:=h5.out
     rw [aG.2 (by omega)] at h1;exact absurd h1 (by decide)
    ·exact h
   subst hX;go_wp2;go_ret;exact ⟨_,rfl,aF.nil _ _ _ _ _,h0.trans X3⟩
  ·have hX:∃q:Nat,k=(q:Nat)/\q<s.m/\s.Ok/\p.okB s.c=true/\X=s.hits q p:=by
    rcases HQ with h|⟨h,-⟩
    ·exact h
    ·have h1:=HB.out
     have h2:=h5.out;simp only [aPk] at h1;rw [h1.1,h1.2,h2] at h;exact absurd h (by decide)
   obtain ⟨q,rfl,hq,ho,hp,rfl⟩:=hX;have HO:=hid ho;have HP:=hid hp;have z3:=hid hq;clear ho hp hq;go_upto_region 3 with fail;refine aA [([0,1,3,4],2),([],5),([],6)] 6 w3.heap.size (by kernel_rfl) (by kernel_rfl) ?_;refine st_ fun K hK=>?_;go_wp2_with fail;have xd:Ext w w3.drew:=h0.trans (X3.trans (aP9 (aPg _)));refine (aJu s lo hi _ _ (HV.ext hh xd) (aPd hh xd.size) HO h9).mono ?_;rintro e w5 ⟨cv,av,rfl,hd,x5⟩;have y5:Ext w3 w5:=aPc (aP9 (aPg _)) x5;have HD:=hid hd.rd;obtain ⟨xa,xc,ya,yc,rfl,rfl⟩:=hd.rd.forms;have X5:=hid (h0.trans (X3.trans y5));clear hd x5 xd;go_wp2_with fail;refine k_ hK ?_;clear hK K;refine st_ fun K hK=>?_;go_wp2_with fail;have CS:=xT s lo hi _ _ _ _ q p w5 (HV.ext hh X5) (aPd hh X5.size) HO z3 HP HD;refine CS.mono ?_;clear CS;rintro e w6 ⟨r,rfl,O6,x6⟩;obtain ⟨ta,tc,rfl,tl⟩:=aF.form O6;have y6:=y5.trans x6;have X6:=hid (X5.trans x6);have z2:=hid O6;clear O6 x6 tl;go_wp2_with fail;refine k_ hK ?_;clear hK K y5 y6;refine st_ fun K hK=>?_;go_wp2_with fail;refine l_ hK ?_;clear hK K;refine aC ?_;go_wp2;go_ret;exact ⟨_,rfl,aF.low z2 X5.size,X6⟩
structure Shp (lo hi:Nat) (w w':World):Prop where
 part:iZ lo hi w w'
 fr:∀b o,lo<=b->b<hi->w'.frozen? ⟨b,o,none⟩=w.frozen? ⟨b,o,none⟩
 sl:∀b o a n c,lo<=b->b<hi->w.cell? ⟨b,o,none⟩=some (.slice a n c)->w'.cell? ⟨b,o,none⟩=some (.slice a n c)
 int:∀b o x,lo<=b->b<hi->w.cell? ⟨b,o,none⟩=some (.int .i64 x)->∃y,w'.cell? ⟨b,o,none⟩=some (.int .i64 y)
 str:∀b o x,lo<=b->b<hi->w.cell? ⟨b,o,none⟩=some (.string x)->∃y,w'.cell? ⟨b,o,none⟩=some (.string y)
theorem Shp.size (h:Shp lo hi w w'):w.heap.size<=w'.heap.size:=h.part.size
theorem Shp.of (e:Ext w w') (hh:hi<=w.heap.size) (hl:lo<=hi):Shp lo hi w w' where
 part:=iZ.of (row:=none) ⟨e.os,e.tape,e.output,e.size,fun i h _=>e.block h⟩ (fun k h=>by cases h) (by omega)
 fr b o h1 h2:=e.cells.2 b o (by omega)
 sl b o a n c h1 h2 h:=(e.cells.1 b o (by omega)).trans h
 int b o x h1 h2 h:=⟨x,(e.cells.1 b o (by omega)).trans h⟩
 str b o x h1 h2 h:=⟨x,(e.cells.1 b o (by omega)).trans h⟩
theorem Shp.refl (hh:hi<=w.heap.size) (hl:lo<=hi):Shp lo hi w w:=Shp.of (aPg w) hh hl
theorem Shp.trans {w1 w2:World} (h:Shp lo hi w w1) (k:Shp lo hi w1 w2):Shp lo hi w w2 where
 part:=h.part.trans k.part
 fr b o h1 h2:=(k.fr b o h1 h2).trans (h.fr b o h1 h2)
 sl b o a n c h1 h2 e:=k.sl b o a n c h1 h2 (h.sl b o a n c h1 h2 e)
 int b o x h1 h2 e:=by obtain ⟨y,hy⟩:=h.int b o x h1 h2 e;exact k.int b o y h1 h2 hy
 str b o x h1 h2 e:=by obtain ⟨y,hy⟩:=h.str b o x h1 h2 e;exact k.str b o y h1 h2 hy
theorem iZ.set (h1:lo<=b) (h2:b<hi) (hl:lo<=w.heap.size) (v:Value):iZ lo hi w (w.setCell ⟨b,o,none⟩ v):=
 iZ.of (row:=some b) ⟨rfl,rfl,rfl,by simp,fun k _ hne=>aPe _ _ _ _ (by simpa using hne)⟩ (fun k h=>by injection h with h;omega) hl
theorem Shp.setInt (h1:lo<=b) (h2:b<hi) (hl:lo<=w.heap.size) (hc:w.cell? ⟨b,o,none⟩=some (.int .i64 x)) (y:Int):Shp lo hi w (w.setCell ⟨b,o,none⟩ y) where
 part:=iZ.set h1 h2 hl _
 fr b' o' _ _:=aQu _ _ _ _
 sl b' o' a n c _ _ e:=by
  refine (aQl _ _ _ _ (fun hh=>?_)).trans e;rw [hh] at hc;rw [hc] at e;cases e
 int b' o' z _ _ e:=by
  by_cases hh:(⟨b,o,none⟩:Addr)=⟨b',o',none⟩
  ·rw [<-hh];exact ⟨y,aSg _ _ _ hc⟩
  ·exact ⟨z,(aQl _ _ _ _ hh).trans e⟩
 str b' o' z _ _ e:=by
  refine ⟨z,(aQl _ _ _ _ (fun hh=>?_)).trans e⟩;rw [hh] at hc;rw [hc] at e;cases e
theorem Shp.setStr {x:ByteArray} (h1:lo<=b) (h2:b<hi) (hl:lo<=w.heap.size) (hc:w.cell? ⟨b,o,none⟩=some (.string x)) (y:ByteArray):Shp lo hi w (w.setCell ⟨b,o,none⟩ (.string y)) where
 part:=iZ.set h1 h2 hl _
 fr b' o' _ _:=aQu _ _ _ _
 sl b' o' a n c _ _ e:=by
  refine (aQl _ _ _ _ (fun hh=>?_)).trans e;rw [hh] at hc;rw [hc] at e;cases e
 str b' o' z _ _ e:=by
  by_cases hh:(⟨b,o,none⟩:Addr)=⟨b',o',none⟩
  ·rw [<-hh];exact ⟨y,aSg _ _ _ hc⟩
  ·exact ⟨z,(aQl _ _ _ _ hh).trans e⟩
 int b' o' z _ _ e:=by
  refine ⟨z,(aQl _ _ _ _ (fun hh=>?_)).trans e⟩;rw [hh] at hc;rw [hc] at e;cases e
def CI (lo hi:Nat) (w:World) (b o:Nat):Prop:=lo<=b/\b<hi/\(∃x,w.cell? ⟨b,o,none⟩=some (.int .i64 x))/\w.frozen? ⟨b,o,none⟩=false
def CS (lo hi:Nat) (w:World) (b o:Nat):Prop:=lo<=b/\b<hi/\(∃x,w.cell? ⟨b,o,none⟩=some (.string x))/\w.frozen? ⟨b,o,none⟩=false
theorem CI.shp (h:CI lo hi w b o) (s:Shp lo hi w w'):CI lo hi w' b o:=by
 obtain ⟨h1,h2,⟨x,h3⟩,h4⟩:=h;exact ⟨h1,h2,s.int b o x h1 h2 h3,(s.fr b o h1 h2).trans h4⟩
theorem CS.shp (h:CS lo hi w b o) (s:Shp lo hi w w'):CS lo hi w' b o:=by
 obtain ⟨h1,h2,⟨x,h3⟩,h4⟩:=h;exact ⟨h1,h2,s.str b o x h1 h2 h3,(s.fr b o h1 h2).trans h4⟩
def jR (lo hi:Nat) (w:World) (v:Value) (n:Nat):Prop:=
 ∃a cap,v = .slice a n cap/\n<=cap/\cap<=9223372036854775807/\∀i,i<n->∃b off,a=some ⟨b,off,none⟩/\CI lo hi w b (off+i)
theorem jR.shp (h:jR lo hi w v n) (s:Shp lo hi w w'):jR lo hi w' v n:=by
 obtain ⟨a,cap,h1,h2,h3,h4⟩:=h;refine ⟨a,cap,h1,h2,h3,fun i hi=>?_⟩;obtain ⟨b,h0,e,hc⟩:=h4 i hi;exact ⟨b,h0,e,hc.shp s⟩
def sF (lo hi:Nat) (w:World) (v:Value) (n:Nat):Prop:=
 ∃a cap,v = .slice a n cap/\n<=cap/\cap<=9223372036854775807/\∀i,i<n->∃b off a' m c',a=some ⟨b,off,none⟩/\CI lo hi w b (off+i*4)/\CS lo hi w b (off+i*4+1)/\CI lo hi w b (off+i*4+2)/\w.cell? ⟨b,off+i*4+3,none⟩=some (.slice a' m c')/\m<=1048576/\jR lo hi w (.slice a' m c') m
theorem sF.shp (h:sF lo hi w v n) (s:Shp lo hi w w'):sF lo hi w' v n:=by
 obtain ⟨a,cap,h1,h2,h3,h4⟩:=h;refine ⟨a,cap,h1,h2,h3,fun i hi=>?_⟩;obtain ⟨b,h0,a',m,c',e,k0,k1,k2,k3,k4,k5⟩:=h4 i hi;exact ⟨b,h0,a',m,c',e,k0.shp s,k1.shp s,k2.shp s,s.sl _ _ _ _ _ k0.1 k0.2.1 k3,k4,k5.shp s⟩
def lH (lo hi:Nat) (w:World) (v:Value) (n:Nat):Prop:=
 ∃a cap,v = .slice a n cap/\n<=cap/\cap<=9223372036854775807/\∀i,i<n->∃b off,a=some ⟨b,off,none⟩/\CS lo hi w b (off+i*2)/\CI lo hi w b (off+i*2+1)
theorem lH.shp (h:lH lo hi w v n) (s:Shp lo hi w w'):lH lo hi w' v n:=by
 obtain ⟨a,cap,h1,h2,h3,h4⟩:=h;refine ⟨a,cap,h1,h2,h3,fun i hi=>?_⟩;obtain ⟨b,h0,e,k0,k1⟩:=h4 i hi;exact ⟨b,h0,e,k0.shp s,k1.shp s⟩
def mL (lo hi:Nat) (w:World) (v:Value) (n:Nat):Prop:=
 ∃a cap,v = .slice a n cap/\n<=cap/\cap<=9223372036854775807/\∀i,i<n->∃b off a1 m1 c1 a2 m2 c2,a=some ⟨b,off,none⟩/\lo<=b/\b<hi/\w.cell? ⟨b,off+i*2,none⟩=some (.slice a1 m1 c1)/\w.cell? ⟨b,off+i*2+1,none⟩=some (.slice a2 m2 c2)/\m1<=1048576/\m2<=1048576/\sF lo hi w (.slice a1 m1 c1) m1/\lH lo hi w (.slice a2 m2 c2) m2
theorem mL.shp (h:mL lo hi w v n) (s:Shp lo hi w w'):mL lo hi w' v n:=by
 obtain ⟨a,cap,h1,h2,h3,h4⟩:=h;refine ⟨a,cap,h1,h2,h3,fun i hi=>?_⟩;obtain ⟨b,h0,a1,m1,c1,a2,m2,c2,e,l1,l2,k1,k2,z1,z2,k3,k4⟩:=h4 i hi;exact ⟨b,h0,a1,m1,c1,a2,m2,c2,e,l1,l2,s.sl _ _ _ _ _ l1 l2 k1,s.sl _ _ _ _ _ l1 l2 k2,z1,z2,k3.shp s,k4.shp s⟩
def rI (lo hi:Nat) (w:World) (v:Value) (n:Nat):Prop:=
 ∃a cap,v = .slice a n cap/\n<=cap/\cap<=9223372036854775807/\∀i,i<n->∃b off,a=some ⟨b,off,none⟩/\CI lo hi w b (off+i*26+24)/\CI lo hi w b (off+i*26+25)
theorem rI.shp (h:rI lo hi w v n) (s:Shp lo hi w w'):rI lo hi w' v n:=by
 obtain ⟨a,cap,h1,h2,h3,h4⟩:=h;refine ⟨a,cap,h1,h2,h3,fun i hi=>?_⟩;obtain ⟨b,h0,e,k0,k1⟩:=h4 i hi;exact ⟨b,h0,e,k0.shp s,k1.shp s⟩
def aC6 (k r:Nat):Prop:=k<10 ^ (19 - r)/\k<4611686018427387904
theorem aC6.next {r:Nat} (h:aC6 k r) (hk:k≠0):r≠19/\aC6 (k / 10) (r+1)/\k<4611686018427387904:=by
 unfold aC6 at *;obtain ⟨h,h2⟩:=h
 have hr:r<19:=by
  by_cases e:r<19
  ·exact e
  ·rw [show 19 - r=0 by omega] at h
   simp at h;omega
 refine ⟨by omega,⟨?_,by omega⟩,h2⟩;rw [show 19 - r=(19 - (r+1))+1 by omega,Nat.pow_succ] at h;exact Nat.div_lt_of_lt_mul (by rw [Nat.mul_comm];exact h)
theorem aC6.start (h:k<4611686018427387904):aC6 k 0:=⟨by omega,h⟩
theorem aFf (k0:Nat) (w:World) (h:k0<4611686018427387904):Calls aPa 172 #[k0] w fun e w'=>(∃s:ByteArray,e = .returned (.string s))/\Ext w w':=by
 by_cases h0:k0=0
 ·subst h0
  go_enter func172,ntmps172;go_wp2;go_ret;exact ⟨⟨_,rfl⟩,aPg _⟩
 ·go_enter func172,ntmps172
  have hz:=hid h;clear h;go_wp2
  go_loopw [0,3] (fun kv sv wr=>∃(k r:Nat) (s:ByteArray),kv = .int .i64 k/\sv = .string s/\s.size<=r/\r<=19/\aC6 k r/\Ext w wr) (fun kv _ _=>(intOf kv).toNat)
  case atStart=>exact ⟨k0,0,_,rfl,rfl,by decide,by omega,aC6.start hz.out,aPg _⟩
  case round=>
   obtain ⟨k,r,s,rfl,rfl,hs,hr,hk,hx⟩:=hrel
   by_cases h3:k=0
   ·subst h3
    clear hk;go_wp2;go_ret;exact ⟨⟨_,rfl⟩,hx⟩
   ·obtain ⟨q1,h1,h4⟩:=hk.next h3
    replace h1:=hid h1;have HX:=hid hx
    have h2:(k:Int)<4611686018427387904:=by omega
    clear hk hx h4;clear hz
    obtain ⟨dd,h6,h7,h8⟩:∃d:Int,(k:Int).tmod 10=d/\0<=d/\d<10:=⟨_,rfl,Int.tmod_nonneg _ (by omega),Int.tmod_lt_of_pos _ (by decide)⟩
    have hw:Hid (wrap64 ((k:Int) / 10)=((k / 10:Nat):Int)):=by show _=_;rw [IntWalk.wrap64_in _ ⟨by omega,by omega⟩];omega
    have hq:(k:Int).tdiv 10=((k / 10:Nat):Int):=by
     rw [aRc (by omega)];omega
    clear h2;obtain ⟨r1,h9,h5⟩:=aNa wr (48+dd);have q0:(r1++s).size=r1.size+s.size:=ByteArray.size_append;go_wp2;go_roundw
    case rel=>exact ⟨k / 10,r+1,r1++s,by first|rfl|trivial|rw [hw.out],rfl,by omega,by omega,h1.out,HX.alloc _⟩
    case measure=>
     rw [hw.out];simp [intOf];omega
theorem tC (k0:Int) (w:World) (h0:0<=k0) (h:k0<4611686018427387904):Calls aPa 172 #[k0] w fun e w'=>(∃s:ByteArray,e = .returned (.string s))/\Ext w w':=by
 obtain ⟨k,rfl⟩:∃k:Nat,k0=k:=⟨k0.toNat,by omega⟩
 exact aFf k w (by omega)
theorem rJ (lo hi:Nat) (v:Value) (n:Nat) (k0:Int) (w:World) (h:jR lo hi w v n) (hh:hi<=w.heap.size) (hl:lo<=hi) (h0:0<=k0) (h1:k0+n<=4611686018427387904) :
  Calls aPa 108 #[v,k0] w fun e w'=>e = .returned (.int .i64 (k0+n))/\Shp lo hi w w':=by
 have H:=hid h;obtain ⟨a,cap,rfl,z1,z2,-⟩:=h;go_enter func108,ntmps108;go_wp2
 go_loopw [1,5] (fun q i wr=>∃k:Nat,k<=n/\i = .int .i64 k/\q = .int .i64 (k0+(k:Nat))/\Shp lo hi w wr) (fun _ i _=>n - (intOf i).toNat)
 case atStart=>exact ⟨0,by omega,rfl,by simp,Shp.refl hh hl⟩
 case round=>
  obtain ⟨k,hk,rfl,rfl,hs⟩:=hrel
  by_cases h4:k<n
  ·obtain ⟨a',h3,e',-,-,h2⟩:=H.shp hs
   simp only [aPz] at e';obtain ⟨rfl,-,rfl⟩:=e';obtain ⟨b,off,rfl,l1,l2,⟨x,c⟩,f⟩:=h2 k h4
   have bl:b<wr.heap.size:=by have:=hs.size;omega
   have HS:=hid hs;have HC:=hid c
   have zl:lo<=wr.heap.size:=by omega
   clear hs h2;go_wp2;go_roundw
   case rel=>exact ⟨k+1,by omega,by go_num,by congr 1;omega,HS.trans (Shp.setInt l1 l2 zl HC _)⟩
   case measure=>simp [intOf];omega
  ·obtain rfl:k=n:=by omega
   go_wp2;go_ret;exact ⟨rfl,hs⟩
theorem aA9 (lo hi:Nat) (v:Value) (n:Nat) (k0:Int) (w:World) (h:lH lo hi w v n) (hh:hi<=w.heap.size) (hl:lo<=hi) (h0:0<=k0) (h1:k0+n*2<=4611686018427380000) :
  Calls aPa 110 #[v,k0] w fun e w'=>(∃r,e = .returned (.int .i64 r)/\k0<=r/\r<=k0+n*2)/\Shp lo hi w w':=by
 have H:=hid h;obtain ⟨a,cap,rfl,z1,z2,-⟩:=h;go_enter func110,ntmps110;go_wp2
 go_loopw [1,5] (fun q i wr=>∃(k:Nat) (r:Int),k<=n/\i = .int .i64 k/\q = .int .i64 r/\k0<=r/\r<=k0+k*2/\Shp lo hi w wr) (fun _ i _=>n - (intOf i).toNat)
 case atStart=>exact ⟨0,k0,by omega,rfl,rfl,by omega,by omega,Shp.refl hh hl⟩
 case round=>
  obtain ⟨k,r,hk,rfl,rfl,q1,q2,hs⟩:=hrel
  by_cases h7:k<n
  ·obtain ⟨a',h5,e',-,-,h3⟩:=H.shp hs
   simp only [aPz] at e';obtain ⟨rfl,-,rfl⟩:=e';obtain ⟨b,h8,rfl,C0,C1⟩:=h3 k h7;have zs:=hs.size;have h6:=hid C0;obtain ⟨l1,l2,-⟩:=C0
   have bl:b<wr.heap.size:=by omega
   have HS:=hid hs;have h2:=hid C1
   have zl:lo<=wr.heap.size:=by omega
   have zh:hi<=wr.heap.size:=by omega
   clear hs h3 C1;go_wp2_with fail;refine (tC r _ (by omega) (by omega)).mono ?_;rintro e w2 ⟨⟨s2,rfl⟩,x2⟩;have S2:=Shp.of x2 zh hl;have z2:=x2.size;obtain ⟨-,-,⟨y0,d0⟩,f0⟩:=h6.out.shp S2;obtain ⟨-,-,⟨y1,d1⟩,f1⟩:=h2.out.shp S2;have S3:=Shp.setStr l1 l2 (show lo<=w2.heap.size by omega) d0 s2;obtain ⟨-,-,⟨y2,d2⟩,-⟩:=h2.out.shp (S2.trans S3);have S4:=Shp.setInt l1 l2 (show lo<=(w2.setCell ⟨b,h8+k*2,none⟩ (.string s2)).heap.size by simp;omega) d2 (r+1);have h4:=hid (HS.trans (S2.trans (S3.trans S4)))
   have h9:b<w2.heap.size:=by omega
   clear HS S2 S3 S4 x2 d2;go_wp2;go_roundw
   case rel=>exact ⟨k+1,r+1+1,by omega,by go_num,rfl,by omega,by omega,h4⟩
   case measure=>simp [intOf];omega
  ·obtain rfl:k=n:=by omega
   go_wp2;go_ret;exact ⟨⟨_,rfl,q1,q2⟩,hs⟩
theorem xU (lo hi:Nat) (v:Value) (n:Nat) (k0:Int) (w:World) (h:sF lo hi w v n) (hh:hi<=w.heap.size) (hl:lo<=hi) (h0:0<=k0) (h1:k0+n*1048579<=4611686018427380000) :
  Calls aPa 109 #[v,k0] w fun e w'=>(∃r,e = .returned (.int .i64 r)/\k0<=r/\r<=k0+n*1048579)/\Shp lo hi w w':=by
 have H:=hid h;obtain ⟨a,cap,rfl,z1,z2,-⟩:=h;go_enter func109,ntmps109;go_wp2
 go_loopw [1,5] (fun q i wr=>∃(k:Nat) (r:Int),k<=n/\i = .int .i64 k/\q = .int .i64 r/\k0<=r/\r<=k0+k*1048579/\Shp lo hi w wr) (fun _ i _=>n - (intOf i).toNat)
 case atStart=>exact ⟨0,k0,by omega,rfl,rfl,by omega,by omega,Shp.refl hh hl⟩
 case round=>
  obtain ⟨k,r,hk,rfl,rfl,q1,q2,hs⟩:=hrel
  by_cases q3:k<n
  ·obtain ⟨a',h7,e',-,-,h5⟩:=H.shp hs
   simp only [aPz] at e';obtain ⟨rfl,-,rfl⟩:=e';obtain ⟨b,q4,au,m,cu,rfl,C0,C1,C2,c3,hm,hI⟩:=h5 k q3;have zs:=hs.size;obtain ⟨l1,l2,⟨x0,c0⟩,f0⟩:=C0
   have bl:b<wr.heap.size:=by omega
   have HS:=hid hs;have h8:=hid C1;have h4:=hid C2;have h9:=hid c3;have q0:=hid hI
   have zl:lo<=wr.heap.size:=by omega
   have zh:hi<=wr.heap.size:=by omega
   have S1:=Shp.setInt l1 l2 zl c0 r;have h3:=hid S1;clear hs h5 C1 C2 c3 hI S1;go_wp2_with fail;refine (tC (r+1) _ (by omega) (by omega)).mono ?_;rintro e w2 ⟨⟨s2,rfl⟩,x2⟩;have z2:=x2.size;rw [aQf] at z2;have S2:=h3.trans (Shp.of x2 (by simp;omega) hl);obtain ⟨-,-,⟨y1,d1⟩,f1⟩:=h8.out.shp S2;obtain ⟨-,-,⟨y2,d2⟩,f2⟩:=h4.out.shp S2;have d3:=S2.sl _ _ _ _ _ l1 l2 h9.out;have S3:=Shp.setStr l1 l2 (show lo<=w2.heap.size by omega) d1 s2;obtain ⟨-,-,⟨y3,d4⟩,-⟩:=h4.out.shp (S2.trans S3);have S4:=Shp.setInt l1 l2 (show lo<=(w2.setCell ⟨b,q4+k*4+1,none⟩ (.string s2)).heap.size by simp;omega) d4 (r+1+1);have h2:=hid (S2.trans (S3.trans S4))
   have q5:b<w2.heap.size:=by omega
   clear h3 S2 S3 S4 x2 d4 c0 f0;go_wp2_with fail;refine r_ (rJ lo hi _ m _ _ (q0.out.shp h2) (by simp;omega) hl (by omega) (by omega)) fun w5 S5=>?_;have h6:=hid (HS.trans (h2.trans S5));clear S5 h2 HS d1 d2 d3 f1 f2;go_wp2;go_roundw
   case rel=>exact ⟨k+1,_,by omega,by go_num,rfl,by omega,by omega,h6⟩
   case measure=>simp [intOf];omega
  ·obtain rfl:k=n:=by omega
   go_wp2;go_ret;exact ⟨⟨_,rfl,q1,q2⟩,hs⟩
theorem sG (lo hi:Nat) (v:Value) (n:Nat) (k0:Int) (w:World) (h:mL lo hi w v n) (hn:n<=1048576) (hh:hi<=w.heap.size) (hl:lo<=hi) (h0:0<=k0) (h1:k0<=1000000000000000000) :
  Calls aPa 62 #[v,k0] w fun e w'=>(∃r,e = .returned (.int .i64 r)/\k0<=r/\r<=k0+n*1100000000000)/\Shp lo hi w w':=by
 have H:=hid h;obtain ⟨a,cap,rfl,z1,z2,-⟩:=h;go_enter func62,ntmps62;go_wp2
 go_loopw [1,5] (fun q i wr=>∃(k:Nat) (r:Int),k<=n/\i = .int .i64 k/\q = .int .i64 r/\k0<=r/\r<=k0+k*1100000000000/\Shp lo hi w wr) (fun _ i _=>n - (intOf i).toNat)
 case atStart=>exact ⟨0,k0,by omega,rfl,rfl,by omega,by omega,Shp.refl hh hl⟩
 case round=>
  obtain ⟨k,r,hk,rfl,rfl,q1,q2,hs⟩:=hrel
  by_cases h9:k<n
  ·obtain ⟨a',h5,e',-,-,h3⟩:=H.shp hs
   simp only [aPz] at e';obtain ⟨rfl,-,rfl⟩:=e';obtain ⟨b,q3,a1,m1,c1,a2,m2,c2,rfl,l1,l2,d0,d1,s1,s2,hN,hA⟩:=h3 k h9;have zs:=hs.size
   have bl:b<wr.heap.size:=by omega
   have HS:=hid hs;have h7:=hid hN;have h6:=hid hA;have h8:=hid d1
   have zh:hi<=wr.heap.size:=by omega
   clear hs h3 hN hA d1;go_wp2_with fail;refine (xU lo hi _ m1 _ _ h7.out zh hl (by omega) (by omega)).mono ?_;rintro e w2 ⟨⟨r2,rfl,g1,g2⟩,S2⟩;have d2:=S2.sl _ _ _ _ _ l1 l2 h8.out;have z2:=S2.size
   have q0:b<w2.heap.size:=by omega
   have h2:=hid S2;clear S2 d0;go_wp2_with fail;refine (aA9 lo hi _ m2 _ _ (h6.out.shp h2) (by omega) hl (by omega) (by omega)).mono ?_;rintro e w3 ⟨⟨r3,rfl,g3,g4⟩,S3⟩;have h4:=hid (HS.trans (h2.trans S3));clear S3 h2 HS d2;go_wp2;go_roundw
   case rel=>exact ⟨k+1,_,by omega,by go_num,rfl,by omega,by omega,h4⟩
   case measure=>simp [intOf];omega
  ·obtain rfl:k=n:=by omega
   go_wp2;go_ret;exact ⟨⟨_,rfl,q1,q2⟩,hs⟩
theorem sH (lo hi:Nat) (v:Value) (n:Nat) (k0:Int) (w:World) (h:rI lo hi w v n) (hn:n<=1048576) (hh:hi<=w.heap.size) (hl:lo<=hi) (h0:0<=k0) (h1:k0<=4000000000000000000) :
  Calls aPa 63 #[v,k0] w fun e w'=>(∃r,e = .returned (.int .i64 r)/\k0<=r)/\Shp lo hi w w':=by
 have H:=hid h;obtain ⟨a,cap,rfl,z1,z2,-⟩:=h;go_enter func63,ntmps63;go_wp2
 go_loopw [1,5] (fun q i wr=>∃(k:Nat) (r:Int),k<=n/\i = .int .i64 k/\q = .int .i64 r/\k0<=r/\r<=k0+k*2/\Shp lo hi w wr) (fun _ i _=>n - (intOf i).toNat)
 case atStart=>exact ⟨0,k0,by omega,rfl,rfl,by omega,by omega,Shp.refl hh hl⟩
 case round=>
  obtain ⟨k,r,hk,rfl,rfl,q1,q2,hs⟩:=hrel
  by_cases h5:k<n
  ·obtain ⟨a',h4,e',-,-,h2⟩:=H.shp hs
   simp only [aPz] at e';obtain ⟨rfl,-,rfl⟩:=e';obtain ⟨b,h6,rfl,C0,C1⟩:=h2 k h5;have zs:=hs.size;obtain ⟨l1,l2,⟨x0,c0⟩,f0⟩:=C0
   have bl:b<wr.heap.size:=by omega
   have HS:=hid hs
   have zl:lo<=wr.heap.size:=by omega
   have S1:=Shp.setInt l1 l2 zl c0 r;obtain ⟨-,-,⟨y2,d2⟩,-⟩:=C1.shp S1;have S2:=Shp.setInt l1 l2 (show lo<=(wr.setCell ⟨b,h6+k*26+24,none⟩ r).heap.size by simp;omega) d2 (r+1);have h3:=hid (hs.trans (S1.trans S2));obtain ⟨-,-,⟨x1,c1⟩,f1⟩:=C1;clear hs h2 S1 S2 HS d2;go_wp2;go_roundw
   case rel=>exact ⟨k+1,_,by omega,by go_num,rfl,by omega,by omega,h3⟩
   case measure=>simp [intOf];omega
  ·obtain rfl:k=n:=by omega
   go_wp2;go_ret;exact ⟨⟨_,rfl,q1⟩,hs⟩
theorem aC7 (lo hi:Nat) (lg:Int) (v:Value) (n:Nat) (k0:Int) (w:World) (h:jR lo hi w v n) (hh:hi<=w.heap.size) (hl:lo<=hi) (h0:0<=k0) (h1:k0+n<=4611686018427387904) :
  Calls aPa 61 #[.agg #[lg,v],k0] w fun e w'=>e = .returned (.int .i64 (k0+n))/\Shp lo hi w w':=by
 have H:=hid h;have x0:Ext w (w.alloc (.cells #[lg,v] 36)):=X_;have S0:=hid (Shp.of x0 hh hl);have z0:=x0.size;clear h;go_enter func61,ntmps61;go_wp2_with fail;refine r_ (rJ lo hi _ n _ _ (H.shp S0) (aPd hh z0) hl h0 h1) fun w2 S2=>?_;go_wp2;go_ret;exact ⟨rfl,S0.trans S2⟩
theorem CI.same (h:CI lo hi w b o) (s:aL lo hi w w'):CI lo hi w' b o:=by
 obtain ⟨h1,h2,⟨x,h3⟩,h4⟩:=h;exact ⟨h1,h2,⟨x,(s.cell h1 h2).trans h3⟩,(s.frozen h1 h2).trans h4⟩
theorem CS.same (h:CS lo hi w b o) (s:aL lo hi w w'):CS lo hi w' b o:=by
 obtain ⟨h1,h2,⟨x,h3⟩,h4⟩:=h;exact ⟨h1,h2,⟨x,(s.cell h1 h2).trans h3⟩,(s.frozen h1 h2).trans h4⟩
theorem CI.wide (h:CI lo hi w b o) (h1:lo'<=lo) (h2:hi<=hi'):CI lo' hi' w b o:=⟨aPd h1 h.1,aQe h.2.1 h2,h.2.2⟩
theorem CS.wide (h:CS lo hi w b o) (h1:lo'<=lo) (h2:hi<=hi'):CS lo' hi' w b o:=⟨aPd h1 h.1,aQe h.2.1 h2,h.2.2⟩
theorem jR.same (h:jR lo hi w v n) (s:aL lo hi w w'):jR lo hi w' v n:=by
 obtain ⟨a,cap,h1,h2,h3,h4⟩:=h;exact ⟨a,cap,h1,h2,h3,fun i hi=>by obtain ⟨b,h0,e,hc⟩:=h4 i hi;exact ⟨b,h0,e,hc.same s⟩⟩
theorem jR.wide (h:jR lo hi w v n) (h1:lo'<=lo) (h2:hi<=hi'):jR lo' hi' w v n:=by
 obtain ⟨a,cap,g1,g2,g3,h4⟩:=h;exact ⟨a,cap,g1,g2,g3,fun i hi=>by obtain ⟨b,h0,e,hc⟩:=h4 i hi;exact ⟨b,h0,e,hc.wide h1 h2⟩⟩
theorem aB.intsM {xs:List Int} (h:aB lo w v xs):jR lo w.heap.size w v xs.length:=by
 obtain ⟨a,cap,rfl,_⟩:=h.form;obtain ⟨a',h0,e,g2,g3,_⟩:=h.ints;simp only [aPz,true_and] at e;obtain ⟨rfl,rfl⟩:=e;refine ⟨a,cap,rfl,g2,by unfold maxLen at g3;omega,fun i hi=>?_⟩;obtain ⟨g,y,rfl,l1,l2,_,hc,hf,_⟩:=h.at rfl hi;exact ⟨g,0,rfl,l1,l2,⟨y,by rw [aP0];exact hc⟩,by rw [aP0];exact hf⟩
theorem sF.same (h:sF lo hi w v n) (s:aL lo hi w w'):sF lo hi w' v n:=by
 obtain ⟨a,cap,h1,h2,h3,h4⟩:=h;refine ⟨a,cap,h1,h2,h3,fun i hi=>?_⟩;obtain ⟨b,h0,a',m,c',e,k0,k1,k2,k3,k4,k5⟩:=h4 i hi;exact ⟨b,h0,a',m,c',e,k0.same s,k1.same s,k2.same s,(s.cell k0.1 k0.2.1).trans k3,k4,k5.same s⟩
theorem sF.wide (h:sF lo hi w v n) (h1:lo'<=lo) (h2:hi<=hi'):sF lo' hi' w v n:=by
 obtain ⟨a,cap,g1,g2,g3,h4⟩:=h;refine ⟨a,cap,g1,g2,g3,fun i hi=>?_⟩;obtain ⟨b,h0,a',m,c',e,k0,k1,k2,k3,k4,k5⟩:=h4 i hi;exact ⟨b,h0,a',m,c',e,k0.wide h1 h2,k1.wide h1 h2,k2.wide h1 h2,k3,k4,k5.wide h1 h2⟩
theorem lH.same (h:lH lo hi w v n) (s:aL lo hi w w'):lH lo hi w' v n:=by
 obtain ⟨a,cap,h1,h2,h3,h4⟩:=h;exact ⟨a,cap,h1,h2,h3,fun i hi=>by obtain ⟨b,h0,e,k0,k1⟩:=h4 i hi;exact ⟨b,h0,e,k0.same s,k1.same s⟩⟩
theorem lH.wide (h:lH lo hi w v n) (h1:lo'<=lo) (h2:hi<=hi'):lH lo' hi' w v n:=by
 obtain ⟨a,cap,g1,g2,g3,h4⟩:=h;exact ⟨a,cap,g1,g2,g3,fun i hi=>by obtain ⟨b,h0,e,k0,k1⟩:=h4 i hi;exact ⟨b,h0,e,k0.wide h1 h2,k1.wide h1 h2⟩⟩
def oT (lo hi:Nat) (w:World) (v:Value) (xs:List Nd):Prop:=Nds lo hi w v xs/\sF lo hi w v xs.length
def lI (lo hi:Nat) (w:World) (v:Value) (xs:List Asg):Prop:=mM lo hi w v xs/\lH lo hi w v xs.length
theorem oT.same {xs:List Nd} (h:oT lo hi w v xs) (s:aL lo hi w w'):oT lo hi w' v xs:=⟨h.1.same s,h.2.same s⟩
theorem lI.same {xs:List Asg} (h:lI lo hi w v xs) (s:aL lo hi w w'):lI lo hi w' v xs:=⟨h.1.same s,h.2.same s⟩
theorem oT.ext {xs:List Nd} (h:oT lo hi w v xs) (hh:hi<=w.heap.size) (e:Ext w w'):oT lo hi w' v xs:=h.same (e.same hh)
theorem oT.wide {xs:List Nd} (h:oT lo hi w v xs) (h1:lo'<=lo) (h2:hi<=hi'):oT lo' hi' w v xs:=⟨h.1.wide h1 h2,h.2.wide h1 h2⟩
theorem lI.wide {xs:List Asg} (h:lI lo hi w v xs) (h1:lo'<=lo) (h2:hi<=hi'):lI lo' hi' w v xs:=⟨h.1.wide h1 h2,h.2.wide h1 h2⟩
theorem oT.setLow {xs:List Nd} (h:oT lo hi w v xs) {p:Addr} (hp:p.block<lo) (x:Value):oT lo hi (w.setCell p x) v xs:=h.same (fun k h1 _=>aPe _ _ _ _ (by omega))
theorem lI.setLow {xs:List Asg} (h:lI lo hi w v xs) {p:Addr} (hp:p.block<lo) (x:Value):lI lo hi (w.setCell p x) v xs:=h.same (fun k h1 _=>aPe _ _ _ _ (by omega))
def Prg.B (p:Prg) (lo hi:Nat) (w:World) (v:Value):Prop:=∃iu lu,v = .agg #[iu,lu]/\oT lo hi w iu p.ns/\lI lo hi w lu p.gs
theorem Prg.B.R {p:Prg} (h:p.B lo hi w v):p.R lo hi w v:=by
 obtain ⟨iu,lu,rfl,h1,h2⟩:=h;exact ⟨iu,lu,rfl,h1.1,h2.1⟩
theorem Prg.B.same {p:Prg} (h:p.B lo hi w v) (s:aL lo hi w w'):p.B lo hi w' v:=by
 obtain ⟨iu,lu,rfl,h1,h2⟩:=h;exact ⟨iu,lu,rfl,h1.same s,h2.same s⟩
theorem Prg.B.wide {p:Prg} (h:p.B lo hi w v) (h1:lo'<=lo) (h2:hi<=hi'):p.B lo' hi' w v:=by
 obtain ⟨iu,lu,rfl,g1,g2⟩:=h;exact ⟨iu,lu,rfl,g1.wide h1 h2,g2.wide h1 h2⟩
theorem aC8 (lo hi:Nat) (op:Int) (s:ByteArray) (n:Int) (u:Value) (r:List Int) (w:World) (hu:aS lo hi w u r) (hh:hi<=w.heap.size) (hsz:r.length<=1048576) :
  Calls aPa 180 #[.agg #[op,.string s,n,u]] w fun e w'=>∃a c,e = .returned (.agg #[op,.string s,n,.slice a r.length c])/\aB w.heap.size w' (.slice a r.length c) r/\Ext w w':=by
 have HU:=hid hu;clear hu;go_enter func180,ntmps180;go_wp2_with fail;refine (tY lo hi u r _ (HU.out.ext hh S_) (by simp;omega) hsz).mono ?_;rintro e w1 ⟨v1,rfl,hO,x1⟩;obtain ⟨a,c,rfl,_⟩:=hO.form;have h2:=x1.size;simp only [aO6,aQf] at h2;have h1:=(Bx.madeAt (B:=w.heap.size+1+1) ((w.alloc (.cells #[op,.string s,n,u] 237)).alloc (.cells #[(),.string ⟨#[]⟩,(),.slice none 0 0] 197)) #[op,.string s,n,.slice none 0 0] 197 (by simp)).ext x1;have h0:=((Bx.madeAt (B:=w.heap.size+1) (w.alloc (.cells #[op,.string s,n,u] 237)) #[(),.string ⟨#[]⟩,(),.slice none 0 0] 197 (by simp)).ext ((aPg _).alloc (.cells #[op,.string s,n,.slice none 0 0] 197))).ext x1;have X0:Ext w (((w.alloc (.cells #[op,.string s,n,u] 237)).alloc (.cells #[(),.string ⟨#[]⟩,(),.slice none 0 0] 197)).alloc (.cells #[op,.string s,n,.slice none 0 0] 197)):=S_;have X1:=hid (X0.trans x1);have HO:=hid hO;clear x1 hO X0;have q:=h1.lt;obtain ⟨q0,q1,q2,q3⟩:=h1.q4;have h7:=h1.frozen 0;have h8:=h1.frozen 1;have h9:=h1.frozen 2;have q5:=h1.frozen 3;have d:=h0.lt;obtain ⟨d0,d1,d2,d3⟩:=h0.q4;have h3:=h0.frozen 0;have h4:=h0.frozen 1;have h5:=h0.frozen 2;have h6:=h0.frozen 3;clear h0 h1;go_wp2;refine bodyPost_ret (v:=.agg #[op,.string s,n,.slice a r.length c]) (by simp [results,results180,go_sem, *]) rfl ⟨a,c,rfl,?_,?_⟩
 ·have h:=HO.out
  simp only [aO6,aQf] at h ⊢;refine aB.low ?_ (Nat.le_add_right _ 3)
  repeat (with_reducible refine aB.setLow ?_ (by simp <;> omega) _)
  exact h
 ·have hX:=X1.out
  exact S_
theorem aBa (lo hi:Nat) (u:Value) (xs:List Nd) (w:World) (hu:Nds lo hi w u xs) (hh:hi<=w.heap.size) (hsz:xs.length<=1048576) (hsa:∀x∈xs,x.args.length<=1048576) :
  Calls aPa 126 #[u] w fun e w'=>e = .returned (.slice (some ⟨w.heap.size,0,none⟩) xs.length xs.length)/\oT w.heap.size w'.heap.size w' (.slice (some ⟨w.heap.size,0,none⟩) xs.length xs.length) xs/\w.heap.size<w'.heap.size/\Ext w w':=by
 obtain ⟨i0,q2,q5,q6,q7⟩:=info_parts aKw;obtain ⟨a,cap,rfl,HU⟩:=hu.open;clear hu;have x6:=HU.cap;have z5:=HU.le;have HS:=hid hsa;clear hsa;go_enter func126,ntmps126;go_wp2_with (at_make;refine wpList_make_full _ rfl _ _ 116 rfl w.heap.size 197 i0 _ 4 underlying116 q2 q5 q6 _ _ _ _ xs.length rfl rfl rfl rfl (by rw [q7];omega) (by unfold maxLen;omega) (aO3 _) ?_);intro w1 h9 h4;have hx:Ext w w1:=(aPg w).grown h4 (fun k h=>by cases h);have h1:=hid (show w1.rowIs w.heap.size 197 (xs.length*4) (eM (ndC xs (fun _=>.slice none 0 0)) ndZ 0) from aRb (jZ (aKx _) h9) (fun i _=>by unfold eM;simp));clear h9 h4 q2 q5 q6 q7;go_wp2
 go_loopw [4] (fun i wr=>∃(k:Nat) (us:Nat->Value),k<=xs.length/\i = .int .i64 k/\Ext w wr/\wr.rowIs w.heap.size 197 (xs.length*4) (eM (ndC xs us) ndZ (k*4))/\∀j x,j<k->xs[j]?=some x->aB (w.heap.size+1) wr (us j) x.args) (fun i _=>xs.length - (intOf i).toNat)
 case atStart=>exact ⟨0,_,by omega,rfl,hx,by simpa using h1.out,fun j x hj=>by omega⟩
 case round=>
  clear hx h1;obtain ⟨k,us,hk,rfl,hx,h1,h3⟩:=hrel
  by_cases q4:k<xs.length
  ·obtain ⟨b,z7,op,s,n,ua,ra,rfl,x9,z4,h7,h5,io,z6,q3,x0,x1,x2,x3⟩:=HU.at q4 hx hh
   have x5:=hid (aAo (us:=fun j=>if j=k then ua else us j) h5);obtain ⟨z0,z1,z2,z3⟩:=aMo k;have x7:=eJ (k:=4) (j:=3) q4 (by decide);have HX:=hid hx;have HR:=hid h1;have HI:=hid q3;have HA:=hid h3;have HG:=hid h5;have zx:=hx.size;have zr:=aRp h1;clear h7 h5 hx h1 q3 h3;go_wp2_with fail;refine (aC8 lo hi op s n ua ra _ HI.out (by omega) (HS.out _ (aPv HG.out))).mono ?_;rintro e w2 ⟨a2,c2,rfl,hN,h2⟩;have hR:w2.rowIs w.heap.size 197 (xs.length*4) (eM (ndC xs us) ndZ (k*4)):=aSj HR.out (h2.block zr);have hX:=HX.out.trans h2;have zz:=h2.size;have q0:=hid (aAo (us:=fun j=>if j=k then .slice a2 ra.length c2 else us j) HG.out);have d0:=aQt hR (i:=k*4) (by omega);have g0:=aQ4 hR (k*4);have d1:=aQt hR (i:=k*4+1) (by omega);have g1:=aQ4 hR (k*4+1);have d2:=aQt hR (i:=k*4+2) (by omega);have g2:=aQ4 hR (k*4+2);have d3:=aQt hR (i:=k*4+3) (by omega);have g3:=aQ4 hR (k*4+3);unfold eM at d0 d1 d2 d3;rw [if_neg (by omega)] at d0 d1 d2 d3;rw [z0] at d0;rw [z1] at d1;rw [z2] at d2;rw [z3] at d3;have x4:=hid hX
   have q1:w2.rowIs w.heap.size 197 (xs.length*4) (eM (ndC xs (fun j=>if j=k then .slice a2 ra.length c2 else us j)) ndZ (k*4)):=aRb hR (fun i _=>by
    unfold eM
    by_cases hi:i<k*4
    ·rw [if_pos hi,if_pos hi,aKv (k:=k) (u:=.slice a2 ra.length c2) i hi]
    ·rw [if_neg hi,if_neg hi])
   have q9:=hid q1;have HN:=hid hN;have q8:Hid (∀j x,j<k->xs[j]?=some x->aB (w.heap.size+1) w2 (us j) x.args):=hid (fun j x hj h6=>(HA.out j x hj h6).ext h2);clear HX HR h2 hX hR q1 z0 z1 z2 z3 x0 x1 x2 x3 hN HA x5;go_wp2;go_roundw
   case rel=>
    refine ⟨k+1,fun j=>if j=k then .slice a2 ra.length c2 else us j,by omega,by go_num,?_,?_,?_⟩
    ·have hX:=x4.out
     exact S_
    ·rw [aRj,aRl]
     obtain ⟨e0,e1,e2,e3⟩:=q0.out;refine fA (fA (fA (fA (q9.out) rfl e0.symm) rfl e1.symm) rfl e2.symm) rfl ?_;rw [e3];simp
    ·intro j x hj h6
     simp only [aQf]
     repeat (with_reducible refine aB.setLow ?_ (by simp <;> omega) _)
     by_cases e:j=k
     ·subst e
      rw [HG.out] at h6;injection h6 with h6;subst h6;simp only [if_pos rfl];exact HN.out.low (by omega)
     ·simp only [if_neg e]
      exact q8.out j x (by omega) h6
   case measure=>simp [intOf];omega
  ·obtain rfl:k=xs.length:=by omega
   have HR:=hid h1;have HA:=hid h3;have HX:=hid hx;clear h1 h3 hx;go_wp2;go_ret;have hR:=HR.out;have h8:=aRp hR
   have h0:∀q,q<xs.length*4->wr.cell? ⟨w.heap.size,0+q,none⟩=some (ndC xs us q):=fun q hq=>by
    rw [aP0,aQt hR hq];unfold eM;rw [if_pos hq]
   refine ⟨rfl,⟨⟨_,_,rfl,aO3 _,by unfold maxLen;omega,fun i x hx=>?_⟩,⟨_,_,rfl,aO3 _,by omega,fun i hi=>?_⟩⟩,h8,HX.out⟩
   ·obtain ⟨e0,e1,e2,e3⟩:=aAo (us:=us) hx
    have hi:=(aO7.1 hx).1;have hl:=eJ (k:=4) (j:=3) hi (by decide);have x8:=(HU.cell i x hx).1;refine ⟨x8,w.heap.size,0,us i,rfl,aO3 _,h8,?_,?_,?_,?_,(HA.out i x hi hx).ints.wide (by omega) (aO3 _)⟩
    ·rw [h0 _ (by omega),e0]
    ·rw [aQv,h0 _ (by omega),e1]
    ·rw [aQv,h0 _ (by omega),e2]
    ·rw [aQv,h0 _ (by omega),e3]
   ·have hx:xs[i]?=some xs[i]:=aPo hi
    obtain ⟨e0,e1,e2,e3⟩:=aAo (us:=us) hx;have hl:=eJ (k:=4) (j:=3) hi (by decide);have hO:=HA.out i _ hi hx;obtain ⟨ua,uc,hu,_⟩:=hO.form;have hM:=hO.intsM;rw [hu] at hM;have fz:∀q,wr.frozen? ⟨w.heap.size,q,none⟩=false:=fun q=>aQ4 hR q;refine ⟨w.heap.size,0,ua,_,uc,rfl,⟨aO3 _,h8,⟨xs[i].op,?_⟩,fz _⟩,⟨aO3 _,h8,⟨xs[i].name,?_⟩,fz _⟩,⟨aO3 _,h8,⟨xs[i].num,?_⟩,fz _⟩,?_,HS.out _ (aPp hi),hM.wide (by omega) (aO3 _)⟩
    ·rw [h0 _ (by omega),e0]
    ·rw [aQv,h0 _ (by omega),e1]
    ·rw [aQv,h0 _ (by omega),e2]
    ·rw [aQv,h0 _ (by omega),e3,hu]
theorem aC9 (lo hi:Nat) (u:Value) (xs:List Asg) (w:World) (hu:mM lo hi w u xs) (hh:hi<=w.heap.size) (hsz:xs.length<=1048576) :
  Calls aPa 127 #[u] w fun e w'=>e = .returned (.slice (some ⟨w.heap.size,0,none⟩) xs.length xs.length)/\lI w.heap.size w'.heap.size w' (.slice (some ⟨w.heap.size,0,none⟩) xs.length xs.length) xs/\w.heap.size<w'.heap.size/\Ext w w':=by
 obtain ⟨i0,h8,q0,q1,q2⟩:=info_parts aKy;obtain ⟨a,cap,rfl,HU⟩:=hu.open;clear hu;have q6:=HU.cap;have x2:=HU.le;go_enter func127,ntmps127;go_wp2_with (at_make;refine wpList_make_full _ rfl _ _ 117 rfl w.heap.size 200 i0 _ 2 underlying117 h8 q0 q1 _ _ _ _ xs.length rfl rfl rfl rfl (by rw [q2];omega) (by unfold maxLen;omega) (aO3 _) ?_);intro w1 h6 h3;have hx:Ext w w1:=(aPg w).grown h3 (fun k h=>by cases h);have h1:=hid (show w1.rowIs w.heap.size 200 (xs.length*2) (eM (agC xs) agZ 0) from aRb (jZ (aKz _) h6) (fun i _=>by unfold eM;simp));clear h6 h3 h8 q0 q1 q2;go_wp2
 go_loopw [4] (fun i wr=>∃k:Nat,k<=xs.length/\i = .int .i64 k/\Ext w wr/\wr.rowIs w.heap.size 200 (xs.length*2) (eM (agC xs) agZ (k*2))) (fun i _=>xs.length - (intOf i).toNat)
 case atStart=>exact ⟨0,by omega,rfl,hx,by simpa using h1.out⟩
 case round=>
  clear hx h1;obtain ⟨k,hk,rfl,hx,h1⟩:=hrel
  by_cases h9:k<xs.length
  ·obtain ⟨b,x3,s,n,rfl,q8,q9,h4,h5,io,x0,x1⟩:=HU.at h9 hx hh
   have q5:=hid (aEl h5);obtain ⟨z0,z1⟩:=aMp k;have q7:=eJ (k:=2) (j:=1) h9 (by decide);have HX:=hid hx;have HR:=hid h1;clear h4 h5 hx h1;go_wp2_with fail;refine r_ (aHl s n _) fun w2 h2=>?_;have hR:w2.rowIs w.heap.size 200 (xs.length*2) (eM (agC xs) agZ (k*2)):=aSj HR (h2.block (aRp HR));have hX:=HX.trans h2;have d0:=aQt hR (i:=k*2) (by omega);have g0:=aQ4 hR (k*2);have d1:=aQt hR (i:=k*2+1) (by omega);have g1:=aQ4 hR (k*2+1);unfold eM at d0 d1;rw [if_neg (by omega)] at d0 d1;rw [z0] at d0;rw [z1] at d1;have q4:=hid hX;have q3:=hid hR;clear HX HR h2 hX hR z0 z1 x0 x1;go_wp2;go_roundw
   case rel=>
    refine ⟨k+1,by omega,by go_num,?_,?_⟩
    ·have hX:=q4.out
     exact S_
    ·rw [aRj,aRl]
     obtain ⟨e0,e1⟩:=q5.out;exact fA (fA (q3) rfl e0.symm) rfl e1.symm
   case measure=>simp [intOf];omega
  ·obtain rfl:k=xs.length:=by omega
   have HR:=hid h1;have HX:=hid hx;clear h1 hx;go_wp2;go_ret;have hR:=HR.out;have h7:=aRp hR
   have h0:∀q,q<xs.length*2->wr.cell? ⟨w.heap.size,0+q,none⟩=some (agC xs q):=fun q hq=>by
    rw [aP0,aQt hR hq];unfold eM;rw [if_pos hq]
   refine ⟨rfl,⟨⟨_,_,rfl,aO3 _,by unfold maxLen;omega,fun i x hx=>?_⟩,⟨_,_,rfl,aO3 _,by omega,fun i hi=>?_⟩⟩,h7,HX⟩
   ·obtain ⟨e0,e1⟩:=aEl hx
    have hi:=(aO7.1 hx).1;have hl:=eJ (k:=2) (j:=1) hi (by decide);refine ⟨(HU.cell i x hx).1,w.heap.size,0,rfl,aO3 _,h7,?_,?_⟩
    ·rw [h0 _ (by omega),e0]
    ·rw [aQv,h0 _ (by omega),e1]
   ·have hx:xs[i]?=some xs[i]:=aPo hi
    obtain ⟨e0,e1⟩:=aEl hx;have hl:=eJ (k:=2) (j:=1) hi (by decide);have fz:∀q,wr.frozen? ⟨w.heap.size,q,none⟩=false:=fun q=>aQ4 hR q;refine ⟨w.heap.size,0,rfl,⟨aO3 _,h7,⟨xs[i].name,?_⟩,fz _⟩,⟨aO3 _,h7,⟨xs[i].root,?_⟩,fz _⟩⟩
    ·rw [h0 _ (by omega),e0]
    ·rw [aQv,h0 _ (by omega),e1]
theorem wI (lo hi:Nat) (v:Value) (p:Prg) (w:World) (hv:p.R lo hi w v) (hh:hi<=w.heap.size) (hsz:p.small) :
  Calls aPa 79 #[v] w fun e w'=>∃v',e = .returned v'/\p.B w.heap.size w'.heap.size w' v'/\Ext w w':=by
 obtain ⟨iu,lu,rfl,q3,q4⟩:=hv;have HI:=hid q3;have HL:=hid q4;clear q3 q4;obtain ⟨⟨z1,z1'⟩,z2⟩:=hsz;have HZ:=hid z1';clear z1';have x0:Ext w (((w.alloc (.cells #[iu,lu] 113)).alloc (.cells #[.slice none 0 0,.slice none 0 0] 119)).alloc (.cells #[.slice none 0 0,.slice none 0 0] 119)):=X_;have bA:=((Bx.made w #[iu,lu] 113).ext ((aPg _).alloc (.cells #[.slice none 0 0,.slice none 0 0] 119))).ext ((aPg _).alloc (.cells #[.slice none 0 0,.slice none 0 0] 119));have bB:=(Bx.madeAt (B:=w.heap.size+1) (w.alloc (.cells #[iu,lu] 113)) #[.slice none 0 0,.slice none 0 0] 119 (by simp)).ext ((aPg _).alloc (.cells #[.slice none 0 0,.slice none 0 0] 119));have bC:=Bx.madeAt (B:=w.heap.size+1+1) ((w.alloc (.cells #[iu,lu] 113)).alloc (.cells #[.slice none 0 0,.slice none 0 0] 119)) #[.slice none 0 0,.slice none 0 0] 119 (by simp);go_enter func79,ntmps79;go_wp2_with fail;refine (aBa lo hi _ p.ns _ (HI.out.ext hh x0) (aPd hh x0.size) z1 HZ.out).mono ?_;rintro e w1 ⟨rfl,hR,h5,x1⟩;simp only [aO6] at hR h5;have h4:=bA.ext x1;have h9:=bB.ext x1;have h0:=bC.ext x1;have x5:=x1.size;simp only [aO6] at x5;have h8:=hid (x0.trans x1);have h7:=hid hR;clear bA bB bC x0 x1 hR;have y:=h4.lt;obtain ⟨y0,y1⟩:=h4.q2;have q:=h0.lt;obtain ⟨q0,q1⟩:=h0.q2;have q6:=h0.frozen 0;have q7:=h0.frozen 1;have x3:=hid (h9.other (p:=⟨w.heap.size+1+1,0,none⟩) (by simp) (.slice (some ⟨w.heap.size+1+1+1,0,none⟩) p.ns.length p.ns.length));have x4:=hid (h0.set 0 (.slice (some ⟨w.heap.size+1+1+1,0,none⟩) p.ns.length p.ns.length));have X2:=hid (h8.out.setCell (p:=⟨w.heap.size+1+1,0,none⟩) (by simp;omega) (.slice (some ⟨w.heap.size+1+1+1,0,none⟩) p.ns.length p.ns.length));have q8:=hid (h7.out.same (w':=w1.setCell ⟨w.heap.size+1+1,0,none⟩ (.slice (some ⟨w.heap.size+1+1+1,0,none⟩) p.ns.length p.ns.length)) (fun k h1 _=>aPe _ _ _ _ (by simp;omega)));clear h4 h9 h0 h8 h7;go_wp2_with fail;refine (aC9 lo hi _ p.gs _ (HL.out.ext hh X2.out) (by simp;omega) z2).mono ?_;rintro e w2 ⟨rfl,hO,h6,x2⟩;have h2:=x3.out.ext x2;have h3:=(x4.out.ext x2).same (cs':=#[.slice (some ⟨w.heap.size+1+1+1,0,none⟩) p.ns.length p.ns.length,.slice none 0 0]) rfl;have q5:=x2.size;simp only [aQf] at q5 hO h6;have X3:=hid (X2.out.trans x2);have q9:=hid (q8.out.ext (by simp) x2);have HO:=hid hO;clear y y0 y1 q q0 q1 q6 q7 x2 hO;have q:=h3.lt;obtain ⟨q0,q1⟩:=h3.q2;have q6:=h3.frozen 0;have q7:=h3.frozen 1;have d:=h2.lt;obtain ⟨d0,d1⟩:=h2.q2;have x6:=h2.frozen 0;have x7:=h2.frozen 1;clear h2 h3;go_wp2;refine bodyPost_ret (v:=.agg #[.slice (some ⟨w.heap.size+1+1+1,0,none⟩) p.ns.length p.ns.length,.slice (some ⟨w1.heap.size,0,none⟩) p.gs.length p.gs.length]) (by simp [results,results79,go_sem, *]) rfl ⟨_,rfl,⟨_,_,rfl,?_,?_⟩,?_⟩
 ·have h:=q9.out
  simp only [aQf];refine oT.wide ?_ (Nat.le_add_right _ 3) q5
  repeat (with_reducible refine oT.setLow ?_ (by simp <;> omega) _)
  exact h
 ·have h:=HO.out
  simp only [aQf];refine lI.wide ?_ (show w.heap.size<=w1.heap.size by omega) (aO3 _)
  repeat (with_reducible refine lI.setLow ?_ (by simp <;> omega) _)
  exact h
 ·have hX:=X3.out
  exact S_
theorem Prg.B.form {p:Prg} (h:p.B lo hi w v):∃a1 c1 a2 c2,v = .agg #[.slice a1 p.ns.length c1,.slice a2 p.gs.length c2]/\sF lo hi w (.slice a1 p.ns.length c1) p.ns.length/\lH lo hi w (.slice a2 p.gs.length c2) p.gs.length:=by
 obtain ⟨iu,lu,rfl,⟨h1,h2⟩,h3,h4⟩:=h;obtain ⟨a1,c1,rfl,_⟩:=h1.open;obtain ⟨a2,c2,rfl,_⟩:=h3.open;exact ⟨a1,c1,a2,c2,rfl,h2,h4⟩
def prC (us vs:Nat->Value) (i:Nat):Value:=if i % 2=0 then us (i / 2) else vs (i / 2)
def prZ (_:Nat):Value:=.slice none 0 0
theorem aFg (us vs:Nat->Value) (k:Nat):prC us vs (k*2)=us k/\prC us vs (k*2+1)=vs k:=by
 refine ⟨?_,?_⟩
 ·unfold prC
  rw [if_pos (by omega),show k*2 / 2=k by omega]
 ·unfold prC
  rw [if_neg (by omega),show (k*2+1) / 2=k by omega]
theorem aLj {us vs:Nat->Value}:∀i,i<k*2->prC us vs i=prC (fun j=>if j=k then u else us j) (fun j=>if j=k then v else vs j) i:=by
 intro i hi;unfold prC;simp only [if_neg (show ¬i / 2=k by omega)]
theorem aLk:(Tryz.prog.info? 119).map (fun i=>(i.zero,i.size,i.bytes))=some (some (.agg #[.slice none 0 0,.slice none 0 0]),2,48):=by kernel_rfl
theorem aLl (n:Nat):∀i,i<n->(madeCells #[.slice none 0 0,.slice none 0 0] n)[i]?=some (prZ i):=by
 intro i hi;unfold prZ;have:i % 2<2:=Nat.mod_lt _ (by decide)
 rcases (show i % 2=0\/i % 2=1 by omega) with e|e <;> simp [madeCells,hi,e]
theorem mL.same (h:mL lo hi w v n) (s:aL lo hi w w'):mL lo hi w' v n:=by
 obtain ⟨a,cap,h1,h2,h3,h4⟩:=h;refine ⟨a,cap,h1,h2,h3,fun i hi=>?_⟩;obtain ⟨b,h0,a1,m1,c1,a2,m2,c2,e,l1,l2,k1,k2,z1,z2,k3,k4⟩:=h4 i hi;exact ⟨b,h0,a1,m1,c1,a2,m2,c2,e,l1,l2,(s.cell l1 l2).trans k1,(s.cell l1 l2).trans k2,z1,z2,k3.same s,k4.same s⟩
theorem mL.wide (h:mL lo hi w v n) (h1:lo'<=lo) (h2:hi<=hi'):mL lo' hi' w v n:=by
 obtain ⟨a,cap,g1,g2,g3,h4⟩:=h;refine ⟨a,cap,g1,g2,g3,fun i hi=>?_⟩;obtain ⟨b,h0,a1,m1,c1,a2,m2,c2,e,l1,l2,k1,k2,z1,z2,k3,k4⟩:=h4 i hi;exact ⟨b,h0,a1,m1,c1,a2,m2,c2,e,by omega,by omega,k1,k2,z1,z2,k3.wide h1 h2,k4.wide h1 h2⟩
theorem fX.wide {ps:List Prg} (h:fX lo hi w v ps) (h1:lo'<=lo) (h2:hi<=hi'):fX lo' hi' w v ps:=by
 obtain ⟨a,cap,g1,g2,g3,h4⟩:=h;refine ⟨a,cap,g1,g2,g3,fun k p hk=>?_⟩;obtain ⟨b,h0,u1,u2,e1,e2,e3,e4,e5,iu,lu,e6,e7,e8⟩:=h4 k p hk;exact ⟨b,h0,u1,u2,e1,by omega,by omega,e4,e5,iu,lu,e6,e7.wide h1 h2,e8.wide h1 h2⟩
theorem wJ (lo hi:Nat) (u:Value) (ps:List Prg) (w:World) (hu:fX lo hi w u ps) (hh:hi<=w.heap.size) (hsz:ps.length<=1048576) (hsm:∀p∈ps,p.small) :
  Calls aPa 38 #[u] w fun e w'=>e = .returned (.slice (some ⟨w.heap.size,0,none⟩) ps.length ps.length)/\(fX w.heap.size w'.heap.size w' (.slice (some ⟨w.heap.size,0,none⟩) ps.length ps.length) ps/\mL w.heap.size w'.heap.size w' (.slice (some ⟨w.heap.size,0,none⟩) ps.length ps.length) ps.length)/\w.heap.size<w'.heap.size/\Ext w w':=by
 obtain ⟨i0,q4,q5,q6,q7⟩:=info_parts aLk;obtain ⟨a,cap,rfl,HU⟩:=hu.open;clear hu;have x4:=HU.cap;have x8:=HU.le;have HS:=hid hsm;have x2:=hid HU;clear hsm;go_enter func38,ntmps38;go_wp2_with (at_make;refine wpList_make_full _ rfl _ _ 37 rfl w.heap.size 119 i0 _ 2 underlying37 q4 q5 q6 _ _ _ _ ps.length rfl rfl rfl rfl (by rw [q7];omega) (by unfold maxLen;omega) (aO3 _) ?_);intro w1 h9 h6;have hx:Ext w w1:=(aPg w).grown h6 (fun k h=>by cases h);have h3:=hid (show w1.rowIs w.heap.size 119 (ps.length*2) (eM (prC (fun _=>.slice none 0 0) (fun _=>.slice none 0 0)) prZ 0) from aRb (jZ (aLl _) h9) (fun i _=>by unfold eM;simp));clear h9 h6 q4 q5 q6 q7 HU;go_wp2
 go_loopw [4] (fun i wr=>∃(k:Nat) (us vs:Nat->Value),k<=ps.length/\i = .int .i64 k/\Ext w wr/\wr.rowIs w.heap.size 119 (ps.length*2) (eM (prC us vs) prZ (k*2))/\∀j p,j<k->ps[j]?=some p->p.B (w.heap.size+1) wr.heap.size wr (.agg #[us j,vs j])) (fun i _=>ps.length - (intOf i).toNat)
 case atStart=>exact ⟨0,_,_,by omega,rfl,hx,by simpa using h3.out,fun j x hj=>by omega⟩
 case round=>
  clear hx h3;obtain ⟨k,us,vs,hk,rfl,hx,h3,h5⟩:=hrel
  by_cases h4:k<ps.length
  ·obtain ⟨b,x9,e1,d1,e2,d2,rfl,x7,x6,x0,x1,hR⟩:=x2.at h4 hx hh
   have h8:ps[k]?=some ps[k]:=aPo h4;have x5:=eJ (k:=2) (j:=1) h4 (by decide);have HX:=hid hx;have HR:=hid h3;have HP:=hid hR;have HA:=hid h5;have HG:=hid h8;have zx:=hx.size;have zr:=aRp h3;clear h8 hx h3 h5 hR;go_wp2_with fail;refine (wI lo hi _ ps[k] _ HP (by omega) (HS _ (aPp h4))).mono ?_;rintro e w2 ⟨v2,rfl,hN,h2⟩;obtain ⟨a1,c1,a2,c2,rfl,_⟩:=hN.form;have hR:w2.rowIs w.heap.size 119 (ps.length*2) (eM (prC us vs) prZ (k*2)):=aSj HR (h2.block zr);have hX:=HX.trans h2;have zz:=h2.size;have q1:=hid (aFg (fun j=>if j=k then .slice a1 (ps[k]'h4).ns.length c1 else us j) (fun j=>if j=k then .slice a2 (ps[k]'h4).gs.length c2 else vs j) k);have d0:=aQt hR (i:=k*2) (by omega);have g0:=aQ4 hR (k*2);have q0:=aQt hR (i:=k*2+1) (by omega);have g1:=aQ4 hR (k*2+1);unfold eM at d0 q0;rw [if_neg (by omega)] at d0 q0;unfold prZ at d0 q0;have x3:=hid hX
   have q3:w2.rowIs w.heap.size 119 (ps.length*2) (eM (prC (fun j=>if j=k then .slice a1 (ps[k]'h4).ns.length c1 else us j) (fun j=>if j=k then .slice a2 (ps[k]'h4).gs.length c2 else vs j)) prZ (k*2)):=aRb hR (fun i _=>by
    unfold eM
    by_cases hi:i<k*2
    ·rw [if_pos hi,if_pos hi,aLj (k:=k) i hi]
    ·rw [if_neg hi,if_neg hi])
   have q9:=hid q3;have HN:=hid hN;have q8:=hid (show ∀j p,j<k->ps[j]?=some p->p.B (w.heap.size+1) w2.heap.size w2 (.agg #[us j,vs j]) from fun j p hj h7=>((HA j p hj h7).same (h2.same (aO3 _))).wide (aO3 _) zz);clear HX HR h2 hX hR q3 x0 x1 hN HA;go_wp2;go_roundw
   case rel=>
    refine ⟨k+1,fun j=>if j=k then .slice a1 (ps[k]'h4).ns.length c1 else us j,fun j=>if j=k then .slice a2 (ps[k]'h4).gs.length c2 else vs j,by omega,by go_num,?_,?_,?_⟩
    ·have hX:=x3.out
     exact S_
    ·rw [aRj,aRl]
     obtain ⟨e0,e1⟩:=q1.out;refine fA (fA q9 rfl ?_) rfl ?_
     ·rw [e0];simp
     ·rw [e1];simp
    ·intro j p hj h7
     simp only [aQf]
     have hs:∀W:World,∀u1 u2:Value,aL (w.heap.size+1) W.heap.size W ((W.setCell ⟨w.heap.size,k*2,none⟩ u1).setCell ⟨w.heap.size,k*2+1,none⟩ u2):=fun W u1 u2 q h1 _=>by
      rw [aPe _ _ _ _ (by simp;omega),aPe _ _ _ _ (by simp;omega)]
     by_cases e:j=k
     ·subst e
      rw [HG] at h7;injection h7 with h7;subst h7;simp only [if_pos rfl];exact (HN.wide (by omega) (aO3 _)).same (hs _ _ _)
     ·simp only [if_neg e]
      exact (q8 j p (by omega) h7).same (hs _ _ _)
   case measure=>simp [intOf];omega
  ·obtain rfl:k=ps.length:=by omega
   have HR:=hid h3;have HA:=hid h5;have HX:=hid hx;clear h3 h5 hx;go_wp2;go_ret;have hR:=HR.out;have q2:=aRp hR
   have h0:∀q,q<ps.length*2->wr.cell? ⟨w.heap.size,0+q,none⟩=some (prC us vs q):=fun q hq=>by
    rw [aP0,aQt hR hq];unfold eM;rw [if_pos hq]
   refine ⟨rfl,⟨⟨_,_,rfl,aO3 _,by unfold maxLen;omega,fun i p hp=>?_⟩,⟨_,_,rfl,aO3 _,by omega,fun i hi=>?_⟩⟩,q2,HX⟩
   ·obtain ⟨e0,e1⟩:=aFg us vs i
    have hi:=(aO7.1 hp).1;have hl:=eJ (k:=2) (j:=1) hi (by decide);refine ⟨w.heap.size,0,us i,vs i,rfl,aO3 _,q2,?_,?_,((HA i p hi hp).wide (by omega) (aO3 _)).R⟩
    ·rw [h0 _ (by omega),e0]
    ·rw [aQv,h0 _ (by omega),e1]
   ·have hp:ps[i]?=some ps[i]:=aPo hi
    obtain ⟨e0,e1⟩:=aFg us vs i;have hl:=eJ (k:=2) (j:=1) hi (by decide);have hB:=(HA i _ hi hp).wide (lo':=w.heap.size) (hi':=wr.heap.size) (by omega) (aO3 _);obtain ⟨a1,c1,a2,c2,e,hN,hA⟩:=hB.form;simp only [Value.agg.injEq,Array.mk.injEq,List.cons.injEq,and_true] at e;have hs:=HS.out _ (aPp hi);refine ⟨w.heap.size,0,a1,_,c1,a2,_,c2,rfl,aO3 _,q2,?_,?_,hs.1.1,hs.2,hN,hA⟩
    ·rw [h0 _ (by omega),e0,e.1]
    ·rw [aQv,h0 _ (by omega),e1,e.2]
theorem tJ (lo hi lo' hi':Nat) (u v:Value) (ps:List Prg) (w:World) (hu:fX lo hi w u ps) (hv:fX lo' hi' w v ps) (hh:hi<=w.heap.size) (hh':hi'<=w.heap.size) :
  R_ 43 #[u,v] w (.bool true):=by
 obtain ⟨a,cap,rfl,HU⟩:=hu.open;obtain ⟨a',h5,rfl,HV⟩:=hv.open;clear hu hv;have h1:=HU.le;have h2:=HU.cap;have q3:=HV.le;have q4:=HV.cap;go_enter func43,ntmps43;go_wp2
 go_loopw [5] (fun i wr=>∃k:Nat,k<=ps.length/\i = .int .i64 k/\Ext w wr) (fun i _=>ps.length - (intOf i).toNat)
 case atStart=>exact ⟨0,by omega,rfl,X_⟩
 case round=>
  obtain ⟨k,hk,rfl,hx⟩:=hrel
  by_cases h0:k<ps.length
  ·obtain ⟨b,q7,e1,d1,e2,d2,rfl,q6,q5,x0,x1,hR⟩:=HU.at h0 hx hh
   obtain ⟨b',h8,q1,h9,q2,q0,rfl,h7,h6,q8,q9,h3⟩:=HV.at h0 hx hh';have HX:=hid hx;have HI:=hid hR;have h4:=hid h3;have zx:=hx.size;clear hx hR h3;go_wp2_with fail;refine aA [([0,1,2,3,4,5,6,7],8),([],9)] 99 wr.heap.size (by kernel_rfl) (by kernel_rfl) ?_;refine st_ fun K hK=>?_;go_wp2_with fail;refine r_ (vJ lo hi lo' hi' _ _ (ps[k]'h0) _ (HI.ext (by omega) X_) (by simp;omega) (h4.ext (by omega) X_) (by simp;omega)) fun w1 h1=>?_;have y1:Ext wr w1:=aPc X_ h1;go_wp2_with fail;refine k_ hK ?_;clear hK K;refine st_ fun K hK=>?_;go_wp2_with fail;refine k_ hK ?_;clear hK K;refine aC ?_;have hX:=HX.trans y1;clear h1 y1 HX;go_wp2;go_roundw
   case rel=>exact ⟨k+1,by omega,by go_num,hX⟩
   case measure=>simp [intOf];omega
  ·go_wp2
   go_ret;exact ⟨rfl,hx⟩
theorem wK (lo hi:Nat) (u:Value) (ps:List Prg) (left:Int) (w:World) (hu:fX lo hi w u ps) (hh:hi<=w.heap.size) (hb:∀p∈ps,p.bd) (h1:0<=left) (h2:left<=1048576) :
  Calls aPa 33 #[u,left] w fun e w'=>(∃r,e = .returned (.int .i64 r)/\(r = -1\/(0<=r/\r<=left/\ps.length<=1048576/\∀p∈ps,p.small)))/\Ext w w':=by
 obtain ⟨a,cap,rfl,HU⟩:=hu.open;have h3:=HU.le;have h4:=HU.cap;have HB:=hid hb;clear hu hb
 by_cases hl:left - (ps.length:Int)<0
 ·go_enter func33,ntmps33
  go_wp2;go_ret;exact ⟨⟨_,rfl,.inl rfl⟩,S_⟩
 ·go_enter func33,ntmps33
  go_wp2
  go_loopw [1,5] (fun q i wr=>∃(k:Nat) (r:Int),k<=ps.length/\i = .int .i64 k/\q = .int .i64 r/\0<=r/\r<=left/\(∀j x,j<k->ps[j]?=some x->x.small)/\Ext w wr) (fun _ i _=>ps.length - (intOf i).toNat)
  case atStart=>exact ⟨0,_,by omega,rfl,rfl,by omega,by omega,fun j x hj=>by omega,S_⟩
  case round=>
   obtain ⟨k,r,hk,rfl,rfl,h7,h9,h0,hx⟩:=hrel
   by_cases h6:k<ps.length
   ·obtain ⟨b,q2,e1,d1,e2,d2,rfl,q1,q0,x0,x1,hR⟩:=HU.at h6 hx hh
    have h5:ps[k]?=some ps[k]:=aPo h6;have hz:=hid (HB _ (aPp h6));have HX:=hid hx;have HI:=hid hR;have HA:=hid h0;have HG:=hid h5;have zx:=hx.size;clear h5 hx hR h0;go_wp2_with fail;refine (xC lo hi _ (ps[k]'h6) r _ HI (by omega) hz.out h7 (by omega)).mono ?_;rintro e w1 ⟨⟨r2,rfl,hr3⟩,x3⟩;have X3:=HX.trans x3
    rcases hr3 with rfl|⟨hr3,hr4,hr5⟩
    ·go_wp2
     go_ret;exact ⟨⟨_,rfl,.inl rfl⟩,X3⟩
    ·have hn : ¬r2<0:=by omega
     have h8:=hid hr5;clear hr5;go_wp2;go_roundw
     case rel=>
      refine ⟨k+1,r2,by omega,by go_num,rfl,by omega,by omega,fun j x hj hx=>?_,X3⟩
      by_cases e:j=k
      ·subst e
       rw [HG] at hx;injection hx with hx;subst hx;exact h8
      ·exact HA j x (by omega) hx
     case measure=>simp [intOf];omega
   ·go_wp2
    go_ret;exact ⟨⟨_,rfl,.inr ⟨h7,h9,by omega,fun p hp=>by obtain ⟨i,hi,rfl⟩:=aP3 hp;exact h0 i _ (by omega) (aPo hi)⟩⟩,hx⟩
theorem Ext.setC {w0:World} (hb:w0.heap.size<=b):∀(vs:List Value) (o:Nat) {w:World},Ext w0 w->Ext w0 (w.setCells b o vs)
 | [],_,_,h=>h
 | _::r,_,_,h=>Ext.setC hb r _ (h.setCell hb _)
theorem Blk.setC {g:Nat} {cs:List Value} (ne:g≠b):∀(vs:List Value) (o:Nat) {w:World},Blk w g t cs->Blk (w.setCells b o vs) g t cs
 | [],_,_,h=>h
 | v::r,_,_,h=>Blk.setC ne r _ (h.other (a:=⟨b,_,none⟩) ne v)
theorem aY.stepN:∀(xs:List Int) (c:Nat) (w:World),aY w b t n (kH f c)->(∀j x,xs[j]?=some x->x=f (c+j))->aY (w.setCells b c (xs.map (aR9 .i64))) b t n (kH f (c+xs.length))
 | [],c,w,h,_=>h
 | x::r,c,w,h,hx=>by
  have h0:=h.step (i:=c) (x:=x) rfl (hx 0 x rfl);have h1:=aY.stepN r (c+1) _ h0 (fun j y hj=>by rw [hx (j+1) y hj];congr 1;omega);rw [aQs,show c+(r.length+1)=c+1+r.length by omega];exact h1
theorem aY.there (h:aY w b t n f) {m:Nat} (hm:o+m<=n):w.there b o m:=fun j hj=>
 ⟨by rw [h.cell (i:=o+j) (by omega)];rfl,h.frozen _⟩
theorem aY.rangeL (h:aY w b t n f) (xs:List Int) (hm:o+xs.length<=n) (hx:∀j x,xs[j]?=some x->x=f (o+j)):w.rangeAt b o (xs.map (aR9 .i64)):=fun j v hj=>by
 rw [List.getElem?_map] at hj
 cases hx':xs[j]? with
 | none=>rw [hx'] at hj;cases hj
 | some x=>
  rw [hx'] at hj;have hl:=(aO7.1 hx').1;have e:=hx j x hx';rw [h.cell (i:=o+j) (by omega),<-e];exact hj
theorem aBb (h:i<26):i=0\/i=1\/i=2\/i=3\/i=4\/i=5\/i=6\/i=7\/i=8\/i=9\/i=10\/i=11\/i=12\/i=13\/i=14\/i=15\/i=16\/i=17\/i=18\/i=19\/i=20\/i=21\/i=22\/i=23\/i=24\/i=25:=by omega
theorem aFh (hb:w.heap.size=b):aY (w.alloc (.cells #[(),(),(),(),(),(),(),(),(),(),(),(),(),(),(),(),(),(),(),(),(),(),(),(),(),()] t)) b t 26 (fun _=>0):=
 hb▸World.rowIs_alloc _ _ _ _ fun i hi=>by rcases aBb hi with h|h|h|h|h|h|h|h|h|h|h|h|h|h|h|h|h|h|h|h|h|h|h|h|h|h <;> subst h <;> rfl
theorem aL6 (f:Nat->Int):∀j x,([f 0,f 1,f 2,f 3,f 4,f 5,f 6,f 7,f 8,f 9,f 10,f 11,f 12,f 13,f 14,f 15,f 16,f 17,f 18,f 19,f 20,f 21,f 22,f 23,f 24,f 25]:List Int)[j]?=some x->x=f j:=by
 intro j x h;have hl:=(aO7.1 h).1
 rcases aBb hl with e|e|e|e|e|e|e|e|e|e|e|e|e|e|e|e|e|e|e|e|e|e|e|e|e|e <;> subst e <;> exact (aTt h).symm
theorem aGe (f:Nat->Int) (c:Nat):∀j x,([f (c+0),f (c+1),f (c+2),f (c+3),f (c+4),f (c+5),f (c+6),f (c+7),f (c+8),f (c+9),f (c+10),f (c+11)]:List Int)[j]?=some x->x=f (c+j):=by
 intro j x h;have hl:=(aO7.1 h).1
 rcases aIq hl with e|e|e|e|e|e|e|e|e|e|e|e <;> subst e <;> exact (aTt h).symm
theorem aDa:(Tryz.prog.info? 125).map (·.size)=some 12:=by kernel_rfl
theorem xV (f:Nat->Int) (w:World):R_ 80 #[.agg #[(f 0),(f 1),(f 2),(f 3),(f 4),(f 5),(f 6),(f 7),(f 8),(f 9),(f 10),(f 11),(f 12),(f 13),(f 14),(f 15),(f 16),(f 17),(f 18),(f 19),(f 20),(f 21),(f 22),(f 23),(f 24),(f 25)]] w (.agg #[(f 0),(f 1),(f 2),(f 3),(f 4),(f 5),(f 6),(f 7),(f 8),(f 9),(f 10),(f 11),(f 12),(f 13),(f 14),(f 15),(f 16),(f 17),(f 18),(f 19),(f 20),(f 21),(f 22),(f 23),(f 24),(f 25)]):=by
 have b0:=(aPh w 134 [(f 0),(f 1),(f 2),(f 3),(f 4),(f 5),(f 6),(f 7),(f 8),(f 9),(f 10),(f 11),(f 12),(f 13),(f 14),(f 15),(f 16),(f 17),(f 18),(f 19),(f 20),(f 21),(f 22),(f 23),(f 24),(f 25)]).ext (show Ext (w.alloc (.cells #[(f 0),(f 1),(f 2),(f 3),(f 4),(f 5),(f 6),(f 7),(f 8),(f 9),(f 10),(f 11),(f 12),(f 13),(f 14),(f 15),(f 16),(f 17),(f 18),(f 19),(f 20),(f 21),(f 22),(f 23),(f 24),(f 25)] 134)) (((w.alloc (.cells #[(f 0),(f 1),(f 2),(f 3),(f 4),(f 5),(f 6),(f 7),(f 8),(f 9),(f 10),(f 11),(f 12),(f 13),(f 14),(f 15),(f 16),(f 17),(f 18),(f 19),(f 20),(f 21),(f 22),(f 23),(f 24),(f 25)] 134)).alloc (.cells #[(),(),(),(),(),(),(),(),(),(),(),(),(),(),(),(),(),(),(),(),(),(),(),(),(),()] 127)).alloc (.cells #[(),(),(),(),(),(),(),(),(),(),(),(),(),(),(),(),(),(),(),(),(),(),(),(),(),()] 127)) from X_);have r0:=(aPh (w.alloc (.cells #[(f 0),(f 1),(f 2),(f 3),(f 4),(f 5),(f 6),(f 7),(f 8),(f 9),(f 10),(f 11),(f 12),(f 13),(f 14),(f 15),(f 16),(f 17),(f 18),(f 19),(f 20),(f 21),(f 22),(f 23),(f 24),(f 25)] 134)) 127 [(),(),(),(),(),(),(),(),(),(),(),(),(),(),(),(),(),(),(),(),(),(),(),(),(),()]).ext (show Ext ((w.alloc (.cells #[(f 0),(f 1),(f 2),(f 3),(f 4),(f 5),(f 6),(f 7),(f 8),(f 9),(f 10),(f 11),(f 12),(f 13),(f 14),(f 15),(f 16),(f 17),(f 18),(f 19),(f 20),(f 21),(f 22),(f 23),(f 24),(f 25)] 134)).alloc (.cells #[(),(),(),(),(),(),(),(),(),(),(),(),(),(),(),(),(),(),(),(),(),(),(),(),(),()] 127)) (((w.alloc (.cells #[(f 0),(f 1),(f 2),(f 3),(f 4),(f 5),(f 6),(f 7),(f 8),(f 9),(f 10),(f 11),(f 12),(f 13),(f 14),(f 15),(f 16),(f 17),(f 18),(f 19),(f 20),(f 21),(f 22),(f 23),(f 24),(f 25)] 134)).alloc (.cells #[(),(),(),(),(),(),(),(),(),(),(),(),(),(),(),(),(),(),(),(),(),(),(),(),(),()] 127)).alloc (.cells #[(),(),(),(),(),(),(),(),(),(),(),(),(),(),(),(),(),(),(),(),(),(),(),(),(),()] 127)) from X_);have t0:=aY.zero (f:=f) (aFh (w:=((w.alloc (.cells #[(f 0),(f 1),(f 2),(f 3),(f 4),(f 5),(f 6),(f 7),(f 8),(f 9),(f 10),(f 11),(f 12),(f 13),(f 14),(f 15),(f 16),(f 17),(f 18),(f 19),(f 20),(f 21),(f 22),(f 23),(f 24),(f 25)] 134)).alloc (.cells #[(),(),(),(),(),(),(),(),(),(),(),(),(),(),(),(),(),(),(),(),(),(),(),(),(),()] 127))) (t:=127) rfl);simp only [aO6] at r0 t0;have x0:Ext w (((w.alloc (.cells #[(f 0),(f 1),(f 2),(f 3),(f 4),(f 5),(f 6),(f 7),(f 8),(f 9),(f 10),(f 11),(f 12),(f 13),(f 14),(f 15),(f 16),(f 17),(f 18),(f 19),(f 20),(f 21),(f 22),(f 23),(f 24),(f 25)] 134)).alloc (.cells #[(),(),(),(),(),(),(),(),(),(),(),(),(),(),(),(),(),(),(),(),(),(),(),(),(),()] 127)).alloc (.cells #[(),(),(),(),(),(),(),(),(),(),(),(),(),(),(),(),(),(),(),(),(),(),(),(),(),()] 127)):=X_;have B0:=hid b0;have R0:=hid r0;have T0:=hid t0;have X0:=hid x0;clear b0 r0 t0 x0;go_enter func80,ntmps80;go_upto_region 2 with fail
 obtain ⟨WA,h2⟩:∃WA,(((w.alloc (.cells #[(f 0),(f 1),(f 2),(f 3),(f 4),(f 5),(f 6),(f 7),(f 8),(f 9),(f 10),(f 11),(f 12),(f 13),(f 14),(f 15),(f 16),(f 17),(f 18),(f 19),(f 20),(f 21),(f 22),(f 23),(f 24),(f 25)] 134)).alloc (.cells #[(),(),(),(),(),(),(),(),(),(),(),(),(),(),(),(),(),(),(),(),(),(),(),(),(),()] 127)).alloc (.cells #[(),(),(),(),(),(),(),(),(),(),(),(),(),(),(),(),(),(),(),(),(),(),(),(),(),()] 127))=WA:=⟨_,rfl⟩
 rw [h2] at B0 R0 T0 X0 ⊢;clear h2;obtain ⟨c0,c1,c2,c3,c4,c5,c6,c7,c8,c9,h5,h6⟩:=B0.q12;have cl:=B0.lt;go_wp2_with fail;refine r_ (sR (f 0) (f 1) (f 2) (f 3) (f 4) (f 5) (f 6) (f 7) (f 8) (f 9) (f 10) (f 11) _) fun w1 x1=>?_;clear c0 c1 c2 c3 c4 c5 c6 c7 c8 c9 h5 h6 cl;have B1:=hid (B0.ext x1);have R1:=hid (R0.ext x1);have T1:=hid (T0.ext x1);have X1:=hid (X0.trans x1);clear B0 R0 T0 X0 x1;go_upto_region 3 with (show wpList _ _ _ [_] _ _;refine wpList_store_mid rfl _ _ _ rfl (w.heap.size+1+1) 0 f rfl rfl (T1.there (m:=12) (by decide)) aDa (by kernel_rfl) ?_);have B2:=hid (B1.setC (b:=w.heap.size+1+1) (by omega) f 0);have R2:=hid (R1.setC (b:=w.heap.size+1+1) (by omega) f 0);have T2:=hid (aY.stepN [f 0,f 1,f 2,f 3,f 4,f 5,f 6,f 7,f 8,f 9,f 10,f 11] 0 _ T1 (by first|exact aGe f 0|(intro j x h;rw [aP0];have:=aGe f 0 j x;simpa using this h)));have X2:=hid (X1.setC (b:=w.heap.size+1+1) (by omega) f 0);simp only [aRf,aUr,aQs,aRn,aP0,aRz] at T2
 obtain ⟨z0,h0⟩:∃W,w1.setCells (w.heap.size+1+1) 0 f=W:=⟨_,rfl⟩
 rw [h0] at B2 R2 T2 X2
 show Code.wp _ _ _ _ (w1.setCells (w.heap.size+1+1) 0 f)
 rw [h0];clear h0 B1 R1 T1 X1;have h7:=B2.cell 12 rfl;have h8:=B2.cell 13 rfl;have h9:=B2.cell 14 rfl;have q0:=B2.cell 15 rfl;have q1:=B2.cell 16 rfl;have q2:=B2.cell 17 rfl;have q3:=B2.cell 18 rfl;have q4:=B2.cell 19 rfl;have q5:=B2.cell 20 rfl;have q6:=B2.cell 21 rfl;have q7:=B2.cell 22 rfl;have q8:=B2.cell 23 rfl;have cl:=B2.lt;go_wp2_with fail;refine r_ (sR (f 12) (f 13) (f 14) (f 15) (f 16) (f 17) (f 18) (f 19) (f 20) (f 21) (f 22) (f 23) _) fun w2 x2=>?_;clear h7 h8 h9 q0 q1 q2 q3 q4 q5 q6 q7 q8 cl;have B3:=hid (B2.ext x2);have R3:=hid (R2.ext x2);have T3:=hid (T2.ext x2);have X3:=hid (X2.trans x2);clear B2 R2 T2 X2 x2;go_upto_region 4 with (show wpList _ _ _ [_] _ _;refine wpList_store_mid rfl _ _ _ rfl (w.heap.size+1+1) 12 #[(f 12),(f 13),(f 14),(f 15),(f 16),(f 17),(f 18),(f 19),(f 20),(f 21),(f 22),(f 23)] rfl rfl (T3.there (m:=12) (by decide)) aDa (by kernel_rfl) ?_);have B4:=hid (B3.setC (b:=w.heap.size+1+1) (by omega) [(f 12),(f 13),(f 14),(f 15),(f 16),(f 17),(f 18),(f 19),(f 20),(f 21),(f 22),(f 23)] 12);have R4:=hid (R3.setC (b:=w.heap.size+1+1) (by omega) [(f 12),(f 13),(f 14),(f 15),(f 16),(f 17),(f 18),(f 19),(f 20),(f 21),(f 22),(f 23)] 12);have T4:=hid (aY.stepN [f 12,f 13,f 14,f 15,f 16,f 17,f 18,f 19,f 20,f 21,f 22,f 23] 12 _ T3 (by first|exact aGe f 12|(intro j x h;rw [aP0];have:=aGe f 0 j x;simpa using this h)));have X4:=hid (X3.setC (b:=w.heap.size+1+1) (by omega) [(f 12),(f 13),(f 14),(f 15),(f 16),(f 17),(f 18),(f 19),(f 20),(f 21),(f 22),(f 23)] 12);simp only [aRf,aUr,aQs,aRn,aP0,aRz] at T4
 obtain ⟨h4,h1⟩:∃W,w2.setCells (w.heap.size+1+1) 12 [(f 12),(f 13),(f 14),(f 15),(f 16),(f 17),(f 18),(f 19),(f 20),(f 21),(f 22),(f 23)]=W:=⟨_,rfl⟩
 rw [h1] at B4 R4 T4 X4
 show Code.wp _ _ _ _ (w2.setCells (w.heap.size+1+1) 12 [(f 12),(f 13),(f 14),(f 15),(f 16),(f 17),(f 18),(f 19),(f 20),(f 21),(f 22),(f 23)])
 rw [h1];clear h1 B3 R3 T3 X3;have q9:=B4.cell 24 rfl;have x3:=B4.cell 25 rfl;have cl:=B4.lt;have x4:=T4.cell (i:=24) (by decide);have x5:=T4.cell (i:=25) (by decide);have x6:=T4.frozen 24;have x7:=T4.frozen 25;have tl:=T4.lt;have T5:=hid (aY.step (aY.step T4 rfl rfl) rfl rfl);have R5:=hid ((R4.other (a:=⟨w.heap.size+1+1,24,none⟩) (by simp) (.int .i64 (f 24))).other (a:=⟨w.heap.size+1+1,25,none⟩) (by simp) (.int .i64 (f 25)));have X5:=hid ((X4.setCell (p:=⟨w.heap.size+1+1,24,none⟩) (by simp;omega) (.int .i64 (f 24))).setCell (p:=⟨w.heap.size+1+1,25,none⟩) (by simp;omega) (.int .i64 (f 25)));clear B4 R4 X4;go_upto_region 6 with fail
 obtain ⟨WC,h3⟩:∃W,((h4.setCell ⟨w.heap.size+1+1,24,none⟩ (f 24)).setCell ⟨w.heap.size+1+1,25,none⟩ (f 25))=W:=⟨_,rfl⟩
 rw [h3] at T5 R5 X5 ⊢;clear h3 q9 x3 cl x4 x5 x6 x7 tl T4;have x9:=(aY.full T5).rangeL (o:=0) [f 0,f 1,f 2,f 3,f 4,f 5,f 6,f 7,f 8,f 9,f 10,f 11,f 12,f 13,f 14,f 15,f 16,f 17,f 18,f 19,f 20,f 21,f 22,f 23,f 24,f 25] (by simp) (fun j x h=>by rw [aP0];exact aL6 f j x h);have x8:WC.heap[w.heap.size+1]?=some (.cells #[(),(),(),(),(),(),(),(),(),(),(),(),(),(),(),(),(),(),(),(),(),(),(),(),(),()] 127 (0,0)):=R5;go_wp2_with (first|(show wpList _ _ _ [_,_] _ _;refine wpList_load_mid rfl _ _ rfl (w.heap.size+1+1) 0 rfl [(f 0),(f 1),(f 2),(f 3),(f 4),(f 5),(f 6),(f 7),(f 8),(f 9),(f 10),(f 11),(f 12),(f 13),(f 14),(f 15),(f 16),(f 17),(f 18),(f 19),(f 20),(f 21),(f 22),(f 23),(f 24),(f 25)] _ x9 underlying127 rfl gS ?_)|(show wpList _ _ _ [_] _ _;refine wpList_store_rowTo rfl _ _ _ rfl rfl (w.heap.size+1) #[(f 0),(f 1),(f 2),(f 3),(f 4),(f 5),(f 6),(f 7),(f 8),(f 9),(f 10),(f 11),(f 12),(f 13),(f 14),(f 15),(f 16),(f 17),(f 18),(f 19),(f 20),(f 21),(f 22),(f 23),(f 24),(f 25)] rfl rfl _ _ x8 gS rfl (by kernel_rfl) ?_));have bR:=R5.rowB [(f 0),(f 1),(f 2),(f 3),(f 4),(f 5),(f 6),(f 7),(f 8),(f 9),(f 10),(f 11),(f 12),(f 13),(f 14),(f 15),(f 16),(f 17),(f 18),(f 19),(f 20),(f 21),(f 22),(f 23),(f 24),(f 25)];have xR:=X5.setRowB (g:=w.heap.size+1) (by omega) #[(f 0),(f 1),(f 2),(f 3),(f 4),(f 5),(f 6),(f 7),(f 8),(f 9),(f 10),(f 11),(f 12),(f 13),(f 14),(f 15),(f 16),(f 17),(f 18),(f 19),(f 20),(f 21),(f 22),(f 23),(f 24),(f 25)];refine aAx rfl rfl bR _ underlying127 rfl gS rfl ?_;exact ⟨rfl,xR⟩
theorem wL (f:Nat->Int) (w:World):R_ 84 #[.agg #[(f 0),(f 1),(f 2),(f 3),(f 4),(f 5),(f 6),(f 7),(f 8),(f 9),(f 10),(f 11),(f 12),(f 13),(f 14),(f 15),(f 16),(f 17),(f 18),(f 19),(f 20),(f 21),(f 22),(f 23),(f 24),(f 25)],.agg #[(f 0),(f 1),(f 2),(f 3),(f 4),(f 5),(f 6),(f 7),(f 8),(f 9),(f 10),(f 11),(f 12),(f 13),(f 14),(f 15),(f 16),(f 17),(f 18),(f 19),(f 20),(f 21),(f 22),(f 23),(f 24),(f 25)]] w (.bool true):=by
 have b0:=(aPh w 127 [(f 0),(f 1),(f 2),(f 3),(f 4),(f 5),(f 6),(f 7),(f 8),(f 9),(f 10),(f 11),(f 12),(f 13),(f 14),(f 15),(f 16),(f 17),(f 18),(f 19),(f 20),(f 21),(f 22),(f 23),(f 24),(f 25)]).ext (show Ext (w.alloc (.cells #[(f 0),(f 1),(f 2),(f 3),(f 4),(f 5),(f 6),(f 7),(f 8),(f 9),(f 10),(f 11),(f 12),(f 13),(f 14),(f 15),(f 16),(f 17),(f 18),(f 19),(f 20),(f 21),(f 22),(f 23),(f 24),(f 25)] 127)) ((w.alloc (.cells #[(f 0),(f 1),(f 2),(f 3),(f 4),(f 5),(f 6),(f 7),(f 8),(f 9),(f 10),(f 11),(f 12),(f 13),(f 14),(f 15),(f 16),(f 17),(f 18),(f 19),(f 20),(f 21),(f 22),(f 23),(f 24),(f 25)] 127)).alloc (.cells #[(f 0),(f 1),(f 2),(f 3),(f 4),(f 5),(f 6),(f 7),(f 8),(f 9),(f 10),(f 11),(f 12),(f 13),(f 14),(f 15),(f 16),(f 17),(f 18),(f 19),(f 20),(f 21),(f 22),(f 23),(f 24),(f 25)] 127)) from X_);have r0:=aPh (w.alloc (.cells #[(f 0),(f 1),(f 2),(f 3),(f 4),(f 5),(f 6),(f 7),(f 8),(f 9),(f 10),(f 11),(f 12),(f 13),(f 14),(f 15),(f 16),(f 17),(f 18),(f 19),(f 20),(f 21),(f 22),(f 23),(f 24),(f 25)] 127)) 127 [(f 0),(f 1),(f 2),(f 3),(f 4),(f 5),(f 6),(f 7),(f 8),(f 9),(f 10),(f 11),(f 12),(f 13),(f 14),(f 15),(f 16),(f 17),(f 18),(f 19),(f 20),(f 21),(f 22),(f 23),(f 24),(f 25)];rw [aO6] at r0;have X0:=hid (show Ext w ((w.alloc (.cells #[(f 0),(f 1),(f 2),(f 3),(f 4),(f 5),(f 6),(f 7),(f 8),(f 9),(f 10),(f 11),(f 12),(f 13),(f 14),(f 15),(f 16),(f 17),(f 18),(f 19),(f 20),(f 21),(f 22),(f 23),(f 24),(f 25)] 127)).alloc (.cells #[(f 0),(f 1),(f 2),(f 3),(f 4),(f 5),(f 6),(f 7),(f 8),(f 9),(f 10),(f 11),(f 12),(f 13),(f 14),(f 15),(f 16),(f 17),(f 18),(f 19),(f 20),(f 21),(f 22),(f 23),(f 24),(f 25)] 127)) from X_);have B0:=hid b0;have R0:=hid r0;clear b0 r0;go_enter func84,ntmps84;go_upto_region 1 with fail
 obtain ⟨WA,h0⟩:∃WA,((w.alloc (.cells #[(f 0),(f 1),(f 2),(f 3),(f 4),(f 5),(f 6),(f 7),(f 8),(f 9),(f 10),(f 11),(f 12),(f 13),(f 14),(f 15),(f 16),(f 17),(f 18),(f 19),(f 20),(f 21),(f 22),(f 23),(f 24),(f 25)] 127)).alloc (.cells #[(f 0),(f 1),(f 2),(f 3),(f 4),(f 5),(f 6),(f 7),(f 8),(f 9),(f 10),(f 11),(f 12),(f 13),(f 14),(f 15),(f 16),(f 17),(f 18),(f 19),(f 20),(f 21),(f 22),(f 23),(f 24),(f 25)] 127))=WA:=⟨_,rfl⟩
 rw [h0] at B0 R0 X0 ⊢;clear h0;have c0:=B0.cell 0 rfl;have d0:=R0.cell 0 rfl;have c1:=B0.cell 1 rfl;have d1:=R0.cell 1 rfl;have c2:=B0.cell 2 rfl;have d2:=R0.cell 2 rfl;have c3:=B0.cell 3 rfl;have d3:=R0.cell 3 rfl;have c4:=B0.cell 4 rfl;have d4:=R0.cell 4 rfl;have c5:=B0.cell 5 rfl;have d5:=R0.cell 5 rfl;have c6:=B0.cell 6 rfl;have d6:=R0.cell 6 rfl;have c7:=B0.cell 7 rfl;have d7:=R0.cell 7 rfl;have c8:=B0.cell 8 rfl;have d8:=R0.cell 8 rfl;have c9:=B0.cell 9 rfl;have d9:=R0.cell 9 rfl;have h1:=B0.cell 10 rfl;have q5:=R0.cell 10 rfl;have h2:=B0.cell 11 rfl;have q6:=R0.cell 11 rfl;have cl:=B0.lt;have dl:=R0.lt;go_wp2_with fail;refine r_ (qR (f 0) (f 1) (f 2) (f 3) (f 4) (f 5) (f 6) (f 7) (f 8) (f 9) (f 10) (f 11) _) fun w1 x1=>?_;have B1:=hid (B0.ext x1);have R1:=hid (R0.ext x1);have X1:=hid (X0.trans x1);clear B0 R0 X0 x1 cl dl c0 d0 c1 d1 c2 d2 c3 d3 c4 d4 c5 d5 c6 d6 c7 d7 c8 d8 c9 d9 h1 q5 h2 q6;have h3:=B1.cell 12 rfl;have q7:=R1.cell 12 rfl;have h4:=B1.cell 13 rfl;have q8:=R1.cell 13 rfl;have h5:=B1.cell 14 rfl;have q9:=R1.cell 14 rfl;have h6:=B1.cell 15 rfl;have x0:=R1.cell 15 rfl;have h7:=B1.cell 16 rfl;have x3:=R1.cell 16 rfl;have h8:=B1.cell 17 rfl;have x4:=R1.cell 17 rfl;have h9:=B1.cell 18 rfl;have x5:=R1.cell 18 rfl;have q0:=B1.cell 19 rfl;have x6:=R1.cell 19 rfl;have q1:=B1.cell 20 rfl;have x7:=R1.cell 20 rfl;have q2:=B1.cell 21 rfl;have x8:=R1.cell 21 rfl;have q3:=B1.cell 22 rfl;have x9:=R1.cell 22 rfl;have q4:=B1.cell 23 rfl;have z0:=R1.cell 23 rfl;have cl:=B1.lt;have dl:=R1.lt;go_wp2_with fail;refine r_ (qR (f 12) (f 13) (f 14) (f 15) (f 16) (f 17) (f 18) (f 19) (f 20) (f 21) (f 22) (f 23) _) fun w2 x2=>?_;have B2:=hid (B1.ext x2);have R2:=hid (R1.ext x2);have X2:=hid (X1.trans x2);clear B1 R1 X1 x2 cl dl h3 q7 h4 q8 h5 q9 h6 x0 h7 x3 h8 x4 h9 x5 q0 x6 q1 x7 q2 x8 q3 x9 q4 z0;have z1:=B2.cell 24 rfl;have z2:=B2.cell 25 rfl;have z3:=R2.cell 24 rfl;have z4:=R2.cell 25 rfl;have cl:=B2.lt;have dl:=R2.lt;go_wp2;go_ret;exact ⟨rfl,X2⟩
theorem aH2:(Tryz.prog.info? 127).map (fun i=>(i.zero,i.size,i.bytes))=some (some (.agg #[(),(),(),(),(),(),(),(),(),(),(),(),(),(),(),(),(),(),(),(),(),(),(),(),(),()]),26,208):=by kernel_rfl
theorem aH3:(Tryz.prog.info? 134).map (fun i=>i.size)=some 26:=by kernel_rfl
theorem aBc {g:Nat->Int} (h:∀j,j<26->w.cell? ⟨b,o+j,none⟩=some (.int .i64 (g j))):w.rangeAt b o [(g 0),(g 1),(g 2),(g 3),(g 4),(g 5),(g 6),(g 7),(g 8),(g 9),(g 10),(g 11),(g 12),(g 13),(g 14),(g 15),(g 16),(g 17),(g 18),(g 19),(g 20),(g 21),(g 22),(g 23),(g 24),(g 25)]:=by
 intro q v hq;have hl:=(aO7.1 hq).1
 rcases aBb hl with e|e|e|e|e|e|e|e|e|e|e|e|e|e|e|e|e|e|e|e|e|e|e|e|e|e <;> subst e <;> exact (h _ (by decide)).trans hq
theorem wM (lo hi:Nat) (u:Value) (n:Nat) (f:Nat->Int) (w:World) (hu:cU 26 lo hi w u n f) (hh:hi<=w.heap.size) (hsz:n<=1048576) :
  Calls aPa 39 #[u] w fun e w'=>e = .returned (.slice (some ⟨w.heap.size,0,none⟩) n n)/\aY w' w.heap.size 127 (n*26) f/\Ext w w':=by
 obtain ⟨i0,h5,h7,h8,h9⟩:=info_parts aH2;obtain ⟨a,cap,rfl,HU⟩:=hu.open;clear hu;have q4:=HU.cap;have q8:=HU.le;have q2:=hid HU;clear HU;go_enter func39,ntmps39;go_wp2_with (at_make;refine wpList_make_full _ rfl _ _ 38 rfl w.heap.size 127 i0 _ 26 underlying38 h5 h7 h8 _ _ _ _ n rfl rfl rfl rfl (by rw [h9];omega) (by unfold maxLen;omega) (aO3 _) ?_);intro w1 h3 h1;have hx:Ext w w1:=(aPg w).grown h1 (fun k h=>by cases h);have h0:=hid (aY.zero (f:=f) (zF (aGh (k:=26) rfl (by decide) _) h3));clear h3 h1 h5 h7 h8 h9;go_wp2
 go_loopw [4] (fun i wr=>∃k:Nat,k<=n/\i = .int .i64 k/\Ext w wr/\aY wr w.heap.size 127 (n*26) (kH f (k*26))) (fun i _=>n - (intOf i).toNat)
 case atStart=>exact ⟨0,by omega,rfl,hx,by simpa using h0.out⟩
 case round=>
  clear hx h0;obtain ⟨k,hk,rfl,hx,h0⟩:=hrel
  by_cases h6:k<n
  ·obtain ⟨b,q0,rfl,q6,q7,hc⟩:=q2.at h6 (by decide)
   have q5:=eJ (k:=26) (j:=25) h6 (by decide)
   obtain ⟨g,hg⟩:∃g:Nat->Int,g=fun j=>f (k*26+j):=⟨_,rfl⟩
   have h4:wr.rangeAt b (q0+k*26) [(g 0),(g 1),(g 2),(g 3),(g 4),(g 5),(g 6),(g 7),(g 8),(g 9),(g 10),(g 11),(g 12),(g 13),(g 14),(g 15),(g 16),(g 17),(g 18),(g 19),(g 20),(g 21),(g 22),(g 23),(g 24),(g 25)]:=aBc fun j hj=>((hx.cells.1 b _ (by omega)).trans (hc j hj)).trans (by rw [hg]);have HG:=hid hg;have HX:=hid hx;have HR:=hid h0
   have bl:b<wr.heap.size:=by have:=hx.size;omega
   clear hc hx h0 hg;go_wp2_with (show wpList _ _ _ [_,_,_,_] _ _;refine wpList_load_mid rfl _ _ rfl b (q0+k*26) rfl [(g 0),(g 1),(g 2),(g 3),(g 4),(g 5),(g 6),(g 7),(g 8),(g 9),(g 10),(g 11),(g 12),(g 13),(g 14),(g 15),(g 16),(g 17),(g 18),(g 19),(g 20),(g 21),(g 22),(g 23),(g 24),(g 25)] _ h4 underlying134 rfl aH3 ?_);refine r_ (xV g _) fun w2 h2=>?_;have hR:=HR.ext h2;have hX:=HX.trans h2;have ht:=hR.there (o:=k*26) (m:=26) (by omega);have q3:=hid (hX.setC (b:=w.heap.size) (aO3 _) [(g 0),(g 1),(g 2),(g 3),(g 4),(g 5),(g 6),(g 7),(g 8),(g 9),(g 10),(g 11),(g 12),(g 13),(g 14),(g 15),(g 16),(g 17),(g 18),(g 19),(g 20),(g 21),(g 22),(g 23),(g 24),(g 25)] (k*26));have q1:=hid (aY.stepN [g 0,g 1,g 2,g 3,g 4,g 5,g 6,g 7,g 8,g 9,g 10,g 11,g 12,g 13,g 14,g 15,g 16,g 17,g 18,g 19,g 20,g 21,g 22,g 23,g 24,g 25] (k*26) _ hR (fun j x h=>by have:=aL6 g j x h;rw [this,HG]));clear HX HR h2 hX hR h4;go_wp2_with (show wpList _ _ _ [_] _ _;refine wpList_store_mid rfl _ _ _ rfl w.heap.size (k*26) #[(g 0),(g 1),(g 2),(g 3),(g 4),(g 5),(g 6),(g 7),(g 8),(g 9),(g 10),(g 11),(g 12),(g 13),(g 14),(g 15),(g 16),(g 17),(g 18),(g 19),(g 20),(g 21),(g 22),(g 23),(g 24),(g 25)] rfl rfl ht fE (by kernel_rfl) ?_);clear ht;go_roundw
   case rel=>
    refine ⟨k+1,by omega,by go_num,q3,?_⟩;rw [aRj,aRl];exact q1
   case measure=>simp [intOf];omega
  ·go_wp2
   go_ret
   obtain rfl:k=n:=by omega
   exact ⟨rfl,h0.full,hx⟩
theorem tK (lo hi lo' hi':Nat) (u v:Value) (n:Nat) (f:Nat->Int) (w:World) (hu:cU 26 lo hi w u n f) (hv:cU 26 lo' hi' w v n f) (hh:hi<=w.heap.size) (hh':hi'<=w.heap.size) :
  R_ 44 #[u,v] w (.bool true):=by
 obtain ⟨a,cap,rfl,HU⟩:=cU.open hu;obtain ⟨a',q0,rfl,HV⟩:=cU.open hv;clear hu hv;have h1:=HU.le;have h2:=HU.cap;have q3:=HV.le;have q4:=HV.cap;have h8:=hid HU;have h9:=hid HV;clear HU HV;go_enter func44,ntmps44;go_wp2
 go_loopw [5] (fun i wr=>∃k:Nat,k<=n/\i = .int .i64 k/\Ext w wr) (fun i _=>n - (intOf i).toNat)
 case atStart=>exact ⟨0,by omega,rfl,X_⟩
 case round=>
  obtain ⟨k,hk,rfl,hx⟩:=hrel
  by_cases h4:k<n
  ·obtain ⟨b,h5,rfl,q5,q6,hc⟩:=h8.at h4 (by decide)
   obtain ⟨b',h0,rfl,q1,q2,h3⟩:=h9.at h4 (by decide)
   obtain ⟨g,hg⟩:∃g:Nat->Int,g=fun j=>f (k*26+j):=⟨_,rfl⟩
   have h6:=hid (show wr.rangeAt b (h5+k*26) [(g 0),(g 1),(g 2),(g 3),(g 4),(g 5),(g 6),(g 7),(g 8),(g 9),(g 10),(g 11),(g 12),(g 13),(g 14),(g 15),(g 16),(g 17),(g 18),(g 19),(g 20),(g 21),(g 22),(g 23),(g 24),(g 25)] from aBc fun j hj=>((hx.cells.1 b _ (by omega)).trans (hc j hj)).trans (by rw [hg]));have h7:=hid (show wr.rangeAt b' (h0+k*26) [(g 0),(g 1),(g 2),(g 3),(g 4),(g 5),(g 6),(g 7),(g 8),(g 9),(g 10),(g 11),(g 12),(g 13),(g 14),(g 15),(g 16),(g 17),(g 18),(g 19),(g 20),(g 21),(g 22),(g 23),(g 24),(g 25)] from aBc fun j hj=>((hx.cells.1 b' _ (by omega)).trans (h3 j hj)).trans (by rw [hg]))
   have s1:b<wr.heap.size:=by have:=hx.size;omega
   have s2:b'<wr.heap.size:=by have:=hx.size;omega
   have HX:=hid hx;clear hc h3 hx hg;go_wp2_with fail;refine aA [([0,1,2,3,4,5,6,7],8),([],9)] 99 wr.heap.size (by kernel_rfl) (by kernel_rfl) ?_;refine st_ (hq:=by intro R h;show wpQuiet _ _ _ _ [_,_,_,_,_,_,_,_] _;go_big_quiet_step (fail);go_big_quiet_step (fail);go_big_quiet_step (fail);refine eG rfl _ _ rfl b (h5+k*26) rfl [(g 0),(g 1),(g 2),(g 3),(g 4),(g 5),(g 6),(g 7),(g 8),(g 9),(g 10),(g 11),(g 12),(g 13),(g 14),(g 15),(g 16),(g 17),(g 18),(g 19),(g 20),(g 21),(g 22),(g 23),(g 24),(g 25)] _ (by rintro _ ⟨d,rfl⟩ j v hj;rw [iP _ _ _ _ s1];exact h6 j v hj) underlying127 rfl gS ?_;simp only [Act.put,aPb,aPj,aPi];go_big_quiet_step (fail);go_big_quiet_step (fail);go_big_quiet_step (fail);refine eG rfl _ _ rfl b' (h0+k*26) rfl [(g 0),(g 1),(g 2),(g 3),(g 4),(g 5),(g 6),(g 7),(g 8),(g 9),(g 10),(g 11),(g 12),(g 13),(g 14),(g 15),(g 16),(g 17),(g 18),(g 19),(g 20),(g 21),(g 22),(g 23),(g 24),(g 25)] _ (by rintro _ ⟨d,rfl⟩ j v hj;rw [iP _ _ _ _ s2];exact h7 j v hj) underlying127 rfl gS ?_;simp only [Act.put,aPb,aPj,aPi];exact wpQuiet_nil h) fun K hK=>?_;go_wp2_with fail;refine r_ (wL g _) fun w1 h1=>?_;have y1:Ext wr w1:=aPc X_ h1;go_wp2_with fail;refine k_ hK ?_;clear hK K;refine st_ fun K hK=>?_;go_wp2_with fail;refine k_ hK ?_;clear hK K;refine aC ?_;have hX:=HX.trans y1;clear h1 y1 HX;go_wp2;go_roundw
   case rel=>exact ⟨k+1,by omega,by go_num,hX⟩
   case measure=>simp [intOf];omega
  ·go_wp2
   go_ret;exact ⟨rfl,hx⟩
theorem wN (lo hi:Nat) (u:Value) (n:Nat) (f:Nat->Int) (left:Int) (w:World) (hu:cU 26 lo hi w u n f) (h1:0<=left) (h2:left<=1048576) :
  Z_ 34 #[u,left] w (.int .i64 (kG left n)):=by
 obtain ⟨a,cap,rfl,HU⟩:=hu.open;have h3:=HU.le;have h4:=HU.cap;unfold kG;go_enter func34,ntmps34;go_wp2
 all_goals go_ret
 all_goals exact ⟨rfl,rfl⟩
theorem wO {left:Int} (h:kG left n=r) (lo hi:Nat) (u:Value) (f:Nat->Int) (w:World) (hu:cU 26 lo hi w u n f) (h1:0<=left) (h2:left<=1048576) :
  Z_ 34 #[u,left] w (.int .i64 r):=h▸wN lo hi u n f left w hu h1 h2
theorem aBd (a b c d:Int) (e:Bool) (f g:Int) (w:World):Calls aPa 36 #[.agg #[a,b,c,d,.bool e,f,g]] w fun x w'=>x = .returned (.agg #[a,b,c,d,.bool e,f,g])/\Ext w w':=by
 go_enter func36,ntmps36;go_wp2;refine bodyPost_ret (v:=.agg #[a,b,c,d,.bool e,f,g]) (by simp [results,results36,go_sem]) rfl ⟨rfl,?_⟩;exact S_
theorem xW (a b c d:Int) (e:Bool) (f g:Int) (w:World):Calls aPa 41 #[.agg #[a,b,c,d,.bool e,f,g],.agg #[a,b,c,d,.bool e,f,g]] w fun x w'=>x = .returned (.bool true)/\Ext w w':=by
 cases e
 all_goals
  go_enter func41,ntmps41;go_wp2;go_ret;exact ⟨rfl,S_⟩
end Go.Proofs.YthgpegkmjeigmaaGreat
