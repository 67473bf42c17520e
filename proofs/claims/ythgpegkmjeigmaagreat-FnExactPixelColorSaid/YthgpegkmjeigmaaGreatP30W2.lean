/- Texts of this claim, one behind another; what its theorem does not use is left out: Cd5, Cd6, Lk6, Lk7, Pr1, Ck1, Tk1, PlanC, Fr1, RoundIn, Cells, Rb, Ge1, Tms, Ge4, Ge5, PlanB, PlanD, Ge6, Ge7, Tr1, Tr3, Ge8, Ge9, Ge2, Ge3, Ck2, Ck3, Ck4, Ck5. -/
import Derived.Test.YthgpegkmjeigmaaGreatP30W1
import Derived.Lib.OthersKept
import Derived.Laws.RangeAny
import Derived.RangeFuncNested
import Derived.RangeFuncBound
import Derived.RangeFuncCalls
import Derived.RangeFuncLeaves
import Derived.Shelf.Abstract
import Derived.Shelf.RegionOpen
import Derived.OwnWalkIn
import Derived.TacticsInMore
import Derived.LoopNIn
import Derived.LoopIn
import Derived.Test.YthgpegkmjeigmaaGreatRows
import Derived.RangeFuncFrom
import Derived.RangeFuncBox
import Derived.Laws.AppendOwnNone
set_option linter.unusedSimpArgs false
set_option linter.unusedVariables false
set_option maxRecDepth 100000
set_option maxHeartbeats 12800000
namespace Go.Proofs.YthgpegkmjeigmaaGreat
open Go.RowKit
open Go.Proofs.Tryz
variable {a:Act} {ops:Array Oper} {b:Bool} {Q:Exit→Act→World→Prop} {c d m q r x y:Int} {u xs:List Int} {l:List Oper} {B cap fuel g hi i k lo n p sz z:Nat} {o:Oper} {P:Program} {e t:TypeId} {v:Value} {w w' w1 w2 wr:World} {S:World→Prop}
open _root_.Array renaming getElem?_toList→aUj,getElem?_eq_some_iff→aR3,replicate→aVr,replicate_succ→aWl,replicate_zero→aWm,getElem?_setIfInBounds→aWe,getElem?_eq_getElem→aU1,getElem?_eq_none→aXk,ext_getElem?→aXe
open _root_.Bool renaming and_true→aZd,true_and→aW4,eq_iff_iff→aW7,and_eq_false_iff→aZ4,and_eq_true→aRy
open _root_.Go.Addr.mk renaming injEq→aSr
open _root_.Go.Fence renaming wide→aY2
open _root_.Go.Instr renaming next→bBs,makeFunc→aV4,index→aUy
open _root_.Go.KeepsOthers renaming setCell→aV1,of_grownBy→aXp
open _root_.Go.Obj.cells renaming injEq→aSx
open _root_.Go.Oper renaming quietAt→aYx,wp_mono→aWy,wp→aXx,semAt_some→aXc
open _root_.Go.Proofs.Tryz renaming prog→aRn
open _root_.Go.Proofs.YthgpegkmjeigmaaGreat.Blk renaming new→aRr
open _root_.Go.Proofs.YthgpegkmjeigmaaGreat.Ext renaming refl→aRu,trans→aRo,drew→aSk,cells→aY0,block→aRv,setCell→aR0
open _root_.Go.Region renaming ready→aS8,noSelect→aU0,noSelect_spec→aUe,free_spec→aU5
open _root_.Go.RowKit.Below renaming heap_setCell→aRt,refl→aX8
open _root_.Go.Value.slice renaming injEq→aSb
open _root_.Go.World renaming size_alloc→aRj,size_setCell→aS6,cell?_of_block→aS3,putObj_heap_other→aUq
open _root_.Go.World.rowIs renaming cell→aTc,lt→aT5,frozen→aTq,congr→aTv,set→aYo
open _root_.Int renaming toNat_natCast→aSc,lt_trichotomy→aXo,mul_nonneg→aSu,mul_comm→aTj,zero_add→bA2,cast_ofNat_Int→aXg,natCast_add→aTn
open _root_.List renaming mem_cons→aR4,all_eq_true→aSs,take_length→aSh,drop_eq_getElem_cons→aT7,mem_of_getElem?→aR7,getElem_of_mem→aSj,range→aR6,all_eq_false→aUt,mem_range→aSq,flatMap_cons→aTk,length_append→aSa,length_cons→aSw,getElem?_eq_some_iff→aRk,flatMap_append→aSy,all_cons→aYg,filterMap_cons→aR8,length_nil→aTu,filterMap_nil→aR1,getElem?_toArray→aRm,getElem?_cons_zero→aRg,getElem?_cons_succ→aRh,setIfInBounds_toArray→aRp,set_cons_succ→aRx,set_cons_zero→aRw,size_toArray→aWj,push_toArray→aXu,append_toArray→aW3,nil_append→aTf,cons_append→aWt,map_cons→aTr,mem_cons_self→aVl,mem_cons_of_mem→aU7,mem_map→aTl,not_mem_nil→aRz,mem_erase_of_ne→aYk,length_map→aSv,mem_append→aTz,map_nil→aWv,replicate→aR5,getD_eq_getElem?_getD→aSe,foldl_cons→aXa,length_replicate→aVo
open _root_.Nat renaming le_trans→aRq,zero_le→aS1,zero_add→aSf,succ_mul→aWx,le_refl→aRi,lt_of_lt_of_le→aS5,one_mul→aT2,mul_le_mul→aSi,mod_lt→aT4,reduceAdd→aUl,reduceSub→aZf,mod_eq_of_lt→aU4,div_lt_of_lt_mul→aTs,mul_zero→aZt,mul_one→aVi,reduceMul→aZe
open _root_.Option.some renaming inj→aTh,injEq→aRl
theorem oZ (a1 a2:Option Addr) (n1 c1 c2 L:Nat) (hL:L<=2000000) (op:Int) (s:ByteArray) (n:Int) (w:World) (h:wfI op s n L=true) {p:Int} (hp:cP op s=p) (hq:gI op=q) :
  R_ 234 #[.agg #[.slice a1 n1 c1,.slice a2 L c2],.agg #[op,.string s,n]] w (.tuple #[p,q,.bool true]):=by
 subst hp hq
 by_cases ho:1<=op/\op<=7
 case neg=>
  unfold wfI at h;rw [if_neg (by omega),if_neg (by omega),if_neg (by omega),if_neg (by omega),if_neg (by omega),if_neg (by omega),if_neg (by omega)] at h;cases h
 rcases (show op=1\/op=2\/op=3\/op=4\/op=5\/op=6\/op=7 by omega) with rfl|rfl|rfl|rfl|rfl|rfl|rfl
 ·have:=aN7 a1 a2 n1 c1 c2 L hL s n w rfl rfl
  rw [show (s.toList==[])=true by simpa [wfI] using h] at this;exact this
 ·have:=aN8 a1 a2 n1 c1 c2 L hL s n w rfl rfl rfl
  rw [show (dB s&&decide (n=0))=true by simpa [wfI] using h] at this;exact this
 ·have:=aN9 a1 a2 n1 c1 c2 L hL s n w rfl rfl
  rw [show ((s.toList==[])&&inB n 0 ((L:Int) - 1))=true by simpa [wfI] using h] at this;exact this
 ·have:=aOa a1 a2 n1 c1 c2 L hL s n w rfl rfl
  rw [show ((s.toList==[])&&inB n 0 ((L:Int) - 1))=true by simpa [wfI] using h] at this;exact this
 ·have:=aOb a1 a2 n1 c1 c2 L hL s n w rfl rfl
  rw [show ((s.toList==[])&&decide (n=3))=true by simpa [wfI] using h] at this;exact this
 ·have:=aOc a1 a2 n1 c1 c2 L hL s n w rfl rfl rfl
  rw [show ((s.toList==[])&&inB n 4 7)=true by simpa [wfI] using h] at this;exact this
 ·have:=aOd a1 a2 n1 c1 c2 L hL s n w rfl rfl rfl
  have hb:=oD s;rw [show (decide (0<cF s)&&decide (n=0))=true by (simp [wfI] at h;simp;omega)] at this;exact this
theorem aMx (a1 a2:Option Addr) (n1 c1 c2 L:Nat) (hL:L<=2000000) (op:Int) (s:ByteArray) (n:Int) (w:World) (h:wfI op s n L=false) :
  Calls aRn 234 #[.agg #[.slice a1 n1 c1,.slice a2 L c2],.agg #[op,.string s,n]] w fun e w'=>(∃p q,e = .returned (.tuple #[p,q,.bool false]))/\Ext w w':=by
 by_cases ho:1<=op/\op<=7
 case neg=>exact (aPp a1 a2 n1 c1 c2 L hL s n w rfl rfl op ho).mono fun e w' ⟨h1,h2⟩=>⟨⟨_,_,h1⟩,h2⟩
 rcases (show op=1\/op=2\/op=3\/op=4\/op=5\/op=6\/op=7 by omega) with rfl|rfl|rfl|rfl|rfl|rfl|rfl
 ·have:=aN7 a1 a2 n1 c1 c2 L hL s n w rfl rfl
  rw [show (s.toList==[])=false by simpa [wfI] using h] at this
  exact this.mono fun e w' ⟨h1,h2⟩=>⟨⟨_,_,h1⟩,h2⟩
 ·have:=aN8 a1 a2 n1 c1 c2 L hL s n w rfl rfl rfl
  rw [show (dB s&&decide (n=0))=false by simpa [wfI] using h] at this
  exact this.mono fun e w' ⟨h1,h2⟩=>⟨⟨_,_,h1⟩,h2⟩
 ·have:=aN9 a1 a2 n1 c1 c2 L hL s n w rfl rfl
  rw [show ((s.toList==[])&&inB n 0 ((L:Int) - 1))=false by simpa [wfI] using h] at this
  exact this.mono fun e w' ⟨h1,h2⟩=>⟨⟨_,_,h1⟩,h2⟩
 ·have:=aOa a1 a2 n1 c1 c2 L hL s n w rfl rfl
  rw [show ((s.toList==[])&&inB n 0 ((L:Int) - 1))=false by simpa [wfI] using h] at this
  exact this.mono fun e w' ⟨h1,h2⟩=>⟨⟨_,_,h1⟩,h2⟩
 ·have:=aOb a1 a2 n1 c1 c2 L hL s n w rfl rfl
  rw [show ((s.toList==[])&&decide (n=3))=false by simpa [wfI] using h] at this
  exact this.mono fun e w' ⟨h1,h2⟩=>⟨⟨_,_,h1⟩,h2⟩
 ·have:=aOc a1 a2 n1 c1 c2 L hL s n w rfl rfl rfl
  rw [show ((s.toList==[])&&inB n 4 7)=false by simpa [wfI] using h] at this
  exact this.mono fun e w' ⟨h1,h2⟩=>⟨⟨_,_,h1⟩,h2⟩
 ·have:=aOd a1 a2 n1 c1 c2 L hL s n w rfl rfl rfl
  have hb:=oD s;rw [show (decide (0<cF s)&&decide (n=0))=false by (simp [wfI] at h;simp;omega)] at this
  exact this.mono fun e w' ⟨h1,h2⟩=>⟨⟨_,_,h1⟩,h2⟩
theorem aF4 (lo hi:Nat) (v:Value) (c:Cod) (w:World) (hv:c.R lo hi w v) (hh:hi<=w.heap.size) (hL:c.ls.length<=2000000) :
  R_ 232 #[v] w (.tuple #[(c.depth.getD 0),.bool c.depth.isSome]):=by
 obtain ⟨a1,c1,a2,c2,rfl,HI,HS⟩:=hv.form;have l1:=HI.le;have l2:=HI.cap;have l3:=HS.le;have l4:=HS.cap;clear hv
 obtain ⟨L,q9⟩:∃L,c.ls.length=L:=⟨_,rfl⟩
 rw [q9] at hL l3 ⊢
 by_cases q3:c.xs.length<=300
 case neg=>
  have e:c.depth=none:=by unfold Cod.depth;rw [if_neg q3]
  rw [e];obtain ⟨i0,h9,q4,q5,q6⟩:=info_parts qX;go_enter func232,ntmps232;go_wp2_with (at_make;refine wpList_make_row _ rfl _ _ 298 rfl 4 i0 (.bool false) underlying298 h9 q4 q5 rfl .i64 .i64 L rfl rfl (by rw [q6];omega) (by omega) ?_);clear h9 q4 q5 q6;go_wp2;refine bodyPost_ret (v:=.tuple #[(),.bool false]) (by simp [results,results232,go_sem]) rfl ⟨rfl,S_⟩
 obtain ⟨R,hR⟩:∃R,c.depth=R:=⟨_,rfl⟩
 have h0:iM L c.xs 0 0 (fun _=>false)=R:=by rw [<-hR,<-q9];unfold Cod.depth;rw [if_pos q3]
 rw [hR];have h8:=hid h0;clear h0 hR;obtain ⟨i0,h9,q4,q5,q6⟩:=info_parts qX;go_enter func232,ntmps232;go_wp2_with (at_make;refine wpList_make_row _ rfl _ _ 298 rfl 4 i0 (.bool false) underlying298 h9 q4 q5 rfl .i64 .i64 L rfl rfl (by rw [q6];omega) (by omega) ?_);have h2:=hid (show zS _ _ L (fun _=>false) from World.rowIs_made (w.alloc (.cells #[.slice a1 c.xs.length c1,.slice a2 L c2] 163)) (.bool false) L 4);have h1:=hid ((iH.made w (.slice a1 c.xs.length c1) (.slice a2 L c2) 163).ext ((aRu _).alloc (.cells (madeCells #[.bool false] L) 4)));have X0:=hid (show Ext w ((w.alloc (.cells #[.slice a1 c.xs.length c1,.slice a2 L c2] 163)).alloc (.cells (madeCells #[.bool false] L) 4)) from X_);clear h9 q4 q5 q6;go_wp2;simp only [aRj] at h2;generalize hB:w.heap.size+1=B at h2
 go_loopw [4,5,23] (fun dv mv i wr=>∃(k:Nat) (d m:Int) (st:Nat->Bool),k<=c.xs.length/\i = .int .i64 k/\dv = .int .i64 d/\mv = .int .i64 m/\iM L (c.xs.drop k) d m st=R/\0<=d/\d<=k/\0<=m/\m<=k/\Ext w wr/\zS wr B L st/\iH wr w.heap.size (.slice a1 c.xs.length c1) (.slice a2 L c2)) (fun _ _ i _=>c.xs.length - (intOf i).toNat)
 case atStart=>exact ⟨0,0,0,_,by omega,rfl,rfl,rfl,h8,by omega,by omega,by omega,by omega,X0,h2.out,h1.out⟩
 case round=>
  clear h8 X0 h2 h1;obtain ⟨k,d,m,st,hk,rfl,rfl,rfl,h0,d0,d1,m0,m1,hx,h2,h1⟩:=hrel
  have k0:k<=300:=by omega
  by_cases x8:k<c.xs.length
  ·obtain ⟨b,z9,op,s,n,rfl,z4,z5,h5,q8,io,z8,x0,x1,x2⟩:=HI.at x8 hx hh
   rw [h5] at h0;unfold iM at h0;have q0:=h1.lt;have q1:=h1.c0;have q2:=h1.c1;have HX:=hid hx;have HR:=hid h2;have HQ:=hid h1;clear hx h2 h1 h5 q8
   cases h4:wfI op s n L
   ·have e:R=none:=by rw [<-h0,if_neg (by simp [h4])]
    subst e;clear h0;go_wp2_with fail;refine (aMx _ _ _ _ _ L hL op s n _ h4).mono ?_;rintro e w1 ⟨⟨p,q,rfl⟩,x1⟩;have X1:Ext w w1:=aRo (by have hx:=HX.out;exact X_) x1;go_wp2;refine bodyPost_ret (v:=.tuple #[(),.bool false]) (by simp [results,results232,go_sem]) rfl ⟨rfl,S_⟩
   have pb:=aB9 h4;have qb:=aHw op
   obtain ⟨p,hp⟩:∃p,cP op s=p:=⟨_,rfl⟩
   obtain ⟨q,hq⟩:∃q,gI op=q:=⟨_,rfl⟩
   rw [hp,hq] at h0;rw [hp] at pb;rw [hq] at qb;have HP:=hid hp;have h6:=hid hq;simp only [h4,true_and] at h0
   by_cases h3:op=3/\st n.toNat=false
   ·obtain ⟨rfl,h3⟩:=h3
    obtain ⟨j,rfl,hj⟩:=nM h4 (.inl rfl);simp only [aSc] at h3
    have e:R=none:=by rw [<-h0,if_neg (by simp [h3])]
    subst e;clear h0 hp hq;go_wp2_with fail;refine r_ (oZ _ _ _ _ _ L hL _ s _ _ h4 HP h6) fun w1 x1=>?_;have X1:Ext w w1:=aRo (by have hx:=HX.out;exact X_) x1;have K1:=(kE.made wr 3 s j 221).ext x1;have R1:=(HR.ext ((aRu _).alloc (.cells #[.int .i64 3,.string s,j] 221))).ext x1;have y0:=K1.lt;have y1:=K1.c0;have y2:=K1.c1;have y3:=K1.c2;have z0:=aTc R1 hj;rw [h3] at z0;have z1:=aT5 R1;clear K1 R1 x0 x1 x2;go_wp2
    all_goals refine bodyPost_ret (v:=.tuple #[(),.bool false]) (by simp [results,results232,go_sem]) rfl ⟨rfl,S_⟩
   have q7:op=3->st n.toNat=true:=fun e=>by
    cases h:st n.toNat
    ·exact absurd ⟨e,h⟩ h3
    ·rfl
   have H3:=hid q7
   by_cases x4:p<=d
   case neg=>
    rw [if_neg (fun h=>x4 h.2)] at h0;subst h0;clear hp hq q7;have z7:(decide (d<p))=true:=decide_eq_true (by omega)
    by_cases e3:op=3
    ·subst e3
     have:=HP.out;have e:cP 3 s=0:=rfl;omega
    go_wp2_with fail;refine r_ (oZ _ _ _ _ _ L hL _ s _ _ h4 HP h6) fun w1 x1=>?_;have X1:Ext w w1:=aRo (by have hx:=HX.out;exact X_) x1;have K1:=(kE.made wr op s n 221).ext x1;have y0:=K1.lt;have y1:=K1.c0;have y2:=K1.c1;have y3:=K1.c2;clear x0 x1 x2;go_wp2;refine bodyPost_ret (v:=.tuple #[(),.bool false]) (by simp [results,results232,go_sem]) rfl ⟨rfl,S_⟩
   rw [if_pos ⟨q7,x4⟩] at h0;have h7:=hid h0;clear h0 hp hq q7
   have pl:d - p+q<=(k:Int)+1:=by omega
   have pn:0<=d - p+q:=by omega
   obtain ⟨D,hD⟩:∃D,d - p+q=D:=⟨_,rfl⟩
   rw [hD] at h7 pl pn
   have z3:d+(q - p)=D:=by omega
   have hM:∃M:Int,(if D > m then D else m)=M/\0<=M/\M<=(k:Int)+1:=⟨_,rfl,by split <;> omega,by split <;> omega⟩
   obtain ⟨M,hM,M0,M1⟩:=hM;have HM:=hid hM;clear hM
   by_cases e3:op=3
   ·subst e3
    obtain ⟨j,rfl,hj⟩:=nM h4 (.inl rfl);have x5:=H3.out rfl;simp only [aSc] at x5;go_wp2_with fail;refine r_ (oZ _ _ _ _ _ L hL _ s _ _ h4 HP h6) fun w1 x1=>?_;have X1:Ext w w1:=aRo (by have hx:=HX.out;exact X_) x1;have g1:Ext wr w1:=aRo X_ x1;have K1:=(kE.made wr 3 s j 221).ext x1;have R1:=HR.ext g1;have z0:=aTc R1 hj;rw [x5] at z0;have z1:=aT5 R1;have y0:=K1.lt;have y1:=K1.c0;have y2:=K1.c1;have y3:=K1.c2;clear x0 x1 x2;have B2:=HQ.ext g1;have R2:=R1;have X2:=X1;go_wp2_with fail;refine z_ (oU (c:=M) (I64.mk (by omega) (by omega)) (I64.mk (by omega) (by omega)) (by rw [<-HM];split <;> split <;> omega) _) ?_;go_wp2;go_roundw
    case rel=>exact ⟨k+1,D,M,_,by omega,by go_num,rfl,rfl,by rw [<-HM];exact h7,pn,by omega,M0,by omega,X2,R2,B2⟩
    case measure=>simp [intOf];omega
   by_cases e4:op=4
   ·subst e4
    obtain ⟨j,rfl,hj⟩:=nM h4 (.inr rfl)
    have x9:B≠w.heap.size:=by omega
    go_wp2_with fail;refine r_ (oZ _ _ _ _ _ L hL _ s _ _ h4 HP h6) fun w1 x1=>?_;have X1:Ext w w1:=aRo (by have hx:=HX.out;exact X_) x1;have g1:Ext wr w1:=aRo X_ x1;have K1:=(kE.made wr 4 s j 221).ext x1;have R1:=HR.ext g1;have y0:=K1.lt;have y1:=K1.c0;have y2:=K1.c1;have y3:=K1.c2;clear x0 x1 x2;have B2:=HQ.ext g1;have R2:=R1;have X2:=X1;have z0:=aTc R2 hj;have z1:=aT5 R2;have z2:=aTq R2 j;have x6:=hid B2;have x7:=hid R2;clear B2 R2;go_wp2_with fail;refine z_ (oU (c:=M) (I64.mk (by omega) (by omega)) (I64.mk (by omega) (by omega)) (by rw [<-HM];split <;> split <;> omega) _) ?_;go_wp2;go_roundw
    case rel=>exact ⟨k+1,D,M,_,by omega,by go_num,rfl,rfl,by rw [<-HM];exact h7,pn,by omega,M0,by omega,X2.setCell (by show w.heap.size<=B;omega) _,x7.mark j,x6.at (by simp) (aRt _ _ _ _ (by show w.heap.size≠B;omega))⟩
    case measure=>simp [intOf];omega
   ·have x3:iL op n st=st:=by unfold iL;rw [if_neg e4]
    rw [x3] at h7;clear x3;go_wp2_with fail;refine r_ (oZ _ _ _ _ _ L hL _ s _ _ h4 HP h6) fun w1 x1=>?_;have X1:Ext w w1:=aRo (by have hx:=HX.out;exact X_) x1;have g1:Ext wr w1:=aRo X_ x1;have K1:=(kE.made wr op s n 221).ext x1;have R1:=HR.ext g1;have y0:=K1.lt;have y1:=K1.c0;have y2:=K1.c1;have y3:=K1.c2;clear x0 x1 x2;have B2:=HQ.ext g1;have R2:=R1;have X2:=X1;go_wp2_with fail;refine z_ (oU (c:=M) (I64.mk (by omega) (by omega)) (I64.mk (by omega) (by omega)) (by rw [<-HM];split <;> split <;> omega) _) ?_;go_wp2;go_roundw
    case rel=>exact ⟨k+1,D,M,_,by omega,by go_num,rfl,rfl,by rw [<-HM];exact h7,pn,by omega,M0,by omega,X2,R2,B2⟩
    case measure=>simp [intOf];omega
  ·obtain rfl:k=c.xs.length:=by omega
   rw [List.drop_length] at h0;have e:=aD0 h0;clear h0
   by_cases hd:d=0
   ·rw [if_pos hd] at e
    subst e hd;go_wp2;refine bodyPost_ret (v:=.tuple #[m,.bool true]) (by simp [results,results232,go_sem]) rfl ⟨rfl,S_⟩
   ·rw [if_neg hd] at e
    have z6:(d != 0)=true:=by simp [hd]
    subst e;go_wp2;refine bodyPost_ret (v:=.tuple #[(),.bool false]) (by simp [results,results232,go_sem]) rfl ⟨rfl,S_⟩
def iD (x:Ins):Bool:=inB x.num (-1000000000) 1000000000
def Cod.runB (c:Cod):Bool:=c.depth.isSome&&c.xs.all iD
theorem aCa {L:Nat}:∀(xs:List Ins) (d m:Int) (st:Nat->Bool),(iM L xs d m st).isSome=true->∀x∈xs,wfI x.op x.name x.num L=true
 | [],_,_,_,_,x,hx=>by cases hx
 | y::r,d,m,st,h,x,hx=>by
  unfold iM at h
  split at h
  ·rename_i hc
   rcases aR4.1 hx with rfl|hx
   ·exact hc.1
   ·exact aCa r _ _ _ h x hx
  ·simp at h
theorem Cod.wf {c:Cod} (h:c.depth.isSome=true):∀x∈c.xs,wfI x.op x.name x.num c.ls.length=true:=by
 unfold Cod.depth at h
 split at h
 ·exact aCa _ _ _ _ h
 ·simp at h
theorem aOx {x:Ins} {L:Nat} (h:wfI x.op x.name x.num L=true) (hL:L<=2000000) (h1:x.op≠1):iD x=true:=by
 unfold wfI at h;rw [if_neg h1] at h;refine aG.2 ?_
 split at h
 ·simp at h;omega
 split at h
 ·simp [aG] at h;omega
 split at h
 ·simp [aG] at h;omega
 split at h
 ·simp at h;omega
 split at h
 ·simp [aG] at h;omega
 split at h
 ·simp at h;omega
 ·cases h
def uG (x:Ins):Bool:=!(x.op==1)||iD x
theorem Cod.runB_push {c:Cod} (hL:c.ls.length<=2000000):(c.xs.all uG&&c.depth.isSome)=c.runB:=by
 unfold Cod.runB
 cases h:c.depth.isSome
 ·simp
 ·rw [aZd,aW4]
  have hw:=Cod.wf h;rw [aW7,aSs,aSs]
  constructor
  ·intro k x hx
   have h1:=k x hx
   by_cases e:x.op=1
   ·simpa [uG,e] using h1
   ·exact aOx (hw x hx) hL e
  ·intro k x hx
   simp [uG,k x hx]
theorem aF5 {c:Cod} (h:c.depth.getD 0=m/\c.depth.isSome=b) (lo hi:Nat) (v:Value) (w:World) (hv:c.R lo hi w v) (hh:hi<=w.heap.size) (hL:c.ls.length<=2000000) :
  R_ 253 #[v] w (.tuple #[m,.bool b]):=h.1▸h.2▸aF3 lo hi v c w hv hh hL
theorem wI {c:Cod} (h:c.depth.getD 0=m/\c.depth.isSome=b) (lo hi:Nat) (v:Value) (w:World) (hv:c.R lo hi w v) (hh:hi<=w.heap.size) (hL:c.ls.length<=2000000) :
  R_ 232 #[v] w (.tuple #[m,.bool b]):=h.1▸h.2▸aF4 lo hi v c w hv hh hL
theorem lL {c:Cod} {r:Bool} (hr:c.runB=r) (lo hi:Nat) (v:Value) (w:World) (hv:c.R lo hi w v) (hh:hi<=w.heap.size) (hL:c.ls.length<=2000000) :
  R_ 222 #[v] w (.bool r):=by
 have HV:=hid hv;obtain ⟨a1,c1,a2,c2,rfl,HI,HS⟩:=hv.form;have l1:=HI.le;have l2:=HI.cap;clear hv HS;rw [<-Cod.runB_push hL] at hr;have HR:=hid hr;clear hr;go_enter func222,ntmps222;go_wp2;have h0:=hid (iH.made w (.slice a1 c.xs.length c1) (.slice a2 c.ls.length c2) 163);have X0:=hid (show Ext w (w.alloc (.cells #[.slice a1 c.xs.length c1,.slice a2 c.ls.length c2] 163)) from X_)
 go_loopw [10] (fun i wr=>∃(k:Nat),k<=c.xs.length/\i = .int .i64 k/\(c.xs.take k).all uG=true/\Ext w wr/\iH wr w.heap.size (.slice a1 c.xs.length c1) (.slice a2 c.ls.length c2)) (fun i _=>c.xs.length - (intOf i).toNat)
 case atStart=>exact ⟨0,by omega,rfl,rfl,X0,h0.out⟩
 case round=>
  clear X0 h0;obtain ⟨k,hk,rfl,h2,hx,h0⟩:=hrel
  by_cases h5:k<c.xs.length
  ·obtain ⟨b,q6,op,s,n,rfl,q3,q4,h3,h4,io,q5,x0,x1,x2⟩:=HI.at h5 hx hh
   have h7:c.xs[k]=⟨op,s,n⟩:=by have:=h4;rw [List.getElem?_eq_getElem h5] at this;exact aTh this
   have HX:=hid hx;have HQ:=hid (h0.ext ((aRu _).alloc (.cells #[op,.string s,n] 221)));have HA:=hid h2;have HK:=hid h7;clear hx h0 h3 h4 h2 h7
   by_cases h1:op=1
   ·subst h1
    cases hn:inB n (-1000000000) 1000000000
    ·have h6:=hid hn
     go_wp2_with fail;refine z_ (aL h6.out _) ?_;go_wp2;go_ret;have e:c.xs.all uG=false:=vV h5 (by rw [HK];simp [uG,iD,h6.out]);have hr:=HR.out;rw [e] at hr;refine ⟨aK hr,?_⟩;have hx:=HX.out;exact S_
    ·have h6:=hid hn
     go_wp2_with fail;refine z_ (aL h6.out _) ?_;go_wp2;go_roundw
     case rel=>
      refine ⟨k+1,by omega,by go_num,jN h5 HA.out (by rw [HK];simp [uG,iD,h6.out]),?_,HQ⟩;have hx:=HX.out;exact S_
     case measure=>simp [intOf];omega
   ·have h9:(op==1)=false:=beq_eq_false_iff_ne.2 h1
    have H1:=hid h9;go_wp2;go_roundw
    case rel=>
     refine ⟨k+1,by omega,by go_num,jN h5 HA.out (by rw [HK];simp [uG,H1.out]),?_,HQ⟩;have hx:=HX.out;exact S_
    case measure=>simp [intOf];omega
  ·obtain rfl:k=c.xs.length:=by omega
   rw [aSh] at h2;have hr:=HR.out;rw [h2,aW4] at hr;have h8:=hid hr;clear hr h2;have q0:=h0.lt;have q1:=h0.c0;have q2:=h0.c1;clear h0;go_wp2_with fail;refine r_ (aF5 ⟨rfl,h8⟩ lo hi _ _ (HV.ext hh (by assumption)) (by have:=hx.size;omega) hL) fun w1 x1=>?_;go_wp2;go_ret;exact ⟨rfl,hx.trans x1⟩
def fC (f z:Nat->Value) (c i:Nat):Value:=if i<c then f i else z i
theorem fS {b:Nat} {f z:Nat->Value} {c:Nat} (h:w.rowIs b t n (fC f z c)) {x:Value} (hi:i=c) (hx:x=f c):(w.setCell ⟨b,i,none⟩ x).rowIs b t n (fC f z (c+1)):=by
 subst hi hx;refine aTv (aYo h i (f i)) fun j _=>?_;unfold fC
 by_cases e:j=i
 ·subst e;simp
 ·rw [if_neg e]
  by_cases h1:j<i
  ·rw [if_pos h1,if_pos (by omega)]
  ·rw [if_neg h1,if_neg (by omega)]
theorem lM {size:Nat} {z:Array Value} {f:Nat->Value} (hz:∀i,i<n*size->(madeCells z (n*size))[i]?=some (f i))
  (h:w.ownsRow lo e size (.slice (some ⟨g,0,none⟩) n n) n (madeCells z (n*size)).toList):w.rowIs g e (n*size) f:=by
 rcases h.2 with ⟨h1,h4⟩|⟨g',cap,cur,h1,hb,hg,hc,hm,hs,ht⟩
 ·simp at h1
 ·simp only [aSb,true_and,aRl,aSr,and_true] at h1
  obtain ⟨rfl,rfl⟩:=h1;refine ⟨cur,hg,hs,fun i hi=>?_⟩;have h2:=hz i hi
  have h3:cur.toList=(madeCells z (n*size)).toList:=by
   rw [<-ht,List.take_of_length_le];simp [hs]
  rw [<-aUj,h3,aUj];exact h2
def Cod.small (c:Cod):Prop:=c.xs.length<=1048576/\c.ls.length<=1048576
structure Nd where
 op:Int
 name:ByteArray
 num:Int
 args:List Int
structure Asg where
 name:ByteArray
 root:Int
structure Prg where
 ns:List Nd
 gs:List Asg
def Nds (lo hi:Nat) (w:World) (v:Value) (xs:List Nd):Prop:=
 ∃a cap,v = .slice a xs.length cap/\xs.length<=cap/\cap<=maxLen/\∀i x,xs[i]?=some x->(I64 x.op/\I64 x.num)/\∃b off u,a=some ⟨b,off,none⟩/\lo<=b/\b<hi/\w.cell? ⟨b,off+i*4,none⟩=some (.int .i64 x.op)/\w.cell? ⟨b,off+i*4+1,none⟩=some (.string x.name)/\w.cell? ⟨b,off+i*4+2,none⟩=some (.int .i64 x.num)/\w.cell? ⟨b,off+i*4+3,none⟩=some u/\aS lo hi w u x.args
theorem Nds.same {xs:List Nd} (h:Nds lo hi w v xs) (s:aM lo hi w w'):Nds lo hi w' v xs:=by
 obtain ⟨a,cap,h1,h2,h3,h4⟩:=h;refine ⟨a,cap,h1,h2,h3,fun i x hx=>?_⟩;obtain ⟨h5,b,q3,u,h6,h7,h8,h9,h0,q0,q1,q2⟩:=h4 i x hx;exact ⟨h5,b,q3,u,h6,h7,h8,by rw [s.cell h7 h8];exact h9,by rw [s.cell h7 h8];exact h0,by rw [s.cell h7 h8];exact q0,by rw [s.cell h7 h8];exact q1,q2.same s⟩
structure rS (lo hi:Nat) (w:World) (a:Option Addr) (cap:Nat) (xs:List Nd):Prop where
 le:xs.length<=cap
 cap:cap<=9223372036854775807
 cell:∀i x,xs[i]?=some x->(I64 x.op/\I64 x.num)/\∃b off u,a=some ⟨b,off,none⟩/\lo<=b/\b<hi/\w.cell? ⟨b,off+i*4,none⟩=some (.int .i64 x.op)/\w.cell? ⟨b,off+i*4+1,none⟩=some (.string x.name)/\w.cell? ⟨b,off+i*4+2,none⟩=some (.int .i64 x.num)/\w.cell? ⟨b,off+i*4+3,none⟩=some u/\aS lo hi w u x.args
theorem Nds.open {xs:List Nd} (h:Nds lo hi w v xs):∃a cap,v = .slice a xs.length cap/\rS lo hi w a cap xs:=by
 obtain ⟨a,cap,g1,g2,g3,g4⟩:=h;exact ⟨a,cap,g1,g2,by unfold maxLen at g3;omega,g4⟩
theorem rS.at {a:Option Addr} {xs:List Nd} (h:rS lo hi w a cap xs) (hk:k<xs.length) (hx:Ext w wr) (hh:hi<=w.heap.size) :
  ∃b off op s n u r,a=some ⟨b,off,none⟩/\b<w.heap.size/\b<wr.heap.size/\xs.drop k=⟨op,s,n,r⟩::xs.drop (k+1)/\xs[k]?=some ⟨op,s,n,r⟩/\I64 op/\I64 n/\aS lo hi wr u r/\wr.cell? ⟨b,off+k*4,none⟩=some (.int .i64 op)/\wr.cell? ⟨b,off+k*4+1,none⟩=some (.string s)/\wr.cell? ⟨b,off+k*4+2,none⟩=some (.int .i64 n)/\wr.cell? ⟨b,off+k*4+3,none⟩=some u:=by
 obtain ⟨⟨i1,i2⟩,b,off,u,e,h1,h2,c0,c1,c2,c3,hu⟩:=h.cell k xs[k] (by simp [hk]);have hz:=hx.size;refine ⟨b,off,xs[k].op,xs[k].name,xs[k].num,u,xs[k].args,e,by omega,by omega,aT7 hk,by simp [hk],i1,i2,hu.ext hh hx,?_,?_,?_,?_⟩
 ·exact (hx.cells.1 b _ (by omega)).trans c0
 ·exact (hx.cells.1 b _ (by omega)).trans c1
 ·exact (hx.cells.1 b _ (by omega)).trans c2
 ·exact (hx.cells.1 b _ (by omega)).trans c3
def nQ (lo hi:Nat) (w:World) (v:Value) (xs:List Asg):Prop:=
 ∃a cap,v = .slice a xs.length cap/\xs.length<=cap/\cap<=maxLen/\∀i x,xs[i]?=some x->I64 x.root/\∃b off,a=some ⟨b,off,none⟩/\lo<=b/\b<hi/\w.cell? ⟨b,off+i*2,none⟩=some (.string x.name)/\w.cell? ⟨b,off+i*2+1,none⟩=some (.int .i64 x.root)
theorem nQ.same {xs:List Asg} (h:nQ lo hi w v xs) (s:aM lo hi w w'):nQ lo hi w' v xs:=by
 obtain ⟨a,cap,h1,h2,h3,h4⟩:=h;refine ⟨a,cap,h1,h2,h3,fun i x hx=>?_⟩;obtain ⟨h5,b,q0,h6,h7,h8,h9,h0⟩:=h4 i x hx;exact ⟨h5,b,q0,h6,h7,h8,by rw [s.cell h7 h8];exact h9,by rw [s.cell h7 h8];exact h0⟩
structure aCb (lo hi:Nat) (w:World) (a:Option Addr) (cap:Nat) (xs:List Asg):Prop where
 le:xs.length<=cap
 cap:cap<=9223372036854775807
 cell:∀i x,xs[i]?=some x->I64 x.root/\∃b off,a=some ⟨b,off,none⟩/\lo<=b/\b<hi/\w.cell? ⟨b,off+i*2,none⟩=some (.string x.name)/\w.cell? ⟨b,off+i*2+1,none⟩=some (.int .i64 x.root)
theorem nQ.open {xs:List Asg} (h:nQ lo hi w v xs):∃a cap,v = .slice a xs.length cap/\aCb lo hi w a cap xs:=by
 obtain ⟨a,cap,g1,g2,g3,g4⟩:=h;exact ⟨a,cap,g1,g2,by unfold maxLen at g3;omega,g4⟩
theorem aCb.at {a:Option Addr} {xs:List Asg} (h:aCb lo hi w a cap xs) (hk:k<xs.length) (hx:Ext w wr) (hh:hi<=w.heap.size) :
  ∃b off s r,a=some ⟨b,off,none⟩/\b<w.heap.size/\b<wr.heap.size/\xs.drop k=⟨s,r⟩::xs.drop (k+1)/\xs[k]?=some ⟨s,r⟩/\I64 r/\wr.cell? ⟨b,off+k*2,none⟩=some (.string s)/\wr.cell? ⟨b,off+k*2+1,none⟩=some (.int .i64 r):=by
 obtain ⟨i1,b,off,e,h1,h2,c0,c1⟩:=h.cell k xs[k] (by simp [hk]);have hz:=hx.size;refine ⟨b,off,xs[k].name,xs[k].root,e,by omega,by omega,aT7 hk,by simp [hk],i1,?_,?_⟩
 ·exact (hx.cells.1 b _ (by omega)).trans c0
 ·exact (hx.cells.1 b _ (by omega)).trans c1
def Prg.R (p:Prg) (lo hi:Nat) (w:World) (v:Value):Prop:=∃nu au,v = .agg #[nu,au]/\Nds lo hi w nu p.ns/\nQ lo hi w au p.gs
theorem Prg.R.same {p:Prg} (h:p.R lo hi w v) (s:aM lo hi w w'):p.R lo hi w' v:=by
 obtain ⟨nu,au,h1,h2,h3⟩:=h;exact ⟨nu,au,h1,h2.same s,h3.same s⟩
theorem Prg.R.ext {p:Prg} (h:p.R lo hi w v) (hh:hi<=w.heap.size) (e:Ext w w'):p.R lo hi w' v:=h.same (e.same hh)
theorem Nds.ext {xs:List Nd} (h:Nds lo hi w v xs) (hh:hi<=w.heap.size) (e:Ext w w'):Nds lo hi w' v xs:=h.same (e.same hh)
theorem nQ.ext {xs:List Asg} (h:nQ lo hi w v xs) (hh:hi<=w.heap.size) (e:Ext w w'):nQ lo hi w' v xs:=h.same (e.same hh)
theorem Prg.R.form {p:Prg} (h:p.R lo hi w v):∃a1 c1 a2 c2,v = .agg #[.slice a1 p.ns.length c1,.slice a2 p.gs.length c2]/\rS lo hi w a1 c1 p.ns/\aCb lo hi w a2 c2 p.gs:=by
 obtain ⟨iu,lu,rfl,h2,h3⟩:=h;obtain ⟨a1,c1,rfl,H1⟩:=h2.open;obtain ⟨a2,c2,rfl,H2⟩:=h3.open;exact ⟨a1,c1,a2,c2,rfl,H1,H2⟩
def Prg.bd (p:Prg):Prop:=(∀x∈p.ns,x.name.size<=maxLen)/\∀x∈p.gs,x.name.size<=maxLen
def Prg.small (p:Prg):Prop:=(p.ns.length<=1048576/\∀x∈p.ns,x.args.length<=1048576)/\p.gs.length<=1048576
theorem aI4 (lo hi:Nat) (u:Value) (xs:List Int) (left:Int) (w:World) (hu:aS lo hi w u xs) (h1:0<=left) (h2:left<=1048576) :
  Calls aRn 75 #[u,left] w fun e w'=>(∃r,e = .returned (.int .i64 r)/\(r = -1\/(0<=r/\r<=left/\xs.length<=1048576)))/\w=w':=by
 obtain ⟨a,cap,rfl,HU⟩:=hu.open;have h3:=HU.le;have h4:=HU.cap;clear hu HU;go_enter func75,ntmps75;go_wp2
 all_goals go_ret
 ·exact ⟨⟨_,rfl,.inl rfl⟩,rfl⟩
 ·exact ⟨⟨_,rfl,.inr ⟨by omega,by omega,by omega⟩⟩,rfl⟩
theorem aF6 (lo hi:Nat) (op:Int) (s:ByteArray) (n:Int) (u:Value) (r:List Int) (left:Int) (w:World) (hu:aS lo hi w u r) (hh:hi<=w.heap.size) (hs:s.size<=maxLen) (h1:0<=left) (h2:left<=1048576) :
  Calls aRn 178 #[.agg #[op,.string s,n,u],left] w fun e w'=>(∃q,e = .returned (.int .i64 q)/\(q = -1\/(0<=q/\q<=left/\r.length<=1048576)))/\Ext w w':=by
 unfold maxLen at hs;have HU:=hid hu;have x0:Ext w (w.alloc (.cells #[op,.string s,n,u] 237)):=X_;clear hu
 by_cases hl:left - (s.size:Int)<0
 ·go_enter func178,ntmps178
  go_wp2;go_ret;exact ⟨⟨_,rfl,.inl rfl⟩,S_⟩
 ·go_enter func178,ntmps178
  go_wp2_with fail;refine (aI4 lo hi u r _ _ (HU.ext hh x0) (by omega) (by omega)).mono ?_;rintro e w1 ⟨⟨q,rfl,hq⟩,rfl⟩
  rcases hq with rfl|⟨q1,q2,q3⟩
  ·go_wp2
   go_ret;exact ⟨⟨_,rfl,.inl rfl⟩,x0⟩
  ·have hn : ¬q<0:=by omega
   go_wp2;go_ret;exact ⟨⟨_,rfl,.inr ⟨q1,by omega,q3⟩⟩,x0⟩
theorem aD1 (lo hi:Nat) (u:Value) (xs:List Nd) (left:Int) (w:World) (hu:Nds lo hi w u xs) (hh:hi<=w.heap.size) (hs:∀x∈xs,x.name.size<=maxLen) (h1:0<=left) (h2:left<=1048576) :
  Calls aRn 124 #[u,left] w fun e w'=>(∃r,e = .returned (.int .i64 r)/\(r = -1\/(0<=r/\r<=left/\xs.length<=1048576/\∀x∈xs,x.args.length<=1048576)))/\Ext w w':=by
 obtain ⟨a,cap,rfl,HU⟩:=hu.open;have h3:=HU.le;have h4:=HU.cap;have HS:=hid hs;clear hu hs
 by_cases hl:left - (xs.length:Int)<0
 ·go_enter func124,ntmps124
  go_wp2;go_ret;exact ⟨⟨_,rfl,.inl rfl⟩,S_⟩
 ·go_enter func124,ntmps124
  go_wp2
  go_loopw [1,5] (fun q i wr=>∃(k:Nat) (r:Int),k<=xs.length/\i = .int .i64 k/\q = .int .i64 r/\0<=r/\r<=left/\(∀j x,j<k->xs[j]?=some x->x.args.length<=1048576)/\Ext w wr) (fun _ i _=>xs.length - (intOf i).toNat)
  case atStart=>exact ⟨0,_,by omega,rfl,rfl,by omega,by omega,fun j x hj=>by omega,S_⟩
  case round=>
   obtain ⟨k,r,hk,rfl,rfl,h8,q0,h0,hx⟩:=hrel
   by_cases h9:k<xs.length
   ·obtain ⟨b,q4,op,s,n,ua,ra,rfl,q1,q2,h6,h5,io,q3,h7,x0,x1,x2,x3⟩:=HU.at h9 hx hh
    have hz:=hid (HS _ (aR7 h5));have HX:=hid hx;have HI:=hid h7;have HA:=hid h0;have HG:=hid h5;have zx:=hx.size;clear h6 h5 hx h7 h0;go_wp2_with fail;refine (aF6 lo hi op s n ua ra r _ HI (by omega) hz.out h8 (by omega)).mono ?_;rintro e w1 ⟨⟨r2,rfl,hr3⟩,x3⟩;have X3:=HX.trans x3
    rcases hr3 with rfl|⟨hr3,hr4,hr5⟩
    ·go_wp2
     go_ret;exact ⟨⟨_,rfl,.inl rfl⟩,X3⟩
    ·have hn : ¬r2<0:=by omega
     go_wp2;go_roundw
     case rel=>
      refine ⟨k+1,r2,by omega,by go_num,rfl,by omega,by omega,fun j x hj hx=>?_,X3⟩
      by_cases e:j=k
      ·subst e
       rw [HG] at hx;injection hx with hx;subst hx;exact hr5
      ·exact HA j x (by omega) hx
     case measure=>simp [intOf];omega
   ·have HA:=hid h0
    clear h0;go_wp2;go_ret;refine ⟨⟨_,rfl,.inr ⟨h8,q0,by omega,fun x hx=>?_⟩⟩,hx⟩;obtain ⟨j,hj,rfl⟩:=aSj hx;exact HA j _ (by omega) (by simp [hj])
theorem tK (s:ByteArray) (n left:Int) (w:World) (hs:s.size<=maxLen) (h1:0<=left) (h2:left<=1048576):Calls aRn 179 #[.agg #[.string s,n],left] w fun e w'=>(∃r,e = .returned (.int .i64 r)/\(r = -1\/(0<=r/\r<=left)))/\Ext w w':=by
 unfold maxLen at hs;go_enter func179,ntmps179;go_wp2
 all_goals go_ret
 ·exact ⟨⟨_,rfl,.inl rfl⟩,S_⟩
 ·exact ⟨⟨_,rfl,.inr ⟨by omega,by omega⟩⟩,S_⟩
theorem rT (lo hi:Nat) (u:Value) (xs:List Asg) (left:Int) (w:World) (hu:nQ lo hi w u xs) (hh:hi<=w.heap.size) (hs:∀x∈xs,x.name.size<=maxLen) (h1:0<=left) (h2:left<=1048576) :
  Calls aRn 125 #[u,left] w fun e w'=>(∃r,e = .returned (.int .i64 r)/\(r = -1\/(0<=r/\r<=left/\xs.length<=1048576)))/\Ext w w':=by
 obtain ⟨a,cap,rfl,HU⟩:=hu.open;have h3:=HU.le;have h4:=HU.cap;have HS:=hid hs;clear hu hs
 by_cases hl:left - (xs.length:Int)<0
 ·go_enter func125,ntmps125
  go_wp2;go_ret;exact ⟨⟨_,rfl,.inl rfl⟩,S_⟩
 ·go_enter func125,ntmps125
  go_wp2
  go_loopw [1,5] (fun q i wr=>∃(k:Nat) (r:Int),k<=xs.length/\i = .int .i64 k/\q = .int .i64 r/\0<=r/\r<=left/\Ext w wr) (fun _ i _=>xs.length - (intOf i).toNat)
  case atStart=>exact ⟨0,_,by omega,rfl,rfl,by omega,by omega,S_⟩
  case round=>
   obtain ⟨k,r,hk,rfl,rfl,h6,h8,hx⟩:=hrel
   by_cases h7:k<xs.length
   ·obtain ⟨b,q1,s,n,rfl,h9,q0,h0,h5,io,x0,x1⟩:=HU.at h7 hx hh
    have hz:=hid (HS _ (aR7 h5));have HX:=hid hx;clear h0 h5 hx;go_wp2_with fail;refine (tK s n r _ hz.out h6 (by omega)).mono ?_;rintro e w1 ⟨⟨r2,rfl,hr3⟩,x3⟩;have X3:=HX.trans x3
    rcases hr3 with rfl|⟨hr3,hr4⟩
    ·go_wp2
     go_ret;exact ⟨⟨_,rfl,.inl rfl⟩,X3⟩
    ·have hn : ¬r2<0:=by omega
     go_wp2;go_roundw
     case rel=>exact ⟨k+1,r2,by omega,by go_num,rfl,by omega,by omega,X3⟩
     case measure=>simp [intOf];omega
   ·go_wp2
    go_ret;exact ⟨⟨_,rfl,.inr ⟨h6,h8,by omega⟩⟩,hx⟩
theorem zT (lo hi:Nat) (v:Value) (p:Prg) (left:Int) (w:World) (hv:p.R lo hi w v) (hh:hi<=w.heap.size) (hb:p.bd) (h1:0<=left) (h2:left<=1048576) :
  Calls aRn 76 #[v,left] w fun e w'=>(∃r,e = .returned (.int .i64 r)/\(r = -1\/(0<=r/\r<=left/\p.small)))/\Ext w w':=by
 obtain ⟨iu,lu,rfl,h3,h4⟩:=hv;have HI:=hid h3;have HL:=hid h4;have HB:=hid hb;clear h3 h4 hb;have x0:Ext w (w.alloc (.cells #[iu,lu] 113)):=X_;have bA:=Bx.made w #[iu,lu] 113;go_enter func76,ntmps76;go_wp2_with fail;refine (aD1 lo hi _ p.ns left _ (HI.ext hh x0) (aRq hh x0.size) HB.1 h1 h2).mono ?_;rintro e w1 ⟨⟨r,rfl,hr⟩,x1⟩;have X1:=x0.trans x1
 rcases hr with rfl|⟨r1,r2,r3,r4⟩
 ·go_wp2
  go_ret;exact ⟨⟨_,rfl,.inl rfl⟩,X1⟩
 ·have h0:=bA.ext x1
  have hn : ¬r<0:=by omega
  have R4:=hid r4;clear bA x0 x1 r4;have y:=h0.lt;obtain ⟨y0,y1⟩:=h0.q2;go_wp2_with fail;refine (rT lo hi _ p.gs r _ (HL.ext hh X1) (aRq hh X1.size) HB.2 r1 (by omega)).mono ?_;rintro e w2 ⟨⟨q,rfl,hq⟩,x2⟩
  rcases hq with rfl|⟨q1,q2,q3⟩
  ·go_wp2
   go_ret;exact ⟨⟨_,rfl,.inl rfl⟩,X1.trans x2⟩
  ·have h5 : ¬q<0:=by omega
   go_wp2;go_ret;exact ⟨⟨_,rfl,.inr ⟨q1,by omega,⟨r3,R4⟩,q3⟩⟩,X1.trans x2⟩
def aOy (n:Nat):Bool:=decide (97<=n)&&decide (n<=122)
def aOz (n:Nat):Bool:=decide (48<=n)&&decide (n<=57)
def eP (s:ByteArray) (k:Nat):Bool:=if h:k<s.size then aOy s[k].toNat||(decide (k≠0)&&aOz s[k].toNat) else true
def dN (s:ByteArray):Bool:=decide (1<=s.size)&&decide (s.size<=8)&&(aR6 s.size).all (eP s)
theorem tL {s:ByteArray} (hk:k<s.size) (h:eP s k=false):dN s=false:=by
 unfold dN;rw [aZ4]
 right
 rw [aUt];exact ⟨k,aSq.2 hk,by simp [h]⟩
theorem wJ {s:ByteArray} (h:∀k,k<s.size->eP s k=true):dN s=(decide (1<=s.size)&&decide (s.size<=8)):=by
 unfold dN;have:(aR6 s.size).all (eP s)=true:=aSs.2 fun k hk=>h k (aSq.1 hk);rw [this,aZd]
theorem uH {s:ByteArray} (hk:k<s.size) (h:97<=s[k].toNat/\s[k].toNat<=122):eP s k=true:=by
 unfold eP aOy;rw [dif_pos hk,decide_eq_true h.1,decide_eq_true h.2]
 rfl
theorem uI {s:ByteArray} (hk:k<s.size) (h0:k≠0) (h:48<=s[k].toNat/\s[k].toNat<=57):eP s k=true:=by
 unfold eP aOz;rw [dif_pos hk,decide_eq_true h.1,decide_eq_true h.2,decide_eq_true h0];simp
theorem qY {s:ByteArray} (hk:k<s.size) (h1 : ¬(97<=s[k].toNat/\s[k].toNat<=122)) (h2 : ¬(k≠0/\48<=s[k].toNat/\s[k].toNat<=57)):eP s k=false:=by
 unfold eP aOy aOz;rw [dif_pos hk];simp only [Bool.or_eq_false_iff,aZ4,decide_eq_false_iff_not];omega
theorem rU (s:ByteArray) (w:World) (hs:s.size<=maxLen):Z_ 187 #[.string s] w (.bool (dN s)):=by
 unfold maxLen at hs;go_enter func187,ntmps187;go_wp2
 go_loopw [3] (fun i wr=>∃k:Nat,k<=s.size/\i = .int .i64 k/\wr=w/\∀j,j<k->eP s j=true) (fun i _=>s.size - (intOf i).toNat)
 case atStart=>exact ⟨0,by omega,rfl,rfl,fun j h=>by omega⟩
 case round=>
  obtain ⟨k,hk,rfl,rfl,h4⟩:=hrel
  by_cases h5:k<s.size
  ·have h3:eP s k=true->∀j,j<k+1->eP s j=true:=fun h j hj=>by
    by_cases e:j=k
    ·subst e;exact h
    ·exact h4 j (by omega)
   by_cases h1:97<=s[k].toNat/\s[k].toNat<=122
   ·have HN:=hid (h3 (uH h5 h1))
    clear h4 h3;go_wp2;go_roundw
    case rel=>exact ⟨k+1,by omega,by go_num,by trivial,HN⟩
    case measure=>simp [intOf];omega
   ·by_cases h2:k≠0/\48<=s[k].toNat/\s[k].toNat<=57
    ·have HN:=hid (h3 (uI h5 h2.1 h2.2))
     have ek:((k:Int)==0)=false:=beq_eq_false_iff_ne.2 (by omega);clear h4 h3;go_wp2
     all_goals first|(exfalso;omega)|skip
     all_goals (go_roundw <;> first|exact ⟨k+1,by omega,by go_num,by trivial,HN⟩|(simp [intOf];omega))
    ·have HN:=hid (tL h5 (qY h5 h1 h2))
     clear h4 h3
     by_cases h0:k=0
     ·have ek:((k:Int)==0)=true:=by subst h0;rfl
      go_wp2
      all_goals first|(exfalso;omega)|(go_ret;exact ⟨by rw [HN];rfl,rfl⟩)|(exfalso;simp_all <;> omega)|trace_state
     ·have ek:((k:Int)==0)=false:=beq_eq_false_iff_ne.2 (by omega)
      go_wp2
      all_goals first|(exfalso;omega)|(go_ret;exact ⟨by rw [HN];rfl,rfl⟩)|(exfalso;simp_all <;> omega)|trace_state
  ·obtain rfl:k=s.size:=by omega
   have HN:=hid (wJ h4);clear h4
   obtain ⟨bi,h6⟩:∃b,inB (s.size:Int) 1 8=b:=⟨_,rfl⟩
   have h7:dN s=bi:=by
    rw [HN,<-h6];unfold inB;rw [aW7];simp only [aRy,decide_eq_true_eq];omega
   have HB:=hid h7;go_wp2_with fail;refine z_ (aF h6 _) ?_;go_wp2;go_ret;exact ⟨by rw [HB];rfl,rfl⟩
theorem rV (s:ByteArray) (w:World) (hs:s.size<=maxLen):R_ 238 #[.string s] w (.bool (dN s)):=by
 unfold maxLen at hs;have q2:(w.iter s 0).heap[w.heap.size]?=some (.stringIter s 0):=World.iter_heap w s 0;have q1:Ext w (w.iter s 0):=(aRu w).alloc _;go_enter func238,ntmps238;go_wp2
 go_loopw [9] (fun _ wr=>∃pos:Nat,pos<=s.size/\wr.heap[w.heap.size]?=some (.stringIter s pos)/\(∀j,j<pos->eP s j=true)/\Ext w wr) (fun _ wr=>s.size - wr.iterPos w.heap.size)
 case atStart=>exact ⟨0,aS1 _,q2,fun j h=>by omega,q1⟩
 case round=>
  obtain ⟨pos,q5,hk,h6,h7⟩:=hrel;clear q2 q1
  by_cases hp:pos<s.size
  ·have h5:eP s pos=true->∀j,j<pos+1->eP s j=true:=fun h j hj=>by
    by_cases e:j=pos
    ·subst e;exact h
    ·exact h6 j (by omega)
   have q3:wr.iterPos w.heap.size=pos:=by simp [World.iterPos,hk]
   by_cases ha:(s[pos]'hp).toNat<128
   ·have h3:∀ty,(bBs (.pointer (some ⟨w.heap.size,0,none⟩)) true ty).run aRn wr=_:=fun ty=>Lib.run_next_ascii_at wr w.heap.size s pos ty hk hp ha
    have q0:=Lib.iterAt_heap wr w.heap.size s pos (pos+1) hk;have h4:Ext w (wr.iterAt w.heap.size s (pos+1)):=Lib.below_iterAt h7 (by omega) s (pos+1);generalize wr.iterAt w.heap.size s (pos+1)=W1 at h3 q0 h4
    have h9:W1.iterPos w.heap.size=pos+1:=by simp [World.iterPos,q0]
    have HX:=hid h4;have HK:=hid q0;clear h7 hk h4 q0
    by_cases h1:97<=s[pos].toNat/\s[pos].toNat<=122
    ·have HN:=hid (h5 (uH hp h1))
     clear h6 h5;go_wp2
     all_goals first|(exfalso;omega)|skip
     all_goals (go_roundw <;> first|exact ⟨pos+1,by omega,HK,HN,HX⟩|(rw [q3,h9];omega))
    ·by_cases h2:pos≠0/\48<=s[pos].toNat/\s[pos].toNat<=57
     ·have HN:=hid (h5 (uI hp h2.1 h2.2))
      have ek:((pos:Int)==0)=false:=beq_eq_false_iff_ne.2 (by omega);clear h6 h5;go_wp2
      all_goals first|(exfalso;omega)|skip
      all_goals (go_roundw <;> first|exact ⟨pos+1,by omega,HK,HN,HX⟩|(rw [q3,h9];omega))
     ·have HN:=hid (tL hp (qY hp h1 h2))
      clear h6 h5
      by_cases h0:pos=0
      ·have ek:((pos:Int)==0)=true:=by subst h0;rfl
       go_wp2
       all_goals first|(exfalso;omega)|(go_ret;exact ⟨by rw [HN];rfl,HX⟩)|(exfalso;simp_all <;> omega)
      ·have ek:((pos:Int)==0)=false:=beq_eq_false_iff_ne.2 (by omega)
       go_wp2
       all_goals first|(exfalso;omega)|(go_ret;exact ⟨by rw [HN];rfl,HX⟩)|(exfalso;simp_all <;> omega)
   ·have h3:∀ty,(bBs (.pointer (some ⟨w.heap.size,0,none⟩)) true ty).run aRn wr=_:=fun ty=>Lib.run_next_any_at wr w.heap.size s pos ty hk hp
    have h4:Ext w (wr.iterAt w.heap.size s (pos+(Utf8.decode s pos).2)):=Lib.below_iterAt h7 (by omega) s _;have q4:=(decode_high s pos hp (by omega)).1;generalize wr.iterAt w.heap.size s (pos+(Utf8.decode s pos).2)=W1 at h3 h4;generalize (Utf8.decode s pos).1=rn at h3 q4;have HX:=hid h4;have HN:=hid (tL hp (qY hp (by omega) (by omega)));clear h7 hk h4 h6 h5
    by_cases h0:pos=0
    ·have ek:((pos:Int)==0)=true:=by subst h0;rfl
     go_wp2
     all_goals first|(exfalso;omega)|(go_ret;exact ⟨by rw [HN];rfl,HX⟩)|(exfalso;simp_all <;> omega)
    ·have ek:((pos:Int)==0)=false:=beq_eq_false_iff_ne.2 (by omega)
     go_wp2
     all_goals first|(exfalso;omega)|(go_ret;exact ⟨by rw [HN];rfl,HX⟩)|(exfalso;simp_all <;> omega)
  ·obtain rfl:pos=s.size:=by omega
   have h3:∀ty,(bBs (.pointer (some ⟨w.heap.size,0,none⟩)) true ty).run aRn wr=_:=fun ty=>Lib.run_next_end_at wr w.heap.size s s.size ty hk hp;have HN:=hid (wJ h6);have HX:=hid h7;clear h6 h7 hk
   by_cases h1:1<=s.size
   ·by_cases h8:s.size<=8
    ·have HB:=hid (show dN s=true by rw [HN,decide_eq_true h1,decide_eq_true h8];rfl)
     go_wp2
     all_goals first|(exfalso;omega)|(go_ret;exact ⟨by rw [HB];rfl,HX⟩)|(go_ret;exact ⟨by rw [HB];simp <;> omega,HX⟩)|(exfalso;simp_all <;> omega)
    ·have HB:=hid (show dN s=false by rw [HN,decide_eq_false h8];simp)
     go_wp2
     all_goals first|(exfalso;omega)|(go_ret;exact ⟨by rw [HB];rfl,HX⟩)|(go_ret;exact ⟨by rw [HB];simp <;> omega,HX⟩)|(exfalso;simp_all <;> omega)
   ·have HB:=hid (show dN s=false by rw [HN,decide_eq_false h1];simp)
    go_wp2
    all_goals first|(exfalso;omega)|(go_ret;exact ⟨by rw [HB];rfl,HX⟩)|(go_ret;exact ⟨by rw [HB];simp <;> omega,HX⟩)|(exfalso;simp_all <;> omega)
def aE {α : Type} (cs : α->List Value) (lo:Nat) (e:TypeId) (sz:Nat) (w:World) (v:Value) (xs:List α):Prop:=w.ownsRow lo e sz v xs.length (xs.flatMap cs)
theorem mX {α : Type} {cs : α->List Value} (hc:∀x,(cs x).length=sz):∀{xs:List α} {i:Nat} {x : α},xs[i]?=some x->∀j,j<sz->(xs.flatMap cs)[i*sz+j]?=(cs x)[j]?
 | [],_,_,h,_,_=>by simp at h
 | y::r,0,x,h,j,hj=>by
  simp at h;subst h;rw [aTk,Nat.zero_mul,aSf,List.getElem?_append_left (by rw [hc];exact hj)]
 | y::r,i+1,x,h,j,hj=>by
  rw [aTk,aWx,List.getElem?_append_right (by rw [hc];omega),hc,show i*sz+sz+j - sz=i*sz+j by omega];exact mX hc (by simpa using h) j hj
theorem gR {α : Type} {cs : α->List Value} (hc:∀x,(cs x).length=sz):∀xs:List α,(xs.flatMap cs).length=xs.length*sz
 | []=>by simp
 | y::r=>by rw [aTk,aSa,hc,gR hc r,aSw,aWx];omega
theorem aE.nil {α : Type} (cs : α->List Value) (lo:Nat) (e:TypeId) (sz:Nat) (w:World):aE cs lo e sz w (.slice none 0 0) []:=World.ownsRow_nil _ _ _ _
theorem aE.lt {α : Type} {cs : α->List Value} {xs:List α} (h:aE cs lo e sz w v xs):∀k,v.ownBlock=some k->lo<=k/\k<w.heap.size:=World.ownsRow.lt h
theorem aE.form {α : Type} {cs : α->List Value} {xs:List α} (h:aE cs lo e sz w v xs):∃a cap,v = .slice a xs.length cap/\xs.length<=9223372036854775807:=by
 rcases h.2 with ⟨rfl,h4⟩|⟨g,cap,cur,rfl,hb,hg,hc,hm,hs,ht⟩
 ·exact ⟨none,0,by rw [h4],by omega⟩
 ·exact ⟨some ⟨g,0,none⟩,cap,rfl,by unfold maxLen at hm;omega⟩
theorem aE.of {α : Type} {cs : α->List Value} {xs:List α} (h:aE cs lo e sz w v xs) (s:∀b c,lo<=b->w.heap[b]?=some (.cells c e (0,0))->w'.heap[b]?=some (.cells c e (0,0))):aE cs lo e sz w' v xs:=by
 refine ⟨h.1,?_⟩
 rcases h.2 with hn|⟨g,cap,cur,hv,hb,hg,r⟩
 ·exact .inl hn
 ·exact .inr ⟨g,cap,cur,hv,hb,s g cur hb hg,r⟩
theorem aE.ext {α : Type} {cs : α->List Value} {xs:List α} (h:aE cs lo e sz w v xs) (x:Ext w w'):aE cs lo e sz w' v xs:=
 h.of fun b c _ hb=>(x.block (aR3.1 hb).1).trans hb
theorem aE.low {α : Type} {cs : α->List Value} {lo':Nat} {xs:List α} (h:aE cs lo e sz w v xs) (hl:lo'<=lo):aE cs lo' e sz w v xs:=by
 refine ⟨h.1,?_⟩
 rcases h.2 with hn|⟨g,cap,cur,hv,hb,r⟩
 ·exact .inl hn
 ·exact .inr ⟨g,cap,cur,hv,by omega,r⟩
theorem aE.at {α : Type} {cs : α->List Value} {xs:List α} (h:aE cs lo e sz w v xs) (hc:∀x,(cs x).length=sz) {x : α} (hx:xs[i]?=some x) :
  ∃g cap,v = .slice (some ⟨g,0,none⟩) xs.length cap/\lo<=g/\g<w.heap.size/\xs.length<=cap/\cap<=9223372036854775807/\(∃c,w.heap[g]?=some (.cells c e (0,0)))/\∀j,j<sz->w.cell? ⟨g,i*sz+j,none⟩=(cs x)[j]?:=by
 have hi:=(aRk.1 hx).1
 rcases h.2 with ⟨rfl,h4⟩|⟨g,cap,cur,rfl,hb,hg,hcap,hm,hs,ht⟩
 ·omega
 ·refine ⟨g,cap,rfl,hb,(aR3.1 hg).1,hcap,by unfold maxLen at hm;omega,⟨_,hg⟩,fun j hj=>?_⟩
  have e1:=mX hc hx j hj;rw [<-ht,List.getElem?_take,if_pos (fA hi hj)] at e1;rw [<-e1];simp only [World.cell?,hg];simp
structure KN (lo B:Nat) (e:TypeId) (w w':World):Prop where
 os:w'.os=w.os
 tape:w'.tape=w.tape
 output:w'.output=w.output
 size:w.heap.size<=w'.heap.size
 block:∀b,b<w.heap.size->(b<lo\/(b≠B/\∀c,w.heap[b]?≠some (.cells c e (0,0))))->w'.heap[b]?=w.heap[b]?
theorem KN.refl (lo B:Nat) (e:TypeId) (w:World):KN lo B e w w:=⟨rfl,rfl,rfl,aRi _,fun _ _ _=>rfl⟩
theorem KN.trans (h:KN lo B e w w1) (k:KN lo B e w1 w2):KN lo B e w w2:=
 ⟨k.os.trans h.os,k.tape.trans h.tape,k.output.trans h.output,aRq h.size k.size,fun b hb hn=>by
  have e1:=h.block b hb hn
  exact (k.block b (aS5 hb h.size) (by rw [e1];exact hn)).trans e1⟩
theorem Ext.kn (h:Ext w w') (lo B:Nat) (e:TypeId):KN lo B e w w':=⟨h.os,h.tape,h.output,h.size,fun b hb _=>h.block hb⟩
theorem KN.ext (h:KN lo B e w w1) (k:Ext w1 w2):KN lo B e w w2:=h.trans (k.kn lo B e)
theorem KN.set (h:KN lo B e w w1) (hl:lo<=B) (i:Nat) (u:Value):KN lo B e w (w1.setCell ⟨B,i,none⟩ u):=
 h.trans ⟨rfl,rfl,rfl,by rw [aS6];exact aRi _,fun b _ hn=>aRt _ _ _ _ (by simp only;rcases hn with hn|hn <;> omega)⟩
theorem KN.grown {row:Option Nat} (h:KN lo B e w w1) (hg:w1.grownBy w2 row) (hr:∀k,row=some k->lo<=k/\∃c,w1.heap[k]?=some (.cells c e (0,0))):KN lo B e w w2:=
 h.trans ⟨hg.os,hg.tape,hg.output,hg.size,fun b hb hn=>hg.block b hb (fun e1=>by
  obtain ⟨h1,c,h2⟩:=hr b e1.symm
  rcases hn with hn|hn
  ·omega
  ·exact hn.2 c h2)⟩
theorem KN.up {w0:World} (h:KN lo B e w w1) (x:Ext w0 w) (hl:w0.heap.size<=lo):Ext w0 w1:=by
 refine aRo (aRu w0) ?_;refine (aRu w0).grown (row:=none) ⟨h.os.trans x.os,h.tape.trans x.tape,h.output.trans x.output,aRq x.size h.size,fun b hb _=>?_⟩ (fun k hk=>by cases hk);exact (h.block b (aS5 hb x.size) (.inl (by omega))).trans (x.block hb)
theorem KN.row {e':TypeId} {α : Type} {cs : α->List Value} {lo':Nat} {xs:List α} (h:aE cs lo' e' sz w v xs) (k:KN lo B e w w') (hB:∀c,w.heap[B]?≠some (.cells c e' (0,0))) (he:e'≠e):aE cs lo' e' sz w' v xs:=
 h.of fun b c _ hb=>(k.block b (aR3.1 hb).1 (.inr ⟨fun e1=>hB c (e1▸hb),fun c' h'=>by rw [hb] at h';simp only [aRl,aSx] at h';exact he h'.2.1⟩)).trans hb
theorem KN.blk {cs:List Value} (h:Blk w g t cs) (k:KN lo B e w w') (hg:g≠B) (ht:t≠e):Blk w' g t cs:=
 h.of (k.block g h.lt (.inr ⟨hg,fun c' h'=>by unfold Blk at h;rw [h] at h';simp only [aRl,aSx] at h';exact ht h'.2.1⟩))
theorem cX {α : Type} (cs : α->List Value) (e:TypeId) (sz bytes:Nat) (z:Value) (w:World) {rest:List Oper} (hg:o.guard=none) (s x:Operand) (t:TypeId)
  (hop:o.op=Op.call { callee:=Callee.builtin Builtin.append,args:=#[s,x],argTypes:=#[t,t] }) (ht:Tryz.prog.underlying t=some (.slice e))
  (hinfo:(Tryz.prog.info? e).map (fun i=>(i.zero,i.size,i.bytes))=some (some z,sz,bytes)) (hzs:z.cells.size=sz) (hsz:0<sz) (hby:bytes<=1000) (hc:∀x,(cs x).length=sz)
  (lo:Nat) (v:Value) (xs:List α) (hs:a.eval s=v) (hown:aE cs lo e sz w v xs)
  (y : α) (b:Nat) (hx:a.eval x = .slice (some ⟨b,0,none⟩) 1 1) (hcell:∀j,j<sz->w.cell? ⟨b,j,none⟩=(cs y)[j]?) (h1:∀u∈cs y,u.oneCell'=true) (hlen:xs.length<1000000) (hlo:lo<=w.heap.size)
  (hK:∀v' w',aE cs lo e sz w' v' (xs++[y])->w.grownBy w' v.ownBlock->wpList aRn ops Q rest (a.put o.dst v') w'):wpList aRn ops Q (o::rest) a w:=by
 obtain ⟨i0,h3,h5,h6,h7⟩:=info_parts hinfo;refine wpList_append_own w hg s x t hop lo e i0 z sz bytes ht h3 h5 h6 h7 hzs hsz v xs.length _ hs hown ⟨b,0,none⟩ 1 1 (cs y) hx (by rw [hc,aT2]) ?_ h1 ?_ ?_ hlo ?_
 ·intro j u hj
  have h4:j<sz:=by rw [<-hc y];exact (aRk.1 hj).1
  have ea:(⟨b,0,none⟩:Addr).add j=⟨b,j,none⟩:=by
   unfold Addr.add
   split <;> simp_all
  rw [ea,hcell j h4,hj]
 ·unfold maxLen;omega
 ·have:(xs.length+1)*bytes<=1000000*1000:=aSi (by omega) hby
  omega
 ·intro v' w1 h2 h0 _
  refine hK v' w1 ?_ h0;unfold aE;rw [aSa,aSy]
  simpa using h2
theorem aE.set {α : Type} {cs : α->List Value} {xs:List α} {T:TypeId} {us:List Value} (h:aE cs lo e sz w v xs) (hB:Blk w B T us) (h1:T≠e) (i:Nat) (u:Value):aE cs lo e sz (w.setCell ⟨B,i,none⟩ u) v xs:=by
 refine h.of fun b c _ hb=>(aRt _ _ _ _ ?_).trans hb;intro e;simp only at e;subst e;unfold Blk at hB;rw [hB] at hb;simp only [aRl,aSx] at hb;exact h1 hb.2.1
open Classical in
noncomputable def fT (C:Addr->Prop) (w d:World):World:=if (∀a,C a->d.cell? a=w.cell? a/\d.frozen? a=w.frozen? a) then d else w
theorem tM (C:Addr->Prop) (w d:World):∀a,C a->(fT C w d).cell? a=w.cell? a/\(fT C w d).frozen? a=w.frozen? a:=by
 unfold fT
 split
 ·assumption
 ·exact fun _ _=>⟨rfl,rfl⟩
@[go_sem] theorem aO0 (C:Addr->Prop) (w d:World) (a:Addr) (h:C a):(fT C w d).cell? a=w.cell? a:=(tM C w d a h).1
@[go_sem] theorem aMy (C:Addr->Prop) (w d:World) (a:Addr) (h:C a):(fT C w d).frozen? a=w.frozen? a:=(tM C w d a h).2
def SC (C:Addr->Prop) (w:World):World->Prop:=fun w'=>∃d,w'=fT C w d
theorem SC.of {C:Addr->Prop} (h:∀a,C a->w2.cell? a=w.cell? a/\w2.frozen? a=w.frozen? a):SC C w w2:=⟨w2,by unfold fT;rw [if_pos h]⟩
theorem SC.drew (C:Addr->Prop) (w:World):SC C w w.drew:=SC.of fun _ _=>⟨rfl,rfl⟩
theorem SC.get {C:Addr->Prop} (h:SC C w w2):∀a,C a->w2.cell? a=w.cell? a/\w2.frozen? a=w.frozen? a:=by
 obtain ⟨d,rfl⟩:=h;exact tM C w d
theorem SC.blocks {C:Addr->Prop} (h:∀a,C a->w2.heap[a.block]?=w.heap[a.block]?):SC C w w2:=SC.of fun a ha=>⟨aS3 (h a ha),World.frozen?_of_block (h a ha)⟩
theorem aCc {α β : Type} {s:Sem α} {f : α->Sem β} {b : β} (h:(s.bind f).run P w = .ok b w'):∃a w1,(f a).run P w1 = .ok b w':=by
 rw [Sem.run_bind'] at h
 cases hs:s.run P w with
 | ok v w1=>rw [hs] at h;exact ⟨v,w1,h⟩
 | halt x w1=>rw [hs] at h;simp at h
theorem aI5 {ρ : Operand->Value} {x:Operand} (hx:o.op = .nilCheck x) {n:Next} (h:(execOp ρ o).run P w = .ok n w'):∃v,n = .value v:=by
 unfold execOp at h;rw [hx] at h;dsimp only at h
 have hp:∀{v:Value} {w1:World},Sem.run P (pure (Next.value v)) w1=Result.ok n w'->∃v,n = .value v:=fun h=>by simp at h;exact ⟨_,h.1.symm⟩
 split at h
 ·simp [runtimePanic] at h
 ·simp [runtimePanic] at h
 ·simp [runtimePanic] at h
 ·split at h
  ·simp [runtimePanic] at h
  ·obtain ⟨a,w1,h⟩:=aCc h
   obtain ⟨c,w2,h⟩:=aCc h
   split at h
   ·obtain ⟨d,w3,h⟩:=aCc h
    exact hp h
   ·exact hp h
  ·exact hp h
 ·exact hp h
def vP:Op->Bool
 | .nilCheck _=>true
 | o=>qO o
theorem uJ {ρ : Operand->Value} (hr:vP o.op=true) {n:Next} (h:(execOp ρ o).run P w = .ok n w'):∃v,n = .value v:=by
 by_cases hn:∃x,o.op = .nilCheck x
 ·obtain ⟨x,hx⟩:=hn
  exact aI5 hx h
 ·refine qP ?_ h
  revert hr hn
  cases o.op <;> intro hr hn <;> first|exact absurd ⟨_,rfl⟩ hn|exact hr
def mD (ops:Array Oper):List (List Nat×Nat)->Bool
 | []=>true
 | (T,_)::r=>T.all (fun i=>match ops[i]? with|some o=>vP o.op|none=>false)&&mD ops r
def cO (P:Program) (ops:Array Oper) (Q:Exit->Act->World->Prop) (S:World->Prop) (z:Nat):List (List Nat×Nat)->Act->World->Prop
 | [],a,w=>Q .normal a w
 | (T,e)::r,a,w=>wpQuiet P ops S (fun a'=>∃o,ops[e]?=some o/\wpList P ops (Exit.then (fun a2 w2=>(e=z\/S w2)/\cO P ops Q S z r a2 w2) Q) [o] a' w) (T.filterMap (ops[·]?)) a
theorem jT {r:List (Bool×Nat)} {K:Act->Prop}
  (hK:∀a,K a->eZ P ops Q S z r a w) :
  ∀(T:List Nat) (a:Act),T.all (fun i=>match ops[i]? with|some o=>vP o.op|none=>false)=true->wpQuiet P ops S K (T.filterMap (ops[·]?)) a ->
   eZ P ops Q S z (T.map (fun i=>(true,i))++r) a w
 | [],a,_,h=>hK a h
 | i::T,a,hr,h=>by
  simp only [aYg,aRy] at hr;obtain ⟨hri,hr'⟩:=hr
  cases ho:ops[i]? with
  | none=>rw [ho] at hri;cases hri
  | some o=>
   rw [ho] at hri;simp only [aR8,ho] at h;refine ⟨o,ho,?_⟩;unfold vW;unfold wpQuiet at h
   split
   ·rename_i hw
    rw [if_pos hw] at h;obtain ⟨v,hv,hn⟩:=h;refine ⟨v,fun w' hw'=>?_,jT hK T _ hr' hn⟩;have h1:=hv w' hw';unfold aYx at h1
    cases hrun:(execOp a.eval o).run P w' with
    | halt x w1=>rw [hrun] at h1;exact h1.elim
    | ok n w1=>
     obtain ⟨u,rfl⟩:=uJ hri hrun;rw [hrun] at h1;obtain ⟨e1,e2⟩:=h1;rw [e1,e2]
   ·rename_i hw
    rw [if_neg hw] at h;exact jT hK T _ hr' h
theorem gO:∀(st:List (List Nat×Nat)) (a:Act) (w:World),mD ops st=true ->
  cO P ops Q S z st a w->eZ P ops Q S z (cB st) a w
 | [],_,_,_,h=>h
 | (T,e)::r,a,w,hr,h=>by
  simp only [mD,aRy] at hr;refine jT (K:=fun a'=>∃o,ops[e]?=some o/\wpList P ops (Exit.then (fun a2 w2=>(e=z\/S w2)/\cO P ops Q S z r a2 w2) Q) [o] a' w) (fun a' ha=>?_) T a hr.1 h;obtain ⟨o,ho,hl⟩:=ha;refine ⟨o,ho,?_⟩
  have key:∀a2 w2,((e=z\/S w2)/\cO P ops Q S z r a2 w2)->((e=z\/S w2)/\eZ P ops Q S z (cB r) a2 w2):=
   fun a2 w2 ⟨k1,k2⟩=>⟨k1,gO r a2 w2 hr.2 k2⟩
  unfold wpList at hl ⊢
  split
  ·rename_i hw
   rw [if_pos hw] at hl
   rcases hl with hl|⟨h1,h2⟩
   ·refine .inl ?_
    have h3:=jL hl;have h4:o.wp P a' w (wpList P ops (Exit.then (fun a2 w2=>(e=z\/S w2)/\cO P ops Q S z r a2 w2) Q) []) Q:=h3;have h5:=aWy (K':=wpList P ops (Exit.then (fun a2 w2=>(e=z\/S w2)/\eZ P ops Q S z (cB r) a2 w2) Q) []) (fun a2 w2 hk=>key a2 w2 hk) h4;unfold aXx at h5 ⊢;generalize (execOp a'.eval o).run P w=res at h5 ⊢
    cases res with
    | ok n w'=>cases n <;> exact h5
    | halt x w'=>cases x <;> exact h5
   ·exact .inr ⟨h1,h2⟩
  ·rename_i hw
   rw [if_neg hw] at hl;exact key _ _ hl
theorem aH {id:Nat} (st:List (List Nat×Nat)) (z:Nat) (S:World->Prop) (hm:P.follows .mixedOrders=true)
  (hB:(aHp .any l.toArray z (cB st)&&mD l.toArray st&&(cB st).length==l.length)=true)
  (hS:S w.drew) (h:cO P l.toArray (NoPanic Q) S z st a w.drew):(Code.region id l.toArray true).wp P Q a w:=by
 simp only [aRy,beq_iff_eq] at hB;exact nU (cB st) z S hm hB.1.1 hB.2 hS (gO st a w.drew hB.1.2 h)
theorem aQ (h:Q .normal a w):cO P ops (NoPanic Q) S z [] a w:=h
theorem hG {T:List Nat} {e:Nat} {r:List (List Nat×Nat)}
  (h:wpQuiet P ops S (fun a'=>∃o,ops[e]?=some o/\∀K:Act->World->Prop,(∀a2 w2,(e=z\/S w2)->cO P ops Q S z r a2 w2->K a2 w2)->wpList P ops (Exit.then K Q) [o] a' w) (T.filterMap (ops[·]?)) a) :
  cO P ops Q S z ((T,e)::r) a w:=by
 unfold cO
 have e1:(fun a'=>∃o,ops[e]?=some o/\wpList P ops (Exit.then (fun a2 w2=>(e=z\/S w2)/\cO P ops Q S z r a2 w2) Q) [o] a' w) =
   (fun a'=>∃o,ops[e]?=some o/\∀K:Act->World->Prop,(∀a2 w2,(e=z\/S w2)->cO P ops Q S z r a2 w2->K a2 w2)->wpList P ops (Exit.then K Q) [o] a' w):=by
  funext a'
  refine propext ⟨fun ⟨o,ho,hl⟩=>⟨o,ho,fun K hK=>?_⟩,fun ⟨o,ho,hl⟩=>⟨o,ho,hl _ fun a2 w2 h1 h2=>⟨h1,h2⟩⟩⟩;unfold wpList at hl ⊢
  split
  ·rename_i hw
   rw [if_pos hw] at hl
   rcases hl with hl|⟨h1,h2⟩
   ·refine .inl ?_
    have h4:=aWy (K':=wpList P ops (Exit.then K Q) []) (fun a2 w2 hk=>hK a2 w2 hk.1 hk.2) hl;unfold aXx at h4 ⊢;generalize (execOp a'.eval o).run P w=res at h4 ⊢
    cases res with
    | ok n w'=>cases n <;> exact h4
    | halt x w'=>cases x <;> exact h4
   ·exact .inr ⟨h1,h2⟩
  ·rename_i hw
   rw [if_neg hw] at hl;exact hK _ _ hl.1 hl.2
 rw [e1];exact h
def aD2 (P:Program) (ops:Array Oper) (Q:Exit->Act->World->Prop) (S:World->Prop) (z fuel:Nat) (listed:Array Bool) (a:Act) (w:World):Prop:=
 jP P .any ops Q S z fuel listed a w
def rW (ops:Array Oper) (z:Nat):List Nat->Array Bool->Bool
 | [],_=>true
 | i::r,l=>(match ops[i]? with|some o=>vP o.op|none=>false)&&(i != z&&Region.free .any ops l i&&(aS8 .any ops l).contains i)&&rW ops z r (l.setIfInBounds i true)
def aD3 (ops:Array Oper) (z:Nat) (T E:List Nat) (l:Array Bool):Bool:=
 aU0 ops&&fN .any ops z&&rW ops z T l&&(aS8 .any ops (eB T l)==E) && !E.isEmpty
def gJ (P:Program) (ops:Array Oper) (Q:Exit->Act->World->Prop) (S:World->Prop) (z fuel:Nat) (l:Array Bool) (e:Nat) (a:Act) (w:World):Prop:=
 ∃o,ops[e]?=some o/\∀K:Act->World->Prop,(∀a2 w2,(e=z\/S w2)->aD2 P ops Q S z fuel (l.setIfInBounds e true) a2 w2->K a2 w2)->wpList P ops (Exit.then K Q) [o] a w
theorem wK {l:Array Bool} {e:Nat} (h:gJ P ops Q S z fuel l e a w) :
  wpOp P ops Q e (fun a' w'=>(e=z\/S w')/\aD2 P ops Q S z fuel (l.setIfInBounds e true) a' w') a w:=by
 obtain ⟨o,ho,hl⟩:=h;have ht:=hl (fun a' w'=>(e=z\/S w')/\aD2 P ops Q S z fuel (l.setIfInBounds e true) a' w') (fun a2 w2 k1 k2=>⟨k1,k2⟩);unfold wpOp;simp only [ho];unfold wpList at ht
 split
 ·rename_i hw
  rw [if_pos hw] at ht
  rcases ht with ht|⟨h1,h2⟩
  ·refine .inl ?_
   have h3:=jL ht;exact h3
  ·exact .inr ⟨h1,h2⟩
 ·rename_i hw
  rw [if_neg hw] at ht;exact ht
theorem qZ {K:Act->Prop} (hsel:aU0 ops=true) (hz:fN .any ops z=true) (hS:S w) :
  ∀(T:List Nat) (l:Array Bool) (a:Act),rW ops z T l=true->(∀a,K a->aD2 P ops (NoPanic Q) S z fuel (eB T l) a w) ->
   wpQuiet P ops S K (T.filterMap (ops[·]?)) a->aD2 P ops (NoPanic Q) S z (T.length+fuel) l a w
 | [],l,a,_,hK,h=>by rw [aTu,aSf];exact hK a h
 | i::T,l,a,hT,hK,h=>by
  simp only [rW,aRy,bne_iff_ne] at hT;obtain ⟨⟨hri,⟨hiz,hf⟩,hr⟩,hT'⟩:=hT
  cases ho:ops[i]? with
  | none=>rw [ho] at hri;cases hri
  | some o=>
   rw [ho] at hri;simp only [aR8,ho] at h;unfold wpQuiet at h
   have hlen:(i::T).length+fuel=T.length+fuel+1:=by rw [aSw];omega
   rw [hlen]
   split at h
   ·rename_i hw
    obtain ⟨v,hv,hn⟩:=h;refine gA (v:=v) ho hz hiz (aUe hsel) (fun c a w k=>k) _ l a w (aU5 ho hf) (by simpa using hr) (.inl ⟨hw,fun w' hw'=>?_⟩) hS (qZ hsel hz hS T _ _ hT' hK hn);have h1:=hv w' hw';unfold aYx at h1
    cases h0:(execOp a.eval o).run P w' with
    | halt x w1=>rw [h0] at h1;exact h1.elim
    | ok n w1=>
     obtain ⟨u,rfl⟩:=uJ hri h0;rw [h0] at h1;obtain ⟨e1,e2⟩:=h1;rw [e1,e2]
   ·rename_i hw
    exact gA (v:=undef) ho hz hiz (aUe hsel) (fun c a w k=>k) _ l a w (aU5 ho hf) (by simpa using hr) (.inr ⟨by simpa using hw,rfl⟩) hS (qZ hsel hz hS T _ _ hT' hK h)
theorem fU {l:Array Bool} (T E:List Nat) (hB:aD3 ops z T E l=true) (hS:S w)
  (h:wpQuiet P ops S (fun a'=>∀e∈E,gJ P ops (NoPanic Q) S z fuel (eB T l) e a' w) (T.filterMap (ops[·]?)) a) :
  aD2 P ops (NoPanic Q) S z (T.length+(fuel+1)) l a w:=by
 simp only [aD3,aRy,beq_iff_eq] at hB;obtain ⟨⟨⟨⟨h1,h2⟩,h3⟩,h4⟩,h5⟩:=hB;refine qZ h1 h2 hS T l a h3 (fun a' hk=>?_) h;refine ⟨fun h0=>?_,fun e he=>?_⟩
 ·rw [h4] at h0;rw [h0] at h5;cases h5
 ·rw [h4] at he
  exact wK (hk e he)
theorem wL {l:Array Bool} (hB:(aS8 .any ops l).isEmpty=true) (h:Q .normal a w):aD2 P ops (NoPanic Q) S z 0 l a w:=
 ⟨by simpa using hB,h⟩
theorem sc_ {T:List Nat} {e:Nat} {r:List (List Nat×Nat)} {a0 a1:Act}
  (h:∀K:Act->World->Prop,(∀a2 w2,(e=z\/S w2)->cO P ops Q S z r a2 w2->K a2 w2)->wpList P ops (Exit.then K Q) [o] a1 w)
  (hl:T.filterMap (ops[·]?)=l:=by first|(simp only [aR8,aR1,aRm,aRg,aRh];rfl)|rfl)
  (ha:a=a0:=by first|(simp only [Act.put,aRp,aRx,aRw];rfl)|rfl)
  (hq:∀R:Act->Prop,R a1->wpQuiet P ops S R l a0:=by intro R h;(repeat (show wpQuiet _ _ _ _ (_::_) _;go_big_quiet_step (fail)));exact wpQuiet_nil h) (ho:ops[e]?=some o:=by rfl):cO P ops Q S z ((T,e)::r) a w:=by
 subst ha;refine hG ?_;rw [hl];exact hq _ ⟨o,ho,h⟩
def pP (a b:Int):Int:=if a<b then -1 else if b<a then 1 else 0
def or3 (x y z:Int):Int:=if x=0 then (if y=0 then z else y) else x
def aP.cmp (a b:aP):Int:=or3 (pP a.d b.d) (pP a.s b.s) (pP a.c b.c)
theorem aCd {a b:Int} (h:a<b):pP a b = -1:=by unfold pP;rw [if_pos h]
theorem pA (a:Int):pP a a=0:=by unfold pP;rw [if_neg (Int.lt_irrefl _),if_neg (Int.lt_irrefl _)]
theorem aCe {a b:Int} (h:b<a):pP a b=1:=by unfold pP;rw [if_neg (by omega),if_pos h]
theorem aP.cmp_lt (a b:aP):decide (a.cmp b<0)=a.lt b:=by
 cases hl:a.lt b
 ·rw [aP.lt_no] at hl
  refine decide_eq_false ?_;unfold aP.cmp or3
  rcases aXo a.d b.d with h|h|h
  ·exact absurd (.inl h) hl
  ·rw [h,pA,if_pos rfl]
   rcases aXo a.s b.s with k|k|k
   ·exact absurd (.inr ⟨h,.inl k⟩) hl
   ·rw [k,pA,if_pos rfl]
    rcases aXo a.c b.c with l|l|l
    ·exact absurd (.inr ⟨h,.inr ⟨k,l⟩⟩) hl
    ·rw [l,pA];decide
    ·rw [aCe l];decide
   ·rw [aCe k,if_neg (by decide)];decide
  ·rw [aCe h,if_neg (by decide)];decide
 ·rw [aP.lt_iff] at hl
  refine decide_eq_true ?_;unfold aP.cmp or3
  rcases hl with h|⟨h,k|⟨k,l⟩⟩
  ·rw [aCd h,if_neg (by decide)];decide
  ·rw [h,pA,if_pos rfl,aCd k,if_neg (by decide)];decide
  ·rw [h,pA,if_pos rfl,k,pA,if_pos rfl,aCd l];decide
theorem tN (n:Int) (w:World):Z_ 260 #[n] w (.bool false):=by
 go_enter func260,ntmps260;go_wp2;go_ret;exact ⟨rfl,rfl⟩
theorem rA {a b:Int} (h:pP a b=c) (w:World):Z_ 225 #[a,b] w (.int .i64 c):=by
 have H:=hid h;clear h
 by_cases h1:a<b
 ·have e:c = -1:=by rw [<-H];unfold pP;rw [if_pos h1]
  subst e;go_enter func225,ntmps225;go_wp2_with (first|(go_at_call 260;refine z_ (tN _ _) ?_));go_ret;exact ⟨rfl,rfl⟩
 ·by_cases h2:b<a
  ·have e:c=1:=by rw [<-H];unfold pP;rw [if_neg h1,if_pos h2]
   subst e;go_enter func225,ntmps225;go_wp2_with (first|(go_at_call 260;refine z_ (tN _ _) ?_));go_ret;exact ⟨rfl,rfl⟩
  ·have e:c=0:=by rw [<-H];unfold pP;rw [if_neg h1,if_neg h2]
   subst e;go_enter func225,ntmps225;go_wp2_with (first|(go_at_call 260;refine z_ (tN _ _) ?_));go_ret;exact ⟨rfl,rfl⟩
theorem aMz {z:Int} (h:or3 x y z=r) (g:Nat) (w:World) (hb:Blk w g 3 [x,y,z]):Z_ 224 #[.slice (some ⟨g,0,none⟩) 3 3] w (.int .i64 r):=by
 have H:=hid h;obtain ⟨c0,c1,c2⟩:=hb.q3;have lg:=hb.lt;clear h hb;go_enter func224,ntmps224;go_wp2
 go_loopw [8] (fun i wr=>∃k:Nat,k<=3/\i = .int .i64 (k:Nat)/\w=wr/\(1<=k->x=0)/\(2<=k->y=0)/\(3<=k->z=0)) (fun i _=>3 - (intOf i).toNat)
 case atStart=>exact ⟨0,by omega,rfl,rfl,fun h=>absurd h (by omega),fun h=>absurd h (by omega),fun h=>absurd h (by omega)⟩
 case round=>
  obtain ⟨k,hk,rfl,rfl,h1,h2,h3⟩:=hrel;have H1:=hid h1;have H2:=hid h2;have H3:=hid h3;clear h1 h2 h3
  rcases (show k=0\/k=1\/k=2\/k=3 by omega) with rfl|rfl|rfl|rfl
  ·by_cases hx:x=0
   ·have HX:=hid hx
    go_wp2;go_roundw
    case rel=>exact ⟨1,by omega,by go_num,by trivial,fun _=>HX.out,fun h=>absurd h (by omega),fun h=>absurd h (by omega)⟩
    case measure=>simp [intOf]
   ·have HR:=hid (show x=r by rw [<-H];unfold or3;rw [if_neg hx])
    go_wp2;go_ret;exact ⟨cK HR,rfl⟩
  ·have h0:=hid (H1 (by omega))
   by_cases hy:y=0
   ·have HY:=hid hy
    go_wp2;go_roundw
    case rel=>exact ⟨2,by omega,by go_num,by trivial,fun _=>h0.out,fun _=>HY.out,fun h=>absurd h (by omega)⟩
    case measure=>simp [intOf]
   ·have HR:=hid (show y=r by rw [<-H];unfold or3;rw [if_pos h0.out,if_neg hy])
    go_wp2;go_ret;exact ⟨cK HR,rfl⟩
  ·have h0:=hid (H1 (by omega))
   have h4:=hid (H2 (by omega))
   by_cases hz:z=0
   ·have HZ:=hid hz
    go_wp2;go_roundw
    case rel=>exact ⟨3,by omega,by go_num,by trivial,fun _=>h0.out,fun _=>h4.out,fun _=>HZ.out⟩
    case measure=>simp [intOf]
   ·have HR:=hid (show z=r by rw [<-H];unfold or3;rw [if_pos h0.out,if_pos h4.out])
    go_wp2;go_ret;exact ⟨cK HR,rfl⟩
  ·have HR:=hid (show 0=r by rw [<-H];unfold or3;rw [if_pos (H1 (by omega)),if_pos (H2 (by omega)),H3 (by omega)])
   go_wp2;go_ret;exact ⟨cK HR,rfl⟩
theorem uK {a b:aP} (h:a.cmp b=r) (w:World) :
  R_ 174 #[.agg #[a.d,a.s,a.c,a.col,a.al],.agg #[b.d,b.s,b.c,b.col,b.al]] w (.int .i64 r):=by
 obtain ⟨c0,h0⟩:∃n,pP a.d b.d=n:=⟨_,rfl⟩
 obtain ⟨c1,h1⟩:∃n,pP a.s b.s=n:=⟨_,rfl⟩
 obtain ⟨c2,h2⟩:∃n,pP a.c b.c=n:=⟨_,rfl⟩
 unfold aP.cmp at h;rw [h0,h1,h2] at h;have H:=hid h;have H0:=hid h0;have H1:=hid h1;have H2:=hid h2;clear h h0 h1 h2;go_enter func174,ntmps174;go_wp2;refine aA [([0,1,2,3,5,6,7,8,10,11,12,13],4),([],9),([],14),([],15),([],16),([],17)] 17 (w.heap.size+1+1) (by kernel_rfl) (by kernel_rfl) ?_;refine st_ fun K hK=>?_;go_wp2_with fail;refine z_ (rA H0 _) ?_;go_wp2_with fail;refine k_ hK ?_;clear hK K;refine st_ fun K hK=>?_;go_wp2_with fail;refine z_ (rA H1 _) ?_;go_wp2_with fail;refine k_ hK ?_;clear hK K;refine st_ fun K hK=>?_;go_wp2_with fail;refine z_ (rA H2 _) ?_;go_wp2_with fail;refine k_ hK ?_;clear hK K;refine st_ fun K hK=>?_;go_wp2_with fail;refine k_ hK ?_;clear hK K
 obtain ⟨W5,h3⟩:∃W5,((((w.alloc (.cells #[a.d,a.s,a.c,a.col,a.al] 95)).alloc (.cells #[b.d,b.s,b.c,b.col,b.al] 95)).alloc (.cells #[c0,c1,c2] 3)).drew)=W5:=⟨_,rfl⟩
 have hb:Blk W5 (w.heap.size+1+1) 3 [c0,c1,c2]:=by
  rw [<-h3];have h:=aRr ((w.alloc (.cells #[a.d,a.s,a.c,a.col,a.al] 95)).alloc (.cells #[b.d,b.s,b.c,b.col,b.al] 95)) 3 [c0,c1,c2];simp only [aRj] at h;exact h.ext (aSk (aRu _))
 have HB:=hid hb
 have x5:Ext ((w.alloc (.cells #[a.d,a.s,a.c,a.col,a.al] 95)).alloc (.cells #[b.d,b.s,b.c,b.col,b.al] 95)) W5:=by rw [<-h3];exact X_
 have y5:Ext w W5:=aRo X_ x5;rw [h3];clear hb h3;refine st_ fun K hK=>?_;go_wp2_with fail;refine z_ (aMz H _ _ HB) ?_;go_wp2_with fail;refine k_ hK ?_;clear hK K;refine st_ fun K hK=>?_;go_wp2_with fail;refine l_ hK ?_;clear hK K;refine aC ?_;go_wp2;go_ret;exact ⟨rfl,y5⟩
section
variable {P : Program} {ops : Array Oper} {Q : Exit -> Act -> World -> Prop} {md : Region.Mode} {l n : Nat}
abbrev rd (l:Nat):Fence:=Fence.wide.inRound l
theorem wM (l n:Nat):(rd l).depth.isSome=true->1<=n:=fun h=>by simp [rd,aY2] at h
theorem aM0 {row:String} {args:Array Value} {w:World} {R:Value->World->Prop} (h:Rows P row args w R):RowsIn (rd l) n P row args w R:=
 fun c cs _=>let ⟨v,w',r,s⟩:=h c cs;⟨v,w',r,(stepsIn_wide (P:=P)).2 s⟩
theorem aHx {o:Oper} {a:Act} {w:World} {K:Act->World->Prop} (hd:∀c,o.op≠.defer c) (hl : ¬LetsOut Q) (h:o.wp P a w K Q\/(o.asks P a w/\LetsOut Q)):o.wpIn (rd l) n P a w K Q:=by
 rcases h with h|⟨_,h⟩
 ·refine ⟨fun _ _=>trivial,?_⟩
  rw [show (rd l).round=some l from rfl,aXc l _ _ hd];unfold aXx at h;generalize (execOp a.eval o).run P w=r at h ⊢
  cases r with
  | ok x w'=>
   cases x
   case value v=>exact h
   case skip=>exact h
   case defer d=>exact h
   case enter f args=>exact ⟨wM l n,CallsIn.inRound l ((callsIn_wide (n:=n - 1)).2 h)⟩
   case row r args=>exact ⟨wM l n,aM0 h⟩
   all_goals exact (h:False).elim
  | halt x w'=>
   cases x
   all_goals first|exact h|exact (h:False).elim
 ·exact (hl h).elim
def kR (ops:List Oper):Bool:=ops.all fun o=>match o.op with | .defer _=>false|_=>true
theorem wN {ops:List Oper} (h:kR ops=true) {i:Nat} {o:Oper} (ho:ops[i]?=some o):∀c,o.op≠.defer c:=by
 intro c hc;have:=aSs.1 h o (aR7 ho);rw [hc] at this;cases this
theorem wO (hd:kR ops.toList=true) (hl : ¬LetsOut Q):∀(fuel:Nat) (listed:Array Bool) (a:Act) (w:World),wpAny P md ops Q fuel listed a w->wpAnyIn (rd l) n P md ops Q fuel listed a w
 | 0,_,_,_,h=>h
 | fuel+1,listed,a,w,h=>by
  refine ⟨h.1,fun i hi=>?_⟩;have h2:=wpOp_mono (fun a' w' h'=>wO hd hl fuel _ a' w' h') (h.2 i hi);unfold wpOp at h2;unfold wpOpIn
  cases ho:ops[i]? with
  | none=>rw [ho] at h2;exact h2
  | some o=>
   rw [ho] at h2;simp only at h2 ⊢
   split
   ·rename_i hw
    rw [if_pos hw] at h2;exact aHx (wN (i:=i) hd (by simpa using ho)) hl h2
   ·rename_i hw
    rw [if_neg hw] at h2;exact ⟨fun _ _=>trivial,h2⟩
theorem tO (hl : ¬LetsOut Q):∀(rest:List Oper) (a:Act) (w:World),kR rest=true->wpList P ops Q rest a w->wpListIn (rd l) n P ops Q rest a w
 | [],_,_,_,h=>h
 | o::rest,a,w,hd,h=>by
  have hd2:kR rest=true:=by
   unfold kR at hd ⊢;rw [aYg,aRy] at hd;exact hd.2
  unfold wpList at h;unfold wpListIn
  split
  ·rename_i hw
   rw [if_pos hw] at h;refine aHx (wN (i:=0) hd rfl) hl (h.imp (fun k=>?_) id);exact aWy (fun a' w' h'=>tO hl rest a' w' hd2 h') k
  ·rename_i hw
   rw [if_neg hw] at h;exact ⟨fun _ _=>trivial,tO hl rest _ _ hd2 h⟩
theorem uL (hl : ¬LetsOut Q) : ¬LetsOut (NoPanic Q):=fun ⟨a,w,h⟩=>hl ⟨a,w,h⟩
theorem qI {id:Nat} {a:Act} {w:World} {l':List Oper} (z N:Nat) (hm:P.follows .mixedOrders=true) (hd:kR l'=true) (hl : ¬LetsOut Q)
  (h:wpZ P l'.toArray (NoPanic Q) N w z l'.length (aVr l'.length false) a w.drew):(Code.region id l'.toArray true).wpIn (rd l) n P Q a w:=by
 refine Go.wpIn_mono (wpIn_region_any hm (wO (by simpa using hd) (uL hl) _ _ _ _ ?_)) NoPanic.imp;have:=iG _ _ _ _ h
 simpa using this
theorem eG {id:Nat} {a:Act} {w:World} {l':List Oper} (hd:kR l'=true) (hl : ¬LetsOut Q) (h:wpList P l'.toArray Q l' a w):(Code.region id l'.toArray false).wpIn (rd l) n P Q a w:=
 wpIn_region_lit (tO hl _ _ _ hd h)
end
section
open Go.RowKit Go.Shelf
attribute [local go_sem] aXc
def aHy (n:Nat) (hn:0<n) (k:Nat):Fin n×Fin n:=(⟨k % n,aT4 _ hn⟩,⟨k / n % n,aT4 _ hn⟩)
def cH (n:Nat) (hn:0<n) (k:Nat):List (Fin n×Fin n):=(aR6 k).map (aHy n hn)
theorem oE (n:Nat) (hn:0<n) (k:Nat):(cH n hn k).length=k:=by simp [cH]
theorem aCf (n:Nat) (hn:0<n) (k:Nat):cH n hn (k+1)=cH n hn k++[aHy n hn k]:=by simp [cH,List.range_succ]
def KB (B:Nat) (W W':World):Prop:=W'.heap[B]?=W.heap[B]?
theorem KB.trans {B:Nat} {X Y Z:World} (h:KB B X Y) (k:KB B Y Z):KB B X Z:=Eq.trans k h
theorem tP (n:Nat) (m:Nat) (w:World) :
  CallsIn aY2 m aRn 165 #[n] w fun e w'=>e = .returned (.func (.func 217) #[] #[.pointer (some ⟨w.heap.size,0,none⟩)])/\w'=w.alloc (.cells #[n] 3):=by
 refine callsIn_wide.2 ?_;have h0:∀w:World,(aV4 (.func 217) #[] #[.pointer (some ⟨w.heap.size,0,none⟩)]).run aRn w = .ok (.func (.func 217) #[] #[.pointer (some ⟨w.heap.size,0,none⟩)]) w:=fun _=>rfl;go_enter func165,ntmps165;go_wp2;go_ret;exact ⟨rfl,rfl⟩
theorem aKv (n:Nat) (h0n:0<n) (hn':n<=64) (m:Nat) (l B:Nat) (J Jx:List (Fin n×Fin n)->World->Prop)
  (hJd:∀s W,J s W->J s W.drew)
  (hY:∀pre x W,J pre W->pre.length<n*n->YieldAt aY2 (m - 1) aRn l #[(x.1:Nat),(x.2:Nat)] W fun e W'=>
   (e = .returned (.bool true)/\J (pre++[x]) W'/\KB B W W')\/(e = .returned (.bool false)/\Jx (pre++[x]) W'))
  (W:World) (hW:W.cell? ⟨B,0,none⟩=some (.int .i64 n)) (h0:J [] W) :
  CallsIn aY2 m aRn 217 #[.func (.yield l) #[] #[],.pointer (some ⟨B,0,none⟩)] W fun e W'=>(∃v,e = .returned v) /\
   ((∃xs,xs=cH n h0n (n*n)/\J xs W')\/(∃pre,True/\Jx pre W')):=by
 have q5:n*n<=4096:=aSi hn' hn';refine callsIn_of_wp func217 rfl trivial ?_ rfl;simp only [ntmps217,aWj,aSw,aTu,aUl,aZf,aWl,aWm,aXu,aW3,aTf,aWt]
 gi_wp2
 gi_loopw [3] (fun i wr=>∃k:Nat,k<=n*n/\i = .int .i64 k/\J (cH n h0n k) wr/\KB B W wr) (fun i _=>n*n - (intOf i).toNat)
 case atStart=>exact ⟨0,aS1 _,rfl,h0,rfl⟩
 case round=>
  obtain ⟨k,hk,rfl,h8,q3⟩:=hrel;have hc:wr.cell? ⟨B,0,none⟩=some (.int .i64 n):=(aS3 (w:=W) (w':=wr) (a:=⟨B,0,none⟩) q3).trans hW
  have q1:(n:Int)*n=((n*n:Nat):Int):=by simp
  obtain ⟨N,hN⟩:∃N,n*n=N:=⟨_,rfl⟩
  rw [hN] at q1 hk q5 ⊢
  by_cases q0:k<N
  ·have q8:(n:Int)≠0:=by omega
   have hq:k / n % n=k / n:=aU4 (aTs (by rw [hN];exact q0));have hm:k % n<n:=aT4 _ h0n
   have t1:Int.tmod (k:Int) n=((k % n:Nat):Int):=by rw [Int.tmod_eq_emod_of_nonneg (by omega)];rfl
   have t2:Int.tdiv (k:Int) n=((k / n:Nat):Int):=by rw [Int.tdiv_eq_ediv_of_nonneg (by omega)];rfl
   have hd:k / n<n:=aTs (by rw [hN];exact q0)
   obtain ⟨r,hr⟩:∃r,k % n=r:=⟨_,rfl⟩
   obtain ⟨d,h9⟩:∃d,k / n=d:=⟨_,rfl⟩
   obtain ⟨fn,q6,h7,q4,hy,hR⟩:=hY (cH n h0n k) (aHy n h0n k) wr.drew (hJd _ _ h8) (by rw [oE,hN];exact q0);rw [<-aCf] at hR;dsimp only [aHy] at hy;rw [hq,hr,h9] at hy;rw [hr] at t1 hm;rw [h9] at t2 hd;have t3:IntKind.i64.wrap (d:Int)=(d:Int):=IntWalk.i64_in _ (by omega);clear hq hr h9 h8
   gi_wp2
   have q7:Tryz.prog.follows .mixedOrders=true:=by kernel_rfl
   have q2:=RoundIn.mono (R':=fun e W'=>∃b:Bool,e = .returned (.bool b)/\((b=true/\J (cH n h0n (k+1)) W'/\KB B wr.drew W')\/(b=false/\Jx (cH n h0n (k+1)) W'))) hR (fun e W' h=>by
    rcases h with ⟨rfl,h1,h2⟩|⟨rfl,h1⟩
    ·exact ⟨true,rfl,.inl ⟨rfl,h1,h2⟩⟩
    ·exact ⟨false,rfl,.inr ⟨rfl,h1⟩⟩)
   clear hR
   gi_region_with_o (refine ⟨fun h=>by simp [aY2] at h,?_⟩;refine q2.mono ?_;rintro e W3 ⟨b,rfl,h3⟩)
   all_goals (try simp only [Act.put,List.getElem_toArray,List.getElem_cons_succ,List.getElem_cons_zero,aRp,aRx,aRw])
   all_goals clear q2 hy hY t1 t2 t3
   all_goals rcases h3 with ⟨rfl,h4,h5⟩|⟨rfl,h4⟩
   all_goals first
    | (have h6:KB B W _:=KB.trans (Y:=wr.drew) q3 h5
       gi_wp2
       go_roundw
       case rel=>exact ⟨k+1,by omega,by go_num,h4,h6⟩
       case measure=>simp [intOf];omega)
    | (gi_wp2
       refine bodyPost_ret (results_none rfl _ _ _) rfl ?_
       exact ⟨⟨_,rfl⟩,.inr ⟨_,trivial,h4⟩⟩)
  ·obtain rfl:k=N:=by omega
   gi_wp2
   go_end0
   exact ⟨⟨_,rfl⟩,.inl ⟨_,rfl,by rw [hN];exact h8⟩⟩
theorem oG (n:Nat) (h0n:0<n) (hn':n<=64) (m B:Nat) (w:World) (hw0:B<w.heap.size) (hw:w.cell? ⟨B,0,none⟩=some (.int .i64 n)) :
  SeqStopsK aY2 m aRn 217 #[.pointer (some ⟨B,0,none⟩)] (fun x:Fin n×Fin n=>#[(x.1:Nat),(x.2:Nat)]) (KB B)
   (fun xs=>xs=cH n h0n (n*n)) (fun _=>True) (n*n) w:=fun l J Jx W hW hJ _ hY h0=>
 aKv n h0n hn' m l B J Jx (fun s W hs=>hJ s W _ none hs ⟨rfl,rfl,rfl,aRi _,fun _ _ _=>rfl⟩ (fun r e=>by cases e)) hY W ((Below.cell (p:=⟨B,0,none⟩) hW hw0).trans hw) h0
end
section
open Go.RowKit Go.Shelf
theorem gS {W:World} {B:Nat} {o:Obj} (h:W.heap[B]?=some o):B<W.heap.size:=(aR3.1 h).1
theorem zU {W:World} {B:Nat} {t e:TypeId} {cs:Array Value} {fz:Nat×Nat} (h:W.heap[B]?=some (.cells cs t fz)) (hte:t≠e) {base size k:Nat} {v:Value} {xs:List Value} (hr:W.ownsRow base e size v k xs):some B≠v.ownBlock:=by
 rcases hr.2 with ⟨rfl,_⟩|⟨g,cap,cur,rfl,hb,hg,_⟩
 ·simp [Value.ownBlock]
 ·simp only [Value.ownBlock,ne_eq,aRl]
  intro e';subst e';rw [hg] at h;simp only [aRl,aSx] at h;exact hte h.2.1.symm
theorem wP {A B:World} {row:Option Nat} (hg:A.grownBy B row) (hr:∀r,row=some r->∃o:Obj,A.heap[r]?=some o/\o.isCells=false) {b:Nat} {cs:Array Value} {t:TypeId} {fz:Nat×Nat} (h:A.heap[b]?=some (.cells cs t fz)):B.heap[b]?=some (.cells cs t fz):=
 (hg.block b (gS h) (fun e=>by obtain ⟨o,ho,hc⟩:=hr b e.symm;rw [h] at ho;cases ho;cases hc)).trans h
theorem Ext.others {A B:World} (h:Ext A B):KeepsOthers A B:=⟨h.size,fun _ _ hk _=>(h.block (gS hk)).trans hk⟩
structure RB {α : Type} (cs : α->List Value) (e:TypeId) (sz:Nat) (bt:TypeId) (bx:Value->List Value) (w:World) (Bt:Nat) (F:List (Nat×TypeId×List Value)) (W:World) (xs:List α):Prop where
 ext:Ext w W
 fx:∀p∈F,Blk W p.1 p.2.1 p.2.2
 tl:w.heap.size<=Bt
 tb:∃v,Blk W Bt bt (bx v)/\aE cs w.heap.size e sz W v xs
section
variable {α : Type} {cs : α -> List Value} {e : TypeId} {sz : Nat} {bt : TypeId} {bx : Value -> List Value} {w : World} {Bt : Nat} {F : List (Nat × TypeId × List Value)} {W : World} {xs : List α}
theorem RB.to (h:RB cs e sz bt bx w Bt F W xs) {W':World} (x:Ext W W'):RB cs e sz bt bx w Bt F W' xs:=by
 obtain ⟨v,h1,h2⟩:=h.tb;exact ⟨h.ext.trans x,fun p hp=>(h.fx p hp).ext x,h.tl,v,h1.ext x,h2.ext x⟩
theorem oH {A B:World} {row:Option Nat} (hg:A.grownBy B row) (hr:∀r,row=some r->∃o:Obj,A.heap[r]?=some o/\o.isCells=false) {b:Nat} {t:TypeId} {cs:List Value} (h:Blk A b t cs):Blk B b t cs:=wP hg hr h
theorem aE.owns {lo:Nat} {A B:World} {v:Value} (h:aE cs lo e sz A v xs) {row:Option Nat} (hg:A.grownBy B row) (hr:∀r,row=some r->∃o:Obj,A.heap[r]?=some o/\o.isCells=false):aE cs lo e sz B v xs:=by
 obtain ⟨h1,h2⟩:=h;refine ⟨h1,?_⟩
 rcases h2 with hn|⟨g,cap,cur,hv,hb,hgg,r⟩
 ·exact .inl hn
 ·exact .inr ⟨g,cap,cur,hv,hb,wP hg hr hgg,r⟩
theorem RB.owns {B0:Nat} (hB:w.heap.size<=B0) {β : Type} (f : β->List α):OwnFrom B0 (fun (b : β) W=>RB cs e sz bt bx w Bt F W (f b)):=fun b A B row h hg hr=>by
 have hr':∀r,row=some r->∃o:Obj,A.heap[r]?=some o/\o.isCells=false:=fun r e=>(hr r e).2;obtain ⟨v,h1,h2⟩:=h.tb;exact ⟨h.ext.grown hg (fun k e=>aRq hB (hr k e).1),fun p hp=>oH hg hr' (h.fx p hp),h.tl,v,oH hg hr' h1,h2.owns hg hr'⟩
theorem bY {A:World} {b:Nat} {t:TypeId} {us:List Value} (h:Blk A b t us) (hte:t≠e) {lo:Nat} {v:Value} (hr:aE cs lo e sz A v xs):some b≠v.ownBlock:=zU h hte hr
theorem aE.setBlk {lo:Nat} {A:World} {b:Nat} {t:TypeId} {us:List Value} {v:Value} (h:aE cs lo e sz A v xs) (hb:Blk A b t us) (hte:t≠e) (q:Nat) (u:Value):aE cs lo e sz (A.setCell ⟨b,q,none⟩ u) v xs:=
 ownsRow_setCell_other h (fun e'=>bY hb hte h e'.symm) u
theorem RB.push {W5 W6 W7:World} {v v':Value} {xs':List α} (h:RB cs e sz bt bx w Bt F W5 xs) (hF:∀p∈F,p.2.1≠e/\p.1≠Bt) (hbt:bt≠e) (q:Nat) (hq:(bx v).set q v'=bx v')
  (hv:Blk W5 Bt bt (bx v)) (ho:aE cs w.heap.size e sz W5 v xs) (x6:Ext W5 W6) (hg:W6.grownBy W7 v.ownBlock) (hown:aE cs w.heap.size e sz W7 v' xs') :
  RB cs e sz bt bx w Bt F (W7.setCell ⟨Bt,q,none⟩ v') xs':=by
 have k:∀{b:Nat} {t:TypeId} {us:List Value},t≠e->Blk W5 b t us->Blk W7 b t us:=fun hte hb=>(hb.ext x6).grown hg (bY hb hte ho);have ht:=k hbt hv;have hE:Ext w W7:=(h.ext.trans x6).grown hg (fun k e=>(ho.lt k e).1);refine ⟨hE.setCell h.tl _,fun p hp=>(k (hF p hp).1 (h.fx p hp)).other (hF p hp).2 _,h.tl,v',?_,hown.setBlk ht hbt q v'⟩;rw [<-hq];exact ht.set q v'
theorem aCg {lo:Nat} {A A':World} {v:Value} (x:Ext A A') (ho:aE cs lo e sz A v xs):∀(j:Nat) (o':Obj),v.ownBlock=some j->A'.heap[j]?=some o'->o'.isCells=true:=by
 intro j o' hj h'
 rcases ho.2 with ⟨rfl,_⟩|⟨g,cap,cur,rfl,hb,hg,_⟩
 ·simp [Value.ownBlock] at hj
 ·simp only [Value.ownBlock,aRl] at hj
  subst hj;rw [x.block (gS hg),hg] at h'
  cases h'
  rfl
end
end
theorem rB (c:Cam) (w:World):R_ 90 #[c.V] w (.bool c.okB):=by
 obtain ⟨cw,ch,zo,ne,de,le,fo⟩:=c
 obtain ⟨b1,h1⟩:∃b,inB cw 1 12=b:=⟨_,rfl⟩
 obtain ⟨b2,h2⟩:∃b,inB ch 1 12=b:=⟨_,rfl⟩
 obtain ⟨b3,h3⟩:∃b,inB zo 1 65536=b:=⟨_,rfl⟩
 obtain ⟨b4,h4⟩:∃b,inB ne 1 1000000=b:=⟨_,rfl⟩
 obtain ⟨b5,h5⟩:∃b,inB le 0 64=b:=⟨_,rfl⟩
 obtain ⟨b6,h6⟩:∃b,inB fo 0 1000000=b:=⟨_,rfl⟩
 have e:(Cam.mk cw ch zo ne de le fo).okB=(b1&&b2&&b3&&b4&&b5&&b6):=by unfold Cam.okB;simp only [h1,h2,h3,h4,h5,h6]
 rw [e];have H1:=hid h1;have H2:=hid h2;have H3:=hid h3;have H4:=hid h4;have H5:=hid h5;have H6:=hid h6;clear h1 h2 h3 h4 h5 h6 e
 show Calls aRn 90 #[.agg #[cw,ch,zo,ne,.bool de,le,fo]] w _
 cases b1
 rotate_left
 cases b2
 rotate_left
 cases b3
 rotate_left
 cases b4
 rotate_left
 cases b5
 rotate_left
 cases b6
 all_goals
  go_enter func90,ntmps90;go_wp2_with (go_at_call 92;with_reducible first|(refine z_ (aL H1.out _) ?_)|(refine z_ (aL H2.out _) ?_)|(refine z_ (aL H3.out _) ?_)|(refine z_ (aL H4.out _) ?_)|(refine z_ (aL H5.out _) ?_)|(refine z_ (aL H6.out _) ?_));go_ret;exact ⟨rfl,X_⟩
theorem cJ {c:Cam} (h:c.okB=b) (w:World):R_ 90 #[c.V] w (.bool b):=h▸rB c w
theorem aI6 {z zm:Int} (hq:wrap64 (x*zm)=q) (hi:I64 q) (h:bT q z=r) (w:World) (hp:w.cell? ⟨p,2,none⟩=some (.int .i64 zm)) :
  Z_ 282 #[x,z,.pointer (some ⟨p,0,none⟩)] w (.int .i64 r):=by
 have H:=hid h;clear h;go_enter func282,ntmps282;go_wp2_with (go_at_call 96;refine z_ (cI hi H _) ?_);go_ret;exact ⟨rfl,rfl⟩
theorem aI7 {z zm:Int} (hq:wrap64 (x*zm)=q) (hi:I64 q) (h:bT q 256=r) (w:World) (hp:w.cell? ⟨p,2,none⟩=some (.int .i64 zm)) :
  Z_ 283 #[x,z,.pointer (some ⟨p,0,none⟩)] w (.int .i64 r):=by
 have H:=hid h;clear h;go_enter func283,ntmps283;go_wp2_with (go_at_call 96;refine z_ (cI hi H _) ?_);go_ret;exact ⟨rfl,rfl⟩
def aM1 (deep:Bool) (p:Nat):Value:=.func (.func (if deep then 282 else 283)) #[] #[.pointer (some ⟨p,0,none⟩)]
theorem jJ {a:Int} (ha : -1000000000000<=a/\a<=1000000000000) (h:gC a=c) (w:World):Z_ 214 #[a] w (.int .i64 c):=by
 subst h;obtain ⟨h1,h2⟩:=ha;unfold gC;go_enter func214,ntmps214
 by_cases h:a<0
 ·rw [if_pos h]
  go_wp2;go_ret;exact ⟨rfl,rfl⟩
 ·rw [if_neg h]
  go_wp2;go_ret;exact ⟨rfl,rfl⟩
theorem Blk.alloc {cs:List Value} (h:Blk w g t cs) (o:Obj):Blk (w.alloc o) g t cs:=h.ext ((aRu _).alloc o)
theorem I64.of {n:Int} (h : -m<=n/\n<=m) (hm:m<=1152921504606846976):I64 n:=⟨by omega,by omega⟩
theorem aF7 {a b:Int} (ha : -m<=a/\a<=m) : -m<=bT a b/\bT a b<=m:=by
 unfold bT
 split
 ·omega
 ·have h0:0<=m:=by omega
  have e:0<=(b - 1)*m:=aSu (by omega) h0
  have e2:m*b=(b - 1)*m+m:=by grind
  constructor
  ·exact (Int.le_ediv_iff_mul_le (by omega)).2 (by rw [Int.neg_mul];omega)
  ·exact Int.ediv_le_of_le_mul (by omega) (by omega)
theorem wQ {c:Cam} (hc:c.Ok) {z l px:Int} (hx : -1000000<=x/\x<=1000000) (hz:1<=z/\z<=1000000) (hl : -16<=l/\l<=16) (hp:1<=px/\px<=12) (hr:c.pj x z l (px*8)=r) (C Cp V P:Nat) (w:World)
  (c2:w.cell? ⟨Cp,2,none⟩=some (.int .i64 c.zoom)) (c5:w.cell? ⟨C,5,none⟩=some (.int .i64 c.lens)) (c6:w.cell? ⟨C,6,none⟩=some (.int .i64 c.focus)) (v2:w.cell? ⟨V,2,none⟩=some (.int .i64 z)) (p0:w.cell? ⟨P,0,none⟩=some (aM1 c.deep Cp)) :
  Z_ 269 #[x,l,px,.pointer (some ⟨C,0,none⟩),.pointer (some ⟨V,0,none⟩),.pointer (some ⟨P,0,none⟩)] w (.int .i64 r):=by
 unfold Cam.pj at hr;have q1:=aY (A:=16) (B:=64) (a:=l) (b:=c.lens) hl (by have:=hc.lens;omega)
 obtain ⟨p1,e1⟩:∃n,l*c.lens=n:=⟨_,rfl⟩
 rw [e1] at q1 hr;have q2:=aY (A:=16*64) (B:=1000000) (a:=p1) (b:=z - c.focus) q1 (by have:=hc.focus;omega)
 obtain ⟨p2,e2⟩:∃n,p1*(z - c.focus)=n:=⟨_,rfl⟩
 rw [e2] at q2 hr
 have q3 : -250001<=bT p2 4096/\bT p2 4096<=250001:=by unfold bT;rw [if_neg (by decide)];omega
 obtain ⟨d,e3⟩:∃n,bT p2 4096=n:=⟨_,rfl⟩
 rw [e3] at q3 hr;have q4:=aY (A:=1250001) (B:=65536) (a:=x+d) (b:=c.zoom) (by omega) (by have:=hc.zoom;omega)
 obtain ⟨q,e4⟩:∃n,(x+d)*c.zoom=n:=⟨_,rfl⟩
 rw [e4] at q4 hr;have q5:=aF7 (a:=q) (b:=c.by z) q4
 obtain ⟨t,e5⟩:∃n,bT q (c.by z)=n:=⟨_,rfl⟩
 rw [e5] at q5 hr;have i2:=hid (I64.of q2 (by decide));have i4:=hid (I64.of q4 (by decide));have E3:=hid e3;have E5:=hid e5;have HR:=hid (show aN (t+px*16 / 2) (-100000) 100000=r from by rw [show px*16 / 2=px*8 from by omega];exact hr);have b5:=hc.lens;have b6:=hc.focus;have b2:=hc.zoom
 obtain ⟨lens,h1⟩:∃n,c.lens=n:=⟨_,rfl⟩
 obtain ⟨focus,h0⟩:∃n,c.focus=n:=⟨_,rfl⟩
 obtain ⟨zoom,h2⟩:∃n,c.zoom=n:=⟨_,rfl⟩
 rw [h1] at c5 e1 b5;rw [h0] at c6 e2 b6;rw [h2] at c2 e4 b2;have W4:=hid (show wrap64 ((x+d)*zoom)=q by rw [e4];exact aD (by omega) (by omega));clear h1 h0 h2 e3 e5 hr;unfold aM1 at p0
 unfold Cam.by at E5
 cases hd:c.deep
 ·rw [hd] at p0 E5
  simp only [Bool.false_eq_true,if_false] at p0 E5;go_enter func269,ntmps269;go_wp2_with (first|(go_at_call 96;refine z_ (cI i2.out E3 _) ?_)|(go_at_call 283;refine z_ (aI7 W4 i4.out E5 _ c2) ?_));refine z_ (dD HR _) ?_;go_wp2;go_ret;exact ⟨rfl,rfl⟩
 ·rw [hd] at p0 E5
  simp only [if_true] at p0 E5;go_enter func269,ntmps269;go_wp2_with (first|(go_at_call 96;refine z_ (cI i2.out E3 _) ?_)|(go_at_call 282;refine z_ (aI6 W4 i4.out E5 _ c2) ?_));refine z_ (dD HR _) ?_;go_wp2;go_ret;exact ⟨rfl,rfl⟩
theorem oI {n k:Int} (h:wrap64 (k*n)=c) (w:World) (hp:w.cell? ⟨p,0,none⟩=some (.int .i64 k)):Z_ 251 #[n,.pointer (some ⟨p,0,none⟩)] w (.int .i64 c):=by
 go_enter func251,ntmps251;go_wp2;go_ret;exact ⟨cK h,rfl⟩
theorem zW {z a b k:Int} (ha:wrap64 (k*x)=a) (hb:wrap64 (k*y)=b) (hc:wrap64 (k*z)=c) (w:World) (hp:w.cell? ⟨p,0,none⟩=some (.int .i64 k)) (hlt:p<w.heap.size) :
  R_ 249 #[.agg #[x,y,z],.func (.func 251) #[] #[.pointer (some ⟨p,0,none⟩)]] w (.agg #[a,b,c]):=by
 have HA:=hid ha;have HB:=hid hb;have HC:=hid hc;have HP:=hid hp;clear ha hb hc hp;go_enter func249,ntmps249;go_wp2;refine aA [([0,1,2,4,5,6,8,9,10],3),([],7),([],11),([12],13)] 13 (w.heap.size+1+1) (by kernel_rfl) (by kernel_rfl) ?_;refine st_ fun K hK=>?_;go_wp2_with fail;refine z_ (oI HA _ ((aY0 (w:=w) X_).1 _ _ hlt |>.trans HP)) ?_;go_wp2_with fail;refine hK _ _ (.inr (fun b _ hb=>aRv X_ (by simp;omega))) ?_;clear hK K;refine st_ fun K hK=>?_;go_wp2_with fail;refine z_ (oI HB _ ((aY0 (w:=w) X_).1 _ _ hlt |>.trans HP)) ?_;go_wp2_with fail;refine hK _ _ (.inr (fun b _ hb=>aRv X_ (by simp;omega))) ?_;clear hK K;refine st_ fun K hK=>?_;go_wp2_with fail;refine z_ (oI HC _ ((aY0 (w:=w) X_).1 _ _ hlt |>.trans HP)) ?_;go_wp2_with fail;refine hK _ _ (.inr (fun b _ hb=>aRv X_ (by simp;omega))) ?_;clear hK K;refine aI ?_;simp only [aR8,aR1,aRm,aRg,aRh]
 show wpQuiet _ _ _ _ [_] _
 try simp only [Act.put,aRp,aRx,aRw]
 repeat (go_big_quiet_step (fail))
 refine wpQuiet_nil ⟨_,rfl,fun K hK=>?_⟩;go_wp2_with fail;refine hK _ _ (.inl (by trivial)) (aC ?_);clear hK K;go_wp2;exact bodyPost_ret (v:=.agg #[a,b,c]) (by simp [results,results249,go_sem, *]) rfl ⟨rfl,S_⟩
theorem jM {z a b k:Int} (ha:wrap64 (k*x)=a) (hb:wrap64 (k*y)=b) (hc:wrap64 (k*z)=c) (w:World) :
  R_ 220 #[.agg #[x,y,z],k] w (.agg #[a,b,c]):=by
 have HA:=hid ha;have HB:=hid hb;have HC:=hid hc;clear ha hb hc;have h0:∀(fn:Fn) (first cap:Array Value) (w:World),(aV4 fn first cap).run aRn w = .ok (.func fn first cap) w:=fun _ _ _ _=>rfl;go_enter func220,ntmps220;go_wp2_with fail;refine r_ (zW HA HB HC _ (by simp [go_sem]) (by simp)) fun w1 h1=>?_;obtain ⟨c1,f1⟩:=h1.cells;have z1:=h1.size;simp only [aRj] at z1
 have q2:w.heap.size+1+1<w1.heap.size:=by omega
 have E1:Ext w w1:=aRo X_ h1;go_wp2;exact bodyPost_ret (v:=.agg #[a,b,c]) (by simp [results,results220,go_sem, *]) rfl ⟨rfl,S_⟩
theorem aD4 {n i j:Int} (hn:1<=n/\n<=64) (hi:0<=i/\i<=n) (hj:0<=j/\j<=n):0<=i*j/\i*j<=4096:=by
 have h1:=aSu hi.1 hj.1;have h2:=Int.mul_le_mul (show i<=64 by omega) (show j<=64 by omega) hj.1 (by omega);omega
theorem nN {g:Int} (hg:0<=g/\g<=4096) (hx : -1000000<=x/\x<=1000000):(-4096000000<=g*x/\g*x<=4096000000):=aY (A:=4096) (B:=1000000) (by omega) hx
theorem pQ (f:Nat->Int) (k:Nat) (hk:k<4) (w:World):(aUy 123 (.agg f) (.int .i64 (k:Nat))).run aRn w = .ok (.agg #[.int .i64 (f (3*k)),.int .i64 (f (3*k+1)),.int .i64 (f (3*k+2))]) w:=by
 rcases (show k=0\/k=1\/k=2\/k=3 by omega) with rfl|rfl|rfl|rfl <;> kernel_rfl
theorem zY (f:Nat->Int) (i j n:Int) (hn:1<=n/\n<=64) (hi:0<=i/\i<=n) (hj:0<=j/\j<=n) (w:World) :
  R_ 166 #[.agg f,i,j,n] w ((evP f i j n).V):=by
 have b0:=aD4 (n:=n) (i:=(n - i)) (j:=(n - j)) hn (by omega) (by omega)
 obtain ⟨g0,e0⟩:∃r,(n - i)*(n - j)=r:=⟨_,rfl⟩
 rw [e0] at b0;have b1:=aD4 (n:=n) (i:=i) (j:=(n - j)) hn (by omega) (by omega)
 obtain ⟨g1,e1⟩:∃r,i*(n - j)=r:=⟨_,rfl⟩
 rw [e1] at b1;have b2:=aD4 (n:=n) (i:=(n - i)) (j:=j) hn (by omega) (by omega)
 obtain ⟨g2,e2⟩:∃r,(n - i)*j=r:=⟨_,rfl⟩
 rw [e2] at b2;have b3:=aD4 (n:=n) (i:=i) (j:=j) hn (by omega) (by omega)
 obtain ⟨g3,e3⟩:∃r,i*j=r:=⟨_,rfl⟩
 rw [e3] at b3;have bn:=aD4 (n:=n) (i:=n) (j:=n) hn (by omega) (by omega)
 obtain ⟨nn,en⟩:∃r,n*n=r:=⟨_,rfl⟩
 rw [en] at bn
 obtain ⟨a4,q7⟩:∃r,cl (f 0)=r:=⟨_,rfl⟩
 have c1:=cS (f 0);rw [q7] at c1;have d7:=nN b0 c1
 obtain ⟨h0,z6⟩:∃r,g0*a4=r:=⟨_,rfl⟩
 rw [z6] at d7;have k8:=hid q7;have i9:=hid (show wrap64 (g0*a4)=h0 by rw [z6];exact aD (by omega) (by omega))
 obtain ⟨a7,x0⟩:∃r,cl (f 3)=r:=⟨_,rfl⟩
 have c4:=cS (f 3);rw [x0] at c4;have e4:=nN b1 c4
 obtain ⟨h5,z9⟩:∃r,g1*a7=r:=⟨_,rfl⟩
 rw [z9] at e4;have l1:=hid x0;have j6:=hid (show wrap64 (g1*a7)=h5 by rw [z9];exact aD (by omega) (by omega))
 obtain ⟨b4,x6⟩:∃r,cl (f 6)=r:=⟨_,rfl⟩
 have c7:=cS (f 6);rw [x6] at c7;have e7:=nN b2 c7
 obtain ⟨h8,y2⟩:∃r,g2*b4=r:=⟨_,rfl⟩
 rw [y2] at e7;have l4:=hid x6;have j9:=hid (show wrap64 (g2*b4)=h8 by rw [y2];exact aD (by omega) (by omega))
 obtain ⟨b7,x9⟩:∃r,cl (f 9)=r:=⟨_,rfl⟩
 have d0:=cS (f 9);rw [x9] at d0;have g4:=nN b3 d0
 obtain ⟨q4,y8⟩:∃r,g3*b7=r:=⟨_,rfl⟩
 rw [y8] at g4;have l7:=hid x9;have k5:=hid (show wrap64 (g3*b7)=q4 by rw [y8];exact aD (by omega) (by omega))
 have d4:evC (f 0) (f 3) (f 6) (f 9) i j n=bT (h0+h5+h8+q4) nn:=by
  unfold evC;rw [q7,x0,x6,x9,e0,e1,e2,e3,en,aTj a4,aTj a7,aTj b4,aTj b7,z6,z9,y2,y8]
 have g7:=hid (show wrap64 (0+h0)=h0 from by rw [bA2];exact aD (by omega) (by omega));have i0:=hid (show wrap64 (h0+h5)=h0+h5 from by exact aD (by omega) (by omega));have i3:=hid (show wrap64 (h0+h5+h8)=h0+h5+h8 from by exact aD (by omega) (by omega));have i6:=hid (show wrap64 (h0+h5+h8+q4)=h0+h5+h8+q4 from by exact aD (by omega) (by omega));have I0:=hid (I64.of (n:=h0+h5+h8+q4) (m:=20000000000) (by omega) (by decide));clear q7 z6 d7 c1 x0 z9 e4 c4 x6 y2 e7 c7 x9 y8 g4 d0
 obtain ⟨a5,q8⟩:∃r,cl (f 1)=r:=⟨_,rfl⟩
 have c2:=cS (f 1);rw [q8] at c2;have d8:=nN b0 c2
 obtain ⟨h3,z7⟩:∃r,g0*a5=r:=⟨_,rfl⟩
 rw [z7] at d8;have k9:=hid q8;have j4:=hid (show wrap64 (g0*a5)=h3 by rw [z7];exact aD (by omega) (by omega))
 obtain ⟨a8,x1⟩:∃r,cl (f 4)=r:=⟨_,rfl⟩
 have c5:=cS (f 4);rw [x1] at c5;have e5:=nN b1 c5
 obtain ⟨h6,y0⟩:∃r,g1*a8=r:=⟨_,rfl⟩
 rw [y0] at e5;have l2:=hid x1;have j7:=hid (show wrap64 (g1*a8)=h6 by rw [y0];exact aD (by omega) (by omega))
 obtain ⟨b5,x7⟩:∃r,cl (f 7)=r:=⟨_,rfl⟩
 have c8:=cS (f 7);rw [x7] at c8;have e8:=nN b2 c8
 obtain ⟨h9,y6⟩:∃r,g2*b5=r:=⟨_,rfl⟩
 rw [y6] at e8;have l5:=hid x7;have k3:=hid (show wrap64 (g2*b5)=h9 by rw [y6];exact aD (by omega) (by omega))
 obtain ⟨b8,z1⟩:∃r,cl (f 10)=r:=⟨_,rfl⟩
 have d1:=cS (f 10);rw [z1] at d1;have g5:=nN b3 d1
 obtain ⟨q5,y9⟩:∃r,g3*b8=r:=⟨_,rfl⟩
 rw [y9] at g5;have l8:=hid z1;have k6:=hid (show wrap64 (g3*b8)=q5 by rw [y9];exact aD (by omega) (by omega))
 have d5:evC (f 1) (f 4) (f 7) (f 10) i j n=bT (h3+h6+h9+q5) nn:=by
  unfold evC;rw [q8,x1,x7,z1,e0,e1,e2,e3,en,aTj a5,aTj a8,aTj b5,aTj b8,z7,y0,y6,y9]
 have g8:=hid (show wrap64 (0+h3)=h3 from by rw [bA2];exact aD (by omega) (by omega));have i1:=hid (show wrap64 (h3+h6)=h3+h6 from by exact aD (by omega) (by omega));have i4:=hid (show wrap64 (h3+h6+h9)=h3+h6+h9 from by exact aD (by omega) (by omega));have i7:=hid (show wrap64 (h3+h6+h9+q5)=h3+h6+h9+q5 from by exact aD (by omega) (by omega));have I1:=hid (I64.of (n:=h3+h6+h9+q5) (m:=20000000000) (by omega) (by decide));clear q8 z7 d8 c2 x1 y0 e5 c5 x7 y6 e8 c8 z1 y9 g5 d1
 obtain ⟨a6,q9⟩:∃r,cl (f 2)=r:=⟨_,rfl⟩
 have c3:=cS (f 2);rw [q9] at c3;have d9:=nN b0 c3
 obtain ⟨h4,z8⟩:∃r,g0*a6=r:=⟨_,rfl⟩
 rw [z8] at d9;have l0:=hid q9;have j5:=hid (show wrap64 (g0*a6)=h4 by rw [z8];exact aD (by omega) (by omega))
 obtain ⟨a9,x2⟩:∃r,cl (f 5)=r:=⟨_,rfl⟩
 have c6:=cS (f 5);rw [x2] at c6;have e6:=nN b1 c6
 obtain ⟨h7,y1⟩:∃r,g1*a9=r:=⟨_,rfl⟩
 rw [y1] at e6;have l3:=hid x2;have j8:=hid (show wrap64 (g1*a9)=h7 by rw [y1];exact aD (by omega) (by omega))
 obtain ⟨b6,x8⟩:∃r,cl (f 8)=r:=⟨_,rfl⟩
 have c9:=cS (f 8);rw [x8] at c9;have e9:=nN b2 c9
 obtain ⟨q0,y7⟩:∃r,g2*b6=r:=⟨_,rfl⟩
 rw [y7] at e9;have l6:=hid x8;have k4:=hid (show wrap64 (g2*b6)=q0 by rw [y7];exact aD (by omega) (by omega))
 obtain ⟨b9,z2⟩:∃r,cl (f 11)=r:=⟨_,rfl⟩
 have d2:=cS (f 11);rw [z2] at d2;have g6:=nN b3 d2
 obtain ⟨q6,a3⟩:∃r,g3*b9=r:=⟨_,rfl⟩
 rw [a3] at g6;have l9:=hid z2;have k7:=hid (show wrap64 (g3*b9)=q6 by rw [a3];exact aD (by omega) (by omega))
 have d6:evC (f 2) (f 5) (f 8) (f 11) i j n=bT (h4+h7+q0+q6) nn:=by
  unfold evC;rw [q9,x2,x8,z2,e0,e1,e2,e3,en,aTj a6,aTj a9,aTj b6,aTj b9,z8,y1,y7,a3]
 have g9:=hid (show wrap64 (0+h4)=h4 from by rw [bA2];exact aD (by omega) (by omega));have i2:=hid (show wrap64 (h4+h7)=h4+h7 from by exact aD (by omega) (by omega));have i5:=hid (show wrap64 (h4+h7+q0)=h4+h7+q0 from by exact aD (by omega) (by omega));have i8:=hid (show wrap64 (h4+h7+q0+q6)=h4+h7+q0+q6 from by exact aD (by omega) (by omega));have I2:=hid (I64.of (n:=h4+h7+q0+q6) (m:=20000000000) (by omega) (by decide));clear q9 z8 d9 c3 x2 y1 e6 c6 x8 y7 e9 c9 z2 a3 g6 d2
 have hV:(evP f i j n).V = .agg #[.int .i64 (bT (h0+h5+h8+q4) nn),.int .i64 (bT (h3+h6+h9+q5) nn),.int .i64 (bT (h4+h7+q0+q6) nn)]:=by
  unfold evP V3.V;simp only [d4,d5,d6]
 rw [hV];clear hV d4 d5 d6;have G0:=hid b0;have G1:=hid b1;have G2:=hid b2;have G3:=hid b3;have j0:=pQ f 0 (by decide);have j1:=pQ f 1 (by decide);have j2:=pQ f 2 (by decide);have j3:=pQ f 3 (by decide);simp only [aZt,aSf,aVi,aUl,aZe,Int.ofNat_eq_natCast,aXg] at j0 j1 j2 j3;have z0:Ext w w:=aRu w;go_enter func166,ntmps166;go_wp2_with fail;have q1:=aRr (w.alloc (.cells f 125)) 122 [(),(),()];have q2:=aRr ((w.alloc (.cells f 125)).alloc (.cells #[(),(),()] 122)) 270 [g0,g1,g2,g3];have q3:=aRr (((w.alloc (.cells f 125)).alloc (.cells #[(),(),()] 122)).alloc (.cells #[g0,g1,g2,g3] 270)) 122 [(),(),()];simp only [aRj] at q1 q2 q3;have Q1:=hid ((q1.alloc (.cells #[g0,g1,g2,g3] 270)).alloc (.cells #[(),(),()] 122));have Q2:=hid (q2.alloc (.cells #[(),(),()] 122));have Q3:=hid q3;have X0:=hid (show Ext w ((((w.alloc (.cells f 125)).alloc (.cells #[(),(),()] 122)).alloc (.cells #[g0,g1,g2,g3] 270)).alloc (.cells #[(),(),()] 122)) from X_);clear q1 q2 q3 z0
 obtain ⟨W0,d3⟩:∃W0,((((w.alloc (.cells f 125)).alloc (.cells #[(),(),()] 122)).alloc (.cells #[g0,g1,g2,g3] 270)).alloc (.cells #[(),(),()] 122))=W0:=⟨_,rfl⟩
 rw [d3] at Q1 Q2 Q3 X0 ⊢;clear d3 e0 e1 e2 e3
 go_loopw [37] (fun i wr=>∃k:Nat,k<=4/\i = .int .i64 (k:Nat)/\Ext w wr/\Blk wr (w.heap.size+1) 122 [(),(),()]/\Blk wr (w.heap.size+2) 270 [g0,g1,g2,g3]/\(k=0->Blk wr (w.heap.size+3) 122 [(),(),()])/\(k=1->Blk wr (w.heap.size+3) 122 [.int .i64 (h0),.int .i64 (h3),.int .i64 (h4)])/\(k=2->Blk wr (w.heap.size+3) 122 [.int .i64 (h0+h5),.int .i64 (h3+h6),.int .i64 (h4+h7)])/\(k=3->Blk wr (w.heap.size+3) 122 [.int .i64 (h0+h5+h8),.int .i64 (h3+h6+h9),.int .i64 (h4+h7+q0)])/\(k=4->Blk wr (w.heap.size+3) 122 [.int .i64 (h0+h5+h8+q4),.int .i64 (h3+h6+h9+q5),.int .i64 (h4+h7+q0+q6)])) (fun i _=>4 - (intOf i).toNat)
 case atStart=>exact ⟨0,by omega,rfl,X0,Q1,Q2,fun _=>Q3.out,fun h=>absurd h (by decide),fun h=>absurd h (by decide),fun h=>absurd h (by decide),fun h=>absurd h (by decide)⟩
 case round=>
  obtain ⟨k,hk,rfl,hx,h1,h2,s0,s1,s2,s3,s4⟩:=hrel;have HX:=hid hx;have H1:=hid h1;have H2:=hid h2;have zw:=hx.size;have zr:=h2.lt
  have zq:w.heap.size+1<wr.heap.size:=by omega
  have S0:=hid s0;have S1:=hid s1;have S2:=hid s2;have S3:=hid s3;have S4:=hid s4;clear hx h1 h2 s0 s1 s2 s3 s4
  rcases (show k=0\/k=1\/k=2\/k=3\/k=4 by omega) with rfl|rfl|rfl|rfl|rfl
  ·have HS:=hid (S0 rfl)
   obtain ⟨a0,a1,a2⟩:=HS.q3;have zs:=HS.lt;have c0:=H2.cell 0 rfl;clear S0 S1 S2 S3 S4;go_wp2_with fail;refine aA [([0,1,3,4,5],2),([],6),([],7),([],8)] 8 (wr.heap.size+1) (by kernel_rfl) (by kernel_rfl) ?_;refine st_ fun K hK=>?_;go_wp2_with fail;refine r_ (eY k8 k9 l0 _) fun w3 x3=>?_;have y3:Ext (wr.alloc (.cells #[(f 0),(f 1),(f 2)] 122)) w3:=aRo (aSk (aRu _)) x3;go_wp2_with fail;refine k_ hK ?_;clear hK K;refine st_ fun K hK=>?_;go_wp2_with fail;refine r_ (jM i9 j4 j5 _) fun w4 x4=>?_;have y4:=y3.trans x4;go_wp2_with fail;refine k_ hK ?_;clear hK K;refine st_ fun K hK=>?_;go_wp2_with fail;refine r_ (nX g7 g8 g9 _) fun w5 x5=>?_;have y5:=y4.trans x5;go_wp2_with fail;refine k_ hK ?_;clear hK K;have Y5:Ext wr w5:=aRo (show Ext wr (wr.alloc (.cells #[(f 0),(f 1),(f 2)] 122)) from X_) y5;have D1:=H1.ext Y5;have D2:=H2.ext Y5;have D3:=HS.ext Y5;have f0:=D3.free 0;have f1:=D3.free 1;have f2:=D3.free 2;have z3:=D3.lt;obtain ⟨k0,k1,k2⟩:=D3.q3;have X5:=HX.trans Y5
   have n1:w.heap.size+1≠w.heap.size+3:=by omega
   have n2:w.heap.size+2≠w.heap.size+3:=by omega
   have G3:=hid (((D3.set 0 (.int .i64 (h0))).set 1 (.int .i64 (h3))).set 2 (.int .i64 (h4)));have z4:=hid (((D1.other (a:=⟨w.heap.size+3,0,none⟩) n1 (.int .i64 (h0))).other (a:=⟨w.heap.size+3,1,none⟩) n1 (.int .i64 (h3))).other (a:=⟨w.heap.size+3,2,none⟩) n1 (.int .i64 (h4)));have z5:=hid (((D2.other (a:=⟨w.heap.size+3,0,none⟩) n2 (.int .i64 (h0))).other (a:=⟨w.heap.size+3,1,none⟩) n2 (.int .i64 (h3))).other (a:=⟨w.heap.size+3,2,none⟩) n2 (.int .i64 (h4)));have GX:=hid (show Ext w (((w5.setCell ⟨w.heap.size+3,0,none⟩ (.int .i64 (h0))).setCell ⟨w.heap.size+3,1,none⟩ (.int .i64 (h3))).setCell ⟨w.heap.size+3,2,none⟩ (.int .i64 (h4))) from S_);clear D1 D2 D3 X5 Y5 y3 y4 y5 x3 x4 x5 a0 a1 a2 c0;refine st_ fun K hK=>?_;go_wp2_with fail;refine l_ hK ?_;clear hK K;refine aC ?_;go_wp2;go_roundw
   case rel=>exact ⟨1,by omega,by go_num,GX,z4,z5,fun h=>absurd h (by decide),fun _=>G3.out,fun h=>absurd h (by decide),fun h=>absurd h (by decide),fun h=>absurd h (by decide)⟩
   case measure=>simp [intOf]
  ·have HS:=hid (S1 rfl)
   obtain ⟨a0,a1,a2⟩:=HS.q3;have zs:=HS.lt;have c0:=H2.cell 1 rfl;clear S0 S1 S2 S3 S4;go_wp2_with fail;refine aA [([0,1,3,4,5],2),([],6),([],7),([],8)] 8 (wr.heap.size+1) (by kernel_rfl) (by kernel_rfl) ?_;refine st_ fun K hK=>?_;go_wp2_with fail;refine r_ (eY l1 l2 l3 _) fun w3 x3=>?_;have y3:Ext (wr.alloc (.cells #[(f 3),(f 4),(f 5)] 122)) w3:=aRo (aSk (aRu _)) x3;go_wp2_with fail;refine k_ hK ?_;clear hK K;refine st_ fun K hK=>?_;go_wp2_with fail;refine r_ (jM j6 j7 j8 _) fun w4 x4=>?_;have y4:=y3.trans x4;go_wp2_with fail;refine k_ hK ?_;clear hK K;refine st_ fun K hK=>?_;go_wp2_with fail;refine r_ (nX i0 i1 i2 _) fun w5 x5=>?_;have y5:=y4.trans x5;go_wp2_with fail;refine k_ hK ?_;clear hK K;have Y5:Ext wr w5:=aRo (show Ext wr (wr.alloc (.cells #[(f 3),(f 4),(f 5)] 122)) from X_) y5;have D1:=H1.ext Y5;have D2:=H2.ext Y5;have D3:=HS.ext Y5;have f0:=D3.free 0;have f1:=D3.free 1;have f2:=D3.free 2;have z3:=D3.lt;obtain ⟨k0,k1,k2⟩:=D3.q3;have X5:=HX.trans Y5
   have n1:w.heap.size+1≠w.heap.size+3:=by omega
   have n2:w.heap.size+2≠w.heap.size+3:=by omega
   have G3:=hid (((D3.set 0 (.int .i64 (h0+h5))).set 1 (.int .i64 (h3+h6))).set 2 (.int .i64 (h4+h7)));have z4:=hid (((D1.other (a:=⟨w.heap.size+3,0,none⟩) n1 (.int .i64 (h0+h5))).other (a:=⟨w.heap.size+3,1,none⟩) n1 (.int .i64 (h3+h6))).other (a:=⟨w.heap.size+3,2,none⟩) n1 (.int .i64 (h4+h7)));have z5:=hid (((D2.other (a:=⟨w.heap.size+3,0,none⟩) n2 (.int .i64 (h0+h5))).other (a:=⟨w.heap.size+3,1,none⟩) n2 (.int .i64 (h3+h6))).other (a:=⟨w.heap.size+3,2,none⟩) n2 (.int .i64 (h4+h7)));have GX:=hid (show Ext w (((w5.setCell ⟨w.heap.size+3,0,none⟩ (.int .i64 (h0+h5))).setCell ⟨w.heap.size+3,1,none⟩ (.int .i64 (h3+h6))).setCell ⟨w.heap.size+3,2,none⟩ (.int .i64 (h4+h7))) from S_);clear D1 D2 D3 X5 Y5 y3 y4 y5 x3 x4 x5 a0 a1 a2 c0;refine st_ fun K hK=>?_;go_wp2_with fail;refine l_ hK ?_;clear hK K;refine aC ?_;go_wp2;go_roundw
   case rel=>exact ⟨2,by omega,by go_num,GX,z4,z5,fun h=>absurd h (by decide),fun h=>absurd h (by decide),fun _=>G3.out,fun h=>absurd h (by decide),fun h=>absurd h (by decide)⟩
   case measure=>simp [intOf]
  ·have HS:=hid (S2 rfl)
   obtain ⟨a0,a1,a2⟩:=HS.q3;have zs:=HS.lt;have c0:=H2.cell 2 rfl;clear S0 S1 S2 S3 S4;go_wp2_with fail;refine aA [([0,1,3,4,5],2),([],6),([],7),([],8)] 8 (wr.heap.size+1) (by kernel_rfl) (by kernel_rfl) ?_;refine st_ fun K hK=>?_;go_wp2_with fail;refine r_ (eY l4 l5 l6 _) fun w3 x3=>?_;have y3:Ext (wr.alloc (.cells #[(f 6),(f 7),(f 8)] 122)) w3:=aRo (aSk (aRu _)) x3;go_wp2_with fail;refine k_ hK ?_;clear hK K;refine st_ fun K hK=>?_;go_wp2_with fail;refine r_ (jM j9 k3 k4 _) fun w4 x4=>?_;have y4:=y3.trans x4;go_wp2_with fail;refine k_ hK ?_;clear hK K;refine st_ fun K hK=>?_;go_wp2_with fail;refine r_ (nX i3 i4 i5 _) fun w5 x5=>?_;have y5:=y4.trans x5;go_wp2_with fail;refine k_ hK ?_;clear hK K;have Y5:Ext wr w5:=aRo (show Ext wr (wr.alloc (.cells #[(f 6),(f 7),(f 8)] 122)) from X_) y5;have D1:=H1.ext Y5;have D2:=H2.ext Y5;have D3:=HS.ext Y5;have f0:=D3.free 0;have f1:=D3.free 1;have f2:=D3.free 2;have z3:=D3.lt;obtain ⟨k0,k1,k2⟩:=D3.q3;have X5:=HX.trans Y5
   have n1:w.heap.size+1≠w.heap.size+3:=by omega
   have n2:w.heap.size+2≠w.heap.size+3:=by omega
   have G3:=hid (((D3.set 0 (.int .i64 (h0+h5+h8))).set 1 (.int .i64 (h3+h6+h9))).set 2 (.int .i64 (h4+h7+q0)));have z4:=hid (((D1.other (a:=⟨w.heap.size+3,0,none⟩) n1 (.int .i64 (h0+h5+h8))).other (a:=⟨w.heap.size+3,1,none⟩) n1 (.int .i64 (h3+h6+h9))).other (a:=⟨w.heap.size+3,2,none⟩) n1 (.int .i64 (h4+h7+q0)));have z5:=hid (((D2.other (a:=⟨w.heap.size+3,0,none⟩) n2 (.int .i64 (h0+h5+h8))).other (a:=⟨w.heap.size+3,1,none⟩) n2 (.int .i64 (h3+h6+h9))).other (a:=⟨w.heap.size+3,2,none⟩) n2 (.int .i64 (h4+h7+q0)));have GX:=hid (show Ext w (((w5.setCell ⟨w.heap.size+3,0,none⟩ (.int .i64 (h0+h5+h8))).setCell ⟨w.heap.size+3,1,none⟩ (.int .i64 (h3+h6+h9))).setCell ⟨w.heap.size+3,2,none⟩ (.int .i64 (h4+h7+q0))) from S_);clear D1 D2 D3 X5 Y5 y3 y4 y5 x3 x4 x5 a0 a1 a2 c0;refine st_ fun K hK=>?_;go_wp2_with fail;refine l_ hK ?_;clear hK K;refine aC ?_;go_wp2;go_roundw
   case rel=>exact ⟨3,by omega,by go_num,GX,z4,z5,fun h=>absurd h (by decide),fun h=>absurd h (by decide),fun h=>absurd h (by decide),fun _=>G3.out,fun h=>absurd h (by decide)⟩
   case measure=>simp [intOf]
  ·have HS:=hid (S3 rfl)
   obtain ⟨a0,a1,a2⟩:=HS.q3;have zs:=HS.lt;have c0:=H2.cell 3 rfl;clear S0 S1 S2 S3 S4;go_wp2_with fail;refine aA [([0,1,3,4,5],2),([],6),([],7),([],8)] 8 (wr.heap.size+1) (by kernel_rfl) (by kernel_rfl) ?_;refine st_ fun K hK=>?_;go_wp2_with fail;refine r_ (eY l7 l8 l9 _) fun w3 x3=>?_;have y3:Ext (wr.alloc (.cells #[(f 9),(f 10),(f 11)] 122)) w3:=aRo (aSk (aRu _)) x3;go_wp2_with fail;refine k_ hK ?_;clear hK K;refine st_ fun K hK=>?_;go_wp2_with fail;refine r_ (jM k5 k6 k7 _) fun w4 x4=>?_;have y4:=y3.trans x4;go_wp2_with fail;refine k_ hK ?_;clear hK K;refine st_ fun K hK=>?_;go_wp2_with fail;refine r_ (nX i6 i7 i8 _) fun w5 x5=>?_;have y5:=y4.trans x5;go_wp2_with fail;refine k_ hK ?_;clear hK K;have Y5:Ext wr w5:=aRo (show Ext wr (wr.alloc (.cells #[(f 9),(f 10),(f 11)] 122)) from X_) y5;have D1:=H1.ext Y5;have D2:=H2.ext Y5;have D3:=HS.ext Y5;have f0:=D3.free 0;have f1:=D3.free 1;have f2:=D3.free 2;have z3:=D3.lt;obtain ⟨k0,k1,k2⟩:=D3.q3;have X5:=HX.trans Y5
   have n1:w.heap.size+1≠w.heap.size+3:=by omega
   have n2:w.heap.size+2≠w.heap.size+3:=by omega
   have G3:=hid (((D3.set 0 (.int .i64 (h0+h5+h8+q4))).set 1 (.int .i64 (h3+h6+h9+q5))).set 2 (.int .i64 (h4+h7+q0+q6)));have z4:=hid (((D1.other (a:=⟨w.heap.size+3,0,none⟩) n1 (.int .i64 (h0+h5+h8+q4))).other (a:=⟨w.heap.size+3,1,none⟩) n1 (.int .i64 (h3+h6+h9+q5))).other (a:=⟨w.heap.size+3,2,none⟩) n1 (.int .i64 (h4+h7+q0+q6)));have z5:=hid (((D2.other (a:=⟨w.heap.size+3,0,none⟩) n2 (.int .i64 (h0+h5+h8+q4))).other (a:=⟨w.heap.size+3,1,none⟩) n2 (.int .i64 (h3+h6+h9+q5))).other (a:=⟨w.heap.size+3,2,none⟩) n2 (.int .i64 (h4+h7+q0+q6)));have GX:=hid (show Ext w (((w5.setCell ⟨w.heap.size+3,0,none⟩ (.int .i64 (h0+h5+h8+q4))).setCell ⟨w.heap.size+3,1,none⟩ (.int .i64 (h3+h6+h9+q5))).setCell ⟨w.heap.size+3,2,none⟩ (.int .i64 (h4+h7+q0+q6))) from S_);clear D1 D2 D3 X5 Y5 y3 y4 y5 x3 x4 x5 a0 a1 a2 c0;refine st_ fun K hK=>?_;go_wp2_with fail;refine l_ hK ?_;clear hK K;refine aC ?_;go_wp2;go_roundw
   case rel=>exact ⟨4,by omega,by go_num,GX,z4,z5,fun h=>absurd h (by decide),fun h=>absurd h (by decide),fun h=>absurd h (by decide),fun h=>absurd h (by decide),fun _=>G3.out⟩
   case measure=>simp [intOf]
  ·have HS:=hid (S4 rfl)
   obtain ⟨a0,a1,a2⟩:=HS.q3;have zs:=HS.lt;have EN:=hid en;clear S0 S1 S2 S3 S4;go_wp2_with fail;refine r_ (aDl I0 I1 I2 rfl rfl rfl _) fun w3 x3=>?_;have D1:=H1.ext x3;have f0:=D1.free 0;have f1:=D1.free 1;have f2:=D1.free 2;have z3:=D1.lt;obtain ⟨k0,k1,k2⟩:=D1.q3;have X5:=HX.trans x3;go_wp2;exact bodyPost_ret (v:=.agg #[.int .i64 (bT (h0+h5+h8+q4) nn),.int .i64 (bT (h3+h6+h9+q5) nn),.int .i64 (bT (h4+h7+q0+q6) nn)]) (by simp [results,results166,go_sem, *]) rfl ⟨rfl,S_⟩
@[go_sem] theorem aPq {a:Addr} {m:Mode} (fn:Fn) (first captured:Array Value):(store a (.func fn first captured) m).run P w=stored P w a (.func fn first captured) m:=run_store P w a _ m rfl
theorem wR (c:Cam) (w:World):Calls aRn 268 #[c.V] w fun e w'=>∃B,e = .returned (aM1 c.deep B)/\B<w'.heap.size/\w'.cell? ⟨B,2,none⟩=some (.int .i64 c.zoom)/\Ext w w':=by
 obtain ⟨cw,ch,zo,ne,de,le,fo⟩:=c;have h0:∀(fn:Fn) (first cap:Array Value) (w:World),(aV4 fn first cap).run aRn w = .ok (.func fn first cap) w:=fun _ _ _ _=>rfl
 show Calls aRn 268 #[.agg #[cw,ch,zo,ne,.bool de,le,fo]] w _
 cases de
 ·go_enter func268,ntmps268
  go_wp2;go_ret;exact ⟨w.heap.size,rfl,by simp,by simp [go_sem],X_⟩
 ·go_enter func268,ntmps268
  go_wp2;go_ret;exact ⟨w.heap.size,rfl,by simp,by simp [go_sem],X_⟩
theorem aF8 {N:Nat} (w:World) (hB:N<=B) (t u v:Value):aM 0 N w (((w.drew.setCell ⟨B,0,none⟩ t).setCell ⟨B,1,none⟩ u).setCell ⟨B,2,none⟩ v):=fun k _ hk=>by
 have hk:B≠k:=by omega
 rw [aRt _ _ _ _ (by exact hk.symm),aRt _ _ _ _ (by exact hk.symm),aRt _ _ _ _ (by exact hk.symm)]
 rfl
theorem aD5 (c:Cam) (x y z lx ly:Int) (h:c.prB ⟨x,y,z⟩ lx ly=true) (w:World) :
  R_ 245 #[c.V,.agg #[x,y,z],lx,ly] w (.tuple #[(c.pr ⟨x,y,z⟩ lx ly).V,.bool true]):=by
 unfold Cam.prB at h;simp only [aRy,decide_eq_true_eq] at h;obtain ⟨⟨⟨⟨hc,hv⟩,hx⟩,hy⟩,hz⟩:=h;have OK:=Cam.okB_iff.1 hc;have h5:=aAv.1 hv;have q0:=aG.1 hx;have q1:=aG.1 hy;have hn:=OK.near
 obtain ⟨px,h3⟩:∃n,c.pj x z lx (c.w*8)=n:=⟨_,rfl⟩
 obtain ⟨py,h4⟩:∃n,c.pj y z ly (c.h*8)=n:=⟨_,rfl⟩
 have hV:(c.pr ⟨x,y,z⟩ lx ly).V = .agg #[px,py,z]:=by
  unfold Cam.pr V3.V;simp only [h3,h4]
 rw [hV];have HC:=hid hc;have HV:=hid hv;have q4:=hid hx;have q5:=hid hy;have HO:=hid OK;have P1:=hid h3;have P2:=hid h4;have VX:=hid h5.1;have VY:=hid h5.2.1;have VZ:=hid (show 1<=z/\z<=1000000 by omega);have LX:=hid q0;have LY:=hid q1;have WB:=hid OK.w;have HB:=hid OK.h;have q8:decide (z<c.near)=false:=decide_eq_false (by omega);clear hc hv hx hy OK h5 q0 q1 hn h3 h4 hV hz;have q6:∀(fn:Fn) (first cap:Array Value) (w:World),(aV4 fn first cap).run aRn w = .ok (.func fn first cap) w:=fun _ _ _ _=>rfl;have h7:=aRr w 35 c;have h1:=aRr (w.alloc (.cells c 35)) 122 [x,y,z];have h2:=aRr ((w.alloc (.cells c 35)).alloc (.cells #[x,y,z] 122)) 122 [(),(),()];simp only [aRj] at h1 h2;have B0:=hid ((h7.alloc (.cells #[x,y,z] 122)).alloc (.cells #[(),(),()] 122));have B1:=hid (h1.alloc (.cells #[(),(),()] 122));have B2:=hid h2;have Y0:=hid (show Ext w (((w.alloc (.cells c 35)).alloc (.cells #[x,y,z] 122)).alloc (.cells #[(),(),()] 122)) from X_);clear h7 h1 h2
 show Calls aRn 245 #[.agg c,.agg #[x,y,z],lx,ly] w _
 go_enter func245,ntmps245;go_wp2_with fail;refine r_ (cJ HC.out _) fun w1 x1=>?_;have C0:=hid (B0.out.ext x1);have C1:=hid (B1.out.ext x1);have C2:=hid (B2.out.ext x1);have Y1:=hid (Y0.out.trans x1);obtain ⟨v0,v1,v2⟩:=C1.out.q3;have c3:=C0.out.cell 3 rfl;have z0:=C0.out.lt;have z1:=C1.out.lt;clear B0 B1 B2 Y0 x1;go_wp2_with fail;refine r_ (dR (x:=x) (y:=y) (z:=z) _) fun w2 x2=>?_;rw [HV.out];have D0:=hid (C0.out.ext x2);have D1:=hid (C1.out.ext x2);have D2:=hid (C2.out.ext x2);have Y2:=hid (Y1.out.trans x2);have zx:=x2.size;clear C0 C1 C2 Y1 v0 v1 v2 c3 x2;have v2:=D1.out.cell 2 rfl;obtain ⟨c0,c1,c2,c3,c4,c5,c6⟩:=D0.out.q7;go_wp2_with (go_at_call 92;with_reducible first|(refine z_ (aL q4.out _) ?_)|(refine z_ (aL q5.out _) ?_));refine (wR c _).mono ?_;rintro e w3 ⟨Cp,rfl,h6,h8,x3⟩
 obtain ⟨FN,h0⟩:∃FN:Fn,aM1 c.deep Cp = .func FN #[] #[.pointer (some ⟨Cp,0,none⟩)]:=⟨_,rfl⟩
 rw [h0];have HF:=hid h0;have y4:Ext w3 (w3.alloc (.cells #[.func FN #[] #[.pointer (some ⟨Cp,0,none⟩)]] 147)):=X_;have hq:=(aRr w3 147 [.func FN #[] #[.pointer (some ⟨Cp,0,none⟩)]]).cell 0 rfl;have E0:=hid ((D0.out.ext x3).ext y4);have E1:=hid ((D1.out.ext x3).ext y4);have E2:=hid ((D2.out.ext x3).ext y4);have cz:=(y4.cells.1 _ _ h6).trans h8;have Y4:=hid (Y2.out.trans (x3.trans y4));have zs:=x3.size;have HQ:=hid hq;have CZ:=hid cz;clear h0 h6 h8 x3 D0 D1 D2 Y2 v2 c0 c1 c2 c3 c4 c5 c6 hq cz y4;go_upto_region 5 with fail
 obtain ⟨w4,h9⟩:∃w4,w3.alloc (.cells #[.func FN #[] #[.pointer (some ⟨Cp,0,none⟩)]] 147)=w4:=⟨_,rfl⟩
 rw [h9] at E0 E1 E2 CZ HQ Y4 ⊢;clear h9;obtain ⟨c0,c1⟩:=E0.out.q2;obtain ⟨v0,v1,v2⟩:=E1.out.q3;have z4:=E2.out.lt;have f0:=E2.out.free 0;have f1:=E2.out.free 1;have f2:=E2.out.free 2;obtain ⟨k0,k1,k2⟩:=E2.out.q3;refine aA [([0,1,2,3,4,5,7,8,9,10,11,12,14,15],6),([],13),([16],17),([],18)] 18 (w.heap.size+2) (by kernel_rfl) (by kernel_rfl) ?_;refine st_ fun K hK=>?_;go_wp2_with fail;refine z_ (wQ HO.out VX.out VZ.out LX.out WB.out P1.out w.heap.size Cp (w.heap.size+1) w3.heap.size w4.drew CZ.out (E0.out.cell 5 rfl) (E0.out.cell 6 rfl) v2 (HQ.out.trans (congrArg some HF.out.symm))) ?_;go_wp2_with fail;refine hK _ _ (.inr (fun _ _ _=>rfl)) ?_;clear hK K;refine st_ fun K hK=>?_;go_wp2_with fail;refine z_ (wQ HO.out VY.out VZ.out LY.out HB.out P2.out w.heap.size Cp (w.heap.size+1) w3.heap.size w4.drew CZ.out (E0.out.cell 5 rfl) (E0.out.cell 6 rfl) v2 (HQ.out.trans (congrArg some HF.out.symm))) ?_;go_wp2_with fail;refine hK _ _ (.inr (fun _ _ _=>rfl)) ?_;clear hK K;refine st_ fun K hK=>?_;go_wp2_with fail;refine hK _ _ (.inr (aF8 _ (aRi _) _ _ _)) ?_;clear hK K;refine st_ fun K hK=>?_;go_wp2_with fail;refine l_ hK ?_;clear hK K;refine aC ?_;have hX:=Y4.out;go_wp2;exact bodyPost_ret (v:=.tuple #[.agg #[px,py,z],.bool true]) (by simp [results,results245,go_sem, *]) rfl ⟨rfl,S_⟩
theorem aF9 (c:Cam) (x y z lx ly:Int) (h:c.prB ⟨x,y,z⟩ lx ly=false) (w:World) :
  R_ 245 #[c.V,.agg #[x,y,z],lx,ly] w (.tuple #[.agg #[(),(),()],.bool false]):=by
 unfold Cam.prB at h
 obtain ⟨b1,h1⟩:∃b,c.okB=b:=⟨_,rfl⟩
 obtain ⟨b2,h2⟩:∃b,dC x y z=b:=⟨_,rfl⟩
 obtain ⟨b3,h3⟩:∃b,inB lx (-16) 16=b:=⟨_,rfl⟩
 obtain ⟨b4,h4⟩:∃b,inB ly (-16) 16=b:=⟨_,rfl⟩
 obtain ⟨b5,h5⟩:∃b,decide (c.near<=z)=b:=⟨_,rfl⟩
 simp only [h1,h2,h3,h4,h5] at h
 have h6:decide (z<c.near) = !b5:=by
  rw [<-h5]
  by_cases q:c.near<=z
  ·rw [decide_eq_true q,decide_eq_false (by omega)];rfl
  ·rw [decide_eq_false q,decide_eq_true (by omega)];rfl
 have HC:=hid h1;have HV:=hid h2;have h9:=hid h3;have q0:=hid h4;clear h1 h2 h3 h4 h5;have h8:=aRr w 35 c;have h0:=aRr (w.alloc (.cells c 35)) 122 [x,y,z];have h7:=aRr ((w.alloc (.cells c 35)).alloc (.cells #[x,y,z] 122)) 122 [(),(),()];simp only [aRj] at h0 h7;have B0:=hid ((h8.alloc (.cells #[x,y,z] 122)).alloc (.cells #[(),(),()] 122));have B1:=hid (h0.alloc (.cells #[(),(),()] 122));have B2:=hid h7;have Y0:=hid (show Ext w (((w.alloc (.cells c 35)).alloc (.cells #[x,y,z] 122)).alloc (.cells #[(),(),()] 122)) from X_);clear h8 h0 h7
 show Calls aRn 245 #[.agg c,.agg #[x,y,z],lx,ly] w _
 go_enter func245,ntmps245;go_wp2_with fail;refine r_ (cJ HC.out _) fun w1 x1=>?_
 cases b1
 ·have C2:=B2.out.ext x1
  have f0:=C2.free 0;have f1:=C2.free 1;have f2:=C2.free 2;obtain ⟨k0,k1,k2⟩:=C2.q3;have z2:=C2.lt;have hX:=Y0.out.trans x1;go_wp2;exact bodyPost_ret (v:=.tuple #[.agg #[(),(),()],.bool false]) (by simp [results,results245,go_sem, *]) rfl ⟨rfl,S_⟩
 ·have C0:=hid (B0.out.ext x1)
  have C1:=hid (B1.out.ext x1);have C2:=hid (B2.out.ext x1);have Y1:=hid (Y0.out.trans x1);obtain ⟨v0,v1,v2⟩:=C1.out.q3;have z0:=C0.out.lt;have z1:=C1.out.lt;clear B0 B1 B2 Y0 x1;go_wp2_with fail;refine r_ (dR (x:=x) (y:=y) (z:=z) _) fun w2 x2=>?_;rw [HV.out];have D0:=C0.out.ext x2;have D1:=C1.out.ext x2;have D2:=C2.out.ext x2;have hX:=Y1.out.trans x2;have c3:=D0.cell 3 rfl;have q2:=D1.cell 2 rfl;have f0:=D2.free 0;have f1:=D2.free 1;have f2:=D2.free 2;obtain ⟨k0,k1,k2⟩:=D2.q3;have y0:=D0.lt;have y1:=D1.lt;have y2:=D2.lt;clear C0 C1 C2 Y1 v0 v1 v2 x2 D0 D1 D2
  cases b2
  rotate_left
  cases b3
  rotate_left
  cases b4
  rotate_left
  cases b5
  rotate_left
  ·cases h
  all_goals
   try simp only [Bool.not_false,Bool.not_true] at h6
   go_wp2_with (go_at_call 92;with_reducible first|(refine z_ (aL h9.out _) ?_)|(refine z_ (aL q0.out _) ?_));exact bodyPost_ret (v:=.tuple #[.agg #[(),(),()],.bool false]) (by simp [results,results245,go_sem, *]) rfl ⟨rfl,S_⟩
def lN (a:Act):List (Nat×Value)->Act
 | []=>a
 | (d,v)::r=>lN (a.put (some d) v) r
theorem aHz (a:Act) (d:Nat) (v:Value) (i:Nat):(a.put (some d) v).tmps[i]?=if d=i then (a.tmps[i]?).map (fun _=>v) else a.tmps[i]?:=by
 show (a.tmps.setIfInBounds d v)[i]?=_
 rw [aWe]
 split
 ·rename_i e
  subst e
  split
  ·rename_i h
   rw [aU1 h]
   rfl
  ·rename_i h
   rw [aXk (by omega)]
   rfl
 ·rfl
theorem aI8:∀(L:List (Nat×Value)) (a:Act),(lN a L).tmps.size=a.tmps.size
 | [],_=>rfl
 | (d,v)::r,a=>by
  unfold lN;rw [aI8 r]
  show (a.tmps.setIfInBounds d v).size=_
  rw [Array.size_setIfInBounds]
theorem kS:∀(L:List (Nat×Value)) (a:Act),(lN a L).defers=a.defers
 | [],_=>rfl
 | (d,v)::r,a=>by
  unfold lN;rw [kS r]
  rfl
theorem rX (us:Nat->Value) (i:Nat):∀(D:List Nat) (a:Act),(lN a (D.map fun d=>(d,us d))).tmps[i]?=if i∈D then (a.tmps[i]?).map (fun _=>us i) else a.tmps[i]?
 | [],a=>by simp [lN]
 | d::D,a=>by
  rw [aTr];unfold lN;rw [rX us i D,aHz]
  by_cases e:d=i
  ·subst e
   rw [if_pos rfl,if_pos (aVl ..)]
   cases a.tmps[d]? <;> simp
  ·rw [if_neg e]
   by_cases h:i∈D
   ·rw [if_pos h,if_pos (aU7 _ h)]
   ·rw [if_neg h,if_neg (by simp [h];omega)]
theorem iN {α β : Type} {f : α->β}:∀{L:List α},(L.map f).Nodup->∀{x y : α},x∈L->y∈L->f x=f y->x=y
 | [],_,_,_,hx,_,_=>nomatch hx
 | a::L,h,x,y,hx,hy,e=>by
  rw [aTr,List.nodup_cons] at h
  rcases aR4.1 hx with rfl|hx'
  ·rcases aR4.1 hy with rfl|hy'
   ·rfl
   ·exact absurd (aTl.2 ⟨y,hy',e.symm⟩) h.1
  ·rcases aR4.1 hy with rfl|hy'
   ·exact absurd (aTl.2 ⟨x,hx',e⟩) h.1
   ·exact iN h.2 hx' hy' e
theorem aH0 {b:Act} (h1:∀i:Nat,a.tmps[i]?=b.tmps[i]?) (h2:a.defers=b.defers):a=b:=by
 cases a
 cases b
 simp only at h1 h2;subst h2
 congr 1
 exact aXe h1
theorem aKw (us:Nat->Value) (D:List Nat) (a:Act) {d:Nat} (hd:d∈D) (v:Value):(lN a (D.map fun d=>(d,us d))).put (some d) v=lN a (D.map fun j=>(j,if j=d then v else us j)):=by
 refine aH0 (fun i=>?_) ?_
 ·rw [aHz,rX,rX (fun j=>if j=d then v else us j)]
  by_cases e:d=i
  ·subst e
   rw [if_pos rfl,if_pos hd,if_pos hd]
   cases a.tmps[d]? <;> simp
  ·rw [if_neg e]
   by_cases h:i∈D
   ·rw [if_pos h,if_pos h,if_neg (Ne.symm e)]
   ·rw [if_neg h,if_neg h]
 ·show (lN a (D.map fun d=>(d,us d))).defers=_
  rw [kS,kS]
theorem aI9 (D:List Nat) (a:Act):lN a (D.map fun d=>(d,a.tmps.getD d undef))=a:=by
 refine aH0 (fun i=>?_) (kS _ _);rw [rX (fun d=>a.tmps.getD d undef)]
 split
 ·cases h:a.tmps[i]? with
  | none=>rfl
  | some x=>simp [Array.getD_eq_getD_getElem?,h]
 ·rfl
theorem uM (i:Nat):∀(T:List Nat) (l:Array Bool),(eB T l)[i]?=if i∈T then (l[i]?).map (fun _=>true) else l[i]?
 | [],l=>by simp [eB]
 | t::T,l=>by
  unfold eB;rw [uM i T,aWe]
  by_cases e:t=i
  ·subst e
   rw [if_pos rfl,if_pos (aVl ..)]
   by_cases h:t<l.size
   ·rw [if_pos h,aU1 h];split <;> rfl
   ·rw [if_neg h,aXk (by omega)];split <;> rfl
  ·rw [if_neg e]
   by_cases h:i∈T
   ·rw [if_pos h,if_pos (aU7 _ h)]
   ·rw [if_neg h,if_neg (by simp [h];omega)]
structure aKx where
 op:Nat
 dst:Nat
 good:Value->World->Prop
def vQ (ops:Array Oper):Nat->Array Bool->List Nat->Bool
 | 0,_,R=>R.isEmpty
 | n+1,l,R=>(aS8 .any ops l).all (fun i=>R.contains i&&vQ ops n (l.setIfInBounds i true) (R.erase i)) && !(aS8 .any ops l).isEmpty
section
variable {P : Program} {ops : Array Oper} {Q : Exit -> Act -> World -> Prop} {S : World -> Prop} {z fuel : Nat} {w0 : World} {a : Act} {l0 : Array Bool} {B : List aKx}
end
theorem aJa {N:Nat} {w0:World} {l:Array Bool} (T:List Nat) (hB:(aU0 ops&&fN .any ops z&&rM ops z T l)=true) (hS:aM 0 N w0 w)
  (h:wpQuiet P ops (fun w'=>∃d,w'=gY N w0 d) (fun a'=>wpZ P ops (NoPanic Q) N w0 z fuel (eB T l) a' w) (T.filterMap (ops[·]?)) a):wpZ P ops (NoPanic Q) N w0 z (T.length+fuel) l a w:=by
 simp only [aRy] at hB;obtain ⟨⟨h1,h2⟩,h3⟩:=hB;exact oT h1 h2 ⟨_,oS hS⟩ T l a h3 (fun a' hk=>hk) h
section
variable {P : Program} {ops : Array Oper} {Q : Exit -> Act -> World -> Prop} {S : World -> Prop} {z fuel : Nat} {w0 : World} {a : Act} {l0 : Array Bool} {B : List aKx}
theorem aA1 (hnd:(B.map (·.op)).Nodup) (hS:∀w',Ext w0 w'->S w')
  (hst:∀b∈B,∀v w w',b.good v w->Ext w w'->b.good v w')
  (hsp:∀b∈B,∀(us:Nat->Value) (w1:World),Ext w0 w1->∃o,ops[b.op]?=some o/\∀K:Act->World->Prop,(∀v w',Ext w1 w'->b.good v w'->(∀c∈B,∀u,c.good u w1->v≠u)->K ((lN a ((B.map (·.dst)).map fun d=>(d,us d))).put (some b.dst) v) w')->wpList P ops (Exit.then K Q) [o] (lN a ((B.map (·.dst)).map fun d=>(d,us d))) w1)
  (hdd:(B.map (·.dst)).Nodup)
  (hend:∀(us:Nat->Value) (w1:World),Ext w0 w1->(∀b∈B,b.good (us b.dst) w1)->(∀b∈B,∀c∈B,b.op≠c.op->us b.dst≠us c.dst)->jP P .any ops Q S z fuel (eB (B.map (·.op)) l0) (lN a ((B.map (·.dst)).map fun d=>(d,us d))) w1) :
  ∀(n:Nat) (R:List Nat) (l:Array Bool) (us:Nat->Value) (w:World),n=R.length->R.Nodup->(∀i∈R,i∈B.map (·.op))->vQ ops n l R=true->(∀i,l[i]?=if i∈B.map (·.op)/\i∉R then (l0[i]?).map (fun _=>true) else l0[i]?)->Ext w0 w->(∀b∈B,b.op∉R->b.good (us b.dst) w)->(∀b∈B,∀c∈B,b.op∉R->c.op∉R->b.op≠c.op->us b.dst≠us c.dst) ->
   jP P .any ops Q S z (n+fuel) l (lN a ((B.map (·.dst)).map fun d=>(d,us d))) w
 | 0,R,l,us,w,hn,_,_,_,hl,hw,hg,hp=>by
  obtain rfl:R=[]:=List.length_eq_zero_iff.1 hn.symm
  have e:l=eB (B.map (·.op)) l0:=aXe fun i=>by
   rw [hl i,uM]
   by_cases h:i∈B.map (·.op)
   ·rw [if_pos ⟨h,aRz⟩,if_pos h]
   ·rw [if_neg (fun h'=>h h'.1),if_neg h]
  rw [aSf,e];exact hend us w hw (fun b hb=>hg b hb aRz) fun b hb c hc hne=>hp b hb c hc aRz aRz hne
 | n+1,R,l,us,w,hn,hR,hRB,hck,hl,hw,hg,hp=>by
  unfold vQ at hck;simp only [aRy,aSs] at hck;obtain ⟨hall,hne⟩:=hck;rw [Nat.succ_add];refine ⟨fun h0=>?_,fun i hi=>?_⟩
  ·rw [h0] at hne;cases hne
  ·obtain ⟨hiR,hrec⟩:=hall i hi
   have hiR:i∈R:=by simpa using hiR
   obtain ⟨b,hb,rfl⟩:=aTl.1 (hRB i hiR);obtain ⟨o,ho,hK⟩:=hsp b hb us w hw
   have ht:=hK (fun a' w'=>(b.op=z\/S w')/\jP P .any ops Q S z (n+fuel) (l.setIfInBounds b.op true) a' w') (fun v w' hx hgv hfr=>by
    have h7:=hw.trans hx;refine ⟨.inr (hS _ h7),?_⟩;rw [aKw us _ _ (aTl.2 ⟨b,hb,rfl⟩)];refine aA1 hnd hS hst hsp hdd hend n (R.erase b.op) (l.setIfInBounds b.op true) (fun j=>if j=b.dst then v else us j) w' ?_ (hR.erase _) (fun j hj=>hRB j (List.mem_of_mem_erase hj)) hrec (fun j=>?_) h7 (fun c hc hcR=>?_) (fun c hc e he hcR heR hne=>?_)
    ·rw [List.length_erase_of_mem hiR];omega
    ·rw [aWe]
     by_cases e:b.op=j
     ·subst e
      have hc:b.op∈B.map (·.op)/\b.op∉R.erase b.op:=⟨hRB _ hiR,hR.not_mem_erase⟩
      rw [if_pos rfl,if_pos hc];have h0:=hl b.op;rw [if_neg (fun h=>h.2 hiR)] at h0
      by_cases hs:b.op<l.size
      ·rw [if_pos hs]
       rw [aU1 hs] at h0;rw [<-h0]
       rfl
      ·rw [if_neg hs]
       rw [aXk (by omega)] at h0;rw [<-h0]
       rfl
     ·rw [if_neg e,hl j]
      have:(j∉R.erase b.op)↔(j∉R):=by
       rw [aYk (Ne.symm e)]
      simp only [this]
    ·by_cases e:c=b
     ·subst e
      show c.good (if c.dst=c.dst then v else us c.dst) w'
      rw [if_pos rfl];exact hgv
     ·have hne:c.dst≠b.dst:=fun h=>e (iN hdd hc hb h)
      have h5:c.op≠b.op:=fun h=>e (iN hnd hc hb h)
      show c.good (if c.dst=b.dst then v else us c.dst) w'
      rw [if_neg hne];refine hst c hc _ _ _ (hg c hc fun h=>hcR ?_) hx;exact (aYk h5).2 h
    ·have h4:∀x∈B,x.op∉R.erase b.op->x≠b->x.op∉R:=fun x hx' hxR hxb h=>hxR ((aYk fun h2=>hxb (iN hnd hx' hb h2)).2 h)
     show (if c.dst=b.dst then v else us c.dst)≠(if e.dst=b.dst then v else us e.dst)
     by_cases h1:c=b
     ·subst h1
      have h2:e≠c:=fun h=>hne (by rw [h]);rw [if_pos rfl,if_neg fun h=>h2 (iN hdd he hc h)];exact hfr e he _ (hg e he (h4 e he heR h2))
     ·rw [if_neg fun h=>h1 (iN hdd hc hb h)]
      by_cases h2:e=b
      ·subst h2
       rw [if_pos rfl];exact (hfr c hc _ (hg c hc (h4 c hc hcR h1))).symm
      ·rw [if_neg fun h=>h2 (iN hdd he hb h)]
       exact hp c hc e he (h4 c hc hcR h1) (h4 e he heR h2) hne)
   unfold wpOp;simp only [ho];unfold wpList at ht
   split
   ·rename_i h6
    rw [if_pos h6] at ht
    rcases ht with ht|⟨h1,h2⟩
    ·refine .inl ?_
     have h3:=jL ht;exact h3
    ·exact .inr ⟨h1,h2⟩
   ·rename_i h6
    rw [if_neg h6] at ht;exact ht
end
theorem aGa {P:Program} {ops:Array Oper} {Q:Exit->Act->World->Prop} {z fuel:Nat} {w0 w:World} {a:Act} {l:Array Bool} (B:List aKx) (n:Nat) (hn:B.length=n) (hw:Ext w0 w)
  (hck:vQ ops n l (B.map (·.op))=true) (hnd:(B.map (·.op)).Nodup) (hdd:(B.map (·.dst)).Nodup)
  (hst:∀b∈B,∀v w w',b.good v w->Ext w w'->b.good v w')
  (hsp:∀b∈B,∀(us:Nat->Value) (w1:World),Ext w0 w1->∃o,ops[b.op]?=some o/\∀K:Act->World->Prop,(∀v w',Ext w1 w'->b.good v w'->(∀c∈B,∀u,c.good u w1->v≠u)->K ((lN a ((B.map (·.dst)).map fun d=>(d,us d))).put (some b.dst) v) w')->wpList P ops (Exit.then K (NoPanic Q)) [o] (lN a ((B.map (·.dst)).map fun d=>(d,us d))) w1)
  (hend:∀(us:Nat->Value) (w1:World),Ext w0 w1->(∀b∈B,b.good (us b.dst) w1)->(∀b∈B,∀c∈B,b.op≠c.op->us b.dst≠us c.dst)->wpZ P ops (NoPanic Q) w0.heap.size w0 z fuel (eB (B.map (·.op)) l) (lN a ((B.map (·.dst)).map fun d=>(d,us d))) w1) :
  wpZ P ops (NoPanic Q) w0.heap.size w0 z (n+fuel) l a w:=by
 have h:=aA1 (P:=P) (Q:=NoPanic Q) (S:=fun w'=>∃d,w'=gY w0.heap.size w0 d) (z:=z) (fuel:=fuel) (l0:=l) hnd (fun w' hx=>⟨_,oS (hx.same (aRi _))⟩) hst hsp hdd hend n (B.map (·.op)) l (fun d=>a.tmps.getD d undef) w (by rw [aSv];exact hn.symm) hnd (fun i hi=>hi) hck (fun i=>by rw [if_neg (fun h=>h.2 h.1)]) hw (fun b hb h=>absurd (aTl.2 ⟨b,hb,rfl⟩) h) (fun b hb c hc h=>absurd (aTl.2 ⟨b,hb,rfl⟩) h);rw [aI9] at h;exact h
section
open Go.RowKit Go.Shelf
attribute [local go_sem] aXc
def vE (v:V3):List Value:=[v.x,v.y,v.z]
theorem gK {f:Nat->Int} {i j n X Y Z:Int} (h:evP f i j n=⟨X,Y,Z⟩) (hn:1<=n/\n<=64) (hi:0<=i/\i<=n) (hj:0<=j/\j<=n) (w:World) :
  R_ 166 #[.agg f,i,j,n] w (.agg #[X,Y,Z]):=by
 have:=zY f i j n hn hi hj w;rw [h] at this;exact this
theorem oJ {c:Cam} {x y z lx ly a b d:Int} (h:c.prB ⟨x,y,z⟩ lx ly=true) (hp:c.pr ⟨x,y,z⟩ lx ly=⟨a,b,d⟩) (w:World) :
  R_ 245 #[.agg c,.agg #[x,y,z],lx,ly] w (.tuple #[.agg #[a,b,d],.bool true]):=by
 have:=aD5 c x y z lx ly h w;rw [hp] at this;exact this
theorem oK {c:Cam} {x y z lx ly:Int} (h:c.prB ⟨x,y,z⟩ lx ly=false) (w:World) :
  R_ 245 #[.agg c,.agg #[x,y,z],lx,ly] w (.tuple #[.agg #[(),(),()],.bool false]):=aF9 c x y z lx ly h w
theorem aE.fresh0 {α : Type} {cs : α->List Value} {lo g:Nat} {e:TypeId} {sz:Nat} {w:World} (hl:lo<=g) (h:Blk w g e []):aE cs lo e sz w (.slice (some ⟨g,0,none⟩) 0 0) []:=
 ⟨by simp,.inr ⟨g,0,#[],rfl,hl,h,aRi _,by unfold maxLen;omega,by simp,by simp⟩⟩
theorem aKy:(Tryz.prog.info? 122).map (fun i=>(i.zero,i.size,i.bytes))=some (some (.agg #[(),(),()]),3,24):=by kernel_rfl
theorem aKz (p:V3):∀u∈vE p,u.oneCell'=true:=by
 intro u hu;simp only [vE,aR4,aRz,or_false] at hu
 rcases hu with rfl|rfl|rfl <;> rfl
theorem mE (w:World) {ops:Array Oper} {rest:List Oper} {o:Oper} {a:Act} {Q:Exit->Act->World->Prop} (hg:o.guard=none) (s x:Operand)
  (hop:o.op=Op.call { callee:=Callee.builtin Builtin.append,args:=#[s,x],argTypes:=#[255,255] }) (lo:Nat) (v:Value) (xs:List V3) (hs:a.eval s=v) (hown:aE vE lo 122 3 w v xs)
  (y:V3) (b:Nat) (hx:a.eval x = .slice (some ⟨b,0,none⟩) 1 1) (hcell:∀j,j<3->w.cell? ⟨b,j,none⟩=(vE y)[j]?) (hlen:xs.length<1000000) (hlo:lo<=w.heap.size)
  (hK:∀v' w',aE vE lo 122 3 w' v' (xs++[y])->w.grownBy w' v.ownBlock->wpList aRn ops Q rest (a.put o.dst v') w'):wpList aRn ops Q (o::rest) a w:=
 cX vE 122 3 24 _ w hg s x 255 hop underlying255 aKy rfl (by decide) (by decide) (fun _=>rfl) lo v xs hs hown y b hx hcell (aKz y) hlen hlo hK
theorem aH1 (w:World) (a b d:Int):∀j,j<3->(w.alloc (.cells #[a,b,d] 122)).cell? ⟨w.heap.size,j,none⟩=(vE ⟨a,b,d⟩)[j]?:=by
 intro j hj
 rcases (show j=0\/j=1\/j=2 by omega) with rfl|rfl|rfl <;> simp [go_sem,vE]
def wS (c:Cam) (f:Nat->Int) (n:Nat) (s:Smp) (u v:Nat) (pre:List (Fin 2×Fin 2)):List V3:=pre.map fun p=>dE c f n s (u+(p.1:Nat)) (v+(p.2:Nat))
theorem aJb (c:Cam) (f:Nat->Int) (n:Nat) (s:Smp) (u v:Nat) (pre:List (Fin 2×Fin 2)) (x:Fin 2×Fin 2):wS c f n s u v (pre++[x])=wS c f n s u v pre++[dE c f n s (u+(x.1:Nat)) (v+(x.2:Nat))]:=by unfold wS;rw [List.map_append,List.map_singleton]
def okC (c:Cam) (f:Nat->Int) (n:Nat) (s:Smp) (u v:Nat) (pre:List (Fin 2×Fin 2)):Prop:=∀p∈pre,lW c f n s (u+(p.1:Nat)) (v+(p.2:Nat))=true
def aJc (a b d:V3) (u v n:Int):List Value:=[a.x,a.y,a.z,b.x,b.y,b.z,d.x,d.y,d.z,u,v,n]
def aH2 (c:Cam) (f:Nat->Int) (n:Nat) (s:Smp) (u v:Nat) (lo:Nat) (w:World) (r:Value):Prop:=
 (lX c f n s u v=false/\r = .slice none 0 0) \/
 (lX c f n s u v=true/\∃g,lo<=g/\r = .slice (some ⟨g,0,none⟩) 2 2/\Blk w g 155 (aJc (dE c f n s u v) (dE c f n s (u+1) v) (dE c f n s u (v+1)) u v n++aJc (dE c f n s (u+1) v) (dE c f n s (u+1) (v+1)) (dE c f n s u (v+1)) u v n))
def uN (c:Cam) (f:Nat->Int) (n:Nat) (s:Smp) (u v:Nat) (w:World):List (Nat×TypeId×List Value):=
 [(w.heap.size,35,c),(w.heap.size+1,125,f),(w.heap.size+2,3,[(u:Nat)]),(w.heap.size+3,3,[(v:Nat)]),(w.heap.size+4,3,[(n:Nat)]),(w.heap.size+5,3,[s.lx]),(w.heap.size+6,3,[s.ly]),(w.heap.size+7,148,[.slice none 0 0]),(w.heap.size+10,3,[.int .i64 2])]
theorem aK0 (c:Cam) (f:Nat->Int) (n:Nat) (s:Smp) (u v:Nat) (w:World):∀p∈uN c f n s u v w,p.2.1≠122/\p.1≠w.heap.size+9:=by
 intro p hp;simp only [uN,aR4,aRz,or_false] at hp
 rcases hp with rfl|rfl|rfl|rfl|rfl|rfl|rfl|rfl|rfl <;> exact ⟨by simp,by simp⟩
theorem nO {w:World} {b:Nat} {t:TypeId} {x y z:Value} (h:Blk w b t [x,y,z]):b<w.heap.size/\w.cell? ⟨b,0,none⟩=some x/\w.cell? ⟨b,1,none⟩=some y/\w.cell? ⟨b,2,none⟩=some z/\w.frozen? ⟨b,0,none⟩=false/\w.frozen? ⟨b,1,none⟩=false/\w.frozen? ⟨b,2,none⟩=false:=
 ⟨h.lt,h.cell 0 rfl,h.cell 1 rfl,h.cell 2 rfl,h.free 0,h.free 1,h.free 2⟩
theorem aH3 {c:Cam} {f:Nat->Int} {n:Nat} {s:Smp} {u v i j:Nat} (hi:i<2) (hj:j<2) (h:lW c f n s (u+i) (v+j)=false):lX c f n s u v=false:=by
 unfold lX
 rcases (show i=0\/i=1 by omega) with rfl|rfl <;> rcases (show j=0\/j=1 by omega) with rfl|rfl <;> (try simp only [Nat.add_zero] at h) <;> simp [h]
theorem aK1 {c:Cam} {f:Nat->Int} {n:Nat} {s:Smp} {u v:Nat} (h:okC c f n s u v (cH 2 (by decide) (2*2))):lX c f n s u v=true:=by
 have h0:=h (0,0) (by decide);have h2:=h (1,0) (by decide);have h1:=h (0,1) (by decide);have h3:=h (1,1) (by decide);unfold lX;simp only [aRy];exact ⟨⟨⟨h0,h2⟩,h1⟩,h3⟩
def GB (W:World):Value->World->Prop:=fun v w=>∃b,v = .pointer (some ⟨b,0,none⟩)/\W.heap.size<=b/\Blk w b 122 [(),(),()]
theorem GB.ext {W:World} {v:Value} {w w':World} (h:GB W v w) (x:Ext w w'):GB W v w':=by
 obtain ⟨b,h1,h2,h3⟩:=h;exact ⟨b,h1,h2,h3.ext x⟩
theorem GB.fresh {W:World} {u:Value} {w1:World} (h:GB W u w1) (e:u = .pointer (some ⟨w1.heap.size,0,none⟩)):False:=by
 obtain ⟨b,rfl,h2,h3⟩:=h;simp only [Value.pointer.injEq,aRl,aSr,and_true] at e;have:=h3.lt;omega
theorem tQ {a b:Nat} (h:Value.pointer (some ⟨a,0,none⟩)≠Value.pointer (some ⟨b,0,none⟩)):a≠b:=fun e=>h (by rw [e])
theorem aO1 {n:Nat} (hn:1<=n/\n<=64):(1:Int)<=n/\(n:Int)<=64:=by omega
theorem zZ (c:Cam) (f:Nat->Int) (n:Nat) (s:Smp) (u v:Nat) (hn:1<=n/\n<=64) (hu:u<n) (hv:v<n) (w:World) :
  Calls aRn 210 #[.agg c,.agg f,(u:Nat),(v:Nat),(n:Nat),s.lx,s.ly] w fun e w'=>∃r,e = .returned r/\aH2 c f n s u v w.heap.size w' r/\Ext w w':=by
 have C2:∀W:World,Calls aRn 165 #[.int .i64 2] W fun e w'=>e = .returned (.func (.func 217) #[] #[.pointer (some ⟨W.heap.size,0,none⟩)])/\w'=W.alloc (.cells #[.int .i64 2] 3):=fun W=>(callsIn_wide (n:=0)).1 (tP 2 0 W);have C2:=hid C2;have I1:=hid (aG.2 (aO1 hn));have I2:=hid (aG.2 (show (0:Int)<=u/\(u:Int)<=(n:Int) - 1 by omega));have I3:=hid (aG.2 (show (0:Int)<=v/\(v:Int)<=(n:Int) - 1 by omega));refine (callsIn_wide (n:=3)).1 ?_;refine callsIn_of_wp_marks func210 rfl trivial ?_ rfl;simp only [ntmps210,aWj,aSw,aTu,aUl,aZf,aWl,aWm,aXu,aW3,aTf,aWt];refine wpIn_wide.2 ?_;go_wp2_with (go_at_call 92;with_reducible first|(refine z_ (aL I1.out _) ?_)|(refine z_ (aL I2.out _) ?_)|(refine z_ (aL I3.out _) ?_));refine (C2.out _).mono ?_;rintro e _ ⟨rfl,rfl⟩;go_wp2_with fail;have n0:w.heap.size=w.heap.size+0:=rfl;obtain ⟨V1,hV,q0,x0,n1⟩:=mk_ w c 35 n0;rw [hV];clear hV;obtain ⟨V2,hV,q1,x1,n2⟩:=mk_ V1 f 125 n1;rw [hV];clear hV;obtain ⟨V3,hV,q2,x2,n3⟩:=mk_ V2 [(u:Nat)] 3 n2;rw [hV];clear hV;obtain ⟨V4,hV,q3,x3,n4⟩:=mk_ V3 [(v:Nat)] 3 n3;rw [hV];clear hV;obtain ⟨V5,hV,q4,x4,n5⟩:=mk_ V4 [(n:Nat)] 3 n4;rw [hV];clear hV;obtain ⟨V6,hV,q5,x5,n6⟩:=mk_ V5 [s.lx] 3 n5;rw [hV];clear hV;obtain ⟨V7,hV,q6,x6,n7⟩:=mk_ V6 [s.ly] 3 n6;rw [hV];clear hV;obtain ⟨V8,hV,q7,x7,n8⟩:=mk_ V7 [.slice none 0 0] 148 n7;rw [hV];clear hV;obtain ⟨V9,hV,q8,x8,n9⟩:=mk_ V8 [] 122 n8;rw [hV];clear hV;obtain ⟨k8,hV,q9,x9,j7⟩:=mk_ V9 [.slice (some ⟨w.heap.size+8,0,none⟩) 0 0] 255 n9;rw [hV];clear hV;obtain ⟨k9,hV,i2,j9,j8⟩:=mk_ k8 [.int .i64 2] 3 j7;rw [hV];clear hV;have i4:=j9;have s9:=x9.trans i4;have s8:=x8.trans s9;have s7:=x7.trans s8;have s6:=x6.trans s7;have s5:=x5.trans s6;have s4:=x4.trans s5;have s3:=x3.trans s4;have s2:=x2.trans s3;have s1:=x1.trans s2;have s0:=x0.trans s1;have r0:=q0.ext s1;have r1:=q1.ext s2;have r2:=q2.ext s3;have r3:=q3.ext s4;have r4:=q4.ext s5;have r5:=q5.ext s6;have r6:=q6.ext s7;have r7:=q7.ext s8;have r8:=q8.ext s9;have r9:=q9.ext i4;have i3:=i2;have z0:=j8;have X0:=s0;clear q0 x0 s0 q1 x1 s1 q2 x2 s2 q3 x3 s3 q4 x4 s4 q5 x5 s5 q6 x6 s6 q7 x7 s7 q8 x8 s8 q9 x9 s9 i2 j9 i4 n0 n1 n2 n3 n4 n5 n6 n7 n8 n9 j7 j8
 obtain ⟨W0,g9⟩:∃W0,k9=W0:=⟨_,rfl⟩
 rw [g9] at r0 r1 r2 r3 r4 r5 r6 r7 r8 r9 i3 X0 z0;rw [g9];clear g9
 have g6:RB vE 122 3 255 (fun v=>[v]) w (w.heap.size+9) (uN c f n s u v w) W0 (wS c f n s u v []):=by
  refine ⟨X0,fun p hp=>?_,by omega,_,r9,aE.fresh0 (by omega) r8⟩;simp only [uN,aR4,aRz,or_false] at hp
  rcases hp with rfl|rfl|rfl|rfl|rfl|rfl|rfl|rfl|rfl <;> assumption
 have g6:=hid g6;have NB:=i3.cell 0 rfl;clear r0 r1 r2 r3 r4 r5 r6 r7 r8 r9 i3 X0 C2;refine (wpIn_wide (n:=3)).1 ?_
 refine' wpIn_rangeFunc_ownG rfl (by omega) (gf:=217) (lb:=#[.pointer (some ⟨w.heap.size+10,0,none⟩)]) rfl trivial (enters_of func217 (by kernel_rfl) rfl)
  (oG 2 (by decide) (by decide) _ (w.heap.size+10) W0 (by omega) NB) (fun h k=>KB.trans h k) ?hKb (aX8 _ _) (fun _=>rfl)
  (fun z9 W=>RB vE 122 3 255 (fun v=>[v]) w (w.heap.size+9) (uN c f n s u v w) W (wS c f n s u v z9)/\okC c f n s u v z9)
  (fun cd z9 W=>cd = .ret/\lX c f n s u v=false/\Ext w W/\Blk W (w.heap.size+7) 148 [.slice none 0 0]) ?owns ?ownsx ⟨g6.out,fun p hp=>absurd hp aRz⟩ _ ?assign ?body ?done ?stop
 case hKb=>exact fun W l o o' hl ho _ _=>aUq (by omega)
 case assign=>
  intro l x W K hK
  gi_wp2
  exact hK
 case owns=>exact fun z9 A B row h hg hr=>⟨RB.owns (by omega) (wS c f n s u v) z9 A B row h.1 hg hr,h.2⟩
 case ownsx=>exact fun cd z9 A B row h hg hr=>⟨h.1,h.2.1,h.2.2.1.grown hg (fun k e=>aRq (by omega) (hr k e).1),oH hg (fun r e=>(hr r e).2) h.2.2.2⟩
 case body=>
  intro l z9 x W hI o8;obtain ⟨hI,y9⟩:=hI;have HI:=hid hI;have HA:=hid y9
  obtain ⟨i,hi⟩:∃i:Nat,(x.1:Nat)=i:=⟨_,rfl⟩
  obtain ⟨j,hj⟩:∃i:Nat,(x.2:Nat)=i:=⟨_,rfl⟩
  have o6:i<2:=hi▸x.1.2;have o7:j<2:=hj▸x.2.2
  obtain ⟨X,Y,Z,hE⟩:∃X Y Z,evP f ((u:Int)+(i:Int)) ((v:Int)+(j:Int)) (n:Int)=⟨X,Y,Z⟩:=⟨_,_,_,rfl⟩
  have c6:=hid hE;have N1:=hid (aO1 hn);have N2:=hid (show (0:Int)<=(u:Int)+(i:Int)/\(u:Int)+(i:Int)<=(n:Int) by omega);have N3:=hid (show (0:Int)<=(v:Int)+(j:Int)/\(v:Int)+(j:Int)<=(n:Int) by omega);have ZW:=hI.ext.size;obtain ⟨tv,y4,z8⟩:=hI.tb;have zt:=y4.lt;have m0:=hI.fx _ (.head _);obtain ⟨u1,u2,u3,u4,u5,u6,u7⟩:=m0.q7;have u8:=m0.lt;have m1:=hI.fx _ (.tail _ (.head _));obtain ⟨u9,v4,v5,v6,v7,v9,w0,w2,w3,w4,j5,j6⟩:=m1.q12;have w5:=m1.lt;have m2:=hI.fx _ (.tail _ (.tail _ (.head _)));have w6:=m2.cell 0 rfl;have w7:=m2.lt;have m3:=hI.fx _ (.tail _ (.tail _ (.tail _ (.head _))));have w9:=m3.cell 0 rfl;have m3l:=m3.lt;have m4:=hI.fx _ (.tail _ (.tail _ (.tail _ (.tail _ (.head _)))));have m4c0:=m4.cell 0 rfl;have m4l:=m4.lt;have m5:=hI.fx _ (.tail _ (.tail _ (.tail _ (.tail _ (.tail _ (.head _))))));have m5c0:=m5.cell 0 rfl;have m5l:=m5.lt;have m6:=hI.fx _ (.tail _ (.tail _ (.tail _ (.tail _ (.tail _ (.tail _ (.head _)))))));have m6c0:=m6.cell 0 rfl;have m6l:=m6.lt;have m7:=hI.fx _ (.tail _ (.tail _ (.tail _ (.tail _ (.tail _ (.tail _ (.tail _ (.head _))))))));have i1:=m7.lt;simp only [uN] at u8 w5 w7 m3l m4l m5l m6l i1;rw [hi,hj];clear hE hI y9 y4 z8 m0 m1 m2 m3 m4 m5 m6 m7 zt
  cases hb:c.prB ⟨X,Y,Z⟩ s.lx s.ly
  ·have HB:=hid hb
   clear hb;refine wpIn_block ?_;refine wpIn_seq_k fun K0 HK0=>?_;refine qI 18 W.heap.size (by kernel_rfl) (by kernel_rfl) (fun ⟨_,_,h⟩=>h) ?_;refine z2_ (fuel:=7) [0,1,2,3,4,5,6,7,8,10,11] 9 16 (fun b _ hb=>rfl) (fun K hK=>?n2) fun K hK=>?n3
   case' n2=>
    go_wp2_with fail;refine r_ (gK c6.out N1.out N2.out N3.out _) fun a0 y0=>?_;have u0:Ext W a0:=aRo X_ y0;go_wp2_with fail;refine k_ hK ?_;clear hK K;refine z2_ (fuel:=6) [] 12 16 (fun b _ hb=>aRv u0 (by omega)) (fun K hK=>?n4) fun K hK=>?n5
    case' n4=>
     go_wp2_with fail;refine r_ (oK HB.out _) fun a01 y01=>?_;have d5:Ext W a01:=aRo X_ y01;go_wp2_with fail;refine k_ hK ?_;clear hK K;refine z1_ (fuel:=2) [13,14,15] 16 (fun b _ hb=>aRv d5 (by omega)) fun K hK=>?_;go_wp2;have h9:W.heap.size<=a01.heap.size:=d5.size;refine k_ hK ?_;clear hK K
     obtain ⟨h7,h4⟩:∃d,d=a01.alloc (.cells #[(),(),()] 122):=⟨_,rfl⟩
     rw [<-h4]
     have a5:Ext W h7:=by rw [h4];exact X_
     have y5:Blk h7 a01.heap.size 122 [(),(),()]:=h4▸aRr _ _ _;clear h4;refine z1_ (fuel:=1) [] 17 (fun b _ hb=>aRv a5 (by omega)) fun K hK=>?_;obtain ⟨z0,z1,z2,z3,z4,z5,z6⟩:=nO y5;go_wp2;have a4:=h9;refine hK _ _ (.inr (fun b _ hb=>aRv (w:=W) S_ (by omega))) ?_;clear hK K;refine z1_ (fuel:=0) [] 18 (fun b _ hb=>aRv (w:=W) S_ (by omega)) fun K hK=>?_;go_wp2;refine l_ hK ?_;clear hK K;refine cC (by kernel_rfl) ?_;have h5:=h9;have hE:Ext W (((h7.setCell ⟨a01.heap.size,0,none⟩ ()).setCell ⟨a01.heap.size,1,none⟩ ()).setCell ⟨a01.heap.size,2,none⟩ ()):=aR0 (aR0 (aR0 a5 h5 _) h5 _) h5 _
     have h6:Blk (((h7.setCell ⟨a01.heap.size,0,none⟩ ()).setCell ⟨a01.heap.size,1,none⟩ ()).setCell ⟨a01.heap.size,2,none⟩ ()) (a01.heap.size) 122 [(),(),()]:=(((y5.set 0 (.int .i64 0)).set 1 (.int .i64 0)).set 2 (.int .i64 0))
     clear z0 z1 z2 z3 z4 z5 z6
     obtain ⟨A,hA⟩:∃A,a01.heap.size=A:=⟨_,rfl⟩
     rw [hA] at hE h6 h5 ⊢
     obtain ⟨wx,z7⟩:∃wx,((h7.setCell ⟨A,0,none⟩ ()).setCell ⟨A,1,none⟩ ()).setCell ⟨A,2,none⟩ ()=wx:=⟨_,rfl⟩
     rw [z7] at hE h6 ⊢;clear z7 hA
    case' n5=>
     go_wp2;have y8:W.heap.size<=a0.heap.size:=u0.size;refine k_ hK ?_;clear hK K
     obtain ⟨d2,h8⟩:∃d,d=a0.alloc (.cells #[(),(),()] 122):=⟨_,rfl⟩
     rw [<-h8]
     have i5:Ext W d2:=by rw [h8];exact X_
     have g7:Blk d2 a0.heap.size 122 [(),(),()]:=h8▸aRr _ _ _;clear h8;refine z1_ (fuel:=5) [] 12 (fun b _ hb=>aRv i5 (by omega)) fun K hK=>?_;go_wp2_with fail;refine r_ (oK HB.out _) fun a0A1 y0A1=>?_;have a6:Ext W a0A1:=aRo X_ y0A1;have y6:=g7.ext y0A1;go_wp2_with fail;refine k_ hK ?_;clear hK K;refine z1_ (fuel:=1) [13,14,15] 17 (fun b _ hb=>aRv a6 (by omega)) fun K hK=>?_;obtain ⟨z0,z1,z2,z3,z4,z5,z6⟩:=nO y6;go_wp2;have a4:=y8;refine hK _ _ (.inr (fun b _ hb=>aRv (w:=W) S_ (by omega))) ?_;clear hK K;refine z1_ (fuel:=0) [] 18 (fun b _ hb=>aRv (w:=W) S_ (by omega)) fun K hK=>?_;go_wp2;refine l_ hK ?_;clear hK K;refine cC (by kernel_rfl) ?_;have h5:=y8;have hE:Ext W (((a0A1.setCell ⟨a0.heap.size,0,none⟩ ()).setCell ⟨a0.heap.size,1,none⟩ ()).setCell ⟨a0.heap.size,2,none⟩ ()):=aR0 (aR0 (aR0 a6 h5 _) h5 _) h5 _
     have h6:Blk (((a0A1.setCell ⟨a0.heap.size,0,none⟩ ()).setCell ⟨a0.heap.size,1,none⟩ ()).setCell ⟨a0.heap.size,2,none⟩ ()) (a0.heap.size) 122 [(),(),()]:=(((y6.set 0 (.int .i64 0)).set 1 (.int .i64 0)).set 2 (.int .i64 0))
     clear z0 z1 z2 z3 z4 z5 z6
     obtain ⟨A,hA⟩:∃A,a0.heap.size=A:=⟨_,rfl⟩
     rw [hA] at hE h6 h5 ⊢
     obtain ⟨wx,z7⟩:∃wx,((a0A1.setCell ⟨A,0,none⟩ ()).setCell ⟨A,1,none⟩ ()).setCell ⟨A,2,none⟩ ()=wx:=⟨_,rfl⟩
     rw [z7] at hE h6 ⊢;clear z7 hA
   case' n3=>
    go_wp2;have d3:W.heap.size<=W.heap.size:=aRi _;refine k_ hK ?_;clear hK K
    obtain ⟨dA,c5⟩:∃d,d=(W.alloc (.cells #[(),(),()] 122)).drew:=⟨_,rfl⟩
    rw [<-c5]
    have uA:Ext W dA:=by rw [c5];exact X_
    have bA:Blk dA W.heap.size 122 [(),(),()]:=c5▸(aRr _ _ _).ext (aSk (aRu _));clear c5;refine z1_ (fuel:=6) [] 9 (fun b _ hb=>aRv uA (by omega)) fun K hK=>?_;go_wp2_with fail;refine r_ (gK c6.out N1.out N2.out N3.out _) fun aA0 yA0=>?_;have i6:Ext W aA0:=aRo X_ yA0;have g8:=bA.ext yA0;go_wp2_with fail;refine k_ hK ?_;clear hK K;refine z1_ (fuel:=5) [] 12 (fun b _ hb=>aRv i6 (by omega)) fun K hK=>?_;go_wp2_with fail;refine r_ (oK HB.out _) fun aA01 yA01=>?_;have a7:Ext W aA01:=aRo X_ yA01;have y7:=g8.ext yA01;go_wp2_with fail;refine k_ hK ?_;clear hK K;refine z1_ (fuel:=1) [13,14,15] 17 (fun b _ hb=>aRv a7 (by omega)) fun K hK=>?_;obtain ⟨z0,z1,z2,z3,z4,z5,z6⟩:=nO y7;go_wp2;have a4:=d3;refine hK _ _ (.inr (fun b _ hb=>aRv (w:=W) S_ (by omega))) ?_;clear hK K;refine z1_ (fuel:=0) [] 18 (fun b _ hb=>aRv (w:=W) S_ (by omega)) fun K hK=>?_;go_wp2;refine l_ hK ?_;clear hK K;refine cC (by kernel_rfl) ?_;have h5:=d3;have hE:Ext W (((aA01.setCell ⟨W.heap.size,0,none⟩ ()).setCell ⟨W.heap.size,1,none⟩ ()).setCell ⟨W.heap.size,2,none⟩ ()):=aR0 (aR0 (aR0 a7 h5 _) h5 _) h5 _
    have h6:Blk (((aA01.setCell ⟨W.heap.size,0,none⟩ ()).setCell ⟨W.heap.size,1,none⟩ ()).setCell ⟨W.heap.size,2,none⟩ ()) (W.heap.size) 122 [(),(),()]:=(((y7.set 0 (.int .i64 0)).set 1 (.int .i64 0)).set 2 (.int .i64 0))
    clear z0 z1 z2 z3 z4 z5 z6
    obtain ⟨A,hA⟩:∃A,W.heap.size=A:=⟨_,rfl⟩
    rw [hA] at hE h6 h5 ⊢
    obtain ⟨wx,z7⟩:∃wx,((aA01.setCell ⟨A,0,none⟩ ()).setCell ⟨A,1,none⟩ ()).setCell ⟨A,2,none⟩ ()=wx:=⟨_,rfl⟩
    rw [z7] at hE h6 ⊢;clear z7 hA
   all_goals
    have T2:=hid (HI.out.to hE);have y0:=h6.lt;have y1:=h6.cell 0 rfl;have y2:=h6.cell 1 rfl;have y3:=h6.cell 2 rfl;refine HK0 _ _ (wpIn_seq_k fun K1 HK1=>?_);refine wpIn_seq_k fun K2 HK2=>?_;refine eG (by kernel_rfl) (fun ⟨_,_,h⟩=>h) ?_;go_wp2_with fail;refine wpIn_cond_true rfl ?_;refine wpIn_seq_k fun K3 HK3=>?_;refine eG (by kernel_rfl) (fun ⟨_,_,h⟩=>h) ?_;have e7:=T2.out.fx _ (.tail _ (.tail _ (.tail _ (.tail _ (.tail _ (.tail _ (.tail _ (.head _))))))));have g0:=e7.cell 0 rfl;have g1:=e7.free 0;have g2:=e7.lt;have E2:=hid hE;have k6:=hid e7;clear hE e7;simp only [uN] at g0 g1 g2;go_wp2_with fail;refine wpIn_ret ?_
    have i0:lW c f n s (u+i) (v+j)=false:=by unfold lW;rw [aTn,aTn,c6.out,HB.out]
    refine ⟨((Ext.others E2.out).trans (aV1 _ _ _)).from _,rfl,aH3 o6 o7 i0,aR0 T2.out.ext (by first|omega|(simp only;omega)|(simp;omega)) _,?_⟩;exact k6.out.set 0 _
  ·have HB:=hid hb
   obtain ⟨a,b,d,hP⟩:∃a b d,c.pr ⟨X,Y,Z⟩ s.lx s.ly=⟨a,b,d⟩:=⟨_,_,_,rfl⟩
   have HP:=hid hP;clear hb hP;refine wpIn_block ?_;refine wpIn_seq_k fun K0 HK0=>?_;refine qI 18 W.heap.size (by kernel_rfl) (by kernel_rfl) (fun ⟨_,_,h⟩=>h) ?_;refine z2_ (fuel:=7) [0,1,2,3,4,5,6,7,8,10,11] 9 16 (fun b _ hb=>rfl) (fun K hK=>?p2) fun K hK=>?p3
   case' p2=>
    go_wp2_with fail;refine r_ (gK c6.out N1.out N2.out N3.out _) fun a0 y0=>?_;have u0:Ext W a0:=aRo X_ y0;go_wp2_with fail;refine k_ hK ?_;clear hK K;refine z2_ (fuel:=6) [] 12 16 (fun b _ hb=>aRv u0 (by omega)) (fun K hK=>?p4) fun K hK=>?p5
    case' p4=>
     go_wp2_with fail;refine r_ (oJ HB.out HP.out _) fun a01 y01=>?_;have d5:Ext W a01:=aRo X_ y01;go_wp2_with fail;refine k_ hK ?_;clear hK K;refine z1_ (fuel:=2) [13,14,15] 16 (fun b _ hb=>aRv d5 (by omega)) fun K hK=>?_;go_wp2;have h9:W.heap.size<=a01.heap.size:=d5.size;refine k_ hK ?_;clear hK K
     obtain ⟨h7,h4⟩:∃d,d=a01.alloc (.cells #[(),(),()] 122):=⟨_,rfl⟩
     rw [<-h4]
     have a5:Ext W h7:=by rw [h4];exact X_
     have y5:Blk h7 a01.heap.size 122 [(),(),()]:=h4▸aRr _ _ _;clear h4;refine z1_ (fuel:=1) [] 17 (fun b _ hb=>aRv a5 (by omega)) fun K hK=>?_;obtain ⟨z0,z1,z2,z3,z4,z5,z6⟩:=nO y5;go_wp2;have a4:=h9;refine hK _ _ (.inr (fun b _ hb=>aRv (w:=W) S_ (by omega))) ?_;clear hK K;refine z1_ (fuel:=0) [] 18 (fun b _ hb=>aRv (w:=W) S_ (by omega)) fun K hK=>?_;go_wp2;refine l_ hK ?_;clear hK K;refine cC (by kernel_rfl) ?_;have h5:=h9;have hE:Ext W (((h7.setCell ⟨a01.heap.size,0,none⟩ a).setCell ⟨a01.heap.size,1,none⟩ b).setCell ⟨a01.heap.size,2,none⟩ d):=aR0 (aR0 (aR0 a5 h5 _) h5 _) h5 _
     have h6:Blk (((h7.setCell ⟨a01.heap.size,0,none⟩ a).setCell ⟨a01.heap.size,1,none⟩ b).setCell ⟨a01.heap.size,2,none⟩ d) (a01.heap.size) 122 [a,b,d]:=(((y5.set 0 (.int .i64 a)).set 1 (.int .i64 b)).set 2 (.int .i64 d))
     clear z0 z1 z2 z3 z4 z5 z6
     obtain ⟨A,hA⟩:∃A,a01.heap.size=A:=⟨_,rfl⟩
     rw [hA] at hE h6 h5 ⊢
     obtain ⟨wx,z7⟩:∃wx,((h7.setCell ⟨A,0,none⟩ a).setCell ⟨A,1,none⟩ b).setCell ⟨A,2,none⟩ d=wx:=⟨_,rfl⟩
     rw [z7] at hE h6 ⊢;clear z7 hA
    case' p5=>
     go_wp2;have y8:W.heap.size<=a0.heap.size:=u0.size;refine k_ hK ?_;clear hK K
     obtain ⟨d2,h8⟩:∃d,d=a0.alloc (.cells #[(),(),()] 122):=⟨_,rfl⟩
     rw [<-h8]
     have i5:Ext W d2:=by rw [h8];exact X_
     have g7:Blk d2 a0.heap.size 122 [(),(),()]:=h8▸aRr _ _ _;clear h8;refine z1_ (fuel:=5) [] 12 (fun b _ hb=>aRv i5 (by omega)) fun K hK=>?_;go_wp2_with fail;refine r_ (oJ HB.out HP.out _) fun a0A1 y0A1=>?_;have a6:Ext W a0A1:=aRo X_ y0A1;have y6:=g7.ext y0A1;go_wp2_with fail;refine k_ hK ?_;clear hK K;refine z1_ (fuel:=1) [13,14,15] 17 (fun b _ hb=>aRv a6 (by omega)) fun K hK=>?_;obtain ⟨z0,z1,z2,z3,z4,z5,z6⟩:=nO y6;go_wp2;have a4:=y8;refine hK _ _ (.inr (fun b _ hb=>aRv (w:=W) S_ (by omega))) ?_;clear hK K;refine z1_ (fuel:=0) [] 18 (fun b _ hb=>aRv (w:=W) S_ (by omega)) fun K hK=>?_;go_wp2;refine l_ hK ?_;clear hK K;refine cC (by kernel_rfl) ?_;have h5:=y8;have hE:Ext W (((a0A1.setCell ⟨a0.heap.size,0,none⟩ a).setCell ⟨a0.heap.size,1,none⟩ b).setCell ⟨a0.heap.size,2,none⟩ d):=aR0 (aR0 (aR0 a6 h5 _) h5 _) h5 _
     have h6:Blk (((a0A1.setCell ⟨a0.heap.size,0,none⟩ a).setCell ⟨a0.heap.size,1,none⟩ b).setCell ⟨a0.heap.size,2,none⟩ d) (a0.heap.size) 122 [a,b,d]:=(((y6.set 0 (.int .i64 a)).set 1 (.int .i64 b)).set 2 (.int .i64 d))
     clear z0 z1 z2 z3 z4 z5 z6
     obtain ⟨A,hA⟩:∃A,a0.heap.size=A:=⟨_,rfl⟩
     rw [hA] at hE h6 h5 ⊢
     obtain ⟨wx,z7⟩:∃wx,((a0A1.setCell ⟨A,0,none⟩ a).setCell ⟨A,1,none⟩ b).setCell ⟨A,2,none⟩ d=wx:=⟨_,rfl⟩
     rw [z7] at hE h6 ⊢;clear z7 hA
   case' p3=>
    go_wp2;have d3:W.heap.size<=W.heap.size:=aRi _;refine k_ hK ?_;clear hK K
    obtain ⟨dA,c5⟩:∃d,d=(W.alloc (.cells #[(),(),()] 122)).drew:=⟨_,rfl⟩
    rw [<-c5]
    have uA:Ext W dA:=by rw [c5];exact X_
    have bA:Blk dA W.heap.size 122 [(),(),()]:=c5▸(aRr _ _ _).ext (aSk (aRu _));clear c5;refine z1_ (fuel:=6) [] 9 (fun b _ hb=>aRv uA (by omega)) fun K hK=>?_;go_wp2_with fail;refine r_ (gK c6.out N1.out N2.out N3.out _) fun aA0 yA0=>?_;have i6:Ext W aA0:=aRo X_ yA0;have g8:=bA.ext yA0;go_wp2_with fail;refine k_ hK ?_;clear hK K;refine z1_ (fuel:=5) [] 12 (fun b _ hb=>aRv i6 (by omega)) fun K hK=>?_;go_wp2_with fail;refine r_ (oJ HB.out HP.out _) fun aA01 yA01=>?_;have a7:Ext W aA01:=aRo X_ yA01;have y7:=g8.ext yA01;go_wp2_with fail;refine k_ hK ?_;clear hK K;refine z1_ (fuel:=1) [13,14,15] 17 (fun b _ hb=>aRv a7 (by omega)) fun K hK=>?_;obtain ⟨z0,z1,z2,z3,z4,z5,z6⟩:=nO y7;go_wp2;have a4:=d3;refine hK _ _ (.inr (fun b _ hb=>aRv (w:=W) S_ (by omega))) ?_;clear hK K;refine z1_ (fuel:=0) [] 18 (fun b _ hb=>aRv (w:=W) S_ (by omega)) fun K hK=>?_;go_wp2;refine l_ hK ?_;clear hK K;refine cC (by kernel_rfl) ?_;have h5:=d3;have hE:Ext W (((aA01.setCell ⟨W.heap.size,0,none⟩ a).setCell ⟨W.heap.size,1,none⟩ b).setCell ⟨W.heap.size,2,none⟩ d):=aR0 (aR0 (aR0 a7 h5 _) h5 _) h5 _
    have h6:Blk (((aA01.setCell ⟨W.heap.size,0,none⟩ a).setCell ⟨W.heap.size,1,none⟩ b).setCell ⟨W.heap.size,2,none⟩ d) (W.heap.size) 122 [a,b,d]:=(((y7.set 0 (.int .i64 a)).set 1 (.int .i64 b)).set 2 (.int .i64 d))
    clear z0 z1 z2 z3 z4 z5 z6
    obtain ⟨A,hA⟩:∃A,W.heap.size=A:=⟨_,rfl⟩
    rw [hA] at hE h6 h5 ⊢
    obtain ⟨wx,z7⟩:∃wx,((aA01.setCell ⟨A,0,none⟩ a).setCell ⟨A,1,none⟩ b).setCell ⟨A,2,none⟩ d=wx:=⟨_,rfl⟩
    rw [z7] at hE h6 ⊢;clear z7 hA
   all_goals
    have T2:=hid (HI.out.to hE);have y0:=h6.lt;have y1:=h6.cell 0 rfl;have y2:=h6.cell 1 rfl;have y3:=h6.cell 2 rfl;refine HK0 _ _ (wpIn_seq_k fun K1 HK1=>?_);refine wpIn_seq_k fun K2 HK2=>?_;refine eG (by kernel_rfl) (fun ⟨_,_,h⟩=>h) ?_;go_wp2_with fail;refine wpIn_cond_false rfl ?_;refine wpIn_skip ?_;refine HK1 _ _ ?_;refine eG (by kernel_rfl) (fun ⟨_,_,h⟩=>h) ?_;obtain ⟨tv,y4,z8⟩:=T2.out.tb;obtain ⟨ta,tc,rfl,tlen⟩:=aE.form z8;have g0:=y4.cell 0 rfl;have gl:=y4.lt
    have j0:(wS c f n s u v z9).length=z9.length:=by unfold wS;rw [aSv]
    have k7:=hid j0;have E2:=hid hE;clear j0 hE;go_wp2_with (at_builtin;refine mE _ rfl _ _ rfl w.heap.size _ (wS c f n s u v z9) rfl (aE.ext z8 X_) ⟨a,b,d⟩ wx.heap.size rfl (aH1 wx a b d) (by rw [k7.out];omega) (by have:=T2.out.ext.size;simp;omega) ?_;intro v8 w8 d4 hg;obtain ⟨va,vc,rfl,_⟩:=aE.form d4;have g1:=(y4.ext (show Ext wx (wx.alloc (.cells #[a,b,d] 122)) from X_)).grown hg (bY y4 (by decide) z8);have g2:=g1.cell 0 rfl;have g3:=g1.free 0;have g4:=g1.lt)
    have o5:dE c f n s (u+(x.1:Nat)) (v+(x.2:Nat))=⟨a,b,d⟩:=by unfold dE;rw [hi,hj,aTn,aTn,c6.out,HP.out]
    have i0:lW c f n s (u+(x.1:Nat)) (v+(x.2:Nat))=true:=by unfold lW;rw [hi,hj,aTn,aTn,c6.out,HB.out]
    have T4:=T2.out.push (aK0 c f n s u v w) (by decide) 0 rfl y4 z8 (show Ext wx (wx.alloc (.cells #[a,b,d] 122)) from X_) hg d4;simp only [aSa,aSw,aTu,aSf] at T4;refine ⟨((((Ext.others E2.out).trans (KeepsOthers.alloc _ _)).trans (aXp hg (aCg (Ext.alloc (aRu _) _) z8))).trans (aV1 _ _ _)).from _,(T4.fx _ (.tail _ (.tail _ (.tail _ (.tail _ (.tail _ (.tail _ (.tail _ (.tail _ (.head _)))))))))).trans (HI.out.fx _ (.tail _ (.tail _ (.tail _ (.tail _ (.tail _ (.tail _ (.tail _ (.tail _ (.head _)))))))))).symm,?_,?_⟩
    ·show RB _ _ _ _ _ _ _ _ _ (wS c f n s u v (z9++[x]))
     rw [aJb,o5];exact T4
    ·intro p hp
     rw [aTz,List.mem_singleton] at hp
     rcases hp with hp|rfl
     ·exact HA.out p hp
     ·exact i0
 case done=>
  rintro D ys W hD rfl ⟨hI,y9⟩ hK;have i9:lX c f n s u v=true:=aK1 y9;have k1:=hid i9;have HK:=hid hK;have hp:wS c f n s u v (cH 2 (by decide) (2*2))=[dE c f n s u v,dE c f n s (u+1) v,dE c f n s u (v+1),dE c f n s (u+1) (v+1)]:=rfl;rw [hp] at hI
  obtain ⟨⟨x0,y0,s0⟩,e0⟩:∃p,dE c f n s u v=p:=⟨_,rfl⟩
  rw [e0] at hI;have k2:=hid e0
  obtain ⟨⟨x1,y1,s1⟩,e1⟩:∃p,dE c f n s (u+1) v=p:=⟨_,rfl⟩
  rw [e1] at hI;have k3:=hid e1
  obtain ⟨⟨x2,y2,s2⟩,e2⟩:∃p,dE c f n s u (v+1)=p:=⟨_,rfl⟩
  rw [e2] at hI;have k4:=hid e2
  obtain ⟨⟨x3,y3,s3⟩,e3⟩:∃p,dE c f n s (u+1) (v+1)=p:=⟨_,rfl⟩
  rw [e3] at hI;have k5:=hid e3;have HI:=hid hI;obtain ⟨tv,y4,z8⟩:=hI.tb;obtain ⟨g,tc,rfl,gl,gw,i8,gtc,-,c0⟩:=aE.at z8 (fun _=>rfl) (i:=0) rfl;obtain ⟨g1,tc1,he,-,-,-,-,-,c1⟩:=aE.at z8 (fun _=>rfl) (i:=1) rfl;simp only [aSb,aRl,aSr,and_true,true_and] at he;obtain ⟨rfl,rfl⟩:=he;obtain ⟨g2,tc2,he,-,-,-,-,-,c2⟩:=aE.at z8 (fun _=>rfl) (i:=2) rfl;simp only [aSb,aRl,aSr,and_true,true_and] at he;obtain ⟨rfl,rfl⟩:=he;obtain ⟨g3,tc3,he,-,-,-,-,-,c3⟩:=aE.at z8 (fun _=>rfl) (i:=3) rfl;simp only [aSb,aRl,aSr,and_true,true_and] at he;obtain ⟨rfl,rfl⟩:=he;have p00:W.cell? ⟨g,0,none⟩=some (.int .i64 x0):=c0 0 (by decide);have p01:W.cell? ⟨g,1,none⟩=some (.int .i64 y0):=c0 1 (by decide);have p02:W.cell? ⟨g,2,none⟩=some (.int .i64 s0):=c0 2 (by decide);have p10:W.cell? ⟨g,3,none⟩=some (.int .i64 x1):=c1 0 (by decide);have p11:W.cell? ⟨g,4,none⟩=some (.int .i64 y1):=c1 1 (by decide);have p12:W.cell? ⟨g,5,none⟩=some (.int .i64 s1):=c1 2 (by decide);have p20:W.cell? ⟨g,6,none⟩=some (.int .i64 x2):=c2 0 (by decide);have p21:W.cell? ⟨g,7,none⟩=some (.int .i64 y2):=c2 1 (by decide);have p22:W.cell? ⟨g,8,none⟩=some (.int .i64 s2):=c2 2 (by decide);have p30:W.cell? ⟨g,9,none⟩=some (.int .i64 x3):=c3 0 (by decide);have p31:W.cell? ⟨g,10,none⟩=some (.int .i64 y3):=c3 1 (by decide);have p32:W.cell? ⟨g,11,none⟩=some (.int .i64 s3):=c3 2 (by decide);have t0:W.cell? ⟨w.heap.size+9,0,none⟩=some (.slice (some ⟨g,0,none⟩) 4 tc):=y4.cell 0 rfl;have tl:=y4.lt;have o4:4<=tc:=i8;clear hI y9 hK y4 z8 c0 c1 c2 c3 i8 hp i9 e0 e1 e2 e3;go_wp2_with fail;refine dI 19 W.heap.size (by kernel_rfl) ?_;refine aJa (fuel:=8) [0,1,2,3,4,5,6,7,8,9,10,11] (by kernel_rfl) (fun b _ hb=>rfl) ?_
  try simp only [Act.put,aRp,aRx,aRw]
  simp only [aR8,aR1,aRm,aRg,aRh]
  show wpQuiet _ _ _ _ [_,_,_,_,_,_,_,_,_,_,_,_] _
  repeat (go_big_quiet_step (fail))
  refine wpQuiet_nil ?_;refine aGa (fuel:=4) [⟨12,20,GB W⟩,⟨13,21,GB W⟩,⟨14,22,GB W⟩,⟨15,23,GB W⟩] 4 rfl (aSk (aRu _)) (by kernel_rfl) (by simp) (by simp) ?_ ?_ ?_
  ·intro b hb v w w' h x
   simp only [aR4,aRz,or_false] at hb
   rcases hb with rfl|rfl|rfl|rfl <;> exact GB.ext h x
  ·intro b hb us w1 d6
   simp only [aR4,aRz,or_false] at hb
   rcases hb with rfl|rfl|rfl|rfl
   all_goals
    refine ⟨_,rfl,fun K hK=>?_⟩;simp only [aTr,aWv,lN,Act.put,aRp,aRx,aRw] at hK ⊢;go_wp2;refine hK _ _ X_ ⟨w1.heap.size,rfl,d6.size,aRr _ _ _⟩ (fun c hc u hu e=>?_);simp only [aR4,aRz,or_false] at hc
    rcases hc with rfl|rfl|rfl|rfl <;> exact GB.fresh hu e.symm
  ·intro us w1 d6 hg c7
   obtain ⟨a0,h0,l0,b0⟩:=hg ⟨12,20,GB W⟩ (by simp);obtain ⟨a1,h1,l1,b1⟩:=hg ⟨13,21,GB W⟩ (by simp);obtain ⟨a2,h2,l2,b2⟩:=hg ⟨14,22,GB W⟩ (by simp);obtain ⟨a3,h3,l3,b3⟩:=hg ⟨15,23,GB W⟩ (by simp);have b5:=c7 ⟨12,20,GB W⟩ (by simp) ⟨13,21,GB W⟩ (by simp) (by simp);have b6:=c7 ⟨12,20,GB W⟩ (by simp) ⟨14,22,GB W⟩ (by simp) (by simp);have b7:=c7 ⟨12,20,GB W⟩ (by simp) ⟨15,23,GB W⟩ (by simp) (by simp);have b8:=c7 ⟨13,21,GB W⟩ (by simp) ⟨14,22,GB W⟩ (by simp) (by simp);have b9:=c7 ⟨13,21,GB W⟩ (by simp) ⟨15,23,GB W⟩ (by simp) (by simp);have c4:=c7 ⟨14,22,GB W⟩ (by simp) ⟨15,23,GB W⟩ (by simp) (by simp);simp only at h0 h1 h2 h3 b5 b6 b7 b8 b9 c4;rw [h0,h1] at b5;rw [h0,h2] at b6;rw [h0,h3] at b7;rw [h1,h2] at b8;rw [h1,h3] at b9;rw [h2,h3] at c4;replace b5:=tQ b5;replace b6:=tQ b6;replace b7:=tQ b7;replace b8:=tQ b8;replace b9:=tQ b9;replace c4:=tQ c4;simp only [aTr,aWv,lN,Act.put,aRp,aRx,aRw,h0,h1,h2,h3];clear h0 h1 h2 h3 hg c7 p00 p01 p02 p10 p11 p12 p20 p21 p22 p30 p31 p32 t0 tl;have l4:=b0.free 0;have l5:=b0.free 1;have l6:=b0.free 2;have o9:=b0.cell 0 rfl;have p0:=b0.cell 1 rfl;have p1:=b0.cell 2 rfl;have t6:=b0.lt;refine z1_ (fuel:=3) [] 16 (fun b _ hb=>aRv d6 hb) fun K hK=>?_;go_wp2;have X0:Ext W (((w1.setCell ⟨a0,0,none⟩ x0).setCell ⟨a0,1,none⟩ y0).setCell ⟨a0,2,none⟩ s0):=aR0 (aR0 (aR0 d6 l0 _) l0 _) l0 _;have d7:=((b0.set 0 (.int .i64 x0)).set 1 (.int .i64 y0)).set 2 (.int .i64 s0);have a8:=((b1.other (a:=⟨a0,0,none⟩) b5.symm (.int .i64 x0)).other (a:=⟨a0,1,none⟩) b5.symm (.int .i64 y0)).other (a:=⟨a0,2,none⟩) b5.symm (.int .i64 s0);have d8:=((b2.other (a:=⟨a0,0,none⟩) b6.symm (.int .i64 x0)).other (a:=⟨a0,1,none⟩) b6.symm (.int .i64 y0)).other (a:=⟨a0,2,none⟩) b6.symm (.int .i64 s0);have d9:=((b3.other (a:=⟨a0,0,none⟩) b7.symm (.int .i64 x0)).other (a:=⟨a0,1,none⟩) b7.symm (.int .i64 y0)).other (a:=⟨a0,2,none⟩) b7.symm (.int .i64 s0);refine hK _ _ (.inr (fun b _ hb=>aRv X0 hb)) ?_;clear hK K l4 l5 l6 o9 p0 p1 t6 b0 b1 b2 b3
   obtain ⟨v0,j1⟩:∃w,((w1.setCell ⟨a0,0,none⟩ x0).setCell ⟨a0,1,none⟩ y0).setCell ⟨a0,2,none⟩ s0=w:=⟨_,rfl⟩
   rw [j1] at d7 a8 d8 d9 X0 ⊢;clear j1;have l7:=a8.free 0;have l8:=a8.free 1;have l9:=a8.free 2;have p6:=a8.cell 0 rfl;have p7:=a8.cell 1 rfl;have p8:=a8.cell 2 rfl;have t7:=a8.lt;refine z1_ (fuel:=2) [] 17 (fun b _ hb=>aRv X0 hb) fun K hK=>?_;go_wp2;have X1:Ext W (((v0.setCell ⟨a1,0,none⟩ x1).setCell ⟨a1,1,none⟩ y1).setCell ⟨a1,2,none⟩ s1):=aR0 (aR0 (aR0 X0 l1 _) l1 _) l1 _;have e4:=((d7.other (a:=⟨a1,0,none⟩) b5 (.int .i64 x1)).other (a:=⟨a1,1,none⟩) b5 (.int .i64 y1)).other (a:=⟨a1,2,none⟩) b5 (.int .i64 s1);have e5:=((a8.set 0 (.int .i64 x1)).set 1 (.int .i64 y1)).set 2 (.int .i64 s1);have a9:=((d8.other (a:=⟨a1,0,none⟩) b8.symm (.int .i64 x1)).other (a:=⟨a1,1,none⟩) b8.symm (.int .i64 y1)).other (a:=⟨a1,2,none⟩) b8.symm (.int .i64 s1);have e6:=((d9.other (a:=⟨a1,0,none⟩) b9.symm (.int .i64 x1)).other (a:=⟨a1,1,none⟩) b9.symm (.int .i64 y1)).other (a:=⟨a1,2,none⟩) b9.symm (.int .i64 s1);refine hK _ _ (.inr (fun b _ hb=>aRv X1 hb)) ?_;clear hK K l7 l8 l9 p6 p7 p8 t7 d7 a8 d8 d9
   obtain ⟨v1,j2⟩:∃w,((v0.setCell ⟨a1,0,none⟩ x1).setCell ⟨a1,1,none⟩ y1).setCell ⟨a1,2,none⟩ s1=w:=⟨_,rfl⟩
   rw [j2] at e4 e5 a9 e6 X1 ⊢;clear j2 X0;have m8:=a9.free 0;have m9:=a9.free 1;have o0:=a9.free 2;have p9:=a9.cell 0 rfl;have t1:=a9.cell 1 rfl;have t2:=a9.cell 2 rfl;have t8:=a9.lt;refine z1_ (fuel:=1) [] 18 (fun b _ hb=>aRv X1 hb) fun K hK=>?_;go_wp2;have X2:Ext W (((v1.setCell ⟨a2,0,none⟩ x2).setCell ⟨a2,1,none⟩ y2).setCell ⟨a2,2,none⟩ s2):=aR0 (aR0 (aR0 X1 l2 _) l2 _) l2 _;have e8:=((e4.other (a:=⟨a2,0,none⟩) b6 (.int .i64 x2)).other (a:=⟨a2,1,none⟩) b6 (.int .i64 y2)).other (a:=⟨a2,2,none⟩) b6 (.int .i64 s2);have e9:=((e5.other (a:=⟨a2,0,none⟩) b8 (.int .i64 x2)).other (a:=⟨a2,1,none⟩) b8 (.int .i64 y2)).other (a:=⟨a2,2,none⟩) b8 (.int .i64 s2);have g5:=((a9.set 0 (.int .i64 x2)).set 1 (.int .i64 y2)).set 2 (.int .i64 s2);have b4:=((e6.other (a:=⟨a2,0,none⟩) c4.symm (.int .i64 x2)).other (a:=⟨a2,1,none⟩) c4.symm (.int .i64 y2)).other (a:=⟨a2,2,none⟩) c4.symm (.int .i64 s2);refine hK _ _ (.inr (fun b _ hb=>aRv X2 hb)) ?_;clear hK K m8 m9 o0 p9 t1 t2 t8 e4 e5 a9 e6
   obtain ⟨v2,j3⟩:∃w,((v1.setCell ⟨a2,0,none⟩ x2).setCell ⟨a2,1,none⟩ y2).setCell ⟨a2,2,none⟩ s2=w:=⟨_,rfl⟩
   rw [j3] at e8 e9 g5 b4 X2 ⊢;clear j3 X1;have o1:=b4.free 0;have o2:=b4.free 1;have o3:=b4.free 2;have t3:=b4.cell 0 rfl;have t4:=b4.cell 1 rfl;have t5:=b4.cell 2 rfl;have t9:=b4.lt;refine z1_ (fuel:=0) [] 19 (fun b _ hb=>aRv X2 hb) fun K hK=>?_;go_wp2;have X3:Ext W (((v2.setCell ⟨a3,0,none⟩ x3).setCell ⟨a3,1,none⟩ y3).setCell ⟨a3,2,none⟩ s3):=aR0 (aR0 (aR0 X2 l3 _) l3 _) l3 _;have c8:=((e8.other (a:=⟨a3,0,none⟩) b7 (.int .i64 x3)).other (a:=⟨a3,1,none⟩) b7 (.int .i64 y3)).other (a:=⟨a3,2,none⟩) b7 (.int .i64 s3);have c9:=((e9.other (a:=⟨a3,0,none⟩) b9 (.int .i64 x3)).other (a:=⟨a3,1,none⟩) b9 (.int .i64 y3)).other (a:=⟨a3,2,none⟩) b9 (.int .i64 s3);have d0:=((g5.other (a:=⟨a3,0,none⟩) c4 (.int .i64 x3)).other (a:=⟨a3,1,none⟩) c4 (.int .i64 y3)).other (a:=⟨a3,2,none⟩) c4 (.int .i64 s3);have d1:=((b4.set 0 (.int .i64 x3)).set 1 (.int .i64 y3)).set 2 (.int .i64 s3);refine l_ hK ?_;clear hK K o1 o2 o3 t3 t4 t5 t9 e8 e9 g5 b4
   obtain ⟨v3,j4⟩:∃w,((v2.setCell ⟨a3,0,none⟩ x3).setCell ⟨a3,1,none⟩ y3).setCell ⟨a3,2,none⟩ s3=w:=⟨_,rfl⟩
   rw [j4] at c8 c9 d0 d1 X3 ⊢;clear j4 X2;refine cC (by kernel_rfl) ?_;have q00:=c8.cell 0 rfl;have q01:=c8.cell 1 rfl;have q02:=c8.cell 2 rfl;have ql0:=c8.lt;have i2:=c9.cell 0 rfl;have q11:=c9.cell 1 rfl;have q12:=c9.cell 2 rfl;have ql1:=c9.lt;have q20:=d0.cell 0 rfl;have q21:=d0.cell 1 rfl;have q22:=d0.cell 2 rfl;have ql2:=d0.lt;have q30:=d1.cell 0 rfl;have q31:=d1.cell 1 rfl;have q32:=d1.cell 2 rfl;have ql3:=d1.lt;have T:=hid (HI.out.to X3);have XT:=hid X3;have HD:v3.heap[D]?=some (.deferred (some [])):=(X3.block (gS HK.out)).trans HK.out;have i7:=hid HD;have m2:=(T.out.fx _ (.tail _ (.tail _ (.head _)))).cell 0 rfl;have m3:=(T.out.fx _ (.tail _ (.tail _ (.tail _ (.head _))))).cell 0 rfl;have m4:=(T.out.fx _ (.tail _ (.tail _ (.tail _ (.tail _ (.head _)))))).cell 0 rfl;have m7:=T.out.fx _ (.tail _ (.tail _ (.tail _ (.tail _ (.tail _ (.tail _ (.tail _ (.head _))))))));have m7c:=m7.cell 0 rfl;have m7f:=m7.free 0;have i1:=m7.lt;have M7:=hid m7;have zX:=X3.size;clear X3 HD m7 c8 c9 d0 d1;simp only [uN] at m2 m3 m4 m7c m7f i1;go_wp2;have BF:=aRr (v3.setCell ⟨w.heap.size+7,0,none⟩ (.slice (some ⟨v3.heap.size,0,none⟩) 2 2)) 155 [x0,y0,s0,x1,y1,s1,x2,y2,s2,(u:Nat),(v:Nat),(n:Nat),x1,y1,s1,x3,y3,s3,x2,y2,s2,(u:Nat),(v:Nat),(n:Nat)];rw [aS6] at BF;have R7:=(M7.out.set 0 (.slice (some ⟨v3.heap.size,0,none⟩) 2 2)).alloc (.cells #[x0,y0,s0,x1,y1,s1,x2,y2,s2,(u:Nat),(v:Nat),(n:Nat),x1,y1,s1,x3,y3,s3,x2,y2,s2,(u:Nat),(v:Nat),(n:Nat)] 155);have XF:Ext w ((v3.setCell ⟨w.heap.size+7,0,none⟩ (.slice (some ⟨v3.heap.size,0,none⟩) 2 2)).alloc (.cells #[x0,y0,s0,x1,y1,s1,x2,y2,s2,(u:Nat),(v:Nat),(n:Nat),x1,y1,s1,x3,y3,s3,x2,y2,s2,(u:Nat),(v:Nat),(n:Nat)] 155)):=Ext.alloc (aR0 T.out.ext (by simp only;omega) _) _;have dl:=gS i7.out;have DF:((v3.setCell ⟨w.heap.size+7,0,none⟩ (.slice (some ⟨v3.heap.size,0,none⟩) 2 2)).alloc (.cells #[x0,y0,s0,x1,y1,s1,x2,y2,s2,(u:Nat),(v:Nat),(n:Nat),x1,y1,s1,x3,y3,s3,x2,y2,s2,(u:Nat),(v:Nat),(n:Nat)] 155)).heap[D]?=some (.deferred (some [])):=(aRv (w:=(v3.setCell ⟨w.heap.size+7,0,none⟩ (.slice (some ⟨v3.heap.size,0,none⟩) 2 2))) X_ (by rw [aS6];exact dl)).trans ((aRt _ _ _ _ (by simp only;omega)).trans i7.out);have gp:(((v3.setCell ⟨w.heap.size+7,0,none⟩ (.slice (some ⟨v3.heap.size,0,none⟩) 2 2)).alloc (.cells #[x0,y0,s0,x1,y1,s1,x2,y2,s2,(u:Nat),(v:Nat),(n:Nat),x1,y1,s1,x3,y3,s3,x2,y2,s2,(u:Nat),(v:Nat),(n:Nat)] 155)).putObj D (Obj.deferred none)).cell? ⟨w.heap.size+7,0,none⟩=some (.slice (some ⟨v3.heap.size,0,none⟩) 2 2):=(aS3 (w:=((v3.setCell ⟨w.heap.size+7,0,none⟩ (.slice (some ⟨v3.heap.size,0,none⟩) 2 2)).alloc (.cells #[x0,y0,s0,x1,y1,s1,x2,y2,s2,(u:Nat),(v:Nat),(n:Nat),x1,y1,s1,x3,y3,s3,x2,y2,s2,(u:Nat),(v:Nat),(n:Nat)] 155))) (aUq (by simp only;omega))).trans (R7.cell 0 rfl);have k0:Blk (((v3.setCell ⟨w.heap.size+7,0,none⟩ (.slice (some ⟨v3.heap.size,0,none⟩) 2 2)).alloc (.cells #[x0,y0,s0,x1,y1,s1,x2,y2,s2,(u:Nat),(v:Nat),(n:Nat),x1,y1,s1,x3,y3,s3,x2,y2,s2,(u:Nat),(v:Nat),(n:Nat)] 155)).putObj D (Obj.deferred none)) v3.heap.size 155 [x0,y0,s0,x1,y1,s1,x2,y2,s2,(u:Nat),(v:Nat),(n:Nat),x1,y1,s1,x3,y3,s3,x2,y2,s2,(u:Nat),(v:Nat),(n:Nat)]:=(aUq (by omega)).trans BF;refine ⟨by simp,.inl ⟨_,_,rfl,run_takeDeferred DF,?_⟩⟩;refine ⟨.slice (some ⟨v3.heap.size,0,none⟩) 2 2,by simp [results,results210,go_sem,gp],_,rfl,.inr ⟨k1.out,v3.heap.size,by have:=T.out.ext.size;omega,rfl,?_⟩,XF.grown (grownBy_putObj' _ D _) (fun k e=>by cases e;omega)⟩;rw [k2.out,k3.out,k4.out,k5.out];exact k0
 case stop=>
  rintro D cd z9 W hD - ⟨rfl,hd,hX,hB⟩ hK;have g0:=hB.cell 0 rfl;have gp:(W.putObj D (Obj.deferred none)).cell? ⟨w.heap.size+7,0,none⟩=some (.slice none 0 0):=(aS3 (w:=W) (aUq (by simp only;omega))).trans g0;refine wpIn_ret ?_;refine ⟨by simp,.inl ⟨_,_,rfl,run_takeDeferred hK,?_⟩⟩;exact ⟨.slice none 0 0,by simp [results,results210,go_sem,gp],_,rfl,.inl ⟨hd,rfl⟩,hX.grown (grownBy_putObj' W D _) (fun k e=>by cases e;omega)⟩
end
section
open Go.RowKit Go.Shelf
attribute [local go_sem] aXc
theorem oL {P:Program} {Q:Exit->Act->World->Prop} {l n:Nat} {id:Nat} {a:Act} {w:World} {l':List Oper} (z:Nat) (S:World->Prop) (hm:P.follows .mixedOrders=true) (hd:kR l'=true) (hl : ¬LetsOut Q)
  (h:aD2 P l'.toArray (NoPanic Q) S z l'.length (aVr l'.length false) a w.drew):(Code.region id l'.toArray true).wpIn (rd l) n P Q a w:=by
 refine Go.wpIn_mono (wpIn_region_any hm (wO (by simpa using hd) (uL hl) _ _ _ _ ?_)) NoPanic.imp;have:=iG _ _ _ _ h
 simpa using this
def CDs (w b:Nat):Addr->Prop:=fun a=>a.block=w\/a.block=w+1\/a.block=w+2\/a.block=w+3\/a.block=w+4\/a.block=w+5\/a.block=b+1\/a.block=b+2
@[go_sem] theorem aQn {w b k o:Nat} (h:k=w\/k=w+1\/k=w+2\/k=w+3\/k=w+4\/k=w+5\/k=b+1\/k=b+2):CDs w b ⟨k,o,none⟩:=h
theorem rC {w b N:Nat} (h:w+6<=b) (hN:b+2<N) {a:Addr} (ha:CDs w b a):a.block<N:=by
 unfold CDs at ha;omega
structure Mc where
 (a b d:V3)
 (u v n:Int)
def Mc.cs (m:Mc):List Value:=aJc m.a m.b m.d m.u m.v m.n
theorem Mc.one (m:Mc):∀u∈m.cs,u.oneCell'=true:=by
 intro u hu;simp only [Mc.cs,aJc,aR4,aRz,or_false] at hu
 rcases hu with rfl|rfl|rfl|rfl|rfl|rfl|rfl|rfl|rfl|rfl|rfl|rfl <;> rfl
theorem wT {α β : Type} {L:List α} {f g : α->List β} (h:∀a∈L,f a=g a):L.flatMap f=L.flatMap g:=by
 rw [List.flatMap_def,List.flatMap_def,List.map_congr_left h]
def gG (c:Cam) (f:Nat->Int) (n:Nat) (s:Smp) (u v:Nat):List Mc:=
 if lX c f n s u v then [⟨dE c f n s u v,dE c f n s (u+1) v,dE c f n s u (v+1),u,v,n⟩,⟨dE c f n s (u+1) v,dE c f n s (u+1) (v+1),dE c f n s u (v+1),u,v,n⟩] else []
def jE (c:Cam) (f:Nat->Int) (n:Nat) (s:Smp) (pre:List (Fin n×Fin n)):List Mc:=pre.flatMap fun p=>gG c f n s p.1 p.2
def kT (c:Cam) (f:Nat->Int) (n:Nat) (s:Smp):List Mc:=(aR6 (n*n)).flatMap fun q=>gG c f n s (q % n) (q / n)
theorem wU (c:Cam) (f:Nat->Int) (n:Nat) (s:Smp) (pre:List (Fin n×Fin n)) (x:Fin n×Fin n):jE c f n s (pre++[x])=jE c f n s pre++gG c f n s x.1 x.2:=by
 unfold jE;rw [aSy,List.flatMap_singleton]
theorem jK (c:Cam) (f:Nat->Int) (n:Nat) (s:Smp) (u v:Nat):(gG c f n s u v).length<=2:=by unfold gG;split <;> simp
theorem aCh (c:Cam) (f:Nat->Int) (n:Nat) (s:Smp) (pre:List (Fin n×Fin n)):(jE c f n s pre).length<=2*pre.length:=by
 induction pre with
 | nil=>simp [jE]
 | cons x pre ih=>
  have:=jK c f n s x.1 x.2;unfold jE at ih ⊢;rw [aTk,aSa,aSw];omega
theorem aJd (c:Cam) (f:Nat->Int) (n:Nat) (s:Smp) (hn:0<n):jE c f n s (cH n hn (n*n))=kT c f n s:=by
 unfold jE kT cH;rw [List.flatMap_map];refine wT fun q hq=>?_;have hd:q / n<n:=aTs (aSq.1 hq)
 show gG c f n s (q % n) (q / n % n)=_
 rw [aU4 hd]
theorem wV:(Tryz.prog.info? 155).map (fun i=>(i.zero,i.size,i.bytes))=some (some (.agg #[(),(),(),(),(),(),(),(),(),(),(),()]),12,96):=by kernel_rfl
theorem rY {α : Type} (cs : α->List Value) (e:TypeId) (sz bytes:Nat) (z:Value) (w:World) {ops:Array Oper} {rest:List Oper} {o:Oper} {a:Act} {Q:Exit->Act->World->Prop} (hg:o.guard=none) (s x:Operand) (t:TypeId)
  (hop:o.op=Op.call { callee:=Callee.builtin Builtin.append,args:=#[s,x],argTypes:=#[t,t] }) (ht:Tryz.prog.underlying t=some (.slice e))
  (hinfo:(Tryz.prog.info? e).map (fun i=>(i.zero,i.size,i.bytes))=some (some z,sz,bytes)) (hzs:z.cells.size=sz) (hsz:0<sz) (hby:bytes<=1000) (hc:∀x,(cs x).length=sz)
  (lo:Nat) (v:Value) (xs:List α) (hs:a.eval s=v) (hown:aE cs lo e sz w v xs)
  (y y' : α) (b:Nat) (hx:a.eval x = .slice (some ⟨b,0,none⟩) 2 2) (hcell:∀j u,(cs y++cs y')[j]?=some u->w.cell? ⟨b,j,none⟩=some u) (h1:∀u∈cs y++cs y',u.oneCell'=true) (hlen:xs.length<1000000) (hlo:lo<=w.heap.size)
  (hK:∀v' w',aE cs lo e sz w' v' (xs++[y,y'])->w.grownBy w' v.ownBlock->wpList aRn ops Q rest (a.put o.dst v') w'):wpList aRn ops Q (o::rest) a w:=by
 obtain ⟨i0,h3,h4,h5,h6⟩:=info_parts hinfo;refine wpList_append_own w hg s x t hop lo e i0 z sz bytes ht h3 h4 h5 h6 hzs hsz v xs.length _ hs hown ⟨b,0,none⟩ 2 2 (cs y++cs y') hx (by rw [aSa,hc,hc];omega) ?_ h1 ?_ ?_ hlo ?_
 ·intro j u hj
  have ea:(⟨b,0,none⟩:Addr).add j=⟨b,j,none⟩:=by
   unfold Addr.add
   split <;> simp_all
  rw [ea];exact hcell j u hj
 ·unfold maxLen;omega
 ·have:(xs.length+2)*bytes<=1000002*1000:=aSi (by omega) hby
  omega
 ·intro v' w1 h2 h0 _
  refine hK v' w1 ?_ h0;unfold aE;rw [aSa,aSy]
  simpa using h2
def aJe (c:Cam) (f:Nat->Int) (n:Nat) (s:Smp) (w:World) (b1:Nat):List (Nat×TypeId×List Value):=
 [(w.heap.size,35,c),(w.heap.size+1,125,f),(w.heap.size+2,214,[(),(),.int .i64 1]),(w.heap.size+3,3,[(n:Nat)]),(w.heap.size+4,3,[s.lx]),(w.heap.size+5,3,[s.ly]),(b1+1,3,[(n:Nat)]),(b1+3,3,[(n:Nat)])]
theorem aH4 (c:Cam) (f:Nat->Int) (n:Nat) (s:Smp) (w:World) (b1:Nat) (hb:w.heap.size+6<=b1):∀p∈aJe c f n s w b1,p.2.1≠155/\p.1≠b1+2:=by
 intro p hp;simp only [aJe,aR4,aRz,or_false] at hp
 rcases hp with rfl|rfl|rfl|rfl|rfl|rfl|rfl|rfl <;> exact ⟨by simp,by simp only [ne_eq];omega⟩
theorem wW (w:World):R_ 209 #[.agg #[(),(),.int .i64 1]] w (.bool true):=by
 have I1:inB 1 1 64=true:=rfl;have I2:inB 0 0 0=true:=rfl
 have eb:bits .and .i64 1 0=0:=by decide
 go_enter func209,ntmps209;go_wp2_with (go_at_call 92;with_reducible first|(refine z_ (aL I1 _) ?_)|(refine z_ (aL I2 _) ?_));go_ret;exact ⟨rfl,X_⟩
theorem aCi (c:Cam) (f:Nat->Int) (n:Nat) (s:Smp) (hn:1<=n/\n<=8) (w:World) :
  Calls aRn 156 #[.agg c,.agg f,.agg #[(),(),.int .i64 1],(n:Nat),s.lx,s.ly] w fun e w'=>∃r,e = .returned r/\aE Mc.cs w.heap.size 155 12 w' r (kT c f n s)/\Ext w w':=by
 have C2:∀W:World,Calls aRn 165 #[(n:Nat)] W fun e w'=>e = .returned (.func (.func 217) #[] #[.pointer (some ⟨W.heap.size,0,none⟩)])/\w'=W.alloc (.cells #[(n:Nat)] 3):=fun W=>(callsIn_wide (n:=0)).1 (tP n 0 W);have C2:=hid C2;have I1:=hid (aG.2 (show (1:Int)<=(n:Int)/\(n:Int)<=8 by omega))
 have a8:0<n:=by omega
 have q0:=aRr w 35 c;have q1:=aRr (w.alloc (.cells c 35)) 125 f;have q2:=aRr ((w.alloc (.cells c 35)).alloc (.cells f 125)) 214 [(),(),.int .i64 1];have q3:=aRr (((w.alloc (.cells c 35)).alloc (.cells f 125)).alloc (.cells #[(),(),.int .i64 1] 214)) 3 [(n:Nat)];have q4:=aRr ((((w.alloc (.cells c 35)).alloc (.cells f 125)).alloc (.cells #[(),(),.int .i64 1] 214)).alloc (.cells #[(n:Nat)] 3)) 3 [s.lx];have q5:=aRr (((((w.alloc (.cells c 35)).alloc (.cells f 125)).alloc (.cells #[(),(),.int .i64 1] 214)).alloc (.cells #[(n:Nat)] 3)).alloc (.cells #[s.lx] 3)) 3 [s.ly];simp only [aRj] at q1 q2 q3 q4 q5;have r0:=q0.ext (show Ext (w.alloc (.cells c 35)) ((((((w.alloc (.cells c 35)).alloc (.cells f 125)).alloc (.cells #[(),(),.int .i64 1] 214)).alloc (.cells #[(n:Nat)] 3)).alloc (.cells #[s.lx] 3)).alloc (.cells #[s.ly] 3)) from X_);have R0:=hid r0;have r1:=q1.ext (show Ext ((w.alloc (.cells c 35)).alloc (.cells f 125)) ((((((w.alloc (.cells c 35)).alloc (.cells f 125)).alloc (.cells #[(),(),.int .i64 1] 214)).alloc (.cells #[(n:Nat)] 3)).alloc (.cells #[s.lx] 3)).alloc (.cells #[s.ly] 3)) from X_);have R1:=hid r1;have r2:=q2.ext (show Ext (((w.alloc (.cells c 35)).alloc (.cells f 125)).alloc (.cells #[(),(),.int .i64 1] 214)) ((((((w.alloc (.cells c 35)).alloc (.cells f 125)).alloc (.cells #[(),(),.int .i64 1] 214)).alloc (.cells #[(n:Nat)] 3)).alloc (.cells #[s.lx] 3)).alloc (.cells #[s.ly] 3)) from X_);have R2:=hid r2;have r3:=q3.ext (show Ext ((((w.alloc (.cells c 35)).alloc (.cells f 125)).alloc (.cells #[(),(),.int .i64 1] 214)).alloc (.cells #[(n:Nat)] 3)) ((((((w.alloc (.cells c 35)).alloc (.cells f 125)).alloc (.cells #[(),(),.int .i64 1] 214)).alloc (.cells #[(n:Nat)] 3)).alloc (.cells #[s.lx] 3)).alloc (.cells #[s.ly] 3)) from X_);have R3:=hid r3;have r4:=q4.ext (show Ext (((((w.alloc (.cells c 35)).alloc (.cells f 125)).alloc (.cells #[(),(),.int .i64 1] 214)).alloc (.cells #[(n:Nat)] 3)).alloc (.cells #[s.lx] 3)) ((((((w.alloc (.cells c 35)).alloc (.cells f 125)).alloc (.cells #[(),(),.int .i64 1] 214)).alloc (.cells #[(n:Nat)] 3)).alloc (.cells #[s.lx] 3)).alloc (.cells #[s.ly] 3)) from X_);have R4:=hid r4;have r5:=q5.ext (show Ext ((((((w.alloc (.cells c 35)).alloc (.cells f 125)).alloc (.cells #[(),(),.int .i64 1] 214)).alloc (.cells #[(n:Nat)] 3)).alloc (.cells #[s.lx] 3)).alloc (.cells #[s.ly] 3)) ((((((w.alloc (.cells c 35)).alloc (.cells f 125)).alloc (.cells #[(),(),.int .i64 1] 214)).alloc (.cells #[(n:Nat)] 3)).alloc (.cells #[s.lx] 3)).alloc (.cells #[s.ly] 3)) from X_);have R5:=hid r5;have X0:=hid (show Ext w ((((((w.alloc (.cells c 35)).alloc (.cells f 125)).alloc (.cells #[(),(),.int .i64 1] 214)).alloc (.cells #[(n:Nat)] 3)).alloc (.cells #[s.lx] 3)).alloc (.cells #[s.ly] 3)) from X_);clear q0 q1 q2 q3 q4 q5 r0 r1 r2 r3 r4 r5;refine (callsIn_wide (n:=3)).1 ?_;refine callsIn_of_wp_marks func156 rfl trivial ?_ rfl;simp only [ntmps156,aWj,aSw,aTu,aUl,aZf,aWl,aWm,aXu,aW3,aTf,aWt];refine wpIn_wide.2 ?_;go_wp2_with fail;refine r_ (wW _) fun w1 x1=>?_;have z1:=x1.size;simp only [aRj] at z1;have S0:=R0.ext x1;have S1:=R1.ext x1;have S2:=R2.ext x1;have S3:=R3.ext x1;have S4:=R4.ext x1;have S5:=R5.ext x1;have X1:=hid (X0.trans x1);have c3:=S3.cell 0 rfl;have c2:=S2.cell 2 rfl;have l2:=S2.lt;have l3:=S3.lt;have H0:=hid S0;have H1:=hid S1;have H2:=hid S2;have H3:=hid S3;have H4:=hid S4;have H5:=hid S5;clear S0 S1 S2 S3 S4 S5 x1 R0 R1 R2 R3 R4 R5 X0;go_wp2_with (go_at_call 92;refine z_ (aL I1 _) ?_);refine (C2 _).mono ?_;rintro e _ ⟨rfl,rfl⟩;go_wp2_with fail;have q6:=aRr w1 155 [];have q7:=aRr (w1.alloc (.cells #[] 155)) 3 [(n:Nat)];have q8:=aRr ((w1.alloc (.cells #[] 155)).alloc (.cells #[(n:Nat)] 3)) 148 [.slice (some ⟨w1.heap.size,0,none⟩) 0 0];have q9:=aRr (((w1.alloc (.cells #[] 155)).alloc (.cells #[(n:Nat)] 3)).alloc (.cells #[.slice (some ⟨w1.heap.size,0,none⟩) 0 0] 148)) 3 [(n:Nat)];simp only [aRj] at q7 q8 q9;have r6:=q6.ext (show Ext (w1.alloc (.cells #[] 155)) ((((w1.alloc (.cells #[] 155)).alloc (.cells #[(n:Nat)] 3)).alloc (.cells #[.slice (some ⟨w1.heap.size,0,none⟩) 0 0] 148)).alloc (.cells #[(n:Nat)] 3)) from X_);have r7:=q7.ext (show Ext ((w1.alloc (.cells #[] 155)).alloc (.cells #[(n:Nat)] 3)) ((((w1.alloc (.cells #[] 155)).alloc (.cells #[(n:Nat)] 3)).alloc (.cells #[.slice (some ⟨w1.heap.size,0,none⟩) 0 0] 148)).alloc (.cells #[(n:Nat)] 3)) from X_);have r8:=q8.ext (show Ext (((w1.alloc (.cells #[] 155)).alloc (.cells #[(n:Nat)] 3)).alloc (.cells #[.slice (some ⟨w1.heap.size,0,none⟩) 0 0] 148)) ((((w1.alloc (.cells #[] 155)).alloc (.cells #[(n:Nat)] 3)).alloc (.cells #[.slice (some ⟨w1.heap.size,0,none⟩) 0 0] 148)).alloc (.cells #[(n:Nat)] 3)) from X_);have r9:=q9.ext (show Ext ((((w1.alloc (.cells #[] 155)).alloc (.cells #[(n:Nat)] 3)).alloc (.cells #[.slice (some ⟨w1.heap.size,0,none⟩) 0 0] 148)).alloc (.cells #[(n:Nat)] 3)) ((((w1.alloc (.cells #[] 155)).alloc (.cells #[(n:Nat)] 3)).alloc (.cells #[.slice (some ⟨w1.heap.size,0,none⟩) 0 0] 148)).alloc (.cells #[(n:Nat)] 3)) from X_);have xx:Ext w1 ((((w1.alloc (.cells #[] 155)).alloc (.cells #[(n:Nat)] 3)).alloc (.cells #[.slice (some ⟨w1.heap.size,0,none⟩) 0 0] 148)).alloc (.cells #[(n:Nat)] 3)):=X_;have r0:=H0.ext xx;have r1:=H1.ext xx;have r2:=H2.ext xx;have r3:=H3.ext xx;have r4:=H4.ext xx;have r5:=H5.ext xx;have X0:=X1.trans xx
 have z0:((((w1.alloc (.cells #[] 155)).alloc (.cells #[(n:Nat)] 3)).alloc (.cells #[.slice (some ⟨w1.heap.size,0,none⟩) 0 0] 148)).alloc (.cells #[(n:Nat)] 3)).heap.size=w1.heap.size+4:=by simp
 clear q6 q7 q8 q9 xx H0 H1 H2 H3 H4 H5
 obtain ⟨W0,h7⟩:∃W0,((((w1.alloc (.cells #[] 155)).alloc (.cells #[(n:Nat)] 3)).alloc (.cells #[.slice (some ⟨w1.heap.size,0,none⟩) 0 0] 148)).alloc (.cells #[(n:Nat)] 3))=W0:=⟨_,rfl⟩
 rw [h7] at r0 r1 r2 r3 r4 r5 r6 r7 r8 r9 X0 z0
 try simp only [aRj] at h7
 rw [h7];clear h7
 have z6:w.heap.size+6<=w1.heap.size:=by omega
 have h9:RB Mc.cs 155 12 148 (fun v=>[v]) w (w1.heap.size+2) (aJe c f n s w w1.heap.size) W0 (jE c f n s []):=by
  refine ⟨X0,fun p hp=>?_,by omega,_,r8,aE.fresh0 (by omega) r6⟩;simp only [aJe,aR4,aRz,or_false] at hp
  rcases hp with rfl|rfl|rfl|rfl|rfl|rfl|rfl|rfl <;> assumption
 have h9:=hid h9;have NB:=r9.cell 0 rfl;clear r0 r1 r2 r3 r4 r5 r6 r7 r8 r9 X0 C2 X1 c3 c2 l2 l3;refine (wpIn_wide (n:=3)).1 ?_
 refine' wpIn_rangeFunc_ownG rfl (by omega) (gf:=217) (lb:=#[.pointer (some ⟨w1.heap.size+3,0,none⟩)]) rfl trivial (enters_of func217 (by kernel_rfl) rfl)
  (oG n a8 (by omega) _ (w1.heap.size+3) W0 (by omega) NB) (fun h k=>KB.trans h k) ?hKb (aX8 _ _) (fun _=>rfl)
  (fun h0 W=>RB Mc.cs 155 12 148 (fun v=>[v]) w (w1.heap.size+2) (aJe c f n s w w1.heap.size) W (jE c f n s h0))
  (fun cd h0 W=>False) ?owns ?ownsx h9 _ ?assign ?body ?done ?stop
 case hKb=>exact fun W l o o' hl ho _ _=>aUq (by omega)
 case assign=>
  intro l x W K hK
  gi_wp2
  exact hK
 case owns=>exact fun h0 A B row h hg hr=>RB.owns (by omega) (jE c f n s) h0 A B row h hg hr
 case ownsx=>exact fun cd h0 A B row h hg hr=>h
 case stop=>
  rintro D cd h0 W hD - h hK;exact h.elim
 case body=>
  intro l h0 x W hI b0;have HI:=hid hI
  obtain ⟨i,hi⟩:∃i:Nat,(x.1:Nat)=i:=⟨_,rfl⟩
  obtain ⟨j,hj⟩:∃i:Nat,(x.2:Nat)=i:=⟨_,rfl⟩
  have a6:i<n:=hi▸x.1.2;have a7:j<n:=hj▸x.2.2;have ZW:=hI.ext.size;obtain ⟨tv,h1,h2⟩:=hI.tb;obtain ⟨ta,tc,rfl,a1⟩:=aE.form h2;have g0:=h1.cell 0 rfl;have gl:=h1.lt;have a3:=hid h1;have a4:=hid h2;have m0:=hI.fx _ (.head _);obtain ⟨x4,x5,x6,x7,x8,x9,z2⟩:=m0.q7;have b1:=m0.lt;have m1:=hI.fx _ (.tail _ (.head _));obtain ⟨z3,z4,z5,z7,z8,z9,y0,y1,y2,y3,h5,h6⟩:=m1.q12;have b2:=m1.lt;have m2:=hI.fx _ (.tail _ (.tail _ (.head _)));obtain ⟨y4,y5,y6⟩:=m2.q3;have b3:=m2.lt;have m3:=hI.fx _ (.tail _ (.tail _ (.tail _ (.head _))));have y7:=m3.cell 0 rfl;have b4:=m3.lt;have m4:=hI.fx _ (.tail _ (.tail _ (.tail _ (.tail _ (.head _)))));have y8:=m4.cell 0 rfl;have b5:=m4.lt;have m5:=hI.fx _ (.tail _ (.tail _ (.tail _ (.tail _ (.tail _ (.head _))))));have y9:=m5.cell 0 rfl;have b6:=m5.lt;have m6:=hI.fx _ (.tail _ (.tail _ (.tail _ (.tail _ (.tail _ (.tail _ (.head _)))))));have a0:=m6.cell 0 rfl;have b7:=m6.lt
  try simp only [aJe] at b1 b2 b3 b4 b5 b6 b7
  have x3:=aCh c f n s h0;have a9:n*n<=64:=aSi (by omega:n<=8) (by omega:n<=8);have h8:=hid (show (jE c f n s h0).length<1000000 by omega);rw [hi,hj];clear hI h1 h2 m0 m1 m2 m3 m4 m5 m6 x3 a9;refine wpIn_block ?_;refine oL 20 (fun w'=>∃d,w'=fT (CDs w.heap.size w1.heap.size) W d) (by kernel_rfl) (by kernel_rfl) (fun ⟨_,_,h⟩=>h) ?_;refine fU (fuel:=2) [0,1,2,3,4,5,6,7,8,9,10,11,12,13,14,15,16,17] [18] (by kernel_rfl) (SC.drew _ _) ?_
  try simp only [Act.put,aRp,aRx,aRw]
  simp only [aR8,aR1,aRm,aRg,aRh]
  show wpQuiet _ _ _ _ [_,_,_,_,_,_,_,_,_,_,_,_,_,_,_,_,_,_] _
  repeat (go_big_quiet_step (fail))
  refine wpQuiet_nil ?_;intro e he;simp only [aR4,aRz,or_false] at he;subst he
  (unfold gJ;simp only [aRm,aRh,aRg,aRl];refine ⟨_,rfl,fun K hK=>?_⟩)
  go_wp2_with fail;refine (zZ c f n s i j (by omega) a6 a7 _).mono ?_;rintro e wy ⟨r,rfl,hR,x2⟩;have yy:Ext W wy:=aRo (aSk (aRu _)) x2
  have h3:gG c f n s (x.1:Nat) (x.2:Nat)=gG c f n s i j:=by rw [hi,hj]
  have HM:=hid h3;have T:=hid (HI.to yy);have U1:=hid (a3.ext yy);have U2:=hid (aE.ext a4 yy);have YY:=hid yy;have b8:=yy.size;clear h3 x2 yy x4 x5 x6 x7 x8 x9 z2 z3 z4 z5 z7 z8 z9 y0 y1 y2 y3 h5 h6 y4 y5 y6 y7 y8 y9 a0
  rcases hR with ⟨hd,rfl⟩|⟨hd,g,gl2,rfl,hB⟩
  ·have x0:gG c f n s i j=[]:=by unfold gG;rw [hd];rfl
   go_wp2_with fail;refine hK _ _ (.inr (SC.blocks fun a ha=>YY.block (rC z6 gl ha))) ?_;clear hK K;refine fU (fuel:=1) [] [19] (by kernel_rfl) (SC.blocks fun a ha=>YY.block (rC z6 gl ha)) ?_;refine wpQuiet_nil ?_;intro e he;simp only [aR4,aRz,or_false] at he;subst he
   (unfold gJ;simp only [aRm,aRh,aRg,aRl];refine ⟨_,rfl,fun K hK=>?_⟩)
   obtain ⟨i0,a5,-,-,-⟩:=info_parts wV;refine wpList_append_own_none rfl _ _ 148 rfl w.heap.size 155 i0 12 underlying148 a5 _ _ _ rfl U2 rfl ?_;go_wp2_with fail;refine hK _ _ (.inr (SC.blocks fun a ha=>YY.block (rC z6 gl ha))) ?_;clear hK K;have k0:=U1.cell 0 rfl;have k1:=U1.free 0;have k2:=U1.lt;refine fU (fuel:=0) [] [20] (by kernel_rfl) (SC.blocks fun a ha=>YY.block (rC z6 gl ha)) ?_;refine wpQuiet_nil ?_;intro e he;simp only [aR4,aRz,or_false] at he;subst he
   (unfold gJ;simp only [aRm,aRh,aRg,aRl];refine ⟨_,rfl,fun K hK=>?_⟩)
   go_wp2;refine l_ hK ?_;clear hK K;refine wL (by kernel_rfl) ?_;have T4:=T.push (aH4 c f n s w w1.heap.size z6) (by decide) 0 rfl U1 U2 (aRu _) (grownBy.refl _ _) U2;refine ⟨((Ext.others YY).trans (aV1 _ _ _)).from _,(T4.fx _ (.tail _ (.tail _ (.tail _ (.tail _ (.tail _ (.tail _ (.tail _ (.head _))))))))).trans (HI.fx _ (.tail _ (.tail _ (.tail _ (.tail _ (.tail _ (.tail _ (.tail _ (.head _))))))))).symm,?_⟩
   show RB _ _ _ _ _ _ _ _ _ (jE c f n s (h0++[x]))
   rw [wU,HM,x0,List.append_nil];exact T4
  ·have x0:gG c f n s i j=[⟨dE c f n s i j,dE c f n s (i+1) j,dE c f n s i (j+1),i,j,n⟩,⟨dE c f n s (i+1) j,dE c f n s (i+1) (j+1),dE c f n s i (j+1),i,j,n⟩]:=by unfold gG;rw [hd];rfl
   have HB:=hid hB;clear hB;go_wp2_with fail;refine hK _ _ (.inr (SC.blocks fun a ha=>YY.block (rC z6 gl ha))) ?_;clear hK K;refine fU (fuel:=1) [] [19] (by kernel_rfl) (SC.blocks fun a ha=>YY.block (rC z6 gl ha)) ?_;refine wpQuiet_nil ?_;intro e he;simp only [aR4,aRz,or_false] at he;subst he
   (unfold gJ;simp only [aRm,aRh,aRg,aRl];refine ⟨_,rfl,fun K hK=>?_⟩)
   refine rY Mc.cs 155 12 96 _ _ rfl _ _ 148 rfl underlying148 wV rfl (by decide) (by decide) (fun _=>rfl) w.heap.size _ (jE c f n s h0) rfl U2
    ⟨dE c f n s i j,dE c f n s (i+1) j,dE c f n s i (j+1),i,j,n⟩ ⟨dE c f n s (i+1) j,dE c f n s (i+1) (j+1),dE c f n s i (j+1),i,j,n⟩ g rfl (fun k u hk=>HB.cell k hk) (fun u hu=>(aTz.1 hu).elim (Mc.one _ u) (Mc.one _ u)) h8 (by have:=T.ext.size;omega) ?_
   intro v8 w8 h4 hg;obtain ⟨va,vc,rfl,_⟩:=aE.form h4;have G1:=U1.grown hg (bY U1 (by decide) U2);have k0:=G1.cell 0 rfl;have k1:=G1.free 0;have k2:=G1.lt
   have hC:∀a:Addr,CDs w.heap.size w1.heap.size a->w8.heap[a.block]?=W.heap[a.block]?:=fun a ha=>by
    have hr:some a.block≠(Value.slice ta (jE c f n s h0).length tc).ownBlock:=by
     rcases ha with h|h|h|h|h|h|h|h
     ·rw [h];exact bY (T.fx _ (.head _)) (by simp) U2
     ·rw [h];exact bY (T.fx _ (.tail _ (.head _))) (by simp) U2
     ·rw [h];exact bY (T.fx _ (.tail _ (.tail _ (.head _)))) (by simp) U2
     ·rw [h];exact bY (T.fx _ (.tail _ (.tail _ (.tail _ (.head _))))) (by simp) U2
     ·rw [h];exact bY (T.fx _ (.tail _ (.tail _ (.tail _ (.tail _ (.head _)))))) (by simp) U2
     ·rw [h];exact bY (T.fx _ (.tail _ (.tail _ (.tail _ (.tail _ (.tail _ (.head _))))))) (by simp) U2
     ·rw [h];exact bY (T.fx _ (.tail _ (.tail _ (.tail _ (.tail _ (.tail _ (.tail _ (.head _)))))))) (by simp) U2
     ·rw [h];exact bY U1 (by decide) U2
    have hl:=rC z6 gl ha;exact (hg.block _ (aS5 hl b8) hr).trans (YY.block hl)
   have a2:=hid hC;clear hC;go_wp2_with fail;refine hK _ _ (.inr (SC.blocks a2)) ?_;clear hK K;refine fU (fuel:=0) [] [20] (by kernel_rfl) (SC.blocks a2) ?_;refine wpQuiet_nil ?_;intro e he;simp only [aR4,aRz,or_false] at he;subst he
   (unfold gJ;simp only [aRm,aRh,aRg,aRl];refine ⟨_,rfl,fun K hK=>?_⟩)
   go_wp2;refine l_ hK ?_;clear hK K;refine wL (by kernel_rfl) ?_;have T4:=T.push (aH4 c f n s w w1.heap.size z6) (by decide) 0 rfl U1 U2 (aRu _) hg h4;simp only [aSa,aSw,aTu,aSf,aUl] at T4;refine ⟨(((Ext.others YY).trans (aXp hg (aCg (aRu _) U2))).trans (aV1 _ _ _)).from _,(T4.fx _ (.tail _ (.tail _ (.tail _ (.tail _ (.tail _ (.tail _ (.tail _ (.head _))))))))).trans (HI.fx _ (.tail _ (.tail _ (.tail _ (.tail _ (.tail _ (.tail _ (.tail _ (.head _))))))))).symm,?_⟩
   show RB _ _ _ _ _ _ _ _ _ (jE c f n s (h0++[x]))
   rw [wU,HM,x0];exact T4
 case done=>
  rintro D ys W hD rfl hI hK;rw [aJd] at hI;obtain ⟨tv,h1,h2⟩:=hI.tb;obtain ⟨ta,tc,rfl,a1⟩:=aE.form h2;have k0:=h1.cell 0 rfl;have k5:=h1.lt;have HI:=hid hI;clear hI h1;go_wp2_with fail;refine ⟨by simp,.inl ⟨_,_,rfl,run_takeDeferred hK,?_⟩⟩;refine ⟨_,results_tmp rfl _ _ _,_,rfl,?_,?_⟩
  ·exact aE.owns h2 (grownBy_putObj' W D _) (fun r e=>by cases e;exact ⟨_,hK,rfl⟩)
  ·exact HI.ext.grown (grownBy_putObj' W D _) (fun k e=>by cases e;omega)
end
theorem aJf (x y z:Int) (w:World):R_ 228 #[.agg #[x,y,z]] w (.agg #[x,y,z]):=by
 go_enter func228,ntmps228;go_wp2;exact bodyPost_ret (v:=.agg #[x,y,z]) (by simp [results,results228,go_sem]) rfl ⟨rfl,S_⟩
theorem aGb (x y z:Int) (w:World):R_ 229 #[.agg #[x,y,z],.agg #[x,y,z]] w (.bool true):=by
 go_enter func229,ntmps229;go_wp2;go_ret;exact ⟨rfl,X_⟩
theorem aK2 (h:i<12):i=0\/i=1\/i=2\/i=3\/i=4\/i=5\/i=6\/i=7\/i=8\/i=9\/i=10\/i=11:=by omega
theorem fV {b:Nat} {f:Nat->Int} (hb:w.heap.size=b):bK (w.alloc (.cells f t)) b t 12 f:=
 hb▸World.rowIs_alloc _ _ _ _ fun i hi=>by rcases aK2 hi with h|h|h|h|h|h|h|h|h|h|h|h <;> subst h <;> rfl
theorem aD6 (x0 x1 x2 x3 x4 x5 x6 x7 x8 x9 x10 x11:Int) (w:World) :
  R_ 182 #[.agg #[x0,x1,x2,x3,x4,x5,x6,x7,x8,x9,x10,x11]] w (.agg #[x0,x1,x2,x3,x4,x5,x6,x7,x8,x9,x10,x11]):=by
 obtain ⟨f,hf⟩:∃f:Nat->Int,f=fun i=>[x0,x1,x2,x3,x4,x5,x6,x7,x8,x9,x10,x11].getD i 0:=⟨_,rfl⟩
 have f0:f 0=x0:=by subst hf;rfl
 have f1:f 1=x1:=by subst hf;rfl
 have f2:f 2=x2:=by subst hf;rfl
 have f3:f 3=x3:=by subst hf;rfl
 have f4:f 4=x4:=by subst hf;rfl
 have f5:f 5=x5:=by subst hf;rfl
 have f6:f 6=x6:=by subst hf;rfl
 have f7:f 7=x7:=by subst hf;rfl
 have f8:f 8=x8:=by subst hf;rfl
 have f9:f 9=x9:=by subst hf;rfl
 have h0:f 10=x10:=by subst hf;rfl
 have h4:f 11=x11:=by subst hf;rfl
 clear hf;rw [<-f0,<-f1,<-f2,<-f3,<-f4,<-f5,<-f6,<-f7,<-f8,<-f9,<-h0,<-h4];clear f0 f1 f2 f3 f4 f5 f6 f7 f8 f9 h0 h4;go_enter func182,ntmps182;go_wp2
 go_loopw [4] (fun i wr=>∃k:Nat,k<=4/\i = .int .i64 k/\Ext w wr/\bK wr w.heap.size 130 12 f/\bK wr (w.heap.size+1) 123 12 (fun _=>0)/\bK wr (w.heap.size+1+1) 123 12 (lU f (k*3))) (fun i _=>4 - (intOf i).toNat)
 case atStart=>
  refine ⟨0,by omega,rfl,X_,?_,?_,?_⟩
  ·exact ((fV rfl).alloc _).alloc _
  ·exact (fV (f:=fun _=>0) (by simp)).alloc _
  ·exact bK.zero (fV (f:=fun _=>0) (by simp))
 case round=>
  obtain ⟨k,hk,rfl,hE,h1,h2,h3⟩:=hrel
  by_cases q1:k<4
  ·have c0:=h1.cell (i:=k*3) (by omega)
   have c1:=h1.cell (i:=k*3+1) (by omega);have c2:=h1.cell (i:=k*3+2) (by omega);have H1:=hid h1;have H2:=hid h2;have H3:=hid h3;have HE:=hid hE;clear h1 h2 h3 hE;go_wp2_with fail;refine r_ (aJf (f (k*3)) (f (k*3+1)) (f (k*3+2)) _) fun w2 y2=>?_;have h3:=H3.ext y2;have d0:=h3.cell (i:=k*3) (by omega);have d1:=h3.cell (i:=k*3+1) (by omega);have d2:=h3.cell (i:=k*3+2) (by omega);have e0:=h3.frozen (k*3);have e1:=h3.frozen (k*3+1);have e2:=h3.frozen (k*3+2);have G1:=hid (H1.ext y2);have G2:=hid (H2.ext y2);have G3:=hid h3;have GE:=hid (HE.trans y2);clear h3 H1 H2 H3 HE y2;go_wp2;go_roundw
   case rel=>
    refine ⟨k+1,by omega,by go_num,?_,?_,?_,?_⟩
    ·have hE:=GE.out
     exact S_
    ·exact ((G1.other (by simp;omega) _).other (by simp;omega) _).other (by simp;omega) _
    ·exact ((G2.other (by simp) _).other (by simp) _).other (by simp) _
    ·rw [Nat.add_mul,aT2]
     exact bK.step (bK.step (bK.step G3 rfl rfl) rfl rfl) rfl rfl
   case measure=>simp [intOf];omega
  ·obtain rfl:k=4:=by omega
   have h3:=h3.full;have c0:=h3.cell (i:=0) (by decide);have d0:=h2.cell (i:=0) (by decide);have e0:=h2.frozen 0;have c1:=h3.cell (i:=1) (by decide);have d1:=h2.cell (i:=1) (by decide);have e1:=h2.frozen 1;have c2:=h3.cell (i:=2) (by decide);have d2:=h2.cell (i:=2) (by decide);have e2:=h2.frozen 2;have c3:=h3.cell (i:=3) (by decide);have d3:=h2.cell (i:=3) (by decide);have e3:=h2.frozen 3;have c4:=h3.cell (i:=4) (by decide);have d4:=h2.cell (i:=4) (by decide);have e4:=h2.frozen 4;have c5:=h3.cell (i:=5) (by decide);have d5:=h2.cell (i:=5) (by decide);have e5:=h2.frozen 5;have c6:=h3.cell (i:=6) (by decide);have d6:=h2.cell (i:=6) (by decide);have e6:=h2.frozen 6;have c7:=h3.cell (i:=7) (by decide);have d7:=h2.cell (i:=7) (by decide);have e7:=h2.frozen 7;have c8:=h3.cell (i:=8) (by decide);have d8:=h2.cell (i:=8) (by decide);have e8:=h2.frozen 8;have c9:=h3.cell (i:=9) (by decide);have d9:=h2.cell (i:=9) (by decide);have e9:=h2.frozen 9;have h5:=h3.cell (i:=10) (by decide);have h7:=h2.cell (i:=10) (by decide);have h9:=h2.frozen 10;have h6:=h3.cell (i:=11) (by decide);have h8:=h2.cell (i:=11) (by decide);have q0:=h2.frozen 11;have HE:=hid hE;clear h1 h2 h3 hE;go_wp2;exact bodyPost_ret (v:=.agg f) (by simp [results,results182,go_sem, *]) rfl ⟨rfl,by have hE:=HE.out;exact S_⟩
theorem aCj (x0 x1 x2 x3 x4 x5 x6 x7 x8 x9 x10 x11:Int) (w:World) :
  R_ 185 #[.agg #[x0,x1,x2,x3,x4,x5,x6,x7,x8,x9,x10,x11],.agg #[x0,x1,x2,x3,x4,x5,x6,x7,x8,x9,x10,x11]] w (.bool true):=by
 obtain ⟨f,hf⟩:∃f:Nat->Int,f=fun i=>[x0,x1,x2,x3,x4,x5,x6,x7,x8,x9,x10,x11].getD i 0:=⟨_,rfl⟩
 have f0:f 0=x0:=by subst hf;rfl
 have f1:f 1=x1:=by subst hf;rfl
 have f2:f 2=x2:=by subst hf;rfl
 have f3:f 3=x3:=by subst hf;rfl
 have f4:f 4=x4:=by subst hf;rfl
 have f5:f 5=x5:=by subst hf;rfl
 have f6:f 6=x6:=by subst hf;rfl
 have f7:f 7=x7:=by subst hf;rfl
 have f8:f 8=x8:=by subst hf;rfl
 have f9:f 9=x9:=by subst hf;rfl
 have h0:f 10=x10:=by subst hf;rfl
 have h3:f 11=x11:=by subst hf;rfl
 clear hf;rw [<-f0,<-f1,<-f2,<-f3,<-f4,<-f5,<-f6,<-f7,<-f8,<-f9,<-h0,<-h3];clear f0 f1 f2 f3 f4 f5 f6 f7 f8 f9 h0 h3;go_enter func185,ntmps185;go_wp2
 go_loopw [5] (fun i wr=>∃k:Nat,k<=4/\i = .int .i64 k/\Ext w wr/\bK wr w.heap.size 123 12 f/\bK wr (w.heap.size+1) 123 12 f) (fun i _=>4 - (intOf i).toNat)
 case atStart=>
  exact ⟨0,by omega,rfl,X_,(fV rfl).alloc _,fV (by simp)⟩
 case round=>
  obtain ⟨k,hk,rfl,hE,h1,h2⟩:=hrel
  by_cases h4:k<4
  ·have c0:=h1.cell (i:=k*3) (by omega)
   have c1:=h1.cell (i:=k*3+1) (by omega);have c2:=h1.cell (i:=k*3+2) (by omega);have d0:=h2.cell (i:=k*3) (by omega);have d1:=h2.cell (i:=k*3+1) (by omega);have d2:=h2.cell (i:=k*3+2) (by omega);have s1:=h1.lt;have s2:=h2.lt;have H1:=hid h1;have H2:=hid h2;have HE:=hid hE;clear h1 h2 hE;go_wp2;refine cR (by kernel_rfl) (by kernel_rfl) ?_
   repeat (go_big_quiet_step ((go_at_call 229;exact cL (aGb _ _ _ _))))
   refine wpQuiet_nil ?_;intro w1 y1;go_wp2;go_roundw
   case rel=>exact ⟨k+1,by omega,by go_num,HE.trans y1,H1.ext y1,H2.ext y1⟩
   case measure=>simp [intOf];omega
  ·go_wp2
   go_ret;exact ⟨rfl,hE⟩
theorem uO (x0 x1 x2 x3 x4 x5 x6 x7 x8 x9 x10 x11:Int) (w:World) :
  R_ 128 #[.agg #[x0,x1,x2,x3,x4,x5,x6,x7,x8,x9,x10,x11]] w (.agg #[x0,x1,x2,x3,x4,x5,x6,x7,x8,x9,x10,x11]):=by
 go_enter func128,ntmps128;go_wp2_with fail;refine r_ (aD6 x0 x1 x2 x3 x4 x5 x6 x7 x8 x9 x10 x11 _) fun w1 h1=>?_;obtain ⟨c1,f1⟩:=h1.cells;have z1:=h1.size;simp only [aRj] at z1;have E1:Ext w w1:=aRo X_ h1
 have k1:w.heap.size<w1.heap.size:=by omega
 have k2:w.heap.size+1<w1.heap.size:=by omega
 have k3:w.heap.size+1+1<w1.heap.size:=by omega
 go_wp2;exact bodyPost_ret (v:=.agg #[x0,x1,x2,x3,x4,x5,x6,x7,x8,x9,x10,x11]) (by simp [results,results128,go_sem, *]) rfl ⟨rfl,S_⟩
theorem rZ (x0 x1 x2 x3 x4 x5 x6 x7 x8 x9 x10 x11:Int) (w:World) :
  R_ 131 #[.agg #[x0,x1,x2,x3,x4,x5,x6,x7,x8,x9,x10,x11],.agg #[x0,x1,x2,x3,x4,x5,x6,x7,x8,x9,x10,x11]] w (.bool true):=by
 go_enter func131,ntmps131;go_wp2_with fail;refine r_ (aCj x0 x1 x2 x3 x4 x5 x6 x7 x8 x9 x10 x11 _) fun w1 h1=>?_;go_wp2;go_ret;exact ⟨rfl,aRo X_ h1⟩
def C1e (b:Nat):Addr->Prop:=fun a=>a.block=b
@[go_sem] theorem aQo {b o:Nat} (h:k=b):C1e b ⟨k,o,none⟩:=h
theorem pB (x y z k l m t:Int) (ht:0<=t/\t<=16) (w:World) :
  R_ 211 #[.agg #[x,y,z],.agg #[k,l,m],t,.int .i64 16] w (.agg #[(gQ x k t 16),(gQ y l t 16),(gQ z m t 16)]):=by
 obtain ⟨ux,h4⟩:∃r,cl x=r:=⟨_,rfl⟩
 have q5:=cS x;rw [h4] at q5
 obtain ⟨uy,h5⟩:∃r,cl y=r:=⟨_,rfl⟩
 have q6:=cS y;rw [h5] at q6
 obtain ⟨uz,h6⟩:∃r,cl z=r:=⟨_,rfl⟩
 have q7:=cS z;rw [h6] at q7
 obtain ⟨uk,h1⟩:∃r,cl k=r:=⟨_,rfl⟩
 have h8:=cS k;rw [h1] at h8
 obtain ⟨ul,h2⟩:∃r,cl l=r:=⟨_,rfl⟩
 have h9:=cS l;rw [h2] at h9
 obtain ⟨um,h3⟩:∃r,cl m=r:=⟨_,rfl⟩
 have q4:=cS m;rw [h3] at q4;have p0:=aY (A:=16) (B:=1000000) (a:=16 - t) (b:=ux) (by omega) q5
 obtain ⟨q0,e0⟩:∃r,(16 - t)*ux=r:=⟨_,rfl⟩
 rw [e0] at p0;have r0:=aY (A:=16) (B:=1000000) (a:=t) (b:=uk) (by omega) h8
 obtain ⟨s0,g0⟩:∃r,t*uk=r:=⟨_,rfl⟩
 rw [g0] at r0
 have x0:gQ x k t 16=bT (q0+s0) 16:=by unfold gQ;rw [h4,h1,aTj ux,aTj uk,e0,g0]
 rw [x0];have M0:=hid (show wrap64 ((16 - t)*ux)=q0 by rw [e0];exact aD (by omega) (by omega));have N0:=hid (show wrap64 (t*uk)=s0 by rw [g0];exact aD (by omega) (by omega));have S0:=hid (show wrap64 (q0+s0)=q0+s0 from aD (by omega) (by omega));have I0:=hid (I64.of (n:=q0+s0) (m:=40000000) (by omega) (by decide));have p1:=aY (A:=16) (B:=1000000) (a:=16 - t) (b:=uy) (by omega) q6
 obtain ⟨q1,e1⟩:∃r,(16 - t)*uy=r:=⟨_,rfl⟩
 rw [e1] at p1;have r1:=aY (A:=16) (B:=1000000) (a:=t) (b:=ul) (by omega) h9
 obtain ⟨s1,g1⟩:∃r,t*ul=r:=⟨_,rfl⟩
 rw [g1] at r1
 have x3:gQ y l t 16=bT (q1+s1) 16:=by unfold gQ;rw [h5,h2,aTj uy,aTj ul,e1,g1]
 rw [x3];have M1:=hid (show wrap64 ((16 - t)*uy)=q1 by rw [e1];exact aD (by omega) (by omega));have N1:=hid (show wrap64 (t*ul)=s1 by rw [g1];exact aD (by omega) (by omega));have S1:=hid (show wrap64 (q1+s1)=q1+s1 from aD (by omega) (by omega));have I1:=hid (I64.of (n:=q1+s1) (m:=40000000) (by omega) (by decide));have p2:=aY (A:=16) (B:=1000000) (a:=16 - t) (b:=uz) (by omega) q7
 obtain ⟨q2,e2⟩:∃r,(16 - t)*uz=r:=⟨_,rfl⟩
 rw [e2] at p2;have r2:=aY (A:=16) (B:=1000000) (a:=t) (b:=um) (by omega) q4
 obtain ⟨s2,g2⟩:∃r,t*um=r:=⟨_,rfl⟩
 rw [g2] at r2
 have x4:gQ z m t 16=bT (q2+s2) 16:=by unfold gQ;rw [h6,h3,aTj uz,aTj um,e2,g2]
 rw [x4];have M2:=hid (show wrap64 ((16 - t)*uz)=q2 by rw [e2];exact aD (by omega) (by omega));have N2:=hid (show wrap64 (t*um)=s2 by rw [g2];exact aD (by omega) (by omega));have S2:=hid (show wrap64 (q2+s2)=q2+s2 from aD (by omega) (by omega));have I2:=hid (I64.of (n:=q2+s2) (m:=40000000) (by omega) (by decide));have z4:=hid h4;have z5:=hid h5;have z6:=hid h6;have z1:=hid h1;have z2:=hid h2;have z3:=hid h3;clear h4 q5 h5 q6 h6 q7 h1 h8 h2 h9 h3 q4 p0 e0 r0 g0 x0 p1 e1 r1 g1 x3 p2 e2 r2 g2 x4;have J1:=hid (show inB 16 1 4096=true from rfl);have J2:=hid (aG.2 (show (0:Int)<=t/\t<=16 from ht));have q0:=(aRr w 122 [x,y,z]).ext (show Ext (w.alloc (.cells #[x,y,z] 122)) (((w.alloc (.cells #[x,y,z] 122)).alloc (.cells #[k,l,m] 122)).alloc (.cells #[(),(),()] 122)) from X_);have q1:=aRr (w.alloc (.cells #[x,y,z] 122)) 122 [k,l,m];have q2:=aRr ((w.alloc (.cells #[x,y,z] 122)).alloc (.cells #[k,l,m] 122)) 122 [(),(),()];simp only [aRj] at q1 q2;have R0:=hid q0;have R1:=hid (q1.alloc (.cells #[(),(),()] 122));have R2:=hid q2;have X0:=hid (show Ext w (((w.alloc (.cells #[x,y,z] 122)).alloc (.cells #[k,l,m] 122)).alloc (.cells #[(),(),()] 122)) from X_);clear q0 q1 q2;go_enter func211,ntmps211;go_wp2_with fail;refine aH [([2],0),([],1),([],3),([],4),([],5)] 5 (fun w'=>∃d,w'=fT (C1e (w.heap.size+1)) _ d) (by kernel_rfl) (by kernel_rfl) (SC.drew _ _) ?_;refine sc_ fun K hK=>?_;go_wp2_with fail;refine hK _ _ (.inr (SC.drew _ _)) ?_;clear hK K;refine sc_ fun K hK=>?_;go_wp2_with fail;refine r_ (eY z4.out z5.out z6.out _) fun w1 x1=>?_;have y1:Ext (((w.alloc (.cells #[x,y,z] 122)).alloc (.cells #[k,l,m] 122)).alloc (.cells #[(),(),()] 122)) w1:=aRo (aSk (aRu _)) x1;go_wp2_with fail;refine hK _ _ (.inr (SC.blocks fun a ha=>y1.block (by rw [show a.block=w.heap.size+1 from ha];simp))) ?_;clear hK K;refine sc_ fun K hK=>?_;go_wp2_with fail;refine r_ (eY z1.out z2.out z3.out _) fun w2 x2=>?_;have y2:=y1.trans x2;have D0:=R0.out.ext y2;have D1:=R1.out.ext y2;have D2:=R2.out.ext y2;have a0:=D0.free 0;have a1:=D0.free 1;have a2:=D0.free 2;have a3:=D0.cell 0 rfl;have a4:=D0.cell 1 rfl;have a5:=D0.cell 2 rfl;have a6:=D0.lt;have c0:=D1.free 0;have c1:=D1.free 1;have c2:=D1.free 2;have c3:=D1.cell 0 rfl;have c4:=D1.cell 1 rfl;have c5:=D1.cell 2 rfl;have c6:=D1.lt;go_wp2_with fail;refine hK _ _ (.inr (SC.blocks fun a ha=>y2.block (by rw [show a.block=w.heap.size+1 from ha];simp))) ?_;clear hK K;refine sc_ fun K hK=>?_;go_wp2_with fail;refine hK _ _ (.inr (SC.blocks fun a ha=>?_)) ?_
 ·have hb:a.block=w.heap.size+1:=ha
  rw [aRt _ _ _ _ (by rw [hb];simp),aRt _ _ _ _ (by rw [hb];simp),aRt _ _ _ _ (by rw [hb];simp)];exact y2.block (by rw [hb];simp)
 clear hK K;refine sc_ fun K hK=>?_;go_wp2_with fail;refine l_ hK ?_;clear hK K;refine aQ ?_
 have h0:w.heap.size≠w.heap.size+1:=by omega
 have q8:w.heap.size+2≠w.heap.size:=by omega
 have q9:w.heap.size+2≠w.heap.size+1:=by omega
 have E0:=((((((D0.set 0 (.int .i64 ux)).set 1 (.int .i64 uy)).set 2 (.int .i64 uz)).other (a:=⟨w.heap.size+1,0,none⟩) h0 (.int .i64 uk)).other (a:=⟨w.heap.size+1,1,none⟩) h0 (.int .i64 ul)).other (a:=⟨w.heap.size+1,2,none⟩) h0 (.int .i64 um))
 have E1:=((((((D1.other (a:=⟨w.heap.size,0,none⟩) h0.symm (.int .i64 ux)).other (a:=⟨w.heap.size,1,none⟩) h0.symm (.int .i64 uy)).other (a:=⟨w.heap.size,2,none⟩) h0.symm (.int .i64 uz)).set 0 (.int .i64 uk)).set 1 (.int .i64 ul)).set 2 (.int .i64 um))
 have E2:=((((((D2.other (a:=⟨w.heap.size,0,none⟩) q8 (.int .i64 ux)).other (a:=⟨w.heap.size,1,none⟩) q8 (.int .i64 uy)).other (a:=⟨w.heap.size,2,none⟩) q8 (.int .i64 uz)).other (a:=⟨w.heap.size+1,0,none⟩) q9 (.int .i64 uk)).other (a:=⟨w.heap.size+1,1,none⟩) q9 (.int .i64 ul)).other (a:=⟨w.heap.size+1,2,none⟩) q9 (.int .i64 um))
 have EX:Ext w ((((((w2.setCell ⟨w.heap.size,0,none⟩ ux).setCell ⟨w.heap.size,1,none⟩ uy).setCell ⟨w.heap.size,2,none⟩ uz).setCell ⟨w.heap.size+1,0,none⟩ uk).setCell ⟨w.heap.size+1,1,none⟩ ul).setCell ⟨w.heap.size+1,2,none⟩ um):=by
  have hX:=X0.out.trans y2;exact S_
 obtain ⟨w3,h7⟩:∃w3,((((((w2.setCell ⟨w.heap.size,0,none⟩ ux).setCell ⟨w.heap.size,1,none⟩ uy).setCell ⟨w.heap.size,2,none⟩ uz).setCell ⟨w.heap.size+1,0,none⟩ uk).setCell ⟨w.heap.size+1,1,none⟩ ul).setCell ⟨w.heap.size+1,2,none⟩ um)=w3:=⟨_,rfl⟩
 rw [h7] at E0 E1 E2 EX
 try simp only [Nat.add_assoc,aUl] at h7
 rw [h7];clear h7 a0 a1 a2 a3 a4 a5 a6 c0 c1 c2 c3 c4 c5 c6 D0 D1 D2 y1 y2 x1 x2;have a3:=E0.cell 0 rfl;have a4:=E0.cell 1 rfl;have a5:=E0.cell 2 rfl;have a6:=E0.lt;have c3:=E1.cell 0 rfl;have c4:=E1.cell 1 rfl;have c5:=E1.cell 2 rfl;have c6:=E1.lt;have x9:=hid E2;have z0:=hid EX;clear E0 E1 E2 EX;go_wp2_with (go_at_call 92;with_reducible first|(refine z_ (aL J1.out _) ?_)|(refine z_ (aL J2.out _) ?_));refine aA [([0,1,2,3,5,6,9],4),([],7),([],8),([],10),([],11)] 11 w3.heap.size (by kernel_rfl) (by kernel_rfl) ?_;refine st_ fun K hK=>?_;go_wp2_with fail;refine r_ (jM M0.out M1.out M2.out _) fun w5 x5=>?_;have y5:Ext w3 w5:=aRo (aSk (aRu _)) x5;go_wp2_with fail;refine k_ hK ?_;clear hK K;refine st_ fun K hK=>?_;go_wp2_with fail;refine r_ (jM N0.out N1.out N2.out _) fun w6 x6=>?_;have y6:=y5.trans x6;go_wp2_with fail;refine k_ hK ?_;clear hK K;refine st_ fun K hK=>?_;go_wp2_with fail;refine r_ (nX S0.out S1.out S2.out _) fun w7 x7=>?_;have y7:=y6.trans x7;go_wp2_with fail;refine k_ hK ?_;clear hK K;refine st_ fun K hK=>?_;go_wp2_with fail;refine r_ (aDl I0.out I1.out I2.out rfl rfl rfl _) fun w8 x8=>?_;have y8:=y7.trans x8;go_wp2_with fail;refine k_ hK ?_;clear hK K;have F2:=x9.out.ext y8;obtain ⟨k0,k1,k2⟩:=F2.q3;have f0:=F2.free 0;have f1:=F2.free 1;have f2:=F2.free 2;have fl:=F2.lt;have hX:=z0.out.trans y8;refine st_ fun K hK=>?_;go_wp2_with fail;refine l_ hK ?_;clear hK K;refine aC ?_;go_wp2;exact bodyPost_ret (v:=.agg #[.int .i64 (bT (q0+s0) 16),.int .i64 (bT (q1+s1) 16),.int .i64 (bT (q2+s2) 16)]) (by simp [results,results211,go_sem, *]) rfl ⟨rfl,S_⟩
def C2e (b c:Nat):Addr->Prop:=fun a=>a.block=b\/a.block=c
@[go_sem] theorem aQp {b c o:Nat} (h:k=b\/k=c):C2e b c ⟨k,o,none⟩:=h
theorem aK3 (f g:Nat->Int) (t:Int) (ht:0<=t/\t<=16) (w:World) :
  R_ 157 #[.agg f,.agg g,t] w (.agg (aX f g t)):=by
 have J2:=hid (aG.2 (show (0:Int)<=t/\t<=16 from ht))
 obtain ⟨q,hq⟩:∃q:Nat->Int,aX f g t=q:=⟨_,rfl⟩
 have HQ:=hid (fun j=>show gQ (f j) (g j) t 16=q j by rw [<-hq];rfl);have HT:=hid ht;rw [hq];clear ht hq;have j0:=pQ f 0 (by decide);have j1:=pQ f 1 (by decide);have j2:=pQ f 2 (by decide);have j3:=pQ f 3 (by decide);simp only [aZt,aSf,aVi,aUl,aZe,aXg] at j0 j1 j2 j3;have r0:=fV (w:=w) (t:=125) (f:=f) rfl;have r1:=fV (w:=(w.alloc (.cells f 125))) (t:=125) (f:=g) rfl;have r2:=fV (w:=((w.alloc (.cells f 125)).alloc (.cells g 125))) (t:=125) (f:=fun _=>0) rfl;simp only [aRj] at r1 r2;have R0:=hid ((r0.alloc (.cells g 125)).alloc (.cells #[(),(),(),(),(),(),(),(),(),(),(),()] 125));have R1:=hid (r1.alloc (.cells #[(),(),(),(),(),(),(),(),(),(),(),()] 125));have R2:=hid r2;have X0:=hid (show Ext w (((w.alloc (.cells f 125)).alloc (.cells g 125)).alloc (.cells #[(),(),(),(),(),(),(),(),(),(),(),()] 125)) from X_);clear r0 r1 r2;go_enter func157,ntmps157;go_wp2_with (go_at_call 92;refine z_ (aL J2 _) ?_)
 obtain ⟨W0,h4⟩:∃W0,(((w.alloc (.cells f 125)).alloc (.cells g 125)).alloc (.cells #[(),(),(),(),(),(),(),(),(),(),(),()] 125))=W0:=⟨_,rfl⟩
 rw [h4] at R0 R1 R2 X0 ⊢;clear h4
 go_loopw [15] (fun i wr=>∃k c:Nat,c=k*3/\k<=4/\i = .int .i64 (k:Nat)/\Ext w wr/\bK wr w.heap.size 125 12 (aDn f q c)/\bK wr (w.heap.size+1) 125 12 g/\bK wr (w.heap.size+2) 125 12 (fun _=>0)) (fun i _=>4 - (intOf i).toNat)
 case atStart=>exact ⟨0,0,rfl,by omega,rfl,X0,bK.mix0 R0,R1,R2⟩
 case round=>
  obtain ⟨k,c,hc,hk,rfl,hx,h0,h1,h2⟩:=hrel;have HX:=hid hx;have H0:=hid h0;have H1:=hid h1;have H2:=hid h2;have z0:=h0.lt;have z1:=h1.lt;have z2:=h2.lt;have zx:=hx.size;clear hx h0 h1 h2 R0 R1 R2 X0
  rcases (show k=0\/k=1\/k=2\/k=3\/k=4 by omega) with rfl|rfl|rfl|rfl|rfl
  ·obtain rfl:c=0:=by omega
   clear hc;have c0:=H1.cell (i:=0) (by decide);have c1:=H1.cell (i:=1) (by decide);have c2:=H1.cell (i:=2) (by decide);go_wp2_with fail;refine aH [([0,1,2,3,4,5,6,8],7),([9],10)] 99 (fun w'=>∃d,w'=fT (C2e (w.heap.size+1) wr.heap.size) _ d) (by kernel_rfl) (by kernel_rfl) (SC.drew _ _) ?_;refine sc_ fun K hK=>?_;go_wp2_with fail;refine r_ (pB (f 0) (f 1) (f 2) (g 0) (g 1) (g 2) t HT _) fun w3 x3=>?_;rw [HQ 0,HQ 1,HQ 2];have y3:Ext (wr.alloc (.cells #[(f 0),(f 1),(f 2)] 122)) w3:=aRo (aSk (aRu _)) x3;go_wp2_with fail;refine hK _ _ (.inr (SC.blocks fun a ha=>y3.block (by rcases ha with h|h <;> rw [h] <;> simp <;> omega))) ?_;clear hK K;have Y3:Ext wr w3:=aRo (show Ext wr (wr.alloc (.cells #[(f 0),(f 1),(f 2)] 122)) from X_) y3;have D0:=H0.ext Y3;have D1:=H1.ext Y3;have D2:=H2.ext Y3;have X3:=HX.trans Y3;have k0:=D0.cell (i:=0) (by decide);have k1:=D0.cell (i:=1) (by decide);have k2:=D0.cell (i:=2) (by decide);have f0:=D0.frozen 0;have f1:=D0.frozen 1;have f2:=D0.frozen 2;have fl:=D0.lt;have G0:=hid (bK.mix (c:=2) (bK.mix (c:=1) (bK.mix (c:=0) D0 rfl rfl) rfl rfl) rfl rfl)
   have n1:w.heap.size+1≠w.heap.size:=by omega
   have n2:w.heap.size+2≠w.heap.size:=by omega
   have G1:=hid (((D1.other (a:=⟨w.heap.size,0,none⟩) n1 (.int .i64 (q 0))).other (a:=⟨w.heap.size,1,none⟩) n1 (.int .i64 (q 1))).other (a:=⟨w.heap.size,2,none⟩) n1 (.int .i64 (q 2)));have G2:=hid (((D2.other (a:=⟨w.heap.size,0,none⟩) n2 (.int .i64 (q 0))).other (a:=⟨w.heap.size,1,none⟩) n2 (.int .i64 (q 1))).other (a:=⟨w.heap.size,2,none⟩) n2 (.int .i64 (q 2)));have GX:=hid (show Ext w (((w3.setCell ⟨w.heap.size,0,none⟩ (q 0)).setCell ⟨w.heap.size,1,none⟩ (q 1)).setCell ⟨w.heap.size,2,none⟩ (q 2)) from S_);have h3:=hid (fun a:Addr=>fun ha:C2e (w.heap.size+1) wr.heap.size a=>y3.block (show a.block<(wr.alloc (.cells #[(f 0),(f 1),(f 2)] 122)).heap.size by rcases ha with h|h <;> rw [h] <;> simp <;> omega));clear D0 D1 D2 X3 Y3 y3 x3 c0 c1 c2;refine sc_ fun K hK=>?_;go_wp2_with fail;refine hK _ _ (.inr (SC.blocks fun a ha=>?_)) ?_
   ·have hb:a.block≠w.heap.size:=by rcases ha with h|h <;> omega
    rw [aRt _ _ _ _ (by exact hb),aRt _ _ _ _ (by exact hb),aRt _ _ _ _ (by exact hb)];exact h3.out a ha
   clear hK K;refine aQ ?_;go_wp2;go_roundw
   case rel=>exact ⟨1,3,rfl,by omega,by go_num,GX,G0,G1,G2⟩
   case measure=>simp [intOf]
  ·obtain rfl:c=3:=by omega
   clear hc;have c0:=H1.cell (i:=3) (by decide);have c1:=H1.cell (i:=4) (by decide);have c2:=H1.cell (i:=5) (by decide);go_wp2_with fail;refine aH [([0,1,2,3,4,5,6,8],7),([9],10)] 99 (fun w'=>∃d,w'=fT (C2e (w.heap.size+1) wr.heap.size) _ d) (by kernel_rfl) (by kernel_rfl) (SC.drew _ _) ?_;refine sc_ fun K hK=>?_;go_wp2_with fail;refine r_ (pB (f 3) (f 4) (f 5) (g 3) (g 4) (g 5) t HT _) fun w3 x3=>?_;rw [HQ 3,HQ 4,HQ 5];have y3:Ext (wr.alloc (.cells #[(f 3),(f 4),(f 5)] 122)) w3:=aRo (aSk (aRu _)) x3;go_wp2_with fail;refine hK _ _ (.inr (SC.blocks fun a ha=>y3.block (by rcases ha with h|h <;> rw [h] <;> simp <;> omega))) ?_;clear hK K;have Y3:Ext wr w3:=aRo (show Ext wr (wr.alloc (.cells #[(f 3),(f 4),(f 5)] 122)) from X_) y3;have D0:=H0.ext Y3;have D1:=H1.ext Y3;have D2:=H2.ext Y3;have X3:=HX.trans Y3;have k0:=D0.cell (i:=3) (by decide);have k1:=D0.cell (i:=4) (by decide);have k2:=D0.cell (i:=5) (by decide);have f0:=D0.frozen 3;have f1:=D0.frozen 4;have f2:=D0.frozen 5;have fl:=D0.lt;have G0:=hid (bK.mix (c:=5) (bK.mix (c:=4) (bK.mix (c:=3) D0 rfl rfl) rfl rfl) rfl rfl)
   have n1:w.heap.size+1≠w.heap.size:=by omega
   have n2:w.heap.size+2≠w.heap.size:=by omega
   have G1:=hid (((D1.other (a:=⟨w.heap.size,3,none⟩) n1 (.int .i64 (q 3))).other (a:=⟨w.heap.size,4,none⟩) n1 (.int .i64 (q 4))).other (a:=⟨w.heap.size,5,none⟩) n1 (.int .i64 (q 5)));have G2:=hid (((D2.other (a:=⟨w.heap.size,3,none⟩) n2 (.int .i64 (q 3))).other (a:=⟨w.heap.size,4,none⟩) n2 (.int .i64 (q 4))).other (a:=⟨w.heap.size,5,none⟩) n2 (.int .i64 (q 5)));have GX:=hid (show Ext w (((w3.setCell ⟨w.heap.size,3,none⟩ (q 3)).setCell ⟨w.heap.size,4,none⟩ (q 4)).setCell ⟨w.heap.size,5,none⟩ (q 5)) from S_);have h3:=hid (fun a:Addr=>fun ha:C2e (w.heap.size+1) wr.heap.size a=>y3.block (show a.block<(wr.alloc (.cells #[(f 3),(f 4),(f 5)] 122)).heap.size by rcases ha with h|h <;> rw [h] <;> simp <;> omega));clear D0 D1 D2 X3 Y3 y3 x3 c0 c1 c2;refine sc_ fun K hK=>?_;go_wp2_with fail;refine hK _ _ (.inr (SC.blocks fun a ha=>?_)) ?_
   ·have hb:a.block≠w.heap.size:=by rcases ha with h|h <;> omega
    rw [aRt _ _ _ _ (by exact hb),aRt _ _ _ _ (by exact hb),aRt _ _ _ _ (by exact hb)];exact h3.out a ha
   clear hK K;refine aQ ?_;go_wp2;go_roundw
   case rel=>exact ⟨2,6,rfl,by omega,by go_num,GX,G0,G1,G2⟩
   case measure=>simp [intOf]
  ·obtain rfl:c=6:=by omega
   clear hc;have c0:=H1.cell (i:=6) (by decide);have c1:=H1.cell (i:=7) (by decide);have c2:=H1.cell (i:=8) (by decide);go_wp2_with fail;refine aH [([0,1,2,3,4,5,6,8],7),([9],10)] 99 (fun w'=>∃d,w'=fT (C2e (w.heap.size+1) wr.heap.size) _ d) (by kernel_rfl) (by kernel_rfl) (SC.drew _ _) ?_;refine sc_ fun K hK=>?_;go_wp2_with fail;refine r_ (pB (f 6) (f 7) (f 8) (g 6) (g 7) (g 8) t HT _) fun w3 x3=>?_;rw [HQ 6,HQ 7,HQ 8];have y3:Ext (wr.alloc (.cells #[(f 6),(f 7),(f 8)] 122)) w3:=aRo (aSk (aRu _)) x3;go_wp2_with fail;refine hK _ _ (.inr (SC.blocks fun a ha=>y3.block (by rcases ha with h|h <;> rw [h] <;> simp <;> omega))) ?_;clear hK K;have Y3:Ext wr w3:=aRo (show Ext wr (wr.alloc (.cells #[(f 6),(f 7),(f 8)] 122)) from X_) y3;have D0:=H0.ext Y3;have D1:=H1.ext Y3;have D2:=H2.ext Y3;have X3:=HX.trans Y3;have k0:=D0.cell (i:=6) (by decide);have k1:=D0.cell (i:=7) (by decide);have k2:=D0.cell (i:=8) (by decide);have f0:=D0.frozen 6;have f1:=D0.frozen 7;have f2:=D0.frozen 8;have fl:=D0.lt;have G0:=hid (bK.mix (c:=8) (bK.mix (c:=7) (bK.mix (c:=6) D0 rfl rfl) rfl rfl) rfl rfl)
   have n1:w.heap.size+1≠w.heap.size:=by omega
   have n2:w.heap.size+2≠w.heap.size:=by omega
   have G1:=hid (((D1.other (a:=⟨w.heap.size,6,none⟩) n1 (.int .i64 (q 6))).other (a:=⟨w.heap.size,7,none⟩) n1 (.int .i64 (q 7))).other (a:=⟨w.heap.size,8,none⟩) n1 (.int .i64 (q 8)));have G2:=hid (((D2.other (a:=⟨w.heap.size,6,none⟩) n2 (.int .i64 (q 6))).other (a:=⟨w.heap.size,7,none⟩) n2 (.int .i64 (q 7))).other (a:=⟨w.heap.size,8,none⟩) n2 (.int .i64 (q 8)));have GX:=hid (show Ext w (((w3.setCell ⟨w.heap.size,6,none⟩ (q 6)).setCell ⟨w.heap.size,7,none⟩ (q 7)).setCell ⟨w.heap.size,8,none⟩ (q 8)) from S_);have h3:=hid (fun a:Addr=>fun ha:C2e (w.heap.size+1) wr.heap.size a=>y3.block (show a.block<(wr.alloc (.cells #[(f 6),(f 7),(f 8)] 122)).heap.size by rcases ha with h|h <;> rw [h] <;> simp <;> omega));clear D0 D1 D2 X3 Y3 y3 x3 c0 c1 c2;refine sc_ fun K hK=>?_;go_wp2_with fail;refine hK _ _ (.inr (SC.blocks fun a ha=>?_)) ?_
   ·have hb:a.block≠w.heap.size:=by rcases ha with h|h <;> omega
    rw [aRt _ _ _ _ (by exact hb),aRt _ _ _ _ (by exact hb),aRt _ _ _ _ (by exact hb)];exact h3.out a ha
   clear hK K;refine aQ ?_;go_wp2;go_roundw
   case rel=>exact ⟨3,9,rfl,by omega,by go_num,GX,G0,G1,G2⟩
   case measure=>simp [intOf]
  ·obtain rfl:c=9:=by omega
   clear hc;have c0:=H1.cell (i:=9) (by decide);have c1:=H1.cell (i:=10) (by decide);have c2:=H1.cell (i:=11) (by decide);go_wp2_with fail;refine aH [([0,1,2,3,4,5,6,8],7),([9],10)] 99 (fun w'=>∃d,w'=fT (C2e (w.heap.size+1) wr.heap.size) _ d) (by kernel_rfl) (by kernel_rfl) (SC.drew _ _) ?_;refine sc_ fun K hK=>?_;go_wp2_with fail;refine r_ (pB (f 9) (f 10) (f 11) (g 9) (g 10) (g 11) t HT _) fun w3 x3=>?_;rw [HQ 9,HQ 10,HQ 11];have y3:Ext (wr.alloc (.cells #[(f 9),(f 10),(f 11)] 122)) w3:=aRo (aSk (aRu _)) x3;go_wp2_with fail;refine hK _ _ (.inr (SC.blocks fun a ha=>y3.block (by rcases ha with h|h <;> rw [h] <;> simp <;> omega))) ?_;clear hK K;have Y3:Ext wr w3:=aRo (show Ext wr (wr.alloc (.cells #[(f 9),(f 10),(f 11)] 122)) from X_) y3;have D0:=H0.ext Y3;have D1:=H1.ext Y3;have D2:=H2.ext Y3;have X3:=HX.trans Y3;have k0:=D0.cell (i:=9) (by decide);have k1:=D0.cell (i:=10) (by decide);have k2:=D0.cell (i:=11) (by decide);have f0:=D0.frozen 9;have f1:=D0.frozen 10;have f2:=D0.frozen 11;have fl:=D0.lt;have G0:=hid (bK.mix (c:=11) (bK.mix (c:=10) (bK.mix (c:=9) D0 rfl rfl) rfl rfl) rfl rfl)
   have n1:w.heap.size+1≠w.heap.size:=by omega
   have n2:w.heap.size+2≠w.heap.size:=by omega
   have G1:=hid (((D1.other (a:=⟨w.heap.size,9,none⟩) n1 (.int .i64 (q 9))).other (a:=⟨w.heap.size,10,none⟩) n1 (.int .i64 (q 10))).other (a:=⟨w.heap.size,11,none⟩) n1 (.int .i64 (q 11)));have G2:=hid (((D2.other (a:=⟨w.heap.size,9,none⟩) n2 (.int .i64 (q 9))).other (a:=⟨w.heap.size,10,none⟩) n2 (.int .i64 (q 10))).other (a:=⟨w.heap.size,11,none⟩) n2 (.int .i64 (q 11)));have GX:=hid (show Ext w (((w3.setCell ⟨w.heap.size,9,none⟩ (q 9)).setCell ⟨w.heap.size,10,none⟩ (q 10)).setCell ⟨w.heap.size,11,none⟩ (q 11)) from S_);have h3:=hid (fun a:Addr=>fun ha:C2e (w.heap.size+1) wr.heap.size a=>y3.block (show a.block<(wr.alloc (.cells #[(f 9),(f 10),(f 11)] 122)).heap.size by rcases ha with h|h <;> rw [h] <;> simp <;> omega));clear D0 D1 D2 X3 Y3 y3 x3 c0 c1 c2;refine sc_ fun K hK=>?_;go_wp2_with fail;refine hK _ _ (.inr (SC.blocks fun a ha=>?_)) ?_
   ·have hb:a.block≠w.heap.size:=by rcases ha with h|h <;> omega
    rw [aRt _ _ _ _ (by exact hb),aRt _ _ _ _ (by exact hb),aRt _ _ _ _ (by exact hb)];exact h3.out a ha
   clear hK K;refine aQ ?_;go_wp2;go_roundw
   case rel=>exact ⟨4,12,rfl,by omega,by go_num,GX,G0,G1,G2⟩
   case measure=>simp [intOf]
  ·obtain rfl:c=12:=by omega
   clear hc;have h0:=bK.mixAll H0;have c0:=h0.cell (i:=0) (by decide);have d0:=H2.cell (i:=0) (by decide);have e0:=H2.frozen 0;have c1:=h0.cell (i:=1) (by decide);have d1:=H2.cell (i:=1) (by decide);have e1:=H2.frozen 1;have c2:=h0.cell (i:=2) (by decide);have d2:=H2.cell (i:=2) (by decide);have e2:=H2.frozen 2;have c3:=h0.cell (i:=3) (by decide);have d3:=H2.cell (i:=3) (by decide);have e3:=H2.frozen 3;have c4:=h0.cell (i:=4) (by decide);have d4:=H2.cell (i:=4) (by decide);have e4:=H2.frozen 4;have c5:=h0.cell (i:=5) (by decide);have d5:=H2.cell (i:=5) (by decide);have e5:=H2.frozen 5;have c6:=h0.cell (i:=6) (by decide);have d6:=H2.cell (i:=6) (by decide);have e6:=H2.frozen 6;have c7:=h0.cell (i:=7) (by decide);have d7:=H2.cell (i:=7) (by decide);have e7:=H2.frozen 7;have c8:=h0.cell (i:=8) (by decide);have d8:=H2.cell (i:=8) (by decide);have e8:=H2.frozen 8;have c9:=h0.cell (i:=9) (by decide);have d9:=H2.cell (i:=9) (by decide);have e9:=H2.frozen 9;have h5:=h0.cell (i:=10) (by decide);have h7:=H2.cell (i:=10) (by decide);have h9:=H2.frozen 10;have h6:=h0.cell (i:=11) (by decide);have h8:=H2.cell (i:=11) (by decide);have q0:=H2.frozen 11;have hE:=HX.out;clear h0;go_wp2;exact bodyPost_ret (v:=.agg q) (by simp [results,results157,go_sem, *]) rfl ⟨rfl,S_⟩
theorem wX (f g:Nat->Int) (sh rt t:Int) (ht:0<=t/\t<=16) (w:World) :
  R_ 103 #[.agg #[(f 0),(f 1),(f 2),(f 3),(f 4),(f 5),(f 6),(f 7),(f 8),(f 9),(f 10),(f 11),(g 0),(g 1),(g 2),(g 3),(g 4),(g 5),(g 6),(g 7),(g 8),(g 9),(g 10),(g 11),sh,rt],t] w (.agg (aX f g t)):=by
 have HT:=hid ht;have q0:=aRr w 127 [(f 0),(f 1),(f 2),(f 3),(f 4),(f 5),(f 6),(f 7),(f 8),(f 9),(f 10),(f 11),(g 0),(g 1),(g 2),(g 3),(g 4),(g 5),(g 6),(g 7),(g 8),(g 9),(g 10),(g 11),sh,rt];have q1:=aRr (w.alloc (.cells #[(f 0),(f 1),(f 2),(f 3),(f 4),(f 5),(f 6),(f 7),(f 8),(f 9),(f 10),(f 11),(g 0),(g 1),(g 2),(g 3),(g 4),(g 5),(g 6),(g 7),(g 8),(g 9),(g 10),(g 11),sh,rt] 127)) 125 [(),(),(),(),(),(),(),(),(),(),(),()];rw [aRj] at q1;have R1:=hid q1;have X0:=hid (show Ext w ((w.alloc (.cells #[(f 0),(f 1),(f 2),(f 3),(f 4),(f 5),(f 6),(f 7),(f 8),(f 9),(f 10),(f 11),(g 0),(g 1),(g 2),(g 3),(g 4),(g 5),(g 6),(g 7),(g 8),(g 9),(g 10),(g 11),sh,rt] 127)).alloc (.cells #[(),(),(),(),(),(),(),(),(),(),(),()] 125)) from X_);clear q1 q0 ht;go_enter func103,ntmps103;go_wp2_with fail;refine r_ (aK3 f g t HT _) fun w1 x1=>?_;have D:=R1.ext x1;have d0:=D.cell 0 rfl;have e0:=D.free 0;have d1:=D.cell 1 rfl;have e1:=D.free 1;have d2:=D.cell 2 rfl;have e2:=D.free 2;have d3:=D.cell 3 rfl;have e3:=D.free 3;have d4:=D.cell 4 rfl;have e4:=D.free 4;have d5:=D.cell 5 rfl;have e5:=D.free 5;have d6:=D.cell 6 rfl;have e6:=D.free 6;have d7:=D.cell 7 rfl;have e7:=D.free 7;have d8:=D.cell 8 rfl;have e8:=D.free 8;have d9:=D.cell 9 rfl;have e9:=D.free 9;have h0:=D.cell 10 rfl;have h2:=D.free 10;have h1:=D.cell 11 rfl;have h3:=D.free 11;have hE:=X0.trans x1;clear D;go_wp2;exact bodyPost_ret (v:=.agg (aX f g t)) (by simp [results,results103,go_sem, *]) rfl ⟨rfl,S_⟩
theorem wY (c:Cam) (f:Nat->Int) (n:Nat) (s:Smp) (hn:1<=n/\n<=8) (w:World) :
  Calls aRn 102 #[.agg c,.agg f,(n:Nat),s.lx,s.ly] w fun e w'=>∃r,e = .returned r/\aE Mc.cs w.heap.size 155 12 w' r (kT c f n s)/\Ext w w':=by
 go_enter func102,ntmps102;go_wp2_with fail;refine (aCi c f n s hn _).mono ?_;rintro e w1 ⟨r,rfl,hO,x1⟩;go_wp2;go_ret;exact ⟨r,rfl,aE.low hO (by simp;omega),aRo X_ x1⟩
def V3.scr (v:V3):Prop:=(-100000<=v.x/\v.x<=100000)/\(-100000<=v.y/\v.y<=100000)
structure aH5 (w:World) (D A E:Nat) (a b:V3):Prop where
 ld:D<w.heap.size
 la:A<w.heap.size
 le:E<w.heap.size
 d:w.cell? ⟨D,0,none⟩=some (.int .i64 (b.x - a.x))
 a0:w.cell? ⟨A,0,none⟩=some (.int .i64 a.x)
 a1:w.cell? ⟨A,1,none⟩=some (.int .i64 a.y)
 e:w.cell? ⟨E,0,none⟩=some (.int .i64 (b.y - a.y))
theorem sA {a b s:V3} (ha:a.scr) (hb:b.scr) (hs:s.scr) :
  (-40000000000<=(b.x - a.x)*(s.y - a.y)/\(b.x - a.x)*(s.y - a.y)<=40000000000)/\(-40000000000<=(b.y - a.y)*(s.x - a.x)/\(b.y - a.y)*(s.x - a.x)<=40000000000):=by
 obtain ⟨a1,a2⟩:=ha;obtain ⟨b1,b2⟩:=hb;obtain ⟨s1,s2⟩:=hs;exact ⟨aY (A:=200000) (B:=200000) (by omega) (by omega),aY (A:=200000) (B:=200000) (by omega) (by omega)⟩
theorem eM (ax ay az bx by' bz:Int) (ha:V3.scr ⟨ax,ay,az⟩) (hb:V3.scr ⟨bx,by',bz⟩) (w:World) :
  Calls aRn 215 #[.agg #[ax,ay,az],.agg #[bx,by',bz]] w fun e w'=>∃D A E,e = .returned (.func (.func 246) #[] #[.pointer (some ⟨D,0,none⟩),.pointer (some ⟨A,0,none⟩),.pointer (some ⟨E,0,none⟩)])/\aH5 w' D A E ⟨ax,ay,az⟩ ⟨bx,by',bz⟩/\Ext w w':=by
 obtain ⟨a1,a2⟩:=ha;obtain ⟨b1,b2⟩:=hb;simp only at a1 a2 b1 b2;have h0:∀(w:World) (D A E:Nat),(aV4 (.func 246) #[] #[.pointer (some ⟨D,0,none⟩),.pointer (some ⟨A,0,none⟩),.pointer (some ⟨E,0,none⟩)]).run aRn w = .ok (.func (.func 246) #[] #[.pointer (some ⟨D,0,none⟩),.pointer (some ⟨A,0,none⟩),.pointer (some ⟨E,0,none⟩)]) w:=fun _ _ _ _=>rfl;go_enter func215,ntmps215;go_upto_region 1 with fail
 go_cut [5,6] from 7 to 16 (fun u v wx=>∃D E,u = .pointer (some ⟨D,0,none⟩)/\v = .pointer (some ⟨E,0,none⟩)/\Ext w wx/\D<wx.heap.size/\E<wx.heap.size/\w.heap.size<wx.heap.size/\wx.cell? ⟨w.heap.size,0,none⟩=some (.int .i64 ax)/\wx.cell? ⟨w.heap.size,1,none⟩=some (.int .i64 ay)/\wx.cell? ⟨D,0,none⟩=some (.int .i64 (bx - ax))/\wx.cell? ⟨E,0,none⟩=some (.int .i64 (by' - ay)))
 case first=>
  refine dI 13 (w.heap.size+1+1) (by kernel_rfl) ?_;refine z2_ (fuel:=3) [0,1,2,3,4,5,6,7,8,9] 10 11 (fun _ _ _=>rfl) (fun K hK=>?_) fun K hK=>?_
  ·go_wp2
   refine hK _ _ (.inr (fun b _ hb=>aRv X_ (by simp;omega))) ?_;clear hK K;refine z1_ (fuel:=2) [] 11 (fun b _ hb=>aRv X_ (by simp;omega)) fun K hK=>?_;go_wp2;refine hK _ _ (.inr (fun b _ hb=>aRv X_ (by simp;omega))) ?_;clear hK K;refine z1_ (fuel:=1) [] 12 (fun b _ hb=>aRv X_ (by simp;omega)) fun K hK=>?_;go_wp2;refine hK _ _ (.inr (fun b _ hb=>aRv S_ (by simp;omega))) ?_;clear hK K;refine z1_ (fuel:=0) [] 13 (fun b _ hb=>aRv S_ (by simp;omega)) fun K hK=>?_;go_wp2;refine l_ hK ?_;clear hK K;refine cC (by kernel_rfl) ?_;go_wp2_with fail
   go_meet
   refine ⟨_,_,rfl,rfl,S_,by simp <;> omega,by simp <;> omega,by simp <;> omega,by simp [go_sem, *],by simp [go_sem, *],by simp [go_sem, *],by simp [go_sem, *]⟩
  ·go_wp2
   refine hK _ _ (.inr (fun b _ hb=>aRv X_ (by simp;omega))) ?_;clear hK K;refine z1_ (fuel:=2) [] 10 (fun b _ hb=>aRv X_ (by simp;omega)) fun K hK=>?_;go_wp2;refine hK _ _ (.inr (fun b _ hb=>aRv X_ (by simp;omega))) ?_;clear hK K;refine z1_ (fuel:=1) [] 12 (fun b _ hb=>aRv X_ (by simp;omega)) fun K hK=>?_;go_wp2;refine hK _ _ (.inr (fun b _ hb=>aRv S_ (by simp;omega))) ?_;clear hK K;refine z1_ (fuel:=0) [] 13 (fun b _ hb=>aRv S_ (by simp;omega)) fun K hK=>?_;go_wp2;refine l_ hK ?_;clear hK K;refine cC (by kernel_rfl) ?_;go_wp2_with fail
   go_meet
   refine ⟨_,_,rfl,rfl,S_,by simp <;> omega,by simp <;> omega,by simp <;> omega,by simp [go_sem, *],by simp [go_sem, *],by simp [go_sem, *],by simp [go_sem, *]⟩
 case rest=>
  obtain ⟨D,E,rfl,rfl,hE,l1,l2,l3,c0,c1,c2,c3⟩:=hcut;go_wp2;go_ret;exact ⟨_,_,_,rfl,⟨l1,l3,l2,c2,c0,c1,c3⟩,hE⟩
theorem dK {a b:V3} (sx sy sz:Int) (hd:aW a b ⟨sx,sy,sz⟩=d) (ha:a.scr) (hb:b.scr) (hs:V3.scr ⟨sx,sy,sz⟩) {D A E:Nat} (w:World) (hE:aH5 w D A E a b) :
  R_ 246 #[.agg #[sx,sy,sz],.pointer (some ⟨D,0,none⟩),.pointer (some ⟨A,0,none⟩),.pointer (some ⟨E,0,none⟩)] w (.int .i64 d):=by
 have q:=sA ha hb hs;unfold aW at hd;obtain ⟨a1,a2⟩:=ha;obtain ⟨b1,b2⟩:=hb;obtain ⟨s1,s2⟩:=hs;obtain ⟨x1,x2,x3,d0,d1,d2,d3⟩:=hE;obtain ⟨ax,ay,az⟩:=a;obtain ⟨bx,h0,bz⟩:=b;simp only at hd q a1 a2 b1 b2 s1 s2 d0 d1 d2 d3
 obtain ⟨p1,e1⟩:∃n,(bx - ax)*(sy - ay)=n:=⟨_,rfl⟩
 obtain ⟨p2,e2⟩:∃n,(h0 - ay)*(sx - ax)=n:=⟨_,rfl⟩
 rw [e1,e2] at hd q
 obtain ⟨u1,f1⟩:∃n,bx - ax=n:=⟨_,rfl⟩
 obtain ⟨u2,f2⟩:∃n,h0 - ay=n:=⟨_,rfl⟩
 rw [f1] at d0 e1;rw [f2] at d3 e2;have HD:=hid hd;clear f1 f2 b1 b2 hd;go_enter func246,ntmps246;go_wp2;go_ret;exact ⟨cK HD,X_⟩
theorem aT {v:V3} (h:v.scr):Hid v.scr:=h
theorem sB (ax ay az bx by' bz cx cy cz:Int) (ha:V3.scr ⟨ax,ay,az⟩) (hb:V3.scr ⟨bx,by',bz⟩) (hc:V3.scr ⟨cx,cy,cz⟩) (hd:aW ⟨ax,ay,az⟩ ⟨bx,by',bz⟩ ⟨cx,cy,cz⟩=d) (w:World):R_ 216 #[.agg #[ax,ay,az,bx,by',bz,cx,cy,cz]] w (.int .i64 d):=by
 have Ha:=aT ha;have Hb:=aT hb;have Hc:=aT hc;have HD:=hid hd;have y0:Ext w (w.alloc (.cells #[ax,ay,az,bx,by',bz,cx,cy,cz] 153)):=X_;have Y0:=hid y0;clear ha hb hc hd y0;go_enter func216,ntmps216;go_wp2_with fail;refine aA [([0,1,2,3,4,5,7,8,9],6),([],10),([],11)] 11 (w.heap.size+1) (by kernel_rfl) (by kernel_rfl) ?_;refine st_ fun K hK=>?_;go_wp2_with fail;refine (eM ax ay az bx by' bz Ha Hb _).mono ?_;rintro e w1 ⟨D,A,E,rfl,hE,x1⟩;have y1:Ext (w.alloc (.cells #[ax,ay,az,bx,by',bz,cx,cy,cz] 153)) w1:=aRo (aSk (aRu _)) x1;go_wp2_with fail;refine hK _ _ (.inr (y1.same (by rw [aRj];exact aRi _))) ?_;clear hK K;refine st_ fun K hK=>?_;go_wp2_with fail;refine r_ (dK cx cy cz HD Ha Hb Hc _ hE) fun w2 x2=>?_;have y2:=y1.trans x2;go_wp2_with fail;refine hK _ _ (.inr (y2.same (by rw [aRj];exact aRi _))) ?_;clear hK K;refine st_ fun K hK=>?_;go_wp2_with fail;refine l_ hK ?_;clear hK K;refine aC ?_;go_wp2;go_ret;exact ⟨rfl,Y0.trans y2⟩
theorem aPf {a b s:V3}:dJ a b s=true↔(0<aW a b s\/aW a b s=0/\(b.y<a.y\/b.y=a.y/\a.x<b.x)):=by
 unfold dJ;simp only [Bool.or_eq_true,decide_eq_true_eq,aRy,beq_iff_eq]
structure sC (w:World) (B:Nat) (a b c:V3):Prop where
 lt:B<w.heap.size
 c0:w.cell? ⟨B,0,none⟩=some (.int .i64 a.x)
 c1:w.cell? ⟨B,1,none⟩=some (.int .i64 a.y)
 c2:w.cell? ⟨B,2,none⟩=some (.int .i64 a.z)
 c3:w.cell? ⟨B,3,none⟩=some (.int .i64 b.x)
 c4:w.cell? ⟨B,4,none⟩=some (.int .i64 b.y)
 c5:w.cell? ⟨B,5,none⟩=some (.int .i64 b.z)
 c6:w.cell? ⟨B,6,none⟩=some (.int .i64 c.x)
 c7:w.cell? ⟨B,7,none⟩=some (.int .i64 c.y)
 c8:w.cell? ⟨B,8,none⟩=some (.int .i64 c.z)
theorem sC.ext {a b c:V3} (h:sC w B a b c) (x:Ext w w'):sC w' B a b c:=
 ⟨aS5 h.lt x.size,(x.cells.1 _ _ h.lt).trans h.c0,(x.cells.1 _ _ h.lt).trans h.c1,(x.cells.1 _ _ h.lt).trans h.c2,(x.cells.1 _ _ h.lt).trans h.c3,(x.cells.1 _ _ h.lt).trans h.c4,(x.cells.1 _ _ h.lt).trans h.c5,(x.cells.1 _ _ h.lt).trans h.c6,(x.cells.1 _ _ h.lt).trans h.c7,(x.cells.1 _ _ h.lt).trans h.c8⟩
structure sD (w:World) (B:Nat) (s:V3):Prop where
 lt:B<w.heap.size
 c0:w.cell? ⟨B,0,none⟩=some (.int .i64 s.x)
 c1:w.cell? ⟨B,1,none⟩=some (.int .i64 s.y)
 c2:w.cell? ⟨B,2,none⟩=some (.int .i64 s.z)
theorem sD.ext {s:V3} (h:sD w B s) (x:Ext w w'):sD w' B s:=
 ⟨aS5 h.lt x.size,(x.cells.1 _ _ h.lt).trans h.c0,(x.cells.1 _ _ h.lt).trans h.c1,(x.cells.1 _ _ h.lt).trans h.c2⟩
theorem tR (px py qx qy:Int):decide (qy<py)=true\/(decide (qy<py)=false/\(qy==py)=true/\decide (px<qx)=true)\/(decide (qy<py)=false/\(qy==py)=true/\decide (px<qx)=false)\/(decide (qy<py)=false/\(qy==py)=false):=by
 simp only [decide_eq_true_eq,decide_eq_false_iff_not,beq_iff_eq,beq_eq_false_iff_ne];omega
theorem tS (d:Int):decide (d<0)=true\/(decide (d<0)=false/\(d==0)=true)\/(decide (d<0)=false/\(d==0)=false):=by
 simp only [decide_eq_true_eq,decide_eq_false_iff_not,beq_iff_eq,beq_eq_false_iff_ne];omega
theorem mF {px py pz qx qy qz:Int} {s:V3} (hd:aW ⟨px,py,pz⟩ ⟨qx,qy,qz⟩ s=d):dJ ⟨px,py,pz⟩ ⟨qx,qy,qz⟩ s=(!(decide (d<0)||((d==0) && !(decide (qy<py)||((qy==py)&&decide (px<qx)))))):=by
 unfold dJ;rw [hd];simp only
 by_cases h1:d<0
 ·simp [h1];omega
 ·by_cases h2:d=0
  ·subst h2;simp
  ·have h3:0<d:=by omega
   simp [h1,h2,h3]
theorem sC.of {a b c:V3} (h:Blk w B t [a.x,a.y,a.z,b.x,b.y,b.z,c.x,c.y,c.z]):sC w B a b c:=
 ⟨h.lt,h.cell 0 rfl,h.cell 1 rfl,h.cell 2 rfl,h.cell 3 rfl,h.cell 4 rfl,h.cell 5 rfl,h.cell 6 rfl,h.cell 7 rfl,h.cell 8 rfl⟩
theorem sD.of {s:V3} (h:Blk w B t [s.x,s.y,s.z]):sD w B s:=⟨h.lt,h.cell 0 rfl,h.cell 1 rfl,h.cell 2 rfl⟩
theorem aGc (ax ay az bx by' bz cx cy cz:Int) (ha:V3.scr ⟨ax,ay,az⟩) (hb:V3.scr ⟨bx,by',bz⟩) (hc:V3.scr ⟨cx,cy,cz⟩) (sx sy sz:Int) (hs:V3.scr ⟨sx,sy,sz⟩) {r:Bool} (hp:0<aW ⟨ax,ay,az⟩ ⟨bx,by',bz⟩ ⟨cx,cy,cz⟩) (hr:(dJ ⟨ax,ay,az⟩ ⟨bx,by',bz⟩ ⟨sx,sy,sz⟩&&dJ ⟨bx,by',bz⟩ ⟨cx,cy,cz⟩ ⟨sx,sy,sz⟩&&dJ ⟨cx,cy,cz⟩ ⟨ax,ay,az⟩ ⟨sx,sy,sz⟩)=r) (w:World):R_ 212 #[.agg #[ax,ay,az,bx,by',bz,cx,cy,cz],.agg #[sx,sy,sz]] w (.bool r):=by
 have Ha:=aT ha;have Hb:=aT hb;have Hc:=aT hc;have Hs:=aT hs
 obtain ⟨d0,h2⟩:∃d,aW ⟨ax,ay,az⟩ ⟨bx,by',bz⟩ ⟨cx,cy,cz⟩=d:=⟨_,rfl⟩
 have HA:=hid h2
 have i0:∀w:World,(aUy 151 (.agg #[ax,ay,az,bx,by',bz,cx,cy,cz]) (.int .i64 0)).run aRn w = .ok (.agg #[ax,ay,az]) w:=fun _=>by kernel_rfl
 have i1:∀w:World,(aUy 151 (.agg #[ax,ay,az,bx,by',bz,cx,cy,cz]) (.int .i64 1)).run aRn w = .ok (.agg #[bx,by',bz]) w:=fun _=>by kernel_rfl
 have i2:∀w:World,(aUy 151 (.agg #[ax,ay,az,bx,by',bz,cx,cy,cz]) (.int .i64 2)).run aRn w = .ok (.agg #[cx,cy,cz]) w:=fun _=>by kernel_rfl
 have HR:=hid hr;rw [h2] at hp;clear ha hb hc hs hr h2
 have z1:(d0==0)=false:=by rw [beq_eq_false_iff_ne];omega
 have z2:decide (d0<0)=false:=by rw [decide_eq_false_iff_not];omega
 have h3:=aRr w 153 [ax,ay,az,bx,by',bz,cx,cy,cz];have h1:=aRr (w.alloc (.cells #[ax,ay,az,bx,by',bz,cx,cy,cz] 153)) 122 [sx,sy,sz];rw [aRj] at h1;have y0:Ext w ((w.alloc (.cells #[ax,ay,az,bx,by',bz,cx,cy,cz] 153)).alloc (.cells #[sx,sy,sz] 122)):=X_;have B0:=hid (h3.alloc (.cells #[sx,sy,sz] 122));have B1:=hid h1;have Y0:=hid y0;clear h3 h1 y0;go_enter func212,ntmps212;go_wp2_with fail;refine r_ (sB ax ay az bx by' bz cx cy cz Ha Hb Hc HA _) fun w1 x1=>?_;have q0:=hid (B0.ext x1);have q1:=hid (B1.ext x1);have X1:=hid (Y0.trans x1);clear x1 B0 B1 Y0;have Q0:=hid (sC.of (a:=⟨ax,ay,az⟩) (b:=⟨bx,by',bz⟩) (c:=⟨cx,cy,cz⟩) q0.out);have Q1:=hid (sD.of (s:=⟨sx,sy,sz⟩) q1.out);have t0:=Q0.lt;have u0:=Q0.c0;have u1:=Q0.c1;have u2:=Q0.c2;have u3:=Q0.c3;have u4:=Q0.c4;have u5:=Q0.c5;have u6:=Q0.c6;have u7:=Q0.c7;have u8:=Q0.c8;simp only at u0 u1 u2 u3 u4 u5 u6 u7 u8;go_wp2;clear u0 u1 u2 u3 u4 u5 u6 u7 u8
 go_loopw [31] (fun i wr=>∃k:Nat,k<=3/\i = .int .i64 (k:Nat)/\Ext w1 wr/\(0<k->dJ ⟨ax,ay,az⟩ ⟨bx,by',bz⟩ ⟨sx,sy,sz⟩=true)/\(1<k->dJ ⟨bx,by',bz⟩ ⟨cx,cy,cz⟩ ⟨sx,sy,sz⟩=true)/\(2<k->dJ ⟨cx,cy,cz⟩ ⟨ax,ay,az⟩ ⟨sx,sy,sz⟩=true)) (fun i _=>3 - (intOf i).toNat)
 case atStart=>exact ⟨0,by omega,rfl,aRu _,fun h=>absurd h (by omega),fun h=>absurd h (by omega),fun h=>absurd h (by omega)⟩
 case round=>
  obtain ⟨k,hk,rfl,hx,g0,g1,g2⟩:=hrel;have HX:=hid hx;have G0:=hid g0;have G1:=hid g1;have G2:=hid g2;have hB:=Q0.ext hx;have hS:=Q1.ext hx;have t0:=hB.c0;have t1:=hB.c1;have t2:=hB.c2;have t3:=hB.c3;have t4:=hB.c4;have t5:=hB.c5;have t6:=hB.c6;have t7:=hB.c7;have t8:=hB.c8;have u0:=hS.c0;have u1:=hS.c1;have u2:=hS.c2;have zb:=hB.lt;have zs:=hS.lt;simp only at t0 t1 t2 t3 t4 t5 t6 t7 t8 u0 u1 u2;clear hx g0 g1 g2 hB hS
  rcases (show k=0\/k=1\/k=2\/k=3 by omega) with rfl|rfl|rfl|rfl
  ·obtain ⟨d,hd⟩:∃d,aW ⟨ax,ay,az⟩ ⟨bx,by',bz⟩ ⟨sx,sy,sz⟩=d:=⟨_,rfl⟩
   have HD:=hid hd;clear hd;go_wp2_with fail;refine aA [([0,1,3],2),([],4),([],5)] 5 (wr.heap.size+1+1) (by kernel_rfl) (by kernel_rfl) ?_;refine st_ fun K hK=>?_;go_wp2_with fail;refine (eM ax ay az bx by' bz Ha Hb _).mono ?_;rintro e w3 ⟨D,A,E,rfl,hE,x3⟩;have y3:Ext ((wr.alloc (.cells #[ax,ay,az] 122)).alloc (.cells #[bx,by',bz] 122)) w3:=aRo (aSk (aRu _)) x3;go_wp2_with fail;refine k_ hK ?_;clear hK K;refine st_ fun K hK=>?_;go_wp2_with fail;refine r_ (dK sx sy sz HD Ha Hb Hs _ hE) fun w4 x4=>?_;have y4:=y3.trans x4;go_wp2_with fail;refine k_ hK ?_;clear hK K;refine st_ fun K hK=>?_;go_wp2_with fail;refine l_ hK ?_;clear hK K;refine aC ?_;have ba:=(aRr wr 122 [ax,ay,az]).ext (aRo ((aRu _).alloc (.cells #[bx,by',bz] 122)) y4);have bb:=(aRr (wr.alloc (.cells #[ax,ay,az] 122)) 122 [bx,by',bz]).ext y4;rw [aRj] at bb;obtain ⟨m0,m1⟩:=ba.q2;obtain ⟨n0,n1⟩:=bb.q2;have l0:=ba.lt;have l1:=bb.lt;have h0:=hid (HX.trans (aRo (show Ext wr ((wr.alloc (.cells #[ax,ay,az] 122)).alloc (.cells #[bx,by',bz] 122)) from X_) y4));have lv:=mF HD;clear t0 t1 t2 t3 t4 t5 t6 t7 t8 u0 u1 u2 y3 y4 x3 x4 hE ba bb
   rcases tR ax ay bx by' with e1|⟨e1,e2,e3⟩|⟨e1,e2,e3⟩|⟨e1,e2⟩ <;> rcases tS d with s1|⟨s1,s2⟩|⟨s1,s2⟩
   all_goals (try rw [e1] at lv);(try rw [e2] at lv);(try rw [e3] at lv);(try rw [s1] at lv);(try rw [s2] at lv)
   all_goals first|(have LV:=hid (lv.trans (show _=true from rfl));clear lv;go_wp2;go_roundw;(case rel=>exact ⟨1,by omega,by go_num,h0,fun _=>LV.out,fun h=>absurd h (by omega),fun h=>absurd h (by omega)⟩);(case measure=>simp [intOf]))|(have LV:=hid (lv.trans (show _=false from rfl));clear lv;go_wp2;go_ret;exact ⟨aK (by rw [<-HR];simp [LV.out]),X1.trans h0⟩)
  ·obtain ⟨d,hd⟩:∃d,aW ⟨bx,by',bz⟩ ⟨cx,cy,cz⟩ ⟨sx,sy,sz⟩=d:=⟨_,rfl⟩
   have HD:=hid hd;clear hd;go_wp2_with fail;refine aA [([0,1,3],2),([],4),([],5)] 5 (wr.heap.size+1+1) (by kernel_rfl) (by kernel_rfl) ?_;refine st_ fun K hK=>?_;go_wp2_with fail;refine (eM bx by' bz cx cy cz Hb Hc _).mono ?_;rintro e w3 ⟨D,A,E,rfl,hE,x3⟩;have y3:Ext ((wr.alloc (.cells #[bx,by',bz] 122)).alloc (.cells #[cx,cy,cz] 122)) w3:=aRo (aSk (aRu _)) x3;go_wp2_with fail;refine k_ hK ?_;clear hK K;refine st_ fun K hK=>?_;go_wp2_with fail;refine r_ (dK sx sy sz HD Hb Hc Hs _ hE) fun w4 x4=>?_;have y4:=y3.trans x4;go_wp2_with fail;refine k_ hK ?_;clear hK K;refine st_ fun K hK=>?_;go_wp2_with fail;refine l_ hK ?_;clear hK K;refine aC ?_;have ba:=(aRr wr 122 [bx,by',bz]).ext (aRo ((aRu _).alloc (.cells #[cx,cy,cz] 122)) y4);have bb:=(aRr (wr.alloc (.cells #[bx,by',bz] 122)) 122 [cx,cy,cz]).ext y4;rw [aRj] at bb;obtain ⟨m0,m1⟩:=ba.q2;obtain ⟨n0,n1⟩:=bb.q2;have l0:=ba.lt;have l1:=bb.lt;have h0:=hid (HX.trans (aRo (show Ext wr ((wr.alloc (.cells #[bx,by',bz] 122)).alloc (.cells #[cx,cy,cz] 122)) from X_) y4));have lv:=mF HD;clear t0 t1 t2 t3 t4 t5 t6 t7 t8 u0 u1 u2 y3 y4 x3 x4 hE ba bb
   rcases tR bx by' cx cy with e1|⟨e1,e2,e3⟩|⟨e1,e2,e3⟩|⟨e1,e2⟩ <;> rcases tS d with s1|⟨s1,s2⟩|⟨s1,s2⟩
   all_goals (try rw [e1] at lv);(try rw [e2] at lv);(try rw [e3] at lv);(try rw [s1] at lv);(try rw [s2] at lv)
   all_goals first|(have LV:=hid (lv.trans (show _=true from rfl));clear lv;go_wp2;go_roundw;(case rel=>exact ⟨2,by omega,by go_num,h0,fun _=>G0.out (by omega),fun _=>LV.out,fun h=>absurd h (by omega)⟩);(case measure=>simp [intOf]))|(have LV:=hid (lv.trans (show _=false from rfl));clear lv;go_wp2;go_ret;exact ⟨aK (by rw [<-HR];simp [LV.out]),X1.trans h0⟩)
  ·obtain ⟨d,hd⟩:∃d,aW ⟨cx,cy,cz⟩ ⟨ax,ay,az⟩ ⟨sx,sy,sz⟩=d:=⟨_,rfl⟩
   have HD:=hid hd;clear hd;go_wp2_with fail;refine aA [([0,1,3],2),([],4),([],5)] 5 (wr.heap.size+1+1) (by kernel_rfl) (by kernel_rfl) ?_;refine st_ fun K hK=>?_;go_wp2_with fail;refine (eM cx cy cz ax ay az Hc Ha _).mono ?_;rintro e w3 ⟨D,A,E,rfl,hE,x3⟩;have y3:Ext ((wr.alloc (.cells #[cx,cy,cz] 122)).alloc (.cells #[ax,ay,az] 122)) w3:=aRo (aSk (aRu _)) x3;go_wp2_with fail;refine k_ hK ?_;clear hK K;refine st_ fun K hK=>?_;go_wp2_with fail;refine r_ (dK sx sy sz HD Hc Ha Hs _ hE) fun w4 x4=>?_;have y4:=y3.trans x4;go_wp2_with fail;refine k_ hK ?_;clear hK K;refine st_ fun K hK=>?_;go_wp2_with fail;refine l_ hK ?_;clear hK K;refine aC ?_;have ba:=(aRr wr 122 [cx,cy,cz]).ext (aRo ((aRu _).alloc (.cells #[ax,ay,az] 122)) y4);have bb:=(aRr (wr.alloc (.cells #[cx,cy,cz] 122)) 122 [ax,ay,az]).ext y4;rw [aRj] at bb;obtain ⟨m0,m1⟩:=ba.q2;obtain ⟨n0,n1⟩:=bb.q2;have l0:=ba.lt;have l1:=bb.lt;have h0:=hid (HX.trans (aRo (show Ext wr ((wr.alloc (.cells #[cx,cy,cz] 122)).alloc (.cells #[ax,ay,az] 122)) from X_) y4));have lv:=mF HD;clear t0 t1 t2 t3 t4 t5 t6 t7 t8 u0 u1 u2 y3 y4 x3 x4 hE ba bb
   rcases tR cx cy ax ay with e1|⟨e1,e2,e3⟩|⟨e1,e2,e3⟩|⟨e1,e2⟩ <;> rcases tS d with s1|⟨s1,s2⟩|⟨s1,s2⟩
   all_goals (try rw [e1] at lv);(try rw [e2] at lv);(try rw [e3] at lv);(try rw [s1] at lv);(try rw [s2] at lv)
   all_goals first|(have LV:=hid (lv.trans (show _=true from rfl));clear lv;go_wp2;go_roundw;(case rel=>exact ⟨3,by omega,by go_num,h0,fun _=>G0.out (by omega),fun _=>G1.out (by omega),fun _=>LV.out⟩);(case measure=>simp [intOf]))|(have LV:=hid (lv.trans (show _=false from rfl));clear lv;go_wp2;go_ret;exact ⟨aK (by rw [<-HR];simp [LV.out]),X1.trans h0⟩)
  ·go_wp2
   go_ret;exact ⟨aK (by rw [<-HR,G0 (by omega),G1 (by omega),G2 (by omega)];rfl),X1.trans HX⟩
theorem aGd (ax ay az bx by' bz cx cy cz:Int) (ha:V3.scr ⟨ax,ay,az⟩) (hb:V3.scr ⟨bx,by',bz⟩) (hc:V3.scr ⟨cx,cy,cz⟩) (sx sy sz:Int) (hs:V3.scr ⟨sx,sy,sz⟩) {r:Bool} (hp:aW ⟨ax,ay,az⟩ ⟨bx,by',bz⟩ ⟨cx,cy,cz⟩<0) (hr:(dJ ⟨ax,ay,az⟩ ⟨cx,cy,cz⟩ ⟨sx,sy,sz⟩&&dJ ⟨cx,cy,cz⟩ ⟨bx,by',bz⟩ ⟨sx,sy,sz⟩&&dJ ⟨bx,by',bz⟩ ⟨ax,ay,az⟩ ⟨sx,sy,sz⟩)=r) (w:World):R_ 212 #[.agg #[ax,ay,az,bx,by',bz,cx,cy,cz],.agg #[sx,sy,sz]] w (.bool r):=by
 have Ha:=aT ha;have Hb:=aT hb;have Hc:=aT hc;have Hs:=aT hs
 obtain ⟨d0,h3⟩:∃d,aW ⟨ax,ay,az⟩ ⟨bx,by',bz⟩ ⟨cx,cy,cz⟩=d:=⟨_,rfl⟩
 have HA:=hid h3
 have i0:∀w:World,(aUy 151 (.agg #[ax,ay,az,cx,cy,cz,bx,by',bz]) (.int .i64 0)).run aRn w = .ok (.agg #[ax,ay,az]) w:=fun _=>by kernel_rfl
 have i1:∀w:World,(aUy 151 (.agg #[ax,ay,az,cx,cy,cz,bx,by',bz]) (.int .i64 1)).run aRn w = .ok (.agg #[cx,cy,cz]) w:=fun _=>by kernel_rfl
 have i2:∀w:World,(aUy 151 (.agg #[ax,ay,az,cx,cy,cz,bx,by',bz]) (.int .i64 2)).run aRn w = .ok (.agg #[bx,by',bz]) w:=fun _=>by kernel_rfl
 have HR:=hid hr;rw [h3] at hp;clear ha hb hc hs hr h3
 have z1:(d0==0)=false:=by rw [beq_eq_false_iff_ne];omega
 have z2:decide (d0<0)=true:=by rw [decide_eq_true_eq];omega
 have h4:=aRr w 153 [ax,ay,az,bx,by',bz,cx,cy,cz];have h2:=aRr (w.alloc (.cells #[ax,ay,az,bx,by',bz,cx,cy,cz] 153)) 122 [sx,sy,sz];rw [aRj] at h2;have y0:Ext w ((w.alloc (.cells #[ax,ay,az,bx,by',bz,cx,cy,cz] 153)).alloc (.cells #[sx,sy,sz] 122)):=X_;have B0:=hid (h4.alloc (.cells #[sx,sy,sz] 122));have B1:=hid h2;have Y0:=hid y0;clear h4 h2 y0;go_enter func212,ntmps212;go_wp2_with fail;refine r_ (sB ax ay az bx by' bz cx cy cz Ha Hb Hc HA _) fun w1 x1=>?_;have q0:=hid (B0.ext x1);have q1:=hid (B1.ext x1);have X1:=hid (Y0.trans x1);clear x1 B0 B1 Y0;have Q0:=hid (sC.of (a:=⟨ax,ay,az⟩) (b:=⟨bx,by',bz⟩) (c:=⟨cx,cy,cz⟩) q0.out);have Q1:=hid (sD.of (s:=⟨sx,sy,sz⟩) q1.out);have t0:=Q0.lt;have u0:=Q0.c0;have u1:=Q0.c1;have u2:=Q0.c2;have u3:=Q0.c3;have u4:=Q0.c4;have u5:=Q0.c5;have u6:=Q0.c6;have u7:=Q0.c7;have u8:=Q0.c8;have v3:=q0.out.free 3;have v4:=q0.out.free 4;have v5:=q0.out.free 5;have v6:=q0.out.free 6;have v7:=q0.out.free 7;have v8:=q0.out.free 8;simp only at u0 u1 u2 u3 u4 u5 u6 u7 u8;have X2:=hid (show Ext w ((((((w1.setCell ⟨w.heap.size,3,none⟩ cx).setCell ⟨w.heap.size,4,none⟩ cy).setCell ⟨w.heap.size,5,none⟩ cz).setCell ⟨w.heap.size,6,none⟩ bx).setCell ⟨w.heap.size,7,none⟩ by').setCell ⟨w.heap.size,8,none⟩ bz) from by have hX:=X1.out;exact S_);have P0:=hid (sC.of (a:=⟨ax,ay,az⟩) (b:=⟨cx,cy,cz⟩) (c:=⟨bx,by',bz⟩) ((((((q0.out.set 3 (.int .i64 cx)).set 4 (.int .i64 cy)).set 5 (.int .i64 cz)).set 6 (.int .i64 bx)).set 7 (.int .i64 by')).set 8 (.int .i64 bz)))
 have h1:w.heap.size+1≠w.heap.size:=by omega
 have P1:=hid (sD.of (s:=⟨sx,sy,sz⟩) ((((((q1.out.other (a:=⟨w.heap.size,3,none⟩) h1 (.int .i64 cx)).other (a:=⟨w.heap.size,4,none⟩) h1 (.int .i64 cy)).other (a:=⟨w.heap.size,5,none⟩) h1 (.int .i64 cz)).other (a:=⟨w.heap.size,6,none⟩) h1 (.int .i64 bx)).other (a:=⟨w.heap.size,7,none⟩) h1 (.int .i64 by')).other (a:=⟨w.heap.size,8,none⟩) h1 (.int .i64 bz)));go_wp2;clear u0 u1 u2 u3 u4 u5 u6 u7 u8 v3 v4 v5 v6 v7 v8 q0 q1 Q0 Q1 t0 X1
 obtain ⟨wq,h5⟩:∃wq,((((((w1.setCell ⟨w.heap.size,3,none⟩ cx).setCell ⟨w.heap.size,4,none⟩ cy).setCell ⟨w.heap.size,5,none⟩ cz).setCell ⟨w.heap.size,6,none⟩ bx).setCell ⟨w.heap.size,7,none⟩ by').setCell ⟨w.heap.size,8,none⟩ bz)=wq:=⟨_,rfl⟩
 rw [h5] at X2 P0 P1 ⊢;have X1:=hid X2;clear h5 X2
 go_loopw [31] (fun i wr=>∃k:Nat,k<=3/\i = .int .i64 (k:Nat)/\Ext wq wr/\(0<k->dJ ⟨ax,ay,az⟩ ⟨cx,cy,cz⟩ ⟨sx,sy,sz⟩=true)/\(1<k->dJ ⟨cx,cy,cz⟩ ⟨bx,by',bz⟩ ⟨sx,sy,sz⟩=true)/\(2<k->dJ ⟨bx,by',bz⟩ ⟨ax,ay,az⟩ ⟨sx,sy,sz⟩=true)) (fun i _=>3 - (intOf i).toNat)
 case atStart=>exact ⟨0,by omega,rfl,aRu _,fun h=>absurd h (by omega),fun h=>absurd h (by omega),fun h=>absurd h (by omega)⟩
 case round=>
  obtain ⟨k,hk,rfl,hx,g0,g1,g2⟩:=hrel;have HX:=hid hx;have G0:=hid g0;have G1:=hid g1;have G2:=hid g2;have hB:=P0.ext hx;have hS:=P1.ext hx;have t0:=hB.c0;have t1:=hB.c1;have t2:=hB.c2;have t3:=hB.c3;have t4:=hB.c4;have t5:=hB.c5;have t6:=hB.c6;have t7:=hB.c7;have t8:=hB.c8;have u0:=hS.c0;have u1:=hS.c1;have u2:=hS.c2;have zb:=hB.lt;have zs:=hS.lt;simp only at t0 t1 t2 t3 t4 t5 t6 t7 t8 u0 u1 u2;clear hx g0 g1 g2 hB hS
  rcases (show k=0\/k=1\/k=2\/k=3 by omega) with rfl|rfl|rfl|rfl
  ·obtain ⟨d,hd⟩:∃d,aW ⟨ax,ay,az⟩ ⟨cx,cy,cz⟩ ⟨sx,sy,sz⟩=d:=⟨_,rfl⟩
   have HD:=hid hd;clear hd;go_wp2_with fail;refine aA [([0,1,3],2),([],4),([],5)] 5 (wr.heap.size+1+1) (by kernel_rfl) (by kernel_rfl) ?_;refine st_ fun K hK=>?_;go_wp2_with fail;refine (eM ax ay az cx cy cz Ha Hc _).mono ?_;rintro e w3 ⟨D,A,E,rfl,hE,x3⟩;have y3:Ext ((wr.alloc (.cells #[ax,ay,az] 122)).alloc (.cells #[cx,cy,cz] 122)) w3:=aRo (aSk (aRu _)) x3;go_wp2_with fail;refine k_ hK ?_;clear hK K;refine st_ fun K hK=>?_;go_wp2_with fail;refine r_ (dK sx sy sz HD Ha Hc Hs _ hE) fun w4 x4=>?_;have y4:=y3.trans x4;go_wp2_with fail;refine k_ hK ?_;clear hK K;refine st_ fun K hK=>?_;go_wp2_with fail;refine l_ hK ?_;clear hK K;refine aC ?_;have ba:=(aRr wr 122 [ax,ay,az]).ext (aRo ((aRu _).alloc (.cells #[cx,cy,cz] 122)) y4);have bb:=(aRr (wr.alloc (.cells #[ax,ay,az] 122)) 122 [cx,cy,cz]).ext y4;rw [aRj] at bb;obtain ⟨m0,m1⟩:=ba.q2;obtain ⟨n0,n1⟩:=bb.q2;have l0:=ba.lt;have l1:=bb.lt;have h0:=hid (HX.trans (aRo (show Ext wr ((wr.alloc (.cells #[ax,ay,az] 122)).alloc (.cells #[cx,cy,cz] 122)) from X_) y4));have lv:=mF HD;clear t0 t1 t2 t3 t4 t5 t6 t7 t8 u0 u1 u2 y3 y4 x3 x4 hE ba bb
   rcases tR ax ay cx cy with e1|⟨e1,e2,e3⟩|⟨e1,e2,e3⟩|⟨e1,e2⟩ <;> rcases tS d with s1|⟨s1,s2⟩|⟨s1,s2⟩
   all_goals (try rw [e1] at lv);(try rw [e2] at lv);(try rw [e3] at lv);(try rw [s1] at lv);(try rw [s2] at lv)
   all_goals first|(have LV:=hid (lv.trans (show _=true from rfl));clear lv;go_wp2;go_roundw;(case rel=>exact ⟨1,by omega,by go_num,h0,fun _=>LV.out,fun h=>absurd h (by omega),fun h=>absurd h (by omega)⟩);(case measure=>simp [intOf]))|(have LV:=hid (lv.trans (show _=false from rfl));clear lv;go_wp2;go_ret;exact ⟨aK (by rw [<-HR];simp [LV.out]),X1.trans h0⟩)
  ·obtain ⟨d,hd⟩:∃d,aW ⟨cx,cy,cz⟩ ⟨bx,by',bz⟩ ⟨sx,sy,sz⟩=d:=⟨_,rfl⟩
   have HD:=hid hd;clear hd;go_wp2_with fail;refine aA [([0,1,3],2),([],4),([],5)] 5 (wr.heap.size+1+1) (by kernel_rfl) (by kernel_rfl) ?_;refine st_ fun K hK=>?_;go_wp2_with fail;refine (eM cx cy cz bx by' bz Hc Hb _).mono ?_;rintro e w3 ⟨D,A,E,rfl,hE,x3⟩;have y3:Ext ((wr.alloc (.cells #[cx,cy,cz] 122)).alloc (.cells #[bx,by',bz] 122)) w3:=aRo (aSk (aRu _)) x3;go_wp2_with fail;refine k_ hK ?_;clear hK K;refine st_ fun K hK=>?_;go_wp2_with fail;refine r_ (dK sx sy sz HD Hc Hb Hs _ hE) fun w4 x4=>?_;have y4:=y3.trans x4;go_wp2_with fail;refine k_ hK ?_;clear hK K;refine st_ fun K hK=>?_;go_wp2_with fail;refine l_ hK ?_;clear hK K;refine aC ?_;have ba:=(aRr wr 122 [cx,cy,cz]).ext (aRo ((aRu _).alloc (.cells #[bx,by',bz] 122)) y4);have bb:=(aRr (wr.alloc (.cells #[cx,cy,cz] 122)) 122 [bx,by',bz]).ext y4;rw [aRj] at bb;obtain ⟨m0,m1⟩:=ba.q2;obtain ⟨n0,n1⟩:=bb.q2;have l0:=ba.lt;have l1:=bb.lt;have h0:=hid (HX.trans (aRo (show Ext wr ((wr.alloc (.cells #[cx,cy,cz] 122)).alloc (.cells #[bx,by',bz] 122)) from X_) y4));have lv:=mF HD;clear t0 t1 t2 t3 t4 t5 t6 t7 t8 u0 u1 u2 y3 y4 x3 x4 hE ba bb
   rcases tR cx cy bx by' with e1|⟨e1,e2,e3⟩|⟨e1,e2,e3⟩|⟨e1,e2⟩ <;> rcases tS d with s1|⟨s1,s2⟩|⟨s1,s2⟩
   all_goals (try rw [e1] at lv);(try rw [e2] at lv);(try rw [e3] at lv);(try rw [s1] at lv);(try rw [s2] at lv)
   all_goals first|(have LV:=hid (lv.trans (show _=true from rfl));clear lv;go_wp2;go_roundw;(case rel=>exact ⟨2,by omega,by go_num,h0,fun _=>G0.out (by omega),fun _=>LV.out,fun h=>absurd h (by omega)⟩);(case measure=>simp [intOf]))|(have LV:=hid (lv.trans (show _=false from rfl));clear lv;go_wp2;go_ret;exact ⟨aK (by rw [<-HR];simp [LV.out]),X1.trans h0⟩)
  ·obtain ⟨d,hd⟩:∃d,aW ⟨bx,by',bz⟩ ⟨ax,ay,az⟩ ⟨sx,sy,sz⟩=d:=⟨_,rfl⟩
   have HD:=hid hd;clear hd;go_wp2_with fail;refine aA [([0,1,3],2),([],4),([],5)] 5 (wr.heap.size+1+1) (by kernel_rfl) (by kernel_rfl) ?_;refine st_ fun K hK=>?_;go_wp2_with fail;refine (eM bx by' bz ax ay az Hb Ha _).mono ?_;rintro e w3 ⟨D,A,E,rfl,hE,x3⟩;have y3:Ext ((wr.alloc (.cells #[bx,by',bz] 122)).alloc (.cells #[ax,ay,az] 122)) w3:=aRo (aSk (aRu _)) x3;go_wp2_with fail;refine k_ hK ?_;clear hK K;refine st_ fun K hK=>?_;go_wp2_with fail;refine r_ (dK sx sy sz HD Hb Ha Hs _ hE) fun w4 x4=>?_;have y4:=y3.trans x4;go_wp2_with fail;refine k_ hK ?_;clear hK K;refine st_ fun K hK=>?_;go_wp2_with fail;refine l_ hK ?_;clear hK K;refine aC ?_;have ba:=(aRr wr 122 [bx,by',bz]).ext (aRo ((aRu _).alloc (.cells #[ax,ay,az] 122)) y4);have bb:=(aRr (wr.alloc (.cells #[bx,by',bz] 122)) 122 [ax,ay,az]).ext y4;rw [aRj] at bb;obtain ⟨m0,m1⟩:=ba.q2;obtain ⟨n0,n1⟩:=bb.q2;have l0:=ba.lt;have l1:=bb.lt;have h0:=hid (HX.trans (aRo (show Ext wr ((wr.alloc (.cells #[bx,by',bz] 122)).alloc (.cells #[ax,ay,az] 122)) from X_) y4));have lv:=mF HD;clear t0 t1 t2 t3 t4 t5 t6 t7 t8 u0 u1 u2 y3 y4 x3 x4 hE ba bb
   rcases tR bx by' ax ay with e1|⟨e1,e2,e3⟩|⟨e1,e2,e3⟩|⟨e1,e2⟩ <;> rcases tS d with s1|⟨s1,s2⟩|⟨s1,s2⟩
   all_goals (try rw [e1] at lv);(try rw [e2] at lv);(try rw [e3] at lv);(try rw [s1] at lv);(try rw [s2] at lv)
   all_goals first|(have LV:=hid (lv.trans (show _=true from rfl));clear lv;go_wp2;go_roundw;(case rel=>exact ⟨3,by omega,by go_num,h0,fun _=>G0.out (by omega),fun _=>G1.out (by omega),fun _=>LV.out⟩);(case measure=>simp [intOf]))|(have LV:=hid (lv.trans (show _=false from rfl));clear lv;go_wp2;go_ret;exact ⟨aK (by rw [<-HR];simp [LV.out]),X1.trans h0⟩)
  ·go_wp2
   go_ret;exact ⟨aK (by rw [<-HR,G0 (by omega),G1 (by omega),G2 (by omega)];rfl),X1.trans HX⟩
theorem aD7 (ax ay az bx by' bz cx cy cz:Int) (ha:V3.scr ⟨ax,ay,az⟩) (hb:V3.scr ⟨bx,by',bz⟩) (hc:V3.scr ⟨cx,cy,cz⟩) (sx sy sz:Int) (hs:V3.scr ⟨sx,sy,sz⟩) (hp:aW ⟨ax,ay,az⟩ ⟨bx,by',bz⟩ ⟨cx,cy,cz⟩=0) (w:World):R_ 212 #[.agg #[ax,ay,az,bx,by',bz,cx,cy,cz],.agg #[sx,sy,sz]] w (.bool false):=by
 have Ha:=aT ha;have Hb:=aT hb;have Hc:=aT hc;have Hs:=aT hs
 obtain ⟨d0,h1⟩:∃d,aW ⟨ax,ay,az⟩ ⟨bx,by',bz⟩ ⟨cx,cy,cz⟩=d:=⟨_,rfl⟩
 have HA:=hid h1;rw [h1] at hp;clear ha hb hc hs h1
 have z1:(d0==0)=true:=by rw [hp];rfl
 have h2:=aRr w 153 [ax,ay,az,bx,by',bz,cx,cy,cz];have h0:=aRr (w.alloc (.cells #[ax,ay,az,bx,by',bz,cx,cy,cz] 153)) 122 [sx,sy,sz];rw [aRj] at h0;have y0:Ext w ((w.alloc (.cells #[ax,ay,az,bx,by',bz,cx,cy,cz] 153)).alloc (.cells #[sx,sy,sz] 122)):=X_;have B0:=hid (h2.alloc (.cells #[sx,sy,sz] 122));have B1:=hid h0;have Y0:=hid y0;clear h2 h0 y0;go_enter func212,ntmps212;go_wp2_with fail;refine r_ (sB ax ay az bx by' bz cx cy cz Ha Hb Hc HA _) fun w1 x1=>?_;have q0:=hid (B0.ext x1);have q1:=hid (B1.ext x1);have X1:=hid (Y0.trans x1);clear x1 B0 B1 Y0;go_wp2;go_ret;exact ⟨rfl,X1⟩
theorem aGe (ax ay az bx by' bz cx cy cz:Int) (ha:V3.scr ⟨ax,ay,az⟩) (hb:V3.scr ⟨bx,by',bz⟩) (hc:V3.scr ⟨cx,cy,cz⟩) (sx sy sz:Int) (hs:V3.scr ⟨sx,sy,sz⟩) {r:Bool} (hr:qS ⟨ax,ay,az⟩ ⟨bx,by',bz⟩ ⟨cx,cy,cz⟩ ⟨sx,sy,sz⟩=r) (w:World):R_ 212 #[.agg #[ax,ay,az,bx,by',bz,cx,cy,cz],.agg #[sx,sy,sz]] w (.bool r):=by
 unfold qS at hr
 split at hr
 ·rename_i h0
  subst hr
  exact aD7 ax ay az bx by' bz cx cy cz ha hb hc sx sy sz hs h0 w
 ·split at hr
  ·rename_i h0 h1
   exact aGd ax ay az bx by' bz cx cy cz ha hb hc sx sy sz hs h1 hr w
  ·rename_i h0 h1
   exact aGc ax ay az bx by' bz cx cy cz ha hb hc sx sy sz hs (by omega) hr w
def aK4 (m1 m2 m3:Int):Nat->Int
 | 0=>0
 | 1=>m1
 | 2=>m1+m2
 | _=>m1+m2+m3
theorem aPr (a b c:Int):aK4 a b c 0=0:=rfl
theorem aOe (a b c:Int):aK4 a b c 1=a:=rfl
theorem aOf (a b c:Int):aK4 a b c 2=a+b:=rfl
theorem aOg (a b c:Int):aK4 a b c 3=a+b+c:=rfl
theorem pC {a b s:V3} (ha:a.scr) (hb:b.scr) (hs:s.scr) : -80000000000<=aW a b s/\aW a b s<=80000000000:=by
 have:=sA ha hb hs;unfold aW;omega
theorem aCk (h : -m<=x/\x<=m):0<=gC x/\gC x<=m:=by unfold gC;split <;> omega
theorem aJg (ax ay az bx by' bz cx cy cz:Int) (ha:V3.scr ⟨ax,ay,az⟩) (hb:V3.scr ⟨bx,by',bz⟩) (hc:V3.scr ⟨cx,cy,cz⟩) (sx sy sz:Int) (hs:V3.scr ⟨sx,sy,sz⟩) (hz:(-1000000<=az/\az<=1000000)/\(-1000000<=bz/\bz<=1000000)/\(-1000000<=cz/\cz<=1000000)) (hr:eK ⟨ax,ay,az⟩ ⟨bx,by',bz⟩ ⟨cx,cy,cz⟩ ⟨sx,sy,sz⟩=r) (w:World) :
  R_ 160 #[.agg #[ax,ay,az,bx,by',bz,cx,cy,cz],.agg #[sx,sy,sz]] w (.int .i64 r):=by
 unfold eK at hr;simp only at hr;have Ha:=aT ha;have Hb:=aT hb;have Hc:=aT hc;have Hs:=aT hs;obtain ⟨z1,z2,z3⟩:=hz;have b1:=pC hb hc hs
 obtain ⟨s1,e1⟩:∃n,aW ⟨bx,by',bz⟩ ⟨cx,cy,cz⟩ ⟨sx,sy,sz⟩=n:=⟨_,rfl⟩
 rw [e1] at b1 hr;have B1:=hid (show -1000000000000<=s1/\s1<=1000000000000 by omega);have g1:=aCk b1;clear b1
 obtain ⟨n1,k1⟩:∃n,gC s1=n:=⟨_,rfl⟩
 rw [k1] at g1 hr;have f1:=aY (A:=1000000) (B:=80000000000) (a:=az) (b:=n1) (by omega) (by omega)
 obtain ⟨m1,r1⟩:∃n,az*n1=n:=⟨_,rfl⟩
 rw [r1] at f1 hr;have S1:=hid e1;have K1:=hid k1;have M1:=hid r1;have F1:=hid f1;clear e1 k1 r1 f1 g1;have b2:=pC hc ha hs
 obtain ⟨s2,e2⟩:∃n,aW ⟨cx,cy,cz⟩ ⟨ax,ay,az⟩ ⟨sx,sy,sz⟩=n:=⟨_,rfl⟩
 rw [e2] at b2 hr;have B2:=hid (show -1000000000000<=s2/\s2<=1000000000000 by omega);have g2:=aCk b2;clear b2
 obtain ⟨n2,k2⟩:∃n,gC s2=n:=⟨_,rfl⟩
 rw [k2] at g2 hr;have f2:=aY (A:=1000000) (B:=80000000000) (a:=bz) (b:=n2) (by omega) (by omega)
 obtain ⟨m2,r2⟩:∃n,bz*n2=n:=⟨_,rfl⟩
 rw [r2] at f2 hr;have S2:=hid e2;have K2:=hid k2;have M2:=hid r2;have F2:=hid f2;clear e2 k2 r2 f2 g2;have b3:=pC ha hb hs
 obtain ⟨s3,e3⟩:∃n,aW ⟨ax,ay,az⟩ ⟨bx,by',bz⟩ ⟨sx,sy,sz⟩=n:=⟨_,rfl⟩
 rw [e3] at b3 hr;have B3:=hid (show -1000000000000<=s3/\s3<=1000000000000 by omega);have g3:=aCk b3;clear b3
 obtain ⟨n3,k3⟩:∃n,gC s3=n:=⟨_,rfl⟩
 rw [k3] at g3 hr;have f3:=aY (A:=1000000) (B:=80000000000) (a:=cz) (b:=n3) (by omega) (by omega)
 obtain ⟨m3,r3⟩:∃n,cz*n3=n:=⟨_,rfl⟩
 rw [r3] at f3 hr;have S3:=hid e3;have K3:=hid k3;have M3:=hid r3;have F3:=hid f3;clear e3 k3 r3 f3 g3
 obtain ⟨d0,h1⟩:∃d,aW ⟨ax,ay,az⟩ ⟨bx,by',bz⟩ ⟨cx,cy,cz⟩=d:=⟨_,rfl⟩
 rw [h1] at hr;have HA:=hid h1;have BA:=hid (show -1000000000000<=d0/\d0<=1000000000000 by have:=pC ha hb hc;rw [h1] at this;omega)
 obtain ⟨da,h3⟩:∃d,gC d0=d:=⟨_,rfl⟩
 rw [h3] at hr;have KA:=hid h3;have HR:=hid hr;clear ha hb hc hs hr h1 h3 z1 z2 z3
 have i0:∀w:World,(aUy 151 (.agg #[ax,ay,az,bx,by',bz,cx,cy,cz]) (.int .i64 0)).run aRn w = .ok (.agg #[ax,ay,az]) w:=fun _=>by kernel_rfl
 have i1:∀w:World,(aUy 151 (.agg #[ax,ay,az,bx,by',bz,cx,cy,cz]) (.int .i64 1)).run aRn w = .ok (.agg #[bx,by',bz]) w:=fun _=>by kernel_rfl
 have i2:∀w:World,(aUy 151 (.agg #[ax,ay,az,bx,by',bz,cx,cy,cz]) (.int .i64 2)).run aRn w = .ok (.agg #[cx,cy,cz]) w:=fun _=>by kernel_rfl
 have h5:=aRr w 153 [ax,ay,az,bx,by',bz,cx,cy,cz];have h2:=aRr (w.alloc (.cells #[ax,ay,az,bx,by',bz,cx,cy,cz] 153)) 122 [sx,sy,sz];rw [aRj] at h2;have y0:Ext w ((w.alloc (.cells #[ax,ay,az,bx,by',bz,cx,cy,cz] 153)).alloc (.cells #[sx,sy,sz] 122)):=X_;have Q0:=hid (sC.of (a:=⟨ax,ay,az⟩) (b:=⟨bx,by',bz⟩) (c:=⟨cx,cy,cz⟩) (h5.alloc (.cells #[sx,sy,sz] 122)));have Q1:=hid (sD.of (s:=⟨sx,sy,sz⟩) h2);have X1:=hid y0;clear h5 h2 y0;go_enter func160,ntmps160;have t0:=Q0.lt;have u0:=Q0.c0;have u1:=Q0.c1;have u2:=Q0.c2;have u3:=Q0.c3;have u4:=Q0.c4;have u5:=Q0.c5;have u6:=Q0.c6;have u7:=Q0.c7;have u8:=Q0.c8;simp only at u0 u1 u2 u3 u4 u5 u6 u7 u8;go_wp2;clear u0 u1 u2 u3 u4 u5 u6 u7 u8 t0
 obtain ⟨W0,h4⟩:∃W0,((w.alloc (.cells #[ax,ay,az,bx,by',bz,cx,cy,cz] 153)).alloc (.cells #[sx,sy,sz] 122))=W0:=⟨_,rfl⟩
 rw [h4] at Q0 Q1 X1 ⊢;clear h4
 go_loopw [5,10] (fun sm i wr=>∃k:Nat,k<=3/\i = .int .i64 (k:Nat)/\sm = .int .i64 (aK4 m1 m2 m3 k)/\Ext W0 wr) (fun _ i _=>3 - (intOf i).toNat)
 case atStart=>exact ⟨0,by omega,rfl,rfl,aRu _⟩
 case round=>
  obtain ⟨k,hk,rfl,rfl,hx⟩:=hrel;have HX:=hid hx;have hB:=Q0.ext hx;have hS:=Q1.ext hx;have t0:=hB.c0;have t1:=hB.c1;have t2:=hB.c2;have t3:=hB.c3;have t4:=hB.c4;have t5:=hB.c5;have t6:=hB.c6;have t7:=hB.c7;have t8:=hB.c8;have u0:=hS.c0;have u1:=hS.c1;have u2:=hS.c2;have zb:=hB.lt;have zs:=hS.lt;simp only at t0 t1 t2 t3 t4 t5 t6 t7 t8 u0 u1 u2;clear hx
  rcases (show k=0\/k=1\/k=2\/k=3 by omega) with rfl|rfl|rfl|rfl
  ·rw [aPr]
   have r1:=M1.out;have f1:=F1.out;go_wp2_with fail;refine aA [([0,1,2,3,4,5,6,7,8,9,10,11,12,13,14,16],15),([],17),([],18),([19,20],21)] 21 (wr.heap.size+1) (by kernel_rfl) (by kernel_rfl) ?_;refine st_ fun K hK=>?_;go_wp2_with fail;refine (eM bx by' bz cx cy cz Hb Hc _).mono ?_;rintro e w3 ⟨D,A,E,rfl,hE,x3⟩;have y3:Ext (wr.alloc (.cells #[ax,ay,az] 122)) w3:=aRo (aSk (aRu _)) x3;go_wp2_with fail;refine k_ hK ?_;clear hK K;refine st_ fun K hK=>?_;go_wp2_with fail;refine r_ (dK sx sy sz S1 Hb Hc Hs _ hE) fun w4 x4=>?_;have y4:=y3.trans x4;go_wp2_with fail;refine k_ hK ?_;clear hK K;refine st_ fun K hK=>?_;go_wp2_with fail;refine z_ (jJ B1 K1 _) ?_;go_wp2_with fail;refine k_ hK ?_;clear hK K;refine st_ fun K hK=>?_;go_wp2_with fail;refine l_ hK ?_;clear hK K;refine aC ?_;have h0:=hid (HX.trans (aRo (show Ext wr (wr.alloc (.cells #[ax,ay,az] 122)) from X_) y4));clear t0 t1 t2 t3 t4 t5 t6 t7 t8 u0 u1 u2 y3 y4 x3 x4 hE;go_wp2;go_roundw
   case rel=>exact ⟨1,by omega,by go_num,by rw [aOe] <;> go_num,h0⟩
   case measure=>simp [intOf]
  ·rw [aOe]
   have r2:=M2.out;have f1:=F1.out;have f2:=F2.out;go_wp2_with fail;refine aA [([0,1,2,3,4,5,6,7,8,9,10,11,12,13,14,16],15),([],17),([],18),([19,20],21)] 21 (wr.heap.size+1) (by kernel_rfl) (by kernel_rfl) ?_;refine st_ fun K hK=>?_;go_wp2_with fail;refine (eM cx cy cz ax ay az Hc Ha _).mono ?_;rintro e w3 ⟨D,A,E,rfl,hE,x3⟩;have y3:Ext (wr.alloc (.cells #[bx,by',bz] 122)) w3:=aRo (aSk (aRu _)) x3;go_wp2_with fail;refine k_ hK ?_;clear hK K;refine st_ fun K hK=>?_;go_wp2_with fail;refine r_ (dK sx sy sz S2 Hc Ha Hs _ hE) fun w4 x4=>?_;have y4:=y3.trans x4;go_wp2_with fail;refine k_ hK ?_;clear hK K;refine st_ fun K hK=>?_;go_wp2_with fail;refine z_ (jJ B2 K2 _) ?_;go_wp2_with fail;refine k_ hK ?_;clear hK K;refine st_ fun K hK=>?_;go_wp2_with fail;refine l_ hK ?_;clear hK K;refine aC ?_;have h0:=hid (HX.trans (aRo (show Ext wr (wr.alloc (.cells #[bx,by',bz] 122)) from X_) y4));clear t0 t1 t2 t3 t4 t5 t6 t7 t8 u0 u1 u2 y3 y4 x3 x4 hE;go_wp2;go_roundw
   case rel=>exact ⟨2,by omega,by go_num,by rw [aOf] <;> go_num,h0⟩
   case measure=>simp [intOf]
  ·rw [aOf]
   have r3:=M3.out;have f1:=F1.out;have f2:=F2.out;have f3:=F3.out;go_wp2_with fail;refine aA [([0,1,2,3,4,5,6,7,8,9,10,11,12,13,14,16],15),([],17),([],18),([19,20],21)] 21 (wr.heap.size+1) (by kernel_rfl) (by kernel_rfl) ?_;refine st_ fun K hK=>?_;go_wp2_with fail;refine (eM ax ay az bx by' bz Ha Hb _).mono ?_;rintro e w3 ⟨D,A,E,rfl,hE,x3⟩;have y3:Ext (wr.alloc (.cells #[cx,cy,cz] 122)) w3:=aRo (aSk (aRu _)) x3;go_wp2_with fail;refine k_ hK ?_;clear hK K;refine st_ fun K hK=>?_;go_wp2_with fail;refine r_ (dK sx sy sz S3 Ha Hb Hs _ hE) fun w4 x4=>?_;have y4:=y3.trans x4;go_wp2_with fail;refine k_ hK ?_;clear hK K;refine st_ fun K hK=>?_;go_wp2_with fail;refine z_ (jJ B3 K3 _) ?_;go_wp2_with fail;refine k_ hK ?_;clear hK K;refine st_ fun K hK=>?_;go_wp2_with fail;refine l_ hK ?_;clear hK K;refine aC ?_;have h0:=hid (HX.trans (aRo (show Ext wr (wr.alloc (.cells #[cx,cy,cz] 122)) from X_) y4));clear t0 t1 t2 t3 t4 t5 t6 t7 t8 u0 u1 u2 y3 y4 x3 x4 hE;go_wp2;go_roundw
   case rel=>exact ⟨3,by omega,by go_num,by rw [aOg] <;> go_num,h0⟩
   case measure=>simp [intOf]
  ·rw [aOg]
   have f1:=F1.out;have f2:=F2.out;have f3:=F3.out;go_wp2_with fail;refine r_ (sB ax ay az bx by' bz cx cy cz Ha Hb Hc HA _) fun w6 x6=>?_;go_wp2_with fail;refine z_ (jJ BA KA _) ?_;go_wp2_with fail;refine z_ (cI (I64.of (m:=1000000000000000000) (by omega) (by decide)) HR _) ?_;go_wp2;go_ret;exact ⟨rfl,X1.trans (HX.trans x6)⟩
theorem mY {z:Int} (hx : -100000<=x/\x<=100000) (hy : -100000<=y/\y<=100000) (hz : -1000000<=z/\z<=1000000) (w:World) :
  R_ 213 #[.agg #[x,y,z]] w (.agg #[x,y,z]):=by
 have X:=hid (rO (x:=x) (by omega));have Y:=hid (rO (x:=y) (by omega));have Z:=hid (rO (x:=z) (by omega));have SX:=hid (show aN x (-100000) 100000=x from aBx hx);have SY:=hid (show aN y (-100000) 100000=y from aBx hy);clear hx hy hz;have h2:=aRr w 122 [x,y,z];have h0:=aRr (w.alloc (.cells #[x,y,z] 122)) 122 [(),(),()];rw [aRj] at h0;have y0:Ext w ((w.alloc (.cells #[x,y,z] 122)).alloc (.cells #[(),(),()] 122)):=X_;have B0:=hid (h2.alloc (.cells #[(),(),()] 122));have B1:=hid h0;have Y0:=hid y0;clear h2 h0 y0;go_enter func213,ntmps213;go_wp2_with fail;refine r_ (eY X Y Z _) fun w1 x1=>?_;have C0:=B0.ext x1;have C1:=B1.ext x1;have f0:=C0.free 0;have f1:=C0.free 1;have f2:=C0.free 2;obtain ⟨k0,k1,k2⟩:=C0.q3;have zc:=C0.lt;have E0:=hid (((C0.set 0 (.int .i64 x)).set 1 (.int .i64 y)).set 2 (.int .i64 z))
 have h1:w.heap.size+1≠w.heap.size:=by omega
 have E1:=hid (((C1.other (a:=⟨w.heap.size,0,none⟩) h1 (.int .i64 x)).other (a:=⟨w.heap.size,1,none⟩) h1 (.int .i64 y)).other (a:=⟨w.heap.size,2,none⟩) h1 (.int .i64 z));have X1:=Y0.trans x1;have X2:=hid (show Ext w (((w1.setCell ⟨w.heap.size,0,none⟩ x).setCell ⟨w.heap.size,1,none⟩ y).setCell ⟨w.heap.size,2,none⟩ z) from S_);clear C0 C1 x1 X1 B0 B1 Y0;go_upto_region 2 with fail;clear f0 f1 f2 zc k0 k1 k2
 obtain ⟨w2,h3⟩:∃w2,((w1.setCell ⟨w.heap.size,0,none⟩ x).setCell ⟨w.heap.size,1,none⟩ y).setCell ⟨w.heap.size,2,none⟩ z=w2:=⟨_,rfl⟩
 rw [h3] at E0 E1 X2 ⊢;clear h3;obtain ⟨c0,c1,c2⟩:=E0.q3;have z0:=E0.lt;have z1:=E1.lt;have f0:=E1.free 0;have f1:=E1.free 1;have f2:=E1.free 2;obtain ⟨k0,k1,k2⟩:=E1.q3;refine aA [([0,1,3,4,6,7],2),([],5),([8],9)] 9 w2.heap.size (by kernel_rfl) (by kernel_rfl) ?_;refine st_ fun K hK=>?_;go_wp2_with fail;refine z_ (dD SX _) ?_;go_wp2_with fail;refine hK _ _ (.inr (fun k _ hk=>aRv X_ hk)) ?_;clear hK K;refine st_ fun K hK=>?_;go_wp2_with fail;refine z_ (dD SY _) ?_;go_wp2_with fail;refine hK _ _ (.inr (fun k _ hk=>aRv X_ hk)) ?_;clear hK K;refine st_ fun K hK=>?_;go_wp2_with fail;refine l_ hK ?_;clear hK K;refine aC ?_;have hX:=X2.out;go_wp2;exact bodyPost_ret (v:=.agg #[x,y,z]) (by simp [results,results213,go_sem, *]) rfl ⟨rfl,S_⟩
theorem uP (ax ay az bx by' bz cx cy cz:Int) (ha:V3.scr ⟨ax,ay,az⟩) (hb:V3.scr ⟨bx,by',bz⟩) (hc:V3.scr ⟨cx,cy,cz⟩) (hz:(-1000000<=az/\az<=1000000)/\(-1000000<=bz/\bz<=1000000)/\(-1000000<=cz/\cz<=1000000)) (w:World):R_ 159 #[.agg #[ax,ay,az,bx,by',bz,cx,cy,cz]] w (.agg #[ax,ay,az,bx,by',bz,cx,cy,cz]):=by
 obtain ⟨z1,z2,z3⟩:=hz;obtain ⟨a1,a2⟩:=ha;obtain ⟨b1,b2⟩:=hb;obtain ⟨c1,c2⟩:=hc;simp only at a1 a2 b1 b2 c1 c2;have Za:=hid z1;have Zb:=hid z2;have Zc:=hid z3;have h4:=hid a1;have h5:=hid a2;have h6:=hid b1;have h7:=hid b2;have h8:=hid c1;have h9:=hid c2;clear z1 z2 z3 a1 a2 b1 b2 c1 c2
 have i0:∀w:World,(aUy 151 (.agg #[ax,ay,az,bx,by',bz,cx,cy,cz]) (.int .i64 0)).run aRn w = .ok (.agg #[ax,ay,az]) w:=fun _=>by kernel_rfl
 have i1:∀w:World,(aUy 151 (.agg #[ax,ay,az,bx,by',bz,cx,cy,cz]) (.int .i64 1)).run aRn w = .ok (.agg #[bx,by',bz]) w:=fun _=>by kernel_rfl
 have i2:∀w:World,(aUy 151 (.agg #[ax,ay,az,bx,by',bz,cx,cy,cz]) (.int .i64 2)).run aRn w = .ok (.agg #[cx,cy,cz]) w:=fun _=>by kernel_rfl
 have h3:=aRr w 153 [ax,ay,az,bx,by',bz,cx,cy,cz];have h1:=aRr (w.alloc (.cells #[ax,ay,az,bx,by',bz,cx,cy,cz] 153)) 153 [(),(),(),(),(),(),(),(),()];rw [aRj] at h1;have y0:Ext w ((w.alloc (.cells #[ax,ay,az,bx,by',bz,cx,cy,cz] 153)).alloc (.cells #[(),(),(),(),(),(),(),(),()] 153)):=X_;have B0:=hid (h3.alloc (.cells #[(),(),(),(),(),(),(),(),()] 153));have B1:=hid h1;have Y0:=hid y0;have c0:=B0.cell 0 rfl;have c1:=B0.cell 1 rfl;have c2:=B0.cell 2 rfl;have c3:=B0.cell 3 rfl;have c4:=B0.cell 4 rfl;have c5:=B0.cell 5 rfl;have c6:=B0.cell 6 rfl;have c7:=B0.cell 7 rfl;have c8:=B0.cell 8 rfl;have zc:=B0.lt;clear h3 h1 y0;go_enter func159,ntmps159;go_wp2;clear c0 c1 c2 c3 c4 c5 c6 c7 c8 zc
 obtain ⟨W0,h2⟩:∃W0,((w.alloc (.cells #[ax,ay,az,bx,by',bz,cx,cy,cz] 153)).alloc (.cells #[(),(),(),(),(),(),(),(),()] 153))=W0:=⟨_,rfl⟩
 rw [h2] at B0 B1 Y0 ⊢;clear h2
 go_loopw [7] (fun i wr=>∃k:Nat,k<=3/\i = .int .i64 (k:Nat)/\Ext w wr/\Blk wr w.heap.size 153 [ax,ay,az,bx,by',bz,cx,cy,cz]/\Blk wr (w.heap.size+1) 153 [(),(),(),(),(),(),(),(),()]) (fun i _=>3 - (intOf i).toNat)
 case atStart=>exact ⟨0,by omega,rfl,Y0,B0,B1⟩
 case round=>
  obtain ⟨k,hk,rfl,hx,hB,hC⟩:=hrel;have HX:=hid hx;have HB:=hid hB;have HC:=hid hC;have zw:=hx.size;have zb:=hB.lt;have zc:=hC.lt;clear hx hB hC B0 B1 Y0
  rcases (show k=0\/k=1\/k=2\/k=3 by omega) with rfl|rfl|rfl|rfl
  ·go_wp2_with fail
   refine r_ (mY h4 h5 Za _) fun w3 x3=>?_;have y3:Ext wr w3:=aRo (show Ext wr (wr.alloc (.cells #[ax,ay,az] 122)) from X_) x3;have D0:=HB.ext y3;have D1:=HC.ext y3;have f0:=D0.free 0;have f1:=D0.free 1;have f2:=D0.free 2;obtain ⟨k0,k1,k2⟩:=D0.q3;have z3:=D0.lt;have X3:=HX.trans y3;have G0:=hid (((D0.set 0 (.int .i64 ax)).set 1 (.int .i64 ay)).set 2 (.int .i64 az))
   have h0:w.heap.size+1≠w.heap.size:=by omega
   have G1:=hid (((D1.other (a:=⟨w.heap.size,0,none⟩) h0 (.int .i64 ax)).other (a:=⟨w.heap.size,1,none⟩) h0 (.int .i64 ay)).other (a:=⟨w.heap.size,2,none⟩) h0 (.int .i64 az));have GX:=hid (show Ext w (((w3.setCell ⟨w.heap.size,0,none⟩ ax).setCell ⟨w.heap.size,1,none⟩ ay).setCell ⟨w.heap.size,2,none⟩ az) from S_);clear D0 D1 X3 y3 x3 HB HC HX;go_wp2;go_roundw
   case rel=>exact ⟨1,by omega,by go_num,GX,G0,G1⟩
   case measure=>simp [intOf]
  ·go_wp2_with fail
   refine r_ (mY h6 h7 Zb _) fun w3 x3=>?_;have y3:Ext wr w3:=aRo (show Ext wr (wr.alloc (.cells #[bx,by',bz] 122)) from X_) x3;have D0:=HB.ext y3;have D1:=HC.ext y3;have f0:=D0.free 3;have f1:=D0.free 4;have f2:=D0.free 5;have k0:=D0.cell 3 rfl;have k1:=D0.cell 4 rfl;have k2:=D0.cell 5 rfl;have z3:=D0.lt;have X3:=HX.trans y3;have G0:=hid (((D0.set 3 (.int .i64 bx)).set 4 (.int .i64 by')).set 5 (.int .i64 bz))
   have h0:w.heap.size+1≠w.heap.size:=by omega
   have G1:=hid (((D1.other (a:=⟨w.heap.size,3,none⟩) h0 (.int .i64 bx)).other (a:=⟨w.heap.size,4,none⟩) h0 (.int .i64 by')).other (a:=⟨w.heap.size,5,none⟩) h0 (.int .i64 bz));have GX:=hid (show Ext w (((w3.setCell ⟨w.heap.size,3,none⟩ bx).setCell ⟨w.heap.size,4,none⟩ by').setCell ⟨w.heap.size,5,none⟩ bz) from S_);clear D0 D1 X3 y3 x3 HB HC HX;go_wp2;go_roundw
   case rel=>exact ⟨2,by omega,by go_num,GX,G0,G1⟩
   case measure=>simp [intOf]
  ·go_wp2_with fail
   refine r_ (mY h8 h9 Zc _) fun w3 x3=>?_;have y3:Ext wr w3:=aRo (show Ext wr (wr.alloc (.cells #[cx,cy,cz] 122)) from X_) x3;have D0:=HB.ext y3;have D1:=HC.ext y3;have f0:=D0.free 6;have f1:=D0.free 7;have f2:=D0.free 8;have k0:=D0.cell 6 rfl;have k1:=D0.cell 7 rfl;have k2:=D0.cell 8 rfl;have z3:=D0.lt;have X3:=HX.trans y3;have G0:=hid (((D0.set 6 (.int .i64 cx)).set 7 (.int .i64 cy)).set 8 (.int .i64 cz))
   have h0:w.heap.size+1≠w.heap.size:=by omega
   have G1:=hid (((D1.other (a:=⟨w.heap.size,6,none⟩) h0 (.int .i64 cx)).other (a:=⟨w.heap.size,7,none⟩) h0 (.int .i64 cy)).other (a:=⟨w.heap.size,8,none⟩) h0 (.int .i64 cz));have GX:=hid (show Ext w (((w3.setCell ⟨w.heap.size,6,none⟩ cx).setCell ⟨w.heap.size,7,none⟩ cy).setCell ⟨w.heap.size,8,none⟩ cz) from S_);clear D0 D1 X3 y3 x3 HB HC HX;go_wp2;go_roundw
   case rel=>exact ⟨3,by omega,by go_num,GX,G0,G1⟩
   case measure=>simp [intOf]
  ·have c0:=HB.cell 0 rfl
   have c1:=HB.cell 1 rfl;have c2:=HB.cell 2 rfl;have c3:=HB.cell 3 rfl;have c4:=HB.cell 4 rfl;have c5:=HB.cell 5 rfl;have c6:=HB.cell 6 rfl;have c7:=HB.cell 7 rfl;have c8:=HB.cell 8 rfl;have f0:=HC.free 0;have f1:=HC.free 1;have f2:=HC.free 2;have f3:=HC.free 3;have f4:=HC.free 4;have f5:=HC.free 5;have f6:=HC.free 6;have f7:=HC.free 7;have f8:=HC.free 8;have k0:=HC.cell 0 rfl;have k1:=HC.cell 1 rfl;have k2:=HC.cell 2 rfl;have k3:=HC.cell 3 rfl;have k4:=HC.cell 4 rfl;have k5:=HC.cell 5 rfl;have k6:=HC.cell 6 rfl;have k7:=HC.cell 7 rfl;have k8:=HC.cell 8 rfl;have hX:=HX.out;go_wp2;exact bodyPost_ret (v:=.agg #[ax,ay,az,bx,by',bz,cx,cy,cz]) (by simp [results,results159,go_sem, *]) rfl ⟨rfl,S_⟩
theorem uQ (ax ay az bx by' bz cx cy cz:Int) (ha:V3.scr ⟨ax,ay,az⟩) (hb:V3.scr ⟨bx,by',bz⟩) (hc:V3.scr ⟨cx,cy,cz⟩) (hz:(-1000000<=az/\az<=1000000)/\(-1000000<=bz/\bz<=1000000)/\(-1000000<=cz/\cz<=1000000)) (sx sy:Int) (hs:(-100000<=sx/\sx<=100000)/\(-100000<=sy/\sy<=100000)) {r:Bool} (hr:qS ⟨ax,ay,az⟩ ⟨bx,by',bz⟩ ⟨cx,cy,cz⟩ ⟨sx,sy,0⟩=r) (w:World) :
  R_ 158 #[.agg #[ax,ay,az,bx,by',bz,cx,cy,cz],sx,sy] w (.bool r):=by
 have Ha:=aT ha;have Hb:=aT hb;have Hc:=aT hc;have HZ:=hid hz;have HR:=hid hr;have Hs:=aT (show V3.scr ⟨sx,sy,0⟩ from hs);have I1:=hid (aG.2 hs.1);have I2:=hid (aG.2 hs.2);have y0:Ext w (w.alloc (.cells #[ax,ay,az,bx,by',bz,cx,cy,cz] 153)):=X_;have Y0:=hid y0;clear ha hb hc hz hr hs y0;go_enter func158,ntmps158;go_wp2_with (go_at_call 92;with_reducible first|(refine z_ (aL I1.out _) ?_)|(refine z_ (aL I2.out _) ?_));refine r_ (uP ax ay az bx by' bz cx cy cz Ha.out Hb.out Hc.out HZ.out _) fun w1 x1=>?_;go_wp2_with fail;refine r_ (aGe ax ay az bx by' bz cx cy cz Ha.out Hb.out Hc.out sx sy 0 Hs.out HR.out _) fun w2 x2=>?_;go_wp2;go_ret;exact ⟨rfl,Y0.out.trans (x1.trans x2)⟩
theorem aGf (ax ay az bx by' bz cx cy cz:Int) (ha:V3.scr ⟨ax,ay,az⟩) (hb:V3.scr ⟨bx,by',bz⟩) (hc:V3.scr ⟨cx,cy,cz⟩) (hz:(-1000000<=az/\az<=1000000)/\(-1000000<=bz/\bz<=1000000)/\(-1000000<=cz/\cz<=1000000)) (sx sy:Int) (hs:(-100000<=sx/\sx<=100000)/\(-100000<=sy/\sy<=100000)) (hr:qS ⟨ax,ay,az⟩ ⟨bx,by',bz⟩ ⟨cx,cy,cz⟩ ⟨sx,sy,0⟩=false) (w:World) :
  R_ 104 #[.agg #[ax,ay,az,bx,by',bz,cx,cy,cz],sx,sy] w (.tuple #[(),.bool false]):=by
 have Ha:=aT ha;have Hb:=aT hb;have Hc:=aT hc;have HZ:=hid hz;have HR:=hid hr;have HS:=hid hs;have h0:=aRr w 153 [ax,ay,az,bx,by',bz,cx,cy,cz];have y0:Ext w (w.alloc (.cells #[ax,ay,az,bx,by',bz,cx,cy,cz] 153)):=X_;have B0:=hid h0;have Y0:=hid y0;clear ha hb hc hz hr hs y0 h0;go_enter func104,ntmps104;go_wp2_with fail;refine r_ (uQ ax ay az bx by' bz cx cy cz Ha Hb Hc HZ sx sy HS HR _) fun w1 x1=>?_;go_wp2;exact bodyPost_ret (v:=.tuple #[(),.bool false]) (by simp [results,results104,go_sem, *]) rfl ⟨rfl,Y0.trans x1⟩
theorem aD8 (ax ay az bx by' bz cx cy cz:Int) (ha:V3.scr ⟨ax,ay,az⟩) (hb:V3.scr ⟨bx,by',bz⟩) (hc:V3.scr ⟨cx,cy,cz⟩) (hz:(-1000000<=az/\az<=1000000)/\(-1000000<=bz/\bz<=1000000)/\(-1000000<=cz/\cz<=1000000)) (sx sy:Int) (hs:(-100000<=sx/\sx<=100000)/\(-100000<=sy/\sy<=100000)) (hr:qS ⟨ax,ay,az⟩ ⟨bx,by',bz⟩ ⟨cx,cy,cz⟩ ⟨sx,sy,0⟩=true) (hd:eK ⟨ax,ay,az⟩ ⟨bx,by',bz⟩ ⟨cx,cy,cz⟩ ⟨sx,sy,0⟩=r) (w:World) :
  R_ 104 #[.agg #[ax,ay,az,bx,by',bz,cx,cy,cz],sx,sy] w (.tuple #[r,.bool true]):=by
 have Ha:=aT ha;have Hb:=aT hb;have Hc:=aT hc;have HZ:=hid hz;have HR:=hid hr;have HS:=hid hs;have HD:=hid hd;have h0:=aRr w 153 [ax,ay,az,bx,by',bz,cx,cy,cz];have y0:Ext w (w.alloc (.cells #[ax,ay,az,bx,by',bz,cx,cy,cz] 153)):=X_;have B0:=hid h0;have Y0:=hid y0;clear ha hb hc hz hr hs y0 h0 hd;go_enter func104,ntmps104;go_wp2_with fail;refine r_ (uQ ax ay az bx by' bz cx cy cz Ha Hb Hc HZ sx sy HS HR _) fun w1 x1=>?_;have c0:=(B0.ext x1).cell 0 rfl;have c1:=(B0.ext x1).cell 1 rfl;have c2:=(B0.ext x1).cell 2 rfl;have c3:=(B0.ext x1).cell 3 rfl;have c4:=(B0.ext x1).cell 4 rfl;have c5:=(B0.ext x1).cell 5 rfl;have c6:=(B0.ext x1).cell 6 rfl;have c7:=(B0.ext x1).cell 7 rfl;have c8:=(B0.ext x1).cell 8 rfl;have zb:=(B0.ext x1).lt;go_wp2_with fail;refine r_ (uP ax ay az bx by' bz cx cy cz Ha Hb Hc HZ _) fun w2 x2=>?_;clear c0 c1 c2 c3 c4 c5 c6 c7 c8;go_wp2_with fail;refine r_ (aJg ax ay az bx by' bz cx cy cz Ha Hb Hc sx sy 0 HS HZ HD _) fun w3 x3=>?_;go_wp2;exact bodyPost_ret (v:=.tuple #[r,.bool true]) (by simp [results,results104,go_sem, *]) rfl ⟨rfl,Y0.trans (x1.trans (x2.trans x3))⟩
def rD (op:Int):Bool:=op==2||op==8
def aCl (op l:Int):Bool:=if op=1\/op=2 then l==0 else if op=3 then l==1 else if 4<=op/\op<=7 then l==2 else if op=8 then decide (l<=3) else false
def gT (x:Nd):Bool:=(if rD x.op then dN x.name else x.name.toList==[])&&(if x.op=1 then inB x.num 0 2559999 else x.num==0)&&aCl x.op x.args.length
theorem uR {s:ByteArray} (h:dN s=true):(s.toList==[])=false:=by
 rw [beq_eq_false_iff_ne];intro e
 have h1:s.size=0:=by
  rw [ByteArray.toList_eq] at e
  have:s.data.toList.length=s.size:=by simp
  rw [<-this,e]
  rfl
 unfold dN at h;rw [h1] at h;simp at h
theorem kU {s:ByteArray} (h:dN s=b) (w:World) (hs:s.size<=maxLen):R_ 238 #[.string s] w (.bool b):=h▸rV s w hs
theorem kW {s:ByteArray} (h:dN s=b) (w:World) (hs:s.size<=maxLen):Z_ 187 #[.string s] w (.bool b):=h▸rU s w hs
theorem aD9 (op:Int) (bn:Bool):(op=1/\bn=true)\/(op=1/\bn=false)\/op=2\/op=3\/op=4\/op=5\/op=6\/op=7\/op=8\/(op≠1/\op≠2/\op≠3/\op≠4/\op≠5/\op≠6/\op≠7/\op≠8):=by
 cases bn <;> simp <;> omega
theorem wZ (op:Int) (s:ByteArray) (n:Int) (a:Option Addr) (r:List Int) (cap:Nat) (w:World) (hs:s.size<=maxLen) :
  R_ 237 #[.agg #[op,.string s,n,.slice a r.length cap]] w (.bool (gT ⟨op,s,n,r⟩)):=by
 obtain ⟨bi,h2⟩:∃b,dN s=b:=⟨_,rfl⟩
 obtain ⟨be,h4⟩:∃b,(s.toList==[])=b:=⟨_,rfl⟩
 obtain ⟨bn,h0⟩:∃b,inB n 0 2559999=b:=⟨_,rfl⟩
 have h3:bi=true->be=false:=fun h=>by rw [<-h4];exact uR (by rw [h2,h])
 have bA:=Bx.made w #[op,.string s,n,.slice a r.length cap] 197;have HS:=hid hs;have HI:=hid h2;clear hs
 rcases aD9 op bn with ⟨rfl,rfl⟩|⟨rfl,rfl⟩|rfl|rfl|rfl|rfl|rfl|rfl|rfl|⟨o1,o2,o3,o4,o5,o6,o7,o8⟩
 all_goals cases bi <;> cases be
 all_goals first|(exfalso;simp at h3;done)|skip
 all_goals
  try have q1:(op==1)=false:=beq_eq_false_iff_ne.2 o1
  try have q2:(op==2)=false:=beq_eq_false_iff_ne.2 o2
  try have q3:(op==3)=false:=beq_eq_false_iff_ne.2 o3
  try have q4:(op==4)=false:=beq_eq_false_iff_ne.2 o4
  try have q5:(op==5)=false:=beq_eq_false_iff_ne.2 o5
  try have q6:(op==6)=false:=beq_eq_false_iff_ne.2 o6
  try have q7:(op==7)=false:=beq_eq_false_iff_ne.2 o7
  try have q8:(op==8)=false:=beq_eq_false_iff_ne.2 o8
  clear h3 h2;go_enter func237,ntmps237;go_wp2_with fail;refine r_ (kU HI _ HS) fun w1 x1=>?_;have h1:=bA.ext x1;have X1:Ext w w1:=aRo X_ x1;clear bA x1;have y:=h1.lt;obtain ⟨y0,y1,y2,y3⟩:=h1.q4;clear h1;go_wp2_with (go_at_call 92;refine z_ (aL h0 _) ?_)
  all_goals (go_ret;exact ⟨by first|(simp [gT,rD,aCl,HI.out,h0, *];done)|(simp [gT,rD,aCl,HI.out,h0, *] <;> simp_all;done)|(simp [gT,rD,aCl,HI.out,h0, *] <;> omega),X1⟩)
def mG (r:List Int) (i:Int):Bool:=r.all fun a=>inB a 0 (i - 1)
theorem aM2:inB 4 4 7=true/\inB 5 4 7=true/\inB 6 4 7=true/\inB 7 4 7=true:=⟨rfl,rfl,rfl,rfl⟩
theorem aJh (lo hi:Nat) (op:Int) (s:ByteArray) (n:Int) (u:Value) (r:List Int) (i:Int) (w:World) (hu:aS lo hi w u r) (hh:hi<=w.heap.size) (hs:s.size<=maxLen) (hi1:0<=i) (hi2:i<=10000000) :
  R_ 186 #[.agg #[op,.string s,n,u],i] w (.bool (mG r i&&gT ⟨op,s,n,r⟩)):=by
 obtain ⟨a,cap,rfl,HU⟩:=hu.open;have l1:=HU.le;have l2:=HU.cap
 obtain ⟨bi,h7⟩:∃b,dN s=b:=⟨_,rfl⟩
 obtain ⟨be,h5⟩:∃b,(s.toList==[])=b:=⟨_,rfl⟩
 obtain ⟨bn,h1⟩:∃b,inB n 0 2559999=b:=⟨_,rfl⟩
 have h3:bi=true->be=false:=fun h=>by rw [<-h5];exact uR (by rw [h7,h])
 have HS:=hid hs;have HI:=hid h7;have HE:=hid h5;have HB:=hid h1;have x0:Ext w (w.alloc (.cells #[op,.string s,n,.slice a r.length cap] 197)):=X_;have h9:=hid h3;clear hs h7 h5 h1 h3 hu;go_enter func186,ntmps186;go_wp2
 go_loopw [11] (fun q wr=>∃k:Nat,k<=r.length/\q = .int .i64 k/\wr=(w.alloc (.cells #[op,.string s,n,.slice a r.length cap] 197))/\∀j x,j<k->r[j]?=some x->inB x 0 (i - 1)=true) (fun q _=>r.length - (intOf q).toNat)
 case atStart=>exact ⟨0,by omega,rfl,rfl,fun j x h=>by omega⟩
 case round=>
  obtain ⟨k,hk,rfl,rfl,h4⟩:=hrel
  by_cases h8:k<r.length
  ·obtain ⟨b,q0,rfl,q5,q6,hc⟩:=HU.at h8
   have h0:r[k]?=some r[k]:=by simp [h8]
   obtain ⟨y,hy⟩:∃y,r[k]=y:=⟨_,rfl⟩
   rw [hy] at hc h0;clear hy;rw [<-x0.cells.1 b _ (by omega)] at hc
   obtain ⟨bb,h2⟩:∃c,inB y 0 (i - 1)=c:=⟨_,rfl⟩
   have q7:b<(w.alloc (.cells #[op,.string s,n,.slice (some ⟨b,q0,none⟩) r.length cap] 197)).heap.size:=by simp;omega
   cases bb
   ·have HN:Hid (mG r i=false):=hid (by
     unfold mG;rw [aUt]
     exact ⟨y,aR7 h0,by rw [h2];simp⟩)
    have h6:=hid h2;clear h4 h0 h2;go_wp2_with (go_at_call 46;refine z_ (aF h6.out _) ?_);go_ret;exact ⟨by rw [HN.out];rfl,x0⟩
   ·have HN:Hid (∀j x,j<k+1->r[j]?=some x->inB x 0 (i - 1)=true):=hid (fun j z hj hz=>by
     by_cases e:j=k
     ·subst e
      rw [h0] at hz;injection hz with hz;subst hz;exact h2
     ·exact h4 j z (by omega) hz)
    have h6:=hid h2;clear h4 h0 h2;go_wp2_with (go_at_call 46;refine z_ (aF h6.out _) ?_);go_roundw
    case rel=>exact ⟨k+1,by omega,by go_num,by trivial,HN.out⟩
    case measure=>simp [intOf];omega
  ·obtain rfl:k=r.length:=by omega
   have HN:Hid (mG r i=true):=hid (by
    unfold mG;rw [aSs];intro x hx;obtain ⟨j,hj,rfl⟩:=aSj hx
    exact h4 j _ hj (by simp [hj]))
   clear h4;have h3:=h9.out;have h5:=HE.out;have h1:=HB.out
   rcases aD9 op bn with ⟨rfl,rfl⟩|⟨rfl,rfl⟩|rfl|rfl|rfl|rfl|rfl|rfl|rfl|⟨o1,o2,o3,o4,o5,o6,o7,o8⟩
   all_goals cases bi <;> cases be
   all_goals first|(exfalso;simp at h3;done)|skip
   all_goals
    try have q1:(op==1)=false:=beq_eq_false_iff_ne.2 o1
    try have q2:(op==2)=false:=beq_eq_false_iff_ne.2 o2
    try have q3:(op==3)=false:=beq_eq_false_iff_ne.2 o3
    try have q8:(op==8)=false:=beq_eq_false_iff_ne.2 o8
    try have q4:inB op 4 7=false:=by unfold inB;simp;omega
    clear h3;go_wp2_with (first|(go_at_call 187;refine z_ (kW HI.out _ HS.out) ?_)|(go_at_call 46;(first|with_reducible refine (aF h1 _).mono ?_|with_reducible refine (aF q4 _).mono ?_|with_reducible refine (aF aM2.1 _).mono ?_|with_reducible refine (aF aM2.2.1 _).mono ?_|with_reducible refine (aF aM2.2.2.1 _).mono ?_|with_reducible refine (aF aM2.2.2.2 _).mono ?_);rintro e w1 ⟨rfl,rfl⟩))
    all_goals (go_ret;exact ⟨by rw [HN.out,aW4];first|(simp [gT,rD,aCl,HI.out,h1, *];done)|(simp [gT,rD,aCl,HI.out,h1, *] <;> simp_all;done)|(simp [gT,rD,aCl,HI.out,h1, *] <;> omega),x0⟩)
def mH (u:List Int) (i:Nat):List Int:=u.set i (u.getD i 0+1)
def jF (u:List Int) (es:List Int):List Int:=es.foldl (fun u a=>mH u a.toNat) u
def iE (u:List Int) (xs:List Nd):List Int:=xs.foldl (fun u x=>jF u x.args) u
def kY (u:List Int) (gs:List Asg):List Int:=gs.foldl (fun u a=>mH u a.root.toNat) u
def Prg.usesA (p:Prg):List Int:=iE (aR5 p.ns.length 0) p.ns
def Prg.uses (p:Prg):List Int:=kY p.usesA p.gs
def Prg.ndB (p:Prg) (k:Nat):Bool:=match p.ns[k]? with|some x=>mG x.args k&&gT x|none=>true
def Prg.agB (p:Prg) (k:Nat):Bool:=match p.gs[k]? with|some x=>dN x.name&&inB x.root 0 ((p.ns.length:Int) - 1)|none=>true
def Prg.okB (p:Prg):Bool:=decide (p.ns.length<=60)&&(aR6 p.ns.length).all p.ndB&&(aR6 p.gs.length).all p.agB&&p.uses.all (· == 1)
theorem Prg.ndB_at {p:Prg} {x:Nd} (h:p.ns[k]?=some x):p.ndB k=(mG x.args k&&gT x):=by unfold Prg.ndB;rw [h]
theorem Prg.agB_at {p:Prg} {x:Asg} (h:p.gs[k]?=some x):p.agB k=(dN x.name&&inB x.root 0 ((p.ns.length:Int) - 1)):=by unfold Prg.agB;rw [h]
def mZ (u:List Int) (t:Nat):Prop:=∀i,0<=u.getD i 0/\u.getD i 0<=t
theorem mZ.zero (n:Nat):mZ (aR5 n 0) 0:=fun i=>by
 rw [aSe,List.getElem?_replicate]
 split <;> simp
theorem mZ.bump {t:Nat} (h:mZ u t) (i:Nat):mZ (mH u i) (t+1):=fun j=>by
 have h1:=h i;have h2:=h j;unfold mH;rw [aSe,List.getElem?_set]
 split
 ·split
  ·simp only [Option.getD_some];omega
  ·simp;omega
 ·rw [<-aSe];omega
theorem mZ.mono {t t':Nat} (h:mZ u t) (ht:t<=t'):mZ u t':=fun i=>⟨(h i).1,by have:=(h i).2;omega⟩
theorem pD (u:List Int) (i:Nat):(mH u i).length=u.length:=by simp [mH]
theorem pE (es:List Int):∀u:List Int,(jF u es).length=u.length:=by
 unfold jF
 induction es with
 | nil=>intro u;rfl
 | cons a r ih=>intro u;rw [aXa,ih,pD]
theorem tT (xs:List Nd):∀u:List Int,(iE u xs).length=u.length:=by
 unfold iE
 induction xs with
 | nil=>intro u;rfl
 | cons a r ih=>intro u;rw [aXa,ih,pE]
theorem mI (xs:List Asg):∀u:List Int,(kY u xs).length=u.length:=by
 unfold kY
 induction xs with
 | nil=>intro u;rfl
 | cons a r ih=>intro u;rw [aXa,ih,pD]
theorem Prg.usesA_len (p:Prg):p.usesA.length=p.ns.length:=by unfold Prg.usesA;rw [tT,aVo]
theorem pF {α : Type} {xs:List α} {x : α} (h:xs[k]?=some x):xs.take (k+1)=xs.take k++[x]:=by
 obtain ⟨hk,rfl⟩:=aRk.1 h;exact List.take_succ_eq_append_getElem hk
theorem nA {es:List Int} (h:es[k]?=some y):mH (jF u (es.take k)) y.toNat=jF u (es.take (k+1)):=by
 rw [pF h];simp [jF]
theorem xC {xs:List Nd} {x:Nd} (h:xs[k]?=some x):jF (iE u (xs.take k)) x.args=iE u (xs.take (k+1)):=by
 rw [pF h];simp [iE]
theorem nB {xs:List Asg} {x:Asg} (h:xs[k]?=some x):mH (kY u (xs.take k)) x.root.toNat=kY u (xs.take (k+1)):=by
 rw [pF h];simp [kY]
theorem aA2 {x:Nd} (h:gT x=true):x.args.length<=3:=by
 unfold gT at h;simp only [aRy] at h;have:=h.2;unfold aCl at this
 split at this
 ·simp at this;simp [this]
 split at this
 ·simp at this;omega
 split at this
 ·simp at this;omega
 split at this
 ·simp at this;omega
 ·cases this
theorem aB.upd {b:Nat} (h:aB lo w (.slice (some ⟨b,0,none⟩) n cap) u) (hl:n=u.length) {q:Nat} (hq:q<n) :
  lo<=b/\b<w.heap.size/\w.cell? ⟨b,q,none⟩=some (.int .i64 (u.getD q 0))/\w.frozen? ⟨b,q,none⟩=false/\∀x,I64 x->aB lo (w.setCell ⟨b,q,none⟩ x) (.slice (some ⟨b,0,none⟩) n cap) (u.set q x):=by
 obtain ⟨g,y,e,h1,h2,h3,h4,h5,h6⟩:=h.at hl (k:=q) (by omega);simp only [aRl,aSr,and_true] at e;subst e;refine ⟨h1,h2,?_,h5,fun x hx=>(h6 x hx).1⟩;rw [h4,aSe,h3]
 rfl
theorem xD (h:k<xs.length) (hp:xs[k]≠1):xs.all (· == 1)=false:=vV h (by simpa using hp)
theorem aAa (lo hi:Nat) (u:Value) (xs:List Int) (w:World) (hu:aS lo hi w u xs) :
  Calls aRn 267 #[u,.func (.func 240) #[] #[]] w fun e w'=>(∃i:Int,e = .returned (.int .i64 i)/\decide (i≥0) = !(xs.all (· == 1)))/\w=w':=by
 obtain ⟨a,cap,rfl,HU⟩:=hu.open;have l1:=HU.le;have l2:=HU.cap;clear hu;go_enter func267,ntmps267;go_wp2
 go_loopw [8] (fun i wr=>∃k:Nat,k<=xs.length/\i = .int .i64 k/\wr=w/\(xs.take k).all (· == 1)=true) (fun i _=>xs.length - (intOf i).toNat)
 case atStart=>exact ⟨0,by omega,rfl,rfl,rfl⟩
 case round=>
  obtain ⟨k,hk,rfl,rfl,h0⟩:=hrel;have HA:=hid h0;clear h0
  by_cases h3:k<xs.length
  ·obtain ⟨b,h6,rfl,h4,h5,hc⟩:=HU.at h3
   by_cases h1:xs[k]=1
   ·rw [h1] at hc
    have H1:=hid h1;clear h1;go_wp2;go_roundw
    case rel=>exact ⟨k+1,by omega,by go_num,by trivial,jN h3 HA.out (by simp [H1.out])⟩
    case measure=>simp [intOf];omega
   ·obtain ⟨y,hy⟩:∃y,xs[k]=y:=⟨_,rfl⟩
    have H1:=hid (xD h3 h1);rw [hy] at hc h1;have h2:(y==1)=false:=beq_eq_false_iff_ne.2 h1;clear hy;go_wp2;go_ret;exact ⟨⟨_,rfl,by rw [H1];simp⟩,rfl⟩
  ·obtain rfl:k=xs.length:=by omega
   go_wp2;go_ret;have hA:=HA.out;rw [aSh] at hA;exact ⟨⟨_,rfl,by rw [hA];rfl⟩,rfl⟩
theorem tU (lo hi:Nat) (u:Value) (xs:List Int) (w:World) (hb:xs.all (· == 1)=b) (hu:aS lo hi w u xs) :
  Z_ 239 #[u,.func (.func 240) #[] #[]] w (.bool (!b)):=by
 obtain ⟨a,cap,rfl,HU⟩:=hu.open;have HI:=hid hu;clear hu;go_enter func239,ntmps239;go_wp2_with fail;refine (aAa lo hi _ xs _ HI).mono ?_;rintro e w1 ⟨⟨i,rfl,hi2⟩,rfl⟩;go_wp2;go_ret;exact ⟨aK (by first|rfl|(rw [<-hb];exact hi2)),rfl⟩
theorem xF {x:Nd} (h:gT x=b) (a:Option Addr) (cap:Nat) (w:World) (hs:x.name.size<=maxLen) :
  R_ 237 #[.agg #[x.op,.string x.name,x.num,.slice a x.args.length cap]] w (.bool b):=h▸wZ x.op x.name x.num a x.args cap w hs
theorem aH6 {r:List Int} {i:Int} {j:Nat} (h:mG r i=true) (hj:r[j]?=some y):0<=y/\y<=i - 1:=by
 unfold mG at h;rw [aSs] at h;exact aG.1 (h y (aR7 hj))
theorem aS.openS {u:Value} (h:aS lo hi w u xs):∃a c,u = .slice a xs.length c/\aS lo hi w (.slice a xs.length c) xs/\gH lo hi w a c xs:=by
 obtain ⟨a,c,rfl,H⟩:=h.open;exact ⟨a,c,rfl,h,H⟩
theorem rS.atW {a:Option Addr} {xs:List Nd} (h:rS lo hi w a cap xs) (hk:k<xs.length) (hx:Ext w wr) (hh:hi<=w.heap.size) :
  ∃b off op s n sa sc r,a=some ⟨b,off,none⟩/\b<w.heap.size/\b<wr.heap.size/\xs[k]?=some ⟨op,s,n,r⟩/\I64 op/\I64 n/\aS lo hi w (.slice sa r.length sc) r/\gH lo hi w sa sc r/\wr.cell? ⟨b,off+k*4,none⟩=some (.int .i64 op)/\wr.cell? ⟨b,off+k*4+1,none⟩=some (.string s)/\wr.cell? ⟨b,off+k*4+2,none⟩=some (.int .i64 n)/\wr.cell? ⟨b,off+k*4+3,none⟩=some (.slice sa r.length sc):=by
 obtain ⟨⟨i1,i2⟩,b,off,u,e,h1,h2,c0,c1,c2,c3,hu⟩:=h.cell k xs[k] (by simp [hk]);have hz:=hx.size;obtain ⟨sa,sc,rfl,hI,HI⟩:=hu.openS;refine ⟨b,off,xs[k].op,xs[k].name,xs[k].num,sa,sc,xs[k].args,e,by omega,by omega,by simp [hk],i1,i2,hI,HI,?_,?_,?_,?_⟩
 ·exact (hx.cells.1 b _ (by omega)).trans c0
 ·exact (hx.cells.1 b _ (by omega)).trans c1
 ·exact (hx.cells.1 b _ (by omega)).trans c2
 ·exact (hx.cells.1 b _ (by omega)).trans c3
theorem gH.atE {a:Option Addr} (h:gH lo hi w a cap xs) (hk:k<xs.length) (hx:Ext w wr) (hh:hi<=w.heap.size) :
  ∃b off y,a=some ⟨b,off,none⟩/\b<wr.heap.size/\xs[k]?=some y/\I64 y/\wr.cell? ⟨b,off+k,none⟩=some (.int .i64 y):=by
 obtain ⟨b,off,e,h1,h2,c0⟩:=h.at hk;have hz:=hx.size;exact ⟨b,off,xs[k],e,by omega,by simp [hk],h.i64 hk,(hx.cells.1 b _ (by omega)).trans c0⟩
theorem aB.bump {b t:Nat} (h:aB lo w (.slice (some ⟨b,0,none⟩) n cap) u) (hl:n=u.length) {q:Nat} (hq:q<n) (hu:mZ u t) (ht:t<=1000000000) :
  ∃x:Int,0<=x/\x<=1000000000/\b<w.heap.size/\lo<=b/\w.cell? ⟨b,q,none⟩=some (.int .i64 x)/\w.frozen? ⟨b,q,none⟩=false/\aB lo (w.setCell ⟨b,q,none⟩ (.int .i64 (x+1))) (.slice (some ⟨b,0,none⟩) n cap) (mH u q):=by
 obtain ⟨h1,h2,h3,h4,h5⟩:=h.upd hl hq;have:=hu q;exact ⟨_,this.1,by omega,h2,h1,h3,h4,h5 _ ⟨by omega,by omega⟩⟩
theorem pR (lo hi:Nat) (v:Value) (p:Prg) (w:World) (hv:p.R lo hi w v) (hh:hi<=w.heap.size) (hb:p.bd) (hgl:p.gs.length<=1048576) :
  R_ 196 #[v] w (.bool p.okB):=by
 obtain ⟨i0,z4,z7,z8,z9⟩:=info_parts eT;obtain ⟨a1,c1,a2,c2,rfl,HN,HG⟩:=hv.form;have l1:=HN.le;have l2:=HN.cap;have l3:=HG.le;have l4:=HG.cap;have z0:=hid hb;clear hv hb
 by_cases q9:p.ns.length<=60
 case neg=>
  have e:p.okB=false:=by unfold Prg.okB;rw [decide_eq_false q9];simp
  rw [e];clear e;go_enter func196,ntmps196;go_wp2;go_ret;exact ⟨rfl,X_⟩
 have bB:=Bx.made w #[.slice a1 p.ns.length c1,.slice a2 p.gs.length c2] 119;have x0:Ext w (w.alloc (.cells #[.slice a1 p.ns.length c1,.slice a2 p.gs.length c2] 119)):=X_;go_enter func196,ntmps196;go_wp2_with (at_make;refine wpList_make_full _ rfl _ _ 24 rfl (w.heap.size+1) 3 i0 (.int .i64 0) 1 underlying24 z4 z7 z8 _ _ _ _ p.ns.length rfl rfl rfl rfl (by rw [z9];omega) (by unfold maxLen;omega) (by simp) ?_);intro w1 q5 h6;rw [gB] at q5;have a4:=aRj w (.cells #[.slice a1 p.ns.length c1,.slice a2 p.gs.length c2] 119);have x1:Ext (w.alloc (.cells #[.slice a1 p.ns.length c1,.slice a2 p.gs.length c2] 119)) w1:=(aRu _).grown h6 (fun k h=>by cases h);have HO:=hid (show aB (w.heap.size+1) w1 (.slice (some ⟨w.heap.size+1,0,none⟩) p.ns.length p.ns.length) (aR5 p.ns.length 0) from ⟨by simpa using q5,fun x hx=>by rw [(List.mem_replicate.1 hx).2];exact ⟨by decide,by decide⟩⟩);have X1:=hid (x0.trans x1);have h2:=bB.ext x1;have z3:=hid h2;have q:=h2.lt;have q0:=h2.cell 0;simp only [aRm,aRg,aRh] at q0;have q1:=h2.cell 1;simp only [aRm,aRg,aRh] at q1;clear h2;clear q5 h6 z4 z7 z8 z9 x1 x0 bB a4;go_wp2
 go_loopw [21] (fun i wr=>∃k:Nat,k<=p.ns.length/\i = .int .i64 k/\(∀j,j<k->p.ndB j=true)/\Ext w wr/\Bx wr w.heap.size #[.slice a1 p.ns.length c1,.slice a2 p.gs.length c2] 119/\aB (w.heap.size+1) wr (.slice (some ⟨w.heap.size+1,0,none⟩) p.ns.length p.ns.length) (iE (aR5 p.ns.length 0) (p.ns.take k))/\mZ (iE (aR5 p.ns.length 0) (p.ns.take k)) (3*k)) (fun i _=>p.ns.length - (intOf i).toNat)
 case atStart=>exact ⟨0,by omega,rfl,fun j h=>by omega,X1,z3.out,HO,mZ.zero _⟩
 case round=>
  clear HO X1 z3 q q0 q1;obtain ⟨k,hk,rfl,h0,hx,hB,hO,hU⟩:=hrel;have HA:=hid h0;have HX:=hid hx;have HB:=hid hB;have HO:=hid hO;have HU:=hid hU
  by_cases h9:k<p.ns.length
  ·obtain ⟨b,y5,op,s,num,sa,sc,ra,rfl,y9,a0,h1,io,b9,hI,HI,y0,y1,y2,y3⟩:=HN.atW h9 hx hh
   have y7:=hid (hI.ext hh hx);have c0:=HI.le;have c3:=HI.cap;have q6:=hid h1;have x7:=hid (z0.1 _ (aR7 h1));have zx:=hx.size;have bQ:=Bx.made wr #[op,.string s,num,.slice sa ra.length sc] 197;have q0:Ext wr (wr.alloc (.cells #[op,.string s,num,.slice sa ra.length sc] 197)):=X_;clear h1 h0 hx hB hO hU hI
   obtain ⟨bn,h8⟩:∃b,gT ⟨op,s,num,ra⟩=b:=⟨_,rfl⟩
   obtain ⟨ba,h5⟩:∃b,mG ra k=b:=⟨_,rfl⟩
   have x4:=hid h8;have q7:=hid h5;have h7:Hid (p.ndB k=(ba&&bn)):=hid (by rw [Prg.ndB_at q6,h5,h8]);clear h8 h5;go_wp2_with fail;refine r_ (xF x4 sa sc _ x7.out) fun w2 x2=>?_;have X2:=q0.trans x2;have b2:=X2.size;have h4:=bQ.ext x2;have x6:=hid (y7.ext (by omega) X2);have q:=h4.lt;obtain ⟨q0,q1,q2,q3⟩:=h4.q4;clear x2 q0 bQ;have y6:=hid h4;clear h4
   cases bn
   ·go_wp2
    go_ret;refine ⟨aK ?_,HX.trans X2⟩;unfold Prg.okB;rw [fR h9 (by rw [h7];simp)];simp
   go_wp2_with fail;refine z_ (qH q7 _ _ _ _ x6) ?_
   cases ba
   ·go_wp2
    go_ret;refine ⟨aK ?_,HX.trans X2⟩;unfold Prg.okB;rw [fR h9 (by rw [h7];simp)];simp
   have x5:=hid (HX.trans X2);have x9:=hid (HB.ext X2);have z2:=hid (HO.ext X2);have y4:Hid (ra.length<=3):=hid (aA2 x4);clear HB HO X2;go_wp2
   go_loopw [40] (fun i wq=>∃j:Nat,j<=ra.length/\i = .int .i64 j/\Ext w wq/\Bx wq w.heap.size #[.slice (some ⟨b,y5,none⟩) p.ns.length c1,.slice a2 p.gs.length c2] 119/\aB (w.heap.size+1) wq (.slice (some ⟨w.heap.size+1,0,none⟩) p.ns.length p.ns.length) (jF (iE (aR5 p.ns.length 0) (p.ns.take k)) (ra.take j))/\mZ (jF (iE (aR5 p.ns.length 0) (p.ns.take k)) (ra.take j)) (3*k+j)) (fun i _=>ra.length - (intOf i).toNat)
   case atStart=>exact ⟨0,by omega,rfl,x5,x9,z2,HU⟩
   case round=>
    clear x9 z2 x5;obtain ⟨j,hj,rfl,hx,hB,hO,hU⟩:=hrel;have HX:=hid hx;have HB:=hid hB;have HO:=hid hO;have HU:=hid hU
    by_cases a3:j<ra.length
    ·obtain ⟨b3,b1,y,rfl,b4,hy,_,b5⟩:=HI.atE a3 hx hh
     obtain ⟨b7,b8⟩:=aH6 q7 hy
     obtain ⟨q,rfl⟩:∃q:Nat,y=q:=⟨y.toNat,by omega⟩
     have hq:q<p.ns.length:=by omega
     have z5:=y4.out;obtain ⟨x,a5,a6,a7,a8,a9,b0,x3⟩:=hO.bump (by rw [pE,tT,aVo]) hq hU (by omega);have HY:=hid hy;have HS:=hid x3;clear hx hB hO hU hy x3 z5;go_wp2;go_roundw
     case rel=>
      refine ⟨j+1,by omega,by go_num,?_,?_,?_,?_⟩
      ·have hx:=HX.out
       exact S_
      ·exact HB.other (by simp) _
      ·rw [<-nA HY,aSc]
       exact HS
      ·rw [<-nA HY]
       exact (HU.bump _).mono (by omega)
     case measure=>simp [intOf];omega
    ·obtain rfl:j=ra.length:=by omega
     rw [aSh] at hO hU;rw [xC q6] at hO hU;have HO:=hid hO;have HU:=hid hU;have z5:=y4.out;clear hB hO hU hx;go_wp2;go_roundw
     case rel=>
      refine ⟨k+1,by omega,by go_num,fun i hi=>?_,HX,HB,HO,HU.mono (by omega)⟩
      by_cases e:i=k
      ·subst e;exact h7
      ·exact HA i (by omega)
     case measure=>simp [intOf];omega
  ·obtain rfl:k=p.ns.length:=by omega
   rw [aSh] at hO hU;have HO:=hid (show aB (w.heap.size+1) wr (.slice (some ⟨w.heap.size+1,0,none⟩) p.ns.length p.ns.length) p.usesA from hO);have HU:=hid (show mZ p.usesA (3*p.ns.length) from hU);have q:=hB.lt;obtain ⟨q0,q1⟩:=hB.q2;clear hO hU h0 hx hB;go_wp2
   go_loopw [55] (fun i wr=>∃k:Nat,k<=p.gs.length/\i = .int .i64 k/\(∀j,j<k->p.agB j=true)/\Ext w wr/\Bx wr w.heap.size #[.slice a1 p.ns.length c1,.slice a2 p.gs.length c2] 119/\aB (w.heap.size+1) wr (.slice (some ⟨w.heap.size+1,0,none⟩) p.ns.length p.ns.length) (kY p.usesA (p.gs.take k))/\mZ (kY p.usesA (p.gs.take k)) (3*p.ns.length+k)) (fun i _=>p.gs.length - (intOf i).toNat)
   case atStart=>exact ⟨0,by omega,rfl,fun j h=>by omega,HX,HB,HO,HU⟩
   case round=>
    clear HO HX HB HU q q0 q1;obtain ⟨k,hk,rfl,h0,hx,hB,hO,hU⟩:=hrel;have x8:=hid h0;have HX:=hid hx;have HB:=hid hB;have HO:=hid hO;have HU:=hid hU
    by_cases h9:k<p.gs.length
    ·obtain ⟨b,y5,s,rt,rfl,y9,a0,q8,h1,ir,y0,y1⟩:=HG.at h9 hx hh
     have q6:=hid h1;have x7:=hid (z0.2 _ (aR7 h1));have zx:=hx.size;have bQ:=Bx.made wr #[.string s,rt] 200;have q0:Ext wr (wr.alloc (.cells #[.string s,rt] 200)):=X_;clear q8 h1 h0 hx hB hO hU
     obtain ⟨bn,h8⟩:∃b,dN s=b:=⟨_,rfl⟩
     obtain ⟨ba,h5⟩:∃b,inB rt 0 ((p.ns.length:Int) - 1)=b:=⟨_,rfl⟩
     have x4:=hid h8;have q7:=hid h5;have h7:Hid (p.agB k=(bn&&ba)):=hid (by rw [Prg.agB_at q6,h5,h8]);clear h8 h5;go_wp2_with fail;refine r_ (kU x4 _ x7.out) fun w2 x2=>?_;have X2:=q0.trans x2;have b2:=X2.size;have h4:=bQ.ext x2;have z1:=hid (HB.ext X2);have h3:=z1;have q:=h4.lt;obtain ⟨q0,q1⟩:=h4.q2;have d:=h3.lt;have d0:=h3.cell 0;simp only [aRm,aRg,aRh] at d0;have d1:=h3.cell 1;simp only [aRm,aRg,aRh] at d1;have y6:=hid h4;clear x2 q0 bQ h4 h3
     cases bn
     ·go_wp2
      go_ret;refine ⟨aK ?_,HX.trans X2⟩;unfold Prg.okB;rw [fR (p:=p.agB) h9 (by rw [h7];simp)];simp
     go_wp2_with fail;refine z_ (aL q7 _) ?_
     cases ba
     ·go_wp2
      go_ret;refine ⟨aK ?_,HX.trans X2⟩;unfold Prg.okB;rw [fR (p:=p.agB) h9 (by rw [h7];simp)];simp
     have hO:=HO.ext X2;have h5:=aG.1 q7
     obtain ⟨r,rfl⟩:∃r:Nat,rt=r:=⟨rt.toNat,by omega⟩
     have hr:r<p.ns.length:=by omega
     obtain ⟨x,a5,a6,a7,a8,a9,b0,x3⟩:=hO.bump (by rw [mI,Prg.usesA_len]) hr HU (by omega);have HS:=hid x3;have x5:=hid (HX.trans X2);clear hO HO HX x3 h5;go_wp2;go_roundw
     case rel=>
      refine ⟨k+1,by omega,by go_num,fun i hi=>?_,?_,?_,?_,?_⟩
      ·by_cases e:i=k
       ·subst e;exact h7
       ·exact x8 i (by omega)
      ·have hx:=x5.out
       exact S_
      ·exact z1.other (by simp) _
      ·rw [<-nB q6,aSc]
       exact HS
      ·rw [<-nB q6]
       exact (HU.bump _).mono (by omega)
     case measure=>simp [intOf];omega
    ·obtain rfl:k=p.gs.length:=by omega
     rw [aSh] at hO;have HO:=hid (show aB (w.heap.size+1) wr (.slice (some ⟨w.heap.size+1,0,none⟩) p.ns.length p.ns.length) p.uses from hO)
     have b6:p.uses.length=p.ns.length:=by unfold Prg.uses;rw [mI,Prg.usesA_len]
     have z6:p.okB=p.uses.all (· == 1):=by
      unfold Prg.okB;rw [gN HA,gN x8,decide_eq_true q9];simp
     have hI:=HO.ints;have y8:=hid z6;clear hO hU h0 hx hB HO z6;have HI:=hid hI;clear hI;go_wp2_with fail;refine z_ (tU _ _ _ p.uses _ rfl HI) ?_;go_wp2;go_ret;exact ⟨aK (by rw [y8]),HX⟩
end Go.Proofs.YthgpegkmjeigmaaGreat
