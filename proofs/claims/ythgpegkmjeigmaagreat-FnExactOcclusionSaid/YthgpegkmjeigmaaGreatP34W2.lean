/- Texts of this claim, packed: what its theorem does not use is left out. -/
import Derived.Test.YthgpegkmjeigmaaGreatP34W1
import Derived.Lib.OthersKept
import Derived.Laws.RangeAny
import Derived.RangeFuncNested
import Derived.RangeFuncBound
import Derived.RangeFuncCalls
import Derived.RangeFuncLeaves
import Derived.Shelf.Abstract
import Derived.Shelf.RegionOpen
import Derived.OwnWalkIn
import Derived.TacticsInMore
import Derived.LoopNIn
import Derived.LoopIn
import Derived.Test.YthgpegkmjeigmaaGreatRows
import Derived.RangeFuncFrom
import Derived.RangeFuncBox
import Derived.Laws.AppendOwnNone
set_option linter.unusedSimpArgs false
set_option linter.unusedVariables false
set_option maxRecDepth 100000
set_option maxHeartbeats 12800000
namespace Go.Proofs.YthgpegkmjeigmaaGreat
open Go.RowKit
open Go.Proofs.Tryz
open _root_.Go.Act renaming put→aUo
variable {a:Act} {ops:Array Oper} {b:Bool} {Q:Exit→Act→World→Prop} {c d m q r x y:Int} {u xs:List Int} {l:List Oper} {B cap fuel g hi i k lo lo' n p sz z:Nat} {o:Oper} {P:Program} {e t:TypeId} {v:Value} {w w' w1 w2 wr:World} {S:World→Prop}
open _root_.Array renaming getElem?_toList→aV7,getElem?_eq_some_iff→aTn,replicate→aXf,replicate_succ→aYa,replicate_zero→aYb,getElem?_setIfInBounds→aX2,getElem?_eq_getElem→aWr,getElem?_eq_none→aZa,ext_getElem?→aY5
open _root_.Bool renaming and_true→bA4,true_and→aX5,eq_iff_iff→aYy,and_eq_false_iff→bBu,and_eq_true→aTi
open _root_.Go.Addr.mk renaming injEq→aUb
open _root_.Go.Fence renaming wide→bAu
open _root_.Go.Instr renaming next→bDj,makeFunc→aXa,index→aWo
open _root_.Go.KeepsOthers renaming setCell→aXq,of_grownBy→aZg
open _root_.Go.Obj.cells renaming injEq→aUi
open _root_.Go.Oper renaming quietAt→bAq,wp_mono→aYo,wp→aZp,semAt_some→aY3
open _root_.Go.Proofs.Tryz renaming prog→aS7
open _root_.Go.Proofs.YthgpegkmjeigmaaGreat.Blk renaming new→aTc
open _root_.Go.Proofs.YthgpegkmjeigmaaGreat.Ext renaming refl→aTd,trans→aS8,drew→aUa,cells→bAs,block→aTf,setCell→aTk
open _root_.Go.Region renaming ready→aUt,noSelect→aWq,noSelect_spec→aV2,free_spec→aWv
open _root_.Go.RowKit.Below renaming heap_setCell→aTe,refl→aZ1
open _root_.Go.Value.slice renaming injEq→aTp
open _root_.Go.World renaming size_alloc→aS4,size_setCell→aUr,cell?_of_block→aUn,putObj_heap_other→aWh
open _root_.Go.World.rowIs renaming cell→aUx,lt→aVq,frozen→aVd,congr→aVi,set→bAh
open _root_.Int renaming toNat_natCast→aTx,lt_trichotomy→aZe,mul_nonneg→aUm,mul_comm→aU7,zero_add→bCs,cast_ofNat_Int→aY7,natCast_add→aVa
open _root_.List renaming mem_cons→aTo,all_eq_true→aUh,take_length→aT0,drop_eq_getElem_cons→aVs,mem_of_getElem?→aTq,getElem_of_mem→aT6,range→aTt,all_eq_false→aWk,mem_range→aUe,flatMap_cons→aU8,length_append→aTw,length_cons→aUj,getElem?_eq_some_iff→aS2,flatMap_append→aUk,all_cons→aZ9,filterMap_cons→aTu,length_nil→aVc,filterMap_nil→aTl,getElem?_toArray→aS6,getElem?_cons_zero→aS0,getElem?_cons_succ→aS1,setIfInBounds_toArray→aTa,set_cons_succ→aTh,set_cons_zero→aTg,size_toArray→aX8,push_toArray→aZl,append_toArray→aYu,nil_append→aU1,cons_append→aYi,map_cons→aVe,mem_cons_self→aWc,mem_cons_of_mem→aV1,mem_map→aU2,not_mem_nil→aTj,mem_erase_of_ne→bAe,length_map→aT9,mem_append→aU5,map_nil→aYk,replicate→aTs,getD_eq_getElem?_getD→aTy,foldl_cons→aY1,length_replicate→aXc
open _root_.Nat renaming le_trans→aTb,zero_le→aUl,zero_add→aT1,succ_mul→aYn,le_refl→aS3,lt_of_lt_of_le→aUq,one_mul→aVm,mul_le_mul→aT5,mod_lt→aVp,reduceAdd→aWa,reduceSub→bA6,mod_eq_of_lt→aWu,div_lt_of_lt_mul→aVf,mul_zero→bBj,mul_one→aWz,reduceMul→bA5
open _root_.Option.some renaming inj→aUy,injEq→aS5
theorem pP (a1 a2:Option Addr) (n1 c1 c2 L:Nat) (hL:L<=2000000) (op:Int) (s:ByteArray) (n:Int) (w:World) (h:wfI op s n L=true) {p:Int} (hp:cV op s=p) (hq:gR op=q) :
  R_ 234 #[.agg #[.slice a1 n1 c1,.slice a2 L c2],.agg #[op,.string s,n]] w (.tuple #[p,q,.bool true]):=by
 subst hp hq
 by_cases ho:1<=op/\op<=7
 case neg=>
  unfold wfI at h;rw [if_neg (by omega),if_neg (by omega),if_neg (by omega),if_neg (by omega),if_neg (by omega),if_neg (by omega),if_neg (by omega)] at h;cases h
 rcases (show op=1\/op=2\/op=3\/op=4\/op=5\/op=6\/op=7 by omega) with rfl|rfl|rfl|rfl|rfl|rfl|rfl
 ·have:=aPq a1 a2 n1 c1 c2 L hL s n w rfl rfl
  rw [show (s.toList==[])=true by simpa [wfI] using h] at this;exact this
 ·have:=aPr a1 a2 n1 c1 c2 L hL s n w rfl rfl rfl
  rw [show (dH s&&decide (n=0))=true by simpa [wfI] using h] at this;exact this
 ·have:=aPs a1 a2 n1 c1 c2 L hL s n w rfl rfl
  rw [show ((s.toList==[])&&inB n 0 ((L:Int) - 1))=true by simpa [wfI] using h] at this;exact this
 ·have:=aPt a1 a2 n1 c1 c2 L hL s n w rfl rfl
  rw [show ((s.toList==[])&&inB n 0 ((L:Int) - 1))=true by simpa [wfI] using h] at this;exact this
 ·have:=aPu a1 a2 n1 c1 c2 L hL s n w rfl rfl
  rw [show ((s.toList==[])&&decide (n=3))=true by simpa [wfI] using h] at this;exact this
 ·have:=aPv a1 a2 n1 c1 c2 L hL s n w rfl rfl rfl
  rw [show ((s.toList==[])&&inB n 4 7)=true by simpa [wfI] using h] at this;exact this
 ·have:=aPw a1 a2 n1 c1 c2 L hL s n w rfl rfl rfl
  have hb:=oT s;rw [show (decide (0<cK s)&&decide (n=0))=true by (simp [wfI] at h;simp;omega)] at this;exact this
theorem aOg (a1 a2:Option Addr) (n1 c1 c2 L:Nat) (hL:L<=2000000) (op:Int) (s:ByteArray) (n:Int) (w:World) (h:wfI op s n L=false) :
  Calls aS7 234 #[.agg #[.slice a1 n1 c1,.slice a2 L c2],.agg #[op,.string s,n]] w fun e w'=>(∃p q,e = .returned (.tuple #[p,q,.bool false]))/\Ext w w':=by
 by_cases ho:1<=op/\op<=7
 case neg=>exact (aQ8 a1 a2 n1 c1 c2 L hL s n w rfl rfl op ho).mono fun e w' ⟨h1,h2⟩=>⟨⟨_,_,h1⟩,h2⟩
 rcases (show op=1\/op=2\/op=3\/op=4\/op=5\/op=6\/op=7 by omega) with rfl|rfl|rfl|rfl|rfl|rfl|rfl
 focus
  have:=aPq a1 a2 n1 c1 c2 L hL s n w rfl rfl
  rw [show (s.toList==[])=false by simpa [wfI] using h] at this
 rotate_left
 focus
  have:=aPr a1 a2 n1 c1 c2 L hL s n w rfl rfl rfl
  rw [show (dH s&&decide (n=0))=false by simpa [wfI] using h] at this
 rotate_left
 focus
  have:=aPs a1 a2 n1 c1 c2 L hL s n w rfl rfl
  rw [show ((s.toList==[])&&inB n 0 ((L:Int) - 1))=false by simpa [wfI] using h] at this
 rotate_left
 focus
  have:=aPt a1 a2 n1 c1 c2 L hL s n w rfl rfl
  rw [show ((s.toList==[])&&inB n 0 ((L:Int) - 1))=false by simpa [wfI] using h] at this
 rotate_left
 focus
  have:=aPu a1 a2 n1 c1 c2 L hL s n w rfl rfl
  rw [show ((s.toList==[])&&decide (n=3))=false by simpa [wfI] using h] at this
 rotate_left
 focus
  have:=aPv a1 a2 n1 c1 c2 L hL s n w rfl rfl rfl
  rw [show ((s.toList==[])&&inB n 4 7)=false by simpa [wfI] using h] at this
 rotate_left
 focus
  have:=aPw a1 a2 n1 c1 c2 L hL s n w rfl rfl rfl
  have hb:=oT s
  rw [show (decide (0<cK s)&&decide (n=0))=false by (simp [wfI] at h;simp;omega)] at this
 rotate_left
 all_goals
  exact this.mono fun e w' ⟨h1,h2⟩=>⟨⟨_,_,h1⟩,h2⟩
theorem aHb (lo hi:Nat) (v:Value) (c:Cod) (w:World) (hv:c.R lo hi w v) (hh:hi<=w.heap.size) (hL:c.ls.length<=2000000) :
  R_ 232 #[v] w (.tuple #[(c.depth.getD 0),.bool c.depth.isSome]):=by
 obtain ⟨a1,c1,a2,c2,rfl,HI,HS⟩:=hv.form;have l1:=HI.le;have l2:=HI.cap;have l3:=HS.le;have l4:=HS.cap;clear hv
 obtain ⟨L,q9⟩:=e_ c.ls.length
 rw [q9] at hL l3 ⊢
 by_cases q3:c.xs.length<=300
 case neg=>
  have e:c.depth=none:=by unfold Cod.depth;rw [if_neg q3]
  rw [e];obtain ⟨i0,h9,q4,q5,q6⟩:=info_parts rM;go_enter func232,ntmps232;go_wp2_with (at_make;refine wpList_make_row _ rfl _ _ 298 rfl 4 i0 (.bool false) underlying298 h9 q4 q5 rfl .i64 .i64 L rfl rfl (by rw [q6];omega) (by omega) ?_);clear h9 q4 q5 q6;go_wp2;refine bodyPost_ret (v:=.tuple #[(),.bool false]) (by simp [results,results232,go_sem]) rfl ⟨rfl,S_⟩
 obtain ⟨R,hR⟩:=e_ c.depth
 have h0:iV L c.xs 0 0 (fun _=>false)=R:=by rw [<-hR,<-q9];unfold Cod.depth;rw [if_pos q3]
 rw [hR];have h8:=hid h0;clear h0 hR;obtain ⟨i0,h9,q4,q5,q6⟩:=info_parts rM;go_enter func232,ntmps232;go_wp2_with (at_make;refine wpList_make_row _ rfl _ _ 298 rfl 4 i0 (.bool false) underlying298 h9 q4 q5 rfl .i64 .i64 L rfl rfl (by rw [q6];omega) (by omega) ?_);obtain ⟨h2,h1,X0⟩:=h3_ (show aA3 _ _ L (fun _=>false) from World.rowIs_made (w.alloc (.cells #[.slice a1 c.xs.length c1,.slice a2 L c2] 163)) (.bool false) L 4) ((iT.made w (.slice a1 c.xs.length c1) (.slice a2 L c2) 163).ext ((aTd _).alloc (.cells (madeCells #[.bool false] L) 4))) (show Ext w ((w.alloc (.cells #[.slice a1 c.xs.length c1,.slice a2 L c2] 163)).alloc (.cells (madeCells #[.bool false] L) 4)) from X_);clear h9 q4 q5 q6;go_wp2;simp only [aS4] at h2;generalize hB:w.heap.size+1=B at h2
 go_loopw [4,5,23] (fun dv mv i wr=>∃(k:Nat) (d m:Int) (st:Nat->Bool),k<=c.xs.length/\i = .int .i64 k/\dv = .int .i64 d/\mv = .int .i64 m/\iV L (c.xs.drop k) d m st=R/\0<=d/\d<=k/\0<=m/\m<=k/\Ext w wr/\aA3 wr B L st/\iT wr w.heap.size (.slice a1 c.xs.length c1) (.slice a2 L c2)) (fun _ _ i _=>c.xs.length - (intOf i).toNat)
 case atStart=>exact ⟨0,0,0,_,by omega,rfl,rfl,rfl,h8,by omega,by omega,by omega,by omega,X0,h2.out,h1.out⟩
 case round=>
  clear h8 X0 h2 h1;obtain ⟨k,d,m,st,hk,rfl,rfl,rfl,h0,d0,d1,m0,m1,hx,h2,h1⟩:=hrel
  have k0:k<=300:=by omega
  by_cases x8:k<c.xs.length
  ·obtain ⟨b,z9,op,s,n,rfl,z4,z5,h5,q8,io,z8,x0,x1,x2⟩:=HI.at x8 hx hh
   rw [h5] at h0;unfold iV at h0;have q0:=h1.lt;have q1:=h1.c0;have q2:=h1.c1;obtain ⟨HX,HR,HQ⟩:=h3_ hx h2 h1;clear hx h2 h1 h5 q8
   cases h4:wfI op s n L
   ·have e:R=none:=by rw [<-h0,if_neg (by simp [h4])]
    subst e;clear h0;go_wp2_with fail;refine (aOg _ _ _ _ _ L hL op s n _ h4).mono ?_;rintro e w1 ⟨⟨p,q,rfl⟩,x1⟩;have X1:Ext w w1:=aS8 (by have hx:=HX.out;exact X_) x1;go_wp2;refine bodyPost_ret (v:=.tuple #[(),.bool false]) (by simp [results,results232,go_sem]) rfl ⟨rfl,S_⟩
   have pb:=aC9 h4;have qb:=aI5 op
   obtain ⟨p,hp⟩:=e_ (cV op s)
   obtain ⟨q,hq⟩:=e_ (gR op)
   rw [hp,hq] at h0;rw [hp] at pb;rw [hq] at qb;obtain ⟨HP,h6⟩:=h2_ hp hq;simp only [h4,true_and] at h0
   by_cases h3:op=3/\st n.toNat=false
   ·obtain ⟨rfl,h3⟩:=h3
    obtain ⟨j,rfl,hj⟩:=oB h4 (.inl rfl);simp only [aTx] at h3
    have e:R=none:=by rw [<-h0,if_neg (by simp [h3])]
    subst e;clear h0 hp hq;go_wp2_with fail;refine r_ (pP _ _ _ _ _ L hL _ s _ _ h4 HP h6) fun w1 x1=>?_;have X1:Ext w w1:=aS8 (by have hx:=HX.out;exact X_) x1;have K1:=(kY.made wr 3 s j 221).ext x1;obtain ⟨R1,y0,y1,y2,y3⟩:=m5_ ((HR.ext ((aTd _).alloc (.cells #[.int .i64 3,.string s,j] 221))).ext x1) K1.lt K1.c0 K1.c1 K1.c2;have z0:=aUx R1 hj;rw [h3] at z0;have z1:=aVq R1;clear K1 R1 x0 x1 x2;go_wp2
    all_goals refine bodyPost_ret (v:=.tuple #[(),.bool false]) (by simp [results,results232,go_sem]) rfl ⟨rfl,S_⟩
   have q7:op=3->st n.toNat=true:=fun e=>by
    cases h:st n.toNat
    ·exact absurd ⟨e,h⟩ h3
    ·rfl
   have H3:=hid q7
   by_cases x4:p<=d
   case neg=>
    rw [if_neg (fun h=>x4 h.2)] at h0;subst h0;clear hp hq q7;have z7:(decide (d<p))=true:=decide_eq_true (by omega)
    by_cases e3:op=3
    ·subst e3
     have:=HP.out;have e:cV 3 s=0:=rfl;omega
    go_wp2_with fail;refine r_ (pP _ _ _ _ _ L hL _ s _ _ h4 HP h6) fun w1 x1=>?_;have X1:Ext w w1:=aS8 (by have hx:=HX.out;exact X_) x1;have K1:=(kY.made wr op s n 221).ext x1;have y0:=K1.lt;have y1:=K1.c0;have y2:=K1.c1;have y3:=K1.c2;clear x0 x1 x2;go_wp2;refine bodyPost_ret (v:=.tuple #[(),.bool false]) (by simp [results,results232,go_sem]) rfl ⟨rfl,S_⟩
   rw [if_pos ⟨q7,x4⟩] at h0;have h7:=hid h0;clear h0 hp hq q7
   have pl:d - p+q<=(k:Int)+1:=by omega
   have pn:0<=d - p+q:=by omega
   obtain ⟨D,hD⟩:=e_ (d - p+q)
   rw [hD] at h7 pl pn
   have z3:d+(q - p)=D:=by omega
   have hM:∃M:Int,(if D > m then D else m)=M/\0<=M/\M<=(k:Int)+1:=⟨_,rfl,by split <;> omega,by split <;> omega⟩
   obtain ⟨M,hM,M0,M1⟩:=hM;have HM:=hid hM;clear hM
   by_cases e3:op=3
   ·subst e3
    obtain ⟨j,rfl,hj⟩:=oB h4 (.inl rfl);have x5:=H3.out rfl;simp only [aTx] at x5;go_wp2_with fail;refine r_ (pP _ _ _ _ _ L hL _ s _ _ h4 HP h6) fun w1 x1=>?_;have X1:Ext w w1:=aS8 (by have hx:=HX.out;exact X_) x1;have g1:Ext wr w1:=aS8 X_ x1;have K1:=(kY.made wr 3 s j 221).ext x1;have R1:=HR.ext g1;have z0:=aUx R1 hj;rw [x5] at z0;obtain ⟨z1,y0,y1,y2,y3⟩:=m5_ (aVq R1) K1.lt K1.c0 K1.c1 K1.c2;clear x0 x1 x2;have B2:=HQ.ext g1;have R2:=R1;have X2:=X1;go_wp2_with fail;refine z_ (pK (c:=M) (I64.mk (by omega) (by omega)) (I64.mk (by omega) (by omega)) (by rw [<-HM];split <;> split <;> omega) _) ?_;go_wp2;go_roundw
    case rel=>exact ⟨k+1,D,M,_,by omega,by go_num,rfl,rfl,by rw [<-HM];exact h7,pn,by omega,M0,by omega,X2,R2,B2⟩
    case measure=>simp [intOf];omega
   by_cases e4:op=4
   ·subst e4
    obtain ⟨j,rfl,hj⟩:=oB h4 (.inr rfl)
    have x9:B≠w.heap.size:=by omega
    go_wp2_with fail;refine r_ (pP _ _ _ _ _ L hL _ s _ _ h4 HP h6) fun w1 x1=>?_;have X1:Ext w w1:=aS8 (by have hx:=HX.out;exact X_) x1;have g1:Ext wr w1:=aS8 X_ x1;have K1:=(kY.made wr 4 s j 221).ext x1;obtain ⟨R1,y0,y1,y2,y3⟩:=m5_ (HR.ext g1) K1.lt K1.c0 K1.c1 K1.c2;clear x0 x1 x2;have B2:=HQ.ext g1;have R2:=R1;have X2:=X1;have z0:=aUx R2 hj;have z1:=aVq R2;have z2:=aVd R2 j;obtain ⟨x6,x7⟩:=h2_ B2 R2;clear B2 R2;go_wp2_with fail;refine z_ (pK (c:=M) (I64.mk (by omega) (by omega)) (I64.mk (by omega) (by omega)) (by rw [<-HM];split <;> split <;> omega) _) ?_;go_wp2;go_roundw
    case rel=>exact ⟨k+1,D,M,_,by omega,by go_num,rfl,rfl,by rw [<-HM];exact h7,pn,by omega,M0,by omega,X2.setCell (by show w.heap.size<=B;omega) _,x7.mark j,x6.at (by simp) (aTe _ _ _ _ (by show w.heap.size≠B;omega))⟩
    case measure=>simp [intOf];omega
   ·have x3:iU op n st=st:=by unfold iU;rw [if_neg e4]
    rw [x3] at h7;clear x3;go_wp2_with fail;refine r_ (pP _ _ _ _ _ L hL _ s _ _ h4 HP h6) fun w1 x1=>?_;have X1:Ext w w1:=aS8 (by have hx:=HX.out;exact X_) x1;have g1:Ext wr w1:=aS8 X_ x1;have K1:=(kY.made wr op s n 221).ext x1;obtain ⟨R1,y0,y1,y2,y3⟩:=m5_ (HR.ext g1) K1.lt K1.c0 K1.c1 K1.c2;clear x0 x1 x2;have B2:=HQ.ext g1;have R2:=R1;have X2:=X1;go_wp2_with fail;refine z_ (pK (c:=M) (I64.mk (by omega) (by omega)) (I64.mk (by omega) (by omega)) (by rw [<-HM];split <;> split <;> omega) _) ?_;go_wp2;go_roundw
    case rel=>exact ⟨k+1,D,M,_,by omega,by go_num,rfl,rfl,by rw [<-HM];exact h7,pn,by omega,M0,by omega,X2,R2,B2⟩
    case measure=>simp [intOf];omega
  ·obtain rfl:k=c.xs.length:=by omega
   rw [List.drop_length] at h0;have e:=aE2 h0;clear h0
   by_cases hd:d=0
   ·rw [if_pos hd] at e
    subst e hd;go_wp2;refine bodyPost_ret (v:=.tuple #[m,.bool true]) (by simp [results,results232,go_sem]) rfl ⟨rfl,S_⟩
   ·rw [if_neg hd] at e
    have z6:(d != 0)=true:=by simp [hd]
    subst e;go_wp2;refine bodyPost_ret (v:=.tuple #[(),.bool false]) (by simp [results,results232,go_sem]) rfl ⟨rfl,S_⟩
def iP (x:Ins):Bool:=inB x.num (-1000000000) 1000000000
def Cod.runB (c:Cod):Bool:=c.depth.isSome&&c.xs.all iP
theorem aDa {L:Nat}:∀(xs:List Ins) (d m:Int) (st:Nat->Bool),(iV L xs d m st).isSome=true->∀x∈xs,wfI x.op x.name x.num L=true
 | [],_,_,_,_,x,hx=>by cases hx
 | y::r,d,m,st,h,x,hx=>by
  unfold iV at h
  split at h
  ·rename_i hc
   rcases aTo.1 hx with rfl|hx
   ·exact hc.1
   ·exact aDa r _ _ _ h x hx
  ·simp at h
theorem Cod.wf {c:Cod} (h:c.depth.isSome=true):∀x∈c.xs,wfI x.op x.name x.num c.ls.length=true:=by
 unfold Cod.depth at h
 split at h
 ·exact aDa _ _ _ _ h
 ·simp at h
theorem aQg {x:Ins} {L:Nat} (h:wfI x.op x.name x.num L=true) (hL:L<=2000000) (h1:x.op≠1):iP x=true:=by
 unfold wfI at h;rw [if_neg h1] at h;refine aG.2 ?_
 split at h
 ·simp at h;omega
 split at h
 ·simp [aG] at h;omega
 split at h
 ·simp [aG] at h;omega
 split at h
 ·simp at h;omega
 split at h
 ·simp [aG] at h;omega
 split at h
 ·simp at h;omega
 ·cases h
def uZ (x:Ins):Bool:=!(x.op==1)||iP x
theorem Cod.runB_push {c:Cod} (hL:c.ls.length<=2000000):(c.xs.all uZ&&c.depth.isSome)=c.runB:=by
 unfold Cod.runB
 cases h:c.depth.isSome
 ·simp
 ·rw [bA4,aX5]
  have hw:=Cod.wf h;rw [aYy,aUh,aUh]
  constructor
  ·intro k x hx
   have h1:=k x hx
   by_cases e:x.op=1
   ·simpa [uZ,e] using h1
   ·exact aQg (hw x hx) hL e
  ·intro k x hx
   simp [uZ,k x hx]
theorem aHc {c:Cod} (h:c.depth.getD 0=m/\c.depth.isSome=b) (lo hi:Nat) (v:Value) (w:World) (hv:c.R lo hi w v) (hh:hi<=w.heap.size) (hL:c.ls.length<=2000000) :
  R_ 253 #[v] w (.tuple #[m,.bool b]):=h.1▸h.2▸aHa lo hi v c w hv hh hL
theorem xF {c:Cod} (h:c.depth.getD 0=m/\c.depth.isSome=b) (lo hi:Nat) (v:Value) (w:World) (hv:c.R lo hi w v) (hh:hi<=w.heap.size) (hL:c.ls.length<=2000000) :
  R_ 232 #[v] w (.tuple #[m,.bool b]):=h.1▸h.2▸aHb lo hi v c w hv hh hL
theorem lZ {c:Cod} {r:Bool} (hr:c.runB=r) (lo hi:Nat) (v:Value) (w:World) (hv:c.R lo hi w v) (hh:hi<=w.heap.size) (hL:c.ls.length<=2000000) :
  R_ 222 #[v] w (.bool r):=by
 have HV:=hid hv;obtain ⟨a1,c1,a2,c2,rfl,HI,HS⟩:=hv.form;have l1:=HI.le;have l2:=HI.cap;clear hv HS;rw [<-Cod.runB_push hL] at hr;have HR:=hid hr;clear hr;go_enter func222,ntmps222;go_wp2;obtain ⟨h0,X0⟩:=h2_ (iT.made w (.slice a1 c.xs.length c1) (.slice a2 c.ls.length c2) 163) (show Ext w (w.alloc (.cells #[.slice a1 c.xs.length c1,.slice a2 c.ls.length c2] 163)) from X_)
 go_loopw [10] (fun i wr=>∃(k:Nat),k<=c.xs.length/\i = .int .i64 k/\(c.xs.take k).all uZ=true/\Ext w wr/\iT wr w.heap.size (.slice a1 c.xs.length c1) (.slice a2 c.ls.length c2)) (fun i _=>c.xs.length - (intOf i).toNat)
 case atStart=>exact ⟨0,by omega,rfl,rfl,X0,h0.out⟩
 case round=>
  clear X0 h0;obtain ⟨k,hk,rfl,h2,hx,h0⟩:=hrel
  by_cases h5:k<c.xs.length
  ·obtain ⟨b,q6,op,s,n,rfl,q3,q4,h3,h4,io,q5,x0,x1,x2⟩:=HI.at h5 hx hh
   have h7:c.xs[k]=⟨op,s,n⟩:=by have:=h4;rw [List.getElem?_eq_getElem h5] at this;exact aUy this
   obtain ⟨HX,HQ,HA,HK⟩:=h4_ hx (h0.ext ((aTd _).alloc (.cells #[op,.string s,n] 221))) h2 h7;clear hx h0 h3 h4 h2 h7
   by_cases h1:op=1
   ·subst h1
    cases hn:inB n (-1000000000) 1000000000
    ·have h6:=hid hn
     go_wp2_with fail;refine z_ (aH h6.out _) ?_;go_wp2;go_ret;have e:c.xs.all uZ=false:=wQ h5 (by rw [HK];simp [uZ,iP,h6.out]);have hr:=HR.out;rw [e] at hr;refine ⟨aM hr,?_⟩;have hx:=HX.out;exact S_
    ·have h6:=hid hn
     go_wp2_with fail;refine z_ (aH h6.out _) ?_;go_wp2;go_roundw
     case rel=>
      refine ⟨k+1,by omega,by go_num,jX h5 HA.out (by rw [HK];simp [uZ,iP,h6.out]),?_,HQ⟩;have hx:=HX.out;exact S_
     case measure=>simp [intOf];omega
   ·have h9:(op==1)=false:=beq_eq_false_iff_ne.2 h1
    have H1:=hid h9;go_wp2;go_roundw
    case rel=>
     refine ⟨k+1,by omega,by go_num,jX h5 HA.out (by rw [HK];simp [uZ,H1.out]),?_,HQ⟩;have hx:=HX.out;exact S_
    case measure=>simp [intOf];omega
  ·obtain rfl:k=c.xs.length:=by omega
   rw [aT0] at h2;have hr:=HR.out;rw [h2,aX5] at hr;have h8:=hid hr;clear hr h2;have q0:=h0.lt;have q1:=h0.c0;have q2:=h0.c1;clear h0;go_wp2_with fail;refine r_ (aHc ⟨rfl,h8⟩ lo hi _ _ (HV.ext hh (by assumption)) (by have:=hx.size;omega) hL) fun w1 x1=>?_;go_wp2;go_ret;exact ⟨rfl,hx.trans x1⟩
def fJ (f z:Nat->Value) (c i:Nat):Value:=if i<c then f i else z i
theorem fZ {b:Nat} {f z:Nat->Value} {c:Nat} (h:w.rowIs b t n (fJ f z c)) {x:Value} (hi:i=c) (hx:x=f c):(w.setCell ⟨b,i,none⟩ x).rowIs b t n (fJ f z (c+1)):=by
 subst hi hx;refine aVi (bAh h i (f i)) fun j _=>?_;unfold fJ
 by_cases e:j=i
 ·subst e;simp
 ·rw [if_neg e]
  by_cases h1:j<i
  ·rw [if_pos h1,if_pos (by omega)]
  ·rw [if_neg h1,if_neg (by omega)]
theorem mA {size:Nat} {z:Array Value} {f:Nat->Value} (hz:∀i,i<n*size->(madeCells z (n*size))[i]?=some (f i))
  (h:w.ownsRow lo e size (.slice (some ⟨g,0,none⟩) n n) n (madeCells z (n*size)).toList):w.rowIs g e (n*size) f:=by
 rcases h.2 with ⟨h1,h4⟩|⟨g',cap,cur,h1,hb,hg,hc,hm,hs,ht⟩
 ·simp at h1
 ·simp only [aTp,true_and,aS5,aUb,and_true] at h1
  obtain ⟨rfl,rfl⟩:=h1;refine ⟨cur,hg,hs,fun i hi=>?_⟩;have h2:=hz i hi
  have h3:cur.toList=(madeCells z (n*size)).toList:=by
   rw [<-ht,List.take_of_length_le];simp [hs]
  rw [<-aV7,h3,aV7];exact h2
def Cod.small (c:Cod):Prop:=c.xs.length<=1048576/\c.ls.length<=1048576
structure Nd where
 op:Int
 name:ByteArray
 num:Int
 args:List Int
structure Asg where
 name:ByteArray
 root:Int
structure Prg where
 ns:List Nd
 gs:List Asg
def Nds (lo hi:Nat) (w:World) (v:Value) (xs:List Nd):Prop:=
 ∃a cap,v = .slice a xs.length cap/\xs.length<=cap/\cap<=maxLen/\∀i x,xs[i]?=some x->(I64 x.op/\I64 x.num)/\∃b off u,a=some ⟨b,off,none⟩/\lo<=b/\b<hi/\w.cell? ⟨b,off+i*4,none⟩=some (.int .i64 x.op)/\w.cell? ⟨b,off+i*4+1,none⟩=some (.string x.name)/\w.cell? ⟨b,off+i*4+2,none⟩=some (.int .i64 x.num)/\w.cell? ⟨b,off+i*4+3,none⟩=some u/\aS lo hi w u x.args
theorem Nds.same {xs:List Nd} (h:Nds lo hi w v xs) (s:aN lo hi w w'):Nds lo hi w' v xs:=by
 obtain ⟨a,cap,h1,h2,h3,h4⟩:=h;refine ⟨a,cap,h1,h2,h3,fun i x hx=>?_⟩;obtain ⟨h5,b,q3,u,h6,h7,h8,h9,h0,q0,q1,q2⟩:=h4 i x hx;exact ⟨h5,b,q3,u,h6,h7,h8,by rw [s.cell h7 h8];exact h9,by rw [s.cell h7 h8];exact h0,by rw [s.cell h7 h8];exact q0,by rw [s.cell h7 h8];exact q1,q2.same s⟩
structure sK (lo hi:Nat) (w:World) (a:Option Addr) (cap:Nat) (xs:List Nd):Prop where
 le:xs.length<=cap
 cap:cap<=9223372036854775807
 cell:∀i x,xs[i]?=some x->(I64 x.op/\I64 x.num)/\∃b off u,a=some ⟨b,off,none⟩/\lo<=b/\b<hi/\w.cell? ⟨b,off+i*4,none⟩=some (.int .i64 x.op)/\w.cell? ⟨b,off+i*4+1,none⟩=some (.string x.name)/\w.cell? ⟨b,off+i*4+2,none⟩=some (.int .i64 x.num)/\w.cell? ⟨b,off+i*4+3,none⟩=some u/\aS lo hi w u x.args
theorem Nds.open {xs:List Nd} (h:Nds lo hi w v xs):∃a cap,v = .slice a xs.length cap/\sK lo hi w a cap xs:=by
 obtain ⟨a,cap,g1,g2,g3,g4⟩:=h;exact ⟨a,cap,g1,g2,by unfold maxLen at g3;omega,g4⟩
theorem sK.at {a:Option Addr} {xs:List Nd} (h:sK lo hi w a cap xs) (hk:k<xs.length) (hx:Ext w wr) (hh:hi<=w.heap.size) :
  ∃b off op s n u r,a=some ⟨b,off,none⟩/\b<w.heap.size/\b<wr.heap.size/\xs.drop k=⟨op,s,n,r⟩::xs.drop (k+1)/\xs[k]?=some ⟨op,s,n,r⟩/\I64 op/\I64 n/\aS lo hi wr u r/\wr.cell? ⟨b,off+k*4,none⟩=some (.int .i64 op)/\wr.cell? ⟨b,off+k*4+1,none⟩=some (.string s)/\wr.cell? ⟨b,off+k*4+2,none⟩=some (.int .i64 n)/\wr.cell? ⟨b,off+k*4+3,none⟩=some u:=by
 obtain ⟨⟨i1,i2⟩,b,off,u,e,h1,h2,c0,c1,c2,c3,hu⟩:=h.cell k xs[k] (by simp [hk]);have hz:=hx.size;refine ⟨b,off,xs[k].op,xs[k].name,xs[k].num,u,xs[k].args,e,by omega,by omega,aVs hk,by simp [hk],i1,i2,hu.ext hh hx,?_,?_,?_,?_⟩
 ·exact (hx.cells.1 b _ (by omega)).trans c0
 ·exact (hx.cells.1 b _ (by omega)).trans c1
 ·exact (hx.cells.1 b _ (by omega)).trans c2
 ·exact (hx.cells.1 b _ (by omega)).trans c3
def oG (lo hi:Nat) (w:World) (v:Value) (xs:List Asg):Prop:=
 ∃a cap,v = .slice a xs.length cap/\xs.length<=cap/\cap<=maxLen/\∀i x,xs[i]?=some x->I64 x.root/\∃b off,a=some ⟨b,off,none⟩/\lo<=b/\b<hi/\w.cell? ⟨b,off+i*2,none⟩=some (.string x.name)/\w.cell? ⟨b,off+i*2+1,none⟩=some (.int .i64 x.root)
theorem oG.same {xs:List Asg} (h:oG lo hi w v xs) (s:aN lo hi w w'):oG lo hi w' v xs:=by
 obtain ⟨a,cap,h1,h2,h3,h4⟩:=h;refine ⟨a,cap,h1,h2,h3,fun i x hx=>?_⟩;obtain ⟨h5,b,q0,h6,h7,h8,h9,h0⟩:=h4 i x hx;exact ⟨h5,b,q0,h6,h7,h8,by rw [s.cell h7 h8];exact h9,by rw [s.cell h7 h8];exact h0⟩
structure aDb (lo hi:Nat) (w:World) (a:Option Addr) (cap:Nat) (xs:List Asg):Prop where
 le:xs.length<=cap
 cap:cap<=9223372036854775807
 cell:∀i x,xs[i]?=some x->I64 x.root/\∃b off,a=some ⟨b,off,none⟩/\lo<=b/\b<hi/\w.cell? ⟨b,off+i*2,none⟩=some (.string x.name)/\w.cell? ⟨b,off+i*2+1,none⟩=some (.int .i64 x.root)
theorem oG.open {xs:List Asg} (h:oG lo hi w v xs):∃a cap,v = .slice a xs.length cap/\aDb lo hi w a cap xs:=by
 obtain ⟨a,cap,g1,g2,g3,g4⟩:=h;exact ⟨a,cap,g1,g2,by unfold maxLen at g3;omega,g4⟩
theorem aDb.at {a:Option Addr} {xs:List Asg} (h:aDb lo hi w a cap xs) (hk:k<xs.length) (hx:Ext w wr) (hh:hi<=w.heap.size) :
  ∃b off s r,a=some ⟨b,off,none⟩/\b<w.heap.size/\b<wr.heap.size/\xs.drop k=⟨s,r⟩::xs.drop (k+1)/\xs[k]?=some ⟨s,r⟩/\I64 r/\wr.cell? ⟨b,off+k*2,none⟩=some (.string s)/\wr.cell? ⟨b,off+k*2+1,none⟩=some (.int .i64 r):=by
 obtain ⟨i1,b,off,e,h1,h2,c0,c1⟩:=h.cell k xs[k] (by simp [hk]);have hz:=hx.size;refine ⟨b,off,xs[k].name,xs[k].root,e,by omega,by omega,aVs hk,by simp [hk],i1,?_,?_⟩
 ·exact (hx.cells.1 b _ (by omega)).trans c0
 ·exact (hx.cells.1 b _ (by omega)).trans c1
def Prg.R (p:Prg) (lo hi:Nat) (w:World) (v:Value):Prop:=∃nu au,v = .agg #[nu,au]/\Nds lo hi w nu p.ns/\oG lo hi w au p.gs
theorem Prg.R.same {p:Prg} (h:p.R lo hi w v) (s:aN lo hi w w'):p.R lo hi w' v:=by
 obtain ⟨nu,au,h1,h2,h3⟩:=h;exact ⟨nu,au,h1,h2.same s,h3.same s⟩
theorem Prg.R.ext {p:Prg} (h:p.R lo hi w v) (hh:hi<=w.heap.size) (e:Ext w w'):p.R lo hi w' v:=h.same (e.same hh)
theorem Nds.ext {xs:List Nd} (h:Nds lo hi w v xs) (hh:hi<=w.heap.size) (e:Ext w w'):Nds lo hi w' v xs:=h.same (e.same hh)
theorem oG.ext {xs:List Asg} (h:oG lo hi w v xs) (hh:hi<=w.heap.size) (e:Ext w w'):oG lo hi w' v xs:=h.same (e.same hh)
theorem Prg.R.form {p:Prg} (h:p.R lo hi w v):∃a1 c1 a2 c2,v = .agg #[.slice a1 p.ns.length c1,.slice a2 p.gs.length c2]/\sK lo hi w a1 c1 p.ns/\aDb lo hi w a2 c2 p.gs:=by
 obtain ⟨iu,lu,rfl,h2,h3⟩:=h;obtain ⟨a1,c1,rfl,H1⟩:=h2.open;obtain ⟨a2,c2,rfl,H2⟩:=h3.open;exact ⟨a1,c1,a2,c2,rfl,H1,H2⟩
def Prg.bd (p:Prg):Prop:=(∀x∈p.ns,x.name.size<=maxLen)/\∀x∈p.gs,x.name.size<=maxLen
def Prg.small (p:Prg):Prop:=(p.ns.length<=1048576/\∀x∈p.ns,x.args.length<=1048576)/\p.gs.length<=1048576
theorem aKe (lo hi:Nat) (u:Value) (xs:List Int) (left:Int) (w:World) (hu:aS lo hi w u xs) (h1:0<=left) (h2:left<=1048576) :
  Calls aS7 75 #[u,left] w fun e w'=>(∃r,e = .returned (.int .i64 r)/\(r = -1\/(0<=r/\r<=left/\xs.length<=1048576)))/\w=w':=by
 obtain ⟨a,cap,rfl,HU⟩:=hu.open;have h3:=HU.le;have h4:=HU.cap;clear hu HU;go_enter func75,ntmps75;go_wp2
 all_goals go_ret
 ·exact ⟨⟨_,rfl,.inl rfl⟩,rfl⟩
 ·exact ⟨⟨_,rfl,.inr ⟨by omega,by omega,by omega⟩⟩,rfl⟩
theorem aHd (lo hi:Nat) (op:Int) (s:ByteArray) (n:Int) (u:Value) (r:List Int) (left:Int) (w:World) (hu:aS lo hi w u r) (hh:hi<=w.heap.size) (hs:s.size<=maxLen) (h1:0<=left) (h2:left<=1048576) :
  Calls aS7 178 #[.agg #[op,.string s,n,u],left] w fun e w'=>(∃q,e = .returned (.int .i64 q)/\(q = -1\/(0<=q/\q<=left/\r.length<=1048576)))/\Ext w w':=by
 unfold maxLen at hs;have HU:=hid hu;have x0:Ext w (w.alloc (.cells #[op,.string s,n,u] 237)):=X_;clear hu
 by_cases hl:left - (s.size:Int)<0
 ·go_enter func178,ntmps178
  go_wp2;go_ret;exact ⟨⟨_,rfl,.inl rfl⟩,S_⟩
 ·go_enter func178,ntmps178
  go_wp2_with fail;refine (aKe lo hi u r _ _ (HU.ext hh x0) (by omega) (by omega)).mono ?_;rintro e w1 ⟨⟨q,rfl,hq⟩,rfl⟩
  rcases hq with rfl|⟨q1,q2,q3⟩
  ·go_wp2
   go_ret;exact ⟨⟨_,rfl,.inl rfl⟩,x0⟩
  ·have hn : ¬q<0:=by omega
   go_wp2;go_ret;exact ⟨⟨_,rfl,.inr ⟨q1,by omega,q3⟩⟩,x0⟩
theorem aE3 (lo hi:Nat) (u:Value) (xs:List Nd) (left:Int) (w:World) (hu:Nds lo hi w u xs) (hh:hi<=w.heap.size) (hs:∀x∈xs,x.name.size<=maxLen) (h1:0<=left) (h2:left<=1048576) :
  Calls aS7 124 #[u,left] w fun e w'=>(∃r,e = .returned (.int .i64 r)/\(r = -1\/(0<=r/\r<=left/\xs.length<=1048576/\∀x∈xs,x.args.length<=1048576)))/\Ext w w':=by
 obtain ⟨a,cap,rfl,HU⟩:=hu.open;have h3:=HU.le;have h4:=HU.cap;have HS:=hid hs;clear hu hs
 by_cases hl:left - (xs.length:Int)<0
 ·go_enter func124,ntmps124
  go_wp2;go_ret;exact ⟨⟨_,rfl,.inl rfl⟩,S_⟩
 ·go_enter func124,ntmps124
  go_wp2
  go_loopw [1,5] (fun q i wr=>∃(k:Nat) (r:Int),k<=xs.length/\i = .int .i64 k/\q = .int .i64 r/\0<=r/\r<=left/\(∀j x,j<k->xs[j]?=some x->x.args.length<=1048576)/\Ext w wr) (fun _ i _=>xs.length - (intOf i).toNat)
  case atStart=>exact ⟨0,_,by omega,rfl,rfl,by omega,by omega,fun j x hj=>by omega,S_⟩
  case round=>
   obtain ⟨k,r,hk,rfl,rfl,h8,q0,h0,hx⟩:=hrel
   by_cases h9:k<xs.length
   ·obtain ⟨b,q4,op,s,n,ua,ra,rfl,q1,q2,h6,h5,io,q3,h7,x0,x1,x2,x3⟩:=HU.at h9 hx hh
    obtain ⟨hz,HX,HI,HA,HG⟩:=h5_ (HS _ (aTq h5)) hx h7 h0 h5;have zx:=hx.size;clear h6 h5 hx h7 h0;go_wp2_with fail;refine (aHd lo hi op s n ua ra r _ HI (by omega) hz.out h8 (by omega)).mono ?_;rintro e w1 ⟨⟨r2,rfl,hr3⟩,x3⟩;have X3:=HX.trans x3
    rcases hr3 with rfl|⟨hr3,hr4,hr5⟩
    ·go_wp2
     go_ret;exact ⟨⟨_,rfl,.inl rfl⟩,X3⟩
    ·have hn : ¬r2<0:=by omega
     go_wp2;go_roundw
     case rel=>
      refine ⟨k+1,r2,by omega,by go_num,rfl,by omega,by omega,fun j x hj hx=>?_,X3⟩
      by_cases e:j=k
      ·subst e
       rw [HG] at hx;injection hx with hx;subst hx;exact hr5
      ·exact HA j x (by omega) hx
     case measure=>simp [intOf];omega
   ·have HA:=hid h0
    clear h0;go_wp2;go_ret;refine ⟨⟨_,rfl,.inr ⟨h8,q0,by omega,fun x hx=>?_⟩⟩,hx⟩;obtain ⟨j,hj,rfl⟩:=aT6 hx;exact HA j _ (by omega) (by simp [hj])
theorem uD (s:ByteArray) (n left:Int) (w:World) (hs:s.size<=maxLen) (h1:0<=left) (h2:left<=1048576):Calls aS7 179 #[.agg #[.string s,n],left] w fun e w'=>(∃r,e = .returned (.int .i64 r)/\(r = -1\/(0<=r/\r<=left)))/\Ext w w':=by
 unfold maxLen at hs;go_enter func179,ntmps179;go_wp2
 all_goals go_ret
 ·exact ⟨⟨_,rfl,.inl rfl⟩,S_⟩
 ·exact ⟨⟨_,rfl,.inr ⟨by omega,by omega⟩⟩,S_⟩
theorem sL (lo hi:Nat) (u:Value) (xs:List Asg) (left:Int) (w:World) (hu:oG lo hi w u xs) (hh:hi<=w.heap.size) (hs:∀x∈xs,x.name.size<=maxLen) (h1:0<=left) (h2:left<=1048576) :
  Calls aS7 125 #[u,left] w fun e w'=>(∃r,e = .returned (.int .i64 r)/\(r = -1\/(0<=r/\r<=left/\xs.length<=1048576)))/\Ext w w':=by
 obtain ⟨a,cap,rfl,HU⟩:=hu.open;have h3:=HU.le;have h4:=HU.cap;have HS:=hid hs;clear hu hs
 by_cases hl:left - (xs.length:Int)<0
 ·go_enter func125,ntmps125
  go_wp2;go_ret;exact ⟨⟨_,rfl,.inl rfl⟩,S_⟩
 ·go_enter func125,ntmps125
  go_wp2
  go_loopw [1,5] (fun q i wr=>∃(k:Nat) (r:Int),k<=xs.length/\i = .int .i64 k/\q = .int .i64 r/\0<=r/\r<=left/\Ext w wr) (fun _ i _=>xs.length - (intOf i).toNat)
  case atStart=>exact ⟨0,_,by omega,rfl,rfl,by omega,by omega,S_⟩
  case round=>
   obtain ⟨k,r,hk,rfl,rfl,h6,h8,hx⟩:=hrel
   by_cases h7:k<xs.length
   ·obtain ⟨b,q1,s,n,rfl,h9,q0,h0,h5,io,x0,x1⟩:=HU.at h7 hx hh
    obtain ⟨hz,HX⟩:=h2_ (HS _ (aTq h5)) hx;clear h0 h5 hx;go_wp2_with fail;refine (uD s n r _ hz.out h6 (by omega)).mono ?_;rintro e w1 ⟨⟨r2,rfl,hr3⟩,x3⟩;have X3:=HX.trans x3
    rcases hr3 with rfl|⟨hr3,hr4⟩
    ·go_wp2
     go_ret;exact ⟨⟨_,rfl,.inl rfl⟩,X3⟩
    ·have hn : ¬r2<0:=by omega
     go_wp2;go_roundw
     case rel=>exact ⟨k+1,r2,by omega,by go_num,rfl,by omega,by omega,X3⟩
     case measure=>simp [intOf];omega
   ·go_wp2
    go_ret;exact ⟨⟨_,rfl,.inr ⟨h6,h8,by omega⟩⟩,hx⟩
theorem aA4 (lo hi:Nat) (v:Value) (p:Prg) (left:Int) (w:World) (hv:p.R lo hi w v) (hh:hi<=w.heap.size) (hb:p.bd) (h1:0<=left) (h2:left<=1048576) :
  Calls aS7 76 #[v,left] w fun e w'=>(∃r,e = .returned (.int .i64 r)/\(r = -1\/(0<=r/\r<=left/\p.small)))/\Ext w w':=by
 obtain ⟨iu,lu,rfl,h3,h4⟩:=hv;obtain ⟨HI,HL,HB⟩:=h3_ h3 h4 hb;clear h3 h4 hb;have x0:Ext w (w.alloc (.cells #[iu,lu] 113)):=X_;have bA:=Bx.made w #[iu,lu] 113;go_enter func76,ntmps76;go_wp2_with fail;refine (aE3 lo hi _ p.ns left _ (HI.ext hh x0) (aTb hh x0.size) HB.1 h1 h2).mono ?_;rintro e w1 ⟨⟨r,rfl,hr⟩,x1⟩;have X1:=x0.trans x1
 rcases hr with rfl|⟨r1,r2,r3,r4⟩
 ·go_wp2
  go_ret;exact ⟨⟨_,rfl,.inl rfl⟩,X1⟩
 ·have h0:=bA.ext x1
  have hn : ¬r<0:=by omega
  have R4:=hid r4;clear bA x0 x1 r4;have y:=h0.lt;obtain ⟨y0,y1⟩:=h0.q2;go_wp2_with fail;refine (sL lo hi _ p.gs r _ (HL.ext hh X1) (aTb hh X1.size) HB.2 r1 (by omega)).mono ?_;rintro e w2 ⟨⟨q,rfl,hq⟩,x2⟩
  rcases hq with rfl|⟨q1,q2,q3⟩
  ·go_wp2
   go_ret;exact ⟨⟨_,rfl,.inl rfl⟩,X1.trans x2⟩
  ·have h5 : ¬q<0:=by omega
   go_wp2;go_ret;exact ⟨⟨_,rfl,.inr ⟨q1,by omega,⟨r3,R4⟩,q3⟩⟩,X1.trans x2⟩
def aQh (n:Nat):Bool:=decide (97<=n)&&decide (n<=122)
def aQi (n:Nat):Bool:=decide (48<=n)&&decide (n<=57)
def eY (s:ByteArray) (k:Nat):Bool:=if h:k<s.size then aQh s[k].toNat||(decide (k≠0)&&aQi s[k].toNat) else true
def dV (s:ByteArray):Bool:=decide (1<=s.size)&&decide (s.size<=8)&&(aTt s.size).all (eY s)
theorem uE {s:ByteArray} (hk:k<s.size) (h:eY s k=false):dV s=false:=by
 unfold dV;rw [bBu]
 right
 rw [aWk];exact ⟨k,aUe.2 hk,by simp [h]⟩
theorem xG {s:ByteArray} (h:∀k,k<s.size->eY s k=true):dV s=(decide (1<=s.size)&&decide (s.size<=8)):=by
 unfold dV;have:(aTt s.size).all (eY s)=true:=aUh.2 fun k hk=>h k (aUe.1 hk);rw [this,bA4]
theorem vA {s:ByteArray} (hk:k<s.size) (h:97<=s[k].toNat/\s[k].toNat<=122):eY s k=true:=by
 unfold eY aQh;rw [dif_pos hk,decide_eq_true h.1,decide_eq_true h.2]
 rfl
theorem vB {s:ByteArray} (hk:k<s.size) (h0:k≠0) (h:48<=s[k].toNat/\s[k].toNat<=57):eY s k=true:=by
 unfold eY aQi;rw [dif_pos hk,decide_eq_true h.1,decide_eq_true h.2,decide_eq_true h0];simp
theorem rN {s:ByteArray} (hk:k<s.size) (h1 : ¬(97<=s[k].toNat/\s[k].toNat<=122)) (h2 : ¬(k≠0/\48<=s[k].toNat/\s[k].toNat<=57)):eY s k=false:=by
 unfold eY aQh aQi;rw [dif_pos hk];simp only [Bool.or_eq_false_iff,bBu,decide_eq_false_iff_not];omega
theorem sM (s:ByteArray) (w:World) (hs:s.size<=maxLen):Z_ 187 #[.string s] w (.bool (dV s)):=by
 unfold maxLen at hs;go_enter func187,ntmps187;go_wp2
 go_loopw [3] (fun i wr=>∃k:Nat,k<=s.size/\i = .int .i64 k/\wr=w/\∀j,j<k->eY s j=true) (fun i _=>s.size - (intOf i).toNat)
 case atStart=>exact ⟨0,by omega,rfl,rfl,fun j h=>by omega⟩
 case round=>
  obtain ⟨k,hk,rfl,rfl,h4⟩:=hrel
  by_cases h5:k<s.size
  ·have h3:eY s k=true->∀j,j<k+1->eY s j=true:=fun h j hj=>by
    by_cases e:j=k
    ·subst e;exact h
    ·exact h4 j (by omega)
   by_cases h1:97<=s[k].toNat/\s[k].toNat<=122
   ·have HN:=hid (h3 (vA h5 h1))
    clear h4 h3;go_wp2;go_roundw
    case rel=>exact ⟨k+1,by omega,by go_num,by trivial,HN⟩
    case measure=>simp [intOf];omega
   ·by_cases h2:k≠0/\48<=s[k].toNat/\s[k].toNat<=57
    ·have HN:=hid (h3 (vB h5 h2.1 h2.2))
     have ek:((k:Int)==0)=false:=beq_eq_false_iff_ne.2 (by omega);clear h4 h3;go_wp2
     all_goals first|(exfalso;omega)|skip
     all_goals (go_roundw <;> first|exact ⟨k+1,by omega,by go_num,by trivial,HN⟩|(simp [intOf];omega))
    ·have HN:=hid (uE h5 (rN h5 h1 h2))
     clear h4 h3
     by_cases h0:k=0
     ·have ek:((k:Int)==0)=true:=by subst h0;rfl
      go_wp2
      all_goals first|(exfalso;omega)|(go_ret;exact ⟨by rw [HN];rfl,rfl⟩)|(exfalso;simp_all <;> omega)|trace_state
     ·have ek:((k:Int)==0)=false:=beq_eq_false_iff_ne.2 (by omega)
      go_wp2
      all_goals first|(exfalso;omega)|(go_ret;exact ⟨by rw [HN];rfl,rfl⟩)|(exfalso;simp_all <;> omega)|trace_state
  ·obtain rfl:k=s.size:=by omega
   have HN:=hid (xG h4);clear h4
   obtain ⟨bi,h6⟩:=e_ (inB (s.size:Int) 1 8)
   have h7:dV s=bi:=by
    rw [HN,<-h6];unfold inB;rw [aYy];simp only [aTi,decide_eq_true_eq];omega
   have HB:=hid h7;go_wp2_with fail;refine z_ (aE h6 _) ?_;go_wp2;go_ret;exact ⟨by rw [HB];rfl,rfl⟩
theorem sN (s:ByteArray) (w:World) (hs:s.size<=maxLen):R_ 238 #[.string s] w (.bool (dV s)):=by
 unfold maxLen at hs;have q2:(w.iter s 0).heap[w.heap.size]?=some (.stringIter s 0):=World.iter_heap w s 0;have q1:Ext w (w.iter s 0):=(aTd w).alloc _;go_enter func238,ntmps238;go_wp2
 go_loopw [9] (fun _ wr=>∃pos:Nat,pos<=s.size/\wr.heap[w.heap.size]?=some (.stringIter s pos)/\(∀j,j<pos->eY s j=true)/\Ext w wr) (fun _ wr=>s.size - wr.iterPos w.heap.size)
 case atStart=>exact ⟨0,aUl _,q2,fun j h=>by omega,q1⟩
 case round=>
  obtain ⟨pos,q5,hk,h6,h7⟩:=hrel;clear q2 q1
  by_cases hp:pos<s.size
  ·have h5:eY s pos=true->∀j,j<pos+1->eY s j=true:=fun h j hj=>by
    by_cases e:j=pos
    ·subst e;exact h
    ·exact h6 j (by omega)
   have q3:wr.iterPos w.heap.size=pos:=by simp [World.iterPos,hk]
   by_cases ha:(s[pos]'hp).toNat<128
   ·have h3:∀ty,(bDj (.pointer (some ⟨w.heap.size,0,none⟩)) true ty).run aS7 wr=_:=fun ty=>Lib.run_next_ascii_at wr w.heap.size s pos ty hk hp ha
    have q0:=Lib.iterAt_heap wr w.heap.size s pos (pos+1) hk;have h4:Ext w (wr.iterAt w.heap.size s (pos+1)):=Lib.below_iterAt h7 (by omega) s (pos+1);generalize wr.iterAt w.heap.size s (pos+1)=W1 at h3 q0 h4
    have h9:W1.iterPos w.heap.size=pos+1:=by simp [World.iterPos,q0]
    obtain ⟨HX,HK⟩:=h2_ h4 q0;clear h7 hk h4 q0
    by_cases h1:97<=s[pos].toNat/\s[pos].toNat<=122
    ·have HN:=hid (h5 (vA hp h1))
     clear h6 h5;go_wp2
     all_goals first|(exfalso;omega)|skip
     all_goals (go_roundw <;> first|exact ⟨pos+1,by omega,HK,HN,HX⟩|(rw [q3,h9];omega))
    ·by_cases h2:pos≠0/\48<=s[pos].toNat/\s[pos].toNat<=57
     ·have HN:=hid (h5 (vB hp h2.1 h2.2))
      have ek:((pos:Int)==0)=false:=beq_eq_false_iff_ne.2 (by omega);clear h6 h5;go_wp2
      all_goals first|(exfalso;omega)|skip
      all_goals (go_roundw <;> first|exact ⟨pos+1,by omega,HK,HN,HX⟩|(rw [q3,h9];omega))
     ·have HN:=hid (uE hp (rN hp h1 h2))
      clear h6 h5
      by_cases h0:pos=0
      ·have ek:((pos:Int)==0)=true:=by subst h0;rfl
       go_wp2
       all_goals first|(exfalso;omega)|(go_ret;exact ⟨by rw [HN];rfl,HX⟩)|(exfalso;simp_all <;> omega)
      ·have ek:((pos:Int)==0)=false:=beq_eq_false_iff_ne.2 (by omega)
       go_wp2
       all_goals first|(exfalso;omega)|(go_ret;exact ⟨by rw [HN];rfl,HX⟩)|(exfalso;simp_all <;> omega)
   ·have h3:∀ty,(bDj (.pointer (some ⟨w.heap.size,0,none⟩)) true ty).run aS7 wr=_:=fun ty=>Lib.run_next_any_at wr w.heap.size s pos ty hk hp
    have h4:Ext w (wr.iterAt w.heap.size s (pos+(Utf8.decode s pos).2)):=Lib.below_iterAt h7 (by omega) s _;have q4:=(decode_high s pos hp (by omega)).1;generalize wr.iterAt w.heap.size s (pos+(Utf8.decode s pos).2)=W1 at h3 h4;generalize (Utf8.decode s pos).1=rn at h3 q4;obtain ⟨HX,HN⟩:=h2_ h4 (uE hp (rN hp (by omega) (by omega)));clear h7 hk h4 h6 h5
    by_cases h0:pos=0
    ·have ek:((pos:Int)==0)=true:=by subst h0;rfl
     go_wp2
     all_goals first|(exfalso;omega)|(go_ret;exact ⟨by rw [HN];rfl,HX⟩)|(exfalso;simp_all <;> omega)
    ·have ek:((pos:Int)==0)=false:=beq_eq_false_iff_ne.2 (by omega)
     go_wp2
     all_goals first|(exfalso;omega)|(go_ret;exact ⟨by rw [HN];rfl,HX⟩)|(exfalso;simp_all <;> omega)
  ·obtain rfl:pos=s.size:=by omega
   have h3:∀ty,(bDj (.pointer (some ⟨w.heap.size,0,none⟩)) true ty).run aS7 wr=_:=fun ty=>Lib.run_next_end_at wr w.heap.size s s.size ty hk hp;obtain ⟨HN,HX⟩:=h2_ (xG h6) h7;clear h6 h7 hk
   by_cases h1:1<=s.size
   ·by_cases h8:s.size<=8
    ·have HB:=hid (show dV s=true by rw [HN,decide_eq_true h1,decide_eq_true h8];rfl)
     go_wp2
     all_goals first|(exfalso;omega)|(go_ret;exact ⟨by rw [HB];rfl,HX⟩)|(go_ret;exact ⟨by rw [HB];simp <;> omega,HX⟩)|(exfalso;simp_all <;> omega)
    ·have HB:=hid (show dV s=false by rw [HN,decide_eq_false h8];simp)
     go_wp2
     all_goals first|(exfalso;omega)|(go_ret;exact ⟨by rw [HB];rfl,HX⟩)|(go_ret;exact ⟨by rw [HB];simp <;> omega,HX⟩)|(exfalso;simp_all <;> omega)
   ·have HB:=hid (show dV s=false by rw [HN,decide_eq_false h1];simp)
    go_wp2
    all_goals first|(exfalso;omega)|(go_ret;exact ⟨by rw [HB];rfl,HX⟩)|(go_ret;exact ⟨by rw [HB];simp <;> omega,HX⟩)|(exfalso;simp_all <;> omega)
def aD {α : Type} (cs : α->List Value) (lo:Nat) (e:TypeId) (sz:Nat) (w:World) (v:Value) (xs:List α):Prop:=w.ownsRow lo e sz v xs.length (xs.flatMap cs)
theorem nO {α : Type} {cs : α->List Value} (hc:∀x,(cs x).length=sz):∀{xs:List α} {i:Nat} {x : α},xs[i]?=some x->∀j,j<sz->(xs.flatMap cs)[i*sz+j]?=(cs x)[j]?
 | [],_,_,h,_,_=>by simp at h
 | y::r,0,x,h,j,hj=>by
  simp at h;subst h;rw [aU8,Nat.zero_mul,aT1,List.getElem?_append_left (by rw [hc];exact hj)]
 | y::r,i+1,x,h,j,hj=>by
  rw [aU8,aYn,List.getElem?_append_right (by rw [hc];omega),hc,show i*sz+sz+j - sz=i*sz+j by omega];exact nO hc (by simpa using h) j hj
theorem hG {α : Type} {cs : α->List Value} (hc:∀x,(cs x).length=sz):∀xs:List α,(xs.flatMap cs).length=xs.length*sz
 | []=>by simp
 | y::r=>by rw [aU8,aTw,hc,hG hc r,aUj,aYn];omega
theorem aD.nil {α : Type} (cs : α->List Value) (lo:Nat) (e:TypeId) (sz:Nat) (w:World):aD cs lo e sz w (.slice none 0 0) []:=World.ownsRow_nil _ _ _ _
theorem aD.lt {α : Type} {cs : α->List Value} {xs:List α} (h:aD cs lo e sz w v xs):∀k,v.ownBlock=some k->lo<=k/\k<w.heap.size:=World.ownsRow.lt h
theorem aD.form {α : Type} {cs : α->List Value} {xs:List α} (h:aD cs lo e sz w v xs):∃a cap,v = .slice a xs.length cap/\xs.length<=9223372036854775807:=by
 rcases h.2 with ⟨rfl,h4⟩|⟨g,cap,cur,rfl,hb,hg,hc,hm,hs,ht⟩
 ·exact ⟨none,0,by rw [h4],by omega⟩
 ·exact ⟨some ⟨g,0,none⟩,cap,rfl,by unfold maxLen at hm;omega⟩
theorem aD.of {α : Type} {cs : α->List Value} {xs:List α} (h:aD cs lo e sz w v xs) (s:∀b c,lo<=b->w.heap[b]?=some (.cells c e (0,0))->w'.heap[b]?=some (.cells c e (0,0))):aD cs lo e sz w' v xs:=by
 refine ⟨h.1,?_⟩
 rcases h.2 with hn|⟨g,cap,cur,hv,hb,hg,r⟩
 ·exact .inl hn
 ·exact .inr ⟨g,cap,cur,hv,hb,s g cur hb hg,r⟩
theorem aD.ext {α : Type} {cs : α->List Value} {xs:List α} (h:aD cs lo e sz w v xs) (x:Ext w w'):aD cs lo e sz w' v xs:=
 h.of fun b c _ hb=>(x.block (aTn.1 hb).1).trans hb
theorem aD.low {α : Type} {cs : α->List Value} {xs:List α} (h:aD cs lo e sz w v xs) (hl:lo'<=lo):aD cs lo' e sz w v xs:=by
 refine ⟨h.1,?_⟩
 rcases h.2 with hn|⟨g,cap,cur,hv,hb,r⟩
 ·exact .inl hn
 ·exact .inr ⟨g,cap,cur,hv,by omega,r⟩
theorem aD.at {α : Type} {cs : α->List Value} {xs:List α} (h:aD cs lo e sz w v xs) (hc:∀x,(cs x).length=sz) {x : α} (hx:xs[i]?=some x) :
  ∃g cap,v = .slice (some ⟨g,0,none⟩) xs.length cap/\lo<=g/\g<w.heap.size/\xs.length<=cap/\cap<=9223372036854775807/\(∃c,w.heap[g]?=some (.cells c e (0,0)))/\∀j,j<sz->w.cell? ⟨g,i*sz+j,none⟩=(cs x)[j]?:=by
 have hi:=(aS2.1 hx).1
 rcases h.2 with ⟨rfl,h4⟩|⟨g,cap,cur,rfl,hb,hg,hcap,hm,hs,ht⟩
 ·omega
 ·refine ⟨g,cap,rfl,hb,(aTn.1 hg).1,hcap,by unfold maxLen at hm;omega,⟨_,hg⟩,fun j hj=>?_⟩
  have e1:=nO hc hx j hj;rw [<-ht,List.getElem?_take,if_pos (fH hi hj)] at e1;rw [<-e1];simp only [World.cell?,hg];simp
structure KN (lo B:Nat) (e:TypeId) (w w':World):Prop where
 os:w'.os=w.os
 tape:w'.tape=w.tape
 output:w'.output=w.output
 size:w.heap.size<=w'.heap.size
 block:∀b,b<w.heap.size->(b<lo\/(b≠B/\∀c,w.heap[b]?≠some (.cells c e (0,0))))->w'.heap[b]?=w.heap[b]?
theorem KN.refl (lo B:Nat) (e:TypeId) (w:World):KN lo B e w w:=⟨rfl,rfl,rfl,aS3 _,fun _ _ _=>rfl⟩
theorem KN.trans (h:KN lo B e w w1) (k:KN lo B e w1 w2):KN lo B e w w2:=
 ⟨k.os.trans h.os,k.tape.trans h.tape,k.output.trans h.output,aTb h.size k.size,fun b hb hn=>by
  have e1:=h.block b hb hn
  exact (k.block b (aUq hb h.size) (by rw [e1];exact hn)).trans e1⟩
theorem Ext.kn (h:Ext w w') (lo B:Nat) (e:TypeId):KN lo B e w w':=⟨h.os,h.tape,h.output,h.size,fun b hb _=>h.block hb⟩
theorem KN.ext (h:KN lo B e w w1) (k:Ext w1 w2):KN lo B e w w2:=h.trans (k.kn lo B e)
theorem KN.set (h:KN lo B e w w1) (hl:lo<=B) (i:Nat) (u:Value):KN lo B e w (w1.setCell ⟨B,i,none⟩ u):=
 h.trans ⟨rfl,rfl,rfl,by rw [aUr];exact aS3 _,fun b _ hn=>aTe _ _ _ _ (by simp only;rcases hn with hn|hn <;> omega)⟩
theorem KN.grown {row:Option Nat} (h:KN lo B e w w1) (hg:w1.grownBy w2 row) (hr:∀k,row=some k->lo<=k/\∃c,w1.heap[k]?=some (.cells c e (0,0))):KN lo B e w w2:=
 h.trans ⟨hg.os,hg.tape,hg.output,hg.size,fun b hb hn=>hg.block b hb (fun e1=>by
  obtain ⟨h1,c,h2⟩:=hr b e1.symm
  rcases hn with hn|hn
  ·omega
  ·exact hn.2 c h2)⟩
theorem KN.up {w0:World} (h:KN lo B e w w1) (x:Ext w0 w) (hl:w0.heap.size<=lo):Ext w0 w1:=by
 refine aS8 (aTd w0) ?_;refine (aTd w0).grown (row:=none) ⟨h.os.trans x.os,h.tape.trans x.tape,h.output.trans x.output,aTb x.size h.size,fun b hb _=>?_⟩ (fun k hk=>by cases hk);exact (h.block b (aUq hb x.size) (.inl (by omega))).trans (x.block hb)
theorem KN.row {e':TypeId} {α : Type} {cs : α->List Value} {xs:List α} (h:aD cs lo' e' sz w v xs) (k:KN lo B e w w') (hB:∀c,w.heap[B]?≠some (.cells c e' (0,0))) (he:e'≠e):aD cs lo' e' sz w' v xs:=
 h.of fun b c _ hb=>(k.block b (aTn.1 hb).1 (.inr ⟨fun e1=>hB c (e1▸hb),fun c' h'=>by rw [hb] at h';simp only [aS5,aUi] at h';exact he h'.2.1⟩)).trans hb
theorem KN.ints (h:aB lo' w v xs) (k:KN lo B e w w') (hB:∀c,w.heap[B]?≠some (.cells c 3 (0,0))) (he:3≠e):aB lo' w' v xs:=by
 obtain ⟨⟨h1,h2⟩,h3⟩:=h;refine ⟨⟨h1,?_⟩,h3⟩
 rcases h2 with hn|⟨g,cap,cur,hv,hb,hg,r⟩
 ·exact .inl hn
 ·refine .inr ⟨g,cap,cur,hv,hb,?_,r⟩
  exact (k.block g (aTn.1 hg).1 (.inr ⟨fun e1=>hB cur (e1▸hg),fun c' h'=>by rw [hg] at h';simp only [aS5,aUi] at h';exact he h'.2.1⟩)).trans hg
theorem KN.blk {cs:List Value} (h:Blk w g t cs) (k:KN lo B e w w') (hg:g≠B) (ht:t≠e):Blk w' g t cs:=
 h.of (k.block g h.lt (.inr ⟨hg,fun c' h'=>by unfold Blk at h;rw [h] at h';simp only [aS5,aUi] at h';exact ht h'.2.1⟩))
theorem cA {α : Type} (cs : α->List Value) (e:TypeId) (sz bytes:Nat) (z:Value) (w:World) {rest:List Oper} (hg:o.guard=none) (s x:Operand) (t:TypeId)
  (hop:o.op=Op.call { callee:=Callee.builtin Builtin.append,args:=#[s,x],argTypes:=#[t,t] }) (ht:Tryz.prog.underlying t=some (.slice e))
  (hinfo:(Tryz.prog.info? e).map (fun i=>(i.zero,i.size,i.bytes))=some (some z,sz,bytes)) (hzs:z.cells.size=sz) (hsz:0<sz) (hby:bytes<=1000) (hc:∀x,(cs x).length=sz)
  (lo:Nat) (v:Value) (xs:List α) (hs:a.eval s=v) (hown:aD cs lo e sz w v xs)
  (y : α) (b:Nat) (hx:a.eval x = .slice (some ⟨b,0,none⟩) 1 1) (hcell:∀j,j<sz->w.cell? ⟨b,j,none⟩=(cs y)[j]?) (h1:∀u∈cs y,u.oneCell'=true) (hlen:xs.length<1000000) (hlo:lo<=w.heap.size)
  (hK:∀v' w',aD cs lo e sz w' v' (xs++[y])->w.grownBy w' v.ownBlock->wpList aS7 ops Q rest (a.put o.dst v') w'):wpList aS7 ops Q (o::rest) a w:=by
 obtain ⟨i0,h3,h5,h6,h7⟩:=info_parts hinfo;refine wpList_append_own w hg s x t hop lo e i0 z sz bytes ht h3 h5 h6 h7 hzs hsz v xs.length _ hs hown ⟨b,0,none⟩ 1 1 (cs y) hx (by rw [hc,aVm]) ?_ h1 ?_ ?_ hlo ?_
 ·intro j u hj
  have h4:j<sz:=by rw [<-hc y];exact (aS2.1 hj).1
  have ea:(⟨b,0,none⟩:Addr).add j=⟨b,j,none⟩:=by
   unfold Addr.add
   split <;> simp_all
  rw [ea,hcell j h4,hj]
 ·unfold maxLen;omega
 ·have:(xs.length+1)*bytes<=1000000*1000:=aT5 (by omega) hby
  omega
 ·intro v' w1 h2 h0 _
  refine hK v' w1 ?_ h0;unfold aD;rw [aTw,aUk]
  simpa using h2
theorem aD.set {α : Type} {cs : α->List Value} {xs:List α} {T:TypeId} {us:List Value} (h:aD cs lo e sz w v xs) (hB:Blk w B T us) (h1:T≠e) (i:Nat) (u:Value):aD cs lo e sz (w.setCell ⟨B,i,none⟩ u) v xs:=by
 refine h.of fun b c _ hb=>(aTe _ _ _ _ ?_).trans hb;intro e;simp only at e;subst e;unfold Blk at hB;rw [hB] at hb;simp only [aS5,aUi] at hb;exact h1 hb.2.1
open Classical in
noncomputable def gA (C:Addr->Prop) (w d:World):World:=if (∀a,C a->d.cell? a=w.cell? a/\d.frozen? a=w.frozen? a) then d else w
theorem uF (C:Addr->Prop) (w d:World):∀a,C a->(gA C w d).cell? a=w.cell? a/\(gA C w d).frozen? a=w.frozen? a:=by
 unfold gA
 split
 ·assumption
 ·exact fun _ _=>⟨rfl,rfl⟩
@[go_sem] theorem aQj (C:Addr->Prop) (w d:World) (a:Addr) (h:C a):(gA C w d).cell? a=w.cell? a:=(uF C w d a h).1
@[go_sem] theorem aOh (C:Addr->Prop) (w d:World) (a:Addr) (h:C a):(gA C w d).frozen? a=w.frozen? a:=(uF C w d a h).2
def SC (C:Addr->Prop) (w:World):World->Prop:=fun w'=>∃d,w'=gA C w d
theorem SC.of {C:Addr->Prop} (h:∀a,C a->w2.cell? a=w.cell? a/\w2.frozen? a=w.frozen? a):SC C w w2:=⟨w2,by unfold gA;rw [if_pos h]⟩
theorem SC.drew (C:Addr->Prop) (w:World):SC C w w.drew:=SC.of fun _ _=>⟨rfl,rfl⟩
theorem SC.get {C:Addr->Prop} (h:SC C w w2):∀a,C a->w2.cell? a=w.cell? a/\w2.frozen? a=w.frozen? a:=by
 obtain ⟨d,rfl⟩:=h;exact uF C w d
theorem SC.blocks {C:Addr->Prop} (h:∀a,C a->w2.heap[a.block]?=w.heap[a.block]?):SC C w w2:=SC.of fun a ha=>⟨aUn (h a ha),World.frozen?_of_block (h a ha)⟩
theorem aDc {α β : Type} {s:Sem α} {f : α->Sem β} {b : β} (h:(s.bind f).run P w = .ok b w'):∃a w1,(f a).run P w1 = .ok b w':=by
 rw [Sem.run_bind'] at h
 cases hs:s.run P w with
 | ok v w1=>rw [hs] at h;exact ⟨v,w1,h⟩
 | halt x w1=>rw [hs] at h;simp at h
theorem aKf {ρ : Operand->Value} {x:Operand} (hx:o.op = .nilCheck x) {n:Next} (h:(execOp ρ o).run P w = .ok n w'):∃v,n = .value v:=by
 unfold execOp at h;rw [hx] at h;dsimp only at h
 have hp:∀{v:Value} {w1:World},Sem.run P (pure (Next.value v)) w1=Result.ok n w'->∃v,n = .value v:=fun h=>by simp at h;exact ⟨_,h.1.symm⟩
 split at h
 ·simp [runtimePanic] at h
 ·simp [runtimePanic] at h
 ·simp [runtimePanic] at h
 ·split at h
  ·simp [runtimePanic] at h
  ·obtain ⟨a,w1,h⟩:=aDc h
   obtain ⟨c,w2,h⟩:=aDc h
   split at h
   ·obtain ⟨d,w3,h⟩:=aDc h
    exact hp h
   ·exact hp h
  ·exact hp h
 ·exact hp h
def wK:Op->Bool
 | .nilCheck _=>true
 | o=>rD o
theorem vC {ρ : Operand->Value} (hr:wK o.op=true) {n:Next} (h:(execOp ρ o).run P w = .ok n w'):∃v,n = .value v:=by
 by_cases hn:∃x,o.op = .nilCheck x
 ·obtain ⟨x,hx⟩:=hn
  exact aKf hx h
 ·refine rE ?_ h
  revert hr hn
  cases o.op <;> intro hr hn <;> first|exact absurd ⟨_,rfl⟩ hn|exact hr
def mR (ops:Array Oper):List (List Nat×Nat)->Bool
 | []=>true
 | (T,_)::r=>T.all (fun i=>match ops[i]? with|some o=>wK o.op|none=>false)&&mR ops r
def cU (P:Program) (ops:Array Oper) (Q:Exit->Act->World->Prop) (S:World->Prop) (z:Nat):List (List Nat×Nat)->Act->World->Prop
 | [],a,w=>Q .normal a w
 | (T,e)::r,a,w=>wpQuiet P ops S (fun a'=>∃o,ops[e]?=some o/\wpList P ops (Exit.then (fun a2 w2=>(e=z\/S w2)/\cU P ops Q S z r a2 w2) Q) [o] a' w) (T.filterMap (ops[·]?)) a
theorem kG {r:List (Bool×Nat)} {K:Act->Prop}
  (hK:∀a,K a->fG P ops Q S z r a w) :
  ∀(T:List Nat) (a:Act),T.all (fun i=>match ops[i]? with|some o=>wK o.op|none=>false)=true->wpQuiet P ops S K (T.filterMap (ops[·]?)) a ->
   fG P ops Q S z (T.map (fun i=>(true,i))++r) a w
 | [],a,_,h=>hK a h
 | i::T,a,hr,h=>by
  simp only [aZ9,aTi] at hr;obtain ⟨hri,hr'⟩:=hr
  cases ho:ops[i]? with
  | none=>rw [ho] at hri;cases hri
  | some o=>
   rw [ho] at hri;simp only [aTu,ho] at h;refine ⟨o,ho,?_⟩;unfold wR;unfold wpQuiet at h
   split
   ·rename_i hw
    rw [if_pos hw] at h;obtain ⟨v,hv,hn⟩:=h;refine ⟨v,fun w' hw'=>?_,kG hK T _ hr' hn⟩;have h1:=hv w' hw';unfold bAq at h1
    cases hrun:(execOp a.eval o).run P w' with
    | halt x w1=>rw [hrun] at h1;exact h1.elim
    | ok n w1=>
     obtain ⟨u,rfl⟩:=vC hri hrun;rw [hrun] at h1;obtain ⟨e1,e2⟩:=h1;rw [e1,e2]
   ·rename_i hw
    rw [if_neg hw] at h;exact kG hK T _ hr' h
theorem gX:∀(st:List (List Nat×Nat)) (a:Act) (w:World),mR ops st=true ->
  cU P ops Q S z st a w->fG P ops Q S z (cG st) a w
 | [],_,_,_,h=>h
 | (T,e)::r,a,w,hr,h=>by
  simp only [mR,aTi] at hr;refine kG (K:=fun a'=>∃o,ops[e]?=some o/\wpList P ops (Exit.then (fun a2 w2=>(e=z\/S w2)/\cU P ops Q S z r a2 w2) Q) [o] a' w) (fun a' ha=>?_) T a hr.1 h;obtain ⟨o,ho,hl⟩:=ha;refine ⟨o,ho,?_⟩
  have key:∀a2 w2,((e=z\/S w2)/\cU P ops Q S z r a2 w2)->((e=z\/S w2)/\fG P ops Q S z (cG r) a2 w2):=
   fun a2 w2 ⟨k1,k2⟩=>⟨k1,gX r a2 w2 hr.2 k2⟩
  unfold wpList at hl ⊢
  split
  ·rename_i hw
   rw [if_pos hw] at hl
   rcases hl with hl|⟨h1,h2⟩
   ·refine .inl ?_
    have h3:=jV hl;have h4:o.wp P a' w (wpList P ops (Exit.then (fun a2 w2=>(e=z\/S w2)/\cU P ops Q S z r a2 w2) Q) []) Q:=h3;have h5:=aYo (K':=wpList P ops (Exit.then (fun a2 w2=>(e=z\/S w2)/\fG P ops Q S z (cG r) a2 w2) Q) []) (fun a2 w2 hk=>key a2 w2 hk) h4;unfold aZp at h5 ⊢;generalize (execOp a'.eval o).run P w=res at h5 ⊢
    cases res with
    | ok n w'=>cases n <;> exact h5
    | halt x w'=>cases x <;> exact h5
   ·exact .inr ⟨h1,h2⟩
  ·rename_i hw
   rw [if_neg hw] at hl;exact key _ _ hl
theorem aJ {id:Nat} (st:List (List Nat×Nat)) (z:Nat) (S:World->Prop)
 
  (hS:S w.drew) (h:cU P l.toArray (NoPanic Q) S z st a w.drew) (hm:P.follows .mixedOrders=true:=by kernel_rfl) (hB:(aIy .any l.toArray z (cG st)&&mR l.toArray st&&(cG st).length==l.length)=true:=by kernel_rfl):(Code.region id l.toArray true).wp P Q a w:=by
 simp only [aTi,beq_iff_eq] at hB;exact oK (cG st) z S hm hB.1.1 hB.2 hS (gX st a w.drew hB.1.2 h)
theorem aP (h:Q .normal a w):cU P ops (NoPanic Q) S z [] a w:=h
theorem iG {T:List Nat} {e:Nat} {r:List (List Nat×Nat)}
  (h:wpQuiet P ops S (fun a'=>∃o,ops[e]?=some o/\∀K:Act->World->Prop,(∀a2 w2,(e=z\/S w2)->cU P ops Q S z r a2 w2->K a2 w2)->wpList P ops (Exit.then K Q) [o] a' w) (T.filterMap (ops[·]?)) a) :
  cU P ops Q S z ((T,e)::r) a w:=by
 unfold cU
 have e1:(fun a'=>∃o,ops[e]?=some o/\wpList P ops (Exit.then (fun a2 w2=>(e=z\/S w2)/\cU P ops Q S z r a2 w2) Q) [o] a' w) =
   (fun a'=>∃o,ops[e]?=some o/\∀K:Act->World->Prop,(∀a2 w2,(e=z\/S w2)->cU P ops Q S z r a2 w2->K a2 w2)->wpList P ops (Exit.then K Q) [o] a' w):=by
  funext a'
  refine propext ⟨fun ⟨o,ho,hl⟩=>⟨o,ho,fun K hK=>?_⟩,fun ⟨o,ho,hl⟩=>⟨o,ho,hl _ fun a2 w2 h1 h2=>⟨h1,h2⟩⟩⟩;unfold wpList at hl ⊢
  split
  ·rename_i hw
   rw [if_pos hw] at hl
   rcases hl with hl|⟨h1,h2⟩
   ·refine .inl ?_
    have h4:=aYo (K':=wpList P ops (Exit.then K Q) []) (fun a2 w2 hk=>hK a2 w2 hk.1 hk.2) hl;unfold aZp at h4 ⊢;generalize (execOp a'.eval o).run P w=res at h4 ⊢
    cases res with
    | ok n w'=>cases n <;> exact h4
    | halt x w'=>cases x <;> exact h4
   ·exact .inr ⟨h1,h2⟩
  ·rename_i hw
   rw [if_neg hw] at hl;exact hK _ _ hl.1 hl.2
 rw [e1];exact h
def aE4 (P:Program) (ops:Array Oper) (Q:Exit->Act->World->Prop) (S:World->Prop) (z fuel:Nat) (listed:Array Bool) (a:Act) (w:World):Prop:=
 jZ P .any ops Q S z fuel listed a w
def sO (ops:Array Oper) (z:Nat):List Nat->Array Bool->Bool
 | [],_=>true
 | i::r,l=>(match ops[i]? with|some o=>wK o.op|none=>false)&&(i != z&&Region.free .any ops l i&&(aUt .any ops l).contains i)&&sO ops z r (l.setIfInBounds i true)
def aE5 (ops:Array Oper) (z:Nat) (T E:List Nat) (l:Array Bool):Bool:=
 aWq ops&&fV .any ops z&&sO ops z T l&&(aUt .any ops (eJ T l)==E) && !E.isEmpty
def gS (P:Program) (ops:Array Oper) (Q:Exit->Act->World->Prop) (S:World->Prop) (z fuel:Nat) (l:Array Bool) (e:Nat) (a:Act) (w:World):Prop:=
 ∃o,ops[e]?=some o/\∀K:Act->World->Prop,(∀a2 w2,(e=z\/S w2)->aE4 P ops Q S z fuel (l.setIfInBounds e true) a2 w2->K a2 w2)->wpList P ops (Exit.then K Q) [o] a w
theorem xH {l:Array Bool} {e:Nat} (h:gS P ops Q S z fuel l e a w) :
  wpOp P ops Q e (fun a' w'=>(e=z\/S w')/\aE4 P ops Q S z fuel (l.setIfInBounds e true) a' w') a w:=by
 obtain ⟨o,ho,hl⟩:=h;have ht:=hl (fun a' w'=>(e=z\/S w')/\aE4 P ops Q S z fuel (l.setIfInBounds e true) a' w') (fun a2 w2 k1 k2=>⟨k1,k2⟩);unfold wpOp;simp only [ho];unfold wpList at ht
 split
 ·rename_i hw
  rw [if_pos hw] at ht
  rcases ht with ht|⟨h1,h2⟩
  ·refine .inl ?_
   have h3:=jV ht;exact h3
  ·exact .inr ⟨h1,h2⟩
 ·rename_i hw
  rw [if_neg hw] at ht;exact ht
theorem rO {K:Act->Prop} (hsel:aWq ops=true) (hz:fV .any ops z=true) (hS:S w) :
  ∀(T:List Nat) (l:Array Bool) (a:Act),sO ops z T l=true->(∀a,K a->aE4 P ops (NoPanic Q) S z fuel (eJ T l) a w) ->
   wpQuiet P ops S K (T.filterMap (ops[·]?)) a->aE4 P ops (NoPanic Q) S z (T.length+fuel) l a w
 | [],l,a,_,hK,h=>by rw [aVc,aT1];exact hK a h
 | i::T,l,a,hT,hK,h=>by
  simp only [sO,aTi,bne_iff_ne] at hT;obtain ⟨⟨hri,⟨hiz,hf⟩,hr⟩,hT'⟩:=hT
  cases ho:ops[i]? with
  | none=>rw [ho] at hri;cases hri
  | some o=>
   rw [ho] at hri;simp only [aTu,ho] at h;unfold wpQuiet at h
   have hlen:(i::T).length+fuel=T.length+fuel+1:=by rw [aUj];omega
   rw [hlen]
   split at h
   ·rename_i hw
    obtain ⟨v,hv,hn⟩:=h;refine gI (v:=v) ho hz hiz (aV2 hsel) (fun c a w k=>k) _ l a w (aWv ho hf) (by simpa using hr) (.inl ⟨hw,fun w' hw'=>?_⟩) hS (rO hsel hz hS T _ _ hT' hK hn);have h1:=hv w' hw';unfold bAq at h1
    cases h0:(execOp a.eval o).run P w' with
    | halt x w1=>rw [h0] at h1;exact h1.elim
    | ok n w1=>
     obtain ⟨u,rfl⟩:=vC hri h0;rw [h0] at h1;obtain ⟨e1,e2⟩:=h1;rw [e1,e2]
   ·rename_i hw
    exact gI (v:=undef) ho hz hiz (aV2 hsel) (fun c a w k=>k) _ l a w (aWv ho hf) (by simpa using hr) (.inr ⟨by simpa using hw,rfl⟩) hS (rO hsel hz hS T _ _ hT' hK h)
theorem gB {l:Array Bool} (T E:List Nat) (hS:S w)
  (h:wpQuiet P ops S (fun a'=>∀e∈E,gS P ops (NoPanic Q) S z fuel (eJ T l) e a' w) (T.filterMap (ops[·]?)) a) (hB:aE5 ops z T E l=true:=by kernel_rfl) :
  aE4 P ops (NoPanic Q) S z (T.length+(fuel+1)) l a w:=by
 simp only [aE5,aTi,beq_iff_eq] at hB;obtain ⟨⟨⟨⟨h1,h2⟩,h3⟩,h4⟩,h5⟩:=hB;refine rO h1 h2 hS T l a h3 (fun a' hk=>?_) h;refine ⟨fun h0=>?_,fun e he=>?_⟩
 ·rw [h4] at h0;rw [h0] at h5;cases h5
 ·rw [h4] at he
  exact xH (hk e he)
theorem xI {l:Array Bool} (h:Q .normal a w) (hB:(aUt .any ops l).isEmpty=true:=by kernel_rfl):aE4 P ops (NoPanic Q) S z 0 l a w:=
 ⟨by simpa using hB,h⟩
theorem sc_ {T:List Nat} {e:Nat} {r:List (List Nat×Nat)} {a0 a1:Act}
  (h:∀K:Act->World->Prop,(∀a2 w2,(e=z\/S w2)->cU P ops Q S z r a2 w2->K a2 w2)->wpList P ops (Exit.then K Q) [o] a1 w)
  (hl:T.filterMap (ops[·]?)=l:=by first|(simp only [aTu,aTl,aS6,aS0,aS1];rfl)|rfl)
  (ha:a=a0:=by first|(simp only [Act.put,aTa,aTh,aTg];rfl)|rfl)
  (hq:∀R:Act->Prop,R a1->wpQuiet P ops S R l a0:=by intro R h;(repeat (show wpQuiet _ _ _ _ (_::_) _;go_big_quiet_step (fail)));exact wpQuiet_nil h) (ho:ops[e]?=some o:=by rfl):cU P ops Q S z ((T,e)::r) a w:=by
 subst ha;refine iG ?_;rw [hl];exact hq _ ⟨o,ho,h⟩
def qH (a b:Int):Int:=if a<b then -1 else if b<a then 1 else 0
def or3 (x y z:Int):Int:=if x=0 then (if y=0 then z else y) else x
def aI.cmp (a b:aI):Int:=or3 (qH a.d b.d) (qH a.s b.s) (qH a.c b.c)
theorem aDd {a b:Int} (h:a<b):qH a b = -1:=by unfold qH;rw [if_pos h]
theorem pQ (a:Int):qH a a=0:=by unfold qH;rw [if_neg (Int.lt_irrefl _),if_neg (Int.lt_irrefl _)]
theorem aDe {a b:Int} (h:b<a):qH a b=1:=by unfold qH;rw [if_neg (by omega),if_pos h]
theorem aI.cmp_lt (a b:aI):decide (a.cmp b<0)=a.lt b:=by
 cases hl:a.lt b
 ·rw [aI.lt_no] at hl
  refine decide_eq_false ?_;unfold aI.cmp or3
  rcases aZe a.d b.d with h|h|h
  ·exact absurd (.inl h) hl
  ·rw [h,pQ,if_pos rfl]
   rcases aZe a.s b.s with k|k|k
   ·exact absurd (.inr ⟨h,.inl k⟩) hl
   ·rw [k,pQ,if_pos rfl]
    rcases aZe a.c b.c with l|l|l
    ·exact absurd (.inr ⟨h,.inr ⟨k,l⟩⟩) hl
    ·rw [l,pQ];decide
    ·rw [aDe l];decide
   ·rw [aDe k,if_neg (by decide)];decide
  ·rw [aDe h,if_neg (by decide)];decide
 ·rw [aI.lt_iff] at hl
  refine decide_eq_true ?_;unfold aI.cmp or3
  rcases hl with h|⟨h,k|⟨k,l⟩⟩
  ·rw [aDd h,if_neg (by decide)];decide
  ·rw [h,pQ,if_pos rfl,aDd k,if_neg (by decide)];decide
  ·rw [h,pQ,if_pos rfl,k,pQ,if_pos rfl,aDd l];decide
theorem uG (n:Int) (w:World):Z_ 260 #[n] w (.bool false):=by
 go_enter func260,ntmps260;go_wp2;go_ret;exact ⟨rfl,rfl⟩
theorem rP {a b:Int} (h:qH a b=c) (w:World):Z_ 225 #[a,b] w (.int .i64 c):=by
 have H:=hid h;clear h
 by_cases h1:a<b
 ·have e:c = -1:=by rw [<-H];unfold qH;rw [if_pos h1]
  subst e;go_enter func225,ntmps225;go_wp2_with (first|(go_at_call 260;refine z_ (uG _ _) ?_));go_ret;exact ⟨rfl,rfl⟩
 ·by_cases h2:b<a
  ·have e:c=1:=by rw [<-H];unfold qH;rw [if_neg h1,if_pos h2]
   subst e;go_enter func225,ntmps225;go_wp2_with (first|(go_at_call 260;refine z_ (uG _ _) ?_));go_ret;exact ⟨rfl,rfl⟩
  ·have e:c=0:=by rw [<-H];unfold qH;rw [if_neg h1,if_neg h2]
   subst e;go_enter func225,ntmps225;go_wp2_with (first|(go_at_call 260;refine z_ (uG _ _) ?_));go_ret;exact ⟨rfl,rfl⟩
theorem aOi {z:Int} (h:or3 x y z=r) (g:Nat) (w:World) (hb:Blk w g 3 [x,y,z]):Z_ 224 #[.slice (some ⟨g,0,none⟩) 3 3] w (.int .i64 r):=by
 have H:=hid h;obtain ⟨c0,c1,c2⟩:=hb.q3;have lg:=hb.lt;clear h hb;go_enter func224,ntmps224;go_wp2
 go_loopw [8] (fun i wr=>∃k:Nat,k<=3/\i = .int .i64 (k:Nat)/\w=wr/\(1<=k->x=0)/\(2<=k->y=0)/\(3<=k->z=0)) (fun i _=>3 - (intOf i).toNat)
 case atStart=>exact ⟨0,by omega,rfl,rfl,fun h=>absurd h (by omega),fun h=>absurd h (by omega),fun h=>absurd h (by omega)⟩
 case round=>
  obtain ⟨k,hk,rfl,rfl,h1,h2,h3⟩:=hrel;obtain ⟨H1,H2,H3⟩:=h3_ h1 h2 h3;clear h1 h2 h3
  rcases (show k=0\/k=1\/k=2\/k=3 by omega) with rfl|rfl|rfl|rfl
  ·by_cases hx:x=0
   ·have HX:=hid hx
    go_wp2;go_roundw
    case rel=>exact ⟨1,by omega,by go_num,by trivial,fun _=>HX.out,fun h=>absurd h (by omega),fun h=>absurd h (by omega)⟩
    case measure=>simp [intOf]
   ·have HR:=hid (show x=r by rw [<-H];unfold or3;rw [if_neg hx])
    go_wp2;go_ret;exact ⟨cQ HR,rfl⟩
  ·have h0:=hid (H1 (by omega))
   by_cases hy:y=0
   ·have HY:=hid hy
    go_wp2;go_roundw
    case rel=>exact ⟨2,by omega,by go_num,by trivial,fun _=>h0.out,fun _=>HY.out,fun h=>absurd h (by omega)⟩
    case measure=>simp [intOf]
   ·have HR:=hid (show y=r by rw [<-H];unfold or3;rw [if_pos h0.out,if_neg hy])
    go_wp2;go_ret;exact ⟨cQ HR,rfl⟩
  ·have h0:=hid (H1 (by omega))
   have h4:=hid (H2 (by omega))
   by_cases hz:z=0
   ·have HZ:=hid hz
    go_wp2;go_roundw
    case rel=>exact ⟨3,by omega,by go_num,by trivial,fun _=>h0.out,fun _=>h4.out,fun _=>HZ.out⟩
    case measure=>simp [intOf]
   ·have HR:=hid (show z=r by rw [<-H];unfold or3;rw [if_pos h0.out,if_pos h4.out])
    go_wp2;go_ret;exact ⟨cQ HR,rfl⟩
  ·have HR:=hid (show 0=r by rw [<-H];unfold or3;rw [if_pos (H1 (by omega)),if_pos (H2 (by omega)),H3 (by omega)])
   go_wp2;go_ret;exact ⟨cQ HR,rfl⟩
theorem vD {a b:aI} (h:a.cmp b=r) (w:World) :
  R_ 174 #[.agg #[a.d,a.s,a.c,a.col,a.al],.agg #[b.d,b.s,b.c,b.col,b.al]] w (.int .i64 r):=by
 obtain ⟨c0,h0⟩:=e_ (qH a.d b.d)
 obtain ⟨c1,h1⟩:=e_ (qH a.s b.s)
 obtain ⟨c2,h2⟩:=e_ (qH a.c b.c)
 unfold aI.cmp at h;rw [h0,h1,h2] at h;obtain ⟨H,H0,H1,H2⟩:=h4_ h h0 h1 h2;clear h h0 h1 h2;go_enter func174,ntmps174;go_wp2;refine aA [([0,1,2,3,5,6,7,8,10,11,12,13],4),([],9),([],14),([],15),([],16),([],17)] 17 (w.heap.size+1+1) ?_;refine st_ fun K hK=>?_;go_wp2_with fail;refine z_ (rP H0 _) ?_;go_wp2;refine k_ hK (st_ fun K hK=>?_);go_wp2_with fail;refine z_ (rP H1 _) ?_;go_wp2;refine k_ hK (st_ fun K hK=>?_);go_wp2_with fail;refine z_ (rP H2 _) ?_;go_wp2;refine k_ hK (st_ fun K hK=>?_);go_wp2;refine k_ hK ?_;clear hK K
 obtain ⟨W5,h3⟩:=e_ ((((w.alloc (.cells #[a.d,a.s,a.c,a.col,a.al] 95)).alloc (.cells #[b.d,b.s,b.c,b.col,b.al] 95)).alloc (.cells #[c0,c1,c2] 3)).drew)
 have hb:Blk W5 (w.heap.size+1+1) 3 [c0,c1,c2]:=by
  rw [<-h3];have h:=aTc ((w.alloc (.cells #[a.d,a.s,a.c,a.col,a.al] 95)).alloc (.cells #[b.d,b.s,b.c,b.col,b.al] 95)) 3 [c0,c1,c2];simp only [aS4] at h;exact h.ext (aUa (aTd _))
 have HB:=hid hb
 have x5:Ext ((w.alloc (.cells #[a.d,a.s,a.c,a.col,a.al] 95)).alloc (.cells #[b.d,b.s,b.c,b.col,b.al] 95)) W5:=by rw [<-h3];exact X_
 have y5:Ext w W5:=aS8 X_ x5;rw [h3];clear hb h3;refine st_ fun K hK=>?_;go_wp2_with fail;refine z_ (aOi H _ _ HB) ?_;go_wp2;refine k_ hK (st_ fun K hK=>?_);go_wp2;refine l_ hK (aC ?_);clear hK K;go_wp2;go_ret;exact ⟨rfl,y5⟩
section
variable {P : Program} {ops : Array Oper} {Q : Exit -> Act -> World -> Prop} {md : Region.Mode} {l n : Nat}
abbrev rd (l:Nat):Fence:=Fence.wide.inRound l
theorem xJ (l n:Nat):(rd l).depth.isSome=true->1<=n:=fun h=>by simp [rd,bAu] at h
theorem aOj {row:String} {args:Array Value} {w:World} {R:Value->World->Prop} (h:Rows P row args w R):RowsIn (rd l) n P row args w R:=
 fun c cs _=>let ⟨v,w',r,s⟩:=h c cs;⟨v,w',r,(stepsIn_wide (P:=P)).2 s⟩
theorem aI6 {o:Oper} {a:Act} {w:World} {K:Act->World->Prop} (hd:∀c,o.op≠.defer c) (hl : ¬LetsOut Q) (h:o.wp P a w K Q\/(o.asks P a w/\LetsOut Q)):o.wpIn (rd l) n P a w K Q:=by
 rcases h with h|⟨_,h⟩
 ·refine ⟨fun _ _=>trivial,?_⟩
  rw [show (rd l).round=some l from rfl,aY3 l _ _ hd];unfold aZp at h;generalize (execOp a.eval o).run P w=r at h ⊢
  cases r with
  | ok x w'=>
   cases x
   case value v=>exact h
   case skip=>exact h
   case defer d=>exact h
   case enter f args=>exact ⟨xJ l n,CallsIn.inRound l ((callsIn_wide (n:=n - 1)).2 h)⟩
   case row r args=>exact ⟨xJ l n,aOj h⟩
   all_goals exact (h:False).elim
  | halt x w'=>
   cases x
   all_goals first|exact h|exact (h:False).elim
 ·exact (hl h).elim
def lH (ops:List Oper):Bool:=ops.all fun o=>match o.op with | .defer _=>false|_=>true
theorem xK {ops:List Oper} (h:lH ops=true) {i:Nat} {o:Oper} (ho:ops[i]?=some o):∀c,o.op≠.defer c:=by
 intro c hc;have:=aUh.1 h o (aTq ho);rw [hc] at this;cases this
theorem xL (hd:lH ops.toList=true) (hl : ¬LetsOut Q):∀(fuel:Nat) (listed:Array Bool) (a:Act) (w:World),wpAny P md ops Q fuel listed a w->wpAnyIn (rd l) n P md ops Q fuel listed a w
 | 0,_,_,_,h=>h
 | fuel+1,listed,a,w,h=>by
  refine ⟨h.1,fun i hi=>?_⟩;have h2:=wpOp_mono (fun a' w' h'=>xL hd hl fuel _ a' w' h') (h.2 i hi);unfold wpOp at h2;unfold wpOpIn
  cases ho:ops[i]? with
  | none=>rw [ho] at h2;exact h2
  | some o=>
   rw [ho] at h2;simp only at h2 ⊢
   split
   ·rename_i hw
    rw [if_pos hw] at h2;exact aI6 (xK (i:=i) hd (by simpa using ho)) hl h2
   ·rename_i hw
    rw [if_neg hw] at h2;exact ⟨fun _ _=>trivial,h2⟩
theorem uH (hl : ¬LetsOut Q):∀(rest:List Oper) (a:Act) (w:World),lH rest=true->wpList P ops Q rest a w->wpListIn (rd l) n P ops Q rest a w
 | [],_,_,_,h=>h
 | o::rest,a,w,hd,h=>by
  have hd2:lH rest=true:=by
   unfold lH at hd ⊢;rw [aZ9,aTi] at hd;exact hd.2
  unfold wpList at h;unfold wpListIn
  split
  ·rename_i hw
   rw [if_pos hw] at h;refine aI6 (xK (i:=0) hd rfl) hl (h.imp (fun k=>?_) id);exact aYo (fun a' w' h'=>uH hl rest a' w' hd2 h') k
  ·rename_i hw
   rw [if_neg hw] at h;exact ⟨fun _ _=>trivial,uH hl rest _ _ hd2 h⟩
theorem vE (hl : ¬LetsOut Q) : ¬LetsOut (NoPanic Q):=fun ⟨a,w,h⟩=>hl ⟨a,w,h⟩
theorem qY {id:Nat} {a:Act} {w:World} {l':List Oper} (z N:Nat) (hm:P.follows .mixedOrders=true) (hd:lH l'=true) (hl : ¬LetsOut Q)
  (h:wpZ P l'.toArray (NoPanic Q) N w z l'.length (aXf l'.length false) a w.drew):(Code.region id l'.toArray true).wpIn (rd l) n P Q a w:=by
 refine Go.wpIn_mono (wpIn_region_any hm (xL (by simpa using hd) (vE hl) _ _ _ _ ?_)) NoPanic.imp;have:=iS _ _ _ _ h
 simpa using this
theorem eN {id:Nat} {a:Act} {w:World} {l':List Oper} (hd:lH l'=true) (hl : ¬LetsOut Q) (h:wpList P l'.toArray Q l' a w):(Code.region id l'.toArray false).wpIn (rd l) n P Q a w:=
 wpIn_region_lit (uH hl _ _ _ hd h)
end
section
open Go.RowKit Go.Shelf
attribute [local go_sem] aY3
def aI7 (n:Nat) (hn:0<n) (k:Nat):Fin n×Fin n:=(⟨k % n,aVp _ hn⟩,⟨k / n % n,aVp _ hn⟩)
def cM (n:Nat) (hn:0<n) (k:Nat):List (Fin n×Fin n):=(aTt k).map (aI7 n hn)
theorem oU (n:Nat) (hn:0<n) (k:Nat):(cM n hn k).length=k:=by simp [cM]
theorem aDf (n:Nat) (hn:0<n) (k:Nat):cM n hn (k+1)=cM n hn k++[aI7 n hn k]:=by simp [cM,List.range_succ]
def KB (B:Nat) (W W':World):Prop:=W'.heap[B]?=W.heap[B]?
theorem KB.trans {B:Nat} {X Y Z:World} (h:KB B X Y) (k:KB B Y Z):KB B X Z:=Eq.trans k h
theorem uI (n:Nat) (m:Nat) (w:World) :
  CallsIn bAu m aS7 165 #[n] w fun e w'=>e = .returned (.func (.func 217) #[] #[.pointer (some ⟨w.heap.size,0,none⟩)])/\w'=w.alloc (.cells #[n] 3):=by
 refine callsIn_wide.2 ?_;have h0:∀w:World,(aXa (.func 217) #[] #[.pointer (some ⟨w.heap.size,0,none⟩)]).run aS7 w = .ok (.func (.func 217) #[] #[.pointer (some ⟨w.heap.size,0,none⟩)]) w:=fun _=>rfl;go_enter func165,ntmps165;go_wp2;go_ret;exact ⟨rfl,rfl⟩
theorem aMa (n:Nat) (h0n:0<n) (hn':n<=64) (m:Nat) (l B:Nat) (J Jx:List (Fin n×Fin n)->World->Prop)
  (hJd:∀s W,J s W->J s W.drew)
  (hY:∀pre x W,J pre W->pre.length<n*n->YieldAt bAu (m - 1) aS7 l #[(x.1:Nat),(x.2:Nat)] W fun e W'=>
   (e = .returned (.bool true)/\J (pre++[x]) W'/\KB B W W')\/(e = .returned (.bool false)/\Jx (pre++[x]) W'))
  (W:World) (hW:W.cell? ⟨B,0,none⟩=some (.int .i64 n)) (h0:J [] W) :
  CallsIn bAu m aS7 217 #[.func (.yield l) #[] #[],.pointer (some ⟨B,0,none⟩)] W fun e W'=>(∃v,e = .returned v) /\
   ((∃xs,xs=cM n h0n (n*n)/\J xs W')\/(∃pre,True/\Jx pre W')):=by
 have q5:n*n<=4096:=aT5 hn' hn';refine callsIn_of_wp func217 rfl trivial ?_ rfl;simp only [ntmps217,aX8,aUj,aVc,aWa,bA6,aYa,aYb,aZl,aYu,aU1,aYi]
 gi_wp2
 gi_loopw [3] (fun i wr=>∃k:Nat,k<=n*n/\i = .int .i64 k/\J (cM n h0n k) wr/\KB B W wr) (fun i _=>n*n - (intOf i).toNat)
 case atStart=>exact ⟨0,aUl _,rfl,h0,rfl⟩
 case round=>
  obtain ⟨k,hk,rfl,h8,q3⟩:=hrel;have hc:wr.cell? ⟨B,0,none⟩=some (.int .i64 n):=(aUn (w:=W) (w':=wr) (a:=⟨B,0,none⟩) q3).trans hW
  have q1:(n:Int)*n=((n*n:Nat):Int):=by simp
  obtain ⟨N,hN⟩:=e_ (n*n)
  rw [hN] at q1 hk q5 ⊢
  by_cases q0:k<N
  ·have q8:(n:Int)≠0:=by omega
   have hq:k / n % n=k / n:=aWu (aVf (by rw [hN];exact q0));have hm:k % n<n:=aVp _ h0n
   have t1:Int.tmod (k:Int) n=((k % n:Nat):Int):=by rw [Int.tmod_eq_emod_of_nonneg (by omega)];rfl
   have t2:Int.tdiv (k:Int) n=((k / n:Nat):Int):=by rw [Int.tdiv_eq_ediv_of_nonneg (by omega)];rfl
   have hd:k / n<n:=aVf (by rw [hN];exact q0)
   obtain ⟨r,hr⟩:=e_ (k % n)
   obtain ⟨d,h9⟩:=e_ (k / n)
   obtain ⟨fn,q6,h7,q4,hy,hR⟩:=hY (cM n h0n k) (aI7 n h0n k) wr.drew (hJd _ _ h8) (by rw [oU,hN];exact q0);rw [<-aDf] at hR;dsimp only [aI7] at hy;rw [hq,hr,h9] at hy;rw [hr] at t1 hm;rw [h9] at t2 hd;have t3:IntKind.i64.wrap (d:Int)=(d:Int):=IntWalk.i64_in _ (by omega);clear hq hr h9 h8
   gi_wp2
   have q7:Tryz.prog.follows .mixedOrders=true:=by kernel_rfl
   have q2:=RoundIn.mono (R':=fun e W'=>∃b:Bool,e = .returned (.bool b)/\((b=true/\J (cM n h0n (k+1)) W'/\KB B wr.drew W')\/(b=false/\Jx (cM n h0n (k+1)) W'))) hR (fun e W' h=>by
    rcases h with ⟨rfl,h1,h2⟩|⟨rfl,h1⟩
    ·exact ⟨true,rfl,.inl ⟨rfl,h1,h2⟩⟩
    ·exact ⟨false,rfl,.inr ⟨rfl,h1⟩⟩)
   clear hR
   gi_region_with_o (refine ⟨fun h=>by simp [bAu] at h,?_⟩;refine q2.mono ?_;rintro e W3 ⟨b,rfl,h3⟩)
   all_goals (try simp only [Act.put,List.getElem_toArray,List.getElem_cons_succ,List.getElem_cons_zero,aTa,aTh,aTg])
   all_goals clear q2 hy hY t1 t2 t3
   all_goals rcases h3 with ⟨rfl,h4,h5⟩|⟨rfl,h4⟩
   all_goals first
    | (have h6:KB B W _:=KB.trans (Y:=wr.drew) q3 h5
       gi_wp2
       go_roundw
       case rel=>exact ⟨k+1,by omega,by go_num,h4,h6⟩
       case measure=>simp [intOf];omega)
    | (gi_wp2
       refine bodyPost_ret (results_none rfl _ _ _) rfl ?_
       exact ⟨⟨_,rfl⟩,.inr ⟨_,trivial,h4⟩⟩)
  ·obtain rfl:k=N:=by omega
   gi_wp2
   go_end0
   exact ⟨⟨_,rfl⟩,.inl ⟨_,rfl,by rw [hN];exact h8⟩⟩
theorem oV (n:Nat) (h0n:0<n) (hn':n<=64) (m B:Nat) (w:World) (hw0:B<w.heap.size) (hw:w.cell? ⟨B,0,none⟩=some (.int .i64 n)) :
  SeqStopsK bAu m aS7 217 #[.pointer (some ⟨B,0,none⟩)] (fun x:Fin n×Fin n=>#[(x.1:Nat),(x.2:Nat)]) (KB B)
   (fun xs=>xs=cM n h0n (n*n)) (fun _=>True) (n*n) w:=fun l J Jx W hW hJ _ hY h0=>
 aMa n h0n hn' m l B J Jx (fun s W hs=>hJ s W _ none hs ⟨rfl,rfl,rfl,aS3 _,fun _ _ _=>rfl⟩ (fun r e=>by cases e)) hY W ((Below.cell (p:=⟨B,0,none⟩) hW hw0).trans hw) h0
end
section
open Go.RowKit Go.Shelf
theorem hH {W:World} {B:Nat} {o:Obj} (h:W.heap[B]?=some o):B<W.heap.size:=(aTn.1 h).1
theorem aA5 {W:World} {B:Nat} {t e:TypeId} {cs:Array Value} {fz:Nat×Nat} (h:W.heap[B]?=some (.cells cs t fz)) (hte:t≠e) {base size k:Nat} {v:Value} {xs:List Value} (hr:W.ownsRow base e size v k xs):some B≠v.ownBlock:=by
 rcases hr.2 with ⟨rfl,_⟩|⟨g,cap,cur,rfl,hb,hg,_⟩
 ·simp [Value.ownBlock]
 ·simp only [Value.ownBlock,ne_eq,aS5]
  intro e';subst e';rw [hg] at h;simp only [aS5,aUi] at h;exact hte h.2.1.symm
theorem xM {A B:World} {row:Option Nat} (hg:A.grownBy B row) (hr:∀r,row=some r->∃o:Obj,A.heap[r]?=some o/\o.isCells=false) {b:Nat} {cs:Array Value} {t:TypeId} {fz:Nat×Nat} (h:A.heap[b]?=some (.cells cs t fz)):B.heap[b]?=some (.cells cs t fz):=
 (hg.block b (hH h) (fun e=>by obtain ⟨o,ho,hc⟩:=hr b e.symm;rw [h] at ho;cases ho;cases hc)).trans h
theorem Ext.others {A B:World} (h:Ext A B):KeepsOthers A B:=⟨h.size,fun _ _ hk _=>(h.block (hH hk)).trans hk⟩
structure RB {α : Type} (cs : α->List Value) (e:TypeId) (sz:Nat) (bt:TypeId) (bx:Value->List Value) (w:World) (Bt:Nat) (F:List (Nat×TypeId×List Value)) (W:World) (xs:List α):Prop where
 ext:Ext w W
 fx:∀p∈F,Blk W p.1 p.2.1 p.2.2
 tl:w.heap.size<=Bt
 tb:∃v,Blk W Bt bt (bx v)/\aD cs w.heap.size e sz W v xs
section
variable {α : Type} {cs : α -> List Value} {e : TypeId} {sz : Nat} {bt : TypeId} {bx : Value -> List Value} {w : World} {Bt : Nat} {F : List (Nat × TypeId × List Value)} {W : World} {xs : List α}
theorem RB.to (h:RB cs e sz bt bx w Bt F W xs) {W':World} (x:Ext W W'):RB cs e sz bt bx w Bt F W' xs:=by
 obtain ⟨v,h1,h2⟩:=h.tb;exact ⟨h.ext.trans x,fun p hp=>(h.fx p hp).ext x,h.tl,v,h1.ext x,h2.ext x⟩
theorem oW {A B:World} {row:Option Nat} (hg:A.grownBy B row) (hr:∀r,row=some r->∃o:Obj,A.heap[r]?=some o/\o.isCells=false) {b:Nat} {t:TypeId} {cs:List Value} (h:Blk A b t cs):Blk B b t cs:=xM hg hr h
theorem aD.owns {lo:Nat} {A B:World} {v:Value} (h:aD cs lo e sz A v xs) {row:Option Nat} (hg:A.grownBy B row) (hr:∀r,row=some r->∃o:Obj,A.heap[r]?=some o/\o.isCells=false):aD cs lo e sz B v xs:=by
 obtain ⟨h1,h2⟩:=h;refine ⟨h1,?_⟩
 rcases h2 with hn|⟨g,cap,cur,hv,hb,hgg,r⟩
 ·exact .inl hn
 ·exact .inr ⟨g,cap,cur,hv,hb,xM hg hr hgg,r⟩
theorem RB.owns {B0:Nat} (hB:w.heap.size<=B0) {β : Type} (f : β->List α):OwnFrom B0 (fun (b : β) W=>RB cs e sz bt bx w Bt F W (f b)):=fun b A B row h hg hr=>by
 have hr':∀r,row=some r->∃o:Obj,A.heap[r]?=some o/\o.isCells=false:=fun r e=>(hr r e).2;obtain ⟨v,h1,h2⟩:=h.tb;exact ⟨h.ext.grown hg (fun k e=>aTb hB (hr k e).1),fun p hp=>oW hg hr' (h.fx p hp),h.tl,v,oW hg hr' h1,h2.owns hg hr'⟩
theorem cD {A:World} {b:Nat} {t:TypeId} {us:List Value} (h:Blk A b t us) (hte:t≠e) {lo:Nat} {v:Value} (hr:aD cs lo e sz A v xs):some b≠v.ownBlock:=aA5 h hte hr
theorem aD.setBlk {lo:Nat} {A:World} {b:Nat} {t:TypeId} {us:List Value} {v:Value} (h:aD cs lo e sz A v xs) (hb:Blk A b t us) (hte:t≠e) (q:Nat) (u:Value):aD cs lo e sz (A.setCell ⟨b,q,none⟩ u) v xs:=
 ownsRow_setCell_other h (fun e'=>cD hb hte h e'.symm) u
theorem RB.push {W5 W6 W7:World} {v v':Value} {xs':List α} (h:RB cs e sz bt bx w Bt F W5 xs) (hF:∀p∈F,p.2.1≠e/\p.1≠Bt) (hbt:bt≠e) (q:Nat) (hq:(bx v).set q v'=bx v')
  (hv:Blk W5 Bt bt (bx v)) (ho:aD cs w.heap.size e sz W5 v xs) (x6:Ext W5 W6) (hg:W6.grownBy W7 v.ownBlock) (hown:aD cs w.heap.size e sz W7 v' xs') :
  RB cs e sz bt bx w Bt F (W7.setCell ⟨Bt,q,none⟩ v') xs':=by
 have k:∀{b:Nat} {t:TypeId} {us:List Value},t≠e->Blk W5 b t us->Blk W7 b t us:=fun hte hb=>(hb.ext x6).grown hg (cD hb hte ho);have ht:=k hbt hv;have hE:Ext w W7:=(h.ext.trans x6).grown hg (fun k e=>(ho.lt k e).1);refine ⟨hE.setCell h.tl _,fun p hp=>(k (hF p hp).1 (h.fx p hp)).other (hF p hp).2 _,h.tl,v',?_,hown.setBlk ht hbt q v'⟩;rw [<-hq];exact ht.set q v'
theorem aDg {lo:Nat} {A A':World} {v:Value} (x:Ext A A') (ho:aD cs lo e sz A v xs):∀(j:Nat) (o':Obj),v.ownBlock=some j->A'.heap[j]?=some o'->o'.isCells=true:=by
 intro j o' hj h'
 rcases ho.2 with ⟨rfl,_⟩|⟨g,cap,cur,rfl,hb,hg,_⟩
 ·simp [Value.ownBlock] at hj
 ·simp only [Value.ownBlock,aS5] at hj
  subst hj;rw [x.block (hH hg),hg] at h'
  cases h'
  rfl
end
end
theorem rQ (c:Cam) (w:World):R_ 90 #[c.V] w (.bool c.okB):=by
 obtain ⟨cw,ch,zo,ne,de,le,fo⟩:=c
 obtain ⟨b1,h1⟩:=e_ (inB cw 1 12)
 obtain ⟨b2,h2⟩:=e_ (inB ch 1 12)
 obtain ⟨b3,h3⟩:=e_ (inB zo 1 65536)
 obtain ⟨b4,h4⟩:=e_ (inB ne 1 1000000)
 obtain ⟨b5,h5⟩:=e_ (inB le 0 64)
 obtain ⟨b6,h6⟩:=e_ (inB fo 0 1000000)
 have e:(Cam.mk cw ch zo ne de le fo).okB=(b1&&b2&&b3&&b4&&b5&&b6):=by unfold Cam.okB;simp only [h1,h2,h3,h4,h5,h6]
 rw [e];obtain ⟨H1,H2,H3,H4,H5,H6⟩:=h6_ h1 h2 h3 h4 h5 h6;clear h1 h2 h3 h4 h5 h6 e
 show Calls aS7 90 #[.agg #[cw,ch,zo,ne,.bool de,le,fo]] w _
 cases b1
 rotate_left
 cases b2
 rotate_left
 cases b3
 rotate_left
 cases b4
 rotate_left
 cases b5
 rotate_left
 cases b6
 all_goals
  go_enter func90,ntmps90;go_wp2_with (go_at_call 92;with_reducible first|(refine z_ (aH H1.out _) ?_)|(refine z_ (aH H2.out _) ?_)|(refine z_ (aH H3.out _) ?_)|(refine z_ (aH H4.out _) ?_)|(refine z_ (aH H5.out _) ?_)|(refine z_ (aH H6.out _) ?_));go_ret;exact ⟨rfl,X_⟩
theorem cP {c:Cam} (h:c.okB=b) (w:World):R_ 90 #[c.V] w (.bool b):=h▸rQ c w
theorem aKg {z zm:Int} (hq:wrap64 (x*zm)=q) (hi:I64 q) (h:bU q z=r) (w:World) (hp:w.cell? ⟨p,2,none⟩=some (.int .i64 zm)) :
  Z_ 282 #[x,z,.pointer (some ⟨p,0,none⟩)] w (.int .i64 r):=by
 have H:=hid h;clear h;go_enter func282,ntmps282;go_wp2_with (go_at_call 96;refine z_ (cN hi H _) ?_);go_ret;exact ⟨rfl,rfl⟩
theorem aKh {z zm:Int} (hq:wrap64 (x*zm)=q) (hi:I64 q) (h:bU q 256=r) (w:World) (hp:w.cell? ⟨p,2,none⟩=some (.int .i64 zm)) :
  Z_ 283 #[x,z,.pointer (some ⟨p,0,none⟩)] w (.int .i64 r):=by
 have H:=hid h;clear h;go_enter func283,ntmps283;go_wp2_with (go_at_call 96;refine z_ (cN hi H _) ?_);go_ret;exact ⟨rfl,rfl⟩
def aOk (deep:Bool) (p:Nat):Value:=.func (.func (if deep then 282 else 283)) #[] #[.pointer (some ⟨p,0,none⟩)]
theorem jT {a:Int} (ha : -1000000000000<=a/\a<=1000000000000) (h:gK a=c) (w:World):Z_ 214 #[a] w (.int .i64 c):=by
 subst h;obtain ⟨h1,h2⟩:=ha;unfold gK;go_enter func214,ntmps214
 by_cases h:a<0
 ·rw [if_pos h]
  go_wp2;go_ret;exact ⟨rfl,rfl⟩
 ·rw [if_neg h]
  go_wp2;go_ret;exact ⟨rfl,rfl⟩
theorem Blk.alloc {cs:List Value} (h:Blk w g t cs) (o:Obj):Blk (w.alloc o) g t cs:=h.ext ((aTd _).alloc o)
theorem I64.of {n:Int} (h : -m<=n/\n<=m) (hm:m<=1152921504606846976):I64 n:=⟨by omega,by omega⟩
theorem aHe {a b:Int} (ha : -m<=a/\a<=m) : -m<=bU a b/\bU a b<=m:=by
 unfold bU
 split
 ·omega
 ·have h0:0<=m:=by omega
  have e:0<=(b - 1)*m:=aUm (by omega) h0
  have e2:m*b=(b - 1)*m+m:=by grind
  constructor
  ·exact (Int.le_ediv_iff_mul_le (by omega)).2 (by rw [Int.neg_mul];omega)
  ·exact Int.ediv_le_of_le_mul (by omega) (by omega)
theorem xN {c:Cam} (hc:c.Ok) {z l px:Int} (hx : -1000000<=x/\x<=1000000) (hz:1<=z/\z<=1000000) (hl : -16<=l/\l<=16) (hp:1<=px/\px<=12) (hr:c.pj x z l (px*8)=r) (C Cp V P:Nat) (w:World)
  (c2:w.cell? ⟨Cp,2,none⟩=some (.int .i64 c.zoom)) (c5:w.cell? ⟨C,5,none⟩=some (.int .i64 c.lens)) (c6:w.cell? ⟨C,6,none⟩=some (.int .i64 c.focus)) (v2:w.cell? ⟨V,2,none⟩=some (.int .i64 z)) (p0:w.cell? ⟨P,0,none⟩=some (aOk c.deep Cp)) :
  Z_ 269 #[x,l,px,.pointer (some ⟨C,0,none⟩),.pointer (some ⟨V,0,none⟩),.pointer (some ⟨P,0,none⟩)] w (.int .i64 r):=by
 unfold Cam.pj at hr;have q1:=bK (A:=16) (B:=64) (a:=l) (b:=c.lens) hl (by have:=hc.lens;omega)
 obtain ⟨p1,e1⟩:=e_ (l*c.lens)
 rw [e1] at q1 hr;have q2:=bK (A:=16*64) (B:=1000000) (a:=p1) (b:=z - c.focus) q1 (by have:=hc.focus;omega)
 obtain ⟨p2,e2⟩:=e_ (p1*(z - c.focus))
 rw [e2] at q2 hr
 have q3 : -250001<=bU p2 4096/\bU p2 4096<=250001:=by unfold bU;rw [if_neg (by decide)];omega
 obtain ⟨d,e3⟩:=e_ (bU p2 4096)
 rw [e3] at q3 hr;have q4:=bK (A:=1250001) (B:=65536) (a:=x+d) (b:=c.zoom) (by omega) (by have:=hc.zoom;omega)
 obtain ⟨q,e4⟩:=e_ ((x+d)*c.zoom)
 rw [e4] at q4 hr;have q5:=aHe (a:=q) (b:=c.by z) q4
 obtain ⟨t,e5⟩:=e_ (bU q (c.by z))
 rw [e5] at q5 hr;obtain ⟨i2,i4,E3,E5,HR⟩:=h5_ (I64.of q2 (by decide)) (I64.of q4 (by decide)) e3 e5 (show aQ (t+px*16 / 2) (-100000) 100000=r from by rw [show px*16 / 2=px*8 from by omega];exact hr);have b5:=hc.lens;have b6:=hc.focus;have b2:=hc.zoom
 obtain ⟨lens,h1⟩:=e_ c.lens
 obtain ⟨focus,h0⟩:=e_ c.focus
 obtain ⟨zoom,h2⟩:=e_ c.zoom
 rw [h1] at c5 e1 b5;rw [h0] at c6 e2 b6;rw [h2] at c2 e4 b2;have W4:=hid (show wrap64 ((x+d)*zoom)=q by rw [e4];exact aF (by omega) (by omega));clear h1 h0 h2 e3 e5 hr;unfold aOk at p0
 unfold Cam.by at E5
 cases hd:c.deep
 ·rw [hd] at p0 E5
  simp only [Bool.false_eq_true,if_false] at p0 E5;go_enter func269,ntmps269;go_wp2_with (first|(go_at_call 96;refine z_ (cN i2.out E3 _) ?_)|(go_at_call 283;refine z_ (aKh W4 i4.out E5 _ c2) ?_));refine z_ (dI HR _) ?_;go_wp2;go_ret;exact ⟨rfl,rfl⟩
 ·rw [hd] at p0 E5
  simp only [if_true] at p0 E5;go_enter func269,ntmps269;go_wp2_with (first|(go_at_call 96;refine z_ (cN i2.out E3 _) ?_)|(go_at_call 282;refine z_ (aKg W4 i4.out E5 _ c2) ?_));refine z_ (dI HR _) ?_;go_wp2;go_ret;exact ⟨rfl,rfl⟩
theorem oX {n k:Int} (h:wrap64 (k*n)=c) (w:World) (hp:w.cell? ⟨p,0,none⟩=some (.int .i64 k)):Z_ 251 #[n,.pointer (some ⟨p,0,none⟩)] w (.int .i64 c):=by
 go_enter func251,ntmps251;go_wp2;go_ret;exact ⟨cQ h,rfl⟩
theorem aA6 {z a b k:Int} (ha:wrap64 (k*x)=a) (hb:wrap64 (k*y)=b) (hc:wrap64 (k*z)=c) (w:World) (hp:w.cell? ⟨p,0,none⟩=some (.int .i64 k)) (hlt:p<w.heap.size) :
  R_ 249 #[.agg #[x,y,z],.func (.func 251) #[] #[.pointer (some ⟨p,0,none⟩)]] w (.agg #[a,b,c]):=by
 obtain ⟨HA,HB,HC,HP⟩:=h4_ ha hb hc hp;clear ha hb hc hp;go_enter func249,ntmps249;go_wp2;refine aA [([0,1,2,4,5,6,8,9,10],3),([],7),([],11),([12],13)] 13 (w.heap.size+1+1) ?_;refine st_ fun K hK=>?_;go_wp2_with fail;refine z_ (oX HA _ ((bAs (w:=w) X_).1 _ _ hlt |>.trans HP)) ?_;go_wp2;refine hK _ _ (.inr (fun b _ hb=>aTf X_ (by simp;omega))) ?_;clear hK K;refine st_ fun K hK=>?_;go_wp2_with fail;refine z_ (oX HB _ ((bAs (w:=w) X_).1 _ _ hlt |>.trans HP)) ?_;go_wp2;refine hK _ _ (.inr (fun b _ hb=>aTf X_ (by simp;omega))) ?_;clear hK K;refine st_ fun K hK=>?_;go_wp2_with fail;refine z_ (oX HC _ ((bAs (w:=w) X_).1 _ _ hlt |>.trans HP)) ?_;go_wp2;refine hK _ _ (.inr (fun b _ hb=>aTf X_ (by simp;omega))) ?_;clear hK K;refine aK ?_;simp only [aTu,aTl,aS6,aS0,aS1]
 show wpQuiet _ _ _ _ [_] _
 try simp only [Act.put,aTa,aTh,aTg]
 repeat (go_big_quiet_step (fail))
 refine wpQuiet_nil ⟨_,rfl,fun K hK=>?_⟩;go_wp2;refine hK _ _ (.inl (by trivial)) (aC ?_);clear hK K;go_wp2;exact bodyPost_ret (v:=.agg #[a,b,c]) (by simp [results,results249,go_sem, *]) rfl ⟨rfl,S_⟩
theorem jW {z a b k:Int} (ha:wrap64 (k*x)=a) (hb:wrap64 (k*y)=b) (hc:wrap64 (k*z)=c) (w:World) :
  R_ 220 #[.agg #[x,y,z],k] w (.agg #[a,b,c]):=by
 obtain ⟨HA,HB,HC⟩:=h3_ ha hb hc;clear ha hb hc;have h0:∀(fn:Fn) (first cap:Array Value) (w:World),(aXa fn first cap).run aS7 w = .ok (.func fn first cap) w:=fun _ _ _ _=>rfl;go_enter func220,ntmps220;go_wp2_with fail;refine r_ (aA6 HA HB HC _ (by simp [go_sem]) (by simp)) fun w1 h1=>?_;obtain ⟨c1,f1⟩:=h1.cells;have z1:=h1.size;simp only [aS4] at z1
 have q2:w.heap.size+1+1<w1.heap.size:=by omega
 have E1:Ext w w1:=aS8 X_ h1;go_wp2;exact bodyPost_ret (v:=.agg #[a,b,c]) (by simp [results,results220,go_sem, *]) rfl ⟨rfl,S_⟩
theorem aE6 {n i j:Int} (hn:1<=n/\n<=64) (hi:0<=i/\i<=n) (hj:0<=j/\j<=n):0<=i*j/\i*j<=4096:=by
 have h1:=aUm hi.1 hj.1;have h2:=Int.mul_le_mul (show i<=64 by omega) (show j<=64 by omega) hj.1 (by omega);omega
theorem oC {g:Int} (hg:0<=g/\g<=4096) (hx : -1000000<=x/\x<=1000000):(-4096000000<=g*x/\g*x<=4096000000):=bK (A:=4096) (B:=1000000) (by omega) hx
theorem qI (f:Nat->Int) (k:Nat) (hk:k<4) (w:World):(aWo 123 (.agg f) (.int .i64 (k:Nat))).run aS7 w = .ok (.agg #[.int .i64 (f (3*k)),.int .i64 (f (3*k+1)),.int .i64 (f (3*k+2))]) w:=by
 rcases (show k=0\/k=1\/k=2\/k=3 by omega) with rfl|rfl|rfl|rfl <;> kernel_rfl
theorem aA7 (f:Nat->Int) (i j n:Int) (hn:1<=n/\n<=64) (hi:0<=i/\i<=n) (hj:0<=j/\j<=n) (w:World) :
  R_ 166 #[.agg f,i,j,n] w ((evP f i j n).V):=by
 have b0:=aE6 (n:=n) (i:=(n - i)) (j:=(n - j)) hn (by omega) (by omega)
 obtain ⟨g0,e0⟩:=e_ ((n - i)*(n - j))
 rw [e0] at b0;have b1:=aE6 (n:=n) (i:=i) (j:=(n - j)) hn (by omega) (by omega)
 obtain ⟨g1,e1⟩:=e_ (i*(n - j))
 rw [e1] at b1;have b2:=aE6 (n:=n) (i:=(n - i)) (j:=j) hn (by omega) (by omega)
 obtain ⟨g2,e2⟩:=e_ ((n - i)*j)
 rw [e2] at b2;have b3:=aE6 (n:=n) (i:=i) (j:=j) hn (by omega) (by omega)
 obtain ⟨g3,e3⟩:=e_ (i*j)
 rw [e3] at b3;have bn:=aE6 (n:=n) (i:=n) (j:=n) hn (by omega) (by omega)
 obtain ⟨nn,en⟩:=e_ (n*n)
 rw [en] at bn
 obtain ⟨a4,q7⟩:=e_ (cl (f 0))
 have c1:=dB (f 0);rw [q7] at c1;have d7:=oC b0 c1
 obtain ⟨h0,z6⟩:=e_ (g0*a4)
 rw [z6] at d7;obtain ⟨k8,i9⟩:=h2_ q7 (show wrap64 (g0*a4)=h0 by rw [z6];exact aF (by omega) (by omega))
 obtain ⟨a7,x0⟩:=e_ (cl (f 3))
 have c4:=dB (f 3);rw [x0] at c4;have e4:=oC b1 c4
 obtain ⟨h5,z9⟩:=e_ (g1*a7)
 rw [z9] at e4;obtain ⟨l1,j6⟩:=h2_ x0 (show wrap64 (g1*a7)=h5 by rw [z9];exact aF (by omega) (by omega))
 obtain ⟨b4,x6⟩:=e_ (cl (f 6))
 have c7:=dB (f 6);rw [x6] at c7;have e7:=oC b2 c7
 obtain ⟨h8,y2⟩:=e_ (g2*b4)
 rw [y2] at e7;obtain ⟨l4,j9⟩:=h2_ x6 (show wrap64 (g2*b4)=h8 by rw [y2];exact aF (by omega) (by omega))
 obtain ⟨b7,x9⟩:=e_ (cl (f 9))
 have d0:=dB (f 9);rw [x9] at d0;have g4:=oC b3 d0
 obtain ⟨q4,y8⟩:=e_ (g3*b7)
 rw [y8] at g4;obtain ⟨l7,k5⟩:=h2_ x9 (show wrap64 (g3*b7)=q4 by rw [y8];exact aF (by omega) (by omega))
 have d4:evC (f 0) (f 3) (f 6) (f 9) i j n=bU (h0+h5+h8+q4) nn:=by
  unfold evC;rw [q7,x0,x6,x9,e0,e1,e2,e3,en,aU7 a4,aU7 a7,aU7 b4,aU7 b7,z6,z9,y2,y8]
 obtain ⟨g7,i0,i3,i6,I0⟩:=h5_ (show wrap64 (0+h0)=h0 from by rw [bCs];exact aF (by omega) (by omega)) (show wrap64 (h0+h5)=h0+h5 from by exact aF (by omega) (by omega)) (show wrap64 (h0+h5+h8)=h0+h5+h8 from by exact aF (by omega) (by omega)) (show wrap64 (h0+h5+h8+q4)=h0+h5+h8+q4 from by exact aF (by omega) (by omega)) (I64.of (n:=h0+h5+h8+q4) (m:=20000000000) (by omega) (by decide));clear q7 z6 d7 c1 x0 z9 e4 c4 x6 y2 e7 c7 x9 y8 g4 d0
 obtain ⟨a5,q8⟩:=e_ (cl (f 1))
 have c2:=dB (f 1);rw [q8] at c2;have d8:=oC b0 c2
 obtain ⟨h3,z7⟩:=e_ (g0*a5)
 rw [z7] at d8;obtain ⟨k9,j4⟩:=h2_ q8 (show wrap64 (g0*a5)=h3 by rw [z7];exact aF (by omega) (by omega))
 obtain ⟨a8,x1⟩:=e_ (cl (f 4))
 have c5:=dB (f 4);rw [x1] at c5;have e5:=oC b1 c5
 obtain ⟨h6,y0⟩:=e_ (g1*a8)
 rw [y0] at e5;obtain ⟨l2,j7⟩:=h2_ x1 (show wrap64 (g1*a8)=h6 by rw [y0];exact aF (by omega) (by omega))
 obtain ⟨b5,x7⟩:=e_ (cl (f 7))
 have c8:=dB (f 7);rw [x7] at c8;have e8:=oC b2 c8
 obtain ⟨h9,y6⟩:=e_ (g2*b5)
 rw [y6] at e8;obtain ⟨l5,k3⟩:=h2_ x7 (show wrap64 (g2*b5)=h9 by rw [y6];exact aF (by omega) (by omega))
 obtain ⟨b8,z1⟩:=e_ (cl (f 10))
 have d1:=dB (f 10);rw [z1] at d1;have g5:=oC b3 d1
 obtain ⟨q5,y9⟩:=e_ (g3*b8)
 rw [y9] at g5;obtain ⟨l8,k6⟩:=h2_ z1 (show wrap64 (g3*b8)=q5 by rw [y9];exact aF (by omega) (by omega))
 have d5:evC (f 1) (f 4) (f 7) (f 10) i j n=bU (h3+h6+h9+q5) nn:=by
  unfold evC;rw [q8,x1,x7,z1,e0,e1,e2,e3,en,aU7 a5,aU7 a8,aU7 b5,aU7 b8,z7,y0,y6,y9]
 obtain ⟨g8,i1,i4,i7,I1⟩:=h5_ (show wrap64 (0+h3)=h3 from by rw [bCs];exact aF (by omega) (by omega)) (show wrap64 (h3+h6)=h3+h6 from by exact aF (by omega) (by omega)) (show wrap64 (h3+h6+h9)=h3+h6+h9 from by exact aF (by omega) (by omega)) (show wrap64 (h3+h6+h9+q5)=h3+h6+h9+q5 from by exact aF (by omega) (by omega)) (I64.of (n:=h3+h6+h9+q5) (m:=20000000000) (by omega) (by decide));clear q8 z7 d8 c2 x1 y0 e5 c5 x7 y6 e8 c8 z1 y9 g5 d1
 obtain ⟨a6,q9⟩:=e_ (cl (f 2))
 have c3:=dB (f 2);rw [q9] at c3;have d9:=oC b0 c3
 obtain ⟨h4,z8⟩:=e_ (g0*a6)
 rw [z8] at d9;obtain ⟨l0,j5⟩:=h2_ q9 (show wrap64 (g0*a6)=h4 by rw [z8];exact aF (by omega) (by omega))
 obtain ⟨a9,x2⟩:=e_ (cl (f 5))
 have c6:=dB (f 5);rw [x2] at c6;have e6:=oC b1 c6
 obtain ⟨h7,y1⟩:=e_ (g1*a9)
 rw [y1] at e6;obtain ⟨l3,j8⟩:=h2_ x2 (show wrap64 (g1*a9)=h7 by rw [y1];exact aF (by omega) (by omega))
 obtain ⟨b6,x8⟩:=e_ (cl (f 8))
 have c9:=dB (f 8);rw [x8] at c9;have e9:=oC b2 c9
 obtain ⟨q0,y7⟩:=e_ (g2*b6)
 rw [y7] at e9;obtain ⟨l6,k4⟩:=h2_ x8 (show wrap64 (g2*b6)=q0 by rw [y7];exact aF (by omega) (by omega))
 obtain ⟨b9,z2⟩:=e_ (cl (f 11))
 have d2:=dB (f 11);rw [z2] at d2;have g6:=oC b3 d2
 obtain ⟨q6,a3⟩:=e_ (g3*b9)
 rw [a3] at g6;obtain ⟨l9,k7⟩:=h2_ z2 (show wrap64 (g3*b9)=q6 by rw [a3];exact aF (by omega) (by omega))
 have d6:evC (f 2) (f 5) (f 8) (f 11) i j n=bU (h4+h7+q0+q6) nn:=by
  unfold evC;rw [q9,x2,x8,z2,e0,e1,e2,e3,en,aU7 a6,aU7 a9,aU7 b6,aU7 b9,z8,y1,y7,a3]
 obtain ⟨g9,i2,i5,i8,I2⟩:=h5_ (show wrap64 (0+h4)=h4 from by rw [bCs];exact aF (by omega) (by omega)) (show wrap64 (h4+h7)=h4+h7 from by exact aF (by omega) (by omega)) (show wrap64 (h4+h7+q0)=h4+h7+q0 from by exact aF (by omega) (by omega)) (show wrap64 (h4+h7+q0+q6)=h4+h7+q0+q6 from by exact aF (by omega) (by omega)) (I64.of (n:=h4+h7+q0+q6) (m:=20000000000) (by omega) (by decide));clear q9 z8 d9 c3 x2 y1 e6 c6 x8 y7 e9 c9 z2 a3 g6 d2
 have hV:(evP f i j n).V = .agg #[.int .i64 (bU (h0+h5+h8+q4) nn),.int .i64 (bU (h3+h6+h9+q5) nn),.int .i64 (bU (h4+h7+q0+q6) nn)]:=by
  unfold evP V3.V;simp only [d4,d5,d6]
 rw [hV];clear hV d4 d5 d6;obtain ⟨G0,G1,G2,G3⟩:=h4_ b0 b1 b2 b3;have j0:=qI f 0 (by decide);have j1:=qI f 1 (by decide);have j2:=qI f 2 (by decide);have j3:=qI f 3 (by decide);simp only [bBj,aT1,aWz,aWa,bA5,Int.ofNat_eq_natCast,aY7] at j0 j1 j2 j3;have z0:Ext w w:=aTd w;go_enter func166,ntmps166;go_wp2_with fail;have q1:=aTc (w.alloc (.cells f 125)) 122 [(),(),()];have q2:=aTc ((w.alloc (.cells f 125)).alloc (.cells #[(),(),()] 122)) 270 [g0,g1,g2,g3];have q3:=aTc (((w.alloc (.cells f 125)).alloc (.cells #[(),(),()] 122)).alloc (.cells #[g0,g1,g2,g3] 270)) 122 [(),(),()];simp only [aS4] at q1 q2 q3;obtain ⟨Q1,Q2,Q3,X0⟩:=h4_ ((q1.alloc (.cells #[g0,g1,g2,g3] 270)).alloc (.cells #[(),(),()] 122)) (q2.alloc (.cells #[(),(),()] 122)) q3 (show Ext w ((((w.alloc (.cells f 125)).alloc (.cells #[(),(),()] 122)).alloc (.cells #[g0,g1,g2,g3] 270)).alloc (.cells #[(),(),()] 122)) from X_);clear q1 q2 q3 z0
 obtain ⟨W0,d3⟩:=e_ ((((w.alloc (.cells f 125)).alloc (.cells #[(),(),()] 122)).alloc (.cells #[g0,g1,g2,g3] 270)).alloc (.cells #[(),(),()] 122))
 rw [d3] at Q1 Q2 Q3 X0 ⊢;clear d3 e0 e1 e2 e3
 go_loopw [37] (fun i wr=>∃k:Nat,k<=4/\i = .int .i64 (k:Nat)/\Ext w wr/\Blk wr (w.heap.size+1) 122 [(),(),()]/\Blk wr (w.heap.size+2) 270 [g0,g1,g2,g3]/\(k=0->Blk wr (w.heap.size+3) 122 [(),(),()])/\(k=1->Blk wr (w.heap.size+3) 122 [.int .i64 (h0),.int .i64 (h3),.int .i64 (h4)])/\(k=2->Blk wr (w.heap.size+3) 122 [.int .i64 (h0+h5),.int .i64 (h3+h6),.int .i64 (h4+h7)])/\(k=3->Blk wr (w.heap.size+3) 122 [.int .i64 (h0+h5+h8),.int .i64 (h3+h6+h9),.int .i64 (h4+h7+q0)])/\(k=4->Blk wr (w.heap.size+3) 122 [.int .i64 (h0+h5+h8+q4),.int .i64 (h3+h6+h9+q5),.int .i64 (h4+h7+q0+q6)])) (fun i _=>4 - (intOf i).toNat)
 case atStart=>exact ⟨0,by omega,rfl,X0,Q1,Q2,fun _=>Q3.out,fun h=>absurd h (by decide),fun h=>absurd h (by decide),fun h=>absurd h (by decide),fun h=>absurd h (by decide)⟩
 case round=>
  obtain ⟨k,hk,rfl,hx,h1,h2,s0,s1,s2,s3,s4⟩:=hrel;obtain ⟨HX,H1,H2⟩:=h3_ hx h1 h2;have zw:=hx.size;have zr:=h2.lt
  have zq:w.heap.size+1<wr.heap.size:=by omega
  obtain ⟨S0,S1,S2,S3,S4⟩:=h5_ s0 s1 s2 s3 s4;clear hx h1 h2 s0 s1 s2 s3 s4
  rcases (show k=0\/k=1\/k=2\/k=3\/k=4 by omega) with rfl|rfl|rfl|rfl|rfl
  rotate_left 4
  ·have HS:=hid (S4 rfl)
   obtain ⟨a0,a1,a2⟩:=HS.q3;have zs:=HS.lt;have EN:=hid en;clear S0 S1 S2 S3 S4;go_wp2_with fail;refine r_ (aEl I0 I1 I2 rfl rfl rfl _) fun w3 x3=>?_;have D1:=H1.ext x3;have f0:=D1.free 0;have f1:=D1.free 1;have f2:=D1.free 2;have z3:=D1.lt;obtain ⟨k0,k1,k2⟩:=D1.q3;have X5:=HX.trans x3;go_wp2;exact bodyPost_ret (v:=.agg #[.int .i64 (bU (h0+h5+h8+q4) nn),.int .i64 (bU (h3+h6+h9+q5) nn),.int .i64 (bU (h4+h7+q0+q6) nn)]) (by simp [results,results166,go_sem, *]) rfl ⟨rfl,S_⟩
  focus
   have HS:=hid (S0 rfl)
   obtain ⟨a0,a1,a2⟩:=HS.q3
   have zs:=HS.lt;have c0:=H2.cell 0 rfl;clear S0 S1 S2 S3 S4;go_wp2;refine aA [([0,1,3,4,5],2),([],6),([],7),([],8)] 8 (wr.heap.size+1) ?_;refine st_ fun K hK=>?_;go_wp2_with fail;refine r_ (fF k8 k9 l0 _) fun w3 x3=>?_
   have y3:Ext (wr.alloc (.cells #[(f 0),(f 1),(f 2)] 122)) w3:=aS8 (aUa (aTd _)) x3
   go_wp2;refine k_ hK (st_ fun K hK=>?_);go_wp2_with fail;refine r_ (jW i9 j4 j5 _) fun w4 x4=>?_;have y4:=y3.trans x4;go_wp2;refine k_ hK (st_ fun K hK=>?_);go_wp2_with fail;refine r_ (oN g7 g8 g9 _) fun w5 x5=>?_;have y5:=y4.trans x5;go_wp2;refine k_ hK ?_;clear hK K
   have Y5:Ext wr w5:=aS8 (show Ext wr (wr.alloc (.cells #[(f 0),(f 1),(f 2)] 122)) from X_) y5
  rotate_left
  focus
   have HS:=hid (S1 rfl)
   obtain ⟨a0,a1,a2⟩:=HS.q3
   have zs:=HS.lt;have c0:=H2.cell 1 rfl;clear S0 S1 S2 S3 S4;go_wp2;refine aA [([0,1,3,4,5],2),([],6),([],7),([],8)] 8 (wr.heap.size+1) ?_;refine st_ fun K hK=>?_;go_wp2_with fail;refine r_ (fF l1 l2 l3 _) fun w3 x3=>?_
   have y3:Ext (wr.alloc (.cells #[(f 3),(f 4),(f 5)] 122)) w3:=aS8 (aUa (aTd _)) x3
   go_wp2;refine k_ hK (st_ fun K hK=>?_);go_wp2_with fail;refine r_ (jW j6 j7 j8 _) fun w4 x4=>?_;have y4:=y3.trans x4;go_wp2;refine k_ hK (st_ fun K hK=>?_);go_wp2_with fail;refine r_ (oN i0 i1 i2 _) fun w5 x5=>?_;have y5:=y4.trans x5;go_wp2;refine k_ hK ?_;clear hK K
   have Y5:Ext wr w5:=aS8 (show Ext wr (wr.alloc (.cells #[(f 3),(f 4),(f 5)] 122)) from X_) y5
  rotate_left
  focus
   have HS:=hid (S2 rfl)
   obtain ⟨a0,a1,a2⟩:=HS.q3
   have zs:=HS.lt;have c0:=H2.cell 2 rfl;clear S0 S1 S2 S3 S4;go_wp2;refine aA [([0,1,3,4,5],2),([],6),([],7),([],8)] 8 (wr.heap.size+1) ?_;refine st_ fun K hK=>?_;go_wp2_with fail;refine r_ (fF l4 l5 l6 _) fun w3 x3=>?_
   have y3:Ext (wr.alloc (.cells #[(f 6),(f 7),(f 8)] 122)) w3:=aS8 (aUa (aTd _)) x3
   go_wp2;refine k_ hK (st_ fun K hK=>?_);go_wp2_with fail;refine r_ (jW j9 k3 k4 _) fun w4 x4=>?_;have y4:=y3.trans x4;go_wp2;refine k_ hK (st_ fun K hK=>?_);go_wp2_with fail;refine r_ (oN i3 i4 i5 _) fun w5 x5=>?_;have y5:=y4.trans x5;go_wp2;refine k_ hK ?_;clear hK K
   have Y5:Ext wr w5:=aS8 (show Ext wr (wr.alloc (.cells #[(f 6),(f 7),(f 8)] 122)) from X_) y5
  rotate_left
  focus
   have HS:=hid (S3 rfl)
   obtain ⟨a0,a1,a2⟩:=HS.q3
   have zs:=HS.lt;have c0:=H2.cell 3 rfl;clear S0 S1 S2 S3 S4;go_wp2;refine aA [([0,1,3,4,5],2),([],6),([],7),([],8)] 8 (wr.heap.size+1) ?_;refine st_ fun K hK=>?_;go_wp2_with fail;refine r_ (fF l7 l8 l9 _) fun w3 x3=>?_
   have y3:Ext (wr.alloc (.cells #[(f 9),(f 10),(f 11)] 122)) w3:=aS8 (aUa (aTd _)) x3
   go_wp2;refine k_ hK (st_ fun K hK=>?_);go_wp2_with fail;refine r_ (jW k5 k6 k7 _) fun w4 x4=>?_;have y4:=y3.trans x4;go_wp2;refine k_ hK (st_ fun K hK=>?_);go_wp2_with fail;refine r_ (oN i6 i7 i8 _) fun w5 x5=>?_;have y5:=y4.trans x5;go_wp2;refine k_ hK ?_;clear hK K
   have Y5:Ext wr w5:=aS8 (show Ext wr (wr.alloc (.cells #[(f 9),(f 10),(f 11)] 122)) from X_) y5
  rotate_left
  all_goals
   have D1:=H1.ext Y5;have D2:=H2.ext Y5;have D3:=HS.ext Y5;have f0:=D3.free 0;have f1:=D3.free 1;have f2:=D3.free 2;have z3:=D3.lt
   obtain ⟨k0,k1,k2⟩:=D3.q3
   have X5:=HX.trans Y5
   have n1:w.heap.size+1≠w.heap.size+3:=by omega
   have n2:w.heap.size+2≠w.heap.size+3:=by omega
  ·obtain ⟨G3,z4,z5,GX⟩:=h4_ (((D3.set 0 (.int .i64 (h0))).set 1 (.int .i64 (h3))).set 2 (.int .i64 (h4))) (((D1.other (a:=⟨w.heap.size+3,0,none⟩) n1 (.int .i64 (h0))).other (a:=⟨w.heap.size+3,1,none⟩) n1 (.int .i64 (h3))).other (a:=⟨w.heap.size+3,2,none⟩) n1 (.int .i64 (h4))) (((D2.other (a:=⟨w.heap.size+3,0,none⟩) n2 (.int .i64 (h0))).other (a:=⟨w.heap.size+3,1,none⟩) n2 (.int .i64 (h3))).other (a:=⟨w.heap.size+3,2,none⟩) n2 (.int .i64 (h4))) (show Ext w (((w5.setCell ⟨w.heap.size+3,0,none⟩ (.int .i64 (h0))).setCell ⟨w.heap.size+3,1,none⟩ (.int .i64 (h3))).setCell ⟨w.heap.size+3,2,none⟩ (.int .i64 (h4))) from S_);clear D1 D2 D3 X5 Y5 y3 y4 y5 x3 x4 x5 a0 a1 a2 c0;refine st_ fun K hK=>?_;go_wp2;refine l_ hK (aC ?_);clear hK K;go_wp2;go_roundw
   case rel=>exact ⟨1,by omega,by go_num,GX,z4,z5,fun h=>absurd h (by decide),fun _=>G3.out,fun h=>absurd h (by decide),fun h=>absurd h (by decide),fun h=>absurd h (by decide)⟩
   case measure=>simp [intOf]
  ·obtain ⟨G3,z4,z5,GX⟩:=h4_ (((D3.set 0 (.int .i64 (h0+h5))).set 1 (.int .i64 (h3+h6))).set 2 (.int .i64 (h4+h7))) (((D1.other (a:=⟨w.heap.size+3,0,none⟩) n1 (.int .i64 (h0+h5))).other (a:=⟨w.heap.size+3,1,none⟩) n1 (.int .i64 (h3+h6))).other (a:=⟨w.heap.size+3,2,none⟩) n1 (.int .i64 (h4+h7))) (((D2.other (a:=⟨w.heap.size+3,0,none⟩) n2 (.int .i64 (h0+h5))).other (a:=⟨w.heap.size+3,1,none⟩) n2 (.int .i64 (h3+h6))).other (a:=⟨w.heap.size+3,2,none⟩) n2 (.int .i64 (h4+h7))) (show Ext w (((w5.setCell ⟨w.heap.size+3,0,none⟩ (.int .i64 (h0+h5))).setCell ⟨w.heap.size+3,1,none⟩ (.int .i64 (h3+h6))).setCell ⟨w.heap.size+3,2,none⟩ (.int .i64 (h4+h7))) from S_);clear D1 D2 D3 X5 Y5 y3 y4 y5 x3 x4 x5 a0 a1 a2 c0;refine st_ fun K hK=>?_;go_wp2;refine l_ hK (aC ?_);clear hK K;go_wp2;go_roundw
   case rel=>exact ⟨2,by omega,by go_num,GX,z4,z5,fun h=>absurd h (by decide),fun h=>absurd h (by decide),fun _=>G3.out,fun h=>absurd h (by decide),fun h=>absurd h (by decide)⟩
   case measure=>simp [intOf]
  ·obtain ⟨G3,z4,z5,GX⟩:=h4_ (((D3.set 0 (.int .i64 (h0+h5+h8))).set 1 (.int .i64 (h3+h6+h9))).set 2 (.int .i64 (h4+h7+q0))) (((D1.other (a:=⟨w.heap.size+3,0,none⟩) n1 (.int .i64 (h0+h5+h8))).other (a:=⟨w.heap.size+3,1,none⟩) n1 (.int .i64 (h3+h6+h9))).other (a:=⟨w.heap.size+3,2,none⟩) n1 (.int .i64 (h4+h7+q0))) (((D2.other (a:=⟨w.heap.size+3,0,none⟩) n2 (.int .i64 (h0+h5+h8))).other (a:=⟨w.heap.size+3,1,none⟩) n2 (.int .i64 (h3+h6+h9))).other (a:=⟨w.heap.size+3,2,none⟩) n2 (.int .i64 (h4+h7+q0))) (show Ext w (((w5.setCell ⟨w.heap.size+3,0,none⟩ (.int .i64 (h0+h5+h8))).setCell ⟨w.heap.size+3,1,none⟩ (.int .i64 (h3+h6+h9))).setCell ⟨w.heap.size+3,2,none⟩ (.int .i64 (h4+h7+q0))) from S_);clear D1 D2 D3 X5 Y5 y3 y4 y5 x3 x4 x5 a0 a1 a2 c0;refine st_ fun K hK=>?_;go_wp2;refine l_ hK (aC ?_);clear hK K;go_wp2;go_roundw
   case rel=>exact ⟨3,by omega,by go_num,GX,z4,z5,fun h=>absurd h (by decide),fun h=>absurd h (by decide),fun h=>absurd h (by decide),fun _=>G3.out,fun h=>absurd h (by decide)⟩
   case measure=>simp [intOf]
  ·obtain ⟨G3,z4,z5,GX⟩:=h4_ (((D3.set 0 (.int .i64 (h0+h5+h8+q4))).set 1 (.int .i64 (h3+h6+h9+q5))).set 2 (.int .i64 (h4+h7+q0+q6))) (((D1.other (a:=⟨w.heap.size+3,0,none⟩) n1 (.int .i64 (h0+h5+h8+q4))).other (a:=⟨w.heap.size+3,1,none⟩) n1 (.int .i64 (h3+h6+h9+q5))).other (a:=⟨w.heap.size+3,2,none⟩) n1 (.int .i64 (h4+h7+q0+q6))) (((D2.other (a:=⟨w.heap.size+3,0,none⟩) n2 (.int .i64 (h0+h5+h8+q4))).other (a:=⟨w.heap.size+3,1,none⟩) n2 (.int .i64 (h3+h6+h9+q5))).other (a:=⟨w.heap.size+3,2,none⟩) n2 (.int .i64 (h4+h7+q0+q6))) (show Ext w (((w5.setCell ⟨w.heap.size+3,0,none⟩ (.int .i64 (h0+h5+h8+q4))).setCell ⟨w.heap.size+3,1,none⟩ (.int .i64 (h3+h6+h9+q5))).setCell ⟨w.heap.size+3,2,none⟩ (.int .i64 (h4+h7+q0+q6))) from S_);clear D1 D2 D3 X5 Y5 y3 y4 y5 x3 x4 x5 a0 a1 a2 c0;refine st_ fun K hK=>?_;go_wp2;refine l_ hK (aC ?_);clear hK K;go_wp2;go_roundw
   case rel=>exact ⟨4,by omega,by go_num,GX,z4,z5,fun h=>absurd h (by decide),fun h=>absurd h (by decide),fun h=>absurd h (by decide),fun h=>absurd h (by decide),fun _=>G3.out⟩
   case measure=>simp [intOf]
@[go_sem] theorem aQ9 {a:Addr} {m:Mode} (fn:Fn) (first captured:Array Value):(store a (.func fn first captured) m).run P w=stored P w a (.func fn first captured) m:=run_store P w a _ m rfl
theorem xO (c:Cam) (w:World):Calls aS7 268 #[c.V] w fun e w'=>∃B,e = .returned (aOk c.deep B)/\B<w'.heap.size/\w'.cell? ⟨B,2,none⟩=some (.int .i64 c.zoom)/\Ext w w':=by
 obtain ⟨cw,ch,zo,ne,de,le,fo⟩:=c;have h0:∀(fn:Fn) (first cap:Array Value) (w:World),(aXa fn first cap).run aS7 w = .ok (.func fn first cap) w:=fun _ _ _ _=>rfl
 show Calls aS7 268 #[.agg #[cw,ch,zo,ne,.bool de,le,fo]] w _
 cases de
 ·go_enter func268,ntmps268
  go_wp2;go_ret;exact ⟨w.heap.size,rfl,by simp,by simp [go_sem],X_⟩
 ·go_enter func268,ntmps268
  go_wp2;go_ret;exact ⟨w.heap.size,rfl,by simp,by simp [go_sem],X_⟩
theorem aHf {N:Nat} (w:World) (hB:N<=B) (t u v:Value):aN 0 N w (((w.drew.setCell ⟨B,0,none⟩ t).setCell ⟨B,1,none⟩ u).setCell ⟨B,2,none⟩ v):=fun k _ hk=>by
 have hk:B≠k:=by omega
 rw [aTe _ _ _ _ (by exact hk.symm),aTe _ _ _ _ (by exact hk.symm),aTe _ _ _ _ (by exact hk.symm)]
 rfl
theorem aE7 (c:Cam) (x y z lx ly:Int) (h:c.prB ⟨x,y,z⟩ lx ly=true) (w:World) :
  R_ 245 #[c.V,.agg #[x,y,z],lx,ly] w (.tuple #[(c.pr ⟨x,y,z⟩ lx ly).V,.bool true]):=by
 unfold Cam.prB at h;simp only [aTi,decide_eq_true_eq] at h;obtain ⟨⟨⟨⟨hc,hv⟩,hx⟩,hy⟩,hz⟩:=h;have OK:=Cam.okB_iff.1 hc;have h5:=aBv.1 hv;have q0:=aG.1 hx;have q1:=aG.1 hy;have hn:=OK.near
 obtain ⟨px,h3⟩:=e_ (c.pj x z lx (c.w*8))
 obtain ⟨py,h4⟩:=e_ (c.pj y z ly (c.h*8))
 have hV:(c.pr ⟨x,y,z⟩ lx ly).V = .agg #[px,py,z]:=by
  unfold Cam.pr V3.V;simp only [h3,h4]
 rw [hV];obtain ⟨HC,HV,q4,q5,HO,P1,P2,VX,VY⟩:=h9_ hc hv hx hy OK h3 h4 h5.1 h5.2.1;obtain ⟨VZ,LX,LY,WB,HB⟩:=h5_ (show 1<=z/\z<=1000000 by omega) q0 q1 OK.w OK.h;have q8:decide (z<c.near)=false:=decide_eq_false (by omega);clear hc hv hx hy OK h5 q0 q1 hn h3 h4 hV hz;have q6:∀(fn:Fn) (first cap:Array Value) (w:World),(aXa fn first cap).run aS7 w = .ok (.func fn first cap) w:=fun _ _ _ _=>rfl;have h7:=aTc w 35 c;have h1:=aTc (w.alloc (.cells c 35)) 122 [x,y,z];have h2:=aTc ((w.alloc (.cells c 35)).alloc (.cells #[x,y,z] 122)) 122 [(),(),()];simp only [aS4] at h1 h2;obtain ⟨B0,B1,B2,Y0⟩:=h4_ ((h7.alloc (.cells #[x,y,z] 122)).alloc (.cells #[(),(),()] 122)) (h1.alloc (.cells #[(),(),()] 122)) h2 (show Ext w (((w.alloc (.cells c 35)).alloc (.cells #[x,y,z] 122)).alloc (.cells #[(),(),()] 122)) from X_);clear h7 h1 h2
 show Calls aS7 245 #[.agg c,.agg #[x,y,z],lx,ly] w _
 go_enter func245,ntmps245;go_wp2_with fail;refine r_ (cP HC.out _) fun w1 x1=>?_;obtain ⟨C0,C1,C2,Y1⟩:=h4_ (B0.out.ext x1) (B1.out.ext x1) (B2.out.ext x1) (Y0.out.trans x1);obtain ⟨v0,v1,v2⟩:=C1.out.q3;have c3:=C0.out.cell 3 rfl;have z0:=C0.out.lt;have z1:=C1.out.lt;clear B0 B1 B2 Y0 x1;go_wp2_with fail;refine r_ (dZ (x:=x) (y:=y) (z:=z) _) fun w2 x2=>?_;rw [HV.out];obtain ⟨D0,D1,D2,Y2⟩:=h4_ (C0.out.ext x2) (C1.out.ext x2) (C2.out.ext x2) (Y1.out.trans x2);have zx:=x2.size;clear C0 C1 C2 Y1 v0 v1 v2 c3 x2;have v2:=D1.out.cell 2 rfl;obtain ⟨c0,c1,c2,c3,c4,c5,c6⟩:=D0.out.q7;go_wp2_with (go_at_call 92;with_reducible first|(refine z_ (aH q4.out _) ?_)|(refine z_ (aH q5.out _) ?_));refine (xO c _).mono ?_;rintro e w3 ⟨Cp,rfl,h6,h8,x3⟩
 obtain ⟨FN,h0⟩:∃FN:Fn,aOk c.deep Cp = .func FN #[] #[.pointer (some ⟨Cp,0,none⟩)]:=⟨_,rfl⟩
 rw [h0];have HF:=hid h0;have y4:Ext w3 (w3.alloc (.cells #[.func FN #[] #[.pointer (some ⟨Cp,0,none⟩)]] 147)):=X_;have hq:=(aTc w3 147 [.func FN #[] #[.pointer (some ⟨Cp,0,none⟩)]]).cell 0 rfl;obtain ⟨E0,E1,E2⟩:=h3_ ((D0.out.ext x3).ext y4) ((D1.out.ext x3).ext y4) ((D2.out.ext x3).ext y4);have cz:=(y4.cells.1 _ _ h6).trans h8;have Y4:=hid (Y2.out.trans (x3.trans y4));have zs:=x3.size;obtain ⟨HQ,CZ⟩:=h2_ hq cz;clear h0 h6 h8 x3 D0 D1 D2 Y2 v2 c0 c1 c2 c3 c4 c5 c6 hq cz y4;go_upto_region 5 with fail
 obtain ⟨w4,h9⟩:=e_ (w3.alloc (.cells #[.func FN #[] #[.pointer (some ⟨Cp,0,none⟩)]] 147))
 rw [h9] at E0 E1 E2 CZ HQ Y4 ⊢;clear h9;obtain ⟨c0,c1⟩:=E0.out.q2;obtain ⟨v0,v1,v2⟩:=E1.out.q3;have z4:=E2.out.lt;have f0:=E2.out.free 0;have f1:=E2.out.free 1;have f2:=E2.out.free 2;obtain ⟨k0,k1,k2⟩:=E2.out.q3;refine aA [([0,1,2,3,4,5,7,8,9,10,11,12,14,15],6),([],13),([16],17),([],18)] 18 (w.heap.size+2) ?_;refine st_ fun K hK=>?_;go_wp2_with fail;refine z_ (xN HO.out VX.out VZ.out LX.out WB.out P1.out w.heap.size Cp (w.heap.size+1) w3.heap.size w4.drew CZ.out (E0.out.cell 5 rfl) (E0.out.cell 6 rfl) v2 (HQ.out.trans (congrArg some HF.out.symm))) ?_;go_wp2;refine hK _ _ (.inr (fun _ _ _=>rfl)) ?_;clear hK K;refine st_ fun K hK=>?_;go_wp2_with fail;refine z_ (xN HO.out VY.out VZ.out LY.out HB.out P2.out w.heap.size Cp (w.heap.size+1) w3.heap.size w4.drew CZ.out (E0.out.cell 5 rfl) (E0.out.cell 6 rfl) v2 (HQ.out.trans (congrArg some HF.out.symm))) ?_;go_wp2;refine hK _ _ (.inr (fun _ _ _=>rfl)) ?_;clear hK K;refine st_ fun K hK=>?_;go_wp2;refine hK _ _ (.inr (aHf _ (aS3 _) _ _ _)) ?_;clear hK K;refine st_ fun K hK=>?_;go_wp2;refine l_ hK (aC ?_);clear hK K;have hX:=Y4.out;go_wp2;exact bodyPost_ret (v:=.tuple #[.agg #[px,py,z],.bool true]) (by simp [results,results245,go_sem, *]) rfl ⟨rfl,S_⟩
theorem aHg (c:Cam) (x y z lx ly:Int) (h:c.prB ⟨x,y,z⟩ lx ly=false) (w:World) :
  R_ 245 #[c.V,.agg #[x,y,z],lx,ly] w (.tuple #[.agg #[(),(),()],.bool false]):=by
 unfold Cam.prB at h
 obtain ⟨b1,h1⟩:=e_ c.okB
 obtain ⟨b2,h2⟩:=e_ (dJ x y z)
 obtain ⟨b3,h3⟩:=e_ (inB lx (-16) 16)
 obtain ⟨b4,h4⟩:=e_ (inB ly (-16) 16)
 obtain ⟨b5,h5⟩:=e_ (decide (c.near<=z))
 simp only [h1,h2,h3,h4,h5] at h
 have h6:decide (z<c.near) = !b5:=by
  rw [<-h5]
  by_cases q:c.near<=z
  ·rw [decide_eq_true q,decide_eq_false (by omega)];rfl
  ·rw [decide_eq_false q,decide_eq_true (by omega)];rfl
 obtain ⟨HC,HV,h9,q0⟩:=h4_ h1 h2 h3 h4;clear h1 h2 h3 h4 h5;have h8:=aTc w 35 c;have h0:=aTc (w.alloc (.cells c 35)) 122 [x,y,z];have h7:=aTc ((w.alloc (.cells c 35)).alloc (.cells #[x,y,z] 122)) 122 [(),(),()];simp only [aS4] at h0 h7;obtain ⟨B0,B1,B2,Y0⟩:=h4_ ((h8.alloc (.cells #[x,y,z] 122)).alloc (.cells #[(),(),()] 122)) (h0.alloc (.cells #[(),(),()] 122)) h7 (show Ext w (((w.alloc (.cells c 35)).alloc (.cells #[x,y,z] 122)).alloc (.cells #[(),(),()] 122)) from X_);clear h8 h0 h7
 show Calls aS7 245 #[.agg c,.agg #[x,y,z],lx,ly] w _
 go_enter func245,ntmps245;go_wp2_with fail;refine r_ (cP HC.out _) fun w1 x1=>?_
 cases b1
 ·have C2:=B2.out.ext x1
  have f0:=C2.free 0;have f1:=C2.free 1;have f2:=C2.free 2;obtain ⟨k0,k1,k2⟩:=C2.q3;have z2:=C2.lt;have hX:=Y0.out.trans x1;go_wp2;exact bodyPost_ret (v:=.tuple #[.agg #[(),(),()],.bool false]) (by simp [results,results245,go_sem, *]) rfl ⟨rfl,S_⟩
 ·have C0:=hid (B0.out.ext x1)
  obtain ⟨C1,C2,Y1⟩:=h3_ (B1.out.ext x1) (B2.out.ext x1) (Y0.out.trans x1);obtain ⟨v0,v1,v2⟩:=C1.out.q3;have z0:=C0.out.lt;have z1:=C1.out.lt;clear B0 B1 B2 Y0 x1;go_wp2_with fail;refine r_ (dZ (x:=x) (y:=y) (z:=z) _) fun w2 x2=>?_;rw [HV.out];have D0:=C0.out.ext x2;have D1:=C1.out.ext x2;have D2:=C2.out.ext x2;have hX:=Y1.out.trans x2;have c3:=D0.cell 3 rfl;have q2:=D1.cell 2 rfl;have f0:=D2.free 0;have f1:=D2.free 1;have f2:=D2.free 2;obtain ⟨k0,k1,k2⟩:=D2.q3;have y0:=D0.lt;have y1:=D1.lt;have y2:=D2.lt;clear C0 C1 C2 Y1 v0 v1 v2 x2 D0 D1 D2
  cases b2
  rotate_left
  cases b3
  rotate_left
  cases b4
  rotate_left
  cases b5
  rotate_left
  ·cases h
  all_goals
   try simp only [Bool.not_false,Bool.not_true] at h6
   go_wp2_with (go_at_call 92;with_reducible first|(refine z_ (aH h9.out _) ?_)|(refine z_ (aH q0.out _) ?_));exact bodyPost_ret (v:=.tuple #[.agg #[(),(),()],.bool false]) (by simp [results,results245,go_sem, *]) rfl ⟨rfl,S_⟩
def mB (a:Act):List (Nat×Value)->Act
 | []=>a
 | (d,v)::r=>mB (a.put (some d) v) r
theorem aI8 (a:Act) (d:Nat) (v:Value) (i:Nat):(a.put (some d) v).tmps[i]?=if d=i then (a.tmps[i]?).map (fun _=>v) else a.tmps[i]?:=by
 show (a.tmps.setIfInBounds d v)[i]?=_
 rw [aX2]
 split
 ·rename_i e
  subst e
  split
  ·rename_i h
   rw [aWr h]
   rfl
  ·rename_i h
   rw [aZa (by omega)]
   rfl
 ·rfl
theorem aKi:∀(L:List (Nat×Value)) (a:Act),(mB a L).tmps.size=a.tmps.size
 | [],_=>rfl
 | (d,v)::r,a=>by
  unfold mB;rw [aKi r]
  show (a.tmps.setIfInBounds d v).size=_
  rw [Array.size_setIfInBounds]
theorem lI:∀(L:List (Nat×Value)) (a:Act),(mB a L).defers=a.defers
 | [],_=>rfl
 | (d,v)::r,a=>by
  unfold mB;rw [lI r]
  rfl
theorem sP (us:Nat->Value) (i:Nat):∀(D:List Nat) (a:Act),(mB a (D.map fun d=>(d,us d))).tmps[i]?=if i∈D then (a.tmps[i]?).map (fun _=>us i) else a.tmps[i]?
 | [],a=>by simp [mB]
 | d::D,a=>by
  rw [aVe];unfold mB;rw [sP us i D,aI8]
  by_cases e:d=i
  ·subst e
   rw [if_pos rfl,if_pos (aWc ..)]
   cases a.tmps[d]? <;> simp
  ·rw [if_neg e]
   by_cases h:i∈D
   ·rw [if_pos h,if_pos (aV1 _ h)]
   ·rw [if_neg h,if_neg (by simp [h];omega)]
theorem iW {α β : Type} {f : α->β}:∀{L:List α},(L.map f).Nodup->∀{x y : α},x∈L->y∈L->f x=f y->x=y
 | [],_,_,_,hx,_,_=>nomatch hx
 | a::L,h,x,y,hx,hy,e=>by
  rw [aVe,List.nodup_cons] at h
  rcases aTo.1 hx with rfl|hx'
  ·rcases aTo.1 hy with rfl|hy'
   ·rfl
   ·exact absurd (aU2.2 ⟨y,hy',e.symm⟩) h.1
  ·rcases aTo.1 hy with rfl|hy'
   ·exact absurd (aU2.2 ⟨x,hx',e⟩) h.1
   ·exact iW h.2 hx' hy' e
theorem aI9 {b:Act} (h1:∀i:Nat,a.tmps[i]?=b.tmps[i]?) (h2:a.defers=b.defers):a=b:=by
 cases a
 cases b
 simp only at h1 h2;subst h2
 congr 1
 exact aY5 h1
theorem aMb (us:Nat->Value) (D:List Nat) (a:Act) {d:Nat} (hd:d∈D) (v:Value):(mB a (D.map fun d=>(d,us d))).put (some d) v=mB a (D.map fun j=>(j,if j=d then v else us j)):=by
 refine aI9 (fun i=>?_) ?_
 ·rw [aI8,sP,sP (fun j=>if j=d then v else us j)]
  by_cases e:d=i
  ·subst e
   rw [if_pos rfl,if_pos hd,if_pos hd]
   cases a.tmps[d]? <;> simp
  ·rw [if_neg e]
   by_cases h:i∈D
   ·rw [if_pos h,if_pos h,if_neg (Ne.symm e)]
   ·rw [if_neg h,if_neg h]
 ·show (mB a (D.map fun d=>(d,us d))).defers=_
  rw [lI,lI]
theorem aKj (D:List Nat) (a:Act):mB a (D.map fun d=>(d,a.tmps.getD d undef))=a:=by
 refine aI9 (fun i=>?_) (lI _ _);rw [sP (fun d=>a.tmps.getD d undef)]
 split
 ·cases h:a.tmps[i]? with
  | none=>rfl
  | some x=>simp [Array.getD_eq_getD_getElem?,h]
 ·rfl
theorem vF (i:Nat):∀(T:List Nat) (l:Array Bool),(eJ T l)[i]?=if i∈T then (l[i]?).map (fun _=>true) else l[i]?
 | [],l=>by simp [eJ]
 | t::T,l=>by
  unfold eJ;rw [vF i T,aX2]
  by_cases e:t=i
  ·subst e
   rw [if_pos rfl,if_pos (aWc ..)]
   by_cases h:t<l.size
   ·rw [if_pos h,aWr h];split <;> rfl
   ·rw [if_neg h,aZa (by omega)];split <;> rfl
  ·rw [if_neg e]
   by_cases h:i∈T
   ·rw [if_pos h,if_pos (aV1 _ h)]
   ·rw [if_neg h,if_neg (by simp [h];omega)]
structure aMc where
 op:Nat
 dst:Nat
 good:Value->World->Prop
def wL (ops:Array Oper):Nat->Array Bool->List Nat->Bool
 | 0,_,R=>R.isEmpty
 | n+1,l,R=>(aUt .any ops l).all (fun i=>R.contains i&&wL ops n (l.setIfInBounds i true) (R.erase i)) && !(aUt .any ops l).isEmpty
theorem aKk {N:Nat} {w0:World} {l:Array Bool} (T:List Nat) (hB:(aWq ops&&fV .any ops z&&sE ops z T l)=true) (hS:aN 0 N w0 w)
  (h:wpQuiet P ops (fun w'=>∃d,w'=iE N w0 d) (fun a'=>wpZ P ops (NoPanic Q) N w0 z fuel (eJ T l) a' w) (T.filterMap (ops[·]?)) a):wpZ P ops (NoPanic Q) N w0 z (T.length+fuel) l a w:=by
 simp only [aTi] at hB;obtain ⟨⟨h1,h2⟩,h3⟩:=hB;exact pJ h1 h2 ⟨_,pI hS⟩ T l a h3 (fun a' hk=>hk) h
section
variable {P : Program} {ops : Array Oper} {Q : Exit -> Act -> World -> Prop} {S : World -> Prop} {z fuel : Nat} {w0 : World} {a : Act} {l0 : Array Bool} {B : List aMc}
theorem aB0 (hnd:(B.map (·.op)).Nodup) (hS:∀w',Ext w0 w'->S w')
  (hst:∀b∈B,∀v w w',b.good v w->Ext w w'->b.good v w')
  (hsp:∀b∈B,∀(us:Nat->Value) (w1:World),Ext w0 w1->∃o,ops[b.op]?=some o/\∀K:Act->World->Prop,(∀v w',Ext w1 w'->b.good v w'->(∀c∈B,∀u,c.good u w1->v≠u)->K ((mB a ((B.map (·.dst)).map fun d=>(d,us d))).put (some b.dst) v) w')->wpList P ops (Exit.then K Q) [o] (mB a ((B.map (·.dst)).map fun d=>(d,us d))) w1)
  (hdd:(B.map (·.dst)).Nodup)
  (hend:∀(us:Nat->Value) (w1:World),Ext w0 w1->(∀b∈B,b.good (us b.dst) w1)->(∀b∈B,∀c∈B,b.op≠c.op->us b.dst≠us c.dst)->jZ P .any ops Q S z fuel (eJ (B.map (·.op)) l0) (mB a ((B.map (·.dst)).map fun d=>(d,us d))) w1) :
  ∀(n:Nat) (R:List Nat) (l:Array Bool) (us:Nat->Value) (w:World),n=R.length->R.Nodup->(∀i∈R,i∈B.map (·.op))->wL ops n l R=true->(∀i,l[i]?=if i∈B.map (·.op)/\i∉R then (l0[i]?).map (fun _=>true) else l0[i]?)->Ext w0 w->(∀b∈B,b.op∉R->b.good (us b.dst) w)->(∀b∈B,∀c∈B,b.op∉R->c.op∉R->b.op≠c.op->us b.dst≠us c.dst) ->
   jZ P .any ops Q S z (n+fuel) l (mB a ((B.map (·.dst)).map fun d=>(d,us d))) w
 | 0,R,l,us,w,hn,_,_,_,hl,hw,hg,hp=>by
  obtain rfl:R=[]:=List.length_eq_zero_iff.1 hn.symm
  have e:l=eJ (B.map (·.op)) l0:=aY5 fun i=>by
   rw [hl i,vF]
   by_cases h:i∈B.map (·.op)
   ·rw [if_pos ⟨h,aTj⟩,if_pos h]
   ·rw [if_neg (fun h'=>h h'.1),if_neg h]
  rw [aT1,e];exact hend us w hw (fun b hb=>hg b hb aTj) fun b hb c hc hne=>hp b hb c hc aTj aTj hne
 | n+1,R,l,us,w,hn,hR,hRB,hck,hl,hw,hg,hp=>by
  unfold wL at hck;simp only [aTi,aUh] at hck;obtain ⟨hall,hne⟩:=hck;rw [Nat.succ_add];refine ⟨fun h0=>?_,fun i hi=>?_⟩
  ·rw [h0] at hne;cases hne
  ·obtain ⟨hiR,hrec⟩:=hall i hi
   have hiR:i∈R:=by simpa using hiR
   obtain ⟨b,hb,rfl⟩:=aU2.1 (hRB i hiR);obtain ⟨o,ho,hK⟩:=hsp b hb us w hw
   have ht:=hK (fun a' w'=>(b.op=z\/S w')/\jZ P .any ops Q S z (n+fuel) (l.setIfInBounds b.op true) a' w') (fun v w' hx hgv hfr=>by
    have h7:=hw.trans hx;refine ⟨.inr (hS _ h7),?_⟩;rw [aMb us _ _ (aU2.2 ⟨b,hb,rfl⟩)];refine aB0 hnd hS hst hsp hdd hend n (R.erase b.op) (l.setIfInBounds b.op true) (fun j=>if j=b.dst then v else us j) w' ?_ (hR.erase _) (fun j hj=>hRB j (List.mem_of_mem_erase hj)) hrec (fun j=>?_) h7 (fun c hc hcR=>?_) (fun c hc e he hcR heR hne=>?_)
    ·rw [List.length_erase_of_mem hiR];omega
    ·rw [aX2]
     by_cases e:b.op=j
     ·subst e
      have hc:b.op∈B.map (·.op)/\b.op∉R.erase b.op:=⟨hRB _ hiR,hR.not_mem_erase⟩
      rw [if_pos rfl,if_pos hc];have h0:=hl b.op;rw [if_neg (fun h=>h.2 hiR)] at h0
      by_cases hs:b.op<l.size
      ·rw [if_pos hs]
       rw [aWr hs] at h0;rw [<-h0]
       rfl
      ·rw [if_neg hs]
       rw [aZa (by omega)] at h0;rw [<-h0]
       rfl
     ·rw [if_neg e,hl j]
      have:(j∉R.erase b.op)↔(j∉R):=by
       rw [bAe (Ne.symm e)]
      simp only [this]
    ·by_cases e:c=b
     ·subst e
      show c.good (if c.dst=c.dst then v else us c.dst) w'
      rw [if_pos rfl];exact hgv
     ·have hne:c.dst≠b.dst:=fun h=>e (iW hdd hc hb h)
      have h5:c.op≠b.op:=fun h=>e (iW hnd hc hb h)
      show c.good (if c.dst=b.dst then v else us c.dst) w'
      rw [if_neg hne];refine hst c hc _ _ _ (hg c hc fun h=>hcR ?_) hx;exact (bAe h5).2 h
    ·have h4:∀x∈B,x.op∉R.erase b.op->x≠b->x.op∉R:=fun x hx' hxR hxb h=>hxR ((bAe fun h2=>hxb (iW hnd hx' hb h2)).2 h)
     show (if c.dst=b.dst then v else us c.dst)≠(if e.dst=b.dst then v else us e.dst)
     by_cases h1:c=b
     ·subst h1
      have h2:e≠c:=fun h=>hne (by rw [h]);rw [if_pos rfl,if_neg fun h=>h2 (iW hdd he hc h)];exact hfr e he _ (hg e he (h4 e he heR h2))
     ·rw [if_neg fun h=>h1 (iW hdd hc hb h)]
      by_cases h2:e=b
      ·subst h2
       rw [if_pos rfl];exact (hfr c hc _ (hg c hc (h4 c hc hcR h1))).symm
      ·rw [if_neg fun h=>h2 (iW hdd he hb h)]
       exact hp c hc e he (h4 c hc hcR h1) (h4 e he heR h2) hne)
   unfold wpOp;simp only [ho];unfold wpList at ht
   split
   ·rename_i h6
    rw [if_pos h6] at ht
    rcases ht with ht|⟨h1,h2⟩
    ·refine .inl ?_
     have h3:=jV ht;exact h3
    ·exact .inr ⟨h1,h2⟩
   ·rename_i h6
    rw [if_neg h6] at ht;exact ht
end
theorem aHh {P:Program} {ops:Array Oper} {Q:Exit->Act->World->Prop} {z fuel:Nat} {w0 w:World} {a:Act} {l:Array Bool} (B:List aMc) (n:Nat) (hn:B.length=n) (hw:Ext w0 w)
  (hck:wL ops n l (B.map (·.op))=true) (hnd:(B.map (·.op)).Nodup) (hdd:(B.map (·.dst)).Nodup)
  (hst:∀b∈B,∀v w w',b.good v w->Ext w w'->b.good v w')
  (hsp:∀b∈B,∀(us:Nat->Value) (w1:World),Ext w0 w1->∃o,ops[b.op]?=some o/\∀K:Act->World->Prop,(∀v w',Ext w1 w'->b.good v w'->(∀c∈B,∀u,c.good u w1->v≠u)->K ((mB a ((B.map (·.dst)).map fun d=>(d,us d))).put (some b.dst) v) w')->wpList P ops (Exit.then K (NoPanic Q)) [o] (mB a ((B.map (·.dst)).map fun d=>(d,us d))) w1)
  (hend:∀(us:Nat->Value) (w1:World),Ext w0 w1->(∀b∈B,b.good (us b.dst) w1)->(∀b∈B,∀c∈B,b.op≠c.op->us b.dst≠us c.dst)->wpZ P ops (NoPanic Q) w0.heap.size w0 z fuel (eJ (B.map (·.op)) l) (mB a ((B.map (·.dst)).map fun d=>(d,us d))) w1) :
  wpZ P ops (NoPanic Q) w0.heap.size w0 z (n+fuel) l a w:=by
 have h:=aB0 (P:=P) (Q:=NoPanic Q) (S:=fun w'=>∃d,w'=iE w0.heap.size w0 d) (z:=z) (fuel:=fuel) (l0:=l) hnd (fun w' hx=>⟨_,pI (hx.same (aS3 _))⟩) hst hsp hdd hend n (B.map (·.op)) l (fun d=>a.tmps.getD d undef) w (by rw [aT9];exact hn.symm) hnd (fun i hi=>hi) hck (fun i=>by rw [if_neg (fun h=>h.2 h.1)]) hw (fun b hb h=>absurd (aU2.2 ⟨b,hb,rfl⟩) h) (fun b hb c hc h=>absurd (aU2.2 ⟨b,hb,rfl⟩) h);rw [aKj] at h;exact h
section
open Go.RowKit Go.Shelf
attribute [local go_sem] aY3
def wA (v:V3):List Value:=[v.x,v.y,v.z]
theorem gT {f:Nat->Int} {i j n X Y Z:Int} (h:evP f i j n=⟨X,Y,Z⟩) (hn:1<=n/\n<=64) (hi:0<=i/\i<=n) (hj:0<=j/\j<=n) (w:World) :
  R_ 166 #[.agg f,i,j,n] w (.agg #[X,Y,Z]):=by
 have:=aA7 f i j n hn hi hj w;rw [h] at this;exact this
theorem oY {c:Cam} {x y z lx ly a b d:Int} (h:c.prB ⟨x,y,z⟩ lx ly=true) (hp:c.pr ⟨x,y,z⟩ lx ly=⟨a,b,d⟩) (w:World) :
  R_ 245 #[.agg c,.agg #[x,y,z],lx,ly] w (.tuple #[.agg #[a,b,d],.bool true]):=by
 have:=aE7 c x y z lx ly h w;rw [hp] at this;exact this
theorem oZ {c:Cam} {x y z lx ly:Int} (h:c.prB ⟨x,y,z⟩ lx ly=false) (w:World) :
  R_ 245 #[.agg c,.agg #[x,y,z],lx,ly] w (.tuple #[.agg #[(),(),()],.bool false]):=aHg c x y z lx ly h w
theorem aD.fresh0 {α : Type} {cs : α->List Value} {lo g:Nat} {e:TypeId} {sz:Nat} {w:World} (hl:lo<=g) (h:Blk w g e []):aD cs lo e sz w (.slice (some ⟨g,0,none⟩) 0 0) []:=
 ⟨by simp,.inr ⟨g,0,#[],rfl,hl,h,aS3 _,by unfold maxLen;omega,by simp,by simp⟩⟩
theorem aMd:(Tryz.prog.info? 122).map (fun i=>(i.zero,i.size,i.bytes))=some (some (.agg #[(),(),()]),3,24):=by kernel_rfl
theorem aMe (p:V3):∀u∈wA p,u.oneCell'=true:=by
 intro u hu;simp only [wA,aTo,aTj,or_false] at hu
 rcases hu with rfl|rfl|rfl <;> rfl
theorem mS (w:World) {ops:Array Oper} {rest:List Oper} {o:Oper} {a:Act} {Q:Exit->Act->World->Prop} (hg:o.guard=none) (s x:Operand)
  (hop:o.op=Op.call { callee:=Callee.builtin Builtin.append,args:=#[s,x],argTypes:=#[255,255] }) (lo:Nat) (v:Value) (xs:List V3) (hs:a.eval s=v) (hown:aD wA lo 122 3 w v xs)
  (y:V3) (b:Nat) (hx:a.eval x = .slice (some ⟨b,0,none⟩) 1 1) (hcell:∀j,j<3->w.cell? ⟨b,j,none⟩=(wA y)[j]?) (hlen:xs.length<1000000) (hlo:lo<=w.heap.size)
  (hK:∀v' w',aD wA lo 122 3 w' v' (xs++[y])->w.grownBy w' v.ownBlock->wpList aS7 ops Q rest (a.put o.dst v') w'):wpList aS7 ops Q (o::rest) a w:=
 cA wA 122 3 24 _ w hg s x 255 hop underlying255 aMd rfl (by decide) (by decide) (fun _=>rfl) lo v xs hs hown y b hx hcell (aMe y) hlen hlo hK
theorem aJa (w:World) (a b d:Int):∀j,j<3->(w.alloc (.cells #[a,b,d] 122)).cell? ⟨w.heap.size,j,none⟩=(wA ⟨a,b,d⟩)[j]?:=by
 intro j hj
 rcases (show j=0\/j=1\/j=2 by omega) with rfl|rfl|rfl <;> simp [go_sem,wA]
def xQ (c:Cam) (f:Nat->Int) (n:Nat) (s:Smp) (u v:Nat) (pre:List (Fin 2×Fin 2)):List V3:=pre.map fun p=>dK c f n s (u+(p.1:Nat)) (v+(p.2:Nat))
theorem aKl (c:Cam) (f:Nat->Int) (n:Nat) (s:Smp) (u v:Nat) (pre:List (Fin 2×Fin 2)) (x:Fin 2×Fin 2):xQ c f n s u v (pre++[x])=xQ c f n s u v pre++[dK c f n s (u+(x.1:Nat)) (v+(x.2:Nat))]:=by unfold xQ;rw [List.map_append,List.map_singleton]
def okC (c:Cam) (f:Nat->Int) (n:Nat) (s:Smp) (u v:Nat) (pre:List (Fin 2×Fin 2)):Prop:=∀p∈pre,mK c f n s (u+(p.1:Nat)) (v+(p.2:Nat))=true
def aKm (a b d:V3) (u v n:Int):List Value:=[a.x,a.y,a.z,b.x,b.y,b.z,d.x,d.y,d.z,u,v,n]
def aJb (c:Cam) (f:Nat->Int) (n:Nat) (s:Smp) (u v:Nat) (lo:Nat) (w:World) (r:Value):Prop:=
 (mL c f n s u v=false/\r = .slice none 0 0) \/
 (mL c f n s u v=true/\∃g,lo<=g/\r = .slice (some ⟨g,0,none⟩) 2 2/\Blk w g 155 (aKm (dK c f n s u v) (dK c f n s (u+1) v) (dK c f n s u (v+1)) u v n++aKm (dK c f n s (u+1) v) (dK c f n s (u+1) (v+1)) (dK c f n s u (v+1)) u v n))
def vG (c:Cam) (f:Nat->Int) (n:Nat) (s:Smp) (u v:Nat) (w:World):List (Nat×TypeId×List Value):=
 [(w.heap.size,35,c),(w.heap.size+1,125,f),(w.heap.size+2,3,[(u:Nat)]),(w.heap.size+3,3,[(v:Nat)]),(w.heap.size+4,3,[(n:Nat)]),(w.heap.size+5,3,[s.lx]),(w.heap.size+6,3,[s.ly]),(w.heap.size+7,148,[.slice none 0 0]),(w.heap.size+10,3,[.int .i64 2])]
theorem aMf (c:Cam) (f:Nat->Int) (n:Nat) (s:Smp) (u v:Nat) (w:World):∀p∈vG c f n s u v w,p.2.1≠122/\p.1≠w.heap.size+9:=by
 intro p hp;simp only [vG,aTo,aTj,or_false] at hp
 rcases hp with rfl|rfl|rfl|rfl|rfl|rfl|rfl|rfl|rfl <;> exact ⟨by simp,by simp⟩
theorem oD {w:World} {b:Nat} {t:TypeId} {x y z:Value} (h:Blk w b t [x,y,z]):b<w.heap.size/\w.cell? ⟨b,0,none⟩=some x/\w.cell? ⟨b,1,none⟩=some y/\w.cell? ⟨b,2,none⟩=some z/\w.frozen? ⟨b,0,none⟩=false/\w.frozen? ⟨b,1,none⟩=false/\w.frozen? ⟨b,2,none⟩=false:=
 ⟨h.lt,h.cell 0 rfl,h.cell 1 rfl,h.cell 2 rfl,h.free 0,h.free 1,h.free 2⟩
theorem aJc {c:Cam} {f:Nat->Int} {n:Nat} {s:Smp} {u v i j:Nat} (hi:i<2) (hj:j<2) (h:mK c f n s (u+i) (v+j)=false):mL c f n s u v=false:=by
 unfold mL
 rcases (show i=0\/i=1 by omega) with rfl|rfl <;> rcases (show j=0\/j=1 by omega) with rfl|rfl <;> (try simp only [Nat.add_zero] at h) <;> simp [h]
theorem aMg {c:Cam} {f:Nat->Int} {n:Nat} {s:Smp} {u v:Nat} (h:okC c f n s u v (cM 2 (by decide) (2*2))):mL c f n s u v=true:=by
 have h0:=h (0,0) (by decide);have h2:=h (1,0) (by decide);have h1:=h (0,1) (by decide);have h3:=h (1,1) (by decide);unfold mL;simp only [aTi];exact ⟨⟨⟨h0,h2⟩,h1⟩,h3⟩
def GB (W:World):Value->World->Prop:=fun v w=>∃b,v = .pointer (some ⟨b,0,none⟩)/\W.heap.size<=b/\Blk w b 122 [(),(),()]
theorem GB.ext {W:World} {v:Value} {w w':World} (h:GB W v w) (x:Ext w w'):GB W v w':=by
 obtain ⟨b,h1,h2,h3⟩:=h;exact ⟨b,h1,h2,h3.ext x⟩
theorem GB.fresh {W:World} {u:Value} {w1:World} (h:GB W u w1) (e:u = .pointer (some ⟨w1.heap.size,0,none⟩)):False:=by
 obtain ⟨b,rfl,h2,h3⟩:=h;simp only [Value.pointer.injEq,aS5,aUb,and_true] at e;have:=h3.lt;omega
theorem uJ {a b:Nat} (h:Value.pointer (some ⟨a,0,none⟩)≠Value.pointer (some ⟨b,0,none⟩)):a≠b:=fun e=>h (by rw [e])
theorem aQk {n:Nat} (hn:1<=n/\n<=64):(1:Int)<=n/\(n:Int)<=64:=by omega
theorem aA8 (c:Cam) (f:Nat->Int) (n:Nat) (s:Smp) (u v:Nat) (hn:1<=n/\n<=64) (hu:u<n) (hv:v<n) (w:World) :
  Calls aS7 210 #[.agg c,.agg f,(u:Nat),(v:Nat),(n:Nat),s.lx,s.ly] w fun e w'=>∃r,e = .returned r/\aJb c f n s u v w.heap.size w' r/\Ext w w':=by
 have C2:∀W:World,Calls aS7 165 #[.int .i64 2] W fun e w'=>e = .returned (.func (.func 217) #[] #[.pointer (some ⟨W.heap.size,0,none⟩)])/\w'=W.alloc (.cells #[.int .i64 2] 3):=fun W=>(callsIn_wide (n:=0)).1 (uI 2 0 W);obtain ⟨C2,I1,I2,I3⟩:=h4_ C2 (aG.2 (aQk hn)) (aG.2 (show (0:Int)<=u/\(u:Int)<=(n:Int) - 1 by omega)) (aG.2 (show (0:Int)<=v/\(v:Int)<=(n:Int) - 1 by omega));refine (callsIn_wide (n:=3)).1 ?_;refine callsIn_of_wp_marks func210 rfl trivial ?_ rfl;simp only [ntmps210,aX8,aUj,aVc,aWa,bA6,aYa,aYb,aZl,aYu,aU1,aYi];refine wpIn_wide.2 ?_;go_wp2_with (go_at_call 92;with_reducible first|(refine z_ (aH I1.out _) ?_)|(refine z_ (aH I2.out _) ?_)|(refine z_ (aH I3.out _) ?_));refine (C2.out _).mono ?_;rintro e _ ⟨rfl,rfl⟩;go_wp2_with fail;have n0:w.heap.size=w.heap.size+0:=rfl;obtain ⟨V1,hV,q0,x0,n1⟩:=mk_ w c 35 n0;rw [hV];clear hV;obtain ⟨V2,hV,q1,x1,n2⟩:=mk_ V1 f 125 n1;rw [hV];clear hV;obtain ⟨V3,hV,q2,x2,n3⟩:=mk_ V2 [(u:Nat)] 3 n2;rw [hV];clear hV;obtain ⟨V4,hV,q3,x3,n4⟩:=mk_ V3 [(v:Nat)] 3 n3;rw [hV];clear hV;obtain ⟨V5,hV,q4,x4,n5⟩:=mk_ V4 [(n:Nat)] 3 n4;rw [hV];clear hV;obtain ⟨V6,hV,q5,x5,n6⟩:=mk_ V5 [s.lx] 3 n5;rw [hV];clear hV;obtain ⟨V7,hV,q6,x6,n7⟩:=mk_ V6 [s.ly] 3 n6;rw [hV];clear hV;obtain ⟨V8,hV,q7,x7,n8⟩:=mk_ V7 [.slice none 0 0] 148 n7;rw [hV];clear hV;obtain ⟨V9,hV,q8,x8,n9⟩:=mk_ V8 [] 122 n8;rw [hV];clear hV;obtain ⟨k8,hV,q9,x9,j7⟩:=mk_ V9 [.slice (some ⟨w.heap.size+8,0,none⟩) 0 0] 255 n9;rw [hV];clear hV;obtain ⟨k9,hV,i2,j9,j8⟩:=mk_ k8 [.int .i64 2] 3 j7;rw [hV];clear hV;have i4:=j9;have s9:=x9.trans i4;have s8:=x8.trans s9;have s7:=x7.trans s8;have s6:=x6.trans s7;have s5:=x5.trans s6;have s4:=x4.trans s5;have s3:=x3.trans s4;have s2:=x2.trans s3;have s1:=x1.trans s2;obtain ⟨s0,r0,r1,r2,r3,r4,r5,r6,r7,r8,r9,i3⟩:=m12_ (x0.trans s1) (q0.ext s1) (q1.ext s2) (q2.ext s3) (q3.ext s4) (q4.ext s5) (q5.ext s6) (q6.ext s7) (q7.ext s8) (q8.ext s9) (q9.ext i4) i2;have z0:=j8;have X0:=s0;clear q0 x0 s0 q1 x1 s1 q2 x2 s2 q3 x3 s3 q4 x4 s4 q5 x5 s5 q6 x6 s6 q7 x7 s7 q8 x8 s8 q9 x9 s9 i2 j9 i4 n0 n1 n2 n3 n4 n5 n6 n7 n8 n9 j7 j8
 obtain ⟨W0,g9⟩:=e_ k9
 rw [g9] at r0 r1 r2 r3 r4 r5 r6 r7 r8 r9 i3 X0 z0;rw [g9];clear g9
 have g6:RB wA 122 3 255 (fun v=>[v]) w (w.heap.size+9) (vG c f n s u v w) W0 (xQ c f n s u v []):=by
  refine ⟨X0,fun p hp=>?_,by omega,_,r9,aD.fresh0 (by omega) r8⟩;simp only [vG,aTo,aTj,or_false] at hp
  rcases hp with rfl|rfl|rfl|rfl|rfl|rfl|rfl|rfl|rfl <;> assumption
 have g6:=hid g6;have NB:=i3.cell 0 rfl;clear r0 r1 r2 r3 r4 r5 r6 r7 r8 r9 i3 X0 C2;refine (wpIn_wide (n:=3)).1 ?_
 refine' wpIn_rangeFunc_ownG rfl (by omega) (gf:=217) (lb:=#[.pointer (some ⟨w.heap.size+10,0,none⟩)]) rfl trivial (enters_of func217 (by kernel_rfl) rfl)
  (oV 2 (by decide) (by decide) _ (w.heap.size+10) W0 (by omega) NB) (fun h k=>KB.trans h k) ?hKb (aZ1 _ _) (fun _=>rfl)
  (fun z9 W=>RB wA 122 3 255 (fun v=>[v]) w (w.heap.size+9) (vG c f n s u v w) W (xQ c f n s u v z9)/\okC c f n s u v z9)
  (fun cd z9 W=>cd = .ret/\mL c f n s u v=false/\Ext w W/\Blk W (w.heap.size+7) 148 [.slice none 0 0]) ?owns ?ownsx ⟨g6.out,fun p hp=>absurd hp aTj⟩ _ ?assign ?body ?done ?stop
 case hKb=>exact fun W l o o' hl ho _ _=>aWh (by omega)
 case assign=>
  intro l x W K hK
  gi_wp2
  exact hK
 case owns=>exact fun z9 A B row h hg hr=>⟨RB.owns (by omega) (xQ c f n s u v) z9 A B row h.1 hg hr,h.2⟩
 case ownsx=>exact fun cd z9 A B row h hg hr=>⟨h.1,h.2.1,h.2.2.1.grown hg (fun k e=>aTb (by omega) (hr k e).1),oW hg (fun r e=>(hr r e).2) h.2.2.2⟩
 case body=>
  intro l z9 x W hI o8;obtain ⟨hI,y9⟩:=hI;obtain ⟨HI,HA⟩:=h2_ hI y9
  obtain ⟨i,hi⟩:=e_ (x.1:Nat)
  obtain ⟨j,hj⟩:=e_ (x.2:Nat)
  have o6:i<2:=hi▸x.1.2;have o7:j<2:=hj▸x.2.2
  obtain ⟨X,Y,Z,hE⟩:∃X Y Z,evP f ((u:Int)+(i:Int)) ((v:Int)+(j:Int)) (n:Int)=⟨X,Y,Z⟩:=⟨_,_,_,rfl⟩
  obtain ⟨c6,N1,N2,N3⟩:=h4_ hE (aQk hn) (show (0:Int)<=(u:Int)+(i:Int)/\(u:Int)+(i:Int)<=(n:Int) by omega) (show (0:Int)<=(v:Int)+(j:Int)/\(v:Int)+(j:Int)<=(n:Int) by omega);have ZW:=hI.ext.size;obtain ⟨tv,y4,z8⟩:=hI.tb;have zt:=y4.lt;have m0:=hI.fx _ (.head _);obtain ⟨u1,u2,u3,u4,u5,u6,u7⟩:=m0.q7;have u8:=m0.lt;have m1:=hI.fx _ (.tail _ (.head _));obtain ⟨u9,v4,v5,v6,v7,v9,w0,w2,w3,w4,j5,j6⟩:=m1.q12;have w5:=m1.lt;have m2:=hI.fx _ (.tail _ (.tail _ (.head _)));have w6:=m2.cell 0 rfl;have w7:=m2.lt;have m3:=hI.fx _ (.tail _ (.tail _ (.tail _ (.head _))));have w9:=m3.cell 0 rfl;have m3l:=m3.lt;have m4:=hI.fx _ (.tail _ (.tail _ (.tail _ (.tail _ (.head _)))));have m4c0:=m4.cell 0 rfl;have m4l:=m4.lt;have m5:=hI.fx _ (.tail _ (.tail _ (.tail _ (.tail _ (.tail _ (.head _))))));have m5c0:=m5.cell 0 rfl;have m5l:=m5.lt;have m6:=hI.fx _ (.tail _ (.tail _ (.tail _ (.tail _ (.tail _ (.tail _ (.head _)))))));have m6c0:=m6.cell 0 rfl;have m6l:=m6.lt;have m7:=hI.fx _ (.tail _ (.tail _ (.tail _ (.tail _ (.tail _ (.tail _ (.tail _ (.head _))))))));have i1:=m7.lt;simp only [vG] at u8 w5 w7 m3l m4l m5l m6l i1;rw [hi,hj];clear hE hI y9 y4 z8 m0 m1 m2 m3 m4 m5 m6 m7 zt
  cases hb:c.prB ⟨X,Y,Z⟩ s.lx s.ly
  ·have HB:=hid hb
   clear hb;refine wpIn_block ?_;refine wpIn_seq_k fun K0 HK0=>?_;refine qY 18 W.heap.size (by kernel_rfl) (by kernel_rfl) (fun ⟨_,_,h⟩=>h) ?_;refine z2_ (fuel:=7) [0,1,2,3,4,5,6,7,8,10,11] 9 16 (fun b _ hb=>rfl) (fun K hK=>?n2) fun K hK=>?n3
   case' n2=>
    go_wp2_with fail;refine r_ (gT c6.out N1.out N2.out N3.out _) fun a0 y0=>?_;have u0:Ext W a0:=aS8 X_ y0;go_wp2;refine k_ hK ?_;clear hK K;refine z2_ (fuel:=6) [] 12 16 (fun b _ hb=>aTf u0 (by omega)) (fun K hK=>?n4) fun K hK=>?n5
    case' n4=>
     go_wp2_with fail;refine r_ (oZ HB.out _) fun a01 y01=>?_;have d5:Ext W a01:=aS8 X_ y01;go_wp2;refine k_ hK ?_;clear hK K;refine z1_ (fuel:=2) [13,14,15] 16 (fun b _ hb=>aTf d5 (by omega)) fun K hK=>?_;go_wp2;have h9:W.heap.size<=a01.heap.size:=d5.size;refine k_ hK ?_;clear hK K
     obtain ⟨h7,h4⟩:=i_ (a01.alloc (.cells #[(),(),()] 122))
     rw [<-h4]
     have a5:Ext W h7:=by rw [h4];exact X_
     have y5:Blk h7 a01.heap.size 122 [(),(),()]:=h4▸aTc _ _ _;clear h4;refine z1_ (fuel:=1) [] 17 (fun b _ hb=>aTf a5 (by omega)) fun K hK=>?_
    case' n5=>
     go_wp2;have y8:W.heap.size<=a0.heap.size:=u0.size;refine k_ hK ?_;clear hK K
     obtain ⟨d2,h8⟩:=i_ (a0.alloc (.cells #[(),(),()] 122))
     rw [<-h8]
     have i5:Ext W d2:=by rw [h8];exact X_
     have g7:Blk d2 a0.heap.size 122 [(),(),()]:=h8▸aTc _ _ _;clear h8;refine z1_ (fuel:=5) [] 12 (fun b _ hb=>aTf i5 (by omega)) fun K hK=>?_;go_wp2_with fail;refine r_ (oZ HB.out _) fun a0A1 y0A1=>?_;have a6:Ext W a0A1:=aS8 X_ y0A1;have y6:=g7.ext y0A1;go_wp2;refine k_ hK ?_;clear hK K;refine z1_ (fuel:=1) [13,14,15] 17 (fun b _ hb=>aTf a6 (by omega)) fun K hK=>?_
   case' n3=>
    go_wp2;have d3:W.heap.size<=W.heap.size:=aS3 _;refine k_ hK ?_;clear hK K
    obtain ⟨dA,c5⟩:=i_ ((W.alloc (.cells #[(),(),()] 122)).drew)
    rw [<-c5]
    have uA:Ext W dA:=by rw [c5];exact X_
    have bA:Blk dA W.heap.size 122 [(),(),()]:=c5▸(aTc _ _ _).ext (aUa (aTd _));clear c5;refine z1_ (fuel:=6) [] 9 (fun b _ hb=>aTf uA (by omega)) fun K hK=>?_;go_wp2_with fail;refine r_ (gT c6.out N1.out N2.out N3.out _) fun aA0 yA0=>?_;have i6:Ext W aA0:=aS8 X_ yA0;have g8:=bA.ext yA0;go_wp2;refine k_ hK ?_;clear hK K;refine z1_ (fuel:=5) [] 12 (fun b _ hb=>aTf i6 (by omega)) fun K hK=>?_;go_wp2_with fail;refine r_ (oZ HB.out _) fun aA01 yA01=>?_;have a7:Ext W aA01:=aS8 X_ yA01;have y7:=g8.ext yA01;go_wp2;refine k_ hK ?_;clear hK K;refine z1_ (fuel:=1) [13,14,15] 17 (fun b _ hb=>aTf a7 (by omega)) fun K hK=>?_
   all_goals
    rename World=>wq;rename Blk wq _ _ _=>hY;rename Ext W wq=>hU;rename (W.heap.size<=_)=>hL0;obtain ⟨A,hA⟩:=a_ hY
    have hL:W.heap.size<=A:=by omega
    rw [hA] at hY ⊢;clear hA hL0
    obtain ⟨z0,z1,z2,z3,z4,z5,z6⟩:=oD hY;go_wp2;have a4:=hL;refine hK _ _ (.inr (fun b _ hb=>aTf (w:=W) S_ (by omega))) ?_;clear hK K;refine z1_ (fuel:=0) [] 18 (fun b _ hb=>aTf (w:=W) S_ (by omega)) fun K hK=>?_;go_wp2;refine l_ hK (cH ?_);clear hK K;have h5:=hL;have hE:Ext W (((wq.setCell ⟨A,0,none⟩ ()).setCell ⟨A,1,none⟩ ()).setCell ⟨A,2,none⟩ ()):=aTk (aTk (aTk hU h5 _) h5 _) h5 _
    have h6:Blk (((wq.setCell ⟨A,0,none⟩ ()).setCell ⟨A,1,none⟩ ()).setCell ⟨A,2,none⟩ ()) (A) 122 [(),(),()]:=(((hY.set 0 (.int .i64 0)).set 1 (.int .i64 0)).set 2 (.int .i64 0))
    clear z0 z1 z2 z3 z4 z5 z6
    obtain ⟨wx,z7⟩:=e_ (((wq.setCell ⟨A,0,none⟩ ()).setCell ⟨A,1,none⟩ ()).setCell ⟨A,2,none⟩ ())
    rw [z7] at hE h6 ⊢;clear z7
    have T2:=hid (HI.out.to hE);have y0:=h6.lt;have y1:=h6.cell 0 rfl;have y2:=h6.cell 1 rfl;have y3:=h6.cell 2 rfl;refine HK0 _ _ (wpIn_seq_k fun K1 HK1=>?_);refine wpIn_seq_k fun K2 HK2=>?_;refine eN (by kernel_rfl) (fun ⟨_,_,h⟩=>h) ?_;go_wp2_with fail;refine wpIn_cond_true rfl ?_;refine wpIn_seq_k fun K3 HK3=>?_;refine eN (by kernel_rfl) (fun ⟨_,_,h⟩=>h) ?_;have e7:=T2.out.fx _ (.tail _ (.tail _ (.tail _ (.tail _ (.tail _ (.tail _ (.tail _ (.head _))))))));have g0:=e7.cell 0 rfl;have g1:=e7.free 0;have g2:=e7.lt;obtain ⟨E2,k6⟩:=h2_ hE e7;clear hE e7;simp only [vG] at g0 g1 g2;go_wp2_with fail;refine wpIn_ret ?_
    have i0:mK c f n s (u+i) (v+j)=false:=by unfold mK;rw [aVa,aVa,c6.out,HB.out]
    refine ⟨((Ext.others E2.out).trans (aXq _ _ _)).from _,rfl,aJc o6 o7 i0,aTk T2.out.ext (by first|omega|(simp only;omega)|(simp;omega)) _,?_⟩;exact k6.out.set 0 _
  ·have HB:=hid hb
   obtain ⟨a,b,d,hP⟩:∃a b d,c.pr ⟨X,Y,Z⟩ s.lx s.ly=⟨a,b,d⟩:=⟨_,_,_,rfl⟩
   have HP:=hid hP;clear hb hP;refine wpIn_block ?_;refine wpIn_seq_k fun K0 HK0=>?_;refine qY 18 W.heap.size (by kernel_rfl) (by kernel_rfl) (fun ⟨_,_,h⟩=>h) ?_;refine z2_ (fuel:=7) [0,1,2,3,4,5,6,7,8,10,11] 9 16 (fun b _ hb=>rfl) (fun K hK=>?p2) fun K hK=>?p3
   case' p2=>
    go_wp2_with fail;refine r_ (gT c6.out N1.out N2.out N3.out _) fun a0 y0=>?_;have u0:Ext W a0:=aS8 X_ y0;go_wp2;refine k_ hK ?_;clear hK K;refine z2_ (fuel:=6) [] 12 16 (fun b _ hb=>aTf u0 (by omega)) (fun K hK=>?p4) fun K hK=>?p5
    case' p4=>
     go_wp2_with fail;refine r_ (oY HB.out HP.out _) fun a01 y01=>?_;have d5:Ext W a01:=aS8 X_ y01;go_wp2;refine k_ hK ?_;clear hK K;refine z1_ (fuel:=2) [13,14,15] 16 (fun b _ hb=>aTf d5 (by omega)) fun K hK=>?_;go_wp2;have h9:W.heap.size<=a01.heap.size:=d5.size;refine k_ hK ?_;clear hK K
     obtain ⟨h7,h4⟩:=i_ (a01.alloc (.cells #[(),(),()] 122))
     rw [<-h4]
     have a5:Ext W h7:=by rw [h4];exact X_
     have y5:Blk h7 a01.heap.size 122 [(),(),()]:=h4▸aTc _ _ _;clear h4;refine z1_ (fuel:=1) [] 17 (fun b _ hb=>aTf a5 (by omega)) fun K hK=>?_
    case' p5=>
     go_wp2;have y8:W.heap.size<=a0.heap.size:=u0.size;refine k_ hK ?_;clear hK K
     obtain ⟨d2,h8⟩:=i_ (a0.alloc (.cells #[(),(),()] 122))
     rw [<-h8]
     have i5:Ext W d2:=by rw [h8];exact X_
     have g7:Blk d2 a0.heap.size 122 [(),(),()]:=h8▸aTc _ _ _;clear h8;refine z1_ (fuel:=5) [] 12 (fun b _ hb=>aTf i5 (by omega)) fun K hK=>?_;go_wp2_with fail;refine r_ (oY HB.out HP.out _) fun a0A1 y0A1=>?_;have a6:Ext W a0A1:=aS8 X_ y0A1;have y6:=g7.ext y0A1;go_wp2;refine k_ hK ?_;clear hK K;refine z1_ (fuel:=1) [13,14,15] 17 (fun b _ hb=>aTf a6 (by omega)) fun K hK=>?_
   case' p3=>
    go_wp2;have d3:W.heap.size<=W.heap.size:=aS3 _;refine k_ hK ?_;clear hK K
    obtain ⟨dA,c5⟩:=i_ ((W.alloc (.cells #[(),(),()] 122)).drew)
    rw [<-c5]
    have uA:Ext W dA:=by rw [c5];exact X_
    have bA:Blk dA W.heap.size 122 [(),(),()]:=c5▸(aTc _ _ _).ext (aUa (aTd _));clear c5;refine z1_ (fuel:=6) [] 9 (fun b _ hb=>aTf uA (by omega)) fun K hK=>?_;go_wp2_with fail;refine r_ (gT c6.out N1.out N2.out N3.out _) fun aA0 yA0=>?_;have i6:Ext W aA0:=aS8 X_ yA0;have g8:=bA.ext yA0;go_wp2;refine k_ hK ?_;clear hK K;refine z1_ (fuel:=5) [] 12 (fun b _ hb=>aTf i6 (by omega)) fun K hK=>?_;go_wp2_with fail;refine r_ (oY HB.out HP.out _) fun aA01 yA01=>?_;have a7:Ext W aA01:=aS8 X_ yA01;have y7:=g8.ext yA01;go_wp2;refine k_ hK ?_;clear hK K;refine z1_ (fuel:=1) [13,14,15] 17 (fun b _ hb=>aTf a7 (by omega)) fun K hK=>?_
   all_goals
    rename World=>wq;rename Blk wq _ _ _=>hY;rename Ext W wq=>hU;rename (W.heap.size<=_)=>hL0;obtain ⟨A,hA⟩:=a_ hY
    have hL:W.heap.size<=A:=by omega
    rw [hA] at hY ⊢;clear hA hL0
    obtain ⟨z0,z1,z2,z3,z4,z5,z6⟩:=oD hY;go_wp2;have a4:=hL;refine hK _ _ (.inr (fun b _ hb=>aTf (w:=W) S_ (by omega))) ?_;clear hK K;refine z1_ (fuel:=0) [] 18 (fun b _ hb=>aTf (w:=W) S_ (by omega)) fun K hK=>?_;go_wp2;refine l_ hK (cH ?_);clear hK K;have h5:=hL;have hE:Ext W (((wq.setCell ⟨A,0,none⟩ a).setCell ⟨A,1,none⟩ b).setCell ⟨A,2,none⟩ d):=aTk (aTk (aTk hU h5 _) h5 _) h5 _
    have h6:Blk (((wq.setCell ⟨A,0,none⟩ a).setCell ⟨A,1,none⟩ b).setCell ⟨A,2,none⟩ d) (A) 122 [a,b,d]:=(((hY.set 0 (.int .i64 a)).set 1 (.int .i64 b)).set 2 (.int .i64 d))
    clear z0 z1 z2 z3 z4 z5 z6
    obtain ⟨wx,z7⟩:=e_ (((wq.setCell ⟨A,0,none⟩ a).setCell ⟨A,1,none⟩ b).setCell ⟨A,2,none⟩ d)
    rw [z7] at hE h6 ⊢;clear z7
    have T2:=hid (HI.out.to hE);have y0:=h6.lt;have y1:=h6.cell 0 rfl;have y2:=h6.cell 1 rfl;have y3:=h6.cell 2 rfl;refine HK0 _ _ (wpIn_seq_k fun K1 HK1=>?_);refine wpIn_seq_k fun K2 HK2=>?_;refine eN (by kernel_rfl) (fun ⟨_,_,h⟩=>h) ?_;go_wp2_with fail;refine wpIn_cond_false rfl ?_;refine wpIn_skip ?_;refine HK1 _ _ ?_;refine eN (by kernel_rfl) (fun ⟨_,_,h⟩=>h) ?_;obtain ⟨tv,y4,z8⟩:=T2.out.tb;obtain ⟨ta,tc,rfl,tlen⟩:=aD.form z8;have g0:=y4.cell 0 rfl;have gl:=y4.lt
    have j0:(xQ c f n s u v z9).length=z9.length:=by unfold xQ;rw [aT9]
    obtain ⟨k7,E2⟩:=h2_ j0 hE;clear j0 hE;go_wp2_with (at_builtin;refine mS _ rfl _ _ rfl w.heap.size _ (xQ c f n s u v z9) rfl (aD.ext z8 X_) ⟨a,b,d⟩ wx.heap.size rfl (aJa wx a b d) (by rw [k7.out];omega) (by have:=T2.out.ext.size;simp;omega) ?_;intro v8 w8 d4 hg;obtain ⟨va,vc,rfl,_⟩:=aD.form d4;have g1:=(y4.ext (show Ext wx (wx.alloc (.cells #[a,b,d] 122)) from X_)).grown hg (cD y4 (by decide) z8);have g2:=g1.cell 0 rfl;have g3:=g1.free 0;have g4:=g1.lt)
    have o5:dK c f n s (u+(x.1:Nat)) (v+(x.2:Nat))=⟨a,b,d⟩:=by unfold dK;rw [hi,hj,aVa,aVa,c6.out,HP.out]
    have i0:mK c f n s (u+(x.1:Nat)) (v+(x.2:Nat))=true:=by unfold mK;rw [hi,hj,aVa,aVa,c6.out,HB.out]
    have T4:=T2.out.push (aMf c f n s u v w) (by decide) 0 rfl y4 z8 (show Ext wx (wx.alloc (.cells #[a,b,d] 122)) from X_) hg d4;simp only [aTw,aUj,aVc,aT1] at T4;refine ⟨((((Ext.others E2.out).trans (KeepsOthers.alloc _ _)).trans (aZg hg (aDg (Ext.alloc (aTd _) _) z8))).trans (aXq _ _ _)).from _,(T4.fx _ (.tail _ (.tail _ (.tail _ (.tail _ (.tail _ (.tail _ (.tail _ (.tail _ (.head _)))))))))).trans (HI.out.fx _ (.tail _ (.tail _ (.tail _ (.tail _ (.tail _ (.tail _ (.tail _ (.tail _ (.head _)))))))))).symm,?_,?_⟩
    ·show RB _ _ _ _ _ _ _ _ _ (xQ c f n s u v (z9++[x]))
     rw [aKl,o5];exact T4
    ·intro p hp
     rw [aU5,List.mem_singleton] at hp
     rcases hp with hp|rfl
     ·exact HA.out p hp
     ·exact i0
 case done=>
  rintro D ys W hD rfl ⟨hI,y9⟩ hK;have i9:mL c f n s u v=true:=aMg y9;obtain ⟨k1,HK⟩:=h2_ i9 hK;have hp:xQ c f n s u v (cM 2 (by decide) (2*2))=[dK c f n s u v,dK c f n s (u+1) v,dK c f n s u (v+1),dK c f n s (u+1) (v+1)]:=rfl;rw [hp] at hI
  obtain ⟨⟨x0,y0,s0⟩,e0⟩:∃p,dK c f n s u v=p:=⟨_,rfl⟩
  rw [e0] at hI;have k2:=hid e0
  obtain ⟨⟨x1,y1,s1⟩,e1⟩:∃p,dK c f n s (u+1) v=p:=⟨_,rfl⟩
  rw [e1] at hI;have k3:=hid e1
  obtain ⟨⟨x2,y2,s2⟩,e2⟩:∃p,dK c f n s u (v+1)=p:=⟨_,rfl⟩
  rw [e2] at hI;have k4:=hid e2
  obtain ⟨⟨x3,y3,s3⟩,e3⟩:∃p,dK c f n s (u+1) (v+1)=p:=⟨_,rfl⟩
  rw [e3] at hI;obtain ⟨k5,HI⟩:=h2_ e3 hI;obtain ⟨tv,y4,z8⟩:=hI.tb;obtain ⟨g,tc,rfl,gl,gw,i8,gtc,-,c0⟩:=aD.at z8 (fun _=>rfl) (i:=0) rfl;obtain ⟨g1,tc1,he,-,-,-,-,-,c1⟩:=aD.at z8 (fun _=>rfl) (i:=1) rfl;simp only [aTp,aS5,aUb,and_true,true_and] at he;obtain ⟨rfl,rfl⟩:=he;obtain ⟨g2,tc2,he,-,-,-,-,-,c2⟩:=aD.at z8 (fun _=>rfl) (i:=2) rfl;simp only [aTp,aS5,aUb,and_true,true_and] at he;obtain ⟨rfl,rfl⟩:=he;obtain ⟨g3,tc3,he,-,-,-,-,-,c3⟩:=aD.at z8 (fun _=>rfl) (i:=3) rfl;simp only [aTp,aS5,aUb,and_true,true_and] at he;obtain ⟨rfl,rfl⟩:=he;have p00:W.cell? ⟨g,0,none⟩=some (.int .i64 x0):=c0 0 (by decide);have p01:W.cell? ⟨g,1,none⟩=some (.int .i64 y0):=c0 1 (by decide);have p02:W.cell? ⟨g,2,none⟩=some (.int .i64 s0):=c0 2 (by decide);have p10:W.cell? ⟨g,3,none⟩=some (.int .i64 x1):=c1 0 (by decide);have p11:W.cell? ⟨g,4,none⟩=some (.int .i64 y1):=c1 1 (by decide);have p12:W.cell? ⟨g,5,none⟩=some (.int .i64 s1):=c1 2 (by decide);have p20:W.cell? ⟨g,6,none⟩=some (.int .i64 x2):=c2 0 (by decide);have p21:W.cell? ⟨g,7,none⟩=some (.int .i64 y2):=c2 1 (by decide);have p22:W.cell? ⟨g,8,none⟩=some (.int .i64 s2):=c2 2 (by decide);have p30:W.cell? ⟨g,9,none⟩=some (.int .i64 x3):=c3 0 (by decide);have p31:W.cell? ⟨g,10,none⟩=some (.int .i64 y3):=c3 1 (by decide);have p32:W.cell? ⟨g,11,none⟩=some (.int .i64 s3):=c3 2 (by decide);have t0:W.cell? ⟨w.heap.size+9,0,none⟩=some (.slice (some ⟨g,0,none⟩) 4 tc):=y4.cell 0 rfl;have tl:=y4.lt;have o4:4<=tc:=i8;clear hI y9 hK y4 z8 c0 c1 c2 c3 i8 hp i9 e0 e1 e2 e3;go_wp2_with fail;refine dP 19 W.heap.size ?_;refine aKk (fuel:=8) [0,1,2,3,4,5,6,7,8,9,10,11] (by kernel_rfl) (fun b _ hb=>rfl) ?_
  try simp only [Act.put,aTa,aTh,aTg]
  simp only [aTu,aTl,aS6,aS0,aS1]
  show wpQuiet _ _ _ _ [_,_,_,_,_,_,_,_,_,_,_,_] _
  repeat (go_big_quiet_step (fail))
  refine wpQuiet_nil ?_;refine aHh (fuel:=4) [⟨12,20,GB W⟩,⟨13,21,GB W⟩,⟨14,22,GB W⟩,⟨15,23,GB W⟩] 4 rfl (aUa (aTd _)) (by kernel_rfl) (by simp) (by simp) ?_ ?_ ?_
  ·intro b hb v w w' h x
   simp only [aTo,aTj,or_false] at hb
   rcases hb with rfl|rfl|rfl|rfl <;> exact GB.ext h x
  ·intro b hb us w1 d6
   simp only [aTo,aTj,or_false] at hb
   rcases hb with rfl|rfl|rfl|rfl
   all_goals
    refine ⟨_,rfl,fun K hK=>?_⟩;simp only [aVe,aYk,mB,Act.put,aTa,aTh,aTg] at hK ⊢;go_wp2;refine hK _ _ X_ ⟨w1.heap.size,rfl,d6.size,aTc _ _ _⟩ (fun c hc u hu e=>?_);simp only [aTo,aTj,or_false] at hc
    rcases hc with rfl|rfl|rfl|rfl <;> exact GB.fresh hu e.symm
  ·intro us w1 d6 hg c7
   obtain ⟨a0,h0,l0,b0⟩:=hg ⟨12,20,GB W⟩ (by simp);obtain ⟨a1,h1,l1,b1⟩:=hg ⟨13,21,GB W⟩ (by simp);obtain ⟨a2,h2,l2,b2⟩:=hg ⟨14,22,GB W⟩ (by simp);obtain ⟨a3,h3,l3,b3⟩:=hg ⟨15,23,GB W⟩ (by simp);have b5:=c7 ⟨12,20,GB W⟩ (by simp) ⟨13,21,GB W⟩ (by simp) (by simp);have b6:=c7 ⟨12,20,GB W⟩ (by simp) ⟨14,22,GB W⟩ (by simp) (by simp);have b7:=c7 ⟨12,20,GB W⟩ (by simp) ⟨15,23,GB W⟩ (by simp) (by simp);have b8:=c7 ⟨13,21,GB W⟩ (by simp) ⟨14,22,GB W⟩ (by simp) (by simp);have b9:=c7 ⟨13,21,GB W⟩ (by simp) ⟨15,23,GB W⟩ (by simp) (by simp);have c4:=c7 ⟨14,22,GB W⟩ (by simp) ⟨15,23,GB W⟩ (by simp) (by simp);simp only at h0 h1 h2 h3 b5 b6 b7 b8 b9 c4;rw [h0,h1] at b5;rw [h0,h2] at b6;rw [h0,h3] at b7;rw [h1,h2] at b8;rw [h1,h3] at b9;rw [h2,h3] at c4;replace b5:=uJ b5;replace b6:=uJ b6;replace b7:=uJ b7;replace b8:=uJ b8;replace b9:=uJ b9;replace c4:=uJ c4;simp only [aVe,aYk,mB,Act.put,aTa,aTh,aTg,h0,h1,h2,h3];clear h0 h1 h2 h3 hg c7 p00 p01 p02 p10 p11 p12 p20 p21 p22 p30 p31 p32 t0 tl;have l4:=b0.free 0;have l5:=b0.free 1;have l6:=b0.free 2;have o9:=b0.cell 0 rfl;have p0:=b0.cell 1 rfl;have p1:=b0.cell 2 rfl;have t6:=b0.lt;refine z1_ (fuel:=3) [] 16 (fun b _ hb=>aTf d6 hb) fun K hK=>?_;go_wp2;have X0:Ext W (((w1.setCell ⟨a0,0,none⟩ x0).setCell ⟨a0,1,none⟩ y0).setCell ⟨a0,2,none⟩ s0):=aTk (aTk (aTk d6 l0 _) l0 _) l0 _;have d7:=((b0.set 0 (.int .i64 x0)).set 1 (.int .i64 y0)).set 2 (.int .i64 s0);have a8:=((b1.other (a:=⟨a0,0,none⟩) b5.symm (.int .i64 x0)).other (a:=⟨a0,1,none⟩) b5.symm (.int .i64 y0)).other (a:=⟨a0,2,none⟩) b5.symm (.int .i64 s0);have d8:=((b2.other (a:=⟨a0,0,none⟩) b6.symm (.int .i64 x0)).other (a:=⟨a0,1,none⟩) b6.symm (.int .i64 y0)).other (a:=⟨a0,2,none⟩) b6.symm (.int .i64 s0);have d9:=((b3.other (a:=⟨a0,0,none⟩) b7.symm (.int .i64 x0)).other (a:=⟨a0,1,none⟩) b7.symm (.int .i64 y0)).other (a:=⟨a0,2,none⟩) b7.symm (.int .i64 s0);refine hK _ _ (.inr (fun b _ hb=>aTf X0 hb)) ?_;clear hK K l4 l5 l6 o9 p0 p1 t6 b0 b1 b2 b3
   obtain ⟨v0,j1⟩:=e_ (((w1.setCell ⟨a0,0,none⟩ x0).setCell ⟨a0,1,none⟩ y0).setCell ⟨a0,2,none⟩ s0)
   rw [j1] at d7 a8 d8 d9 X0 ⊢;clear j1;have l7:=a8.free 0;have l8:=a8.free 1;have l9:=a8.free 2;have p6:=a8.cell 0 rfl;have p7:=a8.cell 1 rfl;have p8:=a8.cell 2 rfl;have t7:=a8.lt;refine z1_ (fuel:=2) [] 17 (fun b _ hb=>aTf X0 hb) fun K hK=>?_;go_wp2;have X1:Ext W (((v0.setCell ⟨a1,0,none⟩ x1).setCell ⟨a1,1,none⟩ y1).setCell ⟨a1,2,none⟩ s1):=aTk (aTk (aTk X0 l1 _) l1 _) l1 _;have e4:=((d7.other (a:=⟨a1,0,none⟩) b5 (.int .i64 x1)).other (a:=⟨a1,1,none⟩) b5 (.int .i64 y1)).other (a:=⟨a1,2,none⟩) b5 (.int .i64 s1);have e5:=((a8.set 0 (.int .i64 x1)).set 1 (.int .i64 y1)).set 2 (.int .i64 s1);have a9:=((d8.other (a:=⟨a1,0,none⟩) b8.symm (.int .i64 x1)).other (a:=⟨a1,1,none⟩) b8.symm (.int .i64 y1)).other (a:=⟨a1,2,none⟩) b8.symm (.int .i64 s1);have e6:=((d9.other (a:=⟨a1,0,none⟩) b9.symm (.int .i64 x1)).other (a:=⟨a1,1,none⟩) b9.symm (.int .i64 y1)).other (a:=⟨a1,2,none⟩) b9.symm (.int .i64 s1);refine hK _ _ (.inr (fun b _ hb=>aTf X1 hb)) ?_;clear hK K l7 l8 l9 p6 p7 p8 t7 d7 a8 d8 d9
   obtain ⟨v1,j2⟩:=e_ (((v0.setCell ⟨a1,0,none⟩ x1).setCell ⟨a1,1,none⟩ y1).setCell ⟨a1,2,none⟩ s1)
   rw [j2] at e4 e5 a9 e6 X1 ⊢;clear j2 X0;have m8:=a9.free 0;have m9:=a9.free 1;have o0:=a9.free 2;have p9:=a9.cell 0 rfl;have t1:=a9.cell 1 rfl;have t2:=a9.cell 2 rfl;have t8:=a9.lt;refine z1_ (fuel:=1) [] 18 (fun b _ hb=>aTf X1 hb) fun K hK=>?_;go_wp2;have X2:Ext W (((v1.setCell ⟨a2,0,none⟩ x2).setCell ⟨a2,1,none⟩ y2).setCell ⟨a2,2,none⟩ s2):=aTk (aTk (aTk X1 l2 _) l2 _) l2 _;have e8:=((e4.other (a:=⟨a2,0,none⟩) b6 (.int .i64 x2)).other (a:=⟨a2,1,none⟩) b6 (.int .i64 y2)).other (a:=⟨a2,2,none⟩) b6 (.int .i64 s2);have e9:=((e5.other (a:=⟨a2,0,none⟩) b8 (.int .i64 x2)).other (a:=⟨a2,1,none⟩) b8 (.int .i64 y2)).other (a:=⟨a2,2,none⟩) b8 (.int .i64 s2);have g5:=((a9.set 0 (.int .i64 x2)).set 1 (.int .i64 y2)).set 2 (.int .i64 s2);have b4:=((e6.other (a:=⟨a2,0,none⟩) c4.symm (.int .i64 x2)).other (a:=⟨a2,1,none⟩) c4.symm (.int .i64 y2)).other (a:=⟨a2,2,none⟩) c4.symm (.int .i64 s2);refine hK _ _ (.inr (fun b _ hb=>aTf X2 hb)) ?_;clear hK K m8 m9 o0 p9 t1 t2 t8 e4 e5 a9 e6
   obtain ⟨v2,j3⟩:=e_ (((v1.setCell ⟨a2,0,none⟩ x2).setCell ⟨a2,1,none⟩ y2).setCell ⟨a2,2,none⟩ s2)
   rw [j3] at e8 e9 g5 b4 X2 ⊢;clear j3 X1;have o1:=b4.free 0;have o2:=b4.free 1;have o3:=b4.free 2;have t3:=b4.cell 0 rfl;have t4:=b4.cell 1 rfl;have t5:=b4.cell 2 rfl;have t9:=b4.lt;refine z1_ (fuel:=0) [] 19 (fun b _ hb=>aTf X2 hb) fun K hK=>?_;go_wp2;have X3:Ext W (((v2.setCell ⟨a3,0,none⟩ x3).setCell ⟨a3,1,none⟩ y3).setCell ⟨a3,2,none⟩ s3):=aTk (aTk (aTk X2 l3 _) l3 _) l3 _;have c8:=((e8.other (a:=⟨a3,0,none⟩) b7 (.int .i64 x3)).other (a:=⟨a3,1,none⟩) b7 (.int .i64 y3)).other (a:=⟨a3,2,none⟩) b7 (.int .i64 s3);have c9:=((e9.other (a:=⟨a3,0,none⟩) b9 (.int .i64 x3)).other (a:=⟨a3,1,none⟩) b9 (.int .i64 y3)).other (a:=⟨a3,2,none⟩) b9 (.int .i64 s3);have d0:=((g5.other (a:=⟨a3,0,none⟩) c4 (.int .i64 x3)).other (a:=⟨a3,1,none⟩) c4 (.int .i64 y3)).other (a:=⟨a3,2,none⟩) c4 (.int .i64 s3);have d1:=((b4.set 0 (.int .i64 x3)).set 1 (.int .i64 y3)).set 2 (.int .i64 s3);refine l_ hK ?_;clear hK K o1 o2 o3 t3 t4 t5 t9 e8 e9 g5 b4
   obtain ⟨v3,j4⟩:=e_ (((v2.setCell ⟨a3,0,none⟩ x3).setCell ⟨a3,1,none⟩ y3).setCell ⟨a3,2,none⟩ s3)
   rw [j4] at c8 c9 d0 d1 X3 ⊢;clear j4 X2;refine cH ?_;obtain ⟨q00,q01,q02,ql0,i2,q11,q12,ql1,q20,q21,q22,ql2⟩:=m12_ (c8.cell 0 rfl) (c8.cell 1 rfl) (c8.cell 2 rfl) c8.lt (c9.cell 0 rfl) (c9.cell 1 rfl) (c9.cell 2 rfl) c9.lt (d0.cell 0 rfl) (d0.cell 1 rfl) (d0.cell 2 rfl) d0.lt;have q30:=d1.cell 0 rfl;have q31:=d1.cell 1 rfl;have q32:=d1.cell 2 rfl;have ql3:=d1.lt;obtain ⟨T,XT⟩:=h2_ (HI.out.to X3) X3;have HD:v3.heap[D]?=some (.deferred (some [])):=(X3.block (hH HK.out)).trans HK.out;have i7:=hid HD;have m2:=(T.out.fx _ (.tail _ (.tail _ (.head _)))).cell 0 rfl;have m3:=(T.out.fx _ (.tail _ (.tail _ (.tail _ (.head _))))).cell 0 rfl;have m4:=(T.out.fx _ (.tail _ (.tail _ (.tail _ (.tail _ (.head _)))))).cell 0 rfl;have m7:=T.out.fx _ (.tail _ (.tail _ (.tail _ (.tail _ (.tail _ (.tail _ (.tail _ (.head _))))))));obtain ⟨m7c,m7f,i1,M7,zX⟩:=m5_ (m7.cell 0 rfl) (m7.free 0) m7.lt (hid m7) X3.size;clear X3 HD m7 c8 c9 d0 d1;simp only [vG] at m2 m3 m4 m7c m7f i1;go_wp2;have BF:=aTc (v3.setCell ⟨w.heap.size+7,0,none⟩ (.slice (some ⟨v3.heap.size,0,none⟩) 2 2)) 155 [x0,y0,s0,x1,y1,s1,x2,y2,s2,(u:Nat),(v:Nat),(n:Nat),x1,y1,s1,x3,y3,s3,x2,y2,s2,(u:Nat),(v:Nat),(n:Nat)];rw [aUr] at BF;have R7:=(M7.out.set 0 (.slice (some ⟨v3.heap.size,0,none⟩) 2 2)).alloc (.cells #[x0,y0,s0,x1,y1,s1,x2,y2,s2,(u:Nat),(v:Nat),(n:Nat),x1,y1,s1,x3,y3,s3,x2,y2,s2,(u:Nat),(v:Nat),(n:Nat)] 155);have XF:Ext w ((v3.setCell ⟨w.heap.size+7,0,none⟩ (.slice (some ⟨v3.heap.size,0,none⟩) 2 2)).alloc (.cells #[x0,y0,s0,x1,y1,s1,x2,y2,s2,(u:Nat),(v:Nat),(n:Nat),x1,y1,s1,x3,y3,s3,x2,y2,s2,(u:Nat),(v:Nat),(n:Nat)] 155)):=Ext.alloc (aTk T.out.ext (by simp only;omega) _) _;have dl:=hH i7.out;have DF:((v3.setCell ⟨w.heap.size+7,0,none⟩ (.slice (some ⟨v3.heap.size,0,none⟩) 2 2)).alloc (.cells #[x0,y0,s0,x1,y1,s1,x2,y2,s2,(u:Nat),(v:Nat),(n:Nat),x1,y1,s1,x3,y3,s3,x2,y2,s2,(u:Nat),(v:Nat),(n:Nat)] 155)).heap[D]?=some (.deferred (some [])):=(aTf (w:=(v3.setCell ⟨w.heap.size+7,0,none⟩ (.slice (some ⟨v3.heap.size,0,none⟩) 2 2))) X_ (by rw [aUr];exact dl)).trans ((aTe _ _ _ _ (by simp only;omega)).trans i7.out);have gp:(((v3.setCell ⟨w.heap.size+7,0,none⟩ (.slice (some ⟨v3.heap.size,0,none⟩) 2 2)).alloc (.cells #[x0,y0,s0,x1,y1,s1,x2,y2,s2,(u:Nat),(v:Nat),(n:Nat),x1,y1,s1,x3,y3,s3,x2,y2,s2,(u:Nat),(v:Nat),(n:Nat)] 155)).putObj D (Obj.deferred none)).cell? ⟨w.heap.size+7,0,none⟩=some (.slice (some ⟨v3.heap.size,0,none⟩) 2 2):=(aUn (w:=((v3.setCell ⟨w.heap.size+7,0,none⟩ (.slice (some ⟨v3.heap.size,0,none⟩) 2 2)).alloc (.cells #[x0,y0,s0,x1,y1,s1,x2,y2,s2,(u:Nat),(v:Nat),(n:Nat),x1,y1,s1,x3,y3,s3,x2,y2,s2,(u:Nat),(v:Nat),(n:Nat)] 155))) (aWh (by simp only;omega))).trans (R7.cell 0 rfl);have k0:Blk (((v3.setCell ⟨w.heap.size+7,0,none⟩ (.slice (some ⟨v3.heap.size,0,none⟩) 2 2)).alloc (.cells #[x0,y0,s0,x1,y1,s1,x2,y2,s2,(u:Nat),(v:Nat),(n:Nat),x1,y1,s1,x3,y3,s3,x2,y2,s2,(u:Nat),(v:Nat),(n:Nat)] 155)).putObj D (Obj.deferred none)) v3.heap.size 155 [x0,y0,s0,x1,y1,s1,x2,y2,s2,(u:Nat),(v:Nat),(n:Nat),x1,y1,s1,x3,y3,s3,x2,y2,s2,(u:Nat),(v:Nat),(n:Nat)]:=(aWh (by omega)).trans BF;refine ⟨by simp,.inl ⟨_,_,rfl,run_takeDeferred DF,?_⟩⟩;refine ⟨.slice (some ⟨v3.heap.size,0,none⟩) 2 2,by simp [results,results210,go_sem,gp],_,rfl,.inr ⟨k1.out,v3.heap.size,by have:=T.out.ext.size;omega,rfl,?_⟩,XF.grown (grownBy_putObj' _ D _) (fun k e=>by cases e;omega)⟩;rw [k2.out,k3.out,k4.out,k5.out];exact k0
 case stop=>
  rintro D cd z9 W hD - ⟨rfl,hd,hX,hB⟩ hK;have g0:=hB.cell 0 rfl;have gp:(W.putObj D (Obj.deferred none)).cell? ⟨w.heap.size+7,0,none⟩=some (.slice none 0 0):=(aUn (w:=W) (aWh (by simp only;omega))).trans g0;refine wpIn_ret ?_;refine ⟨by simp,.inl ⟨_,_,rfl,run_takeDeferred hK,?_⟩⟩;exact ⟨.slice none 0 0,by simp [results,results210,go_sem,gp],_,rfl,.inl ⟨hd,rfl⟩,hX.grown (grownBy_putObj' W D _) (fun k e=>by cases e;omega)⟩
end
section
open Go.RowKit Go.Shelf
attribute [local go_sem] aY3
theorem pA {P:Program} {Q:Exit->Act->World->Prop} {l n:Nat} {id:Nat} {a:Act} {w:World} {l':List Oper} (z:Nat) (S:World->Prop) (hm:P.follows .mixedOrders=true) (hd:lH l'=true) (hl : ¬LetsOut Q)
  (h:aE4 P l'.toArray (NoPanic Q) S z l'.length (aXf l'.length false) a w.drew):(Code.region id l'.toArray true).wpIn (rd l) n P Q a w:=by
 refine Go.wpIn_mono (wpIn_region_any hm (xL (by simpa using hd) (vE hl) _ _ _ _ ?_)) NoPanic.imp;have:=iS _ _ _ _ h
 simpa using this
def CDs (w b:Nat):Addr->Prop:=fun a=>a.block=w\/a.block=w+1\/a.block=w+2\/a.block=w+3\/a.block=w+4\/a.block=w+5\/a.block=b+1\/a.block=b+2
@[go_sem] theorem aR6 {w b k o:Nat} (h:k=w\/k=w+1\/k=w+2\/k=w+3\/k=w+4\/k=w+5\/k=b+1\/k=b+2):CDs w b ⟨k,o,none⟩:=h
theorem rR {w b N:Nat} (h:w+6<=b) (hN:b+2<N) {a:Addr} (ha:CDs w b a):a.block<N:=by
 unfold CDs at ha;omega
structure Mc where
 (a b d:V3)
 (u v n:Int)
def Mc.cs (m:Mc):List Value:=aKm m.a m.b m.d m.u m.v m.n
theorem Mc.one (m:Mc):∀u∈m.cs,u.oneCell'=true:=by
 intro u hu;simp only [Mc.cs,aKm,aTo,aTj,or_false] at hu
 rcases hu with rfl|rfl|rfl|rfl|rfl|rfl|rfl|rfl|rfl|rfl|rfl|rfl <;> rfl
theorem xS {α β : Type} {L:List α} {f g : α->List β} (h:∀a∈L,f a=g a):L.flatMap f=L.flatMap g:=by
 rw [List.flatMap_def,List.flatMap_def,List.map_congr_left h]
def gO (c:Cam) (f:Nat->Int) (n:Nat) (s:Smp) (u v:Nat):List Mc:=
 if mL c f n s u v then [⟨dK c f n s u v,dK c f n s (u+1) v,dK c f n s u (v+1),u,v,n⟩,⟨dK c f n s (u+1) v,dK c f n s (u+1) (v+1),dK c f n s u (v+1),u,v,n⟩] else []
def jO (c:Cam) (f:Nat->Int) (n:Nat) (s:Smp) (pre:List (Fin n×Fin n)):List Mc:=pre.flatMap fun p=>gO c f n s p.1 p.2
def lJ (c:Cam) (f:Nat->Int) (n:Nat) (s:Smp):List Mc:=(aTt (n*n)).flatMap fun q=>gO c f n s (q % n) (q / n)
theorem xT (c:Cam) (f:Nat->Int) (n:Nat) (s:Smp) (pre:List (Fin n×Fin n)) (x:Fin n×Fin n):jO c f n s (pre++[x])=jO c f n s pre++gO c f n s x.1 x.2:=by
 unfold jO;rw [aUk,List.flatMap_singleton]
theorem jU (c:Cam) (f:Nat->Int) (n:Nat) (s:Smp) (u v:Nat):(gO c f n s u v).length<=2:=by unfold gO;split <;> simp
theorem aDh (c:Cam) (f:Nat->Int) (n:Nat) (s:Smp) (pre:List (Fin n×Fin n)):(jO c f n s pre).length<=2*pre.length:=by
 induction pre with
 | nil=>simp [jO]
 | cons x pre ih=>
  have:=jU c f n s x.1 x.2;unfold jO at ih ⊢;rw [aU8,aTw,aUj];omega
theorem aKn (c:Cam) (f:Nat->Int) (n:Nat) (s:Smp) (hn:0<n):jO c f n s (cM n hn (n*n))=lJ c f n s:=by
 unfold jO lJ cM;rw [List.flatMap_map];refine xS fun q hq=>?_;have hd:q / n<n:=aVf (aUe.1 hq)
 show gO c f n s (q % n) (q / n % n)=_
 rw [aWu hd]
theorem xU:(Tryz.prog.info? 155).map (fun i=>(i.zero,i.size,i.bytes))=some (some (.agg ((),(),())),12,96):=by kernel_rfl
theorem sQ {α : Type} (cs : α->List Value) (e:TypeId) (sz bytes:Nat) (z:Value) (w:World) {ops:Array Oper} {rest:List Oper} {o:Oper} {a:Act} {Q:Exit->Act->World->Prop} (hg:o.guard=none) (s x:Operand) (t:TypeId)
  (hop:o.op=Op.call { callee:=Callee.builtin Builtin.append,args:=#[s,x],argTypes:=#[t,t] }) (ht:Tryz.prog.underlying t=some (.slice e))
  (hinfo:(Tryz.prog.info? e).map (fun i=>(i.zero,i.size,i.bytes))=some (some z,sz,bytes)) (hzs:z.cells.size=sz) (hsz:0<sz) (hby:bytes<=1000) (hc:∀x,(cs x).length=sz)
  (lo:Nat) (v:Value) (xs:List α) (hs:a.eval s=v) (hown:aD cs lo e sz w v xs)
  (y y' : α) (b:Nat) (hx:a.eval x = .slice (some ⟨b,0,none⟩) 2 2) (hcell:∀j u,(cs y++cs y')[j]?=some u->w.cell? ⟨b,j,none⟩=some u) (h1:∀u∈cs y++cs y',u.oneCell'=true) (hlen:xs.length<1000000) (hlo:lo<=w.heap.size)
  (hK:∀v' w',aD cs lo e sz w' v' (xs++[y,y'])->w.grownBy w' v.ownBlock->wpList aS7 ops Q rest (a.put o.dst v') w'):wpList aS7 ops Q (o::rest) a w:=by
 obtain ⟨i0,h3,h4,h5,h6⟩:=info_parts hinfo;refine wpList_append_own w hg s x t hop lo e i0 z sz bytes ht h3 h4 h5 h6 hzs hsz v xs.length _ hs hown ⟨b,0,none⟩ 2 2 (cs y++cs y') hx (by rw [aTw,hc,hc];omega) ?_ h1 ?_ ?_ hlo ?_
 ·intro j u hj
  have ea:(⟨b,0,none⟩:Addr).add j=⟨b,j,none⟩:=by
   unfold Addr.add
   split <;> simp_all
  rw [ea];exact hcell j u hj
 ·unfold maxLen;omega
 ·have:(xs.length+2)*bytes<=1000002*1000:=aT5 (by omega) hby
  omega
 ·intro v' w1 h2 h0 _
  refine hK v' w1 ?_ h0;unfold aD;rw [aTw,aUk]
  simpa using h2
def aKo (c:Cam) (f:Nat->Int) (n:Nat) (s:Smp) (w:World) (b1:Nat):List (Nat×TypeId×List Value):=
 [(w.heap.size,35,c),(w.heap.size+1,125,f),(w.heap.size+2,214,[(),(),.int .i64 1]),(w.heap.size+3,3,[(n:Nat)]),(w.heap.size+4,3,[s.lx]),(w.heap.size+5,3,[s.ly]),(b1+1,3,[(n:Nat)]),(b1+3,3,[(n:Nat)])]
theorem aJd (c:Cam) (f:Nat->Int) (n:Nat) (s:Smp) (w:World) (b1:Nat) (hb:w.heap.size+6<=b1):∀p∈aKo c f n s w b1,p.2.1≠155/\p.1≠b1+2:=by
 intro p hp;simp only [aKo,aTo,aTj,or_false] at hp
 rcases hp with rfl|rfl|rfl|rfl|rfl|rfl|rfl|rfl <;> exact ⟨by simp,by simp only [ne_eq];omega⟩
theorem xV (w:World):R_ 209 #[.agg #[(),(),.int .i64 1]] w (.bool true):=by
 have I1:inB 1 1 64=true:=rfl;have I2:inB 0 0 0=true:=rfl
 have eb:bits .and .i64 1 0=0:=by decide
 go_enter func209,ntmps209;go_wp2_with (go_at_call 92;with_reducible first|(refine z_ (aH I1 _) ?_)|(refine z_ (aH I2 _) ?_));go_ret;exact ⟨rfl,X_⟩
theorem aDi (c:Cam) (f:Nat->Int) (n:Nat) (s:Smp) (hn:1<=n/\n<=8) (w:World) :
  Calls aS7 156 #[.agg c,.agg f,.agg #[(),(),.int .i64 1],(n:Nat),s.lx,s.ly] w fun e w'=>∃r,e = .returned r/\aD Mc.cs w.heap.size 155 12 w' r (lJ c f n s)/\Ext w w':=by
 have C2:∀W:World,Calls aS7 165 #[(n:Nat)] W fun e w'=>e = .returned (.func (.func 217) #[] #[.pointer (some ⟨W.heap.size,0,none⟩)])/\w'=W.alloc (.cells #[(n:Nat)] 3):=fun W=>(callsIn_wide (n:=0)).1 (uI n 0 W);obtain ⟨C2,I1⟩:=h2_ C2 (aG.2 (show (1:Int)<=(n:Int)/\(n:Int)<=8 by omega))
 have a8:0<n:=by omega
 have q0:=aTc w 35 c;have q1:=aTc (w.alloc (.cells c 35)) 125 f;have q2:=aTc ((w.alloc (.cells c 35)).alloc (.cells f 125)) 214 [(),(),.int .i64 1];have q3:=aTc (((w.alloc (.cells c 35)).alloc (.cells f 125)).alloc (.cells #[(),(),.int .i64 1] 214)) 3 [(n:Nat)];have q4:=aTc ((((w.alloc (.cells c 35)).alloc (.cells f 125)).alloc (.cells #[(),(),.int .i64 1] 214)).alloc (.cells #[(n:Nat)] 3)) 3 [s.lx];have q5:=aTc (((((w.alloc (.cells c 35)).alloc (.cells f 125)).alloc (.cells #[(),(),.int .i64 1] 214)).alloc (.cells #[(n:Nat)] 3)).alloc (.cells #[s.lx] 3)) 3 [s.ly];simp only [aS4] at q1 q2 q3 q4 q5;have r0:=q0.ext (show Ext (w.alloc (.cells c 35)) ((((((w.alloc (.cells c 35)).alloc (.cells f 125)).alloc (.cells #[(),(),.int .i64 1] 214)).alloc (.cells #[(n:Nat)] 3)).alloc (.cells #[s.lx] 3)).alloc (.cells #[s.ly] 3)) from X_);have R0:=hid r0;have r1:=q1.ext (show Ext ((w.alloc (.cells c 35)).alloc (.cells f 125)) ((((((w.alloc (.cells c 35)).alloc (.cells f 125)).alloc (.cells #[(),(),.int .i64 1] 214)).alloc (.cells #[(n:Nat)] 3)).alloc (.cells #[s.lx] 3)).alloc (.cells #[s.ly] 3)) from X_);have R1:=hid r1;have r2:=q2.ext (show Ext (((w.alloc (.cells c 35)).alloc (.cells f 125)).alloc (.cells #[(),(),.int .i64 1] 214)) ((((((w.alloc (.cells c 35)).alloc (.cells f 125)).alloc (.cells #[(),(),.int .i64 1] 214)).alloc (.cells #[(n:Nat)] 3)).alloc (.cells #[s.lx] 3)).alloc (.cells #[s.ly] 3)) from X_);have R2:=hid r2;have r3:=q3.ext (show Ext ((((w.alloc (.cells c 35)).alloc (.cells f 125)).alloc (.cells #[(),(),.int .i64 1] 214)).alloc (.cells #[(n:Nat)] 3)) ((((((w.alloc (.cells c 35)).alloc (.cells f 125)).alloc (.cells #[(),(),.int .i64 1] 214)).alloc (.cells #[(n:Nat)] 3)).alloc (.cells #[s.lx] 3)).alloc (.cells #[s.ly] 3)) from X_);have R3:=hid r3;have r4:=q4.ext (show Ext (((((w.alloc (.cells c 35)).alloc (.cells f 125)).alloc (.cells #[(),(),.int .i64 1] 214)).alloc (.cells #[(n:Nat)] 3)).alloc (.cells #[s.lx] 3)) ((((((w.alloc (.cells c 35)).alloc (.cells f 125)).alloc (.cells #[(),(),.int .i64 1] 214)).alloc (.cells #[(n:Nat)] 3)).alloc (.cells #[s.lx] 3)).alloc (.cells #[s.ly] 3)) from X_);have R4:=hid r4;have r5:=q5.ext (show Ext ((((((w.alloc (.cells c 35)).alloc (.cells f 125)).alloc (.cells #[(),(),.int .i64 1] 214)).alloc (.cells #[(n:Nat)] 3)).alloc (.cells #[s.lx] 3)).alloc (.cells #[s.ly] 3)) ((((((w.alloc (.cells c 35)).alloc (.cells f 125)).alloc (.cells #[(),(),.int .i64 1] 214)).alloc (.cells #[(n:Nat)] 3)).alloc (.cells #[s.lx] 3)).alloc (.cells #[s.ly] 3)) from X_);obtain ⟨R5,X0⟩:=h2_ r5 (show Ext w ((((((w.alloc (.cells c 35)).alloc (.cells f 125)).alloc (.cells #[(),(),.int .i64 1] 214)).alloc (.cells #[(n:Nat)] 3)).alloc (.cells #[s.lx] 3)).alloc (.cells #[s.ly] 3)) from X_);clear q0 q1 q2 q3 q4 q5 r0 r1 r2 r3 r4 r5;refine (callsIn_wide (n:=3)).1 ?_;refine callsIn_of_wp_marks func156 rfl trivial ?_ rfl;simp only [ntmps156,aX8,aUj,aVc,aWa,bA6,aYa,aYb,aZl,aYu,aU1,aYi];refine wpIn_wide.2 ?_;go_wp2_with fail;refine r_ (xV _) fun w1 x1=>?_;have z1:=x1.size;simp only [aS4] at z1;have S0:=R0.ext x1;have S1:=R1.ext x1;have S2:=R2.ext x1;have S3:=R3.ext x1;have S4:=R4.ext x1;have S5:=R5.ext x1;obtain ⟨X1,c3,c2,l2,l3⟩:=m5_ (hid (X0.trans x1)) (S3.cell 0 rfl) (S2.cell 2 rfl) S2.lt S3.lt;obtain ⟨H0,H1,H2,H3,H4,H5⟩:=h6_ S0 S1 S2 S3 S4 S5;clear S0 S1 S2 S3 S4 S5 x1 R0 R1 R2 R3 R4 R5 X0;go_wp2_with (go_at_call 92;refine z_ (aH I1 _) ?_);refine (C2 _).mono ?_;rintro e _ ⟨rfl,rfl⟩;go_wp2_with fail;have q6:=aTc w1 155 [];have q7:=aTc (w1.alloc (.cells #[] 155)) 3 [(n:Nat)];have q8:=aTc ((w1.alloc (.cells #[] 155)).alloc (.cells #[(n:Nat)] 3)) 148 [.slice (some ⟨w1.heap.size,0,none⟩) 0 0];have q9:=aTc (((w1.alloc (.cells #[] 155)).alloc (.cells #[(n:Nat)] 3)).alloc (.cells #[.slice (some ⟨w1.heap.size,0,none⟩) 0 0] 148)) 3 [(n:Nat)];simp only [aS4] at q7 q8 q9;have r6:=q6.ext (show Ext (w1.alloc (.cells #[] 155)) ((((w1.alloc (.cells #[] 155)).alloc (.cells #[(n:Nat)] 3)).alloc (.cells #[.slice (some ⟨w1.heap.size,0,none⟩) 0 0] 148)).alloc (.cells #[(n:Nat)] 3)) from X_);have r7:=q7.ext (show Ext ((w1.alloc (.cells #[] 155)).alloc (.cells #[(n:Nat)] 3)) ((((w1.alloc (.cells #[] 155)).alloc (.cells #[(n:Nat)] 3)).alloc (.cells #[.slice (some ⟨w1.heap.size,0,none⟩) 0 0] 148)).alloc (.cells #[(n:Nat)] 3)) from X_);have r8:=q8.ext (show Ext (((w1.alloc (.cells #[] 155)).alloc (.cells #[(n:Nat)] 3)).alloc (.cells #[.slice (some ⟨w1.heap.size,0,none⟩) 0 0] 148)) ((((w1.alloc (.cells #[] 155)).alloc (.cells #[(n:Nat)] 3)).alloc (.cells #[.slice (some ⟨w1.heap.size,0,none⟩) 0 0] 148)).alloc (.cells #[(n:Nat)] 3)) from X_);have r9:=q9.ext (show Ext ((((w1.alloc (.cells #[] 155)).alloc (.cells #[(n:Nat)] 3)).alloc (.cells #[.slice (some ⟨w1.heap.size,0,none⟩) 0 0] 148)).alloc (.cells #[(n:Nat)] 3)) ((((w1.alloc (.cells #[] 155)).alloc (.cells #[(n:Nat)] 3)).alloc (.cells #[.slice (some ⟨w1.heap.size,0,none⟩) 0 0] 148)).alloc (.cells #[(n:Nat)] 3)) from X_);have xx:Ext w1 ((((w1.alloc (.cells #[] 155)).alloc (.cells #[(n:Nat)] 3)).alloc (.cells #[.slice (some ⟨w1.heap.size,0,none⟩) 0 0] 148)).alloc (.cells #[(n:Nat)] 3)):=X_;have r0:=H0.ext xx;have r1:=H1.ext xx;have r2:=H2.ext xx;have r3:=H3.ext xx;have r4:=H4.ext xx;have r5:=H5.ext xx;have X0:=X1.trans xx
 have z0:((((w1.alloc (.cells #[] 155)).alloc (.cells #[(n:Nat)] 3)).alloc (.cells #[.slice (some ⟨w1.heap.size,0,none⟩) 0 0] 148)).alloc (.cells #[(n:Nat)] 3)).heap.size=w1.heap.size+4:=by simp
 clear q6 q7 q8 q9 xx H0 H1 H2 H3 H4 H5
 obtain ⟨W0,h7⟩:=e_ ((((w1.alloc (.cells #[] 155)).alloc (.cells #[(n:Nat)] 3)).alloc (.cells #[.slice (some ⟨w1.heap.size,0,none⟩) 0 0] 148)).alloc (.cells #[(n:Nat)] 3))
 rw [h7] at r0 r1 r2 r3 r4 r5 r6 r7 r8 r9 X0 z0
 try simp only [aS4] at h7
 rw [h7];clear h7
 have z6:w.heap.size+6<=w1.heap.size:=by omega
 have h9:RB Mc.cs 155 12 148 (fun v=>[v]) w (w1.heap.size+2) (aKo c f n s w w1.heap.size) W0 (jO c f n s []):=by
  refine ⟨X0,fun p hp=>?_,by omega,_,r8,aD.fresh0 (by omega) r6⟩;simp only [aKo,aTo,aTj,or_false] at hp
  rcases hp with rfl|rfl|rfl|rfl|rfl|rfl|rfl|rfl <;> assumption
 have h9:=hid h9;have NB:=r9.cell 0 rfl;clear r0 r1 r2 r3 r4 r5 r6 r7 r8 r9 X0 C2 X1 c3 c2 l2 l3;refine (wpIn_wide (n:=3)).1 ?_
 refine' wpIn_rangeFunc_ownG rfl (by omega) (gf:=217) (lb:=#[.pointer (some ⟨w1.heap.size+3,0,none⟩)]) rfl trivial (enters_of func217 (by kernel_rfl) rfl)
  (oV n a8 (by omega) _ (w1.heap.size+3) W0 (by omega) NB) (fun h k=>KB.trans h k) ?hKb (aZ1 _ _) (fun _=>rfl)
  (fun h0 W=>RB Mc.cs 155 12 148 (fun v=>[v]) w (w1.heap.size+2) (aKo c f n s w w1.heap.size) W (jO c f n s h0))
  (fun cd h0 W=>False) ?owns ?ownsx h9 _ ?assign ?body ?done ?stop
 case hKb=>exact fun W l o o' hl ho _ _=>aWh (by omega)
 case assign=>
  intro l x W K hK
  gi_wp2
  exact hK
 case owns=>exact fun h0 A B row h hg hr=>RB.owns (by omega) (jO c f n s) h0 A B row h hg hr
 case ownsx=>exact fun cd h0 A B row h hg hr=>h
 case stop=>
  rintro D cd h0 W hD - h hK;exact h.elim
 case body=>
  intro l h0 x W hI b0;have HI:=hid hI
  obtain ⟨i,hi⟩:=e_ (x.1:Nat)
  obtain ⟨j,hj⟩:=e_ (x.2:Nat)
  have a6:i<n:=hi▸x.1.2;have a7:j<n:=hj▸x.2.2;have ZW:=hI.ext.size;obtain ⟨tv,h1,h2⟩:=hI.tb;obtain ⟨ta,tc,rfl,a1⟩:=aD.form h2;have g0:=h1.cell 0 rfl;have gl:=h1.lt;obtain ⟨a3,a4⟩:=h2_ h1 h2;have m0:=hI.fx _ (.head _);obtain ⟨x4,x5,x6,x7,x8,x9,z2⟩:=m0.q7;have b1:=m0.lt;have m1:=hI.fx _ (.tail _ (.head _));obtain ⟨z3,z4,z5,z7,z8,z9,y0,y1,y2,y3,h5,h6⟩:=m1.q12;have b2:=m1.lt;have m2:=hI.fx _ (.tail _ (.tail _ (.head _)));obtain ⟨y4,y5,y6⟩:=m2.q3;have b3:=m2.lt;have m3:=hI.fx _ (.tail _ (.tail _ (.tail _ (.head _))));have y7:=m3.cell 0 rfl;have b4:=m3.lt;have m4:=hI.fx _ (.tail _ (.tail _ (.tail _ (.tail _ (.head _)))));have y8:=m4.cell 0 rfl;have b5:=m4.lt;have m5:=hI.fx _ (.tail _ (.tail _ (.tail _ (.tail _ (.tail _ (.head _))))));have y9:=m5.cell 0 rfl;have b6:=m5.lt;have m6:=hI.fx _ (.tail _ (.tail _ (.tail _ (.tail _ (.tail _ (.tail _ (.head _)))))));have a0:=m6.cell 0 rfl;have b7:=m6.lt
  try simp only [aKo] at b1 b2 b3 b4 b5 b6 b7
  have x3:=aDh c f n s h0;have a9:n*n<=64:=aT5 (by omega:n<=8) (by omega:n<=8);have h8:=hid (show (jO c f n s h0).length<1000000 by omega);rw [hi,hj];clear hI h1 h2 m0 m1 m2 m3 m4 m5 m6 x3 a9;refine wpIn_block ?_;refine pA 20 (fun w'=>∃d,w'=gA (CDs w.heap.size w1.heap.size) W d) (by kernel_rfl) (by kernel_rfl) (fun ⟨_,_,h⟩=>h) ?_;refine gB (fuel:=2) [0,1,2,3,4,5,6,7,8,9,10,11,12,13,14,15,16,17] [18] (SC.drew _ _) ?_
  try simp only [Act.put,aTa,aTh,aTg]
  simp only [aTu,aTl,aS6,aS0,aS1]
  show wpQuiet _ _ _ _ [_,_,_,_,_,_,_,_,_,_,_,_,_,_,_,_,_,_] _
  repeat (go_big_quiet_step (fail))
  refine wpQuiet_nil ?_;intro e he;simp only [aTo,aTj,or_false] at he;subst he
  (unfold gS;simp only [aS6,aS1,aS0,aS5];refine ⟨_,rfl,fun K hK=>?_⟩)
  go_wp2_with fail;refine (aA8 c f n s i j (by omega) a6 a7 _).mono ?_;rintro e wy ⟨r,rfl,hR,x2⟩;have yy:Ext W wy:=aS8 (aUa (aTd _)) x2
  have h3:gO c f n s (x.1:Nat) (x.2:Nat)=gO c f n s i j:=by rw [hi,hj]
  obtain ⟨HM,T,U1,U2,YY⟩:=h5_ h3 (HI.to yy) (a3.ext yy) (aD.ext a4 yy) yy;have b8:=yy.size;clear h3 x2 yy x4 x5 x6 x7 x8 x9 z2 z3 z4 z5 z7 z8 z9 y0 y1 y2 y3 h5 h6 y4 y5 y6 y7 y8 y9 a0
  rcases hR with ⟨hd,rfl⟩|⟨hd,g,gl2,rfl,hB⟩
  ·have x0:gO c f n s i j=[]:=by unfold gO;rw [hd];rfl
   go_wp2;refine hK _ _ (.inr (SC.blocks fun a ha=>YY.block (rR z6 gl ha))) ?_;clear hK K;refine gB (fuel:=1) [] [19] (SC.blocks fun a ha=>YY.block (rR z6 gl ha)) ?_;refine wpQuiet_nil ?_;intro e he;simp only [aTo,aTj,or_false] at he;subst he
   (unfold gS;simp only [aS6,aS1,aS0,aS5];refine ⟨_,rfl,fun K hK=>?_⟩)
   obtain ⟨i0,a5,-,-,-⟩:=info_parts xU;refine wpList_append_own_none rfl _ _ 148 rfl w.heap.size 155 i0 12 underlying148 a5 _ _ _ rfl U2 rfl ?_;go_wp2;refine hK _ _ (.inr (SC.blocks fun a ha=>YY.block (rR z6 gl ha))) ?_;clear hK K;have k0:=U1.cell 0 rfl;have k1:=U1.free 0;have k2:=U1.lt;refine gB (fuel:=0) [] [20] (SC.blocks fun a ha=>YY.block (rR z6 gl ha)) ?_;refine wpQuiet_nil ?_;intro e he;simp only [aTo,aTj,or_false] at he;subst he
   (unfold gS;simp only [aS6,aS1,aS0,aS5];refine ⟨_,rfl,fun K hK=>?_⟩)
   go_wp2;refine l_ hK (xI ?_);clear hK K;have T4:=T.push (aJd c f n s w w1.heap.size z6) (by decide) 0 rfl U1 U2 (aTd _) (grownBy.refl _ _) U2;refine ⟨((Ext.others YY).trans (aXq _ _ _)).from _,(T4.fx _ (.tail _ (.tail _ (.tail _ (.tail _ (.tail _ (.tail _ (.tail _ (.head _))))))))).trans (HI.fx _ (.tail _ (.tail _ (.tail _ (.tail _ (.tail _ (.tail _ (.tail _ (.head _))))))))).symm,?_⟩
   show RB _ _ _ _ _ _ _ _ _ (jO c f n s (h0++[x]))
   rw [xT,HM,x0,List.append_nil];exact T4
  ·have x0:gO c f n s i j=[⟨dK c f n s i j,dK c f n s (i+1) j,dK c f n s i (j+1),i,j,n⟩,⟨dK c f n s (i+1) j,dK c f n s (i+1) (j+1),dK c f n s i (j+1),i,j,n⟩]:=by unfold gO;rw [hd];rfl
   have HB:=hid hB;clear hB;go_wp2;refine hK _ _ (.inr (SC.blocks fun a ha=>YY.block (rR z6 gl ha))) ?_;clear hK K;refine gB (fuel:=1) [] [19] (SC.blocks fun a ha=>YY.block (rR z6 gl ha)) ?_;refine wpQuiet_nil ?_;intro e he;simp only [aTo,aTj,or_false] at he;subst he
   (unfold gS;simp only [aS6,aS1,aS0,aS5];refine ⟨_,rfl,fun K hK=>?_⟩)
   refine sQ Mc.cs 155 12 96 _ _ rfl _ _ 148 rfl underlying148 xU rfl (by decide) (by decide) (fun _=>rfl) w.heap.size _ (jO c f n s h0) rfl U2
    ⟨dK c f n s i j,dK c f n s (i+1) j,dK c f n s i (j+1),i,j,n⟩ ⟨dK c f n s (i+1) j,dK c f n s (i+1) (j+1),dK c f n s i (j+1),i,j,n⟩ g rfl (fun k u hk=>HB.cell k hk) (fun u hu=>(aU5.1 hu).elim (Mc.one _ u) (Mc.one _ u)) h8 (by have:=T.ext.size;omega) ?_
   intro v8 w8 h4 hg;obtain ⟨va,vc,rfl,_⟩:=aD.form h4;have G1:=U1.grown hg (cD U1 (by decide) U2);have k0:=G1.cell 0 rfl;have k1:=G1.free 0;have k2:=G1.lt
   have hC:∀a:Addr,CDs w.heap.size w1.heap.size a->w8.heap[a.block]?=W.heap[a.block]?:=fun a ha=>by
    have hr:some a.block≠(Value.slice ta (jO c f n s h0).length tc).ownBlock:=by
     rcases ha with h|h|h|h|h|h|h|h
     ·rw [h];exact cD (T.fx _ (.head _)) (by simp) U2
     ·rw [h];exact cD (T.fx _ (.tail _ (.head _))) (by simp) U2
     ·rw [h];exact cD (T.fx _ (.tail _ (.tail _ (.head _)))) (by simp) U2
     ·rw [h];exact cD (T.fx _ (.tail _ (.tail _ (.tail _ (.head _))))) (by simp) U2
     ·rw [h];exact cD (T.fx _ (.tail _ (.tail _ (.tail _ (.tail _ (.head _)))))) (by simp) U2
     ·rw [h];exact cD (T.fx _ (.tail _ (.tail _ (.tail _ (.tail _ (.tail _ (.head _))))))) (by simp) U2
     ·rw [h];exact cD (T.fx _ (.tail _ (.tail _ (.tail _ (.tail _ (.tail _ (.tail _ (.head _)))))))) (by simp) U2
     ·rw [h];exact cD U1 (by decide) U2
    have hl:=rR z6 gl ha;exact (hg.block _ (aUq hl b8) hr).trans (YY.block hl)
   have a2:=hid hC;clear hC;go_wp2;refine hK _ _ (.inr (SC.blocks a2)) ?_;clear hK K;refine gB (fuel:=0) [] [20] (SC.blocks a2) ?_;refine wpQuiet_nil ?_;intro e he;simp only [aTo,aTj,or_false] at he;subst he
   (unfold gS;simp only [aS6,aS1,aS0,aS5];refine ⟨_,rfl,fun K hK=>?_⟩)
   go_wp2;refine l_ hK (xI ?_);clear hK K;have T4:=T.push (aJd c f n s w w1.heap.size z6) (by decide) 0 rfl U1 U2 (aTd _) hg h4;simp only [aTw,aUj,aVc,aT1,aWa] at T4;refine ⟨(((Ext.others YY).trans (aZg hg (aDg (aTd _) U2))).trans (aXq _ _ _)).from _,(T4.fx _ (.tail _ (.tail _ (.tail _ (.tail _ (.tail _ (.tail _ (.tail _ (.head _))))))))).trans (HI.fx _ (.tail _ (.tail _ (.tail _ (.tail _ (.tail _ (.tail _ (.tail _ (.head _))))))))).symm,?_⟩
   show RB _ _ _ _ _ _ _ _ _ (jO c f n s (h0++[x]))
   rw [xT,HM,x0];exact T4
 case done=>
  rintro D ys W hD rfl hI hK;rw [aKn] at hI;obtain ⟨tv,h1,h2⟩:=hI.tb;obtain ⟨ta,tc,rfl,a1⟩:=aD.form h2;have k0:=h1.cell 0 rfl;have k5:=h1.lt;have HI:=hid hI;clear hI h1;go_wp2_with fail;refine ⟨by simp,.inl ⟨_,_,rfl,run_takeDeferred hK,?_⟩⟩;refine ⟨_,results_tmp rfl _ _ _,_,rfl,?_,?_⟩
  ·exact aD.owns h2 (grownBy_putObj' W D _) (fun r e=>by cases e;exact ⟨_,hK,rfl⟩)
  ·exact HI.ext.grown (grownBy_putObj' W D _) (fun k e=>by cases e;omega)
end
theorem aKp (x y z:Int) (w:World):R_ 228 #[.agg #[x,y,z]] w (.agg #[x,y,z]):=by
 go_enter func228,ntmps228;go_wp2;exact bodyPost_ret (v:=.agg #[x,y,z]) (by simp [results,results228,go_sem]) rfl ⟨rfl,S_⟩
theorem aHi (x y z:Int) (w:World):R_ 229 #[.agg #[x,y,z],.agg #[x,y,z]] w (.bool true):=by
 go_enter func229,ntmps229;go_wp2;go_ret;exact ⟨rfl,X_⟩
theorem aMh (h:i<12):i=0\/i=1\/i=2\/i=3\/i=4\/i=5\/i=6\/i=7\/i=8\/i=9\/i=10\/i=11:=by omega
theorem gC {b:Nat} {f:Nat->Int} (hb:w.heap.size=b):bT (w.alloc (.cells f t)) b t 12 f:=
 hb▸World.rowIs_alloc _ _ _ _ fun i hi=>by rcases aMh hi with h|h|h|h|h|h|h|h|h|h|h|h <;> subst h <;> rfl
theorem aE8 (x0 x1 x2 x3 x4 x5 x6 x7 x8 x9 x10 x11:Int) (w:World) :
  R_ 182 #[.agg #[x0,x1,x2,x3,x4,x5,x6,x7,x8,x9,x10,x11]] w (.agg #[x0,x1,x2,x3,x4,x5,x6,x7,x8,x9,x10,x11]):=by
 obtain ⟨f,hf⟩:∃f:Nat->Int,f=fun i=>[x0,x1,x2,x3,x4,x5,x6,x7,x8,x9,x10,x11].getD i 0:=⟨_,rfl⟩
 have f0:f 0=x0:=by subst hf;rfl
 have f1:f 1=x1:=by subst hf;rfl
 have f2:f 2=x2:=by subst hf;rfl
 have f3:f 3=x3:=by subst hf;rfl
 have f4:f 4=x4:=by subst hf;rfl
 have f5:f 5=x5:=by subst hf;rfl
 have f6:f 6=x6:=by subst hf;rfl
 have f7:f 7=x7:=by subst hf;rfl
 have f8:f 8=x8:=by subst hf;rfl
 have f9:f 9=x9:=by subst hf;rfl
 have h0:f 10=x10:=by subst hf;rfl
 have h4:f 11=x11:=by subst hf;rfl
 clear hf;rw [<-f0,<-f1,<-f2,<-f3,<-f4,<-f5,<-f6,<-f7,<-f8,<-f9,<-h0,<-h4];clear f0 f1 f2 f3 f4 f5 f6 f7 f8 f9 h0 h4;go_enter func182,ntmps182;go_wp2
 go_loopw [4] (fun i wr=>∃k:Nat,k<=4/\i = .int .i64 k/\Ext w wr/\bT wr w.heap.size 130 12 f/\bT wr (w.heap.size+1) 123 12 (fun _=>0)/\bT wr (w.heap.size+1+1) 123 12 (mI f (k*3))) (fun i _=>4 - (intOf i).toNat)
 case atStart=>
  refine ⟨0,by omega,rfl,X_,?_,?_,?_⟩
  ·exact ((gC rfl).alloc _).alloc _
  ·exact (gC (f:=fun _=>0) (by simp)).alloc _
  ·exact bT.zero (gC (f:=fun _=>0) (by simp))
 case round=>
  obtain ⟨k,hk,rfl,hE,h1,h2,h3⟩:=hrel
  by_cases q1:k<4
  ·have c0:=h1.cell (i:=k*3) (by omega)
   have c1:=h1.cell (i:=k*3+1) (by omega);have c2:=h1.cell (i:=k*3+2) (by omega);obtain ⟨H1,H2,H3,HE⟩:=h4_ h1 h2 h3 hE;clear h1 h2 h3 hE;go_wp2_with fail;refine r_ (aKp (f (k*3)) (f (k*3+1)) (f (k*3+2)) _) fun w2 y2=>?_;have h3:=H3.ext y2;have d0:=h3.cell (i:=k*3) (by omega);have d1:=h3.cell (i:=k*3+1) (by omega);have d2:=h3.cell (i:=k*3+2) (by omega);have e0:=h3.frozen (k*3);have e1:=h3.frozen (k*3+1);have e2:=h3.frozen (k*3+2);obtain ⟨G1,G2,G3,GE⟩:=h4_ (H1.ext y2) (H2.ext y2) h3 (HE.trans y2);clear h3 H1 H2 H3 HE y2;go_wp2;go_roundw
   case rel=>
    refine ⟨k+1,by omega,by go_num,?_,?_,?_,?_⟩
    ·have hE:=GE.out
     exact S_
    ·exact ((G1.other (by simp;omega) _).other (by simp;omega) _).other (by simp;omega) _
    ·exact ((G2.other (by simp) _).other (by simp) _).other (by simp) _
    ·rw [Nat.add_mul,aVm]
     exact bT.step (bT.step (bT.step G3 rfl rfl) rfl rfl) rfl rfl
   case measure=>simp [intOf];omega
  ·obtain rfl:k=4:=by omega
   have h3:=h3.full;obtain ⟨c0,d0,e0,c1,d1,e1,c2,d2,e2,c3,d3,e3⟩:=m12_ (h3.cell (i:=0) (by decide)) (h2.cell (i:=0) (by decide)) (h2.frozen 0) (h3.cell (i:=1) (by decide)) (h2.cell (i:=1) (by decide)) (h2.frozen 1) (h3.cell (i:=2) (by decide)) (h2.cell (i:=2) (by decide)) (h2.frozen 2) (h3.cell (i:=3) (by decide)) (h2.cell (i:=3) (by decide)) (h2.frozen 3);obtain ⟨c4,d4,e4,c5,d5,e5,c6,d6,e6,c7,d7,e7⟩:=m12_ (h3.cell (i:=4) (by decide)) (h2.cell (i:=4) (by decide)) (h2.frozen 4) (h3.cell (i:=5) (by decide)) (h2.cell (i:=5) (by decide)) (h2.frozen 5) (h3.cell (i:=6) (by decide)) (h2.cell (i:=6) (by decide)) (h2.frozen 6) (h3.cell (i:=7) (by decide)) (h2.cell (i:=7) (by decide)) (h2.frozen 7);obtain ⟨c8,d8,e8,c9,d9,e9,h5,h7,h9,h6,h8,q0⟩:=m12_ (h3.cell (i:=8) (by decide)) (h2.cell (i:=8) (by decide)) (h2.frozen 8) (h3.cell (i:=9) (by decide)) (h2.cell (i:=9) (by decide)) (h2.frozen 9) (h3.cell (i:=10) (by decide)) (h2.cell (i:=10) (by decide)) (h2.frozen 10) (h3.cell (i:=11) (by decide)) (h2.cell (i:=11) (by decide)) (h2.frozen 11);have HE:=hid hE;clear h1 h2 h3 hE;go_wp2;exact bodyPost_ret (v:=.agg f) (by simp [results,results182,go_sem, *]) rfl ⟨rfl,by have hE:=HE.out;exact S_⟩
theorem aDj (x0 x1 x2 x3 x4 x5 x6 x7 x8 x9 x10 x11:Int) (w:World) :
  R_ 185 #[.agg #[x0,x1,x2,x3,x4,x5,x6,x7,x8,x9,x10,x11],.agg #[x0,x1,x2,x3,x4,x5,x6,x7,x8,x9,x10,x11]] w (.bool true):=by
 obtain ⟨f,hf⟩:∃f:Nat->Int,f=fun i=>[x0,x1,x2,x3,x4,x5,x6,x7,x8,x9,x10,x11].getD i 0:=⟨_,rfl⟩
 have f0:f 0=x0:=by subst hf;rfl
 have f1:f 1=x1:=by subst hf;rfl
 have f2:f 2=x2:=by subst hf;rfl
 have f3:f 3=x3:=by subst hf;rfl
 have f4:f 4=x4:=by subst hf;rfl
 have f5:f 5=x5:=by subst hf;rfl
 have f6:f 6=x6:=by subst hf;rfl
 have f7:f 7=x7:=by subst hf;rfl
 have f8:f 8=x8:=by subst hf;rfl
 have f9:f 9=x9:=by subst hf;rfl
 have h0:f 10=x10:=by subst hf;rfl
 have h3:f 11=x11:=by subst hf;rfl
 clear hf;rw [<-f0,<-f1,<-f2,<-f3,<-f4,<-f5,<-f6,<-f7,<-f8,<-f9,<-h0,<-h3];clear f0 f1 f2 f3 f4 f5 f6 f7 f8 f9 h0 h3;go_enter func185,ntmps185;go_wp2
 go_loopw [5] (fun i wr=>∃k:Nat,k<=4/\i = .int .i64 k/\Ext w wr/\bT wr w.heap.size 123 12 f/\bT wr (w.heap.size+1) 123 12 f) (fun i _=>4 - (intOf i).toNat)
 case atStart=>
  exact ⟨0,by omega,rfl,X_,(gC rfl).alloc _,gC (by simp)⟩
 case round=>
  obtain ⟨k,hk,rfl,hE,h1,h2⟩:=hrel
  by_cases h4:k<4
  ·have c0:=h1.cell (i:=k*3) (by omega)
   have c1:=h1.cell (i:=k*3+1) (by omega);have c2:=h1.cell (i:=k*3+2) (by omega);obtain ⟨d0,d1,d2,s1,s2⟩:=m5_ (h2.cell (i:=k*3) (by omega)) (h2.cell (i:=k*3+1) (by omega)) (h2.cell (i:=k*3+2) (by omega)) h1.lt h2.lt;obtain ⟨H1,H2,HE⟩:=h3_ h1 h2 hE;clear h1 h2 hE;go_wp2;refine cY ?_
   repeat (go_big_quiet_step ((go_at_call 229;exact cR (aHi _ _ _ _))))
   refine wpQuiet_nil ?_;intro w1 y1;go_wp2;go_roundw
   case rel=>exact ⟨k+1,by omega,by go_num,HE.trans y1,H1.ext y1,H2.ext y1⟩
   case measure=>simp [intOf];omega
  ·go_wp2
   go_ret;exact ⟨rfl,hE⟩
theorem vH (x0 x1 x2 x3 x4 x5 x6 x7 x8 x9 x10 x11:Int) (w:World) :
  R_ 128 #[.agg #[x0,x1,x2,x3,x4,x5,x6,x7,x8,x9,x10,x11]] w (.agg #[x0,x1,x2,x3,x4,x5,x6,x7,x8,x9,x10,x11]):=by
 go_enter func128,ntmps128;go_wp2_with fail;refine r_ (aE8 x0 x1 x2 x3 x4 x5 x6 x7 x8 x9 x10 x11 _) fun w1 h1=>?_;obtain ⟨c1,f1⟩:=h1.cells;have z1:=h1.size;simp only [aS4] at z1;have E1:Ext w w1:=aS8 X_ h1
 have k1:w.heap.size<w1.heap.size:=by omega
 have k2:w.heap.size+1<w1.heap.size:=by omega
 have k3:w.heap.size+1+1<w1.heap.size:=by omega
 go_wp2;exact bodyPost_ret (v:=.agg #[x0,x1,x2,x3,x4,x5,x6,x7,x8,x9,x10,x11]) (by simp [results,results128,go_sem, *]) rfl ⟨rfl,S_⟩
theorem sR (x0 x1 x2 x3 x4 x5 x6 x7 x8 x9 x10 x11:Int) (w:World) :
  R_ 131 #[.agg #[x0,x1,x2,x3,x4,x5,x6,x7,x8,x9,x10,x11],.agg #[x0,x1,x2,x3,x4,x5,x6,x7,x8,x9,x10,x11]] w (.bool true):=by
 go_enter func131,ntmps131;go_wp2_with fail;refine r_ (aDj x0 x1 x2 x3 x4 x5 x6 x7 x8 x9 x10 x11 _) fun w1 h1=>?_;go_wp2;go_ret;exact ⟨rfl,aS8 X_ h1⟩
def C1e (b:Nat):Addr->Prop:=fun a=>a.block=b
@[go_sem] theorem aR7 {b o:Nat} (h:k=b):C1e b ⟨k,o,none⟩:=h
theorem pR (x y z k l m t:Int) (ht:0<=t/\t<=16) (w:World) :
  R_ 211 #[.agg #[x,y,z],.agg #[k,l,m],t,.int .i64 16] w (.agg #[(gZ x k t 16),(gZ y l t 16),(gZ z m t 16)]):=by
 obtain ⟨ux,h4⟩:=e_ (cl x)
 have q5:=dB x;rw [h4] at q5
 obtain ⟨uy,h5⟩:=e_ (cl y)
 have q6:=dB y;rw [h5] at q6
 obtain ⟨uz,h6⟩:=e_ (cl z)
 have q7:=dB z;rw [h6] at q7
 obtain ⟨uk,h1⟩:=e_ (cl k)
 have h8:=dB k;rw [h1] at h8
 obtain ⟨ul,h2⟩:=e_ (cl l)
 have h9:=dB l;rw [h2] at h9
 obtain ⟨um,h3⟩:=e_ (cl m)
 have q4:=dB m;rw [h3] at q4;have p0:=bK (A:=16) (B:=1000000) (a:=16 - t) (b:=ux) (by omega) q5
 obtain ⟨q0,e0⟩:=e_ ((16 - t)*ux)
 rw [e0] at p0;have r0:=bK (A:=16) (B:=1000000) (a:=t) (b:=uk) (by omega) h8
 obtain ⟨s0,g0⟩:=e_ (t*uk)
 rw [g0] at r0
 have x0:gZ x k t 16=bU (q0+s0) 16:=by unfold gZ;rw [h4,h1,aU7 ux,aU7 uk,e0,g0]
 rw [x0];obtain ⟨M0,N0,S0,I0⟩:=h4_ (show wrap64 ((16 - t)*ux)=q0 by rw [e0];exact aF (by omega) (by omega)) (show wrap64 (t*uk)=s0 by rw [g0];exact aF (by omega) (by omega)) (show wrap64 (q0+s0)=q0+s0 from aF (by omega) (by omega)) (I64.of (n:=q0+s0) (m:=40000000) (by omega) (by decide));have p1:=bK (A:=16) (B:=1000000) (a:=16 - t) (b:=uy) (by omega) q6
 obtain ⟨q1,e1⟩:=e_ ((16 - t)*uy)
 rw [e1] at p1;have r1:=bK (A:=16) (B:=1000000) (a:=t) (b:=ul) (by omega) h9
 obtain ⟨s1,g1⟩:=e_ (t*ul)
 rw [g1] at r1
 have x3:gZ y l t 16=bU (q1+s1) 16:=by unfold gZ;rw [h5,h2,aU7 uy,aU7 ul,e1,g1]
 rw [x3];obtain ⟨M1,N1,S1,I1⟩:=h4_ (show wrap64 ((16 - t)*uy)=q1 by rw [e1];exact aF (by omega) (by omega)) (show wrap64 (t*ul)=s1 by rw [g1];exact aF (by omega) (by omega)) (show wrap64 (q1+s1)=q1+s1 from aF (by omega) (by omega)) (I64.of (n:=q1+s1) (m:=40000000) (by omega) (by decide));have p2:=bK (A:=16) (B:=1000000) (a:=16 - t) (b:=uz) (by omega) q7
 obtain ⟨q2,e2⟩:=e_ ((16 - t)*uz)
 rw [e2] at p2;have r2:=bK (A:=16) (B:=1000000) (a:=t) (b:=um) (by omega) q4
 obtain ⟨s2,g2⟩:=e_ (t*um)
 rw [g2] at r2
 have x4:gZ z m t 16=bU (q2+s2) 16:=by unfold gZ;rw [h6,h3,aU7 uz,aU7 um,e2,g2]
 rw [x4];obtain ⟨M2,N2,S2,I2,z4,z5,z6,z1,z2⟩:=h9_ (show wrap64 ((16 - t)*uz)=q2 by rw [e2];exact aF (by omega) (by omega)) (show wrap64 (t*um)=s2 by rw [g2];exact aF (by omega) (by omega)) (show wrap64 (q2+s2)=q2+s2 from aF (by omega) (by omega)) (I64.of (n:=q2+s2) (m:=40000000) (by omega) (by decide)) h4 h5 h6 h1 h2;have z3:=hid h3;clear h4 q5 h5 q6 h6 q7 h1 h8 h2 h9 h3 q4 p0 e0 r0 g0 x0 p1 e1 r1 g1 x3 p2 e2 r2 g2 x4;obtain ⟨J1,J2⟩:=h2_ (show inB 16 1 4096=true from rfl) (aG.2 (show (0:Int)<=t/\t<=16 from ht));have q0:=(aTc w 122 [x,y,z]).ext (show Ext (w.alloc (.cells #[x,y,z] 122)) (((w.alloc (.cells #[x,y,z] 122)).alloc (.cells #[k,l,m] 122)).alloc (.cells #[(),(),()] 122)) from X_);have q1:=aTc (w.alloc (.cells #[x,y,z] 122)) 122 [k,l,m];have q2:=aTc ((w.alloc (.cells #[x,y,z] 122)).alloc (.cells #[k,l,m] 122)) 122 [(),(),()];simp only [aS4] at q1 q2;obtain ⟨R0,R1,R2,X0⟩:=h4_ q0 (q1.alloc (.cells #[(),(),()] 122)) q2 (show Ext w (((w.alloc (.cells #[x,y,z] 122)).alloc (.cells #[k,l,m] 122)).alloc (.cells #[(),(),()] 122)) from X_);clear q0 q1 q2;go_enter func211,ntmps211;go_wp2;refine aJ [([2],0),([],1),([],3),([],4),([],5)] 5 (fun w'=>∃d,w'=gA (C1e (w.heap.size+1)) _ d) (SC.drew _ _) ?_;refine sc_ fun K hK=>?_;go_wp2;refine hK _ _ (.inr (SC.drew _ _)) ?_;clear hK K;refine sc_ fun K hK=>?_;go_wp2_with fail;refine r_ (fF z4.out z5.out z6.out _) fun w1 x1=>?_;have y1:Ext (((w.alloc (.cells #[x,y,z] 122)).alloc (.cells #[k,l,m] 122)).alloc (.cells #[(),(),()] 122)) w1:=aS8 (aUa (aTd _)) x1;go_wp2;refine hK _ _ (.inr (SC.blocks fun a ha=>y1.block (by rw [show a.block=w.heap.size+1 from ha];simp))) ?_;clear hK K;refine sc_ fun K hK=>?_;go_wp2_with fail;refine r_ (fF z1.out z2.out z3.out _) fun w2 x2=>?_;have y2:=y1.trans x2;have D0:=R0.out.ext y2;obtain ⟨D1,D2,a0,a1,a2,a3,a4,a5⟩:=m8_ (R1.out.ext y2) (R2.out.ext y2) (D0.free 0) (D0.free 1) (D0.free 2) (D0.cell 0 rfl) (D0.cell 1 rfl) (D0.cell 2 rfl);obtain ⟨a6,c0,c1,c2,c3,c4,c5,c6⟩:=m8_ D0.lt (D1.free 0) (D1.free 1) (D1.free 2) (D1.cell 0 rfl) (D1.cell 1 rfl) (D1.cell 2 rfl) D1.lt;go_wp2;refine hK _ _ (.inr (SC.blocks fun a ha=>y2.block (by rw [show a.block=w.heap.size+1 from ha];simp))) ?_;clear hK K;refine sc_ fun K hK=>?_;go_wp2;refine hK _ _ (.inr (SC.blocks fun a ha=>?_)) ?_
 ·have hb:a.block=w.heap.size+1:=ha
  rw [aTe _ _ _ _ (by rw [hb];simp),aTe _ _ _ _ (by rw [hb];simp),aTe _ _ _ _ (by rw [hb];simp)];exact y2.block (by rw [hb];simp)
 clear hK K;refine sc_ fun K hK=>?_;go_wp2;refine l_ hK (aP ?_);clear hK K
 have h0:w.heap.size≠w.heap.size+1:=by omega
 have q8:w.heap.size+2≠w.heap.size:=by omega
 have q9:w.heap.size+2≠w.heap.size+1:=by omega
 have E0:=((((((D0.set 0 (.int .i64 ux)).set 1 (.int .i64 uy)).set 2 (.int .i64 uz)).other (a:=⟨w.heap.size+1,0,none⟩) h0 (.int .i64 uk)).other (a:=⟨w.heap.size+1,1,none⟩) h0 (.int .i64 ul)).other (a:=⟨w.heap.size+1,2,none⟩) h0 (.int .i64 um))
 have E1:=((((((D1.other (a:=⟨w.heap.size,0,none⟩) h0.symm (.int .i64 ux)).other (a:=⟨w.heap.size,1,none⟩) h0.symm (.int .i64 uy)).other (a:=⟨w.heap.size,2,none⟩) h0.symm (.int .i64 uz)).set 0 (.int .i64 uk)).set 1 (.int .i64 ul)).set 2 (.int .i64 um))
 have E2:=((((((D2.other (a:=⟨w.heap.size,0,none⟩) q8 (.int .i64 ux)).other (a:=⟨w.heap.size,1,none⟩) q8 (.int .i64 uy)).other (a:=⟨w.heap.size,2,none⟩) q8 (.int .i64 uz)).other (a:=⟨w.heap.size+1,0,none⟩) q9 (.int .i64 uk)).other (a:=⟨w.heap.size+1,1,none⟩) q9 (.int .i64 ul)).other (a:=⟨w.heap.size+1,2,none⟩) q9 (.int .i64 um))
 have EX:Ext w ((((((w2.setCell ⟨w.heap.size,0,none⟩ ux).setCell ⟨w.heap.size,1,none⟩ uy).setCell ⟨w.heap.size,2,none⟩ uz).setCell ⟨w.heap.size+1,0,none⟩ uk).setCell ⟨w.heap.size+1,1,none⟩ ul).setCell ⟨w.heap.size+1,2,none⟩ um):=by
  have hX:=X0.out.trans y2;exact S_
 obtain ⟨w3,h7⟩:=e_ ((((((w2.setCell ⟨w.heap.size,0,none⟩ ux).setCell ⟨w.heap.size,1,none⟩ uy).setCell ⟨w.heap.size,2,none⟩ uz).setCell ⟨w.heap.size+1,0,none⟩ uk).setCell ⟨w.heap.size+1,1,none⟩ ul).setCell ⟨w.heap.size+1,2,none⟩ um)
 rw [h7] at E0 E1 E2 EX
 try simp only [Nat.add_assoc,aWa] at h7
 rw [h7];clear h7 a0 a1 a2 a3 a4 a5 a6 c0 c1 c2 c3 c4 c5 c6 D0 D1 D2 y1 y2 x1 x2;obtain ⟨a3,a4,a5,a6,c3,c4,c5,c6⟩:=m8_ (E0.cell 0 rfl) (E0.cell 1 rfl) (E0.cell 2 rfl) E0.lt (E1.cell 0 rfl) (E1.cell 1 rfl) (E1.cell 2 rfl) E1.lt;obtain ⟨x9,z0⟩:=h2_ E2 EX;clear E0 E1 E2 EX;go_wp2_with (go_at_call 92;with_reducible first|(refine z_ (aH J1.out _) ?_)|(refine z_ (aH J2.out _) ?_));refine aA [([0,1,2,3,5,6,9],4),([],7),([],8),([],10),([],11)] 11 w3.heap.size ?_;refine st_ fun K hK=>?_;go_wp2_with fail;refine r_ (jW M0.out M1.out M2.out _) fun w5 x5=>?_;have y5:Ext w3 w5:=aS8 (aUa (aTd _)) x5;go_wp2;refine k_ hK (st_ fun K hK=>?_);go_wp2_with fail;refine r_ (jW N0.out N1.out N2.out _) fun w6 x6=>?_;have y6:=y5.trans x6;go_wp2;refine k_ hK (st_ fun K hK=>?_);go_wp2_with fail;refine r_ (oN S0.out S1.out S2.out _) fun w7 x7=>?_;have y7:=y6.trans x7;go_wp2;refine k_ hK (st_ fun K hK=>?_);go_wp2_with fail;refine r_ (aEl I0.out I1.out I2.out rfl rfl rfl _) fun w8 x8=>?_;have y8:=y7.trans x8;go_wp2;refine k_ hK ?_;clear hK K;have F2:=x9.out.ext y8;obtain ⟨k0,k1,k2⟩:=F2.q3;have f0:=F2.free 0;have f1:=F2.free 1;have f2:=F2.free 2;have fl:=F2.lt;have hX:=z0.out.trans y8;refine st_ fun K hK=>?_;go_wp2;refine l_ hK (aC ?_);clear hK K;go_wp2;exact bodyPost_ret (v:=.agg #[.int .i64 (bU (q0+s0) 16),.int .i64 (bU (q1+s1) 16),.int .i64 (bU (q2+s2) 16)]) (by simp [results,results211,go_sem, *]) rfl ⟨rfl,S_⟩
def C2e (b c:Nat):Addr->Prop:=fun a=>a.block=b\/a.block=c
@[go_sem] theorem aR8 {b c o:Nat} (h:k=b\/k=c):C2e b c ⟨k,o,none⟩:=h
theorem aMi (f g:Nat->Int) (t:Int) (ht:0<=t/\t<=16) (w:World) :
  R_ 157 #[.agg f,.agg g,t] w (.agg (aZ f g t)):=by
 have J2:=hid (aG.2 (show (0:Int)<=t/\t<=16 from ht))
 obtain ⟨q,hq⟩:∃q:Nat->Int,aZ f g t=q:=⟨_,rfl⟩
 obtain ⟨HQ,HT⟩:=h2_ (fun j=>show gZ (f j) (g j) t 16=q j by rw [<-hq];rfl) ht;rw [hq];clear ht hq;have j0:=qI f 0 (by decide);have j1:=qI f 1 (by decide);have j2:=qI f 2 (by decide);have j3:=qI f 3 (by decide);simp only [bBj,aT1,aWz,aWa,bA5,aY7] at j0 j1 j2 j3;have r0:=gC (w:=w) (t:=125) (f:=f) rfl;have r1:=gC (w:=(w.alloc (.cells f 125))) (t:=125) (f:=g) rfl;have r2:=gC (w:=((w.alloc (.cells f 125)).alloc (.cells g 125))) (t:=125) (f:=fun _=>0) rfl;simp only [aS4] at r1 r2;obtain ⟨R0,R1,R2,X0⟩:=h4_ ((r0.alloc (.cells g 125)).alloc (.cells ((),(),()) 125)) (r1.alloc (.cells ((),(),()) 125)) r2 (show Ext w (((w.alloc (.cells f 125)).alloc (.cells g 125)).alloc (.cells ((),(),()) 125)) from X_);clear r0 r1 r2;go_enter func157,ntmps157;go_wp2_with (go_at_call 92;refine z_ (aH J2 _) ?_)
 obtain ⟨W0,h4⟩:=e_ (((w.alloc (.cells f 125)).alloc (.cells g 125)).alloc (.cells ((),(),()) 125))
 rw [h4] at R0 R1 R2 X0 ⊢;clear h4
 go_loopw [15] (fun i wr=>∃k c:Nat,c=k*3/\k<=4/\i = .int .i64 (k:Nat)/\Ext w wr/\bT wr w.heap.size 125 12 (aEn f q c)/\bT wr (w.heap.size+1) 125 12 g/\bT wr (w.heap.size+2) 125 12 (fun _=>0)) (fun i _=>4 - (intOf i).toNat)
 case atStart=>exact ⟨0,0,rfl,by omega,rfl,X0,bT.mix0 R0,R1,R2⟩
 case round=>
  obtain ⟨k,c,hc,hk,rfl,hx,h0,h1,h2⟩:=hrel;obtain ⟨HX,H0,H1,H2⟩:=h4_ hx h0 h1 h2;have z0:=h0.lt;have z1:=h1.lt;have z2:=h2.lt;have zx:=hx.size;clear hx h0 h1 h2 R0 R1 R2 X0
  rcases (show k=0\/k=1\/k=2\/k=3\/k=4 by omega) with rfl|rfl|rfl|rfl|rfl
  rotate_left 4
  ·obtain rfl:c=12:=by omega
   clear hc;have h0:=bT.mixAll H0;obtain ⟨c0,d0,e0,c1,d1,e1,c2,d2,e2,c3,d3,e3⟩:=m12_ (h0.cell (i:=0) (by decide)) (H2.cell (i:=0) (by decide)) (H2.frozen 0) (h0.cell (i:=1) (by decide)) (H2.cell (i:=1) (by decide)) (H2.frozen 1) (h0.cell (i:=2) (by decide)) (H2.cell (i:=2) (by decide)) (H2.frozen 2) (h0.cell (i:=3) (by decide)) (H2.cell (i:=3) (by decide)) (H2.frozen 3);obtain ⟨c4,d4,e4,c5,d5,e5,c6,d6,e6,c7,d7,e7⟩:=m12_ (h0.cell (i:=4) (by decide)) (H2.cell (i:=4) (by decide)) (H2.frozen 4) (h0.cell (i:=5) (by decide)) (H2.cell (i:=5) (by decide)) (H2.frozen 5) (h0.cell (i:=6) (by decide)) (H2.cell (i:=6) (by decide)) (H2.frozen 6) (h0.cell (i:=7) (by decide)) (H2.cell (i:=7) (by decide)) (H2.frozen 7);obtain ⟨c8,d8,e8,c9,d9,e9,h5,h7,h9,h6,h8,q0⟩:=m12_ (h0.cell (i:=8) (by decide)) (H2.cell (i:=8) (by decide)) (H2.frozen 8) (h0.cell (i:=9) (by decide)) (H2.cell (i:=9) (by decide)) (H2.frozen 9) (h0.cell (i:=10) (by decide)) (H2.cell (i:=10) (by decide)) (H2.frozen 10) (h0.cell (i:=11) (by decide)) (H2.cell (i:=11) (by decide)) (H2.frozen 11);have hE:=HX.out;clear h0;go_wp2;exact bodyPost_ret (v:=.agg q) (by simp [results,results157,go_sem, *]) rfl ⟨rfl,S_⟩
  focus
   obtain rfl:c=0:=by omega
   clear hc;have c0:=H1.cell (i:=0) (by decide);have c1:=H1.cell (i:=1) (by decide);have c2:=H1.cell (i:=2) (by decide);go_wp2;refine aJ [([0,1,2,3,4,5,6,8],7),([9],10)] 99 (fun w'=>∃d,w'=gA (C2e (w.heap.size+1) wr.heap.size) _ d) (SC.drew _ _) ?_;refine sc_ fun K hK=>?_;go_wp2_with fail;refine r_ (pR (f 0) (f 1) (f 2) (g 0) (g 1) (g 2) t HT _) fun w3 x3=>?_
   rw [HQ 0,HQ 1,HQ 2]
   have y3:Ext (wr.alloc (.cells #[(f 0),(f 1),(f 2)] 122)) w3:=aS8 (aUa (aTd _)) x3
   go_wp2;refine hK _ _ (.inr (SC.blocks fun a ha=>y3.block (by rcases ha with h|h <;> rw [h] <;> simp <;> omega))) ?_
   clear hK K
   have Y3:Ext wr w3:=aS8 (show Ext wr (wr.alloc (.cells #[(f 0),(f 1),(f 2)] 122)) from X_) y3
   have D0:=H0.ext Y3;obtain ⟨D1,D2,X3,k0,k1,k2,f0,f1⟩:=m8_ (H1.ext Y3) (H2.ext Y3) (HX.trans Y3) (D0.cell (i:=0) (by decide)) (D0.cell (i:=1) (by decide)) (D0.cell (i:=2) (by decide)) (D0.frozen 0) (D0.frozen 1);have f2:=D0.frozen 2;have fl:=D0.lt;have G0:=hid (bT.mix (c:=2) (bT.mix (c:=1) (bT.mix (c:=0) D0 rfl rfl) rfl rfl) rfl rfl)
   have n1:w.heap.size+1≠w.heap.size:=by omega
   have n2:w.heap.size+2≠w.heap.size:=by omega
   obtain ⟨G1,G2,GX,h3⟩:=h4_ (((D1.other (a:=⟨w.heap.size,0,none⟩) n1 (.int .i64 (q 0))).other (a:=⟨w.heap.size,1,none⟩) n1 (.int .i64 (q 1))).other (a:=⟨w.heap.size,2,none⟩) n1 (.int .i64 (q 2))) (((D2.other (a:=⟨w.heap.size,0,none⟩) n2 (.int .i64 (q 0))).other (a:=⟨w.heap.size,1,none⟩) n2 (.int .i64 (q 1))).other (a:=⟨w.heap.size,2,none⟩) n2 (.int .i64 (q 2))) (show Ext w (((w3.setCell ⟨w.heap.size,0,none⟩ (q 0)).setCell ⟨w.heap.size,1,none⟩ (q 1)).setCell ⟨w.heap.size,2,none⟩ (q 2)) from S_) (fun a:Addr=>fun ha:C2e (w.heap.size+1) wr.heap.size a=>y3.block (show a.block<(wr.alloc (.cells #[(f 0),(f 1),(f 2)] 122)).heap.size by rcases ha with h|h <;> rw [h] <;> simp <;> omega))
  rotate_left
  focus
   obtain rfl:c=3:=by omega
   clear hc;have c0:=H1.cell (i:=3) (by decide);have c1:=H1.cell (i:=4) (by decide);have c2:=H1.cell (i:=5) (by decide);go_wp2;refine aJ [([0,1,2,3,4,5,6,8],7),([9],10)] 99 (fun w'=>∃d,w'=gA (C2e (w.heap.size+1) wr.heap.size) _ d) (SC.drew _ _) ?_;refine sc_ fun K hK=>?_;go_wp2_with fail;refine r_ (pR (f 3) (f 4) (f 5) (g 3) (g 4) (g 5) t HT _) fun w3 x3=>?_
   rw [HQ 3,HQ 4,HQ 5]
   have y3:Ext (wr.alloc (.cells #[(f 3),(f 4),(f 5)] 122)) w3:=aS8 (aUa (aTd _)) x3
   go_wp2;refine hK _ _ (.inr (SC.blocks fun a ha=>y3.block (by rcases ha with h|h <;> rw [h] <;> simp <;> omega))) ?_
   clear hK K
   have Y3:Ext wr w3:=aS8 (show Ext wr (wr.alloc (.cells #[(f 3),(f 4),(f 5)] 122)) from X_) y3
   have D0:=H0.ext Y3;obtain ⟨D1,D2,X3,k0,k1,k2,f0,f1⟩:=m8_ (H1.ext Y3) (H2.ext Y3) (HX.trans Y3) (D0.cell (i:=3) (by decide)) (D0.cell (i:=4) (by decide)) (D0.cell (i:=5) (by decide)) (D0.frozen 3) (D0.frozen 4);have f2:=D0.frozen 5;have fl:=D0.lt;have G0:=hid (bT.mix (c:=5) (bT.mix (c:=4) (bT.mix (c:=3) D0 rfl rfl) rfl rfl) rfl rfl)
   have n1:w.heap.size+1≠w.heap.size:=by omega
   have n2:w.heap.size+2≠w.heap.size:=by omega
   obtain ⟨G1,G2,GX,h3⟩:=h4_ (((D1.other (a:=⟨w.heap.size,3,none⟩) n1 (.int .i64 (q 3))).other (a:=⟨w.heap.size,4,none⟩) n1 (.int .i64 (q 4))).other (a:=⟨w.heap.size,5,none⟩) n1 (.int .i64 (q 5))) (((D2.other (a:=⟨w.heap.size,3,none⟩) n2 (.int .i64 (q 3))).other (a:=⟨w.heap.size,4,none⟩) n2 (.int .i64 (q 4))).other (a:=⟨w.heap.size,5,none⟩) n2 (.int .i64 (q 5))) (show Ext w (((w3.setCell ⟨w.heap.size,3,none⟩ (q 3)).setCell ⟨w.heap.size,4,none⟩ (q 4)).setCell ⟨w.heap.size,5,none⟩ (q 5)) from S_) (fun a:Addr=>fun ha:C2e (w.heap.size+1) wr.heap.size a=>y3.block (show a.block<(wr.alloc (.cells #[(f 3),(f 4),(f 5)] 122)).heap.size by rcases ha with h|h <;> rw [h] <;> simp <;> omega))
  rotate_left
  focus
   obtain rfl:c=6:=by omega
   clear hc;have c0:=H1.cell (i:=6) (by decide);have c1:=H1.cell (i:=7) (by decide);have c2:=H1.cell (i:=8) (by decide);go_wp2;refine aJ [([0,1,2,3,4,5,6,8],7),([9],10)] 99 (fun w'=>∃d,w'=gA (C2e (w.heap.size+1) wr.heap.size) _ d) (SC.drew _ _) ?_;refine sc_ fun K hK=>?_;go_wp2_with fail;refine r_ (pR (f 6) (f 7) (f 8) (g 6) (g 7) (g 8) t HT _) fun w3 x3=>?_
   rw [HQ 6,HQ 7,HQ 8]
   have y3:Ext (wr.alloc (.cells #[(f 6),(f 7),(f 8)] 122)) w3:=aS8 (aUa (aTd _)) x3
   go_wp2;refine hK _ _ (.inr (SC.blocks fun a ha=>y3.block (by rcases ha with h|h <;> rw [h] <;> simp <;> omega))) ?_
   clear hK K
   have Y3:Ext wr w3:=aS8 (show Ext wr (wr.alloc (.cells #[(f 6),(f 7),(f 8)] 122)) from X_) y3
   have D0:=H0.ext Y3;obtain ⟨D1,D2,X3,k0,k1,k2,f0,f1⟩:=m8_ (H1.ext Y3) (H2.ext Y3) (HX.trans Y3) (D0.cell (i:=6) (by decide)) (D0.cell (i:=7) (by decide)) (D0.cell (i:=8) (by decide)) (D0.frozen 6) (D0.frozen 7);have f2:=D0.frozen 8;have fl:=D0.lt;have G0:=hid (bT.mix (c:=8) (bT.mix (c:=7) (bT.mix (c:=6) D0 rfl rfl) rfl rfl) rfl rfl)
   have n1:w.heap.size+1≠w.heap.size:=by omega
   have n2:w.heap.size+2≠w.heap.size:=by omega
   obtain ⟨G1,G2,GX,h3⟩:=h4_ (((D1.other (a:=⟨w.heap.size,6,none⟩) n1 (.int .i64 (q 6))).other (a:=⟨w.heap.size,7,none⟩) n1 (.int .i64 (q 7))).other (a:=⟨w.heap.size,8,none⟩) n1 (.int .i64 (q 8))) (((D2.other (a:=⟨w.heap.size,6,none⟩) n2 (.int .i64 (q 6))).other (a:=⟨w.heap.size,7,none⟩) n2 (.int .i64 (q 7))).other (a:=⟨w.heap.size,8,none⟩) n2 (.int .i64 (q 8))) (show Ext w (((w3.setCell ⟨w.heap.size,6,none⟩ (q 6)).setCell ⟨w.heap.size,7,none⟩ (q 7)).setCell ⟨w.heap.size,8,none⟩ (q 8)) from S_) (fun a:Addr=>fun ha:C2e (w.heap.size+1) wr.heap.size a=>y3.block (show a.block<(wr.alloc (.cells #[(f 6),(f 7),(f 8)] 122)).heap.size by rcases ha with h|h <;> rw [h] <;> simp <;> omega))
  rotate_left
  focus
   obtain rfl:c=9:=by omega
   clear hc;have c0:=H1.cell (i:=9) (by decide);have c1:=H1.cell (i:=10) (by decide);have c2:=H1.cell (i:=11) (by decide);go_wp2;refine aJ [([0,1,2,3,4,5,6,8],7),([9],10)] 99 (fun w'=>∃d,w'=gA (C2e (w.heap.size+1) wr.heap.size) _ d) (SC.drew _ _) ?_;refine sc_ fun K hK=>?_;go_wp2_with fail;refine r_ (pR (f 9) (f 10) (f 11) (g 9) (g 10) (g 11) t HT _) fun w3 x3=>?_
   rw [HQ 9,HQ 10,HQ 11]
   have y3:Ext (wr.alloc (.cells #[(f 9),(f 10),(f 11)] 122)) w3:=aS8 (aUa (aTd _)) x3
   go_wp2;refine hK _ _ (.inr (SC.blocks fun a ha=>y3.block (by rcases ha with h|h <;> rw [h] <;> simp <;> omega))) ?_
   clear hK K
   have Y3:Ext wr w3:=aS8 (show Ext wr (wr.alloc (.cells #[(f 9),(f 10),(f 11)] 122)) from X_) y3
   have D0:=H0.ext Y3;obtain ⟨D1,D2,X3,k0,k1,k2,f0,f1⟩:=m8_ (H1.ext Y3) (H2.ext Y3) (HX.trans Y3) (D0.cell (i:=9) (by decide)) (D0.cell (i:=10) (by decide)) (D0.cell (i:=11) (by decide)) (D0.frozen 9) (D0.frozen 10);have f2:=D0.frozen 11;have fl:=D0.lt;have G0:=hid (bT.mix (c:=11) (bT.mix (c:=10) (bT.mix (c:=9) D0 rfl rfl) rfl rfl) rfl rfl)
   have n1:w.heap.size+1≠w.heap.size:=by omega
   have n2:w.heap.size+2≠w.heap.size:=by omega
   obtain ⟨G1,G2,GX,h3⟩:=h4_ (((D1.other (a:=⟨w.heap.size,9,none⟩) n1 (.int .i64 (q 9))).other (a:=⟨w.heap.size,10,none⟩) n1 (.int .i64 (q 10))).other (a:=⟨w.heap.size,11,none⟩) n1 (.int .i64 (q 11))) (((D2.other (a:=⟨w.heap.size,9,none⟩) n2 (.int .i64 (q 9))).other (a:=⟨w.heap.size,10,none⟩) n2 (.int .i64 (q 10))).other (a:=⟨w.heap.size,11,none⟩) n2 (.int .i64 (q 11))) (show Ext w (((w3.setCell ⟨w.heap.size,9,none⟩ (q 9)).setCell ⟨w.heap.size,10,none⟩ (q 10)).setCell ⟨w.heap.size,11,none⟩ (q 11)) from S_) (fun a:Addr=>fun ha:C2e (w.heap.size+1) wr.heap.size a=>y3.block (show a.block<(wr.alloc (.cells #[(f 9),(f 10),(f 11)] 122)).heap.size by rcases ha with h|h <;> rw [h] <;> simp <;> omega))
  rotate_left
  all_goals
   clear D0 D1 D2 X3 Y3 y3 x3 c0 c1 c2;refine sc_ fun K hK=>?_;go_wp2;refine hK _ _ (.inr (SC.blocks fun a ha=>?_)) ?_
   ·have hb:a.block≠w.heap.size:=by rcases ha with h|h <;> omega
    rw [aTe _ _ _ _ (by exact hb),aTe _ _ _ _ (by exact hb),aTe _ _ _ _ (by exact hb)];exact h3.out a ha
   clear hK K;refine aP ?_;go_wp2;go_roundw
  ·exact ⟨1,3,rfl,by omega,by go_num,GX,G0,G1,G2⟩
  ·simp [intOf]
  ·exact ⟨2,6,rfl,by omega,by go_num,GX,G0,G1,G2⟩
  ·simp [intOf]
  ·exact ⟨3,9,rfl,by omega,by go_num,GX,G0,G1,G2⟩
  ·simp [intOf]
  ·exact ⟨4,12,rfl,by omega,by go_num,GX,G0,G1,G2⟩
  ·simp [intOf]
theorem xW (f g:Nat->Int) (sh rt t:Int) (ht:0<=t/\t<=16) (w:World) :
  R_ 103 #[.agg (gA_ f g sh rt),t] w (.agg (aZ f g t)):=by
 have HT:=hid ht;have q0:=aTc w 127 (gL_ f g sh rt);have q1:=aTc (w.alloc (.cells (gA_ f g sh rt) 127)) 125 ((),(),());rw [aS4] at q1;obtain ⟨R1,X0⟩:=h2_ q1 (show Ext w ((w.alloc (.cells (gA_ f g sh rt) 127)).alloc (.cells ((),(),()) 125)) from X_);clear q1 q0 ht;go_enter func103,ntmps103;go_wp2_with fail;refine r_ (aMi f g t HT _) fun w1 x1=>?_;have D:=R1.ext x1;obtain ⟨d0,e0,d1,e1,d2,e2,d3,e3,d4,e4,d5,e5⟩:=m12_ (D.cell 0 rfl) (D.free 0) (D.cell 1 rfl) (D.free 1) (D.cell 2 rfl) (D.free 2) (D.cell 3 rfl) (D.free 3) (D.cell 4 rfl) (D.free 4) (D.cell 5 rfl) (D.free 5);obtain ⟨d6,e6,d7,e7,d8,e8,d9,e9,h0,h2,h1,h3⟩:=m12_ (D.cell 6 rfl) (D.free 6) (D.cell 7 rfl) (D.free 7) (D.cell 8 rfl) (D.free 8) (D.cell 9 rfl) (D.free 9) (D.cell 10 rfl) (D.free 10) (D.cell 11 rfl) (D.free 11);have hE:=X0.trans x1;clear D;go_wp2;exact bodyPost_ret (v:=.agg (aZ f g t)) (by simp [results,results103,go_sem, *]) rfl ⟨rfl,S_⟩
theorem xY (c:Cam) (f:Nat->Int) (n:Nat) (s:Smp) (hn:1<=n/\n<=8) (w:World) :
  Calls aS7 102 #[.agg c,.agg f,(n:Nat),s.lx,s.ly] w fun e w'=>∃r,e = .returned r/\aD Mc.cs w.heap.size 155 12 w' r (lJ c f n s)/\Ext w w':=by
 go_enter func102,ntmps102;go_wp2_with fail;refine (aDi c f n s hn _).mono ?_;rintro e w1 ⟨r,rfl,hO,x1⟩;go_wp2;go_ret;exact ⟨r,rfl,aD.low hO (by simp;omega),aS8 X_ x1⟩
def V3.scr (v:V3):Prop:=(-100000<=v.x/\v.x<=100000)/\(-100000<=v.y/\v.y<=100000)
structure aJe (w:World) (D A E:Nat) (a b:V3):Prop where
 ld:D<w.heap.size
 la:A<w.heap.size
 le:E<w.heap.size
 d:w.cell? ⟨D,0,none⟩=some (.int .i64 (b.x - a.x))
 a0:w.cell? ⟨A,0,none⟩=some (.int .i64 a.x)
 a1:w.cell? ⟨A,1,none⟩=some (.int .i64 a.y)
 e:w.cell? ⟨E,0,none⟩=some (.int .i64 (b.y - a.y))
theorem sS {a b s:V3} (ha:a.scr) (hb:b.scr) (hs:s.scr) :
  (-40000000000<=(b.x - a.x)*(s.y - a.y)/\(b.x - a.x)*(s.y - a.y)<=40000000000)/\(-40000000000<=(b.y - a.y)*(s.x - a.x)/\(b.y - a.y)*(s.x - a.x)<=40000000000):=by
 obtain ⟨a1,a2⟩:=ha;obtain ⟨b1,b2⟩:=hb;obtain ⟨s1,s2⟩:=hs;exact ⟨bK (A:=200000) (B:=200000) (by omega) (by omega),bK (A:=200000) (B:=200000) (by omega) (by omega)⟩
theorem eU (ax ay az bx by' bz:Int) (ha:V3.scr ⟨ax,ay,az⟩) (hb:V3.scr ⟨bx,by',bz⟩) (w:World) :
  Calls aS7 215 #[.agg #[ax,ay,az],.agg #[bx,by',bz]] w fun e w'=>∃D A E,e = .returned (.func (.func 246) #[] #[.pointer (some ⟨D,0,none⟩),.pointer (some ⟨A,0,none⟩),.pointer (some ⟨E,0,none⟩)])/\aJe w' D A E ⟨ax,ay,az⟩ ⟨bx,by',bz⟩/\Ext w w':=by
 obtain ⟨a1,a2⟩:=ha;obtain ⟨b1,b2⟩:=hb;simp only at a1 a2 b1 b2;have h0:∀(w:World) (D A E:Nat),(aXa (.func 246) #[] #[.pointer (some ⟨D,0,none⟩),.pointer (some ⟨A,0,none⟩),.pointer (some ⟨E,0,none⟩)]).run aS7 w = .ok (.func (.func 246) #[] #[.pointer (some ⟨D,0,none⟩),.pointer (some ⟨A,0,none⟩),.pointer (some ⟨E,0,none⟩)]) w:=fun _ _ _ _=>rfl;go_enter func215,ntmps215;go_upto_region 1 with fail
 go_cut [5,6] from 7 to 16 (fun u v wx=>∃D E,u = .pointer (some ⟨D,0,none⟩)/\v = .pointer (some ⟨E,0,none⟩)/\Ext w wx/\D<wx.heap.size/\E<wx.heap.size/\w.heap.size<wx.heap.size/\wx.cell? ⟨w.heap.size,0,none⟩=some (.int .i64 ax)/\wx.cell? ⟨w.heap.size,1,none⟩=some (.int .i64 ay)/\wx.cell? ⟨D,0,none⟩=some (.int .i64 (bx - ax))/\wx.cell? ⟨E,0,none⟩=some (.int .i64 (by' - ay)))
 case first=>
  refine dP 13 (w.heap.size+1+1) ?_;refine z2_ (fuel:=3) [0,1,2,3,4,5,6,7,8,9] 10 11 (fun _ _ _=>rfl) (fun K hK=>?_) fun K hK=>?_
  ·go_wp2
   refine hK _ _ (.inr (fun b _ hb=>aTf X_ (by simp;omega))) ?_;clear hK K;refine z1_ (fuel:=2) [] 11 (fun b _ hb=>aTf X_ (by simp;omega)) fun K hK=>?_;go_wp2;refine hK _ _ (.inr (fun b _ hb=>aTf X_ (by simp;omega))) ?_;clear hK K;refine z1_ (fuel:=1) [] 12 (fun b _ hb=>aTf X_ (by simp;omega)) fun K hK=>?_;go_wp2;refine hK _ _ (.inr (fun b _ hb=>aTf S_ (by simp;omega))) ?_;clear hK K;refine z1_ (fuel:=0) [] 13 (fun b _ hb=>aTf S_ (by simp;omega)) fun K hK=>?_;go_wp2;refine l_ hK (cH ?_);clear hK K;go_wp2
   go_meet
   refine ⟨_,_,rfl,rfl,S_,by simp <;> omega,by simp <;> omega,by simp <;> omega,by simp [go_sem, *],by simp [go_sem, *],by simp [go_sem, *],by simp [go_sem, *]⟩
  ·go_wp2
   refine hK _ _ (.inr (fun b _ hb=>aTf X_ (by simp;omega))) ?_;clear hK K;refine z1_ (fuel:=2) [] 10 (fun b _ hb=>aTf X_ (by simp;omega)) fun K hK=>?_;go_wp2;refine hK _ _ (.inr (fun b _ hb=>aTf X_ (by simp;omega))) ?_;clear hK K;refine z1_ (fuel:=1) [] 12 (fun b _ hb=>aTf X_ (by simp;omega)) fun K hK=>?_;go_wp2;refine hK _ _ (.inr (fun b _ hb=>aTf S_ (by simp;omega))) ?_;clear hK K;refine z1_ (fuel:=0) [] 13 (fun b _ hb=>aTf S_ (by simp;omega)) fun K hK=>?_;go_wp2;refine l_ hK (cH ?_);clear hK K;go_wp2
   go_meet
   refine ⟨_,_,rfl,rfl,S_,by simp <;> omega,by simp <;> omega,by simp <;> omega,by simp [go_sem, *],by simp [go_sem, *],by simp [go_sem, *],by simp [go_sem, *]⟩
 case rest=>
  obtain ⟨D,E,rfl,rfl,hE,l1,l2,l3,c0,c1,c2,c3⟩:=hcut;go_wp2;go_ret;exact ⟨_,_,_,rfl,⟨l1,l3,l2,c2,c0,c1,c3⟩,hE⟩
theorem dR {a b:V3} (sx sy sz:Int) (hd:aY a b ⟨sx,sy,sz⟩=d) (ha:a.scr) (hb:b.scr) (hs:V3.scr ⟨sx,sy,sz⟩) {D A E:Nat} (w:World) (hE:aJe w D A E a b) :
  R_ 246 #[.agg #[sx,sy,sz],.pointer (some ⟨D,0,none⟩),.pointer (some ⟨A,0,none⟩),.pointer (some ⟨E,0,none⟩)] w (.int .i64 d):=by
 have q:=sS ha hb hs;unfold aY at hd;obtain ⟨a1,a2⟩:=ha;obtain ⟨b1,b2⟩:=hb;obtain ⟨s1,s2⟩:=hs;obtain ⟨x1,x2,x3,d0,d1,d2,d3⟩:=hE;obtain ⟨ax,ay,az⟩:=a;obtain ⟨bx,h0,bz⟩:=b;simp only at hd q a1 a2 b1 b2 s1 s2 d0 d1 d2 d3
 obtain ⟨p1,e1⟩:=e_ ((bx - ax)*(sy - ay))
 obtain ⟨p2,e2⟩:=e_ ((h0 - ay)*(sx - ax))
 rw [e1,e2] at hd q
 obtain ⟨u1,f1⟩:=e_ (bx - ax)
 obtain ⟨u2,f2⟩:=e_ (h0 - ay)
 rw [f1] at d0 e1;rw [f2] at d3 e2;have HD:=hid hd;clear f1 f2 b1 b2 hd;go_enter func246,ntmps246;go_wp2;go_ret;exact ⟨cQ HD,X_⟩
theorem aT {v:V3} (h:v.scr):Hid v.scr:=h
theorem sU (ax ay az bx by' bz cx cy cz:Int) (ha:V3.scr ⟨ax,ay,az⟩) (hb:V3.scr ⟨bx,by',bz⟩) (hc:V3.scr ⟨cx,cy,cz⟩) (hd:aY ⟨ax,ay,az⟩ ⟨bx,by',bz⟩ ⟨cx,cy,cz⟩=d) (w:World):R_ 216 #[.agg #[ax,ay,az,bx,by',bz,cx,cy,cz]] w (.int .i64 d):=by
 have Ha:=aT ha;have Hb:=aT hb;have Hc:=aT hc;have HD:=hid hd;have y0:Ext w (w.alloc (.cells #[ax,ay,az,bx,by',bz,cx,cy,cz] 153)):=X_;have Y0:=hid y0;clear ha hb hc hd y0;go_enter func216,ntmps216;go_wp2;refine aA [([0,1,2,3,4,5,7,8,9],6),([],10),([],11)] 11 (w.heap.size+1) ?_;refine st_ fun K hK=>?_;go_wp2_with fail;refine (eU ax ay az bx by' bz Ha Hb _).mono ?_;rintro e w1 ⟨D,A,E,rfl,hE,x1⟩;have y1:Ext (w.alloc (.cells #[ax,ay,az,bx,by',bz,cx,cy,cz] 153)) w1:=aS8 (aUa (aTd _)) x1;go_wp2;refine hK _ _ (.inr (y1.same (by rw [aS4];exact aS3 _))) ?_;clear hK K;refine st_ fun K hK=>?_;go_wp2_with fail;refine r_ (dR cx cy cz HD Ha Hb Hc _ hE) fun w2 x2=>?_;have y2:=y1.trans x2;go_wp2;refine hK _ _ (.inr (y2.same (by rw [aS4];exact aS3 _))) ?_;clear hK K;refine st_ fun K hK=>?_;go_wp2;refine l_ hK (aC ?_);clear hK K;go_wp2;go_ret;exact ⟨rfl,Y0.trans y2⟩
theorem aQy {a b s:V3}:dQ a b s=true↔(0<aY a b s\/aY a b s=0/\(b.y<a.y\/b.y=a.y/\a.x<b.x)):=by
 unfold dQ;simp only [Bool.or_eq_true,decide_eq_true_eq,aTi,beq_iff_eq]
structure sV (w:World) (B:Nat) (a b c:V3):Prop where
 lt:B<w.heap.size
 c0:w.cell? ⟨B,0,none⟩=some (.int .i64 a.x)
 c1:w.cell? ⟨B,1,none⟩=some (.int .i64 a.y)
 c2:w.cell? ⟨B,2,none⟩=some (.int .i64 a.z)
 c3:w.cell? ⟨B,3,none⟩=some (.int .i64 b.x)
 c4:w.cell? ⟨B,4,none⟩=some (.int .i64 b.y)
 c5:w.cell? ⟨B,5,none⟩=some (.int .i64 b.z)
 c6:w.cell? ⟨B,6,none⟩=some (.int .i64 c.x)
 c7:w.cell? ⟨B,7,none⟩=some (.int .i64 c.y)
 c8:w.cell? ⟨B,8,none⟩=some (.int .i64 c.z)
theorem sV.ext {a b c:V3} (h:sV w B a b c) (x:Ext w w'):sV w' B a b c:=
 ⟨aUq h.lt x.size,(x.cells.1 _ _ h.lt).trans h.c0,(x.cells.1 _ _ h.lt).trans h.c1,(x.cells.1 _ _ h.lt).trans h.c2,(x.cells.1 _ _ h.lt).trans h.c3,(x.cells.1 _ _ h.lt).trans h.c4,(x.cells.1 _ _ h.lt).trans h.c5,(x.cells.1 _ _ h.lt).trans h.c6,(x.cells.1 _ _ h.lt).trans h.c7,(x.cells.1 _ _ h.lt).trans h.c8⟩
structure sW (w:World) (B:Nat) (s:V3):Prop where
 lt:B<w.heap.size
 c0:w.cell? ⟨B,0,none⟩=some (.int .i64 s.x)
 c1:w.cell? ⟨B,1,none⟩=some (.int .i64 s.y)
 c2:w.cell? ⟨B,2,none⟩=some (.int .i64 s.z)
theorem sW.ext {s:V3} (h:sW w B s) (x:Ext w w'):sW w' B s:=
 ⟨aUq h.lt x.size,(x.cells.1 _ _ h.lt).trans h.c0,(x.cells.1 _ _ h.lt).trans h.c1,(x.cells.1 _ _ h.lt).trans h.c2⟩
theorem uK (px py qx qy:Int):decide (qy<py)=true\/(decide (qy<py)=false/\(qy==py)=true/\decide (px<qx)=true)\/(decide (qy<py)=false/\(qy==py)=true/\decide (px<qx)=false)\/(decide (qy<py)=false/\(qy==py)=false):=by
 simp only [decide_eq_true_eq,decide_eq_false_iff_not,beq_iff_eq,beq_eq_false_iff_ne];omega
theorem uL (d:Int):decide (d<0)=true\/(decide (d<0)=false/\(d==0)=true)\/(decide (d<0)=false/\(d==0)=false):=by
 simp only [decide_eq_true_eq,decide_eq_false_iff_not,beq_iff_eq,beq_eq_false_iff_ne];omega
theorem mT {px py pz qx qy qz:Int} {s:V3} (hd:aY ⟨px,py,pz⟩ ⟨qx,qy,qz⟩ s=d):dQ ⟨px,py,pz⟩ ⟨qx,qy,qz⟩ s=(!(decide (d<0)||((d==0) && !(decide (qy<py)||((qy==py)&&decide (px<qx)))))):=by
 unfold dQ;rw [hd];simp only
 by_cases h1:d<0
 ·simp [h1];omega
 ·by_cases h2:d=0
  ·subst h2;simp
  ·have h3:0<d:=by omega
   simp [h1,h2,h3]
theorem sV.of {a b c:V3} (h:Blk w B t [a.x,a.y,a.z,b.x,b.y,b.z,c.x,c.y,c.z]):sV w B a b c:=
 ⟨h.lt,h.cell 0 rfl,h.cell 1 rfl,h.cell 2 rfl,h.cell 3 rfl,h.cell 4 rfl,h.cell 5 rfl,h.cell 6 rfl,h.cell 7 rfl,h.cell 8 rfl⟩
theorem sW.of {s:V3} (h:Blk w B t [s.x,s.y,s.z]):sW w B s:=⟨h.lt,h.cell 0 rfl,h.cell 1 rfl,h.cell 2 rfl⟩
theorem aHj (ax ay az bx by' bz cx cy cz:Int) (ha:V3.scr ⟨ax,ay,az⟩) (hb:V3.scr ⟨bx,by',bz⟩) (hc:V3.scr ⟨cx,cy,cz⟩) (sx sy sz:Int) (hs:V3.scr ⟨sx,sy,sz⟩) {r:Bool} (hp:0<aY ⟨ax,ay,az⟩ ⟨bx,by',bz⟩ ⟨cx,cy,cz⟩) (hr:(dQ ⟨ax,ay,az⟩ ⟨bx,by',bz⟩ ⟨sx,sy,sz⟩&&dQ ⟨bx,by',bz⟩ ⟨cx,cy,cz⟩ ⟨sx,sy,sz⟩&&dQ ⟨cx,cy,cz⟩ ⟨ax,ay,az⟩ ⟨sx,sy,sz⟩)=r) (w:World):R_ 212 #[.agg #[ax,ay,az,bx,by',bz,cx,cy,cz],.agg #[sx,sy,sz]] w (.bool r):=by
 have Ha:=aT ha;have Hb:=aT hb;have Hc:=aT hc;have Hs:=aT hs
 obtain ⟨d0,h2⟩:=e_ (aY ⟨ax,ay,az⟩ ⟨bx,by',bz⟩ ⟨cx,cy,cz⟩)
 have HA:=hid h2
 have i0:∀w:World,(aWo 151 (.agg #[ax,ay,az,bx,by',bz,cx,cy,cz]) (.int .i64 0)).run aS7 w = .ok (.agg #[ax,ay,az]) w:=fun _=>by kernel_rfl
 have i1:∀w:World,(aWo 151 (.agg #[ax,ay,az,bx,by',bz,cx,cy,cz]) (.int .i64 1)).run aS7 w = .ok (.agg #[bx,by',bz]) w:=fun _=>by kernel_rfl
 have i2:∀w:World,(aWo 151 (.agg #[ax,ay,az,bx,by',bz,cx,cy,cz]) (.int .i64 2)).run aS7 w = .ok (.agg #[cx,cy,cz]) w:=fun _=>by kernel_rfl
 have HR:=hid hr;rw [h2] at hp;clear ha hb hc hs hr h2
 have z1:(d0==0)=false:=by rw [beq_eq_false_iff_ne];omega
 have z2:decide (d0<0)=false:=by rw [decide_eq_false_iff_not];omega
 have h3:=aTc w 153 [ax,ay,az,bx,by',bz,cx,cy,cz];have h1:=aTc (w.alloc (.cells #[ax,ay,az,bx,by',bz,cx,cy,cz] 153)) 122 [sx,sy,sz];rw [aS4] at h1;have y0:Ext w ((w.alloc (.cells #[ax,ay,az,bx,by',bz,cx,cy,cz] 153)).alloc (.cells #[sx,sy,sz] 122)):=X_;obtain ⟨B0,B1,Y0⟩:=h3_ (h3.alloc (.cells #[sx,sy,sz] 122)) h1 y0;clear h3 h1 y0;go_enter func212,ntmps212;go_wp2_with fail;refine r_ (sU ax ay az bx by' bz cx cy cz Ha Hb Hc HA _) fun w1 x1=>?_;obtain ⟨q0,q1,X1⟩:=h3_ (B0.ext x1) (B1.ext x1) (Y0.trans x1);clear x1 B0 B1 Y0;obtain ⟨Q0,Q1⟩:=h2_ (sV.of (a:=⟨ax,ay,az⟩) (b:=⟨bx,by',bz⟩) (c:=⟨cx,cy,cz⟩) q0.out) (sW.of (s:=⟨sx,sy,sz⟩) q1.out);obtain ⟨t0,u0,u1,u2,u3,u4,u5,u6⟩:=m8_ Q0.lt Q0.c0 Q0.c1 Q0.c2 Q0.c3 Q0.c4 Q0.c5 Q0.c6;have u7:=Q0.c7;have u8:=Q0.c8;simp only at u0 u1 u2 u3 u4 u5 u6 u7 u8;go_wp2;clear u0 u1 u2 u3 u4 u5 u6 u7 u8
 go_loopw [31] (fun i wr=>∃k:Nat,k<=3/\i = .int .i64 (k:Nat)/\Ext w1 wr/\(0<k->dQ ⟨ax,ay,az⟩ ⟨bx,by',bz⟩ ⟨sx,sy,sz⟩=true)/\(1<k->dQ ⟨bx,by',bz⟩ ⟨cx,cy,cz⟩ ⟨sx,sy,sz⟩=true)/\(2<k->dQ ⟨cx,cy,cz⟩ ⟨ax,ay,az⟩ ⟨sx,sy,sz⟩=true)) (fun i _=>3 - (intOf i).toNat)
 case atStart=>exact ⟨0,by omega,rfl,aTd _,fun h=>absurd h (by omega),fun h=>absurd h (by omega),fun h=>absurd h (by omega)⟩
 case round=>
  obtain ⟨k,hk,rfl,hx,g0,g1,g2⟩:=hrel;obtain ⟨HX,G0,G1,G2⟩:=h4_ hx g0 g1 g2;have hB:=Q0.ext hx;obtain ⟨hS,t0,t1,t2,t3,t4,t5,t6⟩:=m8_ (Q1.ext hx) hB.c0 hB.c1 hB.c2 hB.c3 hB.c4 hB.c5 hB.c6;obtain ⟨t7,t8,u0,u1,u2⟩:=m5_ hB.c7 hB.c8 hS.c0 hS.c1 hS.c2;have zb:=hB.lt;have zs:=hS.lt;simp only at t0 t1 t2 t3 t4 t5 t6 t7 t8 u0 u1 u2;clear hx g0 g1 g2 hB hS
  rcases (show k=0\/k=1\/k=2\/k=3 by omega) with rfl|rfl|rfl|rfl
  rotate_left 3
  ·go_wp2
   go_ret;exact ⟨aM (by rw [<-HR,G0 (by omega),G1 (by omega),G2 (by omega)];rfl),X1.trans HX⟩
  focus
   obtain ⟨d,hd⟩:=e_ (aY ⟨ax,ay,az⟩ ⟨bx,by',bz⟩ ⟨sx,sy,sz⟩)
  rotate_left
  focus
   obtain ⟨d,hd⟩:=e_ (aY ⟨bx,by',bz⟩ ⟨cx,cy,cz⟩ ⟨sx,sy,sz⟩)
  rotate_left
  focus
   obtain ⟨d,hd⟩:=e_ (aY ⟨cx,cy,cz⟩ ⟨ax,ay,az⟩ ⟨sx,sy,sz⟩)
  rotate_left
  all_goals
   have HD:=hid hd;clear hd;go_wp2;refine aA [([0,1,3],2),([],4),([],5)] 5 (wr.heap.size+1+1) ?_;refine st_ fun K hK=>?_;go_wp2_with fail
  ·refine (eU ax ay az bx by' bz Ha Hb _).mono ?_
   rintro e w3 ⟨D,A,E,rfl,hE,x3⟩
   have y3:Ext ((wr.alloc (.cells #[ax,ay,az] 122)).alloc (.cells #[bx,by',bz] 122)) w3:=aS8 (aUa (aTd _)) x3
   go_wp2;refine k_ hK (st_ fun K hK=>?_);go_wp2_with fail;refine r_ (dR sx sy sz HD Ha Hb Hs _ hE) fun w4 x4=>?_;have y4:=y3.trans x4;go_wp2;refine k_ hK (st_ fun K hK=>?_);go_wp2;refine l_ hK (aC ?_);clear hK K;have ba:=(aTc wr 122 [ax,ay,az]).ext (aS8 ((aTd _).alloc (.cells #[bx,by',bz] 122)) y4);have bb:=(aTc (wr.alloc (.cells #[ax,ay,az] 122)) 122 [bx,by',bz]).ext y4
   rw [aS4] at bb
   obtain ⟨m0,m1⟩:=ba.q2
   obtain ⟨n0,n1⟩:=bb.q2
   have l0:=ba.lt;have l1:=bb.lt;have h0:=hid (HX.trans (aS8 (show Ext wr ((wr.alloc (.cells #[ax,ay,az] 122)).alloc (.cells #[bx,by',bz] 122)) from X_) y4));have lv:=mT HD;clear t0 t1 t2 t3 t4 t5 t6 t7 t8 u0 u1 u2 y3 y4 x3 x4 hE ba bb
   rcases uK ax ay bx by' with e1|⟨e1,e2,e3⟩|⟨e1,e2,e3⟩|⟨e1,e2⟩ <;> rcases uL d with s1|⟨s1,s2⟩|⟨s1,s2⟩
   all_goals (try rw [e1] at lv);(try rw [e2] at lv);(try rw [e3] at lv);(try rw [s1] at lv);(try rw [s2] at lv)
   all_goals first|(have LV:=hid (lv.trans (show _=true from rfl));clear lv;go_wp2;go_roundw;(case rel=>exact ⟨1,by omega,by go_num,h0,fun _=>LV.out,fun h=>absurd h (by omega),fun h=>absurd h (by omega)⟩);(case measure=>simp [intOf]))|(have LV:=hid (lv.trans (show _=false from rfl));clear lv;go_wp2;go_ret;exact ⟨aM (by rw [<-HR];simp [LV.out]),X1.trans h0⟩)
  ·refine (eU bx by' bz cx cy cz Hb Hc _).mono ?_
   rintro e w3 ⟨D,A,E,rfl,hE,x3⟩
   have y3:Ext ((wr.alloc (.cells #[bx,by',bz] 122)).alloc (.cells #[cx,cy,cz] 122)) w3:=aS8 (aUa (aTd _)) x3
   go_wp2;refine k_ hK (st_ fun K hK=>?_);go_wp2_with fail;refine r_ (dR sx sy sz HD Hb Hc Hs _ hE) fun w4 x4=>?_;have y4:=y3.trans x4;go_wp2;refine k_ hK (st_ fun K hK=>?_);go_wp2;refine l_ hK (aC ?_);clear hK K;have ba:=(aTc wr 122 [bx,by',bz]).ext (aS8 ((aTd _).alloc (.cells #[cx,cy,cz] 122)) y4);have bb:=(aTc (wr.alloc (.cells #[bx,by',bz] 122)) 122 [cx,cy,cz]).ext y4
   rw [aS4] at bb
   obtain ⟨m0,m1⟩:=ba.q2
   obtain ⟨n0,n1⟩:=bb.q2
   have l0:=ba.lt;have l1:=bb.lt;have h0:=hid (HX.trans (aS8 (show Ext wr ((wr.alloc (.cells #[bx,by',bz] 122)).alloc (.cells #[cx,cy,cz] 122)) from X_) y4));have lv:=mT HD;clear t0 t1 t2 t3 t4 t5 t6 t7 t8 u0 u1 u2 y3 y4 x3 x4 hE ba bb
   rcases uK bx by' cx cy with e1|⟨e1,e2,e3⟩|⟨e1,e2,e3⟩|⟨e1,e2⟩ <;> rcases uL d with s1|⟨s1,s2⟩|⟨s1,s2⟩
   all_goals (try rw [e1] at lv);(try rw [e2] at lv);(try rw [e3] at lv);(try rw [s1] at lv);(try rw [s2] at lv)
   all_goals first|(have LV:=hid (lv.trans (show _=true from rfl));clear lv;go_wp2;go_roundw;(case rel=>exact ⟨2,by omega,by go_num,h0,fun _=>G0.out (by omega),fun _=>LV.out,fun h=>absurd h (by omega)⟩);(case measure=>simp [intOf]))|(have LV:=hid (lv.trans (show _=false from rfl));clear lv;go_wp2;go_ret;exact ⟨aM (by rw [<-HR];simp [LV.out]),X1.trans h0⟩)
  ·refine (eU cx cy cz ax ay az Hc Ha _).mono ?_
   rintro e w3 ⟨D,A,E,rfl,hE,x3⟩
   have y3:Ext ((wr.alloc (.cells #[cx,cy,cz] 122)).alloc (.cells #[ax,ay,az] 122)) w3:=aS8 (aUa (aTd _)) x3
   go_wp2;refine k_ hK (st_ fun K hK=>?_);go_wp2_with fail;refine r_ (dR sx sy sz HD Hc Ha Hs _ hE) fun w4 x4=>?_;have y4:=y3.trans x4;go_wp2;refine k_ hK (st_ fun K hK=>?_);go_wp2;refine l_ hK (aC ?_);clear hK K;have ba:=(aTc wr 122 [cx,cy,cz]).ext (aS8 ((aTd _).alloc (.cells #[ax,ay,az] 122)) y4);have bb:=(aTc (wr.alloc (.cells #[cx,cy,cz] 122)) 122 [ax,ay,az]).ext y4
   rw [aS4] at bb
   obtain ⟨m0,m1⟩:=ba.q2
   obtain ⟨n0,n1⟩:=bb.q2
   have l0:=ba.lt;have l1:=bb.lt;have h0:=hid (HX.trans (aS8 (show Ext wr ((wr.alloc (.cells #[cx,cy,cz] 122)).alloc (.cells #[ax,ay,az] 122)) from X_) y4));have lv:=mT HD;clear t0 t1 t2 t3 t4 t5 t6 t7 t8 u0 u1 u2 y3 y4 x3 x4 hE ba bb
   rcases uK cx cy ax ay with e1|⟨e1,e2,e3⟩|⟨e1,e2,e3⟩|⟨e1,e2⟩ <;> rcases uL d with s1|⟨s1,s2⟩|⟨s1,s2⟩
   all_goals (try rw [e1] at lv);(try rw [e2] at lv);(try rw [e3] at lv);(try rw [s1] at lv);(try rw [s2] at lv)
   all_goals first|(have LV:=hid (lv.trans (show _=true from rfl));clear lv;go_wp2;go_roundw;(case rel=>exact ⟨3,by omega,by go_num,h0,fun _=>G0.out (by omega),fun _=>G1.out (by omega),fun _=>LV.out⟩);(case measure=>simp [intOf]))|(have LV:=hid (lv.trans (show _=false from rfl));clear lv;go_wp2;go_ret;exact ⟨aM (by rw [<-HR];simp [LV.out]),X1.trans h0⟩)
theorem aHk (ax ay az bx by' bz cx cy cz:Int) (ha:V3.scr ⟨ax,ay,az⟩) (hb:V3.scr ⟨bx,by',bz⟩) (hc:V3.scr ⟨cx,cy,cz⟩) (sx sy sz:Int) (hs:V3.scr ⟨sx,sy,sz⟩) {r:Bool} (hp:aY ⟨ax,ay,az⟩ ⟨bx,by',bz⟩ ⟨cx,cy,cz⟩<0) (hr:(dQ ⟨ax,ay,az⟩ ⟨cx,cy,cz⟩ ⟨sx,sy,sz⟩&&dQ ⟨cx,cy,cz⟩ ⟨bx,by',bz⟩ ⟨sx,sy,sz⟩&&dQ ⟨bx,by',bz⟩ ⟨ax,ay,az⟩ ⟨sx,sy,sz⟩)=r) (w:World):R_ 212 #[.agg #[ax,ay,az,bx,by',bz,cx,cy,cz],.agg #[sx,sy,sz]] w (.bool r):=by
 have Ha:=aT ha;have Hb:=aT hb;have Hc:=aT hc;have Hs:=aT hs
 obtain ⟨d0,h3⟩:=e_ (aY ⟨ax,ay,az⟩ ⟨bx,by',bz⟩ ⟨cx,cy,cz⟩)
 have HA:=hid h3
 have i0:∀w:World,(aWo 151 (.agg #[ax,ay,az,cx,cy,cz,bx,by',bz]) (.int .i64 0)).run aS7 w = .ok (.agg #[ax,ay,az]) w:=fun _=>by kernel_rfl
 have i1:∀w:World,(aWo 151 (.agg #[ax,ay,az,cx,cy,cz,bx,by',bz]) (.int .i64 1)).run aS7 w = .ok (.agg #[cx,cy,cz]) w:=fun _=>by kernel_rfl
 have i2:∀w:World,(aWo 151 (.agg #[ax,ay,az,cx,cy,cz,bx,by',bz]) (.int .i64 2)).run aS7 w = .ok (.agg #[bx,by',bz]) w:=fun _=>by kernel_rfl
 have HR:=hid hr;rw [h3] at hp;clear ha hb hc hs hr h3
 have z1:(d0==0)=false:=by rw [beq_eq_false_iff_ne];omega
 have z2:decide (d0<0)=true:=by rw [decide_eq_true_eq];omega
 have h4:=aTc w 153 [ax,ay,az,bx,by',bz,cx,cy,cz];have h2:=aTc (w.alloc (.cells #[ax,ay,az,bx,by',bz,cx,cy,cz] 153)) 122 [sx,sy,sz];rw [aS4] at h2;have y0:Ext w ((w.alloc (.cells #[ax,ay,az,bx,by',bz,cx,cy,cz] 153)).alloc (.cells #[sx,sy,sz] 122)):=X_;obtain ⟨B0,B1,Y0⟩:=h3_ (h4.alloc (.cells #[sx,sy,sz] 122)) h2 y0;clear h4 h2 y0;go_enter func212,ntmps212;go_wp2_with fail;refine r_ (sU ax ay az bx by' bz cx cy cz Ha Hb Hc HA _) fun w1 x1=>?_;obtain ⟨q0,q1,X1⟩:=h3_ (B0.ext x1) (B1.ext x1) (Y0.trans x1);clear x1 B0 B1 Y0;obtain ⟨Q0,Q1⟩:=h2_ (sV.of (a:=⟨ax,ay,az⟩) (b:=⟨bx,by',bz⟩) (c:=⟨cx,cy,cz⟩) q0.out) (sW.of (s:=⟨sx,sy,sz⟩) q1.out);obtain ⟨t0,u0,u1,u2,u3,u4,u5,u6,u7,u8,v3,v4⟩:=m12_ Q0.lt Q0.c0 Q0.c1 Q0.c2 Q0.c3 Q0.c4 Q0.c5 Q0.c6 Q0.c7 Q0.c8 (q0.out.free 3) (q0.out.free 4);have v5:=q0.out.free 5;have v6:=q0.out.free 6;have v7:=q0.out.free 7;have v8:=q0.out.free 8;simp only at u0 u1 u2 u3 u4 u5 u6 u7 u8;obtain ⟨X2,P0⟩:=h2_ (show Ext w ((((((w1.setCell ⟨w.heap.size,3,none⟩ cx).setCell ⟨w.heap.size,4,none⟩ cy).setCell ⟨w.heap.size,5,none⟩ cz).setCell ⟨w.heap.size,6,none⟩ bx).setCell ⟨w.heap.size,7,none⟩ by').setCell ⟨w.heap.size,8,none⟩ bz) from by have hX:=X1.out;exact S_) (sV.of (a:=⟨ax,ay,az⟩) (b:=⟨cx,cy,cz⟩) (c:=⟨bx,by',bz⟩) ((((((q0.out.set 3 (.int .i64 cx)).set 4 (.int .i64 cy)).set 5 (.int .i64 cz)).set 6 (.int .i64 bx)).set 7 (.int .i64 by')).set 8 (.int .i64 bz)))
 have h1:w.heap.size+1≠w.heap.size:=by omega
 have P1:=hid (sW.of (s:=⟨sx,sy,sz⟩) ((((((q1.out.other (a:=⟨w.heap.size,3,none⟩) h1 (.int .i64 cx)).other (a:=⟨w.heap.size,4,none⟩) h1 (.int .i64 cy)).other (a:=⟨w.heap.size,5,none⟩) h1 (.int .i64 cz)).other (a:=⟨w.heap.size,6,none⟩) h1 (.int .i64 bx)).other (a:=⟨w.heap.size,7,none⟩) h1 (.int .i64 by')).other (a:=⟨w.heap.size,8,none⟩) h1 (.int .i64 bz)));go_wp2;clear u0 u1 u2 u3 u4 u5 u6 u7 u8 v3 v4 v5 v6 v7 v8 q0 q1 Q0 Q1 t0 X1
 obtain ⟨wq,h5⟩:=e_ ((((((w1.setCell ⟨w.heap.size,3,none⟩ cx).setCell ⟨w.heap.size,4,none⟩ cy).setCell ⟨w.heap.size,5,none⟩ cz).setCell ⟨w.heap.size,6,none⟩ bx).setCell ⟨w.heap.size,7,none⟩ by').setCell ⟨w.heap.size,8,none⟩ bz)
 rw [h5] at X2 P0 P1 ⊢;have X1:=hid X2;clear h5 X2
 go_loopw [31] (fun i wr=>∃k:Nat,k<=3/\i = .int .i64 (k:Nat)/\Ext wq wr/\(0<k->dQ ⟨ax,ay,az⟩ ⟨cx,cy,cz⟩ ⟨sx,sy,sz⟩=true)/\(1<k->dQ ⟨cx,cy,cz⟩ ⟨bx,by',bz⟩ ⟨sx,sy,sz⟩=true)/\(2<k->dQ ⟨bx,by',bz⟩ ⟨ax,ay,az⟩ ⟨sx,sy,sz⟩=true)) (fun i _=>3 - (intOf i).toNat)
 case atStart=>exact ⟨0,by omega,rfl,aTd _,fun h=>absurd h (by omega),fun h=>absurd h (by omega),fun h=>absurd h (by omega)⟩
 case round=>
  obtain ⟨k,hk,rfl,hx,g0,g1,g2⟩:=hrel;obtain ⟨HX,G0,G1,G2⟩:=h4_ hx g0 g1 g2;have hB:=P0.ext hx;obtain ⟨hS,t0,t1,t2,t3,t4,t5,t6⟩:=m8_ (P1.ext hx) hB.c0 hB.c1 hB.c2 hB.c3 hB.c4 hB.c5 hB.c6;obtain ⟨t7,t8,u0,u1,u2⟩:=m5_ hB.c7 hB.c8 hS.c0 hS.c1 hS.c2;have zb:=hB.lt;have zs:=hS.lt;simp only at t0 t1 t2 t3 t4 t5 t6 t7 t8 u0 u1 u2;clear hx g0 g1 g2 hB hS
  rcases (show k=0\/k=1\/k=2\/k=3 by omega) with rfl|rfl|rfl|rfl
  rotate_left 3
  ·go_wp2
   go_ret;exact ⟨aM (by rw [<-HR,G0 (by omega),G1 (by omega),G2 (by omega)];rfl),X1.trans HX⟩
  focus
   obtain ⟨d,hd⟩:=e_ (aY ⟨ax,ay,az⟩ ⟨cx,cy,cz⟩ ⟨sx,sy,sz⟩)
  rotate_left
  focus
   obtain ⟨d,hd⟩:=e_ (aY ⟨cx,cy,cz⟩ ⟨bx,by',bz⟩ ⟨sx,sy,sz⟩)
  rotate_left
  focus
   obtain ⟨d,hd⟩:=e_ (aY ⟨bx,by',bz⟩ ⟨ax,ay,az⟩ ⟨sx,sy,sz⟩)
  rotate_left
  all_goals
   have HD:=hid hd;clear hd;go_wp2;refine aA [([0,1,3],2),([],4),([],5)] 5 (wr.heap.size+1+1) ?_;refine st_ fun K hK=>?_;go_wp2_with fail
  ·refine (eU ax ay az cx cy cz Ha Hc _).mono ?_
   rintro e w3 ⟨D,A,E,rfl,hE,x3⟩
   have y3:Ext ((wr.alloc (.cells #[ax,ay,az] 122)).alloc (.cells #[cx,cy,cz] 122)) w3:=aS8 (aUa (aTd _)) x3
   go_wp2;refine k_ hK (st_ fun K hK=>?_);go_wp2_with fail;refine r_ (dR sx sy sz HD Ha Hc Hs _ hE) fun w4 x4=>?_;have y4:=y3.trans x4;go_wp2;refine k_ hK (st_ fun K hK=>?_);go_wp2;refine l_ hK (aC ?_);clear hK K;have ba:=(aTc wr 122 [ax,ay,az]).ext (aS8 ((aTd _).alloc (.cells #[cx,cy,cz] 122)) y4);have bb:=(aTc (wr.alloc (.cells #[ax,ay,az] 122)) 122 [cx,cy,cz]).ext y4
   rw [aS4] at bb
   obtain ⟨m0,m1⟩:=ba.q2
   obtain ⟨n0,n1⟩:=bb.q2
   have l0:=ba.lt;have l1:=bb.lt;have h0:=hid (HX.trans (aS8 (show Ext wr ((wr.alloc (.cells #[ax,ay,az] 122)).alloc (.cells #[cx,cy,cz] 122)) from X_) y4));have lv:=mT HD;clear t0 t1 t2 t3 t4 t5 t6 t7 t8 u0 u1 u2 y3 y4 x3 x4 hE ba bb
   rcases uK ax ay cx cy with e1|⟨e1,e2,e3⟩|⟨e1,e2,e3⟩|⟨e1,e2⟩ <;> rcases uL d with s1|⟨s1,s2⟩|⟨s1,s2⟩
   all_goals (try rw [e1] at lv);(try rw [e2] at lv);(try rw [e3] at lv);(try rw [s1] at lv);(try rw [s2] at lv)
   all_goals first|(have LV:=hid (lv.trans (show _=true from rfl));clear lv;go_wp2;go_roundw;(case rel=>exact ⟨1,by omega,by go_num,h0,fun _=>LV.out,fun h=>absurd h (by omega),fun h=>absurd h (by omega)⟩);(case measure=>simp [intOf]))|(have LV:=hid (lv.trans (show _=false from rfl));clear lv;go_wp2;go_ret;exact ⟨aM (by rw [<-HR];simp [LV.out]),X1.trans h0⟩)
  ·refine (eU cx cy cz bx by' bz Hc Hb _).mono ?_
   rintro e w3 ⟨D,A,E,rfl,hE,x3⟩
   have y3:Ext ((wr.alloc (.cells #[cx,cy,cz] 122)).alloc (.cells #[bx,by',bz] 122)) w3:=aS8 (aUa (aTd _)) x3
   go_wp2;refine k_ hK (st_ fun K hK=>?_);go_wp2_with fail;refine r_ (dR sx sy sz HD Hc Hb Hs _ hE) fun w4 x4=>?_;have y4:=y3.trans x4;go_wp2;refine k_ hK (st_ fun K hK=>?_);go_wp2;refine l_ hK (aC ?_);clear hK K;have ba:=(aTc wr 122 [cx,cy,cz]).ext (aS8 ((aTd _).alloc (.cells #[bx,by',bz] 122)) y4);have bb:=(aTc (wr.alloc (.cells #[cx,cy,cz] 122)) 122 [bx,by',bz]).ext y4
   rw [aS4] at bb
   obtain ⟨m0,m1⟩:=ba.q2
   obtain ⟨n0,n1⟩:=bb.q2
   have l0:=ba.lt;have l1:=bb.lt;have h0:=hid (HX.trans (aS8 (show Ext wr ((wr.alloc (.cells #[cx,cy,cz] 122)).alloc (.cells #[bx,by',bz] 122)) from X_) y4));have lv:=mT HD;clear t0 t1 t2 t3 t4 t5 t6 t7 t8 u0 u1 u2 y3 y4 x3 x4 hE ba bb
   rcases uK cx cy bx by' with e1|⟨e1,e2,e3⟩|⟨e1,e2,e3⟩|⟨e1,e2⟩ <;> rcases uL d with s1|⟨s1,s2⟩|⟨s1,s2⟩
   all_goals (try rw [e1] at lv);(try rw [e2] at lv);(try rw [e3] at lv);(try rw [s1] at lv);(try rw [s2] at lv)
   all_goals first|(have LV:=hid (lv.trans (show _=true from rfl));clear lv;go_wp2;go_roundw;(case rel=>exact ⟨2,by omega,by go_num,h0,fun _=>G0.out (by omega),fun _=>LV.out,fun h=>absurd h (by omega)⟩);(case measure=>simp [intOf]))|(have LV:=hid (lv.trans (show _=false from rfl));clear lv;go_wp2;go_ret;exact ⟨aM (by rw [<-HR];simp [LV.out]),X1.trans h0⟩)
  ·refine (eU bx by' bz ax ay az Hb Ha _).mono ?_
   rintro e w3 ⟨D,A,E,rfl,hE,x3⟩
   have y3:Ext ((wr.alloc (.cells #[bx,by',bz] 122)).alloc (.cells #[ax,ay,az] 122)) w3:=aS8 (aUa (aTd _)) x3
   go_wp2;refine k_ hK (st_ fun K hK=>?_);go_wp2_with fail;refine r_ (dR sx sy sz HD Hb Ha Hs _ hE) fun w4 x4=>?_;have y4:=y3.trans x4;go_wp2;refine k_ hK (st_ fun K hK=>?_);go_wp2;refine l_ hK (aC ?_);clear hK K;have ba:=(aTc wr 122 [bx,by',bz]).ext (aS8 ((aTd _).alloc (.cells #[ax,ay,az] 122)) y4);have bb:=(aTc (wr.alloc (.cells #[bx,by',bz] 122)) 122 [ax,ay,az]).ext y4
   rw [aS4] at bb
   obtain ⟨m0,m1⟩:=ba.q2
   obtain ⟨n0,n1⟩:=bb.q2
   have l0:=ba.lt;have l1:=bb.lt;have h0:=hid (HX.trans (aS8 (show Ext wr ((wr.alloc (.cells #[bx,by',bz] 122)).alloc (.cells #[ax,ay,az] 122)) from X_) y4));have lv:=mT HD;clear t0 t1 t2 t3 t4 t5 t6 t7 t8 u0 u1 u2 y3 y4 x3 x4 hE ba bb
   rcases uK bx by' ax ay with e1|⟨e1,e2,e3⟩|⟨e1,e2,e3⟩|⟨e1,e2⟩ <;> rcases uL d with s1|⟨s1,s2⟩|⟨s1,s2⟩
   all_goals (try rw [e1] at lv);(try rw [e2] at lv);(try rw [e3] at lv);(try rw [s1] at lv);(try rw [s2] at lv)
   all_goals first|(have LV:=hid (lv.trans (show _=true from rfl));clear lv;go_wp2;go_roundw;(case rel=>exact ⟨3,by omega,by go_num,h0,fun _=>G0.out (by omega),fun _=>G1.out (by omega),fun _=>LV.out⟩);(case measure=>simp [intOf]))|(have LV:=hid (lv.trans (show _=false from rfl));clear lv;go_wp2;go_ret;exact ⟨aM (by rw [<-HR];simp [LV.out]),X1.trans h0⟩)
theorem aE9 (ax ay az bx by' bz cx cy cz:Int) (ha:V3.scr ⟨ax,ay,az⟩) (hb:V3.scr ⟨bx,by',bz⟩) (hc:V3.scr ⟨cx,cy,cz⟩) (sx sy sz:Int) (hs:V3.scr ⟨sx,sy,sz⟩) (hp:aY ⟨ax,ay,az⟩ ⟨bx,by',bz⟩ ⟨cx,cy,cz⟩=0) (w:World):R_ 212 #[.agg #[ax,ay,az,bx,by',bz,cx,cy,cz],.agg #[sx,sy,sz]] w (.bool false):=by
 have Ha:=aT ha;have Hb:=aT hb;have Hc:=aT hc;have Hs:=aT hs
 obtain ⟨d0,h1⟩:=e_ (aY ⟨ax,ay,az⟩ ⟨bx,by',bz⟩ ⟨cx,cy,cz⟩)
 have HA:=hid h1;rw [h1] at hp;clear ha hb hc hs h1
 have z1:(d0==0)=true:=by rw [hp];rfl
 have h2:=aTc w 153 [ax,ay,az,bx,by',bz,cx,cy,cz];have h0:=aTc (w.alloc (.cells #[ax,ay,az,bx,by',bz,cx,cy,cz] 153)) 122 [sx,sy,sz];rw [aS4] at h0;have y0:Ext w ((w.alloc (.cells #[ax,ay,az,bx,by',bz,cx,cy,cz] 153)).alloc (.cells #[sx,sy,sz] 122)):=X_;obtain ⟨B0,B1,Y0⟩:=h3_ (h2.alloc (.cells #[sx,sy,sz] 122)) h0 y0;clear h2 h0 y0;go_enter func212,ntmps212;go_wp2_with fail;refine r_ (sU ax ay az bx by' bz cx cy cz Ha Hb Hc HA _) fun w1 x1=>?_;obtain ⟨q0,q1,X1⟩:=h3_ (B0.ext x1) (B1.ext x1) (Y0.trans x1);clear x1 B0 B1 Y0;go_wp2;go_ret;exact ⟨rfl,X1⟩
theorem aHl (ax ay az bx by' bz cx cy cz:Int) (ha:V3.scr ⟨ax,ay,az⟩) (hb:V3.scr ⟨bx,by',bz⟩) (hc:V3.scr ⟨cx,cy,cz⟩) (sx sy sz:Int) (hs:V3.scr ⟨sx,sy,sz⟩) {r:Bool} (hr:rH ⟨ax,ay,az⟩ ⟨bx,by',bz⟩ ⟨cx,cy,cz⟩ ⟨sx,sy,sz⟩=r) (w:World):R_ 212 #[.agg #[ax,ay,az,bx,by',bz,cx,cy,cz],.agg #[sx,sy,sz]] w (.bool r):=by
 unfold rH at hr
 split at hr
 ·rename_i h0
  subst hr
  exact aE9 ax ay az bx by' bz cx cy cz ha hb hc sx sy sz hs h0 w
 ·split at hr
  ·rename_i h0 h1
   exact aHk ax ay az bx by' bz cx cy cz ha hb hc sx sy sz hs h1 hr w
  ·rename_i h0 h1
   exact aHj ax ay az bx by' bz cx cy cz ha hb hc sx sy sz hs (by omega) hr w
def aMj (m1 m2 m3:Int):Nat->Int
 | 0=>0
 | 1=>m1
 | 2=>m1+m2
 | _=>m1+m2+m3
theorem aRa (a b c:Int):aMj a b c 0=0:=rfl
theorem aPx (a b c:Int):aMj a b c 1=a:=rfl
theorem aPy (a b c:Int):aMj a b c 2=a+b:=rfl
theorem aPz (a b c:Int):aMj a b c 3=a+b+c:=rfl
theorem pS {a b s:V3} (ha:a.scr) (hb:b.scr) (hs:s.scr) : -80000000000<=aY a b s/\aY a b s<=80000000000:=by
 have:=sS ha hb hs;unfold aY;omega
theorem aDk (h : -m<=x/\x<=m):0<=gK x/\gK x<=m:=by unfold gK;split <;> omega
theorem aKq (ax ay az bx by' bz cx cy cz:Int) (ha:V3.scr ⟨ax,ay,az⟩) (hb:V3.scr ⟨bx,by',bz⟩) (hc:V3.scr ⟨cx,cy,cz⟩) (sx sy sz:Int) (hs:V3.scr ⟨sx,sy,sz⟩) (hz:(-1000000<=az/\az<=1000000)/\(-1000000<=bz/\bz<=1000000)/\(-1000000<=cz/\cz<=1000000)) (hr:eT ⟨ax,ay,az⟩ ⟨bx,by',bz⟩ ⟨cx,cy,cz⟩ ⟨sx,sy,sz⟩=r) (w:World) :
  R_ 160 #[.agg #[ax,ay,az,bx,by',bz,cx,cy,cz],.agg #[sx,sy,sz]] w (.int .i64 r):=by
 unfold eT at hr;simp only at hr;have Ha:=aT ha;have Hb:=aT hb;have Hc:=aT hc;have Hs:=aT hs;obtain ⟨z1,z2,z3⟩:=hz;have b1:=pS hb hc hs
 obtain ⟨s1,e1⟩:=e_ (aY ⟨bx,by',bz⟩ ⟨cx,cy,cz⟩ ⟨sx,sy,sz⟩)
 rw [e1] at b1 hr;have B1:=hid (show -1000000000000<=s1/\s1<=1000000000000 by omega);have g1:=aDk b1;clear b1
 obtain ⟨n1,k1⟩:=e_ (gK s1)
 rw [k1] at g1 hr;have f1:=bK (A:=1000000) (B:=80000000000) (a:=az) (b:=n1) (by omega) (by omega)
 obtain ⟨m1,r1⟩:=e_ (az*n1)
 rw [r1] at f1 hr;obtain ⟨S1,K1,M1,F1⟩:=h4_ e1 k1 r1 f1;clear e1 k1 r1 f1 g1;have b2:=pS hc ha hs
 obtain ⟨s2,e2⟩:=e_ (aY ⟨cx,cy,cz⟩ ⟨ax,ay,az⟩ ⟨sx,sy,sz⟩)
 rw [e2] at b2 hr;have B2:=hid (show -1000000000000<=s2/\s2<=1000000000000 by omega);have g2:=aDk b2;clear b2
 obtain ⟨n2,k2⟩:=e_ (gK s2)
 rw [k2] at g2 hr;have f2:=bK (A:=1000000) (B:=80000000000) (a:=bz) (b:=n2) (by omega) (by omega)
 obtain ⟨m2,r2⟩:=e_ (bz*n2)
 rw [r2] at f2 hr;obtain ⟨S2,K2,M2,F2⟩:=h4_ e2 k2 r2 f2;clear e2 k2 r2 f2 g2;have b3:=pS ha hb hs
 obtain ⟨s3,e3⟩:=e_ (aY ⟨ax,ay,az⟩ ⟨bx,by',bz⟩ ⟨sx,sy,sz⟩)
 rw [e3] at b3 hr;have B3:=hid (show -1000000000000<=s3/\s3<=1000000000000 by omega);have g3:=aDk b3;clear b3
 obtain ⟨n3,k3⟩:=e_ (gK s3)
 rw [k3] at g3 hr;have f3:=bK (A:=1000000) (B:=80000000000) (a:=cz) (b:=n3) (by omega) (by omega)
 obtain ⟨m3,r3⟩:=e_ (cz*n3)
 rw [r3] at f3 hr;obtain ⟨S3,K3,M3,F3⟩:=h4_ e3 k3 r3 f3;clear e3 k3 r3 f3 g3
 obtain ⟨d0,h1⟩:=e_ (aY ⟨ax,ay,az⟩ ⟨bx,by',bz⟩ ⟨cx,cy,cz⟩)
 rw [h1] at hr;obtain ⟨HA,BA⟩:=h2_ h1 (show -1000000000000<=d0/\d0<=1000000000000 by have:=pS ha hb hc;rw [h1] at this;omega)
 obtain ⟨da,h3⟩:=e_ (gK d0)
 rw [h3] at hr;obtain ⟨KA,HR⟩:=h2_ h3 hr;clear ha hb hc hs hr h1 h3 z1 z2 z3
 have i0:∀w:World,(aWo 151 (.agg #[ax,ay,az,bx,by',bz,cx,cy,cz]) (.int .i64 0)).run aS7 w = .ok (.agg #[ax,ay,az]) w:=fun _=>by kernel_rfl
 have i1:∀w:World,(aWo 151 (.agg #[ax,ay,az,bx,by',bz,cx,cy,cz]) (.int .i64 1)).run aS7 w = .ok (.agg #[bx,by',bz]) w:=fun _=>by kernel_rfl
 have i2:∀w:World,(aWo 151 (.agg #[ax,ay,az,bx,by',bz,cx,cy,cz]) (.int .i64 2)).run aS7 w = .ok (.agg #[cx,cy,cz]) w:=fun _=>by kernel_rfl
 have h5:=aTc w 153 [ax,ay,az,bx,by',bz,cx,cy,cz];have h2:=aTc (w.alloc (.cells #[ax,ay,az,bx,by',bz,cx,cy,cz] 153)) 122 [sx,sy,sz];rw [aS4] at h2;have y0:Ext w ((w.alloc (.cells #[ax,ay,az,bx,by',bz,cx,cy,cz] 153)).alloc (.cells #[sx,sy,sz] 122)):=X_;obtain ⟨Q0,Q1,X1⟩:=h3_ (sV.of (a:=⟨ax,ay,az⟩) (b:=⟨bx,by',bz⟩) (c:=⟨cx,cy,cz⟩) (h5.alloc (.cells #[sx,sy,sz] 122))) (sW.of (s:=⟨sx,sy,sz⟩) h2) y0;clear h5 h2 y0;go_enter func160,ntmps160;obtain ⟨t0,u0,u1,u2,u3,u4,u5,u6⟩:=m8_ Q0.lt Q0.c0 Q0.c1 Q0.c2 Q0.c3 Q0.c4 Q0.c5 Q0.c6;have u7:=Q0.c7;have u8:=Q0.c8;simp only at u0 u1 u2 u3 u4 u5 u6 u7 u8;go_wp2;clear u0 u1 u2 u3 u4 u5 u6 u7 u8 t0
 obtain ⟨W0,h4⟩:=e_ ((w.alloc (.cells #[ax,ay,az,bx,by',bz,cx,cy,cz] 153)).alloc (.cells #[sx,sy,sz] 122))
 rw [h4] at Q0 Q1 X1 ⊢;clear h4
 go_loopw [5,10] (fun sm i wr=>∃k:Nat,k<=3/\i = .int .i64 (k:Nat)/\sm = .int .i64 (aMj m1 m2 m3 k)/\Ext W0 wr) (fun _ i _=>3 - (intOf i).toNat)
 case atStart=>exact ⟨0,by omega,rfl,rfl,aTd _⟩
 case round=>
  obtain ⟨k,hk,rfl,rfl,hx⟩:=hrel;have HX:=hid hx;have hB:=Q0.ext hx;obtain ⟨hS,t0,t1,t2,t3,t4,t5,t6⟩:=m8_ (Q1.ext hx) hB.c0 hB.c1 hB.c2 hB.c3 hB.c4 hB.c5 hB.c6;obtain ⟨t7,t8,u0,u1,u2⟩:=m5_ hB.c7 hB.c8 hS.c0 hS.c1 hS.c2;have zb:=hB.lt;have zs:=hS.lt;simp only at t0 t1 t2 t3 t4 t5 t6 t7 t8 u0 u1 u2;clear hx
  rcases (show k=0\/k=1\/k=2\/k=3 by omega) with rfl|rfl|rfl|rfl
  rotate_left 3
  ·rw [aPz]
   have f1:=F1.out;have f2:=F2.out;have f3:=F3.out;go_wp2_with fail;refine r_ (sU ax ay az bx by' bz cx cy cz Ha Hb Hc HA _) fun w6 x6=>?_;go_wp2_with fail;refine z_ (jT BA KA _) ?_;go_wp2_with fail;refine z_ (cN (I64.of (m:=1000000000000000000) (by omega) (by decide)) HR _) ?_;go_wp2;go_ret;exact ⟨rfl,X1.trans (HX.trans x6)⟩
  focus
   rw [aRa]
   have r1:=M1.out;have f1:=F1.out
  rotate_left
  focus
   rw [aPx]
   have r2:=M2.out;have f1:=F1.out;have f2:=F2.out
  rotate_left
  focus
   rw [aPy]
   have r3:=M3.out;have f1:=F1.out;have f2:=F2.out;have f3:=F3.out
  rotate_left
  all_goals
   go_wp2;refine aA [([0,1,2,3,4,5,6,7,8,9,10,11,12,13,14,16],15),([],17),([],18),([19,20],21)] 21 (wr.heap.size+1) ?_;refine st_ fun K hK=>?_;go_wp2_with fail
  ·refine (eU bx by' bz cx cy cz Hb Hc _).mono ?_
   rintro e w3 ⟨D,A,E,rfl,hE,x3⟩
   have y3:Ext (wr.alloc (.cells #[ax,ay,az] 122)) w3:=aS8 (aUa (aTd _)) x3
   go_wp2;refine k_ hK (st_ fun K hK=>?_);go_wp2_with fail;refine r_ (dR sx sy sz S1 Hb Hc Hs _ hE) fun w4 x4=>?_;have y4:=y3.trans x4;go_wp2;refine k_ hK (st_ fun K hK=>?_);go_wp2_with fail;refine z_ (jT B1 K1 _) ?_;go_wp2;refine k_ hK (st_ fun K hK=>?_);go_wp2;refine l_ hK (aC ?_);clear hK K;have h0:=hid (HX.trans (aS8 (show Ext wr (wr.alloc (.cells #[ax,ay,az] 122)) from X_) y4));clear t0 t1 t2 t3 t4 t5 t6 t7 t8 u0 u1 u2 y3 y4 x3 x4 hE;go_wp2;go_roundw
   case rel=>exact ⟨1,by omega,by go_num,by rw [aPx] <;> go_num,h0⟩
   case measure=>simp [intOf]
  ·refine (eU cx cy cz ax ay az Hc Ha _).mono ?_
   rintro e w3 ⟨D,A,E,rfl,hE,x3⟩
   have y3:Ext (wr.alloc (.cells #[bx,by',bz] 122)) w3:=aS8 (aUa (aTd _)) x3
   go_wp2;refine k_ hK (st_ fun K hK=>?_);go_wp2_with fail;refine r_ (dR sx sy sz S2 Hc Ha Hs _ hE) fun w4 x4=>?_;have y4:=y3.trans x4;go_wp2;refine k_ hK (st_ fun K hK=>?_);go_wp2_with fail;refine z_ (jT B2 K2 _) ?_;go_wp2;refine k_ hK (st_ fun K hK=>?_);go_wp2;refine l_ hK (aC ?_);clear hK K;have h0:=hid (HX.trans (aS8 (show Ext wr (wr.alloc (.cells #[bx,by',bz] 122)) from X_) y4));clear t0 t1 t2 t3 t4 t5 t6 t7 t8 u0 u1 u2 y3 y4 x3 x4 hE;go_wp2;go_roundw
   case rel=>exact ⟨2,by omega,by go_num,by rw [aPy] <;> go_num,h0⟩
   case measure=>simp [intOf]
  ·refine (eU ax ay az bx by' bz Ha Hb _).mono ?_
   rintro e w3 ⟨D,A,E,rfl,hE,x3⟩
   have y3:Ext (wr.alloc (.cells #[cx,cy,cz] 122)) w3:=aS8 (aUa (aTd _)) x3
   go_wp2;refine k_ hK (st_ fun K hK=>?_);go_wp2_with fail;refine r_ (dR sx sy sz S3 Ha Hb Hs _ hE) fun w4 x4=>?_;have y4:=y3.trans x4;go_wp2;refine k_ hK (st_ fun K hK=>?_);go_wp2_with fail;refine z_ (jT B3 K3 _) ?_;go_wp2;refine k_ hK (st_ fun K hK=>?_);go_wp2;refine l_ hK (aC ?_);clear hK K;have h0:=hid (HX.trans (aS8 (show Ext wr (wr.alloc (.cells #[cx,cy,cz] 122)) from X_) y4));clear t0 t1 t2 t3 t4 t5 t6 t7 t8 u0 u1 u2 y3 y4 x3 x4 hE;go_wp2;go_roundw
   case rel=>exact ⟨3,by omega,by go_num,by rw [aPz] <;> go_num,h0⟩
   case measure=>simp [intOf]
theorem nP {z:Int} (hx : -100000<=x/\x<=100000) (hy : -100000<=y/\y<=100000) (hz : -1000000<=z/\z<=1000000) (w:World) :
  R_ 213 #[.agg #[x,y,z]] w (.agg #[x,y,z]):=by
 obtain ⟨X,Y,Z,SX,SY⟩:=h5_ (sG (x:=x) (by omega)) (sG (x:=y) (by omega)) (sG (x:=z) (by omega)) (show aQ x (-100000) 100000=x from aCy hx) (show aQ y (-100000) 100000=y from aCy hy);clear hx hy hz;have h2:=aTc w 122 [x,y,z];have h0:=aTc (w.alloc (.cells #[x,y,z] 122)) 122 [(),(),()];rw [aS4] at h0;have y0:Ext w ((w.alloc (.cells #[x,y,z] 122)).alloc (.cells #[(),(),()] 122)):=X_;obtain ⟨B0,B1,Y0⟩:=h3_ (h2.alloc (.cells #[(),(),()] 122)) h0 y0;clear h2 h0 y0;go_enter func213,ntmps213;go_wp2_with fail;refine r_ (fF X Y Z _) fun w1 x1=>?_;have C0:=B0.ext x1;have C1:=B1.ext x1;have f0:=C0.free 0;have f1:=C0.free 1;have f2:=C0.free 2;obtain ⟨k0,k1,k2⟩:=C0.q3;have zc:=C0.lt;have E0:=hid (((C0.set 0 (.int .i64 x)).set 1 (.int .i64 y)).set 2 (.int .i64 z))
 have h1:w.heap.size+1≠w.heap.size:=by omega
 have E1:=hid (((C1.other (a:=⟨w.heap.size,0,none⟩) h1 (.int .i64 x)).other (a:=⟨w.heap.size,1,none⟩) h1 (.int .i64 y)).other (a:=⟨w.heap.size,2,none⟩) h1 (.int .i64 z));have X1:=Y0.trans x1;have X2:=hid (show Ext w (((w1.setCell ⟨w.heap.size,0,none⟩ x).setCell ⟨w.heap.size,1,none⟩ y).setCell ⟨w.heap.size,2,none⟩ z) from S_);clear C0 C1 x1 X1 B0 B1 Y0;go_upto_region 2 with fail;clear f0 f1 f2 zc k0 k1 k2
 obtain ⟨w2,h3⟩:=e_ (((w1.setCell ⟨w.heap.size,0,none⟩ x).setCell ⟨w.heap.size,1,none⟩ y).setCell ⟨w.heap.size,2,none⟩ z)
 rw [h3] at E0 E1 X2 ⊢;clear h3;obtain ⟨c0,c1,c2⟩:=E0.q3;obtain ⟨z0,z1,f0,f1,f2⟩:=m5_ E0.lt E1.lt (E1.free 0) (E1.free 1) (E1.free 2);obtain ⟨k0,k1,k2⟩:=E1.q3;refine aA [([0,1,3,4,6,7],2),([],5),([8],9)] 9 w2.heap.size ?_;refine st_ fun K hK=>?_;go_wp2_with fail;refine z_ (dI SX _) ?_;go_wp2;refine hK _ _ (.inr (fun k _ hk=>aTf X_ hk)) ?_;clear hK K;refine st_ fun K hK=>?_;go_wp2_with fail;refine z_ (dI SY _) ?_;go_wp2;refine hK _ _ (.inr (fun k _ hk=>aTf X_ hk)) ?_;clear hK K;refine st_ fun K hK=>?_;go_wp2;refine l_ hK (aC ?_);clear hK K;have hX:=X2.out;go_wp2;exact bodyPost_ret (v:=.agg #[x,y,z]) (by simp [results,results213,go_sem, *]) rfl ⟨rfl,S_⟩
theorem vI (ax ay az bx by' bz cx cy cz:Int) (ha:V3.scr ⟨ax,ay,az⟩) (hb:V3.scr ⟨bx,by',bz⟩) (hc:V3.scr ⟨cx,cy,cz⟩) (hz:(-1000000<=az/\az<=1000000)/\(-1000000<=bz/\bz<=1000000)/\(-1000000<=cz/\cz<=1000000)) (w:World):R_ 159 #[.agg #[ax,ay,az,bx,by',bz,cx,cy,cz]] w (.agg #[ax,ay,az,bx,by',bz,cx,cy,cz]):=by
 obtain ⟨z1,z2,z3⟩:=hz;obtain ⟨a1,a2⟩:=ha;obtain ⟨b1,b2⟩:=hb;obtain ⟨c1,c2⟩:=hc;simp only at a1 a2 b1 b2 c1 c2;obtain ⟨Za,Zb,Zc,h4,h5,h6,h7,h8,h9⟩:=h9_ z1 z2 z3 a1 a2 b1 b2 c1 c2;clear z1 z2 z3 a1 a2 b1 b2 c1 c2
 have i0:∀w:World,(aWo 151 (.agg #[ax,ay,az,bx,by',bz,cx,cy,cz]) (.int .i64 0)).run aS7 w = .ok (.agg #[ax,ay,az]) w:=fun _=>by kernel_rfl
 have i1:∀w:World,(aWo 151 (.agg #[ax,ay,az,bx,by',bz,cx,cy,cz]) (.int .i64 1)).run aS7 w = .ok (.agg #[bx,by',bz]) w:=fun _=>by kernel_rfl
 have i2:∀w:World,(aWo 151 (.agg #[ax,ay,az,bx,by',bz,cx,cy,cz]) (.int .i64 2)).run aS7 w = .ok (.agg #[cx,cy,cz]) w:=fun _=>by kernel_rfl
 have h3:=aTc w 153 [ax,ay,az,bx,by',bz,cx,cy,cz];have h1:=aTc (w.alloc (.cells #[ax,ay,az,bx,by',bz,cx,cy,cz] 153)) 153 [(),(),(),(),(),(),(),(),()];rw [aS4] at h1;have y0:Ext w ((w.alloc (.cells #[ax,ay,az,bx,by',bz,cx,cy,cz] 153)).alloc (.cells #[(),(),(),(),(),(),(),(),()] 153)):=X_;obtain ⟨B0,B1,Y0⟩:=h3_ (h3.alloc (.cells #[(),(),(),(),(),(),(),(),()] 153)) h1 y0;obtain ⟨c0,c1,c2,c3,c4,c5,c6,c7⟩:=m8_ (B0.cell 0 rfl) (B0.cell 1 rfl) (B0.cell 2 rfl) (B0.cell 3 rfl) (B0.cell 4 rfl) (B0.cell 5 rfl) (B0.cell 6 rfl) (B0.cell 7 rfl);have c8:=B0.cell 8 rfl;have zc:=B0.lt;clear h3 h1 y0;go_enter func159,ntmps159;go_wp2;clear c0 c1 c2 c3 c4 c5 c6 c7 c8 zc
 obtain ⟨W0,h2⟩:=e_ ((w.alloc (.cells #[ax,ay,az,bx,by',bz,cx,cy,cz] 153)).alloc (.cells #[(),(),(),(),(),(),(),(),()] 153))
 rw [h2] at B0 B1 Y0 ⊢;clear h2
 go_loopw [7] (fun i wr=>∃k:Nat,k<=3/\i = .int .i64 (k:Nat)/\Ext w wr/\Blk wr w.heap.size 153 [ax,ay,az,bx,by',bz,cx,cy,cz]/\Blk wr (w.heap.size+1) 153 [(),(),(),(),(),(),(),(),()]) (fun i _=>3 - (intOf i).toNat)
 case atStart=>exact ⟨0,by omega,rfl,Y0,B0,B1⟩
 case round=>
  obtain ⟨k,hk,rfl,hx,hB,hC⟩:=hrel;obtain ⟨HX,HB,HC⟩:=h3_ hx hB hC;have zw:=hx.size;have zb:=hB.lt;have zc:=hC.lt;clear hx hB hC B0 B1 Y0
  rcases (show k=0\/k=1\/k=2\/k=3 by omega) with rfl|rfl|rfl|rfl
  ·go_wp2_with fail
   refine r_ (nP h4 h5 Za _) fun w3 x3=>?_;have y3:Ext wr w3:=aS8 (show Ext wr (wr.alloc (.cells #[ax,ay,az] 122)) from X_) x3;have D0:=HB.ext y3;have D1:=HC.ext y3;have f0:=D0.free 0;have f1:=D0.free 1;have f2:=D0.free 2;obtain ⟨k0,k1,k2⟩:=D0.q3;have z3:=D0.lt;have X3:=HX.trans y3;have G0:=hid (((D0.set 0 (.int .i64 ax)).set 1 (.int .i64 ay)).set 2 (.int .i64 az))
   have h0:w.heap.size+1≠w.heap.size:=by omega
   obtain ⟨G1,GX⟩:=h2_ (((D1.other (a:=⟨w.heap.size,0,none⟩) h0 (.int .i64 ax)).other (a:=⟨w.heap.size,1,none⟩) h0 (.int .i64 ay)).other (a:=⟨w.heap.size,2,none⟩) h0 (.int .i64 az)) (show Ext w (((w3.setCell ⟨w.heap.size,0,none⟩ ax).setCell ⟨w.heap.size,1,none⟩ ay).setCell ⟨w.heap.size,2,none⟩ az) from S_);clear D0 D1 X3 y3 x3 HB HC HX;go_wp2;go_roundw
   case rel=>exact ⟨1,by omega,by go_num,GX,G0,G1⟩
   case measure=>simp [intOf]
  ·go_wp2_with fail
   refine r_ (nP h6 h7 Zb _) fun w3 x3=>?_;have y3:Ext wr w3:=aS8 (show Ext wr (wr.alloc (.cells #[bx,by',bz] 122)) from X_) x3;have D0:=HB.ext y3;obtain ⟨D1,f0,f1,f2,k0,k1,k2,z3⟩:=m8_ (HC.ext y3) (D0.free 3) (D0.free 4) (D0.free 5) (D0.cell 3 rfl) (D0.cell 4 rfl) (D0.cell 5 rfl) D0.lt;have X3:=HX.trans y3;have G0:=hid (((D0.set 3 (.int .i64 bx)).set 4 (.int .i64 by')).set 5 (.int .i64 bz))
   have h0:w.heap.size+1≠w.heap.size:=by omega
   obtain ⟨G1,GX⟩:=h2_ (((D1.other (a:=⟨w.heap.size,3,none⟩) h0 (.int .i64 bx)).other (a:=⟨w.heap.size,4,none⟩) h0 (.int .i64 by')).other (a:=⟨w.heap.size,5,none⟩) h0 (.int .i64 bz)) (show Ext w (((w3.setCell ⟨w.heap.size,3,none⟩ bx).setCell ⟨w.heap.size,4,none⟩ by').setCell ⟨w.heap.size,5,none⟩ bz) from S_);clear D0 D1 X3 y3 x3 HB HC HX;go_wp2;go_roundw
   case rel=>exact ⟨2,by omega,by go_num,GX,G0,G1⟩
   case measure=>simp [intOf]
  ·go_wp2_with fail
   refine r_ (nP h8 h9 Zc _) fun w3 x3=>?_;have y3:Ext wr w3:=aS8 (show Ext wr (wr.alloc (.cells #[cx,cy,cz] 122)) from X_) x3;have D0:=HB.ext y3;obtain ⟨D1,f0,f1,f2,k0,k1,k2,z3⟩:=m8_ (HC.ext y3) (D0.free 6) (D0.free 7) (D0.free 8) (D0.cell 6 rfl) (D0.cell 7 rfl) (D0.cell 8 rfl) D0.lt;have X3:=HX.trans y3;have G0:=hid (((D0.set 6 (.int .i64 cx)).set 7 (.int .i64 cy)).set 8 (.int .i64 cz))
   have h0:w.heap.size+1≠w.heap.size:=by omega
   obtain ⟨G1,GX⟩:=h2_ (((D1.other (a:=⟨w.heap.size,6,none⟩) h0 (.int .i64 cx)).other (a:=⟨w.heap.size,7,none⟩) h0 (.int .i64 cy)).other (a:=⟨w.heap.size,8,none⟩) h0 (.int .i64 cz)) (show Ext w (((w3.setCell ⟨w.heap.size,6,none⟩ cx).setCell ⟨w.heap.size,7,none⟩ cy).setCell ⟨w.heap.size,8,none⟩ cz) from S_);clear D0 D1 X3 y3 x3 HB HC HX;go_wp2;go_roundw
   case rel=>exact ⟨3,by omega,by go_num,GX,G0,G1⟩
   case measure=>simp [intOf]
  ·have c0:=HB.cell 0 rfl
   obtain ⟨c1,c2,c3,c4,c5,c6,c7,c8,f0,f1,f2,f3⟩:=m12_ (HB.cell 1 rfl) (HB.cell 2 rfl) (HB.cell 3 rfl) (HB.cell 4 rfl) (HB.cell 5 rfl) (HB.cell 6 rfl) (HB.cell 7 rfl) (HB.cell 8 rfl) (HC.free 0) (HC.free 1) (HC.free 2) (HC.free 3);obtain ⟨f4,f5,f6,f7,f8,k0,k1,k2,k3,k4,k5,k6⟩:=m12_ (HC.free 4) (HC.free 5) (HC.free 6) (HC.free 7) (HC.free 8) (HC.cell 0 rfl) (HC.cell 1 rfl) (HC.cell 2 rfl) (HC.cell 3 rfl) (HC.cell 4 rfl) (HC.cell 5 rfl) (HC.cell 6 rfl);have k7:=HC.cell 7 rfl;have k8:=HC.cell 8 rfl;have hX:=HX.out;go_wp2;exact bodyPost_ret (v:=.agg #[ax,ay,az,bx,by',bz,cx,cy,cz]) (by simp [results,results159,go_sem, *]) rfl ⟨rfl,S_⟩
theorem vJ (ax ay az bx by' bz cx cy cz:Int) (ha:V3.scr ⟨ax,ay,az⟩) (hb:V3.scr ⟨bx,by',bz⟩) (hc:V3.scr ⟨cx,cy,cz⟩) (hz:(-1000000<=az/\az<=1000000)/\(-1000000<=bz/\bz<=1000000)/\(-1000000<=cz/\cz<=1000000)) (sx sy:Int) (hs:(-100000<=sx/\sx<=100000)/\(-100000<=sy/\sy<=100000)) {r:Bool} (hr:rH ⟨ax,ay,az⟩ ⟨bx,by',bz⟩ ⟨cx,cy,cz⟩ ⟨sx,sy,0⟩=r) (w:World) :
  R_ 158 #[.agg #[ax,ay,az,bx,by',bz,cx,cy,cz],sx,sy] w (.bool r):=by
 have Ha:=aT ha;have Hb:=aT hb;have Hc:=aT hc;obtain ⟨HZ,HR⟩:=h2_ hz hr;have Hs:=aT (show V3.scr ⟨sx,sy,0⟩ from hs);obtain ⟨I1,I2⟩:=h2_ (aG.2 hs.1) (aG.2 hs.2);have y0:Ext w (w.alloc (.cells #[ax,ay,az,bx,by',bz,cx,cy,cz] 153)):=X_;have Y0:=hid y0;clear ha hb hc hz hr hs y0;go_enter func158,ntmps158;go_wp2_with (go_at_call 92;with_reducible first|(refine z_ (aH I1.out _) ?_)|(refine z_ (aH I2.out _) ?_));refine r_ (vI ax ay az bx by' bz cx cy cz Ha.out Hb.out Hc.out HZ.out _) fun w1 x1=>?_;go_wp2_with fail;refine r_ (aHl ax ay az bx by' bz cx cy cz Ha.out Hb.out Hc.out sx sy 0 Hs.out HR.out _) fun w2 x2=>?_;go_wp2;go_ret;exact ⟨rfl,Y0.out.trans (x1.trans x2)⟩
theorem aHm (ax ay az bx by' bz cx cy cz:Int) (ha:V3.scr ⟨ax,ay,az⟩) (hb:V3.scr ⟨bx,by',bz⟩) (hc:V3.scr ⟨cx,cy,cz⟩) (hz:(-1000000<=az/\az<=1000000)/\(-1000000<=bz/\bz<=1000000)/\(-1000000<=cz/\cz<=1000000)) (sx sy:Int) (hs:(-100000<=sx/\sx<=100000)/\(-100000<=sy/\sy<=100000)) (hr:rH ⟨ax,ay,az⟩ ⟨bx,by',bz⟩ ⟨cx,cy,cz⟩ ⟨sx,sy,0⟩=false) (w:World) :
  R_ 104 #[.agg #[ax,ay,az,bx,by',bz,cx,cy,cz],sx,sy] w (.tuple #[(),.bool false]):=by
 have Ha:=aT ha;have Hb:=aT hb;have Hc:=aT hc;obtain ⟨HZ,HR,HS⟩:=h3_ hz hr hs;have h0:=aTc w 153 [ax,ay,az,bx,by',bz,cx,cy,cz];have y0:Ext w (w.alloc (.cells #[ax,ay,az,bx,by',bz,cx,cy,cz] 153)):=X_;obtain ⟨B0,Y0⟩:=h2_ h0 y0;clear ha hb hc hz hr hs y0 h0;go_enter func104,ntmps104;go_wp2_with fail;refine r_ (vJ ax ay az bx by' bz cx cy cz Ha Hb Hc HZ sx sy HS HR _) fun w1 x1=>?_;go_wp2;exact bodyPost_ret (v:=.tuple #[(),.bool false]) (by simp [results,results104,go_sem, *]) rfl ⟨rfl,Y0.trans x1⟩
theorem aFa (ax ay az bx by' bz cx cy cz:Int) (ha:V3.scr ⟨ax,ay,az⟩) (hb:V3.scr ⟨bx,by',bz⟩) (hc:V3.scr ⟨cx,cy,cz⟩) (hz:(-1000000<=az/\az<=1000000)/\(-1000000<=bz/\bz<=1000000)/\(-1000000<=cz/\cz<=1000000)) (sx sy:Int) (hs:(-100000<=sx/\sx<=100000)/\(-100000<=sy/\sy<=100000)) (hr:rH ⟨ax,ay,az⟩ ⟨bx,by',bz⟩ ⟨cx,cy,cz⟩ ⟨sx,sy,0⟩=true) (hd:eT ⟨ax,ay,az⟩ ⟨bx,by',bz⟩ ⟨cx,cy,cz⟩ ⟨sx,sy,0⟩=r) (w:World) :
  R_ 104 #[.agg #[ax,ay,az,bx,by',bz,cx,cy,cz],sx,sy] w (.tuple #[r,.bool true]):=by
 have Ha:=aT ha;have Hb:=aT hb;have Hc:=aT hc;obtain ⟨HZ,HR,HS,HD⟩:=h4_ hz hr hs hd;have h0:=aTc w 153 [ax,ay,az,bx,by',bz,cx,cy,cz];have y0:Ext w (w.alloc (.cells #[ax,ay,az,bx,by',bz,cx,cy,cz] 153)):=X_;obtain ⟨B0,Y0⟩:=h2_ h0 y0;clear ha hb hc hz hr hs y0 h0 hd;go_enter func104,ntmps104;go_wp2_with fail;refine r_ (vJ ax ay az bx by' bz cx cy cz Ha Hb Hc HZ sx sy HS HR _) fun w1 x1=>?_;obtain ⟨c0,c1,c2,c3,c4,c5,c6,c7⟩:=m8_ ((B0.ext x1).cell 0 rfl) ((B0.ext x1).cell 1 rfl) ((B0.ext x1).cell 2 rfl) ((B0.ext x1).cell 3 rfl) ((B0.ext x1).cell 4 rfl) ((B0.ext x1).cell 5 rfl) ((B0.ext x1).cell 6 rfl) ((B0.ext x1).cell 7 rfl);have c8:=(B0.ext x1).cell 8 rfl;have zb:=(B0.ext x1).lt;go_wp2_with fail;refine r_ (vI ax ay az bx by' bz cx cy cz Ha Hb Hc HZ _) fun w2 x2=>?_;clear c0 c1 c2 c3 c4 c5 c6 c7 c8;go_wp2_with fail;refine r_ (aKq ax ay az bx by' bz cx cy cz Ha Hb Hc sx sy 0 HS HZ HD _) fun w3 x3=>?_;go_wp2;exact bodyPost_ret (v:=.tuple #[r,.bool true]) (by simp [results,results104,go_sem, *]) rfl ⟨rfl,Y0.trans (x1.trans (x2.trans x3))⟩
def rS (op:Int):Bool:=op==2||op==8
def aDl (op l:Int):Bool:=if op=1\/op=2 then l==0 else if op=3 then l==1 else if 4<=op/\op<=7 then l==2 else if op=8 then decide (l<=3) else false
def hZ (x:Nd):Bool:=(if rS x.op then dV x.name else x.name.toList==[])&&(if x.op=1 then inB x.num 0 2559999 else x.num==0)&&aDl x.op x.args.length
theorem vK {s:ByteArray} (h:dV s=true):(s.toList==[])=false:=by
 rw [beq_eq_false_iff_ne];intro e
 have h1:s.size=0:=by
  rw [ByteArray.toList_eq] at e
  have:s.data.toList.length=s.size:=by simp
  rw [<-this,e]
  rfl
 unfold dV at h;rw [h1] at h;simp at h
theorem lK {s:ByteArray} (h:dV s=b) (w:World) (hs:s.size<=maxLen):R_ 238 #[.string s] w (.bool b):=h▸sN s w hs
theorem lL {s:ByteArray} (h:dV s=b) (w:World) (hs:s.size<=maxLen):Z_ 187 #[.string s] w (.bool b):=h▸sM s w hs
theorem aFb (op:Int) (bn:Bool):(op=1/\bn=true)\/(op=1/\bn=false)\/op=2\/op=3\/op=4\/op=5\/op=6\/op=7\/op=8\/(op≠1/\op≠2/\op≠3/\op≠4/\op≠5/\op≠6/\op≠7/\op≠8):=by
 cases bn <;> simp <;> omega
theorem xZ (op:Int) (s:ByteArray) (n:Int) (a:Option Addr) (r:List Int) (cap:Nat) (w:World) (hs:s.size<=maxLen) :
  R_ 237 #[.agg #[op,.string s,n,.slice a r.length cap]] w (.bool (hZ ⟨op,s,n,r⟩)):=by
 obtain ⟨bi,h2⟩:=e_ (dV s)
 obtain ⟨be,h4⟩:=e_ (s.toList==[])
 obtain ⟨bn,h0⟩:=e_ (inB n 0 2559999)
 have h3:bi=true->be=false:=fun h=>by rw [<-h4];exact vK (by rw [h2,h])
 have bA:=Bx.made w #[op,.string s,n,.slice a r.length cap] 197;obtain ⟨HS,HI⟩:=h2_ hs h2;clear hs
 rcases aFb op bn with ⟨rfl,rfl⟩|⟨rfl,rfl⟩|rfl|rfl|rfl|rfl|rfl|rfl|rfl|⟨o1,o2,o3,o4,o5,o6,o7,o8⟩
 all_goals cases bi <;> cases be
 all_goals first|(exfalso;simp at h3;done)|skip
 all_goals
  try have q1:(op==1)=false:=beq_eq_false_iff_ne.2 o1
  try have q2:(op==2)=false:=beq_eq_false_iff_ne.2 o2
  try have q3:(op==3)=false:=beq_eq_false_iff_ne.2 o3
  try have q4:(op==4)=false:=beq_eq_false_iff_ne.2 o4
  try have q5:(op==5)=false:=beq_eq_false_iff_ne.2 o5
  try have q6:(op==6)=false:=beq_eq_false_iff_ne.2 o6
  try have q7:(op==7)=false:=beq_eq_false_iff_ne.2 o7
  try have q8:(op==8)=false:=beq_eq_false_iff_ne.2 o8
  clear h3 h2;go_enter func237,ntmps237;go_wp2_with fail;refine r_ (lK HI _ HS) fun w1 x1=>?_;have h1:=bA.ext x1;have X1:Ext w w1:=aS8 X_ x1;clear bA x1;have y:=h1.lt;obtain ⟨y0,y1,y2,y3⟩:=h1.q4;clear h1;go_wp2_with (go_at_call 92;refine z_ (aH h0 _) ?_)
  all_goals (go_ret;exact ⟨by first|(simp [hZ,rS,aDl,HI.out,h0, *];done)|(simp [hZ,rS,aDl,HI.out,h0, *] <;> simp_all;done)|(simp [hZ,rS,aDl,HI.out,h0, *] <;> omega),X1⟩)
def mU (r:List Int) (i:Int):Bool:=r.all fun a=>inB a 0 (i - 1)
theorem aOl:inB 4 4 7=true/\inB 5 4 7=true/\inB 6 4 7=true/\inB 7 4 7=true:=⟨rfl,rfl,rfl,rfl⟩
theorem aKr (lo hi:Nat) (op:Int) (s:ByteArray) (n:Int) (u:Value) (r:List Int) (i:Int) (w:World) (hu:aS lo hi w u r) (hh:hi<=w.heap.size) (hs:s.size<=maxLen) (hi1:0<=i) (hi2:i<=10000000) :
  R_ 186 #[.agg #[op,.string s,n,u],i] w (.bool (mU r i&&hZ ⟨op,s,n,r⟩)):=by
 obtain ⟨a,cap,rfl,HU⟩:=hu.open;have l1:=HU.le;have l2:=HU.cap
 obtain ⟨bi,h7⟩:=e_ (dV s)
 obtain ⟨be,h5⟩:=e_ (s.toList==[])
 obtain ⟨bn,h1⟩:=e_ (inB n 0 2559999)
 have h3:bi=true->be=false:=fun h=>by rw [<-h5];exact vK (by rw [h7,h])
 obtain ⟨HS,HI,HE,HB⟩:=h4_ hs h7 h5 h1;have x0:Ext w (w.alloc (.cells #[op,.string s,n,.slice a r.length cap] 197)):=X_;have h9:=hid h3;clear hs h7 h5 h1 h3 hu;go_enter func186,ntmps186;go_wp2
 go_loopw [11] (fun q wr=>∃k:Nat,k<=r.length/\q = .int .i64 k/\wr=(w.alloc (.cells #[op,.string s,n,.slice a r.length cap] 197))/\∀j x,j<k->r[j]?=some x->inB x 0 (i - 1)=true) (fun q _=>r.length - (intOf q).toNat)
 case atStart=>exact ⟨0,by omega,rfl,rfl,fun j x h=>by omega⟩
 case round=>
  obtain ⟨k,hk,rfl,rfl,h4⟩:=hrel
  by_cases h8:k<r.length
  ·obtain ⟨b,q0,rfl,q5,q6,hc⟩:=HU.at h8
   have h0:r[k]?=some r[k]:=by simp [h8]
   obtain ⟨y,hy⟩:=e_ (r[k])
   rw [hy] at hc h0;clear hy;rw [<-x0.cells.1 b _ (by omega)] at hc
   obtain ⟨bb,h2⟩:=e_ (inB y 0 (i - 1))
   have q7:b<(w.alloc (.cells #[op,.string s,n,.slice (some ⟨b,q0,none⟩) r.length cap] 197)).heap.size:=by simp;omega
   cases bb
   ·have HN:Hid (mU r i=false):=hid (by
     unfold mU;rw [aWk]
     exact ⟨y,aTq h0,by rw [h2];simp⟩)
    have h6:=hid h2;clear h4 h0 h2;go_wp2_with (go_at_call 46;refine z_ (aE h6.out _) ?_);go_ret;exact ⟨by rw [HN.out];rfl,x0⟩
   ·have HN:Hid (∀j x,j<k+1->r[j]?=some x->inB x 0 (i - 1)=true):=hid (fun j z hj hz=>by
     by_cases e:j=k
     ·subst e
      rw [h0] at hz;injection hz with hz;subst hz;exact h2
     ·exact h4 j z (by omega) hz)
    have h6:=hid h2;clear h4 h0 h2;go_wp2_with (go_at_call 46;refine z_ (aE h6.out _) ?_);go_roundw
    case rel=>exact ⟨k+1,by omega,by go_num,by trivial,HN.out⟩
    case measure=>simp [intOf];omega
  ·obtain rfl:k=r.length:=by omega
   have HN:Hid (mU r i=true):=hid (by
    unfold mU;rw [aUh];intro x hx;obtain ⟨j,hj,rfl⟩:=aT6 hx
    exact h4 j _ hj (by simp [hj]))
   clear h4;have h3:=h9.out;have h5:=HE.out;have h1:=HB.out
   rcases aFb op bn with ⟨rfl,rfl⟩|⟨rfl,rfl⟩|rfl|rfl|rfl|rfl|rfl|rfl|rfl|⟨o1,o2,o3,o4,o5,o6,o7,o8⟩
   all_goals cases bi <;> cases be
   all_goals first|(exfalso;simp at h3;done)|skip
   all_goals
    try have q1:(op==1)=false:=beq_eq_false_iff_ne.2 o1
    try have q2:(op==2)=false:=beq_eq_false_iff_ne.2 o2
    try have q3:(op==3)=false:=beq_eq_false_iff_ne.2 o3
    try have q8:(op==8)=false:=beq_eq_false_iff_ne.2 o8
    try have q4:inB op 4 7=false:=by unfold inB;simp;omega
    clear h3;go_wp2_with (first|(go_at_call 187;refine z_ (lL HI.out _ HS.out) ?_)|(go_at_call 46;(first|with_reducible refine (aE h1 _).mono ?_|with_reducible refine (aE q4 _).mono ?_|with_reducible refine (aE aOl.1 _).mono ?_|with_reducible refine (aE aOl.2.1 _).mono ?_|with_reducible refine (aE aOl.2.2.1 _).mono ?_|with_reducible refine (aE aOl.2.2.2 _).mono ?_);rintro e w1 ⟨rfl,rfl⟩))
    all_goals (go_ret;exact ⟨by rw [HN.out,aX5];first|(simp [hZ,rS,aDl,HI.out,h1, *];done)|(simp [hZ,rS,aDl,HI.out,h1, *] <;> simp_all;done)|(simp [hZ,rS,aDl,HI.out,h1, *] <;> omega),x0⟩)
def mV (u:List Int) (i:Nat):List Int:=u.set i (u.getD i 0+1)
def jP (u:List Int) (es:List Int):List Int:=es.foldl (fun u a=>mV u a.toNat) u
def iQ (u:List Int) (xs:List Nd):List Int:=xs.foldl (fun u x=>jP u x.args) u
def lM (u:List Int) (gs:List Asg):List Int:=gs.foldl (fun u a=>mV u a.root.toNat) u
def Prg.usesA (p:Prg):List Int:=iQ (aTs p.ns.length 0) p.ns
def Prg.uses (p:Prg):List Int:=lM p.usesA p.gs
def Prg.ndB (p:Prg) (k:Nat):Bool:=match p.ns[k]? with|some x=>mU x.args k&&hZ x|none=>true
def Prg.agB (p:Prg) (k:Nat):Bool:=match p.gs[k]? with|some x=>dV x.name&&inB x.root 0 ((p.ns.length:Int) - 1)|none=>true
def Prg.okB (p:Prg):Bool:=decide (p.ns.length<=60)&&(aTt p.ns.length).all p.ndB&&(aTt p.gs.length).all p.agB&&p.uses.all (· == 1)
theorem Prg.ndB_at {p:Prg} {x:Nd} (h:p.ns[k]?=some x):p.ndB k=(mU x.args k&&hZ x):=by unfold Prg.ndB;rw [h]
theorem Prg.agB_at {p:Prg} {x:Asg} (h:p.gs[k]?=some x):p.agB k=(dV x.name&&inB x.root 0 ((p.ns.length:Int) - 1)):=by unfold Prg.agB;rw [h]
def nQ (u:List Int) (t:Nat):Prop:=∀i,0<=u.getD i 0/\u.getD i 0<=t
theorem nQ.zero (n:Nat):nQ (aTs n 0) 0:=fun i=>by
 rw [aTy,List.getElem?_replicate]
 split <;> simp
theorem nQ.bump {t:Nat} (h:nQ u t) (i:Nat):nQ (mV u i) (t+1):=fun j=>by
 have h1:=h i;have h2:=h j;unfold mV;rw [aTy,List.getElem?_set]
 split
 ·split
  ·simp only [Option.getD_some];omega
  ·simp;omega
 ·rw [<-aTy];omega
theorem nQ.mono {t t':Nat} (h:nQ u t) (ht:t<=t'):nQ u t':=fun i=>⟨(h i).1,by have:=(h i).2;omega⟩
theorem pT (u:List Int) (i:Nat):(mV u i).length=u.length:=by simp [mV]
theorem pU (es:List Int):∀u:List Int,(jP u es).length=u.length:=by
 unfold jP
 induction es with
 | nil=>intro u;rfl
 | cons a r ih=>intro u;rw [aY1,ih,pT]
theorem uM (xs:List Nd):∀u:List Int,(iQ u xs).length=u.length:=by
 unfold iQ
 induction xs with
 | nil=>intro u;rfl
 | cons a r ih=>intro u;rw [aY1,ih,pU]
theorem mW (xs:List Asg):∀u:List Int,(lM u xs).length=u.length:=by
 unfold lM
 induction xs with
 | nil=>intro u;rfl
 | cons a r ih=>intro u;rw [aY1,ih,pT]
theorem Prg.usesA_len (p:Prg):p.usesA.length=p.ns.length:=by unfold Prg.usesA;rw [uM,aXc]
theorem pV {α : Type} {xs:List α} {x : α} (h:xs[k]?=some x):xs.take (k+1)=xs.take k++[x]:=by
 obtain ⟨hk,rfl⟩:=aS2.1 h;exact List.take_succ_eq_append_getElem hk
theorem nR {es:List Int} (h:es[k]?=some y):mV (jP u (es.take k)) y.toNat=jP u (es.take (k+1)):=by
 rw [pV h];simp [jP]
theorem yB {xs:List Nd} {x:Nd} (h:xs[k]?=some x):jP (iQ u (xs.take k)) x.args=iQ u (xs.take (k+1)):=by
 rw [pV h];simp [iQ]
theorem nS {xs:List Asg} {x:Asg} (h:xs[k]?=some x):mV (lM u (xs.take k)) x.root.toNat=lM u (xs.take (k+1)):=by
 rw [pV h];simp [lM]
theorem aB1 {x:Nd} (h:hZ x=true):x.args.length<=3:=by
 unfold hZ at h;simp only [aTi] at h;have:=h.2;unfold aDl at this
 split at this
 ·simp at this;simp [this]
 split at this
 ·simp at this;omega
 split at this
 ·simp at this;omega
 split at this
 ·simp at this;omega
 ·cases this
theorem aB.upd {b:Nat} (h:aB lo w (.slice (some ⟨b,0,none⟩) n cap) u) (hl:n=u.length) {q:Nat} (hq:q<n) :
  lo<=b/\b<w.heap.size/\w.cell? ⟨b,q,none⟩=some (.int .i64 (u.getD q 0))/\w.frozen? ⟨b,q,none⟩=false/\∀x,I64 x->aB lo (w.setCell ⟨b,q,none⟩ x) (.slice (some ⟨b,0,none⟩) n cap) (u.set q x):=by
 obtain ⟨g,y,e,h1,h2,h3,h4,h5,h6⟩:=h.at hl (k:=q) (by omega);simp only [aS5,aUb,and_true] at e;subst e;refine ⟨h1,h2,?_,h5,fun x hx=>(h6 x hx).1⟩;rw [h4,aTy,h3]
 rfl
theorem yC (h:k<xs.length) (hp:xs[k]≠1):xs.all (· == 1)=false:=wQ h (by simpa using hp)
theorem aA9 (lo hi:Nat) (u:Value) (xs:List Int) (w:World) (hu:aS lo hi w u xs) :
  Calls aS7 267 #[u,.func (.func 240) #[] #[]] w fun e w'=>(∃i:Int,e = .returned (.int .i64 i)/\decide (i≥0) = !(xs.all (· == 1)))/\w=w':=by
 obtain ⟨a,cap,rfl,HU⟩:=hu.open;have l1:=HU.le;have l2:=HU.cap;clear hu;go_enter func267,ntmps267;go_wp2
 go_loopw [8] (fun i wr=>∃k:Nat,k<=xs.length/\i = .int .i64 k/\wr=w/\(xs.take k).all (· == 1)=true) (fun i _=>xs.length - (intOf i).toNat)
 case atStart=>exact ⟨0,by omega,rfl,rfl,rfl⟩
 case round=>
  obtain ⟨k,hk,rfl,rfl,h0⟩:=hrel;have HA:=hid h0;clear h0
  by_cases h3:k<xs.length
  ·obtain ⟨b,h6,rfl,h4,h5,hc⟩:=HU.at h3
   by_cases h1:xs[k]=1
   ·rw [h1] at hc
    have H1:=hid h1;clear h1;go_wp2;go_roundw
    case rel=>exact ⟨k+1,by omega,by go_num,by trivial,jX h3 HA.out (by simp [H1.out])⟩
    case measure=>simp [intOf];omega
   ·obtain ⟨y,hy⟩:=e_ (xs[k])
    have H1:=hid (yC h3 h1);rw [hy] at hc h1;have h2:(y==1)=false:=beq_eq_false_iff_ne.2 h1;clear hy;go_wp2;go_ret;exact ⟨⟨_,rfl,by rw [H1];simp⟩,rfl⟩
  ·obtain rfl:k=xs.length:=by omega
   go_wp2;go_ret;have hA:=HA.out;rw [aT0] at hA;exact ⟨⟨_,rfl,by rw [hA];rfl⟩,rfl⟩
theorem uN (lo hi:Nat) (u:Value) (xs:List Int) (w:World) (hb:xs.all (· == 1)=b) (hu:aS lo hi w u xs) :
  Z_ 239 #[u,.func (.func 240) #[] #[]] w (.bool (!b)):=by
 obtain ⟨a,cap,rfl,HU⟩:=hu.open;have HI:=hid hu;clear hu;go_enter func239,ntmps239;go_wp2_with fail;refine (aA9 lo hi _ xs _ HI).mono ?_;rintro e w1 ⟨⟨i,rfl,hi2⟩,rfl⟩;go_wp2;go_ret;exact ⟨aM (by first|rfl|(rw [<-hb];exact hi2)),rfl⟩
theorem yD {x:Nd} (h:hZ x=b) (a:Option Addr) (cap:Nat) (w:World) (hs:x.name.size<=maxLen) :
  R_ 237 #[.agg #[x.op,.string x.name,x.num,.slice a x.args.length cap]] w (.bool b):=h▸xZ x.op x.name x.num a x.args cap w hs
theorem aJf {r:List Int} {i:Int} {j:Nat} (h:mU r i=true) (hj:r[j]?=some y):0<=y/\y<=i - 1:=by
 unfold mU at h;rw [aUh] at h;exact aG.1 (h y (aTq hj))
theorem aS.openS {u:Value} (h:aS lo hi w u xs):∃a c,u = .slice a xs.length c/\aS lo hi w (.slice a xs.length c) xs/\gQ lo hi w a c xs:=by
 obtain ⟨a,c,rfl,H⟩:=h.open;exact ⟨a,c,rfl,h,H⟩
theorem sK.atW {a:Option Addr} {xs:List Nd} (h:sK lo hi w a cap xs) (hk:k<xs.length) (hx:Ext w wr) (hh:hi<=w.heap.size) :
  ∃b off op s n sa sc r,a=some ⟨b,off,none⟩/\b<w.heap.size/\b<wr.heap.size/\xs[k]?=some ⟨op,s,n,r⟩/\I64 op/\I64 n/\aS lo hi w (.slice sa r.length sc) r/\gQ lo hi w sa sc r/\wr.cell? ⟨b,off+k*4,none⟩=some (.int .i64 op)/\wr.cell? ⟨b,off+k*4+1,none⟩=some (.string s)/\wr.cell? ⟨b,off+k*4+2,none⟩=some (.int .i64 n)/\wr.cell? ⟨b,off+k*4+3,none⟩=some (.slice sa r.length sc):=by
 obtain ⟨⟨i1,i2⟩,b,off,u,e,h1,h2,c0,c1,c2,c3,hu⟩:=h.cell k xs[k] (by simp [hk]);have hz:=hx.size;obtain ⟨sa,sc,rfl,hI,HI⟩:=hu.openS;refine ⟨b,off,xs[k].op,xs[k].name,xs[k].num,sa,sc,xs[k].args,e,by omega,by omega,by simp [hk],i1,i2,hI,HI,?_,?_,?_,?_⟩
 ·exact (hx.cells.1 b _ (by omega)).trans c0
 ·exact (hx.cells.1 b _ (by omega)).trans c1
 ·exact (hx.cells.1 b _ (by omega)).trans c2
 ·exact (hx.cells.1 b _ (by omega)).trans c3
theorem gQ.atE {a:Option Addr} (h:gQ lo hi w a cap xs) (hk:k<xs.length) (hx:Ext w wr) (hh:hi<=w.heap.size) :
  ∃b off y,a=some ⟨b,off,none⟩/\b<wr.heap.size/\xs[k]?=some y/\I64 y/\wr.cell? ⟨b,off+k,none⟩=some (.int .i64 y):=by
 obtain ⟨b,off,e,h1,h2,c0⟩:=h.at hk;have hz:=hx.size;exact ⟨b,off,xs[k],e,by omega,by simp [hk],h.i64 hk,(hx.cells.1 b _ (by omega)).trans c0⟩
theorem aB.bump {b t:Nat} (h:aB lo w (.slice (some ⟨b,0,none⟩) n cap) u) (hl:n=u.length) {q:Nat} (hq:q<n) (hu:nQ u t) (ht:t<=1000000000) :
  ∃x:Int,0<=x/\x<=1000000000/\b<w.heap.size/\lo<=b/\w.cell? ⟨b,q,none⟩=some (.int .i64 x)/\w.frozen? ⟨b,q,none⟩=false/\aB lo (w.setCell ⟨b,q,none⟩ (.int .i64 (x+1))) (.slice (some ⟨b,0,none⟩) n cap) (mV u q):=by
 obtain ⟨h1,h2,h3,h4,h5⟩:=h.upd hl hq;have:=hu q;exact ⟨_,this.1,by omega,h2,h1,h3,h4,h5 _ ⟨by omega,by omega⟩⟩
theorem qJ (lo hi:Nat) (v:Value) (p:Prg) (w:World) (hv:p.R lo hi w v) (hh:hi<=w.heap.size) (hb:p.bd) (hgl:p.gs.length<=1048576) :
  R_ 196 #[v] w (.bool p.okB):=by
 obtain ⟨i0,z4,z7,z8,z9⟩:=info_parts fA;obtain ⟨a1,c1,a2,c2,rfl,HN,HG⟩:=hv.form;obtain ⟨l1,l2,l3,l4,z0⟩:=m5_ HN.le HN.cap HG.le HG.cap (hid hb);clear hv hb
 by_cases q9:p.ns.length<=60
 case neg=>
  have e:p.okB=false:=by unfold Prg.okB;rw [decide_eq_false q9];simp
  rw [e];clear e;go_enter func196,ntmps196;go_wp2;go_ret;exact ⟨rfl,X_⟩
 have bB:=Bx.made w #[.slice a1 p.ns.length c1,.slice a2 p.gs.length c2] 119;have x0:Ext w (w.alloc (.cells #[.slice a1 p.ns.length c1,.slice a2 p.gs.length c2] 119)):=X_;go_enter func196,ntmps196;go_wp2_with (at_make;refine wpList_make_full _ rfl _ _ 24 rfl (w.heap.size+1) 3 i0 (.int .i64 0) 1 underlying24 z4 z7 z8 _ _ _ _ p.ns.length rfl rfl rfl rfl (by rw [z9];omega) (by unfold maxLen;omega) (by simp) ?_);intro w1 q5 h6;rw [gJ] at q5;have a4:=aS4 w (.cells #[.slice a1 p.ns.length c1,.slice a2 p.gs.length c2] 119);have x1:Ext (w.alloc (.cells #[.slice a1 p.ns.length c1,.slice a2 p.gs.length c2] 119)) w1:=(aTd _).grown h6 (fun k h=>by cases h);obtain ⟨HO,X1⟩:=h2_ (show aB (w.heap.size+1) w1 (.slice (some ⟨w.heap.size+1,0,none⟩) p.ns.length p.ns.length) (aTs p.ns.length 0) from ⟨by simpa using q5,fun x hx=>by rw [(List.mem_replicate.1 hx).2];exact ⟨by decide,by decide⟩⟩) (x0.trans x1);have h2:=bB.ext x1;have z3:=hid h2;have q:=h2.lt;have q0:=h2.cell 0;simp only [aS6,aS0,aS1] at q0;have q1:=h2.cell 1;simp only [aS6,aS0,aS1] at q1;clear h2;clear q5 h6 z4 z7 z8 z9 x1 x0 bB a4;go_wp2
 go_loopw [21] (fun i wr=>∃k:Nat,k<=p.ns.length/\i = .int .i64 k/\(∀j,j<k->p.ndB j=true)/\Ext w wr/\Bx wr w.heap.size #[.slice a1 p.ns.length c1,.slice a2 p.gs.length c2] 119/\aB (w.heap.size+1) wr (.slice (some ⟨w.heap.size+1,0,none⟩) p.ns.length p.ns.length) (iQ (aTs p.ns.length 0) (p.ns.take k))/\nQ (iQ (aTs p.ns.length 0) (p.ns.take k)) (3*k)) (fun i _=>p.ns.length - (intOf i).toNat)
 case atStart=>exact ⟨0,by omega,rfl,fun j h=>by omega,X1,z3.out,HO,nQ.zero _⟩
 case round=>
  clear HO X1 z3 q q0 q1;obtain ⟨k,hk,rfl,h0,hx,hB,hO,hU⟩:=hrel;obtain ⟨HA,HX,HB,HO,HU⟩:=h5_ h0 hx hB hO hU
  by_cases h9:k<p.ns.length
  ·obtain ⟨b,y5,op,s,num,sa,sc,ra,rfl,y9,a0,h1,io,b9,hI,HI,y0,y1,y2,y3⟩:=HN.atW h9 hx hh
   have y7:=hid (hI.ext hh hx);have c0:=HI.le;have c3:=HI.cap;obtain ⟨q6,x7⟩:=h2_ h1 (z0.1 _ (aTq h1));have zx:=hx.size;have bQ:=Bx.made wr #[op,.string s,num,.slice sa ra.length sc] 197;have q0:Ext wr (wr.alloc (.cells #[op,.string s,num,.slice sa ra.length sc] 197)):=X_;clear h1 h0 hx hB hO hU hI
   obtain ⟨bn,h8⟩:=e_ (hZ ⟨op,s,num,ra⟩)
   obtain ⟨ba,h5⟩:=e_ (mU ra k)
   obtain ⟨x4,q7⟩:=h2_ h8 h5;have h7:Hid (p.ndB k=(ba&&bn)):=hid (by rw [Prg.ndB_at q6,h5,h8]);clear h8 h5;go_wp2_with fail;refine r_ (yD x4 sa sc _ x7.out) fun w2 x2=>?_;have X2:=q0.trans x2;have b2:=X2.size;have h4:=bQ.ext x2;have x6:=hid (y7.ext (by omega) X2);have q:=h4.lt;obtain ⟨q0,q1,q2,q3⟩:=h4.q4;clear x2 q0 bQ;have y6:=hid h4;clear h4
   cases bn
   ·go_wp2
    go_ret;refine ⟨aM ?_,HX.trans X2⟩;unfold Prg.okB;rw [fY h9 (by rw [h7];simp)];simp
   go_wp2_with fail;refine z_ (qX q7 _ _ _ _ x6) ?_
   cases ba
   ·go_wp2
    go_ret;refine ⟨aM ?_,HX.trans X2⟩;unfold Prg.okB;rw [fY h9 (by rw [h7];simp)];simp
   obtain ⟨x5,x9,z2⟩:=h3_ (HX.trans X2) (HB.ext X2) (HO.ext X2);have y4:Hid (ra.length<=3):=hid (aB1 x4);clear HB HO X2;go_wp2
   go_loopw [40] (fun i wq=>∃j:Nat,j<=ra.length/\i = .int .i64 j/\Ext w wq/\Bx wq w.heap.size #[.slice (some ⟨b,y5,none⟩) p.ns.length c1,.slice a2 p.gs.length c2] 119/\aB (w.heap.size+1) wq (.slice (some ⟨w.heap.size+1,0,none⟩) p.ns.length p.ns.length) (jP (iQ (aTs p.ns.length 0) (p.ns.take k)) (ra.take j))/\nQ (jP (iQ (aTs p.ns.length 0) (p.ns.take k)) (ra.take j)) (3*k+j)) (fun i _=>ra.length - (intOf i).toNat)
   case atStart=>exact ⟨0,by omega,rfl,x5,x9,z2,HU⟩
   case round=>
    clear x9 z2 x5;obtain ⟨j,hj,rfl,hx,hB,hO,hU⟩:=hrel;obtain ⟨HX,HB,HO,HU⟩:=h4_ hx hB hO hU
    by_cases a3:j<ra.length
    ·obtain ⟨b3,b1,y,rfl,b4,hy,_,b5⟩:=HI.atE a3 hx hh
     obtain ⟨b7,b8⟩:=aJf q7 hy
     obtain ⟨q,rfl⟩:∃q:Nat,y=q:=⟨y.toNat,by omega⟩
     have hq:q<p.ns.length:=by omega
     have z5:=y4.out;obtain ⟨x,a5,a6,a7,a8,a9,b0,x3⟩:=hO.bump (by rw [pU,uM,aXc]) hq hU (by omega);obtain ⟨HY,HS⟩:=h2_ hy x3;clear hx hB hO hU hy x3 z5;go_wp2;go_roundw
     case rel=>
      refine ⟨j+1,by omega,by go_num,?_,?_,?_,?_⟩
      ·have hx:=HX.out
       exact S_
      ·exact HB.other (by simp) _
      ·rw [<-nR HY,aTx]
       exact HS
      ·rw [<-nR HY]
       exact (HU.bump _).mono (by omega)
     case measure=>simp [intOf];omega
    ·obtain rfl:j=ra.length:=by omega
     rw [aT0] at hO hU;rw [yB q6] at hO hU;obtain ⟨HO,HU⟩:=h2_ hO hU;have z5:=y4.out;clear hB hO hU hx;go_wp2;go_roundw
     case rel=>
      refine ⟨k+1,by omega,by go_num,fun i hi=>?_,HX,HB,HO,HU.mono (by omega)⟩
      by_cases e:i=k
      ·subst e;exact h7
      ·exact HA i (by omega)
     case measure=>simp [intOf];omega
  ·obtain rfl:k=p.ns.length:=by omega
   rw [aT0] at hO hU;obtain ⟨HO,HU⟩:=h2_ (show aB (w.heap.size+1) wr (.slice (some ⟨w.heap.size+1,0,none⟩) p.ns.length p.ns.length) p.usesA from hO) (show nQ p.usesA (3*p.ns.length) from hU);have q:=hB.lt;obtain ⟨q0,q1⟩:=hB.q2;clear hO hU h0 hx hB;go_wp2
   go_loopw [55] (fun i wr=>∃k:Nat,k<=p.gs.length/\i = .int .i64 k/\(∀j,j<k->p.agB j=true)/\Ext w wr/\Bx wr w.heap.size #[.slice a1 p.ns.length c1,.slice a2 p.gs.length c2] 119/\aB (w.heap.size+1) wr (.slice (some ⟨w.heap.size+1,0,none⟩) p.ns.length p.ns.length) (lM p.usesA (p.gs.take k))/\nQ (lM p.usesA (p.gs.take k)) (3*p.ns.length+k)) (fun i _=>p.gs.length - (intOf i).toNat)
   case atStart=>exact ⟨0,by omega,rfl,fun j h=>by omega,HX,HB,HO,HU⟩
   case round=>
    clear HO HX HB HU q q0 q1;obtain ⟨k,hk,rfl,h0,hx,hB,hO,hU⟩:=hrel;obtain ⟨x8,HX,HB,HO,HU⟩:=h5_ h0 hx hB hO hU
    by_cases h9:k<p.gs.length
    ·obtain ⟨b,y5,s,rt,rfl,y9,a0,q8,h1,ir,y0,y1⟩:=HG.at h9 hx hh
     obtain ⟨q6,x7⟩:=h2_ h1 (z0.2 _ (aTq h1));have zx:=hx.size;have bQ:=Bx.made wr #[.string s,rt] 200;have q0:Ext wr (wr.alloc (.cells #[.string s,rt] 200)):=X_;clear q8 h1 h0 hx hB hO hU
     obtain ⟨bn,h8⟩:=e_ (dV s)
     obtain ⟨ba,h5⟩:=e_ (inB rt 0 ((p.ns.length:Int) - 1))
     obtain ⟨x4,q7⟩:=h2_ h8 h5;have h7:Hid (p.agB k=(bn&&ba)):=hid (by rw [Prg.agB_at q6,h5,h8]);clear h8 h5;go_wp2_with fail;refine r_ (lK x4 _ x7.out) fun w2 x2=>?_;have X2:=q0.trans x2;have b2:=X2.size;have h4:=bQ.ext x2;have z1:=hid (HB.ext X2);have h3:=z1;have q:=h4.lt;obtain ⟨q0,q1⟩:=h4.q2;have d:=h3.lt;have d0:=h3.cell 0;simp only [aS6,aS0,aS1] at d0;have d1:=h3.cell 1;simp only [aS6,aS0,aS1] at d1;have y6:=hid h4;clear x2 q0 bQ h4 h3
     cases bn
     ·go_wp2
      go_ret;refine ⟨aM ?_,HX.trans X2⟩;unfold Prg.okB;rw [fY (p:=p.agB) h9 (by rw [h7];simp)];simp
     go_wp2_with fail;refine z_ (aH q7 _) ?_
     cases ba
     ·go_wp2
      go_ret;refine ⟨aM ?_,HX.trans X2⟩;unfold Prg.okB;rw [fY (p:=p.agB) h9 (by rw [h7];simp)];simp
     have hO:=HO.ext X2;have h5:=aG.1 q7
     obtain ⟨r,rfl⟩:∃r:Nat,rt=r:=⟨rt.toNat,by omega⟩
     have hr:r<p.ns.length:=by omega
     obtain ⟨x,a5,a6,a7,a8,a9,b0,x3⟩:=hO.bump (by rw [mW,Prg.usesA_len]) hr HU (by omega);obtain ⟨HS,x5⟩:=h2_ x3 (HX.trans X2);clear hO HO HX x3 h5;go_wp2;go_roundw
     case rel=>
      refine ⟨k+1,by omega,by go_num,fun i hi=>?_,?_,?_,?_,?_⟩
      ·by_cases e:i=k
       ·subst e;exact h7
       ·exact x8 i (by omega)
      ·have hx:=x5.out
       exact S_
      ·exact z1.other (by simp) _
      ·rw [<-nS q6,aTx]
       exact HS
      ·rw [<-nS q6]
       exact (HU.bump _).mono (by omega)
     case measure=>simp [intOf];omega
    ·obtain rfl:k=p.gs.length:=by omega
     rw [aT0] at hO;have HO:=hid (show aB (w.heap.size+1) wr (.slice (some ⟨w.heap.size+1,0,none⟩) p.ns.length p.ns.length) p.uses from hO)
     have b6:p.uses.length=p.ns.length:=by unfold Prg.uses;rw [mW,Prg.usesA_len]
     have z6:p.okB=p.uses.all (· == 1):=by
      unfold Prg.okB;rw [gW HA,gW x8,decide_eq_true q9];simp
     have hI:=HO.ints;have y8:=hid z6;clear hO hU h0 hx hB HO z6;have HI:=hid hI;clear hI;go_wp2_with fail;refine z_ (uN _ _ _ p.uses _ rfl HI) ?_;go_wp2;go_ret;exact ⟨aM (by rw [y8]),HX⟩
end Go.Proofs.YthgpegkmjeigmaaGreat
