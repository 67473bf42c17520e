/- Texts of this claim, packed: what its theorem does not use is left out. -/
import Derived.Test.YthgpegkmjeigmaaGreatP34W5
import Derived.Test.YthgpegkmjeigmaaGreatP34W4
import Derived.Deep.CutBlock
import Derived.Test.YthgpegkmjeigmaaGreatP34W1
import Derived.Test.YthgpegkmjeigmaaGreatP34W2
import Derived.OpenShut
import Derived.ShutString
import Derived.ChangeOld
import Derived.Below
import Derived.Carry
import Derived.Lib.SmallJoins
import Derived.Deep.Slices
import Derived.Test.YthgpegkmjeigmaaGreatP34W3
import Derived.Deep.Strs
import Derived.Test.YthgpegkmjeigmaaGreatRows
import Derived.ProofKit
set_option linter.unusedSimpArgs false
set_option linter.unusedVariables false
set_option maxRecDepth 100000
set_option maxHeartbeats 12800000
namespace Go.Proofs.YthgpegkmjeigmaaGreat
open Go.RowKit
open Go.Proofs.Tryz
open _root_.Go.Act renaming put→aUo
variable {b i j:Int} {h hi k lo n sd u:Nat} {f:Nat→Int} {av cv r v:Value} {w w':World}
open _root_.Array renaming getElem?_eq_some_iff→aTn
open _root_.Bool renaming and_eq_true→aTi
open _root_.Classical renaming axiomOfChoice→aXs
open _root_.Go.Addr renaming add→aW9
open _root_.Go.Addr.mk renaming injEq→aUb
open _root_.Go.DataW renaming trod→aW5
open _root_.Go.Deep renaming open_slice→aY6,add_add→aWn
open _root_.Go.Proofs.Tryz renaming prog→aS7
open _root_.Go.Proofs.YthgpegkmjeigmaaGreat.Blk renaming new→aTc
open _root_.Go.Proofs.YthgpegkmjeigmaaGreat.Ext renaming trans→aS8,block→aTf,setCell→aTk,drew→aUa,refl→aTd,grown→aUd
open _root_.Go.Proofs.YthgpegkmjeigmaaGreat.Stp renaming cs→aVw
open _root_.Go.Value.slice renaming injEq→aTp
open _root_.Go.World renaming size_alloc→aS4,cell?→aU6,cells?_some→aZt
open _root_.Int renaming tmod_eq_emod_of_nonneg→aVj,tdiv→aZf,tdiv_eq_ediv_of_nonneg→aUp,natCast_add→aVa,natCast_mul→aWp,toNat_natCast→aTx,mul_nonneg→aUm,emod_nonneg→aXg,emod_lt_of_pos→aWs,mul_le_mul_of_nonneg_left→aWx,le_refl→bAb
open _root_.List renaming range→aTt,range_succ→aVo,map_append→aU0,map_singleton→aWb,flatMap_append→aUk,flatMap_singleton→aW6,length_append→aTw,getElem?_eq_some_iff→aS2,getElem?_eq_getElem→aS9,length_map→aT9,length_range→aV6,getElem_map→aWt,getElem_range→aV0,getElem?_cons_zero→aS0,getElem?_cons_succ→aS1,mem_of_getElem?→aTq,getD_eq_getElem?_getD→aTy,append_nil→aVv,mem_cons→aTo,not_mem_nil→aTj,length_take→aTr,take_append_drop→aXe,getElem?_append_left→aUf,length_drop→aV3,getElem?_append_right→aT4,length_nil→aVc,append_assoc→aT8,singleton_append→aZy,take_length→aT0,mem_of_mem_take→bAf,take_succ_eq_append_getElem→aTv,eq_nil_of_length_eq_zero→aV5,getElem?_eq_none→aV8,pairwise_iff_getElem→aYt,filter_append→bCl,mem_map→aU2,mem_singleton→aU3,take_of_length_le→aT3,getElem?_take→aVb,mem_range→aUe,getElem?_toArray→aS6,setIfInBounds_toArray→aTa,set_cons_zero→aTg,set_cons_succ→aTh,filterMap_nil→aTl,filterMap_cons→aTu
open _root_.Nat renaming le_refl→aS3,zero_add→aT1,lt_or_ge→aTz,add_assoc→aUv,add_comm→aZo,zero_mul→aXz,add_zero→aT7,mul_le_mul→aT5,le_trans→aTb,zero_le→aUl,mul_one→aWz,lt_of_lt_of_le→aUq,min_eq_left→aVh,le_of_lt→aVy,mod_lt→aVp,eq_zero_or_pos→aY8,mul_comm→aXk
open _root_.Option.some renaming injEq→aS5,inj→aUy
theorem nY {c:Cam} {x y z lx ly a d:Int} (h:c.prB ⟨x,y,z⟩ lx ly=true) (hp:c.pr ⟨x,y,z⟩ lx ly=⟨a,b,d⟩) (w:World) :
  R_ 203 #[.agg c,.agg #[x,y,z],lx,ly] w (.tuple #[.agg #[a,b,d],.bool true]):=by
 have:=aEc c x y z lx ly h w;rw [hp] at this;exact this
theorem nZ {c:Cam} {x y z lx ly:Int} (h:c.prB ⟨x,y,z⟩ lx ly=false) (w:World) :
  R_ 203 #[.agg c,.agg #[x,y,z],lx,ly] w (.tuple #[.agg #[(),(),()],.bool false]):=aGg c x y z lx ly h w
theorem qD {i' j' n X Y Z:Int} (e1:i'=i) (e2:j'=j) (h:evP f i j n=⟨X,Y,Z⟩) (hn:1<=n/\n<=64) (hi:0<=i/\i<=n) (hj:0<=j/\j<=n) (w:World) :
  R_ 192 #[.agg f,i',j',n] w (.agg #[X,Y,Z]):=by
 subst e1 e2;exact zK h hn hi hj w
def crn (c:Cam) (f:Nat->Int) (n:Nat) (s:Smp) (u v q:Nat):V3:=dK c f n s (u+q % 2) (v+q / 2)
def aIq (c:Cam) (f:Nat->Int) (n:Nat) (s:Smp) (u v q:Nat):Bool:=mK c f n s (u+q % 2) (v+q / 2)
theorem aPl {c:Cam} {s:Smp} {v:Nat} (h:∀q,q<4->aIq c f n s u v q=true):mL c f n s u v=true:=by
 have h0:=h 0 (by decide);have h1:=h 1 (by decide);have h2:=h 2 (by decide);have h3:=h 3 (by decide);unfold mL;simp only [aTi];exact ⟨⟨⟨h0,h1⟩,h2⟩,h3⟩
theorem aNp {c:Cam} {s:Smp} {v q:Nat} (hq:q<4) (h:aIq c f n s u v q=false):mL c f n s u v=false:=
 aJc (i:=q % 2) (j:=q / 2) (by omega) (by omega) h
theorem aJb.rd {c:Cam} {s:Smp} {v:Nat} (h:aJb c f n s u v lo w r):Rd Mc.cs lo w.heap.size w r (gO c f n s u v):=by
 rcases h with ⟨hd,rfl⟩|⟨hd,g,hl,rfl,hb⟩
 ·unfold gO
  rw [if_neg (by rw [hd];exact Bool.false_ne_true)];exact Rd.nil _ _ _ _
 ·unfold gO
  rw [if_pos hd];refine ⟨some ⟨g,0,none⟩,2,rfl,aS3 _,by omega,(fun e=>nomatch e),.inr ⟨g,0,rfl,hl,hb.lt,fun j u hj=>?_⟩⟩;rw [aT1];exact hb.cell j hj
theorem aBm (c:Cam) (f:Nat->Int) (n:Nat) (s:Smp) (u v:Nat) (hn:1<=n/\n<=64) (hu:u<n) (hv:v<n) (w:World) :
  Calls aS7 148 #[.agg c,.agg f,(u:Nat),(v:Nat),(n:Nat),s.lx,s.ly] w fun e w'=>∃r,e = .returned r/\aJb c f n s u v w.heap.size w' r/\Ext w w':=by
 obtain ⟨J1,J2,J3,N0,HN,HU,HV⟩:=h7_ (aG.2 (show (1:Int)<=(n:Int)/\(n:Int)<=64 by omega)) (aG.2 (show (0:Int)<=(u:Int)/\(u:Int)<=(n:Int) - 1 by omega)) (aG.2 (show (0:Int)<=(v:Int)/\(v:Int)<=(n:Int) - 1 by omega)) (show wrap64 ((n:Int) - 1)=(n:Int) - 1 from aF (by omega) (by omega)) hn hu hv;clear hn hu hv;obtain ⟨B0,B1,X0⟩:=h3_ ((aTc w 35 c).ext (show Ext (w.alloc (.cells c 35)) ((w.alloc (.cells c 35)).alloc (.cells f 125)) from X_)) (show Blk ((w.alloc (.cells c 35)).alloc (.cells f 125)) (w.heap.size+1) 125 f from by have q:=(aTc (w.alloc (.cells c 35)) 125 f).ext (show Ext ((w.alloc (.cells c 35)).alloc (.cells f 125)) ((w.alloc (.cells c 35)).alloc (.cells f 125)) from X_);simp only [aS4] at q;exact q) (show Ext w ((w.alloc (.cells c 35)).alloc (.cells f 125)) from X_);have n0:=N0.out;go_enter func148,ntmps148;go_wp2_with fail;refine z_ (aE J1 _) ?_;go_wp2_with fail;refine z_ (aE J2 _) ?_;go_wp2_with fail;refine z_ (aE J3 _) ?_;clear n0;go_upto_region 4 with fail
 obtain ⟨W,hW⟩:=e_ (((w.alloc (.cells c 35)).alloc (.cells f 125)).alloc (.cells #[] 122))
 have OW:aD wA (w.heap.size+2) 122 3 (((w.alloc (.cells c 35)).alloc (.cells f 125)).alloc (.cells #[] 122)) (.slice (some ⟨w.heap.size+2,0,none⟩) 0 0) []:=aD.fresh0 (aS3 _) (by have q:=aTc ((w.alloc (.cells c 35)).alloc (.cells f 125)) 122 [];simp only [aS4] at q;exact q);have YW:Ext ((w.alloc (.cells c 35)).alloc (.cells f 125)) (((w.alloc (.cells c 35)).alloc (.cells f 125)).alloc (.cells #[] 122)):=X_;replace B0:=hid (B0.ext YW);replace B1:=hid (B1.ext YW);replace X0:=hid (X0.trans YW);clear YW
 try simp only [aS4]
 rw [hW];rw [hW] at B0 B1 X0 OW;have OO:=hid OW;clear hW OW;go_wp2
 go_loopw [15,16] (fun l i wr=>∃j:Nat,j<=4/\i = .int .i64 (j:Nat)/\(∀q,q<j->aIq c f n s u v q=true)/\Ext w wr/\Blk wr w.heap.size 35 c/\Blk wr (w.heap.size+1) 125 f/\aD wA (w.heap.size+2) 122 3 wr l ((aTt j).map (crn c f n s u v))) (fun _ i _=>4 - (intOf i).toNat)
 case atStart=>exact ⟨0,by omega,rfl,(fun q h=>absurd h (by omega)),X0,B0,B1,OO⟩
 case round=>
  obtain ⟨j,hj,rfl,y8,hx,h0,h1,ho⟩:=hrel;clear B0 B1 X0 OO;obtain ⟨X0,B0,B1,OO,HA⟩:=h5_ hx h0 h1 ho y8;clear hx h0 h1 ho y8
  rcases aTz j 4 with hlt|hge
  ·obtain ⟨a,ha⟩:=e_ (j % 2:Nat)
   obtain ⟨b,hb⟩:=e_ (j / 2:Nat)
   have b8:a<2:=by omega
   have b9:b<2:=by omega
   have c6:=HU.out;have c7:=HV.out;have c5:=HN.out;obtain ⟨N2,N3,T1,T2,R1,R2,y5⟩:=h7_ (show (0:Int)<=(u:Int)+(a:Int)/\(u:Int)+(a:Int)<=(n:Int) by omega) (show (0:Int)<=(v:Int)+(b:Int)/\(v:Int)+(b:Int)<=(n:Int) by omega) (show Int.tmod (j:Int) 2=(a:Int) by rw [aVj (by omega)];omega) (show aZf (j:Int) 2=(b:Int) by rw [aUp (by omega)];omega) (show wrap64 ((u:Int)+(a:Int))=(u:Int)+(a:Int) from aF (by omega) (by omega)) (show wrap64 ((v:Int)+wrap64 (b:Int))=(v:Int)+(b:Int) by rw [aF (n:=(b:Int)) (by omega) (by omega)];exact aF (by omega) (by omega)) (And.intro ha hb);have a6:decide ((j:Int)<4)=true:=decide_eq_true (by omega);clear ha hb c6 c7 c5 b8 b9
   obtain ⟨X,Y,Z,hE⟩:∃X Y Z,evP f ((u:Int)+(a:Int)) ((v:Int)+(b:Int)) (n:Int)=⟨X,Y,Z⟩:=⟨_,_,_,rfl⟩
   obtain ⟨y4,N1⟩:=h2_ hE (aQk HN);have ZW:=X0.size;have a9:=hid hlt;clear hE;have t1:=T1.out;have t2:=T2.out;have p:=B0.lt;obtain ⟨p0,p1,p2,p3,p4,p5,p6⟩:=B0.q7;have q:=B1.lt;obtain ⟨q0,q1,q2,q3,q4,q5,q6,q7,q8,q9,e6,e7⟩:=B1.q12;go_upto_region 7 with fail;clear a6
   cases hb:c.prB ⟨X,Y,Z⟩ s.lx s.ly
   ·have HB:=hid hb
    clear hb;refine dP 20 wr.heap.size ?_;refine z2_ (fuel:=7) [0,1,2,3,4,5,6,7,8,9,10,12,13] 11 18 (fun b _ hb=>rfl) (fun K hK=>?n2) fun K hK=>?n3
    case' n2=>
     clear t1 t2;go_wp2_with fail;refine r_ (qD R1 R2 y4 N1 N2 N3 _) fun a0 y0=>?_;have u0:Ext wr a0:=aS8 X_ y0;go_wp2;refine k_ hK ?_;clear hK K;refine z2_ (fuel:=6) [] 14 18 (fun b _ hb=>aTf u0 (by omega)) (fun K hK=>?n4) fun K hK=>?n5
     case' n4=>
      go_wp2_with fail;refine r_ (nZ HB _) fun a01 y01=>?_;have a1:Ext wr a01:=aS8 X_ y01;go_wp2;refine k_ hK ?_;clear hK K;refine z1_ (fuel:=2) [15,16,17] 18 (fun b _ hb=>aTf a1 (by omega)) fun K hK=>?_;go_wp2;have h7:wr.heap.size<=a01.heap.size:=a1.size;refine k_ hK ?_;clear hK K
      obtain ⟨h4,h3⟩:=i_ (a01.alloc (.cells #[(),(),()] 122))
      rw [<-h3]
      have x8:Ext wr h4:=by rw [h3];exact X_
      have h9:Blk h4 a01.heap.size 122 [(),(),()]:=h3▸aTc _ _ _;clear h3;refine z1_ (fuel:=1) [] 19 (fun b _ hb=>aTf x8 (by omega)) fun K hK=>?_
     case' n5=>
      go_wp2;have x6:wr.heap.size<=a0.heap.size:=u0.size;refine k_ hK ?_;clear hK K
      obtain ⟨y6,h6⟩:=i_ (a0.alloc (.cells #[(),(),()] 122))
      rw [<-h6]
      have a7:Ext wr y6:=by rw [h6];exact X_
      have a3:Blk y6 a0.heap.size 122 [(),(),()]:=h6▸aTc _ _ _;clear h6;refine z1_ (fuel:=5) [] 14 (fun b _ hb=>aTf a7 (by omega)) fun K hK=>?_;go_wp2_with fail;refine r_ (nZ HB _) fun a0A1 y0A1=>?_;have x9:Ext wr a0A1:=aS8 X_ y0A1;have x4:=a3.ext y0A1;go_wp2;refine k_ hK ?_;clear hK K;refine z1_ (fuel:=1) [15,16,17] 19 (fun b _ hb=>aTf x9 (by omega)) fun K hK=>?_
    case' n3=>
     clear t1 t2;go_wp2;have y7:wr.heap.size<=wr.heap.size:=aS3 _;refine k_ hK ?_;clear hK K
     obtain ⟨dA,z8⟩:=i_ ((wr.alloc (.cells #[(),(),()] 122)).drew)
     rw [<-z8]
     have uA:Ext wr dA:=by rw [z8];exact X_
     have bA:Blk dA wr.heap.size 122 [(),(),()]:=z8▸(aTc _ _ _).ext (aUa (aTd _));clear z8;refine z1_ (fuel:=6) [] 11 (fun b _ hb=>aTf uA (by omega)) fun K hK=>?_;go_wp2_with fail;refine r_ (qD R1 R2 y4 N1 N2 N3 _) fun aA0 yA0=>?_;have a8:Ext wr aA0:=aS8 X_ yA0;have a4:=bA.ext yA0;go_wp2;refine k_ hK ?_;clear hK K;refine z1_ (fuel:=5) [] 14 (fun b _ hb=>aTf a8 (by omega)) fun K hK=>?_;go_wp2_with fail;refine r_ (nZ HB _) fun aA01 yA01=>?_;have z7:Ext wr aA01:=aS8 X_ yA01;have x5:=a4.ext yA01;go_wp2;refine k_ hK ?_;clear hK K;refine z1_ (fuel:=1) [15,16,17] 19 (fun b _ hb=>aTf z7 (by omega)) fun K hK=>?_
    all_goals
     rename World=>wq;rename Blk wq _ _ _=>hY;rename Ext wr wq=>hU;rename (wr.heap.size<=_)=>hL0;obtain ⟨A,hA⟩:=a_ hY
     have hL:wr.heap.size<=A:=by omega
     rw [hA] at hY ⊢;clear hA hL0
     obtain ⟨z0,z1,z2,z3,z4,z5,z6⟩:=oD hY;go_wp2;have x7:=hL;refine hK _ _ (.inr (fun b _ hb=>aTf (w:=wr) S_ (by omega))) ?_;clear hK K;refine z1_ (fuel:=0) [] 20 (fun b _ hb=>aTf (w:=wr) S_ (by omega)) fun K hK=>?_;go_wp2;refine l_ hK (cH ?_);clear hK K;have h2:=hL;have hE:Ext wr (((wq.setCell ⟨A,0,none⟩ ()).setCell ⟨A,1,none⟩ ()).setCell ⟨A,2,none⟩ ()):=aTk (aTk (aTk hU h2 _) h2 _) h2 _
     have h5:Blk (((wq.setCell ⟨A,0,none⟩ ()).setCell ⟨A,1,none⟩ ()).setCell ⟨A,2,none⟩ ()) (A) 122 [(),(),()]:=(((hY.set 0 (.int .i64 0)).set 1 (.int .i64 0)).set 2 (.int .i64 0))
     clear z0 z1 z2 z3 z4 z5 z6
     obtain ⟨wx,h8⟩:=e_ (((wq.setCell ⟨A,0,none⟩ ()).setCell ⟨A,1,none⟩ ()).setCell ⟨A,2,none⟩ ())
     rw [h8] at hE h5 ⊢;clear h8
     have y9:aIq c f n s u v j=false:=by unfold aIq mK;rw [y5.1,y5.2,aVa,aVa,y4];exact HB
     obtain ⟨a5,a2⟩:=h2_ (X0.trans hE) y9;clear hE y9;go_wp2;go_ret;exact ⟨_,rfl,.inl ⟨aNp a9 a2,rfl⟩,a5.out⟩
   ·have HB:=hid hb
    obtain ⟨x1,x2,x3,hP⟩:∃a b d,c.pr ⟨X,Y,Z⟩ s.lx s.ly=⟨a,b,d⟩:=⟨_,_,_,rfl⟩
    have HP:=hid hP;clear hb hP;refine dP 20 wr.heap.size ?_;refine z2_ (fuel:=7) [0,1,2,3,4,5,6,7,8,9,10,12,13] 11 18 (fun b _ hb=>rfl) (fun K hK=>?p2) fun K hK=>?p3
    case' p2=>
     clear t1 t2;go_wp2_with fail;refine r_ (qD R1 R2 y4 N1 N2 N3 _) fun a0 y0=>?_;have u0:Ext wr a0:=aS8 X_ y0;go_wp2;refine k_ hK ?_;clear hK K;refine z2_ (fuel:=6) [] 14 18 (fun b _ hb=>aTf u0 (by omega)) (fun K hK=>?p4) fun K hK=>?p5
     case' p4=>
      go_wp2_with fail;refine r_ (nY HB HP _) fun a01 y01=>?_;have a1:Ext wr a01:=aS8 X_ y01;go_wp2;refine k_ hK ?_;clear hK K;refine z1_ (fuel:=2) [15,16,17] 18 (fun b _ hb=>aTf a1 (by omega)) fun K hK=>?_;go_wp2;have h7:wr.heap.size<=a01.heap.size:=a1.size;refine k_ hK ?_;clear hK K
      obtain ⟨h4,h3⟩:=i_ (a01.alloc (.cells #[(),(),()] 122))
      rw [<-h3]
      have x8:Ext wr h4:=by rw [h3];exact X_
      have h9:Blk h4 a01.heap.size 122 [(),(),()]:=h3▸aTc _ _ _;clear h3;refine z1_ (fuel:=1) [] 19 (fun b _ hb=>aTf x8 (by omega)) fun K hK=>?_
     case' p5=>
      go_wp2;have x6:wr.heap.size<=a0.heap.size:=u0.size;refine k_ hK ?_;clear hK K
      obtain ⟨y6,h6⟩:=i_ (a0.alloc (.cells #[(),(),()] 122))
      rw [<-h6]
      have a7:Ext wr y6:=by rw [h6];exact X_
      have a3:Blk y6 a0.heap.size 122 [(),(),()]:=h6▸aTc _ _ _;clear h6;refine z1_ (fuel:=5) [] 14 (fun b _ hb=>aTf a7 (by omega)) fun K hK=>?_;go_wp2_with fail;refine r_ (nY HB HP _) fun a0A1 y0A1=>?_;have x9:Ext wr a0A1:=aS8 X_ y0A1;have x4:=a3.ext y0A1;go_wp2;refine k_ hK ?_;clear hK K;refine z1_ (fuel:=1) [15,16,17] 19 (fun b _ hb=>aTf x9 (by omega)) fun K hK=>?_
    case' p3=>
     clear t1 t2;go_wp2;have y7:wr.heap.size<=wr.heap.size:=aS3 _;refine k_ hK ?_;clear hK K
     obtain ⟨dA,z8⟩:=i_ ((wr.alloc (.cells #[(),(),()] 122)).drew)
     rw [<-z8]
     have uA:Ext wr dA:=by rw [z8];exact X_
     have bA:Blk dA wr.heap.size 122 [(),(),()]:=z8▸(aTc _ _ _).ext (aUa (aTd _));clear z8;refine z1_ (fuel:=6) [] 11 (fun b _ hb=>aTf uA (by omega)) fun K hK=>?_;go_wp2_with fail;refine r_ (qD R1 R2 y4 N1 N2 N3 _) fun aA0 yA0=>?_;have a8:Ext wr aA0:=aS8 X_ yA0;have a4:=bA.ext yA0;go_wp2;refine k_ hK ?_;clear hK K;refine z1_ (fuel:=5) [] 14 (fun b _ hb=>aTf a8 (by omega)) fun K hK=>?_;go_wp2_with fail;refine r_ (nY HB HP _) fun aA01 yA01=>?_;have z7:Ext wr aA01:=aS8 X_ yA01;have x5:=a4.ext yA01;go_wp2;refine k_ hK ?_;clear hK K;refine z1_ (fuel:=1) [15,16,17] 19 (fun b _ hb=>aTf z7 (by omega)) fun K hK=>?_
    all_goals
     rename World=>wq;rename Blk wq _ _ _=>hY;rename Ext wr wq=>hU;rename (wr.heap.size<=_)=>hL0;obtain ⟨A,hA⟩:=a_ hY
     have hL:wr.heap.size<=A:=by omega
     rw [hA] at hY ⊢;clear hA hL0
     obtain ⟨z0,z1,z2,z3,z4,z5,z6⟩:=oD hY;go_wp2;have x7:=hL;refine hK _ _ (.inr (fun b _ hb=>aTf (w:=wr) S_ (by omega))) ?_;clear hK K;refine z1_ (fuel:=0) [] 20 (fun b _ hb=>aTf (w:=wr) S_ (by omega)) fun K hK=>?_;go_wp2;refine l_ hK (cH ?_);clear hK K;have h2:=hL;have hE:Ext wr (((wq.setCell ⟨A,0,none⟩ x1).setCell ⟨A,1,none⟩ x2).setCell ⟨A,2,none⟩ x3):=aTk (aTk (aTk hU h2 _) h2 _) h2 _
     have h5:Blk (((wq.setCell ⟨A,0,none⟩ x1).setCell ⟨A,1,none⟩ x2).setCell ⟨A,2,none⟩ x3) (A) 122 [x1,x2,x3]:=(((hY.set 0 (.int .i64 x1)).set 1 (.int .i64 x2)).set 2 (.int .i64 x3))
     clear z0 z1 z2 z3 z4 z5 z6
     obtain ⟨wx,h8⟩:=e_ (((wq.setCell ⟨A,0,none⟩ x1).setCell ⟨A,1,none⟩ x2).setCell ⟨A,2,none⟩ x3)
     rw [h8] at hE h5 ⊢;clear h8
     have b1:crn c f n s u v j=⟨x1,x2,x3⟩:=by unfold crn dK;rw [y5.1,y5.2,aVa,aVa,y4];exact HP
     have y9:aIq c f n s u v j=true:=by unfold aIq mK;rw [y5.1,y5.2,aVa,aVa,y4];exact HB
     obtain ⟨b2,a2,a5,C0,C1,O2⟩:=h6_ b1 y9 (X0.trans hE) (B0.ext hE) (B1.ext hE) (OO.ext hE);have zx:=hE.size;clear hE b1 y9;have y:=h5.lt;obtain ⟨y0,y1,y2⟩:=h5.q3;obtain ⟨c8,LL⟩:=h2_ h5 (show ((aTt j).map (crn c f n s u v)).length<1000000 by have:=a9.out;simp;omega);clear h5;go_wp2_with (at_builtin;refine mS _ rfl _ _ rfl (w.heap.size+2) _ _ rfl (aD.ext O2 X_) ⟨x1,x2,x3⟩ wx.heap.size rfl (aJa wx x1 x2 x3) LL (by simp;omega) ?_;intro v8 w8 hown hg);have xe:Ext wx (wx.alloc (.cells #[x1,x2,x3] 122)):=X_;have z9:=aD.rowE (aD.ext O2 xe);obtain ⟨R0,R1,RX,RO⟩:=h4_ ((C0.ext xe).grown hg (fun e=>by have h1:=(z9 _ e.symm).1;omega)) ((C1.ext xe).grown hg (fun e=>by have h1:=(z9 _ e.symm).1;omega)) (aUd (a5.out.trans xe) hg (fun k e=>by have h1:=(z9 k e).1;omega)) hown;clear hown hg z9 xe;go_wp2;go_roundw
     case rel=>
      refine ⟨j+1,by omega,by go_num,?_,RX,R0,R1,?_⟩
      ·intro q hq
       rcases aTz q j with h|h
       ·exact HA q h
       ·obtain rfl:q=j:=by omega
        exact a2
      ·rw [aVo,aU0,aWb,b2]
       exact RO
     case measure=>simp [intOf];omega
  ·obtain rfl:j=4:=by omega
   have c4:=hid (aPl (fun q hq=>HA q hq));have hI:=OO.out;rw [show (aTt 4).map (crn c f n s u v)=[crn c f n s u v 0,crn c f n s u v 1,crn c f n s u v 2,crn c f n s u v 3] from rfl] at hI
   obtain ⟨⟨x0,y0,s0⟩,e0⟩:∃p,crn c f n s u v 0=p:=⟨_,rfl⟩
   rw [e0] at hI;have b3:=hid e0
   obtain ⟨⟨x1,y1,s1⟩,e1⟩:∃p,crn c f n s u v 1=p:=⟨_,rfl⟩
   rw [e1] at hI;have b4:=hid e1
   obtain ⟨⟨x2,y2,s2⟩,e2⟩:∃p,crn c f n s u v 2=p:=⟨_,rfl⟩
   rw [e2] at hI;have b5:=hid e2
   obtain ⟨⟨x3,y3,s3⟩,e3⟩:∃p,crn c f n s u v 3=p:=⟨_,rfl⟩
   rw [e3] at hI;have b6:=hid e3;obtain ⟨g,tc,rfl,gl,gw,b0,c9,-,c0⟩:=aD.at hI (fun _=>rfl) (i:=0) rfl;obtain ⟨g1,e8,he,-,-,-,-,-,c1⟩:=aD.at hI (fun _=>rfl) (i:=1) rfl;simp only [aTp,aS5,aUb,and_true,true_and] at he;obtain ⟨rfl,rfl⟩:=he;obtain ⟨g2,e9,he,-,-,-,-,-,c2⟩:=aD.at hI (fun _=>rfl) (i:=2) rfl;simp only [aTp,aS5,aUb,and_true,true_and] at he;obtain ⟨rfl,rfl⟩:=he;obtain ⟨g3,g0,he,-,-,-,-,-,c3⟩:=aD.at hI (fun _=>rfl) (i:=3) rfl;simp only [aTp,aS5,aUb,and_true,true_and] at he;obtain ⟨rfl,rfl⟩:=he;have d0:wr.cell? ⟨g,0,none⟩=some (.int .i64 x0):=c0 0 (by decide);have d1:wr.cell? ⟨g,1,none⟩=some (.int .i64 y0):=c0 1 (by decide);have d2:wr.cell? ⟨g,2,none⟩=some (.int .i64 s0):=c0 2 (by decide);have d3:wr.cell? ⟨g,3,none⟩=some (.int .i64 x1):=c1 0 (by decide);have d4:wr.cell? ⟨g,4,none⟩=some (.int .i64 y1):=c1 1 (by decide);have d5:wr.cell? ⟨g,5,none⟩=some (.int .i64 s1):=c1 2 (by decide);have d6:wr.cell? ⟨g,6,none⟩=some (.int .i64 x2):=c2 0 (by decide);have d7:wr.cell? ⟨g,7,none⟩=some (.int .i64 y2):=c2 1 (by decide);have d8:wr.cell? ⟨g,8,none⟩=some (.int .i64 s2):=c2 2 (by decide);have d9:wr.cell? ⟨g,9,none⟩=some (.int .i64 x3):=c3 0 (by decide);have e4:wr.cell? ⟨g,10,none⟩=some (.int .i64 y3):=c3 1 (by decide);have e5:wr.cell? ⟨g,11,none⟩=some (.int .i64 s3):=c3 2 (by decide);have b7:4<=tc:=b0;have ZW:=X0.size;clear hI c0 c1 c2 c3 b0 e0 e1 e2 e3 hge;go_wp2;refine aA [([0,1,2,3,4,5,6,7,8,9,10,11,12,13,14,15,16,17,18,19,20,21,22,23,24,25,26,27,28,29],30),([],31)] 99 wr.heap.size ?_;refine st_ fun K hK=>?_;go_wp2;refine k_ hK (st_ fun K hK=>?_);go_wp2;refine k_ hK (aC ?_);clear hK K;have BF:=aTc wr.drew 155 [x0,y0,s0,x1,y1,s1,x2,y2,s2,(u:Nat),(v:Nat),(n:Nat),x1,y1,s1,x3,y3,s3,x2,y2,s2,(u:Nat),(v:Nat),(n:Nat)];have XF:Ext wr (wr.drew.alloc (.cells #[x0,y0,s0,x1,y1,s1,x2,y2,s2,(u:Nat),(v:Nat),(n:Nat),x1,y1,s1,x3,y3,s3,x2,y2,s2,(u:Nat),(v:Nat),(n:Nat)] 155)):=X_;go_wp2;go_ret;refine ⟨_,rfl,.inr ⟨c4.out,wr.heap.size,ZW,rfl,?_⟩,X0.trans XF⟩;rw [show dK c f n s u v=⟨x0,y0,s0⟩ from b3,show dK c f n s (u+1) v=⟨x1,y1,s1⟩ from b4,show dK c f n s u (v+1)=⟨x2,y2,s2⟩ from b5,show dK c f n s (u+1) (v+1)=⟨x3,y3,s3⟩ from b6];exact BF
def rB (c:Cam) (f:Nat->Int) (n:Nat) (s:Smp) (k:Nat):List Mc:=(aTt k).flatMap fun q=>gO c f n s (q % n) (q / n)
theorem aIr (c:Cam) (f:Nat->Int) (n:Nat) (s:Smp) {v:Nat} (hu:u<n):rB c f n s (v*n+(u+1))=rB c f n s (v*n+u)++gO c f n s u v:=by
 unfold rB;rw [<-aUv,aVo,aUk,aW6]
 have e1:(v*n+u) % n=u:=by rw [aZo,Nat.add_mul_mod_self_right,Nat.mod_eq_of_lt hu]
 have e2:(v*n+u) / n=v:=by rw [aZo,Nat.add_mul_div_right _ _ (by omega),Nat.div_eq_of_lt hu,aT1]
 rw [e1,e2]
theorem aEd (c:Cam) (f:Nat->Int) (n:Nat) (s:Smp) (k:Nat):(rB c f n s k).length<=2*k:=by
 unfold rB
 induction k with
 | zero=>simp
 | succ k ih=>
  rw [aVo,aUk,aW6,aTw];have:=jU c f n s (k % n) (k / n);omega
theorem Mc.oneC (y:Mc):∀u∈y.cs,u.oneCell'=true:=y.one
theorem aAg (c:Cam) (f:Nat->Int) (n:Nat) (s:Smp) (hn:1<=n/\n<=8) (w:World) :
  Calls aS7 98 #[.agg c,.agg f,(n:Nat),s.lx,s.ly] w fun e w'=>∃r,e = .returned r/\aD Mc.cs w.heap.size 155 12 w' r (lJ c f n s)/\Ext w w':=by
 obtain ⟨J1,HN⟩:=h2_ (aG.2 (show (1:Int)<=(n:Int)/\(n:Int)<=8 by omega)) hn;clear hn;obtain ⟨B0,B1,X0⟩:=h3_ ((aTc w 35 c).ext (show Ext (w.alloc (.cells c 35)) ((w.alloc (.cells c 35)).alloc (.cells f 125)) from X_)) (show Blk ((w.alloc (.cells c 35)).alloc (.cells f 125)) (w.heap.size+1) 125 f from by have q:=(aTc (w.alloc (.cells c 35)) 125 f).ext (show Ext ((w.alloc (.cells c 35)).alloc (.cells f 125)) ((w.alloc (.cells c 35)).alloc (.cells f 125)) from X_);simp only [aS4] at q;exact q) (show Ext w ((w.alloc (.cells c 35)).alloc (.cells f 125)) from X_);go_enter func98,ntmps98;go_wp2_with fail;refine z_ (aE J1 _) ?_;go_upto_region 4 with fail
 obtain ⟨W,hW⟩:=e_ (((w.alloc (.cells c 35)).alloc (.cells f 125)).alloc (.cells #[] 155))
 have OW:aD Mc.cs (w.heap.size+2) 155 12 (((w.alloc (.cells c 35)).alloc (.cells f 125)).alloc (.cells #[] 155)) (.slice (some ⟨w.heap.size+2,0,none⟩) 0 0) []:=aD.freshC (aS3 _) (by have q:=aTc ((w.alloc (.cells c 35)).alloc (.cells f 125)) 155 [];simp only [aS4] at q;exact q);have YW:Ext ((w.alloc (.cells c 35)).alloc (.cells f 125)) (((w.alloc (.cells c 35)).alloc (.cells f 125)).alloc (.cells #[] 155)):=X_;replace B0:=hid (B0.ext YW);replace B1:=hid (B1.ext YW);replace X0:=hid (X0.trans YW);clear YW
 try simp only [aS4]
 rw [hW];rw [hW] at B0 B1 X0 OW;have OO:=hid OW;clear hW OW;go_wp2
 go_loopw [11,12] (fun l x wr=>∃r:Nat,r<=n/\x = .int .i64 (r:Nat)/\Ext w wr/\Blk wr w.heap.size 35 c/\Blk wr (w.heap.size+1) 125 f/\aD Mc.cs (w.heap.size+2) 155 12 wr l (rB c f n s (r*n))) (fun _ x _=>n - (intOf x).toNat)
 case atStart=>exact ⟨0,by omega,rfl,X0,B0,B1,by rw [aXz];exact OO⟩
 case round=>
  obtain ⟨r,hr,rfl,hx,h0,h1,ho⟩:=hrel;clear B0 B1 X0 OO;obtain ⟨X0,B0,B1,OO⟩:=h4_ hx h0 h1 ho;obtain ⟨la,lc,rfl,-⟩:=aD.form ho;clear hx h0 h1 ho
  rcases aTz r n with hrn|hrn
  ·go_wp2_with fail
   obtain ⟨WA,h9⟩:=i_ wr
   rw [<-h9] at B0 B1 X0 OO ⊢;clear h9
   go_loopw [11,13] (fun l x wr=>∃q:Nat,q<=n/\x = .int .i64 (q:Nat)/\Ext w wr/\Blk wr w.heap.size 35 c/\Blk wr (w.heap.size+1) 125 f/\aD Mc.cs (w.heap.size+2) 155 12 wr l (rB c f n s (r*n+q))) (fun _ x _=>n - (intOf x).toNat)
   case atStart=>exact ⟨0,by omega,rfl,X0,B0,B1,by rw [aT7];exact OO⟩
   case round=>
    obtain ⟨q,hq,rfl,hx,h0,h1,ho⟩:=hrel;clear B0 B1 X0 OO;obtain ⟨X0,B0,B1,OO⟩:=h4_ hx h0 h1 ho;have h6:=aEd c f n s (r*n+q)
    have q5:r*n+q<=64:=by
     have h:=aT5 (show r<=7 by have:=HN.out;omega) (show n<=8 by have:=HN.out;omega);have:=HN.out;omega
    have h3:=hid (show (rB c f n s (r*n+q)).length<=200 by omega);clear h6 q5
    rcases aTz q n with hqn|hqn
    ·have h4:=hid (aIr c f n s (v:=r) hqn)
     obtain ⟨T,hT⟩:=e_ (rB c f n s (r*n+q))
     rw [hT] at ho OO h3 h4;clear hT;obtain ⟨ma,mc,rfl,-⟩:=aD.form ho;have ZW:=hx.size;clear hx h0 h1 ho;have p:=B0.lt;obtain ⟨p0,p1,p2,p3,p4,p5,p6⟩:=B0.q7;have g:=B1.lt;obtain ⟨g0,g1,g2,g3,g4,g5,g6,g7,g8,g9,q2,q3⟩:=B1.q12;go_wp2_with fail;refine (aBm c f n s q r ⟨HN.1,by have:=HN.out;omega⟩ hqn hrn _).mono ?_;rintro e w5 ⟨d,rfl,hD,x5⟩;have hR:=hD.rd;have h5:=jU c f n s q r
     obtain ⟨L,hL⟩:=e_ (gO c f n s q r)
     replace h4:=hid (hL▸h4.out);rw [hL] at hR h5;clear hL;obtain ⟨da,dc,rfl,-,-,h8⟩:=hR.form;obtain ⟨HR,O5,C0,C1,CX⟩:=h5_ h8 (OO.ext x5) (B0.ext x5) (B1.ext x5) (X0.trans x5);have z5:=CX.size;have h7:=hid h5;have q6:=C1.lt;clear hD hR h8 h5 x5 p p0 p1 p2 p3 p4 p5 p6 g g0 g1 g2 g3 g4 g5 g6 g7 g8 g9 q2 q3;go_wp2_with (at_builtin;refine cX Mc.cs 155 12 96 _ w5 rfl _ _ 148 rfl underlying148 xU rfl (by decide) (by decide) (fun _=>rfl) Mc.oneC (w.heap.size+2) (.slice ma T.length mc) T rfl O5 _ _ (.slice da L.length dc) L rfl HR (by have:=h3.out;have:=h7.out;omega) (by omega) ?_;intro v6 w6 hown hg);have h2:=aD.rowE O5;obtain ⟨RX,R0,R1,RO⟩:=h4_ (aUd CX hg (fun k e=>by have:=(h2 k e).1;omega)) (C0.grown hg (fun e=>by have:=(h2 _ e.symm).1;omega)) (C1.grown hg (fun e=>by have:=(h2 _ e.symm).1;omega)) hown;clear hown hg h2;have q0:=HN.out;obtain ⟨HW,q1⟩:=h2_ (show wrap64 ((q:Int)+1)=((q+1:Nat):Int) by rw [aF (by omega) (by omega)];omega) (show aD Mc.cs (w.heap.size+2) 155 12 w6 v6 (rB c f n s (r*n+(q+1))) by rw [h4];exact RO)
     obtain ⟨n8,q4⟩:=e_ (n:Nat)
     clear h3 h7 HR O5 C0 C1 CX h4 RO HN q0 q4 n8;go_wp2;go_roundw
     case rel=>exact ⟨q+1,by omega,congrArg (Value.int .i64) HW,RX,R0,R1,q1⟩
     case measure=>
      rw [HW]
      show n - (q+1)<n - q
      omega
    ·obtain rfl:q=n:=by omega
     obtain ⟨ma,mc,rfl,-⟩:=aD.form ho;clear hx h0 h1 ho;have q0:=HN.out;go_wp2;go_roundw
     case rel=>exact ⟨r+1,by omega,by go_num,X0,B0,B1,by rw [Nat.succ_mul];exact OO⟩
     case measure=>simp [intOf];omega
  ·obtain rfl:r=n:=by omega
   go_wp2;go_ret;exact ⟨_,rfl,aD.low (show aD Mc.cs (w.heap.size+2) 155 12 wr _ (lJ c f _ s) from OO) (by omega),X0⟩
structure aAh (s:Scn) (h:Nat) (w:World) (cv av:Value):Prop where
 hh:h<=w.heap.size
 c:∃us:List Value,us.length=s.m/\Rd (fun u=>[u]) 0 h w cv us/\∀k u,us[k]?=some u->aS 0 h w u (s.shade k).1
 a:∃us:List Value,us.length=s.m/\Rd (fun u=>[u]) 0 h w av us/\∀k u,us[k]?=some u->aS 0 h w u (s.shade k).2
theorem aAh.ext {s:Scn} (r:aAh s h w cv av) (x:Ext w w'):aAh s h w' cv av:=by
 obtain ⟨hh,⟨us,h1,h2,h3⟩,us2,k1,k2,k3⟩:=r;exact ⟨aTb hh x.size,⟨us,h1,h2.ext hh x,fun k u hu=>(h3 k u hu).ext hh x⟩,us2,k1,k2.ext hh x,fun k u hu=>(k3 k u hu).ext hh x⟩
theorem Rd.low0 {α : Type} {cs : α->List Value} {ys:List α} (h:Rd cs lo hi w v ys):Rd cs 0 hi w v ys:=by
 obtain ⟨ad,c,h1,h2,h3,h4,h5⟩:=h;refine ⟨ad,c,h1,h2,h3,h4,?_⟩
 rcases h5 with h5|⟨b,off,e,l1,l2,hc⟩
 ·exact .inl h5
 ·exact .inr ⟨b,off,e,aUl _,l2,hc⟩
theorem aAd.rd {s:Scn} (h:aAd s lo w cv av s.m):aAh s w.heap.size w cv av:=by
 obtain ⟨us,h1,h2,h3⟩:=h.c.ints;obtain ⟨h0,k1,k2,k3⟩:=h.a.ints;rw [tQ] at h1;rw [vT] at k1;refine ⟨aS3 _,⟨us,h1,h2.low0,fun k u hu=>h3 k u _ hu (aNl s ?_)⟩,h0,k1,k2.low0,fun k u hu=>k3 k u _ hu (aPk s ?_)⟩
 ·have:=(aS2.1 hu).1
  omega
 ·have:=(aS2.1 hu).1
  omega
theorem aAh.at {s:Scn} (r:aAh s h w cv av) (hk:k<s.m) :
  ∃bc oc cc ba oa ca a4 c4 a5 c5,cv = .slice (some ⟨bc,oc,none⟩) s.m cc/\av = .slice (some ⟨ba,oa,none⟩) s.m ca/\bc<h/\ba<h/\w.cell? ⟨bc,oc+k,none⟩=some (.slice a4 (s.shade k).1.length c4)/\w.cell? ⟨ba,oa+k,none⟩=some (.slice a5 (s.shade k).2.length c5)/\gQ 0 h w a4 c4 (s.shade k).1/\gQ 0 h w a5 c5 (s.shade k).2:=by
 obtain ⟨hh,⟨us,h1,h2,h3⟩,us2,k1,k2,k3⟩:=r;obtain ⟨ad,cc,rfl,-,-,q2⟩:=h2.form;obtain ⟨h5,ca,rfl,-,-,q4⟩:=k2.form
 obtain ⟨u,hu⟩:∃u,us[k]?=some u:=⟨_,aS9 (by omega)⟩
 obtain ⟨u2,h0⟩:∃u,us2[k]?=some u:=⟨_,aS9 (by omega)⟩
 obtain ⟨bc,oc,rfl,-,l1,hc⟩:=Rd.at (sz:=1) (fun _=>rfl) q2 hu;obtain ⟨ba,oa,rfl,-,l2,h4⟩:=Rd.at (sz:=1) (fun _=>rfl) q4 h0;obtain ⟨a4,c4,rfl,i4⟩:=(h3 k u hu).open;obtain ⟨a5,c5,rfl,i5⟩:=(k3 k u2 h0).open;have e1:=hc 0 (by omega);have e2:=h4 0 (by omega);rw [aWz,aT7] at e1 e2;exact ⟨bc,oc,cc,ba,oa,ca,a4,c4,a5,c5,by rw [h1],by rw [k1],l1,l2,e1,e2,i4,i5⟩
theorem aEe (s:Scn) (lo hi h0:Nat) (v cv av:Value) (k:Nat) (p:Smp) (n:Nat) (cols als:List Int) (w:World) (hv:s.R lo hi w v) (hh:hi<=w.heap.size) (hk:k<s.m) (hm5:s.m<=5) (hr:s.rt k=(n:Nat)) (hn:1<=n/\n<=8) (hp:p.okB s.c=true)
  (hd:aAh s h0 w cv av) (hlc:cols.length=n*n) (hla:als.length=n*n) (hcols:(s.shade k).1=cols) (hals:(s.shade k).2=als) :
  Calls aS7 55 #[v,.agg #[cv,av],(k:Nat),.agg #[p.x,p.y,p.t,p.lx,p.ly]] w fun e w'=>∃r,e = .returned r/\aD aI.cs w.heap.size 95 5 w' r (uX s.c (aZ (s.st k) (s.en k) p.t) n p (k:Nat) cols als)/\Ext w w':=by
 obtain ⟨a1,c1,a2,c2,a3,c3,rfl,-,-,-,-,-,hF⟩:=hv.form;have i2:=hd.hh;obtain ⟨bc,oc,cc,ba,oa,ca,a4,c4,a5,c5,rfl,rfl,lc,la,ec,ea,hC,hA⟩:=hd.at hk;rw [hcols] at ec hC;rw [hals] at ea hA;have e8:=hF.cap;have i5:=hF.le;obtain ⟨b,h7,rfl,i0,i1,h3⟩:=hF.at hk (by decide)
 obtain ⟨f,hf⟩:=e_ (s.st k)
 obtain ⟨g,hg⟩:=e_ (s.en k)
 obtain ⟨sh,b1⟩:=e_ (s.sh k)
 have bw:b<w.heap.size:=by omega
 have xw:Ext w (((w.alloc (.cells (sA_ s a1 c1 a2 c2 (some ⟨b,h7,none⟩) c3) 40)).alloc (.cells #[.slice (some ⟨bc,oc,none⟩) s.m cc,.slice (some ⟨ba,oa,none⟩) s.m ca] 78)).alloc (.cells #[p.x,p.y,p.t,p.lx,p.ly] 42)):=X_
 have q6:(((w.alloc (.cells (sA_ s a1 c1 a2 c2 (some ⟨b,h7,none⟩) c3) 40)).alloc (.cells #[.slice (some ⟨bc,oc,none⟩) s.m cc,.slice (some ⟨ba,oa,none⟩) s.m ca] 78)).alloc (.cells #[p.x,p.y,p.t,p.lx,p.ly] 42)).rangeAt b (h7+k*26) ((aTt 26).map fun j=>.int .i64 (s.F (k*26+j))):=by
  intro j v hj;obtain ⟨h1,h2⟩:=aS2.1 hj;simp only [aT9,aV6] at h1;simp only [aWt,aV0] at h2;subst h2;exact (xw.cells.1 b _ bw).trans (h3 j h1)
 change (((w.alloc (.cells (sA_ s a1 c1 a2 c2 (some ⟨b,h7,none⟩) c3) 40)).alloc (.cells #[.slice (some ⟨bc,oc,none⟩) s.m cc,.slice (some ⟨ba,oa,none⟩) s.m ca] 78)).alloc (.cells #[p.x,p.y,p.t,p.lx,p.ly] 42)).rangeAt b (h7+k*26) (gL_ (s.st k) (s.en k) (s.sh k) (s.rt k)) at q6;simp only [hf,hg,b1,hr] at q6;have q0:=aTc w 40 (sL_ s a1 c1 a2 c2 (some ⟨b,h7,none⟩) c3);have q1:=aTc (w.alloc (.cells (sA_ s a1 c1 a2 c2 (some ⟨b,h7,none⟩) c3) 40)) 78 [.slice (some ⟨bc,oc,none⟩) s.m cc,.slice (some ⟨ba,oa,none⟩) s.m ca];have q2:=aTc ((w.alloc (.cells (sA_ s a1 c1 a2 c2 (some ⟨b,h7,none⟩) c3) 40)).alloc (.cells #[.slice (some ⟨bc,oc,none⟩) s.m cc,.slice (some ⟨ba,oa,none⟩) s.m ca] 78)) 42 [p.x,p.y,p.t,p.lx,p.ly];simp only [aS4] at q1 q2;have r0:=q0.ext (show Ext (w.alloc (.cells (sA_ s a1 c1 a2 c2 (some ⟨b,h7,none⟩) c3) 40)) (((w.alloc (.cells (sA_ s a1 c1 a2 c2 (some ⟨b,h7,none⟩) c3) 40)).alloc (.cells #[.slice (some ⟨bc,oc,none⟩) s.m cc,.slice (some ⟨ba,oa,none⟩) s.m ca] 78)).alloc (.cells #[p.x,p.y,p.t,p.lx,p.ly] 42)) from X_);have r1:=q1.ext (show Ext ((w.alloc (.cells (sA_ s a1 c1 a2 c2 (some ⟨b,h7,none⟩) c3) 40)).alloc (.cells #[.slice (some ⟨bc,oc,none⟩) s.m cc,.slice (some ⟨ba,oa,none⟩) s.m ca] 78)) (((w.alloc (.cells (sA_ s a1 c1 a2 c2 (some ⟨b,h7,none⟩) c3) 40)).alloc (.cells #[.slice (some ⟨bc,oc,none⟩) s.m cc,.slice (some ⟨ba,oa,none⟩) s.m ca] 78)).alloc (.cells #[p.x,p.y,p.t,p.lx,p.ly] 42)) from X_);have r2:=q2.ext (show Ext (((w.alloc (.cells (sA_ s a1 c1 a2 c2 (some ⟨b,h7,none⟩) c3) 40)).alloc (.cells #[.slice (some ⟨bc,oc,none⟩) s.m cc,.slice (some ⟨ba,oa,none⟩) s.m ca] 78)).alloc (.cells #[p.x,p.y,p.t,p.lx,p.ly] 42)) (((w.alloc (.cells (sA_ s a1 c1 a2 c2 (some ⟨b,h7,none⟩) c3) 40)).alloc (.cells #[.slice (some ⟨bc,oc,none⟩) s.m cc,.slice (some ⟨ba,oa,none⟩) s.m ca] 78)).alloc (.cells #[p.x,p.y,p.t,p.lx,p.ly] 42)) from X_)
 have z3:(((w.alloc (.cells (sA_ s a1 c1 a2 c2 (some ⟨b,h7,none⟩) c3) 40)).alloc (.cells #[.slice (some ⟨bc,oc,none⟩) s.m cc,.slice (some ⟨ba,oa,none⟩) s.m ca] 78)).alloc (.cells #[p.x,p.y,p.t,p.lx,p.ly] 42)).heap.size=w.heap.size+3:=by simp
 obtain ⟨HC,HA,b7,b6,HP⟩:=h5_ hC hA ec ea hp
 have ht:0<=p.t/\p.t<=16:=by
  unfold Smp.okB at hp;simp only [aTi,aG] at hp;omega
 obtain ⟨HT,d1,b9⟩:=h3_ ht hlc hla;clear hlc hla q0 q1 q2 hC hA ec ea hp ht h3 hF hv b1 hr hd hcols hals;rw [hf,hg,zD];have z7:=aFw (c:=s.c) (f:=aZ f g p.t) (n:=n) (s:=p) hn.1;have z4:=tC s.c (aZ f g p.t) p hn.2
 obtain ⟨M,q4⟩:=e_ (lJ s.c (aZ f g p.t) n p)
 rw [q4] at z7 z4 ⊢;obtain ⟨d5,d3,d4⟩:=h3_ z7 z4 q4;clear hf hg z7 z4 q4;go_enter func55,ntmps55;go_upto_region 1 with fail
 obtain ⟨W0,x1⟩:=e_ (((w.alloc (.cells (sA_ s a1 c1 a2 c2 (some ⟨b,h7,none⟩) c3) 40)).alloc (.cells #[.slice (some ⟨bc,oc,none⟩) s.m cc,.slice (some ⟨ba,oa,none⟩) s.m ca] 78)).alloc (.cells #[p.x,p.y,p.t,p.lx,p.ly] 42))
 rw [x1] at q6 r0 r1 r2 z3 xw
 try simp only [aS4] at x1
 rw [x1];clear x1
 have bl:b<W0.heap.size:=by omega
 have d0:=r0.cell 10 rfl;have l0:=r0.lt;obtain ⟨R0,R1,R2,XW,Z3⟩:=h5_ r0 r1 r2 xw z3
 have i4:((k:Nat):Int)<(s.m:Nat):=by omega
 have q8:(W0.alloc (.cells #[] 95)).rangeAt b (h7+k*26) (gL_ f g sh (n:Nat)):=fun j v hj=>((show Ext W0 (W0.alloc (.cells #[] 95)) from X_).cells.1 b _ bl).trans (q6 j v hj);clear r0 r1 r2 xw z3 q6;go_upto_region 3 with (first|(show wpList _ _ _ [_,_,_] _ _;refine wpList_load_mid rfl _ _ rfl b (h7+k*26) rfl (gL_ f g sh (n:Nat)) _ q8 underlying127 rfl gE ?_)|(show wpList _ _ _ [_] _ _;refine dX _ _ _ rfl 127 (.tmp 10) (.tmp 21) rfl rfl (gA_ f g sh (n:Nat)) (W0.heap.size+1) (by simp) rfl rfl (by kernel_rfl) (by kernel_rfl) (by kernel_rfl) ?_))
 have bS:Blk ((W0.alloc (.cells #[] 95)).alloc (.cells (gA_ f g sh (n:Nat)) 127)) (W0.heap.size+1) 127 (gL_ f g sh (n:Nat)):=by
  have q:=aTc (W0.alloc (.cells #[] 95)) 127 (gL_ f g sh (n:Nat));rw [aS4] at q;exact q
 have hO:aD aI.cs W0.heap.size 95 5 ((W0.alloc (.cells #[] 95)).alloc (.cells (gA_ f g sh (n:Nat)) 127)) (.slice (some ⟨W0.heap.size,0,none⟩) 0 0) []:=aD.ext (aD.fresh0 (aS3 _) (aTc W0 95 [])) (show Ext (W0.alloc (.cells #[] 95)) ((W0.alloc (.cells #[] 95)).alloc (.cells (gA_ f g sh (n:Nat)) 127)) from X_);have xa:Ext W0 ((W0.alloc (.cells #[] 95)).alloc (.cells (gA_ f g sh (n:Nat)) 127)):=X_
 obtain ⟨wc,b3⟩:=e_ ((W0.alloc (.cells #[] 95)).alloc (.cells (gA_ f g sh (n:Nat)) 127))
 rw [b3] at bS hO xa ⊢;clear b3 q8
 obtain ⟨A,a6⟩:=e_ (W0.heap.size+1)
 rw [a6] at bS ⊢;obtain ⟨HS,HO,HX⟩:=h3_ bS hO xa;have lA:=bS.lt;have g1:=xa.size;have d7:=bS.cell 25 rfl
 have a8:wc.rangeAt A 0 (gL_ f g sh (n:Nat)):=fun j v hj=>by rw [aT1];exact bS.cell j hj
 have e0:=R0.ext xa;have e1:=R2.ext xa;obtain ⟨m0,m1,m2,m3,m4,m5,m6⟩:=e0.q7;obtain ⟨s2,s3,s4,l1,l2⟩:=m5_ (e1.cell 2 rfl) (e1.cell 3 rfl) (e1.cell 4 rfl) e0.lt e1.lt;clear e0 e1 bS hO xa d0 l0 R0;refine aA [([0,1,2,3,4,6,7,8,9,10,11,14],5),([],12),([],13)] 99 wc.heap.size ?_;refine aK ?_;simp only [List.filterMap_cons,List.filterMap_nil,List.getElem?_toArray,aS0,aS1]
 show wpQuiet _ _ _ _ [_,_,_,_,_,_,_,_,_,_,_,_] _
 go_big_quiet_step (fail)
 go_big_quiet_step (fail)
 refine fC rfl _ _ rfl A 0 rfl (gL_ f g sh (n:Nat)) _ (by rintro _ ⟨d,rfl⟩ j v hj;rw [kD _ _ _ _ lA];exact a8 j v hj) underlying127 rfl gE ?_
 try simp only [Act.put,List.setIfInBounds_toArray,List.set_cons_succ,List.set_cons_zero]
 repeat (go_big_quiet_step (fail))
 refine wpQuiet_nil ⟨_,rfl,fun K hK=>?_⟩;go_wp2_with fail;refine r_ (aAf f g sh (n:Nat) p.t HT _) fun w5 x5=>?_;have y5:Ext wc w5:=aS8 (aUa (aTd _)) x5;go_wp2;refine k_ hK (st_ fun K hK=>?_);go_wp2_with fail;refine (aAg s.c (aZ f g p.t) n p hn _).mono ?_;rintro e w6 ⟨r',rfl,hM,x6⟩;rw [d4] at hM;have y6:=y5.trans x6;obtain ⟨ta,tc,rfl,g2⟩:=aD.form hM;go_wp2;refine k_ hK (st_ fun K hK=>?_);go_wp2;refine k_ hK (aC ?_);clear hK K;go_wp2_with fail;obtain ⟨y2,y0,y4⟩:=h3_ (hM.low (lo':=W0.heap.size) (by have:=y5.size;omega)) (HO.ext y6) (HX.trans y6);clear hM y5 y6 x5 x6 a8 HS HO HX d7 m0 m1 m2 m3 m4 m5 m6 s2 s3 s4 lA g1 l1 l2 a6
 have hs:(-100000<=p.x/\p.x<=100000)/\(-100000<=p.y/\p.y<=100000):=by
  have hq:=HP.out;unfold Smp.okB at hq;simp only [aTi,aG] at hq;obtain ⟨⟨⟨⟨⟨q1,q2⟩,q3⟩,-⟩,-⟩,-⟩:=hq;have h1:=(Cam.okB_iff.1 q1).w;have h2:=(Cam.okB_iff.1 q1).h;omega
 have y8:=hid hs;clear hs
 go_loopw [9,36] (fun v i wr=>∃j:Nat,j<=M.length/\i = .int .i64 (j:Nat)/\Ext W0 wr/\aD Mc.cs W0.heap.size 155 12 wr (.slice ta M.length tc) M/\aD aI.cs W0.heap.size 95 5 wr v (aDw p (k:Nat) cols als M j)) (fun _ i _=>M.length - (intOf i).toNat)
 case atStart=>exact ⟨0,by omega,rfl,y4,y2,y0⟩
 case round=>
  obtain ⟨j,hj,rfl,hx,hm,ho⟩:=hrel;obtain ⟨x0,y1,x4⟩:=h3_ hx hm ho;clear y4 y2 y0
  rcases aTz j M.length with hlt|hge
  ·obtain ⟨m,x2⟩:∃m,M[j]?=some m:=⟨_,aS9 hlt⟩
   have h6:=d5.out m (aTq x2);obtain ⟨gm,cap,he,-,e4,x9,e3,-,h3⟩:=aD.at hm (fun _=>rfl) x2;simp only [aTp,true_and] at he;obtain ⟨rfl,rfl⟩:=he;obtain ⟨c0,c1,c2,c3,c4,c5,c6,c7,c8,c9,y9,a0⟩:=m12_ (h3 0 (by decide)) (h3 1 (by decide)) (h3 2 (by decide)) (h3 3 (by decide)) (h3 4 (by decide)) (h3 5 (by decide)) (h3 6 (by decide)) (h3 7 (by decide)) (h3 8 (by decide)) (h3 9 (by decide)) (h3 10 (by decide)) (h3 11 (by decide));simp only [Mc.cs,aKm,aT7,aS0,aS1] at c0 c1 c2 c3 c4 c5 c6 c7 c8 c9 y9 a0;have e1:=R2.ext hx;obtain ⟨s0,s1⟩:=e1.q2;have l1:=e1.lt;have y3:=hid x2;clear hx hm ho h3 x2 e1;go_wp2_with fail
   by_cases h8:rH m.a m.b m.d p.at=true
   ·refine (aIp m.a.x m.a.y m.a.z m.b.x m.b.y m.b.z m.d.x m.d.y m.d.z h6.a h6.b h6.d h6.z p.x p.y y8 h8 (r:=eT m.a m.b m.d p.at) rfl _).mono ?_
    rintro e w7 ⟨rfl,x7⟩;have y7:Ext wr w7:=aS8 (show Ext wr (wr.alloc (.cells #[m.a.x,m.a.y,m.a.z,m.b.x,m.b.y,m.b.z,m.d.x,m.d.y,m.d.z,m.u,m.v,m.n] 155)) from X_) x7;obtain ⟨hX,q4,z0⟩:=h3_ (x0.trans y7) (y1.ext y7) (x4.ext y7);have q5:=(aTc wr 155 [m.a.x,m.a.y,m.a.z,m.b.x,m.b.y,m.b.z,m.d.x,m.d.y,m.d.z,m.u,m.v,m.n]).ext x7;have k9:=q5.cell 9 rfl;have i6:=q5.cell 10 rfl;have i7:=q5.cell 11 rfl;have kl:=q5.lt;have e2:=R1.ext (x0.trans y7);obtain ⟨t0,t1⟩:=e2.q2;have tl:=e2.lt;obtain ⟨u,vv,hu,z9,z6,lu,lv⟩:=h6.q
    have g0:vv*n+u<n*n:=by
     have h:=Nat.mul_le_mul_right n (show vv+1<=n by omega);rw [Nat.add_mul,Nat.one_mul] at h;omega
    have z5:n*n<=64:=aT5 hn.2 hn.2
    obtain ⟨q,hq⟩:=e_ (vv*n+u:Nat)
    have x8:m.v*m.n+m.u=(q:Nat):=by rw [hu,z9,z6,<-hq,aVa,aWp]
    obtain ⟨pr,x3⟩:=e_ (m.v*m.n)
    have z8:pr=((vv*n:Nat):Int):=by rw [<-x3,z9,z6,aWp]
    have i8:wrap64 (m.v*m.n)=pr:=by rw [x3];exact aF (by omega) (by omega)
    have i9:wrap64 (pr+m.u)=(q:Nat):=by rw [<-x3,x8];exact aF (by omega) (by omega)
    have a9:q<cols.length:=by rw [d1];omega
    have b0:q<als.length:=by rw [b9];omega
    obtain ⟨b4,o4,rfl,-,h4,ct⟩:=HC.at a9;obtain ⟨b5,o5,rfl,-,h5,dt⟩:=HA.at b0;have xt:=XW.trans hX.out;have d8:=(xt.cells.1 b4 _ (by omega)).trans ct;have d9:=(xt.cells.1 b5 _ (by omega)).trans dt;have g7:=(xt.cells.1 bc _ (by omega)).trans b7;have g3:=(xt.cells.1 ba _ (by omega)).trans b6
    obtain ⟨cv,z2⟩:=e_ (cols[q])
    obtain ⟨av,z1⟩:=e_ (als[q])
    rw [z2] at d8;rw [z1] at d9
    have e9:=hid (show rW p (k:Nat) cols als m=[⟨eT m.a m.b m.d p.at,(k:Nat),(q:Nat),cv,av⟩] by
     unfold rW;rw [if_pos h8,x8,aTx,aTy,aTy,aS9 a9,aS9 b0,z2,z1]
     rfl)
    have z3:=Z3.out
    have g4:b4<W0.heap.size:=by omega
    have g5:b5<W0.heap.size:=by omega
    have g9:bc<W0.heap.size:=by omega
    have g8:ba<W0.heap.size:=by omega
    have g6:w.heap.size+1<W0.heap.size:=by omega
    clear z3 h8 q5 e2 y7 x7 hu z9 z6 lu lv g0 z5 hq x8 x3 z8 ct dt z2 z1 xt h4 h5 h6 c0 c1 c2 c3 c4 c5 c6 c7 c8 c9 y9 a0 s0 s1 l1 e4 x9 e3;go_wp2;refine aJ [([0,1,2,3,4,5,6,7,8,9,10,11,12,13,14,15,16,17,18,19,20],21),([],22),([],23)] 23 (fun w'=>∃d,w'=gA (CHt W0.heap.size) _ d) (SC.drew _ _) ?_;refine sc_ fun K hK=>?_;go_wp2_with fail;have b2:=hX.out.size;refine hK _ _ (.inr (SC.blocks fun a ha=>aTf (w:=w7) X_ (aUq ha b2))) ?_;clear hK K;obtain ⟨HB,a7,e6,e7⟩:=h4_ (aTc w7.drew 95 [(eT m.a m.b m.d p.at),(k:Nat),(q:Nat),cv,av]) (z0.out.ext (show Ext w7 (w7.drew.alloc (.cells #[(eT m.a m.b m.d p.at),(k:Nat),(q:Nat),cv,av] 95)) from X_)) (q4.out.ext (show Ext w7 (w7.drew.alloc (.cells #[(eT m.a m.b m.d p.at),(k:Nat),(q:Nat),cv,av] 95)) from X_)) (hX.out.trans (show Ext w7 (w7.drew.alloc (.cells #[(eT m.a m.b m.d p.at),(k:Nat),(q:Nat),cv,av] 95)) from X_));have i3:=vO p (k:Nat) cols als M j;refine sc_ fun K hK=>?_
    refine iZ _ rfl _ _ rfl W0.heap.size _ _ rfl a7.out ⟨eT m.a m.b m.d p.at,(k:Nat),(q:Nat),cv,av⟩ w7.heap.size rfl (fun q hq=>by
      rcases (show q=0\/q=1\/q=2\/q=3\/q=4 by omega) with rfl|rfl|rfl|rfl|rfl
      ·exact HB.cell 0 rfl
      ·exact HB.cell 1 rfl
      ·exact HB.cell 2 rfl
      ·exact HB.cell 3 rfl
      ·exact HB.cell 4 rfl) (by have:=d3.out;omega) (by simp;omega) ?_
    intro v2 w9 q9 hg;have h9:=aD.rowE a7.out;obtain ⟨b8,d6,d2,e5⟩:=h4_ q9 (aUd e7.out hg (fun k e=>(h9 k e).1)) (e6.out.grownE hg (by decide) (fun k e=>(h9 k e).2)) (fun a:Addr=>fun ha:CHt W0.heap.size a=>show w9.heap[a.block]?=w7.drew.heap[a.block]? from (hg.block _ (by have:a.block<W0.heap.size:=ha;simp;omega) (fun e=>by have h1:=(h9 _ e.symm).1;have h2:a.block<W0.heap.size:=ha;omega)).trans (aTf (w:=w7) X_ (aUq ha b2)));clear q9 hg h9;go_wp2;refine hK _ _ (.inr (SC.blocks fun a ha=>e5.out a ha)) ?_;clear hK K;refine sc_ fun K hK=>?_;go_wp2;refine l_ hK (aP ?_);clear hK K;go_wp2;go_roundw
    case rel=>exact ⟨j+1,by omega,by go_num,d6,d2,by rw [nA y3,e9.out];exact b8⟩
    case measure=>simp [intOf];omega
   ·refine (aLq m.a.x m.a.y m.a.z m.b.x m.b.y m.b.z m.d.x m.d.y m.d.z h6.a h6.b h6.d h6.z p.x p.y y8 (Bool.eq_false_iff.2 h8) _).mono ?_
    rintro e w7 ⟨rfl,x7⟩;have y7:Ext wr w7:=aS8 (show Ext wr (wr.alloc (.cells #[m.a.x,m.a.y,m.a.z,m.b.x,m.b.y,m.b.z,m.d.x,m.d.y,m.d.z,m.u,m.v,m.n] 155)) from X_) x7;obtain ⟨hX,q4,z0⟩:=h3_ (x0.trans y7) (y1.ext y7) (x4.ext y7);go_wp2;go_roundw
    case rel=>exact ⟨j+1,by omega,by go_num,hX.out,q4.out,by rw [nA y3];unfold rW;rw [if_neg h8,aVv];exact z0.out⟩
    case measure=>simp [intOf];omega
  ·obtain rfl:j=M.length:=by omega
   go_wp2;go_ret;refine ⟨_,rfl,?_,XW.trans x0⟩;rw [<-aFx];exact aD.low x4 (by have:=Z3.out;omega)
theorem aBn (s:Scn) (lo hi h0:Nat) (v cv av:Value) (k:Nat) (p:Smp) (w:World) (hv:s.R lo hi w v) (hh:hi<=w.heap.size) (ho:s.Ok) (hk:k<s.m) (hp:p.okB s.c=true) (hd:aAh s h0 w cv av) :
  Calls aS7 55 #[v,.agg #[cv,av],(k:Nat),.agg #[p.x,p.y,p.t,p.lx,p.ly]] w fun e w'=>∃r,e = .returned r/\aD aI.cs w.heap.size 95 5 w' r (s.hits k p)/\Ext w w':=by
 obtain ⟨q,n,-,-,h3,h4,h5,-,-⟩:=ho.at hk;have h1:=ho.shade hk;rw [h3,aTx] at h1
 have eh:uX s.c (aZ (s.st k) (s.en k) p.t) n p (k:Nat) (s.shade k).1 (s.shade k).2=s.hits k p:=by unfold Scn.hits;rw [h3,aTx]
 rw [<-eh];exact aEe s lo hi h0 v cv av k p n _ _ w hv hh hk ho.m h3 ⟨h4,h5⟩ hp hd h1.1 h1.2 rfl rfl
theorem aBo (a b:aI) (w:World) :
  R_ 173 #[.agg #[a.d,a.s,a.c,a.col,a.al],.agg #[b.d,b.s,b.c,b.col,b.al]] w (.bool (a.lt b)):=by
 obtain ⟨d1,s1,c1,k1,l1⟩:=a;obtain ⟨d2,s2,c2,k2,l2⟩:=b;unfold aI.lt;simp only
 by_cases h0:d1=d2
 ·subst h0
  by_cases h1:s1=s2
  ·subst h1
   go_enter func173,ntmps173;go_wp2;go_ret;exact ⟨by simp,X_⟩
  ·go_enter func173,ntmps173
   go_wp2;go_ret;exact ⟨by simp [h1],X_⟩
 ·go_enter func173,ntmps173
  go_wp2;go_ret;exact ⟨by simp [h0],X_⟩
theorem rC {d1 s1 c1 k1 l1 d2 s2 c2 k2 l2:Int} {r:Bool} (h:(aI.mk d1 s1 c1 k1 l1).lt ⟨d2,s2,c2,k2,l2⟩=r) (w:World) :
  R_ 173 #[.agg #[d1,s1,c1,k1,l1],.agg #[d2,s2,c2,k2,l2]] w (.bool r):=h▸aBo _ _ w
theorem aI.one (y:aI):∀u∈y.cs,u.oneCell'=true:=by
 intro u hu;simp only [aI.cs,aTo,aTj,or_false] at hu
 rcases hu with rfl|rfl|rfl|rfl|rfl <;> rfl
theorem Rd.cut {α : Type} {cs : α->List Value} {sz:Nat} {a:Option Addr} {c:Nat} {ys:List α} (hc:∀x,(cs x).length=sz) (h:Rd cs lo hi w (.slice a ys.length c) ys) {j:Nat} (hj:j<=ys.length) :
  Rd cs lo hi w (.slice a j c) (ys.take j):=by
 obtain ⟨ad,c',e,h2,h3,h4,h5⟩:=h;simp only [aTp,true_and] at e;obtain ⟨rfl,rfl⟩:=e;refine ⟨a,c,by rw [aTr,aVh hj],by rw [aTr];omega,h3,h4,?_⟩
 rcases h5 with rfl|⟨b,off,rfl,l1,l2,hcell⟩
 ·exact .inl (by simp)
 ·refine .inr ⟨b,off,rfl,l1,l2,fun q u hq=>hcell q u ?_⟩
  rw [<-aXe j ys,aUk];rw [aUf (aS2.1 hq).1];exact hq
theorem Rd.drop {α : Type} {cs : α->List Value} {sz:Nat} {b o c:Nat} {ys:List α} (hc:∀x,(cs x).length=sz) (h:Rd cs lo hi w (.slice (some ⟨b,o,none⟩) ys.length c) ys) {j:Nat} (hj:j<=ys.length) :
  Rd cs lo hi w (.slice (some ⟨b,o+j*sz,none⟩) (ys.length - j) (c - j)) (ys.drop j):=by
 obtain ⟨ad,c',e,h2,h3,h4,h5⟩:=h;simp only [aTp,true_and] at e;obtain ⟨rfl,rfl⟩:=e;refine ⟨some ⟨b,o+j*sz,none⟩,c - j,by rw [aV3],by rw [aV3];omega,by omega,(fun e=>nomatch e),?_⟩
 rcases h5 with rfl|⟨b',off,e,l1,l2,hcell⟩
 ·exact .inl (by simp)
 ·simp only [aS5,aUb,and_true] at e
  obtain ⟨rfl,rfl⟩:=e;refine .inr ⟨b,o+j*sz,rfl,l1,l2,fun q u hq=>?_⟩
  have hl:(ys.take j).length=j:=by rw [aTr,aVh hj]
  rw [aUv];refine hcell (j*sz+q) u ?_;rw [<-aXe j ys,aUk,aT4 (by rw [hG hc,hl];omega),hG hc,hl,Nat.add_sub_cancel_left];exact hq
theorem Rd.none0 {α : Type} (cs : α->List Value) (lo hi:Nat) (w:World) (a:Option Addr) (c:Nat) (hc:c<=9223372036854775807) (h:a=none->c=0):Rd cs lo hi w (.slice a 0 c) ([]:List α):=⟨a,c,rfl,by simp,hc,h,.inl rfl⟩
theorem vV (lo:Nat) (v:Value) (l:List aI) (x:aI) (w:World) (ho:aD aI.cs lo 95 5 w v l) (hl:l.length<=100000) :
  Calls aS7 111 #[v,.agg #[x.d,x.s,x.c,x.col,x.al]] w fun e w'=>∃r,e = .returned r/\aD aI.cs w.heap.size 95 5 w' r (mN x l)/\Ext w w':=by
 have x0:Ext w (w.alloc (.cells #[x.d,x.s,x.c,x.col,x.al] 95)):=X_;have hB:=aTc w 95 [x.d,x.s,x.c,x.col,x.al]
 obtain ⟨W0,x2⟩:=e_ (w.alloc (.cells #[x.d,x.s,x.c,x.col,x.al] 95))
 rw [x2] at x0
 have hB:Blk W0 w.heap.size 95 [x.d,x.s,x.c,x.col,x.al]:=by rw [<-x2];exact hB
 have hv:=ho.rd (fun _=>rfl)
 obtain ⟨hi,z1⟩:=e_ w.heap.size
 rw [z1] at hv;obtain ⟨HV,HH,q1,HB,z6,HL⟩:=h6_ (hv.ext (by omega) x0) (show hi<=W0.heap.size by have:=x0.size;omega) x0 hB x2 hl
 obtain ⟨p,hp⟩:=e_ (fN x l)
 have q7:p<=l.length:=hp▸aBw x l;have q8:∀k,k<p->∃hk:k<l.length,x.lt l[k]=false:=fun k hk=>aBx (hp.symm▸hk)
 have q6:∀f,l[p]?=some f->x.lt f=true:=fun f hf=>by
  obtain ⟨h1,h2⟩:=aS2.1 hf;subst h2;subst hp;exact aBy h1
 have q4:mN x l=l.take p++x::l.drop p:=by rw [<-hp];exact aI1 x l
 obtain ⟨z0,x9,x3⟩:=h3_ q8 q6 q4
 have h7:(v = .slice none 0 0/\l.length=0)\/∃g cap,v = .slice (some ⟨g,0,none⟩) l.length cap:=by
  rcases ho.2 with ⟨h1,h4⟩|⟨g,cap,cur,h1,_⟩
  ·exact .inl ⟨h1,h4⟩
  ·exact .inr ⟨g,cap,h1⟩
 obtain ⟨a,cap,rfl,z7,y0,-⟩:=hv.form;have z2:=hid h7;clear q8 q6 q4 hp x0 hB x2 hv hl ho h7 z1;go_enter func111,ntmps111
 go_upto_block 0 with fail
 rw [z6]
 go_cut [5] from 7 to 35 (fun i wx=>i = .int .i64 (p:Nat)/\Ext W0 wx)
 case first=>
  go_wp2
  go_loopw [5] (fun i wr=>∃k:Nat,k<=p/\i = .int .i64 (k:Nat)/\Ext W0 wr) (fun i _=>l.length - (intOf i).toNat)
  case atStart=>exact ⟨0,by omega,rfl,aTd _⟩
  case round=>
   obtain ⟨k,hk,rfl,hx⟩:=hrel;obtain ⟨HX,h6⟩:=h2_ hx (HB.ext hx);have b:=h6.lt;obtain ⟨b0,b1,b2,b3,b4⟩:=h6.q5;have HR:=hid (HV.ext HH hx);have zw:=hx.size;clear hx
   rcases aTz k l.length with hlt|hge
   ·obtain ⟨f,hf⟩:∃f,l[k]?=some f:=⟨_,aS9 hlt⟩
    obtain ⟨g,y2,rfl,-,gl,h5⟩:=Rd.at (sz:=5) (fun _=>rfl) HR hf;have d0:=h5 0 (by decide);have d1:=h5 1 (by decide);have d2:=h5 2 (by decide);have d3:=h5 3 (by decide);have d4:=h5 4 (by decide);simp only [aI.cs,aT7,aS0,aS1] at d0 d1 d2 d3 d4
    obtain ⟨r,hr⟩:=e_ (x.lt f)
    obtain ⟨q9,HF⟩:=h2_ hr hf;have z9:decide ((k:Int)<(l.length:Int))=true:=decide_eq_true (by omega)
    have gw:g<wr.heap.size:=by have:=HH.out;omega
    clear h5 hr hf
    rcases aTz k p with hkp|hkp
    ·obtain rfl:r=false:=by
      obtain ⟨z8,hq⟩:=z0 k hkp
      have e1:l[k]=f:=by have:=HF.out;rw [aS9 z8] at this;exact aUy this
      rw [e1] at hq;exact q9.symm.trans hq
     go_upto_region 2 with fail;refine aA [([0,1,2,3,4,5,6,7,8,9],10),([11],12)] 99 wr.heap.size ?_;refine st_ fun K hK=>?_;go_wp2_with fail;refine r_ (rC q9 _) fun w1 x1=>?_;have y1:Ext wr w1:=aS8 (aUa (aTd _)) x1;go_wp2;refine k_ hK (st_ fun K hK=>?_);go_wp2;refine k_ hK (aC ?_);clear hK K;have X1:=hid (HX.trans y1);go_wp2;go_roundw
     case rel=>exact ⟨k+1,by omega,by go_num,X1⟩
     case measure=>simp [intOf];omega
    ·obtain rfl:k=p:=by omega
     obtain rfl:r=true:=by
      have:=x9.out f HF;exact q9.symm.trans this
     go_upto_region 2 with fail;refine aA [([0,1,2,3,4,5,6,7,8,9],10),([11],12)] 99 wr.heap.size ?_;refine st_ fun K hK=>?_;go_wp2_with fail;refine r_ (rC q9 _) fun w1 x1=>?_;have y1:Ext wr w1:=aS8 (aUa (aTd _)) x1;go_wp2;refine k_ hK (st_ fun K hK=>?_);go_wp2;refine k_ hK (aC ?_);clear hK K;have X1:=hid (HX.trans y1);go_wp2
     go_meet
     exact ⟨rfl,X1⟩
   ·obtain rfl:k=p:=by omega
    obtain rfl:k=l.length:=by omega
    have z9:decide ((l.length:Int)<(l.length:Int))=false:=decide_eq_false (by omega);have y1:Ext wr wr.drew:=aUa (aTd _);go_upto_region 2 with fail;refine aA [([0,1,2,3,4,5,6,7,8,9],10),([11],12)] 99 wr.heap.size ?_;refine st_ fun K hK=>?_;go_wp2;refine k_ hK (st_ fun K hK=>?_);go_wp2;refine k_ hK (aC ?_);clear hK K;go_wp2
    go_meet
    exact ⟨rfl,HX.trans y1⟩
 case rest=>
  obtain ⟨rfl,hx⟩:=hcut;obtain ⟨HX,h6⟩:=h2_ hx (HB.ext hx);have b:=h6.lt;obtain ⟨b0,b1,b2,b3,b4⟩:=h6.q5;have HR:=hid (HV.ext HH hx);have HC:=hid (HR.cut (sz:=5) (fun _=>rfl) q7);have zw:=hx.size;clear hx;have xa:Ext wc (wc.alloc (.cells #[] 95)):=X_;obtain ⟨HF,x8⟩:=h2_ (aD.freshC (cs:=aI.cs) (sz:=5) (show W0.heap.size<=wc.heap.size from zw) (aTc wc 95 [])) (show (l.take p).length<=100000 by rw [aTr];have:=HL.out;omega);go_upto_region 5 with (at_builtin;refine cX aI.cs 95 5 40 _ _ rfl _ _ 48 rfl underlying48 iY rfl (by decide) (by decide) (fun _=>rfl) aI.one W0.heap.size (.slice (some ⟨wc.heap.size,0,none⟩) 0 0) [] rfl HF lo hi (.slice a p cap) (l.take p) rfl (HC.ext (by have:=HH.out;omega) xa) (by have:=x8.out;simp only [aVc];omega) (by simp;omega) ?_;intro v4 w4 hown4 hg4);rw [List.nil_append] at hown4;obtain ⟨va,vc,rfl,-⟩:=aD.form hown4;have X4:Ext W0 w4:=aUd (HX.trans xa) hg4 (fun k e=>by simp only [Value.ownBlock,aS5] at e;omega);obtain ⟨x6,x5⟩:=h2_ X4 hown4;have z4:=X4.size;clear hown4 hg4 xa X4 h6 b b0 b1 b2 b3 b4 HC HF HR HX;have h6:=hid (HB.ext x6);have b:=h6.lt;obtain ⟨b0,b1,b2,b3,b4⟩:=h6.q5;have h9:=hid (aTc w4 95 [x.d,x.s,x.c,x.col,x.al]);have xb:Ext w4 (w4.alloc (.cells #[x.d,x.s,x.c,x.col,x.al] 95)):=X_
  go_upto_region 6 with (at_builtin;refine iZ _ rfl _ _ rfl W0.heap.size _ _ rfl (x5.ext xb) x w4.heap.size rfl (fun q hq=>by
       rcases (show q=0\/q=1\/q=2\/q=3\/q=4 by omega) with rfl|rfl|rfl|rfl|rfl
       ·exact h9.cell 0 rfl
       ·exact h9.cell 1 rfl
       ·exact h9.cell 2 rfl
       ·exact h9.cell 3 rfl
       ·exact h9.cell 4 rfl) (by have:=x8.out;omega) (by simp;omega) ?_;intro v5 w5 hown5 hg5)
  have h8:=aD.rowE (x5.ext xb);have X5:Ext W0 w5:=aUd (x6.trans xb) hg5 (fun k e=>(h8 k e).1);obtain ⟨vb,vd,rfl,-⟩:=aD.form hown5;obtain ⟨x7,q0⟩:=h2_ X5 hown5;have z5:=X5.size;obtain ⟨z3,x4⟩:=h2_ (HV.ext HH X5) (show ((l.take p)++[x]).length+(l.drop p).length<=10000000 by rw [aTw,aTr,aV3];have:=HL.out;simp;omega);clear hown5 hg5 xb X5 h6 b b0 b1 b2 b3 b4 h9 h8 x5 x6
  rcases z2 with ⟨e,h0⟩|⟨g,cap',e⟩
  ·simp only [aTp] at e
   obtain ⟨rfl,-,rfl⟩:=e
   obtain rfl:p=0:=by omega
   obtain rfl:l=[]:=List.length_eq_zero_iff.1 h0;have HD:=hid (show Rd aI.cs lo hi w5 (.slice none 0 0) (([]:List aI).drop 0) from Rd.nil _ _ _ _);clear z0 x9;go_wp2_with (at_builtin;refine cX aI.cs 95 5 40 _ _ rfl _ _ 48 rfl underlying48 iY rfl (by decide) (by decide) (fun _=>rfl) aI.one W0.heap.size (.slice vb (([]:List aI).take 0++[x]).length vd) (([]:List aI).take 0++[x]) rfl q0 lo hi (.slice none 0 0) (([]:List aI).drop 0) rfl HD x4 (by omega) ?_;intro v6 w6 hown6 hg6);have h3:=aD.rowE q0;have X6:Ext W0 w6:=aUd x7 hg6 (fun k e=>(h3 k e).1);rw [aT8,aZy,<-x3] at hown6;obtain ⟨q2,q3⟩:=h2_ hown6 (q1.trans X6);clear hown6 hg6 h3 X6;go_wp2;go_ret;exact ⟨v6,rfl,q2.low q1.size,q3⟩
  ·simp only [aTp,true_and] at e
   obtain ⟨rfl,rfl⟩:=e
   rcases aTz p cap with hpc|hpc
   ·have HD:=z3.drop (sz:=5) (fun _=>rfl) q7
    rw [aT1] at HD;replace HD:=hid HD;go_wp2_with (at_builtin;refine cX aI.cs 95 5 40 _ _ rfl _ _ 48 rfl underlying48 iY rfl (by decide) (by decide) (fun _=>rfl) aI.one W0.heap.size (.slice vb (l.take p++[x]).length vd) (l.take p++[x]) rfl q0 lo hi (.slice (some ⟨g,p*5,none⟩) (l.length - p) (cap - p)) (l.drop p) rfl HD x4 (by omega) ?_;intro v6 w6 hown6 hg6);have h3:=aD.rowE q0;have X6:Ext W0 w6:=aUd x7 hg6 (fun k e=>(h3 k e).1);rw [aT8,aZy,<-x3] at hown6;obtain ⟨q2,q3⟩:=h2_ hown6 (q1.trans X6);clear hown6 hg6 h3 X6;go_wp2;go_ret;exact ⟨v6,rfl,q2.low q1.size,q3⟩
   ·obtain rfl:p=cap:=by omega
    obtain rfl:p=l.length:=by omega
    have HD:=hid (show Rd aI.cs lo hi w5 (.slice (some ⟨g,0,none⟩) 0 0) (l.drop l.length) from by rw [List.drop_length];exact Rd.none0 _ _ _ _ _ _ (by omega) (fun e=>nomatch e));go_wp2_with (at_builtin;refine cX aI.cs 95 5 40 _ _ rfl _ _ 48 rfl underlying48 iY rfl (by decide) (by decide) (fun _=>rfl) aI.one W0.heap.size (.slice vb (l.take l.length++[x]).length vd) (l.take l.length++[x]) rfl q0 lo hi (.slice (some ⟨g,0,none⟩) 0 0) (l.drop l.length) rfl HD x4 (by omega) ?_;intro v6 w6 hown6 hg6);have h3:=aD.rowE q0;have X6:Ext W0 w6:=aUd x7 hg6 (fun k e=>(h3 k e).1);rw [aT8,aZy,<-x3] at hown6;obtain ⟨q2,q3⟩:=h2_ hown6 (q1.trans X6);clear hown6 hg6 h3 X6;go_wp2;go_ret;exact ⟨v6,rfl,q2.low q1.size,q3⟩
theorem aAh.forms {s:Scn} (r:aAh s h w cv av):∃xa xc ya yc,cv = .slice xa s.m xc/\av = .slice ya s.m yc:=by
 obtain ⟨hh,⟨us,h1,h2,h3⟩,us2,k1,k2,k3⟩:=r;obtain ⟨ad,cc,rfl,-,-,-⟩:=h2.form;obtain ⟨h0,ca,rfl,-,-,-⟩:=k2.form;exact ⟨ad,cc,h0,ca,by rw [h1],by rw [k1]⟩
theorem aGh (s:Scn) (lo hi h0:Nat) (v cv av:Value) (p:Smp) (w:World) (hv:s.R lo hi w v) (hh:hi<=w.heap.size) (ho:s.Ok) (hp:p.okB s.c=true) (hd:aAh s h0 w cv av) :
  Calls aS7 64 #[v,.agg #[cv,av],.agg #[p.x,p.y,p.t,p.lx,p.ly]] w fun e w'=>∃r,e = .returned r/\aD aI.cs w.heap.size 95 5 w' r (s.seen p)/\Ext w w':=by
 obtain ⟨HV,HD⟩:=h2_ hv hd;have a5:=ho.m;obtain ⟨a1,c1,a2,c2,a3,c3,rfl⟩:=hv.formV;obtain ⟨xa,xc,ya,yc,rfl,rfl⟩:=hd.forms;obtain ⟨HO,HP⟩:=h2_ ho hp;clear hv ho hp hd;have x0:Ext w (((w.alloc (.cells (sA_ s a1 c1 a2 c2 a3 c3) 40)).alloc (.cells #[.slice xa s.m xc,.slice ya s.m yc] 78)).alloc (.cells #[p.x,p.y,p.t,p.lx,p.ly] 42)):=X_;have bS:=(aTc w 40 (sL_ s a1 c1 a2 c2 a3 c3)).ext (show Ext _ (((w.alloc (.cells (sA_ s a1 c1 a2 c2 a3 c3) 40)).alloc (.cells #[.slice xa s.m xc,.slice ya s.m yc] 78)).alloc (.cells #[p.x,p.y,p.t,p.lx,p.ly] 42)) from X_);have bD:=(aTc (w.alloc (.cells (sA_ s a1 c1 a2 c2 a3 c3) 40)) 78 [.slice xa s.m xc,.slice ya s.m yc]).ext (show Ext _ (((w.alloc (.cells (sA_ s a1 c1 a2 c2 a3 c3) 40)).alloc (.cells #[.slice xa s.m xc,.slice ya s.m yc] 78)).alloc (.cells #[p.x,p.y,p.t,p.lx,p.ly] 42)) from X_);have bP:=(aTc ((w.alloc (.cells (sA_ s a1 c1 a2 c2 a3 c3) 40)).alloc (.cells #[.slice xa s.m xc,.slice ya s.m yc] 78)) 42 [p.x,p.y,p.t,p.lx,p.ly]).ext (show Ext _ (((w.alloc (.cells (sA_ s a1 c1 a2 c2 a3 c3) 40)).alloc (.cells #[.slice xa s.m xc,.slice ya s.m yc] 78)).alloc (.cells #[p.x,p.y,p.t,p.lx,p.ly] 42)) from X_)
 try simp only [aS4] at bS bD bP
 obtain ⟨W0,h9⟩:=e_ (((w.alloc (.cells (sA_ s a1 c1 a2 c2 a3 c3) 40)).alloc (.cells #[.slice xa s.m xc,.slice ya s.m yc] 78)).alloc (.cells #[p.x,p.y,p.t,p.lx,p.ly] 42))
 rw [h9] at x0 bS bD bP;obtain ⟨q3,x7⟩:=h2_ x0 h9;have z0:=bP.lt;obtain ⟨h8,q7,x4⟩:=h3_ bS bD bP;clear x0 h9 bS bD bP;have o1:aD aI.cs W0.heap.size 95 5 (W0.alloc (.cells #[] 95)) (.slice (some ⟨W0.heap.size,0,none⟩) 0 0) []:=aD.fresh0 (aS3 _) (aTc W0 95 []);have h5:=hid o1;have x1:Ext W0 (W0.alloc (.cells #[] 95)):=X_;have h6:=hid x1;clear o1 x1;go_enter func64,ntmps64;go_upto_region 1 with fail;rw [x7];have x8:=h8.cell 10 rfl;have ls:=h8.lt;go_wp2_with fail;clear x8 ls
 go_loopw [7,15] (fun u i wr=>∃k:Nat,k<=s.m/\i = .int .i64 (k:Nat)/\aD aI.cs W0.heap.size 95 5 wr u (s.seenTo p k)/\Ext W0 wr) (fun _ i _=>s.m - (intOf i).toNat)
 case atStart=>exact ⟨0,by omega,rfl,h5,h6⟩
 case round=>
  clear h5 h6
  obtain ⟨WA,rfl⟩:=i_ wr
  obtain ⟨k,hk,rfl,h2,hx⟩:=hrel;obtain ⟨HX,HR⟩:=h2_ hx h2;have zr:=hx.size
  rcases aTz k s.m with hlt|hge
  ·have XW:=hid (q3.trans hx)
   have bq:=h8.ext HX;obtain ⟨z9,y0,y1,y2,y4,y5,y6,y7,y8,y9,q0,q1⟩:=bq.q12;have sl:=bq.lt;clear bq;have bq:=q7.ext HX;obtain ⟨x9,z1⟩:=bq.q2;have dl:=bq.lt;clear bq;have bq:=x4.ext HX;obtain ⟨z4,z5,z6,z7,z8⟩:=bq.q5;have pl:=bq.lt;clear bq;have z3:=HO.seenTo_le p (aVy hlt)
   obtain ⟨F0,hF⟩:=e_ (s.seenTo p k)
   rw [hF] at z3 h2;obtain ⟨HF,x5⟩:=h2_ hF h2;obtain ⟨oa,oc,rfl,-⟩:=aD.form h2;clear hx h2 hF HR;go_wp2_with fail;have CH:=aBn s lo hi h0 _ _ _ k p WA (HV.ext hh XW) (aTb hh XW.size) HO hlt HP (HD.ext XW);refine CH.mono ?_;clear CH;rintro e w2 ⟨r,rfl,hr,x2⟩
   obtain ⟨L,hL⟩:=e_ (s.hits k p)
   rw [hL] at hr;have HL:=hid hL;have q4:L.length<=128:=hL▸HO.out.hits_le p hlt;obtain ⟨ra,rc,rfl,-⟩:=hr.form;obtain ⟨X2,h7⟩:=h2_ x2 hr;have zy:=x2.size;clear x2 hr hL;clear sl z9 y0 y1 y2 y4 y5 y6 y7 y8 y9 q0 q1 dl x9 z1 pl z4 z5 z6 z7 z8;go_wp2
   go_loopw [7,24] (fun u j wr=>∃jn:Nat,jn<=L.length/\j = .int .i64 (jn:Nat)/\aD aI.cs W0.heap.size 95 5 wr u (cZ F0 (L.take jn))/\Ext w2 wr) (fun _ j _=>L.length - (intOf j).toNat)
   case atStart=>exact ⟨0,by omega,rfl,x5.ext X2,aTd _⟩
   case round=>
    obtain ⟨jn,hj,rfl,h3,h4⟩:=hrel;obtain ⟨h5,h6⟩:=h2_ h3 h4;have zq:=h4.size;obtain ⟨ia,ic,rfl,-⟩:=aD.form h3
    rcases aTz jn L.length with hjl|hjl
    ·obtain ⟨f,hf⟩:∃f,L[jn]?=some f:=⟨_,aS9 hjl⟩
     obtain ⟨g,a6,he,-,a4,z2,a0,-,h1⟩:=aD.at (h7.ext h4) (fun _=>rfl) hf;simp only [aTp,true_and] at he;obtain ⟨rfl,rfl⟩:=he;have d0:=h1 0 (by decide);have d1:=h1 1 (by decide);have d2:=h1 2 (by decide);have d3:=h1 3 (by decide);have d4:=h1 4 (by decide);simp only [aI.cs,aT7,aS0,aS1] at d0 d1 d2 d3 d4;have x6:=hid (vQ (l:=F0) hf)
     have q6:(cZ F0 (L.take jn)).length<=100000:=by
      rw [jD,aTr];omega
     have q8:=hid q6
     obtain ⟨I0,hI⟩:=e_ (cZ F0 (L.take jn))
     rw [hI] at h3;obtain ⟨HI,q9⟩:=h2_ hI h3;clear h1 hf h4 h3 q6 h5;rw [hI];clear hI;go_wp2_with fail;refine (vV _ _ _ f _ (q9.ext (show Ext _ (wr.alloc (.cells #[f.d,f.s,f.c,f.col,f.al] 95)) from X_)) (HI.out▸q8.out)).mono ?_;rintro e w3 ⟨v3,rfl,o3,x3⟩;have y3:Ext wr w3:=aS8 (show Ext wr (wr.alloc (.cells #[f.d,f.s,f.c,f.col,f.al] 95)) from X_) x3;obtain ⟨P1,P2⟩:=h2_ (o3.low (lo':=W0.heap.size) (by rw [aS4];omega)) (h6.trans y3);clear o3 x3 y3;go_wp2;go_roundw
     case rel=>exact ⟨jn+1,by omega,by go_num,by rw [x6,HI];exact P1,P2⟩
     case measure=>simp [intOf];omega
    ·obtain rfl:jn=L.length:=by omega
     have P1:=hid (show aD aI.cs W0.heap.size 95 5 wr (.slice ia (cZ F0 (L.take L.length)).length ic) (s.seenTo p (k+1)) by
      rw [Scn.seenTo_succ,HF,HL];have:=h5.out;rw [aT0] at this ⊢
      exact this)
     have P2:=hid (HX.trans (X2.trans h4));clear h3 h4;go_wp2;go_roundw
     case rel=>exact ⟨k+1,by omega,by go_num,P1,P2⟩
     case measure=>simp [intOf];omega
  ·obtain rfl:k=s.m:=by omega
   obtain ⟨X2,h7⟩:=h2_ (q3.trans hx) (HR.low (show w.heap.size<=W0.heap.size by omega));obtain ⟨oa,oc,rfl,-⟩:=aD.form h2;clear hx h2 HX;go_wp2;go_ret;exact ⟨_,rfl,h7,X2⟩
theorem aLr (lo hi:Nat) (v:Value) (xs:List Int) (w:World) (hv:aS lo hi w v xs) (hb:∀x∈xs,0<=x/\x<=256) (hn:xs.length<=1000) :
  Z_ 51 #[v] w (.int .i64 (zS xs)):=by
 obtain ⟨a,cap,rfl,hx⟩:=hv.open;obtain ⟨HX,HB⟩:=h2_ hx hb;clear hv hx hb;go_enter func51,ntmps51;go_wp2
 go_loopw [3,8] (fun t i wr=>∃k:Nat,k<=xs.length/\i = .int .i64 (k:Nat)/\t = .int .i64 (nE (xs.take k))/\w=wr) (fun _ i _=>xs.length - (intOf i).toNat)
 case atStart=>exact ⟨0,by omega,rfl,rfl,rfl⟩
 case round=>
  obtain ⟨k,hk,rfl,rfl,rfl⟩:=hrel;have h0:=aD3 (xs:=xs.take k) (m:=256) fun x hx=>HB x (bAf hx);rw [aTr,aVh hk] at h0
  obtain ⟨t,ht⟩:=e_ (nE (xs.take k))
  rw [ht] at h0;rw [ht];have HT:=hid ht;clear ht
  rcases aTz k xs.length with hlt|hge
  ·obtain ⟨b,h4,rfl,-,-,hc⟩:=HX.at hlt
   have h2:=HB.out _ (List.getElem_mem hlt)
   obtain ⟨y,hy⟩:=e_ (xs[k])
   rw [hy] at hc h2
   have hs:nE (xs.take (k+1))=t+y:=by
    rw [aTv hlt,vR,HT,hy];simp [nE]
   have HS:=hid hs;have h1:=HX.cap;have h3:=HX.le;clear hy hs;go_wp2;go_roundw
   case rel=>exact ⟨k+1,by omega,by go_num,by rw [HS],by trivial⟩
   case measure=>simp [intOf];omega
  ·obtain rfl:k=xs.length:=by omega
   have hm:bU t (xs.length:Nat)=zS xs:=by
    unfold zS;rw [<-HT,aT0]
   have HM:=hid hm;clear hm;go_wp2_with fail;refine z_ (cN (by unfold I64;omega) HM _) ?_;go_wp2;go_ret;exact ⟨rfl,rfl⟩
theorem aGi (c:Cam) (i j:Int) (hi:0<=i/\i<c.w) (hj:0<=j/\j<c.h) (hw:c.w<=100000) (hh:c.h<=100000) (w:World) :
  R_ 50 #[.agg c,i,j] w (.bool true):=by
 have h1:inB i 0 (c.w - 1)=true:=by rw [aG];omega
 have h2:inB j 0 (c.h - 1)=true:=by rw [aG];omega
 obtain ⟨H1,H2⟩:=h2_ h1 h2;clear h1 h2;go_enter func50,ntmps50;go_wp2_with (go_at_call 92;with_reducible first|(refine z_ (aH H1.out _) ?_)|(refine z_ (aH H2.out _) ?_));go_ret;exact ⟨rfl,X_⟩
theorem aAi (lo hi:Nat) (u:Value) (xs:List Int) (n:Int) (w:World) (hu:aS lo hi w u xs) (hn:1<=n/\n<=1000000) {r:Int} (hr:cF xs % n=r) :
  Z_ 121 #[u,n] w (.int .i64 r):=by
 have HU:=hid hu;obtain ⟨a,cap,rfl,-⟩:=hu.open;have hb:=gY xs
 obtain ⟨h,hh⟩:=e_ (cF xs)
 rw [hh] at hb hr;obtain ⟨HH,h0⟩:=h2_ hh hr;clear hu hr hh;go_enter func121,ntmps121;go_wp2_with fail;refine (sF lo hi _ xs _ HU).mono ?_;rw [HH];rintro e w1 ⟨rfl,rfl⟩;go_wp2;go_ret;exact ⟨cQ h0,rfl⟩
theorem jK (i j:Int) (k:Nat) (q n:Int) (hl:∀y∈[i,j,((k:Nat):Int),q],I64 y) (hn:1<=n/\n<=1000000) {r:Int} (hr:cF [i,j,((k:Nat):Int),q] % n=r) (I J K:Nat) (w:World)
  (c1:w.cell? ⟨I,0,none⟩=some (.int .i64 i)) (c2:w.cell? ⟨J,0,none⟩=some (.int .i64 j)) (c3:w.cell? ⟨K,0,none⟩=some (.int .i64 (k:Nat))) :
  R_ 120 #[q,n,.pointer (some ⟨I,0,none⟩),.pointer (some ⟨J,0,none⟩),.pointer (some ⟨K,0,none⟩)] w (.int .i64 r):=by
 obtain ⟨HR,HL⟩:=h2_ hr hl;have b0:=aTc w 3 [i,j,(k:Nat),q];have HB:=hid b0;clear hr hl b0;go_enter func120,ntmps120;go_wp2_with fail;refine z_ (aAi 0 _ _ [i,j,(k:Nat),q] n _ (aCh HB HL) hn HR) ?_;go_wp2;go_ret;exact ⟨rfl,X_⟩
theorem aNq {side q r:Nat} (hq:k % side=q) (hr:k / side=r) {s p1 p2 p3 p4 p5 e1 e2:Int} (hs:((16 / side:Nat):Int)=s) (h1:cF [i,j,((k:Nat):Int),1] % s=p1) (h2:cF [i,j,((k:Nat):Int),2] % s=p2)
  (h3:cF [i,j,((k:Nat):Int),3] % 16=p3) (h4:cF [i,j,((k:Nat):Int),4] % 33=p4) (h5:cF [i,j,((k:Nat):Int),5] % 33=p5) (he1:(q:Int)*s=e1) (he2:(r:Int)*s=e2) :
  kZ i j side k=⟨i*16+e1+p1,j*16+e2+p2,p3,p4 - 16,p5 - 16⟩:=by
 subst he1 he2;unfold kZ;rw [hq,hr,hs,h1,h2,h3,h4,h5]
theorem aEf {side:Nat} (hs:side=1\/side=2\/side=4) (hk:k<side*side):k % side<side/\k / side<side/\k<=15/\side*(16 / side)=16/\4<=16 / side/\16 / side<=16/\side<=4/\1<=side:=by
 have h1:k % side<side:=aVp _ (by omega);have h2:k / side<side:=Nat.div_lt_of_lt_mul hk
 rcases hs with rfl|rfl|rfl <;> simp at hk h1 h2 ⊢ <;> omega
theorem tT (i j:Int) (hi:0<=i/\i<=11) (hj:0<=j/\j<=11) (side:Nat) (hs:side=1\/side=2\/side=4) (w:World) :
  Calls aS7 70 #[i,j,(side:Nat)] w fun e w'=>∃r,e = .returned r/\aD Smp.cs w.heap.size 42 5 w' r (tH i j side)/\Ext w w':=by
 have z8:∀(fn:Fn) (first cap:Array Value) (w:World),(Instr.makeFunc fn first cap).run aS7 w = .ok (.func fn first cap) w:=fun _ _ _ _=>rfl;have z2:=hid hs
 have x8:1<=side/\side<=4:=by omega
 have z9:((side:Nat):Int)≠0:=by omega
 obtain ⟨N,hN⟩:=e_ (side*side)
 have z6:((side:Nat):Int)*((side:Nat):Int)=((N:Nat):Int):=by rw [<-hN];simp
 have z5:N<=16:=by rw [<-hN];exact aT5 x8.2 x8.2
 obtain ⟨st,h7⟩:=e_ ((16 / side:Nat):Int)
 have t0:aZf 16 ((side:Nat):Int)=st:=by rw [<-h7,aUp (by omega)];rfl
 have z7:4<=st/\st<=16:=by rw [<-h7];rcases hs with rfl|rfl|rfl <;> decide
 obtain ⟨z4,HN⟩:=h2_ h7 hN;have bI:=(aTc w 3 [i]).ext (show Ext _ (((w.alloc (.cells #[i] 3)).alloc (.cells #[j] 3)).alloc (.cells #[] 42)) from X_);have bJ:=(aTc (w.alloc (.cells #[i] 3)) 3 [j]).ext (show Ext _ (((w.alloc (.cells #[i] 3)).alloc (.cells #[j] 3)).alloc (.cells #[] 42)) from X_);have bL:=aTc ((w.alloc (.cells #[i] 3)).alloc (.cells #[j] 3)) 42 [];rw [aS4] at bJ;rw [aS4,aS4] at bL;obtain ⟨HI,HJ,HL⟩:=h3_ bI bJ bL;clear hs h7 hN bI bJ bL;go_enter func70,ntmps70;go_wp2
 go_loopw [8,17] (fun v x wr=>∃(k:Nat) (xs:List Smp),k<=N/\x = .int .i64 (k:Nat)/\xs=(aTt k).map (kZ i j side)/\aD Smp.cs (w.heap.size+1+1) 42 5 wr v xs/\Blk wr w.heap.size 3 [i]/\Blk wr (w.heap.size+1) 3 [j]/\Ext w wr) (fun _ x _=>N - (intOf x).toNat)
 case atStart=>exact ⟨0,[],by omega,rfl,rfl,aD.freshS (aS3 _) HL,HI,HJ,X_⟩
 case round=>
  clear HI HJ HL;obtain ⟨k,xs,hk,rfl,h8,ho,bI,bJ,hx⟩:=hrel;obtain ⟨q8,HO,HI,HJ,HX⟩:=h5_ h8 ho bI bJ hx;obtain ⟨xa,xc,rfl,-⟩:=aD.form ho
  have h0:xs.length=k:=by rw [h8,aT9,aV6]
  have zz:=HJ.lt
  rcases aTz k N with hlt|hge
  ·obtain ⟨m1,m2,m3,m4,m5,m6,m7,m8⟩:=aEf z2 (show k<side*side by rw [HN];exact hlt)
   have t1:Int.tmod (k:Int) ((side:Nat):Int)=((k % side:Nat):Int):=by rw [aVj (by omega)];rfl
   have t2:aZf (k:Int) ((side:Nat):Int)=((k / side:Nat):Int):=by rw [aUp (by omega)];rfl
   obtain ⟨q,hq⟩:=e_ (k % side)
   obtain ⟨r,hr⟩:=e_ (k / side)
   obtain ⟨e1,x0⟩:=e_ ((q:Int)*st)
   obtain ⟨e2,x6⟩:=e_ ((r:Int)*st)
   rw [hq] at t1 m1;rw [hr] at t2 m2
   have q1:0<=e1/\e1<=64:=by
    rw [<-x0];have:=bK (a:=(q:Int)) (b:=st) (A:=4) (B:=16) (by omega) (by omega);exact ⟨aUm (by omega) (by omega),by omega⟩
   have q2:0<=e2/\e2<=64:=by
    rw [<-x6];have:=bK (a:=(r:Int)) (b:=st) (A:=4) (B:=16) (by omega) (by omega);exact ⟨aUm (by omega) (by omega),by omega⟩
   obtain ⟨p1,h5⟩:=e_ (cF [i,j,((k:Nat):Int),1] % st)
   obtain ⟨p2,h6⟩:=e_ (cF [i,j,((k:Nat):Int),2] % st)
   obtain ⟨p3,q3⟩:=e_ (cF [i,j,((k:Nat):Int),3] % 16)
   obtain ⟨p4,q4⟩:=e_ (cF [i,j,((k:Nat):Int),4] % 33)
   obtain ⟨p5,q5⟩:=e_ (cF [i,j,((k:Nat):Int),5] % 33)
   have b1:0<=p1/\p1<=15:=by rw [<-h5];exact ⟨aXg _ (by omega),by have:=aWs (cF [i,j,((k:Nat):Int),1]) (show 0<st by omega);omega⟩
   have b2:0<=p2/\p2<=15:=by rw [<-h6];exact ⟨aXg _ (by omega),by have:=aWs (cF [i,j,((k:Nat):Int),2]) (show 0<st by omega);omega⟩
   have b3:0<=p3/\p3<=15:=by omega
   have b4:0<=p4/\p4<=32:=by omega
   have b5:0<=p5/\p5<=32:=by omega
   obtain ⟨P1,P2,P3,P4,P5,z3⟩:=h6_ h5 h6 q3 q4 q5 (aNq hq hr z4 h5 h6 q3 q4 q5 x0 x6)
   have h3:=hid (show ∀c:Int,(0<=c/\c<=10)->∀y∈[i,j,((k:Nat):Int),c],I64 y from fun c hc y hy=>by
    simp only [aTo,aTj,or_false] at hy
    rcases hy with rfl|rfl|rfl|rfl <;> exact ⟨by omega,by omega⟩)
   obtain ⟨h9,q7⟩:=h2_ h0 (aTc wr 3 [(k:Nat)]);rw [h0];have z0:Hid (aD Smp.cs (w.heap.size+1+1) 42 5 wr (.slice xa k xc) xs):=hid (h0▸ho);have y0:w.heap.size+1<wr.heap.size:=zz;clear h5 h6 q3 q4 q5 h8 ho bI bJ hx h0 hq hr m3 m4 m5 m6 HO;go_wp2_with fail
   obtain ⟨WB,q9⟩:=e_ (wr.alloc (.cells #[(k:Nat)] 3))
   have xB:Ext wr (wr.alloc (.cells #[(k:Nat)] 3)):=X_;have kB:=q7.out;rw [q9] at xB kB ⊢;obtain ⟨XB,KB⟩:=h2_ xB kB;have zB:=kB.lt;have CL:=hid (fun (W':World) (x:Ext WB W')=>(⟨((HI.ext xB).ext x).cell 0 rfl,((HJ.ext xB).ext x).cell 0 rfl,(kB.ext x).cell 0 rfl⟩:_/\_/\_));have iI:=(HI.ext xB).cell 0 rfl;have iJ:=(HJ.ext xB).cell 0 rfl;have iK:=kB.cell 0 rfl;clear q9 xB kB q7;refine aJ [([0,1,2,3,4,5,6,7,8,9,10,13,14,15,16,17,18,19,20,21,22,25,27,30],11),([12],23),([24],26),([],28),([29],31),([32,33],34),([],35),([],36)] 36 (fun w'=>∃d,w'=gA (C3f w.heap.size (w.heap.size+1) wr.heap.size) _ d) (SC.drew _ _) ?_;refine sc_ fun K hK=>?_;go_wp2_with fail;obtain ⟨a1,a2,a3⟩:=CL _ (aUa (aTd WB));refine r_ (jK i j k 1 st (h3 1 (by decide)) ⟨by omega,by omega⟩ P1 w.heap.size (w.heap.size+1) wr.heap.size _ a1 a2 a3) fun w1 x1=>?_;have Y1:=hid (aS8 (w:=WB) (aUa (aTd WB)) x1);clear x1 a1 a2 a3;go_wp2;refine hK _ _ (.inr (SC.blocks fun a ha=>Y1.block (by rcases ha with ha|ha|ha <;> rw [ha] <;> omega))) ?_;clear hK K;clear iI iJ iK;refine sc_ fun K hK=>?_;go_wp2_with fail;obtain ⟨a1,a2,a3⟩:=CL _ Y1;refine r_ (jK i j k 2 st (h3 2 (by decide)) ⟨by omega,by omega⟩ P2 w.heap.size (w.heap.size+1) wr.heap.size _ a1 a2 a3) fun w2 x2=>?_;have Y2:=hid (aS8 (w:=WB) Y1 x2);clear x2 a1 a2 a3;go_wp2;refine hK _ _ (.inr (SC.blocks fun a ha=>Y2.block (by rcases ha with ha|ha|ha <;> rw [ha] <;> omega))) ?_;clear hK K;refine sc_ fun K hK=>?_;go_wp2_with fail;obtain ⟨a1,a2,a3⟩:=CL _ Y2;refine r_ (jK i j k 3 16 (h3 3 (by decide)) ⟨by omega,by omega⟩ P3 w.heap.size (w.heap.size+1) wr.heap.size _ a1 a2 a3) fun w3 x3=>?_;have Y3:=hid (aS8 (w:=WB) Y2 x3);clear x3 a1 a2 a3;go_wp2;refine hK _ _ (.inr (SC.blocks fun a ha=>Y3.block (by rcases ha with ha|ha|ha <;> rw [ha] <;> omega))) ?_;clear hK K;refine sc_ fun K hK=>?_;go_wp2_with fail;obtain ⟨a1,a2,a3⟩:=CL _ Y3;refine r_ (jK i j k 4 33 (h3 4 (by decide)) ⟨by omega,by omega⟩ P4 w.heap.size (w.heap.size+1) wr.heap.size _ a1 a2 a3) fun w4 x4=>?_;have Y4:=hid (aS8 (w:=WB) Y3 x4);clear x4 a1 a2 a3;go_wp2;refine hK _ _ (.inr (SC.blocks fun a ha=>Y4.block (by rcases ha with ha|ha|ha <;> rw [ha] <;> omega))) ?_;clear hK K;refine sc_ fun K hK=>?_;go_wp2_with fail;obtain ⟨a1,a2,a3⟩:=CL _ Y4;refine r_ (jK i j k 5 33 (h3 5 (by decide)) ⟨by omega,by omega⟩ P5 w.heap.size (w.heap.size+1) wr.heap.size _ a1 a2 a3) fun w5 x5=>?_;have Y5:=hid (aS8 (w:=WB) Y4 x5);clear x5 a1 a2 a3;go_wp2;refine hK _ _ (.inr (SC.blocks fun a ha=>Y5.block (by rcases ha with ha|ha|ha <;> rw [ha] <;> omega))) ?_;clear hK K;refine sc_ fun K hK=>?_;go_wp2_with fail;have bE:=aTc w5 42 [.int .i64 (i*16+e1+p1),.int .i64 (j*16+e2+p2),p3,.int .i64 (p4 - 16),.int .i64 (p5 - 16)];have HE:=hid bE;have xE:Ext WB (w5.alloc (.cells #[.int .i64 (i*16+e1+p1),.int .i64 (j*16+e2+p2),p3,.int .i64 (p4 - 16),.int .i64 (p5 - 16)] 42)):=aS8 Y5 X_;have XE:=hid xE;clear bE xE;go_wp2;refine hK _ _ (.inr (SC.blocks fun a ha=>XE.block (by rcases ha with ha|ha|ha <;> rw [ha] <;> omega))) ?_;clear hK K
   have x7:w.heap.size+1+1<=(w5.alloc (.cells #[.int .i64 (i*16+e1+p1),.int .i64 (j*16+e2+p2),p3,.int .i64 (p4 - 16),.int .i64 (p5 - 16)] 42)).heap.size:=by
    have:=XE.size;omega
   obtain ⟨x9,O6⟩:=h2_ x7 (z0.ext (XB.trans XE));clear x7;refine sc_ fun K hK=>?_
   refine cA Smp.cs 42 5 40 _ _ rfl _ _ 103 rfl underlying103 aCi rfl (by decide) (by decide) (fun _=>rfl) (w.heap.size+1+1) (.slice xa k xc) xs (by rfl) O6 ⟨i*16+e1+p1,j*16+e2+p2,p3,p4 - 16,p5 - 16⟩ w5.heap.size (by rfl) (fun jj hj=>by
    rcases (show jj=0\/jj=1\/jj=2\/jj=3\/jj=4 by omega) with rfl|rfl|rfl|rfl|rfl
    ·exact HE.cell 0 rfl
    ·exact HE.cell 1 rfl
    ·exact HE.cell 2 rfl
    ·exact HE.cell 3 rfl
    ·exact HE.cell 4 rfl) (Smp.one _) (by rw [h9];omega) x9 ?_
   intro v8 w8 h1 hg;have kI:=(HI.ext (XB.trans XE)).grown hg (fun e=>by have:=aD.lt O6 _ e.symm;omega);have kJ:=(HJ.ext (XB.trans XE)).grown hg (fun e=>by have:=aD.lt O6 _ e.symm;omega);have h4:=aD.rowF O6
   have kK:=(KB.ext XE).grown hg (fun e=>by
    obtain ⟨_,c,hc⟩:=h4 _ e.symm
    exact (KB.ext XE).noCells (by decide) c hc)
   obtain ⟨X8,KI,KJ⟩:=h3_ (aUd (HX.trans (XB.trans XE)) hg (fun b hb=>by have:=(aD.lt O6 b hb).1;omega)) kI kJ
   have SK:Hid (∀a,C3f w.heap.size (w.heap.size+1) wr.heap.size a->w8.heap[a.block]?=WB.heap[a.block]?):=hid (fun a ha=>by
    have e1:=HI.ext XB;have e2:=HJ.ext XB;have e3:=KB.out;unfold Blk at kI kJ kK e1 e2 e3
    rcases ha with ha|ha|ha <;> rw [ha]
    ·rw [kI,e1]
    ·rw [kJ,e2]
    ·rw [kK,e3])
   obtain ⟨q6,h2⟩:=e_ (xs++[(⟨i*16+e1+p1,j*16+e2+p2,p3,p4 - 16,p5 - 16⟩:Smp)])
   rw [h2] at h1;obtain ⟨q0,z1⟩:=h2_ h2 h1;obtain ⟨va,vc,rfl,-⟩:=aD.form h1;clear h1 hg h2 kI kJ kK h4;go_wp2;refine hK _ _ (.inr (SC.blocks fun a ha=>SK a ha)) ?_;clear hK K;refine sc_ fun K hK=>?_;go_wp2;refine l_ hK (aP ?_);clear hK K;go_wp2;go_roundw
   case rel=>
    refine ⟨k+1,q6,by omega,by go_num,?_,z1,KI,KJ,X8⟩;rw [<-q0,<-z3,q8];exact (nX _ _).symm
   case measure=>simp [intOf];omega
  ·obtain rfl:k=N:=by omega
   have HF:=hid (show xs=tH i j side by rw [q8,<-HN];rfl);clear h8 h0;go_wp2;go_ret;refine ⟨_,rfl,?_,HX⟩;rw [<-HF];exact aD.low HO (by omega)
theorem qE:(Tryz.prog.info? 183).map (fun i=>(i.zero,i.size,i.bytes))=some (some (.agg #[(),()]),2,16):=by kernel_rfl
theorem Stp.one (x:Stp):∀u∈x.cs,u.oneCell'=true:=by
 intro u hu;simp only [aVw,aTo,aTj,or_false] at hu
 rcases hu with rfl|rfl <;> rfl
theorem kW {l:List Stp} (h:aD aVw lo 183 2 w v l) {r:Int} (hr:lQ l=r) :
  Z_ 227 #[v] w (.int .i64 r):=by
 obtain ⟨a,cap,rfl,-⟩:=h.form
 rcases aY8 l.length with h0|hp
 ·have hn:l=[]:=aV5 h0
  subst hn
  have e1:r=65536:=by rw [<-hr];rfl
  subst e1;clear h hr h0;go_enter func227,ntmps227;go_wp2;go_ret;exact ⟨rfl,rfl⟩
 ·obtain ⟨n,hn⟩:∃n,l.length=n+1:=⟨l.length - 1,by omega⟩
  obtain ⟨x,hx⟩:∃x,l[n]?=some x:=⟨_,aS9 (by omega)⟩
  have e1:r=x.w:=by
   rw [<-hr];unfold lQ;rw [List.getLast?_eq_getElem?,hn,Nat.add_sub_cancel,hx]
  subst e1;obtain ⟨g,h3,he,-,h5,h2,h4,-,h1⟩:=aD.at h (fun _=>rfl) hx;simp only [aTp,true_and] at he;obtain ⟨rfl,rfl⟩:=he;have d1:=h1 1 (by decide);simp only [aVw,aS0,aS1] at d1
  have e2:((n+1:Nat):Int) - 1=(n:Nat):=by omega
  rw [hn];rw [hn] at h2;clear h hr hx hp hn h1;go_enter func227,ntmps227;go_wp2;go_ret;exact ⟨rfl,rfl⟩
theorem aAj {l:List Stp} (h:aD aVw lo 183 2 w v l) (d wt:Int) (hlo:lo<=w.heap.size) (hl:l.length<=64) :
  Calls aS7 177 #[v,d,wt] w fun e w'=>∃v',e = .returned v'/\aD aVw lo 183 2 w' v' (fD l d wt)/\∀W,Ext W w->W.heap.size<=lo->Ext W w':=by
 have HO:=hid h;obtain ⟨a,cap,rfl,-⟩:=h.form
 obtain ⟨r,hr⟩:=e_ (lQ l)
 have HR:=hid hr
 by_cases h1:wt<r
 ·by_cases h2:l.length<64
  ·have e1:fD l d wt=l++[⟨d,wt⟩]:=by
    unfold fD;rw [if_pos ⟨by rw [hr];exact h1,h2⟩]
   rw [e1];have hB:=aTc w 183 [d,wt];have HB:=hid hB
   have h0:l.length<1000000:=by omega
   have HL:=hid h0;clear h hr e1 hB h0;go_enter func177,ntmps177;go_wp2_with fail;refine z_ (kW HO HR) ?_
   go_wp2_with (at_builtin;refine cA aVw 183 2 16 _ _ rfl _ _ 101 rfl underlying101 qE rfl (by decide) (by decide) (fun _=>rfl) lo (.slice a l.length cap) l rfl (HO.ext X_) ⟨d,wt⟩ w.heap.size rfl (fun jj hj=>by
     rcases (show jj=0\/jj=1 by omega) with rfl|rfl
     ·exact HB.cell 0 rfl
     ·exact HB.cell 1 rfl) (Stp.one _) HL (by rw [aS4];omega) ?_;intro v2 w2 hown hg)
   go_ret;exact ⟨_,rfl,hown,fun W hx hW=>aUd (hx.trans X_) hg (fun k hk=>aTb hW (aD.lt HO k hk).1)⟩
  ·have e1:fD l d wt=l:=by
    unfold fD;rw [if_neg (fun hh=>h2 hh.2)]
   rw [e1];clear h hr e1;go_enter func177,ntmps177;go_wp2_with (go_at_call 227;refine z_ (kW HO HR) ?_);go_ret;exact ⟨_,rfl,HO,fun W hx hW=>hx⟩
 ·have e1:fD l d wt=l:=by
   unfold fD;rw [if_neg (fun hh=>h1 (by rw [<-hr];exact hh.1))]
  rw [e1];clear h hr e1;go_enter func177,ntmps177;go_wp2_with (go_at_call 227;refine z_ (kW HO HR) ?_);go_ret;exact ⟨_,rfl,HO,fun W hx hW=>hx⟩
theorem aGj {fs:List aI} {f:aI} (h:fs[k]?=some f) (hn:fs[k+1]?=none):aW fs (k+1)=(fD (aW fs k).1 f.d (dN (aW fs k).2 f.al),dN (aW fs k).2 f.al):=by
 show (match fs[k]? with|none=>aW fs k|some f=>_)=_
 rw [h];simp only [hn,if_true]
theorem aGk {fs:List aI} {f g:aI} (h:fs[k]?=some f) (hn:fs[k+1]?=some g) (hl:f.d<g.d):aW fs (k+1)=(fD (aW fs k).1 f.d (dN (aW fs k).2 f.al),dN (aW fs k).2 f.al):=by
 show (match fs[k]? with|none=>aW fs k|some f=>_)=_
 rw [h];simp only [hn,hl,decide_true,if_true]
theorem aGl {fs:List aI} {f g:aI} (h:fs[k]?=some f) (hn:fs[k+1]?=some g) (hl : ¬f.d<g.d):aW fs (k+1)=((aW fs k).1,dN (aW fs k).2 f.al):=by
 show (match fs[k]? with|none=>aW fs k|some f=>_)=_
 rw [h];simp only [hn,hl,decide_false,Bool.false_eq_true,if_false]
theorem Stp.sm {fs:List aI} (hs:jN fs) (hr:∀f∈fs,-1000000<=f.d/\f.d<=1000000) (hk:k<=fs.length):(aW fs k).1.length<=64/\0<=(aW fs k).2/\(aW fs k).2<=65536:=by
 obtain ⟨a,b,-,-⟩:=zR hs hr k hk;exact ⟨a.len,b.1,Int.le_trans b.2 (aGa a).1⟩
theorem aIs {fs:List aI} (h:aD aI.cs lo 95 5 w v fs) (hs:jN fs) (hr:∀f∈fs,-1000000<=f.d/\f.d<=1000000) :
  Calls aS7 122 #[v] w fun e w'=>∃r,e = .returned r/\aD aVw w.heap.size 183 2 w' r (zL fs)/\Ext w w':=by
 obtain ⟨HO,HS⟩:=h2_ h (fun k (hk:k<=fs.length)=>Stp.sm hs hr hk);obtain ⟨a,cap,rfl,-⟩:=h.form;have hL:=aTc w 183 [];have HL:=hid hL;clear h hs hr hL;go_enter func122,ntmps122;go_wp2
 go_loopw [3,4,10] (fun u t x wr=>∃k:Nat,k<=fs.length/\x = .int .i64 (k:Nat)/\t = .int .i64 (aW fs k).2/\aD aVw w.heap.size 183 2 wr u (aW fs k).1/\Ext w wr) (fun _ _ x _=>fs.length - (intOf x).toNat)
 case atStart=>exact ⟨0,by omega,rfl,rfl,aD.freshS (aS3 _) HL,X_⟩
 case round=>
  clear HL;obtain ⟨k,hk,rfl,rfl,hu,hx⟩:=hrel;obtain ⟨b1,b2,b3⟩:=HS k hk
  obtain ⟨X,hX⟩:=e_ ((aW fs k).1)
  obtain ⟨t,ht⟩:=e_ ((aW fs k).2)
  rw [hX] at hu b1;rw [ht] at b2 b3;rw [ht];obtain ⟨HX,HT,HU,HE⟩:=h4_ hX ht hu hx;obtain ⟨ua,uc,rfl,-⟩:=aD.form hu
  rcases aTz k fs.length with hlt|hge
  ·obtain ⟨f,hf⟩:∃f,fs[k]?=some f:=⟨_,aS9 hlt⟩
   obtain ⟨g,q1,he,-,q6,q3,q5,-,h0⟩:=aD.at (aD.ext HO hx) (fun _=>rfl) hf;simp only [aTp,true_and] at he;obtain ⟨rfl,rfl⟩:=he;have c0:=h0 0 (by decide);have c1:=h0 1 (by decide);have c2:=h0 2 (by decide);have c3:=h0 3 (by decide);have c4:=h0 4 (by decide);simp only [aI.cs,aT7,aS0,aS1] at c0 c1 c2 c3 c4;have HF:=hid hf
   obtain ⟨ca,h5⟩:=e_ (aQ f.al 0 256)
   have ba:=xC f.al;rw [h5] at ba
   obtain ⟨p,hp⟩:=e_ (t*ca)
   have bp:0<=p/\p<=t*256:=hp▸⟨aUm b2 ba.1,aWx ba.2 b2⟩
   obtain ⟨q,hq⟩:=e_ (p / 256)
   have bq:0<=q/\q<=t:=by omega
   have hw:dN (aW fs k).2 f.al=t - q:=by
    unfold dN;rw [ht,h5,hp,hq]
   obtain ⟨HW,HA⟩:=h2_ hw h5
   have i1 : -9223372036854775808<=p/\p<=9223372036854775807:=by omega
   have zw:=hx.size;have q7:=hid (fun W' (x:Ext wr W')=>aD.ext HU x);clear hf h0 h5 hu hx hX ht hw HS
   obtain ⟨wt,h7⟩:=e_ (t - q)
   have bw:0<=wt/\wt<=65536:=by omega
   have xb:Ext wr (wr.alloc (.cells #[f.d,f.s,f.c,f.col,f.al] 95)):=X_;have XB:=hid xb;clear xb
   rcases aTz (k+1) fs.length with hlt2|hge2
   ·obtain ⟨f2,h6⟩:∃f,fs[k+1]?=some f:=⟨_,aS9 hlt2⟩
    obtain ⟨g2,q2,h9,-,-,-,-,-,h1⟩:=aD.at (aD.ext HO HE) (fun _=>rfl) h6;simp only [aTp,true_and,aS5,aUb,and_true] at h9;obtain ⟨rfl,rfl⟩:=h9;have d0:=h1 0 (by decide);simp only [aI.cs,aT7,aS0,aS1] at d0;have h8:=hid h6
    have q4:(((k:Nat):Int)+1==((fs.length:Nat):Int))=false:=by simp;omega
    clear h1 h6
    by_cases hd:f.d<f2.d
    ·have h2:=aGk HF h8 hd
     rw [HX,HW,h7] at h2;have h3:=hid h2;clear h2;go_wp2_with (go_at_call 81;refine z_ (dI HA _) ?_)
     go_quiet (fail)
     go_wp2_with fail;refine (aAj (HU.ext (XB.trans X_)) f.d wt (Ext.size (HE.trans (XB.trans X_))) b1).mono ?_;rintro e w4 ⟨v4,rfl,o4,h4⟩;obtain ⟨X4,O4⟩:=h2_ (h4 w (HE.trans (XB.trans X_)) (aS3 _)) o4;obtain ⟨va,vc,rfl,-⟩:=aD.form o4;clear o4 h4;go_wp2;go_roundw
     case rel=>
      refine ⟨k+1,by omega,by go_num,by rw [h3],?_,X4⟩;rw [h3];exact O4
     case measure=>simp [intOf];omega
    ·have h2:=aGl HF h8 hd
     rw [HX,HW,h7] at h2;have h3:=hid h2;clear h2;go_wp2_with (go_at_call 81;refine z_ (dI HA _) ?_)
     go_quiet (fail)
     go_wp2;go_roundw
     case rel=>
      refine ⟨k+1,by omega,by go_num,by rw [h3],?_,aS8 HE (XB.trans X_)⟩;rw [h3];exact HU.ext (XB.trans X_)
     case measure=>simp [intOf];omega
   ·have q0:fs[k+1]?=none:=aV8 (by omega)
    have h2:=aGj HF q0;rw [HX,HW,h7] at h2;have h3:=hid h2
    have q4:((k:Nat):Int)+1=((fs.length:Nat):Int):=by omega
    clear h2 q0;go_wp2_with (go_at_call 81;refine z_ (dI HA _) ?_)
    go_quiet (fail)
    go_wp2_with fail;refine (aAj (HU.ext (XB.trans X_)) f.d wt (Ext.size (HE.trans (XB.trans X_))) b1).mono ?_;rintro e w4 ⟨v4,rfl,o4,h4⟩;obtain ⟨X4,O4⟩:=h2_ (h4 w (HE.trans (XB.trans X_)) (aS3 _)) o4;obtain ⟨va,vc,rfl,-⟩:=aD.form o4;clear o4 h4;go_wp2;go_roundw
    case rel=>
     refine ⟨k+1,by omega,by go_num,by rw [h3],?_,X4⟩;rw [h3];exact O4
    case measure=>simp [intOf];omega
  ·obtain rfl:k=fs.length:=by omega
   have HF:=hid (show X=zL fs by rw [<-HX];rfl);clear hu hx hX ht;go_wp2;go_ret;exact ⟨_,rfl,HF.out▸HU.out,HE⟩
theorem wD {l:List Stp} (h:aD aVw lo 183 2 w v l) (ho:kU l) :
  R_ 115 #[v] w (.bool true):=by
 obtain ⟨HO,HK⟩:=h2_ h ho;have hl:=ho.len;obtain ⟨a,cap,rfl,-⟩:=h.form;clear h ho;go_enter func115,ntmps115;go_wp2
 go_loopw [10] (fun x wr=>∃k:Nat,k<=l.length/\x = .int .i64 (k:Nat)/\Ext w wr) (fun x _=>l.length - (intOf x).toNat)
 case atStart=>exact ⟨0,by omega,rfl,aTd _⟩
 case round=>
  obtain ⟨k,hk,rfl,hx⟩:=hrel;have HX:=hid hx
  rcases aTz k l.length with hlt|hge
  ·obtain ⟨f,hf⟩:∃f,l[k]?=some f:=⟨_,aS9 hlt⟩
   obtain ⟨g,h5,he,-,q0,h7,h9,-,h2⟩:=aD.at (aD.ext HO.out hx) (fun _=>rfl) hf;simp only [aTp,true_and] at he;obtain ⟨rfl,rfl⟩:=he;have c0:=h2 0 (by decide);have c1:=h2 1 (by decide);simp only [aVw,aT7,aS0,aS1] at c0 c1;obtain ⟨q1,q2⟩:=HK.out.bd f (aTq hf);obtain ⟨I1,I2⟩:=h2_ (aG.2 q1) (aG.2 q2);have x1:Ext w (wr.alloc (.cells #[f.d,f.w] 183)):=hx.trans X_;have X1:=hid x1
   rcases aY8 k with h0|hp
   ·subst h0
    clear hx h2 hf x1;go_wp2_with (go_at_call 92;with_reducible first|(refine z_ (aH I1.out _) ?_)|(refine z_ (aH I2.out _) ?_))
    go_quiet (fail)
    go_wp2;go_roundw
    case rel=>exact ⟨1,by omega,by go_num,aS8 X1.out X_⟩
    case measure=>simp [intOf];omega
   ·obtain ⟨m,rfl⟩:∃m,k=m+1:=⟨k - 1,by omega⟩
    obtain ⟨f0,h3⟩:∃f,l[m]?=some f:=⟨_,aS9 (by omega)⟩
    obtain ⟨g2,h6,h4,-,-,-,-,-,h1⟩:=aD.at (aD.ext HO.out hx) (fun _=>rfl) h3;simp only [aTp,true_and,aS5,aUb,and_true] at h4;obtain ⟨rfl,rfl⟩:=h4;have d0:=h1 0 (by decide);have d1:=h1 1 (by decide);simp only [aVw,aT7,aS0,aS1] at d0 d1
    have e1:((m+1:Nat):Int) - 1=(m:Nat):=by omega
    have q3:m<l.length:=by omega
    have e3:IntKind.i64.wrap ((m:Nat):Int)=((m:Nat):Int):=IntWalk.i64_in _ (by omega)
    have h8:f0.d<f.d/\f.w<f0.w:=by
     have h:=aYt.1 HK.out.sort m (m+1) (by omega) hlt (by omega);rw [(aS2.1 hf).2,(aS2.1 h3).2] at h;exact h
    have r1 : ¬f.d<=f0.d:=by omega
    have r2 : ¬f0.w<=f.w:=by omega
    clear hx h2 h1 hf h3 x1;go_wp2_with (go_at_call 92;with_reducible first|(refine z_ (aH I1.out _) ?_)|(refine z_ (aH I2.out _) ?_))
    go_quiet (fail)
    go_wp2;go_roundw
    case rel=>exact ⟨m+1+1,by omega,by go_num,aS8 X1.out X_⟩
    case measure=>simp [intOf];omega
  ·go_wp2
   go_ret;exact ⟨rfl,HX.out⟩
theorem aAk (d z:Int) (B:Nat) (w:World) (hc:w.cell? ⟨B,0,none⟩=some (.int .i64 z)) {b:Bool} (hb:decide (d<z)=b) :
  Z_ 117 #[d,.pointer (some ⟨B,0,none⟩)] w (.bool b):=by
 subst hb;go_enter func117,ntmps117;go_wp2;go_ret;exact ⟨rfl,rfl⟩
theorem vW {l:List Stp} {f:Stp} (h:l[k]?=some f) (z:Int):jM 65536 (l.take (k+1)) z=if f.d<z then f.w else jM 65536 (l.take k) z:=by
 obtain ⟨hk,rfl⟩:=aS2.1 h;unfold jM;rw [aTv hk,List.foldl_append]
 rfl
theorem tU {l:List Stp} (h:aD aVw lo 183 2 w v l) (z:Int) (B:Nat) (hB:B<w.heap.size) (hc:w.cell? ⟨B,0,none⟩=some (.int .i64 z)) :
  R_ 116 #[v,.func (.func 117) #[] #[.pointer (some ⟨B,0,none⟩)]] w (.int .i64 (mG l z)):=by
 obtain ⟨HO,HC⟩:=h2_ h hc;obtain ⟨a,cap,rfl,-⟩:=h.form;clear h hc;go_enter func116,ntmps116;go_wp2
 go_loopw [5,10] (fun t x wr=>∃k:Nat,k<=l.length/\x = .int .i64 (k:Nat)/\t = .int .i64 (jM 65536 (l.take k) z)/\Ext w wr) (fun _ x _=>l.length - (intOf x).toNat)
 case atStart=>exact ⟨0,by omega,rfl,rfl,aTd _⟩
 case round=>
  obtain ⟨k,hk,rfl,rfl,hx⟩:=hrel;have HX:=hid hx
  obtain ⟨t,ht⟩:=e_ (jM 65536 (l.take k) z)
  rw [ht];have HT:=hid ht
  rcases aTz k l.length with hlt|hge
  ·obtain ⟨f,hf⟩:∃f,l[k]?=some f:=⟨_,aS9 hlt⟩
   obtain ⟨g,h1,he,-,h4,h2,h3,-,h0⟩:=aD.at (aD.ext HO hx) (fun _=>rfl) hf;simp only [aTp,true_and] at he;obtain ⟨rfl,rfl⟩:=he;have c0:=h0 0 (by decide);have c1:=h0 1 (by decide);simp only [aVw,aT7,aS0,aS1] at c0 c1;have x1:Ext w (wr.alloc (.cells #[f.d,f.w] 183)):=hx.trans X_;have X1:=hid x1;have cB:(wr.alloc (.cells #[f.d,f.w] 183)).cell? ⟨B,0,none⟩=some (.int .i64 z):=(x1.cells.1 B _ hB).trans HC;have CB:=hid cB;have hs:=vW hf z;rw [ht] at hs
   by_cases hd:f.d<z
   ·rw [if_pos hd] at hs
    obtain ⟨HS,HD⟩:=h2_ hs (show decide (f.d<z)=true from decide_eq_true hd);clear hx h0 hf x1 cB hs ht;go_wp2_with fail;refine z_ (aAk f.d z B _ CB HD) ?_;go_wp2;go_roundw
    case rel=>exact ⟨k+1,by omega,by go_num,by rw [HS],X1⟩
    case measure=>simp [intOf];omega
   ·rw [if_neg hd] at hs
    obtain ⟨HS,HD⟩:=h2_ hs (show decide (f.d<z)=false from decide_eq_false hd);clear hx h0 hf x1 cB hs ht;go_wp2_with fail;refine z_ (aAk f.d z B _ CB HD) ?_;go_wp2;go_roundw
    case rel=>exact ⟨k+1,by omega,by go_num,by rw [HS],X1⟩
    case measure=>simp [intOf];omega
  ·obtain rfl:k=l.length:=by omega
   have hf:t=mG l z:=by rw [<-ht,aT0];rfl
   have HF:=hid hf;clear hx ht hf;go_wp2;go_ret;exact ⟨cQ HF,HX⟩
theorem sA {l:List Stp} (h:aD aVw lo 183 2 w v l) (ho:kU l) (z:Int) :
  R_ 67 #[v,z] w (.int .i64 (mG l z)):=by
 have h0:∀(fn:Fn) (first cap:Array Value) (w:World),(Instr.makeFunc fn first cap).run aS7 w = .ok (.func fn first cap) w:=fun _ _ _ _=>rfl;obtain ⟨HO,HK⟩:=h2_ h ho;obtain ⟨a,cap,rfl,-⟩:=h.form;have bZ:=aTc w 3 [z];have HZ:=hid bZ;clear h ho bZ;go_enter func67,ntmps67;go_wp2_with fail;refine r_ (wD (HO.ext X_) HK) fun w1 x1=>?_;obtain ⟨X1,Z1⟩:=h2_ (aS8 (w:=w) X_ x1) (HZ.ext x1);clear x1;go_wp2_with fail;refine r_ (tU (HO.ext X1) z w.heap.size Z1.lt (Z1.cell 0 rfl)) fun w2 x2=>?_;have X2:=hid (X1.trans x2);clear x2;go_wp2;go_ret;exact ⟨rfl,X2⟩
theorem aGm {fs:List aI} {f:aI} {P:aI->Bool} (h:fs[k]?=some f) (hp:P f=true):cZ [] ((fs.take (k+1)).filter P)=mN f (cZ [] ((fs.take k).filter P)):=by
 obtain ⟨hk,rfl⟩:=aS2.1 h;rw [aTv hk,bCl,lW,List.filter_cons_of_pos hp]
 rfl
theorem aJu {fs:List aI} {f:aI} {P:aI->Bool} (h:fs[k]?=some f) (hp:P f=false):cZ [] ((fs.take (k+1)).filter P)=cZ [] ((fs.take k).filter P):=by
 obtain ⟨hk,rfl⟩:=aS2.1 h;rw [aTv hk,bCl,List.filter_cons_of_neg (by rw [hp];decide),List.filter_nil,aVv]
theorem aEg {fs:List aI} {P:aI->Bool}:(cZ [] ((fs.take k).filter P)).length<=fs.length:=by
 rw [jD];have:=List.length_filter_le P (fs.take k);have:=List.length_take_le k fs;rw [aTr] at *;simp only [aVc];omega
theorem aIt {fs:List aI} (h:aD aI.cs lo 95 5 w v fs) (hl:fs.length<=100000) :
  Calls aS7 71 #[v] w fun e w'=>∃r,e = .returned r/\aD aVw w.heap.size 183 2 w' r (gP fs)/\Ext w w':=by
 have HO:=hid h;obtain ⟨a,cap,rfl,-⟩:=h.form;clear h;go_enter func71,ntmps71;go_wp2_with fail;refine (pE _).mono ?_;rintro e w1 ⟨rfl,o1,x1⟩;obtain ⟨h2,h3⟩:=h2_ o1 x1;clear o1 x1;go_wp2
 go_loopw [9] (fun x wr=>∃(k:Nat) (vv:Value),k<=fs.length/\x = .int .i64 (k:Nat)/\zF w.heap.size wr w.heap.size (cZ [] ((fs.take k).filter fun f=>inB f.d (-1000000) 1000000)) vv/\Ext w wr) (fun x _=>fs.length - (intOf x).toNat)
 case atStart=>exact ⟨0,_,by omega,rfl,h2,h3⟩
 case round=>
  clear h2 h3;obtain ⟨k,vv,hk,rfl,ho,hx⟩:=hrel;obtain ⟨HR,HX⟩:=h2_ ho hx;have zr:=ho.box.lt
  rcases aTz k fs.length with hlt|hge
  ·obtain ⟨f,hf⟩:∃f,fs[k]?=some f:=⟨_,aS9 hlt⟩
   obtain ⟨g,h7,he,-,q2,h8,q1,-,h0⟩:=aD.at (aD.ext HO hx) (fun _=>rfl) hf;simp only [aTp,true_and] at he;obtain ⟨rfl,rfl⟩:=he;have c0:=h0 0 (by decide);have c1:=h0 1 (by decide);have c2:=h0 2 (by decide);have c3:=h0 3 (by decide);have c4:=h0 4 (by decide);simp only [aI.cs,aT7,aS0,aS1] at c0 c1 c2 c3 c4;have xb:Ext wr (wr.alloc (.cells #[f.d,f.s,f.c,f.col,f.al] 95)):=X_;have XB:=hid xb
   obtain ⟨b,hb⟩:=e_ (inB f.d (-1000000) 1000000)
   have HB:=hid hb;have h9:=aEg (fs:=fs) (k:=k) (P:=fun f=>inB f.d (-1000000) 1000000);have HF:=hid hf
   obtain ⟨F,hF⟩:=e_ (cZ [] ((fs.take k).filter fun f=>inB f.d (-1000000) 1000000))
   rw [hF] at ho h9;obtain ⟨q0,HR⟩:=h2_ hF ho
   cases b
   ·have hs:=aJu (P:=fun f=>inB f.d (-1000000) 1000000) hf hb
    rw [hF] at hs;have HS:=hid hs;clear hf h0 ho hx xb hb hF hs;go_wp2_with (go_at_call 92;refine z_ (aH HB _) ?_);go_roundw
    case rel=>exact ⟨k+1,vv,by omega,by go_num,by rw [HS];exact HR.ext XB,HX.trans XB⟩
    case measure=>simp [intOf];omega
   ·have hs:=aGm (P:=fun f=>inB f.d (-1000000) 1000000) hf hb
    rw [hF] at hs;have HS:=hid hs
    have h4:F.length<=100000:=by omega
    have h5:=hid h4;clear hf h0 ho hx xb hb hF hs h4;go_wp2_with fail;refine z_ (aH HB _) ?_;go_wp2_with fail;refine (vP (HR.ext XB) f h5).mono ?_;rintro e w3 ⟨v3,rfl,o3,k3,-,-⟩;have P1:=hid o3;have P2:Hid (Ext w w3):=hid (k3.up (HX.trans XB) (aS3 _));clear o3 k3;go_wp2;go_roundw
    case rel=>exact ⟨k+1,v3,by omega,by go_num,by rw [HS];exact P1,P2⟩
    case measure=>simp [intOf];omega
  ·obtain rfl:k=fs.length:=by omega
   have c0:=HR.box.cell 0 rfl
   obtain ⟨F,hF⟩:=e_ (zP fs)
   have h1:zF w.heap.size wr w.heap.size F vv:=by
    rw [<-hF];have:=HR.out;rw [aT0] at this;exact this
   obtain ⟨HS,HM,h6⟩:=h3_ (show jN F from hF▸rY fs) (show ∀f∈F,-1000000<=f.d/\f.d<=1000000 from fun f hf=>(aCe f (hF▸hf)).2) h1;obtain ⟨oa,oc,rfl,-⟩:=h1.row.form;have HD:=hid (show zL F=gP fs by rw [<-hF];rfl);clear ho hx h1 hF HR;go_wp2_with fail;refine (aIs h6.row HS HM).mono ?_;rintro e w3 ⟨r,rfl,hr,x3⟩;obtain ⟨ra,rc,rfl,-⟩:=hr.form;obtain ⟨HR,X3⟩:=h2_ hr (HX.trans x3);have zz:=HX.size;clear hr x3;go_wp2;go_ret;exact ⟨_,rfl,HD.out▸aD.low HR (by omega),X3⟩
def dY (lo:Nat) (w:World) (v:Value) (ls:List (List Stp)):Prop:=∃us:List Value,us.length=ls.length/\aD (fun u=>[u]) lo 101 1 w v us/\∀(k:Nat) (u:Value) (l:List Stp),us[k]?=some u->ls[k]?=some l->aD aVw lo 183 2 w u l
theorem dY.ext {ls:List (List Stp)} (h:dY lo w v ls) (x:Ext w w'):dY lo w' v ls:=by
 obtain ⟨us,h1,h2,h3⟩:=h;exact ⟨us,h1,h2.ext x,fun k u l hu hl=>(h3 k u l hu hl).ext x⟩
theorem dY.low {lo':Nat} {ls:List (List Stp)} (h:dY lo w v ls) (hl:lo'<=lo):dY lo' w v ls:=by
 obtain ⟨us,h1,h2,h3⟩:=h;exact ⟨us,h1,h2.low hl,fun k u l hu hk=>(h3 k u l hu hk).low hl⟩
theorem aD.grownD {lo':Nat} {l:List Stp} {us:List Value} (h:aD aVw lo 183 2 w r l) (ho:aD (fun u=>[u]) lo' 101 1 w v us) (hg:w.grownBy w' v.ownBlock):aD aVw lo 183 2 w' r l:=
 h.grownE hg (e':=101) (by decide) (fun k hk=>by
  obtain ⟨_,c,hc⟩:=aD.rowF ho k hk
  exact ⟨c,hc⟩)
theorem dY.push {v':Value} {us:List Value} {ls:List (List Stp)} {l:List Stp} (h1:us.length=ls.length) (h2:aD (fun u=>[u]) lo 101 1 w v us) (h3:∀(k:Nat) (u:Value) (l:List Stp),us[k]?=some u->ls[k]?=some l->aD aVw lo 183 2 w u l)
  (hr:aD aVw lo 183 2 w r l) (hg:w.grownBy w' v.ownBlock) (hown:aD (fun u=>[u]) lo 101 1 w' v' (us++[r])):dY lo w' v' (ls++[l]):=by
 refine ⟨us++[r],by simp [h1],hown,fun k u l' hu hl=>?_⟩
 rcases aTz k us.length with hk|hk
 ·rw [aUf hk] at hu
  rw [aUf (by omega)] at hl;exact (h3 k u l' hu hl).grownD h2 hg
 ·have h4:=(aS2.1 hu).1
  simp at h4
  have h0:k - us.length=0:=by omega
  rw [aT4 hk,h0] at hu;rw [aT4 (by omega),show k - ls.length=0 by omega] at hl
  obtain rfl:r=u:=by simpa using hu
  obtain rfl:l=l':=by simpa using hl
  exact hr.grownD h2 hg
theorem aCl:(Tryz.prog.info? 101).map (fun i=>(i.zero,i.size,i.bytes))=some (some (.slice none 0 0),1,24):=by kernel_rfl
theorem Scn.Ok.seen_le {s:Scn} (ho:s.Ok) (p:Smp):(s.seen p).length<=100000:=by
 have h:=ho.seenTo_le p (aS3 s.m);have:=ho.m
 show (s.seenTo p s.m).length<=100000
 omega
def Scn.deeps (s:Scn) (i j:Int) (sd:Nat) (k:Nat):List (List Stp):=((tH i j sd).take k).map fun p=>gP (s.seen p)
theorem Scn.deeps_succ {s:Scn} {p:Smp} (h:(tH i j sd)[k]?=some p):s.deeps i j sd (k+1)=s.deeps i j sd k++[gP (s.seen p)]:=by
 obtain ⟨hk,rfl⟩:=aS2.1 h;unfold Scn.deeps;rw [aTv hk,aU0,aWb]
theorem Scn.deeps_ok {s:Scn}:∀l∈s.deeps i j sd k,kU l:=by
 intro l hl;obtain ⟨p,-,rfl⟩:=aU2.1 hl;exact aNk _
theorem Scn.deeps_len {s:Scn} (hk:k<=sd*sd):(s.deeps i j sd k).length=k:=by
 unfold Scn.deeps;rw [aT9,aTr,gG];omega
theorem aAl (s:Scn) (lo hi:Nat) (v:Value) (i j:Int) (sd:Nat) (w:World) (hv:s.R lo hi w v) (hh:hi<=w.heap.size) (ho:s.Ok) (hsm:s.small) (hsd:s.side=(sd:Nat)) (hi0:0<=i/\i<s.c.w) (hj0:0<=j/\j<s.c.h) :
  Calls aS7 28 #[v,i,j] w fun e w'=>∃r,e = .returned r/\dY w.heap.size w' r (s.deeps i j sd (sd*sd))/\Ext w w':=by
 have h7:sd=1\/sd=2\/sd=4:=by have:=ho.side;omega
 have e9:=ho.c.w;have e8:=ho.c.h;obtain ⟨b7,HV⟩:=h2_ (Scn.okB_iff.2 ho) hv;have g0:=ho.m;obtain ⟨a1,c1,a2,c2,a3,c3,rfl⟩:=hv.formV;obtain ⟨HO,y6⟩:=h2_ ho hsm;have x0:Ext w (w.alloc (.cells (sA_ s a1 c1 a2 c2 a3 c3) 40)):=X_;have bS:=aTc w 40 (sL_ s a1 c1 a2 c2 a3 c3)
 obtain ⟨W0,h9⟩:=e_ (w.alloc (.cells (sA_ s a1 c1 a2 c2 a3 c3) 40))
 rw [h9] at x0;have bS:Blk W0 w.heap.size 40 (sL_ s a1 c1 a2 c2 a3 c3):=h9▸bS;obtain ⟨x2,h6,d7⟩:=h3_ x0 bS h9;have z0:=bS.lt;clear hv ho hsm x0 bS h9;obtain ⟨x1,d5⟩:=h2_ h7 hsd;clear hsd h7;go_enter func28,ntmps28;go_upto_region 1 with fail;rw [d7];have bq:=h6.ext (aTd _);obtain ⟨c0,c1,c2,c3,c4,c5,c6,c7,c8,c9,h5,h2⟩:=bq.q12;have ls:=bq.lt;clear bq;go_wp2_with fail;have CH:=lP s lo hi _ W0 (HV.ext hh x2) (aTb hh x2.size) y6;refine CH.mono ?_;clear CH;rw [b7];rintro e w3 ⟨rfl,x3⟩;have X3:=hid x3;clear x3;clear ls c0 c1 c2 c3 c4 c5 c6 c7 c8 c9 h5 h2;have bq:=h6.ext X3;obtain ⟨c0,c1,c2,c3,c4,c5,c6,c7,c8,c9,h5,h2⟩:=bq.q12;have ls:=bq.lt;clear bq;go_wp2_with fail;have CH:=aGi s.c i j hi0 hj0 (by omega) (by omega) w3;refine CH.mono ?_;clear CH;rintro e w4 ⟨rfl,x4⟩;have X4:=hid (X3.trans x4);clear x4 X3;clear ls c0 c1 c2 c3 c4 c5 c6 c7 c8 c9 h5 h2;have bq:=h6.ext X4;obtain ⟨c0,c1,c2,c3,c4,c5,c6,c7,c8,c9,h5,h2⟩:=bq.q12;have ls:=bq.lt;clear bq;have bD:=aTc w4 101 [];have HD:=hid bD;clear bD;go_wp2_with fail;have XA:=hid (x2.trans (X4.trans (show Ext w4 (w4.alloc (.cells #[] 101)) from X_)));have CH:=aBj s lo hi _ _ (HV.ext hh XA) (aTb hh XA.size) HO y6;refine CH.mono ?_;clear CH;rintro e w5 ⟨r,rfl,hr,x5⟩;obtain ⟨us,a8,y1,a7⟩:=hr;obtain ⟨ra,rc,rfl,-⟩:=y1.form;have zA:=XA.size;have HR:Hid (qN s w4.heap.size w5 (.slice ra us.length rc) s.m):=hid (qN.low ⟨us,a8,y1,a7⟩ (by rw [aS4];omega));obtain ⟨X5,q9,y3⟩:=h3_ (XA.trans x5) (h6.ext (X4.trans (aS8 (show Ext w4 (w4.alloc (.cells #[] 101)) from X_) x5))) (HD.ext x5);have z4:=X4.size;clear a8 y1 a7 x5 XA HD h6 zA;clear ls c0 c1 c2 c3 c4 c5 c6 c7 c8 c9 h5 h2;have bq:=q9.ext (aTd _);obtain ⟨c0,c1,c2,c3,c4,c5,c6,c7,c8,c9,h5,h2⟩:=bq.q12;have ls:=bq.lt;clear bq;have a6:s.side=((sd:Nat):Int):=d5;rw [a6] at h2;clear a6;go_wp2_with fail;have CH:=tT i j (by omega) (by omega) sd x1 w5;refine CH.mono ?_;clear CH;rintro e w6 ⟨q,rfl,hq,x6⟩;obtain ⟨qa,qc,rfl,-⟩:=hq.form;rw [gG];obtain ⟨HQ,X6,b8,y5,h8⟩:=h5_ hq (X5.trans x6) (HR.ext x6) (q9.ext x6) (y3.ext x6);have z5:w4.heap.size<w6.heap.size:=h8.lt;have z6:=x6.size;clear hq x6 HR q9 y3 X5;clear ls c0 c1 c2 c3 c4 c5 c6 c7 c8 c9 h5 h2
 obtain ⟨N,hN⟩:=e_ (sd*sd)
 have e0:N<=16:=by rw [<-hN];rcases x1 with rfl|rfl|rfl <;> decide
 have HN:=hid hN;rw [hN];clear hN;go_wp2
 go_loopw [7,31] (fun u x wr=>∃k:Nat,k<=N/\x = .int .i64 (k:Nat)/\dY w4.heap.size wr u (s.deeps i j sd k)/\KN w4.heap.size w4.heap.size 101 w6 wr) (fun _ x _=>N - (intOf x).toNat)
 case atStart=>exact ⟨0,by omega,rfl,⟨[],rfl,aD.freshS (aS3 _) h8,fun k u l hu=>by simp at hu⟩,KN.refl _ _ _ _⟩
 case round=>
  obtain ⟨k,hk,rfl,a0,q5⟩:=hrel;obtain ⟨h4,b4⟩:=h2_ q5 a0;obtain ⟨ds,q4,q0,z3⟩:=a0;rw [Scn.deeps_len (by rw [HN];exact hk)] at q4;obtain ⟨da,dc,rfl,-⟩:=q0.form;have XW:=hid (h4.up X6 (aTb (aVy z0) z4));have zr:=q5.size
  rcases aTz k N with hlt|hge
  ·have nB:∀{t:TypeId},t≠101->∀c,w6.heap[w4.heap.size]?≠some (.cells c t (0,0)):=fun ht c=>h8.noCells ht c
   have hq:=KN.row HQ h4 (nB (by decide)) (by decide);have hS:=KN.blk y5 h4 (by have:=h8.neq y5 (by decide);exact fun e=>this e.symm) (by decide)
   have hR:qN s w4.heap.size wr (.slice ra us.length rc) s.m:=by
    obtain ⟨e4,q1,q2,q3⟩:=b8;exact ⟨e4,q1,KN.row q2 h4 (nB (by decide)) (by decide),fun a u hu=>⟨KN.ints (q3 a u hu).1 h4 (nB (by decide)) (by decide),KN.ints (q3 a u hu).2 h4 (nB (by decide)) (by decide)⟩⟩
   obtain ⟨p,hp⟩:∃p,(tH i j sd)[k]?=some p:=⟨_,aS9 (by rw [gG,HN];exact hlt)⟩
   have a5:p.okB s.c=true:=by
    have h1:=(aS2.1 hp).2;unfold tH at h1;rw [aWt,aV0] at h1;rw [<-h1];exact aJs HO.cb hi0 hj0 x1 (by rw [HN];exact hlt)
   have h3:=Scn.deeps_succ (s:=s) hp;obtain ⟨gq,cq,he,-,e7,z1,e6,-,h0⟩:=aD.at hq (fun _=>rfl) hp;rw [show (tH i j sd).length=N by rw [gG];exact HN] at he z1;simp only [aTp,true_and] at he;obtain ⟨rfl,rfl⟩:=he;have d0:=h0 0 (by decide);have d1:=h0 1 (by decide);have d2:=h0 2 (by decide);have d3:=h0 3 (by decide);have d4:=h0 4 (by decide);simp only [Smp.cs,aT7,aS0,aS1] at d0 d1 d2 d3 d4;obtain ⟨q8,d6,b2,b3,y4,b9⟩:=h6_ a5 h3 q0 z3 q4 hR;have y2:Ext wr (wr.alloc (.cells #[p.x,p.y,p.t,p.lx,p.ly] 42)):=X_;have d8:=hid y2;have y9:=hS.ext y2;have d9:=aTc wr 42 [p.x,p.y,p.t,p.lx,p.ly];obtain ⟨s0,s1,s2,s3,s4,s5,s6,s7,s8,s9,e2,e3⟩:=y9.q12;have e5:=hid hS;clear hq hS hR hp a5 h3 h0 q0 z3 q4 q5 nB y9 d9 y2;go_upto_region 7 with fail;go_wp2_with fail
   obtain ⟨WB,z2⟩:=e_ (wr.alloc (.cells #[p.x,p.y,p.t,p.lx,p.ly] 42))
   have x9:Hid (Ext wr WB):=hid (z2▸d8.out);rw [z2];clear z2;have y7:=hid (XW.trans x9);have CH:=aLd s lo w4.heap.size hi _ _ p WB (HV.ext hh y7) (aTb hh y7.size) HO q8 (b9.ext x9);refine CH.mono ?_;clear CH;rintro e w7 ⟨f1,rfl,z7,x7⟩;obtain ⟨b6,X7⟩:=h2_ z7 (x9.trans x7);obtain ⟨fa,fc,rfl,-⟩:=aD.form z7;have e1:=hid (HO.seen_le p);clear z7 x7 s0 s1 s2 s3 s4 s5 s6 s7 s8 s9 e2 e3;go_wp2_with fail;refine (aIt b6 e1.out).mono ?_;rintro e w8 ⟨g1,rfl,y0,x8⟩;obtain ⟨ga,gc,rfl,-⟩:=aD.form y0;have X8:=hid (X7.trans x8);have g2:=X7.size;have y8:Ext w8 (w8.alloc (.cells #[.slice ga (gP (s.seen p)).length gc] 101)):=X_;have B8:=aTc w8 101 [.slice ga (gP (s.seen p)).length gc];obtain ⟨a9,Y8,O8,q6,q7⟩:=h5_ B8 y8 ((aD.low y0 (show w4.heap.size<=w7.heap.size by omega)).ext y8) (b2.ext (X8.trans y8)) (fun a u l hu hl=>(b3 a u l hu hl).ext (X8.trans y8))
   have a4:ds.length<1000000:=by have:=y4.out;omega
   have b5:=hid a4;have z8:=aTb (X8.size) y8.size;have Z8:=hid (show w4.heap.size<=(w8.alloc (.cells #[.slice ga (gP (s.seen p)).length gc] 101)).heap.size by omega);clear y0 x8 y8 B8 a4 d0 d1 d2 d3 d4
   have b0:Hid (∀j,j<1->(w8.alloc (.cells #[.slice ga (gP (s.seen p)).length gc] 101)).cell? ⟨w8.heap.size,j,none⟩=[Value.slice ga (gP (s.seen p)).length gc][j]?):=hid (fun j hj=>by
    obtain rfl:j=0:=by omega
    exact a9.cell 0 rfl)
   have b1:Hid (∀u∈[Value.slice ga (gP (s.seen p)).length gc],u.oneCell'=true):=hid (fun u hu=>by
    rw [aU3] at hu;subst hu
    rfl)
   go_wp2_with (at_builtin;refine cA (fun u=>[u]) 101 1 24 _ _ rfl _ _ 57 rfl underlying57 aCl rfl (by decide) (by decide) (fun _=>rfl) w4.heap.size (.slice da ds.length dc) ds rfl q6 (.slice ga (gP (s.seen p)).length gc) w8.heap.size rfl b0 b1 b5 Z8 ?_;intro v9 w9 hown hg);have P:=hid (dY.push (by rw [y4,Scn.deeps_len (by rw [HN];exact hk)]) q6 q7 O8 hg hown)
   have K9:=hid (((h4.ext (X8.trans Y8))).grown hg (fun k' hk'=>by
    obtain ⟨q1,c,hc⟩:=aD.rowF q6 k' hk'
    exact ⟨q1,c,hc⟩))
   clear hown hg;go_wp2;go_roundw
   case rel=>exact ⟨k+1,by omega,by go_num,by rw [d6];exact P,K9⟩
   case measure=>simp [intOf];omega
  ·obtain rfl:k=N:=by omega
   have z9:=hid (b4.low (show w.heap.size<=w4.heap.size by omega));clear q4 q0 z3 q5;go_wp2;go_ret;exact ⟨_,rfl,HN.out▸z9.out,XW⟩
theorem dY.at {ls:List (List Stp)} (h:dY lo w v ls) {l:List Stp} (hl:ls[k]?=some l) :
  ∃g cap u,v = .slice (some ⟨g,0,none⟩) ls.length cap/\g<w.heap.size/\ls.length<=cap/\cap<=9223372036854775807/\w.cell? ⟨g,k,none⟩=some u/\aD aVw lo 183 2 w u l:=by
 obtain ⟨us,h1,h2,h3⟩:=h
 obtain ⟨u,hu⟩:∃u,us[k]?=some u:=⟨_,aS9 (by have:=(aS2.1 hl).1;omega)⟩
 obtain ⟨g,cap,he,-,h6,h4,h5,-,h0⟩:=aD.at h2 (fun _=>rfl) hu;have c0:=h0 0 (by decide);rw [aWz,aT7] at c0;exact ⟨g,cap,u,by rw [he,h1],h6,by omega,h5,c0,h3 k u l hu hl⟩
theorem dY.form {ls:List (List Stp)} (h:dY lo w v ls):∃a c,v = .slice a ls.length c:=by
 obtain ⟨us,h1,h2,h3⟩:=h;obtain ⟨a,c,rfl,-⟩:=h2.form;exact ⟨a,c,by rw [h1]⟩
theorem dY.kn {lo2 B:Nat} {ls:List (List Stp)} (h:dY lo w v ls) (k:KN lo2 B 3 w w') (hB:∀t,t≠3->∀c,w.heap[B]?≠some (.cells c t (0,0))):dY lo w' v ls:=by
 obtain ⟨us,h1,h2,h3⟩:=h;exact ⟨us,h1,KN.row h2 k (hB _ (by decide)) (by decide),fun a u l hu hl=>KN.row (h3 a u l hu hl) k (hB _ (by decide)) (by decide)⟩
theorem aB.freshO {g:Nat} (hl:lo<=g) (h:Blk w g 3 []):aB lo w (.slice (some ⟨g,0,none⟩) 0 0) []:=
 ⟨⟨by simp,.inr ⟨g,0,#[],rfl,hl,h,aS3 _,by unfold maxLen;omega,by simp,by simp⟩⟩,fun x hx=>by cases hx⟩
theorem aEh (c:Cam) (i j:Int) {b1 b2:Bool} (h1:inB i 0 (c.w - 1)=b1) (h2:inB j 0 (c.h - 1)=b2) (hw:0<=c.w/\c.w<=100000) (hh:0<=c.h/\c.h<=100000) (w:World) :
  R_ 50 #[.agg c,i,j] w (.bool (b1&&b2)):=by
 obtain ⟨H1,H2⟩:=h2_ h1 h2;clear h1 h2
 cases b1
 ·go_enter func50,ntmps50
  go_wp2_with (go_at_call 92;with_reducible first|(refine z_ (aH H1.out _) ?_)|(refine z_ (aH H2.out _) ?_));go_ret;exact ⟨rfl,X_⟩
 ·go_enter func50,ntmps50
  go_wp2_with (go_at_call 92;with_reducible first|(refine z_ (aH H1.out _) ?_)|(refine z_ (aH H2.out _) ?_));go_ret;exact ⟨by cases b2 <;> rfl,X_⟩
structure aNr (s:Scn) (i j:Int) (sd:Nat):Prop where
 o:s.Ok
 hsd:s.side=(sd:Nat)
 s3:sd=1\/sd=2\/sd=4
 hi:0<=i/\i<s.c.w
 hj:0<=j/\j<s.c.h
theorem aNs {s:Scn} (h:(s.okB&&(inB i 0 (s.c.w - 1)&&inB j 0 (s.c.h - 1)))=true):aNr s i j s.side.toNat:=by
 simp only [aTi,aG] at h;obtain ⟨h0,⟨h1,h2⟩,h3,h4⟩:=h;have ho:=Scn.okB_iff.1 h0;have:=ho.side;exact ⟨ho,by omega,by omega,⟨h1,by omega⟩,⟨h3,by omega⟩⟩
def wE (l:List aI) (k:Nat) (f:aI):Bool:=match l[k+1]? with|none=>true|some g=>decide (g.d≠f.d)
def aX (l:List aI):Nat->List Stp×Int×Int
 | 0=>([],65536,65536)
 | k+1=>match l[k]? with
  | none=>aX l k
  | some f=>if wE l k f=true/\dN (aX l k).2.1 f.al≠(aX l k).2.2 then ((aX l k).1++[⟨f.d,dN (aX l k).2.1 f.al⟩],dN (aX l k).2.1 f.al,dN (aX l k).2.1 f.al)
   else ((aX l k).1,dN (aX l k).2.1 f.al,(aX l k).2.2)
theorem aAm {l:List aI} {f:aI} (h:l[k]?=some f) (he:wE l k f=true) (hw:dN (aX l k).2.1 f.al≠(aX l k).2.2) :
  aX l (k+1)=((aX l k).1++[⟨f.d,dN (aX l k).2.1 f.al⟩],dN (aX l k).2.1 f.al,dN (aX l k).2.1 f.al):=by
 simp only [aX,h];rw [if_pos ⟨he,hw⟩]
theorem aCm {l:List aI} {f:aI} (h:l[k]?=some f) (hn : ¬(wE l k f=true/\dN (aX l k).2.1 f.al≠(aX l k).2.2)) :
  aX l (k+1)=((aX l k).1,dN (aX l k).2.1 f.al,(aX l k).2.2):=by
 simp only [aX,h];rw [if_neg hn]
theorem aLs {l:List aI} {f:aI} (h:l[k]?=some f) (hs:jN l):aW l (k+1)=(if wE l k f=true then fD (aW l k).1 f.d (dN (aW l k).2 f.al) else (aW l k).1,dN (aW l k).2 f.al):=by
 simp only [aW,h];unfold wE
 cases hg:l[k+1]? with
 | none=>rfl
 | some g=>
  have h1:=hs.d_le (Nat.lt_succ_self k) h hg;simp only [decide_eq_true_eq]
  by_cases h2:g.d=f.d
  ·rw [if_neg (by omega),if_neg (by omega)]
  ·rw [if_pos (by omega),if_pos h2]
structure aRq (l:List aI) (k:Nat):Prop where
 one:(aW l k).1=(aX l k).1.take 64
 two:(aW l k).2=(aX l k).2.1
 w:0<=(aX l k).2.1/\(aX l k).2.1<=(aX l k).2.2/\(aX l k).2.2<=65536
 last:lQ (aX l k).1=(aX l k).2.2
 len:(aX l k).1.length<=k
theorem aCn {l:List aI} (hs:jN l):∀k,k<=l.length->aRq l k:=by
 intro k
 induction k with
 | zero=>exact fun _=>⟨rfl,rfl,⟨by show (0:Int)<=65536;decide,bAb _,bAb _⟩,rfl,aS3 _⟩
 | succ k ih=>
  intro hk;obtain ⟨i1,i2,⟨i3,i4,i5⟩,i6,i7⟩:=ih (by omega)
  obtain ⟨f,hf⟩:∃f,l[k]?=some f:=⟨_,aS9 (by omega)⟩
  have hw:=aF9 f.al i3;have hd:=aLs hf hs;rw [i1,i2] at hd
  obtain ⟨o,ho⟩:=e_ ((aX l k).1)
  obtain ⟨v,hv⟩:=e_ (dN (aX l k).2.1 f.al)
  obtain ⟨z,hz⟩:=e_ ((aX l k).2.2)
  by_cases hc:wE l k f=true/\dN (aX l k).2.1 f.al≠(aX l k).2.2
  ·have h0:=aAm hf hc.1 hc.2
   rw [if_pos hc.1] at hd;rw [ho,hv] at h0 hd;rw [hv,hz] at hc;rw [hv] at hw;rw [hz] at i4 i5 i6;rw [ho] at i6 i7;refine ⟨?_,?_,?_,?_,?_⟩
   ·rw [hd,h0]
    show fD (o.take 64) f.d v=(o++[(⟨f.d,v⟩:Stp)]).take 64
    unfold fD
    rcases aTz o.length 64 with h|h
    ·rw [aT3 (by omega),aT3 (by simp;omega),if_pos ⟨by have:=hc.2;omega,h⟩]
    ·rw [if_neg (by simp;omega),List.take_append_of_le_length h]
   ·rw [hd,h0]
   ·rw [h0]
    exact ⟨hw.1,bAb _,by show v<=65536;omega⟩
   ·rw [h0]
    exact tI _ _
   ·rw [h0]
    simp;omega
  ·have h0:=aCm hf hc
   rw [ho,hv,hz] at h0;rw [ho,hv] at hd;rw [hv,hz] at hc;rw [hv] at hw;rw [hz] at i4 i5 i6;rw [ho] at i6 i7;refine ⟨?_,?_,?_,?_,?_⟩
   ·rw [hd,h0]
    show (if wE l k f=true then fD (o.take 64) f.d v else o.take 64)=o.take 64
    split
    ·rename_i he
     have h3:v=z:=Decidable.byContradiction fun h=>hc ⟨he,h⟩;unfold fD;rw [if_neg];rintro ⟨h1,h2⟩;rw [aTr] at h2;rw [aT3 (by omega),i6] at h1;omega
    ·rfl
   ·rw [hd,h0]
   ·rw [h0]
    exact ⟨hw.1,by show v<=z;omega,i5⟩
   ·rw [h0]
    exact i6
   ·rw [h0]
    show o.length<=k+1
    omega
theorem aIu {l:List aI} (hs:jN l):zL l=(aX l l.length).1.take 64:=(aCn hs _ (aS3 _)).one
theorem uW {l:List Stp} (h:aD aVw lo 183 2 w v l) (ho:kU l) :
  R_ 114 #[v] w (.bool true):=by
 obtain ⟨HO,HK⟩:=h2_ h ho;have hl:=ho.len;obtain ⟨a,cap,rfl,-⟩:=h.form;clear h ho;go_enter func114,ntmps114;go_wp2
 go_loopw [7] (fun x wr=>∃k:Nat,k<=l.length/\x = .int .i64 (k:Nat)/\Ext w wr) (fun x _=>l.length - (intOf x).toNat)
 case atStart=>exact ⟨0,by omega,rfl,aTd _⟩
 case round=>
  obtain ⟨k,hk,rfl,hx⟩:=hrel;have HX:=hid hx
  rcases aTz k l.length with hlt|hge
  ·obtain ⟨f,hf⟩:∃f,l[k]?=some f:=⟨_,aS9 hlt⟩
   obtain ⟨g,h5,he,-,q4,h7,q3,-,h2⟩:=aD.at (aD.ext HO.out hx) (fun _=>rfl) hf;simp only [aTp,true_and] at he;obtain ⟨rfl,rfl⟩:=he;have c0:=h2 0 (by decide);have c1:=h2 1 (by decide);simp only [aVw,aT7,aS0,aS1] at c0 c1;obtain ⟨q1,q2⟩:=HK.out.bd f (aTq hf);obtain ⟨I1,I2⟩:=h2_ (aG.2 q1) (aG.2 q2);have x1:Ext w (wr.alloc (.cells #[f.d,f.w] 183)):=hx.trans X_;have X1:=hid x1
   rcases aY8 k with h0|hp
   ·subst h0
    clear hx h2 hf x1;go_wp2_with (go_at_call 46;with_reducible first|(refine z_ (aE I1.out _) ?_)|(refine z_ (aE I2.out _) ?_))
    go_quiet (fail)
    go_wp2;go_roundw
    case rel=>exact ⟨1,by omega,by go_num,aS8 X1.out X_⟩
    case measure=>simp [intOf];omega
   ·obtain ⟨m,rfl⟩:∃m,k=m+1:=⟨k - 1,by omega⟩
    obtain ⟨f0,h3⟩:∃f,l[m]?=some f:=⟨_,aS9 (by omega)⟩
    obtain ⟨g2,h6,h4,-,-,-,-,-,h1⟩:=aD.at (aD.ext HO.out hx) (fun _=>rfl) h3;simp only [aTp,true_and,aS5,aUb,and_true] at h4;obtain ⟨rfl,rfl⟩:=h4;have d0:=h1 0 (by decide);have d1:=h1 1 (by decide);simp only [aVw,aT7,aS0,aS1] at d0 d1
    have e1:((m+1:Nat):Int) - 1=(m:Nat):=by omega
    have q5:m<l.length:=by omega
    have e3:IntKind.i64.wrap ((m:Nat):Int)=((m:Nat):Int):=IntWalk.i64_in _ (by omega)
    have q0:f0.d<f.d/\f.w<f0.w:=by
     have h:=aYt.1 HK.out.sort m (m+1) (by omega) hlt (by omega);rw [(aS2.1 hf).2,(aS2.1 h3).2] at h;exact h
    have r1 : ¬f.d<=f0.d:=by omega
    have r2 : ¬f0.w<=f.w:=by omega
    clear hx h2 h1 hf h3 x1;go_wp2_with (go_at_call 46;with_reducible first|(refine z_ (aE I1.out _) ?_)|(refine z_ (aE I2.out _) ?_))
    go_quiet (fail)
    go_wp2;go_roundw
    case rel=>exact ⟨m+1+1,by omega,by go_num,aS8 X1.out X_⟩
    case measure=>simp [intOf];omega
  ·have h9:=HK.out.len
   have h8:decide ((l.length:Int)<=64)=true:=decide_eq_true (by omega);go_wp2;go_ret;exact ⟨rfl,HX.out⟩
theorem sB {l:List Stp} (h:aD aVw lo 183 2 w v l) (ho:kU l) (z:Int) :
  R_ 66 #[v,z] w (.int .i64 (mG l z)):=by
 obtain ⟨HO,HK⟩:=h2_ h ho;have h4:=ho.len;obtain ⟨a,cap,rfl,-⟩:=h.form;clear h ho;go_enter func66,ntmps66;go_wp2_with fail;refine r_ (uW HO HK) fun w1 x1=>?_;obtain ⟨X1,h1⟩:=h2_ x1 (HO.ext x1);clear x1;go_wp2
 go_loopw [5,13] (fun t x wr=>∃k:Nat,k<=l.length/\x = .int .i64 (k:Nat)/\t = .int .i64 (jM 65536 (l.take k) z)/\Ext w1 wr) (fun _ x _=>l.length - (intOf x).toNat)
 case atStart=>exact ⟨0,by omega,rfl,rfl,aTd _⟩
 case round=>
  obtain ⟨k,hk,rfl,rfl,hx⟩:=hrel;have HX:=hid hx
  obtain ⟨t,ht⟩:=e_ (jM 65536 (l.take k) z)
  rw [ht];have HT:=hid ht
  rcases aTz k l.length with hlt|hge
  ·obtain ⟨f,hf⟩:∃f,l[k]?=some f:=⟨_,aS9 hlt⟩
   obtain ⟨g,h2,he,-,h6,h3,h5,-,h0⟩:=aD.at (aD.ext h1 hx) (fun _=>rfl) hf;simp only [aTp,true_and] at he;obtain ⟨rfl,rfl⟩:=he;have c0:=h0 0 (by decide);have c1:=h0 1 (by decide);simp only [aVw,aT7,aS0,aS1] at c0 c1;have X2:=hid (hx.trans (show Ext wr (wr.alloc (.cells #[f.d,f.w] 183)) from X_));have hs:=vW hf z;rw [ht] at hs
   by_cases hd:f.d<z
   ·rw [if_pos hd] at hs
    have HS:=hid hs;clear hx h0 hf hs ht;go_wp2;go_roundw
    case rel=>exact ⟨k+1,by omega,by go_num,by rw [HS],X2⟩
    case measure=>simp [intOf];omega
   ·rw [if_neg hd] at hs
    have HS:=hid hs;clear hx h0 hf hs ht;go_wp2;go_roundw
    case rel=>exact ⟨k+1,by omega,by go_num,by rw [HS],X2⟩
    case measure=>simp [intOf];omega
  ·obtain rfl:k=l.length:=by omega
   have hf:t=mG l z:=by rw [<-ht,aT0];rfl
   have HF:=hid hf;clear hx ht hf;go_wp2;go_ret;exact ⟨cQ HF,X1.trans HX⟩
theorem aNt {l:List Stp} (h:aD aVw lo 183 2 w v l) (hl:l.length<=100000) (hlo:lo<=w.heap.size) :
  Calls aS7 119 #[v] w fun e w'=>∃r,e = .returned r/\aD aVw lo 183 2 w' r (l.take 64)/\Ext w w':=by
 have HO:=hid h;obtain ⟨a,cap,rfl,-⟩:=h.form
 rcases aTz 64 l.length with hgt|hle
 ·obtain ⟨f,hf⟩:∃f,l[0]?=some f:=⟨_,aS9 (by omega)⟩
  obtain ⟨g,h3,he,-,h6,h4,h5,-,h0⟩:=aD.at h (fun _=>rfl) hf;simp only [aTp,true_and] at he;obtain ⟨rfl,rfl⟩:=he;have R0:=Rd.cut (sz:=2) (fun _=>rfl) (h.rd (fun _=>rfl)) (aVy hgt);clear h hf h0;have x0:Ext w (w.alloc (.cells #[] 183)):=X_;obtain ⟨HR,h2,h1⟩:=h3_ (R0.ext (aS3 _) x0) x0 (aD.freshC (cs:=aVw) (sz:=2) hlo (aTc w 183 []));have hd:decide (64<(l.length:Int))=true:=decide_eq_true (by omega)
  have h7:64<=cap:=by omega
  have HL:=hid (show ([]:List Stp).length+(l.take 64).length<=10000000 by simp;omega);clear R0 x0;go_enter func119,ntmps119;go_wp2_with (at_builtin;refine cX aVw 183 2 16 _ _ rfl _ _ 101 rfl underlying101 qE rfl (by decide) (by decide) (fun _=>rfl) Stp.one lo (.slice (some ⟨w.heap.size,0,none⟩) 0 0) [] rfl h1 _ _ _ (l.take 64) rfl HR HL (by simp;omega) ?_;intro v6 w6 hown hg);obtain ⟨HX,HW⟩:=h2_ (aUd h2 hg (fun k e=>by have:w.heap.size=k:=aUy e;omega)) hown;clear hown hg;go_wp2;go_ret;exact ⟨_,rfl,HW,HX⟩
 ·have hd:decide (64<(l.length:Int))=false:=decide_eq_false (by omega)
  clear h;go_enter func119,ntmps119;go_wp2;go_ret;exact ⟨_,rfl,by rw [aT3 hle];exact HO,aTd _⟩
theorem aGn {fs:List aI} (h:aD aI.cs lo 95 5 w v fs) (hl:fs.length<=100000) :
  Calls aS7 69 #[v] w fun e w'=>∃r,e = .returned r/\aD aVw w.heap.size 183 2 w' r (gP fs)/\Ext w w':=by
 have HO:=hid h;obtain ⟨a,cap,rfl,-⟩:=h.form;obtain ⟨HL,z6⟩:=h2_ (aTc w 95 []) (show Ext w (w.alloc (.cells #[] 95)) from X_);clear h;go_enter func69,ntmps69;go_wp2
 go_loopw [3,15] (fun u x wr=>∃k:Nat,k<=fs.length/\x = .int .i64 (k:Nat)/\aD aI.cs w.heap.size 95 5 wr u (cZ [] ((fs.take k).filter fun f=>inB f.d (-1000000) 1000000))/\Ext w wr) (fun _ x _=>fs.length - (intOf x).toNat)
 case atStart=>exact ⟨0,by omega,rfl,aD.freshC (aS3 _) HL,z6⟩
 case round=>
  clear HL z6;obtain ⟨k,hk,rfl,ho,hx⟩:=hrel;have HX:=hid hx;have zr:=hx.size
  rcases aTz k fs.length with hlt|hge
  ·obtain ⟨f,hf⟩:∃f,fs[k]?=some f:=⟨_,aS9 hlt⟩
   obtain ⟨g,x9,he,-,y6,z0,y5,-,h0⟩:=aD.at (aD.ext HO hx) (fun _=>rfl) hf;simp only [aTp,true_and] at he;obtain ⟨rfl,rfl⟩:=he;have c0:=h0 0 (by decide);have c1:=h0 1 (by decide);have c2:=h0 2 (by decide);have c3:=h0 3 (by decide);have c4:=h0 4 (by decide);simp only [aI.cs,aT7,aS0,aS1] at c0 c1 c2 c3 c4;have XB:=hid (show Ext wr (wr.alloc (.cells #[f.d,f.s,f.c,f.col,f.al] 95)) from X_)
   obtain ⟨b,hb⟩:=e_ (inB f.d (-1000000) 1000000)
   have HB:=hid hb;have y7:=aEg (fs:=fs) (k:=k) (P:=fun f=>inB f.d (-1000000) 1000000)
   obtain ⟨F,hF⟩:=e_ (cZ [] ((fs.take k).filter fun f=>inB f.d (-1000000) 1000000))
   rw [hF] at ho y7;have HR:=hid ho;obtain ⟨ra,rc,rfl,-⟩:=aD.form ho
   cases b
   ·have hs:=aJu (P:=fun f=>inB f.d (-1000000) 1000000) hf hb
    rw [hF] at hs;have HS:=hid hs;clear hf h0 ho hx hb hF hs;go_wp2_with (go_at_call 46;refine z_ (aE HB _) ?_);go_roundw
    case rel=>exact ⟨k+1,by omega,by go_num,by rw [HS];exact HR.ext XB,HX.trans XB⟩
    case measure=>simp [intOf];omega
   ·have hs:=aGm (P:=fun f=>inB f.d (-1000000) 1000000) hf hb
    rw [hF] at hs;obtain ⟨HS,y1⟩:=h2_ hs (show F.length<=100000 by omega);clear hf h0 ho hx hb hF hs;go_wp2_with fail;refine z_ (aE HB _) ?_;go_wp2_with fail;refine (vV _ _ _ f _ (HR.ext XB) y1).mono ?_;rintro e w3 ⟨v3,rfl,o3,x3⟩;obtain ⟨P1,P2⟩:=h2_ (o3.low (lo':=w.heap.size) (by rw [aS4];omega)) (HX.trans (XB.trans x3));clear o3 x3;go_wp2;go_roundw
    case rel=>exact ⟨k+1,by omega,by go_num,by rw [HS];exact P1,P2⟩
    case measure=>simp [intOf];omega
  ·obtain rfl:k=fs.length:=by omega
   obtain ⟨F,hF⟩:=e_ (zP fs)
   have h9:=ho;rw [aT0] at h9;change aD aI.cs w.heap.size 95 5 wr _ (zP fs) at h9;rw [hF] at h9;have HS:=hid (show jN F from hF▸rY fs)
   have z3:=hid (show F.length<=100000 by
    have:=aEg (fs:=fs) (k:=fs.length) (P:=fun f=>inB f.d (-1000000) 1000000);rw [aT0] at this;rw [<-hF]
    exact aTb this hl)
   have q9:=hid h9;obtain ⟨oa,oc,rfl,-⟩:=aD.form h9;obtain ⟨HD,x6,h7⟩:=h3_ (show zL F=gP fs by rw [<-hF];rfl) (aTc wr 183 []) (show Ext wr (wr.alloc (.cells #[] 183)) from X_)
   obtain ⟨W2,z7⟩:=i_ wr
   rw [<-z7] at q9 x6 h7 HX zr ⊢;clear ho hx h9 hF z7;go_wp2
   go_loopw [6,7,8,29] (fun u t z x wr=>∃k:Nat,k<=F.length/\x = .int .i64 (k:Nat)/\t = .int .i64 (aX F k).2.1/\z = .int .i64 (aX F k).2.2/\aD aVw W2.heap.size 183 2 wr u (aX F k).1/\aD aI.cs w.heap.size 95 5 wr (.slice oa F.length oc) F/\Ext w wr/\W2.heap.size<=wr.heap.size) (fun _ _ _ x _=>F.length - (intOf x).toNat)
   case atStart=>exact ⟨0,by omega,rfl,rfl,rfl,aD.freshC (aS3 _) x6,q9.ext h7,HX.trans h7,h7.size⟩
   case round=>
    clear q9 x6 HX;obtain ⟨k,hk,rfl,rfl,rfl,hu,ho,hx,a2⟩:=hrel;have q4:=hid a2;obtain ⟨i1,i2,i3,i4,i5⟩:=aCn HS k hk
    obtain ⟨X,hX⟩:=e_ ((aX F k).1)
    obtain ⟨t,ht⟩:=e_ ((aX F k).2.1)
    obtain ⟨z,hz⟩:=e_ ((aX F k).2.2)
    have z8:=hX;rw [hX] at hu i5;rw [ht,hz] at i3;rw [ht,hz];obtain ⟨b2,b3,b4⟩:=i3;obtain ⟨HX,HT,HZ,HU,HF,HE⟩:=h6_ hX ht hz hu ho hx;have zw:=hx.size;obtain ⟨ua,uc,rfl,-⟩:=aD.form hu
    rcases aTz k F.length with hlt|hge
    ·obtain ⟨f,hf⟩:∃f,F[k]?=some f:=⟨_,aS9 hlt⟩
     obtain ⟨g,x9,he,-,y6,z0,y5,-,h0⟩:=aD.at ho (fun _=>rfl) hf;simp only [aTp,true_and] at he;obtain ⟨rfl,rfl⟩:=he;have c0:=h0 0 (by decide);have c1:=h0 1 (by decide);have c2:=h0 2 (by decide);have c3:=h0 3 (by decide);have c4:=h0 4 (by decide);simp only [aI.cs,aT7,aS0,aS1] at c0 c1 c2 c3 c4;have a3:=hid hf
     obtain ⟨ca,q5⟩:=e_ (aQ f.al 0 256)
     have ba:=xC f.al;rw [q5] at ba
     obtain ⟨p,hp⟩:=e_ (t*ca)
     have bp:0<=p/\p<=t*256:=hp▸⟨aUm b2 ba.1,aWx ba.2 b2⟩
     obtain ⟨q,hq⟩:=e_ (p / 256)
     have bq:0<=q/\q<=t:=by omega
     have hw:dN (aX F k).2.1 f.al=t - q:=by
      unfold dN;rw [ht,q5,hp,hq]
     have HA:=hid q5
     have i1 : -9223372036854775808<=p/\p<=9223372036854775807:=by omega
     obtain ⟨wt,y9⟩:=e_ (t - q)
     rw [y9] at hw;have HW:=hid hw
     have bw:0<=wt/\wt<=65536:=by omega
     obtain ⟨XB,ZU,z5⟩:=h3_ (show Ext wr (wr.alloc (.cells #[f.d,f.s,f.c,f.col,f.al] 95)) from X_) (show W2.heap.size<=wr.heap.size from q4) (show X.length<1000000 by have:=z3.out;omega)
     have z4:=hid (fun (h1:wE F k f=true) (h2:wt≠z)=>(show aX F (k+1)=(X++[⟨f.d,wt⟩],wt,wt) by
      have h:=aAm hf h1 (by rw [hw,hz];exact h2);rw [hw,hX] at h
      exact h))
     have x7:=hid (fun (h1 : ¬(wE F k f=true/\wt≠z))=>(show aX F (k+1)=(X,wt,z) by
      have h:=aCm hf (by rw [hw,hz];exact h1);rw [hw,hX,hz] at h
      exact h))
     clear hf h0 q5 hu hx hX ht hz hw ho i2 i4 z8 i5
     obtain ⟨eb,q3⟩:=e_ (wE F k f)
     have q1:=hid q3
     rcases aTz (k+1) F.length with hlt2|hge2
     ·obtain ⟨f2,z1⟩:∃f,F[k+1]?=some f:=⟨_,aS9 hlt2⟩
      obtain ⟨g2,y4,z9,-,-,-,-,-,h6⟩:=aD.at HF (fun _=>rfl) z1;simp only [aTp,true_and,aS5,aUb,and_true] at z9;obtain ⟨rfl,rfl⟩:=z9;have d0:=h6 0 (by decide);simp only [aI.cs,aT7,aS0,aS1] at d0
      have y8:(((k:Nat):Int)+1==((F.length:Nat):Int))=false:=by simp;omega
      have q6:decide (f2.d≠f.d)=eb:=by rw [<-q3];unfold wE;rw [z1]
      clear h6 z1 q3
      cases eb
      ·have hd:f2.d=f.d:=by simpa using q6
       clear q6;go_wp2_with (go_at_call 77;refine z_ (cO HA _) ?_)
       go_quiet (fail)
       go_wp2;go_roundw
       case rel=>
        have h3:=x7.out (by rw [q1];simp);exact ⟨k+1,by omega,by go_num,by rw [h3],by rw [h3],by rw [h3];exact HU.ext (XB.trans X_),HF.ext (XB.trans X_),HE.trans (XB.trans X_),aTb q4 (XB.trans (w2:=_) X_).size⟩
       case measure=>simp [intOf];omega
      ·have hd : ¬f2.d=f.d:=by simpa using q6
       have a4:(f2.d==f.d)=false:=by simpa using hd
       have a5:(f2.d != f.d)=true:=by simpa using hd
       clear q6
       by_cases hz:wt=z
       ·subst hz
        go_wp2_with (go_at_call 77;refine z_ (cO HA _) ?_)
        go_quiet (fail)
        go_wp2;go_roundw
        case rel=>
         have h3:=x7.out (by rw [q1];simp);exact ⟨k+1,by omega,by go_num,by rw [h3],by rw [h3],by rw [h3];exact HU.ext (XB.trans X_),HF.ext (XB.trans X_),HE.trans (XB.trans X_),aTb q4 (XB.trans (w2:=_) X_).size⟩
        case measure=>simp [intOf];omega
       ·have a0:(wt==z)=false:=by simpa using hz
        have a1:(wt != z)=true:=by simpa using hz
        have x8:=hid hz;go_wp2_with (go_at_call 77;refine z_ (cO HA _) ?_)
        go_quiet (fail)
        obtain ⟨WD,h8⟩:=e_ ((wr.alloc (.cells #[f.d,f.s,f.c,f.col,f.al] 95)).drewN nq)
        have xd:Ext (wr.alloc (.cells #[f.d,f.s,f.c,f.col,f.al] 95)) WD:=h8▸(aTd _).drewN nq;rw [h8];have bF:=(aTc wr 95 [f.d,f.s,f.c,f.col,f.al]).ext xd;have e0:=bF.cell 0 rfl;have el:=bF.lt;obtain ⟨XD,q0,XN⟩:=h3_ (XB.trans xd) (aTc WD 183 [f.d,wt]) (show Ext WD (WD.alloc (.cells #[f.d,wt] 183)) from X_);obtain ⟨q2,q8,q7⟩:=h3_ (HU.ext (XD.trans XN)) (HF.ext (XD.trans XN)) (HE.trans (XD.trans XN));have zN:=(HE.trans XD).size;have zM:=h7.size;have zO:=XD.size;have h5:=hid (show W2.heap.size<=(WD.alloc (.cells #[f.d,wt] 183)).heap.size by have:=ZU.out;simp;omega);clear h8 xd bF
        go_wp2_with (at_builtin;refine cA aVw 183 2 16 _ _ rfl _ _ 101 rfl underlying101 qE rfl (by decide) (by decide) (fun _=>rfl) W2.heap.size (.slice ua X.length uc) X rfl q2 ⟨f.d,wt⟩ WD.heap.size rfl (fun jj hj=>by
          rcases (show jj=0\/jj=1 by omega) with rfl|rfl
          ·exact q0.cell 0 rfl
          ·exact q0.cell 1 rfl) (Stp.one _) z5 h5 ?_;intro v2 w2 hown hg)
        have h4:=aD.rowE q2;have h3:=z4.out q1 x8;obtain ⟨x0,x1,x2,x4,HH⟩:=h5_ (show aD aVw W2.heap.size 183 2 w2 v2 (aX F (k+1)).1 by rw [h3];exact hown) (q8.grownE hg (by decide) (fun k e=>(h4 k e).2)) (aUd q7 hg (fun k e=>by have:=(h4 k e).1;omega)) (show W2.heap.size<=w2.heap.size from aTb h5 hg.size) h3;clear hown hg h4 h3;go_wp2;go_roundw
        case rel=>exact ⟨k+1,by omega,by go_num,by rw [HH],by rw [HH],x0,x1,x2,x4⟩
        case measure=>simp [intOf];omega
     ·have y0:F[k+1]?=none:=aV8 (by omega)
      have y8:((k:Nat):Int)+1=((F.length:Nat):Int):=by omega
      obtain rfl:eb=true:=by rw [<-q3];unfold wE;rw [y0]
      clear y0 q3
      by_cases hz:wt=z
      ·subst hz
       go_wp2_with (go_at_call 77;refine z_ (cO HA _) ?_)
       go_quiet (fail)
       go_wp2;go_roundw
       case rel=>
        have h3:=x7.out (by rw [q1];simp);exact ⟨k+1,by omega,by go_num,by rw [h3],by rw [h3],by rw [h3];exact HU.ext (XB.trans X_),HF.ext (XB.trans X_),HE.trans (XB.trans X_),aTb q4 (XB.trans (w2:=_) X_).size⟩
       case measure=>simp [intOf];omega
      ·have a0:(wt==z)=false:=by simpa using hz
       have a1:(wt != z)=true:=by simpa using hz
       have x8:=hid hz;go_wp2_with (go_at_call 77;refine z_ (cO HA _) ?_)
       go_quiet (fail)
       obtain ⟨WD,h8⟩:=e_ ((wr.alloc (.cells #[f.d,f.s,f.c,f.col,f.al] 95)).drewN nq)
       have xd:Ext (wr.alloc (.cells #[f.d,f.s,f.c,f.col,f.al] 95)) WD:=h8▸(aTd _).drewN nq;rw [h8];have bF:=(aTc wr 95 [f.d,f.s,f.c,f.col,f.al]).ext xd;have e0:=bF.cell 0 rfl;have el:=bF.lt;obtain ⟨XD,q0,XN⟩:=h3_ (XB.trans xd) (aTc WD 183 [f.d,wt]) (show Ext WD (WD.alloc (.cells #[f.d,wt] 183)) from X_);obtain ⟨q2,q8,q7⟩:=h3_ (HU.ext (XD.trans XN)) (HF.ext (XD.trans XN)) (HE.trans (XD.trans XN));have zN:=(HE.trans XD).size;have zM:=h7.size;have zO:=XD.size;have h5:=hid (show W2.heap.size<=(WD.alloc (.cells #[f.d,wt] 183)).heap.size by have:=ZU.out;simp;omega);clear h8 xd bF
       go_wp2_with (at_builtin;refine cA aVw 183 2 16 _ _ rfl _ _ 101 rfl underlying101 qE rfl (by decide) (by decide) (fun _=>rfl) W2.heap.size (.slice ua X.length uc) X rfl q2 ⟨f.d,wt⟩ WD.heap.size rfl (fun jj hj=>by
         rcases (show jj=0\/jj=1 by omega) with rfl|rfl
         ·exact q0.cell 0 rfl
         ·exact q0.cell 1 rfl) (Stp.one _) z5 h5 ?_;intro v2 w2 hown hg)
       have h4:=aD.rowE q2;have h3:=z4.out q1 x8;obtain ⟨x0,x1,x2,x4,HH⟩:=h5_ (show aD aVw W2.heap.size 183 2 w2 v2 (aX F (k+1)).1 by rw [h3];exact hown) (q8.grownE hg (by decide) (fun k e=>(h4 k e).2)) (aUd q7 hg (fun k e=>by have:=(h4 k e).1;omega)) (show W2.heap.size<=w2.heap.size from aTb h5 hg.size) h3;clear hown hg h4 h3;go_wp2;go_roundw
       case rel=>exact ⟨k+1,by omega,by go_num,by rw [HH],by rw [HH],x0,x1,x2,x4⟩
       case measure=>simp [intOf];omega
    ·obtain rfl:k=F.length:=by omega
     obtain ⟨HC,y3⟩:=h2_ (show X.take 64=zL F by rw [aIu HS,HX]) (show X.length<=100000 by have:=z3.out;omega);clear hu hx ho hX ht hz z8;go_wp2_with fail;refine (aNt (HU.low (lo':=w.heap.size) (by have:=h7.size;omega)) y3 (by omega)).mono ?_;rintro e w5 ⟨r,rfl,hr,x5⟩
     have z2:aD aVw w.heap.size 183 2 w5 r (gP fs):=by rw [<-HD,<-HC];exact hr
     obtain ⟨ra,rc,rfl,-⟩:=aD.form z2;have y2:=hid z2;clear z2;have X5:=hid (HE.trans x5);clear hr x5;go_wp2;go_ret;exact ⟨_,rfl,y2,X5⟩
theorem aLt {xs:List Int} (h:∀x∈xs,0<=x/\x<=256) (hn:0<xs.length):aZf (nE xs) (xs.length:Nat)=zS xs:=by
 have:=(aD3 h).1;unfold zS bU;rw [if_neg (by omega),aUp this]
open Classical in
noncomputable def Scn.dps (s:Scn) (i j:Int):List (List Stp):=if (s.okB&&(inB i 0 (s.c.w - 1)&&inB j 0 (s.c.h - 1)))=true then s.deeps i j s.side.toNat (s.side.toNat*s.side.toNat) else []
theorem Scn.dps_cases {s:Scn} {L:List (List Stp)} (h:s.dps i j=L):(∃sd,aNr s i j sd/\L=s.deeps i j sd (sd*sd))\/((s.okB&&(inB i 0 (s.c.w - 1)&&inB j 0 (s.c.h - 1)))=false/\L=[]):=by
 unfold Scn.dps at h
 split at h
 ·rename_i h1
  exact .inl ⟨_,aNs h1,h.symm⟩
 ·rename_i h1
  exact .inr ⟨by simpa using h1,h.symm⟩
theorem Scn.dps_ok {s:Scn} {L:List (List Stp)} (h:s.dps i j=L):(∀l∈L,kU l)/\L.length<=16:=by
 rcases Scn.dps_cases h with ⟨sd,hp,rfl⟩|⟨-,rfl⟩
 ·exact ⟨Scn.deeps_ok,by rw [Scn.deeps_len (aS3 _)];rcases hp.s3 with rfl|rfl|rfl <;> decide⟩
 ·simp
theorem dY.none:dY lo w (.slice none 0 0) []:=⟨[],rfl,aD.nil _ _ _ _ _,fun k u l hu=>by simp at hu⟩
theorem dO.same {v2:Value} {rows:List (List Int)} (h:dO lo w v v2 rows) (hz:w.heap.size<=w'.heap.size) (k:∀b,lo<=b->b<w.heap.size->w'.heap[b]?=w.heap[b]?):dO lo w' v v2 rows:=by
 obtain ⟨us,h1,h2,h3⟩:=h;refine ⟨us,h1,aD.of h2 fun b c hb hc=>(k b hb (aTn.1 hc).1).trans hc,fun q u r hu hr=>?_⟩;obtain ⟨l,h,a0,a1,a2,a3,a4⟩:=h3 q u r hu hr;exact ⟨l,h,a0,aTb a1 hz,a2.same fun b b1 b2=>k b (by omega) (by omega),a3,a4⟩
theorem aAd.same {s:Scn} {j:Nat} (h:aAd s lo w cv av j) (hz:w.heap.size<=w'.heap.size) (k:∀b,lo<=b->b<w.heap.size->w'.heap[b]?=w.heap[b]?):aAd s lo w' cv av j:=⟨h.c.same hz k,h.a.same hz k,h.ap⟩
theorem aBp (s:Scn) (lo hi:Nat) (v:Value) (i j:Int) (w:World) (hv:s.R lo hi w v) (hh:hi<=w.heap.size) (hsm:s.small) (hb:(s.okB&&(inB i 0 (s.c.w - 1)&&inB j 0 (s.c.h - 1)))=false) :
  R_ 28 #[v,i,j] w (.slice none 0 0):=by
 obtain ⟨HV,q8⟩:=h2_ hv hsm;obtain ⟨a1,c1,a2,c2,a3,c3,rfl⟩:=hv.formV
 obtain ⟨b0,q5⟩:=e_ s.okB
 obtain ⟨b1,q6⟩:=e_ (inB i 0 (s.c.w - 1))
 obtain ⟨b2,q7⟩:=e_ (inB j 0 (s.c.h - 1))
 obtain ⟨H0,H1,H2,HB⟩:=h4_ q5 q6 q7 hb;clear hv hsm hb q5 q6 q7;have x0:Ext w (w.alloc (.cells (sA_ s a1 c1 a2 c2 a3 c3) 40)):=X_;have bS:=(aTc w 40 (sL_ s a1 c1 a2 c2 a3 c3)).ext (show Ext _ (w.alloc (.cells (sA_ s a1 c1 a2 c2 a3 c3) 40)) from X_)
 try simp only [aS4] at bS
 obtain ⟨W0,h3⟩:=e_ (w.alloc (.cells (sA_ s a1 c1 a2 c2 a3 c3) 40))
 rw [h3] at x0 bS;obtain ⟨h2,q9⟩:=h2_ x0 h3;have z0:=bS.lt;have q4:=hid bS;clear x0 h3 bS;go_enter func28,ntmps28;go_upto_region 1 with fail;rw [q9];have bq:=q4.ext (aTd _);obtain ⟨h4,h5,h6,h7,h8,h9,q0,q1,q2,q3,h0,h1⟩:=bq.q12;have sl:=bq.lt;clear bq;go_wp2_with fail;have CH:=lP s lo hi _ _ (HV.ext hh h2) (aTb hh h2.size) q8;rw [H0] at CH;refine CH.mono ?_;clear CH;rintro e w3 ⟨rfl,x3⟩;have X3:=hid x3;clear x3;clear sl h4 h5 h6 h7 h8 h9 q0 q1 q2 q3 h0 h1;have bq:=q4.ext X3;obtain ⟨h4,h5,h6,h7,h8,h9,q0,q1,q2,q3,h0,h1⟩:=bq.q12;have sl:=bq.lt;clear bq
 cases b0
 ·go_wp2
  go_ret;exact ⟨rfl,h2.trans X3⟩
 ·have ho:=Scn.okB_iff.1 H0
  have x2:=ho.c.w;have x1:=ho.c.h;clear ho;go_wp2_with fail;refine r_ (aEh s.c i j H1 H2 (by omega) (by omega) _) fun w4 x4=>?_;have X4:=hid (X3.trans x4);clear x4;clear sl h4 h5 h6 h7 h8 h9 q0 q1 q2 q3 h0 h1
  have hf:(b1&&b2)=false:=by
   have h:=HB.out;rw [H0,H1,H2,Bool.true_and] at h;exact h
  rw [hf];clear hf;go_wp2;go_ret;exact ⟨rfl,h2.trans X4⟩
theorem aAn (lo hi:Nat) (v:Value) (s:Scn) (i j:Int) (w:World) {L:List (List Stp)} (hL:s.dps i j=L) (hv:s.R lo hi w v) (hh:hi<=w.heap.size) (hsm:s.small) :
  Calls aS7 28 #[v,i,j] w fun e w'=>∃r,e = .returned r/\dY w.heap.size w' r L/\Ext w w':=by
 rcases Scn.dps_cases hL with ⟨sd,hp,rfl⟩|⟨hb,rfl⟩
 ·exact aAl s lo hi v i j sd w hv hh hp.o hsm hp.hsd hp.hi hp.hj
 ·refine (aBp s lo hi v i j w hv hh hsm hb).mono ?_
  rintro e w' ⟨rfl,x⟩;exact ⟨_,rfl,dY.none,x⟩
theorem aAo (lo hi:Nat) (v:Value) (s:Scn) (i j z:Int) (w:World) {q0:Int} (hz:aLj (s.dps i j) z=q0) (hv:s.R lo hi w v) (hh:hi<=w.heap.size) (hsm:s.small) :
  R_ 26 #[v,i,j,z] w (.int .i64 q0):=by
 obtain ⟨HV,x2⟩:=h2_ hv hsm;obtain ⟨a1,c1,a2,c2,a3,c3,rfl⟩:=hv.formV
 obtain ⟨LS,h4⟩:=e_ (s.dps i j)
 rw [h4] at hz;have HZ:=hid hz;obtain ⟨q6,y8⟩:=Scn.dps_ok h4;obtain ⟨q9,h3⟩:=h2_ h4 q6;clear hv hsm hz h4;have x0:Ext w (w.alloc (.cells (sA_ s a1 c1 a2 c2 a3 c3) 40)):=X_;have bS:=(aTc w 40 (sL_ s a1 c1 a2 c2 a3 c3)).ext (show Ext _ (w.alloc (.cells (sA_ s a1 c1 a2 c2 a3 c3) 40)) from X_)
 try simp only [aS4] at bS
 obtain ⟨W0,q1⟩:=e_ (w.alloc (.cells (sA_ s a1 c1 a2 c2 a3 c3) 40))
 rw [q1] at x0 bS;obtain ⟨x9,x8⟩:=h2_ x0 q1;have z0:=bS.lt;have x1:=hid bS;clear x0 q1 bS;go_enter func26,ntmps26;go_upto_region 1 with fail;rw [x8];have bD:=aTc W0 3 [];have HD:=hid bD;clear bD;have bq:=x1.ext (aTd _);obtain ⟨z5,z6,z7,z8,z9,y0,y1,y2,y3,y4,q4,q5⟩:=bq.q12;have sl:=bq.lt;clear bq;go_wp2_with fail;have XA:=hid (x9.trans (show Ext W0 (W0.alloc (.cells #[] 3)) from X_));have CH:=aAn lo hi _ s i j _ q9 (HV.ext hh XA) (aTb hh XA.size) x2;refine CH.mono ?_;clear CH;rintro e w3 ⟨r,rfl,hr,x3⟩;obtain ⟨ra,rc,rfl⟩:=hr.form;obtain ⟨HR,X3,h6⟩:=h3_ hr (XA.trans x3) (HD.ext x3);have z3:W0.heap.size<w3.heap.size:=h6.lt;clear q6 hr x3;clear sl z5 z6 z7 z8 z9 y0 y1 y2 y3 y4 q4 q5;go_wp2
 go_loopw [9,18] (fun u x wr=>∃k:Nat,k<=LS.length/\x = .int .i64 (k:Nat)/\aB W0.heap.size wr u ((LS.take k).map fun l=>fT l z)/\KN W0.heap.size W0.heap.size 3 w3 wr) (fun _ x _=>LS.length - (intOf x).toNat)
 case atStart=>exact ⟨0,by omega,rfl,aB.freshO (aS3 _) h6,KN.refl _ _ _ _⟩
 case round=>
  obtain ⟨k,hk,rfl,hu,h5⟩:=hrel;obtain ⟨h7,HU⟩:=h2_ h5 hu;obtain ⟨ua,uc,rfl,-⟩:=hu.form
  have h2:((LS.take k).map fun l=>fT l z).length=k:=by rw [aT9,aTr];omega
  obtain ⟨x7,XW⟩:=h2_ h2 (h7.up X3 (aVy z0));have zr:=h5.size
  rcases aTz k LS.length with hlt|hge
  ·obtain ⟨l,hl⟩:∃l,LS[k]?=some l:=⟨_,aS9 hlt⟩
   obtain ⟨gq,cq,u,he,y7,z1,y6,c0,q3⟩:=dY.at (dY.kn HR h7 (fun t ht c=>h6.noCells ht c)) hl;simp only [aTp,true_and] at he;obtain ⟨rfl,rfl⟩:=he;obtain ⟨va,vc,rfl,-⟩:=aD.form q3;have hS:=h3.out l (aTq hl);have hb:=tJ hS z;have z2:=hS.trans_bd z
   obtain ⟨t,ht⟩:=e_ (mG l z)
   obtain ⟨q,hq⟩:=e_ ((65536 - t) / 256)
   have q2:fT l z=q:=by unfold fT;rw [ht];exact hq
   rw [q2] at hb;rw [ht] at z2
   have y9:aZf (65536 - t) 256=q:=by rw [aUp (by omega)];exact hq
   have q7:((LS.take (k+1)).map fun l=>fT l z)=((LS.take k).map fun l=>fT l z)++[q]:=by
    obtain ⟨z4,rfl⟩:=aS2.1 hl;rw [aTv z4,aU0,aWb,q2]
   obtain ⟨x4,HT,HS,x6⟩:=h4_ q7 ht hS q3;rw [h2];have h8:Hid (aB W0.heap.size wr (.slice ua k uc) ((LS.take k).map fun l=>fT l z)):=hid (by have h':=hu;rw [h2] at h';exact h');clear hu q3 hl q2 q7 ht hS h5 h2 hq HU;go_wp2_with fail;refine (sA x6 HS z).mono ?_;rw [HT];rintro e w5 ⟨rfl,x5⟩;have y5:Ext w5 (w5.alloc (.cells #[q] 3)):=X_;obtain ⟨B5,X5,h9,Z5,I5,L5⟩:=h6_ (aTc w5 3 [q]) (x5.trans y5) (h8.ext (x5.trans y5)) (show W0.heap.size<=(w5.alloc (.cells #[q] 3)).heap.size by have:=(x5.trans y5).size;omega) (show I64 q from ⟨by omega,by omega⟩) (show ((LS.take k).map fun l=>fT l z).length<1000000000 by rw [x7];omega);clear x5 y5;go_wp2_with (at_builtin;refine aU _ rfl _ _ rfl W0.heap.size (.slice ua k uc) ((LS.take k).map fun l=>fT l z) rfl h9 q I5 w5.heap.size rfl (B5.cell 0 rfl) L5 Z5 ?_;intro v9 w9 hown hg)
   have K9:=hid ((h7.ext X5).grown hg (fun k' hk'=>by
    have h1:=h9.lt k' hk';obtain ⟨c,hc⟩:=h9.block hk'
    exact ⟨h1.1,c,hc⟩))
   have P:=hid hown;clear hown hg;go_wp2;go_roundw
   case rel=>exact ⟨k+1,by omega,by go_num,by rw [x4];exact P,K9⟩
   case measure=>simp [intOf];omega
  ·obtain rfl:k=LS.length:=by omega
   have h0:((LS.take LS.length).map fun l=>fT l z)=LS.map fun l=>fT l z:=by rw [aT0]
   rw [h2];have h8:Hid (aB W0.heap.size wr (.slice ua LS.length uc) (LS.map fun l=>fT l z)):=hid (by have h':=hu;rw [h2,h0] at h';exact h')
   have HM:=hid (show ∀x∈LS.map (fun l=>fT l z),0<=x/\x<=256 from fun x hx=>by
    obtain ⟨l,hm,rfl⟩:=aU2.1 hx
    exact tJ (h3 l hm) z)
   have q8:=hid (show (LS.map fun l=>fT l z).length<=1000 by rw [aT9];omega);clear hu h5 h2 h0;go_wp2_with fail;refine z_ (aLr 0 _ _ _ _ (h8.ints.wide (aUl _) (aS3 _)) HM q8) ?_;go_wp2;go_ret;exact ⟨cQ (by rw [<-HZ];rfl),XW⟩
theorem aAp (lo hi:Nat) (v:Value) (s:Scn) (i j:Int) (w:World) {L:List (List Stp)} (hL:s.dps i j=L) (hv:s.R lo hi w v) (hh:hi<=w.heap.size) (hsm:s.small) :
  Calls aS7 27 #[v,i,j] w fun e w'=>∃r,e = .returned r/\dY w.heap.size w' r L/\Ext w w':=by
 obtain ⟨HQ,HV,a5⟩:=h3_ (Scn.dps_cases hL) hv hsm;obtain ⟨a1,c1,a2,c2,a3,c3,rfl⟩:=hv.formV
 obtain ⟨b0,a9⟩:=e_ s.okB
 obtain ⟨b1,b3⟩:=e_ (inB i 0 (s.c.w - 1))
 obtain ⟨b2,b4⟩:=e_ (inB j 0 (s.c.h - 1))
 obtain ⟨H0,H1,H2⟩:=h3_ a9 b3 b4;clear hv hsm hL a9 b3 b4;have x0:Ext w (w.alloc (.cells (sA_ s a1 c1 a2 c2 a3 c3) 40)):=X_;have bS:=(aTc w 40 (sL_ s a1 c1 a2 c2 a3 c3)).ext (show Ext _ (w.alloc (.cells (sA_ s a1 c1 a2 c2 a3 c3) 40)) from X_)
 try simp only [aS4] at bS
 obtain ⟨W0,y2⟩:=e_ (w.alloc (.cells (sA_ s a1 c1 a2 c2 a3 c3) 40))
 rw [y2] at x0 bS;obtain ⟨q9,e2⟩:=h2_ x0 y2;have z0:=bS.lt;have x4:=hid bS;clear x0 y2 bS;obtain ⟨HD,a6⟩:=h2_ (aTc W0 101 []) (show Ext W0 (W0.alloc (.cells #[] 101)) from X_);go_enter func27,ntmps27;go_upto_region 1 with fail;rw [e2];have bq:=x4.ext (aTd _);obtain ⟨h8,h9,q0,q1,q3,q4,q5,q6,q7,q8,h5,h4⟩:=bq.q12;have sl:=bq.lt;clear bq;go_wp2_with fail;have XA:=hid (q9.trans a6);have CH:=lS s lo hi _ _ (HV.ext hh XA) (aTb hh XA.size) a5;rw [H0] at CH;refine CH.mono ?_;clear CH;rintro e w3 ⟨rfl,x3⟩;obtain ⟨X3,x2⟩:=h2_ (a6.trans x3) (HD.ext x3);clear x3;clear sl h8 h9 q0 q1 q3 q4 q5 q6 q7 q8 h5 h4;have bq:=x4.ext X3;obtain ⟨h8,h9,q0,q1,q3,q4,q5,q6,q7,q8,h5,h4⟩:=bq.q12;have sl:=bq.lt;clear bq
 cases b0
 ·skip
  have hL:L=[]:=by
   rcases HQ with ⟨sd,hp,-⟩|⟨-,h⟩
   ·have h1:=aG.2 (show 0<=i/\i<=s.c.w - 1 by have:=hp.hi;omega)
    have h2:=aG.2 (show 0<=j/\j<=s.c.h - 1 by have:=hp.hj;omega);have h0:=Scn.okB_iff.2 hp.o;rw [H0] at h0;exact absurd h0 (by decide)
   ·exact h
  subst hL;go_wp2;go_ret;exact ⟨_,rfl,dY.none,q9.trans X3⟩
 ·have ho:=Scn.okB_iff.1 H0
  have g2:=ho.c.w;have g0:=ho.c.h;clear ho;go_wp2_with fail;refine z_ (aE H1 _) ?_
  cases b1
  ·skip
   have hL:L=[]:=by
    rcases HQ with ⟨sd,hp,-⟩|⟨-,h⟩
    ·have h1:=aG.2 (show 0<=i/\i<=s.c.w - 1 by have:=hp.hi;omega)
     have h2:=aG.2 (show 0<=j/\j<=s.c.h - 1 by have:=hp.hj;omega);have h0:=Scn.okB_iff.2 hp.o;rw [H1] at h1;exact absurd h1 (by decide)
    ·exact h
   subst hL;go_wp2;go_ret;exact ⟨_,rfl,dY.none,q9.trans X3⟩
  ·go_wp2_with fail
   refine z_ (aE H2 _) ?_
   cases b2
   ·skip
    have hL:L=[]:=by
     rcases HQ with ⟨sd,hp,-⟩|⟨-,h⟩
     ·have h1:=aG.2 (show 0<=i/\i<=s.c.w - 1 by have:=hp.hi;omega)
      have h2:=aG.2 (show 0<=j/\j<=s.c.h - 1 by have:=hp.hj;omega);have h0:=Scn.okB_iff.2 hp.o;rw [H2] at h2;exact absurd h2 (by decide)
     ·exact h
    subst hL;go_wp2;go_ret;exact ⟨_,rfl,dY.none,q9.trans X3⟩
   ·skip
    have hp:∃sd,aNr s i j sd/\L=s.deeps i j sd (sd*sd):=by
     rcases HQ with h|⟨h,-⟩
     ·exact h
     ·rw [H0,H1,H2] at h
      exact absurd h (by decide)
    obtain ⟨sd,hp,rfl⟩:=hp;have HP:=hid hp;have g3:=hp.hi;have g4:=hp.hj;clear hp;go_wp2_with fail;have a8:=hid (q9.trans X3);refine (aNn s lo hi _ _ (HV.ext hh a8) (aTb hh a8.size) HP.o a5).mono ?_;rintro e w5 ⟨cv,av,rfl,hd,x5⟩;obtain ⟨xa,xc,ya,yc,rfl,rfl⟩:=hd.rd.forms;have d8:=hid hd;have y5:Ext w5 (w5.alloc (.cells #[.slice xa s.m xc,.slice ya s.m yc] 78)):=X_;obtain ⟨b7,X5,c4⟩:=h3_ ((aTc w5 78 [.slice xa s.m xc,.slice ya s.m yc])) (X3.trans (x5.trans y5)) ((x2.ext x5).ext y5);have g6:=x5.size;have z3:=x2.lt;clear hd x5 y5;clear sl h8 h9 q0 q1 q3 q4 q5 q6 q7 q8 h5 h4;have bq:=x4.ext X5;obtain ⟨h8,h9,q0,q1,q3,q4,q5,q6,q7,q8,h5,h4⟩:=bq.q12;have sl:=bq.lt;clear bq;rw [HP.hsd] at h4;go_wp2_with fail;have CP:=tK s.c HP.o.cb i j HP.hi HP.hj sd HP.s3 (w5.alloc (.cells #[.slice xa s.m xc,.slice ya s.m yc] 78));refine CP.mono ?_;clear CP;rintro e w6 ⟨q,rfl,hq,x6⟩;obtain ⟨qa,qc,rfl,-⟩:=hq.form;rw [gG];obtain ⟨z9,X6⟩:=h2_ (hq.low (lo':=W0.heap.size+1) (by rw [aS4];omega)) (X5.trans x6);obtain ⟨a4,z2,c5,y0⟩:=h4_ (x4.ext X6) (b7.ext x6) (c4.ext x6) (d8.ext (aS8 (show Ext w5 (w5.alloc (.cells #[.slice xa s.m xc,.slice ya s.m yc] 78)) from X_) x6));have z6:=z2.lt;have e3:=hid (q9.trans X6);clear hq x6;clear sl h8 h9 q0 q1 q3 q4 q5 q6 q7 q8 h5 h4
    obtain ⟨N,hN⟩:=e_ (sd*sd)
    have e6:N<=16:=by rw [<-hN];rcases HP.s3 with rfl|rfl|rfl <;> decide
    have HN:=hid hN;rw [hN];clear hN;go_wp2
    go_loopw [7,43] (fun u x wr=>∃k:Nat,k<=N/\x = .int .i64 (k:Nat)/\dY W0.heap.size wr u (s.deeps i j sd k)/\(∀b,u.ownBlock=some b->b=W0.heap.size\/w6.heap.size<=b)/\w6.heap.size<=wr.heap.size/\(∀b,b<w6.heap.size->b≠W0.heap.size->wr.heap[b]?=w6.heap[b]?)/\Ext w wr) (fun _ x _=>N - (intOf x).toNat)
    case atStart=>exact ⟨0,by omega,rfl,⟨[],rfl,aD.freshS (aS3 _) c5,fun k u l hu=>by simp at hu⟩,fun b e=>.inl (aUy e).symm,aS3 _,fun _ _ _=>rfl,e3⟩
    case round=>
     obtain ⟨k,hk,rfl,b5,h6,zr,h7,hx⟩:=hrel;obtain ⟨c7,x1,d7,XW⟩:=h4_ b5 h6 h7 hx;obtain ⟨ds,z1,x9,y3⟩:=b5;rw [Scn.deeps_len (by rw [HN];exact hk)] at z1;obtain ⟨da,dc,rfl,-⟩:=x9.form
     rcases aTz k N with hlt|hge
     ·have hq:=aD.keptBlk (w':=wr) z9 (fun b e=>h7 b (z9.lt b e).2 (by have:=(z9.lt b e).1;omega))
      have hS:Blk wr w.heap.size 40 (sL_ s a1 c1 a2 c2 a3 c3):=a4.of (h7 _ a4.lt (by omega));have hA:Blk wr w5.heap.size 78 [.slice xa s.m xc,.slice ya s.m yc]:=z2.of (h7 _ z2.lt (by omega));have c8:=hid (y0.same zr (fun b b1 b2=>h7 b b2 (by omega))).rd
      obtain ⟨p,hp⟩:∃p,(tH i j sd)[k]?=some p:=⟨_,aS9 (by rw [gG,HN];exact hlt)⟩
      have b6:p.okB s.c=true:=by
       have h1:=(aS2.1 hp).2;unfold tH at h1;rw [aWt,aV0] at h1;rw [<-h1];exact aJs HP.o.cb HP.hi HP.hj HP.s3 (by rw [HN];exact hlt)
      have d9:=hid (Scn.deeps_succ (s:=s) hp);obtain ⟨gq,cq,he,-,e9,y1,e8,-,h3⟩:=aD.at hq (fun _=>rfl) hp;rw [show (tH i j sd).length=N by rw [gG];exact HN] at he y1;simp only [aTp,true_and] at he;obtain ⟨rfl,rfl⟩:=he;have d0:=h3 0 (by decide);have d1:=h3 1 (by decide);have d2:=h3 2 (by decide);have d3:=h3 3 (by decide);have d4:=h3 4 (by decide);simp only [Smp.cs,aT7,aS0,aS1] at d0 d1 d2 d3 d4;obtain ⟨z7,z4,x2,a0,e0,d5,XS⟩:=h7_ b6 x9 y3 z1 hS hA (show Ext wr (wr.alloc (.cells #[p.x,p.y,p.t,p.lx,p.ly] 42)) from X_);clear hq hS hA hp b6 h3 x9 y3 h6 h7 hx z1;have bq:=e0.ext XS;obtain ⟨h8,h9,q0,q1,q3,q4,q5,q6,q7,q8,h5,h4⟩:=bq.q12;have sl:=bq.lt;clear bq;have bq:=d5.ext XS;obtain ⟨e4,e5⟩:=bq.q2;have dl:=bq.lt;clear bq;go_upto_region 8 with fail;go_wp2_with fail;have a7:=hid (XW.trans XS);have CH:=aGh s lo hi _ _ _ _ p _ (HV.ext hh a7) (aTb hh a7.size) HP.o z7 (c8.ext XS);refine CH.mono ?_;clear CH;rintro e w7 ⟨f1,rfl,y4,x7⟩;obtain ⟨d6,X7,e7⟩:=h3_ y4 (XS.trans x7) (HP.o.seen_le p);obtain ⟨fa,fc,rfl,-⟩:=aD.form y4;clear y4 x7 d0 d1 d2 d3 d4;clear sl dl e4 e5 h8 h9 q0 q1 q3 q4 q5 q6 q7 q8 h5 h4;go_wp2_with fail;refine (aGn d6 e7.out).mono ?_;rintro e w8 ⟨g1,rfl,y7,x8⟩;obtain ⟨ga,gc,rfl,-⟩:=aD.form y7;have X8:=hid (X7.trans x8);have g5:=X7.size;have y8:Ext w8 (w8.alloc (.cells #[.slice ga (gP (s.seen p)).length gc] 101)):=X_;obtain ⟨b8,Y8,O8,y9,z5,c9⟩:=h6_ (aTc w8 101 [.slice ga (gP (s.seen p)).length gc]) y8 ((aD.low y7 (show W0.heap.size<=w7.heap.size by omega)).ext y8) (z4.ext (X8.trans y8)) (fun a u l hu hl=>(x2 a u l hu hl).ext (X8.trans y8)) (show ds.length<1000000 by have:=a0.out;omega);have z8:=aTb (X8.size) y8.size;obtain ⟨Z8,c6⟩:=h2_ (show W0.heap.size<=(w8.alloc (.cells #[.slice ga (gP (s.seen p)).length gc] 101)).heap.size by omega) (fun b e=>(z4.lt b e).2);clear y7 x8 y8
      have b9:Hid (∀j,j<1->(w8.alloc (.cells #[.slice ga (gP (s.seen p)).length gc] 101)).cell? ⟨w8.heap.size,j,none⟩=[Value.slice ga (gP (s.seen p)).length gc][j]?):=hid (fun j hj=>by
       obtain rfl:j=0:=by omega
       exact b8.cell 0 rfl)
      have c0:Hid (∀u∈[Value.slice ga (gP (s.seen p)).length gc],u.oneCell'=true):=hid (fun u hu=>by
       rw [aU3] at hu;subst hu
       rfl)
      go_wp2_with (at_builtin;refine gL (fun u=>[u]) 101 1 24 _ _ rfl _ _ 57 rfl underlying57 aCl rfl (by decide) (by decide) (fun _=>rfl) W0.heap.size (.slice da ds.length dc) ds rfl y9 (.slice ga (gP (s.seen p)).length gc) w8.heap.size rfl b9 c0 c9 Z8 ?_;intro v9 w9 hown hg hat);have P:=hid (dY.push (by rw [a0,Scn.deeps_len (by rw [HN];exact hk)]) y9 z5 O8 hg hown)
      have Q1:=hid (show ∀b,v9.ownBlock=some b->b=W0.heap.size\/w6.heap.size<=b from fun b e=>by
       rcases hat b e with h|h
       ·exact x1 b h
       ·right;omega)
      have Q2:=hid (show w6.heap.size<=w9.heap.size by have:=hg.size;omega)
      have Q3:=hid (show ∀b,b<w6.heap.size->b≠W0.heap.size->w9.heap[b]?=w6.heap[b]? from fun b b1 b2=>by
       have e1:=hg.block b (by omega) (fun e=>by
        rcases x1 b e.symm with h|h <;> omega)
       exact (e1.trans ((X8.trans Y8).block (by omega))).trans (d7 b b1 b2))
      have Q4:=hid (aUd (XW.trans (X8.trans Y8)) hg (fun b e=>by
       have:=(z4.lt b e).1
       omega))
      clear hown hg hat;go_wp2;go_roundw
      case rel=>exact ⟨k+1,by omega,by go_num,by rw [d9];exact P,Q1,Q2,Q3,Q4⟩
      case measure=>simp [intOf];omega
     ·obtain rfl:k=N:=by omega
      have y6:=hid (c7.low (show w.heap.size<=W0.heap.size by omega));clear z1 x9 y3 h6 h7 hx;go_wp2;go_ret;exact ⟨_,rfl,HN.out▸y6.out,XW⟩
theorem aNu (z:Int):aLj [] z=0:=by
 unfold aLj zS bU;rw [if_pos (by simp)]
theorem aAq (lo hi:Nat) (v:Value) (s:Scn) (i j z:Int) (w:World) {q0:Int} (hz:aLj (s.dps i j) z=q0) (hv:s.R lo hi w v) (hh:hi<=w.heap.size) (hsm:s.small) :
  R_ 25 #[v,i,j,z] w (.int .i64 q0):=by
 obtain ⟨HV,x6⟩:=h2_ hv hsm;obtain ⟨a1,c1,a2,c2,a3,c3,rfl⟩:=hv.formV
 obtain ⟨LS,h7⟩:=e_ (s.dps i j)
 rw [h7] at hz;have HZ:=hid hz;obtain ⟨q7,a0⟩:=Scn.dps_ok h7;obtain ⟨q9,h6⟩:=h2_ h7 q7;clear hv hsm hz h7 q7;have x0:Ext w (w.alloc (.cells (sA_ s a1 c1 a2 c2 a3 c3) 40)):=X_;have bS:=(aTc w 40 (sL_ s a1 c1 a2 c2 a3 c3)).ext (show Ext _ (w.alloc (.cells (sA_ s a1 c1 a2 c2 a3 c3) 40)) from X_)
 try simp only [aS4] at bS
 obtain ⟨W0,q1⟩:=e_ (w.alloc (.cells (sA_ s a1 c1 a2 c2 a3 c3) 40))
 rw [q1] at x0 bS;obtain ⟨h9,x9⟩:=h2_ x0 q1;have z0:=bS.lt;have x2:=hid bS;clear x0 q1 bS;go_enter func25,ntmps25;go_upto_region 1 with fail;rw [x9];have bq:=x2.ext (aTd _);obtain ⟨z5,z6,z7,z8,z9,y0,y1,y2,y3,y4,q4,q5⟩:=bq.q12;have sl:=bq.lt;clear bq;go_wp2_with fail;have CH:=aAp lo hi _ s i j _ q9 (HV.ext hh h9) (aTb hh h9.size) x6;refine CH.mono ?_;clear CH;rintro e w3 ⟨r,rfl,hr,x3⟩;obtain ⟨ra,rc,rfl⟩:=hr.form;obtain ⟨HR,X3⟩:=h2_ hr (h9.trans x3);clear hr x3;clear sl z5 z6 z7 z8 z9 y0 y1 y2 y3 y4 q4 q5
 rcases aY8 LS.length with h0|hpos
 ·have hq:q0=0:=by
   have:LS=[]:=aV5 h0;rw [<-HZ,this,aNu]
  subst hq;rw [h0];clear h0;go_wp2;go_ret;exact ⟨rfl,X3⟩
 ·have a4:((LS.length:Int)==0)=false:=beq_eq_false_iff_ne.2 (by omega)
  go_wp2
  go_loopw [10,22] (fun u x wr=>∃k:Nat,k<=LS.length/\x = .int .i64 (k:Nat)/\u = .int .i64 (nE ((LS.take k).map fun l=>fT l z))/\Ext w3 wr) (fun _ x _=>LS.length - (intOf x).toNat)
  case atStart=>exact ⟨0,by omega,rfl,rfl,aTd _⟩
  case round=>
   obtain ⟨k,hk,rfl,rfl,hx⟩:=hrel;have HX:=hid hx
   have HM:=hid (show ∀x∈(LS.take k).map (fun l=>fT l z),0<=x/\x<=256 from fun x hx=>by
    obtain ⟨l,hm,rfl⟩:=aU2.1 hx
    exact tJ (h6 l (bAf hm)) z)
   have h5:=aD3 HM;rw [aT9,aTr,aVh hk] at h5
   obtain ⟨S,hS⟩:=e_ (nE ((LS.take k).map fun l=>fT l z))
   rw [hS] at h5;rw [hS];have HS:=hid hS;clear hS
   rcases aTz k LS.length with hlt|hge
   ·obtain ⟨l,hl⟩:∃l,LS[k]?=some l:=⟨_,aS9 hlt⟩
    obtain ⟨gq,cq,u,he,y6,z2,y5,c0,q3⟩:=dY.at (HR.ext hx) hl;simp only [aTp,true_and] at he;obtain ⟨rfl,rfl⟩:=he;obtain ⟨va,vc,rfl,-⟩:=aD.form q3;have h8:=h6.out l (aTq hl);have hb:=tJ h8 z;have z3:=h8.trans_bd z
    obtain ⟨t,ht⟩:=e_ (mG l z)
    obtain ⟨q,hq⟩:=e_ ((65536 - t) / 256)
    have q2:fT l z=q:=by unfold fT;rw [ht];exact hq
    rw [q2] at hb;rw [ht] at z3
    have a5:aZf (65536 - t) 256=q:=by rw [aUp (by omega)];exact hq
    have q8:nE ((LS.take (k+1)).map fun l=>fT l z)=S+q:=by
     obtain ⟨z4,rfl⟩:=aS2.1 hl;rw [aTv z4,aU0,aWb,vR,HS,q2,aCg]
     show S+(q+0)=_
     omega
    obtain ⟨x7,HT,x4,x8⟩:=h4_ q8 ht h8 q3
    have y8:S<=256*16:=by
     have:=h5.2
     have:(256:Int)*(k:Nat)<=256*16:=by omega
     omega
    have q6:=hid h5;clear hl q2 q8 ht h8 q3 hx hq h5;go_wp2_with fail;refine (sB x8 x4 z).mono ?_;rw [HT];rintro e w5 ⟨rfl,x5⟩;have X5:=hid (HX.trans x5);have y7:=q6.1;clear x5;go_wp2;go_roundw
    case rel=>exact ⟨k+1,by omega,by go_num,by rw [x7],X5⟩
    case measure=>simp [intOf];omega
   ·obtain rfl:k=LS.length:=by omega
    have hm:aZf S (LS.length:Nat)=q0:=by
     have h1:=aLt HM (by rw [aT9,aTr];omega);rw [HS,aT9,aTr,Nat.min_self] at h1;rw [h1,<-HZ];unfold aLj;rw [aT0]
    have a6:0<=q0/\q0<=4096:=by
     have h1:=h5.1;have h2:=h5.2;rw [aUp h1] at hm;have h3:S / (LS.length:Nat)<=S:=Int.ediv_le_self _ h1;have h4:0<=S / (LS.length:Nat):=Int.ediv_nonneg h1 (by omega)
     have:(256:Int)*(LS.length:Nat)<=256*16:=by omega
     omega
    obtain ⟨x1,q6,z1⟩:=h3_ hm h5 (X3.trans HX)
    have y9:((LS.length:Nat):Int)≠0:=by omega
    clear hx h5 hm;have hm:=x1.out;go_wp2;go_ret;exact ⟨rfl,z1⟩
theorem aSf (vs:Value) (s:Scn) (a:Int) (b:Int) (d:Int) (W:World) (hs:s.R 0 W.heap.size W vs) (hbs:s.bd) (ha:I64 a) (hb:I64 b) (hd:I64 d) :
  R_ 7 #[vs,a,b,d] W (.bool true):=by
 obtain ⟨z,hz⟩:=e_ (aLj (s.dps a b) d)
 obtain ⟨HQ,Hs,y1⟩:=h3_ hz hs hbs;obtain ⟨st,sp,sf,rfl,_⟩:=hs;clear hbs hz;go_enter func7,ntmps7;go_wp2_with fail;refine (aGf 0 W.heap.size _ s 1048576 _ (Hs.ext (aS3 _) X_) (by simp <;> omega) y1 (by decide) (by decide)).mono ?_;rintro e w1 ⟨⟨rs,rfl,hrs⟩,x1⟩;have h0:=hid ((Bx.made W #[s.c.w,s.c.h,s.c.zoom,s.c.near,.bool s.c.deep,s.c.lens,s.c.focus,s.t.log,st,sp,sf,s.side] _).ext x1);have E:Ext W w1:=aS8 X_ x1;clear x1;have ps:=h0.lt;obtain ⟨h3,h4,h5,h6,h7,h8,h9,q0,q1,q2,h1,h2⟩:=h0.q12
 rcases hrs with rfl|⟨ras,rbs,hss⟩
 ·go_wp2
  go_ret;exact ⟨rfl,E⟩
 have q5:=hid hss;clear hss;have pW:=h0.lt;have zE:=E.size;go_wp2_with fail;refine (pH 0 W.heap.size _ s _ (Hs.ext (aS3 _) E) zE q5).mono ?_;rintro e w2 ⟨v2,rfl,O2,x2⟩;have y2:Ext w1 w2:=x2;have z2:=y2.size;go_wp2_with fail;refine r_ (aAq _ _ _ s a b d _ HQ O2.R (aS3 _) q5.small) fun w3 x3=>?_;have y3:Ext w1 w3:=y2.trans x3;have z3:=x3.size;replace h0:=hid (h0.kp (y3.kp h0.lt));replace E:=E.trans y3;clear x2 y2 x3 y3 O2;clear ps h3 h4 h5 h6 h7 h8 h9 q0 q1 q2 h1 h2;have ps:=h0.lt;obtain ⟨h3,h4,h5,h6,h7,h8,h9,q0,q1,q2,h1,h2⟩:=h0.q12;go_wp2_with fail;have zE:=E.size;refine (pH 0 W.heap.size _ s _ (Hs.ext (aS3 _) E) zE q5).mono ?_;rintro e w4 ⟨v4,rfl,O4,x4⟩;have z4:=x4.size;replace h0:=hid (h0.kp (x4.kp h0.lt));replace E:=E.trans x4;have q4:=hid O4;obtain ⟨y4,y8,y9,a0,a1,a2,rfl⟩:=O4.form;clear x4 O4 ps h3 h4 h5 h6 h7 h8 h9 q0 q1 q2 h1 h2;have ps:=h0.lt;obtain ⟨h3,h4,h5,h6,h7,h8,h9,q0,q1,q2,h1,h2⟩:=h0.q12;go_wp2_with fail;refine r_ (aAo _ _ _ s a b d _ HQ (q4.kp (Ext.kp X_ (by omega))).R (by simp <;> omega) q5.small) fun w5 x5=>?_;have q3:=hid ((Bx.made w4 #[s.c.w,s.c.h,s.c.zoom,s.c.near,.bool s.c.deep,s.c.lens,s.c.focus,s.t.log,.slice y4 s.t.px.length y8,.slice y9 s.ps.length a0,.slice a1 s.m a2,s.side] _).ext x5);have y5:Ext w4 w5:=aS8 X_ x5;have z5:=x5.size;simp only [aS4] at z5;replace h0:=hid (h0.kp (y5.kp h0.lt));replace q4:=hid (q4.kp (y5.kp (by first|omega|(simp;omega))));replace E:=E.trans y5;clear x5 y5  ps h3 h4 h5 h6 h7 h8 h9 q0 q1 q2 h1 h2;have ps:=h0.lt;obtain ⟨h3,h4,h5,h6,h7,h8,h9,q0,q1,q2,h1,h2⟩:=h0.q12;have xs:=q3.lt;obtain ⟨q8,q9,x0,x8,x9,z0,z1,z8,z9,y0,q6,q7⟩:=q3.q12;go_wp2_with fail;have zE:=E.size;refine aA [([0,1],2),([],3),([],4)] 99 w5.heap.size ?_;refine st_ fun K hK=>?_;go_wp2_with fail;refine (pH 0 W.heap.size _ s w5.drew (Hs.ext (aS3 _) E.drew) zE q5).mono ?_;rintro e w6 ⟨v6,rfl,O6,x6⟩;have y6:Ext w5 w6:=aS8 X_ x6;have z6:=y6.size;go_wp2;refine k_ hK (st_ fun K hK=>?_);go_wp2_with fail;refine r_ (aEa _ _ _ _ _ _ s _ (q4.kp (y6.kp (by omega))).R (by omega) O6.R (aS3 _)) fun w7 x7=>?_;have y7:Ext w5 w7:=y6.trans x7;have z7:=x7.size;go_wp2;refine k_ hK (st_ fun K hK=>?_);go_wp2;refine k_ hK (aC ?_);clear hK K;replace h0:=hid (h0.kp (y7.kp h0.lt));replace q3:=hid (q3.kp (y7.kp q3.lt));replace q4:=hid (q4.kp (y7.kp (by first|omega|(simp;omega))));replace E:=E.trans y7;clear x6 y6 x7 y7 O6 ps h3 h4 h5 h6 h7 h8 h9 q0 q1 q2 h1 h2 xs q8 q9 x0 x8 x9 z0 z1 z8 z9 y0 q6 q7;have ps:=h0.lt;obtain ⟨h3,h4,h5,h6,h7,h8,h9,q0,q1,q2,h1,h2⟩:=h0.q12;have xs:=q3.lt;obtain ⟨q8,q9,x0,x8,x9,z0,z1,z8,z9,y0,q6,q7⟩:=q3.q12;go_wp2;go_ret;exact ⟨rfl,E⟩
section
open Go.ChangeShapes Go.WideShapes Go.ChangeAt Go.RowKit
section
variable {H : Type} {enc : TypeId × Value -> H} {W : World} {base b0 : Nat} {sp : Nat -> Bool} {held : Bool}
theorem aIv {n:Int} (h:(Lit.int .i64 n).wf=true):I64 n:=by
 simp [Lit.wf,IntKind.min,IntKind.max,IntKind.signed,IntKind.bits] at h;exact ⟨by omega,by omega⟩
theorem aSg {v:Value} {d:DataW H} {p:List MemPlace} (hv:Value.okWide aS7 W .any b0 3 v) (h:DataW.Trod enc aS7 W base sp held 3 v d p):∃n,v = .int .i64 n/\I64 n:=by
 obtain ⟨n,rfl,_,_,hw⟩:=open_int underlying3 hv h;exact ⟨n,rfl,aIv hw⟩
theorem aGo {fuel:Nat} {c:Value} {y:DataW H×List MemPlace} (h:aW5 enc aS7 W base sp held fuel 24 [c]=some y):∃xs,aS 0 W.heap.size W c xs:=by
 rcases open_ints underlying24 underlying3 (by kernel_rfl) h with ⟨hcs,_⟩|⟨a,len,cap,zs,hcs,_,hl,hm,hz,_,hcell,hwz⟩
 ·obtain rfl:c = .slice none 0 0:=by simpa using hcs
  exact ⟨[],none,0,rfl,aS3 _,by unfold maxLen;omega,fun i x hx=>by simp at hx⟩
 ·obtain rfl:c = .slice (some a) len cap:=by simpa using hcs
  have h1:(zs.take len).length=len:=by
   rw [aTr,hz]
   split <;> omega
  refine ⟨zs.take len,some a,cap,by rw [h1],by omega,hm,fun i x hx=>?_⟩
  have hi:i<len:=by have:=(aS2.1 hx).1;omega
  rw [aVb,if_pos hi] at hx;have h3:=(aS2.1 hx).1
  have h2:zs.getD i 0=x:=by simp [List.getD,hx]
  obtain ⟨b,o,s⟩:=a
  obtain rfl:s=none:=by
   cases s with
   | none=>rfl
   | some s=>
    have h0:=hcell 0 (by omega);simp only [aU6,aW9,if_true] at h0
    split at h0 <;> simp at h0
  have hc:=hcell i h3;rw [h2] at hc
  have ha:(⟨b,o,none⟩:Addr).add i=⟨b,o+i,none⟩:=by
   unfold aW9
   split
   ·rename_i e;subst e;rfl
   ·rfl
  rw [ha] at hc;refine ⟨aIv (hwz x (aTq hx)),b,o,rfl,aUl _,?_,hc⟩;simp only [aU6] at hc
  split at hc
  ·rename_i e;exact (aTn.1 e).1
  ·cases hc
end
end
section
open Go.ChangeShapes Go.WideShapes Go.ChangeAt Go.RowKit
def sC (P:Program):Nat->TypeId->Nat->Option TypeId
 | 0,_,_=>none
 | d+1,t,i=>
  match P.underlying t with
  | some (.struct fs)=>
   match fs.toList.find? (fun f=>decide (f.offset<=i)&&decide (i<f.offset+P.cellsOf f.type)) with
   | some f=>
    match sC P d f.type (i - f.offset) with
    | some u=>if (i - f.offset)+P.cellsOf u<=P.cellsOf f.type then some u else none
    | none=>none
   | none=>none
  | some (.array n e)=>
   if i / P.cellsOf e<n then
    match sC P d e (i % P.cellsOf e) with
    | some u=>if (i % P.cellsOf e)+P.cellsOf u<=P.cellsOf e then some u else none
    | none=>none
   else none
  | some _=>if i=0 then some t else none
  | none=>none
section
variable {H : Type} {enc : TypeId × Value -> H} {P : Program} {W : World} {base : Nat} {sp : Nat -> Bool} {held : Bool}
theorem tV {α : Type} (l:List α) (o k i c:Nat) (h1:o<=i) (h2:i - o+c<=k):((((l.drop o).take k).drop (i - o)).take c)=(l.drop i).take c:=by
 rw [List.drop_take,List.take_take,List.drop_drop,aVh (by omega)]
 congr 2
 omega
theorem aCo (d:Nat):∀{t u:TypeId} {i fuel:Nat} {cs:List Value} {x:DataW H×List MemPlace},sC P d t i=some u->aW5 enc P W base sp held fuel t cs=some x ->
  (i=0/\t=u)\/∃(m:Nat) (y:DataW H×List MemPlace),aW5 enc P W base sp held m u ((cs.drop i).take (P.cellsOf u))=some y:=by
 induction d with
 | zero=>intro t u i fuel cs x h;simp [sC] at h
 | succ d ih=>
  intro t u i fuel cs x h hx;unfold sC at h
  split at h
  ·rename_i fs h5
   split at h
   ·rename_i f hf
    have hp:=List.find?_some hf;simp only [aTi,decide_eq_true_eq] at hp;have hm:=List.mem_of_find?_eq_some hf
    split at h
    ·rename_i u' hu
     split at h
     ·rename_i h0
      simp only [aS5] at h;subst h;obtain ⟨xs,n,_,_,hl,h4,hg⟩:=DataW.trod_struct h5 hx;obtain ⟨j,hj⟩:=List.getElem?_of_mem hm
      have h6:fs[j]?=some f:=by simpa using hj
      have h1:=hg j f h6
      have h8:j<xs.length:=by rw [h4];exact (aTn.1 h6).1
      rw [aS9 h8] at h1;refine .inr ?_
      rcases ih hu h1 with ⟨h2,rfl⟩|⟨m,y,hy⟩
      ·refine ⟨n,xs[j],?_⟩
       have:f.offset=i:=by omega
       rw [<-this];exact h1
      ·rw [tV _ _ _ _ _ hp.1 h0] at hy
       exact ⟨m,y,hy⟩
     ·cases h
    ·cases h
   ·cases h
  ·rename_i n e h5
   split at h
   ·rename_i hn
    split at h
    ·rename_i u' hu
     split at h
     ·rename_i h0
      simp only [aS5] at h;subst h;obtain ⟨xs,m',_,_,hl,h4,hg⟩:=DataW.trod_array h5 hx;have h1:=hg _ hn;rw [aS9 (by omega)] at h1;have h7:=Nat.div_add_mod i (P.cellsOf e);rw [aXk] at h7;refine .inr ?_
      rcases ih hu h1 with ⟨h2,rfl⟩|⟨m,y,hy⟩
      ·refine ⟨m',xs[i / P.cellsOf e]'(by omega),?_⟩
       have:i / P.cellsOf e*P.cellsOf e=i:=by omega
       rw [this] at h1;exact h1
      ·have h3:i % P.cellsOf e=i - i / P.cellsOf e*P.cellsOf e:=by omega
       rw [h3] at hy h0;rw [tV _ _ _ _ _ (by omega) h0] at hy;exact ⟨m,y,hy⟩
     ·cases h
    ·cases h
   ·cases h
  ·split at h
   ·rename_i hi
    simp only [aS5] at h;exact .inl ⟨hi,h⟩
   ·cases h
  ·cases h
def tW (P:Program) (t:TypeId) (k:Nat) (ti:TypeId):Bool:=decide (P.cellsOf t=k)&&decide (P.cellsOf ti=1)&&decide (t≠ti)&&(aTt k).all fun i=>decide (sC P 6 t i=some ti)
theorem aLu {t ti:TypeId} {k fuel:Nat} {cs:List Value} {x:DataW H×List MemPlace} (hi:P.underlying ti=some (.int .i64)) (ho:tW P t k ti=true) (h:aW5 enc P W base sp held fuel t cs=some x) :
  ∀i,i<k->∃n,cs[i]?=some (.int .i64 n)/\I64 n:=by
 intro i h0;simp only [tW,aTi,decide_eq_true_eq,List.all_eq_true,aUe] at ho;obtain ⟨⟨⟨h1,h2⟩,h3⟩,h4⟩:=ho
 rcases aCo 6 (h4 i h0) h with ⟨_,e⟩|⟨m,y,hy⟩
 ·exact absurd e h3
 ·rw [h2] at hy
  obtain ⟨n,e0,_,hw⟩:=DataW.trod_int hi hy;refine ⟨n,?_,?_⟩
  ·have:((cs.drop i).take 1)[0]?=some (.int .i64 n):=by rw [e0];rfl
   rw [aVb,if_pos (by decide),List.getElem?_drop] at this;exact this
  ·simp [Lit.wf,IntKind.min,IntKind.max,IntKind.signed,IntKind.bits] at hw
   exact ⟨by omega,by omega⟩
theorem aLv {t e ti:TypeId} {k fuel:Nat} {c:Value} {y:DataW H×List MemPlace} (ht:P.underlying t=some (.slice e)) (hi:P.underlying ti=some (.int .i64)) (ho:tW P e k ti=true) (hk:0<k)
  (h:aW5 enc P W base sp held fuel t [c]=some y):∃n f,dM k 0 W.heap.size W c n f:=by
 have hC:P.cellsOf e=k:=by
  simp only [tW,aTi,decide_eq_true_eq] at ho;exact ho.1.1.1
 rcases aY6 ht h with ⟨h0,_⟩|⟨a,len,cap,m,n,D,Pl,hcs,hb,hl,hm,hmm,hx,hel⟩
 ·obtain rfl:c = .slice none 0 0:=by simpa using h0
  exact ⟨0,fun _=>0,none,0,rfl,aS3 _,by unfold maxLen;omega,fun i hx=>by omega⟩
 ·obtain rfl:c = .slice (some a) len cap:=by simpa using hcs
  have q1:len<=m:=by rw [hmm];split <;> omega
  rw [hC] at hel
  have h9:∀i,i<len*k->∃x,I64 x/\W.cell? (a.add (i / k*k) |>.add (i % k))=some (.int .i64 x):=by
   intro i h3;have h1:i / k<len:=(Nat.div_lt_iff_lt_mul hk).2 h3;obtain ⟨cs',hc,h6⟩:=hel (i / k) (by omega);obtain ⟨x,h7,h8⟩:=aLu hi ho h6 (i % k) (aVp _ hk);obtain ⟨_,q0,h5⟩:=aZt hc;exact ⟨x,h8,(h5 _ (aVp _ hk)).trans h7⟩
  have h4:∀i,∃x,i<len*k->I64 x/\W.cell? (a.add i)=some (.int .i64 x):=by
   intro i
   by_cases h3:i<len*k
   ·obtain ⟨x,h1,h2⟩:=h9 i h3
    rw [aWn] at h2
    have:i / k*k+i % k=i:=by have:=Nat.div_add_mod i k;rw [aXk] at this;omega
    rw [this] at h2;exact ⟨x,fun _=>⟨h1,h2⟩⟩
   ·exact ⟨0,fun h=>absurd h h3⟩
  obtain ⟨f,hf⟩:=aXs h4;refine ⟨len,f,some a,cap,rfl,hl,hm,fun i h3=>⟨(hf i h3).1,?_⟩⟩;have h0:=(hf 0 (by omega)).2;obtain ⟨b,o,s⟩:=a
  obtain rfl:s=none:=by
   cases s with
   | none=>rfl
   | some s=>
    simp only [aU6,aW9,if_true] at h0
    split at h0 <;> simp at h0
  have hc:=(hf i h3).2
  have ha:(⟨b,o,none⟩:Addr).add i=⟨b,o+i,none⟩:=by
   unfold aW9
   split
   ·rename_i e;subst e;rfl
   ·rfl
  rw [ha] at hc;refine ⟨b,o,rfl,aUl _,?_,hc⟩;simp only [aU6] at hc
  split at hc
  ·rename_i e;exact (aTn.1 e).1
  ·cases hc
end
end
section
open Go.ChangeShapes Go.WideShapes Go.ChangeAt Go.RowKit
section
variable {H : Type} {enc : TypeId × Value -> H} {P : Program} {W : World} {base b0 : Nat} {sp : Nat -> Bool} {held : Bool}
theorem bY {t u:TypeId} {i fuel:Nat} {cs:List Value} {x:DataW H×List MemPlace} (hl:(sC P 6 t i==some u&&decide (t≠u)&&decide (P.cellsOf u=1))=true) (h:aW5 enc P W base sp held fuel t cs=some x) (hi:i<cs.length) :
  ∃c m y,cs[i]?=some c/\aW5 enc P W base sp held m u [c]=some y:=by
 simp only [aTi,beq_iff_eq,decide_eq_true_eq] at hl;obtain ⟨⟨h1,h2⟩,h3⟩:=hl
 rcases aCo 6 h1 h with ⟨_,e⟩|⟨m,y,hy⟩
 ·exact absurd e h2
 ·rw [h3,List.drop_eq_getElem_cons hi] at hy
  exact ⟨cs[i],m,y,by simp [hi],hy⟩
theorem fE {t:TypeId} {fuel:Nat} {c:Value} {y:DataW H×List MemPlace} (ht:P.underlying t=some (.int .i64)) (h:aW5 enc P W base sp held fuel t [c]=some y):∃n,c = .int .i64 n/\I64 n:=by
 obtain ⟨k,e0,_,hw⟩:=DataW.trod_int ht h;exact ⟨k,by simpa using e0,aIv hw⟩
theorem aCp {t:TypeId} {fuel:Nat} {c:Value} {y:DataW H×List MemPlace} (ht:P.underlying t=some .string) (h:aW5 enc P W base sp held fuel t [c]=some y):∃s,c = .string s/\s.size<=maxLen:=by
 obtain ⟨s,e0,_,hw⟩:=DataW.trod_string ht h;exact ⟨s,by simpa using e0,hw⟩
end
section
variable {H : Type} {enc : TypeId × Value -> H} {W : World} {base b0 : Nat} {sp : Nat -> Bool} {held : Bool}
theorem aPn {fuel:Nat} {c:Value} {y:DataW H×List MemPlace} (h:aW5 enc aS7 W base sp held fuel 110 [c]=some y):∃xs,Nds 0 W.heap.size W c xs/\∀x∈xs,x.name.size<=maxLen:=by
 rcases aY6 underlying110 h with ⟨hcs,_⟩|⟨a,len,cap,m,n,D,Pl,hcs,_,hl,hm,hmm,_,hel⟩
 ·obtain rfl:c = .slice none 0 0:=by simpa using hcs
  exact ⟨[],⟨none,0,rfl,aS3 _,by unfold maxLen;omega,fun i x hx=>by simp at hx⟩,fun s hs=>by cases hs⟩
 ·obtain rfl:c = .slice (some a) len cap:=by simpa using hcs
  have h6:len<=m:=by rw [hmm];split <;> omega
  have hC:Tryz.prog.cellsOf 237=4:=by kernel_rfl
  rw [hC] at hel
  have h3:∀i,∃x:Nd,i<len->(I64 x.op/\I64 x.num/\x.name.size<=maxLen)/\W.cell? (a.add (i*4))=some (.int .i64 x.op)/\W.cell? (a.add (i*4+1))=some (.string x.name)/\W.cell? (a.add (i*4+2))=some (.int .i64 x.num)/\∃u,W.cell? (a.add (i*4+3))=some u/\aS 0 W.heap.size W u x.args:=by
   intro i
   by_cases h4:i<len
   ·obtain ⟨cs',hc,h2⟩:=hel i (by omega)
    obtain ⟨_,h5,h1⟩:=aZt hc;obtain ⟨c0,m0,y0,e0,t0⟩:=bY (i:=0) (u:=3) (by kernel_rfl) h2 (by omega);obtain ⟨c1,m1,y1,e1,t1⟩:=bY (i:=1) (u:=9) (by kernel_rfl) h2 (by omega);obtain ⟨c2,m2,y2,e2,t2⟩:=bY (i:=2) (u:=3) (by kernel_rfl) h2 (by omega);obtain ⟨c3,m3,y3,e3,t3⟩:=bY (i:=3) (u:=24) (by kernel_rfl) h2 (by omega);obtain ⟨px,hx⟩:=aGo t3;obtain ⟨n0,rfl,i0⟩:=fE underlying3 t0;obtain ⟨s,rfl,i1⟩:=aCp underlying9 t1;obtain ⟨n2,rfl,i2⟩:=fE underlying3 t2;refine ⟨⟨n0,s,n2,px⟩,fun _=>⟨⟨i0,i2,i1⟩,?_,?_,?_,c3,?_,hx⟩⟩
    ·have:=h1 0 (by omega);rw [aWn] at this;exact this.trans e0
    ·have:=h1 1 (by omega);rw [aWn] at this;exact this.trans e1
    ·have:=h1 2 (by omega);rw [aWn] at this;exact this.trans e2
    ·have:=h1 3 (by omega);rw [aWn] at this;exact this.trans e3
   ·exact ⟨⟨0,⟨#[]⟩,0,[]⟩,fun h=>absurd h h4⟩
  obtain ⟨f,hf⟩:=aXs h3;refine ⟨(aTt len).map f,⟨some a,cap,by simp,by simpa using hl,hm,fun i x hx=>?_⟩,fun s hs=>?_⟩
  ·have hi:i<len:=by have:=(aS2.1 hx).1;simpa using this
   obtain rfl:f i=x:=by simpa [hi] using hx
   obtain ⟨⟨i0,i2,_⟩,g0,g1,g2,u,g3,hu⟩:=hf i hi;refine ⟨⟨i0,i2⟩,?_⟩;have h0:=(hf 0 (by omega)).2.1;clear hf hel h3;obtain ⟨b,o,s⟩:=a
   obtain rfl:s=none:=by
    cases s with
    | none=>rfl
    | some s=>
     simp only [aU6,aW9,aXz,if_true] at h0
     split at h0 <;> simp at h0
   have ha:∀k,(⟨b,o,none⟩:Addr).add k=⟨b,o+k,none⟩:=by
    intro k;unfold aW9
    split
    ·rename_i e;subst e;rfl
    ·rfl
   rw [ha] at g0 g1 g2 g3;refine ⟨b,o,u,rfl,aUl _,?_,g0,by rw [aUv];exact g1,by rw [aUv];exact g2,by rw [aUv];exact g3,hu⟩;simp only [aU6] at g0
   split at g0
   ·rename_i e;exact (aTn.1 e).1
   ·cases g0
  ·obtain ⟨i,hi,rfl⟩:=aU2.1 hs
   exact (hf i (aUe.1 hi)).1.2.2
theorem aNv {fuel:Nat} {c:Value} {y:DataW H×List MemPlace} (h:aW5 enc aS7 W base sp held fuel 111 [c]=some y):∃xs,oG 0 W.heap.size W c xs/\∀x∈xs,x.name.size<=maxLen:=by
 rcases aY6 underlying111 h with ⟨hcs,_⟩|⟨a,len,cap,m,n,D,Pl,hcs,_,hl,hm,hmm,_,hel⟩
 ·obtain rfl:c = .slice none 0 0:=by simpa using hcs
  exact ⟨[],⟨none,0,rfl,aS3 _,by unfold maxLen;omega,fun i x hx=>by simp at hx⟩,fun s hs=>by cases hs⟩
 ·obtain rfl:c = .slice (some a) len cap:=by simpa using hcs
  have h6:len<=m:=by rw [hmm];split <;> omega
  have hC:Tryz.prog.cellsOf 239=2:=by kernel_rfl
  rw [hC] at hel
  have h3:∀i,∃x:Asg,i<len->(I64 x.root/\x.name.size<=maxLen)/\W.cell? (a.add (i*2))=some (.string x.name)/\W.cell? (a.add (i*2+1))=some (.int .i64 x.root):=by
   intro i
   by_cases h4:i<len
   ·obtain ⟨cs',hc,h2⟩:=hel i (by omega)
    obtain ⟨_,h5,h1⟩:=aZt hc;obtain ⟨c0,m0,y0,e0,t0⟩:=bY (i:=0) (u:=9) (by kernel_rfl) h2 (by omega);obtain ⟨c1,m1,y1,e1,t1⟩:=bY (i:=1) (u:=3) (by kernel_rfl) h2 (by omega);obtain ⟨s,rfl,i0⟩:=aCp underlying9 t0;obtain ⟨n1,rfl,i1⟩:=fE underlying3 t1;refine ⟨⟨s,n1⟩,fun _=>⟨⟨i1,i0⟩,?_,?_⟩⟩
    ·have:=h1 0 (by omega);rw [aWn] at this;exact this.trans e0
    ·have:=h1 1 (by omega);rw [aWn] at this;exact this.trans e1
   ·exact ⟨⟨⟨#[]⟩,0⟩,fun h=>absurd h h4⟩
  obtain ⟨f,hf⟩:=aXs h3;refine ⟨(aTt len).map f,⟨some a,cap,by simp,by simpa using hl,hm,fun i x hx=>?_⟩,fun s hs=>?_⟩
  ·have hi:i<len:=by have:=(aS2.1 hx).1;simpa using this
   obtain rfl:f i=x:=by simpa [hi] using hx
   obtain ⟨⟨i0,_⟩,g0,g1⟩:=hf i hi;refine ⟨i0,?_⟩;have h0:=(hf 0 (by omega)).2.1;clear hf hel h3;obtain ⟨b,o,s⟩:=a
   obtain rfl:s=none:=by
    cases s with
    | none=>rfl
    | some s=>
     simp only [aU6,aW9,aXz,if_true] at h0
     split at h0 <;> simp at h0
   have ha:∀k,(⟨b,o,none⟩:Addr).add k=⟨b,o+k,none⟩:=by
    intro k;unfold aW9
    split
    ·rename_i e;subst e;rfl
    ·rfl
   rw [ha] at g0 g1;refine ⟨b,o,rfl,aUl _,?_,g0,by rw [aUv];exact g1⟩;simp only [aU6] at g0
   split at g0
   ·rename_i e;exact (aTn.1 e).1
   ·cases g0
  ·obtain ⟨i,hi,rfl⟩:=aU2.1 hs
   exact (hf i (aUe.1 hi)).1.2
end
end
section
open Go.ChangeShapes Go.WideShapes Go.ChangeAt Go.RowKit
section
variable {H : Type} {enc : TypeId × Value -> H} {P : Program} {W : World} {base b0 : Nat} {sp : Nat -> Bool} {held : Bool}
theorem aIw {t:TypeId} {fuel:Nat} {c:Value} {y:DataW H×List MemPlace} (ht:P.underlying t=some .bool) (h:aW5 enc P W base sp held fuel t [c]=some y):∃b,c = .bool b:=by
 obtain ⟨b,e0,_⟩:=DataW.trod_bool ht h;exact ⟨b,by simpa using e0⟩
end
section
variable {H : Type} {enc : TypeId × Value -> H} {W : World} {base b0 : Nat} {sp : Nat -> Bool} {held : Bool}
theorem aNw {fuel:Nat} {c:Value} {y:DataW H×List MemPlace} (h:aW5 enc aS7 W base sp held fuel 27 [c]=some y):∃ps,iA 0 W.heap.size W c ps/\∀p∈ps,p.bd:=by
 rcases aY6 underlying27 h with ⟨hcs,_⟩|⟨a,len,cap,m,n,D,Pl,hcs,_,hl,hm,hmm,_,hel⟩
 ·obtain rfl:c = .slice none 0 0:=by simpa using hcs
  exact ⟨[],⟨none,0,rfl,aS3 _,by unfold maxLen;omega,fun i x hx=>by simp at hx⟩,fun s hs=>by cases hs⟩
 ·obtain rfl:c = .slice (some a) len cap:=by simpa using hcs
  have h7:len<=m:=by rw [hmm];split <;> omega
  have hC:Tryz.prog.cellsOf 113=2:=by kernel_rfl
  rw [hC] at hel
  have h3:∀i,∃x:Prg,i<len->x.bd/\∃u1 u2,W.cell? (a.add (i*2))=some u1/\W.cell? (a.add (i*2+1))=some u2/\x.R 0 W.heap.size W (.agg #[u1,u2]):=by
   intro i
   by_cases h4:i<len
   ·obtain ⟨cs',hc,h2⟩:=hel i (by omega)
    obtain ⟨_,h6,h1⟩:=aZt hc;obtain ⟨c0,m0,y0,e0,t0⟩:=bY (i:=0) (u:=110) (by kernel_rfl) h2 (by omega);obtain ⟨c1,m1,y1,e1,t1⟩:=bY (i:=1) (u:=111) (by kernel_rfl) h2 (by omega);obtain ⟨xs,hx,bx⟩:=aPn t0;obtain ⟨ls,h5,bl⟩:=aNv t1;refine ⟨⟨xs,ls⟩,fun _=>⟨⟨bx,bl⟩,c0,c1,?_,?_,_,_,rfl,hx,h5⟩⟩
    ·have:=h1 0 (by omega);rw [aWn] at this;exact this.trans e0
    ·have:=h1 1 (by omega);rw [aWn] at this;exact this.trans e1
   ·exact ⟨⟨[],[]⟩,fun h=>absurd h h4⟩
  obtain ⟨f,hf⟩:=aXs h3;refine ⟨(aTt len).map f,⟨some a,cap,by simp,by simpa using hl,hm,fun i x hx=>?_⟩,fun s hs=>?_⟩
  ·have hi:i<len:=by have:=(aS2.1 hx).1;simpa using this
   obtain rfl:f i=x:=by simpa [hi] using hx
   obtain ⟨_,u1,u2,g0,g1,hR⟩:=hf i hi;obtain ⟨_,v1,v2,h0,_⟩:=hf 0 (by omega);clear hf hel h3;obtain ⟨b,o,s⟩:=a
   obtain rfl:s=none:=by
    cases s with
    | none=>rfl
    | some s=>
     simp only [aU6,aW9,aXz,if_true] at h0
     split at h0 <;> simp at h0
   have ha:∀k,(⟨b,o,none⟩:Addr).add k=⟨b,o+k,none⟩:=by
    intro k;unfold aW9
    split
    ·rename_i e;subst e;rfl
    ·rfl
   rw [ha] at g0 g1;refine ⟨b,o,u1,u2,rfl,aUl _,?_,g0,by rw [aUv];exact g1,hR⟩;simp only [aU6] at g0
   split at g0
   ·rename_i e;exact (aTn.1 e).1
   ·cases g0
  ·obtain ⟨i,hi,rfl⟩:=aU2.1 hs
   exact (hf i (aUe.1 hi)).1
theorem aSh {v:Value} {d:DataW H} {p:List MemPlace} (hv:Value.okWide aS7 W .any b0 30 v) (h:DataW.Trod enc aS7 W base sp held 30 v d p) :
  ∃s:Scn,s.R 0 W.heap.size W v/\s.bd:=by
 obtain ⟨cs,rfl,h0⟩:=okWide_struct underlying30 hv
 have hC:Tryz.prog.cellsOf 30=12:=by kernel_rfl
 rw [hC] at h0;obtain ⟨fuel,hf⟩:=h
 have h6:(Value.agg cs).cells.toList.length=12:=by simp [Value.cells,h0]
 obtain ⟨c0,m0,y0,e0,t0⟩:=bY (i:=0) (u:=3) (by kernel_rfl) hf (by omega);obtain ⟨c1,m1,y1,e1,t1⟩:=bY (i:=1) (u:=3) (by kernel_rfl) hf (by omega);obtain ⟨c2,m2,y2,e2,t2⟩:=bY (i:=2) (u:=3) (by kernel_rfl) hf (by omega);obtain ⟨c3,m3,y3,e3,t3⟩:=bY (i:=3) (u:=3) (by kernel_rfl) hf (by omega);obtain ⟨c4,m4,y4,e4,t4⟩:=bY (i:=4) (u:=4) (by kernel_rfl) hf (by omega);obtain ⟨c5,m5,y5,e5,t5⟩:=bY (i:=5) (u:=3) (by kernel_rfl) hf (by omega);obtain ⟨c6,m6,y6,e6,t6⟩:=bY (i:=6) (u:=3) (by kernel_rfl) hf (by omega);obtain ⟨c7,m7,y7,e7,t7⟩:=bY (i:=7) (u:=3) (by kernel_rfl) hf (by omega);obtain ⟨c8,m8,y8,e8,t8⟩:=bY (i:=8) (u:=24) (by kernel_rfl) hf (by omega);obtain ⟨c9,m9,y9,e9,t9⟩:=bY (i:=9) (u:=27) (by kernel_rfl) hf (by omega);obtain ⟨h1,q2,q4,h2,h9⟩:=bY (i:=10) (u:=28) (by kernel_rfl) hf (by omega);obtain ⟨q1,q3,q5,h3,q0⟩:=bY (i:=11) (u:=3) (by kernel_rfl) hf (by omega);obtain ⟨k0,rfl,i0⟩:=fE underlying3 t0;obtain ⟨k1,rfl,i1⟩:=fE underlying3 t1;obtain ⟨k2,rfl,i2⟩:=fE underlying3 t2;obtain ⟨k3,rfl,i3⟩:=fE underlying3 t3;obtain ⟨k4,rfl⟩:=aIw underlying4 t4;obtain ⟨k5,rfl,i5⟩:=fE underlying3 t5;obtain ⟨k6,rfl,i6⟩:=fE underlying3 t6;obtain ⟨k7,rfl,i7⟩:=fE underlying3 t7;obtain ⟨px,hx⟩:=aGo t8;obtain ⟨ps,h7,h5⟩:=aNw t9;obtain ⟨n,f,hp⟩:=aLv (k:=26) (e:=134) underlying28 underlying3 (by kernel_rfl) (by omega) h9;obtain ⟨h4,rfl,h8⟩:=fE underlying3 q0
 have e:cs=#[(k0:Value),k1,k2,k3,.bool k4,k5,k6,k7,c8,c9,h1,h4]:=by
  apply Array.ext_getElem?;intro i;simp only [Value.cells,Array.getElem?_toList] at e0 e1 e2 e3 e4 e5 e6 e7 e8 e9 h2 h3
  match i with
  | 0=>simpa using e0
  | 1=>simpa using e1
  | 2=>simpa using e2
  | 3=>simpa using e3
  | 4=>simpa using e4
  | 5=>simpa using e5
  | 6=>simpa using e6
  | 7=>simpa using e7
  | 8=>simpa using e8
  | 9=>simpa using e9
  | 10=>simpa using h2
  | 11=>simpa using h3
  | i+12=>simp [h0]
 subst e;exact ⟨⟨⟨k0,k1,k2,k3,k4,k5,k6⟩,⟨k7,px⟩,ps,n,f,h4⟩,⟨c8,c9,h1,rfl,⟨i0,i1,i2,i3,i5,i6⟩,i7,h8,hx,h7,hp⟩,h5⟩
end
end
section
namespace fnExactOcclusion
open Go.ChangeShapes Go.WideShapes Go.ChangeAt Go.RowKit
theorem yM:Tryz.pinned.checked.prog.funcNamed Rows.fnExactOcclusionRow.func=some 7:=by kernel_rfl
end fnExactOcclusion
end
end Go.Proofs.YthgpegkmjeigmaaGreat
