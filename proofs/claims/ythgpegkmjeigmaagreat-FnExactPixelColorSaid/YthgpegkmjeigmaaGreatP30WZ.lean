/- Texts of this claim, packed: what its theorem does not use is left out. -/
import Derived.Test.YthgpegkmjeigmaaGreatP30W5
import Derived.Test.YthgpegkmjeigmaaGreatP30W4
import Derived.Deep.CutBlock
import Derived.Test.YthgpegkmjeigmaaGreatP30W1
import Derived.Test.YthgpegkmjeigmaaGreatP30W2
import Derived.OpenShut
import Derived.ShutString
import Derived.ChangeOld
import Derived.Below
import Derived.Carry
import Derived.Lib.SmallJoins
import Derived.Deep.Slices
import Derived.Test.YthgpegkmjeigmaaGreatP30W3
import Derived.Deep.Strs
import Derived.Test.YthgpegkmjeigmaaGreatRows
import Derived.ProofKit
set_option linter.unusedSimpArgs false
set_option linter.unusedVariables false
set_option maxRecDepth 100000
set_option maxHeartbeats 12800000
namespace Go.Proofs.YthgpegkmjeigmaaGreat
open Go.RowKit
open Go.Proofs.Tryz
open _root_.Go.Act renaming put→aS4
variable {i j r z:Int} {h hi k lo n sd u v:Nat} {f:Nat→Int} {av cv:Value} {w:World}
open _root_.Array renaming getElem?_eq_some_iff→aR3
open _root_.Bool renaming and_eq_true→aRy
open _root_.Classical renaming axiomOfChoice→aV3
open _root_.Go.Addr renaming add→aVj
open _root_.Go.DataW renaming trod→aVe
open _root_.Go.Deep renaming open_slice→aXf,add_add→aUx
open _root_.Go.Proofs.Tryz renaming prog→aRn
open _root_.Go.Proofs.YthgpegkmjeigmaaGreat.Blk renaming new→aRr
open _root_.Go.Proofs.YthgpegkmjeigmaaGreat.Ext renaming trans→aRo,block→aRv,setCell→aR0,drew→aSk,refl→aRu,grown→aSt
open _root_.Go.Value.slice renaming injEq→aSb
open _root_.Go.World renaming size_alloc→aRj,cell?→aTi,cells?_some→aX1
open _root_.Int renaming tmod_eq_emod_of_nonneg→aTw,tdiv→aY4,tdiv_eq_ediv_of_nonneg→aTd,natCast_add→aTn,natCast_mul→aUz,toNat_natCast→aSc,mul_nonneg→aSu,mul_le_mul_of_nonneg_left→aTy,emod_nonneg→aVs,emod_lt_of_pos→aU2
open _root_.List renaming range→aR6,range_succ→aT3,map_append→aTp,map_singleton→aVk,flatMap_append→aSy,flatMap_singleton→aVf,length_append→aSa,getElem?_eq_some_iff→aRk,getElem?_eq_getElem→aRs,length_map→aSv,length_range→aUi,getElem_map→aU3,getElem_range→aUd,getElem?_cons_zero→aRg,getElem?_cons_succ→aRh,mem_of_getElem?→aR7,getD_eq_getElem?_getD→aSe,take_length→aSh,mem_cons→aR4,not_mem_nil→aRz,length_take→aR9,take_append_drop→aVq,length_drop→aUg,append_assoc→aSl,singleton_append→aX5,take_succ_eq_append_getElem→aSd,mem_map→aTl,getElem?_take→aTo,mem_range→aSq,filterMap_nil→aR1,filterMap_cons→aR8,getElem?_toArray→aRm,setIfInBounds_toArray→aRp,set_cons_zero→aRw,set_cons_succ→aRx
open _root_.Nat renaming le_refl→aRi,zero_add→aSf,lt_or_ge→aSo,add_assoc→aTa,add_comm→aXw,zero_mul→aWb,add_zero→aS0,mul_le_mul→aSi,le_trans→aRq,zero_le→aS1,lt_of_lt_of_le→aS5,min_eq_left→aT0,mod_lt→aT4,mul_comm→aVv
open _root_.Option.some renaming injEq→aRl,inj→aTh
theorem e_ {α:Sort _} (a:α):∃x,a=x:=⟨a,rfl⟩
theorem i_ {α:Sort _} (a:α):∃x,x=a:=⟨a,rfl⟩
theorem h2_ {a b:Prop} (l:a) (m:b):Hid a∧Hid b:=⟨l,m⟩
theorem h3_ {a b c:Prop} (l:a) (m:b) (n:c):Hid a∧Hid b∧Hid c:=⟨l,m,n⟩
theorem h4_ {a b c d:Prop} (l:a) (m:b) (n:c) (o:d):Hid a∧Hid b∧Hid c∧Hid d:=⟨l,m,n,o⟩
theorem h5_ {a b c d e:Prop} (l:a) (m:b) (n:c) (o:d) (p:e):Hid a∧Hid b∧Hid c∧Hid d∧Hid e:=⟨l,m,n,o,p⟩
theorem h6_ {a b c d e f:Prop} (l:a) (m:b) (n:c) (o:d) (p:e) (q:f):Hid a∧Hid b∧Hid c∧Hid d∧Hid e∧Hid f:=⟨l,m,n,o,p,q⟩
theorem h7_ {a b c d e f g:Prop} (l:a) (m:b) (n:c) (o:d) (p:e) (q:f) (r:g):Hid a∧Hid b∧Hid c∧Hid d∧Hid e∧Hid f∧Hid g:=⟨l,m,n,o,p,q,r⟩
theorem m5_ {a b c d e:Prop} (m:a) (n:b) (o:c) (p:d) (q:e):a∧b∧c∧d∧e:=⟨m,n,o,p,q⟩
theorem m12_ {a b c d e f g h i j k l:Prop} (m:a) (n:b) (o:c) (p:d) (q:e) (r:f) (s:g) (t:h) (u:i) (v:j) (w:k) (x:l):a∧b∧c∧d∧e∧f∧g∧h∧i∧j∧k∧l:=⟨m,n,o,p,q,r,s,t,u,v,w,x⟩
abbrev gL_ (f g:Nat→Int) (a b:Int):List Value:=[f 0,f 1,f 2,f 3,f 4,f 5,f 6,f 7,f 8,f 9,f 10,f 11,g 0,g 1,g 2,g 3,g 4,g 5,g 6,g 7,g 8,g 9,g 10,g 11,a,b]
abbrev gA_ (f g:Nat→Int) (a b:Int):Array Value:=#[f 0,f 1,f 2,f 3,f 4,f 5,f 6,f 7,f 8,f 9,f 10,f 11,g 0,g 1,g 2,g 3,g 4,g 5,g 6,g 7,g 8,g 9,g 10,g 11,a,b]
theorem nI {c:Cam} {x y lx ly a b d:Int} (h:c.prB ⟨x,y,z⟩ lx ly=true) (hp:c.pr ⟨x,y,z⟩ lx ly=⟨a,b,d⟩) (w:World) :
  R_ 203 #[.agg c,.agg #[x,y,z],lx,ly] w (.tuple #[.agg #[a,b,d],.bool true]):=by
 have:=aDd c x y z lx ly h w;rw [hp] at this;exact this
theorem nJ {c:Cam} {x y lx ly:Int} (h:c.prB ⟨x,y,z⟩ lx ly=false) (w:World) :
  R_ 203 #[.agg c,.agg #[x,y,z],lx,ly] w (.tuple #[.agg #[(),(),()],.bool false]):=aFe c x y z lx ly h w
theorem pM {i' j' n X Y Z:Int} (e1:i'=i) (e2:j'=j) (h:evP f i j n=⟨X,Y,Z⟩) (hn:1<=n/\n<=64) (hi:0<=i/\i<=n) (hj:0<=j/\j<=n) (w:World) :
  R_ 192 #[.agg f,i',j',n] w (.agg #[X,Y,Z]):=by
 subst e1 e2;exact yO h hn hi hj w
def crn (c:Cam) (f:Nat->Int) (n:Nat) (s:Smp) (u v q:Nat):V3:=dE c f n s (u+q % 2) (v+q / 2)
def aHj (c:Cam) (f:Nat->Int) (n:Nat) (s:Smp) (u v q:Nat):Bool:=lW c f n s (u+q % 2) (v+q / 2)
theorem aN2 {c:Cam} {s:Smp} (h:∀q,q<4->aHj c f n s u v q=true):lX c f n s u v=true:=by
 have h0:=h 0 (by decide);have h1:=h 1 (by decide);have h2:=h 2 (by decide);have h3:=h 3 (by decide);unfold lX;simp only [aRy];exact ⟨⟨⟨h0,h1⟩,h2⟩,h3⟩
theorem aL9 {c:Cam} {s:Smp} {q:Nat} (hq:q<4) (h:aHj c f n s u v q=false):lX c f n s u v=false:=
 aH3 (i:=q % 2) (j:=q / 2) (by omega) (by omega) h
theorem aH2.rd {c:Cam} {s:Smp} {r:Value} (h:aH2 c f n s u v lo w r):Rd Mc.cs lo w.heap.size w r (gG c f n s u v):=by
 rcases h with ⟨hd,rfl⟩|⟨hd,g,hl,rfl,hb⟩
 ·unfold gG
  rw [if_neg (by rw [hd];exact Bool.false_ne_true)];exact Rd.nil _ _ _ _
 ·unfold gG
  rw [if_pos hd];refine ⟨some ⟨g,0,none⟩,2,rfl,aRi _,by omega,(fun e=>nomatch e),.inr ⟨g,0,rfl,hl,hb.lt,fun j u hj=>?_⟩⟩;rw [aSf];exact hb.cell j hj
theorem aAn (c:Cam) (f:Nat->Int) (n:Nat) (s:Smp) (u v:Nat) (hn:1<=n/\n<=64) (hu:u<n) (hv:v<n) (w:World) :
  Calls aRn 148 #[.agg c,.agg f,(u:Nat),(v:Nat),(n:Nat),s.lx,s.ly] w fun e w'=>∃r,e = .returned r/\aH2 c f n s u v w.heap.size w' r/\Ext w w':=by
 obtain ⟨J1,J2,J3,N0,HN,HU,HV⟩:=h7_ (aG.2 (show (1:Int)<=(n:Int)/\(n:Int)<=64 by omega)) (aG.2 (show (0:Int)<=(u:Int)/\(u:Int)<=(n:Int) - 1 by omega)) (aG.2 (show (0:Int)<=(v:Int)/\(v:Int)<=(n:Int) - 1 by omega)) (show wrap64 ((n:Int) - 1)=(n:Int) - 1 from aD (by omega) (by omega)) hn hu hv;clear hn hu hv;obtain ⟨B0,B1,X0⟩:=h3_ ((aRr w 35 c).ext (show Ext (w.alloc (.cells c 35)) ((w.alloc (.cells c 35)).alloc (.cells f 125)) from X_)) (show Blk ((w.alloc (.cells c 35)).alloc (.cells f 125)) (w.heap.size+1) 125 f from by have q:=(aRr (w.alloc (.cells c 35)) 125 f).ext (show Ext ((w.alloc (.cells c 35)).alloc (.cells f 125)) ((w.alloc (.cells c 35)).alloc (.cells f 125)) from X_);simp only [aRj] at q;exact q) (show Ext w ((w.alloc (.cells c 35)).alloc (.cells f 125)) from X_);have n0:=N0.out;go_enter func148,ntmps148;go_wp2_with fail;refine z_ (aF J1 _) ?_;go_wp2_with fail;refine z_ (aF J2 _) ?_;go_wp2_with fail;refine z_ (aF J3 _) ?_;clear n0;go_upto_region 4 with fail
 obtain ⟨W,hW⟩:=e_ (((w.alloc (.cells c 35)).alloc (.cells f 125)).alloc (.cells #[] 122))
 have OW:aE vE (w.heap.size+2) 122 3 (((w.alloc (.cells c 35)).alloc (.cells f 125)).alloc (.cells #[] 122)) (.slice (some ⟨w.heap.size+2,0,none⟩) 0 0) []:=aE.fresh0 (aRi _) (by have q:=aRr ((w.alloc (.cells c 35)).alloc (.cells f 125)) 122 [];simp only [aRj] at q;exact q);have YW:Ext ((w.alloc (.cells c 35)).alloc (.cells f 125)) (((w.alloc (.cells c 35)).alloc (.cells f 125)).alloc (.cells #[] 122)):=X_;replace B0:=hid (B0.ext YW);replace B1:=hid (B1.ext YW);replace X0:=hid (X0.trans YW);clear YW
 try simp only [aRj]
 rw [hW];rw [hW] at B0 B1 X0 OW;have OO:=hid OW;clear hW OW;go_wp2
 go_loopw [15,16] (fun l i wr=>∃j:Nat,j<=4/\i = .int .i64 (j:Nat)/\(∀q,q<j->aHj c f n s u v q=true)/\Ext w wr/\Blk wr w.heap.size 35 c/\Blk wr (w.heap.size+1) 125 f/\aE vE (w.heap.size+2) 122 3 wr l ((aR6 j).map (crn c f n s u v))) (fun _ i _=>4 - (intOf i).toNat)
 case atStart=>exact ⟨0,by omega,rfl,(fun q h=>absurd h (by omega)),X0,B0,B1,OO⟩
 case round=>
  obtain ⟨j,hj,rfl,y8,hx,h0,h1,ho⟩:=hrel;clear B0 B1 X0 OO;obtain ⟨X0,B0,B1,OO,HA⟩:=h5_ hx h0 h1 ho y8;clear hx h0 h1 ho y8
  rcases aSo j 4 with hlt|hge
  ·obtain ⟨a,ha⟩:=e_ (j % 2:Nat)
   obtain ⟨b,hb⟩:=e_ (j / 2:Nat)
   have b8:a<2:=by omega
   have b9:b<2:=by omega
   have c6:=HU.out;have c7:=HV.out;have c5:=HN.out;obtain ⟨N2,N3,T1,T2,R1,R2,y5⟩:=h7_ (show (0:Int)<=(u:Int)+(a:Int)/\(u:Int)+(a:Int)<=(n:Int) by omega) (show (0:Int)<=(v:Int)+(b:Int)/\(v:Int)+(b:Int)<=(n:Int) by omega) (show Int.tmod (j:Int) 2=(a:Int) by rw [aTw (by omega)];omega) (show aY4 (j:Int) 2=(b:Int) by rw [aTd (by omega)];omega) (show wrap64 ((u:Int)+(a:Int))=(u:Int)+(a:Int) from aD (by omega) (by omega)) (show wrap64 ((v:Int)+wrap64 (b:Int))=(v:Int)+(b:Int) by rw [aD (n:=(b:Int)) (by omega) (by omega)];exact aD (by omega) (by omega)) (And.intro ha hb);have a6:decide ((j:Int)<4)=true:=decide_eq_true (by omega);clear ha hb c6 c7 c5 b8 b9
   obtain ⟨X,Y,Z,hE⟩:∃X Y Z,evP f ((u:Int)+(a:Int)) ((v:Int)+(b:Int)) (n:Int)=⟨X,Y,Z⟩:=⟨_,_,_,rfl⟩
   obtain ⟨y4,N1⟩:=h2_ hE (aO1 HN);have ZW:=X0.size;have a9:=hid hlt;clear hE;have t1:=T1.out;have t2:=T2.out;have p:=B0.lt;obtain ⟨p0,p1,p2,p3,p4,p5,p6⟩:=B0.q7;have q:=B1.lt;obtain ⟨q0,q1,q2,q3,q4,q5,q6,q7,q8,q9,e6,e7⟩:=B1.q12;go_upto_region 7 with fail;clear a6
   cases hb:c.prB ⟨X,Y,Z⟩ s.lx s.ly
   ·have HB:=hid hb
    clear hb;refine dI 20 wr.heap.size (by kernel_rfl) ?_;refine z2_ (fuel:=7) [0,1,2,3,4,5,6,7,8,9,10,12,13] 11 18 (fun b _ hb=>rfl) (fun K hK=>?n2) fun K hK=>?n3
    case' n2=>
     clear t1 t2;go_wp2_with fail;refine r_ (pM R1 R2 y4 N1 N2 N3 _) fun a0 y0=>?_;have u0:Ext wr a0:=aRo X_ y0;go_wp2;refine k_ hK ?_;clear hK K;refine z2_ (fuel:=6) [] 14 18 (fun b _ hb=>aRv u0 (by omega)) (fun K hK=>?n4) fun K hK=>?n5
     case' n4=>
      go_wp2_with fail;refine r_ (nJ HB _) fun a01 y01=>?_;have a1:Ext wr a01:=aRo X_ y01;go_wp2;refine k_ hK ?_;clear hK K;refine z1_ (fuel:=2) [15,16,17] 18 (fun b _ hb=>aRv a1 (by omega)) fun K hK=>?_;go_wp2;have h7:wr.heap.size<=a01.heap.size:=a1.size;refine k_ hK ?_;clear hK K
      obtain ⟨h4,h3⟩:=i_ (a01.alloc (.cells #[(),(),()] 122))
      rw [<-h3]
      have x8:Ext wr h4:=by rw [h3];exact X_
      have h9:Blk h4 a01.heap.size 122 [(),(),()]:=h3▸aRr _ _ _;clear h3;refine z1_ (fuel:=1) [] 19 (fun b _ hb=>aRv x8 (by omega)) fun K hK=>?_;obtain ⟨z0,z1,z2,z3,z4,z5,z6⟩:=nO h9;go_wp2;have x7:=h7;refine hK _ _ (.inr (fun b _ hb=>aRv (w:=wr) S_ (by omega))) ?_;clear hK K;refine z1_ (fuel:=0) [] 20 (fun b _ hb=>aRv (w:=wr) S_ (by omega)) fun K hK=>?_;go_wp2;refine l_ hK ?_;clear hK K;refine cC (by kernel_rfl) ?_;have h2:=h7;have hE:Ext wr (((h4.setCell ⟨a01.heap.size,0,none⟩ ()).setCell ⟨a01.heap.size,1,none⟩ ()).setCell ⟨a01.heap.size,2,none⟩ ()):=aR0 (aR0 (aR0 x8 h2 _) h2 _) h2 _
      have h5:Blk (((h4.setCell ⟨a01.heap.size,0,none⟩ ()).setCell ⟨a01.heap.size,1,none⟩ ()).setCell ⟨a01.heap.size,2,none⟩ ()) (a01.heap.size) 122 [(),(),()]:=(((h9.set 0 (.int .i64 0)).set 1 (.int .i64 0)).set 2 (.int .i64 0))
      clear z0 z1 z2 z3 z4 z5 z6
      obtain ⟨A,hA⟩:=e_ a01.heap.size
      rw [hA] at hE h5 h2 ⊢
      obtain ⟨wx,h8⟩:=e_ (((h4.setCell ⟨A,0,none⟩ ()).setCell ⟨A,1,none⟩ ()).setCell ⟨A,2,none⟩ ())
      rw [h8] at hE h5 ⊢;clear h8 hA
     case' n5=>
      go_wp2;have x6:wr.heap.size<=a0.heap.size:=u0.size;refine k_ hK ?_;clear hK K
      obtain ⟨y6,h6⟩:=i_ (a0.alloc (.cells #[(),(),()] 122))
      rw [<-h6]
      have a7:Ext wr y6:=by rw [h6];exact X_
      have a3:Blk y6 a0.heap.size 122 [(),(),()]:=h6▸aRr _ _ _;clear h6;refine z1_ (fuel:=5) [] 14 (fun b _ hb=>aRv a7 (by omega)) fun K hK=>?_;go_wp2_with fail;refine r_ (nJ HB _) fun a0A1 y0A1=>?_;have x9:Ext wr a0A1:=aRo X_ y0A1;have x4:=a3.ext y0A1;go_wp2;refine k_ hK ?_;clear hK K;refine z1_ (fuel:=1) [15,16,17] 19 (fun b _ hb=>aRv x9 (by omega)) fun K hK=>?_;obtain ⟨z0,z1,z2,z3,z4,z5,z6⟩:=nO x4;go_wp2;have x7:=x6;refine hK _ _ (.inr (fun b _ hb=>aRv (w:=wr) S_ (by omega))) ?_;clear hK K;refine z1_ (fuel:=0) [] 20 (fun b _ hb=>aRv (w:=wr) S_ (by omega)) fun K hK=>?_;go_wp2;refine l_ hK ?_;clear hK K;refine cC (by kernel_rfl) ?_;have h2:=x6;have hE:Ext wr (((a0A1.setCell ⟨a0.heap.size,0,none⟩ ()).setCell ⟨a0.heap.size,1,none⟩ ()).setCell ⟨a0.heap.size,2,none⟩ ()):=aR0 (aR0 (aR0 x9 h2 _) h2 _) h2 _
      have h5:Blk (((a0A1.setCell ⟨a0.heap.size,0,none⟩ ()).setCell ⟨a0.heap.size,1,none⟩ ()).setCell ⟨a0.heap.size,2,none⟩ ()) (a0.heap.size) 122 [(),(),()]:=(((x4.set 0 (.int .i64 0)).set 1 (.int .i64 0)).set 2 (.int .i64 0))
      clear z0 z1 z2 z3 z4 z5 z6
      obtain ⟨A,hA⟩:=e_ a0.heap.size
      rw [hA] at hE h5 h2 ⊢
      obtain ⟨wx,h8⟩:=e_ (((a0A1.setCell ⟨A,0,none⟩ ()).setCell ⟨A,1,none⟩ ()).setCell ⟨A,2,none⟩ ())
      rw [h8] at hE h5 ⊢;clear h8 hA
    case' n3=>
     clear t1 t2;go_wp2;have y7:wr.heap.size<=wr.heap.size:=aRi _;refine k_ hK ?_;clear hK K
     obtain ⟨dA,z8⟩:=i_ ((wr.alloc (.cells #[(),(),()] 122)).drew)
     rw [<-z8]
     have uA:Ext wr dA:=by rw [z8];exact X_
     have bA:Blk dA wr.heap.size 122 [(),(),()]:=z8▸(aRr _ _ _).ext (aSk (aRu _));clear z8;refine z1_ (fuel:=6) [] 11 (fun b _ hb=>aRv uA (by omega)) fun K hK=>?_;go_wp2_with fail;refine r_ (pM R1 R2 y4 N1 N2 N3 _) fun aA0 yA0=>?_;have a8:Ext wr aA0:=aRo X_ yA0;have a4:=bA.ext yA0;go_wp2;refine k_ hK ?_;clear hK K;refine z1_ (fuel:=5) [] 14 (fun b _ hb=>aRv a8 (by omega)) fun K hK=>?_;go_wp2_with fail;refine r_ (nJ HB _) fun aA01 yA01=>?_;have z7:Ext wr aA01:=aRo X_ yA01;have x5:=a4.ext yA01;go_wp2;refine k_ hK ?_;clear hK K;refine z1_ (fuel:=1) [15,16,17] 19 (fun b _ hb=>aRv z7 (by omega)) fun K hK=>?_;obtain ⟨z0,z1,z2,z3,z4,z5,z6⟩:=nO x5;go_wp2;have x7:=y7;refine hK _ _ (.inr (fun b _ hb=>aRv (w:=wr) S_ (by omega))) ?_;clear hK K;refine z1_ (fuel:=0) [] 20 (fun b _ hb=>aRv (w:=wr) S_ (by omega)) fun K hK=>?_;go_wp2;refine l_ hK ?_;clear hK K;refine cC (by kernel_rfl) ?_;have h2:=y7;have hE:Ext wr (((aA01.setCell ⟨wr.heap.size,0,none⟩ ()).setCell ⟨wr.heap.size,1,none⟩ ()).setCell ⟨wr.heap.size,2,none⟩ ()):=aR0 (aR0 (aR0 z7 h2 _) h2 _) h2 _
     have h5:Blk (((aA01.setCell ⟨wr.heap.size,0,none⟩ ()).setCell ⟨wr.heap.size,1,none⟩ ()).setCell ⟨wr.heap.size,2,none⟩ ()) (wr.heap.size) 122 [(),(),()]:=(((x5.set 0 (.int .i64 0)).set 1 (.int .i64 0)).set 2 (.int .i64 0))
     clear z0 z1 z2 z3 z4 z5 z6
     obtain ⟨A,hA⟩:=e_ wr.heap.size
     rw [hA] at hE h5 h2 ⊢
     obtain ⟨wx,h8⟩:=e_ (((aA01.setCell ⟨A,0,none⟩ ()).setCell ⟨A,1,none⟩ ()).setCell ⟨A,2,none⟩ ())
     rw [h8] at hE h5 ⊢;clear h8 hA
    all_goals
     have y9:aHj c f n s u v j=false:=by unfold aHj lW;rw [y5.1,y5.2,aTn,aTn,y4];exact HB
     obtain ⟨a5,a2⟩:=h2_ (X0.trans hE) y9;clear hE y9;go_wp2;go_ret;exact ⟨_,rfl,.inl ⟨aL9 a9 a2,rfl⟩,a5.out⟩
   ·have HB:=hid hb
    obtain ⟨x1,x2,x3,hP⟩:∃a b d,c.pr ⟨X,Y,Z⟩ s.lx s.ly=⟨a,b,d⟩:=⟨_,_,_,rfl⟩
    have HP:=hid hP;clear hb hP;refine dI 20 wr.heap.size (by kernel_rfl) ?_;refine z2_ (fuel:=7) [0,1,2,3,4,5,6,7,8,9,10,12,13] 11 18 (fun b _ hb=>rfl) (fun K hK=>?p2) fun K hK=>?p3
    case' p2=>
     clear t1 t2;go_wp2_with fail;refine r_ (pM R1 R2 y4 N1 N2 N3 _) fun a0 y0=>?_;have u0:Ext wr a0:=aRo X_ y0;go_wp2;refine k_ hK ?_;clear hK K;refine z2_ (fuel:=6) [] 14 18 (fun b _ hb=>aRv u0 (by omega)) (fun K hK=>?p4) fun K hK=>?p5
     case' p4=>
      go_wp2_with fail;refine r_ (nI HB HP _) fun a01 y01=>?_;have a1:Ext wr a01:=aRo X_ y01;go_wp2;refine k_ hK ?_;clear hK K;refine z1_ (fuel:=2) [15,16,17] 18 (fun b _ hb=>aRv a1 (by omega)) fun K hK=>?_;go_wp2;have h7:wr.heap.size<=a01.heap.size:=a1.size;refine k_ hK ?_;clear hK K
      obtain ⟨h4,h3⟩:=i_ (a01.alloc (.cells #[(),(),()] 122))
      rw [<-h3]
      have x8:Ext wr h4:=by rw [h3];exact X_
      have h9:Blk h4 a01.heap.size 122 [(),(),()]:=h3▸aRr _ _ _;clear h3;refine z1_ (fuel:=1) [] 19 (fun b _ hb=>aRv x8 (by omega)) fun K hK=>?_;obtain ⟨z0,z1,z2,z3,z4,z5,z6⟩:=nO h9;go_wp2;have x7:=h7;refine hK _ _ (.inr (fun b _ hb=>aRv (w:=wr) S_ (by omega))) ?_;clear hK K;refine z1_ (fuel:=0) [] 20 (fun b _ hb=>aRv (w:=wr) S_ (by omega)) fun K hK=>?_;go_wp2;refine l_ hK ?_;clear hK K;refine cC (by kernel_rfl) ?_;have h2:=h7;have hE:Ext wr (((h4.setCell ⟨a01.heap.size,0,none⟩ x1).setCell ⟨a01.heap.size,1,none⟩ x2).setCell ⟨a01.heap.size,2,none⟩ x3):=aR0 (aR0 (aR0 x8 h2 _) h2 _) h2 _
      have h5:Blk (((h4.setCell ⟨a01.heap.size,0,none⟩ x1).setCell ⟨a01.heap.size,1,none⟩ x2).setCell ⟨a01.heap.size,2,none⟩ x3) (a01.heap.size) 122 [x1,x2,x3]:=(((h9.set 0 (.int .i64 x1)).set 1 (.int .i64 x2)).set 2 (.int .i64 x3))
      clear z0 z1 z2 z3 z4 z5 z6
      obtain ⟨A,hA⟩:=e_ a01.heap.size
      rw [hA] at hE h5 h2 ⊢
      obtain ⟨wx,h8⟩:=e_ (((h4.setCell ⟨A,0,none⟩ x1).setCell ⟨A,1,none⟩ x2).setCell ⟨A,2,none⟩ x3)
      rw [h8] at hE h5 ⊢;clear h8 hA
     case' p5=>
      go_wp2;have x6:wr.heap.size<=a0.heap.size:=u0.size;refine k_ hK ?_;clear hK K
      obtain ⟨y6,h6⟩:=i_ (a0.alloc (.cells #[(),(),()] 122))
      rw [<-h6]
      have a7:Ext wr y6:=by rw [h6];exact X_
      have a3:Blk y6 a0.heap.size 122 [(),(),()]:=h6▸aRr _ _ _;clear h6;refine z1_ (fuel:=5) [] 14 (fun b _ hb=>aRv a7 (by omega)) fun K hK=>?_;go_wp2_with fail;refine r_ (nI HB HP _) fun a0A1 y0A1=>?_;have x9:Ext wr a0A1:=aRo X_ y0A1;have x4:=a3.ext y0A1;go_wp2;refine k_ hK ?_;clear hK K;refine z1_ (fuel:=1) [15,16,17] 19 (fun b _ hb=>aRv x9 (by omega)) fun K hK=>?_;obtain ⟨z0,z1,z2,z3,z4,z5,z6⟩:=nO x4;go_wp2;have x7:=x6;refine hK _ _ (.inr (fun b _ hb=>aRv (w:=wr) S_ (by omega))) ?_;clear hK K;refine z1_ (fuel:=0) [] 20 (fun b _ hb=>aRv (w:=wr) S_ (by omega)) fun K hK=>?_;go_wp2;refine l_ hK ?_;clear hK K;refine cC (by kernel_rfl) ?_;have h2:=x6;have hE:Ext wr (((a0A1.setCell ⟨a0.heap.size,0,none⟩ x1).setCell ⟨a0.heap.size,1,none⟩ x2).setCell ⟨a0.heap.size,2,none⟩ x3):=aR0 (aR0 (aR0 x9 h2 _) h2 _) h2 _
      have h5:Blk (((a0A1.setCell ⟨a0.heap.size,0,none⟩ x1).setCell ⟨a0.heap.size,1,none⟩ x2).setCell ⟨a0.heap.size,2,none⟩ x3) (a0.heap.size) 122 [x1,x2,x3]:=(((x4.set 0 (.int .i64 x1)).set 1 (.int .i64 x2)).set 2 (.int .i64 x3))
      clear z0 z1 z2 z3 z4 z5 z6
      obtain ⟨A,hA⟩:=e_ a0.heap.size
      rw [hA] at hE h5 h2 ⊢
      obtain ⟨wx,h8⟩:=e_ (((a0A1.setCell ⟨A,0,none⟩ x1).setCell ⟨A,1,none⟩ x2).setCell ⟨A,2,none⟩ x3)
      rw [h8] at hE h5 ⊢;clear h8 hA
    case' p3=>
     clear t1 t2;go_wp2;have y7:wr.heap.size<=wr.heap.size:=aRi _;refine k_ hK ?_;clear hK K
     obtain ⟨dA,z8⟩:=i_ ((wr.alloc (.cells #[(),(),()] 122)).drew)
     rw [<-z8]
     have uA:Ext wr dA:=by rw [z8];exact X_
     have bA:Blk dA wr.heap.size 122 [(),(),()]:=z8▸(aRr _ _ _).ext (aSk (aRu _));clear z8;refine z1_ (fuel:=6) [] 11 (fun b _ hb=>aRv uA (by omega)) fun K hK=>?_;go_wp2_with fail;refine r_ (pM R1 R2 y4 N1 N2 N3 _) fun aA0 yA0=>?_;have a8:Ext wr aA0:=aRo X_ yA0;have a4:=bA.ext yA0;go_wp2;refine k_ hK ?_;clear hK K;refine z1_ (fuel:=5) [] 14 (fun b _ hb=>aRv a8 (by omega)) fun K hK=>?_;go_wp2_with fail;refine r_ (nI HB HP _) fun aA01 yA01=>?_;have z7:Ext wr aA01:=aRo X_ yA01;have x5:=a4.ext yA01;go_wp2;refine k_ hK ?_;clear hK K;refine z1_ (fuel:=1) [15,16,17] 19 (fun b _ hb=>aRv z7 (by omega)) fun K hK=>?_;obtain ⟨z0,z1,z2,z3,z4,z5,z6⟩:=nO x5;go_wp2;have x7:=y7;refine hK _ _ (.inr (fun b _ hb=>aRv (w:=wr) S_ (by omega))) ?_;clear hK K;refine z1_ (fuel:=0) [] 20 (fun b _ hb=>aRv (w:=wr) S_ (by omega)) fun K hK=>?_;go_wp2;refine l_ hK ?_;clear hK K;refine cC (by kernel_rfl) ?_;have h2:=y7;have hE:Ext wr (((aA01.setCell ⟨wr.heap.size,0,none⟩ x1).setCell ⟨wr.heap.size,1,none⟩ x2).setCell ⟨wr.heap.size,2,none⟩ x3):=aR0 (aR0 (aR0 z7 h2 _) h2 _) h2 _
     have h5:Blk (((aA01.setCell ⟨wr.heap.size,0,none⟩ x1).setCell ⟨wr.heap.size,1,none⟩ x2).setCell ⟨wr.heap.size,2,none⟩ x3) (wr.heap.size) 122 [x1,x2,x3]:=(((x5.set 0 (.int .i64 x1)).set 1 (.int .i64 x2)).set 2 (.int .i64 x3))
     clear z0 z1 z2 z3 z4 z5 z6
     obtain ⟨A,hA⟩:=e_ wr.heap.size
     rw [hA] at hE h5 h2 ⊢
     obtain ⟨wx,h8⟩:=e_ (((aA01.setCell ⟨A,0,none⟩ x1).setCell ⟨A,1,none⟩ x2).setCell ⟨A,2,none⟩ x3)
     rw [h8] at hE h5 ⊢;clear h8 hA
    all_goals
     have b1:crn c f n s u v j=⟨x1,x2,x3⟩:=by unfold crn dE;rw [y5.1,y5.2,aTn,aTn,y4];exact HP
     have y9:aHj c f n s u v j=true:=by unfold aHj lW;rw [y5.1,y5.2,aTn,aTn,y4];exact HB
     obtain ⟨b2,a2,a5,C0,C1,O2⟩:=h6_ b1 y9 (X0.trans hE) (B0.ext hE) (B1.ext hE) (OO.ext hE);have zx:=hE.size;clear hE b1 y9;have y:=h5.lt;obtain ⟨y0,y1,y2⟩:=h5.q3;obtain ⟨c8,LL⟩:=h2_ h5 (show ((aR6 j).map (crn c f n s u v)).length<1000000 by have:=a9.out;simp;omega);clear h5;go_wp2_with (at_builtin;refine mE _ rfl _ _ rfl (w.heap.size+2) _ _ rfl (aE.ext O2 X_) ⟨x1,x2,x3⟩ wx.heap.size rfl (aH1 wx x1 x2 x3) LL (by simp;omega) ?_;intro v8 w8 hown hg);have xe:Ext wx (wx.alloc (.cells #[x1,x2,x3] 122)):=X_;have z9:=aE.rowE (aE.ext O2 xe);obtain ⟨R0,R1,RX,RO⟩:=h4_ ((C0.ext xe).grown hg (fun e=>by have h1:=(z9 _ e.symm).1;omega)) ((C1.ext xe).grown hg (fun e=>by have h1:=(z9 _ e.symm).1;omega)) (aSt (a5.out.trans xe) hg (fun k e=>by have h1:=(z9 k e).1;omega)) hown;clear hown hg z9 xe;go_wp2;go_roundw
     case rel=>
      refine ⟨j+1,by omega,by go_num,?_,RX,R0,R1,?_⟩
      ·intro q hq
       rcases aSo q j with h|h
       ·exact HA q h
       ·obtain rfl:q=j:=by omega
        exact a2
      ·rw [aT3,aTp,aVk,b2]
       exact RO
     case measure=>simp [intOf];omega
  ·obtain rfl:j=4:=by omega
   have c4:=hid (aN2 (fun q hq=>HA q hq));have hI:=OO.out;rw [show (aR6 4).map (crn c f n s u v)=[crn c f n s u v 0,crn c f n s u v 1,crn c f n s u v 2,crn c f n s u v 3] from rfl] at hI
   obtain ⟨⟨x0,y0,s0⟩,e0⟩:∃p,crn c f n s u v 0=p:=⟨_,rfl⟩
   rw [e0] at hI;have b3:=hid e0
   obtain ⟨⟨x1,y1,s1⟩,e1⟩:∃p,crn c f n s u v 1=p:=⟨_,rfl⟩
   rw [e1] at hI;have b4:=hid e1
   obtain ⟨⟨x2,y2,s2⟩,e2⟩:∃p,crn c f n s u v 2=p:=⟨_,rfl⟩
   rw [e2] at hI;have b5:=hid e2
   obtain ⟨⟨x3,y3,s3⟩,e3⟩:∃p,crn c f n s u v 3=p:=⟨_,rfl⟩
   rw [e3] at hI;have b6:=hid e3;obtain ⟨g,tc,rfl,gl,gw,b0,c9,-,c0⟩:=aE.at hI (fun _=>rfl) (i:=0) rfl;obtain ⟨g1,e8,he,-,-,-,-,-,c1⟩:=aE.at hI (fun _=>rfl) (i:=1) rfl;simp only [aSb,aRl,Addr.mk.injEq,and_true,true_and] at he;obtain ⟨rfl,rfl⟩:=he;obtain ⟨g2,e9,he,-,-,-,-,-,c2⟩:=aE.at hI (fun _=>rfl) (i:=2) rfl;simp only [aSb,aRl,Addr.mk.injEq,and_true,true_and] at he;obtain ⟨rfl,rfl⟩:=he;obtain ⟨g3,g0,he,-,-,-,-,-,c3⟩:=aE.at hI (fun _=>rfl) (i:=3) rfl;simp only [aSb,aRl,Addr.mk.injEq,and_true,true_and] at he;obtain ⟨rfl,rfl⟩:=he;have d0:wr.cell? ⟨g,0,none⟩=some (.int .i64 x0):=c0 0 (by decide);have d1:wr.cell? ⟨g,1,none⟩=some (.int .i64 y0):=c0 1 (by decide);have d2:wr.cell? ⟨g,2,none⟩=some (.int .i64 s0):=c0 2 (by decide);have d3:wr.cell? ⟨g,3,none⟩=some (.int .i64 x1):=c1 0 (by decide);have d4:wr.cell? ⟨g,4,none⟩=some (.int .i64 y1):=c1 1 (by decide);have d5:wr.cell? ⟨g,5,none⟩=some (.int .i64 s1):=c1 2 (by decide);have d6:wr.cell? ⟨g,6,none⟩=some (.int .i64 x2):=c2 0 (by decide);have d7:wr.cell? ⟨g,7,none⟩=some (.int .i64 y2):=c2 1 (by decide);have d8:wr.cell? ⟨g,8,none⟩=some (.int .i64 s2):=c2 2 (by decide);have d9:wr.cell? ⟨g,9,none⟩=some (.int .i64 x3):=c3 0 (by decide);have e4:wr.cell? ⟨g,10,none⟩=some (.int .i64 y3):=c3 1 (by decide);have e5:wr.cell? ⟨g,11,none⟩=some (.int .i64 s3):=c3 2 (by decide);have b7:4<=tc:=b0;have ZW:=X0.size;clear hI c0 c1 c2 c3 b0 e0 e1 e2 e3 hge;go_wp2;refine aA [([0,1,2,3,4,5,6,7,8,9,10,11,12,13,14,15,16,17,18,19,20,21,22,23,24,25,26,27,28,29],30),([],31)] 99 wr.heap.size (by kernel_rfl) (by kernel_rfl) ?_;refine st_ fun K hK=>?_;go_wp2;refine k_ hK (st_ fun K hK=>?_);go_wp2;refine k_ hK (aC ?_);clear hK K;have BF:=aRr wr.drew 155 [x0,y0,s0,x1,y1,s1,x2,y2,s2,(u:Nat),(v:Nat),(n:Nat),x1,y1,s1,x3,y3,s3,x2,y2,s2,(u:Nat),(v:Nat),(n:Nat)];have XF:Ext wr (wr.drew.alloc (.cells #[x0,y0,s0,x1,y1,s1,x2,y2,s2,(u:Nat),(v:Nat),(n:Nat),x1,y1,s1,x3,y3,s3,x2,y2,s2,(u:Nat),(v:Nat),(n:Nat)] 155)):=X_;go_wp2;go_ret;refine ⟨_,rfl,.inr ⟨c4.out,wr.heap.size,ZW,rfl,?_⟩,X0.trans XF⟩;rw [show dE c f n s u v=⟨x0,y0,s0⟩ from b3,show dE c f n s (u+1) v=⟨x1,y1,s1⟩ from b4,show dE c f n s u (v+1)=⟨x2,y2,s2⟩ from b5,show dE c f n s (u+1) (v+1)=⟨x3,y3,s3⟩ from b6];exact BF
def qM (c:Cam) (f:Nat->Int) (n:Nat) (s:Smp) (k:Nat):List Mc:=(aR6 k).flatMap fun q=>gG c f n s (q % n) (q / n)
theorem aHk (c:Cam) (f:Nat->Int) (n:Nat) (s:Smp) (hu:u<n):qM c f n s (v*n+(u+1))=qM c f n s (v*n+u)++gG c f n s u v:=by
 unfold qM;rw [<-aTa,aT3,aSy,aVf]
 have e1:(v*n+u) % n=u:=by rw [aXw,Nat.add_mul_mod_self_right,Nat.mod_eq_of_lt hu]
 have e2:(v*n+u) / n=v:=by rw [aXw,Nat.add_mul_div_right _ _ (by omega),Nat.div_eq_of_lt hu,aSf]
 rw [e1,e2]
theorem aDe (c:Cam) (f:Nat->Int) (n:Nat) (s:Smp) (k:Nat):(qM c f n s k).length<=2*k:=by
 unfold qM
 induction k with
 | zero=>simp
 | succ k ih=>
  rw [aT3,aSy,aVf,aSa];have:=jK c f n s (k % n) (k / n);omega
theorem Mc.oneC (y:Mc):∀u∈y.cs,u.oneCell'=true:=y.one
theorem yZ (c:Cam) (f:Nat->Int) (n:Nat) (s:Smp) (hn:1<=n/\n<=8) (w:World) :
  Calls aRn 98 #[.agg c,.agg f,(n:Nat),s.lx,s.ly] w fun e w'=>∃r,e = .returned r/\aE Mc.cs w.heap.size 155 12 w' r (kT c f n s)/\Ext w w':=by
 obtain ⟨J1,HN⟩:=h2_ (aG.2 (show (1:Int)<=(n:Int)/\(n:Int)<=8 by omega)) hn;clear hn;obtain ⟨B0,B1,X0⟩:=h3_ ((aRr w 35 c).ext (show Ext (w.alloc (.cells c 35)) ((w.alloc (.cells c 35)).alloc (.cells f 125)) from X_)) (show Blk ((w.alloc (.cells c 35)).alloc (.cells f 125)) (w.heap.size+1) 125 f from by have q:=(aRr (w.alloc (.cells c 35)) 125 f).ext (show Ext ((w.alloc (.cells c 35)).alloc (.cells f 125)) ((w.alloc (.cells c 35)).alloc (.cells f 125)) from X_);simp only [aRj] at q;exact q) (show Ext w ((w.alloc (.cells c 35)).alloc (.cells f 125)) from X_);go_enter func98,ntmps98;go_wp2_with fail;refine z_ (aF J1 _) ?_;go_upto_region 4 with fail
 obtain ⟨W,hW⟩:=e_ (((w.alloc (.cells c 35)).alloc (.cells f 125)).alloc (.cells #[] 155))
 have OW:aE Mc.cs (w.heap.size+2) 155 12 (((w.alloc (.cells c 35)).alloc (.cells f 125)).alloc (.cells #[] 155)) (.slice (some ⟨w.heap.size+2,0,none⟩) 0 0) []:=aE.freshC (aRi _) (by have q:=aRr ((w.alloc (.cells c 35)).alloc (.cells f 125)) 155 [];simp only [aRj] at q;exact q);have YW:Ext ((w.alloc (.cells c 35)).alloc (.cells f 125)) (((w.alloc (.cells c 35)).alloc (.cells f 125)).alloc (.cells #[] 155)):=X_;replace B0:=hid (B0.ext YW);replace B1:=hid (B1.ext YW);replace X0:=hid (X0.trans YW);clear YW
 try simp only [aRj]
 rw [hW];rw [hW] at B0 B1 X0 OW;have OO:=hid OW;clear hW OW;go_wp2
 go_loopw [11,12] (fun l x wr=>∃r:Nat,r<=n/\x = .int .i64 (r:Nat)/\Ext w wr/\Blk wr w.heap.size 35 c/\Blk wr (w.heap.size+1) 125 f/\aE Mc.cs (w.heap.size+2) 155 12 wr l (qM c f n s (r*n))) (fun _ x _=>n - (intOf x).toNat)
 case atStart=>exact ⟨0,by omega,rfl,X0,B0,B1,by rw [aWb];exact OO⟩
 case round=>
  obtain ⟨r,hr,rfl,hx,h0,h1,ho⟩:=hrel;clear B0 B1 X0 OO;obtain ⟨X0,B0,B1,OO⟩:=h4_ hx h0 h1 ho;obtain ⟨la,lc,rfl,-⟩:=aE.form ho;clear hx h0 h1 ho
  rcases aSo r n with hrn|hrn
  ·go_wp2_with fail
   obtain ⟨WA,h9⟩:=i_ wr
   rw [<-h9] at B0 B1 X0 OO ⊢;clear h9
   go_loopw [11,13] (fun l x wr=>∃q:Nat,q<=n/\x = .int .i64 (q:Nat)/\Ext w wr/\Blk wr w.heap.size 35 c/\Blk wr (w.heap.size+1) 125 f/\aE Mc.cs (w.heap.size+2) 155 12 wr l (qM c f n s (r*n+q))) (fun _ x _=>n - (intOf x).toNat)
   case atStart=>exact ⟨0,by omega,rfl,X0,B0,B1,by rw [aS0];exact OO⟩
   case round=>
    obtain ⟨q,hq,rfl,hx,h0,h1,ho⟩:=hrel;clear B0 B1 X0 OO;obtain ⟨X0,B0,B1,OO⟩:=h4_ hx h0 h1 ho;have h6:=aDe c f n s (r*n+q)
    have q5:r*n+q<=64:=by
     have h:=aSi (show r<=7 by have:=HN.out;omega) (show n<=8 by have:=HN.out;omega);have:=HN.out;omega
    have h3:=hid (show (qM c f n s (r*n+q)).length<=200 by omega);clear h6 q5
    rcases aSo q n with hqn|hqn
    ·have h4:=hid (aHk c f n s (v:=r) hqn)
     obtain ⟨T,hT⟩:=e_ (qM c f n s (r*n+q))
     rw [hT] at ho OO h3 h4;clear hT;obtain ⟨ma,mc,rfl,-⟩:=aE.form ho;have ZW:=hx.size;clear hx h0 h1 ho;have p:=B0.lt;obtain ⟨p0,p1,p2,p3,p4,p5,p6⟩:=B0.q7;have g:=B1.lt;obtain ⟨g0,g1,g2,g3,g4,g5,g6,g7,g8,g9,q2,q3⟩:=B1.q12;go_wp2_with fail;refine (aAn c f n s q r ⟨HN.1,by have:=HN.out;omega⟩ hqn hrn _).mono ?_;rintro e w5 ⟨d,rfl,hD,x5⟩;have hR:=hD.rd;have h5:=jK c f n s q r
     obtain ⟨L,hL⟩:=e_ (gG c f n s q r)
     replace h4:=hid (hL▸h4.out);rw [hL] at hR h5;clear hL;obtain ⟨da,dc,rfl,-,-,h8⟩:=hR.form;obtain ⟨HR,O5,C0,C1,CX⟩:=h5_ h8 (OO.ext x5) (B0.ext x5) (B1.ext x5) (X0.trans x5);have z5:=CX.size;have h7:=hid h5;have q6:=C1.lt;clear hD hR h8 h5 x5 p p0 p1 p2 p3 p4 p5 p6 g g0 g1 g2 g3 g4 g5 g6 g7 g8 g9 q2 q3;go_wp2_with (at_builtin;refine cY Mc.cs 155 12 96 _ w5 rfl _ _ 148 rfl underlying148 wV rfl (by decide) (by decide) (fun _=>rfl) Mc.oneC (w.heap.size+2) (.slice ma T.length mc) T rfl O5 _ _ (.slice da L.length dc) L rfl HR (by have:=h3.out;have:=h7.out;omega) (by omega) ?_;intro v6 w6 hown hg);have h2:=aE.rowE O5;obtain ⟨RX,R0,R1,RO⟩:=h4_ (aSt CX hg (fun k e=>by have:=(h2 k e).1;omega)) (C0.grown hg (fun e=>by have:=(h2 _ e.symm).1;omega)) (C1.grown hg (fun e=>by have:=(h2 _ e.symm).1;omega)) hown;clear hown hg h2;have q0:=HN.out;obtain ⟨HW,q1⟩:=h2_ (show wrap64 ((q:Int)+1)=((q+1:Nat):Int) by rw [aD (by omega) (by omega)];omega) (show aE Mc.cs (w.heap.size+2) 155 12 w6 v6 (qM c f n s (r*n+(q+1))) by rw [h4];exact RO)
     obtain ⟨n8,q4⟩:=e_ (n:Nat)
     clear h3 h7 HR O5 C0 C1 CX h4 RO HN q0 q4 n8;go_wp2;go_roundw
     case rel=>exact ⟨q+1,by omega,congrArg (Value.int .i64) HW,RX,R0,R1,q1⟩
     case measure=>
      rw [HW]
      show n - (q+1)<n - q
      omega
    ·obtain rfl:q=n:=by omega
     obtain ⟨ma,mc,rfl,-⟩:=aE.form ho;clear hx h0 h1 ho;have q0:=HN.out;go_wp2;go_roundw
     case rel=>exact ⟨r+1,by omega,by go_num,X0,B0,B1,by rw [Nat.succ_mul];exact OO⟩
     case measure=>simp [intOf];omega
  ·obtain rfl:r=n:=by omega
   go_wp2;go_ret;exact ⟨_,rfl,aE.low (show aE Mc.cs (w.heap.size+2) 155 12 wr _ (kT c f _ s) from OO) (by omega),X0⟩
structure vH (s:Scn) (h:Nat) (w:World) (cv av:Value):Prop where
 hh:h<=w.heap.size
 c:∃us:List Value,us.length=s.m/\Rd (fun u=>[u]) 0 h w cv us/\∀k u,us[k]?=some u->aS 0 h w u (s.shade k).1
 a:∃us:List Value,us.length=s.m/\Rd (fun u=>[u]) 0 h w av us/\∀k u,us[k]?=some u->aS 0 h w u (s.shade k).2
theorem vH.ext {s:Scn} {w':World} (r:vH s h w cv av) (x:Ext w w'):vH s h w' cv av:=by
 obtain ⟨hh,⟨us,h1,h2,h3⟩,us2,k1,k2,k3⟩:=r;exact ⟨aRq hh x.size,⟨us,h1,h2.ext hh x,fun k u hu=>(h3 k u hu).ext hh x⟩,us2,k1,k2.ext hh x,fun k u hu=>(k3 k u hu).ext hh x⟩
theorem Rd.low0 {α : Type} {cs : α->List Value} {v:Value} {ys:List α} (h:Rd cs lo hi w v ys):Rd cs 0 hi w v ys:=by
 obtain ⟨ad,c,h1,h2,h3,h4,h5⟩:=h;refine ⟨ad,c,h1,h2,h3,h4,?_⟩
 rcases h5 with h5|⟨b,off,e,l1,l2,hc⟩
 ·exact .inl h5
 ·exact .inr ⟨b,off,e,aS1 _,l2,hc⟩
theorem aFd.rd {s:Scn} (h:aFd s lo w cv av s.m):vH s w.heap.size w cv av:=by
 obtain ⟨us,h1,h2,h3⟩:=h.c.ints;obtain ⟨h0,k1,k2,k3⟩:=h.a.ints;rw [sW] at h1;rw [uZ] at k1;refine ⟨aRi _,⟨us,h1,h2.low0,fun k u hu=>h3 k u _ hu (aL5 s ?_)⟩,h0,k1,k2.low0,fun k u hu=>k3 k u _ hu (aN1 s ?_)⟩
 ·have:=(aRk.1 hu).1
  omega
 ·have:=(aRk.1 hu).1
  omega
theorem vH.at {s:Scn} (r:vH s h w cv av) (hk:k<s.m) :
  ∃bc oc cc ba oa ca a4 c4 a5 c5,cv = .slice (some ⟨bc,oc,none⟩) s.m cc/\av = .slice (some ⟨ba,oa,none⟩) s.m ca/\bc<h/\ba<h/\w.cell? ⟨bc,oc+k,none⟩=some (.slice a4 (s.shade k).1.length c4)/\w.cell? ⟨ba,oa+k,none⟩=some (.slice a5 (s.shade k).2.length c5)/\gH 0 h w a4 c4 (s.shade k).1/\gH 0 h w a5 c5 (s.shade k).2:=by
 obtain ⟨hh,⟨us,h1,h2,h3⟩,us2,k1,k2,k3⟩:=r;obtain ⟨ad,cc,rfl,-,-,q2⟩:=h2.form;obtain ⟨h5,ca,rfl,-,-,q4⟩:=k2.form
 obtain ⟨u,hu⟩:∃u,us[k]?=some u:=⟨_,aRs (by omega)⟩
 obtain ⟨u2,h0⟩:∃u,us2[k]?=some u:=⟨_,aRs (by omega)⟩
 obtain ⟨bc,oc,rfl,-,l1,hc⟩:=Rd.at (sz:=1) (fun _=>rfl) q2 hu;obtain ⟨ba,oa,rfl,-,l2,h4⟩:=Rd.at (sz:=1) (fun _=>rfl) q4 h0;obtain ⟨a4,c4,rfl,i4⟩:=(h3 k u hu).open;obtain ⟨a5,c5,rfl,i5⟩:=(k3 k u2 h0).open;have e1:=hc 0 (by omega);have e2:=h4 0 (by omega);rw [Nat.mul_one,aS0] at e1 e2;exact ⟨bc,oc,cc,ba,oa,ca,a4,c4,a5,c5,by rw [h1],by rw [k1],l1,l2,e1,e2,i4,i5⟩
theorem aDf (s:Scn) (lo hi h0:Nat) (v cv av:Value) (k:Nat) (p:Smp) (n:Nat) (cols als:List Int) (w:World) (hv:s.R lo hi w v) (hh:hi<=w.heap.size) (hk:k<s.m) (hm5:s.m<=5) (hr:s.rt k=(n:Nat)) (hn:1<=n/\n<=8) (hp:p.okB s.c=true)
  (hd:vH s h0 w cv av) (hlc:cols.length=n*n) (hla:als.length=n*n) (hcols:(s.shade k).1=cols) (hals:(s.shade k).2=als) :
  Calls aRn 55 #[v,.agg #[cv,av],(k:Nat),.agg #[p.x,p.y,p.t,p.lx,p.ly]] w fun e w'=>∃r,e = .returned r/\aE aP.cs w.heap.size 95 5 w' r (uE s.c (aX (s.st k) (s.en k) p.t) n p (k:Nat) cols als)/\Ext w w':=by
 obtain ⟨a1,c1,a2,c2,a3,c3,rfl,-,-,-,-,-,hF⟩:=hv.form;have i2:=hd.hh;obtain ⟨bc,oc,cc,ba,oa,ca,a4,c4,a5,c5,rfl,rfl,lc,la,ec,ea,hC,hA⟩:=hd.at hk;rw [hcols] at ec hC;rw [hals] at ea hA;have e8:=hF.cap;have i5:=hF.le;obtain ⟨b,h7,rfl,i0,i1,h3⟩:=hF.at hk (by decide)
 obtain ⟨f,hf⟩:=e_ (s.st k)
 obtain ⟨g,hg⟩:=e_ (s.en k)
 obtain ⟨sh,b1⟩:=e_ (s.sh k)
 have bw:b<w.heap.size:=by omega
 have xw:Ext w (((w.alloc (.cells (sA_ s a1 c1 a2 c2 (some ⟨b,h7,none⟩) c3) 40)).alloc (.cells #[.slice (some ⟨bc,oc,none⟩) s.m cc,.slice (some ⟨ba,oa,none⟩) s.m ca] 78)).alloc (.cells #[p.x,p.y,p.t,p.lx,p.ly] 42)):=X_
 have q6:(((w.alloc (.cells (sA_ s a1 c1 a2 c2 (some ⟨b,h7,none⟩) c3) 40)).alloc (.cells #[.slice (some ⟨bc,oc,none⟩) s.m cc,.slice (some ⟨ba,oa,none⟩) s.m ca] 78)).alloc (.cells #[p.x,p.y,p.t,p.lx,p.ly] 42)).rangeAt b (h7+k*26) ((aR6 26).map fun j=>.int .i64 (s.F (k*26+j))):=by
  intro j v hj;obtain ⟨h1,h2⟩:=aRk.1 hj;simp only [aSv,aUi] at h1;simp only [aU3,aUd] at h2;subst h2;exact (xw.cells.1 b _ bw).trans (h3 j h1)
 change (((w.alloc (.cells (sA_ s a1 c1 a2 c2 (some ⟨b,h7,none⟩) c3) 40)).alloc (.cells #[.slice (some ⟨bc,oc,none⟩) s.m cc,.slice (some ⟨ba,oa,none⟩) s.m ca] 78)).alloc (.cells #[p.x,p.y,p.t,p.lx,p.ly] 42)).rangeAt b (h7+k*26) (gL_ (s.st k) (s.en k) (s.sh k) (s.rt k)) at q6;simp only [hf,hg,b1,hr] at q6;have q0:=aRr w 40 (sL_ s a1 c1 a2 c2 (some ⟨b,h7,none⟩) c3);have q1:=aRr (w.alloc (.cells (sA_ s a1 c1 a2 c2 (some ⟨b,h7,none⟩) c3) 40)) 78 [.slice (some ⟨bc,oc,none⟩) s.m cc,.slice (some ⟨ba,oa,none⟩) s.m ca];have q2:=aRr ((w.alloc (.cells (sA_ s a1 c1 a2 c2 (some ⟨b,h7,none⟩) c3) 40)).alloc (.cells #[.slice (some ⟨bc,oc,none⟩) s.m cc,.slice (some ⟨ba,oa,none⟩) s.m ca] 78)) 42 [p.x,p.y,p.t,p.lx,p.ly];simp only [aRj] at q1 q2;have r0:=q0.ext (show Ext (w.alloc (.cells (sA_ s a1 c1 a2 c2 (some ⟨b,h7,none⟩) c3) 40)) (((w.alloc (.cells (sA_ s a1 c1 a2 c2 (some ⟨b,h7,none⟩) c3) 40)).alloc (.cells #[.slice (some ⟨bc,oc,none⟩) s.m cc,.slice (some ⟨ba,oa,none⟩) s.m ca] 78)).alloc (.cells #[p.x,p.y,p.t,p.lx,p.ly] 42)) from X_);have r1:=q1.ext (show Ext ((w.alloc (.cells (sA_ s a1 c1 a2 c2 (some ⟨b,h7,none⟩) c3) 40)).alloc (.cells #[.slice (some ⟨bc,oc,none⟩) s.m cc,.slice (some ⟨ba,oa,none⟩) s.m ca] 78)) (((w.alloc (.cells (sA_ s a1 c1 a2 c2 (some ⟨b,h7,none⟩) c3) 40)).alloc (.cells #[.slice (some ⟨bc,oc,none⟩) s.m cc,.slice (some ⟨ba,oa,none⟩) s.m ca] 78)).alloc (.cells #[p.x,p.y,p.t,p.lx,p.ly] 42)) from X_);have r2:=q2.ext (show Ext (((w.alloc (.cells (sA_ s a1 c1 a2 c2 (some ⟨b,h7,none⟩) c3) 40)).alloc (.cells #[.slice (some ⟨bc,oc,none⟩) s.m cc,.slice (some ⟨ba,oa,none⟩) s.m ca] 78)).alloc (.cells #[p.x,p.y,p.t,p.lx,p.ly] 42)) (((w.alloc (.cells (sA_ s a1 c1 a2 c2 (some ⟨b,h7,none⟩) c3) 40)).alloc (.cells #[.slice (some ⟨bc,oc,none⟩) s.m cc,.slice (some ⟨ba,oa,none⟩) s.m ca] 78)).alloc (.cells #[p.x,p.y,p.t,p.lx,p.ly] 42)) from X_)
 have z3:(((w.alloc (.cells (sA_ s a1 c1 a2 c2 (some ⟨b,h7,none⟩) c3) 40)).alloc (.cells #[.slice (some ⟨bc,oc,none⟩) s.m cc,.slice (some ⟨ba,oa,none⟩) s.m ca] 78)).alloc (.cells #[p.x,p.y,p.t,p.lx,p.ly] 42)).heap.size=w.heap.size+3:=by simp
 obtain ⟨HC,HA,b7,b6,HP⟩:=h5_ hC hA ec ea hp
 have ht:0<=p.t/\p.t<=16:=by
  unfold Smp.okB at hp;simp only [aRy,aG] at hp;omega
 obtain ⟨HT,d1,b9⟩:=h3_ ht hlc hla;clear hlc hla q0 q1 q2 hC hA ec ea hp ht h3 hF hv b1 hr hd hcols hals;rw [hf,hg,yG];have z7:=aEu (c:=s.c) (f:=aX f g p.t) (n:=n) (s:=p) hn.1;have z4:=sI s.c (aX f g p.t) p hn.2
 obtain ⟨M,q4⟩:=e_ (kT s.c (aX f g p.t) n p)
 rw [q4] at z7 z4 ⊢;obtain ⟨d5,d3,d4⟩:=h3_ z7 z4 q4;clear hf hg z7 z4 q4;go_enter func55,ntmps55;go_upto_region 1 with fail
 obtain ⟨W0,x1⟩:=e_ (((w.alloc (.cells (sA_ s a1 c1 a2 c2 (some ⟨b,h7,none⟩) c3) 40)).alloc (.cells #[.slice (some ⟨bc,oc,none⟩) s.m cc,.slice (some ⟨ba,oa,none⟩) s.m ca] 78)).alloc (.cells #[p.x,p.y,p.t,p.lx,p.ly] 42))
 rw [x1] at q6 r0 r1 r2 z3 xw
 try simp only [aRj] at x1
 rw [x1];clear x1
 have bl:b<W0.heap.size:=by omega
 have d0:=r0.cell 10 rfl;have l0:=r0.lt;obtain ⟨R0,R1,R2,XW,Z3⟩:=h5_ r0 r1 r2 xw z3
 have i4:((k:Nat):Int)<(s.m:Nat):=by omega
 have q8:(W0.alloc (.cells #[] 95)).rangeAt b (h7+k*26) (gL_ f g sh (n:Nat)):=fun j v hj=>((show Ext W0 (W0.alloc (.cells #[] 95)) from X_).cells.1 b _ bl).trans (q6 j v hj);clear r0 r1 r2 xw z3 q6;go_upto_region 3 with (first|(show wpList _ _ _ [_,_,_] _ _;refine wpList_load_mid rfl _ _ rfl b (h7+k*26) rfl (gL_ f g sh (n:Nat)) _ q8 underlying127 rfl fX ?_)|(show wpList _ _ _ [_] _ _;refine dP _ _ _ rfl 127 (.tmp 10) (.tmp 21) rfl rfl (gA_ f g sh (n:Nat)) (W0.heap.size+1) (by simp) rfl rfl (by kernel_rfl) (by kernel_rfl) (by kernel_rfl) ?_))
 have bS:Blk ((W0.alloc (.cells #[] 95)).alloc (.cells (gA_ f g sh (n:Nat)) 127)) (W0.heap.size+1) 127 (gL_ f g sh (n:Nat)):=by
  have q:=aRr (W0.alloc (.cells #[] 95)) 127 (gL_ f g sh (n:Nat));rw [aRj] at q;exact q
 have hO:aE aP.cs W0.heap.size 95 5 ((W0.alloc (.cells #[] 95)).alloc (.cells (gA_ f g sh (n:Nat)) 127)) (.slice (some ⟨W0.heap.size,0,none⟩) 0 0) []:=aE.ext (aE.fresh0 (aRi _) (aRr W0 95 [])) (show Ext (W0.alloc (.cells #[] 95)) ((W0.alloc (.cells #[] 95)).alloc (.cells (gA_ f g sh (n:Nat)) 127)) from X_);have xa:Ext W0 ((W0.alloc (.cells #[] 95)).alloc (.cells (gA_ f g sh (n:Nat)) 127)):=X_
 obtain ⟨wc,b3⟩:=e_ ((W0.alloc (.cells #[] 95)).alloc (.cells (gA_ f g sh (n:Nat)) 127))
 rw [b3] at bS hO xa ⊢;clear b3 q8
 obtain ⟨A,a6⟩:=e_ (W0.heap.size+1)
 rw [a6] at bS ⊢;obtain ⟨HS,HO,HX⟩:=h3_ bS hO xa;have lA:=bS.lt;have g1:=xa.size;have d7:=bS.cell 25 rfl
 have a8:wc.rangeAt A 0 (gL_ f g sh (n:Nat)):=fun j v hj=>by rw [aSf];exact bS.cell j hj
 have e0:=R0.ext xa;have e1:=R2.ext xa;obtain ⟨m0,m1,m2,m3,m4,m5,m6⟩:=e0.q7;obtain ⟨s2,s3,s4,l1,l2⟩:=m5_ (e1.cell 2 rfl) (e1.cell 3 rfl) (e1.cell 4 rfl) e0.lt e1.lt;clear e0 e1 bS hO xa d0 l0 R0;refine aA [([0,1,2,3,4,6,7,8,9,10,11,14],5),([],12),([],13)] 99 wc.heap.size (by kernel_rfl) (by kernel_rfl) ?_;refine aI ?_;simp only [List.filterMap_cons,List.filterMap_nil,List.getElem?_toArray,aRg,aRh]
 show wpQuiet _ _ _ _ [_,_,_,_,_,_,_,_,_,_,_,_] _
 go_big_quiet_step (fail)
 go_big_quiet_step (fail)
 refine eV rfl _ _ rfl A 0 rfl (gL_ f g sh (n:Nat)) _ (by rintro _ ⟨d,rfl⟩ j v hj;rw [jQ _ _ _ _ lA];exact a8 j v hj) underlying127 rfl fX ?_
 try simp only [Act.put,List.setIfInBounds_toArray,List.set_cons_succ,List.set_cons_zero]
 repeat (go_big_quiet_step (fail))
 refine wpQuiet_nil ⟨_,rfl,fun K hK=>?_⟩;go_wp2_with fail;refine r_ (yY f g sh (n:Nat) p.t HT _) fun w5 x5=>?_;have y5:Ext wc w5:=aRo (aSk (aRu _)) x5;go_wp2;refine k_ hK (st_ fun K hK=>?_);go_wp2_with fail;refine (yZ s.c (aX f g p.t) n p hn _).mono ?_;rintro e w6 ⟨r',rfl,hM,x6⟩;rw [d4] at hM;have y6:=y5.trans x6;obtain ⟨ta,tc,rfl,g2⟩:=aE.form hM;go_wp2;refine k_ hK (st_ fun K hK=>?_);go_wp2;refine k_ hK (aC ?_);clear hK K;go_wp2_with fail;obtain ⟨y2,y0,y4⟩:=h3_ (hM.low (lo':=W0.heap.size) (by have:=y5.size;omega)) (HO.ext y6) (HX.trans y6);clear hM y5 y6 x5 x6 a8 HS HO HX d7 m0 m1 m2 m3 m4 m5 m6 s2 s3 s4 lA g1 l1 l2 a6
 have hs:(-100000<=p.x/\p.x<=100000)/\(-100000<=p.y/\p.y<=100000):=by
  have hq:=HP.out;unfold Smp.okB at hq;simp only [aRy,aG] at hq;obtain ⟨⟨⟨⟨⟨q1,q2⟩,q3⟩,-⟩,-⟩,-⟩:=hq;have h1:=(Cam.okB_iff.1 q1).w;have h2:=(Cam.okB_iff.1 q1).h;omega
 have y8:=hid hs;clear hs
 go_loopw [9,36] (fun v i wr=>∃j:Nat,j<=M.length/\i = .int .i64 (j:Nat)/\Ext W0 wr/\aE Mc.cs W0.heap.size 155 12 wr (.slice ta M.length tc) M/\aE aP.cs W0.heap.size 95 5 wr v (aCw p (k:Nat) cols als M j)) (fun _ i _=>M.length - (intOf i).toNat)
 case atStart=>exact ⟨0,by omega,rfl,y4,y2,y0⟩
 case round=>
  obtain ⟨j,hj,rfl,hx,hm,ho⟩:=hrel;obtain ⟨x0,y1,x4⟩:=h3_ hx hm ho;clear y4 y2 y0
  rcases aSo j M.length with hlt|hge
  ·obtain ⟨m,x2⟩:∃m,M[j]?=some m:=⟨_,aRs hlt⟩
   have h6:=d5.out m (aR7 x2);obtain ⟨gm,cap,he,-,e4,x9,e3,-,h3⟩:=aE.at hm (fun _=>rfl) x2;simp only [aSb,true_and] at he;obtain ⟨rfl,rfl⟩:=he;obtain ⟨c0,c1,c2,c3,c4,c5,c6,c7,c8,c9,y9,a0⟩:=m12_ (h3 0 (by decide)) (h3 1 (by decide)) (h3 2 (by decide)) (h3 3 (by decide)) (h3 4 (by decide)) (h3 5 (by decide)) (h3 6 (by decide)) (h3 7 (by decide)) (h3 8 (by decide)) (h3 9 (by decide)) (h3 10 (by decide)) (h3 11 (by decide));simp only [Mc.cs,aJc,aS0,aRg,aRh] at c0 c1 c2 c3 c4 c5 c6 c7 c8 c9 y9 a0;have e1:=R2.ext hx;obtain ⟨s0,s1⟩:=e1.q2;have l1:=e1.lt;have y3:=hid x2;clear hx hm ho h3 x2 e1;go_wp2_with fail
   by_cases h8:qS m.a m.b m.d p.at=true
   ·refine (aHi m.a.x m.a.y m.a.z m.b.x m.b.y m.b.z m.d.x m.d.y m.d.z h6.a h6.b h6.d h6.z p.x p.y y8 h8 (r:=eK m.a m.b m.d p.at) rfl _).mono ?_
    rintro e w7 ⟨rfl,x7⟩;have y7:Ext wr w7:=aRo (show Ext wr (wr.alloc (.cells #[m.a.x,m.a.y,m.a.z,m.b.x,m.b.y,m.b.z,m.d.x,m.d.y,m.d.z,m.u,m.v,m.n] 155)) from X_) x7;obtain ⟨hX,q4,z0⟩:=h3_ (x0.trans y7) (y1.ext y7) (x4.ext y7);have q5:=(aRr wr 155 [m.a.x,m.a.y,m.a.z,m.b.x,m.b.y,m.b.z,m.d.x,m.d.y,m.d.z,m.u,m.v,m.n]).ext x7;have k9:=q5.cell 9 rfl;have i6:=q5.cell 10 rfl;have i7:=q5.cell 11 rfl;have kl:=q5.lt;have e2:=R1.ext (x0.trans y7);obtain ⟨t0,t1⟩:=e2.q2;have tl:=e2.lt;obtain ⟨u,vv,hu,z9,z6,lu,lv⟩:=h6.q
    have g0:vv*n+u<n*n:=by
     have h:=Nat.mul_le_mul_right n (show vv+1<=n by omega);rw [Nat.add_mul,Nat.one_mul] at h;omega
    have z5:n*n<=64:=aSi hn.2 hn.2
    obtain ⟨q,hq⟩:=e_ (vv*n+u:Nat)
    have x8:m.v*m.n+m.u=(q:Nat):=by rw [hu,z9,z6,<-hq,aTn,aUz]
    obtain ⟨pr,x3⟩:=e_ (m.v*m.n)
    have z8:pr=((vv*n:Nat):Int):=by rw [<-x3,z9,z6,aUz]
    have i8:wrap64 (m.v*m.n)=pr:=by rw [x3];exact aD (by omega) (by omega)
    have i9:wrap64 (pr+m.u)=(q:Nat):=by rw [<-x3,x8];exact aD (by omega) (by omega)
    have a9:q<cols.length:=by rw [d1];omega
    have b0:q<als.length:=by rw [b9];omega
    obtain ⟨b4,o4,rfl,-,h4,ct⟩:=HC.at a9;obtain ⟨b5,o5,rfl,-,h5,dt⟩:=HA.at b0;have xt:=XW.trans hX.out;have d8:=(xt.cells.1 b4 _ (by omega)).trans ct;have d9:=(xt.cells.1 b5 _ (by omega)).trans dt;have g7:=(xt.cells.1 bc _ (by omega)).trans b7;have g3:=(xt.cells.1 ba _ (by omega)).trans b6
    obtain ⟨cv,z2⟩:=e_ (cols[q])
    obtain ⟨av,z1⟩:=e_ (als[q])
    rw [z2] at d8;rw [z1] at d9
    have e9:=hid (show rH p (k:Nat) cols als m=[⟨eK m.a m.b m.d p.at,(k:Nat),(q:Nat),cv,av⟩] by
     unfold rH;rw [if_pos h8,x8,aSc,aSe,aSe,aRs a9,aRs b0,z2,z1]
     rfl)
    have z3:=Z3.out
    have g4:b4<W0.heap.size:=by omega
    have g5:b5<W0.heap.size:=by omega
    have g9:bc<W0.heap.size:=by omega
    have g8:ba<W0.heap.size:=by omega
    have g6:w.heap.size+1<W0.heap.size:=by omega
    clear z3 h8 q5 e2 y7 x7 hu z9 z6 lu lv g0 z5 hq x8 x3 z8 ct dt z2 z1 xt h4 h5 h6 c0 c1 c2 c3 c4 c5 c6 c7 c8 c9 y9 a0 s0 s1 l1 e4 x9 e3;go_wp2;refine aH [([0,1,2,3,4,5,6,7,8,9,10,11,12,13,14,15,16,17,18,19,20],21),([],22),([],23)] 23 (fun w'=>∃d,w'=fT (CHt W0.heap.size) _ d) (by kernel_rfl) (by kernel_rfl) (SC.drew _ _) ?_;refine sc_ fun K hK=>?_;go_wp2_with fail;have b2:=hX.out.size;refine hK _ _ (.inr (SC.blocks fun a ha=>aRv (w:=w7) X_ (aS5 ha b2))) ?_;clear hK K;obtain ⟨HB,a7,e6,e7⟩:=h4_ (aRr w7.drew 95 [(eK m.a m.b m.d p.at),(k:Nat),(q:Nat),cv,av]) (z0.out.ext (show Ext w7 (w7.drew.alloc (.cells #[(eK m.a m.b m.d p.at),(k:Nat),(q:Nat),cv,av] 95)) from X_)) (q4.out.ext (show Ext w7 (w7.drew.alloc (.cells #[(eK m.a m.b m.d p.at),(k:Nat),(q:Nat),cv,av] 95)) from X_)) (hX.out.trans (show Ext w7 (w7.drew.alloc (.cells #[(eK m.a m.b m.d p.at),(k:Nat),(q:Nat),cv,av] 95)) from X_));have i3:=uV p (k:Nat) cols als M j;refine sc_ fun K hK=>?_
    refine iQ _ rfl _ _ rfl W0.heap.size _ _ rfl a7.out ⟨eK m.a m.b m.d p.at,(k:Nat),(q:Nat),cv,av⟩ w7.heap.size rfl (fun q hq=>by
      rcases (show q=0\/q=1\/q=2\/q=3\/q=4 by omega) with rfl|rfl|rfl|rfl|rfl
      ·exact HB.cell 0 rfl
      ·exact HB.cell 1 rfl
      ·exact HB.cell 2 rfl
      ·exact HB.cell 3 rfl
      ·exact HB.cell 4 rfl) (by have:=d3.out;omega) (by simp;omega) ?_
    intro v2 w9 q9 hg;have h9:=aE.rowE a7.out;obtain ⟨b8,d6,d2,e5⟩:=h4_ q9 (aSt e7.out hg (fun k e=>(h9 k e).1)) (e6.out.grownE hg (by decide) (fun k e=>(h9 k e).2)) (fun a:Addr=>fun ha:CHt W0.heap.size a=>show w9.heap[a.block]?=w7.drew.heap[a.block]? from (hg.block _ (by have:a.block<W0.heap.size:=ha;simp;omega) (fun e=>by have h1:=(h9 _ e.symm).1;have h2:a.block<W0.heap.size:=ha;omega)).trans (aRv (w:=w7) X_ (aS5 ha b2)));clear q9 hg h9;go_wp2;refine hK _ _ (.inr (SC.blocks fun a ha=>e5.out a ha)) ?_;clear hK K;refine sc_ fun K hK=>?_;go_wp2;refine l_ hK (aQ ?_);clear hK K;go_wp2;go_roundw
    case rel=>exact ⟨j+1,by omega,by go_num,d6,d2,by rw [mM y3,e9.out];exact b8⟩
    case measure=>simp [intOf];omega
   ·refine (aKc m.a.x m.a.y m.a.z m.b.x m.b.y m.b.z m.d.x m.d.y m.d.z h6.a h6.b h6.d h6.z p.x p.y y8 (Bool.eq_false_iff.2 h8) _).mono ?_
    rintro e w7 ⟨rfl,x7⟩;have y7:Ext wr w7:=aRo (show Ext wr (wr.alloc (.cells #[m.a.x,m.a.y,m.a.z,m.b.x,m.b.y,m.b.z,m.d.x,m.d.y,m.d.z,m.u,m.v,m.n] 155)) from X_) x7;obtain ⟨hX,q4,z0⟩:=h3_ (x0.trans y7) (y1.ext y7) (x4.ext y7);go_wp2;go_roundw
    case rel=>exact ⟨j+1,by omega,by go_num,hX.out,q4.out,by rw [mM y3];unfold rH;rw [if_neg h8,List.append_nil];exact z0.out⟩
    case measure=>simp [intOf];omega
  ·obtain rfl:j=M.length:=by omega
   go_wp2;go_ret;refine ⟨_,rfl,?_,XW.trans x0⟩;rw [<-aEv];exact aE.low x4 (by have:=Z3.out;omega)
theorem aAo (s:Scn) (lo hi h0:Nat) (v cv av:Value) (k:Nat) (p:Smp) (w:World) (hv:s.R lo hi w v) (hh:hi<=w.heap.size) (ho:s.Ok) (hk:k<s.m) (hp:p.okB s.c=true) (hd:vH s h0 w cv av) :
  Calls aRn 55 #[v,.agg #[cv,av],(k:Nat),.agg #[p.x,p.y,p.t,p.lx,p.ly]] w fun e w'=>∃r,e = .returned r/\aE aP.cs w.heap.size 95 5 w' r (s.hits k p)/\Ext w w':=by
 obtain ⟨q,n,-,-,h3,h4,h5,-,-⟩:=ho.at hk;have h1:=ho.shade hk;rw [h3,aSc] at h1
 have eh:uE s.c (aX (s.st k) (s.en k) p.t) n p (k:Nat) (s.shade k).1 (s.shade k).2=s.hits k p:=by unfold Scn.hits;rw [h3,aSc]
 rw [<-eh];exact aDf s lo hi h0 v cv av k p n _ _ w hv hh hk ho.m h3 ⟨h4,h5⟩ hp hd h1.1 h1.2 rfl rfl
theorem zC (lo:Nat) (v:Value) (fs:List aP) (w:World) (hv:aE aP.cs lo 95 5 w v fs) :
  R_ 35 #[v] w (.int .i64 (jD fs)):=by
 have HV:=hid hv;obtain ⟨a,cap,rfl,h5⟩:=hv.form;clear hv;go_enter func35,ntmps35;go_wp2
 go_loopw [3,4,10] (fun x y i wr=>∃(k:Nat) (s t:Int),k<=fs.length/\i = .int .i64 (k:Nat)/\x = .int .i64 s/\y = .int .i64 t/\nK (fs.take k)=(s,t)/\Ext w wr) (fun _ _ i _=>fs.length - (intOf i).toNat)
 case atStart=>exact ⟨0,0,65536,by omega,rfl,rfl,rfl,by rw [List.take_zero];rfl,aRu _⟩
 case round=>
  obtain ⟨k,s,t,hk,rfl,rfl,rfl,hl,hx⟩:=hrel;have HX:=hid hx;have hb:=wF (fs.take k);rw [hl] at hb;simp only at hb;have HL:=hid hl
  rcases aSo k fs.length with hlt|hge
  ·obtain ⟨f,hf⟩:∃f,fs[k]?=some f:=⟨_,aRs hlt⟩
   obtain ⟨g,h3,he,-,h7,h4,h6,-,h0⟩:=aE.at (aE.ext HV.out hx) (fun _=>rfl) hf;simp only [aSb,true_and] at he;obtain ⟨rfl,rfl⟩:=he;have c0:=h0 0 (by decide);have c1:=h0 1 (by decide);have c2:=h0 2 (by decide);have c3:=h0 3 (by decide);have c4:=h0 4 (by decide);simp only [aP.cs,aS0,aRg,aRh] at c0 c1 c2 c3 c4;have HF:=hid hf
   obtain ⟨ca,h1⟩:=e_ (aN f.al 0 256)
   obtain ⟨cc,h2⟩:=e_ (aN f.col 0 256)
   have ba:=lZ f.al;have bc:=lZ f.col;rw [h1] at ba;rw [h2] at bc
   obtain ⟨p,hp⟩:=e_ (t*ca)
   have bp:0<=p/\p<=t*256:=hp▸⟨aSu hb.2.1 ba.1,aTy ba.2 hb.2.1⟩
   obtain ⟨q,hq⟩:=e_ (p / 256)
   have bq:0<=q/\q<=t:=by omega
   obtain ⟨u,hu⟩:=e_ (q*cc)
   have bu:0<=u/\u<=q*256:=hu▸⟨aSu bq.1 bc.1,aTy bc.2 bq.1⟩;obtain ⟨HN,HA,HC⟩:=h3_ (aBe (p:=p) (q:=q) (u:=u) HF.out HL.out (by rw [h1];exact hp) hq (by rw [h2];exact hu)) h1 h2
   have i1 : -9223372036854775808<=p/\p<=9223372036854775807:=by omega
   have i2 : -9223372036854775808<=u/\u<=9223372036854775807:=by omega
   clear hl hx h0 hf h1 h2;go_wp2_with (go_at_call 77;with_reducible first|(refine z_ (cV HA.out _) ?_)|(refine z_ (cV HC.out _) ?_));go_roundw
   case rel=>exact ⟨k+1,s+u,t - q,by omega,by go_num,by go_num,by go_num,HN.out,aRo HX.out X_⟩
   case measure=>simp [intOf];omega
  ·obtain rfl:k=fs.length:=by omega
   have hr:s / 65536=jD fs:=by
    unfold jD;rw [aSh] at hl;rw [hl]
   have HR:=hid hr;clear hl hx;go_wp2;go_ret;exact ⟨cK HR.out,HX.out⟩
theorem aAp (a b:aP) (w:World) :
  R_ 173 #[.agg #[a.d,a.s,a.c,a.col,a.al],.agg #[b.d,b.s,b.c,b.col,b.al]] w (.bool (a.lt b)):=by
 obtain ⟨d1,s1,c1,k1,l1⟩:=a;obtain ⟨d2,s2,c2,k2,l2⟩:=b;unfold aP.lt;simp only
 by_cases h0:d1=d2
 ·subst h0
  by_cases h1:s1=s2
  ·subst h1
   go_enter func173,ntmps173;go_wp2;go_ret;exact ⟨by simp,X_⟩
  ·go_enter func173,ntmps173
   go_wp2;go_ret;exact ⟨by simp [h1],X_⟩
 ·go_enter func173,ntmps173
  go_wp2;go_ret;exact ⟨by simp [h0],X_⟩
theorem qN {d1 s1 c1 k1 l1 d2 s2 c2 k2 l2:Int} {r:Bool} (h:(aP.mk d1 s1 c1 k1 l1).lt ⟨d2,s2,c2,k2,l2⟩=r) (w:World) :
  R_ 173 #[.agg #[d1,s1,c1,k1,l1],.agg #[d2,s2,c2,k2,l2]] w (.bool r):=h▸aAp _ _ w
theorem aP.one (y:aP):∀u∈y.cs,u.oneCell'=true:=by
 intro u hu;simp only [aP.cs,aR4,aRz,or_false] at hu
 rcases hu with rfl|rfl|rfl|rfl|rfl <;> rfl
theorem Rd.cut {α : Type} {cs : α->List Value} {sz:Nat} {a:Option Addr} {c:Nat} {ys:List α} (hc:∀x,(cs x).length=sz) (h:Rd cs lo hi w (.slice a ys.length c) ys) {j:Nat} (hj:j<=ys.length) :
  Rd cs lo hi w (.slice a j c) (ys.take j):=by
 obtain ⟨ad,c',e,h2,h3,h4,h5⟩:=h;simp only [aSb,true_and] at e;obtain ⟨rfl,rfl⟩:=e;refine ⟨a,c,by rw [aR9,aT0 hj],by rw [aR9];omega,h3,h4,?_⟩
 rcases h5 with rfl|⟨b,off,rfl,l1,l2,hcell⟩
 ·exact .inl (by simp)
 ·refine .inr ⟨b,off,rfl,l1,l2,fun q u hq=>hcell q u ?_⟩
  rw [<-aVq j ys,aSy];rw [List.getElem?_append_left (aRk.1 hq).1];exact hq
theorem Rd.drop {α : Type} {cs : α->List Value} {sz:Nat} {b o c:Nat} {ys:List α} (hc:∀x,(cs x).length=sz) (h:Rd cs lo hi w (.slice (some ⟨b,o,none⟩) ys.length c) ys) {j:Nat} (hj:j<=ys.length) :
  Rd cs lo hi w (.slice (some ⟨b,o+j*sz,none⟩) (ys.length - j) (c - j)) (ys.drop j):=by
 obtain ⟨ad,c',e,h2,h3,h4,h5⟩:=h;simp only [aSb,true_and] at e;obtain ⟨rfl,rfl⟩:=e;refine ⟨some ⟨b,o+j*sz,none⟩,c - j,by rw [aUg],by rw [aUg];omega,by omega,(fun e=>nomatch e),?_⟩
 rcases h5 with rfl|⟨b',off,e,l1,l2,hcell⟩
 ·exact .inl (by simp)
 ·simp only [aRl,Addr.mk.injEq,and_true] at e
  obtain ⟨rfl,rfl⟩:=e;refine .inr ⟨b,o+j*sz,rfl,l1,l2,fun q u hq=>?_⟩
  have hl:(ys.take j).length=j:=by rw [aR9,aT0 hj]
  rw [aTa];refine hcell (j*sz+q) u ?_;rw [<-aVq j ys,aSy,List.getElem?_append_right (by rw [gR hc,hl];omega),gR hc,hl,Nat.add_sub_cancel_left];exact hq
theorem Rd.none0 {α : Type} (cs : α->List Value) (lo hi:Nat) (w:World) (a:Option Addr) (c:Nat) (hc:c<=9223372036854775807) (h:a=none->c=0):Rd cs lo hi w (.slice a 0 c) ([]:List α):=⟨a,c,rfl,by simp,hc,h,.inl rfl⟩
theorem aFf (lo:Nat) (v:Value) (l:List aP) (x:aP) (w:World) (ho:aE aP.cs lo 95 5 w v l) (hl:l.length<=100000) :
  Calls aRn 111 #[v,.agg #[x.d,x.s,x.c,x.col,x.al]] w fun e w'=>∃r,e = .returned r/\aE aP.cs w.heap.size 95 5 w' r (tG x l)/\Ext w w':=by
 have x0:Ext w (w.alloc (.cells #[x.d,x.s,x.c,x.col,x.al] 95)):=X_;have hB:=aRr w 95 [x.d,x.s,x.c,x.col,x.al]
 obtain ⟨W0,x2⟩:=e_ (w.alloc (.cells #[x.d,x.s,x.c,x.col,x.al] 95))
 rw [x2] at x0
 have hB:Blk W0 w.heap.size 95 [x.d,x.s,x.c,x.col,x.al]:=by rw [<-x2];exact hB
 have hv:=ho.rd (fun _=>rfl)
 obtain ⟨hi,z1⟩:=e_ w.heap.size
 rw [z1] at hv;obtain ⟨HV,HH,q1,HB,z6,HL⟩:=h6_ (hv.ext (by omega) x0) (show hi<=W0.heap.size by have:=x0.size;omega) x0 hB x2 hl
 obtain ⟨p,hp⟩:=e_ (fG x l)
 have q7:p<=l.length:=hp▸aAw x l;have q8:∀k,k<p->∃hk:k<l.length,x.lt l[k]=false:=fun k hk=>aAx (hp.symm▸hk)
 have q6:∀f,l[p]?=some f->x.lt f=true:=fun f hf=>by
  obtain ⟨h1,h2⟩:=aRk.1 hf;subst h2;subst hp;exact aAy h1
 have q4:tG x l=l.take p++x::l.drop p:=by rw [<-hp];exact aHs x l
 obtain ⟨z0,x9,x3⟩:=h3_ q8 q6 q4
 have h7:(v = .slice none 0 0/\l.length=0)\/∃g cap,v = .slice (some ⟨g,0,none⟩) l.length cap:=by
  rcases ho.2 with ⟨h1,h4⟩|⟨g,cap,cur,h1,_⟩
  ·exact .inl ⟨h1,h4⟩
  ·exact .inr ⟨g,cap,h1⟩
 obtain ⟨a,cap,rfl,z7,y0,-⟩:=hv.form;have z2:=hid h7;clear q8 q6 q4 hp x0 hB x2 hv hl ho h7 z1;go_enter func111,ntmps111
 go_upto_block 0 with fail
 rw [z6]
 go_cut [5] from 7 to 35 (fun i wx=>i = .int .i64 (p:Nat)/\Ext W0 wx)
 case first=>
  go_wp2
  go_loopw [5] (fun i wr=>∃k:Nat,k<=p/\i = .int .i64 (k:Nat)/\Ext W0 wr) (fun i _=>l.length - (intOf i).toNat)
  case atStart=>exact ⟨0,by omega,rfl,aRu _⟩
  case round=>
   obtain ⟨k,hk,rfl,hx⟩:=hrel;obtain ⟨HX,h6⟩:=h2_ hx (HB.ext hx);have b:=h6.lt;obtain ⟨b0,b1,b2,b3,b4⟩:=h6.q5;have HR:=hid (HV.ext HH hx);have zw:=hx.size;clear hx
   rcases aSo k l.length with hlt|hge
   ·obtain ⟨f,hf⟩:∃f,l[k]?=some f:=⟨_,aRs hlt⟩
    obtain ⟨g,y2,rfl,-,gl,h5⟩:=Rd.at (sz:=5) (fun _=>rfl) HR hf;have d0:=h5 0 (by decide);have d1:=h5 1 (by decide);have d2:=h5 2 (by decide);have d3:=h5 3 (by decide);have d4:=h5 4 (by decide);simp only [aP.cs,aS0,aRg,aRh] at d0 d1 d2 d3 d4
    obtain ⟨r,hr⟩:=e_ (x.lt f)
    obtain ⟨q9,HF⟩:=h2_ hr hf;have z9:decide ((k:Int)<(l.length:Int))=true:=decide_eq_true (by omega)
    have gw:g<wr.heap.size:=by have:=HH.out;omega
    clear h5 hr hf
    rcases aSo k p with hkp|hkp
    ·obtain rfl:r=false:=by
      obtain ⟨z8,hq⟩:=z0 k hkp
      have e1:l[k]=f:=by have:=HF.out;rw [aRs z8] at this;exact aTh this
      rw [e1] at hq;exact q9.symm.trans hq
     go_upto_region 2 with fail;refine aA [([0,1,2,3,4,5,6,7,8,9],10),([11],12)] 99 wr.heap.size (by kernel_rfl) (by kernel_rfl) ?_;refine st_ fun K hK=>?_;go_wp2_with fail;refine r_ (qN q9 _) fun w1 x1=>?_;have y1:Ext wr w1:=aRo (aSk (aRu _)) x1;go_wp2;refine k_ hK (st_ fun K hK=>?_);go_wp2;refine k_ hK (aC ?_);clear hK K;have X1:=hid (HX.trans y1);go_wp2;go_roundw
     case rel=>exact ⟨k+1,by omega,by go_num,X1⟩
     case measure=>simp [intOf];omega
    ·obtain rfl:k=p:=by omega
     obtain rfl:r=true:=by
      have:=x9.out f HF;exact q9.symm.trans this
     go_upto_region 2 with fail;refine aA [([0,1,2,3,4,5,6,7,8,9],10),([11],12)] 99 wr.heap.size (by kernel_rfl) (by kernel_rfl) ?_;refine st_ fun K hK=>?_;go_wp2_with fail;refine r_ (qN q9 _) fun w1 x1=>?_;have y1:Ext wr w1:=aRo (aSk (aRu _)) x1;go_wp2;refine k_ hK (st_ fun K hK=>?_);go_wp2;refine k_ hK (aC ?_);clear hK K;have X1:=hid (HX.trans y1);go_wp2
     go_meet
     exact ⟨rfl,X1⟩
   ·obtain rfl:k=p:=by omega
    obtain rfl:k=l.length:=by omega
    have z9:decide ((l.length:Int)<(l.length:Int))=false:=decide_eq_false (by omega);have y1:Ext wr wr.drew:=aSk (aRu _);go_upto_region 2 with fail;refine aA [([0,1,2,3,4,5,6,7,8,9],10),([11],12)] 99 wr.heap.size (by kernel_rfl) (by kernel_rfl) ?_;refine st_ fun K hK=>?_;go_wp2;refine k_ hK (st_ fun K hK=>?_);go_wp2;refine k_ hK (aC ?_);clear hK K;go_wp2
    go_meet
    exact ⟨rfl,HX.trans y1⟩
 case rest=>
  obtain ⟨rfl,hx⟩:=hcut;obtain ⟨HX,h6⟩:=h2_ hx (HB.ext hx);have b:=h6.lt;obtain ⟨b0,b1,b2,b3,b4⟩:=h6.q5;have HR:=hid (HV.ext HH hx);have HC:=hid (HR.cut (sz:=5) (fun _=>rfl) q7);have zw:=hx.size;clear hx;have xa:Ext wc (wc.alloc (.cells #[] 95)):=X_;obtain ⟨HF,x8⟩:=h2_ (aE.freshC (cs:=aP.cs) (sz:=5) (show W0.heap.size<=wc.heap.size from zw) (aRr wc 95 [])) (show (l.take p).length<=100000 by rw [aR9];have:=HL.out;omega);go_upto_region 5 with (at_builtin;refine cY aP.cs 95 5 40 _ _ rfl _ _ 48 rfl underlying48 iP rfl (by decide) (by decide) (fun _=>rfl) aP.one W0.heap.size (.slice (some ⟨wc.heap.size,0,none⟩) 0 0) [] rfl HF lo hi (.slice a p cap) (l.take p) rfl (HC.ext (by have:=HH.out;omega) xa) (by have:=x8.out;simp only [List.length_nil];omega) (by simp;omega) ?_;intro v4 w4 hown4 hg4);rw [List.nil_append] at hown4;obtain ⟨va,vc,rfl,-⟩:=aE.form hown4;have X4:Ext W0 w4:=aSt (HX.trans xa) hg4 (fun k e=>by simp only [Value.ownBlock,aRl] at e;omega);obtain ⟨x6,x5⟩:=h2_ X4 hown4;have z4:=X4.size;clear hown4 hg4 xa X4 h6 b b0 b1 b2 b3 b4 HC HF HR HX;have h6:=hid (HB.ext x6);have b:=h6.lt;obtain ⟨b0,b1,b2,b3,b4⟩:=h6.q5;have h9:=hid (aRr w4 95 [x.d,x.s,x.c,x.col,x.al]);have xb:Ext w4 (w4.alloc (.cells #[x.d,x.s,x.c,x.col,x.al] 95)):=X_
  go_upto_region 6 with (at_builtin;refine iQ _ rfl _ _ rfl W0.heap.size _ _ rfl (x5.ext xb) x w4.heap.size rfl (fun q hq=>by
       rcases (show q=0\/q=1\/q=2\/q=3\/q=4 by omega) with rfl|rfl|rfl|rfl|rfl
       ·exact h9.cell 0 rfl
       ·exact h9.cell 1 rfl
       ·exact h9.cell 2 rfl
       ·exact h9.cell 3 rfl
       ·exact h9.cell 4 rfl) (by have:=x8.out;omega) (by simp;omega) ?_;intro v5 w5 hown5 hg5)
  have h8:=aE.rowE (x5.ext xb);have X5:Ext W0 w5:=aSt (x6.trans xb) hg5 (fun k e=>(h8 k e).1);obtain ⟨vb,vd,rfl,-⟩:=aE.form hown5;obtain ⟨x7,q0⟩:=h2_ X5 hown5;have z5:=X5.size;obtain ⟨z3,x4⟩:=h2_ (HV.ext HH X5) (show ((l.take p)++[x]).length+(l.drop p).length<=10000000 by rw [aSa,aR9,aUg];have:=HL.out;simp;omega);clear hown5 hg5 xb X5 h6 b b0 b1 b2 b3 b4 h9 h8 x5 x6
  rcases z2 with ⟨e,h0⟩|⟨g,cap',e⟩
  ·simp only [aSb] at e
   obtain ⟨rfl,-,rfl⟩:=e
   obtain rfl:p=0:=by omega
   obtain rfl:l=[]:=List.length_eq_zero_iff.1 h0;have HD:=hid (show Rd aP.cs lo hi w5 (.slice none 0 0) (([]:List aP).drop 0) from Rd.nil _ _ _ _);clear z0 x9;go_wp2_with (at_builtin;refine cY aP.cs 95 5 40 _ _ rfl _ _ 48 rfl underlying48 iP rfl (by decide) (by decide) (fun _=>rfl) aP.one W0.heap.size (.slice vb (([]:List aP).take 0++[x]).length vd) (([]:List aP).take 0++[x]) rfl q0 lo hi (.slice none 0 0) (([]:List aP).drop 0) rfl HD x4 (by omega) ?_;intro v6 w6 hown6 hg6);have h3:=aE.rowE q0;have X6:Ext W0 w6:=aSt x7 hg6 (fun k e=>(h3 k e).1);rw [aSl,aX5,<-x3] at hown6;obtain ⟨q2,q3⟩:=h2_ hown6 (q1.trans X6);clear hown6 hg6 h3 X6;go_wp2;go_ret;exact ⟨v6,rfl,q2.low q1.size,q3⟩
  ·simp only [aSb,true_and] at e
   obtain ⟨rfl,rfl⟩:=e
   rcases aSo p cap with hpc|hpc
   ·have HD:=z3.drop (sz:=5) (fun _=>rfl) q7
    rw [aSf] at HD;replace HD:=hid HD;go_wp2_with (at_builtin;refine cY aP.cs 95 5 40 _ _ rfl _ _ 48 rfl underlying48 iP rfl (by decide) (by decide) (fun _=>rfl) aP.one W0.heap.size (.slice vb (l.take p++[x]).length vd) (l.take p++[x]) rfl q0 lo hi (.slice (some ⟨g,p*5,none⟩) (l.length - p) (cap - p)) (l.drop p) rfl HD x4 (by omega) ?_;intro v6 w6 hown6 hg6);have h3:=aE.rowE q0;have X6:Ext W0 w6:=aSt x7 hg6 (fun k e=>(h3 k e).1);rw [aSl,aX5,<-x3] at hown6;obtain ⟨q2,q3⟩:=h2_ hown6 (q1.trans X6);clear hown6 hg6 h3 X6;go_wp2;go_ret;exact ⟨v6,rfl,q2.low q1.size,q3⟩
   ·obtain rfl:p=cap:=by omega
    obtain rfl:p=l.length:=by omega
    have HD:=hid (show Rd aP.cs lo hi w5 (.slice (some ⟨g,0,none⟩) 0 0) (l.drop l.length) from by rw [List.drop_length];exact Rd.none0 _ _ _ _ _ _ (by omega) (fun e=>nomatch e));go_wp2_with (at_builtin;refine cY aP.cs 95 5 40 _ _ rfl _ _ 48 rfl underlying48 iP rfl (by decide) (by decide) (fun _=>rfl) aP.one W0.heap.size (.slice vb (l.take l.length++[x]).length vd) (l.take l.length++[x]) rfl q0 lo hi (.slice (some ⟨g,0,none⟩) 0 0) (l.drop l.length) rfl HD x4 (by omega) ?_;intro v6 w6 hown6 hg6);have h3:=aE.rowE q0;have X6:Ext W0 w6:=aSt x7 hg6 (fun k e=>(h3 k e).1);rw [aSl,aX5,<-x3] at hown6;obtain ⟨q2,q3⟩:=h2_ hown6 (q1.trans X6);clear hown6 hg6 h3 X6;go_wp2;go_ret;exact ⟨v6,rfl,q2.low q1.size,q3⟩
theorem vH.forms {s:Scn} (r:vH s h w cv av):∃xa xc ya yc,cv = .slice xa s.m xc/\av = .slice ya s.m yc:=by
 obtain ⟨hh,⟨us,h1,h2,h3⟩,us2,k1,k2,k3⟩:=r;obtain ⟨ad,cc,rfl,-,-,-⟩:=h2.form;obtain ⟨h0,ca,rfl,-,-,-⟩:=k2.form;exact ⟨ad,cc,h0,ca,by rw [h1],by rw [k1]⟩
theorem aFg (s:Scn) (lo hi h0:Nat) (v cv av:Value) (p:Smp) (w:World) (hv:s.R lo hi w v) (hh:hi<=w.heap.size) (ho:s.Ok) (hp:p.okB s.c=true) (hd:vH s h0 w cv av) :
  Calls aRn 64 #[v,.agg #[cv,av],.agg #[p.x,p.y,p.t,p.lx,p.ly]] w fun e w'=>∃r,e = .returned r/\aE aP.cs w.heap.size 95 5 w' r (s.seen p)/\Ext w w':=by
 obtain ⟨HV,HD⟩:=h2_ hv hd;have a5:=ho.m;obtain ⟨a1,c1,a2,c2,a3,c3,rfl⟩:=hv.formV;obtain ⟨xa,xc,ya,yc,rfl,rfl⟩:=hd.forms;obtain ⟨HO,HP⟩:=h2_ ho hp;clear hv ho hp hd;have x0:Ext w (((w.alloc (.cells (sA_ s a1 c1 a2 c2 a3 c3) 40)).alloc (.cells #[.slice xa s.m xc,.slice ya s.m yc] 78)).alloc (.cells #[p.x,p.y,p.t,p.lx,p.ly] 42)):=X_;have bS:=(aRr w 40 (sL_ s a1 c1 a2 c2 a3 c3)).ext (show Ext _ (((w.alloc (.cells (sA_ s a1 c1 a2 c2 a3 c3) 40)).alloc (.cells #[.slice xa s.m xc,.slice ya s.m yc] 78)).alloc (.cells #[p.x,p.y,p.t,p.lx,p.ly] 42)) from X_);have bD:=(aRr (w.alloc (.cells (sA_ s a1 c1 a2 c2 a3 c3) 40)) 78 [.slice xa s.m xc,.slice ya s.m yc]).ext (show Ext _ (((w.alloc (.cells (sA_ s a1 c1 a2 c2 a3 c3) 40)).alloc (.cells #[.slice xa s.m xc,.slice ya s.m yc] 78)).alloc (.cells #[p.x,p.y,p.t,p.lx,p.ly] 42)) from X_);have bP:=(aRr ((w.alloc (.cells (sA_ s a1 c1 a2 c2 a3 c3) 40)).alloc (.cells #[.slice xa s.m xc,.slice ya s.m yc] 78)) 42 [p.x,p.y,p.t,p.lx,p.ly]).ext (show Ext _ (((w.alloc (.cells (sA_ s a1 c1 a2 c2 a3 c3) 40)).alloc (.cells #[.slice xa s.m xc,.slice ya s.m yc] 78)).alloc (.cells #[p.x,p.y,p.t,p.lx,p.ly] 42)) from X_)
 try simp only [aRj] at bS bD bP
 obtain ⟨W0,h9⟩:=e_ (((w.alloc (.cells (sA_ s a1 c1 a2 c2 a3 c3) 40)).alloc (.cells #[.slice xa s.m xc,.slice ya s.m yc] 78)).alloc (.cells #[p.x,p.y,p.t,p.lx,p.ly] 42))
 rw [h9] at x0 bS bD bP;obtain ⟨q3,x7⟩:=h2_ x0 h9;have z0:=bP.lt;obtain ⟨h8,q7,x4⟩:=h3_ bS bD bP;clear x0 h9 bS bD bP;have o1:aE aP.cs W0.heap.size 95 5 (W0.alloc (.cells #[] 95)) (.slice (some ⟨W0.heap.size,0,none⟩) 0 0) []:=aE.fresh0 (aRi _) (aRr W0 95 []);have h5:=hid o1;have x1:Ext W0 (W0.alloc (.cells #[] 95)):=X_;have h6:=hid x1;clear o1 x1;go_enter func64,ntmps64;go_upto_region 1 with fail;rw [x7];have x8:=h8.cell 10 rfl;have ls:=h8.lt;go_wp2_with fail;clear x8 ls
 go_loopw [7,15] (fun u i wr=>∃k:Nat,k<=s.m/\i = .int .i64 (k:Nat)/\aE aP.cs W0.heap.size 95 5 wr u (s.seenTo p k)/\Ext W0 wr) (fun _ i _=>s.m - (intOf i).toNat)
 case atStart=>exact ⟨0,by omega,rfl,h5,h6⟩
 case round=>
  clear h5 h6
  obtain ⟨WA,rfl⟩:=i_ wr
  obtain ⟨k,hk,rfl,h2,hx⟩:=hrel;obtain ⟨HX,HR⟩:=h2_ hx h2;have zr:=hx.size
  rcases aSo k s.m with hlt|hge
  ·have XW:=hid (q3.trans hx)
   have bq:=h8.ext HX;obtain ⟨z9,y0,y1,y2,y4,y5,y6,y7,y8,y9,q0,q1⟩:=bq.q12;have sl:=bq.lt;clear bq;have bq:=q7.ext HX;obtain ⟨x9,z1⟩:=bq.q2;have dl:=bq.lt;clear bq;have bq:=x4.ext HX;obtain ⟨z4,z5,z6,z7,z8⟩:=bq.q5;have pl:=bq.lt;clear bq;have z3:=HO.seenTo_le p (Nat.le_of_lt hlt)
   obtain ⟨F0,hF⟩:=e_ (s.seenTo p k)
   rw [hF] at z3 h2;obtain ⟨HF,x5⟩:=h2_ hF h2;obtain ⟨oa,oc,rfl,-⟩:=aE.form h2;clear hx h2 hF HR;go_wp2_with fail;have CH:=aAo s lo hi h0 _ _ _ k p WA (HV.ext hh XW) (aRq hh XW.size) HO hlt HP (HD.ext XW);refine CH.mono ?_;clear CH;rintro e w2 ⟨r,rfl,hr,x2⟩
   obtain ⟨L,hL⟩:=e_ (s.hits k p)
   rw [hL] at hr;have HL:=hid hL;have q4:L.length<=128:=hL▸HO.out.hits_le p hlt;obtain ⟨ra,rc,rfl,-⟩:=hr.form;obtain ⟨X2,h7⟩:=h2_ x2 hr;have zy:=x2.size;clear x2 hr hL;clear sl z9 y0 y1 y2 y4 y5 y6 y7 y8 y9 q0 q1 dl x9 z1 pl z4 z5 z6 z7 z8;go_wp2
   go_loopw [7,24] (fun u j wr=>∃jn:Nat,jn<=L.length/\j = .int .i64 (jn:Nat)/\aE aP.cs W0.heap.size 95 5 wr u (fQ F0 (L.take jn))/\Ext w2 wr) (fun _ j _=>L.length - (intOf j).toNat)
   case atStart=>exact ⟨0,by omega,rfl,x5.ext X2,aRu _⟩
   case round=>
    obtain ⟨jn,hj,rfl,h3,h4⟩:=hrel;obtain ⟨h5,h6⟩:=h2_ h3 h4;have zq:=h4.size;obtain ⟨ia,ic,rfl,-⟩:=aE.form h3
    rcases aSo jn L.length with hjl|hjl
    ·obtain ⟨f,hf⟩:∃f,L[jn]?=some f:=⟨_,aRs hjl⟩
     obtain ⟨g,a6,he,-,a4,z2,a0,-,h1⟩:=aE.at (h7.ext h4) (fun _=>rfl) hf;simp only [aSb,true_and] at he;obtain ⟨rfl,rfl⟩:=he;have d0:=h1 0 (by decide);have d1:=h1 1 (by decide);have d2:=h1 2 (by decide);have d3:=h1 3 (by decide);have d4:=h1 4 (by decide);simp only [aP.cs,aS0,aRg,aRh] at d0 d1 d2 d3 d4;have x6:=hid (uW (l:=F0) hf)
     have q6:(fQ F0 (L.take jn)).length<=100000:=by
      rw [lI,aR9];omega
     have q8:=hid q6
     obtain ⟨I0,hI⟩:=e_ (fQ F0 (L.take jn))
     rw [hI] at h3;obtain ⟨HI,q9⟩:=h2_ hI h3;clear h1 hf h4 h3 q6 h5;rw [hI];clear hI;go_wp2_with fail;refine (aFf _ _ _ f _ (q9.ext (show Ext _ (wr.alloc (.cells #[f.d,f.s,f.c,f.col,f.al] 95)) from X_)) (HI.out▸q8.out)).mono ?_;rintro e w3 ⟨v3,rfl,o3,x3⟩;have y3:Ext wr w3:=aRo (show Ext wr (wr.alloc (.cells #[f.d,f.s,f.c,f.col,f.al] 95)) from X_) x3;obtain ⟨P1,P2⟩:=h2_ (o3.low (lo':=W0.heap.size) (by rw [aRj];omega)) (h6.trans y3);clear o3 x3 y3;go_wp2;go_roundw
     case rel=>exact ⟨jn+1,by omega,by go_num,by rw [x6,HI];exact P1,P2⟩
     case measure=>simp [intOf];omega
    ·obtain rfl:jn=L.length:=by omega
     have P1:=hid (show aE aP.cs W0.heap.size 95 5 wr (.slice ia (fQ F0 (L.take L.length)).length ic) (s.seenTo p (k+1)) by
      rw [Scn.seenTo_succ,HF,HL];have:=h5.out;rw [aSh] at this ⊢
      exact this)
     have P2:=hid (HX.trans (X2.trans h4));clear h3 h4;go_wp2;go_roundw
     case rel=>exact ⟨k+1,by omega,by go_num,P1,P2⟩
     case measure=>simp [intOf];omega
  ·obtain rfl:k=s.m:=by omega
   obtain ⟨X2,h7⟩:=h2_ (q3.trans hx) (HR.low (show w.heap.size<=W0.heap.size by omega));obtain ⟨oa,oc,rfl,-⟩:=aE.form h2;clear hx h2 HX;go_wp2;go_ret;exact ⟨_,rfl,h7,X2⟩
theorem aKd (lo hi:Nat) (v:Value) (xs:List Int) (w:World) (hv:aS lo hi w v xs) (hb:∀x∈xs,0<=x/\x<=256) (hn:xs.length<=1000) :
  Z_ 51 #[v] w (.int .i64 (qL xs)):=by
 obtain ⟨a,cap,rfl,hx⟩:=hv.open;obtain ⟨HX,HB⟩:=h2_ hx hb;clear hv hx hb;go_enter func51,ntmps51;go_wp2
 go_loopw [3,8] (fun t i wr=>∃k:Nat,k<=xs.length/\i = .int .i64 (k:Nat)/\t = .int .i64 (kD (xs.take k))/\w=wr) (fun _ i _=>xs.length - (intOf i).toNat)
 case atStart=>exact ⟨0,by omega,rfl,rfl,rfl⟩
 case round=>
  obtain ⟨k,hk,rfl,rfl,rfl⟩:=hrel;have h0:=aC4 (xs:=xs.take k) (m:=256) fun x hx=>HB x (List.mem_of_mem_take hx);rw [aR9,aT0 hk] at h0
  obtain ⟨t,ht⟩:=e_ (kD (xs.take k))
  rw [ht] at h0;rw [ht];have HT:=hid ht;clear ht
  rcases aSo k xs.length with hlt|hge
  ·obtain ⟨b,h4,rfl,-,-,hc⟩:=HX.at hlt
   have h2:=HB.out _ (List.getElem_mem hlt)
   obtain ⟨y,hy⟩:=e_ (xs[k])
   rw [hy] at hc h2
   have hs:kD (xs.take (k+1))=t+y:=by
    rw [aSd hlt,uX,HT,hy];simp [kD]
   have HS:=hid hs;have h1:=HX.cap;have h3:=HX.le;clear hy hs;go_wp2;go_roundw
   case rel=>exact ⟨k+1,by omega,by go_num,by rw [HS],by trivial⟩
   case measure=>simp [intOf];omega
  ·obtain rfl:k=xs.length:=by omega
   have hm:bT t (xs.length:Nat)=qL xs:=by
    unfold qL;rw [<-HT,aSh]
   have HM:=hid hm;clear hm;go_wp2_with fail;refine z_ (cI (by unfold I64;omega) HM _) ?_;go_wp2;go_ret;exact ⟨rfl,rfl⟩
theorem zD (lo hi:Nat) (u:Value) (xs:List Int) (n:Int) (w:World) (hu:aS lo hi w u xs) (hn:1<=n/\n<=1000000) (hr:cA xs % n=r) :
  Z_ 121 #[u,n] w (.int .i64 r):=by
 have HU:=hid hu;obtain ⟨a,cap,rfl,-⟩:=hu.open;have hb:=gP xs
 obtain ⟨h,hh⟩:=e_ (cA xs)
 rw [hh] at hb hr;obtain ⟨HH,h0⟩:=h2_ hh hr;clear hu hr hh;go_enter func121,ntmps121;go_wp2_with fail;refine (rN lo hi _ xs _ HU).mono ?_;rw [HH];rintro e w1 ⟨rfl,rfl⟩;go_wp2;go_ret;exact ⟨cK h0,rfl⟩
theorem jB (i j:Int) (k:Nat) (q n:Int) (hl:∀y∈[i,j,((k:Nat):Int),q],I64 y) (hn:1<=n/\n<=1000000) (hr:cA [i,j,((k:Nat):Int),q] % n=r) (I J K:Nat) (w:World)
  (c1:w.cell? ⟨I,0,none⟩=some (.int .i64 i)) (c2:w.cell? ⟨J,0,none⟩=some (.int .i64 j)) (c3:w.cell? ⟨K,0,none⟩=some (.int .i64 (k:Nat))) :
  R_ 120 #[q,n,.pointer (some ⟨I,0,none⟩),.pointer (some ⟨J,0,none⟩),.pointer (some ⟨K,0,none⟩)] w (.int .i64 r):=by
 obtain ⟨HR,HL⟩:=h2_ hr hl;have b0:=aRr w 3 [i,j,(k:Nat),q];have HB:=hid b0;clear hr hl b0;go_enter func120,ntmps120;go_wp2_with fail;refine z_ (zD 0 _ _ [i,j,(k:Nat),q] n _ (aBi HB HL) hn HR) ?_;go_wp2;go_ret;exact ⟨rfl,X_⟩
theorem aMa {side q r:Nat} (hq:k % side=q) (hr:k / side=r) {s p1 p2 p3 p4 p5 e1 e2:Int} (hs:((16 / side:Nat):Int)=s) (h1:cA [i,j,((k:Nat):Int),1] % s=p1) (h2:cA [i,j,((k:Nat):Int),2] % s=p2)
  (h3:cA [i,j,((k:Nat):Int),3] % 16=p3) (h4:cA [i,j,((k:Nat):Int),4] % 33=p4) (h5:cA [i,j,((k:Nat):Int),5] % 33=p5) (he1:(q:Int)*s=e1) (he2:(r:Int)*s=e2) :
  kF i j side k=⟨i*16+e1+p1,j*16+e2+p2,p3,p4 - 16,p5 - 16⟩:=by
 subst he1 he2;unfold kF;rw [hq,hr,hs,h1,h2,h3,h4,h5]
theorem aDg {side:Nat} (hs:side=1\/side=2\/side=4) (hk:k<side*side):k % side<side/\k / side<side/\k<=15/\side*(16 / side)=16/\4<=16 / side/\16 / side<=16/\side<=4/\1<=side:=by
 have h1:k % side<side:=aT4 _ (by omega);have h2:k / side<side:=Nat.div_lt_of_lt_mul hk
 rcases hs with rfl|rfl|rfl <;> simp at hk h1 h2 ⊢ <;> omega
theorem sZ (i j:Int) (hi:0<=i/\i<=11) (hj:0<=j/\j<=11) (side:Nat) (hs:side=1\/side=2\/side=4) (w:World) :
  Calls aRn 70 #[i,j,(side:Nat)] w fun e w'=>∃r,e = .returned r/\aE Smp.cs w.heap.size 42 5 w' r (pX i j side)/\Ext w w':=by
 have z8:∀(fn:Fn) (first cap:Array Value) (w:World),(Instr.makeFunc fn first cap).run aRn w = .ok (.func fn first cap) w:=fun _ _ _ _=>rfl;have z2:=hid hs
 have x8:1<=side/\side<=4:=by omega
 have z9:((side:Nat):Int)≠0:=by omega
 obtain ⟨N,hN⟩:=e_ (side*side)
 have z6:((side:Nat):Int)*((side:Nat):Int)=((N:Nat):Int):=by rw [<-hN];simp
 have z5:N<=16:=by rw [<-hN];exact aSi x8.2 x8.2
 obtain ⟨st,h7⟩:=e_ ((16 / side:Nat):Int)
 have t0:aY4 16 ((side:Nat):Int)=st:=by rw [<-h7,aTd (by omega)];rfl
 have z7:4<=st/\st<=16:=by rw [<-h7];rcases hs with rfl|rfl|rfl <;> decide
 obtain ⟨z4,HN⟩:=h2_ h7 hN;have bI:=(aRr w 3 [i]).ext (show Ext _ (((w.alloc (.cells #[i] 3)).alloc (.cells #[j] 3)).alloc (.cells #[] 42)) from X_);have bJ:=(aRr (w.alloc (.cells #[i] 3)) 3 [j]).ext (show Ext _ (((w.alloc (.cells #[i] 3)).alloc (.cells #[j] 3)).alloc (.cells #[] 42)) from X_);have bL:=aRr ((w.alloc (.cells #[i] 3)).alloc (.cells #[j] 3)) 42 [];rw [aRj] at bJ;rw [aRj,aRj] at bL;obtain ⟨HI,HJ,HL⟩:=h3_ bI bJ bL;clear hs h7 hN bI bJ bL;go_enter func70,ntmps70;go_wp2
 go_loopw [8,17] (fun v x wr=>∃(k:Nat) (xs:List Smp),k<=N/\x = .int .i64 (k:Nat)/\xs=(aR6 k).map (kF i j side)/\aE Smp.cs (w.heap.size+1+1) 42 5 wr v xs/\Blk wr w.heap.size 3 [i]/\Blk wr (w.heap.size+1) 3 [j]/\Ext w wr) (fun _ x _=>N - (intOf x).toNat)
 case atStart=>exact ⟨0,[],by omega,rfl,rfl,aE.freshS (aRi _) HL,HI,HJ,X_⟩
 case round=>
  clear HI HJ HL;obtain ⟨k,xs,hk,rfl,h8,ho,bI,bJ,hx⟩:=hrel;obtain ⟨q8,HO,HI,HJ,HX⟩:=h5_ h8 ho bI bJ hx;obtain ⟨xa,xc,rfl,-⟩:=aE.form ho
  have h0:xs.length=k:=by rw [h8,aSv,aUi]
  have zz:=HJ.lt
  rcases aSo k N with hlt|hge
  ·obtain ⟨m1,m2,m3,m4,m5,m6,m7,m8⟩:=aDg z2 (show k<side*side by rw [HN];exact hlt)
   have t1:Int.tmod (k:Int) ((side:Nat):Int)=((k % side:Nat):Int):=by rw [aTw (by omega)];rfl
   have t2:aY4 (k:Int) ((side:Nat):Int)=((k / side:Nat):Int):=by rw [aTd (by omega)];rfl
   obtain ⟨q,hq⟩:=e_ (k % side)
   obtain ⟨r,hr⟩:=e_ (k / side)
   obtain ⟨e1,x0⟩:=e_ ((q:Int)*st)
   obtain ⟨e2,x6⟩:=e_ ((r:Int)*st)
   rw [hq] at t1 m1;rw [hr] at t2 m2
   have q1:0<=e1/\e1<=64:=by
    rw [<-x0];have:=aY (a:=(q:Int)) (b:=st) (A:=4) (B:=16) (by omega) (by omega);exact ⟨aSu (by omega) (by omega),by omega⟩
   have q2:0<=e2/\e2<=64:=by
    rw [<-x6];have:=aY (a:=(r:Int)) (b:=st) (A:=4) (B:=16) (by omega) (by omega);exact ⟨aSu (by omega) (by omega),by omega⟩
   obtain ⟨p1,h5⟩:=e_ (cA [i,j,((k:Nat):Int),1] % st)
   obtain ⟨p2,h6⟩:=e_ (cA [i,j,((k:Nat):Int),2] % st)
   obtain ⟨p3,q3⟩:=e_ (cA [i,j,((k:Nat):Int),3] % 16)
   obtain ⟨p4,q4⟩:=e_ (cA [i,j,((k:Nat):Int),4] % 33)
   obtain ⟨p5,q5⟩:=e_ (cA [i,j,((k:Nat):Int),5] % 33)
   have b1:0<=p1/\p1<=15:=by rw [<-h5];exact ⟨aVs _ (by omega),by have:=aU2 (cA [i,j,((k:Nat):Int),1]) (show 0<st by omega);omega⟩
   have b2:0<=p2/\p2<=15:=by rw [<-h6];exact ⟨aVs _ (by omega),by have:=aU2 (cA [i,j,((k:Nat):Int),2]) (show 0<st by omega);omega⟩
   have b3:0<=p3/\p3<=15:=by omega
   have b4:0<=p4/\p4<=32:=by omega
   have b5:0<=p5/\p5<=32:=by omega
   obtain ⟨P1,P2,P3,P4,P5,z3⟩:=h6_ h5 h6 q3 q4 q5 (aMa hq hr z4 h5 h6 q3 q4 q5 x0 x6)
   have h3:=hid (show ∀c:Int,(0<=c/\c<=10)->∀y∈[i,j,((k:Nat):Int),c],I64 y from fun c hc y hy=>by
    simp only [aR4,aRz,or_false] at hy
    rcases hy with rfl|rfl|rfl|rfl <;> exact ⟨by omega,by omega⟩)
   obtain ⟨h9,q7⟩:=h2_ h0 (aRr wr 3 [(k:Nat)]);rw [h0];have z0:Hid (aE Smp.cs (w.heap.size+1+1) 42 5 wr (.slice xa k xc) xs):=hid (h0▸ho);have y0:w.heap.size+1<wr.heap.size:=zz;clear h5 h6 q3 q4 q5 h8 ho bI bJ hx h0 hq hr m3 m4 m5 m6 HO;go_wp2_with fail
   obtain ⟨WB,q9⟩:=e_ (wr.alloc (.cells #[(k:Nat)] 3))
   have xB:Ext wr (wr.alloc (.cells #[(k:Nat)] 3)):=X_;have kB:=q7.out;rw [q9] at xB kB ⊢;obtain ⟨XB,KB⟩:=h2_ xB kB;have zB:=kB.lt;have CL:=hid (fun (W':World) (x:Ext WB W')=>(⟨((HI.ext xB).ext x).cell 0 rfl,((HJ.ext xB).ext x).cell 0 rfl,(kB.ext x).cell 0 rfl⟩:_/\_/\_));have iI:=(HI.ext xB).cell 0 rfl;have iJ:=(HJ.ext xB).cell 0 rfl;have iK:=kB.cell 0 rfl;clear q9 xB kB q7;refine aH [([0,1,2,3,4,5,6,7,8,9,10,13,14,15,16,17,18,19,20,21,22,25,27,30],11),([12],23),([24],26),([],28),([29],31),([32,33],34),([],35),([],36)] 36 (fun w'=>∃d,w'=fT (C3f w.heap.size (w.heap.size+1) wr.heap.size) _ d) (by kernel_rfl) (by kernel_rfl) (SC.drew _ _) ?_;refine sc_ fun K hK=>?_;go_wp2_with fail;obtain ⟨a1,a2,a3⟩:=CL _ (aSk (aRu WB));refine r_ (jB i j k 1 st (h3 1 (by decide)) ⟨by omega,by omega⟩ P1 w.heap.size (w.heap.size+1) wr.heap.size _ a1 a2 a3) fun w1 x1=>?_;have Y1:=hid (aRo (w:=WB) (aSk (aRu WB)) x1);clear x1 a1 a2 a3;go_wp2;refine hK _ _ (.inr (SC.blocks fun a ha=>Y1.block (by rcases ha with ha|ha|ha <;> rw [ha] <;> omega))) ?_;clear hK K;clear iI iJ iK;refine sc_ fun K hK=>?_;go_wp2_with fail;obtain ⟨a1,a2,a3⟩:=CL _ Y1;refine r_ (jB i j k 2 st (h3 2 (by decide)) ⟨by omega,by omega⟩ P2 w.heap.size (w.heap.size+1) wr.heap.size _ a1 a2 a3) fun w2 x2=>?_;have Y2:=hid (aRo (w:=WB) Y1 x2);clear x2 a1 a2 a3;go_wp2;refine hK _ _ (.inr (SC.blocks fun a ha=>Y2.block (by rcases ha with ha|ha|ha <;> rw [ha] <;> omega))) ?_;clear hK K;refine sc_ fun K hK=>?_;go_wp2_with fail;obtain ⟨a1,a2,a3⟩:=CL _ Y2;refine r_ (jB i j k 3 16 (h3 3 (by decide)) ⟨by omega,by omega⟩ P3 w.heap.size (w.heap.size+1) wr.heap.size _ a1 a2 a3) fun w3 x3=>?_;have Y3:=hid (aRo (w:=WB) Y2 x3);clear x3 a1 a2 a3;go_wp2;refine hK _ _ (.inr (SC.blocks fun a ha=>Y3.block (by rcases ha with ha|ha|ha <;> rw [ha] <;> omega))) ?_;clear hK K;refine sc_ fun K hK=>?_;go_wp2_with fail;obtain ⟨a1,a2,a3⟩:=CL _ Y3;refine r_ (jB i j k 4 33 (h3 4 (by decide)) ⟨by omega,by omega⟩ P4 w.heap.size (w.heap.size+1) wr.heap.size _ a1 a2 a3) fun w4 x4=>?_;have Y4:=hid (aRo (w:=WB) Y3 x4);clear x4 a1 a2 a3;go_wp2;refine hK _ _ (.inr (SC.blocks fun a ha=>Y4.block (by rcases ha with ha|ha|ha <;> rw [ha] <;> omega))) ?_;clear hK K;refine sc_ fun K hK=>?_;go_wp2_with fail;obtain ⟨a1,a2,a3⟩:=CL _ Y4;refine r_ (jB i j k 5 33 (h3 5 (by decide)) ⟨by omega,by omega⟩ P5 w.heap.size (w.heap.size+1) wr.heap.size _ a1 a2 a3) fun w5 x5=>?_;have Y5:=hid (aRo (w:=WB) Y4 x5);clear x5 a1 a2 a3;go_wp2;refine hK _ _ (.inr (SC.blocks fun a ha=>Y5.block (by rcases ha with ha|ha|ha <;> rw [ha] <;> omega))) ?_;clear hK K;refine sc_ fun K hK=>?_;go_wp2_with fail;have bE:=aRr w5 42 [.int .i64 (i*16+e1+p1),.int .i64 (j*16+e2+p2),p3,.int .i64 (p4 - 16),.int .i64 (p5 - 16)];have HE:=hid bE;have xE:Ext WB (w5.alloc (.cells #[.int .i64 (i*16+e1+p1),.int .i64 (j*16+e2+p2),p3,.int .i64 (p4 - 16),.int .i64 (p5 - 16)] 42)):=aRo Y5 X_;have XE:=hid xE;clear bE xE;go_wp2;refine hK _ _ (.inr (SC.blocks fun a ha=>XE.block (by rcases ha with ha|ha|ha <;> rw [ha] <;> omega))) ?_;clear hK K
   have x7:w.heap.size+1+1<=(w5.alloc (.cells #[.int .i64 (i*16+e1+p1),.int .i64 (j*16+e2+p2),p3,.int .i64 (p4 - 16),.int .i64 (p5 - 16)] 42)).heap.size:=by
    have:=XE.size;omega
   obtain ⟨x9,O6⟩:=h2_ x7 (z0.ext (XB.trans XE));clear x7;refine sc_ fun K hK=>?_
   refine cX Smp.cs 42 5 40 _ _ rfl _ _ 103 rfl underlying103 aBj rfl (by decide) (by decide) (fun _=>rfl) (w.heap.size+1+1) (.slice xa k xc) xs (by rfl) O6 ⟨i*16+e1+p1,j*16+e2+p2,p3,p4 - 16,p5 - 16⟩ w5.heap.size (by rfl) (fun jj hj=>by
    rcases (show jj=0\/jj=1\/jj=2\/jj=3\/jj=4 by omega) with rfl|rfl|rfl|rfl|rfl
    ·exact HE.cell 0 rfl
    ·exact HE.cell 1 rfl
    ·exact HE.cell 2 rfl
    ·exact HE.cell 3 rfl
    ·exact HE.cell 4 rfl) (Smp.one _) (by rw [h9];omega) x9 ?_
   intro v8 w8 h1 hg;have kI:=(HI.ext (XB.trans XE)).grown hg (fun e=>by have:=aE.lt O6 _ e.symm;omega);have kJ:=(HJ.ext (XB.trans XE)).grown hg (fun e=>by have:=aE.lt O6 _ e.symm;omega);have h4:=aE.rowF O6
   have kK:=(KB.ext XE).grown hg (fun e=>by
    obtain ⟨_,c,hc⟩:=h4 _ e.symm
    exact (KB.ext XE).noCells (by decide) c hc)
   obtain ⟨X8,KI,KJ⟩:=h3_ (aSt (HX.trans (XB.trans XE)) hg (fun b hb=>by have:=(aE.lt O6 b hb).1;omega)) kI kJ
   have SK:Hid (∀a,C3f w.heap.size (w.heap.size+1) wr.heap.size a->w8.heap[a.block]?=WB.heap[a.block]?):=hid (fun a ha=>by
    have e1:=HI.ext XB;have e2:=HJ.ext XB;have e3:=KB.out;unfold Blk at kI kJ kK e1 e2 e3
    rcases ha with ha|ha|ha <;> rw [ha]
    ·rw [kI,e1]
    ·rw [kJ,e2]
    ·rw [kK,e3])
   obtain ⟨q6,h2⟩:=e_ (xs++[(⟨i*16+e1+p1,j*16+e2+p2,p3,p4 - 16,p5 - 16⟩:Smp)])
   rw [h2] at h1;obtain ⟨q0,z1⟩:=h2_ h2 h1;obtain ⟨va,vc,rfl,-⟩:=aE.form h1;clear h1 hg h2 kI kJ kK h4;go_wp2;refine hK _ _ (.inr (SC.blocks fun a ha=>SK a ha)) ?_;clear hK K;refine sc_ fun K hK=>?_;go_wp2;refine l_ hK (aQ ?_);clear hK K;go_wp2;go_roundw
   case rel=>
    refine ⟨k+1,q6,by omega,by go_num,?_,z1,KI,KJ,X8⟩;rw [<-q0,<-z3,q8];exact (nH _ _).symm
   case measure=>simp [intOf];omega
  ·obtain rfl:k=N:=by omega
   have HF:=hid (show xs=pX i j side by rw [q8,<-HN];rfl);clear h8 h0;go_wp2;go_ret;refine ⟨_,rfl,?_,HX⟩;rw [<-HF];exact aE.low HO (by omega)
theorem aB.freshO {g:Nat} (hl:lo<=g) (h:Blk w g 3 []):aB lo w (.slice (some ⟨g,0,none⟩) 0 0) []:=
 ⟨⟨by simp,.inr ⟨g,0,#[],rfl,hl,h,aRi _,by unfold maxLen;omega,by simp,by simp⟩⟩,fun x hx=>by cases hx⟩
theorem aDh (c:Cam) (i j:Int) {b1 b2:Bool} (h1:inB i 0 (c.w - 1)=b1) (h2:inB j 0 (c.h - 1)=b2) (hw:0<=c.w/\c.w<=100000) (hh:0<=c.h/\c.h<=100000) (w:World) :
  R_ 50 #[.agg c,i,j] w (.bool (b1&&b2)):=by
 obtain ⟨H1,H2⟩:=h2_ h1 h2;clear h1 h2
 cases b1
 ·go_enter func50,ntmps50
  go_wp2_with (go_at_call 92;with_reducible first|(refine z_ (aL H1.out _) ?_)|(refine z_ (aL H2.out _) ?_));go_ret;exact ⟨rfl,X_⟩
 ·go_enter func50,ntmps50
  go_wp2_with (go_at_call 92;with_reducible first|(refine z_ (aL H1.out _) ?_)|(refine z_ (aL H2.out _) ?_));go_ret;exact ⟨by cases b2 <;> rfl,X_⟩
def Scn.pxs (s:Scn) (i j:Int) (sd:Nat) (k:Nat):List Int:=((pX i j sd).take k).map fun p=>jD (s.seen p)
theorem Scn.pxs_succ {s:Scn} {p:Smp} (h:(pX i j sd)[k]?=some p):s.pxs i j sd (k+1)=s.pxs i j sd k++[jD (s.seen p)]:=by
 obtain ⟨hk,rfl⟩:=aRk.1 h;unfold Scn.pxs;rw [aSd hk,aTp,aVk]
theorem Scn.pxs_len {s:Scn} (hk:k<=sd*sd):(s.pxs i j sd k).length=k:=by
 unfold Scn.pxs;rw [aSv,aR9,fY];omega
theorem Scn.pxs_bd {s:Scn}:∀x∈s.pxs i j sd k,0<=x/\x<=256:=by
 intro x hx;obtain ⟨p,-,rfl⟩:=aTl.1 hx;exact wG _
open Classical in
noncomputable def Scn.pix (s:Scn) (i j:Int):Int:=if (s.okB&&(inB i 0 (s.c.w - 1)&&inB j 0 (s.c.h - 1)))=true then qL (s.pxs i j s.side.toNat (s.side.toNat*s.side.toNat)) else 0
structure aBm (s:Scn) (i j:Int) (sd:Nat):Prop where
 o:s.Ok
 hsd:s.side=(sd:Nat)
 s3:sd=1\/sd=2\/sd=4
 hi:0<=i/\i<s.c.w
 hj:0<=j/\j<s.c.h
theorem aMb {s:Scn} (h:(s.okB&&(inB i 0 (s.c.w - 1)&&inB j 0 (s.c.h - 1)))=true):aBm s i j s.side.toNat:=by
 simp only [aRy,aG] at h;obtain ⟨h0,⟨h1,h2⟩,h3,h4⟩:=h;have ho:=Scn.okB_iff.1 h0;have:=ho.side;exact ⟨ho,by omega,by omega,⟨h1,by omega⟩,⟨h3,by omega⟩⟩
theorem Scn.pix_cases {s:Scn} (h:s.pix i j=z):(∃sd,aBm s i j sd/\z=qL (s.pxs i j sd (sd*sd)))\/((s.okB&&(inB i 0 (s.c.w - 1)&&inB j 0 (s.c.h - 1)))=false/\z=0):=by
 unfold Scn.pix at h
 split at h
 ·rename_i h1
  exact .inl ⟨_,aMb h1,h.symm⟩
 ·rename_i h1
  exact .inr ⟨by simpa using h1,h.symm⟩
theorem tB (s:Scn) (lo lo2 hi:Nat) (v u:Value) (i j:Int) (sd:Nat) (w:World) (hv:s.R lo hi w v) (hh:hi<=w.heap.size) (hp:aBm s i j sd) (hu:sO s lo2 w u s.m) :
  Calls aRn 52 #[v,i,j,u] w fun e w'=>∃r,e = .returned r/\aB w.heap.size w' r (s.pxs i j sd (sd*sd))/\Ext w w':=by
 obtain ⟨HV,HP,HU⟩:=h3_ hv hp hu;have a8:=hp.o.c.w;have a7:=hp.o.c.h;have a9:=hp.hi;have b0:=hp.hj;obtain ⟨a1,c1,a2,c2,a3,c3,rfl⟩:=hv.formV;obtain ⟨us,y0,x3,z9⟩:=hu;obtain ⟨ua,uc,rfl,-⟩:=x3.form;clear hv hp y0 x3 z9;have x0:Ext w (w.alloc (.cells (sA_ s a1 c1 a2 c2 a3 c3) 40)):=X_;have bS:=(aRr w 40 (sL_ s a1 c1 a2 c2 a3 c3)).ext (show Ext _ (w.alloc (.cells (sA_ s a1 c1 a2 c2 a3 c3) 40)) from X_)
 try simp only [aRj] at bS
 obtain ⟨W0,h9⟩:=e_ (w.alloc (.cells (sA_ s a1 c1 a2 c2 a3 c3) 40))
 rw [h9] at x0 bS;obtain ⟨z6,z5⟩:=h2_ x0 h9;have z0:=bS.lt;have q5:=hid bS;clear x0 h9 bS;obtain ⟨HD,h6⟩:=h2_ (aRr W0 3 []) (show Ext W0 (W0.alloc (.cells #[] 3)) from X_);go_enter func52,ntmps52;go_upto_region 1 with fail;rw [z5];have q8:=q5.cell 11 rfl;rw [HP.hsd] at q8;go_wp2_with fail;refine (sZ i j (by omega) (by omega) sd HP.s3 _).mono ?_;rintro e w6 ⟨q,rfl,hq,x6⟩;obtain ⟨qa,qc,rfl,-⟩:=hq.form;rw [fY];obtain ⟨HQ,X6,q7,q3,z7⟩:=h5_ (hq.low (lo':=W0.heap.size) (by rw [aRj];omega)) (z6.trans (h6.trans x6)) ((q5.ext h6).ext x6) (HD.ext x6) (aRq h6.size x6.size);clear hq x6 q8
 obtain ⟨N,hN⟩:=e_ (sd*sd)
 have z8:N<=16:=by rw [<-hN];rcases HP.s3 with rfl|rfl|rfl <;> decide
 have HN:=hid hN;rw [hN];clear hN;go_wp2
 go_loopw [9,19] (fun r x wr=>∃k:Nat,k<=N/\x = .int .i64 (k:Nat)/\aB W0.heap.size wr r (s.pxs i j sd k)/\aE Smp.cs W0.heap.size 42 5 wr (.slice qa (pX i j sd).length qc) (pX i j sd)/\Blk wr w.heap.size 40 (sL_ s a1 c1 a2 c2 a3 c3)/\Ext w wr/\W0.heap.size<=wr.heap.size) (fun _ x _=>N - (intOf x).toNat)
 case atStart=>exact ⟨0,by omega,rfl,aB.freshO (aRi _) q3,HQ,q7,X6,z7⟩
 case round=>
  obtain ⟨k,hk,rfl,hr,hq,hs,hx,b1⟩:=hrel;clear HQ X6 q7 q3;obtain ⟨HR,HQ,q6,h5⟩:=h4_ hr hq hs hx;obtain ⟨ra,rc,rfl,-⟩:=hr.form;have zr:=hx.size;rw [Scn.pxs_len (by rw [HN];exact hk)] at *
  rcases aSo k N with hlt|hge
  ·obtain ⟨p,hp⟩:∃p,(pX i j sd)[k]?=some p:=⟨_,aRs (by rw [fY,HN];exact hlt)⟩
   have x2:p.okB s.c=true:=by
    have h1:=(aRk.1 hp).2;unfold pX at h1;rw [aU3,aUd] at h1;rw [<-h1];exact aIj HP.o.cb HP.hi HP.hj HP.s3 (by rw [HN];exact hlt)
   have h4:=hid (Scn.pxs_succ (s:=s) hp);obtain ⟨gq,cq,he,-,a6,h8,a5,-,h0⟩:=aE.at hq (fun _=>rfl) hp;rw [show (pX i j sd).length=N by rw [fY];exact HN] at he h8;simp only [aSb,true_and] at he;obtain ⟨rfl,rfl⟩:=he;have d0:=h0 0 (by decide);have d1:=h0 1 (by decide);have d2:=h0 2 (by decide);have d3:=h0 3 (by decide);have d4:=h0 4 (by decide);simp only [Smp.cs,aS0,aRg,aRh] at d0 d1 d2 d3 d4;obtain ⟨h3,XS⟩:=h2_ x2 (show Ext wr (wr.alloc (.cells #[p.x,p.y,p.t,p.lx,p.ly] 42)) from X_);clear hr hq hs hx x2 hp h0;have bq:=q6.ext XS;obtain ⟨y1,y2,y3,y4,y5,y6,y7,y9,a0,a4,q1,q2⟩:=bq.q12;have sl:=bq.lt;clear bq;go_upto_region 5 with fail;go_wp2_with fail
   obtain ⟨WB,q0⟩:=e_ (wr.alloc (.cells #[p.x,p.y,p.t,p.lx,p.ly] 42))
   rw [q0] at XS;rw [q0];clear q0;have h7:=hid (h5.trans XS);have CH:=aJ3 s lo lo2 hi _ _ p WB (HV.ext hh h7) (aRq hh h7.size) HP.o h3 (HU.ext h7);refine CH.mono ?_;clear CH;rintro e w7 ⟨f1,rfl,x1,x7⟩;obtain ⟨x4,X7⟩:=h2_ x1 (XS.trans x7);clear x1 x7 d0 d1 d2 d3 d4;clear sl y1 y2 y3 y4 y5 y6 y7 y9 a0 a4 q1 q2;go_wp2_with fail;refine r_ (yM _ _ _ _ x4) fun w8 x8=>?_;have q9:=wG (s.seen p)
   obtain ⟨z,hz⟩:=e_ (jD (s.seen p))
   rw [hz] at q9 ⊢;replace h4:=hid (hz▸h4.out);clear hz;have X8:=hid (X7.trans x8);have q4:=hid (HR.ext X8);have y8:Ext w8 (w8.alloc (.cells #[z] 3)):=X_;obtain ⟨B8,Y8,I8,L8,Z8⟩:=h5_ (aRr w8 3 [z]) y8 (show I64 z from ⟨by omega,by omega⟩) (show (s.pxs i j sd k).length<1000000000 by rw [Scn.pxs_len (by rw [HN];exact hk)];omega) (show W0.heap.size<=(w8.alloc (.cells #[z] 3)).heap.size by have:=(X8.trans y8).size;omega);clear x8 y8 q9;go_wp2_with (at_builtin;refine aU _ rfl _ _ rfl W0.heap.size (.slice ra k rc) (s.pxs i j sd k) rfl (q4.ext Y8) z I8 w8.heap.size rfl (B8.cell 0 rfl) L8 Z8 ?_;intro v9 w9 hown hg);have h2:=q4.ext Y8;have x5:=hid hown
   have x9:=hid ((HQ.ext (X8.trans Y8)).grownE hg (e':=3) (by decide) (fun k' hk'=>by
    obtain ⟨c,hc⟩:=h2.block hk'
    exact ⟨c,hc⟩))
   have z1:=hid (((q6.ext X8).ext Y8).grown hg (fun e=>by
    have h1:=(h2.lt _ e.symm).1
    omega))
   obtain ⟨z2,z3⟩:=h2_ (aSt (h5.trans (X8.trans Y8)) hg (fun k' hk'=>by have:=(h2.lt k' hk').1;omega)) (aRq Z8 hg.size);clear hown hg h2;go_wp2;go_roundw
   case rel=>exact ⟨k+1,by omega,by go_num,by rw [h4];exact x5,x9,z1,z2,z3⟩
   case measure=>simp [intOf];omega
  ·obtain rfl:k=N:=by omega
   have z4:=hid (HR.low (show w.heap.size<=W0.heap.size by omega));clear hr hq hs hx;go_wp2;go_ret;exact ⟨_,rfl,HN.out▸z4.out,h5⟩
theorem aKe {xs:List Int} (h:∀x∈xs,0<=x/\x<=256) (hn:0<xs.length):aY4 (kD xs) (xs.length:Nat)=qL xs:=by
 have:=(aC4 h).1;unfold qL bT;rw [if_neg (by omega),aTd this]
theorem aHl (s:Scn) (lo hi h0:Nat) (v cv av:Value) (i j:Int) (sd:Nat) (w:World) (hv:s.R lo hi w v) (hh:hi<=w.heap.size) (hp:aBm s i j sd) (hd:vH s h0 w cv av) (hz:qL (s.pxs i j sd (sd*sd))=z) :
  R_ 47 #[v,.agg #[cv,av],i,j] w (.int .i64 z):=by
 obtain ⟨HV,HP,z9,HZ⟩:=h4_ hv hp hd hz;have a9:=hp.o.c.w;have a8:=hp.o.c.h;have b1:=hp.hi;have b2:=hp.hj;obtain ⟨a1,c1,a2,c2,a3,c3,rfl⟩:=hv.formV;obtain ⟨xa,xc,ya,yc,rfl,rfl⟩:=hd.forms;clear hv hp hd hz;have x0:Ext w ((w.alloc (.cells (sA_ s a1 c1 a2 c2 a3 c3) 40)).alloc (.cells #[.slice xa s.m xc,.slice ya s.m yc] 78)):=X_;have bS:=(aRr w 40 (sL_ s a1 c1 a2 c2 a3 c3)).ext (show Ext _ ((w.alloc (.cells (sA_ s a1 c1 a2 c2 a3 c3) 40)).alloc (.cells #[.slice xa s.m xc,.slice ya s.m yc] 78)) from X_);have bD:=(aRr (w.alloc (.cells (sA_ s a1 c1 a2 c2 a3 c3) 40)) 78 [.slice xa s.m xc,.slice ya s.m yc]).ext (show Ext _ ((w.alloc (.cells (sA_ s a1 c1 a2 c2 a3 c3) 40)).alloc (.cells #[.slice xa s.m xc,.slice ya s.m yc] 78)) from X_)
 try simp only [aRj] at bS bD
 obtain ⟨W0,q6⟩:=e_ ((w.alloc (.cells (sA_ s a1 c1 a2 c2 a3 c3) 40)).alloc (.cells #[.slice xa s.m xc,.slice ya s.m yc] 78))
 rw [q6] at x0 bS bD;obtain ⟨z4,y3⟩:=h2_ x0 q6;have z0:=bD.lt;obtain ⟨z3,z8⟩:=h2_ bS bD;clear x0 q6 bS bD;go_enter func47,ntmps47;go_upto_region 1 with fail;rw [y3];have bq:=z3.ext (aRu _);obtain ⟨q8,q9,x1,x2,x3,x4,x5,x9,z1,z2,h9,h7⟩:=bq.q12;have sl:=bq.lt;clear bq;rw [HP.hsd] at h7;go_wp2_with fail;refine (sP s.c HP.o.cb i j HP.hi HP.hj sd HP.s3 _).mono ?_;rintro e w6 ⟨q,rfl,hq,x6⟩;obtain ⟨qa,qc,rfl,-⟩:=hq.form;rw [fY];obtain ⟨HQ,X6⟩:=h2_ hq x6;clear hq x6;clear sl q8 q9 x1 x2 x3 x4 x5 x9 z1 z2 h9 h7
 obtain ⟨N,hN⟩:=e_ (sd*sd)
 have y9:1<=N/\N<=16:=by rw [<-hN];rcases HP.s3 with rfl|rfl|rfl <;> decide
 have HN:=hid hN;rw [hN];clear hN;go_wp2
 go_loopw [9,22] (fun r x wr=>∃k:Nat,k<=N/\x = .int .i64 (k:Nat)/\r = .int .i64 (kD (s.pxs i j sd k))/\Ext w6 wr) (fun _ x _=>N - (intOf x).toNat)
 case atStart=>exact ⟨0,by omega,rfl,rfl,aRu _⟩
 case round=>
  obtain ⟨k,hk,rfl,rfl,hx⟩:=hrel;have z5:=hid hx;have zr:=hx.size;have y6:=hid (X6.trans hx);have h6:=aC4 (Scn.pxs_bd (s:=s) (i:=i) (j:=j) (sd:=sd) (k:=k));rw [Scn.pxs_len (by rw [HN];exact hk)] at h6
  rcases aSo k N with hlt|hge
  ·obtain ⟨p,hp⟩:∃p,(pX i j sd)[k]?=some p:=⟨_,aRs (by rw [fY,HN];exact hlt)⟩
   have z7:p.okB s.c=true:=by
    have h1:=(aRk.1 hp).2;unfold pX at h1;rw [aU3,aUd] at h1;rw [<-h1];exact aIj HP.o.cb HP.hi HP.hj HP.s3 (by rw [HN];exact hlt)
   have q7:kD (s.pxs i j sd (k+1))=kD (s.pxs i j sd k)+jD (s.seen p):=by
    rw [Scn.pxs_succ hp,uX]
    show _+kD [jD (s.seen p)]=_
    rw [aBh]
    show _+(jD (s.seen p)+0)=_
    omega
   have q1:=hid q7;obtain ⟨gq,cq,he,-,a6,q5,a5,-,h5⟩:=aE.at (HQ.ext hx) (fun _=>rfl) hp;rw [show (pX i j sd).length=N by rw [fY];exact HN] at he q5;simp only [aSb,true_and] at he;obtain ⟨rfl,rfl⟩:=he;have d0:=h5 0 (by decide);have d1:=h5 1 (by decide);have d2:=h5 2 (by decide);have d3:=h5 3 (by decide);have d4:=h5 4 (by decide);simp only [Smp.cs,aS0,aRg,aRh] at d0 d1 d2 d3 d4;obtain ⟨q0,XS⟩:=h2_ z7 (show Ext wr (wr.alloc (.cells #[p.x,p.y,p.t,p.lx,p.ly] 42)) from X_);have q3:=hid (y6.trans XS)
   obtain ⟨S,hS⟩:=e_ (kD (s.pxs i j sd k))
   rw [hS] at h6 q7;rw [hS];have y2:=hid hS;have a0:=wG (s.seen p);clear hx z7 hp h5 q7 hS;have bq:=z3.ext q3;obtain ⟨q8,q9,x1,x2,x3,x4,x5,x9,z1,z2,h9,h7⟩:=bq.q12;have sl:=bq.lt;clear bq;have bq:=z8.ext q3;obtain ⟨y7,y8⟩:=bq.q2;have dl:=bq.lt;clear bq;go_upto_region 6 with fail;go_wp2_with fail;have q4:=hid (z4.trans q3);have CH:=aFg s lo hi h0 _ _ _ p _ (HV.ext hh q4) (aRq hh q4.size) HP.o q0 (z9.ext q4);refine CH.mono ?_;clear CH;rintro e w7 ⟨f1,rfl,z6,x7⟩;obtain ⟨y0,X7⟩:=h2_ z6 (XS.trans x7);clear z6 x7 d0 d1 d2 d3 d4;clear sl q8 q9 x1 x2 x3 x4 x5 x9 z1 z2 h9 h7 dl y7 y8;go_wp2_with fail;refine r_ (zC _ _ _ _ y0) fun w8 x8=>?_
   obtain ⟨q,hq⟩:=e_ (jD (s.seen p))
   rw [hq] at a0 ⊢;replace q1:=hid (hq▸q1.out);clear hq;have X8:=hid (z5.trans (X7.trans x8));clear x8
   have a7:S<=256*16:=by
    have:=h6.2
    have:(256:Int)*(k:Nat)<=256*16:=by omega
    omega
   obtain ⟨y4,y1⟩:=h2_ (show wrap64 (S+q)=S+q from aD (by omega) (by omega)) h6;clear h6;go_wp2;go_roundw
   case rel=>exact ⟨k+1,by omega,by go_num,by rw [q1,y2,y4],X8⟩
   case measure=>simp [intOf];omega
  ·obtain rfl:k=N:=by omega
   obtain ⟨S,hS⟩:=e_ (kD (s.pxs i j sd k))
   have h8:(s.pxs i j sd k).length=k:=Scn.pxs_len (by rw [HN];exact aRi _)
   have hm:aY4 S (k:Nat)=z:=by
    have h1:=aKe (Scn.pxs_bd (s:=s) (i:=i) (j:=j) (sd:=sd) (k:=k)) (by rw [h8];omega);rw [h8,hS] at h1;rw [h1,<-HZ,HN]
   rw [hS] at h6
   have b3:0<=z/\z<=4096:=by
    have h1:=h6.1;have h2:=h6.2;rw [aTd h1] at hm;have h3:S / (k:Nat)<=S:=Int.ediv_le_self _ h1;have h4:0<=S / (k:Nat):=Int.ediv_nonneg h1 (by omega)
    have:(256:Int)*(k:Nat)<=256*16:=by omega
    omega
   obtain ⟨HM,a4,y5⟩:=h3_ hm h6 (z4.trans (X6.trans z5))
   have b0:((k:Nat):Int)≠0:=by omega
   rw [hS];clear hx h8 hS h6 hm;have hm:=HM.out;go_wp2;go_ret;exact ⟨rfl,y5⟩
theorem vI (lo hi:Nat) (v:Value) (s:Scn) (i j:Int) (w:World) (hz:s.pix i j=z) (hv:s.R lo hi w v) (hh:hi<=w.heap.size) (hsm:s.small) :
  R_ 15 #[v,i,j] w (.int .i64 z):=by
 obtain ⟨HV,h7⟩:=h2_ hv hsm;obtain ⟨a1,c1,a2,c2,a3,c3,rfl⟩:=hv.formV;have HQ:=hid (Scn.pix_cases hz)
 obtain ⟨b0,h8⟩:=e_ s.okB
 obtain ⟨b1,h9⟩:=e_ (inB i 0 (s.c.w - 1))
 obtain ⟨b2,q0⟩:=e_ (inB j 0 (s.c.h - 1))
 obtain ⟨H0,H1,H2⟩:=h3_ h8 h9 q0;clear hv hsm hz h8 h9 q0;have x0:Ext w (w.alloc (.cells (sA_ s a1 c1 a2 c2 a3 c3) 40)):=X_;have bS:=(aRr w 40 (sL_ s a1 c1 a2 c2 a3 c3)).ext (show Ext _ (w.alloc (.cells (sA_ s a1 c1 a2 c2 a3 c3) 40)) from X_)
 try simp only [aRj] at bS
 obtain ⟨W0,h5⟩:=e_ (w.alloc (.cells (sA_ s a1 c1 a2 c2 a3 c3) 40))
 rw [h5] at x0 bS;obtain ⟨h0,x2⟩:=h2_ x0 h5;have z0:=bS.lt;have h6:=hid bS;clear x0 h5 bS;go_enter func15,ntmps15;go_upto_region 1 with fail;rw [x2];have bq:=h6.ext (aRu _);obtain ⟨q1,q2,q3,q4,q5,q6,q7,q8,q9,x1,h3,h4⟩:=bq.q12;have sl:=bq.lt;clear bq;go_wp2_with fail;have CH:=lC s lo hi _ _ (HV.ext hh h0) (aRq hh h0.size) h7;rw [H0] at CH;refine CH.mono ?_;clear CH;rintro e w3 ⟨rfl,x3⟩;have X3:=hid x3;clear x3;clear sl q1 q2 q3 q4 q5 q6 q7 q8 q9 x1 h3 h4;have bq:=h6.ext X3;obtain ⟨q1,q2,q3,q4,q5,q6,q7,q8,q9,x1,h3,h4⟩:=bq.q12;have sl:=bq.lt;clear bq
 cases b0
 ·have hz:z=0:=by
   rcases HQ with ⟨sd,hp,-⟩|⟨-,h⟩
   ·have:=H0.out
    rw [Scn.okB_iff.2 hp.o] at this;exact absurd this (by decide)
   ·exact h
  subst hz;go_wp2;go_ret;exact ⟨rfl,h0.trans X3⟩
 ·have ho:=Scn.okB_iff.1 H0
  have x7:=ho.c.w;have x4:=ho.c.h;clear ho;go_wp2_with fail;refine z_ (aF H1 _) ?_
  cases b1
  ·skip
   have hz:z=0:=by
    rcases HQ with ⟨sd,hp,-⟩|⟨-,h⟩
    ·have h1:=aG.2 (show 0<=i/\i<=s.c.w - 1 by have:=hp.hi;omega)
     have h2:=aG.2 (show 0<=j/\j<=s.c.h - 1 by have:=hp.hj;omega);rw [H1] at h1;exact absurd h1 (by decide)
    ·exact h
   subst hz;go_wp2;go_ret;exact ⟨rfl,h0.trans X3⟩
  ·go_wp2_with fail
   refine z_ (aF H2 _) ?_
   cases b2
   ·skip
    have hz:z=0:=by
     rcases HQ with ⟨sd,hp,-⟩|⟨-,h⟩
     ·have h1:=aG.2 (show 0<=i/\i<=s.c.w - 1 by have:=hp.hi;omega)
      have h2:=aG.2 (show 0<=j/\j<=s.c.h - 1 by have:=hp.hj;omega);rw [H2] at h2;exact absurd h2 (by decide)
     ·exact h
    subst hz;go_wp2;go_ret;exact ⟨rfl,h0.trans X3⟩
   ·have hp:∃sd,aBm s i j sd/\z=qL (s.pxs i j sd (sd*sd)):=by
     rcases HQ with h|⟨h,-⟩
     ·exact h
     ·rw [H0,H1,H2] at h
      exact absurd h (by decide)
    obtain ⟨sd,hp,hz⟩:=hp;obtain ⟨HP,HZ⟩:=h2_ hp hz;clear hp hz;go_upto_region 3 with fail;refine aA [([0,1,3,4],2),([],5),([],6)] 6 w3.heap.size (by kernel_rfl) (by kernel_rfl) ?_;refine st_ fun K hK=>?_;go_wp2_with fail;have xd:Ext w w3.drew:=h0.trans (X3.trans (aSk (aRu _)));refine (aL7 s lo hi _ _ (HV.ext hh xd) (aRq hh xd.size) HP.o h7).mono ?_;rintro e w5 ⟨cv,av,rfl,hd,x5⟩;have y5:Ext w3 w5:=aRo (aSk (aRu _)) x5;have HD:=hid hd.rd;obtain ⟨xa,xc,ya,yc,rfl,rfl⟩:=hd.rd.forms;have X5:=hid (h0.trans (X3.trans y5));clear hd x5 xd;go_wp2;refine k_ hK (st_ fun K hK=>?_);go_wp2_with fail;have CS:=aHl s lo hi _ _ _ _ i j sd w5 (HV.ext hh X5) (aRq hh X5.size) HP HD HZ.symm;refine CS.mono ?_;clear CS;rintro e w6 ⟨rfl,x6⟩;have y6:=y5.trans x6;have X6:=hid (X5.trans x6);clear x6;go_wp2;refine k_ hK ?_;clear hK K y5 y6;refine st_ fun K hK=>?_;go_wp2;refine l_ hK (aC ?_);clear hK K;go_wp2;go_ret;exact ⟨rfl,X6⟩
theorem vJ (lo hi:Nat) (v:Value) (s:Scn) (i j:Int) (w:World) (hz:s.pix i j=z) (hv:s.R lo hi w v) (hh:hi<=w.heap.size) (hsm:s.small) :
  R_ 16 #[v,i,j] w (.int .i64 z):=by
 obtain ⟨HV,q7⟩:=h2_ hv hsm;obtain ⟨a1,c1,a2,c2,a3,c3,rfl⟩:=hv.formV;have HQ:=hid (Scn.pix_cases hz)
 obtain ⟨b0,q8⟩:=e_ s.okB
 obtain ⟨b1,q9⟩:=e_ (inB i 0 (s.c.w - 1))
 obtain ⟨b2,x1⟩:=e_ (inB j 0 (s.c.h - 1))
 obtain ⟨H0,H1,H2⟩:=h3_ q8 q9 x1;clear hv hsm hz q8 q9 x1;have x0:Ext w (w.alloc (.cells (sA_ s a1 c1 a2 c2 a3 c3) 40)):=X_;have bS:=(aRr w 40 (sL_ s a1 c1 a2 c2 a3 c3)).ext (show Ext _ (w.alloc (.cells (sA_ s a1 c1 a2 c2 a3 c3) 40)) from X_)
 try simp only [aRj] at bS
 obtain ⟨W0,q6⟩:=e_ (w.alloc (.cells (sA_ s a1 c1 a2 c2 a3 c3) 40))
 rw [q6] at x0 bS;obtain ⟨h4,x9⟩:=h2_ x0 q6;have z0:=bS.lt;have q5:=hid bS;clear x0 q6 bS;go_enter func16,ntmps16;go_upto_region 1 with fail;rw [x9];have bq:=q5.ext (aRu _);obtain ⟨h5,h6,h7,h8,h9,q0,q1,q2,q3,q4,h0,h3⟩:=bq.q12;have sl:=bq.lt;clear bq;go_wp2_with fail;have CH:=sN s lo hi _ _ (HV.ext hh h4) (aRq hh h4.size) q7;rw [H0] at CH;refine CH.mono ?_;clear CH;rintro e w3 ⟨rfl,x3⟩;have X3:=hid x3;clear x3;clear sl h5 h6 h7 h8 h9 q0 q1 q2 q3 q4 h0 h3;have bq:=q5.ext X3;obtain ⟨h5,h6,h7,h8,h9,q0,q1,q2,q3,q4,h0,h3⟩:=bq.q12;have sl:=bq.lt;clear bq
 cases b0
 ·have hz:z=0:=by
   rcases HQ with ⟨sd,hp,-⟩|⟨-,h⟩
   ·have:=H0.out
    rw [Scn.okB_iff.2 hp.o] at this;exact absurd this (by decide)
   ·exact h
  subst hz;go_wp2;go_ret;exact ⟨rfl,h4.trans X3⟩
 ·have ho:=Scn.okB_iff.1 H0
  have z3:=ho.c.w;have z2:=ho.c.h;clear ho;go_wp2_with fail;refine r_ (aDh s.c i j H1 H2 (by omega) (by omega) _) fun w4 x4=>?_;have X4:=hid (X3.trans x4);clear x4;clear sl h5 h6 h7 h8 h9 q0 q1 q2 q3 q4 h0 h3;have bq:=q5.ext X4;obtain ⟨h5,h6,h7,h8,h9,q0,q1,q2,q3,q4,h0,h3⟩:=bq.q12;have sl:=bq.lt;clear bq
  cases b1
  ·skip
   have hz:z=0:=by
    rcases HQ with ⟨sd,hp,-⟩|⟨-,h⟩
    ·have h1:=aG.2 (show 0<=i/\i<=s.c.w - 1 by have:=hp.hi;omega)
     have h2:=aG.2 (show 0<=j/\j<=s.c.h - 1 by have:=hp.hj;omega);rw [H1] at h1;exact absurd h1 (by decide)
    ·exact h
   subst hz;go_wp2;go_ret;exact ⟨rfl,h4.trans X4⟩
  ·cases b2
   ·skip
    have hz:z=0:=by
     rcases HQ with ⟨sd,hp,-⟩|⟨-,h⟩
     ·have h1:=aG.2 (show 0<=i/\i<=s.c.w - 1 by have:=hp.hi;omega)
      have h2:=aG.2 (show 0<=j/\j<=s.c.h - 1 by have:=hp.hj;omega);rw [H2] at h2;exact absurd h2 (by decide)
     ·exact h
    subst hz;go_wp2;go_ret;exact ⟨rfl,h4.trans X4⟩
   ·have hp:∃sd,aBm s i j sd/\z=qL (s.pxs i j sd (sd*sd)):=by
     rcases HQ with h|⟨h,-⟩
     ·exact h
     ·rw [H0,H1,H2] at h
      exact absurd h (by decide)
    obtain ⟨sd,hp,hz⟩:=hp;obtain ⟨HP,HZ⟩:=h2_ hp hz;clear hp hz;go_upto_region 3 with fail;refine aA [([0,1,2,3],4),([],5),([],6),([],7)] 7 w4.heap.size (by kernel_rfl) (by kernel_rfl) ?_;refine st_ fun K hK=>?_;go_wp2_with fail;have xd:Ext w w4.drew:=h4.trans (X4.trans (aSk (aRu _)));refine (aAk s lo hi _ _ (HV.ext hh xd) (aRq hh xd.size) HP.o q7).mono ?_;rintro e w5 ⟨r,rfl,hr,x5⟩;have y5:Ext w4 w5:=aRo (aSk (aRu _)) x5;have HR:=hid hr;obtain ⟨us,z1,x7,-⟩:=hr;obtain ⟨ra,rc,rfl,-⟩:=x7.form;have X5:=hid (h4.trans (X4.trans y5));clear z1 x7 x5 xd;go_wp2;refine k_ hK (st_ fun K hK=>?_);go_wp2_with fail;have CS:=tB s lo _ hi _ _ i j sd w5 (HV.ext hh X5) (aRq hh X5.size) HP HR;refine CS.mono ?_;clear CS;rintro e w6 ⟨q,rfl,hq,x6⟩;have y6:=y5.trans x6;have X6:=hid (X5.trans x6);obtain ⟨qa,qc,rfl,-⟩:=hq.form;have x8:=hid hq;clear x6 hq;go_wp2;refine k_ hK (st_ fun K hK=>?_);go_wp2_with fail;have hl:=Scn.pxs_len (s:=s) (i:=i) (j:=j) (sd:=sd) (aRi _)
    have x2:(s.pxs i j sd (sd*sd)).length<=1000:=by rw [hl];rcases HP.s3 with rfl|rfl|rfl <;> decide
    refine (aKd 0 _ _ _ _ (x8.ints.wide (aS1 _) (aRi _)) Scn.pxs_bd x2).mono ?_;clear hl x2;rintro e w7 ⟨rfl,rfl⟩;go_wp2;refine k_ hK ?_;clear hK K y5 y6;refine st_ fun K hK=>?_;go_wp2;refine l_ hK (aC ?_);clear hK K;go_wp2;go_ret;exact ⟨cK HZ.symm,X6⟩
theorem aP7 (vs:Value) (s:Scn) (a:Int) (b:Int) (W:World) (hs:s.R 0 W.heap.size W vs) (hbs:s.bd) (ha:I64 a) (hb:I64 b) :
  R_ 4 #[vs,a,b] W (.bool true):=by
 obtain ⟨z,hz⟩:=e_ (s.pix a b)
 obtain ⟨HQ,Hs,y1⟩:=h3_ hz hs hbs;obtain ⟨st,sp,sf,rfl,_⟩:=hs;clear hbs hz;go_enter func4,ntmps4;go_wp2_with fail;refine (aFc 0 W.heap.size _ s 1048576 _ (Hs.ext (aRi _) X_) (by simp <;> omega) y1 (by decide) (by decide)).mono ?_;rintro e w1 ⟨⟨rs,rfl,hrs⟩,x1⟩;have h0:=hid ((Bx.made W #[s.c.w,s.c.h,s.c.zoom,s.c.near,.bool s.c.deep,s.c.lens,s.c.focus,s.t.log,st,sp,sf,s.side] _).ext x1);have E:Ext W w1:=aRo X_ x1;clear x1;have ps:=h0.lt;obtain ⟨h3,h4,h5,h6,h7,h8,h9,q0,q1,q2,h1,h2⟩:=h0.q12
 rcases hrs with rfl|⟨ras,rbs,hss⟩
 ·go_wp2
  go_ret;exact ⟨rfl,E⟩
 have q5:=hid hss;clear hss;have pW:=h0.lt;have zE:=E.size;go_wp2_with fail;refine (oR 0 W.heap.size _ s _ (Hs.ext (aRi _) E) zE q5).mono ?_;rintro e w2 ⟨v2,rfl,O2,x2⟩;have y2:Ext w1 w2:=x2;have z2:=y2.size;go_wp2_with fail;refine r_ (vI _ _ _ s a b _ HQ O2.R (aRi _) q5.small) fun w3 x3=>?_;have y3:Ext w1 w3:=y2.trans x3;have z3:=x3.size;replace h0:=hid (h0.kp (y3.kp h0.lt));replace E:=E.trans y3;clear x2 y2 x3 y3 O2;clear ps h3 h4 h5 h6 h7 h8 h9 q0 q1 q2 h1 h2;have ps:=h0.lt;obtain ⟨h3,h4,h5,h6,h7,h8,h9,q0,q1,q2,h1,h2⟩:=h0.q12;go_wp2_with fail;have zE:=E.size;refine (oR 0 W.heap.size _ s _ (Hs.ext (aRi _) E) zE q5).mono ?_;rintro e w4 ⟨v4,rfl,O4,x4⟩;have z4:=x4.size;replace h0:=hid (h0.kp (x4.kp h0.lt));replace E:=E.trans x4;have q4:=hid O4;obtain ⟨y4,y8,y9,a0,a1,a2,rfl⟩:=O4.form;clear x4 O4 ps h3 h4 h5 h6 h7 h8 h9 q0 q1 q2 h1 h2;have ps:=h0.lt;obtain ⟨h3,h4,h5,h6,h7,h8,h9,q0,q1,q2,h1,h2⟩:=h0.q12;go_wp2_with fail;refine r_ (vJ _ _ _ s a b _ HQ (q4.kp (Ext.kp X_ (by omega))).R (by simp <;> omega) q5.small) fun w5 x5=>?_;have q3:=hid ((Bx.made w4 #[s.c.w,s.c.h,s.c.zoom,s.c.near,.bool s.c.deep,s.c.lens,s.c.focus,s.t.log,.slice y4 s.t.px.length y8,.slice y9 s.ps.length a0,.slice a1 s.m a2,s.side] _).ext x5);have y5:Ext w4 w5:=aRo X_ x5;have z5:=x5.size;simp only [aRj] at z5;replace h0:=hid (h0.kp (y5.kp h0.lt));replace q4:=hid (q4.kp (y5.kp (by first|omega|(simp;omega))));replace E:=E.trans y5;clear x5 y5  ps h3 h4 h5 h6 h7 h8 h9 q0 q1 q2 h1 h2;have ps:=h0.lt;obtain ⟨h3,h4,h5,h6,h7,h8,h9,q0,q1,q2,h1,h2⟩:=h0.q12;have xs:=q3.lt;obtain ⟨q8,q9,x0,x8,x9,z0,z1,z8,z9,y0,q6,q7⟩:=q3.q12;go_wp2_with fail;have zE:=E.size;refine aA [([0,1],2),([],3),([],4)] 99 w5.heap.size (by kernel_rfl) (by kernel_rfl) ?_;refine st_ fun K hK=>?_;go_wp2_with fail;refine (oR 0 W.heap.size _ s w5.drew (Hs.ext (aRi _) E.drew) zE q5).mono ?_;rintro e w6 ⟨v6,rfl,O6,x6⟩;have y6:Ext w5 w6:=aRo X_ x6;have z6:=y6.size;go_wp2;refine k_ hK (st_ fun K hK=>?_);go_wp2_with fail;refine r_ (aDb _ _ _ _ _ _ s _ (q4.kp (y6.kp (by omega))).R (by omega) O6.R (aRi _)) fun w7 x7=>?_;have y7:Ext w5 w7:=y6.trans x7;have z7:=x7.size;go_wp2;refine k_ hK (st_ fun K hK=>?_);go_wp2;refine k_ hK (aC ?_);clear hK K;replace h0:=hid (h0.kp (y7.kp h0.lt));replace q3:=hid (q3.kp (y7.kp q3.lt));replace q4:=hid (q4.kp (y7.kp (by first|omega|(simp;omega))));replace E:=E.trans y7;clear x6 y6 x7 y7 O6 ps h3 h4 h5 h6 h7 h8 h9 q0 q1 q2 h1 h2 xs q8 q9 x0 x8 x9 z0 z1 z8 z9 y0 q6 q7;have ps:=h0.lt;obtain ⟨h3,h4,h5,h6,h7,h8,h9,q0,q1,q2,h1,h2⟩:=h0.q12;have xs:=q3.lt;obtain ⟨q8,q9,x0,x8,x9,z0,z1,z8,z9,y0,q6,q7⟩:=q3.q12;go_wp2;go_ret;exact ⟨rfl,E⟩
section
open Go.ChangeShapes Go.WideShapes Go.ChangeAt Go.RowKit
section
variable {H : Type} {enc : TypeId × Value -> H} {W : World} {base b0 : Nat} {sp : Nat -> Bool} {held : Bool}
theorem aHm {n:Int} (h:(Lit.int .i64 n).wf=true):I64 n:=by
 simp [Lit.wf,IntKind.min,IntKind.max,IntKind.signed,IntKind.bits] at h;exact ⟨by omega,by omega⟩
theorem aQw {v:Value} {d:DataW H} {p:List MemPlace} (hv:Value.okWide aRn W .any b0 3 v) (h:DataW.Trod enc aRn W base sp held 3 v d p):∃n,v = .int .i64 n/\I64 n:=by
 obtain ⟨n,rfl,_,_,hw⟩:=open_int underlying3 hv h;exact ⟨n,rfl,aHm hw⟩
theorem aFh {fuel:Nat} {c:Value} {y:DataW H×List MemPlace} (h:aVe enc aRn W base sp held fuel 24 [c]=some y):∃xs,aS 0 W.heap.size W c xs:=by
 rcases open_ints underlying24 underlying3 (by kernel_rfl) h with ⟨hcs,_⟩|⟨a,len,cap,zs,hcs,_,hl,hm,hz,_,hcell,hwz⟩
 ·obtain rfl:c = .slice none 0 0:=by simpa using hcs
  exact ⟨[],none,0,rfl,aRi _,by unfold maxLen;omega,fun i x hx=>by simp at hx⟩
 ·obtain rfl:c = .slice (some a) len cap:=by simpa using hcs
  have h1:(zs.take len).length=len:=by
   rw [aR9,hz]
   split <;> omega
  refine ⟨zs.take len,some a,cap,by rw [h1],by omega,hm,fun i x hx=>?_⟩
  have hi:i<len:=by have:=(aRk.1 hx).1;omega
  rw [aTo,if_pos hi] at hx;have h3:=(aRk.1 hx).1
  have h2:zs.getD i 0=x:=by simp [List.getD,hx]
  obtain ⟨b,o,s⟩:=a
  obtain rfl:s=none:=by
   cases s with
   | none=>rfl
   | some s=>
    have h0:=hcell 0 (by omega);simp only [aTi,aVj,if_true] at h0
    split at h0 <;> simp at h0
  have hc:=hcell i h3;rw [h2] at hc
  have ha:(⟨b,o,none⟩:Addr).add i=⟨b,o+i,none⟩:=by
   unfold aVj
   split
   ·rename_i e;subst e;rfl
   ·rfl
  rw [ha] at hc;refine ⟨aHm (hwz x (aR7 hx)),b,o,rfl,aS1 _,?_,hc⟩;simp only [aTi] at hc
  split at hc
  ·rename_i e;exact (aR3.1 e).1
  ·cases hc
end
end
section
open Go.ChangeShapes Go.WideShapes Go.ChangeAt Go.RowKit
def rK (P:Program):Nat->TypeId->Nat->Option TypeId
 | 0,_,_=>none
 | d+1,t,i=>
  match P.underlying t with
  | some (.struct fs)=>
   match fs.toList.find? (fun f=>decide (f.offset<=i)&&decide (i<f.offset+P.cellsOf f.type)) with
   | some f=>
    match rK P d f.type (i - f.offset) with
    | some u=>if (i - f.offset)+P.cellsOf u<=P.cellsOf f.type then some u else none
    | none=>none
   | none=>none
  | some (.array n e)=>
   if i / P.cellsOf e<n then
    match rK P d e (i % P.cellsOf e) with
    | some u=>if (i % P.cellsOf e)+P.cellsOf u<=P.cellsOf e then some u else none
    | none=>none
   else none
  | some _=>if i=0 then some t else none
  | none=>none
section
variable {H : Type} {enc : TypeId × Value -> H} {P : Program} {W : World} {base : Nat} {sp : Nat -> Bool} {held : Bool}
theorem tC {α : Type} (l:List α) (o k i c:Nat) (h1:o<=i) (h2:i - o+c<=k):((((l.drop o).take k).drop (i - o)).take c)=(l.drop i).take c:=by
 rw [List.drop_take,List.take_take,List.drop_drop,aT0 (by omega)]
 congr 2
 omega
theorem aBn (d:Nat):∀{t u:TypeId} {i fuel:Nat} {cs:List Value} {x:DataW H×List MemPlace},rK P d t i=some u->aVe enc P W base sp held fuel t cs=some x ->
  (i=0/\t=u)\/∃(m:Nat) (y:DataW H×List MemPlace),aVe enc P W base sp held m u ((cs.drop i).take (P.cellsOf u))=some y:=by
 induction d with
 | zero=>intro t u i fuel cs x h;simp [rK] at h
 | succ d ih=>
  intro t u i fuel cs x h hx;unfold rK at h
  split at h
  ·rename_i fs h5
   split at h
   ·rename_i f hf
    have hp:=List.find?_some hf;simp only [aRy,decide_eq_true_eq] at hp;have hm:=List.mem_of_find?_eq_some hf
    split at h
    ·rename_i u' hu
     split at h
     ·rename_i h0
      simp only [aRl] at h;subst h;obtain ⟨xs,n,_,_,hl,h4,hg⟩:=DataW.trod_struct h5 hx;obtain ⟨j,hj⟩:=List.getElem?_of_mem hm
      have h6:fs[j]?=some f:=by simpa using hj
      have h1:=hg j f h6
      have h8:j<xs.length:=by rw [h4];exact (aR3.1 h6).1
      rw [aRs h8] at h1;refine .inr ?_
      rcases ih hu h1 with ⟨h2,rfl⟩|⟨m,y,hy⟩
      ·refine ⟨n,xs[j],?_⟩
       have:f.offset=i:=by omega
       rw [<-this];exact h1
      ·rw [tC _ _ _ _ _ hp.1 h0] at hy
       exact ⟨m,y,hy⟩
     ·cases h
    ·cases h
   ·cases h
  ·rename_i n e h5
   split at h
   ·rename_i hn
    split at h
    ·rename_i u' hu
     split at h
     ·rename_i h0
      simp only [aRl] at h;subst h;obtain ⟨xs,m',_,_,hl,h4,hg⟩:=DataW.trod_array h5 hx;have h1:=hg _ hn;rw [aRs (by omega)] at h1;have h7:=Nat.div_add_mod i (P.cellsOf e);rw [aVv] at h7;refine .inr ?_
      rcases ih hu h1 with ⟨h2,rfl⟩|⟨m,y,hy⟩
      ·refine ⟨m',xs[i / P.cellsOf e]'(by omega),?_⟩
       have:i / P.cellsOf e*P.cellsOf e=i:=by omega
       rw [this] at h1;exact h1
      ·have h3:i % P.cellsOf e=i - i / P.cellsOf e*P.cellsOf e:=by omega
       rw [h3] at hy h0;rw [tC _ _ _ _ _ (by omega) h0] at hy;exact ⟨m,y,hy⟩
     ·cases h
    ·cases h
   ·cases h
  ·split at h
   ·rename_i hi
    simp only [aRl] at h;exact .inl ⟨hi,h⟩
   ·cases h
  ·cases h
def tD (P:Program) (t:TypeId) (k:Nat) (ti:TypeId):Bool:=decide (P.cellsOf t=k)&&decide (P.cellsOf ti=1)&&decide (t≠ti)&&(aR6 k).all fun i=>decide (rK P 6 t i=some ti)
theorem aKf {t ti:TypeId} {k fuel:Nat} {cs:List Value} {x:DataW H×List MemPlace} (hi:P.underlying ti=some (.int .i64)) (ho:tD P t k ti=true) (h:aVe enc P W base sp held fuel t cs=some x) :
  ∀i,i<k->∃n,cs[i]?=some (.int .i64 n)/\I64 n:=by
 intro i h0;simp only [tD,aRy,decide_eq_true_eq,List.all_eq_true,aSq] at ho;obtain ⟨⟨⟨h1,h2⟩,h3⟩,h4⟩:=ho
 rcases aBn 6 (h4 i h0) h with ⟨_,e⟩|⟨m,y,hy⟩
 ·exact absurd e h3
 ·rw [h2] at hy
  obtain ⟨n,e0,_,hw⟩:=DataW.trod_int hi hy;refine ⟨n,?_,?_⟩
  ·have:((cs.drop i).take 1)[0]?=some (.int .i64 n):=by rw [e0];rfl
   rw [aTo,if_pos (by decide),List.getElem?_drop] at this;exact this
  ·simp [Lit.wf,IntKind.min,IntKind.max,IntKind.signed,IntKind.bits] at hw
   exact ⟨by omega,by omega⟩
theorem aKg {t e ti:TypeId} {k fuel:Nat} {c:Value} {y:DataW H×List MemPlace} (ht:P.underlying t=some (.slice e)) (hi:P.underlying ti=some (.int .i64)) (ho:tD P e k ti=true) (hk:0<k)
  (h:aVe enc P W base sp held fuel t [c]=some y):∃n f,dH k 0 W.heap.size W c n f:=by
 have hC:P.cellsOf e=k:=by
  simp only [tD,aRy,decide_eq_true_eq] at ho;exact ho.1.1.1
 rcases aXf ht h with ⟨h0,_⟩|⟨a,len,cap,m,n,D,Pl,hcs,hb,hl,hm,hmm,hx,hel⟩
 ·obtain rfl:c = .slice none 0 0:=by simpa using h0
  exact ⟨0,fun _=>0,none,0,rfl,aRi _,by unfold maxLen;omega,fun i hx=>by omega⟩
 ·obtain rfl:c = .slice (some a) len cap:=by simpa using hcs
  have q1:len<=m:=by rw [hmm];split <;> omega
  rw [hC] at hel
  have h9:∀i,i<len*k->∃x,I64 x/\W.cell? (a.add (i / k*k) |>.add (i % k))=some (.int .i64 x):=by
   intro i h3;have h1:i / k<len:=(Nat.div_lt_iff_lt_mul hk).2 h3;obtain ⟨cs',hc,h6⟩:=hel (i / k) (by omega);obtain ⟨x,h7,h8⟩:=aKf hi ho h6 (i % k) (aT4 _ hk);obtain ⟨_,q0,h5⟩:=aX1 hc;exact ⟨x,h8,(h5 _ (aT4 _ hk)).trans h7⟩
  have h4:∀i,∃x,i<len*k->I64 x/\W.cell? (a.add i)=some (.int .i64 x):=by
   intro i
   by_cases h3:i<len*k
   ·obtain ⟨x,h1,h2⟩:=h9 i h3
    rw [aUx] at h2
    have:i / k*k+i % k=i:=by have:=Nat.div_add_mod i k;rw [aVv] at this;omega
    rw [this] at h2;exact ⟨x,fun _=>⟨h1,h2⟩⟩
   ·exact ⟨0,fun h=>absurd h h3⟩
  obtain ⟨f,hf⟩:=aV3 h4;refine ⟨len,f,some a,cap,rfl,hl,hm,fun i h3=>⟨(hf i h3).1,?_⟩⟩;have h0:=(hf 0 (by omega)).2;obtain ⟨b,o,s⟩:=a
  obtain rfl:s=none:=by
   cases s with
   | none=>rfl
   | some s=>
    simp only [aTi,aVj,if_true] at h0
    split at h0 <;> simp at h0
  have hc:=(hf i h3).2
  have ha:(⟨b,o,none⟩:Addr).add i=⟨b,o+i,none⟩:=by
   unfold aVj
   split
   ·rename_i e;subst e;rfl
   ·rfl
  rw [ha] at hc;refine ⟨b,o,rfl,aS1 _,?_,hc⟩;simp only [aTi] at hc
  split at hc
  ·rename_i e;exact (aR3.1 e).1
  ·cases hc
end
end
section
open Go.ChangeShapes Go.WideShapes Go.ChangeAt Go.RowKit
section
variable {H : Type} {enc : TypeId × Value -> H} {P : Program} {W : World} {base b0 : Nat} {sp : Nat -> Bool} {held : Bool}
theorem bU {t u:TypeId} {i fuel:Nat} {cs:List Value} {x:DataW H×List MemPlace} (hl:(rK P 6 t i==some u&&decide (t≠u)&&decide (P.cellsOf u=1))=true) (h:aVe enc P W base sp held fuel t cs=some x) (hi:i<cs.length) :
  ∃c m y,cs[i]?=some c/\aVe enc P W base sp held m u [c]=some y:=by
 simp only [aRy,beq_iff_eq,decide_eq_true_eq] at hl;obtain ⟨⟨h1,h2⟩,h3⟩:=hl
 rcases aBn 6 h1 h with ⟨_,e⟩|⟨m,y,hy⟩
 ·exact absurd e h2
 ·rw [h3,List.drop_eq_getElem_cons hi] at hy
  exact ⟨cs[i],m,y,by simp [hi],hy⟩
theorem eX {t:TypeId} {fuel:Nat} {c:Value} {y:DataW H×List MemPlace} (ht:P.underlying t=some (.int .i64)) (h:aVe enc P W base sp held fuel t [c]=some y):∃n,c = .int .i64 n/\I64 n:=by
 obtain ⟨k,e0,_,hw⟩:=DataW.trod_int ht h;exact ⟨k,by simpa using e0,aHm hw⟩
theorem aBo {t:TypeId} {fuel:Nat} {c:Value} {y:DataW H×List MemPlace} (ht:P.underlying t=some .string) (h:aVe enc P W base sp held fuel t [c]=some y):∃s,c = .string s/\s.size<=maxLen:=by
 obtain ⟨s,e0,_,hw⟩:=DataW.trod_string ht h;exact ⟨s,by simpa using e0,hw⟩
end
section
variable {H : Type} {enc : TypeId × Value -> H} {W : World} {base b0 : Nat} {sp : Nat -> Bool} {held : Bool}
theorem aN4 {fuel:Nat} {c:Value} {y:DataW H×List MemPlace} (h:aVe enc aRn W base sp held fuel 110 [c]=some y):∃xs,Nds 0 W.heap.size W c xs/\∀x∈xs,x.name.size<=maxLen:=by
 rcases aXf underlying110 h with ⟨hcs,_⟩|⟨a,len,cap,m,n,D,Pl,hcs,_,hl,hm,hmm,_,hel⟩
 ·obtain rfl:c = .slice none 0 0:=by simpa using hcs
  exact ⟨[],⟨none,0,rfl,aRi _,by unfold maxLen;omega,fun i x hx=>by simp at hx⟩,fun s hs=>by cases hs⟩
 ·obtain rfl:c = .slice (some a) len cap:=by simpa using hcs
  have h6:len<=m:=by rw [hmm];split <;> omega
  have hC:Tryz.prog.cellsOf 237=4:=by kernel_rfl
  rw [hC] at hel
  have h3:∀i,∃x:Nd,i<len->(I64 x.op/\I64 x.num/\x.name.size<=maxLen)/\W.cell? (a.add (i*4))=some (.int .i64 x.op)/\W.cell? (a.add (i*4+1))=some (.string x.name)/\W.cell? (a.add (i*4+2))=some (.int .i64 x.num)/\∃u,W.cell? (a.add (i*4+3))=some u/\aS 0 W.heap.size W u x.args:=by
   intro i
   by_cases h4:i<len
   ·obtain ⟨cs',hc,h2⟩:=hel i (by omega)
    obtain ⟨_,h5,h1⟩:=aX1 hc;obtain ⟨c0,m0,y0,e0,t0⟩:=bU (i:=0) (u:=3) (by kernel_rfl) h2 (by omega);obtain ⟨c1,m1,y1,e1,t1⟩:=bU (i:=1) (u:=9) (by kernel_rfl) h2 (by omega);obtain ⟨c2,m2,y2,e2,t2⟩:=bU (i:=2) (u:=3) (by kernel_rfl) h2 (by omega);obtain ⟨c3,m3,y3,e3,t3⟩:=bU (i:=3) (u:=24) (by kernel_rfl) h2 (by omega);obtain ⟨px,hx⟩:=aFh t3;obtain ⟨n0,rfl,i0⟩:=eX underlying3 t0;obtain ⟨s,rfl,i1⟩:=aBo underlying9 t1;obtain ⟨n2,rfl,i2⟩:=eX underlying3 t2;refine ⟨⟨n0,s,n2,px⟩,fun _=>⟨⟨i0,i2,i1⟩,?_,?_,?_,c3,?_,hx⟩⟩
    ·have:=h1 0 (by omega);rw [aUx] at this;exact this.trans e0
    ·have:=h1 1 (by omega);rw [aUx] at this;exact this.trans e1
    ·have:=h1 2 (by omega);rw [aUx] at this;exact this.trans e2
    ·have:=h1 3 (by omega);rw [aUx] at this;exact this.trans e3
   ·exact ⟨⟨0,⟨#[]⟩,0,[]⟩,fun h=>absurd h h4⟩
  obtain ⟨f,hf⟩:=aV3 h3;refine ⟨(aR6 len).map f,⟨some a,cap,by simp,by simpa using hl,hm,fun i x hx=>?_⟩,fun s hs=>?_⟩
  ·have hi:i<len:=by have:=(aRk.1 hx).1;simpa using this
   obtain rfl:f i=x:=by simpa [hi] using hx
   obtain ⟨⟨i0,i2,_⟩,g0,g1,g2,u,g3,hu⟩:=hf i hi;refine ⟨⟨i0,i2⟩,?_⟩;have h0:=(hf 0 (by omega)).2.1;clear hf hel h3;obtain ⟨b,o,s⟩:=a
   obtain rfl:s=none:=by
    cases s with
    | none=>rfl
    | some s=>
     simp only [aTi,aVj,aWb,if_true] at h0
     split at h0 <;> simp at h0
   have ha:∀k,(⟨b,o,none⟩:Addr).add k=⟨b,o+k,none⟩:=by
    intro k;unfold aVj
    split
    ·rename_i e;subst e;rfl
    ·rfl
   rw [ha] at g0 g1 g2 g3;refine ⟨b,o,u,rfl,aS1 _,?_,g0,by rw [aTa];exact g1,by rw [aTa];exact g2,by rw [aTa];exact g3,hu⟩;simp only [aTi] at g0
   split at g0
   ·rename_i e;exact (aR3.1 e).1
   ·cases g0
  ·obtain ⟨i,hi,rfl⟩:=aTl.1 hs
   exact (hf i (aSq.1 hi)).1.2.2
theorem aMc {fuel:Nat} {c:Value} {y:DataW H×List MemPlace} (h:aVe enc aRn W base sp held fuel 111 [c]=some y):∃xs,nQ 0 W.heap.size W c xs/\∀x∈xs,x.name.size<=maxLen:=by
 rcases aXf underlying111 h with ⟨hcs,_⟩|⟨a,len,cap,m,n,D,Pl,hcs,_,hl,hm,hmm,_,hel⟩
 ·obtain rfl:c = .slice none 0 0:=by simpa using hcs
  exact ⟨[],⟨none,0,rfl,aRi _,by unfold maxLen;omega,fun i x hx=>by simp at hx⟩,fun s hs=>by cases hs⟩
 ·obtain rfl:c = .slice (some a) len cap:=by simpa using hcs
  have h6:len<=m:=by rw [hmm];split <;> omega
  have hC:Tryz.prog.cellsOf 239=2:=by kernel_rfl
  rw [hC] at hel
  have h3:∀i,∃x:Asg,i<len->(I64 x.root/\x.name.size<=maxLen)/\W.cell? (a.add (i*2))=some (.string x.name)/\W.cell? (a.add (i*2+1))=some (.int .i64 x.root):=by
   intro i
   by_cases h4:i<len
   ·obtain ⟨cs',hc,h2⟩:=hel i (by omega)
    obtain ⟨_,h5,h1⟩:=aX1 hc;obtain ⟨c0,m0,y0,e0,t0⟩:=bU (i:=0) (u:=9) (by kernel_rfl) h2 (by omega);obtain ⟨c1,m1,y1,e1,t1⟩:=bU (i:=1) (u:=3) (by kernel_rfl) h2 (by omega);obtain ⟨s,rfl,i0⟩:=aBo underlying9 t0;obtain ⟨n1,rfl,i1⟩:=eX underlying3 t1;refine ⟨⟨s,n1⟩,fun _=>⟨⟨i1,i0⟩,?_,?_⟩⟩
    ·have:=h1 0 (by omega);rw [aUx] at this;exact this.trans e0
    ·have:=h1 1 (by omega);rw [aUx] at this;exact this.trans e1
   ·exact ⟨⟨⟨#[]⟩,0⟩,fun h=>absurd h h4⟩
  obtain ⟨f,hf⟩:=aV3 h3;refine ⟨(aR6 len).map f,⟨some a,cap,by simp,by simpa using hl,hm,fun i x hx=>?_⟩,fun s hs=>?_⟩
  ·have hi:i<len:=by have:=(aRk.1 hx).1;simpa using this
   obtain rfl:f i=x:=by simpa [hi] using hx
   obtain ⟨⟨i0,_⟩,g0,g1⟩:=hf i hi;refine ⟨i0,?_⟩;have h0:=(hf 0 (by omega)).2.1;clear hf hel h3;obtain ⟨b,o,s⟩:=a
   obtain rfl:s=none:=by
    cases s with
    | none=>rfl
    | some s=>
     simp only [aTi,aVj,aWb,if_true] at h0
     split at h0 <;> simp at h0
   have ha:∀k,(⟨b,o,none⟩:Addr).add k=⟨b,o+k,none⟩:=by
    intro k;unfold aVj
    split
    ·rename_i e;subst e;rfl
    ·rfl
   rw [ha] at g0 g1;refine ⟨b,o,rfl,aS1 _,?_,g0,by rw [aTa];exact g1⟩;simp only [aTi] at g0
   split at g0
   ·rename_i e;exact (aR3.1 e).1
   ·cases g0
  ·obtain ⟨i,hi,rfl⟩:=aTl.1 hs
   exact (hf i (aSq.1 hi)).1.2
end
end
section
open Go.ChangeShapes Go.WideShapes Go.ChangeAt Go.RowKit
section
variable {H : Type} {enc : TypeId × Value -> H} {P : Program} {W : World} {base b0 : Nat} {sp : Nat -> Bool} {held : Bool}
theorem aHn {t:TypeId} {fuel:Nat} {c:Value} {y:DataW H×List MemPlace} (ht:P.underlying t=some .bool) (h:aVe enc P W base sp held fuel t [c]=some y):∃b,c = .bool b:=by
 obtain ⟨b,e0,_⟩:=DataW.trod_bool ht h;exact ⟨b,by simpa using e0⟩
end
section
variable {H : Type} {enc : TypeId × Value -> H} {W : World} {base b0 : Nat} {sp : Nat -> Bool} {held : Bool}
theorem aMd {fuel:Nat} {c:Value} {y:DataW H×List MemPlace} (h:aVe enc aRn W base sp held fuel 27 [c]=some y):∃ps,gU 0 W.heap.size W c ps/\∀p∈ps,p.bd:=by
 rcases aXf underlying27 h with ⟨hcs,_⟩|⟨a,len,cap,m,n,D,Pl,hcs,_,hl,hm,hmm,_,hel⟩
 ·obtain rfl:c = .slice none 0 0:=by simpa using hcs
  exact ⟨[],⟨none,0,rfl,aRi _,by unfold maxLen;omega,fun i x hx=>by simp at hx⟩,fun s hs=>by cases hs⟩
 ·obtain rfl:c = .slice (some a) len cap:=by simpa using hcs
  have h7:len<=m:=by rw [hmm];split <;> omega
  have hC:Tryz.prog.cellsOf 113=2:=by kernel_rfl
  rw [hC] at hel
  have h3:∀i,∃x:Prg,i<len->x.bd/\∃u1 u2,W.cell? (a.add (i*2))=some u1/\W.cell? (a.add (i*2+1))=some u2/\x.R 0 W.heap.size W (.agg #[u1,u2]):=by
   intro i
   by_cases h4:i<len
   ·obtain ⟨cs',hc,h2⟩:=hel i (by omega)
    obtain ⟨_,h6,h1⟩:=aX1 hc;obtain ⟨c0,m0,y0,e0,t0⟩:=bU (i:=0) (u:=110) (by kernel_rfl) h2 (by omega);obtain ⟨c1,m1,y1,e1,t1⟩:=bU (i:=1) (u:=111) (by kernel_rfl) h2 (by omega);obtain ⟨xs,hx,bx⟩:=aN4 t0;obtain ⟨ls,h5,bl⟩:=aMc t1;refine ⟨⟨xs,ls⟩,fun _=>⟨⟨bx,bl⟩,c0,c1,?_,?_,_,_,rfl,hx,h5⟩⟩
    ·have:=h1 0 (by omega);rw [aUx] at this;exact this.trans e0
    ·have:=h1 1 (by omega);rw [aUx] at this;exact this.trans e1
   ·exact ⟨⟨[],[]⟩,fun h=>absurd h h4⟩
  obtain ⟨f,hf⟩:=aV3 h3;refine ⟨(aR6 len).map f,⟨some a,cap,by simp,by simpa using hl,hm,fun i x hx=>?_⟩,fun s hs=>?_⟩
  ·have hi:i<len:=by have:=(aRk.1 hx).1;simpa using this
   obtain rfl:f i=x:=by simpa [hi] using hx
   obtain ⟨_,u1,u2,g0,g1,hR⟩:=hf i hi;obtain ⟨_,v1,v2,h0,_⟩:=hf 0 (by omega);clear hf hel h3;obtain ⟨b,o,s⟩:=a
   obtain rfl:s=none:=by
    cases s with
    | none=>rfl
    | some s=>
     simp only [aTi,aVj,aWb,if_true] at h0
     split at h0 <;> simp at h0
   have ha:∀k,(⟨b,o,none⟩:Addr).add k=⟨b,o+k,none⟩:=by
    intro k;unfold aVj
    split
    ·rename_i e;subst e;rfl
    ·rfl
   rw [ha] at g0 g1;refine ⟨b,o,u1,u2,rfl,aS1 _,?_,g0,by rw [aTa];exact g1,hR⟩;simp only [aTi] at g0
   split at g0
   ·rename_i e;exact (aR3.1 e).1
   ·cases g0
  ·obtain ⟨i,hi,rfl⟩:=aTl.1 hs
   exact (hf i (aSq.1 hi)).1
theorem aQx {v:Value} {d:DataW H} {p:List MemPlace} (hv:Value.okWide aRn W .any b0 30 v) (h:DataW.Trod enc aRn W base sp held 30 v d p) :
  ∃s:Scn,s.R 0 W.heap.size W v/\s.bd:=by
 obtain ⟨cs,rfl,h0⟩:=okWide_struct underlying30 hv
 have hC:Tryz.prog.cellsOf 30=12:=by kernel_rfl
 rw [hC] at h0;obtain ⟨fuel,hf⟩:=h
 have h6:(Value.agg cs).cells.toList.length=12:=by simp [Value.cells,h0]
 obtain ⟨c0,m0,y0,e0,t0⟩:=bU (i:=0) (u:=3) (by kernel_rfl) hf (by omega);obtain ⟨c1,m1,y1,e1,t1⟩:=bU (i:=1) (u:=3) (by kernel_rfl) hf (by omega);obtain ⟨c2,m2,y2,e2,t2⟩:=bU (i:=2) (u:=3) (by kernel_rfl) hf (by omega);obtain ⟨c3,m3,y3,e3,t3⟩:=bU (i:=3) (u:=3) (by kernel_rfl) hf (by omega);obtain ⟨c4,m4,y4,e4,t4⟩:=bU (i:=4) (u:=4) (by kernel_rfl) hf (by omega);obtain ⟨c5,m5,y5,e5,t5⟩:=bU (i:=5) (u:=3) (by kernel_rfl) hf (by omega);obtain ⟨c6,m6,y6,e6,t6⟩:=bU (i:=6) (u:=3) (by kernel_rfl) hf (by omega);obtain ⟨c7,m7,y7,e7,t7⟩:=bU (i:=7) (u:=3) (by kernel_rfl) hf (by omega);obtain ⟨c8,m8,y8,e8,t8⟩:=bU (i:=8) (u:=24) (by kernel_rfl) hf (by omega);obtain ⟨c9,m9,y9,e9,t9⟩:=bU (i:=9) (u:=27) (by kernel_rfl) hf (by omega);obtain ⟨h1,q2,q4,h2,h9⟩:=bU (i:=10) (u:=28) (by kernel_rfl) hf (by omega);obtain ⟨q1,q3,q5,h3,q0⟩:=bU (i:=11) (u:=3) (by kernel_rfl) hf (by omega);obtain ⟨k0,rfl,i0⟩:=eX underlying3 t0;obtain ⟨k1,rfl,i1⟩:=eX underlying3 t1;obtain ⟨k2,rfl,i2⟩:=eX underlying3 t2;obtain ⟨k3,rfl,i3⟩:=eX underlying3 t3;obtain ⟨k4,rfl⟩:=aHn underlying4 t4;obtain ⟨k5,rfl,i5⟩:=eX underlying3 t5;obtain ⟨k6,rfl,i6⟩:=eX underlying3 t6;obtain ⟨k7,rfl,i7⟩:=eX underlying3 t7;obtain ⟨px,hx⟩:=aFh t8;obtain ⟨ps,h7,h5⟩:=aMd t9;obtain ⟨n,f,hp⟩:=aKg (k:=26) (e:=134) underlying28 underlying3 (by kernel_rfl) (by omega) h9;obtain ⟨h4,rfl,h8⟩:=eX underlying3 q0
 have e:cs=#[(k0:Value),k1,k2,k3,.bool k4,k5,k6,k7,c8,c9,h1,h4]:=by
  apply Array.ext_getElem?;intro i;simp only [Value.cells,Array.getElem?_toList] at e0 e1 e2 e3 e4 e5 e6 e7 e8 e9 h2 h3
  match i with
  | 0=>simpa using e0
  | 1=>simpa using e1
  | 2=>simpa using e2
  | 3=>simpa using e3
  | 4=>simpa using e4
  | 5=>simpa using e5
  | 6=>simpa using e6
  | 7=>simpa using e7
  | 8=>simpa using e8
  | 9=>simpa using e9
  | 10=>simpa using h2
  | 11=>simpa using h3
  | i+12=>simp [h0]
 subst e;exact ⟨⟨⟨k0,k1,k2,k3,k4,k5,k6⟩,⟨k7,px⟩,ps,n,f,h4⟩,⟨c8,c9,h1,rfl,⟨i0,i1,i2,i3,i5,i6⟩,i7,h8,hx,h7,hp⟩,h5⟩
end
end
section
namespace fnExactPixelColor
open Go.ChangeShapes Go.WideShapes Go.ChangeAt Go.RowKit
theorem xO:Tryz.pinned.checked.prog.funcNamed Rows.fnExactPixelColorRow.func=some 4:=by kernel_rfl
end fnExactPixelColor
end
end Go.Proofs.YthgpegkmjeigmaaGreat
