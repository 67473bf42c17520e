/- Texts of this claim, one behind another; what its theorem does not use is left out: Rs1, Rs2, Gd5, Rs3, Sc6, Dw8, Rs4, Rs5, Rs6, Rs7, Ss1, Tg7, Tg1, Tg2, Tg3, Tg4, Tg8, Tg6, Tg5, Tg9, Oc1, Oc2, Oc3, Oc4, Oc5, Oc6, Tp1, Lw1, FgH, Tp3, Tp5, Shp, Mk1. -/
import Derived.Test.YthgpegkmjeigmaaGreatP32W4
import Derived.Test.YthgpegkmjeigmaaGreatP32W1
import Derived.Test.YthgpegkmjeigmaaGreatP32W2
import Derived.Deep.CutBlock
import Derived.Test.YthgpegkmjeigmaaGreatP32W3
set_option linter.unusedSimpArgs false
set_option linter.unusedVariables false
set_option maxRecDepth 100000
set_option maxHeartbeats 12800000
namespace Go.Proofs.YthgpegkmjeigmaaGreat
open Go.RowKit
open Go.Proofs.Tryz
open _root_.Go.Act renaming put→aSj
variable {a d i lx ly r x y z:Int} {vs:List Value} {Q b c h hi j k lo n o sz:Nat} {f:Nat→Int} {e:TypeId} {av cv u v:Value} {w w':World}
open _root_.Bool renaming and_eq_true→aRd
open _root_.Go.Addr.mk renaming injEq→aR1
open _root_.Go.Obj.cells renaming injEq→aR8
open _root_.Go.Proofs.Tryz renaming prog→aQ2
open _root_.Go.Proofs.YthgpegkmjeigmaaGreat.Blk renaming new→aQ8
open _root_.Go.Proofs.YthgpegkmjeigmaaGreat.Ext renaming trans→aQ3,setCell→aRf,grown→aR7,block→aRa,alloc→aXi,drew→aRz,refl→aQ6
open _root_.Go.Proofs.YthgpegkmjeigmaaGreat.V3 renaming scr→aSn
open _root_.Go.RowKit.Below renaming heap_setCell→aQ7
open _root_.Go.Value renaming ownBlock→aRu,slice→aR9
open _root_.Go.Value.slice renaming injEq→aRo
open _root_.Go.World renaming size_alloc→aQy,size_setCell→aSg,ownsRow→aYq,frozen?_setCell→aSs,cell?_setCell_other→aSl,cell?_setCell_same→aUh
open _root_.Int renaming lt_or_le→aX1,toNat_natCast→aRr,tdiv_eq_ediv_of_nonneg→aTb,natCast_add→aS6,natCast_mul→aUb
open _root_.List renaming range→aRl,range_succ→aS9,map_append→aS8,map_singleton→aVl,getElem?_eq_some_iff→aQz,getElem?_eq_getElem→aQ9,nil_append→aSu,filterMap_cons→aRm,filterMap_nil→aRg,getElem?_toArray→aQ1,getElem?_cons_zero→aQw,getElem?_cons_succ→aQx,setIfInBounds_toArray→aQ4,set_cons_succ→aRc,set_cons_zero→aRb,getElem_toArray→aV2,getElem_cons_succ→aUs,getElem_cons_zero→aUt,getElem_of_mem→aRw,getElem_mem→aRh,all_eq_false→aT4,all_eq_true→aR5,length_map→aSh,length_range→aUo,getElem_map→aVf,getElem_range→aUe,mem_range→aR4,mem_cons→aRk,not_mem_nil→aRe,flatMap_append→aSa,length_append→aRq,take_length→aR2,length_take→aRp,append_assoc→aRx,mem_singleton→aTy,flatMap_singleton→aUr,getD_eq_getElem?_getD→aRs,append_nil→aTo,take_append_drop→aU3,length_drop→aTu,singleton_append→aXc
open _root_.Nat renaming zero_add→aRt,mul_one→aUv,add_comm→aY5,add_mul_mod_self_right→aYd,mod_eq_of_lt→aUx,add_mul_div_right→aZm,div_eq_of_lt→aXg,mul_le_mul→aRy,le_refl→aQv,zero_mul→aVo,succ_mul→aW2,div_lt_of_lt_mul→aTg,lt_or_ge→aSd,lt_of_lt_of_le→aSf,le_trans→aQ5,le_of_lt→aT5,add_assoc→aSp,add_zero→aSk,min_eq_left→aTi
open _root_.Option.some renaming injEq→aQ0,inj→aSx
theorem aJk (r:Int) (w:World):R_ 138 #[r] w (.bool (uL r)):=by
 unfold uL;go_enter func138,ntmps138;go_wp2
 all_goals
  go_ret;exact ⟨by first|rfl|simp [*],X_⟩
theorem gX (f:Nat->Int) (w:World):R_ 137 #[.agg f] w (.bool (qX f)):=by
 have j0:=pJ f 0 (by decide);have j1:=pJ f 1 (by decide);have j2:=pJ f 2 (by decide);have j3:=pJ f 3 (by decide);simp only [Nat.mul_zero,aRt,aUv,Nat.reduceAdd,Nat.reduceMul,Int.cast_ofNat_Int] at j0 j1 j2 j3;have X0:Ext w (w.alloc (.cells f 125)):=X_;go_enter func137,ntmps137;go_wp2_with fail
 obtain ⟨W0,h0⟩:=e_ (w.alloc (.cells f 125))
 rw [h0] at X0 ⊢;clear h0
 go_loopw [7] (fun i wr=>∃k:Nat,k<=4/\i = .int .i64 (k:Nat)/\Ext w wr/\(0<k->cU (f 0) (f 1) (f 2)=true)/\(1<k->cU (f 3) (f 4) (f 5)=true)/\(2<k->cU (f 6) (f 7) (f 8)=true)/\(3<k->cU (f 9) (f 10) (f 11)=true)) (fun i _=>4 - (intOf i).toNat)
 case atStart=>exact ⟨0,by omega,rfl,X0,by omega,by omega,by omega,by omega⟩
 case round=>
  obtain ⟨k,hk,rfl,hx,b0,b1,b2,b3⟩:=hrel;have HX:=hid hx;have B0:=hid b0;have B1:=hid b1;have B2:=hid b2;have B3:=hid b3;clear hx b0 b1 b2 b3 X0
  rcases (show k=0\/k=1\/k=2\/k=3\/k=4 by omega) with rfl|rfl|rfl|rfl|rfl
  ·go_wp2_with fail
   refine r_ (dN _) fun w3 x3=>?_;have y3:Ext wr w3:=aQ3 (show Ext wr (wr.alloc (.cells #[(f 0),(f 1),(f 2)] 122)) from X_) x3
   cases hb:cU (f 0) (f 1) (f 2)
   ·go_wp2
    go_ret;exact ⟨by rw [eG,hb];simp,HX.trans y3⟩
   ·have HB:=hid hb
    clear hb;go_wp2;go_roundw
    case rel=>exact ⟨1,by omega,by go_num,HX.trans y3,fun _=>HB.out,fun h=>absurd h (by omega),fun h=>absurd h (by omega),fun h=>absurd h (by omega)⟩
    case measure=>simp [intOf]
  ·go_wp2_with fail
   refine r_ (dN _) fun w3 x3=>?_;have y3:Ext wr w3:=aQ3 (show Ext wr (wr.alloc (.cells #[(f 3),(f 4),(f 5)] 122)) from X_) x3
   cases hb:cU (f 3) (f 4) (f 5)
   ·go_wp2
    go_ret;exact ⟨by rw [eG,hb];simp,HX.trans y3⟩
   ·have HB:=hid hb
    clear hb;go_wp2;go_roundw
    case rel=>exact ⟨2,by omega,by go_num,HX.trans y3,fun h=>B0.out (by omega),fun _=>HB.out,fun h=>absurd h (by omega),fun h=>absurd h (by omega)⟩
    case measure=>simp [intOf]
  ·go_wp2_with fail
   refine r_ (dN _) fun w3 x3=>?_;have y3:Ext wr w3:=aQ3 (show Ext wr (wr.alloc (.cells #[(f 6),(f 7),(f 8)] 122)) from X_) x3
   cases hb:cU (f 6) (f 7) (f 8)
   ·go_wp2
    go_ret;exact ⟨by rw [eG,hb];simp,HX.trans y3⟩
   ·have HB:=hid hb
    clear hb;go_wp2;go_roundw
    case rel=>exact ⟨3,by omega,by go_num,HX.trans y3,fun h=>B0.out (by omega),fun h=>B1.out (by omega),fun _=>HB.out,fun h=>absurd h (by omega)⟩
    case measure=>simp [intOf]
  ·go_wp2_with fail
   refine r_ (dN _) fun w3 x3=>?_;have y3:Ext wr w3:=aQ3 (show Ext wr (wr.alloc (.cells #[(f 9),(f 10),(f 11)] 122)) from X_) x3
   cases hb:cU (f 9) (f 10) (f 11)
   ·go_wp2
    go_ret;exact ⟨by rw [eG,hb];simp,HX.trans y3⟩
   ·have HB:=hid hb
    clear hb;go_wp2;go_roundw
    case rel=>exact ⟨4,by omega,by go_num,HX.trans y3,fun h=>B0.out (by omega),fun h=>B1.out (by omega),fun h=>B2.out (by omega),fun _=>HB.out⟩
    case measure=>simp [intOf]
  ·go_wp2
   go_ret;exact ⟨by rw [eG,B0 (by omega),B1 (by omega),B2 (by omega),B3 (by omega)];rfl,HX⟩
theorem pO (f g:Nat->Int) (sh rt:Int) (n:Nat) (w:World):R_ 86 #[.agg #[(f 0),(f 1),(f 2),(f 3),(f 4),(f 5),(f 6),(f 7),(f 8),(f 9),(f 10),(f 11),(g 0),(g 1),(g 2),(g 3),(g 4),(g 5),(g 6),(g 7),(g 8),(g 9),(g 10),(g 11),sh,rt],(n:Nat)] w (.bool (aM5 f g sh rt n)):=by
 have q0:=aQ8 w 127 [(f 0),(f 1),(f 2),(f 3),(f 4),(f 5),(f 6),(f 7),(f 8),(f 9),(f 10),(f 11),(g 0),(g 1),(g 2),(g 3),(g 4),(g 5),(g 6),(g 7),(g 8),(g 9),(g 10),(g 11),sh,rt];have R0:=hid q0;have X0:=hid (show Ext w (w.alloc (.cells #[(f 0),(f 1),(f 2),(f 3),(f 4),(f 5),(f 6),(f 7),(f 8),(f 9),(f 10),(f 11),(g 0),(g 1),(g 2),(g 3),(g 4),(g 5),(g 6),(g 7),(g 8),(g 9),(g 10),(g 11),sh,rt] 127)) from X_);clear q0
 obtain ⟨b1,q5⟩:=e_ (qX f)
 obtain ⟨b2,q6⟩:=e_ (qX g)
 obtain ⟨b3,q7⟩:=e_ (uL rt)
 have C1:∀W:World,R_ 137 #[.agg f] W (.bool b1):=fun W=>q5▸gX f W;have C2:∀W:World,R_ 137 #[.agg g] W (.bool b2):=fun W=>q6▸gX g W;have C3:∀W:World,R_ 138 #[rt] W (.bool b3):=fun W=>q7▸aJk rt W;have H1:=hid C1;have H2:=hid C2;have H3:=hid C3;unfold aM5;rw [q5,q6,q7];clear q5 q6 q7 C1 C2 C3
 cases b1
 case false=>
  go_enter func86,ntmps86;go_wp2_with fail;refine r_ (H1 _) fun w1 x1=>?_;have X1:=hid (X0.trans x1);have R1:=hid (R0.ext x1);clear x1;go_wp2;go_ret;exact ⟨by simp [*],X1⟩
 case true=>
  cases b2
  case false=>
   go_enter func86,ntmps86;go_wp2_with fail;refine r_ (H1 _) fun w1 x1=>?_;have X1:=hid (X0.trans x1);have R1:=hid (R0.ext x1);clear x1;have h2:=R1.cell 12 rfl;have h3:=R1.cell 13 rfl;have h4:=R1.cell 14 rfl;have h5:=R1.cell 15 rfl;have h6:=R1.cell 16 rfl;have h7:=R1.cell 17 rfl;have h8:=R1.cell 18 rfl;have h9:=R1.cell 19 rfl;have q1:=R1.cell 20 rfl;have q2:=R1.cell 21 rfl;have q3:=R1.cell 22 rfl;have q4:=R1.cell 23 rfl;go_wp2_with fail;refine r_ (H2 _) fun w2 x2=>?_;have X2:=hid (X1.trans x2);have R2:=hid (R1.ext x2);clear x2;go_wp2;go_ret;exact ⟨by simp [*],X2⟩
  case true=>
   rcases aX1 sh 0 with h0|h0
   ·have g0:decide (0<=sh)=false:=by simp;omega
    go_enter func86,ntmps86;go_wp2_with fail;refine r_ (H1 _) fun w1 x1=>?_;have X1:=hid (X0.trans x1);have R1:=hid (R0.ext x1);clear x1;have h2:=R1.cell 12 rfl;have h3:=R1.cell 13 rfl;have h4:=R1.cell 14 rfl;have h5:=R1.cell 15 rfl;have h6:=R1.cell 16 rfl;have h7:=R1.cell 17 rfl;have h8:=R1.cell 18 rfl;have h9:=R1.cell 19 rfl;have q1:=R1.cell 20 rfl;have q2:=R1.cell 21 rfl;have q3:=R1.cell 22 rfl;have q4:=R1.cell 23 rfl;go_wp2_with fail;refine r_ (H2 _) fun w2 x2=>?_;have X2:=hid (X1.trans x2);have R2:=hid (R1.ext x2);clear x2;have q8:=R2.cell 24 rfl;go_wp2;go_ret;exact ⟨by simp [*],X2⟩
   ·have g0:decide (0<=sh)=true:=by simp;omega
    rcases aX1 sh n with h1|h1
    ·have g1:decide (sh<(n:Int))=true:=by simp;omega
     go_enter func86,ntmps86;go_wp2_with fail;refine r_ (H1 _) fun w1 x1=>?_;have X1:=hid (X0.trans x1);have R1:=hid (R0.ext x1);clear x1;have h2:=R1.cell 12 rfl;have h3:=R1.cell 13 rfl;have h4:=R1.cell 14 rfl;have h5:=R1.cell 15 rfl;have h6:=R1.cell 16 rfl;have h7:=R1.cell 17 rfl;have h8:=R1.cell 18 rfl;have h9:=R1.cell 19 rfl;have q1:=R1.cell 20 rfl;have q2:=R1.cell 21 rfl;have q3:=R1.cell 22 rfl;have q4:=R1.cell 23 rfl;go_wp2_with fail;refine r_ (H2 _) fun w2 x2=>?_;have X2:=hid (X1.trans x2);have R2:=hid (R1.ext x2);clear x2;have q8:=R2.cell 24 rfl;have q9:=R2.cell 25 rfl;go_wp2_with fail;refine r_ (H3 _) fun w3 x3=>?_;have X3:=hid (X2.trans x3);have R3:=hid (R2.ext x3);clear x3;go_wp2;go_ret;exact ⟨by simp [*],X3⟩
    ·have g1:decide (sh<(n:Int))=false:=by simp;omega
     go_enter func86,ntmps86;go_wp2_with fail;refine r_ (H1 _) fun w1 x1=>?_;have X1:=hid (X0.trans x1);have R1:=hid (R0.ext x1);clear x1;have h2:=R1.cell 12 rfl;have h3:=R1.cell 13 rfl;have h4:=R1.cell 14 rfl;have h5:=R1.cell 15 rfl;have h6:=R1.cell 16 rfl;have h7:=R1.cell 17 rfl;have h8:=R1.cell 18 rfl;have h9:=R1.cell 19 rfl;have q1:=R1.cell 20 rfl;have q2:=R1.cell 21 rfl;have q3:=R1.cell 22 rfl;have q4:=R1.cell 23 rfl;go_wp2_with fail;refine r_ (H2 _) fun w2 x2=>?_;have X2:=hid (X1.trans x2);have R2:=hid (R1.ext x2);clear x2;have q8:=R2.cell 24 rfl;go_wp2;go_ret;exact ⟨by simp [*],X2⟩
theorem oI {b e j n:Int} (ha : -1000000<=a/\a<=1000000) (hb : -1000000<=b/\b<=1000000) (hd : -1000000<=d/\d<=1000000) (he : -1000000<=e/\e<=1000000) (hn:1<=n/\n<=64) (hi:0<=i/\i<=n) (hj:0<=j/\j<=n)
  (hr:bI (a*((n - i)*(n - j))+b*(i*(n - j))+d*((n - i)*j)+e*(i*j)) (n*n)=r) (w:World) :
  Calls aQ2 231 #[a,b,d,e,i,j,n] w fun x w'=>x = .returned (.int .i64 r)/\w=w':=by
 obtain ⟨ni,h2⟩:=e_ (n - i)
 obtain ⟨nj,h3⟩:=e_ (n - j)
 have h0 : -64<=ni/\ni<=64:=by omega
 have h1 : -64<=nj/\nj<=64:=by omega
 have ib : -64<=i/\i<=64:=by omega
 have jb : -64<=j/\j<=64:=by omega
 have nb : -64<=n/\n<=64:=by omega
 obtain ⟨q1,h4⟩:=e_ (a*ni)
 have b1 : -64000000<=q1/\q1<=64000000:=by have:=bL (A:=1000000) (B:=64) ha h0;omega
 obtain ⟨q2,h5⟩:=e_ (q1*nj)
 have b2 : -4096000000<=q2/\q2<=4096000000:=by have:=bL (A:=64000000) (B:=64) b1 h1;omega
 obtain ⟨q3,h6⟩:=e_ (b*i)
 have b3 : -64000000<=q3/\q3<=64000000:=by have:=bL (A:=1000000) (B:=64) hb ib;omega
 obtain ⟨q4,h7⟩:=e_ (q3*nj)
 have b4 : -4096000000<=q4/\q4<=4096000000:=by have:=bL (A:=64000000) (B:=64) b3 h1;omega
 obtain ⟨q5,h8⟩:=e_ (d*ni)
 have b5 : -64000000<=q5/\q5<=64000000:=by have:=bL (A:=1000000) (B:=64) hd h0;omega
 obtain ⟨q6,h9⟩:=e_ (q5*j)
 have b6 : -4096000000<=q6/\q6<=4096000000:=by have:=bL (A:=64000000) (B:=64) b5 jb;omega
 obtain ⟨q7,q0⟩:=e_ (e*i)
 have b7 : -64000000<=q7/\q7<=64000000:=by have:=bL (A:=1000000) (B:=64) he ib;omega
 obtain ⟨q8,x0⟩:=e_ (q7*j)
 have b8 : -4096000000<=q8/\q8<=4096000000:=by have:=bL (A:=64000000) (B:=64) b7 jb;omega
 obtain ⟨q9,x1⟩:=e_ (n*n)
 have b9 : -4096<=q9/\q9<=4096:=by have:=bL (A:=64) (B:=64) nb nb;omega
 have hs:bI (q2+q4+q6+q8) q9=r:=by
  rw [<-hr,<-x1]
  congr 1
  rw [<-h5,<-h7,<-h9,<-x0,<-h4,<-h6,<-h8,<-q0,h2,h3];simp only [Int.mul_assoc]
 have HS:=hid hs;clear hr hs;go_enter func231,ntmps231;go_wp2_with fail;refine (aT ⟨by omega,by omega⟩ HS _).mono ?_;rintro e1 w1 ⟨rfl,rfl⟩;go_wp2;go_ret;exact ⟨rfl,rfl⟩
theorem aGu (f:Nat->Int) (i j n:Int) (hn:1<=n/\n<=64) (hi:0<=i/\i<=n) (hj:0<=j/\j<=n) (w:World) :
  R_ 192 #[.agg f,i,j,n] w ((evP f i j n).V):=by
 obtain ⟨g,hg⟩:∃g:Nat->Int,g=fun k=>cl (f k):=⟨_,rfl⟩
 have HG:=hid (show ∀k,cl (f k)=g k from fun k=>by rw [hg]);have HB:=hid (show ∀k,-1000000<=g k/\g k<=1000000 from fun k=>by rw [hg];exact cM _)
 obtain ⟨m1,h3⟩:=e_ ((evP f i j n).x)
 obtain ⟨m2,h4⟩:=e_ ((evP f i j n).y)
 obtain ⟨m3,h5⟩:=e_ ((evP f i j n).z)
 have x7:=hid (show bI (g 0*((n - i)*(n - j))+g 3*(i*(n - j))+g 6*((n - i)*j)+g 9*(i*j)) (n*n)=m1 by rw [hg,<-h3];rfl);have x8:=hid (show bI (g 1*((n - i)*(n - j))+g 4*(i*(n - j))+g 7*((n - i)*j)+g 10*(i*j)) (n*n)=m2 by rw [hg,<-h4];rfl);have x9:=hid (show bI (g 2*((n - i)*(n - j))+g 5*(i*(n - j))+g 8*((n - i)*j)+g 11*(i*j)) (n*n)=m3 by rw [hg,<-h5];rfl)
 have hV:(evP f i j n).V = .agg #[m1,m2,m3]:=by rw [<-h3,<-h4,<-h5];rfl
 rw [hV];have h2:=hid hn;have h0:=hid hi;have h1:=hid hj;clear hg h3 h4 h5 hV;have r0:=aAy (w:=w) (t:=125) (f:=f) rfl
 have q0:=(aQ8 (w.alloc (.cells f 125)) 122 [(),(),()])
 rw [aQy] at q0;have x0:Ext w ((w.alloc (.cells f 125)).alloc (.cells #[(),(),()] 122)):=X_;have R0:=hid (r0.alloc (.cells #[(),(),()] 122));have Q0:=hid q0;have X0:=hid x0;have x6:inB n 1 64=true:=aG.2 ⟨by omega,by omega⟩;have q9:inB i 0 n=true:=aG.2 ⟨by omega,by omega⟩;have x5:inB j 0 n=true:=aG.2 ⟨by omega,by omega⟩;have HN:=hid x6;have HI:=hid q9;have HJ:=hid x5;clear r0 q0 x0 x6 q9 x5;go_enter func192,ntmps192;go_wp2_with fail;refine r_ (jE (HG 0) (HG 1) (HG 2) _) fun w1 x1=>?_;have y1:Ext w1 (w1.alloc (.cells #[(g 0),(g 1),(g 2)] 122)):=X_;have b1:=aQ8 w1 122 [(g 0),(g 1),(g 2)];have R1:=hid ((R0.ext x1).ext y1);have Q1:=hid ((Q0.ext x1).ext y1);have X1:=hid ((X0.trans x1).trans y1);have h6:=hid b1;have c3:=R1.cell (i:=3) (by decide);have c4:=R1.cell (i:=4) (by decide);have c5:=R1.cell (i:=5) (by decide);clear R0 Q0 X0 x1 y1 b1;go_wp2_with fail;refine r_ (jE (HG 3) (HG 4) (HG 5) _) fun w2 x2=>?_;have y2:Ext w2 (w2.alloc (.cells #[(g 3),(g 4),(g 5)] 122)):=X_;have b2:=aQ8 w2 122 [(g 3),(g 4),(g 5)];have R2:=hid ((R1.ext x2).ext y2);have Q2:=hid ((Q1.ext x2).ext y2);have X2:=hid ((X1.trans x2).trans y2);have h7:=hid ((h6.ext x2).ext y2);have q4:=hid b2;have c6:=R2.cell (i:=6) (by decide);have c7:=R2.cell (i:=7) (by decide);have c8:=R2.cell (i:=8) (by decide);clear R1 Q1 X1 x2 y2 b2 h6 c3 c4 c5;go_wp2_with fail;refine r_ (jE (HG 6) (HG 7) (HG 8) _) fun w3 x3=>?_;have y3:Ext w3 (w3.alloc (.cells #[(g 6),(g 7),(g 8)] 122)):=X_;have b3:=aQ8 w3 122 [(g 6),(g 7),(g 8)];have R3:=hid ((R2.ext x3).ext y3);have Q3:=hid ((Q2.ext x3).ext y3);have X3:=hid ((X2.trans x3).trans y3);have h8:=hid ((h7.ext x3).ext y3);have q5:=hid ((q4.ext x3).ext y3);have q7:=hid b3;have c9:=R3.cell (i:=9) (by decide);have z0:=R3.cell (i:=10) (by decide);have z1:=R3.cell (i:=11) (by decide);clear R2 Q2 X2 x3 y3 b3 h7 q4 c6 c7 c8;go_wp2_with fail;refine r_ (jE (HG 9) (HG 10) (HG 11) _) fun w4 x4=>?_;have y4:Ext w4 (w4.alloc (.cells #[(g 9),(g 10),(g 11)] 122)):=X_;have b4:=aQ8 w4 122 [(g 9),(g 10),(g 11)];have Q4:=hid (Q3.ext x4);have X4:=hid (X3.trans x4);have h9:=hid (h8.ext x4);have q6:=hid (q5.ext x4);have q8:=hid (q7.ext x4);have l0:=Q4.lt;have l1:=h9.lt;have l2:=q6.lt;have l3:=q8.lt;have g0:=Q4.free 0;have g1:=Q4.free 1;have g2:=Q4.free 2;obtain ⟨o0,o1,o2⟩:=Q4.q3;obtain ⟨p0,p1,p2⟩:=h9.q3;obtain ⟨q0,q1,q2⟩:=q6.q3;obtain ⟨r0,r1,r2⟩:=q8.q3;have zx:=X4.size;clear R3 Q3 X3 x4 y4 b4 h8 q5 q7 c9 z0 z1;go_wp2_with fail;refine z_ (aE HN _) ?_;go_wp2_with fail;refine z_ (aE HI _) ?_;go_wp2_with fail;refine z_ (aE HJ _) ?_;go_wp2_with fail;refine aA [([0,1,2,3,4,5,6,7,8,9,10,12,13,14,15,16,17,18,19,20,21,22,24,25,26,27,28,29,30,31,32,33,34],11),([],23),([],35),([36],37)] 37 (w4.heap.size+1) (by kernel_rfl) (by kernel_rfl) ?_;refine st_ fun K hK=>?_;go_wp2_with fail;refine z_ (oI (HB 0) (HB 3) (HB 6) (HB 9) h2 h0 h1 x7 _) ?_;go_wp2_with fail;refine k_ hK ?_;clear hK K;refine st_ fun K hK=>?_;go_wp2_with fail;refine z_ (oI (HB 1) (HB 4) (HB 7) (HB 10) h2 h0 h1 x8 _) ?_;go_wp2_with fail;refine k_ hK ?_;clear hK K;refine st_ fun K hK=>?_;go_wp2_with fail;refine z_ (oI (HB 2) (HB 5) (HB 8) (HB 11) h2 h0 h1 x9 _) ?_;go_wp2_with fail;refine k_ hK ?_;clear hK K;refine st_ fun K hK=>?_;go_wp2_with fail;refine l_ hK ?_;clear hK K;refine aC ?_;go_wp2;refine bodyPost_ret (v:=.agg #[m1,m2,m3]) (by simp [results,results192,go_sem, *]) rfl ?_;have z2:=X4.out;exact ⟨rfl,S_⟩
theorem aF.rowT {α : Type} {cs : α->List Value} {xs:List α} (h:aF cs lo e sz w v xs):∀k,v.ownBlock=some k->lo<=k/\∃c,w.heap[k]?=some (.cells c e (0,0)):=by
 intro k hk
 rcases h.2 with ⟨rfl,h4⟩|⟨g,cap,cur,rfl,hb,hg,_⟩
 ·cases hk
 ·simp only [aRu,aQ0] at hk
  subst hk;exact ⟨hb,cur,hg⟩
theorem aAz (w:World) (hQ:Q<lo) (a b c d e:Value):aM lo hi w (((((w.setCell ⟨Q,0,none⟩ a).setCell ⟨Q,1,none⟩ b).setCell ⟨Q,2,none⟩ c).setCell ⟨Q,3,none⟩ d).setCell ⟨Q,4,none⟩ e):=fun k h1 _=>by
 have hk:Q≠k:=by omega
 rw [aQ7 _ _ _ _ (by exact hk.symm),aQ7 _ _ _ _ (by exact hk.symm),aQ7 _ _ _ _ (by exact hk.symm),aQ7 _ _ _ _ (by exact hk.symm),aQ7 _ _ _ _ (by exact hk.symm)]
structure GSr (lo n:Nat) (tm:Int) (t:Tex) (f:Nat->Int) (A P Q:Nat) (tu:Value) (w wr:World) (ps:List Pt) (pu:Value):Prop where
 ext:Ext w wr
 pat:bE wr P 125 12 f
 res:Blk wr Q 168 [(),.slice none 0 0,(),(),.slice none 0 0]
 box:Blk wr A 168 [(n:Nat),pu,tm,t.log,tu]
 pts:aCi lo wr pu ps
 tex:aB lo wr tu t.px
theorem GSr.to {tm:Int} {t:Tex} {A P:Nat} {tu pu:Value} {wr:World} {ps:List Pt} (h:GSr lo n tm t f A P Q tu w wr ps pu) (x:Ext wr w'):GSr lo n tm t f A P Q tu w w' ps pu:=
 ⟨h.ext.trans x,h.pat.ext x,h.res.ext x,h.box.ext x,aF.ext h.pts x,h.tex.ext x⟩
theorem GSr.grow {tm:Int} {t:Tex} {A P:Nat} {tu pu pu':Value} {wr:World} {ps ps':List Pt} (h:GSr lo n tm t f A P Q tu w wr ps pu) (hP:P<lo) (hQ:Q<lo) (hA:lo<=A) (hw:w.heap.size<=lo) (hg:wr.grownBy w' pu.ownBlock) (hown:aCi lo w' pu' ps'):GSr lo n tm t f A P Q tu w (w'.setCell ⟨A,1,none⟩ pu') ps' pu':=by
 have hr:=aF.rowT h.pts
 have hB:=h.box.grown hg (fun e=>by
  obtain ⟨_,c,hc⟩:=hr A e.symm;have hb:=h.box;unfold Blk at hb;rw [hb] at hc;simp only [aQ0,aR8] at hc
  exact absurd hc.2.1 (by decide))
 have hT:=h.tex.grown hg (fun k hk e=>by
  obtain ⟨_,c,hc⟩:=hr k e.symm;obtain ⟨c',h0⟩:=h.tex.block hk;rw [h0] at hc;simp only [aQ0,aR8] at hc
  exact absurd hc.2.1 (by decide))
 refine ⟨aRf (aR7 h.ext hg (fun k hk=>by have:=(hr k hk).1;omega)) (by simp only;omega) _,(h.pat.of (hg.block _ h.pat.lt (fun e=>by have:=(hr _ e.symm).1;omega))).other (by simp only;omega) _,(h.res.grown hg (fun e=>by have:=(hr _ e.symm).1;omega)).other (by simp only;omega) _,hB.set 1 _,aF.set hown hB (by decide) 1 _,hT.setOther (fun e=>?_) _⟩;obtain ⟨c,hc⟩:=hT.block e;unfold Blk at hB;simp only at hc;rw [hB] at hc;simp only [aQ0,aR8] at hc;exact absurd hc.2.1 (by decide)
def aCl (f:Nat->Int) (n k:Nat):List Pt:=(aRl k).map fun q=>ptG f n (q % n) (q / n)
theorem aEo (f:Nat->Int) (n k:Nat):(aCl f n k).length=k:=by unfold aCl;simp
theorem aJl (f:Nat->Int) {i:Nat} (hi:i<n):aCl f n (j*n+(i+1))=aCl f n (j*n+i)++[ptG f n i j]:=by
 unfold aCl;rw [show j*n+(i+1)=(j*n+i)+1 by omega,aS9,aS8,aVl]
 have e1:(j*n+i) % n=i:=by rw [aY5,aYd,aUx hi]
 have e2:(j*n+i) / n=j:=by rw [aY5,aZm _ _ (by omega),aXg hi,aRt]
 rw [e1,e2]
theorem aH0 {i:Nat} {x:Pt} (h:(aCl f n k)[i]?=some x):x=ptG f n (i % n) (i / n)/\i<k:=by
 have hl:=(aQz.1 h).1;rw [aEo] at hl;unfold aCl at h;rw [List.getElem?_map,List.getElem?_range hl] at h;exact ⟨(aSx h).symm,hl⟩
theorem xV {j n X Y Z:Int} (h:evP f i j n=⟨X,Y,Z⟩) (hn:1<=n/\n<=64) (hi:0<=i/\i<=n) (hj:0<=j/\j<=n) (w:World) :
  R_ 192 #[.agg f,i,j,n] w (.agg #[X,Y,Z]):=by
 have:=aGu f i j n hn hi hj w;rw [h] at this;exact this
theorem aGv (lo hi:Nat) (f:Nat->Int) (hf:qX f=true) (n:Nat) (hn:1<=n/\n<=8) (tm:Int) (htm:0<=tm/\tm<=256) (tv:Value) (t:Tex) (w:World) (ht:cN lo hi w tv t) (hh:hi<=w.heap.size) (hok:t.Ok) :
  Calls aQ2 141 #[.agg f,(n:Nat),tm,tv] w fun e w'=>∃v:Value,e = .returned (.tuple #[v,.bool true])/\(Grd.mk (n:Nat) (n*n) (aAw f n) tm t).R w.heap.size w'.heap.size w' v/\Ext w w':=by
 have HT:=hid ht;have HF:=hid hf;obtain ⟨tu,rfl,y5,hu⟩:=ht;obtain ⟨a,cap,rfl,HU⟩:=hu.open;have l1:=HU.le;have l2:=HU.cap
 have b5:1<=t.px.length:=by rw [hok.len];exact Nat.mul_pos hok.n_pos hok.n_pos
 have b6:t.px.length<=256:=by rw [hok.len];exact aRy hok.n_le hok.n_le
 obtain ⟨_,bx,h9,rfl,_,b7,_⟩:=HU.cell 0 _ (aQ9 (by omega));have a1:inB ((n:Nat):Int) 1 8=true:=aG.2 ⟨by omega,by omega⟩;have a2:inB tm 0 256=true:=aG.2 htm;have HN:=hid a1;have HM:=hid a2;have HK:=hid (Tex.okB_iff.2 hok);have r0:=aAy (w:=w) (t:=125) (f:=f) rfl;have t0:=aQ8 (w.alloc (.cells f 125)) 36 [t.log,.slice (some ⟨bx,h9,none⟩) t.px.length cap];have q0:=aQ8 ((w.alloc (.cells f 125)).alloc (.cells #[t.log,.slice (some ⟨bx,h9,none⟩) t.px.length cap] 36)) 168 [(),.slice none 0 0,(),(),.slice none 0 0];simp only [aQy] at t0 q0;have x0:Ext w (((w.alloc (.cells f 125)).alloc (.cells #[t.log,.slice (some ⟨bx,h9,none⟩) t.px.length cap] 36)).alloc (.cells #[(),.slice none 0 0,(),(),.slice none 0 0] 168)):=X_;have R0:=hid ((r0.alloc (.cells #[t.log,.slice (some ⟨bx,h9,none⟩) t.px.length cap] 36)).alloc (.cells #[(),.slice none 0 0,(),(),.slice none 0 0] 168));have T0:=hid (t0.ext (show Ext _ (((w.alloc (.cells f 125)).alloc (.cells #[t.log,.slice (some ⟨bx,h9,none⟩) t.px.length cap] 36)).alloc (.cells #[(),.slice none 0 0,(),(),.slice none 0 0] 168)) from X_));have Q0:=hid q0;have X0:=hid x0;clear a1 a2 hu r0 t0 q0 x0;go_enter func141,ntmps141;go_wp2_with fail;refine (gX f _).mono ?_;rw [HF];rintro e w1 ⟨rfl,x1⟩;have R1:=hid (R0.ext x1);have T1:=hid (T0.ext x1);have Q1:=hid (Q0.ext x1);have X1:=hid (X0.trans x1);clear R0 T0 Q0 X0 x1;go_wp2_with fail;refine z_ (aE HN _) ?_;go_wp2_with fail;refine z_ (aE HM _) ?_;obtain ⟨t0,t1⟩:=T1.q2;have z1:=X1.size;go_wp2_with fail;refine r_ (aK HK lo hi _ _ (HT.ext hh X1) (by omega)) fun w2 x2=>?_;have R2:=hid (R1.ext x2);have T2:=hid (T1.ext x2);have Q2:=hid (Q1.ext x2);have x5:=hid (X1.trans x2);have z2:=x5.size;clear R1 T1 Q1 X1 x2 t0 t1;obtain ⟨t0,t1⟩:=T2.q2;have zt:=T2.lt;go_upto_region 3 with fail
 go_cut [10] from 33 to 42 (fun p wx=>∃A tu,p = .pointer (some ⟨A,0,none⟩)/\w2.heap.size<=A/\Blk wx A 168 [(n:Nat),.slice none 0 0,tm,t.log,tu]/\aB w2.heap.size wx tu t.px/\Ext w2 wx)
 case first=>
  refine cZ 11 w2.heap.size (by kernel_rfl) ?_;refine z2_ (fuel:=5) [0,1,2,3,5,6] 4 10 (fun b _ hb=>rfl) (fun K hK=>?_) fun K hK=>?_
  ·have k1:Ext w2 (w2.drew.alloc (.cells #[] 3)):=X_
   have o1:aB w2.heap.size (w2.drew.alloc (.cells #[] 3)) (.slice (some ⟨w2.heap.size,0,none⟩) 0 0) []:=aB.fresh0 (aQv _) (aQ8 w2.drew 3 []);go_wp2;refine hK _ _ (.inr (fun b _ hb=>aRa k1 (by omega))) ?_;clear hK K;refine z2_ (fuel:=4) [] 7 10 (fun b _ hb=>aRa k1 (by omega)) (fun K hK=>?_) fun K hK=>?_
   ·refine bY _ rfl _ _ rfl w2.heap.size (.slice (some ⟨w2.heap.size,0,none⟩) 0 0) [] t.px rfl o1 bx h9 cap rfl (fun i y hy=>by
     obtain ⟨i1,b',o',e',_,h3,h4⟩:=HU.cell i y hy
     cases e'
     exact ⟨i1,((x5.trans k1).cells.1 bx _ (by omega)).trans h4⟩) (by simp;omega) k1.size ?_
    intro v7 w7 h0 q7;have u7:Ext w2 w7:=aR7 k1 q7 (fun k hk=>(o1.lt k hk).1);go_wp2_with fail;refine hK _ _ (.inr (fun b _ hb=>aRa u7 (by omega))) ?_;clear hK K;obtain ⟨h5,h6,h8,_⟩:=h0.form;simp only [aSu] at h0 h8;subst h8;refine z1_ (fuel:=1) [8,9] 10 (fun b _ hb=>aRa u7 (by omega)) fun K hK=>?_;have k8:Ext w2 (w7.alloc (.cells #[(),.slice none 0 0,(),(),.slice none 0 0] 168)):=aXi u7 _;go_wp2;refine hK _ _ (.inr (fun b _ hb=>aRa (w:=w2) (show Ext w2 _ from aXi u7 _) (by omega))) ?_;clear hK K;refine z1_ (fuel:=0) [] 11 (fun b _ hb=>aRa k8 (by omega)) fun K hK=>?_;go_wp2;refine l_ hK ?_;clear hK K;refine bX (by kernel_rfl) ?_;go_wp2_with fail
    go_meet
    exact ⟨w7.heap.size,_,rfl,u7.size,aQ8 w7 168 [(n:Nat),.slice none 0 0,tm,t.log,.slice h5 t.px.length h6],h0.alloc _,aXi u7 _⟩
   ·have g1:Ext w2 ((w2.drew.alloc (.cells #[] 3)).alloc (.cells #[(),.slice none 0 0,(),(),.slice none 0 0] 168)):=X_
    have o2:=o1.alloc (.cells #[(),.slice none 0 0,(),(),.slice none 0 0] 168);have n2:=aQ8 (w2.drew.alloc (.cells #[] 3)) 168 [(),.slice none 0 0,(),(),.slice none 0 0];rw [aQy,show w2.drew.heap.size=w2.heap.size from rfl] at n2;go_wp2;refine hK _ _ (.inr (fun b _ hb=>aRa g1 (by omega))) ?_;clear hK K;refine z1_ (fuel:=3) [] 7 (fun b _ hb=>aRa g1 (by omega)) fun K hK=>?_
    refine bY _ rfl _ _ rfl w2.heap.size (.slice (some ⟨w2.heap.size,0,none⟩) 0 0) [] t.px rfl o2 bx h9 cap rfl (fun i y hy=>by
     obtain ⟨i1,b',o',e',_,h3,h4⟩:=HU.cell i y hy
     cases e'
     exact ⟨i1,((x5.trans g1).cells.1 bx _ (by omega)).trans h4⟩) (by simp;omega) g1.size ?_
    intro v7 w7 h0 q7;have u7:Ext w2 w7:=aR7 g1 q7 (fun k hk=>(o2.lt k hk).1);go_wp2_with fail;refine hK _ _ (.inr (fun b _ hb=>aRa u7 (by omega))) ?_;clear hK K;obtain ⟨h5,h6,h8,_⟩:=h0.form;simp only [aSu] at h0 h8;subst h8;have n3:=n2.grown q7 (by simp [aRu]);refine z1_ (fuel:=0) [8,9] 11 (fun b _ hb=>aRa u7 (by omega)) fun K hK=>?_;have h2:=n3;obtain ⟨p0,p1,p2,p3,p4⟩:=h2.q5;have f0:=h2.free 0;have f1:=h2.free 1;have f2:=h2.free 2;have f3:=h2.free 3;have f4:=h2.free 4
    have h7:w2.heap.size<=(w2.heap.size+1):=by first|omega|(simp;omega)
    have h1:∀k,(aR9 h5 t.px.length h6).ownBlock=some k->k≠(w2.heap.size+1):=fun k hk e=>by
     obtain ⟨c,hc⟩:=(h0).block hk;rw [e] at hc;unfold Blk at h2;rw [h2] at hc;simp only [aQ0,aR8] at hc;exact absurd hc.2.1 (by decide)
    have y4:Ext w2 ((((((((((w7).setCell ⟨(w2.heap.size+1),0,none⟩ (.int .i64 (n:Nat)))).setCell ⟨(w2.heap.size+1),1,none⟩ (.slice none 0 0))).setCell ⟨(w2.heap.size+1),2,none⟩ tm)).setCell ⟨(w2.heap.size+1),3,none⟩ t.log)).setCell ⟨(w2.heap.size+1),4,none⟩ (.slice h5 t.px.length h6)):=aRf (aRf (aRf (aRf (aRf u7 h7 _) h7 _) h7 _) h7 _) h7 _;have y0:Blk ((((((((((w7).setCell ⟨(w2.heap.size+1),0,none⟩ (.int .i64 (n:Nat)))).setCell ⟨(w2.heap.size+1),1,none⟩ (.slice none 0 0))).setCell ⟨(w2.heap.size+1),2,none⟩ tm)).setCell ⟨(w2.heap.size+1),3,none⟩ t.log)).setCell ⟨(w2.heap.size+1),4,none⟩ (.slice h5 t.px.length h6)) ((w2.heap.size+1)) 168 [(n:Nat),.slice none 0 0,tm,t.log,.slice h5 t.px.length h6]:=((((h2.set 0 _).set 1 _).set 2 _).set 3 _).set 4 _
    have y2:aB w2.heap.size ((((((((((w7).setCell ⟨(w2.heap.size+1),0,none⟩ (.int .i64 (n:Nat)))).setCell ⟨(w2.heap.size+1),1,none⟩ (.slice none 0 0))).setCell ⟨(w2.heap.size+1),2,none⟩ tm)).setCell ⟨(w2.heap.size+1),3,none⟩ t.log)).setCell ⟨(w2.heap.size+1),4,none⟩ (.slice h5 t.px.length h6)) (.slice h5 t.px.length h6) t.px:=((((((h0).setOther (a:=⟨(w2.heap.size+1),0,none⟩) (fun e=>h1 _ e rfl) _).setOther (a:=⟨(w2.heap.size+1),1,none⟩) (fun e=>h1 _ e rfl) _).setOther (a:=⟨(w2.heap.size+1),2,none⟩) (fun e=>h1 _ e rfl) _).setOther (a:=⟨(w2.heap.size+1),3,none⟩) (fun e=>h1 _ e rfl) _).setOther (a:=⟨(w2.heap.size+1),4,none⟩) (fun e=>h1 _ e rfl) _)
    go_wp2;refine l_ hK ?_;clear hK K;refine bX (by kernel_rfl) ?_;go_wp2_with fail
    go_meet
    exact ⟨(w2.heap.size+1),_,rfl,h7,y0,y2,y4⟩
  ·have g1:Ext w2 (w2.drew.alloc (.cells #[(),.slice none 0 0,(),(),.slice none 0 0] 168)):=X_
   have n2:=aQ8 w2.drew 168 [(),.slice none 0 0,(),(),.slice none 0 0];rw [show w2.drew.heap.size=w2.heap.size from rfl] at n2;go_wp2;refine hK _ _ (.inr (fun b _ hb=>aRa g1 (by omega))) ?_;clear hK K;refine z1_ (fuel:=4) [] 4 (fun b _ hb=>aRa g1 (by omega)) fun K hK=>?_;have g2:Ext w2 ((w2.drew.alloc (.cells #[(),.slice none 0 0,(),(),.slice none 0 0] 168)).alloc (.cells #[] 3)):=X_;have n3:=n2.ext (show Ext _ ((w2.drew.alloc (.cells #[(),.slice none 0 0,(),(),.slice none 0 0] 168)).alloc (.cells #[] 3)) from X_);have b2:=aQ8 (w2.drew.alloc (.cells #[(),.slice none 0 0,(),(),.slice none 0 0] 168)) 3 [];rw [aQy,show w2.drew.heap.size=w2.heap.size from rfl] at b2;have o2:aB w2.heap.size ((w2.drew.alloc (.cells #[(),.slice none 0 0,(),(),.slice none 0 0] 168)).alloc (.cells #[] 3)) (.slice (some ⟨w2.heap.size+1,0,none⟩) 0 0) []:=aB.fresh0 (by omega) b2;go_wp2;refine hK _ _ (.inr (fun b _ hb=>aRa g2 (by omega))) ?_;clear hK K;refine z1_ (fuel:=3) [] 7 (fun b _ hb=>aRa g2 (by omega)) fun K hK=>?_
   refine bY _ rfl _ _ rfl w2.heap.size (.slice (some ⟨w2.heap.size+1,0,none⟩) 0 0) [] t.px rfl o2 bx h9 cap rfl (fun i y hy=>by
    obtain ⟨i1,b',o',e',_,h3,h4⟩:=HU.cell i y hy
    cases e'
    exact ⟨i1,((x5.trans g2).cells.1 bx _ (by omega)).trans h4⟩) (by simp;omega) g2.size ?_
   intro v7 w7 h0 q7;have u7:Ext w2 w7:=aR7 g2 q7 (fun k hk=>(o2.lt k hk).1);go_wp2_with fail;refine hK _ _ (.inr (fun b _ hb=>aRa u7 (by omega))) ?_;clear hK K;obtain ⟨h5,h6,h8,_⟩:=h0.form;simp only [aSu] at h0 h8;subst h8;have n4:=n3.grown q7 (by simp [aRu]);refine z1_ (fuel:=0) [8,9] 11 (fun b _ hb=>aRa u7 (by omega)) fun K hK=>?_;have h2:=n4;obtain ⟨p0,p1,p2,p3,p4⟩:=h2.q5;have f0:=h2.free 0;have f1:=h2.free 1;have f2:=h2.free 2;have f3:=h2.free 3;have f4:=h2.free 4
   have h7:w2.heap.size<=w2.heap.size:=by first|omega|(simp;omega)
   have h1:∀k,(aR9 h5 t.px.length h6).ownBlock=some k->k≠w2.heap.size:=fun k hk e=>by
    obtain ⟨c,hc⟩:=(h0).block hk;rw [e] at hc;unfold Blk at h2;rw [h2] at hc;simp only [aQ0,aR8] at hc;exact absurd hc.2.1 (by decide)
   have y4:Ext w2 ((((((((((w7).setCell ⟨w2.heap.size,0,none⟩ (.int .i64 (n:Nat)))).setCell ⟨w2.heap.size,1,none⟩ (.slice none 0 0))).setCell ⟨w2.heap.size,2,none⟩ tm)).setCell ⟨w2.heap.size,3,none⟩ t.log)).setCell ⟨w2.heap.size,4,none⟩ (.slice h5 t.px.length h6)):=aRf (aRf (aRf (aRf (aRf u7 h7 _) h7 _) h7 _) h7 _) h7 _;have y0:Blk ((((((((((w7).setCell ⟨w2.heap.size,0,none⟩ (.int .i64 (n:Nat)))).setCell ⟨w2.heap.size,1,none⟩ (.slice none 0 0))).setCell ⟨w2.heap.size,2,none⟩ tm)).setCell ⟨w2.heap.size,3,none⟩ t.log)).setCell ⟨w2.heap.size,4,none⟩ (.slice h5 t.px.length h6)) (w2.heap.size) 168 [(n:Nat),.slice none 0 0,tm,t.log,.slice h5 t.px.length h6]:=((((h2.set 0 _).set 1 _).set 2 _).set 3 _).set 4 _
   have y2:aB w2.heap.size ((((((((((w7).setCell ⟨w2.heap.size,0,none⟩ (.int .i64 (n:Nat)))).setCell ⟨w2.heap.size,1,none⟩ (.slice none 0 0))).setCell ⟨w2.heap.size,2,none⟩ tm)).setCell ⟨w2.heap.size,3,none⟩ t.log)).setCell ⟨w2.heap.size,4,none⟩ (.slice h5 t.px.length h6)) (.slice h5 t.px.length h6) t.px:=((((((h0).setOther (a:=⟨w2.heap.size,0,none⟩) (fun e=>h1 _ e rfl) _).setOther (a:=⟨w2.heap.size,1,none⟩) (fun e=>h1 _ e rfl) _).setOther (a:=⟨w2.heap.size,2,none⟩) (fun e=>h1 _ e rfl) _).setOther (a:=⟨w2.heap.size,3,none⟩) (fun e=>h1 _ e rfl) _).setOther (a:=⟨w2.heap.size,4,none⟩) (fun e=>h1 _ e rfl) _)
   go_wp2;refine l_ hK ?_;clear hK K;refine bX (by kernel_rfl) ?_;go_wp2_with fail
   go_meet
   exact ⟨w2.heap.size,_,rfl,h7,y0,y2,y4⟩
 case rest=>
  obtain ⟨A,tu,rfl,hA,B3,O3,E3⟩:=hcut;obtain ⟨z5,z6,rfl,-⟩:=O3.form
  have S3:GSr w2.heap.size n tm t f A w.heap.size (w.heap.size+1+1) (.slice z5 t.px.length z6) w wc [] (.slice none 0 0):=
   ⟨x5.trans E3,R2.ext E3,Q2.ext E3,B3,aF.nil _ _ _ _ _,O3⟩
  have y9:=hid S3;have zQ:=Q2.lt;clear R2 T2 Q2 x5 t0 t1 zt B3 O3 E3 S3;go_wp2_with fail
  go_loopw [11] (fun v wr=>∃(j:Nat) (ps:List Pt) (pu:Value),j<=n/\v = .int .i64 (j:Nat)/\ps.length=j*n/\ps=aCl f n (j*n)/\GSr w2.heap.size n tm t f A w.heap.size (w.heap.size+1+1) (.slice z5 t.px.length z6) w wr ps pu) (fun v _=>n - (intOf v).toNat)
  case atStart=>exact ⟨0,[],_,by omega,rfl,by simp,by rw [aVo];rfl,y9⟩
  case round=>
   obtain ⟨j,ps,pu,hj,rfl,z0,x9,hs⟩:=hrel;have y7:=hid z0;have z7:=hid x9;clear z0 x9;have HS:=hid hs;clear hs y9
   by_cases b9:j<n
   ·go_wp2_with fail
    go_loopw [12] (fun v wr=>∃(i:Nat) (ps:List Pt) (pu:Value),i<=n/\v = .int .i64 (i:Nat)/\ps.length=j*n+i/\ps=aCl f n (j*n+i)/\GSr w2.heap.size n tm t f A w.heap.size (w.heap.size+1+1) (.slice z5 t.px.length z6) w wr ps pu) (fun v _=>n - (intOf v).toNat)
    case atStart=>exact ⟨0,ps,pu,by omega,rfl,y7,z7,HS⟩
    case round=>
     obtain ⟨i,ps,pu,hi',rfl,z0,x9,hs⟩:=hrel;have q6:=hid z0;have x7:=hid x9;clear z0 x9;have x8:=hid hs;clear hs HS
     by_cases y1:i<n
     ·have hR:=x8.pat
      have c0:=hR.cell (i:=0) (by decide);have c1:=hR.cell (i:=1) (by decide);have c2:=hR.cell (i:=2) (by decide);have c3:=hR.cell (i:=3) (by decide);have c4:=hR.cell (i:=4) (by decide);have c5:=hR.cell (i:=5) (by decide);have c6:=hR.cell (i:=6) (by decide);have c7:=hR.cell (i:=7) (by decide);have c8:=hR.cell (i:=8) (by decide);have c9:=hR.cell (i:=9) (by decide);have a5:=hR.cell (i:=10) (by decide);have a6:=hR.cell (i:=11) (by decide);go_wp2_with fail
      obtain ⟨x,y,z,a0⟩:∃x y z,evP f ((i:Nat):Int) ((j:Nat):Int) ((n:Nat):Int)=⟨x,y,z⟩:=⟨_,_,_,rfl⟩
      have y6:=hid a0;clear a0;refine r_ (xV y6 ⟨by omega,by omega⟩ ⟨by omega,by omega⟩ ⟨by omega,by omega⟩ _) fun w3 x3=>?_;have y3:Ext w3 (w3.alloc (.cells #[x,y,z] 122)):=X_;have v3:=aQ8 w3 122 [x,y,z];have x4:=hid (x8.to (x3.trans y3));have a4:=hid v3;have z3:=x3.size;have b1:=x4.box.cell 1 rfl;have a7:=x4.box.free 1;have zA:=x4.box.lt
      have d5:A<w3.heap.size:=by
       have:=x8.box.lt;omega
      obtain ⟨pa,pc,rfl,-⟩:=aF.form x4.pts;clear x3 y3 v3 c0 c1 c2 c3 c4 c5 c6 c7 c8 c9 a5 a6 hR x8;go_wp2_with fail;refine aJ [([0,1,2,3,4,5,6,7,8,9,10,11,12,13,14,15,16],17),([],18),([19],20)] 20 (fun w'=>∃d,w'=fU (C2b A w3.heap.size) _ d) (by kernel_rfl) (by kernel_rfl) (SC.drew _ _) ?_;refine sc_ fun K hK=>?_;go_wp2_with fail;have y8:Ext (w3.alloc (.cells #[x,y,z] 122)) (((w3.alloc (.cells #[x,y,z] 122)).alloc (.cells #[.int .i64 ((i:Int)*256 / (n:Int)),.int .i64 ((j:Int)*256 / (n:Int)),x,y,z] 228)).drew):=S_;have b8:=(aQ8 (w3.alloc (.cells #[x,y,z] 122)) 228 [.int .i64 ((i:Int)*256 / (n:Int)),.int .i64 ((j:Int)*256 / (n:Int)),x,y,z]).ext (show Ext _ (((w3.alloc (.cells #[x,y,z] 122)).alloc (.cells #[.int .i64 ((i:Int)*256 / (n:Int)),.int .i64 ((j:Int)*256 / (n:Int)),x,y,z] 228)).drew) from S_);rw [aQy] at b8;refine hK _ _ (.inr (SC.blocks fun a ha=>?_)) ?_
      ·rcases ha with ha|ha
       ·exact y8.block (by rw [ha,aQy];omega)
       ·exact y8.block (by rw [ha,aQy];omega)
      clear hK K;have z4:=hid (x4.to y8);have x6:=hid b8;have z9:=hid y8;have z8:=y8.size;rw [aQy] at z8
      have d0:j*n+i<=64:=by
       have:j*n<=7*8:=aRy (by omega) (by omega);omega
      clear y8 b8;refine sc_ fun K hK=>?_
      refine mC _ rfl _ _ rfl w2.heap.size (.slice pa ps.length pc) ps rfl z4.pts ⟨(i:Int)*256 / (n:Int),(j:Int)*256 / (n:Int),x,y,z⟩ (w3.heap.size+1) rfl (fun q hq=>by
       rcases (show q=0\/q=1\/q=2\/q=3\/q=4 by omega) with rfl|rfl|rfl|rfl|rfl
       ·exact x6.cell 0 rfl
       ·exact x6.cell 1 rfl
       ·exact x6.cell 2 rfl
       ·exact x6.cell 3 rfl
       ·exact x6.cell 4 rfl) (by have:=q6.out;omega) (by omega) ?_
      intro d4 w9 q8 hg;have q9:=aF.rowT z4.pts
      have kA:w9.heap[A]?=(w3.alloc (.cells #[x,y,z] 122)).heap[A]?:=(hg.block _ (by omega) (fun e=>by
       obtain ⟨_,c,hc⟩:=q9 _ e.symm;have hb:=z4.box;unfold Blk at hb;rw [hb] at hc;simp only [aQ0,aR8] at hc
       exact absurd hc.2.1 (by decide))).trans (z9.block zA)
      have kV:w9.heap[w3.heap.size]?=(w3.alloc (.cells #[x,y,z] 122)).heap[w3.heap.size]?:=(hg.block _ (by omega) (fun e=>by
       obtain ⟨_,c,hc⟩:=q9 _ e.symm;have hb:=a4.ext z9;unfold Blk at hb;rw [hb] at hc;simp only [aQ0,aR8] at hc
       exact absurd hc.2.1 (by decide))).trans (z9.block (by rw [aQy];omega))
      have a3:=hid (z4.grow (by omega) zQ hA z2 hg q8);have B9:=x4.box.of kA;have e1:=B9.cell 1 rfl;have g1:=B9.free 1;go_wp2_with fail;refine hK _ _ (.inr (SC.blocks fun a ha=>?_)) ?_
      ·rcases ha with ha|ha
       ·rw [ha];exact kA
       ·rw [ha];exact kV
      clear hK K;obtain ⟨d2,d3,hv,_⟩:=aF.form q8
      have a9:(ps++[(⟨(i:Int)*256 / (n:Int),(j:Int)*256 / (n:Int),x,y,z⟩:Pt)]).length=ps.length+1:=by simp
      rw [a9] at hv;subst hv;clear q8 hg q9 kA kV b1 a7 B9;refine gS ?_;simp only [aRm,aRg,aQ1,aQw,aQx]
      show wpQuiet _ _ _ _ [_] _
      simp only [Act.put,aQ4,aRc,aRb,aV2,aUs,aUt]
      repeat (go_big_quiet_step (fail))
      refine wpQuiet_nil ⟨_,rfl,fun K hK=>?_⟩;go_wp2_with fail;refine l_ hK ?_;clear hK K;refine aP ?_;go_wp2;go_roundw
      case rel=>exact ⟨i+1,ps++[(⟨(i:Int)*256 / (n:Int),(j:Int)*256 / (n:Int),x,y,z⟩:Pt)],_,by omega,by go_num,by have:=q6.out;omega,by rw [x7,aJl f y1];congr 1;unfold ptG;rw [y6],a3⟩
      case measure=>simp [intOf];omega
     ·obtain rfl:i=n:=by omega
      go_wp2;go_roundw
      case rel=>exact ⟨j+1,ps,pu,by omega,by go_num,by rw [q6,aW2],by rw [x7,aW2],x8⟩
      case measure=>simp [intOf];omega
   ·obtain rfl:j=n:=by omega
    obtain ⟨b0,b1,b2,b3,b4⟩:=HS.box.q5;obtain ⟨q0,q1,q2,q3,q4⟩:=HS.res.q5;have g0:=HS.res.free 0;have g1:=HS.res.free 1;have g2:=HS.res.free 2;have g3:=HS.res.free 3;have g4:=HS.res.free 4;have zq:=HS.res.lt;have za:=HS.box.lt;obtain ⟨pa,pc,rfl,-⟩:=aF.form HS.pts;go_wp2;refine bodyPost_ret (v:=.tuple #[.agg #[(j:Nat),.slice pa ps.length pc,tm,t.log,.slice z5 t.px.length z6],.bool true]) (by simp [results,results141,go_sem, *]) rfl ?_;have a8:=HS.ext;have d1:=a8.size
    have FL:∀m,ps.length=m->cY 5 w2.heap.size wr.heap.size wr (.slice pa ps.length pc) m (aAw f j):=fun m hm=>by
     subst hm;refine aF.flatsI (ls:=Pt.ls) HS.pts (by decide) (fun _=>rfl) (fun _=>rfl) (fun p hp u hu=>?_) (fun q p k hq hk=>?_)
     ·rw [z7] at hp
      obtain ⟨q,hq,rfl⟩:=aRw hp;obtain ⟨e2,hl⟩:=aH0 (aQ9 hq);rw [e2] at hu;have:=aGq f (n:=j) (i:=q % j) (j:=q / j) (by omega) (Nat.mod_lt _ (by omega)) (aTg hl) u hu;exact ⟨by omega,by omega⟩
     ·rw [z7] at hq
      obtain ⟨rfl,-⟩:=aH0 hq;exact jL f j q k hk
    exact ⟨_,rfl,⟨_,_,rfl,⟨by show (-9223372036854775808:Int)<=((j:Nat):Int);omega,by show ((j:Nat):Int)<=9223372036854775807;omega⟩,⟨by show (-9223372036854775808:Int)<=tm;omega,by show tm<=9223372036854775807;omega⟩,y5,(((FL _ y7).same (aAz wr zQ _ _ _ _ _)).wide z2 (by simp)),((HS.tex.ints.same (aAz wr zQ _ _ _ _ _)).wide z2 (by simp))⟩,S_⟩
theorem rA (c:Cam) (w:World):R_ 87 #[c.V] w (.bool c.okB):=by
 obtain ⟨cw,ch,zo,ne,de,le,fo⟩:=c
 obtain ⟨b1,h1⟩:=e_ (inB cw 1 12)
 obtain ⟨b2,h2⟩:=e_ (inB ch 1 12)
 obtain ⟨b3,h3⟩:=e_ (inB zo 1 65536)
 obtain ⟨b4,h4⟩:=e_ (inB ne 1 1000000)
 obtain ⟨b5,h5⟩:=e_ (inB le 0 64)
 obtain ⟨b6,h6⟩:=e_ (inB fo 0 1000000)
 have e:(Cam.mk cw ch zo ne de le fo).okB=(b1&&b2&&b3&&b4&&b5&&b6):=by unfold Cam.okB;simp only [h1,h2,h3,h4,h5,h6]
 rw [e];have H1:=hid h1;have H2:=hid h2;have H3:=hid h3;have H4:=hid h4;have H5:=hid h5;have H6:=hid h6;clear h1 h2 h3 h4 h5 h6 e
 show Calls aQ2 87 #[.agg #[cw,ch,zo,ne,.bool de,le,fo]] w _
 cases b1
 rotate_left
 cases b2
 rotate_left
 cases b3
 rotate_left
 cases b4
 rotate_left
 cases b5
 rotate_left
 cases b6
 all_goals
  go_enter func87,ntmps87;go_wp2_with (go_at_call 46;with_reducible first|(refine z_ (aE H1.out _) ?_)|(refine z_ (aE H2.out _) ?_)|(refine z_ (aE H3.out _) ?_)|(refine z_ (aE H4.out _) ?_)|(refine z_ (aE H5.out _) ?_)|(refine z_ (aE H6.out _) ?_));go_ret;exact ⟨rfl,X_⟩
theorem aN {c:Cam} {b:Bool} (h:c.okB=b) (w:World):R_ 87 #[c.V] w (.bool b):=h▸rA c w
theorem xW {α : Type} (f:Nat->α) (n:Nat):(aRl (n+1)).map f=(aRl n).map f++[f n]:=by rw [aS9,aS8,aVl]
theorem sG (s:Scn) (lo hi:Nat) (v:Value) (w:World) (hv:s.R lo hi w v) (hh:hi<=w.heap.size) (hsm:s.small) :
  R_ 45 #[v] w (.bool s.okB):=by
 obtain ⟨a1,c1,a2,c2,a3,c3,rfl,-,q1,-,h1,h2,h3⟩:=hv.form;have q0:=aQ8 w 40 (sL_ s a1 c1 a2 c2 a3 c3);have R0:=hid q0;have X0:=hid (show Ext w (w.alloc (.cells (sA_ s a1 c1 a2 c2 a3 c3) 40)) from X_);have HT:=hid (show ∀W:World,Ext w W->cN lo hi W (.agg #[s.t.log,.slice a1 s.t.px.length c1]) s.t from fun W x=>⟨_,rfl,q1,(h1.shut).ext hh x⟩);have H1:=hid h1;have H2:=hid h2;have H3:=hid h3;have z7:=h2.le;have z2:=h2.cap;have z8:=h3.le;have z3:=h3.cap;have HS:=hid hsm;clear q0 hv q1 h1 h2 h3 hsm;unfold Scn.okB
 obtain ⟨b1,q3⟩:=e_ s.c.okB
 obtain ⟨b2,q4⟩:=e_ s.t.okB
 obtain ⟨b3,q8⟩:=e_ (inB (s.ps.length:Int) 1 3)
 have C1:=hid q3;have C2:=hid q4;have C3:=hid q8;rw [q3,q4,q8];clear q3 q4 q8;go_enter func45,ntmps45;go_wp2_with fail
 go_loopw [13] (fun i wr=>∃k:Nat,k<=s.ps.length/\i = .int .i64 (k:Nat)/\Ext w wr/\Blk wr w.heap.size 40 (sL_ s a1 c1 a2 c2 a3 c3)/\∀q (hq:q<k) (hq2:q<s.ps.length),s.ps[q].chkB=true) (fun i _=>s.ps.length - (intOf i).toNat)
 case atStart=>exact ⟨0,by omega,rfl,X0,R0,fun q hq=>absurd hq (by omega)⟩
 case round=>
  obtain ⟨k,hk,rfl,hx,hb,hc⟩:=hrel;have HX:=hid hx;have HB:=hid hb;have HC:=hid hc
  rcases aSd k s.ps.length with hlt|hge
  ·obtain ⟨b,q6,e1,d1,e2,d2,rfl,z6,z5,k1,k2,hR⟩:=H2.at hlt hx hh
   have HR:=hid hR;have hz:=hx.size;have HL:=hid hlt;clear hx hb hc hR;go_wp2_with fail;refine (wS lo hi _ _ _ (HR.ext (by omega) (show Ext wr (wr.alloc (.cells #[.slice e1 (s.ps[k]'hlt).ns.length d1,.slice e2 (s.ps[k]'hlt).gs.length d2] 119)) from X_)) (by simp;omega) (HS _ (aRh hlt)).1 (HS _ (aRh hlt)).2.1.1 (HS _ (aRh hlt)).2.2).mono ?_;rintro e w5 ⟨⟨cc,ck,rfl,hcc⟩,x5⟩;have y5:Ext wr w5:=aQ3 (show Ext wr (wr.alloc (.cells #[.slice e1 (s.ps[k]'hlt).ns.length d1,.slice e2 (s.ps[k]'hlt).gs.length d2] 119)) from X_) x5
   by_cases x7:cc=0
   ·subst x7
    have X5:=hid (HX.trans y5);have R5:=hid (HB.ext y5);have q7:=hid hcc.symm;clear hcc x5 y5;go_wp2;go_roundw
    case rel=>
     refine ⟨k+1,by omega,by go_num,X5,R5,fun q hq hq2=>?_⟩
     rcases aSd q k with h|h
     ·exact HC q h hq2
     ·obtain rfl:q=k:=by omega
      exact q7
    case measure=>simp [intOf];omega
   ·have h8:s.ps.all Prg.chkB=false:=aT4.2 ⟨_,aRh hlt,by rw [<-hcc];simp [x7]⟩
    have h6:=hid h8;have X5:=hid (HX.trans y5);clear hcc x5 y5 h8;go_wp2;go_ret;exact ⟨by rw [h6];simp,X5⟩
  ·obtain rfl:k=s.ps.length:=by omega
   have h8:s.ps.all Prg.chkB=true:=aR5.2 (fun x hx=>by obtain ⟨q,hq,rfl⟩:=aRw hx;exact hc q hq hq);have HA:=hid h8;have z1:=hb.cell 10 rfl;have lb:=hb.lt;clear hx hb hc h8;go_wp2_with fail;clear z1 lb
   go_loopw [28] (fun i wr=>∃k:Nat,k<=s.m/\i = .int .i64 (k:Nat)/\Ext w wr/\Blk wr w.heap.size 40 (sL_ s a1 c1 a2 c2 a3 c3)/\∀q,q<k->s.srfB q=true) (fun i _=>s.m - (intOf i).toNat)
   case atStart=>exact ⟨0,by omega,rfl,HX,HB,fun q hq=>absurd hq (by omega)⟩
   case round=>
    obtain ⟨j,hj,rfl,hx,hb,hc⟩:=hrel;have HX:=hid hx;have HB:=hid hb;have HC:=hid hc
    rcases aSd j s.m with hlt|hge
    ·obtain ⟨b,q6,rfl,q3,q4,h9⟩:=H3.at hlt (by decide)
     have bw:b<w.heap.size:=by omega
     have q9:wr.rangeAt b (q6+j*26) ((aRl 26).map fun q=>.int .i64 (s.F (j*26+q))):=by
      intro q v hq;obtain ⟨h1,h2⟩:=aQz.1 hq;simp only [aSh,aUo] at h1;simp only [aVf,aUe] at h2;subst h2;exact (hx.cells.1 b _ bw).trans (h9 q h1)
     change wr.rangeAt b (q6+j*26) [(s.st j 0),(s.st j 1),(s.st j 2),(s.st j 3),(s.st j 4),(s.st j 5),(s.st j 6),(s.st j 7),(s.st j 8),(s.st j 9),(s.st j 10),(s.st j 11),(s.en j 0),(s.en j 1),(s.en j 2),(s.en j 3),(s.en j 4),(s.en j 5),(s.en j 6),(s.en j 7),(s.en j 8),(s.en j 9),(s.en j 10),(s.en j 11),(s.sh j),(s.rt j)] at q9;have x9:=hid q9
     have x4:World.rangeAt (wr.alloc (.cells #[(s.st j 0),(s.st j 1),(s.st j 2),(s.st j 3),(s.st j 4),(s.st j 5),(s.st j 6),(s.st j 7),(s.st j 8),(s.st j 9),(s.st j 10),(s.st j 11),(s.en j 0),(s.en j 1),(s.en j 2),(s.en j 3),(s.en j 4),(s.en j 5),(s.en j 6),(s.en j 7),(s.en j 8),(s.en j 9),(s.en j 10),(s.en j 11),(s.sh j),(s.rt j)] 127)) wr.heap.size 0 [(s.st j 0),(s.st j 1),(s.st j 2),(s.st j 3),(s.st j 4),(s.st j 5),(s.st j 6),(s.st j 7),(s.st j 8),(s.st j 9),(s.st j 10),(s.st j 11),(s.en j 0),(s.en j 1),(s.en j 2),(s.en j 3),(s.en j 4),(s.en j 5),(s.en j 6),(s.en j 7),(s.en j 8),(s.en j 9),(s.en j 10),(s.en j 11),(s.sh j),(s.rt j)]:=fun q v hq=>by rw [aRt];exact (aQ8 wr 127 [(s.st j 0),(s.st j 1),(s.st j 2),(s.st j 3),(s.st j 4),(s.st j 5),(s.st j 6),(s.st j 7),(s.st j 8),(s.st j 9),(s.st j 10),(s.st j 11),(s.en j 0),(s.en j 1),(s.en j 2),(s.en j 3),(s.en j 4),(s.en j 5),(s.en j 6),(s.en j 7),(s.en j 8),(s.en j 9),(s.en j 10),(s.en j 11),(s.sh j),(s.rt j)]).cell q hq
     have x8:=hid x4;clear q9 x4;have b9:=hb.cell 9 rfl;have bl:=hb.lt;have z4:b<wr.heap.size:=aSf bw hx.size;clear hx hb hc h9;go_upto_region 11 with (first|(show wpList _ _ _ [_,_,_] _ _;refine wpList_load_mid rfl _ _ rfl b (q6+j*26) rfl [(s.st j 0),(s.st j 1),(s.st j 2),(s.st j 3),(s.st j 4),(s.st j 5),(s.st j 6),(s.st j 7),(s.st j 8),(s.st j 9),(s.st j 10),(s.st j 11),(s.en j 0),(s.en j 1),(s.en j 2),(s.en j 3),(s.en j 4),(s.en j 5),(s.en j 6),(s.en j 7),(s.en j 8),(s.en j 9),(s.en j 10),(s.en j 11),(s.sh j),(s.rt j)] _ x9 underlying127 rfl fQ ?_)|(show wpList _ _ _ [_] _ _;refine dI _ _ _ rfl 127 (.tmp 8) (.tmp 31) rfl rfl #[(s.st j 0),(s.st j 1),(s.st j 2),(s.st j 3),(s.st j 4),(s.st j 5),(s.st j 6),(s.st j 7),(s.st j 8),(s.st j 9),(s.st j 10),(s.st j 11),(s.en j 0),(s.en j 1),(s.en j 2),(s.en j 3),(s.en j 4),(s.en j 5),(s.en j 6),(s.en j 7),(s.en j 8),(s.en j 9),(s.en j 10),(s.en j 11),(s.sh j),(s.rt j)] wr.heap.size rfl rfl rfl (by kernel_rfl) (by kernel_rfl) (by kernel_rfl) ?_));go_wp2_with (show wpList _ _ _ [_,_,_,_,_,_] _ _;refine wpList_load_mid rfl _ _ rfl wr.heap.size 0 rfl [(s.st j 0),(s.st j 1),(s.st j 2),(s.st j 3),(s.st j 4),(s.st j 5),(s.st j 6),(s.st j 7),(s.st j 8),(s.st j 9),(s.st j 10),(s.st j 11),(s.en j 0),(s.en j 1),(s.en j 2),(s.en j 3),(s.en j 4),(s.en j 5),(s.en j 6),(s.en j 7),(s.en j 8),(s.en j 9),(s.en j 10),(s.en j 11),(s.sh j),(s.rt j)] _ x8 underlying127 rfl fQ ?_);refine r_ (pO (s.st j) (s.en j) (s.sh j) (s.rt j) s.ps.length _) fun w5 x5=>?_;have y5:Ext wr w5:=aQ3 (show Ext wr (wr.alloc (.cells #[(s.st j 0),(s.st j 1),(s.st j 2),(s.st j 3),(s.st j 4),(s.st j 5),(s.st j 6),(s.st j 7),(s.st j 8),(s.st j 9),(s.st j 10),(s.st j 11),(s.en j 0),(s.en j 1),(s.en j 2),(s.en j 3),(s.en j 4),(s.en j 5),(s.en j 6),(s.en j 7),(s.en j 8),(s.en j 9),(s.en j 10),(s.en j 11),(s.sh j),(s.rt j)] 127)) from X_) x5;have X5:=hid (HX.trans y5);have R5:=hid (HB.ext y5)
     cases q5:aM5 (s.st j) (s.en j) (s.sh j) (s.rt j) s.ps.length
     ·have h8:(aRl s.m).all s.srfB=false:=aT4.2 ⟨j,aR4.2 hlt,by unfold Scn.srfB;simp [q5]⟩
      have h6:=hid h8;clear q5 h8 x5 y5;go_wp2;go_ret;exact ⟨by rw [h6];simp,X5⟩
     ·have q7:=hid q5
      clear q5 x5 y5;go_wp2;go_roundw
      case rel=>
       refine ⟨j+1,by omega,by go_num,X5,R5,fun q hq=>?_⟩
       rcases aSd q j with h|h
       ·exact HC q h
       ·obtain rfl:q=j:=by omega
        exact q7
      case measure=>simp [intOf];omega
    ·obtain rfl:j=s.m:=by omega
     have h8:(aRl s.m).all s.srfB=true:=aR5.2 (fun q hq=>HC q (aR4.1 hq));have h6:=hid h8;clear hx hb hc h8;clear HC;have HG:=hid hge;have HJ:=hid hj;clear hge hj
     by_cases hs:qC s.side=true
     ·have h3:s.side=1\/s.side=2\/s.side=4:=by unfold qC at hs;simpa [or_assoc] using hs
      have x3:=hid hs;clear hs
      obtain ⟨sd,x0⟩:=e_ s.side
      have h5:=hid (show Blk wr w.heap.size 40 [s.c.w,s.c.h,s.c.zoom,s.c.near,.bool s.c.deep,s.c.lens,s.c.focus,s.t.log,.slice a1 s.t.px.length c1,.slice a2 s.ps.length c2,.slice a3 s.m c3,sd] from x0▸HB.out);have h7:=hid (show qC s.side=true from x3);rw [x0] at h3;clear x0 HB x3
      rcases h3 with rfl|rfl|rfl
      ·skip
       cases b1
       ·skip
        obtain ⟨s0,s1,s2,s3,s4,s5,s6,s7,s8,s9,h0,h4⟩:=h5.q12;have sl:=h5.lt;go_wp2_with fail;refine r_ (aN (c:=s.c) C1 _) fun w1 x1=>?_;have X1:=hid (HX.trans x1);have R1:=hid (h5.ext x1);clear s0 s1 s2 s3 s4 s5 s6 s7 s8 s9 h0 h4 sl;clear x1;go_wp2;go_ret;exact ⟨by rw [h6,HA,h7];first|rfl|simp [*],X1⟩
       ·cases b2
        ·skip
         obtain ⟨s0,s1,s2,s3,s4,s5,s6,s7,s8,s9,h0,h4⟩:=h5.q12;have sl:=h5.lt;go_wp2_with fail;refine r_ (aN (c:=s.c) C1 _) fun w1 x1=>?_;have X1:=hid (HX.trans x1);have R1:=hid (h5.ext x1);clear s0 s1 s2 s3 s4 s5 s6 s7 s8 s9 h0 h4 sl;clear x1;have s7:=R1.cell 7 rfl;have s8:=R1.cell 8 rfl;have s9:=R1.cell 9 rfl;have h0:=R1.cell 10 rfl;have h4:=R1.cell 11 rfl;have sl:=R1.lt;go_wp2_with fail;refine r_ (aK C2 lo hi _ _ (HT _ X1) (aQ5 hh X1.size)) fun w2 x2=>?_;have X2:=hid (X1.trans x2);have R2:=hid (R1.ext x2);clear s7 s8 s9 h0 h4 sl;clear x2;go_wp2;go_ret;exact ⟨by rw [h6,HA,h7];first|rfl|simp [*],X2⟩
        ·cases b3
         ·skip
          obtain ⟨s0,s1,s2,s3,s4,s5,s6,s7,s8,s9,h0,h4⟩:=h5.q12;have sl:=h5.lt;go_wp2_with fail;refine r_ (aN (c:=s.c) C1 _) fun w1 x1=>?_;have X1:=hid (HX.trans x1);have R1:=hid (h5.ext x1);clear s0 s1 s2 s3 s4 s5 s6 s7 s8 s9 h0 h4 sl;clear x1;have s7:=R1.cell 7 rfl;have s8:=R1.cell 8 rfl;have s9:=R1.cell 9 rfl;have h0:=R1.cell 10 rfl;have h4:=R1.cell 11 rfl;have sl:=R1.lt;go_wp2_with fail;refine r_ (aK C2 lo hi _ _ (HT _ X1) (aQ5 hh X1.size)) fun w2 x2=>?_;have X2:=hid (X1.trans x2);have R2:=hid (R1.ext x2);clear s7 s8 s9 h0 h4 sl;clear x2;have s9:=R2.cell 9 rfl;have h0:=R2.cell 10 rfl;have h4:=R2.cell 11 rfl;have sl:=R2.lt;go_wp2_with (go_at_call 46;refine z_ (aE C3 _) ?_);go_ret;exact ⟨by rw [h6,HA,h7];first|rfl|simp [*],X2⟩
         ·rcases aSd 5 s.m with hm|hm
          ·have q2 : ¬((s.m:Int)<=5):=by omega
           have g0:decide (s.m<=5)=false:=by simp;omega
           have G0:=hid g0;clear g0;obtain ⟨s0,s1,s2,s3,s4,s5,s6,s7,s8,s9,h0,h4⟩:=h5.q12;have sl:=h5.lt;go_wp2_with fail;refine r_ (aN (c:=s.c) C1 _) fun w1 x1=>?_;have X1:=hid (HX.trans x1);have R1:=hid (h5.ext x1);clear s0 s1 s2 s3 s4 s5 s6 s7 s8 s9 h0 h4 sl;clear x1;have s7:=R1.cell 7 rfl;have s8:=R1.cell 8 rfl;have s9:=R1.cell 9 rfl;have h0:=R1.cell 10 rfl;have h4:=R1.cell 11 rfl;have sl:=R1.lt;go_wp2_with fail;refine r_ (aK C2 lo hi _ _ (HT _ X1) (aQ5 hh X1.size)) fun w2 x2=>?_;have X2:=hid (X1.trans x2);have R2:=hid (R1.ext x2);clear s7 s8 s9 h0 h4 sl;clear x2;have s9:=R2.cell 9 rfl;have h0:=R2.cell 10 rfl;have h4:=R2.cell 11 rfl;have sl:=R2.lt;go_wp2_with (go_at_call 46;refine z_ (aE C3 _) ?_);go_ret;exact ⟨by rw [h6,HA,h7,G0];first|rfl|simp [*],X2⟩
          ·have q2:(s.m:Int)<=5:=by omega
           have g0:decide (s.m<=5)=true:=by simp;omega
           have G0:=hid g0;clear g0;obtain ⟨s0,s1,s2,s3,s4,s5,s6,s7,s8,s9,h0,h4⟩:=h5.q12;have sl:=h5.lt;go_wp2_with fail;refine r_ (aN (c:=s.c) C1 _) fun w1 x1=>?_;have X1:=hid (HX.trans x1);have R1:=hid (h5.ext x1);clear s0 s1 s2 s3 s4 s5 s6 s7 s8 s9 h0 h4 sl;clear x1;have s7:=R1.cell 7 rfl;have s8:=R1.cell 8 rfl;have s9:=R1.cell 9 rfl;have h0:=R1.cell 10 rfl;have h4:=R1.cell 11 rfl;have sl:=R1.lt;go_wp2_with fail;refine r_ (aK C2 lo hi _ _ (HT _ X1) (aQ5 hh X1.size)) fun w2 x2=>?_;have X2:=hid (X1.trans x2);have R2:=hid (R1.ext x2);clear s7 s8 s9 h0 h4 sl;clear x2;have s9:=R2.cell 9 rfl;have h0:=R2.cell 10 rfl;have h4:=R2.cell 11 rfl;have sl:=R2.lt;go_wp2_with (go_at_call 46;refine z_ (aE C3 _) ?_);go_ret;exact ⟨by rw [h6,HA,h7,G0];first|rfl|simp [*],X2⟩
      ·skip
       cases b1
       ·skip
        obtain ⟨s0,s1,s2,s3,s4,s5,s6,s7,s8,s9,h0,h4⟩:=h5.q12;have sl:=h5.lt;go_wp2_with fail;refine r_ (aN (c:=s.c) C1 _) fun w1 x1=>?_;have X1:=hid (HX.trans x1);have R1:=hid (h5.ext x1);clear s0 s1 s2 s3 s4 s5 s6 s7 s8 s9 h0 h4 sl;clear x1;go_wp2;go_ret;exact ⟨by rw [h6,HA,h7];first|rfl|simp [*],X1⟩
       ·cases b2
        ·skip
         obtain ⟨s0,s1,s2,s3,s4,s5,s6,s7,s8,s9,h0,h4⟩:=h5.q12;have sl:=h5.lt;go_wp2_with fail;refine r_ (aN (c:=s.c) C1 _) fun w1 x1=>?_;have X1:=hid (HX.trans x1);have R1:=hid (h5.ext x1);clear s0 s1 s2 s3 s4 s5 s6 s7 s8 s9 h0 h4 sl;clear x1;have s7:=R1.cell 7 rfl;have s8:=R1.cell 8 rfl;have s9:=R1.cell 9 rfl;have h0:=R1.cell 10 rfl;have h4:=R1.cell 11 rfl;have sl:=R1.lt;go_wp2_with fail;refine r_ (aK C2 lo hi _ _ (HT _ X1) (aQ5 hh X1.size)) fun w2 x2=>?_;have X2:=hid (X1.trans x2);have R2:=hid (R1.ext x2);clear s7 s8 s9 h0 h4 sl;clear x2;go_wp2;go_ret;exact ⟨by rw [h6,HA,h7];first|rfl|simp [*],X2⟩
        ·cases b3
         ·skip
          obtain ⟨s0,s1,s2,s3,s4,s5,s6,s7,s8,s9,h0,h4⟩:=h5.q12;have sl:=h5.lt;go_wp2_with fail;refine r_ (aN (c:=s.c) C1 _) fun w1 x1=>?_;have X1:=hid (HX.trans x1);have R1:=hid (h5.ext x1);clear s0 s1 s2 s3 s4 s5 s6 s7 s8 s9 h0 h4 sl;clear x1;have s7:=R1.cell 7 rfl;have s8:=R1.cell 8 rfl;have s9:=R1.cell 9 rfl;have h0:=R1.cell 10 rfl;have h4:=R1.cell 11 rfl;have sl:=R1.lt;go_wp2_with fail;refine r_ (aK C2 lo hi _ _ (HT _ X1) (aQ5 hh X1.size)) fun w2 x2=>?_;have X2:=hid (X1.trans x2);have R2:=hid (R1.ext x2);clear s7 s8 s9 h0 h4 sl;clear x2;have s9:=R2.cell 9 rfl;have h0:=R2.cell 10 rfl;have h4:=R2.cell 11 rfl;have sl:=R2.lt;go_wp2_with (go_at_call 46;refine z_ (aE C3 _) ?_);go_ret;exact ⟨by rw [h6,HA,h7];first|rfl|simp [*],X2⟩
         ·rcases aSd 5 s.m with hm|hm
          ·have q2 : ¬((s.m:Int)<=5):=by omega
           have g0:decide (s.m<=5)=false:=by simp;omega
           have G0:=hid g0;clear g0;obtain ⟨s0,s1,s2,s3,s4,s5,s6,s7,s8,s9,h0,h4⟩:=h5.q12;have sl:=h5.lt;go_wp2_with fail;refine r_ (aN (c:=s.c) C1 _) fun w1 x1=>?_;have X1:=hid (HX.trans x1);have R1:=hid (h5.ext x1);clear s0 s1 s2 s3 s4 s5 s6 s7 s8 s9 h0 h4 sl;clear x1;have s7:=R1.cell 7 rfl;have s8:=R1.cell 8 rfl;have s9:=R1.cell 9 rfl;have h0:=R1.cell 10 rfl;have h4:=R1.cell 11 rfl;have sl:=R1.lt;go_wp2_with fail;refine r_ (aK C2 lo hi _ _ (HT _ X1) (aQ5 hh X1.size)) fun w2 x2=>?_;have X2:=hid (X1.trans x2);have R2:=hid (R1.ext x2);clear s7 s8 s9 h0 h4 sl;clear x2;have s9:=R2.cell 9 rfl;have h0:=R2.cell 10 rfl;have h4:=R2.cell 11 rfl;have sl:=R2.lt;go_wp2_with (go_at_call 46;refine z_ (aE C3 _) ?_);go_ret;exact ⟨by rw [h6,HA,h7,G0];first|rfl|simp [*],X2⟩
          ·have q2:(s.m:Int)<=5:=by omega
           have g0:decide (s.m<=5)=true:=by simp;omega
           have G0:=hid g0;clear g0;obtain ⟨s0,s1,s2,s3,s4,s5,s6,s7,s8,s9,h0,h4⟩:=h5.q12;have sl:=h5.lt;go_wp2_with fail;refine r_ (aN (c:=s.c) C1 _) fun w1 x1=>?_;have X1:=hid (HX.trans x1);have R1:=hid (h5.ext x1);clear s0 s1 s2 s3 s4 s5 s6 s7 s8 s9 h0 h4 sl;clear x1;have s7:=R1.cell 7 rfl;have s8:=R1.cell 8 rfl;have s9:=R1.cell 9 rfl;have h0:=R1.cell 10 rfl;have h4:=R1.cell 11 rfl;have sl:=R1.lt;go_wp2_with fail;refine r_ (aK C2 lo hi _ _ (HT _ X1) (aQ5 hh X1.size)) fun w2 x2=>?_;have X2:=hid (X1.trans x2);have R2:=hid (R1.ext x2);clear s7 s8 s9 h0 h4 sl;clear x2;have s9:=R2.cell 9 rfl;have h0:=R2.cell 10 rfl;have h4:=R2.cell 11 rfl;have sl:=R2.lt;go_wp2_with (go_at_call 46;refine z_ (aE C3 _) ?_);go_ret;exact ⟨by rw [h6,HA,h7,G0];first|rfl|simp [*],X2⟩
      ·skip
       cases b1
       ·skip
        obtain ⟨s0,s1,s2,s3,s4,s5,s6,s7,s8,s9,h0,h4⟩:=h5.q12;have sl:=h5.lt;go_wp2_with fail;refine r_ (aN (c:=s.c) C1 _) fun w1 x1=>?_;have X1:=hid (HX.trans x1);have R1:=hid (h5.ext x1);clear s0 s1 s2 s3 s4 s5 s6 s7 s8 s9 h0 h4 sl;clear x1;go_wp2;go_ret;exact ⟨by rw [h6,HA,h7];first|rfl|simp [*],X1⟩
       ·cases b2
        ·skip
         obtain ⟨s0,s1,s2,s3,s4,s5,s6,s7,s8,s9,h0,h4⟩:=h5.q12;have sl:=h5.lt;go_wp2_with fail;refine r_ (aN (c:=s.c) C1 _) fun w1 x1=>?_;have X1:=hid (HX.trans x1);have R1:=hid (h5.ext x1);clear s0 s1 s2 s3 s4 s5 s6 s7 s8 s9 h0 h4 sl;clear x1;have s7:=R1.cell 7 rfl;have s8:=R1.cell 8 rfl;have s9:=R1.cell 9 rfl;have h0:=R1.cell 10 rfl;have h4:=R1.cell 11 rfl;have sl:=R1.lt;go_wp2_with fail;refine r_ (aK C2 lo hi _ _ (HT _ X1) (aQ5 hh X1.size)) fun w2 x2=>?_;have X2:=hid (X1.trans x2);have R2:=hid (R1.ext x2);clear s7 s8 s9 h0 h4 sl;clear x2;go_wp2;go_ret;exact ⟨by rw [h6,HA,h7];first|rfl|simp [*],X2⟩
        ·cases b3
         ·skip
          obtain ⟨s0,s1,s2,s3,s4,s5,s6,s7,s8,s9,h0,h4⟩:=h5.q12;have sl:=h5.lt;go_wp2_with fail;refine r_ (aN (c:=s.c) C1 _) fun w1 x1=>?_;have X1:=hid (HX.trans x1);have R1:=hid (h5.ext x1);clear s0 s1 s2 s3 s4 s5 s6 s7 s8 s9 h0 h4 sl;clear x1;have s7:=R1.cell 7 rfl;have s8:=R1.cell 8 rfl;have s9:=R1.cell 9 rfl;have h0:=R1.cell 10 rfl;have h4:=R1.cell 11 rfl;have sl:=R1.lt;go_wp2_with fail;refine r_ (aK C2 lo hi _ _ (HT _ X1) (aQ5 hh X1.size)) fun w2 x2=>?_;have X2:=hid (X1.trans x2);have R2:=hid (R1.ext x2);clear s7 s8 s9 h0 h4 sl;clear x2;have s9:=R2.cell 9 rfl;have h0:=R2.cell 10 rfl;have h4:=R2.cell 11 rfl;have sl:=R2.lt;go_wp2_with (go_at_call 46;refine z_ (aE C3 _) ?_);go_ret;exact ⟨by rw [h6,HA,h7];first|rfl|simp [*],X2⟩
         ·rcases aSd 5 s.m with hm|hm
          ·have q2 : ¬((s.m:Int)<=5):=by omega
           have g0:decide (s.m<=5)=false:=by simp;omega
           have G0:=hid g0;clear g0;obtain ⟨s0,s1,s2,s3,s4,s5,s6,s7,s8,s9,h0,h4⟩:=h5.q12;have sl:=h5.lt;go_wp2_with fail;refine r_ (aN (c:=s.c) C1 _) fun w1 x1=>?_;have X1:=hid (HX.trans x1);have R1:=hid (h5.ext x1);clear s0 s1 s2 s3 s4 s5 s6 s7 s8 s9 h0 h4 sl;clear x1;have s7:=R1.cell 7 rfl;have s8:=R1.cell 8 rfl;have s9:=R1.cell 9 rfl;have h0:=R1.cell 10 rfl;have h4:=R1.cell 11 rfl;have sl:=R1.lt;go_wp2_with fail;refine r_ (aK C2 lo hi _ _ (HT _ X1) (aQ5 hh X1.size)) fun w2 x2=>?_;have X2:=hid (X1.trans x2);have R2:=hid (R1.ext x2);clear s7 s8 s9 h0 h4 sl;clear x2;have s9:=R2.cell 9 rfl;have h0:=R2.cell 10 rfl;have h4:=R2.cell 11 rfl;have sl:=R2.lt;go_wp2_with (go_at_call 46;refine z_ (aE C3 _) ?_);go_ret;exact ⟨by rw [h6,HA,h7,G0];first|rfl|simp [*],X2⟩
          ·have q2:(s.m:Int)<=5:=by omega
           have g0:decide (s.m<=5)=true:=by simp;omega
           have G0:=hid g0;clear g0;obtain ⟨s0,s1,s2,s3,s4,s5,s6,s7,s8,s9,h0,h4⟩:=h5.q12;have sl:=h5.lt;go_wp2_with fail;refine r_ (aN (c:=s.c) C1 _) fun w1 x1=>?_;have X1:=hid (HX.trans x1);have R1:=hid (h5.ext x1);clear s0 s1 s2 s3 s4 s5 s6 s7 s8 s9 h0 h4 sl;clear x1;have s7:=R1.cell 7 rfl;have s8:=R1.cell 8 rfl;have s9:=R1.cell 9 rfl;have h0:=R1.cell 10 rfl;have h4:=R1.cell 11 rfl;have sl:=R1.lt;go_wp2_with fail;refine r_ (aK C2 lo hi _ _ (HT _ X1) (aQ5 hh X1.size)) fun w2 x2=>?_;have X2:=hid (X1.trans x2);have R2:=hid (R1.ext x2);clear s7 s8 s9 h0 h4 sl;clear x2;have s9:=R2.cell 9 rfl;have h0:=R2.cell 10 rfl;have h4:=R2.cell 11 rfl;have sl:=R2.lt;go_wp2_with (go_at_call 46;refine z_ (aE C3 _) ?_);go_ret;exact ⟨by rw [h6,HA,h7,G0];first|rfl|simp [*],X2⟩
     ·have x6:qC s.side=false:=by cases h:qC s.side with|true=>exact absurd h hs|false=>rfl
      have z0:=hid x6
      have h1 : ¬s.side=1:=fun h=>by rw [h] at hs;exact hs rfl
      have h2 : ¬s.side=2:=fun h=>by rw [h] at hs;exact hs rfl
      have h3 : ¬s.side=4:=fun h=>by rw [h] at hs;exact hs rfl
      clear hs x6;obtain ⟨s0,s1,s2,s3,s4,s5,s6,s7,s8,s9,h0,h4⟩:=HB.q12;have sl:=HB.lt;go_wp2;go_ret;exact ⟨by rw [h6,HA,z0];simp,HX⟩
theorem Ins.one (y:Ins):∀u∈y.cs,u.oneCell'=true:=by
 intro u hu;simp only [Ins.cs,aRk,aRe,or_false] at hu
 rcases hu with rfl|rfl|rfl <;> rfl
theorem aJm {p:Prg} {ra:List Int} (hj:j<ra.length):((ra.take (j+1)).flatMap fun a=>p.tr a.toNat)=((ra.take j).flatMap fun a=>p.tr a.toNat)++p.tr (ra[j]).toNat:=by
 rw [List.take_succ_eq_append_getElem hj,aSa];simp
theorem aM8 (lo hi lo2 hi2:Nat) (p:Prg) (hp:p.K) (W W2:World) (a1 a2:Option Addr) (c1 c2:Nat) (HN:rJ lo hi W a1 c1 p.ns) (hh:hi<=W.heap.size) (lv:Value) (hL:qF lo2 hi2 W2 lv (p.gs.map (·.name))) (hh2:hi2<=W2.heap.size) :
  ∀(F r:Nat) (w:World),r<F->r<p.ns.length->Ext W w->Ext W2 w->(p.tr r).length<=1000->Calls aQ2 191 #[.agg #[.slice a1 p.ns.length c1,.slice a2 p.gs.length c2],lv,(r:Nat)] w fun e w'=>∃u,e = .returned u/\fV w.heap.size w' u (p.tr r)/\Ext w w':=by
 intro F
 induction F with
 | zero=>intro r w h;omega
 | succ F ih=>
  intro r w hF hr hx y7 q5;have IH:=hid ih;have HP:=hid hp;have a4:=hid hL;have l1:=HN.le;have l2:=HN.cap;have l5:=hp.v.len;have l6:=hp.v.gs_len;obtain ⟨b,q4,op,s,n,ua,ra,rfl,b2,b3,x8,h9,io,b6,y4,x0,x1,x2,x3⟩:=HN.at hr hx hh;have hk:=jI (hp.v.nd r _ h9).1;have x5:=hid (hp.v.nd r _ h9).2;have z8:=hp.v.tr_step h9
  have y3:(ra.flatMap fun a=>p.tr a.toNat).length<=1000:=by rw [z8,aRq] at q5;simp only at q5;omega
  have z9:=hid y3;have a8:=hid z8;have HG:=hid h9;have HX:=hid hx;have y1:=hid y7;obtain ⟨ax,ac,rfl,HI⟩:=y4.open;have m1:=HI.le;have m2:=HI.cap;have y9:=hid HI
  have b4:ra.length<=3:=by rcases hk with ⟨_,_,h⟩|⟨_,h⟩|⟨_,h⟩|⟨_,_,h⟩|⟨_,h⟩ <;> (simp only at h;omega)
  have HK:=hid hk;have zz:=hx.size;have y8:Ext w (((w.alloc (.cells #[.slice (some ⟨b,q4,none⟩) p.ns.length c1,.slice a2 p.gs.length c2] 119)).alloc (.cells #[op,.string s,n,.slice ax ra.length ac] 197)).alloc (.cells #[] 221)):=X_;have bP:=(aQ8 w 119 [.slice (some ⟨b,q4,none⟩) p.ns.length c1,.slice a2 p.gs.length c2]).ext (show Ext (w.alloc (.cells #[.slice (some ⟨b,q4,none⟩) p.ns.length c1,.slice a2 p.gs.length c2] 119)) (((w.alloc (.cells #[.slice (some ⟨b,q4,none⟩) p.ns.length c1,.slice a2 p.gs.length c2] 119)).alloc (.cells #[op,.string s,n,.slice ax ra.length ac] 197)).alloc (.cells #[] 221)) from X_);have bN:=(aQ8 (w.alloc (.cells #[.slice (some ⟨b,q4,none⟩) p.ns.length c1,.slice a2 p.gs.length c2] 119)) 197 [op,.string s,n,.slice ax ra.length ac]).ext (show Ext ((w.alloc (.cells #[.slice (some ⟨b,q4,none⟩) p.ns.length c1,.slice a2 p.gs.length c2] 119)).alloc (.cells #[op,.string s,n,.slice ax ra.length ac] 197)) (((w.alloc (.cells #[.slice (some ⟨b,q4,none⟩) p.ns.length c1,.slice a2 p.gs.length c2] 119)).alloc (.cells #[op,.string s,n,.slice ax ra.length ac] 197)).alloc (.cells #[] 221)) from X_);have bO:=aQ8 ((w.alloc (.cells #[.slice (some ⟨b,q4,none⟩) p.ns.length c1,.slice a2 p.gs.length c2] 119)).alloc (.cells #[op,.string s,n,.slice ax ra.length ac] 197)) 221 [];simp only [aQy] at bN bO;have y0:=hid y8;have q9:=hid bP;have q1:=hid bN;have HO:=hid (show fV w.heap.size (((w.alloc (.cells #[.slice (some ⟨b,q4,none⟩) p.ns.length c1,.slice a2 p.gs.length c2] 119)).alloc (.cells #[op,.string s,n,.slice ax ra.length ac] 197)).alloc (.cells #[] 221)) (.slice (some ⟨w.heap.size+1+1,0,none⟩) 0 0) [] from aF.freshC (by omega) bO);clear ih hp hL x8 h9 y4 HI hk hx y7 z8 y3 q5 bP bN bO y8;go_enter func191,ntmps191;go_wp2_with fail
  go_loopw [8,20] (fun v i wr=>∃(k:Nat) (xs:List Ins),k<=ra.length/\i = .int .i64 (k:Nat)/\xs=((ra.take k).flatMap fun a=>p.tr a.toNat)/\fV w.heap.size wr v xs/\Blk wr w.heap.size 119 [.slice (some ⟨b,q4,none⟩) p.ns.length c1,.slice a2 p.gs.length c2]/\Blk wr (w.heap.size+1) 197 [op,.string s,n,.slice ax ra.length ac]/\Ext w wr) (fun _ i _=>ra.length - (intOf i).toNat)
  case atStart=>exact ⟨0,[],by omega,rfl,rfl,HO,q9,q1,y0⟩
  case round=>
   clear y0 q9 q1 HO;obtain ⟨k,xs,hk,rfl,z0,ho,x6,q7,hx⟩:=hrel;obtain ⟨xa,xc,rfl,-⟩:=aF.form ho;have z4:=hid z0
   have b5:xs.length<=1000:=by rw [z0];exact aQ5 (pC hk) z9
   by_cases z7:k<ra.length
   ·obtain ⟨b',b1,rfl,d1,d2,hc⟩:=y9.at z7
    have ha:=x5.out ra[k] (aRh z7);have x9:=aJm (p:=p) z7
    obtain ⟨q,hq⟩:∃q:Nat,ra[k]=q:=⟨ra[k].toNat,by omega⟩
    rw [hq] at hc ha x9;simp only [aRr] at x9
    have y6:xs.length+(p.tr q).length<=1000:=by rw [z0,<-aRq,<-x9];exact aQ5 (pC (by omega)) z9
    have a7:=hid x9;have HO:=hid ho;have q9:=hid x6;have q1:=hid q7;have h6:=hid hx;have b0:=(hx.cells.1 b' _ (by omega)).trans hc;obtain ⟨p0,p1⟩:=x6.q2;have pl:=x6.lt
    have bl:b'<wr.heap.size:=by have:=hx.size;omega
    have TL:=hid (show (p.tr q).length<=1000 by omega);have a3:=hid y6;clear z0 ho x6 q7 hx hc x9 hq y6;go_wp2_with fail;refine (IH q wr (by omega) (by omega) (HX.trans h6) (y1.trans h6) TL).mono ?_;rintro e w3 ⟨u,rfl,O3,x3⟩;have a5:=hid (aF.rd (sz:=3) O3 (fun _=>rfl));have z1:=hid (aF.ext HO x3);have x4:=hid (q9.ext x3);have q8:=hid (q1.ext x3);have y2:=hid (h6.trans x3);have b7:=y2.size;clear O3 x3 HO q9 q1 h6 p0 p1 pl b0;go_wp2_with (at_builtin;refine cQ Ins.cs 221 3 32 _ w3 rfl _ _ 160 rfl underlying160 tQ rfl (by decide) (by decide) (fun _=>rfl) Ins.one w.heap.size (.slice xa xs.length xc) xs rfl z1 _ _ u (p.tr q) rfl a5 ?_ ?_ ?_)
    ·have:=a3.out;omega
    ·omega
    intro v4 w4 h0 hg;have a6:=hid h0;have z3:=hid (x4.grown hg (bT x4 (by decide) z1));have z2:=hid (q8.grown hg (bT q8 (by decide) z1));have a9:=hid (aR7 y2 hg (fun k hk=>(aF.lt z1 k hk).1));clear h0 hg;go_wp2;go_roundw
    case rel=>exact ⟨k+1,xs++p.tr q,by omega,by go_num,by rw [z4,a7],a6,z3,z2,a9⟩
    case measure=>simp [intOf];omega
   ·obtain rfl:k=ra.length:=by omega
    rw [aR2] at z4;have q1:=hid q7;have h6:=hid hx;have HO:=hid ho;obtain ⟨n0,n1,n2⟩:=q7.q3;have nl:=q7.lt;have zw:=hx.size;have q6:=hid (show ∀(y:Ins) (v':Value) (w':World),bJ p ⟨op,s,n,ra⟩=y->fV w.heap.size w' v' (xs++[y])->Ext w w'->∃u,Ending.returned v' = .returned u/\fV w.heap.size w' u (p.tr r)/\Ext w w' from fun y v' w' hy h1 h2=>⟨_,rfl,by rw [a8,hy,<-z4];exact h1,h2⟩);clear z0 ho x6 q7 hx
    rcases HK with ⟨rfl,-,-⟩|⟨rfl,-⟩|⟨rfl,-⟩|⟨o1,o2,-⟩|⟨rfl,-⟩
    ·skip
     have y5:Ext wr (wr.alloc (.cells #[.int .i64 1,.string ⟨#[]⟩,n] 221)):=X_;have h4:=hid (aF.ext HO y5);have h5:=hid (h6.trans y5);have q0:=h5.size;clear y5;go_wp2_with (at_builtin;refine bZ _ rfl _ _ rfl w.heap.size (.slice xa xs.length xc) xs rfl ?_ ⟨1,⟨#[]⟩,n⟩ wr.heap.size rfl ?_ ?_ ?_ ?_)
     ·exact h4
     ·omega
     ·first|exact q0|omega
     intro v6 w6 h0 hg;have h7:=aR7 h5 hg (fun k hk=>(aF.lt h4 k hk).1);go_wp2;go_ret;exact q6 _ _ _ rfl h0 h7
    ·cases hv:cT s
     ·have z6:ixL s.toList (p.gs.map (·.name))=((pM p s:Nat):Int):=by
       obtain ⟨i,hi,_⟩:=HP.name r _ HG rfl hv;rw [vJ];unfold pM;rw [hi]
       rfl
      have hy:bJ p ⟨2,s,n,ra⟩=⟨3,⟨#[]⟩,((pM p s:Nat):Int)⟩:=by unfold bJ;simp [hv]
      obtain ⟨z,hz⟩:=e_ ((pM p s:Nat):Int)
      rw [hz] at z6 hy;have a0:=hid z6;have z5:=hid hy;clear z6 hy hz;go_wp2_with fail;refine r_ (dL hv _) fun w7 x7=>?_;replace HO:=hid (aF.ext HO x7);replace h6:=hid (h6.trans x7);have n1:=(q1.ext x7).cell 1 rfl;have nl:=(q1.ext x7).lt;go_wp2_with fail;refine (xG lo2 hi2 _ _ s _ (a4.ext hh2 (y1.trans h6)) (by rw [aSh];omega)).mono ?_;rw [a0];rintro e w8 ⟨rfl,rfl⟩;have y5:Ext w7 (w7.alloc (.cells #[.int .i64 3,.string ⟨#[]⟩,z] 221)):=X_;have h4:=hid (aF.ext HO y5);have h5:=hid (h6.trans y5);have q0:=h5.size;clear y5;go_wp2_with (at_builtin;refine bZ _ rfl _ _ rfl w.heap.size (.slice xa xs.length xc) xs rfl ?_ ⟨3,⟨#[]⟩,z⟩ w7.heap.size rfl ?_ ?_ ?_ ?_)
      ·exact h4
      ·omega
      ·first|exact q0|omega
      intro v6 w6 h0 hg;have h7:=aR7 h5 hg (fun k hk=>(aF.lt h4 k hk).1);go_wp2;go_ret;exact q6 _ _ _ z5 h0 h7
     ·have hy:bJ p ⟨2,s,n,ra⟩=⟨2,s,0⟩:=by unfold bJ;simp [hv]
      have z5:=hid hy;clear hy;go_wp2_with fail;refine r_ (dL hv _) fun w7 x7=>?_;replace HO:=hid (aF.ext HO x7);replace h6:=hid (h6.trans x7);have n1:=(q1.ext x7).cell 1 rfl;have nl:=(q1.ext x7).lt;have y5:Ext w7 (w7.alloc (.cells #[.int .i64 2,.string s,()] 221)):=X_;have h4:=hid (aF.ext HO y5);have h5:=hid (h6.trans y5);have q0:=h5.size;clear y5;go_wp2_with (at_builtin;refine bZ _ rfl _ _ rfl w.heap.size (.slice xa xs.length xc) xs rfl ?_ ⟨2,s,0⟩ w7.heap.size rfl ?_ ?_ ?_ ?_)
      ·exact h4
      ·omega
      ·first|exact q0|omega
      intro v6 w6 h0 hg;have h7:=aR7 h5 hg (fun k hk=>(aF.lt h4 k hk).1);go_wp2;go_ret;exact q6 _ _ _ z5 h0 h7
    ·skip
     have y5:Ext wr (wr.alloc (.cells #[.int .i64 5,.string ⟨#[]⟩,.int .i64 3] 221)):=X_;have h4:=hid (aF.ext HO y5);have h5:=hid (h6.trans y5);have q0:=h5.size;clear y5;go_wp2_with (at_builtin;refine bZ _ rfl _ _ rfl w.heap.size (.slice xa xs.length xc) xs rfl ?_ ⟨5,⟨#[]⟩,3⟩ wr.heap.size rfl ?_ ?_ ?_ ?_)
     ·exact h4
     ·omega
     ·first|exact q0|omega
     intro v6 w6 h0 hg;have h7:=aR7 h5 hg (fun k hk=>(aF.lt h4 k hk).1);go_wp2;go_ret;exact q6 _ _ _ rfl h0 h7
    ·have h1 : ¬op=1:=by omega
     have h2 : ¬op=2:=by omega
     have h3 : ¬op=3:=by omega
     have h8 : ¬op=8:=by omega
     have hy:=hid (show bJ p ⟨op,s,n,ra⟩=⟨6,⟨#[]⟩,op⟩ by unfold bJ;simp [h1,h2,h3,h8]);have y5:Ext wr (wr.alloc (.cells #[.int .i64 6,.string ⟨#[]⟩,op] 221)):=X_;have h4:=hid (aF.ext HO y5);have h5:=hid (h6.trans y5);have q0:=h5.size;clear y5;go_wp2_with (at_builtin;refine bZ _ rfl _ _ rfl w.heap.size (.slice xa xs.length xc) xs rfl ?_ ⟨6,⟨#[]⟩,op⟩ wr.heap.size rfl ?_ ?_ ?_ ?_)
     ·exact h4
     ·omega
     ·first|exact q0|omega
     intro v6 w6 h0 hg;have h7:=aR7 h5 hg (fun k hk=>(aF.lt h4 k hk).1);go_wp2;go_ret;exact q6 _ _ _ hy.out h0 h7
    ·skip
     have y5:Ext wr (wr.alloc (.cells #[.int .i64 7,.string s,()] 221)):=X_;have h4:=hid (aF.ext HO y5);have h5:=hid (h6.trans y5);have q0:=h5.size;clear y5;go_wp2_with (at_builtin;refine bZ _ rfl _ _ rfl w.heap.size (.slice xa xs.length xc) xs rfl ?_ ⟨7,s,0⟩ wr.heap.size rfl ?_ ?_ ?_ ?_)
     ·exact h4
     ·omega
     ·first|exact q0|omega
     intro v6 w6 h0 hg;have h7:=aR7 h5 hg (fun k hk=>(aF.lt h4 k hk).1);go_wp2;go_ret;exact q6 _ _ _ rfl h0 h7
section
open Go.RowKit Go.Maps Go.WideMaps
structure SB (p:Prg) (P R C lo:Nat) (a1 a2:Option Addr) (c1 c2:Nat) (w:World) (xs:List Ins) (iv:Value) (ls:List ByteArray) (lv:Value):Prop where
 prog:Blk w P 119 [.slice a1 p.ns.length c1,.slice a2 p.gs.length c2]
 res:Blk w R 163 [.slice none 0 0,.slice none 0 0]
 code:Blk w C 163 [iv,lv]
 ins:fV lo w iv xs
 loc:cG lo w lv ls
 low:lo<=C/\R<lo
theorem SB.ext {p:Prg} {P R C lo:Nat} {a1 a2:Option Addr} {c1 c2:Nat} {w w':World} {xs:List Ins} {iv:Value} {ls:List ByteArray} {lv:Value} (h:SB p P R C lo a1 a2 c1 c2 w xs iv ls lv) (x:Ext w w'):SB p P R C lo a1 a2 c1 c2 w' xs iv ls lv:=
 ⟨h.prog.ext x,h.res.ext x,h.code.ext x,aF.ext h.ins x,h.loc.ext x,h.low⟩
theorem SB.kn {p:Prg} {P R C lo:Nat} {a1 a2:Option Addr} {c1 c2:Nat} {w w':World} {xs xs':List Ins} {iv iv':Value} {ls:List ByteArray} {lv:Value} (h:SB p P R C lo a1 a2 c1 c2 w xs iv ls lv) (k:KN lo C 221 w w') (hc:Blk w' C 163 [iv',lv]) (hi:fV lo w' iv' xs'):SB p P R C lo a1 a2 c1 c2 w' xs' iv' ls lv:=
 ⟨KN.blk h.prog k (h.prog.neq h.code (by decide)) (by decide),KN.blk h.res k (by have:=h.low;omega) (by decide),hc,hi,KN.strs h.loc k (h.code.noCells (by decide)) (by decide),h.low⟩
theorem SB.knS {p:Prg} {P R C lo:Nat} {a1 a2:Option Addr} {c1 c2:Nat} {w w':World} {xs:List Ins} {iv lv lv':Value} {ls ls':List ByteArray} (h:SB p P R C lo a1 a2 c1 c2 w xs iv ls lv) (k:KN lo C 9 w w') (hc:Blk w' C 163 [iv,lv']) (hl:cG lo w' lv' ls'):SB p P R C lo a1 a2 c1 c2 w' xs iv ls' lv':=
 ⟨KN.blk h.prog k (h.prog.neq h.code (by decide)) (by decide),KN.blk h.res k (by have:=h.low;omega) (by decide),hc,KN.row h.ins k (h.code.noCells (by decide)) (by decide),hl,h.low⟩
theorem aCm (lo hi:Nat) (v:Value) (p:Prg) (w:World) (hv:p.R lo hi w v) (hh:hi<=w.heap.size) (hchk:p.chkB=true) (hbd:p.bd) (hnl:p.ns.length<=1048576) (hgl:p.gs.length<=1048576) :
  Calls aQ2 140 #[v] w fun e w'=>∃u,e = .returned (.tuple #[u,.bool true])/\p.code.R w.heap.size w'.heap.size w' u/\Ext w w':=by
 have HV:=hid hv;have hp:=Prg.chkB_K hchk;have HP:=hid hp;have b7:=hid hchk;obtain ⟨a1,c1,a2,c2,rfl,HN,HG⟩:=hv.form;have l1:=HN.le;have l2:=HN.cap;have l3:=HG.le;have l4:=HG.cap;have l5:=hp.v.len;have l6:=hp.v.gs_len;have c3:=hid HN;have y5:=hid HG
 have q4:∀x∈p.ns,I64 x.num:=fun x hx=>by
  obtain ⟨i,hi,d6⟩:=aRw hx;exact (HN.cell i x (by rw [<-d6];simp [hi])).1.2
 have b3:=hid (aLf hp hgl q4);have a6:=oE hp;have b8:=hid a6;have b0:=aQ8 w 119 [.slice a1 p.ns.length c1,.slice a2 p.gs.length c2];have r0:=aQ8 (w.alloc (.cells #[.slice a1 p.ns.length c1,.slice a2 p.gs.length c2] 119)) 163 [.slice none 0 0,.slice none 0 0];rw [aQy] at r0;have x0:Ext w ((w.alloc (.cells #[.slice a1 p.ns.length c1,.slice a2 p.gs.length c2] 119)).alloc (.cells #[.slice none 0 0,.slice none 0 0] 163)):=X_;have y4:=hid (b0.ext (show Ext _ ((w.alloc (.cells #[.slice a1 p.ns.length c1,.slice a2 p.gs.length c2] 119)).alloc (.cells #[.slice none 0 0,.slice none 0 0] 163)) from X_));have y9:=hid r0;have q8:=hid x0;clear hv hp hchk b0 r0 x0 q4 a6 HN HG;go_enter func140,ntmps140;go_wp2_with fail;refine (wS lo hi _ p _ (HV.ext hh q8) (aQ5 hh q8.size) hbd hnl hgl).mono ?_;rintro e w1 ⟨⟨c,k,rfl,hc⟩,x1⟩;rw [b7] at hc
 obtain rfl:c=0:=by simpa using hc
 have c6:=hid (q8.trans x1);have x9:=hid (y4.ext x1);have z0:=hid (y9.ext x1);have e5:w.heap.size+1<w1.heap.size:=z0.lt;clear x1 q8 y4 y9 hc;have xb:Ext w1 (w1.alloc (.cells #[.slice none 0 0,.slice none 0 0] 163)):=X_
 have a0:=hid (show SB p w.heap.size (w.heap.size+1) w1.heap.size w1.heap.size a1 a2 c1 c2 (w1.alloc (.cells #[.slice none 0 0,.slice none 0 0] 163)) [] (.slice none 0 0) [] (.slice none 0 0) from
  ⟨x9.ext xb,z0.ext xb,aQ8 w1 163 [.slice none 0 0,.slice none 0 0],aF.nil _ _ _ _ _,cG.nil _ _,⟨aQv _,e5⟩⟩)
 have a4:=hid (c6.trans xb);have q1:=(x9.ext xb).cell 1 rfl;clear xb x9 z0;go_wp2_with fail
 go_loopw [23] (fun i wr=>∃(k:Nat) (lv:Value),k<=p.gs.length/\i = .int .i64 (k:Nat)/\SB p w.heap.size (w.heap.size+1) w1.heap.size w1.heap.size a1 a2 c1 c2 wr [] (.slice none 0 0) ((p.gs.take k).map (·.name)) lv/\Ext w wr) (fun i _=>p.gs.length - (intOf i).toNat)
 case atStart=>exact ⟨0,_,by omega,rfl,a0,a4⟩
 case round=>
  clear a0 a4 q1;obtain ⟨k,lv,hk,rfl,hS,hx⟩:=hrel
  by_cases y2:k<p.gs.length
  ·obtain ⟨b,b2,s,rt,rfl,d4,d5,h6,h4,ir,y0,y1⟩:=y5.at y2 hx hh
   have b9:=hid h4
   obtain ⟨NL,h7⟩:=e_ ((p.gs.take k).map (·.name))
   have z4:NL.length<=200:=by rw [<-h7,aSh,aRp];omega
   rw [h7] at hS;have q7:=hid h7;obtain ⟨la,lc,rfl,-⟩:=hS.loc.form;have HS:=hid hS;have HX:=hid hx;have yA:Ext wr ((wr.alloc (.cells #[.string s,rt] 200)).alloc (.cells #[.string s] 9)):=X_;have HY:=hid yA;have q3:=hid (hS.ext yA);have b6:=aQ8 (wr.alloc (.cells #[.string s,rt] 200)) 9 [.string s];rw [aQy] at b6;have b4:=hid b6;obtain ⟨q9,x2⟩:=hS.code.q2;have d2:=hS.code.free 1;have cl:=hS.code.lt;have zr:=hx.size;have zy:=yA.size;clear hS hx h7 h6 h4 yA b6;go_wp2_with (at_builtin;refine jS _ rfl _ _ rfl w1.heap.size (.slice la NL.length lc) NL rfl ?_ s (wr.heap.size+1) rfl ?_ ?_ ?_ ?_)
   ·exact q3.loc
   ·exact b4.cell 0 rfl
   ·omega
   ·exact aQ5 (aT5 cl) zy
   intro x8 w8 h1 hg;have h2:=cG.row q3.loc
   have kC:w8.heap[w1.heap.size]?=((wr.alloc (.cells #[.string s,rt] 200)).alloc (.cells #[.string s] 9)).heap[w1.heap.size]?:=hg.block _ (by omega) (fun e=>by
    obtain ⟨_,c,hc⟩:=h2 _ e.symm
    exact q3.code.noCells (by decide) c hc)
   have K8:KN w1.heap.size w1.heap.size 9 wr w8:=((KN.refl _ _ _ _).ext HY).grown hg h2;have C8:=q3.code.of kC;have O9:=KN.strs h1 ((KN.refl w1.heap.size w1.heap.size 221 w8).set (aQv _) 1 x8) (C8.noCells (by decide)) (by decide);have z1:=hid (HS.knS (K8.set (aQv _) 1 x8) (C8.set 1 x8) O9);have z2:=hid ((K8.set (aQv _) 1 x8).up HX (aT5 (by omega)));obtain ⟨g6,g7,x4,_⟩:=h1.form
   have z9:(NL++[s]).length=NL.length+1:=by simp
   rw [z9] at x4;subst x4;have e7:=C8.cell 1 rfl;have e8:=C8.free 1;have d1:=C8.lt;clear h1 hg h2 kC K8 C8 O9 q3 HY q9 x2 d2;go_wp2_with fail;go_roundw
   case rel=>
    have e2:NL++[s]=(p.gs.take (k+1)).map (·.name):=by rw [List.take_add_one,b9,aS8,q7];rfl
    have h5:=z1.out;rw [e2] at h5;exact ⟨k+1,_,by omega,by go_num,h5,z2⟩
   case measure=>simp [intOf];omega
  ·obtain rfl:k=p.gs.length:=by omega
   rw [aR2] at hS
   obtain ⟨NL,h7⟩:=e_ (p.gs.map (·.name))
   have z4:NL.length=p.gs.length:=by rw [<-h7,aSh]
   rw [h7] at hS;have q7:=hid h7;have e6:=hid z4;have HS:=hid hS;have HX:=hid hx;have q1:=hS.prog.cell 1 rfl;have ql:=hS.prog.lt;clear hS hx h7 z4;go_wp2_with fail;clear q1 ql
   go_loopw [38] (fun i wr=>∃(k:Nat) (iv:Value),k<=p.gs.length/\i = .int .i64 (k:Nat)/\SB p w.heap.size (w.heap.size+1) w1.heap.size w1.heap.size a1 a2 c1 c2 wr (p.trs k) iv NL lv/\Ext w wr) (fun i _=>p.gs.length - (intOf i).toNat)
   case atStart=>exact ⟨0,_,by omega,rfl,HS,HX⟩
   case round=>
    clear HS HX;obtain ⟨k,iv,hk,rfl,hS,hx⟩:=hrel
    by_cases y2:k<p.gs.length
    ·obtain ⟨b,b2,s,rt,rfl,d4,d5,h6,h4,ir,y0,y1⟩:=y5.at y2 hx hh
     have d9:=(HP.v.ag k _ h4).2;simp only at d9
     obtain ⟨r,rfl⟩:∃r:Nat,rt=r:=⟨rt.toNat,by omega⟩
     have x3:=Prg.trs_step h4;have d8:=aEn (p:=p) (k:=k+1) p.gs.length (by omega) (aQv _);have z6:(p.trs p.gs.length).length<=120:=b8;simp only [aRr] at x3
     have z8:(p.trs (k+1)).length=(p.trs k).length+(p.tr r).length+1:=by rw [x3];simp;omega
     have c4:=hid x3
     obtain ⟨L,hL⟩:=e_ (p.trs k)
     rw [hL] at hS z8;have HL:=hid hL
     obtain ⟨T,hT⟩:=e_ (p.tr r)
     rw [hT] at z8;have HT:=hid hT
     have e9:L.length<=120:=by omega
     have g2:T.length<=120:=by omega
     have c5:=hid (show (p.tr r).length<=1000 by rw [hT];omega);obtain ⟨ia,ic,rfl,-⟩:=aF.form hS.ins;obtain ⟨la,lc,rfl,-⟩:=hS.loc.form;have yA:Ext wr (wr.alloc (.cells #[.string s,(r:Nat)] 200)):=X_;have HS:=hid hS;have HX:=hid hx;have c8:=hid yA;have a3:=hid (hS.ext yA);have bA:=aQ8 wr 200 [.string s,(r:Nat)];have b5:=hid bA;obtain ⟨q9,x2⟩:=hS.code.q2;have cl:=hS.code.lt;obtain ⟨e3,e4⟩:=hS.prog.q2;have pl:=hS.prog.lt;have zr:=hx.size;have zy:=yA.size;rw [aQy] at zy;clear hS hx h6 h4 x3 hL hT z8 d8 z6 yA bA;go_wp2_with fail;refine aJ [([0,1,2,3,4,5,6],7),([],8),([9],10)] 10 (fun w'=>∃d,w'=fU (C3b w1.heap.size wr.heap.size w.heap.size) _ d) (by kernel_rfl) (by kernel_rfl) (SC.drew _ _) ?_;refine sc_ fun K hK=>?_;go_wp2_with fail;refine (aM8 lo hi w1.heap.size wr.heap.size p HP w wr a1 (some ⟨b,b2,none⟩) c1 c2 c3 hh (.slice la NL.length lc) (by rw [q7];exact HS.loc.strs) (aQv _) (r+1) r _ (by omega) (by omega) (HX.trans X_) X_ c5).mono ?_;rintro e w5 ⟨u,rfl,O5,x5⟩;rw [HT] at O5;have Y5:Ext (wr.alloc (.cells #[.string s,(r:Nat)] 200)) w5:=aQ3 X_ x5;have h8:=hid Y5;have q0:=hid (a3.ext Y5);have y3:=hid (b5.ext Y5);have y8:=hid (aF.rd (sz:=3) O5 (fun _=>rfl));have z5:=Y5.size;rw [aQy] at z5;clear O5 x5 Y5;go_wp2_with fail;refine hK _ _ (.inr (SC.blocks fun a ha=>?_)) ?_
     ·rcases ha with ha|ha|ha
      ·exact h8.block (by rw [ha,aQy];omega)
      ·exact h8.block (by rw [ha,aQy];omega)
      ·exact h8.block (by rw [ha,aQy];omega)
     clear hK K
     obtain ⟨M,hM⟩:=e_ (L++T)
     have g1:M.length<=300:=by rw [<-hM,aRq];omega
     have c0:=hid hM;refine sc_ fun K hK=>?_;refine cQ Ins.cs 221 3 32 _ w5 rfl _ _ 160 rfl underlying160 tQ rfl (by decide) (by decide) (fun _=>rfl) Ins.one w1.heap.size (.slice ia L.length ic) L rfl q0.ins _ _ u T rfl y8 (by omega) (by omega) ?_;rw [hM];intro x6 w6 h1 hg;clear hM;have h2:=aF.rowC q0.ins
     have h3:∀{B:Nat} {t:TypeId} {cs:List Value},Blk w5 B t cs->t≠221->w6.heap[B]?=w5.heap[B]?:=fun hb ht=>hg.block _ hb.lt (fun e=>by
      obtain ⟨_,c,hc⟩:=h2 _ e.symm
      exact hb.noCells (Ne.symm ht) c hc)
     have kC:=h3 q0.code (by decide);have kA:=h3 y3 (by decide);have kP:=h3 q0.prog (by decide);have K6:KN w1.heap.size w1.heap.size 221 (wr.alloc (.cells #[.string s,(r:Nat)] 200)) w6:=((KN.refl _ _ _ _).ext h8).grown hg h2;have C6:=q0.code.of kC;have h9:=hid (a3.kn (K6.set (aQv _) 0 x6) (C6.set 0 x6) (aF.set h1 C6 (by decide) 0 x6));have c7:=hid ((K6.set (aQv _) 0 x6).up (HX.trans c8) (by omega));obtain ⟨q5,q6,x4,_⟩:=aF.form h1;subst x4;obtain ⟨e0,e1⟩:=C6.q2;have g0:=C6.free 0;have d0:=C6.lt;have a9:=hid (kC.trans (h8.block (by rw [aQy];omega)));have a8:=hid (kA.trans (h8.block (by rw [aQy];omega)));have b1:=hid (kP.trans (h8.block (by rw [aQy];omega)));clear h1 hg h2 h3 kC kA kP K6 C6;go_wp2_with fail;refine hK _ _ (.inr (SC.blocks fun a ha=>?_)) ?_
     ·rcases ha with ha|ha|ha
      ·rw [ha];exact a9.out
      ·rw [ha];exact a8.out
      ·rw [ha];exact b1.out
     clear hK K;refine gS ?_;simp only [aRm,aRg,aQ1,aQw,aQx]
     show wpQuiet _ _ _ _ [_] _
     simp only [Act.put,aQ4,aRc,aRb,aV2,aUs,aUt]
     repeat (go_big_quiet_step (fail))
     refine wpQuiet_nil ⟨_,rfl,fun K hK=>?_⟩;go_wp2_with fail;refine l_ hK ?_;clear hK K;refine aP ?_;clear e0 e1 g0 q9 x2 e3 e4 a9 a8 b1 h8 q0 y3 y8;have e0:=h9.code.cell 0 rfl;have g0:=h9.code.free 0;have el:=h9.code.lt;have y7:Ext (w6.setCell ⟨w1.heap.size,0,none⟩ (.slice q5 M.length q6)) ((w6.setCell ⟨w1.heap.size,0,none⟩ (.slice q5 M.length q6)).alloc (.cells #[.int .i64 4,.string ⟨#[]⟩,(k:Nat)] 221)):=X_;have y6:=hid (aF.ext h9.ins y7);have z3:=hid y7;have z7:=y7.size;clear y7;go_wp2_with (at_builtin;refine bZ _ rfl _ _ rfl w1.heap.size (.slice q5 M.length q6) M rfl ?_ ⟨4,⟨#[]⟩,(k:Nat)⟩ w6.heap.size rfl ?_ ?_ ?_ ?_)
     ·exact y6
     ·omega
     ·simp at d0 z7 ⊢;omega
     intro x7 w8 h1 hg;have h2:=aF.rowC y6
     have kC:w8.heap[w1.heap.size]?=(w6.setCell ⟨w1.heap.size,0,none⟩ (.slice q5 M.length q6)).heap[w1.heap.size]?:=(hg.block _ (by simp;omega) (fun e=>by
      obtain ⟨_,c,hc⟩:=h2 _ e.symm
      exact (h9.code.ext z3).noCells (by decide) c hc)).trans (z3.block el)
     have K8:KN w1.heap.size w1.heap.size 221 (w6.setCell ⟨w1.heap.size,0,none⟩ (.slice q5 M.length q6)) w8:=((KN.refl _ _ _ _).ext z3).grown hg h2;have C8:=h9.code.of kC;have z1:=hid (h9.kn (K8.set (aQv _) 0 x7) (C8.set 0 x7) (aF.set h1 C8 (by decide) 0 x7));have z2:=hid ((K8.set (aQv _) 0 x7).up c7 (by omega));obtain ⟨g4,g5,a7,_⟩:=aF.form h1
     have d7:(M++[(⟨4,⟨#[]⟩,(k:Nat)⟩:Ins)]).length=M.length+1:=by simp
     rw [d7] at a7;subst a7;have f0:=C8.cell 0 rfl;have h0:=C8.free 0;have d1:=C8.lt;clear h1 hg h2 kC K8 C8 e0 g0 el;go_wp2_with fail;go_roundw
     case rel=>
      have e1:M++[(⟨4,⟨#[]⟩,(k:Nat)⟩:Ins)]=p.trs (k+1):=by rw [c4,HL,HT,<-c0,aRx]
      have h5:=z1.out;rw [e1] at h5;exact ⟨k+1,_,by omega,by go_num,h5,z2⟩
     case measure=>simp [intOf];omega
    ·obtain rfl:k=p.gs.length:=by omega
     obtain ⟨ia,ic,rfl,-⟩:=aF.form hS.ins;obtain ⟨la,lc,rfl,-⟩:=hS.loc.form;obtain ⟨q9,x2⟩:=hS.code.q2;have cl:=hS.code.lt;obtain ⟨r0,r1⟩:=hS.res.q2;have f0:=hS.res.free 0;have f1:=hS.res.free 1;have rl:=hS.res.lt;have zX:=hx.size;have d3:=hid (hS.loc.strs);have hI:=hid (hS.ins.inss (aQv _) (b3 _ (aQv _)))
     have a5:p.code.R w1.heap.size wr.heap.size wr (.agg #[.slice ia (p.trs p.gs.length).length ic,.slice la NL.length lc]):=⟨_,_,rfl,hI.out,by rw [show p.code.ls=NL from q7];exact d3.out⟩
     have c9:=hid (a5.same ((aM.setLow wr (p:=⟨w.heap.size+1,0,none⟩) (by simp only;omega) (.slice ia (p.trs p.gs.length).length ic)).trans (aM.setLow _ (p:=⟨w.heap.size+1,1,none⟩) (by simp only;omega) (.slice la NL.length lc))));have g3:=hx;clear hS a5;go_wp2;refine bodyPost_ret (v:=.tuple #[.agg #[.slice ia (p.trs p.gs.length).length ic,.slice la NL.length lc],.bool true]) (by simp [results,results140,go_sem, *]) rfl ?_;exact ⟨_,rfl,c9.wideC (by omega) (by simp),S_⟩
end
theorem Scn.Ok.shadeT {s:Scn} (ho:s.Ok) {q:Nat} (hq:q<s.ps.length) (hn:1<=n/\n<=8) (f:Nat->Int):∃X Y,s.ps[q].code.shade (nE f n s.t)=(X,Y,true):=by
 have hc:=ho.prg _ (aRh hq);obtain ⟨X,Y,e,-⟩:=(Prg.chkB_K hc).shade hc (xT (f:=f) (n:=n) (t:=s.t) hn ho.t);exact ⟨X,Y,e⟩
theorem kI {s:Scn} {b:Bool} (h:s.okB=b) (lo hi:Nat) (v:Value) (w:World) (hv:s.R lo hi w v) (hh:hi<=w.heap.size) (hsm:s.small):R_ 45 #[v] w (.bool b):=h▸sG s lo hi v w hv hh hsm
theorem sH (s:Scn) (lo hi:Nat) (v:Value) (k:Nat) (w:World) (hv:s.R lo hi w v) (hh:hi<=w.heap.size) (ho:s.Ok) (hsm:s.small) (hk:k<s.m) :
  Calls aQ2 89 #[v,(k:Nat)] w fun e w'=>∃r1 r2,e = .returned (.tuple #[r1,r2,.bool true])/\aU w.heap.size w'.heap.size w' r1 (s.shade k).1/\aU w.heap.size w'.heap.size w' r2 (s.shade k).2/\Ext w w':=by
 obtain ⟨q,n,q9,hq,q8,z7,z8,q7,d2⟩:=ho.at hk;have HV:=hid hv;have HO:=hid (Scn.okB_iff.2 ho);have b1:=hid hsm;have z4:inB ((k:Nat):Int) 0 ((s.m:Int) - 1)=true:=aG.2 ⟨by omega,by omega⟩;have y7:=hid z4;obtain ⟨XX,YY,x0⟩:=ho.shadeT hq ⟨z7,z8⟩ (s.st k);obtain ⟨a1,c1,a2,c2,a3,c3,rfl,-,h5,-,h1,h2,h3⟩:=hv.form;have d1:=h3.cap;have g6:=h3.le;have g7:=h2.le;have b5:=h2.cap;obtain ⟨b,h7,rfl,g4,g5,h4⟩:=h3.at hk (by decide)
 obtain ⟨f,hf⟩:=e_ (s.st k)
 obtain ⟨g,hg⟩:=e_ (s.en k)
 have bw:b<w.heap.size:=by omega
 have q3:w.rangeAt b (h7+k*26) ((aRl 26).map fun j=>.int .i64 (s.F (k*26+j))):=by
  intro j v hj;obtain ⟨h1,h2⟩:=aQz.1 hj;simp only [aSh,aUo] at h1;simp only [aVf,aUe] at h2;subst h2;exact h4 j h1
 change w.rangeAt b (h7+k*26) [(s.st k 0),(s.st k 1),(s.st k 2),(s.st k 3),(s.st k 4),(s.st k 5),(s.st k 6),(s.st k 7),(s.st k 8),(s.st k 9),(s.st k 10),(s.st k 11),(s.en k 0),(s.en k 1),(s.en k 2),(s.en k 3),(s.en k 4),(s.en k 5),(s.en k 6),(s.en k 7),(s.en k 8),(s.en k 9),(s.en k 10),(s.en k 11),(s.sh k),(s.rt k)] at q3;simp only [hf,hg,q9,q8] at q3;have h6:=Scn.shade_at q9 hq q8;rw [hf] at h6 q7 x0;have h9:=ho.prg _ (aRh hq);have z9:=hsm _ (aRh hq);have q0:=Tex.okB_iff.1 ho.t;have H1:=hid h1;have H2:=hid h2;have x8:=hid q3;have y9:=hid h5;have c4:=hid (show ∀W:World,Ext w W->cN lo hi W (.agg #[s.t.log,.slice a1 s.t.px.length c1]) s.t from fun W x=>⟨_,rfl,h5,(h1.shut).ext hh x⟩);have x4:=hid h9;have q1:=hid z9;have b3:=hid q0;have a9:=hid q7;have b0:=hid h6;have q4:=hid x0;have x2:Ext w (w.alloc (.cells (sA_ s a1 c1 a2 c2 (some ⟨b,h7,none⟩) c3) 40)):=X_;have bS:=aQ8 w 40 (sL_ s a1 c1 a2 c2 (some ⟨b,h7,none⟩) c3);clear hv h1 h2 h3 q3 h9 z9 q0 q7 d2 h6 q9 q8 h4 hf hg h5 z4 ho hsm x0;have h0:=hid x2;have HS:=hid bS;clear x2 bS;go_enter func89,ntmps89;go_wp2_with fail;refine r_ (kI HO lo hi _ _ (HV.ext hh h0) (aQ5 hh h0.size) b1) fun W0 x1=>?_;have x2:=h0.trans x1;have bS:=HS.ext x1;clear h0 HS x1;have h0:=hid x2;have HS:=hid bS;have b6:=bS.cell 10 rfl;have ls:=bS.lt;clear x2 bS;go_wp2_with fail;refine z_ (aE y7 _) ?_;have z3:W0.rangeAt b (h7+k*26) [(f 0),(f 1),(f 2),(f 3),(f 4),(f 5),(f 6),(f 7),(f 8),(f 9),(f 10),(f 11),(g 0),(g 1),(g 2),(g 3),(g 4),(g 5),(g 6),(g 7),(g 8),(g 9),(g 10),(g 11),(q:Nat),(n:Nat)]:=fun j v hj=>(h0.cells.1 b _ bw).trans (x8 j v hj);have x3:=hid z3
 have lb:b<W0.heap.size:=by have:=h0.size;omega
 clear z3;go_upto_region 4 with (first|(show wpList _ _ _ [_,_,_] _ _;refine wpList_load_mid rfl _ _ rfl b (h7+k*26) rfl [(f 0),(f 1),(f 2),(f 3),(f 4),(f 5),(f 6),(f 7),(f 8),(f 9),(f 10),(f 11),(g 0),(g 1),(g 2),(g 3),(g 4),(g 5),(g 6),(g 7),(g 8),(g 9),(g 10),(g 11),(q:Nat),(n:Nat)] _ x3 underlying127 rfl iG ?_)|(show wpList _ _ _ [_] _ _;refine dI _ _ _ rfl 127 (.tmp 7) (.tmp 28) rfl rfl #[(f 0),(f 1),(f 2),(f 3),(f 4),(f 5),(f 6),(f 7),(f 8),(f 9),(f 10),(f 11),(g 0),(g 1),(g 2),(g 3),(g 4),(g 5),(g 6),(g 7),(g 8),(g 9),(g 10),(g 11),(q:Nat),(n:Nat)] W0.heap.size rfl rfl rfl (by kernel_rfl) (by kernel_rfl) (by kernel_rfl) ?_));have xA:Ext W0 (W0.alloc (.cells #[(f 0),(f 1),(f 2),(f 3),(f 4),(f 5),(f 6),(f 7),(f 8),(f 9),(f 10),(f 11),(g 0),(g 1),(g 2),(g 3),(g 4),(g 5),(g 6),(g 7),(g 8),(g 9),(g 10),(g 11),(q:Nat),(n:Nat)] 127)):=X_;have bA:=aQ8 W0 127 [(f 0),(f 1),(f 2),(f 3),(f 4),(f 5),(f 6),(f 7),(f 8),(f 9),(f 10),(f 11),(g 0),(g 1),(g 2),(g 3),(g 4),(g 5),(g 6),(g 7),(g 8),(g 9),(g 10),(g 11),(q:Nat),(n:Nat)]
 obtain ⟨A,hA⟩:=e_ W0.heap.size
 obtain ⟨W1,z2⟩:=e_ (W0.alloc (.cells #[(f 0),(f 1),(f 2),(f 3),(f 4),(f 5),(f 6),(f 7),(f 8),(f 9),(f 10),(f 11),(g 0),(g 1),(g 2),(g 3),(g 4),(g 5),(g 6),(g 7),(g 8),(g 9),(g 10),(g 11),(q:Nat),(n:Nat)] 127))
 rw [z2] at xA bA ⊢;rw [hA] at bA ls lb ⊢;have X1:=hid (h0.trans xA);have S1:=HS.ext xA;have z1:=hid S1;have y0:=hid bA;have d9:=S1.cell 9 rfl;have d5:=S1.lt;have b9:=bA.cell 24 rfl;have lA:=bA.lt;obtain ⟨b2,g0,na,nc,ga,gc,rfl,d0,c9,k1,k2,hR⟩:=H2.at hq X1 hh;have HR:=hid hR;clear z2 hA xA bA S1 hR b6 ls lb HS h0 x3 x8;go_wp2_with fail;refine (aCm lo hi _ (s.ps[q]'hq) _ HR (aQ5 hh X1.size) x4 q1.1 q1.2.1.1 q1.2.2).mono ?_;rintro e w5 ⟨u,rfl,R5,x5⟩
 obtain ⟨K,hK⟩:=e_ ((s.ps[q]'hq).code)
 have y8:=hid (show K.small by rw [<-hK];exact ⟨by have:=oE (Prg.chkB_K x4);omega,by show ((s.ps[q]'hq).gs.map (·.name)).length<=1048576;rw [aSh];exact q1.2.2⟩);have z0:=hid hK;rw [hK] at R5;obtain ⟨a5,c5,a6,c6,rfl,-,-⟩:=R5.form;have y5:Ext w5 (w5.alloc (.cells #[.slice a5 K.xs.length c5,.slice a6 K.ls.length c6] 163)):=X_;have bC:=aQ8 w5 163 [.slice a5 K.xs.length c5,.slice a6 K.ls.length c6];have y2:=hid (R5.ext (aQv _) y5);have X5:=hid (X1.trans (x5.trans y5));have S5:=z1.ext (x5.trans y5);have A5:=y0.ext (x5.trans y5);have y1:=hid bC;have z5:=(x5.trans y5).size;have g3:=y5.size;have g9:=x5.size;have d7:=S5.cell 7 rfl;have d8:=S5.cell 8 rfl;have d6:=S5.lt;obtain ⟨e0,e1,e2,e3,e4,e5,e6,e7,e8,e9,b7,b8⟩:=A5.q12;have c0:=A5.cell 25 rfl;have d3:=A5.lt;clear R5 x5 y5 bC S5 A5 d9 d5 b9 lA k1 k2 hK z1 HR;go_wp2_with fail;refine (aGv lo hi f a9 n ⟨z7,z8⟩ 0 ⟨by decide,by decide⟩ _ s.t _ (c4.out _ X5) (aQ5 hh X5.size) b3).mono ?_;rintro e w6 ⟨gv,rfl,R6,x6⟩
 obtain ⟨g1,g2,hg⟩:∃g:Grd,nE f n s.t=g/\True:=⟨_,rfl,trivial⟩
 have x9:=hid g2;change (nE f n s.t).R _ _ _ _ at R6;rw [g2] at R6;obtain ⟨a7,c7,a8,c8,rfl⟩:=Grd.R.formS R6;have y6:Ext w6 (w6.alloc (.cells #[g1.n,.slice a7 g1.m c7,g1.tm,g1.t.log,.slice a8 g1.t.px.length c8] 168)):=X_;have bG:=aQ8 w6 168 [g1.n,.slice a7 g1.m c7,g1.tm,g1.t.log,.slice a8 g1.t.px.length c8];have y4:=hid (R6.ext (aQv _) y6);have X6:=hid (X5.trans (x6.trans y6));have B6:=y1.ext (x6.trans y6);have y3:=hid (y2.ext (by have:=g3;omega) (x6.trans y6));have z6:=(x6.trans y6).size;have g8:=y6.size;obtain ⟨f0,f1⟩:=B6.q2;have d4:=B6.lt;obtain ⟨i0,i1,i2,i3,i4⟩:=bG.q5;have lG:=bG.lt;clear R6 x6 y6 bG B6 hg g2 d7 d8 d6 e0 e1 e2 e3 e4 e5 e6 e7 e8 e9 b7 b8 c0 d3;go_wp2_with fail
 have q6:K.shade g1=(XX,YY,true):=by rw [<-z0,<-x9];exact q4
 have h8:(s.shade k).1=XX/\(s.shade k).2=YY:=by
  rw [b0,z0,x9,q6];exact ⟨rfl,rfl⟩
 have HE:=hid h8;have b4:=hid q6;clear q6 h8;refine (xK _ _ _ _ _ _ K g1 _ b4 y3 (by omega) y4 (by omega) y8).mono ?_;rintro e w7 ⟨r1,r2,rfl,O1,O2,x7⟩;have X7:=hid (X6.trans x7);have a0:=hid O1;have a4:=hid O2;clear O1 O2 x7 f0 f1 d4 i0 i1 i2 i3 i4 lG;go_wp2
 go_ret3
 have zl:=X6.size;exact ⟨r1,r2,rfl,by rw [HE.1];exact a0.wide zl (aQv _),by rw [HE.2];exact a4.wide zl (aQv _),X7⟩
def sI (s:Scn) (j:Nat):List (List Int):=(aRl j).map fun k=>(s.shade k).1
def aCn (s:Scn) (j:Nat):List (List Int):=(aRl j).map fun k=>(s.shade k).2
theorem aGw (s:Scn) (j:Nat):sI s (j+1)=sI s j++[(s.shade j).1]:=xW _ _
theorem aJn (s:Scn) (j:Nat):aCn s (j+1)=aCn s j++[(s.shade j).2]:=xW _ _
theorem aLi (s:Scn) (h:k<j):(sI s j)[k]?=some (s.shade k).1:=by simp [sI,h]
theorem aM9 (s:Scn) (h:k<j):(aCn s j)[k]?=some (s.shade k).2:=by simp [aCn,h]
theorem sJ (s:Scn) (j:Nat):(sI s j).length=j:=by simp [sI]
theorem uO (s:Scn) (j:Nat):(aCn s j).length=j:=by simp [aCn]
theorem xX:(Tryz.prog.info? 24).map (fun i=>(i.zero,i.size,i.bytes))=some (some (.slice none 0 0),1,24):=by kernel_rfl
theorem aJo:(Tryz.prog.info? 78).map (·.size)=some 2:=by kernel_rfl
theorem aU.formS {l:Nat} {r:List Int} (hi:aU l h w u r):∃a c,u = .slice a r.length c:=by
 obtain ⟨a,c,e,-⟩:=hi;exact ⟨a,c,e⟩
def aLj (v v2:Value):Prop:=∀k,v.ownBlock=some k->v2.ownBlock≠some k
structure aEp (s:Scn) (lo:Nat) (w:World) (cv av:Value) (j:Nat):Prop where
 c:dJ lo w cv av (sI s j)
 a:dJ lo w av cv (aCn s j)
 ap:aLj cv av
theorem aEp.ext {s:Scn} (h:aEp s lo w cv av j) (x:Ext w w'):aEp s lo w' cv av j:=⟨h.c.ext x,h.a.ext x,h.ap⟩
theorem aF.otherRow {α : Type} {cs : α->List Value} {v2:Value} {xs:List α} (h:aF cs lo e sz w v xs) (hg:w.grownBy w' v2.ownBlock) (ap:∀k,v.ownBlock=some k->v2.ownBlock≠some k):aF cs lo e sz w' v xs:=by
 refine ⟨h.1,?_⟩
 rcases h.2 with hn|⟨g,cap,cur,hv,hb,hg2,r⟩
 ·exact .inl hn
 ·exact .inr ⟨g,cap,cur,hv,hb,(hg.block g (Array.getElem?_eq_some_iff.1 hg2).1 (fun e=>ap g (by rw [hv];rfl) e.symm)).trans hg2,r⟩
theorem dJ.lt {v2:Value} {rows:List (List Int)} (h:dJ lo w v v2 rows):∀k,v.ownBlock=some k->lo<=k/\k<w.heap.size:=by
 obtain ⟨us,-,h2,-⟩:=h;exact h2.lt
theorem aLk (s:Scn) (lo hi:Nat) (v:Value) (w:World) (hv:s.R lo hi w v) (hh:hi<=w.heap.size) (ho:s.Ok) (hsm:s.small) :
  Calls aQ2 48 #[v] w fun e w'=>∃cv av,e = .returned (.agg #[cv,av])/\aEp s w.heap.size w' cv av s.m/\Ext w w':=by
 have HV:=hid hv;have b5:=ho.m;obtain ⟨a1,c1,a2,c2,a3,c3,rfl⟩:=hv.formV;have b3:=hid hsm;have HO:=hid ho;have x0:Ext w (((w.alloc (.cells (sA_ s a1 c1 a2 c2 a3 c3) 40)).alloc (.cells #[.slice none 0 0,.slice none 0 0] 78)).alloc (.cells #[.slice none 0 0,.slice none 0 0] 78)):=X_;have bS:=((aQ8 w 40 (sL_ s a1 c1 a2 c2 a3 c3)).ext (show Ext _ ((w.alloc (.cells (sA_ s a1 c1 a2 c2 a3 c3) 40)).alloc (.cells #[.slice none 0 0,.slice none 0 0] 78)) from X_)).ext (show Ext _ (((w.alloc (.cells (sA_ s a1 c1 a2 c2 a3 c3) 40)).alloc (.cells #[.slice none 0 0,.slice none 0 0] 78)).alloc (.cells #[.slice none 0 0,.slice none 0 0] 78)) from X_);have bR:=(aQ8 (w.alloc (.cells (sA_ s a1 c1 a2 c2 a3 c3) 40)) 78 [.slice none 0 0,.slice none 0 0]).ext (show Ext _ (((w.alloc (.cells (sA_ s a1 c1 a2 c2 a3 c3) 40)).alloc (.cells #[.slice none 0 0,.slice none 0 0] 78)).alloc (.cells #[.slice none 0 0,.slice none 0 0] 78)) from X_);have bO:=aQ8 ((w.alloc (.cells (sA_ s a1 c1 a2 c2 a3 c3) 40)).alloc (.cells #[.slice none 0 0,.slice none 0 0] 78)) 78 [.slice none 0 0,.slice none 0 0];simp only [aQy] at bR bO
 obtain ⟨W0,z9⟩:=e_ (((w.alloc (.cells (sA_ s a1 c1 a2 c2 a3 c3) 40)).alloc (.cells #[.slice none 0 0,.slice none 0 0] 78)).alloc (.cells #[.slice none 0 0,.slice none 0 0] 78))
 rw [z9] at x0 bS bR bO;have y8:=hid x0;have z2:=hid bS;have y6:=hid bR;have y4:=hid bO;have y7:=hid z9
 have z0:w.heap.size+2<W0.heap.size:=by have:=bO.lt;omega
 clear hv ho hsm x0 bS bR bO z9;go_enter func48,ntmps48;go_upto_region 2 with fail
 try simp only [aQy]
 rw [y7];have z8:=z2.cell 10 rfl;go_wp2_with fail;clear z8
 go_loopw [12] (fun i wr=>∃(k:Nat) (cv av:Value),k<=s.m/\i = .int .i64 (k:Nat)/\Ext w wr/\Blk wr w.heap.size 40 (sL_ s a1 c1 a2 c2 a3 c3)/\Blk wr (w.heap.size+1) 78 [.slice none 0 0,.slice none 0 0]/\Blk wr (w.heap.size+2) 78 [cv,av]/\aEp s (w.heap.size+3) wr cv av k) (fun i _=>s.m - (intOf i).toNat)
 case atStart=>exact ⟨0,_,_,by omega,rfl,y8,z2,y6,y4,dJ.nil (aF.nil _ _ _ _ _),dJ.nil (aF.nil _ _ _ _ _),fun k e=>nomatch e⟩
 case round=>
  obtain ⟨k,cv,av,hk,rfl,hx,hs,hr,hb,hd⟩:=hrel;have HX:=hid hx;have HS:=hid hs;have HR:=hid hr;have HB:=hid hb;have HD:=hid hd;have zr:=hb.lt;clear y8 z2 y6 y4 y7 z0
  rcases aSd k s.m with hlt|hge
  ·have b6:=b5
   have c:=hs.lt;obtain ⟨c0,c1,c2,c3,c4,c5,c6,c7,c8,c9,z8,b4⟩:=hs.q12;clear hx hs hr hb hd;go_wp2_with fail;have CH:=sH s lo hi _ k _ (HV.ext hh HX) (aQ5 hh HX.size) HO b3 hlt;refine CH.mono ?_;clear CH;rintro e w1 ⟨r1,r2,rfl,i1,i2,x1⟩;have D1:=hid (HD.ext x1);have h9:=hid (HB.ext x1);have z4:=hid (HS.ext x1);have z1:=hid (HR.ext x1);have z6:=hid (HX.trans x1);have zw:=x1.size;obtain ⟨ra,rc,rfl⟩:=i1.formS;obtain ⟨qa,qc,rfl⟩:=i2.formS;obtain ⟨us,h1,h2,h3⟩:=D1.c;obtain ⟨ca,cc,rfl,-⟩:=h2.form;obtain ⟨q7,k1,k2,k3⟩:=D1.a;obtain ⟨aa,ac,rfl,-⟩:=k2.form;have L0:=hid HD.c.lt;have L1:=hid HD.a.lt;have I1:=hid i1;have I2:=hid i2;have H1:=hid h1;have H2:=hid h2;have H3:=hid h3;have K1:=hid k1
   have a6:us.length<1000000:=by rw [h1,sJ];omega
   have z5:=hid a6;clear x1 i1 i2 c c0 c1 c2 c3 c4 c5 c6 c7 c8 c9 z8 b4 h1 h2 h3 k1 k2 k3 a6;have b:=h9.lt;obtain ⟨b0,b1⟩:=h9.q2;have y1:Ext w1 (w1.alloc (.cells #[.slice ra (s.shade k).1.length rc] 24)):=X_;have HE:=hid (aQ8 w1 24 [.slice ra (s.shade k).1.length rc]);have Y1:=hid y1;clear y1
   have x7:Hid (∀j,j<1->(w1.alloc (.cells #[.slice ra (s.shade k).1.length rc] 24)).cell? ⟨w1.heap.size,j,none⟩=[aR9 ra (s.shade k).1.length rc][j]?):=hid (fun j hj=>by
    obtain rfl:j=0:=by omega
    exact HE.cell 0 rfl)
   have x8:Hid (∀u∈[aR9 ra (s.shade k).1.length rc],u.oneCell'=true):=hid (fun u hu=>by
    rw [aTy] at hu;subst hu
    rfl)
   have x9:=hid (show w.heap.size+3<=(w1.alloc (.cells #[.slice ra (s.shade k).1.length rc] 24)).heap.size by simp;omega);have q6:=hid (H2.ext Y1);have a9:=hid (fun e:(w.heap.size+2)=0=>e);have h6:=aF.rowE q6;have q0:=hid (h9.ext Y1);have h7:=hid (show ∀q,q<w.heap.size+3->some q≠(aR9 ca us.length cc).ownBlock from fun q hq e=>by have:=(h6 q e.symm).1;omega)
   have a0:w.heap.size+2<w.heap.size+3:=by omega
   have x6:=hid a0;clear b b0 b1 a0 h6;have b:=h9.lt;obtain ⟨b0,b1⟩:=h9.q2;go_upto_region 7 with (at_builtin;refine iH (fun u=>[u]) 24 1 24 _ _ rfl _ _ 76 rfl underlying76 xX rfl (by decide) (by decide) (fun _=>rfl) (w.heap.size+3) (.slice ca us.length cc) us rfl q6 (.slice ra (s.shade k).1.length rc) w1.heap.size rfl x7 x8 z5 x9 ?_;intro v2 w2 h5 hg x3;obtain ⟨va,vc,rfl,-⟩:=aF.form h5;have h4:=hid (q0.grown hg (h7 _ x6));have e0:=h4.cell 0 rfl;have e1:=h4.cell 1 rfl;have f0:=h4.free 0;have f1:=h4.free 1;have lb:=h4.lt;have q1:=hid h5;have HG:=hid hg;have h8:=hid x3;clear h5 hg x3)
   obtain ⟨nu,b7⟩:=e_ ((us++[aR9 ra (s.shade k).1.length rc]).length)
   have y2:(w1.alloc (.cells #[.slice ra (s.shade k).1.length rc] 24)).heap.size=w1.heap.size+1:=aQy _ _
   have P1:dJ (w.heap.size+3) w2 (.slice va (us++[aR9 ra (s.shade k).1.length rc]).length vc) (.slice aa q7.length ac) (sI s (k+1)):=by
    rw [aGw];refine dJ.push (v:=.slice ca us.length cc) (w:=w1.alloc (.cells #[.slice ra (s.shade k).1.length rc] 24)) H1 (fun k' u r hu hr=>?_) HG q1 h8 (l:=wr.heap.size) (h:=w1.heap.size) (by omega) (by omega) ((I1.ext (aQv _) Y1)) ?_ ?_
    ·obtain ⟨l,h,e0,e1,e2,e3,e4⟩:=H3 k' u r hu hr
     exact ⟨l,h,e0,aQ5 e1 (by omega),e2.ext e1 Y1,e3,e4⟩
    ·intro b e
     exact .inl (L0 b e).2
    ·intro b e
     exact .inl (L1 b e).2
   have P2:dJ (w.heap.size+3) w2 (.slice aa q7.length ac) (.slice va (us++[aR9 ra (s.shade k).1.length rc]).length vc) (aCn s k):=by
    refine (D1.a.ext Y1).beside HG h8 fun us' ho=>ho.otherRow HG fun b e e2=>D1.ap b e2 e
   have P3:aLj (.slice va (us++[aR9 ra (s.shade k).1.length rc]).length vc) (.slice aa q7.length ac):=by
    intro b e e2
    rcases h8 b e with h|h
    ·exact D1.ap b h e2
    ·have:=(L1 b e2).2
     omega
   have q9:=hid ((z4.ext Y1).grown HG (h7 _ (by omega)));have q8:=hid ((z1.ext Y1).grown HG (h7 _ (by omega)));have x2:=hid (aR7 (z6.trans Y1) HG (fun k e=>Nat.le_of_not_lt fun h=>h7.out k (by omega) e.symm))
   have b8:w1.heap.size+1<=w2.heap.size:=by have:=HG.size;omega
   have y5:=hid (I2.same (w':=w2) (fun b b1 b2=>(HG.block b (by omega) (fun e=>by
     have:=(L0 b e.symm).2
     omega)).trans (Y1.block b2)))
   have q3:=hid P1;have q5:=hid P2;have q4:=hid P3;have y9:=hid L1
   have z7:Hid (∀b,(aR9 va (us++[aR9 ra (s.shade k).1.length rc]).length vc).ownBlock=some b->b<wr.heap.size\/w1.heap.size<=b):=hid (fun b e=>by
    rcases h8 b e with h|h
    ·exact .inl (L0 b h).2
    ·exact .inr (by omega))
   clear P1 P2 P3 e0 e1 f0 f1 lb b b0 b1 y2 b7 nu L0 L1
   have x4:(us++[aR9 ra (s.shade k).1.length rc]).length=us.length+1:=by simp
   rw [x4] at q3 q5 q4 z7
   obtain ⟨nc,a5⟩:=e_ (us.length+1)
   rw [a5] at q3 q5 q4 z7 ⊢;have b9:=hid q3.lt;have B3:Blk (w2.setCell ⟨w.heap.size+1+1,0,none⟩ (.slice va nc vc)) (w.heap.size+2) 78 [.slice va nc vc,.slice aa q7.length ac]:=h4.set 0 (.slice va nc vc);have S3:Blk (w2.setCell ⟨w.heap.size+1+1,0,none⟩ (.slice va nc vc)) w.heap.size 40 (sL_ s a1 c1 a2 c2 a3 c3):=q9.other (by simp only;omega) _;have R3:Blk (w2.setCell ⟨w.heap.size+1+1,0,none⟩ (.slice va nc vc)) (w.heap.size+1) 78 [.slice none 0 0,.slice none 0 0]:=q8.other (by simp only;omega) _;have X3:Ext w (w2.setCell ⟨w.heap.size+1+1,0,none⟩ (.slice va nc vc)):=aRf x2 (by simp only;omega) _;have P1:=q3.setLow (p:=⟨w.heap.size+1+1,0,none⟩) (by simp only;omega) (.slice va nc vc);have P2:=q5.setLow (p:=⟨w.heap.size+1+1,0,none⟩) (by simp only;omega) (.slice va nc vc);have I3:=y5.setLow (p:=⟨w.heap.size+1+1,0,none⟩) (by simp only;omega) (.slice va nc vc);have z3:(w2.setCell ⟨w.heap.size+1+1,0,none⟩ (.slice va nc vc)).heap.size=w2.heap.size:=aSg _ _ _
   obtain ⟨wq,a7⟩:=e_ (w2.setCell ⟨w.heap.size+1+1,0,none⟩ (.slice va nc vc))
   rw [a7] at B3 S3 R3 X3 P1 P2 I3 z3 ⊢
   have d0:w1.heap.size+1<=wq.heap.size:=by omega
   obtain ⟨h0,k1,k2,k3⟩:=P2
   have x5:h0.length<1000000:=by rw [k1,uO];omega
   obtain ⟨ab,ad,a4,-⟩:=k2.form;simp only [aRo] at a4;obtain ⟨rfl,y0,rfl⟩:=a4;rw [y0] at q4 B3 y9 k2 P1;simp only [y0] at k3;have L1:=hid k2.lt;have L0:=hid P1.lt;have h9:=hid B3;have z4:=hid S3;have z1:=hid R3;have z6:=hid X3;have a8:=hid P1;have y3:=hid q4;have I2:=hid I3;have H1:=hid k1;have H2:=hid k2;have H3:=hid k3;have z5:=hid x5;clear B3 S3 R3 X3 P1 I3 k1 k2 k3 x5 a7 q3 q5 q4 h4 q9 q8 x2 y5 x4 y0 HG h8 q1 x7 x8 x9 q6 HE Y1 q0 h7 x6 a9 z3 b8;have y1:Ext wq (wq.alloc (.cells #[.slice qa (s.shade k).2.length qc] 24)):=X_;have HE:=hid (aQ8 wq 24 [.slice qa (s.shade k).2.length qc]);have Y1:=hid y1;clear y1
   have x7:Hid (∀j,j<1->(wq.alloc (.cells #[.slice qa (s.shade k).2.length qc] 24)).cell? ⟨wq.heap.size,j,none⟩=[aR9 qa (s.shade k).2.length qc][j]?):=hid (fun j hj=>by
    obtain rfl:j=0:=by omega
    exact HE.cell 0 rfl)
   have x8:Hid (∀u∈[aR9 qa (s.shade k).2.length qc],u.oneCell'=true):=hid (fun u hu=>by
    rw [aTy] at hu;subst hu
    rfl)
   have x9:=hid (show w.heap.size+3<=(wq.alloc (.cells #[.slice qa (s.shade k).2.length qc] 24)).heap.size by simp;omega);have q6:=hid (H2.ext Y1);have h6:=aF.rowE q6;have q0:=hid (h9.ext Y1);have h7:=hid (show ∀q,q<w.heap.size+3->some q≠(aR9 aa h0.length ac).ownBlock from fun q hq e=>by have:=(h6 q e.symm).1;omega);have x6:=hid (show w.heap.size+2<w.heap.size+3 by omega);clear h6;have b:=h9.lt;obtain ⟨b0,b1⟩:=h9.q2;go_upto_region 8 with (at_builtin;refine iH (fun u=>[u]) 24 1 24 _ _ rfl _ _ 76 rfl underlying76 xX rfl (by decide) (by decide) (fun _=>rfl) (w.heap.size+3) (.slice aa h0.length ac) h0 rfl q6 (.slice qa (s.shade k).2.length qc) wq.heap.size rfl x7 x8 z5 x9 ?_;intro v4 w4 h5 hg x3;obtain ⟨vb,vd,rfl,-⟩:=aF.form h5;have h4:=hid (q0.grown hg (h7 _ x6));have e0:=h4.cell 0 rfl;have e1:=h4.cell 1 rfl;have f0:=h4.free 0;have f1:=h4.free 1;have lb:=h4.lt;have q1:=hid h5;have HG:=hid hg;have h8:=hid x3;clear h5 hg x3);have y2:(wq.alloc (.cells #[.slice qa (s.shade k).2.length qc] 24)).heap.size=wq.heap.size+1:=aQy _ _
   have P1:dJ (w.heap.size+3) w4 (.slice vb (h0++[aR9 qa (s.shade k).2.length qc]).length vd) (.slice va nc vc) (aCn s (k+1)):=by
    rw [aJn];refine dJ.push (v:=.slice aa h0.length ac) (w:=wq.alloc (.cells #[.slice qa (s.shade k).2.length qc] 24)) H1 (fun k' u r hu hr=>?_) HG q1 h8 (l:=wr.heap.size) (h:=w1.heap.size) (by omega) (by omega) (I2.same (w':=wq.alloc (.cells #[.slice qa (s.shade k).2.length qc] 24)) (fun b b1 b2=>Y1.block (by omega))) ?_ ?_
    ·obtain ⟨l,h,e0,e1,e2,e3,e4⟩:=H3 k' u r hu hr
     exact ⟨l,h,e0,aQ5 e1 (by omega),e2.ext e1 Y1,e3,e4⟩
    ·intro b e
     exact .inl (y9 b e).2
    ·intro b e
     rcases z7 b e with h|h
     ·exact .inl h
     ·exact .inr h
   have P2:dJ (w.heap.size+3) w4 (.slice va nc vc) (.slice vb (h0++[aR9 qa (s.shade k).2.length qc]).length vd) (sI s (k+1)):=by
    refine (a8.ext Y1).beside HG h8 fun us' ho=>ho.otherRow HG fun b e e2=>y3 b e e2
   have P3:aLj (.slice va nc vc) (.slice vb (h0++[aR9 qa (s.shade k).2.length qc]).length vd):=by
    intro b e e2
    rcases h8 b e2 with h|h
    ·exact y3 b e h
    ·have:=(L0 b e).2
     omega
   have q9:=hid ((z4.ext Y1).grown HG (h7 _ (by omega)));have q8:=hid ((z1.ext Y1).grown HG (h7 _ (by omega)));have x2:=hid (aR7 (z6.trans Y1) HG (fun k e=>Nat.le_of_not_lt fun h=>h7.out k (by omega) e.symm));have q3:=hid P1;have q5:=hid P2;have q4:=hid P3;clear P1 P2 P3 e0 e1 f0 f1 lb b b0 b1 y2
   have x4:(h0++[aR9 qa (s.shade k).2.length qc]).length=h0.length+1:=by simp
   rw [x4] at q3 q5 q4;have B5:=hid (show Blk (w4.setCell ⟨w.heap.size+1+1,1,none⟩ (.slice vb (h0.length+1) vd)) (w.heap.size+2) 78 [.slice va nc vc,.slice vb (h0.length+1) vd] from h4.set 1 (.slice vb (h0.length+1) vd));have S5:=hid (show Blk (w4.setCell ⟨w.heap.size+1+1,1,none⟩ (.slice vb (h0.length+1) vd)) w.heap.size 40 (sL_ s a1 c1 a2 c2 a3 c3) from q9.other (by simp only;omega) _);have R5:=hid (show Blk (w4.setCell ⟨w.heap.size+1+1,1,none⟩ (.slice vb (h0.length+1) vd)) (w.heap.size+1) 78 [.slice none 0 0,.slice none 0 0] from q8.other (by simp only;omega) _);have X5:=hid (show Ext w (w4.setCell ⟨w.heap.size+1+1,1,none⟩ (.slice vb (h0.length+1) vd)) from aRf x2 (by simp only;omega) _);have D5:=hid (aEp.mk (s:=s) (j:=k+1) (q5.setLow (p:=⟨w.heap.size+1+1,1,none⟩) (by simp only;omega) (.slice vb (h0.length+1) vd)) (q3.setLow (p:=⟨w.heap.size+1+1,1,none⟩) (by simp only;omega) (.slice vb (h0.length+1) vd)) q4);clear q3 q5 q4 h4 q9 q8 x2 x4 a5;go_wp2;go_roundw
   case rel=>exact ⟨k+1,_,_,by omega,by go_num,X5,S5,R5,B5,D5⟩
   case measure=>simp [intOf];omega
  ·obtain rfl:k=s.m:=by omega
   have b:=hb.lt;obtain ⟨b0,b1⟩:=hb.q2;have r:=hr.lt;obtain ⟨r0,r1⟩:=hr.q2;have d1:=hr.free 0;have d2:=hr.free 1;obtain ⟨us,h1,h2,h3⟩:=HD.c;obtain ⟨ca,cc,rfl,-⟩:=h2.form;obtain ⟨q7,k1,k2,k3⟩:=HD.a;obtain ⟨aa,ac,rfl,-⟩:=k2.form;clear hx hs hr hb hd h1 h2 h3 k1 k2 k3;go_wp2;have bF:=(HR.set 0 (.slice ca us.length cc)).set 1 (.slice aa q7.length ac);refine aCh rfl rfl bF _ underlying78 rfl aJo rfl ?_;refine ⟨_,_,rfl,⟨?_,?_,HD.ap⟩,?_⟩
   ·exact ((HD.c.setLow (p:=⟨w.heap.size+1,0,none⟩) (by simp only;omega) _).setLow (p:=⟨w.heap.size+1,1,none⟩) (by simp only;omega) _).low (by omega)
   ·exact ((HD.a.setLow (p:=⟨w.heap.size+1,0,none⟩) (by simp only;omega) _).setLow (p:=⟨w.heap.size+1,1,none⟩) (by simp only;omega) _).low (by omega)
   ·exact aRf (aRf HX (by simp only;omega) _) (by simp only;omega) _
theorem aA1 {cw ch zo ne:Int} {de:Bool} {le fo:Int} (hc:(Cam.mk cw ch zo ne de le fo).Ok) {l half:Int} (hx : -1000000<=x/\x<=1000000) (hz:1<=z/\z<=1000000) (hl : -16<=l/\l<=16) (hp:0<=half/\half<=1000) (hr:(Cam.mk cw ch zo ne de le fo).pj x z l half=r) (w:World) :
  R_ 243 #[.agg #[cw,ch,zo,ne,.bool de,le,fo],x,z,l,half] w (.int .i64 r):=by
 have h1:0<=le/\le<=64:=hc.lens;have h2:0<=fo/\fo<=1000000:=hc.focus;have h3:1<=zo/\zo<=65536:=hc.zoom
 obtain ⟨p1,e1⟩:=e_ (l*le)
 have b1 : -1024<=p1/\p1<=1024:=by have:=bL (A:=16) (B:=64) hl (show -64<=le/\le<=64 by omega);omega
 obtain ⟨d,e0⟩:=e_ (z - fo)
 obtain ⟨p2,e2⟩:=e_ (p1*d)
 have b2 : -1024000000<=p2/\p2<=1024000000:=by have:=bL (A:=1024) (B:=1000000) b1 (show -1000000<=d/\d<=1000000 by omega);omega
 obtain ⟨q,e3⟩:=e_ (bI p2 4096)
 have b3 : -1024000001<=q/\q<=1024000000:=by have:=mH (b:=4096) (m:=1024000000) b2 (by decide);omega
 obtain ⟨y,e4⟩:=e_ (x+q)
 obtain ⟨p3,e5⟩:=e_ (y*zo)
 have b4 : -80000000000000<=p3/\p3<=80000000000000:=by have:=bL (A:=1100000000) (B:=65536) (show -1100000000<=y/\y<=1100000000 by omega) (show -65536<=zo/\zo<=65536 by omega);omega
 obtain ⟨t,e6⟩:=e_ (bI p3 ((Cam.mk cw ch zo ne de le fo).by z))
 have b5 : -80000000000001<=t/\t<=80000000000000:=by have:=mH (b:=(Cam.mk cw ch zo ne de le fo).by z) (m:=80000000000000) b4 (by decide);omega
 have hR:aR (t+half) (-100000) 100000=r:=by
  rw [<-hr]
  show _=sc (bI ((x+bI (l*le*(z - fo)) 4096)*zo) ((Cam.mk cw ch zo ne de le fo).by z)+half)
  rw [e1,e0,e2,e3,e4,e5,e6]
  rfl
 have E3:=hid e3;have E6:=hid e6;have HR:=hid hR;clear hr hR e3 e6 hc
 cases de
 ·have E7:=hid (show bI p3 256=t from E6)
  go_enter func243,ntmps243;go_wp2_with fail;refine z_ (aT ⟨by omega,by omega⟩ E3 _) ?_;go_wp2_with fail;refine z_ (aT ⟨by omega,by omega⟩ E7 _) ?_;go_wp2_with fail;refine z_ (cV HR _) ?_;go_wp2;go_ret;exact ⟨rfl,X_⟩
 ·have E7:=hid (show bI p3 z=t from E6)
  go_enter func243,ntmps243;go_wp2_with fail;refine z_ (aT ⟨by omega,by omega⟩ E3 _) ?_;go_wp2_with fail;refine z_ (aT ⟨by omega,by omega⟩ E7 _) ?_;go_wp2_with fail;refine z_ (cV HR _) ?_;go_wp2;go_ret;exact ⟨rfl,X_⟩
theorem aNw {w:Int} (h:1<=w/\w<=12):Int.tdiv (w*16) 2=w*8:=by rw [aTb (by omega)];omega
theorem aCo (c:Cam) (x y z lx ly:Int) (h:c.prB ⟨x,y,z⟩ lx ly=true) (w:World) :
  R_ 203 #[c.V,.agg #[x,y,z],lx,ly] w (.tuple #[(c.pr ⟨x,y,z⟩ lx ly).V,.bool true]):=by
 unfold Cam.prB at h;simp only [aRd,decide_eq_true_eq] at h;obtain ⟨⟨⟨⟨hc,hv⟩,hx⟩,hy⟩,hz⟩:=h;have OK:=Cam.okB_iff.1 hc;have h2:=aAi.1 hv;have h3:=aG.1 hx;have h4:=aG.1 hy;have hn:=OK.near
 obtain ⟨px,h0⟩:=e_ (c.pj x z lx (c.w*8))
 obtain ⟨py,h1⟩:=e_ (c.pj y z ly (c.h*8))
 have hV:(c.pr ⟨x,y,z⟩ lx ly).V = .agg #[px,py,z]:=by
  unfold Cam.pr V3.V;simp only [h0,h1]
 rw [hV];have h8:=hid hx;have h9:=hid hy;have HO:=hid OK;have P1:=hid h0;have P2:=hid h1;have VX:=hid h2.1;have VY:=hid h2.2.1;have VZ:=hid (show 1<=z/\z<=1000000 by omega);have LX:=hid h3;have LY:=hid h4;have WB:=OK.w;have HB:=OK.h;have q0:decide (z<c.near)=false:=decide_eq_false (by omega);have t1:=aNw WB;have t2:=aNw HB;have s1:wrap64 (c.w*16)=c.w*16:=aD (by omega) (by omega);have s2:wrap64 (c.h*16)=c.h*16:=aD (by omega) (by omega);have HV:=hid hv;have HC:=hid hc;have B0:=hid ((aQ8 w 35 c).ext (show Ext (w.alloc (.cells c 35)) (((w.alloc (.cells c 35)).alloc (.cells #[x,y,z] 122)).alloc (.cells #[(),(),()] 122)) from X_));have B1:=hid (show Blk (((w.alloc (.cells c 35)).alloc (.cells #[x,y,z] 122)).alloc (.cells #[(),(),()] 122)) (w.heap.size+1) 122 [x,y,z] from by have q:=(aQ8 (w.alloc (.cells c 35)) 122 [x,y,z]).ext (show Ext ((w.alloc (.cells c 35)).alloc (.cells #[x,y,z] 122)) (((w.alloc (.cells c 35)).alloc (.cells #[x,y,z] 122)).alloc (.cells #[(),(),()] 122)) from X_);simp only [aQy] at q;exact q);have B2:=hid (show Blk (((w.alloc (.cells c 35)).alloc (.cells #[x,y,z] 122)).alloc (.cells #[(),(),()] 122)) (w.heap.size+2) 122 [(),(),()] from by have q:=(aQ8 ((w.alloc (.cells c 35)).alloc (.cells #[x,y,z] 122)) 122 [(),(),()]).ext (show Ext (((w.alloc (.cells c 35)).alloc (.cells #[x,y,z] 122)).alloc (.cells #[(),(),()] 122)) (((w.alloc (.cells c 35)).alloc (.cells #[x,y,z] 122)).alloc (.cells #[(),(),()] 122)) from X_);simp only [aQy] at q;exact q);have X0:=hid (show Ext w (((w.alloc (.cells c 35)).alloc (.cells #[x,y,z] 122)).alloc (.cells #[(),(),()] 122)) from X_);clear hc hv hx hy OK h2 h3 h4 hn h0 h1 hV hz
 show Calls aQ2 203 #[.agg c,.agg #[x,y,z],lx,ly] w _
 go_enter func203,ntmps203;go_wp2_with fail;refine r_ (aN HC _) fun w1 x1=>?_;replace B0:=hid (B0.ext x1);replace B1:=hid (B1.ext x1);replace B2:=hid (B2.ext x1);replace X0:=hid (X0.trans x1);have v:=B1.lt;obtain ⟨v0,v1,v2⟩:=B1.q3;go_wp2_with fail;refine (dN _).mono ?_;rintro e w2 ⟨he,x2⟩;rw [HV] at he;subst he;clear v0 v1 v2 v;replace B0:=hid (B0.ext x2);replace B1:=hid (B1.ext x2);replace B2:=hid (B2.ext x2);replace X0:=hid (X0.trans x2);have c_:=B0.lt;obtain ⟨q1,q2,q4,q5,q6,q8,q9⟩:=B0.q7;have v:=B1.lt;obtain ⟨v0,v1,v2⟩:=B1.q3;have r:=B2.lt;obtain ⟨r0,r1,r2⟩:=B2.q3;have h5:=B2.free 0;have h6:=B2.free 1;have h7:=B2.free 2;have zs:=X0.size;go_wp2_with fail;refine z_ (aE h8 _) ?_;go_wp2_with fail;refine z_ (aE h9 _) ?_;go_wp2_with fail;clear q0;refine aA [([0,1,2,3,4,5,6,7,8,9,11,12,13,14,15,16,17,18,19,20,22,23],10),([],21),([24],25),([],26)] 26 (w.heap.size+2) (by kernel_rfl) (by kernel_rfl) ?_;refine st_ fun K hK=>?_;go_wp2_with fail;refine r_ (aA1 HO VX VZ LX (show (0:Int)<=c.w*8/\c.w*8<=1000 by omega) P1 _) fun w3 x3=>?_;have y3:Ext w2 w3:=aQ3 (aRz (aQ6 _)) x3;go_wp2_with fail;refine hK _ _ (.inr (fun k _ hk=>y3.block (by first|omega|(simp;omega)))) ?_;clear hK K;refine st_ fun K hK=>?_;go_wp2_with fail;refine r_ (aA1 HO VY VZ LY (show (0:Int)<=c.h*8/\c.h*8<=1000 by omega) P2 _) fun w4 x4=>?_;have y4:=y3.trans x4;go_wp2_with fail;refine hK _ _ (.inr (fun k _ hk=>y4.block (by first|omega|(simp;omega)))) ?_;clear hK K;clear r r0 r1 r2 h5 h6 h7;have D:=B2.ext y4;have XX:=X0.trans y4;have r:=D.lt;obtain ⟨r0,r1,r2⟩:=D.q3;have h5:=D.free 0;have h6:=D.free 1;have h7:=D.free 2;refine st_ fun K hK=>?_;go_wp2_with fail
 refine hK _ _ (.inr (fun k _ hk=>by
  rw [aQ7 _ _ _ _ (by first|omega|(simp only;omega)|(simp;omega)),aQ7 _ _ _ _ (by first|omega|(simp only;omega)|(simp;omega)),aQ7 _ _ _ _ (by first|omega|(simp only;omega)|(simp;omega))]
  exact y4.block (by omega))) ?_
 clear hK K;refine st_ fun K hK=>?_;go_wp2_with fail;refine l_ hK ?_;clear hK K;refine aC ?_;go_wp2;exact bodyPost_ret (v:=.tuple #[.agg #[px,py,z],.bool true]) (by simp [results,results203,go_sem, *]) rfl ⟨rfl,S_⟩
theorem Cam.prB_parts {c:Cam} {b:Bool} (h:c.prB ⟨x,y,z⟩ lx ly=b):(c.okB&&cU x y z&&inB lx (-16) 16&&inB ly (-16) 16&&decide (c.near<=z))=b:=h
theorem aEq (c:Cam) (x y z lx ly:Int) (h:c.prB ⟨x,y,z⟩ lx ly=false) (w:World) :
  R_ 203 #[c.V,.agg #[x,y,z],lx,ly] w (.tuple #[.agg #[(),(),()],.bool false]):=by
 have h:=Cam.prB_parts h
 obtain ⟨b1,hc⟩:=e_ c.okB
 obtain ⟨b2,hv⟩:=e_ (cU x y z)
 obtain ⟨b3,hx⟩:=e_ (inB lx (-16) 16)
 obtain ⟨b4,hy⟩:=e_ (inB ly (-16) 16)
 rw [hc,hv,hx,hy] at h;have h4:=hid hx;have h5:=hid hy;have HV:=hid hv;have HC:=hid hc;have B0:=hid ((aQ8 w 35 c).ext (show Ext (w.alloc (.cells c 35)) (((w.alloc (.cells c 35)).alloc (.cells #[x,y,z] 122)).alloc (.cells #[(),(),()] 122)) from X_));have B1:=hid (show Blk (((w.alloc (.cells c 35)).alloc (.cells #[x,y,z] 122)).alloc (.cells #[(),(),()] 122)) (w.heap.size+1) 122 [x,y,z] from by have q:=(aQ8 (w.alloc (.cells c 35)) 122 [x,y,z]).ext (show Ext ((w.alloc (.cells c 35)).alloc (.cells #[x,y,z] 122)) (((w.alloc (.cells c 35)).alloc (.cells #[x,y,z] 122)).alloc (.cells #[(),(),()] 122)) from X_);simp only [aQy] at q;exact q);have B2:=hid (show Blk (((w.alloc (.cells c 35)).alloc (.cells #[x,y,z] 122)).alloc (.cells #[(),(),()] 122)) (w.heap.size+2) 122 [(),(),()] from by have q:=(aQ8 ((w.alloc (.cells c 35)).alloc (.cells #[x,y,z] 122)) 122 [(),(),()]).ext (show Ext (((w.alloc (.cells c 35)).alloc (.cells #[x,y,z] 122)).alloc (.cells #[(),(),()] 122)) (((w.alloc (.cells c 35)).alloc (.cells #[x,y,z] 122)).alloc (.cells #[(),(),()] 122)) from X_);simp only [aQy] at q;exact q);have X0:=hid (show Ext w (((w.alloc (.cells c 35)).alloc (.cells #[x,y,z] 122)).alloc (.cells #[(),(),()] 122)) from X_);clear hc hv hx hy
 show Calls aQ2 203 #[.agg c,.agg #[x,y,z],lx,ly] w _
 go_enter func203,ntmps203;go_wp2_with fail;refine r_ (aN HC _) fun w1 x1=>?_;replace B0:=hid (B0.ext x1);replace B1:=hid (B1.ext x1);replace B2:=hid (B2.ext x1);replace X0:=hid (X0.trans x1);have r:=B2.lt;obtain ⟨r0,r1,r2⟩:=B2.q3;have h0:=B2.free 0;have h2:=B2.free 1;have h3:=B2.free 2;have XX:=X0.out
 cases b1
 ·go_wp2
  exact bodyPost_ret (v:=.tuple #[.agg #[(),(),()],.bool false]) (by simp [results,results203,go_sem, *]) rfl ⟨rfl,S_⟩
 clear r r0 r1 r2 h0 h2 h3 XX;have v:=B1.lt;obtain ⟨v0,v1,v2⟩:=B1.q3;go_wp2_with fail;refine (dN _).mono ?_;rintro e w2 ⟨he,x2⟩;rw [HV] at he;subst he;clear v0 v1 v2 v;replace B0:=hid (B0.ext x2);replace B1:=hid (B1.ext x2);replace B2:=hid (B2.ext x2);replace X0:=hid (X0.trans x2);have r:=B2.lt;obtain ⟨r0,r1,r2⟩:=B2.q3;have h0:=B2.free 0;have h2:=B2.free 1;have h3:=B2.free 2;have XX:=X0.out
 cases b2
 ·go_wp2
  exact bodyPost_ret (v:=.tuple #[.agg #[(),(),()],.bool false]) (by simp [results,results203,go_sem, *]) rfl ⟨rfl,S_⟩
 go_wp2_with fail;refine z_ (aE h4 _) ?_
 cases b3
 ·go_wp2
  exact bodyPost_ret (v:=.tuple #[.agg #[(),(),()],.bool false]) (by simp [results,results203,go_sem, *]) rfl ⟨rfl,S_⟩
 go_wp2_with fail;refine z_ (aE h5 _) ?_
 cases b4
 ·go_wp2
  exact bodyPost_ret (v:=.tuple #[.agg #[(),(),()],.bool false]) (by simp [results,results203,go_sem, *]) rfl ⟨rfl,S_⟩
 have q4:decide (z<c.near)=true:=by
  have h1 : ¬c.near<=z:=by simpa using h
  exact decide_eq_true (by omega)
 clear h;have c_:=B0.lt;obtain ⟨h6,h7,h8,h9,q0,q1,q2⟩:=B0.q7;have v:=B1.lt;obtain ⟨v0,v1,v2⟩:=B1.q3;go_wp2;exact bodyPost_ret (v:=.tuple #[.agg #[(),(),()],.bool false]) (by simp [results,results203,go_sem, *]) rfl ⟨rfl,S_⟩
theorem xY (h:aSn ⟨x,y,z⟩) (hz : -1000000<=z/\z<=1000000) (w:World) :
  R_ 208 #[.agg #[x,y,z]] w (.agg #[x,y,z]):=by
 have h1:=hid (aBu h.1);have h2:=hid (aBu h.2);have h3:=hid (rN hz);clear h hz;go_enter func208,ntmps208;go_upto_region 1 with fail;refine aA [([0,1,3,4,6,7],2),([],5),([],8),([9],10)] 10 (w.heap.size+1) (by kernel_rfl) (by kernel_rfl) ?_;refine st_ fun K hK=>?_;go_wp2_with fail;refine z_ (cV h1.out _) ?_;go_wp2_with fail;refine k_ hK ?_;clear hK K;refine st_ fun K hK=>?_;go_wp2_with fail;refine z_ (cV h2.out _) ?_;go_wp2_with fail;refine k_ hK ?_;clear hK K;refine st_ fun K hK=>?_;go_wp2_with fail;refine z_ (vD h3.out _) ?_;go_wp2_with fail;refine k_ hK ?_;clear hK K;refine st_ fun K hK=>?_;go_wp2_with fail;refine l_ hK ?_;clear hK K;refine aC ?_;go_wp2;exact bodyPost_ret (v:=.agg #[x,y,z]) (by simp [results,results208,go_sem, *]) rfl ⟨rfl,S_⟩
theorem sK (ax ay az bx by' bz cx cy cz:Int) (ha:aSn ⟨ax,ay,az⟩) (hb:aSn ⟨bx,by',bz⟩) (hc:aSn ⟨cx,cy,cz⟩) (hz:(-1000000<=az/\az<=1000000)/\(-1000000<=bz/\bz<=1000000)/\(-1000000<=cz/\cz<=1000000)) (w:World) :
  R_ 151 #[.agg #[ax,ay,az,bx,by',bz,cx,cy,cz]] w (.agg #[ax,ay,az,bx,by',bz,cx,cy,cz]):=by
 have Ha:=aS ha;have Hb:=aS hb;have Hc:=aS hc;have Hz:=hid hz;have B0:=hid ((aQ8 w 153 [ax,ay,az,bx,by',bz,cx,cy,cz]).ext (show Ext (w.alloc (.cells #[ax,ay,az,bx,by',bz,cx,cy,cz] 153)) ((w.alloc (.cells #[ax,ay,az,bx,by',bz,cx,cy,cz] 153)).alloc (.cells #[(),(),(),(),(),(),(),(),()] 151)) from X_));have B1:=hid (show Blk ((w.alloc (.cells #[ax,ay,az,bx,by',bz,cx,cy,cz] 153)).alloc (.cells #[(),(),(),(),(),(),(),(),()] 151)) (w.heap.size+1) 151 [(),(),(),(),(),(),(),(),()] from by have q:=(aQ8 (w.alloc (.cells #[ax,ay,az,bx,by',bz,cx,cy,cz] 153)) 151 [(),(),(),(),(),(),(),(),()]).ext (show Ext ((w.alloc (.cells #[ax,ay,az,bx,by',bz,cx,cy,cz] 153)).alloc (.cells #[(),(),(),(),(),(),(),(),()] 151)) ((w.alloc (.cells #[ax,ay,az,bx,by',bz,cx,cy,cz] 153)).alloc (.cells #[(),(),(),(),(),(),(),(),()] 151)) from X_);simp only [aQy] at q;exact q);have X0:=hid (show Ext w ((w.alloc (.cells #[ax,ay,az,bx,by',bz,cx,cy,cz] 153)).alloc (.cells #[(),(),(),(),(),(),(),(),()] 151)) from X_);clear ha hb hc hz;go_enter func151,ntmps151;go_upto_region 1 with fail
 obtain ⟨W,hW⟩:=e_ ((w.alloc (.cells #[ax,ay,az,bx,by',bz,cx,cy,cz] 153)).alloc (.cells #[(),(),(),(),(),(),(),(),()] 151))
 try simp only [aQy]
 rw [hW];rw [hW] at B0 B1 X0;clear hW;have zs:w.heap.size+1<W.heap.size:=B1.lt;have t:=B0.lt;have t0:=B0.cell 0 rfl;have t1:=B0.cell 1 rfl;have t2:=B0.cell 2 rfl;have t3:=B0.cell 3 rfl;have t4:=B0.cell 4 rfl;have t5:=B0.cell 5 rfl;have t6:=B0.cell 6 rfl;have t7:=B0.cell 7 rfl;have t8:=B0.cell 8 rfl;have h9:=B0.free 0;have q0:=B0.free 1;have q1:=B0.free 2;have q2:=B0.free 3;have q3:=B0.free 4;have q4:=B0.free 5;have q5:=B0.free 6;have q6:=B0.free 7;have q7:=B0.free 8;refine aA [([0,1,2,4,5,6,8,9,10],3),([],7),([],11),([12],13)] 13 (w.heap.size+1) (by kernel_rfl) (by kernel_rfl) ?_;refine st_ fun K hK=>?_;go_wp2_with fail;refine r_ (xY Ha Hz.1 _) fun w1 x1=>?_;have y1:Ext W w1:=aQ3 (aRz (aQ6 _)) x1;go_wp2_with fail;refine hK _ _ (.inr (fun k _ hk=>y1.block (by first|omega|(simp;omega)))) ?_;clear hK K;refine st_ fun K hK=>?_;go_wp2_with fail;refine r_ (xY Hb Hz.2.1 _) fun w2 x2=>?_;have y2:=y1.trans x2;go_wp2_with fail;refine hK _ _ (.inr (fun k _ hk=>y2.block (by first|omega|(simp;omega)))) ?_;clear hK K;refine st_ fun K hK=>?_;go_wp2_with fail;refine r_ (xY Hc Hz.2.2 _) fun w3 x3=>?_;have y3:=y2.trans x3;go_wp2_with fail;refine hK _ _ (.inr (fun k _ hk=>y3.block (by first|omega|(simp;omega)))) ?_;clear hK K;have D:=B1.ext y3;have XX:=X0.trans y3;have r:=D.lt;have r0:=D.cell 0 rfl;have r1:=D.cell 1 rfl;have r2:=D.cell 2 rfl;have r3:=D.cell 3 rfl;have r4:=D.cell 4 rfl;have r5:=D.cell 5 rfl;have r6:=D.cell 6 rfl;have r7:=D.cell 7 rfl;have r8:=D.cell 8 rfl;have h0:=D.free 0;have h1:=D.free 1;have h2:=D.free 2;have h3:=D.free 3;have h4:=D.free 4;have h5:=D.free 5;have h6:=D.free 6;have h7:=D.free 7;have h8:=D.free 8;refine st_ fun K hK=>?_;go_wp2_with fail;refine l_ hK ?_;clear hK K;refine aC ?_;go_wp2;exact bodyPost_ret (v:=.agg #[ax,ay,az,bx,by',bz,cx,cy,cz]) (by simp [results,results151,go_sem, *]) rfl ⟨rfl,S_⟩
theorem iO (ax ay az bx by' bz:Int) (ha:aSn ⟨ax,ay,az⟩) (hb:aSn ⟨bx,by',bz⟩) (hs:aSn ⟨x,y,0⟩) (hr:aX ⟨ax,ay,az⟩ ⟨bx,by',bz⟩ ⟨x,y,0⟩=r) (w:World) :
  R_ 154 #[.agg #[ax,ay,az],.agg #[bx,by',bz],x,y] w (.int .i64 r):=by
 obtain ⟨g1,g2⟩:=rS ha hb hs;obtain ⟨a1,a2⟩:=ha;obtain ⟨b1,b2⟩:=hb;obtain ⟨s1,s2⟩:=hs;simp only at a1 a2 b1 b2 s1 s2 g1 g2
 obtain ⟨p1,e5⟩:=e_ ((bx - ax)*(y - ay))
 obtain ⟨p2,e6⟩:=e_ ((by' - ay)*(x - ax))
 rw [e5] at g1;rw [e6] at g2
 have hR:p1 - p2=r:=by
  rw [<-hr,<-e5,<-e6]
  rfl
 have u1:wrap64 (bx - ax)=bx - ax:=aD (by omega) (by omega);have u2:wrap64 (y - ay)=y - ay:=aD (by omega) (by omega)
 have u3:wrap64 (by' - ay)=by' - ay:=aD (by omega) (by omega)
 have u4:wrap64 (x - ax)=x - ax:=aD (by omega) (by omega)
 have u5:wrap64 ((bx - ax)*(y - ay))=p1:=by rw [e5];exact aD (by omega) (by omega)
 have u6:wrap64 ((by' - ay)*(x - ax))=p2:=by rw [e6];exact aD (by omega) (by omega)
 have u7:wrap64 (p1 - p2)=r:=by rw [hR];exact aD (by omega) (by omega)
 clear hr hR e5 e6 g1 g2 a1 a2 b1 b2 s1 s2;go_enter func154,ntmps154;go_wp2;go_ret;exact ⟨cS u7,X_⟩
theorem gN (ax ay az bx by' bz:Int) (ha:aSn ⟨ax,ay,az⟩) (hb:aSn ⟨bx,by',bz⟩) (hs:aSn ⟨x,y,0⟩) {r:Bool} (hr:dB ⟨ax,ay,az⟩ ⟨bx,by',bz⟩ ⟨x,y,0⟩=r) (w:World) :
  R_ 207 #[.agg #[ax,ay,az],.agg #[bx,by',bz],x,y] w (.bool r):=by
 obtain ⟨d,hd⟩:=e_ (aX ⟨ax,ay,az⟩ ⟨bx,by',bz⟩ ⟨x,y,0⟩)
 have HD:=hid hd;have Ha:=aS ha;have Hb:=aS hb;have Hs:=aS hs;have B0:=hid ((aQ8 w 122 [ax,ay,az]).ext (show Ext (w.alloc (.cells #[ax,ay,az] 122)) ((w.alloc (.cells #[ax,ay,az] 122)).alloc (.cells #[bx,by',bz] 122)) from X_));have B1:=hid (show Blk ((w.alloc (.cells #[ax,ay,az] 122)).alloc (.cells #[bx,by',bz] 122)) (w.heap.size+1) 122 [bx,by',bz] from by have q:=(aQ8 (w.alloc (.cells #[ax,ay,az] 122)) 122 [bx,by',bz]).ext (show Ext ((w.alloc (.cells #[ax,ay,az] 122)).alloc (.cells #[bx,by',bz] 122)) ((w.alloc (.cells #[ax,ay,az] 122)).alloc (.cells #[bx,by',bz] 122)) from X_);simp only [aQy] at q;exact q);have X0:=hid (show Ext w ((w.alloc (.cells #[ax,ay,az] 122)).alloc (.cells #[bx,by',bz] 122)) from X_);unfold dB at hr;simp only [hd] at hr;clear ha hb hs hd;go_enter func207,ntmps207;go_wp2_with fail;refine r_ (iO _ _ _ _ _ _ Ha Hb Hs HD _) fun w1 x1=>?_;replace B0:=hid (B0.ext x1);replace B1:=hid (B1.ext x1);replace X0:=hid (X0.trans x1);have p:=B0.lt;obtain ⟨p0,p1,p2⟩:=B0.q3;have q:=B1.lt;obtain ⟨q0,q1,q2⟩:=B1.q3
 by_cases h0:d=0
 ·subst h0
  rcases Int.lt_trichotomy by' ay with h1|h1|h1
  ·have e1:r=true:=by rw [<-hr];simp [h1]
   subst e1;go_wp2;go_ret;exact ⟨aL (by simp [h1]),X0⟩
  ·have e1:decide (ax<bx)=r:=by rw [<-hr];simp [h1]
   clear hr;subst h1;go_wp2;go_ret;exact ⟨aL (by first|exact e1|rfl),X0⟩
  ·have h2 : ¬by'<ay:=by omega
   have h3 : ¬by'=ay:=by omega
   have e1:r=false:=by rw [<-hr];simp [h2,h3]
   subst e1;go_wp2;go_ret;exact ⟨aL (by simp [h2,h3]),X0⟩
 ·have e1:decide (0<d)=r:=by rw [<-hr];simp [h0]
  clear hr;go_wp2;go_ret;exact ⟨aL (by first|exact e1|rfl),X0⟩
theorem aA2 (ax ay az bx by' bz cx cy cz:Int) (ha:aSn ⟨ax,ay,az⟩) (hb:aSn ⟨bx,by',bz⟩) (hc:aSn ⟨cx,cy,cz⟩) (hz:(-1000000<=az/\az<=1000000)/\(-1000000<=bz/\bz<=1000000)/\(-1000000<=cz/\cz<=1000000)) (hd:aX ⟨ax,ay,az⟩ ⟨bx,by',bz⟩ ⟨cx,cy,0⟩=d) (w:World) :
  R_ 153 #[.agg #[ax,ay,az,bx,by',bz,cx,cy,cz]] w (.int .i64 d):=by
 have Ha:=aS ha;have Hb:=aS hb;have Hc:=aS hc;have Hz:=hid hz;have HD:=hid hd;clear ha hb hc hz hd;go_enter func153,ntmps153;go_wp2_with fail;refine r_ (sK _ _ _ _ _ _ _ _ _ Ha Hb Hc Hz _) fun w1 x1=>?_;have y1:Ext w w1:=aQ3 X_ x1;have z1:=y1.size;go_wp2_with fail;refine r_ (iO _ _ _ _ _ _ Ha Hb (show aSn ⟨cx,cy,0⟩ from Hc) HD _) fun w2 x2=>?_;go_wp2;go_ret;exact ⟨rfl,y1.trans (aQ3 S_ x2)⟩
theorem aJp (ax ay az bx by' bz cx cy cz:Int) (w:World) :
  R_ 206 #[.agg #[ax,ay,az,bx,by',bz,cx,cy,cz]] w (.agg #[ax,ay,az,cx,cy,cz,bx,by',bz]):=by
 go_enter func206,ntmps206;go_wp2;exact bodyPost_ret (v:=.agg #[ax,ay,az,cx,cy,cz,bx,by',bz]) (by simp [results,results206,go_sem, *]) rfl ⟨rfl,S_⟩
theorem aGx (h:aSn ⟨x,y,0⟩) (w:World):Z_ 205 #[x,y] w (.bool true):=by
 have h1:=hid (aG.2 h.1);have h2:=hid (aG.2 h.2);clear h;go_enter func205,ntmps205;go_wp2_with fail;refine z_ (aE h1.out _) ?_;go_wp2_with fail;refine z_ (aE h2.out _) ?_;go_wp2;go_ret;exact ⟨rfl,rfl⟩
theorem sL (hx : -100000000000<=x/\x<=100000000000) (h:fT x=r) (w:World):Z_ 152 #[x] w (.int .i64 r):=by
 rcases aX1 x 0 with h0|h0
 ·have e1 : -x=r:=by rw [<-h];exact ((dG (x:=x)).2.2 (by omega)).symm
  have e2:wrap64 (-x)=r:=by rw [e1];exact aD (by omega) (by omega)
  clear h;go_enter func152,ntmps152;go_wp2;go_ret;exact ⟨cS (by first|exact e1|exact e2|rfl),rfl⟩
 ·have e1:x=r:=by rw [<-h];exact ((dG (x:=x)).2.1 (by omega)).symm
  subst e1;clear h;go_enter func152,ntmps152;go_wp2;go_ret;exact ⟨rfl,rfl⟩
theorem uP (ax ay az bx by' bz cx cy cz:Int) (ha:aSn ⟨ax,ay,az⟩) (hb:aSn ⟨bx,by',bz⟩) (hc:aSn ⟨cx,cy,cz⟩) (hz:(-1000000<=az/\az<=1000000)/\(-1000000<=bz/\bz<=1000000)/\(-1000000<=cz/\cz<=1000000)) (sx sy:Int) (hs:aSn ⟨sx,sy,0⟩) {r:Bool} (hr:qO ⟨ax,ay,az⟩ ⟨bx,by',bz⟩ ⟨cx,cy,cz⟩ ⟨sx,sy,0⟩=r) (w:World) :
  R_ 150 #[.agg #[ax,ay,az,bx,by',bz,cx,cy,cz],sx,sy] w (.bool r):=by
 have Ha:=aS ha;have Hb:=aS hb;have Hc:=aS hc;have Hz:=hid hz;have HS:=aS hs
 obtain ⟨d,hd⟩:=e_ (aX ⟨ax,ay,az⟩ ⟨bx,by',bz⟩ ⟨cx,cy,cz⟩)
 have HD:=hid (show aX ⟨ax,ay,az⟩ ⟨bx,by',bz⟩ ⟨cx,cy,0⟩=d from hd);unfold qO at hr;rw [hd] at hr;have B0:=hid ((aQ8 w 153 [ax,ay,az,bx,by',bz,cx,cy,cz]).ext (show Ext (w.alloc (.cells #[ax,ay,az,bx,by',bz,cx,cy,cz] 153)) (w.alloc (.cells #[ax,ay,az,bx,by',bz,cx,cy,cz] 153)) from X_));have X0:=hid (show Ext w (w.alloc (.cells #[ax,ay,az,bx,by',bz,cx,cy,cz] 153)) from X_);clear ha hb hc hz hs hd;go_enter func150,ntmps150;go_wp2_with fail;refine r_ (aA2 _ _ _ _ _ _ _ _ _ Ha Hb Hc Hz HD _) fun w1 x1=>?_;replace B0:=hid (B0.ext x1);replace X0:=hid (X0.trans x1)
 by_cases h0:d=0
 ·subst h0
  rw [if_pos rfl] at hr;go_wp2;go_ret;exact ⟨aL hr,X0⟩
 rw [if_neg h0] at hr;have h1:(d==0)=false:=beq_eq_false_iff_ne.2 h0;go_wp2_with fail;refine z_ (aGx HS _) ?_;have p:=B0.lt;have p0:=B0.cell 0 rfl;have p1:=B0.cell 1 rfl;have p2:=B0.cell 2 rfl;have p3:=B0.cell 3 rfl;have p4:=B0.cell 4 rfl;have p5:=B0.cell 5 rfl;have p6:=B0.cell 6 rfl;have p7:=B0.cell 7 rfl;have p8:=B0.cell 8 rfl;go_wp2_with fail;refine r_ (sK _ _ _ _ _ _ _ _ _ Ha Hb Hc Hz _) fun w2 x2=>?_;clear p p0 p1 p2 p3 p4 p5 p6 p7 p8;replace B0:=hid (B0.ext x2);replace X0:=hid (X0.trans x2);have G:=hid (aQ8 w2 151 [ax,ay,az,bx,by',bz,cx,cy,cz]);have yN:Ext w2 (w2.alloc (.cells #[ax,ay,az,bx,by',bz,cx,cy,cz] 151)):=X_
 by_cases h2:d<0
 ·rw [if_pos h2] at hr
  obtain ⟨b1,e1⟩:=e_ (dB ⟨ax,ay,az⟩ ⟨cx,cy,cz⟩ ⟨sx,sy,0⟩)
  obtain ⟨b2,e2⟩:=e_ (dB ⟨cx,cy,cz⟩ ⟨bx,by',bz⟩ ⟨sx,sy,0⟩)
  obtain ⟨b3,e3⟩:=e_ (dB ⟨bx,by',bz⟩ ⟨ax,ay,az⟩ ⟨sx,sy,0⟩)
  rw [e1,e2,e3] at hr;have H1:=hid e1;have H2:=hid e2;have H3:=hid e3;clear e1 e2 e3;replace B0:=hid (B0.ext yN);have X:=hid (X0.trans yN);have zz:=X0.size;clear yN X0;have p:=B0.lt;have p0:=B0.cell 0 rfl;have p1:=B0.cell 1 rfl;have p2:=B0.cell 2 rfl;have p3:=B0.cell 3 rfl;have p4:=B0.cell 4 rfl;have p5:=B0.cell 5 rfl;have p6:=B0.cell 6 rfl;have p7:=B0.cell 7 rfl;have p8:=B0.cell 8 rfl;go_wp2_with fail;refine r_ (aJp _ _ _ _ _ _ _ _ _ _) fun w3 x3=>?_;replace G:=hid (G.ext x3);replace X:=hid (X.trans x3);clear p p0 p1 p2 p3 p4 p5 p6 p7 p8;go_wp2_with fail;refine r_ (sK _ _ _ _ _ _ _ _ _ Ha Hc Hb ⟨Hz.1,Hz.2.2,Hz.2.1⟩ _) fun w4 x4=>?_;replace G:=hid (G.ext x4);replace X:=hid (X.trans x4);have g:=G.lt;have g0:=G.cell 0 rfl;have g1:=G.cell 1 rfl;have g2:=G.cell 2 rfl;have g3:=G.cell 3 rfl;have g4:=G.cell 4 rfl;have g5:=G.cell 5 rfl;have g6:=G.cell 6 rfl;have g7:=G.cell 7 rfl;have g8:=G.cell 8 rfl;have h4:=G.free 0;have h5:=G.free 1;have h6:=G.free 2;have h7:=G.free 3;have h8:=G.free 4;have h9:=G.free 5;have q0:=G.free 6;have q1:=G.free 7;have q2:=G.free 8;go_upto_region 7 with fail;have XX:=X.out
  have G5:Blk (((((((((w4.setCell ⟨w2.heap.size,0,none⟩ ax).setCell ⟨w2.heap.size,1,none⟩ ay).setCell ⟨w2.heap.size,2,none⟩ az).setCell ⟨w2.heap.size,3,none⟩ cx).setCell ⟨w2.heap.size,4,none⟩ cy).setCell ⟨w2.heap.size,5,none⟩ cz).setCell ⟨w2.heap.size,6,none⟩ bx).setCell ⟨w2.heap.size,7,none⟩ by').setCell ⟨w2.heap.size,8,none⟩ bz) w2.heap.size 151 [ax,ay,az,cx,cy,cz,bx,by',bz]:=(((((((((G.set 0 (.int .i64 ax)).set 1 (.int .i64 ay)).set 2 (.int .i64 az)).set 3 (.int .i64 cx)).set 4 (.int .i64 cy)).set 5 (.int .i64 cz)).set 6 (.int .i64 bx)).set 7 (.int .i64 by')).set 8 (.int .i64 bz))
  have X5:Ext w (((((((((w4.setCell ⟨w2.heap.size,0,none⟩ ax).setCell ⟨w2.heap.size,1,none⟩ ay).setCell ⟨w2.heap.size,2,none⟩ az).setCell ⟨w2.heap.size,3,none⟩ cx).setCell ⟨w2.heap.size,4,none⟩ cy).setCell ⟨w2.heap.size,5,none⟩ cz).setCell ⟨w2.heap.size,6,none⟩ bx).setCell ⟨w2.heap.size,7,none⟩ by').setCell ⟨w2.heap.size,8,none⟩ bz):=S_
  obtain ⟨W5,h3⟩:=e_ (((((((((w4.setCell ⟨w2.heap.size,0,none⟩ ax).setCell ⟨w2.heap.size,1,none⟩ ay).setCell ⟨w2.heap.size,2,none⟩ az).setCell ⟨w2.heap.size,3,none⟩ cx).setCell ⟨w2.heap.size,4,none⟩ cy).setCell ⟨w2.heap.size,5,none⟩ cz).setCell ⟨w2.heap.size,6,none⟩ bx).setCell ⟨w2.heap.size,7,none⟩ by').setCell ⟨w2.heap.size,8,none⟩ bz)
  rw [h3] at G5 X5 ⊢;clear h3 XX g g0 g1 g2 g3 g4 g5 g6 g7 g8 h4 h5 h6 h7 h8 h9 q0 q1 q2 x4 x3;replace G:=hid G5;replace X:=hid X5;clear G5 X5;have g:=G.lt;have g0:=G.cell 0 rfl;have g1:=G.cell 1 rfl;have g2:=G.cell 2 rfl;have g3:=G.cell 3 rfl;have g4:=G.cell 4 rfl;have g5:=G.cell 5 rfl;have g6:=G.cell 6 rfl;have g7:=G.cell 7 rfl;have g8:=G.cell 8 rfl;go_wp2_with fail;refine r_ (gN _ _ _ _ _ _ Ha Hc HS H1 _) fun u1 zu1=>?_;replace G:=hid (G.ext zu1);replace X:=hid (X.trans zu1);clear g g0 g1 g2 g3 g4 g5 g6 g7 g8
  cases b1
  ·go_wp2
   go_ret;exact ⟨aL (by simpa using hr),X⟩
  have g:=G.lt;have g0:=G.cell 0 rfl;have g1:=G.cell 1 rfl;have g2:=G.cell 2 rfl;have g3:=G.cell 3 rfl;have g4:=G.cell 4 rfl;have g5:=G.cell 5 rfl;have g6:=G.cell 6 rfl;have g7:=G.cell 7 rfl;have g8:=G.cell 8 rfl;go_wp2_with fail;refine r_ (gN _ _ _ _ _ _ Hc Hb HS H2 _) fun u2 zu2=>?_;replace G:=hid (G.ext zu2);replace X:=hid (X.trans zu2);clear g g0 g1 g2 g3 g4 g5 g6 g7 g8
  cases b2
  ·go_wp2
   go_ret;exact ⟨aL (by simpa using hr),X⟩
  have g:=G.lt;have g0:=G.cell 0 rfl;have g1:=G.cell 1 rfl;have g2:=G.cell 2 rfl;have g3:=G.cell 3 rfl;have g4:=G.cell 4 rfl;have g5:=G.cell 5 rfl;have g6:=G.cell 6 rfl;have g7:=G.cell 7 rfl;have g8:=G.cell 8 rfl;go_wp2_with fail;refine r_ (gN _ _ _ _ _ _ Hb Ha HS H3 _) fun u3 zu3=>?_;go_wp2;go_ret;exact ⟨aL (by simpa using hr),X.trans zu3⟩
 ·rw [if_neg h2] at hr
  obtain ⟨b1,e1⟩:=e_ (dB ⟨ax,ay,az⟩ ⟨bx,by',bz⟩ ⟨sx,sy,0⟩)
  obtain ⟨b2,e2⟩:=e_ (dB ⟨bx,by',bz⟩ ⟨cx,cy,cz⟩ ⟨sx,sy,0⟩)
  obtain ⟨b3,e3⟩:=e_ (dB ⟨cx,cy,cz⟩ ⟨ax,ay,az⟩ ⟨sx,sy,0⟩)
  rw [e1,e2,e3] at hr;have H1:=hid e1;have H2:=hid e2;have H3:=hid e3;clear e1 e2 e3;have X:=hid (X0.trans yN);clear yN X0 B0;have g:=G.lt;have g0:=G.cell 0 rfl;have g1:=G.cell 1 rfl;have g2:=G.cell 2 rfl;have g3:=G.cell 3 rfl;have g4:=G.cell 4 rfl;have g5:=G.cell 5 rfl;have g6:=G.cell 6 rfl;have g7:=G.cell 7 rfl;have g8:=G.cell 8 rfl;go_wp2_with fail;refine r_ (gN _ _ _ _ _ _ Ha Hb HS H1 _) fun u1 zu1=>?_;replace G:=hid (G.ext zu1);replace X:=hid (X.trans zu1);clear g g0 g1 g2 g3 g4 g5 g6 g7 g8
  cases b1
  ·go_wp2
   go_ret;exact ⟨aL (by simpa using hr),X⟩
  have g:=G.lt;have g0:=G.cell 0 rfl;have g1:=G.cell 1 rfl;have g2:=G.cell 2 rfl;have g3:=G.cell 3 rfl;have g4:=G.cell 4 rfl;have g5:=G.cell 5 rfl;have g6:=G.cell 6 rfl;have g7:=G.cell 7 rfl;have g8:=G.cell 8 rfl;go_wp2_with fail;refine r_ (gN _ _ _ _ _ _ Hb Hc HS H2 _) fun u2 zu2=>?_;replace G:=hid (G.ext zu2);replace X:=hid (X.trans zu2);clear g g0 g1 g2 g3 g4 g5 g6 g7 g8
  cases b2
  ·go_wp2
   go_ret;exact ⟨aL (by simpa using hr),X⟩
  have g:=G.lt;have g0:=G.cell 0 rfl;have g1:=G.cell 1 rfl;have g2:=G.cell 2 rfl;have g3:=G.cell 3 rfl;have g4:=G.cell 4 rfl;have g5:=G.cell 5 rfl;have g6:=G.cell 6 rfl;have g7:=G.cell 7 rfl;have g8:=G.cell 8 rfl;go_wp2_with fail;refine r_ (gN _ _ _ _ _ _ Hc Ha HS H3 _) fun u3 zu3=>?_;go_wp2;go_ret;exact ⟨aL (by simpa using hr),X.trans zu3⟩
theorem aJq (ax ay az bx by' bz cx cy cz:Int) (ha:aSn ⟨ax,ay,az⟩) (hb:aSn ⟨bx,by',bz⟩) (hc:aSn ⟨cx,cy,cz⟩) (hz:(-1000000<=az/\az<=1000000)/\(-1000000<=bz/\bz<=1000000)/\(-1000000<=cz/\cz<=1000000)) (sx sy:Int) (hs:aSn ⟨sx,sy,0⟩) (hr:qO ⟨ax,ay,az⟩ ⟨bx,by',bz⟩ ⟨cx,cy,cz⟩ ⟨sx,sy,0⟩=false) (w:World) :
  R_ 100 #[.agg #[ax,ay,az,bx,by',bz,cx,cy,cz],sx,sy] w (.tuple #[(),.bool false]):=by
 have Ha:=aS ha;have Hb:=aS hb;have Hc:=aS hc;have Hz:=hid hz;have HS:=aS hs;have HR:=hid hr;clear ha hb hc hz hs hr;have B0:=hid ((aQ8 w 153 [ax,ay,az,bx,by',bz,cx,cy,cz]).ext (show Ext (w.alloc (.cells #[ax,ay,az,bx,by',bz,cx,cy,cz] 153)) (w.alloc (.cells #[ax,ay,az,bx,by',bz,cx,cy,cz] 153)) from X_));have X0:=hid (show Ext w (w.alloc (.cells #[ax,ay,az,bx,by',bz,cx,cy,cz] 153)) from X_);go_enter func100,ntmps100;go_wp2_with fail;refine r_ (uP _ _ _ _ _ _ _ _ _ Ha Hb Hc Hz _ _ HS HR _) fun w1 x1=>?_;go_wp2;exact bodyPost_ret (v:=.tuple #[(),.bool false]) (by simp [results,results100,go_sem, *]) rfl ⟨rfl,X0.trans x1⟩
theorem pD {a b s:V3} (ha:a.scr) (hb:b.scr) (hs:s.scr) : -100000000000<=aX a b s/\aX a b s<=100000000000:=by
 have h:=rS ha hb hs;unfold aX;omega
theorem aGy (ax ay az bx by' bz cx cy cz:Int) (ha:aSn ⟨ax,ay,az⟩) (hb:aSn ⟨bx,by',bz⟩) (hc:aSn ⟨cx,cy,cz⟩) (hz:(-1000000<=az/\az<=1000000)/\(-1000000<=bz/\bz<=1000000)/\(-1000000<=cz/\cz<=1000000)) (sx sy:Int) (hs:aSn ⟨sx,sy,0⟩) (hr:qO ⟨ax,ay,az⟩ ⟨bx,by',bz⟩ ⟨cx,cy,cz⟩ ⟨sx,sy,0⟩=true) (hd:eC ⟨ax,ay,az⟩ ⟨bx,by',bz⟩ ⟨cx,cy,cz⟩ ⟨sx,sy,0⟩=r) (w:World) :
  R_ 100 #[.agg #[ax,ay,az,bx,by',bz,cx,cy,cz],sx,sy] w (.tuple #[r,.bool true]):=by
 have Ha:=aS ha;have Hb:=aS hb;have Hc:=aS hc;have Hz:=hid hz;have HS:=aS hs;have HR:=hid hr;unfold eC at hd;simp only at hd
 obtain ⟨n,en⟩:=e_ (aX ⟨ax,ay,az⟩ ⟨bx,by',bz⟩ ⟨cx,cy,cz⟩)
 obtain ⟨s1,e1⟩:=e_ (aX ⟨bx,by',bz⟩ ⟨cx,cy,cz⟩ ⟨sx,sy,0⟩)
 obtain ⟨s2,e2⟩:=e_ (aX ⟨cx,cy,cz⟩ ⟨ax,ay,az⟩ ⟨sx,sy,0⟩)
 obtain ⟨s3,e3⟩:=e_ (aX ⟨ax,ay,az⟩ ⟨bx,by',bz⟩ ⟨sx,sy,0⟩)
 have gn:=pD ha hb hc;have g1:=pD hb hc hs;have g2:=pD hc ha hs;have g3:=pD ha hb hs;have h0:=aJ8 hr;rw [en,e1,e2,e3] at h0 hd;rw [en] at gn;rw [e1] at g1;rw [e2] at g2;rw [e3] at g3
 obtain ⟨an,fn⟩:=e_ (fT n)
 obtain ⟨a1,f1⟩:=e_ (fT s1)
 obtain ⟨a2,f2⟩:=e_ (fT s2)
 obtain ⟨a3,f3⟩:=e_ (fT s3)
 have k1:=(dG (x:=s1)).1;have k2:=(dG (x:=s2)).1;have k3:=(dG (x:=s3)).1
 have kn:an<=100000000000:=by
  rcases Int.le_total 0 n with h|h
  ·have:=(dG (x:=n)).2.1 h;omega
  ·have:=(dG (x:=n)).2.2 h;omega
 rw [fn,f1,f2,f3] at h0;rw [f1] at k1;rw [f2] at k2;rw [f3] at k3;rw [fn,f1,f2,f3] at hd
 obtain ⟨q1,i1⟩:=e_ (az*a1)
 obtain ⟨q2,i2⟩:=e_ (bz*a2)
 obtain ⟨q3,i3⟩:=e_ (cz*a3)
 have j1:=bL (A:=1000000) (B:=100000000000) (a:=az) (b:=a1) hz.1 (by omega);have j2:=bL (A:=1000000) (B:=100000000000) (a:=bz) (b:=a2) hz.2.1 (by omega);have j3:=bL (A:=1000000) (B:=100000000000) (a:=cz) (b:=a3) hz.2.2 (by omega);rw [i1] at j1 hd;rw [i2] at j2 hd;rw [i3] at j3 hd;have w1:=hid (show wrap64 (az*a1)=q1 by rw [i1];exact aD (by omega) (by omega));have w2:=hid (show wrap64 (bz*a2)=q2 by rw [i2];exact aD (by omega) (by omega));have w3:=hid (show wrap64 (cz*a3)=q3 by rw [i3];exact aD (by omega) (by omega));have w4:=hid (show wrap64 (q1+q2)=q1+q2 from aD (by omega) (by omega));have w5:=hid (show wrap64 (q1+q2+q3)=q1+q2+q3 from aD (by omega) (by omega));have I9:=hid (show I64 (q1+q2+q3) from I64.of (m:=400000000000000000) (by omega) (by decide));have HN:=hid (show aX ⟨ax,ay,az⟩ ⟨bx,by',bz⟩ ⟨cx,cy,0⟩=n from en);have H1:=hid e1;have H2:=hid e2;have H3:=hid e3;have FN:=hid fn;have F1:=hid f1;have F2:=hid f2;have F3:=hid f3;have GN:=hid gn;have G1:=hid g1;have G2:=hid g2;have G3:=hid g3;have HD:=hid hd;clear ha hb hc hz hs hr hd en e1 e2 e3 fn f1 f2 f3 gn g1 g2 g3 h0 i1 i2 i3 j1 j2 j3 k1 k2 k3 kn;have B0:=hid ((aQ8 w 153 [ax,ay,az,bx,by',bz,cx,cy,cz]).ext (show Ext (w.alloc (.cells #[ax,ay,az,bx,by',bz,cx,cy,cz] 153)) (w.alloc (.cells #[ax,ay,az,bx,by',bz,cx,cy,cz] 153)) from X_));have X0:=hid (show Ext w (w.alloc (.cells #[ax,ay,az,bx,by',bz,cx,cy,cz] 153)) from X_);go_enter func100,ntmps100;go_wp2_with fail;refine r_ (uP _ _ _ _ _ _ _ _ _ Ha Hb Hc Hz _ _ HS HR _) fun v1 x1=>?_;replace B0:=hid (B0.ext x1);replace X0:=hid (X0.trans x1);have p:=B0.lt;have p0:=B0.cell 0 rfl;have p1:=B0.cell 1 rfl;have p2:=B0.cell 2 rfl;have p3:=B0.cell 3 rfl;have p4:=B0.cell 4 rfl;have p5:=B0.cell 5 rfl;have p6:=B0.cell 6 rfl;have p7:=B0.cell 7 rfl;have p8:=B0.cell 8 rfl;go_wp2_with fail;refine r_ (sK _ _ _ _ _ _ _ _ _ Ha Hb Hc Hz _) fun v2 x2=>?_;clear p p0 p1 p2 p3 p4 p5 p6 p7 p8;replace B0:=hid (B0.ext x2);replace X0:=hid (X0.trans x2);have G:=hid (aQ8 v2 151 [ax,ay,az,bx,by',bz,cx,cy,cz]);have yN:Ext v2 (v2.alloc (.cells #[ax,ay,az,bx,by',bz,cx,cy,cz] 151)):=X_;replace B0:=hid (B0.ext yN);replace X0:=hid (X0.trans yN);clear yN x1 x2;have p:=B0.lt;have p0:=B0.cell 0 rfl;have p1:=B0.cell 1 rfl;have p2:=B0.cell 2 rfl;have p3:=B0.cell 3 rfl;have p4:=B0.cell 4 rfl;have p5:=B0.cell 5 rfl;have p6:=B0.cell 6 rfl;have p7:=B0.cell 7 rfl;have p8:=B0.cell 8 rfl;go_wp2_with fail;refine r_ (aA2 _ _ _ _ _ _ _ _ _ Ha Hb Hc Hz HN _) fun v3 x3=>?_;replace G:=hid (G.ext x3);replace X0:=hid (X0.trans x3);clear p p0 p1 p2 p3 p4 p5 p6 p7 p8;go_wp2_with fail;refine z_ (sL GN FN _) ?_;have g:=G.lt;have g0:=G.cell 0 rfl;have g1:=G.cell 1 rfl;have g2:=G.cell 2 rfl;have g3:=G.cell 3 rfl;have g4:=G.cell 4 rfl;have g5:=G.cell 5 rfl;have g6:=G.cell 6 rfl;have g7:=G.cell 7 rfl;have g8:=G.cell 8 rfl;go_wp2_with fail;refine r_ (iO _ _ _ _ _ _ Hb Hc HS H1 _) fun v5 x5=>?_;replace G:=hid (G.ext x5);replace X0:=hid (X0.trans x5);clear g g0 g1 g2 g3 g4 g5 g6 g7 g8;go_wp2_with fail;refine z_ (sL G1 F1 _) ?_;have g:=G.lt;have g0:=G.cell 0 rfl;have g1:=G.cell 1 rfl;have g2:=G.cell 2 rfl;have g3:=G.cell 3 rfl;have g4:=G.cell 4 rfl;have g5:=G.cell 5 rfl;have g6:=G.cell 6 rfl;have g7:=G.cell 7 rfl;have g8:=G.cell 8 rfl;go_wp2_with fail;refine r_ (iO _ _ _ _ _ _ Hc Ha HS H2 _) fun v6 x6=>?_;replace G:=hid (G.ext x6);replace X0:=hid (X0.trans x6);clear g g0 g1 g2 g3 g4 g5 g6 g7 g8;go_wp2_with fail;refine z_ (sL G2 F2 _) ?_;have g:=G.lt;have g0:=G.cell 0 rfl;have g1:=G.cell 1 rfl;have g2:=G.cell 2 rfl;have g3:=G.cell 3 rfl;have g4:=G.cell 4 rfl;have g5:=G.cell 5 rfl;have g6:=G.cell 6 rfl;have g7:=G.cell 7 rfl;have g8:=G.cell 8 rfl;go_wp2_with fail;refine r_ (iO _ _ _ _ _ _ Ha Hb HS H3 _) fun v7 x7=>?_;replace G:=hid (G.ext x7);replace X0:=hid (X0.trans x7);clear g g0 g1 g2 g3 g4 g5 g6 g7 g8;go_wp2_with fail;refine z_ (sL G3 F3 _) ?_;have g:=G.lt;have g0:=G.cell 0 rfl;have g1:=G.cell 1 rfl;have g2:=G.cell 2 rfl;have g3:=G.cell 3 rfl;have g4:=G.cell 4 rfl;have g5:=G.cell 5 rfl;have g6:=G.cell 6 rfl;have g7:=G.cell 7 rfl;have g8:=G.cell 8 rfl;have u1:=w1.out;have u2:=w2.out;have u3:=w3.out;have u4:=w4.out;have u5:=w5.out;go_wp2_with fail;refine z_ (aT I9 HD _) ?_;go_wp2;exact bodyPost_ret (v:=.tuple #[r,.bool true]) (by simp [results,results100,go_sem, *]) rfl ⟨rfl,X0⟩
theorem pE (x y z k l m t:Int) (ht:0<=t/\t<=16) (w:World) :
  R_ 204 #[.agg #[x,y,z],.agg #[k,l,m],t,.int .i64 16] w (.agg #[(gJ x k t 16),(gJ y l t 16),(gJ z m t 16)]):=by
 obtain ⟨ux,h3⟩:=e_ (cl x)
 have h9:=cM x;rw [h3] at h9
 obtain ⟨uy,h4⟩:=e_ (cl y)
 have q4:=cM y;rw [h4] at q4
 obtain ⟨uz,h5⟩:=e_ (cl z)
 have q5:=cM z;rw [h5] at q5
 obtain ⟨uk,h0⟩:=e_ (cl k)
 have h6:=cM k;rw [h0] at h6
 obtain ⟨ul,h1⟩:=e_ (cl l)
 have h7:=cM l;rw [h1] at h7
 obtain ⟨um,h2⟩:=e_ (cl m)
 have h8:=cM m;rw [h2] at h8;have p0:=bL (A:=1000000) (B:=16) (a:=ux) (b:=16 - t) h9 (by omega)
 obtain ⟨q0,e0⟩:=e_ (ux*(16 - t))
 rw [e0] at p0;have r0:=bL (A:=1000000) (B:=16) (a:=uk) (b:=t) h6 (by omega)
 obtain ⟨s0,g0⟩:=e_ (uk*t)
 rw [g0] at r0
 obtain ⟨v0,q6⟩:=e_ (gJ x k t 16)
 rw [q6];have F0:=hid (show bI (q0+s0) 16=v0 by rw [<-q6];unfold gJ;rw [h3,h0,e0,g0]);have M0:=hid (show wrap64 (ux*(16 - t))=q0 by rw [e0];exact aD (by omega) (by omega));have N0:=hid (show wrap64 (uk*t)=s0 by rw [g0];exact aD (by omega) (by omega));have S0:=hid (show wrap64 (q0+s0)=q0+s0 from aD (by omega) (by omega));have I0:=hid (I64.of (n:=q0+s0) (m:=40000000) (by omega) (by decide));have p1:=bL (A:=1000000) (B:=16) (a:=uy) (b:=16 - t) q4 (by omega)
 obtain ⟨q1,e1⟩:=e_ (uy*(16 - t))
 rw [e1] at p1;have r1:=bL (A:=1000000) (B:=16) (a:=ul) (b:=t) h7 (by omega)
 obtain ⟨s1,g1⟩:=e_ (ul*t)
 rw [g1] at r1
 obtain ⟨v1,q7⟩:=e_ (gJ y l t 16)
 rw [q7];have F1:=hid (show bI (q1+s1) 16=v1 by rw [<-q7];unfold gJ;rw [h4,h1,e1,g1]);have M1:=hid (show wrap64 (uy*(16 - t))=q1 by rw [e1];exact aD (by omega) (by omega));have N1:=hid (show wrap64 (ul*t)=s1 by rw [g1];exact aD (by omega) (by omega));have S1:=hid (show wrap64 (q1+s1)=q1+s1 from aD (by omega) (by omega));have I1:=hid (I64.of (n:=q1+s1) (m:=40000000) (by omega) (by decide));have p2:=bL (A:=1000000) (B:=16) (a:=uz) (b:=16 - t) q5 (by omega)
 obtain ⟨q2,e2⟩:=e_ (uz*(16 - t))
 rw [e2] at p2;have r2:=bL (A:=1000000) (B:=16) (a:=um) (b:=t) h8 (by omega)
 obtain ⟨s2,g2⟩:=e_ (um*t)
 rw [g2] at r2
 obtain ⟨v2,q8⟩:=e_ (gJ z m t 16)
 rw [q8];have F2:=hid (show bI (q2+s2) 16=v2 by rw [<-q8];unfold gJ;rw [h5,h2,e2,g2]);have M2:=hid (show wrap64 (uz*(16 - t))=q2 by rw [e2];exact aD (by omega) (by omega));have N2:=hid (show wrap64 (um*t)=s2 by rw [g2];exact aD (by omega) (by omega));have S2:=hid (show wrap64 (q2+s2)=q2+s2 from aD (by omega) (by omega));have I2:=hid (I64.of (n:=q2+s2) (m:=40000000) (by omega) (by decide));have x5:=hid h3;have x6:=hid h4;have x7:=hid h5;have q9:=hid h0;have x3:=hid h1;have x4:=hid h2;have T0:=hid (show wrap64 (16 - t)=16 - t from aD (by omega) (by omega));clear h3 h9 h4 q4 h5 q5 h0 h6 h1 h7 h2 h8 p0 e0 r0 g0 q6 p1 e1 r1 g1 q7 p2 e2 r2 g2 q8;have J1:=hid (show inB 16 1 4096=true from rfl);have J2:=hid (aG.2 (show (0:Int)<=t/\t<=16 from ht));clear ht;have B0:=hid ((aQ8 w 122 [x,y,z]).ext (show Ext (w.alloc (.cells #[x,y,z] 122)) (((w.alloc (.cells #[x,y,z] 122)).alloc (.cells #[k,l,m] 122)).alloc (.cells #[(),(),()] 122)) from X_));have B1:=hid (show Blk (((w.alloc (.cells #[x,y,z] 122)).alloc (.cells #[k,l,m] 122)).alloc (.cells #[(),(),()] 122)) (w.heap.size+1) 122 [k,l,m] from by have q:=(aQ8 (w.alloc (.cells #[x,y,z] 122)) 122 [k,l,m]).ext (show Ext ((w.alloc (.cells #[x,y,z] 122)).alloc (.cells #[k,l,m] 122)) (((w.alloc (.cells #[x,y,z] 122)).alloc (.cells #[k,l,m] 122)).alloc (.cells #[(),(),()] 122)) from X_);simp only [aQy] at q;exact q);have B2:=hid (show Blk (((w.alloc (.cells #[x,y,z] 122)).alloc (.cells #[k,l,m] 122)).alloc (.cells #[(),(),()] 122)) (w.heap.size+2) 122 [(),(),()] from by have q:=(aQ8 ((w.alloc (.cells #[x,y,z] 122)).alloc (.cells #[k,l,m] 122)) 122 [(),(),()]).ext (show Ext (((w.alloc (.cells #[x,y,z] 122)).alloc (.cells #[k,l,m] 122)).alloc (.cells #[(),(),()] 122)) (((w.alloc (.cells #[x,y,z] 122)).alloc (.cells #[k,l,m] 122)).alloc (.cells #[(),(),()] 122)) from X_);simp only [aQy] at q;exact q);have X0:=hid (show Ext w (((w.alloc (.cells #[x,y,z] 122)).alloc (.cells #[k,l,m] 122)).alloc (.cells #[(),(),()] 122)) from X_);go_enter func204,ntmps204;go_wp2_with fail;refine r_ (jE x5 x6 x7 _) fun w1 x1=>?_;replace B0:=hid (B0.ext x1);replace B1:=hid (B1.ext x1);replace B2:=hid (B2.ext x1);replace X0:=hid (X0.trans x1);have b:=B1.lt;obtain ⟨b0,b1,b2⟩:=B1.q3;have z1:=X0.size;go_wp2_with fail;refine r_ (jE q9 x3 x4 _) fun w2 x2=>?_;have D1:=(aQ8 w1 122 [ux,uy,uz]).ext x2;have y1:Ext w1 w2:=aQ3 X_ x2;clear b0 b1 b2 b;replace B0:=hid (B0.ext y1);replace B1:=hid (B1.ext y1);replace B2:=hid (B2.ext y1);replace X0:=hid (X0.trans y1);have a:=D1.lt;obtain ⟨a0,a1,a2⟩:=D1.q3;have r:=B2.lt;obtain ⟨r0,r1,r2⟩:=B2.q3;have x8:=B2.free 0;have x9:=B2.free 1;have z0:=B2.free 2;have z2:=X0.size;have z3:=y1.size;have x0:=X0.out;clear D1 x2 y1 x1;go_wp2_with fail;refine z_ (aE J1 _) ?_;go_wp2_with fail;refine z_ (aE J2 _) ?_;have t0:=T0.out;have m0:=M0.out;have n0:=N0.out;have z4:=S0.out;have m1:=M1.out;have n1:=N1.out;have z5:=S1.out;have m2:=M2.out;have n2:=N2.out;have z6:=S2.out;go_wp2_with fail;refine aA [([0,1,2,3,4,5,6,7,8,9,10,11,13,14,15,16,17,18,19,20,21,22,23,24,26,27,28,29,30,31,32,33,34,35,36,37],12),([],25),([],38),([39],40)] 40 (w2.heap.size+1) (by kernel_rfl) (by kernel_rfl) ?_;refine st_ fun K hK=>?_;go_wp2_with fail;refine z_ (aT I0 F0 _) ?_;go_wp2_with fail;refine k_ hK ?_;clear hK K;refine st_ fun K hK=>?_;go_wp2_with fail;refine z_ (aT I1 F1 _) ?_;go_wp2_with fail;refine k_ hK ?_;clear hK K;refine st_ fun K hK=>?_;go_wp2_with fail;refine z_ (aT I2 F2 _) ?_;go_wp2_with fail;refine k_ hK ?_;clear hK K;refine st_ fun K hK=>?_;go_wp2_with fail;refine l_ hK ?_;clear hK K;refine aC ?_;go_wp2;exact bodyPost_ret (v:=.agg #[v0,v1,v2]) (by simp [results,results204,go_sem, *]) rfl ⟨rfl,S_⟩
def aQa (f g:Nat->Int) (t:Int) (j:Nat):List Value:=(aRl 12).map fun i=>.int .i64 (if i<3*j then aY f g t i else f i)
theorem aLl (f g:Nat->Int) (t:Int) (ht:0<=t/\t<=16) (w:World) :
  R_ 149 #[.agg f,.agg g,t] w (.agg (aY f g t)):=by
 have HT:=hid ht;have J2:=hid (aG.2 (show (0:Int)<=t/\t<=16 from ht));clear ht;have B0:=hid ((aQ8 w 125 f).ext (show Ext (w.alloc (.cells f 125)) ((((w.alloc (.cells f 125)).alloc (.cells g 125)).alloc (.cells #[(),(),(),(),(),(),(),(),(),(),(),()] 125)).alloc (.cells f 125)) from X_));have B1:=hid (show Blk ((((w.alloc (.cells f 125)).alloc (.cells g 125)).alloc (.cells #[(),(),(),(),(),(),(),(),(),(),(),()] 125)).alloc (.cells f 125)) (w.heap.size+1) 125 g from by have q:=(aQ8 (w.alloc (.cells f 125)) 125 g).ext (show Ext ((w.alloc (.cells f 125)).alloc (.cells g 125)) ((((w.alloc (.cells f 125)).alloc (.cells g 125)).alloc (.cells #[(),(),(),(),(),(),(),(),(),(),(),()] 125)).alloc (.cells f 125)) from X_);simp only [aQy] at q;exact q);have B2:=hid (show Blk ((((w.alloc (.cells f 125)).alloc (.cells g 125)).alloc (.cells #[(),(),(),(),(),(),(),(),(),(),(),()] 125)).alloc (.cells f 125)) (w.heap.size+2) 125 [(),(),(),(),(),(),(),(),(),(),(),()] from by have q:=(aQ8 ((w.alloc (.cells f 125)).alloc (.cells g 125)) 125 [(),(),(),(),(),(),(),(),(),(),(),()]).ext (show Ext (((w.alloc (.cells f 125)).alloc (.cells g 125)).alloc (.cells #[(),(),(),(),(),(),(),(),(),(),(),()] 125)) ((((w.alloc (.cells f 125)).alloc (.cells g 125)).alloc (.cells #[(),(),(),(),(),(),(),(),(),(),(),()] 125)).alloc (.cells f 125)) from X_);simp only [aQy] at q;exact q);have B3:=hid (show Blk ((((w.alloc (.cells f 125)).alloc (.cells g 125)).alloc (.cells #[(),(),(),(),(),(),(),(),(),(),(),()] 125)).alloc (.cells f 125)) (w.heap.size+3) 125 f from by have q:=(aQ8 (((w.alloc (.cells f 125)).alloc (.cells g 125)).alloc (.cells #[(),(),(),(),(),(),(),(),(),(),(),()] 125)) 125 f).ext (show Ext ((((w.alloc (.cells f 125)).alloc (.cells g 125)).alloc (.cells #[(),(),(),(),(),(),(),(),(),(),(),()] 125)).alloc (.cells f 125)) ((((w.alloc (.cells f 125)).alloc (.cells g 125)).alloc (.cells #[(),(),(),(),(),(),(),(),(),(),(),()] 125)).alloc (.cells f 125)) from X_);simp only [aQy] at q;exact q);have X0:=hid (show Ext w ((((w.alloc (.cells f 125)).alloc (.cells g 125)).alloc (.cells #[(),(),(),(),(),(),(),(),(),(),(),()] 125)).alloc (.cells f 125)) from X_);go_enter func149,ntmps149;go_wp2_with fail;refine z_ (aE J2 _) ?_;go_wp2_with fail
 obtain ⟨W,hW⟩:=e_ ((((w.alloc (.cells f 125)).alloc (.cells g 125)).alloc (.cells #[(),(),(),(),(),(),(),(),(),(),(),()] 125)).alloc (.cells f 125))
 try simp only [aQy]
 rw [hW];rw [hW] at B0 B1 B2 B3 X0;clear hW
 go_loopw [14] (fun i wr=>∃j:Nat,j<=4/\i = .int .i64 (j:Nat)/\Ext w wr/\Blk wr w.heap.size 125 f/\Blk wr (w.heap.size+1) 125 g/\Blk wr (w.heap.size+2) 125 [(),(),(),(),(),(),(),(),(),(),(),()]/\Blk wr (w.heap.size+3) 125 (aQa f g t j)) (fun i _=>4 - (intOf i).toNat)
 case atStart=>exact ⟨0,by omega,rfl,X0,B0,B1,B2,B3⟩
 case round=>
  obtain ⟨j,hj,rfl,hx,h0,h1,h2,h3⟩:=hrel;clear B0 B1 B2 B3 X0;have X0:=hid hx;have B0:=hid h0;have B1:=hid h1;have B2:=hid h2;have B3:=hid h3;clear hx h0 h1 h2 h3
  rcases (show j=0\/j=1\/j=2\/j=3\/j=4 by omega) with rfl|rfl|rfl|rfl|rfl
  ·replace B3:=hid (show Blk wr (w.heap.size+3) 125 f from B3)
   have p:=B0.lt;obtain ⟨p0,p1,p2,p3,p4,p5,p6,p7,p8,p9,z0,z1⟩:=B0.q12;have q:=B1.lt;obtain ⟨q0,q1,q2,q3,q4,q5,q6,q7,q8,q9,z2,z4⟩:=B1.q12;have r:=B3.lt;obtain ⟨r0,r1,r2,r3,r4,r5,r6,r7,r8,r9,h6,h7⟩:=B3.q12;have h8:=B3.free 0;have h9:=B3.free 1;have x1:=B3.free 2;have x2:=B3.free 3;have x3:=B3.free 4;have x4:=B3.free 5;have x6:=B3.free 6;have x7:=B3.free 7;have x8:=B3.free 8;have x9:=B3.free 9;have h4:=B3.free 10;have h5:=B3.free 11;have zs:=X0.size;have z3:=B3.lt;go_wp2_with fail;refine aA [([0,1,2,3,4,5,6,7,8,9,11],10),([12],13)] 99 (w.heap.size+3) (by kernel_rfl) (by kernel_rfl) ?_;refine st_ fun K hK=>?_;go_wp2_with fail;refine r_ (pE _ _ _ _ _ _ t HT _) fun w5 x5=>?_;have y5:Ext wr w5:=aQ3 (aRz (aQ6 _)) x5;go_wp2_with fail;refine hK _ _ (.inr (fun k _ hk=>y5.block (by first|omega|(simp;omega)))) ?_;clear hK K;clear r r0 r1 r2 r3 r4 r5 r6 r7 r8 r9 h6 h7 h8 h9 x1 x2 x3 x4 x6 x7 x8 x9 h4 h5;have C3:=B3.ext y5;have r:=C3.lt;obtain ⟨r0,r1,r2,r3,r4,r5,r6,r7,r8,r9,h6,h7⟩:=C3.q12;have h8:=C3.free 0;have h9:=C3.free 1;have x1:=C3.free 2;have x2:=C3.free 3;have x3:=C3.free 4;have x4:=C3.free 5;have x6:=C3.free 6;have x7:=C3.free 7;have x8:=C3.free 8;have x9:=C3.free 9;have h4:=C3.free 10;have h5:=C3.free 11;refine st_ fun K hK=>?_;go_wp2_with fail;have D:=hid (((C3.set 0 (.int .i64 (aY f g t 0))).set 1 (.int .i64 (aY f g t 1))).set 2 (.int .i64 (aY f g t 2)));have e0:=hid (((B0.ext y5).other (a:=⟨w.heap.size+3,0,none⟩) (by simp) (.int .i64 (aY f g t 0))).other (a:=⟨w.heap.size+3,1,none⟩) (by simp) (.int .i64 (aY f g t 1)) |>.other (a:=⟨w.heap.size+3,2,none⟩) (by simp) (.int .i64 (aY f g t 2)));have e1:=hid (((B1.ext y5).other (a:=⟨w.heap.size+3,0,none⟩) (by simp) (.int .i64 (aY f g t 0))).other (a:=⟨w.heap.size+3,1,none⟩) (by simp) (.int .i64 (aY f g t 1)) |>.other (a:=⟨w.heap.size+3,2,none⟩) (by simp) (.int .i64 (aY f g t 2)));have e2:=hid (((B2.ext y5).other (a:=⟨w.heap.size+3,0,none⟩) (by simp) (.int .i64 (aY f g t 0))).other (a:=⟨w.heap.size+3,1,none⟩) (by simp) (.int .i64 (aY f g t 1)) |>.other (a:=⟨w.heap.size+3,2,none⟩) (by simp) (.int .i64 (aY f g t 2)));have ex:=hid (aRf (aRf (aRf (X0.trans y5) (by simp) _) (by simp) _) (by simp) _:Ext w (((w5.setCell ⟨w.heap.size+3,0,none⟩ (aY f g t 0)).setCell ⟨w.heap.size+3,1,none⟩ (aY f g t 1)).setCell ⟨w.heap.size+3,2,none⟩ (aY f g t 2)))
   refine hK _ _ (.inr (fun k _ hk=>by
    rw [aQ7 _ _ _ _ (by simp only;omega),aQ7 _ _ _ _ (by simp only;omega),aQ7 _ _ _ _ (by simp only;omega)]
    exact y5.block (by omega))) ?_
   clear hK K;refine aC ?_;go_wp2;go_roundw
   case rel=>exact ⟨1,by omega,by go_num,ex.out,e0.out,e1.out,e2.out,D⟩
   case measure=>simp [intOf]
  ·replace B3:=hid (show Blk wr (w.heap.size+3) 125 [(aY f g t 0),(aY f g t 1),(aY f g t 2),(f 3),(f 4),(f 5),(f 6),(f 7),(f 8),(f 9),(f 10),(f 11)] from B3)
   have p:=B0.lt;obtain ⟨p0,p1,p2,p3,p4,p5,p6,p7,p8,p9,z0,z1⟩:=B0.q12;have q:=B1.lt;obtain ⟨q0,q1,q2,q3,q4,q5,q6,q7,q8,q9,z2,z4⟩:=B1.q12;have r:=B3.lt;obtain ⟨r0,r1,r2,r3,r4,r5,r6,r7,r8,r9,h6,h7⟩:=B3.q12;have h8:=B3.free 0;have h9:=B3.free 1;have x1:=B3.free 2;have x2:=B3.free 3;have x3:=B3.free 4;have x4:=B3.free 5;have x6:=B3.free 6;have x7:=B3.free 7;have x8:=B3.free 8;have x9:=B3.free 9;have h4:=B3.free 10;have h5:=B3.free 11;have zs:=X0.size;have z3:=B3.lt;go_wp2_with fail;refine aA [([0,1,2,3,4,5,6,7,8,9,11],10),([12],13)] 99 (w.heap.size+3) (by kernel_rfl) (by kernel_rfl) ?_;refine st_ fun K hK=>?_;go_wp2_with fail;refine r_ (pE _ _ _ _ _ _ t HT _) fun w5 x5=>?_;have y5:Ext wr w5:=aQ3 (aRz (aQ6 _)) x5;go_wp2_with fail;refine hK _ _ (.inr (fun k _ hk=>y5.block (by first|omega|(simp;omega)))) ?_;clear hK K;clear r r0 r1 r2 r3 r4 r5 r6 r7 r8 r9 h6 h7 h8 h9 x1 x2 x3 x4 x6 x7 x8 x9 h4 h5;have C3:=B3.ext y5;have r:=C3.lt;obtain ⟨r0,r1,r2,r3,r4,r5,r6,r7,r8,r9,h6,h7⟩:=C3.q12;have h8:=C3.free 0;have h9:=C3.free 1;have x1:=C3.free 2;have x2:=C3.free 3;have x3:=C3.free 4;have x4:=C3.free 5;have x6:=C3.free 6;have x7:=C3.free 7;have x8:=C3.free 8;have x9:=C3.free 9;have h4:=C3.free 10;have h5:=C3.free 11;refine st_ fun K hK=>?_;go_wp2_with fail;have D:=hid (((C3.set 3 (.int .i64 (aY f g t 3))).set 4 (.int .i64 (aY f g t 4))).set 5 (.int .i64 (aY f g t 5)));have e0:=hid (((B0.ext y5).other (a:=⟨w.heap.size+3,3,none⟩) (by simp) (.int .i64 (aY f g t 3))).other (a:=⟨w.heap.size+3,4,none⟩) (by simp) (.int .i64 (aY f g t 4)) |>.other (a:=⟨w.heap.size+3,5,none⟩) (by simp) (.int .i64 (aY f g t 5)));have e1:=hid (((B1.ext y5).other (a:=⟨w.heap.size+3,3,none⟩) (by simp) (.int .i64 (aY f g t 3))).other (a:=⟨w.heap.size+3,4,none⟩) (by simp) (.int .i64 (aY f g t 4)) |>.other (a:=⟨w.heap.size+3,5,none⟩) (by simp) (.int .i64 (aY f g t 5)));have e2:=hid (((B2.ext y5).other (a:=⟨w.heap.size+3,3,none⟩) (by simp) (.int .i64 (aY f g t 3))).other (a:=⟨w.heap.size+3,4,none⟩) (by simp) (.int .i64 (aY f g t 4)) |>.other (a:=⟨w.heap.size+3,5,none⟩) (by simp) (.int .i64 (aY f g t 5)));have ex:=hid (aRf (aRf (aRf (X0.trans y5) (by simp) _) (by simp) _) (by simp) _:Ext w (((w5.setCell ⟨w.heap.size+3,3,none⟩ (aY f g t 3)).setCell ⟨w.heap.size+3,4,none⟩ (aY f g t 4)).setCell ⟨w.heap.size+3,5,none⟩ (aY f g t 5)))
   refine hK _ _ (.inr (fun k _ hk=>by
    rw [aQ7 _ _ _ _ (by simp only;omega),aQ7 _ _ _ _ (by simp only;omega),aQ7 _ _ _ _ (by simp only;omega)]
    exact y5.block (by omega))) ?_
   clear hK K;refine aC ?_;go_wp2;go_roundw
   case rel=>exact ⟨2,by omega,by go_num,ex.out,e0.out,e1.out,e2.out,D⟩
   case measure=>simp [intOf]
  ·replace B3:=hid (show Blk wr (w.heap.size+3) 125 [(aY f g t 0),(aY f g t 1),(aY f g t 2),(aY f g t 3),(aY f g t 4),(aY f g t 5),(f 6),(f 7),(f 8),(f 9),(f 10),(f 11)] from B3)
   have p:=B0.lt;obtain ⟨p0,p1,p2,p3,p4,p5,p6,p7,p8,p9,z0,z1⟩:=B0.q12;have q:=B1.lt;obtain ⟨q0,q1,q2,q3,q4,q5,q6,q7,q8,q9,z2,z4⟩:=B1.q12;have r:=B3.lt;obtain ⟨r0,r1,r2,r3,r4,r5,r6,r7,r8,r9,h6,h7⟩:=B3.q12;have h8:=B3.free 0;have h9:=B3.free 1;have x1:=B3.free 2;have x2:=B3.free 3;have x3:=B3.free 4;have x4:=B3.free 5;have x6:=B3.free 6;have x7:=B3.free 7;have x8:=B3.free 8;have x9:=B3.free 9;have h4:=B3.free 10;have h5:=B3.free 11;have zs:=X0.size;have z3:=B3.lt;go_wp2_with fail;refine aA [([0,1,2,3,4,5,6,7,8,9,11],10),([12],13)] 99 (w.heap.size+3) (by kernel_rfl) (by kernel_rfl) ?_;refine st_ fun K hK=>?_;go_wp2_with fail;refine r_ (pE _ _ _ _ _ _ t HT _) fun w5 x5=>?_;have y5:Ext wr w5:=aQ3 (aRz (aQ6 _)) x5;go_wp2_with fail;refine hK _ _ (.inr (fun k _ hk=>y5.block (by first|omega|(simp;omega)))) ?_;clear hK K;clear r r0 r1 r2 r3 r4 r5 r6 r7 r8 r9 h6 h7 h8 h9 x1 x2 x3 x4 x6 x7 x8 x9 h4 h5;have C3:=B3.ext y5;have r:=C3.lt;obtain ⟨r0,r1,r2,r3,r4,r5,r6,r7,r8,r9,h6,h7⟩:=C3.q12;have h8:=C3.free 0;have h9:=C3.free 1;have x1:=C3.free 2;have x2:=C3.free 3;have x3:=C3.free 4;have x4:=C3.free 5;have x6:=C3.free 6;have x7:=C3.free 7;have x8:=C3.free 8;have x9:=C3.free 9;have h4:=C3.free 10;have h5:=C3.free 11;refine st_ fun K hK=>?_;go_wp2_with fail;have D:=hid (((C3.set 6 (.int .i64 (aY f g t 6))).set 7 (.int .i64 (aY f g t 7))).set 8 (.int .i64 (aY f g t 8)));have e0:=hid (((B0.ext y5).other (a:=⟨w.heap.size+3,6,none⟩) (by simp) (.int .i64 (aY f g t 6))).other (a:=⟨w.heap.size+3,7,none⟩) (by simp) (.int .i64 (aY f g t 7)) |>.other (a:=⟨w.heap.size+3,8,none⟩) (by simp) (.int .i64 (aY f g t 8)));have e1:=hid (((B1.ext y5).other (a:=⟨w.heap.size+3,6,none⟩) (by simp) (.int .i64 (aY f g t 6))).other (a:=⟨w.heap.size+3,7,none⟩) (by simp) (.int .i64 (aY f g t 7)) |>.other (a:=⟨w.heap.size+3,8,none⟩) (by simp) (.int .i64 (aY f g t 8)));have e2:=hid (((B2.ext y5).other (a:=⟨w.heap.size+3,6,none⟩) (by simp) (.int .i64 (aY f g t 6))).other (a:=⟨w.heap.size+3,7,none⟩) (by simp) (.int .i64 (aY f g t 7)) |>.other (a:=⟨w.heap.size+3,8,none⟩) (by simp) (.int .i64 (aY f g t 8)));have ex:=hid (aRf (aRf (aRf (X0.trans y5) (by simp) _) (by simp) _) (by simp) _:Ext w (((w5.setCell ⟨w.heap.size+3,6,none⟩ (aY f g t 6)).setCell ⟨w.heap.size+3,7,none⟩ (aY f g t 7)).setCell ⟨w.heap.size+3,8,none⟩ (aY f g t 8)))
   refine hK _ _ (.inr (fun k _ hk=>by
    rw [aQ7 _ _ _ _ (by simp only;omega),aQ7 _ _ _ _ (by simp only;omega),aQ7 _ _ _ _ (by simp only;omega)]
    exact y5.block (by omega))) ?_
   clear hK K;refine aC ?_;go_wp2;go_roundw
   case rel=>exact ⟨3,by omega,by go_num,ex.out,e0.out,e1.out,e2.out,D⟩
   case measure=>simp [intOf]
  ·replace B3:=hid (show Blk wr (w.heap.size+3) 125 [(aY f g t 0),(aY f g t 1),(aY f g t 2),(aY f g t 3),(aY f g t 4),(aY f g t 5),(aY f g t 6),(aY f g t 7),(aY f g t 8),(f 9),(f 10),(f 11)] from B3)
   have p:=B0.lt;obtain ⟨p0,p1,p2,p3,p4,p5,p6,p7,p8,p9,z0,z1⟩:=B0.q12;have q:=B1.lt;obtain ⟨q0,q1,q2,q3,q4,q5,q6,q7,q8,q9,z2,z4⟩:=B1.q12;have r:=B3.lt;obtain ⟨r0,r1,r2,r3,r4,r5,r6,r7,r8,r9,h6,h7⟩:=B3.q12;have h8:=B3.free 0;have h9:=B3.free 1;have x1:=B3.free 2;have x2:=B3.free 3;have x3:=B3.free 4;have x4:=B3.free 5;have x6:=B3.free 6;have x7:=B3.free 7;have x8:=B3.free 8;have x9:=B3.free 9;have h4:=B3.free 10;have h5:=B3.free 11;have zs:=X0.size;have z3:=B3.lt;go_wp2_with fail;refine aA [([0,1,2,3,4,5,6,7,8,9,11],10),([12],13)] 99 (w.heap.size+3) (by kernel_rfl) (by kernel_rfl) ?_;refine st_ fun K hK=>?_;go_wp2_with fail;refine r_ (pE _ _ _ _ _ _ t HT _) fun w5 x5=>?_;have y5:Ext wr w5:=aQ3 (aRz (aQ6 _)) x5;go_wp2_with fail;refine hK _ _ (.inr (fun k _ hk=>y5.block (by first|omega|(simp;omega)))) ?_;clear hK K;clear r r0 r1 r2 r3 r4 r5 r6 r7 r8 r9 h6 h7 h8 h9 x1 x2 x3 x4 x6 x7 x8 x9 h4 h5;have C3:=B3.ext y5;have r:=C3.lt;obtain ⟨r0,r1,r2,r3,r4,r5,r6,r7,r8,r9,h6,h7⟩:=C3.q12;have h8:=C3.free 0;have h9:=C3.free 1;have x1:=C3.free 2;have x2:=C3.free 3;have x3:=C3.free 4;have x4:=C3.free 5;have x6:=C3.free 6;have x7:=C3.free 7;have x8:=C3.free 8;have x9:=C3.free 9;have h4:=C3.free 10;have h5:=C3.free 11;refine st_ fun K hK=>?_;go_wp2_with fail;have D:=hid (((C3.set 9 (.int .i64 (aY f g t 9))).set 10 (.int .i64 (aY f g t 10))).set 11 (.int .i64 (aY f g t 11)));have e0:=hid (((B0.ext y5).other (a:=⟨w.heap.size+3,9,none⟩) (by simp) (.int .i64 (aY f g t 9))).other (a:=⟨w.heap.size+3,10,none⟩) (by simp) (.int .i64 (aY f g t 10)) |>.other (a:=⟨w.heap.size+3,11,none⟩) (by simp) (.int .i64 (aY f g t 11)));have e1:=hid (((B1.ext y5).other (a:=⟨w.heap.size+3,9,none⟩) (by simp) (.int .i64 (aY f g t 9))).other (a:=⟨w.heap.size+3,10,none⟩) (by simp) (.int .i64 (aY f g t 10)) |>.other (a:=⟨w.heap.size+3,11,none⟩) (by simp) (.int .i64 (aY f g t 11)));have e2:=hid (((B2.ext y5).other (a:=⟨w.heap.size+3,9,none⟩) (by simp) (.int .i64 (aY f g t 9))).other (a:=⟨w.heap.size+3,10,none⟩) (by simp) (.int .i64 (aY f g t 10)) |>.other (a:=⟨w.heap.size+3,11,none⟩) (by simp) (.int .i64 (aY f g t 11)));have ex:=hid (aRf (aRf (aRf (X0.trans y5) (by simp) _) (by simp) _) (by simp) _:Ext w (((w5.setCell ⟨w.heap.size+3,9,none⟩ (aY f g t 9)).setCell ⟨w.heap.size+3,10,none⟩ (aY f g t 10)).setCell ⟨w.heap.size+3,11,none⟩ (aY f g t 11)))
   refine hK _ _ (.inr (fun k _ hk=>by
    rw [aQ7 _ _ _ _ (by simp only;omega),aQ7 _ _ _ _ (by simp only;omega),aQ7 _ _ _ _ (by simp only;omega)]
    exact y5.block (by omega))) ?_
   clear hK K;refine aC ?_;go_wp2;go_roundw
   case rel=>exact ⟨4,by omega,by go_num,ex.out,e0.out,e1.out,e2.out,D⟩
   case measure=>simp [intOf]
  ·replace B3:=hid (show Blk wr (w.heap.size+3) 125 (aY f g t) from B3)
   have p:=B3.lt;obtain ⟨p0,p1,p2,p3,p4,p5,p6,p7,p8,p9,z0,z1⟩:=B3.q12;have r:=B2.lt;obtain ⟨r0,r1,r2,r3,r4,r5,r6,r7,r8,r9,h6,h7⟩:=B2.q12;have h8:=B2.free 0;have h9:=B2.free 1;have x1:=B2.free 2;have x2:=B2.free 3;have x3:=B2.free 4;have x4:=B2.free 5;have x6:=B2.free 6;have x7:=B2.free 7;have x8:=B2.free 8;have x9:=B2.free 9;have h4:=B2.free 10;have h5:=B2.free 11;have x0:=X0.out;go_wp2;exact bodyPost_ret (v:=.agg (aY f g t)) (by simp [results,results149,go_sem, *]) rfl ⟨rfl,S_⟩
theorem xZ (f g:Nat->Int) (sh rt t:Int) (ht:0<=t/\t<=16) (w:World) :
  R_ 99 #[.agg #[(f 0),(f 1),(f 2),(f 3),(f 4),(f 5),(f 6),(f 7),(f 8),(f 9),(f 10),(f 11),(g 0),(g 1),(g 2),(g 3),(g 4),(g 5),(g 6),(g 7),(g 8),(g 9),(g 10),(g 11),sh,rt],t] w (.agg (aY f g t)):=by
 have HT:=hid ht;clear ht;have B0:=hid ((aQ8 w 127 [(f 0),(f 1),(f 2),(f 3),(f 4),(f 5),(f 6),(f 7),(f 8),(f 9),(f 10),(f 11),(g 0),(g 1),(g 2),(g 3),(g 4),(g 5),(g 6),(g 7),(g 8),(g 9),(g 10),(g 11),sh,rt]).ext (show Ext (w.alloc (.cells #[(f 0),(f 1),(f 2),(f 3),(f 4),(f 5),(f 6),(f 7),(f 8),(f 9),(f 10),(f 11),(g 0),(g 1),(g 2),(g 3),(g 4),(g 5),(g 6),(g 7),(g 8),(g 9),(g 10),(g 11),sh,rt] 127)) ((w.alloc (.cells #[(f 0),(f 1),(f 2),(f 3),(f 4),(f 5),(f 6),(f 7),(f 8),(f 9),(f 10),(f 11),(g 0),(g 1),(g 2),(g 3),(g 4),(g 5),(g 6),(g 7),(g 8),(g 9),(g 10),(g 11),sh,rt] 127)).alloc (.cells #[(),(),(),(),(),(),(),(),(),(),(),()] 125)) from X_));have B1:=hid (show Blk ((w.alloc (.cells #[(f 0),(f 1),(f 2),(f 3),(f 4),(f 5),(f 6),(f 7),(f 8),(f 9),(f 10),(f 11),(g 0),(g 1),(g 2),(g 3),(g 4),(g 5),(g 6),(g 7),(g 8),(g 9),(g 10),(g 11),sh,rt] 127)).alloc (.cells #[(),(),(),(),(),(),(),(),(),(),(),()] 125)) (w.heap.size+1) 125 [(),(),(),(),(),(),(),(),(),(),(),()] from by have q:=(aQ8 (w.alloc (.cells #[(f 0),(f 1),(f 2),(f 3),(f 4),(f 5),(f 6),(f 7),(f 8),(f 9),(f 10),(f 11),(g 0),(g 1),(g 2),(g 3),(g 4),(g 5),(g 6),(g 7),(g 8),(g 9),(g 10),(g 11),sh,rt] 127)) 125 [(),(),(),(),(),(),(),(),(),(),(),()]).ext (show Ext ((w.alloc (.cells #[(f 0),(f 1),(f 2),(f 3),(f 4),(f 5),(f 6),(f 7),(f 8),(f 9),(f 10),(f 11),(g 0),(g 1),(g 2),(g 3),(g 4),(g 5),(g 6),(g 7),(g 8),(g 9),(g 10),(g 11),sh,rt] 127)).alloc (.cells #[(),(),(),(),(),(),(),(),(),(),(),()] 125)) ((w.alloc (.cells #[(f 0),(f 1),(f 2),(f 3),(f 4),(f 5),(f 6),(f 7),(f 8),(f 9),(f 10),(f 11),(g 0),(g 1),(g 2),(g 3),(g 4),(g 5),(g 6),(g 7),(g 8),(g 9),(g 10),(g 11),sh,rt] 127)).alloc (.cells #[(),(),(),(),(),(),(),(),(),(),(),()] 125)) from X_);simp only [aQy] at q;exact q);have X0:=hid (show Ext w ((w.alloc (.cells #[(f 0),(f 1),(f 2),(f 3),(f 4),(f 5),(f 6),(f 7),(f 8),(f 9),(f 10),(f 11),(g 0),(g 1),(g 2),(g 3),(g 4),(g 5),(g 6),(g 7),(g 8),(g 9),(g 10),(g 11),sh,rt] 127)).alloc (.cells #[(),(),(),(),(),(),(),(),(),(),(),()] 125)) from X_);go_enter func99,ntmps99;go_wp2_with fail;refine r_ (aLl f g t HT _) fun w1 x1=>?_;replace B1:=hid (B1.ext x1);replace X0:=hid (X0.trans x1);have r:=B1.lt;obtain ⟨r0,r1,r2,r3,r4,r5,r6,r7,r8,r9,h2,h3⟩:=B1.q12;have h4:=B1.free 0;have h5:=B1.free 1;have h6:=B1.free 2;have h7:=B1.free 3;have h8:=B1.free 4;have h9:=B1.free 5;have q0:=B1.free 6;have q1:=B1.free 7;have q2:=B1.free 8;have q3:=B1.free 9;have h0:=B1.free 10;have h1:=B1.free 11;have x0:=X0.out;go_wp2;exact bodyPost_ret (v:=.agg (aY f g t)) (by simp [results,results99,go_sem, *]) rfl ⟨rfl,S_⟩
theorem mW {c:Cam} {b:Int} (h:c.prB ⟨x,y,z⟩ lx ly=true) (hp:c.pr ⟨x,y,z⟩ lx ly=⟨a,b,d⟩) (w:World) :
  R_ 203 #[.agg c,.agg #[x,y,z],lx,ly] w (.tuple #[.agg #[a,b,d],.bool true]):=by
 have:=aCo c x y z lx ly h w;rw [hp] at this;exact this
theorem mX {c:Cam} (h:c.prB ⟨x,y,z⟩ lx ly=false) (w:World) :
  R_ 203 #[.agg c,.agg #[x,y,z],lx,ly] w (.tuple #[.agg #[(),(),()],.bool false]):=aEq c x y z lx ly h w
theorem pF {j i' j' n X Y Z:Int} (e1:i'=i) (e2:j'=j) (h:evP f i j n=⟨X,Y,Z⟩) (hn:1<=n/\n<=64) (hi:0<=i/\i<=n) (hj:0<=j/\j<=n) (w:World) :
  R_ 192 #[.agg f,i',j',n] w (.agg #[X,Y,Z]):=by
 subst e1 e2;exact xV h hn hi hj w
def crn (c:Cam) (f:Nat->Int) (n:Nat) (s:Smp) (u v q:Nat):V3:=cW c f n s (u+q % 2) (v+q / 2)
def aGz (c:Cam) (f:Nat->Int) (n:Nat) (s:Smp) (u v q:Nat):Bool:=lN c f n s (u+q % 2) (v+q / 2)
theorem aNa {c:Cam} {s:Smp} {u v:Nat} (h:∀q,q<4->aGz c f n s u v q=true):lO c f n s u v=true:=by
 have h0:=h 0 (by decide);have h1:=h 1 (by decide);have h2:=h 2 (by decide);have h3:=h 3 (by decide);unfold lO;simp only [aRd];exact ⟨⟨⟨h0,h1⟩,h2⟩,h3⟩
theorem aLm {c:Cam} {s:Smp} {u v q:Nat} (hq:q<4) (h:aGz c f n s u v q=false):lO c f n s u v=false:=
 aHl (i:=q % 2) (j:=q / 2) (by omega) (by omega) h
theorem aHk.rd {c:Cam} {s:Smp} {u v:Nat} {r:Value} (h:aHk c f n s u v lo w r):Rd Mc.cs lo w.heap.size w r (fX c f n s u v):=by
 rcases h with ⟨hd,rfl⟩|⟨hd,g,hl,rfl,hb⟩
 ·unfold fX
  rw [if_neg (by rw [hd];exact Bool.false_ne_true)];exact Rd.nil _ _ _ _
 ·unfold fX
  rw [if_pos hd];refine ⟨some ⟨g,0,none⟩,2,rfl,aQv _,by omega,(fun e=>nomatch e),.inr ⟨g,0,rfl,hl,hb.lt,fun j u hj=>?_⟩⟩;rw [aRt];exact hb.cell j hj
theorem zT (c:Cam) (f:Nat->Int) (n:Nat) (s:Smp) (u v:Nat) (hn:1<=n/\n<=64) (hu:u<n) (hv:v<n) (w:World) :
  Calls aQ2 148 #[.agg c,.agg f,(u:Nat),(v:Nat),(n:Nat),s.lx,s.ly] w fun e w'=>∃r,e = .returned r/\aHk c f n s u v w.heap.size w' r/\Ext w w':=by
 have J1:=hid (aG.2 (show (1:Int)<=(n:Int)/\(n:Int)<=64 by omega));have J2:=hid (aG.2 (show (0:Int)<=(u:Int)/\(u:Int)<=(n:Int) - 1 by omega));have J3:=hid (aG.2 (show (0:Int)<=(v:Int)/\(v:Int)<=(n:Int) - 1 by omega));have N0:=hid (show wrap64 ((n:Int) - 1)=(n:Int) - 1 from aD (by omega) (by omega));have HN:=hid hn;have HU:=hid hu;have HV:=hid hv;clear hn hu hv;have B0:=hid ((aQ8 w 35 c).ext (show Ext (w.alloc (.cells c 35)) ((w.alloc (.cells c 35)).alloc (.cells f 125)) from X_));have B1:=hid (show Blk ((w.alloc (.cells c 35)).alloc (.cells f 125)) (w.heap.size+1) 125 f from by have q:=(aQ8 (w.alloc (.cells c 35)) 125 f).ext (show Ext ((w.alloc (.cells c 35)).alloc (.cells f 125)) ((w.alloc (.cells c 35)).alloc (.cells f 125)) from X_);simp only [aQy] at q;exact q);have X0:=hid (show Ext w ((w.alloc (.cells c 35)).alloc (.cells f 125)) from X_);have n0:=N0.out;go_enter func148,ntmps148;go_wp2_with fail;refine z_ (aE J1 _) ?_;go_wp2_with fail;refine z_ (aE J2 _) ?_;go_wp2_with fail;refine z_ (aE J3 _) ?_;clear n0;go_upto_region 4 with fail
 obtain ⟨W,hW⟩:=e_ (((w.alloc (.cells c 35)).alloc (.cells f 125)).alloc (.cells #[] 122))
 have OW:aF uU (w.heap.size+2) 122 3 (((w.alloc (.cells c 35)).alloc (.cells f 125)).alloc (.cells #[] 122)) (.slice (some ⟨w.heap.size+2,0,none⟩) 0 0) []:=aF.fresh0 (aQv _) (by have q:=aQ8 ((w.alloc (.cells c 35)).alloc (.cells f 125)) 122 [];simp only [aQy] at q;exact q);have YW:Ext ((w.alloc (.cells c 35)).alloc (.cells f 125)) (((w.alloc (.cells c 35)).alloc (.cells f 125)).alloc (.cells #[] 122)):=X_;replace B0:=hid (B0.ext YW);replace B1:=hid (B1.ext YW);replace X0:=hid (X0.trans YW);clear YW
 try simp only [aQy]
 rw [hW];rw [hW] at B0 B1 X0 OW;have OO:=hid OW;clear hW OW;go_wp2_with fail
 go_loopw [15,16] (fun l i wr=>∃j:Nat,j<=4/\i = .int .i64 (j:Nat)/\(∀q,q<j->aGz c f n s u v q=true)/\Ext w wr/\Blk wr w.heap.size 35 c/\Blk wr (w.heap.size+1) 125 f/\aF uU (w.heap.size+2) 122 3 wr l ((aRl j).map (crn c f n s u v))) (fun _ i _=>4 - (intOf i).toNat)
 case atStart=>exact ⟨0,by omega,rfl,(fun q h=>absurd h (by omega)),X0,B0,B1,OO⟩
 case round=>
  obtain ⟨j,hj,rfl,y8,hx,h0,h1,ho⟩:=hrel;clear B0 B1 X0 OO;have X0:=hid hx;have B0:=hid h0;have B1:=hid h1;have OO:=hid ho;have HA:=hid y8;clear hx h0 h1 ho y8
  rcases aSd j 4 with hlt|hge
  ·obtain ⟨a,ha⟩:=e_ (j % 2:Nat)
   obtain ⟨b,hb⟩:=e_ (j / 2:Nat)
   have b8:a<2:=by omega
   have b9:b<2:=by omega
   have c6:=HU.out;have c7:=HV.out;have c5:=HN.out;have N2:=hid (show (0:Int)<=(u:Int)+(a:Int)/\(u:Int)+(a:Int)<=(n:Int) by omega);have N3:=hid (show (0:Int)<=(v:Int)+(b:Int)/\(v:Int)+(b:Int)<=(n:Int) by omega);have T1:=hid (show Int.tmod (j:Int) 2=(a:Int) by rw [Int.tmod_eq_emod_of_nonneg (by omega)];omega);have T2:=hid (show Int.tdiv (j:Int) 2=(b:Int) by rw [aTb (by omega)];omega);have R1:=hid (show wrap64 ((u:Int)+(a:Int))=(u:Int)+(a:Int) from aD (by omega) (by omega));have R2:=hid (show wrap64 ((v:Int)+wrap64 (b:Int))=(v:Int)+(b:Int) by rw [aD (n:=(b:Int)) (by omega) (by omega)];exact aD (by omega) (by omega));have y5:=hid (And.intro ha hb);have a6:decide ((j:Int)<4)=true:=decide_eq_true (by omega);clear ha hb c6 c7 c5 b8 b9
   obtain ⟨X,Y,Z,hE⟩:∃X Y Z,evP f ((u:Int)+(a:Int)) ((v:Int)+(b:Int)) (n:Int)=⟨X,Y,Z⟩:=⟨_,_,_,rfl⟩
   have y4:=hid hE;have N1:=hid (aOd HN);have ZW:=X0.size;have a9:=hid hlt;clear hE;have t1:=T1.out;have t2:=T2.out;have p:=B0.lt;obtain ⟨p0,p1,p2,p3,p4,p5,p6⟩:=B0.q7;have q:=B1.lt;obtain ⟨q0,q1,q2,q3,q4,q5,q6,q7,q8,q9,e6,e7⟩:=B1.q12;go_upto_region 7 with fail;clear a6
   cases hb:c.prB ⟨X,Y,Z⟩ s.lx s.ly
   ·have HB:=hid hb
    clear hb;refine cZ 20 wr.heap.size (by kernel_rfl) ?_;refine z2_ (fuel:=7) [0,1,2,3,4,5,6,7,8,9,10,12,13] 11 18 (fun b _ hb=>rfl) (fun K hK=>?n2) fun K hK=>?n3
    case' n2=>
     clear t1 t2;go_wp2_with fail;refine r_ (pF R1 R2 y4 N1 N2 N3 _) fun a0 y0=>?_;have u0:Ext wr a0:=aQ3 X_ y0;go_wp2_with fail;refine k_ hK ?_;clear hK K;refine z2_ (fuel:=6) [] 14 18 (fun b _ hb=>aRa u0 (by omega)) (fun K hK=>?n4) fun K hK=>?n5
     case' n4=>
      go_wp2_with fail;refine r_ (mX HB _) fun a01 y01=>?_;have a1:Ext wr a01:=aQ3 X_ y01;go_wp2_with fail;refine k_ hK ?_;clear hK K;refine z1_ (fuel:=2) [15,16,17] 18 (fun b _ hb=>aRa a1 (by omega)) fun K hK=>?_;go_wp2;have h7:wr.heap.size<=a01.heap.size:=a1.size;refine k_ hK ?_;clear hK K
      obtain ⟨h4,h3⟩:=i_ (a01.alloc (.cells #[(),(),()] 122))
      rw [<-h3]
      have x8:Ext wr h4:=by rw [h3];exact X_
      have h9:Blk h4 a01.heap.size 122 [(),(),()]:=h3▸aQ8 _ _ _;clear h3;refine z1_ (fuel:=1) [] 19 (fun b _ hb=>aRa x8 (by omega)) fun K hK=>?_;obtain ⟨z0,z1,z2,z3,z4,z5,z6⟩:=nD h9;go_wp2;have x7:=h7;refine hK _ _ (.inr (fun b _ hb=>aRa (w:=wr) S_ (by omega))) ?_;clear hK K;refine z1_ (fuel:=0) [] 20 (fun b _ hb=>aRa (w:=wr) S_ (by omega)) fun K hK=>?_;go_wp2;refine l_ hK ?_;clear hK K;refine bX (by kernel_rfl) ?_;have h2:=h7;have hE:Ext wr (((h4.setCell ⟨a01.heap.size,0,none⟩ ()).setCell ⟨a01.heap.size,1,none⟩ ()).setCell ⟨a01.heap.size,2,none⟩ ()):=aRf (aRf (aRf x8 h2 _) h2 _) h2 _
      have h5:Blk (((h4.setCell ⟨a01.heap.size,0,none⟩ ()).setCell ⟨a01.heap.size,1,none⟩ ()).setCell ⟨a01.heap.size,2,none⟩ ()) (a01.heap.size) 122 [(),(),()]:=(((h9.set 0 (.int .i64 0)).set 1 (.int .i64 0)).set 2 (.int .i64 0))
      clear z0 z1 z2 z3 z4 z5 z6
      obtain ⟨A,hA⟩:=e_ a01.heap.size
      rw [hA] at hE h5 h2 ⊢
      obtain ⟨wx,h8⟩:=e_ (((h4.setCell ⟨A,0,none⟩ ()).setCell ⟨A,1,none⟩ ()).setCell ⟨A,2,none⟩ ())
      rw [h8] at hE h5 ⊢;clear h8 hA
     case' n5=>
      go_wp2;have x6:wr.heap.size<=a0.heap.size:=u0.size;refine k_ hK ?_;clear hK K
      obtain ⟨y6,h6⟩:=i_ (a0.alloc (.cells #[(),(),()] 122))
      rw [<-h6]
      have a7:Ext wr y6:=by rw [h6];exact X_
      have a3:Blk y6 a0.heap.size 122 [(),(),()]:=h6▸aQ8 _ _ _;clear h6;refine z1_ (fuel:=5) [] 14 (fun b _ hb=>aRa a7 (by omega)) fun K hK=>?_;go_wp2_with fail;refine r_ (mX HB _) fun a0A1 y0A1=>?_;have x9:Ext wr a0A1:=aQ3 X_ y0A1;have x4:=a3.ext y0A1;go_wp2_with fail;refine k_ hK ?_;clear hK K;refine z1_ (fuel:=1) [15,16,17] 19 (fun b _ hb=>aRa x9 (by omega)) fun K hK=>?_;obtain ⟨z0,z1,z2,z3,z4,z5,z6⟩:=nD x4;go_wp2;have x7:=x6;refine hK _ _ (.inr (fun b _ hb=>aRa (w:=wr) S_ (by omega))) ?_;clear hK K;refine z1_ (fuel:=0) [] 20 (fun b _ hb=>aRa (w:=wr) S_ (by omega)) fun K hK=>?_;go_wp2;refine l_ hK ?_;clear hK K;refine bX (by kernel_rfl) ?_;have h2:=x6;have hE:Ext wr (((a0A1.setCell ⟨a0.heap.size,0,none⟩ ()).setCell ⟨a0.heap.size,1,none⟩ ()).setCell ⟨a0.heap.size,2,none⟩ ()):=aRf (aRf (aRf x9 h2 _) h2 _) h2 _
      have h5:Blk (((a0A1.setCell ⟨a0.heap.size,0,none⟩ ()).setCell ⟨a0.heap.size,1,none⟩ ()).setCell ⟨a0.heap.size,2,none⟩ ()) (a0.heap.size) 122 [(),(),()]:=(((x4.set 0 (.int .i64 0)).set 1 (.int .i64 0)).set 2 (.int .i64 0))
      clear z0 z1 z2 z3 z4 z5 z6
      obtain ⟨A,hA⟩:=e_ a0.heap.size
      rw [hA] at hE h5 h2 ⊢
      obtain ⟨wx,h8⟩:=e_ (((a0A1.setCell ⟨A,0,none⟩ ()).setCell ⟨A,1,none⟩ ()).setCell ⟨A,2,none⟩ ())
      rw [h8] at hE h5 ⊢;clear h8 hA
    case' n3=>
     clear t1 t2;go_wp2;have y7:wr.heap.size<=wr.heap.size:=aQv _;refine k_ hK ?_;clear hK K
     obtain ⟨dA,z8⟩:=i_ ((wr.alloc (.cells #[(),(),()] 122)).drew)
     rw [<-z8]
     have uA:Ext wr dA:=by rw [z8];exact X_
     have bA:Blk dA wr.heap.size 122 [(),(),()]:=z8▸(aQ8 _ _ _).ext (aRz (aQ6 _));clear z8;refine z1_ (fuel:=6) [] 11 (fun b _ hb=>aRa uA (by omega)) fun K hK=>?_;go_wp2_with fail;refine r_ (pF R1 R2 y4 N1 N2 N3 _) fun aA0 yA0=>?_;have a8:Ext wr aA0:=aQ3 X_ yA0;have a4:=bA.ext yA0;go_wp2_with fail;refine k_ hK ?_;clear hK K;refine z1_ (fuel:=5) [] 14 (fun b _ hb=>aRa a8 (by omega)) fun K hK=>?_;go_wp2_with fail;refine r_ (mX HB _) fun aA01 yA01=>?_;have z7:Ext wr aA01:=aQ3 X_ yA01;have x5:=a4.ext yA01;go_wp2_with fail;refine k_ hK ?_;clear hK K;refine z1_ (fuel:=1) [15,16,17] 19 (fun b _ hb=>aRa z7 (by omega)) fun K hK=>?_;obtain ⟨z0,z1,z2,z3,z4,z5,z6⟩:=nD x5;go_wp2;have x7:=y7;refine hK _ _ (.inr (fun b _ hb=>aRa (w:=wr) S_ (by omega))) ?_;clear hK K;refine z1_ (fuel:=0) [] 20 (fun b _ hb=>aRa (w:=wr) S_ (by omega)) fun K hK=>?_;go_wp2;refine l_ hK ?_;clear hK K;refine bX (by kernel_rfl) ?_;have h2:=y7;have hE:Ext wr (((aA01.setCell ⟨wr.heap.size,0,none⟩ ()).setCell ⟨wr.heap.size,1,none⟩ ()).setCell ⟨wr.heap.size,2,none⟩ ()):=aRf (aRf (aRf z7 h2 _) h2 _) h2 _
     have h5:Blk (((aA01.setCell ⟨wr.heap.size,0,none⟩ ()).setCell ⟨wr.heap.size,1,none⟩ ()).setCell ⟨wr.heap.size,2,none⟩ ()) (wr.heap.size) 122 [(),(),()]:=(((x5.set 0 (.int .i64 0)).set 1 (.int .i64 0)).set 2 (.int .i64 0))
     clear z0 z1 z2 z3 z4 z5 z6
     obtain ⟨A,hA⟩:=e_ wr.heap.size
     rw [hA] at hE h5 h2 ⊢
     obtain ⟨wx,h8⟩:=e_ (((aA01.setCell ⟨A,0,none⟩ ()).setCell ⟨A,1,none⟩ ()).setCell ⟨A,2,none⟩ ())
     rw [h8] at hE h5 ⊢;clear h8 hA
    all_goals
     have y9:aGz c f n s u v j=false:=by unfold aGz lN;rw [y5.1,y5.2,aS6,aS6,y4];exact HB
     have a5:=hid (X0.trans hE);have a2:=hid y9;clear hE y9;go_wp2;go_ret;exact ⟨_,rfl,.inl ⟨aLm a9 a2,rfl⟩,a5.out⟩
   ·have HB:=hid hb
    obtain ⟨x1,x2,x3,hP⟩:∃a b d,c.pr ⟨X,Y,Z⟩ s.lx s.ly=⟨a,b,d⟩:=⟨_,_,_,rfl⟩
    have HP:=hid hP;clear hb hP;refine cZ 20 wr.heap.size (by kernel_rfl) ?_;refine z2_ (fuel:=7) [0,1,2,3,4,5,6,7,8,9,10,12,13] 11 18 (fun b _ hb=>rfl) (fun K hK=>?p2) fun K hK=>?p3
    case' p2=>
     clear t1 t2;go_wp2_with fail;refine r_ (pF R1 R2 y4 N1 N2 N3 _) fun a0 y0=>?_;have u0:Ext wr a0:=aQ3 X_ y0;go_wp2_with fail;refine k_ hK ?_;clear hK K;refine z2_ (fuel:=6) [] 14 18 (fun b _ hb=>aRa u0 (by omega)) (fun K hK=>?p4) fun K hK=>?p5
     case' p4=>
      go_wp2_with fail;refine r_ (mW HB HP _) fun a01 y01=>?_;have a1:Ext wr a01:=aQ3 X_ y01;go_wp2_with fail;refine k_ hK ?_;clear hK K;refine z1_ (fuel:=2) [15,16,17] 18 (fun b _ hb=>aRa a1 (by omega)) fun K hK=>?_;go_wp2;have h7:wr.heap.size<=a01.heap.size:=a1.size;refine k_ hK ?_;clear hK K
      obtain ⟨h4,h3⟩:=i_ (a01.alloc (.cells #[(),(),()] 122))
      rw [<-h3]
      have x8:Ext wr h4:=by rw [h3];exact X_
      have h9:Blk h4 a01.heap.size 122 [(),(),()]:=h3▸aQ8 _ _ _;clear h3;refine z1_ (fuel:=1) [] 19 (fun b _ hb=>aRa x8 (by omega)) fun K hK=>?_;obtain ⟨z0,z1,z2,z3,z4,z5,z6⟩:=nD h9;go_wp2;have x7:=h7;refine hK _ _ (.inr (fun b _ hb=>aRa (w:=wr) S_ (by omega))) ?_;clear hK K;refine z1_ (fuel:=0) [] 20 (fun b _ hb=>aRa (w:=wr) S_ (by omega)) fun K hK=>?_;go_wp2;refine l_ hK ?_;clear hK K;refine bX (by kernel_rfl) ?_;have h2:=h7;have hE:Ext wr (((h4.setCell ⟨a01.heap.size,0,none⟩ x1).setCell ⟨a01.heap.size,1,none⟩ x2).setCell ⟨a01.heap.size,2,none⟩ x3):=aRf (aRf (aRf x8 h2 _) h2 _) h2 _
      have h5:Blk (((h4.setCell ⟨a01.heap.size,0,none⟩ x1).setCell ⟨a01.heap.size,1,none⟩ x2).setCell ⟨a01.heap.size,2,none⟩ x3) (a01.heap.size) 122 [x1,x2,x3]:=(((h9.set 0 (.int .i64 x1)).set 1 (.int .i64 x2)).set 2 (.int .i64 x3))
      clear z0 z1 z2 z3 z4 z5 z6
      obtain ⟨A,hA⟩:=e_ a01.heap.size
      rw [hA] at hE h5 h2 ⊢
      obtain ⟨wx,h8⟩:=e_ (((h4.setCell ⟨A,0,none⟩ x1).setCell ⟨A,1,none⟩ x2).setCell ⟨A,2,none⟩ x3)
      rw [h8] at hE h5 ⊢;clear h8 hA
     case' p5=>
      go_wp2;have x6:wr.heap.size<=a0.heap.size:=u0.size;refine k_ hK ?_;clear hK K
      obtain ⟨y6,h6⟩:=i_ (a0.alloc (.cells #[(),(),()] 122))
      rw [<-h6]
      have a7:Ext wr y6:=by rw [h6];exact X_
      have a3:Blk y6 a0.heap.size 122 [(),(),()]:=h6▸aQ8 _ _ _;clear h6;refine z1_ (fuel:=5) [] 14 (fun b _ hb=>aRa a7 (by omega)) fun K hK=>?_;go_wp2_with fail;refine r_ (mW HB HP _) fun a0A1 y0A1=>?_;have x9:Ext wr a0A1:=aQ3 X_ y0A1;have x4:=a3.ext y0A1;go_wp2_with fail;refine k_ hK ?_;clear hK K;refine z1_ (fuel:=1) [15,16,17] 19 (fun b _ hb=>aRa x9 (by omega)) fun K hK=>?_;obtain ⟨z0,z1,z2,z3,z4,z5,z6⟩:=nD x4;go_wp2;have x7:=x6;refine hK _ _ (.inr (fun b _ hb=>aRa (w:=wr) S_ (by omega))) ?_;clear hK K;refine z1_ (fuel:=0) [] 20 (fun b _ hb=>aRa (w:=wr) S_ (by omega)) fun K hK=>?_;go_wp2;refine l_ hK ?_;clear hK K;refine bX (by kernel_rfl) ?_;have h2:=x6;have hE:Ext wr (((a0A1.setCell ⟨a0.heap.size,0,none⟩ x1).setCell ⟨a0.heap.size,1,none⟩ x2).setCell ⟨a0.heap.size,2,none⟩ x3):=aRf (aRf (aRf x9 h2 _) h2 _) h2 _
      have h5:Blk (((a0A1.setCell ⟨a0.heap.size,0,none⟩ x1).setCell ⟨a0.heap.size,1,none⟩ x2).setCell ⟨a0.heap.size,2,none⟩ x3) (a0.heap.size) 122 [x1,x2,x3]:=(((x4.set 0 (.int .i64 x1)).set 1 (.int .i64 x2)).set 2 (.int .i64 x3))
      clear z0 z1 z2 z3 z4 z5 z6
      obtain ⟨A,hA⟩:=e_ a0.heap.size
      rw [hA] at hE h5 h2 ⊢
      obtain ⟨wx,h8⟩:=e_ (((a0A1.setCell ⟨A,0,none⟩ x1).setCell ⟨A,1,none⟩ x2).setCell ⟨A,2,none⟩ x3)
      rw [h8] at hE h5 ⊢;clear h8 hA
    case' p3=>
     clear t1 t2;go_wp2;have y7:wr.heap.size<=wr.heap.size:=aQv _;refine k_ hK ?_;clear hK K
     obtain ⟨dA,z8⟩:=i_ ((wr.alloc (.cells #[(),(),()] 122)).drew)
     rw [<-z8]
     have uA:Ext wr dA:=by rw [z8];exact X_
     have bA:Blk dA wr.heap.size 122 [(),(),()]:=z8▸(aQ8 _ _ _).ext (aRz (aQ6 _));clear z8;refine z1_ (fuel:=6) [] 11 (fun b _ hb=>aRa uA (by omega)) fun K hK=>?_;go_wp2_with fail;refine r_ (pF R1 R2 y4 N1 N2 N3 _) fun aA0 yA0=>?_;have a8:Ext wr aA0:=aQ3 X_ yA0;have a4:=bA.ext yA0;go_wp2_with fail;refine k_ hK ?_;clear hK K;refine z1_ (fuel:=5) [] 14 (fun b _ hb=>aRa a8 (by omega)) fun K hK=>?_;go_wp2_with fail;refine r_ (mW HB HP _) fun aA01 yA01=>?_;have z7:Ext wr aA01:=aQ3 X_ yA01;have x5:=a4.ext yA01;go_wp2_with fail;refine k_ hK ?_;clear hK K;refine z1_ (fuel:=1) [15,16,17] 19 (fun b _ hb=>aRa z7 (by omega)) fun K hK=>?_;obtain ⟨z0,z1,z2,z3,z4,z5,z6⟩:=nD x5;go_wp2;have x7:=y7;refine hK _ _ (.inr (fun b _ hb=>aRa (w:=wr) S_ (by omega))) ?_;clear hK K;refine z1_ (fuel:=0) [] 20 (fun b _ hb=>aRa (w:=wr) S_ (by omega)) fun K hK=>?_;go_wp2;refine l_ hK ?_;clear hK K;refine bX (by kernel_rfl) ?_;have h2:=y7;have hE:Ext wr (((aA01.setCell ⟨wr.heap.size,0,none⟩ x1).setCell ⟨wr.heap.size,1,none⟩ x2).setCell ⟨wr.heap.size,2,none⟩ x3):=aRf (aRf (aRf z7 h2 _) h2 _) h2 _
     have h5:Blk (((aA01.setCell ⟨wr.heap.size,0,none⟩ x1).setCell ⟨wr.heap.size,1,none⟩ x2).setCell ⟨wr.heap.size,2,none⟩ x3) (wr.heap.size) 122 [x1,x2,x3]:=(((x5.set 0 (.int .i64 x1)).set 1 (.int .i64 x2)).set 2 (.int .i64 x3))
     clear z0 z1 z2 z3 z4 z5 z6
     obtain ⟨A,hA⟩:=e_ wr.heap.size
     rw [hA] at hE h5 h2 ⊢
     obtain ⟨wx,h8⟩:=e_ (((aA01.setCell ⟨A,0,none⟩ x1).setCell ⟨A,1,none⟩ x2).setCell ⟨A,2,none⟩ x3)
     rw [h8] at hE h5 ⊢;clear h8 hA
    all_goals
     have b1:crn c f n s u v j=⟨x1,x2,x3⟩:=by unfold crn cW;rw [y5.1,y5.2,aS6,aS6,y4];exact HP
     have y9:aGz c f n s u v j=true:=by unfold aGz lN;rw [y5.1,y5.2,aS6,aS6,y4];exact HB
     have b2:=hid b1;have a2:=hid y9;have a5:=hid (X0.trans hE);have C0:=hid (B0.ext hE);have C1:=hid (B1.ext hE);have O2:=hid (OO.ext hE);have zx:=hE.size;clear hE b1 y9;have y:=h5.lt;obtain ⟨y0,y1,y2⟩:=h5.q3;have c8:=hid h5;have LL:=hid (show ((aRl j).map (crn c f n s u v)).length<1000000 by have:=a9.out;simp;omega);clear h5;go_wp2_with (at_builtin;refine lS _ rfl _ _ rfl (w.heap.size+2) _ _ rfl (aF.ext O2 X_) ⟨x1,x2,x3⟩ wx.heap.size rfl (aHj wx x1 x2 x3) LL (by simp;omega) ?_;intro v8 w8 hown hg);have xe:Ext wx (wx.alloc (.cells #[x1,x2,x3] 122)):=X_;have z9:=aF.rowE (aF.ext O2 xe);have R0:=hid ((C0.ext xe).grown hg (fun e=>by have h1:=(z9 _ e.symm).1;omega));have R1:=hid ((C1.ext xe).grown hg (fun e=>by have h1:=(z9 _ e.symm).1;omega));have RX:=hid (aR7 (a5.out.trans xe) hg (fun k e=>by have h1:=(z9 k e).1;omega));have RO:=hid hown;clear hown hg z9 xe;go_wp2;go_roundw
     case rel=>
      refine ⟨j+1,by omega,by go_num,?_,RX,R0,R1,?_⟩
      ·intro q hq
       rcases aSd q j with h|h
       ·exact HA q h
       ·obtain rfl:q=j:=by omega
        exact a2
      ·rw [aS9,aS8,aVl,b2]
       exact RO
     case measure=>simp [intOf];omega
  ·obtain rfl:j=4:=by omega
   have c4:=hid (aNa (fun q hq=>HA q hq));have hI:=OO.out;rw [show (aRl 4).map (crn c f n s u v)=[crn c f n s u v 0,crn c f n s u v 1,crn c f n s u v 2,crn c f n s u v 3] from rfl] at hI
   obtain ⟨⟨x0,y0,s0⟩,e0⟩:∃p,crn c f n s u v 0=p:=⟨_,rfl⟩
   rw [e0] at hI;have b3:=hid e0
   obtain ⟨⟨x1,y1,s1⟩,e1⟩:∃p,crn c f n s u v 1=p:=⟨_,rfl⟩
   rw [e1] at hI;have b4:=hid e1
   obtain ⟨⟨x2,y2,s2⟩,e2⟩:∃p,crn c f n s u v 2=p:=⟨_,rfl⟩
   rw [e2] at hI;have b5:=hid e2
   obtain ⟨⟨x3,y3,s3⟩,e3⟩:∃p,crn c f n s u v 3=p:=⟨_,rfl⟩
   rw [e3] at hI;have b6:=hid e3;obtain ⟨g,tc,rfl,gl,gw,b0,c9,-,c0⟩:=aF.at hI (fun _=>rfl) (i:=0) rfl;obtain ⟨g1,e8,he,-,-,-,-,-,c1⟩:=aF.at hI (fun _=>rfl) (i:=1) rfl;simp only [aRo,aQ0,aR1,and_true,true_and] at he;obtain ⟨rfl,rfl⟩:=he;obtain ⟨g2,e9,he,-,-,-,-,-,c2⟩:=aF.at hI (fun _=>rfl) (i:=2) rfl;simp only [aRo,aQ0,aR1,and_true,true_and] at he;obtain ⟨rfl,rfl⟩:=he;obtain ⟨g3,g0,he,-,-,-,-,-,c3⟩:=aF.at hI (fun _=>rfl) (i:=3) rfl;simp only [aRo,aQ0,aR1,and_true,true_and] at he;obtain ⟨rfl,rfl⟩:=he;have d0:wr.cell? ⟨g,0,none⟩=some (.int .i64 x0):=c0 0 (by decide);have d1:wr.cell? ⟨g,1,none⟩=some (.int .i64 y0):=c0 1 (by decide);have d2:wr.cell? ⟨g,2,none⟩=some (.int .i64 s0):=c0 2 (by decide);have d3:wr.cell? ⟨g,3,none⟩=some (.int .i64 x1):=c1 0 (by decide);have d4:wr.cell? ⟨g,4,none⟩=some (.int .i64 y1):=c1 1 (by decide);have d5:wr.cell? ⟨g,5,none⟩=some (.int .i64 s1):=c1 2 (by decide);have d6:wr.cell? ⟨g,6,none⟩=some (.int .i64 x2):=c2 0 (by decide);have d7:wr.cell? ⟨g,7,none⟩=some (.int .i64 y2):=c2 1 (by decide);have d8:wr.cell? ⟨g,8,none⟩=some (.int .i64 s2):=c2 2 (by decide);have d9:wr.cell? ⟨g,9,none⟩=some (.int .i64 x3):=c3 0 (by decide);have e4:wr.cell? ⟨g,10,none⟩=some (.int .i64 y3):=c3 1 (by decide);have e5:wr.cell? ⟨g,11,none⟩=some (.int .i64 s3):=c3 2 (by decide);have b7:4<=tc:=b0;have ZW:=X0.size;clear hI c0 c1 c2 c3 b0 e0 e1 e2 e3 hge;go_wp2_with fail;refine aA [([0,1,2,3,4,5,6,7,8,9,10,11,12,13,14,15,16,17,18,19,20,21,22,23,24,25,26,27,28,29],30),([],31)] 99 wr.heap.size (by kernel_rfl) (by kernel_rfl) ?_;refine st_ fun K hK=>?_;go_wp2_with fail;go_wp2_with fail;refine k_ hK ?_;clear hK K;refine st_ fun K hK=>?_;go_wp2_with fail;go_wp2_with fail;refine k_ hK ?_;clear hK K;refine aC ?_;have BF:=aQ8 wr.drew 155 [x0,y0,s0,x1,y1,s1,x2,y2,s2,(u:Nat),(v:Nat),(n:Nat),x1,y1,s1,x3,y3,s3,x2,y2,s2,(u:Nat),(v:Nat),(n:Nat)];have XF:Ext wr (wr.drew.alloc (.cells #[x0,y0,s0,x1,y1,s1,x2,y2,s2,(u:Nat),(v:Nat),(n:Nat),x1,y1,s1,x3,y3,s3,x2,y2,s2,(u:Nat),(v:Nat),(n:Nat)] 155)):=X_;go_wp2;go_ret;refine ⟨_,rfl,.inr ⟨c4.out,wr.heap.size,ZW,rfl,?_⟩,X0.trans XF⟩;rw [show cW c f n s u v=⟨x0,y0,s0⟩ from b3,show cW c f n s (u+1) v=⟨x1,y1,s1⟩ from b4,show cW c f n s u (v+1)=⟨x2,y2,s2⟩ from b5,show cW c f n s (u+1) (v+1)=⟨x3,y3,s3⟩ from b6];exact BF
def qD (c:Cam) (f:Nat->Int) (n:Nat) (s:Smp) (k:Nat):List Mc:=(aRl k).flatMap fun q=>fX c f n s (q % n) (q / n)
theorem aG0 (c:Cam) (f:Nat->Int) (n:Nat) (s:Smp) {u v:Nat} (hu:u<n):qD c f n s (v*n+(u+1))=qD c f n s (v*n+u)++fX c f n s u v:=by
 unfold qD;rw [<-aSp,aS9,aSa,aUr]
 have e1:(v*n+u) % n=u:=by rw [aY5,aYd,aUx hu]
 have e2:(v*n+u) / n=v:=by rw [aY5,aZm _ _ (by omega),aXg hu,aRt]
 rw [e1,e2]
theorem aCp (c:Cam) (f:Nat->Int) (n:Nat) (s:Smp) (k:Nat):(qD c f n s k).length<=2*k:=by
 unfold qD
 induction k with
 | zero=>simp
 | succ k ih=>
  rw [aS9,aSa,aUr,aRq];have:=iW c f n s (k % n) (k / n);omega
theorem Mc.oneC (y:Mc):∀u∈y.cs,u.oneCell'=true:=y.one
theorem yB (c:Cam) (f:Nat->Int) (n:Nat) (s:Smp) (hn:1<=n/\n<=8) (w:World) :
  Calls aQ2 98 #[.agg c,.agg f,(n:Nat),s.lx,s.ly] w fun e w'=>∃r,e = .returned r/\aF Mc.cs w.heap.size 155 12 w' r (jZ c f n s)/\Ext w w':=by
 have J1:=hid (aG.2 (show (1:Int)<=(n:Int)/\(n:Int)<=8 by omega));have HN:=hid hn;clear hn;have B0:=hid ((aQ8 w 35 c).ext (show Ext (w.alloc (.cells c 35)) ((w.alloc (.cells c 35)).alloc (.cells f 125)) from X_));have B1:=hid (show Blk ((w.alloc (.cells c 35)).alloc (.cells f 125)) (w.heap.size+1) 125 f from by have q:=(aQ8 (w.alloc (.cells c 35)) 125 f).ext (show Ext ((w.alloc (.cells c 35)).alloc (.cells f 125)) ((w.alloc (.cells c 35)).alloc (.cells f 125)) from X_);simp only [aQy] at q;exact q);have X0:=hid (show Ext w ((w.alloc (.cells c 35)).alloc (.cells f 125)) from X_);go_enter func98,ntmps98;go_wp2_with fail;refine z_ (aE J1 _) ?_;go_upto_region 4 with fail
 obtain ⟨W,hW⟩:=e_ (((w.alloc (.cells c 35)).alloc (.cells f 125)).alloc (.cells #[] 155))
 have OW:aF Mc.cs (w.heap.size+2) 155 12 (((w.alloc (.cells c 35)).alloc (.cells f 125)).alloc (.cells #[] 155)) (.slice (some ⟨w.heap.size+2,0,none⟩) 0 0) []:=aF.freshC (aQv _) (by have q:=aQ8 ((w.alloc (.cells c 35)).alloc (.cells f 125)) 155 [];simp only [aQy] at q;exact q);have YW:Ext ((w.alloc (.cells c 35)).alloc (.cells f 125)) (((w.alloc (.cells c 35)).alloc (.cells f 125)).alloc (.cells #[] 155)):=X_;replace B0:=hid (B0.ext YW);replace B1:=hid (B1.ext YW);replace X0:=hid (X0.trans YW);clear YW
 try simp only [aQy]
 rw [hW];rw [hW] at B0 B1 X0 OW;have OO:=hid OW;clear hW OW;go_wp2_with fail
 go_loopw [11,12] (fun l x wr=>∃r:Nat,r<=n/\x = .int .i64 (r:Nat)/\Ext w wr/\Blk wr w.heap.size 35 c/\Blk wr (w.heap.size+1) 125 f/\aF Mc.cs (w.heap.size+2) 155 12 wr l (qD c f n s (r*n))) (fun _ x _=>n - (intOf x).toNat)
 case atStart=>exact ⟨0,by omega,rfl,X0,B0,B1,by rw [aVo];exact OO⟩
 case round=>
  obtain ⟨r,hr,rfl,hx,h0,h1,ho⟩:=hrel;clear B0 B1 X0 OO;have X0:=hid hx;have B0:=hid h0;have B1:=hid h1;have OO:=hid ho;obtain ⟨la,lc,rfl,-⟩:=aF.form ho;clear hx h0 h1 ho
  rcases aSd r n with hrn|hrn
  ·go_wp2_with fail
   obtain ⟨WA,h9⟩:=i_ wr
   rw [<-h9] at B0 B1 X0 OO ⊢;clear h9
   go_loopw [11,13] (fun l x wr=>∃q:Nat,q<=n/\x = .int .i64 (q:Nat)/\Ext w wr/\Blk wr w.heap.size 35 c/\Blk wr (w.heap.size+1) 125 f/\aF Mc.cs (w.heap.size+2) 155 12 wr l (qD c f n s (r*n+q))) (fun _ x _=>n - (intOf x).toNat)
   case atStart=>exact ⟨0,by omega,rfl,X0,B0,B1,by rw [aSk];exact OO⟩
   case round=>
    obtain ⟨q,hq,rfl,hx,h0,h1,ho⟩:=hrel;clear B0 B1 X0 OO;have X0:=hid hx;have B0:=hid h0;have B1:=hid h1;have OO:=hid ho;have h6:=aCp c f n s (r*n+q)
    have q5:r*n+q<=64:=by
     have h:=aRy (show r<=7 by have:=HN.out;omega) (show n<=8 by have:=HN.out;omega);have:=HN.out;omega
    have h3:=hid (show (qD c f n s (r*n+q)).length<=200 by omega);clear h6 q5
    rcases aSd q n with hqn|hqn
    ·have h4:=hid (aG0 c f n s (v:=r) hqn)
     obtain ⟨T,hT⟩:=e_ (qD c f n s (r*n+q))
     rw [hT] at ho OO h3 h4;clear hT;obtain ⟨ma,mc,rfl,-⟩:=aF.form ho;have ZW:=hx.size;clear hx h0 h1 ho;have p:=B0.lt;obtain ⟨p0,p1,p2,p3,p4,p5,p6⟩:=B0.q7;have g:=B1.lt;obtain ⟨g0,g1,g2,g3,g4,g5,g6,g7,g8,g9,q2,q3⟩:=B1.q12;go_wp2_with fail;refine (zT c f n s q r ⟨HN.1,by have:=HN.out;omega⟩ hqn hrn _).mono ?_;rintro e w5 ⟨d,rfl,hD,x5⟩;have hR:=hD.rd;have h5:=iW c f n s q r
     obtain ⟨L,hL⟩:=e_ (fX c f n s q r)
     replace h4:=hid (hL▸h4.out);rw [hL] at hR h5;clear hL;obtain ⟨da,dc,rfl,-,-,h8⟩:=hR.form;have HR:=hid h8;have O5:=hid (OO.ext x5);have C0:=hid (B0.ext x5);have C1:=hid (B1.ext x5);have CX:=hid (X0.trans x5);have z5:=CX.size;have h7:=hid h5;have q6:=C1.lt;clear hD hR h8 h5 x5 p p0 p1 p2 p3 p4 p5 p6 g g0 g1 g2 g3 g4 g5 g6 g7 g8 g9 q2 q3;go_wp2_with (at_builtin;refine cQ Mc.cs 155 12 96 _ w5 rfl _ _ 148 rfl underlying148 wI rfl (by decide) (by decide) (fun _=>rfl) Mc.oneC (w.heap.size+2) (.slice ma T.length mc) T rfl O5 _ _ (.slice da L.length dc) L rfl HR (by have:=h3.out;have:=h7.out;omega) (by omega) ?_;intro v6 w6 hown hg);have h2:=aF.rowE O5;have RX:=hid (aR7 CX hg (fun k e=>by have:=(h2 k e).1;omega));have R0:=hid (C0.grown hg (fun e=>by have:=(h2 _ e.symm).1;omega));have R1:=hid (C1.grown hg (fun e=>by have:=(h2 _ e.symm).1;omega));have RO:=hid hown;clear hown hg h2;have q0:=HN.out;have HW:=hid (show wrap64 ((q:Int)+1)=((q+1:Nat):Int) by rw [aD (by omega) (by omega)];omega);have q1:=hid (show aF Mc.cs (w.heap.size+2) 155 12 w6 v6 (qD c f n s (r*n+(q+1))) by rw [h4];exact RO)
     obtain ⟨n8,q4⟩:=e_ (n:Nat)
     clear h3 h7 HR O5 C0 C1 CX h4 RO HN q0 q4 n8;go_wp2;go_roundw
     case rel=>exact ⟨q+1,by omega,congrArg (Value.int .i64) HW,RX,R0,R1,q1⟩
     case measure=>
      rw [HW]
      show n - (q+1)<n - q
      omega
    ·obtain rfl:q=n:=by omega
     obtain ⟨ma,mc,rfl,-⟩:=aF.form ho;clear hx h0 h1 ho;have q0:=HN.out;go_wp2;go_roundw
     case rel=>exact ⟨r+1,by omega,by go_num,X0,B0,B1,by rw [aW2];exact OO⟩
     case measure=>simp [intOf];omega
  ·obtain rfl:r=n:=by omega
   go_wp2;go_ret;exact ⟨_,rfl,aF.low (show aF Mc.cs (w.heap.size+2) 155 12 wr _ (jZ c f _ s) from OO) (by omega),X0⟩
structure yC (s:Scn) (h:Nat) (w:World) (cv av:Value):Prop where
 hh:h<=w.heap.size
 c:∃us:List Value,us.length=s.m/\Rd (fun u=>[u]) 0 h w cv us/\∀k u,us[k]?=some u->aU 0 h w u (s.shade k).1
 a:∃us:List Value,us.length=s.m/\Rd (fun u=>[u]) 0 h w av us/\∀k u,us[k]?=some u->aU 0 h w u (s.shade k).2
theorem yC.ext {s:Scn} (r:yC s h w cv av) (x:Ext w w'):yC s h w' cv av:=by
 obtain ⟨hh,⟨us,h1,h2,h3⟩,us2,k1,k2,k3⟩:=r;exact ⟨aQ5 hh x.size,⟨us,h1,h2.ext hh x,fun k u hu=>(h3 k u hu).ext hh x⟩,us2,k1,k2.ext hh x,fun k u hu=>(k3 k u hu).ext hh x⟩
theorem Rd.low0 {α : Type} {cs : α->List Value} {ys:List α} (h:Rd cs lo hi w v ys):Rd cs 0 hi w v ys:=by
 obtain ⟨ad,c,h1,h2,h3,h4,h5⟩:=h;refine ⟨ad,c,h1,h2,h3,h4,?_⟩
 rcases h5 with h5|⟨b,off,e,l1,l2,hc⟩
 ·exact .inl h5
 ·exact .inr ⟨b,off,e,Nat.zero_le _,l2,hc⟩
theorem aEp.rd {s:Scn} (h:aEp s lo w cv av s.m):yC s w.heap.size w cv av:=by
 obtain ⟨us,h1,h2,h3⟩:=h.c.ints;obtain ⟨h0,k1,k2,k3⟩:=h.a.ints;rw [sJ] at h1;rw [uO] at k1;refine ⟨aQv _,⟨us,h1,h2.low0,fun k u hu=>h3 k u _ hu (aLi s ?_)⟩,h0,k1,k2.low0,fun k u hu=>k3 k u _ hu (aM9 s ?_)⟩
 ·have:=(aQz.1 hu).1
  omega
 ·have:=(aQz.1 hu).1
  omega
theorem yC.at {s:Scn} (r:yC s h w cv av) (hk:k<s.m) :
  ∃bc oc cc ba oa ca a4 c4 a5 c5,cv = .slice (some ⟨bc,oc,none⟩) s.m cc/\av = .slice (some ⟨ba,oa,none⟩) s.m ca/\bc<h/\ba<h/\w.cell? ⟨bc,oc+k,none⟩=some (.slice a4 (s.shade k).1.length c4)/\w.cell? ⟨ba,oa+k,none⟩=some (.slice a5 (s.shade k).2.length c5)/\fY 0 h w a4 c4 (s.shade k).1/\fY 0 h w a5 c5 (s.shade k).2:=by
 obtain ⟨hh,⟨us,h1,h2,h3⟩,us2,k1,k2,k3⟩:=r;obtain ⟨ad,cc,rfl,-,-,q2⟩:=h2.form;obtain ⟨h5,ca,rfl,-,-,q4⟩:=k2.form
 obtain ⟨u,hu⟩:∃u,us[k]?=some u:=⟨_,aQ9 (by omega)⟩
 obtain ⟨u2,h0⟩:∃u,us2[k]?=some u:=⟨_,aQ9 (by omega)⟩
 obtain ⟨bc,oc,rfl,-,l1,hc⟩:=Rd.at (sz:=1) (fun _=>rfl) q2 hu;obtain ⟨ba,oa,rfl,-,l2,h4⟩:=Rd.at (sz:=1) (fun _=>rfl) q4 h0;obtain ⟨a4,c4,rfl,i4⟩:=(h3 k u hu).open;obtain ⟨a5,c5,rfl,i5⟩:=(k3 k u2 h0).open;have e1:=hc 0 (by omega);have e2:=h4 0 (by omega);rw [aUv,aSk] at e1 e2;exact ⟨bc,oc,cc,ba,oa,ca,a4,c4,a5,c5,by rw [h1],by rw [k1],l1,l2,e1,e2,i4,i5⟩
theorem aCq (s:Scn) (lo hi h0:Nat) (v cv av:Value) (k:Nat) (p:Smp) (n:Nat) (cols als:List Int) (w:World) (hv:s.R lo hi w v) (hh:hi<=w.heap.size) (hk:k<s.m) (hm5:s.m<=5) (hr:s.rt k=(n:Nat)) (hn:1<=n/\n<=8) (hp:p.okB s.c=true)
  (hd:yC s h0 w cv av) (hlc:cols.length=n*n) (hla:als.length=n*n) (hcols:(s.shade k).1=cols) (hals:(s.shade k).2=als) :
  Calls aQ2 55 #[v,.agg #[cv,av],(k:Nat),.agg #[p.x,p.y,p.t,p.lx,p.ly]] w fun e w'=>∃r,e = .returned r/\aF aO.cs w.heap.size 95 5 w' r (tY s.c (aY (s.st k) (s.en k) p.t) n p (k:Nat) cols als)/\Ext w w':=by
 obtain ⟨a1,c1,a2,c2,a3,c3,rfl,-,-,-,-,-,hF⟩:=hv.form;have i2:=hd.hh;obtain ⟨bc,oc,cc,ba,oa,ca,a4,c4,a5,c5,rfl,rfl,lc,la,ec,ea,hC,hA⟩:=hd.at hk;rw [hcols] at ec hC;rw [hals] at ea hA;have e8:=hF.cap;have i5:=hF.le;obtain ⟨b,h7,rfl,i0,i1,h3⟩:=hF.at hk (by decide)
 obtain ⟨f,hf⟩:=e_ (s.st k)
 obtain ⟨g,hg⟩:=e_ (s.en k)
 obtain ⟨sh,b1⟩:=e_ (s.sh k)
 have bw:b<w.heap.size:=by omega
 have xw:Ext w (((w.alloc (.cells (sA_ s a1 c1 a2 c2 (some ⟨b,h7,none⟩) c3) 40)).alloc (.cells #[.slice (some ⟨bc,oc,none⟩) s.m cc,.slice (some ⟨ba,oa,none⟩) s.m ca] 78)).alloc (.cells #[p.x,p.y,p.t,p.lx,p.ly] 42)):=X_
 have q6:(((w.alloc (.cells (sA_ s a1 c1 a2 c2 (some ⟨b,h7,none⟩) c3) 40)).alloc (.cells #[.slice (some ⟨bc,oc,none⟩) s.m cc,.slice (some ⟨ba,oa,none⟩) s.m ca] 78)).alloc (.cells #[p.x,p.y,p.t,p.lx,p.ly] 42)).rangeAt b (h7+k*26) ((aRl 26).map fun j=>.int .i64 (s.F (k*26+j))):=by
  intro j v hj;obtain ⟨h1,h2⟩:=aQz.1 hj;simp only [aSh,aUo] at h1;simp only [aVf,aUe] at h2;subst h2;exact (xw.cells.1 b _ bw).trans (h3 j h1)
 change (((w.alloc (.cells (sA_ s a1 c1 a2 c2 (some ⟨b,h7,none⟩) c3) 40)).alloc (.cells #[.slice (some ⟨bc,oc,none⟩) s.m cc,.slice (some ⟨ba,oa,none⟩) s.m ca] 78)).alloc (.cells #[p.x,p.y,p.t,p.lx,p.ly] 42)).rangeAt b (h7+k*26) [(s.st k 0),(s.st k 1),(s.st k 2),(s.st k 3),(s.st k 4),(s.st k 5),(s.st k 6),(s.st k 7),(s.st k 8),(s.st k 9),(s.st k 10),(s.st k 11),(s.en k 0),(s.en k 1),(s.en k 2),(s.en k 3),(s.en k 4),(s.en k 5),(s.en k 6),(s.en k 7),(s.en k 8),(s.en k 9),(s.en k 10),(s.en k 11),(s.sh k),(s.rt k)] at q6;simp only [hf,hg,b1,hr] at q6;have q0:=aQ8 w 40 (sL_ s a1 c1 a2 c2 (some ⟨b,h7,none⟩) c3);have q1:=aQ8 (w.alloc (.cells (sA_ s a1 c1 a2 c2 (some ⟨b,h7,none⟩) c3) 40)) 78 [.slice (some ⟨bc,oc,none⟩) s.m cc,.slice (some ⟨ba,oa,none⟩) s.m ca];have q2:=aQ8 ((w.alloc (.cells (sA_ s a1 c1 a2 c2 (some ⟨b,h7,none⟩) c3) 40)).alloc (.cells #[.slice (some ⟨bc,oc,none⟩) s.m cc,.slice (some ⟨ba,oa,none⟩) s.m ca] 78)) 42 [p.x,p.y,p.t,p.lx,p.ly];simp only [aQy] at q1 q2;have r0:=q0.ext (show Ext (w.alloc (.cells (sA_ s a1 c1 a2 c2 (some ⟨b,h7,none⟩) c3) 40)) (((w.alloc (.cells (sA_ s a1 c1 a2 c2 (some ⟨b,h7,none⟩) c3) 40)).alloc (.cells #[.slice (some ⟨bc,oc,none⟩) s.m cc,.slice (some ⟨ba,oa,none⟩) s.m ca] 78)).alloc (.cells #[p.x,p.y,p.t,p.lx,p.ly] 42)) from X_);have r1:=q1.ext (show Ext ((w.alloc (.cells (sA_ s a1 c1 a2 c2 (some ⟨b,h7,none⟩) c3) 40)).alloc (.cells #[.slice (some ⟨bc,oc,none⟩) s.m cc,.slice (some ⟨ba,oa,none⟩) s.m ca] 78)) (((w.alloc (.cells (sA_ s a1 c1 a2 c2 (some ⟨b,h7,none⟩) c3) 40)).alloc (.cells #[.slice (some ⟨bc,oc,none⟩) s.m cc,.slice (some ⟨ba,oa,none⟩) s.m ca] 78)).alloc (.cells #[p.x,p.y,p.t,p.lx,p.ly] 42)) from X_);have r2:=q2.ext (show Ext (((w.alloc (.cells (sA_ s a1 c1 a2 c2 (some ⟨b,h7,none⟩) c3) 40)).alloc (.cells #[.slice (some ⟨bc,oc,none⟩) s.m cc,.slice (some ⟨ba,oa,none⟩) s.m ca] 78)).alloc (.cells #[p.x,p.y,p.t,p.lx,p.ly] 42)) (((w.alloc (.cells (sA_ s a1 c1 a2 c2 (some ⟨b,h7,none⟩) c3) 40)).alloc (.cells #[.slice (some ⟨bc,oc,none⟩) s.m cc,.slice (some ⟨ba,oa,none⟩) s.m ca] 78)).alloc (.cells #[p.x,p.y,p.t,p.lx,p.ly] 42)) from X_)
 have z3:(((w.alloc (.cells (sA_ s a1 c1 a2 c2 (some ⟨b,h7,none⟩) c3) 40)).alloc (.cells #[.slice (some ⟨bc,oc,none⟩) s.m cc,.slice (some ⟨ba,oa,none⟩) s.m ca] 78)).alloc (.cells #[p.x,p.y,p.t,p.lx,p.ly] 42)).heap.size=w.heap.size+3:=by simp
 have HC:=hid hC;have HA:=hid hA;have b7:=hid ec;have b6:=hid ea;have HP:=hid hp
 have ht:0<=p.t/\p.t<=16:=by
  unfold Smp.okB at hp;simp only [aRd,aG] at hp;omega
 have HT:=hid ht;have d1:=hid hlc;have b9:=hid hla;clear hlc hla q0 q1 q2 hC hA ec ea hp ht h3 hF hv b1 hr hd hcols hals;rw [hf,hg,xN];have z7:=aEa (c:=s.c) (f:=aY f g p.t) (n:=n) (s:=p) hn.1;have z4:=sA s.c (aY f g p.t) p hn.2
 obtain ⟨M,q4⟩:=e_ (jZ s.c (aY f g p.t) n p)
 rw [q4] at z7 z4 ⊢;have d5:=hid z7;have d3:=hid z4;have d4:=hid q4;clear hf hg z7 z4 q4;go_enter func55,ntmps55;go_upto_region 1 with fail
 obtain ⟨W0,x1⟩:=e_ (((w.alloc (.cells (sA_ s a1 c1 a2 c2 (some ⟨b,h7,none⟩) c3) 40)).alloc (.cells #[.slice (some ⟨bc,oc,none⟩) s.m cc,.slice (some ⟨ba,oa,none⟩) s.m ca] 78)).alloc (.cells #[p.x,p.y,p.t,p.lx,p.ly] 42))
 rw [x1] at q6 r0 r1 r2 z3 xw
 try simp only [aQy] at x1
 rw [x1];clear x1
 have bl:b<W0.heap.size:=by omega
 have d0:=r0.cell 10 rfl;have l0:=r0.lt;have R0:=hid r0;have R1:=hid r1;have R2:=hid r2;have XW:=hid xw;have Z3:=hid z3
 have i4:((k:Nat):Int)<(s.m:Nat):=by omega
 have q8:(W0.alloc (.cells #[] 95)).rangeAt b (h7+k*26) [(f 0),(f 1),(f 2),(f 3),(f 4),(f 5),(f 6),(f 7),(f 8),(f 9),(f 10),(f 11),(g 0),(g 1),(g 2),(g 3),(g 4),(g 5),(g 6),(g 7),(g 8),(g 9),(g 10),(g 11),sh,(n:Nat)]:=fun j v hj=>((show Ext W0 (W0.alloc (.cells #[] 95)) from X_).cells.1 b _ bl).trans (q6 j v hj);clear r0 r1 r2 xw z3 q6;go_upto_region 3 with (first|(show wpList _ _ _ [_,_,_] _ _;refine wpList_load_mid rfl _ _ rfl b (h7+k*26) rfl [(f 0),(f 1),(f 2),(f 3),(f 4),(f 5),(f 6),(f 7),(f 8),(f 9),(f 10),(f 11),(g 0),(g 1),(g 2),(g 3),(g 4),(g 5),(g 6),(g 7),(g 8),(g 9),(g 10),(g 11),sh,(n:Nat)] _ q8 underlying127 rfl fQ ?_)|(show wpList _ _ _ [_] _ _;refine dI _ _ _ rfl 127 (.tmp 10) (.tmp 21) rfl rfl #[(f 0),(f 1),(f 2),(f 3),(f 4),(f 5),(f 6),(f 7),(f 8),(f 9),(f 10),(f 11),(g 0),(g 1),(g 2),(g 3),(g 4),(g 5),(g 6),(g 7),(g 8),(g 9),(g 10),(g 11),sh,(n:Nat)] (W0.heap.size+1) (by simp) rfl rfl (by kernel_rfl) (by kernel_rfl) (by kernel_rfl) ?_))
 have bS:Blk ((W0.alloc (.cells #[] 95)).alloc (.cells #[(f 0),(f 1),(f 2),(f 3),(f 4),(f 5),(f 6),(f 7),(f 8),(f 9),(f 10),(f 11),(g 0),(g 1),(g 2),(g 3),(g 4),(g 5),(g 6),(g 7),(g 8),(g 9),(g 10),(g 11),sh,(n:Nat)] 127)) (W0.heap.size+1) 127 [(f 0),(f 1),(f 2),(f 3),(f 4),(f 5),(f 6),(f 7),(f 8),(f 9),(f 10),(f 11),(g 0),(g 1),(g 2),(g 3),(g 4),(g 5),(g 6),(g 7),(g 8),(g 9),(g 10),(g 11),sh,(n:Nat)]:=by
  have q:=aQ8 (W0.alloc (.cells #[] 95)) 127 [(f 0),(f 1),(f 2),(f 3),(f 4),(f 5),(f 6),(f 7),(f 8),(f 9),(f 10),(f 11),(g 0),(g 1),(g 2),(g 3),(g 4),(g 5),(g 6),(g 7),(g 8),(g 9),(g 10),(g 11),sh,(n:Nat)];rw [aQy] at q;exact q
 have hO:aF aO.cs W0.heap.size 95 5 ((W0.alloc (.cells #[] 95)).alloc (.cells #[(f 0),(f 1),(f 2),(f 3),(f 4),(f 5),(f 6),(f 7),(f 8),(f 9),(f 10),(f 11),(g 0),(g 1),(g 2),(g 3),(g 4),(g 5),(g 6),(g 7),(g 8),(g 9),(g 10),(g 11),sh,(n:Nat)] 127)) (.slice (some ⟨W0.heap.size,0,none⟩) 0 0) []:=aF.ext (aF.fresh0 (aQv _) (aQ8 W0 95 [])) (show Ext (W0.alloc (.cells #[] 95)) ((W0.alloc (.cells #[] 95)).alloc (.cells #[(f 0),(f 1),(f 2),(f 3),(f 4),(f 5),(f 6),(f 7),(f 8),(f 9),(f 10),(f 11),(g 0),(g 1),(g 2),(g 3),(g 4),(g 5),(g 6),(g 7),(g 8),(g 9),(g 10),(g 11),sh,(n:Nat)] 127)) from X_);have xa:Ext W0 ((W0.alloc (.cells #[] 95)).alloc (.cells #[(f 0),(f 1),(f 2),(f 3),(f 4),(f 5),(f 6),(f 7),(f 8),(f 9),(f 10),(f 11),(g 0),(g 1),(g 2),(g 3),(g 4),(g 5),(g 6),(g 7),(g 8),(g 9),(g 10),(g 11),sh,(n:Nat)] 127)):=X_
 obtain ⟨wc,b3⟩:=e_ ((W0.alloc (.cells #[] 95)).alloc (.cells #[(f 0),(f 1),(f 2),(f 3),(f 4),(f 5),(f 6),(f 7),(f 8),(f 9),(f 10),(f 11),(g 0),(g 1),(g 2),(g 3),(g 4),(g 5),(g 6),(g 7),(g 8),(g 9),(g 10),(g 11),sh,(n:Nat)] 127))
 rw [b3] at bS hO xa ⊢;clear b3 q8
 obtain ⟨A,a6⟩:=e_ (W0.heap.size+1)
 rw [a6] at bS ⊢;have HS:=hid bS;have HO:=hid hO;have HX:=hid xa;have lA:=bS.lt;have g1:=xa.size;have d7:=bS.cell 25 rfl
 have a8:wc.rangeAt A 0 [(f 0),(f 1),(f 2),(f 3),(f 4),(f 5),(f 6),(f 7),(f 8),(f 9),(f 10),(f 11),(g 0),(g 1),(g 2),(g 3),(g 4),(g 5),(g 6),(g 7),(g 8),(g 9),(g 10),(g 11),sh,(n:Nat)]:=fun j v hj=>by rw [aRt];exact bS.cell j hj
 have e0:=R0.ext xa;have e1:=R2.ext xa;obtain ⟨m0,m1,m2,m3,m4,m5,m6⟩:=e0.q7;have s2:=e1.cell 2 rfl;have s3:=e1.cell 3 rfl;have s4:=e1.cell 4 rfl;have l1:=e0.lt;have l2:=e1.lt;clear e0 e1 bS hO xa d0 l0 R0;refine aA [([0,1,2,3,4,6,7,8,9,10,11,14],5),([],12),([],13)] 99 wc.heap.size (by kernel_rfl) (by kernel_rfl) ?_;refine aI ?_;simp only [aRm,aRg,aQ1,aQw,aQx]
 show wpQuiet _ _ _ _ [_,_,_,_,_,_,_,_,_,_,_,_] _
 go_big_quiet_step (fail)
 go_big_quiet_step (fail)
 refine eN rfl _ _ rfl A 0 rfl [(f 0),(f 1),(f 2),(f 3),(f 4),(f 5),(f 6),(f 7),(f 8),(f 9),(f 10),(f 11),(g 0),(g 1),(g 2),(g 3),(g 4),(g 5),(g 6),(g 7),(g 8),(g 9),(g 10),(g 11),sh,(n:Nat)] _ (by rintro _ ⟨d,rfl⟩ j v hj;rw [jD _ _ _ _ lA];exact a8 j v hj) underlying127 rfl fQ ?_
 try simp only [Act.put,aQ4,aRc,aRb]
 repeat (go_big_quiet_step (fail))
 refine wpQuiet_nil ⟨_,rfl,fun K hK=>?_⟩;go_wp2_with fail;refine r_ (xZ f g sh (n:Nat) p.t HT _) fun w5 x5=>?_;have y5:Ext wc w5:=aQ3 (aRz (aQ6 _)) x5;go_wp2_with fail;refine k_ hK ?_;clear hK K;refine st_ fun K hK=>?_;go_wp2_with fail;refine (yB s.c (aY f g p.t) n p hn _).mono ?_;rintro e w6 ⟨r',rfl,hM,x6⟩;rw [d4] at hM;have y6:=y5.trans x6;obtain ⟨ta,tc,rfl,g2⟩:=aF.form hM;go_wp2_with fail;refine k_ hK ?_;clear hK K;refine st_ fun K hK=>?_;go_wp2_with fail;refine k_ hK ?_;clear hK K;refine aC ?_;go_wp2_with fail;have y2:=hid (hM.low (lo':=W0.heap.size) (by have:=y5.size;omega));have y0:=hid (HO.ext y6);have y4:=hid (HX.trans y6);clear hM y5 y6 x5 x6 a8 HS HO HX d7 m0 m1 m2 m3 m4 m5 m6 s2 s3 s4 lA g1 l1 l2 a6
 have hs:(-100000<=p.x/\p.x<=100000)/\(-100000<=p.y/\p.y<=100000):=by
  have hq:=HP.out;unfold Smp.okB at hq;simp only [aRd,aG] at hq;obtain ⟨⟨⟨⟨⟨q1,q2⟩,q3⟩,-⟩,-⟩,-⟩:=hq;have h1:=(Cam.okB_iff.1 q1).w;have h2:=(Cam.okB_iff.1 q1).h;omega
 have y8:=hid hs;clear hs
 go_loopw [9,36] (fun v i wr=>∃j:Nat,j<=M.length/\i = .int .i64 (j:Nat)/\Ext W0 wr/\aF Mc.cs W0.heap.size 155 12 wr (.slice ta M.length tc) M/\aF aO.cs W0.heap.size 95 5 wr v (aCd p (k:Nat) cols als M j)) (fun _ i _=>M.length - (intOf i).toNat)
 case atStart=>exact ⟨0,by omega,rfl,y4,y2,y0⟩
 case round=>
  obtain ⟨j,hj,rfl,hx,hm,ho⟩:=hrel;have x0:=hid hx;have y1:=hid hm;have x4:=hid ho;clear y4 y2 y0
  rcases aSd j M.length with hlt|hge
  ·obtain ⟨m,x2⟩:∃m,M[j]?=some m:=⟨_,aQ9 hlt⟩
   have h6:=d5.out m (List.mem_of_getElem? x2);obtain ⟨gm,cap,he,-,e4,x9,e3,-,h3⟩:=aF.at hm (fun _=>rfl) x2;simp only [aRo,true_and] at he;obtain ⟨rfl,rfl⟩:=he;have c0:=h3 0 (by decide);have c1:=h3 1 (by decide);have c2:=h3 2 (by decide);have c3:=h3 3 (by decide);have c4:=h3 4 (by decide);have c5:=h3 5 (by decide);have c6:=h3 6 (by decide);have c7:=h3 7 (by decide);have c8:=h3 8 (by decide);have c9:=h3 9 (by decide);have y9:=h3 10 (by decide);have a0:=h3 11 (by decide);simp only [Mc.cs,aIs,aSk,aQw,aQx] at c0 c1 c2 c3 c4 c5 c6 c7 c8 c9 y9 a0;have e1:=R2.ext hx;obtain ⟨s0,s1⟩:=e1.q2;have l1:=e1.lt;have y3:=hid x2;clear hx hm ho h3 x2 e1;go_wp2_with fail
   by_cases h8:qO m.a m.b m.d p.at=true
   ·refine (aGy m.a.x m.a.y m.a.z m.b.x m.b.y m.b.z m.d.x m.d.y m.d.z h6.a h6.b h6.d h6.z p.x p.y y8 h8 (r:=eC m.a m.b m.d p.at) rfl _).mono ?_
    rintro e w7 ⟨rfl,x7⟩;have y7:Ext wr w7:=aQ3 (show Ext wr (wr.alloc (.cells #[m.a.x,m.a.y,m.a.z,m.b.x,m.b.y,m.b.z,m.d.x,m.d.y,m.d.z,m.u,m.v,m.n] 155)) from X_) x7;have hX:=hid (x0.trans y7);have q4:=hid (y1.ext y7);have z0:=hid (x4.ext y7);have q5:=(aQ8 wr 155 [m.a.x,m.a.y,m.a.z,m.b.x,m.b.y,m.b.z,m.d.x,m.d.y,m.d.z,m.u,m.v,m.n]).ext x7;have k9:=q5.cell 9 rfl;have i6:=q5.cell 10 rfl;have i7:=q5.cell 11 rfl;have kl:=q5.lt;have e2:=R1.ext (x0.trans y7);obtain ⟨t0,t1⟩:=e2.q2;have tl:=e2.lt;obtain ⟨u,vv,hu,z9,z6,lu,lv⟩:=h6.q
    have g0:vv*n+u<n*n:=by
     have h:=Nat.mul_le_mul_right n (show vv+1<=n by omega);rw [Nat.add_mul,Nat.one_mul] at h;omega
    have z5:n*n<=64:=aRy hn.2 hn.2
    obtain ⟨q,hq⟩:=e_ (vv*n+u:Nat)
    have x8:m.v*m.n+m.u=(q:Nat):=by rw [hu,z9,z6,<-hq,aS6,aUb]
    obtain ⟨pr,x3⟩:=e_ (m.v*m.n)
    have z8:pr=((vv*n:Nat):Int):=by rw [<-x3,z9,z6,aUb]
    have i8:wrap64 (m.v*m.n)=pr:=by rw [x3];exact aD (by omega) (by omega)
    have i9:wrap64 (pr+m.u)=(q:Nat):=by rw [<-x3,x8];exact aD (by omega) (by omega)
    have a9:q<cols.length:=by rw [d1];omega
    have b0:q<als.length:=by rw [b9];omega
    obtain ⟨b4,o4,rfl,-,h4,ct⟩:=HC.at a9;obtain ⟨b5,o5,rfl,-,h5,dt⟩:=HA.at b0;have xt:=XW.trans hX.out;have d8:=(xt.cells.1 b4 _ (by omega)).trans ct;have d9:=(xt.cells.1 b5 _ (by omega)).trans dt;have g7:=(xt.cells.1 bc _ (by omega)).trans b7;have g3:=(xt.cells.1 ba _ (by omega)).trans b6
    obtain ⟨cv,z2⟩:=e_ (cols[q])
    obtain ⟨av,z1⟩:=e_ (als[q])
    rw [z2] at d8;rw [z1] at d9
    have e9:=hid (show qY p (k:Nat) cols als m=[⟨eC m.a m.b m.d p.at,(k:Nat),(q:Nat),cv,av⟩] by
     unfold qY;rw [if_pos h8,x8,aRr,aRs,aRs,aQ9 a9,aQ9 b0,z2,z1]
     rfl)
    have z3:=Z3.out
    have g4:b4<W0.heap.size:=by omega
    have g5:b5<W0.heap.size:=by omega
    have g9:bc<W0.heap.size:=by omega
    have g8:ba<W0.heap.size:=by omega
    have g6:w.heap.size+1<W0.heap.size:=by omega
    clear z3 h8 q5 e2 y7 x7 hu z9 z6 lu lv g0 z5 hq x8 x3 z8 ct dt z2 z1 xt h4 h5 h6 c0 c1 c2 c3 c4 c5 c6 c7 c8 c9 y9 a0 s0 s1 l1 e4 x9 e3;go_wp2_with fail;refine aJ [([0,1,2,3,4,5,6,7,8,9,10,11,12,13,14,15,16,17,18,19,20],21),([],22),([],23)] 23 (fun w'=>∃d,w'=fU (CHt W0.heap.size) _ d) (by kernel_rfl) (by kernel_rfl) (SC.drew _ _) ?_;refine sc_ fun K hK=>?_;go_wp2_with fail;have b2:=hX.out.size;refine hK _ _ (.inr (SC.blocks fun a ha=>aRa (w:=w7) X_ (aSf ha b2))) ?_;clear hK K;have HB:=hid (aQ8 w7.drew 95 [(eC m.a m.b m.d p.at),(k:Nat),(q:Nat),cv,av]);have a7:=hid (z0.out.ext (show Ext w7 (w7.drew.alloc (.cells #[(eC m.a m.b m.d p.at),(k:Nat),(q:Nat),cv,av] 95)) from X_));have e6:=hid (q4.out.ext (show Ext w7 (w7.drew.alloc (.cells #[(eC m.a m.b m.d p.at),(k:Nat),(q:Nat),cv,av] 95)) from X_));have e7:=hid (hX.out.trans (show Ext w7 (w7.drew.alloc (.cells #[(eC m.a m.b m.d p.at),(k:Nat),(q:Nat),cv,av] 95)) from X_));have i3:=uM p (k:Nat) cols als M j;refine sc_ fun K hK=>?_
    refine iF _ rfl _ _ rfl W0.heap.size _ _ rfl a7.out ⟨eC m.a m.b m.d p.at,(k:Nat),(q:Nat),cv,av⟩ w7.heap.size rfl (fun q hq=>by
      rcases (show q=0\/q=1\/q=2\/q=3\/q=4 by omega) with rfl|rfl|rfl|rfl|rfl
      ·exact HB.cell 0 rfl
      ·exact HB.cell 1 rfl
      ·exact HB.cell 2 rfl
      ·exact HB.cell 3 rfl
      ·exact HB.cell 4 rfl) (by have:=d3.out;omega) (by simp;omega) ?_
    intro v2 w9 q9 hg;have h9:=aF.rowE a7.out;have b8:=hid q9;have d6:=hid (aR7 e7.out hg (fun k e=>(h9 k e).1));have d2:=hid (e6.out.grownE hg (by decide) (fun k e=>(h9 k e).2));have e5:=hid (fun a:Addr=>fun ha:CHt W0.heap.size a=>show w9.heap[a.block]?=w7.drew.heap[a.block]? from (hg.block _ (by have:a.block<W0.heap.size:=ha;simp;omega) (fun e=>by have h1:=(h9 _ e.symm).1;have h2:a.block<W0.heap.size:=ha;omega)).trans (aRa (w:=w7) X_ (aSf ha b2)));clear q9 hg h9;go_wp2_with fail;refine hK _ _ (.inr (SC.blocks fun a ha=>e5.out a ha)) ?_;clear hK K;refine sc_ fun K hK=>?_;go_wp2_with fail;refine l_ hK ?_;clear hK K;refine aP ?_;go_wp2;go_roundw
    case rel=>exact ⟨j+1,by omega,by go_num,d6,d2,by rw [mA y3,e9.out];exact b8⟩
    case measure=>simp [intOf];omega
   ·refine (aJq m.a.x m.a.y m.a.z m.b.x m.b.y m.b.z m.d.x m.d.y m.d.z h6.a h6.b h6.d h6.z p.x p.y y8 (Bool.eq_false_iff.2 h8) _).mono ?_
    rintro e w7 ⟨rfl,x7⟩;have y7:Ext wr w7:=aQ3 (show Ext wr (wr.alloc (.cells #[m.a.x,m.a.y,m.a.z,m.b.x,m.b.y,m.b.z,m.d.x,m.d.y,m.d.z,m.u,m.v,m.n] 155)) from X_) x7;have hX:=hid (x0.trans y7);have q4:=hid (y1.ext y7);have z0:=hid (x4.ext y7);go_wp2;go_roundw
    case rel=>exact ⟨j+1,by omega,by go_num,hX.out,q4.out,by rw [mA y3];unfold qY;rw [if_neg h8,aTo];exact z0.out⟩
    case measure=>simp [intOf];omega
  ·obtain rfl:j=M.length:=by omega
   go_wp2;go_ret;refine ⟨_,rfl,?_,XW.trans x0⟩;rw [<-aEb];exact aF.low x4 (by have:=Z3.out;omega)
theorem zU (s:Scn) (lo hi h0:Nat) (v cv av:Value) (k:Nat) (p:Smp) (w:World) (hv:s.R lo hi w v) (hh:hi<=w.heap.size) (ho:s.Ok) (hk:k<s.m) (hp:p.okB s.c=true) (hd:yC s h0 w cv av) :
  Calls aQ2 55 #[v,.agg #[cv,av],(k:Nat),.agg #[p.x,p.y,p.t,p.lx,p.ly]] w fun e w'=>∃r,e = .returned r/\aF aO.cs w.heap.size 95 5 w' r (s.hits k p)/\Ext w w':=by
 obtain ⟨q,n,-,-,h3,h4,h5,-,-⟩:=ho.at hk;have h1:=ho.shade hk;rw [h3,aRr] at h1
 have eh:tY s.c (aY (s.st k) (s.en k) p.t) n p (k:Nat) (s.shade k).1 (s.shade k).2=s.hits k p:=by unfold Scn.hits;rw [h3,aRr]
 rw [<-eh];exact aCq s lo hi h0 v cv av k p n _ _ w hv hh hk ho.m h3 ⟨h4,h5⟩ hp hd h1.1 h1.2 rfl rfl
theorem zW (a b:aO) (w:World) :
  R_ 173 #[.agg #[a.d,a.s,a.c,a.col,a.al],.agg #[b.d,b.s,b.c,b.col,b.al]] w (.bool (a.lt b)):=by
 obtain ⟨d1,s1,c1,k1,l1⟩:=a;obtain ⟨d2,s2,c2,k2,l2⟩:=b;unfold aO.lt;simp only
 by_cases h0:d1=d2
 ·subst h0
  by_cases h1:s1=s2
  ·subst h1
   go_enter func173,ntmps173;go_wp2;go_ret;exact ⟨by simp,X_⟩
  ·go_enter func173,ntmps173
   go_wp2;go_ret;exact ⟨by simp [h1],X_⟩
 ·go_enter func173,ntmps173
  go_wp2;go_ret;exact ⟨by simp [h0],X_⟩
theorem qE {d1 s1 c1 k1 l1 d2 s2 c2 k2 l2:Int} {r:Bool} (h:(aO.mk d1 s1 c1 k1 l1).lt ⟨d2,s2,c2,k2,l2⟩=r) (w:World) :
  R_ 173 #[.agg #[d1,s1,c1,k1,l1],.agg #[d2,s2,c2,k2,l2]] w (.bool r):=h▸zW _ _ w
theorem aO.one (y:aO):∀u∈y.cs,u.oneCell'=true:=by
 intro u hu;simp only [aO.cs,aRk,aRe,or_false] at hu
 rcases hu with rfl|rfl|rfl|rfl|rfl <;> rfl
theorem Rd.cut {α : Type} {cs : α->List Value} {a:Option Addr} {ys:List α} (hc:∀x,(cs x).length=sz) (h:Rd cs lo hi w (.slice a ys.length c) ys) (hj:j<=ys.length) :
  Rd cs lo hi w (.slice a j c) (ys.take j):=by
 obtain ⟨ad,c',e,h2,h3,h4,h5⟩:=h;simp only [aRo,true_and] at e;obtain ⟨rfl,rfl⟩:=e;refine ⟨a,c,by rw [aRp,aTi hj],by rw [aRp];omega,h3,h4,?_⟩
 rcases h5 with rfl|⟨b,off,rfl,l1,l2,hcell⟩
 ·exact .inl (by simp)
 ·refine .inr ⟨b,off,rfl,l1,l2,fun q u hq=>hcell q u ?_⟩
  rw [<-aU3 j ys,aSa];rw [List.getElem?_append_left (aQz.1 hq).1];exact hq
theorem Rd.drop {α : Type} {cs : α->List Value} {ys:List α} (hc:∀x,(cs x).length=sz) (h:Rd cs lo hi w (.slice (some ⟨b,o,none⟩) ys.length c) ys) (hj:j<=ys.length) :
  Rd cs lo hi w (.slice (some ⟨b,o+j*sz,none⟩) (ys.length - j) (c - j)) (ys.drop j):=by
 obtain ⟨ad,c',e,h2,h3,h4,h5⟩:=h;simp only [aRo,true_and] at e;obtain ⟨rfl,rfl⟩:=e;refine ⟨some ⟨b,o+j*sz,none⟩,c - j,by rw [aTu],by rw [aTu];omega,by omega,(fun e=>nomatch e),?_⟩
 rcases h5 with rfl|⟨b',off,e,l1,l2,hcell⟩
 ·exact .inl (by simp)
 ·simp only [aQ0,aR1,and_true] at e
  obtain ⟨rfl,rfl⟩:=e;refine .inr ⟨b,o+j*sz,rfl,l1,l2,fun q u hq=>?_⟩
  have hl:(ys.take j).length=j:=by rw [aRp,aTi hj]
  rw [aSp];refine hcell (j*sz+q) u ?_;rw [<-aU3 j ys,aSa,List.getElem?_append_right (by rw [gH hc,hl];omega),gH hc,hl,Nat.add_sub_cancel_left];exact hq
theorem Rd.none0 {α : Type} (cs : α->List Value) (lo hi:Nat) (w:World) (a:Option Addr) (c:Nat) (hc:c<=9223372036854775807) (h:a=none->c=0):Rd cs lo hi w (.slice a 0 c) ([]:List α):=⟨a,c,rfl,by simp,hc,h,.inl rfl⟩
theorem aEr (lo:Nat) (v:Value) (l:List aO) (x:aO) (w:World) (ho:aF aO.cs lo 95 5 w v l) (hl:l.length<=100000) :
  Calls aQ2 111 #[v,.agg #[x.d,x.s,x.c,x.col,x.al]] w fun e w'=>∃r,e = .returned r/\aF aO.cs w.heap.size 95 5 w' r (tB x l)/\Ext w w':=by
 have x0:Ext w (w.alloc (.cells #[x.d,x.s,x.c,x.col,x.al] 95)):=X_;have hB:=aQ8 w 95 [x.d,x.s,x.c,x.col,x.al]
 obtain ⟨W0,x2⟩:=e_ (w.alloc (.cells #[x.d,x.s,x.c,x.col,x.al] 95))
 rw [x2] at x0
 have hB:Blk W0 w.heap.size 95 [x.d,x.s,x.c,x.col,x.al]:=by rw [<-x2];exact hB
 have hv:=ho.rd (fun _=>rfl)
 obtain ⟨hi,z1⟩:=e_ w.heap.size
 rw [z1] at hv;have HV:=hid (hv.ext (by omega) x0);have HH:=hid (show hi<=W0.heap.size by have:=x0.size;omega);have q1:=hid x0;have HB:=hid hB;have z6:=hid x2;have HL:=hid hl
 obtain ⟨p,hp⟩:=e_ (fA x l)
 have q7:p<=l.length:=hp▸aAj x l;have q8:∀k,k<p->∃hk:k<l.length,x.lt l[k]=false:=fun k hk=>aAk (hp.symm▸hk)
 have q6:∀f,l[p]?=some f->x.lt f=true:=fun f hf=>by
  obtain ⟨h1,h2⟩:=aQz.1 hf;subst h2;subst hp;exact aAl h1
 have q4:tB x l=l.take p++x::l.drop p:=by rw [<-hp];exact aHg x l
 have z0:=hid q8;have x9:=hid q6;have x3:=hid q4
 have h7:(v = .slice none 0 0/\l.length=0)\/∃g cap,v = .slice (some ⟨g,0,none⟩) l.length cap:=by
  rcases ho.2 with ⟨h1,h4⟩|⟨g,cap,cur,h1,_⟩
  ·exact .inl ⟨h1,h4⟩
  ·exact .inr ⟨g,cap,h1⟩
 obtain ⟨a,cap,rfl,z7,y0,-⟩:=hv.form;have z2:=hid h7;clear q8 q6 q4 hp x0 hB x2 hv hl ho h7 z1;go_enter func111,ntmps111
 go_upto_block 0 with fail
 rw [z6]
 go_cut [5] from 7 to 35 (fun i wx=>i = .int .i64 (p:Nat)/\Ext W0 wx)
 case first=>
  go_wp2_with fail
  go_loopw [5] (fun i wr=>∃k:Nat,k<=p/\i = .int .i64 (k:Nat)/\Ext W0 wr) (fun i _=>l.length - (intOf i).toNat)
  case atStart=>exact ⟨0,by omega,rfl,aQ6 _⟩
  case round=>
   obtain ⟨k,hk,rfl,hx⟩:=hrel;have HX:=hid hx;have h6:=hid (HB.ext hx);have b:=h6.lt;obtain ⟨b0,b1,b2,b3,b4⟩:=h6.q5;have HR:=hid (HV.ext HH hx);have zw:=hx.size;clear hx
   rcases aSd k l.length with hlt|hge
   ·obtain ⟨f,hf⟩:∃f,l[k]?=some f:=⟨_,aQ9 hlt⟩
    obtain ⟨g,y2,rfl,-,gl,h5⟩:=Rd.at (sz:=5) (fun _=>rfl) HR hf;have d0:=h5 0 (by decide);have d1:=h5 1 (by decide);have d2:=h5 2 (by decide);have d3:=h5 3 (by decide);have d4:=h5 4 (by decide);simp only [aO.cs,aSk,aQw,aQx] at d0 d1 d2 d3 d4
    obtain ⟨r,hr⟩:=e_ (x.lt f)
    have q9:=hid hr;have HF:=hid hf;have z9:decide ((k:Int)<(l.length:Int))=true:=decide_eq_true (by omega)
    have gw:g<wr.heap.size:=by have:=HH.out;omega
    clear h5 hr hf
    rcases aSd k p with hkp|hkp
    ·obtain rfl:r=false:=by
      obtain ⟨z8,hq⟩:=z0 k hkp
      have e1:l[k]=f:=by have:=HF.out;rw [aQ9 z8] at this;exact aSx this
      rw [e1] at hq;exact q9.symm.trans hq
     go_upto_region 2 with fail;refine aA [([0,1,2,3,4,5,6,7,8,9],10),([11],12)] 99 wr.heap.size (by kernel_rfl) (by kernel_rfl) ?_;refine st_ fun K hK=>?_;go_wp2_with fail;refine r_ (qE q9 _) fun w1 x1=>?_;have y1:Ext wr w1:=aQ3 (aRz (aQ6 _)) x1;go_wp2_with fail;refine k_ hK ?_;clear hK K;refine st_ fun K hK=>?_;go_wp2_with fail;go_wp2_with fail;refine k_ hK ?_;clear hK K;refine aC ?_;have X1:=hid (HX.trans y1);go_wp2;go_roundw
     case rel=>exact ⟨k+1,by omega,by go_num,X1⟩
     case measure=>simp [intOf];omega
    ·obtain rfl:k=p:=by omega
     obtain rfl:r=true:=by
      have:=x9.out f HF;exact q9.symm.trans this
     go_upto_region 2 with fail;refine aA [([0,1,2,3,4,5,6,7,8,9],10),([11],12)] 99 wr.heap.size (by kernel_rfl) (by kernel_rfl) ?_;refine st_ fun K hK=>?_;go_wp2_with fail;refine r_ (qE q9 _) fun w1 x1=>?_;have y1:Ext wr w1:=aQ3 (aRz (aQ6 _)) x1;go_wp2_with fail;refine k_ hK ?_;clear hK K;refine st_ fun K hK=>?_;go_wp2_with fail;go_wp2_with fail;refine k_ hK ?_;clear hK K;refine aC ?_;have X1:=hid (HX.trans y1);go_wp2
     go_meet
     exact ⟨rfl,X1⟩
   ·obtain rfl:k=p:=by omega
    obtain rfl:k=l.length:=by omega
    have z9:decide ((l.length:Int)<(l.length:Int))=false:=decide_eq_false (by omega);have y1:Ext wr wr.drew:=aRz (aQ6 _);go_upto_region 2 with fail;refine aA [([0,1,2,3,4,5,6,7,8,9],10),([11],12)] 99 wr.heap.size (by kernel_rfl) (by kernel_rfl) ?_;refine st_ fun K hK=>?_;go_wp2_with fail;go_wp2_with fail;refine k_ hK ?_;clear hK K;refine st_ fun K hK=>?_;go_wp2_with fail;go_wp2_with fail;refine k_ hK ?_;clear hK K;refine aC ?_;go_wp2
    go_meet
    exact ⟨rfl,HX.trans y1⟩
 case rest=>
  obtain ⟨rfl,hx⟩:=hcut;have HX:=hid hx;have h6:=hid (HB.ext hx);have b:=h6.lt;obtain ⟨b0,b1,b2,b3,b4⟩:=h6.q5;have HR:=hid (HV.ext HH hx);have HC:=hid (HR.cut (sz:=5) (fun _=>rfl) q7);have zw:=hx.size;clear hx;have xa:Ext wc (wc.alloc (.cells #[] 95)):=X_;have HF:=hid (aF.freshC (cs:=aO.cs) (sz:=5) (show W0.heap.size<=wc.heap.size from zw) (aQ8 wc 95 []));have x8:=hid (show (l.take p).length<=100000 by rw [aRp];have:=HL.out;omega);go_upto_region 5 with (at_builtin;refine cQ aO.cs 95 5 40 _ _ rfl _ _ 48 rfl underlying48 iE rfl (by decide) (by decide) (fun _=>rfl) aO.one W0.heap.size (.slice (some ⟨wc.heap.size,0,none⟩) 0 0) [] rfl HF lo hi (.slice a p cap) (l.take p) rfl (HC.ext (by have:=HH.out;omega) xa) (by have:=x8.out;simp only [List.length_nil];omega) (by simp;omega) ?_;intro v4 w4 hown4 hg4);rw [aSu] at hown4;obtain ⟨va,vc,rfl,-⟩:=aF.form hown4;have X4:Ext W0 w4:=aR7 (HX.trans xa) hg4 (fun k e=>by simp only [aRu,aQ0] at e;omega);have x6:=hid X4;have x5:=hid hown4;have z4:=X4.size;clear hown4 hg4 xa X4 h6 b b0 b1 b2 b3 b4 HC HF HR HX;have h6:=hid (HB.ext x6);have b:=h6.lt;obtain ⟨b0,b1,b2,b3,b4⟩:=h6.q5;have h9:=hid (aQ8 w4 95 [x.d,x.s,x.c,x.col,x.al]);have xb:Ext w4 (w4.alloc (.cells #[x.d,x.s,x.c,x.col,x.al] 95)):=X_
  go_upto_region 6 with (at_builtin;refine iF _ rfl _ _ rfl W0.heap.size _ _ rfl (x5.ext xb) x w4.heap.size rfl (fun q hq=>by
       rcases (show q=0\/q=1\/q=2\/q=3\/q=4 by omega) with rfl|rfl|rfl|rfl|rfl
       ·exact h9.cell 0 rfl
       ·exact h9.cell 1 rfl
       ·exact h9.cell 2 rfl
       ·exact h9.cell 3 rfl
       ·exact h9.cell 4 rfl) (by have:=x8.out;omega) (by simp;omega) ?_;intro v5 w5 hown5 hg5)
  have h8:=aF.rowE (x5.ext xb);have X5:Ext W0 w5:=aR7 (x6.trans xb) hg5 (fun k e=>(h8 k e).1);obtain ⟨vb,vd,rfl,-⟩:=aF.form hown5;have x7:=hid X5;have q0:=hid hown5;have z5:=X5.size;have z3:=hid (HV.ext HH X5);have x4:=hid (show ((l.take p)++[x]).length+(l.drop p).length<=10000000 by rw [aRq,aRp,aTu];have:=HL.out;simp;omega);clear hown5 hg5 xb X5 h6 b b0 b1 b2 b3 b4 h9 h8 x5 x6
  rcases z2 with ⟨e,h0⟩|⟨g,cap',e⟩
  ·simp only [aRo] at e
   obtain ⟨rfl,-,rfl⟩:=e
   obtain rfl:p=0:=by omega
   obtain rfl:l=[]:=List.length_eq_zero_iff.1 h0;have HD:=hid (show Rd aO.cs lo hi w5 (.slice none 0 0) (([]:List aO).drop 0) from Rd.nil _ _ _ _);clear z0 x9;go_wp2_with (at_builtin;refine cQ aO.cs 95 5 40 _ _ rfl _ _ 48 rfl underlying48 iE rfl (by decide) (by decide) (fun _=>rfl) aO.one W0.heap.size (.slice vb (([]:List aO).take 0++[x]).length vd) (([]:List aO).take 0++[x]) rfl q0 lo hi (.slice none 0 0) (([]:List aO).drop 0) rfl HD x4 (by omega) ?_;intro v6 w6 hown6 hg6);have h3:=aF.rowE q0;have X6:Ext W0 w6:=aR7 x7 hg6 (fun k e=>(h3 k e).1);rw [aRx,aXc,<-x3] at hown6;have q2:=hid hown6;have q3:=hid (q1.trans X6);clear hown6 hg6 h3 X6;go_wp2;go_ret;exact ⟨v6,rfl,q2.low q1.size,q3⟩
  ·simp only [aRo,true_and] at e
   obtain ⟨rfl,rfl⟩:=e
   rcases aSd p cap with hpc|hpc
   ·have HD:=z3.drop (sz:=5) (fun _=>rfl) q7
    rw [aRt] at HD;replace HD:=hid HD;go_wp2_with (at_builtin;refine cQ aO.cs 95 5 40 _ _ rfl _ _ 48 rfl underlying48 iE rfl (by decide) (by decide) (fun _=>rfl) aO.one W0.heap.size (.slice vb (l.take p++[x]).length vd) (l.take p++[x]) rfl q0 lo hi (.slice (some ⟨g,p*5,none⟩) (l.length - p) (cap - p)) (l.drop p) rfl HD x4 (by omega) ?_;intro v6 w6 hown6 hg6);have h3:=aF.rowE q0;have X6:Ext W0 w6:=aR7 x7 hg6 (fun k e=>(h3 k e).1);rw [aRx,aXc,<-x3] at hown6;have q2:=hid hown6;have q3:=hid (q1.trans X6);clear hown6 hg6 h3 X6;go_wp2;go_ret;exact ⟨v6,rfl,q2.low q1.size,q3⟩
   ·obtain rfl:p=cap:=by omega
    obtain rfl:p=l.length:=by omega
    have HD:=hid (show Rd aO.cs lo hi w5 (.slice (some ⟨g,0,none⟩) 0 0) (l.drop l.length) from by rw [List.drop_length];exact Rd.none0 _ _ _ _ _ _ (by omega) (fun e=>nomatch e));go_wp2_with (at_builtin;refine cQ aO.cs 95 5 40 _ _ rfl _ _ 48 rfl underlying48 iE rfl (by decide) (by decide) (fun _=>rfl) aO.one W0.heap.size (.slice vb (l.take l.length++[x]).length vd) (l.take l.length++[x]) rfl q0 lo hi (.slice (some ⟨g,0,none⟩) 0 0) (l.drop l.length) rfl HD x4 (by omega) ?_;intro v6 w6 hown6 hg6);have h3:=aF.rowE q0;have X6:Ext W0 w6:=aR7 x7 hg6 (fun k e=>(h3 k e).1);rw [aRx,aXc,<-x3] at hown6;have q2:=hid hown6;have q3:=hid (q1.trans X6);clear hown6 hg6 h3 X6;go_wp2;go_ret;exact ⟨v6,rfl,q2.low q1.size,q3⟩
theorem aLn {m:Int}:inB (bI x 16) 0 (m - 1)=inB x 0 (m*16 - 1):=by
 have e:bI x 16=x / 16:=rfl;rw [Bool.eq_iff_iff,aG,aG,e];omega
theorem aCr (c:Cam) (x y:Int) (hx:I64 x) (hy:I64 y) (w:World) :
  Calls aQ2 147 #[.agg c,x,y] w fun e w'=>∃i j:Int,e = .returned (.tuple #[i,j,.bool (uV c x y)])/\Ext w w':=by
 have HX:=hid hx;have HY:=hid hy
 obtain ⟨i,hi⟩:=e_ (bI x 16)
 obtain ⟨j,hj⟩:=e_ (bI y 16)
 have HI:=hid hi;have HJ:=hid hj;have B0:=hid (aQ8 w 35 c);have X0:=hid (show Ext w (w.alloc (.cells c 35)) from X_)
 cases hb:c.okB
 ·have hp:uV c x y=false:=by unfold uV;rw [hb];rfl
  rw [hp];have HB:=hid hb;clear hx hy hi hj hb hp;go_enter func147,ntmps147;go_wp2_with fail;refine z_ (aT HX HI _) ?_;go_wp2_with fail;refine z_ (aT HY HJ _) ?_;go_wp2_with fail;refine r_ (aN HB _) fun w1 x1=>?_;go_wp2;exact bodyPost_ret (v:=.tuple #[(),(),.bool false]) (by simp [results,results147,go_sem, *]) rfl ⟨_,_,rfl,X0.trans x1⟩
 ·have hk:=Cam.okB_iff.1 hb
  have k1:=hk.w;have k2:=hk.h;have u1:wrap64 (c.w - 1)=c.w - 1:=aD (by omega) (by omega);have u2:wrap64 (c.h - 1)=c.h - 1:=aD (by omega) (by omega)
  obtain ⟨b1,h1⟩:=e_ (inB i 0 (c.w - 1))
  obtain ⟨b2,h2⟩:=e_ (inB j 0 (c.h - 1))
  have H1:=hid h1;have H2:=hid h2
  have hp:uV c x y=(b1&&b2):=by
   unfold uV;rw [hb,<-aLn,<-aLn,hi,hj,h1,h2]
   rfl
  rw [hp];have HB:=hid hb;have U1:=hid u1;have U2:=hid u2;clear hx hy hi hj hb hp h1 h2 hk k1 k2 u1 u2;go_enter func147,ntmps147;go_wp2_with fail;refine z_ (aT HX HI _) ?_;go_wp2_with fail;refine z_ (aT HY HJ _) ?_;go_wp2_with fail;refine r_ (aN HB _) fun w1 x1=>?_;replace B0:=hid (B0.ext x1);replace X0:=hid (X0.trans x1);have p:=B0.lt;obtain ⟨p0,p1,p2,p3,p4,p5,p6⟩:=B0.q7;have u1:=U1.out;have u2:=U2.out;go_wp2_with fail;refine z_ (aE H1 _) ?_
  cases b1
  ·go_wp2
   exact bodyPost_ret (v:=.tuple #[(),(),.bool false]) (by simp [results,results147,go_sem, *]) rfl ⟨_,_,rfl,X0⟩
  ·go_wp2_with fail
   refine z_ (aE H2 _) ?_
   cases b2
   ·go_wp2
    exact bodyPost_ret (v:=.tuple #[(),(),.bool false]) (by simp [results,results147,go_sem, *]) rfl ⟨_,_,rfl,X0⟩
   ·go_wp2
    exact bodyPost_ret (v:=.tuple #[i,j,.bool true]) (by simp [results,results147,go_sem, *]) rfl ⟨_,_,rfl,X0⟩
theorem rB (c:Cam) (p:Smp) (hx:I64 p.x) (hy:I64 p.y) (w:World) :
  R_ 97 #[.agg c,.agg #[p.x,p.y,p.t,p.lx,p.ly]] w (.bool (p.okB c)):=by
 have HX:=hid hx;have HY:=hid hy
 obtain ⟨b,hb⟩:=e_ (uV c p.x p.y)
 obtain ⟨b1,h1⟩:=e_ (inB p.t 0 15)
 obtain ⟨b2,h2⟩:=e_ (inB p.lx (-16) 16)
 obtain ⟨b3,h3⟩:=e_ (inB p.ly (-16) 16)
 have hr:p.okB c=(b&&b1&&b2&&b3):=by rw [Smp.okB_eq,hb,h1,h2,h3]
 rw [hr];have HB:=hid hb;have H1:=hid h1;have H2:=hid h2;have H3:=hid h3;have B1:=hid (show Blk ((w.alloc (.cells c 35)).alloc (.cells #[p.x,p.y,p.t,p.lx,p.ly] 42)) (w.heap.size+1) 42 [p.x,p.y,p.t,p.lx,p.ly] from by have q:=aQ8 (w.alloc (.cells c 35)) 42 [p.x,p.y,p.t,p.lx,p.ly];simp only [aQy] at q;exact q);have X0:=hid (show Ext w ((w.alloc (.cells c 35)).alloc (.cells #[p.x,p.y,p.t,p.lx,p.ly] 42)) from X_);clear hx hy hb h1 h2 h3 hr;go_enter func97,ntmps97;go_wp2_with fail;refine (aCr c p.x p.y HX HY _).mono ?_;rintro e w1 ⟨i,j,rfl,x1⟩;rw [HB];replace B1:=hid (B1.ext x1);replace X0:=hid (X0.trans x1);have q:=B1.lt;obtain ⟨q0,q1,q2,q3,q4⟩:=B1.q5
 cases b
 ·go_wp2
  go_ret;exact ⟨rfl,X0⟩
 ·go_wp2_with fail
  refine z_ (aE H1 _) ?_
  cases b1
  ·go_wp2
   go_ret;exact ⟨rfl,X0⟩
  ·go_wp2_with fail
   refine z_ (aE H2 _) ?_
   cases b2
   ·go_wp2
    go_ret;exact ⟨rfl,X0⟩
   ·go_wp2_with fail
    refine z_ (aE H3 _) ?_;go_wp2;go_ret;exact ⟨rfl,X0⟩
theorem yC.forms {s:Scn} (r:yC s h w cv av):∃xa xc ya yc,cv = .slice xa s.m xc/\av = .slice ya s.m yc:=by
 obtain ⟨hh,⟨us,h1,h2,h3⟩,us2,k1,k2,k3⟩:=r;obtain ⟨ad,cc,rfl,-,-,-⟩:=h2.form;obtain ⟨h0,ca,rfl,-,-,-⟩:=k2.form;exact ⟨ad,cc,h0,ca,by rw [h1],by rw [k1]⟩
theorem aEs (s:Scn) (lo hi h0:Nat) (v cv av:Value) (p:Smp) (w:World) (hv:s.R lo hi w v) (hh:hi<=w.heap.size) (ho:s.Ok) (hp:p.okB s.c=true) (hd:yC s h0 w cv av) :
  Calls aQ2 64 #[v,.agg #[cv,av],.agg #[p.x,p.y,p.t,p.lx,p.ly]] w fun e w'=>∃r,e = .returned r/\aF aO.cs w.heap.size 95 5 w' r (s.seen p)/\Ext w w':=by
 have HV:=hid hv;have HD:=hid hd;have a5:=ho.m;obtain ⟨a1,c1,a2,c2,a3,c3,rfl⟩:=hv.formV;obtain ⟨xa,xc,ya,yc,rfl,rfl⟩:=hd.forms;have HO:=hid ho;have HP:=hid hp;clear hv ho hp hd;have x0:Ext w (((w.alloc (.cells (sA_ s a1 c1 a2 c2 a3 c3) 40)).alloc (.cells #[.slice xa s.m xc,.slice ya s.m yc] 78)).alloc (.cells #[p.x,p.y,p.t,p.lx,p.ly] 42)):=X_;have bS:=(aQ8 w 40 (sL_ s a1 c1 a2 c2 a3 c3)).ext (show Ext _ (((w.alloc (.cells (sA_ s a1 c1 a2 c2 a3 c3) 40)).alloc (.cells #[.slice xa s.m xc,.slice ya s.m yc] 78)).alloc (.cells #[p.x,p.y,p.t,p.lx,p.ly] 42)) from X_);have bD:=(aQ8 (w.alloc (.cells (sA_ s a1 c1 a2 c2 a3 c3) 40)) 78 [.slice xa s.m xc,.slice ya s.m yc]).ext (show Ext _ (((w.alloc (.cells (sA_ s a1 c1 a2 c2 a3 c3) 40)).alloc (.cells #[.slice xa s.m xc,.slice ya s.m yc] 78)).alloc (.cells #[p.x,p.y,p.t,p.lx,p.ly] 42)) from X_);have bP:=(aQ8 ((w.alloc (.cells (sA_ s a1 c1 a2 c2 a3 c3) 40)).alloc (.cells #[.slice xa s.m xc,.slice ya s.m yc] 78)) 42 [p.x,p.y,p.t,p.lx,p.ly]).ext (show Ext _ (((w.alloc (.cells (sA_ s a1 c1 a2 c2 a3 c3) 40)).alloc (.cells #[.slice xa s.m xc,.slice ya s.m yc] 78)).alloc (.cells #[p.x,p.y,p.t,p.lx,p.ly] 42)) from X_)
 try simp only [aQy] at bS bD bP
 obtain ⟨W0,h9⟩:=e_ (((w.alloc (.cells (sA_ s a1 c1 a2 c2 a3 c3) 40)).alloc (.cells #[.slice xa s.m xc,.slice ya s.m yc] 78)).alloc (.cells #[p.x,p.y,p.t,p.lx,p.ly] 42))
 rw [h9] at x0 bS bD bP;have q3:=hid x0;have x7:=hid h9;have z0:=bP.lt;have h8:=hid bS;have q7:=hid bD;have x4:=hid bP;clear x0 h9 bS bD bP;have o1:aF aO.cs W0.heap.size 95 5 (W0.alloc (.cells #[] 95)) (.slice (some ⟨W0.heap.size,0,none⟩) 0 0) []:=aF.fresh0 (aQv _) (aQ8 W0 95 []);have h5:=hid o1;have x1:Ext W0 (W0.alloc (.cells #[] 95)):=X_;have h6:=hid x1;clear o1 x1;go_enter func64,ntmps64;go_upto_region 1 with fail;rw [x7];have x8:=h8.cell 10 rfl;have ls:=h8.lt;go_wp2_with fail;clear x8 ls
 go_loopw [7,15] (fun u i wr=>∃k:Nat,k<=s.m/\i = .int .i64 (k:Nat)/\aF aO.cs W0.heap.size 95 5 wr u (s.seenTo p k)/\Ext W0 wr) (fun _ i _=>s.m - (intOf i).toNat)
 case atStart=>exact ⟨0,by omega,rfl,h5,h6⟩
 case round=>
  clear h5 h6
  obtain ⟨WA,rfl⟩:=i_ wr
  obtain ⟨k,hk,rfl,h2,hx⟩:=hrel;have HX:=hid hx;have HR:=hid h2;have zr:=hx.size
  rcases aSd k s.m with hlt|hge
  ·have XW:=hid (q3.trans hx)
   have bq:=h8.ext HX;obtain ⟨z9,y0,y1,y2,y4,y5,y6,y7,y8,y9,q0,q1⟩:=bq.q12;have sl:=bq.lt;clear bq;have bq:=q7.ext HX;obtain ⟨x9,z1⟩:=bq.q2;have dl:=bq.lt;clear bq;have bq:=x4.ext HX;obtain ⟨z4,z5,z6,z7,z8⟩:=bq.q5;have pl:=bq.lt;clear bq;have z3:=HO.seenTo_le p (aT5 hlt)
   obtain ⟨F0,hF⟩:=e_ (s.seenTo p k)
   rw [hF] at z3 h2;have HF:=hid hF;have x5:=hid h2;obtain ⟨oa,oc,rfl,-⟩:=aF.form h2;clear hx h2 hF HR;go_wp2_with fail;have CH:=zU s lo hi h0 _ _ _ k p WA (HV.ext hh XW) (aQ5 hh XW.size) HO hlt HP (HD.ext XW);refine CH.mono ?_;clear CH;rintro e w2 ⟨r,rfl,hr,x2⟩
   obtain ⟨L,hL⟩:=e_ (s.hits k p)
   rw [hL] at hr;have HL:=hid hL;have q4:L.length<=128:=hL▸HO.out.hits_le p hlt;obtain ⟨ra,rc,rfl,-⟩:=hr.form;have X2:=hid x2;have h7:=hid hr;have zy:=x2.size;clear x2 hr hL;clear sl z9 y0 y1 y2 y4 y5 y6 y7 y8 y9 q0 q1 dl x9 z1 pl z4 z5 z6 z7 z8;go_wp2_with fail
   go_loopw [7,24] (fun u j wr=>∃jn:Nat,jn<=L.length/\j = .int .i64 (jn:Nat)/\aF aO.cs W0.heap.size 95 5 wr u (fM F0 (L.take jn))/\Ext w2 wr) (fun _ j _=>L.length - (intOf j).toNat)
   case atStart=>exact ⟨0,by omega,rfl,x5.ext X2,aQ6 _⟩
   case round=>
    obtain ⟨jn,hj,rfl,h3,h4⟩:=hrel;have h5:=hid h3;have h6:=hid h4;have zq:=h4.size;obtain ⟨ia,ic,rfl,-⟩:=aF.form h3
    rcases aSd jn L.length with hjl|hjl
    ·obtain ⟨f,hf⟩:∃f,L[jn]?=some f:=⟨_,aQ9 hjl⟩
     obtain ⟨g,a6,he,-,a4,z2,a0,-,h1⟩:=aF.at (h7.ext h4) (fun _=>rfl) hf;simp only [aRo,true_and] at he;obtain ⟨rfl,rfl⟩:=he;have d0:=h1 0 (by decide);have d1:=h1 1 (by decide);have d2:=h1 2 (by decide);have d3:=h1 3 (by decide);have d4:=h1 4 (by decide);simp only [aO.cs,aSk,aQw,aQx] at d0 d1 d2 d3 d4;have x6:=hid (uN (l:=F0) hf)
     have q6:(fM F0 (L.take jn)).length<=100000:=by
      rw [kY,aRp];omega
     have q8:=hid q6
     obtain ⟨I0,hI⟩:=e_ (fM F0 (L.take jn))
     rw [hI] at h3;have HI:=hid hI;have q9:=hid h3;clear h1 hf h4 h3 q6 h5;rw [hI];clear hI;go_wp2_with fail;refine (aEr _ _ _ f _ (q9.ext (show Ext _ (wr.alloc (.cells #[f.d,f.s,f.c,f.col,f.al] 95)) from X_)) (HI.out▸q8.out)).mono ?_;rintro e w3 ⟨v3,rfl,o3,x3⟩;have y3:Ext wr w3:=aQ3 (show Ext wr (wr.alloc (.cells #[f.d,f.s,f.c,f.col,f.al] 95)) from X_) x3;have P1:=hid (o3.low (lo':=W0.heap.size) (by rw [aQy];omega));have P2:=hid (h6.trans y3);clear o3 x3 y3;go_wp2;go_roundw
     case rel=>exact ⟨jn+1,by omega,by go_num,by rw [x6,HI];exact P1,P2⟩
     case measure=>simp [intOf];omega
    ·obtain rfl:jn=L.length:=by omega
     have P1:=hid (show aF aO.cs W0.heap.size 95 5 wr (.slice ia (fM F0 (L.take L.length)).length ic) (s.seenTo p (k+1)) by
      rw [Scn.seenTo_succ,HF,HL];have:=h5.out;rw [aR2] at this ⊢
      exact this)
     have P2:=hid (HX.trans (X2.trans h4));clear h3 h4;go_wp2;go_roundw
     case rel=>exact ⟨k+1,by omega,by go_num,P1,P2⟩
     case measure=>simp [intOf];omega
  ·obtain rfl:k=s.m:=by omega
   have X2:=hid (q3.trans hx);have h7:=hid (HR.low (show w.heap.size<=W0.heap.size by omega));obtain ⟨oa,oc,rfl,-⟩:=aF.form h2;clear hx h2 HX;go_wp2;go_ret;exact ⟨_,rfl,h7,X2⟩
theorem aG1 {s:Scn} {p:Smp} {b1 b2:Bool} (h1:s.okB=b1) (h2:p.okB s.c=b2) (lo hi:Nat) (v:Value) (w:World) (hv:s.R lo hi w v) (hh:hi<=w.heap.size) (hsm:s.small) (hx:I64 p.x) (hy:I64 p.y) :
  R_ 54 #[v,.agg #[p.x,p.y,p.t,p.lx,p.ly]] w (.bool (b1&&b2)):=by
 have HV:=hid hv;obtain ⟨a1,c1,a2,c2,a3,c3,rfl⟩:=hv.formV;have H1:=hid h1;have H2:=hid h2;have x7:=hid hsm;have HI:=hid (And.intro hx hy);clear hv h1 h2 hsm hx hy;have x0:Ext w ((w.alloc (.cells (sA_ s a1 c1 a2 c2 a3 c3) 40)).alloc (.cells #[p.x,p.y,p.t,p.lx,p.ly] 42)):=X_;have bS:=(aQ8 w 40 (sL_ s a1 c1 a2 c2 a3 c3)).ext (show Ext _ ((w.alloc (.cells (sA_ s a1 c1 a2 c2 a3 c3) 40)).alloc (.cells #[p.x,p.y,p.t,p.lx,p.ly] 42)) from X_);have bP:=(aQ8 (w.alloc (.cells (sA_ s a1 c1 a2 c2 a3 c3) 40)) 42 [p.x,p.y,p.t,p.lx,p.ly]).ext (show Ext _ ((w.alloc (.cells (sA_ s a1 c1 a2 c2 a3 c3) 40)).alloc (.cells #[p.x,p.y,p.t,p.lx,p.ly] 42)) from X_)
 try simp only [aQy] at bS bP
 obtain ⟨W0,h5⟩:=e_ ((w.alloc (.cells (sA_ s a1 c1 a2 c2 a3 c3) 40)).alloc (.cells #[p.x,p.y,p.t,p.lx,p.ly] 42))
 rw [h5] at x0 bS bP;have h4:=hid x0;have x8:=hid h5;have z0:=bP.lt;have x6:=hid bS;have x5:=hid bP;clear x0 h5 bS bP;go_enter func54,ntmps54;go_upto_region 1 with fail;rw [x8];have bq:=x6.ext (aQ6 _);obtain ⟨q1,q2,q3,q4,q6,q7,q8,q9,x1,x2,h0,h3⟩:=bq.q12;have sl:=bq.lt;clear bq;have bq:=x5.ext (aQ6 _);obtain ⟨h6,h7,h8,h9,q0⟩:=bq.q5;have pl:=bq.lt;clear bq;go_wp2_with fail;refine r_ (kI H1 lo hi _ _ (HV.ext hh h4) (aQ5 hh h4.size) x7) fun w3 x3=>?_;have X3:=hid x3;clear x3;clear sl q1 q2 q3 q4 q6 q7 q8 q9 x1 x2 h0 h3 pl h6 h7 h8 h9 q0;have bq:=x6.ext X3;obtain ⟨q1,q2,q3,q4,q6,q7,q8,q9,x1,x2,h0,h3⟩:=bq.q12;have sl:=bq.lt;clear bq;have bq:=x5.ext X3;obtain ⟨h6,h7,h8,h9,q0⟩:=bq.q5;have pl:=bq.lt;clear bq
 cases b1
 ·go_wp2
  go_ret;exact ⟨rfl,h4.trans X3⟩
 ·go_wp2_with fail
  refine (rB s.c p HI.1 HI.2 _).mono ?_;rw [H2];rintro e w4 ⟨rfl,x4⟩;have X4:=hid x4;clear x4;clear sl q1 q2 q3 q4 q6 q7 q8 q9 x1 x2 h0 h3 pl h6 h7 h8 h9 q0;go_wp2;go_ret;exact ⟨by cases b2 <;> rfl,h4.trans (X3.trans X4)⟩
open Classical in
noncomputable def Scn.frs (s:Scn) (p:Smp):List aO:=if (s.okB&&p.okB s.c)=true then s.seen p else []
theorem Scn.frs_cases {s:Scn} {p:Smp} {X:List aO} (h:s.frs p=X):(s.Ok/\p.okB s.c=true/\X=s.seen p)\/((s.okB&&p.okB s.c)=false/\X=[]):=by
 unfold Scn.frs at h
 split at h
 ·rename_i h1
  simp only [aRd] at h1;exact .inl ⟨Scn.okB_iff.1 h1.1,h1.2,h.symm⟩
 ·rename_i h1
  exact .inr ⟨by simpa using h1,h.symm⟩
theorem oJ (lo hi:Nat) (v:Value) (s:Scn) (p:Smp) (w:World) {X:List aO} (hX:s.frs p=X) (hv:s.R lo hi w v) (hh:hi<=w.heap.size) (hsm:s.small) (hx:I64 p.x) (hy:I64 p.y) :
  Calls aQ2 23 #[v,.agg #[p.x,p.y,p.t,p.lx,p.ly]] w fun e w'=>∃r,e = .returned r/\aF aO.cs w.heap.size 95 5 w' r X/\Ext w w':=by
 have HV:=hid hv;obtain ⟨a1,c1,a2,c2,a3,c3,rfl⟩:=hv.formV;have h8:=hid hsm;have HI:=hid (And.intro hx hy);have HQ:=hid (Scn.frs_cases hX)
 obtain ⟨b,hb⟩:=e_ (s.okB&&p.okB s.c)
 have HB:=hid hb;clear hv hsm hx hy hX hb;have x0:Ext w ((w.alloc (.cells (sA_ s a1 c1 a2 c2 a3 c3) 40)).alloc (.cells #[p.x,p.y,p.t,p.lx,p.ly] 42)):=X_;have bS:=(aQ8 w 40 (sL_ s a1 c1 a2 c2 a3 c3)).ext (show Ext _ ((w.alloc (.cells (sA_ s a1 c1 a2 c2 a3 c3) 40)).alloc (.cells #[p.x,p.y,p.t,p.lx,p.ly] 42)) from X_);have bP:=(aQ8 (w.alloc (.cells (sA_ s a1 c1 a2 c2 a3 c3) 40)) 42 [p.x,p.y,p.t,p.lx,p.ly]).ext (show Ext _ ((w.alloc (.cells (sA_ s a1 c1 a2 c2 a3 c3) 40)).alloc (.cells #[p.x,p.y,p.t,p.lx,p.ly] 42)) from X_)
 try simp only [aQy] at bS bP
 obtain ⟨W0,h5⟩:=e_ ((w.alloc (.cells (sA_ s a1 c1 a2 c2 a3 c3) 40)).alloc (.cells #[p.x,p.y,p.t,p.lx,p.ly] 42))
 rw [h5] at x0 bS bP;have h0:=hid x0;have z1:=hid h5;have z0:=bP.lt;have h7:=hid bS;have h6:=hid bP;clear x0 h5 bS bP;go_enter func23,ntmps23;go_upto_region 1 with fail;rw [z1];have bq:=h7.ext (aQ6 _);obtain ⟨q4,q6,q7,q8,q9,x1,x2,x4,x7,x8,h3,h4⟩:=bq.q12;have sl:=bq.lt;clear bq;have bq:=h6.ext (aQ6 _);obtain ⟨h9,q0,q1,q2,q3⟩:=bq.q5;have pl:=bq.lt;clear bq;go_wp2_with fail;have CH:=aG1 (s:=s) (p:=p) rfl rfl lo hi _ W0 (HV.ext hh h0) (aQ5 hh h0.size) h8 HI.1 HI.2;rw [HB] at CH;refine CH.mono ?_;clear CH;rintro e w3 ⟨rfl,x3⟩;have X3:=hid x3;clear x3;clear sl q4 q6 q7 q8 q9 x1 x2 x4 x7 x8 h3 h4 pl h9 q0 q1 q2 q3;have bq:=h7.ext X3;obtain ⟨q4,q6,q7,q8,q9,x1,x2,x4,x7,x8,h3,h4⟩:=bq.q12;have sl:=bq.lt;clear bq;have bq:=h6.ext X3;obtain ⟨h9,q0,q1,q2,q3⟩:=bq.q5;have pl:=bq.lt;clear bq
 cases b
 ·have hX:X=[]:=by
   rcases HQ with ⟨h1,h2,-⟩|⟨-,h⟩
   ·have:=HB.out
    rw [Scn.okB_iff.2 h1,h2] at this;exact absurd this (by decide)
   ·exact h
  subst hX;go_wp2;go_ret;exact ⟨_,rfl,aF.nil _ _ _ _ _,h0.trans X3⟩
 ·have hX:s.Ok/\p.okB s.c=true/\X=s.seen p:=by
   rcases HQ with h|⟨h,-⟩
   ·exact h
   ·have:=HB.out
    rw [h] at this;exact absurd this (by decide)
  obtain ⟨ho,hp,rfl⟩:=hX;have HO:=hid ho;have HP:=hid hp;clear ho hp;go_upto_region 3 with fail;refine aA [([0,1,3],2),([],4),([],5)] 5 w3.heap.size (by kernel_rfl) (by kernel_rfl) ?_;refine st_ fun K hK=>?_;go_wp2_with fail;have xd:Ext w w3.drew:=h0.trans (X3.trans (aRz (aQ6 _)));refine (aLk s lo hi _ _ (HV.ext hh xd) (aQ5 hh xd.size) HO h8).mono ?_;rintro e w5 ⟨cv,av,rfl,hd,x5⟩;have y5:Ext w3 w5:=aQ3 (aRz (aQ6 _)) x5;have HD:=hid hd.rd;obtain ⟨xa,xc,ya,yc,rfl,rfl⟩:=hd.rd.forms;have X5:=hid (h0.trans (X3.trans y5));clear hd x5 xd;go_wp2_with fail;refine k_ hK ?_;clear hK K;refine st_ fun K hK=>?_;go_wp2_with fail;have CS:=aEs s lo hi _ _ _ _ p w5 (HV.ext hh X5) (aQ5 hh X5.size) HO HP HD;refine CS.mono ?_;clear CS;rintro e w6 ⟨q,rfl,O6,x6⟩;obtain ⟨ta,tc,rfl,tl⟩:=aF.form O6;have y6:=y5.trans x6;have X6:=hid (X5.trans x6);have x9:=hid O6;clear O6 x6 tl;go_wp2_with fail;refine k_ hK ?_;clear hK K y5 y6;refine st_ fun K hK=>?_;go_wp2_with fail;refine l_ hK ?_;clear hK K;refine aC ?_;go_wp2;go_ret;exact ⟨_,rfl,aF.low x9 X5.size,X6⟩
theorem Scn.Ok.seen_le {s:Scn} (ho:s.Ok) (p:Smp):(s.seen p).length<=100000:=by
 have h:=ho.seenTo_le p (aQv s.m);have:=ho.m
 show (s.seenTo p s.m).length<=100000
 omega
theorem pP (s:Scn) (lo hi:Nat) (v:Value) (p:Smp) (w:World) (hv:s.R lo hi w v) (hh:hi<=w.heap.size) (hsm:s.small) (hb:(s.okB&&p.okB s.c)=false) :
  R_ 24 #[v,.agg #[p.x,p.y,p.t,p.lx,p.ly]] w (.slice none 0 0):=by
 have HV:=hid hv;obtain ⟨a1,c1,a2,c2,a3,c3,rfl⟩:=hv.formV;have x6:=hid hsm;have HB:=hid hb
 obtain ⟨b1,x5⟩:=e_ s.okB
 have H1:=hid x5;clear hv hsm hb x5;have x0:Ext w ((w.alloc (.cells (sA_ s a1 c1 a2 c2 a3 c3) 40)).alloc (.cells #[p.x,p.y,p.t,p.lx,p.ly] 42)):=X_;have bS:=(aQ8 w 40 (sL_ s a1 c1 a2 c2 a3 c3)).ext (show Ext _ ((w.alloc (.cells (sA_ s a1 c1 a2 c2 a3 c3) 40)).alloc (.cells #[p.x,p.y,p.t,p.lx,p.ly] 42)) from X_);have bP:=(aQ8 (w.alloc (.cells (sA_ s a1 c1 a2 c2 a3 c3) 40)) 42 [p.x,p.y,p.t,p.lx,p.ly]).ext (show Ext _ ((w.alloc (.cells (sA_ s a1 c1 a2 c2 a3 c3) 40)).alloc (.cells #[p.x,p.y,p.t,p.lx,p.ly] 42)) from X_)
 try simp only [aQy] at bS bP
 obtain ⟨W0,h3⟩:=e_ ((w.alloc (.cells (sA_ s a1 c1 a2 c2 a3 c3) 40)).alloc (.cells #[p.x,p.y,p.t,p.lx,p.ly] 42))
 rw [h3] at x0 bS bP;have h2:=hid x0;have x7:=hid h3;have z0:=bP.lt;have x2:=hid bS;have x1:=hid bP;clear x0 h3 bS bP;go_enter func24,ntmps24;go_upto_region 1 with fail;rw [x7];have bq:=x2.ext (aQ6 _);obtain ⟨h9,q0,q1,q2,q3,q4,q6,q7,q8,q9,h0,h1⟩:=bq.q12;have sl:=bq.lt;clear bq;have bq:=x1.ext (aQ6 _);obtain ⟨h4,h5,h6,h7,h8⟩:=bq.q5;have pl:=bq.lt;clear bq;go_wp2_with fail;have CH:=kH s lo hi _ _ (HV.ext hh h2) (aQ5 hh h2.size) x6;rw [H1] at CH;refine CH.mono ?_;clear CH;rintro e w3 ⟨rfl,x3⟩;have X3:=hid x3;clear x3;clear sl h9 q0 q1 q2 q3 q4 q6 q7 q8 q9 h0 h1 pl h4 h5 h6 h7 h8;have bq:=x2.ext X3;obtain ⟨h9,q0,q1,q2,q3,q4,q6,q7,q8,q9,h0,h1⟩:=bq.q12;have sl:=bq.lt;clear bq;have bq:=x1.ext X3;obtain ⟨h4,h5,h6,h7,h8⟩:=bq.q5;have pl:=bq.lt;clear bq
 cases b1
 ·go_wp2
  go_ret;exact ⟨rfl,h2.trans X3⟩
 ·have hp:p.okB s.c=false:=by
   have:=HB.out;rw [H1] at this;exact this
  have HP:=hid hp;clear hp;go_wp2_with fail;have CH:=jM s.c p w3;rw [HP] at CH;refine CH.mono ?_;clear CH;rintro e w4 ⟨rfl,x4⟩;have X4:=hid x4;clear x4;clear sl h9 q0 q1 q2 q3 q4 q6 q7 q8 q9 h0 h1 pl h4 h5 h6 h7 h8;go_wp2;go_ret;exact ⟨rfl,h2.trans (X3.trans X4)⟩
theorem oK (lo hi:Nat) (v:Value) (s:Scn) (p:Smp) (w:World) {X:List aO} (hX:s.frs p=X) (hv:s.R lo hi w v) (hh:hi<=w.heap.size) (hsm:s.small) :
  Calls aQ2 24 #[v,.agg #[p.x,p.y,p.t,p.lx,p.ly]] w fun e w'=>∃r,e = .returned r/\aF aO.cs w.heap.size 95 5 w' r X/\Ext w w':=by
 rcases Scn.frs_cases hX with ⟨ho,hp,rfl⟩|⟨hb,rfl⟩
 ·exact oH s lo hi v p w hv hh ho hsm hp
 ·refine (pP s lo hi v p w hv hh hsm hb).mono ?_
  rintro e w' ⟨rfl,x⟩;exact ⟨_,rfl,aF.nil _ _ _ _ _,x⟩
def FrO (lo hi:Nat) (w:World) (u:Value) (n:Nat) (vs:List Value):Prop:=w.ownsRow lo 95 5 u n vs/\∀k,u.ownBlock=some k->k<hi
theorem aF.frO {xs:List aO} (h:aF aO.cs lo 95 5 w u xs):FrO lo w.heap.size w u xs.length (xs.flatMap aO.cs):=⟨h,fun k hk=>(aF.lt h k hk).2⟩
theorem FrO.kp (h:FrO lo hi w u n vs) (k:Kp lo hi w w'):FrO lo hi w' u n vs:=by
 obtain ⟨⟨h1,h2⟩,h4⟩:=h;refine ⟨⟨h1,?_⟩,h4⟩
 rcases h2 with hn|⟨g,cap,cur,hv,hb,hg,r⟩
 ·exact .inl hn
 ·exact .inr ⟨g,cap,cur,hv,hb,(k.2 g hb (h4 g (by rw [hv];rfl))).trans hg,r⟩
theorem FrO.form (h:FrO lo hi w u n vs):∃a cap,u = .slice a n cap/\n<=9223372036854775807:=by
 obtain ⟨⟨h1,h2⟩,h3⟩:=h
 rcases h2 with ⟨rfl,rfl⟩|⟨g,cap,cur,rfl,hb,hg,hc,hm,hs,ht⟩
 ·exact ⟨none,0,rfl,by omega⟩
 ·exact ⟨some ⟨g,0,none⟩,cap,rfl,by unfold maxLen at hm;omega⟩
def upV (k0:Int) (c:Nat):List Value:=(aRl c).map fun (j:Nat)=>.int .i64 (k0+(j:Int))
theorem yD (k0:Int) (c:Nat):(upV k0 c).length=c:=by simp [upV]
theorem aLo (k0:Int) (n:Nat):upV k0 (n+1)=upV k0 n++[.int .i64 (k0+n)]:=by simp [upV,aS9]
theorem aOq {k0:Int} {i:Nat} (h:i<n):(upV k0 n)[i]?=some (.int .i64 (k0+i)):=by simp [upV,h]
theorem jN (k0:Int) (xs:List Value) (k:Nat) (h:k<xs.length):(upV k0 k++xs.drop k).set k (.int .i64 (k0+k))=upV k0 (k+1)++xs.drop (k+1):=by
 rw [List.set_append_right _ _ (by rw [yD];omega),yD,Nat.sub_self,List.drop_eq_getElem_cons h,aRb,aLo,aRx]
 rfl
theorem cL {cap:Nat} {a:Option Addr} (h:w.ownsRow lo e sz (.slice a n cap) n vs) (hc:c<n*sz) :
  ∃g y,a=some ⟨g,0,none⟩/\lo<=g/\g<w.heap.size/\vs[c]?=some y/\w.cell? ⟨g,c,none⟩=some y/\w.frozen? ⟨g,c,none⟩=false /\
   ∀x,(w.setCell ⟨g,c,none⟩ x).ownsRow lo e sz (.slice a n cap) n (vs.set c x)/\w.grownBy (w.setCell ⟨g,c,none⟩ x) (some g):=by
 have h0:=h;have h2:vs.length=n*sz:=h.1
 rcases h.2 with ⟨h1,h4⟩|⟨g,cap',cur,h1,hb',hg,hcc,hm,hs,ht⟩
 ·simp only [aRo] at h1
  rw [h1.2.1,aVo] at hc;omega
 ·simp only [aRo] at h1
  obtain ⟨rfl,h1,rfl⟩:=h1
  obtain ⟨y,hy⟩:∃y,vs[c]?=some y:=⟨_,aQ9 (by omega)⟩
  exact ⟨g,y,rfl,hb',(Array.getElem?_eq_some_iff.1 hg).1,hy,(h0.cellAt c (by omega)).trans hy,h0.frozenAt c,fun x=>h0.stored c x⟩
theorem uW (f:aO) (w:World):R_ 60 #[.agg #[f.d,f.s,f.c,f.col,f.al],.agg #[f.d,f.s,f.c,f.col,f.al]] w (.bool true):=by
 go_enter func60,ntmps60;go_wp2;go_ret;exact ⟨rfl,X_⟩
theorem mY (lo hi lo' hi':Nat) (u v:Value) (xs:List aO) (w:World) (hu:FrO lo hi w u xs.length (xs.flatMap aO.cs)) (hv:FrO lo' hi' w v xs.length (xs.flatMap aO.cs)) :
  R_ 19 #[u,v] w (.bool true):=by
 have h2:aF aO.cs lo 95 5 w u xs:=hu.1;have h3:aF aO.cs lo' 95 5 w v xs:=hv.1;obtain ⟨a,c,rfl,-⟩:=h2.form;obtain ⟨b,d,rfl,-⟩:=h3.form;have HU:=hid h2;have HV:=hid h3;clear hu hv h2 h3;go_enter func19,ntmps19;go_wp2_with fail
 go_loopw [5] (fun x wr=>∃k:Nat,k<=xs.length/\x = .int .i64 (k:Nat)/\Ext w wr) (fun x _=>xs.length - (intOf x).toNat)
 case atStart=>exact ⟨0,by omega,rfl,aQ6 _⟩
 case round=>
  obtain ⟨k,hk,rfl,hx⟩:=hrel;have HX:=hid hx
  rcases aSd k xs.length with hlt|hge
  ·obtain ⟨f,hf⟩:∃f,xs[k]?=some f:=⟨_,aQ9 hlt⟩
   obtain ⟨g,cap,he,-,q0,h6,h9,-,h1⟩:=aF.at (HU.ext hx) (fun _=>rfl) hf;simp only [aRo,true_and] at he;obtain ⟨rfl,rfl⟩:=he;obtain ⟨g2,h5,he,-,h8,h4,h7,-,h0⟩:=aF.at (HV.ext hx) (fun _=>rfl) hf;simp only [aRo,true_and] at he;obtain ⟨rfl,rfl⟩:=he;have c0:=h1 0 (by decide);have c1:=h1 1 (by decide);have c2:=h1 2 (by decide);have c3:=h1 3 (by decide);have c4:=h1 4 (by decide);have d0:=h0 0 (by decide);have d1:=h0 1 (by decide);have d2:=h0 2 (by decide);have d3:=h0 3 (by decide);have d4:=h0 4 (by decide);simp only [aO.cs,aSk,aQw,aQx] at c0 c1 c2 c3 c4 d0 d1 d2 d3 d4;clear hx h1 h0 hf;go_wp2_with fail;refine aA [([0,1,2,3,4,5,6,7],8),([],9)] 99 wr.heap.size (by kernel_rfl) (by kernel_rfl) ?_;refine st_ fun K hK=>?_;go_wp2_with fail;refine r_ (uW f _) fun w1 x1=>?_;have y1:Ext wr w1:=aQ3 (aRz (aQ6 _)) x1;have Y1:=hid (HX.trans y1);go_wp2_with fail;refine k_ hK ?_;clear hK K;refine st_ fun K hK=>?_;go_wp2_with fail;refine k_ hK ?_;clear hK K x1 y1;refine aC ?_;go_wp2;go_roundw
   case rel=>exact ⟨k+1,by omega,by go_num,Y1⟩
   case measure=>simp [intOf];omega
  ·go_wp2
   go_ret;exact ⟨rfl,HX⟩
theorem aEt (lo hi:Nat) (u:Value) (xs:List aO) (k0:Int) (w:World) (hu:FrO lo hi w u xs.length (xs.flatMap aO.cs)) (hl:lo<=w.heap.size) (h0:0<=k0) (hsz:k0+(xs.length*5:Nat)<=1152921504606846976) :
  Calls aQ2 21 #[u,k0] w fun e w'=>e = .returned (.int .i64 (k0+(xs.length*5:Nat)))/\FrO lo hi w' u xs.length (upV k0 (xs.length*5))/\jP lo hi w w':=by
 obtain ⟨a,cap,rfl,h9⟩:=hu.form;have HU:=hid hu;have h6:=hid (show (xs.flatMap aO.cs).length=xs.length*5 from gM xs)
 obtain ⟨n,hn⟩:=e_ xs.length
 obtain ⟨vs,q4⟩:=e_ (xs.flatMap aO.cs)
 rw [hn] at h9 hsz h6 HU ⊢;rw [q4] at HU h6;clear hu hn q4;go_enter func21,ntmps21;go_wp2
 go_loopw [1,5] (fun q i wr=>∃k:Nat,k<=n/\i = .int .i64 (k:Nat)/\q = .int .i64 (k0+(k*5:Nat))/\wr.ownsRow lo 95 5 (.slice a n cap) n (upV k0 (k*5)++vs.drop (k*5))/\w.grownBy wr (aR9 a n cap).ownBlock) (fun _ i _=>n - (intOf i).toNat)
 case atStart=>exact ⟨0,by omega,rfl,by simp,by simpa [upV] using HU.1,grownBy.refl _ _⟩
 case round=>
  obtain ⟨k,hk,rfl,rfl,h1,hg⟩:=hrel
  by_cases x6:k<n
  ·have q5:k0+((k*5:Nat):Int)+5<=1152921504606846976:=by omega
   obtain ⟨j,hj⟩:=e_ (k*5)
   have q2:(k+1)*5=j+5:=by omega
   have q8:j+5<=n*5:=by omega
   rw [hj] at h1 q5 ⊢;have q9:=h6.out;obtain ⟨g,y0,rfl,x0,x5,-,x1,x3,q3⟩:=cL h1 (c:=j) (by omega);obtain ⟨o1,g1⟩:=q3 (.int .i64 (k0+(j:Nat)));rw [jN _ _ _ (by omega)] at o1;obtain ⟨g',y1,e1,_,_,-,x2,x4,h2⟩:=cL o1 (c:=j+1) (by omega);simp only [aQ0,aR1,and_true] at e1;subst e1;obtain ⟨o2,g2⟩:=h2 (.int .i64 (k0+((j+1:Nat):Int)));rw [jN _ _ _ (by omega)] at o2;replace o2:aYq _ _ _ _ _ _ (upV k0 (j+2)++vs.drop (j+2)):=o2;obtain ⟨g',y2,e2,_,_,-,q6,q7,h3⟩:=cL o2 (c:=j+2) (by omega);simp only [aQ0,aR1,and_true] at e2;subst e2;obtain ⟨o3,g3⟩:=h3 (.int .i64 (k0+((j+2:Nat):Int)));rw [jN _ _ _ (by omega)] at o3;replace o3:aYq _ _ _ _ _ _ (upV k0 (j+3)++vs.drop (j+3)):=o3;obtain ⟨g',y3,e3,_,_,-,q0,q1,h4⟩:=cL o3 (c:=j+3) (by omega);simp only [aQ0,aR1,and_true] at e3;subst e3;obtain ⟨o4,g4⟩:=h4 (.int .i64 (k0+((j+3:Nat):Int)));rw [jN _ _ _ (by omega)] at o4;replace o4:aYq _ _ _ _ _ _ (upV k0 (j+4)++vs.drop (j+4)):=o4;obtain ⟨g',y4,e4,_,_,-,h7,h8,h5⟩:=cL o4 (c:=j+4) (by omega);simp only [aQ0,aR1,and_true] at e4;subst e4;obtain ⟨o5,g5⟩:=h5 (.int .i64 (k0+((j+4:Nat):Int)));rw [jN _ _ _ (by omega)] at o5;replace o5:aYq _ _ _ _ _ _ (upV k0 (j+5)++vs.drop (j+5)):=o5
   have E1:k0+((j+1:Nat):Int)=k0+(j:Nat)+1:=by omega
   have E2:k0+((j+2:Nat):Int)=k0+(j:Nat)+1+1:=by omega
   have E3:k0+((j+3:Nat):Int)=k0+(j:Nat)+1+1+1:=by omega
   have E4:k0+((j+4:Nat):Int)=k0+(j:Nat)+1+1+1+1:=by omega
   rw [E1] at q6 q7 q0 q1 h7 h8 o5 g2 g3 g4 g5;rw [E2] at q0 q1 h7 h8 o5 g3 g4 g5;rw [E3] at h7 h8 o5 g4 g5;rw [E4] at  o5 g5;have HO:=hid o5;have HG:=hid (grownBy.trans hg (grownBy.trans g1 (grownBy.trans g2 (grownBy.trans g3 (grownBy.trans g4 g5)))));have HJ:=hid q2;clear q3 h2 h3 h4 h5 o1 o2 o3 o4 o5 g1 g2 g3 g4 g5 hg h1 E1 E2 E3 E4 q9 q2 q8;go_wp2;go_roundw
   case rel=>exact ⟨k+1,by omega,by go_num,by congr 1;have:=HJ.out;omega,by rw [HJ];exact HO,HG⟩
   case measure=>simp [intOf];omega
  ·obtain rfl:k=n:=by omega
   have hd:vs.drop (k*5)=[]:=List.drop_eq_nil_of_le (by rw [h6];exact aQv _);rw [hd,aTo] at h1;go_wp2;go_ret;exact ⟨rfl,⟨h1,HU.2⟩,jP.of hg (fun k hk=>⟨(HU.1.lt k hk).1,HU.2 k hk⟩) hl⟩
theorem sM (lo hi:Nat) (u:Value) (n:Nat) (k0:Int) (w:World) (hu:FrO lo hi w u n (upV k0 (n*5))) (h0:0<=k0) (hsz:k0+(n*5:Nat)<=1152921504606846976) :
  R_ 22 #[u,k0] w (.int .i64 (k0+(n*5:Nat))):=by
 obtain ⟨a,cap,rfl,h3⟩:=hu.form;have HU:=hid hu.1;clear hu;go_enter func22,ntmps22;go_wp2
 go_loopw [1,5] (fun q i wr=>∃k:Nat,k<=n/\i = .int .i64 (k:Nat)/\q = .int .i64 (k0+(k*5:Nat))/\wr=w) (fun _ i _=>n - (intOf i).toNat)
 case atStart=>exact ⟨0,by omega,rfl,by simp,rfl⟩
 case round=>
  obtain ⟨k,hk,rfl,rfl,rfl⟩:=hrel
  by_cases h7:k<n
  ·have h2:k0+((k*5:Nat):Int)+5<=1152921504606846976:=by omega
   obtain ⟨j,hj⟩:=e_ (k*5)
   have h1:(k+1)*5=j+5:=by omega
   have h6:j+5<=n*5:=by omega
   rw [hj] at h2 ⊢;obtain ⟨g,y0,rfl,h4,h5,q0,c0,-,-⟩:=cL HU (c:=j) (by omega);obtain ⟨g1,y1,e1,_,_,q1,c1,-,-⟩:=cL HU (c:=j+1) (by omega);obtain ⟨g2,y2,e2,_,_,q2,c2,-,-⟩:=cL HU (c:=j+2) (by omega);obtain ⟨g3,y3,e3,_,_,q3,c3,-,-⟩:=cL HU (c:=j+3) (by omega);obtain ⟨g4,y4,e4,_,_,q4,c4,-,-⟩:=cL HU (c:=j+4) (by omega);simp only [aQ0,aR1,and_true] at e1 e2 e3 e4;subst e1 e2 e3 e4;rw [aOq (by omega)] at q0 q1 q2 q3 q4;simp only [aQ0] at q0 q1 q2 q3 q4;subst q0 q1 q2 q3 q4
   have E1:k0+((j+1:Nat):Int)=k0+(j:Nat)+1:=by omega
   have E2:k0+((j+2:Nat):Int)=k0+(j:Nat)+1+1:=by omega
   have E3:k0+((j+3:Nat):Int)=k0+(j:Nat)+1+1+1:=by omega
   have E4:k0+((j+4:Nat):Int)=k0+(j:Nat)+1+1+1+1:=by omega
   rw [E1] at c1;rw [E2] at c2;rw [E3] at c3;rw [E4] at c4;have HJ:=hid h1;clear E1 E2 E3 E4 h1;go_wp2;go_roundw
   case rel=>exact ⟨k+1,by omega,by go_num,by congr 1;have:=HJ.out;omega,by first|rfl|trivial⟩
   case measure=>simp [intOf];omega
  ·obtain rfl:k=n:=by omega
   go_wp2;go_ret;exact ⟨rfl,aQ6 _⟩
def Smp.I (p:Smp):Prop:=I64 p.x/\I64 p.y/\I64 p.t/\I64 p.lx/\I64 p.ly
def aPm:Prop:=True
theorem mZ (p:Smp) (w:World):Calls aQ2 12 #[.agg #[p.x,p.y,p.t,p.lx,p.ly]] w fun e w'=>e = .returned (.agg #[p.x,p.y,p.t,p.lx,p.ly])/\aPm/\Ext w w':=by
 go_enter func12,ntmps12;go_wp2;exact bodyPost_ret (v:=.agg #[p.x,p.y,p.t,p.lx,p.ly]) (by simp [results,results12,go_sem]) rfl ⟨rfl,trivial,X_⟩
structure Shp (lo hi:Nat) (w w':World):Prop where
 part:jP lo hi w w'
 fr:∀b o,lo<=b->b<hi->w'.frozen? ⟨b,o,none⟩=w.frozen? ⟨b,o,none⟩
 sl:∀b o a n c,lo<=b->b<hi->w.cell? ⟨b,o,none⟩=some (.slice a n c)->w'.cell? ⟨b,o,none⟩=some (.slice a n c)
 int:∀b o x,lo<=b->b<hi->w.cell? ⟨b,o,none⟩=some (.int .i64 x)->∃y,w'.cell? ⟨b,o,none⟩=some (.int .i64 y)
 str:∀b o x,lo<=b->b<hi->w.cell? ⟨b,o,none⟩=some (.string x)->∃y,w'.cell? ⟨b,o,none⟩=some (.string y)
theorem Shp.size (h:Shp lo hi w w'):w.heap.size<=w'.heap.size:=h.part.size
theorem Shp.of (e:Ext w w') (hh:hi<=w.heap.size) (hl:lo<=hi):Shp lo hi w w' where
 part:=jP.of (row:=none) ⟨e.os,e.tape,e.output,e.size,fun i h _=>e.block h⟩ (fun k h=>by cases h) (by omega)
 fr b o h1 h2:=e.cells.2 b o (by omega)
 sl b o a n c h1 h2 h:=(e.cells.1 b o (by omega)).trans h
 int b o x h1 h2 h:=⟨x,(e.cells.1 b o (by omega)).trans h⟩
 str b o x h1 h2 h:=⟨x,(e.cells.1 b o (by omega)).trans h⟩
theorem Shp.refl (hh:hi<=w.heap.size) (hl:lo<=hi):Shp lo hi w w:=Shp.of (aQ6 w) hh hl
theorem Shp.trans {w1 w2:World} (h:Shp lo hi w w1) (k:Shp lo hi w1 w2):Shp lo hi w w2 where
 part:=h.part.trans k.part
 fr b o h1 h2:=(k.fr b o h1 h2).trans (h.fr b o h1 h2)
 sl b o a n c h1 h2 e:=k.sl b o a n c h1 h2 (h.sl b o a n c h1 h2 e)
 int b o x h1 h2 e:=by obtain ⟨y,hy⟩:=h.int b o x h1 h2 e;exact k.int b o y h1 h2 hy
 str b o x h1 h2 e:=by obtain ⟨y,hy⟩:=h.str b o x h1 h2 e;exact k.str b o y h1 h2 hy
theorem jP.set (h1:lo<=b) (h2:b<hi) (hl:lo<=w.heap.size) (v:Value):jP lo hi w (w.setCell ⟨b,o,none⟩ v):=
 jP.of (row:=some b) ⟨rfl,rfl,rfl,by simp,fun k _ hne=>aQ7 _ _ _ _ (by simpa using hne)⟩ (fun k h=>by injection h with h;omega) hl
theorem Shp.setInt (h1:lo<=b) (h2:b<hi) (hl:lo<=w.heap.size) (hc:w.cell? ⟨b,o,none⟩=some (.int .i64 x)) (y:Int):Shp lo hi w (w.setCell ⟨b,o,none⟩ y) where
 part:=jP.set h1 h2 hl _
 fr b' o' _ _:=aSs _ _ _ _
 sl b' o' a n c _ _ e:=by
  refine (aSl _ _ _ _ (fun hh=>?_)).trans e;rw [hh] at hc;rw [hc] at e;cases e
 int b' o' z _ _ e:=by
  by_cases hh:(⟨b,o,none⟩:Addr)=⟨b',o',none⟩
  ·rw [<-hh];exact ⟨y,aUh _ _ _ hc⟩
  ·exact ⟨z,(aSl _ _ _ _ hh).trans e⟩
 str b' o' z _ _ e:=by
  refine ⟨z,(aSl _ _ _ _ (fun hh=>?_)).trans e⟩;rw [hh] at hc;rw [hc] at e;cases e
theorem Shp.setStr {x:ByteArray} (h1:lo<=b) (h2:b<hi) (hl:lo<=w.heap.size) (hc:w.cell? ⟨b,o,none⟩=some (.string x)) (y:ByteArray):Shp lo hi w (w.setCell ⟨b,o,none⟩ (.string y)) where
 part:=jP.set h1 h2 hl _
 fr b' o' _ _:=aSs _ _ _ _
 sl b' o' a n c _ _ e:=by
  refine (aSl _ _ _ _ (fun hh=>?_)).trans e;rw [hh] at hc;rw [hc] at e;cases e
 str b' o' z _ _ e:=by
  by_cases hh:(⟨b,o,none⟩:Addr)=⟨b',o',none⟩
  ·rw [<-hh];exact ⟨y,aUh _ _ _ hc⟩
  ·exact ⟨z,(aSl _ _ _ _ hh).trans e⟩
 int b' o' z _ _ e:=by
  refine ⟨z,(aSl _ _ _ _ (fun hh=>?_)).trans e⟩;rw [hh] at hc;rw [hc] at e;cases e
def CI (lo hi:Nat) (w:World) (b o:Nat):Prop:=lo<=b/\b<hi/\(∃x,w.cell? ⟨b,o,none⟩=some (.int .i64 x))/\w.frozen? ⟨b,o,none⟩=false
def CS (lo hi:Nat) (w:World) (b o:Nat):Prop:=lo<=b/\b<hi/\(∃x,w.cell? ⟨b,o,none⟩=some (.string x))/\w.frozen? ⟨b,o,none⟩=false
theorem CI.shp (h:CI lo hi w b o) (s:Shp lo hi w w'):CI lo hi w' b o:=by
 obtain ⟨h1,h2,⟨x,h3⟩,h4⟩:=h;exact ⟨h1,h2,s.int b o x h1 h2 h3,(s.fr b o h1 h2).trans h4⟩
theorem CS.shp (h:CS lo hi w b o) (s:Shp lo hi w w'):CS lo hi w' b o:=by
 obtain ⟨h1,h2,⟨x,h3⟩,h4⟩:=h;exact ⟨h1,h2,s.str b o x h1 h2 h3,(s.fr b o h1 h2).trans h4⟩
def kJ (lo hi:Nat) (w:World) (v:Value) (n:Nat):Prop:=
 ∃a cap,v = .slice a n cap/\n<=cap/\cap<=9223372036854775807/\∀i,i<n->∃b off,a=some ⟨b,off,none⟩/\CI lo hi w b (off+i)
theorem kJ.shp (h:kJ lo hi w v n) (s:Shp lo hi w w'):kJ lo hi w' v n:=by
 obtain ⟨a,cap,h1,h2,h3,h4⟩:=h;refine ⟨a,cap,h1,h2,h3,fun i hi=>?_⟩;obtain ⟨b,h0,e,hc⟩:=h4 i hi;exact ⟨b,h0,e,hc.shp s⟩
def tR (lo hi:Nat) (w:World) (v:Value) (n:Nat):Prop:=
 ∃a cap,v = .slice a n cap/\n<=cap/\cap<=9223372036854775807/\∀i,i<n->∃b off a' m c',a=some ⟨b,off,none⟩/\CI lo hi w b (off+i*4)/\CS lo hi w b (off+i*4+1)/\CI lo hi w b (off+i*4+2)/\w.cell? ⟨b,off+i*4+3,none⟩=some (.slice a' m c')/\m<=1048576/\kJ lo hi w (.slice a' m c') m
theorem tR.shp (h:tR lo hi w v n) (s:Shp lo hi w w'):tR lo hi w' v n:=by
 obtain ⟨a,cap,h1,h2,h3,h4⟩:=h;refine ⟨a,cap,h1,h2,h3,fun i hi=>?_⟩;obtain ⟨b,h0,a',m,c',e,k0,k1,k2,k3,k4,k5⟩:=h4 i hi;exact ⟨b,h0,a',m,c',e,k0.shp s,k1.shp s,k2.shp s,s.sl _ _ _ _ _ k0.1 k0.2.1 k3,k4,k5.shp s⟩
def mD (lo hi:Nat) (w:World) (v:Value) (n:Nat):Prop:=
 ∃a cap,v = .slice a n cap/\n<=cap/\cap<=9223372036854775807/\∀i,i<n->∃b off,a=some ⟨b,off,none⟩/\CS lo hi w b (off+i*2)/\CI lo hi w b (off+i*2+1)
theorem mD.shp (h:mD lo hi w v n) (s:Shp lo hi w w'):mD lo hi w' v n:=by
 obtain ⟨a,cap,h1,h2,h3,h4⟩:=h;refine ⟨a,cap,h1,h2,h3,fun i hi=>?_⟩;obtain ⟨b,h0,e,k0,k1⟩:=h4 i hi;exact ⟨b,h0,e,k0.shp s,k1.shp s⟩
def nG (lo hi:Nat) (w:World) (v:Value) (n:Nat):Prop:=
 ∃a cap,v = .slice a n cap/\n<=cap/\cap<=9223372036854775807/\∀i,i<n->∃b off a1 m1 c1 a2 m2 c2,a=some ⟨b,off,none⟩/\lo<=b/\b<hi/\w.cell? ⟨b,off+i*2,none⟩=some (.slice a1 m1 c1)/\w.cell? ⟨b,off+i*2+1,none⟩=some (.slice a2 m2 c2)/\m1<=1048576/\m2<=1048576/\tR lo hi w (.slice a1 m1 c1) m1/\mD lo hi w (.slice a2 m2 c2) m2
theorem nG.shp (h:nG lo hi w v n) (s:Shp lo hi w w'):nG lo hi w' v n:=by
 obtain ⟨a,cap,h1,h2,h3,h4⟩:=h;refine ⟨a,cap,h1,h2,h3,fun i hi=>?_⟩;obtain ⟨b,h0,a1,m1,c1,a2,m2,c2,e,l1,l2,k1,k2,z1,z2,k3,k4⟩:=h4 i hi;exact ⟨b,h0,a1,m1,c1,a2,m2,c2,e,l1,l2,s.sl _ _ _ _ _ l1 l2 k1,s.sl _ _ _ _ _ l1 l2 k2,z1,z2,k3.shp s,k4.shp s⟩
def sN (lo hi:Nat) (w:World) (v:Value) (n:Nat):Prop:=
 ∃a cap,v = .slice a n cap/\n<=cap/\cap<=9223372036854775807/\∀i,i<n->∃b off,a=some ⟨b,off,none⟩/\CI lo hi w b (off+i*26+24)/\CI lo hi w b (off+i*26+25)
theorem sN.shp (h:sN lo hi w v n) (s:Shp lo hi w w'):sN lo hi w' v n:=by
 obtain ⟨a,cap,h1,h2,h3,h4⟩:=h;refine ⟨a,cap,h1,h2,h3,fun i hi=>?_⟩;obtain ⟨b,h0,e,k0,k1⟩:=h4 i hi;exact ⟨b,h0,e,k0.shp s,k1.shp s⟩
def aEu (k r:Nat):Prop:=k<10 ^ (19 - r)/\k<4611686018427387904
theorem aEu.next {r:Nat} (h:aEu k r) (hk:k≠0):r≠19/\aEu (k / 10) (r+1)/\k<4611686018427387904:=by
 unfold aEu at *;obtain ⟨h,h2⟩:=h
 have hr:r<19:=by
  by_cases e:r<19
  ·exact e
  ·rw [show 19 - r=0 by omega] at h
   simp at h;omega
 refine ⟨by omega,⟨?_,by omega⟩,h2⟩;rw [show 19 - r=(19 - (r+1))+1 by omega,Nat.pow_succ] at h;exact aTg (by rw [Nat.mul_comm];exact h)
theorem aEu.start (h:k<4611686018427387904):aEu k 0:=⟨by omega,h⟩
theorem aG2 (k0:Nat) (w:World) (h:k0<4611686018427387904):Calls aQ2 172 #[k0] w fun e w'=>(∃s:ByteArray,e = .returned (.string s))/\Ext w w':=by
 by_cases h0:k0=0
 ·subst h0
  go_enter func172,ntmps172;go_wp2;go_ret;exact ⟨⟨_,rfl⟩,aQ6 _⟩
 ·go_enter func172,ntmps172
  have hz:=hid h;clear h;go_wp2
  go_loopw [0,3] (fun kv sv wr=>∃(k r:Nat) (s:ByteArray),kv = .int .i64 k/\sv = .string s/\s.size<=r/\r<=19/\aEu k r/\Ext w wr) (fun kv _ _=>(intOf kv).toNat)
  case atStart=>exact ⟨k0,0,_,rfl,rfl,by decide,by omega,aEu.start hz.out,aQ6 _⟩
  case round=>
   obtain ⟨k,r,s,rfl,rfl,hs,hr,hk,hx⟩:=hrel
   by_cases h3:k=0
   ·subst h3
    clear hk;go_wp2;go_ret;exact ⟨⟨_,rfl⟩,hx⟩
   ·obtain ⟨q1,h1,h4⟩:=hk.next h3
    replace h1:=hid h1;have HX:=hid hx
    have h2:(k:Int)<4611686018427387904:=by omega
    clear hk hx h4;clear hz
    obtain ⟨dd,h6,h7,h8⟩:∃d:Int,(k:Int).tmod 10=d/\0<=d/\d<10:=⟨_,rfl,Int.tmod_nonneg _ (by omega),Int.tmod_lt_of_pos _ (by decide)⟩
    have hw:Hid (wrap64 ((k:Int) / 10)=((k / 10:Nat):Int)):=by show _=_;rw [IntWalk.wrap64_in _ ⟨by omega,by omega⟩];omega
    have hq:(k:Int).tdiv 10=((k / 10:Nat):Int):=by
     rw [aTb (by omega)];omega
    clear h2;obtain ⟨r1,h9,h5⟩:=aO3 wr (48+dd);have q0:(r1++s).size=r1.size+s.size:=ByteArray.size_append;go_wp2;go_roundw
    case rel=>exact ⟨k / 10,r+1,r1++s,by first|rfl|trivial|rw [hw.out],rfl,by omega,by omega,h1.out,HX.alloc _⟩
    case measure=>
     rw [hw.out];simp [intOf];omega
theorem uQ (k0:Int) (w:World) (h0:0<=k0) (h:k0<4611686018427387904):Calls aQ2 172 #[k0] w fun e w'=>(∃s:ByteArray,e = .returned (.string s))/\Ext w w':=by
 obtain ⟨k,rfl⟩:∃k:Nat,k0=k:=⟨k0.toNat,by omega⟩
 exact aG2 k w (by omega)
theorem sO (lo hi:Nat) (v:Value) (n:Nat) (k0:Int) (w:World) (h:kJ lo hi w v n) (hh:hi<=w.heap.size) (hl:lo<=hi) (h0:0<=k0) (h1:k0+n<=4611686018427387904) :
  Calls aQ2 108 #[v,k0] w fun e w'=>e = .returned (.int .i64 (k0+n))/\Shp lo hi w w':=by
 have H:=hid h;obtain ⟨a,cap,rfl,z1,z2,-⟩:=h;go_enter func108,ntmps108;go_wp2
 go_loopw [1,5] (fun q i wr=>∃k:Nat,k<=n/\i = .int .i64 k/\q = .int .i64 (k0+(k:Nat))/\Shp lo hi w wr) (fun _ i _=>n - (intOf i).toNat)
 case atStart=>exact ⟨0,by omega,rfl,by simp,Shp.refl hh hl⟩
 case round=>
  obtain ⟨k,hk,rfl,rfl,hs⟩:=hrel
  by_cases h4:k<n
  ·obtain ⟨a',h3,e',-,-,h2⟩:=H.shp hs
   simp only [aRo] at e';obtain ⟨rfl,-,rfl⟩:=e';obtain ⟨b,off,rfl,l1,l2,⟨x,c⟩,f⟩:=h2 k h4
   have bl:b<wr.heap.size:=by have:=hs.size;omega
   have HS:=hid hs;have HC:=hid c
   have zl:lo<=wr.heap.size:=by omega
   clear hs h2;go_wp2;go_roundw
   case rel=>exact ⟨k+1,by omega,by go_num,by congr 1;omega,HS.trans (Shp.setInt l1 l2 zl HC _)⟩
   case measure=>simp [intOf];omega
  ·obtain rfl:k=n:=by omega
   go_wp2;go_ret;exact ⟨rfl,hs⟩
theorem aCs (lo hi:Nat) (v:Value) (n:Nat) (k0:Int) (w:World) (h:mD lo hi w v n) (hh:hi<=w.heap.size) (hl:lo<=hi) (h0:0<=k0) (h1:k0+n*2<=4611686018427380000) :
  Calls aQ2 110 #[v,k0] w fun e w'=>(∃r,e = .returned (.int .i64 r)/\k0<=r/\r<=k0+n*2)/\Shp lo hi w w':=by
 have H:=hid h;obtain ⟨a,cap,rfl,z1,z2,-⟩:=h;go_enter func110,ntmps110;go_wp2
 go_loopw [1,5] (fun q i wr=>∃(k:Nat) (r:Int),k<=n/\i = .int .i64 k/\q = .int .i64 r/\k0<=r/\r<=k0+k*2/\Shp lo hi w wr) (fun _ i _=>n - (intOf i).toNat)
 case atStart=>exact ⟨0,k0,by omega,rfl,rfl,by omega,by omega,Shp.refl hh hl⟩
 case round=>
  obtain ⟨k,r,hk,rfl,rfl,q1,q2,hs⟩:=hrel
  by_cases h7:k<n
  ·obtain ⟨a',h5,e',-,-,h3⟩:=H.shp hs
   simp only [aRo] at e';obtain ⟨rfl,-,rfl⟩:=e';obtain ⟨b,h8,rfl,C0,C1⟩:=h3 k h7;have zs:=hs.size;have h6:=hid C0;obtain ⟨l1,l2,-⟩:=C0
   have bl:b<wr.heap.size:=by omega
   have HS:=hid hs;have h2:=hid C1
   have zl:lo<=wr.heap.size:=by omega
   have zh:hi<=wr.heap.size:=by omega
   clear hs h3 C1;go_wp2_with fail;refine (uQ r _ (by omega) (by omega)).mono ?_;rintro e w2 ⟨⟨s2,rfl⟩,x2⟩;have S2:=Shp.of x2 zh hl;have z2:=x2.size;obtain ⟨-,-,⟨y0,d0⟩,f0⟩:=h6.out.shp S2;obtain ⟨-,-,⟨y1,d1⟩,f1⟩:=h2.out.shp S2;have S3:=Shp.setStr l1 l2 (show lo<=w2.heap.size by omega) d0 s2;obtain ⟨-,-,⟨y2,d2⟩,-⟩:=h2.out.shp (S2.trans S3);have S4:=Shp.setInt l1 l2 (show lo<=(w2.setCell ⟨b,h8+k*2,none⟩ (.string s2)).heap.size by simp;omega) d2 (r+1);have h4:=hid (HS.trans (S2.trans (S3.trans S4)))
   have h9:b<w2.heap.size:=by omega
   clear HS S2 S3 S4 x2 d2;go_wp2;go_roundw
   case rel=>exact ⟨k+1,r+1+1,by omega,by go_num,rfl,by omega,by omega,h4⟩
   case measure=>simp [intOf];omega
  ·obtain rfl:k=n:=by omega
   go_wp2;go_ret;exact ⟨⟨_,rfl,q1,q2⟩,hs⟩
theorem zY (lo hi:Nat) (v:Value) (n:Nat) (k0:Int) (w:World) (h:tR lo hi w v n) (hh:hi<=w.heap.size) (hl:lo<=hi) (h0:0<=k0) (h1:k0+n*1048579<=4611686018427380000) :
  Calls aQ2 109 #[v,k0] w fun e w'=>(∃r,e = .returned (.int .i64 r)/\k0<=r/\r<=k0+n*1048579)/\Shp lo hi w w':=by
 have H:=hid h;obtain ⟨a,cap,rfl,z1,z2,-⟩:=h;go_enter func109,ntmps109;go_wp2
 go_loopw [1,5] (fun q i wr=>∃(k:Nat) (r:Int),k<=n/\i = .int .i64 k/\q = .int .i64 r/\k0<=r/\r<=k0+k*1048579/\Shp lo hi w wr) (fun _ i _=>n - (intOf i).toNat)
 case atStart=>exact ⟨0,k0,by omega,rfl,rfl,by omega,by omega,Shp.refl hh hl⟩
 case round=>
  obtain ⟨k,r,hk,rfl,rfl,q1,q2,hs⟩:=hrel
  by_cases q3:k<n
  ·obtain ⟨a',h7,e',-,-,h5⟩:=H.shp hs
   simp only [aRo] at e';obtain ⟨rfl,-,rfl⟩:=e';obtain ⟨b,q4,au,m,cu,rfl,C0,C1,C2,c3,hm,hI⟩:=h5 k q3;have zs:=hs.size;obtain ⟨l1,l2,⟨x0,c0⟩,f0⟩:=C0
   have bl:b<wr.heap.size:=by omega
   have HS:=hid hs;have h8:=hid C1;have h4:=hid C2;have h9:=hid c3;have q0:=hid hI
   have zl:lo<=wr.heap.size:=by omega
   have zh:hi<=wr.heap.size:=by omega
   have S1:=Shp.setInt l1 l2 zl c0 r;have h3:=hid S1;clear hs h5 C1 C2 c3 hI S1;go_wp2_with fail;refine (uQ (r+1) _ (by omega) (by omega)).mono ?_;rintro e w2 ⟨⟨s2,rfl⟩,x2⟩;have z2:=x2.size;rw [aSg] at z2;have S2:=h3.trans (Shp.of x2 (by simp;omega) hl);obtain ⟨-,-,⟨y1,d1⟩,f1⟩:=h8.out.shp S2;obtain ⟨-,-,⟨y2,d2⟩,f2⟩:=h4.out.shp S2;have d3:=S2.sl _ _ _ _ _ l1 l2 h9.out;have S3:=Shp.setStr l1 l2 (show lo<=w2.heap.size by omega) d1 s2;obtain ⟨-,-,⟨y3,d4⟩,-⟩:=h4.out.shp (S2.trans S3);have S4:=Shp.setInt l1 l2 (show lo<=(w2.setCell ⟨b,q4+k*4+1,none⟩ (.string s2)).heap.size by simp;omega) d4 (r+1+1);have h2:=hid (S2.trans (S3.trans S4))
   have q5:b<w2.heap.size:=by omega
   clear h3 S2 S3 S4 x2 d4 c0 f0;go_wp2_with fail;refine r_ (sO lo hi _ m _ _ (q0.out.shp h2) (by simp;omega) hl (by omega) (by omega)) fun w5 S5=>?_;have h6:=hid (HS.trans (h2.trans S5));clear S5 h2 HS d1 d2 d3 f1 f2;go_wp2;go_roundw
   case rel=>exact ⟨k+1,_,by omega,by go_num,rfl,by omega,by omega,h6⟩
   case measure=>simp [intOf];omega
  ·obtain rfl:k=n:=by omega
   go_wp2;go_ret;exact ⟨⟨_,rfl,q1,q2⟩,hs⟩
theorem tS (lo hi:Nat) (v:Value) (n:Nat) (k0:Int) (w:World) (h:nG lo hi w v n) (hn:n<=1048576) (hh:hi<=w.heap.size) (hl:lo<=hi) (h0:0<=k0) (h1:k0<=1000000000000000000) :
  Calls aQ2 62 #[v,k0] w fun e w'=>(∃r,e = .returned (.int .i64 r)/\k0<=r/\r<=k0+n*1100000000000)/\Shp lo hi w w':=by
 have H:=hid h;obtain ⟨a,cap,rfl,z1,z2,-⟩:=h;go_enter func62,ntmps62;go_wp2
 go_loopw [1,5] (fun q i wr=>∃(k:Nat) (r:Int),k<=n/\i = .int .i64 k/\q = .int .i64 r/\k0<=r/\r<=k0+k*1100000000000/\Shp lo hi w wr) (fun _ i _=>n - (intOf i).toNat)
 case atStart=>exact ⟨0,k0,by omega,rfl,rfl,by omega,by omega,Shp.refl hh hl⟩
 case round=>
  obtain ⟨k,r,hk,rfl,rfl,q1,q2,hs⟩:=hrel
  by_cases h9:k<n
  ·obtain ⟨a',h5,e',-,-,h3⟩:=H.shp hs
   simp only [aRo] at e';obtain ⟨rfl,-,rfl⟩:=e';obtain ⟨b,q3,a1,m1,c1,a2,m2,c2,rfl,l1,l2,d0,d1,s1,s2,hN,hA⟩:=h3 k h9;have zs:=hs.size
   have bl:b<wr.heap.size:=by omega
   have HS:=hid hs;have h7:=hid hN;have h6:=hid hA;have h8:=hid d1
   have zh:hi<=wr.heap.size:=by omega
   clear hs h3 hN hA d1;go_wp2_with fail;refine (zY lo hi _ m1 _ _ h7.out zh hl (by omega) (by omega)).mono ?_;rintro e w2 ⟨⟨r2,rfl,g1,g2⟩,S2⟩;have d2:=S2.sl _ _ _ _ _ l1 l2 h8.out;have z2:=S2.size
   have q0:b<w2.heap.size:=by omega
   have h2:=hid S2;clear S2 d0;go_wp2_with fail;refine (aCs lo hi _ m2 _ _ (h6.out.shp h2) (by omega) hl (by omega) (by omega)).mono ?_;rintro e w3 ⟨⟨r3,rfl,g3,g4⟩,S3⟩;have h4:=hid (HS.trans (h2.trans S3));clear S3 h2 HS d2;go_wp2;go_roundw
   case rel=>exact ⟨k+1,_,by omega,by go_num,rfl,by omega,by omega,h4⟩
   case measure=>simp [intOf];omega
  ·obtain rfl:k=n:=by omega
   go_wp2;go_ret;exact ⟨⟨_,rfl,q1,q2⟩,hs⟩
theorem tT (lo hi:Nat) (v:Value) (n:Nat) (k0:Int) (w:World) (h:sN lo hi w v n) (hn:n<=1048576) (hh:hi<=w.heap.size) (hl:lo<=hi) (h0:0<=k0) (h1:k0<=4000000000000000000) :
  Calls aQ2 63 #[v,k0] w fun e w'=>(∃r,e = .returned (.int .i64 r)/\k0<=r)/\Shp lo hi w w':=by
 have H:=hid h;obtain ⟨a,cap,rfl,z1,z2,-⟩:=h;go_enter func63,ntmps63;go_wp2
 go_loopw [1,5] (fun q i wr=>∃(k:Nat) (r:Int),k<=n/\i = .int .i64 k/\q = .int .i64 r/\k0<=r/\r<=k0+k*2/\Shp lo hi w wr) (fun _ i _=>n - (intOf i).toNat)
 case atStart=>exact ⟨0,k0,by omega,rfl,rfl,by omega,by omega,Shp.refl hh hl⟩
 case round=>
  obtain ⟨k,r,hk,rfl,rfl,q1,q2,hs⟩:=hrel
  by_cases h5:k<n
  ·obtain ⟨a',h4,e',-,-,h2⟩:=H.shp hs
   simp only [aRo] at e';obtain ⟨rfl,-,rfl⟩:=e';obtain ⟨b,h6,rfl,C0,C1⟩:=h2 k h5;have zs:=hs.size;obtain ⟨l1,l2,⟨x0,c0⟩,f0⟩:=C0
   have bl:b<wr.heap.size:=by omega
   have HS:=hid hs
   have zl:lo<=wr.heap.size:=by omega
   have S1:=Shp.setInt l1 l2 zl c0 r;obtain ⟨-,-,⟨y2,d2⟩,-⟩:=C1.shp S1;have S2:=Shp.setInt l1 l2 (show lo<=(wr.setCell ⟨b,h6+k*26+24,none⟩ r).heap.size by simp;omega) d2 (r+1);have h3:=hid (hs.trans (S1.trans S2));obtain ⟨-,-,⟨x1,c1⟩,f1⟩:=C1;clear hs h2 S1 S2 HS d2;go_wp2;go_roundw
   case rel=>exact ⟨k+1,_,by omega,by go_num,rfl,by omega,by omega,h3⟩
   case measure=>simp [intOf];omega
  ·obtain rfl:k=n:=by omega
   go_wp2;go_ret;exact ⟨⟨_,rfl,q1⟩,hs⟩
theorem aEv (lo hi:Nat) (lg:Int) (v:Value) (n:Nat) (k0:Int) (w:World) (h:kJ lo hi w v n) (hh:hi<=w.heap.size) (hl:lo<=hi) (h0:0<=k0) (h1:k0+n<=4611686018427387904) :
  Calls aQ2 61 #[.agg #[lg,v],k0] w fun e w'=>e = .returned (.int .i64 (k0+n))/\Shp lo hi w w':=by
 have H:=hid h;have x0:Ext w (w.alloc (.cells #[lg,v] 36)):=X_;have S0:=hid (Shp.of x0 hh hl);have z0:=x0.size;clear h;go_enter func61,ntmps61;go_wp2_with fail;refine r_ (sO lo hi _ n _ _ (H.shp S0) (aQ5 hh z0) hl h0 h1) fun w2 S2=>?_;go_wp2;go_ret;exact ⟨rfl,S0.trans S2⟩
end Go.Proofs.YthgpegkmjeigmaaGreat
