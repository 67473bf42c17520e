/- Texts of this claim, one behind another; what its theorem does not use is left out: Rs7, Ss1, Shp, Mk1, Mk2, Mk3, Mk4, Mk5, Mk6, Lw1, Ss2, Rv, Tg7, Tg1, Tg2, Tg3, Tg4, Tg8, Tg6, Tg5, Tg9, Oc1, Oc2, Oc3, Oc4, Oc5, Oc6, Tp1, Tp2, Tp3, Ss3, LawSample, LiftTex, Leaf, Es1, Es2, Es3, Es4, Es5, Es6, Lw3, LiftPrg, LiftScn, LiftSmp, P31. -/
import Derived.Test.YthgpegkmjeigmaaGreatP31W4
import Derived.Test.YthgpegkmjeigmaaGreatP31W3
import Derived.Test.YthgpegkmjeigmaaGreatP31W1
import Derived.Test.YthgpegkmjeigmaaGreatP31W2
import Derived.Deep.CutBlock
import Derived.OpenShut
import Derived.ShutString
import Derived.ChangeOld
import Derived.Below
import Derived.Carry
import Derived.Lib.SmallJoins
import Derived.Deep.Slices
import Derived.Deep.Strs
import Derived.Test.YthgpegkmjeigmaaGreatRows
import Derived.ProofKit
set_option linter.unusedSimpArgs false
set_option linter.unusedVariables false
set_option maxRecDepth 100000
set_option maxHeartbeats 12800000
namespace Go.Proofs.YthgpegkmjeigmaaGreat
open Go.RowKit
open Go.Proofs.Tryz
open _root_.Go.Act renaming put→aR9
variable {p:Addr} {lx ly r x y z:Int} {b h hi hi' j k l lo lo' n o sz:Nat} {f:Nat→Int} {t:TypeId} {av cv u v v2:Value} {w w':World}
open _root_.Array renaming getElem?_eq_some_iff→aQ9,ext_getElem?→aVb
open _root_.Bool renaming and_eq_true→aQ4
open _root_.Classical renaming axiomOfChoice→aUc
open _root_.Go.Addr renaming add→aUo
open _root_.Go.DataW renaming trod→aUh,Trod→bAr
open _root_.Go.Deep renaming open_slice→aWf,add_add→aT1
open _root_.Go.Proofs.Tryz renaming prog→aQt
open _root_.Go.Proofs.YthgpegkmjeigmaaGreat.Blk renaming new→aQx
open _root_.Go.Proofs.YthgpegkmjeigmaaGreat.Ext renaming refl→aQy,trans→aQu,grown→aRz,setCell→aQ6,drew→aRr,block→aQ1
open _root_.Go.Proofs.YthgpegkmjeigmaaGreat.V3 renaming scr→aSe
open _root_.Go.RowKit.Below renaming heap_setCell→aQz
open _root_.Go.Value renaming int→aT0,slice→aR4,okWide→aZ8,cells→aZk
open _root_.Go.Value.slice renaming injEq→aRi
open _root_.Go.World renaming size_alloc→aQp,size_setCell→aSc,cell?→aSn,cells?_some→aWz
open _root_.Go.World.rowIs renaming congr→aSz,lt→aS9,of_block→aUa,cell→aSi,frozen→aSs
open _root_.Int renaming tdiv_eq_ediv_of_nonneg→aS7,natCast_add→aSw,natCast_mul→aT3,toNat_natCast→aRh,mul_nonneg→aR6,mul_le_mul_of_nonneg_left→aS1
open _root_.List renaming getElem_mem→aQ8,range→aRc,getElem?_eq_some_iff→aQq,length_map→aR7,length_range→aUf,getElem_map→aU6,getElem_range→aT6,mem_of_getElem?→aRe,getElem?_eq_getElem→aQ0,length_cons→aR3,map_cons→aSu,map_nil→aVy,length_nil→aSx,setIfInBounds_toArray→aQv,set_cons_succ→aQ3,set_cons_zero→aQ2,getElem?_append_left→aR2,getElem?_append_right→aRs,getElem?_cons_zero→aQm,mem_singleton→aTq,range_succ→aS3,flatMap_append→aR1,flatMap_singleton→aUi,length_append→aRg,getElem?_cons_succ→aQn,getD_eq_getElem?_getD→aRj,take_length→aRo,length_take→aRf,take_append_drop→aUt,length_drop→aTl,append_assoc→aRp,singleton_append→aW3,getElem?_take→aSr,mem_range→aRu,mem_map→aSt,filterMap_nil→aQ7,getElem?_toArray→aQs,filterMap_cons→aRd
open _root_.Nat renaming le_trans→aQw,le_refl→aQo,lt_of_lt_of_le→aSb,zero_add→aRl,add_mul→aS4,one_mul→aS5,add_assoc→aSg,mod_lt→aTf,reduceAdd→aTp,zero_le→aR8,lt_or_ge→aRy,add_comm→aYr,zero_mul→aVz,add_zero→aSa,mul_le_mul→aRq,min_eq_left→aS6,mul_comm→aUy
open _root_.Option.some renaming inj→aSm,injEq→aQr
theorem Scn.Ok.shadeT {s:Scn} (ho:s.Ok) {q:Nat} (hq:q<s.ps.length) (hn:1<=n/\n<=8) (f:Nat->Int):∃X Y,s.ps[q].code.shade (mY f n s.t)=(X,Y,true):=by
 have hc:=ho.prg _ (aQ8 hq);obtain ⟨X,Y,e,-⟩:=(Prg.chkB_K hc).shade hc (xJ (f:=f) (n:=n) (t:=s.t) hn ho.t);exact ⟨X,Y,e⟩
theorem kF {s:Scn} {b:Bool} (h:s.okB=b) (lo hi:Nat) (v:Value) (w:World) (hv:s.R lo hi w v) (hh:hi<=w.heap.size) (hsm:s.small):R_ 45 #[v] w (.bool b):=h▸sA s lo hi v w hv hh hsm
theorem sB (s:Scn) (lo hi:Nat) (v:Value) (k:Nat) (w:World) (hv:s.R lo hi w v) (hh:hi<=w.heap.size) (ho:s.Ok) (hsm:s.small) (hk:k<s.m) :
  Calls aQt 89 #[v,(k:Nat)] w fun e w'=>∃r1 r2,e = .returned (.tuple #[r1,r2,.bool true])/\aU w.heap.size w'.heap.size w' r1 (s.shade k).1/\aU w.heap.size w'.heap.size w' r2 (s.shade k).2/\Ext w w':=by
 obtain ⟨q,n,q9,hq,q8,z7,z8,q7,d2⟩:=ho.at hk;have HV:=hid hv;have HO:=hid (Scn.okB_iff.2 ho);have b1:=hid hsm;have z4:inB ((k:Nat):Int) 0 ((s.m:Int) - 1)=true:=aG.2 ⟨by omega,by omega⟩;have y7:=hid z4;obtain ⟨XX,YY,x0⟩:=ho.shadeT hq ⟨z7,z8⟩ (s.st k);obtain ⟨a1,c1,a2,c2,a3,c3,rfl,-,h5,-,h1,h2,h3⟩:=hv.form;have d1:=h3.cap;have g6:=h3.le;have g7:=h2.le;have b5:=h2.cap;obtain ⟨b,h7,rfl,g4,g5,h4⟩:=h3.at hk (by decide)
 obtain ⟨f,hf⟩:∃f,s.st k=f:=⟨_,rfl⟩
 obtain ⟨g,hg⟩:∃f,s.en k=f:=⟨_,rfl⟩
 have bw:b<w.heap.size:=by omega
 have q3:w.rangeAt b (h7+k*26) ((aRc 26).map fun j=>.int .i64 (s.F (k*26+j))):=by
  intro j v hj;obtain ⟨h1,h2⟩:=aQq.1 hj;simp only [aR7,aUf] at h1;simp only [aU6,aT6] at h2;subst h2;exact h4 j h1
 change w.rangeAt b (h7+k*26) [(s.st k 0),(s.st k 1),(s.st k 2),(s.st k 3),(s.st k 4),(s.st k 5),(s.st k 6),(s.st k 7),(s.st k 8),(s.st k 9),(s.st k 10),(s.st k 11),(s.en k 0),(s.en k 1),(s.en k 2),(s.en k 3),(s.en k 4),(s.en k 5),(s.en k 6),(s.en k 7),(s.en k 8),(s.en k 9),(s.en k 10),(s.en k 11),(s.sh k),(s.rt k)] at q3;simp only [hf,hg,q9,q8] at q3;have h6:=Scn.shade_at q9 hq q8;rw [hf] at h6 q7 x0;have h9:=ho.prg _ (aQ8 hq);have z9:=hsm _ (aQ8 hq);have q0:=Tex.okB_iff.1 ho.t;have H1:=hid h1;have H2:=hid h2;have x8:=hid q3;have y9:=hid h5;have c4:=hid (show ∀W:World,Ext w W->cN lo hi W (.agg #[s.t.log,.slice a1 s.t.px.length c1]) s.t from fun W x=>⟨_,rfl,h5,(h1.shut).ext hh x⟩);have x4:=hid h9;have q1:=hid z9;have b3:=hid q0;have a9:=hid q7;have b0:=hid h6;have q4:=hid x0;have x2:Ext w (w.alloc (.cells (sA_ s a1 c1 a2 c2 (some ⟨b,h7,none⟩) c3) 40)):=X_;have bS:=aQx w 40 (sL_ s a1 c1 a2 c2 (some ⟨b,h7,none⟩) c3);clear hv h1 h2 h3 q3 h9 z9 q0 q7 d2 h6 q9 q8 h4 hf hg h5 z4 ho hsm x0;have h0:=hid x2;have HS:=hid bS;clear x2 bS;go_enter func89,ntmps89;go_wp2_with fail;refine r_ (kF HO lo hi _ _ (HV.ext hh h0) (aQw hh h0.size) b1) fun W0 x1=>?_;have x2:=h0.trans x1;have bS:=HS.ext x1;clear h0 HS x1;have h0:=hid x2;have HS:=hid bS;have b6:=bS.cell 10 rfl;have ls:=bS.lt;clear x2 bS;go_wp2_with fail;refine z_ (aE y7 _) ?_;have z3:W0.rangeAt b (h7+k*26) [(f 0),(f 1),(f 2),(f 3),(f 4),(f 5),(f 6),(f 7),(f 8),(f 9),(f 10),(f 11),(g 0),(g 1),(g 2),(g 3),(g 4),(g 5),(g 6),(g 7),(g 8),(g 9),(g 10),(g 11),(q:Nat),(n:Nat)]:=fun j v hj=>(h0.cells.1 b _ bw).trans (x8 j v hj);have x3:=hid z3
 have lb:b<W0.heap.size:=by have:=h0.size;omega
 clear z3;go_upto_region 4 with (first|(show wpList _ _ _ [_,_,_] _ _;refine wpList_load_mid rfl _ _ rfl b (h7+k*26) rfl [(f 0),(f 1),(f 2),(f 3),(f 4),(f 5),(f 6),(f 7),(f 8),(f 9),(f 10),(f 11),(g 0),(g 1),(g 2),(g 3),(g 4),(g 5),(g 6),(g 7),(g 8),(g 9),(g 10),(g 11),(q:Nat),(n:Nat)] _ x3 underlying127 rfl iG ?_)|(show wpList _ _ _ [_] _ _;refine dI _ _ _ rfl 127 (.tmp 7) (.tmp 28) rfl rfl #[(f 0),(f 1),(f 2),(f 3),(f 4),(f 5),(f 6),(f 7),(f 8),(f 9),(f 10),(f 11),(g 0),(g 1),(g 2),(g 3),(g 4),(g 5),(g 6),(g 7),(g 8),(g 9),(g 10),(g 11),(q:Nat),(n:Nat)] W0.heap.size rfl rfl rfl (by kernel_rfl) (by kernel_rfl) (by kernel_rfl) ?_));have xA:Ext W0 (W0.alloc (.cells #[(f 0),(f 1),(f 2),(f 3),(f 4),(f 5),(f 6),(f 7),(f 8),(f 9),(f 10),(f 11),(g 0),(g 1),(g 2),(g 3),(g 4),(g 5),(g 6),(g 7),(g 8),(g 9),(g 10),(g 11),(q:Nat),(n:Nat)] 127)):=X_;have bA:=aQx W0 127 [(f 0),(f 1),(f 2),(f 3),(f 4),(f 5),(f 6),(f 7),(f 8),(f 9),(f 10),(f 11),(g 0),(g 1),(g 2),(g 3),(g 4),(g 5),(g 6),(g 7),(g 8),(g 9),(g 10),(g 11),(q:Nat),(n:Nat)]
 obtain ⟨A,hA⟩:∃A,W0.heap.size=A:=⟨_,rfl⟩
 obtain ⟨W1,z2⟩:∃W1,W0.alloc (.cells #[(f 0),(f 1),(f 2),(f 3),(f 4),(f 5),(f 6),(f 7),(f 8),(f 9),(f 10),(f 11),(g 0),(g 1),(g 2),(g 3),(g 4),(g 5),(g 6),(g 7),(g 8),(g 9),(g 10),(g 11),(q:Nat),(n:Nat)] 127)=W1:=⟨_,rfl⟩
 rw [z2] at xA bA ⊢;rw [hA] at bA ls lb ⊢;have X1:=hid (h0.trans xA);have S1:=HS.ext xA;have z1:=hid S1;have y0:=hid bA;have d9:=S1.cell 9 rfl;have d5:=S1.lt;have b9:=bA.cell 24 rfl;have lA:=bA.lt;obtain ⟨b2,g0,na,nc,ga,gc,rfl,d0,c9,k1,k2,hR⟩:=H2.at hq X1 hh;have HR:=hid hR;clear z2 hA xA bA S1 hR b6 ls lb HS h0 x3 x8;go_wp2_with fail;refine (aCf lo hi _ (s.ps[q]'hq) _ HR (aQw hh X1.size) x4 q1.1 q1.2.1.1 q1.2.2).mono ?_;rintro e w5 ⟨u,rfl,R5,x5⟩
 obtain ⟨K,hK⟩:∃K,(s.ps[q]'hq).code=K:=⟨_,rfl⟩
 have y8:=hid (show K.small by rw [<-hK];exact ⟨by have:=nX (Prg.chkB_K x4);omega,by show ((s.ps[q]'hq).gs.map (·.name)).length<=1048576;rw [aR7];exact q1.2.2⟩);have z0:=hid hK;rw [hK] at R5;obtain ⟨a5,c5,a6,c6,rfl,-,-⟩:=R5.form;have y5:Ext w5 (w5.alloc (.cells #[.slice a5 K.xs.length c5,.slice a6 K.ls.length c6] 163)):=X_;have bC:=aQx w5 163 [.slice a5 K.xs.length c5,.slice a6 K.ls.length c6];have y2:=hid (R5.ext (aQo _) y5);have X5:=hid (X1.trans (x5.trans y5));have S5:=z1.ext (x5.trans y5);have A5:=y0.ext (x5.trans y5);have y1:=hid bC;have z5:=(x5.trans y5).size;have g3:=y5.size;have g9:=x5.size;have d7:=S5.cell 7 rfl;have d8:=S5.cell 8 rfl;have d6:=S5.lt;obtain ⟨e0,e1,e2,e3,e4,e5,e6,e7,e8,e9,b7,b8⟩:=A5.q12;have c0:=A5.cell 25 rfl;have d3:=A5.lt;clear R5 x5 y5 bC S5 A5 d9 d5 b9 lA k1 k2 hK z1 HR;go_wp2_with fail;refine (aGo lo hi f a9 n ⟨z7,z8⟩ 0 ⟨by decide,by decide⟩ _ s.t _ (c4.out _ X5) (aQw hh X5.size) b3).mono ?_;rintro e w6 ⟨gv,rfl,R6,x6⟩
 obtain ⟨g1,g2,hg⟩:∃g:Grd,mY f n s.t=g/\True:=⟨_,rfl,trivial⟩
 have x9:=hid g2;change (mY f n s.t).R _ _ _ _ at R6;rw [g2] at R6;obtain ⟨a7,c7,a8,c8,rfl⟩:=Grd.R.formS R6;have y6:Ext w6 (w6.alloc (.cells #[g1.n,.slice a7 g1.m c7,g1.tm,g1.t.log,.slice a8 g1.t.px.length c8] 168)):=X_;have bG:=aQx w6 168 [g1.n,.slice a7 g1.m c7,g1.tm,g1.t.log,.slice a8 g1.t.px.length c8];have y4:=hid (R6.ext (aQo _) y6);have X6:=hid (X5.trans (x6.trans y6));have B6:=y1.ext (x6.trans y6);have y3:=hid (y2.ext (by have:=g3;omega) (x6.trans y6));have z6:=(x6.trans y6).size;have g8:=y6.size;obtain ⟨f0,f1⟩:=B6.q2;have d4:=B6.lt;obtain ⟨i0,i1,i2,i3,i4⟩:=bG.q5;have lG:=bG.lt;clear R6 x6 y6 bG B6 hg g2 d7 d8 d6 e0 e1 e2 e3 e4 e5 e6 e7 e8 e9 b7 b8 c0 d3;go_wp2_with fail
 have q6:K.shade g1=(XX,YY,true):=by rw [<-z0,<-x9];exact q4
 have h8:(s.shade k).1=XX/\(s.shade k).2=YY:=by
  rw [b0,z0,x9,q6];exact ⟨rfl,rfl⟩
 have HE:=hid h8;have b4:=hid q6;clear q6 h8;refine (xC _ _ _ _ _ _ K g1 _ b4 y3 (by omega) y4 (by omega) y8).mono ?_;rintro e w7 ⟨r1,r2,rfl,O1,O2,x7⟩;have X7:=hid (X6.trans x7);have a0:=hid O1;have a4:=hid O2;clear O1 O2 x7 f0 f1 d4 i0 i1 i2 i3 i4 lG;go_wp2
 go_ret3
 have zl:=X6.size;exact ⟨r1,r2,rfl,by rw [HE.1];exact a0.wide zl (aQo _),by rw [HE.2];exact a4.wide zl (aQo _),X7⟩
def CI (lo hi:Nat) (w:World) (b o:Nat):Prop:=lo<=b/\b<hi/\(∃x,w.cell? ⟨b,o,none⟩=some (.int .i64 x))/\w.frozen? ⟨b,o,none⟩=false
def CS (lo hi:Nat) (w:World) (b o:Nat):Prop:=lo<=b/\b<hi/\(∃x,w.cell? ⟨b,o,none⟩=some (.string x))/\w.frozen? ⟨b,o,none⟩=false
def sC (lo hi:Nat) (w:World) (v:Value) (n:Nat):Prop:=
 ∃a cap,v = .slice a n cap/\n<=cap/\cap<=9223372036854775807/\∀i,i<n->∃b off,a=some ⟨b,off,none⟩/\CI lo hi w b (off+i)
def aCg (lo hi:Nat) (w:World) (v:Value) (n:Nat):Prop:=
 ∃a cap,v = .slice a n cap/\n<=cap/\cap<=9223372036854775807/\∀i,i<n->∃b off a' m c',a=some ⟨b,off,none⟩/\CI lo hi w b (off+i*4)/\CS lo hi w b (off+i*4+1)/\CI lo hi w b (off+i*4+2)/\w.cell? ⟨b,off+i*4+3,none⟩=some (.slice a' m c')/\m<=1048576/\sC lo hi w (.slice a' m c') m
def sD (lo hi:Nat) (w:World) (v:Value) (n:Nat):Prop:=
 ∃a cap,v = .slice a n cap/\n<=cap/\cap<=9223372036854775807/\∀i,i<n->∃b off,a=some ⟨b,off,none⟩/\CS lo hi w b (off+i*2)/\CI lo hi w b (off+i*2+1)
def uH (lo hi:Nat) (w:World) (v:Value) (n:Nat):Prop:=
 ∃a cap,v = .slice a n cap/\n<=cap/\cap<=9223372036854775807/\∀i,i<n->∃b off a1 m1 c1 a2 m2 c2,a=some ⟨b,off,none⟩/\lo<=b/\b<hi/\w.cell? ⟨b,off+i*2,none⟩=some (.slice a1 m1 c1)/\w.cell? ⟨b,off+i*2+1,none⟩=some (.slice a2 m2 c2)/\m1<=1048576/\m2<=1048576/\aCg lo hi w (.slice a1 m1 c1) m1/\sD lo hi w (.slice a2 m2 c2) m2
def aEj (lo hi:Nat) (w:World) (v:Value) (n:Nat):Prop:=
 ∃a cap,v = .slice a n cap/\n<=cap/\cap<=9223372036854775807/\∀i,i<n->∃b off,a=some ⟨b,off,none⟩/\CI lo hi w b (off+i*26+24)/\CI lo hi w b (off+i*26+25)
theorem CI.same (h:CI lo hi w b o) (s:aM lo hi w w'):CI lo hi w' b o:=by
 obtain ⟨h1,h2,⟨x,h3⟩,h4⟩:=h;exact ⟨h1,h2,⟨x,(s.cell h1 h2).trans h3⟩,(s.frozen h1 h2).trans h4⟩
theorem CS.same (h:CS lo hi w b o) (s:aM lo hi w w'):CS lo hi w' b o:=by
 obtain ⟨h1,h2,⟨x,h3⟩,h4⟩:=h;exact ⟨h1,h2,⟨x,(s.cell h1 h2).trans h3⟩,(s.frozen h1 h2).trans h4⟩
theorem CI.wide (h:CI lo hi w b o) (h1:lo'<=lo) (h2:hi<=hi'):CI lo' hi' w b o:=⟨aQw h1 h.1,aSb h.2.1 h2,h.2.2⟩
theorem CS.wide (h:CS lo hi w b o) (h1:lo'<=lo) (h2:hi<=hi'):CS lo' hi' w b o:=⟨aQw h1 h.1,aSb h.2.1 h2,h.2.2⟩
theorem sC.same (h:sC lo hi w v n) (s:aM lo hi w w'):sC lo hi w' v n:=by
 obtain ⟨a,cap,h1,h2,h3,h4⟩:=h;exact ⟨a,cap,h1,h2,h3,fun i hi=>by obtain ⟨b,h0,e,hc⟩:=h4 i hi;exact ⟨b,h0,e,hc.same s⟩⟩
theorem sC.wide (h:sC lo hi w v n) (h1:lo'<=lo) (h2:hi<=hi'):sC lo' hi' w v n:=by
 obtain ⟨a,cap,g1,g2,g3,h4⟩:=h;exact ⟨a,cap,g1,g2,g3,fun i hi=>by obtain ⟨b,h0,e,hc⟩:=h4 i hi;exact ⟨b,h0,e,hc.wide h1 h2⟩⟩
theorem aB.intsM {xs:List Int} (h:aB lo w v xs):sC lo w.heap.size w v xs.length:=by
 obtain ⟨a,cap,rfl,_⟩:=h.form;obtain ⟨a',h0,e,g2,g3,_⟩:=h.ints;simp only [aRi,true_and] at e;obtain ⟨rfl,rfl⟩:=e;refine ⟨a,cap,rfl,g2,by unfold maxLen at g3;omega,fun i hi=>?_⟩;obtain ⟨g,y,rfl,l1,l2,_,hc,hf,_⟩:=h.at rfl hi;exact ⟨g,0,rfl,l1,l2,⟨y,by rw [aRl];exact hc⟩,by rw [aRl];exact hf⟩
theorem aCg.same (h:aCg lo hi w v n) (s:aM lo hi w w'):aCg lo hi w' v n:=by
 obtain ⟨a,cap,h1,h2,h3,h4⟩:=h;refine ⟨a,cap,h1,h2,h3,fun i hi=>?_⟩;obtain ⟨b,h0,a',m,c',e,k0,k1,k2,k3,k4,k5⟩:=h4 i hi;exact ⟨b,h0,a',m,c',e,k0.same s,k1.same s,k2.same s,(s.cell k0.1 k0.2.1).trans k3,k4,k5.same s⟩
theorem aCg.wide (h:aCg lo hi w v n) (h1:lo'<=lo) (h2:hi<=hi'):aCg lo' hi' w v n:=by
 obtain ⟨a,cap,g1,g2,g3,h4⟩:=h;refine ⟨a,cap,g1,g2,g3,fun i hi=>?_⟩;obtain ⟨b,h0,a',m,c',e,k0,k1,k2,k3,k4,k5⟩:=h4 i hi;exact ⟨b,h0,a',m,c',e,k0.wide h1 h2,k1.wide h1 h2,k2.wide h1 h2,k3,k4,k5.wide h1 h2⟩
theorem sD.same (h:sD lo hi w v n) (s:aM lo hi w w'):sD lo hi w' v n:=by
 obtain ⟨a,cap,h1,h2,h3,h4⟩:=h;exact ⟨a,cap,h1,h2,h3,fun i hi=>by obtain ⟨b,h0,e,k0,k1⟩:=h4 i hi;exact ⟨b,h0,e,k0.same s,k1.same s⟩⟩
theorem sD.wide (h:sD lo hi w v n) (h1:lo'<=lo) (h2:hi<=hi'):sD lo' hi' w v n:=by
 obtain ⟨a,cap,g1,g2,g3,h4⟩:=h;exact ⟨a,cap,g1,g2,g3,fun i hi=>by obtain ⟨b,h0,e,k0,k1⟩:=h4 i hi;exact ⟨b,h0,e,k0.wide h1 h2,k1.wide h1 h2⟩⟩
def pJ (lo hi:Nat) (w:World) (v:Value) (xs:List Nd):Prop:=Nds lo hi w v xs/\aCg lo hi w v xs.length
def lZ (lo hi:Nat) (w:World) (v:Value) (xs:List Asg):Prop:=mZ lo hi w v xs/\sD lo hi w v xs.length
theorem pJ.same {xs:List Nd} (h:pJ lo hi w v xs) (s:aM lo hi w w'):pJ lo hi w' v xs:=⟨h.1.same s,h.2.same s⟩
theorem lZ.same {xs:List Asg} (h:lZ lo hi w v xs) (s:aM lo hi w w'):lZ lo hi w' v xs:=⟨h.1.same s,h.2.same s⟩
theorem pJ.ext {xs:List Nd} (h:pJ lo hi w v xs) (hh:hi<=w.heap.size) (e:Ext w w'):pJ lo hi w' v xs:=h.same (e.same hh)
theorem pJ.wide {xs:List Nd} (h:pJ lo hi w v xs) (h1:lo'<=lo) (h2:hi<=hi'):pJ lo' hi' w v xs:=⟨h.1.wide h1 h2,h.2.wide h1 h2⟩
theorem lZ.wide {xs:List Asg} (h:lZ lo hi w v xs) (h1:lo'<=lo) (h2:hi<=hi'):lZ lo' hi' w v xs:=⟨h.1.wide h1 h2,h.2.wide h1 h2⟩
theorem pJ.setLow {xs:List Nd} (h:pJ lo hi w v xs) (hp:p.block<lo) (x:Value):pJ lo hi (w.setCell p x) v xs:=h.same (fun k h1 _=>aQz _ _ _ _ (by omega))
theorem lZ.setLow {xs:List Asg} (h:lZ lo hi w v xs) (hp:p.block<lo) (x:Value):lZ lo hi (w.setCell p x) v xs:=h.same (fun k h1 _=>aQz _ _ _ _ (by omega))
def Prg.B (p:Prg) (lo hi:Nat) (w:World) (v:Value):Prop:=∃iu lu,v = .agg #[iu,lu]/\pJ lo hi w iu p.ns/\lZ lo hi w lu p.gs
theorem Prg.B.R {p:Prg} (h:p.B lo hi w v):p.R lo hi w v:=by
 obtain ⟨iu,lu,rfl,h1,h2⟩:=h;exact ⟨iu,lu,rfl,h1.1,h2.1⟩
theorem Prg.B.same {p:Prg} (h:p.B lo hi w v) (s:aM lo hi w w'):p.B lo hi w' v:=by
 obtain ⟨iu,lu,rfl,h1,h2⟩:=h;exact ⟨iu,lu,rfl,h1.same s,h2.same s⟩
theorem Prg.B.wide {p:Prg} (h:p.B lo hi w v) (h1:lo'<=lo) (h2:hi<=hi'):p.B lo' hi' w v:=by
 obtain ⟨iu,lu,rfl,g1,g2⟩:=h;exact ⟨iu,lu,rfl,g1.wide h1 h2,g2.wide h1 h2⟩
theorem aEk (lo hi:Nat) (op:Int) (s:ByteArray) (n:Int) (u:Value) (r:List Int) (w:World) (hu:aU lo hi w u r) (hh:hi<=w.heap.size) (hsz:r.length<=1048576) :
  Calls aQt 180 #[.agg #[op,.string s,n,u]] w fun e w'=>∃a c,e = .returned (.agg #[op,.string s,n,.slice a r.length c])/\aB w.heap.size w' (.slice a r.length c) r/\Ext w w':=by
 have HU:=hid hu;clear hu;go_enter func180,ntmps180;go_wp2_with fail;refine (vF lo hi u r _ (HU.out.ext hh S_) (by simp;omega) hsz).mono ?_;rintro e w1 ⟨v1,rfl,hO,x1⟩;obtain ⟨a,c,rfl,_⟩:=hO.form;have h2:=x1.size;simp only [aQp,aSc] at h2;have h1:=(Bx.madeAt (B:=w.heap.size+1+1) ((w.alloc (.cells #[op,.string s,n,u] 237)).alloc (.cells #[(),.string ⟨#[]⟩,(),.slice none 0 0] 197)) #[op,.string s,n,.slice none 0 0] 197 (by simp)).ext x1;have h0:=((Bx.madeAt (B:=w.heap.size+1) (w.alloc (.cells #[op,.string s,n,u] 237)) #[(),.string ⟨#[]⟩,(),.slice none 0 0] 197 (by simp)).ext ((aQy _).alloc (.cells #[op,.string s,n,.slice none 0 0] 197))).ext x1;have X0:Ext w (((w.alloc (.cells #[op,.string s,n,u] 237)).alloc (.cells #[(),.string ⟨#[]⟩,(),.slice none 0 0] 197)).alloc (.cells #[op,.string s,n,.slice none 0 0] 197)):=S_;have X1:=hid (X0.trans x1);have HO:=hid hO;clear x1 hO X0;have q:=h1.lt;obtain ⟨q0,q1,q2,q3⟩:=h1.q4;have h7:=h1.frozen 0;have h8:=h1.frozen 1;have h9:=h1.frozen 2;have q5:=h1.frozen 3;have d:=h0.lt;obtain ⟨d0,d1,d2,d3⟩:=h0.q4;have h3:=h0.frozen 0;have h4:=h0.frozen 1;have h5:=h0.frozen 2;have h6:=h0.frozen 3;clear h0 h1;go_wp2;refine bodyPost_ret (v:=.agg #[op,.string s,n,.slice a r.length c]) (by simp [results,results180,go_sem, *]) rfl ⟨a,c,rfl,?_,?_⟩
 ·have h:=HO.out
  simp only [aQp,aSc] at h ⊢;refine aB.low ?_ (Nat.le_add_right _ 3)
  repeat (with_reducible refine aB.setLow ?_ (by simp <;> omega) _)
  exact h
 ·have hX:=X1.out
  exact S_
theorem aCh (lo hi:Nat) (u:Value) (xs:List Nd) (w:World) (hu:Nds lo hi w u xs) (hh:hi<=w.heap.size) (hsz:xs.length<=1048576) (hsa:∀x∈xs,x.args.length<=1048576) :
  Calls aQt 126 #[u] w fun e w'=>e = .returned (.slice (some ⟨w.heap.size,0,none⟩) xs.length xs.length)/\pJ w.heap.size w'.heap.size w' (.slice (some ⟨w.heap.size,0,none⟩) xs.length xs.length) xs/\w.heap.size<w'.heap.size/\Ext w w':=by
 obtain ⟨i0,q2,q5,q6,q7⟩:=info_parts aMh;obtain ⟨a,cap,rfl,HU⟩:=hu.open;clear hu;have x6:=HU.cap;have z5:=HU.le;have HS:=hid hsa;clear hsa;go_enter func126,ntmps126;go_wp2_with (at_make;refine wpList_make_full _ rfl _ _ 116 rfl w.heap.size 197 i0 _ 4 underlying116 q2 q5 q6 _ _ _ _ xs.length rfl rfl rfl rfl (by rw [q7];omega) (by unfold maxLen;omega) (aQo _) ?_);intro w1 h9 h4;have hx:Ext w w1:=(aQy w).grown h4 (fun k h=>by cases h);have h1:=hid (show w1.rowIs w.heap.size 197 (xs.length*4) (eV (ndC xs (fun _=>.slice none 0 0)) ndZ 0) from aSz (kR (aMi _) h9) (fun i _=>by unfold eV;simp));clear h9 h4 q2 q5 q6 q7;go_wp2
 go_loopw [4] (fun i wr=>∃(k:Nat) (us:Nat->Value),k<=xs.length/\i = .int .i64 k/\Ext w wr/\wr.rowIs w.heap.size 197 (xs.length*4) (eV (ndC xs us) ndZ (k*4))/\∀j x,j<k->xs[j]?=some x->aB (w.heap.size+1) wr (us j) x.args) (fun i _=>xs.length - (intOf i).toNat)
 case atStart=>exact ⟨0,_,by omega,rfl,hx,by simpa using h1.out,fun j x hj=>by omega⟩
 case round=>
  clear hx h1;obtain ⟨k,us,hk,rfl,hx,h1,h3⟩:=hrel
  by_cases q4:k<xs.length
  ·obtain ⟨b,z7,op,s,n,ua,ra,rfl,x9,z4,h7,h5,io,z6,q3,x0,x1,x2,x3⟩:=HU.at q4 hx hh
   have x5:=hid (aBz (us:=fun j=>if j=k then ua else us j) h5);obtain ⟨z0,z1,z2,z3⟩:=aN8 k;have x7:=eT (k:=4) (j:=3) q4 (by decide);have HX:=hid hx;have HR:=hid h1;have HI:=hid q3;have HA:=hid h3;have HG:=hid h5;have zx:=hx.size;have zr:=aS9 h1;clear h7 h5 hx h1 q3 h3;go_wp2_with fail;refine (aEk lo hi op s n ua ra _ HI.out (by omega) (HS.out _ (aRe HG.out))).mono ?_;rintro e w2 ⟨a2,c2,rfl,hN,h2⟩;have hR:w2.rowIs w.heap.size 197 (xs.length*4) (eV (ndC xs us) ndZ (k*4)):=aUa HR.out (h2.block zr);have hX:=HX.out.trans h2;have zz:=h2.size;have q0:=hid (aBz (us:=fun j=>if j=k then .slice a2 ra.length c2 else us j) HG.out);have d0:=aSi hR (i:=k*4) (by omega);have g0:=aSs hR (k*4);have d1:=aSi hR (i:=k*4+1) (by omega);have g1:=aSs hR (k*4+1);have d2:=aSi hR (i:=k*4+2) (by omega);have g2:=aSs hR (k*4+2);have d3:=aSi hR (i:=k*4+3) (by omega);have g3:=aSs hR (k*4+3);unfold eV at d0 d1 d2 d3;rw [if_neg (by omega)] at d0 d1 d2 d3;rw [z0] at d0;rw [z1] at d1;rw [z2] at d2;rw [z3] at d3;have x4:=hid hX
   have q1:w2.rowIs w.heap.size 197 (xs.length*4) (eV (ndC xs (fun j=>if j=k then .slice a2 ra.length c2 else us j)) ndZ (k*4)):=aSz hR (fun i _=>by
    unfold eV
    by_cases hi:i<k*4
    ·rw [if_pos hi,if_pos hi,aMg (k:=k) (u:=.slice a2 ra.length c2) i hi]
    ·rw [if_neg hi,if_neg hi])
   have q9:=hid q1;have HN:=hid hN;have q8:Hid (∀j x,j<k->xs[j]?=some x->aB (w.heap.size+1) w2 (us j) x.args):=hid (fun j x hj h6=>(HA.out j x hj h6).ext h2);clear HX HR h2 hX hR q1 z0 z1 z2 z3 x0 x1 x2 x3 hN HA x5;go_wp2;go_roundw
   case rel=>
    refine ⟨k+1,fun j=>if j=k then .slice a2 ra.length c2 else us j,by omega,by go_num,?_,?_,?_⟩
    ·have hX:=x4.out
     exact S_
    ·rw [aS4,aS5]
     obtain ⟨e0,e1,e2,e3⟩:=q0.out;refine fM (fM (fM (fM (q9.out) rfl e0.symm) rfl e1.symm) rfl e2.symm) rfl ?_;rw [e3];simp
    ·intro j x hj h6
     simp only [aSc]
     repeat (with_reducible refine aB.setLow ?_ (by simp <;> omega) _)
     by_cases e:j=k
     ·subst e
      rw [HG.out] at h6;injection h6 with h6;subst h6;simp only [if_pos rfl];exact HN.out.low (by omega)
     ·simp only [if_neg e]
      exact q8.out j x (by omega) h6
   case measure=>simp [intOf];omega
  ·obtain rfl:k=xs.length:=by omega
   have HR:=hid h1;have HA:=hid h3;have HX:=hid hx;clear h1 h3 hx;go_wp2;go_ret;have hR:=HR.out;have h8:=aS9 hR
   have h0:∀q,q<xs.length*4->wr.cell? ⟨w.heap.size,0+q,none⟩=some (ndC xs us q):=fun q hq=>by
    rw [aRl,aSi hR hq];unfold eV;rw [if_pos hq]
   refine ⟨rfl,⟨⟨_,_,rfl,aQo _,by unfold maxLen;omega,fun i x hx=>?_⟩,⟨_,_,rfl,aQo _,by omega,fun i hi=>?_⟩⟩,h8,HX.out⟩
   ·obtain ⟨e0,e1,e2,e3⟩:=aBz (us:=us) hx
    have hi:=(aQq.1 hx).1;have hl:=eT (k:=4) (j:=3) hi (by decide);have x8:=(HU.cell i x hx).1;refine ⟨x8,w.heap.size,0,us i,rfl,aQo _,h8,?_,?_,?_,?_,(HA.out i x hi hx).ints.wide (by omega) (aQo _)⟩
    ·rw [h0 _ (by omega),e0]
    ·rw [aSg,h0 _ (by omega),e1]
    ·rw [aSg,h0 _ (by omega),e2]
    ·rw [aSg,h0 _ (by omega),e3]
   ·have hx:xs[i]?=some xs[i]:=aQ0 hi
    obtain ⟨e0,e1,e2,e3⟩:=aBz (us:=us) hx;have hl:=eT (k:=4) (j:=3) hi (by decide);have hO:=HA.out i _ hi hx;obtain ⟨ua,uc,hu,_⟩:=hO.form;have hM:=hO.intsM;rw [hu] at hM;have fz:∀q,wr.frozen? ⟨w.heap.size,q,none⟩=false:=fun q=>aSs hR q;refine ⟨w.heap.size,0,ua,_,uc,rfl,⟨aQo _,h8,⟨xs[i].op,?_⟩,fz _⟩,⟨aQo _,h8,⟨xs[i].name,?_⟩,fz _⟩,⟨aQo _,h8,⟨xs[i].num,?_⟩,fz _⟩,?_,HS.out _ (aQ8 hi),hM.wide (by omega) (aQo _)⟩
    ·rw [h0 _ (by omega),e0]
    ·rw [aSg,h0 _ (by omega),e1]
    ·rw [aSg,h0 _ (by omega),e2]
    ·rw [aSg,h0 _ (by omega),e3,hu]
theorem aEl (lo hi:Nat) (u:Value) (xs:List Asg) (w:World) (hu:mZ lo hi w u xs) (hh:hi<=w.heap.size) (hsz:xs.length<=1048576) :
  Calls aQt 127 #[u] w fun e w'=>e = .returned (.slice (some ⟨w.heap.size,0,none⟩) xs.length xs.length)/\lZ w.heap.size w'.heap.size w' (.slice (some ⟨w.heap.size,0,none⟩) xs.length xs.length) xs/\w.heap.size<w'.heap.size/\Ext w w':=by
 obtain ⟨i0,h8,q0,q1,q2⟩:=info_parts aMj;obtain ⟨a,cap,rfl,HU⟩:=hu.open;clear hu;have q6:=HU.cap;have x2:=HU.le;go_enter func127,ntmps127;go_wp2_with (at_make;refine wpList_make_full _ rfl _ _ 117 rfl w.heap.size 200 i0 _ 2 underlying117 h8 q0 q1 _ _ _ _ xs.length rfl rfl rfl rfl (by rw [q2];omega) (by unfold maxLen;omega) (aQo _) ?_);intro w1 h6 h3;have hx:Ext w w1:=(aQy w).grown h3 (fun k h=>by cases h);have h1:=hid (show w1.rowIs w.heap.size 200 (xs.length*2) (eV (agC xs) agZ 0) from aSz (kR (aMk _) h6) (fun i _=>by unfold eV;simp));clear h6 h3 h8 q0 q1 q2;go_wp2
 go_loopw [4] (fun i wr=>∃k:Nat,k<=xs.length/\i = .int .i64 k/\Ext w wr/\wr.rowIs w.heap.size 200 (xs.length*2) (eV (agC xs) agZ (k*2))) (fun i _=>xs.length - (intOf i).toNat)
 case atStart=>exact ⟨0,by omega,rfl,hx,by simpa using h1.out⟩
 case round=>
  clear hx h1;obtain ⟨k,hk,rfl,hx,h1⟩:=hrel
  by_cases h9:k<xs.length
  ·obtain ⟨b,x3,s,n,rfl,q8,q9,h4,h5,io,x0,x1⟩:=HU.at h9 hx hh
   have q5:=hid (aF2 h5);obtain ⟨z0,z1⟩:=aN9 k;have q7:=eT (k:=2) (j:=1) h9 (by decide);have HX:=hid hx;have HR:=hid h1;clear h4 h5 hx h1;go_wp2_with fail;refine r_ (aI1 s n _) fun w2 h2=>?_;have hR:w2.rowIs w.heap.size 200 (xs.length*2) (eV (agC xs) agZ (k*2)):=aUa HR (h2.block (aS9 HR));have hX:=HX.trans h2;have d0:=aSi hR (i:=k*2) (by omega);have g0:=aSs hR (k*2);have d1:=aSi hR (i:=k*2+1) (by omega);have g1:=aSs hR (k*2+1);unfold eV at d0 d1;rw [if_neg (by omega)] at d0 d1;rw [z0] at d0;rw [z1] at d1;have q4:=hid hX;have q3:=hid hR;clear HX HR h2 hX hR z0 z1 x0 x1;go_wp2;go_roundw
   case rel=>
    refine ⟨k+1,by omega,by go_num,?_,?_⟩
    ·have hX:=q4.out
     exact S_
    ·rw [aS4,aS5]
     obtain ⟨e0,e1⟩:=q5.out;exact fM (fM (q3) rfl e0.symm) rfl e1.symm
   case measure=>simp [intOf];omega
  ·obtain rfl:k=xs.length:=by omega
   have HR:=hid h1;have HX:=hid hx;clear h1 hx;go_wp2;go_ret;have hR:=HR.out;have h7:=aS9 hR
   have h0:∀q,q<xs.length*2->wr.cell? ⟨w.heap.size,0+q,none⟩=some (agC xs q):=fun q hq=>by
    rw [aRl,aSi hR hq];unfold eV;rw [if_pos hq]
   refine ⟨rfl,⟨⟨_,_,rfl,aQo _,by unfold maxLen;omega,fun i x hx=>?_⟩,⟨_,_,rfl,aQo _,by omega,fun i hi=>?_⟩⟩,h7,HX⟩
   ·obtain ⟨e0,e1⟩:=aF2 hx
    have hi:=(aQq.1 hx).1;have hl:=eT (k:=2) (j:=1) hi (by decide);refine ⟨(HU.cell i x hx).1,w.heap.size,0,rfl,aQo _,h7,?_,?_⟩
    ·rw [h0 _ (by omega),e0]
    ·rw [aSg,h0 _ (by omega),e1]
   ·have hx:xs[i]?=some xs[i]:=aQ0 hi
    obtain ⟨e0,e1⟩:=aF2 hx;have hl:=eT (k:=2) (j:=1) hi (by decide);have fz:∀q,wr.frozen? ⟨w.heap.size,q,none⟩=false:=fun q=>aSs hR q;refine ⟨w.heap.size,0,rfl,⟨aQo _,h7,⟨xs[i].name,?_⟩,fz _⟩,⟨aQo _,h7,⟨xs[i].root,?_⟩,fz _⟩⟩
    ·rw [h0 _ (by omega),e0]
    ·rw [aSg,h0 _ (by omega),e1]
theorem xO (lo hi:Nat) (v:Value) (p:Prg) (w:World) (hv:p.R lo hi w v) (hh:hi<=w.heap.size) (hsz:p.small) :
  Calls aQt 79 #[v] w fun e w'=>∃v',e = .returned v'/\p.B w.heap.size w'.heap.size w' v'/\Ext w w':=by
 obtain ⟨iu,lu,rfl,q3,q4⟩:=hv;have HI:=hid q3;have HL:=hid q4;clear q3 q4;obtain ⟨⟨z1,z1'⟩,z2⟩:=hsz;have HZ:=hid z1';clear z1';have x0:Ext w (((w.alloc (.cells #[iu,lu] 113)).alloc (.cells #[.slice none 0 0,.slice none 0 0] 119)).alloc (.cells #[.slice none 0 0,.slice none 0 0] 119)):=X_;have bA:=((Bx.made w #[iu,lu] 113).ext ((aQy _).alloc (.cells #[.slice none 0 0,.slice none 0 0] 119))).ext ((aQy _).alloc (.cells #[.slice none 0 0,.slice none 0 0] 119));have bB:=(Bx.madeAt (B:=w.heap.size+1) (w.alloc (.cells #[iu,lu] 113)) #[.slice none 0 0,.slice none 0 0] 119 (by simp)).ext ((aQy _).alloc (.cells #[.slice none 0 0,.slice none 0 0] 119));have bC:=Bx.madeAt (B:=w.heap.size+1+1) ((w.alloc (.cells #[iu,lu] 113)).alloc (.cells #[.slice none 0 0,.slice none 0 0] 119)) #[.slice none 0 0,.slice none 0 0] 119 (by simp);go_enter func79,ntmps79;go_wp2_with fail;refine (aCh lo hi _ p.ns _ (HI.out.ext hh x0) (aQw hh x0.size) z1 HZ.out).mono ?_;rintro e w1 ⟨rfl,hR,h5,x1⟩;simp only [aQp] at hR h5;have h4:=bA.ext x1;have h9:=bB.ext x1;have h0:=bC.ext x1;have x5:=x1.size;simp only [aQp] at x5;have h8:=hid (x0.trans x1);have h7:=hid hR;clear bA bB bC x0 x1 hR;have y:=h4.lt;obtain ⟨y0,y1⟩:=h4.q2;have q:=h0.lt;obtain ⟨q0,q1⟩:=h0.q2;have q6:=h0.frozen 0;have q7:=h0.frozen 1;have x3:=hid (h9.other (p:=⟨w.heap.size+1+1,0,none⟩) (by simp) (.slice (some ⟨w.heap.size+1+1+1,0,none⟩) p.ns.length p.ns.length));have x4:=hid (h0.set 0 (.slice (some ⟨w.heap.size+1+1+1,0,none⟩) p.ns.length p.ns.length));have X2:=hid (h8.out.setCell (p:=⟨w.heap.size+1+1,0,none⟩) (by simp;omega) (.slice (some ⟨w.heap.size+1+1+1,0,none⟩) p.ns.length p.ns.length));have q8:=hid (h7.out.same (w':=w1.setCell ⟨w.heap.size+1+1,0,none⟩ (.slice (some ⟨w.heap.size+1+1+1,0,none⟩) p.ns.length p.ns.length)) (fun k h1 _=>aQz _ _ _ _ (by simp;omega)));clear h4 h9 h0 h8 h7;go_wp2_with fail;refine (aEl lo hi _ p.gs _ (HL.out.ext hh X2.out) (by simp;omega) z2).mono ?_;rintro e w2 ⟨rfl,hO,h6,x2⟩;have h2:=x3.out.ext x2;have h3:=(x4.out.ext x2).same (cs':=#[.slice (some ⟨w.heap.size+1+1+1,0,none⟩) p.ns.length p.ns.length,.slice none 0 0]) rfl;have q5:=x2.size;simp only [aSc] at q5 hO h6;have X3:=hid (X2.out.trans x2);have q9:=hid (q8.out.ext (by simp) x2);have HO:=hid hO;clear y y0 y1 q q0 q1 q6 q7 x2 hO;have q:=h3.lt;obtain ⟨q0,q1⟩:=h3.q2;have q6:=h3.frozen 0;have q7:=h3.frozen 1;have d:=h2.lt;obtain ⟨d0,d1⟩:=h2.q2;have x6:=h2.frozen 0;have x7:=h2.frozen 1;clear h2 h3;go_wp2;refine bodyPost_ret (v:=.agg #[.slice (some ⟨w.heap.size+1+1+1,0,none⟩) p.ns.length p.ns.length,.slice (some ⟨w1.heap.size,0,none⟩) p.gs.length p.gs.length]) (by simp [results,results79,go_sem, *]) rfl ⟨_,rfl,⟨_,_,rfl,?_,?_⟩,?_⟩
 ·have h:=q9.out
  simp only [aSc];refine pJ.wide ?_ (Nat.le_add_right _ 3) q5
  repeat (with_reducible refine pJ.setLow ?_ (by simp <;> omega) _)
  exact h
 ·have h:=HO.out
  simp only [aSc];refine lZ.wide ?_ (show w.heap.size<=w1.heap.size by omega) (aQo _)
  repeat (with_reducible refine lZ.setLow ?_ (by simp <;> omega) _)
  exact h
 ·have hX:=X3.out
  exact S_
theorem Prg.B.form {p:Prg} (h:p.B lo hi w v):∃a1 c1 a2 c2,v = .agg #[.slice a1 p.ns.length c1,.slice a2 p.gs.length c2]/\aCg lo hi w (.slice a1 p.ns.length c1) p.ns.length/\sD lo hi w (.slice a2 p.gs.length c2) p.gs.length:=by
 obtain ⟨iu,lu,rfl,⟨h1,h2⟩,h3,h4⟩:=h;obtain ⟨a1,c1,rfl,_⟩:=h1.open;obtain ⟨a2,c2,rfl,_⟩:=h3.open;exact ⟨a1,c1,a2,c2,rfl,h2,h4⟩
def prC (us vs:Nat->Value) (i:Nat):Value:=if i % 2=0 then us (i / 2) else vs (i / 2)
def prZ (_:Nat):Value:=.slice none 0 0
theorem aGp (us vs:Nat->Value) (k:Nat):prC us vs (k*2)=us k/\prC us vs (k*2+1)=vs k:=by
 refine ⟨?_,?_⟩
 ·unfold prC
  rw [if_pos (by omega),show k*2 / 2=k by omega]
 ·unfold prC
  rw [if_neg (by omega),show (k*2+1) / 2=k by omega]
theorem aM2 {us vs:Nat->Value}:∀i,i<k*2->prC us vs i=prC (fun j=>if j=k then u else us j) (fun j=>if j=k then v else vs j) i:=by
 intro i hi;unfold prC;simp only [if_neg (show ¬i / 2=k by omega)]
theorem aM3:(Tryz.prog.info? 119).map (fun i=>(i.zero,i.size,i.bytes))=some (some (.agg #[.slice none 0 0,.slice none 0 0]),2,48):=by kernel_rfl
theorem aM4 (n:Nat):∀i,i<n->(madeCells #[.slice none 0 0,.slice none 0 0] n)[i]?=some (prZ i):=by
 intro i hi;unfold prZ;have:i % 2<2:=aTf _ (by decide)
 rcases (show i % 2=0\/i % 2=1 by omega) with e|e <;> simp [madeCells,hi,e]
theorem uH.same (h:uH lo hi w v n) (s:aM lo hi w w'):uH lo hi w' v n:=by
 obtain ⟨a,cap,h1,h2,h3,h4⟩:=h;refine ⟨a,cap,h1,h2,h3,fun i hi=>?_⟩;obtain ⟨b,h0,a1,m1,c1,a2,m2,c2,e,l1,l2,k1,k2,z1,z2,k3,k4⟩:=h4 i hi;exact ⟨b,h0,a1,m1,c1,a2,m2,c2,e,l1,l2,(s.cell l1 l2).trans k1,(s.cell l1 l2).trans k2,z1,z2,k3.same s,k4.same s⟩
theorem uH.wide (h:uH lo hi w v n) (h1:lo'<=lo) (h2:hi<=hi'):uH lo' hi' w v n:=by
 obtain ⟨a,cap,g1,g2,g3,h4⟩:=h;refine ⟨a,cap,g1,g2,g3,fun i hi=>?_⟩;obtain ⟨b,h0,a1,m1,c1,a2,m2,c2,e,l1,l2,k1,k2,z1,z2,k3,k4⟩:=h4 i hi;exact ⟨b,h0,a1,m1,c1,a2,m2,c2,e,by omega,by omega,k1,k2,z1,z2,k3.wide h1 h2,k4.wide h1 h2⟩
theorem gL.wide {ps:List Prg} (h:gL lo hi w v ps) (h1:lo'<=lo) (h2:hi<=hi'):gL lo' hi' w v ps:=by
 obtain ⟨a,cap,g1,g2,g3,h4⟩:=h;refine ⟨a,cap,g1,g2,g3,fun k p hk=>?_⟩;obtain ⟨b,h0,u1,u2,e1,e2,e3,e4,e5,iu,lu,e6,e7,e8⟩:=h4 k p hk;exact ⟨b,h0,u1,u2,e1,by omega,by omega,e4,e5,iu,lu,e6,e7.wide h1 h2,e8.wide h1 h2⟩
theorem xQ (lo hi:Nat) (u:Value) (ps:List Prg) (w:World) (hu:gL lo hi w u ps) (hh:hi<=w.heap.size) (hsz:ps.length<=1048576) (hsm:∀p∈ps,p.small) :
  Calls aQt 38 #[u] w fun e w'=>e = .returned (.slice (some ⟨w.heap.size,0,none⟩) ps.length ps.length)/\(gL w.heap.size w'.heap.size w' (.slice (some ⟨w.heap.size,0,none⟩) ps.length ps.length) ps/\uH w.heap.size w'.heap.size w' (.slice (some ⟨w.heap.size,0,none⟩) ps.length ps.length) ps.length)/\w.heap.size<w'.heap.size/\Ext w w':=by
 obtain ⟨i0,q4,q5,q6,q7⟩:=info_parts aM3;obtain ⟨a,cap,rfl,HU⟩:=hu.open;clear hu;have x4:=HU.cap;have x8:=HU.le;have HS:=hid hsm;have x2:=hid HU;clear hsm;go_enter func38,ntmps38;go_wp2_with (at_make;refine wpList_make_full _ rfl _ _ 37 rfl w.heap.size 119 i0 _ 2 underlying37 q4 q5 q6 _ _ _ _ ps.length rfl rfl rfl rfl (by rw [q7];omega) (by unfold maxLen;omega) (aQo _) ?_);intro w1 h9 h6;have hx:Ext w w1:=(aQy w).grown h6 (fun k h=>by cases h);have h3:=hid (show w1.rowIs w.heap.size 119 (ps.length*2) (eV (prC (fun _=>.slice none 0 0) (fun _=>.slice none 0 0)) prZ 0) from aSz (kR (aM4 _) h9) (fun i _=>by unfold eV;simp));clear h9 h6 q4 q5 q6 q7 HU;go_wp2
 go_loopw [4] (fun i wr=>∃(k:Nat) (us vs:Nat->Value),k<=ps.length/\i = .int .i64 k/\Ext w wr/\wr.rowIs w.heap.size 119 (ps.length*2) (eV (prC us vs) prZ (k*2))/\∀j p,j<k->ps[j]?=some p->p.B (w.heap.size+1) wr.heap.size wr (.agg #[us j,vs j])) (fun i _=>ps.length - (intOf i).toNat)
 case atStart=>exact ⟨0,_,_,by omega,rfl,hx,by simpa using h3.out,fun j x hj=>by omega⟩
 case round=>
  clear hx h3;obtain ⟨k,us,vs,hk,rfl,hx,h3,h5⟩:=hrel
  by_cases h4:k<ps.length
  ·obtain ⟨b,x9,e1,d1,e2,d2,rfl,x7,x6,x0,x1,hR⟩:=x2.at h4 hx hh
   have h8:ps[k]?=some ps[k]:=aQ0 h4;have x5:=eT (k:=2) (j:=1) h4 (by decide);have HX:=hid hx;have HR:=hid h3;have HP:=hid hR;have HA:=hid h5;have HG:=hid h8;have zx:=hx.size;have zr:=aS9 h3;clear h8 hx h3 h5 hR;go_wp2_with fail;refine (xO lo hi _ ps[k] _ HP (by omega) (HS _ (aQ8 h4))).mono ?_;rintro e w2 ⟨v2,rfl,hN,h2⟩;obtain ⟨a1,c1,a2,c2,rfl,_⟩:=hN.form;have hR:w2.rowIs w.heap.size 119 (ps.length*2) (eV (prC us vs) prZ (k*2)):=aUa HR (h2.block zr);have hX:=HX.trans h2;have zz:=h2.size;have q1:=hid (aGp (fun j=>if j=k then .slice a1 (ps[k]'h4).ns.length c1 else us j) (fun j=>if j=k then .slice a2 (ps[k]'h4).gs.length c2 else vs j) k);have d0:=aSi hR (i:=k*2) (by omega);have g0:=aSs hR (k*2);have q0:=aSi hR (i:=k*2+1) (by omega);have g1:=aSs hR (k*2+1);unfold eV at d0 q0;rw [if_neg (by omega)] at d0 q0;unfold prZ at d0 q0;have x3:=hid hX
   have q3:w2.rowIs w.heap.size 119 (ps.length*2) (eV (prC (fun j=>if j=k then .slice a1 (ps[k]'h4).ns.length c1 else us j) (fun j=>if j=k then .slice a2 (ps[k]'h4).gs.length c2 else vs j)) prZ (k*2)):=aSz hR (fun i _=>by
    unfold eV
    by_cases hi:i<k*2
    ·rw [if_pos hi,if_pos hi,aM2 (k:=k) i hi]
    ·rw [if_neg hi,if_neg hi])
   have q9:=hid q3;have HN:=hid hN;have q8:=hid (show ∀j p,j<k->ps[j]?=some p->p.B (w.heap.size+1) w2.heap.size w2 (.agg #[us j,vs j]) from fun j p hj h7=>((HA j p hj h7).same (h2.same (aQo _))).wide (aQo _) zz);clear HX HR h2 hX hR q3 x0 x1 hN HA;go_wp2;go_roundw
   case rel=>
    refine ⟨k+1,fun j=>if j=k then .slice a1 (ps[k]'h4).ns.length c1 else us j,fun j=>if j=k then .slice a2 (ps[k]'h4).gs.length c2 else vs j,by omega,by go_num,?_,?_,?_⟩
    ·have hX:=x3.out
     exact S_
    ·rw [aS4,aS5]
     obtain ⟨e0,e1⟩:=q1.out;refine fM (fM q9 rfl ?_) rfl ?_
     ·rw [e0];simp
     ·rw [e1];simp
    ·intro j p hj h7
     simp only [aSc]
     have hs:∀W:World,∀u1 u2:Value,aM (w.heap.size+1) W.heap.size W ((W.setCell ⟨w.heap.size,k*2,none⟩ u1).setCell ⟨w.heap.size,k*2+1,none⟩ u2):=fun W u1 u2 q h1 _=>by
      rw [aQz _ _ _ _ (by simp;omega),aQz _ _ _ _ (by simp;omega)]
     by_cases e:j=k
     ·subst e
      rw [HG] at h7;injection h7 with h7;subst h7;simp only [if_pos rfl];exact (HN.wide (by omega) (aQo _)).same (hs _ _ _)
     ·simp only [if_neg e]
      exact (q8 j p (by omega) h7).same (hs _ _ _)
   case measure=>simp [intOf];omega
  ·obtain rfl:k=ps.length:=by omega
   have HR:=hid h3;have HA:=hid h5;have HX:=hid hx;clear h3 h5 hx;go_wp2;go_ret;have hR:=HR.out;have q2:=aS9 hR
   have h0:∀q,q<ps.length*2->wr.cell? ⟨w.heap.size,0+q,none⟩=some (prC us vs q):=fun q hq=>by
    rw [aRl,aSi hR hq];unfold eV;rw [if_pos hq]
   refine ⟨rfl,⟨⟨_,_,rfl,aQo _,by unfold maxLen;omega,fun i p hp=>?_⟩,⟨_,_,rfl,aQo _,by omega,fun i hi=>?_⟩⟩,q2,HX⟩
   ·obtain ⟨e0,e1⟩:=aGp us vs i
    have hi:=(aQq.1 hp).1;have hl:=eT (k:=2) (j:=1) hi (by decide);refine ⟨w.heap.size,0,us i,vs i,rfl,aQo _,q2,?_,?_,((HA i p hi hp).wide (by omega) (aQo _)).R⟩
    ·rw [h0 _ (by omega),e0]
    ·rw [aSg,h0 _ (by omega),e1]
   ·have hp:ps[i]?=some ps[i]:=aQ0 hi
    obtain ⟨e0,e1⟩:=aGp us vs i;have hl:=eT (k:=2) (j:=1) hi (by decide);have hB:=(HA i _ hi hp).wide (lo':=w.heap.size) (hi':=wr.heap.size) (by omega) (aQo _);obtain ⟨a1,c1,a2,c2,e,hN,hA⟩:=hB.form;simp only [Value.agg.injEq,Array.mk.injEq,List.cons.injEq,and_true] at e;have hs:=HS.out _ (aQ8 hi);refine ⟨w.heap.size,0,a1,_,c1,a2,_,c2,rfl,aQo _,q2,?_,?_,hs.1.1,hs.2,hN,hA⟩
    ·rw [h0 _ (by omega),e0,e.1]
    ·rw [aSg,h0 _ (by omega),e1,e.2]
theorem uP (lo hi lo' hi':Nat) (u v:Value) (ps:List Prg) (w:World) (hu:gL lo hi w u ps) (hv:gL lo' hi' w v ps) (hh:hi<=w.heap.size) (hh':hi'<=w.heap.size) :
  R_ 43 #[u,v] w (.bool true):=by
 obtain ⟨a,cap,rfl,HU⟩:=hu.open;obtain ⟨a',h5,rfl,HV⟩:=hv.open;clear hu hv;have h1:=HU.le;have h2:=HU.cap;have q3:=HV.le;have q4:=HV.cap;go_enter func43,ntmps43;go_wp2
 go_loopw [5] (fun i wr=>∃k:Nat,k<=ps.length/\i = .int .i64 k/\Ext w wr) (fun i _=>ps.length - (intOf i).toNat)
 case atStart=>exact ⟨0,by omega,rfl,X_⟩
 case round=>
  obtain ⟨k,hk,rfl,hx⟩:=hrel
  by_cases h0:k<ps.length
  ·obtain ⟨b,q7,e1,d1,e2,d2,rfl,q6,q5,x0,x1,hR⟩:=HU.at h0 hx hh
   obtain ⟨b',h8,q1,h9,q2,q0,rfl,h7,h6,q8,q9,h3⟩:=HV.at h0 hx hh';have HX:=hid hx;have HI:=hid hR;have h4:=hid h3;have zx:=hx.size;clear hx hR h3;go_wp2_with fail;refine aA [([0,1,2,3,4,5,6,7],8),([],9)] 99 wr.heap.size (by kernel_rfl) (by kernel_rfl) ?_;refine st_ fun K hK=>?_;go_wp2_with fail;refine r_ (wP lo hi lo' hi' _ _ (ps[k]'h0) _ (HI.ext (by omega) X_) (by simp;omega) (h4.ext (by omega) X_) (by simp;omega)) fun w1 h1=>?_;have y1:Ext wr w1:=aQu X_ h1;go_wp2_with fail;refine k_ hK ?_;clear hK K;refine st_ fun K hK=>?_;go_wp2_with fail;refine k_ hK ?_;clear hK K;refine aC ?_;have hX:=HX.trans y1;clear h1 y1 HX;go_wp2;go_roundw
   case rel=>exact ⟨k+1,by omega,by go_num,hX⟩
   case measure=>simp [intOf];omega
  ·go_wp2
   go_ret;exact ⟨rfl,hx⟩
theorem xS (lo hi:Nat) (u:Value) (ps:List Prg) (left:Int) (w:World) (hu:gL lo hi w u ps) (hh:hi<=w.heap.size) (hb:∀p∈ps,p.bd) (h1:0<=left) (h2:left<=1048576) :
  Calls aQt 33 #[u,left] w fun e w'=>(∃r,e = .returned (.int .i64 r)/\(r = -1\/(0<=r/\r<=left/\ps.length<=1048576/\∀p∈ps,p.small)))/\Ext w w':=by
 obtain ⟨a,cap,rfl,HU⟩:=hu.open;have h3:=HU.le;have h4:=HU.cap;have HB:=hid hb;clear hu hb
 by_cases hl:left - (ps.length:Int)<0
 ·go_enter func33,ntmps33
  go_wp2;go_ret;exact ⟨⟨_,rfl,.inl rfl⟩,S_⟩
 ·go_enter func33,ntmps33
  go_wp2
  go_loopw [1,5] (fun q i wr=>∃(k:Nat) (r:Int),k<=ps.length/\i = .int .i64 k/\q = .int .i64 r/\0<=r/\r<=left/\(∀j x,j<k->ps[j]?=some x->x.small)/\Ext w wr) (fun _ i _=>ps.length - (intOf i).toNat)
  case atStart=>exact ⟨0,_,by omega,rfl,rfl,by omega,by omega,fun j x hj=>by omega,S_⟩
  case round=>
   obtain ⟨k,r,hk,rfl,rfl,h7,h9,h0,hx⟩:=hrel
   by_cases h6:k<ps.length
   ·obtain ⟨b,q2,e1,d1,e2,d2,rfl,q1,q0,x0,x1,hR⟩:=HU.at h6 hx hh
    have h5:ps[k]?=some ps[k]:=aQ0 h6;have hz:=hid (HB _ (aQ8 h6));have HX:=hid hx;have HI:=hid hR;have HA:=hid h0;have HG:=hid h5;have zx:=hx.size;clear h5 hx hR h0;go_wp2_with fail;refine (yS lo hi _ (ps[k]'h6) r _ HI (by omega) hz.out h7 (by omega)).mono ?_;rintro e w1 ⟨⟨r2,rfl,hr3⟩,x3⟩;have X3:=HX.trans x3
    rcases hr3 with rfl|⟨hr3,hr4,hr5⟩
    ·go_wp2
     go_ret;exact ⟨⟨_,rfl,.inl rfl⟩,X3⟩
    ·have hn : ¬r2<0:=by omega
     have h8:=hid hr5;clear hr5;go_wp2;go_roundw
     case rel=>
      refine ⟨k+1,r2,by omega,by go_num,rfl,by omega,by omega,fun j x hj hx=>?_,X3⟩
      by_cases e:j=k
      ·subst e
       rw [HG] at hx;injection hx with hx;subst hx;exact h8
      ·exact HA j x (by omega) hx
     case measure=>simp [intOf];omega
   ·go_wp2
    go_ret;exact ⟨⟨_,rfl,.inr ⟨h7,h9,by omega,fun p hp=>by obtain ⟨i,hi,rfl⟩:=List.getElem_of_mem hp;exact h0 i _ (by omega) (aQ0 hi)⟩⟩,hx⟩
theorem Ext.setC {w0:World} (hb:w0.heap.size<=b):∀(vs:List Value) (o:Nat) {w:World},Ext w0 w->Ext w0 (w.setCells b o vs)
 | [],_,_,h=>h
 | _::r,_,_,h=>Ext.setC hb r _ (h.setCell hb _)
theorem Blk.setC {g:Nat} {cs:List Value} (ne:g≠b):∀(vs:List Value) (o:Nat) {w:World},Blk w g t cs->Blk (w.setCells b o vs) g t cs
 | [],_,_,h=>h
 | v::r,_,_,h=>Blk.setC ne r _ (h.other (a:=⟨b,_,none⟩) ne v)
theorem bE.stepN:∀(xs:List Int) (c:Nat) (w:World),bE w b t n (lB f c)->(∀j x,xs[j]?=some x->x=f (c+j))->bE (w.setCells b c (xs.map (aT0 .i64))) b t n (lB f (c+xs.length))
 | [],c,w,h,_=>h
 | x::r,c,w,h,hx=>by
  have h0:=h.step (i:=c) (x:=x) rfl (hx 0 x rfl);have h1:=bE.stepN r (c+1) _ h0 (fun j y hj=>by rw [hx (j+1) y hj];congr 1;omega);rw [aR3,show c+(r.length+1)=c+1+r.length by omega];exact h1
theorem bE.there (h:bE w b t n f) {m:Nat} (hm:o+m<=n):w.there b o m:=fun j hj=>
 ⟨by rw [h.cell (i:=o+j) (by omega)];rfl,h.frozen _⟩
theorem bE.rangeL (h:bE w b t n f) (xs:List Int) (hm:o+xs.length<=n) (hx:∀j x,xs[j]?=some x->x=f (o+j)):w.rangeAt b o (xs.map (aT0 .i64)):=fun j v hj=>by
 rw [List.getElem?_map] at hj
 cases hx':xs[j]? with
 | none=>rw [hx'] at hj;cases hj
 | some x=>
  rw [hx'] at hj;have hl:=(aQq.1 hx').1;have e:=hx j x hx';rw [h.cell (i:=o+j) (by omega),<-e];exact hj
theorem aCi {i:Nat} (h:i<26):i=0\/i=1\/i=2\/i=3\/i=4\/i=5\/i=6\/i=7\/i=8\/i=9\/i=10\/i=11\/i=12\/i=13\/i=14\/i=15\/i=16\/i=17\/i=18\/i=19\/i=20\/i=21\/i=22\/i=23\/i=24\/i=25:=by omega
theorem aGq (hb:w.heap.size=b):bE (w.alloc (.cells #[(),(),(),(),(),(),(),(),(),(),(),(),(),(),(),(),(),(),(),(),(),(),(),(),(),()] t)) b t 26 (fun _=>0):=
 hb▸World.rowIs_alloc _ _ _ _ fun i hi=>by rcases aCi hi with h|h|h|h|h|h|h|h|h|h|h|h|h|h|h|h|h|h|h|h|h|h|h|h|h|h <;> subst h <;> rfl
theorem aNp (f:Nat->Int):∀j x,([f 0,f 1,f 2,f 3,f 4,f 5,f 6,f 7,f 8,f 9,f 10,f 11,f 12,f 13,f 14,f 15,f 16,f 17,f 18,f 19,f 20,f 21,f 22,f 23,f 24,f 25]:List Int)[j]?=some x->x=f j:=by
 intro j x h;have hl:=(aQq.1 h).1
 rcases aCi hl with e|e|e|e|e|e|e|e|e|e|e|e|e|e|e|e|e|e|e|e|e|e|e|e|e|e <;> subst e <;> exact (aSm h).symm
theorem aHt (f:Nat->Int) (c:Nat):∀j x,([f (c+0),f (c+1),f (c+2),f (c+3),f (c+4),f (c+5),f (c+6),f (c+7),f (c+8),f (c+9),f (c+10),f (c+11)]:List Int)[j]?=some x->x=f (c+j):=by
 intro j x h;have hl:=(aQq.1 h).1
 rcases aJ8 hl with e|e|e|e|e|e|e|e|e|e|e|e <;> subst e <;> exact (aSm h).symm
theorem aEm:(Tryz.prog.info? 125).map (·.size)=some 12:=by kernel_rfl
theorem zK (f:Nat->Int) (w:World):R_ 80 #[.agg #[(f 0),(f 1),(f 2),(f 3),(f 4),(f 5),(f 6),(f 7),(f 8),(f 9),(f 10),(f 11),(f 12),(f 13),(f 14),(f 15),(f 16),(f 17),(f 18),(f 19),(f 20),(f 21),(f 22),(f 23),(f 24),(f 25)]] w (.agg #[(f 0),(f 1),(f 2),(f 3),(f 4),(f 5),(f 6),(f 7),(f 8),(f 9),(f 10),(f 11),(f 12),(f 13),(f 14),(f 15),(f 16),(f 17),(f 18),(f 19),(f 20),(f 21),(f 22),(f 23),(f 24),(f 25)]):=by
 have b0:=(aQx w 134 [(f 0),(f 1),(f 2),(f 3),(f 4),(f 5),(f 6),(f 7),(f 8),(f 9),(f 10),(f 11),(f 12),(f 13),(f 14),(f 15),(f 16),(f 17),(f 18),(f 19),(f 20),(f 21),(f 22),(f 23),(f 24),(f 25)]).ext (show Ext (w.alloc (.cells #[(f 0),(f 1),(f 2),(f 3),(f 4),(f 5),(f 6),(f 7),(f 8),(f 9),(f 10),(f 11),(f 12),(f 13),(f 14),(f 15),(f 16),(f 17),(f 18),(f 19),(f 20),(f 21),(f 22),(f 23),(f 24),(f 25)] 134)) (((w.alloc (.cells #[(f 0),(f 1),(f 2),(f 3),(f 4),(f 5),(f 6),(f 7),(f 8),(f 9),(f 10),(f 11),(f 12),(f 13),(f 14),(f 15),(f 16),(f 17),(f 18),(f 19),(f 20),(f 21),(f 22),(f 23),(f 24),(f 25)] 134)).alloc (.cells #[(),(),(),(),(),(),(),(),(),(),(),(),(),(),(),(),(),(),(),(),(),(),(),(),(),()] 127)).alloc (.cells #[(),(),(),(),(),(),(),(),(),(),(),(),(),(),(),(),(),(),(),(),(),(),(),(),(),()] 127)) from X_);have r0:=(aQx (w.alloc (.cells #[(f 0),(f 1),(f 2),(f 3),(f 4),(f 5),(f 6),(f 7),(f 8),(f 9),(f 10),(f 11),(f 12),(f 13),(f 14),(f 15),(f 16),(f 17),(f 18),(f 19),(f 20),(f 21),(f 22),(f 23),(f 24),(f 25)] 134)) 127 [(),(),(),(),(),(),(),(),(),(),(),(),(),(),(),(),(),(),(),(),(),(),(),(),(),()]).ext (show Ext ((w.alloc (.cells #[(f 0),(f 1),(f 2),(f 3),(f 4),(f 5),(f 6),(f 7),(f 8),(f 9),(f 10),(f 11),(f 12),(f 13),(f 14),(f 15),(f 16),(f 17),(f 18),(f 19),(f 20),(f 21),(f 22),(f 23),(f 24),(f 25)] 134)).alloc (.cells #[(),(),(),(),(),(),(),(),(),(),(),(),(),(),(),(),(),(),(),(),(),(),(),(),(),()] 127)) (((w.alloc (.cells #[(f 0),(f 1),(f 2),(f 3),(f 4),(f 5),(f 6),(f 7),(f 8),(f 9),(f 10),(f 11),(f 12),(f 13),(f 14),(f 15),(f 16),(f 17),(f 18),(f 19),(f 20),(f 21),(f 22),(f 23),(f 24),(f 25)] 134)).alloc (.cells #[(),(),(),(),(),(),(),(),(),(),(),(),(),(),(),(),(),(),(),(),(),(),(),(),(),()] 127)).alloc (.cells #[(),(),(),(),(),(),(),(),(),(),(),(),(),(),(),(),(),(),(),(),(),(),(),(),(),()] 127)) from X_);have t0:=bE.zero (f:=f) (aGq (w:=((w.alloc (.cells #[(f 0),(f 1),(f 2),(f 3),(f 4),(f 5),(f 6),(f 7),(f 8),(f 9),(f 10),(f 11),(f 12),(f 13),(f 14),(f 15),(f 16),(f 17),(f 18),(f 19),(f 20),(f 21),(f 22),(f 23),(f 24),(f 25)] 134)).alloc (.cells #[(),(),(),(),(),(),(),(),(),(),(),(),(),(),(),(),(),(),(),(),(),(),(),(),(),()] 127))) (t:=127) rfl);simp only [aQp] at r0 t0;have x0:Ext w (((w.alloc (.cells #[(f 0),(f 1),(f 2),(f 3),(f 4),(f 5),(f 6),(f 7),(f 8),(f 9),(f 10),(f 11),(f 12),(f 13),(f 14),(f 15),(f 16),(f 17),(f 18),(f 19),(f 20),(f 21),(f 22),(f 23),(f 24),(f 25)] 134)).alloc (.cells #[(),(),(),(),(),(),(),(),(),(),(),(),(),(),(),(),(),(),(),(),(),(),(),(),(),()] 127)).alloc (.cells #[(),(),(),(),(),(),(),(),(),(),(),(),(),(),(),(),(),(),(),(),(),(),(),(),(),()] 127)):=X_;have B0:=hid b0;have R0:=hid r0;have T0:=hid t0;have X0:=hid x0;clear b0 r0 t0 x0;go_enter func80,ntmps80;go_upto_region 2 with fail
 obtain ⟨WA,h2⟩:∃WA,(((w.alloc (.cells #[(f 0),(f 1),(f 2),(f 3),(f 4),(f 5),(f 6),(f 7),(f 8),(f 9),(f 10),(f 11),(f 12),(f 13),(f 14),(f 15),(f 16),(f 17),(f 18),(f 19),(f 20),(f 21),(f 22),(f 23),(f 24),(f 25)] 134)).alloc (.cells #[(),(),(),(),(),(),(),(),(),(),(),(),(),(),(),(),(),(),(),(),(),(),(),(),(),()] 127)).alloc (.cells #[(),(),(),(),(),(),(),(),(),(),(),(),(),(),(),(),(),(),(),(),(),(),(),(),(),()] 127))=WA:=⟨_,rfl⟩
 rw [h2] at B0 R0 T0 X0 ⊢;clear h2;obtain ⟨c0,c1,c2,c3,c4,c5,c6,c7,c8,c9,h5,h6⟩:=B0.q12;have cl:=B0.lt;go_wp2_with fail;refine r_ (tX (f 0) (f 1) (f 2) (f 3) (f 4) (f 5) (f 6) (f 7) (f 8) (f 9) (f 10) (f 11) _) fun w1 x1=>?_;clear c0 c1 c2 c3 c4 c5 c6 c7 c8 c9 h5 h6 cl;have B1:=hid (B0.ext x1);have R1:=hid (R0.ext x1);have T1:=hid (T0.ext x1);have X1:=hid (X0.trans x1);clear B0 R0 T0 X0 x1;go_upto_region 3 with (show wpList _ _ _ [_] _ _;refine wpList_store_mid rfl _ _ _ rfl (w.heap.size+1+1) 0 f rfl rfl (T1.there (m:=12) (by decide)) aEm (by kernel_rfl) ?_);have B2:=hid (B1.setC (b:=w.heap.size+1+1) (by omega) f 0);have R2:=hid (R1.setC (b:=w.heap.size+1+1) (by omega) f 0);have T2:=hid (bE.stepN [f 0,f 1,f 2,f 3,f 4,f 5,f 6,f 7,f 8,f 9,f 10,f 11] 0 _ T1 (by first|exact aHt f 0|(intro j x h;rw [aRl];have:=aHt f 0 j x;simpa using this h)));have X2:=hid (X1.setC (b:=w.heap.size+1+1) (by omega) f 0);simp only [aSu,aVy,aR3,aSx,aRl,aTp] at T2
 obtain ⟨z0,h0⟩:∃W,w1.setCells (w.heap.size+1+1) 0 f=W:=⟨_,rfl⟩
 rw [h0] at B2 R2 T2 X2
 show Code.wp _ _ _ _ (w1.setCells (w.heap.size+1+1) 0 f)
 rw [h0];clear h0 B1 R1 T1 X1;have h7:=B2.cell 12 rfl;have h8:=B2.cell 13 rfl;have h9:=B2.cell 14 rfl;have q0:=B2.cell 15 rfl;have q1:=B2.cell 16 rfl;have q2:=B2.cell 17 rfl;have q3:=B2.cell 18 rfl;have q4:=B2.cell 19 rfl;have q5:=B2.cell 20 rfl;have q6:=B2.cell 21 rfl;have q7:=B2.cell 22 rfl;have q8:=B2.cell 23 rfl;have cl:=B2.lt;go_wp2_with fail;refine r_ (tX (f 12) (f 13) (f 14) (f 15) (f 16) (f 17) (f 18) (f 19) (f 20) (f 21) (f 22) (f 23) _) fun w2 x2=>?_;clear h7 h8 h9 q0 q1 q2 q3 q4 q5 q6 q7 q8 cl;have B3:=hid (B2.ext x2);have R3:=hid (R2.ext x2);have T3:=hid (T2.ext x2);have X3:=hid (X2.trans x2);clear B2 R2 T2 X2 x2;go_upto_region 4 with (show wpList _ _ _ [_] _ _;refine wpList_store_mid rfl _ _ _ rfl (w.heap.size+1+1) 12 #[(f 12),(f 13),(f 14),(f 15),(f 16),(f 17),(f 18),(f 19),(f 20),(f 21),(f 22),(f 23)] rfl rfl (T3.there (m:=12) (by decide)) aEm (by kernel_rfl) ?_);have B4:=hid (B3.setC (b:=w.heap.size+1+1) (by omega) [(f 12),(f 13),(f 14),(f 15),(f 16),(f 17),(f 18),(f 19),(f 20),(f 21),(f 22),(f 23)] 12);have R4:=hid (R3.setC (b:=w.heap.size+1+1) (by omega) [(f 12),(f 13),(f 14),(f 15),(f 16),(f 17),(f 18),(f 19),(f 20),(f 21),(f 22),(f 23)] 12);have T4:=hid (bE.stepN [f 12,f 13,f 14,f 15,f 16,f 17,f 18,f 19,f 20,f 21,f 22,f 23] 12 _ T3 (by first|exact aHt f 12|(intro j x h;rw [aRl];have:=aHt f 0 j x;simpa using this h)));have X4:=hid (X3.setC (b:=w.heap.size+1+1) (by omega) [(f 12),(f 13),(f 14),(f 15),(f 16),(f 17),(f 18),(f 19),(f 20),(f 21),(f 22),(f 23)] 12);simp only [aSu,aVy,aR3,aSx,aRl,aTp] at T4
 obtain ⟨h4,h1⟩:∃W,w2.setCells (w.heap.size+1+1) 12 [(f 12),(f 13),(f 14),(f 15),(f 16),(f 17),(f 18),(f 19),(f 20),(f 21),(f 22),(f 23)]=W:=⟨_,rfl⟩
 rw [h1] at B4 R4 T4 X4
 show Code.wp _ _ _ _ (w2.setCells (w.heap.size+1+1) 12 [(f 12),(f 13),(f 14),(f 15),(f 16),(f 17),(f 18),(f 19),(f 20),(f 21),(f 22),(f 23)])
 rw [h1];clear h1 B3 R3 T3 X3;have q9:=B4.cell 24 rfl;have x3:=B4.cell 25 rfl;have cl:=B4.lt;have x4:=T4.cell (i:=24) (by decide);have x5:=T4.cell (i:=25) (by decide);have x6:=T4.frozen 24;have x7:=T4.frozen 25;have tl:=T4.lt;have T5:=hid (bE.step (bE.step T4 rfl rfl) rfl rfl);have R5:=hid ((R4.other (a:=⟨w.heap.size+1+1,24,none⟩) (by simp) (.int .i64 (f 24))).other (a:=⟨w.heap.size+1+1,25,none⟩) (by simp) (.int .i64 (f 25)));have X5:=hid ((X4.setCell (p:=⟨w.heap.size+1+1,24,none⟩) (by simp;omega) (.int .i64 (f 24))).setCell (p:=⟨w.heap.size+1+1,25,none⟩) (by simp;omega) (.int .i64 (f 25)));clear B4 R4 X4;go_upto_region 6 with fail
 obtain ⟨WC,h3⟩:∃W,((h4.setCell ⟨w.heap.size+1+1,24,none⟩ (f 24)).setCell ⟨w.heap.size+1+1,25,none⟩ (f 25))=W:=⟨_,rfl⟩
 rw [h3] at T5 R5 X5 ⊢;clear h3 q9 x3 cl x4 x5 x6 x7 tl T4;have x9:=(bE.full T5).rangeL (o:=0) [f 0,f 1,f 2,f 3,f 4,f 5,f 6,f 7,f 8,f 9,f 10,f 11,f 12,f 13,f 14,f 15,f 16,f 17,f 18,f 19,f 20,f 21,f 22,f 23,f 24,f 25] (by simp) (fun j x h=>by rw [aRl];exact aNp f j x h);have x8:WC.heap[w.heap.size+1]?=some (.cells #[(),(),(),(),(),(),(),(),(),(),(),(),(),(),(),(),(),(),(),(),(),(),(),(),(),()] 127 (0,0)):=R5;go_wp2_with (first|(show wpList _ _ _ [_,_] _ _;refine wpList_load_mid rfl _ _ rfl (w.heap.size+1+1) 0 rfl [(f 0),(f 1),(f 2),(f 3),(f 4),(f 5),(f 6),(f 7),(f 8),(f 9),(f 10),(f 11),(f 12),(f 13),(f 14),(f 15),(f 16),(f 17),(f 18),(f 19),(f 20),(f 21),(f 22),(f 23),(f 24),(f 25)] _ x9 underlying127 rfl iG ?_)|(show wpList _ _ _ [_] _ _;refine wpList_store_rowTo rfl _ _ _ rfl rfl (w.heap.size+1) #[(f 0),(f 1),(f 2),(f 3),(f 4),(f 5),(f 6),(f 7),(f 8),(f 9),(f 10),(f 11),(f 12),(f 13),(f 14),(f 15),(f 16),(f 17),(f 18),(f 19),(f 20),(f 21),(f 22),(f 23),(f 24),(f 25)] rfl rfl _ _ x8 iG rfl (by kernel_rfl) ?_));have bR:=R5.rowB [(f 0),(f 1),(f 2),(f 3),(f 4),(f 5),(f 6),(f 7),(f 8),(f 9),(f 10),(f 11),(f 12),(f 13),(f 14),(f 15),(f 16),(f 17),(f 18),(f 19),(f 20),(f 21),(f 22),(f 23),(f 24),(f 25)];have xR:=X5.setRowB (g:=w.heap.size+1) (by omega) #[(f 0),(f 1),(f 2),(f 3),(f 4),(f 5),(f 6),(f 7),(f 8),(f 9),(f 10),(f 11),(f 12),(f 13),(f 14),(f 15),(f 16),(f 17),(f 18),(f 19),(f 20),(f 21),(f 22),(f 23),(f 24),(f 25)];refine aCa rfl rfl bR _ underlying127 rfl iG rfl ?_;exact ⟨rfl,xR⟩
theorem xT (f:Nat->Int) (w:World):R_ 84 #[.agg #[(f 0),(f 1),(f 2),(f 3),(f 4),(f 5),(f 6),(f 7),(f 8),(f 9),(f 10),(f 11),(f 12),(f 13),(f 14),(f 15),(f 16),(f 17),(f 18),(f 19),(f 20),(f 21),(f 22),(f 23),(f 24),(f 25)],.agg #[(f 0),(f 1),(f 2),(f 3),(f 4),(f 5),(f 6),(f 7),(f 8),(f 9),(f 10),(f 11),(f 12),(f 13),(f 14),(f 15),(f 16),(f 17),(f 18),(f 19),(f 20),(f 21),(f 22),(f 23),(f 24),(f 25)]] w (.bool true):=by
 have b0:=(aQx w 127 [(f 0),(f 1),(f 2),(f 3),(f 4),(f 5),(f 6),(f 7),(f 8),(f 9),(f 10),(f 11),(f 12),(f 13),(f 14),(f 15),(f 16),(f 17),(f 18),(f 19),(f 20),(f 21),(f 22),(f 23),(f 24),(f 25)]).ext (show Ext (w.alloc (.cells #[(f 0),(f 1),(f 2),(f 3),(f 4),(f 5),(f 6),(f 7),(f 8),(f 9),(f 10),(f 11),(f 12),(f 13),(f 14),(f 15),(f 16),(f 17),(f 18),(f 19),(f 20),(f 21),(f 22),(f 23),(f 24),(f 25)] 127)) ((w.alloc (.cells #[(f 0),(f 1),(f 2),(f 3),(f 4),(f 5),(f 6),(f 7),(f 8),(f 9),(f 10),(f 11),(f 12),(f 13),(f 14),(f 15),(f 16),(f 17),(f 18),(f 19),(f 20),(f 21),(f 22),(f 23),(f 24),(f 25)] 127)).alloc (.cells #[(f 0),(f 1),(f 2),(f 3),(f 4),(f 5),(f 6),(f 7),(f 8),(f 9),(f 10),(f 11),(f 12),(f 13),(f 14),(f 15),(f 16),(f 17),(f 18),(f 19),(f 20),(f 21),(f 22),(f 23),(f 24),(f 25)] 127)) from X_);have r0:=aQx (w.alloc (.cells #[(f 0),(f 1),(f 2),(f 3),(f 4),(f 5),(f 6),(f 7),(f 8),(f 9),(f 10),(f 11),(f 12),(f 13),(f 14),(f 15),(f 16),(f 17),(f 18),(f 19),(f 20),(f 21),(f 22),(f 23),(f 24),(f 25)] 127)) 127 [(f 0),(f 1),(f 2),(f 3),(f 4),(f 5),(f 6),(f 7),(f 8),(f 9),(f 10),(f 11),(f 12),(f 13),(f 14),(f 15),(f 16),(f 17),(f 18),(f 19),(f 20),(f 21),(f 22),(f 23),(f 24),(f 25)];rw [aQp] at r0;have X0:=hid (show Ext w ((w.alloc (.cells #[(f 0),(f 1),(f 2),(f 3),(f 4),(f 5),(f 6),(f 7),(f 8),(f 9),(f 10),(f 11),(f 12),(f 13),(f 14),(f 15),(f 16),(f 17),(f 18),(f 19),(f 20),(f 21),(f 22),(f 23),(f 24),(f 25)] 127)).alloc (.cells #[(f 0),(f 1),(f 2),(f 3),(f 4),(f 5),(f 6),(f 7),(f 8),(f 9),(f 10),(f 11),(f 12),(f 13),(f 14),(f 15),(f 16),(f 17),(f 18),(f 19),(f 20),(f 21),(f 22),(f 23),(f 24),(f 25)] 127)) from X_);have B0:=hid b0;have R0:=hid r0;clear b0 r0;go_enter func84,ntmps84;go_upto_region 1 with fail
 obtain ⟨WA,h0⟩:∃WA,((w.alloc (.cells #[(f 0),(f 1),(f 2),(f 3),(f 4),(f 5),(f 6),(f 7),(f 8),(f 9),(f 10),(f 11),(f 12),(f 13),(f 14),(f 15),(f 16),(f 17),(f 18),(f 19),(f 20),(f 21),(f 22),(f 23),(f 24),(f 25)] 127)).alloc (.cells #[(f 0),(f 1),(f 2),(f 3),(f 4),(f 5),(f 6),(f 7),(f 8),(f 9),(f 10),(f 11),(f 12),(f 13),(f 14),(f 15),(f 16),(f 17),(f 18),(f 19),(f 20),(f 21),(f 22),(f 23),(f 24),(f 25)] 127))=WA:=⟨_,rfl⟩
 rw [h0] at B0 R0 X0 ⊢;clear h0;have c0:=B0.cell 0 rfl;have d0:=R0.cell 0 rfl;have c1:=B0.cell 1 rfl;have d1:=R0.cell 1 rfl;have c2:=B0.cell 2 rfl;have d2:=R0.cell 2 rfl;have c3:=B0.cell 3 rfl;have d3:=R0.cell 3 rfl;have c4:=B0.cell 4 rfl;have d4:=R0.cell 4 rfl;have c5:=B0.cell 5 rfl;have d5:=R0.cell 5 rfl;have c6:=B0.cell 6 rfl;have d6:=R0.cell 6 rfl;have c7:=B0.cell 7 rfl;have d7:=R0.cell 7 rfl;have c8:=B0.cell 8 rfl;have d8:=R0.cell 8 rfl;have c9:=B0.cell 9 rfl;have d9:=R0.cell 9 rfl;have h1:=B0.cell 10 rfl;have q5:=R0.cell 10 rfl;have h2:=B0.cell 11 rfl;have q6:=R0.cell 11 rfl;have cl:=B0.lt;have dl:=R0.lt;go_wp2_with fail;refine r_ (rL (f 0) (f 1) (f 2) (f 3) (f 4) (f 5) (f 6) (f 7) (f 8) (f 9) (f 10) (f 11) _) fun w1 x1=>?_;have B1:=hid (B0.ext x1);have R1:=hid (R0.ext x1);have X1:=hid (X0.trans x1);clear B0 R0 X0 x1 cl dl c0 d0 c1 d1 c2 d2 c3 d3 c4 d4 c5 d5 c6 d6 c7 d7 c8 d8 c9 d9 h1 q5 h2 q6;have h3:=B1.cell 12 rfl;have q7:=R1.cell 12 rfl;have h4:=B1.cell 13 rfl;have q8:=R1.cell 13 rfl;have h5:=B1.cell 14 rfl;have q9:=R1.cell 14 rfl;have h6:=B1.cell 15 rfl;have x0:=R1.cell 15 rfl;have h7:=B1.cell 16 rfl;have x3:=R1.cell 16 rfl;have h8:=B1.cell 17 rfl;have x4:=R1.cell 17 rfl;have h9:=B1.cell 18 rfl;have x5:=R1.cell 18 rfl;have q0:=B1.cell 19 rfl;have x6:=R1.cell 19 rfl;have q1:=B1.cell 20 rfl;have x7:=R1.cell 20 rfl;have q2:=B1.cell 21 rfl;have x8:=R1.cell 21 rfl;have q3:=B1.cell 22 rfl;have x9:=R1.cell 22 rfl;have q4:=B1.cell 23 rfl;have z0:=R1.cell 23 rfl;have cl:=B1.lt;have dl:=R1.lt;go_wp2_with fail;refine r_ (rL (f 12) (f 13) (f 14) (f 15) (f 16) (f 17) (f 18) (f 19) (f 20) (f 21) (f 22) (f 23) _) fun w2 x2=>?_;have B2:=hid (B1.ext x2);have R2:=hid (R1.ext x2);have X2:=hid (X1.trans x2);clear B1 R1 X1 x2 cl dl h3 q7 h4 q8 h5 q9 h6 x0 h7 x3 h8 x4 h9 x5 q0 x6 q1 x7 q2 x8 q3 x9 q4 z0;have z1:=B2.cell 24 rfl;have z2:=B2.cell 25 rfl;have z3:=R2.cell 24 rfl;have z4:=R2.cell 25 rfl;have cl:=B2.lt;have dl:=R2.lt;go_wp2;go_ret;exact ⟨rfl,X2⟩
theorem aJg:(Tryz.prog.info? 127).map (fun i=>(i.zero,i.size,i.bytes))=some (some (.agg #[(),(),(),(),(),(),(),(),(),(),(),(),(),(),(),(),(),(),(),(),(),(),(),(),(),()]),26,208):=by kernel_rfl
theorem aJh:(Tryz.prog.info? 134).map (fun i=>i.size)=some 26:=by kernel_rfl
theorem aCj {g:Nat->Int} (h:∀j,j<26->w.cell? ⟨b,o+j,none⟩=some (.int .i64 (g j))):w.rangeAt b o [(g 0),(g 1),(g 2),(g 3),(g 4),(g 5),(g 6),(g 7),(g 8),(g 9),(g 10),(g 11),(g 12),(g 13),(g 14),(g 15),(g 16),(g 17),(g 18),(g 19),(g 20),(g 21),(g 22),(g 23),(g 24),(g 25)]:=by
 intro q v hq;have hl:=(aQq.1 hq).1
 rcases aCi hl with e|e|e|e|e|e|e|e|e|e|e|e|e|e|e|e|e|e|e|e|e|e|e|e|e|e <;> subst e <;> exact (h _ (by decide)).trans hq
theorem xU (lo hi:Nat) (u:Value) (n:Nat) (f:Nat->Int) (w:World) (hu:cY 26 lo hi w u n f) (hh:hi<=w.heap.size) (hsz:n<=1048576) :
  Calls aQt 39 #[u] w fun e w'=>e = .returned (.slice (some ⟨w.heap.size,0,none⟩) n n)/\bE w' w.heap.size 127 (n*26) f/\Ext w w':=by
 obtain ⟨i0,h5,h7,h8,h9⟩:=info_parts aJg;obtain ⟨a,cap,rfl,HU⟩:=hu.open;clear hu;have q4:=HU.cap;have q8:=HU.le;have q2:=hid HU;clear HU;go_enter func39,ntmps39;go_wp2_with (at_make;refine wpList_make_full _ rfl _ _ 38 rfl w.heap.size 127 i0 _ 26 underlying38 h5 h7 h8 _ _ _ _ n rfl rfl rfl rfl (by rw [h9];omega) (by unfold maxLen;omega) (aQo _) ?_);intro w1 h3 h1;have hx:Ext w w1:=(aQy w).grown h1 (fun k h=>by cases h);have h0:=hid (bE.zero (f:=f) (aA3 (aHx (k:=26) rfl (by decide) _) h3));clear h3 h1 h5 h7 h8 h9;go_wp2
 go_loopw [4] (fun i wr=>∃k:Nat,k<=n/\i = .int .i64 k/\Ext w wr/\bE wr w.heap.size 127 (n*26) (lB f (k*26))) (fun i _=>n - (intOf i).toNat)
 case atStart=>exact ⟨0,by omega,rfl,hx,by simpa using h0.out⟩
 case round=>
  clear hx h0;obtain ⟨k,hk,rfl,hx,h0⟩:=hrel
  by_cases h6:k<n
  ·obtain ⟨b,q0,rfl,q6,q7,hc⟩:=q2.at h6 (by decide)
   have q5:=eT (k:=26) (j:=25) h6 (by decide)
   obtain ⟨g,hg⟩:∃g:Nat->Int,g=fun j=>f (k*26+j):=⟨_,rfl⟩
   have h4:wr.rangeAt b (q0+k*26) [(g 0),(g 1),(g 2),(g 3),(g 4),(g 5),(g 6),(g 7),(g 8),(g 9),(g 10),(g 11),(g 12),(g 13),(g 14),(g 15),(g 16),(g 17),(g 18),(g 19),(g 20),(g 21),(g 22),(g 23),(g 24),(g 25)]:=aCj fun j hj=>((hx.cells.1 b _ (by omega)).trans (hc j hj)).trans (by rw [hg]);have HG:=hid hg;have HX:=hid hx;have HR:=hid h0
   have bl:b<wr.heap.size:=by have:=hx.size;omega
   clear hc hx h0 hg;go_wp2_with (show wpList _ _ _ [_,_,_,_] _ _;refine wpList_load_mid rfl _ _ rfl b (q0+k*26) rfl [(g 0),(g 1),(g 2),(g 3),(g 4),(g 5),(g 6),(g 7),(g 8),(g 9),(g 10),(g 11),(g 12),(g 13),(g 14),(g 15),(g 16),(g 17),(g 18),(g 19),(g 20),(g 21),(g 22),(g 23),(g 24),(g 25)] _ h4 underlying134 rfl aJh ?_);refine r_ (zK g _) fun w2 h2=>?_;have hR:=HR.ext h2;have hX:=HX.trans h2;have ht:=hR.there (o:=k*26) (m:=26) (by omega);have q3:=hid (hX.setC (b:=w.heap.size) (aQo _) [(g 0),(g 1),(g 2),(g 3),(g 4),(g 5),(g 6),(g 7),(g 8),(g 9),(g 10),(g 11),(g 12),(g 13),(g 14),(g 15),(g 16),(g 17),(g 18),(g 19),(g 20),(g 21),(g 22),(g 23),(g 24),(g 25)] (k*26));have q1:=hid (bE.stepN [g 0,g 1,g 2,g 3,g 4,g 5,g 6,g 7,g 8,g 9,g 10,g 11,g 12,g 13,g 14,g 15,g 16,g 17,g 18,g 19,g 20,g 21,g 22,g 23,g 24,g 25] (k*26) _ hR (fun j x h=>by have:=aNp g j x h;rw [this,HG]));clear HX HR h2 hX hR h4;go_wp2_with (show wpList _ _ _ [_] _ _;refine wpList_store_mid rfl _ _ _ rfl w.heap.size (k*26) #[(g 0),(g 1),(g 2),(g 3),(g 4),(g 5),(g 6),(g 7),(g 8),(g 9),(g 10),(g 11),(g 12),(g 13),(g 14),(g 15),(g 16),(g 17),(g 18),(g 19),(g 20),(g 21),(g 22),(g 23),(g 24),(g 25)] rfl rfl ht fQ (by kernel_rfl) ?_);clear ht;go_roundw
   case rel=>
    refine ⟨k+1,by omega,by go_num,q3,?_⟩;rw [aS4,aS5];exact q1
   case measure=>simp [intOf];omega
  ·go_wp2
   go_ret
   obtain rfl:k=n:=by omega
   exact ⟨rfl,h0.full,hx⟩
theorem uQ (lo hi lo' hi':Nat) (u v:Value) (n:Nat) (f:Nat->Int) (w:World) (hu:cY 26 lo hi w u n f) (hv:cY 26 lo' hi' w v n f) (hh:hi<=w.heap.size) (hh':hi'<=w.heap.size) :
  R_ 44 #[u,v] w (.bool true):=by
 obtain ⟨a,cap,rfl,HU⟩:=cY.open hu;obtain ⟨a',q0,rfl,HV⟩:=cY.open hv;clear hu hv;have h1:=HU.le;have h2:=HU.cap;have q3:=HV.le;have q4:=HV.cap;have h8:=hid HU;have h9:=hid HV;clear HU HV;go_enter func44,ntmps44;go_wp2
 go_loopw [5] (fun i wr=>∃k:Nat,k<=n/\i = .int .i64 k/\Ext w wr) (fun i _=>n - (intOf i).toNat)
 case atStart=>exact ⟨0,by omega,rfl,X_⟩
 case round=>
  obtain ⟨k,hk,rfl,hx⟩:=hrel
  by_cases h4:k<n
  ·obtain ⟨b,h5,rfl,q5,q6,hc⟩:=h8.at h4 (by decide)
   obtain ⟨b',h0,rfl,q1,q2,h3⟩:=h9.at h4 (by decide)
   obtain ⟨g,hg⟩:∃g:Nat->Int,g=fun j=>f (k*26+j):=⟨_,rfl⟩
   have h6:=hid (show wr.rangeAt b (h5+k*26) [(g 0),(g 1),(g 2),(g 3),(g 4),(g 5),(g 6),(g 7),(g 8),(g 9),(g 10),(g 11),(g 12),(g 13),(g 14),(g 15),(g 16),(g 17),(g 18),(g 19),(g 20),(g 21),(g 22),(g 23),(g 24),(g 25)] from aCj fun j hj=>((hx.cells.1 b _ (by omega)).trans (hc j hj)).trans (by rw [hg]));have h7:=hid (show wr.rangeAt b' (h0+k*26) [(g 0),(g 1),(g 2),(g 3),(g 4),(g 5),(g 6),(g 7),(g 8),(g 9),(g 10),(g 11),(g 12),(g 13),(g 14),(g 15),(g 16),(g 17),(g 18),(g 19),(g 20),(g 21),(g 22),(g 23),(g 24),(g 25)] from aCj fun j hj=>((hx.cells.1 b' _ (by omega)).trans (h3 j hj)).trans (by rw [hg]))
   have s1:b<wr.heap.size:=by have:=hx.size;omega
   have s2:b'<wr.heap.size:=by have:=hx.size;omega
   have HX:=hid hx;clear hc h3 hx hg;go_wp2_with fail;refine aA [([0,1,2,3,4,5,6,7],8),([],9)] 99 wr.heap.size (by kernel_rfl) (by kernel_rfl) ?_;refine st_ (hq:=by intro R h;show wpQuiet _ _ _ _ [_,_,_,_,_,_,_,_] _;go_big_quiet_step (fail);go_big_quiet_step (fail);go_big_quiet_step (fail);refine eN rfl _ _ rfl b (h5+k*26) rfl [(g 0),(g 1),(g 2),(g 3),(g 4),(g 5),(g 6),(g 7),(g 8),(g 9),(g 10),(g 11),(g 12),(g 13),(g 14),(g 15),(g 16),(g 17),(g 18),(g 19),(g 20),(g 21),(g 22),(g 23),(g 24),(g 25)] _ (by rintro _ ⟨d,rfl⟩ j v hj;rw [jC _ _ _ _ s1];exact h6 j v hj) underlying127 rfl iG ?_;simp only [Act.put,aQv,aQ3,aQ2];go_big_quiet_step (fail);go_big_quiet_step (fail);go_big_quiet_step (fail);refine eN rfl _ _ rfl b' (h0+k*26) rfl [(g 0),(g 1),(g 2),(g 3),(g 4),(g 5),(g 6),(g 7),(g 8),(g 9),(g 10),(g 11),(g 12),(g 13),(g 14),(g 15),(g 16),(g 17),(g 18),(g 19),(g 20),(g 21),(g 22),(g 23),(g 24),(g 25)] _ (by rintro _ ⟨d,rfl⟩ j v hj;rw [jC _ _ _ _ s2];exact h7 j v hj) underlying127 rfl iG ?_;simp only [Act.put,aQv,aQ3,aQ2];exact wpQuiet_nil h) fun K hK=>?_;go_wp2_with fail;refine r_ (xT g _) fun w1 h1=>?_;have y1:Ext wr w1:=aQu X_ h1;go_wp2_with fail;refine k_ hK ?_;clear hK K;refine st_ fun K hK=>?_;go_wp2_with fail;refine k_ hK ?_;clear hK K;refine aC ?_;have hX:=HX.trans y1;clear h1 y1 HX;go_wp2;go_roundw
   case rel=>exact ⟨k+1,by omega,by go_num,hX⟩
   case measure=>simp [intOf];omega
  ·go_wp2
   go_ret;exact ⟨rfl,hx⟩
theorem xV (lo hi:Nat) (u:Value) (n:Nat) (f:Nat->Int) (left:Int) (w:World) (hu:cY 26 lo hi w u n f) (h1:0<=left) (h2:left<=1048576) :
  Z_ 34 #[u,left] w (.int .i64 (kZ left n)):=by
 obtain ⟨a,cap,rfl,HU⟩:=hu.open;have h3:=HU.le;have h4:=HU.cap;unfold kZ;go_enter func34,ntmps34;go_wp2
 all_goals go_ret
 all_goals exact ⟨rfl,rfl⟩
theorem xW {left:Int} (h:kZ left n=r) (lo hi:Nat) (u:Value) (f:Nat->Int) (w:World) (hu:cY 26 lo hi w u n f) (h1:0<=left) (h2:left<=1048576) :
  Z_ 34 #[u,left] w (.int .i64 r):=h▸xV lo hi u n f left w hu h1 h2
theorem aCk (a b c d:Int) (e:Bool) (f g:Int) (w:World):Calls aQt 36 #[.agg #[a,b,c,d,.bool e,f,g]] w fun x w'=>x = .returned (.agg #[a,b,c,d,.bool e,f,g])/\Ext w w':=by
 go_enter func36,ntmps36;go_wp2;refine bodyPost_ret (v:=.agg #[a,b,c,d,.bool e,f,g]) (by simp [results,results36,go_sem]) rfl ⟨rfl,?_⟩;exact S_
theorem zL (a b c d:Int) (e:Bool) (f g:Int) (w:World):Calls aQt 41 #[.agg #[a,b,c,d,.bool e,f,g],.agg #[a,b,c,d,.bool e,f,g]] w fun x w'=>x = .returned (.bool true)/\Ext w w':=by
 cases e
 all_goals
  go_enter func41,ntmps41;go_wp2;go_ret;exact ⟨rfl,S_⟩
structure Scn.Sm (s:Scn):Prop where
 small:s.small
 px:s.t.px.length<=1048576
 n:s.ps.length<=1048576
 m:s.m<=1048576
def Scn.bd (s:Scn):Prop:=∀p∈s.ps,p.bd
def Scn.O (s:Scn) (lo hi:Nat) (w:World) (v:Value):Prop:=
 ∃a1 c1 a2 c2 a3 c3,v = .agg #[s.c.w,s.c.h,s.c.zoom,s.c.near,.bool s.c.deep,s.c.lens,s.c.focus,s.t.log,.slice a1 s.t.px.length c1,.slice a2 s.ps.length c2,.slice a3 s.m c3,s.side]/\s.R lo hi w v/\sC lo hi w (.slice a1 s.t.px.length c1) s.t.px.length/\uH lo hi w (.slice a2 s.ps.length c2) s.ps.length/\aEj lo hi w (.slice a3 s.m c3) s.m
theorem aEj.same (h:aEj lo hi w v n) (s:aM lo hi w w'):aEj lo hi w' v n:=by
 obtain ⟨a,cap,h1,h2,h3,h4⟩:=h;exact ⟨a,cap,h1,h2,h3,fun i hi=>by obtain ⟨b,h0,e,k0,k1⟩:=h4 i hi;exact ⟨b,h0,e,k0.same s,k1.same s⟩⟩
theorem Scn.O.R {s:Scn} (h:s.O lo hi w v):s.R lo hi w v:=by
 obtain ⟨_,_,_,_,_,_,rfl,h,_⟩:=h;exact h
theorem Scn.O.form {s:Scn} (h:s.O lo hi w v):∃a1 c1 a2 c2 a3 c3,v = .agg #[s.c.w,s.c.h,s.c.zoom,s.c.near,.bool s.c.deep,s.c.lens,s.c.focus,s.t.log,.slice a1 s.t.px.length c1,.slice a2 s.ps.length c2,.slice a3 s.m c3,s.side]:=by
 obtain ⟨a1,c1,a2,c2,a3,c3,rfl,_⟩:=h;exact ⟨a1,c1,a2,c2,a3,c3,rfl⟩
theorem Scn.O.same {s:Scn} (h:s.O lo hi w v) (k:aM lo hi w w'):s.O lo hi w' v:=by
 obtain ⟨a1,c1,a2,c2,a3,c3,rfl,h1,h2,h3,h4⟩:=h;exact ⟨a1,c1,a2,c2,a3,c3,rfl,h1.same k,h2.same k,h3.same k,h4.same k⟩
theorem Scn.O.kp {s:Scn} (h:s.O lo hi w v) (k:Kp lo hi w w'):s.O lo hi w' v:=h.same k.same
theorem bE.srfsM (h:bE w b 127 (n*26) f) (hl:lo<=b) (hn:n<=1048576):aEj lo w.heap.size w (.slice (some ⟨b,0,none⟩) n n) n:=
 ⟨_,n,rfl,aQo _,by omega,fun i hi=>by
  have h2:=eT (k:=26) (j:=25) hi (by decide)
  exact ⟨b,0,rfl,⟨hl,h.lt,⟨_,by rw [aRl];exact h.cell (by omega)⟩,by rw [aRl];exact h.frozen _⟩,⟨hl,h.lt,⟨_,by rw [aRl];exact h.cell (by omega)⟩,by rw [aRl];exact h.frozen _⟩⟩⟩
theorem aEn (lo hi:Nat) (v:Value) (s:Scn) (left:Int) (w:World) (hv:s.R lo hi w v) (hh:hi<=w.heap.size) (hb:s.bd) (h1:0<=left) (h2:left<=1048576) :
  Calls aQt 9 #[v,left] w fun e w'=>(∃r,e = .returned (.int .i64 r)/\(r = -1\/(0<=r/\r<=left/\s.Sm)))/\Ext w w':=by
 obtain ⟨a1,c1,a2,c2,a3,c3,rfl,-,h0,-,k1,k2,k3⟩:=hv.form;have HT:=hid (show ∀W:World,Ext w W->cN lo hi W (.agg #[s.t.log,.slice a1 s.t.px.length c1]) s.t from fun W x=>⟨_,rfl,h0,(k1.shut).ext hh x⟩);have HP:=hid (show gL lo hi w (.slice a2 s.ps.length c2) s.ps by obtain ⟨tu,pu,su,e,_,_,_,_,h6,_⟩:=hv;simp only [Value.agg.injEq,Array.mk.injEq,List.cons.injEq,and_true,true_and] at e;obtain ⟨-,e2,-⟩:=e;rw [e2];exact h6);have HF:=hid (show cY 26 lo hi w (.slice a3 s.m c3) s.m s.F from k3.shut);have HB:=hid hb;have x0:Ext w (w.alloc (.cells (sA_ s a1 c1 a2 c2 a3 c3) 30)):=X_;have B0:=hid (aQx w 30 (sL_ s a1 c1 a2 c2 a3 c3));have X0:=hid x0;have q2:=k1.cap;have q4:=k2.cap;have q6:=k3.cap;have q3:=k1.le;have q5:=k2.le;have q7:=k3.le;clear hv h0 k1 k2 k3 hb x0
 obtain ⟨r1,h3⟩:∃r,kZ left s.t.px.length=r:=⟨_,rfl⟩
 have h8:=hid h3
 have h5:r1 = -1\/(0<=r1/\r1<=left/\s.t.px.length<=1048576):=by unfold kZ at h3;split at h3 <;> omega
 clear h3;go_enter func9,ntmps9;go_wp2_with fail;refine r_ (yM h8 lo hi _ _ (HT _ X0) (aQw hh X0.size) h1 h2) fun w1 x1=>?_;have B1:=hid (B0.ext x1);have X1:=hid (X0.trans x1);clear B0 X0 x1
 rcases h5 with rfl|⟨g1,g2,g3⟩
 ·go_wp2
  go_ret;exact ⟨⟨_,rfl,.inl rfl⟩,X1⟩
 have n1 : ¬r1<0:=by omega
 have c9:=B1.cell 9 rfl;have cl:=B1.lt;go_wp2_with fail;refine (xS lo hi _ s.ps r1 _ (HP.ext hh X1) (aQw hh X1.size) HB g1 (by omega)).mono ?_;rintro e w2 ⟨⟨r2,rfl,hr2⟩,x2⟩;have B2:=hid (B1.ext x2);have X2:=hid (X1.trans x2);clear B1 X1 x2 c9 cl
 rcases hr2 with rfl|⟨g4,g5,g6,g7⟩
 ·go_wp2
  go_ret;exact ⟨⟨_,rfl,.inl rfl⟩,X2⟩
 have n2 : ¬r2<0:=by omega
 have q0:=hid (show s.small from fun p hp=>⟨HB p hp,g7 p hp⟩)
 obtain ⟨r3,h4⟩:∃r,kZ r2 s.m=r:=⟨_,rfl⟩
 have h9:=hid h4
 have h7:r3 = -1\/(0<=r3/\r3<=r2/\s.m<=1048576):=by unfold kZ at h4;split at h4 <;> omega
 clear h4 g7;have q1:=B2.cell 10 rfl;have cl:=B2.lt;go_wp2_with fail;refine z_ (xW h9 lo hi _ s.F _ (HF.ext hh X2) g4 (by omega)) ?_
 rcases h7 with rfl|⟨g8,g9,g10⟩
 ·go_wp2
  go_ret;exact ⟨⟨_,rfl,.inl rfl⟩,X2⟩
 have n3 : ¬r3<0:=by omega
 go_wp2;go_ret;exact ⟨⟨_,rfl,.inr ⟨g8,by omega,⟨q0,g3,g6,g10⟩⟩⟩,X2⟩
theorem oB (lo hi:Nat) (v:Value) (s:Scn) (w:World) (hv:s.R lo hi w v) (hh:hi<=w.heap.size) (hsz:s.Sm) :
  Calls aQt 11 #[v] w fun e w'=>∃v',e = .returned v'/\s.O w.heap.size w'.heap.size w' v'/\Ext w w':=by
 obtain ⟨a1,c1,a2,c2,a3,c3,rfl,y4,z4,q8,k1,k2,k3⟩:=hv.form;have HT:=hid (show ∀W:World,Ext w W->cN lo hi W (.agg #[s.t.log,.slice a1 s.t.px.length c1]) s.t from fun W x=>⟨_,rfl,z4,(k1.shut).ext hh x⟩);have HP:=hid (show gL lo hi w (.slice a2 s.ps.length c2) s.ps by obtain ⟨tu,pu,su,e,_,_,_,_,h6,_⟩:=hv;simp only [Value.agg.injEq,Array.mk.injEq,List.cons.injEq,and_true,true_and] at e;obtain ⟨-,e2,-⟩:=e;rw [e2];exact h6);have HF:=hid (show cY 26 lo hi w (.slice a3 s.m c3) s.m s.F from k3.shut);have y6:=hid (show ∀i,i<s.m*26->I64 (s.F i) from fun i hi=>(k3.cell i hi).1);have y5:=hid y4;have y7:=hid z4;have y8:=hid q8;have z1:=hsz.px;have z2:=hsz.n;have z3:=hsz.m;have ZS:=hid (show ∀p∈s.ps,p.small from fun p hp=>(hsz.small p hp).2);have x0:Ext w (((w.alloc (.cells (sA_ s a1 c1 a2 c2 a3 c3) 30)).alloc (.cells #[(),(),(),(),.bool false,(),(),(),.slice none 0 0,.slice none 0 0,.slice none 0 0,()] 40)).alloc (.cells #[(),(),(),(),.bool false,(),(),(),.slice none 0 0,.slice none 0 0,.slice none 0 0,()] 40)):=X_;have b0:=(aQx w 30 (sL_ s a1 c1 a2 c2 a3 c3)).ext (show Ext (w.alloc (.cells (sA_ s a1 c1 a2 c2 a3 c3) 30)) (((w.alloc (.cells (sA_ s a1 c1 a2 c2 a3 c3) 30)).alloc (.cells #[(),(),(),(),.bool false,(),(),(),.slice none 0 0,.slice none 0 0,.slice none 0 0,()] 40)).alloc (.cells #[(),(),(),(),.bool false,(),(),(),.slice none 0 0,.slice none 0 0,.slice none 0 0,()] 40)) from X_);have r0:=(aQx (w.alloc (.cells (sA_ s a1 c1 a2 c2 a3 c3) 30)) 40 [(),(),(),(),.bool false,(),(),(),.slice none 0 0,.slice none 0 0,.slice none 0 0,()]).ext (show Ext ((w.alloc (.cells (sA_ s a1 c1 a2 c2 a3 c3) 30)).alloc (.cells #[(),(),(),(),.bool false,(),(),(),.slice none 0 0,.slice none 0 0,.slice none 0 0,()] 40)) (((w.alloc (.cells (sA_ s a1 c1 a2 c2 a3 c3) 30)).alloc (.cells #[(),(),(),(),.bool false,(),(),(),.slice none 0 0,.slice none 0 0,.slice none 0 0,()] 40)).alloc (.cells #[(),(),(),(),.bool false,(),(),(),.slice none 0 0,.slice none 0 0,.slice none 0 0,()] 40)) from X_);have t0:=aQx ((w.alloc (.cells (sA_ s a1 c1 a2 c2 a3 c3) 30)).alloc (.cells #[(),(),(),(),.bool false,(),(),(),.slice none 0 0,.slice none 0 0,.slice none 0 0,()] 40)) 40 [(),(),(),(),.bool false,(),(),(),.slice none 0 0,.slice none 0 0,.slice none 0 0,()];simp only [aQp] at r0 t0;have B0:=hid b0;have R0:=hid r0;have T0:=hid t0;have X0:=hid x0;clear hv y4 z4 q8 k1 k2 k3 hsz b0 r0 t0 x0;go_enter func11,ntmps11;go_upto_region 2 with fail
 obtain ⟨WA,y3⟩:∃WA,(((w.alloc (.cells (sA_ s a1 c1 a2 c2 a3 c3) 30)).alloc (.cells #[(),(),(),(),.bool false,(),(),(),.slice none 0 0,.slice none 0 0,.slice none 0 0,()] 40)).alloc (.cells #[(),(),(),(),.bool false,(),(),(),.slice none 0 0,.slice none 0 0,.slice none 0 0,()] 40))=WA:=⟨_,rfl⟩
 rw [y3] at B0 R0 T0 X0 ⊢;clear y3;obtain ⟨b0,b1,b2,b3,b4,b5,b6⟩:=B0.q7;have bl:=B0.lt;go_wp2_with fail;refine r_ (aCk _ _ _ _ _ _ _ _) fun w1 x1=>?_;clear bl b0 b1 b2 b3 b4 b5 b6;have B1:=hid (B0.ext x1);have R1:=hid (R0.ext x1);have T1:=hid (T0.ext x1);have X1:=hid (X0.trans x1);clear B0 R0 T0 X0;clear x1;have i3:w.heap.size+1+1<w1.heap.size:=T1.lt;have d0:=T1.cell 0 rfl;have e0:=T1.free 0;have d1:=T1.cell 1 rfl;have e1:=T1.free 1;have d2:=T1.cell 2 rfl;have e2:=T1.free 2;have d3:=T1.cell 3 rfl;have e3:=T1.free 3;have d4:=T1.cell 4 rfl;have e4:=T1.free 4;have d5:=T1.cell 5 rfl;have e5:=T1.free 5;have d6:=T1.cell 6 rfl;have e6:=T1.free 6;have dl:=T1.lt;have T2:=hid (((((((T1.set 0 (.int .i64 s.c.w)).set 1 (.int .i64 s.c.h)).set 2 (.int .i64 s.c.zoom)).set 3 (.int .i64 s.c.near)).set 4 (.bool s.c.deep)).set 5 (.int .i64 s.c.lens)).set 6 (.int .i64 s.c.focus));have B2:=hid (((((((B1.other (a:=⟨w.heap.size+1+1,0,none⟩) (by simp <;> omega) (.int .i64 s.c.w)).other (a:=⟨w.heap.size+1+1,1,none⟩) (by simp <;> omega) (.int .i64 s.c.h)).other (a:=⟨w.heap.size+1+1,2,none⟩) (by simp <;> omega) (.int .i64 s.c.zoom)).other (a:=⟨w.heap.size+1+1,3,none⟩) (by simp <;> omega) (.int .i64 s.c.near)).other (a:=⟨w.heap.size+1+1,4,none⟩) (by simp <;> omega) (.bool s.c.deep)).other (a:=⟨w.heap.size+1+1,5,none⟩) (by simp <;> omega) (.int .i64 s.c.lens)).other (a:=⟨w.heap.size+1+1,6,none⟩) (by simp <;> omega) (.int .i64 s.c.focus));have R2:=hid (((((((R1.other (a:=⟨w.heap.size+1+1,0,none⟩) (by simp <;> omega) (.int .i64 s.c.w)).other (a:=⟨w.heap.size+1+1,1,none⟩) (by simp <;> omega) (.int .i64 s.c.h)).other (a:=⟨w.heap.size+1+1,2,none⟩) (by simp <;> omega) (.int .i64 s.c.zoom)).other (a:=⟨w.heap.size+1+1,3,none⟩) (by simp <;> omega) (.int .i64 s.c.near)).other (a:=⟨w.heap.size+1+1,4,none⟩) (by simp <;> omega) (.bool s.c.deep)).other (a:=⟨w.heap.size+1+1,5,none⟩) (by simp <;> omega) (.int .i64 s.c.lens)).other (a:=⟨w.heap.size+1+1,6,none⟩) (by simp <;> omega) (.int .i64 s.c.focus));have X2:=hid (((((((X1.setCell (p:=⟨w.heap.size+1+1,0,none⟩) (by simp;omega) (.int .i64 s.c.w)).setCell (p:=⟨w.heap.size+1+1,1,none⟩) (by simp;omega) (.int .i64 s.c.h)).setCell (p:=⟨w.heap.size+1+1,2,none⟩) (by simp;omega) (.int .i64 s.c.zoom)).setCell (p:=⟨w.heap.size+1+1,3,none⟩) (by simp;omega) (.int .i64 s.c.near)).setCell (p:=⟨w.heap.size+1+1,4,none⟩) (by simp;omega) (.bool s.c.deep)).setCell (p:=⟨w.heap.size+1+1,5,none⟩) (by simp;omega) (.int .i64 s.c.lens)).setCell (p:=⟨w.heap.size+1+1,6,none⟩) (by simp;omega) (.int .i64 s.c.focus));simp only [aQ3,aQ2] at T2;go_upto_region 3 with fail
 obtain ⟨y0,x4⟩:∃W,(((((((w1.setCell ⟨w.heap.size+1+1,0,none⟩ s.c.w).setCell ⟨w.heap.size+1+1,1,none⟩ s.c.h).setCell ⟨w.heap.size+1+1,2,none⟩ s.c.zoom).setCell ⟨w.heap.size+1+1,3,none⟩ s.c.near).setCell ⟨w.heap.size+1+1,4,none⟩ (.bool s.c.deep)).setCell ⟨w.heap.size+1+1,5,none⟩ s.c.lens).setCell ⟨w.heap.size+1+1,6,none⟩ s.c.focus)=W:=⟨_,rfl⟩
 have c7:y0.heap.size<=w1.heap.size/\w1.heap.size<=y0.heap.size:=by rw [<-x4];simp
 rw [x4] at B2 R2 T2 X2 ⊢;clear x4 B1 R1 T1 X1 dl d0 e0 d1 e1 d2 e2 d3 e3 d4 e4 d5 e5 d6 e6;have b7:=B2.cell 7 rfl;have b8:=B2.cell 8 rfl;have bl:=B2.lt;go_wp2_with fail;refine (yI lo hi _ s.t _ (HT _ X2) (aQw hh X2.size) z1).mono ?_;rintro e w3 ⟨v3,rfl,⟨u3,rfl,_,hO⟩,x3⟩;obtain ⟨p1,q1,rfl,_⟩:=hO.form;have i4:=x3.size;clear bl b7 b8;have B3:=hid (B2.ext x3);have R3:=hid (R2.ext x3);have T3:=hid (T2.ext x3);have X3:=hid (X2.trans x3);clear B2 R2 T2 X2;have HI:=hid hO.ints;have HM:=hid hO.intsM;clear x3 hO;have d7:=T3.cell 7 rfl;have e7:=T3.free 7;have d8:=T3.cell 8 rfl;have e8:=T3.free 8;have dl:=T3.lt;have T4:=hid ((T3.set 7 (.int .i64 s.t.log)).set 8 (.slice p1 s.t.px.length q1));have B4:=hid ((B3.other (a:=⟨w.heap.size+1+1,7,none⟩) (by simp <;> omega) (.int .i64 s.t.log)).other (a:=⟨w.heap.size+1+1,8,none⟩) (by simp <;> omega) (.slice p1 s.t.px.length q1));have R4:=hid ((R3.other (a:=⟨w.heap.size+1+1,7,none⟩) (by simp <;> omega) (.int .i64 s.t.log)).other (a:=⟨w.heap.size+1+1,8,none⟩) (by simp <;> omega) (.slice p1 s.t.px.length q1));have X4:=hid ((X3.setCell (p:=⟨w.heap.size+1+1,7,none⟩) (by simp;omega) (.int .i64 s.t.log)).setCell (p:=⟨w.heap.size+1+1,8,none⟩) (by simp;omega) (.slice p1 s.t.px.length q1));replace HI:=hid (HI.same ((aM.setLow w3 (p:=⟨w.heap.size+1+1,7,none⟩) (by simp only;omega) (.int .i64 s.t.log)).trans (aM.setLow _ (p:=⟨w.heap.size+1+1,8,none⟩) (by simp only;omega) (.slice p1 s.t.px.length q1))));replace HM:=hid (HM.same ((aM.setLow w3 (p:=⟨w.heap.size+1+1,7,none⟩) (by simp only;omega) (.int .i64 s.t.log)).trans (aM.setLow _ (p:=⟨w.heap.size+1+1,8,none⟩) (by simp only;omega) (.slice p1 s.t.px.length q1))));simp only [aQ3,aQ2] at T4;go_upto_region 4 with fail
 obtain ⟨q2,x6⟩:∃W,((w3.setCell ⟨w.heap.size+1+1,7,none⟩ s.t.log).setCell ⟨w.heap.size+1+1,8,none⟩ (.slice p1 s.t.px.length q1))=W:=⟨_,rfl⟩
 have c8:q2.heap.size<=w3.heap.size/\w3.heap.size<=q2.heap.size:=by rw [<-x6];simp
 rw [x6] at B4 R4 T4 X4 HI HM ⊢;clear x6 B3 R3 T3 X3 dl d7 e7 d8 e8;have b9:=B4.cell 9 rfl;have bl:=B4.lt;go_wp2_with fail;refine (xQ lo hi _ s.ps _ (HP.ext hh X4) (aQw hh X4.size) z2 ZS).mono ?_;rintro e w5 ⟨rfl,⟨hPR,hPM⟩,hlt5,x5⟩;have i5:=x5.size;clear bl b9;have B5:=hid (B4.ext x5);have R5:=hid (R4.ext x5);have T5:=hid (T4.ext x5);have X5:=hid (X4.trans x5);replace HI:=hid (HI.same (x5.same (by first|exact aQo _|omega)));replace HM:=hid (HM.same (x5.same (by first|exact aQo _|omega)));clear B4 R4 T4 X4;have q4:=hid hPR;have q3:=hid hPM;clear x5 hPR hPM;have d9:=T5.cell 9 rfl;have e9:=T5.free 9;have dl:=T5.lt;have T6:=hid (T5.set 9 (.slice (some ⟨q2.heap.size,0,none⟩) s.ps.length s.ps.length));have B6:=hid (B5.other (a:=⟨w.heap.size+1+1,9,none⟩) (by simp <;> omega) (.slice (some ⟨q2.heap.size,0,none⟩) s.ps.length s.ps.length));have R6:=hid (R5.other (a:=⟨w.heap.size+1+1,9,none⟩) (by simp <;> omega) (.slice (some ⟨q2.heap.size,0,none⟩) s.ps.length s.ps.length));have X6:=hid (X5.setCell (p:=⟨w.heap.size+1+1,9,none⟩) (by simp;omega) (.slice (some ⟨q2.heap.size,0,none⟩) s.ps.length s.ps.length));replace HI:=hid (HI.same (aM.setLow w5 (p:=⟨w.heap.size+1+1,9,none⟩) (by simp only;omega) (.slice (some ⟨q2.heap.size,0,none⟩) s.ps.length s.ps.length)));replace HM:=hid (HM.same (aM.setLow w5 (p:=⟨w.heap.size+1+1,9,none⟩) (by simp only;omega) (.slice (some ⟨q2.heap.size,0,none⟩) s.ps.length s.ps.length)));replace q4:=hid (q4.same (aM.setLow w5 (p:=⟨w.heap.size+1+1,9,none⟩) (by simp only;omega) (.slice (some ⟨q2.heap.size,0,none⟩) s.ps.length s.ps.length)));replace q3:=hid (q3.same (aM.setLow w5 (p:=⟨w.heap.size+1+1,9,none⟩) (by simp only;omega) (.slice (some ⟨q2.heap.size,0,none⟩) s.ps.length s.ps.length)));simp only [aQ3,aQ2] at T6;go_upto_region 5 with fail
 obtain ⟨q0,x8⟩:∃W,(w5.setCell ⟨w.heap.size+1+1,9,none⟩ (.slice (some ⟨q2.heap.size,0,none⟩) s.ps.length s.ps.length))=W:=⟨_,rfl⟩
 have c9:q0.heap.size<=w5.heap.size/\w5.heap.size<=q0.heap.size:=by rw [<-x8];simp
 rw [x8] at B6 R6 T6 X6 HI HM q4 q3 ⊢;clear x8 B5 R5 T5 X5 dl d9 e9;have y9:=B6.cell 10 rfl;have bl:=B6.lt;go_wp2_with fail;refine (xU lo hi _ s.m s.F _ (HF.ext hh X6) (aQw hh X6.size) z3).mono ?_;rintro e w7 ⟨rfl,z5,x7⟩;have i6:=x7.size;clear bl y9;have B7:=hid (B6.ext x7);have R7:=hid (R6.ext x7);have T7:=hid (T6.ext x7);have X7:=hid (X6.trans x7);replace HI:=hid (HI.same (x7.same (by first|exact aQo _|omega)));replace HM:=hid (HM.same (x7.same (by first|exact aQo _|omega)));replace q4:=hid (q4.same (x7.same (by first|exact aQo _|omega)));replace q3:=hid (q3.same (x7.same (by first|exact aQo _|omega)));clear B6 R6 T6 X6;have i2:=z5.lt;have q9:=hid (z5.flats (k:=26) (n:=s.m) (cap:=s.m) (aQo _) (by unfold maxLen;omega) (lo:=q0.heap.size) (aQo _) y6);have x2:=hid (z5.srfsM (lo:=q0.heap.size) (aQo _) z3);clear x7 z5;have y1:=T7.cell 10 rfl;have a4:=T7.free 10;have dl:=T7.lt;have T8:=hid (T7.set 10 (.slice (some ⟨q0.heap.size,0,none⟩) s.m s.m));have B8:=hid (B7.other (a:=⟨w.heap.size+1+1,10,none⟩) (by simp <;> omega) (.slice (some ⟨q0.heap.size,0,none⟩) s.m s.m));have R8:=hid (R7.other (a:=⟨w.heap.size+1+1,10,none⟩) (by simp <;> omega) (.slice (some ⟨q0.heap.size,0,none⟩) s.m s.m));have X8:=hid (X7.setCell (p:=⟨w.heap.size+1+1,10,none⟩) (by simp;omega) (.slice (some ⟨q0.heap.size,0,none⟩) s.m s.m));replace HI:=hid (HI.same (aM.setLow w7 (p:=⟨w.heap.size+1+1,10,none⟩) (by simp only;omega) (.slice (some ⟨q0.heap.size,0,none⟩) s.m s.m)));replace HM:=hid (HM.same (aM.setLow w7 (p:=⟨w.heap.size+1+1,10,none⟩) (by simp only;omega) (.slice (some ⟨q0.heap.size,0,none⟩) s.m s.m)));replace q4:=hid (q4.same (aM.setLow w7 (p:=⟨w.heap.size+1+1,10,none⟩) (by simp only;omega) (.slice (some ⟨q0.heap.size,0,none⟩) s.m s.m)));replace q3:=hid (q3.same (aM.setLow w7 (p:=⟨w.heap.size+1+1,10,none⟩) (by simp only;omega) (.slice (some ⟨q0.heap.size,0,none⟩) s.m s.m)));replace q9:=hid (q9.same (aM.setLow w7 (p:=⟨w.heap.size+1+1,10,none⟩) (by simp only;omega) (.slice (some ⟨q0.heap.size,0,none⟩) s.m s.m)));replace x2:=hid (x2.same (aM.setLow w7 (p:=⟨w.heap.size+1+1,10,none⟩) (by simp only;omega) (.slice (some ⟨q0.heap.size,0,none⟩) s.m s.m)));simp only [aQ3,aQ2] at T8;go_upto_region 6 with fail
 obtain ⟨q5,x9⟩:∃W,(w7.setCell ⟨w.heap.size+1+1,10,none⟩ (.slice (some ⟨q0.heap.size,0,none⟩) s.m s.m))=W:=⟨_,rfl⟩
 have i0:q5.heap.size<=w7.heap.size/\w7.heap.size<=q5.heap.size:=by rw [<-x9];simp
 rw [x9] at B8 R8 T8 X8 HI HM q4 q3 q9 x2 ⊢;clear x9 B7 R7 T7 X7 dl y1 a4;have a0:=B8.cell 11 rfl;have bl:=B8.lt;have y2:=T8.cell 11 rfl;have a5:=T8.free 11;have dl:=T8.lt;have T9:=hid (T8.set 11 (.int .i64 s.side));have B9:=hid (B8.other (a:=⟨w.heap.size+1+1,11,none⟩) (by simp <;> omega) (.int .i64 s.side));have R9:=hid (R8.other (a:=⟨w.heap.size+1+1,11,none⟩) (by simp <;> omega) (.int .i64 s.side));have X9:=hid (X8.setCell (p:=⟨w.heap.size+1+1,11,none⟩) (by simp;omega) (.int .i64 s.side));replace HI:=hid (HI.same (aM.setLow q5 (p:=⟨w.heap.size+1+1,11,none⟩) (by simp only;omega) (.int .i64 s.side)));replace HM:=hid (HM.same (aM.setLow q5 (p:=⟨w.heap.size+1+1,11,none⟩) (by simp only;omega) (.int .i64 s.side)));replace q4:=hid (q4.same (aM.setLow q5 (p:=⟨w.heap.size+1+1,11,none⟩) (by simp only;omega) (.int .i64 s.side)));replace q3:=hid (q3.same (aM.setLow q5 (p:=⟨w.heap.size+1+1,11,none⟩) (by simp only;omega) (.int .i64 s.side)));replace q9:=hid (q9.same (aM.setLow q5 (p:=⟨w.heap.size+1+1,11,none⟩) (by simp only;omega) (.int .i64 s.side)));replace x2:=hid (x2.same (aM.setLow q5 (p:=⟨w.heap.size+1+1,11,none⟩) (by simp only;omega) (.int .i64 s.side)));simp only [aQ3,aQ2] at T9;go_upto_region 7 with fail
 obtain ⟨q6,z0⟩:∃W,(q5.setCell ⟨w.heap.size+1+1,11,none⟩ s.side)=W:=⟨_,rfl⟩
 have i1:q6.heap.size<=q5.heap.size/\q5.heap.size<=q6.heap.size:=by rw [<-z0];simp
 rw [z0] at B9 R9 T9 X9 HI HM q4 q3 q9 x2 ⊢;clear z0 B8 R8 T8 X8 dl y2 a5;clear bl a0;have d0:=T9.cell 0 rfl;have g0:=R9.cell 0 rfl;have h0:=R9.free 0;have d1:=T9.cell 1 rfl;have g1:=R9.cell 1 rfl;have h1:=R9.free 1;have d2:=T9.cell 2 rfl;have g2:=R9.cell 2 rfl;have h2:=R9.free 2;have d3:=T9.cell 3 rfl;have g3:=R9.cell 3 rfl;have h3:=R9.free 3;have d4:=T9.cell 4 rfl;have g4:=R9.cell 4 rfl;have h4:=R9.free 4;have d5:=T9.cell 5 rfl;have g5:=R9.cell 5 rfl;have h5:=R9.free 5;have d6:=T9.cell 6 rfl;have g6:=R9.cell 6 rfl;have h6:=R9.free 6;have d7:=T9.cell 7 rfl;have g7:=R9.cell 7 rfl;have h7:=R9.free 7;have d8:=T9.cell 8 rfl;have g8:=R9.cell 8 rfl;have h8:=R9.free 8;have d9:=T9.cell 9 rfl;have g9:=R9.cell 9 rfl;have h9:=R9.free 9;have y1:=T9.cell 10 rfl;have a9:=R9.cell 10 rfl;have c4:=R9.free 10;have y2:=T9.cell 11 rfl;have c0:=R9.cell 11 rfl;have c5:=R9.free 11;have dl:=T9.lt;have gl:=R9.lt;have zz:w.heap.size+1+1<q6.heap.size:=T9.lt
 have zc:w.heap.size+1+1<w1.heap.size/\w1.heap.size<=w3.heap.size/\w3.heap.size<=w5.heap.size/\w5.heap.size<=w7.heap.size/\q6.heap.size=w7.heap.size:=by omega
 have a6:=hid (HI.same ((((((((((((aM.setLow q6 (p:=⟨w.heap.size+1,0,none⟩) (by simp only;omega) (.int .i64 s.c.w)).trans (aM.setLow _ (p:=⟨w.heap.size+1,1,none⟩) (by simp only;omega) (.int .i64 s.c.h))).trans (aM.setLow _ (p:=⟨w.heap.size+1,2,none⟩) (by simp only;omega) (.int .i64 s.c.zoom))).trans (aM.setLow _ (p:=⟨w.heap.size+1,3,none⟩) (by simp only;omega) (.int .i64 s.c.near))).trans (aM.setLow _ (p:=⟨w.heap.size+1,4,none⟩) (by simp only;omega) (.bool s.c.deep))).trans (aM.setLow _ (p:=⟨w.heap.size+1,5,none⟩) (by simp only;omega) (.int .i64 s.c.lens))).trans (aM.setLow _ (p:=⟨w.heap.size+1,6,none⟩) (by simp only;omega) (.int .i64 s.c.focus))).trans (aM.setLow _ (p:=⟨w.heap.size+1,7,none⟩) (by simp only;omega) (.int .i64 s.t.log))).trans (aM.setLow _ (p:=⟨w.heap.size+1,8,none⟩) (by simp only;omega) (.slice p1 s.t.px.length q1))).trans (aM.setLow _ (p:=⟨w.heap.size+1,9,none⟩) (by simp only;omega) (.slice (some ⟨q2.heap.size,0,none⟩) s.ps.length s.ps.length))).trans (aM.setLow _ (p:=⟨w.heap.size+1,10,none⟩) (by simp only;omega) (.slice (some ⟨q0.heap.size,0,none⟩) s.m s.m))).trans (aM.setLow _ (p:=⟨w.heap.size+1,11,none⟩) (by simp only;omega) (.int .i64 s.side))));have a7:=hid (HM.same ((((((((((((aM.setLow q6 (p:=⟨w.heap.size+1,0,none⟩) (by simp only;omega) (.int .i64 s.c.w)).trans (aM.setLow _ (p:=⟨w.heap.size+1,1,none⟩) (by simp only;omega) (.int .i64 s.c.h))).trans (aM.setLow _ (p:=⟨w.heap.size+1,2,none⟩) (by simp only;omega) (.int .i64 s.c.zoom))).trans (aM.setLow _ (p:=⟨w.heap.size+1,3,none⟩) (by simp only;omega) (.int .i64 s.c.near))).trans (aM.setLow _ (p:=⟨w.heap.size+1,4,none⟩) (by simp only;omega) (.bool s.c.deep))).trans (aM.setLow _ (p:=⟨w.heap.size+1,5,none⟩) (by simp only;omega) (.int .i64 s.c.lens))).trans (aM.setLow _ (p:=⟨w.heap.size+1,6,none⟩) (by simp only;omega) (.int .i64 s.c.focus))).trans (aM.setLow _ (p:=⟨w.heap.size+1,7,none⟩) (by simp only;omega) (.int .i64 s.t.log))).trans (aM.setLow _ (p:=⟨w.heap.size+1,8,none⟩) (by simp only;omega) (.slice p1 s.t.px.length q1))).trans (aM.setLow _ (p:=⟨w.heap.size+1,9,none⟩) (by simp only;omega) (.slice (some ⟨q2.heap.size,0,none⟩) s.ps.length s.ps.length))).trans (aM.setLow _ (p:=⟨w.heap.size+1,10,none⟩) (by simp only;omega) (.slice (some ⟨q0.heap.size,0,none⟩) s.m s.m))).trans (aM.setLow _ (p:=⟨w.heap.size+1,11,none⟩) (by simp only;omega) (.int .i64 s.side))));have z8:=hid (q4.same ((((((((((((aM.setLow q6 (p:=⟨w.heap.size+1,0,none⟩) (by simp only;omega) (.int .i64 s.c.w)).trans (aM.setLow _ (p:=⟨w.heap.size+1,1,none⟩) (by simp only;omega) (.int .i64 s.c.h))).trans (aM.setLow _ (p:=⟨w.heap.size+1,2,none⟩) (by simp only;omega) (.int .i64 s.c.zoom))).trans (aM.setLow _ (p:=⟨w.heap.size+1,3,none⟩) (by simp only;omega) (.int .i64 s.c.near))).trans (aM.setLow _ (p:=⟨w.heap.size+1,4,none⟩) (by simp only;omega) (.bool s.c.deep))).trans (aM.setLow _ (p:=⟨w.heap.size+1,5,none⟩) (by simp only;omega) (.int .i64 s.c.lens))).trans (aM.setLow _ (p:=⟨w.heap.size+1,6,none⟩) (by simp only;omega) (.int .i64 s.c.focus))).trans (aM.setLow _ (p:=⟨w.heap.size+1,7,none⟩) (by simp only;omega) (.int .i64 s.t.log))).trans (aM.setLow _ (p:=⟨w.heap.size+1,8,none⟩) (by simp only;omega) (.slice p1 s.t.px.length q1))).trans (aM.setLow _ (p:=⟨w.heap.size+1,9,none⟩) (by simp only;omega) (.slice (some ⟨q2.heap.size,0,none⟩) s.ps.length s.ps.length))).trans (aM.setLow _ (p:=⟨w.heap.size+1,10,none⟩) (by simp only;omega) (.slice (some ⟨q0.heap.size,0,none⟩) s.m s.m))).trans (aM.setLow _ (p:=⟨w.heap.size+1,11,none⟩) (by simp only;omega) (.int .i64 s.side))));have z7:=hid (q3.same ((((((((((((aM.setLow q6 (p:=⟨w.heap.size+1,0,none⟩) (by simp only;omega) (.int .i64 s.c.w)).trans (aM.setLow _ (p:=⟨w.heap.size+1,1,none⟩) (by simp only;omega) (.int .i64 s.c.h))).trans (aM.setLow _ (p:=⟨w.heap.size+1,2,none⟩) (by simp only;omega) (.int .i64 s.c.zoom))).trans (aM.setLow _ (p:=⟨w.heap.size+1,3,none⟩) (by simp only;omega) (.int .i64 s.c.near))).trans (aM.setLow _ (p:=⟨w.heap.size+1,4,none⟩) (by simp only;omega) (.bool s.c.deep))).trans (aM.setLow _ (p:=⟨w.heap.size+1,5,none⟩) (by simp only;omega) (.int .i64 s.c.lens))).trans (aM.setLow _ (p:=⟨w.heap.size+1,6,none⟩) (by simp only;omega) (.int .i64 s.c.focus))).trans (aM.setLow _ (p:=⟨w.heap.size+1,7,none⟩) (by simp only;omega) (.int .i64 s.t.log))).trans (aM.setLow _ (p:=⟨w.heap.size+1,8,none⟩) (by simp only;omega) (.slice p1 s.t.px.length q1))).trans (aM.setLow _ (p:=⟨w.heap.size+1,9,none⟩) (by simp only;omega) (.slice (some ⟨q2.heap.size,0,none⟩) s.ps.length s.ps.length))).trans (aM.setLow _ (p:=⟨w.heap.size+1,10,none⟩) (by simp only;omega) (.slice (some ⟨q0.heap.size,0,none⟩) s.m s.m))).trans (aM.setLow _ (p:=⟨w.heap.size+1,11,none⟩) (by simp only;omega) (.int .i64 s.side))));have z6:=hid (q9.same ((((((((((((aM.setLow q6 (p:=⟨w.heap.size+1,0,none⟩) (by simp only;omega) (.int .i64 s.c.w)).trans (aM.setLow _ (p:=⟨w.heap.size+1,1,none⟩) (by simp only;omega) (.int .i64 s.c.h))).trans (aM.setLow _ (p:=⟨w.heap.size+1,2,none⟩) (by simp only;omega) (.int .i64 s.c.zoom))).trans (aM.setLow _ (p:=⟨w.heap.size+1,3,none⟩) (by simp only;omega) (.int .i64 s.c.near))).trans (aM.setLow _ (p:=⟨w.heap.size+1,4,none⟩) (by simp only;omega) (.bool s.c.deep))).trans (aM.setLow _ (p:=⟨w.heap.size+1,5,none⟩) (by simp only;omega) (.int .i64 s.c.lens))).trans (aM.setLow _ (p:=⟨w.heap.size+1,6,none⟩) (by simp only;omega) (.int .i64 s.c.focus))).trans (aM.setLow _ (p:=⟨w.heap.size+1,7,none⟩) (by simp only;omega) (.int .i64 s.t.log))).trans (aM.setLow _ (p:=⟨w.heap.size+1,8,none⟩) (by simp only;omega) (.slice p1 s.t.px.length q1))).trans (aM.setLow _ (p:=⟨w.heap.size+1,9,none⟩) (by simp only;omega) (.slice (some ⟨q2.heap.size,0,none⟩) s.ps.length s.ps.length))).trans (aM.setLow _ (p:=⟨w.heap.size+1,10,none⟩) (by simp only;omega) (.slice (some ⟨q0.heap.size,0,none⟩) s.m s.m))).trans (aM.setLow _ (p:=⟨w.heap.size+1,11,none⟩) (by simp only;omega) (.int .i64 s.side))));have z9:=hid (x2.same ((((((((((((aM.setLow q6 (p:=⟨w.heap.size+1,0,none⟩) (by simp only;omega) (.int .i64 s.c.w)).trans (aM.setLow _ (p:=⟨w.heap.size+1,1,none⟩) (by simp only;omega) (.int .i64 s.c.h))).trans (aM.setLow _ (p:=⟨w.heap.size+1,2,none⟩) (by simp only;omega) (.int .i64 s.c.zoom))).trans (aM.setLow _ (p:=⟨w.heap.size+1,3,none⟩) (by simp only;omega) (.int .i64 s.c.near))).trans (aM.setLow _ (p:=⟨w.heap.size+1,4,none⟩) (by simp only;omega) (.bool s.c.deep))).trans (aM.setLow _ (p:=⟨w.heap.size+1,5,none⟩) (by simp only;omega) (.int .i64 s.c.lens))).trans (aM.setLow _ (p:=⟨w.heap.size+1,6,none⟩) (by simp only;omega) (.int .i64 s.c.focus))).trans (aM.setLow _ (p:=⟨w.heap.size+1,7,none⟩) (by simp only;omega) (.int .i64 s.t.log))).trans (aM.setLow _ (p:=⟨w.heap.size+1,8,none⟩) (by simp only;omega) (.slice p1 s.t.px.length q1))).trans (aM.setLow _ (p:=⟨w.heap.size+1,9,none⟩) (by simp only;omega) (.slice (some ⟨q2.heap.size,0,none⟩) s.ps.length s.ps.length))).trans (aM.setLow _ (p:=⟨w.heap.size+1,10,none⟩) (by simp only;omega) (.slice (some ⟨q0.heap.size,0,none⟩) s.m s.m))).trans (aM.setLow _ (p:=⟨w.heap.size+1,11,none⟩) (by simp only;omega) (.int .i64 s.side))));have c6:=X9.out;clear B9 HT HP HF;go_wp2;refine bodyPost_ret (v:=.agg #[s.c.w,s.c.h,s.c.zoom,s.c.near,.bool s.c.deep,s.c.lens,s.c.focus,s.t.log,.slice p1 s.t.px.length q1,.slice (some ⟨q2.heap.size,0,none⟩) s.ps.length s.ps.length,.slice (some ⟨q0.heap.size,0,none⟩) s.m s.m,s.side]) (by simp [results,results11,go_sem, *]) rfl ?_;refine ⟨_,rfl,⟨p1,q1,_,_,_,_,rfl,⟨_,_,_,rfl,y5,y7,y8,a6.out.wide (by omega) (by simp;omega),z8.out.wide (by omega) (by simp;omega),z6.out.wide (by omega) (by simp;omega)⟩,a7.out.wide (by omega) (by simp;omega),z7.out.wide (by omega) (by simp;omega),?_⟩,S_⟩;obtain ⟨a,cap,e1,e2,e3,e4⟩:=z9.out;exact ⟨a,cap,e1,e2,e3,fun i hi=>by obtain ⟨b,a8,e,h1,h2⟩:=e4 i hi;exact ⟨b,a8,e,h1.wide (by omega) (by simp;omega),h2.wide (by omega) (by simp;omega)⟩⟩
theorem aCl (lo hi lo' hi':Nat) (v v':Value) (s:Scn) (w:World) (hv:s.R lo hi w v) (hh:hi<=w.heap.size) (hv':s.R lo' hi' w v') (hh':hi'<=w.heap.size) :
  R_ 14 #[v,v'] w (.bool true):=by
 obtain ⟨tu,pu,su,rfl,-,h0,-,k1,k2,k3⟩:=hv;obtain ⟨h2,h3,h4,rfl,-,h1,-,h6,h7,h8⟩:=hv';have HT:=hid (show cN lo hi w (.agg #[s.t.log,tu]) s.t from ⟨_,rfl,h0,k1⟩);have q1:=hid (show cN lo' hi' w (.agg #[s.t.log,h2]) s.t from ⟨_,rfl,h0,h6⟩);have HP:=hid k2;have q0:=hid h7;have HF:=hid k3;have h9:=hid h8;have x0:Ext w ((w.alloc (.cells #[s.c.w,s.c.h,s.c.zoom,s.c.near,.bool s.c.deep,s.c.lens,s.c.focus,s.t.log,tu,pu,su,s.side] 40)).alloc (.cells #[s.c.w,s.c.h,s.c.zoom,s.c.near,.bool s.c.deep,s.c.lens,s.c.focus,s.t.log,h2,h3,h4,s.side] 40)):=X_;have b0:=(aQx w 40 [s.c.w,s.c.h,s.c.zoom,s.c.near,.bool s.c.deep,s.c.lens,s.c.focus,s.t.log,tu,pu,su,s.side]).ext (show Ext (w.alloc (.cells #[s.c.w,s.c.h,s.c.zoom,s.c.near,.bool s.c.deep,s.c.lens,s.c.focus,s.t.log,tu,pu,su,s.side] 40)) ((w.alloc (.cells #[s.c.w,s.c.h,s.c.zoom,s.c.near,.bool s.c.deep,s.c.lens,s.c.focus,s.t.log,tu,pu,su,s.side] 40)).alloc (.cells #[s.c.w,s.c.h,s.c.zoom,s.c.near,.bool s.c.deep,s.c.lens,s.c.focus,s.t.log,h2,h3,h4,s.side] 40)) from X_);have r0:=aQx (w.alloc (.cells #[s.c.w,s.c.h,s.c.zoom,s.c.near,.bool s.c.deep,s.c.lens,s.c.focus,s.t.log,tu,pu,su,s.side] 40)) 40 [s.c.w,s.c.h,s.c.zoom,s.c.near,.bool s.c.deep,s.c.lens,s.c.focus,s.t.log,h2,h3,h4,s.side];rw [aQp] at r0;have B0:=hid b0;have R0:=hid r0;have X0:=hid x0;clear h0 h1 k1 k2 k3 h6 h7 h8 b0 r0 x0;go_enter func14,ntmps14;go_upto_region 1 with fail
 obtain ⟨WA,h5⟩:∃WA,((w.alloc (.cells #[s.c.w,s.c.h,s.c.zoom,s.c.near,.bool s.c.deep,s.c.lens,s.c.focus,s.t.log,tu,pu,su,s.side] 40)).alloc (.cells #[s.c.w,s.c.h,s.c.zoom,s.c.near,.bool s.c.deep,s.c.lens,s.c.focus,s.t.log,h2,h3,h4,s.side] 40))=WA:=⟨_,rfl⟩
 rw [h5] at B0 R0 X0 ⊢;clear h5;have b0:=B0.cell 0 rfl;have r0:=R0.cell 0 rfl;have b1:=B0.cell 1 rfl;have r1:=R0.cell 1 rfl;have b2:=B0.cell 2 rfl;have r2:=R0.cell 2 rfl;have b3:=B0.cell 3 rfl;have r3:=R0.cell 3 rfl;have b4:=B0.cell 4 rfl;have r4:=R0.cell 4 rfl;have b5:=B0.cell 5 rfl;have r5:=R0.cell 5 rfl;have b6:=B0.cell 6 rfl;have r6:=R0.cell 6 rfl;have bl:=B0.lt;have rl:=R0.lt;go_wp2_with fail;refine r_ (zL _ _ _ _ _ _ _ _) fun w1 x1=>?_;have B1:=hid (B0.ext x1);have R1:=hid (R0.ext x1);have X1:=hid (X0.trans x1);clear B0 R0 X0 x1 bl rl b0 r0 b1 r1 b2 r2 b3 r3 b4 r4 b5 r5 b6 r6;have b7:=B1.cell 7 rfl;have r7:=R1.cell 7 rfl;have b8:=B1.cell 8 rfl;have r8:=R1.cell 8 rfl;have bl:=B1.lt;have rl:=R1.lt;go_wp2_with fail;refine r_ (vM lo hi lo' hi' _ _ s.t _ (HT.ext hh X1) (aQw hh X1.size) (q1.ext hh' X1) (aQw hh' X1.size)) fun w2 x2=>?_;have B2:=hid (B1.ext x2);have R2:=hid (R1.ext x2);have X2:=hid (X1.trans x2);clear B1 R1 X1 x2 bl rl b7 r7 b8 r8;have b9:=B2.cell 9 rfl;have r9:=R2.cell 9 rfl;have bl:=B2.lt;have rl:=R2.lt;go_wp2_with fail;refine r_ (uP lo hi lo' hi' _ _ s.ps _ (HP.ext hh X2) (q0.ext hh' X2) (aQw hh X2.size) (aQw hh' X2.size)) fun w3 x3=>?_;have B3:=hid (B2.ext x3);have R3:=hid (R2.ext x3);have X3:=hid (X2.trans x3);clear B2 R2 X2 x3 bl rl b9 r9;have q2:=B3.cell 10 rfl;have q3:=R3.cell 10 rfl;have bl:=B3.lt;have rl:=R3.lt;go_wp2_with fail;refine r_ (uQ lo hi lo' hi' _ _ s.m s.F _ (HF.ext hh X3) (h9.ext hh' X3) (aQw hh X3.size) (aQw hh' X3.size)) fun w4 x4=>?_;have B4:=hid (B3.ext x4);have R4:=hid (R3.ext x4);have X4:=hid (X3.trans x4);clear B3 R3 X3 x4 bl rl q2 q3;have q4:=B4.cell 11 rfl;have q5:=R4.cell 11 rfl;have bl:=B4.lt;have rl:=R4.lt;go_wp2;go_ret;exact ⟨rfl,X4⟩
def Off (v:Value) (l h:Nat):Prop:=∀k,v.ownBlock=some k->k<l\/h<=k
def dJ (lo:Nat) (w:World) (v v2:Value) (rows:List (List Int)):Prop:=
 ∃us:List Value,us.length=rows.length/\aF (fun u=>[u]) lo 24 1 w v us/\∀(k:Nat) (u:Value) (r:List Int),us[k]?=some u->rows[k]?=some r->∃l h,lo<=l/\h<=w.heap.size/\aU l h w u r/\Off v l h/\Off v2 l h
theorem dJ.ext {rows:List (List Int)} (h:dJ lo w v v2 rows) (x:Ext w w'):dJ lo w' v v2 rows:=by
 obtain ⟨us,h1,h2,h3⟩:=h;refine ⟨us,h1,h2.ext x,fun k u r hu hr=>?_⟩;obtain ⟨l,h,a0,a1,a2,a3,a4⟩:=h3 k u r hu hr;exact ⟨l,h,a0,aQw a1 x.size,a2.ext a1 x,a3,a4⟩
theorem dJ.low {rows:List (List Int)} (h:dJ lo w v v2 rows) (hl:lo'<=lo):dJ lo' w v v2 rows:=by
 obtain ⟨us,h1,h2,h3⟩:=h;refine ⟨us,h1,h2.low hl,fun k u r hu hr=>?_⟩;obtain ⟨l,h,a0,a⟩:=h3 k u r hu hr;exact ⟨l,h,aQw hl a0,a⟩
theorem dJ.nil (h:aF (fun u:Value=>[u]) lo 24 1 w v []):dJ lo w v v2 []:=
 ⟨[],rfl,h,fun k u r hu _=>by simp at hu⟩
theorem dJ.ints {rows:List (List Int)} (h:dJ lo w v v2 rows):∃us:List Value,us.length=rows.length/\Rd (fun u=>[u]) lo w.heap.size w v us/\∀(k:Nat) (u:Value) (r:List Int),us[k]?=some u->rows[k]?=some r->aU 0 w.heap.size w u r:=by
 obtain ⟨us,h1,h2,h3⟩:=h;refine ⟨us,h1,h2.rd (fun _=>rfl),fun k u r hu hr=>?_⟩;obtain ⟨l,h,-,a1,a2,-,-⟩:=h3 k u r hu hr;exact a2.wide (aR8 _) a1
theorem aU.grown {r:List Int} (hi:aU l h w u r) (hh:h<=w.heap.size) {row:Option Nat} (hg:w.grownBy w' row) (ho:∀k,row=some k->k<l\/h<=k):aU l h w' u r:=
 hi.same fun k h1 h2=>hg.block k (by omega) fun e=>by
  have:=ho k e.symm;omega
theorem dJ.push {v':Value} {rows:List (List Int)} {r:List Int} {us:List Value} (h1:us.length=rows.length)
  (h3:∀(k:Nat) (u:Value) (r:List Int),us[k]?=some u->rows[k]?=some r->∃l h,lo<=l/\h<=w.heap.size/\aU l h w u r/\Off v l h/\Off v2 l h)
  (hg:w.grownBy w' v.ownBlock) (hown:aF (fun u=>[u]) lo 24 1 w' v' (us++[u])) (hn:∀k,v'.ownBlock=some k->v.ownBlock=some k\/w.heap.size<=k)
 (hlo:lo<=l) (hh:h<=w.heap.size) (hu:aU l h w u r) (o1:Off v l h) (o2:Off v2 l h):dJ lo w' v' v2 (rows++[r]):=by
 have h0:∀{l h:Nat},h<=w.heap.size->Off v l h->Off v' l h:=fun hh o k e=>by
  rcases hn k e with e1|e1
  ·exact o k e1
  ·omega
 refine ⟨us++[u],by simp [h1],hown,fun k u' r' hu' hr'=>?_⟩
 rcases aRy k us.length with hk|hk
 ·rw [aR2 hk] at hu'
  rw [aR2 (by omega)] at hr';obtain ⟨l',h',a0,a1,a2,a3,a4⟩:=h3 k u' r' hu' hr';exact ⟨l',h',a0,aQw a1 hg.size,a2.grown a1 hg a3,h0 a1 a3,a4⟩
 ·rw [aRs hk] at hu'
  rw [aRs (by omega)] at hr'
  obtain ⟨i,hi⟩:∃i,k - us.length=i:=⟨_,rfl⟩
  rw [hi] at hu';rw [show k - rows.length=i by omega] at hr'
  cases i with
  | zero=>
   simp only [aQm,aQr] at hu' hr';subst hu' hr';exact ⟨l,h,hlo,aQw hh hg.size,hu.grown hh hg o1,h0 hh o1,o2⟩
  | succ i=>simp at hu'
theorem dJ.beside {v2':Value} {rows:List (List Int)} (hr:dJ lo w v v2 rows) (hg:w.grownBy w' v2.ownBlock) (hn:∀k,v2'.ownBlock=some k->v2.ownBlock=some k\/w.heap.size<=k)
  (hk:∀us:List Value,aF (fun u=>[u]) lo 24 1 w v us->aF (fun u=>[u]) lo 24 1 w' v us):dJ lo w' v v2' rows:=by
 obtain ⟨us,h1,h2,h3⟩:=hr;refine ⟨us,h1,hk us h2,fun k u r hu hr=>?_⟩;obtain ⟨l,h,a0,a1,a2,a3,a4⟩:=h3 k u r hu hr;refine ⟨l,h,a0,aQw a1 hg.size,a2.grown a1 hg a4,a3,fun k e=>?_⟩
 rcases hn k e with e1|e1
 ·exact a4 k e1
 ·omega
theorem dJ.setLow {rows:List (List Int)} (h:dJ lo w v v2 rows) (hp:p.block<lo) (x:Value):dJ lo (w.setCell p x) v v2 rows:=by
 obtain ⟨us,h1,h2,h3⟩:=h;refine ⟨us,h1,aF.of h2 fun b c hb hc=>(aQz _ _ _ _ (by omega)).trans hc,fun k u r hu hr=>?_⟩;obtain ⟨l,h,a0,a1,a2,a3,a4⟩:=h3 k u r hu hr;exact ⟨l,h,a0,by rw [aSc];exact a1,a2.same (fun k k1 k2=>aQz _ _ _ _ (by omega)),a3,a4⟩
def sE (s:Scn) (j:Nat):List (List Int):=(aRc j).map fun k=>(s.shade k).1
def aCm (s:Scn) (j:Nat):List (List Int):=(aRc j).map fun k=>(s.shade k).2
theorem aGr (s:Scn) (j:Nat):sE s (j+1)=sE s j++[(s.shade j).1]:=xN _ _
theorem aJi (s:Scn) (j:Nat):aCm s (j+1)=aCm s j++[(s.shade j).2]:=xN _ _
theorem aLb (s:Scn) (h:k<j):(sE s j)[k]?=some (s.shade k).1:=by simp [sE,h]
theorem aM5 (s:Scn) (h:k<j):(aCm s j)[k]?=some (s.shade k).2:=by simp [aCm,h]
theorem sF (s:Scn) (j:Nat):(sE s j).length=j:=by simp [sE]
theorem uI (s:Scn) (j:Nat):(aCm s j).length=j:=by simp [aCm]
theorem xX:(Tryz.prog.info? 24).map (fun i=>(i.zero,i.size,i.bytes))=some (some (.slice none 0 0),1,24):=by kernel_rfl
theorem aJj:(Tryz.prog.info? 78).map (·.size)=some 2:=by kernel_rfl
theorem aU.formS {r:List Int} (hi:aU l h w u r):∃a c,u = .slice a r.length c:=by
 obtain ⟨a,c,e,-⟩:=hi;exact ⟨a,c,e⟩
def aLc (v v2:Value):Prop:=∀k,v.ownBlock=some k->v2.ownBlock≠some k
structure aEo (s:Scn) (lo:Nat) (w:World) (cv av:Value) (j:Nat):Prop where
 c:dJ lo w cv av (sE s j)
 a:dJ lo w av cv (aCm s j)
 ap:aLc cv av
theorem aEo.ext {s:Scn} (h:aEo s lo w cv av j) (x:Ext w w'):aEo s lo w' cv av j:=⟨h.c.ext x,h.a.ext x,h.ap⟩
theorem aF.otherRow {α : Type} {cs : α->List Value} {e:TypeId} {xs:List α} (h:aF cs lo e sz w v xs) (hg:w.grownBy w' v2.ownBlock) (ap:∀k,v.ownBlock=some k->v2.ownBlock≠some k):aF cs lo e sz w' v xs:=by
 refine ⟨h.1,?_⟩
 rcases h.2 with hn|⟨g,cap,cur,hv,hb,hg2,r⟩
 ·exact .inl hn
 ·exact .inr ⟨g,cap,cur,hv,hb,(hg.block g (aQ9.1 hg2).1 (fun e=>ap g (by rw [hv];rfl) e.symm)).trans hg2,r⟩
theorem dJ.lt {rows:List (List Int)} (h:dJ lo w v v2 rows):∀k,v.ownBlock=some k->lo<=k/\k<w.heap.size:=by
 obtain ⟨us,-,h2,-⟩:=h;exact h2.lt
theorem aLd (s:Scn) (lo hi:Nat) (v:Value) (w:World) (hv:s.R lo hi w v) (hh:hi<=w.heap.size) (ho:s.Ok) (hsm:s.small) :
  Calls aQt 48 #[v] w fun e w'=>∃cv av,e = .returned (.agg #[cv,av])/\aEo s w.heap.size w' cv av s.m/\Ext w w':=by
 have HV:=hid hv;have b5:=ho.m;obtain ⟨a1,c1,a2,c2,a3,c3,rfl⟩:=hv.formV;have b3:=hid hsm;have HO:=hid ho;have x0:Ext w (((w.alloc (.cells (sA_ s a1 c1 a2 c2 a3 c3) 40)).alloc (.cells #[.slice none 0 0,.slice none 0 0] 78)).alloc (.cells #[.slice none 0 0,.slice none 0 0] 78)):=X_;have bS:=((aQx w 40 (sL_ s a1 c1 a2 c2 a3 c3)).ext (show Ext _ ((w.alloc (.cells (sA_ s a1 c1 a2 c2 a3 c3) 40)).alloc (.cells #[.slice none 0 0,.slice none 0 0] 78)) from X_)).ext (show Ext _ (((w.alloc (.cells (sA_ s a1 c1 a2 c2 a3 c3) 40)).alloc (.cells #[.slice none 0 0,.slice none 0 0] 78)).alloc (.cells #[.slice none 0 0,.slice none 0 0] 78)) from X_);have bR:=(aQx (w.alloc (.cells (sA_ s a1 c1 a2 c2 a3 c3) 40)) 78 [.slice none 0 0,.slice none 0 0]).ext (show Ext _ (((w.alloc (.cells (sA_ s a1 c1 a2 c2 a3 c3) 40)).alloc (.cells #[.slice none 0 0,.slice none 0 0] 78)).alloc (.cells #[.slice none 0 0,.slice none 0 0] 78)) from X_);have bO:=aQx ((w.alloc (.cells (sA_ s a1 c1 a2 c2 a3 c3) 40)).alloc (.cells #[.slice none 0 0,.slice none 0 0] 78)) 78 [.slice none 0 0,.slice none 0 0];simp only [aQp] at bR bO
 obtain ⟨W0,z9⟩:∃W0,((w.alloc (.cells (sA_ s a1 c1 a2 c2 a3 c3) 40)).alloc (.cells #[.slice none 0 0,.slice none 0 0] 78)).alloc (.cells #[.slice none 0 0,.slice none 0 0] 78)=W0:=⟨_,rfl⟩
 rw [z9] at x0 bS bR bO;have y8:=hid x0;have z2:=hid bS;have y6:=hid bR;have y4:=hid bO;have y7:=hid z9
 have z0:w.heap.size+2<W0.heap.size:=by have:=bO.lt;omega
 clear hv ho hsm x0 bS bR bO z9;go_enter func48,ntmps48;go_upto_region 2 with fail
 try simp only [aQp]
 rw [y7];have z8:=z2.cell 10 rfl;go_wp2_with fail;clear z8
 go_loopw [12] (fun i wr=>∃(k:Nat) (cv av:Value),k<=s.m/\i = .int .i64 (k:Nat)/\Ext w wr/\Blk wr w.heap.size 40 (sL_ s a1 c1 a2 c2 a3 c3)/\Blk wr (w.heap.size+1) 78 [.slice none 0 0,.slice none 0 0]/\Blk wr (w.heap.size+2) 78 [cv,av]/\aEo s (w.heap.size+3) wr cv av k) (fun i _=>s.m - (intOf i).toNat)
 case atStart=>exact ⟨0,_,_,by omega,rfl,y8,z2,y6,y4,dJ.nil (aF.nil _ _ _ _ _),dJ.nil (aF.nil _ _ _ _ _),fun k e=>nomatch e⟩
 case round=>
  obtain ⟨k,cv,av,hk,rfl,hx,hs,hr,hb,hd⟩:=hrel;have HX:=hid hx;have HS:=hid hs;have HR:=hid hr;have HB:=hid hb;have HD:=hid hd;have zr:=hb.lt;clear y8 z2 y6 y4 y7 z0
  rcases aRy k s.m with hlt|hge
  ·have b6:=b5
   have c:=hs.lt;obtain ⟨c0,c1,c2,c3,c4,c5,c6,c7,c8,c9,z8,b4⟩:=hs.q12;clear hx hs hr hb hd;go_wp2_with fail;have CH:=sB s lo hi _ k _ (HV.ext hh HX) (aQw hh HX.size) HO b3 hlt;refine CH.mono ?_;clear CH;rintro e w1 ⟨r1,r2,rfl,i1,i2,x1⟩;have D1:=hid (HD.ext x1);have h9:=hid (HB.ext x1);have z4:=hid (HS.ext x1);have z1:=hid (HR.ext x1);have z6:=hid (HX.trans x1);have zw:=x1.size;obtain ⟨ra,rc,rfl⟩:=i1.formS;obtain ⟨qa,qc,rfl⟩:=i2.formS;obtain ⟨us,h1,h2,h3⟩:=D1.c;obtain ⟨ca,cc,rfl,-⟩:=h2.form;obtain ⟨q7,k1,k2,k3⟩:=D1.a;obtain ⟨aa,ac,rfl,-⟩:=k2.form;have L0:=hid HD.c.lt;have L1:=hid HD.a.lt;have I1:=hid i1;have I2:=hid i2;have H1:=hid h1;have H2:=hid h2;have H3:=hid h3;have K1:=hid k1
   have a6:us.length<1000000:=by rw [h1,sF];omega
   have z5:=hid a6;clear x1 i1 i2 c c0 c1 c2 c3 c4 c5 c6 c7 c8 c9 z8 b4 h1 h2 h3 k1 k2 k3 a6;have b:=h9.lt;obtain ⟨b0,b1⟩:=h9.q2;have y1:Ext w1 (w1.alloc (.cells #[.slice ra (s.shade k).1.length rc] 24)):=X_;have HE:=hid (aQx w1 24 [.slice ra (s.shade k).1.length rc]);have Y1:=hid y1;clear y1
   have x7:Hid (∀j,j<1->(w1.alloc (.cells #[.slice ra (s.shade k).1.length rc] 24)).cell? ⟨w1.heap.size,j,none⟩=[aR4 ra (s.shade k).1.length rc][j]?):=hid (fun j hj=>by
    obtain rfl:j=0:=by omega
    exact HE.cell 0 rfl)
   have x8:Hid (∀u∈[aR4 ra (s.shade k).1.length rc],u.oneCell'=true):=hid (fun u hu=>by
    rw [aTq] at hu;subst hu
    rfl)
   have x9:=hid (show w.heap.size+3<=(w1.alloc (.cells #[.slice ra (s.shade k).1.length rc] 24)).heap.size by simp;omega);have q6:=hid (H2.ext Y1);have a9:=hid (fun e:(w.heap.size+2)=0=>e);have h6:=aF.rowE q6;have q0:=hid (h9.ext Y1);have h7:=hid (show ∀q,q<w.heap.size+3->some q≠(aR4 ca us.length cc).ownBlock from fun q hq e=>by have:=(h6 q e.symm).1;omega)
   have a0:w.heap.size+2<w.heap.size+3:=by omega
   have x6:=hid a0;clear b b0 b1 a0 h6;have b:=h9.lt;obtain ⟨b0,b1⟩:=h9.q2;go_upto_region 7 with (at_builtin;refine iH (fun u=>[u]) 24 1 24 _ _ rfl _ _ 76 rfl underlying76 xX rfl (by decide) (by decide) (fun _=>rfl) (w.heap.size+3) (.slice ca us.length cc) us rfl q6 (.slice ra (s.shade k).1.length rc) w1.heap.size rfl x7 x8 z5 x9 ?_;intro v2 w2 h5 hg x3;obtain ⟨va,vc,rfl,-⟩:=aF.form h5;have h4:=hid (q0.grown hg (h7 _ x6));have e0:=h4.cell 0 rfl;have e1:=h4.cell 1 rfl;have f0:=h4.free 0;have f1:=h4.free 1;have lb:=h4.lt;have q1:=hid h5;have HG:=hid hg;have h8:=hid x3;clear h5 hg x3)
   obtain ⟨nu,b7⟩:∃n,(us++[aR4 ra (s.shade k).1.length rc]).length=n:=⟨_,rfl⟩
   have y2:(w1.alloc (.cells #[.slice ra (s.shade k).1.length rc] 24)).heap.size=w1.heap.size+1:=aQp _ _
   have P1:dJ (w.heap.size+3) w2 (.slice va (us++[aR4 ra (s.shade k).1.length rc]).length vc) (.slice aa q7.length ac) (sE s (k+1)):=by
    rw [aGr];refine dJ.push (v:=.slice ca us.length cc) (w:=w1.alloc (.cells #[.slice ra (s.shade k).1.length rc] 24)) H1 (fun k' u r hu hr=>?_) HG q1 h8 (l:=wr.heap.size) (h:=w1.heap.size) (by omega) (by omega) ((I1.ext (aQo _) Y1)) ?_ ?_
    ·obtain ⟨l,h,e0,e1,e2,e3,e4⟩:=H3 k' u r hu hr
     exact ⟨l,h,e0,aQw e1 (by omega),e2.ext e1 Y1,e3,e4⟩
    ·intro b e
     exact .inl (L0 b e).2
    ·intro b e
     exact .inl (L1 b e).2
   have P2:dJ (w.heap.size+3) w2 (.slice aa q7.length ac) (.slice va (us++[aR4 ra (s.shade k).1.length rc]).length vc) (aCm s k):=by
    refine (D1.a.ext Y1).beside HG h8 fun us' ho=>ho.otherRow HG fun b e e2=>D1.ap b e2 e
   have P3:aLc (.slice va (us++[aR4 ra (s.shade k).1.length rc]).length vc) (.slice aa q7.length ac):=by
    intro b e e2
    rcases h8 b e with h|h
    ·exact D1.ap b h e2
    ·have:=(L1 b e2).2
     omega
   have q9:=hid ((z4.ext Y1).grown HG (h7 _ (by omega)));have q8:=hid ((z1.ext Y1).grown HG (h7 _ (by omega)));have x2:=hid (aRz (z6.trans Y1) HG (fun k e=>Nat.le_of_not_lt fun h=>h7.out k (by omega) e.symm))
   have b8:w1.heap.size+1<=w2.heap.size:=by have:=HG.size;omega
   have y5:=hid (I2.same (w':=w2) (fun b b1 b2=>(HG.block b (by omega) (fun e=>by
     have:=(L0 b e.symm).2
     omega)).trans (Y1.block b2)))
   have q3:=hid P1;have q5:=hid P2;have q4:=hid P3;have y9:=hid L1
   have z7:Hid (∀b,(aR4 va (us++[aR4 ra (s.shade k).1.length rc]).length vc).ownBlock=some b->b<wr.heap.size\/w1.heap.size<=b):=hid (fun b e=>by
    rcases h8 b e with h|h
    ·exact .inl (L0 b h).2
    ·exact .inr (by omega))
   clear P1 P2 P3 e0 e1 f0 f1 lb b b0 b1 y2 b7 nu L0 L1
   have x4:(us++[aR4 ra (s.shade k).1.length rc]).length=us.length+1:=by simp
   rw [x4] at q3 q5 q4 z7
   obtain ⟨nc,a5⟩:∃n,us.length+1=n:=⟨_,rfl⟩
   rw [a5] at q3 q5 q4 z7 ⊢;have b9:=hid q3.lt;have B3:Blk (w2.setCell ⟨w.heap.size+1+1,0,none⟩ (.slice va nc vc)) (w.heap.size+2) 78 [.slice va nc vc,.slice aa q7.length ac]:=h4.set 0 (.slice va nc vc);have S3:Blk (w2.setCell ⟨w.heap.size+1+1,0,none⟩ (.slice va nc vc)) w.heap.size 40 (sL_ s a1 c1 a2 c2 a3 c3):=q9.other (by simp only;omega) _;have R3:Blk (w2.setCell ⟨w.heap.size+1+1,0,none⟩ (.slice va nc vc)) (w.heap.size+1) 78 [.slice none 0 0,.slice none 0 0]:=q8.other (by simp only;omega) _;have X3:Ext w (w2.setCell ⟨w.heap.size+1+1,0,none⟩ (.slice va nc vc)):=aQ6 x2 (by simp only;omega) _;have P1:=q3.setLow (p:=⟨w.heap.size+1+1,0,none⟩) (by simp only;omega) (.slice va nc vc);have P2:=q5.setLow (p:=⟨w.heap.size+1+1,0,none⟩) (by simp only;omega) (.slice va nc vc);have I3:=y5.setLow (p:=⟨w.heap.size+1+1,0,none⟩) (by simp only;omega) (.slice va nc vc);have z3:(w2.setCell ⟨w.heap.size+1+1,0,none⟩ (.slice va nc vc)).heap.size=w2.heap.size:=aSc _ _ _
   obtain ⟨wq,a7⟩:∃W,w2.setCell ⟨w.heap.size+1+1,0,none⟩ (.slice va nc vc)=W:=⟨_,rfl⟩
   rw [a7] at B3 S3 R3 X3 P1 P2 I3 z3 ⊢
   have d0:w1.heap.size+1<=wq.heap.size:=by omega
   obtain ⟨h0,k1,k2,k3⟩:=P2
   have x5:h0.length<1000000:=by rw [k1,uI];omega
   obtain ⟨ab,ad,a4,-⟩:=k2.form;simp only [aRi] at a4;obtain ⟨rfl,y0,rfl⟩:=a4;rw [y0] at q4 B3 y9 k2 P1;simp only [y0] at k3;have L1:=hid k2.lt;have L0:=hid P1.lt;have h9:=hid B3;have z4:=hid S3;have z1:=hid R3;have z6:=hid X3;have a8:=hid P1;have y3:=hid q4;have I2:=hid I3;have H1:=hid k1;have H2:=hid k2;have H3:=hid k3;have z5:=hid x5;clear B3 S3 R3 X3 P1 I3 k1 k2 k3 x5 a7 q3 q5 q4 h4 q9 q8 x2 y5 x4 y0 HG h8 q1 x7 x8 x9 q6 HE Y1 q0 h7 x6 a9 z3 b8;have y1:Ext wq (wq.alloc (.cells #[.slice qa (s.shade k).2.length qc] 24)):=X_;have HE:=hid (aQx wq 24 [.slice qa (s.shade k).2.length qc]);have Y1:=hid y1;clear y1
   have x7:Hid (∀j,j<1->(wq.alloc (.cells #[.slice qa (s.shade k).2.length qc] 24)).cell? ⟨wq.heap.size,j,none⟩=[aR4 qa (s.shade k).2.length qc][j]?):=hid (fun j hj=>by
    obtain rfl:j=0:=by omega
    exact HE.cell 0 rfl)
   have x8:Hid (∀u∈[aR4 qa (s.shade k).2.length qc],u.oneCell'=true):=hid (fun u hu=>by
    rw [aTq] at hu;subst hu
    rfl)
   have x9:=hid (show w.heap.size+3<=(wq.alloc (.cells #[.slice qa (s.shade k).2.length qc] 24)).heap.size by simp;omega);have q6:=hid (H2.ext Y1);have h6:=aF.rowE q6;have q0:=hid (h9.ext Y1);have h7:=hid (show ∀q,q<w.heap.size+3->some q≠(aR4 aa h0.length ac).ownBlock from fun q hq e=>by have:=(h6 q e.symm).1;omega);have x6:=hid (show w.heap.size+2<w.heap.size+3 by omega);clear h6;have b:=h9.lt;obtain ⟨b0,b1⟩:=h9.q2;go_upto_region 8 with (at_builtin;refine iH (fun u=>[u]) 24 1 24 _ _ rfl _ _ 76 rfl underlying76 xX rfl (by decide) (by decide) (fun _=>rfl) (w.heap.size+3) (.slice aa h0.length ac) h0 rfl q6 (.slice qa (s.shade k).2.length qc) wq.heap.size rfl x7 x8 z5 x9 ?_;intro v4 w4 h5 hg x3;obtain ⟨vb,vd,rfl,-⟩:=aF.form h5;have h4:=hid (q0.grown hg (h7 _ x6));have e0:=h4.cell 0 rfl;have e1:=h4.cell 1 rfl;have f0:=h4.free 0;have f1:=h4.free 1;have lb:=h4.lt;have q1:=hid h5;have HG:=hid hg;have h8:=hid x3;clear h5 hg x3);have y2:(wq.alloc (.cells #[.slice qa (s.shade k).2.length qc] 24)).heap.size=wq.heap.size+1:=aQp _ _
   have P1:dJ (w.heap.size+3) w4 (.slice vb (h0++[aR4 qa (s.shade k).2.length qc]).length vd) (.slice va nc vc) (aCm s (k+1)):=by
    rw [aJi];refine dJ.push (v:=.slice aa h0.length ac) (w:=wq.alloc (.cells #[.slice qa (s.shade k).2.length qc] 24)) H1 (fun k' u r hu hr=>?_) HG q1 h8 (l:=wr.heap.size) (h:=w1.heap.size) (by omega) (by omega) (I2.same (w':=wq.alloc (.cells #[.slice qa (s.shade k).2.length qc] 24)) (fun b b1 b2=>Y1.block (by omega))) ?_ ?_
    ·obtain ⟨l,h,e0,e1,e2,e3,e4⟩:=H3 k' u r hu hr
     exact ⟨l,h,e0,aQw e1 (by omega),e2.ext e1 Y1,e3,e4⟩
    ·intro b e
     exact .inl (y9 b e).2
    ·intro b e
     rcases z7 b e with h|h
     ·exact .inl h
     ·exact .inr h
   have P2:dJ (w.heap.size+3) w4 (.slice va nc vc) (.slice vb (h0++[aR4 qa (s.shade k).2.length qc]).length vd) (sE s (k+1)):=by
    refine (a8.ext Y1).beside HG h8 fun us' ho=>ho.otherRow HG fun b e e2=>y3 b e e2
   have P3:aLc (.slice va nc vc) (.slice vb (h0++[aR4 qa (s.shade k).2.length qc]).length vd):=by
    intro b e e2
    rcases h8 b e2 with h|h
    ·exact y3 b e h
    ·have:=(L0 b e).2
     omega
   have q9:=hid ((z4.ext Y1).grown HG (h7 _ (by omega)));have q8:=hid ((z1.ext Y1).grown HG (h7 _ (by omega)));have x2:=hid (aRz (z6.trans Y1) HG (fun k e=>Nat.le_of_not_lt fun h=>h7.out k (by omega) e.symm));have q3:=hid P1;have q5:=hid P2;have q4:=hid P3;clear P1 P2 P3 e0 e1 f0 f1 lb b b0 b1 y2
   have x4:(h0++[aR4 qa (s.shade k).2.length qc]).length=h0.length+1:=by simp
   rw [x4] at q3 q5 q4;have B5:=hid (show Blk (w4.setCell ⟨w.heap.size+1+1,1,none⟩ (.slice vb (h0.length+1) vd)) (w.heap.size+2) 78 [.slice va nc vc,.slice vb (h0.length+1) vd] from h4.set 1 (.slice vb (h0.length+1) vd));have S5:=hid (show Blk (w4.setCell ⟨w.heap.size+1+1,1,none⟩ (.slice vb (h0.length+1) vd)) w.heap.size 40 (sL_ s a1 c1 a2 c2 a3 c3) from q9.other (by simp only;omega) _);have R5:=hid (show Blk (w4.setCell ⟨w.heap.size+1+1,1,none⟩ (.slice vb (h0.length+1) vd)) (w.heap.size+1) 78 [.slice none 0 0,.slice none 0 0] from q8.other (by simp only;omega) _);have X5:=hid (show Ext w (w4.setCell ⟨w.heap.size+1+1,1,none⟩ (.slice vb (h0.length+1) vd)) from aQ6 x2 (by simp only;omega) _);have D5:=hid (aEo.mk (s:=s) (j:=k+1) (q5.setLow (p:=⟨w.heap.size+1+1,1,none⟩) (by simp only;omega) (.slice vb (h0.length+1) vd)) (q3.setLow (p:=⟨w.heap.size+1+1,1,none⟩) (by simp only;omega) (.slice vb (h0.length+1) vd)) q4);clear q3 q5 q4 h4 q9 q8 x2 x4 a5;go_wp2;go_roundw
   case rel=>exact ⟨k+1,_,_,by omega,by go_num,X5,S5,R5,B5,D5⟩
   case measure=>simp [intOf];omega
  ·obtain rfl:k=s.m:=by omega
   have b:=hb.lt;obtain ⟨b0,b1⟩:=hb.q2;have r:=hr.lt;obtain ⟨r0,r1⟩:=hr.q2;have d1:=hr.free 0;have d2:=hr.free 1;obtain ⟨us,h1,h2,h3⟩:=HD.c;obtain ⟨ca,cc,rfl,-⟩:=h2.form;obtain ⟨q7,k1,k2,k3⟩:=HD.a;obtain ⟨aa,ac,rfl,-⟩:=k2.form;clear hx hs hr hb hd h1 h2 h3 k1 k2 k3;go_wp2;have bF:=(HR.set 0 (.slice ca us.length cc)).set 1 (.slice aa q7.length ac);refine aCa rfl rfl bF _ underlying78 rfl aJj rfl ?_;refine ⟨_,_,rfl,⟨?_,?_,HD.ap⟩,?_⟩
   ·exact ((HD.c.setLow (p:=⟨w.heap.size+1,0,none⟩) (by simp only;omega) _).setLow (p:=⟨w.heap.size+1,1,none⟩) (by simp only;omega) _).low (by omega)
   ·exact ((HD.a.setLow (p:=⟨w.heap.size+1,0,none⟩) (by simp only;omega) _).setLow (p:=⟨w.heap.size+1,1,none⟩) (by simp only;omega) _).low (by omega)
   ·exact aQ6 (aQ6 HX (by simp only;omega) _) (by simp only;omega) _
theorem aAs {cw ch zo ne:Int} {de:Bool} {le fo:Int} (hc:(Cam.mk cw ch zo ne de le fo).Ok) {l half:Int} (hx : -1000000<=x/\x<=1000000) (hz:1<=z/\z<=1000000) (hl : -16<=l/\l<=16) (hp:0<=half/\half<=1000) (hr:(Cam.mk cw ch zo ne de le fo).pj x z l half=r) (w:World) :
  R_ 243 #[.agg #[cw,ch,zo,ne,.bool de,le,fo],x,z,l,half] w (.int .i64 r):=by
 have h1:0<=le/\le<=64:=hc.lens;have h2:0<=fo/\fo<=1000000:=hc.focus;have h3:1<=zo/\zo<=65536:=hc.zoom
 obtain ⟨p1,e1⟩:∃p,l*le=p:=⟨_,rfl⟩
 have b1 : -1024<=p1/\p1<=1024:=by have:=bL (A:=16) (B:=64) hl (show -64<=le/\le<=64 by omega);omega
 obtain ⟨d,e0⟩:∃d,z - fo=d:=⟨_,rfl⟩
 obtain ⟨p2,e2⟩:∃p,p1*d=p:=⟨_,rfl⟩
 have b2 : -1024000000<=p2/\p2<=1024000000:=by have:=bL (A:=1024) (B:=1000000) b1 (show -1000000<=d/\d<=1000000 by omega);omega
 obtain ⟨q,e3⟩:∃q,bI p2 4096=q:=⟨_,rfl⟩
 have b3 : -1024000001<=q/\q<=1024000000:=by have:=mC (b:=4096) (m:=1024000000) b2 (by decide);omega
 obtain ⟨y,e4⟩:∃y,x+q=y:=⟨_,rfl⟩
 obtain ⟨p3,e5⟩:∃p,y*zo=p:=⟨_,rfl⟩
 have b4 : -80000000000000<=p3/\p3<=80000000000000:=by have:=bL (A:=1100000000) (B:=65536) (show -1100000000<=y/\y<=1100000000 by omega) (show -65536<=zo/\zo<=65536 by omega);omega
 obtain ⟨t,e6⟩:∃t,bI p3 ((Cam.mk cw ch zo ne de le fo).by z)=t:=⟨_,rfl⟩
 have b5 : -80000000000001<=t/\t<=80000000000000:=by have:=mC (b:=(Cam.mk cw ch zo ne de le fo).by z) (m:=80000000000000) b4 (by decide);omega
 have hR:aO (t+half) (-100000) 100000=r:=by
  rw [<-hr]
  show _=sc (bI ((x+bI (l*le*(z - fo)) 4096)*zo) ((Cam.mk cw ch zo ne de le fo).by z)+half)
  rw [e1,e0,e2,e3,e4,e5,e6]
  rfl
 have E3:=hid e3;have E6:=hid e6;have HR:=hid hR;clear hr hR e3 e6 hc
 cases de
 ·have E7:=hid (show bI p3 256=t from E6)
  go_enter func243,ntmps243;go_wp2_with fail;refine z_ (aT ⟨by omega,by omega⟩ E3 _) ?_;go_wp2_with fail;refine z_ (aT ⟨by omega,by omega⟩ E7 _) ?_;go_wp2_with fail;refine z_ (cP HR _) ?_;go_wp2;go_ret;exact ⟨rfl,X_⟩
 ·have E7:=hid (show bI p3 z=t from E6)
  go_enter func243,ntmps243;go_wp2_with fail;refine z_ (aT ⟨by omega,by omega⟩ E3 _) ?_;go_wp2_with fail;refine z_ (aT ⟨by omega,by omega⟩ E7 _) ?_;go_wp2_with fail;refine z_ (cP HR _) ?_;go_wp2;go_ret;exact ⟨rfl,X_⟩
theorem aNq {w:Int} (h:1<=w/\w<=12):Int.tdiv (w*16) 2=w*8:=by rw [aS7 (by omega)];omega
theorem aCn (c:Cam) (x y z lx ly:Int) (h:c.prB ⟨x,y,z⟩ lx ly=true) (w:World) :
  R_ 203 #[c.V,.agg #[x,y,z],lx,ly] w (.tuple #[(c.pr ⟨x,y,z⟩ lx ly).V,.bool true]):=by
 unfold Cam.prB at h;simp only [aQ4,decide_eq_true_eq] at h;obtain ⟨⟨⟨⟨hc,hv⟩,hx⟩,hy⟩,hz⟩:=h;have OK:=Cam.okB_iff.1 hc;have h2:=zY.1 hv;have h3:=aG.1 hx;have h4:=aG.1 hy;have hn:=OK.near
 obtain ⟨px,h0⟩:∃n,c.pj x z lx (c.w*8)=n:=⟨_,rfl⟩
 obtain ⟨py,h1⟩:∃n,c.pj y z ly (c.h*8)=n:=⟨_,rfl⟩
 have hV:(c.pr ⟨x,y,z⟩ lx ly).V = .agg #[px,py,z]:=by
  unfold Cam.pr V3.V;simp only [h0,h1]
 rw [hV];have h8:=hid hx;have h9:=hid hy;have HO:=hid OK;have P1:=hid h0;have P2:=hid h1;have VX:=hid h2.1;have VY:=hid h2.2.1;have VZ:=hid (show 1<=z/\z<=1000000 by omega);have LX:=hid h3;have LY:=hid h4;have WB:=OK.w;have HB:=OK.h;have q0:decide (z<c.near)=false:=decide_eq_false (by omega);have t1:=aNq WB;have t2:=aNq HB;have s1:wrap64 (c.w*16)=c.w*16:=aD (by omega) (by omega);have s2:wrap64 (c.h*16)=c.h*16:=aD (by omega) (by omega);have HV:=hid hv;have HC:=hid hc;have B0:=hid ((aQx w 35 c).ext (show Ext (w.alloc (.cells c 35)) (((w.alloc (.cells c 35)).alloc (.cells #[x,y,z] 122)).alloc (.cells #[(),(),()] 122)) from X_));have B1:=hid (show Blk (((w.alloc (.cells c 35)).alloc (.cells #[x,y,z] 122)).alloc (.cells #[(),(),()] 122)) (w.heap.size+1) 122 [x,y,z] from by have q:=(aQx (w.alloc (.cells c 35)) 122 [x,y,z]).ext (show Ext ((w.alloc (.cells c 35)).alloc (.cells #[x,y,z] 122)) (((w.alloc (.cells c 35)).alloc (.cells #[x,y,z] 122)).alloc (.cells #[(),(),()] 122)) from X_);simp only [aQp] at q;exact q);have B2:=hid (show Blk (((w.alloc (.cells c 35)).alloc (.cells #[x,y,z] 122)).alloc (.cells #[(),(),()] 122)) (w.heap.size+2) 122 [(),(),()] from by have q:=(aQx ((w.alloc (.cells c 35)).alloc (.cells #[x,y,z] 122)) 122 [(),(),()]).ext (show Ext (((w.alloc (.cells c 35)).alloc (.cells #[x,y,z] 122)).alloc (.cells #[(),(),()] 122)) (((w.alloc (.cells c 35)).alloc (.cells #[x,y,z] 122)).alloc (.cells #[(),(),()] 122)) from X_);simp only [aQp] at q;exact q);have X0:=hid (show Ext w (((w.alloc (.cells c 35)).alloc (.cells #[x,y,z] 122)).alloc (.cells #[(),(),()] 122)) from X_);clear hc hv hx hy OK h2 h3 h4 hn h0 h1 hV hz
 show Calls aQt 203 #[.agg c,.agg #[x,y,z],lx,ly] w _
 go_enter func203,ntmps203;go_wp2_with fail;refine r_ (aN HC _) fun w1 x1=>?_;replace B0:=hid (B0.ext x1);replace B1:=hid (B1.ext x1);replace B2:=hid (B2.ext x1);replace X0:=hid (X0.trans x1);have v:=B1.lt;obtain ⟨v0,v1,v2⟩:=B1.q3;go_wp2_with fail;refine (dL _).mono ?_;rintro e w2 ⟨he,x2⟩;rw [HV] at he;subst he;clear v0 v1 v2 v;replace B0:=hid (B0.ext x2);replace B1:=hid (B1.ext x2);replace B2:=hid (B2.ext x2);replace X0:=hid (X0.trans x2);have c_:=B0.lt;obtain ⟨q1,q2,q4,q5,q6,q8,q9⟩:=B0.q7;have v:=B1.lt;obtain ⟨v0,v1,v2⟩:=B1.q3;have r:=B2.lt;obtain ⟨r0,r1,r2⟩:=B2.q3;have h5:=B2.free 0;have h6:=B2.free 1;have h7:=B2.free 2;have zs:=X0.size;go_wp2_with fail;refine z_ (aE h8 _) ?_;go_wp2_with fail;refine z_ (aE h9 _) ?_;go_wp2_with fail;clear q0;refine aA [([0,1,2,3,4,5,6,7,8,9,11,12,13,14,15,16,17,18,19,20,22,23],10),([],21),([24],25),([],26)] 26 (w.heap.size+2) (by kernel_rfl) (by kernel_rfl) ?_;refine st_ fun K hK=>?_;go_wp2_with fail;refine r_ (aAs HO VX VZ LX (show (0:Int)<=c.w*8/\c.w*8<=1000 by omega) P1 _) fun w3 x3=>?_;have y3:Ext w2 w3:=aQu (aRr (aQy _)) x3;go_wp2_with fail;refine hK _ _ (.inr (fun k _ hk=>y3.block (by first|omega|(simp;omega)))) ?_;clear hK K;refine st_ fun K hK=>?_;go_wp2_with fail;refine r_ (aAs HO VY VZ LY (show (0:Int)<=c.h*8/\c.h*8<=1000 by omega) P2 _) fun w4 x4=>?_;have y4:=y3.trans x4;go_wp2_with fail;refine hK _ _ (.inr (fun k _ hk=>y4.block (by first|omega|(simp;omega)))) ?_;clear hK K;clear r r0 r1 r2 h5 h6 h7;have D:=B2.ext y4;have XX:=X0.trans y4;have r:=D.lt;obtain ⟨r0,r1,r2⟩:=D.q3;have h5:=D.free 0;have h6:=D.free 1;have h7:=D.free 2;refine st_ fun K hK=>?_;go_wp2_with fail
 refine hK _ _ (.inr (fun k _ hk=>by
  rw [aQz _ _ _ _ (by first|omega|(simp only;omega)|(simp;omega)),aQz _ _ _ _ (by first|omega|(simp only;omega)|(simp;omega)),aQz _ _ _ _ (by first|omega|(simp only;omega)|(simp;omega))]
  exact y4.block (by omega))) ?_
 clear hK K;refine st_ fun K hK=>?_;go_wp2_with fail;refine l_ hK ?_;clear hK K;refine aC ?_;go_wp2;exact bodyPost_ret (v:=.tuple #[.agg #[px,py,z],.bool true]) (by simp [results,results203,go_sem, *]) rfl ⟨rfl,S_⟩
theorem Cam.prB_parts {c:Cam} {b:Bool} (h:c.prB ⟨x,y,z⟩ lx ly=b):(c.okB&&cU x y z&&inB lx (-16) 16&&inB ly (-16) 16&&decide (c.near<=z))=b:=h
theorem aEp (c:Cam) (x y z lx ly:Int) (h:c.prB ⟨x,y,z⟩ lx ly=false) (w:World) :
  R_ 203 #[c.V,.agg #[x,y,z],lx,ly] w (.tuple #[.agg #[(),(),()],.bool false]):=by
 have h:=Cam.prB_parts h
 obtain ⟨b1,hc⟩:∃b,c.okB=b:=⟨_,rfl⟩
 obtain ⟨b2,hv⟩:∃b,cU x y z=b:=⟨_,rfl⟩
 obtain ⟨b3,hx⟩:∃b,inB lx (-16) 16=b:=⟨_,rfl⟩
 obtain ⟨b4,hy⟩:∃b,inB ly (-16) 16=b:=⟨_,rfl⟩
 rw [hc,hv,hx,hy] at h;have h4:=hid hx;have h5:=hid hy;have HV:=hid hv;have HC:=hid hc;have B0:=hid ((aQx w 35 c).ext (show Ext (w.alloc (.cells c 35)) (((w.alloc (.cells c 35)).alloc (.cells #[x,y,z] 122)).alloc (.cells #[(),(),()] 122)) from X_));have B1:=hid (show Blk (((w.alloc (.cells c 35)).alloc (.cells #[x,y,z] 122)).alloc (.cells #[(),(),()] 122)) (w.heap.size+1) 122 [x,y,z] from by have q:=(aQx (w.alloc (.cells c 35)) 122 [x,y,z]).ext (show Ext ((w.alloc (.cells c 35)).alloc (.cells #[x,y,z] 122)) (((w.alloc (.cells c 35)).alloc (.cells #[x,y,z] 122)).alloc (.cells #[(),(),()] 122)) from X_);simp only [aQp] at q;exact q);have B2:=hid (show Blk (((w.alloc (.cells c 35)).alloc (.cells #[x,y,z] 122)).alloc (.cells #[(),(),()] 122)) (w.heap.size+2) 122 [(),(),()] from by have q:=(aQx ((w.alloc (.cells c 35)).alloc (.cells #[x,y,z] 122)) 122 [(),(),()]).ext (show Ext (((w.alloc (.cells c 35)).alloc (.cells #[x,y,z] 122)).alloc (.cells #[(),(),()] 122)) (((w.alloc (.cells c 35)).alloc (.cells #[x,y,z] 122)).alloc (.cells #[(),(),()] 122)) from X_);simp only [aQp] at q;exact q);have X0:=hid (show Ext w (((w.alloc (.cells c 35)).alloc (.cells #[x,y,z] 122)).alloc (.cells #[(),(),()] 122)) from X_);clear hc hv hx hy
 show Calls aQt 203 #[.agg c,.agg #[x,y,z],lx,ly] w _
 go_enter func203,ntmps203;go_wp2_with fail;refine r_ (aN HC _) fun w1 x1=>?_;replace B0:=hid (B0.ext x1);replace B1:=hid (B1.ext x1);replace B2:=hid (B2.ext x1);replace X0:=hid (X0.trans x1);have r:=B2.lt;obtain ⟨r0,r1,r2⟩:=B2.q3;have h0:=B2.free 0;have h2:=B2.free 1;have h3:=B2.free 2;have XX:=X0.out
 cases b1
 ·go_wp2
  exact bodyPost_ret (v:=.tuple #[.agg #[(),(),()],.bool false]) (by simp [results,results203,go_sem, *]) rfl ⟨rfl,S_⟩
 clear r r0 r1 r2 h0 h2 h3 XX;have v:=B1.lt;obtain ⟨v0,v1,v2⟩:=B1.q3;go_wp2_with fail;refine (dL _).mono ?_;rintro e w2 ⟨he,x2⟩;rw [HV] at he;subst he;clear v0 v1 v2 v;replace B0:=hid (B0.ext x2);replace B1:=hid (B1.ext x2);replace B2:=hid (B2.ext x2);replace X0:=hid (X0.trans x2);have r:=B2.lt;obtain ⟨r0,r1,r2⟩:=B2.q3;have h0:=B2.free 0;have h2:=B2.free 1;have h3:=B2.free 2;have XX:=X0.out
 cases b2
 ·go_wp2
  exact bodyPost_ret (v:=.tuple #[.agg #[(),(),()],.bool false]) (by simp [results,results203,go_sem, *]) rfl ⟨rfl,S_⟩
 go_wp2_with fail;refine z_ (aE h4 _) ?_
 cases b3
 ·go_wp2
  exact bodyPost_ret (v:=.tuple #[.agg #[(),(),()],.bool false]) (by simp [results,results203,go_sem, *]) rfl ⟨rfl,S_⟩
 go_wp2_with fail;refine z_ (aE h5 _) ?_
 cases b4
 ·go_wp2
  exact bodyPost_ret (v:=.tuple #[.agg #[(),(),()],.bool false]) (by simp [results,results203,go_sem, *]) rfl ⟨rfl,S_⟩
 have q4:decide (z<c.near)=true:=by
  have h1 : ¬c.near<=z:=by simpa using h
  exact decide_eq_true (by omega)
 clear h;have c_:=B0.lt;obtain ⟨h6,h7,h8,h9,q0,q1,q2⟩:=B0.q7;have v:=B1.lt;obtain ⟨v0,v1,v2⟩:=B1.q3;go_wp2;exact bodyPost_ret (v:=.tuple #[.agg #[(),(),()],.bool false]) (by simp [results,results203,go_sem, *]) rfl ⟨rfl,S_⟩
theorem xY (h:aSe ⟨x,y,z⟩) (hz : -1000000<=z/\z<=1000000) (w:World) :
  R_ 208 #[.agg #[x,y,z]] w (.agg #[x,y,z]):=by
 have h1:=hid (aA7 h.1);have h2:=hid (aA7 h.2);have h3:=hid (qZ hz);clear h hz;go_enter func208,ntmps208;go_upto_region 1 with fail;refine aA [([0,1,3,4,6,7],2),([],5),([],8),([9],10)] 10 (w.heap.size+1) (by kernel_rfl) (by kernel_rfl) ?_;refine st_ fun K hK=>?_;go_wp2_with fail;refine z_ (cP h1.out _) ?_;go_wp2_with fail;refine k_ hK ?_;clear hK K;refine st_ fun K hK=>?_;go_wp2_with fail;refine z_ (cP h2.out _) ?_;go_wp2_with fail;refine k_ hK ?_;clear hK K;refine st_ fun K hK=>?_;go_wp2_with fail;refine z_ (uT h3.out _) ?_;go_wp2_with fail;refine k_ hK ?_;clear hK K;refine st_ fun K hK=>?_;go_wp2_with fail;refine l_ hK ?_;clear hK K;refine aC ?_;go_wp2;exact bodyPost_ret (v:=.agg #[x,y,z]) (by simp [results,results208,go_sem, *]) rfl ⟨rfl,S_⟩
theorem sG (ax ay az bx by' bz cx cy cz:Int) (ha:aSe ⟨ax,ay,az⟩) (hb:aSe ⟨bx,by',bz⟩) (hc:aSe ⟨cx,cy,cz⟩) (hz:(-1000000<=az/\az<=1000000)/\(-1000000<=bz/\bz<=1000000)/\(-1000000<=cz/\cz<=1000000)) (w:World) :
  R_ 151 #[.agg #[ax,ay,az,bx,by',bz,cx,cy,cz]] w (.agg #[ax,ay,az,bx,by',bz,cx,cy,cz]):=by
 have Ha:=aS ha;have Hb:=aS hb;have Hc:=aS hc;have Hz:=hid hz;have B0:=hid ((aQx w 153 [ax,ay,az,bx,by',bz,cx,cy,cz]).ext (show Ext (w.alloc (.cells #[ax,ay,az,bx,by',bz,cx,cy,cz] 153)) ((w.alloc (.cells #[ax,ay,az,bx,by',bz,cx,cy,cz] 153)).alloc (.cells #[(),(),(),(),(),(),(),(),()] 151)) from X_));have B1:=hid (show Blk ((w.alloc (.cells #[ax,ay,az,bx,by',bz,cx,cy,cz] 153)).alloc (.cells #[(),(),(),(),(),(),(),(),()] 151)) (w.heap.size+1) 151 [(),(),(),(),(),(),(),(),()] from by have q:=(aQx (w.alloc (.cells #[ax,ay,az,bx,by',bz,cx,cy,cz] 153)) 151 [(),(),(),(),(),(),(),(),()]).ext (show Ext ((w.alloc (.cells #[ax,ay,az,bx,by',bz,cx,cy,cz] 153)).alloc (.cells #[(),(),(),(),(),(),(),(),()] 151)) ((w.alloc (.cells #[ax,ay,az,bx,by',bz,cx,cy,cz] 153)).alloc (.cells #[(),(),(),(),(),(),(),(),()] 151)) from X_);simp only [aQp] at q;exact q);have X0:=hid (show Ext w ((w.alloc (.cells #[ax,ay,az,bx,by',bz,cx,cy,cz] 153)).alloc (.cells #[(),(),(),(),(),(),(),(),()] 151)) from X_);clear ha hb hc hz;go_enter func151,ntmps151;go_upto_region 1 with fail
 obtain ⟨W,hW⟩:∃W,((w.alloc (.cells #[ax,ay,az,bx,by',bz,cx,cy,cz] 153)).alloc (.cells #[(),(),(),(),(),(),(),(),()] 151))=W:=⟨_,rfl⟩
 try simp only [aQp]
 rw [hW];rw [hW] at B0 B1 X0;clear hW;have zs:w.heap.size+1<W.heap.size:=B1.lt;have t:=B0.lt;have t0:=B0.cell 0 rfl;have t1:=B0.cell 1 rfl;have t2:=B0.cell 2 rfl;have t3:=B0.cell 3 rfl;have t4:=B0.cell 4 rfl;have t5:=B0.cell 5 rfl;have t6:=B0.cell 6 rfl;have t7:=B0.cell 7 rfl;have t8:=B0.cell 8 rfl;have h9:=B0.free 0;have q0:=B0.free 1;have q1:=B0.free 2;have q2:=B0.free 3;have q3:=B0.free 4;have q4:=B0.free 5;have q5:=B0.free 6;have q6:=B0.free 7;have q7:=B0.free 8;refine aA [([0,1,2,4,5,6,8,9,10],3),([],7),([],11),([12],13)] 13 (w.heap.size+1) (by kernel_rfl) (by kernel_rfl) ?_;refine st_ fun K hK=>?_;go_wp2_with fail;refine r_ (xY Ha Hz.1 _) fun w1 x1=>?_;have y1:Ext W w1:=aQu (aRr (aQy _)) x1;go_wp2_with fail;refine hK _ _ (.inr (fun k _ hk=>y1.block (by first|omega|(simp;omega)))) ?_;clear hK K;refine st_ fun K hK=>?_;go_wp2_with fail;refine r_ (xY Hb Hz.2.1 _) fun w2 x2=>?_;have y2:=y1.trans x2;go_wp2_with fail;refine hK _ _ (.inr (fun k _ hk=>y2.block (by first|omega|(simp;omega)))) ?_;clear hK K;refine st_ fun K hK=>?_;go_wp2_with fail;refine r_ (xY Hc Hz.2.2 _) fun w3 x3=>?_;have y3:=y2.trans x3;go_wp2_with fail;refine hK _ _ (.inr (fun k _ hk=>y3.block (by first|omega|(simp;omega)))) ?_;clear hK K;have D:=B1.ext y3;have XX:=X0.trans y3;have r:=D.lt;have r0:=D.cell 0 rfl;have r1:=D.cell 1 rfl;have r2:=D.cell 2 rfl;have r3:=D.cell 3 rfl;have r4:=D.cell 4 rfl;have r5:=D.cell 5 rfl;have r6:=D.cell 6 rfl;have r7:=D.cell 7 rfl;have r8:=D.cell 8 rfl;have h0:=D.free 0;have h1:=D.free 1;have h2:=D.free 2;have h3:=D.free 3;have h4:=D.free 4;have h5:=D.free 5;have h6:=D.free 6;have h7:=D.free 7;have h8:=D.free 8;refine st_ fun K hK=>?_;go_wp2_with fail;refine l_ hK ?_;clear hK K;refine aC ?_;go_wp2;exact bodyPost_ret (v:=.agg #[ax,ay,az,bx,by',bz,cx,cy,cz]) (by simp [results,results151,go_sem, *]) rfl ⟨rfl,S_⟩
theorem iO (ax ay az bx by' bz:Int) (ha:aSe ⟨ax,ay,az⟩) (hb:aSe ⟨bx,by',bz⟩) (hs:aSe ⟨x,y,0⟩) (hr:aX ⟨ax,ay,az⟩ ⟨bx,by',bz⟩ ⟨x,y,0⟩=r) (w:World) :
  R_ 154 #[.agg #[ax,ay,az],.agg #[bx,by',bz],x,y] w (.int .i64 r):=by
 obtain ⟨g1,g2⟩:=rM ha hb hs;obtain ⟨a1,a2⟩:=ha;obtain ⟨b1,b2⟩:=hb;obtain ⟨s1,s2⟩:=hs;simp only at a1 a2 b1 b2 s1 s2 g1 g2
 obtain ⟨p1,e5⟩:∃p,(bx - ax)*(y - ay)=p:=⟨_,rfl⟩
 obtain ⟨p2,e6⟩:∃p,(by' - ay)*(x - ax)=p:=⟨_,rfl⟩
 rw [e5] at g1;rw [e6] at g2
 have hR:p1 - p2=r:=by
  rw [<-hr,<-e5,<-e6]
  rfl
 have u1:wrap64 (bx - ax)=bx - ax:=aD (by omega) (by omega);have u2:wrap64 (y - ay)=y - ay:=aD (by omega) (by omega)
 have u3:wrap64 (by' - ay)=by' - ay:=aD (by omega) (by omega)
 have u4:wrap64 (x - ax)=x - ax:=aD (by omega) (by omega)
 have u5:wrap64 ((bx - ax)*(y - ay))=p1:=by rw [e5];exact aD (by omega) (by omega)
 have u6:wrap64 ((by' - ay)*(x - ax))=p2:=by rw [e6];exact aD (by omega) (by omega)
 have u7:wrap64 (p1 - p2)=r:=by rw [hR];exact aD (by omega) (by omega)
 clear hr hR e5 e6 g1 g2 a1 a2 b1 b2 s1 s2;go_enter func154,ntmps154;go_wp2;go_ret;exact ⟨cK u7,X_⟩
theorem gM (ax ay az bx by' bz:Int) (ha:aSe ⟨ax,ay,az⟩) (hb:aSe ⟨bx,by',bz⟩) (hs:aSe ⟨x,y,0⟩) {r:Bool} (hr:dB ⟨ax,ay,az⟩ ⟨bx,by',bz⟩ ⟨x,y,0⟩=r) (w:World) :
  R_ 207 #[.agg #[ax,ay,az],.agg #[bx,by',bz],x,y] w (.bool r):=by
 obtain ⟨d,hd⟩:∃d,aX ⟨ax,ay,az⟩ ⟨bx,by',bz⟩ ⟨x,y,0⟩=d:=⟨_,rfl⟩
 have HD:=hid hd;have Ha:=aS ha;have Hb:=aS hb;have Hs:=aS hs;have B0:=hid ((aQx w 122 [ax,ay,az]).ext (show Ext (w.alloc (.cells #[ax,ay,az] 122)) ((w.alloc (.cells #[ax,ay,az] 122)).alloc (.cells #[bx,by',bz] 122)) from X_));have B1:=hid (show Blk ((w.alloc (.cells #[ax,ay,az] 122)).alloc (.cells #[bx,by',bz] 122)) (w.heap.size+1) 122 [bx,by',bz] from by have q:=(aQx (w.alloc (.cells #[ax,ay,az] 122)) 122 [bx,by',bz]).ext (show Ext ((w.alloc (.cells #[ax,ay,az] 122)).alloc (.cells #[bx,by',bz] 122)) ((w.alloc (.cells #[ax,ay,az] 122)).alloc (.cells #[bx,by',bz] 122)) from X_);simp only [aQp] at q;exact q);have X0:=hid (show Ext w ((w.alloc (.cells #[ax,ay,az] 122)).alloc (.cells #[bx,by',bz] 122)) from X_);unfold dB at hr;simp only [hd] at hr;clear ha hb hs hd;go_enter func207,ntmps207;go_wp2_with fail;refine r_ (iO _ _ _ _ _ _ Ha Hb Hs HD _) fun w1 x1=>?_;replace B0:=hid (B0.ext x1);replace B1:=hid (B1.ext x1);replace X0:=hid (X0.trans x1);have p:=B0.lt;obtain ⟨p0,p1,p2⟩:=B0.q3;have q:=B1.lt;obtain ⟨q0,q1,q2⟩:=B1.q3
 by_cases h0:d=0
 ·subst h0
  rcases Int.lt_trichotomy by' ay with h1|h1|h1
  ·have e1:r=true:=by rw [<-hr];simp [h1]
   subst e1;go_wp2;go_ret;exact ⟨aL (by simp [h1]),X0⟩
  ·have e1:decide (ax<bx)=r:=by rw [<-hr];simp [h1]
   clear hr;subst h1;go_wp2;go_ret;exact ⟨aL (by first|exact e1|rfl),X0⟩
  ·have h2 : ¬by'<ay:=by omega
   have h3 : ¬by'=ay:=by omega
   have e1:r=false:=by rw [<-hr];simp [h2,h3]
   subst e1;go_wp2;go_ret;exact ⟨aL (by simp [h2,h3]),X0⟩
 ·have e1:decide (0<d)=r:=by rw [<-hr];simp [h0]
  clear hr;go_wp2;go_ret;exact ⟨aL (by first|exact e1|rfl),X0⟩
theorem aAt (ax ay az bx by' bz cx cy cz:Int) (ha:aSe ⟨ax,ay,az⟩) (hb:aSe ⟨bx,by',bz⟩) (hc:aSe ⟨cx,cy,cz⟩) (hz:(-1000000<=az/\az<=1000000)/\(-1000000<=bz/\bz<=1000000)/\(-1000000<=cz/\cz<=1000000)) {d:Int} (hd:aX ⟨ax,ay,az⟩ ⟨bx,by',bz⟩ ⟨cx,cy,0⟩=d) (w:World) :
  R_ 153 #[.agg #[ax,ay,az,bx,by',bz,cx,cy,cz]] w (.int .i64 d):=by
 have Ha:=aS ha;have Hb:=aS hb;have Hc:=aS hc;have Hz:=hid hz;have HD:=hid hd;clear ha hb hc hz hd;go_enter func153,ntmps153;go_wp2_with fail;refine r_ (sG _ _ _ _ _ _ _ _ _ Ha Hb Hc Hz _) fun w1 x1=>?_;have y1:Ext w w1:=aQu X_ x1;have z1:=y1.size;go_wp2_with fail;refine r_ (iO _ _ _ _ _ _ Ha Hb (show aSe ⟨cx,cy,0⟩ from Hc) HD _) fun w2 x2=>?_;go_wp2;go_ret;exact ⟨rfl,y1.trans (aQu S_ x2)⟩
theorem aJk (ax ay az bx by' bz cx cy cz:Int) (w:World) :
  R_ 206 #[.agg #[ax,ay,az,bx,by',bz,cx,cy,cz]] w (.agg #[ax,ay,az,cx,cy,cz,bx,by',bz]):=by
 go_enter func206,ntmps206;go_wp2;exact bodyPost_ret (v:=.agg #[ax,ay,az,cx,cy,cz,bx,by',bz]) (by simp [results,results206,go_sem, *]) rfl ⟨rfl,S_⟩
theorem aGs (h:aSe ⟨x,y,0⟩) (w:World):Z_ 205 #[x,y] w (.bool true):=by
 have h1:=hid (aG.2 h.1);have h2:=hid (aG.2 h.2);clear h;go_enter func205,ntmps205;go_wp2_with fail;refine z_ (aE h1.out _) ?_;go_wp2_with fail;refine z_ (aE h2.out _) ?_;go_wp2;go_ret;exact ⟨rfl,rfl⟩
theorem sH (hx : -100000000000<=x/\x<=100000000000) (h:fT x=r) (w:World):Z_ 152 #[x] w (.int .i64 r):=by
 rcases Int.lt_or_le x 0 with h0|h0
 ·have e1 : -x=r:=by rw [<-h];exact ((dE (x:=x)).2.2 (by omega)).symm
  have e2:wrap64 (-x)=r:=by rw [e1];exact aD (by omega) (by omega)
  clear h;go_enter func152,ntmps152;go_wp2;go_ret;exact ⟨cK (by first|exact e1|exact e2|rfl),rfl⟩
 ·have e1:x=r:=by rw [<-h];exact ((dE (x:=x)).2.1 (by omega)).symm
  subst e1;clear h;go_enter func152,ntmps152;go_wp2;go_ret;exact ⟨rfl,rfl⟩
theorem uJ (ax ay az bx by' bz cx cy cz:Int) (ha:aSe ⟨ax,ay,az⟩) (hb:aSe ⟨bx,by',bz⟩) (hc:aSe ⟨cx,cy,cz⟩) (hz:(-1000000<=az/\az<=1000000)/\(-1000000<=bz/\bz<=1000000)/\(-1000000<=cz/\cz<=1000000)) (sx sy:Int) (hs:aSe ⟨sx,sy,0⟩) {r:Bool} (hr:qD ⟨ax,ay,az⟩ ⟨bx,by',bz⟩ ⟨cx,cy,cz⟩ ⟨sx,sy,0⟩=r) (w:World) :
  R_ 150 #[.agg #[ax,ay,az,bx,by',bz,cx,cy,cz],sx,sy] w (.bool r):=by
 have Ha:=aS ha;have Hb:=aS hb;have Hc:=aS hc;have Hz:=hid hz;have HS:=aS hs
 obtain ⟨d,hd⟩:∃d,aX ⟨ax,ay,az⟩ ⟨bx,by',bz⟩ ⟨cx,cy,cz⟩=d:=⟨_,rfl⟩
 have HD:=hid (show aX ⟨ax,ay,az⟩ ⟨bx,by',bz⟩ ⟨cx,cy,0⟩=d from hd);unfold qD at hr;rw [hd] at hr;have B0:=hid ((aQx w 153 [ax,ay,az,bx,by',bz,cx,cy,cz]).ext (show Ext (w.alloc (.cells #[ax,ay,az,bx,by',bz,cx,cy,cz] 153)) (w.alloc (.cells #[ax,ay,az,bx,by',bz,cx,cy,cz] 153)) from X_));have X0:=hid (show Ext w (w.alloc (.cells #[ax,ay,az,bx,by',bz,cx,cy,cz] 153)) from X_);clear ha hb hc hz hs hd;go_enter func150,ntmps150;go_wp2_with fail;refine r_ (aAt _ _ _ _ _ _ _ _ _ Ha Hb Hc Hz HD _) fun w1 x1=>?_;replace B0:=hid (B0.ext x1);replace X0:=hid (X0.trans x1)
 by_cases h0:d=0
 ·subst h0
  rw [if_pos rfl] at hr;go_wp2;go_ret;exact ⟨aL hr,X0⟩
 rw [if_neg h0] at hr;have h1:(d==0)=false:=beq_eq_false_iff_ne.2 h0;go_wp2_with fail;refine z_ (aGs HS _) ?_;have p:=B0.lt;have p0:=B0.cell 0 rfl;have p1:=B0.cell 1 rfl;have p2:=B0.cell 2 rfl;have p3:=B0.cell 3 rfl;have p4:=B0.cell 4 rfl;have p5:=B0.cell 5 rfl;have p6:=B0.cell 6 rfl;have p7:=B0.cell 7 rfl;have p8:=B0.cell 8 rfl;go_wp2_with fail;refine r_ (sG _ _ _ _ _ _ _ _ _ Ha Hb Hc Hz _) fun w2 x2=>?_;clear p p0 p1 p2 p3 p4 p5 p6 p7 p8;replace B0:=hid (B0.ext x2);replace X0:=hid (X0.trans x2);have G:=hid (aQx w2 151 [ax,ay,az,bx,by',bz,cx,cy,cz]);have yN:Ext w2 (w2.alloc (.cells #[ax,ay,az,bx,by',bz,cx,cy,cz] 151)):=X_
 by_cases h2:d<0
 ·rw [if_pos h2] at hr
  obtain ⟨b1,e1⟩:∃b,dB ⟨ax,ay,az⟩ ⟨cx,cy,cz⟩ ⟨sx,sy,0⟩=b:=⟨_,rfl⟩
  obtain ⟨b2,e2⟩:∃b,dB ⟨cx,cy,cz⟩ ⟨bx,by',bz⟩ ⟨sx,sy,0⟩=b:=⟨_,rfl⟩
  obtain ⟨b3,e3⟩:∃b,dB ⟨bx,by',bz⟩ ⟨ax,ay,az⟩ ⟨sx,sy,0⟩=b:=⟨_,rfl⟩
  rw [e1,e2,e3] at hr;have H1:=hid e1;have H2:=hid e2;have H3:=hid e3;clear e1 e2 e3;replace B0:=hid (B0.ext yN);have X:=hid (X0.trans yN);have zz:=X0.size;clear yN X0;have p:=B0.lt;have p0:=B0.cell 0 rfl;have p1:=B0.cell 1 rfl;have p2:=B0.cell 2 rfl;have p3:=B0.cell 3 rfl;have p4:=B0.cell 4 rfl;have p5:=B0.cell 5 rfl;have p6:=B0.cell 6 rfl;have p7:=B0.cell 7 rfl;have p8:=B0.cell 8 rfl;go_wp2_with fail;refine r_ (aJk _ _ _ _ _ _ _ _ _ _) fun w3 x3=>?_;replace G:=hid (G.ext x3);replace X:=hid (X.trans x3);clear p p0 p1 p2 p3 p4 p5 p6 p7 p8;go_wp2_with fail;refine r_ (sG _ _ _ _ _ _ _ _ _ Ha Hc Hb ⟨Hz.1,Hz.2.2,Hz.2.1⟩ _) fun w4 x4=>?_;replace G:=hid (G.ext x4);replace X:=hid (X.trans x4);have g:=G.lt;have g0:=G.cell 0 rfl;have g1:=G.cell 1 rfl;have g2:=G.cell 2 rfl;have g3:=G.cell 3 rfl;have g4:=G.cell 4 rfl;have g5:=G.cell 5 rfl;have g6:=G.cell 6 rfl;have g7:=G.cell 7 rfl;have g8:=G.cell 8 rfl;have h4:=G.free 0;have h5:=G.free 1;have h6:=G.free 2;have h7:=G.free 3;have h8:=G.free 4;have h9:=G.free 5;have q0:=G.free 6;have q1:=G.free 7;have q2:=G.free 8;go_upto_region 7 with fail;have XX:=X.out
  have G5:Blk (((((((((w4.setCell ⟨w2.heap.size,0,none⟩ ax).setCell ⟨w2.heap.size,1,none⟩ ay).setCell ⟨w2.heap.size,2,none⟩ az).setCell ⟨w2.heap.size,3,none⟩ cx).setCell ⟨w2.heap.size,4,none⟩ cy).setCell ⟨w2.heap.size,5,none⟩ cz).setCell ⟨w2.heap.size,6,none⟩ bx).setCell ⟨w2.heap.size,7,none⟩ by').setCell ⟨w2.heap.size,8,none⟩ bz) w2.heap.size 151 [ax,ay,az,cx,cy,cz,bx,by',bz]:=(((((((((G.set 0 (.int .i64 ax)).set 1 (.int .i64 ay)).set 2 (.int .i64 az)).set 3 (.int .i64 cx)).set 4 (.int .i64 cy)).set 5 (.int .i64 cz)).set 6 (.int .i64 bx)).set 7 (.int .i64 by')).set 8 (.int .i64 bz))
  have X5:Ext w (((((((((w4.setCell ⟨w2.heap.size,0,none⟩ ax).setCell ⟨w2.heap.size,1,none⟩ ay).setCell ⟨w2.heap.size,2,none⟩ az).setCell ⟨w2.heap.size,3,none⟩ cx).setCell ⟨w2.heap.size,4,none⟩ cy).setCell ⟨w2.heap.size,5,none⟩ cz).setCell ⟨w2.heap.size,6,none⟩ bx).setCell ⟨w2.heap.size,7,none⟩ by').setCell ⟨w2.heap.size,8,none⟩ bz):=S_
  obtain ⟨W5,h3⟩:∃W,(((((((((w4.setCell ⟨w2.heap.size,0,none⟩ ax).setCell ⟨w2.heap.size,1,none⟩ ay).setCell ⟨w2.heap.size,2,none⟩ az).setCell ⟨w2.heap.size,3,none⟩ cx).setCell ⟨w2.heap.size,4,none⟩ cy).setCell ⟨w2.heap.size,5,none⟩ cz).setCell ⟨w2.heap.size,6,none⟩ bx).setCell ⟨w2.heap.size,7,none⟩ by').setCell ⟨w2.heap.size,8,none⟩ bz)=W:=⟨_,rfl⟩
  rw [h3] at G5 X5 ⊢;clear h3 XX g g0 g1 g2 g3 g4 g5 g6 g7 g8 h4 h5 h6 h7 h8 h9 q0 q1 q2 x4 x3;replace G:=hid G5;replace X:=hid X5;clear G5 X5;have g:=G.lt;have g0:=G.cell 0 rfl;have g1:=G.cell 1 rfl;have g2:=G.cell 2 rfl;have g3:=G.cell 3 rfl;have g4:=G.cell 4 rfl;have g5:=G.cell 5 rfl;have g6:=G.cell 6 rfl;have g7:=G.cell 7 rfl;have g8:=G.cell 8 rfl;go_wp2_with fail;refine r_ (gM _ _ _ _ _ _ Ha Hc HS H1 _) fun u1 zu1=>?_;replace G:=hid (G.ext zu1);replace X:=hid (X.trans zu1);clear g g0 g1 g2 g3 g4 g5 g6 g7 g8
  cases b1
  ·go_wp2
   go_ret;exact ⟨aL (by simpa using hr),X⟩
  have g:=G.lt;have g0:=G.cell 0 rfl;have g1:=G.cell 1 rfl;have g2:=G.cell 2 rfl;have g3:=G.cell 3 rfl;have g4:=G.cell 4 rfl;have g5:=G.cell 5 rfl;have g6:=G.cell 6 rfl;have g7:=G.cell 7 rfl;have g8:=G.cell 8 rfl;go_wp2_with fail;refine r_ (gM _ _ _ _ _ _ Hc Hb HS H2 _) fun u2 zu2=>?_;replace G:=hid (G.ext zu2);replace X:=hid (X.trans zu2);clear g g0 g1 g2 g3 g4 g5 g6 g7 g8
  cases b2
  ·go_wp2
   go_ret;exact ⟨aL (by simpa using hr),X⟩
  have g:=G.lt;have g0:=G.cell 0 rfl;have g1:=G.cell 1 rfl;have g2:=G.cell 2 rfl;have g3:=G.cell 3 rfl;have g4:=G.cell 4 rfl;have g5:=G.cell 5 rfl;have g6:=G.cell 6 rfl;have g7:=G.cell 7 rfl;have g8:=G.cell 8 rfl;go_wp2_with fail;refine r_ (gM _ _ _ _ _ _ Hb Ha HS H3 _) fun u3 zu3=>?_;go_wp2;go_ret;exact ⟨aL (by simpa using hr),X.trans zu3⟩
 ·rw [if_neg h2] at hr
  obtain ⟨b1,e1⟩:∃b,dB ⟨ax,ay,az⟩ ⟨bx,by',bz⟩ ⟨sx,sy,0⟩=b:=⟨_,rfl⟩
  obtain ⟨b2,e2⟩:∃b,dB ⟨bx,by',bz⟩ ⟨cx,cy,cz⟩ ⟨sx,sy,0⟩=b:=⟨_,rfl⟩
  obtain ⟨b3,e3⟩:∃b,dB ⟨cx,cy,cz⟩ ⟨ax,ay,az⟩ ⟨sx,sy,0⟩=b:=⟨_,rfl⟩
  rw [e1,e2,e3] at hr;have H1:=hid e1;have H2:=hid e2;have H3:=hid e3;clear e1 e2 e3;have X:=hid (X0.trans yN);clear yN X0 B0;have g:=G.lt;have g0:=G.cell 0 rfl;have g1:=G.cell 1 rfl;have g2:=G.cell 2 rfl;have g3:=G.cell 3 rfl;have g4:=G.cell 4 rfl;have g5:=G.cell 5 rfl;have g6:=G.cell 6 rfl;have g7:=G.cell 7 rfl;have g8:=G.cell 8 rfl;go_wp2_with fail;refine r_ (gM _ _ _ _ _ _ Ha Hb HS H1 _) fun u1 zu1=>?_;replace G:=hid (G.ext zu1);replace X:=hid (X.trans zu1);clear g g0 g1 g2 g3 g4 g5 g6 g7 g8
  cases b1
  ·go_wp2
   go_ret;exact ⟨aL (by simpa using hr),X⟩
  have g:=G.lt;have g0:=G.cell 0 rfl;have g1:=G.cell 1 rfl;have g2:=G.cell 2 rfl;have g3:=G.cell 3 rfl;have g4:=G.cell 4 rfl;have g5:=G.cell 5 rfl;have g6:=G.cell 6 rfl;have g7:=G.cell 7 rfl;have g8:=G.cell 8 rfl;go_wp2_with fail;refine r_ (gM _ _ _ _ _ _ Hb Hc HS H2 _) fun u2 zu2=>?_;replace G:=hid (G.ext zu2);replace X:=hid (X.trans zu2);clear g g0 g1 g2 g3 g4 g5 g6 g7 g8
  cases b2
  ·go_wp2
   go_ret;exact ⟨aL (by simpa using hr),X⟩
  have g:=G.lt;have g0:=G.cell 0 rfl;have g1:=G.cell 1 rfl;have g2:=G.cell 2 rfl;have g3:=G.cell 3 rfl;have g4:=G.cell 4 rfl;have g5:=G.cell 5 rfl;have g6:=G.cell 6 rfl;have g7:=G.cell 7 rfl;have g8:=G.cell 8 rfl;go_wp2_with fail;refine r_ (gM _ _ _ _ _ _ Hc Ha HS H3 _) fun u3 zu3=>?_;go_wp2;go_ret;exact ⟨aL (by simpa using hr),X.trans zu3⟩
theorem aJl (ax ay az bx by' bz cx cy cz:Int) (ha:aSe ⟨ax,ay,az⟩) (hb:aSe ⟨bx,by',bz⟩) (hc:aSe ⟨cx,cy,cz⟩) (hz:(-1000000<=az/\az<=1000000)/\(-1000000<=bz/\bz<=1000000)/\(-1000000<=cz/\cz<=1000000)) (sx sy:Int) (hs:aSe ⟨sx,sy,0⟩) (hr:qD ⟨ax,ay,az⟩ ⟨bx,by',bz⟩ ⟨cx,cy,cz⟩ ⟨sx,sy,0⟩=false) (w:World) :
  R_ 100 #[.agg #[ax,ay,az,bx,by',bz,cx,cy,cz],sx,sy] w (.tuple #[(),.bool false]):=by
 have Ha:=aS ha;have Hb:=aS hb;have Hc:=aS hc;have Hz:=hid hz;have HS:=aS hs;have HR:=hid hr;clear ha hb hc hz hs hr;have B0:=hid ((aQx w 153 [ax,ay,az,bx,by',bz,cx,cy,cz]).ext (show Ext (w.alloc (.cells #[ax,ay,az,bx,by',bz,cx,cy,cz] 153)) (w.alloc (.cells #[ax,ay,az,bx,by',bz,cx,cy,cz] 153)) from X_));have X0:=hid (show Ext w (w.alloc (.cells #[ax,ay,az,bx,by',bz,cx,cy,cz] 153)) from X_);go_enter func100,ntmps100;go_wp2_with fail;refine r_ (uJ _ _ _ _ _ _ _ _ _ Ha Hb Hc Hz _ _ HS HR _) fun w1 x1=>?_;go_wp2;exact bodyPost_ret (v:=.tuple #[(),.bool false]) (by simp [results,results100,go_sem, *]) rfl ⟨rfl,X0.trans x1⟩
theorem oX {a b s:V3} (ha:a.scr) (hb:b.scr) (hs:s.scr) : -100000000000<=aX a b s/\aX a b s<=100000000000:=by
 have h:=rM ha hb hs;unfold aX;omega
theorem aGt (ax ay az bx by' bz cx cy cz:Int) (ha:aSe ⟨ax,ay,az⟩) (hb:aSe ⟨bx,by',bz⟩) (hc:aSe ⟨cx,cy,cz⟩) (hz:(-1000000<=az/\az<=1000000)/\(-1000000<=bz/\bz<=1000000)/\(-1000000<=cz/\cz<=1000000)) (sx sy:Int) (hs:aSe ⟨sx,sy,0⟩) (hr:qD ⟨ax,ay,az⟩ ⟨bx,by',bz⟩ ⟨cx,cy,cz⟩ ⟨sx,sy,0⟩=true) (hd:eC ⟨ax,ay,az⟩ ⟨bx,by',bz⟩ ⟨cx,cy,cz⟩ ⟨sx,sy,0⟩=r) (w:World) :
  R_ 100 #[.agg #[ax,ay,az,bx,by',bz,cx,cy,cz],sx,sy] w (.tuple #[r,.bool true]):=by
 have Ha:=aS ha;have Hb:=aS hb;have Hc:=aS hc;have Hz:=hid hz;have HS:=aS hs;have HR:=hid hr;unfold eC at hd;simp only at hd
 obtain ⟨n,en⟩:∃d,aX ⟨ax,ay,az⟩ ⟨bx,by',bz⟩ ⟨cx,cy,cz⟩=d:=⟨_,rfl⟩
 obtain ⟨s1,e1⟩:∃d,aX ⟨bx,by',bz⟩ ⟨cx,cy,cz⟩ ⟨sx,sy,0⟩=d:=⟨_,rfl⟩
 obtain ⟨s2,e2⟩:∃d,aX ⟨cx,cy,cz⟩ ⟨ax,ay,az⟩ ⟨sx,sy,0⟩=d:=⟨_,rfl⟩
 obtain ⟨s3,e3⟩:∃d,aX ⟨ax,ay,az⟩ ⟨bx,by',bz⟩ ⟨sx,sy,0⟩=d:=⟨_,rfl⟩
 have gn:=oX ha hb hc;have g1:=oX hb hc hs;have g2:=oX hc ha hs;have g3:=oX ha hb hs;have h0:=aJq hr;rw [en,e1,e2,e3] at h0 hd;rw [en] at gn;rw [e1] at g1;rw [e2] at g2;rw [e3] at g3
 obtain ⟨an,fn⟩:∃d,fT n=d:=⟨_,rfl⟩
 obtain ⟨a1,f1⟩:∃d,fT s1=d:=⟨_,rfl⟩
 obtain ⟨a2,f2⟩:∃d,fT s2=d:=⟨_,rfl⟩
 obtain ⟨a3,f3⟩:∃d,fT s3=d:=⟨_,rfl⟩
 have k1:=(dE (x:=s1)).1;have k2:=(dE (x:=s2)).1;have k3:=(dE (x:=s3)).1
 have kn:an<=100000000000:=by
  rcases Int.le_total 0 n with h|h
  ·have:=(dE (x:=n)).2.1 h;omega
  ·have:=(dE (x:=n)).2.2 h;omega
 rw [fn,f1,f2,f3] at h0;rw [f1] at k1;rw [f2] at k2;rw [f3] at k3;rw [fn,f1,f2,f3] at hd
 obtain ⟨q1,i1⟩:∃q,az*a1=q:=⟨_,rfl⟩
 obtain ⟨q2,i2⟩:∃q,bz*a2=q:=⟨_,rfl⟩
 obtain ⟨q3,i3⟩:∃q,cz*a3=q:=⟨_,rfl⟩
 have j1:=bL (A:=1000000) (B:=100000000000) (a:=az) (b:=a1) hz.1 (by omega);have j2:=bL (A:=1000000) (B:=100000000000) (a:=bz) (b:=a2) hz.2.1 (by omega);have j3:=bL (A:=1000000) (B:=100000000000) (a:=cz) (b:=a3) hz.2.2 (by omega);rw [i1] at j1 hd;rw [i2] at j2 hd;rw [i3] at j3 hd;have w1:=hid (show wrap64 (az*a1)=q1 by rw [i1];exact aD (by omega) (by omega));have w2:=hid (show wrap64 (bz*a2)=q2 by rw [i2];exact aD (by omega) (by omega));have w3:=hid (show wrap64 (cz*a3)=q3 by rw [i3];exact aD (by omega) (by omega));have w4:=hid (show wrap64 (q1+q2)=q1+q2 from aD (by omega) (by omega));have w5:=hid (show wrap64 (q1+q2+q3)=q1+q2+q3 from aD (by omega) (by omega));have I9:=hid (show I64 (q1+q2+q3) from I64.of (m:=400000000000000000) (by omega) (by decide));have HN:=hid (show aX ⟨ax,ay,az⟩ ⟨bx,by',bz⟩ ⟨cx,cy,0⟩=n from en);have H1:=hid e1;have H2:=hid e2;have H3:=hid e3;have FN:=hid fn;have F1:=hid f1;have F2:=hid f2;have F3:=hid f3;have GN:=hid gn;have G1:=hid g1;have G2:=hid g2;have G3:=hid g3;have HD:=hid hd;clear ha hb hc hz hs hr hd en e1 e2 e3 fn f1 f2 f3 gn g1 g2 g3 h0 i1 i2 i3 j1 j2 j3 k1 k2 k3 kn;have B0:=hid ((aQx w 153 [ax,ay,az,bx,by',bz,cx,cy,cz]).ext (show Ext (w.alloc (.cells #[ax,ay,az,bx,by',bz,cx,cy,cz] 153)) (w.alloc (.cells #[ax,ay,az,bx,by',bz,cx,cy,cz] 153)) from X_));have X0:=hid (show Ext w (w.alloc (.cells #[ax,ay,az,bx,by',bz,cx,cy,cz] 153)) from X_);go_enter func100,ntmps100;go_wp2_with fail;refine r_ (uJ _ _ _ _ _ _ _ _ _ Ha Hb Hc Hz _ _ HS HR _) fun v1 x1=>?_;replace B0:=hid (B0.ext x1);replace X0:=hid (X0.trans x1);have p:=B0.lt;have p0:=B0.cell 0 rfl;have p1:=B0.cell 1 rfl;have p2:=B0.cell 2 rfl;have p3:=B0.cell 3 rfl;have p4:=B0.cell 4 rfl;have p5:=B0.cell 5 rfl;have p6:=B0.cell 6 rfl;have p7:=B0.cell 7 rfl;have p8:=B0.cell 8 rfl;go_wp2_with fail;refine r_ (sG _ _ _ _ _ _ _ _ _ Ha Hb Hc Hz _) fun v2 x2=>?_;clear p p0 p1 p2 p3 p4 p5 p6 p7 p8;replace B0:=hid (B0.ext x2);replace X0:=hid (X0.trans x2);have G:=hid (aQx v2 151 [ax,ay,az,bx,by',bz,cx,cy,cz]);have yN:Ext v2 (v2.alloc (.cells #[ax,ay,az,bx,by',bz,cx,cy,cz] 151)):=X_;replace B0:=hid (B0.ext yN);replace X0:=hid (X0.trans yN);clear yN x1 x2;have p:=B0.lt;have p0:=B0.cell 0 rfl;have p1:=B0.cell 1 rfl;have p2:=B0.cell 2 rfl;have p3:=B0.cell 3 rfl;have p4:=B0.cell 4 rfl;have p5:=B0.cell 5 rfl;have p6:=B0.cell 6 rfl;have p7:=B0.cell 7 rfl;have p8:=B0.cell 8 rfl;go_wp2_with fail;refine r_ (aAt _ _ _ _ _ _ _ _ _ Ha Hb Hc Hz HN _) fun v3 x3=>?_;replace G:=hid (G.ext x3);replace X0:=hid (X0.trans x3);clear p p0 p1 p2 p3 p4 p5 p6 p7 p8;go_wp2_with fail;refine z_ (sH GN FN _) ?_;have g:=G.lt;have g0:=G.cell 0 rfl;have g1:=G.cell 1 rfl;have g2:=G.cell 2 rfl;have g3:=G.cell 3 rfl;have g4:=G.cell 4 rfl;have g5:=G.cell 5 rfl;have g6:=G.cell 6 rfl;have g7:=G.cell 7 rfl;have g8:=G.cell 8 rfl;go_wp2_with fail;refine r_ (iO _ _ _ _ _ _ Hb Hc HS H1 _) fun v5 x5=>?_;replace G:=hid (G.ext x5);replace X0:=hid (X0.trans x5);clear g g0 g1 g2 g3 g4 g5 g6 g7 g8;go_wp2_with fail;refine z_ (sH G1 F1 _) ?_;have g:=G.lt;have g0:=G.cell 0 rfl;have g1:=G.cell 1 rfl;have g2:=G.cell 2 rfl;have g3:=G.cell 3 rfl;have g4:=G.cell 4 rfl;have g5:=G.cell 5 rfl;have g6:=G.cell 6 rfl;have g7:=G.cell 7 rfl;have g8:=G.cell 8 rfl;go_wp2_with fail;refine r_ (iO _ _ _ _ _ _ Hc Ha HS H2 _) fun v6 x6=>?_;replace G:=hid (G.ext x6);replace X0:=hid (X0.trans x6);clear g g0 g1 g2 g3 g4 g5 g6 g7 g8;go_wp2_with fail;refine z_ (sH G2 F2 _) ?_;have g:=G.lt;have g0:=G.cell 0 rfl;have g1:=G.cell 1 rfl;have g2:=G.cell 2 rfl;have g3:=G.cell 3 rfl;have g4:=G.cell 4 rfl;have g5:=G.cell 5 rfl;have g6:=G.cell 6 rfl;have g7:=G.cell 7 rfl;have g8:=G.cell 8 rfl;go_wp2_with fail;refine r_ (iO _ _ _ _ _ _ Ha Hb HS H3 _) fun v7 x7=>?_;replace G:=hid (G.ext x7);replace X0:=hid (X0.trans x7);clear g g0 g1 g2 g3 g4 g5 g6 g7 g8;go_wp2_with fail;refine z_ (sH G3 F3 _) ?_;have g:=G.lt;have g0:=G.cell 0 rfl;have g1:=G.cell 1 rfl;have g2:=G.cell 2 rfl;have g3:=G.cell 3 rfl;have g4:=G.cell 4 rfl;have g5:=G.cell 5 rfl;have g6:=G.cell 6 rfl;have g7:=G.cell 7 rfl;have g8:=G.cell 8 rfl;have u1:=w1.out;have u2:=w2.out;have u3:=w3.out;have u4:=w4.out;have u5:=w5.out;go_wp2_with fail;refine z_ (aT I9 HD _) ?_;go_wp2;exact bodyPost_ret (v:=.tuple #[r,.bool true]) (by simp [results,results100,go_sem, *]) rfl ⟨rfl,X0⟩
theorem oY (x y z k l m t:Int) (ht:0<=t/\t<=16) (w:World) :
  R_ 204 #[.agg #[x,y,z],.agg #[k,l,m],t,.int .i64 16] w (.agg #[(gH x k t 16),(gH y l t 16),(gH z m t 16)]):=by
 obtain ⟨ux,h3⟩:∃r,cl x=r:=⟨_,rfl⟩
 have h9:=cM x;rw [h3] at h9
 obtain ⟨uy,h4⟩:∃r,cl y=r:=⟨_,rfl⟩
 have q4:=cM y;rw [h4] at q4
 obtain ⟨uz,h5⟩:∃r,cl z=r:=⟨_,rfl⟩
 have q5:=cM z;rw [h5] at q5
 obtain ⟨uk,h0⟩:∃r,cl k=r:=⟨_,rfl⟩
 have h6:=cM k;rw [h0] at h6
 obtain ⟨ul,h1⟩:∃r,cl l=r:=⟨_,rfl⟩
 have h7:=cM l;rw [h1] at h7
 obtain ⟨um,h2⟩:∃r,cl m=r:=⟨_,rfl⟩
 have h8:=cM m;rw [h2] at h8;have p0:=bL (A:=1000000) (B:=16) (a:=ux) (b:=16 - t) h9 (by omega)
 obtain ⟨q0,e0⟩:∃r,ux*(16 - t)=r:=⟨_,rfl⟩
 rw [e0] at p0;have r0:=bL (A:=1000000) (B:=16) (a:=uk) (b:=t) h6 (by omega)
 obtain ⟨s0,g0⟩:∃r,uk*t=r:=⟨_,rfl⟩
 rw [g0] at r0
 obtain ⟨v0,q6⟩:∃r,gH x k t 16=r:=⟨_,rfl⟩
 rw [q6];have F0:=hid (show bI (q0+s0) 16=v0 by rw [<-q6];unfold gH;rw [h3,h0,e0,g0]);have M0:=hid (show wrap64 (ux*(16 - t))=q0 by rw [e0];exact aD (by omega) (by omega));have N0:=hid (show wrap64 (uk*t)=s0 by rw [g0];exact aD (by omega) (by omega));have S0:=hid (show wrap64 (q0+s0)=q0+s0 from aD (by omega) (by omega));have I0:=hid (I64.of (n:=q0+s0) (m:=40000000) (by omega) (by decide));have p1:=bL (A:=1000000) (B:=16) (a:=uy) (b:=16 - t) q4 (by omega)
 obtain ⟨q1,e1⟩:∃r,uy*(16 - t)=r:=⟨_,rfl⟩
 rw [e1] at p1;have r1:=bL (A:=1000000) (B:=16) (a:=ul) (b:=t) h7 (by omega)
 obtain ⟨s1,g1⟩:∃r,ul*t=r:=⟨_,rfl⟩
 rw [g1] at r1
 obtain ⟨v1,q7⟩:∃r,gH y l t 16=r:=⟨_,rfl⟩
 rw [q7];have F1:=hid (show bI (q1+s1) 16=v1 by rw [<-q7];unfold gH;rw [h4,h1,e1,g1]);have M1:=hid (show wrap64 (uy*(16 - t))=q1 by rw [e1];exact aD (by omega) (by omega));have N1:=hid (show wrap64 (ul*t)=s1 by rw [g1];exact aD (by omega) (by omega));have S1:=hid (show wrap64 (q1+s1)=q1+s1 from aD (by omega) (by omega));have I1:=hid (I64.of (n:=q1+s1) (m:=40000000) (by omega) (by decide));have p2:=bL (A:=1000000) (B:=16) (a:=uz) (b:=16 - t) q5 (by omega)
 obtain ⟨q2,e2⟩:∃r,uz*(16 - t)=r:=⟨_,rfl⟩
 rw [e2] at p2;have r2:=bL (A:=1000000) (B:=16) (a:=um) (b:=t) h8 (by omega)
 obtain ⟨s2,g2⟩:∃r,um*t=r:=⟨_,rfl⟩
 rw [g2] at r2
 obtain ⟨v2,q8⟩:∃r,gH z m t 16=r:=⟨_,rfl⟩
 rw [q8];have F2:=hid (show bI (q2+s2) 16=v2 by rw [<-q8];unfold gH;rw [h5,h2,e2,g2]);have M2:=hid (show wrap64 (uz*(16 - t))=q2 by rw [e2];exact aD (by omega) (by omega));have N2:=hid (show wrap64 (um*t)=s2 by rw [g2];exact aD (by omega) (by omega));have S2:=hid (show wrap64 (q2+s2)=q2+s2 from aD (by omega) (by omega));have I2:=hid (I64.of (n:=q2+s2) (m:=40000000) (by omega) (by decide));have x5:=hid h3;have x6:=hid h4;have x7:=hid h5;have q9:=hid h0;have x3:=hid h1;have x4:=hid h2;have T0:=hid (show wrap64 (16 - t)=16 - t from aD (by omega) (by omega));clear h3 h9 h4 q4 h5 q5 h0 h6 h1 h7 h2 h8 p0 e0 r0 g0 q6 p1 e1 r1 g1 q7 p2 e2 r2 g2 q8;have J1:=hid (show inB 16 1 4096=true from rfl);have J2:=hid (aG.2 (show (0:Int)<=t/\t<=16 from ht));clear ht;have B0:=hid ((aQx w 122 [x,y,z]).ext (show Ext (w.alloc (.cells #[x,y,z] 122)) (((w.alloc (.cells #[x,y,z] 122)).alloc (.cells #[k,l,m] 122)).alloc (.cells #[(),(),()] 122)) from X_));have B1:=hid (show Blk (((w.alloc (.cells #[x,y,z] 122)).alloc (.cells #[k,l,m] 122)).alloc (.cells #[(),(),()] 122)) (w.heap.size+1) 122 [k,l,m] from by have q:=(aQx (w.alloc (.cells #[x,y,z] 122)) 122 [k,l,m]).ext (show Ext ((w.alloc (.cells #[x,y,z] 122)).alloc (.cells #[k,l,m] 122)) (((w.alloc (.cells #[x,y,z] 122)).alloc (.cells #[k,l,m] 122)).alloc (.cells #[(),(),()] 122)) from X_);simp only [aQp] at q;exact q);have B2:=hid (show Blk (((w.alloc (.cells #[x,y,z] 122)).alloc (.cells #[k,l,m] 122)).alloc (.cells #[(),(),()] 122)) (w.heap.size+2) 122 [(),(),()] from by have q:=(aQx ((w.alloc (.cells #[x,y,z] 122)).alloc (.cells #[k,l,m] 122)) 122 [(),(),()]).ext (show Ext (((w.alloc (.cells #[x,y,z] 122)).alloc (.cells #[k,l,m] 122)).alloc (.cells #[(),(),()] 122)) (((w.alloc (.cells #[x,y,z] 122)).alloc (.cells #[k,l,m] 122)).alloc (.cells #[(),(),()] 122)) from X_);simp only [aQp] at q;exact q);have X0:=hid (show Ext w (((w.alloc (.cells #[x,y,z] 122)).alloc (.cells #[k,l,m] 122)).alloc (.cells #[(),(),()] 122)) from X_);go_enter func204,ntmps204;go_wp2_with fail;refine r_ (jD x5 x6 x7 _) fun w1 x1=>?_;replace B0:=hid (B0.ext x1);replace B1:=hid (B1.ext x1);replace B2:=hid (B2.ext x1);replace X0:=hid (X0.trans x1);have b:=B1.lt;obtain ⟨b0,b1,b2⟩:=B1.q3;have z1:=X0.size;go_wp2_with fail;refine r_ (jD q9 x3 x4 _) fun w2 x2=>?_;have D1:=(aQx w1 122 [ux,uy,uz]).ext x2;have y1:Ext w1 w2:=aQu X_ x2;clear b0 b1 b2 b;replace B0:=hid (B0.ext y1);replace B1:=hid (B1.ext y1);replace B2:=hid (B2.ext y1);replace X0:=hid (X0.trans y1);have a:=D1.lt;obtain ⟨a0,a1,a2⟩:=D1.q3;have r:=B2.lt;obtain ⟨r0,r1,r2⟩:=B2.q3;have x8:=B2.free 0;have x9:=B2.free 1;have z0:=B2.free 2;have z2:=X0.size;have z3:=y1.size;have x0:=X0.out;clear D1 x2 y1 x1;go_wp2_with fail;refine z_ (aE J1 _) ?_;go_wp2_with fail;refine z_ (aE J2 _) ?_;have t0:=T0.out;have m0:=M0.out;have n0:=N0.out;have z4:=S0.out;have m1:=M1.out;have n1:=N1.out;have z5:=S1.out;have m2:=M2.out;have n2:=N2.out;have z6:=S2.out;go_wp2_with fail;refine aA [([0,1,2,3,4,5,6,7,8,9,10,11,13,14,15,16,17,18,19,20,21,22,23,24,26,27,28,29,30,31,32,33,34,35,36,37],12),([],25),([],38),([39],40)] 40 (w2.heap.size+1) (by kernel_rfl) (by kernel_rfl) ?_;refine st_ fun K hK=>?_;go_wp2_with fail;refine z_ (aT I0 F0 _) ?_;go_wp2_with fail;refine k_ hK ?_;clear hK K;refine st_ fun K hK=>?_;go_wp2_with fail;refine z_ (aT I1 F1 _) ?_;go_wp2_with fail;refine k_ hK ?_;clear hK K;refine st_ fun K hK=>?_;go_wp2_with fail;refine z_ (aT I2 F2 _) ?_;go_wp2_with fail;refine k_ hK ?_;clear hK K;refine st_ fun K hK=>?_;go_wp2_with fail;refine l_ hK ?_;clear hK K;refine aC ?_;go_wp2;exact bodyPost_ret (v:=.agg #[v0,v1,v2]) (by simp [results,results204,go_sem, *]) rfl ⟨rfl,S_⟩
def aP1 (f g:Nat->Int) (t:Int) (j:Nat):List Value:=(aRc 12).map fun i=>.int .i64 (if i<3*j then aY f g t i else f i)
theorem aLe (f g:Nat->Int) (t:Int) (ht:0<=t/\t<=16) (w:World) :
  R_ 149 #[.agg f,.agg g,t] w (.agg (aY f g t)):=by
 have HT:=hid ht;have J2:=hid (aG.2 (show (0:Int)<=t/\t<=16 from ht));clear ht;have B0:=hid ((aQx w 125 f).ext (show Ext (w.alloc (.cells f 125)) ((((w.alloc (.cells f 125)).alloc (.cells g 125)).alloc (.cells #[(),(),(),(),(),(),(),(),(),(),(),()] 125)).alloc (.cells f 125)) from X_));have B1:=hid (show Blk ((((w.alloc (.cells f 125)).alloc (.cells g 125)).alloc (.cells #[(),(),(),(),(),(),(),(),(),(),(),()] 125)).alloc (.cells f 125)) (w.heap.size+1) 125 g from by have q:=(aQx (w.alloc (.cells f 125)) 125 g).ext (show Ext ((w.alloc (.cells f 125)).alloc (.cells g 125)) ((((w.alloc (.cells f 125)).alloc (.cells g 125)).alloc (.cells #[(),(),(),(),(),(),(),(),(),(),(),()] 125)).alloc (.cells f 125)) from X_);simp only [aQp] at q;exact q);have B2:=hid (show Blk ((((w.alloc (.cells f 125)).alloc (.cells g 125)).alloc (.cells #[(),(),(),(),(),(),(),(),(),(),(),()] 125)).alloc (.cells f 125)) (w.heap.size+2) 125 [(),(),(),(),(),(),(),(),(),(),(),()] from by have q:=(aQx ((w.alloc (.cells f 125)).alloc (.cells g 125)) 125 [(),(),(),(),(),(),(),(),(),(),(),()]).ext (show Ext (((w.alloc (.cells f 125)).alloc (.cells g 125)).alloc (.cells #[(),(),(),(),(),(),(),(),(),(),(),()] 125)) ((((w.alloc (.cells f 125)).alloc (.cells g 125)).alloc (.cells #[(),(),(),(),(),(),(),(),(),(),(),()] 125)).alloc (.cells f 125)) from X_);simp only [aQp] at q;exact q);have B3:=hid (show Blk ((((w.alloc (.cells f 125)).alloc (.cells g 125)).alloc (.cells #[(),(),(),(),(),(),(),(),(),(),(),()] 125)).alloc (.cells f 125)) (w.heap.size+3) 125 f from by have q:=(aQx (((w.alloc (.cells f 125)).alloc (.cells g 125)).alloc (.cells #[(),(),(),(),(),(),(),(),(),(),(),()] 125)) 125 f).ext (show Ext ((((w.alloc (.cells f 125)).alloc (.cells g 125)).alloc (.cells #[(),(),(),(),(),(),(),(),(),(),(),()] 125)).alloc (.cells f 125)) ((((w.alloc (.cells f 125)).alloc (.cells g 125)).alloc (.cells #[(),(),(),(),(),(),(),(),(),(),(),()] 125)).alloc (.cells f 125)) from X_);simp only [aQp] at q;exact q);have X0:=hid (show Ext w ((((w.alloc (.cells f 125)).alloc (.cells g 125)).alloc (.cells #[(),(),(),(),(),(),(),(),(),(),(),()] 125)).alloc (.cells f 125)) from X_);go_enter func149,ntmps149;go_wp2_with fail;refine z_ (aE J2 _) ?_;go_wp2_with fail
 obtain ⟨W,hW⟩:∃W,((((w.alloc (.cells f 125)).alloc (.cells g 125)).alloc (.cells #[(),(),(),(),(),(),(),(),(),(),(),()] 125)).alloc (.cells f 125))=W:=⟨_,rfl⟩
 try simp only [aQp]
 rw [hW];rw [hW] at B0 B1 B2 B3 X0;clear hW
 go_loopw [14] (fun i wr=>∃j:Nat,j<=4/\i = .int .i64 (j:Nat)/\Ext w wr/\Blk wr w.heap.size 125 f/\Blk wr (w.heap.size+1) 125 g/\Blk wr (w.heap.size+2) 125 [(),(),(),(),(),(),(),(),(),(),(),()]/\Blk wr (w.heap.size+3) 125 (aP1 f g t j)) (fun i _=>4 - (intOf i).toNat)
 case atStart=>exact ⟨0,by omega,rfl,X0,B0,B1,B2,B3⟩
 case round=>
  obtain ⟨j,hj,rfl,hx,h0,h1,h2,h3⟩:=hrel;clear B0 B1 B2 B3 X0;have X0:=hid hx;have B0:=hid h0;have B1:=hid h1;have B2:=hid h2;have B3:=hid h3;clear hx h0 h1 h2 h3
  rcases (show j=0\/j=1\/j=2\/j=3\/j=4 by omega) with rfl|rfl|rfl|rfl|rfl
  ·replace B3:=hid (show Blk wr (w.heap.size+3) 125 f from B3)
   have p:=B0.lt;obtain ⟨p0,p1,p2,p3,p4,p5,p6,p7,p8,p9,z0,z1⟩:=B0.q12;have q:=B1.lt;obtain ⟨q0,q1,q2,q3,q4,q5,q6,q7,q8,q9,z2,z4⟩:=B1.q12;have r:=B3.lt;obtain ⟨r0,r1,r2,r3,r4,r5,r6,r7,r8,r9,h6,h7⟩:=B3.q12;have h8:=B3.free 0;have h9:=B3.free 1;have x1:=B3.free 2;have x2:=B3.free 3;have x3:=B3.free 4;have x4:=B3.free 5;have x6:=B3.free 6;have x7:=B3.free 7;have x8:=B3.free 8;have x9:=B3.free 9;have h4:=B3.free 10;have h5:=B3.free 11;have zs:=X0.size;have z3:=B3.lt;go_wp2_with fail;refine aA [([0,1,2,3,4,5,6,7,8,9,11],10),([12],13)] 99 (w.heap.size+3) (by kernel_rfl) (by kernel_rfl) ?_;refine st_ fun K hK=>?_;go_wp2_with fail;refine r_ (oY _ _ _ _ _ _ t HT _) fun w5 x5=>?_;have y5:Ext wr w5:=aQu (aRr (aQy _)) x5;go_wp2_with fail;refine hK _ _ (.inr (fun k _ hk=>y5.block (by first|omega|(simp;omega)))) ?_;clear hK K;clear r r0 r1 r2 r3 r4 r5 r6 r7 r8 r9 h6 h7 h8 h9 x1 x2 x3 x4 x6 x7 x8 x9 h4 h5;have C3:=B3.ext y5;have r:=C3.lt;obtain ⟨r0,r1,r2,r3,r4,r5,r6,r7,r8,r9,h6,h7⟩:=C3.q12;have h8:=C3.free 0;have h9:=C3.free 1;have x1:=C3.free 2;have x2:=C3.free 3;have x3:=C3.free 4;have x4:=C3.free 5;have x6:=C3.free 6;have x7:=C3.free 7;have x8:=C3.free 8;have x9:=C3.free 9;have h4:=C3.free 10;have h5:=C3.free 11;refine st_ fun K hK=>?_;go_wp2_with fail;have D:=hid (((C3.set 0 (.int .i64 (aY f g t 0))).set 1 (.int .i64 (aY f g t 1))).set 2 (.int .i64 (aY f g t 2)));have e0:=hid (((B0.ext y5).other (a:=⟨w.heap.size+3,0,none⟩) (by simp) (.int .i64 (aY f g t 0))).other (a:=⟨w.heap.size+3,1,none⟩) (by simp) (.int .i64 (aY f g t 1)) |>.other (a:=⟨w.heap.size+3,2,none⟩) (by simp) (.int .i64 (aY f g t 2)));have e1:=hid (((B1.ext y5).other (a:=⟨w.heap.size+3,0,none⟩) (by simp) (.int .i64 (aY f g t 0))).other (a:=⟨w.heap.size+3,1,none⟩) (by simp) (.int .i64 (aY f g t 1)) |>.other (a:=⟨w.heap.size+3,2,none⟩) (by simp) (.int .i64 (aY f g t 2)));have e2:=hid (((B2.ext y5).other (a:=⟨w.heap.size+3,0,none⟩) (by simp) (.int .i64 (aY f g t 0))).other (a:=⟨w.heap.size+3,1,none⟩) (by simp) (.int .i64 (aY f g t 1)) |>.other (a:=⟨w.heap.size+3,2,none⟩) (by simp) (.int .i64 (aY f g t 2)));have ex:=hid (aQ6 (aQ6 (aQ6 (X0.trans y5) (by simp) _) (by simp) _) (by simp) _:Ext w (((w5.setCell ⟨w.heap.size+3,0,none⟩ (aY f g t 0)).setCell ⟨w.heap.size+3,1,none⟩ (aY f g t 1)).setCell ⟨w.heap.size+3,2,none⟩ (aY f g t 2)))
   refine hK _ _ (.inr (fun k _ hk=>by
    rw [aQz _ _ _ _ (by simp only;omega),aQz _ _ _ _ (by simp only;omega),aQz _ _ _ _ (by simp only;omega)]
    exact y5.block (by omega))) ?_
   clear hK K;refine aC ?_;go_wp2;go_roundw
   case rel=>exact ⟨1,by omega,by go_num,ex.out,e0.out,e1.out,e2.out,D⟩
   case measure=>simp [intOf]
  ·replace B3:=hid (show Blk wr (w.heap.size+3) 125 [(aY f g t 0),(aY f g t 1),(aY f g t 2),(f 3),(f 4),(f 5),(f 6),(f 7),(f 8),(f 9),(f 10),(f 11)] from B3)
   have p:=B0.lt;obtain ⟨p0,p1,p2,p3,p4,p5,p6,p7,p8,p9,z0,z1⟩:=B0.q12;have q:=B1.lt;obtain ⟨q0,q1,q2,q3,q4,q5,q6,q7,q8,q9,z2,z4⟩:=B1.q12;have r:=B3.lt;obtain ⟨r0,r1,r2,r3,r4,r5,r6,r7,r8,r9,h6,h7⟩:=B3.q12;have h8:=B3.free 0;have h9:=B3.free 1;have x1:=B3.free 2;have x2:=B3.free 3;have x3:=B3.free 4;have x4:=B3.free 5;have x6:=B3.free 6;have x7:=B3.free 7;have x8:=B3.free 8;have x9:=B3.free 9;have h4:=B3.free 10;have h5:=B3.free 11;have zs:=X0.size;have z3:=B3.lt;go_wp2_with fail;refine aA [([0,1,2,3,4,5,6,7,8,9,11],10),([12],13)] 99 (w.heap.size+3) (by kernel_rfl) (by kernel_rfl) ?_;refine st_ fun K hK=>?_;go_wp2_with fail;refine r_ (oY _ _ _ _ _ _ t HT _) fun w5 x5=>?_;have y5:Ext wr w5:=aQu (aRr (aQy _)) x5;go_wp2_with fail;refine hK _ _ (.inr (fun k _ hk=>y5.block (by first|omega|(simp;omega)))) ?_;clear hK K;clear r r0 r1 r2 r3 r4 r5 r6 r7 r8 r9 h6 h7 h8 h9 x1 x2 x3 x4 x6 x7 x8 x9 h4 h5;have C3:=B3.ext y5;have r:=C3.lt;obtain ⟨r0,r1,r2,r3,r4,r5,r6,r7,r8,r9,h6,h7⟩:=C3.q12;have h8:=C3.free 0;have h9:=C3.free 1;have x1:=C3.free 2;have x2:=C3.free 3;have x3:=C3.free 4;have x4:=C3.free 5;have x6:=C3.free 6;have x7:=C3.free 7;have x8:=C3.free 8;have x9:=C3.free 9;have h4:=C3.free 10;have h5:=C3.free 11;refine st_ fun K hK=>?_;go_wp2_with fail;have D:=hid (((C3.set 3 (.int .i64 (aY f g t 3))).set 4 (.int .i64 (aY f g t 4))).set 5 (.int .i64 (aY f g t 5)));have e0:=hid (((B0.ext y5).other (a:=⟨w.heap.size+3,3,none⟩) (by simp) (.int .i64 (aY f g t 3))).other (a:=⟨w.heap.size+3,4,none⟩) (by simp) (.int .i64 (aY f g t 4)) |>.other (a:=⟨w.heap.size+3,5,none⟩) (by simp) (.int .i64 (aY f g t 5)));have e1:=hid (((B1.ext y5).other (a:=⟨w.heap.size+3,3,none⟩) (by simp) (.int .i64 (aY f g t 3))).other (a:=⟨w.heap.size+3,4,none⟩) (by simp) (.int .i64 (aY f g t 4)) |>.other (a:=⟨w.heap.size+3,5,none⟩) (by simp) (.int .i64 (aY f g t 5)));have e2:=hid (((B2.ext y5).other (a:=⟨w.heap.size+3,3,none⟩) (by simp) (.int .i64 (aY f g t 3))).other (a:=⟨w.heap.size+3,4,none⟩) (by simp) (.int .i64 (aY f g t 4)) |>.other (a:=⟨w.heap.size+3,5,none⟩) (by simp) (.int .i64 (aY f g t 5)));have ex:=hid (aQ6 (aQ6 (aQ6 (X0.trans y5) (by simp) _) (by simp) _) (by simp) _:Ext w (((w5.setCell ⟨w.heap.size+3,3,none⟩ (aY f g t 3)).setCell ⟨w.heap.size+3,4,none⟩ (aY f g t 4)).setCell ⟨w.heap.size+3,5,none⟩ (aY f g t 5)))
   refine hK _ _ (.inr (fun k _ hk=>by
    rw [aQz _ _ _ _ (by simp only;omega),aQz _ _ _ _ (by simp only;omega),aQz _ _ _ _ (by simp only;omega)]
    exact y5.block (by omega))) ?_
   clear hK K;refine aC ?_;go_wp2;go_roundw
   case rel=>exact ⟨2,by omega,by go_num,ex.out,e0.out,e1.out,e2.out,D⟩
   case measure=>simp [intOf]
  ·replace B3:=hid (show Blk wr (w.heap.size+3) 125 [(aY f g t 0),(aY f g t 1),(aY f g t 2),(aY f g t 3),(aY f g t 4),(aY f g t 5),(f 6),(f 7),(f 8),(f 9),(f 10),(f 11)] from B3)
   have p:=B0.lt;obtain ⟨p0,p1,p2,p3,p4,p5,p6,p7,p8,p9,z0,z1⟩:=B0.q12;have q:=B1.lt;obtain ⟨q0,q1,q2,q3,q4,q5,q6,q7,q8,q9,z2,z4⟩:=B1.q12;have r:=B3.lt;obtain ⟨r0,r1,r2,r3,r4,r5,r6,r7,r8,r9,h6,h7⟩:=B3.q12;have h8:=B3.free 0;have h9:=B3.free 1;have x1:=B3.free 2;have x2:=B3.free 3;have x3:=B3.free 4;have x4:=B3.free 5;have x6:=B3.free 6;have x7:=B3.free 7;have x8:=B3.free 8;have x9:=B3.free 9;have h4:=B3.free 10;have h5:=B3.free 11;have zs:=X0.size;have z3:=B3.lt;go_wp2_with fail;refine aA [([0,1,2,3,4,5,6,7,8,9,11],10),([12],13)] 99 (w.heap.size+3) (by kernel_rfl) (by kernel_rfl) ?_;refine st_ fun K hK=>?_;go_wp2_with fail;refine r_ (oY _ _ _ _ _ _ t HT _) fun w5 x5=>?_;have y5:Ext wr w5:=aQu (aRr (aQy _)) x5;go_wp2_with fail;refine hK _ _ (.inr (fun k _ hk=>y5.block (by first|omega|(simp;omega)))) ?_;clear hK K;clear r r0 r1 r2 r3 r4 r5 r6 r7 r8 r9 h6 h7 h8 h9 x1 x2 x3 x4 x6 x7 x8 x9 h4 h5;have C3:=B3.ext y5;have r:=C3.lt;obtain ⟨r0,r1,r2,r3,r4,r5,r6,r7,r8,r9,h6,h7⟩:=C3.q12;have h8:=C3.free 0;have h9:=C3.free 1;have x1:=C3.free 2;have x2:=C3.free 3;have x3:=C3.free 4;have x4:=C3.free 5;have x6:=C3.free 6;have x7:=C3.free 7;have x8:=C3.free 8;have x9:=C3.free 9;have h4:=C3.free 10;have h5:=C3.free 11;refine st_ fun K hK=>?_;go_wp2_with fail;have D:=hid (((C3.set 6 (.int .i64 (aY f g t 6))).set 7 (.int .i64 (aY f g t 7))).set 8 (.int .i64 (aY f g t 8)));have e0:=hid (((B0.ext y5).other (a:=⟨w.heap.size+3,6,none⟩) (by simp) (.int .i64 (aY f g t 6))).other (a:=⟨w.heap.size+3,7,none⟩) (by simp) (.int .i64 (aY f g t 7)) |>.other (a:=⟨w.heap.size+3,8,none⟩) (by simp) (.int .i64 (aY f g t 8)));have e1:=hid (((B1.ext y5).other (a:=⟨w.heap.size+3,6,none⟩) (by simp) (.int .i64 (aY f g t 6))).other (a:=⟨w.heap.size+3,7,none⟩) (by simp) (.int .i64 (aY f g t 7)) |>.other (a:=⟨w.heap.size+3,8,none⟩) (by simp) (.int .i64 (aY f g t 8)));have e2:=hid (((B2.ext y5).other (a:=⟨w.heap.size+3,6,none⟩) (by simp) (.int .i64 (aY f g t 6))).other (a:=⟨w.heap.size+3,7,none⟩) (by simp) (.int .i64 (aY f g t 7)) |>.other (a:=⟨w.heap.size+3,8,none⟩) (by simp) (.int .i64 (aY f g t 8)));have ex:=hid (aQ6 (aQ6 (aQ6 (X0.trans y5) (by simp) _) (by simp) _) (by simp) _:Ext w (((w5.setCell ⟨w.heap.size+3,6,none⟩ (aY f g t 6)).setCell ⟨w.heap.size+3,7,none⟩ (aY f g t 7)).setCell ⟨w.heap.size+3,8,none⟩ (aY f g t 8)))
   refine hK _ _ (.inr (fun k _ hk=>by
    rw [aQz _ _ _ _ (by simp only;omega),aQz _ _ _ _ (by simp only;omega),aQz _ _ _ _ (by simp only;omega)]
    exact y5.block (by omega))) ?_
   clear hK K;refine aC ?_;go_wp2;go_roundw
   case rel=>exact ⟨3,by omega,by go_num,ex.out,e0.out,e1.out,e2.out,D⟩
   case measure=>simp [intOf]
  ·replace B3:=hid (show Blk wr (w.heap.size+3) 125 [(aY f g t 0),(aY f g t 1),(aY f g t 2),(aY f g t 3),(aY f g t 4),(aY f g t 5),(aY f g t 6),(aY f g t 7),(aY f g t 8),(f 9),(f 10),(f 11)] from B3)
   have p:=B0.lt;obtain ⟨p0,p1,p2,p3,p4,p5,p6,p7,p8,p9,z0,z1⟩:=B0.q12;have q:=B1.lt;obtain ⟨q0,q1,q2,q3,q4,q5,q6,q7,q8,q9,z2,z4⟩:=B1.q12;have r:=B3.lt;obtain ⟨r0,r1,r2,r3,r4,r5,r6,r7,r8,r9,h6,h7⟩:=B3.q12;have h8:=B3.free 0;have h9:=B3.free 1;have x1:=B3.free 2;have x2:=B3.free 3;have x3:=B3.free 4;have x4:=B3.free 5;have x6:=B3.free 6;have x7:=B3.free 7;have x8:=B3.free 8;have x9:=B3.free 9;have h4:=B3.free 10;have h5:=B3.free 11;have zs:=X0.size;have z3:=B3.lt;go_wp2_with fail;refine aA [([0,1,2,3,4,5,6,7,8,9,11],10),([12],13)] 99 (w.heap.size+3) (by kernel_rfl) (by kernel_rfl) ?_;refine st_ fun K hK=>?_;go_wp2_with fail;refine r_ (oY _ _ _ _ _ _ t HT _) fun w5 x5=>?_;have y5:Ext wr w5:=aQu (aRr (aQy _)) x5;go_wp2_with fail;refine hK _ _ (.inr (fun k _ hk=>y5.block (by first|omega|(simp;omega)))) ?_;clear hK K;clear r r0 r1 r2 r3 r4 r5 r6 r7 r8 r9 h6 h7 h8 h9 x1 x2 x3 x4 x6 x7 x8 x9 h4 h5;have C3:=B3.ext y5;have r:=C3.lt;obtain ⟨r0,r1,r2,r3,r4,r5,r6,r7,r8,r9,h6,h7⟩:=C3.q12;have h8:=C3.free 0;have h9:=C3.free 1;have x1:=C3.free 2;have x2:=C3.free 3;have x3:=C3.free 4;have x4:=C3.free 5;have x6:=C3.free 6;have x7:=C3.free 7;have x8:=C3.free 8;have x9:=C3.free 9;have h4:=C3.free 10;have h5:=C3.free 11;refine st_ fun K hK=>?_;go_wp2_with fail;have D:=hid (((C3.set 9 (.int .i64 (aY f g t 9))).set 10 (.int .i64 (aY f g t 10))).set 11 (.int .i64 (aY f g t 11)));have e0:=hid (((B0.ext y5).other (a:=⟨w.heap.size+3,9,none⟩) (by simp) (.int .i64 (aY f g t 9))).other (a:=⟨w.heap.size+3,10,none⟩) (by simp) (.int .i64 (aY f g t 10)) |>.other (a:=⟨w.heap.size+3,11,none⟩) (by simp) (.int .i64 (aY f g t 11)));have e1:=hid (((B1.ext y5).other (a:=⟨w.heap.size+3,9,none⟩) (by simp) (.int .i64 (aY f g t 9))).other (a:=⟨w.heap.size+3,10,none⟩) (by simp) (.int .i64 (aY f g t 10)) |>.other (a:=⟨w.heap.size+3,11,none⟩) (by simp) (.int .i64 (aY f g t 11)));have e2:=hid (((B2.ext y5).other (a:=⟨w.heap.size+3,9,none⟩) (by simp) (.int .i64 (aY f g t 9))).other (a:=⟨w.heap.size+3,10,none⟩) (by simp) (.int .i64 (aY f g t 10)) |>.other (a:=⟨w.heap.size+3,11,none⟩) (by simp) (.int .i64 (aY f g t 11)));have ex:=hid (aQ6 (aQ6 (aQ6 (X0.trans y5) (by simp) _) (by simp) _) (by simp) _:Ext w (((w5.setCell ⟨w.heap.size+3,9,none⟩ (aY f g t 9)).setCell ⟨w.heap.size+3,10,none⟩ (aY f g t 10)).setCell ⟨w.heap.size+3,11,none⟩ (aY f g t 11)))
   refine hK _ _ (.inr (fun k _ hk=>by
    rw [aQz _ _ _ _ (by simp only;omega),aQz _ _ _ _ (by simp only;omega),aQz _ _ _ _ (by simp only;omega)]
    exact y5.block (by omega))) ?_
   clear hK K;refine aC ?_;go_wp2;go_roundw
   case rel=>exact ⟨4,by omega,by go_num,ex.out,e0.out,e1.out,e2.out,D⟩
   case measure=>simp [intOf]
  ·replace B3:=hid (show Blk wr (w.heap.size+3) 125 (aY f g t) from B3)
   have p:=B3.lt;obtain ⟨p0,p1,p2,p3,p4,p5,p6,p7,p8,p9,z0,z1⟩:=B3.q12;have r:=B2.lt;obtain ⟨r0,r1,r2,r3,r4,r5,r6,r7,r8,r9,h6,h7⟩:=B2.q12;have h8:=B2.free 0;have h9:=B2.free 1;have x1:=B2.free 2;have x2:=B2.free 3;have x3:=B2.free 4;have x4:=B2.free 5;have x6:=B2.free 6;have x7:=B2.free 7;have x8:=B2.free 8;have x9:=B2.free 9;have h4:=B2.free 10;have h5:=B2.free 11;have x0:=X0.out;go_wp2;exact bodyPost_ret (v:=.agg (aY f g t)) (by simp [results,results149,go_sem, *]) rfl ⟨rfl,S_⟩
theorem xZ (f g:Nat->Int) (sh rt t:Int) (ht:0<=t/\t<=16) (w:World) :
  R_ 99 #[.agg #[(f 0),(f 1),(f 2),(f 3),(f 4),(f 5),(f 6),(f 7),(f 8),(f 9),(f 10),(f 11),(g 0),(g 1),(g 2),(g 3),(g 4),(g 5),(g 6),(g 7),(g 8),(g 9),(g 10),(g 11),sh,rt],t] w (.agg (aY f g t)):=by
 have HT:=hid ht;clear ht;have B0:=hid ((aQx w 127 [(f 0),(f 1),(f 2),(f 3),(f 4),(f 5),(f 6),(f 7),(f 8),(f 9),(f 10),(f 11),(g 0),(g 1),(g 2),(g 3),(g 4),(g 5),(g 6),(g 7),(g 8),(g 9),(g 10),(g 11),sh,rt]).ext (show Ext (w.alloc (.cells #[(f 0),(f 1),(f 2),(f 3),(f 4),(f 5),(f 6),(f 7),(f 8),(f 9),(f 10),(f 11),(g 0),(g 1),(g 2),(g 3),(g 4),(g 5),(g 6),(g 7),(g 8),(g 9),(g 10),(g 11),sh,rt] 127)) ((w.alloc (.cells #[(f 0),(f 1),(f 2),(f 3),(f 4),(f 5),(f 6),(f 7),(f 8),(f 9),(f 10),(f 11),(g 0),(g 1),(g 2),(g 3),(g 4),(g 5),(g 6),(g 7),(g 8),(g 9),(g 10),(g 11),sh,rt] 127)).alloc (.cells #[(),(),(),(),(),(),(),(),(),(),(),()] 125)) from X_));have B1:=hid (show Blk ((w.alloc (.cells #[(f 0),(f 1),(f 2),(f 3),(f 4),(f 5),(f 6),(f 7),(f 8),(f 9),(f 10),(f 11),(g 0),(g 1),(g 2),(g 3),(g 4),(g 5),(g 6),(g 7),(g 8),(g 9),(g 10),(g 11),sh,rt] 127)).alloc (.cells #[(),(),(),(),(),(),(),(),(),(),(),()] 125)) (w.heap.size+1) 125 [(),(),(),(),(),(),(),(),(),(),(),()] from by have q:=(aQx (w.alloc (.cells #[(f 0),(f 1),(f 2),(f 3),(f 4),(f 5),(f 6),(f 7),(f 8),(f 9),(f 10),(f 11),(g 0),(g 1),(g 2),(g 3),(g 4),(g 5),(g 6),(g 7),(g 8),(g 9),(g 10),(g 11),sh,rt] 127)) 125 [(),(),(),(),(),(),(),(),(),(),(),()]).ext (show Ext ((w.alloc (.cells #[(f 0),(f 1),(f 2),(f 3),(f 4),(f 5),(f 6),(f 7),(f 8),(f 9),(f 10),(f 11),(g 0),(g 1),(g 2),(g 3),(g 4),(g 5),(g 6),(g 7),(g 8),(g 9),(g 10),(g 11),sh,rt] 127)).alloc (.cells #[(),(),(),(),(),(),(),(),(),(),(),()] 125)) ((w.alloc (.cells #[(f 0),(f 1),(f 2),(f 3),(f 4),(f 5),(f 6),(f 7),(f 8),(f 9),(f 10),(f 11),(g 0),(g 1),(g 2),(g 3),(g 4),(g 5),(g 6),(g 7),(g 8),(g 9),(g 10),(g 11),sh,rt] 127)).alloc (.cells #[(),(),(),(),(),(),(),(),(),(),(),()] 125)) from X_);simp only [aQp] at q;exact q);have X0:=hid (show Ext w ((w.alloc (.cells #[(f 0),(f 1),(f 2),(f 3),(f 4),(f 5),(f 6),(f 7),(f 8),(f 9),(f 10),(f 11),(g 0),(g 1),(g 2),(g 3),(g 4),(g 5),(g 6),(g 7),(g 8),(g 9),(g 10),(g 11),sh,rt] 127)).alloc (.cells #[(),(),(),(),(),(),(),(),(),(),(),()] 125)) from X_);go_enter func99,ntmps99;go_wp2_with fail;refine r_ (aLe f g t HT _) fun w1 x1=>?_;replace B1:=hid (B1.ext x1);replace X0:=hid (X0.trans x1);have r:=B1.lt;obtain ⟨r0,r1,r2,r3,r4,r5,r6,r7,r8,r9,h2,h3⟩:=B1.q12;have h4:=B1.free 0;have h5:=B1.free 1;have h6:=B1.free 2;have h7:=B1.free 3;have h8:=B1.free 4;have h9:=B1.free 5;have q0:=B1.free 6;have q1:=B1.free 7;have q2:=B1.free 8;have q3:=B1.free 9;have h0:=B1.free 10;have h1:=B1.free 11;have x0:=X0.out;go_wp2;exact bodyPost_ret (v:=.agg (aY f g t)) (by simp [results,results99,go_sem, *]) rfl ⟨rfl,S_⟩
theorem mR {c:Cam} {a b d:Int} (h:c.prB ⟨x,y,z⟩ lx ly=true) (hp:c.pr ⟨x,y,z⟩ lx ly=⟨a,b,d⟩) (w:World) :
  R_ 203 #[.agg c,.agg #[x,y,z],lx,ly] w (.tuple #[.agg #[a,b,d],.bool true]):=by
 have:=aCn c x y z lx ly h w;rw [hp] at this;exact this
theorem mS {c:Cam} (h:c.prB ⟨x,y,z⟩ lx ly=false) (w:World) :
  R_ 203 #[.agg c,.agg #[x,y,z],lx,ly] w (.tuple #[.agg #[(),(),()],.bool false]):=aEp c x y z lx ly h w
theorem oZ {i j i' j' n X Y Z:Int} (e1:i'=i) (e2:j'=j) (h:evP f i j n=⟨X,Y,Z⟩) (hn:1<=n/\n<=64) (hi:0<=i/\i<=n) (hj:0<=j/\j<=n) (w:World) :
  R_ 192 #[.agg f,i',j',n] w (.agg #[X,Y,Z]):=by
 subst e1 e2;exact xM h hn hi hj w
def crn (c:Cam) (f:Nat->Int) (n:Nat) (s:Smp) (u v q:Nat):V3:=cW c f n s (u+q % 2) (v+q / 2)
def aGu (c:Cam) (f:Nat->Int) (n:Nat) (s:Smp) (u v q:Nat):Bool:=lE c f n s (u+q % 2) (v+q / 2)
theorem aM6 {c:Cam} {s:Smp} {u v:Nat} (h:∀q,q<4->aGu c f n s u v q=true):lF c f n s u v=true:=by
 have h0:=h 0 (by decide);have h1:=h 1 (by decide);have h2:=h 2 (by decide);have h3:=h 3 (by decide);unfold lF;simp only [aQ4];exact ⟨⟨⟨h0,h1⟩,h2⟩,h3⟩
theorem aLf {c:Cam} {s:Smp} {u v q:Nat} (hq:q<4) (h:aGu c f n s u v q=false):lF c f n s u v=false:=
 aHd (i:=q % 2) (j:=q / 2) (by omega) (by omega) h
theorem aHc.rd {c:Cam} {s:Smp} {u v:Nat} {r:Value} (h:aHc c f n s u v lo w r):Rd Mc.cs lo w.heap.size w r (fX c f n s u v):=by
 rcases h with ⟨hd,rfl⟩|⟨hd,g,hl,rfl,hb⟩
 ·unfold fX
  rw [if_neg (by rw [hd];exact Bool.false_ne_true)];exact Rd.nil _ _ _ _
 ·unfold fX
  rw [if_pos hd];refine ⟨some ⟨g,0,none⟩,2,rfl,aQo _,by omega,(fun e=>nomatch e),.inr ⟨g,0,rfl,hl,hb.lt,fun j u hj=>?_⟩⟩;rw [aRl];exact hb.cell j hj
theorem zM (c:Cam) (f:Nat->Int) (n:Nat) (s:Smp) (u v:Nat) (hn:1<=n/\n<=64) (hu:u<n) (hv:v<n) (w:World) :
  Calls aQt 148 #[.agg c,.agg f,(u:Nat),(v:Nat),(n:Nat),s.lx,s.ly] w fun e w'=>∃r,e = .returned r/\aHc c f n s u v w.heap.size w' r/\Ext w w':=by
 have J1:=hid (aG.2 (show (1:Int)<=(n:Int)/\(n:Int)<=64 by omega));have J2:=hid (aG.2 (show (0:Int)<=(u:Int)/\(u:Int)<=(n:Int) - 1 by omega));have J3:=hid (aG.2 (show (0:Int)<=(v:Int)/\(v:Int)<=(n:Int) - 1 by omega));have N0:=hid (show wrap64 ((n:Int) - 1)=(n:Int) - 1 from aD (by omega) (by omega));have HN:=hid hn;have HU:=hid hu;have HV:=hid hv;clear hn hu hv;have B0:=hid ((aQx w 35 c).ext (show Ext (w.alloc (.cells c 35)) ((w.alloc (.cells c 35)).alloc (.cells f 125)) from X_));have B1:=hid (show Blk ((w.alloc (.cells c 35)).alloc (.cells f 125)) (w.heap.size+1) 125 f from by have q:=(aQx (w.alloc (.cells c 35)) 125 f).ext (show Ext ((w.alloc (.cells c 35)).alloc (.cells f 125)) ((w.alloc (.cells c 35)).alloc (.cells f 125)) from X_);simp only [aQp] at q;exact q);have X0:=hid (show Ext w ((w.alloc (.cells c 35)).alloc (.cells f 125)) from X_);have n0:=N0.out;go_enter func148,ntmps148;go_wp2_with fail;refine z_ (aE J1 _) ?_;go_wp2_with fail;refine z_ (aE J2 _) ?_;go_wp2_with fail;refine z_ (aE J3 _) ?_;clear n0;go_upto_region 4 with fail
 obtain ⟨W,hW⟩:∃W,(((w.alloc (.cells c 35)).alloc (.cells f 125)).alloc (.cells #[] 122))=W:=⟨_,rfl⟩
 have OW:aF uN (w.heap.size+2) 122 3 (((w.alloc (.cells c 35)).alloc (.cells f 125)).alloc (.cells #[] 122)) (.slice (some ⟨w.heap.size+2,0,none⟩) 0 0) []:=aF.fresh0 (aQo _) (by have q:=aQx ((w.alloc (.cells c 35)).alloc (.cells f 125)) 122 [];simp only [aQp] at q;exact q);have YW:Ext ((w.alloc (.cells c 35)).alloc (.cells f 125)) (((w.alloc (.cells c 35)).alloc (.cells f 125)).alloc (.cells #[] 122)):=X_;replace B0:=hid (B0.ext YW);replace B1:=hid (B1.ext YW);replace X0:=hid (X0.trans YW);clear YW
 try simp only [aQp]
 rw [hW];rw [hW] at B0 B1 X0 OW;have OO:=hid OW;clear hW OW;go_wp2_with fail
 go_loopw [15,16] (fun l i wr=>∃j:Nat,j<=4/\i = .int .i64 (j:Nat)/\(∀q,q<j->aGu c f n s u v q=true)/\Ext w wr/\Blk wr w.heap.size 35 c/\Blk wr (w.heap.size+1) 125 f/\aF uN (w.heap.size+2) 122 3 wr l ((aRc j).map (crn c f n s u v))) (fun _ i _=>4 - (intOf i).toNat)
 case atStart=>exact ⟨0,by omega,rfl,(fun q h=>absurd h (by omega)),X0,B0,B1,OO⟩
 case round=>
  obtain ⟨j,hj,rfl,y8,hx,h0,h1,ho⟩:=hrel;clear B0 B1 X0 OO;have X0:=hid hx;have B0:=hid h0;have B1:=hid h1;have OO:=hid ho;have HA:=hid y8;clear hx h0 h1 ho y8
  rcases aRy j 4 with hlt|hge
  ·obtain ⟨a,ha⟩:∃a:Nat,j % 2=a:=⟨_,rfl⟩
   obtain ⟨b,hb⟩:∃b:Nat,j / 2=b:=⟨_,rfl⟩
   have b8:a<2:=by omega
   have b9:b<2:=by omega
   have c6:=HU.out;have c7:=HV.out;have c5:=HN.out;have N2:=hid (show (0:Int)<=(u:Int)+(a:Int)/\(u:Int)+(a:Int)<=(n:Int) by omega);have N3:=hid (show (0:Int)<=(v:Int)+(b:Int)/\(v:Int)+(b:Int)<=(n:Int) by omega);have T1:=hid (show Int.tmod (j:Int) 2=(a:Int) by rw [Int.tmod_eq_emod_of_nonneg (by omega)];omega);have T2:=hid (show Int.tdiv (j:Int) 2=(b:Int) by rw [aS7 (by omega)];omega);have R1:=hid (show wrap64 ((u:Int)+(a:Int))=(u:Int)+(a:Int) from aD (by omega) (by omega));have R2:=hid (show wrap64 ((v:Int)+wrap64 (b:Int))=(v:Int)+(b:Int) by rw [aD (n:=(b:Int)) (by omega) (by omega)];exact aD (by omega) (by omega));have y5:=hid (And.intro ha hb);have a6:decide ((j:Int)<4)=true:=decide_eq_true (by omega);clear ha hb c6 c7 c5 b8 b9
   obtain ⟨X,Y,Z,hE⟩:∃X Y Z,evP f ((u:Int)+(a:Int)) ((v:Int)+(b:Int)) (n:Int)=⟨X,Y,Z⟩:=⟨_,_,_,rfl⟩
   have y4:=hid hE;have N1:=hid (aN5 HN);have ZW:=X0.size;have a9:=hid hlt;clear hE;have t1:=T1.out;have t2:=T2.out;have p:=B0.lt;obtain ⟨p0,p1,p2,p3,p4,p5,p6⟩:=B0.q7;have q:=B1.lt;obtain ⟨q0,q1,q2,q3,q4,q5,q6,q7,q8,q9,e6,e7⟩:=B1.q12;go_upto_region 7 with fail;clear a6
   cases hb:c.prB ⟨X,Y,Z⟩ s.lx s.ly
   ·have HB:=hid hb
    clear hb;refine cZ 20 wr.heap.size (by kernel_rfl) ?_;refine z2_ (fuel:=7) [0,1,2,3,4,5,6,7,8,9,10,12,13] 11 18 (fun b _ hb=>rfl) (fun K hK=>?n2) fun K hK=>?n3
    case' n2=>
     clear t1 t2;go_wp2_with fail;refine r_ (oZ R1 R2 y4 N1 N2 N3 _) fun a0 y0=>?_;have u0:Ext wr a0:=aQu X_ y0;go_wp2_with fail;refine k_ hK ?_;clear hK K;refine z2_ (fuel:=6) [] 14 18 (fun b _ hb=>aQ1 u0 (by omega)) (fun K hK=>?n4) fun K hK=>?n5
     case' n4=>
      go_wp2_with fail;refine r_ (mS HB _) fun a01 y01=>?_;have a1:Ext wr a01:=aQu X_ y01;go_wp2_with fail;refine k_ hK ?_;clear hK K;refine z1_ (fuel:=2) [15,16,17] 18 (fun b _ hb=>aQ1 a1 (by omega)) fun K hK=>?_;go_wp2;have h7:wr.heap.size<=a01.heap.size:=a1.size;refine k_ hK ?_;clear hK K
      obtain ⟨h4,h3⟩:∃d,d=a01.alloc (.cells #[(),(),()] 122):=⟨_,rfl⟩
      rw [<-h3]
      have x8:Ext wr h4:=by rw [h3];exact X_
      have h9:Blk h4 a01.heap.size 122 [(),(),()]:=h3▸aQx _ _ _;clear h3;refine z1_ (fuel:=1) [] 19 (fun b _ hb=>aQ1 x8 (by omega)) fun K hK=>?_;obtain ⟨z0,z1,z2,z3,z4,z5,z6⟩:=mX h9;go_wp2;have x7:=h7;refine hK _ _ (.inr (fun b _ hb=>aQ1 (w:=wr) S_ (by omega))) ?_;clear hK K;refine z1_ (fuel:=0) [] 20 (fun b _ hb=>aQ1 (w:=wr) S_ (by omega)) fun K hK=>?_;go_wp2;refine l_ hK ?_;clear hK K;refine bX (by kernel_rfl) ?_;have h2:=h7;have hE:Ext wr (((h4.setCell ⟨a01.heap.size,0,none⟩ ()).setCell ⟨a01.heap.size,1,none⟩ ()).setCell ⟨a01.heap.size,2,none⟩ ()):=aQ6 (aQ6 (aQ6 x8 h2 _) h2 _) h2 _
      have h5:Blk (((h4.setCell ⟨a01.heap.size,0,none⟩ ()).setCell ⟨a01.heap.size,1,none⟩ ()).setCell ⟨a01.heap.size,2,none⟩ ()) (a01.heap.size) 122 [(),(),()]:=(((h9.set 0 (.int .i64 0)).set 1 (.int .i64 0)).set 2 (.int .i64 0))
      clear z0 z1 z2 z3 z4 z5 z6
      obtain ⟨A,hA⟩:∃A,a01.heap.size=A:=⟨_,rfl⟩
      rw [hA] at hE h5 h2 ⊢
      obtain ⟨wx,h8⟩:∃wx,((h4.setCell ⟨A,0,none⟩ ()).setCell ⟨A,1,none⟩ ()).setCell ⟨A,2,none⟩ ()=wx:=⟨_,rfl⟩
      rw [h8] at hE h5 ⊢;clear h8 hA
     case' n5=>
      go_wp2;have x6:wr.heap.size<=a0.heap.size:=u0.size;refine k_ hK ?_;clear hK K
      obtain ⟨y6,h6⟩:∃d,d=a0.alloc (.cells #[(),(),()] 122):=⟨_,rfl⟩
      rw [<-h6]
      have a7:Ext wr y6:=by rw [h6];exact X_
      have a3:Blk y6 a0.heap.size 122 [(),(),()]:=h6▸aQx _ _ _;clear h6;refine z1_ (fuel:=5) [] 14 (fun b _ hb=>aQ1 a7 (by omega)) fun K hK=>?_;go_wp2_with fail;refine r_ (mS HB _) fun a0A1 y0A1=>?_;have x9:Ext wr a0A1:=aQu X_ y0A1;have x4:=a3.ext y0A1;go_wp2_with fail;refine k_ hK ?_;clear hK K;refine z1_ (fuel:=1) [15,16,17] 19 (fun b _ hb=>aQ1 x9 (by omega)) fun K hK=>?_;obtain ⟨z0,z1,z2,z3,z4,z5,z6⟩:=mX x4;go_wp2;have x7:=x6;refine hK _ _ (.inr (fun b _ hb=>aQ1 (w:=wr) S_ (by omega))) ?_;clear hK K;refine z1_ (fuel:=0) [] 20 (fun b _ hb=>aQ1 (w:=wr) S_ (by omega)) fun K hK=>?_;go_wp2;refine l_ hK ?_;clear hK K;refine bX (by kernel_rfl) ?_;have h2:=x6;have hE:Ext wr (((a0A1.setCell ⟨a0.heap.size,0,none⟩ ()).setCell ⟨a0.heap.size,1,none⟩ ()).setCell ⟨a0.heap.size,2,none⟩ ()):=aQ6 (aQ6 (aQ6 x9 h2 _) h2 _) h2 _
      have h5:Blk (((a0A1.setCell ⟨a0.heap.size,0,none⟩ ()).setCell ⟨a0.heap.size,1,none⟩ ()).setCell ⟨a0.heap.size,2,none⟩ ()) (a0.heap.size) 122 [(),(),()]:=(((x4.set 0 (.int .i64 0)).set 1 (.int .i64 0)).set 2 (.int .i64 0))
      clear z0 z1 z2 z3 z4 z5 z6
      obtain ⟨A,hA⟩:∃A,a0.heap.size=A:=⟨_,rfl⟩
      rw [hA] at hE h5 h2 ⊢
      obtain ⟨wx,h8⟩:∃wx,((a0A1.setCell ⟨A,0,none⟩ ()).setCell ⟨A,1,none⟩ ()).setCell ⟨A,2,none⟩ ()=wx:=⟨_,rfl⟩
      rw [h8] at hE h5 ⊢;clear h8 hA
    case' n3=>
     clear t1 t2;go_wp2;have y7:wr.heap.size<=wr.heap.size:=aQo _;refine k_ hK ?_;clear hK K
     obtain ⟨dA,z8⟩:∃d,d=(wr.alloc (.cells #[(),(),()] 122)).drew:=⟨_,rfl⟩
     rw [<-z8]
     have uA:Ext wr dA:=by rw [z8];exact X_
     have bA:Blk dA wr.heap.size 122 [(),(),()]:=z8▸(aQx _ _ _).ext (aRr (aQy _));clear z8;refine z1_ (fuel:=6) [] 11 (fun b _ hb=>aQ1 uA (by omega)) fun K hK=>?_;go_wp2_with fail;refine r_ (oZ R1 R2 y4 N1 N2 N3 _) fun aA0 yA0=>?_;have a8:Ext wr aA0:=aQu X_ yA0;have a4:=bA.ext yA0;go_wp2_with fail;refine k_ hK ?_;clear hK K;refine z1_ (fuel:=5) [] 14 (fun b _ hb=>aQ1 a8 (by omega)) fun K hK=>?_;go_wp2_with fail;refine r_ (mS HB _) fun aA01 yA01=>?_;have z7:Ext wr aA01:=aQu X_ yA01;have x5:=a4.ext yA01;go_wp2_with fail;refine k_ hK ?_;clear hK K;refine z1_ (fuel:=1) [15,16,17] 19 (fun b _ hb=>aQ1 z7 (by omega)) fun K hK=>?_;obtain ⟨z0,z1,z2,z3,z4,z5,z6⟩:=mX x5;go_wp2;have x7:=y7;refine hK _ _ (.inr (fun b _ hb=>aQ1 (w:=wr) S_ (by omega))) ?_;clear hK K;refine z1_ (fuel:=0) [] 20 (fun b _ hb=>aQ1 (w:=wr) S_ (by omega)) fun K hK=>?_;go_wp2;refine l_ hK ?_;clear hK K;refine bX (by kernel_rfl) ?_;have h2:=y7;have hE:Ext wr (((aA01.setCell ⟨wr.heap.size,0,none⟩ ()).setCell ⟨wr.heap.size,1,none⟩ ()).setCell ⟨wr.heap.size,2,none⟩ ()):=aQ6 (aQ6 (aQ6 z7 h2 _) h2 _) h2 _
     have h5:Blk (((aA01.setCell ⟨wr.heap.size,0,none⟩ ()).setCell ⟨wr.heap.size,1,none⟩ ()).setCell ⟨wr.heap.size,2,none⟩ ()) (wr.heap.size) 122 [(),(),()]:=(((x5.set 0 (.int .i64 0)).set 1 (.int .i64 0)).set 2 (.int .i64 0))
     clear z0 z1 z2 z3 z4 z5 z6
     obtain ⟨A,hA⟩:∃A,wr.heap.size=A:=⟨_,rfl⟩
     rw [hA] at hE h5 h2 ⊢
     obtain ⟨wx,h8⟩:∃wx,((aA01.setCell ⟨A,0,none⟩ ()).setCell ⟨A,1,none⟩ ()).setCell ⟨A,2,none⟩ ()=wx:=⟨_,rfl⟩
     rw [h8] at hE h5 ⊢;clear h8 hA
    all_goals
     have y9:aGu c f n s u v j=false:=by unfold aGu lE;rw [y5.1,y5.2,aSw,aSw,y4];exact HB
     have a5:=hid (X0.trans hE);have a2:=hid y9;clear hE y9;go_wp2;go_ret;exact ⟨_,rfl,.inl ⟨aLf a9 a2,rfl⟩,a5.out⟩
   ·have HB:=hid hb
    obtain ⟨x1,x2,x3,hP⟩:∃a b d,c.pr ⟨X,Y,Z⟩ s.lx s.ly=⟨a,b,d⟩:=⟨_,_,_,rfl⟩
    have HP:=hid hP;clear hb hP;refine cZ 20 wr.heap.size (by kernel_rfl) ?_;refine z2_ (fuel:=7) [0,1,2,3,4,5,6,7,8,9,10,12,13] 11 18 (fun b _ hb=>rfl) (fun K hK=>?p2) fun K hK=>?p3
    case' p2=>
     clear t1 t2;go_wp2_with fail;refine r_ (oZ R1 R2 y4 N1 N2 N3 _) fun a0 y0=>?_;have u0:Ext wr a0:=aQu X_ y0;go_wp2_with fail;refine k_ hK ?_;clear hK K;refine z2_ (fuel:=6) [] 14 18 (fun b _ hb=>aQ1 u0 (by omega)) (fun K hK=>?p4) fun K hK=>?p5
     case' p4=>
      go_wp2_with fail;refine r_ (mR HB HP _) fun a01 y01=>?_;have a1:Ext wr a01:=aQu X_ y01;go_wp2_with fail;refine k_ hK ?_;clear hK K;refine z1_ (fuel:=2) [15,16,17] 18 (fun b _ hb=>aQ1 a1 (by omega)) fun K hK=>?_;go_wp2;have h7:wr.heap.size<=a01.heap.size:=a1.size;refine k_ hK ?_;clear hK K
      obtain ⟨h4,h3⟩:∃d,d=a01.alloc (.cells #[(),(),()] 122):=⟨_,rfl⟩
      rw [<-h3]
      have x8:Ext wr h4:=by rw [h3];exact X_
      have h9:Blk h4 a01.heap.size 122 [(),(),()]:=h3▸aQx _ _ _;clear h3;refine z1_ (fuel:=1) [] 19 (fun b _ hb=>aQ1 x8 (by omega)) fun K hK=>?_;obtain ⟨z0,z1,z2,z3,z4,z5,z6⟩:=mX h9;go_wp2;have x7:=h7;refine hK _ _ (.inr (fun b _ hb=>aQ1 (w:=wr) S_ (by omega))) ?_;clear hK K;refine z1_ (fuel:=0) [] 20 (fun b _ hb=>aQ1 (w:=wr) S_ (by omega)) fun K hK=>?_;go_wp2;refine l_ hK ?_;clear hK K;refine bX (by kernel_rfl) ?_;have h2:=h7;have hE:Ext wr (((h4.setCell ⟨a01.heap.size,0,none⟩ x1).setCell ⟨a01.heap.size,1,none⟩ x2).setCell ⟨a01.heap.size,2,none⟩ x3):=aQ6 (aQ6 (aQ6 x8 h2 _) h2 _) h2 _
      have h5:Blk (((h4.setCell ⟨a01.heap.size,0,none⟩ x1).setCell ⟨a01.heap.size,1,none⟩ x2).setCell ⟨a01.heap.size,2,none⟩ x3) (a01.heap.size) 122 [x1,x2,x3]:=(((h9.set 0 (.int .i64 x1)).set 1 (.int .i64 x2)).set 2 (.int .i64 x3))
      clear z0 z1 z2 z3 z4 z5 z6
      obtain ⟨A,hA⟩:∃A,a01.heap.size=A:=⟨_,rfl⟩
      rw [hA] at hE h5 h2 ⊢
      obtain ⟨wx,h8⟩:∃wx,((h4.setCell ⟨A,0,none⟩ x1).setCell ⟨A,1,none⟩ x2).setCell ⟨A,2,none⟩ x3=wx:=⟨_,rfl⟩
      rw [h8] at hE h5 ⊢;clear h8 hA
     case' p5=>
      go_wp2;have x6:wr.heap.size<=a0.heap.size:=u0.size;refine k_ hK ?_;clear hK K
      obtain ⟨y6,h6⟩:∃d,d=a0.alloc (.cells #[(),(),()] 122):=⟨_,rfl⟩
      rw [<-h6]
      have a7:Ext wr y6:=by rw [h6];exact X_
      have a3:Blk y6 a0.heap.size 122 [(),(),()]:=h6▸aQx _ _ _;clear h6;refine z1_ (fuel:=5) [] 14 (fun b _ hb=>aQ1 a7 (by omega)) fun K hK=>?_;go_wp2_with fail;refine r_ (mR HB HP _) fun a0A1 y0A1=>?_;have x9:Ext wr a0A1:=aQu X_ y0A1;have x4:=a3.ext y0A1;go_wp2_with fail;refine k_ hK ?_;clear hK K;refine z1_ (fuel:=1) [15,16,17] 19 (fun b _ hb=>aQ1 x9 (by omega)) fun K hK=>?_;obtain ⟨z0,z1,z2,z3,z4,z5,z6⟩:=mX x4;go_wp2;have x7:=x6;refine hK _ _ (.inr (fun b _ hb=>aQ1 (w:=wr) S_ (by omega))) ?_;clear hK K;refine z1_ (fuel:=0) [] 20 (fun b _ hb=>aQ1 (w:=wr) S_ (by omega)) fun K hK=>?_;go_wp2;refine l_ hK ?_;clear hK K;refine bX (by kernel_rfl) ?_;have h2:=x6;have hE:Ext wr (((a0A1.setCell ⟨a0.heap.size,0,none⟩ x1).setCell ⟨a0.heap.size,1,none⟩ x2).setCell ⟨a0.heap.size,2,none⟩ x3):=aQ6 (aQ6 (aQ6 x9 h2 _) h2 _) h2 _
      have h5:Blk (((a0A1.setCell ⟨a0.heap.size,0,none⟩ x1).setCell ⟨a0.heap.size,1,none⟩ x2).setCell ⟨a0.heap.size,2,none⟩ x3) (a0.heap.size) 122 [x1,x2,x3]:=(((x4.set 0 (.int .i64 x1)).set 1 (.int .i64 x2)).set 2 (.int .i64 x3))
      clear z0 z1 z2 z3 z4 z5 z6
      obtain ⟨A,hA⟩:∃A,a0.heap.size=A:=⟨_,rfl⟩
      rw [hA] at hE h5 h2 ⊢
      obtain ⟨wx,h8⟩:∃wx,((a0A1.setCell ⟨A,0,none⟩ x1).setCell ⟨A,1,none⟩ x2).setCell ⟨A,2,none⟩ x3=wx:=⟨_,rfl⟩
      rw [h8] at hE h5 ⊢;clear h8 hA
    case' p3=>
     clear t1 t2;go_wp2;have y7:wr.heap.size<=wr.heap.size:=aQo _;refine k_ hK ?_;clear hK K
     obtain ⟨dA,z8⟩:∃d,d=(wr.alloc (.cells #[(),(),()] 122)).drew:=⟨_,rfl⟩
     rw [<-z8]
     have uA:Ext wr dA:=by rw [z8];exact X_
     have bA:Blk dA wr.heap.size 122 [(),(),()]:=z8▸(aQx _ _ _).ext (aRr (aQy _));clear z8;refine z1_ (fuel:=6) [] 11 (fun b _ hb=>aQ1 uA (by omega)) fun K hK=>?_;go_wp2_with fail;refine r_ (oZ R1 R2 y4 N1 N2 N3 _) fun aA0 yA0=>?_;have a8:Ext wr aA0:=aQu X_ yA0;have a4:=bA.ext yA0;go_wp2_with fail;refine k_ hK ?_;clear hK K;refine z1_ (fuel:=5) [] 14 (fun b _ hb=>aQ1 a8 (by omega)) fun K hK=>?_;go_wp2_with fail;refine r_ (mR HB HP _) fun aA01 yA01=>?_;have z7:Ext wr aA01:=aQu X_ yA01;have x5:=a4.ext yA01;go_wp2_with fail;refine k_ hK ?_;clear hK K;refine z1_ (fuel:=1) [15,16,17] 19 (fun b _ hb=>aQ1 z7 (by omega)) fun K hK=>?_;obtain ⟨z0,z1,z2,z3,z4,z5,z6⟩:=mX x5;go_wp2;have x7:=y7;refine hK _ _ (.inr (fun b _ hb=>aQ1 (w:=wr) S_ (by omega))) ?_;clear hK K;refine z1_ (fuel:=0) [] 20 (fun b _ hb=>aQ1 (w:=wr) S_ (by omega)) fun K hK=>?_;go_wp2;refine l_ hK ?_;clear hK K;refine bX (by kernel_rfl) ?_;have h2:=y7;have hE:Ext wr (((aA01.setCell ⟨wr.heap.size,0,none⟩ x1).setCell ⟨wr.heap.size,1,none⟩ x2).setCell ⟨wr.heap.size,2,none⟩ x3):=aQ6 (aQ6 (aQ6 z7 h2 _) h2 _) h2 _
     have h5:Blk (((aA01.setCell ⟨wr.heap.size,0,none⟩ x1).setCell ⟨wr.heap.size,1,none⟩ x2).setCell ⟨wr.heap.size,2,none⟩ x3) (wr.heap.size) 122 [x1,x2,x3]:=(((x5.set 0 (.int .i64 x1)).set 1 (.int .i64 x2)).set 2 (.int .i64 x3))
     clear z0 z1 z2 z3 z4 z5 z6
     obtain ⟨A,hA⟩:∃A,wr.heap.size=A:=⟨_,rfl⟩
     rw [hA] at hE h5 h2 ⊢
     obtain ⟨wx,h8⟩:∃wx,((aA01.setCell ⟨A,0,none⟩ x1).setCell ⟨A,1,none⟩ x2).setCell ⟨A,2,none⟩ x3=wx:=⟨_,rfl⟩
     rw [h8] at hE h5 ⊢;clear h8 hA
    all_goals
     have b1:crn c f n s u v j=⟨x1,x2,x3⟩:=by unfold crn cW;rw [y5.1,y5.2,aSw,aSw,y4];exact HP
     have y9:aGu c f n s u v j=true:=by unfold aGu lE;rw [y5.1,y5.2,aSw,aSw,y4];exact HB
     have b2:=hid b1;have a2:=hid y9;have a5:=hid (X0.trans hE);have C0:=hid (B0.ext hE);have C1:=hid (B1.ext hE);have O2:=hid (OO.ext hE);have zx:=hE.size;clear hE b1 y9;have y:=h5.lt;obtain ⟨y0,y1,y2⟩:=h5.q3;have c8:=hid h5;have LL:=hid (show ((aRc j).map (crn c f n s u v)).length<1000000 by have:=a9.out;simp;omega);clear h5;go_wp2_with (at_builtin;refine lN _ rfl _ _ rfl (w.heap.size+2) _ _ rfl (aF.ext O2 X_) ⟨x1,x2,x3⟩ wx.heap.size rfl (aHb wx x1 x2 x3) LL (by simp;omega) ?_;intro v8 w8 hown hg);have xe:Ext wx (wx.alloc (.cells #[x1,x2,x3] 122)):=X_;have z9:=aF.rowE (aF.ext O2 xe);have R0:=hid ((C0.ext xe).grown hg (fun e=>by have h1:=(z9 _ e.symm).1;omega));have R1:=hid ((C1.ext xe).grown hg (fun e=>by have h1:=(z9 _ e.symm).1;omega));have RX:=hid (aRz (a5.out.trans xe) hg (fun k e=>by have h1:=(z9 k e).1;omega));have RO:=hid hown;clear hown hg z9 xe;go_wp2;go_roundw
     case rel=>
      refine ⟨j+1,by omega,by go_num,?_,RX,R0,R1,?_⟩
      ·intro q hq
       rcases aRy q j with h|h
       ·exact HA q h
       ·obtain rfl:q=j:=by omega
        exact a2
      ·rw [aS3,List.map_append,List.map_singleton,b2]
       exact RO
     case measure=>simp [intOf];omega
  ·obtain rfl:j=4:=by omega
   have c4:=hid (aM6 (fun q hq=>HA q hq));have hI:=OO.out;rw [show (aRc 4).map (crn c f n s u v)=[crn c f n s u v 0,crn c f n s u v 1,crn c f n s u v 2,crn c f n s u v 3] from rfl] at hI
   obtain ⟨⟨x0,y0,s0⟩,e0⟩:∃p,crn c f n s u v 0=p:=⟨_,rfl⟩
   rw [e0] at hI;have b3:=hid e0
   obtain ⟨⟨x1,y1,s1⟩,e1⟩:∃p,crn c f n s u v 1=p:=⟨_,rfl⟩
   rw [e1] at hI;have b4:=hid e1
   obtain ⟨⟨x2,y2,s2⟩,e2⟩:∃p,crn c f n s u v 2=p:=⟨_,rfl⟩
   rw [e2] at hI;have b5:=hid e2
   obtain ⟨⟨x3,y3,s3⟩,e3⟩:∃p,crn c f n s u v 3=p:=⟨_,rfl⟩
   rw [e3] at hI;have b6:=hid e3;obtain ⟨g,tc,rfl,gl,gw,b0,c9,-,c0⟩:=aF.at hI (fun _=>rfl) (i:=0) rfl;obtain ⟨g1,e8,he,-,-,-,-,-,c1⟩:=aF.at hI (fun _=>rfl) (i:=1) rfl;simp only [aRi,aQr,Addr.mk.injEq,and_true,true_and] at he;obtain ⟨rfl,rfl⟩:=he;obtain ⟨g2,e9,he,-,-,-,-,-,c2⟩:=aF.at hI (fun _=>rfl) (i:=2) rfl;simp only [aRi,aQr,Addr.mk.injEq,and_true,true_and] at he;obtain ⟨rfl,rfl⟩:=he;obtain ⟨g3,g0,he,-,-,-,-,-,c3⟩:=aF.at hI (fun _=>rfl) (i:=3) rfl;simp only [aRi,aQr,Addr.mk.injEq,and_true,true_and] at he;obtain ⟨rfl,rfl⟩:=he;have d0:wr.cell? ⟨g,0,none⟩=some (.int .i64 x0):=c0 0 (by decide);have d1:wr.cell? ⟨g,1,none⟩=some (.int .i64 y0):=c0 1 (by decide);have d2:wr.cell? ⟨g,2,none⟩=some (.int .i64 s0):=c0 2 (by decide);have d3:wr.cell? ⟨g,3,none⟩=some (.int .i64 x1):=c1 0 (by decide);have d4:wr.cell? ⟨g,4,none⟩=some (.int .i64 y1):=c1 1 (by decide);have d5:wr.cell? ⟨g,5,none⟩=some (.int .i64 s1):=c1 2 (by decide);have d6:wr.cell? ⟨g,6,none⟩=some (.int .i64 x2):=c2 0 (by decide);have d7:wr.cell? ⟨g,7,none⟩=some (.int .i64 y2):=c2 1 (by decide);have d8:wr.cell? ⟨g,8,none⟩=some (.int .i64 s2):=c2 2 (by decide);have d9:wr.cell? ⟨g,9,none⟩=some (.int .i64 x3):=c3 0 (by decide);have e4:wr.cell? ⟨g,10,none⟩=some (.int .i64 y3):=c3 1 (by decide);have e5:wr.cell? ⟨g,11,none⟩=some (.int .i64 s3):=c3 2 (by decide);have b7:4<=tc:=b0;have ZW:=X0.size;clear hI c0 c1 c2 c3 b0 e0 e1 e2 e3 hge;go_wp2_with fail;refine aA [([0,1,2,3,4,5,6,7,8,9,10,11,12,13,14,15,16,17,18,19,20,21,22,23,24,25,26,27,28,29],30),([],31)] 99 wr.heap.size (by kernel_rfl) (by kernel_rfl) ?_;refine st_ fun K hK=>?_;go_wp2_with fail;go_wp2_with fail;refine k_ hK ?_;clear hK K;refine st_ fun K hK=>?_;go_wp2_with fail;go_wp2_with fail;refine k_ hK ?_;clear hK K;refine aC ?_;have BF:=aQx wr.drew 155 [x0,y0,s0,x1,y1,s1,x2,y2,s2,(u:Nat),(v:Nat),(n:Nat),x1,y1,s1,x3,y3,s3,x2,y2,s2,(u:Nat),(v:Nat),(n:Nat)];have XF:Ext wr (wr.drew.alloc (.cells #[x0,y0,s0,x1,y1,s1,x2,y2,s2,(u:Nat),(v:Nat),(n:Nat),x1,y1,s1,x3,y3,s3,x2,y2,s2,(u:Nat),(v:Nat),(n:Nat)] 155)):=X_;go_wp2;go_ret;refine ⟨_,rfl,.inr ⟨c4.out,wr.heap.size,ZW,rfl,?_⟩,X0.trans XF⟩;rw [show cW c f n s u v=⟨x0,y0,s0⟩ from b3,show cW c f n s (u+1) v=⟨x1,y1,s1⟩ from b4,show cW c f n s u (v+1)=⟨x2,y2,s2⟩ from b5,show cW c f n s (u+1) (v+1)=⟨x3,y3,s3⟩ from b6];exact BF
def pX (c:Cam) (f:Nat->Int) (n:Nat) (s:Smp) (k:Nat):List Mc:=(aRc k).flatMap fun q=>fX c f n s (q % n) (q / n)
theorem aGv (c:Cam) (f:Nat->Int) (n:Nat) (s:Smp) {u v:Nat} (hu:u<n):pX c f n s (v*n+(u+1))=pX c f n s (v*n+u)++fX c f n s u v:=by
 unfold pX;rw [<-aSg,aS3,aR1,aUi]
 have e1:(v*n+u) % n=u:=by rw [aYr,Nat.add_mul_mod_self_right,Nat.mod_eq_of_lt hu]
 have e2:(v*n+u) / n=v:=by rw [aYr,Nat.add_mul_div_right _ _ (by omega),Nat.div_eq_of_lt hu,aRl]
 rw [e1,e2]
theorem aCo (c:Cam) (f:Nat->Int) (n:Nat) (s:Smp) (k:Nat):(pX c f n s k).length<=2*k:=by
 unfold pX
 induction k with
 | zero=>simp
 | succ k ih=>
  rw [aS3,aR1,aUi,aRg];have:=iW c f n s (k % n) (k / n);omega
theorem Mc.oneC (y:Mc):∀u∈y.cs,u.oneCell'=true:=y.one
theorem yB (c:Cam) (f:Nat->Int) (n:Nat) (s:Smp) (hn:1<=n/\n<=8) (w:World) :
  Calls aQt 98 #[.agg c,.agg f,(n:Nat),s.lx,s.ly] w fun e w'=>∃r,e = .returned r/\aF Mc.cs w.heap.size 155 12 w' r (jW c f n s)/\Ext w w':=by
 have J1:=hid (aG.2 (show (1:Int)<=(n:Int)/\(n:Int)<=8 by omega));have HN:=hid hn;clear hn;have B0:=hid ((aQx w 35 c).ext (show Ext (w.alloc (.cells c 35)) ((w.alloc (.cells c 35)).alloc (.cells f 125)) from X_));have B1:=hid (show Blk ((w.alloc (.cells c 35)).alloc (.cells f 125)) (w.heap.size+1) 125 f from by have q:=(aQx (w.alloc (.cells c 35)) 125 f).ext (show Ext ((w.alloc (.cells c 35)).alloc (.cells f 125)) ((w.alloc (.cells c 35)).alloc (.cells f 125)) from X_);simp only [aQp] at q;exact q);have X0:=hid (show Ext w ((w.alloc (.cells c 35)).alloc (.cells f 125)) from X_);go_enter func98,ntmps98;go_wp2_with fail;refine z_ (aE J1 _) ?_;go_upto_region 4 with fail
 obtain ⟨W,hW⟩:∃W,(((w.alloc (.cells c 35)).alloc (.cells f 125)).alloc (.cells #[] 155))=W:=⟨_,rfl⟩
 have OW:aF Mc.cs (w.heap.size+2) 155 12 (((w.alloc (.cells c 35)).alloc (.cells f 125)).alloc (.cells #[] 155)) (.slice (some ⟨w.heap.size+2,0,none⟩) 0 0) []:=aF.freshC (aQo _) (by have q:=aQx ((w.alloc (.cells c 35)).alloc (.cells f 125)) 155 [];simp only [aQp] at q;exact q);have YW:Ext ((w.alloc (.cells c 35)).alloc (.cells f 125)) (((w.alloc (.cells c 35)).alloc (.cells f 125)).alloc (.cells #[] 155)):=X_;replace B0:=hid (B0.ext YW);replace B1:=hid (B1.ext YW);replace X0:=hid (X0.trans YW);clear YW
 try simp only [aQp]
 rw [hW];rw [hW] at B0 B1 X0 OW;have OO:=hid OW;clear hW OW;go_wp2_with fail
 go_loopw [11,12] (fun l x wr=>∃r:Nat,r<=n/\x = .int .i64 (r:Nat)/\Ext w wr/\Blk wr w.heap.size 35 c/\Blk wr (w.heap.size+1) 125 f/\aF Mc.cs (w.heap.size+2) 155 12 wr l (pX c f n s (r*n))) (fun _ x _=>n - (intOf x).toNat)
 case atStart=>exact ⟨0,by omega,rfl,X0,B0,B1,by rw [aVz];exact OO⟩
 case round=>
  obtain ⟨r,hr,rfl,hx,h0,h1,ho⟩:=hrel;clear B0 B1 X0 OO;have X0:=hid hx;have B0:=hid h0;have B1:=hid h1;have OO:=hid ho;obtain ⟨la,lc,rfl,-⟩:=aF.form ho;clear hx h0 h1 ho
  rcases aRy r n with hrn|hrn
  ·go_wp2_with fail
   obtain ⟨WA,h9⟩:∃W,W=wr:=⟨_,rfl⟩
   rw [<-h9] at B0 B1 X0 OO ⊢;clear h9
   go_loopw [11,13] (fun l x wr=>∃q:Nat,q<=n/\x = .int .i64 (q:Nat)/\Ext w wr/\Blk wr w.heap.size 35 c/\Blk wr (w.heap.size+1) 125 f/\aF Mc.cs (w.heap.size+2) 155 12 wr l (pX c f n s (r*n+q))) (fun _ x _=>n - (intOf x).toNat)
   case atStart=>exact ⟨0,by omega,rfl,X0,B0,B1,by rw [aSa];exact OO⟩
   case round=>
    obtain ⟨q,hq,rfl,hx,h0,h1,ho⟩:=hrel;clear B0 B1 X0 OO;have X0:=hid hx;have B0:=hid h0;have B1:=hid h1;have OO:=hid ho;have h6:=aCo c f n s (r*n+q)
    have q5:r*n+q<=64:=by
     have h:=aRq (show r<=7 by have:=HN.out;omega) (show n<=8 by have:=HN.out;omega);have:=HN.out;omega
    have h3:=hid (show (pX c f n s (r*n+q)).length<=200 by omega);clear h6 q5
    rcases aRy q n with hqn|hqn
    ·have h4:=hid (aGv c f n s (v:=r) hqn)
     obtain ⟨T,hT⟩:∃T,pX c f n s (r*n+q)=T:=⟨_,rfl⟩
     rw [hT] at ho OO h3 h4;clear hT;obtain ⟨ma,mc,rfl,-⟩:=aF.form ho;have ZW:=hx.size;clear hx h0 h1 ho;have p:=B0.lt;obtain ⟨p0,p1,p2,p3,p4,p5,p6⟩:=B0.q7;have g:=B1.lt;obtain ⟨g0,g1,g2,g3,g4,g5,g6,g7,g8,g9,q2,q3⟩:=B1.q12;go_wp2_with fail;refine (zM c f n s q r ⟨HN.1,by have:=HN.out;omega⟩ hqn hrn _).mono ?_;rintro e w5 ⟨d,rfl,hD,x5⟩;have hR:=hD.rd;have h5:=iW c f n s q r
     obtain ⟨L,hL⟩:∃L,fX c f n s q r=L:=⟨_,rfl⟩
     replace h4:=hid (hL▸h4.out);rw [hL] at hR h5;clear hL;obtain ⟨da,dc,rfl,-,-,h8⟩:=hR.form;have HR:=hid h8;have O5:=hid (OO.ext x5);have C0:=hid (B0.ext x5);have C1:=hid (B1.ext x5);have CX:=hid (X0.trans x5);have z5:=CX.size;have h7:=hid h5;have q6:=C1.lt;clear hD hR h8 h5 x5 p p0 p1 p2 p3 p4 p5 p6 g g0 g1 g2 g3 g4 g5 g6 g7 g8 g9 q2 q3;go_wp2_with (at_builtin;refine cR Mc.cs 155 12 96 _ w5 rfl _ _ 148 rfl underlying148 wA rfl (by decide) (by decide) (fun _=>rfl) Mc.oneC (w.heap.size+2) (.slice ma T.length mc) T rfl O5 _ _ (.slice da L.length dc) L rfl HR (by have:=h3.out;have:=h7.out;omega) (by omega) ?_;intro v6 w6 hown hg);have h2:=aF.rowE O5;have RX:=hid (aRz CX hg (fun k e=>by have:=(h2 k e).1;omega));have R0:=hid (C0.grown hg (fun e=>by have:=(h2 _ e.symm).1;omega));have R1:=hid (C1.grown hg (fun e=>by have:=(h2 _ e.symm).1;omega));have RO:=hid hown;clear hown hg h2;have q0:=HN.out;have HW:=hid (show wrap64 ((q:Int)+1)=((q+1:Nat):Int) by rw [aD (by omega) (by omega)];omega);have q1:=hid (show aF Mc.cs (w.heap.size+2) 155 12 w6 v6 (pX c f n s (r*n+(q+1))) by rw [h4];exact RO)
     obtain ⟨n8,q4⟩:∃b:Nat,n=b:=⟨_,rfl⟩
     clear h3 h7 HR O5 C0 C1 CX h4 RO HN q0 q4 n8;go_wp2;go_roundw
     case rel=>exact ⟨q+1,by omega,congrArg (aT0 .i64) HW,RX,R0,R1,q1⟩
     case measure=>
      rw [HW]
      show n - (q+1)<n - q
      omega
    ·obtain rfl:q=n:=by omega
     obtain ⟨ma,mc,rfl,-⟩:=aF.form ho;clear hx h0 h1 ho;have q0:=HN.out;go_wp2;go_roundw
     case rel=>exact ⟨r+1,by omega,by go_num,X0,B0,B1,by rw [Nat.succ_mul];exact OO⟩
     case measure=>simp [intOf];omega
  ·obtain rfl:r=n:=by omega
   go_wp2;go_ret;exact ⟨_,rfl,aF.low (show aF Mc.cs (w.heap.size+2) 155 12 wr _ (jW c f _ s) from OO) (by omega),X0⟩
structure yC (s:Scn) (h:Nat) (w:World) (cv av:Value):Prop where
 hh:h<=w.heap.size
 c:∃us:List Value,us.length=s.m/\Rd (fun u=>[u]) 0 h w cv us/\∀k u,us[k]?=some u->aU 0 h w u (s.shade k).1
 a:∃us:List Value,us.length=s.m/\Rd (fun u=>[u]) 0 h w av us/\∀k u,us[k]?=some u->aU 0 h w u (s.shade k).2
theorem yC.ext {s:Scn} (r:yC s h w cv av) (x:Ext w w'):yC s h w' cv av:=by
 obtain ⟨hh,⟨us,h1,h2,h3⟩,us2,k1,k2,k3⟩:=r;exact ⟨aQw hh x.size,⟨us,h1,h2.ext hh x,fun k u hu=>(h3 k u hu).ext hh x⟩,us2,k1,k2.ext hh x,fun k u hu=>(k3 k u hu).ext hh x⟩
theorem Rd.low0 {α : Type} {cs : α->List Value} {ys:List α} (h:Rd cs lo hi w v ys):Rd cs 0 hi w v ys:=by
 obtain ⟨ad,c,h1,h2,h3,h4,h5⟩:=h;refine ⟨ad,c,h1,h2,h3,h4,?_⟩
 rcases h5 with h5|⟨b,off,e,l1,l2,hc⟩
 ·exact .inl h5
 ·exact .inr ⟨b,off,e,aR8 _,l2,hc⟩
theorem aEo.rd {s:Scn} (h:aEo s lo w cv av s.m):yC s w.heap.size w cv av:=by
 obtain ⟨us,h1,h2,h3⟩:=h.c.ints;obtain ⟨h0,k1,k2,k3⟩:=h.a.ints;rw [sF] at h1;rw [uI] at k1;refine ⟨aQo _,⟨us,h1,h2.low0,fun k u hu=>h3 k u _ hu (aLb s ?_)⟩,h0,k1,k2.low0,fun k u hu=>k3 k u _ hu (aM5 s ?_)⟩
 ·have:=(aQq.1 hu).1
  omega
 ·have:=(aQq.1 hu).1
  omega
theorem yC.at {s:Scn} (r:yC s h w cv av) (hk:k<s.m) :
  ∃bc oc cc ba oa ca a4 c4 a5 c5,cv = .slice (some ⟨bc,oc,none⟩) s.m cc/\av = .slice (some ⟨ba,oa,none⟩) s.m ca/\bc<h/\ba<h/\w.cell? ⟨bc,oc+k,none⟩=some (.slice a4 (s.shade k).1.length c4)/\w.cell? ⟨ba,oa+k,none⟩=some (.slice a5 (s.shade k).2.length c5)/\fY 0 h w a4 c4 (s.shade k).1/\fY 0 h w a5 c5 (s.shade k).2:=by
 obtain ⟨hh,⟨us,h1,h2,h3⟩,us2,k1,k2,k3⟩:=r;obtain ⟨ad,cc,rfl,-,-,q2⟩:=h2.form;obtain ⟨h5,ca,rfl,-,-,q4⟩:=k2.form
 obtain ⟨u,hu⟩:∃u,us[k]?=some u:=⟨_,aQ0 (by omega)⟩
 obtain ⟨u2,h0⟩:∃u,us2[k]?=some u:=⟨_,aQ0 (by omega)⟩
 obtain ⟨bc,oc,rfl,-,l1,hc⟩:=Rd.at (sz:=1) (fun _=>rfl) q2 hu;obtain ⟨ba,oa,rfl,-,l2,h4⟩:=Rd.at (sz:=1) (fun _=>rfl) q4 h0;obtain ⟨a4,c4,rfl,i4⟩:=(h3 k u hu).open;obtain ⟨a5,c5,rfl,i5⟩:=(k3 k u2 h0).open;have e1:=hc 0 (by omega);have e2:=h4 0 (by omega);rw [Nat.mul_one,aSa] at e1 e2;exact ⟨bc,oc,cc,ba,oa,ca,a4,c4,a5,c5,by rw [h1],by rw [k1],l1,l2,e1,e2,i4,i5⟩
theorem aCp (s:Scn) (lo hi h0:Nat) (v cv av:Value) (k:Nat) (p:Smp) (n:Nat) (cols als:List Int) (w:World) (hv:s.R lo hi w v) (hh:hi<=w.heap.size) (hk:k<s.m) (hm5:s.m<=5) (hr:s.rt k=(n:Nat)) (hn:1<=n/\n<=8) (hp:p.okB s.c=true)
  (hd:yC s h0 w cv av) (hlc:cols.length=n*n) (hla:als.length=n*n) (hcols:(s.shade k).1=cols) (hals:(s.shade k).2=als) :
  Calls aQt 55 #[v,.agg #[cv,av],(k:Nat),.agg #[p.x,p.y,p.t,p.lx,p.ly]] w fun e w'=>∃r,e = .returned r/\aF aP.cs w.heap.size 95 5 w' r (tN s.c (aY (s.st k) (s.en k) p.t) n p (k:Nat) cols als)/\Ext w w':=by
 obtain ⟨a1,c1,a2,c2,a3,c3,rfl,-,-,-,-,-,hF⟩:=hv.form;have i2:=hd.hh;obtain ⟨bc,oc,cc,ba,oa,ca,a4,c4,a5,c5,rfl,rfl,lc,la,ec,ea,hC,hA⟩:=hd.at hk;rw [hcols] at ec hC;rw [hals] at ea hA;have e8:=hF.cap;have i5:=hF.le;obtain ⟨b,h7,rfl,i0,i1,h3⟩:=hF.at hk (by decide)
 obtain ⟨f,hf⟩:∃f,s.st k=f:=⟨_,rfl⟩
 obtain ⟨g,hg⟩:∃f,s.en k=f:=⟨_,rfl⟩
 obtain ⟨sh,b1⟩:∃f,s.sh k=f:=⟨_,rfl⟩
 have bw:b<w.heap.size:=by omega
 have xw:Ext w (((w.alloc (.cells (sA_ s a1 c1 a2 c2 (some ⟨b,h7,none⟩) c3) 40)).alloc (.cells #[.slice (some ⟨bc,oc,none⟩) s.m cc,.slice (some ⟨ba,oa,none⟩) s.m ca] 78)).alloc (.cells #[p.x,p.y,p.t,p.lx,p.ly] 42)):=X_
 have q6:(((w.alloc (.cells (sA_ s a1 c1 a2 c2 (some ⟨b,h7,none⟩) c3) 40)).alloc (.cells #[.slice (some ⟨bc,oc,none⟩) s.m cc,.slice (some ⟨ba,oa,none⟩) s.m ca] 78)).alloc (.cells #[p.x,p.y,p.t,p.lx,p.ly] 42)).rangeAt b (h7+k*26) ((aRc 26).map fun j=>.int .i64 (s.F (k*26+j))):=by
  intro j v hj;obtain ⟨h1,h2⟩:=aQq.1 hj;simp only [aR7,aUf] at h1;simp only [aU6,aT6] at h2;subst h2;exact (xw.cells.1 b _ bw).trans (h3 j h1)
 change (((w.alloc (.cells (sA_ s a1 c1 a2 c2 (some ⟨b,h7,none⟩) c3) 40)).alloc (.cells #[.slice (some ⟨bc,oc,none⟩) s.m cc,.slice (some ⟨ba,oa,none⟩) s.m ca] 78)).alloc (.cells #[p.x,p.y,p.t,p.lx,p.ly] 42)).rangeAt b (h7+k*26) [(s.st k 0),(s.st k 1),(s.st k 2),(s.st k 3),(s.st k 4),(s.st k 5),(s.st k 6),(s.st k 7),(s.st k 8),(s.st k 9),(s.st k 10),(s.st k 11),(s.en k 0),(s.en k 1),(s.en k 2),(s.en k 3),(s.en k 4),(s.en k 5),(s.en k 6),(s.en k 7),(s.en k 8),(s.en k 9),(s.en k 10),(s.en k 11),(s.sh k),(s.rt k)] at q6;simp only [hf,hg,b1,hr] at q6;have q0:=aQx w 40 (sL_ s a1 c1 a2 c2 (some ⟨b,h7,none⟩) c3);have q1:=aQx (w.alloc (.cells (sA_ s a1 c1 a2 c2 (some ⟨b,h7,none⟩) c3) 40)) 78 [.slice (some ⟨bc,oc,none⟩) s.m cc,.slice (some ⟨ba,oa,none⟩) s.m ca];have q2:=aQx ((w.alloc (.cells (sA_ s a1 c1 a2 c2 (some ⟨b,h7,none⟩) c3) 40)).alloc (.cells #[.slice (some ⟨bc,oc,none⟩) s.m cc,.slice (some ⟨ba,oa,none⟩) s.m ca] 78)) 42 [p.x,p.y,p.t,p.lx,p.ly];simp only [aQp] at q1 q2;have r0:=q0.ext (show Ext (w.alloc (.cells (sA_ s a1 c1 a2 c2 (some ⟨b,h7,none⟩) c3) 40)) (((w.alloc (.cells (sA_ s a1 c1 a2 c2 (some ⟨b,h7,none⟩) c3) 40)).alloc (.cells #[.slice (some ⟨bc,oc,none⟩) s.m cc,.slice (some ⟨ba,oa,none⟩) s.m ca] 78)).alloc (.cells #[p.x,p.y,p.t,p.lx,p.ly] 42)) from X_);have r1:=q1.ext (show Ext ((w.alloc (.cells (sA_ s a1 c1 a2 c2 (some ⟨b,h7,none⟩) c3) 40)).alloc (.cells #[.slice (some ⟨bc,oc,none⟩) s.m cc,.slice (some ⟨ba,oa,none⟩) s.m ca] 78)) (((w.alloc (.cells (sA_ s a1 c1 a2 c2 (some ⟨b,h7,none⟩) c3) 40)).alloc (.cells #[.slice (some ⟨bc,oc,none⟩) s.m cc,.slice (some ⟨ba,oa,none⟩) s.m ca] 78)).alloc (.cells #[p.x,p.y,p.t,p.lx,p.ly] 42)) from X_);have r2:=q2.ext (show Ext (((w.alloc (.cells (sA_ s a1 c1 a2 c2 (some ⟨b,h7,none⟩) c3) 40)).alloc (.cells #[.slice (some ⟨bc,oc,none⟩) s.m cc,.slice (some ⟨ba,oa,none⟩) s.m ca] 78)).alloc (.cells #[p.x,p.y,p.t,p.lx,p.ly] 42)) (((w.alloc (.cells (sA_ s a1 c1 a2 c2 (some ⟨b,h7,none⟩) c3) 40)).alloc (.cells #[.slice (some ⟨bc,oc,none⟩) s.m cc,.slice (some ⟨ba,oa,none⟩) s.m ca] 78)).alloc (.cells #[p.x,p.y,p.t,p.lx,p.ly] 42)) from X_)
 have z3:(((w.alloc (.cells (sA_ s a1 c1 a2 c2 (some ⟨b,h7,none⟩) c3) 40)).alloc (.cells #[.slice (some ⟨bc,oc,none⟩) s.m cc,.slice (some ⟨ba,oa,none⟩) s.m ca] 78)).alloc (.cells #[p.x,p.y,p.t,p.lx,p.ly] 42)).heap.size=w.heap.size+3:=by simp
 have HC:=hid hC;have HA:=hid hA;have b7:=hid ec;have b6:=hid ea;have HP:=hid hp
 have ht:0<=p.t/\p.t<=16:=by
  unfold Smp.okB at hp;simp only [aQ4,aG] at hp;omega
 have HT:=hid ht;have d1:=hid hlc;have b9:=hid hla;clear hlc hla q0 q1 q2 hC hA ec ea hp ht h3 hF hv b1 hr hd hcols hals;rw [hf,hg,xF];have z7:=aD4 (c:=s.c) (f:=aY f g p.t) (n:=n) (s:=p) hn.1;have z4:=rU s.c (aY f g p.t) p hn.2
 obtain ⟨M,q4⟩:∃M,jW s.c (aY f g p.t) n p=M:=⟨_,rfl⟩
 rw [q4] at z7 z4 ⊢;have d5:=hid z7;have d3:=hid z4;have d4:=hid q4;clear hf hg z7 z4 q4;go_enter func55,ntmps55;go_upto_region 1 with fail
 obtain ⟨W0,x1⟩:∃W0,(((w.alloc (.cells (sA_ s a1 c1 a2 c2 (some ⟨b,h7,none⟩) c3) 40)).alloc (.cells #[.slice (some ⟨bc,oc,none⟩) s.m cc,.slice (some ⟨ba,oa,none⟩) s.m ca] 78)).alloc (.cells #[p.x,p.y,p.t,p.lx,p.ly] 42))=W0:=⟨_,rfl⟩
 rw [x1] at q6 r0 r1 r2 z3 xw
 try simp only [aQp] at x1
 rw [x1];clear x1
 have bl:b<W0.heap.size:=by omega
 have d0:=r0.cell 10 rfl;have l0:=r0.lt;have R0:=hid r0;have R1:=hid r1;have R2:=hid r2;have XW:=hid xw;have Z3:=hid z3
 have i4:((k:Nat):Int)<(s.m:Nat):=by omega
 have q8:(W0.alloc (.cells #[] 95)).rangeAt b (h7+k*26) [(f 0),(f 1),(f 2),(f 3),(f 4),(f 5),(f 6),(f 7),(f 8),(f 9),(f 10),(f 11),(g 0),(g 1),(g 2),(g 3),(g 4),(g 5),(g 6),(g 7),(g 8),(g 9),(g 10),(g 11),sh,(n:Nat)]:=fun j v hj=>((show Ext W0 (W0.alloc (.cells #[] 95)) from X_).cells.1 b _ bl).trans (q6 j v hj);clear r0 r1 r2 xw z3 q6;go_upto_region 3 with (first|(show wpList _ _ _ [_,_,_] _ _;refine wpList_load_mid rfl _ _ rfl b (h7+k*26) rfl [(f 0),(f 1),(f 2),(f 3),(f 4),(f 5),(f 6),(f 7),(f 8),(f 9),(f 10),(f 11),(g 0),(g 1),(g 2),(g 3),(g 4),(g 5),(g 6),(g 7),(g 8),(g 9),(g 10),(g 11),sh,(n:Nat)] _ q8 underlying127 rfl fQ ?_)|(show wpList _ _ _ [_] _ _;refine dI _ _ _ rfl 127 (.tmp 10) (.tmp 21) rfl rfl #[(f 0),(f 1),(f 2),(f 3),(f 4),(f 5),(f 6),(f 7),(f 8),(f 9),(f 10),(f 11),(g 0),(g 1),(g 2),(g 3),(g 4),(g 5),(g 6),(g 7),(g 8),(g 9),(g 10),(g 11),sh,(n:Nat)] (W0.heap.size+1) (by simp) rfl rfl (by kernel_rfl) (by kernel_rfl) (by kernel_rfl) ?_))
 have bS:Blk ((W0.alloc (.cells #[] 95)).alloc (.cells #[(f 0),(f 1),(f 2),(f 3),(f 4),(f 5),(f 6),(f 7),(f 8),(f 9),(f 10),(f 11),(g 0),(g 1),(g 2),(g 3),(g 4),(g 5),(g 6),(g 7),(g 8),(g 9),(g 10),(g 11),sh,(n:Nat)] 127)) (W0.heap.size+1) 127 [(f 0),(f 1),(f 2),(f 3),(f 4),(f 5),(f 6),(f 7),(f 8),(f 9),(f 10),(f 11),(g 0),(g 1),(g 2),(g 3),(g 4),(g 5),(g 6),(g 7),(g 8),(g 9),(g 10),(g 11),sh,(n:Nat)]:=by
  have q:=aQx (W0.alloc (.cells #[] 95)) 127 [(f 0),(f 1),(f 2),(f 3),(f 4),(f 5),(f 6),(f 7),(f 8),(f 9),(f 10),(f 11),(g 0),(g 1),(g 2),(g 3),(g 4),(g 5),(g 6),(g 7),(g 8),(g 9),(g 10),(g 11),sh,(n:Nat)];rw [aQp] at q;exact q
 have hO:aF aP.cs W0.heap.size 95 5 ((W0.alloc (.cells #[] 95)).alloc (.cells #[(f 0),(f 1),(f 2),(f 3),(f 4),(f 5),(f 6),(f 7),(f 8),(f 9),(f 10),(f 11),(g 0),(g 1),(g 2),(g 3),(g 4),(g 5),(g 6),(g 7),(g 8),(g 9),(g 10),(g 11),sh,(n:Nat)] 127)) (.slice (some ⟨W0.heap.size,0,none⟩) 0 0) []:=aF.ext (aF.fresh0 (aQo _) (aQx W0 95 [])) (show Ext (W0.alloc (.cells #[] 95)) ((W0.alloc (.cells #[] 95)).alloc (.cells #[(f 0),(f 1),(f 2),(f 3),(f 4),(f 5),(f 6),(f 7),(f 8),(f 9),(f 10),(f 11),(g 0),(g 1),(g 2),(g 3),(g 4),(g 5),(g 6),(g 7),(g 8),(g 9),(g 10),(g 11),sh,(n:Nat)] 127)) from X_);have xa:Ext W0 ((W0.alloc (.cells #[] 95)).alloc (.cells #[(f 0),(f 1),(f 2),(f 3),(f 4),(f 5),(f 6),(f 7),(f 8),(f 9),(f 10),(f 11),(g 0),(g 1),(g 2),(g 3),(g 4),(g 5),(g 6),(g 7),(g 8),(g 9),(g 10),(g 11),sh,(n:Nat)] 127)):=X_
 obtain ⟨wc,b3⟩:∃W,((W0.alloc (.cells #[] 95)).alloc (.cells #[(f 0),(f 1),(f 2),(f 3),(f 4),(f 5),(f 6),(f 7),(f 8),(f 9),(f 10),(f 11),(g 0),(g 1),(g 2),(g 3),(g 4),(g 5),(g 6),(g 7),(g 8),(g 9),(g 10),(g 11),sh,(n:Nat)] 127))=W:=⟨_,rfl⟩
 rw [b3] at bS hO xa ⊢;clear b3 q8
 obtain ⟨A,a6⟩:∃A,W0.heap.size+1=A:=⟨_,rfl⟩
 rw [a6] at bS ⊢;have HS:=hid bS;have HO:=hid hO;have HX:=hid xa;have lA:=bS.lt;have g1:=xa.size;have d7:=bS.cell 25 rfl
 have a8:wc.rangeAt A 0 [(f 0),(f 1),(f 2),(f 3),(f 4),(f 5),(f 6),(f 7),(f 8),(f 9),(f 10),(f 11),(g 0),(g 1),(g 2),(g 3),(g 4),(g 5),(g 6),(g 7),(g 8),(g 9),(g 10),(g 11),sh,(n:Nat)]:=fun j v hj=>by rw [aRl];exact bS.cell j hj
 have e0:=R0.ext xa;have e1:=R2.ext xa;obtain ⟨m0,m1,m2,m3,m4,m5,m6⟩:=e0.q7;have s2:=e1.cell 2 rfl;have s3:=e1.cell 3 rfl;have s4:=e1.cell 4 rfl;have l1:=e0.lt;have l2:=e1.lt;clear e0 e1 bS hO xa d0 l0 R0;refine aA [([0,1,2,3,4,6,7,8,9,10,11,14],5),([],12),([],13)] 99 wc.heap.size (by kernel_rfl) (by kernel_rfl) ?_;refine aI ?_;simp only [List.filterMap_cons,List.filterMap_nil,List.getElem?_toArray,aQm,aQn]
 show wpQuiet _ _ _ _ [_,_,_,_,_,_,_,_,_,_,_,_] _
 go_big_quiet_step (fail)
 go_big_quiet_step (fail)
 refine eN rfl _ _ rfl A 0 rfl [(f 0),(f 1),(f 2),(f 3),(f 4),(f 5),(f 6),(f 7),(f 8),(f 9),(f 10),(f 11),(g 0),(g 1),(g 2),(g 3),(g 4),(g 5),(g 6),(g 7),(g 8),(g 9),(g 10),(g 11),sh,(n:Nat)] _ (by rintro _ ⟨d,rfl⟩ j v hj;rw [jC _ _ _ _ lA];exact a8 j v hj) underlying127 rfl fQ ?_
 try simp only [Act.put,aQv,aQ3,aQ2]
 repeat (go_big_quiet_step (fail))
 refine wpQuiet_nil ⟨_,rfl,fun K hK=>?_⟩;go_wp2_with fail;refine r_ (xZ f g sh (n:Nat) p.t HT _) fun w5 x5=>?_;have y5:Ext wc w5:=aQu (aRr (aQy _)) x5;go_wp2_with fail;refine k_ hK ?_;clear hK K;refine st_ fun K hK=>?_;go_wp2_with fail;refine (yB s.c (aY f g p.t) n p hn _).mono ?_;rintro e w6 ⟨r',rfl,hM,x6⟩;rw [d4] at hM;have y6:=y5.trans x6;obtain ⟨ta,tc,rfl,g2⟩:=aF.form hM;go_wp2_with fail;refine k_ hK ?_;clear hK K;refine st_ fun K hK=>?_;go_wp2_with fail;refine k_ hK ?_;clear hK K;refine aC ?_;go_wp2_with fail;have y2:=hid (hM.low (lo':=W0.heap.size) (by have:=y5.size;omega));have y0:=hid (HO.ext y6);have y4:=hid (HX.trans y6);clear hM y5 y6 x5 x6 a8 HS HO HX d7 m0 m1 m2 m3 m4 m5 m6 s2 s3 s4 lA g1 l1 l2 a6
 have hs:(-100000<=p.x/\p.x<=100000)/\(-100000<=p.y/\p.y<=100000):=by
  have hq:=HP.out;unfold Smp.okB at hq;simp only [aQ4,aG] at hq;obtain ⟨⟨⟨⟨⟨q1,q2⟩,q3⟩,-⟩,-⟩,-⟩:=hq;have h1:=(Cam.okB_iff.1 q1).w;have h2:=(Cam.okB_iff.1 q1).h;omega
 have y8:=hid hs;clear hs
 go_loopw [9,36] (fun v i wr=>∃j:Nat,j<=M.length/\i = .int .i64 (j:Nat)/\Ext W0 wr/\aF Mc.cs W0.heap.size 155 12 wr (.slice ta M.length tc) M/\aF aP.cs W0.heap.size 95 5 wr v (aB6 p (k:Nat) cols als M j)) (fun _ i _=>M.length - (intOf i).toNat)
 case atStart=>exact ⟨0,by omega,rfl,y4,y2,y0⟩
 case round=>
  obtain ⟨j,hj,rfl,hx,hm,ho⟩:=hrel;have x0:=hid hx;have y1:=hid hm;have x4:=hid ho;clear y4 y2 y0
  rcases aRy j M.length with hlt|hge
  ·obtain ⟨m,x2⟩:∃m,M[j]?=some m:=⟨_,aQ0 hlt⟩
   have h6:=d5.out m (aRe x2);obtain ⟨gm,cap,he,-,e4,x9,e3,-,h3⟩:=aF.at hm (fun _=>rfl) x2;simp only [aRi,true_and] at he;obtain ⟨rfl,rfl⟩:=he;have c0:=h3 0 (by decide);have c1:=h3 1 (by decide);have c2:=h3 2 (by decide);have c3:=h3 3 (by decide);have c4:=h3 4 (by decide);have c5:=h3 5 (by decide);have c6:=h3 6 (by decide);have c7:=h3 7 (by decide);have c8:=h3 8 (by decide);have c9:=h3 9 (by decide);have y9:=h3 10 (by decide);have a0:=h3 11 (by decide);simp only [Mc.cs,aIl,aSa,aQm,aQn] at c0 c1 c2 c3 c4 c5 c6 c7 c8 c9 y9 a0;have e1:=R2.ext hx;obtain ⟨s0,s1⟩:=e1.q2;have l1:=e1.lt;have y3:=hid x2;clear hx hm ho h3 x2 e1;go_wp2_with fail
   by_cases h8:qD m.a m.b m.d p.at=true
   ·refine (aGt m.a.x m.a.y m.a.z m.b.x m.b.y m.b.z m.d.x m.d.y m.d.z h6.a h6.b h6.d h6.z p.x p.y y8 h8 (r:=eC m.a m.b m.d p.at) rfl _).mono ?_
    rintro e w7 ⟨rfl,x7⟩;have y7:Ext wr w7:=aQu (show Ext wr (wr.alloc (.cells #[m.a.x,m.a.y,m.a.z,m.b.x,m.b.y,m.b.z,m.d.x,m.d.y,m.d.z,m.u,m.v,m.n] 155)) from X_) x7;have hX:=hid (x0.trans y7);have q4:=hid (y1.ext y7);have z0:=hid (x4.ext y7);have q5:=(aQx wr 155 [m.a.x,m.a.y,m.a.z,m.b.x,m.b.y,m.b.z,m.d.x,m.d.y,m.d.z,m.u,m.v,m.n]).ext x7;have k9:=q5.cell 9 rfl;have i6:=q5.cell 10 rfl;have i7:=q5.cell 11 rfl;have kl:=q5.lt;have e2:=R1.ext (x0.trans y7);obtain ⟨t0,t1⟩:=e2.q2;have tl:=e2.lt;obtain ⟨u,vv,hu,z9,z6,lu,lv⟩:=h6.q
    have g0:vv*n+u<n*n:=by
     have h:=Nat.mul_le_mul_right n (show vv+1<=n by omega);rw [aS4,aS5] at h;omega
    have z5:n*n<=64:=aRq hn.2 hn.2
    obtain ⟨q,hq⟩:∃q:Nat,vv*n+u=q:=⟨_,rfl⟩
    have x8:m.v*m.n+m.u=(q:Nat):=by rw [hu,z9,z6,<-hq,aSw,aT3]
    obtain ⟨pr,x3⟩:∃pr,m.v*m.n=pr:=⟨_,rfl⟩
    have z8:pr=((vv*n:Nat):Int):=by rw [<-x3,z9,z6,aT3]
    have i8:wrap64 (m.v*m.n)=pr:=by rw [x3];exact aD (by omega) (by omega)
    have i9:wrap64 (pr+m.u)=(q:Nat):=by rw [<-x3,x8];exact aD (by omega) (by omega)
    have a9:q<cols.length:=by rw [d1];omega
    have b0:q<als.length:=by rw [b9];omega
    obtain ⟨b4,o4,rfl,-,h4,ct⟩:=HC.at a9;obtain ⟨b5,o5,rfl,-,h5,dt⟩:=HA.at b0;have xt:=XW.trans hX.out;have d8:=(xt.cells.1 b4 _ (by omega)).trans ct;have d9:=(xt.cells.1 b5 _ (by omega)).trans dt;have g7:=(xt.cells.1 bc _ (by omega)).trans b7;have g3:=(xt.cells.1 ba _ (by omega)).trans b6
    obtain ⟨cv,z2⟩:∃c,cols[q]=c:=⟨_,rfl⟩
    obtain ⟨av,z1⟩:∃c,als[q]=c:=⟨_,rfl⟩
    rw [z2] at d8;rw [z1] at d9
    have e9:=hid (show qS p (k:Nat) cols als m=[⟨eC m.a m.b m.d p.at,(k:Nat),(q:Nat),cv,av⟩] by
     unfold qS;rw [if_pos h8,x8,aRh,aRj,aRj,aQ0 a9,aQ0 b0,z2,z1]
     rfl)
    have z3:=Z3.out
    have g4:b4<W0.heap.size:=by omega
    have g5:b5<W0.heap.size:=by omega
    have g9:bc<W0.heap.size:=by omega
    have g8:ba<W0.heap.size:=by omega
    have g6:w.heap.size+1<W0.heap.size:=by omega
    clear z3 h8 q5 e2 y7 x7 hu z9 z6 lu lv g0 z5 hq x8 x3 z8 ct dt z2 z1 xt h4 h5 h6 c0 c1 c2 c3 c4 c5 c6 c7 c8 c9 y9 a0 s0 s1 l1 e4 x9 e3;go_wp2_with fail;refine aJ [([0,1,2,3,4,5,6,7,8,9,10,11,12,13,14,15,16,17,18,19,20],21),([],22),([],23)] 23 (fun w'=>∃d,w'=fU (CHt W0.heap.size) _ d) (by kernel_rfl) (by kernel_rfl) (SC.drew _ _) ?_;refine sc_ fun K hK=>?_;go_wp2_with fail;have b2:=hX.out.size;refine hK _ _ (.inr (SC.blocks fun a ha=>aQ1 (w:=w7) X_ (aSb ha b2))) ?_;clear hK K;have HB:=hid (aQx w7.drew 95 [(eC m.a m.b m.d p.at),(k:Nat),(q:Nat),cv,av]);have a7:=hid (z0.out.ext (show Ext w7 (w7.drew.alloc (.cells #[(eC m.a m.b m.d p.at),(k:Nat),(q:Nat),cv,av] 95)) from X_));have e6:=hid (q4.out.ext (show Ext w7 (w7.drew.alloc (.cells #[(eC m.a m.b m.d p.at),(k:Nat),(q:Nat),cv,av] 95)) from X_));have e7:=hid (hX.out.trans (show Ext w7 (w7.drew.alloc (.cells #[(eC m.a m.b m.d p.at),(k:Nat),(q:Nat),cv,av] 95)) from X_));have i3:=uF p (k:Nat) cols als M j;refine sc_ fun K hK=>?_
    refine iE _ rfl _ _ rfl W0.heap.size _ _ rfl a7.out ⟨eC m.a m.b m.d p.at,(k:Nat),(q:Nat),cv,av⟩ w7.heap.size rfl (fun q hq=>by
      rcases (show q=0\/q=1\/q=2\/q=3\/q=4 by omega) with rfl|rfl|rfl|rfl|rfl
      ·exact HB.cell 0 rfl
      ·exact HB.cell 1 rfl
      ·exact HB.cell 2 rfl
      ·exact HB.cell 3 rfl
      ·exact HB.cell 4 rfl) (by have:=d3.out;omega) (by simp;omega) ?_
    intro v2 w9 q9 hg;have h9:=aF.rowE a7.out;have b8:=hid q9;have d6:=hid (aRz e7.out hg (fun k e=>(h9 k e).1));have d2:=hid (e6.out.grownE hg (by decide) (fun k e=>(h9 k e).2));have e5:=hid (fun a:Addr=>fun ha:CHt W0.heap.size a=>show w9.heap[a.block]?=w7.drew.heap[a.block]? from (hg.block _ (by have:a.block<W0.heap.size:=ha;simp;omega) (fun e=>by have h1:=(h9 _ e.symm).1;have h2:a.block<W0.heap.size:=ha;omega)).trans (aQ1 (w:=w7) X_ (aSb ha b2)));clear q9 hg h9;go_wp2_with fail;refine hK _ _ (.inr (SC.blocks fun a ha=>e5.out a ha)) ?_;clear hK K;refine sc_ fun K hK=>?_;go_wp2_with fail;refine l_ hK ?_;clear hK K;refine aQ ?_;go_wp2;go_roundw
    case rel=>exact ⟨j+1,by omega,by go_num,d6,d2,by rw [lW y3,e9.out];exact b8⟩
    case measure=>simp [intOf];omega
   ·refine (aJl m.a.x m.a.y m.a.z m.b.x m.b.y m.b.z m.d.x m.d.y m.d.z h6.a h6.b h6.d h6.z p.x p.y y8 (Bool.eq_false_iff.2 h8) _).mono ?_
    rintro e w7 ⟨rfl,x7⟩;have y7:Ext wr w7:=aQu (show Ext wr (wr.alloc (.cells #[m.a.x,m.a.y,m.a.z,m.b.x,m.b.y,m.b.z,m.d.x,m.d.y,m.d.z,m.u,m.v,m.n] 155)) from X_) x7;have hX:=hid (x0.trans y7);have q4:=hid (y1.ext y7);have z0:=hid (x4.ext y7);go_wp2;go_roundw
    case rel=>exact ⟨j+1,by omega,by go_num,hX.out,q4.out,by rw [lW y3];unfold qS;rw [if_neg h8,List.append_nil];exact z0.out⟩
    case measure=>simp [intOf];omega
  ·obtain rfl:j=M.length:=by omega
   go_wp2;go_ret;refine ⟨_,rfl,?_,XW.trans x0⟩;rw [<-aD5];exact aF.low x4 (by have:=Z3.out;omega)
theorem zN (s:Scn) (lo hi h0:Nat) (v cv av:Value) (k:Nat) (p:Smp) (w:World) (hv:s.R lo hi w v) (hh:hi<=w.heap.size) (ho:s.Ok) (hk:k<s.m) (hp:p.okB s.c=true) (hd:yC s h0 w cv av) :
  Calls aQt 55 #[v,.agg #[cv,av],(k:Nat),.agg #[p.x,p.y,p.t,p.lx,p.ly]] w fun e w'=>∃r,e = .returned r/\aF aP.cs w.heap.size 95 5 w' r (s.hits k p)/\Ext w w':=by
 obtain ⟨q,n,-,-,h3,h4,h5,-,-⟩:=ho.at hk;have h1:=ho.shade hk;rw [h3,aRh] at h1
 have eh:tN s.c (aY (s.st k) (s.en k) p.t) n p (k:Nat) (s.shade k).1 (s.shade k).2=s.hits k p:=by unfold Scn.hits;rw [h3,aRh]
 rw [<-eh];exact aCp s lo hi h0 v cv av k p n _ _ w hv hh hk ho.m h3 ⟨h4,h5⟩ hp hd h1.1 h1.2 rfl rfl
theorem yD (lo:Nat) (v:Value) (fs:List aP) (w:World) (hv:aF aP.cs lo 95 5 w v fs) :
  R_ 35 #[v] w (.int .i64 (rA fs)):=by
 have HV:=hid hv;obtain ⟨a,cap,rfl,h5⟩:=hv.form;clear hv;go_enter func35,ntmps35;go_wp2_with fail
 go_loopw [3,4,10] (fun x y i wr=>∃(k:Nat) (s t:Int),k<=fs.length/\i = .int .i64 (k:Nat)/\x = .int .i64 s/\y = .int .i64 t/\mT (fs.take k)=(s,t)/\Ext w wr) (fun _ _ i _=>fs.length - (intOf i).toNat)
 case atStart=>exact ⟨0,0,65536,by omega,rfl,rfl,rfl,by rw [List.take_zero];rfl,aQy _⟩
 case round=>
  obtain ⟨k,s,t,hk,rfl,rfl,rfl,hl,hx⟩:=hrel;have HX:=hid hx;have hb:=aC0 (fs.take k);rw [hl] at hb;simp only at hb;have HL:=hid hl
  rcases aRy k fs.length with hlt|hge
  ·obtain ⟨f,hf⟩:∃f,fs[k]?=some f:=⟨_,aQ0 hlt⟩
   obtain ⟨g,h3,he,-,h7,h4,h6,-,h0⟩:=aF.at (aF.ext HV.out hx) (fun _=>rfl) hf;simp only [aRi,true_and] at he;obtain ⟨rfl,rfl⟩:=he;have c0:=h0 0 (by decide);have c1:=h0 1 (by decide);have c2:=h0 2 (by decide);have c3:=h0 3 (by decide);have c4:=h0 4 (by decide);simp only [aP.cs,aSa,aQm,aQn] at c0 c1 c2 c3 c4;have HF:=hid hf
   obtain ⟨ca,h1⟩:∃n,aO f.al 0 256=n:=⟨_,rfl⟩
   obtain ⟨cc,h2⟩:∃n,aO f.col 0 256=n:=⟨_,rfl⟩
   have ba:=lI f.al;have bc:=lI f.col;rw [h1] at ba;rw [h2] at bc
   obtain ⟨p,hp⟩:∃n,t*ca=n:=⟨_,rfl⟩
   have bp:0<=p/\p<=t*256:=hp▸⟨aR6 hb.2.1 ba.1,aS1 ba.2 hb.2.1⟩
   obtain ⟨q,hq⟩:∃n,p / 256=n:=⟨_,rfl⟩
   have bq:0<=q/\q<=t:=by omega
   obtain ⟨u,hu⟩:∃n,q*cc=n:=⟨_,rfl⟩
   have bu:0<=u/\u<=q*256:=hu▸⟨aR6 bq.1 bc.1,aS1 bc.2 bq.1⟩;have HN:=hid (aAq (p:=p) (q:=q) (u:=u) HF.out HL.out (by rw [h1];exact hp) hq (by rw [h2];exact hu));have HA:=hid h1;have HC:=hid h2
   have i1 : -9223372036854775808<=p/\p<=9223372036854775807:=by omega
   have i2 : -9223372036854775808<=u/\u<=9223372036854775807:=by omega
   clear hl hx h0 hf h1 h2;go_wp2_with (go_at_call 77;with_reducible first|(refine z_ (cP HA.out _) ?_)|(refine z_ (cP HC.out _) ?_));go_roundw
   case rel=>exact ⟨k+1,s+u,t - q,by omega,by go_num,by go_num,by go_num,HN.out,aQu HX.out X_⟩
   case measure=>simp [intOf];omega
  ·obtain rfl:k=fs.length:=by omega
   have hr:s / 65536=rA fs:=by
    unfold rA;rw [aRo] at hl;rw [hl]
   have HR:=hid hr;clear hl hx;go_wp2;go_ret;exact ⟨cK HR.out,HX.out⟩
theorem zP (a b:aP) (w:World) :
  R_ 173 #[.agg #[a.d,a.s,a.c,a.col,a.al],.agg #[b.d,b.s,b.c,b.col,b.al]] w (.bool (a.lt b)):=by
 obtain ⟨d1,s1,c1,k1,l1⟩:=a;obtain ⟨d2,s2,c2,k2,l2⟩:=b;unfold aP.lt;simp only
 by_cases h0:d1=d2
 ·subst h0
  by_cases h1:s1=s2
  ·subst h1
   go_enter func173,ntmps173;go_wp2;go_ret;exact ⟨by simp,X_⟩
  ·go_enter func173,ntmps173
   go_wp2;go_ret;exact ⟨by simp [h1],X_⟩
 ·go_enter func173,ntmps173
  go_wp2;go_ret;exact ⟨by simp [h0],X_⟩
theorem pY {d1 s1 c1 k1 l1 d2 s2 c2 k2 l2:Int} {r:Bool} (h:(aP.mk d1 s1 c1 k1 l1).lt ⟨d2,s2,c2,k2,l2⟩=r) (w:World) :
  R_ 173 #[.agg #[d1,s1,c1,k1,l1],.agg #[d2,s2,c2,k2,l2]] w (.bool r):=h▸zP _ _ w
theorem aP.one (y:aP):∀u∈y.cs,u.oneCell'=true:=by
 intro u hu;simp only [aP.cs,List.mem_cons,List.not_mem_nil,or_false] at hu
 rcases hu with rfl|rfl|rfl|rfl|rfl <;> rfl
theorem Rd.cut {α : Type} {cs : α->List Value} {a:Option Addr} {c:Nat} {ys:List α} (hc:∀x,(cs x).length=sz) (h:Rd cs lo hi w (.slice a ys.length c) ys) (hj:j<=ys.length) :
  Rd cs lo hi w (.slice a j c) (ys.take j):=by
 obtain ⟨ad,c',e,h2,h3,h4,h5⟩:=h;simp only [aRi,true_and] at e;obtain ⟨rfl,rfl⟩:=e;refine ⟨a,c,by rw [aRf,aS6 hj],by rw [aRf];omega,h3,h4,?_⟩
 rcases h5 with rfl|⟨b,off,rfl,l1,l2,hcell⟩
 ·exact .inl (by simp)
 ·refine .inr ⟨b,off,rfl,l1,l2,fun q u hq=>hcell q u ?_⟩
  rw [<-aUt j ys,aR1];rw [aR2 (aQq.1 hq).1];exact hq
theorem Rd.drop {α : Type} {cs : α->List Value} {c:Nat} {ys:List α} (hc:∀x,(cs x).length=sz) (h:Rd cs lo hi w (.slice (some ⟨b,o,none⟩) ys.length c) ys) (hj:j<=ys.length) :
  Rd cs lo hi w (.slice (some ⟨b,o+j*sz,none⟩) (ys.length - j) (c - j)) (ys.drop j):=by
 obtain ⟨ad,c',e,h2,h3,h4,h5⟩:=h;simp only [aRi,true_and] at e;obtain ⟨rfl,rfl⟩:=e;refine ⟨some ⟨b,o+j*sz,none⟩,c - j,by rw [aTl],by rw [aTl];omega,by omega,(fun e=>nomatch e),?_⟩
 rcases h5 with rfl|⟨b',off,e,l1,l2,hcell⟩
 ·exact .inl (by simp)
 ·simp only [aQr,Addr.mk.injEq,and_true] at e
  obtain ⟨rfl,rfl⟩:=e;refine .inr ⟨b,o+j*sz,rfl,l1,l2,fun q u hq=>?_⟩
  have hl:(ys.take j).length=j:=by rw [aRf,aS6 hj]
  rw [aSg];refine hcell (j*sz+q) u ?_;rw [<-aUt j ys,aR1,aRs (by rw [gI hc,hl];omega),gI hc,hl,Nat.add_sub_cancel_left];exact hq
theorem Rd.none0 {α : Type} (cs : α->List Value) (lo hi:Nat) (w:World) (a:Option Addr) (c:Nat) (hc:c<=9223372036854775807) (h:a=none->c=0):Rd cs lo hi w (.slice a 0 c) ([]:List α):=⟨a,c,rfl,by simp,hc,h,.inl rfl⟩
theorem aEq (lo:Nat) (v:Value) (l:List aP) (x:aP) (w:World) (ho:aF aP.cs lo 95 5 w v l) (hl:l.length<=100000) :
  Calls aQt 111 #[v,.agg #[x.d,x.s,x.c,x.col,x.al]] w fun e w'=>∃r,e = .returned r/\aF aP.cs w.heap.size 95 5 w' r (sM x l)/\Ext w w':=by
 have x0:Ext w (w.alloc (.cells #[x.d,x.s,x.c,x.col,x.al] 95)):=X_;have hB:=aQx w 95 [x.d,x.s,x.c,x.col,x.al]
 obtain ⟨W0,x2⟩:∃W0,w.alloc (.cells #[x.d,x.s,x.c,x.col,x.al] 95)=W0:=⟨_,rfl⟩
 rw [x2] at x0
 have hB:Blk W0 w.heap.size 95 [x.d,x.s,x.c,x.col,x.al]:=by rw [<-x2];exact hB
 have hv:=ho.rd (fun _=>rfl)
 obtain ⟨hi,z1⟩:∃n,w.heap.size=n:=⟨_,rfl⟩
 rw [z1] at hv;have HV:=hid (hv.ext (by omega) x0);have HH:=hid (show hi<=W0.heap.size by have:=x0.size;omega);have q1:=hid x0;have HB:=hid hB;have z6:=hid x2;have HL:=hid hl
 obtain ⟨p,hp⟩:∃p,fA x l=p:=⟨_,rfl⟩
 have q7:p<=l.length:=hp▸zZ x l;have q8:∀k,k<p->∃hk:k<l.length,x.lt l[k]=false:=fun k hk=>aAa (hp.symm▸hk)
 have q6:∀f,l[p]?=some f->x.lt f=true:=fun f hf=>by
  obtain ⟨h1,h2⟩:=aQq.1 hf;subst h2;subst hp;exact aAb h1
 have q4:sM x l=l.take p++x::l.drop p:=by rw [<-hp];exact aG2 x l
 have z0:=hid q8;have x9:=hid q6;have x3:=hid q4
 have h7:(v = .slice none 0 0/\l.length=0)\/∃g cap,v = .slice (some ⟨g,0,none⟩) l.length cap:=by
  rcases ho.2 with ⟨h1,h4⟩|⟨g,cap,cur,h1,_⟩
  ·exact .inl ⟨h1,h4⟩
  ·exact .inr ⟨g,cap,h1⟩
 obtain ⟨a,cap,rfl,z7,y0,-⟩:=hv.form;have z2:=hid h7;clear q8 q6 q4 hp x0 hB x2 hv hl ho h7 z1;go_enter func111,ntmps111
 go_upto_block 0 with fail
 rw [z6]
 go_cut [5] from 7 to 35 (fun i wx=>i = .int .i64 (p:Nat)/\Ext W0 wx)
 case first=>
  go_wp2_with fail
  go_loopw [5] (fun i wr=>∃k:Nat,k<=p/\i = .int .i64 (k:Nat)/\Ext W0 wr) (fun i _=>l.length - (intOf i).toNat)
  case atStart=>exact ⟨0,by omega,rfl,aQy _⟩
  case round=>
   obtain ⟨k,hk,rfl,hx⟩:=hrel;have HX:=hid hx;have h6:=hid (HB.ext hx);have b:=h6.lt;obtain ⟨b0,b1,b2,b3,b4⟩:=h6.q5;have HR:=hid (HV.ext HH hx);have zw:=hx.size;clear hx
   rcases aRy k l.length with hlt|hge
   ·obtain ⟨f,hf⟩:∃f,l[k]?=some f:=⟨_,aQ0 hlt⟩
    obtain ⟨g,y2,rfl,-,gl,h5⟩:=Rd.at (sz:=5) (fun _=>rfl) HR hf;have d0:=h5 0 (by decide);have d1:=h5 1 (by decide);have d2:=h5 2 (by decide);have d3:=h5 3 (by decide);have d4:=h5 4 (by decide);simp only [aP.cs,aSa,aQm,aQn] at d0 d1 d2 d3 d4
    obtain ⟨r,hr⟩:∃r,x.lt f=r:=⟨_,rfl⟩
    have q9:=hid hr;have HF:=hid hf;have z9:decide ((k:Int)<(l.length:Int))=true:=decide_eq_true (by omega)
    have gw:g<wr.heap.size:=by have:=HH.out;omega
    clear h5 hr hf
    rcases aRy k p with hkp|hkp
    ·obtain rfl:r=false:=by
      obtain ⟨z8,hq⟩:=z0 k hkp
      have e1:l[k]=f:=by have:=HF.out;rw [aQ0 z8] at this;exact aSm this
      rw [e1] at hq;exact q9.symm.trans hq
     go_upto_region 2 with fail;refine aA [([0,1,2,3,4,5,6,7,8,9],10),([11],12)] 99 wr.heap.size (by kernel_rfl) (by kernel_rfl) ?_;refine st_ fun K hK=>?_;go_wp2_with fail;refine r_ (pY q9 _) fun w1 x1=>?_;have y1:Ext wr w1:=aQu (aRr (aQy _)) x1;go_wp2_with fail;refine k_ hK ?_;clear hK K;refine st_ fun K hK=>?_;go_wp2_with fail;go_wp2_with fail;refine k_ hK ?_;clear hK K;refine aC ?_;have X1:=hid (HX.trans y1);go_wp2;go_roundw
     case rel=>exact ⟨k+1,by omega,by go_num,X1⟩
     case measure=>simp [intOf];omega
    ·obtain rfl:k=p:=by omega
     obtain rfl:r=true:=by
      have:=x9.out f HF;exact q9.symm.trans this
     go_upto_region 2 with fail;refine aA [([0,1,2,3,4,5,6,7,8,9],10),([11],12)] 99 wr.heap.size (by kernel_rfl) (by kernel_rfl) ?_;refine st_ fun K hK=>?_;go_wp2_with fail;refine r_ (pY q9 _) fun w1 x1=>?_;have y1:Ext wr w1:=aQu (aRr (aQy _)) x1;go_wp2_with fail;refine k_ hK ?_;clear hK K;refine st_ fun K hK=>?_;go_wp2_with fail;go_wp2_with fail;refine k_ hK ?_;clear hK K;refine aC ?_;have X1:=hid (HX.trans y1);go_wp2
     go_meet
     exact ⟨rfl,X1⟩
   ·obtain rfl:k=p:=by omega
    obtain rfl:k=l.length:=by omega
    have z9:decide ((l.length:Int)<(l.length:Int))=false:=decide_eq_false (by omega);have y1:Ext wr wr.drew:=aRr (aQy _);go_upto_region 2 with fail;refine aA [([0,1,2,3,4,5,6,7,8,9],10),([11],12)] 99 wr.heap.size (by kernel_rfl) (by kernel_rfl) ?_;refine st_ fun K hK=>?_;go_wp2_with fail;go_wp2_with fail;refine k_ hK ?_;clear hK K;refine st_ fun K hK=>?_;go_wp2_with fail;go_wp2_with fail;refine k_ hK ?_;clear hK K;refine aC ?_;go_wp2
    go_meet
    exact ⟨rfl,HX.trans y1⟩
 case rest=>
  obtain ⟨rfl,hx⟩:=hcut;have HX:=hid hx;have h6:=hid (HB.ext hx);have b:=h6.lt;obtain ⟨b0,b1,b2,b3,b4⟩:=h6.q5;have HR:=hid (HV.ext HH hx);have HC:=hid (HR.cut (sz:=5) (fun _=>rfl) q7);have zw:=hx.size;clear hx;have xa:Ext wc (wc.alloc (.cells #[] 95)):=X_;have HF:=hid (aF.freshC (cs:=aP.cs) (sz:=5) (show W0.heap.size<=wc.heap.size from zw) (aQx wc 95 []));have x8:=hid (show (l.take p).length<=100000 by rw [aRf];have:=HL.out;omega);go_upto_region 5 with (at_builtin;refine cR aP.cs 95 5 40 _ _ rfl _ _ 48 rfl underlying48 iD rfl (by decide) (by decide) (fun _=>rfl) aP.one W0.heap.size (.slice (some ⟨wc.heap.size,0,none⟩) 0 0) [] rfl HF lo hi (.slice a p cap) (l.take p) rfl (HC.ext (by have:=HH.out;omega) xa) (by have:=x8.out;simp only [aSx];omega) (by simp;omega) ?_;intro v4 w4 hown4 hg4);rw [List.nil_append] at hown4;obtain ⟨va,vc,rfl,-⟩:=aF.form hown4;have X4:Ext W0 w4:=aRz (HX.trans xa) hg4 (fun k e=>by simp only [Value.ownBlock,aQr] at e;omega);have x6:=hid X4;have x5:=hid hown4;have z4:=X4.size;clear hown4 hg4 xa X4 h6 b b0 b1 b2 b3 b4 HC HF HR HX;have h6:=hid (HB.ext x6);have b:=h6.lt;obtain ⟨b0,b1,b2,b3,b4⟩:=h6.q5;have h9:=hid (aQx w4 95 [x.d,x.s,x.c,x.col,x.al]);have xb:Ext w4 (w4.alloc (.cells #[x.d,x.s,x.c,x.col,x.al] 95)):=X_
  go_upto_region 6 with (at_builtin;refine iE _ rfl _ _ rfl W0.heap.size _ _ rfl (x5.ext xb) x w4.heap.size rfl (fun q hq=>by
       rcases (show q=0\/q=1\/q=2\/q=3\/q=4 by omega) with rfl|rfl|rfl|rfl|rfl
       ·exact h9.cell 0 rfl
       ·exact h9.cell 1 rfl
       ·exact h9.cell 2 rfl
       ·exact h9.cell 3 rfl
       ·exact h9.cell 4 rfl) (by have:=x8.out;omega) (by simp;omega) ?_;intro v5 w5 hown5 hg5)
  have h8:=aF.rowE (x5.ext xb);have X5:Ext W0 w5:=aRz (x6.trans xb) hg5 (fun k e=>(h8 k e).1);obtain ⟨vb,vd,rfl,-⟩:=aF.form hown5;have x7:=hid X5;have q0:=hid hown5;have z5:=X5.size;have z3:=hid (HV.ext HH X5);have x4:=hid (show ((l.take p)++[x]).length+(l.drop p).length<=10000000 by rw [aRg,aRf,aTl];have:=HL.out;simp;omega);clear hown5 hg5 xb X5 h6 b b0 b1 b2 b3 b4 h9 h8 x5 x6
  rcases z2 with ⟨e,h0⟩|⟨g,cap',e⟩
  ·simp only [aRi] at e
   obtain ⟨rfl,-,rfl⟩:=e
   obtain rfl:p=0:=by omega
   obtain rfl:l=[]:=List.length_eq_zero_iff.1 h0;have HD:=hid (show Rd aP.cs lo hi w5 (.slice none 0 0) (([]:List aP).drop 0) from Rd.nil _ _ _ _);clear z0 x9;go_wp2_with (at_builtin;refine cR aP.cs 95 5 40 _ _ rfl _ _ 48 rfl underlying48 iD rfl (by decide) (by decide) (fun _=>rfl) aP.one W0.heap.size (.slice vb (([]:List aP).take 0++[x]).length vd) (([]:List aP).take 0++[x]) rfl q0 lo hi (.slice none 0 0) (([]:List aP).drop 0) rfl HD x4 (by omega) ?_;intro v6 w6 hown6 hg6);have h3:=aF.rowE q0;have X6:Ext W0 w6:=aRz x7 hg6 (fun k e=>(h3 k e).1);rw [aRp,aW3,<-x3] at hown6;have q2:=hid hown6;have q3:=hid (q1.trans X6);clear hown6 hg6 h3 X6;go_wp2;go_ret;exact ⟨v6,rfl,q2.low q1.size,q3⟩
  ·simp only [aRi,true_and] at e
   obtain ⟨rfl,rfl⟩:=e
   rcases aRy p cap with hpc|hpc
   ·have HD:=z3.drop (sz:=5) (fun _=>rfl) q7
    rw [aRl] at HD;replace HD:=hid HD;go_wp2_with (at_builtin;refine cR aP.cs 95 5 40 _ _ rfl _ _ 48 rfl underlying48 iD rfl (by decide) (by decide) (fun _=>rfl) aP.one W0.heap.size (.slice vb (l.take p++[x]).length vd) (l.take p++[x]) rfl q0 lo hi (.slice (some ⟨g,p*5,none⟩) (l.length - p) (cap - p)) (l.drop p) rfl HD x4 (by omega) ?_;intro v6 w6 hown6 hg6);have h3:=aF.rowE q0;have X6:Ext W0 w6:=aRz x7 hg6 (fun k e=>(h3 k e).1);rw [aRp,aW3,<-x3] at hown6;have q2:=hid hown6;have q3:=hid (q1.trans X6);clear hown6 hg6 h3 X6;go_wp2;go_ret;exact ⟨v6,rfl,q2.low q1.size,q3⟩
   ·obtain rfl:p=cap:=by omega
    obtain rfl:p=l.length:=by omega
    have HD:=hid (show Rd aP.cs lo hi w5 (.slice (some ⟨g,0,none⟩) 0 0) (l.drop l.length) from by rw [List.drop_length];exact Rd.none0 _ _ _ _ _ _ (by omega) (fun e=>nomatch e));go_wp2_with (at_builtin;refine cR aP.cs 95 5 40 _ _ rfl _ _ 48 rfl underlying48 iD rfl (by decide) (by decide) (fun _=>rfl) aP.one W0.heap.size (.slice vb (l.take l.length++[x]).length vd) (l.take l.length++[x]) rfl q0 lo hi (.slice (some ⟨g,0,none⟩) 0 0) (l.drop l.length) rfl HD x4 (by omega) ?_;intro v6 w6 hown6 hg6);have h3:=aF.rowE q0;have X6:Ext W0 w6:=aRz x7 hg6 (fun k e=>(h3 k e).1);rw [aRp,aW3,<-x3] at hown6;have q2:=hid hown6;have q3:=hid (q1.trans X6);clear hown6 hg6 h3 X6;go_wp2;go_ret;exact ⟨v6,rfl,q2.low q1.size,q3⟩
theorem aLg {m:Int}:inB (bI x 16) 0 (m - 1)=inB x 0 (m*16 - 1):=by
 have e:bI x 16=x / 16:=rfl;rw [Bool.eq_iff_iff,aG,aG,e];omega
theorem aCq (c:Cam) (x y:Int) (hx:I64 x) (hy:I64 y) (w:World) :
  Calls aQt 147 #[.agg c,x,y] w fun e w'=>∃i j:Int,e = .returned (.tuple #[i,j,.bool (uO c x y)])/\Ext w w':=by
 have HX:=hid hx;have HY:=hid hy
 obtain ⟨i,hi⟩:∃i,bI x 16=i:=⟨_,rfl⟩
 obtain ⟨j,hj⟩:∃j,bI y 16=j:=⟨_,rfl⟩
 have HI:=hid hi;have HJ:=hid hj;have B0:=hid (aQx w 35 c);have X0:=hid (show Ext w (w.alloc (.cells c 35)) from X_)
 cases hb:c.okB
 ·have hp:uO c x y=false:=by unfold uO;rw [hb];rfl
  rw [hp];have HB:=hid hb;clear hx hy hi hj hb hp;go_enter func147,ntmps147;go_wp2_with fail;refine z_ (aT HX HI _) ?_;go_wp2_with fail;refine z_ (aT HY HJ _) ?_;go_wp2_with fail;refine r_ (aN HB _) fun w1 x1=>?_;go_wp2;exact bodyPost_ret (v:=.tuple #[(),(),.bool false]) (by simp [results,results147,go_sem, *]) rfl ⟨_,_,rfl,X0.trans x1⟩
 ·have hk:=Cam.okB_iff.1 hb
  have k1:=hk.w;have k2:=hk.h;have u1:wrap64 (c.w - 1)=c.w - 1:=aD (by omega) (by omega);have u2:wrap64 (c.h - 1)=c.h - 1:=aD (by omega) (by omega)
  obtain ⟨b1,h1⟩:∃b,inB i 0 (c.w - 1)=b:=⟨_,rfl⟩
  obtain ⟨b2,h2⟩:∃b,inB j 0 (c.h - 1)=b:=⟨_,rfl⟩
  have H1:=hid h1;have H2:=hid h2
  have hp:uO c x y=(b1&&b2):=by
   unfold uO;rw [hb,<-aLg,<-aLg,hi,hj,h1,h2]
   rfl
  rw [hp];have HB:=hid hb;have U1:=hid u1;have U2:=hid u2;clear hx hy hi hj hb hp h1 h2 hk k1 k2 u1 u2;go_enter func147,ntmps147;go_wp2_with fail;refine z_ (aT HX HI _) ?_;go_wp2_with fail;refine z_ (aT HY HJ _) ?_;go_wp2_with fail;refine r_ (aN HB _) fun w1 x1=>?_;replace B0:=hid (B0.ext x1);replace X0:=hid (X0.trans x1);have p:=B0.lt;obtain ⟨p0,p1,p2,p3,p4,p5,p6⟩:=B0.q7;have u1:=U1.out;have u2:=U2.out;go_wp2_with fail;refine z_ (aE H1 _) ?_
  cases b1
  ·go_wp2
   exact bodyPost_ret (v:=.tuple #[(),(),.bool false]) (by simp [results,results147,go_sem, *]) rfl ⟨_,_,rfl,X0⟩
  ·go_wp2_with fail
   refine z_ (aE H2 _) ?_
   cases b2
   ·go_wp2
    exact bodyPost_ret (v:=.tuple #[(),(),.bool false]) (by simp [results,results147,go_sem, *]) rfl ⟨_,_,rfl,X0⟩
   ·go_wp2
    exact bodyPost_ret (v:=.tuple #[i,j,.bool true]) (by simp [results,results147,go_sem, *]) rfl ⟨_,_,rfl,X0⟩
theorem qV (c:Cam) (p:Smp) (hx:I64 p.x) (hy:I64 p.y) (w:World) :
  R_ 97 #[.agg c,.agg #[p.x,p.y,p.t,p.lx,p.ly]] w (.bool (p.okB c)):=by
 have HX:=hid hx;have HY:=hid hy
 obtain ⟨b,hb⟩:∃b,uO c p.x p.y=b:=⟨_,rfl⟩
 obtain ⟨b1,h1⟩:∃b,inB p.t 0 15=b:=⟨_,rfl⟩
 obtain ⟨b2,h2⟩:∃b,inB p.lx (-16) 16=b:=⟨_,rfl⟩
 obtain ⟨b3,h3⟩:∃b,inB p.ly (-16) 16=b:=⟨_,rfl⟩
 have hr:p.okB c=(b&&b1&&b2&&b3):=by rw [Smp.okB_eq,hb,h1,h2,h3]
 rw [hr];have HB:=hid hb;have H1:=hid h1;have H2:=hid h2;have H3:=hid h3;have B1:=hid (show Blk ((w.alloc (.cells c 35)).alloc (.cells #[p.x,p.y,p.t,p.lx,p.ly] 42)) (w.heap.size+1) 42 [p.x,p.y,p.t,p.lx,p.ly] from by have q:=aQx (w.alloc (.cells c 35)) 42 [p.x,p.y,p.t,p.lx,p.ly];simp only [aQp] at q;exact q);have X0:=hid (show Ext w ((w.alloc (.cells c 35)).alloc (.cells #[p.x,p.y,p.t,p.lx,p.ly] 42)) from X_);clear hx hy hb h1 h2 h3 hr;go_enter func97,ntmps97;go_wp2_with fail;refine (aCq c p.x p.y HX HY _).mono ?_;rintro e w1 ⟨i,j,rfl,x1⟩;rw [HB];replace B1:=hid (B1.ext x1);replace X0:=hid (X0.trans x1);have q:=B1.lt;obtain ⟨q0,q1,q2,q3,q4⟩:=B1.q5
 cases b
 ·go_wp2
  go_ret;exact ⟨rfl,X0⟩
 ·go_wp2_with fail
  refine z_ (aE H1 _) ?_
  cases b1
  ·go_wp2
   go_ret;exact ⟨rfl,X0⟩
  ·go_wp2_with fail
   refine z_ (aE H2 _) ?_
   cases b2
   ·go_wp2
    go_ret;exact ⟨rfl,X0⟩
   ·go_wp2_with fail
    refine z_ (aE H3 _) ?_;go_wp2;go_ret;exact ⟨rfl,X0⟩
theorem yC.forms {s:Scn} (r:yC s h w cv av):∃xa xc ya yc,cv = .slice xa s.m xc/\av = .slice ya s.m yc:=by
 obtain ⟨hh,⟨us,h1,h2,h3⟩,us2,k1,k2,k3⟩:=r;obtain ⟨ad,cc,rfl,-,-,-⟩:=h2.form;obtain ⟨h0,ca,rfl,-,-,-⟩:=k2.form;exact ⟨ad,cc,h0,ca,by rw [h1],by rw [k1]⟩
theorem aEr (s:Scn) (lo hi h0:Nat) (v cv av:Value) (p:Smp) (w:World) (hv:s.R lo hi w v) (hh:hi<=w.heap.size) (ho:s.Ok) (hp:p.okB s.c=true) (hd:yC s h0 w cv av) :
  Calls aQt 64 #[v,.agg #[cv,av],.agg #[p.x,p.y,p.t,p.lx,p.ly]] w fun e w'=>∃r,e = .returned r/\aF aP.cs w.heap.size 95 5 w' r (s.seen p)/\Ext w w':=by
 have HV:=hid hv;have HD:=hid hd;have a5:=ho.m;obtain ⟨a1,c1,a2,c2,a3,c3,rfl⟩:=hv.formV;obtain ⟨xa,xc,ya,yc,rfl,rfl⟩:=hd.forms;have HO:=hid ho;have HP:=hid hp;clear hv ho hp hd;have x0:Ext w (((w.alloc (.cells (sA_ s a1 c1 a2 c2 a3 c3) 40)).alloc (.cells #[.slice xa s.m xc,.slice ya s.m yc] 78)).alloc (.cells #[p.x,p.y,p.t,p.lx,p.ly] 42)):=X_;have bS:=(aQx w 40 (sL_ s a1 c1 a2 c2 a3 c3)).ext (show Ext _ (((w.alloc (.cells (sA_ s a1 c1 a2 c2 a3 c3) 40)).alloc (.cells #[.slice xa s.m xc,.slice ya s.m yc] 78)).alloc (.cells #[p.x,p.y,p.t,p.lx,p.ly] 42)) from X_);have bD:=(aQx (w.alloc (.cells (sA_ s a1 c1 a2 c2 a3 c3) 40)) 78 [.slice xa s.m xc,.slice ya s.m yc]).ext (show Ext _ (((w.alloc (.cells (sA_ s a1 c1 a2 c2 a3 c3) 40)).alloc (.cells #[.slice xa s.m xc,.slice ya s.m yc] 78)).alloc (.cells #[p.x,p.y,p.t,p.lx,p.ly] 42)) from X_);have bP:=(aQx ((w.alloc (.cells (sA_ s a1 c1 a2 c2 a3 c3) 40)).alloc (.cells #[.slice xa s.m xc,.slice ya s.m yc] 78)) 42 [p.x,p.y,p.t,p.lx,p.ly]).ext (show Ext _ (((w.alloc (.cells (sA_ s a1 c1 a2 c2 a3 c3) 40)).alloc (.cells #[.slice xa s.m xc,.slice ya s.m yc] 78)).alloc (.cells #[p.x,p.y,p.t,p.lx,p.ly] 42)) from X_)
 try simp only [aQp] at bS bD bP
 obtain ⟨W0,h9⟩:∃W0,(((w.alloc (.cells (sA_ s a1 c1 a2 c2 a3 c3) 40)).alloc (.cells #[.slice xa s.m xc,.slice ya s.m yc] 78)).alloc (.cells #[p.x,p.y,p.t,p.lx,p.ly] 42))=W0:=⟨_,rfl⟩
 rw [h9] at x0 bS bD bP;have q3:=hid x0;have x7:=hid h9;have z0:=bP.lt;have h8:=hid bS;have q7:=hid bD;have x4:=hid bP;clear x0 h9 bS bD bP;have o1:aF aP.cs W0.heap.size 95 5 (W0.alloc (.cells #[] 95)) (.slice (some ⟨W0.heap.size,0,none⟩) 0 0) []:=aF.fresh0 (aQo _) (aQx W0 95 []);have h5:=hid o1;have x1:Ext W0 (W0.alloc (.cells #[] 95)):=X_;have h6:=hid x1;clear o1 x1;go_enter func64,ntmps64;go_upto_region 1 with fail;rw [x7];have x8:=h8.cell 10 rfl;have ls:=h8.lt;go_wp2_with fail;clear x8 ls
 go_loopw [7,15] (fun u i wr=>∃k:Nat,k<=s.m/\i = .int .i64 (k:Nat)/\aF aP.cs W0.heap.size 95 5 wr u (s.seenTo p k)/\Ext W0 wr) (fun _ i _=>s.m - (intOf i).toNat)
 case atStart=>exact ⟨0,by omega,rfl,h5,h6⟩
 case round=>
  clear h5 h6
  obtain ⟨WA,rfl⟩:∃W,W=wr:=⟨_,rfl⟩
  obtain ⟨k,hk,rfl,h2,hx⟩:=hrel;have HX:=hid hx;have HR:=hid h2;have zr:=hx.size
  rcases aRy k s.m with hlt|hge
  ·have XW:=hid (q3.trans hx)
   have bq:=h8.ext HX;obtain ⟨z9,y0,y1,y2,y4,y5,y6,y7,y8,y9,q0,q1⟩:=bq.q12;have sl:=bq.lt;clear bq;have bq:=q7.ext HX;obtain ⟨x9,z1⟩:=bq.q2;have dl:=bq.lt;clear bq;have bq:=x4.ext HX;obtain ⟨z4,z5,z6,z7,z8⟩:=bq.q5;have pl:=bq.lt;clear bq;have z3:=HO.seenTo_le p (Nat.le_of_lt hlt)
   obtain ⟨F0,hF⟩:∃F,s.seenTo p k=F:=⟨_,rfl⟩
   rw [hF] at z3 h2;have HF:=hid hF;have x5:=hid h2;obtain ⟨oa,oc,rfl,-⟩:=aF.form h2;clear hx h2 hF HR;go_wp2_with fail;have CH:=zN s lo hi h0 _ _ _ k p WA (HV.ext hh XW) (aQw hh XW.size) HO hlt HP (HD.ext XW);refine CH.mono ?_;clear CH;rintro e w2 ⟨r,rfl,hr,x2⟩
   obtain ⟨L,hL⟩:∃L,s.hits k p=L:=⟨_,rfl⟩
   rw [hL] at hr;have HL:=hid hL;have q4:L.length<=128:=hL▸HO.out.hits_le p hlt;obtain ⟨ra,rc,rfl,-⟩:=hr.form;have X2:=hid x2;have h7:=hid hr;have zy:=x2.size;clear x2 hr hL;clear sl z9 y0 y1 y2 y4 y5 y6 y7 y8 y9 q0 q1 dl x9 z1 pl z4 z5 z6 z7 z8;go_wp2_with fail
   go_loopw [7,24] (fun u j wr=>∃jn:Nat,jn<=L.length/\j = .int .i64 (jn:Nat)/\aF aP.cs W0.heap.size 95 5 wr u (fK F0 (L.take jn))/\Ext w2 wr) (fun _ j _=>L.length - (intOf j).toNat)
   case atStart=>exact ⟨0,by omega,rfl,x5.ext X2,aQy _⟩
   case round=>
    obtain ⟨jn,hj,rfl,h3,h4⟩:=hrel;have h5:=hid h3;have h6:=hid h4;have zq:=h4.size;obtain ⟨ia,ic,rfl,-⟩:=aF.form h3
    rcases aRy jn L.length with hjl|hjl
    ·obtain ⟨f,hf⟩:∃f,L[jn]?=some f:=⟨_,aQ0 hjl⟩
     obtain ⟨g,a6,he,-,a4,z2,a0,-,h1⟩:=aF.at (h7.ext h4) (fun _=>rfl) hf;simp only [aRi,true_and] at he;obtain ⟨rfl,rfl⟩:=he;have d0:=h1 0 (by decide);have d1:=h1 1 (by decide);have d2:=h1 2 (by decide);have d3:=h1 3 (by decide);have d4:=h1 4 (by decide);simp only [aP.cs,aSa,aQm,aQn] at d0 d1 d2 d3 d4;have x6:=hid (uG (l:=F0) hf)
     have q6:(fK F0 (L.take jn)).length<=100000:=by
      rw [kJ,aRf];omega
     have q8:=hid q6
     obtain ⟨I0,hI⟩:∃I,fK F0 (L.take jn)=I:=⟨_,rfl⟩
     rw [hI] at h3;have HI:=hid hI;have q9:=hid h3;clear h1 hf h4 h3 q6 h5;rw [hI];clear hI;go_wp2_with fail;refine (aEq _ _ _ f _ (q9.ext (show Ext _ (wr.alloc (.cells #[f.d,f.s,f.c,f.col,f.al] 95)) from X_)) (HI.out▸q8.out)).mono ?_;rintro e w3 ⟨v3,rfl,o3,x3⟩;have y3:Ext wr w3:=aQu (show Ext wr (wr.alloc (.cells #[f.d,f.s,f.c,f.col,f.al] 95)) from X_) x3;have P1:=hid (o3.low (lo':=W0.heap.size) (by rw [aQp];omega));have P2:=hid (h6.trans y3);clear o3 x3 y3;go_wp2;go_roundw
     case rel=>exact ⟨jn+1,by omega,by go_num,by rw [x6,HI];exact P1,P2⟩
     case measure=>simp [intOf];omega
    ·obtain rfl:jn=L.length:=by omega
     have P1:=hid (show aF aP.cs W0.heap.size 95 5 wr (.slice ia (fK F0 (L.take L.length)).length ic) (s.seenTo p (k+1)) by
      rw [Scn.seenTo_succ,HF,HL];have:=h5.out;rw [aRo] at this ⊢
      exact this)
     have P2:=hid (HX.trans (X2.trans h4));clear h3 h4;go_wp2;go_roundw
     case rel=>exact ⟨k+1,by omega,by go_num,P1,P2⟩
     case measure=>simp [intOf];omega
  ·obtain rfl:k=s.m:=by omega
   have X2:=hid (q3.trans hx);have h7:=hid (HR.low (show w.heap.size<=W0.heap.size by omega));obtain ⟨oa,oc,rfl,-⟩:=aF.form h2;clear hx h2 HX;go_wp2;go_ret;exact ⟨_,rfl,h7,X2⟩
theorem aGw {s:Scn} {p:Smp} {b1 b2:Bool} (h1:s.okB=b1) (h2:p.okB s.c=b2) (lo hi:Nat) (v:Value) (w:World) (hv:s.R lo hi w v) (hh:hi<=w.heap.size) (hsm:s.small) (hx:I64 p.x) (hy:I64 p.y) :
  R_ 54 #[v,.agg #[p.x,p.y,p.t,p.lx,p.ly]] w (.bool (b1&&b2)):=by
 have HV:=hid hv;obtain ⟨a1,c1,a2,c2,a3,c3,rfl⟩:=hv.formV;have H1:=hid h1;have H2:=hid h2;have x7:=hid hsm;have HI:=hid (And.intro hx hy);clear hv h1 h2 hsm hx hy;have x0:Ext w ((w.alloc (.cells (sA_ s a1 c1 a2 c2 a3 c3) 40)).alloc (.cells #[p.x,p.y,p.t,p.lx,p.ly] 42)):=X_;have bS:=(aQx w 40 (sL_ s a1 c1 a2 c2 a3 c3)).ext (show Ext _ ((w.alloc (.cells (sA_ s a1 c1 a2 c2 a3 c3) 40)).alloc (.cells #[p.x,p.y,p.t,p.lx,p.ly] 42)) from X_);have bP:=(aQx (w.alloc (.cells (sA_ s a1 c1 a2 c2 a3 c3) 40)) 42 [p.x,p.y,p.t,p.lx,p.ly]).ext (show Ext _ ((w.alloc (.cells (sA_ s a1 c1 a2 c2 a3 c3) 40)).alloc (.cells #[p.x,p.y,p.t,p.lx,p.ly] 42)) from X_)
 try simp only [aQp] at bS bP
 obtain ⟨W0,h5⟩:∃W0,((w.alloc (.cells (sA_ s a1 c1 a2 c2 a3 c3) 40)).alloc (.cells #[p.x,p.y,p.t,p.lx,p.ly] 42))=W0:=⟨_,rfl⟩
 rw [h5] at x0 bS bP;have h4:=hid x0;have x8:=hid h5;have z0:=bP.lt;have x6:=hid bS;have x5:=hid bP;clear x0 h5 bS bP;go_enter func54,ntmps54;go_upto_region 1 with fail;rw [x8];have bq:=x6.ext (aQy _);obtain ⟨q1,q2,q3,q4,q6,q7,q8,q9,x1,x2,h0,h3⟩:=bq.q12;have sl:=bq.lt;clear bq;have bq:=x5.ext (aQy _);obtain ⟨h6,h7,h8,h9,q0⟩:=bq.q5;have pl:=bq.lt;clear bq;go_wp2_with fail;refine r_ (kF H1 lo hi _ _ (HV.ext hh h4) (aQw hh h4.size) x7) fun w3 x3=>?_;have X3:=hid x3;clear x3;clear sl q1 q2 q3 q4 q6 q7 q8 q9 x1 x2 h0 h3 pl h6 h7 h8 h9 q0;have bq:=x6.ext X3;obtain ⟨q1,q2,q3,q4,q6,q7,q8,q9,x1,x2,h0,h3⟩:=bq.q12;have sl:=bq.lt;clear bq;have bq:=x5.ext X3;obtain ⟨h6,h7,h8,h9,q0⟩:=bq.q5;have pl:=bq.lt;clear bq
 cases b1
 ·go_wp2
  go_ret;exact ⟨rfl,h4.trans X3⟩
 ·go_wp2_with fail
  refine (qV s.c p HI.1 HI.2 _).mono ?_;rw [H2];rintro e w4 ⟨rfl,x4⟩;have X4:=hid x4;clear x4;clear sl q1 q2 q3 q4 q6 q7 q8 q9 x1 x2 h0 h3 pl h6 h7 h8 h9 q0;go_wp2;go_ret;exact ⟨by cases b2 <;> rfl,h4.trans (X3.trans X4)⟩
open Classical in
noncomputable def Scn.frs (s:Scn) (p:Smp):List aP:=if (s.okB&&p.okB s.c)=true then s.seen p else []
theorem Scn.frs_cases {s:Scn} {p:Smp} {X:List aP} (h:s.frs p=X):(s.Ok/\p.okB s.c=true/\X=s.seen p)\/((s.okB&&p.okB s.c)=false/\X=[]):=by
 unfold Scn.frs at h
 split at h
 ·rename_i h1
  simp only [aQ4] at h1;exact .inl ⟨Scn.okB_iff.1 h1.1,h1.2,h.symm⟩
 ·rename_i h1
  exact .inr ⟨by simpa using h1,h.symm⟩
theorem oC (lo hi:Nat) (v:Value) (s:Scn) (p:Smp) (w:World) {X:List aP} (hX:s.frs p=X) (hv:s.R lo hi w v) (hh:hi<=w.heap.size) (hsm:s.small) (hx:I64 p.x) (hy:I64 p.y) :
  Calls aQt 23 #[v,.agg #[p.x,p.y,p.t,p.lx,p.ly]] w fun e w'=>∃r,e = .returned r/\aF aP.cs w.heap.size 95 5 w' r X/\Ext w w':=by
 have HV:=hid hv;obtain ⟨a1,c1,a2,c2,a3,c3,rfl⟩:=hv.formV;have h8:=hid hsm;have HI:=hid (And.intro hx hy);have HQ:=hid (Scn.frs_cases hX)
 obtain ⟨b,hb⟩:∃b,(s.okB&&p.okB s.c)=b:=⟨_,rfl⟩
 have HB:=hid hb;clear hv hsm hx hy hX hb;have x0:Ext w ((w.alloc (.cells (sA_ s a1 c1 a2 c2 a3 c3) 40)).alloc (.cells #[p.x,p.y,p.t,p.lx,p.ly] 42)):=X_;have bS:=(aQx w 40 (sL_ s a1 c1 a2 c2 a3 c3)).ext (show Ext _ ((w.alloc (.cells (sA_ s a1 c1 a2 c2 a3 c3) 40)).alloc (.cells #[p.x,p.y,p.t,p.lx,p.ly] 42)) from X_);have bP:=(aQx (w.alloc (.cells (sA_ s a1 c1 a2 c2 a3 c3) 40)) 42 [p.x,p.y,p.t,p.lx,p.ly]).ext (show Ext _ ((w.alloc (.cells (sA_ s a1 c1 a2 c2 a3 c3) 40)).alloc (.cells #[p.x,p.y,p.t,p.lx,p.ly] 42)) from X_)
 try simp only [aQp] at bS bP
 obtain ⟨W0,h5⟩:∃W0,((w.alloc (.cells (sA_ s a1 c1 a2 c2 a3 c3) 40)).alloc (.cells #[p.x,p.y,p.t,p.lx,p.ly] 42))=W0:=⟨_,rfl⟩
 rw [h5] at x0 bS bP;have h0:=hid x0;have z1:=hid h5;have z0:=bP.lt;have h7:=hid bS;have h6:=hid bP;clear x0 h5 bS bP;go_enter func23,ntmps23;go_upto_region 1 with fail;rw [z1];have bq:=h7.ext (aQy _);obtain ⟨q4,q6,q7,q8,q9,x1,x2,x4,x7,x8,h3,h4⟩:=bq.q12;have sl:=bq.lt;clear bq;have bq:=h6.ext (aQy _);obtain ⟨h9,q0,q1,q2,q3⟩:=bq.q5;have pl:=bq.lt;clear bq;go_wp2_with fail;have CH:=aGw (s:=s) (p:=p) rfl rfl lo hi _ W0 (HV.ext hh h0) (aQw hh h0.size) h8 HI.1 HI.2;rw [HB] at CH;refine CH.mono ?_;clear CH;rintro e w3 ⟨rfl,x3⟩;have X3:=hid x3;clear x3;clear sl q4 q6 q7 q8 q9 x1 x2 x4 x7 x8 h3 h4 pl h9 q0 q1 q2 q3;have bq:=h7.ext X3;obtain ⟨q4,q6,q7,q8,q9,x1,x2,x4,x7,x8,h3,h4⟩:=bq.q12;have sl:=bq.lt;clear bq;have bq:=h6.ext X3;obtain ⟨h9,q0,q1,q2,q3⟩:=bq.q5;have pl:=bq.lt;clear bq
 cases b
 ·have hX:X=[]:=by
   rcases HQ with ⟨h1,h2,-⟩|⟨-,h⟩
   ·have:=HB.out
    rw [Scn.okB_iff.2 h1,h2] at this;exact absurd this (by decide)
   ·exact h
  subst hX;go_wp2;go_ret;exact ⟨_,rfl,aF.nil _ _ _ _ _,h0.trans X3⟩
 ·have hX:s.Ok/\p.okB s.c=true/\X=s.seen p:=by
   rcases HQ with h|⟨h,-⟩
   ·exact h
   ·have:=HB.out
    rw [h] at this;exact absurd this (by decide)
  obtain ⟨ho,hp,rfl⟩:=hX;have HO:=hid ho;have HP:=hid hp;clear ho hp;go_upto_region 3 with fail;refine aA [([0,1,3],2),([],4),([],5)] 5 w3.heap.size (by kernel_rfl) (by kernel_rfl) ?_;refine st_ fun K hK=>?_;go_wp2_with fail;have xd:Ext w w3.drew:=h0.trans (X3.trans (aRr (aQy _)));refine (aLd s lo hi _ _ (HV.ext hh xd) (aQw hh xd.size) HO h8).mono ?_;rintro e w5 ⟨cv,av,rfl,hd,x5⟩;have y5:Ext w3 w5:=aQu (aRr (aQy _)) x5;have HD:=hid hd.rd;obtain ⟨xa,xc,ya,yc,rfl,rfl⟩:=hd.rd.forms;have X5:=hid (h0.trans (X3.trans y5));clear hd x5 xd;go_wp2_with fail;refine k_ hK ?_;clear hK K;refine st_ fun K hK=>?_;go_wp2_with fail;have CS:=aEr s lo hi _ _ _ _ p w5 (HV.ext hh X5) (aQw hh X5.size) HO HP HD;refine CS.mono ?_;clear CS;rintro e w6 ⟨q,rfl,O6,x6⟩;obtain ⟨ta,tc,rfl,tl⟩:=aF.form O6;have y6:=y5.trans x6;have X6:=hid (X5.trans x6);have x9:=hid O6;clear O6 x6 tl;go_wp2_with fail;refine k_ hK ?_;clear hK K y5 y6;refine st_ fun K hK=>?_;go_wp2_with fail;refine l_ hK ?_;clear hK K;refine aC ?_;go_wp2;go_ret;exact ⟨_,rfl,aF.low x9 X5.size,X6⟩
theorem tL (lo hi:Nat) (v:Value) (s:Scn) (p:Smp) (w:World) (hz:rA (s.frs p)=z) (hv:s.R lo hi w v) (hh:hi<=w.heap.size) (hsm:s.small) (hx:I64 p.x) (hy:I64 p.y) :
  R_ 10 #[v,.agg #[p.x,p.y,p.t,p.lx,p.ly]] w (.int .i64 z):=by
 have HV:=hid hv;obtain ⟨a1,c1,a2,c2,a3,c3,rfl⟩:=hv.formV;have h6:=hid hsm;have HI:=hid (And.intro hx hy);have HZ:=hid hz;clear hv hsm hx hy hz;have x0:Ext w ((w.alloc (.cells (sA_ s a1 c1 a2 c2 a3 c3) 40)).alloc (.cells #[p.x,p.y,p.t,p.lx,p.ly] 42)):=X_;have bS:=(aQx w 40 (sL_ s a1 c1 a2 c2 a3 c3)).ext (show Ext _ ((w.alloc (.cells (sA_ s a1 c1 a2 c2 a3 c3) 40)).alloc (.cells #[p.x,p.y,p.t,p.lx,p.ly] 42)) from X_);have bP:=(aQx (w.alloc (.cells (sA_ s a1 c1 a2 c2 a3 c3) 40)) 42 [p.x,p.y,p.t,p.lx,p.ly]).ext (show Ext _ ((w.alloc (.cells (sA_ s a1 c1 a2 c2 a3 c3) 40)).alloc (.cells #[p.x,p.y,p.t,p.lx,p.ly] 42)) from X_)
 try simp only [aQp] at bS bP
 obtain ⟨W0,h1⟩:∃W0,((w.alloc (.cells (sA_ s a1 c1 a2 c2 a3 c3) 40)).alloc (.cells #[p.x,p.y,p.t,p.lx,p.ly] 42))=W0:=⟨_,rfl⟩
 rw [h1] at x0 bS bP;have h0:=hid x0;have h7:=hid h1;have z0:=bP.lt;have h5:=hid bS;have h4:=hid bP;clear x0 h1 bS bP;go_enter func10,ntmps10;go_upto_region 1 with fail;rw [h7];have bq:=h5.ext (aQy _);obtain ⟨q3,q4,q6,q7,q8,q9,x1,x2,x5,x6,h2,h3⟩:=bq.q12;have sl:=bq.lt;clear bq;have bq:=h4.ext (aQy _);obtain ⟨h8,h9,q0,q1,q2⟩:=bq.q5;have pl:=bq.lt;clear bq;go_wp2_with fail;refine (oC lo hi _ s p W0 rfl (HV.ext hh h0) (aQw hh h0.size) h6 HI.1 HI.2).mono ?_;rintro e w3 ⟨r,rfl,hr,x3⟩;have X3:=hid (h0.trans x3);have HR:=hid hr;clear x3 hr;clear sl q3 q4 q6 q7 q8 q9 x1 x2 x5 x6 h2 h3 pl h8 h9 q0 q1 q2;go_wp2_with fail;refine r_ (yD _ _ _ _ HR) fun w4 x4=>?_;have X4:=hid (X3.trans x4);clear x4;go_wp2;go_ret;exact ⟨cK HZ,X4⟩
theorem pK (s:Scn) (lo hi:Nat) (v:Value) (p:Smp) (w:World) (hv:s.R lo hi w v) (hh:hi<=w.heap.size) (hsm:s.small) (hb:(s.okB&&p.okB s.c)=false) :
  R_ 24 #[v,.agg #[p.x,p.y,p.t,p.lx,p.ly]] w (.slice none 0 0):=by
 have HV:=hid hv;obtain ⟨a1,c1,a2,c2,a3,c3,rfl⟩:=hv.formV;have x6:=hid hsm;have HB:=hid hb
 obtain ⟨b1,x5⟩:∃b,s.okB=b:=⟨_,rfl⟩
 have H1:=hid x5;clear hv hsm hb x5;have x0:Ext w ((w.alloc (.cells (sA_ s a1 c1 a2 c2 a3 c3) 40)).alloc (.cells #[p.x,p.y,p.t,p.lx,p.ly] 42)):=X_;have bS:=(aQx w 40 (sL_ s a1 c1 a2 c2 a3 c3)).ext (show Ext _ ((w.alloc (.cells (sA_ s a1 c1 a2 c2 a3 c3) 40)).alloc (.cells #[p.x,p.y,p.t,p.lx,p.ly] 42)) from X_);have bP:=(aQx (w.alloc (.cells (sA_ s a1 c1 a2 c2 a3 c3) 40)) 42 [p.x,p.y,p.t,p.lx,p.ly]).ext (show Ext _ ((w.alloc (.cells (sA_ s a1 c1 a2 c2 a3 c3) 40)).alloc (.cells #[p.x,p.y,p.t,p.lx,p.ly] 42)) from X_)
 try simp only [aQp] at bS bP
 obtain ⟨W0,h3⟩:∃W0,((w.alloc (.cells (sA_ s a1 c1 a2 c2 a3 c3) 40)).alloc (.cells #[p.x,p.y,p.t,p.lx,p.ly] 42))=W0:=⟨_,rfl⟩
 rw [h3] at x0 bS bP;have h2:=hid x0;have x7:=hid h3;have z0:=bP.lt;have x2:=hid bS;have x1:=hid bP;clear x0 h3 bS bP;go_enter func24,ntmps24;go_upto_region 1 with fail;rw [x7];have bq:=x2.ext (aQy _);obtain ⟨h9,q0,q1,q2,q3,q4,q6,q7,q8,q9,h0,h1⟩:=bq.q12;have sl:=bq.lt;clear bq;have bq:=x1.ext (aQy _);obtain ⟨h4,h5,h6,h7,h8⟩:=bq.q5;have pl:=bq.lt;clear bq;go_wp2_with fail;have CH:=kE s lo hi _ _ (HV.ext hh h2) (aQw hh h2.size) x6;rw [H1] at CH;refine CH.mono ?_;clear CH;rintro e w3 ⟨rfl,x3⟩;have X3:=hid x3;clear x3;clear sl h9 q0 q1 q2 q3 q4 q6 q7 q8 q9 h0 h1 pl h4 h5 h6 h7 h8;have bq:=x2.ext X3;obtain ⟨h9,q0,q1,q2,q3,q4,q6,q7,q8,q9,h0,h1⟩:=bq.q12;have sl:=bq.lt;clear bq;have bq:=x1.ext X3;obtain ⟨h4,h5,h6,h7,h8⟩:=bq.q5;have pl:=bq.lt;clear bq
 cases b1
 ·go_wp2
  go_ret;exact ⟨rfl,h2.trans X3⟩
 ·have hp:p.okB s.c=false:=by
   have:=HB.out;rw [H1] at this;exact this
  have HP:=hid hp;clear hp;go_wp2_with fail;have CH:=jM s.c p w3;rw [HP] at CH;refine CH.mono ?_;clear CH;rintro e w4 ⟨rfl,x4⟩;have X4:=hid x4;clear x4;clear sl h9 q0 q1 q2 q3 q4 q6 q7 q8 q9 h0 h1 pl h4 h5 h6 h7 h8;go_wp2;go_ret;exact ⟨rfl,h2.trans (X3.trans X4)⟩
theorem oD (lo hi:Nat) (v:Value) (s:Scn) (p:Smp) (w:World) {X:List aP} (hX:s.frs p=X) (hv:s.R lo hi w v) (hh:hi<=w.heap.size) (hsm:s.small) :
  Calls aQt 24 #[v,.agg #[p.x,p.y,p.t,p.lx,p.ly]] w fun e w'=>∃r,e = .returned r/\aF aP.cs w.heap.size 95 5 w' r X/\Ext w w':=by
 rcases Scn.frs_cases hX with ⟨ho,hp,rfl⟩|⟨hb,rfl⟩
 ·exact nZ s lo hi v p w hv hh ho hsm hp
 ·refine (pK s lo hi v p w hv hh hsm hb).mono ?_
  rintro e w' ⟨rfl,x⟩;exact ⟨_,rfl,aF.nil _ _ _ _ _,x⟩
theorem tM (lo hi:Nat) (v:Value) (s:Scn) (p:Smp) (w:World) (hz:rA (s.frs p)=z) (hv:s.R lo hi w v) (hh:hi<=w.heap.size) (hsm:s.small) :
  R_ 13 #[v,.agg #[p.x,p.y,p.t,p.lx,p.ly]] w (.int .i64 z):=by
 have HV:=hid hv;obtain ⟨a1,c1,a2,c2,a3,c3,rfl⟩:=hv.formV;have h6:=hid hsm;have HZ:=hid hz;clear hv hsm hz;have x0:Ext w ((w.alloc (.cells (sA_ s a1 c1 a2 c2 a3 c3) 40)).alloc (.cells #[p.x,p.y,p.t,p.lx,p.ly] 42)):=X_;have bS:=(aQx w 40 (sL_ s a1 c1 a2 c2 a3 c3)).ext (show Ext _ ((w.alloc (.cells (sA_ s a1 c1 a2 c2 a3 c3) 40)).alloc (.cells #[p.x,p.y,p.t,p.lx,p.ly] 42)) from X_);have bP:=(aQx (w.alloc (.cells (sA_ s a1 c1 a2 c2 a3 c3) 40)) 42 [p.x,p.y,p.t,p.lx,p.ly]).ext (show Ext _ ((w.alloc (.cells (sA_ s a1 c1 a2 c2 a3 c3) 40)).alloc (.cells #[p.x,p.y,p.t,p.lx,p.ly] 42)) from X_)
 try simp only [aQp] at bS bP
 obtain ⟨W0,h1⟩:∃W0,((w.alloc (.cells (sA_ s a1 c1 a2 c2 a3 c3) 40)).alloc (.cells #[p.x,p.y,p.t,p.lx,p.ly] 42))=W0:=⟨_,rfl⟩
 rw [h1] at x0 bS bP;have h0:=hid x0;have h7:=hid h1;have z0:=bP.lt;have h5:=hid bS;have h4:=hid bP;clear x0 h1 bS bP;go_enter func13,ntmps13;go_upto_region 1 with fail;rw [h7];have bq:=h5.ext (aQy _);obtain ⟨q3,q4,q6,q7,q8,q9,x1,x2,x5,x6,h2,h3⟩:=bq.q12;have sl:=bq.lt;clear bq;have bq:=h4.ext (aQy _);obtain ⟨h8,h9,q0,q1,q2⟩:=bq.q5;have pl:=bq.lt;clear bq;go_wp2_with fail;refine (oD lo hi _ s p W0 rfl (HV.ext hh h0) (aQw hh h0.size) h6).mono ?_;rintro e w3 ⟨r,rfl,hr,x3⟩;have X3:=hid (h0.trans x3);have HR:=hid hr;clear x3 hr;clear sl q3 q4 q6 q7 q8 q9 x1 x2 x5 x6 h2 h3 pl h8 h9 q0 q1 q2;go_wp2_with fail;refine r_ (xL _ _ _ _ HR) fun w4 x4=>?_;have X4:=hid (X3.trans x4);clear x4;go_wp2;go_ret;exact ⟨cK HZ,X4⟩
def Smp.I (p:Smp):Prop:=I64 p.x/\I64 p.y/\I64 p.t/\I64 p.lx/\I64 p.ly
def aPd:Prop:=True
theorem sI (p:Smp) (w:World):Calls aQt 12 #[.agg #[p.x,p.y,p.t,p.lx,p.ly]] w fun e w'=>e = .returned (.agg #[p.x,p.y,p.t,p.lx,p.ly])/\aPd/\Ext w w':=by
 go_enter func12,ntmps12;go_wp2;exact bodyPost_ret (v:=.agg #[p.x,p.y,p.t,p.lx,p.ly]) (by simp [results,results12,go_sem]) rfl ⟨rfl,trivial,X_⟩
theorem aOl (vs:Value) (s:Scn) (p:Smp) (W:World) (hs:s.R 0 W.heap.size W vs) (hbs:s.bd) (hp:p.I) :
  R_ 3 #[vs,.agg #[p.x,p.y,p.t,p.lx,p.ly]] W (.bool true):=by
 obtain ⟨z,hz⟩:∃z,rA (s.frs p)=z:=⟨_,rfl⟩
 have HQ:=hid hz;have Hs:=hid hs;have b6:=hid hbs;have Hp:=hid hp;obtain ⟨st,sp,sf,rfl,_⟩:=hs;clear hbs hz;go_enter func3,ntmps3;go_wp2_with fail;refine (aEn 0 W.heap.size _ s 1048576 _ (Hs.ext (aQo _) X_) (by simp <;> omega) b6 (by decide) (by decide)).mono ?_;rintro e w1 ⟨⟨rs,rfl,hrs⟩,x1⟩;have h1:=hid (((Bx.made W #[s.c.w,s.c.h,s.c.zoom,s.c.near,.bool s.c.deep,s.c.lens,s.c.focus,s.t.log,st,sp,sf,s.side] _).ext ((aQy _).alloc _)).ext x1);have h0:=hid ((Bx.madeAt (B:=W.heap.size+1) (W.alloc _) #[p.x,p.y,p.t,p.lx,p.ly] _ (by simp)).ext x1);have E:Ext W w1:=aQu X_ x1;clear x1;have ps:=h1.lt;obtain ⟨q0,q1,q2,q3,q4,q6,q7,q8,q9,x0,h2,h3⟩:=h1.q12;have pp:=h0.lt;obtain ⟨h5,h6,h7,h8,h9⟩:=h0.q5
 rcases hrs with rfl|⟨ras,rbs,hss⟩
 ·go_wp2_with fail
  go_ret;exact ⟨rfl,E⟩
 have y5:=hid hss;clear hss;have pW:=h0.lt;go_wp2_with fail;have zE:=E.size;refine aA [([0,2],1),([],3),([],4),([],5)] 99 w1.heap.size (by kernel_rfl) (by kernel_rfl) ?_;refine st_ fun K hK=>?_;go_wp2_with fail;refine (oB 0 W.heap.size _ s w1.drew (Hs.ext (aQo _) E.drew) zE y5).mono ?_;rintro e w2 ⟨v2,rfl,O2,x2⟩;have y2:Ext w1 w2:=aQu X_ x2;have z2:=y2.size;go_wp2_with fail;refine k_ hK ?_;clear hK K;refine st_ fun K hK=>?_;go_wp2_with fail;refine (sI p _).mono ?_;rintro e w3 ⟨rfl,O3,x3⟩;have y3:Ext w1 w3:=y2.trans x3;have z3:=x3.size;go_wp2_with fail;refine k_ hK ?_;clear hK K;refine st_ fun K hK=>?_;go_wp2_with fail;refine r_ (tL _ _ _ s p _ HQ (O2.kp (x3.kp (by first|exact aQo _|omega))).R (by omega) y5.small Hp.1 Hp.2.1) fun w4 x4=>?_;have y4:Ext w1 w4:=y3.trans x4;have z4:=x4.size;go_wp2_with fail;refine k_ hK ?_;clear hK K;refine st_ fun K hK=>?_;go_wp2_with fail;refine k_ hK ?_;clear hK K;refine aC ?_;replace h1:=hid (h1.kp (y4.kp h1.lt));replace h0:=hid (h0.kp (y4.kp h0.lt));replace E:=E.trans y4;clear x2 y2 x3 y3 x4 y4 O2 O3;clear ps q0 q1 q2 q3 q4 q6 q7 q8 q9 x0 h2 h3 pp h5 h6 h7 h8 h9;have ps:=h1.lt;obtain ⟨q0,q1,q2,q3,q4,q6,q7,q8,q9,x0,h2,h3⟩:=h1.q12;have pp:=h0.lt;obtain ⟨h5,h6,h7,h8,h9⟩:=h0.q5;go_wp2_with fail;have zE:=E.size;refine (oB 0 W.heap.size _ s _ (Hs.ext (aQo _) E) zE y5).mono ?_;rintro e w5 ⟨v5,rfl,O5,x5⟩;have z5:=x5.size;replace h1:=hid (h1.kp (x5.kp h1.lt));replace h0:=hid (h0.kp (x5.kp h0.lt));replace E:=E.trans x5;have z0:=hid O5;obtain ⟨a9,b0,b1,b2,b3,b4,rfl⟩:=O5.form;clear x5 O5 ps q0 q1 q2 q3 q4 q6 q7 q8 q9 x0 h2 h3 pp h5 h6 h7 h8 h9;have ps:=h1.lt;obtain ⟨q0,q1,q2,q3,q4,q6,q7,q8,q9,x0,h2,h3⟩:=h1.q12;have pp:=h0.lt;obtain ⟨h5,h6,h7,h8,h9⟩:=h0.q5;go_wp2_with fail;have x6:Ext w5 (w5.alloc (.cells (sA_ s a9 b0 b1 b2 b3 b4) 40)):=X_;have h4:=hid (Bx.made w5 #[s.c.w,s.c.h,s.c.zoom,s.c.near,.bool s.c.deep,s.c.lens,s.c.focus,s.t.log,.slice a9 s.t.px.length b0,.slice b1 s.ps.length b2,.slice b3 s.m b4,s.side] 40);have z6:=x6.size;have zE:=E.size;replace h1:=hid (h1.kp (x6.kp h1.lt));replace h0:=hid (h0.kp (x6.kp h0.lt));replace z0:=hid (z0.kp (x6.kp (by first|omega|(simp;omega))));replace E:=E.trans x6;clear ps q0 q1 q2 q3 q4 q6 q7 q8 q9 x0 h2 h3 pp h5 h6 h7 h8 h9
 obtain ⟨w6,b5⟩:∃W,w5.alloc (.cells (sA_ s a9 b0 b1 b2 b3 b4) 40)=W:=⟨_,rfl⟩
 try simp only [aQp]
 rw [b5] at h4 E z6 h1 h0 z0 ⊢;clear b5 x6;have ps:=h1.lt;obtain ⟨q0,q1,q2,q3,q4,q6,q7,q8,q9,x0,h2,h3⟩:=h1.q12;have pp:=h0.lt;obtain ⟨h5,h6,h7,h8,h9⟩:=h0.q5;have xs:=h4.lt;obtain ⟨y6,a0,a1,a2,a3,a4,a5,a6,a7,a8,z1,y0⟩:=h4.q12;have zE:=E.size;refine aA [([0,1],2),([],3),([],4)] 99 w6.heap.size (by kernel_rfl) (by kernel_rfl) ?_;refine st_ fun K hK=>?_;go_wp2_with fail;refine (sI p _).mono ?_;rintro e w7 ⟨rfl,O7,x7⟩;have y7:Ext w6 w7:=aQu X_ x7;have z7:=y7.size;go_wp2_with fail;refine k_ hK ?_;clear hK K;refine st_ fun K hK=>?_;go_wp2_with fail;refine r_ (tM _ _ _ s p _ HQ (z0.kp (y7.kp (by omega))).R (by omega) y5.small) fun w8 x8=>?_;have y8:Ext w6 w8:=y7.trans x8;have z8:=x8.size;go_wp2_with fail;refine k_ hK ?_;clear hK K;refine st_ fun K hK=>?_;go_wp2_with fail;refine k_ hK ?_;clear hK K;refine aC ?_;replace h1:=hid (h1.kp (y8.kp h1.lt));replace h0:=hid (h0.kp (y8.kp h0.lt));replace h4:=hid (h4.kp (y8.kp h4.lt));replace z0:=hid (z0.kp (y8.kp (by first|omega|(simp;omega))));replace E:=E.trans y8;clear x7 y7 x8 y8 O7;clear ps q0 q1 q2 q3 q4 q6 q7 q8 q9 x0 h2 h3 pp h5 h6 h7 h8 h9 xs y6 a0 a1 a2 a3 a4 a5 a6 a7 a8 z1 y0;have ps:=h1.lt;obtain ⟨q0,q1,q2,q3,q4,q6,q7,q8,q9,x0,h2,h3⟩:=h1.q12;have pp:=h0.lt;obtain ⟨h5,h6,h7,h8,h9⟩:=h0.q5;have xs:=h4.lt;obtain ⟨y6,a0,a1,a2,a3,a4,a5,a6,a7,a8,z1,y0⟩:=h4.q12;go_wp2_with fail;have zE:=E.size;refine aA [([0,1],2),([],3),([],4)] 99 w8.heap.size (by kernel_rfl) (by kernel_rfl) ?_;refine st_ fun K hK=>?_;go_wp2_with fail;refine (oB 0 W.heap.size _ s w8.drew (Hs.ext (aQo _) E.drew) zE y5).mono ?_;rintro e w9 ⟨v9,rfl,O9,x9⟩;have y9:Ext w8 w9:=aQu X_ x9;have z9:=y9.size;go_wp2_with fail;refine k_ hK ?_;clear hK K;refine st_ fun K hK=>?_;go_wp2_with fail;refine r_ (aCl _ _ _ _ _ _ s _ (z0.kp (y9.kp (by omega))).R (by omega) O9.R (aQo _)) fun w10 x10=>?_;have y1:Ext w8 w10:=y9.trans x10;have b7:=x10.size;go_wp2_with fail;refine k_ hK ?_;clear hK K;refine st_ fun K hK=>?_;go_wp2_with fail;refine k_ hK ?_;clear hK K;refine aC ?_;replace h1:=hid (h1.kp (y1.kp h1.lt));replace h0:=hid (h0.kp (y1.kp h0.lt));replace h4:=hid (h4.kp (y1.kp h4.lt));replace z0:=hid (z0.kp (y1.kp (by first|omega|(simp;omega))));replace E:=E.trans y1;clear x9 y9 x10 y1 O9 ps q0 q1 q2 q3 q4 q6 q7 q8 q9 x0 h2 h3 pp h5 h6 h7 h8 h9 xs y6 a0 a1 a2 a3 a4 a5 a6 a7 a8 z1 y0;have ps:=h1.lt;obtain ⟨q0,q1,q2,q3,q4,q6,q7,q8,q9,x0,h2,h3⟩:=h1.q12;have pp:=h0.lt;obtain ⟨h5,h6,h7,h8,h9⟩:=h0.q5;have xs:=h4.lt;obtain ⟨y6,a0,a1,a2,a3,a4,a5,a6,a7,a8,z1,y0⟩:=h4.q12;go_wp2_with fail;go_ret;exact ⟨rfl,E⟩
section
open Go.ChangeShapes Go.WideShapes Go.ChangeAt Go.RowKit
section
variable {H : Type} {enc : TypeId × Value -> H} {W : World} {base b0 : Nat} {sp : Nat -> Bool} {held : Bool}
theorem aLh {n:Int} (h:(Lit.int .i64 n).wf=true):I64 n:=by
 simp [Lit.wf,IntKind.min,IntKind.max,IntKind.signed,IntKind.bits] at h;exact ⟨by omega,by omega⟩
theorem aEs {fuel:Nat} {c:Value} {y:DataW H×List MemPlace} (h:aUh enc aQt W base sp held fuel 24 [c]=some y):∃xs,aU 0 W.heap.size W c xs:=by
 rcases open_ints underlying24 underlying3 (by kernel_rfl) h with ⟨hcs,_⟩|⟨a,len,cap,zs,hcs,_,hl,hm,hz,_,hcell,hwz⟩
 ·obtain rfl:c = .slice none 0 0:=by simpa using hcs
  exact ⟨[],none,0,rfl,aQo _,by unfold maxLen;omega,fun i x hx=>by simp at hx⟩
 ·obtain rfl:c = .slice (some a) len cap:=by simpa using hcs
  have h1:(zs.take len).length=len:=by
   rw [aRf,hz]
   split <;> omega
  refine ⟨zs.take len,some a,cap,by rw [h1],by omega,hm,fun i x hx=>?_⟩
  have hi:i<len:=by have:=(aQq.1 hx).1;omega
  rw [aSr,if_pos hi] at hx;have h3:=(aQq.1 hx).1
  have h2:zs.getD i 0=x:=by simp [List.getD,hx]
  obtain ⟨b,o,s⟩:=a
  obtain rfl:s=none:=by
   cases s with
   | none=>rfl
   | some s=>
    have h0:=hcell 0 (by omega);simp only [aSn,aUo,if_true] at h0
    split at h0 <;> simp at h0
  have hc:=hcell i h3;rw [h2] at hc
  have ha:(⟨b,o,none⟩:Addr).add i=⟨b,o+i,none⟩:=by
   unfold aUo
   split
   ·rename_i e;subst e;rfl
   ·rfl
  rw [ha] at hc;refine ⟨aLh (hwz x (aRe hx)),b,o,rfl,aR8 _,?_,hc⟩;simp only [aSn] at hc
  split at hc
  ·rename_i e;exact (aQ9.1 e).1
  ·cases hc
end
end
section
open Go.ChangeShapes Go.WideShapes Go.ChangeAt Go.RowKit
def qW (P:Program):Nat->TypeId->Nat->Option TypeId
 | 0,_,_=>none
 | d+1,t,i=>
  match P.underlying t with
  | some (.struct fs)=>
   match fs.toList.find? (fun f=>decide (f.offset<=i)&&decide (i<f.offset+P.cellsOf f.type)) with
   | some f=>
    match qW P d f.type (i - f.offset) with
    | some u=>if (i - f.offset)+P.cellsOf u<=P.cellsOf f.type then some u else none
    | none=>none
   | none=>none
  | some (.array n e)=>
   if i / P.cellsOf e<n then
    match qW P d e (i % P.cellsOf e) with
    | some u=>if (i % P.cellsOf e)+P.cellsOf u<=P.cellsOf e then some u else none
    | none=>none
   else none
  | some _=>if i=0 then some t else none
  | none=>none
section
variable {H : Type} {enc : TypeId × Value -> H} {P : Program} {W : World} {base : Nat} {sp : Nat -> Bool} {held : Bool}
theorem sJ {α : Type} (l:List α) (o k i c:Nat) (h1:o<=i) (h2:i - o+c<=k):((((l.drop o).take k).drop (i - o)).take c)=(l.drop i).take c:=by
 rw [List.drop_take,List.take_take,List.drop_drop,aS6 (by omega)]
 congr 2
 omega
theorem aAu (d:Nat):∀{t u:TypeId} {i fuel:Nat} {cs:List Value} {x:DataW H×List MemPlace},qW P d t i=some u->aUh enc P W base sp held fuel t cs=some x ->
  (i=0/\t=u)\/∃(m:Nat) (y:DataW H×List MemPlace),aUh enc P W base sp held m u ((cs.drop i).take (P.cellsOf u))=some y:=by
 induction d with
 | zero=>intro t u i fuel cs x h;simp [qW] at h
 | succ d ih=>
  intro t u i fuel cs x h hx;unfold qW at h
  split at h
  ·rename_i fs h5
   split at h
   ·rename_i f hf
    have hp:=List.find?_some hf;simp only [aQ4,decide_eq_true_eq] at hp;have hm:=List.mem_of_find?_eq_some hf
    split at h
    ·rename_i u' hu
     split at h
     ·rename_i h0
      simp only [aQr] at h;subst h;obtain ⟨xs,n,_,_,hl,h4,hg⟩:=DataW.trod_struct h5 hx;obtain ⟨j,hj⟩:=List.getElem?_of_mem hm
      have h6:fs[j]?=some f:=by simpa using hj
      have h1:=hg j f h6
      have h8:j<xs.length:=by rw [h4];exact (aQ9.1 h6).1
      rw [aQ0 h8] at h1;refine .inr ?_
      rcases ih hu h1 with ⟨h2,rfl⟩|⟨m,y,hy⟩
      ·refine ⟨n,xs[j],?_⟩
       have:f.offset=i:=by omega
       rw [<-this];exact h1
      ·rw [sJ _ _ _ _ _ hp.1 h0] at hy
       exact ⟨m,y,hy⟩
     ·cases h
    ·cases h
   ·cases h
  ·rename_i n e h5
   split at h
   ·rename_i hn
    split at h
    ·rename_i u' hu
     split at h
     ·rename_i h0
      simp only [aQr] at h;subst h;obtain ⟨xs,m',_,_,hl,h4,hg⟩:=DataW.trod_array h5 hx;have h1:=hg _ hn;rw [aQ0 (by omega)] at h1;have h7:=Nat.div_add_mod i (P.cellsOf e);rw [aUy] at h7;refine .inr ?_
      rcases ih hu h1 with ⟨h2,rfl⟩|⟨m,y,hy⟩
      ·refine ⟨m',xs[i / P.cellsOf e]'(by omega),?_⟩
       have:i / P.cellsOf e*P.cellsOf e=i:=by omega
       rw [this] at h1;exact h1
      ·have h3:i % P.cellsOf e=i - i / P.cellsOf e*P.cellsOf e:=by omega
       rw [h3] at hy h0;rw [sJ _ _ _ _ _ (by omega) h0] at hy;exact ⟨m,y,hy⟩
     ·cases h
    ·cases h
   ·cases h
  ·split at h
   ·rename_i hi
    simp only [aQr] at h;exact .inl ⟨hi,h⟩
   ·cases h
  ·cases h
def mA (P:Program) (t:TypeId) (k:Nat) (ti:TypeId):Bool:=decide (P.cellsOf t=k)&&decide (P.cellsOf ti=1)&&decide (t≠ti)&&(aRc k).all fun i=>decide (qW P 6 t i=some ti)
theorem aAv {t ti:TypeId} {k fuel:Nat} {cs:List Value} {x:DataW H×List MemPlace} (hi:P.underlying ti=some (.int .i64)) (ho:mA P t k ti=true) (h:aUh enc P W base sp held fuel t cs=some x) :
  ∀i,i<k->∃n,cs[i]?=some (.int .i64 n)/\I64 n:=by
 intro i h0;simp only [mA,aQ4,decide_eq_true_eq,List.all_eq_true,aRu] at ho;obtain ⟨⟨⟨h1,h2⟩,h3⟩,h4⟩:=ho
 rcases aAu 6 (h4 i h0) h with ⟨_,e⟩|⟨m,y,hy⟩
 ·exact absurd e h3
 ·rw [h2] at hy
  obtain ⟨n,e0,_,hw⟩:=DataW.trod_int hi hy;refine ⟨n,?_,?_⟩
  ·have:((cs.drop i).take 1)[0]?=some (.int .i64 n):=by rw [e0];rfl
   rw [aSr,if_pos (by decide),List.getElem?_drop] at this;exact this
  ·simp [Lit.wf,IntKind.min,IntKind.max,IntKind.signed,IntKind.bits] at hw
   exact ⟨by omega,by omega⟩
theorem aJm {t e ti:TypeId} {k fuel:Nat} {c:Value} {y:DataW H×List MemPlace} (ht:P.underlying t=some (.slice e)) (hi:P.underlying ti=some (.int .i64)) (ho:mA P e k ti=true) (hk:0<k)
  (h:aUh enc P W base sp held fuel t [c]=some y):∃n f,cY k 0 W.heap.size W c n f:=by
 have hC:P.cellsOf e=k:=by
  simp only [mA,aQ4,decide_eq_true_eq] at ho;exact ho.1.1.1
 rcases aWf ht h with ⟨h0,_⟩|⟨a,len,cap,m,n,D,Pl,hcs,hb,hl,hm,hmm,hx,hel⟩
 ·obtain rfl:c = .slice none 0 0:=by simpa using h0
  exact ⟨0,fun _=>0,none,0,rfl,aQo _,by unfold maxLen;omega,fun i hx=>by omega⟩
 ·obtain rfl:c = .slice (some a) len cap:=by simpa using hcs
  have q1:len<=m:=by rw [hmm];split <;> omega
  rw [hC] at hel
  have h9:∀i,i<len*k->∃x,I64 x/\W.cell? (a.add (i / k*k) |>.add (i % k))=some (.int .i64 x):=by
   intro i h3;have h1:i / k<len:=(Nat.div_lt_iff_lt_mul hk).2 h3;obtain ⟨cs',hc,h6⟩:=hel (i / k) (by omega);obtain ⟨x,h7,h8⟩:=aAv hi ho h6 (i % k) (aTf _ hk);obtain ⟨_,q0,h5⟩:=aWz hc;exact ⟨x,h8,(h5 _ (aTf _ hk)).trans h7⟩
  have h4:∀i,∃x,i<len*k->I64 x/\W.cell? (a.add i)=some (.int .i64 x):=by
   intro i
   by_cases h3:i<len*k
   ·obtain ⟨x,h1,h2⟩:=h9 i h3
    rw [aT1] at h2
    have:i / k*k+i % k=i:=by have:=Nat.div_add_mod i k;rw [aUy] at this;omega
    rw [this] at h2;exact ⟨x,fun _=>⟨h1,h2⟩⟩
   ·exact ⟨0,fun h=>absurd h h3⟩
  obtain ⟨f,hf⟩:=aUc h4;refine ⟨len,f,some a,cap,rfl,hl,hm,fun i h3=>⟨(hf i h3).1,?_⟩⟩;have h0:=(hf 0 (by omega)).2;obtain ⟨b,o,s⟩:=a
  obtain rfl:s=none:=by
   cases s with
   | none=>rfl
   | some s=>
    simp only [aSn,aUo,if_true] at h0
    split at h0 <;> simp at h0
  have hc:=(hf i h3).2
  have ha:(⟨b,o,none⟩:Addr).add i=⟨b,o+i,none⟩:=by
   unfold aUo
   split
   ·rename_i e;subst e;rfl
   ·rfl
  rw [ha] at hc;refine ⟨b,o,rfl,aR8 _,?_,hc⟩;simp only [aSn] at hc
  split at hc
  ·rename_i e;exact (aQ9.1 e).1
  ·cases hc
theorem aOi {t ti:TypeId} {fs:Array Field} {k b0:Nat} {v:Value} {d:DataW H} {p:List MemPlace} (ht:P.underlying t=some (.struct fs)) (hi:P.underlying ti=some (.int .i64)) (ho:mA P t k ti=true)
  (hv:aZ8 P W .any b0 t v) (h:bAr enc P W base sp held t v d p):∃f:Nat->Int,v = .agg ((Array.range k).map fun i=>.int .i64 (f i))/\∀i,i<k->I64 (f i):=by
 obtain ⟨cs,rfl,h4⟩:=okWide_struct ht hv;obtain ⟨fuel,hf⟩:=h
 have hC:P.cellsOf t=k:=by
  simp only [mA,aQ4,decide_eq_true_eq] at ho;exact ho.1.1.1
 have h3:∀i,∃n,i<k->cs[i]?=some (.int .i64 n)/\I64 n:=by
  intro i
  by_cases h0:i<k
  ·obtain ⟨n,h1,h2⟩:=aAv hi ho hf i h0
   exact ⟨n,fun _=>⟨by simpa [aZk] using h1,h2⟩⟩
  ·exact ⟨0,fun h=>absurd h h0⟩
 obtain ⟨f,hf⟩:=aUc h3;refine ⟨f,?_,fun i h0=>(hf i h0).2⟩
 congr 1
 apply aVb;intro i
 by_cases h0:i<k
 ·rw [(hf i h0).1]
  simp [h0]
 ·simp [h0]
  omega
end
end
section
open Go.ChangeShapes Go.WideShapes Go.ChangeAt Go.RowKit
section
variable {H : Type} {enc : TypeId × Value -> H} {P : Program} {W : World} {base b0 : Nat} {sp : Nat -> Bool} {held : Bool}
theorem bK {t u:TypeId} {i fuel:Nat} {cs:List Value} {x:DataW H×List MemPlace} (hl:(qW P 6 t i==some u&&decide (t≠u)&&decide (P.cellsOf u=1))=true) (h:aUh enc P W base sp held fuel t cs=some x) (hi:i<cs.length) :
  ∃c m y,cs[i]?=some c/\aUh enc P W base sp held m u [c]=some y:=by
 simp only [aQ4,beq_iff_eq,decide_eq_true_eq] at hl;obtain ⟨⟨h1,h2⟩,h3⟩:=hl
 rcases aAu 6 h1 h with ⟨_,e⟩|⟨m,y,hy⟩
 ·exact absurd e h2
 ·rw [h3,List.drop_eq_getElem_cons hi] at hy
  exact ⟨cs[i],m,y,by simp [hi],hy⟩
theorem eO {t:TypeId} {fuel:Nat} {c:Value} {y:DataW H×List MemPlace} (ht:P.underlying t=some (.int .i64)) (h:aUh enc P W base sp held fuel t [c]=some y):∃n,c = .int .i64 n/\I64 n:=by
 obtain ⟨k,e0,_,hw⟩:=DataW.trod_int ht h;exact ⟨k,by simpa using e0,aLh hw⟩
theorem aAw {t:TypeId} {fuel:Nat} {c:Value} {y:DataW H×List MemPlace} (ht:P.underlying t=some .string) (h:aUh enc P W base sp held fuel t [c]=some y):∃s,c = .string s/\s.size<=maxLen:=by
 obtain ⟨s,e0,_,hw⟩:=DataW.trod_string ht h;exact ⟨s,by simpa using e0,hw⟩
end
section
variable {H : Type} {enc : TypeId × Value -> H} {W : World} {base b0 : Nat} {sp : Nat -> Bool} {held : Bool}
theorem aM8 {fuel:Nat} {c:Value} {y:DataW H×List MemPlace} (h:aUh enc aQt W base sp held fuel 110 [c]=some y):∃xs,Nds 0 W.heap.size W c xs/\∀x∈xs,x.name.size<=maxLen:=by
 rcases aWf underlying110 h with ⟨hcs,_⟩|⟨a,len,cap,m,n,D,Pl,hcs,_,hl,hm,hmm,_,hel⟩
 ·obtain rfl:c = .slice none 0 0:=by simpa using hcs
  exact ⟨[],⟨none,0,rfl,aQo _,by unfold maxLen;omega,fun i x hx=>by simp at hx⟩,fun s hs=>by cases hs⟩
 ·obtain rfl:c = .slice (some a) len cap:=by simpa using hcs
  have h6:len<=m:=by rw [hmm];split <;> omega
  have hC:Tryz.prog.cellsOf 237=4:=by kernel_rfl
  rw [hC] at hel
  have h3:∀i,∃x:Nd,i<len->(I64 x.op/\I64 x.num/\x.name.size<=maxLen)/\W.cell? (a.add (i*4))=some (.int .i64 x.op)/\W.cell? (a.add (i*4+1))=some (.string x.name)/\W.cell? (a.add (i*4+2))=some (.int .i64 x.num)/\∃u,W.cell? (a.add (i*4+3))=some u/\aU 0 W.heap.size W u x.args:=by
   intro i
   by_cases h4:i<len
   ·obtain ⟨cs',hc,h2⟩:=hel i (by omega)
    obtain ⟨_,h5,h1⟩:=aWz hc;obtain ⟨c0,m0,y0,e0,t0⟩:=bK (i:=0) (u:=3) (by kernel_rfl) h2 (by omega);obtain ⟨c1,m1,y1,e1,t1⟩:=bK (i:=1) (u:=9) (by kernel_rfl) h2 (by omega);obtain ⟨c2,m2,y2,e2,t2⟩:=bK (i:=2) (u:=3) (by kernel_rfl) h2 (by omega);obtain ⟨c3,m3,y3,e3,t3⟩:=bK (i:=3) (u:=24) (by kernel_rfl) h2 (by omega);obtain ⟨px,hx⟩:=aEs t3;obtain ⟨n0,rfl,i0⟩:=eO underlying3 t0;obtain ⟨s,rfl,i1⟩:=aAw underlying9 t1;obtain ⟨n2,rfl,i2⟩:=eO underlying3 t2;refine ⟨⟨n0,s,n2,px⟩,fun _=>⟨⟨i0,i2,i1⟩,?_,?_,?_,c3,?_,hx⟩⟩
    ·have:=h1 0 (by omega);rw [aT1] at this;exact this.trans e0
    ·have:=h1 1 (by omega);rw [aT1] at this;exact this.trans e1
    ·have:=h1 2 (by omega);rw [aT1] at this;exact this.trans e2
    ·have:=h1 3 (by omega);rw [aT1] at this;exact this.trans e3
   ·exact ⟨⟨0,⟨#[]⟩,0,[]⟩,fun h=>absurd h h4⟩
  obtain ⟨f,hf⟩:=aUc h3;refine ⟨(aRc len).map f,⟨some a,cap,by simp,by simpa using hl,hm,fun i x hx=>?_⟩,fun s hs=>?_⟩
  ·have hi:i<len:=by have:=(aQq.1 hx).1;simpa using this
   obtain rfl:f i=x:=by simpa [hi] using hx
   obtain ⟨⟨i0,i2,_⟩,g0,g1,g2,u,g3,hu⟩:=hf i hi;refine ⟨⟨i0,i2⟩,?_⟩;have h0:=(hf 0 (by omega)).2.1;clear hf hel h3;obtain ⟨b,o,s⟩:=a
   obtain rfl:s=none:=by
    cases s with
    | none=>rfl
    | some s=>
     simp only [aSn,aUo,aVz,if_true] at h0
     split at h0 <;> simp at h0
   have ha:∀k,(⟨b,o,none⟩:Addr).add k=⟨b,o+k,none⟩:=by
    intro k;unfold aUo
    split
    ·rename_i e;subst e;rfl
    ·rfl
   rw [ha] at g0 g1 g2 g3;refine ⟨b,o,u,rfl,aR8 _,?_,g0,by rw [aSg];exact g1,by rw [aSg];exact g2,by rw [aSg];exact g3,hu⟩;simp only [aSn] at g0
   split at g0
   ·rename_i e;exact (aQ9.1 e).1
   ·cases g0
  ·obtain ⟨i,hi,rfl⟩:=aSt.1 hs
   exact (hf i (aRu.1 hi)).1.2.2
theorem aLi {fuel:Nat} {c:Value} {y:DataW H×List MemPlace} (h:aUh enc aQt W base sp held fuel 111 [c]=some y):∃xs,mZ 0 W.heap.size W c xs/\∀x∈xs,x.name.size<=maxLen:=by
 rcases aWf underlying111 h with ⟨hcs,_⟩|⟨a,len,cap,m,n,D,Pl,hcs,_,hl,hm,hmm,_,hel⟩
 ·obtain rfl:c = .slice none 0 0:=by simpa using hcs
  exact ⟨[],⟨none,0,rfl,aQo _,by unfold maxLen;omega,fun i x hx=>by simp at hx⟩,fun s hs=>by cases hs⟩
 ·obtain rfl:c = .slice (some a) len cap:=by simpa using hcs
  have h6:len<=m:=by rw [hmm];split <;> omega
  have hC:Tryz.prog.cellsOf 239=2:=by kernel_rfl
  rw [hC] at hel
  have h3:∀i,∃x:Asg,i<len->(I64 x.root/\x.name.size<=maxLen)/\W.cell? (a.add (i*2))=some (.string x.name)/\W.cell? (a.add (i*2+1))=some (.int .i64 x.root):=by
   intro i
   by_cases h4:i<len
   ·obtain ⟨cs',hc,h2⟩:=hel i (by omega)
    obtain ⟨_,h5,h1⟩:=aWz hc;obtain ⟨c0,m0,y0,e0,t0⟩:=bK (i:=0) (u:=9) (by kernel_rfl) h2 (by omega);obtain ⟨c1,m1,y1,e1,t1⟩:=bK (i:=1) (u:=3) (by kernel_rfl) h2 (by omega);obtain ⟨s,rfl,i0⟩:=aAw underlying9 t0;obtain ⟨n1,rfl,i1⟩:=eO underlying3 t1;refine ⟨⟨s,n1⟩,fun _=>⟨⟨i1,i0⟩,?_,?_⟩⟩
    ·have:=h1 0 (by omega);rw [aT1] at this;exact this.trans e0
    ·have:=h1 1 (by omega);rw [aT1] at this;exact this.trans e1
   ·exact ⟨⟨⟨#[]⟩,0⟩,fun h=>absurd h h4⟩
  obtain ⟨f,hf⟩:=aUc h3;refine ⟨(aRc len).map f,⟨some a,cap,by simp,by simpa using hl,hm,fun i x hx=>?_⟩,fun s hs=>?_⟩
  ·have hi:i<len:=by have:=(aQq.1 hx).1;simpa using this
   obtain rfl:f i=x:=by simpa [hi] using hx
   obtain ⟨⟨i0,_⟩,g0,g1⟩:=hf i hi;refine ⟨i0,?_⟩;have h0:=(hf 0 (by omega)).2.1;clear hf hel h3;obtain ⟨b,o,s⟩:=a
   obtain rfl:s=none:=by
    cases s with
    | none=>rfl
    | some s=>
     simp only [aSn,aUo,aVz,if_true] at h0
     split at h0 <;> simp at h0
   have ha:∀k,(⟨b,o,none⟩:Addr).add k=⟨b,o+k,none⟩:=by
    intro k;unfold aUo
    split
    ·rename_i e;subst e;rfl
    ·rfl
   rw [ha] at g0 g1;refine ⟨b,o,rfl,aR8 _,?_,g0,by rw [aSg];exact g1⟩;simp only [aSn] at g0
   split at g0
   ·rename_i e;exact (aQ9.1 e).1
   ·cases g0
  ·obtain ⟨i,hi,rfl⟩:=aSt.1 hs
   exact (hf i (aRu.1 hi)).1.2
end
end
section
open Go.ChangeShapes Go.WideShapes Go.ChangeAt Go.RowKit
section
variable {H : Type} {enc : TypeId × Value -> H} {P : Program} {W : World} {base b0 : Nat} {sp : Nat -> Bool} {held : Bool}
theorem aGx {t:TypeId} {fuel:Nat} {c:Value} {y:DataW H×List MemPlace} (ht:P.underlying t=some .bool) (h:aUh enc P W base sp held fuel t [c]=some y):∃b,c = .bool b:=by
 obtain ⟨b,e0,_⟩:=DataW.trod_bool ht h;exact ⟨b,by simpa using e0⟩
end
section
variable {H : Type} {enc : TypeId × Value -> H} {W : World} {base b0 : Nat} {sp : Nat -> Bool} {held : Bool}
theorem aLj {fuel:Nat} {c:Value} {y:DataW H×List MemPlace} (h:aUh enc aQt W base sp held fuel 27 [c]=some y):∃ps,gL 0 W.heap.size W c ps/\∀p∈ps,p.bd:=by
 rcases aWf underlying27 h with ⟨hcs,_⟩|⟨a,len,cap,m,n,D,Pl,hcs,_,hl,hm,hmm,_,hel⟩
 ·obtain rfl:c = .slice none 0 0:=by simpa using hcs
  exact ⟨[],⟨none,0,rfl,aQo _,by unfold maxLen;omega,fun i x hx=>by simp at hx⟩,fun s hs=>by cases hs⟩
 ·obtain rfl:c = .slice (some a) len cap:=by simpa using hcs
  have h7:len<=m:=by rw [hmm];split <;> omega
  have hC:Tryz.prog.cellsOf 113=2:=by kernel_rfl
  rw [hC] at hel
  have h3:∀i,∃x:Prg,i<len->x.bd/\∃u1 u2,W.cell? (a.add (i*2))=some u1/\W.cell? (a.add (i*2+1))=some u2/\x.R 0 W.heap.size W (.agg #[u1,u2]):=by
   intro i
   by_cases h4:i<len
   ·obtain ⟨cs',hc,h2⟩:=hel i (by omega)
    obtain ⟨_,h6,h1⟩:=aWz hc;obtain ⟨c0,m0,y0,e0,t0⟩:=bK (i:=0) (u:=110) (by kernel_rfl) h2 (by omega);obtain ⟨c1,m1,y1,e1,t1⟩:=bK (i:=1) (u:=111) (by kernel_rfl) h2 (by omega);obtain ⟨xs,hx,bx⟩:=aM8 t0;obtain ⟨ls,h5,bl⟩:=aLi t1;refine ⟨⟨xs,ls⟩,fun _=>⟨⟨bx,bl⟩,c0,c1,?_,?_,_,_,rfl,hx,h5⟩⟩
    ·have:=h1 0 (by omega);rw [aT1] at this;exact this.trans e0
    ·have:=h1 1 (by omega);rw [aT1] at this;exact this.trans e1
   ·exact ⟨⟨[],[]⟩,fun h=>absurd h h4⟩
  obtain ⟨f,hf⟩:=aUc h3;refine ⟨(aRc len).map f,⟨some a,cap,by simp,by simpa using hl,hm,fun i x hx=>?_⟩,fun s hs=>?_⟩
  ·have hi:i<len:=by have:=(aQq.1 hx).1;simpa using this
   obtain rfl:f i=x:=by simpa [hi] using hx
   obtain ⟨_,u1,u2,g0,g1,hR⟩:=hf i hi;obtain ⟨_,v1,v2,h0,_⟩:=hf 0 (by omega);clear hf hel h3;obtain ⟨b,o,s⟩:=a
   obtain rfl:s=none:=by
    cases s with
    | none=>rfl
    | some s=>
     simp only [aSn,aUo,aVz,if_true] at h0
     split at h0 <;> simp at h0
   have ha:∀k,(⟨b,o,none⟩:Addr).add k=⟨b,o+k,none⟩:=by
    intro k;unfold aUo
    split
    ·rename_i e;subst e;rfl
    ·rfl
   rw [ha] at g0 g1;refine ⟨b,o,u1,u2,rfl,aR8 _,?_,g0,by rw [aSg];exact g1,hR⟩;simp only [aSn] at g0
   split at g0
   ·rename_i e;exact (aQ9.1 e).1
   ·cases g0
  ·obtain ⟨i,hi,rfl⟩:=aSt.1 hs
   exact (hf i (aRu.1 hi)).1
theorem aP2 {v:Value} {d:DataW H} {p:List MemPlace} (hv:aZ8 aQt W .any b0 30 v) (h:bAr enc aQt W base sp held 30 v d p) :
  ∃s:Scn,s.R 0 W.heap.size W v/\s.bd:=by
 obtain ⟨cs,rfl,h0⟩:=okWide_struct underlying30 hv
 have hC:Tryz.prog.cellsOf 30=12:=by kernel_rfl
 rw [hC] at h0;obtain ⟨fuel,hf⟩:=h
 have h6:(Value.agg cs).cells.toList.length=12:=by simp [aZk,h0]
 obtain ⟨c0,m0,y0,e0,t0⟩:=bK (i:=0) (u:=3) (by kernel_rfl) hf (by omega);obtain ⟨c1,m1,y1,e1,t1⟩:=bK (i:=1) (u:=3) (by kernel_rfl) hf (by omega);obtain ⟨c2,m2,y2,e2,t2⟩:=bK (i:=2) (u:=3) (by kernel_rfl) hf (by omega);obtain ⟨c3,m3,y3,e3,t3⟩:=bK (i:=3) (u:=3) (by kernel_rfl) hf (by omega);obtain ⟨c4,m4,y4,e4,t4⟩:=bK (i:=4) (u:=4) (by kernel_rfl) hf (by omega);obtain ⟨c5,m5,y5,e5,t5⟩:=bK (i:=5) (u:=3) (by kernel_rfl) hf (by omega);obtain ⟨c6,m6,y6,e6,t6⟩:=bK (i:=6) (u:=3) (by kernel_rfl) hf (by omega);obtain ⟨c7,m7,y7,e7,t7⟩:=bK (i:=7) (u:=3) (by kernel_rfl) hf (by omega);obtain ⟨c8,m8,y8,e8,t8⟩:=bK (i:=8) (u:=24) (by kernel_rfl) hf (by omega);obtain ⟨c9,m9,y9,e9,t9⟩:=bK (i:=9) (u:=27) (by kernel_rfl) hf (by omega);obtain ⟨h1,q2,q4,h2,h9⟩:=bK (i:=10) (u:=28) (by kernel_rfl) hf (by omega);obtain ⟨q1,q3,q5,h3,q0⟩:=bK (i:=11) (u:=3) (by kernel_rfl) hf (by omega);obtain ⟨k0,rfl,i0⟩:=eO underlying3 t0;obtain ⟨k1,rfl,i1⟩:=eO underlying3 t1;obtain ⟨k2,rfl,i2⟩:=eO underlying3 t2;obtain ⟨k3,rfl,i3⟩:=eO underlying3 t3;obtain ⟨k4,rfl⟩:=aGx underlying4 t4;obtain ⟨k5,rfl,i5⟩:=eO underlying3 t5;obtain ⟨k6,rfl,i6⟩:=eO underlying3 t6;obtain ⟨k7,rfl,i7⟩:=eO underlying3 t7;obtain ⟨px,hx⟩:=aEs t8;obtain ⟨ps,h7,h5⟩:=aLj t9;obtain ⟨n,f,hp⟩:=aJm (k:=26) (e:=134) underlying28 underlying3 (by kernel_rfl) (by omega) h9;obtain ⟨h4,rfl,h8⟩:=eO underlying3 q0
 have e:cs=#[(k0:Value),k1,k2,k3,.bool k4,k5,k6,k7,c8,c9,h1,h4]:=by
  apply aVb;intro i;simp only [aZk,Array.getElem?_toList] at e0 e1 e2 e3 e4 e5 e6 e7 e8 e9 h2 h3
  match i with
  | 0=>simpa using e0
  | 1=>simpa using e1
  | 2=>simpa using e2
  | 3=>simpa using e3
  | 4=>simpa using e4
  | 5=>simpa using e5
  | 6=>simpa using e6
  | 7=>simpa using e7
  | 8=>simpa using e8
  | 9=>simpa using e9
  | 10=>simpa using h2
  | 11=>simpa using h3
  | i+12=>simp [h0]
 subst e;exact ⟨⟨⟨k0,k1,k2,k3,k4,k5,k6⟩,⟨k7,px⟩,ps,n,f,h4⟩,⟨c8,c9,h1,rfl,⟨i0,i1,i2,i3,i5,i6⟩,i7,h8,hx,h7,hp⟩,h5⟩
end
end
section
open Go.ChangeShapes Go.WideShapes Go.ChangeAt Go.RowKit
section
variable {H : Type} {enc : TypeId × Value -> H} {W : World} {base b0 : Nat} {sp : Nat -> Bool} {held : Bool}
theorem aP3 {v:Value} {d:DataW H} {p:List MemPlace} (hv:aZ8 aQt W .any b0 32 v) (h:bAr enc aQt W base sp held 32 v d p) :
  ∃s:Smp,v = .agg #[s.x,s.y,s.t,s.lx,s.ly]/\s.I:=by
 obtain ⟨f,rfl,hi⟩:=aOi (k:=5) underlying32 underlying3 (by kernel_rfl) hv h;exact ⟨⟨f 0,f 1,f 2,f 3,f 4⟩,by simp [<-Array.toList_inj,aS3],hi 0 (by decide),hi 1 (by decide),hi 2 (by decide),hi 3 (by decide),hi 4 (by decide)⟩
end
end
section
namespace fnExactSampleColor
open Go.ChangeShapes Go.WideShapes Go.ChangeAt Go.RowKit
theorem wQ:Tryz.pinned.checked.prog.funcNamed Rows.fnExactSampleColorRow.func=some 3:=by kernel_rfl
end fnExactSampleColor
end
end Go.Proofs.YthgpegkmjeigmaaGreat
