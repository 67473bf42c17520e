/- Texts of this claim, one behind another; what its theorem does not use is left out: Mk6, Ss2, Tp6, LawSurfaceFr, LiftTex, Leaf, Es1, Es2, Es3, Es4, Es5, Es6, Lw3, LiftPrg, LiftScn, LiftSmp, P33. -/
import Derived.Test.YthgpegkmjeigmaaGreatP33W5
import Derived.Test.YthgpegkmjeigmaaGreatP33W4
import Derived.Test.YthgpegkmjeigmaaGreatP33W3
import Derived.Test.YthgpegkmjeigmaaGreatP33W1
import Derived.OpenShut
import Derived.ShutString
import Derived.ChangeOld
import Derived.Below
import Derived.Carry
import Derived.Lib.SmallJoins
import Derived.Deep.Slices
import Derived.Deep.Strs
import Derived.Test.YthgpegkmjeigmaaGreatRows
import Derived.ProofKit
set_option linter.unusedSimpArgs false
set_option linter.unusedVariables false
set_option maxRecDepth 100000
set_option maxHeartbeats 12800000
namespace Go.Proofs.YthgpegkmjeigmaaGreat
open Go.RowKit
open Go.Proofs.Tryz
open _root_.Go.Act renaming put→aQi
variable {hi lo:Nat} {v:Value} {w w':World}
open _root_.Array renaming getElem?_eq_some_iff→aPq,ext_getElem?→aTi
open _root_.Bool renaming and_eq_true→aPk
open _root_.Classical renaming axiomOfChoice→aSl
open _root_.Go.Addr renaming add→aS4
open _root_.Go.DataW renaming Trod→aXw,trod→aSq
open _root_.Go.Deep renaming open_slice→aUh,add_add→aSa
open _root_.Go.Proofs.Tryz renaming prog→aPa
open _root_.Go.Value renaming okWide→aW0,cells→aXq
open _root_.Go.World renaming size_alloc→aO6,cell?→aQ6,cells?_some→aU0
open _root_.List renaming set_cons_succ→aPj,set_cons_zero→aPi,getElem?_eq_some_iff→aO7,getElem?_take→aRe,getElem?_eq_getElem→aPo,range→aPu,mem_range→aP8,mem_map→aQ5,getElem?_cons_zero→aO4,getElem?_cons_succ→aO5,getElem?_toArray→aO9,setIfInBounds_toArray→aPb,filterMap_nil→aPn,filterMap_cons→aPt
open _root_.Nat renaming le_refl→aO3,zero_add→aP0,le_trans→aPd,zero_le→aQh,mul_comm→aSu,mod_lt→aRu,zero_mul→aTo,add_assoc→aQv
structure Scn.Sm (s:Scn):Prop where
 small:s.small
 px:s.t.px.length<=1048576
 n:s.ps.length<=1048576
 m:s.m<=1048576
def Scn.bd (s:Scn):Prop:=∀p∈s.ps,p.bd
def Scn.O (s:Scn) (lo hi:Nat) (w:World) (v:Value):Prop:=
 ∃a1 c1 a2 c2 a3 c3,v = .agg #[s.c.w,s.c.h,s.c.zoom,s.c.near,.bool s.c.deep,s.c.lens,s.c.focus,s.t.log,.slice a1 s.t.px.length c1,.slice a2 s.ps.length c2,.slice a3 s.m c3,s.side]/\s.R lo hi w v/\jR lo hi w (.slice a1 s.t.px.length c1) s.t.px.length/\mL lo hi w (.slice a2 s.ps.length c2) s.ps.length/\rI lo hi w (.slice a3 s.m c3) s.m
theorem rI.same {n:Nat} (h:rI lo hi w v n) (s:aL lo hi w w'):rI lo hi w' v n:=by
 obtain ⟨a,cap,h1,h2,h3,h4⟩:=h;exact ⟨a,cap,h1,h2,h3,fun i hi=>by obtain ⟨b,h0,e,k0,k1⟩:=h4 i hi;exact ⟨b,h0,e,k0.same s,k1.same s⟩⟩
theorem Scn.O.R {s:Scn} (h:s.O lo hi w v):s.R lo hi w v:=by
 obtain ⟨_,_,_,_,_,_,rfl,h,_⟩:=h;exact h
theorem Scn.O.form {s:Scn} (h:s.O lo hi w v):∃a1 c1 a2 c2 a3 c3,v = .agg #[s.c.w,s.c.h,s.c.zoom,s.c.near,.bool s.c.deep,s.c.lens,s.c.focus,s.t.log,.slice a1 s.t.px.length c1,.slice a2 s.ps.length c2,.slice a3 s.m c3,s.side]:=by
 obtain ⟨a1,c1,a2,c2,a3,c3,rfl,_⟩:=h;exact ⟨a1,c1,a2,c2,a3,c3,rfl⟩
theorem Scn.O.same {s:Scn} (h:s.O lo hi w v) (k:aL lo hi w w'):s.O lo hi w' v:=by
 obtain ⟨a1,c1,a2,c2,a3,c3,rfl,h1,h2,h3,h4⟩:=h;exact ⟨a1,c1,a2,c2,a3,c3,rfl,h1.same k,h2.same k,h3.same k,h4.same k⟩
theorem Scn.O.kp {s:Scn} (h:s.O lo hi w v) (k:Kp lo hi w w'):s.O lo hi w' v:=h.same k.same
theorem aY.srfsM {b n:Nat} {f:Nat->Int} (h:aY w b 127 (n*26) f) (hl:lo<=b) (hn:n<=1048576):rI lo w.heap.size w (.slice (some ⟨b,0,none⟩) n n) n:=
 ⟨_,n,rfl,aO3 _,by omega,fun i hi=>by
  have h2:=eJ (k:=26) (j:=25) hi (by decide)
  exact ⟨b,0,rfl,⟨hl,h.lt,⟨_,by rw [aP0];exact h.cell (by omega)⟩,by rw [aP0];exact h.frozen _⟩,⟨hl,h.lt,⟨_,by rw [aP0];exact h.cell (by omega)⟩,by rw [aP0];exact h.frozen _⟩⟩⟩
theorem aDb (lo hi:Nat) (v:Value) (s:Scn) (left:Int) (w:World) (hv:s.R lo hi w v) (hh:hi<=w.heap.size) (hb:s.bd) (h1:0<=left) (h2:left<=1048576) :
  Calls aPa 9 #[v,left] w fun e w'=>(∃r,e = .returned (.int .i64 r)/\(r = -1\/(0<=r/\r<=left/\s.Sm)))/\Ext w w':=by
 obtain ⟨a1,c1,a2,c2,a3,c3,rfl,-,h0,-,k1,k2,k3⟩:=hv.form;have HT:=hid (show ∀W:World,Ext w W->cJ lo hi W (.agg #[s.t.log,.slice a1 s.t.px.length c1]) s.t from fun W x=>⟨_,rfl,h0,(k1.shut).ext hh x⟩);have HP:=hid (show fX lo hi w (.slice a2 s.ps.length c2) s.ps by obtain ⟨tu,pu,su,e,_,_,_,_,h6,_⟩:=hv;simp only [Value.agg.injEq,Array.mk.injEq,List.cons.injEq,and_true,true_and] at e;obtain ⟨-,e2,-⟩:=e;rw [e2];exact h6);have HF:=hid (show cU 26 lo hi w (.slice a3 s.m c3) s.m s.F from k3.shut);have HB:=hid hb;have x0:Ext w (w.alloc (.cells (sA_ s a1 c1 a2 c2 a3 c3) 30)):=X_;have B0:=hid (Blk.new w 30 (sL_ s a1 c1 a2 c2 a3 c3));have X0:=hid x0;have q2:=k1.cap;have q4:=k2.cap;have q6:=k3.cap;have q3:=k1.le;have q5:=k2.le;have q7:=k3.le;clear hv h0 k1 k2 k3 hb x0
 obtain ⟨r1,h3⟩:∃r,kG left s.t.px.length=r:=⟨_,rfl⟩
 have h8:=hid h3
 have h5:r1 = -1\/(0<=r1/\r1<=left/\s.t.px.length<=1048576):=by unfold kG at h3;split at h3 <;> omega
 clear h3;go_enter func9,ntmps9;go_wp2_with fail;refine r_ (wW h8 lo hi _ _ (HT _ X0) (aPd hh X0.size) h1 h2) fun w1 x1=>?_;have B1:=hid (B0.ext x1);have X1:=hid (X0.trans x1);clear B0 X0 x1
 rcases h5 with rfl|⟨g1,g2,g3⟩
 ·go_wp2
  go_ret;exact ⟨⟨_,rfl,.inl rfl⟩,X1⟩
 have n1 : ¬r1<0:=by omega
 have c9:=B1.cell 9 rfl;have cl:=B1.lt;go_wp2_with fail;refine (wK lo hi _ s.ps r1 _ (HP.ext hh X1) (aPd hh X1.size) HB g1 (by omega)).mono ?_;rintro e w2 ⟨⟨r2,rfl,hr2⟩,x2⟩;have B2:=hid (B1.ext x2);have X2:=hid (X1.trans x2);clear B1 X1 x2 c9 cl
 rcases hr2 with rfl|⟨g4,g5,g6,g7⟩
 ·go_wp2
  go_ret;exact ⟨⟨_,rfl,.inl rfl⟩,X2⟩
 have n2 : ¬r2<0:=by omega
 have q0:=hid (show s.small from fun p hp=>⟨HB p hp,g7 p hp⟩)
 obtain ⟨r3,h4⟩:∃r,kG r2 s.m=r:=⟨_,rfl⟩
 have h9:=hid h4
 have h7:r3 = -1\/(0<=r3/\r3<=r2/\s.m<=1048576):=by unfold kG at h4;split at h4 <;> omega
 clear h4 g7;have q1:=B2.cell 10 rfl;have cl:=B2.lt;go_wp2_with fail;refine z_ (wO h9 lo hi _ s.F _ (HF.ext hh X2) g4 (by omega)) ?_
 rcases h7 with rfl|⟨g8,g9,g10⟩
 ·go_wp2
  go_ret;exact ⟨⟨_,rfl,.inl rfl⟩,X2⟩
 have n3 : ¬r3<0:=by omega
 go_wp2;go_ret;exact ⟨⟨_,rfl,.inr ⟨g8,by omega,⟨q0,g3,g6,g10⟩⟩⟩,X2⟩
theorem jS (lo hi:Nat) (v:Value) (s:Scn) (w:World) (hv:s.R lo hi w v) (hh:hi<=w.heap.size) (hsz:s.Sm) :
  Calls aPa 11 #[v] w fun e w'=>∃v',e = .returned v'/\s.O w.heap.size w'.heap.size w' v'/\Ext w w':=by
 obtain ⟨a1,c1,a2,c2,a3,c3,rfl,y4,z4,q8,k1,k2,k3⟩:=hv.form;have HT:=hid (show ∀W:World,Ext w W->cJ lo hi W (.agg #[s.t.log,.slice a1 s.t.px.length c1]) s.t from fun W x=>⟨_,rfl,z4,(k1.shut).ext hh x⟩);have HP:=hid (show fX lo hi w (.slice a2 s.ps.length c2) s.ps by obtain ⟨tu,pu,su,e,_,_,_,_,h6,_⟩:=hv;simp only [Value.agg.injEq,Array.mk.injEq,List.cons.injEq,and_true,true_and] at e;obtain ⟨-,e2,-⟩:=e;rw [e2];exact h6);have HF:=hid (show cU 26 lo hi w (.slice a3 s.m c3) s.m s.F from k3.shut);have y6:=hid (show ∀i,i<s.m*26->I64 (s.F i) from fun i hi=>(k3.cell i hi).1);have y5:=hid y4;have y7:=hid z4;have y8:=hid q8;have z1:=hsz.px;have z2:=hsz.n;have z3:=hsz.m;have ZS:=hid (show ∀p∈s.ps,p.small from fun p hp=>(hsz.small p hp).2);have x0:Ext w (((w.alloc (.cells (sA_ s a1 c1 a2 c2 a3 c3) 30)).alloc (.cells #[(),(),(),(),.bool false,(),(),(),.slice none 0 0,.slice none 0 0,.slice none 0 0,()] 40)).alloc (.cells #[(),(),(),(),.bool false,(),(),(),.slice none 0 0,.slice none 0 0,.slice none 0 0,()] 40)):=X_;have b0:=(Blk.new w 30 (sL_ s a1 c1 a2 c2 a3 c3)).ext (show Ext (w.alloc (.cells (sA_ s a1 c1 a2 c2 a3 c3) 30)) (((w.alloc (.cells (sA_ s a1 c1 a2 c2 a3 c3) 30)).alloc (.cells #[(),(),(),(),.bool false,(),(),(),.slice none 0 0,.slice none 0 0,.slice none 0 0,()] 40)).alloc (.cells #[(),(),(),(),.bool false,(),(),(),.slice none 0 0,.slice none 0 0,.slice none 0 0,()] 40)) from X_);have r0:=(Blk.new (w.alloc (.cells (sA_ s a1 c1 a2 c2 a3 c3) 30)) 40 [(),(),(),(),.bool false,(),(),(),.slice none 0 0,.slice none 0 0,.slice none 0 0,()]).ext (show Ext ((w.alloc (.cells (sA_ s a1 c1 a2 c2 a3 c3) 30)).alloc (.cells #[(),(),(),(),.bool false,(),(),(),.slice none 0 0,.slice none 0 0,.slice none 0 0,()] 40)) (((w.alloc (.cells (sA_ s a1 c1 a2 c2 a3 c3) 30)).alloc (.cells #[(),(),(),(),.bool false,(),(),(),.slice none 0 0,.slice none 0 0,.slice none 0 0,()] 40)).alloc (.cells #[(),(),(),(),.bool false,(),(),(),.slice none 0 0,.slice none 0 0,.slice none 0 0,()] 40)) from X_);have t0:=Blk.new ((w.alloc (.cells (sA_ s a1 c1 a2 c2 a3 c3) 30)).alloc (.cells #[(),(),(),(),.bool false,(),(),(),.slice none 0 0,.slice none 0 0,.slice none 0 0,()] 40)) 40 [(),(),(),(),.bool false,(),(),(),.slice none 0 0,.slice none 0 0,.slice none 0 0,()];simp only [aO6] at r0 t0;have B0:=hid b0;have R0:=hid r0;have T0:=hid t0;have X0:=hid x0;clear hv y4 z4 q8 k1 k2 k3 hsz b0 r0 t0 x0;go_enter func11,ntmps11;go_upto_region 2 with fail
 obtain ⟨WA,y3⟩:∃WA,(((w.alloc (.cells (sA_ s a1 c1 a2 c2 a3 c3) 30)).alloc (.cells #[(),(),(),(),.bool false,(),(),(),.slice none 0 0,.slice none 0 0,.slice none 0 0,()] 40)).alloc (.cells #[(),(),(),(),.bool false,(),(),(),.slice none 0 0,.slice none 0 0,.slice none 0 0,()] 40))=WA:=⟨_,rfl⟩
 rw [y3] at B0 R0 T0 X0 ⊢;clear y3;obtain ⟨b0,b1,b2,b3,b4,b5,b6⟩:=B0.q7;have bl:=B0.lt;go_wp2_with fail;refine r_ (aBd _ _ _ _ _ _ _ _) fun w1 x1=>?_;clear bl b0 b1 b2 b3 b4 b5 b6;have B1:=hid (B0.ext x1);have R1:=hid (R0.ext x1);have T1:=hid (T0.ext x1);have X1:=hid (X0.trans x1);clear B0 R0 T0 X0;clear x1;have i3:w.heap.size+1+1<w1.heap.size:=T1.lt;have d0:=T1.cell 0 rfl;have e0:=T1.free 0;have d1:=T1.cell 1 rfl;have e1:=T1.free 1;have d2:=T1.cell 2 rfl;have e2:=T1.free 2;have d3:=T1.cell 3 rfl;have e3:=T1.free 3;have d4:=T1.cell 4 rfl;have e4:=T1.free 4;have d5:=T1.cell 5 rfl;have e5:=T1.free 5;have d6:=T1.cell 6 rfl;have e6:=T1.free 6;have dl:=T1.lt;have T2:=hid (((((((T1.set 0 (.int .i64 s.c.w)).set 1 (.int .i64 s.c.h)).set 2 (.int .i64 s.c.zoom)).set 3 (.int .i64 s.c.near)).set 4 (.bool s.c.deep)).set 5 (.int .i64 s.c.lens)).set 6 (.int .i64 s.c.focus));have B2:=hid (((((((B1.other (a:=⟨w.heap.size+1+1,0,none⟩) (by simp <;> omega) (.int .i64 s.c.w)).other (a:=⟨w.heap.size+1+1,1,none⟩) (by simp <;> omega) (.int .i64 s.c.h)).other (a:=⟨w.heap.size+1+1,2,none⟩) (by simp <;> omega) (.int .i64 s.c.zoom)).other (a:=⟨w.heap.size+1+1,3,none⟩) (by simp <;> omega) (.int .i64 s.c.near)).other (a:=⟨w.heap.size+1+1,4,none⟩) (by simp <;> omega) (.bool s.c.deep)).other (a:=⟨w.heap.size+1+1,5,none⟩) (by simp <;> omega) (.int .i64 s.c.lens)).other (a:=⟨w.heap.size+1+1,6,none⟩) (by simp <;> omega) (.int .i64 s.c.focus));have R2:=hid (((((((R1.other (a:=⟨w.heap.size+1+1,0,none⟩) (by simp <;> omega) (.int .i64 s.c.w)).other (a:=⟨w.heap.size+1+1,1,none⟩) (by simp <;> omega) (.int .i64 s.c.h)).other (a:=⟨w.heap.size+1+1,2,none⟩) (by simp <;> omega) (.int .i64 s.c.zoom)).other (a:=⟨w.heap.size+1+1,3,none⟩) (by simp <;> omega) (.int .i64 s.c.near)).other (a:=⟨w.heap.size+1+1,4,none⟩) (by simp <;> omega) (.bool s.c.deep)).other (a:=⟨w.heap.size+1+1,5,none⟩) (by simp <;> omega) (.int .i64 s.c.lens)).other (a:=⟨w.heap.size+1+1,6,none⟩) (by simp <;> omega) (.int .i64 s.c.focus));have X2:=hid (((((((X1.setCell (p:=⟨w.heap.size+1+1,0,none⟩) (by simp;omega) (.int .i64 s.c.w)).setCell (p:=⟨w.heap.size+1+1,1,none⟩) (by simp;omega) (.int .i64 s.c.h)).setCell (p:=⟨w.heap.size+1+1,2,none⟩) (by simp;omega) (.int .i64 s.c.zoom)).setCell (p:=⟨w.heap.size+1+1,3,none⟩) (by simp;omega) (.int .i64 s.c.near)).setCell (p:=⟨w.heap.size+1+1,4,none⟩) (by simp;omega) (.bool s.c.deep)).setCell (p:=⟨w.heap.size+1+1,5,none⟩) (by simp;omega) (.int .i64 s.c.lens)).setCell (p:=⟨w.heap.size+1+1,6,none⟩) (by simp;omega) (.int .i64 s.c.focus));simp only [aPj,aPi] at T2;go_upto_region 3 with fail
 obtain ⟨y0,x4⟩:∃W,(((((((w1.setCell ⟨w.heap.size+1+1,0,none⟩ s.c.w).setCell ⟨w.heap.size+1+1,1,none⟩ s.c.h).setCell ⟨w.heap.size+1+1,2,none⟩ s.c.zoom).setCell ⟨w.heap.size+1+1,3,none⟩ s.c.near).setCell ⟨w.heap.size+1+1,4,none⟩ (.bool s.c.deep)).setCell ⟨w.heap.size+1+1,5,none⟩ s.c.lens).setCell ⟨w.heap.size+1+1,6,none⟩ s.c.focus)=W:=⟨_,rfl⟩
 have c7:y0.heap.size<=w1.heap.size/\w1.heap.size<=y0.heap.size:=by rw [<-x4];simp
 rw [x4] at B2 R2 T2 X2 ⊢;clear x4 B1 R1 T1 X1 dl d0 e0 d1 e1 d2 e2 d3 e3 d4 e4 d5 e5 d6 e6;have b7:=B2.cell 7 rfl;have b8:=B2.cell 8 rfl;have bl:=B2.lt;go_wp2_with fail;refine (wR lo hi _ s.t _ (HT _ X2) (aPd hh X2.size) z1).mono ?_;rintro e w3 ⟨v3,rfl,⟨u3,rfl,_,hO⟩,x3⟩;obtain ⟨p1,q1,rfl,_⟩:=hO.form;have i4:=x3.size;clear bl b7 b8;have B3:=hid (B2.ext x3);have R3:=hid (R2.ext x3);have T3:=hid (T2.ext x3);have X3:=hid (X2.trans x3);clear B2 R2 T2 X2;have HI:=hid hO.ints;have HM:=hid hO.intsM;clear x3 hO;have d7:=T3.cell 7 rfl;have e7:=T3.free 7;have d8:=T3.cell 8 rfl;have e8:=T3.free 8;have dl:=T3.lt;have T4:=hid ((T3.set 7 (.int .i64 s.t.log)).set 8 (.slice p1 s.t.px.length q1));have B4:=hid ((B3.other (a:=⟨w.heap.size+1+1,7,none⟩) (by simp <;> omega) (.int .i64 s.t.log)).other (a:=⟨w.heap.size+1+1,8,none⟩) (by simp <;> omega) (.slice p1 s.t.px.length q1));have R4:=hid ((R3.other (a:=⟨w.heap.size+1+1,7,none⟩) (by simp <;> omega) (.int .i64 s.t.log)).other (a:=⟨w.heap.size+1+1,8,none⟩) (by simp <;> omega) (.slice p1 s.t.px.length q1));have X4:=hid ((X3.setCell (p:=⟨w.heap.size+1+1,7,none⟩) (by simp;omega) (.int .i64 s.t.log)).setCell (p:=⟨w.heap.size+1+1,8,none⟩) (by simp;omega) (.slice p1 s.t.px.length q1));replace HI:=hid (HI.same ((aL.setLow w3 (p:=⟨w.heap.size+1+1,7,none⟩) (by simp only;omega) (.int .i64 s.t.log)).trans (aL.setLow _ (p:=⟨w.heap.size+1+1,8,none⟩) (by simp only;omega) (.slice p1 s.t.px.length q1))));replace HM:=hid (HM.same ((aL.setLow w3 (p:=⟨w.heap.size+1+1,7,none⟩) (by simp only;omega) (.int .i64 s.t.log)).trans (aL.setLow _ (p:=⟨w.heap.size+1+1,8,none⟩) (by simp only;omega) (.slice p1 s.t.px.length q1))));simp only [aPj,aPi] at T4;go_upto_region 4 with fail
 obtain ⟨q2,x6⟩:∃W,((w3.setCell ⟨w.heap.size+1+1,7,none⟩ s.t.log).setCell ⟨w.heap.size+1+1,8,none⟩ (.slice p1 s.t.px.length q1))=W:=⟨_,rfl⟩
 have c8:q2.heap.size<=w3.heap.size/\w3.heap.size<=q2.heap.size:=by rw [<-x6];simp
 rw [x6] at B4 R4 T4 X4 HI HM ⊢;clear x6 B3 R3 T3 X3 dl d7 e7 d8 e8;have b9:=B4.cell 9 rfl;have bl:=B4.lt;go_wp2_with fail;refine (wJ lo hi _ s.ps _ (HP.ext hh X4) (aPd hh X4.size) z2 ZS).mono ?_;rintro e w5 ⟨rfl,⟨hPR,hPM⟩,hlt5,x5⟩;have i5:=x5.size;clear bl b9;have B5:=hid (B4.ext x5);have R5:=hid (R4.ext x5);have T5:=hid (T4.ext x5);have X5:=hid (X4.trans x5);replace HI:=hid (HI.same (x5.same (by first|exact aO3 _|omega)));replace HM:=hid (HM.same (x5.same (by first|exact aO3 _|omega)));clear B4 R4 T4 X4;have q4:=hid hPR;have q3:=hid hPM;clear x5 hPR hPM;have d9:=T5.cell 9 rfl;have e9:=T5.free 9;have dl:=T5.lt;have T6:=hid (T5.set 9 (.slice (some ⟨q2.heap.size,0,none⟩) s.ps.length s.ps.length));have B6:=hid (B5.other (a:=⟨w.heap.size+1+1,9,none⟩) (by simp <;> omega) (.slice (some ⟨q2.heap.size,0,none⟩) s.ps.length s.ps.length));have R6:=hid (R5.other (a:=⟨w.heap.size+1+1,9,none⟩) (by simp <;> omega) (.slice (some ⟨q2.heap.size,0,none⟩) s.ps.length s.ps.length));have X6:=hid (X5.setCell (p:=⟨w.heap.size+1+1,9,none⟩) (by simp;omega) (.slice (some ⟨q2.heap.size,0,none⟩) s.ps.length s.ps.length));replace HI:=hid (HI.same (aL.setLow w5 (p:=⟨w.heap.size+1+1,9,none⟩) (by simp only;omega) (.slice (some ⟨q2.heap.size,0,none⟩) s.ps.length s.ps.length)));replace HM:=hid (HM.same (aL.setLow w5 (p:=⟨w.heap.size+1+1,9,none⟩) (by simp only;omega) (.slice (some ⟨q2.heap.size,0,none⟩) s.ps.length s.ps.length)));replace q4:=hid (q4.same (aL.setLow w5 (p:=⟨w.heap.size+1+1,9,none⟩) (by simp only;omega) (.slice (some ⟨q2.heap.size,0,none⟩) s.ps.length s.ps.length)));replace q3:=hid (q3.same (aL.setLow w5 (p:=⟨w.heap.size+1+1,9,none⟩) (by simp only;omega) (.slice (some ⟨q2.heap.size,0,none⟩) s.ps.length s.ps.length)));simp only [aPj,aPi] at T6;go_upto_region 5 with fail
 obtain ⟨q0,x8⟩:∃W,(w5.setCell ⟨w.heap.size+1+1,9,none⟩ (.slice (some ⟨q2.heap.size,0,none⟩) s.ps.length s.ps.length))=W:=⟨_,rfl⟩
 have c9:q0.heap.size<=w5.heap.size/\w5.heap.size<=q0.heap.size:=by rw [<-x8];simp
 rw [x8] at B6 R6 T6 X6 HI HM q4 q3 ⊢;clear x8 B5 R5 T5 X5 dl d9 e9;have y9:=B6.cell 10 rfl;have bl:=B6.lt;go_wp2_with fail;refine (wM lo hi _ s.m s.F _ (HF.ext hh X6) (aPd hh X6.size) z3).mono ?_;rintro e w7 ⟨rfl,z5,x7⟩;have i6:=x7.size;clear bl y9;have B7:=hid (B6.ext x7);have R7:=hid (R6.ext x7);have T7:=hid (T6.ext x7);have X7:=hid (X6.trans x7);replace HI:=hid (HI.same (x7.same (by first|exact aO3 _|omega)));replace HM:=hid (HM.same (x7.same (by first|exact aO3 _|omega)));replace q4:=hid (q4.same (x7.same (by first|exact aO3 _|omega)));replace q3:=hid (q3.same (x7.same (by first|exact aO3 _|omega)));clear B6 R6 T6 X6;have i2:=z5.lt;have q9:=hid (z5.flats (k:=26) (n:=s.m) (cap:=s.m) (aO3 _) (by unfold maxLen;omega) (lo:=q0.heap.size) (aO3 _) y6);have x2:=hid (z5.srfsM (lo:=q0.heap.size) (aO3 _) z3);clear x7 z5;have y1:=T7.cell 10 rfl;have a4:=T7.free 10;have dl:=T7.lt;have T8:=hid (T7.set 10 (.slice (some ⟨q0.heap.size,0,none⟩) s.m s.m));have B8:=hid (B7.other (a:=⟨w.heap.size+1+1,10,none⟩) (by simp <;> omega) (.slice (some ⟨q0.heap.size,0,none⟩) s.m s.m));have R8:=hid (R7.other (a:=⟨w.heap.size+1+1,10,none⟩) (by simp <;> omega) (.slice (some ⟨q0.heap.size,0,none⟩) s.m s.m));have X8:=hid (X7.setCell (p:=⟨w.heap.size+1+1,10,none⟩) (by simp;omega) (.slice (some ⟨q0.heap.size,0,none⟩) s.m s.m));replace HI:=hid (HI.same (aL.setLow w7 (p:=⟨w.heap.size+1+1,10,none⟩) (by simp only;omega) (.slice (some ⟨q0.heap.size,0,none⟩) s.m s.m)));replace HM:=hid (HM.same (aL.setLow w7 (p:=⟨w.heap.size+1+1,10,none⟩) (by simp only;omega) (.slice (some ⟨q0.heap.size,0,none⟩) s.m s.m)));replace q4:=hid (q4.same (aL.setLow w7 (p:=⟨w.heap.size+1+1,10,none⟩) (by simp only;omega) (.slice (some ⟨q0.heap.size,0,none⟩) s.m s.m)));replace q3:=hid (q3.same (aL.setLow w7 (p:=⟨w.heap.size+1+1,10,none⟩) (by simp only;omega) (.slice (some ⟨q0.heap.size,0,none⟩) s.m s.m)));replace q9:=hid (q9.same (aL.setLow w7 (p:=⟨w.heap.size+1+1,10,none⟩) (by simp only;omega) (.slice (some ⟨q0.heap.size,0,none⟩) s.m s.m)));replace x2:=hid (x2.same (aL.setLow w7 (p:=⟨w.heap.size+1+1,10,none⟩) (by simp only;omega) (.slice (some ⟨q0.heap.size,0,none⟩) s.m s.m)));simp only [aPj,aPi] at T8;go_upto_region 6 with fail
 obtain ⟨q5,x9⟩:∃W,(w7.setCell ⟨w.heap.size+1+1,10,none⟩ (.slice (some ⟨q0.heap.size,0,none⟩) s.m s.m))=W:=⟨_,rfl⟩
 have i0:q5.heap.size<=w7.heap.size/\w7.heap.size<=q5.heap.size:=by rw [<-x9];simp
 rw [x9] at B8 R8 T8 X8 HI HM q4 q3 q9 x2 ⊢;clear x9 B7 R7 T7 X7 dl y1 a4;have a0:=B8.cell 11 rfl;have bl:=B8.lt;have y2:=T8.cell 11 rfl;have a5:=T8.free 11;have dl:=T8.lt;have T9:=hid (T8.set 11 (.int .i64 s.side));have B9:=hid (B8.other (a:=⟨w.heap.size+1+1,11,none⟩) (by simp <;> omega) (.int .i64 s.side));have R9:=hid (R8.other (a:=⟨w.heap.size+1+1,11,none⟩) (by simp <;> omega) (.int .i64 s.side));have X9:=hid (X8.setCell (p:=⟨w.heap.size+1+1,11,none⟩) (by simp;omega) (.int .i64 s.side));replace HI:=hid (HI.same (aL.setLow q5 (p:=⟨w.heap.size+1+1,11,none⟩) (by simp only;omega) (.int .i64 s.side)));replace HM:=hid (HM.same (aL.setLow q5 (p:=⟨w.heap.size+1+1,11,none⟩) (by simp only;omega) (.int .i64 s.side)));replace q4:=hid (q4.same (aL.setLow q5 (p:=⟨w.heap.size+1+1,11,none⟩) (by simp only;omega) (.int .i64 s.side)));replace q3:=hid (q3.same (aL.setLow q5 (p:=⟨w.heap.size+1+1,11,none⟩) (by simp only;omega) (.int .i64 s.side)));replace q9:=hid (q9.same (aL.setLow q5 (p:=⟨w.heap.size+1+1,11,none⟩) (by simp only;omega) (.int .i64 s.side)));replace x2:=hid (x2.same (aL.setLow q5 (p:=⟨w.heap.size+1+1,11,none⟩) (by simp only;omega) (.int .i64 s.side)));simp only [aPj,aPi] at T9;go_upto_region 7 with fail
 obtain ⟨q6,z0⟩:∃W,(q5.setCell ⟨w.heap.size+1+1,11,none⟩ s.side)=W:=⟨_,rfl⟩
 have i1:q6.heap.size<=q5.heap.size/\q5.heap.size<=q6.heap.size:=by rw [<-z0];simp
 rw [z0] at B9 R9 T9 X9 HI HM q4 q3 q9 x2 ⊢;clear z0 B8 R8 T8 X8 dl y2 a5;clear bl a0;have d0:=T9.cell 0 rfl;have g0:=R9.cell 0 rfl;have h0:=R9.free 0;have d1:=T9.cell 1 rfl;have g1:=R9.cell 1 rfl;have h1:=R9.free 1;have d2:=T9.cell 2 rfl;have g2:=R9.cell 2 rfl;have h2:=R9.free 2;have d3:=T9.cell 3 rfl;have g3:=R9.cell 3 rfl;have h3:=R9.free 3;have d4:=T9.cell 4 rfl;have g4:=R9.cell 4 rfl;have h4:=R9.free 4;have d5:=T9.cell 5 rfl;have g5:=R9.cell 5 rfl;have h5:=R9.free 5;have d6:=T9.cell 6 rfl;have g6:=R9.cell 6 rfl;have h6:=R9.free 6;have d7:=T9.cell 7 rfl;have g7:=R9.cell 7 rfl;have h7:=R9.free 7;have d8:=T9.cell 8 rfl;have g8:=R9.cell 8 rfl;have h8:=R9.free 8;have d9:=T9.cell 9 rfl;have g9:=R9.cell 9 rfl;have h9:=R9.free 9;have y1:=T9.cell 10 rfl;have a9:=R9.cell 10 rfl;have c4:=R9.free 10;have y2:=T9.cell 11 rfl;have c0:=R9.cell 11 rfl;have c5:=R9.free 11;have dl:=T9.lt;have gl:=R9.lt;have zz:w.heap.size+1+1<q6.heap.size:=T9.lt
 have zc:w.heap.size+1+1<w1.heap.size/\w1.heap.size<=w3.heap.size/\w3.heap.size<=w5.heap.size/\w5.heap.size<=w7.heap.size/\q6.heap.size=w7.heap.size:=by omega
 have a6:=hid (HI.same ((((((((((((aL.setLow q6 (p:=⟨w.heap.size+1,0,none⟩) (by simp only;omega) (.int .i64 s.c.w)).trans (aL.setLow _ (p:=⟨w.heap.size+1,1,none⟩) (by simp only;omega) (.int .i64 s.c.h))).trans (aL.setLow _ (p:=⟨w.heap.size+1,2,none⟩) (by simp only;omega) (.int .i64 s.c.zoom))).trans (aL.setLow _ (p:=⟨w.heap.size+1,3,none⟩) (by simp only;omega) (.int .i64 s.c.near))).trans (aL.setLow _ (p:=⟨w.heap.size+1,4,none⟩) (by simp only;omega) (.bool s.c.deep))).trans (aL.setLow _ (p:=⟨w.heap.size+1,5,none⟩) (by simp only;omega) (.int .i64 s.c.lens))).trans (aL.setLow _ (p:=⟨w.heap.size+1,6,none⟩) (by simp only;omega) (.int .i64 s.c.focus))).trans (aL.setLow _ (p:=⟨w.heap.size+1,7,none⟩) (by simp only;omega) (.int .i64 s.t.log))).trans (aL.setLow _ (p:=⟨w.heap.size+1,8,none⟩) (by simp only;omega) (.slice p1 s.t.px.length q1))).trans (aL.setLow _ (p:=⟨w.heap.size+1,9,none⟩) (by simp only;omega) (.slice (some ⟨q2.heap.size,0,none⟩) s.ps.length s.ps.length))).trans (aL.setLow _ (p:=⟨w.heap.size+1,10,none⟩) (by simp only;omega) (.slice (some ⟨q0.heap.size,0,none⟩) s.m s.m))).trans (aL.setLow _ (p:=⟨w.heap.size+1,11,none⟩) (by simp only;omega) (.int .i64 s.side))));have a7:=hid (HM.same ((((((((((((aL.setLow q6 (p:=⟨w.heap.size+1,0,none⟩) (by simp only;omega) (.int .i64 s.c.w)).trans (aL.setLow _ (p:=⟨w.heap.size+1,1,none⟩) (by simp only;omega) (.int .i64 s.c.h))).trans (aL.setLow _ (p:=⟨w.heap.size+1,2,none⟩) (by simp only;omega) (.int .i64 s.c.zoom))).trans (aL.setLow _ (p:=⟨w.heap.size+1,3,none⟩) (by simp only;omega) (.int .i64 s.c.near))).trans (aL.setLow _ (p:=⟨w.heap.size+1,4,none⟩) (by simp only;omega) (.bool s.c.deep))).trans (aL.setLow _ (p:=⟨w.heap.size+1,5,none⟩) (by simp only;omega) (.int .i64 s.c.lens))).trans (aL.setLow _ (p:=⟨w.heap.size+1,6,none⟩) (by simp only;omega) (.int .i64 s.c.focus))).trans (aL.setLow _ (p:=⟨w.heap.size+1,7,none⟩) (by simp only;omega) (.int .i64 s.t.log))).trans (aL.setLow _ (p:=⟨w.heap.size+1,8,none⟩) (by simp only;omega) (.slice p1 s.t.px.length q1))).trans (aL.setLow _ (p:=⟨w.heap.size+1,9,none⟩) (by simp only;omega) (.slice (some ⟨q2.heap.size,0,none⟩) s.ps.length s.ps.length))).trans (aL.setLow _ (p:=⟨w.heap.size+1,10,none⟩) (by simp only;omega) (.slice (some ⟨q0.heap.size,0,none⟩) s.m s.m))).trans (aL.setLow _ (p:=⟨w.heap.size+1,11,none⟩) (by simp only;omega) (.int .i64 s.side))));have z8:=hid (q4.same ((((((((((((aL.setLow q6 (p:=⟨w.heap.size+1,0,none⟩) (by simp only;omega) (.int .i64 s.c.w)).trans (aL.setLow _ (p:=⟨w.heap.size+1,1,none⟩) (by simp only;omega) (.int .i64 s.c.h))).trans (aL.setLow _ (p:=⟨w.heap.size+1,2,none⟩) (by simp only;omega) (.int .i64 s.c.zoom))).trans (aL.setLow _ (p:=⟨w.heap.size+1,3,none⟩) (by simp only;omega) (.int .i64 s.c.near))).trans (aL.setLow _ (p:=⟨w.heap.size+1,4,none⟩) (by simp only;omega) (.bool s.c.deep))).trans (aL.setLow _ (p:=⟨w.heap.size+1,5,none⟩) (by simp only;omega) (.int .i64 s.c.lens))).trans (aL.setLow _ (p:=⟨w.heap.size+1,6,none⟩) (by simp only;omega) (.int .i64 s.c.focus))).trans (aL.setLow _ (p:=⟨w.heap.size+1,7,none⟩) (by simp only;omega) (.int .i64 s.t.log))).trans (aL.setLow _ (p:=⟨w.heap.size+1,8,none⟩) (by simp only;omega) (.slice p1 s.t.px.length q1))).trans (aL.setLow _ (p:=⟨w.heap.size+1,9,none⟩) (by simp only;omega) (.slice (some ⟨q2.heap.size,0,none⟩) s.ps.length s.ps.length))).trans (aL.setLow _ (p:=⟨w.heap.size+1,10,none⟩) (by simp only;omega) (.slice (some ⟨q0.heap.size,0,none⟩) s.m s.m))).trans (aL.setLow _ (p:=⟨w.heap.size+1,11,none⟩) (by simp only;omega) (.int .i64 s.side))));have z7:=hid (q3.same ((((((((((((aL.setLow q6 (p:=⟨w.heap.size+1,0,none⟩) (by simp only;omega) (.int .i64 s.c.w)).trans (aL.setLow _ (p:=⟨w.heap.size+1,1,none⟩) (by simp only;omega) (.int .i64 s.c.h))).trans (aL.setLow _ (p:=⟨w.heap.size+1,2,none⟩) (by simp only;omega) (.int .i64 s.c.zoom))).trans (aL.setLow _ (p:=⟨w.heap.size+1,3,none⟩) (by simp only;omega) (.int .i64 s.c.near))).trans (aL.setLow _ (p:=⟨w.heap.size+1,4,none⟩) (by simp only;omega) (.bool s.c.deep))).trans (aL.setLow _ (p:=⟨w.heap.size+1,5,none⟩) (by simp only;omega) (.int .i64 s.c.lens))).trans (aL.setLow _ (p:=⟨w.heap.size+1,6,none⟩) (by simp only;omega) (.int .i64 s.c.focus))).trans (aL.setLow _ (p:=⟨w.heap.size+1,7,none⟩) (by simp only;omega) (.int .i64 s.t.log))).trans (aL.setLow _ (p:=⟨w.heap.size+1,8,none⟩) (by simp only;omega) (.slice p1 s.t.px.length q1))).trans (aL.setLow _ (p:=⟨w.heap.size+1,9,none⟩) (by simp only;omega) (.slice (some ⟨q2.heap.size,0,none⟩) s.ps.length s.ps.length))).trans (aL.setLow _ (p:=⟨w.heap.size+1,10,none⟩) (by simp only;omega) (.slice (some ⟨q0.heap.size,0,none⟩) s.m s.m))).trans (aL.setLow _ (p:=⟨w.heap.size+1,11,none⟩) (by simp only;omega) (.int .i64 s.side))));have z6:=hid (q9.same ((((((((((((aL.setLow q6 (p:=⟨w.heap.size+1,0,none⟩) (by simp only;omega) (.int .i64 s.c.w)).trans (aL.setLow _ (p:=⟨w.heap.size+1,1,none⟩) (by simp only;omega) (.int .i64 s.c.h))).trans (aL.setLow _ (p:=⟨w.heap.size+1,2,none⟩) (by simp only;omega) (.int .i64 s.c.zoom))).trans (aL.setLow _ (p:=⟨w.heap.size+1,3,none⟩) (by simp only;omega) (.int .i64 s.c.near))).trans (aL.setLow _ (p:=⟨w.heap.size+1,4,none⟩) (by simp only;omega) (.bool s.c.deep))).trans (aL.setLow _ (p:=⟨w.heap.size+1,5,none⟩) (by simp only;omega) (.int .i64 s.c.lens))).trans (aL.setLow _ (p:=⟨w.heap.size+1,6,none⟩) (by simp only;omega) (.int .i64 s.c.focus))).trans (aL.setLow _ (p:=⟨w.heap.size+1,7,none⟩) (by simp only;omega) (.int .i64 s.t.log))).trans (aL.setLow _ (p:=⟨w.heap.size+1,8,none⟩) (by simp only;omega) (.slice p1 s.t.px.length q1))).trans (aL.setLow _ (p:=⟨w.heap.size+1,9,none⟩) (by simp only;omega) (.slice (some ⟨q2.heap.size,0,none⟩) s.ps.length s.ps.length))).trans (aL.setLow _ (p:=⟨w.heap.size+1,10,none⟩) (by simp only;omega) (.slice (some ⟨q0.heap.size,0,none⟩) s.m s.m))).trans (aL.setLow _ (p:=⟨w.heap.size+1,11,none⟩) (by simp only;omega) (.int .i64 s.side))));have z9:=hid (x2.same ((((((((((((aL.setLow q6 (p:=⟨w.heap.size+1,0,none⟩) (by simp only;omega) (.int .i64 s.c.w)).trans (aL.setLow _ (p:=⟨w.heap.size+1,1,none⟩) (by simp only;omega) (.int .i64 s.c.h))).trans (aL.setLow _ (p:=⟨w.heap.size+1,2,none⟩) (by simp only;omega) (.int .i64 s.c.zoom))).trans (aL.setLow _ (p:=⟨w.heap.size+1,3,none⟩) (by simp only;omega) (.int .i64 s.c.near))).trans (aL.setLow _ (p:=⟨w.heap.size+1,4,none⟩) (by simp only;omega) (.bool s.c.deep))).trans (aL.setLow _ (p:=⟨w.heap.size+1,5,none⟩) (by simp only;omega) (.int .i64 s.c.lens))).trans (aL.setLow _ (p:=⟨w.heap.size+1,6,none⟩) (by simp only;omega) (.int .i64 s.c.focus))).trans (aL.setLow _ (p:=⟨w.heap.size+1,7,none⟩) (by simp only;omega) (.int .i64 s.t.log))).trans (aL.setLow _ (p:=⟨w.heap.size+1,8,none⟩) (by simp only;omega) (.slice p1 s.t.px.length q1))).trans (aL.setLow _ (p:=⟨w.heap.size+1,9,none⟩) (by simp only;omega) (.slice (some ⟨q2.heap.size,0,none⟩) s.ps.length s.ps.length))).trans (aL.setLow _ (p:=⟨w.heap.size+1,10,none⟩) (by simp only;omega) (.slice (some ⟨q0.heap.size,0,none⟩) s.m s.m))).trans (aL.setLow _ (p:=⟨w.heap.size+1,11,none⟩) (by simp only;omega) (.int .i64 s.side))));have c6:=X9.out;clear B9 HT HP HF;go_wp2;refine bodyPost_ret (v:=.agg #[s.c.w,s.c.h,s.c.zoom,s.c.near,.bool s.c.deep,s.c.lens,s.c.focus,s.t.log,.slice p1 s.t.px.length q1,.slice (some ⟨q2.heap.size,0,none⟩) s.ps.length s.ps.length,.slice (some ⟨q0.heap.size,0,none⟩) s.m s.m,s.side]) (by simp [results,results11,go_sem, *]) rfl ?_;refine ⟨_,rfl,⟨p1,q1,_,_,_,_,rfl,⟨_,_,_,rfl,y5,y7,y8,a6.out.wide (by omega) (by simp;omega),z8.out.wide (by omega) (by simp;omega),z6.out.wide (by omega) (by simp;omega)⟩,a7.out.wide (by omega) (by simp;omega),z7.out.wide (by omega) (by simp;omega),?_⟩,S_⟩;obtain ⟨a,cap,e1,e2,e3,e4⟩:=z9.out;exact ⟨a,cap,e1,e2,e3,fun i hi=>by obtain ⟨b,a8,e,h1,h2⟩:=e4 i hi;exact ⟨b,a8,e,h1.wide (by omega) (by simp;omega),h2.wide (by omega) (by simp;omega)⟩⟩
theorem aBe (lo hi lo' hi':Nat) (v v':Value) (s:Scn) (w:World) (hv:s.R lo hi w v) (hh:hi<=w.heap.size) (hv':s.R lo' hi' w v') (hh':hi'<=w.heap.size) :
  R_ 14 #[v,v'] w (.bool true):=by
 obtain ⟨tu,pu,su,rfl,-,h0,-,k1,k2,k3⟩:=hv;obtain ⟨h2,h3,h4,rfl,-,h1,-,h6,h7,h8⟩:=hv';have HT:=hid (show cJ lo hi w (.agg #[s.t.log,tu]) s.t from ⟨_,rfl,h0,k1⟩);have q1:=hid (show cJ lo' hi' w (.agg #[s.t.log,h2]) s.t from ⟨_,rfl,h0,h6⟩);have HP:=hid k2;have q0:=hid h7;have HF:=hid k3;have h9:=hid h8;have x0:Ext w ((w.alloc (.cells #[s.c.w,s.c.h,s.c.zoom,s.c.near,.bool s.c.deep,s.c.lens,s.c.focus,s.t.log,tu,pu,su,s.side] 40)).alloc (.cells #[s.c.w,s.c.h,s.c.zoom,s.c.near,.bool s.c.deep,s.c.lens,s.c.focus,s.t.log,h2,h3,h4,s.side] 40)):=X_;have b0:=(Blk.new w 40 [s.c.w,s.c.h,s.c.zoom,s.c.near,.bool s.c.deep,s.c.lens,s.c.focus,s.t.log,tu,pu,su,s.side]).ext (show Ext (w.alloc (.cells #[s.c.w,s.c.h,s.c.zoom,s.c.near,.bool s.c.deep,s.c.lens,s.c.focus,s.t.log,tu,pu,su,s.side] 40)) ((w.alloc (.cells #[s.c.w,s.c.h,s.c.zoom,s.c.near,.bool s.c.deep,s.c.lens,s.c.focus,s.t.log,tu,pu,su,s.side] 40)).alloc (.cells #[s.c.w,s.c.h,s.c.zoom,s.c.near,.bool s.c.deep,s.c.lens,s.c.focus,s.t.log,h2,h3,h4,s.side] 40)) from X_);have r0:=Blk.new (w.alloc (.cells #[s.c.w,s.c.h,s.c.zoom,s.c.near,.bool s.c.deep,s.c.lens,s.c.focus,s.t.log,tu,pu,su,s.side] 40)) 40 [s.c.w,s.c.h,s.c.zoom,s.c.near,.bool s.c.deep,s.c.lens,s.c.focus,s.t.log,h2,h3,h4,s.side];rw [aO6] at r0;have B0:=hid b0;have R0:=hid r0;have X0:=hid x0;clear h0 h1 k1 k2 k3 h6 h7 h8 b0 r0 x0;go_enter func14,ntmps14;go_upto_region 1 with fail
 obtain ⟨WA,h5⟩:∃WA,((w.alloc (.cells #[s.c.w,s.c.h,s.c.zoom,s.c.near,.bool s.c.deep,s.c.lens,s.c.focus,s.t.log,tu,pu,su,s.side] 40)).alloc (.cells #[s.c.w,s.c.h,s.c.zoom,s.c.near,.bool s.c.deep,s.c.lens,s.c.focus,s.t.log,h2,h3,h4,s.side] 40))=WA:=⟨_,rfl⟩
 rw [h5] at B0 R0 X0 ⊢;clear h5;have b0:=B0.cell 0 rfl;have r0:=R0.cell 0 rfl;have b1:=B0.cell 1 rfl;have r1:=R0.cell 1 rfl;have b2:=B0.cell 2 rfl;have r2:=R0.cell 2 rfl;have b3:=B0.cell 3 rfl;have r3:=R0.cell 3 rfl;have b4:=B0.cell 4 rfl;have r4:=R0.cell 4 rfl;have b5:=B0.cell 5 rfl;have r5:=R0.cell 5 rfl;have b6:=B0.cell 6 rfl;have r6:=R0.cell 6 rfl;have bl:=B0.lt;have rl:=R0.lt;go_wp2_with fail;refine r_ (xW _ _ _ _ _ _ _ _) fun w1 x1=>?_;have B1:=hid (B0.ext x1);have R1:=hid (R0.ext x1);have X1:=hid (X0.trans x1);clear B0 R0 X0 x1 bl rl b0 r0 b1 r1 b2 r2 b3 r3 b4 r4 b5 r5 b6 r6;have b7:=B1.cell 7 rfl;have r7:=R1.cell 7 rfl;have b8:=B1.cell 8 rfl;have r8:=R1.cell 8 rfl;have bl:=B1.lt;have rl:=R1.lt;go_wp2_with fail;refine r_ (uG lo hi lo' hi' _ _ s.t _ (HT.ext hh X1) (aPd hh X1.size) (q1.ext hh' X1) (aPd hh' X1.size)) fun w2 x2=>?_;have B2:=hid (B1.ext x2);have R2:=hid (R1.ext x2);have X2:=hid (X1.trans x2);clear B1 R1 X1 x2 bl rl b7 r7 b8 r8;have b9:=B2.cell 9 rfl;have r9:=R2.cell 9 rfl;have bl:=B2.lt;have rl:=R2.lt;go_wp2_with fail;refine r_ (tJ lo hi lo' hi' _ _ s.ps _ (HP.ext hh X2) (q0.ext hh' X2) (aPd hh X2.size) (aPd hh' X2.size)) fun w3 x3=>?_;have B3:=hid (B2.ext x3);have R3:=hid (R2.ext x3);have X3:=hid (X2.trans x3);clear B2 R2 X2 x3 bl rl b9 r9;have q2:=B3.cell 10 rfl;have q3:=R3.cell 10 rfl;have bl:=B3.lt;have rl:=R3.lt;go_wp2_with fail;refine r_ (tK lo hi lo' hi' _ _ s.m s.F _ (HF.ext hh X3) (h9.ext hh' X3) (aPd hh X3.size) (aPd hh' X3.size)) fun w4 x4=>?_;have B4:=hid (B3.ext x4);have R4:=hid (R3.ext x4);have X4:=hid (X3.trans x4);clear B3 R3 X3 x4 bl rl q2 q3;have q4:=B4.cell 11 rfl;have q5:=R4.cell 11 rfl;have bl:=B4.lt;have rl:=R4.lt;go_wp2;go_ret;exact ⟨rfl,X4⟩
theorem xX (lo hi:Nat) (v:Value) (s:Scn) (k0:Int) (w:World) (hv:s.O lo hi w v) (hh:hi<=w.heap.size) (hl:lo<=hi) (hs:s.Sm) (h0:0<=k0) (h1:k0<=1000000000) :
  Calls aPa 20 #[v,k0] w fun e w'=>(∃r,e = .returned (.int .i64 r)/\0<=r)/\iZ lo hi w w':=by
 obtain ⟨a1,c1,a2,c2,a3,c3,rfl,-,hI,hP,hS⟩:=hv;have HI:=hid hI;have HP:=hid hP;have h4:=hid hS;have z1:=hs.px;have z2:=hs.n;have z3:=hs.m;have x0:Ext w (w.alloc (.cells (sA_ s a1 c1 a2 c2 a3 c3) 40)):=X_;have B0:=hid (Blk.new w 40 (sL_ s a1 c1 a2 c2 a3 c3));have S0:=hid (Shp.of x0 hh hl);have zx:=x0.size;clear hI hP hS hs x0;go_enter func20,ntmps20;go_wp2_with fail;refine r_ (aC7 lo hi _ _ s.t.px.length k0 _ (HI.shp S0) (by simp;omega) hl h0 (by omega)) fun w1 S1=>?_;have B1:=hid (B0.of (S1.part.block B0.lt (.inr (by omega))));have h2:=hid (S0.trans S1);have y1:=h2.size;have c9:=B1.cell 9 rfl;have cl:=B1.lt;clear B0 S0 S1;go_wp2_with fail;refine (sG lo hi _ s.ps.length _ _ (HP.shp h2) z2 (by omega) hl (by omega) (by omega)).mono ?_;rintro e w2 ⟨⟨r2,rfl,g1,g2⟩,S2⟩;have B2:=hid (B1.of (S2.part.block B1.lt (.inr (by omega))));have h3:=hid (h2.trans S2);have y2:=h3.size;clear B1 h2 S2 c9 cl;have h5:=B2.cell 10 rfl;have cl:=B2.lt;go_wp2_with fail;refine (sH lo hi _ s.m _ _ (h4.shp h3) z3 (by omega) hl (by omega) (by omega)).mono ?_;rintro e w3 ⟨⟨r3,rfl,g3⟩,S3⟩;go_wp2;go_ret;exact ⟨⟨_,rfl,by omega⟩,(h3.trans S3).part⟩
theorem oU (lo hi:Nat) (v:Value) (s:Scn) (k:Int) (p:Smp) (w:World) {X:List cV} (hX:s.sfr k p=X) (hv:s.R lo hi w v) (hh:hi<=w.heap.size) (hsm:s.small) (hx:I64 p.x) (hy:I64 p.y) :
  Calls aPa 17 #[v,k,.agg #[p.x,p.y,p.t,p.lx,p.ly]] w fun e w'=>∃r,e = .returned r/\FrO w.heap.size w'.heap.size w' r X.length (X.flatMap cV.cs)/\Ext w w':=by
 refine (mR lo hi v s k p w hX hv hh hsm hx hy).mono ?_;rintro e w' ⟨r,rfl,h,x⟩;exact ⟨r,rfl,h.frO,x⟩
theorem iF (lo hi:Nat) (v:Value) (s:Scn) (k:Int) (p:Smp) (w:World) {X:List cV} (hX:s.sfr k p=X) (hv:s.R lo hi w v) (hh:hi<=w.heap.size) (hsm:s.small) :
  Calls aPa 18 #[v,k,.agg #[p.x,p.y,p.t,p.lx,p.ly]] w fun e w'=>∃r,e = .returned r/\FrO w.heap.size w'.heap.size w' r X.length (X.flatMap cV.cs)/\Ext w w':=by
 refine (mQ lo hi v s k p w hX hv hh hsm).mono ?_;rintro e w' ⟨r,rfl,h,x⟩;exact ⟨r,rfl,h.frO,x⟩
theorem aLm (vs:Value) (s:Scn) (a:Int) (p:Smp) (W:World) (hs:s.R 0 W.heap.size W vs) (hbs:s.bd) (ha:I64 a) (hp:p.I) :
  R_ 5 #[vs,a,.agg #[p.x,p.y,p.t,p.lx,p.ly]] W (.bool true):=by
 obtain ⟨X,hq⟩:∃X,s.sfr a p=X:=⟨_,rfl⟩
 have HQ:=hid hq;have Hs:=hid hs;have d1:=hid hbs;have Hp:=hid hp;obtain ⟨st,sp,sf,rfl,_⟩:=hs;clear hbs hq;go_enter func5,ntmps5;go_wp2_with fail;refine (aDb 0 W.heap.size _ s 1048576 _ (Hs.ext (aO3 _) X_) (by simp <;> omega) d1 (by decide) (by decide)).mono ?_;rintro e w1 ⟨⟨rs,rfl,hrs⟩,x1⟩;have h1:=hid (((Bx.made W #[s.c.w,s.c.h,s.c.zoom,s.c.near,.bool s.c.deep,s.c.lens,s.c.focus,s.t.log,st,sp,sf,s.side] _).ext ((Ext.refl _).alloc _)).ext x1);have h0:=hid ((Bx.madeAt (B:=W.heap.size+1) (W.alloc _) #[p.x,p.y,p.t,p.lx,p.ly] _ (by simp)).ext x1);have E:Ext W w1:=Ext.trans X_ x1;clear x1;have ps:=h1.lt;obtain ⟨q4,q6,q7,q8,q9,x0,z0,z1,y0,y1,h2,h3⟩:=h1.q12;have pp:=h0.lt;obtain ⟨h9,q0,q1,q2,q3⟩:=h0.q5
 rcases hrs with rfl|⟨ras,rbs,hss⟩
 ·go_wp2_with fail
  go_ret;exact ⟨rfl,E⟩
 have a8:=hid hss;clear hss;have pW:=h0.lt;have hX:=Scn.sfr_len HQ;go_wp2_with fail;have zE:=E.size;refine aA [([0,2,3],1),([],4),([],5),([],6)] 99 w1.heap.size (by kernel_rfl) (by kernel_rfl) ?_;refine st_ fun K hK=>?_;go_wp2_with fail;refine (jS 0 W.heap.size _ s w1.drew (Hs.ext (aO3 _) E.drew) zE a8).mono ?_;rintro e w2 ⟨v2,rfl,O2,x2⟩;have y2:Ext w1 w2:=Ext.trans X_ x2;have z2:=y2.size;go_wp2_with fail;refine k_ hK ?_;clear hK K;refine st_ fun K hK=>?_;go_wp2_with fail;refine (mD p _).mono ?_;rintro e w3 ⟨rfl,O3,x3⟩;have y3:Ext w1 w3:=y2.trans x3;have z3:=x3.size;go_wp2_with fail;refine k_ hK ?_;clear hK K;refine st_ fun K hK=>?_;go_wp2_with fail;refine (oU _ _ _ s a p _ HQ (O2.kp (x3.kp (by first|exact aO3 _|omega))).R (by omega) a8.small Hp.1 Hp.2.1).mono ?_;rintro e w4 ⟨s4,rfl,S4,x4⟩;have y4:Ext w1 w4:=y3.trans x4;have z4:=x4.size;go_wp2_with fail;refine k_ hK ?_;clear hK K;refine st_ fun K hK=>?_;go_wp2_with fail;refine k_ hK ?_;clear hK K;refine aC ?_;replace h1:=hid (h1.kp (y4.kp h1.lt));replace h0:=hid (h0.kp (y4.kp h0.lt));replace E:=E.trans y4;have h5:=hid S4;clear x2 y2 x3 y3 x4 y4 O2 O3 S4;clear ps q4 q6 q7 q8 q9 x0 z0 z1 y0 y1 h2 h3 pp h9 q0 q1 q2 q3;have ps:=h1.lt;obtain ⟨q4,q6,q7,q8,q9,x0,z0,z1,y0,y1,h2,h3⟩:=h1.q12;have pp:=h0.lt;obtain ⟨h9,q0,q1,q2,q3⟩:=h0.q5;go_wp2_with fail;have zE:=E.size;refine (jS 0 W.heap.size _ s _ (Hs.ext (aO3 _) E) zE a8).mono ?_;rintro e w5 ⟨v5,rfl,O5,x5⟩;have z5:=x5.size;replace h1:=hid (h1.kp (x5.kp h1.lt));replace h0:=hid (h0.kp (x5.kp h0.lt));replace h5:=hid (h5.kp (x5.kp (by first|omega|(simp;omega))));replace E:=E.trans x5;have y5:=hid O5;obtain ⟨b5,b6,b7,b8,b9,c0,rfl⟩:=O5.form;clear x5 O5 ps q4 q6 q7 q8 q9 x0 z0 z1 y0 y1 h2 h3 pp h9 q0 q1 q2 q3;have ps:=h1.lt;obtain ⟨q4,q6,q7,q8,q9,x0,z0,z1,y0,y1,h2,h3⟩:=h1.q12;have pp:=h0.lt;obtain ⟨h9,q0,q1,q2,q3⟩:=h0.q5;go_wp2_with fail;have x6:Ext w5 (w5.alloc (.cells (sA_ s b5 b6 b7 b8 b9 c0) 40)):=X_;have h4:=hid (Bx.made w5 #[s.c.w,s.c.h,s.c.zoom,s.c.near,.bool s.c.deep,s.c.lens,s.c.focus,s.t.log,.slice b5 s.t.px.length b6,.slice b7 s.ps.length b8,.slice b9 s.m c0,s.side] 40);have z6:=x6.size;have zE:=E.size;replace h1:=hid (h1.kp (x6.kp h1.lt));replace h0:=hid (h0.kp (x6.kp h0.lt));replace h5:=hid (h5.kp (x6.kp (by first|omega|(simp;omega))));replace y5:=hid (y5.kp (x6.kp (by first|omega|(simp;omega))));replace E:=E.trans x6;clear ps q4 q6 q7 q8 q9 x0 z0 z1 y0 y1 h2 h3 pp h9 q0 q1 q2 q3
 obtain ⟨w6,c7⟩:∃W,w5.alloc (.cells (sA_ s b5 b6 b7 b8 b9 c0) 40)=W:=⟨_,rfl⟩
 try simp only [aO6]
 rw [c7] at h4 E z6 h1 h0 h5 y5 ⊢;clear c7 x6;have ps:=h1.lt;obtain ⟨q4,q6,q7,q8,q9,x0,z0,z1,y0,y1,h2,h3⟩:=h1.q12;have pp:=h0.lt;obtain ⟨h9,q0,q1,q2,q3⟩:=h0.q5;have xs:=h4.lt;obtain ⟨y6,y9,a0,a1,a2,a3,a4,a5,a6,a7,h6,h7⟩:=h4.q12;have zE:=E.size;refine aA [([0,1,2],3),([],4),([],5)] 99 w6.heap.size (by kernel_rfl) (by kernel_rfl) ?_;refine st_ fun K hK=>?_;go_wp2_with fail;refine (mD p _).mono ?_;rintro e w7 ⟨rfl,O7,x7⟩;have y7:Ext w6 w7:=Ext.trans X_ x7;have z7:=y7.size;go_wp2_with fail;refine k_ hK ?_;clear hK K;refine st_ fun K hK=>?_;go_wp2_with fail;refine (iF _ _ _ s a p _ HQ (y5.kp (y7.kp (by omega))).R (by omega) a8.small).mono ?_;rintro e w8 ⟨r8,rfl,O8,x8⟩;have y8:Ext w6 w8:=y7.trans x8;have z8:=x8.size;go_wp2_with fail;refine k_ hK ?_;clear hK K;refine st_ fun K hK=>?_;go_wp2_with fail;refine k_ hK ?_;clear hK K;refine aC ?_;replace h1:=hid (h1.kp (y8.kp h1.lt));replace h0:=hid (h0.kp (y8.kp h0.lt));replace h4:=hid (h4.kp (y8.kp h4.lt));replace h5:=hid (h5.kp (y8.kp (by first|omega|(simp;omega))));replace y5:=hid (y5.kp (y8.kp (by first|omega|(simp;omega))));replace E:=E.trans y8;have h8:=hid O8;clear x7 y7 x8 y8 O7 O8;clear ps q4 q6 q7 q8 q9 x0 z0 z1 y0 y1 h2 h3 pp h9 q0 q1 q2 q3 xs y6 y9 a0 a1 a2 a3 a4 a5 a6 a7 h6 h7;have ps:=h1.lt;obtain ⟨q4,q6,q7,q8,q9,x0,z0,z1,y0,y1,h2,h3⟩:=h1.q12;have pp:=h0.lt;obtain ⟨h9,q0,q1,q2,q3⟩:=h0.q5;have xs:=h4.lt;obtain ⟨y6,y9,a0,a1,a2,a3,a4,a5,a6,a7,h6,h7⟩:=h4.q12;go_wp2_with fail;refine r_ (mC _ _ _ _ _ _ X _ h8 h5) fun w9 x9=>?_;have z9:=x9.size;replace h1:=hid (h1.kp (x9.kp h1.lt));replace h0:=hid (h0.kp (x9.kp h0.lt));replace h4:=hid (h4.kp (x9.kp h4.lt));replace h5:=hid (h5.kp (x9.kp (by first|omega|(simp;omega))));replace y5:=hid (y5.kp (x9.kp (by first|omega|(simp;omega))));replace h8:=hid (h8.kp (x9.kp (by first|omega|(simp;omega))));replace E:=E.trans x9;clear x9 ps q4 q6 q7 q8 q9 x0 z0 z1 y0 y1 h2 h3 pp h9 q0 q1 q2 q3 xs y6 y9 a0 a1 a2 a3 a4 a5 a6 a7 h6 h7;have ps:=h1.lt;obtain ⟨q4,q6,q7,q8,q9,x0,z0,z1,y0,y1,h2,h3⟩:=h1.q12;have pp:=h0.lt;obtain ⟨h9,q0,q1,q2,q3⟩:=h0.q5;have xs:=h4.lt;obtain ⟨y6,y9,a0,a1,a2,a3,a4,a5,a6,a7,h6,h7⟩:=h4.q12;go_wp2_with fail;have zE:=E.size;refine aA [([0,1],2),([],3),([],4)] 99 w9.heap.size (by kernel_rfl) (by kernel_rfl) ?_;refine st_ fun K hK=>?_;go_wp2_with fail;refine (jS 0 W.heap.size _ s w9.drew (Hs.ext (aO3 _) E.drew) zE a8).mono ?_;rintro e w10 ⟨d4,rfl,c4,c8⟩;have b4:Ext w9 w10:=Ext.trans X_ c8;have d6:=b4.size;go_wp2_with fail;refine k_ hK ?_;clear hK K;refine st_ fun K hK=>?_;go_wp2_with fail;refine r_ (aBe _ _ _ _ _ _ s _ (y5.kp (b4.kp (by omega))).R (by omega) c4.R (aO3 _)) fun w11 x11=>?_;have a9:Ext w9 w11:=b4.trans x11;have d7:=x11.size;go_wp2_with fail;refine k_ hK ?_;clear hK K;refine st_ fun K hK=>?_;go_wp2_with fail;refine k_ hK ?_;clear hK K;refine aC ?_;replace h1:=hid (h1.kp (a9.kp h1.lt));replace h0:=hid (h0.kp (a9.kp h0.lt));replace h4:=hid (h4.kp (a9.kp h4.lt));replace h5:=hid (h5.kp (a9.kp (by first|omega|(simp;omega))));replace y5:=hid (y5.kp (a9.kp (by first|omega|(simp;omega))));replace h8:=hid (h8.kp (a9.kp (by first|omega|(simp;omega))));replace E:=E.trans a9;clear c8 b4 x11 a9 c4 ps q4 q6 q7 q8 q9 x0 z0 z1 y0 y1 h2 h3 pp h9 q0 q1 q2 q3 xs y6 y9 a0 a1 a2 a3 a4 a5 a6 a7 h6 h7;have ps:=h1.lt;obtain ⟨q4,q6,q7,q8,q9,x0,z0,z1,y0,y1,h2,h3⟩:=h1.q12;have pp:=h0.lt;obtain ⟨h9,q0,q1,q2,q3⟩:=h0.q5;have xs:=h4.lt;obtain ⟨y6,y9,a0,a1,a2,a3,a4,a5,a6,a7,h6,h7⟩:=h4.q12;go_wp2_with fail;refine (xX _ _ _ s 1 _ y5 (by omega) (by omega) a8 (by omega) (by first|decide|omega)).mono ?_;rintro e w12 ⟨⟨k12,rfl,hk12⟩,x12⟩;have d8:=x12.size;have zE:=E.size;replace h1:=hid (h1.kp (x12.kp h1.lt (by first|omega|(simp;omega))));replace h0:=hid (h0.kp (x12.kp h0.lt (by first|omega|(simp;omega))));replace h4:=hid (h4.kp (x12.kp h4.lt (by first|omega|(simp;omega))));replace h5:=hid (h5.kp (x12.kp (by first|omega|(simp;omega)) (by first|omega|(simp;omega))));replace h8:=hid (h8.kp (x12.kp (by first|omega|(simp;omega)) (by first|omega|(simp;omega))));replace E:=x12.ext E (by omega);clear x12 ps q4 q6 q7 q8 q9 x0 z0 z1 y0 y1 h2 h3 pp h9 q0 q1 q2 q3 xs y6 y9 a0 a1 a2 a3 a4 a5 a6 a7 h6 h7;have ps:=h1.lt;obtain ⟨q4,q6,q7,q8,q9,x0,z0,z1,y0,y1,h2,h3⟩:=h1.q12;have pp:=h0.lt;obtain ⟨h9,q0,q1,q2,q3⟩:=h0.q5;have xs:=h4.lt;obtain ⟨y6,y9,a0,a1,a2,a3,a4,a5,a6,a7,h6,h7⟩:=h4.q12;go_wp2_with fail;refine r_ (mC _ _ _ _ _ _ X _ h8 h5) fun w13 x13=>?_;have d9:=x13.size;replace h1:=hid (h1.kp (x13.kp h1.lt));replace h0:=hid (h0.kp (x13.kp h0.lt));replace h4:=hid (h4.kp (x13.kp h4.lt));replace h5:=hid (h5.kp (x13.kp (by first|omega|(simp;omega))));replace h8:=hid (h8.kp (x13.kp (by first|omega|(simp;omega))));replace E:=E.trans x13;clear x13 ps q4 q6 q7 q8 q9 x0 z0 z1 y0 y1 h2 h3 pp h9 q0 q1 q2 q3 xs y6 y9 a0 a1 a2 a3 a4 a5 a6 a7 h6 h7;have ps:=h1.lt;obtain ⟨q4,q6,q7,q8,q9,x0,z0,z1,y0,y1,h2,h3⟩:=h1.q12;have pp:=h0.lt;obtain ⟨h9,q0,q1,q2,q3⟩:=h0.q5;have xs:=h4.lt;obtain ⟨y6,y9,a0,a1,a2,a3,a4,a5,a6,a7,h6,h7⟩:=h4.q12;clear h4 xs y6 y9 a0 a1 a2 a3 a4 a5 a6 a7 h6 h7;go_wp2_with fail;refine (aC5 _ _ _ X 1 _ h8 (by omega) (by omega) (by omega)).mono ?_;rintro e w14 ⟨rfl,c3,b0⟩;have e0:=b0.size;have zE:=E.size;replace h1:=hid (h1.kp (b0.kp h1.lt (by first|omega|(simp;omega))));replace h0:=hid (h0.kp (b0.kp h0.lt (by first|omega|(simp;omega))));replace h5:=hid (h5.kp (b0.kp (by first|omega|(simp;omega)) (by first|omega|(simp;omega))));replace E:=b0.ext E (by omega);replace h8:=hid c3;clear b0 c3 ps q4 q6 q7 q8 q9 x0 z0 z1 y0 y1 h2 h3 pp h9 q0 q1 q2 q3;have ps:=h1.lt;obtain ⟨q4,q6,q7,q8,q9,x0,z0,z1,y0,y1,h2,h3⟩:=h1.q12;have pp:=h0.lt;obtain ⟨h9,q0,q1,q2,q3⟩:=h0.q5;go_wp2_with fail;refine r_ (rH _ _ _ X.length 1 _ h8 (by omega) (by omega)) fun w15 x15=>?_;have e1:=x15.size;replace h1:=hid (h1.kp (x15.kp h1.lt));replace h0:=hid (h0.kp (x15.kp h0.lt));replace h5:=hid (h5.kp (x15.kp (by first|omega|(simp;omega))));replace h8:=hid (h8.kp (x15.kp (by first|omega|(simp;omega))));replace E:=E.trans x15;clear x15 ps q4 q6 q7 q8 q9 x0 z0 z1 y0 y1 h2 h3 pp h9 q0 q1 q2 q3;have ps:=h1.lt;obtain ⟨q4,q6,q7,q8,q9,x0,z0,z1,y0,y1,h2,h3⟩:=h1.q12;have pp:=h0.lt;obtain ⟨h9,q0,q1,q2,q3⟩:=h0.q5;go_wp2_with fail;have zE:=E.size;refine aA [([0,2,3],1),([],4),([],5),([],6)] 99 w15.heap.size (by kernel_rfl) (by kernel_rfl) ?_;refine st_ fun K hK=>?_;go_wp2_with fail;refine (jS 0 W.heap.size _ s w15.drew (Hs.ext (aO3 _) E.drew) zE a8).mono ?_;rintro e w16 ⟨d5,rfl,c5,c9⟩;have c2:Ext w15 w16:=Ext.trans X_ c9;have e2:=c2.size;go_wp2_with fail;refine k_ hK ?_;clear hK K;refine st_ fun K hK=>?_;go_wp2_with fail;refine (mD p _).mono ?_;rintro e w17 ⟨rfl,d2,b3⟩;have d0:Ext w15 w17:=c2.trans b3;have e3:=b3.size;go_wp2_with fail;refine k_ hK ?_;clear hK K;refine st_ fun K hK=>?_;go_wp2_with fail;refine (iF _ _ _ s a p _ HQ (c5.kp (b3.kp (by first|exact aO3 _|omega))).R (by omega) a8.small).mono ?_;rintro e w18 ⟨d3,rfl,c6,c1⟩;have b1:Ext w15 w18:=d0.trans c1;have e4:=c1.size;go_wp2_with fail;refine k_ hK ?_;clear hK K;refine st_ fun K hK=>?_;go_wp2_with fail;refine k_ hK ?_;clear hK K;refine aC ?_;replace h1:=hid (h1.kp (b1.kp h1.lt));replace h0:=hid (h0.kp (b1.kp h0.lt));replace h5:=hid (h5.kp (b1.kp (by first|omega|(simp;omega))));replace h8:=hid (h8.kp (b1.kp (by first|omega|(simp;omega))));replace E:=E.trans b1;have b2:=hid c6;clear c9 c2 b3 d0 c1 b1 c5 d2 c6;clear ps q4 q6 q7 q8 q9 x0 z0 z1 y0 y1 h2 h3 pp h9 q0 q1 q2 q3 h1 h0;go_wp2_with fail;refine r_ (mC _ _ _ _ _ _ X _ b2 h5) fun w19 x19=>?_;have e5:=x19.size;replace h5:=hid (h5.kp (x19.kp (by first|omega|(simp;omega))));replace h8:=hid (h8.kp (x19.kp (by first|omega|(simp;omega))));replace b2:=hid (b2.kp (x19.kp (by first|omega|(simp;omega))));replace E:=E.trans x19;clear x19;clear b2 h5;go_wp2_with fail;refine r_ (rH _ _ _ X.length 1 _ h8 (by omega) (by omega)) fun w20 x20=>?_;have e6:=x20.size;replace h8:=hid (h8.kp (x20.kp (by first|omega|(simp;omega))));replace E:=E.trans x20;clear x20;go_wp2_with fail;go_ret;exact ⟨rfl,E⟩
section
open Go.ChangeShapes Go.WideShapes Go.ChangeAt Go.RowKit
section
variable {H : Type} {enc : TypeId × Value -> H} {W : World} {base b0 : Nat} {sp : Nat -> Bool} {held : Bool}
theorem aFi {n:Int} (h:(Lit.int .i64 n).wf=true):I64 n:=by
 simp [Lit.wf,IntKind.min,IntKind.max,IntKind.signed,IntKind.bits] at h;exact ⟨by omega,by omega⟩
theorem aOi {v:Value} {d:DataW H} {p:List MemPlace} (hv:aW0 aPa W .any b0 3 v) (h:aXw enc aPa W base sp held 3 v d p):∃n,v = .int .i64 n/\I64 n:=by
 obtain ⟨n,rfl,_,_,hw⟩:=open_int underlying3 hv h;exact ⟨n,rfl,aFi hw⟩
theorem aDc {fuel:Nat} {c:Value} {y:DataW H×List MemPlace} (h:aSq enc aPa W base sp held fuel 24 [c]=some y):∃xs,aS 0 W.heap.size W c xs:=by
 rcases open_ints underlying24 underlying3 (by kernel_rfl) h with ⟨hcs,_⟩|⟨a,len,cap,zs,hcs,_,hl,hm,hz,_,hcell,hwz⟩
 ·obtain rfl:c = .slice none 0 0:=by simpa using hcs
  exact ⟨[],none,0,rfl,aO3 _,by unfold maxLen;omega,fun i x hx=>by simp at hx⟩
 ·obtain rfl:c = .slice (some a) len cap:=by simpa using hcs
  have h1:(zs.take len).length=len:=by
   rw [List.length_take,hz]
   split <;> omega
  refine ⟨zs.take len,some a,cap,by rw [h1],by omega,hm,fun i x hx=>?_⟩
  have hi:i<len:=by have:=(aO7.1 hx).1;omega
  rw [aRe,if_pos hi] at hx;have h3:=(aO7.1 hx).1
  have h2:zs.getD i 0=x:=by simp [List.getD,hx]
  obtain ⟨b,o,s⟩:=a
  obtain rfl:s=none:=by
   cases s with
   | none=>rfl
   | some s=>
    have h0:=hcell 0 (by omega);simp only [aQ6,aS4,if_true] at h0
    split at h0 <;> simp at h0
  have hc:=hcell i h3;rw [h2] at hc
  have ha:(⟨b,o,none⟩:Addr).add i=⟨b,o+i,none⟩:=by
   unfold aS4
   split
   ·rename_i e;subst e;rfl
   ·rfl
  rw [ha] at hc;refine ⟨aFi (hwz x (List.mem_of_getElem? hx)),b,o,rfl,aQh _,?_,hc⟩;simp only [aQ6] at hc
  split at hc
  ·rename_i e;exact (aPq.1 e).1
  ·cases hc
end
end
section
open Go.ChangeShapes Go.WideShapes Go.ChangeAt Go.RowKit
def qC (P:Program):Nat->TypeId->Nat->Option TypeId
 | 0,_,_=>none
 | d+1,t,i=>
  match P.underlying t with
  | some (.struct fs)=>
   match fs.toList.find? (fun f=>decide (f.offset<=i)&&decide (i<f.offset+P.cellsOf f.type)) with
   | some f=>
    match qC P d f.type (i - f.offset) with
    | some u=>if (i - f.offset)+P.cellsOf u<=P.cellsOf f.type then some u else none
    | none=>none
   | none=>none
  | some (.array n e)=>
   if i / P.cellsOf e<n then
    match qC P d e (i % P.cellsOf e) with
    | some u=>if (i % P.cellsOf e)+P.cellsOf u<=P.cellsOf e then some u else none
    | none=>none
   else none
  | some _=>if i=0 then some t else none
  | none=>none
section
variable {H : Type} {enc : TypeId × Value -> H} {P : Program} {W : World} {base : Nat} {sp : Nat -> Bool} {held : Bool}
theorem rK {α : Type} (l:List α) (o k i c:Nat) (h1:o<=i) (h2:i - o+c<=k):((((l.drop o).take k).drop (i - o)).take c)=(l.drop i).take c:=by
 rw [List.drop_take,List.take_take,List.drop_drop,Nat.min_eq_left (by omega)]
 congr 2
 omega
theorem yX (d:Nat):∀{t u:TypeId} {i fuel:Nat} {cs:List Value} {x:DataW H×List MemPlace},qC P d t i=some u->aSq enc P W base sp held fuel t cs=some x ->
  (i=0/\t=u)\/∃(m:Nat) (y:DataW H×List MemPlace),aSq enc P W base sp held m u ((cs.drop i).take (P.cellsOf u))=some y:=by
 induction d with
 | zero=>intro t u i fuel cs x h;simp [qC] at h
 | succ d ih=>
  intro t u i fuel cs x h hx;unfold qC at h
  split at h
  ·rename_i fs h5
   split at h
   ·rename_i f hf
    have hp:=List.find?_some hf;simp only [aPk,decide_eq_true_eq] at hp;have hm:=List.mem_of_find?_eq_some hf
    split at h
    ·rename_i u' hu
     split at h
     ·rename_i h0
      simp only [Option.some.injEq] at h;subst h;obtain ⟨xs,n,_,_,hl,h4,hg⟩:=DataW.trod_struct h5 hx;obtain ⟨j,hj⟩:=List.getElem?_of_mem hm
      have h6:fs[j]?=some f:=by simpa using hj
      have h1:=hg j f h6
      have h8:j<xs.length:=by rw [h4];exact (aPq.1 h6).1
      rw [aPo h8] at h1;refine .inr ?_
      rcases ih hu h1 with ⟨h2,rfl⟩|⟨m,y,hy⟩
      ·refine ⟨n,xs[j],?_⟩
       have:f.offset=i:=by omega
       rw [<-this];exact h1
      ·rw [rK _ _ _ _ _ hp.1 h0] at hy
       exact ⟨m,y,hy⟩
     ·cases h
    ·cases h
   ·cases h
  ·rename_i n e h5
   split at h
   ·rename_i hn
    split at h
    ·rename_i u' hu
     split at h
     ·rename_i h0
      simp only [Option.some.injEq] at h;subst h;obtain ⟨xs,m',_,_,hl,h4,hg⟩:=DataW.trod_array h5 hx;have h1:=hg _ hn;rw [aPo (by omega)] at h1;have h7:=Nat.div_add_mod i (P.cellsOf e);rw [aSu] at h7;refine .inr ?_
      rcases ih hu h1 with ⟨h2,rfl⟩|⟨m,y,hy⟩
      ·refine ⟨m',xs[i / P.cellsOf e]'(by omega),?_⟩
       have:i / P.cellsOf e*P.cellsOf e=i:=by omega
       rw [this] at h1;exact h1
      ·have h3:i % P.cellsOf e=i - i / P.cellsOf e*P.cellsOf e:=by omega
       rw [h3] at hy h0;rw [rK _ _ _ _ _ (by omega) h0] at hy;exact ⟨m,y,hy⟩
     ·cases h
    ·cases h
   ·cases h
  ·split at h
   ·rename_i hi
    simp only [Option.some.injEq] at h;exact .inl ⟨hi,h⟩
   ·cases h
  ·cases h
def lJ (P:Program) (t:TypeId) (k:Nat) (ti:TypeId):Bool:=decide (P.cellsOf t=k)&&decide (P.cellsOf ti=1)&&decide (t≠ti)&&(aPu k).all fun i=>decide (qC P 6 t i=some ti)
theorem yY {t ti:TypeId} {k fuel:Nat} {cs:List Value} {x:DataW H×List MemPlace} (hi:P.underlying ti=some (.int .i64)) (ho:lJ P t k ti=true) (h:aSq enc P W base sp held fuel t cs=some x) :
  ∀i,i<k->∃n,cs[i]?=some (.int .i64 n)/\I64 n:=by
 intro i h0;simp only [lJ,aPk,decide_eq_true_eq,List.all_eq_true,aP8] at ho;obtain ⟨⟨⟨h1,h2⟩,h3⟩,h4⟩:=ho
 rcases yX 6 (h4 i h0) h with ⟨_,e⟩|⟨m,y,hy⟩
 ·exact absurd e h3
 ·rw [h2] at hy
  obtain ⟨n,e0,_,hw⟩:=DataW.trod_int hi hy;refine ⟨n,?_,?_⟩
  ·have:((cs.drop i).take 1)[0]?=some (.int .i64 n):=by rw [e0];rfl
   rw [aRe,if_pos (by decide),List.getElem?_drop] at this;exact this
  ·simp [Lit.wf,IntKind.min,IntKind.max,IntKind.signed,IntKind.bits] at hw
   exact ⟨by omega,by omega⟩
theorem aH4 {t e ti:TypeId} {k fuel:Nat} {c:Value} {y:DataW H×List MemPlace} (ht:P.underlying t=some (.slice e)) (hi:P.underlying ti=some (.int .i64)) (ho:lJ P e k ti=true) (hk:0<k)
  (h:aSq enc P W base sp held fuel t [c]=some y):∃n f,cU k 0 W.heap.size W c n f:=by
 have hC:P.cellsOf e=k:=by
  simp only [lJ,aPk,decide_eq_true_eq] at ho;exact ho.1.1.1
 rcases aUh ht h with ⟨h0,_⟩|⟨a,len,cap,m,n,D,Pl,hcs,hb,hl,hm,hmm,hx,hel⟩
 ·obtain rfl:c = .slice none 0 0:=by simpa using h0
  exact ⟨0,fun _=>0,none,0,rfl,aO3 _,by unfold maxLen;omega,fun i hx=>by omega⟩
 ·obtain rfl:c = .slice (some a) len cap:=by simpa using hcs
  have q1:len<=m:=by rw [hmm];split <;> omega
  rw [hC] at hel
  have h9:∀i,i<len*k->∃x,I64 x/\W.cell? (a.add (i / k*k) |>.add (i % k))=some (.int .i64 x):=by
   intro i h3;have h1:i / k<len:=(Nat.div_lt_iff_lt_mul hk).2 h3;obtain ⟨cs',hc,h6⟩:=hel (i / k) (by omega);obtain ⟨x,h7,h8⟩:=yY hi ho h6 (i % k) (aRu _ hk);obtain ⟨_,q0,h5⟩:=aU0 hc;exact ⟨x,h8,(h5 _ (aRu _ hk)).trans h7⟩
  have h4:∀i,∃x,i<len*k->I64 x/\W.cell? (a.add i)=some (.int .i64 x):=by
   intro i
   by_cases h3:i<len*k
   ·obtain ⟨x,h1,h2⟩:=h9 i h3
    rw [aSa] at h2
    have:i / k*k+i % k=i:=by have:=Nat.div_add_mod i k;rw [aSu] at this;omega
    rw [this] at h2;exact ⟨x,fun _=>⟨h1,h2⟩⟩
   ·exact ⟨0,fun h=>absurd h h3⟩
  obtain ⟨f,hf⟩:=aSl h4;refine ⟨len,f,some a,cap,rfl,hl,hm,fun i h3=>⟨(hf i h3).1,?_⟩⟩;have h0:=(hf 0 (by omega)).2;obtain ⟨b,o,s⟩:=a
  obtain rfl:s=none:=by
   cases s with
   | none=>rfl
   | some s=>
    simp only [aQ6,aS4,if_true] at h0
    split at h0 <;> simp at h0
  have hc:=(hf i h3).2
  have ha:(⟨b,o,none⟩:Addr).add i=⟨b,o+i,none⟩:=by
   unfold aS4
   split
   ·rename_i e;subst e;rfl
   ·rfl
  rw [ha] at hc;refine ⟨b,o,rfl,aQh _,?_,hc⟩;simp only [aQ6] at hc
  split at hc
  ·rename_i e;exact (aPq.1 e).1
  ·cases hc
theorem aMy {t ti:TypeId} {fs:Array Field} {k b0:Nat} {v:Value} {d:DataW H} {p:List MemPlace} (ht:P.underlying t=some (.struct fs)) (hi:P.underlying ti=some (.int .i64)) (ho:lJ P t k ti=true)
  (hv:aW0 P W .any b0 t v) (h:aXw enc P W base sp held t v d p):∃f:Nat->Int,v = .agg ((Array.range k).map fun i=>.int .i64 (f i))/\∀i,i<k->I64 (f i):=by
 obtain ⟨cs,rfl,h4⟩:=okWide_struct ht hv;obtain ⟨fuel,hf⟩:=h
 have hC:P.cellsOf t=k:=by
  simp only [lJ,aPk,decide_eq_true_eq] at ho;exact ho.1.1.1
 have h3:∀i,∃n,i<k->cs[i]?=some (.int .i64 n)/\I64 n:=by
  intro i
  by_cases h0:i<k
  ·obtain ⟨n,h1,h2⟩:=yY hi ho hf i h0
   exact ⟨n,fun _=>⟨by simpa [aXq] using h1,h2⟩⟩
  ·exact ⟨0,fun h=>absurd h h0⟩
 obtain ⟨f,hf⟩:=aSl h3;refine ⟨f,?_,fun i h0=>(hf i h0).2⟩
 congr 1
 apply aTi;intro i
 by_cases h0:i<k
 ·rw [(hf i h0).1]
  simp [h0]
 ·simp [h0]
  omega
end
end
section
open Go.ChangeShapes Go.WideShapes Go.ChangeAt Go.RowKit
section
variable {H : Type} {enc : TypeId × Value -> H} {P : Program} {W : World} {base b0 : Nat} {sp : Nat -> Bool} {held : Bool}
theorem bI {t u:TypeId} {i fuel:Nat} {cs:List Value} {x:DataW H×List MemPlace} (hl:(qC P 6 t i==some u&&decide (t≠u)&&decide (P.cellsOf u=1))=true) (h:aSq enc P W base sp held fuel t cs=some x) (hi:i<cs.length) :
  ∃c m y,cs[i]?=some c/\aSq enc P W base sp held m u [c]=some y:=by
 simp only [aPk,beq_iff_eq,decide_eq_true_eq] at hl;obtain ⟨⟨h1,h2⟩,h3⟩:=hl
 rcases yX 6 h1 h with ⟨_,e⟩|⟨m,y,hy⟩
 ·exact absurd e h2
 ·rw [h3,List.drop_eq_getElem_cons hi] at hy
  exact ⟨cs[i],m,y,by simp [hi],hy⟩
theorem eH {t:TypeId} {fuel:Nat} {c:Value} {y:DataW H×List MemPlace} (ht:P.underlying t=some (.int .i64)) (h:aSq enc P W base sp held fuel t [c]=some y):∃n,c = .int .i64 n/\I64 n:=by
 obtain ⟨k,e0,_,hw⟩:=DataW.trod_int ht h;exact ⟨k,by simpa using e0,aFi hw⟩
theorem yZ {t:TypeId} {fuel:Nat} {c:Value} {y:DataW H×List MemPlace} (ht:P.underlying t=some .string) (h:aSq enc P W base sp held fuel t [c]=some y):∃s,c = .string s/\s.size<=maxLen:=by
 obtain ⟨s,e0,_,hw⟩:=DataW.trod_string ht h;exact ⟨s,by simpa using e0,hw⟩
end
section
variable {H : Type} {enc : TypeId × Value -> H} {W : World} {base b0 : Nat} {sp : Nat -> Bool} {held : Bool}
theorem aLo {fuel:Nat} {c:Value} {y:DataW H×List MemPlace} (h:aSq enc aPa W base sp held fuel 110 [c]=some y):∃xs,Nds 0 W.heap.size W c xs/\∀x∈xs,x.name.size<=maxLen:=by
 rcases aUh underlying110 h with ⟨hcs,_⟩|⟨a,len,cap,m,n,D,Pl,hcs,_,hl,hm,hmm,_,hel⟩
 ·obtain rfl:c = .slice none 0 0:=by simpa using hcs
  exact ⟨[],⟨none,0,rfl,aO3 _,by unfold maxLen;omega,fun i x hx=>by simp at hx⟩,fun s hs=>by cases hs⟩
 ·obtain rfl:c = .slice (some a) len cap:=by simpa using hcs
  have h6:len<=m:=by rw [hmm];split <;> omega
  have hC:Tryz.prog.cellsOf 237=4:=by kernel_rfl
  rw [hC] at hel
  have h3:∀i,∃x:Nd,i<len->(I64 x.op/\I64 x.num/\x.name.size<=maxLen)/\W.cell? (a.add (i*4))=some (.int .i64 x.op)/\W.cell? (a.add (i*4+1))=some (.string x.name)/\W.cell? (a.add (i*4+2))=some (.int .i64 x.num)/\∃u,W.cell? (a.add (i*4+3))=some u/\aS 0 W.heap.size W u x.args:=by
   intro i
   by_cases h4:i<len
   ·obtain ⟨cs',hc,h2⟩:=hel i (by omega)
    obtain ⟨_,h5,h1⟩:=aU0 hc;obtain ⟨c0,m0,y0,e0,t0⟩:=bI (i:=0) (u:=3) (by kernel_rfl) h2 (by omega);obtain ⟨c1,m1,y1,e1,t1⟩:=bI (i:=1) (u:=9) (by kernel_rfl) h2 (by omega);obtain ⟨c2,m2,y2,e2,t2⟩:=bI (i:=2) (u:=3) (by kernel_rfl) h2 (by omega);obtain ⟨c3,m3,y3,e3,t3⟩:=bI (i:=3) (u:=24) (by kernel_rfl) h2 (by omega);obtain ⟨px,hx⟩:=aDc t3;obtain ⟨n0,rfl,i0⟩:=eH underlying3 t0;obtain ⟨s,rfl,i1⟩:=yZ underlying9 t1;obtain ⟨n2,rfl,i2⟩:=eH underlying3 t2;refine ⟨⟨n0,s,n2,px⟩,fun _=>⟨⟨i0,i2,i1⟩,?_,?_,?_,c3,?_,hx⟩⟩
    ·have:=h1 0 (by omega);rw [aSa] at this;exact this.trans e0
    ·have:=h1 1 (by omega);rw [aSa] at this;exact this.trans e1
    ·have:=h1 2 (by omega);rw [aSa] at this;exact this.trans e2
    ·have:=h1 3 (by omega);rw [aSa] at this;exact this.trans e3
   ·exact ⟨⟨0,⟨#[]⟩,0,[]⟩,fun h=>absurd h h4⟩
  obtain ⟨f,hf⟩:=aSl h3;refine ⟨(aPu len).map f,⟨some a,cap,by simp,by simpa using hl,hm,fun i x hx=>?_⟩,fun s hs=>?_⟩
  ·have hi:i<len:=by have:=(aO7.1 hx).1;simpa using this
   obtain rfl:f i=x:=by simpa [hi] using hx
   obtain ⟨⟨i0,i2,_⟩,g0,g1,g2,u,g3,hu⟩:=hf i hi;refine ⟨⟨i0,i2⟩,?_⟩;have h0:=(hf 0 (by omega)).2.1;clear hf hel h3;obtain ⟨b,o,s⟩:=a
   obtain rfl:s=none:=by
    cases s with
    | none=>rfl
    | some s=>
     simp only [aQ6,aS4,aTo,if_true] at h0
     split at h0 <;> simp at h0
   have ha:∀k,(⟨b,o,none⟩:Addr).add k=⟨b,o+k,none⟩:=by
    intro k;unfold aS4
    split
    ·rename_i e;subst e;rfl
    ·rfl
   rw [ha] at g0 g1 g2 g3;refine ⟨b,o,u,rfl,aQh _,?_,g0,by rw [aQv];exact g1,by rw [aQv];exact g2,by rw [aQv];exact g3,hu⟩;simp only [aQ6] at g0
   split at g0
   ·rename_i e;exact (aPq.1 e).1
   ·cases g0
  ·obtain ⟨i,hi,rfl⟩:=aQ5.1 hs
   exact (hf i (aP8.1 hi)).1.2.2
theorem aJz {fuel:Nat} {c:Value} {y:DataW H×List MemPlace} (h:aSq enc aPa W base sp held fuel 111 [c]=some y):∃xs,mM 0 W.heap.size W c xs/\∀x∈xs,x.name.size<=maxLen:=by
 rcases aUh underlying111 h with ⟨hcs,_⟩|⟨a,len,cap,m,n,D,Pl,hcs,_,hl,hm,hmm,_,hel⟩
 ·obtain rfl:c = .slice none 0 0:=by simpa using hcs
  exact ⟨[],⟨none,0,rfl,aO3 _,by unfold maxLen;omega,fun i x hx=>by simp at hx⟩,fun s hs=>by cases hs⟩
 ·obtain rfl:c = .slice (some a) len cap:=by simpa using hcs
  have h6:len<=m:=by rw [hmm];split <;> omega
  have hC:Tryz.prog.cellsOf 239=2:=by kernel_rfl
  rw [hC] at hel
  have h3:∀i,∃x:Asg,i<len->(I64 x.root/\x.name.size<=maxLen)/\W.cell? (a.add (i*2))=some (.string x.name)/\W.cell? (a.add (i*2+1))=some (.int .i64 x.root):=by
   intro i
   by_cases h4:i<len
   ·obtain ⟨cs',hc,h2⟩:=hel i (by omega)
    obtain ⟨_,h5,h1⟩:=aU0 hc;obtain ⟨c0,m0,y0,e0,t0⟩:=bI (i:=0) (u:=9) (by kernel_rfl) h2 (by omega);obtain ⟨c1,m1,y1,e1,t1⟩:=bI (i:=1) (u:=3) (by kernel_rfl) h2 (by omega);obtain ⟨s,rfl,i0⟩:=yZ underlying9 t0;obtain ⟨n1,rfl,i1⟩:=eH underlying3 t1;refine ⟨⟨s,n1⟩,fun _=>⟨⟨i1,i0⟩,?_,?_⟩⟩
    ·have:=h1 0 (by omega);rw [aSa] at this;exact this.trans e0
    ·have:=h1 1 (by omega);rw [aSa] at this;exact this.trans e1
   ·exact ⟨⟨⟨#[]⟩,0⟩,fun h=>absurd h h4⟩
  obtain ⟨f,hf⟩:=aSl h3;refine ⟨(aPu len).map f,⟨some a,cap,by simp,by simpa using hl,hm,fun i x hx=>?_⟩,fun s hs=>?_⟩
  ·have hi:i<len:=by have:=(aO7.1 hx).1;simpa using this
   obtain rfl:f i=x:=by simpa [hi] using hx
   obtain ⟨⟨i0,_⟩,g0,g1⟩:=hf i hi;refine ⟨i0,?_⟩;have h0:=(hf 0 (by omega)).2.1;clear hf hel h3;obtain ⟨b,o,s⟩:=a
   obtain rfl:s=none:=by
    cases s with
    | none=>rfl
    | some s=>
     simp only [aQ6,aS4,aTo,if_true] at h0
     split at h0 <;> simp at h0
   have ha:∀k,(⟨b,o,none⟩:Addr).add k=⟨b,o+k,none⟩:=by
    intro k;unfold aS4
    split
    ·rename_i e;subst e;rfl
    ·rfl
   rw [ha] at g0 g1;refine ⟨b,o,rfl,aQh _,?_,g0,by rw [aQv];exact g1⟩;simp only [aQ6] at g0
   split at g0
   ·rename_i e;exact (aPq.1 e).1
   ·cases g0
  ·obtain ⟨i,hi,rfl⟩:=aQ5.1 hs
   exact (hf i (aP8.1 hi)).1.2
end
end
section
open Go.ChangeShapes Go.WideShapes Go.ChangeAt Go.RowKit
section
variable {H : Type} {enc : TypeId × Value -> H} {P : Program} {W : World} {base b0 : Nat} {sp : Nat -> Bool} {held : Bool}
theorem aFj {t:TypeId} {fuel:Nat} {c:Value} {y:DataW H×List MemPlace} (ht:P.underlying t=some .bool) (h:aSq enc P W base sp held fuel t [c]=some y):∃b,c = .bool b:=by
 obtain ⟨b,e0,_⟩:=DataW.trod_bool ht h;exact ⟨b,by simpa using e0⟩
end
section
variable {H : Type} {enc : TypeId × Value -> H} {W : World} {base b0 : Nat} {sp : Nat -> Bool} {held : Bool}
theorem aJ0 {fuel:Nat} {c:Value} {y:DataW H×List MemPlace} (h:aSq enc aPa W base sp held fuel 27 [c]=some y):∃ps,fX 0 W.heap.size W c ps/\∀p∈ps,p.bd:=by
 rcases aUh underlying27 h with ⟨hcs,_⟩|⟨a,len,cap,m,n,D,Pl,hcs,_,hl,hm,hmm,_,hel⟩
 ·obtain rfl:c = .slice none 0 0:=by simpa using hcs
  exact ⟨[],⟨none,0,rfl,aO3 _,by unfold maxLen;omega,fun i x hx=>by simp at hx⟩,fun s hs=>by cases hs⟩
 ·obtain rfl:c = .slice (some a) len cap:=by simpa using hcs
  have h7:len<=m:=by rw [hmm];split <;> omega
  have hC:Tryz.prog.cellsOf 113=2:=by kernel_rfl
  rw [hC] at hel
  have h3:∀i,∃x:Prg,i<len->x.bd/\∃u1 u2,W.cell? (a.add (i*2))=some u1/\W.cell? (a.add (i*2+1))=some u2/\x.R 0 W.heap.size W (.agg #[u1,u2]):=by
   intro i
   by_cases h4:i<len
   ·obtain ⟨cs',hc,h2⟩:=hel i (by omega)
    obtain ⟨_,h6,h1⟩:=aU0 hc;obtain ⟨c0,m0,y0,e0,t0⟩:=bI (i:=0) (u:=110) (by kernel_rfl) h2 (by omega);obtain ⟨c1,m1,y1,e1,t1⟩:=bI (i:=1) (u:=111) (by kernel_rfl) h2 (by omega);obtain ⟨xs,hx,bx⟩:=aLo t0;obtain ⟨ls,h5,bl⟩:=aJz t1;refine ⟨⟨xs,ls⟩,fun _=>⟨⟨bx,bl⟩,c0,c1,?_,?_,_,_,rfl,hx,h5⟩⟩
    ·have:=h1 0 (by omega);rw [aSa] at this;exact this.trans e0
    ·have:=h1 1 (by omega);rw [aSa] at this;exact this.trans e1
   ·exact ⟨⟨[],[]⟩,fun h=>absurd h h4⟩
  obtain ⟨f,hf⟩:=aSl h3;refine ⟨(aPu len).map f,⟨some a,cap,by simp,by simpa using hl,hm,fun i x hx=>?_⟩,fun s hs=>?_⟩
  ·have hi:i<len:=by have:=(aO7.1 hx).1;simpa using this
   obtain rfl:f i=x:=by simpa [hi] using hx
   obtain ⟨_,u1,u2,g0,g1,hR⟩:=hf i hi;obtain ⟨_,v1,v2,h0,_⟩:=hf 0 (by omega);clear hf hel h3;obtain ⟨b,o,s⟩:=a
   obtain rfl:s=none:=by
    cases s with
    | none=>rfl
    | some s=>
     simp only [aQ6,aS4,aTo,if_true] at h0
     split at h0 <;> simp at h0
   have ha:∀k,(⟨b,o,none⟩:Addr).add k=⟨b,o+k,none⟩:=by
    intro k;unfold aS4
    split
    ·rename_i e;subst e;rfl
    ·rfl
   rw [ha] at g0 g1;refine ⟨b,o,u1,u2,rfl,aQh _,?_,g0,by rw [aQv];exact g1,hR⟩;simp only [aQ6] at g0
   split at g0
   ·rename_i e;exact (aPq.1 e).1
   ·cases g0
  ·obtain ⟨i,hi,rfl⟩:=aQ5.1 hs
   exact (hf i (aP8.1 hi)).1
theorem aOj {v:Value} {d:DataW H} {p:List MemPlace} (hv:aW0 aPa W .any b0 30 v) (h:aXw enc aPa W base sp held 30 v d p) :
  ∃s:Scn,s.R 0 W.heap.size W v/\s.bd:=by
 obtain ⟨cs,rfl,h0⟩:=okWide_struct underlying30 hv
 have hC:Tryz.prog.cellsOf 30=12:=by kernel_rfl
 rw [hC] at h0;obtain ⟨fuel,hf⟩:=h
 have h6:(Value.agg cs).cells.toList.length=12:=by simp [aXq,h0]
 obtain ⟨c0,m0,y0,e0,t0⟩:=bI (i:=0) (u:=3) (by kernel_rfl) hf (by omega);obtain ⟨c1,m1,y1,e1,t1⟩:=bI (i:=1) (u:=3) (by kernel_rfl) hf (by omega);obtain ⟨c2,m2,y2,e2,t2⟩:=bI (i:=2) (u:=3) (by kernel_rfl) hf (by omega);obtain ⟨c3,m3,y3,e3,t3⟩:=bI (i:=3) (u:=3) (by kernel_rfl) hf (by omega);obtain ⟨c4,m4,y4,e4,t4⟩:=bI (i:=4) (u:=4) (by kernel_rfl) hf (by omega);obtain ⟨c5,m5,y5,e5,t5⟩:=bI (i:=5) (u:=3) (by kernel_rfl) hf (by omega);obtain ⟨c6,m6,y6,e6,t6⟩:=bI (i:=6) (u:=3) (by kernel_rfl) hf (by omega);obtain ⟨c7,m7,y7,e7,t7⟩:=bI (i:=7) (u:=3) (by kernel_rfl) hf (by omega);obtain ⟨c8,m8,y8,e8,t8⟩:=bI (i:=8) (u:=24) (by kernel_rfl) hf (by omega);obtain ⟨c9,m9,y9,e9,t9⟩:=bI (i:=9) (u:=27) (by kernel_rfl) hf (by omega);obtain ⟨h1,q2,q4,h2,h9⟩:=bI (i:=10) (u:=28) (by kernel_rfl) hf (by omega);obtain ⟨q1,q3,q5,h3,q0⟩:=bI (i:=11) (u:=3) (by kernel_rfl) hf (by omega);obtain ⟨k0,rfl,i0⟩:=eH underlying3 t0;obtain ⟨k1,rfl,i1⟩:=eH underlying3 t1;obtain ⟨k2,rfl,i2⟩:=eH underlying3 t2;obtain ⟨k3,rfl,i3⟩:=eH underlying3 t3;obtain ⟨k4,rfl⟩:=aFj underlying4 t4;obtain ⟨k5,rfl,i5⟩:=eH underlying3 t5;obtain ⟨k6,rfl,i6⟩:=eH underlying3 t6;obtain ⟨k7,rfl,i7⟩:=eH underlying3 t7;obtain ⟨px,hx⟩:=aDc t8;obtain ⟨ps,h7,h5⟩:=aJ0 t9;obtain ⟨n,f,hp⟩:=aH4 (k:=26) (e:=134) underlying28 underlying3 (by kernel_rfl) (by omega) h9;obtain ⟨h4,rfl,h8⟩:=eH underlying3 q0
 have e:cs=#[(k0:Value),k1,k2,k3,.bool k4,k5,k6,k7,c8,c9,h1,h4]:=by
  apply aTi;intro i;simp only [aXq,Array.getElem?_toList] at e0 e1 e2 e3 e4 e5 e6 e7 e8 e9 h2 h3
  match i with
  | 0=>simpa using e0
  | 1=>simpa using e1
  | 2=>simpa using e2
  | 3=>simpa using e3
  | 4=>simpa using e4
  | 5=>simpa using e5
  | 6=>simpa using e6
  | 7=>simpa using e7
  | 8=>simpa using e8
  | 9=>simpa using e9
  | 10=>simpa using h2
  | 11=>simpa using h3
  | i+12=>simp [h0]
 subst e;exact ⟨⟨⟨k0,k1,k2,k3,k4,k5,k6⟩,⟨k7,px⟩,ps,n,f,h4⟩,⟨c8,c9,h1,rfl,⟨i0,i1,i2,i3,i5,i6⟩,i7,h8,hx,h7,hp⟩,h5⟩
end
end
section
open Go.ChangeShapes Go.WideShapes Go.ChangeAt Go.RowKit
section
variable {H : Type} {enc : TypeId × Value -> H} {W : World} {base b0 : Nat} {sp : Nat -> Bool} {held : Bool}
theorem aOk {v:Value} {d:DataW H} {p:List MemPlace} (hv:aW0 aPa W .any b0 32 v) (h:aXw enc aPa W base sp held 32 v d p) :
  ∃s:Smp,v = .agg #[s.x,s.y,s.t,s.lx,s.ly]/\s.I:=by
 obtain ⟨f,rfl,hi⟩:=aMy (k:=5) underlying32 underlying3 (by kernel_rfl) hv h;exact ⟨⟨f 0,f 1,f 2,f 3,f 4⟩,by simp [<-Array.toList_inj,List.range_succ],hi 0 (by decide),hi 1 (by decide),hi 2 (by decide),hi 3 (by decide),hi 4 (by decide)⟩
end
end
section
namespace fnExactSurfaceFragments
open Go.ChangeShapes Go.WideShapes Go.ChangeAt Go.RowKit
theorem vK:Tryz.pinned.checked.prog.funcNamed Rows.fnExactSurfaceFragmentsRow.func=some 5:=by kernel_rfl
end fnExactSurfaceFragments
end
end Go.Proofs.YthgpegkmjeigmaaGreat
