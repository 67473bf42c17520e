/- Texts of this claim, packed: what its theorem does not use is left out. -/
import Derived.Test.YthgpegkmjeigmaaGreatP35W4
import Derived.Test.YthgpegkmjeigmaaGreatP35W1
import Derived.Test.YthgpegkmjeigmaaGreatP35W2
import Derived.Deep.CutBlock
import Derived.Test.YthgpegkmjeigmaaGreatP35W3
set_option linter.unusedSimpArgs false
set_option linter.unusedVariables false
set_option maxRecDepth 100000
set_option maxHeartbeats 12800000
namespace Go.Proofs.YthgpegkmjeigmaaGreat
open Go.RowKit
open Go.Proofs.Tryz
open _root_.Go.Act renaming put→aU1
variable {a b d i j lx ly r x y z:Int} {us:List Value} {Q c h hi k lo n q sd side sz u:Nat} {f:Nat→Int} {e:TypeId} {av cv v:Value} {w w':World}
open _root_.Bool renaming and_eq_true→aTs,false_eq_true→aV0
open _root_.Go.Addr.mk renaming injEq→aUj
open _root_.Go.Obj.cells renaming injEq→aUt
open _root_.Go.Proofs.Tryz renaming prog→aTg
open _root_.Go.Proofs.YthgpegkmjeigmaaGreat.Blk renaming new→aTm
open _root_.Go.Proofs.YthgpegkmjeigmaaGreat.Ext renaming setCell→aTu,grown→aUo,block→aTq,alloc→aZ9,trans→aTi,drew→aUi,refl→aTn
open _root_.Go.Proofs.YthgpegkmjeigmaaGreat.SC renaming drew→aV8,blocks→aUl
open _root_.Go.Proofs.YthgpegkmjeigmaaGreat.V3 renaming scr→aU4
open _root_.Go.RowKit.Below renaming heap_setCell→aTo
open _root_.Go.Value renaming ownBlock→aUd,slice→aUk,int→aWn
open _root_.Go.Value.slice renaming injEq→aTw
open _root_.Go.World renaming size_alloc→aTe
open _root_.Int renaming le_refl→bAi,tdiv→bCb,tdiv_eq_ediv_of_nonneg→aVi,emod_nonneg→aXr,emod_lt_of_pos→aW0,mul_nonneg→aUw,toNat_natCast→aT7,tmod_eq_emod_of_nonneg→aVu,natCast_add→aVs,natCast_mul→aWx
open _root_.List renaming range→aT3,range_succ→aVx,map_append→aVq,map_singleton→aXm,getElem?_eq_some_iff→aTd,getElem?_map→aU0,getElem?_eq_getElem→aTk,nil_append→aVd,filterMap_cons→aT4,filterMap_nil→aTv,getElem?_toArray→aTh,getElem?_cons_zero→aTa,getElem?_cons_succ→aTb,setIfInBounds_toArray→aTj,set_cons_succ→aTr,set_cons_zero→aTp,getElem_toArray→aYs,getElem_cons_succ→aXh,getElem_cons_zero→aXi,getElem_of_mem→aUf,mem_append→aVh,mem_singleton→aVa,pairwise_append→aW9,pairwise_singleton→aXd,not_mem_nil→aTt,mem_of_getElem?→aT2,mem_cons→aTz,length_map→aUn,length_range→aWd,getElem_mem→aTy,all_eq_false→aWr,all_eq_true→aUr,getElem_map→aW1,getElem_range→aV9,mem_range→aUp,take_succ_eq_append_getElem→aT6,flatMap_append→aUv,length_append→aT5,take_length→aUb,length_take→aT0,append_assoc→aUg,flatMap_singleton→aXg,getD_eq_getElem?_getD→aT8,append_nil→aVw,take_append_drop→aWg,getElem?_append_left→aUm,length_drop→aWb,getElem?_append_right→aT9,length_nil→aVp,singleton_append→aZ4,filter_append→bCt
open _root_.Nat renaming add_comm→aZw,add_mul_mod_self_right→aYv,mod_eq_of_lt→aW2,add_mul_div_right→aZ5,div_eq_of_lt→aYx,zero_add→aUa,mul_le_mul→aUh,le_refl→aTc,zero_mul→aXv,succ_mul→aYz,mod_lt→aV2,div_lt_of_lt_mul→aVj,zero_le→aUx,lt_or_ge→aUc,add_zero→aUq,lt_of_lt_of_le→aUu,le_trans→aTl,le_of_lt→aWc,add_assoc→aU5,min_eq_left→aV1
open _root_.Option.some renaming injEq→aTf,inj→aU8
theorem pJ {e n:Int} (ha : -1000000<=a/\a<=1000000) (hb : -1000000<=b/\b<=1000000) (hd : -1000000<=d/\d<=1000000) (he : -1000000<=e/\e<=1000000) (hn:1<=n/\n<=64) (hi:0<=i/\i<=n) (hj:0<=j/\j<=n)
  (hr:bY (a*((n - i)*(n - j))+b*(i*(n - j))+d*((n - i)*j)+e*(i*j)) (n*n)=r) (w:World) :
  Calls aTg 231 #[a,b,d,e,i,j,n] w fun x w'=>x = .returned (.int .i64 r)/\w=w':=by
 obtain ⟨ni,h2⟩:=e_ (n - i)
 obtain ⟨nj,h3⟩:=e_ (n - j)
 have h0 : -64<=ni/\ni<=64:=by omega
 have h1 : -64<=nj/\nj<=64:=by omega
 have ib : -64<=i/\i<=64:=by omega
 have jb : -64<=j/\j<=64:=by omega
 have nb : -64<=n/\n<=64:=by omega
 obtain ⟨q1,h4⟩:=e_ (a*ni)
 have b1 : -64000000<=q1/\q1<=64000000:=by have:=bK (A:=1000000) (B:=64) ha h0;omega
 obtain ⟨q2,h5⟩:=e_ (q1*nj)
 have b2 : -4096000000<=q2/\q2<=4096000000:=by have:=bK (A:=64000000) (B:=64) b1 h1;omega
 obtain ⟨q3,h6⟩:=e_ (b*i)
 have b3 : -64000000<=q3/\q3<=64000000:=by have:=bK (A:=1000000) (B:=64) hb ib;omega
 obtain ⟨q4,h7⟩:=e_ (q3*nj)
 have b4 : -4096000000<=q4/\q4<=4096000000:=by have:=bK (A:=64000000) (B:=64) b3 h1;omega
 obtain ⟨q5,h8⟩:=e_ (d*ni)
 have b5 : -64000000<=q5/\q5<=64000000:=by have:=bK (A:=1000000) (B:=64) hd h0;omega
 obtain ⟨q6,h9⟩:=e_ (q5*j)
 have b6 : -4096000000<=q6/\q6<=4096000000:=by have:=bK (A:=64000000) (B:=64) b5 jb;omega
 obtain ⟨q7,q0⟩:=e_ (e*i)
 have b7 : -64000000<=q7/\q7<=64000000:=by have:=bK (A:=1000000) (B:=64) he ib;omega
 obtain ⟨q8,x0⟩:=e_ (q7*j)
 have b8 : -4096000000<=q8/\q8<=4096000000:=by have:=bK (A:=64000000) (B:=64) b7 jb;omega
 obtain ⟨q9,x1⟩:=e_ (n*n)
 have b9 : -4096<=q9/\q9<=4096:=by have:=bK (A:=64) (B:=64) nb nb;omega
 have hs:bY (q2+q4+q6+q8) q9=r:=by
  rw [<-hr,<-x1]
  congr 1
  rw [<-h5,<-h7,<-h9,<-x0,<-h4,<-h6,<-h8,<-q0,h2,h3];simp only [Int.mul_assoc]
 have HS:=hid hs;clear hr hs;go_enter func231,ntmps231;go_wp2_with fail;refine (aV ⟨by omega,by omega⟩ HS _).mono ?_;rintro e1 w1 ⟨rfl,rfl⟩;go_wp2;go_ret;exact ⟨rfl,rfl⟩
theorem aIs (f:Nat->Int) (i j n:Int) (hn:1<=n/\n<=64) (hi:0<=i/\i<=n) (hj:0<=j/\j<=n) (w:World) :
  R_ 192 #[.agg f,i,j,n] w ((evP f i j n).V):=by
 obtain ⟨g,hg⟩:∃g:Nat->Int,g=fun k=>cl (f k):=⟨_,rfl⟩
 obtain ⟨HG,HB⟩:=h2_ (show ∀k,cl (f k)=g k from fun k=>by rw [hg]) (show ∀k,-1000000<=g k/\g k<=1000000 from fun k=>by rw [hg];exact cX _)
 obtain ⟨m1,h3⟩:=e_ ((evP f i j n).x)
 obtain ⟨m2,h4⟩:=e_ ((evP f i j n).y)
 obtain ⟨m3,h5⟩:=e_ ((evP f i j n).z)
 obtain ⟨x7,x8,x9⟩:=h3_ (show bY (g 0*((n - i)*(n - j))+g 3*(i*(n - j))+g 6*((n - i)*j)+g 9*(i*j)) (n*n)=m1 by rw [hg,<-h3];rfl) (show bY (g 1*((n - i)*(n - j))+g 4*(i*(n - j))+g 7*((n - i)*j)+g 10*(i*j)) (n*n)=m2 by rw [hg,<-h4];rfl) (show bY (g 2*((n - i)*(n - j))+g 5*(i*(n - j))+g 8*((n - i)*j)+g 11*(i*j)) (n*n)=m3 by rw [hg,<-h5];rfl)
 have hV:(evP f i j n).V = .agg #[m1,m2,m3]:=by rw [<-h3,<-h4,<-h5];rfl
 rw [hV];obtain ⟨h2,h0,h1⟩:=h3_ hn hi hj;clear hg h3 h4 h5 hV;have r0:=aCk (w:=w) (t:=125) (f:=f) rfl
 have q0:=(aTm (w.alloc (.cells f 125)) 122 [(),(),()])
 rw [aTe] at q0;have x0:Ext w ((w.alloc (.cells f 125)).alloc (.cells #[(),(),()] 122)):=X_;obtain ⟨R0,Q0,X0⟩:=h3_ (r0.alloc (.cells #[(),(),()] 122)) q0 x0;have x6:inB n 1 64=true:=aG.2 ⟨by omega,by omega⟩;have q9:inB i 0 n=true:=aG.2 ⟨by omega,by omega⟩;have x5:inB j 0 n=true:=aG.2 ⟨by omega,by omega⟩;obtain ⟨HN,HI,HJ⟩:=h3_ x6 q9 x5;clear r0 q0 x0 x6 q9 x5;go_enter func192,ntmps192;go_wp2_with fail;refine r_ (kG (HG 0) (HG 1) (HG 2) _) fun w1 x1=>?_;have y1:Ext w1 (w1.alloc (.cells #[(g 0),(g 1),(g 2)] 122)):=X_;have b1:=aTm w1 122 [(g 0),(g 1),(g 2)];obtain ⟨R1,Q1,X1,h6⟩:=h4_ ((R0.ext x1).ext y1) ((Q0.ext x1).ext y1) ((X0.trans x1).trans y1) b1;have c3:=R1.cell (i:=3) (by decide);have c4:=R1.cell (i:=4) (by decide);have c5:=R1.cell (i:=5) (by decide);clear R0 Q0 X0 x1 y1 b1;go_wp2_with fail;refine r_ (kG (HG 3) (HG 4) (HG 5) _) fun w2 x2=>?_;have y2:Ext w2 (w2.alloc (.cells #[(g 3),(g 4),(g 5)] 122)):=X_;have b2:=aTm w2 122 [(g 3),(g 4),(g 5)];obtain ⟨R2,Q2,X2,h7,q4⟩:=h5_ ((R1.ext x2).ext y2) ((Q1.ext x2).ext y2) ((X1.trans x2).trans y2) ((h6.ext x2).ext y2) b2;have c6:=R2.cell (i:=6) (by decide);have c7:=R2.cell (i:=7) (by decide);have c8:=R2.cell (i:=8) (by decide);clear R1 Q1 X1 x2 y2 b2 h6 c3 c4 c5;go_wp2_with fail;refine r_ (kG (HG 6) (HG 7) (HG 8) _) fun w3 x3=>?_;have y3:Ext w3 (w3.alloc (.cells #[(g 6),(g 7),(g 8)] 122)):=X_;have b3:=aTm w3 122 [(g 6),(g 7),(g 8)];obtain ⟨R3,Q3,X3,h8,q5,q7⟩:=h6_ ((R2.ext x3).ext y3) ((Q2.ext x3).ext y3) ((X2.trans x3).trans y3) ((h7.ext x3).ext y3) ((q4.ext x3).ext y3) b3;have c9:=R3.cell (i:=9) (by decide);have z0:=R3.cell (i:=10) (by decide);have z1:=R3.cell (i:=11) (by decide);clear R2 Q2 X2 x3 y3 b3 h7 q4 c6 c7 c8;go_wp2_with fail;refine r_ (kG (HG 9) (HG 10) (HG 11) _) fun w4 x4=>?_;have y4:Ext w4 (w4.alloc (.cells #[(g 9),(g 10),(g 11)] 122)):=X_;have b4:=aTm w4 122 [(g 9),(g 10),(g 11)];obtain ⟨Q4,X4,h9,q6,q8⟩:=h5_ (Q3.ext x4) (X3.trans x4) (h8.ext x4) (q5.ext x4) (q7.ext x4);obtain ⟨l0,l1,l2,l3,g0⟩:=m5_ Q4.lt h9.lt q6.lt q8.lt (Q4.free 0);have g1:=Q4.free 1;have g2:=Q4.free 2;obtain ⟨o0,o1,o2⟩:=Q4.q3;obtain ⟨p0,p1,p2⟩:=h9.q3;obtain ⟨q0,q1,q2⟩:=q6.q3;obtain ⟨r0,r1,r2⟩:=q8.q3;have zx:=X4.size;clear R3 Q3 X3 x4 y4 b4 h8 q5 q7 c9 z0 z1;go_wp2_with fail;refine z_ (aF HN _) ?_;go_wp2_with fail;refine z_ (aF HI _) ?_;go_wp2_with fail;refine z_ (aF HJ _) ?_;go_wp2;refine aA [([0,1,2,3,4,5,6,7,8,9,10,12,13,14,15,16,17,18,19,20,21,22,24,25,26,27,28,29,30,31,32,33,34],11),([],23),([],35),([36],37)] 37 (w4.heap.size+1) ?_;refine st_ fun K hK=>?_;go_wp2_with fail;refine z_ (pJ (HB 0) (HB 3) (HB 6) (HB 9) h2 h0 h1 x7 _) ?_;go_wp2;refine k_ hK (st_ fun K hK=>?_);go_wp2_with fail;refine z_ (pJ (HB 1) (HB 4) (HB 7) (HB 10) h2 h0 h1 x8 _) ?_;go_wp2;refine k_ hK (st_ fun K hK=>?_);go_wp2_with fail;refine z_ (pJ (HB 2) (HB 5) (HB 8) (HB 11) h2 h0 h1 x9 _) ?_;go_wp2;refine k_ hK (st_ fun K hK=>?_);go_wp2;refine l_ hK (aC ?_);clear hK K;go_wp2;refine bodyPost_ret (v:=.agg #[m1,m2,m3]) (by simp [results,results192,go_sem, *]) rfl ?_;have z2:=X4.out;exact ⟨rfl,S_⟩
theorem aD.rowT {α : Type} {cs : α->List Value} {xs:List α} (h:aD cs lo e sz w v xs):∀k,v.ownBlock=some k->lo<=k/\∃c,w.heap[k]?=some (.cells c e (0,0)):=by
 intro k hk
 rcases h.2 with ⟨rfl,h4⟩|⟨g,cap,cur,rfl,hb,hg,_⟩
 ·cases hk
 ·simp only [aUd,aTf] at hk
  subst hk;exact ⟨hb,cur,hg⟩
theorem aCl (w:World) (hQ:Q<lo) (a b c d e:Value):aN lo hi w (((((w.setCell ⟨Q,0,none⟩ a).setCell ⟨Q,1,none⟩ b).setCell ⟨Q,2,none⟩ c).setCell ⟨Q,3,none⟩ d).setCell ⟨Q,4,none⟩ e):=fun k h1 _=>by
 have hk:Q≠k:=by omega
 rw [aTo _ _ _ _ (by exact hk.symm),aTo _ _ _ _ (by exact hk.symm),aTo _ _ _ _ (by exact hk.symm),aTo _ _ _ _ (by exact hk.symm),aTo _ _ _ _ (by exact hk.symm)]
structure GSr (lo n:Nat) (tm:Int) (t:Tex) (f:Nat->Int) (A P Q:Nat) (tu:Value) (w wr:World) (ps:List Pt) (pu:Value):Prop where
 ext:Ext w wr
 pat:bT wr P 125 12 f
 res:Blk wr Q 168 ((),())
 box:Blk wr A 168 [(n:Nat),pu,tm,t.log,tu]
 pts:aD7 lo wr pu ps
 tex:aB lo wr tu t.px
theorem GSr.to {tm:Int} {t:Tex} {A P:Nat} {tu pu:Value} {wr:World} {ps:List Pt} (h:GSr lo n tm t f A P Q tu w wr ps pu) (x:Ext wr w'):GSr lo n tm t f A P Q tu w w' ps pu:=
 ⟨h.ext.trans x,h.pat.ext x,h.res.ext x,h.box.ext x,aD.ext h.pts x,h.tex.ext x⟩
theorem GSr.grow {tm:Int} {t:Tex} {A P:Nat} {tu pu pu':Value} {wr:World} {ps ps':List Pt} (h:GSr lo n tm t f A P Q tu w wr ps pu) (hP:P<lo) (hQ:Q<lo) (hA:lo<=A) (hw:w.heap.size<=lo) (hg:wr.grownBy w' pu.ownBlock) (hown:aD7 lo w' pu' ps'):GSr lo n tm t f A P Q tu w (w'.setCell ⟨A,1,none⟩ pu') ps' pu':=by
 have hr:=aD.rowT h.pts
 have hB:=h.box.grown hg (fun e=>by
  obtain ⟨_,c,hc⟩:=hr A e.symm;have hb:=h.box;unfold Blk at hb;rw [hb] at hc;simp only [aTf,aUt] at hc
  exact absurd hc.2.1 (by decide))
 have hT:=h.tex.grown hg (fun k hk e=>by
  obtain ⟨_,c,hc⟩:=hr k e.symm;obtain ⟨c',h0⟩:=h.tex.block hk;rw [h0] at hc;simp only [aTf,aUt] at hc
  exact absurd hc.2.1 (by decide))
 refine ⟨aTu (aUo h.ext hg (fun k hk=>by have:=(hr k hk).1;omega)) (by simp only;omega) _,(h.pat.of (hg.block _ h.pat.lt (fun e=>by have:=(hr _ e.symm).1;omega))).other (by simp only;omega) _,(h.res.grown hg (fun e=>by have:=(hr _ e.symm).1;omega)).other (by simp only;omega) _,hB.set 1 _,aD.set hown hB (by decide) 1 _,hT.setOther (fun e=>?_) _⟩;obtain ⟨c,hc⟩:=hT.block e;unfold Blk at hB;simp only at hc;rw [hB] at hc;simp only [aTf,aUt] at hc;exact absurd hc.2.1 (by decide)
def aD9 (f:Nat->Int) (n k:Nat):List Pt:=(aT3 k).map fun q=>ptG f n (q % n) (q / n)
theorem aGf (f:Nat->Int) (n k:Nat):(aD9 f n k).length=k:=by unfold aD9;simp
theorem aLq (f:Nat->Int) {i j:Nat} (hi:i<n):aD9 f n (j*n+(i+1))=aD9 f n (j*n+i)++[ptG f n i j]:=by
 unfold aD9;rw [show j*n+(i+1)=(j*n+i)+1 by omega,aVx,aVq,aXm]
 have e1:(j*n+i) % n=i:=by rw [aZw,aYv,aW2 hi]
 have e2:(j*n+i) / n=j:=by rw [aZw,aZ5 _ _ (by omega),aYx hi,aUa]
 rw [e1,e2]
theorem aJ2 {i:Nat} {x:Pt} (h:(aD9 f n k)[i]?=some x):x=ptG f n (i % n) (i / n)/\i<k:=by
 have hl:=(aTd.1 h).1;rw [aGf] at hl;unfold aD9 at h;rw [aU0,List.getElem?_range hl] at h;exact ⟨(aU8 h).symm,hl⟩
theorem zY {n X Y Z:Int} (h:evP f i j n=⟨X,Y,Z⟩) (hn:1<=n/\n<=64) (hi:0<=i/\i<=n) (hj:0<=j/\j<=n) (w:World) :
  R_ 192 #[.agg f,i,j,n] w (.agg #[X,Y,Z]):=by
 have:=aIs f i j n hn hi hj w;rw [h] at this;exact this
theorem aIt (lo hi:Nat) (f:Nat->Int) (hf:rY f=true) (n:Nat) (hn:1<=n/\n<=8) (tm:Int) (htm:0<=tm/\tm<=256) (tv:Value) (t:Tex) (w:World) (ht:cZ lo hi w tv t) (hh:hi<=w.heap.size) (hok:t.Ok) :
  Calls aTg 141 #[.agg f,(n:Nat),tm,tv] w fun e w'=>∃v:Value,e = .returned (.tuple #[v,.bool true])/\(Grd.mk (n:Nat) (n*n) (aCi f n) tm t).R w.heap.size w'.heap.size w' v/\Ext w w':=by
 obtain ⟨HT,HF⟩:=h2_ ht hf;obtain ⟨tu,rfl,y5,hu⟩:=ht;obtain ⟨a,cap,rfl,HU⟩:=hu.open;have l1:=HU.le;have l2:=HU.cap
 have b5:1<=t.px.length:=by rw [hok.len];exact Nat.mul_pos hok.n_pos hok.n_pos
 have b6:t.px.length<=256:=by rw [hok.len];exact aUh hok.n_le hok.n_le
 obtain ⟨_,bx,h9,rfl,_,b7,_⟩:=HU.cell 0 _ (aTk (by omega));have a1:inB ((n:Nat):Int) 1 8=true:=aG.2 ⟨by omega,by omega⟩;have a2:inB tm 0 256=true:=aG.2 htm;obtain ⟨HN,HM,HK⟩:=h3_ a1 a2 (Tex.okB_iff.2 hok);have r0:=aCk (w:=w) (t:=125) (f:=f) rfl;have t0:=aTm (w.alloc (.cells f 125)) 36 [t.log,.slice (some ⟨bx,h9,none⟩) t.px.length cap];have q0:=aTm ((w.alloc (.cells f 125)).alloc (.cells #[t.log,.slice (some ⟨bx,h9,none⟩) t.px.length cap] 36)) 168 ((),());simp only [aTe] at t0 q0;have x0:Ext w (((w.alloc (.cells f 125)).alloc (.cells #[t.log,.slice (some ⟨bx,h9,none⟩) t.px.length cap] 36)).alloc (.cells ((),()) 168)):=X_;obtain ⟨R0,T0,Q0,X0⟩:=h4_ ((r0.alloc (.cells #[t.log,.slice (some ⟨bx,h9,none⟩) t.px.length cap] 36)).alloc (.cells ((),()) 168)) (t0.ext (show Ext _ (((w.alloc (.cells f 125)).alloc (.cells #[t.log,.slice (some ⟨bx,h9,none⟩) t.px.length cap] 36)).alloc (.cells ((),()) 168)) from X_)) q0 x0;clear a1 a2 hu r0 t0 q0 x0;go_enter func141,ntmps141;go_wp2_with fail;refine (iN f _).mono ?_;rw [HF];rintro e w1 ⟨rfl,x1⟩;obtain ⟨R1,T1,Q1,X1⟩:=h4_ (R0.ext x1) (T0.ext x1) (Q0.ext x1) (X0.trans x1);clear R0 T0 Q0 X0 x1;go_wp2_with fail;refine z_ (aF HN _) ?_;go_wp2_with fail;refine z_ (aF HM _) ?_;obtain ⟨t0,t1⟩:=T1.q2;have z1:=X1.size;go_wp2_with fail;refine r_ (aL HK lo hi _ _ (HT.ext hh X1) (by omega)) fun w2 x2=>?_;obtain ⟨R2,T2,Q2,x5⟩:=h4_ (R1.ext x2) (T1.ext x2) (Q1.ext x2) (X1.trans x2);have z2:=x5.size;clear R1 T1 Q1 X1 x2 t0 t1;obtain ⟨t0,t1⟩:=T2.q2;have zt:=T2.lt;go_upto_region 3 with fail
 go_cut [10] from 33 to 42 (fun p wx=>∃A tu,p = .pointer (some ⟨A,0,none⟩)/\w2.heap.size<=A/\Blk wx A 168 [(n:Nat),.slice none 0 0,tm,t.log,tu]/\aB w2.heap.size wx tu t.px/\Ext w2 wx)
 case first=>
  refine dO 11 w2.heap.size ?_;refine z2_ (fuel:=5) [0,1,2,3,5,6] 4 10 (fun b _ hb=>rfl) (fun K hK=>?_) fun K hK=>?_
  ·have k1:Ext w2 (w2.drew.alloc (.cells #[] 3)):=X_
   have o1:aB w2.heap.size (w2.drew.alloc (.cells #[] 3)) (.slice (some ⟨w2.heap.size,0,none⟩) 0 0) []:=aB.fresh0 (aTc _) (aTm w2.drew 3 []);go_wp2;refine hK _ _ (.inr (fun b _ hb=>aTq k1 (by omega))) ?_;clear hK K;refine z2_ (fuel:=4) [] 7 10 (fun b _ hb=>aTq k1 (by omega)) (fun K hK=>?_) fun K hK=>?_
   ·refine cG _ rfl _ _ rfl w2.heap.size (.slice (some ⟨w2.heap.size,0,none⟩) 0 0) [] t.px rfl o1 bx h9 cap rfl (fun i y hy=>by
     obtain ⟨i1,b',o',e',_,h3,h4⟩:=HU.cell i y hy
     cases e'
     exact ⟨i1,((x5.trans k1).cells.1 bx _ (by omega)).trans h4⟩) (by simp;omega) k1.size ?_
    intro v7 w7 h0 q7;have u7:Ext w2 w7:=aUo k1 q7 (fun k hk=>(o1.lt k hk).1);go_wp2;refine hK _ _ (.inr (fun b _ hb=>aTq u7 (by omega))) ?_;clear hK K;obtain ⟨h5,h6,h8,_⟩:=h0.form;simp only [aVd] at h0 h8;subst h8;refine z1_ (fuel:=1) [8,9] 10 (fun b _ hb=>aTq u7 (by omega)) fun K hK=>?_;have k8:Ext w2 (w7.alloc (.cells ((),()) 168)):=aZ9 u7 _;go_wp2;refine hK _ _ (.inr (fun b _ hb=>aTq (w:=w2) (show Ext w2 _ from aZ9 u7 _) (by omega))) ?_;clear hK K;refine z1_ (fuel:=0) [] 11 (fun b _ hb=>aTq k8 (by omega)) fun K hK=>?_;go_wp2;refine l_ hK (cF ?_);clear hK K;go_wp2
    go_meet
    exact ⟨w7.heap.size,_,rfl,u7.size,aTm w7 168 [(n:Nat),.slice none 0 0,tm,t.log,.slice h5 t.px.length h6],h0.alloc _,aZ9 u7 _⟩
   ·have g1:Ext w2 ((w2.drew.alloc (.cells #[] 3)).alloc (.cells ((),()) 168)):=X_
    have o2:=o1.alloc (.cells ((),()) 168);have n2:=aTm (w2.drew.alloc (.cells #[] 3)) 168 ((),());rw [aTe,show w2.drew.heap.size=w2.heap.size from rfl] at n2;go_wp2;refine hK _ _ (.inr (fun b _ hb=>aTq g1 (by omega))) ?_;clear hK K;refine z1_ (fuel:=3) [] 7 (fun b _ hb=>aTq g1 (by omega)) fun K hK=>?_
    refine cG _ rfl _ _ rfl w2.heap.size (.slice (some ⟨w2.heap.size,0,none⟩) 0 0) [] t.px rfl o2 bx h9 cap rfl (fun i y hy=>by
     obtain ⟨i1,b',o',e',_,h3,h4⟩:=HU.cell i y hy
     cases e'
     exact ⟨i1,((x5.trans g1).cells.1 bx _ (by omega)).trans h4⟩) (by simp;omega) g1.size ?_
    intro v7 w7 h0 q7;have u7:Ext w2 w7:=aUo g1 q7 (fun k hk=>(o2.lt k hk).1);go_wp2;refine hK _ _ (.inr (fun b _ hb=>aTq u7 (by omega))) ?_;clear hK K;obtain ⟨h5,h6,h8,_⟩:=h0.form;simp only [aVd] at h0 h8;subst h8;have n3:=n2.grown q7 (by simp [aUd]);refine z1_ (fuel:=0) [8,9] 11 (fun b _ hb=>aTq u7 (by omega)) fun K hK=>?_;have h2:=n3;obtain ⟨p0,p1,p2,p3,p4⟩:=h2.q5;have f0:=h2.free 0;have f1:=h2.free 1;have f2:=h2.free 2;have f3:=h2.free 3;have f4:=h2.free 4
    have h7:w2.heap.size<=(w2.heap.size+1):=by first|omega|(simp;omega)
    have h1:∀k,(aUk h5 t.px.length h6).ownBlock=some k->k≠(w2.heap.size+1):=fun k hk e=>by
     obtain ⟨c,hc⟩:=(h0).block hk;rw [e] at hc;unfold Blk at h2;rw [h2] at hc;simp only [aTf,aUt] at hc;exact absurd hc.2.1 (by decide)
    have y4:Ext w2 ((((((((((w7).setCell ⟨(w2.heap.size+1),0,none⟩ (.int .i64 (n:Nat)))).setCell ⟨(w2.heap.size+1),1,none⟩ (.slice none 0 0))).setCell ⟨(w2.heap.size+1),2,none⟩ tm)).setCell ⟨(w2.heap.size+1),3,none⟩ t.log)).setCell ⟨(w2.heap.size+1),4,none⟩ (.slice h5 t.px.length h6)):=aTu (aTu (aTu (aTu (aTu u7 h7 _) h7 _) h7 _) h7 _) h7 _;have y0:Blk ((((((((((w7).setCell ⟨(w2.heap.size+1),0,none⟩ (.int .i64 (n:Nat)))).setCell ⟨(w2.heap.size+1),1,none⟩ (.slice none 0 0))).setCell ⟨(w2.heap.size+1),2,none⟩ tm)).setCell ⟨(w2.heap.size+1),3,none⟩ t.log)).setCell ⟨(w2.heap.size+1),4,none⟩ (.slice h5 t.px.length h6)) ((w2.heap.size+1)) 168 [(n:Nat),.slice none 0 0,tm,t.log,.slice h5 t.px.length h6]:=((((h2.set 0 _).set 1 _).set 2 _).set 3 _).set 4 _
    have y2:aB w2.heap.size ((((((((((w7).setCell ⟨(w2.heap.size+1),0,none⟩ (.int .i64 (n:Nat)))).setCell ⟨(w2.heap.size+1),1,none⟩ (.slice none 0 0))).setCell ⟨(w2.heap.size+1),2,none⟩ tm)).setCell ⟨(w2.heap.size+1),3,none⟩ t.log)).setCell ⟨(w2.heap.size+1),4,none⟩ (.slice h5 t.px.length h6)) (.slice h5 t.px.length h6) t.px:=((((((h0).setOther (a:=⟨(w2.heap.size+1),0,none⟩) (fun e=>h1 _ e rfl) _).setOther (a:=⟨(w2.heap.size+1),1,none⟩) (fun e=>h1 _ e rfl) _).setOther (a:=⟨(w2.heap.size+1),2,none⟩) (fun e=>h1 _ e rfl) _).setOther (a:=⟨(w2.heap.size+1),3,none⟩) (fun e=>h1 _ e rfl) _).setOther (a:=⟨(w2.heap.size+1),4,none⟩) (fun e=>h1 _ e rfl) _)
    go_wp2;refine l_ hK (cF ?_);clear hK K;go_wp2
    go_meet
    exact ⟨(w2.heap.size+1),_,rfl,h7,y0,y2,y4⟩
  ·have g1:Ext w2 (w2.drew.alloc (.cells ((),()) 168)):=X_
   have n2:=aTm w2.drew 168 ((),());rw [show w2.drew.heap.size=w2.heap.size from rfl] at n2;go_wp2;refine hK _ _ (.inr (fun b _ hb=>aTq g1 (by omega))) ?_;clear hK K;refine z1_ (fuel:=4) [] 4 (fun b _ hb=>aTq g1 (by omega)) fun K hK=>?_;have g2:Ext w2 ((w2.drew.alloc (.cells ((),()) 168)).alloc (.cells #[] 3)):=X_;have n3:=n2.ext (show Ext _ ((w2.drew.alloc (.cells ((),()) 168)).alloc (.cells #[] 3)) from X_);have b2:=aTm (w2.drew.alloc (.cells ((),()) 168)) 3 [];rw [aTe,show w2.drew.heap.size=w2.heap.size from rfl] at b2;have o2:aB w2.heap.size ((w2.drew.alloc (.cells ((),()) 168)).alloc (.cells #[] 3)) (.slice (some ⟨w2.heap.size+1,0,none⟩) 0 0) []:=aB.fresh0 (by omega) b2;go_wp2;refine hK _ _ (.inr (fun b _ hb=>aTq g2 (by omega))) ?_;clear hK K;refine z1_ (fuel:=3) [] 7 (fun b _ hb=>aTq g2 (by omega)) fun K hK=>?_
   refine cG _ rfl _ _ rfl w2.heap.size (.slice (some ⟨w2.heap.size+1,0,none⟩) 0 0) [] t.px rfl o2 bx h9 cap rfl (fun i y hy=>by
    obtain ⟨i1,b',o',e',_,h3,h4⟩:=HU.cell i y hy
    cases e'
    exact ⟨i1,((x5.trans g2).cells.1 bx _ (by omega)).trans h4⟩) (by simp;omega) g2.size ?_
   intro v7 w7 h0 q7;have u7:Ext w2 w7:=aUo g2 q7 (fun k hk=>(o2.lt k hk).1);go_wp2;refine hK _ _ (.inr (fun b _ hb=>aTq u7 (by omega))) ?_;clear hK K;obtain ⟨h5,h6,h8,_⟩:=h0.form;simp only [aVd] at h0 h8;subst h8;have n4:=n3.grown q7 (by simp [aUd]);refine z1_ (fuel:=0) [8,9] 11 (fun b _ hb=>aTq u7 (by omega)) fun K hK=>?_;have h2:=n4;obtain ⟨p0,p1,p2,p3,p4⟩:=h2.q5;have f0:=h2.free 0;have f1:=h2.free 1;have f2:=h2.free 2;have f3:=h2.free 3;have f4:=h2.free 4
   have h7:w2.heap.size<=w2.heap.size:=by first|omega|(simp;omega)
   have h1:∀k,(aUk h5 t.px.length h6).ownBlock=some k->k≠w2.heap.size:=fun k hk e=>by
    obtain ⟨c,hc⟩:=(h0).block hk;rw [e] at hc;unfold Blk at h2;rw [h2] at hc;simp only [aTf,aUt] at hc;exact absurd hc.2.1 (by decide)
   have y4:Ext w2 ((((((((((w7).setCell ⟨w2.heap.size,0,none⟩ (.int .i64 (n:Nat)))).setCell ⟨w2.heap.size,1,none⟩ (.slice none 0 0))).setCell ⟨w2.heap.size,2,none⟩ tm)).setCell ⟨w2.heap.size,3,none⟩ t.log)).setCell ⟨w2.heap.size,4,none⟩ (.slice h5 t.px.length h6)):=aTu (aTu (aTu (aTu (aTu u7 h7 _) h7 _) h7 _) h7 _) h7 _;have y0:Blk ((((((((((w7).setCell ⟨w2.heap.size,0,none⟩ (.int .i64 (n:Nat)))).setCell ⟨w2.heap.size,1,none⟩ (.slice none 0 0))).setCell ⟨w2.heap.size,2,none⟩ tm)).setCell ⟨w2.heap.size,3,none⟩ t.log)).setCell ⟨w2.heap.size,4,none⟩ (.slice h5 t.px.length h6)) (w2.heap.size) 168 [(n:Nat),.slice none 0 0,tm,t.log,.slice h5 t.px.length h6]:=((((h2.set 0 _).set 1 _).set 2 _).set 3 _).set 4 _
   have y2:aB w2.heap.size ((((((((((w7).setCell ⟨w2.heap.size,0,none⟩ (.int .i64 (n:Nat)))).setCell ⟨w2.heap.size,1,none⟩ (.slice none 0 0))).setCell ⟨w2.heap.size,2,none⟩ tm)).setCell ⟨w2.heap.size,3,none⟩ t.log)).setCell ⟨w2.heap.size,4,none⟩ (.slice h5 t.px.length h6)) (.slice h5 t.px.length h6) t.px:=((((((h0).setOther (a:=⟨w2.heap.size,0,none⟩) (fun e=>h1 _ e rfl) _).setOther (a:=⟨w2.heap.size,1,none⟩) (fun e=>h1 _ e rfl) _).setOther (a:=⟨w2.heap.size,2,none⟩) (fun e=>h1 _ e rfl) _).setOther (a:=⟨w2.heap.size,3,none⟩) (fun e=>h1 _ e rfl) _).setOther (a:=⟨w2.heap.size,4,none⟩) (fun e=>h1 _ e rfl) _)
   go_wp2;refine l_ hK (cF ?_);clear hK K;go_wp2
   go_meet
   exact ⟨w2.heap.size,_,rfl,h7,y0,y2,y4⟩
 case rest=>
  obtain ⟨A,tu,rfl,hA,B3,O3,E3⟩:=hcut;obtain ⟨z5,z6,rfl,-⟩:=O3.form
  have S3:GSr w2.heap.size n tm t f A w.heap.size (w.heap.size+1+1) (.slice z5 t.px.length z6) w wc [] (.slice none 0 0):=
   ⟨x5.trans E3,R2.ext E3,Q2.ext E3,B3,aD.nil _ _ _ _ _,O3⟩
  have y9:=hid S3;have zQ:=Q2.lt;clear R2 T2 Q2 x5 t0 t1 zt B3 O3 E3 S3;go_wp2
  go_loopw [11] (fun v wr=>∃(j:Nat) (ps:List Pt) (pu:Value),j<=n/\v = .int .i64 (j:Nat)/\ps.length=j*n/\ps=aD9 f n (j*n)/\GSr w2.heap.size n tm t f A w.heap.size (w.heap.size+1+1) (.slice z5 t.px.length z6) w wr ps pu) (fun v _=>n - (intOf v).toNat)
  case atStart=>exact ⟨0,[],_,by omega,rfl,by simp,by rw [aXv];rfl,y9⟩
  case round=>
   obtain ⟨j,ps,pu,hj,rfl,z0,x9,hs⟩:=hrel;obtain ⟨y7,z7⟩:=h2_ z0 x9;clear z0 x9;have HS:=hid hs;clear hs y9
   by_cases b9:j<n
   ·go_wp2
    go_loopw [12] (fun v wr=>∃(i:Nat) (ps:List Pt) (pu:Value),i<=n/\v = .int .i64 (i:Nat)/\ps.length=j*n+i/\ps=aD9 f n (j*n+i)/\GSr w2.heap.size n tm t f A w.heap.size (w.heap.size+1+1) (.slice z5 t.px.length z6) w wr ps pu) (fun v _=>n - (intOf v).toNat)
    case atStart=>exact ⟨0,ps,pu,by omega,rfl,y7,z7,HS⟩
    case round=>
     obtain ⟨i,ps,pu,hi',rfl,z0,x9,hs⟩:=hrel;obtain ⟨q6,x7⟩:=h2_ z0 x9;clear z0 x9;have x8:=hid hs;clear hs HS
     by_cases y1:i<n
     ·have hR:=x8.pat
      obtain ⟨c0,c1,c2,c3,c4,c5,c6,c7,c8,c9,a5,a6⟩:=m12_ (hR.cell (i:=0) (by decide)) (hR.cell (i:=1) (by decide)) (hR.cell (i:=2) (by decide)) (hR.cell (i:=3) (by decide)) (hR.cell (i:=4) (by decide)) (hR.cell (i:=5) (by decide)) (hR.cell (i:=6) (by decide)) (hR.cell (i:=7) (by decide)) (hR.cell (i:=8) (by decide)) (hR.cell (i:=9) (by decide)) (hR.cell (i:=10) (by decide)) (hR.cell (i:=11) (by decide));go_wp2_with fail
      obtain ⟨x,y,z,a0⟩:∃x y z,evP f ((i:Nat):Int) ((j:Nat):Int) ((n:Nat):Int)=⟨x,y,z⟩:=⟨_,_,_,rfl⟩
      have y6:=hid a0;clear a0;refine r_ (zY y6 ⟨by omega,by omega⟩ ⟨by omega,by omega⟩ ⟨by omega,by omega⟩ _) fun w3 x3=>?_;have y3:Ext w3 (w3.alloc (.cells #[x,y,z] 122)):=X_;have v3:=aTm w3 122 [x,y,z];obtain ⟨x4,a4⟩:=h2_ (x8.to (x3.trans y3)) v3;have z3:=x3.size;have b1:=x4.box.cell 1 rfl;have a7:=x4.box.free 1;have zA:=x4.box.lt
      have d5:A<w3.heap.size:=by
       have:=x8.box.lt;omega
      obtain ⟨pa,pc,rfl,-⟩:=aD.form x4.pts;clear x3 y3 v3 c0 c1 c2 c3 c4 c5 c6 c7 c8 c9 a5 a6 hR x8;go_wp2;refine aJ [([0,1,2,3,4,5,6,7,8,9,10,11,12,13,14,15,16],17),([],18),([19],20)] 20 (fun w'=>∃d,w'=gA (C2b A w3.heap.size) _ d) (aV8 _ _) ?_;refine sc_ fun K hK=>?_;go_wp2_with fail;have y8:Ext (w3.alloc (.cells #[x,y,z] 122)) (((w3.alloc (.cells #[x,y,z] 122)).alloc (.cells #[.int .i64 ((i:Int)*256 / (n:Int)),.int .i64 ((j:Int)*256 / (n:Int)),x,y,z] 228)).drew):=S_;have b8:=(aTm (w3.alloc (.cells #[x,y,z] 122)) 228 [.int .i64 ((i:Int)*256 / (n:Int)),.int .i64 ((j:Int)*256 / (n:Int)),x,y,z]).ext (show Ext _ (((w3.alloc (.cells #[x,y,z] 122)).alloc (.cells #[.int .i64 ((i:Int)*256 / (n:Int)),.int .i64 ((j:Int)*256 / (n:Int)),x,y,z] 228)).drew) from S_);rw [aTe] at b8;refine hK _ _ (.inr (aUl fun a ha=>?_)) ?_
      ·rcases ha with ha|ha
       ·exact y8.block (by rw [ha,aTe];omega)
       ·exact y8.block (by rw [ha,aTe];omega)
      clear hK K;obtain ⟨z4,x6,z9⟩:=h3_ (x4.to y8) b8 y8;have z8:=y8.size;rw [aTe] at z8
      have d0:j*n+i<=64:=by
       have:j*n<=7*8:=aUh (by omega) (by omega);omega
      clear y8 b8;refine sc_ fun K hK=>?_
      refine nE _ rfl _ _ rfl w2.heap.size (.slice pa ps.length pc) ps rfl z4.pts ⟨(i:Int)*256 / (n:Int),(j:Int)*256 / (n:Int),x,y,z⟩ (w3.heap.size+1) rfl (fun q hq=>by
       rcases (show q=0\/q=1\/q=2\/q=3\/q=4 by omega) with rfl|rfl|rfl|rfl|rfl
       ·exact x6.cell 0 rfl
       ·exact x6.cell 1 rfl
       ·exact x6.cell 2 rfl
       ·exact x6.cell 3 rfl
       ·exact x6.cell 4 rfl) (by have:=q6.out;omega) (by omega) ?_
      intro d4 w9 q8 hg;have q9:=aD.rowT z4.pts
      have kA:w9.heap[A]?=(w3.alloc (.cells #[x,y,z] 122)).heap[A]?:=(hg.block _ (by omega) (fun e=>by
       obtain ⟨_,c,hc⟩:=q9 _ e.symm;have hb:=z4.box;unfold Blk at hb;rw [hb] at hc;simp only [aTf,aUt] at hc
       exact absurd hc.2.1 (by decide))).trans (z9.block zA)
      have kV:w9.heap[w3.heap.size]?=(w3.alloc (.cells #[x,y,z] 122)).heap[w3.heap.size]?:=(hg.block _ (by omega) (fun e=>by
       obtain ⟨_,c,hc⟩:=q9 _ e.symm;have hb:=a4.ext z9;unfold Blk at hb;rw [hb] at hc;simp only [aTf,aUt] at hc
       exact absurd hc.2.1 (by decide))).trans (z9.block (by rw [aTe];omega))
      have a3:=hid (z4.grow (by omega) zQ hA z2 hg q8);have B9:=x4.box.of kA;have e1:=B9.cell 1 rfl;have g1:=B9.free 1;go_wp2;refine hK _ _ (.inr (aUl fun a ha=>?_)) ?_
      ·rcases ha with ha|ha
       ·rw [ha];exact kA
       ·rw [ha];exact kV
      clear hK K;obtain ⟨d2,d3,hv,_⟩:=aD.form q8
      have a9:(ps++[(⟨(i:Int)*256 / (n:Int),(j:Int)*256 / (n:Int),x,y,z⟩:Pt)]).length=ps.length+1:=by simp
      rw [a9] at hv;subst hv;clear q8 hg q9 kA kV b1 a7 B9;refine iF ?_;simp only [aT4,aTv,aTh,aTa,aTb]
      show wpQuiet _ _ _ _ [_] _
      simp only [Act.put,aTj,aTr,aTp,aYs,aXh,aXi]
      repeat (go_big_quiet_step (fail))
      refine wpQuiet_nil ⟨_,rfl,fun K hK=>?_⟩;go_wp2;refine l_ hK (aP ?_);clear hK K;go_wp2;go_roundw
      case rel=>exact ⟨i+1,ps++[(⟨(i:Int)*256 / (n:Int),(j:Int)*256 / (n:Int),x,y,z⟩:Pt)],_,by omega,by go_num,by have:=q6.out;omega,by rw [x7,aLq f y1];congr 1;unfold ptG;rw [y6],a3⟩
      case measure=>simp [intOf];omega
     ·obtain rfl:i=n:=by omega
      go_wp2;go_roundw
      case rel=>exact ⟨j+1,ps,pu,by omega,by go_num,by rw [q6,aYz],by rw [x7,aYz],x8⟩
      case measure=>simp [intOf];omega
   ·obtain rfl:j=n:=by omega
    obtain ⟨b0,b1,b2,b3,b4⟩:=HS.box.q5;obtain ⟨q0,q1,q2,q3,q4⟩:=HS.res.q5;have g0:=HS.res.free 0;have g1:=HS.res.free 1;obtain ⟨g2,g3,g4,zq,za⟩:=m5_ (HS.res.free 2) (HS.res.free 3) (HS.res.free 4) HS.res.lt HS.box.lt;obtain ⟨pa,pc,rfl,-⟩:=aD.form HS.pts;go_wp2;refine bodyPost_ret (v:=.tuple #[.agg #[(j:Nat),.slice pa ps.length pc,tm,t.log,.slice z5 t.px.length z6],.bool true]) (by simp [results,results141,go_sem, *]) rfl ?_;have a8:=HS.ext;have d1:=a8.size
    have FL:∀m,ps.length=m->dL 5 w2.heap.size wr.heap.size wr (.slice pa ps.length pc) m (aCi f j):=fun m hm=>by
     subst hm;refine aD.flatsI (ls:=Pt.ls) HS.pts (by decide) (fun _=>rfl) (fun _=>rfl) (fun p hp u hu=>?_) (fun q p k hq hk=>?_)
     ·rw [z7] at hp
      obtain ⟨q,hq,rfl⟩:=aUf hp;obtain ⟨e2,hl⟩:=aJ2 (aTk hq);rw [e2] at hu;have:=aIo f (n:=j) (i:=q % j) (j:=q / j) (by omega) (aV2 _ (by omega)) (aVj hl) u hu;exact ⟨by omega,by omega⟩
     ·rw [z7] at hq
      obtain ⟨rfl,-⟩:=aJ2 hq;exact kU f j q k hk
    exact ⟨_,rfl,⟨_,_,rfl,⟨by show (-9223372036854775808:Int)<=((j:Nat):Int);omega,by show ((j:Nat):Int)<=9223372036854775807;omega⟩,⟨by show (-9223372036854775808:Int)<=tm;omega,by show tm<=9223372036854775807;omega⟩,y5,(((FL _ y7).same (aCl wr zQ _ _ _ _ _)).wide z2 (by simp)),((HS.tex.ints.same (aCl wr zQ _ _ _ _ _)).wide z2 (by simp))⟩,S_⟩
def kZ (i j:Int) (side k:Nat):Smp:=
 ⟨i*16+((k % side:Nat):Int)*((16 / side:Nat):Int)+cD [i,j,(k:Int),1] % ((16 / side:Nat):Int),j*16+((k / side:Nat):Int)*((16 / side:Nat):Int)+cD [i,j,(k:Int),2] % ((16 / side:Nat):Int),
  cD [i,j,(k:Int),3] % 16,cD [i,j,(k:Int),4] % 33 - 16,cD [i,j,(k:Int),5] % 33 - 16⟩
def tJ (i j:Int) (side:Nat):List Smp:=(aT3 (side*side)).map (kZ i j side)
theorem gG (i j:Int) (side:Nat):(tJ i j side).length=side*side:=by unfold tJ;simp
theorem aPl (hs:side=1\/side=2\/side=4) (hk:k<side*side) :
  (i*16<=(kZ i j side k).x/\(kZ i j side k).x<=i*16+15)/\(j*16<=(kZ i j side k).y/\(kZ i j side k).y<=j*16+15)/\(0<=(kZ i j side k).t/\(kZ i j side k).t<=15) /\
   (-16<=(kZ i j side k).lx/\(kZ i j side k).lx<=16)/\(-16<=(kZ i j side k).ly/\(kZ i j side k).ly<=16):=by
 have h1:k % side<side:=aV2 _ (by omega);have h2:k / side<side:=aVj hk;unfold kZ;simp only;generalize k % side=a at h1 ⊢;generalize k / side=b at h2 ⊢;generalize cD [i,j,(k:Int),1]=p1;generalize cD [i,j,(k:Int),2]=p2;generalize cD [i,j,(k:Int),3]=p3;generalize cD [i,j,(k:Int),4]=p4;generalize cD [i,j,(k:Int),5]=p5
 rcases hs with rfl|rfl|rfl
 ·simp only [Nat.div_one];omega
 ·simp only [Nat.reduceDiv];omega
 ·simp only [Nat.reduceDiv];omega
theorem aJ3 {c:Cam} (hc:c.okB=true) (hi:0<=i/\i<c.w) (hj:0<=j/\j<c.h) (hs:side=1\/side=2\/side=4) (hk:k<side*side):Smp.okB c (kZ i j side k)=true:=by
 obtain ⟨a,b,d,e,f⟩:=aPl (i:=i) (j:=j) hs hk;unfold Smp.okB;simp only [aTs,aG];exact ⟨⟨⟨⟨⟨hc,by omega⟩,by omega⟩,by omega⟩,by omega⟩,by omega⟩
structure Stp where
 (d w:Int)
def Stp.cs (x:Stp):List Value:=[x.d,x.w]
def lQ (l:List Stp):Int:=match l.getLast? with|some x=>x.w|none=>65536
def fB (l:List Stp) (d w:Int):List Stp:=if w<lQ l/\l.length<64 then l++[⟨d,w⟩] else l
def dN (w al:Int):Int:=w - w*aQ al 0 256 / 256
def aW (l:List aH):Nat->List Stp×Int
 | 0=>([],65536)
 | k+1=>match l[k]? with
  | none=>aW l k
  | some f=>(if (match l[k+1]? with|none=>true|some g=>decide (f.d<g.d)) then fB (aW l k).1 f.d (dN (aW l k).2 f.al) else (aW l k).1,dN (aW l k).2 f.al)
def zZ (l:List aH):List Stp:=(aW l l.length).1
def aAa (l:List aH):List aH:=cW [] (l.filter fun f=>inB f.d (-1000000) 1000000)
def fT (l:List aH):List Stp:=zZ (aAa l)
structure tK (l:List Stp):Prop where
 len:l.length<=64
 bd:∀x∈l,(-1000000<=x.d/\x.d<=1000000)/\(0<=x.w/\x.w<=65535)
 sort:l.Pairwise fun a b=>a.d<b.d/\b.w<a.w
theorem aGg {w:Int} (al:Int) (h:0<=w):0<=dN w al/\dN w al<=w:=by
 have:=aOo h (xU al);unfold dN;omega
theorem tL (l:List Stp) (x:Stp):lQ (l++[x])=x.w:=by unfold lQ;simp
theorem aGh {l:List Stp} (h:tK l):lQ l<=65536/\∀x∈l,lQ l<=x.w:=by
 unfold lQ
 cases hl:l.getLast? with
 | none=>
  rw [List.getLast?_eq_none_iff] at hl;subst hl;exact ⟨bAi _,fun x hx=>by cases hx⟩
 | some y=>
  obtain ⟨r,rfl⟩:=List.getLast?_eq_some_iff.1 hl;refine ⟨by have:=(h.bd y (by simp)).2;show y.w<=65536;omega,fun x hx=>?_⟩
  show y.w<=x.w
  rw [aVh,aVa] at hx
  rcases hx with hx|rfl
  ·have:=(aW9.1 h.sort).2.2 x hx y (by simp)
   omega
  ·exact bAi _
theorem jN.d_le {l:List aH} (h:jN l) {i j:Nat} (hij:i<j) {f g:aH} (hf:l[i]?=some f) (hg:l[j]?=some g):f.d<=g.d:=by
 obtain ⟨hi,rfl⟩:=aTd.1 hf;obtain ⟨hj,rfl⟩:=aTd.1 hg;have:=List.pairwise_iff_getElem.1 h i j hi hj hij;rw [aH.lt_no] at this;omega
theorem aLr {l:List Stp} {w:Int} (h:tK l) (hw:0<=w/\w<=lQ l) (hd:∀x∈l,x.d<d) (hb : -1000000<=d/\d<=1000000) :
  tK (fB l d w)/\w<=lQ (fB l d w)/\∀x∈fB l d w,x∈l\/x.d=d:=by
 obtain ⟨q1,q2⟩:=aGh h;unfold fB
 split
 ·rename_i hc
  refine ⟨⟨by simp;omega,fun x hx=>?_,?_⟩,by rw [tL];exact bAi _,fun x hx=>?_⟩
  ·rw [aVh,aVa] at hx
   rcases hx with hx|rfl
   ·exact h.bd x hx
   ·exact ⟨hb,by show 0<=w;omega,by show w<=65535;omega⟩
  ·rw [aW9]
   refine ⟨h.sort,aXd _ _,fun x hx y hy=>?_⟩;rw [aVa] at hy;subst hy;exact ⟨hd x hx,by have:=q2 x hx;show w<x.w;omega⟩
  ·rw [aVh,aVa] at hx
   rcases hx with hx|rfl
   ·exact .inl hx
   ·exact .inr rfl
 ·exact ⟨h,hw.2,fun x hx=>.inl hx⟩
theorem aAb {l:List aH} (hs:jN l) (hr:∀f∈l,-1000000<=f.d/\f.d<=1000000):∀k,k<=l.length ->
  tK (aW l k).1/\(0<=(aW l k).2/\(aW l k).2<=lQ (aW l k).1)/\(∀x∈(aW l k).1,∀g,l[k]?=some g->x.d<g.d)/\∀x∈(aW l k).1,∃f∈l,x.d=f.d:=by
 intro k
 induction k with
 | zero=>
  intro _
  show tK []/\((0:Int)<=65536/\(65536:Int)<=lQ [])/\(∀x∈([]:List Stp),∀g,l[0]?=some g->x.d<g.d)/\∀x∈([]:List Stp),∃f∈l,x.d=f.d
  refine ⟨⟨by decide,fun x hx=>?_,List.Pairwise.nil⟩,⟨by decide,by decide⟩,fun x hx=>?_,fun x hx=>?_⟩
  all_goals exact absurd hx (aTt)
 | succ k ih=>
  intro hk;obtain ⟨i1,i2,i3,i4⟩:=ih (by omega)
  have hf:l[k]?=some l[k]:=by simp
  obtain ⟨f,h2⟩:=e_ (l[k])
  rw [h2] at hf;have h0:f∈l:=aT2 hf;have lw:=aGg f.al i2.1
  have e:aW l (k+1)=(if (match l[k+1]? with|none=>true|some g=>decide (f.d<g.d)) then fB (aW l k).1 f.d (dN (aW l k).2 f.al) else (aW l k).1,dN (aW l k).2 f.al):=by
   show (match l[k]? with|none=>aW l k|some f=>_)=_
   rw [hf]
  rw [e];have hd:∀x∈(aW l k).1,x.d<f.d:=fun x hx=>i3 x hx f hf;obtain ⟨j1,j2,j3⟩:=aLr (w:=dN (aW l k).2 f.al) i1 ⟨lw.1,by omega⟩ hd (hr f h0)
  cases hg:l[k+1]? with
  | none=>
   simp only [if_true];refine ⟨j1,⟨lw.1,j2⟩,fun x _ g h=>(by cases h),fun x hx=>?_⟩
   rcases j3 x hx with h|h
   ·exact i4 x h
   ·exact ⟨f,h0,h⟩
  | some g=>
   have h3:=hs.d_le (Nat.lt_succ_self k) hf hg
   by_cases h1:f.d<g.d
   ·simp only [h1,decide_true,if_true]
    refine ⟨j1,⟨lw.1,j2⟩,fun x hx g' h=>?_,fun x hx=>?_⟩
    ·rw [aTf] at h
     subst h
     rcases j3 x hx with h|h
     ·have:=hd x h;omega
     ·omega
    ·rcases j3 x hx with h|h
     ·exact i4 x h
     ·exact ⟨f,h0,h⟩
   ·simp only [h1,decide_false,aV0,if_false]
    refine ⟨i1,⟨lw.1,by show dN (aW l k).2 f.al<=_;omega⟩,fun x hx g' h=>?_,i4⟩;rw [aTf] at h;subst h;have:=hd x hx;omega
theorem sB (l:List aH):jN (aAa l):=aFa List.Pairwise.nil _
theorem aCm {l:List aH}:∀f∈aAa l,f∈l/\(-1000000<=f.d/\f.d<=1000000):=by
 intro f hf;unfold aAa at hf;rw [aHm] at hf
 rcases hf with h|h
 ·cases h
 ·rw [List.mem_filter,aG] at h
  exact h
theorem aNr (l:List aH):tK (fT l):=(aAb (sB l) (fun f hf=>(aCm f hf).2) _ (aTc _)).1
theorem sC (c:Cam) (w:World):R_ 87 #[c.V] w (.bool c.okB):=by
 obtain ⟨cw,ch,zo,ne,de,le,fo⟩:=c
 obtain ⟨b1,h1⟩:=e_ (inB cw 1 12)
 obtain ⟨b2,h2⟩:=e_ (inB ch 1 12)
 obtain ⟨b3,h3⟩:=e_ (inB zo 1 65536)
 obtain ⟨b4,h4⟩:=e_ (inB ne 1 1000000)
 obtain ⟨b5,h5⟩:=e_ (inB le 0 64)
 obtain ⟨b6,h6⟩:=e_ (inB fo 0 1000000)
 have e:(Cam.mk cw ch zo ne de le fo).okB=(b1&&b2&&b3&&b4&&b5&&b6):=by unfold Cam.okB;simp only [h1,h2,h3,h4,h5,h6]
 rw [e];obtain ⟨H1,H2,H3,H4,H5,H6⟩:=h6_ h1 h2 h3 h4 h5 h6;clear h1 h2 h3 h4 h5 h6 e
 show Calls aTg 87 #[.agg #[cw,ch,zo,ne,.bool de,le,fo]] w _
 cases b1
 rotate_left
 cases b2
 rotate_left
 cases b3
 rotate_left
 cases b4
 rotate_left
 cases b5
 rotate_left
 cases b6
 all_goals
  go_enter func87,ntmps87;go_wp2_with (go_at_call 46;with_reducible first|(refine z_ (aF H1.out _) ?_)|(refine z_ (aF H2.out _) ?_)|(refine z_ (aF H3.out _) ?_)|(refine z_ (aF H4.out _) ?_)|(refine z_ (aF H5.out _) ?_)|(refine z_ (aF H6.out _) ?_));go_ret;exact ⟨rfl,X_⟩
theorem aO {c:Cam} {b:Bool} (h:c.okB=b) (w:World):R_ 87 #[c.V] w (.bool b):=h▸sC c w
theorem aCn {g:Nat} {c:Int} (h:Blk w g 3 [a,b,c,d]) (hi:∀y∈[a,b,c,d],I64 y):aS 0 w.heap.size w (.slice (some ⟨g,0,none⟩) 4 4) [a,b,c,d]:=
 ⟨_,4,rfl,aTc _,by unfold maxLen;omega,fun i y hy=>⟨hi y (aT2 hy),g,0,rfl,aUx _,h.lt,by
  rw [aUa];have e:=congrArg (Option.map (aWn .i64)) hy;rw [<-aU0] at e
  exact h.cell i e⟩⟩
theorem gH (lo hi:Nat) (u:Value) (xs:List Int) (n:Int) (w:World) (hu:aS lo hi w u xs) (hn:1<=n/\n<=1000000) (hr:cD xs % n=r) :
  Z_ 118 #[u,n] w (.int .i64 r):=by
 obtain ⟨HU,HR⟩:=h2_ hu hr;obtain ⟨a,cap,rfl,-⟩:=hu.open;have hb:=gX xs
 obtain ⟨h,hh⟩:=e_ (cD xs)
 rw [hh] at hb hr;obtain ⟨HH,h0⟩:=h2_ hh hr;clear hu hr hh HR;go_enter func118,ntmps118;go_wp2_with fail;refine (qU lo hi _ xs _ HU).mono ?_;rw [HH];rintro e w1 ⟨rfl,rfl⟩;go_wp2;go_ret;exact ⟨cY h0,rfl⟩
theorem aCo:(Tryz.prog.info? 42).map (fun i=>(i.zero,i.size,i.bytes))=some (some (.agg #[(),(),(),(),()]),5,40):=by kernel_rfl
theorem Smp.one (x:Smp):∀u∈x.cs,u.oneCell'=true:=by
 intro u hu;simp only [Smp.cs,aTz,aTt,or_false] at hu
 rcases hu with rfl|rfl|rfl|rfl|rfl <;> rfl
theorem aPm {r:Nat} (hq:q<side) {s p1 p2 p3 p4 p5:Int} (hs:((16 / side:Nat):Int)=s) (h1:cD [i,j,((r*side+q:Nat):Int),1] % s=p1) (h2:cD [i,j,((r*side+q:Nat):Int),2] % s=p2)
  (h3:cD [i,j,((r*side+q:Nat):Int),3] % 16=p3) (h4:cD [i,j,((r*side+q:Nat):Int),4] % 33=p4) (h5:cD [i,j,((r*side+q:Nat):Int),5] % 33=p5) :
  kZ i j side (r*side+q)=⟨i*16+(q:Int)*s+p1,j*16+(r:Int)*s+p2,p3,p4 - 16,p5 - 16⟩:=by
 have e1:(r*side+q) % side=q:=by rw [aZw,aYv,aW2 hq]
 have e2:(r*side+q) / side=r:=by rw [aZw,aZ5 _ _ (by omega),aYx hq,aUa]
 unfold kZ;rw [e1,e2,hs,h1,h2,h3,h4,h5]
theorem aD.freshS {α : Type} {cs : α->List Value} {g:Nat} (hl:lo<=g) (h:Blk w g e []):aD cs lo e sz w (.slice (some ⟨g,0,none⟩) 0 0) []:=
 ⟨by simp,.inr ⟨g,0,#[],rfl,hl,h,aTc _,by unfold maxLen;omega,by simp,by simp⟩⟩
theorem nZ {α : Type} (f:Nat->α) (n:Nat):(aT3 (n+1)).map f=(aT3 n).map f++[f n]:=by rw [aVx,aVq,aXm]
theorem tM (c:Cam) (hc:c.okB=true) (i j:Int) (hi:0<=i/\i<c.w) (hj:0<=j/\j<c.h) (sd:Nat) (hs:sd=1\/sd=2\/sd=4) (w:World) :
  Calls aTg 68 #[.agg c,i,j,(sd:Nat)] w fun e w'=>∃r,e = .returned r/\aD Smp.cs w.heap.size 42 5 w' r (tJ i j sd)/\Ext w w':=by
 have HC:=hid hc;have hw:=(Cam.okB_iff.1 hc).w;have hh:=(Cam.okB_iff.1 hc).h;obtain ⟨I1,I2⟩:=h2_ (aG.2 (show 0<=i/\i<=c.w - 1 by omega)) (aG.2 (show 0<=j/\j<=c.h - 1 by omega));have x0:Ext w (w.alloc (.cells c 35)):=X_;have bC:=aTm w 35 c;obtain ⟨c9,x2⟩:=h2_ x0 bC;clear hc x0 bC;have c6:=hid hs
 have d3:sd<=4:=by omega
 have d6:((sd:Nat):Int)≠0:=by omega
 obtain ⟨ST,h8⟩:=e_ ((16 / sd:Nat):Int)
 have t0:bCb 16 ((sd:Nat):Int)=ST:=by rw [<-h8,aVi (by omega)];rfl
 have d4:4<=ST/\ST<=16:=by rw [<-h8];rcases hs with rfl|rfl|rfl <;> decide
 have c7:=hid h8
 have d2:sd*sd<=16:=by rcases hs with rfl|rfl|rfl <;> decide
 clear hs h8;go_enter func68,ntmps68;go_upto_region 2 with fail
 go_cut [46] from 16 to 47 (fun u wx=>u = .bool false/\Ext w wx/\Blk wx (w.heap.size+1) 42 [])
 case first=>
  go_wp2_with fail;refine r_ (aO HC.out _) fun w1 x1=>?_;have b1:=x2.out.ext (aTi (show Ext (w.alloc (.cells c 35)) ((w.alloc (.cells c 35)).alloc (.cells #[] 42)) from X_) x1);have bE:=(aTm (w.alloc (.cells c 35)) 42 []).ext x1;rw [aTe] at bE;have X1:=hid (c9.out.trans (aTi (show Ext (w.alloc (.cells c 35)) ((w.alloc (.cells c 35)).alloc (.cells #[] 42)) from X_) x1));obtain ⟨c0,c1⟩:=b1.q2;have l1:=b1.lt;have h7:=hid bE;clear b1 x1 bE x2
  rcases c6.out with h1|h1|h1
  all_goals
   have h2:((sd:Nat):Int)=((sd:Nat):Int):=rfl;subst h1;clear h2;go_wp2_with (go_at_call 46;with_reducible first|(refine z_ (aF I1.out _) ?_)|(refine z_ (aF I2.out _) ?_))
   go_meet
   exact ⟨rfl,X1.out,h7.out⟩
 case rest=>
  obtain ⟨rfl,x1,y4⟩:=hcut;obtain ⟨X1,h7⟩:=h2_ x1 y4;clear x1 y4;go_wp2
  go_loopw [9,11] (fun v x wr=>∃(r:Nat) (xs:List Smp),r<=sd/\x = .int .i64 (r:Nat)/\xs=(aT3 (r*sd)).map (kZ i j sd)/\aD Smp.cs w.heap.size 42 5 wr v xs/\Ext w wr) (fun _ x _=>sd - (intOf x).toNat)
  case atStart=>exact ⟨0,[],by omega,rfl,by rw [aXv];rfl,aD.freshS (by omega) h7.out,X1.out⟩
  case round=>
   obtain ⟨r,xs,hr,rfl,h6,ho,hx⟩:=hrel;obtain ⟨xa,xc,rfl,d5⟩:=aD.form ho;obtain ⟨h4,HO,HX⟩:=h3_ h6 ho hx;clear h6 ho hx h7
   rcases aUc r sd with hlt|hge
   ·have d0:(r:Int)<((sd:Nat):Int):=by omega
    go_wp2
    go_loopw [9,12] (fun v x wr=>∃(q:Nat) (xs:List Smp),q<=sd/\x = .int .i64 (q:Nat)/\xs=(aT3 (r*sd+q)).map (kZ i j sd)/\aD Smp.cs w.heap.size 42 5 wr v xs/\Ext w wr) (fun _ x _=>sd - (intOf x).toNat)
    case atStart=>exact ⟨0,xs,by omega,rfl,by rw [aUq];exact h4.out,HO.out,HX.out⟩
    case round=>
     clear h4 HO HX;obtain ⟨q,xs,hq,rfl,h6,ho,hx⟩:=hrel;obtain ⟨xa,xc,rfl,d5⟩:=aD.form ho;obtain ⟨h4,HO,HX⟩:=h3_ h6 ho hx;clear h6 ho hx
     rcases aUc q sd with hq2|hq2
     ·have d7:(q:Int)<((sd:Nat):Int):=by omega
      obtain ⟨m,hm⟩:=e_ xs.length
      have a3:m=r*sd+q:=by rw [<-hm,h4.out,aUn,aWd]
      have d8:r*sd<=3*4:=aUh (by omega) (by omega)
      have d1:m<=15:=by omega
      obtain ⟨p1,q6⟩:=e_ (cD [i,j,(m:Nat),1] % ST)
      obtain ⟨p2,q7⟩:=e_ (cD [i,j,(m:Nat),2] % ST)
      obtain ⟨p3,a4⟩:=e_ (cD [i,j,(m:Nat),3] % 16)
      obtain ⟨p4,a5⟩:=e_ (cD [i,j,(m:Nat),4] % 33)
      obtain ⟨p5,a6⟩:=e_ (cD [i,j,(m:Nat),5] % 33)
      have b1:0<=p1/\p1<=15:=by rw [<-q6];exact ⟨aXr _ (by omega),by have:=aW0 (cD [i,j,((m:Nat):Int),1]) (show 0<ST by omega);omega⟩
      have b2:0<=p2/\p2<=15:=by rw [<-q7];exact ⟨aXr _ (by omega),by have:=aW0 (cD [i,j,((m:Nat):Int),2]) (show 0<ST by omega);omega⟩
      obtain ⟨e1,a0⟩:=e_ ((q:Int)*ST)
      obtain ⟨e2,a1⟩:=e_ ((r:Int)*ST)
      have q1:0<=e1/\e1<=64:=by
       rw [<-a0];have:=bK (a:=(q:Int)) (b:=ST) (A:=4) (B:=16) (by omega) (by omega);exact ⟨aUw (by omega) (by omega),by omega⟩
      have q2:0<=e2/\e2<=64:=by
       rw [<-a1];have:=bK (a:=(r:Int)) (b:=ST) (A:=4) (B:=16) (by omega) (by omega);exact ⟨aUw (by omega) (by omega),by omega⟩
      obtain ⟨b0,b7⟩:=h2_ a0 a1
      have b3:0<=p3/\p3<=15:=by omega
      have b4:0<=p4/\p4<=32:=by omega
      have b5:0<=p5/\p5<=32:=by omega
      obtain ⟨P1,P2,P3,P4,P5⟩:=h5_ q6 q7 a4 a5 a6
      have h0:=hid (show ∀k:Int,(0<=k/\k<=10)->∀y∈[i,j,((m:Nat):Int),k],I64 y from fun k hk y hy=>by
       simp only [aTz,aTt,or_false] at hy
       rcases hy with rfl|rfl|rfl|rfl <;> exact ⟨by omega,by omega⟩)
      obtain ⟨z2,z3⟩:=h2_ a3 hm;have w0:=aTm wr 3 [i,j,(m:Nat),.int .i64 1];have x7:=hid w0;rw [hm];clear q6 q7 a4 a5 a6 a3 w0;go_wp2_with fail;refine z_ (gH 0 _ _ [i,j,(m:Nat),1] _ _ (aCn x7.out (h0.out 1 (by decide))) (by omega) P1.out) ?_;clear hm;go_upto_region 13 with fail;have bX:=aTm (wr.alloc (.cells #[i,j,(m:Nat),.int .i64 1] 3)) 42 [.int .i64 (i*16+e1+p1),(),(),(),()];rw [aTe] at bX;have xX:Ext wr ((wr.alloc (.cells #[i,j,(m:Nat),.int .i64 1] 3)).alloc (.cells #[.int .i64 (i*16+e1+p1),(),(),(),()] 42)):=X_
      obtain ⟨W2,y5⟩:=e_ ((wr.alloc (.cells #[i,j,(m:Nat),.int .i64 1] 3)).alloc (.cells #[.int .i64 (i*16+e1+p1),(),(),(),()] 42))
      rw [y5] at bX xX ⊢;obtain ⟨x3,z4⟩:=h2_ bX xX;clear y5 bX xX x7;have y0:=aTm W2 3 [i,j,(m:Nat),.int .i64 2];have x8:=hid y0;clear y0;go_wp2_with fail;refine z_ (gH 0 _ _ [i,j,(m:Nat),2] _ _ (aCn x8.out (h0.out 2 (by decide))) (by omega) P2.out) ?_
      have q2:=(x3.out.ext (show Ext W2 (W2.alloc (.cells #[i,j,(m:Nat),.int .i64 2] 3)) from X_))
      have cq:=q2.cell 1 rfl;have fq:=q2.free 1;have lq:=q2.lt;have Q2:=hid q2;clear q2;go_upto_region 14 with fail
      obtain ⟨W3,y6⟩:=e_ ((W2.alloc (.cells #[i,j,(m:Nat),.int .i64 2] 3)).setCell ⟨wr.heap.size+1,1,none⟩ (.int .i64 (j*16+e2+p2)))
      have bb:=Q2.out.set 1 (.int .i64 (j*16+e2+p2));have xx:Ext wr ((W2.alloc (.cells #[i,j,(m:Nat),.int .i64 2] 3)).setCell ⟨wr.heap.size+1,1,none⟩ (.int .i64 (j*16+e2+p2))):=aTu (aTi z4.out X_) (by simp only;omega) _;rw [y6] at bb xx ⊢;obtain ⟨x4,z5⟩:=h2_ bb xx;clear y6 bb xx cq fq lq Q2 x3 z4 x8;have y1:=aTm W3 3 [i,j,(m:Nat),.int .i64 3];have x9:=hid y1;clear y1;go_wp2_with fail;refine z_ (gH 0 _ _ [i,j,(m:Nat),3] _ _ (aCn x9.out (h0.out 3 (by decide))) (by omega) P3.out) ?_
      have q3:=(x4.out.ext (show Ext W3 (W3.alloc (.cells #[i,j,(m:Nat),.int .i64 3] 3)) from X_))
      have cq:=q3.cell 2 rfl;have fq:=q3.free 2;have lq:=q3.lt;have Q3:=hid q3;clear q3;go_upto_region 15 with fail
      obtain ⟨W4,y7⟩:=e_ ((W3.alloc (.cells #[i,j,(m:Nat),.int .i64 3] 3)).setCell ⟨wr.heap.size+1,2,none⟩ (.int .i64 (p3)))
      have bb:=Q3.out.set 2 (.int .i64 (p3));have xx:Ext wr ((W3.alloc (.cells #[i,j,(m:Nat),.int .i64 3] 3)).setCell ⟨wr.heap.size+1,2,none⟩ (.int .i64 (p3))):=aTu (aTi z5.out X_) (by simp only;omega) _;rw [y7] at bb xx ⊢;obtain ⟨x5,z6⟩:=h2_ bb xx;clear y7 bb xx cq fq lq Q3 x4 z5 x9;have y2:=aTm W4 3 [i,j,(m:Nat),.int .i64 4];have z0:=hid y2;clear y2;go_wp2_with fail;refine z_ (gH 0 _ _ [i,j,(m:Nat),4] _ _ (aCn z0.out (h0.out 4 (by decide))) (by omega) P4.out) ?_
      have q4:=(x5.out.ext (show Ext W4 (W4.alloc (.cells #[i,j,(m:Nat),.int .i64 4] 3)) from X_))
      have cq:=q4.cell 3 rfl;have fq:=q4.free 3;have lq:=q4.lt;have Q4:=hid q4;clear q4;go_upto_region 16 with fail
      obtain ⟨W5,y8⟩:=e_ ((W4.alloc (.cells #[i,j,(m:Nat),.int .i64 4] 3)).setCell ⟨wr.heap.size+1,3,none⟩ (.int .i64 (p4 - 16)))
      have bb:=Q4.out.set 3 (.int .i64 (p4 - 16));have xx:Ext wr ((W4.alloc (.cells #[i,j,(m:Nat),.int .i64 4] 3)).setCell ⟨wr.heap.size+1,3,none⟩ (.int .i64 (p4 - 16))):=aTu (aTi z6.out X_) (by simp only;omega) _;rw [y8] at bb xx ⊢;obtain ⟨x6,z7⟩:=h2_ bb xx;clear y8 bb xx cq fq lq Q4 x5 z6 z0;have y3:=aTm W5 3 [i,j,(m:Nat),.int .i64 5];have z1:=hid y3;clear y3;go_wp2_with fail;refine z_ (gH 0 _ _ [i,j,(m:Nat),5] _ _ (aCn z1.out (h0.out 5 (by decide))) (by omega) P5.out) ?_
      have q5:=(x6.out.ext (show Ext W5 (W5.alloc (.cells #[i,j,(m:Nat),.int .i64 5] 3)) from X_))
      have cq:=q5.cell 4 rfl;have fq:=q5.free 4;have lq:=q5.lt;have Q5:=hid q5;clear q5;go_upto_region 17 with fail
      obtain ⟨W6,y9⟩:=e_ ((W5.alloc (.cells #[i,j,(m:Nat),.int .i64 5] 3)).setCell ⟨wr.heap.size+1,4,none⟩ (.int .i64 (p5 - 16)))
      have bb:=Q5.out.set 4 (.int .i64 (p5 - 16));have xx:Ext wr ((W5.alloc (.cells #[i,j,(m:Nat),.int .i64 5] 3)).setCell ⟨wr.heap.size+1,4,none⟩ (.int .i64 (p5 - 16))):=aTu (aTi z7.out X_) (by simp only;omega) _;rw [y9] at bb xx ⊢;obtain ⟨a9,z8⟩:=h2_ bb xx;clear y9 bb xx cq fq lq Q5 x6 z7 z1
      have a7:kZ i j sd m=⟨i*16+e1+p1,j*16+e2+p2,p3,p4 - 16,p5 - 16⟩:=by
       have em:=z2.out;rw [em];rw [<-b0.out,<-b7.out];refine aPm hq2 c7.out ?_ ?_ ?_ ?_ ?_
       ·rw [<-em];exact P1.out
       ·rw [<-em];exact P2.out
       ·rw [<-em];exact P3.out
       ·rw [<-em];exact P4.out
       ·rw [<-em];exact P5.out
      have b6:=a9.out;obtain ⟨c0,c1,c2,c3,c4⟩:=b6.q5;have l6:=b6.lt;have q8:=hid a7;have bE:=aTm W6 42 [.int .i64 (i*16+e1+p1),.int .i64 (j*16+e2+p2),p3,.int .i64 (p4 - 16),.int .i64 (p5 - 16)];obtain ⟨HE,O6,z9⟩:=h3_ bE (aD.ext (aD.ext HO.out z8.out) (show Ext W6 (W6.alloc (.cells #[.int .i64 (i*16+e1+p1),.int .i64 (j*16+e2+p2),p3,.int .i64 (p4 - 16),.int .i64 (p5 - 16)] 42)) from X_)) (aTi z8.out (show Ext W6 (W6.alloc (.cells #[.int .i64 (i*16+e1+p1),.int .i64 (j*16+e2+p2),p3,.int .i64 (p4 - 16),.int .i64 (p5 - 16)] 42)) from X_))
      have a8:w.heap.size<=(W6.alloc (.cells #[.int .i64 (i*16+e1+p1),.int .i64 (j*16+e2+p2),p3,.int .i64 (p4 - 16),.int .i64 (p5 - 16)] 42)).heap.size:=by have h1:=z9.out.size;have h2:=HX.out.size;omega
      have c8:=hid a8
      have a2:xs.length<1000000:=by rw [z3.out];omega
      have b9:=hid a2;have O7:Hid (aD Smp.cs w.heap.size 42 5 (W6.alloc (.cells #[.int .i64 (i*16+e1+p1),.int .i64 (j*16+e2+p2),p3,.int .i64 (p4 - 16),.int .i64 (p5 - 16)] 42)) (.slice xa m xc) xs):=hid (z3.out▸O6.out);clear b6 a7 bE a8 a2
      go_wp2_with (at_builtin;refine bZ Smp.cs 42 5 40 _ _ rfl _ _ 103 rfl underlying103 aCo rfl (by decide) (by decide) (fun _=>rfl) w.heap.size (.slice xa m xc) xs rfl O7.out ⟨i*16+e1+p1,j*16+e2+p2,p3,p4 - 16,p5 - 16⟩ W6.heap.size rfl (fun jj hj=>by
        rcases (show jj=0\/jj=1\/jj=2\/jj=3\/jj=4 by omega) with rfl|rfl|rfl|rfl|rfl
        ·exact HE.out.cell 0 rfl
        ·exact HE.out.cell 1 rfl
        ·exact HE.out.cell 2 rfl
        ·exact HE.out.cell 3 rfl
        ·exact HE.out.cell 4 rfl) (Smp.one _) b9.out c8.out ?_;intro v8 w8 h3 hg;obtain ⟨q9,h5⟩:=e_ (xs++[(⟨i*16+e1+p1,j*16+e2+p2,p3,p4 - 16,p5 - 16⟩:Smp)]);rw [h5] at h3;obtain ⟨h9,c5,b8⟩:=h3_ h5 h3 hg;obtain ⟨va,vc,rfl,_⟩:=aD.form h3;clear h3 hg h5)
      go_roundw
      case rel=>
       refine ⟨q+1,q9,by omega,by go_num,?_,c5.out,aUo (HX.out.trans z9.out) b8.out (fun k hk=>(aD.lt O7.out k hk).1)⟩
       ·rw [<-h9.out,<-q8.out,z2.out,h4.out]
        exact (nZ _ _).symm
      case measure=>simp [intOf];omega
     ·obtain rfl:q=sd:=by omega
      have q0:=hid (show xs=(aT3 ((r+1)*q)).map (kZ i j q) by rw [h4.out,aYz]);go_wp2;go_roundw
      case rel=>exact ⟨r+1,xs,by omega,by go_num,q0.out,HO.out,HX.out⟩
      case measure=>simp [intOf];omega
   ·obtain rfl:r=sd:=by omega
    have HF:=hid (show xs=tJ i j r by rw [h4.out];rfl);go_wp2;go_ret;refine ⟨_,rfl,?_,HX.out⟩;rw [<-HF.out];exact HO.out
theorem lS (s:Scn) (lo hi:Nat) (v:Value) (w:World) (hv:s.R lo hi w v) (hh:hi<=w.heap.size) (hsm:s.small) :
  R_ 45 #[v] w (.bool s.okB):=by
 obtain ⟨a1,c1,a2,c2,a3,c3,rfl,-,q1,-,h1,h2,h3⟩:=hv.form;have q0:=aTm w 40 (sL_ s a1 c1 a2 c2 a3 c3);obtain ⟨R0,X0,HT,H1,H2,H3⟩:=h6_ q0 (show Ext w (w.alloc (.cells (sA_ s a1 c1 a2 c2 a3 c3) 40)) from X_) (show ∀W:World,Ext w W->cZ lo hi W (.agg #[s.t.log,.slice a1 s.t.px.length c1]) s.t from fun W x=>⟨_,rfl,q1,(h1.shut).ext hh x⟩) h1 h2 h3;obtain ⟨z7,z2,z8,z3,HS⟩:=m5_ h2.le h2.cap h3.le h3.cap (hid hsm);clear q0 hv q1 h1 h2 h3 hsm;unfold Scn.okB
 obtain ⟨b1,q3⟩:=e_ s.c.okB
 obtain ⟨b2,q4⟩:=e_ s.t.okB
 obtain ⟨b3,q8⟩:=e_ (inB (s.ps.length:Int) 1 3)
 obtain ⟨C1,C2,C3⟩:=h3_ q3 q4 q8;rw [q3,q4,q8];clear q3 q4 q8;go_enter func45,ntmps45;go_wp2
 go_loopw [13] (fun i wr=>∃k:Nat,k<=s.ps.length/\i = .int .i64 (k:Nat)/\Ext w wr/\Blk wr w.heap.size 40 (sL_ s a1 c1 a2 c2 a3 c3)/\∀q (hq:q<k) (hq2:q<s.ps.length),s.ps[q].chkB=true) (fun i _=>s.ps.length - (intOf i).toNat)
 case atStart=>exact ⟨0,by omega,rfl,X0,R0,fun q hq=>absurd hq (by omega)⟩
 case round=>
  obtain ⟨k,hk,rfl,hx,hb,hc⟩:=hrel;obtain ⟨HX,HB,HC⟩:=h3_ hx hb hc
  rcases aUc k s.ps.length with hlt|hge
  ·obtain ⟨b,q6,e1,d1,e2,d2,rfl,z6,z5,k1,k2,hR⟩:=H2.at hlt hx hh
   have HR:=hid hR;have hz:=hx.size;have HL:=hid hlt;clear hx hb hc hR;go_wp2_with fail;refine (yP lo hi _ _ _ (HR.ext (by omega) (show Ext wr (wr.alloc (.cells #[.slice e1 (s.ps[k]'hlt).ns.length d1,.slice e2 (s.ps[k]'hlt).gs.length d2] 119)) from X_)) (by simp;omega) (HS _ (aTy hlt)).1 (HS _ (aTy hlt)).2.1.1 (HS _ (aTy hlt)).2.2).mono ?_;rintro e w5 ⟨⟨cc,ck,rfl,hcc⟩,x5⟩;have y5:Ext wr w5:=aTi (show Ext wr (wr.alloc (.cells #[.slice e1 (s.ps[k]'hlt).ns.length d1,.slice e2 (s.ps[k]'hlt).gs.length d2] 119)) from X_) x5
   by_cases x7:cc=0
   ·subst x7
    obtain ⟨X5,R5,q7⟩:=h3_ (HX.trans y5) (HB.ext y5) hcc.symm;clear hcc x5 y5;go_wp2;go_roundw
    case rel=>
     refine ⟨k+1,by omega,by go_num,X5,R5,fun q hq hq2=>?_⟩
     rcases aUc q k with h|h
     ·exact HC q h hq2
     ·obtain rfl:q=k:=by omega
      exact q7
    case measure=>simp [intOf];omega
   ·have h8:s.ps.all Prg.chkB=false:=aWr.2 ⟨_,aTy hlt,by rw [<-hcc];simp [x7]⟩
    obtain ⟨h6,X5⟩:=h2_ h8 (HX.trans y5);clear hcc x5 y5 h8;go_wp2;go_ret;exact ⟨by rw [h6];simp,X5⟩
  ·obtain rfl:k=s.ps.length:=by omega
   have h8:s.ps.all Prg.chkB=true:=aUr.2 (fun x hx=>by obtain ⟨q,hq,rfl⟩:=aUf hx;exact hc q hq hq);have HA:=hid h8;have z1:=hb.cell 10 rfl;have lb:=hb.lt;clear hx hb hc h8;go_wp2_with fail;clear z1 lb
   go_loopw [28] (fun i wr=>∃k:Nat,k<=s.m/\i = .int .i64 (k:Nat)/\Ext w wr/\Blk wr w.heap.size 40 (sL_ s a1 c1 a2 c2 a3 c3)/\∀q,q<k->s.srfB q=true) (fun i _=>s.m - (intOf i).toNat)
   case atStart=>exact ⟨0,by omega,rfl,HX,HB,fun q hq=>absurd hq (by omega)⟩
   case round=>
    obtain ⟨j,hj,rfl,hx,hb,hc⟩:=hrel;obtain ⟨HX,HB,HC⟩:=h3_ hx hb hc
    rcases aUc j s.m with hlt|hge
    ·obtain ⟨b,q6,rfl,q3,q4,h9⟩:=H3.at hlt (by decide)
     have bw:b<w.heap.size:=by omega
     have q9:wr.rangeAt b (q6+j*26) ((aT3 26).map fun q=>.int .i64 (s.F (j*26+q))):=by
      intro q v hq;obtain ⟨h1,h2⟩:=aTd.1 hq;simp only [aUn,aWd] at h1;simp only [aW1,aV9] at h2;subst h2;exact (hx.cells.1 b _ bw).trans (h9 q h1)
     change wr.rangeAt b (q6+j*26) (gL_ (s.st j) (s.en j) (s.sh j) (s.rt j)) at q9;have x9:=hid q9
     have x4:World.rangeAt (wr.alloc (.cells (gA_ (s.st j) (s.en j) (s.sh j) (s.rt j)) 127)) wr.heap.size 0 (gL_ (s.st j) (s.en j) (s.sh j) (s.rt j)):=fun q v hq=>by rw [aUa];exact (aTm wr 127 (gL_ (s.st j) (s.en j) (s.sh j) (s.rt j))).cell q hq
     have x8:=hid x4;clear q9 x4;have b9:=hb.cell 9 rfl;have bl:=hb.lt;have z4:b<wr.heap.size:=aUu bw hx.size;clear hx hb hc h9;go_upto_region 11 with (first|(show wpList _ _ _ [_,_,_] _ _;refine wpList_load_mid rfl _ _ rfl b (q6+j*26) rfl (gL_ (s.st j) (s.en j) (s.sh j) (s.rt j)) _ x9 underlying127 rfl gE ?_)|(show wpList _ _ _ [_] _ _;refine dW _ _ _ rfl 127 (.tmp 8) (.tmp 31) rfl rfl (gA_ (s.st j) (s.en j) (s.sh j) (s.rt j)) wr.heap.size rfl rfl rfl (by kernel_rfl) (by kernel_rfl) (by kernel_rfl) ?_));go_wp2_with (show wpList _ _ _ [_,_,_,_,_,_] _ _;refine wpList_load_mid rfl _ _ rfl wr.heap.size 0 rfl (gL_ (s.st j) (s.en j) (s.sh j) (s.rt j)) _ x8 underlying127 rfl gE ?_);refine r_ (qQ (s.st j) (s.en j) (s.sh j) (s.rt j) s.ps.length _) fun w5 x5=>?_;have y5:Ext wr w5:=aTi (show Ext wr (wr.alloc (.cells (gA_ (s.st j) (s.en j) (s.sh j) (s.rt j)) 127)) from X_) x5;obtain ⟨X5,R5⟩:=h2_ (HX.trans y5) (HB.ext y5)
     cases q5:aPi (s.st j) (s.en j) (s.sh j) (s.rt j) s.ps.length
     ·have h8:(aT3 s.m).all s.srfB=false:=aWr.2 ⟨j,aUp.2 hlt,by unfold Scn.srfB;simp [q5]⟩
      have h6:=hid h8;clear q5 h8 x5 y5;go_wp2;go_ret;exact ⟨by rw [h6];simp,X5⟩
     ·have q7:=hid q5
      clear q5 x5 y5;go_wp2;go_roundw
      case rel=>
       refine ⟨j+1,by omega,by go_num,X5,R5,fun q hq=>?_⟩
       rcases aUc q j with h|h
       ·exact HC q h
       ·obtain rfl:q=j:=by omega
        exact q7
      case measure=>simp [intOf];omega
    ·obtain rfl:j=s.m:=by omega
     have h8:(aT3 s.m).all s.srfB=true:=aUr.2 (fun q hq=>HC q (aUp.1 hq));have h6:=hid h8;clear hx hb hc h8;clear HC;obtain ⟨HG,HJ⟩:=h2_ hge hj;clear hge hj
     by_cases hs:rC s.side=true
     ·have h3:s.side=1\/s.side=2\/s.side=4:=by unfold rC at hs;simpa [or_assoc] using hs
      have x3:=hid hs;clear hs
      obtain ⟨sd,x0⟩:=e_ s.side
      obtain ⟨h5,h7⟩:=h2_ (show Blk wr w.heap.size 40 [s.c.w,s.c.h,s.c.zoom,s.c.near,.bool s.c.deep,s.c.lens,s.c.focus,s.t.log,.slice a1 s.t.px.length c1,.slice a2 s.ps.length c2,.slice a3 s.m c3,sd] from x0▸HB.out) (show rC s.side=true from x3);rw [x0] at h3;clear x0 HB x3
      rcases h3 with rfl|rfl|rfl
      all_goals
       skip
       cases b1
       ·skip
        obtain ⟨s0,s1,s2,s3,s4,s5,s6,s7,s8,s9,h0,h4⟩:=h5.q12;have sl:=h5.lt;go_wp2_with fail;refine r_ (aO (c:=s.c) C1 _) fun w1 x1=>?_;obtain ⟨X1,R1⟩:=h2_ (HX.trans x1) (h5.ext x1);clear s0 s1 s2 s3 s4 s5 s6 s7 s8 s9 h0 h4 sl;clear x1;go_wp2;go_ret;exact ⟨by rw [h6,HA,h7];first|rfl|simp [*],X1⟩
       ·cases b2
        ·skip
         obtain ⟨s0,s1,s2,s3,s4,s5,s6,s7,s8,s9,h0,h4⟩:=h5.q12;have sl:=h5.lt;go_wp2_with fail;refine r_ (aO (c:=s.c) C1 _) fun w1 x1=>?_;obtain ⟨X1,R1⟩:=h2_ (HX.trans x1) (h5.ext x1);clear s0 s1 s2 s3 s4 s5 s6 s7 s8 s9 h0 h4 sl;clear x1;have s7:=R1.cell 7 rfl;have s8:=R1.cell 8 rfl;have s9:=R1.cell 9 rfl;have h0:=R1.cell 10 rfl;have h4:=R1.cell 11 rfl;have sl:=R1.lt;go_wp2_with fail;refine r_ (aL C2 lo hi _ _ (HT _ X1) (aTl hh X1.size)) fun w2 x2=>?_;obtain ⟨X2,R2⟩:=h2_ (X1.trans x2) (R1.ext x2);clear s7 s8 s9 h0 h4 sl;clear x2;go_wp2;go_ret;exact ⟨by rw [h6,HA,h7];first|rfl|simp [*],X2⟩
        ·cases b3
         ·skip
          obtain ⟨s0,s1,s2,s3,s4,s5,s6,s7,s8,s9,h0,h4⟩:=h5.q12;have sl:=h5.lt;go_wp2_with fail;refine r_ (aO (c:=s.c) C1 _) fun w1 x1=>?_;obtain ⟨X1,R1⟩:=h2_ (HX.trans x1) (h5.ext x1);clear s0 s1 s2 s3 s4 s5 s6 s7 s8 s9 h0 h4 sl;clear x1;have s7:=R1.cell 7 rfl;have s8:=R1.cell 8 rfl;have s9:=R1.cell 9 rfl;have h0:=R1.cell 10 rfl;have h4:=R1.cell 11 rfl;have sl:=R1.lt;go_wp2_with fail;refine r_ (aL C2 lo hi _ _ (HT _ X1) (aTl hh X1.size)) fun w2 x2=>?_;obtain ⟨X2,R2⟩:=h2_ (X1.trans x2) (R1.ext x2);clear s7 s8 s9 h0 h4 sl;clear x2;have s9:=R2.cell 9 rfl;have h0:=R2.cell 10 rfl;have h4:=R2.cell 11 rfl;have sl:=R2.lt;go_wp2_with (go_at_call 46;refine z_ (aF C3 _) ?_);go_ret;exact ⟨by rw [h6,HA,h7];first|rfl|simp [*],X2⟩
         ·rcases aUc 5 s.m with hm|hm
          ·have q2 : ¬((s.m:Int)<=5):=by omega
           have g0:decide (s.m<=5)=false:=by simp;omega
           have G0:=hid g0;clear g0;obtain ⟨s0,s1,s2,s3,s4,s5,s6,s7,s8,s9,h0,h4⟩:=h5.q12;have sl:=h5.lt;go_wp2_with fail;refine r_ (aO (c:=s.c) C1 _) fun w1 x1=>?_;obtain ⟨X1,R1⟩:=h2_ (HX.trans x1) (h5.ext x1);clear s0 s1 s2 s3 s4 s5 s6 s7 s8 s9 h0 h4 sl;clear x1;have s7:=R1.cell 7 rfl;have s8:=R1.cell 8 rfl;have s9:=R1.cell 9 rfl;have h0:=R1.cell 10 rfl;have h4:=R1.cell 11 rfl;have sl:=R1.lt;go_wp2_with fail;refine r_ (aL C2 lo hi _ _ (HT _ X1) (aTl hh X1.size)) fun w2 x2=>?_;obtain ⟨X2,R2⟩:=h2_ (X1.trans x2) (R1.ext x2);clear s7 s8 s9 h0 h4 sl;clear x2;have s9:=R2.cell 9 rfl;have h0:=R2.cell 10 rfl;have h4:=R2.cell 11 rfl;have sl:=R2.lt;go_wp2_with (go_at_call 46;refine z_ (aF C3 _) ?_);go_ret;exact ⟨by rw [h6,HA,h7,G0];first|rfl|simp [*],X2⟩
          ·have q2:(s.m:Int)<=5:=by omega
           have g0:decide (s.m<=5)=true:=by simp;omega
           have G0:=hid g0;clear g0;obtain ⟨s0,s1,s2,s3,s4,s5,s6,s7,s8,s9,h0,h4⟩:=h5.q12;have sl:=h5.lt;go_wp2_with fail;refine r_ (aO (c:=s.c) C1 _) fun w1 x1=>?_;obtain ⟨X1,R1⟩:=h2_ (HX.trans x1) (h5.ext x1);clear s0 s1 s2 s3 s4 s5 s6 s7 s8 s9 h0 h4 sl;clear x1;have s7:=R1.cell 7 rfl;have s8:=R1.cell 8 rfl;have s9:=R1.cell 9 rfl;have h0:=R1.cell 10 rfl;have h4:=R1.cell 11 rfl;have sl:=R1.lt;go_wp2_with fail;refine r_ (aL C2 lo hi _ _ (HT _ X1) (aTl hh X1.size)) fun w2 x2=>?_;obtain ⟨X2,R2⟩:=h2_ (X1.trans x2) (R1.ext x2);clear s7 s8 s9 h0 h4 sl;clear x2;have s9:=R2.cell 9 rfl;have h0:=R2.cell 10 rfl;have h4:=R2.cell 11 rfl;have sl:=R2.lt;go_wp2_with (go_at_call 46;refine z_ (aF C3 _) ?_);go_ret;exact ⟨by rw [h6,HA,h7,G0];first|rfl|simp [*],X2⟩
     ·have x6:rC s.side=false:=by cases h:rC s.side with|true=>exact absurd h hs|false=>rfl
      have z0:=hid x6
      have h1 : ¬s.side=1:=fun h=>by rw [h] at hs;exact hs rfl
      have h2 : ¬s.side=2:=fun h=>by rw [h] at hs;exact hs rfl
      have h3 : ¬s.side=4:=fun h=>by rw [h] at hs;exact hs rfl
      clear hs x6;obtain ⟨s0,s1,s2,s3,s4,s5,s6,s7,s8,s9,h0,h4⟩:=HB.q12;have sl:=HB.lt;go_wp2;go_ret;exact ⟨by rw [h6,HA,z0];simp,HX⟩
theorem Ins.one (y:Ins):∀u∈y.cs,u.oneCell'=true:=by
 intro u hu;simp only [Ins.cs,aTz,aTt,or_false] at hu
 rcases hu with rfl|rfl|rfl <;> rfl
theorem aLs {p:Prg} {ra:List Int} {j:Nat} (hj:j<ra.length):((ra.take (j+1)).flatMap fun a=>p.tr a.toNat)=((ra.take j).flatMap fun a=>p.tr a.toNat)++p.tr (ra[j]).toNat:=by
 rw [aT6 hj,aUv];simp
theorem aPn (lo hi lo2 hi2:Nat) (p:Prg) (hp:p.K) (W W2:World) (a1 a2:Option Addr) (c1 c2:Nat) (HN:sL lo hi W a1 c1 p.ns) (hh:hi<=W.heap.size) (lv:Value) (hL:rG lo2 hi2 W2 lv (p.gs.map (·.name))) (hh2:hi2<=W2.heap.size) :
  ∀(F r:Nat) (w:World),r<F->r<p.ns.length->Ext W w->Ext W2 w->(p.tr r).length<=1000->Calls aTg 191 #[.agg #[.slice a1 p.ns.length c1,.slice a2 p.gs.length c2],lv,(r:Nat)] w fun e w'=>∃u,e = .returned u/\gM w.heap.size w' u (p.tr r)/\Ext w w':=by
 intro F
 induction F with
 | zero=>intro r w h;omega
 | succ F ih=>
  intro r w hF hr hx y7 q5;obtain ⟨IH,HP,a4⟩:=h3_ ih hp hL;have l1:=HN.le;have l2:=HN.cap;have l5:=hp.v.len;have l6:=hp.v.gs_len;obtain ⟨b,q4,op,s,n,ua,ra,rfl,b2,b3,x8,h9,io,b6,y4,x0,x1,x2,x3⟩:=HN.at hr hx hh;have hk:=kR (hp.v.nd r _ h9).1;have x5:=hid (hp.v.nd r _ h9).2;have z8:=hp.v.tr_step h9
  have y3:(ra.flatMap fun a=>p.tr a.toNat).length<=1000:=by rw [z8,aT5] at q5;simp only at q5;omega
  obtain ⟨z9,a8,HG,HX,y1⟩:=h5_ y3 z8 h9 hx y7;obtain ⟨ax,ac,rfl,HI⟩:=y4.open;have m1:=HI.le;have m2:=HI.cap;have y9:=hid HI
  have b4:ra.length<=3:=by rcases hk with ⟨_,_,h⟩|⟨_,h⟩|⟨_,h⟩|⟨_,_,h⟩|⟨_,h⟩ <;> (simp only at h;omega)
  have HK:=hid hk;have zz:=hx.size;have y8:Ext w (((w.alloc (.cells #[.slice (some ⟨b,q4,none⟩) p.ns.length c1,.slice a2 p.gs.length c2] 119)).alloc (.cells #[op,.string s,n,.slice ax ra.length ac] 197)).alloc (.cells #[] 221)):=X_;have bP:=(aTm w 119 [.slice (some ⟨b,q4,none⟩) p.ns.length c1,.slice a2 p.gs.length c2]).ext (show Ext (w.alloc (.cells #[.slice (some ⟨b,q4,none⟩) p.ns.length c1,.slice a2 p.gs.length c2] 119)) (((w.alloc (.cells #[.slice (some ⟨b,q4,none⟩) p.ns.length c1,.slice a2 p.gs.length c2] 119)).alloc (.cells #[op,.string s,n,.slice ax ra.length ac] 197)).alloc (.cells #[] 221)) from X_);have bN:=(aTm (w.alloc (.cells #[.slice (some ⟨b,q4,none⟩) p.ns.length c1,.slice a2 p.gs.length c2] 119)) 197 [op,.string s,n,.slice ax ra.length ac]).ext (show Ext ((w.alloc (.cells #[.slice (some ⟨b,q4,none⟩) p.ns.length c1,.slice a2 p.gs.length c2] 119)).alloc (.cells #[op,.string s,n,.slice ax ra.length ac] 197)) (((w.alloc (.cells #[.slice (some ⟨b,q4,none⟩) p.ns.length c1,.slice a2 p.gs.length c2] 119)).alloc (.cells #[op,.string s,n,.slice ax ra.length ac] 197)).alloc (.cells #[] 221)) from X_);have bO:=aTm ((w.alloc (.cells #[.slice (some ⟨b,q4,none⟩) p.ns.length c1,.slice a2 p.gs.length c2] 119)).alloc (.cells #[op,.string s,n,.slice ax ra.length ac] 197)) 221 [];simp only [aTe] at bN bO;obtain ⟨y0,q9,q1,HO⟩:=h4_ y8 bP bN (show gM w.heap.size (((w.alloc (.cells #[.slice (some ⟨b,q4,none⟩) p.ns.length c1,.slice a2 p.gs.length c2] 119)).alloc (.cells #[op,.string s,n,.slice ax ra.length ac] 197)).alloc (.cells #[] 221)) (.slice (some ⟨w.heap.size+1+1,0,none⟩) 0 0) [] from aD.freshC (by omega) bO);clear ih hp hL x8 h9 y4 HI hk hx y7 z8 y3 q5 bP bN bO y8;go_enter func191,ntmps191;go_wp2
  go_loopw [8,20] (fun v i wr=>∃(k:Nat) (xs:List Ins),k<=ra.length/\i = .int .i64 (k:Nat)/\xs=((ra.take k).flatMap fun a=>p.tr a.toNat)/\gM w.heap.size wr v xs/\Blk wr w.heap.size 119 [.slice (some ⟨b,q4,none⟩) p.ns.length c1,.slice a2 p.gs.length c2]/\Blk wr (w.heap.size+1) 197 [op,.string s,n,.slice ax ra.length ac]/\Ext w wr) (fun _ i _=>ra.length - (intOf i).toNat)
  case atStart=>exact ⟨0,[],by omega,rfl,rfl,HO,q9,q1,y0⟩
  case round=>
   clear y0 q9 q1 HO;obtain ⟨k,xs,hk,rfl,z0,ho,x6,q7,hx⟩:=hrel;obtain ⟨xa,xc,rfl,-⟩:=aD.form ho;have z4:=hid z0
   have b5:xs.length<=1000:=by rw [z0];exact aTl (qC hk) z9
   by_cases z7:k<ra.length
   ·obtain ⟨b',b1,rfl,d1,d2,hc⟩:=y9.at z7
    have ha:=x5.out ra[k] (aTy z7);have x9:=aLs (p:=p) z7
    obtain ⟨q,hq⟩:∃q:Nat,ra[k]=q:=⟨ra[k].toNat,by omega⟩
    rw [hq] at hc ha x9;simp only [aT7] at x9
    have y6:xs.length+(p.tr q).length<=1000:=by rw [z0,<-aT5,<-x9];exact aTl (qC (by omega)) z9
    obtain ⟨a7,HO,q9,q1,h6⟩:=h5_ x9 ho x6 q7 hx;have b0:=(hx.cells.1 b' _ (by omega)).trans hc;obtain ⟨p0,p1⟩:=x6.q2;have pl:=x6.lt
    have bl:b'<wr.heap.size:=by have:=hx.size;omega
    obtain ⟨TL,a3⟩:=h2_ (show (p.tr q).length<=1000 by omega) y6;clear z0 ho x6 q7 hx hc x9 hq y6;go_wp2_with fail;refine (IH q wr (by omega) (by omega) (HX.trans h6) (y1.trans h6) TL).mono ?_;rintro e w3 ⟨u,rfl,O3,x3⟩;obtain ⟨a5,z1,x4,q8,y2⟩:=h5_ (aD.rd (sz:=3) O3 (fun _=>rfl)) (aD.ext HO x3) (q9.ext x3) (q1.ext x3) (h6.trans x3);have b7:=y2.size;clear O3 x3 HO q9 q1 h6 p0 p1 pl b0;go_wp2_with (at_builtin;refine cU Ins.cs 221 3 32 _ w3 rfl _ _ 160 rfl underlying160 uY rfl (by decide) (by decide) (fun _=>rfl) Ins.one w.heap.size (.slice xa xs.length xc) xs rfl z1 _ _ u (p.tr q) rfl a5 ?_ ?_ ?_)
    ·have:=a3.out;omega
    ·omega
    intro v4 w4 h0 hg;obtain ⟨a6,z3,z2,a9⟩:=h4_ h0 (x4.grown hg (cB x4 (by decide) z1)) (q8.grown hg (cB q8 (by decide) z1)) (aUo y2 hg (fun k hk=>(aD.lt z1 k hk).1));clear h0 hg;go_wp2;go_roundw
    case rel=>exact ⟨k+1,xs++p.tr q,by omega,by go_num,by rw [z4,a7],a6,z3,z2,a9⟩
    case measure=>simp [intOf];omega
   ·obtain rfl:k=ra.length:=by omega
    rw [aUb] at z4;obtain ⟨q1,h6,HO⟩:=h3_ q7 hx ho;obtain ⟨n0,n1,n2⟩:=q7.q3;have nl:=q7.lt;have zw:=hx.size;have q6:=hid (show ∀(y:Ins) (v':Value) (w':World),bU p ⟨op,s,n,ra⟩=y->gM w.heap.size w' v' (xs++[y])->Ext w w'->∃u,Ending.returned v' = .returned u/\gM w.heap.size w' u (p.tr r)/\Ext w w' from fun y v' w' hy h1 h2=>⟨_,rfl,by rw [a8,hy,<-z4];exact h1,h2⟩);clear z0 ho x6 q7 hx
    rcases HK with ⟨rfl,-,-⟩|⟨rfl,-⟩|⟨rfl,-⟩|⟨o1,o2,-⟩|⟨rfl,-⟩
    ·skip
     have y5:Ext wr (wr.alloc (.cells #[.int .i64 1,.string ⟨#[]⟩,n] 221)):=X_;obtain ⟨h4,h5⟩:=h2_ (aD.ext HO y5) (h6.trans y5);have q0:=h5.size;clear y5;go_wp2_with (at_builtin;refine cH _ rfl _ _ rfl w.heap.size (.slice xa xs.length xc) xs rfl ?_ ⟨1,⟨#[]⟩,n⟩ wr.heap.size rfl ?_ ?_ ?_ ?_)
     ·exact h4
     ·omega
     ·first|exact q0|omega
     intro v6 w6 h0 hg;have h7:=aUo h5 hg (fun k hk=>(aD.lt h4 k hk).1);go_wp2;go_ret;exact q6 _ _ _ rfl h0 h7
    ·cases hv:dE s
     ·have z6:ixL s.toList (p.gs.map (·.name))=((qN p s:Nat):Int):=by
       obtain ⟨i,hi,_⟩:=HP.name r _ HG rfl hv;rw [wX];unfold qN;rw [hi]
       rfl
      have hy:bU p ⟨2,s,n,ra⟩=⟨3,⟨#[]⟩,((qN p s:Nat):Int)⟩:=by unfold bU;simp [hv]
      obtain ⟨z,hz⟩:=e_ ((qN p s:Nat):Int)
      rw [hz] at z6 hy;obtain ⟨a0,z5⟩:=h2_ z6 hy;clear z6 hy hz;go_wp2_with fail;refine r_ (dY hv _) fun w7 x7=>?_;replace HO:=hid (aD.ext HO x7);replace h6:=hid (h6.trans x7);have n1:=(q1.ext x7).cell 1 rfl;have nl:=(q1.ext x7).lt;go_wp2_with fail;refine (zF lo2 hi2 _ _ s _ (a4.ext hh2 (y1.trans h6)) (by rw [aUn];omega)).mono ?_;rw [a0];rintro e w8 ⟨rfl,rfl⟩;have y5:Ext w7 (w7.alloc (.cells #[.int .i64 3,.string ⟨#[]⟩,z] 221)):=X_;obtain ⟨h4,h5⟩:=h2_ (aD.ext HO y5) (h6.trans y5);have q0:=h5.size;clear y5;go_wp2_with (at_builtin;refine cH _ rfl _ _ rfl w.heap.size (.slice xa xs.length xc) xs rfl ?_ ⟨3,⟨#[]⟩,z⟩ w7.heap.size rfl ?_ ?_ ?_ ?_)
      ·exact h4
      ·omega
      ·first|exact q0|omega
      intro v6 w6 h0 hg;have h7:=aUo h5 hg (fun k hk=>(aD.lt h4 k hk).1);go_wp2;go_ret;exact q6 _ _ _ z5 h0 h7
     ·have hy:bU p ⟨2,s,n,ra⟩=⟨2,s,0⟩:=by unfold bU;simp [hv]
      have z5:=hid hy;clear hy;go_wp2_with fail;refine r_ (dY hv _) fun w7 x7=>?_;replace HO:=hid (aD.ext HO x7);replace h6:=hid (h6.trans x7);have n1:=(q1.ext x7).cell 1 rfl;have nl:=(q1.ext x7).lt;have y5:Ext w7 (w7.alloc (.cells #[.int .i64 2,.string s,()] 221)):=X_;obtain ⟨h4,h5⟩:=h2_ (aD.ext HO y5) (h6.trans y5);have q0:=h5.size;clear y5;go_wp2_with (at_builtin;refine cH _ rfl _ _ rfl w.heap.size (.slice xa xs.length xc) xs rfl ?_ ⟨2,s,0⟩ w7.heap.size rfl ?_ ?_ ?_ ?_)
      ·exact h4
      ·omega
      ·first|exact q0|omega
      intro v6 w6 h0 hg;have h7:=aUo h5 hg (fun k hk=>(aD.lt h4 k hk).1);go_wp2;go_ret;exact q6 _ _ _ z5 h0 h7
    ·have y5:Ext wr (wr.alloc (.cells #[.int .i64 5,.string ⟨#[]⟩,.int .i64 3] 221)):=X_
     obtain ⟨h4,h5⟩:=h2_ (aD.ext HO y5) (h6.trans y5);have q0:=h5.size;clear y5;go_wp2_with (at_builtin;refine cH _ rfl _ _ rfl w.heap.size (.slice xa xs.length xc) xs rfl ?_ ⟨5,⟨#[]⟩,3⟩ wr.heap.size rfl ?_ ?_ ?_ ?_)
     ·exact h4
     ·omega
     ·first|exact q0|omega
     intro v6 w6 h0 hg
     have h7:=aUo h5 hg (fun k hk=>(aD.lt h4 k hk).1);go_wp2;go_ret
     exact q6 _ _ _ rfl h0 h7
    ·have h1 : ¬op=1:=by omega
     have h2 : ¬op=2:=by omega
     have h3 : ¬op=3:=by omega
     have h8 : ¬op=8:=by omega
     have hy:=hid (show bU p ⟨op,s,n,ra⟩=⟨6,⟨#[]⟩,op⟩ by unfold bU;simp [h1,h2,h3,h8])
     have y5:Ext wr (wr.alloc (.cells #[.int .i64 6,.string ⟨#[]⟩,op] 221)):=X_
     obtain ⟨h4,h5⟩:=h2_ (aD.ext HO y5) (h6.trans y5);have q0:=h5.size;clear y5;go_wp2_with (at_builtin;refine cH _ rfl _ _ rfl w.heap.size (.slice xa xs.length xc) xs rfl ?_ ⟨6,⟨#[]⟩,op⟩ wr.heap.size rfl ?_ ?_ ?_ ?_)
     ·exact h4
     ·omega
     ·first|exact q0|omega
     intro v6 w6 h0 hg
     have h7:=aUo h5 hg (fun k hk=>(aD.lt h4 k hk).1);go_wp2;go_ret
     exact q6 _ _ _ hy.out h0 h7
    ·have y5:Ext wr (wr.alloc (.cells #[.int .i64 7,.string s,()] 221)):=X_
     obtain ⟨h4,h5⟩:=h2_ (aD.ext HO y5) (h6.trans y5);have q0:=h5.size;clear y5;go_wp2_with (at_builtin;refine cH _ rfl _ _ rfl w.heap.size (.slice xa xs.length xc) xs rfl ?_ ⟨7,s,0⟩ wr.heap.size rfl ?_ ?_ ?_ ?_)
     ·exact h4
     ·omega
     ·first|exact q0|omega
     intro v6 w6 h0 hg
     have h7:=aUo h5 hg (fun k hk=>(aD.lt h4 k hk).1);go_wp2;go_ret
     exact q6 _ _ _ rfl h0 h7
section
open Go.RowKit Go.Maps Go.WideMaps
structure SB (p:Prg) (P R C lo:Nat) (a1 a2:Option Addr) (c1 c2:Nat) (w:World) (xs:List Ins) (iv:Value) (ls:List ByteArray) (lv:Value):Prop where
 prog:Blk w P 119 [.slice a1 p.ns.length c1,.slice a2 p.gs.length c2]
 res:Blk w R 163 true
 code:Blk w C 163 [iv,lv]
 ins:gM lo w iv xs
 loc:cQ lo w lv ls
 low:lo<=C/\R<lo
theorem SB.ext {p:Prg} {P R C lo:Nat} {a1 a2:Option Addr} {c1 c2:Nat} {w w':World} {xs:List Ins} {iv:Value} {ls:List ByteArray} {lv:Value} (h:SB p P R C lo a1 a2 c1 c2 w xs iv ls lv) (x:Ext w w'):SB p P R C lo a1 a2 c1 c2 w' xs iv ls lv:=
 ⟨h.prog.ext x,h.res.ext x,h.code.ext x,aD.ext h.ins x,h.loc.ext x,h.low⟩
theorem SB.kn {p:Prg} {P R C lo:Nat} {a1 a2:Option Addr} {c1 c2:Nat} {w w':World} {xs xs':List Ins} {iv iv':Value} {ls:List ByteArray} {lv:Value} (h:SB p P R C lo a1 a2 c1 c2 w xs iv ls lv) (k:KN lo C 221 w w') (hc:Blk w' C 163 [iv',lv]) (hi:gM lo w' iv' xs'):SB p P R C lo a1 a2 c1 c2 w' xs' iv' ls lv:=
 ⟨KN.blk h.prog k (h.prog.neq h.code (by decide)) (by decide),KN.blk h.res k (by have:=h.low;omega) (by decide),hc,hi,KN.strs h.loc k (h.code.noCells (by decide)) (by decide),h.low⟩
theorem SB.knS {p:Prg} {P R C lo:Nat} {a1 a2:Option Addr} {c1 c2:Nat} {w w':World} {xs:List Ins} {iv lv lv':Value} {ls ls':List ByteArray} (h:SB p P R C lo a1 a2 c1 c2 w xs iv ls lv) (k:KN lo C 9 w w') (hc:Blk w' C 163 [iv,lv']) (hl:cQ lo w' lv' ls'):SB p P R C lo a1 a2 c1 c2 w' xs iv ls' lv':=
 ⟨KN.blk h.prog k (h.prog.neq h.code (by decide)) (by decide),KN.blk h.res k (by have:=h.low;omega) (by decide),hc,KN.row h.ins k (h.code.noCells (by decide)) (by decide),hl,h.low⟩
theorem aEa (lo hi:Nat) (v:Value) (p:Prg) (w:World) (hv:p.R lo hi w v) (hh:hi<=w.heap.size) (hchk:p.chkB=true) (hbd:p.bd) (hnl:p.ns.length<=1048576) (hgl:p.gs.length<=1048576) :
  Calls aTg 140 #[v] w fun e w'=>∃u,e = .returned (.tuple #[u,.bool true])/\p.code.R w.heap.size w'.heap.size w' u/\Ext w w':=by
 have HV:=hid hv;have hp:=Prg.chkB_K hchk;obtain ⟨HP,b7⟩:=h2_ hp hchk;obtain ⟨a1,c1,a2,c2,rfl,HN,HG⟩:=hv.form;obtain ⟨l1,l2,l3,l4,l5⟩:=m5_ HN.le HN.cap HG.le HG.cap hp.v.len;have l6:=hp.v.gs_len;obtain ⟨c3,y5⟩:=h2_ HN HG
 have q4:∀x∈p.ns,I64 x.num:=fun x hx=>by
  obtain ⟨i,hi,d6⟩:=aUf hx;exact (HN.cell i x (by rw [<-d6];simp [hi])).1.2
 have b3:=hid (aNo hp hgl q4);have a6:=pG hp;have b8:=hid a6;have b0:=aTm w 119 [.slice a1 p.ns.length c1,.slice a2 p.gs.length c2];have r0:=aTm (w.alloc (.cells #[.slice a1 p.ns.length c1,.slice a2 p.gs.length c2] 119)) 163 true;rw [aTe] at r0;have x0:Ext w ((w.alloc (.cells #[.slice a1 p.ns.length c1,.slice a2 p.gs.length c2] 119)).alloc (.cells true 163)):=X_;obtain ⟨y4,y9,q8⟩:=h3_ (b0.ext (show Ext _ ((w.alloc (.cells #[.slice a1 p.ns.length c1,.slice a2 p.gs.length c2] 119)).alloc (.cells true 163)) from X_)) r0 x0;clear hv hp hchk b0 r0 x0 q4 a6 HN HG;go_enter func140,ntmps140;go_wp2_with fail;refine (yP lo hi _ p _ (HV.ext hh q8) (aTl hh q8.size) hbd hnl hgl).mono ?_;rintro e w1 ⟨⟨c,k,rfl,hc⟩,x1⟩;rw [b7] at hc
 obtain rfl:c=0:=by simpa using hc
 obtain ⟨c6,x9,z0⟩:=h3_ (q8.trans x1) (y4.ext x1) (y9.ext x1);have e5:w.heap.size+1<w1.heap.size:=z0.lt;clear x1 q8 y4 y9 hc;have xb:Ext w1 (w1.alloc (.cells true 163)):=X_
 have a0:=hid (show SB p w.heap.size (w.heap.size+1) w1.heap.size w1.heap.size a1 a2 c1 c2 (w1.alloc (.cells true 163)) [] (.slice none 0 0) [] (.slice none 0 0) from
  ⟨x9.ext xb,z0.ext xb,aTm w1 163 true,aD.nil _ _ _ _ _,cQ.nil _ _,⟨aTc _,e5⟩⟩)
 have a4:=hid (c6.trans xb);have q1:=(x9.ext xb).cell 1 rfl;clear xb x9 z0;go_wp2
 go_loopw [23] (fun i wr=>∃(k:Nat) (lv:Value),k<=p.gs.length/\i = .int .i64 (k:Nat)/\SB p w.heap.size (w.heap.size+1) w1.heap.size w1.heap.size a1 a2 c1 c2 wr [] (.slice none 0 0) ((p.gs.take k).map (·.name)) lv/\Ext w wr) (fun i _=>p.gs.length - (intOf i).toNat)
 case atStart=>exact ⟨0,_,by omega,rfl,a0,a4⟩
 case round=>
  clear a0 a4 q1;obtain ⟨k,lv,hk,rfl,hS,hx⟩:=hrel
  by_cases y2:k<p.gs.length
  ·obtain ⟨b,b2,s,rt,rfl,d4,d5,h6,h4,ir,y0,y1⟩:=y5.at y2 hx hh
   have b9:=hid h4
   obtain ⟨NL,h7⟩:=e_ ((p.gs.take k).map (·.name))
   have z4:NL.length<=200:=by rw [<-h7,aUn,aT0];omega
   rw [h7] at hS;have q7:=hid h7;obtain ⟨la,lc,rfl,-⟩:=hS.loc.form;obtain ⟨HS,HX⟩:=h2_ hS hx;have yA:Ext wr ((wr.alloc (.cells #[.string s,rt] 200)).alloc (.cells #[.string s] 9)):=X_;obtain ⟨HY,q3⟩:=h2_ yA (hS.ext yA);have b6:=aTm (wr.alloc (.cells #[.string s,rt] 200)) 9 [.string s];rw [aTe] at b6;have b4:=hid b6;obtain ⟨q9,x2⟩:=hS.code.q2;have d2:=hS.code.free 1;have cl:=hS.code.lt;have zr:=hx.size;have zy:=yA.size;clear hS hx h7 h6 h4 yA b6;go_wp2_with (at_builtin;refine lC _ rfl _ _ rfl w1.heap.size (.slice la NL.length lc) NL rfl ?_ s (wr.heap.size+1) rfl ?_ ?_ ?_ ?_)
   ·exact q3.loc
   ·exact b4.cell 0 rfl
   ·omega
   ·exact aTl (aWc cl) zy
   intro x8 w8 h1 hg;have h2:=cQ.row q3.loc
   have kC:w8.heap[w1.heap.size]?=((wr.alloc (.cells #[.string s,rt] 200)).alloc (.cells #[.string s] 9)).heap[w1.heap.size]?:=hg.block _ (by omega) (fun e=>by
    obtain ⟨_,c,hc⟩:=h2 _ e.symm
    exact q3.code.noCells (by decide) c hc)
   have K8:KN w1.heap.size w1.heap.size 9 wr w8:=((KN.refl _ _ _ _).ext HY).grown hg h2;have C8:=q3.code.of kC;have O9:=KN.strs h1 ((KN.refl w1.heap.size w1.heap.size 221 w8).set (aTc _) 1 x8) (C8.noCells (by decide)) (by decide);obtain ⟨z1,z2⟩:=h2_ (HS.knS (K8.set (aTc _) 1 x8) (C8.set 1 x8) O9) ((K8.set (aTc _) 1 x8).up HX (aWc (by omega)));obtain ⟨g6,g7,x4,_⟩:=h1.form
   have z9:(NL++[s]).length=NL.length+1:=by simp
   rw [z9] at x4;subst x4;have e7:=C8.cell 1 rfl;have e8:=C8.free 1;have d1:=C8.lt;clear h1 hg h2 kC K8 C8 O9 q3 HY q9 x2 d2;go_wp2;go_roundw
   case rel=>
    have e2:NL++[s]=(p.gs.take (k+1)).map (·.name):=by rw [List.take_add_one,b9,aVq,q7];rfl
    have h5:=z1.out;rw [e2] at h5;exact ⟨k+1,_,by omega,by go_num,h5,z2⟩
   case measure=>simp [intOf];omega
  ·obtain rfl:k=p.gs.length:=by omega
   rw [aUb] at hS
   obtain ⟨NL,h7⟩:=e_ (p.gs.map (·.name))
   have z4:NL.length=p.gs.length:=by rw [<-h7,aUn]
   rw [h7] at hS;obtain ⟨q7,e6,HS,HX⟩:=h4_ h7 z4 hS hx;have q1:=hS.prog.cell 1 rfl;have ql:=hS.prog.lt;clear hS hx h7 z4;go_wp2_with fail;clear q1 ql
   go_loopw [38] (fun i wr=>∃(k:Nat) (iv:Value),k<=p.gs.length/\i = .int .i64 (k:Nat)/\SB p w.heap.size (w.heap.size+1) w1.heap.size w1.heap.size a1 a2 c1 c2 wr (p.trs k) iv NL lv/\Ext w wr) (fun i _=>p.gs.length - (intOf i).toNat)
   case atStart=>exact ⟨0,_,by omega,rfl,HS,HX⟩
   case round=>
    clear HS HX;obtain ⟨k,iv,hk,rfl,hS,hx⟩:=hrel
    by_cases y2:k<p.gs.length
    ·obtain ⟨b,b2,s,rt,rfl,d4,d5,h6,h4,ir,y0,y1⟩:=y5.at y2 hx hh
     have d9:=(HP.v.ag k _ h4).2;simp only at d9
     obtain ⟨r,rfl⟩:∃r:Nat,rt=r:=⟨rt.toNat,by omega⟩
     have x3:=Prg.trs_step h4;have d8:=aGe (p:=p) (k:=k+1) p.gs.length (by omega) (aTc _);have z6:(p.trs p.gs.length).length<=120:=b8;simp only [aT7] at x3
     have z8:(p.trs (k+1)).length=(p.trs k).length+(p.tr r).length+1:=by rw [x3];simp;omega
     have c4:=hid x3
     obtain ⟨L,hL⟩:=e_ (p.trs k)
     rw [hL] at hS z8;have HL:=hid hL
     obtain ⟨T,hT⟩:=e_ (p.tr r)
     rw [hT] at z8;have HT:=hid hT
     have e9:L.length<=120:=by omega
     have g2:T.length<=120:=by omega
     have c5:=hid (show (p.tr r).length<=1000 by rw [hT];omega);obtain ⟨ia,ic,rfl,-⟩:=aD.form hS.ins;obtain ⟨la,lc,rfl,-⟩:=hS.loc.form;have yA:Ext wr (wr.alloc (.cells #[.string s,(r:Nat)] 200)):=X_;obtain ⟨HS,HX,c8,a3⟩:=h4_ hS hx yA (hS.ext yA);have bA:=aTm wr 200 [.string s,(r:Nat)];have b5:=hid bA;obtain ⟨q9,x2⟩:=hS.code.q2;have cl:=hS.code.lt;obtain ⟨e3,e4⟩:=hS.prog.q2;have pl:=hS.prog.lt;have zr:=hx.size;have zy:=yA.size;rw [aTe] at zy;clear hS hx h6 h4 x3 hL hT z8 d8 z6 yA bA;go_wp2;refine aJ [([0,1,2,3,4,5,6],7),([],8),([9],10)] 10 (fun w'=>∃d,w'=gA (C3b w1.heap.size wr.heap.size w.heap.size) _ d) (aV8 _ _) ?_;refine sc_ fun K hK=>?_;go_wp2_with fail;refine (aPn lo hi w1.heap.size wr.heap.size p HP w wr a1 (some ⟨b,b2,none⟩) c1 c2 c3 hh (.slice la NL.length lc) (by rw [q7];exact HS.loc.strs) (aTc _) (r+1) r _ (by omega) (by omega) (HX.trans X_) X_ c5).mono ?_;rintro e w5 ⟨u,rfl,O5,x5⟩;rw [HT] at O5;have Y5:Ext (wr.alloc (.cells #[.string s,(r:Nat)] 200)) w5:=aTi X_ x5;obtain ⟨h8,q0,y3,y8⟩:=h4_ Y5 (a3.ext Y5) (b5.ext Y5) (aD.rd (sz:=3) O5 (fun _=>rfl));have z5:=Y5.size;rw [aTe] at z5;clear O5 x5 Y5;go_wp2;refine hK _ _ (.inr (aUl fun a ha=>?_)) ?_
     ·rcases ha with ha|ha|ha
      ·exact h8.block (by rw [ha,aTe];omega)
      ·exact h8.block (by rw [ha,aTe];omega)
      ·exact h8.block (by rw [ha,aTe];omega)
     clear hK K
     obtain ⟨M,hM⟩:=e_ (L++T)
     have g1:M.length<=300:=by rw [<-hM,aT5];omega
     have c0:=hid hM;refine sc_ fun K hK=>?_;refine cU Ins.cs 221 3 32 _ w5 rfl _ _ 160 rfl underlying160 uY rfl (by decide) (by decide) (fun _=>rfl) Ins.one w1.heap.size (.slice ia L.length ic) L rfl q0.ins _ _ u T rfl y8 (by omega) (by omega) ?_;rw [hM];intro x6 w6 h1 hg;clear hM;have h2:=aD.rowC q0.ins
     have h3:∀{B:Nat} {t:TypeId} {cs:List Value},Blk w5 B t cs->t≠221->w6.heap[B]?=w5.heap[B]?:=fun hb ht=>hg.block _ hb.lt (fun e=>by
      obtain ⟨_,c,hc⟩:=h2 _ e.symm
      exact hb.noCells (Ne.symm ht) c hc)
     have kC:=h3 q0.code (by decide);have kA:=h3 y3 (by decide);have kP:=h3 q0.prog (by decide);have K6:KN w1.heap.size w1.heap.size 221 (wr.alloc (.cells #[.string s,(r:Nat)] 200)) w6:=((KN.refl _ _ _ _).ext h8).grown hg h2;have C6:=q0.code.of kC;obtain ⟨h9,c7⟩:=h2_ (a3.kn (K6.set (aTc _) 0 x6) (C6.set 0 x6) (aD.set h1 C6 (by decide) 0 x6)) ((K6.set (aTc _) 0 x6).up (HX.trans c8) (by omega));obtain ⟨q5,q6,x4,_⟩:=aD.form h1;subst x4;obtain ⟨e0,e1⟩:=C6.q2;have g0:=C6.free 0;have d0:=C6.lt;obtain ⟨a9,a8,b1⟩:=h3_ (kC.trans (h8.block (by rw [aTe];omega))) (kA.trans (h8.block (by rw [aTe];omega))) (kP.trans (h8.block (by rw [aTe];omega)));clear h1 hg h2 h3 kC kA kP K6 C6;go_wp2;refine hK _ _ (.inr (aUl fun a ha=>?_)) ?_
     ·rcases ha with ha|ha|ha
      ·rw [ha];exact a9.out
      ·rw [ha];exact a8.out
      ·rw [ha];exact b1.out
     clear hK K;refine iF ?_;simp only [aT4,aTv,aTh,aTa,aTb]
     show wpQuiet _ _ _ _ [_] _
     simp only [Act.put,aTj,aTr,aTp,aYs,aXh,aXi]
     repeat (go_big_quiet_step (fail))
     refine wpQuiet_nil ⟨_,rfl,fun K hK=>?_⟩;go_wp2;refine l_ hK (aP ?_);clear hK K;clear e0 e1 g0 q9 x2 e3 e4 a9 a8 b1 h8 q0 y3 y8;have e0:=h9.code.cell 0 rfl;have g0:=h9.code.free 0;have el:=h9.code.lt;have y7:Ext (w6.setCell ⟨w1.heap.size,0,none⟩ (.slice q5 M.length q6)) ((w6.setCell ⟨w1.heap.size,0,none⟩ (.slice q5 M.length q6)).alloc (.cells #[.int .i64 4,.string ⟨#[]⟩,(k:Nat)] 221)):=X_;obtain ⟨y6,z3⟩:=h2_ (aD.ext h9.ins y7) y7;have z7:=y7.size;clear y7;go_wp2_with (at_builtin;refine cH _ rfl _ _ rfl w1.heap.size (.slice q5 M.length q6) M rfl ?_ ⟨4,⟨#[]⟩,(k:Nat)⟩ w6.heap.size rfl ?_ ?_ ?_ ?_)
     ·exact y6
     ·omega
     ·simp at d0 z7 ⊢;omega
     intro x7 w8 h1 hg;have h2:=aD.rowC y6
     have kC:w8.heap[w1.heap.size]?=(w6.setCell ⟨w1.heap.size,0,none⟩ (.slice q5 M.length q6)).heap[w1.heap.size]?:=(hg.block _ (by simp;omega) (fun e=>by
      obtain ⟨_,c,hc⟩:=h2 _ e.symm
      exact (h9.code.ext z3).noCells (by decide) c hc)).trans (z3.block el)
     have K8:KN w1.heap.size w1.heap.size 221 (w6.setCell ⟨w1.heap.size,0,none⟩ (.slice q5 M.length q6)) w8:=((KN.refl _ _ _ _).ext z3).grown hg h2;have C8:=h9.code.of kC;obtain ⟨z1,z2⟩:=h2_ (h9.kn (K8.set (aTc _) 0 x7) (C8.set 0 x7) (aD.set h1 C8 (by decide) 0 x7)) ((K8.set (aTc _) 0 x7).up c7 (by omega));obtain ⟨g4,g5,a7,_⟩:=aD.form h1
     have d7:(M++[(⟨4,⟨#[]⟩,(k:Nat)⟩:Ins)]).length=M.length+1:=by simp
     rw [d7] at a7;subst a7;have f0:=C8.cell 0 rfl;have h0:=C8.free 0;have d1:=C8.lt;clear h1 hg h2 kC K8 C8 e0 g0 el;go_wp2;go_roundw
     case rel=>
      have e1:M++[(⟨4,⟨#[]⟩,(k:Nat)⟩:Ins)]=p.trs (k+1):=by rw [c4,HL,HT,<-c0,aUg]
      have h5:=z1.out;rw [e1] at h5;exact ⟨k+1,_,by omega,by go_num,h5,z2⟩
     case measure=>simp [intOf];omega
    ·obtain rfl:k=p.gs.length:=by omega
     obtain ⟨ia,ic,rfl,-⟩:=aD.form hS.ins;obtain ⟨la,lc,rfl,-⟩:=hS.loc.form;obtain ⟨q9,x2⟩:=hS.code.q2;have cl:=hS.code.lt;obtain ⟨r0,r1⟩:=hS.res.q2;have f0:=hS.res.free 0;have f1:=hS.res.free 1;have rl:=hS.res.lt;have zX:=hx.size;obtain ⟨d3,hI⟩:=h2_ (hS.loc.strs) (hS.ins.inss (aTc _) (b3 _ (aTc _)))
     have a5:p.code.R w1.heap.size wr.heap.size wr (.agg #[.slice ia (p.trs p.gs.length).length ic,.slice la NL.length lc]):=⟨_,_,rfl,hI.out,by rw [show p.code.ls=NL from q7];exact d3.out⟩
     have c9:=hid (a5.same ((aN.sl wr ⟨w.heap.size+1,0,none⟩ (.slice ia (p.trs p.gs.length).length ic)).trans (aN.sl _ ⟨w.heap.size+1,1,none⟩ (.slice la NL.length lc))));have g3:=hx;clear hS a5;go_wp2;refine bodyPost_ret (v:=.tuple #[.agg #[.slice ia (p.trs p.gs.length).length ic,.slice la NL.length lc],.bool true]) (by simp [results,results140,go_sem, *]) rfl ?_;exact ⟨_,rfl,c9.wideC (by omega) (by simp),S_⟩
end
theorem Scn.Ok.shadeT {s:Scn} (ho:s.Ok) (hq:q<s.ps.length) (hn:1<=n/\n<=8) (f:Nat->Int):∃X Y,s.ps[q].code.shade (oH f n s.t)=(X,Y,true):=by
 have hc:=ho.prg _ (aTy hq);obtain ⟨X,Y,e,-⟩:=(Prg.chkB_K hc).shade hc (zU (f:=f) (n:=n) (t:=s.t) hn ho.t);exact ⟨X,Y,e⟩
theorem tN {s:Scn} {b:Bool} (h:s.okB=b) (lo hi:Nat) (v:Value) (w:World) (hv:s.R lo hi w v) (hh:hi<=w.heap.size) (hsm:s.small):R_ 45 #[v] w (.bool b):=h▸lS s lo hi v w hv hh hsm
theorem tO (s:Scn) (lo hi:Nat) (v:Value) (k:Nat) (w:World) (hv:s.R lo hi w v) (hh:hi<=w.heap.size) (ho:s.Ok) (hsm:s.small) (hk:k<s.m) :
  Calls aTg 89 #[v,(k:Nat)] w fun e w'=>∃r1 r2,e = .returned (.tuple #[r1,r2,.bool true])/\aS w.heap.size w'.heap.size w' r1 (s.shade k).1/\aS w.heap.size w'.heap.size w' r2 (s.shade k).2/\Ext w w':=by
 obtain ⟨q,n,q9,hq,q8,z7,z8,q7,d2⟩:=ho.at hk;obtain ⟨HV,HO,b1⟩:=h3_ hv (Scn.okB_iff.2 ho) hsm;have z4:inB ((k:Nat):Int) 0 ((s.m:Int) - 1)=true:=aG.2 ⟨by omega,by omega⟩;have y7:=hid z4;obtain ⟨XX,YY,x0⟩:=ho.shadeT hq ⟨z7,z8⟩ (s.st k);obtain ⟨a1,c1,a2,c2,a3,c3,rfl,-,h5,-,h1,h2,h3⟩:=hv.form;have d1:=h3.cap;have g6:=h3.le;have g7:=h2.le;have b5:=h2.cap;obtain ⟨b,h7,rfl,g4,g5,h4⟩:=h3.at hk (by decide)
 obtain ⟨f,hf⟩:=e_ (s.st k)
 obtain ⟨g,hg⟩:=e_ (s.en k)
 have bw:b<w.heap.size:=by omega
 have q3:w.rangeAt b (h7+k*26) ((aT3 26).map fun j=>.int .i64 (s.F (k*26+j))):=by
  intro j v hj;obtain ⟨h1,h2⟩:=aTd.1 hj;simp only [aUn,aWd] at h1;simp only [aW1,aV9] at h2;subst h2;exact h4 j h1
 change w.rangeAt b (h7+k*26) (gL_ (s.st k) (s.en k) (s.sh k) (s.rt k)) at q3;simp only [hf,hg,q9,q8] at q3;have h6:=Scn.shade_at q9 hq q8;rw [hf] at h6 q7 x0;have h9:=ho.prg _ (aTy hq);have z9:=hsm _ (aTy hq);have q0:=Tex.okB_iff.1 ho.t;obtain ⟨H1,H2,x8,y9,c4,x4,q1,b3,a9⟩:=h9_ h1 h2 q3 h5 (show ∀W:World,Ext w W->cZ lo hi W (.agg #[s.t.log,.slice a1 s.t.px.length c1]) s.t from fun W x=>⟨_,rfl,h5,(h1.shut).ext hh x⟩) h9 z9 q0 q7;obtain ⟨b0,q4⟩:=h2_ h6 x0;have x2:Ext w (w.alloc (.cells (sA_ s a1 c1 a2 c2 (some ⟨b,h7,none⟩) c3) 40)):=X_;have bS:=aTm w 40 (sL_ s a1 c1 a2 c2 (some ⟨b,h7,none⟩) c3);clear hv h1 h2 h3 q3 h9 z9 q0 q7 d2 h6 q9 q8 h4 hf hg h5 z4 ho hsm x0;obtain ⟨h0,HS⟩:=h2_ x2 bS;clear x2 bS;go_enter func89,ntmps89;go_wp2_with fail;refine r_ (tN HO lo hi _ _ (HV.ext hh h0) (aTl hh h0.size) b1) fun W0 x1=>?_;have x2:=h0.trans x1;have bS:=HS.ext x1;clear h0 HS x1;obtain ⟨h0,HS⟩:=h2_ x2 bS;have b6:=bS.cell 10 rfl;have ls:=bS.lt;clear x2 bS;go_wp2_with fail;refine z_ (aF y7 _) ?_;have z3:W0.rangeAt b (h7+k*26) (gL_ f g (q:Nat) (n:Nat)):=fun j v hj=>(h0.cells.1 b _ bw).trans (x8 j v hj);have x3:=hid z3
 have lb:b<W0.heap.size:=by have:=h0.size;omega
 clear z3;go_upto_region 4 with (first|(show wpList _ _ _ [_,_,_] _ _;refine wpList_load_mid rfl _ _ rfl b (h7+k*26) rfl (gL_ f g (q:Nat) (n:Nat)) _ x3 underlying127 rfl jC ?_)|(show wpList _ _ _ [_] _ _;refine dW _ _ _ rfl 127 (.tmp 7) (.tmp 28) rfl rfl (gA_ f g (q:Nat) (n:Nat)) W0.heap.size rfl rfl rfl (by kernel_rfl) (by kernel_rfl) (by kernel_rfl) ?_));have xA:Ext W0 (W0.alloc (.cells (gA_ f g (q:Nat) (n:Nat)) 127)):=X_;have bA:=aTm W0 127 (gL_ f g (q:Nat) (n:Nat))
 obtain ⟨A,hA⟩:=e_ W0.heap.size
 obtain ⟨W1,z2⟩:=e_ (W0.alloc (.cells (gA_ f g (q:Nat) (n:Nat)) 127))
 rw [z2] at xA bA ⊢;rw [hA] at bA ls lb ⊢;have X1:=hid (h0.trans xA);have S1:=HS.ext xA;obtain ⟨z1,y0⟩:=h2_ S1 bA;have d9:=S1.cell 9 rfl;have d5:=S1.lt;have b9:=bA.cell 24 rfl;have lA:=bA.lt;obtain ⟨b2,g0,na,nc,ga,gc,rfl,d0,c9,k1,k2,hR⟩:=H2.at hq X1 hh;have HR:=hid hR;clear z2 hA xA bA S1 hR b6 ls lb HS h0 x3 x8;go_wp2_with fail;refine (aEa lo hi _ (s.ps[q]'hq) _ HR (aTl hh X1.size) x4 q1.1 q1.2.1.1 q1.2.2).mono ?_;rintro e w5 ⟨u,rfl,R5,x5⟩
 obtain ⟨K,hK⟩:=e_ ((s.ps[q]'hq).code)
 obtain ⟨y8,z0⟩:=h2_ (show K.small by rw [<-hK];exact ⟨by have:=pG (Prg.chkB_K x4);omega,by show ((s.ps[q]'hq).gs.map (·.name)).length<=1048576;rw [aUn];exact q1.2.2⟩) hK;rw [hK] at R5;obtain ⟨a5,c5,a6,c6,rfl,-,-⟩:=R5.form;have y5:Ext w5 (w5.alloc (.cells #[.slice a5 K.xs.length c5,.slice a6 K.ls.length c6] 163)):=X_;have bC:=aTm w5 163 [.slice a5 K.xs.length c5,.slice a6 K.ls.length c6];obtain ⟨y2,X5⟩:=h2_ (R5.ext (aTc _) y5) (X1.trans (x5.trans y5));have S5:=z1.ext (x5.trans y5);obtain ⟨A5,y1,z5,g3,g9,d7,d8,d6⟩:=m8_ (y0.ext (x5.trans y5)) (hid bC) ((x5.trans y5).size) y5.size x5.size (S5.cell 7 rfl) (S5.cell 8 rfl) S5.lt;obtain ⟨e0,e1,e2,e3,e4,e5,e6,e7,e8,e9,b7,b8⟩:=A5.q12;have c0:=A5.cell 25 rfl;have d3:=A5.lt;clear R5 x5 y5 bC S5 A5 d9 d5 b9 lA k1 k2 hK z1 HR;go_wp2_with fail;refine (aIt lo hi f a9 n ⟨z7,z8⟩ 0 ⟨by decide,by decide⟩ _ s.t _ (c4.out _ X5) (aTl hh X5.size) b3).mono ?_;rintro e w6 ⟨gv,rfl,R6,x6⟩
 obtain ⟨g1,g2,hg⟩:∃g:Grd,oH f n s.t=g/\True:=⟨_,rfl,trivial⟩
 have x9:=hid g2;change (oH f n s.t).R _ _ _ _ at R6;rw [g2] at R6;obtain ⟨a7,c7,a8,c8,rfl⟩:=Grd.R.formS R6;have y6:Ext w6 (w6.alloc (.cells #[g1.n,.slice a7 g1.m c7,g1.tm,g1.t.log,.slice a8 g1.t.px.length c8] 168)):=X_;have bG:=aTm w6 168 [g1.n,.slice a7 g1.m c7,g1.tm,g1.t.log,.slice a8 g1.t.px.length c8];obtain ⟨y4,X6⟩:=h2_ (R6.ext (aTc _) y6) (X5.trans (x6.trans y6));have B6:=y1.ext (x6.trans y6);have y3:=hid (y2.ext (by have:=g3;omega) (x6.trans y6));have z6:=(x6.trans y6).size;have g8:=y6.size;obtain ⟨f0,f1⟩:=B6.q2;have d4:=B6.lt;obtain ⟨i0,i1,i2,i3,i4⟩:=bG.q5;have lG:=bG.lt;clear R6 x6 y6 bG B6 hg g2 d7 d8 d6 e0 e1 e2 e3 e4 e5 e6 e7 e8 e9 b7 b8 c0 d3;go_wp2_with fail
 have q6:K.shade g1=(XX,YY,true):=by rw [<-z0,<-x9];exact q4
 have h8:(s.shade k).1=XX/\(s.shade k).2=YY:=by
  rw [b0,z0,x9,q6];exact ⟨rfl,rfl⟩
 obtain ⟨HE,b4⟩:=h2_ h8 q6;clear q6 h8;refine (zJ _ _ _ _ _ _ K g1 _ b4 y3 (by omega) y4 (by omega) y8).mono ?_;rintro e w7 ⟨r1,r2,rfl,O1,O2,x7⟩;obtain ⟨X7,a0,a4⟩:=h3_ (X6.trans x7) O1 O2;clear O1 O2 x7 f0 f1 d4 i0 i1 i2 i3 i4 lG;go_wp2
 go_ret3
 have zl:=X6.size;exact ⟨r1,r2,rfl,by rw [HE.1];exact a0.wide zl (aTc _),by rw [HE.2];exact a4.wide zl (aTc _),X7⟩
def tP (s:Scn) (j:Nat):List (List Int):=(aT3 j).map fun k=>(s.shade k).1
def aEb (s:Scn) (j:Nat):List (List Int):=(aT3 j).map fun k=>(s.shade k).2
theorem aIu (s:Scn) (j:Nat):tP s (j+1)=tP s j++[(s.shade j).1]:=nZ _ _
theorem aLt (s:Scn) (j:Nat):aEb s (j+1)=aEb s j++[(s.shade j).2]:=nZ _ _
theorem aNs (s:Scn) {j:Nat} (h:k<j):(tP s j)[k]?=some (s.shade k).1:=by simp [tP,h]
theorem aPo (s:Scn) {j:Nat} (h:k<j):(aEb s j)[k]?=some (s.shade k).2:=by simp [aEb,h]
theorem tQ (s:Scn) (j:Nat):(tP s j).length=j:=by simp [tP]
theorem vZ (s:Scn) (j:Nat):(aEb s j).length=j:=by simp [aEb]
theorem aAc:(Tryz.prog.info? 24).map (fun i=>(i.zero,i.size,i.bytes))=some (some (.slice none 0 0),1,24):=by kernel_rfl
theorem aLu:(Tryz.prog.info? 78).map (·.size)=some 2:=by kernel_rfl
theorem aS.formS {l:Nat} {u:Value} {r:List Int} (hi:aS l h w u r):∃a c,u = .slice a r.length c:=by
 obtain ⟨a,c,e,-⟩:=hi;exact ⟨a,c,e⟩
def aNt (v v2:Value):Prop:=∀k,v.ownBlock=some k->v2.ownBlock≠some k
structure aAd (s:Scn) (lo:Nat) (w:World) (cv av:Value) (j:Nat):Prop where
 c:dM lo w cv av (tP s j)
 a:dM lo w av cv (aEb s j)
 ap:aNt cv av
theorem aAd.ext {s:Scn} {j:Nat} (h:aAd s lo w cv av j) (x:Ext w w'):aAd s lo w' cv av j:=⟨h.c.ext x,h.a.ext x,h.ap⟩
theorem aD.otherRow {α : Type} {cs : α->List Value} {v2:Value} {xs:List α} (h:aD cs lo e sz w v xs) (hg:w.grownBy w' v2.ownBlock) (ap:∀k,v.ownBlock=some k->v2.ownBlock≠some k):aD cs lo e sz w' v xs:=by
 refine ⟨h.1,?_⟩
 rcases h.2 with hn|⟨g,cap,cur,hv,hb,hg2,r⟩
 ·exact .inl hn
 ·exact .inr ⟨g,cap,cur,hv,hb,(hg.block g (Array.getElem?_eq_some_iff.1 hg2).1 (fun e=>ap g (by rw [hv];rfl) e.symm)).trans hg2,r⟩
theorem dM.lt {v2:Value} {rows:List (List Int)} (h:dM lo w v v2 rows):∀k,v.ownBlock=some k->lo<=k/\k<w.heap.size:=by
 obtain ⟨us,-,h2,-⟩:=h;exact h2.lt
theorem aNu (s:Scn) (lo hi:Nat) (v:Value) (w:World) (hv:s.R lo hi w v) (hh:hi<=w.heap.size) (ho:s.Ok) (hsm:s.small) :
  Calls aTg 48 #[v] w fun e w'=>∃cv av,e = .returned (.agg #[cv,av])/\aAd s w.heap.size w' cv av s.m/\Ext w w':=by
 have HV:=hid hv;have b5:=ho.m;obtain ⟨a1,c1,a2,c2,a3,c3,rfl⟩:=hv.formV;obtain ⟨b3,HO⟩:=h2_ hsm ho;have x0:Ext w (((w.alloc (.cells (sA_ s a1 c1 a2 c2 a3 c3) 40)).alloc (.cells true 78)).alloc (.cells true 78)):=X_;have bS:=((aTm w 40 (sL_ s a1 c1 a2 c2 a3 c3)).ext (show Ext _ ((w.alloc (.cells (sA_ s a1 c1 a2 c2 a3 c3) 40)).alloc (.cells true 78)) from X_)).ext (show Ext _ (((w.alloc (.cells (sA_ s a1 c1 a2 c2 a3 c3) 40)).alloc (.cells true 78)).alloc (.cells true 78)) from X_);have bR:=(aTm (w.alloc (.cells (sA_ s a1 c1 a2 c2 a3 c3) 40)) 78 true).ext (show Ext _ (((w.alloc (.cells (sA_ s a1 c1 a2 c2 a3 c3) 40)).alloc (.cells true 78)).alloc (.cells true 78)) from X_);have bO:=aTm ((w.alloc (.cells (sA_ s a1 c1 a2 c2 a3 c3) 40)).alloc (.cells true 78)) 78 true;simp only [aTe] at bR bO
 obtain ⟨W0,z9⟩:=e_ (((w.alloc (.cells (sA_ s a1 c1 a2 c2 a3 c3) 40)).alloc (.cells true 78)).alloc (.cells true 78))
 rw [z9] at x0 bS bR bO;obtain ⟨y8,z2,y6,y4,y7⟩:=h5_ x0 bS bR bO z9
 have z0:w.heap.size+2<W0.heap.size:=by have:=bO.lt;omega
 clear hv ho hsm x0 bS bR bO z9;go_enter func48,ntmps48;go_upto_region 2 with fail
 try simp only [aTe]
 rw [y7];have z8:=z2.cell 10 rfl;go_wp2_with fail;clear z8
 go_loopw [12] (fun i wr=>∃(k:Nat) (cv av:Value),k<=s.m/\i = .int .i64 (k:Nat)/\Ext w wr/\Blk wr w.heap.size 40 (sL_ s a1 c1 a2 c2 a3 c3)/\Blk wr (w.heap.size+1) 78 true/\Blk wr (w.heap.size+2) 78 [cv,av]/\aAd s (w.heap.size+3) wr cv av k) (fun i _=>s.m - (intOf i).toNat)
 case atStart=>exact ⟨0,_,_,by omega,rfl,y8,z2,y6,y4,dM.nil (aD.nil _ _ _ _ _),dM.nil (aD.nil _ _ _ _ _),fun k e=>nomatch e⟩
 case round=>
  obtain ⟨k,cv,av,hk,rfl,hx,hs,hr,hb,hd⟩:=hrel;obtain ⟨HX,HS,HR,HB,HD⟩:=h5_ hx hs hr hb hd;have zr:=hb.lt;clear y8 z2 y6 y4 y7 z0
  rcases aUc k s.m with hlt|hge
  ·have b6:=b5
   have c:=hs.lt;obtain ⟨c0,c1,c2,c3,c4,c5,c6,c7,c8,c9,z8,b4⟩:=hs.q12;clear hx hs hr hb hd;go_wp2_with fail;have CH:=tO s lo hi _ k _ (HV.ext hh HX) (aTl hh HX.size) HO b3 hlt;refine CH.mono ?_;clear CH;rintro e w1 ⟨r1,r2,rfl,i1,i2,x1⟩;obtain ⟨D1,h9,z4,z1,z6⟩:=h5_ (HD.ext x1) (HB.ext x1) (HS.ext x1) (HR.ext x1) (HX.trans x1);have zw:=x1.size;obtain ⟨ra,rc,rfl⟩:=i1.formS;obtain ⟨qa,qc,rfl⟩:=i2.formS;obtain ⟨us,h1,h2,h3⟩:=D1.c;obtain ⟨ca,cc,rfl,-⟩:=h2.form;obtain ⟨q7,k1,k2,k3⟩:=D1.a;obtain ⟨aa,ac,rfl,-⟩:=k2.form;obtain ⟨L0,L1,I1,I2,H1,H2,H3,K1⟩:=h8_ HD.c.lt HD.a.lt i1 i2 h1 h2 h3 k1
   have a6:us.length<1000000:=by rw [h1,tQ];omega
   have z5:=hid a6;clear x1 i1 i2 c c0 c1 c2 c3 c4 c5 c6 c7 c8 c9 z8 b4 h1 h2 h3 k1 k2 k3 a6;have b:=h9.lt;obtain ⟨b0,b1⟩:=h9.q2;have y1:Ext w1 (w1.alloc (.cells #[.slice ra (s.shade k).1.length rc] 24)):=X_;obtain ⟨HE,Y1⟩:=h2_ (aTm w1 24 [.slice ra (s.shade k).1.length rc]) y1;clear y1
   have x7:Hid (∀j,j<1->(w1.alloc (.cells #[.slice ra (s.shade k).1.length rc] 24)).cell? ⟨w1.heap.size,j,none⟩=[aUk ra (s.shade k).1.length rc][j]?):=hid (fun j hj=>by
    obtain rfl:j=0:=by omega
    exact HE.cell 0 rfl)
   have x8:Hid (∀u∈[aUk ra (s.shade k).1.length rc],u.oneCell'=true):=hid (fun u hu=>by
    rw [aVa] at hu;subst hu
    rfl)
   obtain ⟨x9,q6,a9⟩:=h3_ (show w.heap.size+3<=(w1.alloc (.cells #[.slice ra (s.shade k).1.length rc] 24)).heap.size by simp;omega) (H2.ext Y1) (fun e:(w.heap.size+2)=0=>e);have h6:=aD.rowE q6;obtain ⟨q0,h7⟩:=h2_ (h9.ext Y1) (show ∀q,q<w.heap.size+3->some q≠(aUk ca us.length cc).ownBlock from fun q hq e=>by have:=(h6 q e.symm).1;omega)
   have a0:w.heap.size+2<w.heap.size+3:=by omega
   have x6:=hid a0;clear b b0 b1 a0 h6;have b:=h9.lt;obtain ⟨b0,b1⟩:=h9.q2;go_upto_region 7 with (at_builtin;refine gL (fun u=>[u]) 24 1 24 _ _ rfl _ _ 76 rfl underlying76 aAc rfl (by decide) (by decide) (fun _=>rfl) (w.heap.size+3) (.slice ca us.length cc) us rfl q6 (.slice ra (s.shade k).1.length rc) w1.heap.size rfl x7 x8 z5 x9 ?_;intro v2 w2 h5 hg x3;obtain ⟨va,vc,rfl,-⟩:=aD.form h5;have h4:=hid (q0.grown hg (h7 _ x6));have e0:=h4.cell 0 rfl;have e1:=h4.cell 1 rfl;have f0:=h4.free 0;have f1:=h4.free 1;have lb:=h4.lt;obtain ⟨q1,HG,h8⟩:=h3_ h5 hg x3;clear h5 hg x3)
   obtain ⟨nu,b7⟩:=e_ ((us++[aUk ra (s.shade k).1.length rc]).length)
   have y2:(w1.alloc (.cells #[.slice ra (s.shade k).1.length rc] 24)).heap.size=w1.heap.size+1:=aTe _ _
   have P1:dM (w.heap.size+3) w2 (.slice va (us++[aUk ra (s.shade k).1.length rc]).length vc) (.slice aa q7.length ac) (tP s (k+1)):=by
    rw [aIu];refine dM.push (v:=.slice ca us.length cc) (w:=w1.alloc (.cells #[.slice ra (s.shade k).1.length rc] 24)) H1 (fun k' u r hu hr=>?_) HG q1 h8 (l:=wr.heap.size) (h:=w1.heap.size) (by omega) (by omega) ((I1.ext (aTc _) Y1)) ?_ ?_
    ·obtain ⟨l,h,e0,e1,e2,e3,e4⟩:=H3 k' u r hu hr
     exact ⟨l,h,e0,aTl e1 (by omega),e2.ext e1 Y1,e3,e4⟩
    ·intro b e
     exact .inl (L0 b e).2
    ·intro b e
     exact .inl (L1 b e).2
   have P2:dM (w.heap.size+3) w2 (.slice aa q7.length ac) (.slice va (us++[aUk ra (s.shade k).1.length rc]).length vc) (aEb s k):=by
    refine (D1.a.ext Y1).beside HG h8 fun us' ho=>ho.otherRow HG fun b e e2=>D1.ap b e2 e
   have P3:aNt (.slice va (us++[aUk ra (s.shade k).1.length rc]).length vc) (.slice aa q7.length ac):=by
    intro b e e2
    rcases h8 b e with h|h
    ·exact D1.ap b h e2
    ·have:=(L1 b e2).2
     omega
   obtain ⟨q9,q8,x2⟩:=h3_ ((z4.ext Y1).grown HG (h7 _ (by omega))) ((z1.ext Y1).grown HG (h7 _ (by omega))) (aUo (z6.trans Y1) HG (fun k e=>Nat.le_of_not_lt fun h=>h7.out k (by omega) e.symm))
   have b8:w1.heap.size+1<=w2.heap.size:=by have:=HG.size;omega
   have y5:=hid (I2.same (w':=w2) (fun b b1 b2=>(HG.block b (by omega) (fun e=>by
     have:=(L0 b e.symm).2
     omega)).trans (Y1.block b2)))
   obtain ⟨q3,q5,q4,y9⟩:=h4_ P1 P2 P3 L1
   have z7:Hid (∀b,(aUk va (us++[aUk ra (s.shade k).1.length rc]).length vc).ownBlock=some b->b<wr.heap.size\/w1.heap.size<=b):=hid (fun b e=>by
    rcases h8 b e with h|h
    ·exact .inl (L0 b h).2
    ·exact .inr (by omega))
   clear P1 P2 P3 e0 e1 f0 f1 lb b b0 b1 y2 b7 nu L0 L1
   have x4:(us++[aUk ra (s.shade k).1.length rc]).length=us.length+1:=by simp
   rw [x4] at q3 q5 q4 z7
   obtain ⟨nc,a5⟩:=e_ (us.length+1)
   rw [a5] at q3 q5 q4 z7 ⊢;have b9:=hid q3.lt;have B3:Blk (w2.setCell ⟨w.heap.size+1+1,0,none⟩ (.slice va nc vc)) (w.heap.size+2) 78 [.slice va nc vc,.slice aa q7.length ac]:=h4.set 0 (.slice va nc vc);have S3:Blk (w2.setCell ⟨w.heap.size+1+1,0,none⟩ (.slice va nc vc)) w.heap.size 40 (sL_ s a1 c1 a2 c2 a3 c3):=q9.other (by simp only;omega) _;have R3:Blk (w2.setCell ⟨w.heap.size+1+1,0,none⟩ (.slice va nc vc)) (w.heap.size+1) 78 true:=q8.other (by simp only;omega) _;have X3:Ext w (w2.setCell ⟨w.heap.size+1+1,0,none⟩ (.slice va nc vc)):=aTu x2 (by simp only;omega) _;have P1:=q3.setLow (p:=⟨w.heap.size+1+1,0,none⟩) (by simp only;omega) (.slice va nc vc);have P2:=q5.setLow (p:=⟨w.heap.size+1+1,0,none⟩) (by simp only;omega) (.slice va nc vc);have I3:=y5.setLow (p:=⟨w.heap.size+1+1,0,none⟩) (by simp only;omega) (.slice va nc vc);have z3:(w2.setCell ⟨w.heap.size+1+1,0,none⟩ (.slice va nc vc)).heap.size=w2.heap.size:=World.size_setCell _ _ _
   obtain ⟨wq,a7⟩:=e_ (w2.setCell ⟨w.heap.size+1+1,0,none⟩ (.slice va nc vc))
   rw [a7] at B3 S3 R3 X3 P1 P2 I3 z3 ⊢
   have d0:w1.heap.size+1<=wq.heap.size:=by omega
   obtain ⟨h0,k1,k2,k3⟩:=P2
   have x5:h0.length<1000000:=by rw [k1,vZ];omega
   obtain ⟨ab,ad,a4,-⟩:=k2.form;simp only [aTw] at a4;obtain ⟨rfl,y0,rfl⟩:=a4;rw [y0] at q4 B3 y9 k2 P1;simp only [y0] at k3;obtain ⟨L1,L0,h9,z4,z1,z6,a8,y3,I2⟩:=h9_ k2.lt P1.lt B3 S3 R3 X3 P1 q4 I3;obtain ⟨H1,H2,H3,z5⟩:=h4_ k1 k2 k3 x5;clear B3 S3 R3 X3 P1 I3 k1 k2 k3 x5 a7 q3 q5 q4 h4 q9 q8 x2 y5 x4 y0 HG h8 q1 x7 x8 x9 q6 HE Y1 q0 h7 x6 a9 z3 b8;have y1:Ext wq (wq.alloc (.cells #[.slice qa (s.shade k).2.length qc] 24)):=X_;obtain ⟨HE,Y1⟩:=h2_ (aTm wq 24 [.slice qa (s.shade k).2.length qc]) y1;clear y1
   have x7:Hid (∀j,j<1->(wq.alloc (.cells #[.slice qa (s.shade k).2.length qc] 24)).cell? ⟨wq.heap.size,j,none⟩=[aUk qa (s.shade k).2.length qc][j]?):=hid (fun j hj=>by
    obtain rfl:j=0:=by omega
    exact HE.cell 0 rfl)
   have x8:Hid (∀u∈[aUk qa (s.shade k).2.length qc],u.oneCell'=true):=hid (fun u hu=>by
    rw [aVa] at hu;subst hu
    rfl)
   obtain ⟨x9,q6⟩:=h2_ (show w.heap.size+3<=(wq.alloc (.cells #[.slice qa (s.shade k).2.length qc] 24)).heap.size by simp;omega) (H2.ext Y1);have h6:=aD.rowE q6;obtain ⟨q0,h7,x6⟩:=h3_ (h9.ext Y1) (show ∀q,q<w.heap.size+3->some q≠(aUk aa h0.length ac).ownBlock from fun q hq e=>by have:=(h6 q e.symm).1;omega) (show w.heap.size+2<w.heap.size+3 by omega);clear h6;have b:=h9.lt;obtain ⟨b0,b1⟩:=h9.q2;go_upto_region 8 with (at_builtin;refine gL (fun u=>[u]) 24 1 24 _ _ rfl _ _ 76 rfl underlying76 aAc rfl (by decide) (by decide) (fun _=>rfl) (w.heap.size+3) (.slice aa h0.length ac) h0 rfl q6 (.slice qa (s.shade k).2.length qc) wq.heap.size rfl x7 x8 z5 x9 ?_;intro v4 w4 h5 hg x3;obtain ⟨vb,vd,rfl,-⟩:=aD.form h5;have h4:=hid (q0.grown hg (h7 _ x6));have e0:=h4.cell 0 rfl;have e1:=h4.cell 1 rfl;have f0:=h4.free 0;have f1:=h4.free 1;have lb:=h4.lt;obtain ⟨q1,HG,h8⟩:=h3_ h5 hg x3;clear h5 hg x3);have y2:(wq.alloc (.cells #[.slice qa (s.shade k).2.length qc] 24)).heap.size=wq.heap.size+1:=aTe _ _
   have P1:dM (w.heap.size+3) w4 (.slice vb (h0++[aUk qa (s.shade k).2.length qc]).length vd) (.slice va nc vc) (aEb s (k+1)):=by
    rw [aLt];refine dM.push (v:=.slice aa h0.length ac) (w:=wq.alloc (.cells #[.slice qa (s.shade k).2.length qc] 24)) H1 (fun k' u r hu hr=>?_) HG q1 h8 (l:=wr.heap.size) (h:=w1.heap.size) (by omega) (by omega) (I2.same (w':=wq.alloc (.cells #[.slice qa (s.shade k).2.length qc] 24)) (fun b b1 b2=>Y1.block (by omega))) ?_ ?_
    ·obtain ⟨l,h,e0,e1,e2,e3,e4⟩:=H3 k' u r hu hr
     exact ⟨l,h,e0,aTl e1 (by omega),e2.ext e1 Y1,e3,e4⟩
    ·intro b e
     exact .inl (y9 b e).2
    ·intro b e
     rcases z7 b e with h|h
     ·exact .inl h
     ·exact .inr h
   have P2:dM (w.heap.size+3) w4 (.slice va nc vc) (.slice vb (h0++[aUk qa (s.shade k).2.length qc]).length vd) (tP s (k+1)):=by
    refine (a8.ext Y1).beside HG h8 fun us' ho=>ho.otherRow HG fun b e e2=>y3 b e e2
   have P3:aNt (.slice va nc vc) (.slice vb (h0++[aUk qa (s.shade k).2.length qc]).length vd):=by
    intro b e e2
    rcases h8 b e2 with h|h
    ·exact y3 b e h
    ·have:=(L0 b e).2
     omega
   obtain ⟨q9,q8,x2,q3,q5,q4⟩:=h6_ ((z4.ext Y1).grown HG (h7 _ (by omega))) ((z1.ext Y1).grown HG (h7 _ (by omega))) (aUo (z6.trans Y1) HG (fun k e=>Nat.le_of_not_lt fun h=>h7.out k (by omega) e.symm)) P1 P2 P3;clear P1 P2 P3 e0 e1 f0 f1 lb b b0 b1 y2
   have x4:(h0++[aUk qa (s.shade k).2.length qc]).length=h0.length+1:=by simp
   rw [x4] at q3 q5 q4;obtain ⟨B5,S5,R5,X5,D5⟩:=h5_ (show Blk (w4.setCell ⟨w.heap.size+1+1,1,none⟩ (.slice vb (h0.length+1) vd)) (w.heap.size+2) 78 [.slice va nc vc,.slice vb (h0.length+1) vd] from h4.set 1 (.slice vb (h0.length+1) vd)) (show Blk (w4.setCell ⟨w.heap.size+1+1,1,none⟩ (.slice vb (h0.length+1) vd)) w.heap.size 40 (sL_ s a1 c1 a2 c2 a3 c3) from q9.other (by simp only;omega) _) (show Blk (w4.setCell ⟨w.heap.size+1+1,1,none⟩ (.slice vb (h0.length+1) vd)) (w.heap.size+1) 78 true from q8.other (by simp only;omega) _) (show Ext w (w4.setCell ⟨w.heap.size+1+1,1,none⟩ (.slice vb (h0.length+1) vd)) from aTu x2 (by simp only;omega) _) (aAd.mk (s:=s) (j:=k+1) (q5.setLow (p:=⟨w.heap.size+1+1,1,none⟩) (by simp only;omega) (.slice vb (h0.length+1) vd)) (q3.setLow (p:=⟨w.heap.size+1+1,1,none⟩) (by simp only;omega) (.slice vb (h0.length+1) vd)) q4);clear q3 q5 q4 h4 q9 q8 x2 x4 a5;go_wp2;go_roundw
   case rel=>exact ⟨k+1,_,_,by omega,by go_num,X5,S5,R5,B5,D5⟩
   case measure=>simp [intOf];omega
  ·obtain rfl:k=s.m:=by omega
   have b:=hb.lt;obtain ⟨b0,b1⟩:=hb.q2;have r:=hr.lt;obtain ⟨r0,r1⟩:=hr.q2;have d1:=hr.free 0;have d2:=hr.free 1;obtain ⟨us,h1,h2,h3⟩:=HD.c;obtain ⟨ca,cc,rfl,-⟩:=h2.form;obtain ⟨q7,k1,k2,k3⟩:=HD.a;obtain ⟨aa,ac,rfl,-⟩:=k2.form;clear hx hs hr hb hd h1 h2 h3 k1 k2 k3;go_wp2;have bF:=(HR.set 0 (.slice ca us.length cc)).set 1 (.slice aa q7.length ac);refine aD6 rfl rfl bF _ underlying78 rfl aLu rfl ?_;refine ⟨_,_,rfl,⟨?_,?_,HD.ap⟩,?_⟩
   ·exact ((HD.c.setLow (p:=⟨w.heap.size+1,0,none⟩) (by simp only;omega) _).setLow (p:=⟨w.heap.size+1,1,none⟩) (by simp only;omega) _).low (by omega)
   ·exact ((HD.a.setLow (p:=⟨w.heap.size+1,0,none⟩) (by simp only;omega) _).setLow (p:=⟨w.heap.size+1,1,none⟩) (by simp only;omega) _).low (by omega)
   ·exact aTu (aTu HX (by simp only;omega) _) (by simp only;omega) _
theorem aCp {cw ch zo ne:Int} {de:Bool} {le fo:Int} (hc:(Cam.mk cw ch zo ne de le fo).Ok) {l half:Int} (hx : -1000000<=x/\x<=1000000) (hz:1<=z/\z<=1000000) (hl : -16<=l/\l<=16) (hp:0<=half/\half<=1000) (hr:(Cam.mk cw ch zo ne de le fo).pj x z l half=r) (w:World) :
  R_ 243 #[.agg #[cw,ch,zo,ne,.bool de,le,fo],x,z,l,half] w (.int .i64 r):=by
 have h1:0<=le/\le<=64:=hc.lens;have h2:0<=fo/\fo<=1000000:=hc.focus;have h3:1<=zo/\zo<=65536:=hc.zoom
 obtain ⟨p1,e1⟩:=e_ (l*le)
 have b1 : -1024<=p1/\p1<=1024:=by have:=bK (A:=16) (B:=64) hl (show -64<=le/\le<=64 by omega);omega
 obtain ⟨d,e0⟩:=e_ (z - fo)
 obtain ⟨p2,e2⟩:=e_ (p1*d)
 have b2 : -1024000000<=p2/\p2<=1024000000:=by have:=bK (A:=1024) (B:=1000000) b1 (show -1000000<=d/\d<=1000000 by omega);omega
 obtain ⟨q,e3⟩:=e_ (bY p2 4096)
 have b3 : -1024000001<=q/\q<=1024000000:=by have:=nK (b:=4096) (m:=1024000000) b2 (by decide);omega
 obtain ⟨y,e4⟩:=e_ (x+q)
 obtain ⟨p3,e5⟩:=e_ (y*zo)
 have b4 : -80000000000000<=p3/\p3<=80000000000000:=by have:=bK (A:=1100000000) (B:=65536) (show -1100000000<=y/\y<=1100000000 by omega) (show -65536<=zo/\zo<=65536 by omega);omega
 obtain ⟨t,e6⟩:=e_ (bY p3 ((Cam.mk cw ch zo ne de le fo).by z))
 have b5 : -80000000000001<=t/\t<=80000000000000:=by have:=nK (b:=(Cam.mk cw ch zo ne de le fo).by z) (m:=80000000000000) b4 (by decide);omega
 have hR:aQ (t+half) (-100000) 100000=r:=by
  rw [<-hr]
  show _=sc (bY ((x+bY (l*le*(z - fo)) 4096)*zo) ((Cam.mk cw ch zo ne de le fo).by z)+half)
  rw [e1,e0,e2,e3,e4,e5,e6]
  rfl
 obtain ⟨E3,E6,HR⟩:=h3_ e3 e6 hR;clear hr hR e3 e6 hc
 cases de
 ·have E7:=hid (show bY p3 256=t from E6)
  go_enter func243,ntmps243;go_wp2_with fail;refine z_ (aV ⟨by omega,by omega⟩ E3 _) ?_;go_wp2_with fail;refine z_ (aV ⟨by omega,by omega⟩ E7 _) ?_;go_wp2_with fail;refine z_ (cL HR _) ?_;go_wp2;go_ret;exact ⟨rfl,X_⟩
 ·have E7:=hid (show bY p3 z=t from E6)
  go_enter func243,ntmps243;go_wp2_with fail;refine z_ (aV ⟨by omega,by omega⟩ E3 _) ?_;go_wp2_with fail;refine z_ (aV ⟨by omega,by omega⟩ E7 _) ?_;go_wp2_with fail;refine z_ (cL HR _) ?_;go_wp2;go_ret;exact ⟨rfl,X_⟩
theorem aQc {w:Int} (h:1<=w/\w<=12):bCb (w*16) 2=w*8:=by rw [aVi (by omega)];omega
theorem aEc (c:Cam) (x y z lx ly:Int) (h:c.prB ⟨x,y,z⟩ lx ly=true) (w:World) :
  R_ 203 #[c.V,.agg #[x,y,z],lx,ly] w (.tuple #[(c.pr ⟨x,y,z⟩ lx ly).V,.bool true]):=by
 unfold Cam.prB at h;simp only [aTs,decide_eq_true_eq] at h;obtain ⟨⟨⟨⟨hc,hv⟩,hx⟩,hy⟩,hz⟩:=h;have OK:=Cam.okB_iff.1 hc;have h2:=aB4.1 hv;have h3:=aG.1 hx;have h4:=aG.1 hy;have hn:=OK.near
 obtain ⟨px,h0⟩:=e_ (c.pj x z lx (c.w*8))
 obtain ⟨py,h1⟩:=e_ (c.pj y z ly (c.h*8))
 have hV:(c.pr ⟨x,y,z⟩ lx ly).V = .agg #[px,py,z]:=by
  unfold Cam.pr V3.V;simp only [h0,h1]
 rw [hV];obtain ⟨h8,h9,HO,P1,P2,VX,VY,VZ,LX⟩:=h9_ hx hy OK h0 h1 h2.1 h2.2.1 (show 1<=z/\z<=1000000 by omega) h3;have LY:=hid h4;have WB:=OK.w;have HB:=OK.h;have q0:decide (z<c.near)=false:=decide_eq_false (by omega);have t1:=aQc WB;have t2:=aQc HB;have s1:wrap64 (c.w*16)=c.w*16:=aE (by omega) (by omega);have s2:wrap64 (c.h*16)=c.h*16:=aE (by omega) (by omega);obtain ⟨HV,HC,B0,B1,B2,X0⟩:=h6_ hv hc ((aTm w 35 c).ext (show Ext (w.alloc (.cells c 35)) (((w.alloc (.cells c 35)).alloc (.cells #[x,y,z] 122)).alloc (.cells #[(),(),()] 122)) from X_)) (show Blk (((w.alloc (.cells c 35)).alloc (.cells #[x,y,z] 122)).alloc (.cells #[(),(),()] 122)) (w.heap.size+1) 122 [x,y,z] from by have q:=(aTm (w.alloc (.cells c 35)) 122 [x,y,z]).ext (show Ext ((w.alloc (.cells c 35)).alloc (.cells #[x,y,z] 122)) (((w.alloc (.cells c 35)).alloc (.cells #[x,y,z] 122)).alloc (.cells #[(),(),()] 122)) from X_);simp only [aTe] at q;exact q) (show Blk (((w.alloc (.cells c 35)).alloc (.cells #[x,y,z] 122)).alloc (.cells #[(),(),()] 122)) (w.heap.size+2) 122 [(),(),()] from by have q:=(aTm ((w.alloc (.cells c 35)).alloc (.cells #[x,y,z] 122)) 122 [(),(),()]).ext (show Ext (((w.alloc (.cells c 35)).alloc (.cells #[x,y,z] 122)).alloc (.cells #[(),(),()] 122)) (((w.alloc (.cells c 35)).alloc (.cells #[x,y,z] 122)).alloc (.cells #[(),(),()] 122)) from X_);simp only [aTe] at q;exact q) (show Ext w (((w.alloc (.cells c 35)).alloc (.cells #[x,y,z] 122)).alloc (.cells #[(),(),()] 122)) from X_);clear hc hv hx hy OK h2 h3 h4 hn h0 h1 hV hz
 show Calls aTg 203 #[.agg c,.agg #[x,y,z],lx,ly] w _
 go_enter func203,ntmps203;go_wp2_with fail;refine r_ (aO HC _) fun w1 x1=>?_;replace B0:=hid (B0.ext x1);replace B1:=hid (B1.ext x1);replace B2:=hid (B2.ext x1);replace X0:=hid (X0.trans x1);have v:=B1.lt;obtain ⟨v0,v1,v2⟩:=B1.q3;go_wp2_with fail;refine (eB _).mono ?_;rintro e w2 ⟨he,x2⟩;rw [HV] at he;subst he;clear v0 v1 v2 v;replace B0:=hid (B0.ext x2);replace B1:=hid (B1.ext x2);replace B2:=hid (B2.ext x2);replace X0:=hid (X0.trans x2);have c_:=B0.lt;obtain ⟨q1,q2,q4,q5,q6,q8,q9⟩:=B0.q7;have v:=B1.lt;obtain ⟨v0,v1,v2⟩:=B1.q3;have r:=B2.lt;obtain ⟨r0,r1,r2⟩:=B2.q3;have h5:=B2.free 0;have h6:=B2.free 1;have h7:=B2.free 2;have zs:=X0.size;go_wp2_with fail;refine z_ (aF h8 _) ?_;go_wp2_with fail;refine z_ (aF h9 _) ?_;go_wp2_with fail;clear q0;refine aA [([0,1,2,3,4,5,6,7,8,9,11,12,13,14,15,16,17,18,19,20,22,23],10),([],21),([24],25),([],26)] 26 (w.heap.size+2) ?_;refine st_ fun K hK=>?_;go_wp2_with fail;refine r_ (aCp HO VX VZ LX (show (0:Int)<=c.w*8/\c.w*8<=1000 by omega) P1 _) fun w3 x3=>?_;have y3:Ext w2 w3:=aTi (aUi (aTn _)) x3;go_wp2;refine hK _ _ (.inr (fun k _ hk=>y3.block (by first|omega|(simp;omega)))) ?_;clear hK K;refine st_ fun K hK=>?_;go_wp2_with fail;refine r_ (aCp HO VY VZ LY (show (0:Int)<=c.h*8/\c.h*8<=1000 by omega) P2 _) fun w4 x4=>?_;have y4:=y3.trans x4;go_wp2;refine hK _ _ (.inr (fun k _ hk=>y4.block (by first|omega|(simp;omega)))) ?_;clear hK K;clear r r0 r1 r2 h5 h6 h7;have D:=B2.ext y4;have XX:=X0.trans y4;have r:=D.lt;obtain ⟨r0,r1,r2⟩:=D.q3;have h5:=D.free 0;have h6:=D.free 1;have h7:=D.free 2;refine st_ fun K hK=>?_;go_wp2
 refine hK _ _ (.inr (fun k _ hk=>by
  rw [aTo _ _ _ _ (by first|omega|(simp only;omega)|(simp;omega)),aTo _ _ _ _ (by first|omega|(simp only;omega)|(simp;omega)),aTo _ _ _ _ (by first|omega|(simp only;omega)|(simp;omega))]
  exact y4.block (by omega))) ?_
 clear hK K;refine st_ fun K hK=>?_;go_wp2;refine l_ hK (aC ?_);clear hK K;go_wp2;exact bodyPost_ret (v:=.tuple #[.agg #[px,py,z],.bool true]) (by simp [results,results203,go_sem, *]) rfl ⟨rfl,S_⟩
theorem Cam.prB_parts {c:Cam} {b:Bool} (h:c.prB ⟨x,y,z⟩ lx ly=b):(c.okB&&dH x y z&&inB lx (-16) 16&&inB ly (-16) 16&&decide (c.near<=z))=b:=h
theorem aGi (c:Cam) (x y z lx ly:Int) (h:c.prB ⟨x,y,z⟩ lx ly=false) (w:World) :
  R_ 203 #[c.V,.agg #[x,y,z],lx,ly] w (.tuple #[.agg #[(),(),()],.bool false]):=by
 have h:=Cam.prB_parts h
 obtain ⟨b1,hc⟩:=e_ c.okB
 obtain ⟨b2,hv⟩:=e_ (dH x y z)
 obtain ⟨b3,hx⟩:=e_ (inB lx (-16) 16)
 obtain ⟨b4,hy⟩:=e_ (inB ly (-16) 16)
 rw [hc,hv,hx,hy] at h;obtain ⟨h4,h5,HV,HC,B0,B1,B2,X0⟩:=h8_ hx hy hv hc ((aTm w 35 c).ext (show Ext (w.alloc (.cells c 35)) (((w.alloc (.cells c 35)).alloc (.cells #[x,y,z] 122)).alloc (.cells #[(),(),()] 122)) from X_)) (show Blk (((w.alloc (.cells c 35)).alloc (.cells #[x,y,z] 122)).alloc (.cells #[(),(),()] 122)) (w.heap.size+1) 122 [x,y,z] from by have q:=(aTm (w.alloc (.cells c 35)) 122 [x,y,z]).ext (show Ext ((w.alloc (.cells c 35)).alloc (.cells #[x,y,z] 122)) (((w.alloc (.cells c 35)).alloc (.cells #[x,y,z] 122)).alloc (.cells #[(),(),()] 122)) from X_);simp only [aTe] at q;exact q) (show Blk (((w.alloc (.cells c 35)).alloc (.cells #[x,y,z] 122)).alloc (.cells #[(),(),()] 122)) (w.heap.size+2) 122 [(),(),()] from by have q:=(aTm ((w.alloc (.cells c 35)).alloc (.cells #[x,y,z] 122)) 122 [(),(),()]).ext (show Ext (((w.alloc (.cells c 35)).alloc (.cells #[x,y,z] 122)).alloc (.cells #[(),(),()] 122)) (((w.alloc (.cells c 35)).alloc (.cells #[x,y,z] 122)).alloc (.cells #[(),(),()] 122)) from X_);simp only [aTe] at q;exact q) (show Ext w (((w.alloc (.cells c 35)).alloc (.cells #[x,y,z] 122)).alloc (.cells #[(),(),()] 122)) from X_);clear hc hv hx hy
 show Calls aTg 203 #[.agg c,.agg #[x,y,z],lx,ly] w _
 go_enter func203,ntmps203;go_wp2_with fail;refine r_ (aO HC _) fun w1 x1=>?_;replace B0:=hid (B0.ext x1);replace B1:=hid (B1.ext x1);replace B2:=hid (B2.ext x1);replace X0:=hid (X0.trans x1);have r:=B2.lt;obtain ⟨r0,r1,r2⟩:=B2.q3;have h0:=B2.free 0;have h2:=B2.free 1;have h3:=B2.free 2;have XX:=X0.out
 cases b1
 ·go_wp2
  exact bodyPost_ret (v:=.tuple #[.agg #[(),(),()],.bool false]) (by simp [results,results203,go_sem, *]) rfl ⟨rfl,S_⟩
 clear r r0 r1 r2 h0 h2 h3 XX;have v:=B1.lt;obtain ⟨v0,v1,v2⟩:=B1.q3;go_wp2_with fail;refine (eB _).mono ?_;rintro e w2 ⟨he,x2⟩;rw [HV] at he;subst he;clear v0 v1 v2 v;replace B0:=hid (B0.ext x2);replace B1:=hid (B1.ext x2);replace B2:=hid (B2.ext x2);replace X0:=hid (X0.trans x2);have r:=B2.lt;obtain ⟨r0,r1,r2⟩:=B2.q3;have h0:=B2.free 0;have h2:=B2.free 1;have h3:=B2.free 2;have XX:=X0.out
 cases b2
 ·go_wp2
  exact bodyPost_ret (v:=.tuple #[.agg #[(),(),()],.bool false]) (by simp [results,results203,go_sem, *]) rfl ⟨rfl,S_⟩
 go_wp2_with fail;refine z_ (aF h4 _) ?_
 cases b3
 ·go_wp2
  exact bodyPost_ret (v:=.tuple #[.agg #[(),(),()],.bool false]) (by simp [results,results203,go_sem, *]) rfl ⟨rfl,S_⟩
 go_wp2_with fail;refine z_ (aF h5 _) ?_
 cases b4
 ·go_wp2
  exact bodyPost_ret (v:=.tuple #[.agg #[(),(),()],.bool false]) (by simp [results,results203,go_sem, *]) rfl ⟨rfl,S_⟩
 have q4:decide (z<c.near)=true:=by
  have h1 : ¬c.near<=z:=by simpa using h
  exact decide_eq_true (by omega)
 clear h;have c_:=B0.lt;obtain ⟨h6,h7,h8,h9,q0,q1,q2⟩:=B0.q7;have v:=B1.lt;obtain ⟨v0,v1,v2⟩:=B1.q3;go_wp2;exact bodyPost_ret (v:=.tuple #[.agg #[(),(),()],.bool false]) (by simp [results,results203,go_sem, *]) rfl ⟨rfl,S_⟩
theorem aAe (h:aU4 ⟨x,y,z⟩) (hz : -1000000<=z/\z<=1000000) (w:World) :
  R_ 208 #[.agg #[x,y,z]] w (.agg #[x,y,z]):=by
 obtain ⟨h1,h2,h3⟩:=h3_ (aDk h.1) (aDk h.2) (sP hz);clear h hz;go_enter func208,ntmps208;go_upto_region 1 with fail;refine aA [([0,1,3,4,6,7],2),([],5),([],8),([9],10)] 10 (w.heap.size+1) ?_;refine st_ fun K hK=>?_;go_wp2_with fail;refine z_ (cL h1.out _) ?_;go_wp2;refine k_ hK (st_ fun K hK=>?_);go_wp2_with fail;refine z_ (cL h2.out _) ?_;go_wp2;refine k_ hK (st_ fun K hK=>?_);go_wp2_with fail;refine z_ (wR h3.out _) ?_;go_wp2;refine k_ hK (st_ fun K hK=>?_);go_wp2;refine l_ hK (aC ?_);clear hK K;go_wp2;exact bodyPost_ret (v:=.agg #[x,y,z]) (by simp [results,results208,go_sem, *]) rfl ⟨rfl,S_⟩
theorem tR (ax ay az bx by' bz cx cy cz:Int) (ha:aU4 ⟨ax,ay,az⟩) (hb:aU4 ⟨bx,by',bz⟩) (hc:aU4 ⟨cx,cy,cz⟩) (hz:(-1000000<=az/\az<=1000000)/\(-1000000<=bz/\bz<=1000000)/\(-1000000<=cz/\cz<=1000000)) (w:World) :
  R_ 151 #[.agg #[ax,ay,az,bx,by',bz,cx,cy,cz]] w (.agg #[ax,ay,az,bx,by',bz,cx,cy,cz]):=by
 have Ha:=aT ha;have Hb:=aT hb;have Hc:=aT hc;obtain ⟨Hz,B0,B1,X0⟩:=h4_ hz ((aTm w 153 [ax,ay,az,bx,by',bz,cx,cy,cz]).ext (show Ext (w.alloc (.cells #[ax,ay,az,bx,by',bz,cx,cy,cz] 153)) ((w.alloc (.cells #[ax,ay,az,bx,by',bz,cx,cy,cz] 153)).alloc (.cells #[(),(),(),(),(),(),(),(),()] 151)) from X_)) (show Blk ((w.alloc (.cells #[ax,ay,az,bx,by',bz,cx,cy,cz] 153)).alloc (.cells #[(),(),(),(),(),(),(),(),()] 151)) (w.heap.size+1) 151 [(),(),(),(),(),(),(),(),()] from by have q:=(aTm (w.alloc (.cells #[ax,ay,az,bx,by',bz,cx,cy,cz] 153)) 151 [(),(),(),(),(),(),(),(),()]).ext (show Ext ((w.alloc (.cells #[ax,ay,az,bx,by',bz,cx,cy,cz] 153)).alloc (.cells #[(),(),(),(),(),(),(),(),()] 151)) ((w.alloc (.cells #[ax,ay,az,bx,by',bz,cx,cy,cz] 153)).alloc (.cells #[(),(),(),(),(),(),(),(),()] 151)) from X_);simp only [aTe] at q;exact q) (show Ext w ((w.alloc (.cells #[ax,ay,az,bx,by',bz,cx,cy,cz] 153)).alloc (.cells #[(),(),(),(),(),(),(),(),()] 151)) from X_);clear ha hb hc hz;go_enter func151,ntmps151;go_upto_region 1 with fail
 obtain ⟨W,hW⟩:=e_ ((w.alloc (.cells #[ax,ay,az,bx,by',bz,cx,cy,cz] 153)).alloc (.cells #[(),(),(),(),(),(),(),(),()] 151))
 try simp only [aTe]
 rw [hW];rw [hW] at B0 B1 X0;clear hW;have zs:w.heap.size+1<W.heap.size:=B1.lt;obtain ⟨t,t0,t1,t2,t3,t4,t5,t6,t7,t8,h9,q0⟩:=m12_ B0.lt (B0.cell 0 rfl) (B0.cell 1 rfl) (B0.cell 2 rfl) (B0.cell 3 rfl) (B0.cell 4 rfl) (B0.cell 5 rfl) (B0.cell 6 rfl) (B0.cell 7 rfl) (B0.cell 8 rfl) (B0.free 0) (B0.free 1);have q1:=B0.free 2;have q2:=B0.free 3;have q3:=B0.free 4;have q4:=B0.free 5;have q5:=B0.free 6;have q6:=B0.free 7;have q7:=B0.free 8;refine aA [([0,1,2,4,5,6,8,9,10],3),([],7),([],11),([12],13)] 13 (w.heap.size+1) ?_;refine st_ fun K hK=>?_;go_wp2_with fail;refine r_ (aAe Ha Hz.1 _) fun w1 x1=>?_;have y1:Ext W w1:=aTi (aUi (aTn _)) x1;go_wp2;refine hK _ _ (.inr (fun k _ hk=>y1.block (by first|omega|(simp;omega)))) ?_;clear hK K;refine st_ fun K hK=>?_;go_wp2_with fail;refine r_ (aAe Hb Hz.2.1 _) fun w2 x2=>?_;have y2:=y1.trans x2;go_wp2;refine hK _ _ (.inr (fun k _ hk=>y2.block (by first|omega|(simp;omega)))) ?_;clear hK K;refine st_ fun K hK=>?_;go_wp2_with fail;refine r_ (aAe Hc Hz.2.2 _) fun w3 x3=>?_;have y3:=y2.trans x3;go_wp2;refine hK _ _ (.inr (fun k _ hk=>y3.block (by first|omega|(simp;omega)))) ?_;clear hK K;have D:=B1.ext y3;obtain ⟨XX,r,r0,r1,r2,r3,r4,r5,r6,r7,r8,h0⟩:=m12_ (X0.trans y3) D.lt (D.cell 0 rfl) (D.cell 1 rfl) (D.cell 2 rfl) (D.cell 3 rfl) (D.cell 4 rfl) (D.cell 5 rfl) (D.cell 6 rfl) (D.cell 7 rfl) (D.cell 8 rfl) (D.free 0);obtain ⟨h1,h2,h3,h4,h5,h6,h7,h8⟩:=m8_ (D.free 1) (D.free 2) (D.free 3) (D.free 4) (D.free 5) (D.free 6) (D.free 7) (D.free 8);refine st_ fun K hK=>?_;go_wp2;refine l_ hK (aC ?_);clear hK K;go_wp2;exact bodyPost_ret (v:=.agg #[ax,ay,az,bx,by',bz,cx,cy,cz]) (by simp [results,results151,go_sem, *]) rfl ⟨rfl,S_⟩
theorem jK (ax ay az bx by' bz:Int) (ha:aU4 ⟨ax,ay,az⟩) (hb:aU4 ⟨bx,by',bz⟩) (hs:aU4 ⟨x,y,0⟩) (hr:aY ⟨ax,ay,az⟩ ⟨bx,by',bz⟩ ⟨x,y,0⟩=r) (w:World) :
  R_ 154 #[.agg #[ax,ay,az],.agg #[bx,by',bz],x,y] w (.int .i64 r):=by
 obtain ⟨g1,g2⟩:=sV ha hb hs;obtain ⟨a1,a2⟩:=ha;obtain ⟨b1,b2⟩:=hb;obtain ⟨s1,s2⟩:=hs;simp only at a1 a2 b1 b2 s1 s2 g1 g2
 obtain ⟨p1,e5⟩:=e_ ((bx - ax)*(y - ay))
 obtain ⟨p2,e6⟩:=e_ ((by' - ay)*(x - ax))
 rw [e5] at g1;rw [e6] at g2
 have hR:p1 - p2=r:=by
  rw [<-hr,<-e5,<-e6]
  rfl
 have u1:wrap64 (bx - ax)=bx - ax:=aE (by omega) (by omega);have u2:wrap64 (y - ay)=y - ay:=aE (by omega) (by omega)
 have u3:wrap64 (by' - ay)=by' - ay:=aE (by omega) (by omega)
 have u4:wrap64 (x - ax)=x - ax:=aE (by omega) (by omega)
 have u5:wrap64 ((bx - ax)*(y - ay))=p1:=by rw [e5];exact aE (by omega) (by omega)
 have u6:wrap64 ((by' - ay)*(x - ax))=p2:=by rw [e6];exact aE (by omega) (by omega)
 have u7:wrap64 (p1 - p2)=r:=by rw [hR];exact aE (by omega) (by omega)
 clear hr hR e5 e6 g1 g2 a1 a2 b1 b2 s1 s2;go_enter func154,ntmps154;go_wp2;go_ret;exact ⟨cY u7,X_⟩
theorem iA (ax ay az bx by' bz:Int) (ha:aU4 ⟨ax,ay,az⟩) (hb:aU4 ⟨bx,by',bz⟩) (hs:aU4 ⟨x,y,0⟩) {r:Bool} (hr:dP ⟨ax,ay,az⟩ ⟨bx,by',bz⟩ ⟨x,y,0⟩=r) (w:World) :
  R_ 207 #[.agg #[ax,ay,az],.agg #[bx,by',bz],x,y] w (.bool r):=by
 obtain ⟨d,hd⟩:=e_ (aY ⟨ax,ay,az⟩ ⟨bx,by',bz⟩ ⟨x,y,0⟩)
 have HD:=hid hd;have Ha:=aT ha;have Hb:=aT hb;have Hs:=aT hs;obtain ⟨B0,B1,X0⟩:=h3_ ((aTm w 122 [ax,ay,az]).ext (show Ext (w.alloc (.cells #[ax,ay,az] 122)) ((w.alloc (.cells #[ax,ay,az] 122)).alloc (.cells #[bx,by',bz] 122)) from X_)) (show Blk ((w.alloc (.cells #[ax,ay,az] 122)).alloc (.cells #[bx,by',bz] 122)) (w.heap.size+1) 122 [bx,by',bz] from by have q:=(aTm (w.alloc (.cells #[ax,ay,az] 122)) 122 [bx,by',bz]).ext (show Ext ((w.alloc (.cells #[ax,ay,az] 122)).alloc (.cells #[bx,by',bz] 122)) ((w.alloc (.cells #[ax,ay,az] 122)).alloc (.cells #[bx,by',bz] 122)) from X_);simp only [aTe] at q;exact q) (show Ext w ((w.alloc (.cells #[ax,ay,az] 122)).alloc (.cells #[bx,by',bz] 122)) from X_);unfold dP at hr;simp only [hd] at hr;clear ha hb hs hd;go_enter func207,ntmps207;go_wp2_with fail;refine r_ (jK _ _ _ _ _ _ Ha Hb Hs HD _) fun w1 x1=>?_;replace B0:=hid (B0.ext x1);replace B1:=hid (B1.ext x1);replace X0:=hid (X0.trans x1);have p:=B0.lt;obtain ⟨p0,p1,p2⟩:=B0.q3;have q:=B1.lt;obtain ⟨q0,q1,q2⟩:=B1.q3
 by_cases h0:d=0
 ·subst h0
  rcases Int.lt_trichotomy by' ay with h1|h1|h1
  ·have e1:r=true:=by rw [<-hr];simp [h1]
   subst e1;go_wp2;go_ret;exact ⟨aM (by simp [h1]),X0⟩
  ·have e1:decide (ax<bx)=r:=by rw [<-hr];simp [h1]
   clear hr;subst h1;go_wp2;go_ret;exact ⟨aM (by first|exact e1|rfl),X0⟩
  ·have h2 : ¬by'<ay:=by omega
   have h3 : ¬by'=ay:=by omega
   have e1:r=false:=by rw [<-hr];simp [h2,h3]
   subst e1;go_wp2;go_ret;exact ⟨aM (by simp [h2,h3]),X0⟩
 ·have e1:decide (0<d)=r:=by rw [<-hr];simp [h0]
  clear hr;go_wp2;go_ret;exact ⟨aM (by first|exact e1|rfl),X0⟩
theorem aCq (ax ay az bx by' bz cx cy cz:Int) (ha:aU4 ⟨ax,ay,az⟩) (hb:aU4 ⟨bx,by',bz⟩) (hc:aU4 ⟨cx,cy,cz⟩) (hz:(-1000000<=az/\az<=1000000)/\(-1000000<=bz/\bz<=1000000)/\(-1000000<=cz/\cz<=1000000)) (hd:aY ⟨ax,ay,az⟩ ⟨bx,by',bz⟩ ⟨cx,cy,0⟩=d) (w:World) :
  R_ 153 #[.agg #[ax,ay,az,bx,by',bz,cx,cy,cz]] w (.int .i64 d):=by
 have Ha:=aT ha;have Hb:=aT hb;have Hc:=aT hc;obtain ⟨Hz,HD⟩:=h2_ hz hd;clear ha hb hc hz hd;go_enter func153,ntmps153;go_wp2_with fail;refine r_ (tR _ _ _ _ _ _ _ _ _ Ha Hb Hc Hz _) fun w1 x1=>?_;have y1:Ext w w1:=aTi X_ x1;have z1:=y1.size;go_wp2_with fail;refine r_ (jK _ _ _ _ _ _ Ha Hb (show aU4 ⟨cx,cy,0⟩ from Hc) HD _) fun w2 x2=>?_;go_wp2;go_ret;exact ⟨rfl,y1.trans (aTi S_ x2)⟩
theorem aLv (ax ay az bx by' bz cx cy cz:Int) (w:World) :
  R_ 206 #[.agg #[ax,ay,az,bx,by',bz,cx,cy,cz]] w (.agg #[ax,ay,az,cx,cy,cz,bx,by',bz]):=by
 go_enter func206,ntmps206;go_wp2;exact bodyPost_ret (v:=.agg #[ax,ay,az,cx,cy,cz,bx,by',bz]) (by simp [results,results206,go_sem, *]) rfl ⟨rfl,S_⟩
theorem aIv (h:aU4 ⟨x,y,0⟩) (w:World):Z_ 205 #[x,y] w (.bool true):=by
 obtain ⟨h1,h2⟩:=h2_ (aG.2 h.1) (aG.2 h.2);clear h;go_enter func205,ntmps205;go_wp2_with fail;refine z_ (aF h1.out _) ?_;go_wp2_with fail;refine z_ (aF h2.out _) ?_;go_wp2;go_ret;exact ⟨rfl,rfl⟩
theorem tS (hx : -100000000000<=x/\x<=100000000000) (h:gK x=r) (w:World):Z_ 152 #[x] w (.int .i64 r):=by
 rcases Int.lt_or_le x 0 with h0|h0
 ·have e1 : -x=r:=by rw [<-h];exact ((dU (x:=x)).2.2 (by omega)).symm
  have e2:wrap64 (-x)=r:=by rw [e1];exact aE (by omega) (by omega)
  clear h;go_enter func152,ntmps152;go_wp2;go_ret;exact ⟨cY (by first|exact e1|exact e2|rfl),rfl⟩
 ·have e1:x=r:=by rw [<-h];exact ((dU (x:=x)).2.1 (by omega)).symm
  subst e1;clear h;go_enter func152,ntmps152;go_wp2;go_ret;exact ⟨rfl,rfl⟩
theorem wA (ax ay az bx by' bz cx cy cz:Int) (ha:aU4 ⟨ax,ay,az⟩) (hb:aU4 ⟨bx,by',bz⟩) (hc:aU4 ⟨cx,cy,cz⟩) (hz:(-1000000<=az/\az<=1000000)/\(-1000000<=bz/\bz<=1000000)/\(-1000000<=cz/\cz<=1000000)) (sx sy:Int) (hs:aU4 ⟨sx,sy,0⟩) {r:Bool} (hr:rP ⟨ax,ay,az⟩ ⟨bx,by',bz⟩ ⟨cx,cy,cz⟩ ⟨sx,sy,0⟩=r) (w:World) :
  R_ 150 #[.agg #[ax,ay,az,bx,by',bz,cx,cy,cz],sx,sy] w (.bool r):=by
 have Ha:=aT ha;have Hb:=aT hb;have Hc:=aT hc;have Hz:=hid hz;have HS:=aT hs
 obtain ⟨d,hd⟩:=e_ (aY ⟨ax,ay,az⟩ ⟨bx,by',bz⟩ ⟨cx,cy,cz⟩)
 have HD:=hid (show aY ⟨ax,ay,az⟩ ⟨bx,by',bz⟩ ⟨cx,cy,0⟩=d from hd);unfold rP at hr;rw [hd] at hr;obtain ⟨B0,X0⟩:=h2_ ((aTm w 153 [ax,ay,az,bx,by',bz,cx,cy,cz]).ext (show Ext (w.alloc (.cells #[ax,ay,az,bx,by',bz,cx,cy,cz] 153)) (w.alloc (.cells #[ax,ay,az,bx,by',bz,cx,cy,cz] 153)) from X_)) (show Ext w (w.alloc (.cells #[ax,ay,az,bx,by',bz,cx,cy,cz] 153)) from X_);clear ha hb hc hz hs hd;go_enter func150,ntmps150;go_wp2_with fail;refine r_ (aCq _ _ _ _ _ _ _ _ _ Ha Hb Hc Hz HD _) fun w1 x1=>?_;replace B0:=hid (B0.ext x1);replace X0:=hid (X0.trans x1)
 by_cases h0:d=0
 ·subst h0
  rw [if_pos rfl] at hr;go_wp2;go_ret;exact ⟨aM hr,X0⟩
 rw [if_neg h0] at hr;have h1:(d==0)=false:=beq_eq_false_iff_ne.2 h0;go_wp2_with fail;refine z_ (aIv HS _) ?_;obtain ⟨p,p0,p1,p2,p3,p4,p5,p6⟩:=m8_ B0.lt (B0.cell 0 rfl) (B0.cell 1 rfl) (B0.cell 2 rfl) (B0.cell 3 rfl) (B0.cell 4 rfl) (B0.cell 5 rfl) (B0.cell 6 rfl);have p7:=B0.cell 7 rfl;have p8:=B0.cell 8 rfl;go_wp2_with fail;refine r_ (tR _ _ _ _ _ _ _ _ _ Ha Hb Hc Hz _) fun w2 x2=>?_;clear p p0 p1 p2 p3 p4 p5 p6 p7 p8;replace B0:=hid (B0.ext x2);replace X0:=hid (X0.trans x2);have G:=hid (aTm w2 151 [ax,ay,az,bx,by',bz,cx,cy,cz]);have yN:Ext w2 (w2.alloc (.cells #[ax,ay,az,bx,by',bz,cx,cy,cz] 151)):=X_
 by_cases h2:d<0
 ·rw [if_pos h2] at hr
  obtain ⟨b1,e1⟩:=e_ (dP ⟨ax,ay,az⟩ ⟨cx,cy,cz⟩ ⟨sx,sy,0⟩)
  obtain ⟨b2,e2⟩:=e_ (dP ⟨cx,cy,cz⟩ ⟨bx,by',bz⟩ ⟨sx,sy,0⟩)
  obtain ⟨b3,e3⟩:=e_ (dP ⟨bx,by',bz⟩ ⟨ax,ay,az⟩ ⟨sx,sy,0⟩)
  rw [e1,e2,e3] at hr;obtain ⟨H1,H2,H3⟩:=h3_ e1 e2 e3;clear e1 e2 e3;replace B0:=hid (B0.ext yN);have X:=hid (X0.trans yN);have zz:=X0.size;clear yN X0;obtain ⟨p,p0,p1,p2,p3,p4,p5,p6⟩:=m8_ B0.lt (B0.cell 0 rfl) (B0.cell 1 rfl) (B0.cell 2 rfl) (B0.cell 3 rfl) (B0.cell 4 rfl) (B0.cell 5 rfl) (B0.cell 6 rfl);have p7:=B0.cell 7 rfl;have p8:=B0.cell 8 rfl;go_wp2_with fail;refine r_ (aLv _ _ _ _ _ _ _ _ _ _) fun w3 x3=>?_;replace G:=hid (G.ext x3);replace X:=hid (X.trans x3);clear p p0 p1 p2 p3 p4 p5 p6 p7 p8;go_wp2_with fail;refine r_ (tR _ _ _ _ _ _ _ _ _ Ha Hc Hb ⟨Hz.1,Hz.2.2,Hz.2.1⟩ _) fun w4 x4=>?_;replace G:=hid (G.ext x4);replace X:=hid (X.trans x4);obtain ⟨g,g0,g1,g2,g3,g4,g5,g6,g7,g8,h4,h5⟩:=m12_ G.lt (G.cell 0 rfl) (G.cell 1 rfl) (G.cell 2 rfl) (G.cell 3 rfl) (G.cell 4 rfl) (G.cell 5 rfl) (G.cell 6 rfl) (G.cell 7 rfl) (G.cell 8 rfl) (G.free 0) (G.free 1);have h6:=G.free 2;have h7:=G.free 3;have h8:=G.free 4;have h9:=G.free 5;have q0:=G.free 6;have q1:=G.free 7;have q2:=G.free 8;go_upto_region 7 with fail;have XX:=X.out
  have G5:Blk (((((((((w4.setCell ⟨w2.heap.size,0,none⟩ ax).setCell ⟨w2.heap.size,1,none⟩ ay).setCell ⟨w2.heap.size,2,none⟩ az).setCell ⟨w2.heap.size,3,none⟩ cx).setCell ⟨w2.heap.size,4,none⟩ cy).setCell ⟨w2.heap.size,5,none⟩ cz).setCell ⟨w2.heap.size,6,none⟩ bx).setCell ⟨w2.heap.size,7,none⟩ by').setCell ⟨w2.heap.size,8,none⟩ bz) w2.heap.size 151 [ax,ay,az,cx,cy,cz,bx,by',bz]:=(((((((((G.set 0 (.int .i64 ax)).set 1 (.int .i64 ay)).set 2 (.int .i64 az)).set 3 (.int .i64 cx)).set 4 (.int .i64 cy)).set 5 (.int .i64 cz)).set 6 (.int .i64 bx)).set 7 (.int .i64 by')).set 8 (.int .i64 bz))
  have X5:Ext w (((((((((w4.setCell ⟨w2.heap.size,0,none⟩ ax).setCell ⟨w2.heap.size,1,none⟩ ay).setCell ⟨w2.heap.size,2,none⟩ az).setCell ⟨w2.heap.size,3,none⟩ cx).setCell ⟨w2.heap.size,4,none⟩ cy).setCell ⟨w2.heap.size,5,none⟩ cz).setCell ⟨w2.heap.size,6,none⟩ bx).setCell ⟨w2.heap.size,7,none⟩ by').setCell ⟨w2.heap.size,8,none⟩ bz):=S_
  obtain ⟨W5,h3⟩:=e_ (((((((((w4.setCell ⟨w2.heap.size,0,none⟩ ax).setCell ⟨w2.heap.size,1,none⟩ ay).setCell ⟨w2.heap.size,2,none⟩ az).setCell ⟨w2.heap.size,3,none⟩ cx).setCell ⟨w2.heap.size,4,none⟩ cy).setCell ⟨w2.heap.size,5,none⟩ cz).setCell ⟨w2.heap.size,6,none⟩ bx).setCell ⟨w2.heap.size,7,none⟩ by').setCell ⟨w2.heap.size,8,none⟩ bz)
  rw [h3] at G5 X5 ⊢;clear h3 XX g g0 g1 g2 g3 g4 g5 g6 g7 g8 h4 h5 h6 h7 h8 h9 q0 q1 q2 x4 x3;replace G:=hid G5;replace X:=hid X5;clear G5 X5;obtain ⟨g,g0,g1,g2,g3,g4,g5,g6⟩:=m8_ G.lt (G.cell 0 rfl) (G.cell 1 rfl) (G.cell 2 rfl) (G.cell 3 rfl) (G.cell 4 rfl) (G.cell 5 rfl) (G.cell 6 rfl);have g7:=G.cell 7 rfl;have g8:=G.cell 8 rfl;go_wp2_with fail;refine r_ (iA _ _ _ _ _ _ Ha Hc HS H1 _) fun u1 zu1=>?_;replace G:=hid (G.ext zu1);replace X:=hid (X.trans zu1);clear g g0 g1 g2 g3 g4 g5 g6 g7 g8
  cases b1
  ·go_wp2
   go_ret;exact ⟨aM (by simpa using hr),X⟩
  obtain ⟨g,g0,g1,g2,g3,g4,g5,g6⟩:=m8_ G.lt (G.cell 0 rfl) (G.cell 1 rfl) (G.cell 2 rfl) (G.cell 3 rfl) (G.cell 4 rfl) (G.cell 5 rfl) (G.cell 6 rfl);have g7:=G.cell 7 rfl;have g8:=G.cell 8 rfl;go_wp2_with fail;refine r_ (iA _ _ _ _ _ _ Hc Hb HS H2 _) fun u2 zu2=>?_;replace G:=hid (G.ext zu2);replace X:=hid (X.trans zu2);clear g g0 g1 g2 g3 g4 g5 g6 g7 g8
  cases b2
  ·go_wp2
   go_ret;exact ⟨aM (by simpa using hr),X⟩
  obtain ⟨g,g0,g1,g2,g3,g4,g5,g6⟩:=m8_ G.lt (G.cell 0 rfl) (G.cell 1 rfl) (G.cell 2 rfl) (G.cell 3 rfl) (G.cell 4 rfl) (G.cell 5 rfl) (G.cell 6 rfl);have g7:=G.cell 7 rfl;have g8:=G.cell 8 rfl;go_wp2_with fail;refine r_ (iA _ _ _ _ _ _ Hb Ha HS H3 _) fun u3 zu3=>?_;go_wp2;go_ret;exact ⟨aM (by simpa using hr),X.trans zu3⟩
 ·rw [if_neg h2] at hr
  obtain ⟨b1,e1⟩:=e_ (dP ⟨ax,ay,az⟩ ⟨bx,by',bz⟩ ⟨sx,sy,0⟩)
  obtain ⟨b2,e2⟩:=e_ (dP ⟨bx,by',bz⟩ ⟨cx,cy,cz⟩ ⟨sx,sy,0⟩)
  obtain ⟨b3,e3⟩:=e_ (dP ⟨cx,cy,cz⟩ ⟨ax,ay,az⟩ ⟨sx,sy,0⟩)
  rw [e1,e2,e3] at hr;obtain ⟨H1,H2,H3⟩:=h3_ e1 e2 e3;clear e1 e2 e3;have X:=hid (X0.trans yN);clear yN X0 B0;obtain ⟨g,g0,g1,g2,g3,g4,g5,g6⟩:=m8_ G.lt (G.cell 0 rfl) (G.cell 1 rfl) (G.cell 2 rfl) (G.cell 3 rfl) (G.cell 4 rfl) (G.cell 5 rfl) (G.cell 6 rfl);have g7:=G.cell 7 rfl;have g8:=G.cell 8 rfl;go_wp2_with fail;refine r_ (iA _ _ _ _ _ _ Ha Hb HS H1 _) fun u1 zu1=>?_;replace G:=hid (G.ext zu1);replace X:=hid (X.trans zu1);clear g g0 g1 g2 g3 g4 g5 g6 g7 g8
  cases b1
  ·go_wp2
   go_ret;exact ⟨aM (by simpa using hr),X⟩
  obtain ⟨g,g0,g1,g2,g3,g4,g5,g6⟩:=m8_ G.lt (G.cell 0 rfl) (G.cell 1 rfl) (G.cell 2 rfl) (G.cell 3 rfl) (G.cell 4 rfl) (G.cell 5 rfl) (G.cell 6 rfl);have g7:=G.cell 7 rfl;have g8:=G.cell 8 rfl;go_wp2_with fail;refine r_ (iA _ _ _ _ _ _ Hb Hc HS H2 _) fun u2 zu2=>?_;replace G:=hid (G.ext zu2);replace X:=hid (X.trans zu2);clear g g0 g1 g2 g3 g4 g5 g6 g7 g8
  cases b2
  ·go_wp2
   go_ret;exact ⟨aM (by simpa using hr),X⟩
  obtain ⟨g,g0,g1,g2,g3,g4,g5,g6⟩:=m8_ G.lt (G.cell 0 rfl) (G.cell 1 rfl) (G.cell 2 rfl) (G.cell 3 rfl) (G.cell 4 rfl) (G.cell 5 rfl) (G.cell 6 rfl);have g7:=G.cell 7 rfl;have g8:=G.cell 8 rfl;go_wp2_with fail;refine r_ (iA _ _ _ _ _ _ Hc Ha HS H3 _) fun u3 zu3=>?_;go_wp2;go_ret;exact ⟨aM (by simpa using hr),X.trans zu3⟩
theorem aLw (ax ay az bx by' bz cx cy cz:Int) (ha:aU4 ⟨ax,ay,az⟩) (hb:aU4 ⟨bx,by',bz⟩) (hc:aU4 ⟨cx,cy,cz⟩) (hz:(-1000000<=az/\az<=1000000)/\(-1000000<=bz/\bz<=1000000)/\(-1000000<=cz/\cz<=1000000)) (sx sy:Int) (hs:aU4 ⟨sx,sy,0⟩) (hr:rP ⟨ax,ay,az⟩ ⟨bx,by',bz⟩ ⟨cx,cy,cz⟩ ⟨sx,sy,0⟩=false) (w:World) :
  R_ 100 #[.agg #[ax,ay,az,bx,by',bz,cx,cy,cz],sx,sy] w (.tuple #[(),.bool false]):=by
 have Ha:=aT ha;have Hb:=aT hb;have Hc:=aT hc;have Hz:=hid hz;have HS:=aT hs;have HR:=hid hr;clear ha hb hc hz hs hr;obtain ⟨B0,X0⟩:=h2_ ((aTm w 153 [ax,ay,az,bx,by',bz,cx,cy,cz]).ext (show Ext (w.alloc (.cells #[ax,ay,az,bx,by',bz,cx,cy,cz] 153)) (w.alloc (.cells #[ax,ay,az,bx,by',bz,cx,cy,cz] 153)) from X_)) (show Ext w (w.alloc (.cells #[ax,ay,az,bx,by',bz,cx,cy,cz] 153)) from X_);go_enter func100,ntmps100;go_wp2_with fail;refine r_ (wA _ _ _ _ _ _ _ _ _ Ha Hb Hc Hz _ _ HS HR _) fun w1 x1=>?_;go_wp2;exact bodyPost_ret (v:=.tuple #[(),.bool false]) (by simp [results,results100,go_sem, *]) rfl ⟨rfl,X0.trans x1⟩
theorem qD {a b s:V3} (ha:a.scr) (hb:b.scr) (hs:s.scr) : -100000000000<=aY a b s/\aY a b s<=100000000000:=by
 have h:=sV ha hb hs;unfold aY;omega
theorem aIw (ax ay az bx by' bz cx cy cz:Int) (ha:aU4 ⟨ax,ay,az⟩) (hb:aU4 ⟨bx,by',bz⟩) (hc:aU4 ⟨cx,cy,cz⟩) (hz:(-1000000<=az/\az<=1000000)/\(-1000000<=bz/\bz<=1000000)/\(-1000000<=cz/\cz<=1000000)) (sx sy:Int) (hs:aU4 ⟨sx,sy,0⟩) (hr:rP ⟨ax,ay,az⟩ ⟨bx,by',bz⟩ ⟨cx,cy,cz⟩ ⟨sx,sy,0⟩=true) (hd:eP ⟨ax,ay,az⟩ ⟨bx,by',bz⟩ ⟨cx,cy,cz⟩ ⟨sx,sy,0⟩=r) (w:World) :
  R_ 100 #[.agg #[ax,ay,az,bx,by',bz,cx,cy,cz],sx,sy] w (.tuple #[r,.bool true]):=by
 have Ha:=aT ha;have Hb:=aT hb;have Hc:=aT hc;have Hz:=hid hz;have HS:=aT hs;have HR:=hid hr;unfold eP at hd;simp only at hd
 obtain ⟨n,en⟩:=e_ (aY ⟨ax,ay,az⟩ ⟨bx,by',bz⟩ ⟨cx,cy,cz⟩)
 obtain ⟨s1,e1⟩:=e_ (aY ⟨bx,by',bz⟩ ⟨cx,cy,cz⟩ ⟨sx,sy,0⟩)
 obtain ⟨s2,e2⟩:=e_ (aY ⟨cx,cy,cz⟩ ⟨ax,ay,az⟩ ⟨sx,sy,0⟩)
 obtain ⟨s3,e3⟩:=e_ (aY ⟨ax,ay,az⟩ ⟨bx,by',bz⟩ ⟨sx,sy,0⟩)
 have gn:=qD ha hb hc;have g1:=qD hb hc hs;have g2:=qD hc ha hs;have g3:=qD ha hb hs;have h0:=aMh hr;rw [en,e1,e2,e3] at h0 hd;rw [en] at gn;rw [e1] at g1;rw [e2] at g2;rw [e3] at g3
 obtain ⟨an,fn⟩:=e_ (gK n)
 obtain ⟨a1,f1⟩:=e_ (gK s1)
 obtain ⟨a2,f2⟩:=e_ (gK s2)
 obtain ⟨a3,f3⟩:=e_ (gK s3)
 have k1:=(dU (x:=s1)).1;have k2:=(dU (x:=s2)).1;have k3:=(dU (x:=s3)).1
 have kn:an<=100000000000:=by
  rcases Int.le_total 0 n with h|h
  ·have:=(dU (x:=n)).2.1 h;omega
  ·have:=(dU (x:=n)).2.2 h;omega
 rw [fn,f1,f2,f3] at h0;rw [f1] at k1;rw [f2] at k2;rw [f3] at k3;rw [fn,f1,f2,f3] at hd
 obtain ⟨q1,i1⟩:=e_ (az*a1)
 obtain ⟨q2,i2⟩:=e_ (bz*a2)
 obtain ⟨q3,i3⟩:=e_ (cz*a3)
 have j1:=bK (A:=1000000) (B:=100000000000) (a:=az) (b:=a1) hz.1 (by omega);have j2:=bK (A:=1000000) (B:=100000000000) (a:=bz) (b:=a2) hz.2.1 (by omega);have j3:=bK (A:=1000000) (B:=100000000000) (a:=cz) (b:=a3) hz.2.2 (by omega);rw [i1] at j1 hd;rw [i2] at j2 hd;rw [i3] at j3 hd;obtain ⟨w1,w2,w3,w4,w5,I9,HN,H1,H2⟩:=h9_ (show wrap64 (az*a1)=q1 by rw [i1];exact aE (by omega) (by omega)) (show wrap64 (bz*a2)=q2 by rw [i2];exact aE (by omega) (by omega)) (show wrap64 (cz*a3)=q3 by rw [i3];exact aE (by omega) (by omega)) (show wrap64 (q1+q2)=q1+q2 from aE (by omega) (by omega)) (show wrap64 (q1+q2+q3)=q1+q2+q3 from aE (by omega) (by omega)) (show I64 (q1+q2+q3) from I64.of (m:=400000000000000000) (by omega) (by decide)) (show aY ⟨ax,ay,az⟩ ⟨bx,by',bz⟩ ⟨cx,cy,0⟩=n from en) e1 e2;obtain ⟨H3,FN,F1,F2,F3,GN,G1,G2,G3⟩:=h9_ e3 fn f1 f2 f3 gn g1 g2 g3;have HD:=hid hd;clear ha hb hc hz hs hr hd en e1 e2 e3 fn f1 f2 f3 gn g1 g2 g3 h0 i1 i2 i3 j1 j2 j3 k1 k2 k3 kn;obtain ⟨B0,X0⟩:=h2_ ((aTm w 153 [ax,ay,az,bx,by',bz,cx,cy,cz]).ext (show Ext (w.alloc (.cells #[ax,ay,az,bx,by',bz,cx,cy,cz] 153)) (w.alloc (.cells #[ax,ay,az,bx,by',bz,cx,cy,cz] 153)) from X_)) (show Ext w (w.alloc (.cells #[ax,ay,az,bx,by',bz,cx,cy,cz] 153)) from X_);go_enter func100,ntmps100;go_wp2_with fail;refine r_ (wA _ _ _ _ _ _ _ _ _ Ha Hb Hc Hz _ _ HS HR _) fun v1 x1=>?_;replace B0:=hid (B0.ext x1);replace X0:=hid (X0.trans x1);obtain ⟨p,p0,p1,p2,p3,p4,p5,p6⟩:=m8_ B0.lt (B0.cell 0 rfl) (B0.cell 1 rfl) (B0.cell 2 rfl) (B0.cell 3 rfl) (B0.cell 4 rfl) (B0.cell 5 rfl) (B0.cell 6 rfl);have p7:=B0.cell 7 rfl;have p8:=B0.cell 8 rfl;go_wp2_with fail;refine r_ (tR _ _ _ _ _ _ _ _ _ Ha Hb Hc Hz _) fun v2 x2=>?_;clear p p0 p1 p2 p3 p4 p5 p6 p7 p8;replace B0:=hid (B0.ext x2);replace X0:=hid (X0.trans x2);have G:=hid (aTm v2 151 [ax,ay,az,bx,by',bz,cx,cy,cz]);have yN:Ext v2 (v2.alloc (.cells #[ax,ay,az,bx,by',bz,cx,cy,cz] 151)):=X_;replace B0:=hid (B0.ext yN);replace X0:=hid (X0.trans yN);clear yN x1 x2;obtain ⟨p,p0,p1,p2,p3,p4,p5,p6⟩:=m8_ B0.lt (B0.cell 0 rfl) (B0.cell 1 rfl) (B0.cell 2 rfl) (B0.cell 3 rfl) (B0.cell 4 rfl) (B0.cell 5 rfl) (B0.cell 6 rfl);have p7:=B0.cell 7 rfl;have p8:=B0.cell 8 rfl;go_wp2_with fail;refine r_ (aCq _ _ _ _ _ _ _ _ _ Ha Hb Hc Hz HN _) fun v3 x3=>?_;replace G:=hid (G.ext x3);replace X0:=hid (X0.trans x3);clear p p0 p1 p2 p3 p4 p5 p6 p7 p8;go_wp2_with fail;refine z_ (tS GN FN _) ?_;obtain ⟨g,g0,g1,g2,g3,g4,g5,g6⟩:=m8_ G.lt (G.cell 0 rfl) (G.cell 1 rfl) (G.cell 2 rfl) (G.cell 3 rfl) (G.cell 4 rfl) (G.cell 5 rfl) (G.cell 6 rfl);have g7:=G.cell 7 rfl;have g8:=G.cell 8 rfl;go_wp2_with fail;refine r_ (jK _ _ _ _ _ _ Hb Hc HS H1 _) fun v5 x5=>?_;replace G:=hid (G.ext x5);replace X0:=hid (X0.trans x5);clear g g0 g1 g2 g3 g4 g5 g6 g7 g8;go_wp2_with fail;refine z_ (tS G1 F1 _) ?_;obtain ⟨g,g0,g1,g2,g3,g4,g5,g6⟩:=m8_ G.lt (G.cell 0 rfl) (G.cell 1 rfl) (G.cell 2 rfl) (G.cell 3 rfl) (G.cell 4 rfl) (G.cell 5 rfl) (G.cell 6 rfl);have g7:=G.cell 7 rfl;have g8:=G.cell 8 rfl;go_wp2_with fail;refine r_ (jK _ _ _ _ _ _ Hc Ha HS H2 _) fun v6 x6=>?_;replace G:=hid (G.ext x6);replace X0:=hid (X0.trans x6);clear g g0 g1 g2 g3 g4 g5 g6 g7 g8;go_wp2_with fail;refine z_ (tS G2 F2 _) ?_;obtain ⟨g,g0,g1,g2,g3,g4,g5,g6⟩:=m8_ G.lt (G.cell 0 rfl) (G.cell 1 rfl) (G.cell 2 rfl) (G.cell 3 rfl) (G.cell 4 rfl) (G.cell 5 rfl) (G.cell 6 rfl);have g7:=G.cell 7 rfl;have g8:=G.cell 8 rfl;go_wp2_with fail;refine r_ (jK _ _ _ _ _ _ Ha Hb HS H3 _) fun v7 x7=>?_;replace G:=hid (G.ext x7);replace X0:=hid (X0.trans x7);clear g g0 g1 g2 g3 g4 g5 g6 g7 g8;go_wp2_with fail;refine z_ (tS G3 F3 _) ?_;obtain ⟨g,g0,g1,g2,g3,g4,g5,g6,g7,g8,u1,u2⟩:=m12_ G.lt (G.cell 0 rfl) (G.cell 1 rfl) (G.cell 2 rfl) (G.cell 3 rfl) (G.cell 4 rfl) (G.cell 5 rfl) (G.cell 6 rfl) (G.cell 7 rfl) (G.cell 8 rfl) w1.out w2.out;have u3:=w3.out;have u4:=w4.out;have u5:=w5.out;go_wp2_with fail;refine z_ (aV I9 HD _) ?_;go_wp2;exact bodyPost_ret (v:=.tuple #[r,.bool true]) (by simp [results,results100,go_sem, *]) rfl ⟨rfl,X0⟩
theorem qE (x y z k l m t:Int) (ht:0<=t/\t<=16) (w:World) :
  R_ 204 #[.agg #[x,y,z],.agg #[k,l,m],t,.int .i64 16] w (.agg #[(hG x k t 16),(hG y l t 16),(hG z m t 16)]):=by
 obtain ⟨ux,h3⟩:=e_ (cl x)
 have h9:=cX x;rw [h3] at h9
 obtain ⟨uy,h4⟩:=e_ (cl y)
 have q4:=cX y;rw [h4] at q4
 obtain ⟨uz,h5⟩:=e_ (cl z)
 have q5:=cX z;rw [h5] at q5
 obtain ⟨uk,h0⟩:=e_ (cl k)
 have h6:=cX k;rw [h0] at h6
 obtain ⟨ul,h1⟩:=e_ (cl l)
 have h7:=cX l;rw [h1] at h7
 obtain ⟨um,h2⟩:=e_ (cl m)
 have h8:=cX m;rw [h2] at h8;have p0:=bK (A:=1000000) (B:=16) (a:=ux) (b:=16 - t) h9 (by omega)
 obtain ⟨q0,e0⟩:=e_ (ux*(16 - t))
 rw [e0] at p0;have r0:=bK (A:=1000000) (B:=16) (a:=uk) (b:=t) h6 (by omega)
 obtain ⟨s0,g0⟩:=e_ (uk*t)
 rw [g0] at r0
 obtain ⟨v0,q6⟩:=e_ (hG x k t 16)
 rw [q6];obtain ⟨F0,M0,N0,S0,I0⟩:=h5_ (show bY (q0+s0) 16=v0 by rw [<-q6];unfold hG;rw [h3,h0,e0,g0]) (show wrap64 (ux*(16 - t))=q0 by rw [e0];exact aE (by omega) (by omega)) (show wrap64 (uk*t)=s0 by rw [g0];exact aE (by omega) (by omega)) (show wrap64 (q0+s0)=q0+s0 from aE (by omega) (by omega)) (I64.of (n:=q0+s0) (m:=40000000) (by omega) (by decide));have p1:=bK (A:=1000000) (B:=16) (a:=uy) (b:=16 - t) q4 (by omega)
 obtain ⟨q1,e1⟩:=e_ (uy*(16 - t))
 rw [e1] at p1;have r1:=bK (A:=1000000) (B:=16) (a:=ul) (b:=t) h7 (by omega)
 obtain ⟨s1,g1⟩:=e_ (ul*t)
 rw [g1] at r1
 obtain ⟨v1,q7⟩:=e_ (hG y l t 16)
 rw [q7];obtain ⟨F1,M1,N1,S1,I1⟩:=h5_ (show bY (q1+s1) 16=v1 by rw [<-q7];unfold hG;rw [h4,h1,e1,g1]) (show wrap64 (uy*(16 - t))=q1 by rw [e1];exact aE (by omega) (by omega)) (show wrap64 (ul*t)=s1 by rw [g1];exact aE (by omega) (by omega)) (show wrap64 (q1+s1)=q1+s1 from aE (by omega) (by omega)) (I64.of (n:=q1+s1) (m:=40000000) (by omega) (by decide));have p2:=bK (A:=1000000) (B:=16) (a:=uz) (b:=16 - t) q5 (by omega)
 obtain ⟨q2,e2⟩:=e_ (uz*(16 - t))
 rw [e2] at p2;have r2:=bK (A:=1000000) (B:=16) (a:=um) (b:=t) h8 (by omega)
 obtain ⟨s2,g2⟩:=e_ (um*t)
 rw [g2] at r2
 obtain ⟨v2,q8⟩:=e_ (hG z m t 16)
 rw [q8];obtain ⟨F2,M2,N2,S2,I2,x5,x6,x7,q9⟩:=h9_ (show bY (q2+s2) 16=v2 by rw [<-q8];unfold hG;rw [h5,h2,e2,g2]) (show wrap64 (uz*(16 - t))=q2 by rw [e2];exact aE (by omega) (by omega)) (show wrap64 (um*t)=s2 by rw [g2];exact aE (by omega) (by omega)) (show wrap64 (q2+s2)=q2+s2 from aE (by omega) (by omega)) (I64.of (n:=q2+s2) (m:=40000000) (by omega) (by decide)) h3 h4 h5 h0;obtain ⟨x3,x4,T0⟩:=h3_ h1 h2 (show wrap64 (16 - t)=16 - t from aE (by omega) (by omega));clear h3 h9 h4 q4 h5 q5 h0 h6 h1 h7 h2 h8 p0 e0 r0 g0 q6 p1 e1 r1 g1 q7 p2 e2 r2 g2 q8;obtain ⟨J1,J2⟩:=h2_ (show inB 16 1 4096=true from rfl) (aG.2 (show (0:Int)<=t/\t<=16 from ht));clear ht;obtain ⟨B0,B1,B2,X0⟩:=h4_ ((aTm w 122 [x,y,z]).ext (show Ext (w.alloc (.cells #[x,y,z] 122)) (((w.alloc (.cells #[x,y,z] 122)).alloc (.cells #[k,l,m] 122)).alloc (.cells #[(),(),()] 122)) from X_)) (show Blk (((w.alloc (.cells #[x,y,z] 122)).alloc (.cells #[k,l,m] 122)).alloc (.cells #[(),(),()] 122)) (w.heap.size+1) 122 [k,l,m] from by have q:=(aTm (w.alloc (.cells #[x,y,z] 122)) 122 [k,l,m]).ext (show Ext ((w.alloc (.cells #[x,y,z] 122)).alloc (.cells #[k,l,m] 122)) (((w.alloc (.cells #[x,y,z] 122)).alloc (.cells #[k,l,m] 122)).alloc (.cells #[(),(),()] 122)) from X_);simp only [aTe] at q;exact q) (show Blk (((w.alloc (.cells #[x,y,z] 122)).alloc (.cells #[k,l,m] 122)).alloc (.cells #[(),(),()] 122)) (w.heap.size+2) 122 [(),(),()] from by have q:=(aTm ((w.alloc (.cells #[x,y,z] 122)).alloc (.cells #[k,l,m] 122)) 122 [(),(),()]).ext (show Ext (((w.alloc (.cells #[x,y,z] 122)).alloc (.cells #[k,l,m] 122)).alloc (.cells #[(),(),()] 122)) (((w.alloc (.cells #[x,y,z] 122)).alloc (.cells #[k,l,m] 122)).alloc (.cells #[(),(),()] 122)) from X_);simp only [aTe] at q;exact q) (show Ext w (((w.alloc (.cells #[x,y,z] 122)).alloc (.cells #[k,l,m] 122)).alloc (.cells #[(),(),()] 122)) from X_);go_enter func204,ntmps204;go_wp2_with fail;refine r_ (kG x5 x6 x7 _) fun w1 x1=>?_;replace B0:=hid (B0.ext x1);replace B1:=hid (B1.ext x1);replace B2:=hid (B2.ext x1);replace X0:=hid (X0.trans x1);have b:=B1.lt;obtain ⟨b0,b1,b2⟩:=B1.q3;have z1:=X0.size;go_wp2_with fail;refine r_ (kG q9 x3 x4 _) fun w2 x2=>?_;have D1:=(aTm w1 122 [ux,uy,uz]).ext x2;have y1:Ext w1 w2:=aTi X_ x2;clear b0 b1 b2 b;replace B0:=hid (B0.ext y1);replace B1:=hid (B1.ext y1);replace B2:=hid (B2.ext y1);replace X0:=hid (X0.trans y1);have a:=D1.lt;obtain ⟨a0,a1,a2⟩:=D1.q3;have r:=B2.lt;obtain ⟨r0,r1,r2⟩:=B2.q3;obtain ⟨x8,x9,z0,z2,z3⟩:=m5_ (B2.free 0) (B2.free 1) (B2.free 2) X0.size y1.size;have x0:=X0.out;clear D1 x2 y1 x1;go_wp2_with fail;refine z_ (aF J1 _) ?_;go_wp2_with fail;refine z_ (aF J2 _) ?_;obtain ⟨t0,m0,n0,z4,m1,n1,z5,m2⟩:=m8_ T0.out M0.out N0.out S0.out M1.out N1.out S1.out M2.out;have n2:=N2.out;have z6:=S2.out;go_wp2;refine aA [([0,1,2,3,4,5,6,7,8,9,10,11,13,14,15,16,17,18,19,20,21,22,23,24,26,27,28,29,30,31,32,33,34,35,36,37],12),([],25),([],38),([39],40)] 40 (w2.heap.size+1) ?_;refine st_ fun K hK=>?_;go_wp2_with fail;refine z_ (aV I0 F0 _) ?_;go_wp2;refine k_ hK (st_ fun K hK=>?_);go_wp2_with fail;refine z_ (aV I1 F1 _) ?_;go_wp2;refine k_ hK (st_ fun K hK=>?_);go_wp2_with fail;refine z_ (aV I2 F2 _) ?_;go_wp2;refine k_ hK (st_ fun K hK=>?_);go_wp2;refine l_ hK (aC ?_);clear hK K;go_wp2;exact bodyPost_ret (v:=.agg #[v0,v1,v2]) (by simp [results,results204,go_sem, *]) rfl ⟨rfl,S_⟩
def aSp (f g:Nat->Int) (t:Int) (j:Nat):List Value:=(aT3 12).map fun i=>.int .i64 (if i<3*j then aZ f g t i else f i)
theorem aNv (f g:Nat->Int) (t:Int) (ht:0<=t/\t<=16) (w:World) :
  R_ 149 #[.agg f,.agg g,t] w (.agg (aZ f g t)):=by
 obtain ⟨HT,J2⟩:=h2_ ht (aG.2 (show (0:Int)<=t/\t<=16 from ht));clear ht;obtain ⟨B0,B1,B2,B3,X0⟩:=h5_ ((aTm w 125 f).ext (show Ext (w.alloc (.cells f 125)) ((((w.alloc (.cells f 125)).alloc (.cells g 125)).alloc (.cells ((),(),()) 125)).alloc (.cells f 125)) from X_)) (show Blk ((((w.alloc (.cells f 125)).alloc (.cells g 125)).alloc (.cells ((),(),()) 125)).alloc (.cells f 125)) (w.heap.size+1) 125 g from by have q:=(aTm (w.alloc (.cells f 125)) 125 g).ext (show Ext ((w.alloc (.cells f 125)).alloc (.cells g 125)) ((((w.alloc (.cells f 125)).alloc (.cells g 125)).alloc (.cells ((),(),()) 125)).alloc (.cells f 125)) from X_);simp only [aTe] at q;exact q) (show Blk ((((w.alloc (.cells f 125)).alloc (.cells g 125)).alloc (.cells ((),(),()) 125)).alloc (.cells f 125)) (w.heap.size+2) 125 ((),(),()) from by have q:=(aTm ((w.alloc (.cells f 125)).alloc (.cells g 125)) 125 ((),(),())).ext (show Ext (((w.alloc (.cells f 125)).alloc (.cells g 125)).alloc (.cells ((),(),()) 125)) ((((w.alloc (.cells f 125)).alloc (.cells g 125)).alloc (.cells ((),(),()) 125)).alloc (.cells f 125)) from X_);simp only [aTe] at q;exact q) (show Blk ((((w.alloc (.cells f 125)).alloc (.cells g 125)).alloc (.cells ((),(),()) 125)).alloc (.cells f 125)) (w.heap.size+3) 125 f from by have q:=(aTm (((w.alloc (.cells f 125)).alloc (.cells g 125)).alloc (.cells ((),(),()) 125)) 125 f).ext (show Ext ((((w.alloc (.cells f 125)).alloc (.cells g 125)).alloc (.cells ((),(),()) 125)).alloc (.cells f 125)) ((((w.alloc (.cells f 125)).alloc (.cells g 125)).alloc (.cells ((),(),()) 125)).alloc (.cells f 125)) from X_);simp only [aTe] at q;exact q) (show Ext w ((((w.alloc (.cells f 125)).alloc (.cells g 125)).alloc (.cells ((),(),()) 125)).alloc (.cells f 125)) from X_);go_enter func149,ntmps149;go_wp2_with fail;refine z_ (aF J2 _) ?_;go_wp2_with fail
 obtain ⟨W,hW⟩:=e_ ((((w.alloc (.cells f 125)).alloc (.cells g 125)).alloc (.cells ((),(),()) 125)).alloc (.cells f 125))
 try simp only [aTe]
 rw [hW];rw [hW] at B0 B1 B2 B3 X0;clear hW
 go_loopw [14] (fun i wr=>∃j:Nat,j<=4/\i = .int .i64 (j:Nat)/\Ext w wr/\Blk wr w.heap.size 125 f/\Blk wr (w.heap.size+1) 125 g/\Blk wr (w.heap.size+2) 125 ((),(),())/\Blk wr (w.heap.size+3) 125 (aSp f g t j)) (fun i _=>4 - (intOf i).toNat)
 case atStart=>exact ⟨0,by omega,rfl,X0,B0,B1,B2,B3⟩
 case round=>
  obtain ⟨j,hj,rfl,hx,h0,h1,h2,h3⟩:=hrel;clear B0 B1 B2 B3 X0;obtain ⟨X0,B0,B1,B2,B3⟩:=h5_ hx h0 h1 h2 h3;clear hx h0 h1 h2 h3
  rcases (show j=0\/j=1\/j=2\/j=3\/j=4 by omega) with rfl|rfl|rfl|rfl|rfl
  rotate_left 4
  ·replace B3:=hid (show Blk wr (w.heap.size+3) 125 (aZ f g t) from B3)
   have p:=B3.lt;obtain ⟨p0,p1,p2,p3,p4,p5,p6,p7,p8,p9,z0,z1⟩:=B3.q12;have r:=B2.lt;obtain ⟨r0,r1,r2,r3,r4,r5,r6,r7,r8,r9,h6,h7⟩:=B2.q12;obtain ⟨h8,h9,x1,x2,x3,x4,x6,x7,x8,x9,h4,h5⟩:=m12_ (B2.free 0) (B2.free 1) (B2.free 2) (B2.free 3) (B2.free 4) (B2.free 5) (B2.free 6) (B2.free 7) (B2.free 8) (B2.free 9) (B2.free 10) (B2.free 11);have x0:=X0.out;go_wp2;exact bodyPost_ret (v:=.agg (aZ f g t)) (by simp [results,results149,go_sem, *]) rfl ⟨rfl,S_⟩
  focus
   replace B3:=hid (show Blk wr (w.heap.size+3) 125 f from B3)
  rotate_left
  focus
   replace B3:=hid (show Blk wr (w.heap.size+3) 125 [(aZ f g t 0),(aZ f g t 1),(aZ f g t 2),(f 3),(f 4),(f 5),(f 6),(f 7),(f 8),(f 9),(f 10),(f 11)] from B3)
  rotate_left
  focus
   replace B3:=hid (show Blk wr (w.heap.size+3) 125 [(aZ f g t 0),(aZ f g t 1),(aZ f g t 2),(aZ f g t 3),(aZ f g t 4),(aZ f g t 5),(f 6),(f 7),(f 8),(f 9),(f 10),(f 11)] from B3)
  rotate_left
  focus
   replace B3:=hid (show Blk wr (w.heap.size+3) 125 [(aZ f g t 0),(aZ f g t 1),(aZ f g t 2),(aZ f g t 3),(aZ f g t 4),(aZ f g t 5),(aZ f g t 6),(aZ f g t 7),(aZ f g t 8),(f 9),(f 10),(f 11)] from B3)
  rotate_left
  all_goals
   have p:=B0.lt
   obtain ⟨p0,p1,p2,p3,p4,p5,p6,p7,p8,p9,z0,z1⟩:=B0.q12
   have q:=B1.lt
   obtain ⟨q0,q1,q2,q3,q4,q5,q6,q7,q8,q9,z2,z4⟩:=B1.q12
   have r:=B3.lt
   obtain ⟨r0,r1,r2,r3,r4,r5,r6,r7,r8,r9,h6,h7⟩:=B3.q12
   obtain ⟨h8,h9,x1,x2,x3,x4,x6,x7,x8,x9,h4,h5⟩:=m12_ (B3.free 0) (B3.free 1) (B3.free 2) (B3.free 3) (B3.free 4) (B3.free 5) (B3.free 6) (B3.free 7) (B3.free 8) (B3.free 9) (B3.free 10) (B3.free 11);have zs:=X0.size;have z3:=B3.lt;go_wp2;refine aA [([0,1,2,3,4,5,6,7,8,9,11],10),([12],13)] 99 (w.heap.size+3) ?_;refine st_ fun K hK=>?_;go_wp2_with fail;refine r_ (qE _ _ _ _ _ _ t HT _) fun w5 x5=>?_
   have y5:Ext wr w5:=aTi (aUi (aTn _)) x5
   go_wp2;refine hK _ _ (.inr (fun k _ hk=>y5.block (by first|omega|(simp;omega)))) ?_
   clear hK K;clear r r0 r1 r2 r3 r4 r5 r6 r7 r8 r9 h6 h7 h8 h9 x1 x2 x3 x4 x6 x7 x8 x9 h4 h5;have C3:=B3.ext y5;have r:=C3.lt
   obtain ⟨r0,r1,r2,r3,r4,r5,r6,r7,r8,r9,h6,h7⟩:=C3.q12
   obtain ⟨h8,h9,x1,x2,x3,x4,x6,x7,x8,x9,h4,h5⟩:=m12_ (C3.free 0) (C3.free 1) (C3.free 2) (C3.free 3) (C3.free 4) (C3.free 5) (C3.free 6) (C3.free 7) (C3.free 8) (C3.free 9) (C3.free 10) (C3.free 11);refine st_ fun K hK=>?_;go_wp2_with fail
  ·obtain ⟨D,e0,e1,e2,ex⟩:=h5_ (((C3.set 0 (.int .i64 (aZ f g t 0))).set 1 (.int .i64 (aZ f g t 1))).set 2 (.int .i64 (aZ f g t 2))) (((B0.ext y5).ot ⟨w.heap.size+3,0,none⟩ (.int .i64 (aZ f g t 0))).ot ⟨w.heap.size+3,1,none⟩ (.int .i64 (aZ f g t 1)) |>.ot ⟨w.heap.size+3,2,none⟩ (.int .i64 (aZ f g t 2))) (((B1.ext y5).ot ⟨w.heap.size+3,0,none⟩ (.int .i64 (aZ f g t 0))).ot ⟨w.heap.size+3,1,none⟩ (.int .i64 (aZ f g t 1)) |>.ot ⟨w.heap.size+3,2,none⟩ (.int .i64 (aZ f g t 2))) (((B2.ext y5).ot ⟨w.heap.size+3,0,none⟩ (.int .i64 (aZ f g t 0))).ot ⟨w.heap.size+3,1,none⟩ (.int .i64 (aZ f g t 1)) |>.ot ⟨w.heap.size+3,2,none⟩ (.int .i64 (aZ f g t 2))) (aTu (aTu (aTu (X0.trans y5) (by simp) _) (by simp) _) (by simp) _:Ext w (((w5.setCell ⟨w.heap.size+3,0,none⟩ (aZ f g t 0)).setCell ⟨w.heap.size+3,1,none⟩ (aZ f g t 1)).setCell ⟨w.heap.size+3,2,none⟩ (aZ f g t 2)))
   refine hK _ _ (.inr (fun k _ hk=>by
    rw [aTo _ _ _ _ (by simp only;omega),aTo _ _ _ _ (by simp only;omega),aTo _ _ _ _ (by simp only;omega)]
    exact y5.block (by omega))) ?_
   clear hK K;refine aC ?_;go_wp2;go_roundw
   case rel=>exact ⟨1,by omega,by go_num,ex.out,e0.out,e1.out,e2.out,D⟩
   case measure=>simp [intOf]
  ·obtain ⟨D,e0,e1,e2,ex⟩:=h5_ (((C3.set 3 (.int .i64 (aZ f g t 3))).set 4 (.int .i64 (aZ f g t 4))).set 5 (.int .i64 (aZ f g t 5))) (((B0.ext y5).ot ⟨w.heap.size+3,3,none⟩ (.int .i64 (aZ f g t 3))).ot ⟨w.heap.size+3,4,none⟩ (.int .i64 (aZ f g t 4)) |>.ot ⟨w.heap.size+3,5,none⟩ (.int .i64 (aZ f g t 5))) (((B1.ext y5).ot ⟨w.heap.size+3,3,none⟩ (.int .i64 (aZ f g t 3))).ot ⟨w.heap.size+3,4,none⟩ (.int .i64 (aZ f g t 4)) |>.ot ⟨w.heap.size+3,5,none⟩ (.int .i64 (aZ f g t 5))) (((B2.ext y5).ot ⟨w.heap.size+3,3,none⟩ (.int .i64 (aZ f g t 3))).ot ⟨w.heap.size+3,4,none⟩ (.int .i64 (aZ f g t 4)) |>.ot ⟨w.heap.size+3,5,none⟩ (.int .i64 (aZ f g t 5))) (aTu (aTu (aTu (X0.trans y5) (by simp) _) (by simp) _) (by simp) _:Ext w (((w5.setCell ⟨w.heap.size+3,3,none⟩ (aZ f g t 3)).setCell ⟨w.heap.size+3,4,none⟩ (aZ f g t 4)).setCell ⟨w.heap.size+3,5,none⟩ (aZ f g t 5)))
   refine hK _ _ (.inr (fun k _ hk=>by
    rw [aTo _ _ _ _ (by simp only;omega),aTo _ _ _ _ (by simp only;omega),aTo _ _ _ _ (by simp only;omega)]
    exact y5.block (by omega))) ?_
   clear hK K;refine aC ?_;go_wp2;go_roundw
   case rel=>exact ⟨2,by omega,by go_num,ex.out,e0.out,e1.out,e2.out,D⟩
   case measure=>simp [intOf]
  ·obtain ⟨D,e0,e1,e2,ex⟩:=h5_ (((C3.set 6 (.int .i64 (aZ f g t 6))).set 7 (.int .i64 (aZ f g t 7))).set 8 (.int .i64 (aZ f g t 8))) (((B0.ext y5).ot ⟨w.heap.size+3,6,none⟩ (.int .i64 (aZ f g t 6))).ot ⟨w.heap.size+3,7,none⟩ (.int .i64 (aZ f g t 7)) |>.ot ⟨w.heap.size+3,8,none⟩ (.int .i64 (aZ f g t 8))) (((B1.ext y5).ot ⟨w.heap.size+3,6,none⟩ (.int .i64 (aZ f g t 6))).ot ⟨w.heap.size+3,7,none⟩ (.int .i64 (aZ f g t 7)) |>.ot ⟨w.heap.size+3,8,none⟩ (.int .i64 (aZ f g t 8))) (((B2.ext y5).ot ⟨w.heap.size+3,6,none⟩ (.int .i64 (aZ f g t 6))).ot ⟨w.heap.size+3,7,none⟩ (.int .i64 (aZ f g t 7)) |>.ot ⟨w.heap.size+3,8,none⟩ (.int .i64 (aZ f g t 8))) (aTu (aTu (aTu (X0.trans y5) (by simp) _) (by simp) _) (by simp) _:Ext w (((w5.setCell ⟨w.heap.size+3,6,none⟩ (aZ f g t 6)).setCell ⟨w.heap.size+3,7,none⟩ (aZ f g t 7)).setCell ⟨w.heap.size+3,8,none⟩ (aZ f g t 8)))
   refine hK _ _ (.inr (fun k _ hk=>by
    rw [aTo _ _ _ _ (by simp only;omega),aTo _ _ _ _ (by simp only;omega),aTo _ _ _ _ (by simp only;omega)]
    exact y5.block (by omega))) ?_
   clear hK K;refine aC ?_;go_wp2;go_roundw
   case rel=>exact ⟨3,by omega,by go_num,ex.out,e0.out,e1.out,e2.out,D⟩
   case measure=>simp [intOf]
  ·obtain ⟨D,e0,e1,e2,ex⟩:=h5_ (((C3.set 9 (.int .i64 (aZ f g t 9))).set 10 (.int .i64 (aZ f g t 10))).set 11 (.int .i64 (aZ f g t 11))) (((B0.ext y5).ot ⟨w.heap.size+3,9,none⟩ (.int .i64 (aZ f g t 9))).ot ⟨w.heap.size+3,10,none⟩ (.int .i64 (aZ f g t 10)) |>.ot ⟨w.heap.size+3,11,none⟩ (.int .i64 (aZ f g t 11))) (((B1.ext y5).ot ⟨w.heap.size+3,9,none⟩ (.int .i64 (aZ f g t 9))).ot ⟨w.heap.size+3,10,none⟩ (.int .i64 (aZ f g t 10)) |>.ot ⟨w.heap.size+3,11,none⟩ (.int .i64 (aZ f g t 11))) (((B2.ext y5).ot ⟨w.heap.size+3,9,none⟩ (.int .i64 (aZ f g t 9))).ot ⟨w.heap.size+3,10,none⟩ (.int .i64 (aZ f g t 10)) |>.ot ⟨w.heap.size+3,11,none⟩ (.int .i64 (aZ f g t 11))) (aTu (aTu (aTu (X0.trans y5) (by simp) _) (by simp) _) (by simp) _:Ext w (((w5.setCell ⟨w.heap.size+3,9,none⟩ (aZ f g t 9)).setCell ⟨w.heap.size+3,10,none⟩ (aZ f g t 10)).setCell ⟨w.heap.size+3,11,none⟩ (aZ f g t 11)))
   refine hK _ _ (.inr (fun k _ hk=>by
    rw [aTo _ _ _ _ (by simp only;omega),aTo _ _ _ _ (by simp only;omega),aTo _ _ _ _ (by simp only;omega)]
    exact y5.block (by omega))) ?_
   clear hK K;refine aC ?_;go_wp2;go_roundw
   case rel=>exact ⟨4,by omega,by go_num,ex.out,e0.out,e1.out,e2.out,D⟩
   case measure=>simp [intOf]
theorem aAf (f g:Nat->Int) (sh rt t:Int) (ht:0<=t/\t<=16) (w:World) :
  R_ 99 #[.agg (gA_ f g sh rt),t] w (.agg (aZ f g t)):=by
 have HT:=hid ht;clear ht;obtain ⟨B0,B1,X0⟩:=h3_ ((aTm w 127 (gL_ f g sh rt)).ext (show Ext (w.alloc (.cells (gA_ f g sh rt) 127)) ((w.alloc (.cells (gA_ f g sh rt) 127)).alloc (.cells ((),(),()) 125)) from X_)) (show Blk ((w.alloc (.cells (gA_ f g sh rt) 127)).alloc (.cells ((),(),()) 125)) (w.heap.size+1) 125 ((),(),()) from by have q:=(aTm (w.alloc (.cells (gA_ f g sh rt) 127)) 125 ((),(),())).ext (show Ext ((w.alloc (.cells (gA_ f g sh rt) 127)).alloc (.cells ((),(),()) 125)) ((w.alloc (.cells (gA_ f g sh rt) 127)).alloc (.cells ((),(),()) 125)) from X_);simp only [aTe] at q;exact q) (show Ext w ((w.alloc (.cells (gA_ f g sh rt) 127)).alloc (.cells ((),(),()) 125)) from X_);go_enter func99,ntmps99;go_wp2_with fail;refine r_ (aNv f g t HT _) fun w1 x1=>?_;replace B1:=hid (B1.ext x1);replace X0:=hid (X0.trans x1);have r:=B1.lt;obtain ⟨r0,r1,r2,r3,r4,r5,r6,r7,r8,r9,h2,h3⟩:=B1.q12;obtain ⟨h4,h5,h6,h7,h8,h9,q0,q1,q2,q3,h0,h1⟩:=m12_ (B1.free 0) (B1.free 1) (B1.free 2) (B1.free 3) (B1.free 4) (B1.free 5) (B1.free 6) (B1.free 7) (B1.free 8) (B1.free 9) (B1.free 10) (B1.free 11);have x0:=X0.out;go_wp2;exact bodyPost_ret (v:=.agg (aZ f g t)) (by simp [results,results99,go_sem, *]) rfl ⟨rfl,S_⟩
theorem oA {c:Cam} (h:c.prB ⟨x,y,z⟩ lx ly=true) (hp:c.pr ⟨x,y,z⟩ lx ly=⟨a,b,d⟩) (w:World) :
  R_ 203 #[.agg c,.agg #[x,y,z],lx,ly] w (.tuple #[.agg #[a,b,d],.bool true]):=by
 have:=aEc c x y z lx ly h w;rw [hp] at this;exact this
theorem oB {c:Cam} (h:c.prB ⟨x,y,z⟩ lx ly=false) (w:World) :
  R_ 203 #[.agg c,.agg #[x,y,z],lx,ly] w (.tuple #[.agg #[(),(),()],.bool false]):=aGi c x y z lx ly h w
theorem qF {i' j' n X Y Z:Int} (e1:i'=i) (e2:j'=j) (h:evP f i j n=⟨X,Y,Z⟩) (hn:1<=n/\n<=64) (hi:0<=i/\i<=n) (hj:0<=j/\j<=n) (w:World) :
  R_ 192 #[.agg f,i',j',n] w (.agg #[X,Y,Z]):=by
 subst e1 e2;exact zY h hn hi hj w
def crn (c:Cam) (f:Nat->Int) (n:Nat) (s:Smp) (u v q:Nat):V3:=dJ c f n s (u+q % 2) (v+q / 2)
def aIx (c:Cam) (f:Nat->Int) (n:Nat) (s:Smp) (u v q:Nat):Bool:=mO c f n s (u+q % 2) (v+q / 2)
theorem aPp {c:Cam} {s:Smp} {v:Nat} (h:∀q,q<4->aIx c f n s u v q=true):mP c f n s u v=true:=by
 have h0:=h 0 (by decide);have h1:=h 1 (by decide);have h2:=h 2 (by decide);have h3:=h 3 (by decide);unfold mP;simp only [aTs];exact ⟨⟨⟨h0,h1⟩,h2⟩,h3⟩
theorem aNw {c:Cam} {s:Smp} {v:Nat} (hq:q<4) (h:aIx c f n s u v q=false):mP c f n s u v=false:=
 aJn (i:=q % 2) (j:=q / 2) (by omega) (by omega) h
theorem aJm.rd {c:Cam} {s:Smp} {v:Nat} {r:Value} (h:aJm c f n s u v lo w r):Rd Mc.cs lo w.heap.size w r (gO c f n s u v):=by
 rcases h with ⟨hd,rfl⟩|⟨hd,g,hl,rfl,hb⟩
 ·unfold gO
  rw [if_neg (by rw [hd];exact Bool.false_ne_true)];exact Rd.nil _ _ _ _
 ·unfold gO
  rw [if_pos hd];refine ⟨some ⟨g,0,none⟩,2,rfl,aTc _,by omega,(fun e=>nomatch e),.inr ⟨g,0,rfl,hl,hb.lt,fun j u hj=>?_⟩⟩;rw [aUa];exact hb.cell j hj
theorem aBq (c:Cam) (f:Nat->Int) (n:Nat) (s:Smp) (u v:Nat) (hn:1<=n/\n<=64) (hu:u<n) (hv:v<n) (w:World) :
  Calls aTg 148 #[.agg c,.agg f,(u:Nat),(v:Nat),(n:Nat),s.lx,s.ly] w fun e w'=>∃r,e = .returned r/\aJm c f n s u v w.heap.size w' r/\Ext w w':=by
 obtain ⟨J1,J2,J3,N0,HN,HU,HV⟩:=h7_ (aG.2 (show (1:Int)<=(n:Int)/\(n:Int)<=64 by omega)) (aG.2 (show (0:Int)<=(u:Int)/\(u:Int)<=(n:Int) - 1 by omega)) (aG.2 (show (0:Int)<=(v:Int)/\(v:Int)<=(n:Int) - 1 by omega)) (show wrap64 ((n:Int) - 1)=(n:Int) - 1 from aE (by omega) (by omega)) hn hu hv;clear hn hu hv;obtain ⟨B0,B1,X0⟩:=h3_ ((aTm w 35 c).ext (show Ext (w.alloc (.cells c 35)) ((w.alloc (.cells c 35)).alloc (.cells f 125)) from X_)) (show Blk ((w.alloc (.cells c 35)).alloc (.cells f 125)) (w.heap.size+1) 125 f from by have q:=(aTm (w.alloc (.cells c 35)) 125 f).ext (show Ext ((w.alloc (.cells c 35)).alloc (.cells f 125)) ((w.alloc (.cells c 35)).alloc (.cells f 125)) from X_);simp only [aTe] at q;exact q) (show Ext w ((w.alloc (.cells c 35)).alloc (.cells f 125)) from X_);have n0:=N0.out;go_enter func148,ntmps148;go_wp2_with fail;refine z_ (aF J1 _) ?_;go_wp2_with fail;refine z_ (aF J2 _) ?_;go_wp2_with fail;refine z_ (aF J3 _) ?_;clear n0;go_upto_region 4 with fail
 obtain ⟨W,hW⟩:=e_ (((w.alloc (.cells c 35)).alloc (.cells f 125)).alloc (.cells #[] 122))
 have OW:aD wH (w.heap.size+2) 122 3 (((w.alloc (.cells c 35)).alloc (.cells f 125)).alloc (.cells #[] 122)) (.slice (some ⟨w.heap.size+2,0,none⟩) 0 0) []:=aD.fresh0 (aTc _) (by have q:=aTm ((w.alloc (.cells c 35)).alloc (.cells f 125)) 122 [];simp only [aTe] at q;exact q);have YW:Ext ((w.alloc (.cells c 35)).alloc (.cells f 125)) (((w.alloc (.cells c 35)).alloc (.cells f 125)).alloc (.cells #[] 122)):=X_;replace B0:=hid (B0.ext YW);replace B1:=hid (B1.ext YW);replace X0:=hid (X0.trans YW);clear YW
 try simp only [aTe]
 rw [hW];rw [hW] at B0 B1 X0 OW;have OO:=hid OW;clear hW OW;go_wp2
 go_loopw [15,16] (fun l i wr=>∃j:Nat,j<=4/\i = .int .i64 (j:Nat)/\(∀q,q<j->aIx c f n s u v q=true)/\Ext w wr/\Blk wr w.heap.size 35 c/\Blk wr (w.heap.size+1) 125 f/\aD wH (w.heap.size+2) 122 3 wr l ((aT3 j).map (crn c f n s u v))) (fun _ i _=>4 - (intOf i).toNat)
 case atStart=>exact ⟨0,by omega,rfl,(fun q h=>absurd h (by omega)),X0,B0,B1,OO⟩
 case round=>
  obtain ⟨j,hj,rfl,y8,hx,h0,h1,ho⟩:=hrel;clear B0 B1 X0 OO;obtain ⟨X0,B0,B1,OO,HA⟩:=h5_ hx h0 h1 ho y8;clear hx h0 h1 ho y8
  rcases aUc j 4 with hlt|hge
  ·obtain ⟨a,ha⟩:=e_ (j % 2:Nat)
   obtain ⟨b,hb⟩:=e_ (j / 2:Nat)
   have b8:a<2:=by omega
   have b9:b<2:=by omega
   have c6:=HU.out;have c7:=HV.out;have c5:=HN.out;obtain ⟨N2,N3,T1,T2,R1,R2,y5⟩:=h7_ (show (0:Int)<=(u:Int)+(a:Int)/\(u:Int)+(a:Int)<=(n:Int) by omega) (show (0:Int)<=(v:Int)+(b:Int)/\(v:Int)+(b:Int)<=(n:Int) by omega) (show Int.tmod (j:Int) 2=(a:Int) by rw [aVu (by omega)];omega) (show bCb (j:Int) 2=(b:Int) by rw [aVi (by omega)];omega) (show wrap64 ((u:Int)+(a:Int))=(u:Int)+(a:Int) from aE (by omega) (by omega)) (show wrap64 ((v:Int)+wrap64 (b:Int))=(v:Int)+(b:Int) by rw [aE (n:=(b:Int)) (by omega) (by omega)];exact aE (by omega) (by omega)) (And.intro ha hb);have a6:decide ((j:Int)<4)=true:=decide_eq_true (by omega);clear ha hb c6 c7 c5 b8 b9
   obtain ⟨X,Y,Z,hE⟩:∃X Y Z,evP f ((u:Int)+(a:Int)) ((v:Int)+(b:Int)) (n:Int)=⟨X,Y,Z⟩:=⟨_,_,_,rfl⟩
   obtain ⟨y4,N1⟩:=h2_ hE (aQs HN);have ZW:=X0.size;have a9:=hid hlt;clear hE;have t1:=T1.out;have t2:=T2.out;have p:=B0.lt;obtain ⟨p0,p1,p2,p3,p4,p5,p6⟩:=B0.q7;have q:=B1.lt;obtain ⟨q0,q1,q2,q3,q4,q5,q6,q7,q8,q9,e6,e7⟩:=B1.q12;go_upto_region 7 with fail;clear a6
   cases hb:c.prB ⟨X,Y,Z⟩ s.lx s.ly
   ·have HB:=hid hb
    clear hb;refine dO 20 wr.heap.size ?_;refine z2_ (fuel:=7) [0,1,2,3,4,5,6,7,8,9,10,12,13] 11 18 (fun b _ hb=>rfl) (fun K hK=>?n2) fun K hK=>?n3
    case' n2=>
     clear t1 t2;go_wp2_with fail;refine r_ (qF R1 R2 y4 N1 N2 N3 _) fun a0 y0=>?_;have u0:Ext wr a0:=aTi X_ y0;go_wp2;refine k_ hK ?_;clear hK K;refine z2_ (fuel:=6) [] 14 18 (fun b _ hb=>aTq u0 (by omega)) (fun K hK=>?n4) fun K hK=>?n5
     case' n4=>
      go_wp2_with fail;refine r_ (oB HB _) fun a01 y01=>?_;have a1:Ext wr a01:=aTi X_ y01;go_wp2;refine k_ hK ?_;clear hK K;refine z1_ (fuel:=2) [15,16,17] 18 (fun b _ hb=>aTq a1 (by omega)) fun K hK=>?_;go_wp2;have h7:wr.heap.size<=a01.heap.size:=a1.size;refine k_ hK ?_;clear hK K
      obtain ⟨h4,h3⟩:=i_ (a01.alloc (.cells #[(),(),()] 122))
      rw [<-h3]
      have x8:Ext wr h4:=by rw [h3];exact X_
      have h9:Blk h4 a01.heap.size 122 [(),(),()]:=h3▸aTm _ _ _;clear h3;refine z1_ (fuel:=1) [] 19 (fun b _ hb=>aTq x8 (by omega)) fun K hK=>?_
     case' n5=>
      go_wp2;have x6:wr.heap.size<=a0.heap.size:=u0.size;refine k_ hK ?_;clear hK K
      obtain ⟨y6,h6⟩:=i_ (a0.alloc (.cells #[(),(),()] 122))
      rw [<-h6]
      have a7:Ext wr y6:=by rw [h6];exact X_
      have a3:Blk y6 a0.heap.size 122 [(),(),()]:=h6▸aTm _ _ _;clear h6;refine z1_ (fuel:=5) [] 14 (fun b _ hb=>aTq a7 (by omega)) fun K hK=>?_;go_wp2_with fail;refine r_ (oB HB _) fun a0A1 y0A1=>?_;have x9:Ext wr a0A1:=aTi X_ y0A1;have x4:=a3.ext y0A1;go_wp2;refine k_ hK ?_;clear hK K;refine z1_ (fuel:=1) [15,16,17] 19 (fun b _ hb=>aTq x9 (by omega)) fun K hK=>?_
    case' n3=>
     clear t1 t2;go_wp2;have y7:wr.heap.size<=wr.heap.size:=aTc _;refine k_ hK ?_;clear hK K
     obtain ⟨dA,z8⟩:=i_ ((wr.alloc (.cells #[(),(),()] 122)).drew)
     rw [<-z8]
     have uA:Ext wr dA:=by rw [z8];exact X_
     have bA:Blk dA wr.heap.size 122 [(),(),()]:=z8▸(aTm _ _ _).ext (aUi (aTn _));clear z8;refine z1_ (fuel:=6) [] 11 (fun b _ hb=>aTq uA (by omega)) fun K hK=>?_;go_wp2_with fail;refine r_ (qF R1 R2 y4 N1 N2 N3 _) fun aA0 yA0=>?_;have a8:Ext wr aA0:=aTi X_ yA0;have a4:=bA.ext yA0;go_wp2;refine k_ hK ?_;clear hK K;refine z1_ (fuel:=5) [] 14 (fun b _ hb=>aTq a8 (by omega)) fun K hK=>?_;go_wp2_with fail;refine r_ (oB HB _) fun aA01 yA01=>?_;have z7:Ext wr aA01:=aTi X_ yA01;have x5:=a4.ext yA01;go_wp2;refine k_ hK ?_;clear hK K;refine z1_ (fuel:=1) [15,16,17] 19 (fun b _ hb=>aTq z7 (by omega)) fun K hK=>?_
    all_goals
     rename World=>wq;rename Blk wq _ _ _=>hY;rename Ext wr wq=>hU;rename (wr.heap.size<=_)=>hL0;obtain ⟨A,hA⟩:=a_ hY
     have hL:wr.heap.size<=A:=by omega
     rw [hA] at hY ⊢;clear hA hL0
     obtain ⟨z0,z1,z2,z3,z4,z5,z6⟩:=oG hY;go_wp2;have x7:=hL;refine hK _ _ (.inr (fun b _ hb=>aTq (w:=wr) S_ (by omega))) ?_;clear hK K;refine z1_ (fuel:=0) [] 20 (fun b _ hb=>aTq (w:=wr) S_ (by omega)) fun K hK=>?_;go_wp2;refine l_ hK (cF ?_);clear hK K;have h2:=hL;have hE:Ext wr (((wq.setCell ⟨A,0,none⟩ ()).setCell ⟨A,1,none⟩ ()).setCell ⟨A,2,none⟩ ()):=aTu (aTu (aTu hU h2 _) h2 _) h2 _
     have h5:Blk (((wq.setCell ⟨A,0,none⟩ ()).setCell ⟨A,1,none⟩ ()).setCell ⟨A,2,none⟩ ()) (A) 122 [(),(),()]:=(((hY.set 0 (.int .i64 0)).set 1 (.int .i64 0)).set 2 (.int .i64 0))
     clear z0 z1 z2 z3 z4 z5 z6
     obtain ⟨wx,h8⟩:=e_ (((wq.setCell ⟨A,0,none⟩ ()).setCell ⟨A,1,none⟩ ()).setCell ⟨A,2,none⟩ ())
     rw [h8] at hE h5 ⊢;clear h8
     have y9:aIx c f n s u v j=false:=by unfold aIx mO;rw [y5.1,y5.2,aVs,aVs,y4];exact HB
     obtain ⟨a5,a2⟩:=h2_ (X0.trans hE) y9;clear hE y9;go_wp2;go_ret;exact ⟨_,rfl,.inl ⟨aNw a9 a2,rfl⟩,a5.out⟩
   ·have HB:=hid hb
    obtain ⟨x1,x2,x3,hP⟩:∃a b d,c.pr ⟨X,Y,Z⟩ s.lx s.ly=⟨a,b,d⟩:=⟨_,_,_,rfl⟩
    have HP:=hid hP;clear hb hP;refine dO 20 wr.heap.size ?_;refine z2_ (fuel:=7) [0,1,2,3,4,5,6,7,8,9,10,12,13] 11 18 (fun b _ hb=>rfl) (fun K hK=>?p2) fun K hK=>?p3
    case' p2=>
     clear t1 t2;go_wp2_with fail;refine r_ (qF R1 R2 y4 N1 N2 N3 _) fun a0 y0=>?_;have u0:Ext wr a0:=aTi X_ y0;go_wp2;refine k_ hK ?_;clear hK K;refine z2_ (fuel:=6) [] 14 18 (fun b _ hb=>aTq u0 (by omega)) (fun K hK=>?p4) fun K hK=>?p5
     case' p4=>
      go_wp2_with fail;refine r_ (oA HB HP _) fun a01 y01=>?_;have a1:Ext wr a01:=aTi X_ y01;go_wp2;refine k_ hK ?_;clear hK K;refine z1_ (fuel:=2) [15,16,17] 18 (fun b _ hb=>aTq a1 (by omega)) fun K hK=>?_;go_wp2;have h7:wr.heap.size<=a01.heap.size:=a1.size;refine k_ hK ?_;clear hK K
      obtain ⟨h4,h3⟩:=i_ (a01.alloc (.cells #[(),(),()] 122))
      rw [<-h3]
      have x8:Ext wr h4:=by rw [h3];exact X_
      have h9:Blk h4 a01.heap.size 122 [(),(),()]:=h3▸aTm _ _ _;clear h3;refine z1_ (fuel:=1) [] 19 (fun b _ hb=>aTq x8 (by omega)) fun K hK=>?_
     case' p5=>
      go_wp2;have x6:wr.heap.size<=a0.heap.size:=u0.size;refine k_ hK ?_;clear hK K
      obtain ⟨y6,h6⟩:=i_ (a0.alloc (.cells #[(),(),()] 122))
      rw [<-h6]
      have a7:Ext wr y6:=by rw [h6];exact X_
      have a3:Blk y6 a0.heap.size 122 [(),(),()]:=h6▸aTm _ _ _;clear h6;refine z1_ (fuel:=5) [] 14 (fun b _ hb=>aTq a7 (by omega)) fun K hK=>?_;go_wp2_with fail;refine r_ (oA HB HP _) fun a0A1 y0A1=>?_;have x9:Ext wr a0A1:=aTi X_ y0A1;have x4:=a3.ext y0A1;go_wp2;refine k_ hK ?_;clear hK K;refine z1_ (fuel:=1) [15,16,17] 19 (fun b _ hb=>aTq x9 (by omega)) fun K hK=>?_
    case' p3=>
     clear t1 t2;go_wp2;have y7:wr.heap.size<=wr.heap.size:=aTc _;refine k_ hK ?_;clear hK K
     obtain ⟨dA,z8⟩:=i_ ((wr.alloc (.cells #[(),(),()] 122)).drew)
     rw [<-z8]
     have uA:Ext wr dA:=by rw [z8];exact X_
     have bA:Blk dA wr.heap.size 122 [(),(),()]:=z8▸(aTm _ _ _).ext (aUi (aTn _));clear z8;refine z1_ (fuel:=6) [] 11 (fun b _ hb=>aTq uA (by omega)) fun K hK=>?_;go_wp2_with fail;refine r_ (qF R1 R2 y4 N1 N2 N3 _) fun aA0 yA0=>?_;have a8:Ext wr aA0:=aTi X_ yA0;have a4:=bA.ext yA0;go_wp2;refine k_ hK ?_;clear hK K;refine z1_ (fuel:=5) [] 14 (fun b _ hb=>aTq a8 (by omega)) fun K hK=>?_;go_wp2_with fail;refine r_ (oA HB HP _) fun aA01 yA01=>?_;have z7:Ext wr aA01:=aTi X_ yA01;have x5:=a4.ext yA01;go_wp2;refine k_ hK ?_;clear hK K;refine z1_ (fuel:=1) [15,16,17] 19 (fun b _ hb=>aTq z7 (by omega)) fun K hK=>?_
    all_goals
     rename World=>wq;rename Blk wq _ _ _=>hY;rename Ext wr wq=>hU;rename (wr.heap.size<=_)=>hL0;obtain ⟨A,hA⟩:=a_ hY
     have hL:wr.heap.size<=A:=by omega
     rw [hA] at hY ⊢;clear hA hL0
     obtain ⟨z0,z1,z2,z3,z4,z5,z6⟩:=oG hY;go_wp2;have x7:=hL;refine hK _ _ (.inr (fun b _ hb=>aTq (w:=wr) S_ (by omega))) ?_;clear hK K;refine z1_ (fuel:=0) [] 20 (fun b _ hb=>aTq (w:=wr) S_ (by omega)) fun K hK=>?_;go_wp2;refine l_ hK (cF ?_);clear hK K;have h2:=hL;have hE:Ext wr (((wq.setCell ⟨A,0,none⟩ x1).setCell ⟨A,1,none⟩ x2).setCell ⟨A,2,none⟩ x3):=aTu (aTu (aTu hU h2 _) h2 _) h2 _
     have h5:Blk (((wq.setCell ⟨A,0,none⟩ x1).setCell ⟨A,1,none⟩ x2).setCell ⟨A,2,none⟩ x3) (A) 122 [x1,x2,x3]:=(((hY.set 0 (.int .i64 x1)).set 1 (.int .i64 x2)).set 2 (.int .i64 x3))
     clear z0 z1 z2 z3 z4 z5 z6
     obtain ⟨wx,h8⟩:=e_ (((wq.setCell ⟨A,0,none⟩ x1).setCell ⟨A,1,none⟩ x2).setCell ⟨A,2,none⟩ x3)
     rw [h8] at hE h5 ⊢;clear h8
     have b1:crn c f n s u v j=⟨x1,x2,x3⟩:=by unfold crn dJ;rw [y5.1,y5.2,aVs,aVs,y4];exact HP
     have y9:aIx c f n s u v j=true:=by unfold aIx mO;rw [y5.1,y5.2,aVs,aVs,y4];exact HB
     obtain ⟨b2,a2,a5,C0,C1,O2⟩:=h6_ b1 y9 (X0.trans hE) (B0.ext hE) (B1.ext hE) (OO.ext hE);have zx:=hE.size;clear hE b1 y9;have y:=h5.lt;obtain ⟨y0,y1,y2⟩:=h5.q3;obtain ⟨c8,LL⟩:=h2_ h5 (show ((aT3 j).map (crn c f n s u v)).length<1000000 by have:=a9.out;simp;omega);clear h5;go_wp2_with (at_builtin;refine mT _ rfl _ _ rfl (w.heap.size+2) _ _ rfl (aD.ext O2 X_) ⟨x1,x2,x3⟩ wx.heap.size rfl (aJl wx x1 x2 x3) LL (by simp;omega) ?_;intro v8 w8 hown hg);have xe:Ext wx (wx.alloc (.cells #[x1,x2,x3] 122)):=X_;have z9:=aD.rowE (aD.ext O2 xe);obtain ⟨R0,R1,RX,RO⟩:=h4_ ((C0.ext xe).grown hg (fun e=>by have h1:=(z9 _ e.symm).1;omega)) ((C1.ext xe).grown hg (fun e=>by have h1:=(z9 _ e.symm).1;omega)) (aUo (a5.out.trans xe) hg (fun k e=>by have h1:=(z9 k e).1;omega)) hown;clear hown hg z9 xe;go_wp2;go_roundw
     case rel=>
      refine ⟨j+1,by omega,by go_num,?_,RX,R0,R1,?_⟩
      ·intro q hq
       rcases aUc q j with h|h
       ·exact HA q h
       ·obtain rfl:q=j:=by omega
        exact a2
      ·rw [aVx,aVq,aXm,b2]
       exact RO
     case measure=>simp [intOf];omega
  ·obtain rfl:j=4:=by omega
   have c4:=hid (aPp (fun q hq=>HA q hq));have hI:=OO.out;rw [show (aT3 4).map (crn c f n s u v)=[crn c f n s u v 0,crn c f n s u v 1,crn c f n s u v 2,crn c f n s u v 3] from rfl] at hI
   obtain ⟨⟨x0,y0,s0⟩,e0⟩:∃p,crn c f n s u v 0=p:=⟨_,rfl⟩
   rw [e0] at hI;have b3:=hid e0
   obtain ⟨⟨x1,y1,s1⟩,e1⟩:∃p,crn c f n s u v 1=p:=⟨_,rfl⟩
   rw [e1] at hI;have b4:=hid e1
   obtain ⟨⟨x2,y2,s2⟩,e2⟩:∃p,crn c f n s u v 2=p:=⟨_,rfl⟩
   rw [e2] at hI;have b5:=hid e2
   obtain ⟨⟨x3,y3,s3⟩,e3⟩:∃p,crn c f n s u v 3=p:=⟨_,rfl⟩
   rw [e3] at hI;have b6:=hid e3;obtain ⟨g,tc,rfl,gl,gw,b0,c9,-,c0⟩:=aD.at hI (fun _=>rfl) (i:=0) rfl;obtain ⟨g1,e8,he,-,-,-,-,-,c1⟩:=aD.at hI (fun _=>rfl) (i:=1) rfl;simp only [aTw,aTf,aUj,and_true,true_and] at he;obtain ⟨rfl,rfl⟩:=he;obtain ⟨g2,e9,he,-,-,-,-,-,c2⟩:=aD.at hI (fun _=>rfl) (i:=2) rfl;simp only [aTw,aTf,aUj,and_true,true_and] at he;obtain ⟨rfl,rfl⟩:=he;obtain ⟨g3,g0,he,-,-,-,-,-,c3⟩:=aD.at hI (fun _=>rfl) (i:=3) rfl;simp only [aTw,aTf,aUj,and_true,true_and] at he;obtain ⟨rfl,rfl⟩:=he;have d0:wr.cell? ⟨g,0,none⟩=some (.int .i64 x0):=c0 0 (by decide);have d1:wr.cell? ⟨g,1,none⟩=some (.int .i64 y0):=c0 1 (by decide);have d2:wr.cell? ⟨g,2,none⟩=some (.int .i64 s0):=c0 2 (by decide);have d3:wr.cell? ⟨g,3,none⟩=some (.int .i64 x1):=c1 0 (by decide);have d4:wr.cell? ⟨g,4,none⟩=some (.int .i64 y1):=c1 1 (by decide);have d5:wr.cell? ⟨g,5,none⟩=some (.int .i64 s1):=c1 2 (by decide);have d6:wr.cell? ⟨g,6,none⟩=some (.int .i64 x2):=c2 0 (by decide);have d7:wr.cell? ⟨g,7,none⟩=some (.int .i64 y2):=c2 1 (by decide);have d8:wr.cell? ⟨g,8,none⟩=some (.int .i64 s2):=c2 2 (by decide);have d9:wr.cell? ⟨g,9,none⟩=some (.int .i64 x3):=c3 0 (by decide);have e4:wr.cell? ⟨g,10,none⟩=some (.int .i64 y3):=c3 1 (by decide);have e5:wr.cell? ⟨g,11,none⟩=some (.int .i64 s3):=c3 2 (by decide);have b7:4<=tc:=b0;have ZW:=X0.size;clear hI c0 c1 c2 c3 b0 e0 e1 e2 e3 hge;go_wp2;refine aA [([0,1,2,3,4,5,6,7,8,9,10,11,12,13,14,15,16,17,18,19,20,21,22,23,24,25,26,27,28,29],30),([],31)] 99 wr.heap.size ?_;refine st_ fun K hK=>?_;go_wp2;refine k_ hK (st_ fun K hK=>?_);go_wp2;refine k_ hK (aC ?_);clear hK K;have BF:=aTm wr.drew 155 [x0,y0,s0,x1,y1,s1,x2,y2,s2,(u:Nat),(v:Nat),(n:Nat),x1,y1,s1,x3,y3,s3,x2,y2,s2,(u:Nat),(v:Nat),(n:Nat)];have XF:Ext wr (wr.drew.alloc (.cells #[x0,y0,s0,x1,y1,s1,x2,y2,s2,(u:Nat),(v:Nat),(n:Nat),x1,y1,s1,x3,y3,s3,x2,y2,s2,(u:Nat),(v:Nat),(n:Nat)] 155)):=X_;go_wp2;go_ret;refine ⟨_,rfl,.inr ⟨c4.out,wr.heap.size,ZW,rfl,?_⟩,X0.trans XF⟩;rw [show dJ c f n s u v=⟨x0,y0,s0⟩ from b3,show dJ c f n s (u+1) v=⟨x1,y1,s1⟩ from b4,show dJ c f n s u (v+1)=⟨x2,y2,s2⟩ from b5,show dJ c f n s (u+1) (v+1)=⟨x3,y3,s3⟩ from b6];exact BF
def rD (c:Cam) (f:Nat->Int) (n:Nat) (s:Smp) (k:Nat):List Mc:=(aT3 k).flatMap fun q=>gO c f n s (q % n) (q / n)
theorem aIy (c:Cam) (f:Nat->Int) (n:Nat) (s:Smp) {v:Nat} (hu:u<n):rD c f n s (v*n+(u+1))=rD c f n s (v*n+u)++gO c f n s u v:=by
 unfold rD;rw [<-aU5,aVx,aUv,aXg]
 have e1:(v*n+u) % n=u:=by rw [aZw,aYv,aW2 hu]
 have e2:(v*n+u) / n=v:=by rw [aZw,aZ5 _ _ (by omega),aYx hu,aUa]
 rw [e1,e2]
theorem aEd (c:Cam) (f:Nat->Int) (n:Nat) (s:Smp) (k:Nat):(rD c f n s k).length<=2*k:=by
 unfold rD
 induction k with
 | zero=>simp
 | succ k ih=>
  rw [aVx,aUv,aXg,aT5];have:=jV c f n s (k % n) (k / n);omega
theorem Mc.oneC (y:Mc):∀u∈y.cs,u.oneCell'=true:=y.one
theorem aAg (c:Cam) (f:Nat->Int) (n:Nat) (s:Smp) (hn:1<=n/\n<=8) (w:World) :
  Calls aTg 98 #[.agg c,.agg f,(n:Nat),s.lx,s.ly] w fun e w'=>∃r,e = .returned r/\aD Mc.cs w.heap.size 155 12 w' r (lJ c f n s)/\Ext w w':=by
 obtain ⟨J1,HN⟩:=h2_ (aG.2 (show (1:Int)<=(n:Int)/\(n:Int)<=8 by omega)) hn;clear hn;obtain ⟨B0,B1,X0⟩:=h3_ ((aTm w 35 c).ext (show Ext (w.alloc (.cells c 35)) ((w.alloc (.cells c 35)).alloc (.cells f 125)) from X_)) (show Blk ((w.alloc (.cells c 35)).alloc (.cells f 125)) (w.heap.size+1) 125 f from by have q:=(aTm (w.alloc (.cells c 35)) 125 f).ext (show Ext ((w.alloc (.cells c 35)).alloc (.cells f 125)) ((w.alloc (.cells c 35)).alloc (.cells f 125)) from X_);simp only [aTe] at q;exact q) (show Ext w ((w.alloc (.cells c 35)).alloc (.cells f 125)) from X_);go_enter func98,ntmps98;go_wp2_with fail;refine z_ (aF J1 _) ?_;go_upto_region 4 with fail
 obtain ⟨W,hW⟩:=e_ (((w.alloc (.cells c 35)).alloc (.cells f 125)).alloc (.cells #[] 155))
 have OW:aD Mc.cs (w.heap.size+2) 155 12 (((w.alloc (.cells c 35)).alloc (.cells f 125)).alloc (.cells #[] 155)) (.slice (some ⟨w.heap.size+2,0,none⟩) 0 0) []:=aD.freshC (aTc _) (by have q:=aTm ((w.alloc (.cells c 35)).alloc (.cells f 125)) 155 [];simp only [aTe] at q;exact q);have YW:Ext ((w.alloc (.cells c 35)).alloc (.cells f 125)) (((w.alloc (.cells c 35)).alloc (.cells f 125)).alloc (.cells #[] 155)):=X_;replace B0:=hid (B0.ext YW);replace B1:=hid (B1.ext YW);replace X0:=hid (X0.trans YW);clear YW
 try simp only [aTe]
 rw [hW];rw [hW] at B0 B1 X0 OW;have OO:=hid OW;clear hW OW;go_wp2
 go_loopw [11,12] (fun l x wr=>∃r:Nat,r<=n/\x = .int .i64 (r:Nat)/\Ext w wr/\Blk wr w.heap.size 35 c/\Blk wr (w.heap.size+1) 125 f/\aD Mc.cs (w.heap.size+2) 155 12 wr l (rD c f n s (r*n))) (fun _ x _=>n - (intOf x).toNat)
 case atStart=>exact ⟨0,by omega,rfl,X0,B0,B1,by rw [aXv];exact OO⟩
 case round=>
  obtain ⟨r,hr,rfl,hx,h0,h1,ho⟩:=hrel;clear B0 B1 X0 OO;obtain ⟨X0,B0,B1,OO⟩:=h4_ hx h0 h1 ho;obtain ⟨la,lc,rfl,-⟩:=aD.form ho;clear hx h0 h1 ho
  rcases aUc r n with hrn|hrn
  ·go_wp2_with fail
   obtain ⟨WA,h9⟩:=i_ wr
   rw [<-h9] at B0 B1 X0 OO ⊢;clear h9
   go_loopw [11,13] (fun l x wr=>∃q:Nat,q<=n/\x = .int .i64 (q:Nat)/\Ext w wr/\Blk wr w.heap.size 35 c/\Blk wr (w.heap.size+1) 125 f/\aD Mc.cs (w.heap.size+2) 155 12 wr l (rD c f n s (r*n+q))) (fun _ x _=>n - (intOf x).toNat)
   case atStart=>exact ⟨0,by omega,rfl,X0,B0,B1,by rw [aUq];exact OO⟩
   case round=>
    obtain ⟨q,hq,rfl,hx,h0,h1,ho⟩:=hrel;clear B0 B1 X0 OO;obtain ⟨X0,B0,B1,OO⟩:=h4_ hx h0 h1 ho;have h6:=aEd c f n s (r*n+q)
    have q5:r*n+q<=64:=by
     have h:=aUh (show r<=7 by have:=HN.out;omega) (show n<=8 by have:=HN.out;omega);have:=HN.out;omega
    have h3:=hid (show (rD c f n s (r*n+q)).length<=200 by omega);clear h6 q5
    rcases aUc q n with hqn|hqn
    ·have h4:=hid (aIy c f n s (v:=r) hqn)
     obtain ⟨T,hT⟩:=e_ (rD c f n s (r*n+q))
     rw [hT] at ho OO h3 h4;clear hT;obtain ⟨ma,mc,rfl,-⟩:=aD.form ho;have ZW:=hx.size;clear hx h0 h1 ho;have p:=B0.lt;obtain ⟨p0,p1,p2,p3,p4,p5,p6⟩:=B0.q7;have g:=B1.lt;obtain ⟨g0,g1,g2,g3,g4,g5,g6,g7,g8,g9,q2,q3⟩:=B1.q12;go_wp2_with fail;refine (aBq c f n s q r ⟨HN.1,by have:=HN.out;omega⟩ hqn hrn _).mono ?_;rintro e w5 ⟨d,rfl,hD,x5⟩;have hR:=hD.rd;have h5:=jV c f n s q r
     obtain ⟨L,hL⟩:=e_ (gO c f n s q r)
     replace h4:=hid (hL▸h4.out);rw [hL] at hR h5;clear hL;obtain ⟨da,dc,rfl,-,-,h8⟩:=hR.form;obtain ⟨HR,O5,C0,C1,CX⟩:=h5_ h8 (OO.ext x5) (B0.ext x5) (B1.ext x5) (X0.trans x5);have z5:=CX.size;have h7:=hid h5;have q6:=C1.lt;clear hD hR h8 h5 x5 p p0 p1 p2 p3 p4 p5 p6 g g0 g1 g2 g3 g4 g5 g6 g7 g8 g9 q2 q3;go_wp2_with (at_builtin;refine cU Mc.cs 155 12 96 _ w5 rfl _ _ 148 rfl underlying148 yE rfl (by decide) (by decide) (fun _=>rfl) Mc.oneC (w.heap.size+2) (.slice ma T.length mc) T rfl O5 _ _ (.slice da L.length dc) L rfl HR (by have:=h3.out;have:=h7.out;omega) (by omega) ?_;intro v6 w6 hown hg);have h2:=aD.rowE O5;obtain ⟨RX,R0,R1,RO⟩:=h4_ (aUo CX hg (fun k e=>by have:=(h2 k e).1;omega)) (C0.grown hg (fun e=>by have:=(h2 _ e.symm).1;omega)) (C1.grown hg (fun e=>by have:=(h2 _ e.symm).1;omega)) hown;clear hown hg h2;have q0:=HN.out;obtain ⟨HW,q1⟩:=h2_ (show wrap64 ((q:Int)+1)=((q+1:Nat):Int) by rw [aE (by omega) (by omega)];omega) (show aD Mc.cs (w.heap.size+2) 155 12 w6 v6 (rD c f n s (r*n+(q+1))) by rw [h4];exact RO)
     obtain ⟨n8,q4⟩:=e_ (n:Nat)
     clear h3 h7 HR O5 C0 C1 CX h4 RO HN q0 q4 n8;go_wp2;go_roundw
     case rel=>exact ⟨q+1,by omega,congrArg (aWn .i64) HW,RX,R0,R1,q1⟩
     case measure=>
      rw [HW]
      show n - (q+1)<n - q
      omega
    ·obtain rfl:q=n:=by omega
     obtain ⟨ma,mc,rfl,-⟩:=aD.form ho;clear hx h0 h1 ho;have q0:=HN.out;go_wp2;go_roundw
     case rel=>exact ⟨r+1,by omega,by go_num,X0,B0,B1,by rw [aYz];exact OO⟩
     case measure=>simp [intOf];omega
  ·obtain rfl:r=n:=by omega
   go_wp2;go_ret;exact ⟨_,rfl,aD.low (show aD Mc.cs (w.heap.size+2) 155 12 wr _ (lJ c f _ s) from OO) (by omega),X0⟩
structure aAh (s:Scn) (h:Nat) (w:World) (cv av:Value):Prop where
 hh:h<=w.heap.size
 c:∃us:List Value,us.length=s.m/\Rd (fun u=>[u]) 0 h w cv us/\∀k u,us[k]?=some u->aS 0 h w u (s.shade k).1
 a:∃us:List Value,us.length=s.m/\Rd (fun u=>[u]) 0 h w av us/\∀k u,us[k]?=some u->aS 0 h w u (s.shade k).2
theorem aAh.ext {s:Scn} (r:aAh s h w cv av) (x:Ext w w'):aAh s h w' cv av:=by
 obtain ⟨hh,⟨us,h1,h2,h3⟩,us2,k1,k2,k3⟩:=r;exact ⟨aTl hh x.size,⟨us,h1,h2.ext hh x,fun k u hu=>(h3 k u hu).ext hh x⟩,us2,k1,k2.ext hh x,fun k u hu=>(k3 k u hu).ext hh x⟩
theorem Rd.low0 {α : Type} {cs : α->List Value} {ys:List α} (h:Rd cs lo hi w v ys):Rd cs 0 hi w v ys:=by
 obtain ⟨ad,c,h1,h2,h3,h4,h5⟩:=h;refine ⟨ad,c,h1,h2,h3,h4,?_⟩
 rcases h5 with h5|⟨b,off,e,l1,l2,hc⟩
 ·exact .inl h5
 ·exact .inr ⟨b,off,e,aUx _,l2,hc⟩
theorem aAd.rd {s:Scn} (h:aAd s lo w cv av s.m):aAh s w.heap.size w cv av:=by
 obtain ⟨us,h1,h2,h3⟩:=h.c.ints;obtain ⟨h0,k1,k2,k3⟩:=h.a.ints;rw [tQ] at h1;rw [vZ] at k1;refine ⟨aTc _,⟨us,h1,h2.low0,fun k u hu=>h3 k u _ hu (aNs s ?_)⟩,h0,k1,k2.low0,fun k u hu=>k3 k u _ hu (aPo s ?_)⟩
 ·have:=(aTd.1 hu).1
  omega
 ·have:=(aTd.1 hu).1
  omega
theorem aAh.at {s:Scn} (r:aAh s h w cv av) (hk:k<s.m) :
  ∃bc oc cc ba oa ca a4 c4 a5 c5,cv = .slice (some ⟨bc,oc,none⟩) s.m cc/\av = .slice (some ⟨ba,oa,none⟩) s.m ca/\bc<h/\ba<h/\w.cell? ⟨bc,oc+k,none⟩=some (.slice a4 (s.shade k).1.length c4)/\w.cell? ⟨ba,oa+k,none⟩=some (.slice a5 (s.shade k).2.length c5)/\gP 0 h w a4 c4 (s.shade k).1/\gP 0 h w a5 c5 (s.shade k).2:=by
 obtain ⟨hh,⟨us,h1,h2,h3⟩,us2,k1,k2,k3⟩:=r;obtain ⟨ad,cc,rfl,-,-,q2⟩:=h2.form;obtain ⟨h5,ca,rfl,-,-,q4⟩:=k2.form
 obtain ⟨u,hu⟩:∃u,us[k]?=some u:=⟨_,aTk (by omega)⟩
 obtain ⟨u2,h0⟩:∃u,us2[k]?=some u:=⟨_,aTk (by omega)⟩
 obtain ⟨bc,oc,rfl,-,l1,hc⟩:=Rd.at (sz:=1) (fun _=>rfl) q2 hu;obtain ⟨ba,oa,rfl,-,l2,h4⟩:=Rd.at (sz:=1) (fun _=>rfl) q4 h0;obtain ⟨a4,c4,rfl,i4⟩:=(h3 k u hu).open;obtain ⟨a5,c5,rfl,i5⟩:=(k3 k u2 h0).open;have e1:=hc 0 (by omega);have e2:=h4 0 (by omega);rw [Nat.mul_one,aUq] at e1 e2;exact ⟨bc,oc,cc,ba,oa,ca,a4,c4,a5,c5,by rw [h1],by rw [k1],l1,l2,e1,e2,i4,i5⟩
theorem aEe (s:Scn) (lo hi h0:Nat) (v cv av:Value) (k:Nat) (p:Smp) (n:Nat) (cols als:List Int) (w:World) (hv:s.R lo hi w v) (hh:hi<=w.heap.size) (hk:k<s.m) (hm5:s.m<=5) (hr:s.rt k=(n:Nat)) (hn:1<=n/\n<=8) (hp:p.okB s.c=true)
  (hd:aAh s h0 w cv av) (hlc:cols.length=n*n) (hla:als.length=n*n) (hcols:(s.shade k).1=cols) (hals:(s.shade k).2=als) :
  Calls aTg 55 #[v,.agg #[cv,av],(k:Nat),.agg #[p.x,p.y,p.t,p.lx,p.ly]] w fun e w'=>∃r,e = .returned r/\aD aH.cs w.heap.size 95 5 w' r (vJ s.c (aZ (s.st k) (s.en k) p.t) n p (k:Nat) cols als)/\Ext w w':=by
 obtain ⟨a1,c1,a2,c2,a3,c3,rfl,-,-,-,-,-,hF⟩:=hv.form;have i2:=hd.hh;obtain ⟨bc,oc,cc,ba,oa,ca,a4,c4,a5,c5,rfl,rfl,lc,la,ec,ea,hC,hA⟩:=hd.at hk;rw [hcols] at ec hC;rw [hals] at ea hA;have e8:=hF.cap;have i5:=hF.le;obtain ⟨b,h7,rfl,i0,i1,h3⟩:=hF.at hk (by decide)
 obtain ⟨f,hf⟩:=e_ (s.st k)
 obtain ⟨g,hg⟩:=e_ (s.en k)
 obtain ⟨sh,b1⟩:=e_ (s.sh k)
 have bw:b<w.heap.size:=by omega
 have xw:Ext w (((w.alloc (.cells (sA_ s a1 c1 a2 c2 (some ⟨b,h7,none⟩) c3) 40)).alloc (.cells #[.slice (some ⟨bc,oc,none⟩) s.m cc,.slice (some ⟨ba,oa,none⟩) s.m ca] 78)).alloc (.cells #[p.x,p.y,p.t,p.lx,p.ly] 42)):=X_
 have q6:(((w.alloc (.cells (sA_ s a1 c1 a2 c2 (some ⟨b,h7,none⟩) c3) 40)).alloc (.cells #[.slice (some ⟨bc,oc,none⟩) s.m cc,.slice (some ⟨ba,oa,none⟩) s.m ca] 78)).alloc (.cells #[p.x,p.y,p.t,p.lx,p.ly] 42)).rangeAt b (h7+k*26) ((aT3 26).map fun j=>.int .i64 (s.F (k*26+j))):=by
  intro j v hj;obtain ⟨h1,h2⟩:=aTd.1 hj;simp only [aUn,aWd] at h1;simp only [aW1,aV9] at h2;subst h2;exact (xw.cells.1 b _ bw).trans (h3 j h1)
 change (((w.alloc (.cells (sA_ s a1 c1 a2 c2 (some ⟨b,h7,none⟩) c3) 40)).alloc (.cells #[.slice (some ⟨bc,oc,none⟩) s.m cc,.slice (some ⟨ba,oa,none⟩) s.m ca] 78)).alloc (.cells #[p.x,p.y,p.t,p.lx,p.ly] 42)).rangeAt b (h7+k*26) (gL_ (s.st k) (s.en k) (s.sh k) (s.rt k)) at q6;simp only [hf,hg,b1,hr] at q6;have q0:=aTm w 40 (sL_ s a1 c1 a2 c2 (some ⟨b,h7,none⟩) c3);have q1:=aTm (w.alloc (.cells (sA_ s a1 c1 a2 c2 (some ⟨b,h7,none⟩) c3) 40)) 78 [.slice (some ⟨bc,oc,none⟩) s.m cc,.slice (some ⟨ba,oa,none⟩) s.m ca];have q2:=aTm ((w.alloc (.cells (sA_ s a1 c1 a2 c2 (some ⟨b,h7,none⟩) c3) 40)).alloc (.cells #[.slice (some ⟨bc,oc,none⟩) s.m cc,.slice (some ⟨ba,oa,none⟩) s.m ca] 78)) 42 [p.x,p.y,p.t,p.lx,p.ly];simp only [aTe] at q1 q2;have r0:=q0.ext (show Ext (w.alloc (.cells (sA_ s a1 c1 a2 c2 (some ⟨b,h7,none⟩) c3) 40)) (((w.alloc (.cells (sA_ s a1 c1 a2 c2 (some ⟨b,h7,none⟩) c3) 40)).alloc (.cells #[.slice (some ⟨bc,oc,none⟩) s.m cc,.slice (some ⟨ba,oa,none⟩) s.m ca] 78)).alloc (.cells #[p.x,p.y,p.t,p.lx,p.ly] 42)) from X_);have r1:=q1.ext (show Ext ((w.alloc (.cells (sA_ s a1 c1 a2 c2 (some ⟨b,h7,none⟩) c3) 40)).alloc (.cells #[.slice (some ⟨bc,oc,none⟩) s.m cc,.slice (some ⟨ba,oa,none⟩) s.m ca] 78)) (((w.alloc (.cells (sA_ s a1 c1 a2 c2 (some ⟨b,h7,none⟩) c3) 40)).alloc (.cells #[.slice (some ⟨bc,oc,none⟩) s.m cc,.slice (some ⟨ba,oa,none⟩) s.m ca] 78)).alloc (.cells #[p.x,p.y,p.t,p.lx,p.ly] 42)) from X_);have r2:=q2.ext (show Ext (((w.alloc (.cells (sA_ s a1 c1 a2 c2 (some ⟨b,h7,none⟩) c3) 40)).alloc (.cells #[.slice (some ⟨bc,oc,none⟩) s.m cc,.slice (some ⟨ba,oa,none⟩) s.m ca] 78)).alloc (.cells #[p.x,p.y,p.t,p.lx,p.ly] 42)) (((w.alloc (.cells (sA_ s a1 c1 a2 c2 (some ⟨b,h7,none⟩) c3) 40)).alloc (.cells #[.slice (some ⟨bc,oc,none⟩) s.m cc,.slice (some ⟨ba,oa,none⟩) s.m ca] 78)).alloc (.cells #[p.x,p.y,p.t,p.lx,p.ly] 42)) from X_)
 have z3:(((w.alloc (.cells (sA_ s a1 c1 a2 c2 (some ⟨b,h7,none⟩) c3) 40)).alloc (.cells #[.slice (some ⟨bc,oc,none⟩) s.m cc,.slice (some ⟨ba,oa,none⟩) s.m ca] 78)).alloc (.cells #[p.x,p.y,p.t,p.lx,p.ly] 42)).heap.size=w.heap.size+3:=by simp
 obtain ⟨HC,HA,b7,b6,HP⟩:=h5_ hC hA ec ea hp
 have ht:0<=p.t/\p.t<=16:=by
  unfold Smp.okB at hp;simp only [aTs,aG] at hp;omega
 obtain ⟨HT,d1,b9⟩:=h3_ ht hlc hla;clear hlc hla q0 q1 q2 hC hA ec ea hp ht h3 hF hv b1 hr hd hcols hals;rw [hf,hg,zP];have z7:=aF3 (c:=s.c) (f:=aZ f g p.t) (n:=n) (s:=p) hn.1;have z4:=tE s.c (aZ f g p.t) p hn.2
 obtain ⟨M,q4⟩:=e_ (lJ s.c (aZ f g p.t) n p)
 rw [q4] at z7 z4 ⊢;obtain ⟨d5,d3,d4⟩:=h3_ z7 z4 q4;clear hf hg z7 z4 q4;go_enter func55,ntmps55;go_upto_region 1 with fail
 obtain ⟨W0,x1⟩:=e_ (((w.alloc (.cells (sA_ s a1 c1 a2 c2 (some ⟨b,h7,none⟩) c3) 40)).alloc (.cells #[.slice (some ⟨bc,oc,none⟩) s.m cc,.slice (some ⟨ba,oa,none⟩) s.m ca] 78)).alloc (.cells #[p.x,p.y,p.t,p.lx,p.ly] 42))
 rw [x1] at q6 r0 r1 r2 z3 xw
 try simp only [aTe] at x1
 rw [x1];clear x1
 have bl:b<W0.heap.size:=by omega
 have d0:=r0.cell 10 rfl;have l0:=r0.lt;obtain ⟨R0,R1,R2,XW,Z3⟩:=h5_ r0 r1 r2 xw z3
 have i4:((k:Nat):Int)<(s.m:Nat):=by omega
 have q8:(W0.alloc (.cells #[] 95)).rangeAt b (h7+k*26) (gL_ f g sh (n:Nat)):=fun j v hj=>((show Ext W0 (W0.alloc (.cells #[] 95)) from X_).cells.1 b _ bl).trans (q6 j v hj);clear r0 r1 r2 xw z3 q6;go_upto_region 3 with (first|(show wpList _ _ _ [_,_,_] _ _;refine wpList_load_mid rfl _ _ rfl b (h7+k*26) rfl (gL_ f g sh (n:Nat)) _ q8 underlying127 rfl gE ?_)|(show wpList _ _ _ [_] _ _;refine dW _ _ _ rfl 127 (.tmp 10) (.tmp 21) rfl rfl (gA_ f g sh (n:Nat)) (W0.heap.size+1) (by simp) rfl rfl (by kernel_rfl) (by kernel_rfl) (by kernel_rfl) ?_))
 have bS:Blk ((W0.alloc (.cells #[] 95)).alloc (.cells (gA_ f g sh (n:Nat)) 127)) (W0.heap.size+1) 127 (gL_ f g sh (n:Nat)):=by
  have q:=aTm (W0.alloc (.cells #[] 95)) 127 (gL_ f g sh (n:Nat));rw [aTe] at q;exact q
 have hO:aD aH.cs W0.heap.size 95 5 ((W0.alloc (.cells #[] 95)).alloc (.cells (gA_ f g sh (n:Nat)) 127)) (.slice (some ⟨W0.heap.size,0,none⟩) 0 0) []:=aD.ext (aD.fresh0 (aTc _) (aTm W0 95 [])) (show Ext (W0.alloc (.cells #[] 95)) ((W0.alloc (.cells #[] 95)).alloc (.cells (gA_ f g sh (n:Nat)) 127)) from X_);have xa:Ext W0 ((W0.alloc (.cells #[] 95)).alloc (.cells (gA_ f g sh (n:Nat)) 127)):=X_
 obtain ⟨wc,b3⟩:=e_ ((W0.alloc (.cells #[] 95)).alloc (.cells (gA_ f g sh (n:Nat)) 127))
 rw [b3] at bS hO xa ⊢;clear b3 q8
 obtain ⟨A,a6⟩:=e_ (W0.heap.size+1)
 rw [a6] at bS ⊢;obtain ⟨HS,HO,HX⟩:=h3_ bS hO xa;have lA:=bS.lt;have g1:=xa.size;have d7:=bS.cell 25 rfl
 have a8:wc.rangeAt A 0 (gL_ f g sh (n:Nat)):=fun j v hj=>by rw [aUa];exact bS.cell j hj
 have e0:=R0.ext xa;have e1:=R2.ext xa;obtain ⟨m0,m1,m2,m3,m4,m5,m6⟩:=e0.q7;obtain ⟨s2,s3,s4,l1,l2⟩:=m5_ (e1.cell 2 rfl) (e1.cell 3 rfl) (e1.cell 4 rfl) e0.lt e1.lt;clear e0 e1 bS hO xa d0 l0 R0;refine aA [([0,1,2,3,4,6,7,8,9,10,11,14],5),([],12),([],13)] 99 wc.heap.size ?_;refine aK ?_;simp only [aT4,aTv,aTh,aTa,aTb]
 show wpQuiet _ _ _ _ [_,_,_,_,_,_,_,_,_,_,_,_] _
 go_big_quiet_step (fail)
 go_big_quiet_step (fail)
 refine fA rfl _ _ rfl A 0 rfl (gL_ f g sh (n:Nat)) _ (by rintro _ ⟨d,rfl⟩ j v hj;rw [kF _ _ _ _ lA];exact a8 j v hj) underlying127 rfl gE ?_
 try simp only [Act.put,aTj,aTr,aTp]
 repeat (go_big_quiet_step (fail))
 refine wpQuiet_nil ⟨_,rfl,fun K hK=>?_⟩;go_wp2_with fail;refine r_ (aAf f g sh (n:Nat) p.t HT _) fun w5 x5=>?_;have y5:Ext wc w5:=aTi (aUi (aTn _)) x5;go_wp2;refine k_ hK (st_ fun K hK=>?_);go_wp2_with fail;refine (aAg s.c (aZ f g p.t) n p hn _).mono ?_;rintro e w6 ⟨r',rfl,hM,x6⟩;rw [d4] at hM;have y6:=y5.trans x6;obtain ⟨ta,tc,rfl,g2⟩:=aD.form hM;go_wp2;refine k_ hK (st_ fun K hK=>?_);go_wp2;refine k_ hK (aC ?_);clear hK K;go_wp2_with fail;obtain ⟨y2,y0,y4⟩:=h3_ (hM.low (lo':=W0.heap.size) (by have:=y5.size;omega)) (HO.ext y6) (HX.trans y6);clear hM y5 y6 x5 x6 a8 HS HO HX d7 m0 m1 m2 m3 m4 m5 m6 s2 s3 s4 lA g1 l1 l2 a6
 have hs:(-100000<=p.x/\p.x<=100000)/\(-100000<=p.y/\p.y<=100000):=by
  have hq:=HP.out;unfold Smp.okB at hq;simp only [aTs,aG] at hq;obtain ⟨⟨⟨⟨⟨q1,q2⟩,q3⟩,-⟩,-⟩,-⟩:=hq;have h1:=(Cam.okB_iff.1 q1).w;have h2:=(Cam.okB_iff.1 q1).h;omega
 have y8:=hid hs;clear hs
 go_loopw [9,36] (fun v i wr=>∃j:Nat,j<=M.length/\i = .int .i64 (j:Nat)/\Ext W0 wr/\aD Mc.cs W0.heap.size 155 12 wr (.slice ta M.length tc) M/\aD aH.cs W0.heap.size 95 5 wr v (aD3 p (k:Nat) cols als M j)) (fun _ i _=>M.length - (intOf i).toNat)
 case atStart=>exact ⟨0,by omega,rfl,y4,y2,y0⟩
 case round=>
  obtain ⟨j,hj,rfl,hx,hm,ho⟩:=hrel;obtain ⟨x0,y1,x4⟩:=h3_ hx hm ho;clear y4 y2 y0
  rcases aUc j M.length with hlt|hge
  ·obtain ⟨m,x2⟩:∃m,M[j]?=some m:=⟨_,aTk hlt⟩
   have h6:=d5.out m (aT2 x2);obtain ⟨gm,cap,he,-,e4,x9,e3,-,h3⟩:=aD.at hm (fun _=>rfl) x2;simp only [aTw,true_and] at he;obtain ⟨rfl,rfl⟩:=he;obtain ⟨c0,c1,c2,c3,c4,c5,c6,c7,c8,c9,y9,a0⟩:=m12_ (h3 0 (by decide)) (h3 1 (by decide)) (h3 2 (by decide)) (h3 3 (by decide)) (h3 4 (by decide)) (h3 5 (by decide)) (h3 6 (by decide)) (h3 7 (by decide)) (h3 8 (by decide)) (h3 9 (by decide)) (h3 10 (by decide)) (h3 11 (by decide));simp only [Mc.cs,aKx,aUq,aTa,aTb] at c0 c1 c2 c3 c4 c5 c6 c7 c8 c9 y9 a0;have e1:=R2.ext hx;obtain ⟨s0,s1⟩:=e1.q2;have l1:=e1.lt;have y3:=hid x2;clear hx hm ho h3 x2 e1;go_wp2_with fail
   by_cases h8:rP m.a m.b m.d p.at=true
   ·refine (aIw m.a.x m.a.y m.a.z m.b.x m.b.y m.b.z m.d.x m.d.y m.d.z h6.a h6.b h6.d h6.z p.x p.y y8 h8 (r:=eP m.a m.b m.d p.at) rfl _).mono ?_
    rintro e w7 ⟨rfl,x7⟩;have y7:Ext wr w7:=aTi (show Ext wr (wr.alloc (.cells #[m.a.x,m.a.y,m.a.z,m.b.x,m.b.y,m.b.z,m.d.x,m.d.y,m.d.z,m.u,m.v,m.n] 155)) from X_) x7;obtain ⟨hX,q4,z0⟩:=h3_ (x0.trans y7) (y1.ext y7) (x4.ext y7);have q5:=(aTm wr 155 [m.a.x,m.a.y,m.a.z,m.b.x,m.b.y,m.b.z,m.d.x,m.d.y,m.d.z,m.u,m.v,m.n]).ext x7;have k9:=q5.cell 9 rfl;have i6:=q5.cell 10 rfl;have i7:=q5.cell 11 rfl;have kl:=q5.lt;have e2:=R1.ext (x0.trans y7);obtain ⟨t0,t1⟩:=e2.q2;have tl:=e2.lt;obtain ⟨u,vv,hu,z9,z6,lu,lv⟩:=h6.q
    have g0:vv*n+u<n*n:=by
     have h:=Nat.mul_le_mul_right n (show vv+1<=n by omega);rw [Nat.add_mul,Nat.one_mul] at h;omega
    have z5:n*n<=64:=aUh hn.2 hn.2
    obtain ⟨q,hq⟩:=e_ (vv*n+u:Nat)
    have x8:m.v*m.n+m.u=(q:Nat):=by rw [hu,z9,z6,<-hq,aVs,aWx]
    obtain ⟨pr,x3⟩:=e_ (m.v*m.n)
    have z8:pr=((vv*n:Nat):Int):=by rw [<-x3,z9,z6,aWx]
    have i8:wrap64 (m.v*m.n)=pr:=by rw [x3];exact aE (by omega) (by omega)
    have i9:wrap64 (pr+m.u)=(q:Nat):=by rw [<-x3,x8];exact aE (by omega) (by omega)
    have a9:q<cols.length:=by rw [d1];omega
    have b0:q<als.length:=by rw [b9];omega
    obtain ⟨b4,o4,rfl,-,h4,ct⟩:=HC.at a9;obtain ⟨b5,o5,rfl,-,h5,dt⟩:=HA.at b0;have xt:=XW.trans hX.out;have d8:=(xt.cells.1 b4 _ (by omega)).trans ct;have d9:=(xt.cells.1 b5 _ (by omega)).trans dt;have g7:=(xt.cells.1 bc _ (by omega)).trans b7;have g3:=(xt.cells.1 ba _ (by omega)).trans b6
    obtain ⟨cv,z2⟩:=e_ (cols[q])
    obtain ⟨av,z1⟩:=e_ (als[q])
    rw [z2] at d8;rw [z1] at d9
    have e9:=hid (show rZ p (k:Nat) cols als m=[⟨eP m.a m.b m.d p.at,(k:Nat),(q:Nat),cv,av⟩] by
     unfold rZ;rw [if_pos h8,x8,aT7,aT8,aT8,aTk a9,aTk b0,z2,z1]
     rfl)
    have z3:=Z3.out
    have g4:b4<W0.heap.size:=by omega
    have g5:b5<W0.heap.size:=by omega
    have g9:bc<W0.heap.size:=by omega
    have g8:ba<W0.heap.size:=by omega
    have g6:w.heap.size+1<W0.heap.size:=by omega
    clear z3 h8 q5 e2 y7 x7 hu z9 z6 lu lv g0 z5 hq x8 x3 z8 ct dt z2 z1 xt h4 h5 h6 c0 c1 c2 c3 c4 c5 c6 c7 c8 c9 y9 a0 s0 s1 l1 e4 x9 e3;go_wp2;refine aJ [([0,1,2,3,4,5,6,7,8,9,10,11,12,13,14,15,16,17,18,19,20],21),([],22),([],23)] 23 (fun w'=>∃d,w'=gA (CHt W0.heap.size) _ d) (aV8 _ _) ?_;refine sc_ fun K hK=>?_;go_wp2_with fail;have b2:=hX.out.size;refine hK _ _ (.inr (aUl fun a ha=>aTq (w:=w7) X_ (aUu ha b2))) ?_;clear hK K;obtain ⟨HB,a7,e6,e7⟩:=h4_ (aTm w7.drew 95 [(eP m.a m.b m.d p.at),(k:Nat),(q:Nat),cv,av]) (z0.out.ext (show Ext w7 (w7.drew.alloc (.cells #[(eP m.a m.b m.d p.at),(k:Nat),(q:Nat),cv,av] 95)) from X_)) (q4.out.ext (show Ext w7 (w7.drew.alloc (.cells #[(eP m.a m.b m.d p.at),(k:Nat),(q:Nat),cv,av] 95)) from X_)) (hX.out.trans (show Ext w7 (w7.drew.alloc (.cells #[(eP m.a m.b m.d p.at),(k:Nat),(q:Nat),cv,av] 95)) from X_));have i3:=vW p (k:Nat) cols als M j;refine sc_ fun K hK=>?_
    refine jA _ rfl _ _ rfl W0.heap.size _ _ rfl a7.out ⟨eP m.a m.b m.d p.at,(k:Nat),(q:Nat),cv,av⟩ w7.heap.size rfl (fun q hq=>by
      rcases (show q=0\/q=1\/q=2\/q=3\/q=4 by omega) with rfl|rfl|rfl|rfl|rfl
      ·exact HB.cell 0 rfl
      ·exact HB.cell 1 rfl
      ·exact HB.cell 2 rfl
      ·exact HB.cell 3 rfl
      ·exact HB.cell 4 rfl) (by have:=d3.out;omega) (by simp;omega) ?_
    intro v2 w9 q9 hg;have h9:=aD.rowE a7.out;obtain ⟨b8,d6,d2,e5⟩:=h4_ q9 (aUo e7.out hg (fun k e=>(h9 k e).1)) (e6.out.grownE hg (by decide) (fun k e=>(h9 k e).2)) (fun a:Addr=>fun ha:CHt W0.heap.size a=>show w9.heap[a.block]?=w7.drew.heap[a.block]? from (hg.block _ (by have:a.block<W0.heap.size:=ha;simp;omega) (fun e=>by have h1:=(h9 _ e.symm).1;have h2:a.block<W0.heap.size:=ha;omega)).trans (aTq (w:=w7) X_ (aUu ha b2)));clear q9 hg h9;go_wp2;refine hK _ _ (.inr (aUl fun a ha=>e5.out a ha)) ?_;clear hK K;refine sc_ fun K hK=>?_;go_wp2;refine l_ hK (aP ?_);clear hK K;go_wp2;go_roundw
    case rel=>exact ⟨j+1,by omega,by go_num,d6,d2,by rw [nC y3,e9.out];exact b8⟩
    case measure=>simp [intOf];omega
   ·refine (aLw m.a.x m.a.y m.a.z m.b.x m.b.y m.b.z m.d.x m.d.y m.d.z h6.a h6.b h6.d h6.z p.x p.y y8 (Bool.eq_false_iff.2 h8) _).mono ?_
    rintro e w7 ⟨rfl,x7⟩;have y7:Ext wr w7:=aTi (show Ext wr (wr.alloc (.cells #[m.a.x,m.a.y,m.a.z,m.b.x,m.b.y,m.b.z,m.d.x,m.d.y,m.d.z,m.u,m.v,m.n] 155)) from X_) x7;obtain ⟨hX,q4,z0⟩:=h3_ (x0.trans y7) (y1.ext y7) (x4.ext y7);go_wp2;go_roundw
    case rel=>exact ⟨j+1,by omega,by go_num,hX.out,q4.out,by rw [nC y3];unfold rZ;rw [if_neg h8,aVw];exact z0.out⟩
    case measure=>simp [intOf];omega
  ·obtain rfl:j=M.length:=by omega
   go_wp2;go_ret;refine ⟨_,rfl,?_,XW.trans x0⟩;rw [<-aF4];exact aD.low x4 (by have:=Z3.out;omega)
theorem aBr (s:Scn) (lo hi h0:Nat) (v cv av:Value) (k:Nat) (p:Smp) (w:World) (hv:s.R lo hi w v) (hh:hi<=w.heap.size) (ho:s.Ok) (hk:k<s.m) (hp:p.okB s.c=true) (hd:aAh s h0 w cv av) :
  Calls aTg 55 #[v,.agg #[cv,av],(k:Nat),.agg #[p.x,p.y,p.t,p.lx,p.ly]] w fun e w'=>∃r,e = .returned r/\aD aH.cs w.heap.size 95 5 w' r (s.hits k p)/\Ext w w':=by
 obtain ⟨q,n,-,-,h3,h4,h5,-,-⟩:=ho.at hk;have h1:=ho.shade hk;rw [h3,aT7] at h1
 have eh:vJ s.c (aZ (s.st k) (s.en k) p.t) n p (k:Nat) (s.shade k).1 (s.shade k).2=s.hits k p:=by unfold Scn.hits;rw [h3,aT7]
 rw [<-eh];exact aEe s lo hi h0 v cv av k p n _ _ w hv hh hk ho.m h3 ⟨h4,h5⟩ hp hd h1.1 h1.2 rfl rfl
theorem aBs (a b:aH) (w:World) :
  R_ 173 #[.agg #[a.d,a.s,a.c,a.col,a.al],.agg #[b.d,b.s,b.c,b.col,b.al]] w (.bool (a.lt b)):=by
 obtain ⟨d1,s1,c1,k1,l1⟩:=a;obtain ⟨d2,s2,c2,k2,l2⟩:=b;unfold aH.lt;simp only
 by_cases h0:d1=d2
 ·subst h0
  by_cases h1:s1=s2
  ·subst h1
   go_enter func173,ntmps173;go_wp2;go_ret;exact ⟨by simp,X_⟩
  ·go_enter func173,ntmps173
   go_wp2;go_ret;exact ⟨by simp [h1],X_⟩
 ·go_enter func173,ntmps173
  go_wp2;go_ret;exact ⟨by simp [h0],X_⟩
theorem rE {d1 s1 c1 k1 l1 d2 s2 c2 k2 l2:Int} {r:Bool} (h:(aH.mk d1 s1 c1 k1 l1).lt ⟨d2,s2,c2,k2,l2⟩=r) (w:World) :
  R_ 173 #[.agg #[d1,s1,c1,k1,l1],.agg #[d2,s2,c2,k2,l2]] w (.bool r):=h▸aBs _ _ w
theorem aH.one (y:aH):∀u∈y.cs,u.oneCell'=true:=by
 intro u hu;simp only [aH.cs,aTz,aTt,or_false] at hu
 rcases hu with rfl|rfl|rfl|rfl|rfl <;> rfl
theorem Rd.cut {α : Type} {cs : α->List Value} {a:Option Addr} {ys:List α} (hc:∀x,(cs x).length=sz) (h:Rd cs lo hi w (.slice a ys.length c) ys) {j:Nat} (hj:j<=ys.length) :
  Rd cs lo hi w (.slice a j c) (ys.take j):=by
 obtain ⟨ad,c',e,h2,h3,h4,h5⟩:=h;simp only [aTw,true_and] at e;obtain ⟨rfl,rfl⟩:=e;refine ⟨a,c,by rw [aT0,aV1 hj],by rw [aT0];omega,h3,h4,?_⟩
 rcases h5 with rfl|⟨b,off,rfl,l1,l2,hcell⟩
 ·exact .inl (by simp)
 ·refine .inr ⟨b,off,rfl,l1,l2,fun q u hq=>hcell q u ?_⟩
  rw [<-aWg j ys,aUv];rw [aUm (aTd.1 hq).1];exact hq
theorem Rd.drop {α : Type} {cs : α->List Value} {b o:Nat} {ys:List α} (hc:∀x,(cs x).length=sz) (h:Rd cs lo hi w (.slice (some ⟨b,o,none⟩) ys.length c) ys) {j:Nat} (hj:j<=ys.length) :
  Rd cs lo hi w (.slice (some ⟨b,o+j*sz,none⟩) (ys.length - j) (c - j)) (ys.drop j):=by
 obtain ⟨ad,c',e,h2,h3,h4,h5⟩:=h;simp only [aTw,true_and] at e;obtain ⟨rfl,rfl⟩:=e;refine ⟨some ⟨b,o+j*sz,none⟩,c - j,by rw [aWb],by rw [aWb];omega,by omega,(fun e=>nomatch e),?_⟩
 rcases h5 with rfl|⟨b',off,e,l1,l2,hcell⟩
 ·exact .inl (by simp)
 ·simp only [aTf,aUj,and_true] at e
  obtain ⟨rfl,rfl⟩:=e;refine .inr ⟨b,o+j*sz,rfl,l1,l2,fun q u hq=>?_⟩
  have hl:(ys.take j).length=j:=by rw [aT0,aV1 hj]
  rw [aU5];refine hcell (j*sz+q) u ?_;rw [<-aWg j ys,aUv,aT9 (by rw [gY hc,hl];omega),gY hc,hl,Nat.add_sub_cancel_left];exact hq
theorem Rd.none0 {α : Type} (cs : α->List Value) (lo hi:Nat) (w:World) (a:Option Addr) (c:Nat) (hc:c<=9223372036854775807) (h:a=none->c=0):Rd cs lo hi w (.slice a 0 c) ([]:List α):=⟨a,c,rfl,by simp,hc,h,.inl rfl⟩
theorem wB (lo:Nat) (v:Value) (l:List aH) (x:aH) (w:World) (ho:aD aH.cs lo 95 5 w v l) (hl:l.length<=100000) :
  Calls aTg 111 #[v,.agg #[x.d,x.s,x.c,x.col,x.al]] w fun e w'=>∃r,e = .returned r/\aD aH.cs w.heap.size 95 5 w' r (mR x l)/\Ext w w':=by
 have x0:Ext w (w.alloc (.cells #[x.d,x.s,x.c,x.col,x.al] 95)):=X_;have hB:=aTm w 95 [x.d,x.s,x.c,x.col,x.al]
 obtain ⟨W0,x2⟩:=e_ (w.alloc (.cells #[x.d,x.s,x.c,x.col,x.al] 95))
 rw [x2] at x0
 have hB:Blk W0 w.heap.size 95 [x.d,x.s,x.c,x.col,x.al]:=by rw [<-x2];exact hB
 have hv:=ho.rd (fun _=>rfl)
 obtain ⟨hi,z1⟩:=e_ w.heap.size
 rw [z1] at hv;obtain ⟨HV,HH,q1,HB,z6,HL⟩:=h6_ (hv.ext (by omega) x0) (show hi<=W0.heap.size by have:=x0.size;omega) x0 hB x2 hl
 obtain ⟨p,hp⟩:=e_ (fM x l)
 have q7:p<=l.length:=hp▸aB5 x l;have q8:∀k,k<p->∃hk:k<l.length,x.lt l[k]=false:=fun k hk=>aB6 (hp.symm▸hk)
 have q6:∀f,l[p]?=some f->x.lt f=true:=fun f hf=>by
  obtain ⟨h1,h2⟩:=aTd.1 hf;subst h2;subst hp;exact aB7 h1
 have q4:mR x l=l.take p++x::l.drop p:=by rw [<-hp];exact aJi x l
 obtain ⟨z0,x9,x3⟩:=h3_ q8 q6 q4
 have h7:(v = .slice none 0 0/\l.length=0)\/∃g cap,v = .slice (some ⟨g,0,none⟩) l.length cap:=by
  rcases ho.2 with ⟨h1,h4⟩|⟨g,cap,cur,h1,_⟩
  ·exact .inl ⟨h1,h4⟩
  ·exact .inr ⟨g,cap,h1⟩
 obtain ⟨a,cap,rfl,z7,y0,-⟩:=hv.form;have z2:=hid h7;clear q8 q6 q4 hp x0 hB x2 hv hl ho h7 z1;go_enter func111,ntmps111
 go_upto_block 0 with fail
 rw [z6]
 go_cut [5] from 7 to 35 (fun i wx=>i = .int .i64 (p:Nat)/\Ext W0 wx)
 case first=>
  go_wp2
  go_loopw [5] (fun i wr=>∃k:Nat,k<=p/\i = .int .i64 (k:Nat)/\Ext W0 wr) (fun i _=>l.length - (intOf i).toNat)
  case atStart=>exact ⟨0,by omega,rfl,aTn _⟩
  case round=>
   obtain ⟨k,hk,rfl,hx⟩:=hrel;obtain ⟨HX,h6⟩:=h2_ hx (HB.ext hx);have b:=h6.lt;obtain ⟨b0,b1,b2,b3,b4⟩:=h6.q5;have HR:=hid (HV.ext HH hx);have zw:=hx.size;clear hx
   rcases aUc k l.length with hlt|hge
   ·obtain ⟨f,hf⟩:∃f,l[k]?=some f:=⟨_,aTk hlt⟩
    obtain ⟨g,y2,rfl,-,gl,h5⟩:=Rd.at (sz:=5) (fun _=>rfl) HR hf;have d0:=h5 0 (by decide);have d1:=h5 1 (by decide);have d2:=h5 2 (by decide);have d3:=h5 3 (by decide);have d4:=h5 4 (by decide);simp only [aH.cs,aUq,aTa,aTb] at d0 d1 d2 d3 d4
    obtain ⟨r,hr⟩:=e_ (x.lt f)
    obtain ⟨q9,HF⟩:=h2_ hr hf;have z9:decide ((k:Int)<(l.length:Int))=true:=decide_eq_true (by omega)
    have gw:g<wr.heap.size:=by have:=HH.out;omega
    clear h5 hr hf
    rcases aUc k p with hkp|hkp
    ·obtain rfl:r=false:=by
      obtain ⟨z8,hq⟩:=z0 k hkp
      have e1:l[k]=f:=by have:=HF.out;rw [aTk z8] at this;exact aU8 this
      rw [e1] at hq;exact q9.symm.trans hq
     go_upto_region 2 with fail;refine aA [([0,1,2,3,4,5,6,7,8,9],10),([11],12)] 99 wr.heap.size ?_;refine st_ fun K hK=>?_;go_wp2_with fail;refine r_ (rE q9 _) fun w1 x1=>?_;have y1:Ext wr w1:=aTi (aUi (aTn _)) x1;go_wp2;refine k_ hK (st_ fun K hK=>?_);go_wp2;refine k_ hK (aC ?_);clear hK K;have X1:=hid (HX.trans y1);go_wp2;go_roundw
     case rel=>exact ⟨k+1,by omega,by go_num,X1⟩
     case measure=>simp [intOf];omega
    ·obtain rfl:k=p:=by omega
     obtain rfl:r=true:=by
      have:=x9.out f HF;exact q9.symm.trans this
     go_upto_region 2 with fail;refine aA [([0,1,2,3,4,5,6,7,8,9],10),([11],12)] 99 wr.heap.size ?_;refine st_ fun K hK=>?_;go_wp2_with fail;refine r_ (rE q9 _) fun w1 x1=>?_;have y1:Ext wr w1:=aTi (aUi (aTn _)) x1;go_wp2;refine k_ hK (st_ fun K hK=>?_);go_wp2;refine k_ hK (aC ?_);clear hK K;have X1:=hid (HX.trans y1);go_wp2
     go_meet
     exact ⟨rfl,X1⟩
   ·obtain rfl:k=p:=by omega
    obtain rfl:k=l.length:=by omega
    have z9:decide ((l.length:Int)<(l.length:Int))=false:=decide_eq_false (by omega);have y1:Ext wr wr.drew:=aUi (aTn _);go_upto_region 2 with fail;refine aA [([0,1,2,3,4,5,6,7,8,9],10),([11],12)] 99 wr.heap.size ?_;refine st_ fun K hK=>?_;go_wp2;refine k_ hK (st_ fun K hK=>?_);go_wp2;refine k_ hK (aC ?_);clear hK K;go_wp2
    go_meet
    exact ⟨rfl,HX.trans y1⟩
 case rest=>
  obtain ⟨rfl,hx⟩:=hcut;obtain ⟨HX,h6⟩:=h2_ hx (HB.ext hx);have b:=h6.lt;obtain ⟨b0,b1,b2,b3,b4⟩:=h6.q5;have HR:=hid (HV.ext HH hx);have HC:=hid (HR.cut (sz:=5) (fun _=>rfl) q7);have zw:=hx.size;clear hx;have xa:Ext wc (wc.alloc (.cells #[] 95)):=X_;obtain ⟨HF,x8⟩:=h2_ (aD.freshC (cs:=aH.cs) (sz:=5) (show W0.heap.size<=wc.heap.size from zw) (aTm wc 95 [])) (show (l.take p).length<=100000 by rw [aT0];have:=HL.out;omega);go_upto_region 5 with (at_builtin;refine cU aH.cs 95 5 40 _ _ rfl _ _ 48 rfl underlying48 iZ rfl (by decide) (by decide) (fun _=>rfl) aH.one W0.heap.size (.slice (some ⟨wc.heap.size,0,none⟩) 0 0) [] rfl HF lo hi (.slice a p cap) (l.take p) rfl (HC.ext (by have:=HH.out;omega) xa) (by have:=x8.out;simp only [aVp];omega) (by simp;omega) ?_;intro v4 w4 hown4 hg4);rw [aVd] at hown4;obtain ⟨va,vc,rfl,-⟩:=aD.form hown4;have X4:Ext W0 w4:=aUo (HX.trans xa) hg4 (fun k e=>by simp only [aUd,aTf] at e;omega);obtain ⟨x6,x5⟩:=h2_ X4 hown4;have z4:=X4.size;clear hown4 hg4 xa X4 h6 b b0 b1 b2 b3 b4 HC HF HR HX;have h6:=hid (HB.ext x6);have b:=h6.lt;obtain ⟨b0,b1,b2,b3,b4⟩:=h6.q5;have h9:=hid (aTm w4 95 [x.d,x.s,x.c,x.col,x.al]);have xb:Ext w4 (w4.alloc (.cells #[x.d,x.s,x.c,x.col,x.al] 95)):=X_
  go_upto_region 6 with (at_builtin;refine jA _ rfl _ _ rfl W0.heap.size _ _ rfl (x5.ext xb) x w4.heap.size rfl (fun q hq=>by
       rcases (show q=0\/q=1\/q=2\/q=3\/q=4 by omega) with rfl|rfl|rfl|rfl|rfl
       ·exact h9.cell 0 rfl
       ·exact h9.cell 1 rfl
       ·exact h9.cell 2 rfl
       ·exact h9.cell 3 rfl
       ·exact h9.cell 4 rfl) (by have:=x8.out;omega) (by simp;omega) ?_;intro v5 w5 hown5 hg5)
  have h8:=aD.rowE (x5.ext xb);have X5:Ext W0 w5:=aUo (x6.trans xb) hg5 (fun k e=>(h8 k e).1);obtain ⟨vb,vd,rfl,-⟩:=aD.form hown5;obtain ⟨x7,q0⟩:=h2_ X5 hown5;have z5:=X5.size;obtain ⟨z3,x4⟩:=h2_ (HV.ext HH X5) (show ((l.take p)++[x]).length+(l.drop p).length<=10000000 by rw [aT5,aT0,aWb];have:=HL.out;simp;omega);clear hown5 hg5 xb X5 h6 b b0 b1 b2 b3 b4 h9 h8 x5 x6
  rcases z2 with ⟨e,h0⟩|⟨g,cap',e⟩
  ·simp only [aTw] at e
   obtain ⟨rfl,-,rfl⟩:=e
   obtain rfl:p=0:=by omega
   obtain rfl:l=[]:=List.length_eq_zero_iff.1 h0;have HD:=hid (show Rd aH.cs lo hi w5 (.slice none 0 0) (([]:List aH).drop 0) from Rd.nil _ _ _ _);clear z0 x9;go_wp2_with (at_builtin;refine cU aH.cs 95 5 40 _ _ rfl _ _ 48 rfl underlying48 iZ rfl (by decide) (by decide) (fun _=>rfl) aH.one W0.heap.size (.slice vb (([]:List aH).take 0++[x]).length vd) (([]:List aH).take 0++[x]) rfl q0 lo hi (.slice none 0 0) (([]:List aH).drop 0) rfl HD x4 (by omega) ?_;intro v6 w6 hown6 hg6);have h3:=aD.rowE q0;have X6:Ext W0 w6:=aUo x7 hg6 (fun k e=>(h3 k e).1);rw [aUg,aZ4,<-x3] at hown6;obtain ⟨q2,q3⟩:=h2_ hown6 (q1.trans X6);clear hown6 hg6 h3 X6;go_wp2;go_ret;exact ⟨v6,rfl,q2.low q1.size,q3⟩
  ·simp only [aTw,true_and] at e
   obtain ⟨rfl,rfl⟩:=e
   rcases aUc p cap with hpc|hpc
   ·have HD:=z3.drop (sz:=5) (fun _=>rfl) q7
    rw [aUa] at HD;replace HD:=hid HD;go_wp2_with (at_builtin;refine cU aH.cs 95 5 40 _ _ rfl _ _ 48 rfl underlying48 iZ rfl (by decide) (by decide) (fun _=>rfl) aH.one W0.heap.size (.slice vb (l.take p++[x]).length vd) (l.take p++[x]) rfl q0 lo hi (.slice (some ⟨g,p*5,none⟩) (l.length - p) (cap - p)) (l.drop p) rfl HD x4 (by omega) ?_;intro v6 w6 hown6 hg6);have h3:=aD.rowE q0;have X6:Ext W0 w6:=aUo x7 hg6 (fun k e=>(h3 k e).1);rw [aUg,aZ4,<-x3] at hown6;obtain ⟨q2,q3⟩:=h2_ hown6 (q1.trans X6);clear hown6 hg6 h3 X6;go_wp2;go_ret;exact ⟨v6,rfl,q2.low q1.size,q3⟩
   ·obtain rfl:p=cap:=by omega
    obtain rfl:p=l.length:=by omega
    have HD:=hid (show Rd aH.cs lo hi w5 (.slice (some ⟨g,0,none⟩) 0 0) (l.drop l.length) from by rw [List.drop_length];exact Rd.none0 _ _ _ _ _ _ (by omega) (fun e=>nomatch e));go_wp2_with (at_builtin;refine cU aH.cs 95 5 40 _ _ rfl _ _ 48 rfl underlying48 iZ rfl (by decide) (by decide) (fun _=>rfl) aH.one W0.heap.size (.slice vb (l.take l.length++[x]).length vd) (l.take l.length++[x]) rfl q0 lo hi (.slice (some ⟨g,0,none⟩) 0 0) (l.drop l.length) rfl HD x4 (by omega) ?_;intro v6 w6 hown6 hg6);have h3:=aD.rowE q0;have X6:Ext W0 w6:=aUo x7 hg6 (fun k e=>(h3 k e).1);rw [aUg,aZ4,<-x3] at hown6;obtain ⟨q2,q3⟩:=h2_ hown6 (q1.trans X6);clear hown6 hg6 h3 X6;go_wp2;go_ret;exact ⟨v6,rfl,q2.low q1.size,q3⟩
theorem aAh.forms {s:Scn} (r:aAh s h w cv av):∃xa xc ya yc,cv = .slice xa s.m xc/\av = .slice ya s.m yc:=by
 obtain ⟨hh,⟨us,h1,h2,h3⟩,us2,k1,k2,k3⟩:=r;obtain ⟨ad,cc,rfl,-,-,-⟩:=h2.form;obtain ⟨h0,ca,rfl,-,-,-⟩:=k2.form;exact ⟨ad,cc,h0,ca,by rw [h1],by rw [k1]⟩
theorem aGj (s:Scn) (lo hi h0:Nat) (v cv av:Value) (p:Smp) (w:World) (hv:s.R lo hi w v) (hh:hi<=w.heap.size) (ho:s.Ok) (hp:p.okB s.c=true) (hd:aAh s h0 w cv av) :
  Calls aTg 64 #[v,.agg #[cv,av],.agg #[p.x,p.y,p.t,p.lx,p.ly]] w fun e w'=>∃r,e = .returned r/\aD aH.cs w.heap.size 95 5 w' r (s.seen p)/\Ext w w':=by
 obtain ⟨HV,HD⟩:=h2_ hv hd;have a5:=ho.m;obtain ⟨a1,c1,a2,c2,a3,c3,rfl⟩:=hv.formV;obtain ⟨xa,xc,ya,yc,rfl,rfl⟩:=hd.forms;obtain ⟨HO,HP⟩:=h2_ ho hp;clear hv ho hp hd;have x0:Ext w (((w.alloc (.cells (sA_ s a1 c1 a2 c2 a3 c3) 40)).alloc (.cells #[.slice xa s.m xc,.slice ya s.m yc] 78)).alloc (.cells #[p.x,p.y,p.t,p.lx,p.ly] 42)):=X_;have bS:=(aTm w 40 (sL_ s a1 c1 a2 c2 a3 c3)).ext (show Ext _ (((w.alloc (.cells (sA_ s a1 c1 a2 c2 a3 c3) 40)).alloc (.cells #[.slice xa s.m xc,.slice ya s.m yc] 78)).alloc (.cells #[p.x,p.y,p.t,p.lx,p.ly] 42)) from X_);have bD:=(aTm (w.alloc (.cells (sA_ s a1 c1 a2 c2 a3 c3) 40)) 78 [.slice xa s.m xc,.slice ya s.m yc]).ext (show Ext _ (((w.alloc (.cells (sA_ s a1 c1 a2 c2 a3 c3) 40)).alloc (.cells #[.slice xa s.m xc,.slice ya s.m yc] 78)).alloc (.cells #[p.x,p.y,p.t,p.lx,p.ly] 42)) from X_);have bP:=(aTm ((w.alloc (.cells (sA_ s a1 c1 a2 c2 a3 c3) 40)).alloc (.cells #[.slice xa s.m xc,.slice ya s.m yc] 78)) 42 [p.x,p.y,p.t,p.lx,p.ly]).ext (show Ext _ (((w.alloc (.cells (sA_ s a1 c1 a2 c2 a3 c3) 40)).alloc (.cells #[.slice xa s.m xc,.slice ya s.m yc] 78)).alloc (.cells #[p.x,p.y,p.t,p.lx,p.ly] 42)) from X_)
 try simp only [aTe] at bS bD bP
 obtain ⟨W0,h9⟩:=e_ (((w.alloc (.cells (sA_ s a1 c1 a2 c2 a3 c3) 40)).alloc (.cells #[.slice xa s.m xc,.slice ya s.m yc] 78)).alloc (.cells #[p.x,p.y,p.t,p.lx,p.ly] 42))
 rw [h9] at x0 bS bD bP;obtain ⟨q3,x7⟩:=h2_ x0 h9;have z0:=bP.lt;obtain ⟨h8,q7,x4⟩:=h3_ bS bD bP;clear x0 h9 bS bD bP;have o1:aD aH.cs W0.heap.size 95 5 (W0.alloc (.cells #[] 95)) (.slice (some ⟨W0.heap.size,0,none⟩) 0 0) []:=aD.fresh0 (aTc _) (aTm W0 95 []);have h5:=hid o1;have x1:Ext W0 (W0.alloc (.cells #[] 95)):=X_;have h6:=hid x1;clear o1 x1;go_enter func64,ntmps64;go_upto_region 1 with fail;rw [x7];have x8:=h8.cell 10 rfl;have ls:=h8.lt;go_wp2_with fail;clear x8 ls
 go_loopw [7,15] (fun u i wr=>∃k:Nat,k<=s.m/\i = .int .i64 (k:Nat)/\aD aH.cs W0.heap.size 95 5 wr u (s.seenTo p k)/\Ext W0 wr) (fun _ i _=>s.m - (intOf i).toNat)
 case atStart=>exact ⟨0,by omega,rfl,h5,h6⟩
 case round=>
  clear h5 h6
  obtain ⟨WA,rfl⟩:=i_ wr
  obtain ⟨k,hk,rfl,h2,hx⟩:=hrel;obtain ⟨HX,HR⟩:=h2_ hx h2;have zr:=hx.size
  rcases aUc k s.m with hlt|hge
  ·have XW:=hid (q3.trans hx)
   have bq:=h8.ext HX;obtain ⟨z9,y0,y1,y2,y4,y5,y6,y7,y8,y9,q0,q1⟩:=bq.q12;have sl:=bq.lt;clear bq;have bq:=q7.ext HX;obtain ⟨x9,z1⟩:=bq.q2;have dl:=bq.lt;clear bq;have bq:=x4.ext HX;obtain ⟨z4,z5,z6,z7,z8⟩:=bq.q5;have pl:=bq.lt;clear bq;have z3:=HO.seenTo_le p (aWc hlt)
   obtain ⟨F0,hF⟩:=e_ (s.seenTo p k)
   rw [hF] at z3 h2;obtain ⟨HF,x5⟩:=h2_ hF h2;obtain ⟨oa,oc,rfl,-⟩:=aD.form h2;clear hx h2 hF HR;go_wp2_with fail;have CH:=aBr s lo hi h0 _ _ _ k p WA (HV.ext hh XW) (aTl hh XW.size) HO hlt HP (HD.ext XW);refine CH.mono ?_;clear CH;rintro e w2 ⟨r,rfl,hr,x2⟩
   obtain ⟨L,hL⟩:=e_ (s.hits k p)
   rw [hL] at hr;have HL:=hid hL;have q4:L.length<=128:=hL▸HO.out.hits_le p hlt;obtain ⟨ra,rc,rfl,-⟩:=hr.form;obtain ⟨X2,h7⟩:=h2_ x2 hr;have zy:=x2.size;clear x2 hr hL;clear sl z9 y0 y1 y2 y4 y5 y6 y7 y8 y9 q0 q1 dl x9 z1 pl z4 z5 z6 z7 z8;go_wp2
   go_loopw [7,24] (fun u j wr=>∃jn:Nat,jn<=L.length/\j = .int .i64 (jn:Nat)/\aD aH.cs W0.heap.size 95 5 wr u (cW F0 (L.take jn))/\Ext w2 wr) (fun _ j _=>L.length - (intOf j).toNat)
   case atStart=>exact ⟨0,by omega,rfl,x5.ext X2,aTn _⟩
   case round=>
    obtain ⟨jn,hj,rfl,h3,h4⟩:=hrel;obtain ⟨h5,h6⟩:=h2_ h3 h4;have zq:=h4.size;obtain ⟨ia,ic,rfl,-⟩:=aD.form h3
    rcases aUc jn L.length with hjl|hjl
    ·obtain ⟨f,hf⟩:∃f,L[jn]?=some f:=⟨_,aTk hjl⟩
     obtain ⟨g,a6,he,-,a4,z2,a0,-,h1⟩:=aD.at (h7.ext h4) (fun _=>rfl) hf;simp only [aTw,true_and] at he;obtain ⟨rfl,rfl⟩:=he;have d0:=h1 0 (by decide);have d1:=h1 1 (by decide);have d2:=h1 2 (by decide);have d3:=h1 3 (by decide);have d4:=h1 4 (by decide);simp only [aH.cs,aUq,aTa,aTb] at d0 d1 d2 d3 d4;have x6:=hid (vY (l:=F0) hf)
     have q6:(cW F0 (L.take jn)).length<=100000:=by
      rw [jE,aT0];omega
     have q8:=hid q6
     obtain ⟨I0,hI⟩:=e_ (cW F0 (L.take jn))
     rw [hI] at h3;obtain ⟨HI,q9⟩:=h2_ hI h3;clear h1 hf h4 h3 q6 h5;rw [hI];clear hI;go_wp2_with fail;refine (wB _ _ _ f _ (q9.ext (show Ext _ (wr.alloc (.cells #[f.d,f.s,f.c,f.col,f.al] 95)) from X_)) (HI.out▸q8.out)).mono ?_;rintro e w3 ⟨v3,rfl,o3,x3⟩;have y3:Ext wr w3:=aTi (show Ext wr (wr.alloc (.cells #[f.d,f.s,f.c,f.col,f.al] 95)) from X_) x3;obtain ⟨P1,P2⟩:=h2_ (o3.low (lo':=W0.heap.size) (by rw [aTe];omega)) (h6.trans y3);clear o3 x3 y3;go_wp2;go_roundw
     case rel=>exact ⟨jn+1,by omega,by go_num,by rw [x6,HI];exact P1,P2⟩
     case measure=>simp [intOf];omega
    ·obtain rfl:jn=L.length:=by omega
     have P1:=hid (show aD aH.cs W0.heap.size 95 5 wr (.slice ia (cW F0 (L.take L.length)).length ic) (s.seenTo p (k+1)) by
      rw [Scn.seenTo_succ,HF,HL];have:=h5.out;rw [aUb] at this ⊢
      exact this)
     have P2:=hid (HX.trans (X2.trans h4));clear h3 h4;go_wp2;go_roundw
     case rel=>exact ⟨k+1,by omega,by go_num,P1,P2⟩
     case measure=>simp [intOf];omega
  ·obtain rfl:k=s.m:=by omega
   obtain ⟨X2,h7⟩:=h2_ (q3.trans hx) (HR.low (show w.heap.size<=W0.heap.size by omega));obtain ⟨oa,oc,rfl,-⟩:=aD.form h2;clear hx h2 HX;go_wp2;go_ret;exact ⟨_,rfl,h7,X2⟩
theorem aGk (c:Cam) (i j:Int) (hi:0<=i/\i<c.w) (hj:0<=j/\j<c.h) (hw:c.w<=100000) (hh:c.h<=100000) (w:World) :
  R_ 50 #[.agg c,i,j] w (.bool true):=by
 have h1:inB i 0 (c.w - 1)=true:=by rw [aG];omega
 have h2:inB j 0 (c.h - 1)=true:=by rw [aG];omega
 obtain ⟨H1,H2⟩:=h2_ h1 h2;clear h1 h2;go_enter func50,ntmps50;go_wp2_with (go_at_call 92;with_reducible first|(refine z_ (aI H1.out _) ?_)|(refine z_ (aI H2.out _) ?_));go_ret;exact ⟨rfl,X_⟩
theorem aAi (lo hi:Nat) (u:Value) (xs:List Int) (n:Int) (w:World) (hu:aS lo hi w u xs) (hn:1<=n/\n<=1000000) (hr:cD xs % n=r) :
  Z_ 121 #[u,n] w (.int .i64 r):=by
 have HU:=hid hu;obtain ⟨a,cap,rfl,-⟩:=hu.open;have hb:=gX xs
 obtain ⟨h,hh⟩:=e_ (cD xs)
 rw [hh] at hb hr;obtain ⟨HH,h0⟩:=h2_ hh hr;clear hu hr hh;go_enter func121,ntmps121;go_wp2_with fail;refine (sH lo hi _ xs _ HU).mono ?_;rw [HH];rintro e w1 ⟨rfl,rfl⟩;go_wp2;go_ret;exact ⟨cY h0,rfl⟩
theorem jL (i j:Int) (k:Nat) (q n:Int) (hl:∀y∈[i,j,((k:Nat):Int),q],I64 y) (hn:1<=n/\n<=1000000) (hr:cD [i,j,((k:Nat):Int),q] % n=r) (I J K:Nat) (w:World)
  (c1:w.cell? ⟨I,0,none⟩=some (.int .i64 i)) (c2:w.cell? ⟨J,0,none⟩=some (.int .i64 j)) (c3:w.cell? ⟨K,0,none⟩=some (.int .i64 (k:Nat))) :
  R_ 120 #[q,n,.pointer (some ⟨I,0,none⟩),.pointer (some ⟨J,0,none⟩),.pointer (some ⟨K,0,none⟩)] w (.int .i64 r):=by
 obtain ⟨HR,HL⟩:=h2_ hr hl;have b0:=aTm w 3 [i,j,(k:Nat),q];have HB:=hid b0;clear hr hl b0;go_enter func120,ntmps120;go_wp2_with fail;refine z_ (aAi 0 _ _ [i,j,(k:Nat),q] n _ (aCn HB HL) hn HR) ?_;go_wp2;go_ret;exact ⟨rfl,X_⟩
theorem aNx {r:Nat} (hq:k % side=q) (hr:k / side=r) {s p1 p2 p3 p4 p5 e1 e2:Int} (hs:((16 / side:Nat):Int)=s) (h1:cD [i,j,((k:Nat):Int),1] % s=p1) (h2:cD [i,j,((k:Nat):Int),2] % s=p2)
  (h3:cD [i,j,((k:Nat):Int),3] % 16=p3) (h4:cD [i,j,((k:Nat):Int),4] % 33=p4) (h5:cD [i,j,((k:Nat):Int),5] % 33=p5) (he1:(q:Int)*s=e1) (he2:(r:Int)*s=e2) :
  kZ i j side k=⟨i*16+e1+p1,j*16+e2+p2,p3,p4 - 16,p5 - 16⟩:=by
 subst he1 he2;unfold kZ;rw [hq,hr,hs,h1,h2,h3,h4,h5]
theorem aEf (hs:side=1\/side=2\/side=4) (hk:k<side*side):k % side<side/\k / side<side/\k<=15/\side*(16 / side)=16/\4<=16 / side/\16 / side<=16/\side<=4/\1<=side:=by
 have h1:k % side<side:=aV2 _ (by omega);have h2:k / side<side:=aVj hk
 rcases hs with rfl|rfl|rfl <;> simp at hk h1 h2 ⊢ <;> omega
theorem tT (i j:Int) (hi:0<=i/\i<=11) (hj:0<=j/\j<=11) (side:Nat) (hs:side=1\/side=2\/side=4) (w:World) :
  Calls aTg 70 #[i,j,(side:Nat)] w fun e w'=>∃r,e = .returned r/\aD Smp.cs w.heap.size 42 5 w' r (tJ i j side)/\Ext w w':=by
 have z8:∀(fn:Fn) (first cap:Array Value) (w:World),(Instr.makeFunc fn first cap).run aTg w = .ok (.func fn first cap) w:=fun _ _ _ _=>rfl;have z2:=hid hs
 have x8:1<=side/\side<=4:=by omega
 have z9:((side:Nat):Int)≠0:=by omega
 obtain ⟨N,hN⟩:=e_ (side*side)
 have z6:((side:Nat):Int)*((side:Nat):Int)=((N:Nat):Int):=by rw [<-hN];simp
 have z5:N<=16:=by rw [<-hN];exact aUh x8.2 x8.2
 obtain ⟨st,h7⟩:=e_ ((16 / side:Nat):Int)
 have t0:bCb 16 ((side:Nat):Int)=st:=by rw [<-h7,aVi (by omega)];rfl
 have z7:4<=st/\st<=16:=by rw [<-h7];rcases hs with rfl|rfl|rfl <;> decide
 obtain ⟨z4,HN⟩:=h2_ h7 hN;have bI:=(aTm w 3 [i]).ext (show Ext _ (((w.alloc (.cells #[i] 3)).alloc (.cells #[j] 3)).alloc (.cells #[] 42)) from X_);have bJ:=(aTm (w.alloc (.cells #[i] 3)) 3 [j]).ext (show Ext _ (((w.alloc (.cells #[i] 3)).alloc (.cells #[j] 3)).alloc (.cells #[] 42)) from X_);have bL:=aTm ((w.alloc (.cells #[i] 3)).alloc (.cells #[j] 3)) 42 [];rw [aTe] at bJ;rw [aTe,aTe] at bL;obtain ⟨HI,HJ,HL⟩:=h3_ bI bJ bL;clear hs h7 hN bI bJ bL;go_enter func70,ntmps70;go_wp2
 go_loopw [8,17] (fun v x wr=>∃(k:Nat) (xs:List Smp),k<=N/\x = .int .i64 (k:Nat)/\xs=(aT3 k).map (kZ i j side)/\aD Smp.cs (w.heap.size+1+1) 42 5 wr v xs/\Blk wr w.heap.size 3 [i]/\Blk wr (w.heap.size+1) 3 [j]/\Ext w wr) (fun _ x _=>N - (intOf x).toNat)
 case atStart=>exact ⟨0,[],by omega,rfl,rfl,aD.freshS (aTc _) HL,HI,HJ,X_⟩
 case round=>
  clear HI HJ HL;obtain ⟨k,xs,hk,rfl,h8,ho,bI,bJ,hx⟩:=hrel;obtain ⟨q8,HO,HI,HJ,HX⟩:=h5_ h8 ho bI bJ hx;obtain ⟨xa,xc,rfl,-⟩:=aD.form ho
  have h0:xs.length=k:=by rw [h8,aUn,aWd]
  have zz:=HJ.lt
  rcases aUc k N with hlt|hge
  ·obtain ⟨m1,m2,m3,m4,m5,m6,m7,m8⟩:=aEf z2 (show k<side*side by rw [HN];exact hlt)
   have t1:Int.tmod (k:Int) ((side:Nat):Int)=((k % side:Nat):Int):=by rw [aVu (by omega)];rfl
   have t2:bCb (k:Int) ((side:Nat):Int)=((k / side:Nat):Int):=by rw [aVi (by omega)];rfl
   obtain ⟨q,hq⟩:=e_ (k % side)
   obtain ⟨r,hr⟩:=e_ (k / side)
   obtain ⟨e1,x0⟩:=e_ ((q:Int)*st)
   obtain ⟨e2,x6⟩:=e_ ((r:Int)*st)
   rw [hq] at t1 m1;rw [hr] at t2 m2
   have q1:0<=e1/\e1<=64:=by
    rw [<-x0];have:=bK (a:=(q:Int)) (b:=st) (A:=4) (B:=16) (by omega) (by omega);exact ⟨aUw (by omega) (by omega),by omega⟩
   have q2:0<=e2/\e2<=64:=by
    rw [<-x6];have:=bK (a:=(r:Int)) (b:=st) (A:=4) (B:=16) (by omega) (by omega);exact ⟨aUw (by omega) (by omega),by omega⟩
   obtain ⟨p1,h5⟩:=e_ (cD [i,j,((k:Nat):Int),1] % st)
   obtain ⟨p2,h6⟩:=e_ (cD [i,j,((k:Nat):Int),2] % st)
   obtain ⟨p3,q3⟩:=e_ (cD [i,j,((k:Nat):Int),3] % 16)
   obtain ⟨p4,q4⟩:=e_ (cD [i,j,((k:Nat):Int),4] % 33)
   obtain ⟨p5,q5⟩:=e_ (cD [i,j,((k:Nat):Int),5] % 33)
   have b1:0<=p1/\p1<=15:=by rw [<-h5];exact ⟨aXr _ (by omega),by have:=aW0 (cD [i,j,((k:Nat):Int),1]) (show 0<st by omega);omega⟩
   have b2:0<=p2/\p2<=15:=by rw [<-h6];exact ⟨aXr _ (by omega),by have:=aW0 (cD [i,j,((k:Nat):Int),2]) (show 0<st by omega);omega⟩
   have b3:0<=p3/\p3<=15:=by omega
   have b4:0<=p4/\p4<=32:=by omega
   have b5:0<=p5/\p5<=32:=by omega
   obtain ⟨P1,P2,P3,P4,P5,z3⟩:=h6_ h5 h6 q3 q4 q5 (aNx hq hr z4 h5 h6 q3 q4 q5 x0 x6)
   have h3:=hid (show ∀c:Int,(0<=c/\c<=10)->∀y∈[i,j,((k:Nat):Int),c],I64 y from fun c hc y hy=>by
    simp only [aTz,aTt,or_false] at hy
    rcases hy with rfl|rfl|rfl|rfl <;> exact ⟨by omega,by omega⟩)
   obtain ⟨h9,q7⟩:=h2_ h0 (aTm wr 3 [(k:Nat)]);rw [h0];have z0:Hid (aD Smp.cs (w.heap.size+1+1) 42 5 wr (.slice xa k xc) xs):=hid (h0▸ho);have y0:w.heap.size+1<wr.heap.size:=zz;clear h5 h6 q3 q4 q5 h8 ho bI bJ hx h0 hq hr m3 m4 m5 m6 HO;go_wp2_with fail
   obtain ⟨WB,q9⟩:=e_ (wr.alloc (.cells #[(k:Nat)] 3))
   have xB:Ext wr (wr.alloc (.cells #[(k:Nat)] 3)):=X_;have kB:=q7.out;rw [q9] at xB kB ⊢;obtain ⟨XB,KB⟩:=h2_ xB kB;have zB:=kB.lt;have CL:=hid (fun (W':World) (x:Ext WB W')=>(⟨((HI.ext xB).ext x).cell 0 rfl,((HJ.ext xB).ext x).cell 0 rfl,(kB.ext x).cell 0 rfl⟩:_/\_/\_));have iI:=(HI.ext xB).cell 0 rfl;have iJ:=(HJ.ext xB).cell 0 rfl;have iK:=kB.cell 0 rfl;clear q9 xB kB q7;refine aJ [([0,1,2,3,4,5,6,7,8,9,10,13,14,15,16,17,18,19,20,21,22,25,27,30],11),([12],23),([24],26),([],28),([29],31),([32,33],34),([],35),([],36)] 36 (fun w'=>∃d,w'=gA (C3f w.heap.size (w.heap.size+1) wr.heap.size) _ d) (aV8 _ _) ?_;refine sc_ fun K hK=>?_;go_wp2_with fail;obtain ⟨a1,a2,a3⟩:=CL _ (aUi (aTn WB));refine r_ (jL i j k 1 st (h3 1 (by decide)) ⟨by omega,by omega⟩ P1 w.heap.size (w.heap.size+1) wr.heap.size _ a1 a2 a3) fun w1 x1=>?_;have Y1:=hid (aTi (w:=WB) (aUi (aTn WB)) x1);clear x1 a1 a2 a3;go_wp2;refine hK _ _ (.inr (aUl fun a ha=>Y1.block (by rcases ha with ha|ha|ha <;> rw [ha] <;> omega))) ?_;clear hK K;clear iI iJ iK;refine sc_ fun K hK=>?_;go_wp2_with fail;obtain ⟨a1,a2,a3⟩:=CL _ Y1;refine r_ (jL i j k 2 st (h3 2 (by decide)) ⟨by omega,by omega⟩ P2 w.heap.size (w.heap.size+1) wr.heap.size _ a1 a2 a3) fun w2 x2=>?_;have Y2:=hid (aTi (w:=WB) Y1 x2);clear x2 a1 a2 a3;go_wp2;refine hK _ _ (.inr (aUl fun a ha=>Y2.block (by rcases ha with ha|ha|ha <;> rw [ha] <;> omega))) ?_;clear hK K;refine sc_ fun K hK=>?_;go_wp2_with fail;obtain ⟨a1,a2,a3⟩:=CL _ Y2;refine r_ (jL i j k 3 16 (h3 3 (by decide)) ⟨by omega,by omega⟩ P3 w.heap.size (w.heap.size+1) wr.heap.size _ a1 a2 a3) fun w3 x3=>?_;have Y3:=hid (aTi (w:=WB) Y2 x3);clear x3 a1 a2 a3;go_wp2;refine hK _ _ (.inr (aUl fun a ha=>Y3.block (by rcases ha with ha|ha|ha <;> rw [ha] <;> omega))) ?_;clear hK K;refine sc_ fun K hK=>?_;go_wp2_with fail;obtain ⟨a1,a2,a3⟩:=CL _ Y3;refine r_ (jL i j k 4 33 (h3 4 (by decide)) ⟨by omega,by omega⟩ P4 w.heap.size (w.heap.size+1) wr.heap.size _ a1 a2 a3) fun w4 x4=>?_;have Y4:=hid (aTi (w:=WB) Y3 x4);clear x4 a1 a2 a3;go_wp2;refine hK _ _ (.inr (aUl fun a ha=>Y4.block (by rcases ha with ha|ha|ha <;> rw [ha] <;> omega))) ?_;clear hK K;refine sc_ fun K hK=>?_;go_wp2_with fail;obtain ⟨a1,a2,a3⟩:=CL _ Y4;refine r_ (jL i j k 5 33 (h3 5 (by decide)) ⟨by omega,by omega⟩ P5 w.heap.size (w.heap.size+1) wr.heap.size _ a1 a2 a3) fun w5 x5=>?_;have Y5:=hid (aTi (w:=WB) Y4 x5);clear x5 a1 a2 a3;go_wp2;refine hK _ _ (.inr (aUl fun a ha=>Y5.block (by rcases ha with ha|ha|ha <;> rw [ha] <;> omega))) ?_;clear hK K;refine sc_ fun K hK=>?_;go_wp2_with fail;have bE:=aTm w5 42 [.int .i64 (i*16+e1+p1),.int .i64 (j*16+e2+p2),p3,.int .i64 (p4 - 16),.int .i64 (p5 - 16)];have HE:=hid bE;have xE:Ext WB (w5.alloc (.cells #[.int .i64 (i*16+e1+p1),.int .i64 (j*16+e2+p2),p3,.int .i64 (p4 - 16),.int .i64 (p5 - 16)] 42)):=aTi Y5 X_;have XE:=hid xE;clear bE xE;go_wp2;refine hK _ _ (.inr (aUl fun a ha=>XE.block (by rcases ha with ha|ha|ha <;> rw [ha] <;> omega))) ?_;clear hK K
   have x7:w.heap.size+1+1<=(w5.alloc (.cells #[.int .i64 (i*16+e1+p1),.int .i64 (j*16+e2+p2),p3,.int .i64 (p4 - 16),.int .i64 (p5 - 16)] 42)).heap.size:=by
    have:=XE.size;omega
   obtain ⟨x9,O6⟩:=h2_ x7 (z0.ext (XB.trans XE));clear x7;refine sc_ fun K hK=>?_
   refine bZ Smp.cs 42 5 40 _ _ rfl _ _ 103 rfl underlying103 aCo rfl (by decide) (by decide) (fun _=>rfl) (w.heap.size+1+1) (.slice xa k xc) xs (by rfl) O6 ⟨i*16+e1+p1,j*16+e2+p2,p3,p4 - 16,p5 - 16⟩ w5.heap.size (by rfl) (fun jj hj=>by
    rcases (show jj=0\/jj=1\/jj=2\/jj=3\/jj=4 by omega) with rfl|rfl|rfl|rfl|rfl
    ·exact HE.cell 0 rfl
    ·exact HE.cell 1 rfl
    ·exact HE.cell 2 rfl
    ·exact HE.cell 3 rfl
    ·exact HE.cell 4 rfl) (Smp.one _) (by rw [h9];omega) x9 ?_
   intro v8 w8 h1 hg;have kI:=(HI.ext (XB.trans XE)).grown hg (fun e=>by have:=aD.lt O6 _ e.symm;omega);have kJ:=(HJ.ext (XB.trans XE)).grown hg (fun e=>by have:=aD.lt O6 _ e.symm;omega);have h4:=aD.rowF O6
   have kK:=(KB.ext XE).grown hg (fun e=>by
    obtain ⟨_,c,hc⟩:=h4 _ e.symm
    exact (KB.ext XE).noCells (by decide) c hc)
   obtain ⟨X8,KI,KJ⟩:=h3_ (aUo (HX.trans (XB.trans XE)) hg (fun b hb=>by have:=(aD.lt O6 b hb).1;omega)) kI kJ
   have SK:Hid (∀a,C3f w.heap.size (w.heap.size+1) wr.heap.size a->w8.heap[a.block]?=WB.heap[a.block]?):=hid (fun a ha=>by
    have e1:=HI.ext XB;have e2:=HJ.ext XB;have e3:=KB.out;unfold Blk at kI kJ kK e1 e2 e3
    rcases ha with ha|ha|ha <;> rw [ha]
    ·rw [kI,e1]
    ·rw [kJ,e2]
    ·rw [kK,e3])
   obtain ⟨q6,h2⟩:=e_ (xs++[(⟨i*16+e1+p1,j*16+e2+p2,p3,p4 - 16,p5 - 16⟩:Smp)])
   rw [h2] at h1;obtain ⟨q0,z1⟩:=h2_ h2 h1;obtain ⟨va,vc,rfl,-⟩:=aD.form h1;clear h1 hg h2 kI kJ kK h4;go_wp2;refine hK _ _ (.inr (aUl fun a ha=>SK a ha)) ?_;clear hK K;refine sc_ fun K hK=>?_;go_wp2;refine l_ hK (aP ?_);clear hK K;go_wp2;go_roundw
   case rel=>
    refine ⟨k+1,q6,by omega,by go_num,?_,z1,KI,KJ,X8⟩;rw [<-q0,<-z3,q8];exact (nZ _ _).symm
   case measure=>simp [intOf];omega
  ·obtain rfl:k=N:=by omega
   have HF:=hid (show xs=tJ i j side by rw [q8,<-HN];rfl);clear h8 h0;go_wp2;go_ret;refine ⟨_,rfl,?_,HX⟩;rw [<-HF];exact aD.low HO (by omega)
theorem qG:(Tryz.prog.info? 183).map (fun i=>(i.zero,i.size,i.bytes))=some (some (.agg #[(),()]),2,16):=by kernel_rfl
theorem Stp.one (x:Stp):∀u∈x.cs,u.oneCell'=true:=by
 intro u hu;simp only [Stp.cs,aTz,aTt,or_false] at hu
 rcases hu with rfl|rfl <;> rfl
theorem kW {l:List Stp} (h:aD Stp.cs lo 183 2 w v l) (hr:lQ l=r) :
  Z_ 227 #[v] w (.int .i64 r):=by
 obtain ⟨a,cap,rfl,-⟩:=h.form
 rcases Nat.eq_zero_or_pos l.length with h0|hp
 ·have hn:l=[]:=List.eq_nil_of_length_eq_zero h0
  subst hn
  have e1:r=65536:=by rw [<-hr];rfl
  subst e1;clear h hr h0;go_enter func227,ntmps227;go_wp2;go_ret;exact ⟨rfl,rfl⟩
 ·obtain ⟨n,hn⟩:∃n,l.length=n+1:=⟨l.length - 1,by omega⟩
  obtain ⟨x,hx⟩:∃x,l[n]?=some x:=⟨_,aTk (by omega)⟩
  have e1:r=x.w:=by
   rw [<-hr];unfold lQ;rw [List.getLast?_eq_getElem?,hn,Nat.add_sub_cancel,hx]
  subst e1;obtain ⟨g,h3,he,-,h5,h2,h4,-,h1⟩:=aD.at h (fun _=>rfl) hx;simp only [aTw,true_and] at he;obtain ⟨rfl,rfl⟩:=he;have d1:=h1 1 (by decide);simp only [Stp.cs,aTa,aTb] at d1
  have e2:((n+1:Nat):Int) - 1=(n:Nat):=by omega
  rw [hn];rw [hn] at h2;clear h hr hx hp hn h1;go_enter func227,ntmps227;go_wp2;go_ret;exact ⟨rfl,rfl⟩
theorem aAj {l:List Stp} (h:aD Stp.cs lo 183 2 w v l) (d wt:Int) (hlo:lo<=w.heap.size) (hl:l.length<=64) :
  Calls aTg 177 #[v,d,wt] w fun e w'=>∃v',e = .returned v'/\aD Stp.cs lo 183 2 w' v' (fB l d wt)/\∀W,Ext W w->W.heap.size<=lo->Ext W w':=by
 have HO:=hid h;obtain ⟨a,cap,rfl,-⟩:=h.form
 obtain ⟨r,hr⟩:=e_ (lQ l)
 have HR:=hid hr
 by_cases h1:wt<r
 ·by_cases h2:l.length<64
  ·have e1:fB l d wt=l++[⟨d,wt⟩]:=by
    unfold fB;rw [if_pos ⟨by rw [hr];exact h1,h2⟩]
   rw [e1];have hB:=aTm w 183 [d,wt];have HB:=hid hB
   have h0:l.length<1000000:=by omega
   have HL:=hid h0;clear h hr e1 hB h0;go_enter func177,ntmps177;go_wp2_with fail;refine z_ (kW HO HR) ?_
   go_wp2_with (at_builtin;refine bZ Stp.cs 183 2 16 _ _ rfl _ _ 101 rfl underlying101 qG rfl (by decide) (by decide) (fun _=>rfl) lo (.slice a l.length cap) l rfl (HO.ext X_) ⟨d,wt⟩ w.heap.size rfl (fun jj hj=>by
     rcases (show jj=0\/jj=1 by omega) with rfl|rfl
     ·exact HB.cell 0 rfl
     ·exact HB.cell 1 rfl) (Stp.one _) HL (by rw [aTe];omega) ?_;intro v2 w2 hown hg)
   go_ret;exact ⟨_,rfl,hown,fun W hx hW=>aUo (hx.trans X_) hg (fun k hk=>aTl hW (aD.lt HO k hk).1)⟩
  ·have e1:fB l d wt=l:=by
    unfold fB;rw [if_neg (fun hh=>h2 hh.2)]
   rw [e1];clear h hr e1;go_enter func177,ntmps177;go_wp2_with (go_at_call 227;refine z_ (kW HO HR) ?_);go_ret;exact ⟨_,rfl,HO,fun W hx hW=>hx⟩
 ·have e1:fB l d wt=l:=by
   unfold fB;rw [if_neg (fun hh=>h1 (by rw [<-hr];exact hh.1))]
  rw [e1];clear h hr e1;go_enter func177,ntmps177;go_wp2_with (go_at_call 227;refine z_ (kW HO HR) ?_);go_ret;exact ⟨_,rfl,HO,fun W hx hW=>hx⟩
theorem aGl {fs:List aH} {f:aH} (h:fs[k]?=some f) (hn:fs[k+1]?=none):aW fs (k+1)=(fB (aW fs k).1 f.d (dN (aW fs k).2 f.al),dN (aW fs k).2 f.al):=by
 show (match fs[k]? with|none=>aW fs k|some f=>_)=_
 rw [h];simp only [hn,if_true]
theorem aGm {fs:List aH} {f g:aH} (h:fs[k]?=some f) (hn:fs[k+1]?=some g) (hl:f.d<g.d):aW fs (k+1)=(fB (aW fs k).1 f.d (dN (aW fs k).2 f.al),dN (aW fs k).2 f.al):=by
 show (match fs[k]? with|none=>aW fs k|some f=>_)=_
 rw [h];simp only [hn,hl,decide_true,if_true]
theorem aGn {fs:List aH} {f g:aH} (h:fs[k]?=some f) (hn:fs[k+1]?=some g) (hl : ¬f.d<g.d):aW fs (k+1)=((aW fs k).1,dN (aW fs k).2 f.al):=by
 show (match fs[k]? with|none=>aW fs k|some f=>_)=_
 rw [h];simp only [hn,hl,decide_false,aV0,if_false]
theorem Stp.sm {fs:List aH} (hs:jN fs) (hr:∀f∈fs,-1000000<=f.d/\f.d<=1000000) (hk:k<=fs.length):(aW fs k).1.length<=64/\0<=(aW fs k).2/\(aW fs k).2<=65536:=by
 obtain ⟨a,b,-,-⟩:=aAb hs hr k hk;exact ⟨a.len,b.1,Int.le_trans b.2 (aGh a).1⟩
theorem aIz {fs:List aH} (h:aD aH.cs lo 95 5 w v fs) (hs:jN fs) (hr:∀f∈fs,-1000000<=f.d/\f.d<=1000000) :
  Calls aTg 122 #[v] w fun e w'=>∃r,e = .returned r/\aD Stp.cs w.heap.size 183 2 w' r (zZ fs)/\Ext w w':=by
 obtain ⟨HO,HS⟩:=h2_ h (fun k (hk:k<=fs.length)=>Stp.sm hs hr hk);obtain ⟨a,cap,rfl,-⟩:=h.form;have hL:=aTm w 183 [];have HL:=hid hL;clear h hs hr hL;go_enter func122,ntmps122;go_wp2
 go_loopw [3,4,10] (fun u t x wr=>∃k:Nat,k<=fs.length/\x = .int .i64 (k:Nat)/\t = .int .i64 (aW fs k).2/\aD Stp.cs w.heap.size 183 2 wr u (aW fs k).1/\Ext w wr) (fun _ _ x _=>fs.length - (intOf x).toNat)
 case atStart=>exact ⟨0,by omega,rfl,rfl,aD.freshS (aTc _) HL,X_⟩
 case round=>
  clear HL;obtain ⟨k,hk,rfl,rfl,hu,hx⟩:=hrel;obtain ⟨b1,b2,b3⟩:=HS k hk
  obtain ⟨X,hX⟩:=e_ ((aW fs k).1)
  obtain ⟨t,ht⟩:=e_ ((aW fs k).2)
  rw [hX] at hu b1;rw [ht] at b2 b3;rw [ht];obtain ⟨HX,HT,HU,HE⟩:=h4_ hX ht hu hx;obtain ⟨ua,uc,rfl,-⟩:=aD.form hu
  rcases aUc k fs.length with hlt|hge
  ·obtain ⟨f,hf⟩:∃f,fs[k]?=some f:=⟨_,aTk hlt⟩
   obtain ⟨g,q1,he,-,q6,q3,q5,-,h0⟩:=aD.at (aD.ext HO hx) (fun _=>rfl) hf;simp only [aTw,true_and] at he;obtain ⟨rfl,rfl⟩:=he;have c0:=h0 0 (by decide);have c1:=h0 1 (by decide);have c2:=h0 2 (by decide);have c3:=h0 3 (by decide);have c4:=h0 4 (by decide);simp only [aH.cs,aUq,aTa,aTb] at c0 c1 c2 c3 c4;have HF:=hid hf
   obtain ⟨ca,h5⟩:=e_ (aQ f.al 0 256)
   have ba:=xU f.al;rw [h5] at ba
   obtain ⟨p,hp⟩:=e_ (t*ca)
   have bp:0<=p/\p<=t*256:=hp▸⟨aUw b2 ba.1,Int.mul_le_mul_of_nonneg_left ba.2 b2⟩
   obtain ⟨q,hq⟩:=e_ (p / 256)
   have bq:0<=q/\q<=t:=by omega
   have hw:dN (aW fs k).2 f.al=t - q:=by
    unfold dN;rw [ht,h5,hp,hq]
   obtain ⟨HW,HA⟩:=h2_ hw h5
   have i1 : -9223372036854775808<=p/\p<=9223372036854775807:=by omega
   have zw:=hx.size;have q7:=hid (fun W' (x:Ext wr W')=>aD.ext HU x);clear hf h0 h5 hu hx hX ht hw HS
   obtain ⟨wt,h7⟩:=e_ (t - q)
   have bw:0<=wt/\wt<=65536:=by omega
   have xb:Ext wr (wr.alloc (.cells #[f.d,f.s,f.c,f.col,f.al] 95)):=X_;have XB:=hid xb;clear xb
   rcases aUc (k+1) fs.length with hlt2|hge2
   ·obtain ⟨f2,h6⟩:∃f,fs[k+1]?=some f:=⟨_,aTk hlt2⟩
    obtain ⟨g2,q2,h9,-,-,-,-,-,h1⟩:=aD.at (aD.ext HO HE) (fun _=>rfl) h6;simp only [aTw,true_and,aTf,aUj,and_true] at h9;obtain ⟨rfl,rfl⟩:=h9;have d0:=h1 0 (by decide);simp only [aH.cs,aUq,aTa,aTb] at d0;have h8:=hid h6
    have q4:(((k:Nat):Int)+1==((fs.length:Nat):Int))=false:=by simp;omega
    clear h1 h6
    by_cases hd:f.d<f2.d
    ·have h2:=aGm HF h8 hd
     rw [HX,HW,h7] at h2;have h3:=hid h2;clear h2;go_wp2_with (go_at_call 81;refine z_ (dG HA _) ?_)
     go_quiet (fail)
     go_wp2_with fail;refine (aAj (HU.ext (XB.trans X_)) f.d wt (Ext.size (HE.trans (XB.trans X_))) b1).mono ?_;rintro e w4 ⟨v4,rfl,o4,h4⟩;obtain ⟨X4,O4⟩:=h2_ (h4 w (HE.trans (XB.trans X_)) (aTc _)) o4;obtain ⟨va,vc,rfl,-⟩:=aD.form o4;clear o4 h4;go_wp2;go_roundw
     case rel=>
      refine ⟨k+1,by omega,by go_num,by rw [h3],?_,X4⟩;rw [h3];exact O4
     case measure=>simp [intOf];omega
    ·have h2:=aGn HF h8 hd
     rw [HX,HW,h7] at h2;have h3:=hid h2;clear h2;go_wp2_with (go_at_call 81;refine z_ (dG HA _) ?_)
     go_quiet (fail)
     go_wp2;go_roundw
     case rel=>
      refine ⟨k+1,by omega,by go_num,by rw [h3],?_,aTi HE (XB.trans X_)⟩;rw [h3];exact HU.ext (XB.trans X_)
     case measure=>simp [intOf];omega
   ·have q0:fs[k+1]?=none:=List.getElem?_eq_none (by omega)
    have h2:=aGl HF q0;rw [HX,HW,h7] at h2;have h3:=hid h2
    have q4:((k:Nat):Int)+1=((fs.length:Nat):Int):=by omega
    clear h2 q0;go_wp2_with (go_at_call 81;refine z_ (dG HA _) ?_)
    go_quiet (fail)
    go_wp2_with fail;refine (aAj (HU.ext (XB.trans X_)) f.d wt (Ext.size (HE.trans (XB.trans X_))) b1).mono ?_;rintro e w4 ⟨v4,rfl,o4,h4⟩;obtain ⟨X4,O4⟩:=h2_ (h4 w (HE.trans (XB.trans X_)) (aTc _)) o4;obtain ⟨va,vc,rfl,-⟩:=aD.form o4;clear o4 h4;go_wp2;go_roundw
    case rel=>
     refine ⟨k+1,by omega,by go_num,by rw [h3],?_,X4⟩;rw [h3];exact O4
    case measure=>simp [intOf];omega
  ·obtain rfl:k=fs.length:=by omega
   have HF:=hid (show X=zZ fs by rw [<-HX];rfl);clear hu hx hX ht;go_wp2;go_ret;exact ⟨_,rfl,HF.out▸HU.out,HE⟩
theorem aGo {fs:List aH} {f:aH} {P:aH->Bool} (h:fs[k]?=some f) (hp:P f=true):cW [] ((fs.take (k+1)).filter P)=mR f (cW [] ((fs.take k).filter P)):=by
 obtain ⟨hk,rfl⟩:=aTd.1 h;rw [aT6 hk,bCt,mC,List.filter_cons_of_pos hp]
 rfl
theorem aJ4 {fs:List aH} {f:aH} {P:aH->Bool} (h:fs[k]?=some f) (hp:P f=false):cW [] ((fs.take (k+1)).filter P)=cW [] ((fs.take k).filter P):=by
 obtain ⟨hk,rfl⟩:=aTd.1 h;rw [aT6 hk,bCt,List.filter_cons_of_neg (by rw [hp];decide),List.filter_nil,aVw]
theorem aEg {fs:List aH} {P:aH->Bool}:(cW [] ((fs.take k).filter P)).length<=fs.length:=by
 rw [jE];have:=List.length_filter_le P (fs.take k);have:=List.length_take_le k fs;rw [aT0] at *;simp only [aVp];omega
theorem aI0 {fs:List aH} (h:aD aH.cs lo 95 5 w v fs) (hl:fs.length<=100000) :
  Calls aTg 71 #[v] w fun e w'=>∃r,e = .returned r/\aD Stp.cs w.heap.size 183 2 w' r (fT fs)/\Ext w w':=by
 have HO:=hid h;obtain ⟨a,cap,rfl,-⟩:=h.form;clear h;go_enter func71,ntmps71;go_wp2_with fail;refine (pH _).mono ?_;rintro e w1 ⟨rfl,o1,x1⟩;obtain ⟨h2,h3⟩:=h2_ o1 x1;clear o1 x1;go_wp2
 go_loopw [9] (fun x wr=>∃(k:Nat) (vv:Value),k<=fs.length/\x = .int .i64 (k:Nat)/\zR w.heap.size wr w.heap.size (cW [] ((fs.take k).filter fun f=>inB f.d (-1000000) 1000000)) vv/\Ext w wr) (fun x _=>fs.length - (intOf x).toNat)
 case atStart=>exact ⟨0,_,by omega,rfl,h2,h3⟩
 case round=>
  clear h2 h3;obtain ⟨k,vv,hk,rfl,ho,hx⟩:=hrel;obtain ⟨HR,HX⟩:=h2_ ho hx;have zr:=ho.box.lt
  rcases aUc k fs.length with hlt|hge
  ·obtain ⟨f,hf⟩:∃f,fs[k]?=some f:=⟨_,aTk hlt⟩
   obtain ⟨g,h7,he,-,q2,h8,q1,-,h0⟩:=aD.at (aD.ext HO hx) (fun _=>rfl) hf;simp only [aTw,true_and] at he;obtain ⟨rfl,rfl⟩:=he;have c0:=h0 0 (by decide);have c1:=h0 1 (by decide);have c2:=h0 2 (by decide);have c3:=h0 3 (by decide);have c4:=h0 4 (by decide);simp only [aH.cs,aUq,aTa,aTb] at c0 c1 c2 c3 c4;have xb:Ext wr (wr.alloc (.cells #[f.d,f.s,f.c,f.col,f.al] 95)):=X_;have XB:=hid xb
   obtain ⟨b,hb⟩:=e_ (inB f.d (-1000000) 1000000)
   have HB:=hid hb;have h9:=aEg (fs:=fs) (k:=k) (P:=fun f=>inB f.d (-1000000) 1000000);have HF:=hid hf
   obtain ⟨F,hF⟩:=e_ (cW [] ((fs.take k).filter fun f=>inB f.d (-1000000) 1000000))
   rw [hF] at ho h9;obtain ⟨q0,HR⟩:=h2_ hF ho
   cases b
   ·have hs:=aJ4 (P:=fun f=>inB f.d (-1000000) 1000000) hf hb
    rw [hF] at hs;have HS:=hid hs;clear hf h0 ho hx xb hb hF hs;go_wp2_with (go_at_call 92;refine z_ (aI HB _) ?_);go_roundw
    case rel=>exact ⟨k+1,vv,by omega,by go_num,by rw [HS];exact HR.ext XB,HX.trans XB⟩
    case measure=>simp [intOf];omega
   ·have hs:=aGo (P:=fun f=>inB f.d (-1000000) 1000000) hf hb
    rw [hF] at hs;have HS:=hid hs
    have h4:F.length<=100000:=by omega
    have h5:=hid h4;clear hf h0 ho hx xb hb hF hs h4;go_wp2_with fail;refine z_ (aI HB _) ?_;go_wp2_with fail;refine (vX (HR.ext XB) f h5).mono ?_;rintro e w3 ⟨v3,rfl,o3,k3,-,-⟩;have P1:=hid o3;have P2:Hid (Ext w w3):=hid (k3.up (HX.trans XB) (aTc _));clear o3 k3;go_wp2;go_roundw
    case rel=>exact ⟨k+1,v3,by omega,by go_num,by rw [HS];exact P1,P2⟩
    case measure=>simp [intOf];omega
  ·obtain rfl:k=fs.length:=by omega
   have c0:=HR.box.cell 0 rfl
   obtain ⟨F,hF⟩:=e_ (aAa fs)
   have h1:zR w.heap.size wr w.heap.size F vv:=by
    rw [<-hF];have:=HR.out;rw [aUb] at this;exact this
   obtain ⟨HS,HM,h6⟩:=h3_ (show jN F from hF▸sB fs) (show ∀f∈F,-1000000<=f.d/\f.d<=1000000 from fun f hf=>(aCm f (hF▸hf)).2) h1;obtain ⟨oa,oc,rfl,-⟩:=h1.row.form;have HD:=hid (show zZ F=fT fs by rw [<-hF];rfl);clear ho hx h1 hF HR;go_wp2_with fail;refine (aIz h6.row HS HM).mono ?_;rintro e w3 ⟨r,rfl,hr,x3⟩;obtain ⟨ra,rc,rfl,-⟩:=hr.form;obtain ⟨HR,X3⟩:=h2_ hr (HX.trans x3);have zz:=HX.size;clear hr x3;go_wp2;go_ret;exact ⟨_,rfl,HD.out▸aD.low HR (by omega),X3⟩
def fU (lo:Nat) (w:World) (v:Value) (ls:List (List Stp)):Prop:=∃us:List Value,us.length=ls.length/\aD (fun u=>[u]) lo 101 1 w v us/\(∀(k:Nat) (u:Value) (l:List Stp),us[k]?=some u->ls[k]?=some l->aD Stp.cs lo 183 2 w u l)/\Apt us
theorem fU.low {lo':Nat} {ls:List (List Stp)} (h:fU lo w v ls) (hl:lo'<=lo):fU lo' w v ls:=by
 obtain ⟨us,h1,h2,h3,h4⟩:=h;exact ⟨us,h1,h2.low hl,fun k u l hu hk=>(h3 k u l hu hk).low hl,h4⟩
theorem fU.rowLt {ls:List (List Stp)} (h1:us.length=ls.length) (h3:∀(k:Nat) (u:Value) (l:List Stp),us[k]?=some u->ls[k]?=some l->aD Stp.cs lo 183 2 w u l):∀u∈us,∀k,u.ownBlock=some k->k<w.heap.size:=by
 intro u hu k hk;obtain ⟨i,hi,rfl⟩:=aUf hu;exact ((h3 i us[i] (ls[i]'(by omega)) (by simp [hi]) (by simp [show i<ls.length by omega])).lt k hk).2
theorem aD.grownD {lo':Nat} {r:Value} {l:List Stp} (h:aD Stp.cs lo 183 2 w r l) (ho:aD (fun u=>[u]) lo' 101 1 w v us) (hg:w.grownBy w' v.ownBlock):aD Stp.cs lo 183 2 w' r l:=
 h.grownE hg (e':=101) (by decide) (fun k hk=>by
  obtain ⟨_,c,hc⟩:=aD.rowF ho k hk
  exact ⟨c,hc⟩)
theorem fU.push {v' r:Value} {ls:List (List Stp)} {l:List Stp} (h1:us.length=ls.length) (h2:aD (fun u=>[u]) lo 101 1 w v us) (h3:∀(k:Nat) (u:Value) (l:List Stp),us[k]?=some u->ls[k]?=some l->aD Stp.cs lo 183 2 w u l)
  (hr:aD Stp.cs lo 183 2 w r l) (hg:w.grownBy w' v.ownBlock) (hown:aD (fun u=>[u]) lo 101 1 w' v' (us++[r])) (h4:Apt us) (hn:∀k,r.ownBlock=some k->∀u∈us,u.ownBlock≠some k):fU lo w' v' (ls++[l]):=by
 refine ⟨us++[r],by simp [h1],hown,fun k u l' hu hl=>?_,aW9.2 ⟨h4,aXd _ _,fun u hu v hv k hk=>by
  rw [aVa] at hv;subst hv
  exact fun e=>hn k e u hu hk⟩⟩
 rcases aUc k us.length with hk|hk
 ·rw [aUm hk] at hu
  rw [aUm (by omega)] at hl;exact (h3 k u l' hu hl).grownD h2 hg
 ·have h5:=(aTd.1 hu).1
  simp at h5
  have h0:k - us.length=0:=by omega
  rw [aT9 hk,h0] at hu;rw [aT9 (by omega),show k - ls.length=0 by omega] at hl
  obtain rfl:r=u:=by simpa using hu
  obtain rfl:l=l':=by simpa using hl
  exact hr.grownD h2 hg
theorem aCr:(Tryz.prog.info? 101).map (fun i=>(i.zero,i.size,i.bytes))=some (some (.slice none 0 0),1,24):=by kernel_rfl
theorem Scn.Ok.seen_le {s:Scn} (ho:s.Ok) (p:Smp):(s.seen p).length<=100000:=by
 have h:=ho.seenTo_le p (aTc s.m);have:=ho.m
 show (s.seenTo p s.m).length<=100000
 omega
def Scn.deeps (s:Scn) (i j:Int) (sd:Nat) (k:Nat):List (List Stp):=((tJ i j sd).take k).map fun p=>fT (s.seen p)
theorem Scn.deeps_succ {s:Scn} {p:Smp} (h:(tJ i j sd)[k]?=some p):s.deeps i j sd (k+1)=s.deeps i j sd k++[fT (s.seen p)]:=by
 obtain ⟨hk,rfl⟩:=aTd.1 h;unfold Scn.deeps;rw [aT6 hk,aVq,aXm]
theorem Scn.deeps_ok {s:Scn}:∀l∈s.deeps i j sd k,tK l:=by
 intro l hl;obtain ⟨p,-,rfl⟩:=List.mem_map.1 hl;exact aNr _
theorem Scn.deeps_len {s:Scn} (hk:k<=sd*sd):(s.deeps i j sd k).length=k:=by
 unfold Scn.deeps;rw [aUn,aT0,gG];omega
theorem aAk (s:Scn) (lo hi:Nat) (v:Value) (i j:Int) (sd:Nat) (w:World) (hv:s.R lo hi w v) (hh:hi<=w.heap.size) (ho:s.Ok) (hsm:s.small) (hsd:s.side=(sd:Nat)) (hi0:0<=i/\i<s.c.w) (hj0:0<=j/\j<s.c.h) :
  Calls aTg 28 #[v,i,j] w fun e w'=>∃r,e = .returned r/\fU w.heap.size w' r (s.deeps i j sd (sd*sd))/\Ext w w':=by
 have h8:sd=1\/sd=2\/sd=4:=by have:=ho.side;omega
 have g4:=ho.c.w;have g3:=ho.c.h;obtain ⟨d5,HV⟩:=h2_ (Scn.okB_iff.2 ho) hv;have g5:=ho.m;obtain ⟨a1,c1,a2,c2,a3,c3,rfl⟩:=hv.formV;obtain ⟨HO,y6⟩:=h2_ ho hsm;have x0:Ext w (w.alloc (.cells (sA_ s a1 c1 a2 c2 a3 c3) 40)):=X_;have bS:=aTm w 40 (sL_ s a1 c1 a2 c2 a3 c3)
 obtain ⟨W0,q0⟩:=e_ (w.alloc (.cells (sA_ s a1 c1 a2 c2 a3 c3) 40))
 rw [q0] at x0;have bS:Blk W0 w.heap.size 40 (sL_ s a1 c1 a2 c2 a3 c3):=q0▸bS;obtain ⟨z1,h6,e1⟩:=h3_ x0 bS q0;have z0:=bS.lt;clear hv ho hsm x0 bS q0;obtain ⟨x9,d9⟩:=h2_ h8 hsd;clear hsd h8;go_enter func28,ntmps28;go_upto_region 1 with fail;rw [e1];have bq:=h6.ext (aTn _);obtain ⟨c0,c1,c2,c3,c4,c5,c6,c7,c8,c9,h5,h2⟩:=bq.q12;have ls:=bq.lt;clear bq;go_wp2_with fail;have CH:=lP s lo hi _ W0 (HV.ext hh z1) (aTl hh z1.size) y6;refine CH.mono ?_;clear CH;rw [d5];rintro e w3 ⟨rfl,x3⟩;have X3:=hid x3;clear x3;clear ls c0 c1 c2 c3 c4 c5 c6 c7 c8 c9 h5 h2;have bq:=h6.ext X3;obtain ⟨c0,c1,c2,c3,c4,c5,c6,c7,c8,c9,h5,h2⟩:=bq.q12;have ls:=bq.lt;clear bq;go_wp2_with fail;have CH:=aGk s.c i j hi0 hj0 (by omega) (by omega) w3;refine CH.mono ?_;clear CH;rintro e w4 ⟨rfl,x4⟩;have X4:=hid (X3.trans x4);clear x4 X3;clear ls c0 c1 c2 c3 c4 c5 c6 c7 c8 c9 h5 h2;have bq:=h6.ext X4;obtain ⟨c0,c1,c2,c3,c4,c5,c6,c7,c8,c9,h5,h2⟩:=bq.q12;have ls:=bq.lt;clear bq;have bD:=aTm w4 101 [];have HD:=hid bD;clear bD;go_wp2_with fail;have XA:=hid (z1.trans (X4.trans (show Ext w4 (w4.alloc (.cells #[] 101)) from X_)));have CH:=aBp s lo hi _ _ (HV.ext hh XA) (aTl hh XA.size) HO y6;refine CH.mono ?_;clear CH;rintro e w5 ⟨r,rfl,hr,x5⟩;obtain ⟨us,a9,y1,a8⟩:=hr;obtain ⟨ra,rc,rfl,-⟩:=y1.form;have zA:=XA.size;have HR:Hid (qP s w4.heap.size w5 (.slice ra us.length rc) s.m):=hid (qP.low ⟨us,a9,y1,a8⟩ (by rw [aTe];omega));obtain ⟨X5,x2,y3⟩:=h3_ (XA.trans x5) (h6.ext (X4.trans (aTi (show Ext w4 (w4.alloc (.cells #[] 101)) from X_) x5))) (HD.ext x5);have z4:=X4.size;clear a9 y1 a8 x5 XA HD h6 zA;clear ls c0 c1 c2 c3 c4 c5 c6 c7 c8 c9 h5 h2;have bq:=x2.ext (aTn _);obtain ⟨c0,c1,c2,c3,c4,c5,c6,c7,c8,c9,h5,h2⟩:=bq.q12;have ls:=bq.lt;clear bq;have a7:s.side=((sd:Nat):Int):=d9;rw [a7] at h2;clear a7;go_wp2_with fail;have CH:=tT i j (by omega) (by omega) sd x9 w5;refine CH.mono ?_;clear CH;rintro e w6 ⟨q,rfl,hq,x6⟩;obtain ⟨qa,qc,rfl,-⟩:=hq.form;rw [gG];obtain ⟨HQ,X6,d6,y5,h9⟩:=h5_ hq (X5.trans x6) (HR.ext x6) (x2.ext x6) (y3.ext x6);have z5:w4.heap.size<w6.heap.size:=h9.lt;have z6:=x6.size;clear hq x6 HR x2 y3 X5;clear ls c0 c1 c2 c3 c4 c5 c6 c7 c8 c9 h5 h2
 obtain ⟨N,hN⟩:=e_ (sd*sd)
 have e4:N<=16:=by rw [<-hN];rcases x9 with rfl|rfl|rfl <;> decide
 have HN:=hid hN;rw [hN];clear hN;go_wp2
 go_loopw [7,31] (fun u x wr=>∃k:Nat,k<=N/\x = .int .i64 (k:Nat)/\fU w4.heap.size wr u (s.deeps i j sd k)/\KN w4.heap.size w4.heap.size 101 w6 wr) (fun _ x _=>N - (intOf x).toNat)
 case atStart=>exact ⟨0,by omega,rfl,⟨[],rfl,aD.freshS (aTc _) h9,fun k u l hu=>by simp at hu,List.Pairwise.nil⟩,KN.refl _ _ _ _⟩
 case round=>
  obtain ⟨k,hk,rfl,a4,q7⟩:=hrel;obtain ⟨h4,b6⟩:=h2_ q7 a4;obtain ⟨ds,h7,q4,q5,a0⟩:=a4;obtain ⟨b5,d7⟩:=h2_ a0 (fU.rowLt (by rw [h7]) q5);clear a0;rw [Scn.deeps_len (by rw [HN];exact hk)] at h7;obtain ⟨da,dc,rfl,-⟩:=q4.form;have XW:=hid (h4.up X6 (aTl (aWc z0) z4));have zr:=q7.size
  rcases aUc k N with hlt|hge
  ·have nB:∀{t:TypeId},t≠101->∀c,w6.heap[w4.heap.size]?≠some (.cells c t (0,0)):=fun ht c=>h9.noCells ht c
   have hq:=KN.row HQ h4 (nB (by decide)) (by decide);have hS:=KN.blk y5 h4 (by have:=h9.neq y5 (by decide);exact fun e=>this e.symm) (by decide)
   have hR:qP s w4.heap.size wr (.slice ra us.length rc) s.m:=by
    obtain ⟨e8,q1,q2,q3⟩:=d6;exact ⟨e8,q1,KN.row q2 h4 (nB (by decide)) (by decide),fun a u hu=>⟨KN.ints (q3 a u hu).1 h4 (nB (by decide)) (by decide),KN.ints (q3 a u hu).2 h4 (nB (by decide)) (by decide)⟩⟩
   obtain ⟨p,hp⟩:∃p,(tJ i j sd)[k]?=some p:=⟨_,aTk (by rw [gG,HN];exact hlt)⟩
   have a6:p.okB s.c=true:=by
    have h1:=(aTd.1 hp).2;unfold tJ at h1;rw [aW1,aV9] at h1;rw [<-h1];exact aJ3 HO.cb hi0 hj0 x9 (by rw [HN];exact hlt)
   have h3:=Scn.deeps_succ (s:=s) hp;obtain ⟨gq,cq,he,-,g2,z3,g0,-,h0⟩:=aD.at hq (fun _=>rfl) hp;rw [show (tJ i j sd).length=N by rw [gG];exact HN] at he z3;simp only [aTw,true_and] at he;obtain ⟨rfl,rfl⟩:=he;have d0:=h0 0 (by decide);have d1:=h0 1 (by decide);have d2:=h0 2 (by decide);have d3:=h0 3 (by decide);have d4:=h0 4 (by decide);simp only [Smp.cs,aUq,aTa,aTb] at d0 d1 d2 d3 d4;obtain ⟨x1,e0,b3,b4,y4,d8⟩:=h6_ a6 h3 q4 q5 h7 hR;have y2:Ext wr (wr.alloc (.cells #[p.x,p.y,p.t,p.lx,p.ly] 42)):=X_;have e2:=hid y2;have y9:=hS.ext y2;have e3:=aTm wr 42 [p.x,p.y,p.t,p.lx,p.ly];obtain ⟨s0,s1,s2,s3,s4,s5,s6,s7,s8,s9,e6,e7⟩:=y9.q12;have e9:=hid hS;clear hq hS hR hp a6 h3 h0 q4 q5 h7 q7 nB y9 e3 y2;go_upto_region 7 with fail;go_wp2_with fail
   obtain ⟨WB,z7⟩:=e_ (wr.alloc (.cells #[p.x,p.y,p.t,p.lx,p.ly] 42))
   have z2:Hid (Ext wr WB):=hid (z7▸e2.out);rw [z7];clear z7;have y7:=hid (XW.trans z2);have CH:=aLo s lo w4.heap.size hi _ _ p WB (HV.ext hh y7) (aTl hh y7.size) HO x1 (d8.ext z2);refine CH.mono ?_;clear CH;rintro e w7 ⟨f1,rfl,z9,x7⟩;obtain ⟨b8,X7⟩:=h2_ z9 (z2.trans x7);obtain ⟨fa,fc,rfl,-⟩:=aD.form z9;have e5:=hid (HO.seen_le p);clear z9 x7 s0 s1 s2 s3 s4 s5 s6 s7 s8 s9 e6 e7;go_wp2_with fail;refine (aI0 b8 e5.out).mono ?_;rintro e w8 ⟨g1,rfl,q6,x8⟩;obtain ⟨ga,gc,rfl,-⟩:=aD.form q6;have X8:=hid (X7.trans x8);have g6:=X7.size;have y8:Ext w8 (w8.alloc (.cells #[.slice ga (fT (s.seen p)).length gc] 101)):=X_;have B8:=aTm w8 101 [.slice ga (fT (s.seen p)).length gc];obtain ⟨b0,Y8,O8⟩:=h3_ B8 y8 ((aD.low q6 (show w4.heap.size<=w7.heap.size by omega)).ext y8)
   have b9:=hid (show ∀k,(aUk ga (fT (s.seen p)).length gc).ownBlock=some k->∀u∈ds,u.ownBlock≠some k from fun a ha u hu e=>by
    have q1:=(q6.lt a ha).1;have q2:=d7.out u hu a e
    omega)
   obtain ⟨q8,q9⟩:=h2_ (b3.ext (X8.trans y8)) (fun a u l hu hl=>(b4 a u l hu hl).ext (X8.trans y8))
   have a5:ds.length<1000000:=by have:=y4.out;omega
   have b7:=hid a5;have z8:=aTl (X8.size) y8.size;have Z8:=hid (show w4.heap.size<=(w8.alloc (.cells #[.slice ga (fT (s.seen p)).length gc] 101)).heap.size by omega);clear q6 x8 y8 B8 a5 d0 d1 d2 d3 d4
   have b1:Hid (∀j,j<1->(w8.alloc (.cells #[.slice ga (fT (s.seen p)).length gc] 101)).cell? ⟨w8.heap.size,j,none⟩=[aUk ga (fT (s.seen p)).length gc][j]?):=hid (fun j hj=>by
    obtain rfl:j=0:=by omega
    exact b0.cell 0 rfl)
   have b2:Hid (∀u∈[aUk ga (fT (s.seen p)).length gc],u.oneCell'=true):=hid (fun u hu=>by
    rw [aVa] at hu;subst hu
    rfl)
   go_wp2_with (at_builtin;refine bZ (fun u=>[u]) 101 1 24 _ _ rfl _ _ 57 rfl underlying57 aCr rfl (by decide) (by decide) (fun _=>rfl) w4.heap.size (.slice da ds.length dc) ds rfl q8 (.slice ga (fT (s.seen p)).length gc) w8.heap.size rfl b1 b2 b7 Z8 ?_;intro v9 w9 hown hg);have P:=hid (fU.push (by rw [y4,Scn.deeps_len (by rw [HN];exact hk)]) q8 q9 O8 hg hown b5 b9)
   have K9:=hid (((h4.ext (X8.trans Y8))).grown hg (fun k' hk'=>by
    obtain ⟨q1,c,hc⟩:=aD.rowF q8 k' hk'
    exact ⟨q1,c,hc⟩))
   clear hown hg;go_wp2;go_roundw
   case rel=>exact ⟨k+1,by omega,by go_num,by rw [e0];exact P,K9⟩
   case measure=>simp [intOf];omega
  ·obtain rfl:k=N:=by omega
   have y0:=hid (b6.low (show w.heap.size<=w4.heap.size by omega));clear h7 q4 q5 q7;go_wp2;go_ret;exact ⟨_,rfl,HN.out▸y0.out,XW⟩
theorem aEh (c:Cam) (i j:Int) {b1 b2:Bool} (h1:inB i 0 (c.w - 1)=b1) (h2:inB j 0 (c.h - 1)=b2) (hw:0<=c.w/\c.w<=100000) (hh:0<=c.h/\c.h<=100000) (w:World) :
  R_ 50 #[.agg c,i,j] w (.bool (b1&&b2)):=by
 obtain ⟨H1,H2⟩:=h2_ h1 h2;clear h1 h2
 cases b1
 ·go_enter func50,ntmps50
  go_wp2_with (go_at_call 92;with_reducible first|(refine z_ (aI H1.out _) ?_)|(refine z_ (aI H2.out _) ?_));go_ret;exact ⟨rfl,X_⟩
 ·go_enter func50,ntmps50
  go_wp2_with (go_at_call 92;with_reducible first|(refine z_ (aI H1.out _) ?_)|(refine z_ (aI H2.out _) ?_));go_ret;exact ⟨by cases b2 <;> rfl,X_⟩
structure aNy (s:Scn) (i j:Int) (sd:Nat):Prop where
 o:s.Ok
 hsd:s.side=(sd:Nat)
 s3:sd=1\/sd=2\/sd=4
 hi:0<=i/\i<s.c.w
 hj:0<=j/\j<s.c.h
theorem aNz {s:Scn} (h:(s.okB&&(inB i 0 (s.c.w - 1)&&inB j 0 (s.c.h - 1)))=true):aNy s i j s.side.toNat:=by
 simp only [aTs,aG] at h;obtain ⟨h0,⟨h1,h2⟩,h3,h4⟩:=h;have ho:=Scn.okB_iff.1 h0;have:=ho.side;exact ⟨ho,by omega,by omega,⟨h1,by omega⟩,⟨h3,by omega⟩⟩
def upV (k0:Int) (c:Nat):List Value:=(aT3 c).map fun (j:Nat)=>.int .i64 (k0+(j:Int))
theorem sD (k0:Int) (c:Nat):(upV k0 c).length=c:=by simp [upV]
theorem aN0 (k0:Int) (n:Nat):upV k0 (n+1)=upV k0 n++[.int .i64 (k0+n)]:=by simp [upV,aVx]
theorem aQ5 {k0:Int} {i:Nat} (h:i<n):(upV k0 n)[i]?=some (.int .i64 (k0+i)):=by simp [upV,h]
theorem aAl (k0:Int) (xs:List Value) (k:Nat) (h:k<xs.length):(upV k0 k++xs.drop k).set k (.int .i64 (k0+k))=upV k0 (k+1)++xs.drop (k+1):=by
 rw [List.set_append_right _ _ (by rw [sD];omega),sD,Nat.sub_self,List.drop_eq_getElem_cons h,aTp,aN0,aUg]
 rfl
theorem iO {cap:Nat} {a:Option Addr} {vs:List Value} (h:w.ownsRow lo e sz (.slice a n cap) n vs) (hc:c<n*sz) :
  ∃g y,a=some ⟨g,0,none⟩/\lo<=g/\g<w.heap.size/\vs[c]?=some y/\w.cell? ⟨g,c,none⟩=some y/\w.frozen? ⟨g,c,none⟩=false /\
   ∀x,(w.setCell ⟨g,c,none⟩ x).ownsRow lo e sz (.slice a n cap) n (vs.set c x)/\w.grownBy (w.setCell ⟨g,c,none⟩ x) (some g):=by
 have h0:=h;have h2:vs.length=n*sz:=h.1
 rcases h.2 with ⟨h1,h4⟩|⟨g,cap',cur,h1,hb',hg,hcc,hm,hs,ht⟩
 ·simp only [aTw] at h1
  rw [h1.2.1,aXv] at hc;omega
 ·simp only [aTw] at h1
  obtain ⟨rfl,h1,rfl⟩:=h1
  obtain ⟨y,hy⟩:∃y,vs[c]?=some y:=⟨_,aTk (by omega)⟩
  exact ⟨g,y,rfl,hb',(Array.getElem?_eq_some_iff.1 hg).1,hy,(h0.cellAt c (by omega)).trans hy,h0.frozenAt c,fun x=>h0.stored c x⟩
end Go.Proofs.YthgpegkmjeigmaaGreat
