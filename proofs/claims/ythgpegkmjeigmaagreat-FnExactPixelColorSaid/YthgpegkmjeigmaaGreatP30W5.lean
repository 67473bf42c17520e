/- Texts of this claim, one behind another; what its theorem does not use is left out: Rs2, Gd5, Rs3, Sc6, Dw8, Rs4, Cat, Rs5, Rs6, Rs7, Ss1, Shp, Mk1, Mk2, Mk3, Mk4, Mk5, Mk6, Lw1, Ss2, Rv, Tg7, Tg1, Tg2, Tg3. -/
import Derived.Test.YthgpegkmjeigmaaGreatP30W4
import Derived.Test.YthgpegkmjeigmaaGreatP30W1
import Derived.Test.YthgpegkmjeigmaaGreatP30W2
import Derived.Test.YthgpegkmjeigmaaGreatP30W3
set_option linter.unusedSimpArgs false
set_option linter.unusedVariables false
set_option maxRecDepth 100000
set_option maxHeartbeats 12800000
namespace Go.Proofs.YthgpegkmjeigmaaGreat
open Go.RowKit
open Go.Proofs.Tryz
open _root_.Go.Act renaming put→aS4
variable {p:Addr} {a d i j r x y z:Int} {Q b g h hi hi' k l lo lo' n o side sz:Nat} {f:Nat→Int} {e t:TypeId} {u v v2:Value} {w w':World}
open _root_.Go.Obj.cells renaming injEq→aSx
open _root_.Go.Proofs.Tryz renaming prog→aRn
open _root_.Go.Proofs.YthgpegkmjeigmaaGreat.Blk renaming new→aRr
open _root_.Go.Proofs.YthgpegkmjeigmaaGreat.Ext renaming setCell→aR0,grown→aSt,block→aRv,alloc→aYb,trans→aRo,refl→aRu,drew→aSk
open _root_.Go.Proofs.YthgpegkmjeigmaaGreat.V3 renaming scr→aS9
open _root_.Go.RowKit.Below renaming heap_setCell→aRt
open _root_.Go.Value renaming ownBlock→aSg,slice→aS2,int→aUp
open _root_.Go.World renaming size_alloc→aRj,size_setCell→aS6
open _root_.Go.World.rowIs renaming congr→aTv,lt→aT5,of_block→aU9,cell→aTc,frozen→aTq
open _root_.Int renaming tdiv_eq_ediv_of_nonneg→aTd,emod_nonneg→aVs,emod_lt_of_pos→aU2,mul_nonneg→aSu,toNat_natCast→aSc
open _root_.List renaming range→aR6,range_succ→aT3,map_append→aTp,map_singleton→aVk,getElem?_eq_some_iff→aRk,getElem?_map→aS7,getElem?_eq_getElem→aRs,nil_append→aTf,filterMap_cons→aR8,filterMap_nil→aR1,getElem?_toArray→aRm,getElem?_cons_zero→aRg,getElem?_cons_succ→aRh,setIfInBounds_toArray→aRp,set_cons_succ→aRx,set_cons_zero→aRw,getElem_toArray→aWp,getElem_cons_succ→aVg,getElem_cons_zero→aVh,getElem_of_mem→aSj,foldl_cons→aXa,length_cons→aSw,mem_of_getElem?→aR7,mem_cons→aR4,not_mem_nil→aRz,length_map→aSv,length_range→aUi,getElem_mem→aR2,all_eq_false→aUt,all_eq_true→aSs,getElem_map→aU3,getElem_range→aUd,mem_range→aSq,map_cons→aTr,map_nil→aWv,length_nil→aTu,length_append→aSa,flatMap_append→aSy,take_length→aSh,getElem?_append_left→aSz,getElem?_append_right→aSm,mem_singleton→aUm
open _root_.Nat renaming add_comm→aXw,add_mul_mod_self_right→aWs,mod_eq_of_lt→aU4,add_mul_div_right→aX6,div_eq_of_lt→aWw,zero_add→aSf,mul_le_mul→aSi,le_refl→aRi,zero_mul→aWb,succ_mul→aWx,mod_lt→aT4,div_lt_of_lt_mul→aTs,zero_le→aS1,lt_or_ge→aSo,lt_of_lt_of_le→aS5,le_trans→aRq,add_assoc→aTa,le_of_lt→aUu,add_mul→aT1,one_mul→aT2,reduceAdd→aUl
open _root_.Option.some renaming injEq→aRl,inj→aTh
theorem oQ {b e n:Int} (ha : -1000000<=a/\a<=1000000) (hb : -1000000<=b/\b<=1000000) (hd : -1000000<=d/\d<=1000000) (he : -1000000<=e/\e<=1000000) (hn:1<=n/\n<=64) (hi:0<=i/\i<=n) (hj:0<=j/\j<=n)
  (hr:bT (a*((n - i)*(n - j))+b*(i*(n - j))+d*((n - i)*j)+e*(i*j)) (n*n)=r) (w:World) :
  Calls aRn 231 #[a,b,d,e,i,j,n] w fun x w'=>x = .returned (.int .i64 r)/\w=w':=by
 obtain ⟨ni,h2⟩:∃x,n - i=x:=⟨_,rfl⟩
 obtain ⟨nj,h3⟩:∃x,n - j=x:=⟨_,rfl⟩
 have h0 : -64<=ni/\ni<=64:=by omega
 have h1 : -64<=nj/\nj<=64:=by omega
 have ib : -64<=i/\i<=64:=by omega
 have jb : -64<=j/\j<=64:=by omega
 have nb : -64<=n/\n<=64:=by omega
 obtain ⟨q1,h4⟩:∃x,a*ni=x:=⟨_,rfl⟩
 have b1 : -64000000<=q1/\q1<=64000000:=by have:=aY (A:=1000000) (B:=64) ha h0;omega
 obtain ⟨q2,h5⟩:∃x,q1*nj=x:=⟨_,rfl⟩
 have b2 : -4096000000<=q2/\q2<=4096000000:=by have:=aY (A:=64000000) (B:=64) b1 h1;omega
 obtain ⟨q3,h6⟩:∃x,b*i=x:=⟨_,rfl⟩
 have b3 : -64000000<=q3/\q3<=64000000:=by have:=aY (A:=1000000) (B:=64) hb ib;omega
 obtain ⟨q4,h7⟩:∃x,q3*nj=x:=⟨_,rfl⟩
 have b4 : -4096000000<=q4/\q4<=4096000000:=by have:=aY (A:=64000000) (B:=64) b3 h1;omega
 obtain ⟨q5,h8⟩:∃x,d*ni=x:=⟨_,rfl⟩
 have b5 : -64000000<=q5/\q5<=64000000:=by have:=aY (A:=1000000) (B:=64) hd h0;omega
 obtain ⟨q6,h9⟩:∃x,q5*j=x:=⟨_,rfl⟩
 have b6 : -4096000000<=q6/\q6<=4096000000:=by have:=aY (A:=64000000) (B:=64) b5 jb;omega
 obtain ⟨q7,q0⟩:∃x,e*i=x:=⟨_,rfl⟩
 have b7 : -64000000<=q7/\q7<=64000000:=by have:=aY (A:=1000000) (B:=64) he ib;omega
 obtain ⟨q8,x0⟩:∃x,q7*j=x:=⟨_,rfl⟩
 have b8 : -4096000000<=q8/\q8<=4096000000:=by have:=aY (A:=64000000) (B:=64) b7 jb;omega
 obtain ⟨q9,x1⟩:∃x,n*n=x:=⟨_,rfl⟩
 have b9 : -4096<=q9/\q9<=4096:=by have:=aY (A:=64) (B:=64) nb nb;omega
 have hs:bT (q2+q4+q6+q8) q9=r:=by
  rw [<-hr,<-x1]
  congr 1
  rw [<-h5,<-h7,<-h9,<-x0,<-h4,<-h6,<-h8,<-q0,h2,h3];simp only [Int.mul_assoc]
 have HS:=hid hs;clear hr hs;go_enter func231,ntmps231;go_wp2_with fail;refine (aV ⟨by omega,by omega⟩ HS _).mono ?_;rintro e1 w1 ⟨rfl,rfl⟩;go_wp2;go_ret;exact ⟨rfl,rfl⟩
theorem aHc (f:Nat->Int) (i j n:Int) (hn:1<=n/\n<=64) (hi:0<=i/\i<=n) (hj:0<=j/\j<=n) (w:World) :
  R_ 192 #[.agg f,i,j,n] w ((evP f i j n).V):=by
 obtain ⟨g,hg⟩:∃g:Nat->Int,g=fun k=>cl (f k):=⟨_,rfl⟩
 have HG:=hid (show ∀k,cl (f k)=g k from fun k=>by rw [hg]);have HB:=hid (show ∀k,-1000000<=g k/\g k<=1000000 from fun k=>by rw [hg];exact cS _)
 obtain ⟨m1,h3⟩:∃m,(evP f i j n).x=m:=⟨_,rfl⟩
 obtain ⟨m2,h4⟩:∃m,(evP f i j n).y=m:=⟨_,rfl⟩
 obtain ⟨m3,h5⟩:∃m,(evP f i j n).z=m:=⟨_,rfl⟩
 have x7:=hid (show bT (g 0*((n - i)*(n - j))+g 3*(i*(n - j))+g 6*((n - i)*j)+g 9*(i*j)) (n*n)=m1 by rw [hg,<-h3];rfl);have x8:=hid (show bT (g 1*((n - i)*(n - j))+g 4*(i*(n - j))+g 7*((n - i)*j)+g 10*(i*j)) (n*n)=m2 by rw [hg,<-h4];rfl);have x9:=hid (show bT (g 2*((n - i)*(n - j))+g 5*(i*(n - j))+g 8*((n - i)*j)+g 11*(i*j)) (n*n)=m3 by rw [hg,<-h5];rfl)
 have hV:(evP f i j n).V = .agg #[m1,m2,m3]:=by rw [<-h3,<-h4,<-h5];rfl
 rw [hV];have h2:=hid hn;have h0:=hid hi;have h1:=hid hj;clear hg h3 h4 h5 hV;have r0:=aBd (w:=w) (t:=125) (f:=f) rfl
 have q0:=(aRr (w.alloc (.cells f 125)) 122 [(),(),()])
 rw [aRj] at q0;have x0:Ext w ((w.alloc (.cells f 125)).alloc (.cells #[(),(),()] 122)):=X_;have R0:=hid (r0.alloc (.cells #[(),(),()] 122));have Q0:=hid q0;have X0:=hid x0;have x6:inB n 1 64=true:=aG.2 ⟨by omega,by omega⟩;have q9:inB i 0 n=true:=aG.2 ⟨by omega,by omega⟩;have x5:inB j 0 n=true:=aG.2 ⟨by omega,by omega⟩;have HN:=hid x6;have HI:=hid q9;have HJ:=hid x5;clear r0 q0 x0 x6 q9 x5;go_enter func192,ntmps192;go_wp2_with fail;refine r_ (jR (HG 0) (HG 1) (HG 2) _) fun w1 x1=>?_;have y1:Ext w1 (w1.alloc (.cells #[(g 0),(g 1),(g 2)] 122)):=X_;have b1:=aRr w1 122 [(g 0),(g 1),(g 2)];have R1:=hid ((R0.ext x1).ext y1);have Q1:=hid ((Q0.ext x1).ext y1);have X1:=hid ((X0.trans x1).trans y1);have h6:=hid b1;have c3:=R1.cell (i:=3) (by decide);have c4:=R1.cell (i:=4) (by decide);have c5:=R1.cell (i:=5) (by decide);clear R0 Q0 X0 x1 y1 b1;go_wp2_with fail;refine r_ (jR (HG 3) (HG 4) (HG 5) _) fun w2 x2=>?_;have y2:Ext w2 (w2.alloc (.cells #[(g 3),(g 4),(g 5)] 122)):=X_;have b2:=aRr w2 122 [(g 3),(g 4),(g 5)];have R2:=hid ((R1.ext x2).ext y2);have Q2:=hid ((Q1.ext x2).ext y2);have X2:=hid ((X1.trans x2).trans y2);have h7:=hid ((h6.ext x2).ext y2);have q4:=hid b2;have c6:=R2.cell (i:=6) (by decide);have c7:=R2.cell (i:=7) (by decide);have c8:=R2.cell (i:=8) (by decide);clear R1 Q1 X1 x2 y2 b2 h6 c3 c4 c5;go_wp2_with fail;refine r_ (jR (HG 6) (HG 7) (HG 8) _) fun w3 x3=>?_;have y3:Ext w3 (w3.alloc (.cells #[(g 6),(g 7),(g 8)] 122)):=X_;have b3:=aRr w3 122 [(g 6),(g 7),(g 8)];have R3:=hid ((R2.ext x3).ext y3);have Q3:=hid ((Q2.ext x3).ext y3);have X3:=hid ((X2.trans x3).trans y3);have h8:=hid ((h7.ext x3).ext y3);have q5:=hid ((q4.ext x3).ext y3);have q7:=hid b3;have c9:=R3.cell (i:=9) (by decide);have z0:=R3.cell (i:=10) (by decide);have z1:=R3.cell (i:=11) (by decide);clear R2 Q2 X2 x3 y3 b3 h7 q4 c6 c7 c8;go_wp2_with fail;refine r_ (jR (HG 9) (HG 10) (HG 11) _) fun w4 x4=>?_;have y4:Ext w4 (w4.alloc (.cells #[(g 9),(g 10),(g 11)] 122)):=X_;have b4:=aRr w4 122 [(g 9),(g 10),(g 11)];have Q4:=hid (Q3.ext x4);have X4:=hid (X3.trans x4);have h9:=hid (h8.ext x4);have q6:=hid (q5.ext x4);have q8:=hid (q7.ext x4);have l0:=Q4.lt;have l1:=h9.lt;have l2:=q6.lt;have l3:=q8.lt;have g0:=Q4.free 0;have g1:=Q4.free 1;have g2:=Q4.free 2;obtain ⟨o0,o1,o2⟩:=Q4.q3;obtain ⟨p0,p1,p2⟩:=h9.q3;obtain ⟨q0,q1,q2⟩:=q6.q3;obtain ⟨r0,r1,r2⟩:=q8.q3;have zx:=X4.size;clear R3 Q3 X3 x4 y4 b4 h8 q5 q7 c9 z0 z1;go_wp2_with fail;refine z_ (aF HN _) ?_;go_wp2_with fail;refine z_ (aF HI _) ?_;go_wp2_with fail;refine z_ (aF HJ _) ?_;go_wp2_with fail;refine aA [([0,1,2,3,4,5,6,7,8,9,10,12,13,14,15,16,17,18,19,20,21,22,24,25,26,27,28,29,30,31,32,33,34],11),([],23),([],35),([36],37)] 37 (w4.heap.size+1) (by kernel_rfl) (by kernel_rfl) ?_;refine st_ fun K hK=>?_;go_wp2_with fail;refine z_ (oQ (HB 0) (HB 3) (HB 6) (HB 9) h2 h0 h1 x7 _) ?_;go_wp2_with fail;refine k_ hK ?_;clear hK K;refine st_ fun K hK=>?_;go_wp2_with fail;refine z_ (oQ (HB 1) (HB 4) (HB 7) (HB 10) h2 h0 h1 x8 _) ?_;go_wp2_with fail;refine k_ hK ?_;clear hK K;refine st_ fun K hK=>?_;go_wp2_with fail;refine z_ (oQ (HB 2) (HB 5) (HB 8) (HB 11) h2 h0 h1 x9 _) ?_;go_wp2_with fail;refine k_ hK ?_;clear hK K;refine st_ fun K hK=>?_;go_wp2_with fail;refine l_ hK ?_;clear hK K;refine aC ?_;go_wp2;refine bodyPost_ret (v:=.agg #[m1,m2,m3]) (by simp [results,results192,go_sem, *]) rfl ?_;have z2:=X4.out;exact ⟨rfl,S_⟩
theorem aE.rowT {α : Type} {cs : α->List Value} {xs:List α} (h:aE cs lo e sz w v xs):∀k,v.ownBlock=some k->lo<=k/\∃c,w.heap[k]?=some (.cells c e (0,0)):=by
 intro k hk
 rcases h.2 with ⟨rfl,h4⟩|⟨g,cap,cur,rfl,hb,hg,_⟩
 ·cases hk
 ·simp only [aSg,aRl] at hk
  subst hk;exact ⟨hb,cur,hg⟩
theorem aBf (w:World) (hQ:Q<lo) (a b c d e:Value):aM lo hi w (((((w.setCell ⟨Q,0,none⟩ a).setCell ⟨Q,1,none⟩ b).setCell ⟨Q,2,none⟩ c).setCell ⟨Q,3,none⟩ d).setCell ⟨Q,4,none⟩ e):=fun k h1 _=>by
 have hk:Q≠k:=by omega
 rw [aRt _ _ _ _ (by exact hk.symm),aRt _ _ _ _ (by exact hk.symm),aRt _ _ _ _ (by exact hk.symm),aRt _ _ _ _ (by exact hk.symm),aRt _ _ _ _ (by exact hk.symm)]
structure GSr (lo n:Nat) (tm:Int) (t:Tex) (f:Nat->Int) (A P Q:Nat) (tu:Value) (w wr:World) (ps:List Pt) (pu:Value):Prop where
 ext:Ext w wr
 pat:bK wr P 125 12 f
 res:Blk wr Q 168 [(),.slice none 0 0,(),(),.slice none 0 0]
 box:Blk wr A 168 [(n:Nat),pu,tm,t.log,tu]
 pts:aC1 lo wr pu ps
 tex:aB lo wr tu t.px
theorem GSr.to {tm:Int} {t:Tex} {A P:Nat} {tu pu:Value} {wr:World} {ps:List Pt} (h:GSr lo n tm t f A P Q tu w wr ps pu) (x:Ext wr w'):GSr lo n tm t f A P Q tu w w' ps pu:=
 ⟨h.ext.trans x,h.pat.ext x,h.res.ext x,h.box.ext x,aE.ext h.pts x,h.tex.ext x⟩
theorem GSr.grow {tm:Int} {t:Tex} {A P:Nat} {tu pu pu':Value} {wr:World} {ps ps':List Pt} (h:GSr lo n tm t f A P Q tu w wr ps pu) (hP:P<lo) (hQ:Q<lo) (hA:lo<=A) (hw:w.heap.size<=lo) (hg:wr.grownBy w' pu.ownBlock) (hown:aC1 lo w' pu' ps'):GSr lo n tm t f A P Q tu w (w'.setCell ⟨A,1,none⟩ pu') ps' pu':=by
 have hr:=aE.rowT h.pts
 have hB:=h.box.grown hg (fun e=>by
  obtain ⟨_,c,hc⟩:=hr A e.symm;have hb:=h.box;unfold Blk at hb;rw [hb] at hc;simp only [aRl,aSx] at hc
  exact absurd hc.2.1 (by decide))
 have hT:=h.tex.grown hg (fun k hk e=>by
  obtain ⟨_,c,hc⟩:=hr k e.symm;obtain ⟨c',h0⟩:=h.tex.block hk;rw [h0] at hc;simp only [aRl,aSx] at hc
  exact absurd hc.2.1 (by decide))
 refine ⟨aR0 (aSt h.ext hg (fun k hk=>by have:=(hr k hk).1;omega)) (by simp only;omega) _,(h.pat.of (hg.block _ h.pat.lt (fun e=>by have:=(hr _ e.symm).1;omega))).other (by simp only;omega) _,(h.res.grown hg (fun e=>by have:=(hr _ e.symm).1;omega)).other (by simp only;omega) _,hB.set 1 _,aE.set hown hB (by decide) 1 _,hT.setOther (fun e=>?_) _⟩;obtain ⟨c,hc⟩:=hT.block e;unfold Blk at hB;simp only at hc;rw [hB] at hc;simp only [aRl,aSx] at hc;exact absurd hc.2.1 (by decide)
def aC3 (f:Nat->Int) (n k:Nat):List Pt:=(aR6 k).map fun q=>ptG f n (q % n) (q / n)
theorem aE7 (f:Nat->Int) (n k:Nat):(aC3 f n k).length=k:=by unfold aC3;simp
theorem aJ5 (f:Nat->Int) {i j:Nat} (hi:i<n):aC3 f n (j*n+(i+1))=aC3 f n (j*n+i)++[ptG f n i j]:=by
 unfold aC3;rw [show j*n+(i+1)=(j*n+i)+1 by omega,aT3,aTp,aVk]
 have e1:(j*n+i) % n=i:=by rw [aXw,aWs,aU4 hi]
 have e2:(j*n+i) / n=j:=by rw [aXw,aX6 _ _ (by omega),aWw hi,aSf]
 rw [e1,e2]
theorem aIi {i:Nat} {x:Pt} (h:(aC3 f n k)[i]?=some x):x=ptG f n (i % n) (i / n)/\i<k:=by
 have hl:=(aRk.1 h).1;rw [aE7] at hl;unfold aC3 at h;rw [aS7,List.getElem?_range hl] at h;exact ⟨(aTh h).symm,hl⟩
theorem yO {n X Y Z:Int} (h:evP f i j n=⟨X,Y,Z⟩) (hn:1<=n/\n<=64) (hi:0<=i/\i<=n) (hj:0<=j/\j<=n) (w:World) :
  R_ 192 #[.agg f,i,j,n] w (.agg #[X,Y,Z]):=by
 have:=aHc f i j n hn hi hj w;rw [h] at this;exact this
theorem aHd (lo hi:Nat) (f:Nat->Int) (hf:rG f=true) (n:Nat) (hn:1<=n/\n<=8) (tm:Int) (htm:0<=tm/\tm<=256) (tv:Value) (t:Tex) (w:World) (ht:cT lo hi w tv t) (hh:hi<=w.heap.size) (hok:t.Ok) :
  Calls aRn 141 #[.agg f,(n:Nat),tm,tv] w fun e w'=>∃v:Value,e = .returned (.tuple #[v,.bool true])/\(Grd.mk (n:Nat) (n*n) (aBb f n) tm t).R w.heap.size w'.heap.size w' v/\Ext w w':=by
 have HT:=hid ht;have HF:=hid hf;obtain ⟨tu,rfl,y5,hu⟩:=ht;obtain ⟨a,cap,rfl,HU⟩:=hu.open;have l1:=HU.le;have l2:=HU.cap
 have b5:1<=t.px.length:=by rw [hok.len];exact Nat.mul_pos hok.n_pos hok.n_pos
 have b6:t.px.length<=256:=by rw [hok.len];exact aSi hok.n_le hok.n_le
 obtain ⟨_,bx,h9,rfl,_,b7,_⟩:=HU.cell 0 _ (aRs (by omega));have a1:inB ((n:Nat):Int) 1 8=true:=aG.2 ⟨by omega,by omega⟩;have a2:inB tm 0 256=true:=aG.2 htm;have HN:=hid a1;have HM:=hid a2;have HK:=hid (Tex.okB_iff.2 hok);have r0:=aBd (w:=w) (t:=125) (f:=f) rfl;have t0:=aRr (w.alloc (.cells f 125)) 36 [t.log,.slice (some ⟨bx,h9,none⟩) t.px.length cap];have q0:=aRr ((w.alloc (.cells f 125)).alloc (.cells #[t.log,.slice (some ⟨bx,h9,none⟩) t.px.length cap] 36)) 168 [(),.slice none 0 0,(),(),.slice none 0 0];simp only [aRj] at t0 q0;have x0:Ext w (((w.alloc (.cells f 125)).alloc (.cells #[t.log,.slice (some ⟨bx,h9,none⟩) t.px.length cap] 36)).alloc (.cells #[(),.slice none 0 0,(),(),.slice none 0 0] 168)):=X_;have R0:=hid ((r0.alloc (.cells #[t.log,.slice (some ⟨bx,h9,none⟩) t.px.length cap] 36)).alloc (.cells #[(),.slice none 0 0,(),(),.slice none 0 0] 168));have T0:=hid (t0.ext (show Ext _ (((w.alloc (.cells f 125)).alloc (.cells #[t.log,.slice (some ⟨bx,h9,none⟩) t.px.length cap] 36)).alloc (.cells #[(),.slice none 0 0,(),(),.slice none 0 0] 168)) from X_));have Q0:=hid q0;have X0:=hid x0;clear a1 a2 hu r0 t0 q0 x0;go_enter func141,ntmps141;go_wp2_with fail;refine (iC f _).mono ?_;rw [HF];rintro e w1 ⟨rfl,x1⟩;have R1:=hid (R0.ext x1);have T1:=hid (T0.ext x1);have Q1:=hid (Q0.ext x1);have X1:=hid (X0.trans x1);clear R0 T0 Q0 X0 x1;go_wp2_with fail;refine z_ (aF HN _) ?_;go_wp2_with fail;refine z_ (aF HM _) ?_;obtain ⟨t0,t1⟩:=T1.q2;have z1:=X1.size;go_wp2_with fail;refine r_ (aJ HK lo hi _ _ (HT.ext hh X1) (by omega)) fun w2 x2=>?_;have R2:=hid (R1.ext x2);have T2:=hid (T1.ext x2);have Q2:=hid (Q1.ext x2);have x5:=hid (X1.trans x2);have z2:=x5.size;clear R1 T1 Q1 X1 x2 t0 t1;obtain ⟨t0,t1⟩:=T2.q2;have zt:=T2.lt;go_upto_region 3 with fail
 go_cut [10] from 33 to 42 (fun p wx=>∃A tu,p = .pointer (some ⟨A,0,none⟩)/\w2.heap.size<=A/\Blk wx A 168 [(n:Nat),.slice none 0 0,tm,t.log,tu]/\aB w2.heap.size wx tu t.px/\Ext w2 wx)
 case first=>
  refine dI 11 w2.heap.size (by kernel_rfl) ?_;refine z2_ (fuel:=5) [0,1,2,3,5,6] 4 10 (fun b _ hb=>rfl) (fun K hK=>?_) fun K hK=>?_
  ·have k1:Ext w2 (w2.drew.alloc (.cells #[] 3)):=X_
   have o1:aB w2.heap.size (w2.drew.alloc (.cells #[] 3)) (.slice (some ⟨w2.heap.size,0,none⟩) 0 0) []:=aB.fresh0 (aRi _) (aRr w2.drew 3 []);go_wp2;refine hK _ _ (.inr (fun b _ hb=>aRv k1 (by omega))) ?_;clear hK K;refine z2_ (fuel:=4) [] 7 10 (fun b _ hb=>aRv k1 (by omega)) (fun K hK=>?_) fun K hK=>?_
   ·refine cD _ rfl _ _ rfl w2.heap.size (.slice (some ⟨w2.heap.size,0,none⟩) 0 0) [] t.px rfl o1 bx h9 cap rfl (fun i y hy=>by
     obtain ⟨i1,b',o',e',_,h3,h4⟩:=HU.cell i y hy
     cases e'
     exact ⟨i1,((x5.trans k1).cells.1 bx _ (by omega)).trans h4⟩) (by simp;omega) k1.size ?_
    intro v7 w7 h0 q7;have u7:Ext w2 w7:=aSt k1 q7 (fun k hk=>(o1.lt k hk).1);go_wp2_with fail;refine hK _ _ (.inr (fun b _ hb=>aRv u7 (by omega))) ?_;clear hK K;obtain ⟨h5,h6,h8,_⟩:=h0.form;simp only [aTf] at h0 h8;subst h8;refine z1_ (fuel:=1) [8,9] 10 (fun b _ hb=>aRv u7 (by omega)) fun K hK=>?_;have k8:Ext w2 (w7.alloc (.cells #[(),.slice none 0 0,(),(),.slice none 0 0] 168)):=aYb u7 _;go_wp2;refine hK _ _ (.inr (fun b _ hb=>aRv (w:=w2) (show Ext w2 _ from aYb u7 _) (by omega))) ?_;clear hK K;refine z1_ (fuel:=0) [] 11 (fun b _ hb=>aRv k8 (by omega)) fun K hK=>?_;go_wp2;refine l_ hK ?_;clear hK K;refine cC (by kernel_rfl) ?_;go_wp2_with fail
    go_meet
    exact ⟨w7.heap.size,_,rfl,u7.size,aRr w7 168 [(n:Nat),.slice none 0 0,tm,t.log,.slice h5 t.px.length h6],h0.alloc _,aYb u7 _⟩
   ·have g1:Ext w2 ((w2.drew.alloc (.cells #[] 3)).alloc (.cells #[(),.slice none 0 0,(),(),.slice none 0 0] 168)):=X_
    have o2:=o1.alloc (.cells #[(),.slice none 0 0,(),(),.slice none 0 0] 168);have n2:=aRr (w2.drew.alloc (.cells #[] 3)) 168 [(),.slice none 0 0,(),(),.slice none 0 0];rw [aRj,show w2.drew.heap.size=w2.heap.size from rfl] at n2;go_wp2;refine hK _ _ (.inr (fun b _ hb=>aRv g1 (by omega))) ?_;clear hK K;refine z1_ (fuel:=3) [] 7 (fun b _ hb=>aRv g1 (by omega)) fun K hK=>?_
    refine cD _ rfl _ _ rfl w2.heap.size (.slice (some ⟨w2.heap.size,0,none⟩) 0 0) [] t.px rfl o2 bx h9 cap rfl (fun i y hy=>by
     obtain ⟨i1,b',o',e',_,h3,h4⟩:=HU.cell i y hy
     cases e'
     exact ⟨i1,((x5.trans g1).cells.1 bx _ (by omega)).trans h4⟩) (by simp;omega) g1.size ?_
    intro v7 w7 h0 q7;have u7:Ext w2 w7:=aSt g1 q7 (fun k hk=>(o2.lt k hk).1);go_wp2_with fail;refine hK _ _ (.inr (fun b _ hb=>aRv u7 (by omega))) ?_;clear hK K;obtain ⟨h5,h6,h8,_⟩:=h0.form;simp only [aTf] at h0 h8;subst h8;have n3:=n2.grown q7 (by simp [aSg]);refine z1_ (fuel:=0) [8,9] 11 (fun b _ hb=>aRv u7 (by omega)) fun K hK=>?_;have h2:=n3;obtain ⟨p0,p1,p2,p3,p4⟩:=h2.q5;have f0:=h2.free 0;have f1:=h2.free 1;have f2:=h2.free 2;have f3:=h2.free 3;have f4:=h2.free 4
    have h7:w2.heap.size<=(w2.heap.size+1):=by first|omega|(simp;omega)
    have h1:∀k,(aS2 h5 t.px.length h6).ownBlock=some k->k≠(w2.heap.size+1):=fun k hk e=>by
     obtain ⟨c,hc⟩:=(h0).block hk;rw [e] at hc;unfold Blk at h2;rw [h2] at hc;simp only [aRl,aSx] at hc;exact absurd hc.2.1 (by decide)
    have y4:Ext w2 ((((((((((w7).setCell ⟨(w2.heap.size+1),0,none⟩ (.int .i64 (n:Nat)))).setCell ⟨(w2.heap.size+1),1,none⟩ (.slice none 0 0))).setCell ⟨(w2.heap.size+1),2,none⟩ tm)).setCell ⟨(w2.heap.size+1),3,none⟩ t.log)).setCell ⟨(w2.heap.size+1),4,none⟩ (.slice h5 t.px.length h6)):=aR0 (aR0 (aR0 (aR0 (aR0 u7 h7 _) h7 _) h7 _) h7 _) h7 _;have y0:Blk ((((((((((w7).setCell ⟨(w2.heap.size+1),0,none⟩ (.int .i64 (n:Nat)))).setCell ⟨(w2.heap.size+1),1,none⟩ (.slice none 0 0))).setCell ⟨(w2.heap.size+1),2,none⟩ tm)).setCell ⟨(w2.heap.size+1),3,none⟩ t.log)).setCell ⟨(w2.heap.size+1),4,none⟩ (.slice h5 t.px.length h6)) ((w2.heap.size+1)) 168 [(n:Nat),.slice none 0 0,tm,t.log,.slice h5 t.px.length h6]:=((((h2.set 0 _).set 1 _).set 2 _).set 3 _).set 4 _
    have y2:aB w2.heap.size ((((((((((w7).setCell ⟨(w2.heap.size+1),0,none⟩ (.int .i64 (n:Nat)))).setCell ⟨(w2.heap.size+1),1,none⟩ (.slice none 0 0))).setCell ⟨(w2.heap.size+1),2,none⟩ tm)).setCell ⟨(w2.heap.size+1),3,none⟩ t.log)).setCell ⟨(w2.heap.size+1),4,none⟩ (.slice h5 t.px.length h6)) (.slice h5 t.px.length h6) t.px:=((((((h0).setOther (a:=⟨(w2.heap.size+1),0,none⟩) (fun e=>h1 _ e rfl) _).setOther (a:=⟨(w2.heap.size+1),1,none⟩) (fun e=>h1 _ e rfl) _).setOther (a:=⟨(w2.heap.size+1),2,none⟩) (fun e=>h1 _ e rfl) _).setOther (a:=⟨(w2.heap.size+1),3,none⟩) (fun e=>h1 _ e rfl) _).setOther (a:=⟨(w2.heap.size+1),4,none⟩) (fun e=>h1 _ e rfl) _)
    go_wp2;refine l_ hK ?_;clear hK K;refine cC (by kernel_rfl) ?_;go_wp2_with fail
    go_meet
    exact ⟨(w2.heap.size+1),_,rfl,h7,y0,y2,y4⟩
  ·have g1:Ext w2 (w2.drew.alloc (.cells #[(),.slice none 0 0,(),(),.slice none 0 0] 168)):=X_
   have n2:=aRr w2.drew 168 [(),.slice none 0 0,(),(),.slice none 0 0];rw [show w2.drew.heap.size=w2.heap.size from rfl] at n2;go_wp2;refine hK _ _ (.inr (fun b _ hb=>aRv g1 (by omega))) ?_;clear hK K;refine z1_ (fuel:=4) [] 4 (fun b _ hb=>aRv g1 (by omega)) fun K hK=>?_;have g2:Ext w2 ((w2.drew.alloc (.cells #[(),.slice none 0 0,(),(),.slice none 0 0] 168)).alloc (.cells #[] 3)):=X_;have n3:=n2.ext (show Ext _ ((w2.drew.alloc (.cells #[(),.slice none 0 0,(),(),.slice none 0 0] 168)).alloc (.cells #[] 3)) from X_);have b2:=aRr (w2.drew.alloc (.cells #[(),.slice none 0 0,(),(),.slice none 0 0] 168)) 3 [];rw [aRj,show w2.drew.heap.size=w2.heap.size from rfl] at b2;have o2:aB w2.heap.size ((w2.drew.alloc (.cells #[(),.slice none 0 0,(),(),.slice none 0 0] 168)).alloc (.cells #[] 3)) (.slice (some ⟨w2.heap.size+1,0,none⟩) 0 0) []:=aB.fresh0 (by omega) b2;go_wp2;refine hK _ _ (.inr (fun b _ hb=>aRv g2 (by omega))) ?_;clear hK K;refine z1_ (fuel:=3) [] 7 (fun b _ hb=>aRv g2 (by omega)) fun K hK=>?_
   refine cD _ rfl _ _ rfl w2.heap.size (.slice (some ⟨w2.heap.size+1,0,none⟩) 0 0) [] t.px rfl o2 bx h9 cap rfl (fun i y hy=>by
    obtain ⟨i1,b',o',e',_,h3,h4⟩:=HU.cell i y hy
    cases e'
    exact ⟨i1,((x5.trans g2).cells.1 bx _ (by omega)).trans h4⟩) (by simp;omega) g2.size ?_
   intro v7 w7 h0 q7;have u7:Ext w2 w7:=aSt g2 q7 (fun k hk=>(o2.lt k hk).1);go_wp2_with fail;refine hK _ _ (.inr (fun b _ hb=>aRv u7 (by omega))) ?_;clear hK K;obtain ⟨h5,h6,h8,_⟩:=h0.form;simp only [aTf] at h0 h8;subst h8;have n4:=n3.grown q7 (by simp [aSg]);refine z1_ (fuel:=0) [8,9] 11 (fun b _ hb=>aRv u7 (by omega)) fun K hK=>?_;have h2:=n4;obtain ⟨p0,p1,p2,p3,p4⟩:=h2.q5;have f0:=h2.free 0;have f1:=h2.free 1;have f2:=h2.free 2;have f3:=h2.free 3;have f4:=h2.free 4
   have h7:w2.heap.size<=w2.heap.size:=by first|omega|(simp;omega)
   have h1:∀k,(aS2 h5 t.px.length h6).ownBlock=some k->k≠w2.heap.size:=fun k hk e=>by
    obtain ⟨c,hc⟩:=(h0).block hk;rw [e] at hc;unfold Blk at h2;rw [h2] at hc;simp only [aRl,aSx] at hc;exact absurd hc.2.1 (by decide)
   have y4:Ext w2 ((((((((((w7).setCell ⟨w2.heap.size,0,none⟩ (.int .i64 (n:Nat)))).setCell ⟨w2.heap.size,1,none⟩ (.slice none 0 0))).setCell ⟨w2.heap.size,2,none⟩ tm)).setCell ⟨w2.heap.size,3,none⟩ t.log)).setCell ⟨w2.heap.size,4,none⟩ (.slice h5 t.px.length h6)):=aR0 (aR0 (aR0 (aR0 (aR0 u7 h7 _) h7 _) h7 _) h7 _) h7 _;have y0:Blk ((((((((((w7).setCell ⟨w2.heap.size,0,none⟩ (.int .i64 (n:Nat)))).setCell ⟨w2.heap.size,1,none⟩ (.slice none 0 0))).setCell ⟨w2.heap.size,2,none⟩ tm)).setCell ⟨w2.heap.size,3,none⟩ t.log)).setCell ⟨w2.heap.size,4,none⟩ (.slice h5 t.px.length h6)) (w2.heap.size) 168 [(n:Nat),.slice none 0 0,tm,t.log,.slice h5 t.px.length h6]:=((((h2.set 0 _).set 1 _).set 2 _).set 3 _).set 4 _
   have y2:aB w2.heap.size ((((((((((w7).setCell ⟨w2.heap.size,0,none⟩ (.int .i64 (n:Nat)))).setCell ⟨w2.heap.size,1,none⟩ (.slice none 0 0))).setCell ⟨w2.heap.size,2,none⟩ tm)).setCell ⟨w2.heap.size,3,none⟩ t.log)).setCell ⟨w2.heap.size,4,none⟩ (.slice h5 t.px.length h6)) (.slice h5 t.px.length h6) t.px:=((((((h0).setOther (a:=⟨w2.heap.size,0,none⟩) (fun e=>h1 _ e rfl) _).setOther (a:=⟨w2.heap.size,1,none⟩) (fun e=>h1 _ e rfl) _).setOther (a:=⟨w2.heap.size,2,none⟩) (fun e=>h1 _ e rfl) _).setOther (a:=⟨w2.heap.size,3,none⟩) (fun e=>h1 _ e rfl) _).setOther (a:=⟨w2.heap.size,4,none⟩) (fun e=>h1 _ e rfl) _)
   go_wp2;refine l_ hK ?_;clear hK K;refine cC (by kernel_rfl) ?_;go_wp2_with fail
   go_meet
   exact ⟨w2.heap.size,_,rfl,h7,y0,y2,y4⟩
 case rest=>
  obtain ⟨A,tu,rfl,hA,B3,O3,E3⟩:=hcut;obtain ⟨z5,z6,rfl,-⟩:=O3.form
  have S3:GSr w2.heap.size n tm t f A w.heap.size (w.heap.size+1+1) (.slice z5 t.px.length z6) w wc [] (.slice none 0 0):=
   ⟨x5.trans E3,R2.ext E3,Q2.ext E3,B3,aE.nil _ _ _ _ _,O3⟩
  have y9:=hid S3;have zQ:=Q2.lt;clear R2 T2 Q2 x5 t0 t1 zt B3 O3 E3 S3;go_wp2_with fail
  go_loopw [11] (fun v wr=>∃(j:Nat) (ps:List Pt) (pu:Value),j<=n/\v = .int .i64 (j:Nat)/\ps.length=j*n/\ps=aC3 f n (j*n)/\GSr w2.heap.size n tm t f A w.heap.size (w.heap.size+1+1) (.slice z5 t.px.length z6) w wr ps pu) (fun v _=>n - (intOf v).toNat)
  case atStart=>exact ⟨0,[],_,by omega,rfl,by simp,by rw [aWb];rfl,y9⟩
  case round=>
   obtain ⟨j,ps,pu,hj,rfl,z0,x9,hs⟩:=hrel;have y7:=hid z0;have z7:=hid x9;clear z0 x9;have HS:=hid hs;clear hs y9
   by_cases b9:j<n
   ·go_wp2_with fail
    go_loopw [12] (fun v wr=>∃(i:Nat) (ps:List Pt) (pu:Value),i<=n/\v = .int .i64 (i:Nat)/\ps.length=j*n+i/\ps=aC3 f n (j*n+i)/\GSr w2.heap.size n tm t f A w.heap.size (w.heap.size+1+1) (.slice z5 t.px.length z6) w wr ps pu) (fun v _=>n - (intOf v).toNat)
    case atStart=>exact ⟨0,ps,pu,by omega,rfl,y7,z7,HS⟩
    case round=>
     obtain ⟨i,ps,pu,hi',rfl,z0,x9,hs⟩:=hrel;have q6:=hid z0;have x7:=hid x9;clear z0 x9;have x8:=hid hs;clear hs HS
     by_cases y1:i<n
     ·have hR:=x8.pat
      have c0:=hR.cell (i:=0) (by decide);have c1:=hR.cell (i:=1) (by decide);have c2:=hR.cell (i:=2) (by decide);have c3:=hR.cell (i:=3) (by decide);have c4:=hR.cell (i:=4) (by decide);have c5:=hR.cell (i:=5) (by decide);have c6:=hR.cell (i:=6) (by decide);have c7:=hR.cell (i:=7) (by decide);have c8:=hR.cell (i:=8) (by decide);have c9:=hR.cell (i:=9) (by decide);have a5:=hR.cell (i:=10) (by decide);have a6:=hR.cell (i:=11) (by decide);go_wp2_with fail
      obtain ⟨x,y,z,a0⟩:∃x y z,evP f ((i:Nat):Int) ((j:Nat):Int) ((n:Nat):Int)=⟨x,y,z⟩:=⟨_,_,_,rfl⟩
      have y6:=hid a0;clear a0;refine r_ (yO y6 ⟨by omega,by omega⟩ ⟨by omega,by omega⟩ ⟨by omega,by omega⟩ _) fun w3 x3=>?_;have y3:Ext w3 (w3.alloc (.cells #[x,y,z] 122)):=X_;have v3:=aRr w3 122 [x,y,z];have x4:=hid (x8.to (x3.trans y3));have a4:=hid v3;have z3:=x3.size;have b1:=x4.box.cell 1 rfl;have a7:=x4.box.free 1;have zA:=x4.box.lt
      have d5:A<w3.heap.size:=by
       have:=x8.box.lt;omega
      obtain ⟨pa,pc,rfl,-⟩:=aE.form x4.pts;clear x3 y3 v3 c0 c1 c2 c3 c4 c5 c6 c7 c8 c9 a5 a6 hR x8;go_wp2_with fail;refine aH [([0,1,2,3,4,5,6,7,8,9,10,11,12,13,14,15,16],17),([],18),([19],20)] 20 (fun w'=>∃d,w'=fT (C2b A w3.heap.size) _ d) (by kernel_rfl) (by kernel_rfl) (SC.drew _ _) ?_;refine sc_ fun K hK=>?_;go_wp2_with fail;have y8:Ext (w3.alloc (.cells #[x,y,z] 122)) (((w3.alloc (.cells #[x,y,z] 122)).alloc (.cells #[.int .i64 ((i:Int)*256 / (n:Int)),.int .i64 ((j:Int)*256 / (n:Int)),x,y,z] 228)).drew):=S_;have b8:=(aRr (w3.alloc (.cells #[x,y,z] 122)) 228 [.int .i64 ((i:Int)*256 / (n:Int)),.int .i64 ((j:Int)*256 / (n:Int)),x,y,z]).ext (show Ext _ (((w3.alloc (.cells #[x,y,z] 122)).alloc (.cells #[.int .i64 ((i:Int)*256 / (n:Int)),.int .i64 ((j:Int)*256 / (n:Int)),x,y,z] 228)).drew) from S_);rw [aRj] at b8;refine hK _ _ (.inr (SC.blocks fun a ha=>?_)) ?_
      ·rcases ha with ha|ha
       ·exact y8.block (by rw [ha,aRj];omega)
       ·exact y8.block (by rw [ha,aRj];omega)
      clear hK K;have z4:=hid (x4.to y8);have x6:=hid b8;have z9:=hid y8;have z8:=y8.size;rw [aRj] at z8
      have d0:j*n+i<=64:=by
       have:j*n<=7*8:=aSi (by omega) (by omega);omega
      clear y8 b8;refine sc_ fun K hK=>?_
      refine mO _ rfl _ _ rfl w2.heap.size (.slice pa ps.length pc) ps rfl z4.pts ⟨(i:Int)*256 / (n:Int),(j:Int)*256 / (n:Int),x,y,z⟩ (w3.heap.size+1) rfl (fun q hq=>by
       rcases (show q=0\/q=1\/q=2\/q=3\/q=4 by omega) with rfl|rfl|rfl|rfl|rfl
       ·exact x6.cell 0 rfl
       ·exact x6.cell 1 rfl
       ·exact x6.cell 2 rfl
       ·exact x6.cell 3 rfl
       ·exact x6.cell 4 rfl) (by have:=q6.out;omega) (by omega) ?_
      intro d4 w9 q8 hg;have q9:=aE.rowT z4.pts
      have kA:w9.heap[A]?=(w3.alloc (.cells #[x,y,z] 122)).heap[A]?:=(hg.block _ (by omega) (fun e=>by
       obtain ⟨_,c,hc⟩:=q9 _ e.symm;have hb:=z4.box;unfold Blk at hb;rw [hb] at hc;simp only [aRl,aSx] at hc
       exact absurd hc.2.1 (by decide))).trans (z9.block zA)
      have kV:w9.heap[w3.heap.size]?=(w3.alloc (.cells #[x,y,z] 122)).heap[w3.heap.size]?:=(hg.block _ (by omega) (fun e=>by
       obtain ⟨_,c,hc⟩:=q9 _ e.symm;have hb:=a4.ext z9;unfold Blk at hb;rw [hb] at hc;simp only [aRl,aSx] at hc
       exact absurd hc.2.1 (by decide))).trans (z9.block (by rw [aRj];omega))
      have a3:=hid (z4.grow (by omega) zQ hA z2 hg q8);have B9:=x4.box.of kA;have e1:=B9.cell 1 rfl;have g1:=B9.free 1;go_wp2_with fail;refine hK _ _ (.inr (SC.blocks fun a ha=>?_)) ?_
      ·rcases ha with ha|ha
       ·rw [ha];exact kA
       ·rw [ha];exact kV
      clear hK K;obtain ⟨d2,d3,hv,_⟩:=aE.form q8
      have a9:(ps++[(⟨(i:Int)*256 / (n:Int),(j:Int)*256 / (n:Int),x,y,z⟩:Pt)]).length=ps.length+1:=by simp
      rw [a9] at hv;subst hv;clear q8 hg q9 kA kV b1 a7 B9;refine hG ?_;simp only [aR8,aR1,aRm,aRg,aRh]
      show wpQuiet _ _ _ _ [_] _
      simp only [Act.put,aRp,aRx,aRw,aWp,aVg,aVh]
      repeat (go_big_quiet_step (fail))
      refine wpQuiet_nil ⟨_,rfl,fun K hK=>?_⟩;go_wp2_with fail;refine l_ hK ?_;clear hK K;refine aQ ?_;go_wp2;go_roundw
      case rel=>exact ⟨i+1,ps++[(⟨(i:Int)*256 / (n:Int),(j:Int)*256 / (n:Int),x,y,z⟩:Pt)],_,by omega,by go_num,by have:=q6.out;omega,by rw [x7,aJ5 f y1];congr 1;unfold ptG;rw [y6],a3⟩
      case measure=>simp [intOf];omega
     ·obtain rfl:i=n:=by omega
      go_wp2;go_roundw
      case rel=>exact ⟨j+1,ps,pu,by omega,by go_num,by rw [q6,aWx],by rw [x7,aWx],x8⟩
      case measure=>simp [intOf];omega
   ·obtain rfl:j=n:=by omega
    obtain ⟨b0,b1,b2,b3,b4⟩:=HS.box.q5;obtain ⟨q0,q1,q2,q3,q4⟩:=HS.res.q5;have g0:=HS.res.free 0;have g1:=HS.res.free 1;have g2:=HS.res.free 2;have g3:=HS.res.free 3;have g4:=HS.res.free 4;have zq:=HS.res.lt;have za:=HS.box.lt;obtain ⟨pa,pc,rfl,-⟩:=aE.form HS.pts;go_wp2;refine bodyPost_ret (v:=.tuple #[.agg #[(j:Nat),.slice pa ps.length pc,tm,t.log,.slice z5 t.px.length z6],.bool true]) (by simp [results,results141,go_sem, *]) rfl ?_;have a8:=HS.ext;have d1:=a8.size
    have FL:∀m,ps.length=m->dH 5 w2.heap.size wr.heap.size wr (.slice pa ps.length pc) m (aBb f j):=fun m hm=>by
     subst hm;refine aE.flatsI (ls:=Pt.ls) HS.pts (by decide) (fun _=>rfl) (fun _=>rfl) (fun p hp u hu=>?_) (fun q p k hq hk=>?_)
     ·rw [z7] at hp
      obtain ⟨q,hq,rfl⟩:=aSj hp;obtain ⟨e2,hl⟩:=aIi (aRs hq);rw [e2] at hu;have:=aG8 f (n:=j) (i:=q % j) (j:=q / j) (by omega) (aT4 _ (by omega)) (aTs hl) u hu;exact ⟨by omega,by omega⟩
     ·rw [z7] at hq
      obtain ⟨rfl,-⟩:=aIi hq;exact jZ f j q k hk
    exact ⟨_,rfl,⟨_,_,rfl,⟨by show (-9223372036854775808:Int)<=((j:Nat):Int);omega,by show ((j:Nat):Int)<=9223372036854775807;omega⟩,⟨by show (-9223372036854775808:Int)<=tm;omega,by show tm<=9223372036854775807;omega⟩,y5,(((FL _ y7).same (aBf wr zQ _ _ _ _ _)).wide z2 (by simp)),((HS.tex.ints.same (aBf wr zQ _ _ _ _ _)).wide z2 (by simp))⟩,S_⟩
def kF (i j:Int) (side k:Nat):Smp:=
 ⟨i*16+((k % side:Nat):Int)*((16 / side:Nat):Int)+cA [i,j,(k:Int),1] % ((16 / side:Nat):Int),j*16+((k / side:Nat):Int)*((16 / side:Nat):Int)+cA [i,j,(k:Int),2] % ((16 / side:Nat):Int),
  cA [i,j,(k:Int),3] % 16,cA [i,j,(k:Int),4] % 33 - 16,cA [i,j,(k:Int),5] % 33 - 16⟩
def pX (i j:Int) (side:Nat):List Smp:=(aR6 (side*side)).map (kF i j side)
theorem fY (i j:Int) (side:Nat):(pX i j side).length=side*side:=by unfold pX;simp
theorem aNv (hs:side=1\/side=2\/side=4) (hk:k<side*side) :
  (i*16<=(kF i j side k).x/\(kF i j side k).x<=i*16+15)/\(j*16<=(kF i j side k).y/\(kF i j side k).y<=j*16+15)/\(0<=(kF i j side k).t/\(kF i j side k).t<=15) /\
   (-16<=(kF i j side k).lx/\(kF i j side k).lx<=16)/\(-16<=(kF i j side k).ly/\(kF i j side k).ly<=16):=by
 have h1:k % side<side:=aT4 _ (by omega);have h2:k / side<side:=aTs hk;unfold kF;simp only;generalize k % side=a at h1 ⊢;generalize k / side=b at h2 ⊢;generalize cA [i,j,(k:Int),1]=p1;generalize cA [i,j,(k:Int),2]=p2;generalize cA [i,j,(k:Int),3]=p3;generalize cA [i,j,(k:Int),4]=p4;generalize cA [i,j,(k:Int),5]=p5
 rcases hs with rfl|rfl|rfl
 ·simp only [Nat.div_one];omega
 ·simp only [Nat.reduceDiv];omega
 ·simp only [Nat.reduceDiv];omega
theorem aIj {c:Cam} (hc:c.okB=true) (hi:0<=i/\i<c.w) (hj:0<=j/\j<c.h) (hs:side=1\/side=2\/side=4) (hk:k<side*side):Smp.okB c (kF i j side k)=true:=by
 obtain ⟨a,b,d,e,f⟩:=aNv (i:=i) (j:=j) hs hk;unfold Smp.okB;simp only [Bool.and_eq_true,aG];exact ⟨⟨⟨⟨⟨hc,by omega⟩,by omega⟩,by omega⟩,by omega⟩,by omega⟩
def kD (xs:List Int):Int:=xs.foldl (· + ·) 0
def qL (xs:List Int):Int:=bT (kD xs) (xs.length:Nat)
theorem aBg (xs:List Int) (a:Int):xs.foldl (· + ·) a=a+kD xs:=by
 unfold kD
 induction xs generalizing a with
 | nil=>simp
 | cons x xs ih=>
  rw [aXa,aXa,ih,ih (0+x)];omega
theorem aBh (x:Int) (xs:List Int):kD (x::xs)=x+kD xs:=by
 show xs.foldl (· + ·) (0+x)=_
 rw [aBg];omega
theorem uX (xs ys:List Int):kD (xs++ys)=kD xs+kD ys:=by
 unfold kD;rw [List.foldl_append,aBg]
 rfl
theorem aC4 {xs:List Int} {m:Int} (h:∀x∈xs,0<=x/\x<=m):0<=kD xs/\kD xs<=m*(xs.length:Nat):=by
 induction xs with
 | nil=>exact ⟨by decide,by simp [kD]⟩
 | cons x xs ih=>
  have a:=ih fun y hy=>h y (List.mem_cons_of_mem _ hy);have b:=h x (List.mem_cons_self ..);rw [aBh,aSw]
  have e:m*((xs.length+1:Nat):Int)=m*(xs.length:Nat)+m:=by
   rw [Int.natCast_add,Int.mul_add];simp
  omega
theorem rJ (c:Cam) (w:World):R_ 87 #[c.V] w (.bool c.okB):=by
 obtain ⟨cw,ch,zo,ne,de,le,fo⟩:=c
 obtain ⟨b1,h1⟩:∃b,inB cw 1 12=b:=⟨_,rfl⟩
 obtain ⟨b2,h2⟩:∃b,inB ch 1 12=b:=⟨_,rfl⟩
 obtain ⟨b3,h3⟩:∃b,inB zo 1 65536=b:=⟨_,rfl⟩
 obtain ⟨b4,h4⟩:∃b,inB ne 1 1000000=b:=⟨_,rfl⟩
 obtain ⟨b5,h5⟩:∃b,inB le 0 64=b:=⟨_,rfl⟩
 obtain ⟨b6,h6⟩:∃b,inB fo 0 1000000=b:=⟨_,rfl⟩
 have e:(Cam.mk cw ch zo ne de le fo).okB=(b1&&b2&&b3&&b4&&b5&&b6):=by unfold Cam.okB;simp only [h1,h2,h3,h4,h5,h6]
 rw [e];have H1:=hid h1;have H2:=hid h2;have H3:=hid h3;have H4:=hid h4;have H5:=hid h5;have H6:=hid h6;clear h1 h2 h3 h4 h5 h6 e
 show Calls aRn 87 #[.agg #[cw,ch,zo,ne,.bool de,le,fo]] w _
 cases b1
 rotate_left
 cases b2
 rotate_left
 cases b3
 rotate_left
 cases b4
 rotate_left
 cases b5
 rotate_left
 cases b6
 all_goals
  go_enter func87,ntmps87;go_wp2_with (go_at_call 46;with_reducible first|(refine z_ (aF H1.out _) ?_)|(refine z_ (aF H2.out _) ?_)|(refine z_ (aF H3.out _) ?_)|(refine z_ (aF H4.out _) ?_)|(refine z_ (aF H5.out _) ?_)|(refine z_ (aF H6.out _) ?_));go_ret;exact ⟨rfl,X_⟩
theorem aO {c:Cam} {b:Bool} (h:c.okB=b) (w:World):R_ 87 #[c.V] w (.bool b):=h▸rJ c w
theorem aBi {b c:Int} (h:Blk w g 3 [a,b,c,d]) (hi:∀y∈[a,b,c,d],I64 y):aS 0 w.heap.size w (.slice (some ⟨g,0,none⟩) 4 4) [a,b,c,d]:=
 ⟨_,4,rfl,aRi _,by unfold maxLen;omega,fun i y hy=>⟨hi y (aR7 hy),g,0,rfl,aS1 _,h.lt,by
  rw [aSf];have e:=congrArg (Option.map (aUp .i64)) hy;rw [<-aS7] at e
  exact h.cell i e⟩⟩
theorem fZ (lo hi:Nat) (u:Value) (xs:List Int) (n:Int) (w:World) (hu:aS lo hi w u xs) (hn:1<=n/\n<=1000000) (hr:cA xs % n=r) :
  Z_ 118 #[u,n] w (.int .i64 r):=by
 have HU:=hid hu;have HR:=hid hr;obtain ⟨a,cap,rfl,-⟩:=hu.open;have hb:=gP xs
 obtain ⟨h,hh⟩:∃h,cA xs=h:=⟨_,rfl⟩
 rw [hh] at hb hr;have HH:=hid hh;have h0:=hid hr;clear hu hr hh HR;go_enter func118,ntmps118;go_wp2_with fail;refine (qB lo hi _ xs _ HU).mono ?_;rw [HH];rintro e w1 ⟨rfl,rfl⟩;go_wp2;go_ret;exact ⟨cK h0,rfl⟩
theorem aBj:(Tryz.prog.info? 42).map (fun i=>(i.zero,i.size,i.bytes))=some (some (.agg #[(),(),(),(),()]),5,40):=by kernel_rfl
theorem Smp.one (x:Smp):∀u∈x.cs,u.oneCell'=true:=by
 intro u hu;simp only [Smp.cs,aR4,aRz,or_false] at hu
 rcases hu with rfl|rfl|rfl|rfl|rfl <;> rfl
theorem aNw {q r:Nat} (hq:q<side) {s p1 p2 p3 p4 p5:Int} (hs:((16 / side:Nat):Int)=s) (h1:cA [i,j,((r*side+q:Nat):Int),1] % s=p1) (h2:cA [i,j,((r*side+q:Nat):Int),2] % s=p2)
  (h3:cA [i,j,((r*side+q:Nat):Int),3] % 16=p3) (h4:cA [i,j,((r*side+q:Nat):Int),4] % 33=p4) (h5:cA [i,j,((r*side+q:Nat):Int),5] % 33=p5) :
  kF i j side (r*side+q)=⟨i*16+(q:Int)*s+p1,j*16+(r:Int)*s+p2,p3,p4 - 16,p5 - 16⟩:=by
 have e1:(r*side+q) % side=q:=by rw [aXw,aWs,aU4 hq]
 have e2:(r*side+q) / side=r:=by rw [aXw,aX6 _ _ (by omega),aWw hq,aSf]
 unfold kF;rw [e1,e2,hs,h1,h2,h3,h4,h5]
theorem aE.freshS {α : Type} {cs : α->List Value} (hl:lo<=g) (h:Blk w g e []):aE cs lo e sz w (.slice (some ⟨g,0,none⟩) 0 0) []:=
 ⟨by simp,.inr ⟨g,0,#[],rfl,hl,h,aRi _,by unfold maxLen;omega,by simp,by simp⟩⟩
theorem nH {α : Type} (f:Nat->α) (n:Nat):(aR6 (n+1)).map f=(aR6 n).map f++[f n]:=by rw [aT3,aTp,aVk]
theorem sP (c:Cam) (hc:c.okB=true) (i j:Int) (hi:0<=i/\i<c.w) (hj:0<=j/\j<c.h) (sd:Nat) (hs:sd=1\/sd=2\/sd=4) (w:World) :
  Calls aRn 68 #[.agg c,i,j,(sd:Nat)] w fun e w'=>∃r,e = .returned r/\aE Smp.cs w.heap.size 42 5 w' r (pX i j sd)/\Ext w w':=by
 have HC:=hid hc;have hw:=(Cam.okB_iff.1 hc).w;have hh:=(Cam.okB_iff.1 hc).h;have I1:=hid (aG.2 (show 0<=i/\i<=c.w - 1 by omega));have I2:=hid (aG.2 (show 0<=j/\j<=c.h - 1 by omega));have x0:Ext w (w.alloc (.cells c 35)):=X_;have bC:=aRr w 35 c;have c9:=hid x0;have x2:=hid bC;clear hc x0 bC;have c6:=hid hs
 have d3:sd<=4:=by omega
 have d6:((sd:Nat):Int)≠0:=by omega
 obtain ⟨ST,h8⟩:∃st:Int,((16 / sd:Nat):Int)=st:=⟨_,rfl⟩
 have t0:Int.tdiv 16 ((sd:Nat):Int)=ST:=by rw [<-h8,aTd (by omega)];rfl
 have d4:4<=ST/\ST<=16:=by rw [<-h8];rcases hs with rfl|rfl|rfl <;> decide
 have c7:=hid h8
 have d2:sd*sd<=16:=by rcases hs with rfl|rfl|rfl <;> decide
 clear hs h8;go_enter func68,ntmps68;go_upto_region 2 with fail
 go_cut [46] from 16 to 47 (fun u wx=>u = .bool false/\Ext w wx/\Blk wx (w.heap.size+1) 42 [])
 case first=>
  go_wp2_with fail;refine r_ (aO HC.out _) fun w1 x1=>?_;have b1:=x2.out.ext (aRo (show Ext (w.alloc (.cells c 35)) ((w.alloc (.cells c 35)).alloc (.cells #[] 42)) from X_) x1);have bE:=(aRr (w.alloc (.cells c 35)) 42 []).ext x1;rw [aRj] at bE;have X1:=hid (c9.out.trans (aRo (show Ext (w.alloc (.cells c 35)) ((w.alloc (.cells c 35)).alloc (.cells #[] 42)) from X_) x1));obtain ⟨c0,c1⟩:=b1.q2;have l1:=b1.lt;have h7:=hid bE;clear b1 x1 bE x2
  rcases c6.out with h1|h1|h1
  all_goals
   have h2:((sd:Nat):Int)=((sd:Nat):Int):=rfl;subst h1;clear h2;go_wp2_with (go_at_call 46;with_reducible first|(refine z_ (aF I1.out _) ?_)|(refine z_ (aF I2.out _) ?_))
   go_meet
   exact ⟨rfl,X1.out,h7.out⟩
 case rest=>
  obtain ⟨rfl,x1,y4⟩:=hcut;have X1:=hid x1;have h7:=hid y4;clear x1 y4;go_wp2_with fail
  go_loopw [9,11] (fun v x wr=>∃(r:Nat) (xs:List Smp),r<=sd/\x = .int .i64 (r:Nat)/\xs=(aR6 (r*sd)).map (kF i j sd)/\aE Smp.cs w.heap.size 42 5 wr v xs/\Ext w wr) (fun _ x _=>sd - (intOf x).toNat)
  case atStart=>exact ⟨0,[],by omega,rfl,by rw [aWb];rfl,aE.freshS (by omega) h7.out,X1.out⟩
  case round=>
   obtain ⟨r,xs,hr,rfl,h6,ho,hx⟩:=hrel;obtain ⟨xa,xc,rfl,d5⟩:=aE.form ho;have h4:=hid h6;have HO:=hid ho;have HX:=hid hx;clear h6 ho hx h7
   rcases aSo r sd with hlt|hge
   ·have d0:(r:Int)<((sd:Nat):Int):=by omega
    go_wp2_with fail
    go_loopw [9,12] (fun v x wr=>∃(q:Nat) (xs:List Smp),q<=sd/\x = .int .i64 (q:Nat)/\xs=(aR6 (r*sd+q)).map (kF i j sd)/\aE Smp.cs w.heap.size 42 5 wr v xs/\Ext w wr) (fun _ x _=>sd - (intOf x).toNat)
    case atStart=>exact ⟨0,xs,by omega,rfl,by rw [Nat.add_zero];exact h4.out,HO.out,HX.out⟩
    case round=>
     clear h4 HO HX;obtain ⟨q,xs,hq,rfl,h6,ho,hx⟩:=hrel;obtain ⟨xa,xc,rfl,d5⟩:=aE.form ho;have h4:=hid h6;have HO:=hid ho;have HX:=hid hx;clear h6 ho hx
     rcases aSo q sd with hq2|hq2
     ·have d7:(q:Int)<((sd:Nat):Int):=by omega
      obtain ⟨m,hm⟩:∃m,xs.length=m:=⟨_,rfl⟩
      have a3:m=r*sd+q:=by rw [<-hm,h4.out,aSv,aUi]
      have d8:r*sd<=3*4:=aSi (by omega) (by omega)
      have d1:m<=15:=by omega
      obtain ⟨p1,q6⟩:∃p,cA [i,j,(m:Nat),1] % ST=p:=⟨_,rfl⟩
      obtain ⟨p2,q7⟩:∃p,cA [i,j,(m:Nat),2] % ST=p:=⟨_,rfl⟩
      obtain ⟨p3,a4⟩:∃p,cA [i,j,(m:Nat),3] % 16=p:=⟨_,rfl⟩
      obtain ⟨p4,a5⟩:∃p,cA [i,j,(m:Nat),4] % 33=p:=⟨_,rfl⟩
      obtain ⟨p5,a6⟩:∃p,cA [i,j,(m:Nat),5] % 33=p:=⟨_,rfl⟩
      have b1:0<=p1/\p1<=15:=by rw [<-q6];exact ⟨aVs _ (by omega),by have:=aU2 (cA [i,j,((m:Nat):Int),1]) (show 0<ST by omega);omega⟩
      have b2:0<=p2/\p2<=15:=by rw [<-q7];exact ⟨aVs _ (by omega),by have:=aU2 (cA [i,j,((m:Nat):Int),2]) (show 0<ST by omega);omega⟩
      obtain ⟨e1,a0⟩:∃e1,(q:Int)*ST=e1:=⟨_,rfl⟩
      obtain ⟨e2,a1⟩:∃e2,(r:Int)*ST=e2:=⟨_,rfl⟩
      have q1:0<=e1/\e1<=64:=by
       rw [<-a0];have:=aY (a:=(q:Int)) (b:=ST) (A:=4) (B:=16) (by omega) (by omega);exact ⟨aSu (by omega) (by omega),by omega⟩
      have q2:0<=e2/\e2<=64:=by
       rw [<-a1];have:=aY (a:=(r:Int)) (b:=ST) (A:=4) (B:=16) (by omega) (by omega);exact ⟨aSu (by omega) (by omega),by omega⟩
      have b0:=hid a0;have b7:=hid a1
      have b3:0<=p3/\p3<=15:=by omega
      have b4:0<=p4/\p4<=32:=by omega
      have b5:0<=p5/\p5<=32:=by omega
      have P1:=hid q6;have P2:=hid q7;have P3:=hid a4;have P4:=hid a5;have P5:=hid a6
      have h0:=hid (show ∀k:Int,(0<=k/\k<=10)->∀y∈[i,j,((m:Nat):Int),k],I64 y from fun k hk y hy=>by
       simp only [aR4,aRz,or_false] at hy
       rcases hy with rfl|rfl|rfl|rfl <;> exact ⟨by omega,by omega⟩)
      have z2:=hid a3;have z3:=hid hm;have w0:=aRr wr 3 [i,j,(m:Nat),.int .i64 1];have x7:=hid w0;rw [hm];clear q6 q7 a4 a5 a6 a3 w0;go_wp2_with fail;refine z_ (fZ 0 _ _ [i,j,(m:Nat),1] _ _ (aBi x7.out (h0.out 1 (by decide))) (by omega) P1.out) ?_;clear hm;go_upto_region 13 with fail;have bX:=aRr (wr.alloc (.cells #[i,j,(m:Nat),.int .i64 1] 3)) 42 [.int .i64 (i*16+e1+p1),(),(),(),()];rw [aRj] at bX;have xX:Ext wr ((wr.alloc (.cells #[i,j,(m:Nat),.int .i64 1] 3)).alloc (.cells #[.int .i64 (i*16+e1+p1),(),(),(),()] 42)):=X_
      obtain ⟨W2,y5⟩:∃W,(wr.alloc (.cells #[i,j,(m:Nat),.int .i64 1] 3)).alloc (.cells #[.int .i64 (i*16+e1+p1),(),(),(),()] 42)=W:=⟨_,rfl⟩
      rw [y5] at bX xX ⊢;have x3:=hid bX;have z4:=hid xX;clear y5 bX xX x7;have y0:=aRr W2 3 [i,j,(m:Nat),.int .i64 2];have x8:=hid y0;clear y0;go_wp2_with fail;refine z_ (fZ 0 _ _ [i,j,(m:Nat),2] _ _ (aBi x8.out (h0.out 2 (by decide))) (by omega) P2.out) ?_
      have q2:=(x3.out.ext (show Ext W2 (W2.alloc (.cells #[i,j,(m:Nat),.int .i64 2] 3)) from X_))
      have cq:=q2.cell 1 rfl;have fq:=q2.free 1;have lq:=q2.lt;have Q2:=hid q2;clear q2;go_upto_region 14 with fail
      obtain ⟨W3,y6⟩:∃W,(W2.alloc (.cells #[i,j,(m:Nat),.int .i64 2] 3)).setCell ⟨wr.heap.size+1,1,none⟩ (.int .i64 (j*16+e2+p2))=W:=⟨_,rfl⟩
      have bb:=Q2.out.set 1 (.int .i64 (j*16+e2+p2));have xx:Ext wr ((W2.alloc (.cells #[i,j,(m:Nat),.int .i64 2] 3)).setCell ⟨wr.heap.size+1,1,none⟩ (.int .i64 (j*16+e2+p2))):=aR0 (aRo z4.out X_) (by simp only;omega) _;rw [y6] at bb xx ⊢;have x4:=hid bb;have z5:=hid xx;clear y6 bb xx cq fq lq Q2 x3 z4 x8;have y1:=aRr W3 3 [i,j,(m:Nat),.int .i64 3];have x9:=hid y1;clear y1;go_wp2_with fail;refine z_ (fZ 0 _ _ [i,j,(m:Nat),3] _ _ (aBi x9.out (h0.out 3 (by decide))) (by omega) P3.out) ?_
      have q3:=(x4.out.ext (show Ext W3 (W3.alloc (.cells #[i,j,(m:Nat),.int .i64 3] 3)) from X_))
      have cq:=q3.cell 2 rfl;have fq:=q3.free 2;have lq:=q3.lt;have Q3:=hid q3;clear q3;go_upto_region 15 with fail
      obtain ⟨W4,y7⟩:∃W,(W3.alloc (.cells #[i,j,(m:Nat),.int .i64 3] 3)).setCell ⟨wr.heap.size+1,2,none⟩ (.int .i64 (p3))=W:=⟨_,rfl⟩
      have bb:=Q3.out.set 2 (.int .i64 (p3));have xx:Ext wr ((W3.alloc (.cells #[i,j,(m:Nat),.int .i64 3] 3)).setCell ⟨wr.heap.size+1,2,none⟩ (.int .i64 (p3))):=aR0 (aRo z5.out X_) (by simp only;omega) _;rw [y7] at bb xx ⊢;have x5:=hid bb;have z6:=hid xx;clear y7 bb xx cq fq lq Q3 x4 z5 x9;have y2:=aRr W4 3 [i,j,(m:Nat),.int .i64 4];have z0:=hid y2;clear y2;go_wp2_with fail;refine z_ (fZ 0 _ _ [i,j,(m:Nat),4] _ _ (aBi z0.out (h0.out 4 (by decide))) (by omega) P4.out) ?_
      have q4:=(x5.out.ext (show Ext W4 (W4.alloc (.cells #[i,j,(m:Nat),.int .i64 4] 3)) from X_))
      have cq:=q4.cell 3 rfl;have fq:=q4.free 3;have lq:=q4.lt;have Q4:=hid q4;clear q4;go_upto_region 16 with fail
      obtain ⟨W5,y8⟩:∃W,(W4.alloc (.cells #[i,j,(m:Nat),.int .i64 4] 3)).setCell ⟨wr.heap.size+1,3,none⟩ (.int .i64 (p4 - 16))=W:=⟨_,rfl⟩
      have bb:=Q4.out.set 3 (.int .i64 (p4 - 16));have xx:Ext wr ((W4.alloc (.cells #[i,j,(m:Nat),.int .i64 4] 3)).setCell ⟨wr.heap.size+1,3,none⟩ (.int .i64 (p4 - 16))):=aR0 (aRo z6.out X_) (by simp only;omega) _;rw [y8] at bb xx ⊢;have x6:=hid bb;have z7:=hid xx;clear y8 bb xx cq fq lq Q4 x5 z6 z0;have y3:=aRr W5 3 [i,j,(m:Nat),.int .i64 5];have z1:=hid y3;clear y3;go_wp2_with fail;refine z_ (fZ 0 _ _ [i,j,(m:Nat),5] _ _ (aBi z1.out (h0.out 5 (by decide))) (by omega) P5.out) ?_
      have q5:=(x6.out.ext (show Ext W5 (W5.alloc (.cells #[i,j,(m:Nat),.int .i64 5] 3)) from X_))
      have cq:=q5.cell 4 rfl;have fq:=q5.free 4;have lq:=q5.lt;have Q5:=hid q5;clear q5;go_upto_region 17 with fail
      obtain ⟨W6,y9⟩:∃W,(W5.alloc (.cells #[i,j,(m:Nat),.int .i64 5] 3)).setCell ⟨wr.heap.size+1,4,none⟩ (.int .i64 (p5 - 16))=W:=⟨_,rfl⟩
      have bb:=Q5.out.set 4 (.int .i64 (p5 - 16));have xx:Ext wr ((W5.alloc (.cells #[i,j,(m:Nat),.int .i64 5] 3)).setCell ⟨wr.heap.size+1,4,none⟩ (.int .i64 (p5 - 16))):=aR0 (aRo z7.out X_) (by simp only;omega) _;rw [y9] at bb xx ⊢;have a9:=hid bb;have z8:=hid xx;clear y9 bb xx cq fq lq Q5 x6 z7 z1
      have a7:kF i j sd m=⟨i*16+e1+p1,j*16+e2+p2,p3,p4 - 16,p5 - 16⟩:=by
       have em:=z2.out;rw [em];rw [<-b0.out,<-b7.out];refine aNw hq2 c7.out ?_ ?_ ?_ ?_ ?_
       ·rw [<-em];exact P1.out
       ·rw [<-em];exact P2.out
       ·rw [<-em];exact P3.out
       ·rw [<-em];exact P4.out
       ·rw [<-em];exact P5.out
      have b6:=a9.out;obtain ⟨c0,c1,c2,c3,c4⟩:=b6.q5;have l6:=b6.lt;have q8:=hid a7;have bE:=aRr W6 42 [.int .i64 (i*16+e1+p1),.int .i64 (j*16+e2+p2),p3,.int .i64 (p4 - 16),.int .i64 (p5 - 16)];have HE:=hid bE;have O6:=hid (aE.ext (aE.ext HO.out z8.out) (show Ext W6 (W6.alloc (.cells #[.int .i64 (i*16+e1+p1),.int .i64 (j*16+e2+p2),p3,.int .i64 (p4 - 16),.int .i64 (p5 - 16)] 42)) from X_));have z9:=hid (aRo z8.out (show Ext W6 (W6.alloc (.cells #[.int .i64 (i*16+e1+p1),.int .i64 (j*16+e2+p2),p3,.int .i64 (p4 - 16),.int .i64 (p5 - 16)] 42)) from X_))
      have a8:w.heap.size<=(W6.alloc (.cells #[.int .i64 (i*16+e1+p1),.int .i64 (j*16+e2+p2),p3,.int .i64 (p4 - 16),.int .i64 (p5 - 16)] 42)).heap.size:=by have h1:=z9.out.size;have h2:=HX.out.size;omega
      have c8:=hid a8
      have a2:xs.length<1000000:=by rw [z3.out];omega
      have b9:=hid a2;have O7:Hid (aE Smp.cs w.heap.size 42 5 (W6.alloc (.cells #[.int .i64 (i*16+e1+p1),.int .i64 (j*16+e2+p2),p3,.int .i64 (p4 - 16),.int .i64 (p5 - 16)] 42)) (.slice xa m xc) xs):=hid (z3.out▸O6.out);clear b6 a7 bE a8 a2
      go_wp2_with (at_builtin;refine cX Smp.cs 42 5 40 _ _ rfl _ _ 103 rfl underlying103 aBj rfl (by decide) (by decide) (fun _=>rfl) w.heap.size (.slice xa m xc) xs rfl O7.out ⟨i*16+e1+p1,j*16+e2+p2,p3,p4 - 16,p5 - 16⟩ W6.heap.size rfl (fun jj hj=>by
        rcases (show jj=0\/jj=1\/jj=2\/jj=3\/jj=4 by omega) with rfl|rfl|rfl|rfl|rfl
        ·exact HE.out.cell 0 rfl
        ·exact HE.out.cell 1 rfl
        ·exact HE.out.cell 2 rfl
        ·exact HE.out.cell 3 rfl
        ·exact HE.out.cell 4 rfl) (Smp.one _) b9.out c8.out ?_;intro v8 w8 h3 hg;obtain ⟨q9,h5⟩:∃q9,xs++[(⟨i*16+e1+p1,j*16+e2+p2,p3,p4 - 16,p5 - 16⟩:Smp)]=q9:=⟨_,rfl⟩;rw [h5] at h3;have h9:=hid h5;have c5:=hid h3;have b8:=hid hg;obtain ⟨va,vc,rfl,_⟩:=aE.form h3;clear h3 hg h5)
      go_roundw
      case rel=>
       refine ⟨q+1,q9,by omega,by go_num,?_,c5.out,aSt (HX.out.trans z9.out) b8.out (fun k hk=>(aE.lt O7.out k hk).1)⟩
       ·rw [<-h9.out,<-q8.out,z2.out,h4.out]
        exact (nH _ _).symm
      case measure=>simp [intOf];omega
     ·obtain rfl:q=sd:=by omega
      have q0:=hid (show xs=(aR6 ((r+1)*q)).map (kF i j q) by rw [h4.out,aWx]);go_wp2;go_roundw
      case rel=>exact ⟨r+1,xs,by omega,by go_num,q0.out,HO.out,HX.out⟩
      case measure=>simp [intOf];omega
   ·obtain rfl:r=sd:=by omega
    have HF:=hid (show xs=pX i j r by rw [h4.out];rfl);go_wp2;go_ret;refine ⟨_,rfl,?_,HX.out⟩;rw [<-HF.out];exact HO.out
theorem lC (s:Scn) (lo hi:Nat) (v:Value) (w:World) (hv:s.R lo hi w v) (hh:hi<=w.heap.size) (hsm:s.small) :
  R_ 45 #[v] w (.bool s.okB):=by
 obtain ⟨a1,c1,a2,c2,a3,c3,rfl,-,q1,-,h1,h2,h3⟩:=hv.form;have q0:=aRr w 40 (sL_ s a1 c1 a2 c2 a3 c3);have R0:=hid q0;have X0:=hid (show Ext w (w.alloc (.cells (sA_ s a1 c1 a2 c2 a3 c3) 40)) from X_);have HT:=hid (show ∀W:World,Ext w W->cT lo hi W (.agg #[s.t.log,.slice a1 s.t.px.length c1]) s.t from fun W x=>⟨_,rfl,q1,(h1.shut).ext hh x⟩);have H1:=hid h1;have H2:=hid h2;have H3:=hid h3;have z7:=h2.le;have z2:=h2.cap;have z8:=h3.le;have z3:=h3.cap;have HS:=hid hsm;clear q0 hv q1 h1 h2 h3 hsm;unfold Scn.okB
 obtain ⟨b1,q3⟩:∃b,s.c.okB=b:=⟨_,rfl⟩
 obtain ⟨b2,q4⟩:∃b,s.t.okB=b:=⟨_,rfl⟩
 obtain ⟨b3,q8⟩:∃b,inB (s.ps.length:Int) 1 3=b:=⟨_,rfl⟩
 have C1:=hid q3;have C2:=hid q4;have C3:=hid q8;rw [q3,q4,q8];clear q3 q4 q8;go_enter func45,ntmps45;go_wp2_with fail
 go_loopw [13] (fun i wr=>∃k:Nat,k<=s.ps.length/\i = .int .i64 (k:Nat)/\Ext w wr/\Blk wr w.heap.size 40 (sL_ s a1 c1 a2 c2 a3 c3)/\∀q (hq:q<k) (hq2:q<s.ps.length),s.ps[q].chkB=true) (fun i _=>s.ps.length - (intOf i).toNat)
 case atStart=>exact ⟨0,by omega,rfl,X0,R0,fun q hq=>absurd hq (by omega)⟩
 case round=>
  obtain ⟨k,hk,rfl,hx,hb,hc⟩:=hrel;have HX:=hid hx;have HB:=hid hb;have HC:=hid hc
  rcases aSo k s.ps.length with hlt|hge
  ·obtain ⟨b,q6,e1,d1,e2,d2,rfl,z6,z5,k1,k2,hR⟩:=H2.at hlt hx hh
   have HR:=hid hR;have hz:=hx.size;have HL:=hid hlt;clear hx hb hc hR;go_wp2_with fail;refine (xI lo hi _ _ _ (HR.ext (by omega) (show Ext wr (wr.alloc (.cells #[.slice e1 (s.ps[k]'hlt).ns.length d1,.slice e2 (s.ps[k]'hlt).gs.length d2] 119)) from X_)) (by simp;omega) (HS _ (aR2 hlt)).1 (HS _ (aR2 hlt)).2.1.1 (HS _ (aR2 hlt)).2.2).mono ?_;rintro e w5 ⟨⟨cc,ck,rfl,hcc⟩,x5⟩;have y5:Ext wr w5:=aRo (show Ext wr (wr.alloc (.cells #[.slice e1 (s.ps[k]'hlt).ns.length d1,.slice e2 (s.ps[k]'hlt).gs.length d2] 119)) from X_) x5
   by_cases x7:cc=0
   ·subst x7
    have X5:=hid (HX.trans y5);have R5:=hid (HB.ext y5);have q7:=hid hcc.symm;clear hcc x5 y5;go_wp2;go_roundw
    case rel=>
     refine ⟨k+1,by omega,by go_num,X5,R5,fun q hq hq2=>?_⟩
     rcases aSo q k with h|h
     ·exact HC q h hq2
     ·obtain rfl:q=k:=by omega
      exact q7
    case measure=>simp [intOf];omega
   ·have h8:s.ps.all Prg.chkB=false:=aUt.2 ⟨_,aR2 hlt,by rw [<-hcc];simp [x7]⟩
    have h6:=hid h8;have X5:=hid (HX.trans y5);clear hcc x5 y5 h8;go_wp2;go_ret;exact ⟨by rw [h6];simp,X5⟩
  ·obtain rfl:k=s.ps.length:=by omega
   have h8:s.ps.all Prg.chkB=true:=aSs.2 (fun x hx=>by obtain ⟨q,hq,rfl⟩:=aSj hx;exact hc q hq hq);have HA:=hid h8;have z1:=hb.cell 10 rfl;have lb:=hb.lt;clear hx hb hc h8;go_wp2_with fail;clear z1 lb
   go_loopw [28] (fun i wr=>∃k:Nat,k<=s.m/\i = .int .i64 (k:Nat)/\Ext w wr/\Blk wr w.heap.size 40 (sL_ s a1 c1 a2 c2 a3 c3)/\∀q,q<k->s.srfB q=true) (fun i _=>s.m - (intOf i).toNat)
   case atStart=>exact ⟨0,by omega,rfl,HX,HB,fun q hq=>absurd hq (by omega)⟩
   case round=>
    obtain ⟨j,hj,rfl,hx,hb,hc⟩:=hrel;have HX:=hid hx;have HB:=hid hb;have HC:=hid hc
    rcases aSo j s.m with hlt|hge
    ·obtain ⟨b,q6,rfl,q3,q4,h9⟩:=H3.at hlt (by decide)
     have bw:b<w.heap.size:=by omega
     have q9:wr.rangeAt b (q6+j*26) ((aR6 26).map fun q=>.int .i64 (s.F (j*26+q))):=by
      intro q v hq;obtain ⟨h1,h2⟩:=aRk.1 hq;simp only [aSv,aUi] at h1;simp only [aU3,aUd] at h2;subst h2;exact (hx.cells.1 b _ bw).trans (h9 q h1)
     change wr.rangeAt b (q6+j*26) [(s.st j 0),(s.st j 1),(s.st j 2),(s.st j 3),(s.st j 4),(s.st j 5),(s.st j 6),(s.st j 7),(s.st j 8),(s.st j 9),(s.st j 10),(s.st j 11),(s.en j 0),(s.en j 1),(s.en j 2),(s.en j 3),(s.en j 4),(s.en j 5),(s.en j 6),(s.en j 7),(s.en j 8),(s.en j 9),(s.en j 10),(s.en j 11),(s.sh j),(s.rt j)] at q9;have x9:=hid q9
     have x4:World.rangeAt (wr.alloc (.cells #[(s.st j 0),(s.st j 1),(s.st j 2),(s.st j 3),(s.st j 4),(s.st j 5),(s.st j 6),(s.st j 7),(s.st j 8),(s.st j 9),(s.st j 10),(s.st j 11),(s.en j 0),(s.en j 1),(s.en j 2),(s.en j 3),(s.en j 4),(s.en j 5),(s.en j 6),(s.en j 7),(s.en j 8),(s.en j 9),(s.en j 10),(s.en j 11),(s.sh j),(s.rt j)] 127)) wr.heap.size 0 [(s.st j 0),(s.st j 1),(s.st j 2),(s.st j 3),(s.st j 4),(s.st j 5),(s.st j 6),(s.st j 7),(s.st j 8),(s.st j 9),(s.st j 10),(s.st j 11),(s.en j 0),(s.en j 1),(s.en j 2),(s.en j 3),(s.en j 4),(s.en j 5),(s.en j 6),(s.en j 7),(s.en j 8),(s.en j 9),(s.en j 10),(s.en j 11),(s.sh j),(s.rt j)]:=fun q v hq=>by rw [aSf];exact (aRr wr 127 [(s.st j 0),(s.st j 1),(s.st j 2),(s.st j 3),(s.st j 4),(s.st j 5),(s.st j 6),(s.st j 7),(s.st j 8),(s.st j 9),(s.st j 10),(s.st j 11),(s.en j 0),(s.en j 1),(s.en j 2),(s.en j 3),(s.en j 4),(s.en j 5),(s.en j 6),(s.en j 7),(s.en j 8),(s.en j 9),(s.en j 10),(s.en j 11),(s.sh j),(s.rt j)]).cell q hq
     have x8:=hid x4;clear q9 x4;have b9:=hb.cell 9 rfl;have bl:=hb.lt;have z4:b<wr.heap.size:=aS5 bw hx.size;clear hx hb hc h9;go_upto_region 11 with (first|(show wpList _ _ _ [_,_,_] _ _;refine wpList_load_mid rfl _ _ rfl b (q6+j*26) rfl [(s.st j 0),(s.st j 1),(s.st j 2),(s.st j 3),(s.st j 4),(s.st j 5),(s.st j 6),(s.st j 7),(s.st j 8),(s.st j 9),(s.st j 10),(s.st j 11),(s.en j 0),(s.en j 1),(s.en j 2),(s.en j 3),(s.en j 4),(s.en j 5),(s.en j 6),(s.en j 7),(s.en j 8),(s.en j 9),(s.en j 10),(s.en j 11),(s.sh j),(s.rt j)] _ x9 underlying127 rfl fX ?_)|(show wpList _ _ _ [_] _ _;refine dP _ _ _ rfl 127 (.tmp 8) (.tmp 31) rfl rfl #[(s.st j 0),(s.st j 1),(s.st j 2),(s.st j 3),(s.st j 4),(s.st j 5),(s.st j 6),(s.st j 7),(s.st j 8),(s.st j 9),(s.st j 10),(s.st j 11),(s.en j 0),(s.en j 1),(s.en j 2),(s.en j 3),(s.en j 4),(s.en j 5),(s.en j 6),(s.en j 7),(s.en j 8),(s.en j 9),(s.en j 10),(s.en j 11),(s.sh j),(s.rt j)] wr.heap.size rfl rfl rfl (by kernel_rfl) (by kernel_rfl) (by kernel_rfl) ?_));go_wp2_with (show wpList _ _ _ [_,_,_,_,_,_] _ _;refine wpList_load_mid rfl _ _ rfl wr.heap.size 0 rfl [(s.st j 0),(s.st j 1),(s.st j 2),(s.st j 3),(s.st j 4),(s.st j 5),(s.st j 6),(s.st j 7),(s.st j 8),(s.st j 9),(s.st j 10),(s.st j 11),(s.en j 0),(s.en j 1),(s.en j 2),(s.en j 3),(s.en j 4),(s.en j 5),(s.en j 6),(s.en j 7),(s.en j 8),(s.en j 9),(s.en j 10),(s.en j 11),(s.sh j),(s.rt j)] _ x8 underlying127 rfl fX ?_);refine r_ (pV (s.st j) (s.en j) (s.sh j) (s.rt j) s.ps.length _) fun w5 x5=>?_;have y5:Ext wr w5:=aRo (show Ext wr (wr.alloc (.cells #[(s.st j 0),(s.st j 1),(s.st j 2),(s.st j 3),(s.st j 4),(s.st j 5),(s.st j 6),(s.st j 7),(s.st j 8),(s.st j 9),(s.st j 10),(s.st j 11),(s.en j 0),(s.en j 1),(s.en j 2),(s.en j 3),(s.en j 4),(s.en j 5),(s.en j 6),(s.en j 7),(s.en j 8),(s.en j 9),(s.en j 10),(s.en j 11),(s.sh j),(s.rt j)] 127)) from X_) x5;have X5:=hid (HX.trans y5);have R5:=hid (HB.ext y5)
     cases q5:aNs (s.st j) (s.en j) (s.sh j) (s.rt j) s.ps.length
     ·have h8:(aR6 s.m).all s.srfB=false:=aUt.2 ⟨j,aSq.2 hlt,by unfold Scn.srfB;simp [q5]⟩
      have h6:=hid h8;clear q5 h8 x5 y5;go_wp2;go_ret;exact ⟨by rw [h6];simp,X5⟩
     ·have q7:=hid q5
      clear q5 x5 y5;go_wp2;go_roundw
      case rel=>
       refine ⟨j+1,by omega,by go_num,X5,R5,fun q hq=>?_⟩
       rcases aSo q j with h|h
       ·exact HC q h
       ·obtain rfl:q=j:=by omega
        exact q7
      case measure=>simp [intOf];omega
    ·obtain rfl:j=s.m:=by omega
     have h8:(aR6 s.m).all s.srfB=true:=aSs.2 (fun q hq=>HC q (aSq.1 hq));have h6:=hid h8;clear hx hb hc h8;clear HC;have HG:=hid hge;have HJ:=hid hj;clear hge hj
     by_cases hs:qK s.side=true
     ·have h3:s.side=1\/s.side=2\/s.side=4:=by unfold qK at hs;simpa [or_assoc] using hs
      have x3:=hid hs;clear hs
      obtain ⟨sd,x0⟩:∃sd,s.side=sd:=⟨_,rfl⟩
      have h5:=hid (show Blk wr w.heap.size 40 [s.c.w,s.c.h,s.c.zoom,s.c.near,.bool s.c.deep,s.c.lens,s.c.focus,s.t.log,.slice a1 s.t.px.length c1,.slice a2 s.ps.length c2,.slice a3 s.m c3,sd] from x0▸HB.out);have h7:=hid (show qK s.side=true from x3);rw [x0] at h3;clear x0 HB x3
      rcases h3 with rfl|rfl|rfl
      ·skip
       cases b1
       ·skip
        obtain ⟨s0,s1,s2,s3,s4,s5,s6,s7,s8,s9,h0,h4⟩:=h5.q12;have sl:=h5.lt;go_wp2_with fail;refine r_ (aO (c:=s.c) C1 _) fun w1 x1=>?_;have X1:=hid (HX.trans x1);have R1:=hid (h5.ext x1);clear s0 s1 s2 s3 s4 s5 s6 s7 s8 s9 h0 h4 sl;clear x1;go_wp2;go_ret;exact ⟨by rw [h6,HA,h7];first|rfl|simp [*],X1⟩
       ·cases b2
        ·skip
         obtain ⟨s0,s1,s2,s3,s4,s5,s6,s7,s8,s9,h0,h4⟩:=h5.q12;have sl:=h5.lt;go_wp2_with fail;refine r_ (aO (c:=s.c) C1 _) fun w1 x1=>?_;have X1:=hid (HX.trans x1);have R1:=hid (h5.ext x1);clear s0 s1 s2 s3 s4 s5 s6 s7 s8 s9 h0 h4 sl;clear x1;have s7:=R1.cell 7 rfl;have s8:=R1.cell 8 rfl;have s9:=R1.cell 9 rfl;have h0:=R1.cell 10 rfl;have h4:=R1.cell 11 rfl;have sl:=R1.lt;go_wp2_with fail;refine r_ (aJ C2 lo hi _ _ (HT _ X1) (aRq hh X1.size)) fun w2 x2=>?_;have X2:=hid (X1.trans x2);have R2:=hid (R1.ext x2);clear s7 s8 s9 h0 h4 sl;clear x2;go_wp2;go_ret;exact ⟨by rw [h6,HA,h7];first|rfl|simp [*],X2⟩
        ·cases b3
         ·skip
          obtain ⟨s0,s1,s2,s3,s4,s5,s6,s7,s8,s9,h0,h4⟩:=h5.q12;have sl:=h5.lt;go_wp2_with fail;refine r_ (aO (c:=s.c) C1 _) fun w1 x1=>?_;have X1:=hid (HX.trans x1);have R1:=hid (h5.ext x1);clear s0 s1 s2 s3 s4 s5 s6 s7 s8 s9 h0 h4 sl;clear x1;have s7:=R1.cell 7 rfl;have s8:=R1.cell 8 rfl;have s9:=R1.cell 9 rfl;have h0:=R1.cell 10 rfl;have h4:=R1.cell 11 rfl;have sl:=R1.lt;go_wp2_with fail;refine r_ (aJ C2 lo hi _ _ (HT _ X1) (aRq hh X1.size)) fun w2 x2=>?_;have X2:=hid (X1.trans x2);have R2:=hid (R1.ext x2);clear s7 s8 s9 h0 h4 sl;clear x2;have s9:=R2.cell 9 rfl;have h0:=R2.cell 10 rfl;have h4:=R2.cell 11 rfl;have sl:=R2.lt;go_wp2_with (go_at_call 46;refine z_ (aF C3 _) ?_);go_ret;exact ⟨by rw [h6,HA,h7];first|rfl|simp [*],X2⟩
         ·rcases aSo 5 s.m with hm|hm
          ·have q2 : ¬((s.m:Int)<=5):=by omega
           have g0:decide (s.m<=5)=false:=by simp;omega
           have G0:=hid g0;clear g0;obtain ⟨s0,s1,s2,s3,s4,s5,s6,s7,s8,s9,h0,h4⟩:=h5.q12;have sl:=h5.lt;go_wp2_with fail;refine r_ (aO (c:=s.c) C1 _) fun w1 x1=>?_;have X1:=hid (HX.trans x1);have R1:=hid (h5.ext x1);clear s0 s1 s2 s3 s4 s5 s6 s7 s8 s9 h0 h4 sl;clear x1;have s7:=R1.cell 7 rfl;have s8:=R1.cell 8 rfl;have s9:=R1.cell 9 rfl;have h0:=R1.cell 10 rfl;have h4:=R1.cell 11 rfl;have sl:=R1.lt;go_wp2_with fail;refine r_ (aJ C2 lo hi _ _ (HT _ X1) (aRq hh X1.size)) fun w2 x2=>?_;have X2:=hid (X1.trans x2);have R2:=hid (R1.ext x2);clear s7 s8 s9 h0 h4 sl;clear x2;have s9:=R2.cell 9 rfl;have h0:=R2.cell 10 rfl;have h4:=R2.cell 11 rfl;have sl:=R2.lt;go_wp2_with (go_at_call 46;refine z_ (aF C3 _) ?_);go_ret;exact ⟨by rw [h6,HA,h7,G0];first|rfl|simp [*],X2⟩
          ·have q2:(s.m:Int)<=5:=by omega
           have g0:decide (s.m<=5)=true:=by simp;omega
           have G0:=hid g0;clear g0;obtain ⟨s0,s1,s2,s3,s4,s5,s6,s7,s8,s9,h0,h4⟩:=h5.q12;have sl:=h5.lt;go_wp2_with fail;refine r_ (aO (c:=s.c) C1 _) fun w1 x1=>?_;have X1:=hid (HX.trans x1);have R1:=hid (h5.ext x1);clear s0 s1 s2 s3 s4 s5 s6 s7 s8 s9 h0 h4 sl;clear x1;have s7:=R1.cell 7 rfl;have s8:=R1.cell 8 rfl;have s9:=R1.cell 9 rfl;have h0:=R1.cell 10 rfl;have h4:=R1.cell 11 rfl;have sl:=R1.lt;go_wp2_with fail;refine r_ (aJ C2 lo hi _ _ (HT _ X1) (aRq hh X1.size)) fun w2 x2=>?_;have X2:=hid (X1.trans x2);have R2:=hid (R1.ext x2);clear s7 s8 s9 h0 h4 sl;clear x2;have s9:=R2.cell 9 rfl;have h0:=R2.cell 10 rfl;have h4:=R2.cell 11 rfl;have sl:=R2.lt;go_wp2_with (go_at_call 46;refine z_ (aF C3 _) ?_);go_ret;exact ⟨by rw [h6,HA,h7,G0];first|rfl|simp [*],X2⟩
      ·skip
       cases b1
       ·skip
        obtain ⟨s0,s1,s2,s3,s4,s5,s6,s7,s8,s9,h0,h4⟩:=h5.q12;have sl:=h5.lt;go_wp2_with fail;refine r_ (aO (c:=s.c) C1 _) fun w1 x1=>?_;have X1:=hid (HX.trans x1);have R1:=hid (h5.ext x1);clear s0 s1 s2 s3 s4 s5 s6 s7 s8 s9 h0 h4 sl;clear x1;go_wp2;go_ret;exact ⟨by rw [h6,HA,h7];first|rfl|simp [*],X1⟩
       ·cases b2
        ·skip
         obtain ⟨s0,s1,s2,s3,s4,s5,s6,s7,s8,s9,h0,h4⟩:=h5.q12;have sl:=h5.lt;go_wp2_with fail;refine r_ (aO (c:=s.c) C1 _) fun w1 x1=>?_;have X1:=hid (HX.trans x1);have R1:=hid (h5.ext x1);clear s0 s1 s2 s3 s4 s5 s6 s7 s8 s9 h0 h4 sl;clear x1;have s7:=R1.cell 7 rfl;have s8:=R1.cell 8 rfl;have s9:=R1.cell 9 rfl;have h0:=R1.cell 10 rfl;have h4:=R1.cell 11 rfl;have sl:=R1.lt;go_wp2_with fail;refine r_ (aJ C2 lo hi _ _ (HT _ X1) (aRq hh X1.size)) fun w2 x2=>?_;have X2:=hid (X1.trans x2);have R2:=hid (R1.ext x2);clear s7 s8 s9 h0 h4 sl;clear x2;go_wp2;go_ret;exact ⟨by rw [h6,HA,h7];first|rfl|simp [*],X2⟩
        ·cases b3
         ·skip
          obtain ⟨s0,s1,s2,s3,s4,s5,s6,s7,s8,s9,h0,h4⟩:=h5.q12;have sl:=h5.lt;go_wp2_with fail;refine r_ (aO (c:=s.c) C1 _) fun w1 x1=>?_;have X1:=hid (HX.trans x1);have R1:=hid (h5.ext x1);clear s0 s1 s2 s3 s4 s5 s6 s7 s8 s9 h0 h4 sl;clear x1;have s7:=R1.cell 7 rfl;have s8:=R1.cell 8 rfl;have s9:=R1.cell 9 rfl;have h0:=R1.cell 10 rfl;have h4:=R1.cell 11 rfl;have sl:=R1.lt;go_wp2_with fail;refine r_ (aJ C2 lo hi _ _ (HT _ X1) (aRq hh X1.size)) fun w2 x2=>?_;have X2:=hid (X1.trans x2);have R2:=hid (R1.ext x2);clear s7 s8 s9 h0 h4 sl;clear x2;have s9:=R2.cell 9 rfl;have h0:=R2.cell 10 rfl;have h4:=R2.cell 11 rfl;have sl:=R2.lt;go_wp2_with (go_at_call 46;refine z_ (aF C3 _) ?_);go_ret;exact ⟨by rw [h6,HA,h7];first|rfl|simp [*],X2⟩
         ·rcases aSo 5 s.m with hm|hm
          ·have q2 : ¬((s.m:Int)<=5):=by omega
           have g0:decide (s.m<=5)=false:=by simp;omega
           have G0:=hid g0;clear g0;obtain ⟨s0,s1,s2,s3,s4,s5,s6,s7,s8,s9,h0,h4⟩:=h5.q12;have sl:=h5.lt;go_wp2_with fail;refine r_ (aO (c:=s.c) C1 _) fun w1 x1=>?_;have X1:=hid (HX.trans x1);have R1:=hid (h5.ext x1);clear s0 s1 s2 s3 s4 s5 s6 s7 s8 s9 h0 h4 sl;clear x1;have s7:=R1.cell 7 rfl;have s8:=R1.cell 8 rfl;have s9:=R1.cell 9 rfl;have h0:=R1.cell 10 rfl;have h4:=R1.cell 11 rfl;have sl:=R1.lt;go_wp2_with fail;refine r_ (aJ C2 lo hi _ _ (HT _ X1) (aRq hh X1.size)) fun w2 x2=>?_;have X2:=hid (X1.trans x2);have R2:=hid (R1.ext x2);clear s7 s8 s9 h0 h4 sl;clear x2;have s9:=R2.cell 9 rfl;have h0:=R2.cell 10 rfl;have h4:=R2.cell 11 rfl;have sl:=R2.lt;go_wp2_with (go_at_call 46;refine z_ (aF C3 _) ?_);go_ret;exact ⟨by rw [h6,HA,h7,G0];first|rfl|simp [*],X2⟩
          ·have q2:(s.m:Int)<=5:=by omega
           have g0:decide (s.m<=5)=true:=by simp;omega
           have G0:=hid g0;clear g0;obtain ⟨s0,s1,s2,s3,s4,s5,s6,s7,s8,s9,h0,h4⟩:=h5.q12;have sl:=h5.lt;go_wp2_with fail;refine r_ (aO (c:=s.c) C1 _) fun w1 x1=>?_;have X1:=hid (HX.trans x1);have R1:=hid (h5.ext x1);clear s0 s1 s2 s3 s4 s5 s6 s7 s8 s9 h0 h4 sl;clear x1;have s7:=R1.cell 7 rfl;have s8:=R1.cell 8 rfl;have s9:=R1.cell 9 rfl;have h0:=R1.cell 10 rfl;have h4:=R1.cell 11 rfl;have sl:=R1.lt;go_wp2_with fail;refine r_ (aJ C2 lo hi _ _ (HT _ X1) (aRq hh X1.size)) fun w2 x2=>?_;have X2:=hid (X1.trans x2);have R2:=hid (R1.ext x2);clear s7 s8 s9 h0 h4 sl;clear x2;have s9:=R2.cell 9 rfl;have h0:=R2.cell 10 rfl;have h4:=R2.cell 11 rfl;have sl:=R2.lt;go_wp2_with (go_at_call 46;refine z_ (aF C3 _) ?_);go_ret;exact ⟨by rw [h6,HA,h7,G0];first|rfl|simp [*],X2⟩
      ·skip
       cases b1
       ·skip
        obtain ⟨s0,s1,s2,s3,s4,s5,s6,s7,s8,s9,h0,h4⟩:=h5.q12;have sl:=h5.lt;go_wp2_with fail;refine r_ (aO (c:=s.c) C1 _) fun w1 x1=>?_;have X1:=hid (HX.trans x1);have R1:=hid (h5.ext x1);clear s0 s1 s2 s3 s4 s5 s6 s7 s8 s9 h0 h4 sl;clear x1;go_wp2;go_ret;exact ⟨by rw [h6,HA,h7];first|rfl|simp [*],X1⟩
       ·cases b2
        ·skip
         obtain ⟨s0,s1,s2,s3,s4,s5,s6,s7,s8,s9,h0,h4⟩:=h5.q12;have sl:=h5.lt;go_wp2_with fail;refine r_ (aO (c:=s.c) C1 _) fun w1 x1=>?_;have X1:=hid (HX.trans x1);have R1:=hid (h5.ext x1);clear s0 s1 s2 s3 s4 s5 s6 s7 s8 s9 h0 h4 sl;clear x1;have s7:=R1.cell 7 rfl;have s8:=R1.cell 8 rfl;have s9:=R1.cell 9 rfl;have h0:=R1.cell 10 rfl;have h4:=R1.cell 11 rfl;have sl:=R1.lt;go_wp2_with fail;refine r_ (aJ C2 lo hi _ _ (HT _ X1) (aRq hh X1.size)) fun w2 x2=>?_;have X2:=hid (X1.trans x2);have R2:=hid (R1.ext x2);clear s7 s8 s9 h0 h4 sl;clear x2;go_wp2;go_ret;exact ⟨by rw [h6,HA,h7];first|rfl|simp [*],X2⟩
        ·cases b3
         ·skip
          obtain ⟨s0,s1,s2,s3,s4,s5,s6,s7,s8,s9,h0,h4⟩:=h5.q12;have sl:=h5.lt;go_wp2_with fail;refine r_ (aO (c:=s.c) C1 _) fun w1 x1=>?_;have X1:=hid (HX.trans x1);have R1:=hid (h5.ext x1);clear s0 s1 s2 s3 s4 s5 s6 s7 s8 s9 h0 h4 sl;clear x1;have s7:=R1.cell 7 rfl;have s8:=R1.cell 8 rfl;have s9:=R1.cell 9 rfl;have h0:=R1.cell 10 rfl;have h4:=R1.cell 11 rfl;have sl:=R1.lt;go_wp2_with fail;refine r_ (aJ C2 lo hi _ _ (HT _ X1) (aRq hh X1.size)) fun w2 x2=>?_;have X2:=hid (X1.trans x2);have R2:=hid (R1.ext x2);clear s7 s8 s9 h0 h4 sl;clear x2;have s9:=R2.cell 9 rfl;have h0:=R2.cell 10 rfl;have h4:=R2.cell 11 rfl;have sl:=R2.lt;go_wp2_with (go_at_call 46;refine z_ (aF C3 _) ?_);go_ret;exact ⟨by rw [h6,HA,h7];first|rfl|simp [*],X2⟩
         ·rcases aSo 5 s.m with hm|hm
          ·have q2 : ¬((s.m:Int)<=5):=by omega
           have g0:decide (s.m<=5)=false:=by simp;omega
           have G0:=hid g0;clear g0;obtain ⟨s0,s1,s2,s3,s4,s5,s6,s7,s8,s9,h0,h4⟩:=h5.q12;have sl:=h5.lt;go_wp2_with fail;refine r_ (aO (c:=s.c) C1 _) fun w1 x1=>?_;have X1:=hid (HX.trans x1);have R1:=hid (h5.ext x1);clear s0 s1 s2 s3 s4 s5 s6 s7 s8 s9 h0 h4 sl;clear x1;have s7:=R1.cell 7 rfl;have s8:=R1.cell 8 rfl;have s9:=R1.cell 9 rfl;have h0:=R1.cell 10 rfl;have h4:=R1.cell 11 rfl;have sl:=R1.lt;go_wp2_with fail;refine r_ (aJ C2 lo hi _ _ (HT _ X1) (aRq hh X1.size)) fun w2 x2=>?_;have X2:=hid (X1.trans x2);have R2:=hid (R1.ext x2);clear s7 s8 s9 h0 h4 sl;clear x2;have s9:=R2.cell 9 rfl;have h0:=R2.cell 10 rfl;have h4:=R2.cell 11 rfl;have sl:=R2.lt;go_wp2_with (go_at_call 46;refine z_ (aF C3 _) ?_);go_ret;exact ⟨by rw [h6,HA,h7,G0];first|rfl|simp [*],X2⟩
          ·have q2:(s.m:Int)<=5:=by omega
           have g0:decide (s.m<=5)=true:=by simp;omega
           have G0:=hid g0;clear g0;obtain ⟨s0,s1,s2,s3,s4,s5,s6,s7,s8,s9,h0,h4⟩:=h5.q12;have sl:=h5.lt;go_wp2_with fail;refine r_ (aO (c:=s.c) C1 _) fun w1 x1=>?_;have X1:=hid (HX.trans x1);have R1:=hid (h5.ext x1);clear s0 s1 s2 s3 s4 s5 s6 s7 s8 s9 h0 h4 sl;clear x1;have s7:=R1.cell 7 rfl;have s8:=R1.cell 8 rfl;have s9:=R1.cell 9 rfl;have h0:=R1.cell 10 rfl;have h4:=R1.cell 11 rfl;have sl:=R1.lt;go_wp2_with fail;refine r_ (aJ C2 lo hi _ _ (HT _ X1) (aRq hh X1.size)) fun w2 x2=>?_;have X2:=hid (X1.trans x2);have R2:=hid (R1.ext x2);clear s7 s8 s9 h0 h4 sl;clear x2;have s9:=R2.cell 9 rfl;have h0:=R2.cell 10 rfl;have h4:=R2.cell 11 rfl;have sl:=R2.lt;go_wp2_with (go_at_call 46;refine z_ (aF C3 _) ?_);go_ret;exact ⟨by rw [h6,HA,h7,G0];first|rfl|simp [*],X2⟩
     ·have x6:qK s.side=false:=by cases h:qK s.side with|true=>exact absurd h hs|false=>rfl
      have z0:=hid x6
      have h1 : ¬s.side=1:=fun h=>by rw [h] at hs;exact hs rfl
      have h2 : ¬s.side=2:=fun h=>by rw [h] at hs;exact hs rfl
      have h3 : ¬s.side=4:=fun h=>by rw [h] at hs;exact hs rfl
      clear hs x6;obtain ⟨s0,s1,s2,s3,s4,s5,s6,s7,s8,s9,h0,h4⟩:=HB.q12;have sl:=HB.lt;go_wp2;go_ret;exact ⟨by rw [h6,HA,z0];simp,HX⟩
def Rd {α : Type} (cs : α->List Value) (lo hi:Nat) (w:World) (v:Value) (ys:List α):Prop:=
 ∃ad c,v = .slice ad ys.length c/\ys.length<=c/\c<=9223372036854775807/\(ad=none->c=0)/\(ys=[]\/∃b off,ad=some ⟨b,off,none⟩/\lo<=b/\b<hi/\∀j u,(ys.flatMap cs)[j]?=some u->w.cell? ⟨b,off+j,none⟩=some u)
theorem Rd.same {α : Type} {cs : α->List Value} {ys:List α} (h:Rd cs lo hi w v ys) (s:aM lo hi w w'):Rd cs lo hi w' v ys:=by
 obtain ⟨ad,c,h1,h2,h3,h4,h5⟩:=h;refine ⟨ad,c,h1,h2,h3,h4,?_⟩
 rcases h5 with h5|⟨b,off,e,l1,l2,hc⟩
 ·exact .inl h5
 ·exact .inr ⟨b,off,e,l1,l2,fun j u hj=>(s.cell l1 l2).trans (hc j u hj)⟩
theorem Rd.ext {α : Type} {cs : α->List Value} {ys:List α} (h:Rd cs lo hi w v ys) (hh:hi<=w.heap.size) (e:Ext w w'):Rd cs lo hi w' v ys:=h.same (e.same hh)
theorem aE.rd {α : Type} {cs : α->List Value} {xs:List α} (h:aE cs lo e sz w v xs) (hc:∀x,(cs x).length=sz):Rd cs lo w.heap.size w v xs:=by
 obtain ⟨h1,h2⟩:=h
 rcases h2 with ⟨rfl,h4⟩|⟨g,cap,cur,rfl,hb,hg,hcap,hm,hs,ht⟩
 ·have:xs=[]:=List.eq_nil_of_length_eq_zero h4
  subst this;exact ⟨none,0,rfl,aRi _,by omega,fun _=>rfl,.inl rfl⟩
 ·refine ⟨_,cap,rfl,hcap,by unfold maxLen at hm;omega,(fun h=>nomatch h),.inr ⟨g,0,rfl,hb,(Array.getElem?_eq_some_iff.1 hg).1,fun j u hj=>?_⟩⟩
  have hl:=(aRk.1 hj).1;rw [gR hc] at hl;rw [<-ht,List.getElem?_take,if_pos hl] at hj;simp only [World.cell?,hg,aSf]
  simpa using hj
theorem aE.freshC {α : Type} {cs : α->List Value} (hl:lo<=g) (h:Blk w g e []):aE cs lo e sz w (.slice (some ⟨g,0,none⟩) 0 0) []:=
 ⟨by simp,.inr ⟨g,0,#[],rfl,hl,h,aRi _,by unfold maxLen;omega,by simp,by simp⟩⟩
theorem Rd.nil {α : Type} (cs : α->List Value) (lo hi:Nat) (w:World):Rd cs lo hi w (.slice none 0 0) ([]:List α):=⟨none,0,rfl,aRi _,by omega,fun _=>rfl,.inl rfl⟩
theorem Rd.form {α : Type} {cs : α->List Value} {ys:List α} (h:Rd cs lo hi w v ys):∃ad c,v = .slice ad ys.length c/\ys.length<=c/\c<=9223372036854775807/\Rd cs lo hi w (.slice ad ys.length c) ys:=by
 obtain ⟨ad,c,rfl,h2,h3,h4⟩:=h;exact ⟨ad,c,rfl,h2,h3,_,c,rfl,h2,h3,h4⟩
theorem Rd.at {α : Type} {cs : α->List Value} (hc:∀x,(cs x).length=sz) {ad:Option Addr} {c:Nat} {ys:List α} (h:Rd cs lo hi w (.slice ad n c) ys) {y : α} (hk:ys[k]?=some y) :
  ∃b off,ad=some ⟨b,off,none⟩/\lo<=b/\b<hi/\∀j,j<sz->w.cell? ⟨b,off+k*sz+j,none⟩=(cs y)[j]?:=by
 obtain ⟨h1,c',e,h2,h3,h4,h5⟩:=h;simp only [Value.slice.injEq] at e;obtain ⟨rfl,rfl,rfl⟩:=e
 rcases h5 with rfl|⟨b,off,rfl,l1,l2,hcell⟩
 ·cases hk
 refine ⟨b,off,rfl,l1,l2,fun j hj=>?_⟩;have e2:=mX (cs:=cs) (sz:=sz) hc hk j hj
 have h0:j<(cs y).length:=by rw [hc];exact hj
 rw [aRs h0] at e2 ⊢;rw [aTa];exact hcell _ _ e2
theorem cY {α : Type} (cs : α->List Value) (e:TypeId) (sz bytes:Nat) (z:Value) (w:World) {ops:Array Oper} {rest:List Oper} {o:Oper} {a:Act} {Q:Exit->Act->World->Prop} (hg:o.guard=none) (s x:Operand) (t:TypeId)
  (hop:o.op=Op.call { callee:=Callee.builtin Builtin.append,args:=#[s,x],argTypes:=#[t,t] }) (ht:Tryz.prog.underlying t=some (.slice e))
  (hinfo:(Tryz.prog.info? e).map (fun i=>(i.zero,i.size,i.bytes))=some (some z,sz,bytes)) (hzs:z.cells.size=sz) (hsz:0<sz) (hby:bytes<=1000) (hc:∀x,(cs x).length=sz) (h1:∀y,∀u∈cs y,u.oneCell'=true)
  (lo:Nat) (v:Value) (xs:List α) (hs:a.eval s=v) (hown:aE cs lo e sz w v xs)
  (lo2 hi2:Nat) (u:Value) (ys:List α) (hx:a.eval x=u) (hu:Rd cs lo2 hi2 w u ys) (hlen:xs.length+ys.length<=10000000) (hlo:lo<=w.heap.size)
  (hK:∀v' w',aE cs lo e sz w' v' (xs++ys)->w.grownBy w' v.ownBlock->wpList aRn ops Q rest (a.put o.dst v') w'):wpList aRn ops Q (o::rest) a w:=by
 obtain ⟨i0,h7,h9,q0,q1⟩:=info_parts hinfo;obtain ⟨ad,c,rfl,h2,h3,h4,h5⟩:=hu
 cases ad with
 | none=>
  have hy:ys=[]:=by
   rcases h5 with h5|⟨b,off,e',_⟩
   ·exact h5
   ·cases e'
  have h8:=h4 rfl;subst hy h8;have hr:=run_append_owned_none (w:=w) lo t o.type e i0 sz ht h7 v xs.length _ hown;refine wpList_plain hg fun _ hK'=>?_;unfold Oper.wp execOp;simp only [hop,resolve,invoke,builtin,Sem.run_bind,Sem.run_pure,Result.andThen_ok,List.map_toArray,aTr,aWv,hs,hx,aTu,hr];exact hK' _ _ (hK v w (by rw [List.append_nil];exact hown) (grownBy.refl _ _))
 | some ad=>
  refine wpList_append_own w hg s x t hop lo e i0 z sz bytes ht h7 h9 q0 q1 hzs hsz v xs.length _ hs hown ad ys.length c (ys.flatMap cs) hx (gR hc ys) ?_ ?_ ?_ ?_ hlo ?_
  ·intro j q hj
   rcases h5 with rfl|⟨b,off,e',l1,l2,hcell⟩
   ·cases hj
   ·cases e'
    have ea:(⟨b,off,none⟩:Addr).add j=⟨b,off+j,none⟩:=by
     unfold Addr.add
     split <;> simp_all
    rw [ea];exact hcell j q hj
  ·intro q hq
   obtain ⟨y,hy,hq⟩:=List.mem_flatMap.1 hq;exact h1 y q hq
  ·unfold maxLen;omega
  ·have:(xs.length+ys.length)*bytes<=10000000*1000:=aSi hlen hby
   omega
  ·intro v' w1 h6 h0 _
   refine hK v' w1 ?_ h0;unfold aE;rw [aSa,aSy];exact h6
theorem Ins.one (y:Ins):∀u∈y.cs,u.oneCell'=true:=by
 intro u hu;simp only [Ins.cs,aR4,aRz,or_false] at hu
 rcases hu with rfl|rfl|rfl <;> rfl
theorem aJ6 {p:Prg} {ra:List Int} {j:Nat} (hj:j<ra.length):((ra.take (j+1)).flatMap fun a=>p.tr a.toNat)=((ra.take j).flatMap fun a=>p.tr a.toNat)++p.tr (ra[j]).toNat:=by
 rw [List.take_succ_eq_append_getElem hj,aSy];simp
theorem aNx (lo hi lo2 hi2:Nat) (p:Prg) (hp:p.K) (W W2:World) (a1 a2:Option Addr) (c1 c2:Nat) (HN:rS lo hi W a1 c1 p.ns) (hh:hi<=W.heap.size) (lv:Value) (hL:qU lo2 hi2 W2 lv (p.gs.map (·.name))) (hh2:hi2<=W2.heap.size) :
  ∀(F r:Nat) (w:World),r<F->r<p.ns.length->Ext W w->Ext W2 w->(p.tr r).length<=1000->Calls aRn 191 #[.agg #[.slice a1 p.ns.length c1,.slice a2 p.gs.length c2],lv,(r:Nat)] w fun e w'=>∃u,e = .returned u/\gD w.heap.size w' u (p.tr r)/\Ext w w':=by
 intro F
 induction F with
 | zero=>intro r w h;omega
 | succ F ih=>
  intro r w hF hr hx y7 q5;have IH:=hid ih;have HP:=hid hp;have a4:=hid hL;have l1:=HN.le;have l2:=HN.cap;have l5:=hp.v.len;have l6:=hp.v.gs_len;obtain ⟨b,q4,op,s,n,ua,ra,rfl,b2,b3,x8,h9,io,b6,y4,x0,x1,x2,x3⟩:=HN.at hr hx hh;have hk:=jW (hp.v.nd r _ h9).1;have x5:=hid (hp.v.nd r _ h9).2;have z8:=hp.v.tr_step h9
  have y3:(ra.flatMap fun a=>p.tr a.toNat).length<=1000:=by rw [z8,aSa] at q5;simp only at q5;omega
  have z9:=hid y3;have a8:=hid z8;have HG:=hid h9;have HX:=hid hx;have y1:=hid y7;obtain ⟨ax,ac,rfl,HI⟩:=y4.open;have m1:=HI.le;have m2:=HI.cap;have y9:=hid HI
  have b4:ra.length<=3:=by rcases hk with ⟨_,_,h⟩|⟨_,h⟩|⟨_,h⟩|⟨_,_,h⟩|⟨_,h⟩ <;> (simp only at h;omega)
  have HK:=hid hk;have zz:=hx.size;have y8:Ext w (((w.alloc (.cells #[.slice (some ⟨b,q4,none⟩) p.ns.length c1,.slice a2 p.gs.length c2] 119)).alloc (.cells #[op,.string s,n,.slice ax ra.length ac] 197)).alloc (.cells #[] 221)):=X_;have bP:=(aRr w 119 [.slice (some ⟨b,q4,none⟩) p.ns.length c1,.slice a2 p.gs.length c2]).ext (show Ext (w.alloc (.cells #[.slice (some ⟨b,q4,none⟩) p.ns.length c1,.slice a2 p.gs.length c2] 119)) (((w.alloc (.cells #[.slice (some ⟨b,q4,none⟩) p.ns.length c1,.slice a2 p.gs.length c2] 119)).alloc (.cells #[op,.string s,n,.slice ax ra.length ac] 197)).alloc (.cells #[] 221)) from X_);have bN:=(aRr (w.alloc (.cells #[.slice (some ⟨b,q4,none⟩) p.ns.length c1,.slice a2 p.gs.length c2] 119)) 197 [op,.string s,n,.slice ax ra.length ac]).ext (show Ext ((w.alloc (.cells #[.slice (some ⟨b,q4,none⟩) p.ns.length c1,.slice a2 p.gs.length c2] 119)).alloc (.cells #[op,.string s,n,.slice ax ra.length ac] 197)) (((w.alloc (.cells #[.slice (some ⟨b,q4,none⟩) p.ns.length c1,.slice a2 p.gs.length c2] 119)).alloc (.cells #[op,.string s,n,.slice ax ra.length ac] 197)).alloc (.cells #[] 221)) from X_);have bO:=aRr ((w.alloc (.cells #[.slice (some ⟨b,q4,none⟩) p.ns.length c1,.slice a2 p.gs.length c2] 119)).alloc (.cells #[op,.string s,n,.slice ax ra.length ac] 197)) 221 [];simp only [aRj] at bN bO;have y0:=hid y8;have q9:=hid bP;have q1:=hid bN;have HO:=hid (show gD w.heap.size (((w.alloc (.cells #[.slice (some ⟨b,q4,none⟩) p.ns.length c1,.slice a2 p.gs.length c2] 119)).alloc (.cells #[op,.string s,n,.slice ax ra.length ac] 197)).alloc (.cells #[] 221)) (.slice (some ⟨w.heap.size+1+1,0,none⟩) 0 0) [] from aE.freshC (by omega) bO);clear ih hp hL x8 h9 y4 HI hk hx y7 z8 y3 q5 bP bN bO y8;go_enter func191,ntmps191;go_wp2_with fail
  go_loopw [8,20] (fun v i wr=>∃(k:Nat) (xs:List Ins),k<=ra.length/\i = .int .i64 (k:Nat)/\xs=((ra.take k).flatMap fun a=>p.tr a.toNat)/\gD w.heap.size wr v xs/\Blk wr w.heap.size 119 [.slice (some ⟨b,q4,none⟩) p.ns.length c1,.slice a2 p.gs.length c2]/\Blk wr (w.heap.size+1) 197 [op,.string s,n,.slice ax ra.length ac]/\Ext w wr) (fun _ i _=>ra.length - (intOf i).toNat)
  case atStart=>exact ⟨0,[],by omega,rfl,rfl,HO,q9,q1,y0⟩
  case round=>
   clear y0 q9 q1 HO;obtain ⟨k,xs,hk,rfl,z0,ho,x6,q7,hx⟩:=hrel;obtain ⟨xa,xc,rfl,-⟩:=aE.form ho;have z4:=hid z0
   have b5:xs.length<=1000:=by rw [z0];exact aRq (pJ hk) z9
   by_cases z7:k<ra.length
   ·obtain ⟨b',b1,rfl,d1,d2,hc⟩:=y9.at z7
    have ha:=x5.out ra[k] (aR2 z7);have x9:=aJ6 (p:=p) z7
    obtain ⟨q,hq⟩:∃q:Nat,ra[k]=q:=⟨ra[k].toNat,by omega⟩
    rw [hq] at hc ha x9;simp only [aSc] at x9
    have y6:xs.length+(p.tr q).length<=1000:=by rw [z0,<-aSa,<-x9];exact aRq (pJ (by omega)) z9
    have a7:=hid x9;have HO:=hid ho;have q9:=hid x6;have q1:=hid q7;have h6:=hid hx;have b0:=(hx.cells.1 b' _ (by omega)).trans hc;obtain ⟨p0,p1⟩:=x6.q2;have pl:=x6.lt
    have bl:b'<wr.heap.size:=by have:=hx.size;omega
    have TL:=hid (show (p.tr q).length<=1000 by omega);have a3:=hid y6;clear z0 ho x6 q7 hx hc x9 hq y6;go_wp2_with fail;refine (IH q wr (by omega) (by omega) (HX.trans h6) (y1.trans h6) TL).mono ?_;rintro e w3 ⟨u,rfl,O3,x3⟩;have a5:=hid (aE.rd (sz:=3) O3 (fun _=>rfl));have z1:=hid (aE.ext HO x3);have x4:=hid (q9.ext x3);have q8:=hid (q1.ext x3);have y2:=hid (h6.trans x3);have b7:=y2.size;clear O3 x3 HO q9 q1 h6 p0 p1 pl b0;go_wp2_with (at_builtin;refine cY Ins.cs 221 3 32 _ w3 rfl _ _ 160 rfl underlying160 uD rfl (by decide) (by decide) (fun _=>rfl) Ins.one w.heap.size (.slice xa xs.length xc) xs rfl z1 _ _ u (p.tr q) rfl a5 ?_ ?_ ?_)
    ·have:=a3.out;omega
    ·omega
    intro v4 w4 h0 hg;have a6:=hid h0;have z3:=hid (x4.grown hg (bY x4 (by decide) z1));have z2:=hid (q8.grown hg (bY q8 (by decide) z1));have a9:=hid (aSt y2 hg (fun k hk=>(aE.lt z1 k hk).1));clear h0 hg;go_wp2;go_roundw
    case rel=>exact ⟨k+1,xs++p.tr q,by omega,by go_num,by rw [z4,a7],a6,z3,z2,a9⟩
    case measure=>simp [intOf];omega
   ·obtain rfl:k=ra.length:=by omega
    rw [aSh] at z4;have q1:=hid q7;have h6:=hid hx;have HO:=hid ho;obtain ⟨n0,n1,n2⟩:=q7.q3;have nl:=q7.lt;have zw:=hx.size;have q6:=hid (show ∀(y:Ins) (v':Value) (w':World),bM p ⟨op,s,n,ra⟩=y->gD w.heap.size w' v' (xs++[y])->Ext w w'->∃u,Ending.returned v' = .returned u/\gD w.heap.size w' u (p.tr r)/\Ext w w' from fun y v' w' hy h1 h2=>⟨_,rfl,by rw [a8,hy,<-z4];exact h1,h2⟩);clear z0 ho x6 q7 hx
    rcases HK with ⟨rfl,-,-⟩|⟨rfl,-⟩|⟨rfl,-⟩|⟨o1,o2,-⟩|⟨rfl,-⟩
    ·skip
     have y5:Ext wr (wr.alloc (.cells #[.int .i64 1,.string ⟨#[]⟩,n] 221)):=X_;have h4:=hid (aE.ext HO y5);have h5:=hid (h6.trans y5);have q0:=h5.size;clear y5;go_wp2_with (at_builtin;refine cE _ rfl _ _ rfl w.heap.size (.slice xa xs.length xc) xs rfl ?_ ⟨1,⟨#[]⟩,n⟩ wr.heap.size rfl ?_ ?_ ?_ ?_)
     ·exact h4
     ·omega
     ·first|exact q0|omega
     intro v6 w6 h0 hg;have h7:=aSt h5 hg (fun k hk=>(aE.lt h4 k hk).1);go_wp2;go_ret;exact q6 _ _ _ rfl h0 h7
    ·cases hv:dB s
     ·have z6:ixL s.toList (p.gs.map (·.name))=((pT p s:Nat):Int):=by
       obtain ⟨i,hi,_⟩:=HP.name r _ HG rfl hv;rw [vU];unfold pT;rw [hi]
       rfl
      have hy:bM p ⟨2,s,n,ra⟩=⟨3,⟨#[]⟩,((pT p s:Nat):Int)⟩:=by unfold bM;simp [hv]
      obtain ⟨z,hz⟩:∃z,((pT p s:Nat):Int)=z:=⟨_,rfl⟩
      rw [hz] at z6 hy;have a0:=hid z6;have z5:=hid hy;clear z6 hy hz;go_wp2_with fail;refine r_ (dW hv _) fun w7 x7=>?_;replace HO:=hid (aE.ext HO x7);replace h6:=hid (h6.trans x7);have n1:=(q1.ext x7).cell 1 rfl;have nl:=(q1.ext x7).lt;go_wp2_with fail;refine (xY lo2 hi2 _ _ s _ (a4.ext hh2 (y1.trans h6)) (by rw [aSv];omega)).mono ?_;rw [a0];rintro e w8 ⟨rfl,rfl⟩;have y5:Ext w7 (w7.alloc (.cells #[.int .i64 3,.string ⟨#[]⟩,z] 221)):=X_;have h4:=hid (aE.ext HO y5);have h5:=hid (h6.trans y5);have q0:=h5.size;clear y5;go_wp2_with (at_builtin;refine cE _ rfl _ _ rfl w.heap.size (.slice xa xs.length xc) xs rfl ?_ ⟨3,⟨#[]⟩,z⟩ w7.heap.size rfl ?_ ?_ ?_ ?_)
      ·exact h4
      ·omega
      ·first|exact q0|omega
      intro v6 w6 h0 hg;have h7:=aSt h5 hg (fun k hk=>(aE.lt h4 k hk).1);go_wp2;go_ret;exact q6 _ _ _ z5 h0 h7
     ·have hy:bM p ⟨2,s,n,ra⟩=⟨2,s,0⟩:=by unfold bM;simp [hv]
      have z5:=hid hy;clear hy;go_wp2_with fail;refine r_ (dW hv _) fun w7 x7=>?_;replace HO:=hid (aE.ext HO x7);replace h6:=hid (h6.trans x7);have n1:=(q1.ext x7).cell 1 rfl;have nl:=(q1.ext x7).lt;have y5:Ext w7 (w7.alloc (.cells #[.int .i64 2,.string s,()] 221)):=X_;have h4:=hid (aE.ext HO y5);have h5:=hid (h6.trans y5);have q0:=h5.size;clear y5;go_wp2_with (at_builtin;refine cE _ rfl _ _ rfl w.heap.size (.slice xa xs.length xc) xs rfl ?_ ⟨2,s,0⟩ w7.heap.size rfl ?_ ?_ ?_ ?_)
      ·exact h4
      ·omega
      ·first|exact q0|omega
      intro v6 w6 h0 hg;have h7:=aSt h5 hg (fun k hk=>(aE.lt h4 k hk).1);go_wp2;go_ret;exact q6 _ _ _ z5 h0 h7
    ·skip
     have y5:Ext wr (wr.alloc (.cells #[.int .i64 5,.string ⟨#[]⟩,.int .i64 3] 221)):=X_;have h4:=hid (aE.ext HO y5);have h5:=hid (h6.trans y5);have q0:=h5.size;clear y5;go_wp2_with (at_builtin;refine cE _ rfl _ _ rfl w.heap.size (.slice xa xs.length xc) xs rfl ?_ ⟨5,⟨#[]⟩,3⟩ wr.heap.size rfl ?_ ?_ ?_ ?_)
     ·exact h4
     ·omega
     ·first|exact q0|omega
     intro v6 w6 h0 hg;have h7:=aSt h5 hg (fun k hk=>(aE.lt h4 k hk).1);go_wp2;go_ret;exact q6 _ _ _ rfl h0 h7
    ·have h1 : ¬op=1:=by omega
     have h2 : ¬op=2:=by omega
     have h3 : ¬op=3:=by omega
     have h8 : ¬op=8:=by omega
     have hy:=hid (show bM p ⟨op,s,n,ra⟩=⟨6,⟨#[]⟩,op⟩ by unfold bM;simp [h1,h2,h3,h8]);have y5:Ext wr (wr.alloc (.cells #[.int .i64 6,.string ⟨#[]⟩,op] 221)):=X_;have h4:=hid (aE.ext HO y5);have h5:=hid (h6.trans y5);have q0:=h5.size;clear y5;go_wp2_with (at_builtin;refine cE _ rfl _ _ rfl w.heap.size (.slice xa xs.length xc) xs rfl ?_ ⟨6,⟨#[]⟩,op⟩ wr.heap.size rfl ?_ ?_ ?_ ?_)
     ·exact h4
     ·omega
     ·first|exact q0|omega
     intro v6 w6 h0 hg;have h7:=aSt h5 hg (fun k hk=>(aE.lt h4 k hk).1);go_wp2;go_ret;exact q6 _ _ _ hy.out h0 h7
    ·skip
     have y5:Ext wr (wr.alloc (.cells #[.int .i64 7,.string s,()] 221)):=X_;have h4:=hid (aE.ext HO y5);have h5:=hid (h6.trans y5);have q0:=h5.size;clear y5;go_wp2_with (at_builtin;refine cE _ rfl _ _ rfl w.heap.size (.slice xa xs.length xc) xs rfl ?_ ⟨7,s,0⟩ wr.heap.size rfl ?_ ?_ ?_ ?_)
     ·exact h4
     ·omega
     ·first|exact q0|omega
     intro v6 w6 h0 hg;have h7:=aSt h5 hg (fun k hk=>(aE.lt h4 k hk).1);go_wp2;go_ret;exact q6 _ _ _ rfl h0 h7
section
open Go.RowKit Go.Maps Go.WideMaps
structure SB (p:Prg) (P R C lo:Nat) (a1 a2:Option Addr) (c1 c2:Nat) (w:World) (xs:List Ins) (iv:Value) (ls:List ByteArray) (lv:Value):Prop where
 prog:Blk w P 119 [.slice a1 p.ns.length c1,.slice a2 p.gs.length c2]
 res:Blk w R 163 [.slice none 0 0,.slice none 0 0]
 code:Blk w C 163 [iv,lv]
 ins:gD lo w iv xs
 loc:cN lo w lv ls
 low:lo<=C/\R<lo
theorem SB.ext {p:Prg} {P R C lo:Nat} {a1 a2:Option Addr} {c1 c2:Nat} {w w':World} {xs:List Ins} {iv:Value} {ls:List ByteArray} {lv:Value} (h:SB p P R C lo a1 a2 c1 c2 w xs iv ls lv) (x:Ext w w'):SB p P R C lo a1 a2 c1 c2 w' xs iv ls lv:=
 ⟨h.prog.ext x,h.res.ext x,h.code.ext x,aE.ext h.ins x,h.loc.ext x,h.low⟩
theorem SB.kn {p:Prg} {P R C lo:Nat} {a1 a2:Option Addr} {c1 c2:Nat} {w w':World} {xs xs':List Ins} {iv iv':Value} {ls:List ByteArray} {lv:Value} (h:SB p P R C lo a1 a2 c1 c2 w xs iv ls lv) (k:KN lo C 221 w w') (hc:Blk w' C 163 [iv',lv]) (hi:gD lo w' iv' xs'):SB p P R C lo a1 a2 c1 c2 w' xs' iv' ls lv:=
 ⟨KN.blk h.prog k (h.prog.neq h.code (by decide)) (by decide),KN.blk h.res k (by have:=h.low;omega) (by decide),hc,hi,KN.strs h.loc k (h.code.noCells (by decide)) (by decide),h.low⟩
theorem SB.knS {p:Prg} {P R C lo:Nat} {a1 a2:Option Addr} {c1 c2:Nat} {w w':World} {xs:List Ins} {iv lv lv':Value} {ls ls':List ByteArray} (h:SB p P R C lo a1 a2 c1 c2 w xs iv ls lv) (k:KN lo C 9 w w') (hc:Blk w' C 163 [iv,lv']) (hl:cN lo w' lv' ls'):SB p P R C lo a1 a2 c1 c2 w' xs iv ls' lv':=
 ⟨KN.blk h.prog k (h.prog.neq h.code (by decide)) (by decide),KN.blk h.res k (by have:=h.low;omega) (by decide),hc,KN.row h.ins k (h.code.noCells (by decide)) (by decide),hl,h.low⟩
theorem aC5 (lo hi:Nat) (v:Value) (p:Prg) (w:World) (hv:p.R lo hi w v) (hh:hi<=w.heap.size) (hchk:p.chkB=true) (hbd:p.bd) (hnl:p.ns.length<=1048576) (hgl:p.gs.length<=1048576) :
  Calls aRn 140 #[v] w fun e w'=>∃u,e = .returned (.tuple #[u,.bool true])/\p.code.R w.heap.size w'.heap.size w' u/\Ext w w':=by
 have HV:=hid hv;have hp:=Prg.chkB_K hchk;have HP:=hid hp;have b7:=hid hchk;obtain ⟨a1,c1,a2,c2,rfl,HN,HG⟩:=hv.form;have l1:=HN.le;have l2:=HN.cap;have l3:=HG.le;have l4:=HG.cap;have l5:=hp.v.len;have l6:=hp.v.gs_len;have c3:=hid HN;have y5:=hid HG
 have q4:∀x∈p.ns,I64 x.num:=fun x hx=>by
  obtain ⟨i,hi,d6⟩:=aSj hx;exact (HN.cell i x (by rw [<-d6];simp [hi])).1.2
 have b3:=hid (aL2 hp hgl q4);have a6:=oO hp;have b8:=hid a6;have b0:=aRr w 119 [.slice a1 p.ns.length c1,.slice a2 p.gs.length c2];have r0:=aRr (w.alloc (.cells #[.slice a1 p.ns.length c1,.slice a2 p.gs.length c2] 119)) 163 [.slice none 0 0,.slice none 0 0];rw [aRj] at r0;have x0:Ext w ((w.alloc (.cells #[.slice a1 p.ns.length c1,.slice a2 p.gs.length c2] 119)).alloc (.cells #[.slice none 0 0,.slice none 0 0] 163)):=X_;have y4:=hid (b0.ext (show Ext _ ((w.alloc (.cells #[.slice a1 p.ns.length c1,.slice a2 p.gs.length c2] 119)).alloc (.cells #[.slice none 0 0,.slice none 0 0] 163)) from X_));have y9:=hid r0;have q8:=hid x0;clear hv hp hchk b0 r0 x0 q4 a6 HN HG;go_enter func140,ntmps140;go_wp2_with fail;refine (xI lo hi _ p _ (HV.ext hh q8) (aRq hh q8.size) hbd hnl hgl).mono ?_;rintro e w1 ⟨⟨c,k,rfl,hc⟩,x1⟩;rw [b7] at hc
 obtain rfl:c=0:=by simpa using hc
 have c6:=hid (q8.trans x1);have x9:=hid (y4.ext x1);have z0:=hid (y9.ext x1);have e5:w.heap.size+1<w1.heap.size:=z0.lt;clear x1 q8 y4 y9 hc;have xb:Ext w1 (w1.alloc (.cells #[.slice none 0 0,.slice none 0 0] 163)):=X_
 have a0:=hid (show SB p w.heap.size (w.heap.size+1) w1.heap.size w1.heap.size a1 a2 c1 c2 (w1.alloc (.cells #[.slice none 0 0,.slice none 0 0] 163)) [] (.slice none 0 0) [] (.slice none 0 0) from
  ⟨x9.ext xb,z0.ext xb,aRr w1 163 [.slice none 0 0,.slice none 0 0],aE.nil _ _ _ _ _,cN.nil _ _,⟨aRi _,e5⟩⟩)
 have a4:=hid (c6.trans xb);have q1:=(x9.ext xb).cell 1 rfl;clear xb x9 z0;go_wp2_with fail
 go_loopw [23] (fun i wr=>∃(k:Nat) (lv:Value),k<=p.gs.length/\i = .int .i64 (k:Nat)/\SB p w.heap.size (w.heap.size+1) w1.heap.size w1.heap.size a1 a2 c1 c2 wr [] (.slice none 0 0) ((p.gs.take k).map (·.name)) lv/\Ext w wr) (fun i _=>p.gs.length - (intOf i).toNat)
 case atStart=>exact ⟨0,_,by omega,rfl,a0,a4⟩
 case round=>
  clear a0 a4 q1;obtain ⟨k,lv,hk,rfl,hS,hx⟩:=hrel
  by_cases y2:k<p.gs.length
  ·obtain ⟨b,b2,s,rt,rfl,d4,d5,h6,h4,ir,y0,y1⟩:=y5.at y2 hx hh
   have b9:=hid h4
   obtain ⟨NL,h7⟩:∃N,(p.gs.take k).map (·.name)=N:=⟨_,rfl⟩
   have z4:NL.length<=200:=by rw [<-h7,aSv,List.length_take];omega
   rw [h7] at hS;have q7:=hid h7;obtain ⟨la,lc,rfl,-⟩:=hS.loc.form;have HS:=hid hS;have HX:=hid hx;have yA:Ext wr ((wr.alloc (.cells #[.string s,rt] 200)).alloc (.cells #[.string s] 9)):=X_;have HY:=hid yA;have q3:=hid (hS.ext yA);have b6:=aRr (wr.alloc (.cells #[.string s,rt] 200)) 9 [.string s];rw [aRj] at b6;have b4:=hid b6;obtain ⟨q9,x2⟩:=hS.code.q2;have d2:=hS.code.free 1;have cl:=hS.code.lt;have zr:=hx.size;have zy:=yA.size;clear hS hx h7 h6 h4 yA b6;go_wp2_with (at_builtin;refine kL _ rfl _ _ rfl w1.heap.size (.slice la NL.length lc) NL rfl ?_ s (wr.heap.size+1) rfl ?_ ?_ ?_ ?_)
   ·exact q3.loc
   ·exact b4.cell 0 rfl
   ·omega
   ·exact aRq (aUu cl) zy
   intro x8 w8 h1 hg;have h2:=cN.row q3.loc
   have kC:w8.heap[w1.heap.size]?=((wr.alloc (.cells #[.string s,rt] 200)).alloc (.cells #[.string s] 9)).heap[w1.heap.size]?:=hg.block _ (by omega) (fun e=>by
    obtain ⟨_,c,hc⟩:=h2 _ e.symm
    exact q3.code.noCells (by decide) c hc)
   have K8:KN w1.heap.size w1.heap.size 9 wr w8:=((KN.refl _ _ _ _).ext HY).grown hg h2;have C8:=q3.code.of kC;have O9:=KN.strs h1 ((KN.refl w1.heap.size w1.heap.size 221 w8).set (aRi _) 1 x8) (C8.noCells (by decide)) (by decide);have z1:=hid (HS.knS (K8.set (aRi _) 1 x8) (C8.set 1 x8) O9);have z2:=hid ((K8.set (aRi _) 1 x8).up HX (aUu (by omega)));obtain ⟨g6,g7,x4,_⟩:=h1.form
   have z9:(NL++[s]).length=NL.length+1:=by simp
   rw [z9] at x4;subst x4;have e7:=C8.cell 1 rfl;have e8:=C8.free 1;have d1:=C8.lt;clear h1 hg h2 kC K8 C8 O9 q3 HY q9 x2 d2;go_wp2_with fail;go_roundw
   case rel=>
    have e2:NL++[s]=(p.gs.take (k+1)).map (·.name):=by rw [List.take_add_one,b9,aTp,q7];rfl
    have h5:=z1.out;rw [e2] at h5;exact ⟨k+1,_,by omega,by go_num,h5,z2⟩
   case measure=>simp [intOf];omega
  ·obtain rfl:k=p.gs.length:=by omega
   rw [aSh] at hS
   obtain ⟨NL,h7⟩:∃N,p.gs.map (·.name)=N:=⟨_,rfl⟩
   have z4:NL.length=p.gs.length:=by rw [<-h7,aSv]
   rw [h7] at hS;have q7:=hid h7;have e6:=hid z4;have HS:=hid hS;have HX:=hid hx;have q1:=hS.prog.cell 1 rfl;have ql:=hS.prog.lt;clear hS hx h7 z4;go_wp2_with fail;clear q1 ql
   go_loopw [38] (fun i wr=>∃(k:Nat) (iv:Value),k<=p.gs.length/\i = .int .i64 (k:Nat)/\SB p w.heap.size (w.heap.size+1) w1.heap.size w1.heap.size a1 a2 c1 c2 wr (p.trs k) iv NL lv/\Ext w wr) (fun i _=>p.gs.length - (intOf i).toNat)
   case atStart=>exact ⟨0,_,by omega,rfl,HS,HX⟩
   case round=>
    clear HS HX;obtain ⟨k,iv,hk,rfl,hS,hx⟩:=hrel
    by_cases y2:k<p.gs.length
    ·obtain ⟨b,b2,s,rt,rfl,d4,d5,h6,h4,ir,y0,y1⟩:=y5.at y2 hx hh
     have d9:=(HP.v.ag k _ h4).2;simp only at d9
     obtain ⟨r,rfl⟩:∃r:Nat,rt=r:=⟨rt.toNat,by omega⟩
     have x3:=Prg.trs_step h4;have d8:=aE6 (p:=p) (k:=k+1) p.gs.length (by omega) (aRi _);have z6:(p.trs p.gs.length).length<=120:=b8;simp only [aSc] at x3
     have z8:(p.trs (k+1)).length=(p.trs k).length+(p.tr r).length+1:=by rw [x3];simp;omega
     have c4:=hid x3
     obtain ⟨L,hL⟩:∃L,p.trs k=L:=⟨_,rfl⟩
     rw [hL] at hS z8;have HL:=hid hL
     obtain ⟨T,hT⟩:∃T,p.tr r=T:=⟨_,rfl⟩
     rw [hT] at z8;have HT:=hid hT
     have e9:L.length<=120:=by omega
     have g2:T.length<=120:=by omega
     have c5:=hid (show (p.tr r).length<=1000 by rw [hT];omega);obtain ⟨ia,ic,rfl,-⟩:=aE.form hS.ins;obtain ⟨la,lc,rfl,-⟩:=hS.loc.form;have yA:Ext wr (wr.alloc (.cells #[.string s,(r:Nat)] 200)):=X_;have HS:=hid hS;have HX:=hid hx;have c8:=hid yA;have a3:=hid (hS.ext yA);have bA:=aRr wr 200 [.string s,(r:Nat)];have b5:=hid bA;obtain ⟨q9,x2⟩:=hS.code.q2;have cl:=hS.code.lt;obtain ⟨e3,e4⟩:=hS.prog.q2;have pl:=hS.prog.lt;have zr:=hx.size;have zy:=yA.size;rw [aRj] at zy;clear hS hx h6 h4 x3 hL hT z8 d8 z6 yA bA;go_wp2_with fail;refine aH [([0,1,2,3,4,5,6],7),([],8),([9],10)] 10 (fun w'=>∃d,w'=fT (C3b w1.heap.size wr.heap.size w.heap.size) _ d) (by kernel_rfl) (by kernel_rfl) (SC.drew _ _) ?_;refine sc_ fun K hK=>?_;go_wp2_with fail;refine (aNx lo hi w1.heap.size wr.heap.size p HP w wr a1 (some ⟨b,b2,none⟩) c1 c2 c3 hh (.slice la NL.length lc) (by rw [q7];exact HS.loc.strs) (aRi _) (r+1) r _ (by omega) (by omega) (HX.trans X_) X_ c5).mono ?_;rintro e w5 ⟨u,rfl,O5,x5⟩;rw [HT] at O5;have Y5:Ext (wr.alloc (.cells #[.string s,(r:Nat)] 200)) w5:=aRo X_ x5;have h8:=hid Y5;have q0:=hid (a3.ext Y5);have y3:=hid (b5.ext Y5);have y8:=hid (aE.rd (sz:=3) O5 (fun _=>rfl));have z5:=Y5.size;rw [aRj] at z5;clear O5 x5 Y5;go_wp2_with fail;refine hK _ _ (.inr (SC.blocks fun a ha=>?_)) ?_
     ·rcases ha with ha|ha|ha
      ·exact h8.block (by rw [ha,aRj];omega)
      ·exact h8.block (by rw [ha,aRj];omega)
      ·exact h8.block (by rw [ha,aRj];omega)
     clear hK K
     obtain ⟨M,hM⟩:∃M,L++T=M:=⟨_,rfl⟩
     have g1:M.length<=300:=by rw [<-hM,aSa];omega
     have c0:=hid hM;refine sc_ fun K hK=>?_;refine cY Ins.cs 221 3 32 _ w5 rfl _ _ 160 rfl underlying160 uD rfl (by decide) (by decide) (fun _=>rfl) Ins.one w1.heap.size (.slice ia L.length ic) L rfl q0.ins _ _ u T rfl y8 (by omega) (by omega) ?_;rw [hM];intro x6 w6 h1 hg;clear hM;have h2:=aE.rowC q0.ins
     have h3:∀{B:Nat} {t:TypeId} {cs:List Value},Blk w5 B t cs->t≠221->w6.heap[B]?=w5.heap[B]?:=fun hb ht=>hg.block _ hb.lt (fun e=>by
      obtain ⟨_,c,hc⟩:=h2 _ e.symm
      exact hb.noCells (Ne.symm ht) c hc)
     have kC:=h3 q0.code (by decide);have kA:=h3 y3 (by decide);have kP:=h3 q0.prog (by decide);have K6:KN w1.heap.size w1.heap.size 221 (wr.alloc (.cells #[.string s,(r:Nat)] 200)) w6:=((KN.refl _ _ _ _).ext h8).grown hg h2;have C6:=q0.code.of kC;have h9:=hid (a3.kn (K6.set (aRi _) 0 x6) (C6.set 0 x6) (aE.set h1 C6 (by decide) 0 x6));have c7:=hid ((K6.set (aRi _) 0 x6).up (HX.trans c8) (by omega));obtain ⟨q5,q6,x4,_⟩:=aE.form h1;subst x4;obtain ⟨e0,e1⟩:=C6.q2;have g0:=C6.free 0;have d0:=C6.lt;have a9:=hid (kC.trans (h8.block (by rw [aRj];omega)));have a8:=hid (kA.trans (h8.block (by rw [aRj];omega)));have b1:=hid (kP.trans (h8.block (by rw [aRj];omega)));clear h1 hg h2 h3 kC kA kP K6 C6;go_wp2_with fail;refine hK _ _ (.inr (SC.blocks fun a ha=>?_)) ?_
     ·rcases ha with ha|ha|ha
      ·rw [ha];exact a9.out
      ·rw [ha];exact a8.out
      ·rw [ha];exact b1.out
     clear hK K;refine hG ?_;simp only [aR8,aR1,aRm,aRg,aRh]
     show wpQuiet _ _ _ _ [_] _
     simp only [Act.put,aRp,aRx,aRw,aWp,aVg,aVh]
     repeat (go_big_quiet_step (fail))
     refine wpQuiet_nil ⟨_,rfl,fun K hK=>?_⟩;go_wp2_with fail;refine l_ hK ?_;clear hK K;refine aQ ?_;clear e0 e1 g0 q9 x2 e3 e4 a9 a8 b1 h8 q0 y3 y8;have e0:=h9.code.cell 0 rfl;have g0:=h9.code.free 0;have el:=h9.code.lt;have y7:Ext (w6.setCell ⟨w1.heap.size,0,none⟩ (.slice q5 M.length q6)) ((w6.setCell ⟨w1.heap.size,0,none⟩ (.slice q5 M.length q6)).alloc (.cells #[.int .i64 4,.string ⟨#[]⟩,(k:Nat)] 221)):=X_;have y6:=hid (aE.ext h9.ins y7);have z3:=hid y7;have z7:=y7.size;clear y7;go_wp2_with (at_builtin;refine cE _ rfl _ _ rfl w1.heap.size (.slice q5 M.length q6) M rfl ?_ ⟨4,⟨#[]⟩,(k:Nat)⟩ w6.heap.size rfl ?_ ?_ ?_ ?_)
     ·exact y6
     ·omega
     ·simp at d0 z7 ⊢;omega
     intro x7 w8 h1 hg;have h2:=aE.rowC y6
     have kC:w8.heap[w1.heap.size]?=(w6.setCell ⟨w1.heap.size,0,none⟩ (.slice q5 M.length q6)).heap[w1.heap.size]?:=(hg.block _ (by simp;omega) (fun e=>by
      obtain ⟨_,c,hc⟩:=h2 _ e.symm
      exact (h9.code.ext z3).noCells (by decide) c hc)).trans (z3.block el)
     have K8:KN w1.heap.size w1.heap.size 221 (w6.setCell ⟨w1.heap.size,0,none⟩ (.slice q5 M.length q6)) w8:=((KN.refl _ _ _ _).ext z3).grown hg h2;have C8:=h9.code.of kC;have z1:=hid (h9.kn (K8.set (aRi _) 0 x7) (C8.set 0 x7) (aE.set h1 C8 (by decide) 0 x7));have z2:=hid ((K8.set (aRi _) 0 x7).up c7 (by omega));obtain ⟨g4,g5,a7,_⟩:=aE.form h1
     have d7:(M++[(⟨4,⟨#[]⟩,(k:Nat)⟩:Ins)]).length=M.length+1:=by simp
     rw [d7] at a7;subst a7;have f0:=C8.cell 0 rfl;have h0:=C8.free 0;have d1:=C8.lt;clear h1 hg h2 kC K8 C8 e0 g0 el;go_wp2_with fail;go_roundw
     case rel=>
      have e1:M++[(⟨4,⟨#[]⟩,(k:Nat)⟩:Ins)]=p.trs (k+1):=by rw [c4,HL,HT,<-c0,List.append_assoc]
      have h5:=z1.out;rw [e1] at h5;exact ⟨k+1,_,by omega,by go_num,h5,z2⟩
     case measure=>simp [intOf];omega
    ·obtain rfl:k=p.gs.length:=by omega
     obtain ⟨ia,ic,rfl,-⟩:=aE.form hS.ins;obtain ⟨la,lc,rfl,-⟩:=hS.loc.form;obtain ⟨q9,x2⟩:=hS.code.q2;have cl:=hS.code.lt;obtain ⟨r0,r1⟩:=hS.res.q2;have f0:=hS.res.free 0;have f1:=hS.res.free 1;have rl:=hS.res.lt;have zX:=hx.size;have d3:=hid (hS.loc.strs);have hI:=hid (hS.ins.inss (aRi _) (b3 _ (aRi _)))
     have a5:p.code.R w1.heap.size wr.heap.size wr (.agg #[.slice ia (p.trs p.gs.length).length ic,.slice la NL.length lc]):=⟨_,_,rfl,hI.out,by rw [show p.code.ls=NL from q7];exact d3.out⟩
     have c9:=hid (a5.same ((aM.setLow wr (p:=⟨w.heap.size+1,0,none⟩) (by simp only;omega) (.slice ia (p.trs p.gs.length).length ic)).trans (aM.setLow _ (p:=⟨w.heap.size+1,1,none⟩) (by simp only;omega) (.slice la NL.length lc))));have g3:=hx;clear hS a5;go_wp2;refine bodyPost_ret (v:=.tuple #[.agg #[.slice ia (p.trs p.gs.length).length ic,.slice la NL.length lc],.bool true]) (by simp [results,results140,go_sem, *]) rfl ?_;exact ⟨_,rfl,c9.wideC (by omega) (by simp),S_⟩
end
theorem Scn.Ok.shadeT {s:Scn} (ho:s.Ok) {q:Nat} (hq:q<s.ps.length) (hn:1<=n/\n<=8) (f:Nat->Int):∃X Y,s.ps[q].code.shade (nP f n s.t)=(X,Y,true):=by
 have hc:=ho.prg _ (aR2 hq);obtain ⟨X,Y,e,-⟩:=(Prg.chkB_K hc).shade hc (yK (f:=f) (n:=n) (t:=s.t) hn ho.t);exact ⟨X,Y,e⟩
theorem sQ {s:Scn} {b:Bool} (h:s.okB=b) (lo hi:Nat) (v:Value) (w:World) (hv:s.R lo hi w v) (hh:hi<=w.heap.size) (hsm:s.small):R_ 45 #[v] w (.bool b):=h▸lC s lo hi v w hv hh hsm
theorem sR (s:Scn) (lo hi:Nat) (v:Value) (k:Nat) (w:World) (hv:s.R lo hi w v) (hh:hi<=w.heap.size) (ho:s.Ok) (hsm:s.small) (hk:k<s.m) :
  Calls aRn 89 #[v,(k:Nat)] w fun e w'=>∃r1 r2,e = .returned (.tuple #[r1,r2,.bool true])/\aS w.heap.size w'.heap.size w' r1 (s.shade k).1/\aS w.heap.size w'.heap.size w' r2 (s.shade k).2/\Ext w w':=by
 obtain ⟨q,n,q9,hq,q8,z7,z8,q7,d2⟩:=ho.at hk;have HV:=hid hv;have HO:=hid (Scn.okB_iff.2 ho);have b1:=hid hsm;have z4:inB ((k:Nat):Int) 0 ((s.m:Int) - 1)=true:=aG.2 ⟨by omega,by omega⟩;have y7:=hid z4;obtain ⟨XX,YY,x0⟩:=ho.shadeT hq ⟨z7,z8⟩ (s.st k);obtain ⟨a1,c1,a2,c2,a3,c3,rfl,-,h5,-,h1,h2,h3⟩:=hv.form;have d1:=h3.cap;have g6:=h3.le;have g7:=h2.le;have b5:=h2.cap;obtain ⟨b,h7,rfl,g4,g5,h4⟩:=h3.at hk (by decide)
 obtain ⟨f,hf⟩:∃f,s.st k=f:=⟨_,rfl⟩
 obtain ⟨g,hg⟩:∃f,s.en k=f:=⟨_,rfl⟩
 have bw:b<w.heap.size:=by omega
 have q3:w.rangeAt b (h7+k*26) ((aR6 26).map fun j=>.int .i64 (s.F (k*26+j))):=by
  intro j v hj;obtain ⟨h1,h2⟩:=aRk.1 hj;simp only [aSv,aUi] at h1;simp only [aU3,aUd] at h2;subst h2;exact h4 j h1
 change w.rangeAt b (h7+k*26) [(s.st k 0),(s.st k 1),(s.st k 2),(s.st k 3),(s.st k 4),(s.st k 5),(s.st k 6),(s.st k 7),(s.st k 8),(s.st k 9),(s.st k 10),(s.st k 11),(s.en k 0),(s.en k 1),(s.en k 2),(s.en k 3),(s.en k 4),(s.en k 5),(s.en k 6),(s.en k 7),(s.en k 8),(s.en k 9),(s.en k 10),(s.en k 11),(s.sh k),(s.rt k)] at q3;simp only [hf,hg,q9,q8] at q3;have h6:=Scn.shade_at q9 hq q8;rw [hf] at h6 q7 x0;have h9:=ho.prg _ (aR2 hq);have z9:=hsm _ (aR2 hq);have q0:=Tex.okB_iff.1 ho.t;have H1:=hid h1;have H2:=hid h2;have x8:=hid q3;have y9:=hid h5;have c4:=hid (show ∀W:World,Ext w W->cT lo hi W (.agg #[s.t.log,.slice a1 s.t.px.length c1]) s.t from fun W x=>⟨_,rfl,h5,(h1.shut).ext hh x⟩);have x4:=hid h9;have q1:=hid z9;have b3:=hid q0;have a9:=hid q7;have b0:=hid h6;have q4:=hid x0;have x2:Ext w (w.alloc (.cells (sA_ s a1 c1 a2 c2 (some ⟨b,h7,none⟩) c3) 40)):=X_;have bS:=aRr w 40 (sL_ s a1 c1 a2 c2 (some ⟨b,h7,none⟩) c3);clear hv h1 h2 h3 q3 h9 z9 q0 q7 d2 h6 q9 q8 h4 hf hg h5 z4 ho hsm x0;have h0:=hid x2;have HS:=hid bS;clear x2 bS;go_enter func89,ntmps89;go_wp2_with fail;refine r_ (sQ HO lo hi _ _ (HV.ext hh h0) (aRq hh h0.size) b1) fun W0 x1=>?_;have x2:=h0.trans x1;have bS:=HS.ext x1;clear h0 HS x1;have h0:=hid x2;have HS:=hid bS;have b6:=bS.cell 10 rfl;have ls:=bS.lt;clear x2 bS;go_wp2_with fail;refine z_ (aF y7 _) ?_;have z3:W0.rangeAt b (h7+k*26) [(f 0),(f 1),(f 2),(f 3),(f 4),(f 5),(f 6),(f 7),(f 8),(f 9),(f 10),(f 11),(g 0),(g 1),(g 2),(g 3),(g 4),(g 5),(g 6),(g 7),(g 8),(g 9),(g 10),(g 11),(q:Nat),(n:Nat)]:=fun j v hj=>(h0.cells.1 b _ bw).trans (x8 j v hj);have x3:=hid z3
 have lb:b<W0.heap.size:=by have:=h0.size;omega
 clear z3;go_upto_region 4 with (first|(show wpList _ _ _ [_,_,_] _ _;refine wpList_load_mid rfl _ _ rfl b (h7+k*26) rfl [(f 0),(f 1),(f 2),(f 3),(f 4),(f 5),(f 6),(f 7),(f 8),(f 9),(f 10),(f 11),(g 0),(g 1),(g 2),(g 3),(g 4),(g 5),(g 6),(g 7),(g 8),(g 9),(g 10),(g 11),(q:Nat),(n:Nat)] _ x3 underlying127 rfl iS ?_)|(show wpList _ _ _ [_] _ _;refine dP _ _ _ rfl 127 (.tmp 7) (.tmp 28) rfl rfl #[(f 0),(f 1),(f 2),(f 3),(f 4),(f 5),(f 6),(f 7),(f 8),(f 9),(f 10),(f 11),(g 0),(g 1),(g 2),(g 3),(g 4),(g 5),(g 6),(g 7),(g 8),(g 9),(g 10),(g 11),(q:Nat),(n:Nat)] W0.heap.size rfl rfl rfl (by kernel_rfl) (by kernel_rfl) (by kernel_rfl) ?_));have xA:Ext W0 (W0.alloc (.cells #[(f 0),(f 1),(f 2),(f 3),(f 4),(f 5),(f 6),(f 7),(f 8),(f 9),(f 10),(f 11),(g 0),(g 1),(g 2),(g 3),(g 4),(g 5),(g 6),(g 7),(g 8),(g 9),(g 10),(g 11),(q:Nat),(n:Nat)] 127)):=X_;have bA:=aRr W0 127 [(f 0),(f 1),(f 2),(f 3),(f 4),(f 5),(f 6),(f 7),(f 8),(f 9),(f 10),(f 11),(g 0),(g 1),(g 2),(g 3),(g 4),(g 5),(g 6),(g 7),(g 8),(g 9),(g 10),(g 11),(q:Nat),(n:Nat)]
 obtain ⟨A,hA⟩:∃A,W0.heap.size=A:=⟨_,rfl⟩
 obtain ⟨W1,z2⟩:∃W1,W0.alloc (.cells #[(f 0),(f 1),(f 2),(f 3),(f 4),(f 5),(f 6),(f 7),(f 8),(f 9),(f 10),(f 11),(g 0),(g 1),(g 2),(g 3),(g 4),(g 5),(g 6),(g 7),(g 8),(g 9),(g 10),(g 11),(q:Nat),(n:Nat)] 127)=W1:=⟨_,rfl⟩
 rw [z2] at xA bA ⊢;rw [hA] at bA ls lb ⊢;have X1:=hid (h0.trans xA);have S1:=HS.ext xA;have z1:=hid S1;have y0:=hid bA;have d9:=S1.cell 9 rfl;have d5:=S1.lt;have b9:=bA.cell 24 rfl;have lA:=bA.lt;obtain ⟨b2,g0,na,nc,ga,gc,rfl,d0,c9,k1,k2,hR⟩:=H2.at hq X1 hh;have HR:=hid hR;clear z2 hA xA bA S1 hR b6 ls lb HS h0 x3 x8;go_wp2_with fail;refine (aC5 lo hi _ (s.ps[q]'hq) _ HR (aRq hh X1.size) x4 q1.1 q1.2.1.1 q1.2.2).mono ?_;rintro e w5 ⟨u,rfl,R5,x5⟩
 obtain ⟨K,hK⟩:∃K,(s.ps[q]'hq).code=K:=⟨_,rfl⟩
 have y8:=hid (show K.small by rw [<-hK];exact ⟨by have:=oO (Prg.chkB_K x4);omega,by show ((s.ps[q]'hq).gs.map (·.name)).length<=1048576;rw [aSv];exact q1.2.2⟩);have z0:=hid hK;rw [hK] at R5;obtain ⟨a5,c5,a6,c6,rfl,-,-⟩:=R5.form;have y5:Ext w5 (w5.alloc (.cells #[.slice a5 K.xs.length c5,.slice a6 K.ls.length c6] 163)):=X_;have bC:=aRr w5 163 [.slice a5 K.xs.length c5,.slice a6 K.ls.length c6];have y2:=hid (R5.ext (aRi _) y5);have X5:=hid (X1.trans (x5.trans y5));have S5:=z1.ext (x5.trans y5);have A5:=y0.ext (x5.trans y5);have y1:=hid bC;have z5:=(x5.trans y5).size;have g3:=y5.size;have g9:=x5.size;have d7:=S5.cell 7 rfl;have d8:=S5.cell 8 rfl;have d6:=S5.lt;obtain ⟨e0,e1,e2,e3,e4,e5,e6,e7,e8,e9,b7,b8⟩:=A5.q12;have c0:=A5.cell 25 rfl;have d3:=A5.lt;clear R5 x5 y5 bC S5 A5 d9 d5 b9 lA k1 k2 hK z1 HR;go_wp2_with fail;refine (aHd lo hi f a9 n ⟨z7,z8⟩ 0 ⟨by decide,by decide⟩ _ s.t _ (c4.out _ X5) (aRq hh X5.size) b3).mono ?_;rintro e w6 ⟨gv,rfl,R6,x6⟩
 obtain ⟨g1,g2,hg⟩:∃g:Grd,nP f n s.t=g/\True:=⟨_,rfl,trivial⟩
 have x9:=hid g2;change (nP f n s.t).R _ _ _ _ at R6;rw [g2] at R6;obtain ⟨a7,c7,a8,c8,rfl⟩:=Grd.R.formS R6;have y6:Ext w6 (w6.alloc (.cells #[g1.n,.slice a7 g1.m c7,g1.tm,g1.t.log,.slice a8 g1.t.px.length c8] 168)):=X_;have bG:=aRr w6 168 [g1.n,.slice a7 g1.m c7,g1.tm,g1.t.log,.slice a8 g1.t.px.length c8];have y4:=hid (R6.ext (aRi _) y6);have X6:=hid (X5.trans (x6.trans y6));have B6:=y1.ext (x6.trans y6);have y3:=hid (y2.ext (by have:=g3;omega) (x6.trans y6));have z6:=(x6.trans y6).size;have g8:=y6.size;obtain ⟨f0,f1⟩:=B6.q2;have d4:=B6.lt;obtain ⟨i0,i1,i2,i3,i4⟩:=bG.q5;have lG:=bG.lt;clear R6 x6 y6 bG B6 hg g2 d7 d8 d6 e0 e1 e2 e3 e4 e5 e6 e7 e8 e9 b7 b8 c0 d3;go_wp2_with fail
 have q6:K.shade g1=(XX,YY,true):=by rw [<-z0,<-x9];exact q4
 have h8:(s.shade k).1=XX/\(s.shade k).2=YY:=by
  rw [b0,z0,x9,q6];exact ⟨rfl,rfl⟩
 have HE:=hid h8;have b4:=hid q6;clear q6 h8;refine (yD _ _ _ _ _ _ K g1 _ b4 y3 (by omega) y4 (by omega) y8).mono ?_;rintro e w7 ⟨r1,r2,rfl,O1,O2,x7⟩;have X7:=hid (X6.trans x7);have a0:=hid O1;have a4:=hid O2;clear O1 O2 x7 f0 f1 d4 i0 i1 i2 i3 i4 lG;go_wp2
 go_ret3
 have zl:=X6.size;exact ⟨r1,r2,rfl,by rw [HE.1];exact a0.wide zl (aRi _),by rw [HE.2];exact a4.wide zl (aRi _),X7⟩
def CI (lo hi:Nat) (w:World) (b o:Nat):Prop:=lo<=b/\b<hi/\(∃x,w.cell? ⟨b,o,none⟩=some (.int .i64 x))/\w.frozen? ⟨b,o,none⟩=false
def CS (lo hi:Nat) (w:World) (b o:Nat):Prop:=lo<=b/\b<hi/\(∃x,w.cell? ⟨b,o,none⟩=some (.string x))/\w.frozen? ⟨b,o,none⟩=false
def sS (lo hi:Nat) (w:World) (v:Value) (n:Nat):Prop:=
 ∃a cap,v = .slice a n cap/\n<=cap/\cap<=9223372036854775807/\∀i,i<n->∃b off,a=some ⟨b,off,none⟩/\CI lo hi w b (off+i)
def aC6 (lo hi:Nat) (w:World) (v:Value) (n:Nat):Prop:=
 ∃a cap,v = .slice a n cap/\n<=cap/\cap<=9223372036854775807/\∀i,i<n->∃b off a' m c',a=some ⟨b,off,none⟩/\CI lo hi w b (off+i*4)/\CS lo hi w b (off+i*4+1)/\CI lo hi w b (off+i*4+2)/\w.cell? ⟨b,off+i*4+3,none⟩=some (.slice a' m c')/\m<=1048576/\sS lo hi w (.slice a' m c') m
def sU (lo hi:Nat) (w:World) (v:Value) (n:Nat):Prop:=
 ∃a cap,v = .slice a n cap/\n<=cap/\cap<=9223372036854775807/\∀i,i<n->∃b off,a=some ⟨b,off,none⟩/\CS lo hi w b (off+i*2)/\CI lo hi w b (off+i*2+1)
def uY (lo hi:Nat) (w:World) (v:Value) (n:Nat):Prop:=
 ∃a cap,v = .slice a n cap/\n<=cap/\cap<=9223372036854775807/\∀i,i<n->∃b off a1 m1 c1 a2 m2 c2,a=some ⟨b,off,none⟩/\lo<=b/\b<hi/\w.cell? ⟨b,off+i*2,none⟩=some (.slice a1 m1 c1)/\w.cell? ⟨b,off+i*2+1,none⟩=some (.slice a2 m2 c2)/\m1<=1048576/\m2<=1048576/\aC6 lo hi w (.slice a1 m1 c1) m1/\sU lo hi w (.slice a2 m2 c2) m2
def aE8 (lo hi:Nat) (w:World) (v:Value) (n:Nat):Prop:=
 ∃a cap,v = .slice a n cap/\n<=cap/\cap<=9223372036854775807/\∀i,i<n->∃b off,a=some ⟨b,off,none⟩/\CI lo hi w b (off+i*26+24)/\CI lo hi w b (off+i*26+25)
theorem CI.same (h:CI lo hi w b o) (s:aM lo hi w w'):CI lo hi w' b o:=by
 obtain ⟨h1,h2,⟨x,h3⟩,h4⟩:=h;exact ⟨h1,h2,⟨x,(s.cell h1 h2).trans h3⟩,(s.frozen h1 h2).trans h4⟩
theorem CS.same (h:CS lo hi w b o) (s:aM lo hi w w'):CS lo hi w' b o:=by
 obtain ⟨h1,h2,⟨x,h3⟩,h4⟩:=h;exact ⟨h1,h2,⟨x,(s.cell h1 h2).trans h3⟩,(s.frozen h1 h2).trans h4⟩
theorem CI.wide (h:CI lo hi w b o) (h1:lo'<=lo) (h2:hi<=hi'):CI lo' hi' w b o:=⟨aRq h1 h.1,aS5 h.2.1 h2,h.2.2⟩
theorem CS.wide (h:CS lo hi w b o) (h1:lo'<=lo) (h2:hi<=hi'):CS lo' hi' w b o:=⟨aRq h1 h.1,aS5 h.2.1 h2,h.2.2⟩
theorem sS.same (h:sS lo hi w v n) (s:aM lo hi w w'):sS lo hi w' v n:=by
 obtain ⟨a,cap,h1,h2,h3,h4⟩:=h;exact ⟨a,cap,h1,h2,h3,fun i hi=>by obtain ⟨b,h0,e,hc⟩:=h4 i hi;exact ⟨b,h0,e,hc.same s⟩⟩
theorem sS.wide (h:sS lo hi w v n) (h1:lo'<=lo) (h2:hi<=hi'):sS lo' hi' w v n:=by
 obtain ⟨a,cap,g1,g2,g3,h4⟩:=h;exact ⟨a,cap,g1,g2,g3,fun i hi=>by obtain ⟨b,h0,e,hc⟩:=h4 i hi;exact ⟨b,h0,e,hc.wide h1 h2⟩⟩
theorem aB.intsM {xs:List Int} (h:aB lo w v xs):sS lo w.heap.size w v xs.length:=by
 obtain ⟨a,cap,rfl,_⟩:=h.form;obtain ⟨a',h0,e,g2,g3,_⟩:=h.ints;simp only [Value.slice.injEq,true_and] at e;obtain ⟨rfl,rfl⟩:=e;refine ⟨a,cap,rfl,g2,by unfold maxLen at g3;omega,fun i hi=>?_⟩;obtain ⟨g,y,rfl,l1,l2,_,hc,hf,_⟩:=h.at rfl hi;exact ⟨g,0,rfl,l1,l2,⟨y,by rw [aSf];exact hc⟩,by rw [aSf];exact hf⟩
theorem aC6.same (h:aC6 lo hi w v n) (s:aM lo hi w w'):aC6 lo hi w' v n:=by
 obtain ⟨a,cap,h1,h2,h3,h4⟩:=h;refine ⟨a,cap,h1,h2,h3,fun i hi=>?_⟩;obtain ⟨b,h0,a',m,c',e,k0,k1,k2,k3,k4,k5⟩:=h4 i hi;exact ⟨b,h0,a',m,c',e,k0.same s,k1.same s,k2.same s,(s.cell k0.1 k0.2.1).trans k3,k4,k5.same s⟩
theorem aC6.wide (h:aC6 lo hi w v n) (h1:lo'<=lo) (h2:hi<=hi'):aC6 lo' hi' w v n:=by
 obtain ⟨a,cap,g1,g2,g3,h4⟩:=h;refine ⟨a,cap,g1,g2,g3,fun i hi=>?_⟩;obtain ⟨b,h0,a',m,c',e,k0,k1,k2,k3,k4,k5⟩:=h4 i hi;exact ⟨b,h0,a',m,c',e,k0.wide h1 h2,k1.wide h1 h2,k2.wide h1 h2,k3,k4,k5.wide h1 h2⟩
theorem sU.same (h:sU lo hi w v n) (s:aM lo hi w w'):sU lo hi w' v n:=by
 obtain ⟨a,cap,h1,h2,h3,h4⟩:=h;exact ⟨a,cap,h1,h2,h3,fun i hi=>by obtain ⟨b,h0,e,k0,k1⟩:=h4 i hi;exact ⟨b,h0,e,k0.same s,k1.same s⟩⟩
theorem sU.wide (h:sU lo hi w v n) (h1:lo'<=lo) (h2:hi<=hi'):sU lo' hi' w v n:=by
 obtain ⟨a,cap,g1,g2,g3,h4⟩:=h;exact ⟨a,cap,g1,g2,g3,fun i hi=>by obtain ⟨b,h0,e,k0,k1⟩:=h4 i hi;exact ⟨b,h0,e,k0.wide h1 h2,k1.wide h1 h2⟩⟩
def pY (lo hi:Nat) (w:World) (v:Value) (xs:List Nd):Prop:=Nds lo hi w v xs/\aC6 lo hi w v xs.length
def mP (lo hi:Nat) (w:World) (v:Value) (xs:List Asg):Prop:=nQ lo hi w v xs/\sU lo hi w v xs.length
theorem pY.same {xs:List Nd} (h:pY lo hi w v xs) (s:aM lo hi w w'):pY lo hi w' v xs:=⟨h.1.same s,h.2.same s⟩
theorem mP.same {xs:List Asg} (h:mP lo hi w v xs) (s:aM lo hi w w'):mP lo hi w' v xs:=⟨h.1.same s,h.2.same s⟩
theorem pY.ext {xs:List Nd} (h:pY lo hi w v xs) (hh:hi<=w.heap.size) (e:Ext w w'):pY lo hi w' v xs:=h.same (e.same hh)
theorem pY.wide {xs:List Nd} (h:pY lo hi w v xs) (h1:lo'<=lo) (h2:hi<=hi'):pY lo' hi' w v xs:=⟨h.1.wide h1 h2,h.2.wide h1 h2⟩
theorem mP.wide {xs:List Asg} (h:mP lo hi w v xs) (h1:lo'<=lo) (h2:hi<=hi'):mP lo' hi' w v xs:=⟨h.1.wide h1 h2,h.2.wide h1 h2⟩
theorem pY.setLow {xs:List Nd} (h:pY lo hi w v xs) (hp:p.block<lo) (x:Value):pY lo hi (w.setCell p x) v xs:=h.same (fun k h1 _=>aRt _ _ _ _ (by omega))
theorem mP.setLow {xs:List Asg} (h:mP lo hi w v xs) (hp:p.block<lo) (x:Value):mP lo hi (w.setCell p x) v xs:=h.same (fun k h1 _=>aRt _ _ _ _ (by omega))
def Prg.B (p:Prg) (lo hi:Nat) (w:World) (v:Value):Prop:=∃iu lu,v = .agg #[iu,lu]/\pY lo hi w iu p.ns/\mP lo hi w lu p.gs
theorem Prg.B.R {p:Prg} (h:p.B lo hi w v):p.R lo hi w v:=by
 obtain ⟨iu,lu,rfl,h1,h2⟩:=h;exact ⟨iu,lu,rfl,h1.1,h2.1⟩
theorem Prg.B.same {p:Prg} (h:p.B lo hi w v) (s:aM lo hi w w'):p.B lo hi w' v:=by
 obtain ⟨iu,lu,rfl,h1,h2⟩:=h;exact ⟨iu,lu,rfl,h1.same s,h2.same s⟩
theorem Prg.B.wide {p:Prg} (h:p.B lo hi w v) (h1:lo'<=lo) (h2:hi<=hi'):p.B lo' hi' w v:=by
 obtain ⟨iu,lu,rfl,g1,g2⟩:=h;exact ⟨iu,lu,rfl,g1.wide h1 h2,g2.wide h1 h2⟩
theorem aE9 (lo hi:Nat) (op:Int) (s:ByteArray) (n:Int) (u:Value) (r:List Int) (w:World) (hu:aS lo hi w u r) (hh:hi<=w.heap.size) (hsz:r.length<=1048576) :
  Calls aRn 180 #[.agg #[op,.string s,n,u]] w fun e w'=>∃a c,e = .returned (.agg #[op,.string s,n,.slice a r.length c])/\aB w.heap.size w' (.slice a r.length c) r/\Ext w w':=by
 have HU:=hid hu;clear hu;go_enter func180,ntmps180;go_wp2_with fail;refine (vY lo hi u r _ (HU.out.ext hh S_) (by simp;omega) hsz).mono ?_;rintro e w1 ⟨v1,rfl,hO,x1⟩;obtain ⟨a,c,rfl,_⟩:=hO.form;have h2:=x1.size;simp only [aRj,aS6] at h2;have h1:=(Bx.madeAt (B:=w.heap.size+1+1) ((w.alloc (.cells #[op,.string s,n,u] 237)).alloc (.cells #[(),.string ⟨#[]⟩,(),.slice none 0 0] 197)) #[op,.string s,n,.slice none 0 0] 197 (by simp)).ext x1;have h0:=((Bx.madeAt (B:=w.heap.size+1) (w.alloc (.cells #[op,.string s,n,u] 237)) #[(),.string ⟨#[]⟩,(),.slice none 0 0] 197 (by simp)).ext ((aRu _).alloc (.cells #[op,.string s,n,.slice none 0 0] 197))).ext x1;have X0:Ext w (((w.alloc (.cells #[op,.string s,n,u] 237)).alloc (.cells #[(),.string ⟨#[]⟩,(),.slice none 0 0] 197)).alloc (.cells #[op,.string s,n,.slice none 0 0] 197)):=S_;have X1:=hid (X0.trans x1);have HO:=hid hO;clear x1 hO X0;have q:=h1.lt;obtain ⟨q0,q1,q2,q3⟩:=h1.q4;have h7:=h1.frozen 0;have h8:=h1.frozen 1;have h9:=h1.frozen 2;have q5:=h1.frozen 3;have d:=h0.lt;obtain ⟨d0,d1,d2,d3⟩:=h0.q4;have h3:=h0.frozen 0;have h4:=h0.frozen 1;have h5:=h0.frozen 2;have h6:=h0.frozen 3;clear h0 h1;go_wp2;refine bodyPost_ret (v:=.agg #[op,.string s,n,.slice a r.length c]) (by simp [results,results180,go_sem, *]) rfl ⟨a,c,rfl,?_,?_⟩
 ·have h:=HO.out
  simp only [aRj,aS6] at h ⊢;refine aB.low ?_ (Nat.le_add_right _ 3)
  repeat (with_reducible refine aB.setLow ?_ (by simp <;> omega) _)
  exact h
 ·have hX:=X1.out
  exact S_
theorem aC7 (lo hi:Nat) (u:Value) (xs:List Nd) (w:World) (hu:Nds lo hi w u xs) (hh:hi<=w.heap.size) (hsz:xs.length<=1048576) (hsa:∀x∈xs,x.args.length<=1048576) :
  Calls aRn 126 #[u] w fun e w'=>e = .returned (.slice (some ⟨w.heap.size,0,none⟩) xs.length xs.length)/\pY w.heap.size w'.heap.size w' (.slice (some ⟨w.heap.size,0,none⟩) xs.length xs.length) xs/\w.heap.size<w'.heap.size/\Ext w w':=by
 obtain ⟨i0,q2,q5,q6,q7⟩:=info_parts aNb;obtain ⟨a,cap,rfl,HU⟩:=hu.open;clear hu;have x6:=HU.cap;have z5:=HU.le;have HS:=hid hsa;clear hsa;go_enter func126,ntmps126;go_wp2_with (at_make;refine wpList_make_full _ rfl _ _ 116 rfl w.heap.size 197 i0 _ 4 underlying116 q2 q5 q6 _ _ _ _ xs.length rfl rfl rfl rfl (by rw [q7];omega) (by unfold maxLen;omega) (aRi _) ?_);intro w1 h9 h4;have hx:Ext w w1:=(aRu w).grown h4 (fun k h=>by cases h);have h1:=hid (show w1.rowIs w.heap.size 197 (xs.length*4) (fC (ndC xs (fun _=>.slice none 0 0)) ndZ 0) from aTv (lM (aNc _) h9) (fun i _=>by unfold fC;simp));clear h9 h4 q2 q5 q6 q7;go_wp2
 go_loopw [4] (fun i wr=>∃(k:Nat) (us:Nat->Value),k<=xs.length/\i = .int .i64 k/\Ext w wr/\wr.rowIs w.heap.size 197 (xs.length*4) (fC (ndC xs us) ndZ (k*4))/\∀j x,j<k->xs[j]?=some x->aB (w.heap.size+1) wr (us j) x.args) (fun i _=>xs.length - (intOf i).toNat)
 case atStart=>exact ⟨0,_,by omega,rfl,hx,by simpa using h1.out,fun j x hj=>by omega⟩
 case round=>
  clear hx h1;obtain ⟨k,us,hk,rfl,hx,h1,h3⟩:=hrel
  by_cases q4:k<xs.length
  ·obtain ⟨b,z7,op,s,n,ua,ra,rfl,x9,z4,h7,h5,io,z6,q3,x0,x1,x2,x3⟩:=HU.at q4 hx hh
   have x5:=hid (aCp (us:=fun j=>if j=k then ua else us j) h5);obtain ⟨z0,z1,z2,z3⟩:=aO4 k;have x7:=fA (k:=4) (j:=3) q4 (by decide);have HX:=hid hx;have HR:=hid h1;have HI:=hid q3;have HA:=hid h3;have HG:=hid h5;have zx:=hx.size;have zr:=aT5 h1;clear h7 h5 hx h1 q3 h3;go_wp2_with fail;refine (aE9 lo hi op s n ua ra _ HI.out (by omega) (HS.out _ (aR7 HG.out))).mono ?_;rintro e w2 ⟨a2,c2,rfl,hN,h2⟩;have hR:w2.rowIs w.heap.size 197 (xs.length*4) (fC (ndC xs us) ndZ (k*4)):=aU9 HR.out (h2.block zr);have hX:=HX.out.trans h2;have zz:=h2.size;have q0:=hid (aCp (us:=fun j=>if j=k then .slice a2 ra.length c2 else us j) HG.out);have d0:=aTc hR (i:=k*4) (by omega);have g0:=aTq hR (k*4);have d1:=aTc hR (i:=k*4+1) (by omega);have g1:=aTq hR (k*4+1);have d2:=aTc hR (i:=k*4+2) (by omega);have g2:=aTq hR (k*4+2);have d3:=aTc hR (i:=k*4+3) (by omega);have g3:=aTq hR (k*4+3);unfold fC at d0 d1 d2 d3;rw [if_neg (by omega)] at d0 d1 d2 d3;rw [z0] at d0;rw [z1] at d1;rw [z2] at d2;rw [z3] at d3;have x4:=hid hX
   have q1:w2.rowIs w.heap.size 197 (xs.length*4) (fC (ndC xs (fun j=>if j=k then .slice a2 ra.length c2 else us j)) ndZ (k*4)):=aTv hR (fun i _=>by
    unfold fC
    by_cases hi:i<k*4
    ·rw [if_pos hi,if_pos hi,aNa (k:=k) (u:=.slice a2 ra.length c2) i hi]
    ·rw [if_neg hi,if_neg hi])
   have q9:=hid q1;have HN:=hid hN;have q8:Hid (∀j x,j<k->xs[j]?=some x->aB (w.heap.size+1) w2 (us j) x.args):=hid (fun j x hj h6=>(HA.out j x hj h6).ext h2);clear HX HR h2 hX hR q1 z0 z1 z2 z3 x0 x1 x2 x3 hN HA x5;go_wp2;go_roundw
   case rel=>
    refine ⟨k+1,fun j=>if j=k then .slice a2 ra.length c2 else us j,by omega,by go_num,?_,?_,?_⟩
    ·have hX:=x4.out
     exact S_
    ·rw [aT1,aT2]
     obtain ⟨e0,e1,e2,e3⟩:=q0.out;refine fS (fS (fS (fS (q9.out) rfl e0.symm) rfl e1.symm) rfl e2.symm) rfl ?_;rw [e3];simp
    ·intro j x hj h6
     simp only [aS6]
     repeat (with_reducible refine aB.setLow ?_ (by simp <;> omega) _)
     by_cases e:j=k
     ·subst e
      rw [HG.out] at h6;injection h6 with h6;subst h6;simp only [if_pos rfl];exact HN.out.low (by omega)
     ·simp only [if_neg e]
      exact q8.out j x (by omega) h6
   case measure=>simp [intOf];omega
  ·obtain rfl:k=xs.length:=by omega
   have HR:=hid h1;have HA:=hid h3;have HX:=hid hx;clear h1 h3 hx;go_wp2;go_ret;have hR:=HR.out;have h8:=aT5 hR
   have h0:∀q,q<xs.length*4->wr.cell? ⟨w.heap.size,0+q,none⟩=some (ndC xs us q):=fun q hq=>by
    rw [aSf,aTc hR hq];unfold fC;rw [if_pos hq]
   refine ⟨rfl,⟨⟨_,_,rfl,aRi _,by unfold maxLen;omega,fun i x hx=>?_⟩,⟨_,_,rfl,aRi _,by omega,fun i hi=>?_⟩⟩,h8,HX.out⟩
   ·obtain ⟨e0,e1,e2,e3⟩:=aCp (us:=us) hx
    have hi:=(aRk.1 hx).1;have hl:=fA (k:=4) (j:=3) hi (by decide);have x8:=(HU.cell i x hx).1;refine ⟨x8,w.heap.size,0,us i,rfl,aRi _,h8,?_,?_,?_,?_,(HA.out i x hi hx).ints.wide (by omega) (aRi _)⟩
    ·rw [h0 _ (by omega),e0]
    ·rw [aTa,h0 _ (by omega),e1]
    ·rw [aTa,h0 _ (by omega),e2]
    ·rw [aTa,h0 _ (by omega),e3]
   ·have hx:xs[i]?=some xs[i]:=aRs hi
    obtain ⟨e0,e1,e2,e3⟩:=aCp (us:=us) hx;have hl:=fA (k:=4) (j:=3) hi (by decide);have hO:=HA.out i _ hi hx;obtain ⟨ua,uc,hu,_⟩:=hO.form;have hM:=hO.intsM;rw [hu] at hM;have fz:∀q,wr.frozen? ⟨w.heap.size,q,none⟩=false:=fun q=>aTq hR q;refine ⟨w.heap.size,0,ua,_,uc,rfl,⟨aRi _,h8,⟨xs[i].op,?_⟩,fz _⟩,⟨aRi _,h8,⟨xs[i].name,?_⟩,fz _⟩,⟨aRi _,h8,⟨xs[i].num,?_⟩,fz _⟩,?_,HS.out _ (aR2 hi),hM.wide (by omega) (aRi _)⟩
    ·rw [h0 _ (by omega),e0]
    ·rw [aTa,h0 _ (by omega),e1]
    ·rw [aTa,h0 _ (by omega),e2]
    ·rw [aTa,h0 _ (by omega),e3,hu]
theorem aFa (lo hi:Nat) (u:Value) (xs:List Asg) (w:World) (hu:nQ lo hi w u xs) (hh:hi<=w.heap.size) (hsz:xs.length<=1048576) :
  Calls aRn 127 #[u] w fun e w'=>e = .returned (.slice (some ⟨w.heap.size,0,none⟩) xs.length xs.length)/\mP w.heap.size w'.heap.size w' (.slice (some ⟨w.heap.size,0,none⟩) xs.length xs.length) xs/\w.heap.size<w'.heap.size/\Ext w w':=by
 obtain ⟨i0,h8,q0,q1,q2⟩:=info_parts aNd;obtain ⟨a,cap,rfl,HU⟩:=hu.open;clear hu;have q6:=HU.cap;have x2:=HU.le;go_enter func127,ntmps127;go_wp2_with (at_make;refine wpList_make_full _ rfl _ _ 117 rfl w.heap.size 200 i0 _ 2 underlying117 h8 q0 q1 _ _ _ _ xs.length rfl rfl rfl rfl (by rw [q2];omega) (by unfold maxLen;omega) (aRi _) ?_);intro w1 h6 h3;have hx:Ext w w1:=(aRu w).grown h3 (fun k h=>by cases h);have h1:=hid (show w1.rowIs w.heap.size 200 (xs.length*2) (fC (agC xs) agZ 0) from aTv (lM (aNe _) h6) (fun i _=>by unfold fC;simp));clear h6 h3 h8 q0 q1 q2;go_wp2
 go_loopw [4] (fun i wr=>∃k:Nat,k<=xs.length/\i = .int .i64 k/\Ext w wr/\wr.rowIs w.heap.size 200 (xs.length*2) (fC (agC xs) agZ (k*2))) (fun i _=>xs.length - (intOf i).toNat)
 case atStart=>exact ⟨0,by omega,rfl,hx,by simpa using h1.out⟩
 case round=>
  clear hx h1;obtain ⟨k,hk,rfl,hx,h1⟩:=hrel
  by_cases h9:k<xs.length
  ·obtain ⟨b,x3,s,n,rfl,q8,q9,h4,h5,io,x0,x1⟩:=HU.at h9 hx hh
   have q5:=hid (aGr h5);obtain ⟨z0,z1⟩:=aO5 k;have q7:=fA (k:=2) (j:=1) h9 (by decide);have HX:=hid hx;have HR:=hid h1;clear h4 h5 hx h1;go_wp2_with fail;refine r_ (aJs s n _) fun w2 h2=>?_;have hR:w2.rowIs w.heap.size 200 (xs.length*2) (fC (agC xs) agZ (k*2)):=aU9 HR (h2.block (aT5 HR));have hX:=HX.trans h2;have d0:=aTc hR (i:=k*2) (by omega);have g0:=aTq hR (k*2);have d1:=aTc hR (i:=k*2+1) (by omega);have g1:=aTq hR (k*2+1);unfold fC at d0 d1;rw [if_neg (by omega)] at d0 d1;rw [z0] at d0;rw [z1] at d1;have q4:=hid hX;have q3:=hid hR;clear HX HR h2 hX hR z0 z1 x0 x1;go_wp2;go_roundw
   case rel=>
    refine ⟨k+1,by omega,by go_num,?_,?_⟩
    ·have hX:=q4.out
     exact S_
    ·rw [aT1,aT2]
     obtain ⟨e0,e1⟩:=q5.out;exact fS (fS (q3) rfl e0.symm) rfl e1.symm
   case measure=>simp [intOf];omega
  ·obtain rfl:k=xs.length:=by omega
   have HR:=hid h1;have HX:=hid hx;clear h1 hx;go_wp2;go_ret;have hR:=HR.out;have h7:=aT5 hR
   have h0:∀q,q<xs.length*2->wr.cell? ⟨w.heap.size,0+q,none⟩=some (agC xs q):=fun q hq=>by
    rw [aSf,aTc hR hq];unfold fC;rw [if_pos hq]
   refine ⟨rfl,⟨⟨_,_,rfl,aRi _,by unfold maxLen;omega,fun i x hx=>?_⟩,⟨_,_,rfl,aRi _,by omega,fun i hi=>?_⟩⟩,h7,HX⟩
   ·obtain ⟨e0,e1⟩:=aGr hx
    have hi:=(aRk.1 hx).1;have hl:=fA (k:=2) (j:=1) hi (by decide);refine ⟨(HU.cell i x hx).1,w.heap.size,0,rfl,aRi _,h7,?_,?_⟩
    ·rw [h0 _ (by omega),e0]
    ·rw [aTa,h0 _ (by omega),e1]
   ·have hx:xs[i]?=some xs[i]:=aRs hi
    obtain ⟨e0,e1⟩:=aGr hx;have hl:=fA (k:=2) (j:=1) hi (by decide);have fz:∀q,wr.frozen? ⟨w.heap.size,q,none⟩=false:=fun q=>aTq hR q;refine ⟨w.heap.size,0,rfl,⟨aRi _,h7,⟨xs[i].name,?_⟩,fz _⟩,⟨aRi _,h7,⟨xs[i].root,?_⟩,fz _⟩⟩
    ·rw [h0 _ (by omega),e0]
    ·rw [aTa,h0 _ (by omega),e1]
theorem yP (lo hi:Nat) (v:Value) (p:Prg) (w:World) (hv:p.R lo hi w v) (hh:hi<=w.heap.size) (hsz:p.small) :
  Calls aRn 79 #[v] w fun e w'=>∃v',e = .returned v'/\p.B w.heap.size w'.heap.size w' v'/\Ext w w':=by
 obtain ⟨iu,lu,rfl,q3,q4⟩:=hv;have HI:=hid q3;have HL:=hid q4;clear q3 q4;obtain ⟨⟨z1,z1'⟩,z2⟩:=hsz;have HZ:=hid z1';clear z1';have x0:Ext w (((w.alloc (.cells #[iu,lu] 113)).alloc (.cells #[.slice none 0 0,.slice none 0 0] 119)).alloc (.cells #[.slice none 0 0,.slice none 0 0] 119)):=X_;have bA:=((Bx.made w #[iu,lu] 113).ext ((aRu _).alloc (.cells #[.slice none 0 0,.slice none 0 0] 119))).ext ((aRu _).alloc (.cells #[.slice none 0 0,.slice none 0 0] 119));have bB:=(Bx.madeAt (B:=w.heap.size+1) (w.alloc (.cells #[iu,lu] 113)) #[.slice none 0 0,.slice none 0 0] 119 (by simp)).ext ((aRu _).alloc (.cells #[.slice none 0 0,.slice none 0 0] 119));have bC:=Bx.madeAt (B:=w.heap.size+1+1) ((w.alloc (.cells #[iu,lu] 113)).alloc (.cells #[.slice none 0 0,.slice none 0 0] 119)) #[.slice none 0 0,.slice none 0 0] 119 (by simp);go_enter func79,ntmps79;go_wp2_with fail;refine (aC7 lo hi _ p.ns _ (HI.out.ext hh x0) (aRq hh x0.size) z1 HZ.out).mono ?_;rintro e w1 ⟨rfl,hR,h5,x1⟩;simp only [aRj] at hR h5;have h4:=bA.ext x1;have h9:=bB.ext x1;have h0:=bC.ext x1;have x5:=x1.size;simp only [aRj] at x5;have h8:=hid (x0.trans x1);have h7:=hid hR;clear bA bB bC x0 x1 hR;have y:=h4.lt;obtain ⟨y0,y1⟩:=h4.q2;have q:=h0.lt;obtain ⟨q0,q1⟩:=h0.q2;have q6:=h0.frozen 0;have q7:=h0.frozen 1;have x3:=hid (h9.other (p:=⟨w.heap.size+1+1,0,none⟩) (by simp) (.slice (some ⟨w.heap.size+1+1+1,0,none⟩) p.ns.length p.ns.length));have x4:=hid (h0.set 0 (.slice (some ⟨w.heap.size+1+1+1,0,none⟩) p.ns.length p.ns.length));have X2:=hid (h8.out.setCell (p:=⟨w.heap.size+1+1,0,none⟩) (by simp;omega) (.slice (some ⟨w.heap.size+1+1+1,0,none⟩) p.ns.length p.ns.length));have q8:=hid (h7.out.same (w':=w1.setCell ⟨w.heap.size+1+1,0,none⟩ (.slice (some ⟨w.heap.size+1+1+1,0,none⟩) p.ns.length p.ns.length)) (fun k h1 _=>aRt _ _ _ _ (by simp;omega)));clear h4 h9 h0 h8 h7;go_wp2_with fail;refine (aFa lo hi _ p.gs _ (HL.out.ext hh X2.out) (by simp;omega) z2).mono ?_;rintro e w2 ⟨rfl,hO,h6,x2⟩;have h2:=x3.out.ext x2;have h3:=(x4.out.ext x2).same (cs':=#[.slice (some ⟨w.heap.size+1+1+1,0,none⟩) p.ns.length p.ns.length,.slice none 0 0]) rfl;have q5:=x2.size;simp only [aS6] at q5 hO h6;have X3:=hid (X2.out.trans x2);have q9:=hid (q8.out.ext (by simp) x2);have HO:=hid hO;clear y y0 y1 q q0 q1 q6 q7 x2 hO;have q:=h3.lt;obtain ⟨q0,q1⟩:=h3.q2;have q6:=h3.frozen 0;have q7:=h3.frozen 1;have d:=h2.lt;obtain ⟨d0,d1⟩:=h2.q2;have x6:=h2.frozen 0;have x7:=h2.frozen 1;clear h2 h3;go_wp2;refine bodyPost_ret (v:=.agg #[.slice (some ⟨w.heap.size+1+1+1,0,none⟩) p.ns.length p.ns.length,.slice (some ⟨w1.heap.size,0,none⟩) p.gs.length p.gs.length]) (by simp [results,results79,go_sem, *]) rfl ⟨_,rfl,⟨_,_,rfl,?_,?_⟩,?_⟩
 ·have h:=q9.out
  simp only [aS6];refine pY.wide ?_ (Nat.le_add_right _ 3) q5
  repeat (with_reducible refine pY.setLow ?_ (by simp <;> omega) _)
  exact h
 ·have h:=HO.out
  simp only [aS6];refine mP.wide ?_ (show w.heap.size<=w1.heap.size by omega) (aRi _)
  repeat (with_reducible refine mP.setLow ?_ (by simp <;> omega) _)
  exact h
 ·have hX:=X3.out
  exact S_
theorem Prg.B.form {p:Prg} (h:p.B lo hi w v):∃a1 c1 a2 c2,v = .agg #[.slice a1 p.ns.length c1,.slice a2 p.gs.length c2]/\aC6 lo hi w (.slice a1 p.ns.length c1) p.ns.length/\sU lo hi w (.slice a2 p.gs.length c2) p.gs.length:=by
 obtain ⟨iu,lu,rfl,⟨h1,h2⟩,h3,h4⟩:=h;obtain ⟨a1,c1,rfl,_⟩:=h1.open;obtain ⟨a2,c2,rfl,_⟩:=h3.open;exact ⟨a1,c1,a2,c2,rfl,h2,h4⟩
def prC (us vs:Nat->Value) (i:Nat):Value:=if i % 2=0 then us (i / 2) else vs (i / 2)
def prZ (_:Nat):Value:=.slice none 0 0
theorem aHe (us vs:Nat->Value) (k:Nat):prC us vs (k*2)=us k/\prC us vs (k*2+1)=vs k:=by
 refine ⟨?_,?_⟩
 ·unfold prC
  rw [if_pos (by omega),show k*2 / 2=k by omega]
 ·unfold prC
  rw [if_neg (by omega),show (k*2+1) / 2=k by omega]
theorem aNy {us vs:Nat->Value}:∀i,i<k*2->prC us vs i=prC (fun j=>if j=k then u else us j) (fun j=>if j=k then v else vs j) i:=by
 intro i hi;unfold prC;simp only [if_neg (show ¬i / 2=k by omega)]
theorem aNz:(Tryz.prog.info? 119).map (fun i=>(i.zero,i.size,i.bytes))=some (some (.agg #[.slice none 0 0,.slice none 0 0]),2,48):=by kernel_rfl
theorem aN0 (n:Nat):∀i,i<n->(madeCells #[.slice none 0 0,.slice none 0 0] n)[i]?=some (prZ i):=by
 intro i hi;unfold prZ;have:i % 2<2:=aT4 _ (by decide)
 rcases (show i % 2=0\/i % 2=1 by omega) with e|e <;> simp [madeCells,hi,e]
theorem uY.same (h:uY lo hi w v n) (s:aM lo hi w w'):uY lo hi w' v n:=by
 obtain ⟨a,cap,h1,h2,h3,h4⟩:=h;refine ⟨a,cap,h1,h2,h3,fun i hi=>?_⟩;obtain ⟨b,h0,a1,m1,c1,a2,m2,c2,e,l1,l2,k1,k2,z1,z2,k3,k4⟩:=h4 i hi;exact ⟨b,h0,a1,m1,c1,a2,m2,c2,e,l1,l2,(s.cell l1 l2).trans k1,(s.cell l1 l2).trans k2,z1,z2,k3.same s,k4.same s⟩
theorem uY.wide (h:uY lo hi w v n) (h1:lo'<=lo) (h2:hi<=hi'):uY lo' hi' w v n:=by
 obtain ⟨a,cap,g1,g2,g3,h4⟩:=h;refine ⟨a,cap,g1,g2,g3,fun i hi=>?_⟩;obtain ⟨b,h0,a1,m1,c1,a2,m2,c2,e,l1,l2,k1,k2,z1,z2,k3,k4⟩:=h4 i hi;exact ⟨b,h0,a1,m1,c1,a2,m2,c2,e,by omega,by omega,k1,k2,z1,z2,k3.wide h1 h2,k4.wide h1 h2⟩
theorem gU.wide {ps:List Prg} (h:gU lo hi w v ps) (h1:lo'<=lo) (h2:hi<=hi'):gU lo' hi' w v ps:=by
 obtain ⟨a,cap,g1,g2,g3,h4⟩:=h;refine ⟨a,cap,g1,g2,g3,fun k p hk=>?_⟩;obtain ⟨b,h0,u1,u2,e1,e2,e3,e4,e5,iu,lu,e6,e7,e8⟩:=h4 k p hk;exact ⟨b,h0,u1,u2,e1,by omega,by omega,e4,e5,iu,lu,e6,e7.wide h1 h2,e8.wide h1 h2⟩
theorem yQ (lo hi:Nat) (u:Value) (ps:List Prg) (w:World) (hu:gU lo hi w u ps) (hh:hi<=w.heap.size) (hsz:ps.length<=1048576) (hsm:∀p∈ps,p.small) :
  Calls aRn 38 #[u] w fun e w'=>e = .returned (.slice (some ⟨w.heap.size,0,none⟩) ps.length ps.length)/\(gU w.heap.size w'.heap.size w' (.slice (some ⟨w.heap.size,0,none⟩) ps.length ps.length) ps/\uY w.heap.size w'.heap.size w' (.slice (some ⟨w.heap.size,0,none⟩) ps.length ps.length) ps.length)/\w.heap.size<w'.heap.size/\Ext w w':=by
 obtain ⟨i0,q4,q5,q6,q7⟩:=info_parts aNz;obtain ⟨a,cap,rfl,HU⟩:=hu.open;clear hu;have x4:=HU.cap;have x8:=HU.le;have HS:=hid hsm;have x2:=hid HU;clear hsm;go_enter func38,ntmps38;go_wp2_with (at_make;refine wpList_make_full _ rfl _ _ 37 rfl w.heap.size 119 i0 _ 2 underlying37 q4 q5 q6 _ _ _ _ ps.length rfl rfl rfl rfl (by rw [q7];omega) (by unfold maxLen;omega) (aRi _) ?_);intro w1 h9 h6;have hx:Ext w w1:=(aRu w).grown h6 (fun k h=>by cases h);have h3:=hid (show w1.rowIs w.heap.size 119 (ps.length*2) (fC (prC (fun _=>.slice none 0 0) (fun _=>.slice none 0 0)) prZ 0) from aTv (lM (aN0 _) h9) (fun i _=>by unfold fC;simp));clear h9 h6 q4 q5 q6 q7 HU;go_wp2
 go_loopw [4] (fun i wr=>∃(k:Nat) (us vs:Nat->Value),k<=ps.length/\i = .int .i64 k/\Ext w wr/\wr.rowIs w.heap.size 119 (ps.length*2) (fC (prC us vs) prZ (k*2))/\∀j p,j<k->ps[j]?=some p->p.B (w.heap.size+1) wr.heap.size wr (.agg #[us j,vs j])) (fun i _=>ps.length - (intOf i).toNat)
 case atStart=>exact ⟨0,_,_,by omega,rfl,hx,by simpa using h3.out,fun j x hj=>by omega⟩
 case round=>
  clear hx h3;obtain ⟨k,us,vs,hk,rfl,hx,h3,h5⟩:=hrel
  by_cases h4:k<ps.length
  ·obtain ⟨b,x9,e1,d1,e2,d2,rfl,x7,x6,x0,x1,hR⟩:=x2.at h4 hx hh
   have h8:ps[k]?=some ps[k]:=aRs h4;have x5:=fA (k:=2) (j:=1) h4 (by decide);have HX:=hid hx;have HR:=hid h3;have HP:=hid hR;have HA:=hid h5;have HG:=hid h8;have zx:=hx.size;have zr:=aT5 h3;clear h8 hx h3 h5 hR;go_wp2_with fail;refine (yP lo hi _ ps[k] _ HP (by omega) (HS _ (aR2 h4))).mono ?_;rintro e w2 ⟨v2,rfl,hN,h2⟩;obtain ⟨a1,c1,a2,c2,rfl,_⟩:=hN.form;have hR:w2.rowIs w.heap.size 119 (ps.length*2) (fC (prC us vs) prZ (k*2)):=aU9 HR (h2.block zr);have hX:=HX.trans h2;have zz:=h2.size;have q1:=hid (aHe (fun j=>if j=k then .slice a1 (ps[k]'h4).ns.length c1 else us j) (fun j=>if j=k then .slice a2 (ps[k]'h4).gs.length c2 else vs j) k);have d0:=aTc hR (i:=k*2) (by omega);have g0:=aTq hR (k*2);have q0:=aTc hR (i:=k*2+1) (by omega);have g1:=aTq hR (k*2+1);unfold fC at d0 q0;rw [if_neg (by omega)] at d0 q0;unfold prZ at d0 q0;have x3:=hid hX
   have q3:w2.rowIs w.heap.size 119 (ps.length*2) (fC (prC (fun j=>if j=k then .slice a1 (ps[k]'h4).ns.length c1 else us j) (fun j=>if j=k then .slice a2 (ps[k]'h4).gs.length c2 else vs j)) prZ (k*2)):=aTv hR (fun i _=>by
    unfold fC
    by_cases hi:i<k*2
    ·rw [if_pos hi,if_pos hi,aNy (k:=k) i hi]
    ·rw [if_neg hi,if_neg hi])
   have q9:=hid q3;have HN:=hid hN;have q8:=hid (show ∀j p,j<k->ps[j]?=some p->p.B (w.heap.size+1) w2.heap.size w2 (.agg #[us j,vs j]) from fun j p hj h7=>((HA j p hj h7).same (h2.same (aRi _))).wide (aRi _) zz);clear HX HR h2 hX hR q3 x0 x1 hN HA;go_wp2;go_roundw
   case rel=>
    refine ⟨k+1,fun j=>if j=k then .slice a1 (ps[k]'h4).ns.length c1 else us j,fun j=>if j=k then .slice a2 (ps[k]'h4).gs.length c2 else vs j,by omega,by go_num,?_,?_,?_⟩
    ·have hX:=x3.out
     exact S_
    ·rw [aT1,aT2]
     obtain ⟨e0,e1⟩:=q1.out;refine fS (fS q9 rfl ?_) rfl ?_
     ·rw [e0];simp
     ·rw [e1];simp
    ·intro j p hj h7
     simp only [aS6]
     have hs:∀W:World,∀u1 u2:Value,aM (w.heap.size+1) W.heap.size W ((W.setCell ⟨w.heap.size,k*2,none⟩ u1).setCell ⟨w.heap.size,k*2+1,none⟩ u2):=fun W u1 u2 q h1 _=>by
      rw [aRt _ _ _ _ (by simp;omega),aRt _ _ _ _ (by simp;omega)]
     by_cases e:j=k
     ·subst e
      rw [HG] at h7;injection h7 with h7;subst h7;simp only [if_pos rfl];exact (HN.wide (by omega) (aRi _)).same (hs _ _ _)
     ·simp only [if_neg e]
      exact (q8 j p (by omega) h7).same (hs _ _ _)
   case measure=>simp [intOf];omega
  ·obtain rfl:k=ps.length:=by omega
   have HR:=hid h3;have HA:=hid h5;have HX:=hid hx;clear h3 h5 hx;go_wp2;go_ret;have hR:=HR.out;have q2:=aT5 hR
   have h0:∀q,q<ps.length*2->wr.cell? ⟨w.heap.size,0+q,none⟩=some (prC us vs q):=fun q hq=>by
    rw [aSf,aTc hR hq];unfold fC;rw [if_pos hq]
   refine ⟨rfl,⟨⟨_,_,rfl,aRi _,by unfold maxLen;omega,fun i p hp=>?_⟩,⟨_,_,rfl,aRi _,by omega,fun i hi=>?_⟩⟩,q2,HX⟩
   ·obtain ⟨e0,e1⟩:=aHe us vs i
    have hi:=(aRk.1 hp).1;have hl:=fA (k:=2) (j:=1) hi (by decide);refine ⟨w.heap.size,0,us i,vs i,rfl,aRi _,q2,?_,?_,((HA i p hi hp).wide (by omega) (aRi _)).R⟩
    ·rw [h0 _ (by omega),e0]
    ·rw [aTa,h0 _ (by omega),e1]
   ·have hp:ps[i]?=some ps[i]:=aRs hi
    obtain ⟨e0,e1⟩:=aHe us vs i;have hl:=fA (k:=2) (j:=1) hi (by decide);have hB:=(HA i _ hi hp).wide (lo':=w.heap.size) (hi':=wr.heap.size) (by omega) (aRi _);obtain ⟨a1,c1,a2,c2,e,hN,hA⟩:=hB.form;simp only [Value.agg.injEq,Array.mk.injEq,List.cons.injEq,and_true] at e;have hs:=HS.out _ (aR2 hi);refine ⟨w.heap.size,0,a1,_,c1,a2,_,c2,rfl,aRi _,q2,?_,?_,hs.1.1,hs.2,hN,hA⟩
    ·rw [h0 _ (by omega),e0,e.1]
    ·rw [aTa,h0 _ (by omega),e1,e.2]
theorem vF (lo hi lo' hi':Nat) (u v:Value) (ps:List Prg) (w:World) (hu:gU lo hi w u ps) (hv:gU lo' hi' w v ps) (hh:hi<=w.heap.size) (hh':hi'<=w.heap.size) :
  R_ 43 #[u,v] w (.bool true):=by
 obtain ⟨a,cap,rfl,HU⟩:=hu.open;obtain ⟨a',h5,rfl,HV⟩:=hv.open;clear hu hv;have h1:=HU.le;have h2:=HU.cap;have q3:=HV.le;have q4:=HV.cap;go_enter func43,ntmps43;go_wp2
 go_loopw [5] (fun i wr=>∃k:Nat,k<=ps.length/\i = .int .i64 k/\Ext w wr) (fun i _=>ps.length - (intOf i).toNat)
 case atStart=>exact ⟨0,by omega,rfl,X_⟩
 case round=>
  obtain ⟨k,hk,rfl,hx⟩:=hrel
  by_cases h0:k<ps.length
  ·obtain ⟨b,q7,e1,d1,e2,d2,rfl,q6,q5,x0,x1,hR⟩:=HU.at h0 hx hh
   obtain ⟨b',h8,q1,h9,q2,q0,rfl,h7,h6,q8,q9,h3⟩:=HV.at h0 hx hh';have HX:=hid hx;have HI:=hid hR;have h4:=hid h3;have zx:=hx.size;clear hx hR h3;go_wp2_with fail;refine aA [([0,1,2,3,4,5,6,7],8),([],9)] 99 wr.heap.size (by kernel_rfl) (by kernel_rfl) ?_;refine st_ fun K hK=>?_;go_wp2_with fail;refine r_ (xN lo hi lo' hi' _ _ (ps[k]'h0) _ (HI.ext (by omega) X_) (by simp;omega) (h4.ext (by omega) X_) (by simp;omega)) fun w1 h1=>?_;have y1:Ext wr w1:=aRo X_ h1;go_wp2_with fail;refine k_ hK ?_;clear hK K;refine st_ fun K hK=>?_;go_wp2_with fail;refine k_ hK ?_;clear hK K;refine aC ?_;have hX:=HX.trans y1;clear h1 y1 HX;go_wp2;go_roundw
   case rel=>exact ⟨k+1,by omega,by go_num,hX⟩
   case measure=>simp [intOf];omega
  ·go_wp2
   go_ret;exact ⟨rfl,hx⟩
theorem yR (lo hi:Nat) (u:Value) (ps:List Prg) (left:Int) (w:World) (hu:gU lo hi w u ps) (hh:hi<=w.heap.size) (hb:∀p∈ps,p.bd) (h1:0<=left) (h2:left<=1048576) :
  Calls aRn 33 #[u,left] w fun e w'=>(∃r,e = .returned (.int .i64 r)/\(r = -1\/(0<=r/\r<=left/\ps.length<=1048576/\∀p∈ps,p.small)))/\Ext w w':=by
 obtain ⟨a,cap,rfl,HU⟩:=hu.open;have h3:=HU.le;have h4:=HU.cap;have HB:=hid hb;clear hu hb
 by_cases hl:left - (ps.length:Int)<0
 ·go_enter func33,ntmps33
  go_wp2;go_ret;exact ⟨⟨_,rfl,.inl rfl⟩,S_⟩
 ·go_enter func33,ntmps33
  go_wp2
  go_loopw [1,5] (fun q i wr=>∃(k:Nat) (r:Int),k<=ps.length/\i = .int .i64 k/\q = .int .i64 r/\0<=r/\r<=left/\(∀j x,j<k->ps[j]?=some x->x.small)/\Ext w wr) (fun _ i _=>ps.length - (intOf i).toNat)
  case atStart=>exact ⟨0,_,by omega,rfl,rfl,by omega,by omega,fun j x hj=>by omega,S_⟩
  case round=>
   obtain ⟨k,r,hk,rfl,rfl,h7,h9,h0,hx⟩:=hrel
   by_cases h6:k<ps.length
   ·obtain ⟨b,q2,e1,d1,e2,d2,rfl,q1,q0,x0,x1,hR⟩:=HU.at h6 hx hh
    have h5:ps[k]?=some ps[k]:=aRs h6;have hz:=hid (HB _ (aR2 h6));have HX:=hid hx;have HI:=hid hR;have HA:=hid h0;have HG:=hid h5;have zx:=hx.size;clear h5 hx hR h0;go_wp2_with fail;refine (zT lo hi _ (ps[k]'h6) r _ HI (by omega) hz.out h7 (by omega)).mono ?_;rintro e w1 ⟨⟨r2,rfl,hr3⟩,x3⟩;have X3:=HX.trans x3
    rcases hr3 with rfl|⟨hr3,hr4,hr5⟩
    ·go_wp2
     go_ret;exact ⟨⟨_,rfl,.inl rfl⟩,X3⟩
    ·have hn : ¬r2<0:=by omega
     have h8:=hid hr5;clear hr5;go_wp2;go_roundw
     case rel=>
      refine ⟨k+1,r2,by omega,by go_num,rfl,by omega,by omega,fun j x hj hx=>?_,X3⟩
      by_cases e:j=k
      ·subst e
       rw [HG] at hx;injection hx with hx;subst hx;exact h8
      ·exact HA j x (by omega) hx
     case measure=>simp [intOf];omega
   ·go_wp2
    go_ret;exact ⟨⟨_,rfl,.inr ⟨h7,h9,by omega,fun p hp=>by obtain ⟨i,hi,rfl⟩:=aSj hp;exact h0 i _ (by omega) (aRs hi)⟩⟩,hx⟩
theorem Ext.setC {w0:World} (hb:w0.heap.size<=b):∀(vs:List Value) (o:Nat) {w:World},Ext w0 w->Ext w0 (w.setCells b o vs)
 | [],_,_,h=>h
 | _::r,_,_,h=>Ext.setC hb r _ (h.setCell hb _)
theorem Blk.setC {cs:List Value} (ne:g≠b):∀(vs:List Value) (o:Nat) {w:World},Blk w g t cs->Blk (w.setCells b o vs) g t cs
 | [],_,_,h=>h
 | v::r,_,_,h=>Blk.setC ne r _ (h.other (a:=⟨b,_,none⟩) ne v)
theorem bK.stepN:∀(xs:List Int) (c:Nat) (w:World),bK w b t n (lU f c)->(∀j x,xs[j]?=some x->x=f (c+j))->bK (w.setCells b c (xs.map (aUp .i64))) b t n (lU f (c+xs.length))
 | [],c,w,h,_=>h
 | x::r,c,w,h,hx=>by
  have h0:=h.step (i:=c) (x:=x) rfl (hx 0 x rfl);have h1:=bK.stepN r (c+1) _ h0 (fun j y hj=>by rw [hx (j+1) y hj];congr 1;omega);rw [aSw,show c+(r.length+1)=c+1+r.length by omega];exact h1
theorem bK.there (h:bK w b t n f) {m:Nat} (hm:o+m<=n):w.there b o m:=fun j hj=>
 ⟨by rw [h.cell (i:=o+j) (by omega)];rfl,h.frozen _⟩
theorem bK.rangeL (h:bK w b t n f) (xs:List Int) (hm:o+xs.length<=n) (hx:∀j x,xs[j]?=some x->x=f (o+j)):w.rangeAt b o (xs.map (aUp .i64)):=fun j v hj=>by
 rw [aS7] at hj
 cases hx':xs[j]? with
 | none=>rw [hx'] at hj;cases hj
 | some x=>
  rw [hx'] at hj;have hl:=(aRk.1 hx').1;have e:=hx j x hx';rw [h.cell (i:=o+j) (by omega),<-e];exact hj
theorem aC8 {i:Nat} (h:i<26):i=0\/i=1\/i=2\/i=3\/i=4\/i=5\/i=6\/i=7\/i=8\/i=9\/i=10\/i=11\/i=12\/i=13\/i=14\/i=15\/i=16\/i=17\/i=18\/i=19\/i=20\/i=21\/i=22\/i=23\/i=24\/i=25:=by omega
theorem aHf (hb:w.heap.size=b):bK (w.alloc (.cells #[(),(),(),(),(),(),(),(),(),(),(),(),(),(),(),(),(),(),(),(),(),(),(),(),(),()] t)) b t 26 (fun _=>0):=
 hb▸World.rowIs_alloc _ _ _ _ fun i hi=>by rcases aC8 hi with h|h|h|h|h|h|h|h|h|h|h|h|h|h|h|h|h|h|h|h|h|h|h|h|h|h <;> subst h <;> rfl
theorem aOl (f:Nat->Int):∀j x,([f 0,f 1,f 2,f 3,f 4,f 5,f 6,f 7,f 8,f 9,f 10,f 11,f 12,f 13,f 14,f 15,f 16,f 17,f 18,f 19,f 20,f 21,f 22,f 23,f 24,f 25]:List Int)[j]?=some x->x=f j:=by
 intro j x h;have hl:=(aRk.1 h).1
 rcases aC8 hl with e|e|e|e|e|e|e|e|e|e|e|e|e|e|e|e|e|e|e|e|e|e|e|e|e|e <;> subst e <;> exact (aTh h).symm
theorem aIk (f:Nat->Int) (c:Nat):∀j x,([f (c+0),f (c+1),f (c+2),f (c+3),f (c+4),f (c+5),f (c+6),f (c+7),f (c+8),f (c+9),f (c+10),f (c+11)]:List Int)[j]?=some x->x=f (c+j):=by
 intro j x h;have hl:=(aRk.1 h).1
 rcases aK2 hl with e|e|e|e|e|e|e|e|e|e|e|e <;> subst e <;> exact (aTh h).symm
theorem aFb:(Tryz.prog.info? 125).map (·.size)=some 12:=by kernel_rfl
theorem aAl (f:Nat->Int) (w:World):R_ 80 #[.agg #[(f 0),(f 1),(f 2),(f 3),(f 4),(f 5),(f 6),(f 7),(f 8),(f 9),(f 10),(f 11),(f 12),(f 13),(f 14),(f 15),(f 16),(f 17),(f 18),(f 19),(f 20),(f 21),(f 22),(f 23),(f 24),(f 25)]] w (.agg #[(f 0),(f 1),(f 2),(f 3),(f 4),(f 5),(f 6),(f 7),(f 8),(f 9),(f 10),(f 11),(f 12),(f 13),(f 14),(f 15),(f 16),(f 17),(f 18),(f 19),(f 20),(f 21),(f 22),(f 23),(f 24),(f 25)]):=by
 have b0:=(aRr w 134 [(f 0),(f 1),(f 2),(f 3),(f 4),(f 5),(f 6),(f 7),(f 8),(f 9),(f 10),(f 11),(f 12),(f 13),(f 14),(f 15),(f 16),(f 17),(f 18),(f 19),(f 20),(f 21),(f 22),(f 23),(f 24),(f 25)]).ext (show Ext (w.alloc (.cells #[(f 0),(f 1),(f 2),(f 3),(f 4),(f 5),(f 6),(f 7),(f 8),(f 9),(f 10),(f 11),(f 12),(f 13),(f 14),(f 15),(f 16),(f 17),(f 18),(f 19),(f 20),(f 21),(f 22),(f 23),(f 24),(f 25)] 134)) (((w.alloc (.cells #[(f 0),(f 1),(f 2),(f 3),(f 4),(f 5),(f 6),(f 7),(f 8),(f 9),(f 10),(f 11),(f 12),(f 13),(f 14),(f 15),(f 16),(f 17),(f 18),(f 19),(f 20),(f 21),(f 22),(f 23),(f 24),(f 25)] 134)).alloc (.cells #[(),(),(),(),(),(),(),(),(),(),(),(),(),(),(),(),(),(),(),(),(),(),(),(),(),()] 127)).alloc (.cells #[(),(),(),(),(),(),(),(),(),(),(),(),(),(),(),(),(),(),(),(),(),(),(),(),(),()] 127)) from X_);have r0:=(aRr (w.alloc (.cells #[(f 0),(f 1),(f 2),(f 3),(f 4),(f 5),(f 6),(f 7),(f 8),(f 9),(f 10),(f 11),(f 12),(f 13),(f 14),(f 15),(f 16),(f 17),(f 18),(f 19),(f 20),(f 21),(f 22),(f 23),(f 24),(f 25)] 134)) 127 [(),(),(),(),(),(),(),(),(),(),(),(),(),(),(),(),(),(),(),(),(),(),(),(),(),()]).ext (show Ext ((w.alloc (.cells #[(f 0),(f 1),(f 2),(f 3),(f 4),(f 5),(f 6),(f 7),(f 8),(f 9),(f 10),(f 11),(f 12),(f 13),(f 14),(f 15),(f 16),(f 17),(f 18),(f 19),(f 20),(f 21),(f 22),(f 23),(f 24),(f 25)] 134)).alloc (.cells #[(),(),(),(),(),(),(),(),(),(),(),(),(),(),(),(),(),(),(),(),(),(),(),(),(),()] 127)) (((w.alloc (.cells #[(f 0),(f 1),(f 2),(f 3),(f 4),(f 5),(f 6),(f 7),(f 8),(f 9),(f 10),(f 11),(f 12),(f 13),(f 14),(f 15),(f 16),(f 17),(f 18),(f 19),(f 20),(f 21),(f 22),(f 23),(f 24),(f 25)] 134)).alloc (.cells #[(),(),(),(),(),(),(),(),(),(),(),(),(),(),(),(),(),(),(),(),(),(),(),(),(),()] 127)).alloc (.cells #[(),(),(),(),(),(),(),(),(),(),(),(),(),(),(),(),(),(),(),(),(),(),(),(),(),()] 127)) from X_);have t0:=bK.zero (f:=f) (aHf (w:=((w.alloc (.cells #[(f 0),(f 1),(f 2),(f 3),(f 4),(f 5),(f 6),(f 7),(f 8),(f 9),(f 10),(f 11),(f 12),(f 13),(f 14),(f 15),(f 16),(f 17),(f 18),(f 19),(f 20),(f 21),(f 22),(f 23),(f 24),(f 25)] 134)).alloc (.cells #[(),(),(),(),(),(),(),(),(),(),(),(),(),(),(),(),(),(),(),(),(),(),(),(),(),()] 127))) (t:=127) rfl);simp only [aRj] at r0 t0;have x0:Ext w (((w.alloc (.cells #[(f 0),(f 1),(f 2),(f 3),(f 4),(f 5),(f 6),(f 7),(f 8),(f 9),(f 10),(f 11),(f 12),(f 13),(f 14),(f 15),(f 16),(f 17),(f 18),(f 19),(f 20),(f 21),(f 22),(f 23),(f 24),(f 25)] 134)).alloc (.cells #[(),(),(),(),(),(),(),(),(),(),(),(),(),(),(),(),(),(),(),(),(),(),(),(),(),()] 127)).alloc (.cells #[(),(),(),(),(),(),(),(),(),(),(),(),(),(),(),(),(),(),(),(),(),(),(),(),(),()] 127)):=X_;have B0:=hid b0;have R0:=hid r0;have T0:=hid t0;have X0:=hid x0;clear b0 r0 t0 x0;go_enter func80,ntmps80;go_upto_region 2 with fail
 obtain ⟨WA,h2⟩:∃WA,(((w.alloc (.cells #[(f 0),(f 1),(f 2),(f 3),(f 4),(f 5),(f 6),(f 7),(f 8),(f 9),(f 10),(f 11),(f 12),(f 13),(f 14),(f 15),(f 16),(f 17),(f 18),(f 19),(f 20),(f 21),(f 22),(f 23),(f 24),(f 25)] 134)).alloc (.cells #[(),(),(),(),(),(),(),(),(),(),(),(),(),(),(),(),(),(),(),(),(),(),(),(),(),()] 127)).alloc (.cells #[(),(),(),(),(),(),(),(),(),(),(),(),(),(),(),(),(),(),(),(),(),(),(),(),(),()] 127))=WA:=⟨_,rfl⟩
 rw [h2] at B0 R0 T0 X0 ⊢;clear h2;obtain ⟨c0,c1,c2,c3,c4,c5,c6,c7,c8,c9,h5,h6⟩:=B0.q12;have cl:=B0.lt;go_wp2_with fail;refine r_ (uO (f 0) (f 1) (f 2) (f 3) (f 4) (f 5) (f 6) (f 7) (f 8) (f 9) (f 10) (f 11) _) fun w1 x1=>?_;clear c0 c1 c2 c3 c4 c5 c6 c7 c8 c9 h5 h6 cl;have B1:=hid (B0.ext x1);have R1:=hid (R0.ext x1);have T1:=hid (T0.ext x1);have X1:=hid (X0.trans x1);clear B0 R0 T0 X0 x1;go_upto_region 3 with (show wpList _ _ _ [_] _ _;refine wpList_store_mid rfl _ _ _ rfl (w.heap.size+1+1) 0 f rfl rfl (T1.there (m:=12) (by decide)) aFb (by kernel_rfl) ?_);have B2:=hid (B1.setC (b:=w.heap.size+1+1) (by omega) f 0);have R2:=hid (R1.setC (b:=w.heap.size+1+1) (by omega) f 0);have T2:=hid (bK.stepN [f 0,f 1,f 2,f 3,f 4,f 5,f 6,f 7,f 8,f 9,f 10,f 11] 0 _ T1 (by first|exact aIk f 0|(intro j x h;rw [aSf];have:=aIk f 0 j x;simpa using this h)));have X2:=hid (X1.setC (b:=w.heap.size+1+1) (by omega) f 0);simp only [aTr,aWv,aSw,aTu,aSf,aUl] at T2
 obtain ⟨z0,h0⟩:∃W,w1.setCells (w.heap.size+1+1) 0 f=W:=⟨_,rfl⟩
 rw [h0] at B2 R2 T2 X2
 show Code.wp _ _ _ _ (w1.setCells (w.heap.size+1+1) 0 f)
 rw [h0];clear h0 B1 R1 T1 X1;have h7:=B2.cell 12 rfl;have h8:=B2.cell 13 rfl;have h9:=B2.cell 14 rfl;have q0:=B2.cell 15 rfl;have q1:=B2.cell 16 rfl;have q2:=B2.cell 17 rfl;have q3:=B2.cell 18 rfl;have q4:=B2.cell 19 rfl;have q5:=B2.cell 20 rfl;have q6:=B2.cell 21 rfl;have q7:=B2.cell 22 rfl;have q8:=B2.cell 23 rfl;have cl:=B2.lt;go_wp2_with fail;refine r_ (uO (f 12) (f 13) (f 14) (f 15) (f 16) (f 17) (f 18) (f 19) (f 20) (f 21) (f 22) (f 23) _) fun w2 x2=>?_;clear h7 h8 h9 q0 q1 q2 q3 q4 q5 q6 q7 q8 cl;have B3:=hid (B2.ext x2);have R3:=hid (R2.ext x2);have T3:=hid (T2.ext x2);have X3:=hid (X2.trans x2);clear B2 R2 T2 X2 x2;go_upto_region 4 with (show wpList _ _ _ [_] _ _;refine wpList_store_mid rfl _ _ _ rfl (w.heap.size+1+1) 12 #[(f 12),(f 13),(f 14),(f 15),(f 16),(f 17),(f 18),(f 19),(f 20),(f 21),(f 22),(f 23)] rfl rfl (T3.there (m:=12) (by decide)) aFb (by kernel_rfl) ?_);have B4:=hid (B3.setC (b:=w.heap.size+1+1) (by omega) [(f 12),(f 13),(f 14),(f 15),(f 16),(f 17),(f 18),(f 19),(f 20),(f 21),(f 22),(f 23)] 12);have R4:=hid (R3.setC (b:=w.heap.size+1+1) (by omega) [(f 12),(f 13),(f 14),(f 15),(f 16),(f 17),(f 18),(f 19),(f 20),(f 21),(f 22),(f 23)] 12);have T4:=hid (bK.stepN [f 12,f 13,f 14,f 15,f 16,f 17,f 18,f 19,f 20,f 21,f 22,f 23] 12 _ T3 (by first|exact aIk f 12|(intro j x h;rw [aSf];have:=aIk f 0 j x;simpa using this h)));have X4:=hid (X3.setC (b:=w.heap.size+1+1) (by omega) [(f 12),(f 13),(f 14),(f 15),(f 16),(f 17),(f 18),(f 19),(f 20),(f 21),(f 22),(f 23)] 12);simp only [aTr,aWv,aSw,aTu,aSf,aUl] at T4
 obtain ⟨h4,h1⟩:∃W,w2.setCells (w.heap.size+1+1) 12 [(f 12),(f 13),(f 14),(f 15),(f 16),(f 17),(f 18),(f 19),(f 20),(f 21),(f 22),(f 23)]=W:=⟨_,rfl⟩
 rw [h1] at B4 R4 T4 X4
 show Code.wp _ _ _ _ (w2.setCells (w.heap.size+1+1) 12 [(f 12),(f 13),(f 14),(f 15),(f 16),(f 17),(f 18),(f 19),(f 20),(f 21),(f 22),(f 23)])
 rw [h1];clear h1 B3 R3 T3 X3;have q9:=B4.cell 24 rfl;have x3:=B4.cell 25 rfl;have cl:=B4.lt;have x4:=T4.cell (i:=24) (by decide);have x5:=T4.cell (i:=25) (by decide);have x6:=T4.frozen 24;have x7:=T4.frozen 25;have tl:=T4.lt;have T5:=hid (bK.step (bK.step T4 rfl rfl) rfl rfl);have R5:=hid ((R4.other (a:=⟨w.heap.size+1+1,24,none⟩) (by simp) (.int .i64 (f 24))).other (a:=⟨w.heap.size+1+1,25,none⟩) (by simp) (.int .i64 (f 25)));have X5:=hid ((X4.setCell (p:=⟨w.heap.size+1+1,24,none⟩) (by simp;omega) (.int .i64 (f 24))).setCell (p:=⟨w.heap.size+1+1,25,none⟩) (by simp;omega) (.int .i64 (f 25)));clear B4 R4 X4;go_upto_region 6 with fail
 obtain ⟨WC,h3⟩:∃W,((h4.setCell ⟨w.heap.size+1+1,24,none⟩ (f 24)).setCell ⟨w.heap.size+1+1,25,none⟩ (f 25))=W:=⟨_,rfl⟩
 rw [h3] at T5 R5 X5 ⊢;clear h3 q9 x3 cl x4 x5 x6 x7 tl T4;have x9:=(bK.full T5).rangeL (o:=0) [f 0,f 1,f 2,f 3,f 4,f 5,f 6,f 7,f 8,f 9,f 10,f 11,f 12,f 13,f 14,f 15,f 16,f 17,f 18,f 19,f 20,f 21,f 22,f 23,f 24,f 25] (by simp) (fun j x h=>by rw [aSf];exact aOl f j x h);have x8:WC.heap[w.heap.size+1]?=some (.cells #[(),(),(),(),(),(),(),(),(),(),(),(),(),(),(),(),(),(),(),(),(),(),(),(),(),()] 127 (0,0)):=R5;go_wp2_with (first|(show wpList _ _ _ [_,_] _ _;refine wpList_load_mid rfl _ _ rfl (w.heap.size+1+1) 0 rfl [(f 0),(f 1),(f 2),(f 3),(f 4),(f 5),(f 6),(f 7),(f 8),(f 9),(f 10),(f 11),(f 12),(f 13),(f 14),(f 15),(f 16),(f 17),(f 18),(f 19),(f 20),(f 21),(f 22),(f 23),(f 24),(f 25)] _ x9 underlying127 rfl iS ?_)|(show wpList _ _ _ [_] _ _;refine wpList_store_rowTo rfl _ _ _ rfl rfl (w.heap.size+1) #[(f 0),(f 1),(f 2),(f 3),(f 4),(f 5),(f 6),(f 7),(f 8),(f 9),(f 10),(f 11),(f 12),(f 13),(f 14),(f 15),(f 16),(f 17),(f 18),(f 19),(f 20),(f 21),(f 22),(f 23),(f 24),(f 25)] rfl rfl _ _ x8 iS rfl (by kernel_rfl) ?_));have bR:=R5.rowB [(f 0),(f 1),(f 2),(f 3),(f 4),(f 5),(f 6),(f 7),(f 8),(f 9),(f 10),(f 11),(f 12),(f 13),(f 14),(f 15),(f 16),(f 17),(f 18),(f 19),(f 20),(f 21),(f 22),(f 23),(f 24),(f 25)];have xR:=X5.setRowB (g:=w.heap.size+1) (by omega) #[(f 0),(f 1),(f 2),(f 3),(f 4),(f 5),(f 6),(f 7),(f 8),(f 9),(f 10),(f 11),(f 12),(f 13),(f 14),(f 15),(f 16),(f 17),(f 18),(f 19),(f 20),(f 21),(f 22),(f 23),(f 24),(f 25)];refine aC0 rfl rfl bR _ underlying127 rfl iS rfl ?_;exact ⟨rfl,xR⟩
theorem yS (f:Nat->Int) (w:World):R_ 84 #[.agg #[(f 0),(f 1),(f 2),(f 3),(f 4),(f 5),(f 6),(f 7),(f 8),(f 9),(f 10),(f 11),(f 12),(f 13),(f 14),(f 15),(f 16),(f 17),(f 18),(f 19),(f 20),(f 21),(f 22),(f 23),(f 24),(f 25)],.agg #[(f 0),(f 1),(f 2),(f 3),(f 4),(f 5),(f 6),(f 7),(f 8),(f 9),(f 10),(f 11),(f 12),(f 13),(f 14),(f 15),(f 16),(f 17),(f 18),(f 19),(f 20),(f 21),(f 22),(f 23),(f 24),(f 25)]] w (.bool true):=by
 have b0:=(aRr w 127 [(f 0),(f 1),(f 2),(f 3),(f 4),(f 5),(f 6),(f 7),(f 8),(f 9),(f 10),(f 11),(f 12),(f 13),(f 14),(f 15),(f 16),(f 17),(f 18),(f 19),(f 20),(f 21),(f 22),(f 23),(f 24),(f 25)]).ext (show Ext (w.alloc (.cells #[(f 0),(f 1),(f 2),(f 3),(f 4),(f 5),(f 6),(f 7),(f 8),(f 9),(f 10),(f 11),(f 12),(f 13),(f 14),(f 15),(f 16),(f 17),(f 18),(f 19),(f 20),(f 21),(f 22),(f 23),(f 24),(f 25)] 127)) ((w.alloc (.cells #[(f 0),(f 1),(f 2),(f 3),(f 4),(f 5),(f 6),(f 7),(f 8),(f 9),(f 10),(f 11),(f 12),(f 13),(f 14),(f 15),(f 16),(f 17),(f 18),(f 19),(f 20),(f 21),(f 22),(f 23),(f 24),(f 25)] 127)).alloc (.cells #[(f 0),(f 1),(f 2),(f 3),(f 4),(f 5),(f 6),(f 7),(f 8),(f 9),(f 10),(f 11),(f 12),(f 13),(f 14),(f 15),(f 16),(f 17),(f 18),(f 19),(f 20),(f 21),(f 22),(f 23),(f 24),(f 25)] 127)) from X_);have r0:=aRr (w.alloc (.cells #[(f 0),(f 1),(f 2),(f 3),(f 4),(f 5),(f 6),(f 7),(f 8),(f 9),(f 10),(f 11),(f 12),(f 13),(f 14),(f 15),(f 16),(f 17),(f 18),(f 19),(f 20),(f 21),(f 22),(f 23),(f 24),(f 25)] 127)) 127 [(f 0),(f 1),(f 2),(f 3),(f 4),(f 5),(f 6),(f 7),(f 8),(f 9),(f 10),(f 11),(f 12),(f 13),(f 14),(f 15),(f 16),(f 17),(f 18),(f 19),(f 20),(f 21),(f 22),(f 23),(f 24),(f 25)];rw [aRj] at r0;have X0:=hid (show Ext w ((w.alloc (.cells #[(f 0),(f 1),(f 2),(f 3),(f 4),(f 5),(f 6),(f 7),(f 8),(f 9),(f 10),(f 11),(f 12),(f 13),(f 14),(f 15),(f 16),(f 17),(f 18),(f 19),(f 20),(f 21),(f 22),(f 23),(f 24),(f 25)] 127)).alloc (.cells #[(f 0),(f 1),(f 2),(f 3),(f 4),(f 5),(f 6),(f 7),(f 8),(f 9),(f 10),(f 11),(f 12),(f 13),(f 14),(f 15),(f 16),(f 17),(f 18),(f 19),(f 20),(f 21),(f 22),(f 23),(f 24),(f 25)] 127)) from X_);have B0:=hid b0;have R0:=hid r0;clear b0 r0;go_enter func84,ntmps84;go_upto_region 1 with fail
 obtain ⟨WA,h0⟩:∃WA,((w.alloc (.cells #[(f 0),(f 1),(f 2),(f 3),(f 4),(f 5),(f 6),(f 7),(f 8),(f 9),(f 10),(f 11),(f 12),(f 13),(f 14),(f 15),(f 16),(f 17),(f 18),(f 19),(f 20),(f 21),(f 22),(f 23),(f 24),(f 25)] 127)).alloc (.cells #[(f 0),(f 1),(f 2),(f 3),(f 4),(f 5),(f 6),(f 7),(f 8),(f 9),(f 10),(f 11),(f 12),(f 13),(f 14),(f 15),(f 16),(f 17),(f 18),(f 19),(f 20),(f 21),(f 22),(f 23),(f 24),(f 25)] 127))=WA:=⟨_,rfl⟩
 rw [h0] at B0 R0 X0 ⊢;clear h0;have c0:=B0.cell 0 rfl;have d0:=R0.cell 0 rfl;have c1:=B0.cell 1 rfl;have d1:=R0.cell 1 rfl;have c2:=B0.cell 2 rfl;have d2:=R0.cell 2 rfl;have c3:=B0.cell 3 rfl;have d3:=R0.cell 3 rfl;have c4:=B0.cell 4 rfl;have d4:=R0.cell 4 rfl;have c5:=B0.cell 5 rfl;have d5:=R0.cell 5 rfl;have c6:=B0.cell 6 rfl;have d6:=R0.cell 6 rfl;have c7:=B0.cell 7 rfl;have d7:=R0.cell 7 rfl;have c8:=B0.cell 8 rfl;have d8:=R0.cell 8 rfl;have c9:=B0.cell 9 rfl;have d9:=R0.cell 9 rfl;have h1:=B0.cell 10 rfl;have q5:=R0.cell 10 rfl;have h2:=B0.cell 11 rfl;have q6:=R0.cell 11 rfl;have cl:=B0.lt;have dl:=R0.lt;go_wp2_with fail;refine r_ (rZ (f 0) (f 1) (f 2) (f 3) (f 4) (f 5) (f 6) (f 7) (f 8) (f 9) (f 10) (f 11) _) fun w1 x1=>?_;have B1:=hid (B0.ext x1);have R1:=hid (R0.ext x1);have X1:=hid (X0.trans x1);clear B0 R0 X0 x1 cl dl c0 d0 c1 d1 c2 d2 c3 d3 c4 d4 c5 d5 c6 d6 c7 d7 c8 d8 c9 d9 h1 q5 h2 q6;have h3:=B1.cell 12 rfl;have q7:=R1.cell 12 rfl;have h4:=B1.cell 13 rfl;have q8:=R1.cell 13 rfl;have h5:=B1.cell 14 rfl;have q9:=R1.cell 14 rfl;have h6:=B1.cell 15 rfl;have x0:=R1.cell 15 rfl;have h7:=B1.cell 16 rfl;have x3:=R1.cell 16 rfl;have h8:=B1.cell 17 rfl;have x4:=R1.cell 17 rfl;have h9:=B1.cell 18 rfl;have x5:=R1.cell 18 rfl;have q0:=B1.cell 19 rfl;have x6:=R1.cell 19 rfl;have q1:=B1.cell 20 rfl;have x7:=R1.cell 20 rfl;have q2:=B1.cell 21 rfl;have x8:=R1.cell 21 rfl;have q3:=B1.cell 22 rfl;have x9:=R1.cell 22 rfl;have q4:=B1.cell 23 rfl;have z0:=R1.cell 23 rfl;have cl:=B1.lt;have dl:=R1.lt;go_wp2_with fail;refine r_ (rZ (f 12) (f 13) (f 14) (f 15) (f 16) (f 17) (f 18) (f 19) (f 20) (f 21) (f 22) (f 23) _) fun w2 x2=>?_;have B2:=hid (B1.ext x2);have R2:=hid (R1.ext x2);have X2:=hid (X1.trans x2);clear B1 R1 X1 x2 cl dl h3 q7 h4 q8 h5 q9 h6 x0 h7 x3 h8 x4 h9 x5 q0 x6 q1 x7 q2 x8 q3 x9 q4 z0;have z1:=B2.cell 24 rfl;have z2:=B2.cell 25 rfl;have z3:=R2.cell 24 rfl;have z4:=R2.cell 25 rfl;have cl:=B2.lt;have dl:=R2.lt;go_wp2;go_ret;exact ⟨rfl,X2⟩
theorem aJ7:(Tryz.prog.info? 127).map (fun i=>(i.zero,i.size,i.bytes))=some (some (.agg #[(),(),(),(),(),(),(),(),(),(),(),(),(),(),(),(),(),(),(),(),(),(),(),(),(),()]),26,208):=by kernel_rfl
theorem aJ8:(Tryz.prog.info? 134).map (fun i=>i.size)=some 26:=by kernel_rfl
theorem aC9 {g:Nat->Int} (h:∀j,j<26->w.cell? ⟨b,o+j,none⟩=some (.int .i64 (g j))):w.rangeAt b o [(g 0),(g 1),(g 2),(g 3),(g 4),(g 5),(g 6),(g 7),(g 8),(g 9),(g 10),(g 11),(g 12),(g 13),(g 14),(g 15),(g 16),(g 17),(g 18),(g 19),(g 20),(g 21),(g 22),(g 23),(g 24),(g 25)]:=by
 intro q v hq;have hl:=(aRk.1 hq).1
 rcases aC8 hl with e|e|e|e|e|e|e|e|e|e|e|e|e|e|e|e|e|e|e|e|e|e|e|e|e|e <;> subst e <;> exact (h _ (by decide)).trans hq
theorem yT (lo hi:Nat) (u:Value) (n:Nat) (f:Nat->Int) (w:World) (hu:dH 26 lo hi w u n f) (hh:hi<=w.heap.size) (hsz:n<=1048576) :
  Calls aRn 39 #[u] w fun e w'=>e = .returned (.slice (some ⟨w.heap.size,0,none⟩) n n)/\bK w' w.heap.size 127 (n*26) f/\Ext w w':=by
 obtain ⟨i0,h5,h7,h8,h9⟩:=info_parts aJ7;obtain ⟨a,cap,rfl,HU⟩:=hu.open;clear hu;have q4:=HU.cap;have q8:=HU.le;have q2:=hid HU;clear HU;go_enter func39,ntmps39;go_wp2_with (at_make;refine wpList_make_full _ rfl _ _ 38 rfl w.heap.size 127 i0 _ 26 underlying38 h5 h7 h8 _ _ _ _ n rfl rfl rfl rfl (by rw [h9];omega) (by unfold maxLen;omega) (aRi _) ?_);intro w1 h3 h1;have hx:Ext w w1:=(aRu w).grown h1 (fun k h=>by cases h);have h0:=hid (bK.zero (f:=f) (aBu (aIo (k:=26) rfl (by decide) _) h3));clear h3 h1 h5 h7 h8 h9;go_wp2
 go_loopw [4] (fun i wr=>∃k:Nat,k<=n/\i = .int .i64 k/\Ext w wr/\bK wr w.heap.size 127 (n*26) (lU f (k*26))) (fun i _=>n - (intOf i).toNat)
 case atStart=>exact ⟨0,by omega,rfl,hx,by simpa using h0.out⟩
 case round=>
  clear hx h0;obtain ⟨k,hk,rfl,hx,h0⟩:=hrel
  by_cases h6:k<n
  ·obtain ⟨b,q0,rfl,q6,q7,hc⟩:=q2.at h6 (by decide)
   have q5:=fA (k:=26) (j:=25) h6 (by decide)
   obtain ⟨g,hg⟩:∃g:Nat->Int,g=fun j=>f (k*26+j):=⟨_,rfl⟩
   have h4:wr.rangeAt b (q0+k*26) [(g 0),(g 1),(g 2),(g 3),(g 4),(g 5),(g 6),(g 7),(g 8),(g 9),(g 10),(g 11),(g 12),(g 13),(g 14),(g 15),(g 16),(g 17),(g 18),(g 19),(g 20),(g 21),(g 22),(g 23),(g 24),(g 25)]:=aC9 fun j hj=>((hx.cells.1 b _ (by omega)).trans (hc j hj)).trans (by rw [hg]);have HG:=hid hg;have HX:=hid hx;have HR:=hid h0
   have bl:b<wr.heap.size:=by have:=hx.size;omega
   clear hc hx h0 hg;go_wp2_with (show wpList _ _ _ [_,_,_,_] _ _;refine wpList_load_mid rfl _ _ rfl b (q0+k*26) rfl [(g 0),(g 1),(g 2),(g 3),(g 4),(g 5),(g 6),(g 7),(g 8),(g 9),(g 10),(g 11),(g 12),(g 13),(g 14),(g 15),(g 16),(g 17),(g 18),(g 19),(g 20),(g 21),(g 22),(g 23),(g 24),(g 25)] _ h4 underlying134 rfl aJ8 ?_);refine r_ (aAl g _) fun w2 h2=>?_;have hR:=HR.ext h2;have hX:=HX.trans h2;have ht:=hR.there (o:=k*26) (m:=26) (by omega);have q3:=hid (hX.setC (b:=w.heap.size) (aRi _) [(g 0),(g 1),(g 2),(g 3),(g 4),(g 5),(g 6),(g 7),(g 8),(g 9),(g 10),(g 11),(g 12),(g 13),(g 14),(g 15),(g 16),(g 17),(g 18),(g 19),(g 20),(g 21),(g 22),(g 23),(g 24),(g 25)] (k*26));have q1:=hid (bK.stepN [g 0,g 1,g 2,g 3,g 4,g 5,g 6,g 7,g 8,g 9,g 10,g 11,g 12,g 13,g 14,g 15,g 16,g 17,g 18,g 19,g 20,g 21,g 22,g 23,g 24,g 25] (k*26) _ hR (fun j x h=>by have:=aOl g j x h;rw [this,HG]));clear HX HR h2 hX hR h4;go_wp2_with (show wpList _ _ _ [_] _ _;refine wpList_store_mid rfl _ _ _ rfl w.heap.size (k*26) #[(g 0),(g 1),(g 2),(g 3),(g 4),(g 5),(g 6),(g 7),(g 8),(g 9),(g 10),(g 11),(g 12),(g 13),(g 14),(g 15),(g 16),(g 17),(g 18),(g 19),(g 20),(g 21),(g 22),(g 23),(g 24),(g 25)] rfl rfl ht fX (by kernel_rfl) ?_);clear ht;go_roundw
   case rel=>
    refine ⟨k+1,by omega,by go_num,q3,?_⟩;rw [aT1,aT2];exact q1
   case measure=>simp [intOf];omega
  ·go_wp2
   go_ret
   obtain rfl:k=n:=by omega
   exact ⟨rfl,h0.full,hx⟩
theorem vG (lo hi lo' hi':Nat) (u v:Value) (n:Nat) (f:Nat->Int) (w:World) (hu:dH 26 lo hi w u n f) (hv:dH 26 lo' hi' w v n f) (hh:hi<=w.heap.size) (hh':hi'<=w.heap.size) :
  R_ 44 #[u,v] w (.bool true):=by
 obtain ⟨a,cap,rfl,HU⟩:=dH.open hu;obtain ⟨a',q0,rfl,HV⟩:=dH.open hv;clear hu hv;have h1:=HU.le;have h2:=HU.cap;have q3:=HV.le;have q4:=HV.cap;have h8:=hid HU;have h9:=hid HV;clear HU HV;go_enter func44,ntmps44;go_wp2
 go_loopw [5] (fun i wr=>∃k:Nat,k<=n/\i = .int .i64 k/\Ext w wr) (fun i _=>n - (intOf i).toNat)
 case atStart=>exact ⟨0,by omega,rfl,X_⟩
 case round=>
  obtain ⟨k,hk,rfl,hx⟩:=hrel
  by_cases h4:k<n
  ·obtain ⟨b,h5,rfl,q5,q6,hc⟩:=h8.at h4 (by decide)
   obtain ⟨b',h0,rfl,q1,q2,h3⟩:=h9.at h4 (by decide)
   obtain ⟨g,hg⟩:∃g:Nat->Int,g=fun j=>f (k*26+j):=⟨_,rfl⟩
   have h6:=hid (show wr.rangeAt b (h5+k*26) [(g 0),(g 1),(g 2),(g 3),(g 4),(g 5),(g 6),(g 7),(g 8),(g 9),(g 10),(g 11),(g 12),(g 13),(g 14),(g 15),(g 16),(g 17),(g 18),(g 19),(g 20),(g 21),(g 22),(g 23),(g 24),(g 25)] from aC9 fun j hj=>((hx.cells.1 b _ (by omega)).trans (hc j hj)).trans (by rw [hg]));have h7:=hid (show wr.rangeAt b' (h0+k*26) [(g 0),(g 1),(g 2),(g 3),(g 4),(g 5),(g 6),(g 7),(g 8),(g 9),(g 10),(g 11),(g 12),(g 13),(g 14),(g 15),(g 16),(g 17),(g 18),(g 19),(g 20),(g 21),(g 22),(g 23),(g 24),(g 25)] from aC9 fun j hj=>((hx.cells.1 b' _ (by omega)).trans (h3 j hj)).trans (by rw [hg]))
   have s1:b<wr.heap.size:=by have:=hx.size;omega
   have s2:b'<wr.heap.size:=by have:=hx.size;omega
   have HX:=hid hx;clear hc h3 hx hg;go_wp2_with fail;refine aA [([0,1,2,3,4,5,6,7],8),([],9)] 99 wr.heap.size (by kernel_rfl) (by kernel_rfl) ?_;refine st_ (hq:=by intro R h;show wpQuiet _ _ _ _ [_,_,_,_,_,_,_,_] _;go_big_quiet_step (fail);go_big_quiet_step (fail);go_big_quiet_step (fail);refine eV rfl _ _ rfl b (h5+k*26) rfl [(g 0),(g 1),(g 2),(g 3),(g 4),(g 5),(g 6),(g 7),(g 8),(g 9),(g 10),(g 11),(g 12),(g 13),(g 14),(g 15),(g 16),(g 17),(g 18),(g 19),(g 20),(g 21),(g 22),(g 23),(g 24),(g 25)] _ (by rintro _ ⟨d,rfl⟩ j v hj;rw [jQ _ _ _ _ s1];exact h6 j v hj) underlying127 rfl iS ?_;simp only [Act.put,aRp,aRx,aRw];go_big_quiet_step (fail);go_big_quiet_step (fail);go_big_quiet_step (fail);refine eV rfl _ _ rfl b' (h0+k*26) rfl [(g 0),(g 1),(g 2),(g 3),(g 4),(g 5),(g 6),(g 7),(g 8),(g 9),(g 10),(g 11),(g 12),(g 13),(g 14),(g 15),(g 16),(g 17),(g 18),(g 19),(g 20),(g 21),(g 22),(g 23),(g 24),(g 25)] _ (by rintro _ ⟨d,rfl⟩ j v hj;rw [jQ _ _ _ _ s2];exact h7 j v hj) underlying127 rfl iS ?_;simp only [Act.put,aRp,aRx,aRw];exact wpQuiet_nil h) fun K hK=>?_;go_wp2_with fail;refine r_ (yS g _) fun w1 h1=>?_;have y1:Ext wr w1:=aRo X_ h1;go_wp2_with fail;refine k_ hK ?_;clear hK K;refine st_ fun K hK=>?_;go_wp2_with fail;refine k_ hK ?_;clear hK K;refine aC ?_;have hX:=HX.trans y1;clear h1 y1 HX;go_wp2;go_roundw
   case rel=>exact ⟨k+1,by omega,by go_num,hX⟩
   case measure=>simp [intOf];omega
  ·go_wp2
   go_ret;exact ⟨rfl,hx⟩
theorem yU (lo hi:Nat) (u:Value) (n:Nat) (f:Nat->Int) (left:Int) (w:World) (hu:dH 26 lo hi w u n f) (h1:0<=left) (h2:left<=1048576) :
  Z_ 34 #[u,left] w (.int .i64 (lT left n)):=by
 obtain ⟨a,cap,rfl,HU⟩:=hu.open;have h3:=HU.le;have h4:=HU.cap;unfold lT;go_enter func34,ntmps34;go_wp2
 all_goals go_ret
 all_goals exact ⟨rfl,rfl⟩
theorem yV {left:Int} (h:lT left n=r) (lo hi:Nat) (u:Value) (f:Nat->Int) (w:World) (hu:dH 26 lo hi w u n f) (h1:0<=left) (h2:left<=1048576) :
  Z_ 34 #[u,left] w (.int .i64 r):=h▸yU lo hi u n f left w hu h1 h2
theorem aDa (a b c d:Int) (e:Bool) (f g:Int) (w:World):Calls aRn 36 #[.agg #[a,b,c,d,.bool e,f,g]] w fun x w'=>x = .returned (.agg #[a,b,c,d,.bool e,f,g])/\Ext w w':=by
 go_enter func36,ntmps36;go_wp2;refine bodyPost_ret (v:=.agg #[a,b,c,d,.bool e,f,g]) (by simp [results,results36,go_sem]) rfl ⟨rfl,?_⟩;exact S_
theorem aAm (a b c d:Int) (e:Bool) (f g:Int) (w:World):Calls aRn 41 #[.agg #[a,b,c,d,.bool e,f,g],.agg #[a,b,c,d,.bool e,f,g]] w fun x w'=>x = .returned (.bool true)/\Ext w w':=by
 cases e
 all_goals
  go_enter func41,ntmps41;go_wp2;go_ret;exact ⟨rfl,S_⟩
structure Scn.Sm (s:Scn):Prop where
 small:s.small
 px:s.t.px.length<=1048576
 n:s.ps.length<=1048576
 m:s.m<=1048576
def Scn.bd (s:Scn):Prop:=∀p∈s.ps,p.bd
def Scn.O (s:Scn) (lo hi:Nat) (w:World) (v:Value):Prop:=
 ∃a1 c1 a2 c2 a3 c3,v = .agg #[s.c.w,s.c.h,s.c.zoom,s.c.near,.bool s.c.deep,s.c.lens,s.c.focus,s.t.log,.slice a1 s.t.px.length c1,.slice a2 s.ps.length c2,.slice a3 s.m c3,s.side]/\s.R lo hi w v/\sS lo hi w (.slice a1 s.t.px.length c1) s.t.px.length/\uY lo hi w (.slice a2 s.ps.length c2) s.ps.length/\aE8 lo hi w (.slice a3 s.m c3) s.m
theorem aE8.same (h:aE8 lo hi w v n) (s:aM lo hi w w'):aE8 lo hi w' v n:=by
 obtain ⟨a,cap,h1,h2,h3,h4⟩:=h;exact ⟨a,cap,h1,h2,h3,fun i hi=>by obtain ⟨b,h0,e,k0,k1⟩:=h4 i hi;exact ⟨b,h0,e,k0.same s,k1.same s⟩⟩
theorem Scn.O.R {s:Scn} (h:s.O lo hi w v):s.R lo hi w v:=by
 obtain ⟨_,_,_,_,_,_,rfl,h,_⟩:=h;exact h
theorem Scn.O.form {s:Scn} (h:s.O lo hi w v):∃a1 c1 a2 c2 a3 c3,v = .agg #[s.c.w,s.c.h,s.c.zoom,s.c.near,.bool s.c.deep,s.c.lens,s.c.focus,s.t.log,.slice a1 s.t.px.length c1,.slice a2 s.ps.length c2,.slice a3 s.m c3,s.side]:=by
 obtain ⟨a1,c1,a2,c2,a3,c3,rfl,_⟩:=h;exact ⟨a1,c1,a2,c2,a3,c3,rfl⟩
theorem Scn.O.same {s:Scn} (h:s.O lo hi w v) (k:aM lo hi w w'):s.O lo hi w' v:=by
 obtain ⟨a1,c1,a2,c2,a3,c3,rfl,h1,h2,h3,h4⟩:=h;exact ⟨a1,c1,a2,c2,a3,c3,rfl,h1.same k,h2.same k,h3.same k,h4.same k⟩
theorem Scn.O.kp {s:Scn} (h:s.O lo hi w v) (k:Kp lo hi w w'):s.O lo hi w' v:=h.same k.same
theorem bK.srfsM (h:bK w b 127 (n*26) f) (hl:lo<=b) (hn:n<=1048576):aE8 lo w.heap.size w (.slice (some ⟨b,0,none⟩) n n) n:=
 ⟨_,n,rfl,aRi _,by omega,fun i hi=>by
  have h2:=fA (k:=26) (j:=25) hi (by decide)
  exact ⟨b,0,rfl,⟨hl,h.lt,⟨_,by rw [aSf];exact h.cell (by omega)⟩,by rw [aSf];exact h.frozen _⟩,⟨hl,h.lt,⟨_,by rw [aSf];exact h.cell (by omega)⟩,by rw [aSf];exact h.frozen _⟩⟩⟩
theorem aFc (lo hi:Nat) (v:Value) (s:Scn) (left:Int) (w:World) (hv:s.R lo hi w v) (hh:hi<=w.heap.size) (hb:s.bd) (h1:0<=left) (h2:left<=1048576) :
  Calls aRn 9 #[v,left] w fun e w'=>(∃r,e = .returned (.int .i64 r)/\(r = -1\/(0<=r/\r<=left/\s.Sm)))/\Ext w w':=by
 obtain ⟨a1,c1,a2,c2,a3,c3,rfl,-,h0,-,k1,k2,k3⟩:=hv.form;have HT:=hid (show ∀W:World,Ext w W->cT lo hi W (.agg #[s.t.log,.slice a1 s.t.px.length c1]) s.t from fun W x=>⟨_,rfl,h0,(k1.shut).ext hh x⟩);have HP:=hid (show gU lo hi w (.slice a2 s.ps.length c2) s.ps by obtain ⟨tu,pu,su,e,_,_,_,_,h6,_⟩:=hv;simp only [Value.agg.injEq,Array.mk.injEq,List.cons.injEq,and_true,true_and] at e;obtain ⟨-,e2,-⟩:=e;rw [e2];exact h6);have HF:=hid (show dH 26 lo hi w (.slice a3 s.m c3) s.m s.F from k3.shut);have HB:=hid hb;have x0:Ext w (w.alloc (.cells (sA_ s a1 c1 a2 c2 a3 c3) 30)):=X_;have B0:=hid (aRr w 30 (sL_ s a1 c1 a2 c2 a3 c3));have X0:=hid x0;have q2:=k1.cap;have q4:=k2.cap;have q6:=k3.cap;have q3:=k1.le;have q5:=k2.le;have q7:=k3.le;clear hv h0 k1 k2 k3 hb x0
 obtain ⟨r1,h3⟩:∃r,lT left s.t.px.length=r:=⟨_,rfl⟩
 have h8:=hid h3
 have h5:r1 = -1\/(0<=r1/\r1<=left/\s.t.px.length<=1048576):=by unfold lT at h3;split at h3 <;> omega
 clear h3;go_enter func9,ntmps9;go_wp2_with fail;refine r_ (zM h8 lo hi _ _ (HT _ X0) (aRq hh X0.size) h1 h2) fun w1 x1=>?_;have B1:=hid (B0.ext x1);have X1:=hid (X0.trans x1);clear B0 X0 x1
 rcases h5 with rfl|⟨g1,g2,g3⟩
 ·go_wp2
  go_ret;exact ⟨⟨_,rfl,.inl rfl⟩,X1⟩
 have n1 : ¬r1<0:=by omega
 have c9:=B1.cell 9 rfl;have cl:=B1.lt;go_wp2_with fail;refine (yR lo hi _ s.ps r1 _ (HP.ext hh X1) (aRq hh X1.size) HB g1 (by omega)).mono ?_;rintro e w2 ⟨⟨r2,rfl,hr2⟩,x2⟩;have B2:=hid (B1.ext x2);have X2:=hid (X1.trans x2);clear B1 X1 x2 c9 cl
 rcases hr2 with rfl|⟨g4,g5,g6,g7⟩
 ·go_wp2
  go_ret;exact ⟨⟨_,rfl,.inl rfl⟩,X2⟩
 have n2 : ¬r2<0:=by omega
 have q0:=hid (show s.small from fun p hp=>⟨HB p hp,g7 p hp⟩)
 obtain ⟨r3,h4⟩:∃r,lT r2 s.m=r:=⟨_,rfl⟩
 have h9:=hid h4
 have h7:r3 = -1\/(0<=r3/\r3<=r2/\s.m<=1048576):=by unfold lT at h4;split at h4 <;> omega
 clear h4 g7;have q1:=B2.cell 10 rfl;have cl:=B2.lt;go_wp2_with fail;refine z_ (yV h9 lo hi _ s.F _ (HF.ext hh X2) g4 (by omega)) ?_
 rcases h7 with rfl|⟨g8,g9,g10⟩
 ·go_wp2
  go_ret;exact ⟨⟨_,rfl,.inl rfl⟩,X2⟩
 have n3 : ¬r3<0:=by omega
 go_wp2;go_ret;exact ⟨⟨_,rfl,.inr ⟨g8,by omega,⟨q0,g3,g6,g10⟩⟩⟩,X2⟩
theorem oR (lo hi:Nat) (v:Value) (s:Scn) (w:World) (hv:s.R lo hi w v) (hh:hi<=w.heap.size) (hsz:s.Sm) :
  Calls aRn 11 #[v] w fun e w'=>∃v',e = .returned v'/\s.O w.heap.size w'.heap.size w' v'/\Ext w w':=by
 obtain ⟨a1,c1,a2,c2,a3,c3,rfl,y4,z4,q8,k1,k2,k3⟩:=hv.form;have HT:=hid (show ∀W:World,Ext w W->cT lo hi W (.agg #[s.t.log,.slice a1 s.t.px.length c1]) s.t from fun W x=>⟨_,rfl,z4,(k1.shut).ext hh x⟩);have HP:=hid (show gU lo hi w (.slice a2 s.ps.length c2) s.ps by obtain ⟨tu,pu,su,e,_,_,_,_,h6,_⟩:=hv;simp only [Value.agg.injEq,Array.mk.injEq,List.cons.injEq,and_true,true_and] at e;obtain ⟨-,e2,-⟩:=e;rw [e2];exact h6);have HF:=hid (show dH 26 lo hi w (.slice a3 s.m c3) s.m s.F from k3.shut);have y6:=hid (show ∀i,i<s.m*26->I64 (s.F i) from fun i hi=>(k3.cell i hi).1);have y5:=hid y4;have y7:=hid z4;have y8:=hid q8;have z1:=hsz.px;have z2:=hsz.n;have z3:=hsz.m;have ZS:=hid (show ∀p∈s.ps,p.small from fun p hp=>(hsz.small p hp).2);have x0:Ext w (((w.alloc (.cells (sA_ s a1 c1 a2 c2 a3 c3) 30)).alloc (.cells #[(),(),(),(),.bool false,(),(),(),.slice none 0 0,.slice none 0 0,.slice none 0 0,()] 40)).alloc (.cells #[(),(),(),(),.bool false,(),(),(),.slice none 0 0,.slice none 0 0,.slice none 0 0,()] 40)):=X_;have b0:=(aRr w 30 (sL_ s a1 c1 a2 c2 a3 c3)).ext (show Ext (w.alloc (.cells (sA_ s a1 c1 a2 c2 a3 c3) 30)) (((w.alloc (.cells (sA_ s a1 c1 a2 c2 a3 c3) 30)).alloc (.cells #[(),(),(),(),.bool false,(),(),(),.slice none 0 0,.slice none 0 0,.slice none 0 0,()] 40)).alloc (.cells #[(),(),(),(),.bool false,(),(),(),.slice none 0 0,.slice none 0 0,.slice none 0 0,()] 40)) from X_);have r0:=(aRr (w.alloc (.cells (sA_ s a1 c1 a2 c2 a3 c3) 30)) 40 [(),(),(),(),.bool false,(),(),(),.slice none 0 0,.slice none 0 0,.slice none 0 0,()]).ext (show Ext ((w.alloc (.cells (sA_ s a1 c1 a2 c2 a3 c3) 30)).alloc (.cells #[(),(),(),(),.bool false,(),(),(),.slice none 0 0,.slice none 0 0,.slice none 0 0,()] 40)) (((w.alloc (.cells (sA_ s a1 c1 a2 c2 a3 c3) 30)).alloc (.cells #[(),(),(),(),.bool false,(),(),(),.slice none 0 0,.slice none 0 0,.slice none 0 0,()] 40)).alloc (.cells #[(),(),(),(),.bool false,(),(),(),.slice none 0 0,.slice none 0 0,.slice none 0 0,()] 40)) from X_);have t0:=aRr ((w.alloc (.cells (sA_ s a1 c1 a2 c2 a3 c3) 30)).alloc (.cells #[(),(),(),(),.bool false,(),(),(),.slice none 0 0,.slice none 0 0,.slice none 0 0,()] 40)) 40 [(),(),(),(),.bool false,(),(),(),.slice none 0 0,.slice none 0 0,.slice none 0 0,()];simp only [aRj] at r0 t0;have B0:=hid b0;have R0:=hid r0;have T0:=hid t0;have X0:=hid x0;clear hv y4 z4 q8 k1 k2 k3 hsz b0 r0 t0 x0;go_enter func11,ntmps11;go_upto_region 2 with fail
 obtain ⟨WA,y3⟩:∃WA,(((w.alloc (.cells (sA_ s a1 c1 a2 c2 a3 c3) 30)).alloc (.cells #[(),(),(),(),.bool false,(),(),(),.slice none 0 0,.slice none 0 0,.slice none 0 0,()] 40)).alloc (.cells #[(),(),(),(),.bool false,(),(),(),.slice none 0 0,.slice none 0 0,.slice none 0 0,()] 40))=WA:=⟨_,rfl⟩
 rw [y3] at B0 R0 T0 X0 ⊢;clear y3;obtain ⟨b0,b1,b2,b3,b4,b5,b6⟩:=B0.q7;have bl:=B0.lt;go_wp2_with fail;refine r_ (aDa _ _ _ _ _ _ _ _) fun w1 x1=>?_;clear bl b0 b1 b2 b3 b4 b5 b6;have B1:=hid (B0.ext x1);have R1:=hid (R0.ext x1);have T1:=hid (T0.ext x1);have X1:=hid (X0.trans x1);clear B0 R0 T0 X0;clear x1;have i3:w.heap.size+1+1<w1.heap.size:=T1.lt;have d0:=T1.cell 0 rfl;have e0:=T1.free 0;have d1:=T1.cell 1 rfl;have e1:=T1.free 1;have d2:=T1.cell 2 rfl;have e2:=T1.free 2;have d3:=T1.cell 3 rfl;have e3:=T1.free 3;have d4:=T1.cell 4 rfl;have e4:=T1.free 4;have d5:=T1.cell 5 rfl;have e5:=T1.free 5;have d6:=T1.cell 6 rfl;have e6:=T1.free 6;have dl:=T1.lt;have T2:=hid (((((((T1.set 0 (.int .i64 s.c.w)).set 1 (.int .i64 s.c.h)).set 2 (.int .i64 s.c.zoom)).set 3 (.int .i64 s.c.near)).set 4 (.bool s.c.deep)).set 5 (.int .i64 s.c.lens)).set 6 (.int .i64 s.c.focus));have B2:=hid (((((((B1.other (a:=⟨w.heap.size+1+1,0,none⟩) (by simp <;> omega) (.int .i64 s.c.w)).other (a:=⟨w.heap.size+1+1,1,none⟩) (by simp <;> omega) (.int .i64 s.c.h)).other (a:=⟨w.heap.size+1+1,2,none⟩) (by simp <;> omega) (.int .i64 s.c.zoom)).other (a:=⟨w.heap.size+1+1,3,none⟩) (by simp <;> omega) (.int .i64 s.c.near)).other (a:=⟨w.heap.size+1+1,4,none⟩) (by simp <;> omega) (.bool s.c.deep)).other (a:=⟨w.heap.size+1+1,5,none⟩) (by simp <;> omega) (.int .i64 s.c.lens)).other (a:=⟨w.heap.size+1+1,6,none⟩) (by simp <;> omega) (.int .i64 s.c.focus));have R2:=hid (((((((R1.other (a:=⟨w.heap.size+1+1,0,none⟩) (by simp <;> omega) (.int .i64 s.c.w)).other (a:=⟨w.heap.size+1+1,1,none⟩) (by simp <;> omega) (.int .i64 s.c.h)).other (a:=⟨w.heap.size+1+1,2,none⟩) (by simp <;> omega) (.int .i64 s.c.zoom)).other (a:=⟨w.heap.size+1+1,3,none⟩) (by simp <;> omega) (.int .i64 s.c.near)).other (a:=⟨w.heap.size+1+1,4,none⟩) (by simp <;> omega) (.bool s.c.deep)).other (a:=⟨w.heap.size+1+1,5,none⟩) (by simp <;> omega) (.int .i64 s.c.lens)).other (a:=⟨w.heap.size+1+1,6,none⟩) (by simp <;> omega) (.int .i64 s.c.focus));have X2:=hid (((((((X1.setCell (p:=⟨w.heap.size+1+1,0,none⟩) (by simp;omega) (.int .i64 s.c.w)).setCell (p:=⟨w.heap.size+1+1,1,none⟩) (by simp;omega) (.int .i64 s.c.h)).setCell (p:=⟨w.heap.size+1+1,2,none⟩) (by simp;omega) (.int .i64 s.c.zoom)).setCell (p:=⟨w.heap.size+1+1,3,none⟩) (by simp;omega) (.int .i64 s.c.near)).setCell (p:=⟨w.heap.size+1+1,4,none⟩) (by simp;omega) (.bool s.c.deep)).setCell (p:=⟨w.heap.size+1+1,5,none⟩) (by simp;omega) (.int .i64 s.c.lens)).setCell (p:=⟨w.heap.size+1+1,6,none⟩) (by simp;omega) (.int .i64 s.c.focus));simp only [aRx,aRw] at T2;go_upto_region 3 with fail
 obtain ⟨y0,x4⟩:∃W,(((((((w1.setCell ⟨w.heap.size+1+1,0,none⟩ s.c.w).setCell ⟨w.heap.size+1+1,1,none⟩ s.c.h).setCell ⟨w.heap.size+1+1,2,none⟩ s.c.zoom).setCell ⟨w.heap.size+1+1,3,none⟩ s.c.near).setCell ⟨w.heap.size+1+1,4,none⟩ (.bool s.c.deep)).setCell ⟨w.heap.size+1+1,5,none⟩ s.c.lens).setCell ⟨w.heap.size+1+1,6,none⟩ s.c.focus)=W:=⟨_,rfl⟩
 have c7:y0.heap.size<=w1.heap.size/\w1.heap.size<=y0.heap.size:=by rw [<-x4];simp
 rw [x4] at B2 R2 T2 X2 ⊢;clear x4 B1 R1 T1 X1 dl d0 e0 d1 e1 d2 e2 d3 e3 d4 e4 d5 e5 d6 e6;have b7:=B2.cell 7 rfl;have b8:=B2.cell 8 rfl;have bl:=B2.lt;go_wp2_with fail;refine (zJ lo hi _ s.t _ (HT _ X2) (aRq hh X2.size) z1).mono ?_;rintro e w3 ⟨v3,rfl,⟨u3,rfl,_,hO⟩,x3⟩;obtain ⟨p1,q1,rfl,_⟩:=hO.form;have i4:=x3.size;clear bl b7 b8;have B3:=hid (B2.ext x3);have R3:=hid (R2.ext x3);have T3:=hid (T2.ext x3);have X3:=hid (X2.trans x3);clear B2 R2 T2 X2;have HI:=hid hO.ints;have HM:=hid hO.intsM;clear x3 hO;have d7:=T3.cell 7 rfl;have e7:=T3.free 7;have d8:=T3.cell 8 rfl;have e8:=T3.free 8;have dl:=T3.lt;have T4:=hid ((T3.set 7 (.int .i64 s.t.log)).set 8 (.slice p1 s.t.px.length q1));have B4:=hid ((B3.other (a:=⟨w.heap.size+1+1,7,none⟩) (by simp <;> omega) (.int .i64 s.t.log)).other (a:=⟨w.heap.size+1+1,8,none⟩) (by simp <;> omega) (.slice p1 s.t.px.length q1));have R4:=hid ((R3.other (a:=⟨w.heap.size+1+1,7,none⟩) (by simp <;> omega) (.int .i64 s.t.log)).other (a:=⟨w.heap.size+1+1,8,none⟩) (by simp <;> omega) (.slice p1 s.t.px.length q1));have X4:=hid ((X3.setCell (p:=⟨w.heap.size+1+1,7,none⟩) (by simp;omega) (.int .i64 s.t.log)).setCell (p:=⟨w.heap.size+1+1,8,none⟩) (by simp;omega) (.slice p1 s.t.px.length q1));replace HI:=hid (HI.same ((aM.setLow w3 (p:=⟨w.heap.size+1+1,7,none⟩) (by simp only;omega) (.int .i64 s.t.log)).trans (aM.setLow _ (p:=⟨w.heap.size+1+1,8,none⟩) (by simp only;omega) (.slice p1 s.t.px.length q1))));replace HM:=hid (HM.same ((aM.setLow w3 (p:=⟨w.heap.size+1+1,7,none⟩) (by simp only;omega) (.int .i64 s.t.log)).trans (aM.setLow _ (p:=⟨w.heap.size+1+1,8,none⟩) (by simp only;omega) (.slice p1 s.t.px.length q1))));simp only [aRx,aRw] at T4;go_upto_region 4 with fail
 obtain ⟨q2,x6⟩:∃W,((w3.setCell ⟨w.heap.size+1+1,7,none⟩ s.t.log).setCell ⟨w.heap.size+1+1,8,none⟩ (.slice p1 s.t.px.length q1))=W:=⟨_,rfl⟩
 have c8:q2.heap.size<=w3.heap.size/\w3.heap.size<=q2.heap.size:=by rw [<-x6];simp
 rw [x6] at B4 R4 T4 X4 HI HM ⊢;clear x6 B3 R3 T3 X3 dl d7 e7 d8 e8;have b9:=B4.cell 9 rfl;have bl:=B4.lt;go_wp2_with fail;refine (yQ lo hi _ s.ps _ (HP.ext hh X4) (aRq hh X4.size) z2 ZS).mono ?_;rintro e w5 ⟨rfl,⟨hPR,hPM⟩,hlt5,x5⟩;have i5:=x5.size;clear bl b9;have B5:=hid (B4.ext x5);have R5:=hid (R4.ext x5);have T5:=hid (T4.ext x5);have X5:=hid (X4.trans x5);replace HI:=hid (HI.same (x5.same (by first|exact aRi _|omega)));replace HM:=hid (HM.same (x5.same (by first|exact aRi _|omega)));clear B4 R4 T4 X4;have q4:=hid hPR;have q3:=hid hPM;clear x5 hPR hPM;have d9:=T5.cell 9 rfl;have e9:=T5.free 9;have dl:=T5.lt;have T6:=hid (T5.set 9 (.slice (some ⟨q2.heap.size,0,none⟩) s.ps.length s.ps.length));have B6:=hid (B5.other (a:=⟨w.heap.size+1+1,9,none⟩) (by simp <;> omega) (.slice (some ⟨q2.heap.size,0,none⟩) s.ps.length s.ps.length));have R6:=hid (R5.other (a:=⟨w.heap.size+1+1,9,none⟩) (by simp <;> omega) (.slice (some ⟨q2.heap.size,0,none⟩) s.ps.length s.ps.length));have X6:=hid (X5.setCell (p:=⟨w.heap.size+1+1,9,none⟩) (by simp;omega) (.slice (some ⟨q2.heap.size,0,none⟩) s.ps.length s.ps.length));replace HI:=hid (HI.same (aM.setLow w5 (p:=⟨w.heap.size+1+1,9,none⟩) (by simp only;omega) (.slice (some ⟨q2.heap.size,0,none⟩) s.ps.length s.ps.length)));replace HM:=hid (HM.same (aM.setLow w5 (p:=⟨w.heap.size+1+1,9,none⟩) (by simp only;omega) (.slice (some ⟨q2.heap.size,0,none⟩) s.ps.length s.ps.length)));replace q4:=hid (q4.same (aM.setLow w5 (p:=⟨w.heap.size+1+1,9,none⟩) (by simp only;omega) (.slice (some ⟨q2.heap.size,0,none⟩) s.ps.length s.ps.length)));replace q3:=hid (q3.same (aM.setLow w5 (p:=⟨w.heap.size+1+1,9,none⟩) (by simp only;omega) (.slice (some ⟨q2.heap.size,0,none⟩) s.ps.length s.ps.length)));simp only [aRx,aRw] at T6;go_upto_region 5 with fail
 obtain ⟨q0,x8⟩:∃W,(w5.setCell ⟨w.heap.size+1+1,9,none⟩ (.slice (some ⟨q2.heap.size,0,none⟩) s.ps.length s.ps.length))=W:=⟨_,rfl⟩
 have c9:q0.heap.size<=w5.heap.size/\w5.heap.size<=q0.heap.size:=by rw [<-x8];simp
 rw [x8] at B6 R6 T6 X6 HI HM q4 q3 ⊢;clear x8 B5 R5 T5 X5 dl d9 e9;have y9:=B6.cell 10 rfl;have bl:=B6.lt;go_wp2_with fail;refine (yT lo hi _ s.m s.F _ (HF.ext hh X6) (aRq hh X6.size) z3).mono ?_;rintro e w7 ⟨rfl,z5,x7⟩;have i6:=x7.size;clear bl y9;have B7:=hid (B6.ext x7);have R7:=hid (R6.ext x7);have T7:=hid (T6.ext x7);have X7:=hid (X6.trans x7);replace HI:=hid (HI.same (x7.same (by first|exact aRi _|omega)));replace HM:=hid (HM.same (x7.same (by first|exact aRi _|omega)));replace q4:=hid (q4.same (x7.same (by first|exact aRi _|omega)));replace q3:=hid (q3.same (x7.same (by first|exact aRi _|omega)));clear B6 R6 T6 X6;have i2:=z5.lt;have q9:=hid (z5.flats (k:=26) (n:=s.m) (cap:=s.m) (aRi _) (by unfold maxLen;omega) (lo:=q0.heap.size) (aRi _) y6);have x2:=hid (z5.srfsM (lo:=q0.heap.size) (aRi _) z3);clear x7 z5;have y1:=T7.cell 10 rfl;have a4:=T7.free 10;have dl:=T7.lt;have T8:=hid (T7.set 10 (.slice (some ⟨q0.heap.size,0,none⟩) s.m s.m));have B8:=hid (B7.other (a:=⟨w.heap.size+1+1,10,none⟩) (by simp <;> omega) (.slice (some ⟨q0.heap.size,0,none⟩) s.m s.m));have R8:=hid (R7.other (a:=⟨w.heap.size+1+1,10,none⟩) (by simp <;> omega) (.slice (some ⟨q0.heap.size,0,none⟩) s.m s.m));have X8:=hid (X7.setCell (p:=⟨w.heap.size+1+1,10,none⟩) (by simp;omega) (.slice (some ⟨q0.heap.size,0,none⟩) s.m s.m));replace HI:=hid (HI.same (aM.setLow w7 (p:=⟨w.heap.size+1+1,10,none⟩) (by simp only;omega) (.slice (some ⟨q0.heap.size,0,none⟩) s.m s.m)));replace HM:=hid (HM.same (aM.setLow w7 (p:=⟨w.heap.size+1+1,10,none⟩) (by simp only;omega) (.slice (some ⟨q0.heap.size,0,none⟩) s.m s.m)));replace q4:=hid (q4.same (aM.setLow w7 (p:=⟨w.heap.size+1+1,10,none⟩) (by simp only;omega) (.slice (some ⟨q0.heap.size,0,none⟩) s.m s.m)));replace q3:=hid (q3.same (aM.setLow w7 (p:=⟨w.heap.size+1+1,10,none⟩) (by simp only;omega) (.slice (some ⟨q0.heap.size,0,none⟩) s.m s.m)));replace q9:=hid (q9.same (aM.setLow w7 (p:=⟨w.heap.size+1+1,10,none⟩) (by simp only;omega) (.slice (some ⟨q0.heap.size,0,none⟩) s.m s.m)));replace x2:=hid (x2.same (aM.setLow w7 (p:=⟨w.heap.size+1+1,10,none⟩) (by simp only;omega) (.slice (some ⟨q0.heap.size,0,none⟩) s.m s.m)));simp only [aRx,aRw] at T8;go_upto_region 6 with fail
 obtain ⟨q5,x9⟩:∃W,(w7.setCell ⟨w.heap.size+1+1,10,none⟩ (.slice (some ⟨q0.heap.size,0,none⟩) s.m s.m))=W:=⟨_,rfl⟩
 have i0:q5.heap.size<=w7.heap.size/\w7.heap.size<=q5.heap.size:=by rw [<-x9];simp
 rw [x9] at B8 R8 T8 X8 HI HM q4 q3 q9 x2 ⊢;clear x9 B7 R7 T7 X7 dl y1 a4;have a0:=B8.cell 11 rfl;have bl:=B8.lt;have y2:=T8.cell 11 rfl;have a5:=T8.free 11;have dl:=T8.lt;have T9:=hid (T8.set 11 (.int .i64 s.side));have B9:=hid (B8.other (a:=⟨w.heap.size+1+1,11,none⟩) (by simp <;> omega) (.int .i64 s.side));have R9:=hid (R8.other (a:=⟨w.heap.size+1+1,11,none⟩) (by simp <;> omega) (.int .i64 s.side));have X9:=hid (X8.setCell (p:=⟨w.heap.size+1+1,11,none⟩) (by simp;omega) (.int .i64 s.side));replace HI:=hid (HI.same (aM.setLow q5 (p:=⟨w.heap.size+1+1,11,none⟩) (by simp only;omega) (.int .i64 s.side)));replace HM:=hid (HM.same (aM.setLow q5 (p:=⟨w.heap.size+1+1,11,none⟩) (by simp only;omega) (.int .i64 s.side)));replace q4:=hid (q4.same (aM.setLow q5 (p:=⟨w.heap.size+1+1,11,none⟩) (by simp only;omega) (.int .i64 s.side)));replace q3:=hid (q3.same (aM.setLow q5 (p:=⟨w.heap.size+1+1,11,none⟩) (by simp only;omega) (.int .i64 s.side)));replace q9:=hid (q9.same (aM.setLow q5 (p:=⟨w.heap.size+1+1,11,none⟩) (by simp only;omega) (.int .i64 s.side)));replace x2:=hid (x2.same (aM.setLow q5 (p:=⟨w.heap.size+1+1,11,none⟩) (by simp only;omega) (.int .i64 s.side)));simp only [aRx,aRw] at T9;go_upto_region 7 with fail
 obtain ⟨q6,z0⟩:∃W,(q5.setCell ⟨w.heap.size+1+1,11,none⟩ s.side)=W:=⟨_,rfl⟩
 have i1:q6.heap.size<=q5.heap.size/\q5.heap.size<=q6.heap.size:=by rw [<-z0];simp
 rw [z0] at B9 R9 T9 X9 HI HM q4 q3 q9 x2 ⊢;clear z0 B8 R8 T8 X8 dl y2 a5;clear bl a0;have d0:=T9.cell 0 rfl;have g0:=R9.cell 0 rfl;have h0:=R9.free 0;have d1:=T9.cell 1 rfl;have g1:=R9.cell 1 rfl;have h1:=R9.free 1;have d2:=T9.cell 2 rfl;have g2:=R9.cell 2 rfl;have h2:=R9.free 2;have d3:=T9.cell 3 rfl;have g3:=R9.cell 3 rfl;have h3:=R9.free 3;have d4:=T9.cell 4 rfl;have g4:=R9.cell 4 rfl;have h4:=R9.free 4;have d5:=T9.cell 5 rfl;have g5:=R9.cell 5 rfl;have h5:=R9.free 5;have d6:=T9.cell 6 rfl;have g6:=R9.cell 6 rfl;have h6:=R9.free 6;have d7:=T9.cell 7 rfl;have g7:=R9.cell 7 rfl;have h7:=R9.free 7;have d8:=T9.cell 8 rfl;have g8:=R9.cell 8 rfl;have h8:=R9.free 8;have d9:=T9.cell 9 rfl;have g9:=R9.cell 9 rfl;have h9:=R9.free 9;have y1:=T9.cell 10 rfl;have a9:=R9.cell 10 rfl;have c4:=R9.free 10;have y2:=T9.cell 11 rfl;have c0:=R9.cell 11 rfl;have c5:=R9.free 11;have dl:=T9.lt;have gl:=R9.lt;have zz:w.heap.size+1+1<q6.heap.size:=T9.lt
 have zc:w.heap.size+1+1<w1.heap.size/\w1.heap.size<=w3.heap.size/\w3.heap.size<=w5.heap.size/\w5.heap.size<=w7.heap.size/\q6.heap.size=w7.heap.size:=by omega
 have a6:=hid (HI.same ((((((((((((aM.setLow q6 (p:=⟨w.heap.size+1,0,none⟩) (by simp only;omega) (.int .i64 s.c.w)).trans (aM.setLow _ (p:=⟨w.heap.size+1,1,none⟩) (by simp only;omega) (.int .i64 s.c.h))).trans (aM.setLow _ (p:=⟨w.heap.size+1,2,none⟩) (by simp only;omega) (.int .i64 s.c.zoom))).trans (aM.setLow _ (p:=⟨w.heap.size+1,3,none⟩) (by simp only;omega) (.int .i64 s.c.near))).trans (aM.setLow _ (p:=⟨w.heap.size+1,4,none⟩) (by simp only;omega) (.bool s.c.deep))).trans (aM.setLow _ (p:=⟨w.heap.size+1,5,none⟩) (by simp only;omega) (.int .i64 s.c.lens))).trans (aM.setLow _ (p:=⟨w.heap.size+1,6,none⟩) (by simp only;omega) (.int .i64 s.c.focus))).trans (aM.setLow _ (p:=⟨w.heap.size+1,7,none⟩) (by simp only;omega) (.int .i64 s.t.log))).trans (aM.setLow _ (p:=⟨w.heap.size+1,8,none⟩) (by simp only;omega) (.slice p1 s.t.px.length q1))).trans (aM.setLow _ (p:=⟨w.heap.size+1,9,none⟩) (by simp only;omega) (.slice (some ⟨q2.heap.size,0,none⟩) s.ps.length s.ps.length))).trans (aM.setLow _ (p:=⟨w.heap.size+1,10,none⟩) (by simp only;omega) (.slice (some ⟨q0.heap.size,0,none⟩) s.m s.m))).trans (aM.setLow _ (p:=⟨w.heap.size+1,11,none⟩) (by simp only;omega) (.int .i64 s.side))));have a7:=hid (HM.same ((((((((((((aM.setLow q6 (p:=⟨w.heap.size+1,0,none⟩) (by simp only;omega) (.int .i64 s.c.w)).trans (aM.setLow _ (p:=⟨w.heap.size+1,1,none⟩) (by simp only;omega) (.int .i64 s.c.h))).trans (aM.setLow _ (p:=⟨w.heap.size+1,2,none⟩) (by simp only;omega) (.int .i64 s.c.zoom))).trans (aM.setLow _ (p:=⟨w.heap.size+1,3,none⟩) (by simp only;omega) (.int .i64 s.c.near))).trans (aM.setLow _ (p:=⟨w.heap.size+1,4,none⟩) (by simp only;omega) (.bool s.c.deep))).trans (aM.setLow _ (p:=⟨w.heap.size+1,5,none⟩) (by simp only;omega) (.int .i64 s.c.lens))).trans (aM.setLow _ (p:=⟨w.heap.size+1,6,none⟩) (by simp only;omega) (.int .i64 s.c.focus))).trans (aM.setLow _ (p:=⟨w.heap.size+1,7,none⟩) (by simp only;omega) (.int .i64 s.t.log))).trans (aM.setLow _ (p:=⟨w.heap.size+1,8,none⟩) (by simp only;omega) (.slice p1 s.t.px.length q1))).trans (aM.setLow _ (p:=⟨w.heap.size+1,9,none⟩) (by simp only;omega) (.slice (some ⟨q2.heap.size,0,none⟩) s.ps.length s.ps.length))).trans (aM.setLow _ (p:=⟨w.heap.size+1,10,none⟩) (by simp only;omega) (.slice (some ⟨q0.heap.size,0,none⟩) s.m s.m))).trans (aM.setLow _ (p:=⟨w.heap.size+1,11,none⟩) (by simp only;omega) (.int .i64 s.side))));have z8:=hid (q4.same ((((((((((((aM.setLow q6 (p:=⟨w.heap.size+1,0,none⟩) (by simp only;omega) (.int .i64 s.c.w)).trans (aM.setLow _ (p:=⟨w.heap.size+1,1,none⟩) (by simp only;omega) (.int .i64 s.c.h))).trans (aM.setLow _ (p:=⟨w.heap.size+1,2,none⟩) (by simp only;omega) (.int .i64 s.c.zoom))).trans (aM.setLow _ (p:=⟨w.heap.size+1,3,none⟩) (by simp only;omega) (.int .i64 s.c.near))).trans (aM.setLow _ (p:=⟨w.heap.size+1,4,none⟩) (by simp only;omega) (.bool s.c.deep))).trans (aM.setLow _ (p:=⟨w.heap.size+1,5,none⟩) (by simp only;omega) (.int .i64 s.c.lens))).trans (aM.setLow _ (p:=⟨w.heap.size+1,6,none⟩) (by simp only;omega) (.int .i64 s.c.focus))).trans (aM.setLow _ (p:=⟨w.heap.size+1,7,none⟩) (by simp only;omega) (.int .i64 s.t.log))).trans (aM.setLow _ (p:=⟨w.heap.size+1,8,none⟩) (by simp only;omega) (.slice p1 s.t.px.length q1))).trans (aM.setLow _ (p:=⟨w.heap.size+1,9,none⟩) (by simp only;omega) (.slice (some ⟨q2.heap.size,0,none⟩) s.ps.length s.ps.length))).trans (aM.setLow _ (p:=⟨w.heap.size+1,10,none⟩) (by simp only;omega) (.slice (some ⟨q0.heap.size,0,none⟩) s.m s.m))).trans (aM.setLow _ (p:=⟨w.heap.size+1,11,none⟩) (by simp only;omega) (.int .i64 s.side))));have z7:=hid (q3.same ((((((((((((aM.setLow q6 (p:=⟨w.heap.size+1,0,none⟩) (by simp only;omega) (.int .i64 s.c.w)).trans (aM.setLow _ (p:=⟨w.heap.size+1,1,none⟩) (by simp only;omega) (.int .i64 s.c.h))).trans (aM.setLow _ (p:=⟨w.heap.size+1,2,none⟩) (by simp only;omega) (.int .i64 s.c.zoom))).trans (aM.setLow _ (p:=⟨w.heap.size+1,3,none⟩) (by simp only;omega) (.int .i64 s.c.near))).trans (aM.setLow _ (p:=⟨w.heap.size+1,4,none⟩) (by simp only;omega) (.bool s.c.deep))).trans (aM.setLow _ (p:=⟨w.heap.size+1,5,none⟩) (by simp only;omega) (.int .i64 s.c.lens))).trans (aM.setLow _ (p:=⟨w.heap.size+1,6,none⟩) (by simp only;omega) (.int .i64 s.c.focus))).trans (aM.setLow _ (p:=⟨w.heap.size+1,7,none⟩) (by simp only;omega) (.int .i64 s.t.log))).trans (aM.setLow _ (p:=⟨w.heap.size+1,8,none⟩) (by simp only;omega) (.slice p1 s.t.px.length q1))).trans (aM.setLow _ (p:=⟨w.heap.size+1,9,none⟩) (by simp only;omega) (.slice (some ⟨q2.heap.size,0,none⟩) s.ps.length s.ps.length))).trans (aM.setLow _ (p:=⟨w.heap.size+1,10,none⟩) (by simp only;omega) (.slice (some ⟨q0.heap.size,0,none⟩) s.m s.m))).trans (aM.setLow _ (p:=⟨w.heap.size+1,11,none⟩) (by simp only;omega) (.int .i64 s.side))));have z6:=hid (q9.same ((((((((((((aM.setLow q6 (p:=⟨w.heap.size+1,0,none⟩) (by simp only;omega) (.int .i64 s.c.w)).trans (aM.setLow _ (p:=⟨w.heap.size+1,1,none⟩) (by simp only;omega) (.int .i64 s.c.h))).trans (aM.setLow _ (p:=⟨w.heap.size+1,2,none⟩) (by simp only;omega) (.int .i64 s.c.zoom))).trans (aM.setLow _ (p:=⟨w.heap.size+1,3,none⟩) (by simp only;omega) (.int .i64 s.c.near))).trans (aM.setLow _ (p:=⟨w.heap.size+1,4,none⟩) (by simp only;omega) (.bool s.c.deep))).trans (aM.setLow _ (p:=⟨w.heap.size+1,5,none⟩) (by simp only;omega) (.int .i64 s.c.lens))).trans (aM.setLow _ (p:=⟨w.heap.size+1,6,none⟩) (by simp only;omega) (.int .i64 s.c.focus))).trans (aM.setLow _ (p:=⟨w.heap.size+1,7,none⟩) (by simp only;omega) (.int .i64 s.t.log))).trans (aM.setLow _ (p:=⟨w.heap.size+1,8,none⟩) (by simp only;omega) (.slice p1 s.t.px.length q1))).trans (aM.setLow _ (p:=⟨w.heap.size+1,9,none⟩) (by simp only;omega) (.slice (some ⟨q2.heap.size,0,none⟩) s.ps.length s.ps.length))).trans (aM.setLow _ (p:=⟨w.heap.size+1,10,none⟩) (by simp only;omega) (.slice (some ⟨q0.heap.size,0,none⟩) s.m s.m))).trans (aM.setLow _ (p:=⟨w.heap.size+1,11,none⟩) (by simp only;omega) (.int .i64 s.side))));have z9:=hid (x2.same ((((((((((((aM.setLow q6 (p:=⟨w.heap.size+1,0,none⟩) (by simp only;omega) (.int .i64 s.c.w)).trans (aM.setLow _ (p:=⟨w.heap.size+1,1,none⟩) (by simp only;omega) (.int .i64 s.c.h))).trans (aM.setLow _ (p:=⟨w.heap.size+1,2,none⟩) (by simp only;omega) (.int .i64 s.c.zoom))).trans (aM.setLow _ (p:=⟨w.heap.size+1,3,none⟩) (by simp only;omega) (.int .i64 s.c.near))).trans (aM.setLow _ (p:=⟨w.heap.size+1,4,none⟩) (by simp only;omega) (.bool s.c.deep))).trans (aM.setLow _ (p:=⟨w.heap.size+1,5,none⟩) (by simp only;omega) (.int .i64 s.c.lens))).trans (aM.setLow _ (p:=⟨w.heap.size+1,6,none⟩) (by simp only;omega) (.int .i64 s.c.focus))).trans (aM.setLow _ (p:=⟨w.heap.size+1,7,none⟩) (by simp only;omega) (.int .i64 s.t.log))).trans (aM.setLow _ (p:=⟨w.heap.size+1,8,none⟩) (by simp only;omega) (.slice p1 s.t.px.length q1))).trans (aM.setLow _ (p:=⟨w.heap.size+1,9,none⟩) (by simp only;omega) (.slice (some ⟨q2.heap.size,0,none⟩) s.ps.length s.ps.length))).trans (aM.setLow _ (p:=⟨w.heap.size+1,10,none⟩) (by simp only;omega) (.slice (some ⟨q0.heap.size,0,none⟩) s.m s.m))).trans (aM.setLow _ (p:=⟨w.heap.size+1,11,none⟩) (by simp only;omega) (.int .i64 s.side))));have c6:=X9.out;clear B9 HT HP HF;go_wp2;refine bodyPost_ret (v:=.agg #[s.c.w,s.c.h,s.c.zoom,s.c.near,.bool s.c.deep,s.c.lens,s.c.focus,s.t.log,.slice p1 s.t.px.length q1,.slice (some ⟨q2.heap.size,0,none⟩) s.ps.length s.ps.length,.slice (some ⟨q0.heap.size,0,none⟩) s.m s.m,s.side]) (by simp [results,results11,go_sem, *]) rfl ?_;refine ⟨_,rfl,⟨p1,q1,_,_,_,_,rfl,⟨_,_,_,rfl,y5,y7,y8,a6.out.wide (by omega) (by simp;omega),z8.out.wide (by omega) (by simp;omega),z6.out.wide (by omega) (by simp;omega)⟩,a7.out.wide (by omega) (by simp;omega),z7.out.wide (by omega) (by simp;omega),?_⟩,S_⟩;obtain ⟨a,cap,e1,e2,e3,e4⟩:=z9.out;exact ⟨a,cap,e1,e2,e3,fun i hi=>by obtain ⟨b,a8,e,h1,h2⟩:=e4 i hi;exact ⟨b,a8,e,h1.wide (by omega) (by simp;omega),h2.wide (by omega) (by simp;omega)⟩⟩
theorem aDb (lo hi lo' hi':Nat) (v v':Value) (s:Scn) (w:World) (hv:s.R lo hi w v) (hh:hi<=w.heap.size) (hv':s.R lo' hi' w v') (hh':hi'<=w.heap.size) :
  R_ 14 #[v,v'] w (.bool true):=by
 obtain ⟨tu,pu,su,rfl,-,h0,-,k1,k2,k3⟩:=hv;obtain ⟨h2,h3,h4,rfl,-,h1,-,h6,h7,h8⟩:=hv';have HT:=hid (show cT lo hi w (.agg #[s.t.log,tu]) s.t from ⟨_,rfl,h0,k1⟩);have q1:=hid (show cT lo' hi' w (.agg #[s.t.log,h2]) s.t from ⟨_,rfl,h0,h6⟩);have HP:=hid k2;have q0:=hid h7;have HF:=hid k3;have h9:=hid h8;have x0:Ext w ((w.alloc (.cells #[s.c.w,s.c.h,s.c.zoom,s.c.near,.bool s.c.deep,s.c.lens,s.c.focus,s.t.log,tu,pu,su,s.side] 40)).alloc (.cells #[s.c.w,s.c.h,s.c.zoom,s.c.near,.bool s.c.deep,s.c.lens,s.c.focus,s.t.log,h2,h3,h4,s.side] 40)):=X_;have b0:=(aRr w 40 [s.c.w,s.c.h,s.c.zoom,s.c.near,.bool s.c.deep,s.c.lens,s.c.focus,s.t.log,tu,pu,su,s.side]).ext (show Ext (w.alloc (.cells #[s.c.w,s.c.h,s.c.zoom,s.c.near,.bool s.c.deep,s.c.lens,s.c.focus,s.t.log,tu,pu,su,s.side] 40)) ((w.alloc (.cells #[s.c.w,s.c.h,s.c.zoom,s.c.near,.bool s.c.deep,s.c.lens,s.c.focus,s.t.log,tu,pu,su,s.side] 40)).alloc (.cells #[s.c.w,s.c.h,s.c.zoom,s.c.near,.bool s.c.deep,s.c.lens,s.c.focus,s.t.log,h2,h3,h4,s.side] 40)) from X_);have r0:=aRr (w.alloc (.cells #[s.c.w,s.c.h,s.c.zoom,s.c.near,.bool s.c.deep,s.c.lens,s.c.focus,s.t.log,tu,pu,su,s.side] 40)) 40 [s.c.w,s.c.h,s.c.zoom,s.c.near,.bool s.c.deep,s.c.lens,s.c.focus,s.t.log,h2,h3,h4,s.side];rw [aRj] at r0;have B0:=hid b0;have R0:=hid r0;have X0:=hid x0;clear h0 h1 k1 k2 k3 h6 h7 h8 b0 r0 x0;go_enter func14,ntmps14;go_upto_region 1 with fail
 obtain ⟨WA,h5⟩:∃WA,((w.alloc (.cells #[s.c.w,s.c.h,s.c.zoom,s.c.near,.bool s.c.deep,s.c.lens,s.c.focus,s.t.log,tu,pu,su,s.side] 40)).alloc (.cells #[s.c.w,s.c.h,s.c.zoom,s.c.near,.bool s.c.deep,s.c.lens,s.c.focus,s.t.log,h2,h3,h4,s.side] 40))=WA:=⟨_,rfl⟩
 rw [h5] at B0 R0 X0 ⊢;clear h5;have b0:=B0.cell 0 rfl;have r0:=R0.cell 0 rfl;have b1:=B0.cell 1 rfl;have r1:=R0.cell 1 rfl;have b2:=B0.cell 2 rfl;have r2:=R0.cell 2 rfl;have b3:=B0.cell 3 rfl;have r3:=R0.cell 3 rfl;have b4:=B0.cell 4 rfl;have r4:=R0.cell 4 rfl;have b5:=B0.cell 5 rfl;have r5:=R0.cell 5 rfl;have b6:=B0.cell 6 rfl;have r6:=R0.cell 6 rfl;have bl:=B0.lt;have rl:=R0.lt;go_wp2_with fail;refine r_ (aAm _ _ _ _ _ _ _ _) fun w1 x1=>?_;have B1:=hid (B0.ext x1);have R1:=hid (R0.ext x1);have X1:=hid (X0.trans x1);clear B0 R0 X0 x1 bl rl b0 r0 b1 r1 b2 r2 b3 r3 b4 r4 b5 r5 b6 r6;have b7:=B1.cell 7 rfl;have r7:=R1.cell 7 rfl;have b8:=B1.cell 8 rfl;have r8:=R1.cell 8 rfl;have bl:=B1.lt;have rl:=R1.lt;go_wp2_with fail;refine r_ (wH lo hi lo' hi' _ _ s.t _ (HT.ext hh X1) (aRq hh X1.size) (q1.ext hh' X1) (aRq hh' X1.size)) fun w2 x2=>?_;have B2:=hid (B1.ext x2);have R2:=hid (R1.ext x2);have X2:=hid (X1.trans x2);clear B1 R1 X1 x2 bl rl b7 r7 b8 r8;have b9:=B2.cell 9 rfl;have r9:=R2.cell 9 rfl;have bl:=B2.lt;have rl:=R2.lt;go_wp2_with fail;refine r_ (vF lo hi lo' hi' _ _ s.ps _ (HP.ext hh X2) (q0.ext hh' X2) (aRq hh X2.size) (aRq hh' X2.size)) fun w3 x3=>?_;have B3:=hid (B2.ext x3);have R3:=hid (R2.ext x3);have X3:=hid (X2.trans x3);clear B2 R2 X2 x3 bl rl b9 r9;have q2:=B3.cell 10 rfl;have q3:=R3.cell 10 rfl;have bl:=B3.lt;have rl:=R3.lt;go_wp2_with fail;refine r_ (vG lo hi lo' hi' _ _ s.m s.F _ (HF.ext hh X3) (h9.ext hh' X3) (aRq hh X3.size) (aRq hh' X3.size)) fun w4 x4=>?_;have B4:=hid (B3.ext x4);have R4:=hid (R3.ext x4);have X4:=hid (X3.trans x4);clear B3 R3 X3 x4 bl rl q2 q3;have q4:=B4.cell 11 rfl;have q5:=R4.cell 11 rfl;have bl:=B4.lt;have rl:=R4.lt;go_wp2;go_ret;exact ⟨rfl,X4⟩
def Off (v:Value) (l h:Nat):Prop:=∀k,v.ownBlock=some k->k<l\/h<=k
def dQ (lo:Nat) (w:World) (v v2:Value) (rows:List (List Int)):Prop:=
 ∃us:List Value,us.length=rows.length/\aE (fun u=>[u]) lo 24 1 w v us/\∀(k:Nat) (u:Value) (r:List Int),us[k]?=some u->rows[k]?=some r->∃l h,lo<=l/\h<=w.heap.size/\aS l h w u r/\Off v l h/\Off v2 l h
theorem dQ.ext {rows:List (List Int)} (h:dQ lo w v v2 rows) (x:Ext w w'):dQ lo w' v v2 rows:=by
 obtain ⟨us,h1,h2,h3⟩:=h;refine ⟨us,h1,h2.ext x,fun k u r hu hr=>?_⟩;obtain ⟨l,h,a0,a1,a2,a3,a4⟩:=h3 k u r hu hr;exact ⟨l,h,a0,aRq a1 x.size,a2.ext a1 x,a3,a4⟩
theorem dQ.low {rows:List (List Int)} (h:dQ lo w v v2 rows) (hl:lo'<=lo):dQ lo' w v v2 rows:=by
 obtain ⟨us,h1,h2,h3⟩:=h;refine ⟨us,h1,h2.low hl,fun k u r hu hr=>?_⟩;obtain ⟨l,h,a0,a⟩:=h3 k u r hu hr;exact ⟨l,h,aRq hl a0,a⟩
theorem dQ.nil (h:aE (fun u:Value=>[u]) lo 24 1 w v []):dQ lo w v v2 []:=
 ⟨[],rfl,h,fun k u r hu _=>by simp at hu⟩
theorem dQ.ints {rows:List (List Int)} (h:dQ lo w v v2 rows):∃us:List Value,us.length=rows.length/\Rd (fun u=>[u]) lo w.heap.size w v us/\∀(k:Nat) (u:Value) (r:List Int),us[k]?=some u->rows[k]?=some r->aS 0 w.heap.size w u r:=by
 obtain ⟨us,h1,h2,h3⟩:=h;refine ⟨us,h1,h2.rd (fun _=>rfl),fun k u r hu hr=>?_⟩;obtain ⟨l,h,-,a1,a2,-,-⟩:=h3 k u r hu hr;exact a2.wide (aS1 _) a1
theorem aS.grown {r:List Int} (hi:aS l h w u r) (hh:h<=w.heap.size) {row:Option Nat} (hg:w.grownBy w' row) (ho:∀k,row=some k->k<l\/h<=k):aS l h w' u r:=
 hi.same fun k h1 h2=>hg.block k (by omega) fun e=>by
  have:=ho k e.symm;omega
theorem dQ.push {v':Value} {rows:List (List Int)} {r:List Int} {us:List Value} (h1:us.length=rows.length)
  (h3:∀(k:Nat) (u:Value) (r:List Int),us[k]?=some u->rows[k]?=some r->∃l h,lo<=l/\h<=w.heap.size/\aS l h w u r/\Off v l h/\Off v2 l h)
  (hg:w.grownBy w' v.ownBlock) (hown:aE (fun u=>[u]) lo 24 1 w' v' (us++[u])) (hn:∀k,v'.ownBlock=some k->v.ownBlock=some k\/w.heap.size<=k)
 (hlo:lo<=l) (hh:h<=w.heap.size) (hu:aS l h w u r) (o1:Off v l h) (o2:Off v2 l h):dQ lo w' v' v2 (rows++[r]):=by
 have h0:∀{l h:Nat},h<=w.heap.size->Off v l h->Off v' l h:=fun hh o k e=>by
  rcases hn k e with e1|e1
  ·exact o k e1
  ·omega
 refine ⟨us++[u],by simp [h1],hown,fun k u' r' hu' hr'=>?_⟩
 rcases aSo k us.length with hk|hk
 ·rw [aSz hk] at hu'
  rw [aSz (by omega)] at hr';obtain ⟨l',h',a0,a1,a2,a3,a4⟩:=h3 k u' r' hu' hr';exact ⟨l',h',a0,aRq a1 hg.size,a2.grown a1 hg a3,h0 a1 a3,a4⟩
 ·rw [aSm hk] at hu'
  rw [aSm (by omega)] at hr'
  obtain ⟨i,hi⟩:∃i,k - us.length=i:=⟨_,rfl⟩
  rw [hi] at hu';rw [show k - rows.length=i by omega] at hr'
  cases i with
  | zero=>
   simp only [aRg,aRl] at hu' hr';subst hu' hr';exact ⟨l,h,hlo,aRq hh hg.size,hu.grown hh hg o1,h0 hh o1,o2⟩
  | succ i=>simp at hu'
theorem dQ.beside {v2':Value} {rows:List (List Int)} (hr:dQ lo w v v2 rows) (hg:w.grownBy w' v2.ownBlock) (hn:∀k,v2'.ownBlock=some k->v2.ownBlock=some k\/w.heap.size<=k)
  (hk:∀us:List Value,aE (fun u=>[u]) lo 24 1 w v us->aE (fun u=>[u]) lo 24 1 w' v us):dQ lo w' v v2' rows:=by
 obtain ⟨us,h1,h2,h3⟩:=hr;refine ⟨us,h1,hk us h2,fun k u r hu hr=>?_⟩;obtain ⟨l,h,a0,a1,a2,a3,a4⟩:=h3 k u r hu hr;refine ⟨l,h,a0,aRq a1 hg.size,a2.grown a1 hg a4,a3,fun k e=>?_⟩
 rcases hn k e with e1|e1
 ·exact a4 k e1
 ·omega
theorem dQ.setLow {rows:List (List Int)} (h:dQ lo w v v2 rows) (hp:p.block<lo) (x:Value):dQ lo (w.setCell p x) v v2 rows:=by
 obtain ⟨us,h1,h2,h3⟩:=h;refine ⟨us,h1,aE.of h2 fun b c hb hc=>(aRt _ _ _ _ (by omega)).trans hc,fun k u r hu hr=>?_⟩;obtain ⟨l,h,a0,a1,a2,a3,a4⟩:=h3 k u r hu hr;exact ⟨l,h,a0,by rw [aS6];exact a1,a2.same (fun k k1 k2=>aRt _ _ _ _ (by omega)),a3,a4⟩
def sV (s:Scn) (j:Nat):List (List Int):=(aR6 j).map fun k=>(s.shade k).1
def aDc (s:Scn) (j:Nat):List (List Int):=(aR6 j).map fun k=>(s.shade k).2
theorem aHg (s:Scn) (j:Nat):sV s (j+1)=sV s j++[(s.shade j).1]:=nH _ _
theorem aJ9 (s:Scn) (j:Nat):aDc s (j+1)=aDc s j++[(s.shade j).2]:=nH _ _
theorem aL5 (s:Scn) {j:Nat} (h:k<j):(sV s j)[k]?=some (s.shade k).1:=by simp [sV,h]
theorem aN1 (s:Scn) {j:Nat} (h:k<j):(aDc s j)[k]?=some (s.shade k).2:=by simp [aDc,h]
theorem sW (s:Scn) (j:Nat):(sV s j).length=j:=by simp [sV]
theorem uZ (s:Scn) (j:Nat):(aDc s j).length=j:=by simp [aDc]
theorem yW:(Tryz.prog.info? 24).map (fun i=>(i.zero,i.size,i.bytes))=some (some (.slice none 0 0),1,24):=by kernel_rfl
theorem aKa:(Tryz.prog.info? 78).map (·.size)=some 2:=by kernel_rfl
theorem aS.formS {r:List Int} (hi:aS l h w u r):∃a c,u = .slice a r.length c:=by
 obtain ⟨a,c,e,-⟩:=hi;exact ⟨a,c,e⟩
def aL6 (v v2:Value):Prop:=∀k,v.ownBlock=some k->v2.ownBlock≠some k
structure aFd (s:Scn) (lo:Nat) (w:World) (cv av:Value) (j:Nat):Prop where
 c:dQ lo w cv av (sV s j)
 a:dQ lo w av cv (aDc s j)
 ap:aL6 cv av
theorem aFd.ext {s:Scn} {j:Nat} {cv av:Value} (h:aFd s lo w cv av j) (x:Ext w w'):aFd s lo w' cv av j:=⟨h.c.ext x,h.a.ext x,h.ap⟩
theorem aE.otherRow {α : Type} {cs : α->List Value} {xs:List α} (h:aE cs lo e sz w v xs) (hg:w.grownBy w' v2.ownBlock) (ap:∀k,v.ownBlock=some k->v2.ownBlock≠some k):aE cs lo e sz w' v xs:=by
 refine ⟨h.1,?_⟩
 rcases h.2 with hn|⟨g,cap,cur,hv,hb,hg2,r⟩
 ·exact .inl hn
 ·exact .inr ⟨g,cap,cur,hv,hb,(hg.block g (Array.getElem?_eq_some_iff.1 hg2).1 (fun e=>ap g (by rw [hv];rfl) e.symm)).trans hg2,r⟩
theorem dQ.lt {rows:List (List Int)} (h:dQ lo w v v2 rows):∀k,v.ownBlock=some k->lo<=k/\k<w.heap.size:=by
 obtain ⟨us,-,h2,-⟩:=h;exact h2.lt
theorem aL7 (s:Scn) (lo hi:Nat) (v:Value) (w:World) (hv:s.R lo hi w v) (hh:hi<=w.heap.size) (ho:s.Ok) (hsm:s.small) :
  Calls aRn 48 #[v] w fun e w'=>∃cv av,e = .returned (.agg #[cv,av])/\aFd s w.heap.size w' cv av s.m/\Ext w w':=by
 have HV:=hid hv;have b5:=ho.m;obtain ⟨a1,c1,a2,c2,a3,c3,rfl⟩:=hv.formV;have b3:=hid hsm;have HO:=hid ho;have x0:Ext w (((w.alloc (.cells (sA_ s a1 c1 a2 c2 a3 c3) 40)).alloc (.cells #[.slice none 0 0,.slice none 0 0] 78)).alloc (.cells #[.slice none 0 0,.slice none 0 0] 78)):=X_;have bS:=((aRr w 40 (sL_ s a1 c1 a2 c2 a3 c3)).ext (show Ext _ ((w.alloc (.cells (sA_ s a1 c1 a2 c2 a3 c3) 40)).alloc (.cells #[.slice none 0 0,.slice none 0 0] 78)) from X_)).ext (show Ext _ (((w.alloc (.cells (sA_ s a1 c1 a2 c2 a3 c3) 40)).alloc (.cells #[.slice none 0 0,.slice none 0 0] 78)).alloc (.cells #[.slice none 0 0,.slice none 0 0] 78)) from X_);have bR:=(aRr (w.alloc (.cells (sA_ s a1 c1 a2 c2 a3 c3) 40)) 78 [.slice none 0 0,.slice none 0 0]).ext (show Ext _ (((w.alloc (.cells (sA_ s a1 c1 a2 c2 a3 c3) 40)).alloc (.cells #[.slice none 0 0,.slice none 0 0] 78)).alloc (.cells #[.slice none 0 0,.slice none 0 0] 78)) from X_);have bO:=aRr ((w.alloc (.cells (sA_ s a1 c1 a2 c2 a3 c3) 40)).alloc (.cells #[.slice none 0 0,.slice none 0 0] 78)) 78 [.slice none 0 0,.slice none 0 0];simp only [aRj] at bR bO
 obtain ⟨W0,z9⟩:∃W0,((w.alloc (.cells (sA_ s a1 c1 a2 c2 a3 c3) 40)).alloc (.cells #[.slice none 0 0,.slice none 0 0] 78)).alloc (.cells #[.slice none 0 0,.slice none 0 0] 78)=W0:=⟨_,rfl⟩
 rw [z9] at x0 bS bR bO;have y8:=hid x0;have z2:=hid bS;have y6:=hid bR;have y4:=hid bO;have y7:=hid z9
 have z0:w.heap.size+2<W0.heap.size:=by have:=bO.lt;omega
 clear hv ho hsm x0 bS bR bO z9;go_enter func48,ntmps48;go_upto_region 2 with fail
 try simp only [aRj]
 rw [y7];have z8:=z2.cell 10 rfl;go_wp2_with fail;clear z8
 go_loopw [12] (fun i wr=>∃(k:Nat) (cv av:Value),k<=s.m/\i = .int .i64 (k:Nat)/\Ext w wr/\Blk wr w.heap.size 40 (sL_ s a1 c1 a2 c2 a3 c3)/\Blk wr (w.heap.size+1) 78 [.slice none 0 0,.slice none 0 0]/\Blk wr (w.heap.size+2) 78 [cv,av]/\aFd s (w.heap.size+3) wr cv av k) (fun i _=>s.m - (intOf i).toNat)
 case atStart=>exact ⟨0,_,_,by omega,rfl,y8,z2,y6,y4,dQ.nil (aE.nil _ _ _ _ _),dQ.nil (aE.nil _ _ _ _ _),fun k e=>nomatch e⟩
 case round=>
  obtain ⟨k,cv,av,hk,rfl,hx,hs,hr,hb,hd⟩:=hrel;have HX:=hid hx;have HS:=hid hs;have HR:=hid hr;have HB:=hid hb;have HD:=hid hd;have zr:=hb.lt;clear y8 z2 y6 y4 y7 z0
  rcases aSo k s.m with hlt|hge
  ·have b6:=b5
   have c:=hs.lt;obtain ⟨c0,c1,c2,c3,c4,c5,c6,c7,c8,c9,z8,b4⟩:=hs.q12;clear hx hs hr hb hd;go_wp2_with fail;have CH:=sR s lo hi _ k _ (HV.ext hh HX) (aRq hh HX.size) HO b3 hlt;refine CH.mono ?_;clear CH;rintro e w1 ⟨r1,r2,rfl,i1,i2,x1⟩;have D1:=hid (HD.ext x1);have h9:=hid (HB.ext x1);have z4:=hid (HS.ext x1);have z1:=hid (HR.ext x1);have z6:=hid (HX.trans x1);have zw:=x1.size;obtain ⟨ra,rc,rfl⟩:=i1.formS;obtain ⟨qa,qc,rfl⟩:=i2.formS;obtain ⟨us,h1,h2,h3⟩:=D1.c;obtain ⟨ca,cc,rfl,-⟩:=h2.form;obtain ⟨q7,k1,k2,k3⟩:=D1.a;obtain ⟨aa,ac,rfl,-⟩:=k2.form;have L0:=hid HD.c.lt;have L1:=hid HD.a.lt;have I1:=hid i1;have I2:=hid i2;have H1:=hid h1;have H2:=hid h2;have H3:=hid h3;have K1:=hid k1
   have a6:us.length<1000000:=by rw [h1,sW];omega
   have z5:=hid a6;clear x1 i1 i2 c c0 c1 c2 c3 c4 c5 c6 c7 c8 c9 z8 b4 h1 h2 h3 k1 k2 k3 a6;have b:=h9.lt;obtain ⟨b0,b1⟩:=h9.q2;have y1:Ext w1 (w1.alloc (.cells #[.slice ra (s.shade k).1.length rc] 24)):=X_;have HE:=hid (aRr w1 24 [.slice ra (s.shade k).1.length rc]);have Y1:=hid y1;clear y1
   have x7:Hid (∀j,j<1->(w1.alloc (.cells #[.slice ra (s.shade k).1.length rc] 24)).cell? ⟨w1.heap.size,j,none⟩=[aS2 ra (s.shade k).1.length rc][j]?):=hid (fun j hj=>by
    obtain rfl:j=0:=by omega
    exact HE.cell 0 rfl)
   have x8:Hid (∀u∈[aS2 ra (s.shade k).1.length rc],u.oneCell'=true):=hid (fun u hu=>by
    rw [aUm] at hu;subst hu
    rfl)
   have x9:=hid (show w.heap.size+3<=(w1.alloc (.cells #[.slice ra (s.shade k).1.length rc] 24)).heap.size by simp;omega);have q6:=hid (H2.ext Y1);have a9:=hid (fun e:(w.heap.size+2)=0=>e);have h6:=aE.rowE q6;have q0:=hid (h9.ext Y1);have h7:=hid (show ∀q,q<w.heap.size+3->some q≠(aS2 ca us.length cc).ownBlock from fun q hq e=>by have:=(h6 q e.symm).1;omega)
   have a0:w.heap.size+2<w.heap.size+3:=by omega
   have x6:=hid a0;clear b b0 b1 a0 h6;have b:=h9.lt;obtain ⟨b0,b1⟩:=h9.q2;go_upto_region 7 with (at_builtin;refine iT (fun u=>[u]) 24 1 24 _ _ rfl _ _ 76 rfl underlying76 yW rfl (by decide) (by decide) (fun _=>rfl) (w.heap.size+3) (.slice ca us.length cc) us rfl q6 (.slice ra (s.shade k).1.length rc) w1.heap.size rfl x7 x8 z5 x9 ?_;intro v2 w2 h5 hg x3;obtain ⟨va,vc,rfl,-⟩:=aE.form h5;have h4:=hid (q0.grown hg (h7 _ x6));have e0:=h4.cell 0 rfl;have e1:=h4.cell 1 rfl;have f0:=h4.free 0;have f1:=h4.free 1;have lb:=h4.lt;have q1:=hid h5;have HG:=hid hg;have h8:=hid x3;clear h5 hg x3)
   obtain ⟨nu,b7⟩:∃n,(us++[aS2 ra (s.shade k).1.length rc]).length=n:=⟨_,rfl⟩
   have y2:(w1.alloc (.cells #[.slice ra (s.shade k).1.length rc] 24)).heap.size=w1.heap.size+1:=aRj _ _
   have P1:dQ (w.heap.size+3) w2 (.slice va (us++[aS2 ra (s.shade k).1.length rc]).length vc) (.slice aa q7.length ac) (sV s (k+1)):=by
    rw [aHg];refine dQ.push (v:=.slice ca us.length cc) (w:=w1.alloc (.cells #[.slice ra (s.shade k).1.length rc] 24)) H1 (fun k' u r hu hr=>?_) HG q1 h8 (l:=wr.heap.size) (h:=w1.heap.size) (by omega) (by omega) ((I1.ext (aRi _) Y1)) ?_ ?_
    ·obtain ⟨l,h,e0,e1,e2,e3,e4⟩:=H3 k' u r hu hr
     exact ⟨l,h,e0,aRq e1 (by omega),e2.ext e1 Y1,e3,e4⟩
    ·intro b e
     exact .inl (L0 b e).2
    ·intro b e
     exact .inl (L1 b e).2
   have P2:dQ (w.heap.size+3) w2 (.slice aa q7.length ac) (.slice va (us++[aS2 ra (s.shade k).1.length rc]).length vc) (aDc s k):=by
    refine (D1.a.ext Y1).beside HG h8 fun us' ho=>ho.otherRow HG fun b e e2=>D1.ap b e2 e
   have P3:aL6 (.slice va (us++[aS2 ra (s.shade k).1.length rc]).length vc) (.slice aa q7.length ac):=by
    intro b e e2
    rcases h8 b e with h|h
    ·exact D1.ap b h e2
    ·have:=(L1 b e2).2
     omega
   have q9:=hid ((z4.ext Y1).grown HG (h7 _ (by omega)));have q8:=hid ((z1.ext Y1).grown HG (h7 _ (by omega)));have x2:=hid (aSt (z6.trans Y1) HG (fun k e=>Nat.le_of_not_lt fun h=>h7.out k (by omega) e.symm))
   have b8:w1.heap.size+1<=w2.heap.size:=by have:=HG.size;omega
   have y5:=hid (I2.same (w':=w2) (fun b b1 b2=>(HG.block b (by omega) (fun e=>by
     have:=(L0 b e.symm).2
     omega)).trans (Y1.block b2)))
   have q3:=hid P1;have q5:=hid P2;have q4:=hid P3;have y9:=hid L1
   have z7:Hid (∀b,(aS2 va (us++[aS2 ra (s.shade k).1.length rc]).length vc).ownBlock=some b->b<wr.heap.size\/w1.heap.size<=b):=hid (fun b e=>by
    rcases h8 b e with h|h
    ·exact .inl (L0 b h).2
    ·exact .inr (by omega))
   clear P1 P2 P3 e0 e1 f0 f1 lb b b0 b1 y2 b7 nu L0 L1
   have x4:(us++[aS2 ra (s.shade k).1.length rc]).length=us.length+1:=by simp
   rw [x4] at q3 q5 q4 z7
   obtain ⟨nc,a5⟩:∃n,us.length+1=n:=⟨_,rfl⟩
   rw [a5] at q3 q5 q4 z7 ⊢;have b9:=hid q3.lt;have B3:Blk (w2.setCell ⟨w.heap.size+1+1,0,none⟩ (.slice va nc vc)) (w.heap.size+2) 78 [.slice va nc vc,.slice aa q7.length ac]:=h4.set 0 (.slice va nc vc);have S3:Blk (w2.setCell ⟨w.heap.size+1+1,0,none⟩ (.slice va nc vc)) w.heap.size 40 (sL_ s a1 c1 a2 c2 a3 c3):=q9.other (by simp only;omega) _;have R3:Blk (w2.setCell ⟨w.heap.size+1+1,0,none⟩ (.slice va nc vc)) (w.heap.size+1) 78 [.slice none 0 0,.slice none 0 0]:=q8.other (by simp only;omega) _;have X3:Ext w (w2.setCell ⟨w.heap.size+1+1,0,none⟩ (.slice va nc vc)):=aR0 x2 (by simp only;omega) _;have P1:=q3.setLow (p:=⟨w.heap.size+1+1,0,none⟩) (by simp only;omega) (.slice va nc vc);have P2:=q5.setLow (p:=⟨w.heap.size+1+1,0,none⟩) (by simp only;omega) (.slice va nc vc);have I3:=y5.setLow (p:=⟨w.heap.size+1+1,0,none⟩) (by simp only;omega) (.slice va nc vc);have z3:(w2.setCell ⟨w.heap.size+1+1,0,none⟩ (.slice va nc vc)).heap.size=w2.heap.size:=aS6 _ _ _
   obtain ⟨wq,a7⟩:∃W,w2.setCell ⟨w.heap.size+1+1,0,none⟩ (.slice va nc vc)=W:=⟨_,rfl⟩
   rw [a7] at B3 S3 R3 X3 P1 P2 I3 z3 ⊢
   have d0:w1.heap.size+1<=wq.heap.size:=by omega
   obtain ⟨h0,k1,k2,k3⟩:=P2
   have x5:h0.length<1000000:=by rw [k1,uZ];omega
   obtain ⟨ab,ad,a4,-⟩:=k2.form;simp only [Value.slice.injEq] at a4;obtain ⟨rfl,y0,rfl⟩:=a4;rw [y0] at q4 B3 y9 k2 P1;simp only [y0] at k3;have L1:=hid k2.lt;have L0:=hid P1.lt;have h9:=hid B3;have z4:=hid S3;have z1:=hid R3;have z6:=hid X3;have a8:=hid P1;have y3:=hid q4;have I2:=hid I3;have H1:=hid k1;have H2:=hid k2;have H3:=hid k3;have z5:=hid x5;clear B3 S3 R3 X3 P1 I3 k1 k2 k3 x5 a7 q3 q5 q4 h4 q9 q8 x2 y5 x4 y0 HG h8 q1 x7 x8 x9 q6 HE Y1 q0 h7 x6 a9 z3 b8;have y1:Ext wq (wq.alloc (.cells #[.slice qa (s.shade k).2.length qc] 24)):=X_;have HE:=hid (aRr wq 24 [.slice qa (s.shade k).2.length qc]);have Y1:=hid y1;clear y1
   have x7:Hid (∀j,j<1->(wq.alloc (.cells #[.slice qa (s.shade k).2.length qc] 24)).cell? ⟨wq.heap.size,j,none⟩=[aS2 qa (s.shade k).2.length qc][j]?):=hid (fun j hj=>by
    obtain rfl:j=0:=by omega
    exact HE.cell 0 rfl)
   have x8:Hid (∀u∈[aS2 qa (s.shade k).2.length qc],u.oneCell'=true):=hid (fun u hu=>by
    rw [aUm] at hu;subst hu
    rfl)
   have x9:=hid (show w.heap.size+3<=(wq.alloc (.cells #[.slice qa (s.shade k).2.length qc] 24)).heap.size by simp;omega);have q6:=hid (H2.ext Y1);have h6:=aE.rowE q6;have q0:=hid (h9.ext Y1);have h7:=hid (show ∀q,q<w.heap.size+3->some q≠(aS2 aa h0.length ac).ownBlock from fun q hq e=>by have:=(h6 q e.symm).1;omega);have x6:=hid (show w.heap.size+2<w.heap.size+3 by omega);clear h6;have b:=h9.lt;obtain ⟨b0,b1⟩:=h9.q2;go_upto_region 8 with (at_builtin;refine iT (fun u=>[u]) 24 1 24 _ _ rfl _ _ 76 rfl underlying76 yW rfl (by decide) (by decide) (fun _=>rfl) (w.heap.size+3) (.slice aa h0.length ac) h0 rfl q6 (.slice qa (s.shade k).2.length qc) wq.heap.size rfl x7 x8 z5 x9 ?_;intro v4 w4 h5 hg x3;obtain ⟨vb,vd,rfl,-⟩:=aE.form h5;have h4:=hid (q0.grown hg (h7 _ x6));have e0:=h4.cell 0 rfl;have e1:=h4.cell 1 rfl;have f0:=h4.free 0;have f1:=h4.free 1;have lb:=h4.lt;have q1:=hid h5;have HG:=hid hg;have h8:=hid x3;clear h5 hg x3);have y2:(wq.alloc (.cells #[.slice qa (s.shade k).2.length qc] 24)).heap.size=wq.heap.size+1:=aRj _ _
   have P1:dQ (w.heap.size+3) w4 (.slice vb (h0++[aS2 qa (s.shade k).2.length qc]).length vd) (.slice va nc vc) (aDc s (k+1)):=by
    rw [aJ9];refine dQ.push (v:=.slice aa h0.length ac) (w:=wq.alloc (.cells #[.slice qa (s.shade k).2.length qc] 24)) H1 (fun k' u r hu hr=>?_) HG q1 h8 (l:=wr.heap.size) (h:=w1.heap.size) (by omega) (by omega) (I2.same (w':=wq.alloc (.cells #[.slice qa (s.shade k).2.length qc] 24)) (fun b b1 b2=>Y1.block (by omega))) ?_ ?_
    ·obtain ⟨l,h,e0,e1,e2,e3,e4⟩:=H3 k' u r hu hr
     exact ⟨l,h,e0,aRq e1 (by omega),e2.ext e1 Y1,e3,e4⟩
    ·intro b e
     exact .inl (y9 b e).2
    ·intro b e
     rcases z7 b e with h|h
     ·exact .inl h
     ·exact .inr h
   have P2:dQ (w.heap.size+3) w4 (.slice va nc vc) (.slice vb (h0++[aS2 qa (s.shade k).2.length qc]).length vd) (sV s (k+1)):=by
    refine (a8.ext Y1).beside HG h8 fun us' ho=>ho.otherRow HG fun b e e2=>y3 b e e2
   have P3:aL6 (.slice va nc vc) (.slice vb (h0++[aS2 qa (s.shade k).2.length qc]).length vd):=by
    intro b e e2
    rcases h8 b e2 with h|h
    ·exact y3 b e h
    ·have:=(L0 b e).2
     omega
   have q9:=hid ((z4.ext Y1).grown HG (h7 _ (by omega)));have q8:=hid ((z1.ext Y1).grown HG (h7 _ (by omega)));have x2:=hid (aSt (z6.trans Y1) HG (fun k e=>Nat.le_of_not_lt fun h=>h7.out k (by omega) e.symm));have q3:=hid P1;have q5:=hid P2;have q4:=hid P3;clear P1 P2 P3 e0 e1 f0 f1 lb b b0 b1 y2
   have x4:(h0++[aS2 qa (s.shade k).2.length qc]).length=h0.length+1:=by simp
   rw [x4] at q3 q5 q4;have B5:=hid (show Blk (w4.setCell ⟨w.heap.size+1+1,1,none⟩ (.slice vb (h0.length+1) vd)) (w.heap.size+2) 78 [.slice va nc vc,.slice vb (h0.length+1) vd] from h4.set 1 (.slice vb (h0.length+1) vd));have S5:=hid (show Blk (w4.setCell ⟨w.heap.size+1+1,1,none⟩ (.slice vb (h0.length+1) vd)) w.heap.size 40 (sL_ s a1 c1 a2 c2 a3 c3) from q9.other (by simp only;omega) _);have R5:=hid (show Blk (w4.setCell ⟨w.heap.size+1+1,1,none⟩ (.slice vb (h0.length+1) vd)) (w.heap.size+1) 78 [.slice none 0 0,.slice none 0 0] from q8.other (by simp only;omega) _);have X5:=hid (show Ext w (w4.setCell ⟨w.heap.size+1+1,1,none⟩ (.slice vb (h0.length+1) vd)) from aR0 x2 (by simp only;omega) _);have D5:=hid (aFd.mk (s:=s) (j:=k+1) (q5.setLow (p:=⟨w.heap.size+1+1,1,none⟩) (by simp only;omega) (.slice vb (h0.length+1) vd)) (q3.setLow (p:=⟨w.heap.size+1+1,1,none⟩) (by simp only;omega) (.slice vb (h0.length+1) vd)) q4);clear q3 q5 q4 h4 q9 q8 x2 x4 a5;go_wp2;go_roundw
   case rel=>exact ⟨k+1,_,_,by omega,by go_num,X5,S5,R5,B5,D5⟩
   case measure=>simp [intOf];omega
  ·obtain rfl:k=s.m:=by omega
   have b:=hb.lt;obtain ⟨b0,b1⟩:=hb.q2;have r:=hr.lt;obtain ⟨r0,r1⟩:=hr.q2;have d1:=hr.free 0;have d2:=hr.free 1;obtain ⟨us,h1,h2,h3⟩:=HD.c;obtain ⟨ca,cc,rfl,-⟩:=h2.form;obtain ⟨q7,k1,k2,k3⟩:=HD.a;obtain ⟨aa,ac,rfl,-⟩:=k2.form;clear hx hs hr hb hd h1 h2 h3 k1 k2 k3;go_wp2;have bF:=(HR.set 0 (.slice ca us.length cc)).set 1 (.slice aa q7.length ac);refine aC0 rfl rfl bF _ underlying78 rfl aKa rfl ?_;refine ⟨_,_,rfl,⟨?_,?_,HD.ap⟩,?_⟩
   ·exact ((HD.c.setLow (p:=⟨w.heap.size+1,0,none⟩) (by simp only;omega) _).setLow (p:=⟨w.heap.size+1,1,none⟩) (by simp only;omega) _).low (by omega)
   ·exact ((HD.a.setLow (p:=⟨w.heap.size+1,0,none⟩) (by simp only;omega) _).setLow (p:=⟨w.heap.size+1,1,none⟩) (by simp only;omega) _).low (by omega)
   ·exact aR0 (aR0 HX (by simp only;omega) _) (by simp only;omega) _
theorem aBk {cw ch zo ne:Int} {de:Bool} {le fo:Int} (hc:(Cam.mk cw ch zo ne de le fo).Ok) {l half:Int} (hx : -1000000<=x/\x<=1000000) (hz:1<=z/\z<=1000000) (hl : -16<=l/\l<=16) (hp:0<=half/\half<=1000) (hr:(Cam.mk cw ch zo ne de le fo).pj x z l half=r) (w:World) :
  R_ 243 #[.agg #[cw,ch,zo,ne,.bool de,le,fo],x,z,l,half] w (.int .i64 r):=by
 have h1:0<=le/\le<=64:=hc.lens;have h2:0<=fo/\fo<=1000000:=hc.focus;have h3:1<=zo/\zo<=65536:=hc.zoom
 obtain ⟨p1,e1⟩:∃p,l*le=p:=⟨_,rfl⟩
 have b1 : -1024<=p1/\p1<=1024:=by have:=aY (A:=16) (B:=64) hl (show -64<=le/\le<=64 by omega);omega
 obtain ⟨d,e0⟩:∃d,z - fo=d:=⟨_,rfl⟩
 obtain ⟨p2,e2⟩:∃p,p1*d=p:=⟨_,rfl⟩
 have b2 : -1024000000<=p2/\p2<=1024000000:=by have:=aY (A:=1024) (B:=1000000) b1 (show -1000000<=d/\d<=1000000 by omega);omega
 obtain ⟨q,e3⟩:∃q,bT p2 4096=q:=⟨_,rfl⟩
 have b3 : -1024000001<=q/\q<=1024000000:=by have:=mR (b:=4096) (m:=1024000000) b2 (by decide);omega
 obtain ⟨y,e4⟩:∃y,x+q=y:=⟨_,rfl⟩
 obtain ⟨p3,e5⟩:∃p,y*zo=p:=⟨_,rfl⟩
 have b4 : -80000000000000<=p3/\p3<=80000000000000:=by have:=aY (A:=1100000000) (B:=65536) (show -1100000000<=y/\y<=1100000000 by omega) (show -65536<=zo/\zo<=65536 by omega);omega
 obtain ⟨t,e6⟩:∃t,bT p3 ((Cam.mk cw ch zo ne de le fo).by z)=t:=⟨_,rfl⟩
 have b5 : -80000000000001<=t/\t<=80000000000000:=by have:=mR (b:=(Cam.mk cw ch zo ne de le fo).by z) (m:=80000000000000) b4 (by decide);omega
 have hR:aN (t+half) (-100000) 100000=r:=by
  rw [<-hr]
  show _=sc (bT ((x+bT (l*le*(z - fo)) 4096)*zo) ((Cam.mk cw ch zo ne de le fo).by z)+half)
  rw [e1,e0,e2,e3,e4,e5,e6]
  rfl
 have E3:=hid e3;have E6:=hid e6;have HR:=hid hR;clear hr hR e3 e6 hc
 cases de
 ·have E7:=hid (show bT p3 256=t from E6)
  go_enter func243,ntmps243;go_wp2_with fail;refine z_ (aV ⟨by omega,by omega⟩ E3 _) ?_;go_wp2_with fail;refine z_ (aV ⟨by omega,by omega⟩ E7 _) ?_;go_wp2_with fail;refine z_ (cV HR _) ?_;go_wp2;go_ret;exact ⟨rfl,X_⟩
 ·have E7:=hid (show bT p3 z=t from E6)
  go_enter func243,ntmps243;go_wp2_with fail;refine z_ (aV ⟨by omega,by omega⟩ E3 _) ?_;go_wp2_with fail;refine z_ (aV ⟨by omega,by omega⟩ E7 _) ?_;go_wp2_with fail;refine z_ (cV HR _) ?_;go_wp2;go_ret;exact ⟨rfl,X_⟩
theorem aOm {w:Int} (h:1<=w/\w<=12):Int.tdiv (w*16) 2=w*8:=by rw [aTd (by omega)];omega
theorem aDd (c:Cam) (x y z lx ly:Int) (h:c.prB ⟨x,y,z⟩ lx ly=true) (w:World) :
  R_ 203 #[c.V,.agg #[x,y,z],lx,ly] w (.tuple #[(c.pr ⟨x,y,z⟩ lx ly).V,.bool true]):=by
 unfold Cam.prB at h;simp only [Bool.and_eq_true,decide_eq_true_eq] at h;obtain ⟨⟨⟨⟨hc,hv⟩,hx⟩,hy⟩,hz⟩:=h;have OK:=Cam.okB_iff.1 hc;have h2:=aAv.1 hv;have h3:=aG.1 hx;have h4:=aG.1 hy;have hn:=OK.near
 obtain ⟨px,h0⟩:∃n,c.pj x z lx (c.w*8)=n:=⟨_,rfl⟩
 obtain ⟨py,h1⟩:∃n,c.pj y z ly (c.h*8)=n:=⟨_,rfl⟩
 have hV:(c.pr ⟨x,y,z⟩ lx ly).V = .agg #[px,py,z]:=by
  unfold Cam.pr V3.V;simp only [h0,h1]
 rw [hV];have h8:=hid hx;have h9:=hid hy;have HO:=hid OK;have P1:=hid h0;have P2:=hid h1;have VX:=hid h2.1;have VY:=hid h2.2.1;have VZ:=hid (show 1<=z/\z<=1000000 by omega);have LX:=hid h3;have LY:=hid h4;have WB:=OK.w;have HB:=OK.h;have q0:decide (z<c.near)=false:=decide_eq_false (by omega);have t1:=aOm WB;have t2:=aOm HB;have s1:wrap64 (c.w*16)=c.w*16:=aD (by omega) (by omega);have s2:wrap64 (c.h*16)=c.h*16:=aD (by omega) (by omega);have HV:=hid hv;have HC:=hid hc;have B0:=hid ((aRr w 35 c).ext (show Ext (w.alloc (.cells c 35)) (((w.alloc (.cells c 35)).alloc (.cells #[x,y,z] 122)).alloc (.cells #[(),(),()] 122)) from X_));have B1:=hid (show Blk (((w.alloc (.cells c 35)).alloc (.cells #[x,y,z] 122)).alloc (.cells #[(),(),()] 122)) (w.heap.size+1) 122 [x,y,z] from by have q:=(aRr (w.alloc (.cells c 35)) 122 [x,y,z]).ext (show Ext ((w.alloc (.cells c 35)).alloc (.cells #[x,y,z] 122)) (((w.alloc (.cells c 35)).alloc (.cells #[x,y,z] 122)).alloc (.cells #[(),(),()] 122)) from X_);simp only [aRj] at q;exact q);have B2:=hid (show Blk (((w.alloc (.cells c 35)).alloc (.cells #[x,y,z] 122)).alloc (.cells #[(),(),()] 122)) (w.heap.size+2) 122 [(),(),()] from by have q:=(aRr ((w.alloc (.cells c 35)).alloc (.cells #[x,y,z] 122)) 122 [(),(),()]).ext (show Ext (((w.alloc (.cells c 35)).alloc (.cells #[x,y,z] 122)).alloc (.cells #[(),(),()] 122)) (((w.alloc (.cells c 35)).alloc (.cells #[x,y,z] 122)).alloc (.cells #[(),(),()] 122)) from X_);simp only [aRj] at q;exact q);have X0:=hid (show Ext w (((w.alloc (.cells c 35)).alloc (.cells #[x,y,z] 122)).alloc (.cells #[(),(),()] 122)) from X_);clear hc hv hx hy OK h2 h3 h4 hn h0 h1 hV hz
 show Calls aRn 203 #[.agg c,.agg #[x,y,z],lx,ly] w _
 go_enter func203,ntmps203;go_wp2_with fail;refine r_ (aO HC _) fun w1 x1=>?_;replace B0:=hid (B0.ext x1);replace B1:=hid (B1.ext x1);replace B2:=hid (B2.ext x1);replace X0:=hid (X0.trans x1);have v:=B1.lt;obtain ⟨v0,v1,v2⟩:=B1.q3;go_wp2_with fail;refine (dS _).mono ?_;rintro e w2 ⟨he,x2⟩;rw [HV] at he;subst he;clear v0 v1 v2 v;replace B0:=hid (B0.ext x2);replace B1:=hid (B1.ext x2);replace B2:=hid (B2.ext x2);replace X0:=hid (X0.trans x2);have c_:=B0.lt;obtain ⟨q1,q2,q4,q5,q6,q8,q9⟩:=B0.q7;have v:=B1.lt;obtain ⟨v0,v1,v2⟩:=B1.q3;have r:=B2.lt;obtain ⟨r0,r1,r2⟩:=B2.q3;have h5:=B2.free 0;have h6:=B2.free 1;have h7:=B2.free 2;have zs:=X0.size;go_wp2_with fail;refine z_ (aF h8 _) ?_;go_wp2_with fail;refine z_ (aF h9 _) ?_;go_wp2_with fail;clear q0;refine aA [([0,1,2,3,4,5,6,7,8,9,11,12,13,14,15,16,17,18,19,20,22,23],10),([],21),([24],25),([],26)] 26 (w.heap.size+2) (by kernel_rfl) (by kernel_rfl) ?_;refine st_ fun K hK=>?_;go_wp2_with fail;refine r_ (aBk HO VX VZ LX (show (0:Int)<=c.w*8/\c.w*8<=1000 by omega) P1 _) fun w3 x3=>?_;have y3:Ext w2 w3:=aRo (aSk (aRu _)) x3;go_wp2_with fail;refine hK _ _ (.inr (fun k _ hk=>y3.block (by first|omega|(simp;omega)))) ?_;clear hK K;refine st_ fun K hK=>?_;go_wp2_with fail;refine r_ (aBk HO VY VZ LY (show (0:Int)<=c.h*8/\c.h*8<=1000 by omega) P2 _) fun w4 x4=>?_;have y4:=y3.trans x4;go_wp2_with fail;refine hK _ _ (.inr (fun k _ hk=>y4.block (by first|omega|(simp;omega)))) ?_;clear hK K;clear r r0 r1 r2 h5 h6 h7;have D:=B2.ext y4;have XX:=X0.trans y4;have r:=D.lt;obtain ⟨r0,r1,r2⟩:=D.q3;have h5:=D.free 0;have h6:=D.free 1;have h7:=D.free 2;refine st_ fun K hK=>?_;go_wp2_with fail
 refine hK _ _ (.inr (fun k _ hk=>by
  rw [aRt _ _ _ _ (by first|omega|(simp only;omega)|(simp;omega)),aRt _ _ _ _ (by first|omega|(simp only;omega)|(simp;omega)),aRt _ _ _ _ (by first|omega|(simp only;omega)|(simp;omega))]
  exact y4.block (by omega))) ?_
 clear hK K;refine st_ fun K hK=>?_;go_wp2_with fail;refine l_ hK ?_;clear hK K;refine aC ?_;go_wp2;exact bodyPost_ret (v:=.tuple #[.agg #[px,py,z],.bool true]) (by simp [results,results203,go_sem, *]) rfl ⟨rfl,S_⟩
theorem Cam.prB_parts {c:Cam} {lx ly:Int} {b:Bool} (h:c.prB ⟨x,y,z⟩ lx ly=b):(c.okB&&dC x y z&&inB lx (-16) 16&&inB ly (-16) 16&&decide (c.near<=z))=b:=h
theorem aFe (c:Cam) (x y z lx ly:Int) (h:c.prB ⟨x,y,z⟩ lx ly=false) (w:World) :
  R_ 203 #[c.V,.agg #[x,y,z],lx,ly] w (.tuple #[.agg #[(),(),()],.bool false]):=by
 have h:=Cam.prB_parts h
 obtain ⟨b1,hc⟩:∃b,c.okB=b:=⟨_,rfl⟩
 obtain ⟨b2,hv⟩:∃b,dC x y z=b:=⟨_,rfl⟩
 obtain ⟨b3,hx⟩:∃b,inB lx (-16) 16=b:=⟨_,rfl⟩
 obtain ⟨b4,hy⟩:∃b,inB ly (-16) 16=b:=⟨_,rfl⟩
 rw [hc,hv,hx,hy] at h;have h4:=hid hx;have h5:=hid hy;have HV:=hid hv;have HC:=hid hc;have B0:=hid ((aRr w 35 c).ext (show Ext (w.alloc (.cells c 35)) (((w.alloc (.cells c 35)).alloc (.cells #[x,y,z] 122)).alloc (.cells #[(),(),()] 122)) from X_));have B1:=hid (show Blk (((w.alloc (.cells c 35)).alloc (.cells #[x,y,z] 122)).alloc (.cells #[(),(),()] 122)) (w.heap.size+1) 122 [x,y,z] from by have q:=(aRr (w.alloc (.cells c 35)) 122 [x,y,z]).ext (show Ext ((w.alloc (.cells c 35)).alloc (.cells #[x,y,z] 122)) (((w.alloc (.cells c 35)).alloc (.cells #[x,y,z] 122)).alloc (.cells #[(),(),()] 122)) from X_);simp only [aRj] at q;exact q);have B2:=hid (show Blk (((w.alloc (.cells c 35)).alloc (.cells #[x,y,z] 122)).alloc (.cells #[(),(),()] 122)) (w.heap.size+2) 122 [(),(),()] from by have q:=(aRr ((w.alloc (.cells c 35)).alloc (.cells #[x,y,z] 122)) 122 [(),(),()]).ext (show Ext (((w.alloc (.cells c 35)).alloc (.cells #[x,y,z] 122)).alloc (.cells #[(),(),()] 122)) (((w.alloc (.cells c 35)).alloc (.cells #[x,y,z] 122)).alloc (.cells #[(),(),()] 122)) from X_);simp only [aRj] at q;exact q);have X0:=hid (show Ext w (((w.alloc (.cells c 35)).alloc (.cells #[x,y,z] 122)).alloc (.cells #[(),(),()] 122)) from X_);clear hc hv hx hy
 show Calls aRn 203 #[.agg c,.agg #[x,y,z],lx,ly] w _
 go_enter func203,ntmps203;go_wp2_with fail;refine r_ (aO HC _) fun w1 x1=>?_;replace B0:=hid (B0.ext x1);replace B1:=hid (B1.ext x1);replace B2:=hid (B2.ext x1);replace X0:=hid (X0.trans x1);have r:=B2.lt;obtain ⟨r0,r1,r2⟩:=B2.q3;have h0:=B2.free 0;have h2:=B2.free 1;have h3:=B2.free 2;have XX:=X0.out
 cases b1
 ·go_wp2
  exact bodyPost_ret (v:=.tuple #[.agg #[(),(),()],.bool false]) (by simp [results,results203,go_sem, *]) rfl ⟨rfl,S_⟩
 clear r r0 r1 r2 h0 h2 h3 XX;have v:=B1.lt;obtain ⟨v0,v1,v2⟩:=B1.q3;go_wp2_with fail;refine (dS _).mono ?_;rintro e w2 ⟨he,x2⟩;rw [HV] at he;subst he;clear v0 v1 v2 v;replace B0:=hid (B0.ext x2);replace B1:=hid (B1.ext x2);replace B2:=hid (B2.ext x2);replace X0:=hid (X0.trans x2);have r:=B2.lt;obtain ⟨r0,r1,r2⟩:=B2.q3;have h0:=B2.free 0;have h2:=B2.free 1;have h3:=B2.free 2;have XX:=X0.out
 cases b2
 ·go_wp2
  exact bodyPost_ret (v:=.tuple #[.agg #[(),(),()],.bool false]) (by simp [results,results203,go_sem, *]) rfl ⟨rfl,S_⟩
 go_wp2_with fail;refine z_ (aF h4 _) ?_
 cases b3
 ·go_wp2
  exact bodyPost_ret (v:=.tuple #[.agg #[(),(),()],.bool false]) (by simp [results,results203,go_sem, *]) rfl ⟨rfl,S_⟩
 go_wp2_with fail;refine z_ (aF h5 _) ?_
 cases b4
 ·go_wp2
  exact bodyPost_ret (v:=.tuple #[.agg #[(),(),()],.bool false]) (by simp [results,results203,go_sem, *]) rfl ⟨rfl,S_⟩
 have q4:decide (z<c.near)=true:=by
  have h1 : ¬c.near<=z:=by simpa using h
  exact decide_eq_true (by omega)
 clear h;have c_:=B0.lt;obtain ⟨h6,h7,h8,h9,q0,q1,q2⟩:=B0.q7;have v:=B1.lt;obtain ⟨v0,v1,v2⟩:=B1.q3;go_wp2;exact bodyPost_ret (v:=.tuple #[.agg #[(),(),()],.bool false]) (by simp [results,results203,go_sem, *]) rfl ⟨rfl,S_⟩
theorem yX (h:aS9 ⟨x,y,z⟩) (hz : -1000000<=z/\z<=1000000) (w:World) :
  R_ 208 #[.agg #[x,y,z]] w (.agg #[x,y,z]):=by
 have h1:=hid (aBx h.1);have h2:=hid (aBx h.2);have h3:=hid (rO hz);clear h hz;go_enter func208,ntmps208;go_upto_region 1 with fail;refine aA [([0,1,3,4,6,7],2),([],5),([],8),([9],10)] 10 (w.heap.size+1) (by kernel_rfl) (by kernel_rfl) ?_;refine st_ fun K hK=>?_;go_wp2_with fail;refine z_ (cV h1.out _) ?_;go_wp2_with fail;refine k_ hK ?_;clear hK K;refine st_ fun K hK=>?_;go_wp2_with fail;refine z_ (cV h2.out _) ?_;go_wp2_with fail;refine k_ hK ?_;clear hK K;refine st_ fun K hK=>?_;go_wp2_with fail;refine z_ (vM h3.out _) ?_;go_wp2_with fail;refine k_ hK ?_;clear hK K;refine st_ fun K hK=>?_;go_wp2_with fail;refine l_ hK ?_;clear hK K;refine aC ?_;go_wp2;exact bodyPost_ret (v:=.agg #[x,y,z]) (by simp [results,results208,go_sem, *]) rfl ⟨rfl,S_⟩
theorem sX (ax ay az bx by' bz cx cy cz:Int) (ha:aS9 ⟨ax,ay,az⟩) (hb:aS9 ⟨bx,by',bz⟩) (hc:aS9 ⟨cx,cy,cz⟩) (hz:(-1000000<=az/\az<=1000000)/\(-1000000<=bz/\bz<=1000000)/\(-1000000<=cz/\cz<=1000000)) (w:World) :
  R_ 151 #[.agg #[ax,ay,az,bx,by',bz,cx,cy,cz]] w (.agg #[ax,ay,az,bx,by',bz,cx,cy,cz]):=by
 have Ha:=aT ha;have Hb:=aT hb;have Hc:=aT hc;have Hz:=hid hz;have B0:=hid ((aRr w 153 [ax,ay,az,bx,by',bz,cx,cy,cz]).ext (show Ext (w.alloc (.cells #[ax,ay,az,bx,by',bz,cx,cy,cz] 153)) ((w.alloc (.cells #[ax,ay,az,bx,by',bz,cx,cy,cz] 153)).alloc (.cells #[(),(),(),(),(),(),(),(),()] 151)) from X_));have B1:=hid (show Blk ((w.alloc (.cells #[ax,ay,az,bx,by',bz,cx,cy,cz] 153)).alloc (.cells #[(),(),(),(),(),(),(),(),()] 151)) (w.heap.size+1) 151 [(),(),(),(),(),(),(),(),()] from by have q:=(aRr (w.alloc (.cells #[ax,ay,az,bx,by',bz,cx,cy,cz] 153)) 151 [(),(),(),(),(),(),(),(),()]).ext (show Ext ((w.alloc (.cells #[ax,ay,az,bx,by',bz,cx,cy,cz] 153)).alloc (.cells #[(),(),(),(),(),(),(),(),()] 151)) ((w.alloc (.cells #[ax,ay,az,bx,by',bz,cx,cy,cz] 153)).alloc (.cells #[(),(),(),(),(),(),(),(),()] 151)) from X_);simp only [aRj] at q;exact q);have X0:=hid (show Ext w ((w.alloc (.cells #[ax,ay,az,bx,by',bz,cx,cy,cz] 153)).alloc (.cells #[(),(),(),(),(),(),(),(),()] 151)) from X_);clear ha hb hc hz;go_enter func151,ntmps151;go_upto_region 1 with fail
 obtain ⟨W,hW⟩:∃W,((w.alloc (.cells #[ax,ay,az,bx,by',bz,cx,cy,cz] 153)).alloc (.cells #[(),(),(),(),(),(),(),(),()] 151))=W:=⟨_,rfl⟩
 try simp only [aRj]
 rw [hW];rw [hW] at B0 B1 X0;clear hW;have zs:w.heap.size+1<W.heap.size:=B1.lt;have t:=B0.lt;have t0:=B0.cell 0 rfl;have t1:=B0.cell 1 rfl;have t2:=B0.cell 2 rfl;have t3:=B0.cell 3 rfl;have t4:=B0.cell 4 rfl;have t5:=B0.cell 5 rfl;have t6:=B0.cell 6 rfl;have t7:=B0.cell 7 rfl;have t8:=B0.cell 8 rfl;have h9:=B0.free 0;have q0:=B0.free 1;have q1:=B0.free 2;have q2:=B0.free 3;have q3:=B0.free 4;have q4:=B0.free 5;have q5:=B0.free 6;have q6:=B0.free 7;have q7:=B0.free 8;refine aA [([0,1,2,4,5,6,8,9,10],3),([],7),([],11),([12],13)] 13 (w.heap.size+1) (by kernel_rfl) (by kernel_rfl) ?_;refine st_ fun K hK=>?_;go_wp2_with fail;refine r_ (yX Ha Hz.1 _) fun w1 x1=>?_;have y1:Ext W w1:=aRo (aSk (aRu _)) x1;go_wp2_with fail;refine hK _ _ (.inr (fun k _ hk=>y1.block (by first|omega|(simp;omega)))) ?_;clear hK K;refine st_ fun K hK=>?_;go_wp2_with fail;refine r_ (yX Hb Hz.2.1 _) fun w2 x2=>?_;have y2:=y1.trans x2;go_wp2_with fail;refine hK _ _ (.inr (fun k _ hk=>y2.block (by first|omega|(simp;omega)))) ?_;clear hK K;refine st_ fun K hK=>?_;go_wp2_with fail;refine r_ (yX Hc Hz.2.2 _) fun w3 x3=>?_;have y3:=y2.trans x3;go_wp2_with fail;refine hK _ _ (.inr (fun k _ hk=>y3.block (by first|omega|(simp;omega)))) ?_;clear hK K;have D:=B1.ext y3;have XX:=X0.trans y3;have r:=D.lt;have r0:=D.cell 0 rfl;have r1:=D.cell 1 rfl;have r2:=D.cell 2 rfl;have r3:=D.cell 3 rfl;have r4:=D.cell 4 rfl;have r5:=D.cell 5 rfl;have r6:=D.cell 6 rfl;have r7:=D.cell 7 rfl;have r8:=D.cell 8 rfl;have h0:=D.free 0;have h1:=D.free 1;have h2:=D.free 2;have h3:=D.free 3;have h4:=D.free 4;have h5:=D.free 5;have h6:=D.free 6;have h7:=D.free 7;have h8:=D.free 8;refine st_ fun K hK=>?_;go_wp2_with fail;refine l_ hK ?_;clear hK K;refine aC ?_;go_wp2;exact bodyPost_ret (v:=.agg #[ax,ay,az,bx,by',bz,cx,cy,cz]) (by simp [results,results151,go_sem, *]) rfl ⟨rfl,S_⟩
theorem jA (ax ay az bx by' bz:Int) (ha:aS9 ⟨ax,ay,az⟩) (hb:aS9 ⟨bx,by',bz⟩) (hs:aS9 ⟨x,y,0⟩) (hr:aW ⟨ax,ay,az⟩ ⟨bx,by',bz⟩ ⟨x,y,0⟩=r) (w:World) :
  R_ 154 #[.agg #[ax,ay,az],.agg #[bx,by',bz],x,y] w (.int .i64 r):=by
 obtain ⟨g1,g2⟩:=sA ha hb hs;obtain ⟨a1,a2⟩:=ha;obtain ⟨b1,b2⟩:=hb;obtain ⟨s1,s2⟩:=hs;simp only at a1 a2 b1 b2 s1 s2 g1 g2
 obtain ⟨p1,e5⟩:∃p,(bx - ax)*(y - ay)=p:=⟨_,rfl⟩
 obtain ⟨p2,e6⟩:∃p,(by' - ay)*(x - ax)=p:=⟨_,rfl⟩
 rw [e5] at g1;rw [e6] at g2
 have hR:p1 - p2=r:=by
  rw [<-hr,<-e5,<-e6]
  rfl
 have u1:wrap64 (bx - ax)=bx - ax:=aD (by omega) (by omega);have u2:wrap64 (y - ay)=y - ay:=aD (by omega) (by omega)
 have u3:wrap64 (by' - ay)=by' - ay:=aD (by omega) (by omega)
 have u4:wrap64 (x - ax)=x - ax:=aD (by omega) (by omega)
 have u5:wrap64 ((bx - ax)*(y - ay))=p1:=by rw [e5];exact aD (by omega) (by omega)
 have u6:wrap64 ((by' - ay)*(x - ax))=p2:=by rw [e6];exact aD (by omega) (by omega)
 have u7:wrap64 (p1 - p2)=r:=by rw [hR];exact aD (by omega) (by omega)
 clear hr hR e5 e6 g1 g2 a1 a2 b1 b2 s1 s2;go_enter func154,ntmps154;go_wp2;go_ret;exact ⟨cK u7,X_⟩
theorem gV (ax ay az bx by' bz:Int) (ha:aS9 ⟨ax,ay,az⟩) (hb:aS9 ⟨bx,by',bz⟩) (hs:aS9 ⟨x,y,0⟩) {r:Bool} (hr:dJ ⟨ax,ay,az⟩ ⟨bx,by',bz⟩ ⟨x,y,0⟩=r) (w:World) :
  R_ 207 #[.agg #[ax,ay,az],.agg #[bx,by',bz],x,y] w (.bool r):=by
 obtain ⟨d,hd⟩:∃d,aW ⟨ax,ay,az⟩ ⟨bx,by',bz⟩ ⟨x,y,0⟩=d:=⟨_,rfl⟩
 have HD:=hid hd;have Ha:=aT ha;have Hb:=aT hb;have Hs:=aT hs;have B0:=hid ((aRr w 122 [ax,ay,az]).ext (show Ext (w.alloc (.cells #[ax,ay,az] 122)) ((w.alloc (.cells #[ax,ay,az] 122)).alloc (.cells #[bx,by',bz] 122)) from X_));have B1:=hid (show Blk ((w.alloc (.cells #[ax,ay,az] 122)).alloc (.cells #[bx,by',bz] 122)) (w.heap.size+1) 122 [bx,by',bz] from by have q:=(aRr (w.alloc (.cells #[ax,ay,az] 122)) 122 [bx,by',bz]).ext (show Ext ((w.alloc (.cells #[ax,ay,az] 122)).alloc (.cells #[bx,by',bz] 122)) ((w.alloc (.cells #[ax,ay,az] 122)).alloc (.cells #[bx,by',bz] 122)) from X_);simp only [aRj] at q;exact q);have X0:=hid (show Ext w ((w.alloc (.cells #[ax,ay,az] 122)).alloc (.cells #[bx,by',bz] 122)) from X_);unfold dJ at hr;simp only [hd] at hr;clear ha hb hs hd;go_enter func207,ntmps207;go_wp2_with fail;refine r_ (jA _ _ _ _ _ _ Ha Hb Hs HD _) fun w1 x1=>?_;replace B0:=hid (B0.ext x1);replace B1:=hid (B1.ext x1);replace X0:=hid (X0.trans x1);have p:=B0.lt;obtain ⟨p0,p1,p2⟩:=B0.q3;have q:=B1.lt;obtain ⟨q0,q1,q2⟩:=B1.q3
 by_cases h0:d=0
 ·subst h0
  rcases Int.lt_trichotomy by' ay with h1|h1|h1
  ·have e1:r=true:=by rw [<-hr];simp [h1]
   subst e1;go_wp2;go_ret;exact ⟨aK (by simp [h1]),X0⟩
  ·have e1:decide (ax<bx)=r:=by rw [<-hr];simp [h1]
   clear hr;subst h1;go_wp2;go_ret;exact ⟨aK (by first|exact e1|rfl),X0⟩
  ·have h2 : ¬by'<ay:=by omega
   have h3 : ¬by'=ay:=by omega
   have e1:r=false:=by rw [<-hr];simp [h2,h3]
   subst e1;go_wp2;go_ret;exact ⟨aK (by simp [h2,h3]),X0⟩
 ·have e1:decide (0<d)=r:=by rw [<-hr];simp [h0]
  clear hr;go_wp2;go_ret;exact ⟨aK (by first|exact e1|rfl),X0⟩
theorem aBl (ax ay az bx by' bz cx cy cz:Int) (ha:aS9 ⟨ax,ay,az⟩) (hb:aS9 ⟨bx,by',bz⟩) (hc:aS9 ⟨cx,cy,cz⟩) (hz:(-1000000<=az/\az<=1000000)/\(-1000000<=bz/\bz<=1000000)/\(-1000000<=cz/\cz<=1000000)) (hd:aW ⟨ax,ay,az⟩ ⟨bx,by',bz⟩ ⟨cx,cy,0⟩=d) (w:World) :
  R_ 153 #[.agg #[ax,ay,az,bx,by',bz,cx,cy,cz]] w (.int .i64 d):=by
 have Ha:=aT ha;have Hb:=aT hb;have Hc:=aT hc;have Hz:=hid hz;have HD:=hid hd;clear ha hb hc hz hd;go_enter func153,ntmps153;go_wp2_with fail;refine r_ (sX _ _ _ _ _ _ _ _ _ Ha Hb Hc Hz _) fun w1 x1=>?_;have y1:Ext w w1:=aRo X_ x1;have z1:=y1.size;go_wp2_with fail;refine r_ (jA _ _ _ _ _ _ Ha Hb (show aS9 ⟨cx,cy,0⟩ from Hc) HD _) fun w2 x2=>?_;go_wp2;go_ret;exact ⟨rfl,y1.trans (aRo S_ x2)⟩
theorem aKb (ax ay az bx by' bz cx cy cz:Int) (w:World) :
  R_ 206 #[.agg #[ax,ay,az,bx,by',bz,cx,cy,cz]] w (.agg #[ax,ay,az,cx,cy,cz,bx,by',bz]):=by
 go_enter func206,ntmps206;go_wp2;exact bodyPost_ret (v:=.agg #[ax,ay,az,cx,cy,cz,bx,by',bz]) (by simp [results,results206,go_sem, *]) rfl ⟨rfl,S_⟩
theorem aHh (h:aS9 ⟨x,y,0⟩) (w:World):Z_ 205 #[x,y] w (.bool true):=by
 have h1:=hid (aG.2 h.1);have h2:=hid (aG.2 h.2);clear h;go_enter func205,ntmps205;go_wp2_with fail;refine z_ (aF h1.out _) ?_;go_wp2_with fail;refine z_ (aF h2.out _) ?_;go_wp2;go_ret;exact ⟨rfl,rfl⟩
theorem sY (hx : -100000000000<=x/\x<=100000000000) (h:gC x=r) (w:World):Z_ 152 #[x] w (.int .i64 r):=by
 rcases Int.lt_or_le x 0 with h0|h0
 ·have e1 : -x=r:=by rw [<-h];exact ((dM (x:=x)).2.2 (by omega)).symm
  have e2:wrap64 (-x)=r:=by rw [e1];exact aD (by omega) (by omega)
  clear h;go_enter func152,ntmps152;go_wp2;go_ret;exact ⟨cK (by first|exact e1|exact e2|rfl),rfl⟩
 ·have e1:x=r:=by rw [<-h];exact ((dM (x:=x)).2.1 (by omega)).symm
  subst e1;clear h;go_enter func152,ntmps152;go_wp2;go_ret;exact ⟨rfl,rfl⟩
theorem vA (ax ay az bx by' bz cx cy cz:Int) (ha:aS9 ⟨ax,ay,az⟩) (hb:aS9 ⟨bx,by',bz⟩) (hc:aS9 ⟨cx,cy,cz⟩) (hz:(-1000000<=az/\az<=1000000)/\(-1000000<=bz/\bz<=1000000)/\(-1000000<=cz/\cz<=1000000)) (sx sy:Int) (hs:aS9 ⟨sx,sy,0⟩) {r:Bool} (hr:qS ⟨ax,ay,az⟩ ⟨bx,by',bz⟩ ⟨cx,cy,cz⟩ ⟨sx,sy,0⟩=r) (w:World) :
  R_ 150 #[.agg #[ax,ay,az,bx,by',bz,cx,cy,cz],sx,sy] w (.bool r):=by
 have Ha:=aT ha;have Hb:=aT hb;have Hc:=aT hc;have Hz:=hid hz;have HS:=aT hs
 obtain ⟨d,hd⟩:∃d,aW ⟨ax,ay,az⟩ ⟨bx,by',bz⟩ ⟨cx,cy,cz⟩=d:=⟨_,rfl⟩
 have HD:=hid (show aW ⟨ax,ay,az⟩ ⟨bx,by',bz⟩ ⟨cx,cy,0⟩=d from hd);unfold qS at hr;rw [hd] at hr;have B0:=hid ((aRr w 153 [ax,ay,az,bx,by',bz,cx,cy,cz]).ext (show Ext (w.alloc (.cells #[ax,ay,az,bx,by',bz,cx,cy,cz] 153)) (w.alloc (.cells #[ax,ay,az,bx,by',bz,cx,cy,cz] 153)) from X_));have X0:=hid (show Ext w (w.alloc (.cells #[ax,ay,az,bx,by',bz,cx,cy,cz] 153)) from X_);clear ha hb hc hz hs hd;go_enter func150,ntmps150;go_wp2_with fail;refine r_ (aBl _ _ _ _ _ _ _ _ _ Ha Hb Hc Hz HD _) fun w1 x1=>?_;replace B0:=hid (B0.ext x1);replace X0:=hid (X0.trans x1)
 by_cases h0:d=0
 ·subst h0
  rw [if_pos rfl] at hr;go_wp2;go_ret;exact ⟨aK hr,X0⟩
 rw [if_neg h0] at hr;have h1:(d==0)=false:=beq_eq_false_iff_ne.2 h0;go_wp2_with fail;refine z_ (aHh HS _) ?_;have p:=B0.lt;have p0:=B0.cell 0 rfl;have p1:=B0.cell 1 rfl;have p2:=B0.cell 2 rfl;have p3:=B0.cell 3 rfl;have p4:=B0.cell 4 rfl;have p5:=B0.cell 5 rfl;have p6:=B0.cell 6 rfl;have p7:=B0.cell 7 rfl;have p8:=B0.cell 8 rfl;go_wp2_with fail;refine r_ (sX _ _ _ _ _ _ _ _ _ Ha Hb Hc Hz _) fun w2 x2=>?_;clear p p0 p1 p2 p3 p4 p5 p6 p7 p8;replace B0:=hid (B0.ext x2);replace X0:=hid (X0.trans x2);have G:=hid (aRr w2 151 [ax,ay,az,bx,by',bz,cx,cy,cz]);have yN:Ext w2 (w2.alloc (.cells #[ax,ay,az,bx,by',bz,cx,cy,cz] 151)):=X_
 by_cases h2:d<0
 ·rw [if_pos h2] at hr
  obtain ⟨b1,e1⟩:∃b,dJ ⟨ax,ay,az⟩ ⟨cx,cy,cz⟩ ⟨sx,sy,0⟩=b:=⟨_,rfl⟩
  obtain ⟨b2,e2⟩:∃b,dJ ⟨cx,cy,cz⟩ ⟨bx,by',bz⟩ ⟨sx,sy,0⟩=b:=⟨_,rfl⟩
  obtain ⟨b3,e3⟩:∃b,dJ ⟨bx,by',bz⟩ ⟨ax,ay,az⟩ ⟨sx,sy,0⟩=b:=⟨_,rfl⟩
  rw [e1,e2,e3] at hr;have H1:=hid e1;have H2:=hid e2;have H3:=hid e3;clear e1 e2 e3;replace B0:=hid (B0.ext yN);have X:=hid (X0.trans yN);have zz:=X0.size;clear yN X0;have p:=B0.lt;have p0:=B0.cell 0 rfl;have p1:=B0.cell 1 rfl;have p2:=B0.cell 2 rfl;have p3:=B0.cell 3 rfl;have p4:=B0.cell 4 rfl;have p5:=B0.cell 5 rfl;have p6:=B0.cell 6 rfl;have p7:=B0.cell 7 rfl;have p8:=B0.cell 8 rfl;go_wp2_with fail;refine r_ (aKb _ _ _ _ _ _ _ _ _ _) fun w3 x3=>?_;replace G:=hid (G.ext x3);replace X:=hid (X.trans x3);clear p p0 p1 p2 p3 p4 p5 p6 p7 p8;go_wp2_with fail;refine r_ (sX _ _ _ _ _ _ _ _ _ Ha Hc Hb ⟨Hz.1,Hz.2.2,Hz.2.1⟩ _) fun w4 x4=>?_;replace G:=hid (G.ext x4);replace X:=hid (X.trans x4);have g:=G.lt;have g0:=G.cell 0 rfl;have g1:=G.cell 1 rfl;have g2:=G.cell 2 rfl;have g3:=G.cell 3 rfl;have g4:=G.cell 4 rfl;have g5:=G.cell 5 rfl;have g6:=G.cell 6 rfl;have g7:=G.cell 7 rfl;have g8:=G.cell 8 rfl;have h4:=G.free 0;have h5:=G.free 1;have h6:=G.free 2;have h7:=G.free 3;have h8:=G.free 4;have h9:=G.free 5;have q0:=G.free 6;have q1:=G.free 7;have q2:=G.free 8;go_upto_region 7 with fail;have XX:=X.out
  have G5:Blk (((((((((w4.setCell ⟨w2.heap.size,0,none⟩ ax).setCell ⟨w2.heap.size,1,none⟩ ay).setCell ⟨w2.heap.size,2,none⟩ az).setCell ⟨w2.heap.size,3,none⟩ cx).setCell ⟨w2.heap.size,4,none⟩ cy).setCell ⟨w2.heap.size,5,none⟩ cz).setCell ⟨w2.heap.size,6,none⟩ bx).setCell ⟨w2.heap.size,7,none⟩ by').setCell ⟨w2.heap.size,8,none⟩ bz) w2.heap.size 151 [ax,ay,az,cx,cy,cz,bx,by',bz]:=(((((((((G.set 0 (.int .i64 ax)).set 1 (.int .i64 ay)).set 2 (.int .i64 az)).set 3 (.int .i64 cx)).set 4 (.int .i64 cy)).set 5 (.int .i64 cz)).set 6 (.int .i64 bx)).set 7 (.int .i64 by')).set 8 (.int .i64 bz))
  have X5:Ext w (((((((((w4.setCell ⟨w2.heap.size,0,none⟩ ax).setCell ⟨w2.heap.size,1,none⟩ ay).setCell ⟨w2.heap.size,2,none⟩ az).setCell ⟨w2.heap.size,3,none⟩ cx).setCell ⟨w2.heap.size,4,none⟩ cy).setCell ⟨w2.heap.size,5,none⟩ cz).setCell ⟨w2.heap.size,6,none⟩ bx).setCell ⟨w2.heap.size,7,none⟩ by').setCell ⟨w2.heap.size,8,none⟩ bz):=S_
  obtain ⟨W5,h3⟩:∃W,(((((((((w4.setCell ⟨w2.heap.size,0,none⟩ ax).setCell ⟨w2.heap.size,1,none⟩ ay).setCell ⟨w2.heap.size,2,none⟩ az).setCell ⟨w2.heap.size,3,none⟩ cx).setCell ⟨w2.heap.size,4,none⟩ cy).setCell ⟨w2.heap.size,5,none⟩ cz).setCell ⟨w2.heap.size,6,none⟩ bx).setCell ⟨w2.heap.size,7,none⟩ by').setCell ⟨w2.heap.size,8,none⟩ bz)=W:=⟨_,rfl⟩
  rw [h3] at G5 X5 ⊢;clear h3 XX g g0 g1 g2 g3 g4 g5 g6 g7 g8 h4 h5 h6 h7 h8 h9 q0 q1 q2 x4 x3;replace G:=hid G5;replace X:=hid X5;clear G5 X5;have g:=G.lt;have g0:=G.cell 0 rfl;have g1:=G.cell 1 rfl;have g2:=G.cell 2 rfl;have g3:=G.cell 3 rfl;have g4:=G.cell 4 rfl;have g5:=G.cell 5 rfl;have g6:=G.cell 6 rfl;have g7:=G.cell 7 rfl;have g8:=G.cell 8 rfl;go_wp2_with fail;refine r_ (gV _ _ _ _ _ _ Ha Hc HS H1 _) fun u1 zu1=>?_;replace G:=hid (G.ext zu1);replace X:=hid (X.trans zu1);clear g g0 g1 g2 g3 g4 g5 g6 g7 g8
  cases b1
  ·go_wp2
   go_ret;exact ⟨aK (by simpa using hr),X⟩
  have g:=G.lt;have g0:=G.cell 0 rfl;have g1:=G.cell 1 rfl;have g2:=G.cell 2 rfl;have g3:=G.cell 3 rfl;have g4:=G.cell 4 rfl;have g5:=G.cell 5 rfl;have g6:=G.cell 6 rfl;have g7:=G.cell 7 rfl;have g8:=G.cell 8 rfl;go_wp2_with fail;refine r_ (gV _ _ _ _ _ _ Hc Hb HS H2 _) fun u2 zu2=>?_;replace G:=hid (G.ext zu2);replace X:=hid (X.trans zu2);clear g g0 g1 g2 g3 g4 g5 g6 g7 g8
  cases b2
  ·go_wp2
   go_ret;exact ⟨aK (by simpa using hr),X⟩
  have g:=G.lt;have g0:=G.cell 0 rfl;have g1:=G.cell 1 rfl;have g2:=G.cell 2 rfl;have g3:=G.cell 3 rfl;have g4:=G.cell 4 rfl;have g5:=G.cell 5 rfl;have g6:=G.cell 6 rfl;have g7:=G.cell 7 rfl;have g8:=G.cell 8 rfl;go_wp2_with fail;refine r_ (gV _ _ _ _ _ _ Hb Ha HS H3 _) fun u3 zu3=>?_;go_wp2;go_ret;exact ⟨aK (by simpa using hr),X.trans zu3⟩
 ·rw [if_neg h2] at hr
  obtain ⟨b1,e1⟩:∃b,dJ ⟨ax,ay,az⟩ ⟨bx,by',bz⟩ ⟨sx,sy,0⟩=b:=⟨_,rfl⟩
  obtain ⟨b2,e2⟩:∃b,dJ ⟨bx,by',bz⟩ ⟨cx,cy,cz⟩ ⟨sx,sy,0⟩=b:=⟨_,rfl⟩
  obtain ⟨b3,e3⟩:∃b,dJ ⟨cx,cy,cz⟩ ⟨ax,ay,az⟩ ⟨sx,sy,0⟩=b:=⟨_,rfl⟩
  rw [e1,e2,e3] at hr;have H1:=hid e1;have H2:=hid e2;have H3:=hid e3;clear e1 e2 e3;have X:=hid (X0.trans yN);clear yN X0 B0;have g:=G.lt;have g0:=G.cell 0 rfl;have g1:=G.cell 1 rfl;have g2:=G.cell 2 rfl;have g3:=G.cell 3 rfl;have g4:=G.cell 4 rfl;have g5:=G.cell 5 rfl;have g6:=G.cell 6 rfl;have g7:=G.cell 7 rfl;have g8:=G.cell 8 rfl;go_wp2_with fail;refine r_ (gV _ _ _ _ _ _ Ha Hb HS H1 _) fun u1 zu1=>?_;replace G:=hid (G.ext zu1);replace X:=hid (X.trans zu1);clear g g0 g1 g2 g3 g4 g5 g6 g7 g8
  cases b1
  ·go_wp2
   go_ret;exact ⟨aK (by simpa using hr),X⟩
  have g:=G.lt;have g0:=G.cell 0 rfl;have g1:=G.cell 1 rfl;have g2:=G.cell 2 rfl;have g3:=G.cell 3 rfl;have g4:=G.cell 4 rfl;have g5:=G.cell 5 rfl;have g6:=G.cell 6 rfl;have g7:=G.cell 7 rfl;have g8:=G.cell 8 rfl;go_wp2_with fail;refine r_ (gV _ _ _ _ _ _ Hb Hc HS H2 _) fun u2 zu2=>?_;replace G:=hid (G.ext zu2);replace X:=hid (X.trans zu2);clear g g0 g1 g2 g3 g4 g5 g6 g7 g8
  cases b2
  ·go_wp2
   go_ret;exact ⟨aK (by simpa using hr),X⟩
  have g:=G.lt;have g0:=G.cell 0 rfl;have g1:=G.cell 1 rfl;have g2:=G.cell 2 rfl;have g3:=G.cell 3 rfl;have g4:=G.cell 4 rfl;have g5:=G.cell 5 rfl;have g6:=G.cell 6 rfl;have g7:=G.cell 7 rfl;have g8:=G.cell 8 rfl;go_wp2_with fail;refine r_ (gV _ _ _ _ _ _ Hc Ha HS H3 _) fun u3 zu3=>?_;go_wp2;go_ret;exact ⟨aK (by simpa using hr),X.trans zu3⟩
theorem aKc (ax ay az bx by' bz cx cy cz:Int) (ha:aS9 ⟨ax,ay,az⟩) (hb:aS9 ⟨bx,by',bz⟩) (hc:aS9 ⟨cx,cy,cz⟩) (hz:(-1000000<=az/\az<=1000000)/\(-1000000<=bz/\bz<=1000000)/\(-1000000<=cz/\cz<=1000000)) (sx sy:Int) (hs:aS9 ⟨sx,sy,0⟩) (hr:qS ⟨ax,ay,az⟩ ⟨bx,by',bz⟩ ⟨cx,cy,cz⟩ ⟨sx,sy,0⟩=false) (w:World) :
  R_ 100 #[.agg #[ax,ay,az,bx,by',bz,cx,cy,cz],sx,sy] w (.tuple #[(),.bool false]):=by
 have Ha:=aT ha;have Hb:=aT hb;have Hc:=aT hc;have Hz:=hid hz;have HS:=aT hs;have HR:=hid hr;clear ha hb hc hz hs hr;have B0:=hid ((aRr w 153 [ax,ay,az,bx,by',bz,cx,cy,cz]).ext (show Ext (w.alloc (.cells #[ax,ay,az,bx,by',bz,cx,cy,cz] 153)) (w.alloc (.cells #[ax,ay,az,bx,by',bz,cx,cy,cz] 153)) from X_));have X0:=hid (show Ext w (w.alloc (.cells #[ax,ay,az,bx,by',bz,cx,cy,cz] 153)) from X_);go_enter func100,ntmps100;go_wp2_with fail;refine r_ (vA _ _ _ _ _ _ _ _ _ Ha Hb Hc Hz _ _ HS HR _) fun w1 x1=>?_;go_wp2;exact bodyPost_ret (v:=.tuple #[(),.bool false]) (by simp [results,results100,go_sem, *]) rfl ⟨rfl,X0.trans x1⟩
theorem pK {a b s:V3} (ha:a.scr) (hb:b.scr) (hs:s.scr) : -100000000000<=aW a b s/\aW a b s<=100000000000:=by
 have h:=sA ha hb hs;unfold aW;omega
theorem aHi (ax ay az bx by' bz cx cy cz:Int) (ha:aS9 ⟨ax,ay,az⟩) (hb:aS9 ⟨bx,by',bz⟩) (hc:aS9 ⟨cx,cy,cz⟩) (hz:(-1000000<=az/\az<=1000000)/\(-1000000<=bz/\bz<=1000000)/\(-1000000<=cz/\cz<=1000000)) (sx sy:Int) (hs:aS9 ⟨sx,sy,0⟩) (hr:qS ⟨ax,ay,az⟩ ⟨bx,by',bz⟩ ⟨cx,cy,cz⟩ ⟨sx,sy,0⟩=true) (hd:eK ⟨ax,ay,az⟩ ⟨bx,by',bz⟩ ⟨cx,cy,cz⟩ ⟨sx,sy,0⟩=r) (w:World) :
  R_ 100 #[.agg #[ax,ay,az,bx,by',bz,cx,cy,cz],sx,sy] w (.tuple #[r,.bool true]):=by
 have Ha:=aT ha;have Hb:=aT hb;have Hc:=aT hc;have Hz:=hid hz;have HS:=aT hs;have HR:=hid hr;unfold eK at hd;simp only at hd
 obtain ⟨n,en⟩:∃d,aW ⟨ax,ay,az⟩ ⟨bx,by',bz⟩ ⟨cx,cy,cz⟩=d:=⟨_,rfl⟩
 obtain ⟨s1,e1⟩:∃d,aW ⟨bx,by',bz⟩ ⟨cx,cy,cz⟩ ⟨sx,sy,0⟩=d:=⟨_,rfl⟩
 obtain ⟨s2,e2⟩:∃d,aW ⟨cx,cy,cz⟩ ⟨ax,ay,az⟩ ⟨sx,sy,0⟩=d:=⟨_,rfl⟩
 obtain ⟨s3,e3⟩:∃d,aW ⟨ax,ay,az⟩ ⟨bx,by',bz⟩ ⟨sx,sy,0⟩=d:=⟨_,rfl⟩
 have gn:=pK ha hb hc;have g1:=pK hb hc hs;have g2:=pK hc ha hs;have g3:=pK ha hb hs;have h0:=aKk hr;rw [en,e1,e2,e3] at h0 hd;rw [en] at gn;rw [e1] at g1;rw [e2] at g2;rw [e3] at g3
 obtain ⟨an,fn⟩:∃d,gC n=d:=⟨_,rfl⟩
 obtain ⟨a1,f1⟩:∃d,gC s1=d:=⟨_,rfl⟩
 obtain ⟨a2,f2⟩:∃d,gC s2=d:=⟨_,rfl⟩
 obtain ⟨a3,f3⟩:∃d,gC s3=d:=⟨_,rfl⟩
 have k1:=(dM (x:=s1)).1;have k2:=(dM (x:=s2)).1;have k3:=(dM (x:=s3)).1
 have kn:an<=100000000000:=by
  rcases Int.le_total 0 n with h|h
  ·have:=(dM (x:=n)).2.1 h;omega
  ·have:=(dM (x:=n)).2.2 h;omega
 rw [fn,f1,f2,f3] at h0;rw [f1] at k1;rw [f2] at k2;rw [f3] at k3;rw [fn,f1,f2,f3] at hd
 obtain ⟨q1,i1⟩:∃q,az*a1=q:=⟨_,rfl⟩
 obtain ⟨q2,i2⟩:∃q,bz*a2=q:=⟨_,rfl⟩
 obtain ⟨q3,i3⟩:∃q,cz*a3=q:=⟨_,rfl⟩
 have j1:=aY (A:=1000000) (B:=100000000000) (a:=az) (b:=a1) hz.1 (by omega);have j2:=aY (A:=1000000) (B:=100000000000) (a:=bz) (b:=a2) hz.2.1 (by omega);have j3:=aY (A:=1000000) (B:=100000000000) (a:=cz) (b:=a3) hz.2.2 (by omega);rw [i1] at j1 hd;rw [i2] at j2 hd;rw [i3] at j3 hd;have w1:=hid (show wrap64 (az*a1)=q1 by rw [i1];exact aD (by omega) (by omega));have w2:=hid (show wrap64 (bz*a2)=q2 by rw [i2];exact aD (by omega) (by omega));have w3:=hid (show wrap64 (cz*a3)=q3 by rw [i3];exact aD (by omega) (by omega));have w4:=hid (show wrap64 (q1+q2)=q1+q2 from aD (by omega) (by omega));have w5:=hid (show wrap64 (q1+q2+q3)=q1+q2+q3 from aD (by omega) (by omega));have I9:=hid (show I64 (q1+q2+q3) from I64.of (m:=400000000000000000) (by omega) (by decide));have HN:=hid (show aW ⟨ax,ay,az⟩ ⟨bx,by',bz⟩ ⟨cx,cy,0⟩=n from en);have H1:=hid e1;have H2:=hid e2;have H3:=hid e3;have FN:=hid fn;have F1:=hid f1;have F2:=hid f2;have F3:=hid f3;have GN:=hid gn;have G1:=hid g1;have G2:=hid g2;have G3:=hid g3;have HD:=hid hd;clear ha hb hc hz hs hr hd en e1 e2 e3 fn f1 f2 f3 gn g1 g2 g3 h0 i1 i2 i3 j1 j2 j3 k1 k2 k3 kn;have B0:=hid ((aRr w 153 [ax,ay,az,bx,by',bz,cx,cy,cz]).ext (show Ext (w.alloc (.cells #[ax,ay,az,bx,by',bz,cx,cy,cz] 153)) (w.alloc (.cells #[ax,ay,az,bx,by',bz,cx,cy,cz] 153)) from X_));have X0:=hid (show Ext w (w.alloc (.cells #[ax,ay,az,bx,by',bz,cx,cy,cz] 153)) from X_);go_enter func100,ntmps100;go_wp2_with fail;refine r_ (vA _ _ _ _ _ _ _ _ _ Ha Hb Hc Hz _ _ HS HR _) fun v1 x1=>?_;replace B0:=hid (B0.ext x1);replace X0:=hid (X0.trans x1);have p:=B0.lt;have p0:=B0.cell 0 rfl;have p1:=B0.cell 1 rfl;have p2:=B0.cell 2 rfl;have p3:=B0.cell 3 rfl;have p4:=B0.cell 4 rfl;have p5:=B0.cell 5 rfl;have p6:=B0.cell 6 rfl;have p7:=B0.cell 7 rfl;have p8:=B0.cell 8 rfl;go_wp2_with fail;refine r_ (sX _ _ _ _ _ _ _ _ _ Ha Hb Hc Hz _) fun v2 x2=>?_;clear p p0 p1 p2 p3 p4 p5 p6 p7 p8;replace B0:=hid (B0.ext x2);replace X0:=hid (X0.trans x2);have G:=hid (aRr v2 151 [ax,ay,az,bx,by',bz,cx,cy,cz]);have yN:Ext v2 (v2.alloc (.cells #[ax,ay,az,bx,by',bz,cx,cy,cz] 151)):=X_;replace B0:=hid (B0.ext yN);replace X0:=hid (X0.trans yN);clear yN x1 x2;have p:=B0.lt;have p0:=B0.cell 0 rfl;have p1:=B0.cell 1 rfl;have p2:=B0.cell 2 rfl;have p3:=B0.cell 3 rfl;have p4:=B0.cell 4 rfl;have p5:=B0.cell 5 rfl;have p6:=B0.cell 6 rfl;have p7:=B0.cell 7 rfl;have p8:=B0.cell 8 rfl;go_wp2_with fail;refine r_ (aBl _ _ _ _ _ _ _ _ _ Ha Hb Hc Hz HN _) fun v3 x3=>?_;replace G:=hid (G.ext x3);replace X0:=hid (X0.trans x3);clear p p0 p1 p2 p3 p4 p5 p6 p7 p8;go_wp2_with fail;refine z_ (sY GN FN _) ?_;have g:=G.lt;have g0:=G.cell 0 rfl;have g1:=G.cell 1 rfl;have g2:=G.cell 2 rfl;have g3:=G.cell 3 rfl;have g4:=G.cell 4 rfl;have g5:=G.cell 5 rfl;have g6:=G.cell 6 rfl;have g7:=G.cell 7 rfl;have g8:=G.cell 8 rfl;go_wp2_with fail;refine r_ (jA _ _ _ _ _ _ Hb Hc HS H1 _) fun v5 x5=>?_;replace G:=hid (G.ext x5);replace X0:=hid (X0.trans x5);clear g g0 g1 g2 g3 g4 g5 g6 g7 g8;go_wp2_with fail;refine z_ (sY G1 F1 _) ?_;have g:=G.lt;have g0:=G.cell 0 rfl;have g1:=G.cell 1 rfl;have g2:=G.cell 2 rfl;have g3:=G.cell 3 rfl;have g4:=G.cell 4 rfl;have g5:=G.cell 5 rfl;have g6:=G.cell 6 rfl;have g7:=G.cell 7 rfl;have g8:=G.cell 8 rfl;go_wp2_with fail;refine r_ (jA _ _ _ _ _ _ Hc Ha HS H2 _) fun v6 x6=>?_;replace G:=hid (G.ext x6);replace X0:=hid (X0.trans x6);clear g g0 g1 g2 g3 g4 g5 g6 g7 g8;go_wp2_with fail;refine z_ (sY G2 F2 _) ?_;have g:=G.lt;have g0:=G.cell 0 rfl;have g1:=G.cell 1 rfl;have g2:=G.cell 2 rfl;have g3:=G.cell 3 rfl;have g4:=G.cell 4 rfl;have g5:=G.cell 5 rfl;have g6:=G.cell 6 rfl;have g7:=G.cell 7 rfl;have g8:=G.cell 8 rfl;go_wp2_with fail;refine r_ (jA _ _ _ _ _ _ Ha Hb HS H3 _) fun v7 x7=>?_;replace G:=hid (G.ext x7);replace X0:=hid (X0.trans x7);clear g g0 g1 g2 g3 g4 g5 g6 g7 g8;go_wp2_with fail;refine z_ (sY G3 F3 _) ?_;have g:=G.lt;have g0:=G.cell 0 rfl;have g1:=G.cell 1 rfl;have g2:=G.cell 2 rfl;have g3:=G.cell 3 rfl;have g4:=G.cell 4 rfl;have g5:=G.cell 5 rfl;have g6:=G.cell 6 rfl;have g7:=G.cell 7 rfl;have g8:=G.cell 8 rfl;have u1:=w1.out;have u2:=w2.out;have u3:=w3.out;have u4:=w4.out;have u5:=w5.out;go_wp2_with fail;refine z_ (aV I9 HD _) ?_;go_wp2;exact bodyPost_ret (v:=.tuple #[r,.bool true]) (by simp [results,results100,go_sem, *]) rfl ⟨rfl,X0⟩
theorem pL (x y z k l m t:Int) (ht:0<=t/\t<=16) (w:World) :
  R_ 204 #[.agg #[x,y,z],.agg #[k,l,m],t,.int .i64 16] w (.agg #[(gQ x k t 16),(gQ y l t 16),(gQ z m t 16)]):=by
 obtain ⟨ux,h3⟩:∃r,cl x=r:=⟨_,rfl⟩
 have h9:=cS x;rw [h3] at h9
 obtain ⟨uy,h4⟩:∃r,cl y=r:=⟨_,rfl⟩
 have q4:=cS y;rw [h4] at q4
 obtain ⟨uz,h5⟩:∃r,cl z=r:=⟨_,rfl⟩
 have q5:=cS z;rw [h5] at q5
 obtain ⟨uk,h0⟩:∃r,cl k=r:=⟨_,rfl⟩
 have h6:=cS k;rw [h0] at h6
 obtain ⟨ul,h1⟩:∃r,cl l=r:=⟨_,rfl⟩
 have h7:=cS l;rw [h1] at h7
 obtain ⟨um,h2⟩:∃r,cl m=r:=⟨_,rfl⟩
 have h8:=cS m;rw [h2] at h8;have p0:=aY (A:=1000000) (B:=16) (a:=ux) (b:=16 - t) h9 (by omega)
 obtain ⟨q0,e0⟩:∃r,ux*(16 - t)=r:=⟨_,rfl⟩
 rw [e0] at p0;have r0:=aY (A:=1000000) (B:=16) (a:=uk) (b:=t) h6 (by omega)
 obtain ⟨s0,g0⟩:∃r,uk*t=r:=⟨_,rfl⟩
 rw [g0] at r0
 obtain ⟨v0,q6⟩:∃r,gQ x k t 16=r:=⟨_,rfl⟩
 rw [q6];have F0:=hid (show bT (q0+s0) 16=v0 by rw [<-q6];unfold gQ;rw [h3,h0,e0,g0]);have M0:=hid (show wrap64 (ux*(16 - t))=q0 by rw [e0];exact aD (by omega) (by omega));have N0:=hid (show wrap64 (uk*t)=s0 by rw [g0];exact aD (by omega) (by omega));have S0:=hid (show wrap64 (q0+s0)=q0+s0 from aD (by omega) (by omega));have I0:=hid (I64.of (n:=q0+s0) (m:=40000000) (by omega) (by decide));have p1:=aY (A:=1000000) (B:=16) (a:=uy) (b:=16 - t) q4 (by omega)
 obtain ⟨q1,e1⟩:∃r,uy*(16 - t)=r:=⟨_,rfl⟩
 rw [e1] at p1;have r1:=aY (A:=1000000) (B:=16) (a:=ul) (b:=t) h7 (by omega)
 obtain ⟨s1,g1⟩:∃r,ul*t=r:=⟨_,rfl⟩
 rw [g1] at r1
 obtain ⟨v1,q7⟩:∃r,gQ y l t 16=r:=⟨_,rfl⟩
 rw [q7];have F1:=hid (show bT (q1+s1) 16=v1 by rw [<-q7];unfold gQ;rw [h4,h1,e1,g1]);have M1:=hid (show wrap64 (uy*(16 - t))=q1 by rw [e1];exact aD (by omega) (by omega));have N1:=hid (show wrap64 (ul*t)=s1 by rw [g1];exact aD (by omega) (by omega));have S1:=hid (show wrap64 (q1+s1)=q1+s1 from aD (by omega) (by omega));have I1:=hid (I64.of (n:=q1+s1) (m:=40000000) (by omega) (by decide));have p2:=aY (A:=1000000) (B:=16) (a:=uz) (b:=16 - t) q5 (by omega)
 obtain ⟨q2,e2⟩:∃r,uz*(16 - t)=r:=⟨_,rfl⟩
 rw [e2] at p2;have r2:=aY (A:=1000000) (B:=16) (a:=um) (b:=t) h8 (by omega)
 obtain ⟨s2,g2⟩:∃r,um*t=r:=⟨_,rfl⟩
 rw [g2] at r2
 obtain ⟨v2,q8⟩:∃r,gQ z m t 16=r:=⟨_,rfl⟩
 rw [q8];have F2:=hid (show bT (q2+s2) 16=v2 by rw [<-q8];unfold gQ;rw [h5,h2,e2,g2]);have M2:=hid (show wrap64 (uz*(16 - t))=q2 by rw [e2];exact aD (by omega) (by omega));have N2:=hid (show wrap64 (um*t)=s2 by rw [g2];exact aD (by omega) (by omega));have S2:=hid (show wrap64 (q2+s2)=q2+s2 from aD (by omega) (by omega));have I2:=hid (I64.of (n:=q2+s2) (m:=40000000) (by omega) (by decide));have x5:=hid h3;have x6:=hid h4;have x7:=hid h5;have q9:=hid h0;have x3:=hid h1;have x4:=hid h2;have T0:=hid (show wrap64 (16 - t)=16 - t from aD (by omega) (by omega));clear h3 h9 h4 q4 h5 q5 h0 h6 h1 h7 h2 h8 p0 e0 r0 g0 q6 p1 e1 r1 g1 q7 p2 e2 r2 g2 q8;have J1:=hid (show inB 16 1 4096=true from rfl);have J2:=hid (aG.2 (show (0:Int)<=t/\t<=16 from ht));clear ht;have B0:=hid ((aRr w 122 [x,y,z]).ext (show Ext (w.alloc (.cells #[x,y,z] 122)) (((w.alloc (.cells #[x,y,z] 122)).alloc (.cells #[k,l,m] 122)).alloc (.cells #[(),(),()] 122)) from X_));have B1:=hid (show Blk (((w.alloc (.cells #[x,y,z] 122)).alloc (.cells #[k,l,m] 122)).alloc (.cells #[(),(),()] 122)) (w.heap.size+1) 122 [k,l,m] from by have q:=(aRr (w.alloc (.cells #[x,y,z] 122)) 122 [k,l,m]).ext (show Ext ((w.alloc (.cells #[x,y,z] 122)).alloc (.cells #[k,l,m] 122)) (((w.alloc (.cells #[x,y,z] 122)).alloc (.cells #[k,l,m] 122)).alloc (.cells #[(),(),()] 122)) from X_);simp only [aRj] at q;exact q);have B2:=hid (show Blk (((w.alloc (.cells #[x,y,z] 122)).alloc (.cells #[k,l,m] 122)).alloc (.cells #[(),(),()] 122)) (w.heap.size+2) 122 [(),(),()] from by have q:=(aRr ((w.alloc (.cells #[x,y,z] 122)).alloc (.cells #[k,l,m] 122)) 122 [(),(),()]).ext (show Ext (((w.alloc (.cells #[x,y,z] 122)).alloc (.cells #[k,l,m] 122)).alloc (.cells #[(),(),()] 122)) (((w.alloc (.cells #[x,y,z] 122)).alloc (.cells #[k,l,m] 122)).alloc (.cells #[(),(),()] 122)) from X_);simp only [aRj] at q;exact q);have X0:=hid (show Ext w (((w.alloc (.cells #[x,y,z] 122)).alloc (.cells #[k,l,m] 122)).alloc (.cells #[(),(),()] 122)) from X_);go_enter func204,ntmps204;go_wp2_with fail;refine r_ (jR x5 x6 x7 _) fun w1 x1=>?_;replace B0:=hid (B0.ext x1);replace B1:=hid (B1.ext x1);replace B2:=hid (B2.ext x1);replace X0:=hid (X0.trans x1);have b:=B1.lt;obtain ⟨b0,b1,b2⟩:=B1.q3;have z1:=X0.size;go_wp2_with fail;refine r_ (jR q9 x3 x4 _) fun w2 x2=>?_;have D1:=(aRr w1 122 [ux,uy,uz]).ext x2;have y1:Ext w1 w2:=aRo X_ x2;clear b0 b1 b2 b;replace B0:=hid (B0.ext y1);replace B1:=hid (B1.ext y1);replace B2:=hid (B2.ext y1);replace X0:=hid (X0.trans y1);have a:=D1.lt;obtain ⟨a0,a1,a2⟩:=D1.q3;have r:=B2.lt;obtain ⟨r0,r1,r2⟩:=B2.q3;have x8:=B2.free 0;have x9:=B2.free 1;have z0:=B2.free 2;have z2:=X0.size;have z3:=y1.size;have x0:=X0.out;clear D1 x2 y1 x1;go_wp2_with fail;refine z_ (aF J1 _) ?_;go_wp2_with fail;refine z_ (aF J2 _) ?_;have t0:=T0.out;have m0:=M0.out;have n0:=N0.out;have z4:=S0.out;have m1:=M1.out;have n1:=N1.out;have z5:=S1.out;have m2:=M2.out;have n2:=N2.out;have z6:=S2.out;go_wp2_with fail;refine aA [([0,1,2,3,4,5,6,7,8,9,10,11,13,14,15,16,17,18,19,20,21,22,23,24,26,27,28,29,30,31,32,33,34,35,36,37],12),([],25),([],38),([39],40)] 40 (w2.heap.size+1) (by kernel_rfl) (by kernel_rfl) ?_;refine st_ fun K hK=>?_;go_wp2_with fail;refine z_ (aV I0 F0 _) ?_;go_wp2_with fail;refine k_ hK ?_;clear hK K;refine st_ fun K hK=>?_;go_wp2_with fail;refine z_ (aV I1 F1 _) ?_;go_wp2_with fail;refine k_ hK ?_;clear hK K;refine st_ fun K hK=>?_;go_wp2_with fail;refine z_ (aV I2 F2 _) ?_;go_wp2_with fail;refine k_ hK ?_;clear hK K;refine st_ fun K hK=>?_;go_wp2_with fail;refine l_ hK ?_;clear hK K;refine aC ?_;go_wp2;exact bodyPost_ret (v:=.agg #[v0,v1,v2]) (by simp [results,results204,go_sem, *]) rfl ⟨rfl,S_⟩
def aQv (f g:Nat->Int) (t:Int) (j:Nat):List Value:=(aR6 12).map fun i=>.int .i64 (if i<3*j then aX f g t i else f i)
theorem aL8 (f g:Nat->Int) (t:Int) (ht:0<=t/\t<=16) (w:World) :
  R_ 149 #[.agg f,.agg g,t] w (.agg (aX f g t)):=by
 have HT:=hid ht;have J2:=hid (aG.2 (show (0:Int)<=t/\t<=16 from ht));clear ht;have B0:=hid ((aRr w 125 f).ext (show Ext (w.alloc (.cells f 125)) ((((w.alloc (.cells f 125)).alloc (.cells g 125)).alloc (.cells #[(),(),(),(),(),(),(),(),(),(),(),()] 125)).alloc (.cells f 125)) from X_));have B1:=hid (show Blk ((((w.alloc (.cells f 125)).alloc (.cells g 125)).alloc (.cells #[(),(),(),(),(),(),(),(),(),(),(),()] 125)).alloc (.cells f 125)) (w.heap.size+1) 125 g from by have q:=(aRr (w.alloc (.cells f 125)) 125 g).ext (show Ext ((w.alloc (.cells f 125)).alloc (.cells g 125)) ((((w.alloc (.cells f 125)).alloc (.cells g 125)).alloc (.cells #[(),(),(),(),(),(),(),(),(),(),(),()] 125)).alloc (.cells f 125)) from X_);simp only [aRj] at q;exact q);have B2:=hid (show Blk ((((w.alloc (.cells f 125)).alloc (.cells g 125)).alloc (.cells #[(),(),(),(),(),(),(),(),(),(),(),()] 125)).alloc (.cells f 125)) (w.heap.size+2) 125 [(),(),(),(),(),(),(),(),(),(),(),()] from by have q:=(aRr ((w.alloc (.cells f 125)).alloc (.cells g 125)) 125 [(),(),(),(),(),(),(),(),(),(),(),()]).ext (show Ext (((w.alloc (.cells f 125)).alloc (.cells g 125)).alloc (.cells #[(),(),(),(),(),(),(),(),(),(),(),()] 125)) ((((w.alloc (.cells f 125)).alloc (.cells g 125)).alloc (.cells #[(),(),(),(),(),(),(),(),(),(),(),()] 125)).alloc (.cells f 125)) from X_);simp only [aRj] at q;exact q);have B3:=hid (show Blk ((((w.alloc (.cells f 125)).alloc (.cells g 125)).alloc (.cells #[(),(),(),(),(),(),(),(),(),(),(),()] 125)).alloc (.cells f 125)) (w.heap.size+3) 125 f from by have q:=(aRr (((w.alloc (.cells f 125)).alloc (.cells g 125)).alloc (.cells #[(),(),(),(),(),(),(),(),(),(),(),()] 125)) 125 f).ext (show Ext ((((w.alloc (.cells f 125)).alloc (.cells g 125)).alloc (.cells #[(),(),(),(),(),(),(),(),(),(),(),()] 125)).alloc (.cells f 125)) ((((w.alloc (.cells f 125)).alloc (.cells g 125)).alloc (.cells #[(),(),(),(),(),(),(),(),(),(),(),()] 125)).alloc (.cells f 125)) from X_);simp only [aRj] at q;exact q);have X0:=hid (show Ext w ((((w.alloc (.cells f 125)).alloc (.cells g 125)).alloc (.cells #[(),(),(),(),(),(),(),(),(),(),(),()] 125)).alloc (.cells f 125)) from X_);go_enter func149,ntmps149;go_wp2_with fail;refine z_ (aF J2 _) ?_;go_wp2_with fail
 obtain ⟨W,hW⟩:∃W,((((w.alloc (.cells f 125)).alloc (.cells g 125)).alloc (.cells #[(),(),(),(),(),(),(),(),(),(),(),()] 125)).alloc (.cells f 125))=W:=⟨_,rfl⟩
 try simp only [aRj]
 rw [hW];rw [hW] at B0 B1 B2 B3 X0;clear hW
 go_loopw [14] (fun i wr=>∃j:Nat,j<=4/\i = .int .i64 (j:Nat)/\Ext w wr/\Blk wr w.heap.size 125 f/\Blk wr (w.heap.size+1) 125 g/\Blk wr (w.heap.size+2) 125 [(),(),(),(),(),(),(),(),(),(),(),()]/\Blk wr (w.heap.size+3) 125 (aQv f g t j)) (fun i _=>4 - (intOf i).toNat)
 case atStart=>exact ⟨0,by omega,rfl,X0,B0,B1,B2,B3⟩
 case round=>
  obtain ⟨j,hj,rfl,hx,h0,h1,h2,h3⟩:=hrel;clear B0 B1 B2 B3 X0;have X0:=hid hx;have B0:=hid h0;have B1:=hid h1;have B2:=hid h2;have B3:=hid h3;clear hx h0 h1 h2 h3
  rcases (show j=0\/j=1\/j=2\/j=3\/j=4 by omega) with rfl|rfl|rfl|rfl|rfl
  ·replace B3:=hid (show Blk wr (w.heap.size+3) 125 f from B3)
   have p:=B0.lt;obtain ⟨p0,p1,p2,p3,p4,p5,p6,p7,p8,p9,z0,z1⟩:=B0.q12;have q:=B1.lt;obtain ⟨q0,q1,q2,q3,q4,q5,q6,q7,q8,q9,z2,z4⟩:=B1.q12;have r:=B3.lt;obtain ⟨r0,r1,r2,r3,r4,r5,r6,r7,r8,r9,h6,h7⟩:=B3.q12;have h8:=B3.free 0;have h9:=B3.free 1;have x1:=B3.free 2;have x2:=B3.free 3;have x3:=B3.free 4;have x4:=B3.free 5;have x6:=B3.free 6;have x7:=B3.free 7;have x8:=B3.free 8;have x9:=B3.free 9;have h4:=B3.free 10;have h5:=B3.free 11;have zs:=X0.size;have z3:=B3.lt;go_wp2_with fail;refine aA [([0,1,2,3,4,5,6,7,8,9,11],10),([12],13)] 99 (w.heap.size+3) (by kernel_rfl) (by kernel_rfl) ?_;refine st_ fun K hK=>?_;go_wp2_with fail;refine r_ (pL _ _ _ _ _ _ t HT _) fun w5 x5=>?_;have y5:Ext wr w5:=aRo (aSk (aRu _)) x5;go_wp2_with fail;refine hK _ _ (.inr (fun k _ hk=>y5.block (by first|omega|(simp;omega)))) ?_;clear hK K;clear r r0 r1 r2 r3 r4 r5 r6 r7 r8 r9 h6 h7 h8 h9 x1 x2 x3 x4 x6 x7 x8 x9 h4 h5;have C3:=B3.ext y5;have r:=C3.lt;obtain ⟨r0,r1,r2,r3,r4,r5,r6,r7,r8,r9,h6,h7⟩:=C3.q12;have h8:=C3.free 0;have h9:=C3.free 1;have x1:=C3.free 2;have x2:=C3.free 3;have x3:=C3.free 4;have x4:=C3.free 5;have x6:=C3.free 6;have x7:=C3.free 7;have x8:=C3.free 8;have x9:=C3.free 9;have h4:=C3.free 10;have h5:=C3.free 11;refine st_ fun K hK=>?_;go_wp2_with fail;have D:=hid (((C3.set 0 (.int .i64 (aX f g t 0))).set 1 (.int .i64 (aX f g t 1))).set 2 (.int .i64 (aX f g t 2)));have e0:=hid (((B0.ext y5).other (a:=⟨w.heap.size+3,0,none⟩) (by simp) (.int .i64 (aX f g t 0))).other (a:=⟨w.heap.size+3,1,none⟩) (by simp) (.int .i64 (aX f g t 1)) |>.other (a:=⟨w.heap.size+3,2,none⟩) (by simp) (.int .i64 (aX f g t 2)));have e1:=hid (((B1.ext y5).other (a:=⟨w.heap.size+3,0,none⟩) (by simp) (.int .i64 (aX f g t 0))).other (a:=⟨w.heap.size+3,1,none⟩) (by simp) (.int .i64 (aX f g t 1)) |>.other (a:=⟨w.heap.size+3,2,none⟩) (by simp) (.int .i64 (aX f g t 2)));have e2:=hid (((B2.ext y5).other (a:=⟨w.heap.size+3,0,none⟩) (by simp) (.int .i64 (aX f g t 0))).other (a:=⟨w.heap.size+3,1,none⟩) (by simp) (.int .i64 (aX f g t 1)) |>.other (a:=⟨w.heap.size+3,2,none⟩) (by simp) (.int .i64 (aX f g t 2)));have ex:=hid (aR0 (aR0 (aR0 (X0.trans y5) (by simp) _) (by simp) _) (by simp) _:Ext w (((w5.setCell ⟨w.heap.size+3,0,none⟩ (aX f g t 0)).setCell ⟨w.heap.size+3,1,none⟩ (aX f g t 1)).setCell ⟨w.heap.size+3,2,none⟩ (aX f g t 2)))
   refine hK _ _ (.inr (fun k _ hk=>by
    rw [aRt _ _ _ _ (by simp only;omega),aRt _ _ _ _ (by simp only;omega),aRt _ _ _ _ (by simp only;omega)]
    exact y5.block (by omega))) ?_
   clear hK K;refine aC ?_;go_wp2;go_roundw
   case rel=>exact ⟨1,by omega,by go_num,ex.out,e0.out,e1.out,e2.out,D⟩
   case measure=>simp [intOf]
  ·replace B3:=hid (show Blk wr (w.heap.size+3) 125 [(aX f g t 0),(aX f g t 1),(aX f g t 2),(f 3),(f 4),(f 5),(f 6),(f 7),(f 8),(f 9),(f 10),(f 11)] from B3)
   have p:=B0.lt;obtain ⟨p0,p1,p2,p3,p4,p5,p6,p7,p8,p9,z0,z1⟩:=B0.q12;have q:=B1.lt;obtain ⟨q0,q1,q2,q3,q4,q5,q6,q7,q8,q9,z2,z4⟩:=B1.q12;have r:=B3.lt;obtain ⟨r0,r1,r2,r3,r4,r5,r6,r7,r8,r9,h6,h7⟩:=B3.q12;have h8:=B3.free 0;have h9:=B3.free 1;have x1:=B3.free 2;have x2:=B3.free 3;have x3:=B3.free 4;have x4:=B3.free 5;have x6:=B3.free 6;have x7:=B3.free 7;have x8:=B3.free 8;have x9:=B3.free 9;have h4:=B3.free 10;have h5:=B3.free 11;have zs:=X0.size;have z3:=B3.lt;go_wp2_with fail;refine aA [([0,1,2,3,4,5,6,7,8,9,11],10),([12],13)] 99 (w.heap.size+3) (by kernel_rfl) (by kernel_rfl) ?_;refine st_ fun K hK=>?_;go_wp2_with fail;refine r_ (pL _ _ _ _ _ _ t HT _) fun w5 x5=>?_;have y5:Ext wr w5:=aRo (aSk (aRu _)) x5;go_wp2_with fail;refine hK _ _ (.inr (fun k _ hk=>y5.block (by first|omega|(simp;omega)))) ?_;clear hK K;clear r r0 r1 r2 r3 r4 r5 r6 r7 r8 r9 h6 h7 h8 h9 x1 x2 x3 x4 x6 x7 x8 x9 h4 h5;have C3:=B3.ext y5;have r:=C3.lt;obtain ⟨r0,r1,r2,r3,r4,r5,r6,r7,r8,r9,h6,h7⟩:=C3.q12;have h8:=C3.free 0;have h9:=C3.free 1;have x1:=C3.free 2;have x2:=C3.free 3;have x3:=C3.free 4;have x4:=C3.free 5;have x6:=C3.free 6;have x7:=C3.free 7;have x8:=C3.free 8;have x9:=C3.free 9;have h4:=C3.free 10;have h5:=C3.free 11;refine st_ fun K hK=>?_;go_wp2_with fail;have D:=hid (((C3.set 3 (.int .i64 (aX f g t 3))).set 4 (.int .i64 (aX f g t 4))).set 5 (.int .i64 (aX f g t 5)));have e0:=hid (((B0.ext y5).other (a:=⟨w.heap.size+3,3,none⟩) (by simp) (.int .i64 (aX f g t 3))).other (a:=⟨w.heap.size+3,4,none⟩) (by simp) (.int .i64 (aX f g t 4)) |>.other (a:=⟨w.heap.size+3,5,none⟩) (by simp) (.int .i64 (aX f g t 5)));have e1:=hid (((B1.ext y5).other (a:=⟨w.heap.size+3,3,none⟩) (by simp) (.int .i64 (aX f g t 3))).other (a:=⟨w.heap.size+3,4,none⟩) (by simp) (.int .i64 (aX f g t 4)) |>.other (a:=⟨w.heap.size+3,5,none⟩) (by simp) (.int .i64 (aX f g t 5)));have e2:=hid (((B2.ext y5).other (a:=⟨w.heap.size+3,3,none⟩) (by simp) (.int .i64 (aX f g t 3))).other (a:=⟨w.heap.size+3,4,none⟩) (by simp) (.int .i64 (aX f g t 4)) |>.other (a:=⟨w.heap.size+3,5,none⟩) (by simp) (.int .i64 (aX f g t 5)));have ex:=hid (aR0 (aR0 (aR0 (X0.trans y5) (by simp) _) (by simp) _) (by simp) _:Ext w (((w5.setCell ⟨w.heap.size+3,3,none⟩ (aX f g t 3)).setCell ⟨w.heap.size+3,4,none⟩ (aX f g t 4)).setCell ⟨w.heap.size+3,5,none⟩ (aX f g t 5)))
   refine hK _ _ (.inr (fun k _ hk=>by
    rw [aRt _ _ _ _ (by simp only;omega),aRt _ _ _ _ (by simp only;omega),aRt _ _ _ _ (by simp only;omega)]
    exact y5.block (by omega))) ?_
   clear hK K;refine aC ?_;go_wp2;go_roundw
   case rel=>exact ⟨2,by omega,by go_num,ex.out,e0.out,e1.out,e2.out,D⟩
   case measure=>simp [intOf]
  ·replace B3:=hid (show Blk wr (w.heap.size+3) 125 [(aX f g t 0),(aX f g t 1),(aX f g t 2),(aX f g t 3),(aX f g t 4),(aX f g t 5),(f 6),(f 7),(f 8),(f 9),(f 10),(f 11)] from B3)
   have p:=B0.lt;obtain ⟨p0,p1,p2,p3,p4,p5,p6,p7,p8,p9,z0,z1⟩:=B0.q12;have q:=B1.lt;obtain ⟨q0,q1,q2,q3,q4,q5,q6,q7,q8,q9,z2,z4⟩:=B1.q12;have r:=B3.lt;obtain ⟨r0,r1,r2,r3,r4,r5,r6,r7,r8,r9,h6,h7⟩:=B3.q12;have h8:=B3.free 0;have h9:=B3.free 1;have x1:=B3.free 2;have x2:=B3.free 3;have x3:=B3.free 4;have x4:=B3.free 5;have x6:=B3.free 6;have x7:=B3.free 7;have x8:=B3.free 8;have x9:=B3.free 9;have h4:=B3.free 10;have h5:=B3.free 11;have zs:=X0.size;have z3:=B3.lt;go_wp2_with fail;refine aA [([0,1,2,3,4,5,6,7,8,9,11],10),([12],13)] 99 (w.heap.size+3) (by kernel_rfl) (by kernel_rfl) ?_;refine st_ fun K hK=>?_;go_wp2_with fail;refine r_ (pL _ _ _ _ _ _ t HT _) fun w5 x5=>?_;have y5:Ext wr w5:=aRo (aSk (aRu _)) x5;go_wp2_with fail;refine hK _ _ (.inr (fun k _ hk=>y5.block (by first|omega|(simp;omega)))) ?_;clear hK K;clear r r0 r1 r2 r3 r4 r5 r6 r7 r8 r9 h6 h7 h8 h9 x1 x2 x3 x4 x6 x7 x8 x9 h4 h5;have C3:=B3.ext y5;have r:=C3.lt;obtain ⟨r0,r1,r2,r3,r4,r5,r6,r7,r8,r9,h6,h7⟩:=C3.q12;have h8:=C3.free 0;have h9:=C3.free 1;have x1:=C3.free 2;have x2:=C3.free 3;have x3:=C3.free 4;have x4:=C3.free 5;have x6:=C3.free 6;have x7:=C3.free 7;have x8:=C3.free 8;have x9:=C3.free 9;have h4:=C3.free 10;have h5:=C3.free 11;refine st_ fun K hK=>?_;go_wp2_with fail;have D:=hid (((C3.set 6 (.int .i64 (aX f g t 6))).set 7 (.int .i64 (aX f g t 7))).set 8 (.int .i64 (aX f g t 8)));have e0:=hid (((B0.ext y5).other (a:=⟨w.heap.size+3,6,none⟩) (by simp) (.int .i64 (aX f g t 6))).other (a:=⟨w.heap.size+3,7,none⟩) (by simp) (.int .i64 (aX f g t 7)) |>.other (a:=⟨w.heap.size+3,8,none⟩) (by simp) (.int .i64 (aX f g t 8)));have e1:=hid (((B1.ext y5).other (a:=⟨w.heap.size+3,6,none⟩) (by simp) (.int .i64 (aX f g t 6))).other (a:=⟨w.heap.size+3,7,none⟩) (by simp) (.int .i64 (aX f g t 7)) |>.other (a:=⟨w.heap.size+3,8,none⟩) (by simp) (.int .i64 (aX f g t 8)));have e2:=hid (((B2.ext y5).other (a:=⟨w.heap.size+3,6,none⟩) (by simp) (.int .i64 (aX f g t 6))).other (a:=⟨w.heap.size+3,7,none⟩) (by simp) (.int .i64 (aX f g t 7)) |>.other (a:=⟨w.heap.size+3,8,none⟩) (by simp) (.int .i64 (aX f g t 8)));have ex:=hid (aR0 (aR0 (aR0 (X0.trans y5) (by simp) _) (by simp) _) (by simp) _:Ext w (((w5.setCell ⟨w.heap.size+3,6,none⟩ (aX f g t 6)).setCell ⟨w.heap.size+3,7,none⟩ (aX f g t 7)).setCell ⟨w.heap.size+3,8,none⟩ (aX f g t 8)))
   refine hK _ _ (.inr (fun k _ hk=>by
    rw [aRt _ _ _ _ (by simp only;omega),aRt _ _ _ _ (by simp only;omega),aRt _ _ _ _ (by simp only;omega)]
    exact y5.block (by omega))) ?_
   clear hK K;refine aC ?_;go_wp2;go_roundw
   case rel=>exact ⟨3,by omega,by go_num,ex.out,e0.out,e1.out,e2.out,D⟩
   case measure=>simp [intOf]
  ·replace B3:=hid (show Blk wr (w.heap.size+3) 125 [(aX f g t 0),(aX f g t 1),(aX f g t 2),(aX f g t 3),(aX f g t 4),(aX f g t 5),(aX f g t 6),(aX f g t 7),(aX f g t 8),(f 9),(f 10),(f 11)] from B3)
   have p:=B0.lt;obtain ⟨p0,p1,p2,p3,p4,p5,p6,p7,p8,p9,z0,z1⟩:=B0.q12;have q:=B1.lt;obtain ⟨q0,q1,q2,q3,q4,q5,q6,q7,q8,q9,z2,z4⟩:=B1.q12;have r:=B3.lt;obtain ⟨r0,r1,r2,r3,r4,r5,r6,r7,r8,r9,h6,h7⟩:=B3.q12;have h8:=B3.free 0;have h9:=B3.free 1;have x1:=B3.free 2;have x2:=B3.free 3;have x3:=B3.free 4;have x4:=B3.free 5;have x6:=B3.free 6;have x7:=B3.free 7;have x8:=B3.free 8;have x9:=B3.free 9;have h4:=B3.free 10;have h5:=B3.free 11;have zs:=X0.size;have z3:=B3.lt;go_wp2_with fail;refine aA [([0,1,2,3,4,5,6,7,8,9,11],10),([12],13)] 99 (w.heap.size+3) (by kernel_rfl) (by kernel_rfl) ?_;refine st_ fun K hK=>?_;go_wp2_with fail;refine r_ (pL _ _ _ _ _ _ t HT _) fun w5 x5=>?_;have y5:Ext wr w5:=aRo (aSk (aRu _)) x5;go_wp2_with fail;refine hK _ _ (.inr (fun k _ hk=>y5.block (by first|omega|(simp;omega)))) ?_;clear hK K;clear r r0 r1 r2 r3 r4 r5 r6 r7 r8 r9 h6 h7 h8 h9 x1 x2 x3 x4 x6 x7 x8 x9 h4 h5;have C3:=B3.ext y5;have r:=C3.lt;obtain ⟨r0,r1,r2,r3,r4,r5,r6,r7,r8,r9,h6,h7⟩:=C3.q12;have h8:=C3.free 0;have h9:=C3.free 1;have x1:=C3.free 2;have x2:=C3.free 3;have x3:=C3.free 4;have x4:=C3.free 5;have x6:=C3.free 6;have x7:=C3.free 7;have x8:=C3.free 8;have x9:=C3.free 9;have h4:=C3.free 10;have h5:=C3.free 11;refine st_ fun K hK=>?_;go_wp2_with fail;have D:=hid (((C3.set 9 (.int .i64 (aX f g t 9))).set 10 (.int .i64 (aX f g t 10))).set 11 (.int .i64 (aX f g t 11)));have e0:=hid (((B0.ext y5).other (a:=⟨w.heap.size+3,9,none⟩) (by simp) (.int .i64 (aX f g t 9))).other (a:=⟨w.heap.size+3,10,none⟩) (by simp) (.int .i64 (aX f g t 10)) |>.other (a:=⟨w.heap.size+3,11,none⟩) (by simp) (.int .i64 (aX f g t 11)));have e1:=hid (((B1.ext y5).other (a:=⟨w.heap.size+3,9,none⟩) (by simp) (.int .i64 (aX f g t 9))).other (a:=⟨w.heap.size+3,10,none⟩) (by simp) (.int .i64 (aX f g t 10)) |>.other (a:=⟨w.heap.size+3,11,none⟩) (by simp) (.int .i64 (aX f g t 11)));have e2:=hid (((B2.ext y5).other (a:=⟨w.heap.size+3,9,none⟩) (by simp) (.int .i64 (aX f g t 9))).other (a:=⟨w.heap.size+3,10,none⟩) (by simp) (.int .i64 (aX f g t 10)) |>.other (a:=⟨w.heap.size+3,11,none⟩) (by simp) (.int .i64 (aX f g t 11)));have ex:=hid (aR0 (aR0 (aR0 (X0.trans y5) (by simp) _) (by simp) _) (by simp) _:Ext w (((w5.setCell ⟨w.heap.size+3,9,none⟩ (aX f g t 9)).setCell ⟨w.heap.size+3,10,none⟩ (aX f g t 10)).setCell ⟨w.heap.size+3,11,none⟩ (aX f g t 11)))
   refine hK _ _ (.inr (fun k _ hk=>by
    rw [aRt _ _ _ _ (by simp only;omega),aRt _ _ _ _ (by simp only;omega),aRt _ _ _ _ (by simp only;omega)]
    exact y5.block (by omega))) ?_
   clear hK K;refine aC ?_;go_wp2;go_roundw
   case rel=>exact ⟨4,by omega,by go_num,ex.out,e0.out,e1.out,e2.out,D⟩
   case measure=>simp [intOf]
  ·replace B3:=hid (show Blk wr (w.heap.size+3) 125 (aX f g t) from B3)
   have p:=B3.lt;obtain ⟨p0,p1,p2,p3,p4,p5,p6,p7,p8,p9,z0,z1⟩:=B3.q12;have r:=B2.lt;obtain ⟨r0,r1,r2,r3,r4,r5,r6,r7,r8,r9,h6,h7⟩:=B2.q12;have h8:=B2.free 0;have h9:=B2.free 1;have x1:=B2.free 2;have x2:=B2.free 3;have x3:=B2.free 4;have x4:=B2.free 5;have x6:=B2.free 6;have x7:=B2.free 7;have x8:=B2.free 8;have x9:=B2.free 9;have h4:=B2.free 10;have h5:=B2.free 11;have x0:=X0.out;go_wp2;exact bodyPost_ret (v:=.agg (aX f g t)) (by simp [results,results149,go_sem, *]) rfl ⟨rfl,S_⟩
theorem yY (f g:Nat->Int) (sh rt t:Int) (ht:0<=t/\t<=16) (w:World) :
  R_ 99 #[.agg #[(f 0),(f 1),(f 2),(f 3),(f 4),(f 5),(f 6),(f 7),(f 8),(f 9),(f 10),(f 11),(g 0),(g 1),(g 2),(g 3),(g 4),(g 5),(g 6),(g 7),(g 8),(g 9),(g 10),(g 11),sh,rt],t] w (.agg (aX f g t)):=by
 have HT:=hid ht;clear ht;have B0:=hid ((aRr w 127 [(f 0),(f 1),(f 2),(f 3),(f 4),(f 5),(f 6),(f 7),(f 8),(f 9),(f 10),(f 11),(g 0),(g 1),(g 2),(g 3),(g 4),(g 5),(g 6),(g 7),(g 8),(g 9),(g 10),(g 11),sh,rt]).ext (show Ext (w.alloc (.cells #[(f 0),(f 1),(f 2),(f 3),(f 4),(f 5),(f 6),(f 7),(f 8),(f 9),(f 10),(f 11),(g 0),(g 1),(g 2),(g 3),(g 4),(g 5),(g 6),(g 7),(g 8),(g 9),(g 10),(g 11),sh,rt] 127)) ((w.alloc (.cells #[(f 0),(f 1),(f 2),(f 3),(f 4),(f 5),(f 6),(f 7),(f 8),(f 9),(f 10),(f 11),(g 0),(g 1),(g 2),(g 3),(g 4),(g 5),(g 6),(g 7),(g 8),(g 9),(g 10),(g 11),sh,rt] 127)).alloc (.cells #[(),(),(),(),(),(),(),(),(),(),(),()] 125)) from X_));have B1:=hid (show Blk ((w.alloc (.cells #[(f 0),(f 1),(f 2),(f 3),(f 4),(f 5),(f 6),(f 7),(f 8),(f 9),(f 10),(f 11),(g 0),(g 1),(g 2),(g 3),(g 4),(g 5),(g 6),(g 7),(g 8),(g 9),(g 10),(g 11),sh,rt] 127)).alloc (.cells #[(),(),(),(),(),(),(),(),(),(),(),()] 125)) (w.heap.size+1) 125 [(),(),(),(),(),(),(),(),(),(),(),()] from by have q:=(aRr (w.alloc (.cells #[(f 0),(f 1),(f 2),(f 3),(f 4),(f 5),(f 6),(f 7),(f 8),(f 9),(f 10),(f 11),(g 0),(g 1),(g 2),(g 3),(g 4),(g 5),(g 6),(g 7),(g 8),(g 9),(g 10),(g 11),sh,rt] 127)) 125 [(),(),(),(),(),(),(),(),(),(),(),()]).ext (show Ext ((w.alloc (.cells #[(f 0),(f 1),(f 2),(f 3),(f 4),(f 5),(f 6),(f 7),(f 8),(f 9),(f 10),(f 11),(g 0),(g 1),(g 2),(g 3),(g 4),(g 5),(g 6),(g 7),(g 8),(g 9),(g 10),(g 11),sh,rt] 127)).alloc (.cells #[(),(),(),(),(),(),(),(),(),(),(),()] 125)) ((w.alloc (.cells #[(f 0),(f 1),(f 2),(f 3),(f 4),(f 5),(f 6),(f 7),(f 8),(f 9),(f 10),(f 11),(g 0),(g 1),(g 2),(g 3),(g 4),(g 5),(g 6),(g 7),(g 8),(g 9),(g 10),(g 11),sh,rt] 127)).alloc (.cells #[(),(),(),(),(),(),(),(),(),(),(),()] 125)) from X_);simp only [aRj] at q;exact q);have X0:=hid (show Ext w ((w.alloc (.cells #[(f 0),(f 1),(f 2),(f 3),(f 4),(f 5),(f 6),(f 7),(f 8),(f 9),(f 10),(f 11),(g 0),(g 1),(g 2),(g 3),(g 4),(g 5),(g 6),(g 7),(g 8),(g 9),(g 10),(g 11),sh,rt] 127)).alloc (.cells #[(),(),(),(),(),(),(),(),(),(),(),()] 125)) from X_);go_enter func99,ntmps99;go_wp2_with fail;refine r_ (aL8 f g t HT _) fun w1 x1=>?_;replace B1:=hid (B1.ext x1);replace X0:=hid (X0.trans x1);have r:=B1.lt;obtain ⟨r0,r1,r2,r3,r4,r5,r6,r7,r8,r9,h2,h3⟩:=B1.q12;have h4:=B1.free 0;have h5:=B1.free 1;have h6:=B1.free 2;have h7:=B1.free 3;have h8:=B1.free 4;have h9:=B1.free 5;have q0:=B1.free 6;have q1:=B1.free 7;have q2:=B1.free 8;have q3:=B1.free 9;have h0:=B1.free 10;have h1:=B1.free 11;have x0:=X0.out;go_wp2;exact bodyPost_ret (v:=.agg (aX f g t)) (by simp [results,results99,go_sem, *]) rfl ⟨rfl,S_⟩
end Go.Proofs.YthgpegkmjeigmaaGreat
