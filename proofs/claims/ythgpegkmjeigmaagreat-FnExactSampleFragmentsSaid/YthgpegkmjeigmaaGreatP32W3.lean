/- Texts of this claim, one behind another; what its theorem does not use is left out: Ck4, Ck5, Ck6, Ow1, Ow2, Ow3, Ow4, Ow5, Ow6, Ow7, Ow8, Ow9, Cl2, Cl3, Ld1, FnT, Ev1, Mc1, Mc2, PlanX, Ev2, Ev3, Pr2, Pr3, Ev4, Ev5, Ev6, Mc3, Mc4, Mc5, Mc6, Rg1, Rg2, Rg3, Ex2H, LawKitH, Lk8, Df1, Fl1, Ap1, Ap2. -/
import Derived.Test.YthgpegkmjeigmaaGreatP32W2
import Derived.Maps.OwnSet
import Derived.Maps.OwnOps
import Derived.Maps.Views
import Derived.Test.YthgpegkmjeigmaaGreatP32W1
import Derived.Lib.SliceRun
set_option linter.unusedSimpArgs false
set_option linter.unusedVariables false
set_option maxRecDepth 100000
set_option maxHeartbeats 12800000
namespace Go.Proofs.YthgpegkmjeigmaaGreat
open Go.RowKit
open Go.Proofs.Tryz
open _root_.Go.Act renaming put→aSj
variable {p:Addr} {cs:Array Value} {lg num op tm y:Int} {o u x xs:List Int} {us vs:List Value} {B L0 a b cap g hi i j k lo lo' lo2 m mb n q t:Nat} {f:Nat→Int} {e:TypeId} {lv pu r sv tu v:Value} {w w' w1 w2:World}
open _root_.Array renaming getElem?_eq_some_iff→aRi
open _root_.Bool renaming and_eq_true→aRd,eq_iff_iff→aVs,false_eq_true→aTs,not_eq_true→aYs,and_true→aYn
open _root_.Go.Addr.mk renaming injEq→aR1
open _root_.Go.Instr renaming makeInterface→aXx,typeAssert→aVe,findNow→aTl
open _root_.Go.Lib renaming toList_data→aVu,run_equalIn_slice_nil→aWc
open _root_.Go.Proofs.Tryz renaming prog→aQ2
open _root_.Go.Proofs.YthgpegkmjeigmaaGreat.Ext renaming refl→aQ6,trans→aQ3,grown→aR7,drew→aRz
open _root_.Go.RowKit.Below renaming heap_setCell→aQ7,mono→aY0,setCell→aXm
open _root_.Go.Value renaming ownBlock→aRu,slice→aR9
open _root_.Go.Value.slice renaming injEq→aRo
open _root_.Go.World renaming size_alloc→aQy,rowIs_made→aXh,cell?→aSy,cell?_of_block→aSe,frozen?_of_block→aSt
open _root_.Go.World.ownsRow renaming alloc→aVd,lt→aSw,cellAt→aS5,frozenAt→aY9,stored→aZz
open _root_.Int renaming toNat_natCast→aRr,one_mul→aZp
open _root_.List renaming replicate→aRj,range→aRl,getD_eq_getElem?_getD→aRs,getElem?_replicate→aT0,getElem?_set→aUm,foldl_cons→aZf,length_replicate→aU1,getElem?_eq_some_iff→aQz,take_succ_eq_append_getElem→aRv,take_length→aR2,all_eq_true→aR5,mem_of_getElem?→aRn,mem_replicate→aVn,getElem?_toArray→aQ1,getElem?_cons_zero→aQw,getElem?_cons_succ→aQx,take_of_length_le→aR3,mem_range→aR4,getElem_mem→aRh,getElem_of_mem→aRw,getElem?_map→aSo,getElem?_eq_getElem→aQ9,length_set→aZg,length_take→aRp,getElem?_take→aS1,mem_map→aS3,zipWith→aTq,all_cons→aXn,getElem?_append_left→aSb,getElem?_append_right→aR0,getElem?_drop→aTc,pairwise_append→aXs,mem_append→aTe,mem_singleton→aTy,pairwise_singleton→aYv,pairwise_cons→aWo,set_cons_zero→aRb,mem_cons_of_mem→aU7,set_cons_succ→aRc,mem_or_eq_of_mem_set→aWd,mem_cons_self→aVm,length_append→aRq,append_assoc→aRx,take_left→aZv,drop_left→aZr,mem_of_mem_drop→aUi,drop_eq_getElem_cons→aTd,drop_of_length_le→aWw,getD→aTz,eq_of_mem_replicate→aUg,length_singleton→aU2,drop_zero→aWx,filterMap_nil→aRg,setIfInBounds_toArray→aQ4,map→aXq,getElem?_eq_none→aU0,filterMap_cons→aRm
open _root_.Nat renaming min_eq_left→aTi,le_refl→aQv,le_trans→aQ5,add_zero→aSk,mul_le_mul→aRy,mod_lt→aTp,zero_le→aSi,mul_le_mul_right→aSq,add_mul→aTf,one_mul→aTh,mul_one→aUv,le_of_lt→aT5,mul_comm→aUu
open _root_.Option.some renaming injEq→aQ0
def lV (u:List Int) (i:Nat):List Int:=u.set i (u.getD i 0+1)
def iR (u:List Int) (es:List Int):List Int:=es.foldl (fun u a=>lV u a.toNat) u
def gZ (u:List Int) (xs:List Nd):List Int:=xs.foldl (fun u x=>iR u x.args) u
def kE (u:List Int) (gs:List Asg):List Int:=gs.foldl (fun u a=>lV u a.root.toNat) u
def Prg.usesA (p:Prg):List Int:=gZ (aRj p.ns.length 0) p.ns
def Prg.uses (p:Prg):List Int:=kE p.usesA p.gs
def Prg.ndB (p:Prg) (k:Nat):Bool:=match p.ns[k]? with|some x=>lU x.args k&&gK x|none=>true
def Prg.agB (p:Prg) (k:Nat):Bool:=match p.gs[k]? with|some x=>dE x.name&&inB x.root 0 ((p.ns.length:Int) - 1)|none=>true
def Prg.okB (p:Prg):Bool:=decide (p.ns.length<=60)&&(aRl p.ns.length).all p.ndB&&(aRl p.gs.length).all p.agB&&p.uses.all (· == 1)
theorem e_ {α:Sort _} (a:α):∃x,a=x:=⟨a,rfl⟩
theorem i_ {α:Sort _} (a:α):∃x,x=a:=⟨a,rfl⟩
theorem Prg.ndB_at {p:Prg} {x:Nd} (h:p.ns[k]?=some x):p.ndB k=(lU x.args k&&gK x):=by unfold Prg.ndB;rw [h]
theorem Prg.agB_at {p:Prg} {x:Asg} (h:p.gs[k]?=some x):p.agB k=(dE x.name&&inB x.root 0 ((p.ns.length:Int) - 1)):=by unfold Prg.agB;rw [h]
def mP (u:List Int) (t:Nat):Prop:=∀i,0<=u.getD i 0/\u.getD i 0<=t
theorem mP.zero (n:Nat):mP (aRj n 0) 0:=fun i=>by
 rw [aRs,aT0]
 split <;> simp
theorem mP.bump (h:mP u t) (i:Nat):mP (lV u i) (t+1):=fun j=>by
 have h1:=h i;have h2:=h j;unfold lV;rw [aRs,aUm]
 split
 ·split
  ·simp only [Option.getD_some];omega
  ·simp;omega
 ·rw [<-aRs];omega
theorem mP.mono {t':Nat} (h:mP u t) (ht:t<=t'):mP u t':=fun i=>⟨(h i).1,by have:=(h i).2;omega⟩
theorem oW (u:List Int) (i:Nat):(lV u i).length=u.length:=by simp [lV]
theorem oX (es:List Int):∀u:List Int,(iR u es).length=u.length:=by
 unfold iR
 induction es with
 | nil=>intro u;rfl
 | cons a r ih=>intro u;rw [aZf,ih,oW]
theorem tH (xs:List Nd):∀u:List Int,(gZ u xs).length=u.length:=by
 unfold gZ
 induction xs with
 | nil=>intro u;rfl
 | cons a r ih=>intro u;rw [aZf,ih,oX]
theorem lW (xs:List Asg):∀u:List Int,(kE u xs).length=u.length:=by
 unfold kE
 induction xs with
 | nil=>intro u;rfl
 | cons a r ih=>intro u;rw [aZf,ih,oW]
theorem Prg.usesA_len (p:Prg):p.usesA.length=p.ns.length:=by unfold Prg.usesA;rw [tH,aU1]
theorem oY {α : Type} {xs:List α} {x : α} (h:xs[k]?=some x):xs.take (k+1)=xs.take k++[x]:=by
 obtain ⟨hk,rfl⟩:=aQz.1 h;exact aRv hk
theorem mQ {es:List Int} (h:es[k]?=some y):lV (iR u (es.take k)) y.toNat=iR u (es.take (k+1)):=by
 rw [oY h];simp [iR]
theorem wN {xs:List Nd} {x:Nd} (h:xs[k]?=some x):iR (gZ u (xs.take k)) x.args=gZ u (xs.take (k+1)):=by
 rw [oY h];simp [gZ]
theorem mR {xs:List Asg} {x:Asg} (h:xs[k]?=some x):lV (kE u (xs.take k)) x.root.toNat=kE u (xs.take (k+1)):=by
 rw [oY h];simp [kE]
theorem aAn {x:Nd} (h:gK x=true):x.args.length<=3:=by
 unfold gK at h;simp only [aRd] at h;have:=h.2;unfold aB2 at this
 split at this
 ·simp at this;simp [this]
 split at this
 ·simp at this;omega
 split at this
 ·simp at this;omega
 split at this
 ·simp at this;omega
 ·cases this
theorem aB.upd (h:aB lo w (.slice (some ⟨b,0,none⟩) n cap) u) (hl:n=u.length) (hq:q<n) :
  lo<=b/\b<w.heap.size/\w.cell? ⟨b,q,none⟩=some (.int .i64 (u.getD q 0))/\w.frozen? ⟨b,q,none⟩=false/\∀x,I64 x->aB lo (w.setCell ⟨b,q,none⟩ x) (.slice (some ⟨b,0,none⟩) n cap) (u.set q x):=by
 obtain ⟨g,y,e,h1,h2,h3,h4,h5,h6⟩:=h.at hl (k:=q) (by omega);simp only [aQ0,aR1,and_true] at e;subst e;refine ⟨h1,h2,?_,h5,fun x hx=>(h6 x hx).1⟩;rw [h4,aRs,h3]
 rfl
theorem wO (h:k<xs.length) (hp:xs[k]≠1):xs.all (· == 1)=false:=vK h (by simpa using hp)
theorem zG (lo hi:Nat) (u:Value) (xs:List Int) (w:World) (hu:aU lo hi w u xs) :
  Calls aQ2 267 #[u,.func (.func 240) #[] #[]] w fun e w'=>(∃i:Int,e = .returned (.int .i64 i)/\decide (i≥0) = !(xs.all (· == 1)))/\w=w':=by
 obtain ⟨a,cap,rfl,HU⟩:=hu.open;have l1:=HU.le;have l2:=HU.cap;clear hu;go_enter func267,ntmps267;go_wp2
 go_loopw [8] (fun i wr=>∃k:Nat,k<=xs.length/\i = .int .i64 k/\wr=w/\(xs.take k).all (· == 1)=true) (fun i _=>xs.length - (intOf i).toNat)
 case atStart=>exact ⟨0,by omega,rfl,rfl,rfl⟩
 case round=>
  obtain ⟨k,hk,rfl,rfl,h0⟩:=hrel;have HA:=hid h0;clear h0
  by_cases h3:k<xs.length
  ·obtain ⟨b,h6,rfl,h4,h5,hc⟩:=HU.at h3
   by_cases h1:xs[k]=1
   ·rw [h1] at hc
    have H1:=hid h1;clear h1;go_wp2;go_roundw
    case rel=>exact ⟨k+1,by omega,by go_num,by trivial,iZ h3 HA.out (by simp [H1.out])⟩
    case measure=>simp [intOf];omega
   ·obtain ⟨y,hy⟩:=e_ (xs[k])
    have H1:=hid (wO h3 h1);rw [hy] at hc h1;have h2:(y==1)=false:=beq_eq_false_iff_ne.2 h1;clear hy;go_wp2;go_ret;exact ⟨⟨_,rfl,by rw [H1];simp⟩,rfl⟩
  ·obtain rfl:k=xs.length:=by omega
   go_wp2;go_ret;have hA:=HA.out;rw [aR2] at hA;exact ⟨⟨_,rfl,by rw [hA];rfl⟩,rfl⟩
theorem tI {b:Bool} (lo hi:Nat) (u:Value) (xs:List Int) (w:World) (hb:xs.all (· == 1)=b) (hu:aU lo hi w u xs) :
  Z_ 239 #[u,.func (.func 240) #[] #[]] w (.bool (!b)):=by
 obtain ⟨a,cap,rfl,HU⟩:=hu.open;have HI:=hid hu;clear hu;go_enter func239,ntmps239;go_wp2_with fail;refine (zG lo hi _ xs _ HI).mono ?_;rintro e w1 ⟨⟨i,rfl,hi2⟩,rfl⟩;go_wp2;go_ret;exact ⟨aL (by first|rfl|(rw [<-hb];exact hi2)),rfl⟩
theorem wP {x:Nd} {b:Bool} (h:gK x=b) (a:Option Addr) (cap:Nat) (w:World) (hs:x.name.size<=maxLen) :
  R_ 237 #[.agg #[x.op,.string x.name,x.num,.slice a x.args.length cap]] w (.bool b):=h▸wM x.op x.name x.num a x.args cap w hs
theorem aHo {r:List Int} {i:Int} (h:lU r i=true) (hj:r[j]?=some y):0<=y/\y<=i - 1:=by
 unfold lU at h;rw [aR5] at h;exact aG.1 (h y (aRn hj))
theorem aU.openS {u:Value} (h:aU lo hi w u xs):∃a c,u = .slice a xs.length c/\aU lo hi w (.slice a xs.length c) xs/\fY lo hi w a c xs:=by
 obtain ⟨a,c,rfl,H⟩:=h.open;exact ⟨a,c,rfl,h,H⟩
theorem rJ.atW {a:Option Addr} {xs:List Nd} (h:rJ lo hi w a cap xs) (hk:k<xs.length) {wr:World} (hx:Ext w wr) (hh:hi<=w.heap.size) :
  ∃b off op s n sa sc r,a=some ⟨b,off,none⟩/\b<w.heap.size/\b<wr.heap.size/\xs[k]?=some ⟨op,s,n,r⟩/\I64 op/\I64 n/\aU lo hi w (.slice sa r.length sc) r/\fY lo hi w sa sc r/\wr.cell? ⟨b,off+k*4,none⟩=some (.int .i64 op)/\wr.cell? ⟨b,off+k*4+1,none⟩=some (.string s)/\wr.cell? ⟨b,off+k*4+2,none⟩=some (.int .i64 n)/\wr.cell? ⟨b,off+k*4+3,none⟩=some (.slice sa r.length sc):=by
 obtain ⟨⟨i1,i2⟩,b,off,u,e,h1,h2,c0,c1,c2,c3,hu⟩:=h.cell k xs[k] (by simp [hk]);have hz:=hx.size;obtain ⟨sa,sc,rfl,hI,HI⟩:=hu.openS;refine ⟨b,off,xs[k].op,xs[k].name,xs[k].num,sa,sc,xs[k].args,e,by omega,by omega,by simp [hk],i1,i2,hI,HI,?_,?_,?_,?_⟩
 ·exact (hx.cells.1 b _ (by omega)).trans c0
 ·exact (hx.cells.1 b _ (by omega)).trans c1
 ·exact (hx.cells.1 b _ (by omega)).trans c2
 ·exact (hx.cells.1 b _ (by omega)).trans c3
theorem fY.atE {a:Option Addr} (h:fY lo hi w a cap xs) (hk:k<xs.length) {wr:World} (hx:Ext w wr) (hh:hi<=w.heap.size) :
  ∃b off y,a=some ⟨b,off,none⟩/\b<wr.heap.size/\xs[k]?=some y/\I64 y/\wr.cell? ⟨b,off+k,none⟩=some (.int .i64 y):=by
 obtain ⟨b,off,e,h1,h2,c0⟩:=h.at hk;have hz:=hx.size;exact ⟨b,off,xs[k],e,by omega,by simp [hk],h.i64 hk,(hx.cells.1 b _ (by omega)).trans c0⟩
theorem aB.bump (h:aB lo w (.slice (some ⟨b,0,none⟩) n cap) u) (hl:n=u.length) (hq:q<n) (hu:mP u t) (ht:t<=1000000000) :
  ∃x:Int,0<=x/\x<=1000000000/\b<w.heap.size/\lo<=b/\w.cell? ⟨b,q,none⟩=some (.int .i64 x)/\w.frozen? ⟨b,q,none⟩=false/\aB lo (w.setCell ⟨b,q,none⟩ (.int .i64 (x+1))) (.slice (some ⟨b,0,none⟩) n cap) (lV u q):=by
 obtain ⟨h1,h2,h3,h4,h5⟩:=h.upd hl hq;have:=hu q;exact ⟨_,this.1,by omega,h2,h1,h3,h4,h5 _ ⟨by omega,by omega⟩⟩
theorem pK (lo hi:Nat) (v:Value) (p:Prg) (w:World) (hv:p.R lo hi w v) (hh:hi<=w.heap.size) (hb:p.bd) (hgl:p.gs.length<=1048576) :
  R_ 196 #[v] w (.bool p.okB):=by
 obtain ⟨i0,z4,z7,z8,z9⟩:=info_parts eK;obtain ⟨a1,c1,a2,c2,rfl,HN,HG⟩:=hv.form;have l1:=HN.le;have l2:=HN.cap;have l3:=HG.le;have l4:=HG.cap;have z0:=hid hb;clear hv hb
 by_cases q9:p.ns.length<=60
 case neg=>
  have e:p.okB=false:=by unfold Prg.okB;rw [decide_eq_false q9];simp
  rw [e];clear e;go_enter func196,ntmps196;go_wp2;go_ret;exact ⟨rfl,X_⟩
 have bB:=Bx.made w #[.slice a1 p.ns.length c1,.slice a2 p.gs.length c2] 119;have x0:Ext w (w.alloc (.cells #[.slice a1 p.ns.length c1,.slice a2 p.gs.length c2] 119)):=X_;go_enter func196,ntmps196;go_wp2_with (at_make;refine wpList_make_full _ rfl _ _ 24 rfl (w.heap.size+1) 3 i0 (.int .i64 0) 1 underlying24 z4 z7 z8 _ _ _ _ p.ns.length rfl rfl rfl rfl (by rw [z9];omega) (by unfold maxLen;omega) (by simp) ?_);intro w1 q5 h6;rw [fR] at q5;have a4:=aQy w (.cells #[.slice a1 p.ns.length c1,.slice a2 p.gs.length c2] 119);have x1:Ext (w.alloc (.cells #[.slice a1 p.ns.length c1,.slice a2 p.gs.length c2] 119)) w1:=(aQ6 _).grown h6 (fun k h=>by cases h);have HO:=hid (show aB (w.heap.size+1) w1 (.slice (some ⟨w.heap.size+1,0,none⟩) p.ns.length p.ns.length) (aRj p.ns.length 0) from ⟨by simpa using q5,fun x hx=>by rw [(aVn.1 hx).2];exact ⟨by decide,by decide⟩⟩);have X1:=hid (x0.trans x1);have h2:=bB.ext x1;have z3:=hid h2;have q:=h2.lt;have q0:=h2.cell 0;simp only [aQ1,aQw,aQx] at q0;have q1:=h2.cell 1;simp only [aQ1,aQw,aQx] at q1;clear h2;clear q5 h6 z4 z7 z8 z9 x1 x0 bB a4;go_wp2
 go_loopw [21] (fun i wr=>∃k:Nat,k<=p.ns.length/\i = .int .i64 k/\(∀j,j<k->p.ndB j=true)/\Ext w wr/\Bx wr w.heap.size #[.slice a1 p.ns.length c1,.slice a2 p.gs.length c2] 119/\aB (w.heap.size+1) wr (.slice (some ⟨w.heap.size+1,0,none⟩) p.ns.length p.ns.length) (gZ (aRj p.ns.length 0) (p.ns.take k))/\mP (gZ (aRj p.ns.length 0) (p.ns.take k)) (3*k)) (fun i _=>p.ns.length - (intOf i).toNat)
 case atStart=>exact ⟨0,by omega,rfl,fun j h=>by omega,X1,z3.out,HO,mP.zero _⟩
 case round=>
  clear HO X1 z3 q q0 q1;obtain ⟨k,hk,rfl,h0,hx,hB,hO,hU⟩:=hrel;have HA:=hid h0;have HX:=hid hx;have HB:=hid hB;have HO:=hid hO;have HU:=hid hU
  by_cases h9:k<p.ns.length
  ·obtain ⟨b,y5,op,s,num,sa,sc,ra,rfl,y9,a0,h1,io,b9,hI,HI,y0,y1,y2,y3⟩:=HN.atW h9 hx hh
   have y7:=hid (hI.ext hh hx);have c0:=HI.le;have c3:=HI.cap;have q6:=hid h1;have x7:=hid (z0.1 _ (aRn h1));have zx:=hx.size;have bQ:=Bx.made wr #[op,.string s,num,.slice sa ra.length sc] 197;have q0:Ext wr (wr.alloc (.cells #[op,.string s,num,.slice sa ra.length sc] 197)):=X_;clear h1 h0 hx hB hO hU hI
   obtain ⟨bn,h8⟩:=e_ (gK ⟨op,s,num,ra⟩)
   obtain ⟨ba,h5⟩:=e_ (lU ra k)
   have x4:=hid h8;have q7:=hid h5;have h7:Hid (p.ndB k=(ba&&bn)):=hid (by rw [Prg.ndB_at q6,h5,h8]);clear h8 h5;go_wp2_with fail;refine r_ (wP x4 sa sc _ x7.out) fun w2 x2=>?_;have X2:=q0.trans x2;have b2:=X2.size;have h4:=bQ.ext x2;have x6:=hid (y7.ext (by omega) X2);have q:=h4.lt;obtain ⟨q0,q1,q2,q3⟩:=h4.q4;clear x2 q0 bQ;have y6:=hid h4;clear h4
   cases bn
   ·go_wp2
    go_ret;refine ⟨aL ?_,HX.trans X2⟩;unfold Prg.okB;rw [fK h9 (by rw [h7];simp)];simp
   go_wp2_with fail;refine z_ (pY q7 _ _ _ _ x6) ?_
   cases ba
   ·go_wp2
    go_ret;refine ⟨aL ?_,HX.trans X2⟩;unfold Prg.okB;rw [fK h9 (by rw [h7];simp)];simp
   have x5:=hid (HX.trans X2);have x9:=hid (HB.ext X2);have z2:=hid (HO.ext X2);have y4:Hid (ra.length<=3):=hid (aAn x4);clear HB HO X2;go_wp2
   go_loopw [40] (fun i wq=>∃j:Nat,j<=ra.length/\i = .int .i64 j/\Ext w wq/\Bx wq w.heap.size #[.slice (some ⟨b,y5,none⟩) p.ns.length c1,.slice a2 p.gs.length c2] 119/\aB (w.heap.size+1) wq (.slice (some ⟨w.heap.size+1,0,none⟩) p.ns.length p.ns.length) (iR (gZ (aRj p.ns.length 0) (p.ns.take k)) (ra.take j))/\mP (iR (gZ (aRj p.ns.length 0) (p.ns.take k)) (ra.take j)) (3*k+j)) (fun i _=>ra.length - (intOf i).toNat)
   case atStart=>exact ⟨0,by omega,rfl,x5,x9,z2,HU⟩
   case round=>
    clear x9 z2 x5;obtain ⟨j,hj,rfl,hx,hB,hO,hU⟩:=hrel;have HX:=hid hx;have HB:=hid hB;have HO:=hid hO;have HU:=hid hU
    by_cases a3:j<ra.length
    ·obtain ⟨b3,b1,y,rfl,b4,hy,_,b5⟩:=HI.atE a3 hx hh
     obtain ⟨b7,b8⟩:=aHo q7 hy
     obtain ⟨q,rfl⟩:∃q:Nat,y=q:=⟨y.toNat,by omega⟩
     have hq:q<p.ns.length:=by omega
     have z5:=y4.out;obtain ⟨x,a5,a6,a7,a8,a9,b0,x3⟩:=hO.bump (by rw [oX,tH,aU1]) hq hU (by omega);have HY:=hid hy;have HS:=hid x3;clear hx hB hO hU hy x3 z5;go_wp2;go_roundw
     case rel=>
      refine ⟨j+1,by omega,by go_num,?_,?_,?_,?_⟩
      ·have hx:=HX.out
       exact S_
      ·exact HB.other (by simp) _
      ·rw [<-mQ HY,aRr]
       exact HS
      ·rw [<-mQ HY]
       exact (HU.bump _).mono (by omega)
     case measure=>simp [intOf];omega
    ·obtain rfl:j=ra.length:=by omega
     rw [aR2] at hO hU;rw [wN q6] at hO hU;have HO:=hid hO;have HU:=hid hU;have z5:=y4.out;clear hB hO hU hx;go_wp2;go_roundw
     case rel=>
      refine ⟨k+1,by omega,by go_num,fun i hi=>?_,HX,HB,HO,HU.mono (by omega)⟩
      by_cases e:i=k
      ·subst e;exact h7
      ·exact HA i (by omega)
     case measure=>simp [intOf];omega
  ·obtain rfl:k=p.ns.length:=by omega
   rw [aR2] at hO hU;have HO:=hid (show aB (w.heap.size+1) wr (.slice (some ⟨w.heap.size+1,0,none⟩) p.ns.length p.ns.length) p.usesA from hO);have HU:=hid (show mP p.usesA (3*p.ns.length) from hU);have q:=hB.lt;obtain ⟨q0,q1⟩:=hB.q2;clear hO hU h0 hx hB;go_wp2
   go_loopw [55] (fun i wr=>∃k:Nat,k<=p.gs.length/\i = .int .i64 k/\(∀j,j<k->p.agB j=true)/\Ext w wr/\Bx wr w.heap.size #[.slice a1 p.ns.length c1,.slice a2 p.gs.length c2] 119/\aB (w.heap.size+1) wr (.slice (some ⟨w.heap.size+1,0,none⟩) p.ns.length p.ns.length) (kE p.usesA (p.gs.take k))/\mP (kE p.usesA (p.gs.take k)) (3*p.ns.length+k)) (fun i _=>p.gs.length - (intOf i).toNat)
   case atStart=>exact ⟨0,by omega,rfl,fun j h=>by omega,HX,HB,HO,HU⟩
   case round=>
    clear HO HX HB HU q q0 q1;obtain ⟨k,hk,rfl,h0,hx,hB,hO,hU⟩:=hrel;have x8:=hid h0;have HX:=hid hx;have HB:=hid hB;have HO:=hid hO;have HU:=hid hU
    by_cases h9:k<p.gs.length
    ·obtain ⟨b,y5,s,rt,rfl,y9,a0,q8,h1,ir,y0,y1⟩:=HG.at h9 hx hh
     have q6:=hid h1;have x7:=hid (z0.2 _ (aRn h1));have zx:=hx.size;have bQ:=Bx.made wr #[.string s,rt] 200;have q0:Ext wr (wr.alloc (.cells #[.string s,rt] 200)):=X_;clear q8 h1 h0 hx hB hO hU
     obtain ⟨bn,h8⟩:=e_ (dE s)
     obtain ⟨ba,h5⟩:=e_ (inB rt 0 ((p.ns.length:Int) - 1))
     have x4:=hid h8;have q7:=hid h5;have h7:Hid (p.agB k=(bn&&ba)):=hid (by rw [Prg.agB_at q6,h5,h8]);clear h8 h5;go_wp2_with fail;refine r_ (kB x4 _ x7.out) fun w2 x2=>?_;have X2:=q0.trans x2;have b2:=X2.size;have h4:=bQ.ext x2;have z1:=hid (HB.ext X2);have h3:=z1;have q:=h4.lt;obtain ⟨q0,q1⟩:=h4.q2;have d:=h3.lt;have d0:=h3.cell 0;simp only [aQ1,aQw,aQx] at d0;have d1:=h3.cell 1;simp only [aQ1,aQw,aQx] at d1;have y6:=hid h4;clear x2 q0 bQ h4 h3
     cases bn
     ·go_wp2
      go_ret;refine ⟨aL ?_,HX.trans X2⟩;unfold Prg.okB;rw [fK (p:=p.agB) h9 (by rw [h7];simp)];simp
     go_wp2_with fail;refine z_ (aH q7 _) ?_
     cases ba
     ·go_wp2
      go_ret;refine ⟨aL ?_,HX.trans X2⟩;unfold Prg.okB;rw [fK (p:=p.agB) h9 (by rw [h7];simp)];simp
     have hO:=HO.ext X2;have h5:=aG.1 q7
     obtain ⟨r,rfl⟩:∃r:Nat,rt=r:=⟨rt.toNat,by omega⟩
     have hr:r<p.ns.length:=by omega
     obtain ⟨x,a5,a6,a7,a8,a9,b0,x3⟩:=hO.bump (by rw [lW,Prg.usesA_len]) hr HU (by omega);have HS:=hid x3;have x5:=hid (HX.trans X2);clear hO HO HX x3 h5;go_wp2;go_roundw
     case rel=>
      refine ⟨k+1,by omega,by go_num,fun i hi=>?_,?_,?_,?_,?_⟩
      ·by_cases e:i=k
       ·subst e;exact h7
       ·exact x8 i (by omega)
      ·have hx:=x5.out
       exact S_
      ·exact z1.other (by simp) _
      ·rw [<-mR q6,aRr]
       exact HS
      ·rw [<-mR q6]
       exact (HU.bump _).mono (by omega)
     case measure=>simp [intOf];omega
    ·obtain rfl:k=p.gs.length:=by omega
     rw [aR2] at hO;have HO:=hid (show aB (w.heap.size+1) wr (.slice (some ⟨w.heap.size+1,0,none⟩) p.ns.length p.ns.length) p.uses from hO)
     have b6:p.uses.length=p.ns.length:=by unfold Prg.uses;rw [lW,Prg.usesA_len]
     have z6:p.okB=p.uses.all (· == 1):=by
      unfold Prg.okB;rw [gE HA,gE x8,decide_eq_true q9];simp
     have hI:=HO.ints;have y8:=hid z6;clear hO hU h0 hx hB HO z6;have HI:=hid hI;clear hI;go_wp2_with fail;refine z_ (tI _ _ _ p.uses _ rfl HI) ?_;go_wp2;go_ret;exact ⟨aL (by rw [y8]),HX⟩
theorem aIy {i:Int} {s:ByteArray} {r:List Int} {b:Bool} (h:(lU r i&&gK ⟨op,s,num,r⟩)=b) (lo hi:Nat) (u:Value) (w:World) (hu:aU lo hi w u r) (hh:hi<=w.heap.size) (hs:s.size<=maxLen) (hi1:0<=i) (hi2:i<=10000000) :
  R_ 186 #[.agg #[op,.string s,num,u],i] w (.bool b):=h▸aIx lo hi op s num u r i w hu hh hs hi1 hi2
theorem aIz (lo hi:Nat) (v:Value) (p:Prg) (w:World) (hv:p.R lo hi w v) (hh:hi<=w.heap.size) (hnl:p.ns.length<=1048576) (hgl:p.gs.length<=1048576) (hnd:∀k,k<p.ns.length->p.ndB k=true) (hag:∀k,k<p.gs.length->p.agB k=true) :
  Calls aQ2 188 #[v] w fun e w'=>∃a c,e = .returned (.slice a p.ns.length c)/\aB w.heap.size w' (.slice a p.ns.length c) p.uses/\Ext w w':=by
 obtain ⟨i0,q7,q9,x2,x3⟩:=info_parts eK;obtain ⟨a1,c1,a2,c2,rfl,HN,HG⟩:=hv.form;have l1:=HN.le;have l2:=HN.cap;have l3:=HG.le;have l4:=HG.cap;have x8:=hid hnd;have x6:=hid hag;clear hv hnd hag;have bB:=Bx.made w #[.slice a1 p.ns.length c1,.slice a2 p.gs.length c2] 119;have x0:Ext w (w.alloc (.cells #[.slice a1 p.ns.length c1,.slice a2 p.gs.length c2] 119)):=X_;go_enter func188,ntmps188;go_wp2_with (at_make;refine wpList_make_full _ rfl _ _ 24 rfl (w.heap.size+1) 3 i0 (.int .i64 0) 1 underlying24 q7 q9 x2 _ _ _ _ p.ns.length rfl rfl rfl rfl (by rw [x3];omega) (by unfold maxLen;omega) (by simp) ?_);intro w1 h4 h3;rw [fR] at h4;have z3:=aQy w (.cells #[.slice a1 p.ns.length c1,.slice a2 p.gs.length c2] 119);have x1:Ext (w.alloc (.cells #[.slice a1 p.ns.length c1,.slice a2 p.gs.length c2] 119)) w1:=(aQ6 _).grown h3 (fun k h=>by cases h);have HO:=hid (show aB (w.heap.size+1) w1 (.slice (some ⟨w.heap.size+1,0,none⟩) p.ns.length p.ns.length) (aRj p.ns.length 0) from ⟨by simpa using h4,fun x hx=>by rw [(aVn.1 hx).2];exact ⟨by decide,by decide⟩⟩);have X1:=hid (x0.trans x1);have h1:=bB.ext x1;have q5:=hid h1;have q:=h1.lt;have q0:=h1.cell 0;simp only [aQ1,aQw,aQx] at q0;have q1:=h1.cell 1;simp only [aQ1,aQw,aQx] at q1;clear h1;clear h4 h3 q7 q9 x2 x3 x1 x0 bB z3;go_wp2
 go_loopw [17] (fun i wr=>∃k:Nat,k<=p.ns.length/\i = .int .i64 k/\Ext w wr/\Bx wr w.heap.size #[.slice a1 p.ns.length c1,.slice a2 p.gs.length c2] 119/\aB (w.heap.size+1) wr (.slice (some ⟨w.heap.size+1,0,none⟩) p.ns.length p.ns.length) (gZ (aRj p.ns.length 0) (p.ns.take k))/\mP (gZ (aRj p.ns.length 0) (p.ns.take k)) (3*k)) (fun i _=>p.ns.length - (intOf i).toNat)
 case atStart=>exact ⟨0,by omega,rfl,X1,q5.out,HO,mP.zero _⟩
 case round=>
  clear HO X1 q5 q q0 q1;obtain ⟨k,hk,rfl,hx,hB,hO,hU⟩:=hrel;have HX:=hid hx;have HB:=hid hB;have HO:=hid hO;have HU:=hid hU
  by_cases h6:k<p.ns.length
  ·obtain ⟨b,x5,op,s,num,sa,sc,ra,rfl,x9,z1,h0,io,a0,hI,HI,y0,y1,y2,y3⟩:=HN.atW h6 hx hh
   have a3:=HI.le;have a4:=HI.cap;have h8:=hid h0;have h2:=x8.out k h6;rw [Prg.ndB_at h0,aRd] at h2;have x7:=hid h2.1;have x4:Hid (ra.length<=3):=hid (aAn h2.2);have q0:Ext wr (wr.alloc (.cells #[op,.string s,num,.slice sa ra.length sc] 197)):=X_;have h9:=hid (hx.trans q0);have q3:=hid (hB.ext q0);have q4:=hid (hO.ext q0);clear h0 hx hB hO hU hI q0 h2 HB HO HX;go_wp2
   go_loopw [24] (fun i wq=>∃j:Nat,j<=ra.length/\i = .int .i64 j/\Ext w wq/\Bx wq w.heap.size #[.slice (some ⟨b,x5,none⟩) p.ns.length c1,.slice a2 p.gs.length c2] 119/\aB (w.heap.size+1) wq (.slice (some ⟨w.heap.size+1,0,none⟩) p.ns.length p.ns.length) (iR (gZ (aRj p.ns.length 0) (p.ns.take k)) (ra.take j))/\mP (iR (gZ (aRj p.ns.length 0) (p.ns.take k)) (ra.take j)) (3*k+j)) (fun i _=>ra.length - (intOf i).toNat)
   case atStart=>exact ⟨0,by omega,rfl,h9,q3,q4,HU⟩
   case round=>
    clear q3 q4 h9;obtain ⟨j,hj,rfl,hx,hB,hO,hU⟩:=hrel;have HX:=hid hx;have HB:=hid hB;have HO:=hid hO;have HU:=hid hU
    by_cases z2:j<ra.length
    ·obtain ⟨b3,y5,y,rfl,y6,hy,_,y7⟩:=HI.atE z2 hx hh
     obtain ⟨y8,y9⟩:=aHo x7 hy
     obtain ⟨q,rfl⟩:∃q:Nat,y=q:=⟨y.toNat,by omega⟩
     have hq:q<p.ns.length:=by omega
     have q8:=x4.out;obtain ⟨x,z4,z5,z6,z8,z9,y4,h7⟩:=hO.bump (by rw [oX,tH,aU1]) hq hU (by omega);have HY:=hid hy;have HS:=hid h7;clear hx hB hO hU hy h7 q8;go_wp2;go_roundw
     case rel=>
      refine ⟨j+1,by omega,by go_num,?_,?_,?_,?_⟩
      ·have hx:=HX.out
       exact S_
      ·exact HB.other (by simp) _
      ·rw [<-mQ HY,aRr]
       exact HS
      ·rw [<-mQ HY]
       exact (HU.bump _).mono (by omega)
     case measure=>simp [intOf];omega
    ·obtain rfl:j=ra.length:=by omega
     rw [aR2] at hO hU;rw [wN h8] at hO hU;have HO:=hid hO;have HU:=hid hU;have q8:=x4.out;clear hB hO hU hx;go_wp2;go_roundw
     case rel=>exact ⟨k+1,by omega,by go_num,HX,HB,HO,HU.mono (by omega)⟩
     case measure=>simp [intOf];omega
  ·obtain rfl:k=p.ns.length:=by omega
   rw [aR2] at hO hU;have HO:=hid (show aB (w.heap.size+1) wr (.slice (some ⟨w.heap.size+1,0,none⟩) p.ns.length p.ns.length) p.usesA from hO);have HU:=hid (show mP p.usesA (3*p.ns.length) from hU);have q:=hB.lt;obtain ⟨q0,q1⟩:=hB.q2;clear hO hU hx hB;go_wp2
   go_loopw [39] (fun i wr=>∃k:Nat,k<=p.gs.length/\i = .int .i64 k/\Ext w wr/\aB (w.heap.size+1) wr (.slice (some ⟨w.heap.size+1,0,none⟩) p.ns.length p.ns.length) (kE p.usesA (p.gs.take k))/\mP (kE p.usesA (p.gs.take k)) (3*p.ns.length+k)) (fun i _=>p.gs.length - (intOf i).toNat)
   case atStart=>exact ⟨0,by omega,rfl,HX,HO,HU⟩
   case round=>
    clear HO HX HB HU q q0 q1;obtain ⟨k,hk,rfl,hx,hO,hU⟩:=hrel;have HX:=hid hx;have HO:=hid hO;have HU:=hid hU
    by_cases h6:k<p.gs.length
    ·obtain ⟨b,x5,s,rt,rfl,x9,z1,h5,h0,ir,y0,y1⟩:=HG.at h6 hx hh
     have h8:=hid h0;have h2:=x6.out k h6;rw [Prg.agB_at h0,aRd] at h2;have z0:0<=rt/\rt<=(p.ns.length:Int) - 1:=aG.1 h2.2;have q0:Ext wr (wr.alloc (.cells #[.string s,rt] 200)):=X_;have q6:=hO.ext q0;have h9:=hid (hx.trans q0);have zx:=q0.size
     obtain ⟨r,rfl⟩:∃r:Nat,rt=r:=⟨rt.toNat,by omega⟩
     have hr:r<p.ns.length:=by omega
     obtain ⟨x,z4,z5,z6,z8,z9,y4,h7⟩:=q6.bump (by rw [lW,Prg.usesA_len]) hr HU (by omega);have HS:=hid h7
     have z7:w.heap.size<wr.heap.size:=by have:=hO.lt _ rfl;omega
     clear hO q6 HO HX h7 z0 h2 h5 h0 hx hU q0;go_wp2;go_roundw
     case rel=>
      refine ⟨k+1,by omega,by go_num,?_,?_,?_⟩
      ·have hx:=h9.out
       exact S_
      ·rw [<-mR h8,aRr]
       exact HS
      ·rw [<-mR h8]
       exact (HU.bump _).mono (by omega)
     case measure=>simp [intOf];omega
    ·obtain rfl:k=p.gs.length:=by omega
     rw [aR2] at hO;have HO:=hid (show aB (w.heap.size+1) wr (.slice (some ⟨w.heap.size+1,0,none⟩) p.ns.length p.ns.length) p.uses from hO);clear hO hU hx;go_wp2;go_ret;exact ⟨_,_,rfl,HO.low (by omega),HX⟩
theorem pL (lo hi:Nat) (v:Value) (p:Prg) (w:World) (hv:p.R lo hi w v) (hh:hi<=w.heap.size) (hb:p.bd) (hnl:p.ns.length<=1048576) (hgl:p.gs.length<=1048576) :
  R_ 132 #[v] w (.bool p.okB):=by
 have HV:=hid hv;obtain ⟨a1,c1,a2,c2,rfl,HN,HG⟩:=hv.form;have l1:=HN.le;have l2:=HN.cap;have l3:=HG.le;have l4:=HG.cap;have q8:=hid hb;clear hv hb;have bB:=hid (Bx.made w #[.slice a1 p.ns.length c1,.slice a2 p.gs.length c2] 119);have X1:=hid (show Ext w (w.alloc (.cells #[.slice a1 p.ns.length c1,.slice a2 p.gs.length c2] 119)) from X_);go_enter func132,ntmps132;go_wp2
 go_loopw [12] (fun i wr=>∃k:Nat,k<=p.ns.length/\i = .int .i64 k/\(∀j,j<k->p.ndB j=true)/\Ext w wr/\Bx wr w.heap.size #[.slice a1 p.ns.length c1,.slice a2 p.gs.length c2] 119) (fun i _=>p.ns.length - (intOf i).toNat)
 case atStart=>exact ⟨0,by omega,rfl,fun j h=>by omega,X1,bB.out⟩
 case round=>
  clear X1 bB;obtain ⟨k,hk,rfl,h0,hx,hB⟩:=hrel;have HA:=hid h0;have HX:=hid hx;have HB:=hid hB
  by_cases h4:k<p.ns.length
  ·obtain ⟨b,x5,op,s,num,sa,sc,ra,rfl,x4,z3,h3,io,z5,hI,HI,y0,y1,y2,y3⟩:=HN.atW h4 hx hh
   have z0:=hid (hI.ext hh hx);have z6:=HI.le;have z7:=HI.cap;have q3:=hid h3;have q6:=hid (q8.1 _ (aRn h3));have zx:=hx.size;have q0:Ext wr (wr.alloc (.cells #[op,.string s,num,.slice sa ra.length sc] 197)):=X_;clear h3 h0 hx hB hI HI
   obtain ⟨bn,h5⟩:=e_ (lU ra k&&gK ⟨op,s,num,ra⟩)
   have h9:=hid h5;have h6:Hid (p.ndB k=bn):=hid (by rw [Prg.ndB_at q3,h5]);clear h5;go_wp2_with fail;refine r_ (aIy h9 lo hi _ _ (z0.ext (by omega) q0) (by simp;omega) q6.out (by omega) (by omega)) fun w2 x2=>?_;have X2:=q0.trans x2;clear q0 x2
   cases bn
   ·go_wp2
    go_ret;refine ⟨aL ?_,HX.trans X2⟩;unfold Prg.okB;rw [fK h4 h6.out];simp
   ·have x7:=hid (HB.ext X2)
    go_wp2;go_roundw
    case rel=>
     refine ⟨k+1,by omega,by go_num,fun i hi=>?_,HX.trans X2,x7⟩
     by_cases e:i=k
     ·subst e;exact h6
     ·exact HA i (by omega)
    case measure=>simp [intOf];omega
  ·obtain rfl:k=p.ns.length:=by omega
   have q:=hB.lt;obtain ⟨q0,q1⟩:=hB.q2;clear h0 hx hB;go_wp2
   go_loopw [25] (fun i wr=>∃k:Nat,k<=p.gs.length/\i = .int .i64 k/\(∀j,j<k->p.agB j=true)/\Ext w wr/\Bx wr w.heap.size #[.slice a1 p.ns.length c1,.slice a2 p.gs.length c2] 119) (fun i _=>p.gs.length - (intOf i).toNat)
   case atStart=>exact ⟨0,by omega,rfl,fun j h=>by omega,HX,HB⟩
   case round=>
    clear HX HB q q0 q1;obtain ⟨k,hk,rfl,h0,hx,hB⟩:=hrel;have h8:=hid h0;have HX:=hid hx;have HB:=hid hB
    by_cases h4:k<p.gs.length
    ·obtain ⟨b,x5,s,rt,rfl,x4,z3,h7,h3,ir,y0,y1⟩:=HG.at h4 hx hh
     have q3:=hid h3;have q6:=hid (q8.2 _ (aRn h3));have zx:=hx.size;have bQ:=Bx.made wr #[.string s,rt] 200;have q0:Ext wr (wr.alloc (.cells #[.string s,rt] 200)):=X_;have q9:=hid (hB.ext q0);have q4:=q9.out;have d:=q4.lt;obtain ⟨d0,d1⟩:=q4.q2;clear h7 h3 h0 hx hB q4
     obtain ⟨bn,h5⟩:=e_ (dE s)
     obtain ⟨ba,q5⟩:=e_ (inB rt 0 ((p.ns.length:Int) - 1))
     have h9:=hid h5;have x9:=hid q5;have h6:Hid (p.agB k=(bn&&ba)):=hid (by rw [Prg.agB_at q3,q5,h5]);clear h5 q5;go_wp2_with fail;refine z_ (kD h9 _ q6.out) ?_
     cases bn
     ·go_wp2
      go_ret;refine ⟨aL ?_,HX.trans q0⟩;unfold Prg.okB;rw [fK (p:=p.agB) h4 (by rw [h6];simp)];simp
     go_wp2_with fail;refine z_ (aE x9 _) ?_
     cases ba
     ·go_wp2
      go_ret;refine ⟨aL ?_,HX.trans q0⟩;unfold Prg.okB;rw [fK (p:=p.agB) h4 (by rw [h6];simp)];simp
     go_wp2;go_roundw
     case rel=>
      refine ⟨k+1,by omega,by go_num,fun i hi=>?_,HX.trans q0,q9⟩
      by_cases e:i=k
      ·subst e;exact h6
      ·exact h8 i (by omega)
     case measure=>simp [intOf];omega
    ·obtain rfl:k=p.gs.length:=by omega
     have zx:=hx.size;have z1:Hid (p.uses.length=p.ns.length):=hid (by unfold Prg.uses;rw [lW,Prg.usesA_len])
     have x0:Hid (p.okB=(p.uses.all (· == 1)&&decide (p.ns.length<=60))):=hid (by
      unfold Prg.okB;rw [gE HA,gE h8]
      simp [Bool.and_comm])
     have q:=hB.lt;obtain ⟨q0,q1⟩:=hB.q2;have hv:=HV.ext hh hx;have z2:=hid hv;clear h0 hx hB hv;go_wp2_with fail;refine (aIz lo hi _ p _ z2 (by omega) hnl hgl HA h8).mono ?_;rintro e w3 ⟨ua,uc,rfl,hO,x3⟩;have hI:=hO.ints;have e0:=z1.out;obtain ⟨y4,y5,e1,HU⟩:=hI.open;rw [e0] at e1;simp only [aRo,true_and] at e1;obtain ⟨rfl,rfl⟩:=e1;have z8:=HU.le;have z9:=HU.cap;have x1:=hid (HX.trans x3);have x8:=hid (HB.ext x3);clear hO hI x3;go_wp2
     go_loopw [47] (fun i wq=>∃k:Nat,k<=p.ns.length/\i = .int .i64 k/\wq=w3/\(p.uses.take k).all (· == 1)=true) (fun i _=>p.ns.length - (intOf i).toNat)
     case atStart=>exact ⟨0,by omega,rfl,rfl,rfl⟩
     case round=>
      obtain ⟨k,hk,rfl,rfl,h0⟩:=hrel;have q7:=hid h0;clear h0
      by_cases h4:k<p.uses.length
      ·obtain ⟨b,x5,rfl,x4,z4,hc⟩:=HU.at h4
       by_cases h1:p.uses[k]=1
       ·rw [h1] at hc
        have H1:=hid h1;clear h1;go_wp2;go_roundw
        case rel=>exact ⟨k+1,by omega,by go_num,by trivial,iZ h4 q7.out (by simp [H1.out])⟩
        case measure=>simp [intOf];omega
       ·obtain ⟨y,hy⟩:=e_ (p.uses[k])
        have H1:=hid (wO h4 h1);rw [hy] at hc h1;have h2:(y==1)=false:=beq_eq_false_iff_ne.2 h1;clear hy;go_wp2;go_ret;exact ⟨aL (by rw [x0,H1];rfl),x1⟩
      ·have hA:=q7.out
       rw [aR3 (by omega)] at hA;have x6:=hid hA;have hB:=x8.out;have q:=hB.lt;obtain ⟨q0,q1⟩:=hB.q2;clear hA hB;go_wp2;go_ret;exact ⟨aL (by rw [x0,x6];simp;omega),x1⟩
inductive Sub (p:Prg) (r:Nat):Nat->Prop
 | refl:Sub p r r
 | arg {i j:Nat} {x:Nd}:Sub p r i->p.ns[i]?=some x->(j:Int)∈x.args->Sub p r j
def Own (p:Prg) (j k:Nat):Prop:=∃(s:ByteArray) (r:Nat),p.gs[k]?=some ⟨s,r⟩/\Sub p r j
def wQ (j:Nat) (es:List Int):Nat:=es.countP fun a=>a.toNat==j
def zH (j:Nat) (xs:List Nd):Nat:=(xs.map fun x=>wQ j x.args).sum
def zI (j:Nat) (gs:List Asg):Nat:=(gs.map fun a=>if a.root.toNat=j then 1 else 0).sum
theorem aDq (u:List Int) (i j:Nat) (hi:i<u.length):(lV u i).getD j 0=u.getD j 0+(if i=j then 1 else 0):=by
 unfold lV;rw [aRs,aUm]
 by_cases e:i=j
 ·subst e;simp [hi]
 ·simp [e]
theorem aKi (j:Nat):∀(es:List Int) (u:List Int),(∀a∈es,a.toNat<u.length)->(iR u es).getD j 0=u.getD j 0+wQ j es:=by
 intro es
 induction es with
 | nil=>intro u _;simp [iR,wQ]
 | cons a r ih=>
  intro u h;have h1:iR u (a::r)=iR (lV u a.toNat) r:=rfl;rw [h1,ih _ (fun b hb=>by rw [oW];exact h b (by simp [hb])),aDq _ _ _ (h a (by simp))];unfold wQ;rw [List.countP_cons]
  by_cases e:a.toNat=j <;> simp [e] <;> omega
theorem aKj (j:Nat):∀(xs:List Nd) (u:List Int),(∀x∈xs,∀a∈x.args,a.toNat<u.length)->(gZ u xs).getD j 0=u.getD j 0+zH j xs:=by
 intro xs
 induction xs with
 | nil=>intro u _;simp [gZ,zH]
 | cons x r ih=>
  intro u h;have h1:gZ u (x::r)=gZ (iR u x.args) r:=rfl;rw [h1,ih _ (fun y hy b hb=>by rw [oX];exact h y (by simp [hy]) b hb),aKi _ _ _ (h x (by simp))];simp [zH];omega
theorem aKk (j:Nat):∀(gs:List Asg) (u:List Int),(∀a∈gs,a.root.toNat<u.length)->(kE u gs).getD j 0=u.getD j 0+zI j gs:=by
 intro gs
 induction gs with
 | nil=>intro u _;simp [kE,zI]
 | cons x r ih=>
  intro u h;have h1:kE u (x::r)=kE (lV u x.root.toNat) r:=rfl;rw [h1,ih _ (fun y hy=>by rw [oW];exact h y (by simp [hy])),aDq _ _ _ (h x (by simp))]
  by_cases e:x.root.toNat=j <;> simp [zI,e] <;> omega
theorem oZ {L:List Nat} (h:L[i]?=some a):a<=L.sum:=by
 induction L generalizing i with
 | nil=>simp at h
 | cons x r ih=>
  cases i with
  | zero=>simp at h;simp;omega
  | succ i=>have:=ih (by simpa using h);simp;omega
theorem aHp {L:List Nat} {i':Nat} (h:L[i]?=some a) (h':L[i']?=some b) (hne:i≠i'):a+b<=L.sum:=by
 induction L generalizing i i' with
 | nil=>simp at h
 | cons x r ih=>
  cases i with
  | zero=>
   cases i' with
   | zero=>omega
   | succ i'=>have:=oZ (L:=r) (by simpa using h');simp at h;simp;omega
  | succ i=>
   cases i' with
   | zero=>have:=oZ (L:=r) (by simpa using h);simp at h';simp;omega
   | succ i'=>have:=ih (i:=i) (i':=i') (by simpa using h) (by simpa using h') (by omega);simp;omega
theorem aHq {L:List Nat} (h:0<L.sum):∃(i a:Nat),L[i]?=some a/\0<a:=by
 induction L with
 | nil=>simp at h
 | cons x r ih=>
  by_cases e:0<x
  ·exact ⟨0,x,rfl,e⟩
  ·obtain ⟨i,a,h1,h2⟩:=ih (by simp at h;omega)
   exact ⟨i+1,a,by simpa using h1,h2⟩
theorem aDr {es:List Int} (h0:∀a∈es,0<=a):0<wQ j es↔(j:Int)∈es:=by
 unfold wQ;rw [List.countP_pos_iff]
 constructor
 ·rintro ⟨a,ha,e⟩
  have:=h0 a ha;simp at e
  have:a=j:=by omega
  exact this▸ha
 ·intro h
  exact ⟨j,h,by simp⟩
structure Prg.V (p:Prg):Prop where
 len:p.ns.length<=60
 nd:∀(k:Nat) (x:Nd),p.ns[k]?=some x->gK x=true/\∀a∈x.args,0<=a/\a<=(k:Int) - 1
 ag:∀(k:Nat) (x:Asg),p.gs[k]?=some x->dE x.name=true/\0<=x.root/\x.root<=(p.ns.length:Int) - 1
 one:∀j,j<p.ns.length->zH j p.ns+zI j p.gs=1
theorem Prg.okB_V {p:Prg} (h:p.okB=true):p.V:=by
 unfold Prg.okB at h;simp only [aRd,decide_eq_true_eq] at h;obtain ⟨⟨⟨h1,h2⟩,h3⟩,h4⟩:=h;rw [aR5] at h2 h3 h4
 have hn:∀(k:Nat) (x:Nd),p.ns[k]?=some x->gK x=true/\∀a∈x.args,0<=a/\a<=(k:Int) - 1:=by
  intro k x hx;have:=h2 k (aR4.2 (aQz.1 hx).1);rw [Prg.ndB_at hx,aRd] at this;refine ⟨this.2,fun a ha=>?_⟩;have h5:=this.1;unfold lU at h5;rw [aR5] at h5;exact aG.1 (h5 a ha)
 have hg:∀(k:Nat) (x:Asg),p.gs[k]?=some x->dE x.name=true/\0<=x.root/\x.root<=(p.ns.length:Int) - 1:=by
  intro k x hx;have:=h3 k (aR4.2 (aQz.1 hx).1);rw [Prg.agB_at hx,aRd] at this;exact ⟨this.1,aG.1 this.2⟩
 refine ⟨h1,hn,hg,fun j hj=>?_⟩
 have h0:p.uses.length=p.ns.length:=by unfold Prg.uses;rw [lW,Prg.usesA_len]
 have hu:p.uses.getD j 0=1:=by
  have hm:p.uses[j]?=some (p.uses[j]'(by omega)):=by simp [h0,hj]
  rw [aRs,hm];have:=h4 _ (aRh (show j<p.uses.length by omega))
  simpa using this
 unfold Prg.uses at hu;rw [aKk,Prg.usesA,aKj] at hu
 ·have:(aRj p.ns.length (0:Int)).getD j 0=0:=by
   rw [aRs,aT0,if_pos hj];rfl
  rw [this] at hu;omega
 ·intro x hx a ha
  obtain ⟨k,hk,rfl⟩:=aRw hx;have:=(hn k _ (by simp [hk])).2 a ha;simp;omega
 ·intro a ha
  rw [Prg.usesA_len];obtain ⟨k,hk,rfl⟩:=aRw ha;have:=(hg k p.gs[k] (by simp [hk])).2;omega
theorem Prg.V.arg_lt {p:Prg} (h:p.V) {x:Nd} (hx:p.ns[k]?=some x) (hj:(j:Int)∈x.args):j<k:=by
 have:=((h.nd k x hx).2 _ hj).2;omega
theorem Prg.V.cnt {p:Prg} (h:p.V) {x:Nd} (hx:p.ns[k]?=some x):(p.ns.map fun x=>wQ j x.args)[k]?=some (wQ j x.args)/\((j:Int)∈x.args->0<wQ j x.args):=
 ⟨by simp [hx],fun hj=>(aDr (fun a ha=>((h.nd k x hx).2 a ha).1)).2 hj⟩
theorem rW {gs:List Asg} {r:Nat} {s:ByteArray} (hk:gs[k]?=some ⟨s,r⟩):(gs.map fun a=>if a.root.toNat=r then 1 else 0)[k]?=some 1:=by simp [hk]
theorem Own.up {p:Prg} (h:Own p j k):(∃s:ByteArray,p.gs[k]?=some ⟨s,(j:Nat)⟩)\/∃(i:Nat) (x:Nd),p.ns[i]?=some x/\(j:Int)∈x.args/\Own p i k:=by
 obtain ⟨s,r,h1,h2⟩:=h
 cases h2 with
 | refl=>exact .inl ⟨s,h1⟩
 | arg h3 h4 h5=>exact .inr ⟨_,_,h4,h5,s,r,h1,h3⟩
theorem Own.down {p:Prg} {x:Nd} (h:Own p i k) (hx:p.ns[i]?=some x) (hj:(j:Int)∈x.args):Own p j k:=by
 obtain ⟨s,r,h1,h2⟩:=h;exact ⟨s,r,h1,h2.arg hx hj⟩
theorem Own.root {p:Prg} {r:Nat} {s:ByteArray} (h:p.gs[k]?=some ⟨s,r⟩):Own p r k:=⟨s,r,h,.refl⟩
theorem Own.lt {p:Prg} (hv:p.V) (h:Own p j k):j<p.ns.length/\k<p.gs.length:=by
 obtain ⟨s,r,h1,h2⟩:=h;have hr:=(hv.ag k _ h1).2.2;simp only at hr;refine ⟨?_,(aQz.1 h1).1⟩
 have hr:r<p.ns.length:=by omega
 clear h1
 induction h2 with
 | refl=>exact hr
 | arg _ h4 h5 ih=>have:=hv.arg_lt h4 h5;have:=(aQz.1 h4).1;omega
theorem Prg.V.some {p:Prg} (hv:p.V):∀(d j:Nat),j+d=p.ns.length->0<d->∃k,Own p j k:=by
 intro d
 induction d using Nat.strongRecOn with
 | _ d ih=>
  intro j hj hd;have h1:=hv.one j (by omega)
  by_cases hg:0<zI j p.gs
  ·obtain ⟨k,a,hk,ha⟩:=aHq hg
   rw [aSo] at hk
   cases h0:p.gs[k]? with
   | none=>rw [h0] at hk;simp at hk
   | some y=>
    rw [h0] at hk;simp at hk
    have h2:y.root.toNat=j:=by
     by_cases e:y.root.toNat=j
     ·exact e
     ·rw [if_neg e] at hk;omega
    have h3:=(hv.ag k y h0).2
    have h4:y.root=(j:Int):=by omega
    exact ⟨k,y.name,j,by rw [h0];cases y;simp only at h4;rw [h4],.refl⟩
  ·obtain ⟨i,a,hi,ha⟩:=aHq (L:=p.ns.map fun x=>wQ j x.args) (by unfold zH at h1;omega)
   rw [aSo] at hi
   cases hx:p.ns[i]? with
   | none=>rw [hx] at hi;simp at hi
   | some x=>
    rw [hx] at hi;simp at hi;have hm:(j:Int)∈x.args:=(aDr (fun a ha=>((hv.nd i x hx).2 a ha).1)).1 (by omega);have h2:=hv.arg_lt hx hm;have h3:=(aQz.1 hx).1;obtain ⟨k,hk⟩:=ih (p.ns.length - i) (by omega) i (by omega) (by omega);exact ⟨k,hk.down hx hm⟩
theorem Prg.V.uniq {p:Prg} (hv:p.V):∀(d j k k':Nat),j+d=p.ns.length->Own p j k->Own p j k'->k=k':=by
 intro d
 induction d using Nat.strongRecOn with
 | _ d ih=>
  intro j k k' hj h h';have h8:=(h.lt hv).1;have h1:=hv.one j h8
  rcases h.up with ⟨s,hs⟩|⟨i,x,hx,hm,ho⟩
  ·rcases h'.up with ⟨s',hs'⟩|⟨i',x',hx',hm',ho'⟩
   ·by_cases e:k=k'
    ·exact e
    ·have:=aHp (rW hs) (rW hs') e
     unfold zI at h1;omega
   ·have h2:=oZ (rW hs)
    have h3:=hv.cnt (j:=j) hx';have h4:=h3.2 hm';have h5:=oZ h3.1;unfold zH zI at h1;omega
  ·have h3:=hv.cnt (j:=j) hx
   have h4:=h3.2 hm
   rcases h'.up with ⟨s',hs'⟩|⟨i',x',hx',hm',ho'⟩
   ·have h2:=oZ (rW hs')
    have h5:=oZ h3.1;unfold zH zI at h1;omega
   ·have h0:=hv.cnt (j:=j) hx'
    have h9:=h0.2 hm'
    by_cases e:i=i'
    ·subst e
     have h6:=hv.arg_lt hx hm;have h7:=(aQz.1 hx).1;exact ih (p.ns.length - i) (by omega) i k k' (by omega) ho ho'
    ·have h5:=aHp h3.1 h0.1 e
     unfold zH at h1;omega
open Classical in
noncomputable def Prg.own (p:Prg) (j:Nat):Nat:=if h:∃k,Own p j k then h.choose else 0
theorem Prg.V.own_is {p:Prg} (hv:p.V) (hj:j<p.ns.length):Own p j (p.own j):=by
 unfold Prg.own;have:=hv.some (p.ns.length - j) j (by omega) (by omega);rw [dif_pos this];exact this.choose_spec
theorem Prg.V.own_eq {p:Prg} (hv:p.V) (h:Own p j k):p.own j=k:=by
 have hj:=(h.lt hv).1;exact hv.uniq (p.ns.length - j) j _ _ (by omega) (hv.own_is hj) h
noncomputable def Prg.ownL (p:Prg):List Int:=(aRl p.ns.length).map fun j=>(p.own j:Int)
theorem Prg.ownL_len (p:Prg):p.ownL.length=p.ns.length:=by simp [Prg.ownL]
theorem Prg.ownL_of {p:Prg} (hv:p.V) (hl:o.length=p.ns.length) (h:∀j k,Own p j k->o.getD j 0=k):o=p.ownL:=by
 apply List.ext_getElem (by rw [hl,Prg.ownL_len]);intro j h1 h2;have:=h j _ (hv.own_is (by omega));rw [aRs,aQ9 h1] at this;simp [Prg.ownL]
 simpa using this
@[go_sem] theorem aOe {P:Program} {a:Addr} {m:Mode} (fn:Fn) (first captured:Array Value):(store a (.func fn first captured) m).run P w=stored P w a (.func fn first captured) m:=run_store P w a _ m rfl
def oC (p:Prg) (k:Nat) (o o':List Int):Prop:=o'.length=o.length/\∀j,o'.getD j 0=o.getD j 0\/(o'.getD j 0=k/\Own p j k)
theorem oC.trans {p:Prg} {o1 o2:List Int} (h:oC p k o o1) (h':oC p k o1 o2):oC p k o o2:=
 ⟨h'.1.trans h.1,fun j=>by
  rcases h'.2 j with e|e
  ·rw [e];exact h.2 j
  ·exact .inr e⟩
theorem rX (o:List Int) (i j:Nat) (x:Int) (hi:i<o.length):(o.set i x).getD j 0=if i=j then x else o.getD j 0:=by
 rw [aRs,aUm]
 by_cases e:i=j
 ·subst e;simp [hi]
 ·simp [e]
theorem oC.set {p:Prg} (h:Own p i k) (hi:i<o.length):oC p k o (o.set i k):=
 ⟨by simp,fun j=>by
  rw [rX _ _ _ _ hi]
  by_cases e:i=j
  ·subst e;exact .inr ⟨by simp,h⟩
  ·exact .inl (by simp [e])⟩
structure OB (p:Prg) (B O n:Nat) (a1 a2:Option Addr) (c1 c2:Nat) (w:World) (o:List Int):Prop where
 prog:Bx w B #[.slice a1 p.ns.length c1,.slice a2 p.gs.length c2] 119
 out:Bx w O #[.slice (some ⟨B+1,0,none⟩) n n] 24
 fn:Bx w (O+1) #[.func (.func 241) #[] #[.pointer (some ⟨O,0,none⟩),.pointer (some ⟨B,0,none⟩),.pointer (some ⟨O+1,0,none⟩)]] 289
 row:aB (B+1) w (.slice (some ⟨B+1,0,none⟩) n n) o
theorem Sub.head {p:Prg} {r:Nat} (h:Sub p r j):r=j\/∃(x:Nd) (a:Nat),p.ns[r]?=some x/\(a:Int)∈x.args/\Sub p a j:=by
 induction h with
 | refl=>exact .inl rfl
 | arg h1 h2 h3 ih=>
  rcases ih with rfl|⟨x,a,h4,h5,h6⟩
  ·exact .inr ⟨_,_,h2,h3,.refl⟩
  ·exact .inr ⟨x,a,h4,h5,h6.arg h2 h3⟩
theorem oC.keep {p:Prg} {o':List Int} (h:oC p k o o') (hj:o.getD j 0=k):o'.getD j 0=k:=by
 rcases h.2 j with e|e
 ·rw [e,hj]
 ·exact e.1
theorem aFy (lo hi:Nat) (p:Prg) (hv:p.V) (W:World) (a1 a2:Option Addr) (c1 c2:Nat) (HN:rJ lo hi W a1 c1 p.ns) (hh:hi<=W.heap.size) (O:Nat) (hO:W.heap.size+1<O) (k:Nat) (hk:k<=10000000) (m:Nat) :
  ∀(node:Nat) (o:List Int) (w:World),node<m->Own p node k->o.length=p.ns.length->OB p W.heap.size O p.ns.length a1 a2 c1 c2 w o->Ext W w ->
  Calls aQ2 241 #[node,k,.pointer (some ⟨O,0,none⟩),.pointer (some ⟨W.heap.size,0,none⟩),.pointer (some ⟨O+1,0,none⟩)] w fun e w'=>e = .returned (.tuple #[])/\(∃o',OB p W.heap.size O p.ns.length a1 a2 c1 c2 w' o'/\oC p k o o'/\∀j,Sub p node j->o'.getD j 0=k)/\Ext W w':=by
 have l1:=HN.le;have l2:=HN.cap
 induction m with
 | zero=>intro node o w hm;omega
 | succ m ih=>
  intro node o w hm h4 x0 hB hx;have h8:=(h4.lt hv).1;have zx:=hx.size;obtain ⟨h7,h0,h5,q9⟩:=hB;obtain ⟨r1,r2,r3,r4,r5⟩:=q9.upd (by omega) h8;have hS:=r5 k ⟨by omega,by omega⟩;have q5:=hid h7;have q6:=hid h0;have q7:=hid h5;have HS:=hid hS;have HX:=hid hx;have q4:=hid x0;have q8:=hid h4;obtain ⟨b,x8,op,s,num,sa,sc,ra,rfl,z0,z3,h6,io,z6,hI,HI,y0,y1,y2,y3⟩:=HN.atW h8 hx hh;have HG:=hid h6;have z7:=HI.le;have z8:=HI.cap;have q:=h7.lt;obtain ⟨q0,q1⟩:=h7.q2;have d:=h0.lt;have d0:=h0.cell 0;simp only [aQ1,aQw,aQx] at d0
  have z2:b≠W.heap.size+1:=by omega
  have x4:O≠W.heap.size+1:=by omega
  have IH:=hid ih;clear ih h6 h7 h0 h5 q9 hS hx x0 h4 hI r5 y0 y1 y2;go_enter func241,ntmps241;go_wp2
  go_loopw [20] (fun i wr=>∃(j:Nat) (o':List Int),j<=ra.length/\i = .int .i64 j/\OB p W.heap.size O p.ns.length (some ⟨b,x8,none⟩) a2 c1 c2 wr o'/\oC p k o o'/\o'.getD node 0=k/\(∀(t a:Nat),t<j->ra[t]?=some (a:Int)->∀q,Sub p a q->o'.getD q 0=k)/\Ext W wr) (fun i _=>ra.length - (intOf i).toNat)
  case atStart=>
   refine ⟨0,o.set node k,by omega,rfl,⟨q5.other (by simp) _,q6.other (by simpa using x4) _,q7.other (by simp;omega) _,HS⟩,oC.set q8 (by rw [q4];exact h8),?_,fun t a ht=>by omega,?_⟩
   ·rw [rX _ _ _ _ (by rw [q4];exact h8),if_pos rfl]
   ·have hx:=HX.out
    exact S_
  case round=>
   clear q5 q6 q7 HS HX q q0 q1 d d0 r1 r2 r3 r4;obtain ⟨j,o',hj,rfl,hB,hO,hN,hA,hx⟩:=hrel
   by_cases x6:j<ra.length
   ·obtain ⟨b3,x9,y,rfl,z1,hy,_,z4⟩:=HI.atE x6 hx hh
    have z5:=(hv.nd node _ HG).2 y (aRn hy)
    obtain ⟨z,rfl⟩:∃z:Nat,y=z:=⟨y.toNat,by omega⟩
    have x5:=hid (q8.down HG (aRn hy));have HY:=hid hy;have HB:=hid hB;have HO:=hid hO;have h9:=hid hN;have HA:=hid hA;have HX:=hid hx;have h5:=hB.fn;have f:=h5.lt;have f0:=h5.cell 0;simp only [aQ1,aQw,aQx] at f0;clear hy hB hO hN hA hx h5;go_wp2_with fail;refine (IH z o' _ (by omega) x5.out (by rw [HO.1];exact q4) HB HX).mono ?_;rintro e w1 ⟨rfl,⟨o2,h0,hO2,hS2⟩,hx2⟩;have x1:=hid h0;have q3:=hid hO2;have x2:=hid hS2;have x3:=hid hx2;clear h0 hO2 hS2 hx2 HB HX f f0;go_wp2;go_roundw
    case rel=>
     refine ⟨j+1,o2,by omega,by go_num,x1,HO.trans q3,q3.keep h9,fun t a ht ha q hq=>?_,x3⟩
     by_cases e:t=j
     ·subst e
      rw [HY] at ha;injection ha with ha
      have:z=a:=by omega
      subst this;exact x2 q hq
     ·exact q3.keep (HA t a (by omega) ha q hq)
    case measure=>simp [intOf];omega
   ·have HB:=hid hB
    have HO:=hid hO;have h9:=hid hN;have HA:=hid hA;have HX:=hid hx;clear hB hO hN hA hx;go_wp2
    go_end0
    refine ⟨rfl,⟨o',HB,HO,fun q hq=>?_⟩,HX⟩
    rcases hq.head with rfl|⟨x,a,h1,h2,h3⟩
    ·exact h9
    ·rw [HG] at h1
     injection h1 with h1;subst h1;obtain ⟨t,ht,x7⟩:=aRw h2;exact HA t a (by have:t<ra.length:=ht;omega) (by rw [<-x7];simp [ht]) q h3
theorem aDs (lo hi:Nat) (v:Value) (p:Prg) (w:World) (hv:p.R lo hi w v) (hh:hi<=w.heap.size) (hp:p.V) (hgl:p.gs.length<=1048576) :
  Calls aQ2 197 #[v] w fun e w'=>(∃a c,e = .returned (.slice a p.ns.length c)/\aB w.heap.size w' (.slice a p.ns.length c) p.ownL)/\Ext w w':=by
 obtain ⟨i0,x3,x4,x5,x6⟩:=info_parts eK;obtain ⟨a1,c1,a2,c2,rfl,HN,HG⟩:=hv.form;have l1:=HN.le;have l2:=HN.cap;have l3:=HG.le;have l4:=HG.cap;have l5:=hp.len;clear hv;have bB:=Bx.made w #[.slice a1 p.ns.length c1,.slice a2 p.gs.length c2] 119;have x0:Ext w (w.alloc (.cells #[.slice a1 p.ns.length c1,.slice a2 p.gs.length c2] 119)):=X_;go_enter func197,ntmps197;go_wp2_with (at_make;refine wpList_make_full _ rfl _ _ 24 rfl (w.heap.size+1) 3 i0 (.int .i64 0) 1 underlying24 x3 x4 x5 _ _ _ _ p.ns.length rfl rfl rfl rfl (by rw [x6];omega) (by unfold maxLen;omega) (by simp) ?_);intro w1 h4 h0;rw [fR] at h4;have z2:=aQy w (.cells #[.slice a1 p.ns.length c1,.slice a2 p.gs.length c2] 119);have x1:Ext (w.alloc (.cells #[.slice a1 p.ns.length c1,.slice a2 p.gs.length c2] 119)) w1:=(aQ6 _).grown h0 (fun k h=>by cases h);have h7:=bB.ext x1;have z3:=x1.size;have HO:=hid (show aB (w.heap.size+1) w1 (.slice (some ⟨w.heap.size+1,0,none⟩) p.ns.length p.ns.length) (aRj p.ns.length 0) from ⟨by simpa using h4,fun x hx=>by rw [(aVn.1 hx).2];exact ⟨by decide,by decide⟩⟩);have z6:=HO.lt _ rfl;have X1:=hid (x0.trans x1);have q5:=hid h7;have q:=h7.lt;obtain ⟨q0,q1⟩:=h7.q2;clear h4 h0 x3 x4 x5 x6 x1 x0 bB z2 h7;go_wp2
 have q7:=hid (show OB p w.heap.size w1.heap.size p.ns.length a1 a2 c1 c2 ((w1.alloc (.cells #[.slice (some ⟨w.heap.size+1,0,none⟩) p.ns.length p.ns.length] 24)).alloc (.cells #[.func (.func 241) #[] #[.pointer (some ⟨w1.heap.size,0,none⟩),.pointer (some ⟨w.heap.size,0,none⟩),.pointer (some ⟨w1.heap.size+1,0,none⟩)]] 289)) (aRj p.ns.length 0) from
  { prog:=q5.ext X_
    out:=(Bx.made w1 _ _).ext X_
    fn:=Bx.madeAt _ _ _ (by simp)
    row:=HO.ext X_ } )
 go_loopw [15] (fun i wr=>∃(k:Nat) (o:List Int),k<=p.gs.length/\i = .int .i64 k/\o.length=p.ns.length/\OB p w.heap.size w1.heap.size p.ns.length a1 a2 c1 c2 wr o/\(∀j t,Own p j t->t<k->o.getD j 0=t)/\Ext w wr) (fun i _=>p.gs.length - (intOf i).toNat)
 case atStart=>
  refine ⟨0,aRj p.ns.length 0,by omega,rfl,by simp,q7,fun j t _ h=>by omega,?_⟩;have hx:=X1.out;exact S_
 case round=>
  clear q7 HO X1 q5 q q0 q1;obtain ⟨k,o,hk,rfl,q3,hB,hA,hx⟩:=hrel;have h8:=hid q3;have HB:=hid hB;have HA:=hid hA;have HX:=hid hx
  by_cases h9:k<p.gs.length
  ·obtain ⟨b,x7,s,rt,rfl,z4,z5,h6,h3,ir,y0,y1⟩:=HG.at h9 hx hh
   have z1:=(hp.ag k _ h3).2;simp only at z1
   obtain ⟨r,rfl⟩:∃r:Nat,rt=r:=⟨rt.toNat,by omega⟩
   have q6:=hid h3;have q0:Ext wr (wr.alloc (.cells #[.string s,r] 200)):=X_
   have x2:OB p w.heap.size w1.heap.size p.ns.length a1 (some ⟨b,x7,none⟩) c1 c2 (wr.alloc (.cells #[.string s,r] 200)) o:=⟨hB.prog.ext q0,hB.out.ext q0,hB.fn.ext q0,hB.row.ext q0⟩
   have q4:=hid x2;have hf:=hB.fn;have f:=hf.lt;have f0:=hf.cell 0;simp only [aQ1,aQw,aQx] at f0;have zx:=hx.size;have q9:=hid (hx.trans q0);clear q3 hB hA hx h6 h3 x2 q0 HB hf;go_wp2_with fail;refine (aFy lo hi p hp w a1 (some ⟨b,x7,none⟩) c1 c2 HN hh w1.heap.size (by omega) k (by omega) (r+1) r o _ (by omega) (Own.root q6) h8 q4 q9).mono ?_;rintro e w2 ⟨rfl,⟨o2,h5,hO2,hS2⟩,hx2⟩;have x8:=hid h5;have q8:=hid hO2;have x9:=hid hS2;have z0:=hid hx2;clear h5 hO2 hS2 hx2 q4 q9;go_wp2;go_roundw
   case rel=>
    refine ⟨k+1,o2,by omega,by go_num,by rw [q8.1];exact h8,x8,fun j t hjt ht=>?_,z0⟩
    by_cases e:t=k
    ·subst e
     obtain ⟨s',r',h1,h2⟩:=hjt;rw [q6] at h1;simp only [aQ0,Asg.mk.injEq] at h1
     have:r=r':=by omega
     subst this;exact x9 j h2
    ·rcases q8.2 j with e2|⟨e2,e3⟩
     ·rw [e2]
      exact HA j t hjt (by omega)
     ·have:=hp.own_eq hjt
      have:=hp.own_eq e3;omega
   case measure=>simp [intOf];omega
  ·obtain rfl:k=p.gs.length:=by omega
   have h5:=hB.out;have f:=h5.lt;have f0:=h5.cell 0;simp only [aQ1,aQw,aQx] at f0;clear q3 hB hA hx h5;go_wp2;go_ret;have e:o=p.ownL:=Prg.ownL_of hp h8 (fun j t hjt=>HA j t hjt (hjt.lt hp).2);exact ⟨⟨_,_,rfl,by rw [<-e];exact HB.row.low (by omega)⟩,HX⟩
def Has (p:Prg) (m:Nat) (ra:List Int) (q j t:Nat):Prop:=
 (∃s:ByteArray,p.gs[t]?=some ⟨s,(j:Nat)⟩)\/(∃(i:Nat) (x:Nd),m<=i/\p.ns[i]?=some x/\(j:Int)∈x.args)\/(∃e,e<q/\ra[e]?=some (j:Int))
def iS (p:Prg) (m:Nat) (ra:List Int) (q:Nat) (o:List Int):Prop:=∀j t,Own p j t->Has p m ra q j t->o.getD j 0=t
theorem iS.all {p:Prg} (hv:p.V) (h:iS p 0 [] 0 o):∀j t,Own p j t->o.getD j 0=t:=fun j t ho=>by
 refine h j t ho ?_
 rcases ho.up with h1|⟨i,x,h1,h2,_⟩
 ·exact .inl h1
 ·exact .inr (.inl ⟨i,x,by omega,h1,h2⟩)
theorem iS.at {p:Prg} (hv:p.V) {ra:List Int} (h:iS p (i+1) ra q o) (hi:i<p.ns.length):o.getD i 0=p.own i:=by
 have ho:=hv.own_is hi;refine h i _ ho ?_
 rcases ho.up with h1|⟨i',x,h1,h2,_⟩
 ·exact .inl h1
 ·have:=hv.arg_lt h1 h2
  exact .inr (.inl ⟨i',x,by omega,h1,h2⟩)
theorem iS.step {p:Prg} (hv:p.V) {x:Nd} (h:iS p (i+1) x.args q o) (hx:p.ns[i]?=some x) (ha:x.args[q]?=some (a:Int)) (hl:a<o.length):iS p (i+1) x.args (q+1) (o.set a (p.own i)):=by
 intro j t ho hs;have hi:=(aQz.1 hx).1;rw [rX _ _ _ _ hl]
 by_cases e:a=j
 ·subst e
  rw [if_pos rfl];have h1:=(hv.own_is hi).down hx (aRn ha);have h2:=hv.own_eq h1;have h3:=hv.own_eq ho;omega
 ·rw [if_neg e]
  refine h j t ho ?_
  rcases hs with h1|h1|⟨y,h1,h2⟩
  ·exact .inl h1
  ·exact .inr (.inl h1)
  ·by_cases e2:y=q
   ·subst e2
    rw [ha] at h2;injection h2 with h2;omega
   ·exact .inr (.inr ⟨y,by omega,h2⟩)
theorem iS.next {p:Prg} {x:Nd} (h:iS p (i+1) x.args x.args.length o) (hx:p.ns[i]?=some x):iS p i [] 0 o:=by
 intro j t ho hs;refine h j t ho ?_
 rcases hs with h1|⟨i',y,h1,h2,h3⟩|⟨y,h1,h2⟩
 ·exact .inl h1
 ·by_cases e:i'=i
  ·subst e
   rw [hx] at h2;injection h2 with h2;subst h2;obtain ⟨q,hq,h0⟩:=aRw h3;exact .inr (.inr ⟨q,hq,by rw [<-h0];simp [hq]⟩)
  ·exact .inr (.inl ⟨i',y,by omega,h2,h3⟩)
 ·omega
theorem iS.any {p:Prg} {ra:List Int} (h:iS p m [] 0 o):iS p m ra 0 o:=by
 intro j t ho hs;refine h j t ho ?_
 rcases hs with h1|h1|⟨y,h1,h2⟩
 ·exact .inl h1
 ·exact .inr (.inl h1)
 ·omega
theorem aDt (lo hi:Nat) (v:Value) (p:Prg) (w:World) (hv:p.R lo hi w v) (hh:hi<=w.heap.size) (hp:p.V) (hgl:p.gs.length<=1048576) :
  Calls aQ2 189 #[v] w fun e w'=>(∃a c,e = .returned (.slice a p.ns.length c)/\aB w.heap.size w' (.slice a p.ns.length c) p.ownL)/\Ext w w':=by
 obtain ⟨i0,q7,q9,x2,x3⟩:=info_parts eK;obtain ⟨a1,c1,a2,c2,rfl,HN,HG⟩:=hv.form;have l1:=HN.le;have l2:=HN.cap;have l3:=HG.le;have l4:=HG.cap;have l5:=hp.len;clear hv;have bB:=Bx.made w #[.slice a1 p.ns.length c1,.slice a2 p.gs.length c2] 119;have x0:Ext w (w.alloc (.cells #[.slice a1 p.ns.length c1,.slice a2 p.gs.length c2] 119)):=X_;go_enter func189,ntmps189;go_wp2_with (at_make;refine wpList_make_full _ rfl _ _ 24 rfl (w.heap.size+1) 3 i0 (.int .i64 0) 1 underlying24 q7 q9 x2 _ _ _ _ p.ns.length rfl rfl rfl rfl (by rw [x3];omega) (by unfold maxLen;omega) (by simp) ?_);intro w1 h7 h6;rw [fR] at h7;have z5:=aQy w (.cells #[.slice a1 p.ns.length c1,.slice a2 p.gs.length c2] 119);have x1:Ext (w.alloc (.cells #[.slice a1 p.ns.length c1,.slice a2 p.gs.length c2] 119)) w1:=(aQ6 _).grown h6 (fun k h=>by cases h);have HO:=hid (show aB (w.heap.size+1) w1 (.slice (some ⟨w.heap.size+1,0,none⟩) p.ns.length p.ns.length) (aRj p.ns.length 0) from ⟨by simpa using h7,fun x hx=>by rw [(aVn.1 hx).2];exact ⟨by decide,by decide⟩⟩);have X1:=hid (x0.trans x1);have h4:=bB.ext x1;have q5:=hid h4;have q:=h4.lt;have q0:=h4.cell 0;simp only [aQ1,aQw,aQx] at q0;have q1:=h4.cell 1;simp only [aQ1,aQw,aQx] at q1;clear h4;clear h7 h6 q7 q9 x2 x3 x1 x0 bB z5;go_wp2
 go_loopw [16] (fun i wr=>∃(k:Nat) (o:List Int),k<=p.gs.length/\i = .int .i64 k/\Ext w wr/\Bx wr w.heap.size #[.slice a1 p.ns.length c1,.slice a2 p.gs.length c2] 119/\aB (w.heap.size+1) wr (.slice (some ⟨w.heap.size+1,0,none⟩) p.ns.length p.ns.length) o/\o.length=p.ns.length/\(∀(t j:Nat) (s:ByteArray),t<k->p.gs[t]?=some ⟨s,j⟩->o.getD j 0=t)) (fun i _=>p.gs.length - (intOf i).toNat)
 case atStart=>exact ⟨0,_,by omega,rfl,X1,q5.out,HO,by simp,fun t j s h=>by omega⟩
 case round=>
  clear HO X1 q5 q q0 q1;obtain ⟨k,o,hk,rfl,hx,hB,hO,h5,hA⟩:=hrel;have HX:=hid hx;have HB:=hid hB;have HO:=hid hO;have h3:=hid h5;have HA:=hid hA
  by_cases z2:k<p.gs.length
  ·obtain ⟨b,x4,s,rt,rfl,x9,z0,h9,h0,ir,y0,y1⟩:=HG.at z2 hx hh
   have z4:=(hp.ag k _ h0).2;simp only at z4
   obtain ⟨r,rfl⟩:∃r:Nat,rt=r:=⟨rt.toNat,by omega⟩
   have hr:r<p.ns.length:=by omega
   have h8:=hid h0;have q0:Ext wr (wr.alloc (.cells #[.string s,r] 200)):=X_;have q6:=hO.ext q0;have x8:=hid (hx.trans q0);have x5:=hid (hB.ext q0);have zx:=q0.size;obtain ⟨r1,r2,r3,r4,r5⟩:=q6.upd (by omega) hr;have HS:=hid (r5 k ⟨by omega,by omega⟩);clear hO q6 HO HX hB HB h5 hA h9 h0 hx q0 r5;go_wp2;go_roundw
   case rel=>
    refine ⟨k+1,o.set r k,by omega,by go_num,?_,x5.other (by simp) _,HS,by rw [aZg];exact h3,fun t j s' ht hs'=>?_⟩
    ·have hx:=x8.out
     exact S_
    ·rw [rX _ _ _ _ (by rw [h3];exact hr)]
     by_cases e:r=j
     ·subst e
      rw [if_pos rfl];have h1:=hp.own_eq (Own.root h8);have h2:=hp.own_eq (Own.root hs');omega
     ·rw [if_neg e]
      refine HA t j s' ?_ hs'
      by_cases e2:t=k
      ·subst e2
       rw [h8] at hs';simp only [aQ0,Asg.mk.injEq] at hs';omega
      ·omega
   case measure=>simp [intOf];omega
  ·obtain rfl:k=p.gs.length:=by omega
   have HW:Hid (iS p p.ns.length [] 0 o):=hid (fun j t _ hs=>by
    rcases hs with ⟨s,h1⟩|⟨i,x,h1,h2,_⟩|⟨y,h1,h2⟩
    ·exact HA t j s (aQz.1 h1).1 h1
    ·have:=(aQz.1 h2).1
     omega
    ·omega)
   have q:=hB.lt;obtain ⟨q0,q1⟩:=hB.q2;clear hx hB hO h5 hA HA;go_wp2
   go_loopw [6] (fun i wr=>∃(m:Nat) (o:List Int),m<=p.ns.length/\i = .int .i64 ((m:Int) - 1)/\Ext w wr/\Bx wr w.heap.size #[.slice a1 p.ns.length c1,.slice a2 p.gs.length c2] 119/\aB (w.heap.size+1) wr (.slice (some ⟨w.heap.size+1,0,none⟩) p.ns.length p.ns.length) o/\o.length=p.ns.length/\iS p m [] 0 o) (fun i _=>(intOf i+1).toNat)
   case atStart=>exact ⟨p.ns.length,o,by omega,rfl,HX,HB,HO,h3,HW⟩
   case round=>
    clear HX HB HO h3 HW q q0 q1;obtain ⟨m,o,hm,rfl,hx,hB,hO,h5,hW⟩:=hrel;have HX:=hid hx;have HB:=hid hB;have HO:=hid hO;have h3:=hid h5;have HW:=hid hW
    rcases (show m=0\/∃i,m=i+1 from by cases m <;> simp) with rfl|⟨i,rfl⟩
    ·clear hx hB hO h5 hW
     go_wp2;go_ret;have e:o=p.ownL:=Prg.ownL_of hp h3 (HW.all hp);exact ⟨⟨_,_,rfl,by rw [<-e];exact HO.low (by omega)⟩,HX⟩
    ·have e1:(((i+1:Nat):Int) - 1)=i:=by omega
     rw [e1]
     have q3:i<p.ns.length:=by omega
     obtain ⟨b,x4,op,s,num,sa,sc,ra,rfl,x9,z0,h0,io,y4,hI,HI,y0,y1,y2,y3⟩:=HN.atW q3 hx hh;have h8:=hid h0;have y5:=HI.le;have y6:=HI.cap;have q:=hB.lt;obtain ⟨q0,q1⟩:=hB.q2;clear h0 hx hB hO h5 hW hI e1 y0 y1 y2;go_wp2
     go_loopw [42] (fun z wr=>∃(j:Nat) (o:List Int),j<=ra.length/\z = .int .i64 j/\Ext w wr/\Bx wr w.heap.size #[.slice (some ⟨b,x4,none⟩) p.ns.length c1,.slice a2 p.gs.length c2] 119/\aB (w.heap.size+1) wr (.slice (some ⟨w.heap.size+1,0,none⟩) p.ns.length p.ns.length) o/\o.length=p.ns.length/\iS p (i+1) ra j o) (fun z _=>ra.length - (intOf z).toNat)
     case atStart=>exact ⟨0,o,by omega,rfl,HX,HB,HO,h3,HW.any⟩
     case round=>
      clear HX HB HO h3 HW q q0 q1;obtain ⟨j,o,hj,rfl,hx,hB,hO,h5,hW⟩:=hrel;have HX:=hid hx;have HB:=hid hB;have HO:=hid hO;have h3:=hid h5;have HW:=hid hW
      by_cases z1:j<ra.length
      ·obtain ⟨b3,z6,y,rfl,z7,hy,_,z8⟩:=HI.atE z1 hx hh
       have z9:=(hp.nd i _ h8).2 y (aRn hy)
       obtain ⟨z,rfl⟩:∃z:Nat,y=z:=⟨y.toNat,by omega⟩
       have hz:z<p.ns.length:=by omega
       have HY:=hid hy;have q8:=hW.at hp q3;obtain ⟨g1,g2,g3,g4,g5⟩:=hO.upd (by omega) q3;rw [q8] at g3;obtain ⟨r1,r2,r3,r4,r5⟩:=hO.upd (by omega) hz;have z3:=((hp.own_is q3).lt hp).2
       obtain ⟨ow,q4⟩:=e_ (p.own i)
       have x6:=hid q4;rw [q4] at g3 z3;have HS:=hid (r5 ow ⟨by omega,by omega⟩);clear hx hB hO h5 hW hy g5 r5 q8 q4;go_wp2;go_roundw
       case rel=>
        refine ⟨j+1,o.set z ow,by omega,by go_num,?_,HB.other (by simp) _,HS,by rw [aZg];exact h3,?_⟩
        ·have hx:=HX.out
         exact S_
        ·have:=HW.step (x:=⟨op,s,num,ra⟩) hp h8 HY (by rw [h3];exact hz)
         rw [x6] at this;exact this
       case measure=>simp [intOf];omega
      ·obtain rfl:j=ra.length:=by omega
       have x7:=hid (hW.next (x:=⟨op,s,num,ra⟩) h8);clear hx hB hO h5 hW HW;go_wp2;go_roundw
       case rel=>exact ⟨i,o,by omega,by go_num,HX,HB,HO,h3,x7⟩
       case measure=>simp [intOf] <;> omega
section
open Go.RowKit Go.Maps Go.WideMaps
def eM (gs:List Asg) (k:Nat) (l:List UInt8):Option Nat:=(gs.take k).findIdx? fun a=>a.name.toList==l
def nI (gs:List Asg) (t:Nat) (l:List UInt8):Bool:=(gs.take t).any fun a=>a.name.toList==l
theorem aAo {gs:List Asg} {k:Nat} {a:Asg} (h:gs[k]?=some a) (l:List UInt8):eM gs (k+1) l=(eM gs k l).or (if a.name.toList==l then some k else none):=by
 have hk:=(aQz.1 h).1;unfold eM;rw [oY h,List.findIdx?_append,aRp,aTi (by omega)]
 cases (gs.take k).findIdx? fun a=>a.name.toList==l
 ·by_cases e:(a.name.toList==l)=true <;> simp [e,List.findIdx?_cons]
 ·simp
theorem jG {gs:List Asg} {t:Nat} {l:List UInt8}:nI gs t l=true↔∃(i:Nat) (a:Asg),i<t/\gs[i]?=some a/\a.name.toList=l:=by
 unfold nI;rw [List.any_eq_true]
 constructor
 ·rintro ⟨a,ha,he⟩
  obtain ⟨i,hi,rfl⟩:=aRw ha;simp only [aRp] at hi;exact ⟨i,gs[i]'(by omega),by omega,by simp,by simpa using he⟩
 ·rintro ⟨i,a,h1,h2,h3⟩
  refine ⟨a,?_,by simp [h3]⟩;have hi:=(aQz.1 h2).1;exact aRn (i:=i) (by rw [aS1,if_pos h1];exact h2)
theorem eX {gs:List Asg} {k i:Nat} {l:List UInt8} (h:eM gs k l=some i):i<k/\(∃a:Asg,gs[i]?=some a/\a.name.toList=l)/\∀(j:Nat) (a:Asg),j<i->gs[j]?=some a->a.name.toList≠l:=by
 unfold eM at h;rw [List.findIdx?_eq_some_iff_getElem] at h;obtain ⟨h1,h2,h3⟩:=h;simp only [aRp] at h1;refine ⟨by omega,⟨gs[i]'(by omega),by simp,by simpa using h2⟩,fun j a hj ha=>?_⟩;have:=h3 j hj
 have hl:=(aQz.1 ha)
 simp only [List.getElem_take] at this;rw [hl.2] at this
 simpa using this
theorem aAp {gs:List Asg} {k:Nat} {l:List UInt8} (h:eM gs k l=none):nI gs k l=false:=by
 unfold eM at h;rw [List.findIdx?_eq_none_iff] at h;unfold nI;rw [List.any_eq_false];intro a ha
 simpa using h a ha
theorem vG {gs:List Asg} {i t:Nat} {l:List UInt8} (h:eM gs gs.length l=some i):nI gs t l=decide (i<t):=by
 obtain ⟨h1,⟨a,h2,h3⟩,h4⟩:=eX h;rw [aVs,jG,decide_eq_true_eq]
 constructor
 ·rintro ⟨j,b,h5,h6,h7⟩
  have : ¬j<i:=fun hj=>h4 j b hj h6 h7;omega
 ·intro ht
  exact ⟨i,a,ht,h2,h3⟩
theorem vH {gs:List Asg} {t:Nat} {l:List UInt8} (h:eM gs gs.length l=none):nI gs t l=false:=by
 have h1:=aAp h
 cases e:nI gs t l
 ·rfl
 ·obtain ⟨i,a,h2,h3,h4⟩:=jG.1 e
  have:=jG.2 ⟨i,a,(aQz.1 h3).1,h3,h4⟩;rw [h1] at this;cases this
theorem wR:Keyed aQ2 9:=string_keyed underlying9
theorem aKl {s:ByteArray} (hs:s.size<=maxLen):keyOf aQ2 9 (.string s)=some (.string s.toList):=by
 rw [keyOf_string_mk underlying9 hs,aVu]
theorem aKm (w:World):(zeroValue 3).run aQ2 w = .ok (.int .i64 0) w:=by kernel_rfl
def qV (D:DataW Unit) (gs:List Asg) (k:Nat):Prop:=
 IsMap D/\∀s:ByteArray,s.size<=maxLen->has D (.string s.toList)=(eM gs k s.toList).isSome/\∀t,eM gs k s.toList=some t->∀z,D.atKey (.string s.toList) z = .lit (.int .i64 (t:Nat))
def FM (w:World) (b:Nat) (gs:List Asg) (k:Nat):Prop:=∃(n:Nat) (D:DataW Unit),n<=k/\w.ownsMap aQ2 9 (plainElem aQ2 3) b n D/\qV D gs k
theorem FM.of_block {w w':World} {b:Nat} {gs:List Asg} {k:Nat} (h:FM w b gs k) (e:w'.heap[b]?=w.heap[b]?):FM w' b gs k:=by
 obtain ⟨n,D,hn,⟨es,clock,hb,r⟩,hD⟩:=h;exact ⟨n,D,hn,⟨es,clock,by rw [e];exact hb,r⟩,hD⟩
theorem FM.lt {w:World} {b:Nat} {gs:List Asg} {k:Nat} (h:FM w b gs k):b<w.heap.size:=by
 obtain ⟨n,D,hn,h1,hD⟩:=h;exact h1.lt
theorem FM.ext {w w':World} {b:Nat} {gs:List Asg} {k:Nat} (h:FM w b gs k) (e:Ext w w'):FM w' b gs k:=h.of_block (e.block h.lt)
theorem FM.made (w:World) (gs:List Asg):FM (w.alloc (.map #[] 0)) w.heap.size gs 0:=
 ⟨0,_,aQv _,World.ownsMap_made _ _ _ _,isMap_empty,fun s _=>⟨rfl,fun t h=>by simp [eM] at h⟩⟩
theorem dO (w:World) {ops:Array Oper} {rest:List Oper} {o:Oper} {a:Act} {Q:Exit->Act->World->Prop} (hg:o.guard=none) (m x:Operand) (hop:o.op=Op.lookup 217 m x true)
  (b k:Nat) (gs:List Asg) (hm:a.eval m = .map (some b)) (h:FM w b gs k) (s:ByteArray) (hs:s.size<=maxLen) (hx:a.eval x = .string s) (r:Option Nat) (hr:eM gs k s.toList=r)
  (hK:wpList aQ2 ops Q rest (a.put o.dst (.tuple #[.int .i64 ((r.getD 0:Nat):Int),.bool r.isSome])) w):wpList aQ2 ops Q (o::rest) a w:=by
 obtain ⟨n,D,hn,h3,h5,h4⟩:=h;obtain ⟨h1,h2⟩:=h4 s hs;refine wpList_lookup_own_ok_int w hg m x 217 hop 9 3 .i64 wR underlying217 underlying3 (aKm _) b n D hm h3 _ _ hx (aKl hs) ?_;intro c h0 _;rw [h1,hr]
 have hc:c=((r.getD 0:Nat):Int):=by
  cases r with
  | none=>
   rw [hr] at h1;rw [atKey_of_not_has (by simpa using h1)] at h0;injection h0 with h0;injection h0 with _ h0;rw [<-h0]
   rfl
  | some t=>
   rw [h2 t hr] at h0;injection h0 with h0;injection h0 with _ h0;exact h0.symm
 rw [hc];exact hK
theorem aB3 (w:World) {ops:Array Oper} {rest:List Oper} {o:Oper} {a:Act} {Q:Exit->Act->World->Prop} (hg:o.guard=none) (m x:Operand) (hop:o.op=Op.lookup 217 m x false)
  (b k:Nat) (gs:List Asg) (hm:a.eval m = .map (some b)) (h:FM w b gs k) (s:ByteArray) (hs:s.size<=maxLen) (hx:a.eval x = .string s) (t:Nat) (hr:eM gs k s.toList=some t)
  (hK:wpList aQ2 ops Q rest (a.put o.dst (.int .i64 (t:Int))) w):wpList aQ2 ops Q (o::rest) a w:=by
 obtain ⟨n,D,hn,h3,h5,h4⟩:=h;obtain ⟨h1,h2⟩:=h4 s hs;refine wpList_lookup_own_int w hg m x 217 hop 9 3 .i64 wR underlying217 underlying3 (aKm _) b n D hm h3 _ _ hx (aKl hs) ?_;intro c h0 _;rw [h2 t hr] at h0;injection h0 with h0;injection h0 with _ h0;rw [<-h0];exact hK
theorem qV.skip {D:DataW Unit} {gs:List Asg} {k t:Nat} {a:Asg} (h:qV D gs k) (ha:gs[k]?=some a) (ht:eM gs k a.name.toList=some t):qV D gs (k+1):=by
 refine ⟨h.1,fun s hs=>?_⟩
 have e:eM gs (k+1) s.toList=eM gs k s.toList:=by
  rw [aAo ha]
  by_cases he:(a.name.toList==s.toList)=true
  ·rw [eq_of_beq he] at ht
   rw [ht]
   rfl
  ·simp [he]
 rw [e];exact h.2 s hs
theorem qV.put {D:DataW Unit} {gs:List Asg} {k:Nat} {a:Asg} (h:qV D gs k) (ha:gs[k]?=some a) (hn:a.name.size<=maxLen) (ht:eM gs k a.name.toList=none):qV (D.put (.string a.name.toList) (.lit (.int .i64 (k:Nat)))) gs (k+1):=by
 have h0:WideAt.IsKeyLit (.string a.name.toList):=wR.key (aKl hn);refine ⟨h.1.put _ _,fun s hs=>?_⟩;rw [aAo ha]
 by_cases he:(a.name.toList==s.toList)=true
 ·have e:=eq_of_beq he
  rw [<-e,ht];refine ⟨by rw [has_put_same h.1 h0];simp,fun t hts z=>?_⟩;rw [atKey_put_same h.1 h0];simp at hts;rw [hts]
 ·have h1:Lit.string s.toList≠Lit.string a.name.toList:=fun e=>he (by injection e with e;rw [e];simp)
  rw [has_put_other h1];simp only [he,aTs,if_false,Option.or_none];exact ⟨(h.2 s hs).1,fun t hts z=>by rw [atKey_put_other h1];exact (h.2 s hs).2 t hts z⟩
theorem FM.skip {w:World} {b k t:Nat} {gs:List Asg} {a:Asg} (h:FM w b gs k) (ha:gs[k]?=some a) (ht:eM gs k a.name.toList=some t):FM w b gs (k+1):=by
 obtain ⟨n,D,hn,h1,h2⟩:=h;exact ⟨n,D,by omega,h1,h2.skip ha ht⟩
theorem tJ (w:World) {ops:Array Oper} {rest:List Oper} {o:Oper} {a:Act} {Q:Exit->Act->World->Prop} (hg:o.guard=none) (m x v:Operand) (hop:o.op=Op.mapUpdate 217 m x v)
  (b k:Nat) (gs:List Asg) (hm:a.eval m = .map (some b)) (h:FM w b gs k) (hk:k<=10000000) (g:Asg) (hgk:gs[k]?=some g) (hs:g.name.size<=maxLen) (hx:a.eval x = .string g.name) (hv:a.eval v = .int .i64 (k:Int)) (hr:eM gs k g.name.toList=none)
  (hK:∀w',FM w' b gs (k+1)->w.grownBy w' (some b)->wpList aQ2 ops Q rest (a.put o.dst undef) w'):wpList aQ2 ops Q (o::rest) a w:=by
 obtain ⟨n,D,hn,h0,hD⟩:=h;refine wpList_mapUpdate_own w hg m x v 217 hop 9 3 wR underlying217 _ b n D hm h0 (by unfold maxLen;omega) _ _ _ hx hv (aKl hs) (.lit (.int .i64 (k:Int))) [] (plainElem_int underlying3 (by simp [Lit.wf,IntKind.min,IntKind.max,IntKind.bits,IntKind.signed];omega)) ?_;intro w' h1 h2;exact hK w' ⟨n+1,_,by omega,h1,hD.put hgk hs hr⟩ h2
end
section
open Go.RowKit Go.Maps Go.WideMaps
theorem qB (lo hi:Nat) (v:Value) (p:Prg) (w:World) (hv:p.R lo hi w v) (hh:hi<=w.heap.size) (hb:p.bd) (hgl:p.gs.length<=1048576) :
  Calls aQ2 161 #[v] w fun e w'=>(∃b,e = .returned (.map (some b))/\w.heap.size<=b/\FM w' b p.gs p.gs.length)/\Ext w w':=by
 obtain ⟨a1,c1,a2,c2,rfl,HN,HG⟩:=hv.form;have l3:=HG.le;have l4:=HG.cap;have h6:=hid hb.2;clear hv hb HN;have q1:=@run_makeMap aQ2;go_enter func161,ntmps161;go_wp2;have hM:=FM.made (w.alloc (.cells #[.slice a1 p.ns.length c1,.slice a2 p.gs.length c2] 119)) p.gs;simp only [aQy] at hM
 go_loopw [12] (fun i wr=>∃k:Nat,k<=p.gs.length/\i = .int .i64 k/\FM wr (w.heap.size+1) p.gs k/\Ext w wr) (fun i _=>p.gs.length - (intOf i).toNat)
 case atStart=>exact ⟨0,by omega,rfl,hM,X_⟩
 case round=>
  clear hM q1;obtain ⟨k,hk,rfl,hM,hx⟩:=hrel;have HX:=hid hx;have HM:=hid hM;have q4:=hM.lt
  by_cases h9:k<p.gs.length
  ·obtain ⟨b,q5,s,rt,rfl,q2,q3,h1,h0,ir,y0,y1⟩:=HG.at h9 hx hh
   have h3:=h6.out _ (aRn h0);simp only at h3;have h4:=hid h0;have q0:Ext wr (wr.alloc (.cells #[.string s,rt] 200)):=X_;have h2:=hid (hM.ext q0);have h5:=hid (hx.trans q0);clear h1 h0 hx hM q0
   cases hr:eM p.gs k s.toList with
   | none=>
    have HR:=hid hr;clear hr;go_wp2_with (first|(at_lookup;refine dO _ rfl _ _ rfl _ _ _ rfl h2 _ h3 rfl _ HR ?_)|(at_mapUpdate;refine tJ _ rfl _ _ _ rfl _ _ _ rfl h2 (by omega) _ h4 h3 rfl rfl HR ?_;intro w2 hM2 hg2));have h7:=hid hM2;have h8:=hid (h5.grown hg2 (fun k h=>by cases h;omega));clear hM2 hg2;go_wp2;go_roundw
    case rel=>exact ⟨k+1,by omega,by go_num,h7,h8⟩
    case measure=>simp [intOf];omega
   | some t=>
    have HR:=hid hr;clear hr;go_wp2_with (at_lookup;refine dO _ rfl _ _ rfl _ _ _ rfl h2 _ h3 rfl _ HR ?_);go_roundw
    case rel=>exact ⟨k+1,by omega,by go_num,h2.skip h4 HR,h5⟩
    case measure=>simp [intOf];omega
  ·obtain rfl:k=p.gs.length:=by omega
   clear hx hM;go_wp2;go_ret;exact ⟨⟨_,rfl,by omega,HM⟩,HX⟩
def atB (gs:List Asg) (k:Nat) (l:List UInt8):Bool:=match gs[k]? with|some a=>a.name.toList==l|none=>false
theorem aFz {gs:List Asg} {k:Nat} {a:Asg} (h:gs[k]?=some a) (l:List UInt8):atB gs k l=(a.name.toList==l):=by unfold atB;rw [h]
def fB (gs:List Asg) (t:Int) (l:List UInt8):Nat->Int
 | 0=>-1
 | k+1=>if (k:Int)<t/\atB gs k l=true then (k:Int) else fB gs t l k
theorem aDu {gs:List Asg} {t:Int} {l:List UInt8} {k:Nat} {a:Asg} (h:gs[k]?=some a):fB gs t l (k+1)=if (k:Int)<t/\(a.name.toList==l)=true then (k:Int) else fB gs t l k:=by
 simp only [fB,aFz h]
theorem aDv {gs:List Asg} {t:Int} {l:List UInt8}:∀{k:Nat},0<=fB gs t l k->∃(i:Nat) (a:Asg),fB gs t l k=i/\i<k/\(i:Int)<t/\gs[i]?=some a/\a.name.toList=l:=by
 intro k
 induction k with
 | zero=>intro h;simp [fB] at h
 | succ k ih=>
  intro h;unfold fB at h ⊢
  by_cases hc:(k:Int)<t/\atB gs k l=true
  ·rw [if_pos hc]
   cases hg:gs[k]? with
   | none=>have:=hc.2;unfold atB at this;rw [hg] at this;cases this
   | some a=>exact ⟨k,a,rfl,by omega,hc.1,hg,by have:=hc.2;rw [aFz hg] at this;simpa using this⟩
  ·rw [if_neg hc] at h ⊢
   obtain ⟨i,a,h1,h2,h3⟩:=ih h;exact ⟨i,a,h1,by omega,h3⟩
theorem aDw {gs:List Asg} {t:Int} {l:List UInt8}:∀{k:Nat},fB gs t l k<0->∀(i:Nat) (a:Asg),i<k->(i:Int)<t->gs[i]?=some a->a.name.toList≠l:=by
 intro k
 induction k with
 | zero=>intro h i a hi;omega
 | succ k ih=>
  intro h i a hi ht hg;unfold fB at h
  by_cases hc:(k:Int)<t/\atB gs k l=true
  ·rw [if_pos hc] at h
   omega
  ·rw [if_neg hc] at h
   by_cases e:i=k
   ·subst e
    intro he;exact hc ⟨ht,by rw [aFz hg];simp [he]⟩
   ·exact ih h i a (by omega) ht hg
theorem qW (gs:List Asg) (t:Nat) (l:List UInt8):decide (0<=fB gs t l gs.length)=nI gs t l:=by
 rw [aVs,decide_eq_true_eq,jG]
 constructor
 ·intro h
  obtain ⟨i,a,h1,h2,h3,h4,h5⟩:=aDv h;exact ⟨i,a,by omega,h4,h5⟩
 ·rintro ⟨i,a,h1,h2,h3⟩
  by_cases e:0<=fB gs t l gs.length
  ·exact e
  ·exact absurd h3 (aDw (gs:=gs) (t:=t) (l:=l) (k:=gs.length) (by omega) i a (aQz.1 h2).1 (by omega) h2)
theorem zJ (lo hi:Nat) (v:Value) (p:Prg) (s:ByteArray) (t:Int) (w:World) (hv:p.R lo hi w v) (hh:hi<=w.heap.size) (hgl:p.gs.length<=1048576) :
  R_ 136 #[v,.string s,t] w (.int .i64 (fB p.gs t s.toList p.gs.length)):=by
 obtain ⟨a1,c1,a2,c2,rfl,HN,HG⟩:=hv.form;have l3:=HG.le;have l4:=HG.cap;clear hv HN;go_enter func136,ntmps136;go_wp2
 go_loopw [7,13] (fun q i wr=>∃k:Nat,k<=p.gs.length/\i = .int .i64 k/\q = .int .i64 (fB p.gs t s.toList k)/\Ext w wr) (fun _ i _=>p.gs.length - (intOf i).toNat)
 case atStart=>exact ⟨0,by omega,rfl,rfl,X_⟩
 case round=>
  obtain ⟨k,hk,rfl,rfl,hx⟩:=hrel;have HX:=hid hx
  by_cases h3:k<p.gs.length
  ·obtain ⟨b,h6,s2,rt,rfl,h4,h5,h0,h1,ir,y0,y1⟩:=HG.at h3 hx hh
   have HS:=hid (aDu (t:=t) (l:=s.toList) h1);have h2:=hid (show Ext w (wr.alloc (.cells #[.string s2,rt] 200)) from X_);clear h0 h1 hx
   by_cases ht:(k:Int)<t
   ·cases he:(s2.toList==s.toList)
    ·have HE:=hid he
     go_wp2;go_roundw
     case rel=>exact ⟨k+1,by omega,by go_num,by rw [HS];simp [HE.out],h2⟩
     case measure=>simp [intOf];omega
    ·have HE:=hid he
     go_wp2;go_roundw
     case rel=>exact ⟨k+1,by omega,by go_num,by rw [HS];simp only [HE.out,ht,and_self,if_true],h2⟩
     case measure=>simp [intOf];omega
   ·go_wp2
    go_roundw
    case rel=>exact ⟨k+1,by omega,by go_num,by rw [HS,if_neg (fun h=>by omega)],h2⟩
    case measure=>simp [intOf];omega
  ·obtain rfl:k=p.gs.length:=by omega
   clear hx;go_wp2;go_ret;exact ⟨rfl,HX⟩
end
noncomputable def Prg.nameB (p:Prg) (k:Nat):Bool:=match p.ns[k]? with|some x=>if x.op=2 then cT x.name||nI p.gs (p.own k) x.name.toList else if x.op=8 then decide (0<=cA x.name) else true|none=>true
theorem Prg.nameB_at {p:Prg} {x:Nd} (h:p.ns[k]?=some x):p.nameB k=if x.op=2 then cT x.name||nI p.gs (p.own k) x.name.toList else if x.op=8 then decide (0<=cA x.name) else true:=by unfold Prg.nameB;rw [h]
theorem aHr {p:Prg} (h:p.ownL[k]?=some y):y=p.own k:=by
 unfold Prg.ownL at h;rw [aSo] at h
 cases hk:(aRl p.ns.length)[k]? with
 | none=>rw [hk] at h;cases h
 | some j=>
  have hj:=(aQz.1 hk)
  rw [hk] at h;obtain ⟨h1,h2⟩:=hj;simp at h2;subst h2
  simpa using h.symm
theorem lB {gs:List Asg} {s:ByteArray} {z:Int} (hz:fB gs t s.toList gs.length=z) (lo hi:Nat) (v:Value) (p:Prg) (w:World) (hp:p.gs=gs) (hv:p.R lo hi w v) (hh:hi<=w.heap.size) (hgl:p.gs.length<=1048576) :
  R_ 136 #[v,.string s,t] w (.int .i64 z):=by
 subst hp;exact hz▸zJ lo hi v p s t w hv hh hgl
theorem aF0 (lo hi:Nat) (v:Value) (p:Prg) (w:World) (hv:p.R lo hi w v) (hh:hi<=w.heap.size) (hp:p.V) (hgl:p.gs.length<=1048576) :
  Calls aQ2 133 #[v] w fun e w'=>(∃i:Int,e = .returned (.int .i64 i)/\decide (0<=i) = !((aRl p.ns.length).all p.nameB))/\Ext w w':=by
 have HV:=hid hv;obtain ⟨a1,c1,a2,c2,rfl,HN,HG⟩:=hv.form;have l1:=HN.le;have l2:=HN.cap;have l3:=HG.le;have l4:=HG.cap;have l5:=hp.len;clear hv;have x0:Ext w (w.alloc (.cells #[.slice a1 p.ns.length c1,.slice a2 p.gs.length c2] 119)):=X_;have bB:=Bx.made w #[.slice a1 p.ns.length c1,.slice a2 p.gs.length c2] 119;go_enter func133,ntmps133;go_wp2_with fail;refine (aDt lo hi _ p _ (HV.ext hh x0) (aQ5 hh x0.size) hp hgl).mono ?_;rintro e w1 ⟨⟨oa,oc,rfl,hO⟩,x1⟩;have hI:=hO.ints;obtain ⟨y6,y7,e1,HO⟩:=hI.open;rw [Prg.ownL_len] at e1;simp only [aRo,true_and] at e1;obtain ⟨rfl,rfl⟩:=e1;have z4:=HO.le;have y5:=HO.cap;rw [Prg.ownL_len] at z4;have h9:=bB.ext x1;have x5:=hid h9;have X1:=hid (x0.trans x1);have q:=h9.lt;obtain ⟨q0,q1⟩:=h9.q2;clear x1 x0 bB h9 hO hI;go_wp2
 go_loopw [11] (fun i wr=>∃k:Nat,k<=p.ns.length/\i = .int .i64 k/\(∀j,j<k->p.nameB j=true)/\Bx wr w.heap.size #[.slice a1 p.ns.length c1,.slice a2 p.gs.length c2] 119/\Ext w wr/\Ext w1 wr) (fun i _=>p.ns.length - (intOf i).toNat)
 case atStart=>exact ⟨0,by omega,rfl,fun j h=>by omega,x5,X1,aQ6 _⟩
 case round=>
  clear x5 X1 q q0 q1;obtain ⟨k,hk,rfl,h2,hB,hx,q6⟩:=hrel;have HA:=hid h2;have HX:=hid hx;have h8:=hid q6
  by_cases q5:k<p.ns.length
  ·obtain ⟨b,y8,op,s,num,sa,sc,ra,rfl,z5,q3,h7,io,z8,hI,HI,y0,y1,y2,y3⟩:=HN.atW q5 hx hh
   have z9:=HI.le;have y4:=HI.cap;obtain ⟨ob,oo,oy,rfl,z6,x9,_,z7⟩:=HO.atE (k:=k) (by rw [Prg.ownL_len];exact q5) q6 (aQv _);have e9:=aHr x9;subst e9;have q0:Ext wr (wr.alloc (.cells #[op,.string s,num,.slice sa ra.length sc] 197)):=X_;have h4:=hid (Prg.nameB_at h7);have h5:=hid (hB.ext q0);have x7:=HV.ext hh (hx.trans q0);have z0:=hid x7;have zx:=hx.size;clear h7 h2 hB hx q6 hI x9 x7
   rcases (show op=2\/op=8\/(op≠2/\op≠8) by omega) with rfl|rfl|⟨o2,o8⟩
   ·cases hv:cT s
    ·obtain ⟨z,hz⟩:=e_ (fB p.gs (p.own k) s.toList p.gs.length)
     have HZ:=hid hz;have q9:=hid hv;have h6:Hid (p.nameB k=nI p.gs (p.own k) s.toList):=hid (by rw [h4,if_pos rfl,hv];rfl);clear h4;have q3:=h5.out;have d:=q3.lt;obtain ⟨d0,d1⟩:=q3.q2;clear hz hv q3
     have z2:ob<=wr.heap.size:=by omega
     have z3:ob<wr.heap.size+1:=by omega
     have z1:w.heap.size<wr.heap.size+1:=by omega
     go_wp2_with fail;refine aA [([0,1,2,3,4,5],6),([7,8,9,10,11,12,13,14,15,16],17),([18],19)] 99 (wr.heap.size+1) (by kernel_rfl) (by kernel_rfl) ?_;refine st_ fun K hK=>?_;go_wp2_with fail;refine r_ (dL q9 _) fun w2 x1=>?_;have X2:Ext (wr.alloc (.cells #[.int .i64 2,.string s,num,.slice sa ra.length sc] 197)) w2:=aQ3 X_ x1;go_wp2_with fail;refine hK _ _ (.inr (fun k _ hk=>x1.block (by first|omega|(simp;omega)))) ?_;clear hK K;refine st_ fun K hK=>?_;go_wp2_with fail;refine r_ (lB HZ lo hi _ p _ rfl (z0.ext (by simp;omega) X_) (by have:=X2.size;simp at this ⊢;omega) hgl) fun w3 x3=>?_;have X3:=X2.trans x3;go_wp2_with fail;refine hK _ _ (.inr (fun k _ hk=>X3.block (by first|omega|(simp;omega)))) ?_;clear hK K;have x8:=h5.ext X3;have h0:=hid ((HX.trans q0).trans X3);have h1:=hid ((h8.trans q0).trans X3);have q7:=hid x8
     have h3:=((Bx.made wr #[.int .i64 2,.string s,num,.slice sa ra.length sc] 197).ext X3)
     have x4:=qW p.gs (p.own k) s.toList;rw [HZ] at x4;have x6:=hid x4;have c:=h3.lt;obtain ⟨c0,c1,c2,c3⟩:=h3.q4;clear x8 h3 x4
     by_cases x2:z<0
     ·have HN:Hid (p.nameB k=false):=hid (by rw [h6,<-x6];simp;omega)
      refine st_ fun K hK=>?_;go_wp2_with fail;go_wp2_with fail;refine hK _ _ (.inr (fun k _ hk=>X3.block (by first|omega|(simp;omega)))) ?_;clear hK K;refine aC ?_;go_wp2;go_ret;exact ⟨⟨_,rfl,by rw [fK q5 HN.out];simp⟩,h0⟩
     ·have HN:Hid (p.nameB k=true):=hid (by rw [h6,<-x6];simp;omega)
      refine st_ fun K hK=>?_;go_wp2_with fail;go_wp2_with fail;refine hK _ _ (.inr (fun k _ hk=>X3.block (by first|omega|(simp;omega)))) ?_;clear hK K;refine aC ?_;go_wp2;go_roundw
      case rel=>
       refine ⟨k+1,by omega,by go_num,fun i hi=>?_,q7,h0,h1⟩
       by_cases e:i=k
       ·subst e;exact HN
       ·exact HA i (by omega)
      case measure=>simp [intOf];omega
    ·have HN:Hid (p.nameB k=true):=hid (by rw [h4,if_pos rfl,hv];rfl)
     have q9:=hid hv;clear hv;go_wp2_with fail;refine aA [([0,1,2,3,4,5],6),([7,8,9,10,11,12,13,14,15,16],17),([18],19)] 99 (wr.heap.size+1) (by kernel_rfl) (by kernel_rfl) ?_;refine st_ fun K hK=>?_;go_wp2_with fail;refine r_ (dL q9 _) fun w2 x1=>?_;have X2:Ext (wr.alloc (.cells #[.int .i64 2,.string s,num,.slice sa ra.length sc] 197)) w2:=aQ3 X_ x1;go_wp2_with fail;refine hK _ _ (.inr (fun k _ hk=>X2.block (by first|omega|(simp;omega)))) ?_;clear hK K;have h0:=hid ((HX.trans q0).trans X2);have h1:=hid ((h8.trans q0).trans X2);have q7:=hid (h5.ext X2)
     have h3:=((Bx.made wr #[.int .i64 2,.string s,num,.slice sa ra.length sc] 197).ext X2)
     have c:=h3.lt;obtain ⟨c0,c1,c2,c3⟩:=h3.q4;clear h3;refine st_ fun K hK=>?_;go_wp2_with fail;go_wp2_with fail;refine hK _ _ (.inr (fun k _ hk=>X2.block (by first|omega|(simp;omega)))) ?_;clear hK K;refine st_ fun K hK=>?_;go_wp2_with fail;go_wp2_with fail;refine hK _ _ (.inr (fun k _ hk=>X2.block (by first|omega|(simp;omega)))) ?_;clear hK K;refine aC ?_;go_wp2;go_roundw
     case rel=>
      refine ⟨k+1,by omega,by go_num,fun i hi=>?_,q7,h0,h1⟩
      by_cases e:i=k
      ·subst e;exact HN
      ·exact HA i (by omega)
     case measure=>simp [intOf];omega
   ·obtain ⟨z,hz⟩:=e_ (cA s)
    have HZ:=hid hz;have HN:Hid (p.nameB k=decide (0<=z)):=hid (by rw [h4,hz];rfl);have h0:=hid (HX.trans q0);have h1:=hid (h8.trans q0);clear hz;go_wp2_with fail;refine aA [([0,1,2,3,4,5],6),([7,8,9,10,11,12,13,14,15,16],17),([18],19)] 99 (wr.heap.size+1) (by kernel_rfl) (by kernel_rfl) ?_;refine st_ fun K hK=>?_;go_wp2_with fail;go_wp2_with fail;refine k_ hK ?_;clear hK K;refine st_ fun K hK=>?_;go_wp2_with fail;go_wp2_with fail;refine k_ hK ?_;clear hK K;refine st_ fun K hK=>?_;go_wp2_with fail;go_wp2_with fail;refine k_ hK ?_;clear hK K;refine aC ?_;go_wp2_with fail;refine z_ (mM HZ _) ?_
    by_cases x2:0<=z
    ·have q8:=hid (HN.trans (decide_eq_true x2))
     clear HN;go_wp2;go_roundw
     case rel=>
      refine ⟨k+1,by omega,by go_num,fun i hi=>?_,h5.ext ((aQ6 _).drew),h0.drew,h1.drew⟩
      by_cases e:i=k
      ·subst e;exact q8
      ·exact HA i (by omega)
     case measure=>simp [intOf];omega
    ·have q8:=hid (HN.trans (decide_eq_false x2))
     clear HN;go_wp2;go_ret;exact ⟨⟨_,rfl,by rw [fK q5 q8.out];simp⟩,h0.drew⟩
   ·have e2:(op==2)=false:=beq_eq_false_iff_ne.2 o2
    have e8:(op==8)=false:=beq_eq_false_iff_ne.2 o8;have HN:Hid (p.nameB k=true):=hid (by rw [h4,if_neg o2,if_neg o8]);have h0:=hid (HX.trans q0);have h1:=hid (h8.trans q0);clear h4;go_wp2_with fail;refine aA [([0,1,2,3,4,5],6),([7,8,9,10,11,12,13,14,15,16],17),([18],19)] 99 (wr.heap.size+1) (by kernel_rfl) (by kernel_rfl) ?_;refine st_ fun K hK=>?_;go_wp2_with fail;go_wp2_with fail;refine k_ hK ?_;clear hK K;refine st_ fun K hK=>?_;go_wp2_with fail;go_wp2_with fail;refine k_ hK ?_;clear hK K;refine st_ fun K hK=>?_;go_wp2_with fail;go_wp2_with fail;refine k_ hK ?_;clear hK K;refine aC ?_;go_wp2;go_roundw
    case rel=>
     refine ⟨k+1,by omega,by go_num,fun i hi=>?_,h5.ext ((aQ6 _).drew),h0.drew,h1.drew⟩
     by_cases e:i=k
     ·subst e;exact HN
     ·exact HA i (by omega)
    case measure=>simp [intOf];omega
  ·obtain rfl:k=p.ns.length:=by omega
   have HN:=hid (gE HA);clear h2 hB hx q6;go_wp2;go_ret;exact ⟨⟨_,rfl,by rw [HN];rfl⟩,HX⟩
def Prg.arB (p:Prg) (k:Nat):Bool:=match p.ns[k]? with|some x=>if x.op=8 then decide (cA x.name=x.args.length) else true|none=>true
def Prg.asB (p:Prg) (k:Nat):Bool:=match p.gs[k]? with|some x=>!(cT x.name) && !(nI p.gs k x.name.toList)|none=>true
def Prg.colB (p:Prg):Bool:=nI p.gs p.gs.length [99,111,108,111,114]
noncomputable def Prg.chkB (p:Prg):Bool:=p.okB&&(aRl p.ns.length).all p.nameB&&(aRl p.ns.length).all p.arB&&(aRl p.gs.length).all p.asB&&p.colB
theorem Prg.arB_at {p:Prg} {x:Nd} (h:p.ns[k]?=some x):p.arB k=if x.op=8 then decide (cA x.name=x.args.length) else true:=by unfold Prg.arB;rw [h]
theorem Prg.asB_at {p:Prg} {x:Asg} (h:p.gs[k]?=some x):p.asB k=(!(cT x.name) && !(nI p.gs k x.name.toList)):=by unfold Prg.asB;rw [h]
theorem iT {p:Prg} {b:Bool} (h:p.okB=b) (lo hi:Nat) (v:Value) (w:World) (hv:p.R lo hi w v) (hh:hi<=w.heap.size) (hb:p.bd) (hnl:p.ns.length<=1048576) (hgl:p.gs.length<=1048576) :
  R_ 132 #[v] w (.bool b):=h▸pL lo hi v p w hv hh hb hnl hgl
theorem aMg:(⟨#[99,111,108,111,114]⟩:ByteArray).toList=[99,111,108,111,114]:=by rw [aVu]
theorem wS (lo hi:Nat) (v:Value) (p:Prg) (w:World) (hv:p.R lo hi w v) (hh:hi<=w.heap.size) (hb:p.bd) (hnl:p.ns.length<=1048576) (hgl:p.gs.length<=1048576) :
  Calls aQ2 85 #[v] w fun e w'=>(∃c k:Int,e = .returned (.tuple #[c,k])/\(c==0)=p.chkB)/\Ext w w':=by
 have HV:=hid hv;obtain ⟨a1,c1,a2,c2,rfl,HN,HG⟩:=hv.form;have l1:=HN.le;have l2:=HN.cap;have l3:=HG.le;have l4:=HG.cap;have z4:=hid hb;clear hv hb;have x0:Ext w (w.alloc (.cells #[.slice a1 p.ns.length c1,.slice a2 p.gs.length c2] 119)):=X_;have bB:=Bx.made w #[.slice a1 p.ns.length c1,.slice a2 p.gs.length c2] 119
 cases h7:p.okB
 ·have q7:=hid h7
  have HC:Hid (p.chkB=false):=hid (by unfold Prg.chkB;rw [h7];rfl);clear h7;go_enter func85,ntmps85;go_wp2_with fail;refine r_ (iT q7 lo hi _ _ (HV.ext hh x0) (aQ5 hh x0.size) z4 hnl hgl) fun w1 x1=>?_;have X1:=x0.trans x1;go_wp2;refine bodyPost_ret (v:=.tuple #[.int .i64 1,()]) (by simp [results,results85,go_sem]) rfl ⟨⟨_,_,rfl,by rw [HC];rfl⟩,X1⟩
 have HP:=hid (Prg.okB_V h7);have l5:=HP.len;have q7:=hid h7;clear h7;go_enter func85,ntmps85;go_wp2_with fail;refine r_ (iT q7 lo hi _ _ (HV.ext hh x0) (aQ5 hh x0.size) z4 hnl hgl) fun w1 x1=>?_;have X1:=x0.trans x1;have x5:=bB.ext x1;have q:=x5.lt;obtain ⟨q0,q1⟩:=x5.q2;clear x0 x1 bB;go_wp2_with fail;refine (aF0 lo hi _ p _ (HV.ext hh X1) (aQ5 hh X1.size) HP hgl).mono ?_;rintro e w2 ⟨⟨i,rfl,hi2⟩,x2⟩;have X2:=X1.trans x2;have x6:=x5.ext x2;have HI:=hid hi2;clear x2 x5 X1 q q0 q1 hi2
 by_cases z1:0<=i
 ·have HC:Hid (p.chkB=false):=hid (by
   have:=HI.out;rw [decide_eq_true z1] at this;unfold Prg.chkB
   have e:(aRl p.ns.length).all p.nameB=false:=by revert this;cases (aRl p.ns.length).all p.nameB <;> simp
   rw [e];simp)
  go_wp2;refine bodyPost_ret (v:=.tuple #[.int .i64 2,i]) (by simp [results,results85,go_sem]) rfl ⟨⟨_,_,rfl,by rw [HC];rfl⟩,X2⟩
 have z9:Hid ((aRl p.ns.length).all p.nameB=true):=hid (by
  have:=HI.out;rw [decide_eq_false z1] at this
  revert this;cases (aRl p.ns.length).all p.nameB <;> simp)
 clear HI;have q:=x6.lt;obtain ⟨q0,q1⟩:=x6.q2;have z3:=hid x6;have z5:=hid X2;clear x6 X2;go_wp2
 go_loopw [20] (fun i wr=>∃k:Nat,k<=p.ns.length/\i = .int .i64 k/\(∀j,j<k->p.arB j=true)/\Bx wr w.heap.size #[.slice a1 p.ns.length c1,.slice a2 p.gs.length c2] 119/\Ext w wr) (fun i _=>p.ns.length - (intOf i).toNat)
 case atStart=>exact ⟨0,by omega,rfl,fun j h=>by omega,z3,z5⟩
 case round=>
  clear z3 z5 q q0 q1 z1;obtain ⟨k,hk,rfl,h0,hB,hx⟩:=hrel;have HA:=hid h0;have HX:=hid hx;have HB:=hid hB
  by_cases h6:k<p.ns.length
  ·obtain ⟨b,y6,op,s,num,sa,sc,ra,rfl,y4,y5,h1,io,y8,hI,HI,y0,y1,y2,y3⟩:=HN.atW h6 hx hh
   have y9:=HI.le;have a0:=HI.cap;have q0:Ext wr (wr.alloc (.cells #[op,.string s,num,.slice sa ra.length sc] 197)):=X_;have h3:=hid (Prg.arB_at h1);have h5:=hid (hx.trans q0);have q3:=hid (hB.ext q0);clear h1 h0 hB hx hI HX HB
   by_cases o8:op=8
   ·subst o8
    obtain ⟨z,hz⟩:=e_ (cA s)
    have HZ:=hid hz;have q6:Hid (p.arB k=decide (z=ra.length)):=hid (by rw [h3,hz];rfl);clear h3 hz;go_wp2_with fail;refine aA [([0,1,2,3,4,5,7,8,9],6),([10],11)] 99 (wr.heap.size+1) (by kernel_rfl) (by kernel_rfl) ?_;refine st_ fun K hK=>?_;go_wp2_with fail;refine z_ (mM HZ _) ?_
    by_cases h9:z=ra.length
    ·have h2:=hid (q6.trans (decide_eq_true h9))
     have e2:(z != (ra.length:Int))=false:=by simp [h9]
     clear q6 h9;go_wp2_with fail;refine k_ hK ?_;clear hK K;refine st_ fun K hK=>?_;go_wp2_with fail;go_wp2_with fail;refine k_ hK ?_;clear hK K;refine aC ?_;go_wp2;go_roundw
     case rel=>
      refine ⟨k+1,by omega,by go_num,fun i hi=>?_,q3.ext ((aQ6 _).drew),h5.drew⟩
      by_cases e:i=k
      ·subst e;exact h2
      ·exact HA i (by omega)
     case measure=>simp [intOf];omega
    ·have h2:=hid (q6.trans (decide_eq_false h9))
     have e2:(z != (ra.length:Int))=true:=by simp [h9]
     clear q6 h9;go_wp2_with fail;refine k_ hK ?_;clear hK K;refine st_ fun K hK=>?_;go_wp2_with fail;go_wp2_with fail;refine k_ hK ?_;clear hK K;refine aC ?_;go_wp2
     have HC:p.chkB=false:=by unfold Prg.chkB;rw [fK (p:=p.arB) h6 h2.out];simp
     refine bodyPost_ret (v:=.tuple #[.int .i64 3,k]) (by simp [results,results85,go_sem]) rfl ⟨⟨_,_,rfl,by rw [HC];rfl⟩,h5.drew⟩
   ·have e8:(op==8)=false:=beq_eq_false_iff_ne.2 o8
    have h2:Hid (p.arB k=true):=hid (by rw [h3,if_neg o8]);clear h3;go_wp2_with fail;refine aA [([0,1,2,3,4,5,7,8,9],6),([10],11)] 99 (wr.heap.size+1) (by kernel_rfl) (by kernel_rfl) ?_;refine st_ fun K hK=>?_;go_wp2_with fail;go_wp2_with fail;refine k_ hK ?_;clear hK K;refine st_ fun K hK=>?_;go_wp2_with fail;go_wp2_with fail;refine k_ hK ?_;clear hK K;refine aC ?_;go_wp2;go_roundw
    case rel=>
     refine ⟨k+1,by omega,by go_num,fun i hi=>?_,q3.ext ((aQ6 _).drew),h5.drew⟩
     by_cases e:i=k
     ·subst e;exact h2
     ·exact HA i (by omega)
    case measure=>simp [intOf];omega
  ·obtain rfl:k=p.ns.length:=by omega
   have q:=hB.lt;obtain ⟨q0,q1⟩:=hB.q2;clear h0 hB hx;go_wp2
   go_loopw [42] (fun i wr=>∃k:Nat,k<=p.gs.length/\i = .int .i64 k/\(∀j,j<k->p.asB j=true)/\Bx wr w.heap.size #[.slice a1 p.ns.length c1,.slice a2 p.gs.length c2] 119/\Ext w wr) (fun i _=>p.gs.length - (intOf i).toNat)
   case atStart=>exact ⟨0,by omega,rfl,fun j h=>by omega,HB,HX⟩
   case round=>
    clear HB HX q q0 q1;obtain ⟨k,hk,rfl,h0,hB,hx⟩:=hrel;have z2:=hid h0;have HX:=hid hx;have HB:=hid hB
    by_cases h6:k<p.gs.length
    ·obtain ⟨b,y6,s,rt,rfl,y4,y5,q5,h1,ir,y0,y1⟩:=HG.at h6 hx hh
     have q0:Ext wr (wr.alloc (.cells #[.string s,rt] 200)):=X_;have bQ:=Bx.made wr #[.string s,rt] 200
     obtain ⟨bv,z0⟩:=e_ (cT s)
     have z8:=hid z0;have h3:Hid (p.asB k=(!bv && !(nI p.gs k s.toList))):=hid (by rw [Prg.asB_at h1,z0]);have h5:=hid (hx.trans q0);have q3:=hid (hB.ext q0);clear q5 h1 h0 hB hx HX HB z0;go_wp2_with fail;refine r_ (dL z8 _) fun w3 x3=>?_;have q4:=hid (h5.trans x3);have x7:=q3.ext x3;have z6:=hid x7;have x9:=bQ.ext x3;have r:=x7.lt;obtain ⟨r0,r1⟩:=x7.q2;have d:=x9.lt;obtain ⟨d0,d1⟩:=x9.q2;clear x7 x9 x3 h5 q3 bQ q0
     cases bv
     case true=>
      go_wp2
      have HC:p.chkB=false:=by unfold Prg.chkB;rw [fK (p:=p.asB) h6 (by rw [h3];rfl)];simp
      refine bodyPost_ret (v:=.tuple #[.int .i64 4,k]) (by simp [results,results85,go_sem]) rfl ⟨⟨_,_,rfl,by rw [HC];rfl⟩,q4⟩
     obtain ⟨z,hz⟩:=e_ (fB p.gs k s.toList p.gs.length)
     have h4:=qW p.gs k s.toList;rw [hz] at h4;have HZ:=hid hz;have q9:=hid h4;clear hz h4;go_wp2_with fail;refine r_ (lB HZ lo hi _ p _ rfl (HV.ext hh q4) (aQ5 hh q4.size) hgl) fun w4 x4=>?_
     by_cases h8:0<=z
     ·have h2:Hid (p.asB k=false):=hid (by rw [h3,<-q9,decide_eq_true h8];rfl)
      go_wp2
      have HC:p.chkB=false:=by unfold Prg.chkB;rw [fK (p:=p.asB) h6 h2.out];simp
      refine bodyPost_ret (v:=.tuple #[.int .i64 4,k]) (by simp [results,results85,go_sem]) rfl ⟨⟨_,_,rfl,by rw [HC];rfl⟩,q4.trans x4⟩
     ·have h2:Hid (p.asB k=true):=hid (by rw [h3,<-q9,decide_eq_false h8];rfl)
      have q8:=hid (q4.trans x4);have z7:=hid (z6.ext x4);clear x4;go_wp2;go_roundw
      case rel=>
       refine ⟨k+1,by omega,by go_num,fun i hi=>?_,z7,q8⟩
       by_cases e:i=k
       ·subst e;exact h2
       ·exact z2 i (by omega)
      case measure=>simp [intOf];omega
    ·obtain rfl:k=p.gs.length:=by omega
     have q:=hB.lt;obtain ⟨q0,q1⟩:=hB.q2
     obtain ⟨z,hz⟩:=e_ (fB p.gs (p.gs.length:Nat) [99,111,108,111,114] p.gs.length)
     have h4:=qW p.gs p.gs.length [99,111,108,111,114];rw [hz] at h4;have HZ:=hid hz;have q9:=hid h4;have zx:=hx.size;clear hz h4 h0 hB hx;go_wp2_with fail;refine r_ (lB (z:=z) (t:=p.gs.length) (s:=⟨#[99,111,108,111,114]⟩) (by rw [aMg];exact HZ) lo hi _ p _ rfl (HV.ext hh HX) (by omega) hgl) fun w4 x4=>?_;have q8:=hid (HX.trans x4);clear x4;have HC:Hid (p.chkB=decide (0<=z)):=hid (by unfold Prg.chkB Prg.colB;rw [q7,z9,gE HA,gE z2,q9];rfl)
     by_cases h8:0<=z
     ·have x8:=hid (HC.trans (decide_eq_true h8))
      clear HC;go_wp2;refine bodyPost_ret (v:=.tuple #[(),()]) (by simp [results,results85,go_sem]) rfl ⟨⟨_,_,rfl,x8.symm⟩,q8⟩
     ·have x8:=hid (HC.trans (decide_eq_false h8))
      have y7:z<0:=by omega
      clear HC h8;go_wp2;refine bodyPost_ret (v:=.tuple #[.int .i64 5,()]) (by simp [results,results85,go_sem]) rfl ⟨⟨_,_,rfl,x8.symm⟩,q8⟩
section
open Go.RowKit Go.Maps Go.WideMaps
@[go_sem] theorem aQd (x:Value) (w:World):(aXx 266 x).run aQ2 w = .ok (.iface 266 x) w:=run_makeInterface w 266 x (by kernel_rfl)
@[go_sem] theorem aP5 (x:Value) (w:World):(aXx 268 x).run aQ2 w = .ok (.iface 268 x) w:=run_makeInterface w 268 x (by kernel_rfl)
@[go_sem] theorem aPn (x:Value) (w:World):(aXx 290 x).run aQ2 w = .ok (.iface 290 x) w:=run_makeInterface w 290 x (by kernel_rfl)
def gC (op:Int) (x:Value):Value:=.iface (if op=2 then 266 else if op=8 then 268 else 290) x
theorem fP (op:Int) (s:ByteArray) (num:Int) (u:Value) (w:World):R_ 199 #[.agg #[op,.string s,num,u]] w (gC op (.agg #[op,.string s,num,u])):=by
 rcases (show op=2\/op=8\/(op≠2/\op≠8) by omega) with rfl|rfl|⟨o2,o8⟩
 ·go_enter func199,ntmps199
  go_wp2;go_ret;exact ⟨rfl,X_⟩
 ·go_enter func199,ntmps199
  go_wp2;go_ret;exact ⟨rfl,X_⟩
 ·have e2:(op==2)=false:=beq_eq_false_iff_ne.2 o2
  have e8:(op==8)=false:=beq_eq_false_iff_ne.2 o8;go_enter func199,ntmps199;go_wp2;go_ret;exact ⟨by unfold gC;rw [if_neg o2,if_neg o8];rfl,X_⟩
theorem aNs (v:Value) (w:World):(aVe (.iface 266 v) 252 266 true).run aQ2 w = .ok (.tuple #[v,.bool true]) w:=by kernel_rfl
theorem aNt (v:Value) (w:World):(aVe (.iface 268 v) 252 266 true).run aQ2 w = .ok (.tuple #[.agg #[(),.string ⟨#[]⟩,(),.slice none 0 0],.bool false]) w:=by kernel_rfl
theorem aKn (v:Value) (w:World):(aVe (.iface 268 v) 252 268 true).run aQ2 w = .ok (.tuple #[v,.bool true]) w:=by kernel_rfl
theorem aO7 (v:Value) (w:World):(aVe (.iface 266 v) 252 268 true).run aQ2 w = .ok (.tuple #[.agg #[(),.string ⟨#[]⟩,(),.slice none 0 0],.bool false]) w:=by kernel_rfl
theorem aNu (v:Value) (w:World):(aVe (.iface 290 v) 252 266 true).run aQ2 w = .ok (.tuple #[.agg #[(),.string ⟨#[]⟩,(),.slice none 0 0],.bool false]) w:=by kernel_rfl
theorem aKo (v:Value) (w:World):(aVe (.iface 290 v) 252 268 true).run aQ2 w = .ok (.tuple #[.agg #[(),.string ⟨#[]⟩,(),.slice none 0 0],.bool false]) w:=by kernel_rfl
theorem cX {s:ByteArray} {b:Bool} (h:cT s=b) (w:World):Z_ 201 #[.string s] w (.bool b):=h▸iP s w
def mS (gs:List Asg) (op:Int) (s:ByteArray) (o:Nat):Bool:=if op=2 then cT s||nI gs o s.toList else if op=8 then decide (0<=cA s) else true
theorem aF1 (gs:List Asg) (op:Int) (s:ByteArray) (num:Int) (sa:Option Addr) (sn sc o b:Nat) (w:World) (hM:FM w b gs gs.length) (hs:s.size<=maxLen) (ho:o<=10000000) (hgl:gs.length<=1048576) :
  R_ 198 #[gC op (.agg #[op,.string s,num,.slice sa sn sc]),o,.map (some b)] w (.bool (mS gs op s o)):=by
 rcases (show op=2\/op=8\/(op≠2/\op≠8) by omega) with rfl|rfl|⟨o2,o8⟩
 ·have h0:=aNs (.agg #[.int .i64 2,.string s,num,.slice sa sn sc])
  obtain ⟨bv,h2⟩:=e_ (cT s)
  have h3:=hid h2
  obtain ⟨r,hr⟩:=e_ (eM gs gs.length s.toList)
  have HR:=hid hr
  have e1:Hid (mS gs 2 s o=(bv||r.elim false fun i=>decide (i<o))):=hid (by
   unfold mS;rw [if_pos rfl,h2]
   cases r with
   | none=>rw [vH hr];rfl
   | some i=>rw [vG hr];rfl)
  have HM:=hid hM;clear h2 hr hM;unfold gC;rw [if_pos rfl]
  cases r with
  | none=>
   go_enter func198,ntmps198;go_wp2_with (first|(at_lookup;refine dO _ rfl _ _ rfl _ _ _ rfl (HM.ext X_) _ hs rfl _ HR ?_)|(go_at_call 201;refine z_ (cX h3 _) ?_))
   all_goals (go_ret;exact ⟨aL (by rw [e1.out];first|rfl|simp_all),X_⟩)
  | some i=>
   have HI:Hid (i<=1048576):=hid (by have:=(eX HR).1;omega);have hi:=HI.out;go_enter func198,ntmps198;go_wp2_with (first|(at_lookup;refine dO _ rfl _ _ rfl _ _ _ rfl (HM.ext X_) _ hs rfl _ HR ?_)|(go_at_call 201;refine z_ (cX h3 _) ?_))
   all_goals (go_ret;exact ⟨aL (by rw [e1.out];first|rfl|simp_all),X_⟩)
 ·have h0:=aNt (.agg #[.int .i64 8,.string s,num,.slice sa sn sc])
  have h1:=aKn (.agg #[.int .i64 8,.string s,num,.slice sa sn sc])
  obtain ⟨z,hz⟩:=e_ (cA s)
  have HZ:=hid hz;have e1:Hid (mS gs 8 s o=decide (0<=z)):=hid (by unfold mS;rw [if_neg (by decide),if_pos rfl,hz]);clear hz;unfold gC;rw [if_neg (by decide),if_pos rfl];go_enter func198,ntmps198;go_wp2_with (go_at_call 242;refine z_ (qJ HZ _) ?_)
  all_goals (go_ret;exact ⟨aL (by rw [e1.out]),X_⟩)
 ·have h0:=aNu (.agg #[op,.string s,num,.slice sa sn sc])
  have h1:=aKo (.agg #[op,.string s,num,.slice sa sn sc]);have e1:Hid (mS gs op s o=true):=hid (by unfold mS;rw [if_neg o2,if_neg o8]);unfold gC;rw [if_neg o2,if_neg o8];go_enter func198,ntmps198;go_wp2
  all_goals (go_ret;exact ⟨aL (by rw [e1.out]),X_⟩)
def aF2 (op:Int) (s:ByteArray) (n:Nat):Bool:=if op=8 then decide (cA s=n) else true
theorem aB4 (op:Int) (s:ByteArray) (num:Int) (sa:Option Addr) (sn sc:Nat) (w:World) :
  R_ 200 #[gC op (.agg #[op,.string s,num,.slice sa sn sc])] w (.bool (aF2 op s sn)):=by
 rcases (show op=2\/op=8\/(op≠2/\op≠8) by omega) with rfl|rfl|⟨o2,o8⟩
 ·have h0:=aO7 (.agg #[.int .i64 2,.string s,num,.slice sa sn sc])
  unfold gC;rw [if_pos rfl];go_enter func200,ntmps200;go_wp2_with fail;refine aA [([0,1,2,3,4,5,6,7,8,9],10),([11,12],13)] 99 (w.heap.size+1) (by kernel_rfl) (by kernel_rfl) ?_;refine st_ fun K hK=>?_;go_wp2_with fail;go_wp2_with fail;refine k_ hK ?_;clear hK K;refine st_ fun K hK=>?_;go_wp2_with fail;go_wp2_with fail;refine k_ hK ?_;clear hK K;refine aC ?_;go_wp2;go_ret;exact ⟨rfl,X_⟩
 ·have h0:=aKn (.agg #[.int .i64 8,.string s,num,.slice sa sn sc])
  obtain ⟨z,hz⟩:=e_ (cA s)
  have HZ:=hid hz;have e1:Hid (aF2 8 s sn=decide (z=sn)):=hid (by unfold aF2;rw [if_pos rfl,hz]);clear hz;unfold gC;rw [if_neg (by decide),if_pos rfl];go_enter func200,ntmps200;go_wp2_with fail;refine aA [([0,1,2,3,4,5,6,7,8,9],10),([11,12],13)] 99 (w.heap.size+1) (by kernel_rfl) (by kernel_rfl) ?_;refine st_ fun K hK=>?_;go_wp2_with fail;refine z_ (qJ HZ _) ?_;go_wp2_with fail;refine k_ hK ?_;clear hK K;refine st_ fun K hK=>?_;go_wp2_with fail;go_wp2_with fail;refine k_ hK ?_;clear hK K;refine aC ?_;go_wp2;go_ret;exact ⟨aL (by rw [e1.out,aVs];simp;omega),X_⟩
 ·have h0:=aKo (.agg #[op,.string s,num,.slice sa sn sc])
  have e1:Hid (aF2 op s sn=true):=hid (by unfold aF2;rw [if_neg o8]);unfold gC;rw [if_neg o2,if_neg o8];go_enter func200,ntmps200;go_wp2_with fail;refine aA [([0,1,2,3,4,5,6,7,8,9],10),([11,12],13)] 99 (w.heap.size+1) (by kernel_rfl) (by kernel_rfl) ?_;refine st_ fun K hK=>?_;go_wp2_with fail;go_wp2_with fail;refine k_ hK ?_;clear hK K;refine st_ fun K hK=>?_;go_wp2_with fail;go_wp2_with fail;refine k_ hK ?_;clear hK K;refine aC ?_;go_wp2;go_ret;exact ⟨by rw [e1.out];rfl,X_⟩
end
section
open Go.RowKit Go.Maps Go.WideMaps
theorem iU {p:Prg} {b:Bool} (h:p.okB=b) (lo hi:Nat) (v:Value) (w:World) (hv:p.R lo hi w v) (hh:hi<=w.heap.size) (hb:p.bd) (hgl:p.gs.length<=1048576) :
  R_ 196 #[v] w (.bool b):=h▸pK lo hi v p w hv hh hb hgl
theorem aF3 {gs:List Asg} {op:Int} {s:ByteArray} {o:Nat} {r:Bool} (h:mS gs op s o=r) (num:Int) (sa:Option Addr) (sn sc b:Nat) (w:World) (hM:FM w b gs gs.length) (hs:s.size<=maxLen) (ho:o<=10000000) (hgl:gs.length<=1048576) :
  R_ 198 #[gC op (.agg #[op,.string s,num,.slice sa sn sc]),o,.map (some b)] w (.bool r):=h▸aF1 gs op s num sa sn sc o b w hM hs ho hgl
theorem aB5 {op:Int} {s:ByteArray} {sn:Nat} {r:Bool} (h:aF2 op s sn=r) (num:Int) (sa:Option Addr) (sc:Nat) (w:World) :
  R_ 200 #[gC op (.agg #[op,.string s,num,.slice sa sn sc])] w (.bool r):=h▸aB4 op s num sa sn sc w
theorem uJ {op:Int} {s:ByteArray} {num:Int} {u E:Value} (h:gC op (.agg #[op,.string s,num,u])=E) (w:World):R_ 199 #[.agg #[op,.string s,num,u]] w E:=h▸fP op s num u w
theorem FM.look {w:World} {b k:Nat} {gs:List Asg} (h:FM w b gs k) {s:ByteArray} (hs:s.size<=maxLen) {t:Nat} (hr:eM gs k s.toList=some t) :
  (Instr.lookup 217 (.map (some b)) (.string s) false).run aQ2 w = .ok (.int .i64 (t:Int)) w:=by
 obtain ⟨n,D,hn,h3,h6,h5⟩:=h;obtain ⟨h1,h2⟩:=h5 s hs;obtain ⟨c,h4,h0,h7⟩:=h3.lookup_int wR underlying217 underlying3 (aKm _) (aKl hs);rw [h2 t hr] at h0;simp only [DataW.lit.injEq,Lit.int.injEq,true_and] at h0;subst h0;exact h4
theorem aF4 (lo hi:Nat) (v:Value) (p:Prg) (w:World) (hv:p.R lo hi w v) (hh:hi<=w.heap.size) (hb:p.bd) (hgl:p.gs.length<=1048576) :
  Calls aQ2 144 #[v] w fun e w'=>(∃c k:Int,e = .returned (.tuple #[c,k])/\(c==0)=p.chkB)/\Ext w w':=by
 have HV:=hid hv;obtain ⟨a1,c1,a2,c2,rfl,HN,HG⟩:=hv.form;have l1:=HN.le;have l2:=HN.cap;have l3:=HG.le;have l4:=HG.cap;have q3:=hid hb;clear hv hb;have x0:Ext w (w.alloc (.cells #[.slice a1 p.ns.length c1,.slice a2 p.gs.length c2] 119)):=X_;have bB:=Bx.made w #[.slice a1 p.ns.length c1,.slice a2 p.gs.length c2] 119
 cases h9:p.okB
 ·have q7:=hid h9
  have HC:Hid (p.chkB=false):=hid (by unfold Prg.chkB;rw [h9];rfl);clear h9;go_enter func144,ntmps144;go_wp2_with fail;refine r_ (iU q7 lo hi _ _ (HV.ext hh x0) (aQ5 hh x0.size) q3 hgl) fun w1 x1=>?_;have X1:=x0.trans x1;go_wp2;refine bodyPost_ret (v:=.tuple #[.int .i64 1,()]) (by simp [results,results144,go_sem]) rfl ⟨⟨_,_,rfl,by rw [HC];rfl⟩,X1⟩
 have HP:=hid (Prg.okB_V h9);have l5:=HP.len;have q7:=hid h9;clear h9;go_enter func144,ntmps144;go_wp2_with fail;refine r_ (iU q7 lo hi _ _ (HV.ext hh x0) (aQ5 hh x0.size) q3 hgl) fun w1 x1=>?_;have X1:=x0.trans x1;have q8:=bB.ext x1;have q:=q8.lt;obtain ⟨q0,q1⟩:=q8.q2;clear x0 x1 bB;go_wp2_with fail;refine aA [([0,2],1),([],3),([4],5)] 99 w1.heap.size (by kernel_rfl) (by kernel_rfl) ?_;refine st_ fun K hK=>?_;go_wp2_with fail;refine (qB lo hi _ p _ ((HV.ext hh X1).ext (aQ5 hh X1.size) X_) (by have:=X1.size;simp;omega) q3 hgl).mono ?_;rintro e w2 ⟨⟨mb,rfl,hmb,hM⟩,x2⟩;have y2:Ext w1 w2:=aQ3 X_ x2;have z2:=y2.size;go_wp2_with fail;refine hK _ _ (.inr (fun k _ hk=>y2.block (by first|omega|(simp;omega)))) ?_;clear hK K;refine st_ fun K hK=>?_;go_wp2_with fail;refine (aDs lo hi _ p _ ((HV.ext hh X1).ext (aQ5 hh X1.size) y2) (by have:=X1.size;omega) HP hgl).mono ?_;rintro e w3 ⟨⟨oa,oc,rfl,hO⟩,x3⟩;have y3:=y2.trans x3;have z9:=hM.ext x3;go_wp2_with fail;refine hK _ _ (.inr (fun k _ hk=>y3.block (by first|omega|(simp;omega)))) ?_;clear hK K;refine st_ fun K hK=>?_;go_wp2_with fail;go_wp2_with fail;refine hK _ _ (.inr (fun k _ hk=>y3.block (by first|omega|(simp;omega)))) ?_;clear hK K;refine aC ?_;have hI:=hO.ints;obtain ⟨b5,b6,e1,HO⟩:=hI.open;rw [Prg.ownL_len] at e1;simp only [aRo,true_and] at e1;obtain ⟨rfl,rfl⟩:=e1;have a8:=HO.le;have b4:=HO.cap;rw [Prg.ownL_len] at a8;have q9:=q8.ext y3;have z7:=hid q9;have h8:=hid (X1.trans y3);have z1:=hid z9;clear x2 x3 y2 y3 hM z9 q8 hO hI X1 q q0 q1 z2;have q:=q9.lt;obtain ⟨q0,q1⟩:=q9.q2;clear q9;go_wp2
 go_loopw [24] (fun i wr=>∃k:Nat,k<=p.ns.length/\i = .int .i64 k/\(∀j,j<k->p.nameB j=true)/\Bx wr w.heap.size #[.slice a1 p.ns.length c1,.slice a2 p.gs.length c2] 119/\Ext w wr/\Ext w3 wr) (fun i _=>p.ns.length - (intOf i).toNat)
 case atStart=>exact ⟨0,by omega,rfl,fun j h=>by omega,z7,h8,aQ6 _⟩
 case round=>
  clear z7 h8 q q0 q1;obtain ⟨k,hk,rfl,h0,hB,hx,h2⟩:=hrel;have HA:=hid h0;have HX:=hid hx;have h5:=hid h2;have HB:=hid hB
  by_cases h3:k<p.ns.length
  ·obtain ⟨b,y9,op,s,num,sa,sc,ra,rfl,y4,y5,h1,io,a5,hI,HI,y0,y1,y2,y3⟩:=HN.atW h3 hx hh
   have a6:=HI.le;have a7:=HI.cap;obtain ⟨ob,oo,oy,rfl,b0,y7,_,b1⟩:=HO.atE (k:=k) (by rw [Prg.ownL_len];exact h3) h2 (aQv _);have e9:=aHr y7;subst e9;have x6:=hid (q3.1 _ (aRn h1));have q0:Ext wr (wr.alloc (.cells #[op,.string s,num,.slice sa ra.length sc] 197)):=X_;have b2:=((HP.own_is h3).lt HP).2
   obtain ⟨E,hE⟩:=e_ (gC op (.agg #[op,.string s,num,.slice sa ra.length sc]))
   obtain ⟨bk,h6⟩:=e_ (mS p.gs op s (p.own k))
   have HE:=hid hE;have x8:=hid h6;have h4:Hid (p.nameB k=bk):=hid (by rw [Prg.nameB_at h1,<-h6];rfl)
   have a3:ob<=wr.heap.size:=by omega
   have a4:ob<wr.heap.size+1:=by omega
   have a9:=hid (hx.size);clear h1 h0 hB hx h2 hI y7 hE h6;go_wp2_with fail;refine aA [([0,2,3,4,5,6],1),([],7),([],8)] 99 (wr.heap.size+1) (by kernel_rfl) (by kernel_rfl) ?_;refine st_ fun K hK=>?_;go_wp2_with fail;refine r_ (uJ HE _) fun w4 x4=>?_;have X4:Ext (wr.alloc (.cells #[op,.string s,num,.slice sa ra.length sc] 197)) w4:=aQ3 X_ x4;go_wp2_with fail;refine hK _ _ (.inr (fun k _ hk=>X4.block (by first|omega|(simp;omega)))) ?_;clear hK K;refine st_ fun K hK=>?_;go_wp2_with fail;have h7:=aF3 x8 num sa ra.length sc mb w4 ((z1.ext h5).ext (q0.trans X4)) x6.out (by omega) hgl;rw [HE] at h7;refine h7.mono ?_;clear h7;rintro e w5 ⟨rfl,x5⟩;have X5:=X4.trans x5;go_wp2_with fail;refine hK _ _ (.inr (fun k _ hk=>X5.block (by first|omega|(simp;omega)))) ?_;clear hK K;refine st_ fun K hK=>?_;go_wp2_with fail;go_wp2_with fail;refine hK _ _ (.inr (fun k _ hk=>X5.block (by first|omega|(simp;omega)))) ?_;clear hK K;refine aC ?_;have q4:=hid ((HX.trans q0).trans X5);have z3:=hid ((h5.trans q0).trans X5);have x7:=hid ((HB.ext q0).ext X5);clear x4 X4 x5 X5
   cases bk
   ·go_wp2
    have HC:p.chkB=false:=by unfold Prg.chkB;rw [fK (p:=p.nameB) h3 h4.out];simp
    refine bodyPost_ret (v:=.tuple #[.int .i64 2,k]) (by simp [results,results144,go_sem]) rfl ⟨⟨_,_,rfl,by rw [HC];rfl⟩,q4⟩
   ·go_wp2
    go_roundw
    case rel=>
     refine ⟨k+1,by omega,by go_num,fun i hi=>?_,x7,q4,z3⟩
     by_cases e:i=k
     ·subst e;exact h4
     ·exact HA i (by omega)
    case measure=>simp [intOf];omega
  ·obtain rfl:k=p.ns.length:=by omega
   have q:=hB.lt;obtain ⟨q0,q1⟩:=hB.q2;clear h0 hB hx h2;go_wp2
   go_loopw [43] (fun i wr=>∃k:Nat,k<=p.ns.length/\i = .int .i64 k/\(∀j,j<k->p.arB j=true)/\Bx wr w.heap.size #[.slice a1 p.ns.length c1,.slice a2 p.gs.length c2] 119/\Ext w wr/\Ext w3 wr) (fun i _=>p.ns.length - (intOf i).toNat)
   case atStart=>exact ⟨0,by omega,rfl,fun j h=>by omega,HB,HX,h5⟩
   case round=>
    clear HB HX h5 q q0 q1;obtain ⟨k,hk,rfl,h0,hB,hx,h2⟩:=hrel;have z5:=hid h0;have HX:=hid hx;have h5:=hid h2;have HB:=hid hB
    by_cases h3:k<p.ns.length
    ·obtain ⟨b,y9,op,s,num,sa,sc,ra,rfl,y4,y5,h1,io,a5,hI,HI,y0,y1,y2,y3⟩:=HN.atW h3 hx hh
     have a6:=HI.le;have a7:=HI.cap;have q0:Ext wr (wr.alloc (.cells #[op,.string s,num,.slice sa ra.length sc] 197)):=X_
     obtain ⟨E,hE⟩:=e_ (gC op (.agg #[op,.string s,num,.slice sa ra.length sc]))
     obtain ⟨bk,h6⟩:=e_ (aF2 op s ra.length)
     have HE:=hid hE;have x8:=hid h6;have h4:Hid (p.arB k=bk):=hid (by rw [Prg.arB_at h1,<-h6];rfl);clear h1 h0 hB hx h2 hI hE h6;go_wp2_with fail;refine r_ (uJ HE _) fun w4 x4=>?_;go_wp2_with fail;have h7:=aB5 x8 num sa sc w4;rw [HE] at h7;refine h7.mono ?_;clear h7;rintro e w5 ⟨rfl,x5⟩;have X5:=x4.trans x5;have q4:=hid ((HX.trans q0).trans X5);have z3:=hid ((h5.trans q0).trans X5);have x7:=hid ((HB.ext q0).ext X5);clear x4 x5 X5
     cases bk
     ·go_wp2
      have HC:p.chkB=false:=by unfold Prg.chkB;rw [fK (p:=p.arB) h3 h4.out];simp
      refine bodyPost_ret (v:=.tuple #[.int .i64 3,k]) (by simp [results,results144,go_sem]) rfl ⟨⟨_,_,rfl,by rw [HC];rfl⟩,q4⟩
     ·go_wp2
      go_roundw
      case rel=>
       refine ⟨k+1,by omega,by go_num,fun i hi=>?_,x7,q4,z3⟩
       by_cases e:i=k
       ·subst e;exact h4
       ·exact z5 i (by omega)
      case measure=>simp [intOf];omega
    ·obtain rfl:k=p.ns.length:=by omega
     have q:=hB.lt;obtain ⟨q0,q1⟩:=hB.q2;clear h0 hB hx h2;go_wp2
     go_loopw [57] (fun i wr=>∃k:Nat,k<=p.gs.length/\i = .int .i64 k/\(∀j,j<k->p.asB j=true)/\Ext w wr/\Ext w3 wr) (fun i _=>p.gs.length - (intOf i).toNat)
     case atStart=>exact ⟨0,by omega,rfl,fun j h=>by omega,HX,h5⟩
     case round=>
      clear HB HX h5 q q0 q1;obtain ⟨k,hk,rfl,h0,hx,h2⟩:=hrel;have z6:=hid h0;have HX:=hid hx;have h5:=hid h2
      by_cases h3:k<p.gs.length
      ·obtain ⟨b,y9,s,rt,rfl,y4,y5,q5,h1,ir,y0,y1⟩:=HG.at h3 hx hh
       have q0:Ext wr (wr.alloc (.cells #[.string s,rt] 200)):=X_;have x6:=q3.2 _ (aRn h1);simp only at x6
       obtain ⟨bv,z4⟩:=e_ (cT s)
       have x9:=hid z4
       obtain ⟨t,ht⟩:∃t,eM p.gs p.gs.length s.toList=some t:=by
        cases e:eM p.gs p.gs.length s.toList with
        | some t=>exact ⟨t,rfl⟩
        | none=>
         have:=aAp e;rw [jG.2 ⟨k,_,h3,h1,rfl⟩] at this;cases this
       have HT:=hid ht
       have b3:t<=1048576:=by have:=(eX ht).1;omega
       have h4:Hid (p.asB k=(!bv && !(decide (t<k)))):=hid (by rw [Prg.asB_at h1,z4,vG ht]);have h8:=hid (hx.trans q0);have a0:=hid (h2.trans q0);have y6:=((z1.ext h2).ext q0).look x6 ht;clear q5 h1 h0 hx h2 HX h5 z4 ht
       have e0:decide (t<k)=true\/decide (t<k)=false:=by cases decide (t<k) <;> simp
       have q6:p.asB k=false->p.chkB=false:=fun h=>by unfold Prg.chkB;rw [fK (p:=p.asB) h3 h];simp
       have HF:=hid q6;clear q6
       by_cases y8:t<k
       ·have HD:=hid (h4.trans (by rw [decide_eq_true y8];simp:_=false))
        clear h4 e0
        cases bv
        all_goals
         go_wp2_with (go_at_call 201;refine z_ (cX x9 _) ?_);refine bodyPost_ret (v:=.tuple #[.int .i64 4,k]) (by simp [results,results144,go_sem]) rfl ⟨⟨_,_,rfl,by rw [HF HD];rfl⟩,h8⟩
       ·have HD:=hid (h4.trans (by rw [decide_eq_false y8];simp:_ = !bv))
        clear h4 e0
        cases bv
        ·go_wp2_with (go_at_call 201;refine z_ (cX x9 _) ?_)
         go_roundw
         case rel=>
          refine ⟨k+1,by omega,by go_num,fun i hi=>?_,h8,a0⟩
          by_cases e:i=k
          ·subst e;exact HD
          ·exact z6 i (by omega)
         case measure=>simp [intOf];omega
        ·go_wp2_with (go_at_call 201;refine z_ (cX x9 _) ?_)
         refine bodyPost_ret (v:=.tuple #[.int .i64 4,k]) (by simp [results,results144,go_sem]) rfl ⟨⟨_,_,rfl,by rw [HF HD];rfl⟩,h8⟩
      ·obtain rfl:k=p.gs.length:=by omega
       have z8:=hid (z1.ext h2);clear h0 hx h2;have HC:Hid (p.chkB=nI p.gs p.gs.length [99,111,108,111,114]):=hid (by unfold Prg.chkB Prg.colB;rw [q7,gE HA,gE z5,gE z6];rfl)
       cases hc:eM p.gs p.gs.length [99,111,108,111,114] with
       | none=>
        have z0:=hid (HC.trans (vH hc));have HQ:=hid hc;clear HC hc;go_wp2_with (at_lookup;refine dO _ rfl _ _ rfl _ _ _ rfl z8 (⟨#[99,111,108,111,114]⟩:ByteArray) (by decide) rfl none (by rw [aMg];exact HQ) ?_);refine bodyPost_ret (v:=.tuple #[.int .i64 5,()]) (by simp [results,results144,go_sem]) rfl ⟨⟨_,_,rfl,z0.symm⟩,HX⟩
       | some t=>
        have z0:=hid (HC.trans ((vG hc).trans (decide_eq_true (eX hc).1)));have HQ:=hid hc;clear HC hc;go_wp2_with (at_lookup;refine dO _ rfl _ _ rfl _ _ _ rfl z8 (⟨#[99,111,108,111,114]⟩:ByteArray) (by decide) rfl (some t) (by rw [aMg];exact HQ) ?_);refine bodyPost_ret (v:=.tuple #[(),()]) (by simp [results,results144,go_sem]) rfl ⟨⟨_,_,rfl,z0.symm⟩,HX⟩
theorem tK {p:Prg} {b:Bool} (h:p.chkB=b) (lo hi:Nat) (v:Value) (w:World) (hv:p.R lo hi w v) (hh:hi<=w.heap.size) (hb:p.bd) (hgl:p.gs.length<=1048576) :
  R_ 94 #[v] w (.bool b):=by
 have HV:=hid hv;obtain ⟨a1,c1,a2,c2,rfl,HN,HG⟩:=hv.form;have x0:Ext w (w.alloc (.cells #[.slice a1 p.ns.length c1,.slice a2 p.gs.length c2] 119)):=X_;have HH:=hid h;clear hv HN HG h;go_enter func94,ntmps94;go_wp2_with fail;refine (aF4 lo hi _ p _ (HV.ext hh x0) (aQ5 hh x0.size) hb hgl).mono ?_;rintro e w1 ⟨⟨c,k,rfl,hc⟩,x1⟩;rw [HH] at hc;have X1:=x0.trans x1;go_wp2;go_ret;exact ⟨rfl,X1⟩
end
def cR (S:List (List Int)) (k:Nat):List Int:=S.map fun r=>r.getD k 0
theorem dD (S:List (List Int)) (k:Nat):(cR S k).length=S.length:=by simp [cR]
theorem mT (S:List (List Int)) (k j:Nat) (h:j<S.length):(cR S k).take j++[S[j].getD k 0]=(cR S k).take (j+1):=by
 rw [aRv (by rw [dD];exact h)];simp [cR]
def fG (m:Nat) (r:List Int):Prop:=r.length=m/\∀x∈r,S9 x
theorem rY {S:List (List Int)} (h:∀r∈S,fG m r) (hk:k<m):∀x∈cR S k,S9 x:=by
 intro x hx;obtain ⟨r,hr,rfl⟩:=aS3.1 hx;obtain ⟨h1,h2⟩:=h r hr;have e:r.getD k 0=r[k]'(by omega):=cP r k (by omega);exact e▸h2 _ (aRh _)
def Fun (F:Nat) (t:Tex) (ar:Nat) (fv:List Int->Int):Prop:=
 ∀(lo hi lo' hi':Nat) (u v:Value) (x:List Int) (w:World),x.length=ar->(∀y∈x,S9 y)->aU lo hi w u x->hi<=w.heap.size->cN lo' hi' w v t->hi'<=w.heap.size ->
  Calls aQ2 F #[v,u] w fun e w'=>e = .returned (.int .i64 (fv x))/\Ext w w'
structure wT (w:World) (B:Nat) (a b:Value):Prop where
 lt:B<w.heap.size
 c0:w.cell? ⟨B,0,none⟩=some a
 c1:w.cell? ⟨B,1,none⟩=some b
 f0:w.frozen? ⟨B,0,none⟩=false
 f1:w.frozen? ⟨B,1,none⟩=false
theorem wT.made (w:World) (a b:Value) (ty:TypeId):wT (w.alloc (.cells #[a,b] ty)) w.heap.size a b:=⟨by simp,by simp [go_sem],by simp [go_sem],by simp [go_sem],by simp [go_sem]⟩
theorem wT.ext {a b:Value} (h:wT w B a b) (e:Ext w w'):wT w' B a b:=by
 have:=e.size;have h0:=h.lt;obtain ⟨p,q⟩:=e.cells;exact ⟨by omega,(p B _ h0).trans h.c0,(p B _ h0).trans h.c1,(q B _ h0).trans h.f0,(q B _ h0).trans h.f1⟩
theorem wT.set2 {a b:Value} (h:wT w B a b) (x y:Value):hZ ((w.setCell ⟨B,0,none⟩ x).setCell ⟨B,1,none⟩ y) B x y:=by
 have h0:=h.lt;have h1:=h.c0;have h2:=h.c1;refine ⟨by simpa using h0,by simp [go_sem,h1],by simp [go_sem,h2]⟩
theorem aDx (F:Nat) (fv:List Int->Int) (i0:Nat) (s:ByteArray) (S:List (List Int)) (lo hi lo' hi':Nat) (n m:Nat) (pu tu av:Value) (tm:Int) (t:Tex) (w:World)
  (hdu:(s.toList==[100,117])=false) (hdv:(s.toList==[100,118])=false) (hlook:aTl .string (.string s) dK.toList 0=some (some (i0,.func (.func F) #[] #[])))
  (hE:∀xs w',(callFunc F xs).run aQ2 w' = .ok (.enter F xs) w') (hF:Fun F t S.length fv) (hS:SS lo hi w av S) (hh:hi<=w.heap.size) (hT:cN lo' hi' w (.agg #[t.log,tu]) t) (hh':hi'<=w.heap.size) (hg:∀r∈S,fG m r) (hm:(n:Int)*n=m) (hm2:m<=64) (hl:S.length<=3) :
  Calls aQ2 259 #[.string s,.agg #[n,pu,tm,t.log,tu],av] w fun e w'=>∃r,e = .returned r/\aB w.heap.size w' r ((aRl m).map fun k=>dS (fv (cR S k)))/\Ext w w':=by
 obtain ⟨a,cap,rfl,HS⟩:=hS.open;have l1:=HS.le;have l2:=HS.cap
 obtain ⟨ta,tc,rfl⟩:∃ta tc,tu = .slice ta t.px.length tc:=by
  obtain ⟨u,h1,_,h2⟩:=hT;obtain ⟨ta,tc,h3,_⟩:=h2.open;simp only [Value.agg.injEq,Array.mk.injEq,List.cons.injEq,true_and,and_true] at h1;exact ⟨ta,tc,h1.trans h3⟩
 have HT:=hid hT;have HG:=hid hg;have HF:=hid hF;clear hS hT hg hF;obtain ⟨j0,x2,x5,x6,x8⟩:=info_parts eK;go_enter func259,ntmps259
 have z7:w.heap.size+1=(w.alloc (.cells #[n,pu,tm,t.log,.slice ta t.px.length tc] 168)).heap.size:=by simp
 have q6:Ext w (w.alloc (.cells #[n,pu,tm,t.log,.slice ta t.px.length tc] 168)):=X_
 have q4:(w.alloc (.cells #[n,pu,tm,t.log,.slice ta t.px.length tc] 168)).cell? ⟨w.heap.size,0,none⟩=some (.int .i64 n):=by simp [go_sem]
 have q9:(w.alloc (.cells #[n,pu,tm,t.log,.slice ta t.px.length tc] 168)).cell? ⟨w.heap.size,3,none⟩=some (.int .i64 t.log):=by simp [go_sem]
 have x0:(w.alloc (.cells #[n,pu,tm,t.log,.slice ta t.px.length tc] 168)).cell? ⟨w.heap.size,4,none⟩=some (.slice ta t.px.length tc):=by simp [go_sem]
 go_upto_region 6 with fail;generalize (w.alloc (.cells #[n,pu,tm,t.log,.slice ta t.px.length tc] 168))=W0 at z7 q6 q4 q9 x0 ⊢
 have h7:w.heap.size<W0.heap.size:=by omega
 go_cut [7,8] from 31 to 36 (fun fn p wx=>fn = .func (.func F) #[] #[]/\∃A,p = .pointer (some ⟨A,0,none⟩)/\W0.heap.size<=A/\Ext W0 wx/\hZ wx A (.int .i64 t.log) (.slice ta t.px.length tc))
 case first=>
  refine cZ 8 W0.heap.size (by kernel_rfl) ?_;refine z2_ (fuel:=4) [1,3,4,5] 0 6 (fun b _ hb=>rfl) (fun K hK=>?_) fun K hK=>?_
  ·go_wp2_with fail
   refine (pT _).mono ?_;rintro e wa ⟨mb,rfl,y0,x9,mh,xa⟩;have ua:Ext W0 wa:=aQ3 X_ xa;go_wp2_with fail;refine hK _ _ (.inr (fun b _ hb=>ua.block (by omega))) ?_;clear hK K;refine z2_ (fuel:=3) [] 2 6 (fun b _ hb=>ua.block (by omega)) (fun K hK=>?_) fun K hK=>?_
   ·refine nR _ rfl _ _ rfl mb _ _ _ rfl mh _ rfl _ hlook ?_
    go_wp2;refine hK _ _ (.inr (fun b _ hb=>ua.block (by omega))) ?_;clear hK K;refine z1_ (fuel:=2) [] 6 (fun b _ hb=>ua.block (by omega)) fun K hK=>?_;go_wp2;have ub:=ua.alloc (.cells #[(),.slice none 0 0] 313);have bx:=wT.made wa (.int .i64 0) (.slice none 0 0) 313;have hA:=ua.size;refine hK _ _ (.inr (fun b _ hb=>ub.block (by omega))) ?_;clear hK K;refine z1_ (fuel:=0) [7] 8 (fun b _ hb=>ub.block (by omega)) fun K hK=>?_;have k0:=bx.lt;have k1:=bx.c0;have k2:=bx.c1;have k3:=bx.f0;have k4:=bx.f1;go_wp2;refine l_ hK ?_;clear hK K;refine bX (by kernel_rfl) ?_;go_wp2_with fail
    go_meet
    exact ⟨rfl,wa.heap.size,rfl,by omega,(by have X:=ub;exact S_),by first|exact hZ.made _ _ _ _|exact bx.set2 _ _⟩
   ·go_wp2
    have ub:=ua.alloc (.cells #[(),.slice none 0 0] 313);have bx:=wT.made wa (.int .i64 0) (.slice none 0 0) 313;have hA:=ua.size;refine hK _ _ (.inr (fun b _ hb=>ub.block (by omega))) ?_;clear hK K;refine z1_ (fuel:=2) [] 2 (fun b _ hb=>ub.block (by omega)) fun K hK=>?_;refine nR _ rfl _ _ rfl mb _ _ _ rfl ((Ext.block (w:=wa) X_ x9).trans mh) _ rfl _ hlook ?_;go_wp2;refine hK _ _ (.inr (fun b _ hb=>ub.block (by omega))) ?_;clear hK K;refine z1_ (fuel:=0) [7] 8 (fun b _ hb=>ub.block (by omega)) fun K hK=>?_;have k0:=bx.lt;have k1:=bx.c0;have k2:=bx.c1;have k3:=bx.f0;have k4:=bx.f1;go_wp2;refine l_ hK ?_;clear hK K;refine bX (by kernel_rfl) ?_;go_wp2_with fail
    go_meet
    exact ⟨rfl,wa.heap.size,rfl,by omega,(by have X:=ub;exact S_),by first|exact hZ.made _ _ _ _|exact bx.set2 _ _⟩
  ·go_wp2
   have ub:Ext W0 (W0.drew.alloc (.cells #[(),.slice none 0 0] 313)):=X_;have bx:wT (W0.drew.alloc (.cells #[(),.slice none 0 0] 313)) W0.heap.size (.int .i64 0) (.slice none 0 0):=wT.made W0.drew (.int .i64 0) (.slice none 0 0) 313;refine hK _ _ (.inr (fun b _ hb=>ub.block (by omega))) ?_;clear hK K;refine z1_ (fuel:=3) [] 0 (fun b _ hb=>ub.block (by omega)) fun K hK=>?_;go_wp2_with fail;refine (pT _).mono ?_;rintro e wa ⟨mb,rfl,y0,x9,mh,xa⟩;have ua:=ub.trans xa;have h6:=bx.ext xa;go_wp2_with fail;refine hK _ _ (.inr (fun b _ hb=>ua.block (by omega))) ?_;clear hK K;refine z1_ (fuel:=2) [] 2 (fun b _ hb=>ua.block (by omega)) fun K hK=>?_;refine nR _ rfl _ _ rfl mb _ _ _ rfl mh _ rfl _ hlook ?_;go_wp2;refine hK _ _ (.inr (fun b _ hb=>ua.block (by omega))) ?_;clear hK K;refine z1_ (fuel:=0) [7] 8 (fun b _ hb=>ua.block (by omega)) fun K hK=>?_;have k0:=h6.lt;have k1:=h6.c0;have k2:=h6.c1;have k3:=h6.f0;have k4:=h6.f1;go_wp2;refine l_ hK ?_;clear hK K;refine bX (by kernel_rfl) ?_;go_wp2_with fail
   go_meet
   exact ⟨rfl,W0.heap.size,rfl,by omega,(by have X:=ua;exact S_),by first|exact hZ.made _ _ _ _|exact h6.set2 _ _⟩
 case rest=>
  obtain ⟨rfl,A,rfl,hA,xc,tb⟩:=hcut;have X:=q6.trans xc;have e0:=(xc.cells.1 _ _ h7).trans q4
  have y7:w.heap.size<wc.heap.size:=by have:=xc.size;omega
  have y9:(aRl m).length=m:=by simp
  clear q4 q9 x0 q6 xc hlook;go_wp2_with (at_make;refine wpList_make_row _ rfl _ _ 24 rfl 3 j0 (.int .i64 0) underlying24 x2 x5 x6 rfl .i64 .i64 m rfl rfl (by rw [x8];omega) (by omega) ?_);have h4:=hid (bE.zero (f:=fun k=>dS (fv (cR S k))) (show bE _ _ _ m (fun _=>0) from aXh wc (.int .i64 0) m 3));have X1:=hid (X.alloc (.cells (madeCells #[()] m) 3));have z0:=hid (tb.ext ((aQ6 wc).alloc (.cells (madeCells #[()] m) 3)))
  have q3:w.heap.size<=wc.heap.size:=by omega
  have q8:A≠wc.heap.size:=by have:=tb.lt;omega
  generalize hB:wc.heap.size=B at h4 q3 q8;clear x2 x5 x6 x8 X tb e0;go_wp2
  go_loopw [45] (fun i wr=>∃k:Nat,k<=m/\i = .int .i64 k/\Ext w wr/\bE wr B 3 m (lI (fun k=>dS (fv (cR S k))) k)/\hZ wr A (.int .i64 t.log) (.slice ta t.px.length tc)) (fun i _=>m - (intOf i).toNat)
  case atStart=>exact ⟨0,by omega,rfl,X1,h4.out,z0.out⟩
  case round=>
   clear h4 X1 z0;obtain ⟨k,hk,rfl,hx,h4,tb⟩:=hrel
   by_cases h7:k<m
   ·have HX:=hid hx
    have HR:=hid h4;have HB:=hid tb;clear hx h4 tb
    rename World=>W1
    go_wp2
    go_loopw [11,51] (fun v i wq=>∃j:Nat,j<=S.length/\i = .int .i64 j/\aB W1.heap.size wq v ((cR S k).take j)/\Ext W1 wq) (fun _ i _=>S.length - (intOf i).toNat)
    case atStart=>exact ⟨0,by omega,rfl,aB.lit0 W1,X_⟩
    case round=>
     obtain ⟨j,hj,rfl,h0,hy⟩:=hrel;obtain ⟨av,cv,rfl,y8⟩:=h0.form
     have h5:((cR S k).take j).length=j:=by rw [aRp,dD];omega
     rw [h5] at h0 ⊢
     by_cases q5:j<S.length
     ·obtain ⟨b,a0,u,rfl,y2,y3,c0,hu⟩:=HS.at q5 (HX.trans hy) hh
      obtain ⟨g1,g2⟩:=HG _ (aRh q5);obtain ⟨ua,uc,rfl,HU⟩:=hu.open;have lu:=HU.le;have lc:=HU.cap;obtain ⟨b3,y1,rfl,y4,y5,c3⟩:=HU.at (k:=k) (by omega);have z8:=HX.size;have z9:=hy.size
      have y6:b3<wr.heap.size:=by omega
      have x1:=cP S[j] k (by omega);have h8:=mT S k j q5;rw [x1] at h8;have i9:=(g2 _ (aRh (show k<S[j].length by omega))).i64
      obtain ⟨x,x4⟩:=e_ (S[j][k]'(by omega))
      rw [x4] at c3 h8 i9;rw [g1] at lu c0;have HO:=hid h0;have HY:=hid hy;have z3:=hid h8;have HL:=hid h5;have HI:=hid i9;clear h0 hy h8 h5 x4 x1 hu HU i9 z8 z9 g1 g2;go_wp2_with (at_builtin;refine aV _ rfl _ _ rfl W1.heap.size _ _ rfl (HO.alloc _) x HI wr.heap.size rfl (by simp [go_sem]) (by rw [HL];omega) (by have:=HY.size;simp;omega) ?_;intro v' w7 h0 hg);rw [z3] at h0;go_wp2;go_roundw
      case rel=>exact ⟨j+1,by omega,by go_num,h0,aR7 (HY.alloc _) hg (fun g e=>(HO.lt g e).1)⟩
      case measure=>simp [intOf];omega
     ·obtain rfl:j=S.length:=by omega
      rw [aR3 (by rw [dD];omega)] at h0;have tb:=HB.ext hy;have q0:=tb.lt;have q1:=tb.c0;have q2:=tb.c1;have xq:=HX.trans hy;have x3:=rY HG h7;have HC:=hid (HF _ _ _ _ _ _ _ wr (dD S k) x3 h0.ints (aQv _) (HT.ext hh' xq) (by have:=xq.size;omega));have z5:=hid xq;have z1:=hid (HR.ext hy);have z4:=hid tb;clear h0 hy tb xq x3;go_wp2_with fail;refine HC.mono ?_;rintro e w7 ⟨rfl,x7⟩;have R7:=z1.ext x7;have r0:=R7.cell h7;have r1:=R7.frozen k;have r2:=R7.lt;have z2:=hid R7
      obtain ⟨y,hy⟩:=e_ (dS (fv (cR S k)))
      have q7:=hid hy;have z6:=hid (z5.trans x7);have h9:=hid (z4.ext x7);clear R7 hy x7 q0 q1 q2;go_wp2_with fail;refine z_ (cO q7 _) ?_;go_wp2;go_roundw
      case rel=>exact ⟨k+1,by omega,by go_num,z6.setCell q3 _,z2.step rfl q7.symm,h9.at (by simp) (aQ7 _ _ _ _ q8)⟩
      case measure=>simp [intOf];omega
   ·obtain rfl:k=m:=by omega
    go_wp2;go_ret;exact ⟨_,rfl,h4.full.ownInts q3 (by unfold maxLen;omega) (fun i _=>(fD _).i64),hx⟩
def fnV (t:Tex) (s:List UInt8) (x:List Int):Int:=
 if s==[97,98,115] then fT (x.getD 0 0) else if s==[102,108,111,111,114] then vR (x.getD 0 0) else if s==[109,105,110] then aH7 (x.getD 0 0) (x.getD 1 0) else if s==[109,97,120] then aH6 (x.getD 0 0) (x.getD 1 0) else if s==[115,116,101,112] then aG8 (x.getD 0 0) (x.getD 1 0) else if s==[110,111,105,115,101] then mI [x.getD 0 0,x.getD 1 0] else if s==[99,108,97,109,112] then aR (x.getD 0 0) (x.getD 1 0) (x.getD 2 0) else if s==[109,105,120] then vS (x.getD 0 0) (x.getD 1 0) (x.getD 2 0) else if s==[116,101,120] then t.look (x.getD 0 0) (x.getD 1 0) else 0
def eJ (n m:Nat) (t:Tex) (s:List UInt8) (S:List (List Int)):List Int:=
 if s==[100,117] then iL (S.getD 0 []) n false else if s==[100,118] then iL (S.getD 0 []) n true else (aRl m).map fun k=>dS (fnV t s (cR S k))
theorem wU (h:x.length=1):∃a,x=[a]:=by
 match x,h with
 | [a],_=>exact ⟨a,rfl⟩
theorem jH (h:x.length=2):∃a b,x=[a,b]:=by
 match x,h with
 | [a,b],_=>exact ⟨a,b,rfl⟩
theorem rZ (h:x.length=3):∃a b c,x=[a,b,c]:=by
 match x,h with
 | [a,b,c],_=>exact ⟨a,b,c,rfl⟩
theorem mU {f : FuncId} {fn : Func} (hf : Tryz.prog.funcs[f]? = some fn) (hname : (fn.name == "runtime.NumGoroutine") = false) (hb : fn.body.isSome = true) (args : Array Value) (w : World) : (callFunc f args).run aQ2 w = .ok (.enter f args) w := by
 cases h:fn.body with
 | none=>rw [h] at hb;cases hb
 | some c=>
  have h1 : fn.name ≠ "runtime.NumGoroutine" := by simpa using hname
  simp [callFunc,hf,h1,h]
theorem aMh (t:Tex) (_ht:t.okB=true):Fun 285 t 1 (fnV t [97,98,115]):=by
 intro lo hi lo' hi' u v x w hl hs hu hh hv h0;obtain ⟨a,rfl⟩:=wU hl;obtain ⟨cu,rfl,c1,c2⟩:=hv;exact aE9 lo hi u _ _ w hu hh (hs a (by simp)) rfl
theorem aKp:Instr.findNow .string (.string ⟨#[97,98,115]⟩) dK.toList 0=some (some (0,.func (.func 285) #[] #[])):=by rfl
theorem aI0 (t:Tex) (_ht:t.okB=true):Fun 286 t 1 (fnV t [102,108,111,111,114]):=by
 intro lo hi lo' hi' u v x w hl hs hu hh hv h0;obtain ⟨a,rfl⟩:=wU hl;obtain ⟨cu,rfl,c1,c2⟩:=hv;exact aBh lo hi u _ _ w hu hh (hs a (by simp)) rfl
theorem aF5:Instr.findNow .string (.string ⟨#[102,108,111,111,114]⟩) dK.toList 0=some (some (1,.func (.func 286) #[] #[])):=by rfl
theorem aMi (t:Tex) (_ht:t.okB=true):Fun 287 t 2 (fnV t [109,105,110]):=by
 intro lo hi lo' hi' u v x w hl hs hu hh hv h0;obtain ⟨a,b,rfl⟩:=jH hl;obtain ⟨cu,rfl,c1,c2⟩:=hv;exact aFa lo hi u _ _ w hu hh  rfl
theorem aKq:Instr.findNow .string (.string ⟨#[109,105,110]⟩) dK.toList 0=some (some (2,.func (.func 287) #[] #[])):=by rfl
theorem aMj (t:Tex) (_ht:t.okB=true):Fun 288 t 2 (fnV t [109,97,120]):=by
 intro lo hi lo' hi' u v x w hl hs hu hh hv h0;obtain ⟨a,b,rfl⟩:=jH hl;obtain ⟨cu,rfl,c1,c2⟩:=hv;exact aFb lo hi u _ _ w hu hh  rfl
theorem aKr:Instr.findNow .string (.string ⟨#[109,97,120]⟩) dK.toList 0=some (some (3,.func (.func 288) #[] #[])):=by rfl
theorem aKs (t:Tex) (_ht:t.okB=true):Fun 289 t 2 (fnV t [115,116,101,112]):=by
 intro lo hi lo' hi' u v x w hl hs hu hh hv h0;obtain ⟨a,b,rfl⟩:=jH hl;obtain ⟨cu,rfl,c1,c2⟩:=hv;exact aC8 lo hi u _ _ w hu hh (hs a (by simp)) (hs b (by simp)) rfl
theorem aI1:Instr.findNow .string (.string ⟨#[115,116,101,112]⟩) dK.toList 0=some (some (4,.func (.func 289) #[] #[])):=by rfl
theorem aI2 (t:Tex) (_ht:t.okB=true):Fun 290 t 2 (fnV t [110,111,105,115,101]):=by
 intro lo hi lo' hi' u v x w hl hs hu hh hv h0;obtain ⟨a,b,rfl⟩:=jH hl;obtain ⟨cu,rfl,c1,c2⟩:=hv;exact aBi lo hi u _ _ [a,b] w hu hh rfl
theorem aF6:Instr.findNow .string (.string ⟨#[110,111,105,115,101]⟩) dK.toList 0=some (some (5,.func (.func 290) #[] #[])):=by rfl
theorem aI3 (t:Tex) (_ht:t.okB=true):Fun 291 t 3 (fnV t [99,108,97,109,112]):=by
 intro lo hi lo' hi' u v x w hl hs hu hh hv h0;obtain ⟨a,b,c,rfl⟩:=rZ hl;obtain ⟨cu,rfl,c1,c2⟩:=hv;exact aBj lo hi u _ _ w hu hh  rfl
theorem aF7:Instr.findNow .string (.string ⟨#[99,108,97,109,112]⟩) dK.toList 0=some (some (6,.func (.func 291) #[] #[])):=by rfl
theorem aMk (t:Tex) (_ht:t.okB=true):Fun 292 t 3 (fnV t [109,105,120]):=by
 intro lo hi lo' hi' u v x w hl hs hu hh hv h0;obtain ⟨a,b,c,rfl⟩:=rZ hl;obtain ⟨cu,rfl,c1,c2⟩:=hv;exact aFc lo hi u _ _ w hu hh (hs a (by simp)) (hs b (by simp)) (hs c (by simp)) rfl
theorem aKt:Instr.findNow .string (.string ⟨#[109,105,120]⟩) dK.toList 0=some (some (7,.func (.func 292) #[] #[])):=by rfl
theorem aMl (t:Tex) (_ht:t.okB=true):Fun 293 t 2 (fnV t [116,101,120]):=by
 intro lo hi lo' hi' u v x w hl hs hu hh hv h0;obtain ⟨a,b,rfl⟩:=jH hl;obtain ⟨cu,rfl,c1,c2⟩:=hv
 have hv:cN lo' hi' w (.agg #[t.log,cu]) t:=⟨cu,rfl,c1,c2⟩
 exact aFe lo hi lo' hi' u _ t w hu hh hv h0 (Tex.okB_iff.1 _ht) rfl
theorem aKu:Instr.findNow .string (.string ⟨#[116,101,120]⟩) dK.toList 0=some (some (8,.func (.func 293) #[] #[])):=by rfl
theorem aI4 (rows:Bool) (xs:List Int) (lo hi:Nat) (n m:Nat) (pu tu av:Value) (tm g3:Int) (w:World) (s:ByteArray) (S:List (List Int)) (hs:s.toList=if rows then [100,118] else [100,117]) (hxs:S[0]?=some xs)
  (hS:SS lo hi w av S) (hh:hi<=w.heap.size) (hg:fG m xs) (hm:n*n=m) (h1:1<=n) (h8:n<=8) :
  Calls aQ2 259 #[.string s,.agg #[n,pu,tm,g3,tu],av] w fun e w'=>∃r,e = .returned r/\aB w.heap.size w' r (iL xs n rows)/\Ext w w':=by
 obtain ⟨a,cap,rfl,HS⟩:=hS.open;have l1:=HS.le;have l2:=HS.cap;have h2:=(aQz.1 hxs).1;have h0:=(aQz.1 hxs).2;obtain ⟨b,h6,u,rfl,h3,h4,c0,hu⟩:=HS.at h2 (aQ6 w) hh;rw [h0] at hu;simp only [aSk] at c0
 have h5:b≠w.heap.size:=by omega
 have HU:=hid hu;clear hu hxs h0
 cases rows
 ·have e:=aIh (l:=[100,117]) hs
  subst e;clear hs;go_enter func259,ntmps259;go_wp2_with fail;refine aA [([0,1,2,3,4],5),([],6)] 99 (w.heap.size+1) (by kernel_rfl) (by kernel_rfl) ?_;refine st_ fun K hK=>?_;go_wp2_with fail;refine (yV lo hi u xs n _ (HU.ext hh X_) (by simp;omega) (hg.1.trans hm.symm) h1 h8 hg.2).mono ?_;rintro e w1 ⟨r,rfl,hr,x1⟩;obtain ⟨ra,rc,rfl,_⟩:=hr.form;have X1:Ext w w1:=aQ3 X_ x1;go_wp2_with fail;refine hK _ _ (.inr (fun k _ hk=>x1.block (by first|omega|(simp;omega)))) ?_;clear hK K;refine st_ fun K hK=>?_;go_wp2_with fail;go_wp2_with fail;refine hK _ _ (.inr (fun k _ hk=>x1.block (by first|omega|(simp;omega)))) ?_;clear hK K;refine aC ?_;go_wp2;go_ret;exact ⟨_,rfl,hr.low (by simp),X1⟩
 ·have e:=aIh (l:=[100,118]) hs
  subst e;clear hs;go_enter func259,ntmps259;go_wp2_with fail;refine aA [([0,1,2,3,4],5),([],6)] 99 (w.heap.size+1) (by kernel_rfl) (by kernel_rfl) ?_;refine st_ fun K hK=>?_;go_wp2_with fail;refine (yW lo hi u xs n _ (HU.ext hh X_) (by simp;omega) (hg.1.trans hm.symm) h1 h8 hg.2).mono ?_;rintro e w1 ⟨r,rfl,hr,x1⟩;obtain ⟨ra,rc,rfl,_⟩:=hr.form;have X1:Ext w w1:=aQ3 X_ x1;go_wp2_with fail;refine hK _ _ (.inr (fun k _ hk=>x1.block (by first|omega|(simp;omega)))) ?_;clear hK K;refine st_ fun K hK=>?_;go_wp2_with fail;go_wp2_with fail;refine hK _ _ (.inr (fun k _ hk=>x1.block (by first|omega|(simp;omega)))) ?_;clear hK K;refine aC ?_;go_wp2;go_ret;exact ⟨_,rfl,hr.low (by simp),X1⟩
theorem aDy (s:ByteArray) (S:List (List Int)) (lo hi lo' hi':Nat) (n m:Nat) (pu tu av:Value) (tm:Int) (t:Tex) (w:World) (hs:0<=cA s) (hl:(S.length:Int)=cA s) (ht:t.okB=true)
  (hS:SS lo hi w av S) (hh:hi<=w.heap.size) (hT:cN lo' hi' w (.agg #[t.log,tu]) t) (hh':hi'<=w.heap.size) (hg:∀r∈S,fG m r) (hm:n*n=m) (h1:1<=n) (h8:n<=8) :
  Calls aQ2 259 #[.string s,.agg #[n,pu,tm,t.log,tu],av] w fun e w'=>∃r,e = .returned r/\aB w.heap.size w' r (eJ n m t s.toList S)/\Ext w w':=by
 have x4:(n:Int)*n=m:=by rw [<-hm];simp
 have x3:m<=64:=by
  have:n*n<=8*8:=aRy h8 h8;omega
 have q3:∀(l:List UInt8) (F i0 ar:Nat),s.toList=l->(l==[100,117])=false->(l==[100,118])=false->(kT l=ar)->ar<=3->aTl .string (.string ⟨l.toArray⟩) dK.toList 0=some (some (i0,.func (.func F) #[] #[])) ->
   (∀xs w',(callFunc F xs).run aQ2 w' = .ok (.enter F xs) w')->Fun F t ar (fnV t l)->Calls aQ2 259 #[.string s,.agg #[n,pu,tm,t.log,tu],av] w fun e w'=>∃r,e = .returned r/\aB w.heap.size w' r (eJ n m t s.toList S)/\Ext w w':=by
  intro l F i0 ar q2 q7 q8 x0 q9 x2 hE hF
  have q6:S.length=ar:=by
   unfold cA at hl;rw [q2,x0] at hl;omega
  subst q6;rw [q2];unfold eJ;rw [q7,q8];have e:=aIh q2;subst e;exact aDx F (fnV t l) i0 _ S lo hi lo' hi' n m pu tu av tm t w (by rw [q2];exact q7) (by rw [q2];exact q8) x2 hE hF hS hh hT hh' hg x4 x3 q9
 have hd:∀q1:Bool,s.toList=(if q1 then [100,118] else [100,117])->Calls aQ2 259 #[.string s,.agg #[n,pu,tm,t.log,tu],av] w fun e w'=>∃r,e = .returned r/\aB w.heap.size w' r (eJ n m t s.toList S)/\Ext w w':=by
  intro q1 q2
  have x1:S.length=1:=by
   unfold cA at hl;rw [q2] at hl
   cases q1 <;> (have:(S.length:Int)=1:=hl;omega)
  obtain ⟨xs,rfl⟩:∃xs,S=[xs]:=by
   match S,x1 with
   | [a],_=>exact ⟨a,rfl⟩
  have:=aI4 q1 xs lo hi n m pu tu av tm t.log w s [xs] q2 rfl hS hh (hg xs (by simp)) hm h1 h8;rw [q2]
  cases q1 <;> exact this
 unfold cA kT at hs
 by_cases h5:(s.toList==[97,98,115])=true
 ·exact q3 [97,98,115] _ _ 1 (eq_of_beq h5) rfl rfl rfl (by decide) aKp (mU func285 (by kernel_rfl) (by kernel_rfl)) (aMh t ht)
 by_cases h2:(s.toList==[102,108,111,111,114])=true
 ·exact q3 [102,108,111,111,114] _ _ 1 (eq_of_beq h2) rfl rfl rfl (by decide) aF5 (mU func286 (by kernel_rfl) (by kernel_rfl)) (aI0 t ht)
 by_cases q4:(s.toList==[100,117])=true
 ·exact hd false (eq_of_beq q4)
 by_cases q5:(s.toList==[100,118])=true
 ·exact hd true (eq_of_beq q5)
 by_cases h7:(s.toList==[109,105,110])=true
 ·exact q3 [109,105,110] _ _ 2 (eq_of_beq h7) rfl rfl rfl (by decide) aKq (mU func287 (by kernel_rfl) (by kernel_rfl)) (aMi t ht)
 by_cases h6:(s.toList==[109,97,120])=true
 ·exact q3 [109,97,120] _ _ 2 (eq_of_beq h6) rfl rfl rfl (by decide) aKr (mU func288 (by kernel_rfl) (by kernel_rfl)) (aMj t ht)
 by_cases h4:(s.toList==[115,116,101,112])=true
 ·exact q3 [115,116,101,112] _ _ 2 (eq_of_beq h4) rfl rfl rfl (by decide) aI1 (mU func289 (by kernel_rfl) (by kernel_rfl)) (aKs t ht)
 by_cases h3:(s.toList==[110,111,105,115,101])=true
 ·exact q3 [110,111,105,115,101] _ _ 2 (eq_of_beq h3) rfl rfl rfl (by decide) aF6 (mU func290 (by kernel_rfl) (by kernel_rfl)) (aI2 t ht)
 by_cases q0:(s.toList==[116,101,120])=true
 ·exact q3 [116,101,120] _ _ 2 (eq_of_beq q0) rfl rfl rfl (by decide) aKu (mU func293 (by kernel_rfl) (by kernel_rfl)) (aMl t ht)
 by_cases h0:(s.toList==[99,108,97,109,112])=true
 ·exact q3 [99,108,97,109,112] _ _ 3 (eq_of_beq h0) rfl rfl rfl (by decide) aF7 (mU func291 (by kernel_rfl) (by kernel_rfl)) (aI3 t ht)
 by_cases h9:(s.toList==[109,105,120])=true
 ·exact q3 [109,105,120] _ _ 3 (eq_of_beq h9) rfl rfl rfl (by decide) aKt (mU func292 (by kernel_rfl) (by kernel_rfl)) (aMk t ht)
 simp only [aYs] at h5 h2 q4 q5 h7 h6 h4 h3 q0 h0 h9;simp [h5,h2,q4,q5,h7,h6,h4,h3,q0,h0,h9] at hs
theorem aDz (s:ByteArray) (lo hi:Nat) (n m:Nat) (pu tu:Value) (f:Nat->Int) (tm g3:Int) (w:World) (hp:cY 5 lo hi w pu m f) (hh:hi<=w.heap.size) (hm:(n:Int)*n=m) (hm2:m<=64) (htm:I64 tm) :
  Calls aQ2 257 #[.string s,.agg #[n,pu,tm,g3,tu]] w fun e w'=>∃r,e = .returned r/\aB w.heap.size w' r ((aRl m).map (lL s.toList f tm))/\Ext w w':=by
 obtain ⟨a,cap,rfl,HP⟩:=hp.open;have l1:=HP.le;have l2:=HP.cap;clear hp;obtain ⟨j0,h2,h4,h5,h6⟩:=info_parts eK;go_enter func257,ntmps257;go_wp2_with (at_make;refine wpList_make_row _ rfl _ _ 24 rfl 3 j0 (.int .i64 0) underlying24 h2 h4 h5 rfl .i64 .i64 m rfl rfl (by rw [h6];omega) (by omega) ?_);have h0:=hid (bE.zero (f:=lL s.toList f tm) (show bE _ _ _ m (fun _=>0) from aXh (w.alloc (.cells #[n,.slice a m cap,tm,g3,tu] 168)) (.int .i64 0) m 3));have X0:=hid (show Ext w ((w.alloc (.cells #[n,.slice a m cap,tm,g3,tu] 168)).alloc (.cells (madeCells #[()] m) 3)) from X_)
 have c2:((w.alloc (.cells #[n,.slice a m cap,tm,g3,tu] 168)).alloc (.cells (madeCells #[()] m) 3)).cell? ⟨w.heap.size,2,none⟩=some (.int .i64 tm):=by simp [go_sem]
 have C2:=hid c2;clear h2 h4 h5 h6 c2;simp only [aQy] at h0;generalize hB:w.heap.size+1=B at h0
 have h1:w.heap.size<=B:=by omega
 have h7:w.heap.size≠B:=by omega
 go_wp2
 go_loopw [17] (fun i wr=>∃k:Nat,k<=m/\i = .int .i64 k/\Ext w wr/\bE wr B 3 m (lI (lL s.toList f tm) k)/\wr.cell? ⟨w.heap.size,2,none⟩=some (.int .i64 tm)) (fun i _=>m - (intOf i).toNat)
 case atStart=>exact ⟨0,by omega,rfl,X0,h0.out,C2⟩
 case round=>
  clear X0 h0 C2;obtain ⟨k,hk,rfl,hx,h0,q2⟩:=hrel;have Q2:=hid q2
  by_cases h3:k<m
  ·obtain ⟨b,q5,rfl,q1,q3,hc⟩:=HP.at h3 (by decide)
   have zs:=hx.size;have q0:=h0.lt;have c0:=(hx.cells.1 b _ (by omega)).trans (hc 0 (by decide));have c1:=(hx.cells.1 b _ (by omega)).trans (hc 1 (by decide));have c2:=(hx.cells.1 b _ (by omega)).trans (hc 2 (by decide));have c3:=(hx.cells.1 b _ (by omega)).trans (hc 3 (by decide));have c4:=(hx.cells.1 b _ (by omega)).trans (hc 4 (by decide));simp only [aSk] at c0
   have q4:b<wr.heap.size:=by omega
   have h8:w.heap.size<wr.heap.size:=by omega
   have r0:=h0.cell h3;have r1:=h0.frozen k;have HX:=hid hx;have HR:=hid h0;clear hc hx h0;go_wp2
   all_goals
    go_roundw
    case rel=>
     refine ⟨k+1,by omega,by go_num,(Ext.setCell HX h1 _).alloc _,bE.alloc (bE.step HR rfl ?_) _,?_⟩
     ·simp only [lL]
      simp [*]
     ·have:=Q2.out
      simp [go_sem,h7,h8,this]
    case measure=>simp [intOf];omega
  ·obtain rfl:k=m:=by omega
   have h9:∀i,i<k->I64 (lL s.toList f tm i):=fun i hi=>by
    unfold lL
    split
    ·exact HP.i64 (j:=0) hi (by decide)
    split
    ·exact HP.i64 (j:=1) hi (by decide)
    split
    ·exact HP.i64 (j:=2) hi (by decide)
    split
    ·exact HP.i64 (j:=3) hi (by decide)
    split
    ·exact HP.i64 (j:=4) hi (by decide)
    ·exact htm
   go_wp2;go_ret;exact ⟨_,rfl,h0.full.ownInts h1 (by unfold maxLen;omega) h9,hx⟩
theorem aAq {a b:List Int} (ha:a.length=m) (hb:b.length=m):fG m (aTq (eU op) a b):=by
 refine ⟨by simp;omega,fun x hx=>?_⟩;obtain ⟨i,hi,rfl⟩:=aRw hx;simp;exact fD _
theorem aKv (l:List UInt8) (hf:∀i,i<m*5->S9 (f i)) (ht:S9 tm) (hq:q<m):S9 (lL l f tm q):=by
 unfold lL
 split
 ·exact hf _ (by omega)
 split
 ·exact hf _ (by omega)
 split
 ·exact hf _ (by omega)
 split
 ·exact hf _ (by omega)
 split
 ·exact hf _ (by omega)
 ·exact ht
theorem aF8 (hm:n*n=m) (t:Tex) (l:List UInt8) (S:List (List Int)):fG m (eJ n m t l S):=by
 have hd:∀xs rows,fG m (iL xs n rows):=fun xs rows=>⟨by rw [gR,hm],fun x hx=>by
  obtain ⟨i,hi,rfl⟩:=aRw hx;rw [nP]
  exact rI _ _ _ _⟩
 unfold eJ
 split
 ·exact hd _ _
 split
 ·exact hd _ _
 ·refine ⟨by simp,fun x hx=>?_⟩
  obtain ⟨i,hi,rfl⟩:=aS3.1 hx;exact fD _
theorem Grd.partsE {g:Grd} (h:g.okB=true):∃n:Nat,g.n=n/\n*n=g.m/\1<=n/\n<=8/\g.t.okB=true/\S9 g.tm/\∀i,i<g.m*5->S9 (g.f i):=by
 unfold Grd.okB at h;simp only [aRd,decide_eq_true_eq,aR5,aR4] at h;obtain ⟨⟨⟨⟨h1,h2⟩,h3⟩,h4⟩,h5⟩:=h;have h1:=aG.1 h1;have h3:=aG.1 h3
 obtain ⟨n,hn⟩:∃n:Nat,g.n=n:=⟨g.n.toNat,by omega⟩
 rw [hn] at h1 h2
 have h6:((n*n:Nat):Int)=(g.m:Int):=by rw [h2];simp
 refine ⟨n,hn,by omega,by omega,by omega,h4,⟨by omega,by omega⟩,fun i hi=>?_⟩;have h7:=h5 (i / 5) (by omega);unfold ptB ptL at h7;simp only [aXn,List.all_nil,aYn,aRd] at h7;obtain ⟨a0,a1,a2,a3,a4⟩:=h7
 have h0:i=i / 5*5+i % 5:=by omega
 have h9:i % 5<5:=aTp _ (by decide)
 have h8:inB (g.f i) (-1000000) 1000000=true:=by
  rcases (show i % 5=0\/i % 5=1\/i % 5=2\/i % 5=3\/i % 5=4 by omega) with e|e|e|e|e <;> rw [e] at h0 <;> rw [h0]
  ·exact a0
  ·exact a1
  ·exact a2
  ·exact a3
  ·exact a4
 have:=aG.1 h8;exact ⟨by omega,by omega⟩
def Prg.rootOf (p:Prg) (s:ByteArray):Nat:=match eM p.gs p.gs.length s.toList with|some i=>((p.gs[i]?).map fun a=>a.root.toNat).getD 0|none=>0
def evB (p:Prg) (n m:Nat) (f:Nat->Int) (tm:Int) (t:Tex) (rec:Nat->List Int) (x:Nd):List Int:=
 if x.op=1 then aRj m x.num else if x.op=2 then (if cT x.name then (aRl m).map (lL x.name.toList f tm) else rec (p.rootOf x.name))
 else if x.op=8 then eJ n m t x.name.toList (x.args.map fun a=>rec a.toNat)
 else aTq (eU x.op) ((x.args.map fun a=>rec a.toNat).getD 0 []) ((x.args.map fun a=>rec a.toNat).getD (if x.op=3 then 0 else 1) [])
def evF (p:Prg) (n m:Nat) (f:Nat->Int) (tm:Int) (t:Tex):Nat->Nat->List Int
 | 0,_=>[]
 | F+1,j=>match p.ns[j]? with|some x=>evB p n m f tm t (evF p n m f tm t F) x|none=>[]
noncomputable def Prg.rank (p:Prg) (j:Nat):Nat:=p.own j*64+j
noncomputable def Prg.ev (p:Prg) (n m:Nat) (f:Nat->Int) (tm:Int) (t:Tex) (j:Nat):List Int:=evF p n m f tm t (p.rank j+1) j
structure Prg.K (p:Prg):Prop where
 v:p.V
 name:∀(k:Nat) (x:Nd),p.ns[k]?=some x->x.op=2->cT x.name=false->∃i,eM p.gs p.gs.length x.name.toList=some i/\i<p.own k
 call:∀(k:Nat) (x:Nd),p.ns[k]?=some x->x.op=8->0<=cA x.name/\cA x.name=x.args.length
 one:∀(i j:Nat) (a b:Asg),p.gs[i]?=some a->p.gs[j]?=some b->a.name.toList=b.name.toList->i=j
 col:∃i,eM p.gs p.gs.length [99,111,108,111,114]=some i
theorem aHs {gs:List Asg} {l:List UInt8} (h:nI gs t l=true):∃i,eM gs gs.length l=some i/\i<t:=by
 cases e:eM gs gs.length l with
 | none=>rw [vH e] at h;cases h
 | some i=>rw [vG e,decide_eq_true_eq] at h;exact ⟨i,rfl,h⟩
theorem Prg.chkB_K {p:Prg} (h:p.chkB=true):p.K:=by
 unfold Prg.chkB at h;simp only [aRd] at h;obtain ⟨⟨⟨⟨h1,h2⟩,h3⟩,h4⟩,h5⟩:=h;rw [aR5] at h2 h3 h4;have hv:=Prg.okB_V h1
 have h7:∀(i j:Nat) (a b:Asg),i<j->p.gs[i]?=some a->p.gs[j]?=some b->a.name.toList=b.name.toList->False:=by
  intro i j a b h0 ha hb he;have:=h4 j (aR4.2 (aQz.1 hb).1);rw [Prg.asB_at hb,aRd] at this;have h6:=this.2;rw [jG.2 ⟨i,a,h0,ha,he⟩] at h6;cases h6
 refine ⟨hv,fun k x hx h2' hvar=>?_,fun k x hx h8=>?_,fun i j a b ha hb he=>?_,?_⟩
 ·have:=h2 k (aR4.2 (aQz.1 hx).1)
  rw [Prg.nameB_at hx,if_pos h2',hvar,Bool.false_or] at this;exact aHs this
 ·have e1:=h2 k (aR4.2 (aQz.1 hx).1)
  rw [Prg.nameB_at hx,if_neg (by omega),if_pos h8,decide_eq_true_eq] at e1;have e2:=h3 k (aR4.2 (aQz.1 hx).1);rw [Prg.arB_at hx,if_pos h8,decide_eq_true_eq] at e2;exact ⟨e1,e2⟩
 ·rcases Nat.lt_trichotomy i j with h0|h0|h0
  ·exact (h7 i j a b h0 ha hb he).elim
  ·exact h0
  ·exact (h7 j i b a h0 hb ha he.symm).elim
 ·obtain ⟨i,hi,_⟩:=aHs h5
  exact ⟨i,hi⟩
theorem Prg.K.root {p:Prg} (h:p.K) {s:ByteArray} (hf:eM p.gs p.gs.length s.toList=some i):∃(s':ByteArray),p.gs[i]?=some ⟨s',(p.rootOf s:Nat)⟩/\s'.toList=s.toList/\p.own (p.rootOf s)=i/\p.rootOf s<p.ns.length:=by
 obtain ⟨h1,⟨a,h2,h3⟩,_⟩:=eX hf;have hr:=(h.v.ag i a h2).2
 have e:p.rootOf s=a.root.toNat:=by unfold Prg.rootOf;rw [hf];simp [h2]
 have e2:a=⟨a.name,(p.rootOf s:Nat)⟩:=by cases a;simp only [Asg.mk.injEq,true_and] at *;omega
 have h4:p.gs[i]?=some ⟨a.name,(p.rootOf s:Nat)⟩:=by rw [h2];exact congrArg some e2
 have ho:=h.v.own_eq (Own.root h4);exact ⟨a.name,h4,h3,ho,by omega⟩
theorem Prg.K.rank_arg {p:Prg} (h:p.K) {x:Nd} (hx:p.ns[j]?=some x) {a:Int} (ha:a∈x.args):p.rank a.toNat<p.rank j/\a.toNat<p.ns.length/\p.own a.toNat=p.own j:=by
 have h1:=(h.v.nd j x hx).2 a ha;have h2:=(aQz.1 hx).1;have h3:=(h.v.own_is h2).down hx (j:=a.toNat) (by rw [Int.toNat_of_nonneg h1.1];exact ha);have h4:=h.v.own_eq h3;unfold Prg.rank;rw [h4];omega
theorem Prg.K.rank_name {p:Prg} (h:p.K) {x:Nd} (hx:p.ns[j]?=some x) (h2:x.op=2) (hv:cT x.name=false):p.rank (p.rootOf x.name)<p.rank j:=by
 obtain ⟨i,hi,h0⟩:=h.name j x hx h2 hv;obtain ⟨s',_,_,h3,h4⟩:=h.root hi;have:=h.v.len;unfold Prg.rank;rw [h3];omega
theorem aAr {p:Prg} {t:Tex} {rec rec':Nat->List Int} {x:Nd} (h1:∀a∈x.args,rec a.toNat=rec' a.toNat) (h2:x.op=2->cT x.name=false->rec (p.rootOf x.name)=rec' (p.rootOf x.name)) :
  evB p n m f tm t rec x=evB p n m f tm t rec' x:=by
 have e:(x.args.map fun a=>rec a.toNat)=x.args.map fun a=>rec' a.toNat:=List.map_congr_left h1;unfold evB;rw [e]
 by_cases o2:x.op=2
 ·cases hv:cT x.name
  ·rw [h2 o2 hv]
  ·rfl
 ·simp only [if_neg o2]
theorem aKw {p:Prg} (h:p.K) {t:Tex}:∀(F F' j:Nat),p.rank j<F->p.rank j<F'->evF p n m f tm t F j=evF p n m f tm t F' j:=by
 intro F
 induction F with
 | zero=>intro F' j hj;omega
 | succ F ih=>
  intro F' j hj h0
  obtain ⟨G,rfl⟩:∃G,F'=G+1:=⟨F' - 1,by omega⟩
  unfold evF
  cases hx:p.ns[j]? with
  | none=>rfl
  | some x=>
   refine aAr (fun a ha=>?_) (fun o2 hv=>?_)
   ·have:=(h.rank_arg hx ha).1
    exact ih G _ (by omega) (by omega)
   ·have:=h.rank_name hx o2 hv
    exact ih G _ (by omega) (by omega)
theorem Prg.K.ev_step {p:Prg} (h:p.K) {t:Tex} {x:Nd} (hx:p.ns[j]?=some x):p.ev n m f tm t j=evB p n m f tm t (p.ev n m f tm t) x:=by
 have e:p.ev n m f tm t j=evB p n m f tm t (evF p n m f tm t (p.rank j)) x:=by
  unfold Prg.ev evF;rw [hx]
 rw [e];refine aAr (fun a ha=>?_) (fun o2 hv=>?_)
 ·exact aKw h _ _ _ (h.rank_arg hx ha).1 (by omega)
 ·exact aKw h _ _ _ (h.rank_name hx o2 hv) (by omega)
theorem wV {α : Type} (L:List α) (g : α->List Int) (hi:i<L.length):(L.map g).getD i []=g L[i]:=by
 rw [aRs,aSo,aQ9 hi]
 rfl
theorem jI {x:Nd} (h:gK x=true):(x.op=1/\inB x.num 0 2559999=true/\x.args.length=0)\/(x.op=2/\x.args.length=0)\/(x.op=3/\x.args.length=1)\/(4<=x.op/\x.op<=7/\x.args.length=2)\/(x.op=8/\x.args.length<=3):=by
 unfold gK at h;simp only [aRd] at h;obtain ⟨⟨_,h2⟩,h3⟩:=h;unfold aB2 at h3
 split at h3
 ·rename_i hc
  have h3:x.args.length=0:=by simpa using h3
  rcases hc with hc|hc
  ·rw [if_pos hc] at h2;exact .inl ⟨hc,h2,h3⟩
  ·exact .inr (.inl ⟨hc,h3⟩)
 split at h3
 ·rename_i hc
  exact .inr (.inr (.inl ⟨hc,by simp at h3;omega⟩))
 split at h3
 ·rename_i hc
  exact .inr (.inr (.inr (.inl ⟨hc.1,hc.2,by simp at h3;omega⟩)))
 split at h3
 ·rename_i hc
  exact .inr (.inr (.inr (.inr ⟨hc,by simp at h3;omega⟩)))
 ·cases h3
theorem Prg.K.ev_good {p:Prg} (h:p.K) {t:Tex} (hm:n*n=m) (hf:∀i,i<m*5->S9 (f i)) (ht:S9 tm):∀(F j:Nat),p.rank j<F->j<p.ns.length->fG m (p.ev n m f tm t j):=by
 intro F
 induction F with
 | zero=>intro j hj;omega
 | succ F ih=>
  intro j hj h0
  have hx:p.ns[j]?=some p.ns[j]:=by simp [h0]
  obtain ⟨x,h1⟩:=e_ (p.ns[j])
  rw [h1] at hx;rw [h.ev_step hx]
  have hA:∀a∈x.args,fG m (p.ev n m f tm t a.toNat):=fun a ha=>by
   have:=h.rank_arg hx ha;exact ih _ (by omega) this.2.1
  unfold evB
  rcases jI (h.v.nd j x hx).1 with ⟨o,h2,h3⟩|⟨o,h3⟩|⟨o,h3⟩|⟨o,o',h3⟩|⟨o,h3⟩
  ·rw [if_pos o]
   have:=aG.1 h2;exact ⟨by simp,fun y hy=>by rw [(aVn.1 hy).2];exact ⟨by omega,by omega⟩⟩
  ·rw [if_neg (by omega),if_pos o]
   cases hv:cT x.name
   ·obtain ⟨i,hi,_⟩:=h.name j x hx o hv
    obtain ⟨s',_,_,h4,h5⟩:=h.root hi;have:=h.rank_name hx o hv;exact ih _ (by omega) h5
   ·refine ⟨by simp,fun y hy=>?_⟩
    obtain ⟨q,hq,rfl⟩:=aS3.1 hy;exact aKv _ hf ht (aR4.1 hq)
  ·rw [if_neg (by omega),if_neg (by omega),if_neg (by omega),if_pos o,wV _ _ (by omega)]
   exact aAq (hA _ (aRh _)).1 (hA _ (aRh _)).1
  ·rw [if_neg (by omega),if_neg (by omega),if_neg (by omega),if_neg (by omega),wV _ _ (by omega),wV _ _ (by omega)]
   exact aAq (hA _ (aRh _)).1 (hA _ (aRh _)).1
  ·rw [if_neg (by omega),if_neg (by omega),if_pos o]
   exact aF8 hm t _ _
def fE (w w':World):Prop:=∀(b:Nat) (cur:Array Value) (fr:Nat×Nat),w.heap[b]?=some (.cells cur 3 fr)->w'.heap[b]?=some (.cells cur 3 fr)
theorem fE.trans (h:fE w w1) (k:fE w1 w2):fE w w2:=fun b c f e=>k b c f (h b c f e)
theorem Ext.keepI (h:Ext w w'):fE w w':=fun b c f e=>(h.block (aRi.1 e).1).trans e
theorem fE.grown {row:Option Nat} (h:w.grownBy w' row) (hr:∀(k:Nat) (cur:Array Value) (fr:Nat×Nat),row=some k->w.heap[k]?≠some (.cells cur 3 fr)):fE w w':=fun b c f e=>
 (h.block b (aRi.1 e).1 (fun e'=>hr b c f e'.symm e)).trans e
theorem fE.setCell (u:Value) (h:∀(cur:Array Value) (fr:Nat×Nat),w.heap[p.block]?≠some (.cells cur 3 fr)):fE w (w.setCell p u):=fun b c f e=>by
 have hne:b≠p.block:=fun e'=>h c f (e'▸e);rw [aQ7 w p u b hne];exact e
theorem aB.keepI (h:aB lo w v xs) (k:fE w w'):aB lo w' v xs:=by
 obtain ⟨⟨h1,h2⟩,h3⟩:=h;refine ⟨⟨h1,?_⟩,h3⟩
 rcases h2 with hn|⟨g,cap,cur,hv,hb,hg,r⟩
 ·exact .inl hn
 ·exact .inr ⟨g,cap,cur,hv,hb,k _ _ _ hg,r⟩
structure Rws (lo:Nat) (w:World) (vs:List Value) (S:List (List Int)):Prop where
 len:vs.length=S.length
 own:∀(i:Nat) (v:Value) (xs:List Int),vs[i]?=some v->S[i]?=some xs->aB lo w v xs
theorem Rws.keepI {S:List (List Int)} (h:Rws lo w vs S) (k:fE w w'):Rws lo w' vs S:=⟨h.len,fun i v xs h1 h2=>(h.own i v xs h1 h2).keepI k⟩
theorem Rws.nil (lo:Nat) (w:World):Rws lo w [] []:=⟨rfl,fun i v xs h=>by simp at h⟩
theorem Rws.snoc {S:List (List Int)} (h:Rws lo w vs S) (hv:aB lo w v xs):Rws lo w (vs++[v]) (S++[xs]):=by
 have hl:=h.len;refine ⟨by simp [hl],fun i u ys h1 h2=>?_⟩
 by_cases hi:i<vs.length
 ·rw [aSb hi] at h1
  rw [aSb (by omega)] at h2;exact h.own i u ys h1 h2
 ·rw [aR0 (by omega)] at h1
  rw [aR0 (by omega)] at h2
  have h0:i - vs.length=0:=by
   have:=(aQz.1 h1).1;simp at this;omega
  rw [h0] at h1;rw [show i - S.length=0 by omega] at h2;simp at h1 h2;subst h1 h2;exact hv
theorem Rws.take {S:List (List Int)} (h:Rws lo w vs S) (k:Nat):Rws lo w (vs.take k) (S.take k):=by
 refine ⟨by simp [h.len],fun i u ys h1 h2=>?_⟩;rw [aS1] at h1 h2
 split at h1
 ·rename_i hk
  rw [if_pos hk] at h2;exact h.own i u ys h1 h2
 ·cases h1
theorem Rws.drop {S:List (List Int)} (h:Rws lo w vs S) (k:Nat):Rws lo w (vs.drop k) (S.drop k):=by
 refine ⟨by simp [h.len],fun i u ys h1 h2=>?_⟩;rw [aTc] at h1 h2;exact h.own _ u ys h1 h2
theorem Rws.set {S:List (List Int)} (h:Rws lo w vs S) (k:Nat) (hv:aB lo w v xs):Rws lo w (vs.set k v) (S.set k xs):=by
 refine ⟨by simp [h.len],fun i u ys h1 h2=>?_⟩;rw [aUm] at h1 h2
 split at h1
 ·rename_i hk
  rw [if_pos hk] at h2
  split at h1
  ·split at h2
   ·injection h1 with h1
    injection h2 with h2;subst h1 h2;exact hv
   ·cases h2
  ·cases h1
 ·rename_i hk
  rw [if_neg hk] at h2;exact h.own i u ys h1 h2
def Apt (vs:List Value):Prop:=vs.Pairwise fun u v=>∀k,u.ownBlock=some k->v.ownBlock≠some k
def zK (r:Value) (vs:List Value):Prop:=∀u∈vs,∀k,u.ownBlock=some k->r.ownBlock≠some k
theorem zK.of {M:Nat} {S:List (List Int)} (h:Rws lo w vs S) (hM:w.heap.size<=M) (hr:∀k,r.ownBlock=some k->M<=k):zK r vs:=by
 intro u hu k hk e;obtain ⟨i,hi,rfl⟩:=aRw hu;have hl:=h.len;have:=((h.own i vs[i] (S[i]'(by omega)) (by simp [hi]) (by simp [show i<S.length by omega])).lt k hk).2;have:=hr k e;omega
theorem Apt.insert (h:Apt (vs++us)) (hr:zK r (vs++us)):Apt ((vs++[r])++us):=by
 unfold Apt at *;simp only [aXs,aTe,aTy,aYv,true_and] at h ⊢;obtain ⟨h1,h2,h3⟩:=h;refine ⟨⟨h1,?_⟩,h2,?_⟩
 ·rintro a ha b rfl k hk
  exact hr a (List.mem_append_left _ ha) k hk
 ·rintro a (ha|rfl) b hb k hk
  ·exact h3 a ha b hb k hk
  ·intro e
   exact hr b (List.mem_append_right _ hb) k e hk
theorem Apt.sub {vs' us':List Value} (h:Apt (vs++us)) (h1:List.Sublist vs' vs) (h2:List.Sublist us' us):Apt (vs'++us'):=List.Pairwise.sublist (h1.append h2) h
theorem Apt.store (h:Apt ((vs++[r])++us)) (k:Nat):Apt (vs++us.set k r):=by
 unfold Apt at *;simp only [aXs,aTe,aTy,aYv,true_and] at h ⊢;obtain ⟨⟨h1,h4⟩,h2,h3⟩:=h
 have h0:∀(us:List Value) (k:Nat),us.Pairwise (fun u v=>∀k,u.ownBlock=some k->v.ownBlock≠some k)->(∀b∈us,∀k,r.ownBlock=some k->b.ownBlock≠some k)->(us.set k r).Pairwise (fun u v=>∀k,u.ownBlock=some k->v.ownBlock≠some k):=by
  intro us
  induction us with
  | nil=>intro k _ _;simp
  | cons x xs ih=>
   intro k hp hr;rw [aWo] at hp
   cases k with
   | zero=>
    rw [aRb,aWo];exact ⟨fun b hb=>hr b (aU7 _ hb),hp.2⟩
   | succ k=>
    rw [aRc,aWo];refine ⟨fun b hb j hj e=>?_,ih k hp.2 fun b hb=>hr b (aU7 _ hb)⟩
    rcases aWd hb with hb|rfl
    ·exact hp.1 b hb j hj e
    ·exact hr x aVm j e hj
 refine ⟨h1,h0 us k h2 fun b hb j hj=>h3 r (.inr rfl) b hb j hj,?_⟩;intro a ha b hb j hj e
 rcases aWd hb with hb|rfl
 ·exact h3 a (.inl ha) b hb j hj e
 ·exact h4 a ha b rfl j hj e
theorem pA:(Tryz.prog.info? 24).map (fun i=>(i.zero,i.size,i.bytes))=some (some (.slice none 0 0),1,24):=by kernel_rfl
theorem ownsRow.form {size:Nat} {xs:List Value} (h:w.ownsRow lo e size v n xs):∃a cap,v = .slice a n cap:=by
 rcases h.2 with ⟨rfl,h4⟩|⟨g,cap,cur,rfl,hb,hg,hc,hm,hs,ht⟩
 ·exact ⟨none,0,by rw [h4]⟩
 ·exact ⟨some ⟨g,0,none⟩,cap,rfl⟩
theorem fF (w:World) {ops:Array Oper} {rest:List Oper} {o:Oper} {a:Act} {Q:Exit->Act->World->Prop} (hg:o.guard=none) (s x:Operand)
  (hop:o.op=Op.call { callee:=Callee.builtin Builtin.append,args:=#[s,x],argTypes:=#[76,76] }) (lo:Nat) (v:Value) (n:Nat) (vs:List Value) (hs:a.eval s=v) (hown:w.ownsRow lo 24 1 v n vs)
  (y:Value) (hy:y.oneCell'=true) (b:Nat) (hx:a.eval x = .slice (some ⟨b,0,none⟩) 1 1) (hcell:w.cell? ⟨b,0,none⟩=some y) (hlen:n<1000000) (hlo:lo<=w.heap.size)
  (hK:∀v' w',w'.ownsRow lo 24 1 v' (n+1) (vs++[y])->w.grownBy w' v.ownBlock->wpList aQ2 ops Q rest (a.put o.dst v') w'):wpList aQ2 ops Q (o::rest) a w:=by
 obtain ⟨i0,h2,h3,h4,h5⟩:=info_parts pA;refine wpList_append_own w hg s x 76 hop lo 24 i0 (.slice none 0 0) 1 24 underlying76 h2 h3 h4 h5 rfl (by decide) v n _ hs hown ⟨b,0,none⟩ 1 1 [y] hx rfl ?_ ?_ ?_ ?_ hlo ?_
 ·intro j u hj
  match j,hj with
  | 0,hj=>simp at hj;subst hj;exact hcell
 ·intro u hu;simp at hu;subst hu;exact hy
 ·unfold maxLen;omega
 ·omega
 ·intro v' w1 h1 h0 _
  exact hK v' w1 h1 h0
theorem dH (w:World) {ops:Array Oper} {rest:List Oper} {o:Oper} {a:Act} {Q:Exit->Act->World->Prop} (hg:o.guard=none) (s x:Operand)
  (hop:o.op=Op.call { callee:=Callee.builtin Builtin.append,args:=#[s,x],argTypes:=#[76,76] }) (lo:Nat) (v:Value) (n:Nat) (vs:List Value) (hs:a.eval s=v) (hown:w.ownsRow lo 24 1 v n vs)
  (ys:List Value) (hy:∀y∈ys,y.oneCell'=true) (b off cap:Nat) (hx:a.eval x = .slice (some ⟨b,off,none⟩) ys.length cap) (hcell:∀i y,ys[i]?=some y->w.cell? ⟨b,off+i,none⟩=some y) (hlen:n+ys.length<1000000) (hlo:lo<=w.heap.size)
  (hK:∀v' w',w'.ownsRow lo 24 1 v' (n+ys.length) (vs++ys)->w.grownBy w' v.ownBlock->wpList aQ2 ops Q rest (a.put o.dst v') w'):wpList aQ2 ops Q (o::rest) a w:=by
 obtain ⟨i0,h2,h3,h4,h5⟩:=info_parts pA;refine wpList_append_own w hg s x 76 hop lo 24 i0 (.slice none 0 0) 1 24 underlying76 h2 h3 h4 h5 rfl (by decide) v n _ hs hown ⟨b,off,none⟩ ys.length cap ys hx (by simp) ?_ hy ?_ ?_ hlo ?_
 ·intro j u hj
  have:=hcell j u hj
  rwa [Addr.add_lit]
 ·unfold maxLen;omega
 ·omega
 ·intro v' w1 h1 h0 _
  exact hK v' w1 h1 h0
theorem aI5 (b off n cap:Nat) (w:World):(binOp .eql 24 (.slice (some ⟨b,off,none⟩) n cap) (.slice none 0 0)).run aQ2 w = .ok (.bool false) w:=by
 simp only [binOp];simp [Op.equal,Op.maxDepth,aWc w 9999 24 3 (some ⟨b,off,none⟩) n cap 0 0 underlying24]
theorem aI6 (b off n cap:Nat) (w:World):(binOp .eql 76 (.slice (some ⟨b,off,none⟩) n cap) (.slice none 0 0)).run aQ2 w = .ok (.bool false) w:=by
 simp only [binOp];simp [Op.equal,Op.maxDepth,aWc w 9999 76 24 (some ⟨b,off,none⟩) n cap 0 0 underlying76]
theorem wW (lo hi:Nat) (u:Value) (xs:List Int) (w:World) (hu:aU lo hi w u xs) (hh:hi<=w.heap.size) (h1:1<=xs.length) (h2:xs.length<=144) :
  Calls aQ2 164 #[u] w fun e w'=>∃v',e = .returned v'/\aB w.heap.size w' v' xs/\Ext w w':=by
 obtain ⟨a,cap,rfl,HU⟩:=hu.open;obtain ⟨b,h7,rfl,q0,q1,_⟩:=HU.at (k:=0) (by omega);have l1:=HU.le;have l2:=HU.cap;clear hu;go_enter func164,ntmps164
 have HC:∀i y,xs[i]?=some y->I64 y/\(w.alloc (.cells #[] 3)).cell? ⟨b,h7+i,none⟩=some (.int .i64 y):=by
  intro i y hy;obtain ⟨h3,b',h9,e,h4,h5,h6⟩:=HU.cell i y hy;simp only [aQ0,aR1,and_true] at e;obtain ⟨rfl,rfl⟩:=e;exact ⟨h3,(((aQ6 w).alloc _).cells.1 b _ (by omega)).trans h6⟩
 have HC:=hid HC;have h8:=fun w=>aI5 b h7 xs.length cap w;go_wp2_with (at_builtin;refine bY _ rfl _ _ rfl w.heap.size (.slice (some ⟨w.heap.size,0,none⟩) 0 0) [] xs rfl (aB.empty (aQv _) (cB w _)) b h7 cap rfl HC (by simp;omega) (by simp) ?_;intro v' w1 h0 hg;obtain ⟨a',c',rfl,_⟩:=h0.form);go_ret;exact ⟨_,rfl,by simpa using h0,((aQ6 w).alloc _).grown hg (fun k e=>by simp [aRu] at e;omega)⟩
theorem ownsRow.empty (hl:lo<=g) (hg:w.heap[g]?=some (.cells #[] e)):w.ownsRow lo e 1 (.slice (some ⟨g,0,none⟩) 0 0) 0 []:=
 ⟨rfl,.inr ⟨g,0,#[],rfl,hl,hg,aQv _,aSi _,rfl,rfl⟩⟩
theorem zL (b off cap:Nat) (ys:List Value) (w:World) (hb:b<w.heap.size) (hc:ys.length<=cap) (hc2:cap<=9223372036854775807) (hcell:∀i y,ys[i]?=some y->w.cell? ⟨b,off+i,none⟩=some y) (hy:∀y∈ys,y.oneCell'=true) (h2:ys.length<=1000) :
  Calls aQ2 273 #[.slice (some ⟨b,off,none⟩) ys.length cap] w fun e w'=>∃v',e = .returned v'/\w'.ownsRow w.heap.size 24 1 v' ys.length ys/\Ext w w':=by
 go_enter func273,ntmps273;have HC:∀i y,ys[i]?=some y->(w.alloc (.cells #[] 24)).cell? ⟨b,off+i,none⟩=some y:=fun i y h=>(((aQ6 w).alloc _).cells.1 b _ hb).trans (hcell i y h);have HC:=hid HC;have HY:=hid hy;have h1:=fun w=>aI6 b off ys.length cap w;clear hcell hy;go_wp2_with (at_builtin;refine dH _ rfl _ _ rfl w.heap.size (.slice (some ⟨w.heap.size,0,none⟩) 0 0) 0 [] rfl (ownsRow.empty (aQv _) (cB w _)) ys HY b off cap rfl HC (by omega) (by simp) ?_;intro v' w1 h0 hg;obtain ⟨a',c',rfl⟩:=ownsRow.form h0);go_ret;exact ⟨_,rfl,by simpa using h0,((aQ6 w).alloc _).grown hg (fun k e=>by simp [aRu] at e;omega)⟩
def Nls (us:List Value) (L:List (List Int)):Prop:=∀(j:Nat) (u:Value),us[j]?=some u->L[j]?=some []->u = .slice none 0 0
theorem Nls.set {L:List (List Int)} (h:Nls us L) (j:Nat) (hx:xs≠[]):Nls (us.set j v) (L.set j xs):=by
 intro i u h1 h2;rw [aUm] at h1 h2
 by_cases e:j=i
 ·rw [if_pos e] at h2
  split at h2
  ·injection h2 with h2;exact absurd h2 hx
  ·cases h2
 ·rw [if_neg e] at h1 h2
  exact h i u h1 h2
theorem Nls.nils (k:Nat):Nls (aRj k (.slice none 0 0)) (aRj k []):=by
 intro j u h1 _;rw [aT0] at h1
 split at h1
 ·injection h1 with h1;exact h1.symm
 ·cases h1
structure fC (lo lo2:Nat) (w:World) (mb n:Nat) (pu tu:Value) (tm lg:Int) (sv lv:Value) (vs us:List Value) (S L:List (List Int)):Prop where
 box:w.heap[mb]?=some (.cells #[n,pu,tm,lg,tu,sv,lv] 276)
 low:lo<=mb
 so:w.ownsRow lo2 24 1 sv vs.length vs
 lo':w.ownsRow lo 24 1 lv us.length us
 sep:∀k,lv.ownBlock=some k->k<lo2
 hl:lo<=lo2
 hl2:lo2<=w.heap.size
 sl:vs.length=S.length
 rows:Rws lo w (vs++us) (S++L)
 apt:Apt (vs++us)
 nls:Nls us L
theorem aQ {t:TypeId} (h:w.heap[b]?=some (.cells cs t)) (i:Nat):w.cell? ⟨b,i,none⟩=cs[i]?:=by simp [aSy,h]
theorem dP {t:TypeId} (h:w.heap[b]?=some (.cells cs t)) (i:Nat):w.frozen? ⟨b,i,none⟩=false:=by simp [World.frozen?,h]
theorem fC.lt {S L:List (List Int)} (M:fC lo lo2 w mb n pu tu tm lg sv lv vs us S L):mb<w.heap.size:=(aRi.1 M.box).1
theorem ownsRow.not {size:Nat} {xs:List Value} (h:w.ownsRow lo e size v n xs) {A:Nat} {T:TypeId} (hA:w.heap[A]?=some (.cells cs T)) (hT:T≠e):v.ownBlock≠some A:=by
 intro k
 rcases h.2 with ⟨rfl,_⟩|⟨g,cap,cur,rfl,_,hg,_⟩
 ·cases k
 ·simp only [aRu,aQ0] at k
  subst k;rw [hg] at hA;simp only [aQ0,Obj.cells.injEq] at hA;exact hT hA.2.1.symm
theorem ownsRow.int {size:Nat} {xs:List Value} (h:w.ownsRow lo e size v n xs) (hT:e≠3):∀(k:Nat) (cur:Array Value) (fr:Nat×Nat),v.ownBlock=some k->w.heap[k]?≠some (.cells cur 3 fr):=by
 intro k cur fr hk e'
 rcases h.2 with ⟨rfl,_⟩|⟨g,cap,cur',rfl,_,hg,_⟩
 ·cases hk
 ·simp only [aRu,aQ0] at hk
  subst hk;rw [hg] at e';simp only [aQ0,Obj.cells.injEq] at e';exact hT e'.2.1
structure lC (lo:Nat) (w w':World):Prop where
 below:Below lo w w'
 keep:fE w w'
theorem lC.trans (h:lC lo w w1) (k:lC lo w1 w2):lC lo w w2:=⟨h.below.trans k.below,h.keep.trans k.keep⟩
theorem Ext.step (h:Ext w w') (hl:lo<=w.heap.size):lC lo w w':=⟨aY0 h hl,h.keepI⟩
theorem lC.size (h:lC lo w w'):w.heap.size<=w'.heap.size:=Below.size h.below
theorem fC.ext {S L:List (List Int)} (M:fC lo lo2 w mb n pu tu tm lg sv lv vs us S L) (e:Ext w w'):fC lo lo2 w' mb n pu tu tm lg sv lv vs us S L:=by
 have hg:w.grownBy w' none:=⟨Below.os e,Below.tape e,Below.output e,e.size,fun k hk _=>e.block hk⟩
 exact ⟨(e.block M.lt).trans M.box,M.low,M.so.kept hg (by cases sv.ownBlock <;> simp),M.lo'.kept hg (by cases lv.ownBlock <;> simp),M.sep,M.hl,aQ5 M.hl2 e.size,M.sl,M.rows.keepI e.keepI,M.apt,M.nls⟩
theorem aAs {x0 x1 x2 x3 x4 x5 x6:Value} {t:TypeId} (h:w.heap[b]?=some (.cells #[x0,x1,x2,x3,x4,x5,x6] t)) (v:Value):(w.setCell ⟨b,5,none⟩ v).heap[b]?=some (.cells #[x0,x1,x2,x3,x4,v,x6] t):=by
 simp [World.setCell,Array.getElem?_modify,h]
theorem Rws.insert {S L:List (List Int)} (hl:vs.length=S.length) (h:Rws lo w (vs++us) (S++L)) (hv:aB lo w v xs):Rws lo w ((vs++[v])++us) ((S++[xs])++L):=by
 have h0:=h.len;simp only [aRq] at h0;refine ⟨by simp;omega,fun i u ys h1 h2=>?_⟩
 by_cases h3:i<vs.length
 ·rw [aRx,aSb h3] at h1
  rw [aRx,aSb (by omega)] at h2;exact h.own i u ys (by rw [aSb h3];exact h1) (by rw [aSb (by omega)];exact h2)
 ·by_cases h4:i=vs.length
  ·subst h4
   rw [aRx,aR0 (aQv _)] at h1;rw [aRx,hl,aR0 (aQv _)] at h2;simp at h1 h2;subst h1 h2;exact hv
  ·rw [aR0 (by simp;omega)] at h1
   rw [aR0 (by simp;omega)] at h2;refine h.own (i - 1) u ys ?_ ?_
   ·rw [aR0 (by omega),show i - 1 - vs.length=i - (vs++[v]).length by simp;omega]
    exact h1
   ·rw [aR0 (by omega),show i - 1 - S.length=i - (S++[xs]).length by simp;omega]
    exact h2
theorem lX {S L:List (List Int)} (M:fC lo lo2 w mb n pu tu tm lg sv lv vs us S L) (hr:aB lo w r xs) (hlone:zK r (vs++us)) (hS:vs.length<=1000) :
  Calls aQ2 256 #[.pointer (some ⟨mb,0,none⟩),r] w fun e w'=>e = .returned (.tuple #[])/\(∃sv',fC lo lo2 w' mb n pu tu tm lg sv' lv (vs++[r]) us (S++[xs]) L)/\lC lo w w'/\∀b,b<w.heap.size->b≠mb->sv.ownBlock≠some b->w'.heap[b]?=w.heap[b]?:=by
 obtain ⟨sa,sc,rfl⟩:=ownsRow.form M.so;obtain ⟨ra,rc,rfl,_⟩:=hr.form;have hb:=M.lt;have x1:=M.low;have c5:=aQ M.box 5;have f5:=dP M.box 5;simp at c5;have q7:=ownsRow.not M.so M.box (by decide);have HM:=hid M;have HR:=hid hr;have HL:=hid hlone;clear M hr hlone;go_enter func256,ntmps256;go_wp2_with (at_builtin;refine fF _ rfl _ _ rfl lo2 _ _ _ rfl (aVd HM.so _) (.slice ra xs.length rc) rfl w.heap.size rfl (by simp [go_sem]) (by omega) (by have:=HM.hl2;simp;omega) ?_;intro v' w1 h4 hg;obtain ⟨va,vc,rfl⟩:=ownsRow.form h4;obtain ⟨x2,h6⟩:mb<w1.heap.size/\w1.heap[mb]?=w.heap[mb]?:=⟨by have:=hg.size;simp at this;omega,(hg.block mb (by simp;omega) (fun e=>q7 e.symm)).trans ((aQ6 w).alloc _ |>.block hb)⟩;have h0:=h6.trans HM.box;have d5:=aQ h0 5;have g5:=dP h0 5;simp at d5;have h9:=hid h0;clear h0 h6)
 go_end0
 obtain ⟨M,h8,h3,h0⟩:fC lo lo2 w mb n pu tu tm lg (.slice sa vs.length sc) lv vs us S L/\_/\_/\_:=⟨HM,h4,hg,h9⟩
 have hr:=HR.out;have x0:Ext w (w.alloc (.cells #[.slice ra xs.length rc] 24)):=X_;have q5:lo<=w.heap.size:=aQ5 M.hl M.hl2;have h7:=aSw M.so;have k1:fE w w1:=x0.keepI.trans (fE.grown h3 (fun k cur fr hk=>ownsRow.int (aVd M.so _) (by decide) k cur fr hk))
 have k2:fE w1 (w1.setCell ⟨mb,5,none⟩ (.slice va (vs.length+1) vc)):=fE.setCell _ (fun cur fr e=>by
  rw [h0] at e
  simp at e)
 have q6:=ownsRow.not h8 h0 (by decide)
 have h5:w1.grownBy (w1.setCell ⟨mb,5,none⟩ (.slice va (vs.length+1) vc)) (some mb):=⟨rfl,rfl,rfl,by simp,fun k hk hne=>aQ7 _ _ _ _ (by simpa using hne)⟩
 have q3:=M.lo'.alloc (.cells #[.slice ra xs.length rc] 24);have q4:=ownsRow.not M.lo' M.box (by decide);refine ⟨rfl,⟨_,aAs h0 _,M.low,?_,?_,M.sep,M.hl,by have:=h3.size;have:=x0.size;have:=M.hl2;simp;omega,by simp [M.sl],?_,?_,M.nls⟩,⟨?_,k1.trans k2⟩,?_⟩
 ·have:=h8.kept h5 (.inr q6)
  simpa using this
 ·refine (q3.kept h3 ?_).kept h5 (.inr q4)
  cases hk:lv.ownBlock with
  | none=>exact .inl rfl
  | some k=>
   refine .inr fun e=>?_;have h1:=M.sep k hk;have h2:=(h7 k e.symm).1;omega
 ·have q8:=(M.rows.keepI (k1.trans k2))
  have q9:aB lo _ _ _:=hr.keepI (k1.trans k2);exact Rws.insert M.sl q8 q9
 ·exact M.apt.insert HL
 ·exact aXm (Below.grown (aY0 x0 q5) h3 (by have:=x0.size;omega) (fun k hk=>by have:=(h7 k hk).1;have:=M.hl;omega)) M.low _
 ·intro b q0 q1 q2
  exact (aQ7 _ _ _ _ q1).trans ((h3.block b (by simp;omega) (fun e=>q2 e.symm)).trans (x0.block q0))
theorem aU.setLow (h:aU lo hi w v xs) (hp:p.block<lo) (x:Value):aU lo hi (w.setCell p x) v xs:=
 h.same (fun k h1 _=>aQ7 _ _ _ _ (by omega))
def ndC (xs:List Nd) (us:Nat->Value) (i:Nat):Value:=
 match xs[i / 4]? with
 | some x=>if i % 4=0 then .int .i64 x.op else if i % 4=1 then .string x.name else if i % 4=2 then .int .i64 x.num else us (i / 4)
 | none=>.int .i64 0
def ndZ (i:Nat):Value:=if i % 4=1 then .string ⟨#[]⟩ else if i % 4=3 then .slice none 0 0 else .int .i64 0
theorem aB6 {xs:List Nd} {us:Nat->Value} {x:Nd} (h:xs[k]?=some x):ndC xs us (k*4) = .int .i64 x.op/\ndC xs us (k*4+1) = .string x.name/\ndC xs us (k*4+2) = .int .i64 x.num/\ndC xs us (k*4+3)=us k:=by
 refine ⟨?_,?_,?_,?_⟩
 ·unfold ndC
  rw [show k*4 / 4=k by omega,h,show k*4 % 4=0 by omega]
  rfl
 ·unfold ndC
  rw [show (k*4+1) / 4=k by omega,h,show (k*4+1) % 4=1 by omega]
  rfl
 ·unfold ndC
  rw [show (k*4+2) / 4=k by omega,h,show (k*4+2) % 4=2 by omega]
  rfl
 ·unfold ndC
  rw [show (k*4+3) / 4=k by omega,h,show (k*4+3) % 4=3 by omega]
  rfl
theorem aOg (k:Nat):ndZ (k*4) = .int .i64 0/\ndZ (k*4+1) = .string ⟨#[]⟩/\ndZ (k*4+2) = .int .i64 0/\ndZ (k*4+3) = .slice none 0 0:=by
 refine ⟨?_,?_,?_,?_⟩
 ·unfold ndZ;rw [show k*4 % 4=0 by omega];rfl
 ·unfold ndZ;rw [show (k*4+1) % 4=1 by omega];rfl
 ·unfold ndZ;rw [show (k*4+2) % 4=2 by omega];rfl
 ·unfold ndZ;rw [show (k*4+3) % 4=3 by omega];rfl
theorem aMn {xs:List Nd} {us:Nat->Value} {u:Value}:∀i,i<k*4->ndC xs us i=ndC xs (fun j=>if j=k then u else us j) i:=by
 intro i hi;unfold ndC;simp only [if_neg (show ¬i / 4=k by omega)]
theorem aMo:(Tryz.prog.info? 197).map (fun i=>(i.zero,i.size,i.bytes))=some (some (.agg #[(),.string ⟨#[]⟩,(),.slice none 0 0]),4,56):=by kernel_rfl
theorem aMp (n:Nat):∀i,i<n->(madeCells #[(),.string ⟨#[]⟩,(),.slice none 0 0] n)[i]?=some (ndZ i):=by
 intro i hi;unfold ndZ;have:i % 4<4:=aTp _ (by decide)
 rcases (show i % 4=0\/i % 4=1\/i % 4=2\/i % 4=3 by omega) with e|e|e|e <;> simp [madeCells,hi,e]
theorem aI7 (lo hi lo' hi':Nat) (u v:Value) (xs:List Int) (w:World) (hu:aU lo hi w u xs) (hv:aU lo' hi' w v xs) :
  R_ 82 #[u,v] w (.bool true):=(vL lo hi lo' hi' u v xs xs w hu hv).mono fun e w' ⟨h1,n,h2⟩=>⟨by rw [h1];simp,by rw [h2];exact (aQ6 w).drewN n⟩
theorem aD0 (lo hi lo' hi':Nat) (op:Int) (s:ByteArray) (n:Int) (u u':Value) (r:List Int) (w:World) (hu:aU lo hi w u r) (hv:aU lo' hi' w u' r) (hh:hi<=w.heap.size) (hh':hi'<=w.heap.size) :
  R_ 183 #[.agg #[op,.string s,n,u],.agg #[op,.string s,n,u']] w (.bool true):=by
 have HU:=hid hu;have HV:=hid hv;have x0:Ext w ((w.alloc (.cells #[op,.string s,n,u] 197)).alloc (.cells #[op,.string s,n,u'] 197)):=X_;clear hu hv;go_enter func183,ntmps183;go_wp2_with fail;refine r_ (aI7 lo hi lo' hi' _ _ r _ (HU.ext hh x0) (HV.ext hh' x0)) fun w1 x1=>?_;have X1:=x0.trans x1;go_wp2;go_ret;exact ⟨rfl,X1⟩
theorem aB7 (lo hi lo' hi':Nat) (u v:Value) (xs:List Nd) (w:World) (hu:Nds lo hi w u xs) (hv:Nds lo' hi' w v xs) (hh:hi<=w.heap.size) (hh':hi'<=w.heap.size) :
  R_ 129 #[u,v] w (.bool true):=by
 obtain ⟨a,cap,rfl,HU⟩:=hu.open;obtain ⟨a',q0,rfl,HV⟩:=hv.open;clear hu hv;have h1:=HU.le;have h2:=HU.cap;have q6:=HV.le;have q7:=HV.cap;go_enter func129,ntmps129;go_wp2
 go_loopw [5] (fun i wr=>∃k:Nat,k<=xs.length/\i = .int .i64 k/\Ext w wr) (fun i _=>xs.length - (intOf i).toNat)
 case atStart=>exact ⟨0,by omega,rfl,X_⟩
 case round=>
  obtain ⟨k,hk,rfl,hx⟩:=hrel
  by_cases h8:k<xs.length
  ·obtain ⟨b,x6,op,s,n,ua,ra,rfl,q8,q9,h4,h5,io,x4,h7,x0,x1,x2,x3⟩:=HU.at h8 hx hh
   obtain ⟨b',q4,x7,s',n',q5,x8,rfl,q1,q2,h3,h0,x5,q3,h6,x9,z0,z1,z2⟩:=HV.at h8 hx hh';rw [h5] at h0;simp only [aQ0,Nd.mk.injEq] at h0;obtain ⟨rfl,rfl,rfl,rfl⟩:=h0;have HX:=hid hx;have HI:=hid h7;have h9:=hid h6;have zx:=hx.size;clear hx h4 h3 h5 h7 h6;go_wp2_with fail;refine aA [([0,1,2,3,4,5,6,7],8),([],9)] 99 wr.heap.size (by kernel_rfl) (by kernel_rfl) ?_;refine st_ fun K hK=>?_;go_wp2_with fail;refine r_ (aD0 lo hi lo' hi' op s n ua q5 ra _ (HI.ext (by omega) X_) (h9.ext (by omega) X_) (by simp;omega) (by simp;omega)) fun w1 h1=>?_;have y1:Ext wr w1:=aQ3 X_ h1;go_wp2_with fail;refine k_ hK ?_;clear hK K;refine st_ fun K hK=>?_;go_wp2_with fail;refine k_ hK ?_;clear hK K;refine aC ?_;have hX:=HX.trans y1;clear h1 y1 HX;go_wp2;go_roundw
   case rel=>exact ⟨k+1,by omega,by go_num,hX⟩
   case measure=>simp [intOf];omega
  ·go_wp2
   go_ret;exact ⟨rfl,hx⟩
theorem Nds.wide {hi':Nat} {xs:List Nd} (h:Nds lo hi w v xs) (h1:lo'<=lo) (h2:hi<=hi'):Nds lo' hi' w v xs:=by
 obtain ⟨a,cap,g1,g2,g3,g4⟩:=h;refine ⟨a,cap,g1,g2,g3,fun i x hx=>?_⟩;obtain ⟨h5,b,q1,u,h6,h7,h8,h9,h0,h3,h4,q0⟩:=g4 i x hx;exact ⟨h5,b,q1,u,h6,by omega,by omega,h9,h0,h3,h4,q0.wide h1 h2⟩
theorem nH.wide {hi':Nat} {xs:List Asg} (h:nH lo hi w v xs) (h1:lo'<=lo) (h2:hi<=hi'):nH lo' hi' w v xs:=by
 obtain ⟨a,cap,g1,g2,g3,g4⟩:=h;refine ⟨a,cap,g1,g2,g3,fun i x hx=>?_⟩;obtain ⟨h5,b,h0,h6,h7,h8,h9⟩:=g4 i x hx;exact ⟨h5,b,h0,h6,by omega,by omega,h9⟩
def agC (xs:List Asg) (i:Nat):Value:=
 match xs[i / 2]? with
 | some x=>if i % 2=0 then .string x.name else .int .i64 x.root
 | none=>.int .i64 0
def agZ (i:Nat):Value:=if i % 2=0 then .string ⟨#[]⟩ else .int .i64 0
theorem aF9 {xs:List Asg} {x:Asg} (h:xs[k]?=some x):agC xs (k*2) = .string x.name/\agC xs (k*2+1) = .int .i64 x.root:=by
 refine ⟨?_,?_⟩
 ·unfold agC
  rw [show k*2 / 2=k by omega,h,show k*2 % 2=0 by omega]
  rfl
 ·unfold agC
  rw [show (k*2+1) / 2=k by omega,h,show (k*2+1) % 2=1 by omega]
  rfl
theorem aOh (k:Nat):agZ (k*2) = .string ⟨#[]⟩/\agZ (k*2+1) = .int .i64 0:=by
 refine ⟨?_,?_⟩
 ·unfold agZ;rw [show k*2 % 2=0 by omega];rfl
 ·unfold agZ;rw [show (k*2+1) % 2=1 by omega];rfl
theorem aMq:(Tryz.prog.info? 200).map (fun i=>(i.zero,i.size,i.bytes))=some (some (.agg #[.string ⟨#[]⟩,()]),2,24):=by kernel_rfl
theorem aMr (n:Nat):∀i,i<n->(madeCells #[.string ⟨#[]⟩,()] n)[i]?=some (agZ i):=by
 intro i hi;unfold agZ;have:i % 2<2:=aTp _ (by decide)
 rcases (show i % 2=0\/i % 2=1 by omega) with e|e <;> simp [madeCells,hi,e]
theorem aI8 (s:ByteArray) (n:Int) (w:World):R_ 181 #[.agg #[.string s,n]] w (.agg #[.string s,n]):=by
 go_enter func181,ntmps181;go_wp2;refine bodyPost_ret (v:=.agg #[.string s,n]) (by simp [results,results181,go_sem]) rfl ⟨rfl,?_⟩;exact S_
theorem aGa (s:ByteArray) (n:Int) (w:World):R_ 184 #[.agg #[.string s,n],.agg #[.string s,n]] w (.bool true):=by
 go_enter func184,ntmps184;go_wp2;go_ret;exact ⟨rfl,S_⟩
theorem aD1 (lo hi lo' hi':Nat) (u v:Value) (xs:List Asg) (w:World) (hu:nH lo hi w u xs) (hv:nH lo' hi' w v xs) (hh:hi<=w.heap.size) (hh':hi'<=w.heap.size) :
  R_ 130 #[u,v] w (.bool true):=by
 obtain ⟨a,cap,rfl,HU⟩:=hu.open;obtain ⟨a',h7,rfl,HV⟩:=hv.open;clear hu hv;have h1:=HU.le;have h2:=HU.cap;have q1:=HV.le;have q2:=HV.cap;go_enter func130,ntmps130;go_wp2
 go_loopw [5] (fun i wr=>∃k:Nat,k<=xs.length/\i = .int .i64 k/\Ext w wr) (fun i _=>xs.length - (intOf i).toNat)
 case atStart=>exact ⟨0,by omega,rfl,X_⟩
 case round=>
  obtain ⟨k,hk,rfl,hx⟩:=hrel
  by_cases h6:k<xs.length
  ·obtain ⟨b,q6,s,n,rfl,q3,q4,h4,h5,io,x0,x1⟩:=HU.at h6 hx hh
   obtain ⟨b',q0,s',n',rfl,h8,h9,h3,h0,q5,q7,q8⟩:=HV.at h6 hx hh';rw [h5] at h0;simp only [aQ0,Asg.mk.injEq] at h0;obtain ⟨rfl,rfl⟩:=h0;have HX:=hid hx;clear hx h4 h3 h5;go_wp2;refine cK (by kernel_rfl) (by kernel_rfl) ?_
   repeat (go_big_quiet_step ((go_at_call 184;exact cE (aGa _ _ _))))
   refine wpQuiet_nil ?_;intro w1 h1;have hX:=HX.trans h1;clear h1 HX;go_wp2;go_roundw
   case rel=>exact ⟨k+1,by omega,by go_num,hX⟩
   case measure=>simp [intOf];omega
  ·go_wp2
   go_ret;exact ⟨rfl,hx⟩
theorem wX (lo hi lo' hi':Nat) (v v':Value) (p:Prg) (w:World) (hv:p.R lo hi w v) (hh:hi<=w.heap.size) (hv':p.R lo' hi' w v') (hh':hi'<=w.heap.size) :
  R_ 83 #[v,v'] w (.bool true):=by
 obtain ⟨iu,lu,rfl,h4,h6⟩:=hv;obtain ⟨h0,h1,rfl,h5,h7⟩:=hv';have HI:=hid h4;have HL:=hid h6;have h8:=hid h5;have h9:=hid h7;clear h4 h6 h5 h7;have x0:Ext w ((w.alloc (.cells #[iu,lu] 119)).alloc (.cells #[h0,h1] 119)):=X_;have bA:=(Bx.made w #[iu,lu] 119).ext ((aQ6 _).alloc (.cells #[h0,h1] 119));have bB:=Bx.madeAt (B:=w.heap.size+1) (w.alloc (.cells #[iu,lu] 119)) #[h0,h1] 119 (by simp);go_enter func83,ntmps83;go_wp2_with fail;refine r_ (aB7 lo hi lo' hi' _ _ p.ns _ (HI.ext hh x0) (h8.ext hh' x0) (aQ5 hh x0.size) (aQ5 hh' x0.size)) fun w1 x1=>?_;have h2:=bA.ext x1;have h3:=bB.ext x1;have X1:=x0.trans x1;clear bA bB x0 x1;have y:=h2.lt;obtain ⟨y0,y1⟩:=h2.q2;have q:=h3.lt;obtain ⟨q0,q1⟩:=h3.q2;go_wp2_with fail;refine r_ (aD1 lo hi lo' hi' _ _ p.gs _ (HL.ext hh X1) (h9.ext hh' X1) (aQ5 hh X1.size) (aQ5 hh' X1.size)) fun w2 x2=>?_;go_wp2;go_ret;exact ⟨rfl,X1.trans x2⟩
section
open Go.RowKit Go.Maps Go.WideMaps
noncomputable def aMs (p:Prg) (g:Grd) (i j:Int):Bool:=p.chkB&&g.okB&&inB i 0 (g.n - 1)&&inB j 0 (g.n - 1)
end
section
open Go.RowKit Go.Maps Go.WideMaps
noncomputable def evV (p:Prg) (g:Grd):Nat->List Int:=p.ev g.n.toNat g.m g.f g.tm g.t
theorem aO8 {n m i j:Nat} (hm:n*n=m) (hi:i<n) (hj:j<n):j*n+i<m:=by
 have h1:(j+1)*n<=n*n:=aSq n hj;rw [aTf,aTh] at h1;omega
end
section
open Go.RowKit Go.Maps Go.WideMaps
noncomputable def wY (p:Prg) (g:Grd) (q:Nat) (l:List UInt8):Int:=match eM p.gs p.gs.length l with|some k=>(evV p g (((p.gs[k]?).map fun a=>a.root.toNat).getD 0)).getD q 0|none=>256
noncomputable def shC (p:Prg) (g:Grd) (i j:Int):Int:=if aMs p g i j=true then aR (wY p g (j*g.n+i).toNat [99,111,108,111,114]) 0 256 else 0
noncomputable def shA (p:Prg) (g:Grd) (i j:Int):Int:=if aMs p g i j=true then aR (wY p g (j*g.n+i).toNat [97,108,112,104,97]) 0 256 else 0
theorem aKx:(⟨#[97,108,112,104,97]⟩:ByteArray).toList=[97,108,112,104,97]:=by rw [aVu]
theorem wZ {p:Prg} {g:Grd} {q:Nat} {l:List UInt8} {k r:Nat} {s:ByteArray} (h:eM p.gs p.gs.length l=some k) (hk:p.gs[k]?=some ⟨s,r⟩):wY p g q l=(evV p g r).getD q 0:=by
 unfold wY;rw [h];simp [hk]
theorem aGb {p:Prg} {g:Grd} {q:Nat} {l:List UInt8} (h:eM p.gs p.gs.length l=none):wY p g q l=256:=by unfold wY;rw [h]
theorem Prg.K.asg {p:Prg} (h:p.K) {l:List UInt8} {k:Nat} (hf:eM p.gs p.gs.length l=some k):∃(s:ByteArray) (r:Nat),p.gs[k]?=some ⟨s,(r:Nat)⟩/\r<p.ns.length/\k<p.gs.length/\s.toList=l:=by
 obtain ⟨h1,⟨a,h2,h3⟩,_⟩:=eX hf;have hr:=(h.v.ag k a h2).2;refine ⟨a.name,a.root.toNat,?_,by omega,h1,h3⟩;rw [h2]
 cases a
 simp only [aQ0,Asg.mk.injEq,true_and] at *;omega
end
theorem ownsRow.shrink {xs:List Value} (h:w.ownsRow lo e 1 (.slice (some ⟨g,0,none⟩) n cap) n xs) (hq:q<=n):w.ownsRow lo e 1 (.slice (some ⟨g,0,none⟩) q cap) q (xs.take q):=by
 obtain ⟨h1,h2⟩:=h;refine ⟨by simp;omega,?_⟩
 rcases h2 with ⟨hn,_⟩|⟨g',cap',cur,hv,hb,hg,hc,hm,hs,ht⟩
 ·simp at hn
 ·simp only [aRo,aQ0,aR1,and_true,true_and] at hv
  obtain ⟨rfl,rfl⟩:=hv;refine .inr ⟨g,cap,cur,rfl,hb,hg,by omega,hm,hs,?_⟩;rw [<-ht,List.take_take,aUv,aUv,aTi hq]
theorem ownsRow.caps {xs:List Value} (h:w.ownsRow lo e 1 (.slice (some ⟨g,0,none⟩) n cap) n xs):n<=cap/\cap<=9223372036854775807:=by
 rcases h.2 with ⟨hn,_⟩|⟨g',cap',cur,hv,hb,hg,hc,hm,hs,ht⟩
 ·simp at hn
 ·simp only [aRo,aQ0,aR1,and_true,true_and] at hv
  obtain ⟨rfl,rfl⟩:=hv;unfold maxLen at hm;exact ⟨hc,by omega⟩
theorem ownsRow.form1 {size:Nat} {xs:List Value} (h:w.ownsRow lo e size v n xs) (hn:1<=n):∃g cap,v = .slice (some ⟨g,0,none⟩) n cap/\lo<=g/\g<w.heap.size:=by
 rcases h.2 with ⟨rfl,h4⟩|⟨g,cap,cur,rfl,hb,hg,hc,hm,hs,ht⟩
 ·omega
 ·exact ⟨g,cap,rfl,hb,(aRi.1 hg).1⟩
theorem Rws.one {S:List (List Int)} (h:Rws lo w vs S):∀v∈vs,v.oneCell'=true:=by
 intro v hv;obtain ⟨i,hi,rfl⟩:=aRw hv;have hl:=h.len;obtain ⟨a,c,e,_⟩:=(h.own i vs[i] (S[i]'(by omega)) (by simp [hi]) (by simp [show i<S.length by omega])).form;rw [e]
 rfl
theorem Rws.left {S L:List (List Int)} (hl:vs.length=S.length) (h:Rws lo w (vs++us) (S++L)):Rws lo w vs S:=by
 have:=h.take vs.length
 rwa [aZv,hl,aZv] at this
theorem Rws.right {S L:List (List Int)} (hl:vs.length=S.length) (h:Rws lo w (vs++us) (S++L)):Rws lo w us L:=by
 have:=h.drop vs.length
 rwa [aZr,hl,aZr] at this
theorem Rws.app {S L:List (List Int)} (h:Rws lo w vs S) (k:Rws lo w us L):Rws lo w (vs++us) (S++L):=by
 have hl:=h.len;refine ⟨by simp [h.len,k.len],fun i u ys h1 h2=>?_⟩
 by_cases h3:i<vs.length
 ·rw [aSb h3] at h1
  rw [aSb (by omega)] at h2;exact h.own i u ys h1 h2
 ·rw [aR0 (by omega)] at h1 h2
  rw [hl] at h1;exact k.own _ u ys h1 h2
theorem vI {S L:List (List Int)} (M:fC lo lo2 w mb n pu tu tm lg sv lv vs us S L) (p q:Nat) (hp:1<=p) (hq:q+p=vs.length) (hS:vs.length<=1000) :
  Calls aQ2 258 #[.pointer (some ⟨mb,0,none⟩),p] w fun e w'=>∃r,e = .returned r/\w'.ownsRow w.heap.size 24 1 r p (vs.drop q)/\(∃sv',fC lo lo2 w' mb n pu tu tm lg sv' lv (vs.take q) us (S.take q) L/\sv'.ownBlock=sv.ownBlock)/\lC lo w w'/\∀b,b<w.heap.size->b≠mb->w'.heap[b]?=w.heap[b]?:=by
 obtain ⟨g,sc,rfl,q5,h9⟩:=ownsRow.form1 M.so (by omega);have hb:=M.lt;have q6:=M.low;obtain ⟨l1,l2⟩:=ownsRow.caps M.so;have c5:=aQ M.box 5;have f5:=dP M.box 5;simp at c5
 have q8:(vs.length:Int) - p=q:=by omega
 have q9:vs.length - q=p:=by omega
 have q2:=ownsRow.not M.so M.box (by decide)
 have h7:(vs.drop q).length=p:=by simp;omega
 have h0:∀i y,(vs.drop q)[i]?=some y->w.cell? ⟨g,q+i,none⟩=some y:=by
  intro i y hy;rw [aTc] at hy;have q7:=(aQz.1 hy).1;rw [aS5 M.so (q+i) (by omega)];exact hy
 have h3:∀y∈vs.drop q,y.oneCell'=true:=fun y hy=>(Rws.left M.sl M.rows).one y (aUi hy);have HM:=hid M;have HC:=hid h0;have HO:=hid h3;have HD:=hid h7;clear M h0 h3 h7;go_enter func258,ntmps258;go_wp2_with fail;have h5:=zL g q (sc - q) (vs.drop q) w h9 (by rw [HD];omega) (by omega) HC HO (by rw [HD];omega);rw [HD] at h5;refine h5.mono ?_;rintro e w1 ⟨r,rfl,hr,x1⟩;obtain ⟨ra,rc,rfl⟩:=ownsRow.form hr;have M1:=HM.ext x1;have b5:=aQ M1.box 5;have g5:=dP M1.box 5;simp at b5;have h6:=M1.lt;have HR:=hid hr;have h8:=hid M1;clear h5 hr M1 c5 f5;go_wp2;go_ret
 obtain ⟨M,hr⟩:fC lo lo2 w1 mb n pu tu tm lg _ lv vs us S L/\_:=⟨h8,HR⟩
 have k2:fE w1 (w1.setCell ⟨mb,5,none⟩ (.slice (some ⟨g,0,none⟩) q sc)):=fE.setCell _ (fun cur fr e=>by
  rw [M.box] at e
  simp at e)
 have h4:w1.grownBy (w1.setCell ⟨mb,5,none⟩ (.slice (some ⟨g,0,none⟩) q sc)) (some mb):=⟨rfl,rfl,rfl,by simp,fun k hk hne=>aQ7 _ _ _ _ (by simpa using hne)⟩
 have q0:=ownsRow.not M.lo' M.box (by decide);have q1:lo<=w.heap.size:=aQ5 HM.hl HM.hl2;have q3:=ownsRow.not hr M.box (by decide)
 have q4:(vs.take q).length=q:=by simp;omega
 refine ⟨_,rfl,hr.kept h4 (.inr q3),⟨_,⟨aAs M.box _,M.low,?_,M.lo'.kept h4 (.inr q0),M.sep,M.hl,by have:=M.hl2;simpa using this,by simp [M.sl],?_,?_,M.nls⟩,rfl⟩,⟨?_,x1.keepI.trans k2⟩,fun b hb1 h6=>(aQ7 _ _ _ _ h6).trans (x1.block hb1)⟩
 ·rw [q4]
  exact (ownsRow.shrink M.so (by omega)).kept h4 (.inr q2)
 ·have h1:=(Rws.left M.sl M.rows).keepI k2
  have h2:=(Rws.right M.sl M.rows).keepI k2;exact (h1.take q).app h2
 ·exact M.apt.sub (List.take_sublist _ _) (List.Sublist.refl _)
 ·exact aXm (aY0 x1 q1) M.low _
theorem SC.go {C:Addr->Prop} (h:SC C w w1) (k:∀a,C a->w2.heap[a.block]?=w1.heap[a.block]?):SC C w w2:=SC.of fun a ha=>by
 have h1:=h.get a ha;exact ⟨(aSe (k a ha)).trans h1.1,(aSt (k a ha)).trans h1.2⟩
theorem lY {α : Type} (l:List α) (q:Nat) (hq:q+1=l.length):∃x,l.drop q=[x]/\l=l.take q++[x]:=by
 refine ⟨l[q]'(by omega),?_,?_⟩
 ·rw [aTd (by omega),aWw (by omega)]
 ·rw [<-aRv (by omega),aR3 (by omega)]
theorem xB {α : Type} (l:List α) (q:Nat) (hq:q+2=l.length):∃x y,l.drop q=[x,y]/\l=l.take q++[x]++[y]:=by
 refine ⟨l[q]'(by omega),l[q+1]'(by omega),?_,?_⟩
 ·rw [aTd (by omega),aTd (by omega),aWw (by omega)]
 ·rw [<-aRv (by omega),<-aRv (by omega),aR3 (by omega)]
theorem aI9 {S L:List (List Int)} (M:fC lo lo2 w mb n pu tu tm lg sv lv vs us S L) (q m:Nat) (op:Int) (hop:nA op) (hq:q+1=S.length) (hS:S.length<=1000)
  (hg:∀r∈S,fG m r) (hm:m<=64) :
  Calls aQ2 255 #[.pointer (some ⟨mb,0,none⟩),op] w fun e w'=>e = .returned (.tuple #[])/\(∃sv' vs',fC lo lo2 w' mb n pu tu tm lg sv' lv vs' us (S.take q++[aTq (eU op) (S.getD q []) (S.getD q [])]) L)/\lC lo w w':=by
 have x1:=M.sl;obtain ⟨x,h7,q9⟩:=lY vs q (by omega);obtain ⟨xs,h0,q3⟩:=lY S q hq;have hR:=Rws.left M.sl M.rows
 have h3:aB lo w x xs:=by
  have:=(hR.drop q).own 0 x xs (by rw [h7];rfl) (by rw [h0];rfl);exact this
 have h9:S.getD q []=xs:=by
  have h1:S[q]?=(S.drop q)[0]?:=by rw [aTc,aSk]
  rw [aTz,h1,h0]
  rfl
 rw [h9];obtain ⟨g1,g2⟩:=hg xs (by rw [q3];simp);replace g1:=hid g1;replace h9:=hid h9
 obtain ⟨zs,h4⟩:=e_ (aTq (eU op) xs xs)
 rw [h4];replace h4:=hid h4;have HM:=hid M;have HO:=hid h3;have h8:=hid h7;have q2:lo<=w.heap.size:=aQ5 M.hl M.hl2;clear M h3 hR h7 q9 h0 q3;go_enter func255,ntmps255;go_wp2_with fail;refine (vI HM 1 q (aQv _) (by omega) (by omega)).mono ?_;rintro e w1 ⟨r,rfl,hr,⟨sv1,M1,hsv0⟩,st1,fr1⟩;have h6:∀k,sv1.ownBlock=some k->k<w.heap.size:=fun k hk=>(aSw HM.so k (hsv0▸hk)).2;clear hsv0;obtain ⟨rb,rc,rfl,q7,h5⟩:=ownsRow.form1 hr (aQv _);rw [h8.out] at hr;have r0:=aS5 hr 0 (by omega);simp at r0;obtain ⟨xa,xc,rfl,_⟩:=HO.form;have q0:=hid M1;have q5:=hid ((HO.keepI st1.keep));have hu:=hid (q5.ints.wide (aSi _) (aQv _));have q4:=hid st1;have x0:=hid fr1;have h0:=st1.size;clear HM M1 st1 fr1;go_wp2_with fail;refine aJ [([0,1,2,3,4,5,6,7],8),([],9)] 99 (fun w'=>∃d,w'=fU (fun a=>a.block=rb) _ d) (by kernel_rfl) (by kernel_rfl) (SC.drew _ _) ?_;refine sc_ fun K hK=>?_;go_wp2_with fail;refine (pX 0 w1.heap.size 0 w1.heap.size _ _ op xs xs _ hop (hu.out.ext (aQv _) (aRz (aQ6 _))) (aQv _) (hu.out.ext (aQv _) (aRz (aQ6 _))) (aQv _) rfl (by rw [g1.out];omega) g2 g2).mono ?_;rintro e w2 ⟨y,rfl,hy,x2⟩;rw [h4.out] at hy;obtain ⟨ya,yc,rfl,_⟩:=hy.form;have X2:Ext w1 w2:=aQ3 (aRz (aQ6 _)) x2;have q1:SC (fun a=>a.block=rb) w1 w2:=SC.blocks (fun a ha=>by rw [ha];exact X2.block h5);go_wp2_with fail;refine hK _ _ (.inr (q1)) ?_;clear hK K;refine sc_ fun K hK=>?_;go_wp2_with fail;have M2:=q0.ext X2;have h2:=zK.of (M:=w1.heap.size) q0.rows (aQv _) (fun k hk=>(hy.lt k hk).1);refine (lX M2 (hy.low (aQ5 q2 h0)) h2 (by simp;omega)).mono ?_;rintro e w3 ⟨rfl,⟨sv3,M3⟩,st3,fr3⟩
 have q6:SC (fun a=>a.block=rb) w1 w3:=q1.go (fun a ha=>by
  have q8:=ownsRow.not (hr.kept (row:=none) ⟨X2.os,X2.tape,X2.output,X2.size,fun k hk _=>X2.block hk⟩ (by simp [aRu])) M2.box (by decide);rw [ha]
  exact fr3 rb (by have:=X2.size;omega) (fun e=>q8 (by rw [e];rfl)) (fun e=>by have:=h6 rb e;omega))
 go_wp2_with fail;refine hK _ _ (.inr (q6)) ?_;clear hK K;refine aP ?_;go_wp2
 go_end0
 exact ⟨rfl,⟨sv3,_,M3⟩,q4.trans ((X2.step (aQ5 q2 h0)).trans st3)⟩
theorem aGc {S L:List (List Int)} (M:fC lo lo2 w mb n pu tu tm lg sv lv vs us S L) (q m:Nat) (op:Int) (hop:nA op) (hq:q+2=S.length) (hS:S.length<=1000)
  (hg:∀r∈S,fG m r) (hm:m<=64) :
  Calls aQ2 254 #[.pointer (some ⟨mb,0,none⟩),op] w fun e w'=>e = .returned (.tuple #[])/\(∃sv' vs',fC lo lo2 w' mb n pu tu tm lg sv' lv vs' us (S.take q++[aTq (eU op) (S.getD q []) (S.getD (q+1) [])]) L)/\lC lo w w':=by
 have x6:=M.sl;obtain ⟨x,x',h5,x4⟩:=xB vs q (by omega);obtain ⟨xs,ys,h2,h8⟩:=xB S q hq;have hR:=Rws.left M.sl M.rows
 have h4:aB lo w x xs:=by
  have:=(hR.drop q).own 0 x xs (by rw [h5];rfl) (by rw [h2];rfl);exact this
 have h0:aB lo w x' ys:=by
  have:=(hR.drop q).own 1 x' ys (by rw [h5];rfl) (by rw [h2];rfl);exact this
 have q1:S.getD q []=xs:=by
  have h1:S[q]?=(S.drop q)[0]?:=by rw [aTc,aSk]
  rw [aTz,h1,h2]
  rfl
 have q2:S.getD (q+1) []=ys:=by
  have h1:S[q+1]?=(S.drop q)[1]?:=by rw [aTc]
  rw [aTz,h1,h2]
  rfl
 rw [q1,q2];obtain ⟨g1,g2⟩:=hg xs (by rw [h8];simp);obtain ⟨g3,g4⟩:=hg ys (by rw [h8];simp);replace g1:=hid g1;replace g3:=hid g3;replace q1:=hid q1;replace q2:=hid q2
 obtain ⟨zs,h6⟩:=e_ (aTq (eU op) xs ys)
 rw [h6];replace h6:=hid h6;have HM:=hid M;have HO:=hid h4;have q4:=hid h0;have q0:=hid h5;have q6:lo<=w.heap.size:=aQ5 M.hl M.hl2;clear M h4 h0 hR h5 x4 h2 h8;go_enter func254,ntmps254;go_wp2_with fail;refine (vI HM 2 q (by omega) (by omega) (by omega)).mono ?_;rintro e w1 ⟨r,rfl,hr,⟨sv1,M1,hsv0⟩,st1,fr1⟩;have h9:∀k,sv1.ownBlock=some k->k<w.heap.size:=fun k hk=>(aSw HM.so k (hsv0▸hk)).2;clear hsv0;obtain ⟨rb,rc,rfl,x0,h7⟩:=ownsRow.form1 hr (by omega);rw [q0.out] at hr;have r0:=aS5 hr 0 (by omega);have r1:=aS5 hr 1 (by omega);simp at r0 r1;obtain ⟨xa,xc,rfl,_⟩:=HO.form;obtain ⟨x7,x8,rfl,_⟩:=q4.form;have q3:=hid M1;have q8:=hid ((HO.keepI st1.keep));have hu:=hid (q8.ints.wide (aSi _) (aQv _));have x3:=hid ((q4.keepI st1.keep).ints.wide (aSi _) (aQv _));have q7:=hid st1;have x5:=hid fr1;have h2:=st1.size;clear HM M1 st1 fr1;go_wp2_with fail;refine aJ [([0,1,2,3,4,5,6,7],8),([],9)] 99 (fun w'=>∃d,w'=fU (fun a=>a.block=rb) _ d) (by kernel_rfl) (by kernel_rfl) (SC.drew _ _) ?_;refine sc_ fun K hK=>?_;go_wp2_with fail;refine (pX 0 w1.heap.size 0 w1.heap.size _ _ op xs ys _ hop (hu.out.ext (aQv _) (aRz (aQ6 _))) (aQv _) (x3.out.ext (aQv _) (aRz (aQ6 _))) (aQv _) (by rw [g1.out,g3.out]) (by rw [g3.out];omega) g2 g4).mono ?_;rintro e w2 ⟨y,rfl,hy,x2⟩;rw [h6.out] at hy;obtain ⟨ya,yc,rfl,_⟩:=hy.form;have X2:Ext w1 w2:=aQ3 (aRz (aQ6 _)) x2;have q5:SC (fun a=>a.block=rb) w1 w2:=SC.blocks (fun a ha=>by rw [ha];exact X2.block h7);go_wp2_with fail;refine hK _ _ (.inr (q5)) ?_;clear hK K;refine sc_ fun K hK=>?_;go_wp2_with fail;have M2:=q3.ext X2;have h3:=zK.of (M:=w1.heap.size) q3.rows (aQv _) (fun k hk=>(hy.lt k hk).1);refine (lX M2 (hy.low (aQ5 q6 h2)) h3 (by simp;omega)).mono ?_;rintro e w3 ⟨rfl,⟨sv3,M3⟩,st3,fr3⟩
 have q9:SC (fun a=>a.block=rb) w1 w3:=q5.go (fun a ha=>by
  have x1:=ownsRow.not (hr.kept (row:=none) ⟨X2.os,X2.tape,X2.output,X2.size,fun k hk _=>X2.block hk⟩ (by simp [aRu])) M2.box (by decide);rw [ha]
  exact fr3 rb (by have:=X2.size;omega) (fun e=>x1 (by rw [e];rfl)) (fun e=>by have:=h9 rb e;omega))
 go_wp2_with fail;refine hK _ _ (.inr (q9)) ?_;clear hK K;refine aP ?_;go_wp2
 go_end0
 exact ⟨rfl,⟨sv3,_,M3⟩,q7.trans ((X2.step (aQ5 q6 h2)).trans st3)⟩
def CMx (mb xb:Nat):Addr->Prop:=fun a=>a.block=xb\/a=⟨mb,0,none⟩\/a=⟨mb,1,none⟩\/a=⟨mb,2,none⟩\/a=⟨mb,3,none⟩\/a=⟨mb,4,none⟩\/a=⟨mb,6,none⟩
@[go_sem] theorem aO9 (mb xb o:Nat):CMx mb xb ⟨xb,o,none⟩:=.inl rfl
@[go_sem] theorem aQe (mb xb:Nat):CMx mb xb ⟨mb,0,none⟩:=.inr (.inl rfl)
@[go_sem] theorem aQf (mb xb:Nat):CMx mb xb ⟨mb,1,none⟩:=.inr (.inr (.inl rfl))
@[go_sem] theorem aQg (mb xb:Nat):CMx mb xb ⟨mb,2,none⟩:=.inr (.inr (.inr (.inl rfl)))
@[go_sem] theorem aQh (mb xb:Nat):CMx mb xb ⟨mb,3,none⟩:=.inr (.inr (.inr (.inr (.inl rfl))))
@[go_sem] theorem aQi (mb xb:Nat):CMx mb xb ⟨mb,4,none⟩:=.inr (.inr (.inr (.inr (.inr (.inl rfl)))))
@[go_sem] theorem aPa (mb xb:Nat):CMx mb xb ⟨mb,6,none⟩:=.inr (.inr (.inr (.inr (.inr (.inr rfl)))))
theorem jJ {xb:Nat} {sv':Value} {vs' us':List Value} {S L S' L':List (List Int)} (M:fC lo lo2 w mb n pu tu tm lg sv lv vs us S L) (M':fC lo lo2 w' mb n pu tu tm lg sv' lv vs' us' S' L')
  (hx:w'.heap[xb]?=w.heap[xb]?):SC (CMx mb xb) w w':=SC.of fun a ha=>by
 rcases ha with ha|ha|ha|ha|ha|ha|ha
 ·have h:w'.heap[a.block]?=w.heap[a.block]?:=by rw [ha];exact hx
  exact ⟨aSe h,aSt h⟩
 all_goals
  subst ha;rw [aQ M.box,aQ M'.box,dP M.box,dP M'.box];exact ⟨rfl,rfl⟩
structure iD (lo:Nat) (w:World) (n m:Nat) (pu tu:Value) (f:Nat->Int) (tm:Int) (t:Tex):Prop where
 flats:cY 5 0 lo w pu m f
 tex:cN 0 lo w (.agg #[t.log,tu]) t
 hm:n*n=m
 h1:1<=n
 h8:n<=8
 ok:t.okB=true
 tm9:S9 tm
 f9:∀i,i<m*5->S9 (f i)
theorem iD.step {t:Tex} (h:iD lo w n m pu tu f tm t) (s:Below lo w w'):iD lo w' n m pu tu f tm t:=by
 have e:aM 0 lo w w':=fun b _ hb=>s.block b hb;exact ⟨h.flats.same e,h.tex.same e,h.hm,h.h1,h.h8,h.ok,h.tm9,h.f9⟩
theorem iD.hmi {t:Tex} (h:iD lo w n m pu tu f tm t):(n:Int)*n=m/\1<=m/\m<=64:=by
 have h1:=h.h1;have h8:=h.h8;have h2:n*n<=8*8:=aRy h8 h8;have h3:1*1<=n*n:=aRy h1 h1;have:=h.hm;refine ⟨by rw [<-h.hm];simp,by omega,by omega⟩
theorem ownsRow.ss {p:Nat} {S:List (List Int)} (h:w.ownsRow lo 24 1 v p vs) (hr:Rws lo' w vs S):SS 0 w.heap.size w v S:=by
 have hl:=hr.len
 have hp:p=S.length:=by have:=h.1;omega
 subst hp
 rcases h.2 with ⟨rfl,h4⟩|⟨g,cap,cur,rfl,hb,hg,hc,hm,hs,ht⟩
 ·refine ⟨none,0,by rw [h4],by omega,by unfold maxLen;omega,fun i xs hx=>?_⟩
  have:=(aQz.1 hx).1;omega
 ·refine ⟨some ⟨g,0,none⟩,cap,rfl,hc,hm,fun i xs hx=>?_⟩
  have hi:=(aQz.1 hx).1
  obtain ⟨v,hv⟩:∃v,vs[i]?=some v:=⟨vs[i]'(by omega),by simp [show i<vs.length by omega]⟩
  refine ⟨g,0,v,rfl,aSi _,(aRi.1 hg).1,?_,(hr.own i _ xs hv hx).ints.wide (aSi _) (aQv _)⟩;have e:=hv;rw [<-ht,aS1,if_pos (by omega)] at e;simp only [aSy,hg,Nat.zero_add];rw [<-Array.getElem?_toList];exact e
theorem aPb {t:Tex} {S L:List (List Int)} (M:fC lo lo2 w mb n pu tu tm t.log sv lv vs us S L) (G:iD lo w n m pu tu f tm t) (s:ByteArray) (num:Int) (hn:I64 num) (hS:S.length<=1000)
  (zs:List Int) (hz:aRj m num=zs) :
  Calls aQ2 223 #[.pointer (some ⟨mb,0,none⟩),.agg #[.int .i64 1,.string s,num]] w fun e w'=>e = .returned (.tuple #[])/\(∃sv' vs',fC lo lo2 w' mb n pu tu tm t.log sv' lv vs' us (S++[zs]) L)/\lC lo w w':=by
 obtain ⟨q1,q2,q3⟩:=G.hmi;have hb:=M.lt;have h6:=M.sl;have c0:=aQ M.box 0;have c1:=aQ M.box 1;have c2:=aQ M.box 2;have c3:=aQ M.box 3;have c4:=aQ M.box 4;simp at c0 c1 c2 c3 c4;have h4:lo<=w.heap.size:=aQ5 M.hl M.hl2;have h5:=aSw M.so;have x0:Ext w (w.alloc (.cells #[.int .i64 1,.string s,num] 221)):=X_;have HM:=hid (M.ext x0)
 have h1:w.heap.size<(w.alloc (.cells #[.int .i64 1,.string s,num] 221)).heap.size:=by simp
 replace hz:=hid hz;clear M G;go_enter func223,ntmps223;go_wp2_with fail;refine aJ [([0,1,2,3,4,5,6],7),([],8)] 99 (fun w'=>∃d,w'=fU (CMx mb w.heap.size) _ d) (by kernel_rfl) (by kernel_rfl) (SC.drew _ _) ?_;refine sc_ fun K hK=>?_;go_wp2_with fail;refine (pU num n m _ _ _ _ _ q1 (by omega) hn).mono ?_;rintro e w2 ⟨y,rfl,hy,x2⟩;rw [hz.out] at hy;obtain ⟨ya,yc,rfl,_⟩:=hy.form;have X2:Ext (w.alloc (.cells #[.int .i64 1,.string s,num] 221)) w2:=aQ3 (aRz (aQ6 _)) x2;have M2:=HM.ext X2;have h2:=jJ HM M2 (X2.block h1);go_wp2_with fail;refine hK _ _ (.inr (h2)) ?_;clear hK K;refine sc_ fun K hK=>?_;go_wp2_with fail;have h0:=zK.of (M:=(w.alloc (.cells #[.int .i64 1,.string s,num] 221)).heap.size) HM.rows (aQv _) (fun k hk=>(hy.lt k hk).1);refine (lX M2 (hy.low (by have:=x0.size;simp;omega)) h0 (by omega)).mono ?_;rintro e w3 ⟨rfl,⟨sv3,M3⟩,st3,fr3⟩;have h3:=jJ HM M3 ((fr3 w.heap.size (by have:=X2.size;omega) (by omega) (fun e=>by have:=(h5 _ e).2;omega)).trans (X2.block h1));go_wp2_with fail;refine hK _ _ (.inr (h3)) ?_;clear hK K;refine aP ?_;go_wp2
 go_end0
 exact ⟨rfl,⟨sv3,_,M3⟩,((x0.trans X2).step h4).trans st3⟩
theorem aPc {t:Tex} {S L:List (List Int)} (M:fC lo lo2 w mb n pu tu tm t.log sv lv vs us S L) (G:iD lo w n m pu tu f tm t) (s:ByteArray) (num:Int) (hS:S.length<=1000)
  (zs:List Int) (hz:(aRl m).map (lL s.toList f tm)=zs) :
  Calls aQ2 223 #[.pointer (some ⟨mb,0,none⟩),.agg #[.int .i64 2,.string s,num]] w fun e w'=>e = .returned (.tuple #[])/\(∃sv' vs',fC lo lo2 w' mb n pu tu tm t.log sv' lv vs' us (S++[zs]) L)/\lC lo w w':=by
 obtain ⟨q1,q2,q3⟩:=G.hmi;have hb:=M.lt;have h6:=M.sl;have c0:=aQ M.box 0;have c1:=aQ M.box 1;have c2:=aQ M.box 2;have c3:=aQ M.box 3;have c4:=aQ M.box 4;simp at c0 c1 c2 c3 c4;have h1:lo<=w.heap.size:=aQ5 M.hl M.hl2;have h5:=aSw M.so;have x0:Ext w (w.alloc (.cells #[.int .i64 2,.string s,num] 221)):=X_;have HM:=hid (M.ext x0)
 have h2:w.heap.size<(w.alloc (.cells #[.int .i64 2,.string s,num] 221)).heap.size:=by simp
 replace hz:=hid hz;have HF:=hid (G.flats.ext h1 x0);have t9:=G.tm9.i64;clear M G;go_enter func223,ntmps223;go_wp2_with fail;refine aJ [([0,1,2,3,4,5,6],7),([],8)] 99 (fun w'=>∃d,w'=fU (CMx mb w.heap.size) _ d) (by kernel_rfl) (by kernel_rfl) (SC.drew _ _) ?_;refine sc_ fun K hK=>?_;go_wp2_with fail;refine (aDz s 0 lo n m _ _ f tm _ _ (HF.ext (aQ5 h1 x0.size) (aRz (aQ6 _))) (aQ5 h1 x0.size) q1 q3 t9).mono ?_;rintro e w2 ⟨y,rfl,hy,x2⟩;rw [hz.out] at hy;obtain ⟨ya,yc,rfl,_⟩:=hy.form;have X2:Ext (w.alloc (.cells #[.int .i64 2,.string s,num] 221)) w2:=aQ3 (aRz (aQ6 _)) x2;have M2:=HM.ext X2;have h3:=jJ HM M2 (X2.block h2);go_wp2_with fail;refine hK _ _ (.inr (h3)) ?_;clear hK K;refine sc_ fun K hK=>?_;go_wp2_with fail;have h0:=zK.of (M:=(w.alloc (.cells #[.int .i64 2,.string s,num] 221)).heap.size) HM.rows (aQv _) (fun k hk=>(hy.lt k hk).1);refine (lX M2 (hy.low (by have:=x0.size;simp;omega)) h0 (by omega)).mono ?_;rintro e w3 ⟨rfl,⟨sv3,M3⟩,st3,fr3⟩;have h4:=jJ HM M3 ((fr3 w.heap.size (by have:=X2.size;omega) (by omega) (fun e=>by have:=(h5 _ e).2;omega)).trans (X2.block h2));go_wp2_with fail;refine hK _ _ (.inr (h4)) ?_;clear hK K;refine aP ?_;go_wp2
 go_end0
 exact ⟨rfl,⟨sv3,_,M3⟩,((x0.trans X2).step h1).trans st3⟩
theorem aPd {t:Tex} {S L:List (List Int)} (M:fC lo lo2 w mb n pu tu tm t.log sv lv vs us S L) (G:iD lo w n m pu tu f tm t) (s:ByteArray) (num:Int) (hS:S.length<=1000)
  (zs:List Int) (p q:Nat) (hp:cA s=p) (hp1:1<=p) (hq:q+p=S.length) (hg:∀r∈S,fG m r) (hz:eJ n m t s.toList (S.drop q)=zs) :
  Calls aQ2 223 #[.pointer (some ⟨mb,0,none⟩),.agg #[.int .i64 7,.string s,num]] w fun e w'=>e = .returned (.tuple #[])/\(∃sv' vs',fC lo lo2 w' mb n pu tu tm t.log sv' lv vs' us (S.take q++[zs]) L)/\lC lo w w':=by
 obtain ⟨q1,q2,q3⟩:=G.hmi;have hb:=M.lt;have x2:=M.sl;have c0:=aQ M.box 0;have c1:=aQ M.box 1;have c2:=aQ M.box 2;have c3:=aQ M.box 3;have c4:=aQ M.box 4;simp at c0 c1 c2 c3 c4;have h5:lo<=w.heap.size:=aQ5 M.hl M.hl2;have q6:=aSw M.so;have x0:Ext w (w.alloc (.cells #[.int .i64 7,.string s,num] 221)):=X_;have HM:=hid (M.ext x0)
 have h4:w.heap.size<(w.alloc (.cells #[.int .i64 7,.string s,num] 221)).heap.size:=by simp
 replace hz:=hid hz;have HG:=hid (G.step (x0.step h5).below);have h3:∀r∈S.drop q,fG m r:=fun r hr=>hg r (aUi hr)
 have h2:(S.drop q).length=p:=by simp;omega
 replace hp:=hid hp;replace hg:=hid hg;replace h3:=hid h3;replace h2:=hid h2;clear M G;go_enter func223,ntmps223;go_wp2_with fail;refine aJ [([0,1,2,3,4,5,6,7,8,9],10),([],11),([],12),([],13)] 99 (fun w'=>∃d,w'=fU (CMx mb w.heap.size) _ d) (by kernel_rfl) (by kernel_rfl) (SC.drew _ _) ?_;refine sc_ fun K hK=>?_;go_wp2_with fail;refine z_ (qJ hp.out _) ?_;have X1:Ext (w.alloc (.cells #[.int .i64 7,.string s,num] 221)) (w.alloc (.cells #[.int .i64 7,.string s,num] 221)).drew:=aRz (aQ6 _);have M1:=HM.ext X1;have h6:=jJ HM M1 (X1.block h4);go_wp2_with fail;refine hK _ _ (.inr (h6)) ?_;clear hK K;refine sc_ fun K hK=>?_;go_wp2_with fail;refine (vI M1 p q hp1 (by omega) (by omega)).mono ?_;rintro e w2 ⟨r,rfl,hr,⟨sv2,M2,hsv2⟩,st2,fr2⟩;obtain ⟨ra,rc,rfl⟩:=ownsRow.form hr;have h7:=jJ HM M2 ((fr2 w.heap.size (by have:=X1.size;omega) (by omega)).trans (X1.block h4));have HR:=hid hr;go_wp2_with fail;refine hK _ _ (.inr (h7)) ?_;clear hK K;refine sc_ fun K hK=>?_;go_wp2_with fail;have G2:=HG.step ((X1.step (by simp;omega)).trans st2).below;have q9:=st2.size;have q8:=X1.size;have q7:=x0.size
 have q4:SS 0 w2.heap.size w2 (.slice ra p rc) (S.drop q):=by
  have q5:=((Rws.left M1.sl M1.rows).drop q).keepI st2.keep;exact ownsRow.ss HR q5
 refine (aDy s (S.drop q) 0 w2.heap.size 0 lo n m _ _ _ tm t w2 (by rw [hp.out];omega) (by rw [h2.out,hp.out]) G2.ok q4 (aQv _) G2.tex (by omega) h3.out G2.hm G2.h1 G2.h8).mono ?_;rintro e w3 ⟨y,rfl,hy,x3⟩;rw [hz.out] at hy;obtain ⟨ya,yc,rfl,_⟩:=hy.form;have M3:=M2.ext x3;have f2:=(fr2 w.heap.size (by omega) (by omega)).trans (X1.block h4);have f3:=(x3.block (by omega)).trans f2;have h9:=jJ HM M3 f3;go_wp2_with fail;refine hK _ _ (.inr (h9)) ?_;clear hK K;refine sc_ fun K hK=>?_;go_wp2_with fail;have h0:=zK.of (M:=w2.heap.size) M2.rows (aQv _) (fun k hk=>(hy.lt k hk).1);refine (lX M3 (hy.low (by omega)) h0 (by simp;omega)).mono ?_;rintro e w4 ⟨rfl,⟨sv4,M4⟩,st4,fr4⟩;have x1:=x3.size;have q0:=jJ HM M4 ((fr4 w.heap.size (by omega) (by omega) (fun e=>by have:=(q6 _ (hsv2▸e)).2;omega)).trans f3);go_wp2_with fail;refine hK _ _ (.inr (q0)) ?_;clear hK K;refine aP ?_;go_wp2
 go_end0
 exact ⟨rfl,⟨sv4,_,M4⟩,(((x0.trans X1).step h5).trans st2).trans ((x3.step (by omega)).trans st4)⟩
def CMl (mb xb lb:Nat):Addr->Prop:=fun a=>a.block=lb\/CMx mb xb a
@[go_sem] theorem aQj (mb xb lb o:Nat):CMl mb xb lb ⟨lb,o,none⟩:=.inl rfl
@[go_sem] theorem aQk (mb xb lb o:Nat):CMl mb xb lb ⟨xb,o,none⟩:=.inr (aO9 _ _ _)
@[go_sem] theorem aQl (mb xb lb:Nat):CMl mb xb lb ⟨mb,6,none⟩:=.inr (aPa _ _)
theorem aKy {xb lb:Nat} (h:SC (CMx mb xb) w w') (hl:w'.heap[lb]?=w.heap[lb]?):SC (CMl mb xb lb) w w':=SC.of fun a ha=>by
 rcases ha with ha|ha
 ·have h:w'.heap[a.block]?=w.heap[a.block]?:=by rw [ha];exact hl
  exact ⟨aSe h,aSt h⟩
 ·exact h.get a ha
theorem aPe {S L:List (List Int)} (M:fC lo lo2 w mb n pu tu tm lg sv lv vs us S L) (s:ByteArray) (j:Nat) (xs:List Int) (hx:L[j]?=some xs) (h1:1<=xs.length) (h2:xs.length<=64) (hS:S.length<=1000) :
  Calls aQ2 223 #[.pointer (some ⟨mb,0,none⟩),.agg #[.int .i64 3,.string s,j]] w fun e w'=>e = .returned (.tuple #[])/\(∃sv' vs',fC lo lo2 w' mb n pu tu tm lg sv' lv vs' us (S++[xs]) L)/\lC lo w w':=by
 have hR:=Rws.right M.sl M.rows;have q6:=(aQz.1 hx).1;have q7:=hR.len
 have h9:j<us.length:=by omega
 obtain ⟨v,hv⟩:∃v,us[j]?=some v:=⟨us[j],by simp [h9]⟩
 have h0:=hR.own j v xs hv hx;obtain ⟨va,vc,rfl,_⟩:=h0.form;obtain ⟨lb,lc,rfl,q0,q1⟩:=ownsRow.form1 M.lo' (by omega);obtain ⟨k1,k2⟩:=ownsRow.caps M.lo';have q5:=M.sep lb rfl;have q8:=M.sl;have hb:=M.lt;have c6:=aQ M.box 6;simp at c6;have r0:=aS5 M.lo' j (by omega);rw [hv] at r0;have q3:lo<=w.heap.size:=aQ5 M.hl M.hl2;have h5:=aSw M.so;have q4:=M.so
 have h8:lb≠mb:=fun e=>by
  have:=ownsRow.not M.lo' M.box (by decide);exact this (by rw [<-e];rfl)
 have x0:Ext w (w.alloc (.cells #[.int .i64 3,.string s,j] 221)):=X_;have HM:=hid (M.ext x0);have HO:=hid (h0.ints.ext (aQv _) x0)
 have h4:w.heap.size<(w.alloc (.cells #[.int .i64 3,.string s,j] 221)).heap.size:=by simp
 have q2:=M.hl2;clear M h0 hv hx hR q4;go_enter func223,ntmps223;go_wp2_with fail;refine aJ [([0,1,2,3,4,5,6,7,8],9),([],10)] 99 (fun w'=>∃d,w'=fU (CMl mb w.heap.size lb) _ d) (by kernel_rfl) (by kernel_rfl) (SC.drew _ _) ?_;refine sc_ fun K hK=>?_;go_wp2_with fail;refine (wW lo w.heap.size _ xs _ (HO.ext (aT5 h4) (aRz (aQ6 _))) (aT5 h4) h1 (by omega)).mono ?_;rintro e w2 ⟨y,rfl,hy,x2⟩;obtain ⟨ya,yc,rfl,_⟩:=hy.form;have X2:Ext (w.alloc (.cells #[.int .i64 3,.string s,j] 221)) w2:=aQ3 (aRz (aQ6 _)) x2;have M2:=HM.ext X2;have h6:=aKy (jJ HM M2 (X2.block h4)) (X2.block (k:=lb) (by omega));go_wp2_with fail;refine hK _ _ (.inr (h6)) ?_;clear hK K;refine sc_ fun K hK=>?_;go_wp2_with fail;have h3:=zK.of (M:=(w.alloc (.cells #[.int .i64 3,.string s,j] 221)).heap.size) HM.rows (aQv _) (fun k hk=>(hy.lt k hk).1);refine (lX M2 (hy.low (by have:=x0.size;simp;omega)) h3 (by omega)).mono ?_;rintro e w3 ⟨rfl,⟨sv3,M3⟩,st3,fr3⟩;have q9:=X2.size;have h7:=aKy (jJ HM M3 ((fr3 w.heap.size (by omega) (by omega) (fun e=>by have:=(h5 _ e).2;omega)).trans (X2.block h4))) ((fr3 lb (by omega) h8 (fun e=>by have:=(h5 _ e).1;omega)).trans (X2.block (k:=lb) (by omega)));go_wp2_with fail;refine hK _ _ (.inr (h7)) ?_;clear hK K;refine aP ?_;go_wp2
 go_end0
 exact ⟨rfl,⟨sv3,_,M3⟩,((x0.trans X2).step q3).trans st3⟩
theorem aPf {S L:List (List Int)} (M:fC lo lo2 w mb n pu tu tm lg sv lv vs us S L) (s:ByteArray) (q:Nat) (op:Int) (hop:nA op) (hq:q+1=S.length) (hS:S.length<=1000) (hg:∀r∈S,fG m r) (hm:m<=64) :
  Calls aQ2 223 #[.pointer (some ⟨mb,0,none⟩),.agg #[.int .i64 5,.string s,op]] w fun e w'=>e = .returned (.tuple #[])/\(∃sv' vs',fC lo lo2 w' mb n pu tu tm lg sv' lv vs' us (S.take q++[aTq (eU op) (S.getD q []) (S.getD q [])]) L)/\lC lo w w':=by
 have h0:lo<=w.heap.size:=aQ5 M.hl M.hl2;have x0:Ext w (w.alloc (.cells #[.int .i64 5,.string s,op] 221)):=X_;have HC:=hid (aI9 (M.ext x0) q m op hop hq hS hg hm);clear M hop hq;go_enter func223,ntmps223;go_wp2_with fail;refine HC.mono ?_;rintro e w2 ⟨rfl,h1,h2⟩;go_wp2
 go_end0
 exact ⟨rfl,h1,(x0.step h0).trans h2⟩
theorem aPg {S L:List (List Int)} (M:fC lo lo2 w mb n pu tu tm lg sv lv vs us S L) (s:ByteArray) (q:Nat) (op:Int) (hop:nA op) (hq:q+2=S.length) (hS:S.length<=1000) (hg:∀r∈S,fG m r) (hm:m<=64) :
  Calls aQ2 223 #[.pointer (some ⟨mb,0,none⟩),.agg #[.int .i64 6,.string s,op]] w fun e w'=>e = .returned (.tuple #[])/\(∃sv' vs',fC lo lo2 w' mb n pu tu tm lg sv' lv vs' us (S.take q++[aTq (eU op) (S.getD q []) (S.getD (q+1) [])]) L)/\lC lo w w':=by
 have h0:lo<=w.heap.size:=aQ5 M.hl M.hl2;have x0:Ext w (w.alloc (.cells #[.int .i64 6,.string s,op] 221)):=X_;have HC:=hid (aGc (M.ext x0) q m op hop hq hS hg hm);clear M hop hq;go_enter func223,ntmps223;go_wp2_with fail;refine HC.mono ?_;rintro e w2 ⟨rfl,h1,h2⟩;go_wp2
 go_end0
 exact ⟨rfl,h1,(x0.step h0).trans h2⟩
theorem aPh {S L:List (List Int)} (M:fC lo lo2 w mb n pu tu tm lg sv lv vs us S L) (s:ByteArray) (j q:Nat) (hj:j<L.length) (hq:q+1=S.length) (hS:S.length<=1000) (hne:∀r∈S,r≠[]) :
  Calls aQ2 223 #[.pointer (some ⟨mb,0,none⟩),.agg #[.int .i64 4,.string s,j]] w fun e w'=>e = .returned (.tuple #[])/\(∃sv' vs' us',fC lo lo2 w' mb n pu tu tm lg sv' lv vs' us' (S.take q) (L.set j (S.getD q [])))/\lC lo w w':=by
 have hR:=Rws.right M.sl M.rows;have z0:=hR.len
 have q6:j<us.length:=by omega
 have z1:=M.sl;obtain ⟨x,h6,q0⟩:=lY vs q (by omega);obtain ⟨xs,h5,x6⟩:=lY S q hq;have h9:=Rws.left M.sl M.rows
 have h0:aB lo w x xs:=by
  have:=(h9.drop q).own 0 x xs (by rw [h6];rfl) (by rw [h5];rfl);exact this
 have x3:xs≠[]:=hne xs (aUi (by rw [h5];exact aTy.2 rfl))
 have q1:S.getD q []=xs:=by
  have h1:S[q]?=(S.drop q)[0]?:=by rw [aTc,aSk]
  rw [aTz,h1,h5]
  rfl
 rw [q1];obtain ⟨xa,xc,rfl,_⟩:=h0.form;obtain ⟨lb,lc,rfl,h7,q8⟩:=ownsRow.form1 M.lo' (by omega);obtain ⟨k1,k2⟩:=ownsRow.caps M.lo';have x8:=M.sep lb rfl;have hb:=M.lt;have c6:=aQ M.box 6;simp at c6;have x2:lo<=w.heap.size:=aQ5 M.hl M.hl2;have x9:=aSw M.so;have q9:=M.hl2
 have h2:Apt ((vs.take q++[.slice xa xs.length xc])++us):=by rw [<-q0];exact M.apt
 have x0:Ext w (w.alloc (.cells #[.int .i64 4,.string s,j] 221)):=X_;have HM:=hid (M.ext x0);have HO:=hid h0;have HA:=hid h2
 have x7:w.heap.size<(w.alloc (.cells #[.int .i64 4,.string s,j] 221)).heap.size:=by simp
 replace h6:=hid h6;clear M h0 hR h9 h2 q0 h5 x6 q1;go_enter func223,ntmps223;go_wp2_with fail;refine aJ [([0,1,2,3,4,5,6],7),([],8),([],9),([],10),([],11)] 11 (fun w'=>∃d,w'=fU (CMx mb w.heap.size) _ d) (by kernel_rfl) (by kernel_rfl) (SC.drew _ _) ?_;refine sc_ fun K hK=>?_;go_wp2_with fail;have X1:Ext (w.alloc (.cells #[.int .i64 4,.string s,j] 221)) (w.alloc (.cells #[.int .i64 4,.string s,j] 221)).drew:=aRz (aQ6 _);have M1:=HM.ext X1;refine (vI M1 1 q (aQv _) (by omega) (by omega)).mono ?_;rintro e w2 ⟨r,rfl,hr,⟨sv2,M2,hsv2⟩,st2,fr2⟩;obtain ⟨rb,rc,rfl,x4,x5⟩:=ownsRow.form1 hr (aQv _);rw [h6.out] at hr;have r0:=aS5 hr 0 (by omega);simp at r0;have h4:=jJ HM M2 ((fr2 w.heap.size (by have:=X1.size;omega) (by omega)).trans (X1.block x7));have x1:=(aSw M2.lo' lb rfl).2
 obtain ⟨y0,q2⟩:∃y,us[j]?=some y:=⟨us[j],by simp [q6]⟩
 have t0:=aS5 M2.lo' j (by omega);rw [q2] at t0;have t1:=aY9 M2.lo' j;have q3:=hid M2;have q4:=hid st2;have HX:=hid (HO.keepI ((x0.trans X1).keepI.trans st2.keep));clear M2 hr st2 fr2 q2;go_wp2_with fail;refine hK _ _ (.inr (h4)) ?_;clear hK K;refine sc_ fun K hK=>?_;go_wp2_with fail;go_wp2_with fail;refine hK _ _ (.inr (h4)) ?_;clear hK K;refine sc_ fun K hK=>?_;go_wp2_with fail;go_wp2_with fail;refine hK _ _ (.inr (h4)) ?_;clear hK K;refine sc_ fun K hK=>?_;go_wp2_with fail;go_wp2_with fail;refine hK _ _ (.inr (h4)) ?_;clear hK K;refine sc_ fun K hK=>?_;go_wp2_with fail;go_wp2_with fail;refine l_ hK ?_;clear hK K;refine aP ?_;go_wp2
 go_end0
 have M2:=q3.out;have h3:=aZz M2.lo' j (.slice xa xs.length xc);have q5:lb≠mb:=fun e=>ownsRow.not M2.lo' M2.box (by decide) (by rw [<-e];rfl);have kk:fE w2 (w2.setCell ⟨lb,j,none⟩ (.slice xa xs.length xc)):=fE.setCell _ (fun cur fr=>ownsRow.int M2.lo' (by decide) lb cur fr rfl);have h8:=aSw M2.so
 have q7:(us.set j (.slice xa xs.length xc)).length=us.length:=by simp
 refine ⟨rfl,⟨sv2,vs.take q,us.set j (.slice xa xs.length xc),⟨?_,M2.low,?_,?_,M2.sep,M2.hl,by have:=M2.hl2;simpa using this,M2.sl,?_,HA.store j,M2.nls.set j x3⟩⟩,(((x0.trans X1).step x2).trans q4).trans ⟨aXm (Below.refl _ _) h7 _,kk⟩⟩
 ·exact (aQ7 _ _ _ _ (fun e=>q5 e.symm)).trans M2.box
 ·refine M2.so.kept h3.2 ?_
  cases hk:sv2.ownBlock with
  | none=>exact .inl rfl
  | some k=>exact .inr (fun e=>by have:=(h8 k hk).1;injection e with e;omega)
 ·rw [q7]
  exact h3.1
 ·exact (Rws.left M2.sl M2.rows).keepI kk |>.app (((Rws.right M2.sl M2.rows).keepI kk).set j (HX.keepI kk))
def iM (n m:Nat) (f:Nat->Int) (tm:Int) (t:Tex) (op:Int) (s:ByteArray) (num:Int) (args L:List (List Int)):List Int:=
 if op=1 then aRj m num else if op=2 then (aRl m).map (lL s.toList f tm) else if op=3 then L.getD num.toNat [] else if op=5 then aTq (eU num) (args.getD 0 []) (args.getD 0 [])
 else if op=6 then aTq (eU num) (args.getD 0 []) (args.getD 1 []) else eJ n m t s.toList args
def iN (op:Int) (s:ByteArray) (S:List (List Int)):Nat:=S.length - (cI op s).toNat
def eH (n m:Nat) (f:Nat->Int) (tm:Int) (t:Tex) (x:Ins) (S L:List (List Int)):List (List Int):=
 if x.op=4 then S.take (iN x.op x.name S) else S.take (iN x.op x.name S)++[iM n m f tm t x.op x.name x.num (S.drop (iN x.op x.name S)) L]
def gD (x:Ins) (S L:List (List Int)):List (List Int):=if x.op=4 then L.set x.num.toNat (S.getD (iN x.op x.name S) []) else L
def lE (n m:Nat) (f:Nat->Int) (tm:Int) (t:Tex):List Ins->List (List Int)->List (List Int)->List (List Int)
 | [],_,L=>L
 | x::r,S,L=>lE n m f tm t r (eH n m f tm t x S L) (gD x S L)
theorem aD2 {a b:List Int} (ha:a.length=m) (hb:b.length=m):fG m (aTq (eU op) a b):=by
 refine ⟨by simp;omega,fun x hx=>?_⟩;obtain ⟨i,hi,rfl⟩:=aRw hx;simp;exact fD _
theorem aHt (l:List UInt8) (hf:∀i,i<m*5->S9 (f i)) (ht:S9 tm) (hq:q<m):S9 (lL l f tm q):=by
 unfold lL
 split
 ·exact hf _ (by omega)
 split
 ·exact hf _ (by omega)
 split
 ·exact hf _ (by omega)
 split
 ·exact hf _ (by omega)
 split
 ·exact hf _ (by omega)
 ·exact ht
theorem aJa (hm:n*n=m) (t:Tex) (l:List UInt8) (S:List (List Int)):fG m (eJ n m t l S):=by
 have hd:∀xs rows,fG m (iL xs n rows):=fun xs rows=>⟨by rw [gR,hm],fun x hx=>by
  obtain ⟨i,hi,rfl⟩:=aRw hx;rw [nP]
  exact rI _ _ _ _⟩
 unfold eJ
 split
 ·exact hd _ _
 split
 ·exact hd _ _
 ·refine ⟨by simp,fun x hx=>?_⟩
  obtain ⟨i,hi,rfl⟩:=aS3.1 hx;exact fD _
structure nJ (L0 m:Nat) (xs:List Ins) (S L:List (List Int)):Prop where
 run:∃d st,(iB L0 xs S.length d st).isSome=true/\∀j r,L[j]?=some r->(st j=true/\fG m r)\/(st j=false/\r=[])
 len:L.length=L0
 rows:∀r∈S,fG m r
theorem nJ.wf {x:Ins} {r:List Ins} {S L:List (List Int)} (h:nJ L0 m (x::r) S L):wfI x.op x.name x.num L0=true:=by
 obtain ⟨d,st,h1,_⟩:=h.run;exact aBo _ _ _ _ h1 x (aVm)
theorem nJ.pops {x:Ins} {r:List Ins} {S L:List (List Int)} (h:nJ L0 m (x::r) S L):∃p:Nat,cI x.op x.name=p/\iN x.op x.name S+p=S.length:=by
 obtain ⟨d,st,h1,_⟩:=h.run;have hb:=aBn h.wf;unfold iB at h1
 split at h1
 ·rename_i hc
  refine ⟨(cI x.op x.name).toNat,by omega,?_⟩;unfold iN;omega
 ·simp at h1
theorem nJ.local {x:Ins} {r:List Ins} {S L:List (List Int)} (h:nJ L0 m (x::r) S L) (h3:x.op=3):∃xs,L[x.num.toNat]?=some xs/\fG m xs:=by
 obtain ⟨d,st,h1,h2⟩:=h.run;obtain ⟨j,hj,h0⟩:=nB h.wf (.inl h3);unfold iB at h1
 split at h1
 ·rename_i hc
  have hs:=hc.2.1 h3;rw [hj] at hs ⊢;simp only [aRr] at hs ⊢;have hl:=h.len
  have hx:L[j]?=some (L[j]'(by omega)):=by simp [show j<L.length by omega]
  rcases h2 j _ hx with h4|h4
  ·exact ⟨_,hx,h4.2⟩
  ·rw [hs] at h4;cases h4.1
 ·simp at h1
theorem nJ.next {t:Tex} {x:Ins} {r:List Ins} {S L:List (List Int)} (h:nJ L0 m (x::r) S L) (hm:n*n=m) (hn:gY x=true) (hf:∀i,i<m*5->S9 (f i)) (ht:S9 tm):nJ L0 m r (eH n m f tm t x S L) (gD x S L):=by
 obtain ⟨p,hp,hc⟩:=h.pops;have q7:=h.wf;have q0:=h.local;have h0:=h.rows;obtain ⟨d,st,h1,h2⟩:=h.run;have h8:=h.len;have hd:∀y∈S.drop (iN x.op x.name S),fG m y:=fun y hy=>h0 y (aUi hy);have q3:∀y∈S.take (iN x.op x.name S),fG m y:=fun y hy=>h0 y (List.mem_of_mem_take hy)
 have q8:(S.drop (iN x.op x.name S)).length=p:=by simp;omega
 have h7:∀i,i<p->fG m ((S.drop (iN x.op x.name S)).getD i []):=fun i hi=>by
  have e:(S.drop (iN x.op x.name S)).getD i []=(S.drop (iN x.op x.name S))[i]'(by omega):=by rw [aTz,aQ9 (show i<(S.drop (iN x.op x.name S)).length by omega)];rfl
  rw [e];exact hd _ (aRh _)
 unfold iB at h1
 split at h1
 case isFalse=>simp at h1
 rename_i q2;generalize (if (S.length:Int) - cI x.op x.name+fZ x.op > d then (S.length:Int) - cI x.op x.name+fZ x.op else d)=d2 at h1
 by_cases h4:x.op=4
 ·have x0:p=1:=by
   rw [h4] at hp;have:cI 4 x.name=1:=rfl;omega
  have q5:fZ x.op=0:=by rw [h4];rfl
  obtain ⟨j,hj,q9⟩:=nB q7 (.inr h4);refine ⟨⟨d2,iA x.op x.num st,?_,?_⟩,?_,?_⟩
  ·unfold eH
   rw [if_pos h4,aRp,aTi (by omega)]
   have e:((S.length:Int) - cI x.op x.name+fZ x.op)=(iN x.op x.name S:Nat):=by rw [hp,q5];omega
   rw [e] at h1;exact h1
  ·intro i y hy
   unfold gD at hy;rw [if_pos h4,hj,aRr] at hy;unfold iA;rw [if_pos h4,hj,aRr];rw [aUm] at hy
   by_cases h9:j=i
   ·subst h9
    rw [if_pos rfl,if_pos (by omega)] at hy;injection hy with hy;subst hy;refine .inl ⟨by simp,?_⟩;have:=h7 0 (by omega);rw [aTz,aTc,aSk] at this;exact this
   ·rw [if_neg h9] at hy
    have:=h2 i y hy;rw [if_neg (fun e=>h9 e.symm)];exact this
  ·unfold gD
   rw [if_pos h4,aZg];exact h8
  ·intro y hy
   unfold eH at hy;rw [if_pos h4] at hy;exact q3 y hy
 ·have q6:fZ x.op=1:=by unfold fZ;rw [if_neg h4]
  have q4:iA x.op x.num st=st:=by unfold iA;rw [if_neg h4]
  have hL:gD x S L=L:=by unfold gD;rw [if_neg h4]
  have q1:fG m (iM n m f tm t x.op x.name x.num (S.drop (iN x.op x.name S)) L):=by
   unfold iM
   split
   ·have hb:=aG.1 (show inB x.num (-1000000000) 1000000000=true from hn)
    refine ⟨by simp,fun y hy=>?_⟩;rw [aUg hy];exact hb
   split
   ·refine ⟨by simp,fun y hy=>?_⟩
    obtain ⟨i,hi,rfl⟩:=aS3.1 hy;exact aHt _ hf ht (aR4.1 hi)
   split
   ·rename_i h3
    obtain ⟨xs,hx,hg⟩:=q0 h3;rw [aTz,hx];exact hg
   split
   ·rename_i h5
    have x1:p=1:=by
     rw [h5] at hp;have:cI 5 x.name=1:=rfl;omega
    exact aD2 (h7 0 (by omega)).1 (h7 0 (by omega)).1
   split
   ·rename_i h6
    have x2:p=2:=by
     rw [h6] at hp;have:cI 6 x.name=2:=rfl;omega
    exact aD2 (h7 0 (by omega)).1 (h7 1 (by omega)).1
   ·exact aJa hm t _ _
  refine ⟨⟨d2,st,?_,?_⟩,by rw [hL];exact h8,?_⟩
  ·unfold eH
   rw [if_neg h4,aRq,aRp,aTi (by omega),aU2];rw [q4] at h1
   have e:((S.length:Int) - cI x.op x.name+fZ x.op)=((iN x.op x.name S+1:Nat):Int):=by rw [hp,q6];omega
   rw [e] at h1;exact h1
  ·rw [hL]
   exact h2
  ·intro y hy
   unfold eH at hy;rw [if_neg h4] at hy
   rcases aTe.1 hy with hy|hy
   ·exact q3 y hy
   ·simp at hy
    subst hy;exact q1
theorem aKz (h:inB num 4 7=true):nA num:=by
 have:=aG.1 h;unfold nA;omega
theorem aD3 {t:Tex} {S L:List (List Int)} {x:Ins} {r:List Ins} (M:fC lo lo2 w mb n pu tu tm t.log sv lv vs us S L) (G:iD lo w n m pu tu f tm t) (ok:nJ L0 m (x::r) S L) (hn:gY x=true) (hS:S.length<=1000) :
  Calls aQ2 223 #[.pointer (some ⟨mb,0,none⟩),.agg #[x.op,.string x.name,x.num]] w fun e w'=>e = .returned (.tuple #[])/\(∃sv' vs' us',fC lo lo2 w' mb n pu tu tm t.log sv' lv vs' us' (eH n m f tm t x S L) (gD x S L))/\lC lo w w':=by
 have h7:=ok.wf;obtain ⟨p,hp,hc⟩:=ok.pops;obtain ⟨q1,q2,q3⟩:=G.hmi;have h8:=ok.local;have h6:=ok.rows;have h9:=ok.len;clear ok;obtain ⟨op,s,num⟩:=x;simp only at h7 hp hc h8 ⊢
 have q8:1<=op/\op<=7:=by
  by_cases h:1<=op/\op<=7
  ·exact h
  ·unfold wfI at h7
   rw [if_neg (by omega),if_neg (by omega),if_neg (by omega),if_neg (by omega),if_neg (by omega),if_neg (by omega),if_neg (by omega)] at h7;cases h7
 have q5:=aG.1 (show inB num (-1000000000) 1000000000=true from hn)
 have wrap:∀{e:Ending} {w':World} {S' L':List (List Int)},(eH n m f tm t ⟨op,s,num⟩ S L=S')->(gD ⟨op,s,num⟩ S L=L')->(e = .returned (.tuple #[])/\(∃sv' vs',fC lo lo2 w' mb n pu tu tm t.log sv' lv vs' us S' L')/\lC lo w w')->(e = .returned (.tuple #[])/\(∃sv' vs' us',fC lo lo2 w' mb n pu tu tm t.log sv' lv vs' us' (eH n m f tm t ⟨op,s,num⟩ S L) (gD ⟨op,s,num⟩ S L))/\lC lo w w'):=by
  intro e w' S' L' h1 h2 ⟨h3,⟨sv',vs',h4⟩,h5⟩;subst h1 h2;exact ⟨h3,⟨sv',vs',us,h4⟩,h5⟩
 rcases (show op=1\/op=2\/op=3\/op=4\/op=5\/op=6\/op=7 by omega) with rfl|rfl|rfl|rfl|rfl|rfl|rfl
 ·have h0:p=0:=by have:cI 1 s=0:=rfl;omega
  refine (aPb M G s num ⟨by omega,by omega⟩ hS _ rfl).mono fun e w' h=>wrap ?_ rfl h;unfold eH;rw [if_neg (by simp),show iN 1 s S=S.length by omega,aR2]
  rfl
 ·have h0:p=0:=by have:cI 2 s=0:=rfl;omega
  refine (aPc M G s num hS _ rfl).mono fun e w' h=>wrap ?_ rfl h;unfold eH;rw [if_neg (by simp),show iN 2 s S=S.length by omega,aR2]
  rfl
 ·have h0:p=0:=by have:cI 3 s=0:=rfl;omega
  obtain ⟨j,rfl,hj⟩:=nB h7 (.inl rfl);obtain ⟨xs,hx,hg⟩:=h8 rfl;simp only [aRr] at hx;refine (aPe M s j xs hx (by rw [hg.1];omega) (by rw [hg.1];omega) hS).mono fun e w' h=>wrap ?_ rfl h;unfold eH;rw [if_neg (by simp),show iN 3 s S=S.length by omega,aR2];unfold iM;rw [if_neg (by simp),if_neg (by simp),if_pos rfl,aRr,aTz,hx]
  rfl
 ·have h0:p=1:=by have:cI 4 s=1:=rfl;omega
  obtain ⟨j,rfl,hj⟩:=nB h7 (.inr rfl);have h4:=aPh M s j (iN 4 s S) (by omega) (by omega) hS (fun r hr e=>by have:=(h6 r hr).1;rw [e] at this;simp at this;omega);unfold eH gD;rw [if_pos rfl,if_pos rfl];exact h4
 ·have h0:p=1:=by have:cI 5 s=1:=rfl;omega
  have q0:num=3:=by simp [wfI] at h7;exact h7.2
  refine (aPf (m:=m) M s (iN 5 s S) num (by subst q0;unfold nA;omega) (by omega) hS h6 q3).mono fun e w' h=>wrap ?_ rfl h;unfold eH;rw [if_neg (by simp)];unfold iM;rw [if_neg (by simp),if_neg (by simp),if_neg (by simp),if_pos rfl];simp only [aTz,aTc,aSk]
 ·have h0:p=2:=by have:cI 6 s=2:=rfl;omega
  have q4:inB num 4 7=true:=by simp [wfI] at h7;exact h7.2
  refine (aPg (m:=m) M s (iN 6 s S) num (aKz q4) (by omega) hS h6 q3).mono fun e w' h=>wrap ?_ rfl h;unfold eH;rw [if_neg (by simp)];unfold iM;rw [if_neg (by simp),if_neg (by simp),if_neg (by simp),if_neg (by simp),if_pos rfl];simp only [aTz,aTc,aSk]
 ·have q6:cA s=p:=by have:cI 7 s=cA s:=rfl;omega
  have q7:=nS s;refine (aPd M G s num hS _ p (iN 7 s S) q6 (by omega) hc h6 rfl).mono fun e w' h=>wrap ?_ rfl h;unfold eH;rw [if_neg (by simp)];unfold iM;rw [if_neg (by simp),if_neg (by simp),if_neg (by simp),if_neg (by simp),if_neg (by simp)]
def xC (lo:Nat) (w:World) (v:Value) (S:List (List Int)):Prop:=∃us,w.ownsRow lo 24 1 v us.length us/\Rws lo w us S/\Apt us/\Nls us S
def Cod.out (c:Cod) (g:Grd):List (List Int):=lE g.n.toNat g.m g.f g.tm g.t c.xs [] (aRj c.ls.length [])
theorem xD {g:Grd} {r:Bool} (h:g.okB=r) (lo hi:Nat) (v:Value) (w:World) (hv:g.R lo hi w v) (hh:hi<=w.heap.size) :
  R_ 167 #[v] w (.bool r):=h▸lM lo hi v g w hv hh
theorem xE {g:Grd} {r:Bool} (h:g.okB=r) (lo hi:Nat) (v:Value) (w:World) (hv:g.R lo hi w v) (hh:hi<=w.heap.size) :
  R_ 233 #[v] w (.bool r):=h▸sV lo hi v g w hv hh
theorem Grd.parts {g:Grd} (h:g.okB=true):∃n:Nat,g.n=n/\n*n=g.m/\1<=n/\n<=8/\g.t.okB=true/\S9 g.tm/\∀i,i<g.m*5->S9 (g.f i):=by
 unfold Grd.okB at h;simp only [aRd,decide_eq_true_eq,aR5,aR4] at h;obtain ⟨⟨⟨⟨h1,h2⟩,h3⟩,h4⟩,h5⟩:=h;have h1:=aG.1 h1;have h3:=aG.1 h3
 obtain ⟨n,hn⟩:∃n:Nat,g.n=n:=⟨g.n.toNat,by omega⟩
 rw [hn] at h1 h2
 have h6:((n*n:Nat):Int)=(g.m:Int):=by rw [h2];simp
 refine ⟨n,hn,by omega,by omega,by omega,h4,⟨by omega,by omega⟩,fun i hi=>?_⟩;have h7:=h5 (i / 5) (by omega);unfold ptB ptL at h7;simp only [aXn,List.all_nil,aYn,aRd] at h7;obtain ⟨a0,a1,a2,a3,a4⟩:=h7
 have h0:i=i / 5*5+i % 5:=by omega
 have h9:i % 5<5:=aTp _ (by decide)
 have h8:inB (g.f i) (-1000000) 1000000=true:=by
  rcases (show i % 5=0\/i % 5=1\/i % 5=2\/i % 5=3\/i % 5=4 by omega) with e|e|e|e|e <;> rw [e] at h0 <;> rw [h0]
  ·exact a0
  ·exact a1
  ·exact a2
  ·exact a3
  ·exact a4
 have:=aG.1 h8;exact ⟨by omega,by omega⟩
theorem nJ.start {c:Cod} (h:c.depth.isSome=true):nJ c.ls.length m c.xs [] (aRj c.ls.length []):=by
 unfold Cod.depth at h
 split at h
 ·refine ⟨⟨0,fun _=>false,h,fun j r hj=>.inr ⟨rfl,?_⟩⟩,by simp,fun r hr=>by cases hr⟩
  exact aUg (aRn hj)
 ·simp at h
theorem Rws.nils (lo:Nat) (w:World) (k:Nat):Rws lo w (aRj k (.slice none 0 0)) (aRj k []):=by
 refine ⟨by simp,fun i v xs h1 h2=>?_⟩;rw [aUg (aRn h1),aUg (aRn h2)];exact aB.nil lo w
theorem Apt.nils (k:Nat):Apt (aRj k (.slice none 0 0)):=by
 unfold Apt
 induction k with
 | zero=>simp
 | succ k ih=>
  rw [List.replicate_succ,aWo];refine ⟨fun b hb j hj=>?_,ih⟩;simp [aRu] at hj
theorem ownsRow.fresh (w:World) (lo k:Nat) (hl:lo<=w.heap.size) (hk:k<=2000000):(w.alloc (.cells (madeCells #[.slice none 0 0] k) 24)).ownsRow lo 24 1 (.slice (some ⟨w.heap.size,0,none⟩) k k) (aRj k (aR9 none 0 0)).length (aRj k (.slice none 0 0)):=by
 have h:=World.ownsRow_lit (size:=1) (e:=24) w (madeCells #[aR9 none 0 0] k) k hl (by unfold maxLen;omega) (by rw [aUv];exact size_madeCells _ _);rw [toList_madeCells_one] at h
 simpa using h
theorem aD4 (lo hi lo' hi':Nat) (v u:Value) (c:Cod) (g:Grd) (w:World) (hv:c.R lo hi w v) (hh:hi<=w.heap.size) (hu:g.R lo' hi' w u) (hh':hi'<=w.heap.size) (hL:c.ls.length<=2000000) (hno:(c.runB&&g.okB)=false) :
  R_ 168 #[v,u] w (.tuple #[.slice none 0 0,.bool false]):=by
 have HV:=hid hv;have HU:=hid hu;obtain ⟨a1,c1,a2,c2,rfl,-,-⟩:=hv.form;obtain ⟨pu,tu,rfl,-,-,-,-,-⟩:=hu;clear hv
 cases h1:c.runB
 ·go_enter func168,ntmps168
  go_wp2_with (go_at_call 222;refine r_ (kU h1 lo hi _ _ (HV.ext hh X_) (by simp;omega) hL) fun w1 x1=>?_);refine bodyPost_ret (v:=.tuple #[.slice none 0 0,.bool false]) (by simp [results,results168,go_sem]) rfl ⟨rfl,aQ3 X_ x1⟩
 ·have h2:g.okB=false:=by rw [h1] at hno;simpa using hno
  have h0:=hid (show ∀w1,Ext ((w.alloc (.cells #[.slice a1 c.xs.length c1,.slice a2 c.ls.length c2] 163)).alloc (.cells #[g.n,pu,g.tm,g.t.log,tu] 168)) w1->w.heap.size+1<w1.heap.size/\w1.cell? ⟨w.heap.size+1,0,none⟩=some (.int .i64 g.n)/\w1.cell? ⟨w.heap.size+1,1,none⟩=some pu/\w1.cell? ⟨w.heap.size+1,2,none⟩=some (.int .i64 g.tm)/\w1.cell? ⟨w.heap.size+1,3,none⟩=some (.int .i64 g.t.log)/\w1.cell? ⟨w.heap.size+1,4,none⟩=some tu from by
   intro w1 x1;have:=x1.size
   refine ⟨by simp at this;omega,?_,?_,?_,?_,?_⟩ <;> (rw [x1.cells.1 _ _ (by simp)];simp [go_sem]))
  go_enter func168,ntmps168;go_wp2_with (go_at_call 222;refine r_ (kU h1 lo hi _ _ (HV.ext hh X_) (by simp;omega) hL) fun w1 x1=>?_;obtain ⟨d,d0,d1,d2,d3,d4⟩:=h0.out w1 x1;have X1:Ext w w1:=aQ3 X_ x1;clear x1);refine r_ (xD h2 lo' hi' _ _ (HU.ext hh' X1) (by have:=X1.size;omega)) fun w2 x2=>?_;go_wp2;refine bodyPost_ret (v:=.tuple #[.slice none 0 0,.bool false]) (by simp [results,results168,go_sem]) rfl ⟨rfl,X1.trans x2⟩
theorem aB8 (lo hi lo' hi':Nat) (v u:Value) (c:Cod) (g:Grd) (w:World) (hv:c.R lo hi w v) (hh:hi<=w.heap.size) (hu:g.R lo' hi' w u) (hh':hi'<=w.heap.size) (hL:c.ls.length<=2000000) (hyes:(c.runB&&g.okB)=true) :
  Calls aQ2 168 #[v,u] w fun e w'=>∃r,e = .returned (.tuple #[r,.bool true])/\xC w.heap.size w' r (c.out g)/\Ext w w':=by
 have HV:=hid hv;have HU:=hid hu;obtain ⟨a1,c1,a2,c2,rfl,HI,-⟩:=hv.form;obtain ⟨pu,tu,rfl,-,z2,x6,hp,ht⟩:=hu;clear hv;simp only [aRd] at hyes;obtain ⟨h1,h2⟩:=hyes;obtain ⟨n,hn,q8,n1,n8,q9,h9,q6⟩:=Grd.parts h2
 have h3:c.depth.isSome=true:=by unfold Cod.runB at h1;simp at h1;exact h1.1
 have h5:∀x∈c.xs,gY x=true:=by unfold Cod.runB at h1;simp at h1;exact h1.2
 have x9:c.xs.length<=300:=by
  unfold Cod.depth at h3
  split at h3
  ·assumption
  ·simp at h3
 have h8:lE n g.m g.f g.tm g.t c.xs [] (aRj c.ls.length [])=c.out g:=by unfold Cod.out;rw [hn];rfl
 have HG:=hid (show iD w.heap.size w n g.m pu tu g.f g.tm g.t from ⟨hp.wide (aSi _) hh',⟨tu,rfl,x6,ht.wide (aSi _) hh'⟩,q8,n1,n8,q9,h9,q6⟩);have HD:=hid h3;have HN:=hid h5;have q0:=hid h8;clear hp ht z2 x6 q8 q9 h9 q6 h3 h5 h8;rw [hn];replace hn:=hid hn;obtain ⟨i0,q7,x3,x4,x5⟩:=info_parts pA
 have q2:=hid (show ∀w1,Ext ((w.alloc (.cells #[.slice a1 c.xs.length c1,.slice a2 c.ls.length c2] 163)).alloc (.cells #[n,pu,g.tm,g.t.log,tu] 168)) w1->w.heap.size+1<w1.heap.size/\w1.cell? ⟨w.heap.size+1,0,none⟩=some (.int .i64 n)/\w1.cell? ⟨w.heap.size+1,1,none⟩=some pu/\w1.cell? ⟨w.heap.size+1,2,none⟩=some (.int .i64 g.tm)/\w1.cell? ⟨w.heap.size+1,3,none⟩=some (.int .i64 g.t.log)/\w1.cell? ⟨w.heap.size+1,4,none⟩=some tu/\w.heap.size<w1.heap.size/\w1.cell? ⟨w.heap.size,0,none⟩=some (.slice a1 c.xs.length c1)/\w1.cell? ⟨w.heap.size,1,none⟩=some (.slice a2 c.ls.length c2) from by
  intro w1 x1;have:=x1.size;simp at this
  refine ⟨by omega,?_,?_,?_,?_,?_,by omega,?_,?_⟩ <;> (rw [x1.cells.1 _ _ (by simp <;> omega)];simp [go_sem]))
 go_enter func168,ntmps168;go_wp2_with (go_at_call 222;refine r_ (kU h1 lo hi _ _ (HV.ext hh X_) (by simp;omega) hL) fun w1 x1=>?_;obtain ⟨d,d0,d1,d2,d3,d4,-⟩:=q2.out w1 x1);refine r_ (xD h2 lo' hi' _ _ (by have:=HU.ext hh' (aQ3 X_ x1:Ext w w1);rw [hn.out] at this;exact this) (by have:=x1.size;simp at this;omega)) fun w2 x2=>?_;clear d d0 d1 d2 d3 d4;obtain ⟨d,d0,d1,d2,d3,d4,e,e0,e1⟩:=q2.out w2 (x1.trans x2);have X2:Ext w w2:=(aQ3 X_ x1:Ext w w1).trans x2;clear x1 x2 q2;have z3:=hid X2;go_wp2_with fail;refine aA [([0,1,2,3],4),([5],6),([],7)] 7 w2.heap.size (by kernel_rfl) (by kernel_rfl) ?_;refine st_ fun K hK=>?_;go_wp2_with (at_make;refine wpList_make_row _ rfl _ _ 76 rfl 24 i0 (.slice none 0 0) underlying76 q7 x3 x4 rfl .i64 .i64 c.ls.length rfl rfl (by rw [x5];omega) (by omega) ?_);go_wp2_with fail;refine k_ hK ?_;clear hK K;clear q7 x3 x4 x5;refine st_ fun K hK=>?_;go_wp2_with fail;go_wp2_with fail;refine k_ hK ?_;clear hK K;refine st_ fun K hK=>?_;go_wp2_with fail;go_wp2_with fail;refine l_ hK ?_;clear hK K;refine aC ?_
 have M0:fC w.heap.size (w2.heap.size+1) ((w2.drew.alloc (.cells (madeCells #[.slice none 0 0] c.ls.length) 24)).alloc (.cells #[n,pu,g.tm,g.t.log,tu,.slice none 0 0,.slice (some ⟨w2.heap.size,0,none⟩) c.ls.length c.ls.length] 276)) (w2.heap.size+1) n pu tu g.tm g.t.log (.slice none 0 0) (.slice (some ⟨w2.heap.size,0,none⟩) c.ls.length c.ls.length) [] (aRj c.ls.length (.slice none 0 0)) [] (aRj c.ls.length []):=by
  have hz:=X2.size;have hf:=ownsRow.fresh w2.drew w.heap.size c.ls.length hz hL;refine ⟨?_,by omega,World.ownsRow_nil _ _ _ _,hf.alloc _,fun k hk=>by simp [aRu] at hk;omega,by omega,by simp,rfl,Rws.nils _ _ _,Apt.nils _,Nls.nils _⟩;have:=aJ2 (w2.drew.alloc (.cells (madeCells #[.slice none 0 0] c.ls.length) 24)) (.cells #[n,pu,g.tm,g.t.log,tu,.slice none 0 0,.slice (some ⟨w2.heap.size,0,none⟩) c.ls.length c.ls.length] 276)
  simpa using this
 have X3:Ext w ((w2.drew.alloc (.cells (madeCells #[.slice none 0 0] c.ls.length) 24)).alloc (.cells #[n,pu,g.tm,g.t.log,tu,.slice none 0 0,.slice (some ⟨w2.heap.size,0,none⟩) c.ls.length c.ls.length] 276)):=(X2.drew.alloc _).alloc _;have q1:Ext w2 ((w2.drew.alloc (.cells (madeCells #[.slice none 0 0] c.ls.length) 24)).alloc (.cells #[n,pu,g.tm,g.t.log,tu,.slice none 0 0,.slice (some ⟨w2.heap.size,0,none⟩) c.ls.length c.ls.length] 276)):=X_;have f0:=(q1.cells.1 _ 0 e).trans e0
 have f1:w.heap.size<((w2.drew.alloc (.cells (madeCells #[.slice none 0 0] c.ls.length) 24)).alloc (.cells #[n,pu,g.tm,g.t.log,tu,.slice none 0 0,.slice (some ⟨w2.heap.size,0,none⟩) c.ls.length c.ls.length] 276)).heap.size:=by have:=q1.size;omega
 go_wp2_with fail;have q5:=hid M0;have q4:=hid X3;clear M0 X3 q1 f0 f1;clear d d0 d1 d2 d3 d4 e e0 e1 X2;have k1:=HI.le;have k2:=HI.cap
 go_loopw [27] (fun i wr=>∃(k:Nat) (sv:Value) (vs us:List Value) (S L:List (List Int)),k<=c.xs.length/\i = .int .i64 k/\fC w.heap.size (w2.heap.size+1) wr (w2.heap.size+1) n pu tu g.tm g.t.log sv (.slice (some ⟨w2.heap.size,0,none⟩) c.ls.length c.ls.length) vs us S L/\nJ c.ls.length g.m (c.xs.drop k) S L/\lE n g.m g.f g.tm g.t (c.xs.drop k) S L=c.out g/\S.length<=k/\Ext w wr) (fun i _=>c.xs.length - (intOf i).toNat)
 case atStart=>exact ⟨0,_,_,_,_,_,by omega,rfl,q5,by rw [aWx];exact nJ.start HD,by rw [aWx];exact q0,by simp,q4⟩
 case round=>
  clear q5 q4;obtain ⟨k,sv,vs,us,S,L,hk,rfl,M,ok,h0,z4,hx⟩:=hrel
  by_cases z0:k<c.xs.length
  ·obtain ⟨b,y1,op,s,num,rfl,z5,z6,h4,h7,io,z9,x0,x1,x2⟩:=HI.at z0 hx hh
   rw [h4] at ok h0;have q3:gY ⟨op,s,num⟩=true:=HN _ (aRn h7);have y0:Ext wr (wr.alloc (.cells #[op,.string s,num] 221)):=X_;have HC:=hid (aD3 (M.ext y0) (HG.step (hx.trans y0)) ok q3 (by omega));have HK:=hid (ok.next (t:=g.t) HG.hm q3 HG.f9 HG.tm9);have z1:=ok.pops;have HR:=hid h0;have HX:=hid (hx.trans y0);clear M ok h0 h7 h4 hx y0 q3;go_wp2_with fail;refine HC.mono ?_;rintro e w7 ⟨rfl,⟨sv',vs',us',M'⟩,st⟩;have x7:=hid M';have x8:=hid st;clear M' st;go_wp2;go_roundw
   case rel=>
    refine ⟨k+1,sv',vs',us',_,_,by omega,by go_num,x7,HK,HR,?_,Below.trans HX x8.below⟩;obtain ⟨p,z7,z8⟩:=z1;unfold eH
    split
    ·rw [aRp];omega
    ·rw [aRq,aRp,aU2];omega
   case measure=>simp [intOf];omega
  ·obtain rfl:k=c.xs.length:=by omega
   rw [List.drop_length] at h0;have c6:=aQ M.box 6;simp at c6;have hb:=M.lt;have h6:L=c.out g:=h0;have HM:=hid M;have HR:=hid h6;clear M ok h0 h6;go_wp2;refine bodyPost_ret (v:=.tuple #[.slice (some ⟨w2.heap.size,0,none⟩) c.ls.length c.ls.length,.bool true]) (by simp [results,results168,go_sem]) rfl ⟨_,rfl,?_,hx⟩;rw [<-HR];have M:=HM.out;exact ⟨us,M.lo',Rws.right M.sl M.rows,(aXs.1 M.apt).2.1,M.nls⟩
theorem aHu (hi:i<n):(j*n+i) % n=i/\(j*n+i) / n=j:=by
 constructor
 ·rw [aUu,Nat.mul_add_mod];exact Nat.mod_eq_of_lt hi
 ·rw [aUu,Nat.mul_add_div (by omega),Nat.div_eq_of_lt hi,aSk]
theorem aPi (hi:i<n) (hn:n≠1):rH xs n false (j*n+i)=if i+1<n then dS (xs.getD (j*n+(i+1)) 0 - xs.getD (j*n+i) 0) else dS (xs.getD (j*n+i) 0 - xs.getD (j*n+(i - 1)) 0):=by
 obtain ⟨h1,h2⟩:=aHu (j:=j) hi;unfold rH dAt nO;rw [if_neg hn];simp only [aTs,if_false,h1]
 by_cases h:i+1<n
 ·rw [if_pos (by omega),if_pos h,Nat.add_assoc]
 ·rw [if_neg (by omega),if_neg h,Nat.add_sub_assoc (by omega)]
theorem aPj (hi:i<n) (hn:n≠1):rH xs n true (j*n+i)=if j+1<n then dS (xs.getD (j*n+n+i) 0 - xs.getD (j*n+i) 0) else dS (xs.getD (j*n+i) 0 - xs.getD (j*n - n+i) 0):=by
 obtain ⟨h1,h2⟩:=aHu (j:=j) hi;unfold rH dAt nO;rw [if_neg hn];simp only [if_true,h2]
 by_cases h:j+1<n
 ·rw [if_pos (by omega),if_pos h,show j*n+i+n=j*n+n+i by omega]
 ·rw [if_neg (by omega),if_neg h]
  have hj:1<=j\/j=0:=by omega
  rcases hj with hj|hj
  ·have:1*n<=j*n:=aSq _ hj
   rw [show j*n+i - n=j*n - n+i by omega]
  ·subst hj
   exact absurd (by omega) hn
theorem aB.take_snoc {D:List Int} {x:Int} (h:aB lo w v (D.take k++[x])) (hk:k<D.length) (hx:D[k]=x):aB lo w v (D.take (k+1)):=by
 rw [aRv hk,hx];exact h
theorem aAt (lo hi:Nat) (u:Value) (xs:List Int) (n:Nat) (rows:Bool) (w:World) (hu:aU lo hi w u xs) (hh:hi<=w.heap.size) (hl:xs.length=n*n) (h1:1<=n) (h8:n<=8) (hx9:∀x∈xs,S9 x) :
  Calls aQ2 263 #[u,n,.bool rows] w fun e w'=>∃r,e = .returned r/\aB w.heap.size w' r (iL xs n rows)/\Ext w w':=by
 have y9:=hid hu;obtain ⟨a,cap,rfl,HU⟩:=hu.open;have l1:=HU.le;have l2:=HU.cap;have y5:n*n<=8*8:=aRy h8 h8;have x9:=gR xs n rows;have z5:=nP xs n rows
 obtain ⟨D,hD⟩:=e_ (iL xs n rows)
 rw [hD] at x9
 have x2:∀k (h:k<D.length),D[k]=rH xs n rows k:=by subst hD;exact z5
 rw [hD];have HL:=hid hl;have H9:=hid hx9;have HD:=hid x2;have z3:=hid x9;clear hu hx9 z5 x2 hD x9 hl
 obtain ⟨m,hm⟩:=e_ (n*n)
 have HM:=hid hm;have z2:xs.length=m:=HL.trans hm;rw [hm] at y5;clear hm;rw [z2] at l1 ⊢;have q1:=hid z2;clear z2;go_enter func263,ntmps263;go_wp2_with fail
 have z4:aU lo hi w (.slice a m cap) xs:=by rw [<-q1];exact HU.shut
 have x0:Ext w (w.alloc (.cells #[] 3)):=X_;refine z_ (aIf lo hi _ xs n _ (z4.ext hh x0) h1 h8 HL) ?_;have hO:=hid (aB.lit0 w);have z0:=hid x0;clear z4 x0;go_wp2
 go_loopw [23] (fun i wr=>∃k:Nat,k<=m/\i = .int .i64 k/\wr=w.alloc (.cells #[] 3)) (fun i _=>m - (intOf i).toNat)
 case atStart=>exact ⟨0,by omega,rfl,rfl⟩
 case round=>
  obtain ⟨k,hk,rfl,rfl⟩:=hrel
  by_cases y4:k<m
  ·have z6:k<xs.length:=by rw [q1];exact y4
   obtain ⟨b,x5,rfl,x6,x7,hc⟩:=HU.at z6;have h4:=(z0.out.cells.1 b (x5+k) (by omega)).trans hc;have h9:=H9.out _ (aRh z6)
   obtain ⟨x,hx⟩:=e_ (xs[k])
   rw [hx] at h4 h9;have q8:=hid (aG.2 h9:inB x (-1000000000) 1000000000=true)
   have x8:b<(w.alloc (.cells #[] 3)).heap.size:=by have:=z0.out.size;omega
   clear hc hx h9;go_wp2_with fail;refine z_ (aE q8.out _) ?_;go_wp2;go_roundw
   case rel=>exact ⟨k+1,by omega,by go_num,by trivial⟩
   case measure=>simp [intOf];omega
  ·go_wp2
   go_loopw [7,10] (fun v jv wr=>∃j:Nat,j<=n/\jv = .int .i64 j/\aB w.heap.size wr v (D.take (j*n))/\Ext w wr) (fun _ jv _=>n - (intOf jv).toNat)
   case atStart=>exact ⟨0,by omega,rfl,by simpa using hO.out,z0.out⟩
   case round=>
    obtain ⟨j,hj,rfl,h2,hx⟩:=hrel
    by_cases y3:j<n
    ·have z7:=aSq n (show j+1<=n from y3)
     have y6:j+1<n->j*n+n+n<=m:=fun h=>by
      have:=aSq n (show j+2<=n from h);rw [aTf,HM] at this;omega
     have z9:1<=j->n<=j*n:=fun h=>by have:=aSq n h;omega
     rw [aTf,aTh,HM] at z7
     obtain ⟨p,hp⟩:=e_ (j*n)
     have z8:(j:Int)*n=p:=by rw [<-hp];simp
     have y7:((j:Int)+1)*n=p+n:=by rw [Int.add_mul,z8,aZp]
     have x4:((j:Int) - 1)*n=p - n:=by rw [Int.sub_mul,z8,aZp]
     rw [hp] at z7 h2 z9 y6;have HP:=hid hp;have HO:=hid h2;have HX:=hid hx;clear hp h2 hx;go_wp2
     go_loopw [7,11] (fun v iv wq=>∃i:Nat,i<=n/\iv = .int .i64 i/\aB w.heap.size wq v (D.take (p+i))/\Ext w wq) (fun _ iv _=>n - (intOf iv).toNat)
     case atStart=>exact ⟨0,by omega,rfl,HO,HX⟩
     case round=>
      clear HO HX;obtain ⟨i,hi,rfl,h2,hx⟩:=hrel;obtain ⟨av,cv,rfl,_⟩:=h2.form;have a0:=hx.size;have q3:=z3.out;rw [HM] at q3;replace q3:=hid q3
      by_cases q8:i<n
      ·have q6:(D.take (p+i)).length=p+i:=by rw [aRp,q3.out];omega
       rw [q6] at h2 ⊢;have x1:=hid q6;clear q6
       have x3:p+i<D.length:=by rw [q3.out];omega
       have q2:=hid x3;clear x3
       by_cases q9:n=1
       ·have e1:((n:Int)==1)=true:=by simp [q9]
        have hv:=hid (show D[p+i]'q2.out=0 by rw [HD];unfold rH;rw [if_pos q9]);have HN:=hid q9;have HO:=hid h2;have HX:=hid hx;clear q9 h2 hx;go_wp2_with (at_builtin;refine aV _ rfl _ _ rfl w.heap.size _ _ rfl (HO.alloc _) 0 ⟨by omega,by omega⟩ wr.heap.size rfl (by simp [go_sem]) (by rw [x1];omega) (by simp;omega) ?_;intro v' w7 h2 hg);have h0:=h2.take_snoc q2 hv.out;go_wp2;go_roundw
        case rel=>exact ⟨i+1,by omega,by go_num,h0,aR7 (HX.alloc _) hg (fun g e=>(HO.lt g e).1)⟩
        case measure=>simp [intOf];omega
       ·have e1:((n:Int)==1)=false:=by simp;omega
        have HN:=hid q9;clear q9
        cases rows
        ·by_cases hs:i+1<n
         ·have k1:(p+(i+1))<xs.length:=by rw [q1];omega
          have k2:(p+i)<xs.length:=by rw [q1];omega
          obtain ⟨b,x5,rfl,x6,x7,h5⟩:=HU.at k1;obtain ⟨b',q7,e',q4,q5,h4⟩:=HU.at k2;simp only [aQ0,aR1,and_true] at e';obtain ⟨rfl,rfl⟩:=e';have g1:=H9.out _ (aRh k1);have g2:=H9.out _ (aRh k2);have c1:=(hx.cells.1 b _ (by omega)).trans h5;have c2:=(hx.cells.1 b _ (by omega)).trans h4
          have x8:b<w.heap.size:=by omega
          have hv:D[p+i]'q2.out=dS (xs[(p+(i+1))] - xs[(p+i)]):=by
           rw [HD];have:=aPi (xs:=xs) (j:=j) q8 HN;rw [HP] at this;rw [this,if_pos hs,cP _ _ k1,cP _ _ k2]
          obtain ⟨y1,h6⟩:=e_ (xs[(p+(i+1))])
          obtain ⟨y2,h7⟩:=e_ (xs[(p+i)])
          rw [h6] at c1 g1 hv;rw [h7] at c2 g2 hv
          obtain ⟨z,hz⟩:=e_ (dS (y1 - y2))
          have q0:=hid (fD (y1 - y2)).i64;rw [hz] at hv q0;have HZ:=hid hz;have HV:=hid hv;have HO:=hid h2;have HX:=hid hx;obtain ⟨g3,g4⟩:=g1;obtain ⟨g5,g6⟩:=g2
          have z1:b<wr.heap.size:=by omega
          clear hv hz h6 h7 h5 h4 k1 k2 h2 hx;go_wp2_with fail;refine z_ (jV n i _ (by omega) (by omega)) ?_;rw [if_pos hs,if_pos hs];go_wp2_with fail;refine aA [([0,1,2,3,4,5,6,7,8,9,10,11,12,13,14,15,16,17],18),([],19),([],20),([],21)] 99 w.heap.size (by kernel_rfl) (by kernel_rfl) ?_;refine st_ fun K hK=>?_;go_wp2_with fail;refine z_ (eB HZ _) ?_;go_wp2_with fail;refine k_ hK ?_;clear hK K;refine st_ fun K hK=>?_;go_wp2_with fail;go_wp2_with fail;refine k_ hK ?_;clear hK K;refine aI ?_;simp only [aRg]
          show wpQuiet _ _ _ _ [] _
          try simp only [Act.put,aQ4,aRc,aRb]
          repeat (go_big_quiet_step (fail))
          refine wpQuiet_nil ⟨_,rfl,fun K hK=>?_⟩;refine aV _ rfl _ _ rfl w.heap.size _ _ rfl (HO.ext X_) z q0.out wr.heap.size rfl (by simp [go_sem]) (by rw [x1];omega) (by simp;omega) ?_;intro v' w7 h2 hg;have X7:Ext w w7:=aR7 (aQ3 HX X_) hg (fun g e=>(HO.lt g e).1);have h0:=h2.take_snoc q2 HV
          have h3:(D.take (p+i+1)).length=p+i+1:=by rw [aRp,q3.out];omega
          clear h2;obtain ⟨va,vc,rfl,_⟩:=h0.form;rw [h3] at h0 ⊢;replace h0:=hid h0;clear h3;go_wp2_with fail;refine hK _ _ (.inr (fun k _ hk=>(X7.block hk).trans (HX.block hk).symm)) ?_;clear hK K;refine st_ fun K hK=>?_;go_wp2_with fail;go_wp2_with fail;refine hK _ _ (.inr (fun k _ hk=>(X7.block hk).trans (HX.block hk).symm)) ?_;clear hK K;refine aC ?_;go_wp2;go_roundw
          case rel=>exact ⟨i+1,by omega,by go_num,h0.out,X7⟩
          case measure=>simp [intOf];omega
         ·obtain ⟨i',rfl⟩:∃i',i=i'+1:=⟨i - 1,by have:=HN.out;omega⟩
          have y0:((i':Int)+1) - 1=i':=by omega
          have k1:(p+(i'+1))<xs.length:=by rw [q1];omega
          have k2:(p+i')<xs.length:=by rw [q1];omega
          obtain ⟨b,x5,rfl,x6,x7,h5⟩:=HU.at k1;obtain ⟨b',q7,e',q4,q5,h4⟩:=HU.at k2;simp only [aQ0,aR1,and_true] at e';obtain ⟨rfl,rfl⟩:=e';have g1:=H9.out _ (aRh k1);have g2:=H9.out _ (aRh k2);have c1:=(hx.cells.1 b _ (by omega)).trans h5;have c2:=(hx.cells.1 b _ (by omega)).trans h4
          have x8:b<w.heap.size:=by omega
          have hv:D[p+(i'+1)]'q2.out=dS (xs[(p+(i'+1))] - xs[(p+i')]):=by
           rw [HD];have:=aPi (xs:=xs) (j:=j) q8 HN;rw [HP] at this;rw [this,if_neg hs,show i'+1 - 1=i' from rfl,cP _ _ k1,cP _ _ k2]
          obtain ⟨y1,h6⟩:=e_ (xs[(p+(i'+1))])
          obtain ⟨y2,h7⟩:=e_ (xs[(p+i')])
          rw [h6] at c1 g1 hv;rw [h7] at c2 g2 hv
          obtain ⟨z,hz⟩:=e_ (dS (y1 - y2))
          have q0:=hid (fD (y1 - y2)).i64;rw [hz] at hv q0;have HZ:=hid hz;have HV:=hid hv;have HO:=hid h2;have HX:=hid hx;obtain ⟨g3,g4⟩:=g1;obtain ⟨g5,g6⟩:=g2
          have z1:b<wr.heap.size:=by omega
          clear hv hz h6 h7 h5 h4 k1 k2 h2 hx;go_wp2_with fail;refine z_ (jV n (i'+1) _ (by omega) (by omega)) ?_;rw [if_neg hs,if_neg hs];go_wp2_with fail;refine aA [([0,1,2,3,4,5,6,7,8,9,10,11,12,13,14,15,16,17],18),([],19),([],20),([],21)] 99 w.heap.size (by kernel_rfl) (by kernel_rfl) ?_;refine st_ fun K hK=>?_;go_wp2_with fail;refine z_ (eB HZ _) ?_;go_wp2_with fail;refine k_ hK ?_;clear hK K;refine st_ fun K hK=>?_;go_wp2_with fail;go_wp2_with fail;refine k_ hK ?_;clear hK K;refine aI ?_;simp only [aRg]
          show wpQuiet _ _ _ _ [] _
          try simp only [Act.put,aQ4,aRc,aRb]
          repeat (go_big_quiet_step (fail))
          refine wpQuiet_nil ⟨_,rfl,fun K hK=>?_⟩;refine aV _ rfl _ _ rfl w.heap.size _ _ rfl (HO.ext X_) z q0.out wr.heap.size rfl (by simp [go_sem]) (by rw [x1];omega) (by simp;omega) ?_;intro v' w7 h2 hg;have X7:Ext w w7:=aR7 (aQ3 HX X_) hg (fun g e=>(HO.lt g e).1);have h0:=h2.take_snoc q2 HV
          have h3:(D.take (p+(i'+1)+1)).length=p+(i'+1)+1:=by rw [aRp,q3.out];omega
          clear h2;obtain ⟨va,vc,rfl,_⟩:=h0.form;rw [h3] at h0 ⊢;replace h0:=hid h0;clear h3;go_wp2_with fail;refine hK _ _ (.inr (fun k _ hk=>(X7.block hk).trans (HX.block hk).symm)) ?_;clear hK K;refine st_ fun K hK=>?_;go_wp2_with fail;go_wp2_with fail;refine hK _ _ (.inr (fun k _ hk=>(X7.block hk).trans (HX.block hk).symm)) ?_;clear hK K;refine aC ?_;go_wp2;go_roundw
          case rel=>exact ⟨i'+1+1,by omega,by go_num,h0.out,X7⟩
          case measure=>simp [intOf];omega
        ·by_cases hs:j+1<n
         ·have k1:(p+n+i)<xs.length:=by rw [q1];omega
          have k2:(p+i)<xs.length:=by rw [q1];omega
          obtain ⟨b,x5,rfl,x6,x7,h5⟩:=HU.at k1;obtain ⟨b',q7,e',q4,q5,h4⟩:=HU.at k2;simp only [aQ0,aR1,and_true] at e';obtain ⟨rfl,rfl⟩:=e';have g1:=H9.out _ (aRh k1);have g2:=H9.out _ (aRh k2);have c1:=(hx.cells.1 b _ (by omega)).trans h5;have c2:=(hx.cells.1 b _ (by omega)).trans h4
          have x8:b<w.heap.size:=by omega
          have hv:D[p+i]'q2.out=dS (xs[(p+n+i)] - xs[(p+i)]):=by
           rw [HD];have:=aPj (xs:=xs) (j:=j) q8 HN;rw [HP] at this;rw [this,if_pos hs,cP _ _ k1,cP _ _ k2]
          obtain ⟨y1,h6⟩:=e_ (xs[(p+n+i)])
          obtain ⟨y2,h7⟩:=e_ (xs[(p+i)])
          rw [h6] at c1 g1 hv;rw [h7] at c2 g2 hv
          obtain ⟨z,hz⟩:=e_ (dS (y1 - y2))
          have q0:=hid (fD (y1 - y2)).i64;rw [hz] at hv q0;have HZ:=hid hz;have HV:=hid hv;have HO:=hid h2;have HX:=hid hx;obtain ⟨g3,g4⟩:=g1;obtain ⟨g5,g6⟩:=g2
          have z1:b<wr.heap.size:=by omega
          clear hv hz h6 h7 h5 h4 k1 k2 h2 hx;go_wp2_with fail;refine z_ (jV n j _ (by omega) (by omega)) ?_;rw [if_pos hs,if_pos hs];go_wp2_with fail;refine aA [([0,1,2,3,4,5,6,7,8,9,10,11,12,13,14,15,16,17],18),([],19),([],20),([],21)] 99 w.heap.size (by kernel_rfl) (by kernel_rfl) ?_;refine st_ fun K hK=>?_;go_wp2_with fail;refine z_ (eB HZ _) ?_;go_wp2_with fail;refine k_ hK ?_;clear hK K;refine st_ fun K hK=>?_;go_wp2_with fail;go_wp2_with fail;refine k_ hK ?_;clear hK K;refine aI ?_;simp only [aRg]
          show wpQuiet _ _ _ _ [] _
          try simp only [Act.put,aQ4,aRc,aRb]
          repeat (go_big_quiet_step (fail))
          refine wpQuiet_nil ⟨_,rfl,fun K hK=>?_⟩;refine aV _ rfl _ _ rfl w.heap.size _ _ rfl (HO.ext X_) z q0.out wr.heap.size rfl (by simp [go_sem]) (by rw [x1];omega) (by simp;omega) ?_;intro v' w7 h2 hg;have X7:Ext w w7:=aR7 (aQ3 HX X_) hg (fun g e=>(HO.lt g e).1);have h0:=h2.take_snoc q2 HV
          have h3:(D.take (p+i+1)).length=p+i+1:=by rw [aRp,q3.out];omega
          clear h2;obtain ⟨va,vc,rfl,_⟩:=h0.form;rw [h3] at h0 ⊢;replace h0:=hid h0;clear h3;go_wp2_with fail;refine hK _ _ (.inr (fun k _ hk=>(X7.block hk).trans (HX.block hk).symm)) ?_;clear hK K;refine st_ fun K hK=>?_;go_wp2_with fail;go_wp2_with fail;refine hK _ _ (.inr (fun k _ hk=>(X7.block hk).trans (HX.block hk).symm)) ?_;clear hK K;refine aC ?_;go_wp2;go_roundw
          case rel=>exact ⟨i+1,by omega,by go_num,h0.out,X7⟩
          case measure=>simp [intOf];omega
         ·obtain ⟨p',rfl⟩:∃p',p=p'+n:=⟨p - n,by have:=HN.out;have:=z9 (by omega);omega⟩
          have y8:((j:Int) - 1)*n=p':=by rw [x4];omega
          clear x4
          have k1:(p'+n+i)<xs.length:=by rw [q1];omega
          have k2:(p'+i)<xs.length:=by rw [q1];omega
          obtain ⟨b,x5,rfl,x6,x7,h5⟩:=HU.at k1;obtain ⟨b',q7,e',q4,q5,h4⟩:=HU.at k2;simp only [aQ0,aR1,and_true] at e';obtain ⟨rfl,rfl⟩:=e';have g1:=H9.out _ (aRh k1);have g2:=H9.out _ (aRh k2);have c1:=(hx.cells.1 b _ (by omega)).trans h5;have c2:=(hx.cells.1 b _ (by omega)).trans h4
          have x8:b<w.heap.size:=by omega
          have hv:D[p'+n+i]'q2.out=dS (xs[(p'+n+i)] - xs[(p'+i)]):=by
           rw [HD];have:=aPj (xs:=xs) (j:=j) q8 HN;rw [HP] at this;rw [this,if_neg hs,show p'+n - n+i=p'+i by omega,cP _ _ k1,cP _ _ k2]
          obtain ⟨y1,h6⟩:=e_ (xs[(p'+n+i)])
          obtain ⟨y2,h7⟩:=e_ (xs[(p'+i)])
          rw [h6] at c1 g1 hv;rw [h7] at c2 g2 hv
          obtain ⟨z,hz⟩:=e_ (dS (y1 - y2))
          have q0:=hid (fD (y1 - y2)).i64;rw [hz] at hv q0;have HZ:=hid hz;have HV:=hid hv;have HO:=hid h2;have HX:=hid hx;obtain ⟨g3,g4⟩:=g1;obtain ⟨g5,g6⟩:=g2
          have z1:b<wr.heap.size:=by omega
          clear hv hz h6 h7 h5 h4 k1 k2 h2 hx;go_wp2_with fail;refine z_ (jV n j _ (by omega) (by omega)) ?_;rw [if_neg hs,if_neg hs];go_wp2_with fail;refine aA [([0,1,2,3,4,5,6,7,8,9,10,11,12,13,14,15,16,17],18),([],19),([],20),([],21)] 99 w.heap.size (by kernel_rfl) (by kernel_rfl) ?_;refine st_ fun K hK=>?_;go_wp2_with fail;refine z_ (eB HZ _) ?_;go_wp2_with fail;refine k_ hK ?_;clear hK K;refine st_ fun K hK=>?_;go_wp2_with fail;go_wp2_with fail;refine k_ hK ?_;clear hK K;refine aI ?_;simp only [aRg]
          show wpQuiet _ _ _ _ [] _
          try simp only [Act.put,aQ4,aRc,aRb]
          repeat (go_big_quiet_step (fail))
          refine wpQuiet_nil ⟨_,rfl,fun K hK=>?_⟩;refine aV _ rfl _ _ rfl w.heap.size _ _ rfl (HO.ext X_) z q0.out wr.heap.size rfl (by simp [go_sem]) (by rw [x1];omega) (by simp;omega) ?_;intro v' w7 h2 hg;have X7:Ext w w7:=aR7 (aQ3 HX X_) hg (fun g e=>(HO.lt g e).1);have h0:=h2.take_snoc q2 HV
          have h3:(D.take (p'+n+i+1)).length=p'+n+i+1:=by rw [aRp,q3.out];omega
          clear h2;obtain ⟨va,vc,rfl,_⟩:=h0.form;rw [h3] at h0 ⊢;replace h0:=hid h0;clear h3;go_wp2_with fail;refine hK _ _ (.inr (fun k _ hk=>(X7.block hk).trans (HX.block hk).symm)) ?_;clear hK K;refine st_ fun K hK=>?_;go_wp2_with fail;go_wp2_with fail;refine hK _ _ (.inr (fun k _ hk=>(X7.block hk).trans (HX.block hk).symm)) ?_;clear hK K;refine aC ?_;go_wp2;go_roundw
          case rel=>exact ⟨i+1,by omega,by go_num,h0.out,X7⟩
          case measure=>simp [intOf];omega
      ·obtain rfl:i=n:=by omega
       go_wp2;go_roundw
       case rel=>exact ⟨j+1,by omega,by go_num,by rw [aTf,aTh,HP];exact h2,hx⟩
       case measure=>simp [intOf];omega
    ·obtain rfl:j=n:=by omega
     rw [aR3 (by rw [z3];exact aQv _)] at h2;go_wp2;go_ret;exact ⟨_,rfl,h2,hx⟩
structure tL (w:World) (B:Nat) (n:Int) (pu:Value) (tm lg:Int) (tu:Value):Prop where
 lt:B<w.heap.size
 c0:w.cell? ⟨B,0,none⟩=some (.int .i64 n)
 c1:w.cell? ⟨B,1,none⟩=some pu
 c2:w.cell? ⟨B,2,none⟩=some (.int .i64 tm)
 c3:w.cell? ⟨B,3,none⟩=some (.int .i64 lg)
 c4:w.cell? ⟨B,4,none⟩=some tu
theorem tL.made (w:World) (n:Int) (pu:Value) (tm lg:Int) (tu:Value) (ty:TypeId):tL (w.alloc (.cells #[n,pu,tm,lg,tu] ty)) w.heap.size n pu tm lg tu:=⟨by simp,by simp [go_sem],by simp [go_sem],by simp [go_sem],by simp [go_sem],by simp [go_sem]⟩
theorem tL.ext {n:Int} (h:tL w B n pu tm lg tu) (e:Ext w w'):tL w' B n pu tm lg tu:=by
 have:=e.size;have h0:=h.lt;obtain ⟨a,b⟩:=e.cells;exact ⟨by omega,(a B _ h0).trans h.c0,(a B _ h0).trans h.c1,(a B _ h0).trans h.c2,(a B _ h0).trans h.c3,(a B _ h0).trans h.c4⟩
theorem aGd {s:ByteArray} {r:Int} (hr:lL s.toList f tm q=r) (lo hi n m i j:Nat) (u:Value) (g3:Int) (g4:Value) (w:World) (hu:cY 5 lo hi w u m f) (hh:hi<=w.heap.size) (hq:(j:Int)*n+i=q) (hq':q<m) (hm:m<=1000) (hj:(j:Int)*n<=1000) (h0:0<=(j:Int)*n) (hi0:i<=1000) :
  R_ 262 #[.agg #[n,u,tm,g3,g4],.string s,i,j] w (.int .i64 r):=hr▸uT lo hi n m i j q u f tm g3 g4 s w hu hh hq hq' hm hj h0 hi0
theorem aOi (lo hi:Nat) (n:Int) (pu tu lv:Value) (tm lg:Int) (s:ByteArray) (j:Nat) (L:List (List Int)) (xs:List Int) (w:World) (hL:SS lo hi w lv L) (hh:hi<=w.heap.size) (hx:L[j]?=some xs) (h1:1<=xs.length) (h2:xs.length<=64) :
  Calls aQ2 235 #[.agg #[n,pu,tm,lg,tu],.agg #[.int .i64 3,.string s,j],lv] w fun e w'=>∃r,e = .returned r/\aB w.heap.size w' r xs/\Ext w w':=by
 obtain ⟨a,cap,rfl,HL⟩:=hL.open;have l1:=HL.le;have l2:=HL.cap;have hj:=(aQz.1 hx).1;have h8:=(aQz.1 hx).2;obtain ⟨b,q6,u,rfl,q2,q3,c0,hu⟩:=HL.at hj (aQ6 w) hh;rw [h8] at hu;obtain ⟨ua,uc,rfl,HU⟩:=hu.open;obtain ⟨b2,h7,rfl,q4,q5,_⟩:=HU.at (k:=0) (by omega)
 have h9:b<w.heap.size+1:=by omega
 have q0:b<w.heap.size+1+1:=by omega
 have k1:=HU.le;have k2:=HU.cap
 have HC:∀(w1:World),Ext w w1->∀i y,xs[i]?=some y->I64 y/\w1.cell? ⟨b2,h7+i,none⟩=some (.int .i64 y):=by
  intro w1 x1 i y hy;obtain ⟨h3,b',q1,e,h4,h5,h6⟩:=HU.cell i y hy;simp only [aQ0,aR1,and_true] at e;obtain ⟨rfl,rfl⟩:=e;exact ⟨h3,(x1.cells.1 _ _ (by omega)).trans h6⟩
 replace HC:=hid HC;clear hL hx h8 hu;go_enter func235,ntmps235;go_wp2_with (at_builtin;refine bY _ rfl _ _ rfl w.heap.size (.slice (some ⟨w.heap.size+1+1,0,none⟩) 0 0) [] xs rfl (aB.empty (by omega) (by have:=cB ((w.alloc (.cells #[n,pu,tm,lg,tu] 168)).alloc (.cells #[.int .i64 3,.string s,j] 221)) (.cells #[] 3);simpa using this)) b2 h7 uc rfl (HC _ X_) (by simp;omega) (by simp <;> omega) ?_;intro v' w1 h0 hg;obtain ⟨a',c',rfl,_⟩:=h0.form);go_ret;refine ⟨_,rfl,by simpa using h0,aR7 X_ hg (fun k e=>by simp [aRu] at e;omega)⟩
theorem aOj (lo hi:Nat) (n m:Nat) (pu tu lv:Value) (f:Nat->Int) (tm lg:Int) (s:ByteArray) (num:Int) (w:World) (hp:cY 5 lo hi w pu m f) (hh:hi<=w.heap.size) (hm:n*n=m) (h1:1<=n) (h8:n<=8) (D:List Int) (hD:D.length=m) (hn:I64 num) (hz:∀k (h:k<D.length),D[k]=num) :
  Calls aQ2 235 #[.agg #[n,pu,tm,lg,tu],.agg #[.int .i64 1,.string s,num],lv] w fun e w'=>∃r,e = .returned r/\aB w.heap.size w' r D/\Ext w w':=by
 have x3:=hid hp;have HM:=hid hm;have h7:=hid hD;have q8:n*n<=8*8:=aRy h8 h8;rw [hm] at q8;have x0:Ext w ((w.alloc (.cells #[n,pu,tm,lg,tu] 168)).alloc (.cells #[.int .i64 1,.string s,num] 221)):=X_;have gb:=(tL.made w n pu tm lg tu 168).ext ((aQ6 _).alloc (.cells #[.int .i64 1,.string s,num] 221));have xb:=jQ.made (w.alloc (.cells #[n,pu,tm,lg,tu] 168)) 1 s num 221;simp only [aQy] at xb
 obtain ⟨W0,h6⟩:=e_ ((w.alloc (.cells #[n,pu,tm,lg,tu] 168)).alloc (.cells #[.int .i64 1,.string s,num] 221))
 rw [h6] at x0 gb xb;have h9:=hid gb;have q6:=hid xb;have q5:=hid x0;have q4:=hid h6;have x6:=x0.size
 have q9:w.heap.size+2=W0.heap.size:=by rw [<-h6];simp
 clear hp hm hD gb xb x0 h6;have HV:=hid hz;clear hz;go_enter func235,ntmps235;go_wp2;rw [q4]
 go_loopw [7,8] (fun v jv wr=>∃j:Nat,j<=n/\jv = .int .i64 j/\aB W0.heap.size wr v (D.take (j*n))/\Ext W0 wr) (fun _ jv _=>n - (intOf jv).toNat)
 case atStart=>exact ⟨0,by omega,rfl,by simpa [<-q9] using aB.lit0 W0,X_⟩
 case round=>
  obtain ⟨j,hj,rfl,h0,hx⟩:=hrel;have h2:=h9.ext hx
  by_cases q7:j<n
  ·have q0:=aSq n (show j+1<=n from q7)
   rw [aTf,aTh,HM] at q0
   obtain ⟨p,hp⟩:=e_ (j*n)
   have q1:(j:Int)*n=p:=by rw [<-hp];simp
   rw [hp] at q0 h0;have HP:=hid hp;have x2:=hid q1;have HO:=hid h0;have HX:=hid hx;have g0:=h2.lt;have g1:=h2.c0;have g2:=h2.c1;have g3:=h2.c2;have g4:=h2.c3;have g5:=h2.c4;clear hp q1 h0 hx h2;go_wp2
   go_loopw [7,9] (fun v iv wq=>∃i:Nat,i<=n/\iv = .int .i64 i/\aB W0.heap.size wq v (D.take (p+i))/\Ext W0 wq) (fun _ iv _=>n - (intOf iv).toNat)
   case atStart=>exact ⟨0,by omega,rfl,HO,HX⟩
   case round=>
    clear HO HX g0 g1 g2 g3 g4 g5;obtain ⟨i,x4,rfl,h0,hx⟩:=hrel;obtain ⟨av,cv,rfl,_⟩:=h0.form;have h2:=h9.ext hx;have h4:=q6.ext hx;have x7:=hx.size
    by_cases x5:i<n
    ·have h3:(D.take (p+i)).length=p+i:=by rw [aRp,h7];omega
     have q3:Hid (p+i<D.length):=by rw [h7];show p+i<m;omega
     rw [h3] at h0 ⊢;have q2:=hid h3;clear h3;have g0:=h2.lt;have g1:=h2.c0;have g2:=h2.c1;have g3:=h2.c2;have g4:=h2.c3;have g5:=h2.c4;have y0:=h4.lt;have y1:=h4.c0;have y2:=h4.c1;have y3:=h4.c2;have HX:=hid hx;have HO:=hid h0;clear h2 h4 h0 hx;go_wp2_with (at_builtin;refine aV _ rfl _ _ rfl W0.heap.size _ _ rfl (HO.alloc _) num hn wr.heap.size rfl (by simp [go_sem]) (by rw [q2];omega) (by simp;omega) ?_;intro v' w7 h0 hg);have h5:=h0.take_snoc q3 (HV _ _);clear h0;have X7:Ext W0 w7:=aR7 (HX.alloc _) hg (fun g e=>(HO.lt g e).1);have x1:=hid (h9.ext X7);go_wp2;go_roundw
     case rel=>exact ⟨i+1,by omega,by go_num,h5,X7⟩
     case measure=>simp [intOf];omega
    ·obtain rfl:i=n:=by omega
     have g0:=h2.lt;have g1:=h2.c0;have g2:=h2.c1;have g3:=h2.c2;have g4:=h2.c3;have g5:=h2.c4;clear h2 h4;go_wp2;go_roundw
     case rel=>exact ⟨j+1,by omega,by go_num,by rw [aTf,aTh,HP];exact h0,hx⟩
     case measure=>simp [intOf];omega
  ·obtain rfl:j=n:=by omega
   rw [aR3 (by rw [h7,HM];exact aQv _)] at h0;have g0:=h2.lt;have g1:=h2.c0;have g2:=h2.c1;have g3:=h2.c2;have g4:=h2.c3;have g5:=h2.c4;go_wp2;go_ret;exact ⟨_,rfl,h0.low (by omega),q5.trans hx⟩
theorem aOk (lo hi:Nat) (n m:Nat) (pu tu lv:Value) (f:Nat->Int) (tm lg:Int) (s:ByteArray) (num:Int) (w:World) (hp:cY 5 lo hi w pu m f) (hh:hi<=w.heap.size) (hm:n*n=m) (h1:1<=n) (h8:n<=8) (D:List Int) (hD:D.length=m) (hz:∀k (h:k<D.length),D[k]=lL s.toList f tm k) (h9:∀x∈D,I64 x) :
  Calls aQ2 235 #[.agg #[n,pu,tm,lg,tu],.agg #[.int .i64 2,.string s,num],lv] w fun e w'=>∃r,e = .returned r/\aB w.heap.size w' r D/\Ext w w':=by
 have q9:=hid hp;have HM:=hid hm;have q0:=hid hD;have x6:n*n<=8*8:=aRy h8 h8;rw [hm] at x6;have x0:Ext w ((w.alloc (.cells #[n,pu,tm,lg,tu] 168)).alloc (.cells #[.int .i64 2,.string s,num] 221)):=X_;have gb:=(tL.made w n pu tm lg tu 168).ext ((aQ6 _).alloc (.cells #[.int .i64 2,.string s,num] 221));have xb:=jQ.made (w.alloc (.cells #[n,pu,tm,lg,tu] 168)) 2 s num 221;simp only [aQy] at xb
 obtain ⟨W0,h7⟩:=e_ ((w.alloc (.cells #[n,pu,tm,lg,tu] 168)).alloc (.cells #[.int .i64 2,.string s,num] 221))
 rw [h7] at x0 gb xb;have q1:=hid gb;have x4:=hid xb;have q4:=hid x0;have x2:=hid h7;have z2:=x0.size
 have x8:w.heap.size+2=W0.heap.size:=by rw [<-h7];simp
 clear hp hm hD gb xb x0 h7;have HV:=hid hz;have H9:=hid h9;clear hz h9;go_enter func235,ntmps235;go_wp2;rw [x2]
 go_loopw [7,8] (fun v jv wr=>∃j:Nat,j<=n/\jv = .int .i64 j/\aB W0.heap.size wr v (D.take (j*n))/\Ext W0 wr) (fun _ jv _=>n - (intOf jv).toNat)
 case atStart=>exact ⟨0,by omega,rfl,by simpa [<-x8] using aB.lit0 W0,X_⟩
 case round=>
  obtain ⟨j,hj,rfl,h0,hx⟩:=hrel;have h2:=q1.ext hx
  by_cases x5:j<n
  ·have q5:=aSq n (show j+1<=n from x5)
   rw [aTf,aTh,HM] at q5
   obtain ⟨p,hp⟩:=e_ (j*n)
   have q6:(j:Int)*n=p:=by rw [<-hp];simp
   rw [hp] at q5 h0;have HP:=hid hp;have q2:=hid q6;have HO:=hid h0;have HX:=hid hx;have g0:=h2.lt;have g1:=h2.c0;have g2:=h2.c1;have g3:=h2.c2;have g4:=h2.c3;have g5:=h2.c4;clear hp q6 h0 hx h2;go_wp2
   go_loopw [7,9] (fun v iv wq=>∃i:Nat,i<=n/\iv = .int .i64 i/\aB W0.heap.size wq v (D.take (p+i))/\Ext W0 wq) (fun _ iv _=>n - (intOf iv).toNat)
   case atStart=>exact ⟨0,by omega,rfl,HO,HX⟩
   case round=>
    clear HO HX g0 g1 g2 g3 g4 g5;obtain ⟨i,z0,rfl,h0,hx⟩:=hrel;obtain ⟨av,cv,rfl,_⟩:=h0.form;have h2:=q1.ext hx;have h4:=x4.ext hx;have z4:=hx.size
    by_cases z1:i<n
    ·have h3:(D.take (p+i)).length=p+i:=by rw [aRp,q0];omega
     have h6:Hid (p+i<D.length):=by rw [q0];show p+i<m;omega
     rw [h3] at h0 ⊢;have q8:=hid h3;clear h3;have g0:=h2.lt;have g1:=h2.c0;have g2:=h2.c1;have g3:=h2.c2;have g4:=h2.c3;have g5:=h2.c4;have y0:=h4.lt;have y1:=h4.c0;have y2:=h4.c1;have y3:=h4.c2;have HX:=hid hx;have HO:=hid h0;clear h2 h4 h0 hx
     obtain ⟨z,hz⟩:=e_ (lL s.toList f tm (p+i))
     have q7:Hid (D[p+i]'h6.out=z):=(HV _ h6).trans hz
     have x7:Hid (I64 z):=by have:=H9.out _ (aRh h6.out);rw [q7.out] at this;exact this
     have HZ:=hid hz;clear hz;go_wp2_with fail;refine r_ (aGd HZ lo hi n m i j _ _ _ _ (q9.ext hh (q4.trans HX)) (by omega) (by rw [q2];omega) (by omega) (by omega) (by rw [q2];omega) (by rw [q2];omega) (by omega)) fun w1 x1=>?_;have q3:=hid (HO.ext x1);have x3:=hid (HX.trans x1);have z3:=x1.size;clear g0 g1 g2 g3 g4 g5 y0 y1 y2 y3;go_wp2_with (at_builtin;refine aV _ rfl _ _ rfl W0.heap.size _ _ rfl (q3.alloc _) z x7.out w1.heap.size rfl (by simp [go_sem]) (by rw [q8];omega) (by simp;omega) ?_;intro v' w7 h0 hg);have h5:=h0.take_snoc h6 q7.out;clear h0;have X7:Ext W0 w7:=aR7 (x3.alloc _) hg (fun g e=>(q3.lt g e).1);have x9:=hid (q1.ext X7);go_wp2;go_roundw
     case rel=>exact ⟨i+1,by omega,by go_num,h5,X7⟩
     case measure=>simp [intOf];omega
    ·obtain rfl:i=n:=by omega
     have g0:=h2.lt;have g1:=h2.c0;have g2:=h2.c1;have g3:=h2.c2;have g4:=h2.c3;have g5:=h2.c4;clear h2 h4;go_wp2;go_roundw
     case rel=>exact ⟨j+1,by omega,by go_num,by rw [aTf,aTh,HP];exact h0,hx⟩
     case measure=>simp [intOf];omega
  ·obtain rfl:j=n:=by omega
   rw [aR3 (by rw [q0,HM];exact aQv _)] at h0;have g0:=h2.lt;have g1:=h2.c0;have g2:=h2.c1;have g3:=h2.c2;have g4:=h2.c3;have g5:=h2.c4;go_wp2;go_ret;exact ⟨_,rfl,h0.low (by omega),q4.trans hx⟩
def xF (s:ByteArray) (n:Nat) (pu:Value) (tm:Int) (tu:Value) (t:Tex) (ar:Nat) (fv:List Int->Int):Prop:=
 ∀(lo hi lo' hi':Nat) (u:Value) (x:List Int) (w:World),x.length=ar->(∀y∈x,S9 y)->aU lo hi w u x->hi<=w.heap.size->cN lo' hi' w (.agg #[t.log,tu]) t->hi'<=w.heap.size ->
  R_ 264 #[.agg #[n,pu,tm,t.log,tu],.string s,u] w (.int .i64 (fv x))
def aMt (num:Int) (ar:Nat) (fv:List Int->Int):Prop:=
 ∀(lo hi:Nat) (u:Value) (x:List Int) (w:World),x.length=ar->(∀y∈x,S9 y)->aU lo hi w u x->hi<=w.heap.size ->
  R_ 265 #[num,u] w (.int .i64 (fv x))
theorem aMu (fv:List Int->Int) (s:ByteArray) (num:Int) (S:List (List Int)) (lo hi lo' hi':Nat) (n m:Nat) (pu tu av:Value) (tm:Int) (t:Tex) (w:World)
  (hdu:(s.toList==[100,117])=false) (hdv:(s.toList==[100,118])=false) (hF:xF s n pu tm tu t S.length fv) (hS:SS lo hi w av S) (hh:hi<=w.heap.size) (hT:cN lo' hi' w (.agg #[t.log,tu]) t) (hh':hi'<=w.heap.size) (hg:∀r∈S,fG m r) (hm:(n:Int)*n=m) (hm2:m<=64) (hl:S.length<=3) :
  Calls aQ2 236 #[.agg #[n,pu,tm,t.log,tu],.agg #[.int .i64 7,.string s,num],av] w fun e w'=>∃r,e = .returned r/\aB w.heap.size w' r ((aRl m).map fun k=>dS (fv (cR S k)))/\Ext w w':=by
 obtain ⟨a,cap,rfl,HS⟩:=hS.open;have l1:=HS.le;have l2:=HS.cap;have HT:=hid hT;have HG:=hid hg;have HF:=hid hF;clear hS hT hg hF
 obtain ⟨D,hD⟩:=e_ ((aRl m).map fun k=>dS (fv (cR S k)))
 have h5:Hid (D.length=m):=by rw [<-hD];show (aXq _ _).length=m;simp
 have x2:Hid (∀k (h:k<D.length),D[k]=dS (fv (cR S k))):=by subst hD;show ∀k (h:k<(aXq _ _).length),(aXq _ _)[k]=_;intro k h;simp
 rw [hD];clear hD;have x0:Ext w ((w.alloc (.cells #[n,pu,tm,t.log,tu] 168)).alloc (.cells #[.int .i64 7,.string s,num] 221)):=X_;have gb:=(tL.made w n pu tm t.log tu 168).ext ((aQ6 _).alloc (.cells #[.int .i64 7,.string s,num] 221));have xb:=jQ.made (w.alloc (.cells #[n,pu,tm,t.log,tu] 168)) 7 s num 221;simp only [aQy] at xb
 obtain ⟨W0,h8⟩:=e_ ((w.alloc (.cells #[n,pu,tm,t.log,tu] 168)).alloc (.cells #[.int .i64 7,.string s,num] 221))
 rw [h8] at x0 gb xb;have q3:=hid gb;have q6:=hid xb;have h7:=hid x0;have x5:=hid h8;have y4:=x0.size
 have z2:w.heap.size+2=W0.heap.size:=by rw [<-h8];simp
 clear gb xb x0 h8;go_enter func236,ntmps236;go_wp2;rw [x5]
 go_loopw [7,8] (fun v jv wr=>∃k:Nat,k<=m/\jv = .int .i64 k/\aB W0.heap.size wr v (D.take k)/\Ext W0 wr) (fun _ jv _=>m - (intOf jv).toNat)
 case atStart=>exact ⟨0,by omega,rfl,by simpa [<-z2] using aB.lit0 W0,X_⟩
 case round=>
  obtain ⟨k,hk,rfl,h0,hx⟩:=hrel;obtain ⟨ov,oc,rfl,_⟩:=h0.form;have h2:=q3.ext hx;have h3:=q6.ext hx;have g0:=h2.lt;have g1:=h2.c0;have g2:=h2.c1;have g3:=h2.c2;have g4:=h2.c3;have g5:=h2.c4
  by_cases q8:k<m
  ·have h1:(D.take k).length=k:=by rw [aRp,h5];omega
   have q1:Hid (k<D.length):=by rw [h5];exact q8
   rw [h1] at h0 ⊢;have x3:=hid h1;clear h1;have HO:=hid h0;have HX:=hid hx;clear h0 hx h2 h3
   rename World=>W1
   have y6:=HX.size;go_wp2
   go_loopw [9,48] (fun v i wq=>∃j:Nat,j<=S.length/\i = .int .i64 j/\aB W1.heap.size wq v ((cR S k).take j)/\Ext W1 wq) (fun _ i _=>S.length - (intOf i).toNat)
   case atStart=>exact ⟨0,by omega,rfl,aB.lit0 W1,X_⟩
   case round=>
    clear g0 g1 g2 g3 g4 g5;obtain ⟨j,hj,rfl,h0,hy⟩:=hrel;obtain ⟨av,cv,rfl,z9⟩:=h0.form
    have h1:((cR S k).take j).length=j:=by rw [aRp,dD];omega
    rw [h1] at h0 ⊢
    by_cases q2:j<S.length
    ·obtain ⟨b,y7,u,rfl,z4,z5,c0,hu⟩:=HS.at q2 (h7.trans (HX.trans hy)) hh
     obtain ⟨g1,g2⟩:=HG _ (aRh q2);obtain ⟨ua,uc,rfl,HU⟩:=hu.open;have lu:=HU.le;have lc:=HU.cap;obtain ⟨b3,z3,rfl,z6,z7,c3⟩:=HU.at (k:=k) (by omega);have x9:=HX.size;have z0:=hy.size
     have z8:b3<wr.heap.size:=by omega
     have q7:=cP S[j] k (by omega);have h9:=mT S k j q2;rw [q7] at h9;have i9:=(g2 _ (aRh (show k<S[j].length by omega))).i64
     obtain ⟨x,x1⟩:=e_ (S[j][k]'(by omega))
     rw [x1] at c3 h9 i9;rw [g1] at lu c0;have h6:=hid h0;have HY:=hid hy;have x4:=hid h9;have HL:=hid h1;have HI:=hid i9;clear h0 hy h9 h1 x1 q7 hu HU i9 x9 z0 g1 g2;go_wp2_with (at_builtin;refine aV _ rfl _ _ rfl W1.heap.size _ _ rfl (h6.alloc _) x HI wr.heap.size rfl (by simp [go_sem]) (by rw [HL];omega) (by have:=HY.size;simp;omega) ?_;intro v' w7 h0 hg);rw [x4] at h0;go_wp2;go_roundw
     case rel=>exact ⟨j+1,by omega,by go_num,h0,aR7 (HY.alloc _) hg (fun g e=>(h6.lt g e).1)⟩
     case measure=>simp [intOf];omega
    ·obtain rfl:j=S.length:=by omega
     rw [aR3 (by rw [dD];omega)] at h0;have xq:=HX.trans hy;have q9:=rY HG q8;have h2:=q3.ext xq;have h3:=q6.ext xq;have HC:=hid (HF _ _ _ _ _ _ wr (dD S k) q9 h0.ints (aQv _) (HT.ext hh' (h7.trans xq)) (by have:=xq.size;omega));have x6:=hid xq;have h6:=hid (HO.ext hy);have g0:=h2.lt;have g1:=h2.c0;have g2:=h2.c1;have g3:=h2.c2;have g4:=h2.c3;have g5:=h2.c4;have y0:=h3.lt;have y1:=h3.c0;have y2:=h3.c1;have y3:=h3.c2;clear h0 hy xq q9 h1 h2 h3;go_wp2_with fail;refine HC.mono ?_;rintro e w7 ⟨rfl,x7⟩
     obtain ⟨z,hz⟩:=e_ (dS (fv (cR S k)))
     have HZ:=hid hz;have z1:Hid (I64 z):=hid (by rw [<-hz];exact (fD _).i64);have q5:=hid (x6.trans x7);have q4:=hid (h6.ext x7);have x8:Hid (D[k]'q1.out=z):=(x2 _ q1).trans hz;have y5:=q5.size;clear hz x7 g0 g1 g2 g3 g4 g5 y0 y1 y2 y3;go_wp2_with fail;refine z_ (eB HZ _) ?_;go_wp2_with (at_builtin;refine aV _ rfl _ _ rfl W0.heap.size _ _ rfl (q4.alloc _) z z1.out w7.heap.size rfl (by simp [go_sem]) (by rw [x3];omega) (by simp;omega) ?_;intro v' w9 h0 hg);have h4:=h0.take_snoc q1 x8.out;clear h0;have X9:Ext W0 w9:=aR7 (q5.alloc _) hg (fun g e=>(q4.lt g e).1);go_wp2;go_roundw
     case rel=>exact ⟨k+1,by omega,by go_num,h4,X9⟩
     case measure=>simp [intOf];omega
  ·obtain rfl:k=m:=by omega
   rw [aR3 (by rw [h5];exact aQv _)] at h0 ⊢;have q0:=h5.out;go_wp2;go_ret
   first|exact ⟨_,rfl,h0.low (by omega),h7.trans hx⟩|(rw [q0] at h0;exact ⟨_,rfl,h0.low (by omega),h7.trans hx⟩)
theorem aMv (fv:List Int->Int) (s:ByteArray) (num:Int) (S:List (List Int)) (lo hi lo' hi':Nat) (n m:Nat) (pu tu av:Value) (tm:Int) (t:Tex) (w:World)
  (hF:aMt num S.length fv) (hS:SS lo hi w av S) (hh:hi<=w.heap.size) (hT:cN lo' hi' w (.agg #[t.log,tu]) t) (hh':hi'<=w.heap.size) (hg:∀r∈S,fG m r) (hm:(n:Int)*n=m) (hm2:m<=64) (hl:S.length<=3) :
  Calls aQ2 236 #[.agg #[n,pu,tm,t.log,tu],.agg #[.int .i64 5,.string s,num],av] w fun e w'=>∃r,e = .returned r/\aB w.heap.size w' r ((aRl m).map fun k=>dS (fv (cR S k)))/\Ext w w':=by
 obtain ⟨a,cap,rfl,HS⟩:=hS.open;have l1:=HS.le;have l2:=HS.cap;have HT:=hid hT;have HG:=hid hg;have HF:=hid hF;clear hS hT hg hF
 obtain ⟨D,hD⟩:=e_ ((aRl m).map fun k=>dS (fv (cR S k)))
 have h5:Hid (D.length=m):=by rw [<-hD];show (aXq _ _).length=m;simp
 have x2:Hid (∀k (h:k<D.length),D[k]=dS (fv (cR S k))):=by subst hD;show ∀k (h:k<(aXq _ _).length),(aXq _ _)[k]=_;intro k h;simp
 rw [hD];clear hD;have x0:Ext w ((w.alloc (.cells #[n,pu,tm,t.log,tu] 168)).alloc (.cells #[.int .i64 5,.string s,num] 221)):=X_;have gb:=(tL.made w n pu tm t.log tu 168).ext ((aQ6 _).alloc (.cells #[.int .i64 5,.string s,num] 221));have xb:=jQ.made (w.alloc (.cells #[n,pu,tm,t.log,tu] 168)) 5 s num 221;simp only [aQy] at xb
 obtain ⟨W0,h7⟩:=e_ ((w.alloc (.cells #[n,pu,tm,t.log,tu] 168)).alloc (.cells #[.int .i64 5,.string s,num] 221))
 rw [h7] at x0 gb xb;have q3:=hid gb;have q6:=hid xb;have q1:=hid x0;have x5:=hid h7;have y4:=x0.size
 have z2:w.heap.size+2=W0.heap.size:=by rw [<-h7];simp
 clear gb xb x0 h7;go_enter func236,ntmps236;go_wp2;rw [x5]
 go_loopw [7,8] (fun v jv wr=>∃k:Nat,k<=m/\jv = .int .i64 k/\aB W0.heap.size wr v (D.take k)/\Ext W0 wr) (fun _ jv _=>m - (intOf jv).toNat)
 case atStart=>exact ⟨0,by omega,rfl,by simpa [<-z2] using aB.lit0 W0,X_⟩
 case round=>
  obtain ⟨k,hk,rfl,h0,hx⟩:=hrel;obtain ⟨ov,oc,rfl,_⟩:=h0.form;have h2:=q3.ext hx;have h3:=q6.ext hx;have g0:=h2.lt;have g1:=h2.c0;have g2:=h2.c1;have g3:=h2.c2;have g4:=h2.c3;have g5:=h2.c4
  by_cases q8:k<m
  ·have h1:(D.take k).length=k:=by rw [aRp,h5];omega
   have q0:Hid (k<D.length):=by rw [h5];exact q8
   rw [h1] at h0 ⊢;have x3:=hid h1;clear h1;have HO:=hid h0;have HX:=hid hx;clear h0 hx h2 h3
   rename World=>W1
   have y6:=HX.size;go_wp2
   go_loopw [9,48] (fun v i wq=>∃j:Nat,j<=S.length/\i = .int .i64 j/\aB W1.heap.size wq v ((cR S k).take j)/\Ext W1 wq) (fun _ i _=>S.length - (intOf i).toNat)
   case atStart=>exact ⟨0,by omega,rfl,aB.lit0 W1,X_⟩
   case round=>
    clear g0 g1 g2 g3 g4 g5;obtain ⟨j,hj,rfl,h0,hy⟩:=hrel;obtain ⟨av,cv,rfl,z9⟩:=h0.form
    have h1:((cR S k).take j).length=j:=by rw [aRp,dD];omega
    rw [h1] at h0 ⊢
    by_cases q2:j<S.length
    ·obtain ⟨b,y7,u,rfl,z4,z5,c0,hu⟩:=HS.at q2 (q1.trans (HX.trans hy)) hh
     obtain ⟨g1,g2⟩:=HG _ (aRh q2);obtain ⟨ua,uc,rfl,HU⟩:=hu.open;have lu:=HU.le;have lc:=HU.cap;obtain ⟨b3,z3,rfl,z6,z7,c3⟩:=HU.at (k:=k) (by omega);have x9:=HX.size;have z0:=hy.size
     have z8:b3<wr.heap.size:=by omega
     have q7:=cP S[j] k (by omega);have h8:=mT S k j q2;rw [q7] at h8;have i9:=(g2 _ (aRh (show k<S[j].length by omega))).i64
     obtain ⟨x,x1⟩:=e_ (S[j][k]'(by omega))
     rw [x1] at c3 h8 i9;rw [g1] at lu c0;have h6:=hid h0;have HY:=hid hy;have x4:=hid h8;have HL:=hid h1;have HI:=hid i9;clear h0 hy h8 h1 x1 q7 hu HU i9 x9 z0 g1 g2;go_wp2_with (at_builtin;refine aV _ rfl _ _ rfl W1.heap.size _ _ rfl (h6.alloc _) x HI wr.heap.size rfl (by simp [go_sem]) (by rw [HL];omega) (by have:=HY.size;simp;omega) ?_;intro v' w7 h0 hg);rw [x4] at h0;go_wp2;go_roundw
     case rel=>exact ⟨j+1,by omega,by go_num,h0,aR7 (HY.alloc _) hg (fun g e=>(h6.lt g e).1)⟩
     case measure=>simp [intOf];omega
    ·obtain rfl:j=S.length:=by omega
     rw [aR3 (by rw [dD];omega)] at h0;have xq:=HX.trans hy;have q9:=rY HG q8;have h2:=q3.ext xq;have h3:=q6.ext xq;have HC:=hid (HF _ _ _ _ wr (dD S k) q9 h0.ints (aQv _));have x6:=hid xq;have h6:=hid (HO.ext hy);have g0:=h2.lt;have g1:=h2.c0;have g2:=h2.c1;have g3:=h2.c2;have g4:=h2.c3;have g5:=h2.c4;have y0:=h3.lt;have y1:=h3.c0;have y2:=h3.c1;have y3:=h3.c2;clear h0 hy xq q9 h1 h2 h3;go_wp2_with fail;refine HC.mono ?_;rintro e w7 ⟨rfl,x7⟩
     obtain ⟨z,hz⟩:=e_ (dS (fv (cR S k)))
     have HZ:=hid hz;have z1:Hid (I64 z):=hid (by rw [<-hz];exact (fD _).i64);have q5:=hid (x6.trans x7);have q4:=hid (h6.ext x7);have x8:Hid (D[k]'q0.out=z):=(x2 _ q0).trans hz;have y5:=q5.size;clear hz x7 g0 g1 g2 g3 g4 g5 y0 y1 y2 y3;go_wp2_with fail;refine z_ (eB HZ _) ?_;go_wp2_with (at_builtin;refine aV _ rfl _ _ rfl W0.heap.size _ _ rfl (q4.alloc _) z z1.out w7.heap.size rfl (by simp [go_sem]) (by rw [x3];omega) (by simp;omega) ?_;intro v' w9 h0 hg);have h4:=h0.take_snoc q0 x8.out;clear h0;have X9:Ext W0 w9:=aR7 (q5.alloc _) hg (fun g e=>(q4.lt g e).1);go_wp2;go_roundw
     case rel=>exact ⟨k+1,by omega,by go_num,h4,X9⟩
     case measure=>simp [intOf];omega
  ·obtain rfl:k=m:=by omega
   rw [aR3 (by rw [h5];exact aQv _)] at h0 ⊢;have h9:=h5.out;go_wp2;go_ret
   first|exact ⟨_,rfl,h0.low (by omega),q1.trans hx⟩|(rw [h9] at h0;exact ⟨_,rfl,h0.low (by omega),q1.trans hx⟩)
theorem aMw (fv:List Int->Int) (s:ByteArray) (num:Int) (S:List (List Int)) (lo hi lo' hi':Nat) (n m:Nat) (pu tu av:Value) (tm:Int) (t:Tex) (w:World)
  (hF:aMt num S.length fv) (hS:SS lo hi w av S) (hh:hi<=w.heap.size) (hT:cN lo' hi' w (.agg #[t.log,tu]) t) (hh':hi'<=w.heap.size) (hg:∀r∈S,fG m r) (hm:(n:Int)*n=m) (hm2:m<=64) (hl:S.length<=3) :
  Calls aQ2 236 #[.agg #[n,pu,tm,t.log,tu],.agg #[.int .i64 6,.string s,num],av] w fun e w'=>∃r,e = .returned r/\aB w.heap.size w' r ((aRl m).map fun k=>dS (fv (cR S k)))/\Ext w w':=by
 obtain ⟨a,cap,rfl,HS⟩:=hS.open;have l1:=HS.le;have l2:=HS.cap;have HT:=hid hT;have HG:=hid hg;have HF:=hid hF;clear hS hT hg hF
 obtain ⟨D,hD⟩:=e_ ((aRl m).map fun k=>dS (fv (cR S k)))
 have h5:Hid (D.length=m):=by rw [<-hD];show (aXq _ _).length=m;simp
 have x2:Hid (∀k (h:k<D.length),D[k]=dS (fv (cR S k))):=by subst hD;show ∀k (h:k<(aXq _ _).length),(aXq _ _)[k]=_;intro k h;simp
 rw [hD];clear hD;have x0:Ext w ((w.alloc (.cells #[n,pu,tm,t.log,tu] 168)).alloc (.cells #[.int .i64 6,.string s,num] 221)):=X_;have gb:=(tL.made w n pu tm t.log tu 168).ext ((aQ6 _).alloc (.cells #[.int .i64 6,.string s,num] 221));have xb:=jQ.made (w.alloc (.cells #[n,pu,tm,t.log,tu] 168)) 6 s num 221;simp only [aQy] at xb
 obtain ⟨W0,h7⟩:=e_ ((w.alloc (.cells #[n,pu,tm,t.log,tu] 168)).alloc (.cells #[.int .i64 6,.string s,num] 221))
 rw [h7] at x0 gb xb;have q3:=hid gb;have q6:=hid xb;have q1:=hid x0;have x5:=hid h7;have y4:=x0.size
 have z2:w.heap.size+2=W0.heap.size:=by rw [<-h7];simp
 clear gb xb x0 h7;go_enter func236,ntmps236;go_wp2;rw [x5]
 go_loopw [7,8] (fun v jv wr=>∃k:Nat,k<=m/\jv = .int .i64 k/\aB W0.heap.size wr v (D.take k)/\Ext W0 wr) (fun _ jv _=>m - (intOf jv).toNat)
 case atStart=>exact ⟨0,by omega,rfl,by simpa [<-z2] using aB.lit0 W0,X_⟩
 case round=>
  obtain ⟨k,hk,rfl,h0,hx⟩:=hrel;obtain ⟨ov,oc,rfl,_⟩:=h0.form;have h2:=q3.ext hx;have h3:=q6.ext hx;have g0:=h2.lt;have g1:=h2.c0;have g2:=h2.c1;have g3:=h2.c2;have g4:=h2.c3;have g5:=h2.c4
  by_cases q8:k<m
  ·have h1:(D.take k).length=k:=by rw [aRp,h5];omega
   have q0:Hid (k<D.length):=by rw [h5];exact q8
   rw [h1] at h0 ⊢;have x3:=hid h1;clear h1;have HO:=hid h0;have HX:=hid hx;clear h0 hx h2 h3
   rename World=>W1
   have y6:=HX.size;go_wp2
   go_loopw [9,48] (fun v i wq=>∃j:Nat,j<=S.length/\i = .int .i64 j/\aB W1.heap.size wq v ((cR S k).take j)/\Ext W1 wq) (fun _ i _=>S.length - (intOf i).toNat)
   case atStart=>exact ⟨0,by omega,rfl,aB.lit0 W1,X_⟩
   case round=>
    clear g0 g1 g2 g3 g4 g5;obtain ⟨j,hj,rfl,h0,hy⟩:=hrel;obtain ⟨av,cv,rfl,z9⟩:=h0.form
    have h1:((cR S k).take j).length=j:=by rw [aRp,dD];omega
    rw [h1] at h0 ⊢
    by_cases q2:j<S.length
    ·obtain ⟨b,y7,u,rfl,z4,z5,c0,hu⟩:=HS.at q2 (q1.trans (HX.trans hy)) hh
     obtain ⟨g1,g2⟩:=HG _ (aRh q2);obtain ⟨ua,uc,rfl,HU⟩:=hu.open;have lu:=HU.le;have lc:=HU.cap;obtain ⟨b3,z3,rfl,z6,z7,c3⟩:=HU.at (k:=k) (by omega);have x9:=HX.size;have z0:=hy.size
     have z8:b3<wr.heap.size:=by omega
     have q7:=cP S[j] k (by omega);have h8:=mT S k j q2;rw [q7] at h8;have i9:=(g2 _ (aRh (show k<S[j].length by omega))).i64
     obtain ⟨x,x1⟩:=e_ (S[j][k]'(by omega))
     rw [x1] at c3 h8 i9;rw [g1] at lu c0;have h6:=hid h0;have HY:=hid hy;have x4:=hid h8;have HL:=hid h1;have HI:=hid i9;clear h0 hy h8 h1 x1 q7 hu HU i9 x9 z0 g1 g2;go_wp2_with (at_builtin;refine aV _ rfl _ _ rfl W1.heap.size _ _ rfl (h6.alloc _) x HI wr.heap.size rfl (by simp [go_sem]) (by rw [HL];omega) (by have:=HY.size;simp;omega) ?_;intro v' w7 h0 hg);rw [x4] at h0;go_wp2;go_roundw
     case rel=>exact ⟨j+1,by omega,by go_num,h0,aR7 (HY.alloc _) hg (fun g e=>(h6.lt g e).1)⟩
     case measure=>simp [intOf];omega
    ·obtain rfl:j=S.length:=by omega
     rw [aR3 (by rw [dD];omega)] at h0;have xq:=HX.trans hy;have q9:=rY HG q8;have h2:=q3.ext xq;have h3:=q6.ext xq;have HC:=hid (HF _ _ _ _ wr (dD S k) q9 h0.ints (aQv _));have x6:=hid xq;have h6:=hid (HO.ext hy);have g0:=h2.lt;have g1:=h2.c0;have g2:=h2.c1;have g3:=h2.c2;have g4:=h2.c3;have g5:=h2.c4;have y0:=h3.lt;have y1:=h3.c0;have y2:=h3.c1;have y3:=h3.c2;clear h0 hy xq q9 h1 h2 h3;go_wp2_with fail;refine HC.mono ?_;rintro e w7 ⟨rfl,x7⟩
     obtain ⟨z,hz⟩:=e_ (dS (fv (cR S k)))
     have HZ:=hid hz;have z1:Hid (I64 z):=hid (by rw [<-hz];exact (fD _).i64);have q5:=hid (x6.trans x7);have q4:=hid (h6.ext x7);have x8:Hid (D[k]'q0.out=z):=(x2 _ q0).trans hz;have y5:=q5.size;clear hz x7 g0 g1 g2 g3 g4 g5 y0 y1 y2 y3;go_wp2_with fail;refine z_ (eB HZ _) ?_;go_wp2_with (at_builtin;refine aV _ rfl _ _ rfl W0.heap.size _ _ rfl (q4.alloc _) z z1.out w7.heap.size rfl (by simp [go_sem]) (by rw [x3];omega) (by simp;omega) ?_;intro v' w9 h0 hg);have h4:=h0.take_snoc q0 x8.out;clear h0;have X9:Ext W0 w9:=aR7 (q5.alloc _) hg (fun g e=>(q4.lt g e).1);go_wp2;go_roundw
     case rel=>exact ⟨k+1,by omega,by go_num,h4,X9⟩
     case measure=>simp [intOf];omega
  ·obtain rfl:k=m:=by omega
   rw [aR3 (by rw [h5];exact aQv _)] at h0 ⊢;have h9:=h5.out;go_wp2;go_ret
   first|exact ⟨_,rfl,h0.low (by omega),q1.trans hx⟩|(rw [h9] at h0;exact ⟨_,rfl,h0.low (by omega),q1.trans hx⟩)
theorem aK0 (n:Nat) (pu:Value) (tm:Int) (tu:Value) (t:Tex) (_ht:t.okB=true):xF ⟨#[97,98,115]⟩ n pu tm tu t 1 (fnV t [97,98,115]):=by
 intro lo hi lo' hi' u x w hl hs hu hh hv h0;obtain ⟨a,rfl⟩:=wU hl;exact aL2 lo hi u _ _ _ _ _ w hu hh (hs a (by simp)) rfl
theorem aGe (n:Nat) (pu:Value) (tm:Int) (tu:Value) (t:Tex) (_ht:t.okB=true):xF ⟨#[102,108,111,111,114]⟩ n pu tm tu t 1 (fnV t [102,108,111,111,114]):=by
 intro lo hi lo' hi' u x w hl hs hu hh hv h0;obtain ⟨a,rfl⟩:=wU hl;exact aIc lo hi u _ _ _ _ _ w hu hh (hs a (by simp)) rfl
theorem aK1 (n:Nat) (pu:Value) (tm:Int) (tu:Value) (t:Tex) (_ht:t.okB=true):xF ⟨#[109,105,110]⟩ n pu tm tu t 2 (fnV t [109,105,110]):=by
 intro lo hi lo' hi' u x w hl hs hu hh hv h0;obtain ⟨a,b,rfl⟩:=jH hl;exact aL3 lo hi u _ _ _ _ _ w hu hh (hs a (by simp)) (hs b (by simp)) rfl
theorem aK2 (n:Nat) (pu:Value) (tm:Int) (tu:Value) (t:Tex) (_ht:t.okB=true):xF ⟨#[109,97,120]⟩ n pu tm tu t 2 (fnV t [109,97,120]):=by
 intro lo hi lo' hi' u x w hl hs hu hh hv h0;obtain ⟨a,b,rfl⟩:=jH hl;exact aL4 lo hi u _ _ _ _ _ w hu hh (hs a (by simp)) (hs b (by simp)) rfl
theorem aJb (n:Nat) (pu:Value) (tm:Int) (tu:Value) (t:Tex) (_ht:t.okB=true):xF ⟨#[115,116,101,112]⟩ n pu tm tu t 2 (fnV t [115,116,101,112]):=by
 intro lo hi lo' hi' u x w hl hs hu hh hv h0;obtain ⟨a,b,rfl⟩:=jH hl;exact aJ1 lo hi u _ _ _ _ _ w hu hh (hs a (by simp)) (hs b (by simp)) rfl
theorem aGf (n:Nat) (pu:Value) (tm:Int) (tu:Value) (t:Tex) (_ht:t.okB=true):xF ⟨#[110,111,105,115,101]⟩ n pu tm tu t 2 (fnV t [110,111,105,115,101]):=by
 intro lo hi lo' hi' u x w hl hs hu hh hv h0;obtain ⟨a,b,rfl⟩:=jH hl;exact aIe lo hi u _ _ _ _ _ w hu hh (hs a (by simp)) (hs b (by simp)) rfl
theorem aK3 (n:Nat) (pu:Value) (tm:Int) (tu:Value) (t:Tex) (_ht:t.okB=true):xF ⟨#[116,101,120]⟩ n pu tm tu t 2 (fnV t [116,101,120]):=by
 intro lo hi lo' hi' u x w hl hs hu hh hv h0;obtain ⟨a,b,rfl⟩:=jH hl;exact aL6 lo hi lo' hi' u _ _ _ _ _ t w hu hh hv h0 _ht rfl
theorem aGg (n:Nat) (pu:Value) (tm:Int) (tu:Value) (t:Tex) (_ht:t.okB=true):xF ⟨#[99,108,97,109,112]⟩ n pu tm tu t 3 (fnV t [99,108,97,109,112]):=by
 intro lo hi lo' hi' u x w hl hs hu hh hv h0;obtain ⟨a,b,c,rfl⟩:=rZ hl;exact aId lo hi u _ _ _ _ _ w hu hh  rfl
theorem aK4 (n:Nat) (pu:Value) (tm:Int) (tu:Value) (t:Tex) (_ht:t.okB=true):xF ⟨#[109,105,120]⟩ n pu tm tu t 3 (fnV t [109,105,120]):=by
 intro lo hi lo' hi' u x w hl hs hu hh hv h0;obtain ⟨a,b,c,rfl⟩:=rZ hl;exact aL5 lo hi u _ _ _ _ _ w hu hh (hs a (by simp)) (hs b (by simp)) (hs c (by simp)) rfl
theorem aK5 (rows:Bool) (xs:List Int) (lo hi:Nat) (n m:Nat) (pu tu av:Value) (tm g3 num:Int) (w:World) (s:ByteArray) (S:List (List Int)) (hs:s.toList=if rows then [100,118] else [100,117]) (hxs:S[0]?=some xs)
  (hS:SS lo hi w av S) (hh:hi<=w.heap.size) (hg:fG m xs) (hm:n*n=m) (h1:1<=n) (h8:n<=8) :
  Calls aQ2 236 #[.agg #[n,pu,tm,g3,tu],.agg #[.int .i64 7,.string s,num],av] w fun e w'=>∃r,e = .returned r/\aB w.heap.size w' r (iL xs n rows)/\Ext w w':=by
 obtain ⟨a,cap,rfl,HS⟩:=hS.open;have l1:=HS.le;have l2:=HS.cap;have h4:=(aQz.1 hxs).1;have h0:=(aQz.1 hxs).2;obtain ⟨b,h9,u,rfl,h5,h6,c0,hu⟩:=HS.at h4 (aQ6 w) hh;rw [h0] at hu;simp only [aSk] at c0
 have h7:b≠w.heap.size:=by omega
 have h3:b≠w.heap.size+1:=by omega
 have h2:b<w.heap.size+1:=by omega
 have HU:=hid hu;replace hg:=hid hg;clear hu hxs h0
 cases rows
 ·have e:=aIh (l:=[100,117]) hs
  subst e;clear hs;go_enter func236,ntmps236;go_wp2_with fail;refine aA [([0,1,2,3,4,5,6,7],8),([],9)] 99 (w.heap.size+1+1) (by kernel_rfl) (by kernel_rfl) ?_;refine st_ fun K hK=>?_;go_wp2_with fail;refine (aAt lo hi u xs n false _ (HU.ext hh X_) (by simp;omega) (hg.out.1.trans hm.symm) h1 h8 hg.out.2).mono ?_;rintro e w1 ⟨r,rfl,hr,x1⟩;obtain ⟨ra,rc,rfl,_⟩:=hr.form;have X1:Ext w w1:=aQ3 X_ x1;go_wp2_with fail;refine hK _ _ (.inr (fun k _ hk=>x1.block (by first|omega|(simp;omega)))) ?_;clear hK K;refine st_ fun K hK=>?_;go_wp2_with fail;go_wp2_with fail;refine hK _ _ (.inr (fun k _ hk=>x1.block (by first|omega|(simp;omega)))) ?_;clear hK K;refine aC ?_;go_wp2;go_ret;exact ⟨_,rfl,hr.low (by simp;omega),X1⟩
 ·have e:=aIh (l:=[100,118]) hs
  subst e;clear hs;go_enter func236,ntmps236;go_wp2_with fail;refine aA [([0,1,2,3,4,5,6,7],8),([],9)] 99 (w.heap.size+1+1) (by kernel_rfl) (by kernel_rfl) ?_;refine st_ fun K hK=>?_;go_wp2_with fail;refine (aAt lo hi u xs n true _ (HU.ext hh X_) (by simp;omega) (hg.out.1.trans hm.symm) h1 h8 hg.out.2).mono ?_;rintro e w1 ⟨r,rfl,hr,x1⟩;obtain ⟨ra,rc,rfl,_⟩:=hr.form;have X1:Ext w w1:=aQ3 X_ x1;go_wp2_with fail;refine hK _ _ (.inr (fun k _ hk=>x1.block (by first|omega|(simp;omega)))) ?_;clear hK K;refine st_ fun K hK=>?_;go_wp2_with fail;go_wp2_with fail;refine hK _ _ (.inr (fun k _ hk=>x1.block (by first|omega|(simp;omega)))) ?_;clear hK K;refine aC ?_;go_wp2;go_ret;exact ⟨_,rfl,hr.low (by simp;omega),X1⟩
theorem aJc (s:ByteArray) (num:Int) (S:List (List Int)) (lo hi lo' hi':Nat) (n m:Nat) (pu tu av:Value) (tm:Int) (t:Tex) (w:World) (hs:0<=cA s) (hl:(S.length:Int)=cA s) (ht:t.okB=true)
  (hS:SS lo hi w av S) (hh:hi<=w.heap.size) (hT:cN lo' hi' w (.agg #[t.log,tu]) t) (hh':hi'<=w.heap.size) (hg:∀r∈S,fG m r) (hm:n*n=m) (h1:1<=n) (h8:n<=8) :
  Calls aQ2 236 #[.agg #[n,pu,tm,t.log,tu],.agg #[.int .i64 7,.string s,num],av] w fun e w'=>∃r,e = .returned r/\aB w.heap.size w' r (eJ n m t s.toList S)/\Ext w w':=by
 have x3:(n:Int)*n=m:=by rw [<-hm];simp
 have x2:m<=64:=by
  have:n*n<=8*8:=aRy h8 h8;omega
 have q3:∀(l:List UInt8) (ar:Nat),s.toList=l->(l==[100,117])=false->(l==[100,118])=false->(kT l=ar)->ar<=3 ->
   xF ⟨l.toArray⟩ n pu tm tu t ar (fnV t l)->Calls aQ2 236 #[.agg #[n,pu,tm,t.log,tu],.agg #[.int .i64 7,.string s,num],av] w fun e w'=>∃r,e = .returned r/\aB w.heap.size w' r (eJ n m t s.toList S)/\Ext w w':=by
  intro l ar q2 q7 q8 x0 q9 hF
  have q6:S.length=ar:=by
   unfold cA at hl;rw [q2,x0] at hl;omega
  subst q6;rw [q2];unfold eJ;rw [q7,q8];have e:=aIh q2;subst e;exact aMu (fnV t l) _ num S lo hi lo' hi' n m pu tu av tm t w (by rw [q2];exact q7) (by rw [q2];exact q8) hF hS hh hT hh' hg x3 x2 q9
 have hd:∀q1:Bool,s.toList=(if q1 then [100,118] else [100,117])->Calls aQ2 236 #[.agg #[n,pu,tm,t.log,tu],.agg #[.int .i64 7,.string s,num],av] w fun e w'=>∃r,e = .returned r/\aB w.heap.size w' r (eJ n m t s.toList S)/\Ext w w':=by
  intro q1 q2
  have x1:S.length=1:=by
   unfold cA at hl;rw [q2] at hl
   cases q1 <;> (have:(S.length:Int)=1:=hl;omega)
  obtain ⟨xs,rfl⟩:∃xs,S=[xs]:=by
   match S,x1 with
   | [a],_=>exact ⟨a,rfl⟩
  have:=aK5 q1 xs lo hi n m pu tu av tm t.log num w s [xs] q2 rfl hS hh (hg xs (by simp)) hm h1 h8;rw [q2]
  cases q1 <;> exact this
 unfold cA kT at hs
 by_cases h5:(s.toList==[97,98,115])=true
 ·exact q3 [97,98,115] 1 (eq_of_beq h5) rfl rfl rfl (by decide) (aK0 n pu tm tu t ht)
 by_cases h2:(s.toList==[102,108,111,111,114])=true
 ·exact q3 [102,108,111,111,114] 1 (eq_of_beq h2) rfl rfl rfl (by decide) (aGe n pu tm tu t ht)
 by_cases q4:(s.toList==[100,117])=true
 ·exact hd false (eq_of_beq q4)
 by_cases q5:(s.toList==[100,118])=true
 ·exact hd true (eq_of_beq q5)
 by_cases h7:(s.toList==[109,105,110])=true
 ·exact q3 [109,105,110] 2 (eq_of_beq h7) rfl rfl rfl (by decide) (aK1 n pu tm tu t ht)
 by_cases h6:(s.toList==[109,97,120])=true
 ·exact q3 [109,97,120] 2 (eq_of_beq h6) rfl rfl rfl (by decide) (aK2 n pu tm tu t ht)
 by_cases h4:(s.toList==[115,116,101,112])=true
 ·exact q3 [115,116,101,112] 2 (eq_of_beq h4) rfl rfl rfl (by decide) (aJb n pu tm tu t ht)
 by_cases h3:(s.toList==[110,111,105,115,101])=true
 ·exact q3 [110,111,105,115,101] 2 (eq_of_beq h3) rfl rfl rfl (by decide) (aGf n pu tm tu t ht)
 by_cases q0:(s.toList==[116,101,120])=true
 ·exact q3 [116,101,120] 2 (eq_of_beq q0) rfl rfl rfl (by decide) (aK3 n pu tm tu t ht)
 by_cases h0:(s.toList==[99,108,97,109,112])=true
 ·exact q3 [99,108,97,109,112] 3 (eq_of_beq h0) rfl rfl rfl (by decide) (aGg n pu tm tu t ht)
 by_cases h9:(s.toList==[109,105,120])=true
 ·exact q3 [109,105,120] 3 (eq_of_beq h9) rfl rfl rfl (by decide) (aK4 n pu tm tu t ht)
 simp only [aYs] at h5 h2 q4 q5 h7 h6 h4 h3 q0 h0 h9;simp [h5,h2,q4,q5,h7,h6,h4,h3,q0,h0,h9] at hs
def opV (num:Int) (x:List Int):Int:=opI num (x.getD 0 0) (x.getD (if num=3 then 0 else 1) 0)
theorem aMx:aMt 3 1 (opV 3):=by
 intro lo hi u x w hl hs hu hh;obtain ⟨a,rfl⟩:=wU hl;exact aHc lo hi u (op:=3) (a:=a) (b:=a) (by unfold nA;omega) (hs a (by simp)) (hs a (by simp)) rfl w hu hh
theorem aK6 (h:inB num 4 7=true):aMt num 2 (opV num):=by
 intro lo hi u x w hl hs hu hh;obtain ⟨a,b,rfl⟩:=jH hl;have hb:=aG.1 h
 have h3:num≠3:=by omega
 refine aHc lo hi u (op:=num) (a:=a) (b:=b) (by unfold nA;omega) (hs a (by simp)) (hs b (by simp)) (by unfold opV;rw [if_neg h3];rfl) w (by unfold aJ0;rw [if_neg h3];exact hu) hh
theorem aK7 {S:List (List Int)} {a b:List Int} (ha:S[0]?=some a) (hb:S[if num=3 then 0 else 1]?=some b) (h1:a.length=m) (h2:b.length=m):((aRl m).map fun k=>dS (opV num (cR S k)))=aTq (eU num) a b:=by
 apply List.ext_getElem?;intro i
 by_cases hi:i<m
 ·have e1:(cR S i).getD 0 0=a[i]'(by omega):=by
   unfold cR;rw [aTz,aSo,ha];exact cP a i (by omega)
  have e2:(cR S i).getD (if num=3 then 0 else 1) 0=b[i]'(by omega):=by
   unfold cR;rw [aTz,aSo,hb];exact cP b i (by omega)
  rw [aSo,List.getElem?_range hi,aQ9 (by simp;omega),List.getElem_zipWith];simp only [Option.map_some,aQ0];unfold opV eU;rw [e1,e2]
 ·rw [aU0 (by simp;omega),aU0 (by simp;omega)]
end Go.Proofs.YthgpegkmjeigmaaGreat
