/- Texts of this claim, one behind another; what its theorem does not use is left out: Cd1, Cd2, Cd3, Cd4, Cd5, Cd6, Lk6, Lk7, Pr1, Ck1, Tk1, Rb, L02a, L02b, L02c, L02d, L02e, L04a, L04b, L04c, L04d, L04e, Sc0, Ge1, Tms, Ge4, Ge5, PlanC, PlanB, PlanD. -/
import Derived.Test.YtfjbiifebcfjfaaGreatP28W1
import Derived.Lib.OthersKept
import Derived.Laws.RangeAny
import Derived.RangeFuncBox
import Derived.Deep.Cut
import Derived.Deep.CutRange
import Derived.Laws.StructEq
set_option linter.unusedSimpArgs false
set_option linter.unusedVariables false
set_option maxRecDepth 100000
set_option maxHeartbeats 12800000
namespace Go.Proofs.YtfjbiifebcfjfaaGreat
open Go.RowKit
theorem sIsVariable_val {s:ByteArray} {b:Bool} (h:isVar s=b) (w:World):Calls Tryz.prog 182 #[.string s] w fun e w'=>e = .returned (.bool b)/\Ext w w':=h▸sIsVariable_any s w
theorem sArity_val {s:ByteArray} {b:Int} (h:arity s=b) (w:World):Calls Tryz.prog 181 #[.string s] w fun e w'=>e = .returned (.int .i64 b)/\w=w':=h▸sArity_any s w
theorem iArity_val {s:ByteArray} {b:Int} (h:arity s=b) (w:World):Calls Tryz.prog 274 #[.string s] w fun e w'=>e = .returned (.int .i64 b)/\w=w':=h▸iArity_any s w
structure Ins where
 op:Int
 name:ByteArray
 num:Int
def Ins.val (x:Ins):Value:=.agg #[x.op,.string x.name,x.num]
def wfI (op:Int) (s:ByteArray) (n L:Int):Bool:=
 if op=1 then s.toList==[] else if op=2 then isVar s&&decide (n=0) else if op=3 then s.toList==[]&&inB n 0 (L - 1) else if op=4 then s.toList==[]&&inB n 0 (L - 1)
 else if op=5 then s.toList==[]&&decide (n=3) else if op=6 then s.toList==[]&&inB n 4 7 else if op=7 then decide (0<=arity s)&&decide (n=0) else false
theorem iWf_any (op:Int) (s:ByteArray) (n L:Int) (w:World) (h0:0<=L) (h1:L<=2000000):Calls Tryz.prog 297 #[.agg #[op,.string s,n],L] w fun e w'=>e = .returned (.bool (wfI op s n L))/\Ext w w':=by
 by_cases h:1<=op/\op<=7
 case neg=>
  have e:wfI op s n L=false:=by
   unfold wfI;rw [if_neg (by omega),if_neg (by omega),if_neg (by omega),if_neg (by omega),if_neg (by omega),if_neg (by omega),if_neg (by omega)]
  rw [e];exact iWfE op s n L w h
 rcases (show op=1\/op=2\/op=3\/op=4\/op=5\/op=6\/op=7 by omega) with rfl|rfl|rfl|rfl|rfl|rfl|rfl
 ·cases he:(s.toList==[])
  ·rw [show wfI 1 s n L=false by simp [wfI,he]];exact iWf1n s n L w he
  ·rw [show wfI 1 s n L=true by simp [wfI,he]];exact iWf1 s n L w he
 ·cases he:isVar s
  ·rw [show wfI 2 s n L=false by simp [wfI,he]];exact iWf2n s n L w he
  ·rw [show wfI 2 s n L=decide (n=0) by simp [wfI,he]];exact iWf2 s n L w he
 ·cases he:(s.toList==[])
  ·rw [show wfI 3 s n L=false by simp [wfI,he]];exact iWf3n s n L w he
  ·rw [show wfI 3 s n L=inB n 0 (L - 1) by simp [wfI,he]];exact iWf3 s n L w he h0 h1
 ·cases he:(s.toList==[])
  ·rw [show wfI 4 s n L=false by simp [wfI,he]];exact iWf4n s n L w he
  ·rw [show wfI 4 s n L=inB n 0 (L - 1) by simp [wfI,he]];exact iWf4 s n L w he h0 h1
 ·cases he:(s.toList==[])
  ·rw [show wfI 5 s n L=false by simp [wfI,he]];exact iWf5n s n L w he
  ·rw [show wfI 5 s n L=decide (n=3) by simp [wfI,he]];exact iWf5 s n L w he
 ·cases he:(s.toList==[])
  ·rw [show wfI 6 s n L=false by simp [wfI,he]];exact iWf6n s n L w he
  ·rw [show wfI 6 s n L=inB n 4 7 by simp [wfI,he]];exact iWf6 s n L w he
 ·by_cases he:0<=arity s
  ·rw [show wfI 7 s n L=decide (n=0) by simp [wfI,he]];exact iWf7 s n L w he
  ·rw [show wfI 7 s n L=false by simp [wfI,he]];exact iWf7n s n L w (by omega)
def Inss (lo hi:Nat) (w:World) (v:Value) (xs:List Ins):Prop:=
 ∃a cap,v = .slice a xs.length cap/\xs.length<=cap/\cap<=maxLen/\∀i x,xs[i]?=some x->(I64 x.op/\I64 x.num)/\∃b off,a=some ⟨b,off,none⟩/\lo<=b/\b<hi/\w.cell? ⟨b,off+i*3,none⟩=some (.int .i64 x.op)/\w.cell? ⟨b,off+i*3+1,none⟩=some (.string x.name)/\w.cell? ⟨b,off+i*3+2,none⟩=some (.int .i64 x.num)
theorem Inss.same {lo hi:Nat} {w w':World} {v:Value} {xs:List Ins} (h:Inss lo hi w v xs) (s:Same lo hi w w'):Inss lo hi w' v xs:=by
 obtain ⟨a,cap,h1,h2,h3,h4⟩:=h;refine ⟨a,cap,h1,h2,h3,fun i x hx=>?_⟩;obtain ⟨h5,b,off,h6,h7,h8,h9,h10,h11⟩:=h4 i x hx;exact ⟨h5,b,off,h6,h7,h8,by rw [s.cell h7 h8];exact h9,by rw [s.cell h7 h8];exact h10,by rw [s.cell h7 h8];exact h11⟩
theorem Inss.ext {lo hi:Nat} {w w':World} {v:Value} {xs:List Ins} (h:Inss lo hi w v xs) (hh:hi<=w.heap.size) (e:Ext w w'):Inss lo hi w' v xs:=h.same (e.same hh)
theorem Inss.wide {lo hi lo' hi':Nat} {w:World} {v:Value} {xs:List Ins} (h:Inss lo hi w v xs) (h1:lo'<=lo) (h2:hi<=hi'):Inss lo' hi' w v xs:=by
 obtain ⟨a,cap,g1,g2,g3,g4⟩:=h;refine ⟨a,cap,g1,g2,g3,fun i x hx=>?_⟩;obtain ⟨h5,b,off,h6,h7,h8,h9⟩:=g4 i x hx;exact ⟨h5,b,off,h6,by omega,by omega,h9⟩
structure InssAt (lo hi:Nat) (w:World) (a:Option Addr) (cap:Nat) (xs:List Ins):Prop where
 le:xs.length<=cap
 cap:cap<=9223372036854775807
 cell:∀i x,xs[i]?=some x->(I64 x.op/\I64 x.num)/\∃b off,a=some ⟨b,off,none⟩/\lo<=b/\b<hi/\w.cell? ⟨b,off+i*3,none⟩=some (.int .i64 x.op)/\w.cell? ⟨b,off+i*3+1,none⟩=some (.string x.name)/\w.cell? ⟨b,off+i*3+2,none⟩=some (.int .i64 x.num)
theorem Inss.open {lo hi:Nat} {w:World} {v:Value} {xs:List Ins} (h:Inss lo hi w v xs):∃a cap,v = .slice a xs.length cap/\InssAt lo hi w a cap xs:=by
 obtain ⟨a,cap,g1,g2,g3,g4⟩:=h;exact ⟨a,cap,g1,g2,by unfold maxLen at g3;omega,g4⟩
theorem InssAt.shut {lo hi:Nat} {w:World} {a:Option Addr} {cap:Nat} {xs:List Ins} (h:InssAt lo hi w a cap xs):Inss lo hi w (.slice a xs.length cap) xs:=
 ⟨a,cap,rfl,h.le,by unfold maxLen;have:=h.cap;omega,h.cell⟩
theorem InssAt.at {lo hi:Nat} {w:World} {a:Option Addr} {cap:Nat} {xs:List Ins} (h:InssAt lo hi w a cap xs) {k:Nat} (hk:k<xs.length) {wr:World} (hx:Ext w wr) (hh:hi<=w.heap.size) :
  ∃b off op s n,a=some ⟨b,off,none⟩/\b<w.heap.size/\b<wr.heap.size/\xs.drop k=⟨op,s,n⟩::xs.drop (k+1)/\xs[k]?=some ⟨op,s,n⟩/\I64 op/\I64 n/\wr.cell? ⟨b,off+k*3,none⟩=some (.int .i64 op)/\wr.cell? ⟨b,off+k*3+1,none⟩=some (.string s)/\wr.cell? ⟨b,off+k*3+2,none⟩=some (.int .i64 n):=by
 obtain ⟨⟨i1,i2⟩,b,off,e,h1,h2,c0,c1,c2⟩:=h.cell k xs[k] (by simp [hk]);have hz:=hx.size;refine ⟨b,off,xs[k].op,xs[k].name,xs[k].num,e,by omega,by omega,List.drop_eq_getElem_cons hk,by simp [hk],i1,i2,?_,?_,?_⟩
 ·exact (hx.cells.1 b _ (by omega)).trans c0
 ·exact (hx.cells.1 b _ (by omega)).trans c1
 ·exact (hx.cells.1 b _ (by omega)).trans c2
structure Cod where
 xs:List Ins
 ls:List ByteArray
def Cod.R (c:Cod) (lo hi:Nat) (w:World) (v:Value):Prop:=∃iu lu,v = .agg #[iu,lu]/\Inss lo hi w iu c.xs/\Strs lo hi w lu c.ls
theorem Cod.R.same {c:Cod} {lo hi:Nat} {w w':World} {v:Value} (h:c.R lo hi w v) (s:Same lo hi w w'):c.R lo hi w' v:=by
 obtain ⟨iu,lu,h1,h2,h3⟩:=h;exact ⟨iu,lu,h1,h2.same s,h3.same s⟩
theorem Cod.R.ext {c:Cod} {lo hi:Nat} {w w':World} {v:Value} (h:c.R lo hi w v) (hh:hi<=w.heap.size) (e:Ext w w'):c.R lo hi w' v:=h.same (e.same hh)
theorem Cod.R.form {c:Cod} {lo hi:Nat} {w:World} {v:Value} (h:c.R lo hi w v):∃a1 c1 a2 c2,v = .agg #[.slice a1 c.xs.length c1,.slice a2 c.ls.length c2]/\InssAt lo hi w a1 c1 c.xs/\StrsAt lo hi w a2 c2 c.ls:=by
 obtain ⟨iu,lu,rfl,h2,h3⟩:=h;obtain ⟨a1,c1,rfl,H1⟩:=h2.open;obtain ⟨a2,c2,rfl,H2⟩:=h3.open;exact ⟨a1,c1,a2,c2,rfl,H1,H2⟩
def markSt (op n:Int) (st:Nat->Bool):Nat->Bool:=if op=4 then fun j=>if j=n.toNat then true else st j else st
def runD (L:Nat):List Ins->Int->Int->(Nat->Bool)->Option Int
 | [],d,m,_=>if d=0 then some m else none
 | x::r,d,m,st=>
  if wfI x.op x.name x.num L=true/\(x.op=3->st x.num.toNat=true)/\popsI x.op x.name<=d then
   runD L r (d - popsI x.op x.name+pushI x.op) (if d - popsI x.op x.name+pushI x.op > m then d - popsI x.op x.name+pushI x.op else m) (markSt x.op x.num st) else none
def Cod.depth (c:Cod):Option Int:=if c.xs.length<=300 then runD c.ls.length c.xs 0 0 (fun _=>false) else none
theorem arity_bd (s:ByteArray) : -1<=arity s/\arity s<=3/\arity s≠0:=by
 unfold arity arityL
 repeat' split
 all_goals decide
theorem pops_bd {op:Int} {s:ByteArray} {n:Int} {L:Nat} (h:wfI op s n L=true):0<=popsI op s/\popsI op s<=3:=by
 have:=arity_bd s;unfold popsI
 split
 ·omega
 split
 ·omega
 split
 ·omega
 split
 ·rename_i h7
  subst h7;simp [wfI] at h;omega
 ·omega
theorem push_bd (op:Int):0<=pushI op/\pushI op<=1:=by
 unfold pushI
 split <;> omega
theorem wf_at {op:Int} {s:ByteArray} {n:Int} {L:Nat} (h:wfI op s n L=true) (ho:op=3\/op=4):∃j:Nat,n=j/\j<L:=by
 have e:inB n 0 ((L:Int) - 1)=true:=by
  rcases ho with rfl|rfl <;> (simp [wfI] at h;exact h.2)
 have:=inB_iff.1 e;exact ⟨n.toNat,by omega,by omega⟩
def RowB (w:World) (b:Nat) (n:Nat) (f:Nat->Bool):Prop:=w.rowIs b 4 n (fun i=>.bool (f i))
theorem RowB.ext {w w':World} {b:Nat} {n:Nat} {f:Nat->Bool} (h:RowB w b n f) (e:Ext w w'):RowB w' b n f:=World.rowIs.of_block h (e.block (World.rowIs.lt h))
theorem RowB.mark {w:World} {b:Nat} {n:Nat} {f:Nat->Bool} (h:RowB w b n f) (j:Nat):RowB (w.setCell ⟨b,j,none⟩ (.bool true)) b n (fun i=>if i=j then true else f i):=by
 refine World.rowIs.congr (World.rowIs.set h j (.bool true)) fun i _=>?_
 by_cases e:i=j
 ·subst e;simp
 ·simp [e]
theorem info_bool':(Tryz.prog.info? 4).map (fun i=>(i.zero,i.size,i.bytes))=some (some (.bool false),1,1):=by kernel_rfl
theorem iWf_val {op:Int} {s:ByteArray} {n:Int} {L:Nat} {b:Bool} (h:wfI op s n L=b) (h1:L<=2000000) (w:World):Calls Tryz.prog 297 #[.agg #[op,.string s,n],L] w fun e w'=>e = .returned (.bool b)/\Ext w w':=h▸iWf_any op s n L w (by omega) (by omega)
theorem iPops_val {op:Int} {s:ByteArray} {p q:Int} (hp:popsI op s=p) (hq:pushI op=q) (n:Int) (w:World):Calls Tryz.prog 298 #[.agg #[op,.string s,n]] w fun e w'=>e = .returned (.tuple #[p,q])/\Ext w w':=hp▸hq▸iPops_any op s n w
theorem runD_nil {L:Nat} {d m:Int} {st:Nat->Bool} {R:Option Int} (h:runD L [] d m st=R):R=if d=0 then some m else none:=h.symm
structure XBox (w:World) (B:Nat) (op:Int) (s:ByteArray) (n:Int):Prop where
 lt:B<w.heap.size
 c0:w.cell? ⟨B,0,none⟩=some (.int .i64 op)
 c1:w.cell? ⟨B,1,none⟩=some (.string s)
 c2:w.cell? ⟨B,2,none⟩=some (.int .i64 n)
theorem XBox.made (w:World) (op:Int) (s:ByteArray) (n:Int) (ty:TypeId):XBox (w.alloc (.cells #[op,.string s,n] ty)) w.heap.size op s n:=⟨by simp,by simp [go_sem],by simp [go_sem],by simp [go_sem]⟩
theorem XBox.ext {w w':World} {B:Nat} {op:Int} {s:ByteArray} {n:Int} (h:XBox w B op s n) (e:Ext w w'):XBox w' B op s n:=by
 have:=e.size;have h0:=h.lt;obtain ⟨a,b⟩:=e.cells;exact ⟨by omega,(a B _ h0).trans h.c0,(a B _ h0).trans h.c1,(a B _ h0).trans h.c2⟩
theorem iDepth_any (lo hi:Nat) (v:Value) (c:Cod) (w:World) (hv:c.R lo hi w v) (hh:hi<=w.heap.size) (hL:c.ls.length<=2000000) :
  Calls Tryz.prog 267 #[v] w fun e w'=>e = .returned (.tuple #[(c.depth.getD 0),.bool c.depth.isSome])/\Ext w w':=by
 obtain ⟨a1,c1,a2,c2,rfl,HI,HS⟩:=hv.form;have l1:=HI.le;have l2:=HI.cap;have l3:=HS.le;have l4:=HS.cap;clear hv
 obtain ⟨L,hLL⟩:∃L,c.ls.length=L:=⟨_,rfl⟩
 rw [hLL] at hL l3 ⊢
 by_cases hlen:c.xs.length<=300
 case neg=>
  have e:c.depth=none:=by unfold Cod.depth;rw [if_neg hlen]
  rw [e];go_enter Tryz.func267,Tryz.ntmps267;go_wp2;refine bodyPost_ret (v:=.tuple #[(),.bool false]) (by simp [results,Tryz.results267,go_sem]) rfl ⟨rfl,S_⟩
 obtain ⟨R,hR⟩:∃R,c.depth=R:=⟨_,rfl⟩
 have hrun:runD L c.xs 0 0 (fun _=>false)=R:=by rw [<-hR,<-hLL];unfold Cod.depth;rw [if_pos hlen]
 rw [hR];have HRUN:=hid hrun;clear hrun hR;obtain ⟨i0,hi0,hz0,hz1,hz2⟩:=info_parts info_bool';go_enter Tryz.func267,Tryz.ntmps267;go_wp2_with (at_make;refine wpList_make_row _ rfl _ _ 318 rfl 4 i0 (.bool false) Tryz.underlying318 hi0 hz0 hz1 rfl .i64 .i64 L rfl rfl (by rw [hz2];omega) (by omega) ?_);have hrow:=hid (show RowB _ _ L (fun _=>false) from World.rowIs_made (w.alloc (.cells #[.slice a1 c.xs.length c1,.slice a2 L c2] 126)) (.bool false) L 4);have hbox:=hid ((TBox.made w (.slice a1 c.xs.length c1) (.slice a2 L c2) 126).ext ((Ext.refl _).alloc (.cells (madeCells #[.bool false] L) 4)));have X0:=hid (show Ext w ((w.alloc (.cells #[.slice a1 c.xs.length c1,.slice a2 L c2] 126)).alloc (.cells (madeCells #[.bool false] L) 4)) from X_);clear hi0 hz0 hz1 hz2;go_wp2;simp only [World.size_alloc] at hrow;generalize hB:w.heap.size+1=B at hrow
 go_loopw [5,6,22] (fun dv mv i wr=>∃(k:Nat) (d m:Int) (st:Nat->Bool),k<=c.xs.length/\i = .int .i64 k/\dv = .int .i64 d/\mv = .int .i64 m/\runD L (c.xs.drop k) d m st=R/\0<=d/\d<=k/\0<=m/\m<=k/\Ext w wr/\RowB wr B L st/\TBox wr w.heap.size (.slice a1 c.xs.length c1) (.slice a2 L c2)) (fun _ _ i _=>c.xs.length - (intOf i).toNat)
 case atStart=>exact ⟨0,0,0,_,by omega,rfl,rfl,rfl,HRUN.out,by omega,by omega,by omega,by omega,X0.out,hrow.out,hbox.out⟩
 case round=>
  clear HRUN X0 hrow hbox;obtain ⟨k,d,m,st,hk,rfl,rfl,rfl,hrun,d0,d1,m0,m1,hx,hrow,hbox⟩:=hrel
  have k0:k<=300:=by omega
  by_cases hlt:k<c.xs.length
  ·obtain ⟨b,off,op,s,n,rfl,hb1,hbw,hdrop,hget,io,inn,x0,x1,x2⟩:=HI.at hlt hx hh
   rw [hdrop] at hrun;unfold runD at hrun;have q0:=hbox.lt;have q1:=hbox.c0;have q2:=hbox.c1;have HX:=hid hx;have HR:=hid hrow;have HQ:=hid hbox;clear hx hrow hbox hdrop hget
   cases hwf:wfI op s n L
   ·have e:R=none:=by rw [<-hrun,if_neg (by simp [hwf])]
    subst e;clear hrun;go_wp2_with fail;refine (iWf_val hwf hL _).mono ?_;rintro e w1 ⟨rfl,x1⟩;have X1:Ext w w1:=Ext.trans (by have hx:=HX.out;exact X_) x1;go_wp2;refine bodyPost_ret (v:=.tuple #[(),.bool false]) (by simp [results,Tryz.results267,go_sem]) rfl ⟨rfl,S_⟩
   have pb:=pops_bd hwf;have qb:=push_bd op
   obtain ⟨p,hp⟩:∃p,popsI op s=p:=⟨_,rfl⟩
   obtain ⟨q,hq⟩:∃q,pushI op=q:=⟨_,rfl⟩
   rw [hp,hq] at hrun;rw [hp] at pb;rw [hq] at qb;have HP:=hid hp;have HQ2:=hid hq;simp only [hwf,true_and] at hrun
   by_cases h3:op=3/\st n.toNat=false
   ·obtain ⟨rfl,h3⟩:=h3
    obtain ⟨j,rfl,hj⟩:=wf_at hwf (.inl rfl);simp only [Int.toNat_natCast] at h3
    have e:R=none:=by rw [<-hrun,if_neg (by simp [h3])]
    subst e;clear hrun hp hq;go_wp2_with fail;refine (iWf_val hwf hL _).mono ?_;rintro e w1 ⟨rfl,x1⟩;have X1:Ext w w1:=Ext.trans (by have hx:=HX.out;exact X_) x1;have K1:=(XBox.made wr 3 s j 197).ext x1;have R1:=(HR.out.ext ((Ext.refl _).alloc (.cells #[.int .i64 3,.string s,j] 197))).ext x1;have y0:=K1.lt;have y1:=K1.c0;have y2:=K1.c1;have y3:=K1.c2;have z0:=World.rowIs.cell R1 hj;rw [h3] at z0;have z1:=World.rowIs.lt R1;clear K1 R1 x0 x1 x2;go_wp2;refine bodyPost_ret (v:=.tuple #[(),.bool false]) (by simp [results,Tryz.results267,go_sem]) rfl ⟨rfl,S_⟩
   have h3':op=3->st n.toNat=true:=fun e=>by
    cases h:st n.toNat
    ·exact absurd ⟨e,h⟩ h3
    ·rfl
   have H3:=hid h3'
   by_cases hpd:p<=d
   case neg=>
    rw [if_neg (fun h=>hpd h.2)] at hrun;subst hrun;clear hp hq h3';have hdp:(decide (d<p))=true:=decide_eq_true (by omega)
    by_cases e3:op=3
    ·subst e3
     have:=HP.out;have e:popsI 3 s=0:=rfl;omega
    go_wp2_with fail;refine (iWf_val hwf hL _).mono ?_;rintro e w1 ⟨rfl,x1⟩;have X1:Ext w w1:=Ext.trans (by have hx:=HX.out;exact X_) x1;have K1:=(XBox.made wr op s n 197).ext x1;have y0:=K1.lt;have y1:=K1.c0;have y2:=K1.c1;have y3:=K1.c2;clear x0 x1 x2;go_wp2_with fail;refine (iPops_val HP.out HQ2.out n _).mono ?_;rintro e w2 ⟨rfl,x2⟩;have X2:Ext w w2:=X1.trans x2;go_wp2;refine bodyPost_ret (v:=.tuple #[(),.bool false]) (by simp [results,Tryz.results267,go_sem]) rfl ⟨rfl,S_⟩
   rw [if_pos ⟨h3',hpd⟩] at hrun;have HR0:=hid hrun;clear hrun hp hq h3'
   have pl:d - p+q<=(k:Int)+1:=by omega
   have pn:0<=d - p+q:=by omega
   obtain ⟨D,hD⟩:∃D,d - p+q=D:=⟨_,rfl⟩
   rw [hD] at HR0 pl pn
   have hD2:d+(q - p)=D:=by omega
   have hM:∃M:Int,(if D > m then D else m)=M/\0<=M/\M<=(k:Int)+1:=⟨_,rfl,by split <;> omega,by split <;> omega⟩
   obtain ⟨M,hM,M0,M1⟩:=hM;have HM:=hid hM;clear hD hM
   by_cases e3:op=3
   ·subst e3
    obtain ⟨j,rfl,hj⟩:=wf_at hwf (.inl rfl);have hst:=H3.out rfl;simp only [Int.toNat_natCast] at hst;go_wp2_with fail;refine (iWf_val hwf hL _).mono ?_;rintro e w1 ⟨rfl,x1⟩;have X1:Ext w w1:=Ext.trans (by have hx:=HX.out;exact X_) x1;have g1:Ext wr w1:=Ext.trans X_ x1;have K1:=(XBox.made wr 3 s j 197).ext x1;have R1:=HR.out.ext g1;have z0:=World.rowIs.cell R1 hj;rw [hst] at z0;have z1:=World.rowIs.lt R1;have y0:=K1.lt;have y1:=K1.c0;have y2:=K1.c1;have y3:=K1.c2;clear x0 x1 x2;go_wp2_with fail;refine (iPops_val HP.out HQ2.out j _).mono ?_;rintro e w2 ⟨rfl,x2⟩;have g2:Ext wr w2:=g1.trans x2;have X2:Ext w w2:=X1.trans x2;have K2:=K1.ext x2;have R2:=R1.ext x2;have B2:=HQ.out.ext g2;clear y0 y1 y2 y3 X1 R1 K1 x2 g1 g2 z0 z1;have y0:=K2.lt;have y1:=K2.c0;have y2:=K2.c1;have y3:=K2.c2;go_wp2;rw [HM.out];go_roundw
    case rel=>exact ⟨k+1,D,M,_,by omega,by go_num,rfl,rfl,by rw [<-HM.out];exact HR0.out,pn,by omega,M0,by omega,X2,R2,B2⟩
    case measure=>simp [intOf];omega
   by_cases e4:op=4
   ·subst e4
    obtain ⟨j,rfl,hj⟩:=wf_at hwf (.inr rfl)
    have hBs:B≠w.heap.size:=by omega
    go_wp2_with fail;refine (iWf_val hwf hL _).mono ?_;rintro e w1 ⟨rfl,x1⟩;have X1:Ext w w1:=Ext.trans (by have hx:=HX.out;exact X_) x1;have g1:Ext wr w1:=Ext.trans X_ x1;have K1:=(XBox.made wr 4 s j 197).ext x1;have R1:=HR.out.ext g1;have y0:=K1.lt;have y1:=K1.c0;have y2:=K1.c1;have y3:=K1.c2;clear x0 x1 x2;go_wp2_with fail;refine (iPops_val HP.out HQ2.out j _).mono ?_;rintro e w2 ⟨rfl,x2⟩;have g2:Ext wr w2:=g1.trans x2;have X2:Ext w w2:=X1.trans x2;have K2:=K1.ext x2;have R2:=R1.ext x2;have B2:=HQ.out.ext g2;clear y0 y1 y2 y3 X1 R1 K1 x2 g1 g2;have y0:=K2.lt;have y1:=K2.c0;have y2:=K2.c1;have y3:=K2.c2;have z0:=World.rowIs.cell R2 hj;have z1:=World.rowIs.lt R2;have z2:=World.rowIs.frozen R2 j;have HB2:=hid B2;have HR2:=hid R2;clear B2 R2;go_wp2;rw [HM.out];go_roundw
    case rel=>exact ⟨k+1,D,M,_,by omega,by go_num,rfl,rfl,by rw [<-HM.out];exact HR0.out,pn,by omega,M0,by omega,X2.setCell (by show w.heap.size<=B;omega) _,HR2.out.mark j,HB2.out.at (by simp) (Below.heap_setCell _ _ _ _ (by show w.heap.size≠B;omega))⟩
    case measure=>simp [intOf];omega
   ·have hmk:markSt op n st=st:=by unfold markSt;rw [if_neg e4]
    rw [hmk] at HR0;clear hmk;go_wp2_with fail;refine (iWf_val hwf hL _).mono ?_;rintro e w1 ⟨rfl,x1⟩;have X1:Ext w w1:=Ext.trans (by have hx:=HX.out;exact X_) x1;have g1:Ext wr w1:=Ext.trans X_ x1;have K1:=(XBox.made wr op s n 197).ext x1;have R1:=HR.out.ext g1;have y0:=K1.lt;have y1:=K1.c0;have y2:=K1.c1;have y3:=K1.c2;clear x0 x1 x2;go_wp2_with fail;refine (iPops_val HP.out HQ2.out n _).mono ?_;rintro e w2 ⟨rfl,x2⟩;have g2:Ext wr w2:=g1.trans x2;have X2:Ext w w2:=X1.trans x2;have K2:=K1.ext x2;have R2:=R1.ext x2;have B2:=HQ.out.ext g2;clear y0 y1 y2 y3 X1 R1 K1 x2 g1 g2;have y0:=K2.lt;have y1:=K2.c0;have y2:=K2.c1;have y3:=K2.c2;go_wp2;rw [HM.out];go_roundw
    case rel=>exact ⟨k+1,D,M,_,by omega,by go_num,rfl,rfl,by rw [<-HM.out];exact HR0.out,pn,by omega,M0,by omega,X2,R2,B2⟩
    case measure=>simp [intOf];omega
  ·obtain rfl:k=c.xs.length:=by omega
   rw [List.drop_length] at hrun;have e:=runD_nil hrun;clear hrun
   by_cases hd:d=0
   ·rw [if_pos hd] at e
    subst e hd;go_wp2;refine bodyPost_ret (v:=.tuple #[m,.bool true]) (by simp [results,Tryz.results267,go_sem]) rfl ⟨rfl,S_⟩
   ·rw [if_neg hd] at e
    have hd':(d != 0)=true:=by simp [hd]
    subst e;go_wp2;refine bodyPost_ret (v:=.tuple #[(),.bool false]) (by simp [results,Tryz.results267,go_sem]) rfl ⟨rfl,S_⟩
def numB (x:Ins):Bool:=inB x.num (-1000000000) 1000000000
def Cod.runB (c:Cod):Bool:=c.depth.isSome&&c.xs.all numB
theorem runD_wf {L:Nat}:∀(xs:List Ins) (d m:Int) (st:Nat->Bool),(runD L xs d m st).isSome=true->∀x∈xs,wfI x.op x.name x.num L=true
 | [],_,_,_,_,x,hx=>by cases hx
 | y::r,d,m,st,h,x,hx=>by
  unfold runD at h
  split at h
  ·rename_i hc
   rcases List.mem_cons.1 hx with rfl|hx
   ·exact hc.1
   ·exact runD_wf r _ _ _ h x hx
  ·simp at h
theorem Cod.wf {c:Cod} (h:c.depth.isSome=true):∀x∈c.xs,wfI x.op x.name x.num c.ls.length=true:=by
 unfold Cod.depth at h
 split at h
 ·exact runD_wf _ _ _ _ h
 ·simp at h
theorem wf_num {x:Ins} {L:Nat} (h:wfI x.op x.name x.num L=true) (hL:L<=2000000) (h1:x.op≠1):numB x=true:=by
 unfold wfI at h;rw [if_neg h1] at h;refine inB_iff.2 ?_
 split at h
 ·simp at h;omega
 split at h
 ·simp [inB_iff] at h;omega
 split at h
 ·simp [inB_iff] at h;omega
 split at h
 ·simp at h;omega
 split at h
 ·simp [inB_iff] at h;omega
 split at h
 ·simp at h;omega
 ·cases h
def pushB (x:Ins):Bool:=!(x.op==1)||numB x
theorem Cod.runB_push {c:Cod} (hL:c.ls.length<=2000000):(c.xs.all pushB&&c.depth.isSome)=c.runB:=by
 unfold Cod.runB
 cases h:c.depth.isSome
 ·simp
 ·rw [Bool.and_true,Bool.true_and]
  have hw:=Cod.wf h;rw [Bool.eq_iff_iff,List.all_eq_true,List.all_eq_true]
  constructor
  ·intro k x hx
   have h1:=k x hx
   by_cases e:x.op=1
   ·simpa [pushB,e] using h1
   ·exact wf_num (hw x hx) hL e
  ·intro k x hx
   simp [pushB,k x hx]
theorem iDepth_val {c:Cod} {m:Int} {b:Bool} (h:c.depth.getD 0=m/\c.depth.isSome=b) (lo hi:Nat) (v:Value) (w:World) (hv:c.R lo hi w v) (hh:hi<=w.heap.size) (hL:c.ls.length<=2000000) :
  Calls Tryz.prog 267 #[v] w fun e w'=>e = .returned (.tuple #[m,.bool b])/\Ext w w':=h.1▸h.2▸iDepth_any lo hi v c w hv hh hL
theorem iRunnable_val {c:Cod} {r:Bool} (hr:c.runB=r) (lo hi:Nat) (v:Value) (w:World) (hv:c.R lo hi w v) (hh:hi<=w.heap.size) (hL:c.ls.length<=2000000) :
  Calls Tryz.prog 223 #[v] w fun e w'=>e = .returned (.bool r)/\Ext w w':=by
 have HV:=hid hv;obtain ⟨a1,c1,a2,c2,rfl,HI,HS⟩:=hv.form;have l1:=HI.le;have l2:=HI.cap;clear hv HS;rw [<-Cod.runB_push hL] at hr;have HR:=hid hr;clear hr;go_enter Tryz.func223,Tryz.ntmps223;go_wp2;have hbox:=hid (TBox.made w (.slice a1 c.xs.length c1) (.slice a2 c.ls.length c2) 126);have X0:=hid (show Ext w (w.alloc (.cells #[.slice a1 c.xs.length c1,.slice a2 c.ls.length c2] 126)) from X_)
 go_loopw [10] (fun i wr=>∃(k:Nat),k<=c.xs.length/\i = .int .i64 k/\(c.xs.take k).all pushB=true/\Ext w wr/\TBox wr w.heap.size (.slice a1 c.xs.length c1) (.slice a2 c.ls.length c2)) (fun i _=>c.xs.length - (intOf i).toNat)
 case atStart=>exact ⟨0,by omega,rfl,rfl,X0.out,hbox.out⟩
 case round=>
  clear X0 hbox;obtain ⟨k,hk,rfl,hall,hx,hbox⟩:=hrel
  by_cases hlt:k<c.xs.length
  ·obtain ⟨b,off,op,s,n,rfl,hb1,hbw,hdrop,hget,io,inn,x0,x1,x2⟩:=HI.at hlt hx hh
   have hk2:c.xs[k]=⟨op,s,n⟩:=by have:=hget;rw [List.getElem?_eq_getElem hlt] at this;exact Option.some.inj this
   have HX:=hid hx;have HQ:=hid (hbox.ext ((Ext.refl _).alloc (.cells #[op,.string s,n] 197)));have HA:=hid hall;have HK:=hid hk2;clear hx hbox hdrop hget hall hk2
   by_cases h1:op=1
   ·subst h1
    cases hn:inB n (-1000000000) 1000000000
    ·have hn2:=hid hn
     go_wp2_with fail;refine (within_val hn2.out _).mono ?_;rintro e w1 ⟨rfl,rfl⟩;go_wp2;go_ret;have e:c.xs.all pushB=false:=all_no hlt (by rw [HK.out];simp [pushB,numB,hn2.out]);have hr:=HR.out;rw [e] at hr;refine ⟨ret_bool hr,?_⟩;have hx:=HX.out;exact S_
    ·have hn2:=hid hn
     go_wp2_with fail;refine (within_val hn2.out _).mono ?_;rintro e w1 ⟨rfl,rfl⟩;go_wp2;go_roundw
     case rel=>
      refine ⟨k+1,by omega,by go_num,all_step hlt HA.out (by rw [HK.out];simp [pushB,numB,hn2.out]),?_,HQ.out⟩;have hx:=HX.out;exact S_
     case measure=>simp [intOf];omega
   ·have h1':(op==1)=false:=beq_eq_false_iff_ne.2 h1
    have H1:=hid h1';go_wp2;go_roundw
    case rel=>
     refine ⟨k+1,by omega,by go_num,all_step hlt HA.out (by rw [HK.out];simp [pushB,H1.out]),?_,HQ.out⟩;have hx:=HX.out;exact S_
    case measure=>simp [intOf];omega
  ·obtain rfl:k=c.xs.length:=by omega
   rw [List.take_length] at hall;have hr:=HR.out;rw [hall,Bool.true_and] at hr;have HR2:=hid hr;clear hr hall;have q0:=hbox.lt;have q1:=hbox.c0;have q2:=hbox.c1;clear hbox;go_wp2_with fail;refine (iDepth_val ⟨rfl,HR2.out⟩ lo hi _ _ (HV.out.ext hh (by assumption)) (by have:=hx.size;omega) hL).mono ?_;rintro e w1 ⟨rfl,x1⟩;go_wp2;go_ret;exact ⟨rfl,hx.trans x1⟩
def insC (xs:List Ins) (i:Nat):Value:=
 match xs[i / 3]? with
 | some x=>if i % 3=0 then .int .i64 x.op else if i % 3=1 then .string x.name else .int .i64 x.num
 | none=>.int .i64 0
theorem insC_at {xs:List Ins} {k:Nat} {x:Ins} (h:xs[k]?=some x):insC xs (k*3) = .int .i64 x.op/\insC xs (k*3+1) = .string x.name/\insC xs (k*3+2) = .int .i64 x.num:=by
 refine ⟨?_,?_,?_⟩
 ·unfold insC
  rw [show k*3 / 3=k by omega,h,show k*3 % 3=0 by omega]
  rfl
 ·unfold insC
  rw [show (k*3+1) / 3=k by omega,h,show (k*3+1) % 3=1 by omega]
  rfl
 ·unfold insC
  rw [show (k*3+2) / 3=k by omega,h,show (k*3+2) % 3=2 by omega]
  rfl
def Cod.bd (c:Cod):Prop:=(∀x∈c.xs,x.name.size<=maxLen)/\∀s∈c.ls,s.size<=maxLen
def Cod.small (c:Cod):Prop:=c.xs.length<=1048576/\c.ls.length<=1048576
def Cod.O (c:Cod) (lo hi:Nat) (w:World) (v:Value):Prop:=∃b b2,v = .agg #[.slice (some ⟨b,0,none⟩) c.xs.length c.xs.length,.slice (some ⟨b2,0,none⟩) c.ls.length c.ls.length]/\lo<=b/\b<hi/\lo<=b2/\b2<hi/\w.rowIs b 197 (c.xs.length*3) (insC c.xs)/\w.rowIs b2 9 c.ls.length (strC c.ls)/\(∀x∈c.xs,I64 x.op/\I64 x.num)/\c.small
theorem Cod.O.kp {c:Cod} {lo hi:Nat} {w w':World} {v:Value} (h:c.O lo hi w v) (k:Kp lo hi w w'):c.O lo hi w' v:=by
 obtain ⟨b,b2,h1,h2,h3,h4,h5,h6,h7,h8⟩:=h;exact ⟨b,b2,h1,h2,h3,h4,h5,World.rowIs.of_block h6 (k.2 b h2 h3),World.rowIs.of_block h7 (k.2 b2 h4 h5),h8⟩
theorem Cod.O.R {c:Cod} {lo hi:Nat} {w:World} {v:Value} (h:c.O lo hi w v):c.R lo hi w v:=by
 obtain ⟨b,b2,rfl,h2,h3,h4,h5,h6,h7,h8,z1,z2⟩:=h;refine ⟨_,_,rfl,⟨_,_,rfl,Nat.le_refl _,by unfold maxLen;omega,fun i x hx=>⟨h8 x (List.mem_of_getElem? hx),b,0,rfl,h2,h3,?_⟩⟩,⟨_,_,rfl,Nat.le_refl _,by unfold maxLen;omega,fun i x hx=>⟨b2,0,rfl,h4,h5,?_⟩⟩⟩
 ·have hi:=(List.getElem?_eq_some_iff.1 hx).1
  obtain ⟨e0,e1,e2⟩:=insC_at hx;have hl:=flat_lt (k:=3) (j:=2) hi (by decide);refine ⟨?_,?_,?_⟩
  ·rw [Nat.zero_add,World.rowIs.cell h6 (by omega),e0]
  ·rw [Nat.zero_add,World.rowIs.cell h6 (by omega),e1]
  ·rw [Nat.zero_add,World.rowIs.cell h6 (by omega),e2]
 ·have hi:=(List.getElem?_eq_some_iff.1 hx).1
  rw [Nat.zero_add,World.rowIs.cell h7 hi];unfold strC;rw [List.getD,hx]
  rfl
theorem Cod.O.form {c:Cod} {lo hi:Nat} {w:World} {v:Value} (h:c.O lo hi w v):∃b b2,v = .agg #[.slice (some ⟨b,0,none⟩) c.xs.length c.xs.length,.slice (some ⟨b2,0,none⟩) c.ls.length c.ls.length]:=by
 obtain ⟨b,b2,h1,_⟩:=h;exact ⟨b,b2,h1⟩
theorem Cod.R.i64 {c:Cod} {lo hi:Nat} {w:World} {v:Value} (h:c.R lo hi w v):∀x∈c.xs,I64 x.op/\I64 x.num:=by
 obtain ⟨iu,lu,_,⟨a,cap,_,_,_,h2⟩,_⟩:=h;intro x hx;obtain ⟨i,hi,rfl⟩:=List.getElem_of_mem hx;exact (h2 i c.xs[i] (by simp [hi])).1
structure Nd where
 op:Int
 name:ByteArray
 num:Int
 args:List Int
structure Asg where
 name:ByteArray
 root:Int
structure Prg where
 ns:List Nd
 gs:List Asg
def Nds (lo hi:Nat) (w:World) (v:Value) (xs:List Nd):Prop:=
 ∃a cap,v = .slice a xs.length cap/\xs.length<=cap/\cap<=maxLen/\∀i x,xs[i]?=some x->(I64 x.op/\I64 x.num)/\∃b off u,a=some ⟨b,off,none⟩/\lo<=b/\b<hi/\w.cell? ⟨b,off+i*4,none⟩=some (.int .i64 x.op)/\w.cell? ⟨b,off+i*4+1,none⟩=some (.string x.name)/\w.cell? ⟨b,off+i*4+2,none⟩=some (.int .i64 x.num)/\w.cell? ⟨b,off+i*4+3,none⟩=some u/\Ints lo hi w u x.args
theorem Nds.same {lo hi:Nat} {w w':World} {v:Value} {xs:List Nd} (h:Nds lo hi w v xs) (s:Same lo hi w w'):Nds lo hi w' v xs:=by
 obtain ⟨a,cap,h1,h2,h3,h4⟩:=h;refine ⟨a,cap,h1,h2,h3,fun i x hx=>?_⟩;obtain ⟨h5,b,off,u,h6,h7,h8,h9,h10,h11,h12,h13⟩:=h4 i x hx;exact ⟨h5,b,off,u,h6,h7,h8,by rw [s.cell h7 h8];exact h9,by rw [s.cell h7 h8];exact h10,by rw [s.cell h7 h8];exact h11,by rw [s.cell h7 h8];exact h12,h13.same s⟩
structure NdsAt (lo hi:Nat) (w:World) (a:Option Addr) (cap:Nat) (xs:List Nd):Prop where
 le:xs.length<=cap
 cap:cap<=9223372036854775807
 cell:∀i x,xs[i]?=some x->(I64 x.op/\I64 x.num)/\∃b off u,a=some ⟨b,off,none⟩/\lo<=b/\b<hi/\w.cell? ⟨b,off+i*4,none⟩=some (.int .i64 x.op)/\w.cell? ⟨b,off+i*4+1,none⟩=some (.string x.name)/\w.cell? ⟨b,off+i*4+2,none⟩=some (.int .i64 x.num)/\w.cell? ⟨b,off+i*4+3,none⟩=some u/\Ints lo hi w u x.args
theorem Nds.open {lo hi:Nat} {w:World} {v:Value} {xs:List Nd} (h:Nds lo hi w v xs):∃a cap,v = .slice a xs.length cap/\NdsAt lo hi w a cap xs:=by
 obtain ⟨a,cap,g1,g2,g3,g4⟩:=h;exact ⟨a,cap,g1,g2,by unfold maxLen at g3;omega,g4⟩
theorem NdsAt.shut {lo hi:Nat} {w:World} {a:Option Addr} {cap:Nat} {xs:List Nd} (h:NdsAt lo hi w a cap xs):Nds lo hi w (.slice a xs.length cap) xs:=
 ⟨a,cap,rfl,h.le,by unfold maxLen;have:=h.cap;omega,h.cell⟩
theorem NdsAt.at {lo hi:Nat} {w:World} {a:Option Addr} {cap:Nat} {xs:List Nd} (h:NdsAt lo hi w a cap xs) {k:Nat} (hk:k<xs.length) {wr:World} (hx:Ext w wr) (hh:hi<=w.heap.size) :
  ∃b off op s n u r,a=some ⟨b,off,none⟩/\b<w.heap.size/\b<wr.heap.size/\xs.drop k=⟨op,s,n,r⟩::xs.drop (k+1)/\xs[k]?=some ⟨op,s,n,r⟩/\I64 op/\I64 n/\Ints lo hi wr u r/\wr.cell? ⟨b,off+k*4,none⟩=some (.int .i64 op)/\wr.cell? ⟨b,off+k*4+1,none⟩=some (.string s)/\wr.cell? ⟨b,off+k*4+2,none⟩=some (.int .i64 n)/\wr.cell? ⟨b,off+k*4+3,none⟩=some u:=by
 obtain ⟨⟨i1,i2⟩,b,off,u,e,h1,h2,c0,c1,c2,c3,hu⟩:=h.cell k xs[k] (by simp [hk]);have hz:=hx.size;refine ⟨b,off,xs[k].op,xs[k].name,xs[k].num,u,xs[k].args,e,by omega,by omega,List.drop_eq_getElem_cons hk,by simp [hk],i1,i2,hu.ext hh hx,?_,?_,?_,?_⟩
 ·exact (hx.cells.1 b _ (by omega)).trans c0
 ·exact (hx.cells.1 b _ (by omega)).trans c1
 ·exact (hx.cells.1 b _ (by omega)).trans c2
 ·exact (hx.cells.1 b _ (by omega)).trans c3
def Asgs (lo hi:Nat) (w:World) (v:Value) (xs:List Asg):Prop:=
 ∃a cap,v = .slice a xs.length cap/\xs.length<=cap/\cap<=maxLen/\∀i x,xs[i]?=some x->I64 x.root/\∃b off,a=some ⟨b,off,none⟩/\lo<=b/\b<hi/\w.cell? ⟨b,off+i*2,none⟩=some (.string x.name)/\w.cell? ⟨b,off+i*2+1,none⟩=some (.int .i64 x.root)
theorem Asgs.same {lo hi:Nat} {w w':World} {v:Value} {xs:List Asg} (h:Asgs lo hi w v xs) (s:Same lo hi w w'):Asgs lo hi w' v xs:=by
 obtain ⟨a,cap,h1,h2,h3,h4⟩:=h;refine ⟨a,cap,h1,h2,h3,fun i x hx=>?_⟩;obtain ⟨h5,b,off,h6,h7,h8,h9,h10⟩:=h4 i x hx;exact ⟨h5,b,off,h6,h7,h8,by rw [s.cell h7 h8];exact h9,by rw [s.cell h7 h8];exact h10⟩
structure AsgsAt (lo hi:Nat) (w:World) (a:Option Addr) (cap:Nat) (xs:List Asg):Prop where
 le:xs.length<=cap
 cap:cap<=9223372036854775807
 cell:∀i x,xs[i]?=some x->I64 x.root/\∃b off,a=some ⟨b,off,none⟩/\lo<=b/\b<hi/\w.cell? ⟨b,off+i*2,none⟩=some (.string x.name)/\w.cell? ⟨b,off+i*2+1,none⟩=some (.int .i64 x.root)
theorem Asgs.open {lo hi:Nat} {w:World} {v:Value} {xs:List Asg} (h:Asgs lo hi w v xs):∃a cap,v = .slice a xs.length cap/\AsgsAt lo hi w a cap xs:=by
 obtain ⟨a,cap,g1,g2,g3,g4⟩:=h;exact ⟨a,cap,g1,g2,by unfold maxLen at g3;omega,g4⟩
theorem AsgsAt.shut {lo hi:Nat} {w:World} {a:Option Addr} {cap:Nat} {xs:List Asg} (h:AsgsAt lo hi w a cap xs):Asgs lo hi w (.slice a xs.length cap) xs:=
 ⟨a,cap,rfl,h.le,by unfold maxLen;have:=h.cap;omega,h.cell⟩
theorem AsgsAt.at {lo hi:Nat} {w:World} {a:Option Addr} {cap:Nat} {xs:List Asg} (h:AsgsAt lo hi w a cap xs) {k:Nat} (hk:k<xs.length) {wr:World} (hx:Ext w wr) (hh:hi<=w.heap.size) :
  ∃b off s r,a=some ⟨b,off,none⟩/\b<w.heap.size/\b<wr.heap.size/\xs.drop k=⟨s,r⟩::xs.drop (k+1)/\xs[k]?=some ⟨s,r⟩/\I64 r/\wr.cell? ⟨b,off+k*2,none⟩=some (.string s)/\wr.cell? ⟨b,off+k*2+1,none⟩=some (.int .i64 r):=by
 obtain ⟨i1,b,off,e,h1,h2,c0,c1⟩:=h.cell k xs[k] (by simp [hk]);have hz:=hx.size;refine ⟨b,off,xs[k].name,xs[k].root,e,by omega,by omega,List.drop_eq_getElem_cons hk,by simp [hk],i1,?_,?_⟩
 ·exact (hx.cells.1 b _ (by omega)).trans c0
 ·exact (hx.cells.1 b _ (by omega)).trans c1
def Prg.R (p:Prg) (lo hi:Nat) (w:World) (v:Value):Prop:=∃nu au,v = .agg #[nu,au]/\Nds lo hi w nu p.ns/\Asgs lo hi w au p.gs
theorem Prg.R.same {p:Prg} {lo hi:Nat} {w w':World} {v:Value} (h:p.R lo hi w v) (s:Same lo hi w w'):p.R lo hi w' v:=by
 obtain ⟨nu,au,h1,h2,h3⟩:=h;exact ⟨nu,au,h1,h2.same s,h3.same s⟩
theorem Prg.R.ext {p:Prg} {lo hi:Nat} {w w':World} {v:Value} (h:p.R lo hi w v) (hh:hi<=w.heap.size) (e:Ext w w'):p.R lo hi w' v:=h.same (e.same hh)
theorem Prg.R.kp {p:Prg} {lo hi:Nat} {w w':World} {v:Value} (h:p.R lo hi w v) (k:Kp lo hi w w'):p.R lo hi w' v:=h.same k.same
theorem Nds.ext {lo hi:Nat} {w w':World} {v:Value} {xs:List Nd} (h:Nds lo hi w v xs) (hh:hi<=w.heap.size) (e:Ext w w'):Nds lo hi w' v xs:=h.same (e.same hh)
theorem Asgs.ext {lo hi:Nat} {w w':World} {v:Value} {xs:List Asg} (h:Asgs lo hi w v xs) (hh:hi<=w.heap.size) (e:Ext w w'):Asgs lo hi w' v xs:=h.same (e.same hh)
theorem Prg.R.form {p:Prg} {lo hi:Nat} {w:World} {v:Value} (h:p.R lo hi w v):∃a1 c1 a2 c2,v = .agg #[.slice a1 p.ns.length c1,.slice a2 p.gs.length c2]/\NdsAt lo hi w a1 c1 p.ns/\AsgsAt lo hi w a2 c2 p.gs:=by
 obtain ⟨iu,lu,rfl,h2,h3⟩:=h;obtain ⟨a1,c1,rfl,H1⟩:=h2.open;obtain ⟨a2,c2,rfl,H2⟩:=h3.open;exact ⟨a1,c1,a2,c2,rfl,H1,H2⟩
def Prg.bd (p:Prg):Prop:=(∀x∈p.ns,x.name.size<=maxLen)/\∀x∈p.gs,x.name.size<=maxLen
def Prg.small (p:Prg):Prop:=(p.ns.length<=1048576/\∀x∈p.ns,x.args.length<=1048576)/\p.gs.length<=1048576
def letN (n:Nat):Bool:=decide (97<=n)&&decide (n<=122)
def digN (n:Nat):Bool:=decide (48<=n)&&decide (n<=57)
def identAt (s:ByteArray) (k:Nat):Bool:=if h:k<s.size then letN s[k].toNat||(decide (k≠0)&&digN s[k].toNat) else true
def identB (s:ByteArray):Bool:=decide (1<=s.size)&&decide (s.size<=8)&&(List.range s.size).all (identAt s)
theorem identB_no {s:ByteArray} {k:Nat} (hk:k<s.size) (h:identAt s k=false):identB s=false:=by
 unfold identB;rw [Bool.and_eq_false_iff]
 right
 rw [List.all_eq_false];exact ⟨k,List.mem_range.2 hk,by simp [h]⟩
theorem identB_yes {s:ByteArray} (h:∀k,k<s.size->identAt s k=true):identB s=(decide (1<=s.size)&&decide (s.size<=8)):=by
 unfold identB;have:(List.range s.size).all (identAt s)=true:=List.all_eq_true.2 fun k hk=>h k (List.mem_range.1 hk);rw [this,Bool.and_true]
theorem identAt_let {s:ByteArray} {k:Nat} (hk:k<s.size) (h:97<=s[k].toNat/\s[k].toNat<=122):identAt s k=true:=by
 unfold identAt letN;rw [dif_pos hk,decide_eq_true h.1,decide_eq_true h.2]
 rfl
theorem identAt_dig {s:ByteArray} {k:Nat} (hk:k<s.size) (h0:k≠0) (h:48<=s[k].toNat/\s[k].toNat<=57):identAt s k=true:=by
 unfold identAt digN;rw [dif_pos hk,decide_eq_true h.1,decide_eq_true h.2,decide_eq_true h0];simp
theorem identAt_no {s:ByteArray} {k:Nat} (hk:k<s.size) (h1 : ¬(97<=s[k].toNat/\s[k].toNat<=122)) (h2 : ¬(k≠0/\48<=s[k].toNat/\s[k].toNat<=57)):identAt s k=false:=by
 unfold identAt letN digN;rw [dif_pos hk];simp only [Bool.or_eq_false_iff,Bool.and_eq_false_iff,decide_eq_false_iff_not];omega
theorem sIsIdentifier_any (s:ByteArray) (w:World) (hs:s.size<=maxLen):Calls Tryz.prog 239 #[.string s] w fun e w'=>e = .returned (.bool (identB s))/\w=w':=by
 unfold maxLen at hs;go_enter Tryz.func239,Tryz.ntmps239;go_wp2
 go_loopw [3] (fun i wr=>∃k:Nat,k<=s.size/\i = .int .i64 k/\wr=w/\∀j,j<k->identAt s j=true) (fun i _=>s.size - (intOf i).toNat)
 case atStart=>exact ⟨0,by omega,rfl,rfl,fun j h=>by omega⟩
 case round=>
  obtain ⟨k,hk,rfl,rfl,hno⟩:=hrel
  by_cases hlt:k<s.size
  ·have hno':identAt s k=true->∀j,j<k+1->identAt s j=true:=fun h j hj=>by
    by_cases e:j=k
    ·subst e;exact h
    ·exact hno j (by omega)
   by_cases h1:97<=s[k].toNat/\s[k].toNat<=122
   ·have HN:=hid (hno' (identAt_let hlt h1))
    clear hno hno';go_wp2;go_roundw
    case rel=>exact ⟨k+1,by omega,by go_num,by trivial,HN.out⟩
    case measure=>simp [intOf];omega
   ·by_cases h2:k≠0/\48<=s[k].toNat/\s[k].toNat<=57
    ·have HN:=hid (hno' (identAt_dig hlt h2.1 h2.2))
     have ek:((k:Int)==0)=false:=beq_eq_false_iff_ne.2 (by omega);clear hno hno';go_wp2
     all_goals first|(exfalso;omega)|skip
     all_goals (go_roundw <;> first|exact ⟨k+1,by omega,by go_num,by trivial,HN.out⟩|(simp [intOf];omega))
    ·have HN:=hid (identB_no hlt (identAt_no hlt h1 h2))
     clear hno hno'
     by_cases h0:k=0
     ·have ek:((k:Int)==0)=true:=by subst h0;rfl
      go_wp2
      all_goals first|(exfalso;omega)|(go_ret;exact ⟨by rw [HN.out];rfl,rfl⟩)|(exfalso;simp_all <;> omega)|trace_state
     ·have ek:((k:Int)==0)=false:=beq_eq_false_iff_ne.2 (by omega)
      go_wp2
      all_goals first|(exfalso;omega)|(go_ret;exact ⟨by rw [HN.out];rfl,rfl⟩)|(exfalso;simp_all <;> omega)|trace_state
  ·obtain rfl:k=s.size:=by omega
   have HN:=hid (identB_yes hno);clear hno
   obtain ⟨bi,hbi⟩:∃b,inB (s.size:Int) 1 8=b:=⟨_,rfl⟩
   have hb2:identB s=bi:=by
    rw [HN.out,<-hbi];unfold inB;rw [Bool.eq_iff_iff];simp only [Bool.and_eq_true,decide_eq_true_eq];omega
   have HB:=hid hb2;go_wp2_with fail;refine (l01In_val hbi _).mono ?_;rintro e w1 ⟨rfl,rfl⟩;go_wp2;go_ret;exact ⟨by rw [HB.out];rfl,rfl⟩
theorem iIsIdentifier_any (s:ByteArray) (w:World) (hs:s.size<=maxLen):Calls Tryz.prog 276 #[.string s] w fun e w'=>e = .returned (.bool (identB s))/\Ext w w':=by
 unfold maxLen at hs;have hk0:(w.iter s 0).heap[w.heap.size]?=some (.stringIter s 0):=World.iter_heap w s 0;have hb0:Ext w (w.iter s 0):=(Ext.refl w).alloc _;go_enter Tryz.func276,Tryz.ntmps276;go_wp2
 go_loopw [9] (fun _ wr=>∃pos:Nat,pos<=s.size/\wr.heap[w.heap.size]?=some (.stringIter s pos)/\(∀j,j<pos->identAt s j=true)/\Ext w wr) (fun _ wr=>s.size - wr.iterPos w.heap.size)
 case atStart=>exact ⟨0,Nat.zero_le _,hk0,fun j h=>by omega,hb0⟩
 case round=>
  obtain ⟨pos,hps,hk,hno,hnx⟩:=hrel;clear hk0 hb0
  by_cases hp:pos<s.size
  ·have hno':identAt s pos=true->∀j,j<pos+1->identAt s j=true:=fun h j hj=>by
    by_cases e:j=pos
    ·subst e;exact h
    ·exact hno j (by omega)
   have hmu:wr.iterPos w.heap.size=pos:=by simp [World.iterPos,hk]
   by_cases ha:(s[pos]'hp).toNat<128
   ·have hnext:∀ty,(Instr.next (.pointer (some ⟨w.heap.size,0,none⟩)) true ty).run Tryz.prog wr=_:=fun ty=>Lib.run_next_ascii_at wr w.heap.size s pos ty hk hp ha
    have hk1:=Lib.iterAt_heap wr w.heap.size s pos (pos+1) hk;have hnx1:Ext w (wr.iterAt w.heap.size s (pos+1)):=Lib.below_iterAt hnx (by omega) s (pos+1);generalize wr.iterAt w.heap.size s (pos+1)=W1 at hnext hk1 hnx1
    have hmu1:W1.iterPos w.heap.size=pos+1:=by simp [World.iterPos,hk1]
    have HX:=hid hnx1;have HK:=hid hk1;clear hnx hk hnx1 hk1
    by_cases h1:97<=s[pos].toNat/\s[pos].toNat<=122
    ·have HN:=hid (hno' (identAt_let hp h1))
     clear hno hno';go_wp2
     all_goals first|(exfalso;omega)|skip
     all_goals (go_roundw <;> first|exact ⟨pos+1,by omega,HK.out,HN.out,HX.out⟩|(rw [hmu,hmu1];omega))
    ·by_cases h2:pos≠0/\48<=s[pos].toNat/\s[pos].toNat<=57
     ·have HN:=hid (hno' (identAt_dig hp h2.1 h2.2))
      have ek:((pos:Int)==0)=false:=beq_eq_false_iff_ne.2 (by omega);clear hno hno';go_wp2
      all_goals first|(exfalso;omega)|skip
      all_goals (go_roundw <;> first|exact ⟨pos+1,by omega,HK.out,HN.out,HX.out⟩|(rw [hmu,hmu1];omega))
     ·have HN:=hid (identB_no hp (identAt_no hp h1 h2))
      clear hno hno'
      by_cases h0:pos=0
      ·have ek:((pos:Int)==0)=true:=by subst h0;rfl
       go_wp2
       all_goals first|(exfalso;omega)|(go_ret;exact ⟨by rw [HN.out];rfl,HX.out⟩)|(exfalso;simp_all <;> omega)
      ·have ek:((pos:Int)==0)=false:=beq_eq_false_iff_ne.2 (by omega)
       go_wp2
       all_goals first|(exfalso;omega)|(go_ret;exact ⟨by rw [HN.out];rfl,HX.out⟩)|(exfalso;simp_all <;> omega)
   ·have hnext:∀ty,(Instr.next (.pointer (some ⟨w.heap.size,0,none⟩)) true ty).run Tryz.prog wr=_:=fun ty=>Lib.run_next_any_at wr w.heap.size s pos ty hk hp
    have hnx1:Ext w (wr.iterAt w.heap.size s (pos+(Utf8.decode s pos).2)):=Lib.below_iterAt hnx (by omega) s _;have hhi:=(decode_high s pos hp (by omega)).1;generalize wr.iterAt w.heap.size s (pos+(Utf8.decode s pos).2)=W1 at hnext hnx1;generalize (Utf8.decode s pos).1=rn at hnext hhi;have HX:=hid hnx1;have HN:=hid (identB_no hp (identAt_no hp (by omega) (by omega)));clear hnx hk hnx1 hno hno'
    by_cases h0:pos=0
    ·have ek:((pos:Int)==0)=true:=by subst h0;rfl
     go_wp2
     all_goals first|(exfalso;omega)|(go_ret;exact ⟨by rw [HN.out];rfl,HX.out⟩)|(exfalso;simp_all <;> omega)
    ·have ek:((pos:Int)==0)=false:=beq_eq_false_iff_ne.2 (by omega)
     go_wp2
     all_goals first|(exfalso;omega)|(go_ret;exact ⟨by rw [HN.out];rfl,HX.out⟩)|(exfalso;simp_all <;> omega)
  ·obtain rfl:pos=s.size:=by omega
   have hnext:∀ty,(Instr.next (.pointer (some ⟨w.heap.size,0,none⟩)) true ty).run Tryz.prog wr=_:=fun ty=>Lib.run_next_end_at wr w.heap.size s s.size ty hk hp;have HN:=hid (identB_yes hno);have HX:=hid hnx;clear hno hnx hk
   by_cases h1:1<=s.size
   ·by_cases h8:s.size<=8
    ·have HB:=hid (show identB s=true by rw [HN.out,decide_eq_true h1,decide_eq_true h8];rfl)
     go_wp2
     all_goals first|(exfalso;omega)|(go_ret;exact ⟨by rw [HB.out];rfl,HX.out⟩)|(go_ret;exact ⟨by rw [HB.out];simp <;> omega,HX.out⟩)|(exfalso;simp_all <;> omega)
    ·have HB:=hid (show identB s=false by rw [HN.out,decide_eq_false h8];simp)
     go_wp2
     all_goals first|(exfalso;omega)|(go_ret;exact ⟨by rw [HB.out];rfl,HX.out⟩)|(go_ret;exact ⟨by rw [HB.out];simp <;> omega,HX.out⟩)|(exfalso;simp_all <;> omega)
   ·have HB:=hid (show identB s=false by rw [HN.out,decide_eq_false h1];simp)
    go_wp2
    all_goals first|(exfalso;omega)|(go_ret;exact ⟨by rw [HB.out];rfl,HX.out⟩)|(go_ret;exact ⟨by rw [HB.out];simp <;> omega,HX.out⟩)|(exfalso;simp_all <;> omega)
def OwnG {α : Type} (cs : α->List Value) (lo:Nat) (e:TypeId) (sz:Nat) (w:World) (v:Value) (xs:List α):Prop:=w.ownsRow lo e sz v xs.length (xs.flatMap cs)
theorem flatMap_at {α : Type} {cs : α->List Value} {sz:Nat} (hc:∀x,(cs x).length=sz):∀{xs:List α} {i:Nat} {x : α},xs[i]?=some x->∀j,j<sz->(xs.flatMap cs)[i*sz+j]?=(cs x)[j]?
 | [],_,_,h,_,_=>by simp at h
 | y::r,0,x,h,j,hj=>by
  simp at h;subst h;rw [List.flatMap_cons,Nat.zero_mul,Nat.zero_add,List.getElem?_append_left (by rw [hc];exact hj)]
 | y::r,i+1,x,h,j,hj=>by
  rw [List.flatMap_cons,Nat.succ_mul,List.getElem?_append_right (by rw [hc];omega),hc,show i*sz+sz+j - sz=i*sz+j by omega];exact flatMap_at hc (by simpa using h) j hj
theorem OwnG.nil {α : Type} (cs : α->List Value) (lo:Nat) (e:TypeId) (sz:Nat) (w:World):OwnG cs lo e sz w (.slice none 0 0) []:=World.ownsRow_nil _ _ _ _
theorem OwnG.lt {α : Type} {cs : α->List Value} {lo:Nat} {e:TypeId} {sz:Nat} {w:World} {v:Value} {xs:List α} (h:OwnG cs lo e sz w v xs):∀k,v.ownBlock=some k->lo<=k/\k<w.heap.size:=World.ownsRow.lt h
theorem OwnG.form {α : Type} {cs : α->List Value} {lo:Nat} {e:TypeId} {sz:Nat} {w:World} {v:Value} {xs:List α} (h:OwnG cs lo e sz w v xs):∃a cap,v = .slice a xs.length cap/\xs.length<=9223372036854775807:=by
 rcases h.2 with ⟨rfl,h4⟩|⟨g,cap,cur,rfl,hb,hg,hc,hm,hs,ht⟩
 ·exact ⟨none,0,by rw [h4],by omega⟩
 ·exact ⟨some ⟨g,0,none⟩,cap,rfl,by unfold maxLen at hm;omega⟩
theorem OwnG.of {α : Type} {cs : α->List Value} {lo:Nat} {e:TypeId} {sz:Nat} {w w':World} {v:Value} {xs:List α} (h:OwnG cs lo e sz w v xs) (s:∀b c,lo<=b->w.heap[b]?=some (.cells c e (0,0))->w'.heap[b]?=some (.cells c e (0,0))):OwnG cs lo e sz w' v xs:=by
 refine ⟨h.1,?_⟩
 rcases h.2 with hn|⟨g,cap,cur,hv,hb,hg,r⟩
 ·exact .inl hn
 ·exact .inr ⟨g,cap,cur,hv,hb,s g cur hb hg,r⟩
theorem OwnG.ext {α : Type} {cs : α->List Value} {lo:Nat} {e:TypeId} {sz:Nat} {w w':World} {v:Value} {xs:List α} (h:OwnG cs lo e sz w v xs) (x:Ext w w'):OwnG cs lo e sz w' v xs:=
 h.of fun b c _ hb=>(x.block (Array.getElem?_eq_some_iff.1 hb).1).trans hb
theorem OwnG.low {α : Type} {cs : α->List Value} {lo lo':Nat} {e:TypeId} {sz:Nat} {w:World} {v:Value} {xs:List α} (h:OwnG cs lo e sz w v xs) (hl:lo'<=lo):OwnG cs lo' e sz w v xs:=by
 refine ⟨h.1,?_⟩
 rcases h.2 with hn|⟨g,cap,cur,hv,hb,r⟩
 ·exact .inl hn
 ·exact .inr ⟨g,cap,cur,hv,by omega,r⟩
theorem OwnG.at {α : Type} {cs : α->List Value} {lo:Nat} {e:TypeId} {sz:Nat} {w:World} {v:Value} {xs:List α} (h:OwnG cs lo e sz w v xs) (hc:∀x,(cs x).length=sz) {i:Nat} {x : α} (hx:xs[i]?=some x) :
  ∃g cap,v = .slice (some ⟨g,0,none⟩) xs.length cap/\lo<=g/\g<w.heap.size/\xs.length<=cap/\cap<=9223372036854775807/\(∃c,w.heap[g]?=some (.cells c e (0,0)))/\∀j,j<sz->w.cell? ⟨g,i*sz+j,none⟩=(cs x)[j]?:=by
 have hi:=(List.getElem?_eq_some_iff.1 hx).1
 rcases h.2 with ⟨rfl,h4⟩|⟨g,cap,cur,rfl,hb,hg,hcap,hm,hs,ht⟩
 ·omega
 ·refine ⟨g,cap,rfl,hb,(Array.getElem?_eq_some_iff.1 hg).1,hcap,by unfold maxLen at hm;omega,⟨_,hg⟩,fun j hj=>?_⟩
  have e1:=flatMap_at hc hx j hj;rw [<-ht,List.getElem?_take,if_pos (flat_lt hi hj)] at e1;rw [<-e1];simp only [World.cell?,hg];simp
structure KN (lo B:Nat) (e:TypeId) (w w':World):Prop where
 os:w'.os=w.os
 tape:w'.tape=w.tape
 output:w'.output=w.output
 size:w.heap.size<=w'.heap.size
 block:∀b,b<w.heap.size->(b<lo\/(b≠B/\∀c,w.heap[b]?≠some (.cells c e (0,0))))->w'.heap[b]?=w.heap[b]?
theorem KN.refl (lo B:Nat) (e:TypeId) (w:World):KN lo B e w w:=⟨rfl,rfl,rfl,Nat.le_refl _,fun _ _ _=>rfl⟩
theorem KN.trans {lo B:Nat} {e:TypeId} {w w1 w2:World} (h:KN lo B e w w1) (k:KN lo B e w1 w2):KN lo B e w w2:=
 ⟨k.os.trans h.os,k.tape.trans h.tape,k.output.trans h.output,Nat.le_trans h.size k.size,fun b hb hn=>by
  have e1:=h.block b hb hn
  exact (k.block b (Nat.lt_of_lt_of_le hb h.size) (by rw [e1];exact hn)).trans e1⟩
theorem Ext.kn {w w':World} (h:Ext w w') (lo B:Nat) (e:TypeId):KN lo B e w w':=⟨h.os,h.tape,h.output,h.size,fun b hb _=>h.block hb⟩
theorem KN.ext {lo B:Nat} {e:TypeId} {w w1 w2:World} (h:KN lo B e w w1) (k:Ext w1 w2):KN lo B e w w2:=h.trans (k.kn lo B e)
theorem KN.set {lo B:Nat} {e:TypeId} {w w1:World} (h:KN lo B e w w1) (hl:lo<=B) (i:Nat) (u:Value):KN lo B e w (w1.setCell ⟨B,i,none⟩ u):=
 h.trans ⟨rfl,rfl,rfl,by rw [World.size_setCell];exact Nat.le_refl _,fun b _ hn=>Below.heap_setCell _ _ _ _ (by simp only;rcases hn with hn|hn <;> omega)⟩
theorem KN.grown {lo B:Nat} {e:TypeId} {w w1 w2:World} {row:Option Nat} (h:KN lo B e w w1) (hg:w1.grownBy w2 row) (hr:∀k,row=some k->lo<=k/\∃c,w1.heap[k]?=some (.cells c e (0,0))):KN lo B e w w2:=
 h.trans ⟨hg.os,hg.tape,hg.output,hg.size,fun b hb hn=>hg.block b hb (fun e1=>by
  obtain ⟨h1,c,h2⟩:=hr b e1.symm
  rcases hn with hn|hn
  ·omega
  ·exact hn.2 c h2)⟩
theorem KN.setNew {lo B:Nat} {e:TypeId} {w w1:World} (h:KN lo B e w w1) {b:Nat} (hb:w.heap.size<=b) (i:Nat) (u:Value):KN lo B e w (w1.setCell ⟨b,i,none⟩ u):=
 ⟨h.os,h.tape,h.output,by rw [World.size_setCell];exact h.size,fun k hk hn=>(Below.heap_setCell _ _ _ _ (by simp only;omega)).trans (h.block k hk hn)⟩
theorem KN.up {lo B:Nat} {e:TypeId} {w0 w w1:World} (h:KN lo B e w w1) (x:Ext w0 w) (hl:w0.heap.size<=lo):Ext w0 w1:=by
 refine Ext.trans (Ext.refl w0) ?_;refine (Ext.refl w0).grown (row:=none) ⟨h.os.trans x.os,h.tape.trans x.tape,h.output.trans x.output,Nat.le_trans x.size h.size,fun b hb _=>?_⟩ (fun k hk=>by cases hk);exact (h.block b (Nat.lt_of_lt_of_le hb x.size) (.inl (by omega))).trans (x.block hb)
theorem KN.row {lo B:Nat} {e e':TypeId} {α : Type} {cs : α->List Value} {sz lo':Nat} {w w':World} {v:Value} {xs:List α} (h:OwnG cs lo' e' sz w v xs) (k:KN lo B e w w') (hB:∀c,w.heap[B]?≠some (.cells c e' (0,0))) (he:e'≠e):OwnG cs lo' e' sz w' v xs:=
 h.of fun b c _ hb=>(k.block b (Array.getElem?_eq_some_iff.1 hb).1 (.inr ⟨fun e1=>hB c (e1▸hb),fun c' h'=>by rw [hb] at h';simp only [Option.some.injEq,Obj.cells.injEq] at h';exact he h'.2.1⟩)).trans hb
theorem KN.ints {lo B:Nat} {e:TypeId} {lo':Nat} {w w':World} {v:Value} {xs:List Int} (h:OwnInts lo' w v xs) (k:KN lo B e w w') (hB:∀c,w.heap[B]?≠some (.cells c 3 (0,0))) (he:3≠e):OwnInts lo' w' v xs:=by
 obtain ⟨⟨h1,h2⟩,h3⟩:=h;refine ⟨⟨h1,?_⟩,h3⟩
 rcases h2 with hn|⟨g,cap,cur,hv,hb,hg,r⟩
 ·exact .inl hn
 ·refine .inr ⟨g,cap,cur,hv,hb,?_,r⟩
  exact (k.block g (Array.getElem?_eq_some_iff.1 hg).1 (.inr ⟨fun e1=>hB cur (e1▸hg),fun c' h'=>by rw [hg] at h';simp only [Option.some.injEq,Obj.cells.injEq] at h';exact he h'.2.1⟩)).trans hg
theorem KN.blk {lo B:Nat} {e:TypeId} {w w':World} {g:Nat} {t:TypeId} {cs:List Value} (h:Blk w g t cs) (k:KN lo B e w w') (hg:g≠B) (ht:t≠e):Blk w' g t cs:=
 h.of (k.block g h.lt (.inr ⟨hg,fun c' h'=>by unfold Blk at h;rw [h] at h';simp only [Option.some.injEq,Obj.cells.injEq] at h';exact ht h'.2.1⟩))
structure Tok where
 kind:Int
 text:ByteArray
 num:Int
 off:Int
def Tok.cs (t:Tok):List Value:=[t.kind,.string t.text,t.num,t.off]
def ndCs (p:Nd×Value):List Value:=[p.1.op,.string p.1.name,p.1.num,p.2]
def Asg.cs (a:Asg):List Value:=[.string a.name,a.root]
def OwnToks (lo:Nat) (w:World) (v:Value) (xs:List Tok):Prop:=OwnG Tok.cs lo 336 4 w v xs
def OwnAsgs (lo:Nat) (w:World) (v:Value) (xs:List Asg):Prop:=OwnG Asg.cs lo 194 2 w v xs
def OwnNds (lo:Nat) (X:Nat->Prop) (w:World) (v:Value) (xs:List Nd):Prop:=∃ps:List (Nd×Value),ps.map (·.1)=xs/\OwnG ndCs lo 243 4 w v ps/\∀p∈ps,OwnInts lo w p.2 p.1.args/\∀k,p.2.ownBlock=some k->¬X k
theorem info_Token:(Tryz.prog.info? 336).map (fun i=>(i.zero,i.size,i.bytes))=some (some (.agg #[(),.string ⟨#[]⟩,(),()]),4,40):=by kernel_rfl
theorem info_NodeT:(Tryz.prog.info? 243).map (fun i=>(i.zero,i.size,i.bytes))=some (some (.agg #[(),.string ⟨#[]⟩,(),.slice none 0 0]),4,56):=by kernel_rfl
theorem info_AsgT:(Tryz.prog.info? 194).map (fun i=>(i.zero,i.size,i.bytes))=some (some (.agg #[.string ⟨#[]⟩,()]),2,24):=by kernel_rfl
theorem wpList_append_elt {α : Type} (cs : α->List Value) (e:TypeId) (sz bytes:Nat) (z:Value) (w:World) {ops:Array Oper} {rest:List Oper} {o:Oper} {a:Act} {Q:Exit->Act->World->Prop} (hg:o.guard=none) (s x:Operand) (t:TypeId)
  (hop:o.op=Op.call { callee:=Callee.builtin Builtin.append,args:=#[s,x],argTypes:=#[t,t] }) (ht:Tryz.prog.underlying t=some (.slice e))
  (hinfo:(Tryz.prog.info? e).map (fun i=>(i.zero,i.size,i.bytes))=some (some z,sz,bytes)) (hzs:z.cells.size=sz) (hsz:0<sz) (hby:bytes<=1000) (hc:∀x,(cs x).length=sz)
  (lo:Nat) (v:Value) (xs:List α) (hs:a.eval s=v) (hown:OwnG cs lo e sz w v xs)
  (y : α) (b:Nat) (hx:a.eval x = .slice (some ⟨b,0,none⟩) 1 1) (hcell:∀j,j<sz->w.cell? ⟨b,j,none⟩=(cs y)[j]?) (h1:∀u∈cs y,u.oneCell'=true) (hlen:xs.length<1000000) (hlo:lo<=w.heap.size)
  (hK:∀v' w',OwnG cs lo e sz w' v' (xs++[y])->w.grownBy w' v.ownBlock->wpList Tryz.prog ops Q rest (a.put o.dst v') w'):wpList Tryz.prog ops Q (o::rest) a w:=by
 obtain ⟨i0,hi0,hz0,hz1,hz2⟩:=info_parts hinfo;refine wpList_append_own w hg s x t hop lo e i0 z sz bytes ht hi0 hz0 hz1 hz2 hzs hsz v xs.length _ hs hown ⟨b,0,none⟩ 1 1 (cs y) hx (by rw [hc,Nat.one_mul]) ?_ h1 ?_ ?_ hlo ?_
 ·intro j u hj
  have hjl:j<sz:=by rw [<-hc y];exact (List.getElem?_eq_some_iff.1 hj).1
  have ea:(⟨b,0,none⟩:Addr).add j=⟨b,j,none⟩:=by
   unfold Addr.add
   split <;> simp_all
  rw [ea,hcell j hjl,hj]
 ·unfold maxLen;omega
 ·have:(xs.length+1)*bytes<=1000000*1000:=Nat.mul_le_mul (by omega) hby
  omega
 ·intro v' w1 hown' hgrow _
  refine hK v' w1 ?_ hgrow;unfold OwnG;rw [List.length_append,List.flatMap_append]
  simpa using hown'
theorem wpList_append_tok (w:World) {ops:Array Oper} {rest:List Oper} {o:Oper} {a:Act} {Q:Exit->Act->World->Prop} (hg:o.guard=none) (s x:Operand)
  (hop:o.op=Op.call { callee:=Callee.builtin Builtin.append,args:=#[s,x],argTypes:=#[329,329] }) (lo:Nat) (v:Value) (xs:List Tok) (hs:a.eval s=v) (hown:OwnToks lo w v xs)
  (y:Tok) (b:Nat) (hx:a.eval x = .slice (some ⟨b,0,none⟩) 1 1) (hcell:w.cell? ⟨b,0,none⟩=some (.int .i64 y.kind)/\w.cell? ⟨b,1,none⟩=some (.string y.text)/\w.cell? ⟨b,2,none⟩=some (.int .i64 y.num)/\w.cell? ⟨b,3,none⟩=some (.int .i64 y.off)) (hlen:xs.length<1000000) (hlo:lo<=w.heap.size)
  (hK:∀v' w',OwnToks lo w' v' (xs++[y])->w.grownBy w' v.ownBlock->wpList Tryz.prog ops Q rest (a.put o.dst v') w'):wpList Tryz.prog ops Q (o::rest) a w:=by
 refine wpList_append_elt Tok.cs 336 4 40 _ w hg s x 329 hop Tryz.underlying329 info_Token rfl (by decide) (by decide) (fun _=>rfl) lo v xs hs hown y b hx ?_ ?_ hlen hlo hK
 ·intro j hj
  obtain ⟨c0,c1,c2,c3⟩:=hcell
  rcases (show j=0\/j=1\/j=2\/j=3 by omega) with rfl|rfl|rfl|rfl
  ·exact c0
  ·exact c1
  ·exact c2
  ·exact c3
 ·intro u hu
  simp only [Tok.cs,List.mem_cons,List.not_mem_nil,or_false] at hu
  rcases hu with rfl|rfl|rfl|rfl <;> rfl
theorem wpList_append_asg (w:World) {ops:Array Oper} {rest:List Oper} {o:Oper} {a:Act} {Q:Exit->Act->World->Prop} (hg:o.guard=none) (s x:Operand)
  (hop:o.op=Op.call { callee:=Callee.builtin Builtin.append,args:=#[s,x],argTypes:=#[130,130] }) (lo:Nat) (v:Value) (xs:List Asg) (hs:a.eval s=v) (hown:OwnAsgs lo w v xs)
  (y:Asg) (b:Nat) (hx:a.eval x = .slice (some ⟨b,0,none⟩) 1 1) (hcell:w.cell? ⟨b,0,none⟩=some (.string y.name)/\w.cell? ⟨b,1,none⟩=some (.int .i64 y.root)) (hlen:xs.length<1000000) (hlo:lo<=w.heap.size)
  (hK:∀v' w',OwnAsgs lo w' v' (xs++[y])->w.grownBy w' v.ownBlock->wpList Tryz.prog ops Q rest (a.put o.dst v') w'):wpList Tryz.prog ops Q (o::rest) a w:=by
 refine wpList_append_elt Asg.cs 194 2 24 _ w hg s x 130 hop Tryz.underlying130 info_AsgT rfl (by decide) (by decide) (fun _=>rfl) lo v xs hs hown y b hx ?_ ?_ hlen hlo hK
 ·intro j hj
  obtain ⟨c0,c1⟩:=hcell
  rcases (show j=0\/j=1 by omega) with rfl|rfl
  ·exact c0
  ·exact c1
 ·intro u hu
  simp only [Asg.cs,List.mem_cons,List.not_mem_nil,or_false] at hu
  rcases hu with rfl|rfl <;> rfl
theorem OwnNds.nil (lo:Nat) (X:Nat->Prop) (w:World):OwnNds lo X w (.slice none 0 0) []:=⟨[],rfl,OwnG.nil _ _ _ _ _,fun p h=>by cases h⟩
theorem OwnNds.form {lo:Nat} {X:Nat->Prop} {w:World} {v:Value} {xs:List Nd} (h:OwnNds lo X w v xs):∃a cap,v = .slice a xs.length cap/\xs.length<=9223372036854775807:=by
 obtain ⟨ps,rfl,h1,_⟩:=h;rw [List.length_map];exact h1.form
theorem OwnNds.ext {lo:Nat} {X:Nat->Prop} {w w':World} {v:Value} {xs:List Nd} (h:OwnNds lo X w v xs) (x:Ext w w'):OwnNds lo X w' v xs:=by
 obtain ⟨ps,h0,h1,h2⟩:=h;exact ⟨ps,h0,h1.ext x,fun p hp=>⟨(h2 p hp).1.ext x,(h2 p hp).2⟩⟩
theorem OwnNds.row {lo:Nat} {X:Nat->Prop} {w:World} {v:Value} {xs:List Nd} (h:OwnNds lo X w v xs):∀k,v.ownBlock=some k->lo<=k/\∃c,w.heap[k]?=some (.cells c 243 (0,0)):=by
 obtain ⟨ps,h0,h1,h2⟩:=h;intro k hk
 rcases h1.2 with ⟨rfl,h4⟩|⟨g,cap,cur,rfl,hb,hg,hc,hm,hs,ht⟩
 ·cases hk
 ·simp only [Value.ownBlock,Option.some.injEq] at hk
  subst hk;exact ⟨hb,cur,hg⟩
theorem OwnNds.set {lo B:Nat} {X:Nat->Prop} {w:World} {v:Value} {xs:List Nd} {T:TypeId} {cs:List Value} (h:OwnNds lo X w v xs) (hB:Blk w B T cs) (h1:T≠243) (h2:T≠3) (i:Nat) (u:Value):OwnNds lo X (w.setCell ⟨B,i,none⟩ u) v xs:=by
 obtain ⟨ps,h0,h3,h4⟩:=h;refine ⟨ps,h0,h3.of fun b c _ hb=>?_,fun p hp=>⟨(h4 p hp).1.setOther ?_ u,(h4 p hp).2⟩⟩
 ·refine (Below.heap_setCell _ _ _ _ ?_).trans hb
  intro e;simp only at e;subst e;unfold Blk at hB;rw [hB] at hb;simp only [Option.some.injEq,Obj.cells.injEq] at hb;exact h1 hb.2.1
 ·intro e
  obtain ⟨cur,hc⟩:=(h4 p hp).1.block e;unfold Blk at hB;simp only at hc;rw [hB] at hc;simp only [Option.some.injEq,Obj.cells.injEq] at hc;exact h2 hc.2.1
theorem OwnG.set {α : Type} {cs : α->List Value} {lo:Nat} {e:TypeId} {sz:Nat} {w:World} {v:Value} {xs:List α} {B:Nat} {T:TypeId} {us:List Value} (h:OwnG cs lo e sz w v xs) (hB:Blk w B T us) (h1:T≠e) (i:Nat) (u:Value):OwnG cs lo e sz (w.setCell ⟨B,i,none⟩ u) v xs:=by
 refine h.of fun b c _ hb=>(Below.heap_setCell _ _ _ _ ?_).trans hb;intro e;simp only at e;subst e;unfold Blk at hB;rw [hB] at hb;simp only [Option.some.injEq,Obj.cells.injEq] at hb;exact h1 hb.2.1
theorem wpList_append_nd (w:World) {ops:Array Oper} {rest:List Oper} {o:Oper} {a:Act} {Q:Exit->Act->World->Prop} (hg:o.guard=none) (s x:Operand)
  (hop:o.op=Op.call { callee:=Callee.builtin Builtin.append,args:=#[s,x],argTypes:=#[129,129] }) (lo:Nat) (X:Nat->Prop) (v:Value) (xs:List Nd) (hs:a.eval s=v) (hown:OwnNds lo X w v xs)
  (y:Nd) (u:Value) (hu:OwnInts lo w u y.args) (hux:∀k,u.ownBlock=some k->¬X k) (b:Nat) (hx:a.eval x = .slice (some ⟨b,0,none⟩) 1 1) (hcell:w.cell? ⟨b,0,none⟩=some (.int .i64 y.op)/\w.cell? ⟨b,1,none⟩=some (.string y.name)/\w.cell? ⟨b,2,none⟩=some (.int .i64 y.num)/\w.cell? ⟨b,3,none⟩=some u) (hlen:xs.length<1000000) (hlo:lo<=w.heap.size)
  (hK:∀v' w',OwnNds lo X w' v' (xs++[y])->w.grownBy w' v.ownBlock->wpList Tryz.prog ops Q rest (a.put o.dst v') w'):wpList Tryz.prog ops Q (o::rest) a w:=by
 have hrow:=hown.row;obtain ⟨ps,hps,h1,h2⟩:=hown
 have hpl:ps.length=xs.length:=by rw [<-hps,List.length_map]
 obtain ⟨ua,uc,hue,_⟩:=hu.form;refine wpList_append_elt ndCs 243 4 56 _ w hg s x 129 hop Tryz.underlying129 info_NodeT rfl (by decide) (by decide) (fun _=>rfl) lo v ps hs h1 (y,u) b hx ?_ ?_ (by omega) hlo ?_
 ·intro j hj
  obtain ⟨c0,c1,c2,c3⟩:=hcell
  rcases (show j=0\/j=1\/j=2\/j=3 by omega) with rfl|rfl|rfl|rfl
  ·exact c0
  ·exact c1
  ·exact c2
  ·exact c3
 ·intro q hq
  simp only [ndCs,List.mem_cons,List.not_mem_nil,or_false] at hq
  rcases hq with rfl|rfl|rfl|rfl
  ·rfl
  ·rfl
  ·rfl
  ·rw [hue];rfl
 ·intro v' w1 hown' hgrow
  have keep:∀{p:Nd×Value},OwnInts lo w p.2 p.1.args->OwnInts lo w1 p.2 p.1.args:=fun hp=>hp.grown hgrow (fun k hk e=>by
   obtain ⟨cur,hc⟩:=hp.block hk;obtain ⟨_,c,hc'⟩:=hrow k e.symm;rw [hc] at hc';simp only [Option.some.injEq,Obj.cells.injEq] at hc'
   exact absurd hc'.2.1 (by decide))
  refine hK v' w1 ⟨ps++[(y,u)],by simp [hps],hown',fun p hp=>?_⟩ hgrow
  rcases List.mem_append.1 hp with h|h
  ·exact ⟨keep (h2 p h).1,(h2 p h).2⟩
  ·simp only [List.mem_cons,List.not_mem_nil,or_false] at h
   subst h;exact ⟨keep (p:=(y,u)) hu,hux⟩
theorem OwnNds.other {lo:Nat} {X Y:Nat->Prop} {w:World} {v:Value} {xs:List Nd} (h:OwnNds lo X w v xs) (hx:∀k,k<w.heap.size->¬X k->¬Y k):OwnNds lo Y w v xs:=by
 obtain ⟨ps,h0,h1,h2⟩:=h;exact ⟨ps,h0,h1,fun p hp=>⟨(h2 p hp).1,fun k hk=>hx k ((h2 p hp).1.lt k hk).2 ((h2 p hp).2 k hk)⟩⟩
theorem OwnNds.grownI {lo:Nat} {X:Nat->Prop} {w w':World} {v:Value} {xs:List Nd} {row:Option Nat} (h:OwnNds lo X w v xs) (hg:w.grownBy w' row) (hr:∀k,row=some k->X k/\∃c,w.heap[k]?=some (.cells c 3 (0,0))):OwnNds lo X w' v xs:=by
 obtain ⟨ps,h0,h1,h2⟩:=h;refine ⟨ps,h0,h1.of fun b c _ hb=>(hg.block b (Array.getElem?_eq_some_iff.1 hb).1 fun e=>?_).trans hb,fun p hp=>⟨(h2 p hp).1.grown hg fun k hk e=>(h2 p hp).2 k hk (hr k e.symm).1,(h2 p hp).2⟩⟩;obtain ⟨_,c',hc'⟩:=hr b e.symm;rw [hb] at hc';simp only [Option.some.injEq,Obj.cells.injEq] at hc';exact absurd hc'.2.1 (by decide)
section
open Go.RowKit Go.Shelf
theorem lt_of_block {W:World} {B:Nat} {o:Obj} (h:W.heap[B]?=some o):B<W.heap.size:=(Array.getElem?_eq_some_iff.1 h).1
theorem cells_not_row {W:World} {B:Nat} {t e:TypeId} {cs:Array Value} {fz:Nat×Nat} (h:W.heap[B]?=some (.cells cs t fz)) (hte:t≠e) {base size k:Nat} {v:Value} {xs:List Value} (hr:W.ownsRow base e size v k xs):some B≠v.ownBlock:=by
 rcases hr.2 with ⟨rfl,_⟩|⟨g,cap,cur,rfl,hb,hg,_⟩
 ·simp [Value.ownBlock]
 ·simp only [Value.ownBlock,ne_eq,Option.some.injEq]
  intro e';subst e';rw [hg] at h;simp only [Option.some.injEq,Obj.cells.injEq] at h;exact hte h.2.1.symm
theorem kept_cells {A B:World} {row:Option Nat} (hg:A.grownBy B row) (hr:∀r,row=some r->∃o:Obj,A.heap[r]?=some o/\o.isCells=false) {b:Nat} {cs:Array Value} {t:TypeId} {fz:Nat×Nat} (h:A.heap[b]?=some (.cells cs t fz)):B.heap[b]?=some (.cells cs t fz):=
 (hg.block b (lt_of_block h) (fun e=>by obtain ⟨o,ho,hc⟩:=hr b e.symm;rw [h] at ho;cases ho;cases hc)).trans h
theorem Ext.others {A B:World} (h:Ext A B):KeepsOthers A B:=⟨h.size,fun _ _ hk _=>(h.block (lt_of_block hk)).trans hk⟩
structure RB {α : Type} (cs : α->List Value) (e:TypeId) (sz:Nat) (bt:TypeId) (bx:Value->List Value) (w:World) (Bt:Nat) (F:List (Nat×TypeId×List Value)) (W:World) (xs:List α):Prop where
 ext:Ext w W
 fx:∀p∈F,Blk W p.1 p.2.1 p.2.2
 tl:w.heap.size<=Bt
 tb:∃v,Blk W Bt bt (bx v)/\OwnG cs w.heap.size e sz W v xs
section
variable {α : Type} {cs : α -> List Value} {e : TypeId} {sz : Nat} {bt : TypeId} {bx : Value -> List Value} {w : World} {Bt : Nat} {F : List (Nat × TypeId × List Value)} {W : World} {xs : List α}
theorem RB.to (h:RB cs e sz bt bx w Bt F W xs) {W':World} (x:Ext W W'):RB cs e sz bt bx w Bt F W' xs:=by
 obtain ⟨v,h1,h2⟩:=h.tb;exact ⟨h.ext.trans x,fun p hp=>(h.fx p hp).ext x,h.tl,v,h1.ext x,h2.ext x⟩
theorem kept_blk {A B:World} {row:Option Nat} (hg:A.grownBy B row) (hr:∀r,row=some r->∃o:Obj,A.heap[r]?=some o/\o.isCells=false) {b:Nat} {t:TypeId} {cs:List Value} (h:Blk A b t cs):Blk B b t cs:=kept_cells hg hr h
theorem OwnG.owns {lo:Nat} {A B:World} {v:Value} (h:OwnG cs lo e sz A v xs) {row:Option Nat} (hg:A.grownBy B row) (hr:∀r,row=some r->∃o:Obj,A.heap[r]?=some o/\o.isCells=false):OwnG cs lo e sz B v xs:=by
 obtain ⟨h1,h2⟩:=h;refine ⟨h1,?_⟩
 rcases h2 with hn|⟨g,cap,cur,hv,hb,hgg,r⟩
 ·exact .inl hn
 ·exact .inr ⟨g,cap,cur,hv,hb,kept_cells hg hr hgg,r⟩
theorem RB.owns {B0:Nat} (hB:w.heap.size<=B0) {β : Type} (f : β->List α):OwnFrom B0 (fun (b : β) W=>RB cs e sz bt bx w Bt F W (f b)):=fun b A B row h hg hr=>by
 have hr':∀r,row=some r->∃o:Obj,A.heap[r]?=some o/\o.isCells=false:=fun r e=>(hr r e).2;obtain ⟨v,h1,h2⟩:=h.tb;exact ⟨h.ext.grown hg (fun k e=>Nat.le_trans hB (hr k e).1),fun p hp=>kept_blk hg hr' (h.fx p hp),h.tl,v,kept_blk hg hr' h1,h2.owns hg hr'⟩
theorem blk_not_row {A:World} {b:Nat} {t:TypeId} {us:List Value} (h:Blk A b t us) (hte:t≠e) {lo:Nat} {v:Value} (hr:OwnG cs lo e sz A v xs):some b≠v.ownBlock:=cells_not_row h hte hr
theorem OwnG.setBlk {lo:Nat} {A:World} {b:Nat} {t:TypeId} {us:List Value} {v:Value} (h:OwnG cs lo e sz A v xs) (hb:Blk A b t us) (hte:t≠e) (q:Nat) (u:Value):OwnG cs lo e sz (A.setCell ⟨b,q,none⟩ u) v xs:=
 ownsRow_setCell_other h (fun e'=>blk_not_row hb hte h e'.symm) u
theorem RB.push {W5 W6 W7:World} {v v':Value} {xs':List α} (h:RB cs e sz bt bx w Bt F W5 xs) (hF:∀p∈F,p.2.1≠e/\p.1≠Bt) (hbt:bt≠e) (q:Nat) (hq:(bx v).set q v'=bx v')
  (hv:Blk W5 Bt bt (bx v)) (ho:OwnG cs w.heap.size e sz W5 v xs) (x6:Ext W5 W6) (hg:W6.grownBy W7 v.ownBlock) (hown:OwnG cs w.heap.size e sz W7 v' xs') :
  RB cs e sz bt bx w Bt F (W7.setCell ⟨Bt,q,none⟩ v') xs':=by
 have k:∀{b:Nat} {t:TypeId} {us:List Value},t≠e->Blk W5 b t us->Blk W7 b t us:=fun hte hb=>(hb.ext x6).grown hg (blk_not_row hb hte ho);have ht:=k hbt hv;have hE:Ext w W7:=(h.ext.trans x6).grown hg (fun k e=>(ho.lt k e).1);refine ⟨hE.setCell h.tl _,fun p hp=>(k (hF p hp).1 (h.fx p hp)).other (hF p hp).2 _,h.tl,v',?_,hown.setBlk ht hbt q v'⟩;rw [<-hq];exact ht.set q v'
theorem own_blk {lo:Nat} {A A':World} {v:Value} (x:Ext A A') (ho:OwnG cs lo e sz A v xs):∀(j:Nat) (o':Obj),v.ownBlock=some j->A'.heap[j]?=some o'->o'.isCells=true:=by
 intro j o' hj h'
 rcases ho.2 with ⟨rfl,_⟩|⟨g,cap,cur,rfl,hb,hg,_⟩
 ·simp [Value.ownBlock] at hj
 ·simp only [Value.ownBlock,Option.some.injEq] at hj
  subst hj;rw [x.block (lt_of_block hg),hg] at h'
  cases h'
  rfl
end
end
def cl (n:Int):Int:=clampI n (-1000000) 1000000
theorem clampFn_val {n c:Int} (h:cl n=c) (w:World):Calls Tryz.prog 232 #[n] w fun e w'=>e = .returned (.int .i64 c)/\w=w':=by
 go_enter Tryz.func232,Tryz.ntmps232;go_wp2_with fail;refine (iClamp_val h _).mono ?_;rintro e w1 ⟨rfl,rfl⟩;go_wp2;go_ret;exact ⟨rfl,rfl⟩
theorem l02N_cl {n c:Int} (h:cl n=c) (w:World):Calls Tryz.prog 242 #[n] w fun e w'=>e = .returned (.int .i64 c)/\w=w':=by
 go_enter Tryz.func242,Tryz.ntmps242;go_wp2_with fail;refine (sClamp_val h _).mono ?_;rintro e w1 ⟨rfl,rfl⟩;go_wp2;go_ret;exact ⟨rfl,rfl⟩
theorem eachClamp_val {x y z a b c:Int} (ha:cl x=a) (hb:cl y=b) (hc:cl z=c) (w:World) :
  Calls Tryz.prog 231 #[.agg #[x,y,z],.func (.func 232) #[] #[]] w fun e w'=>e = .returned (.agg #[a,b,c])/\Ext w w':=by
 have HA:=hid ha;have HB:=hid hb;have HC:=hid hc;clear ha hb hc;go_enter Tryz.func231,Tryz.ntmps231;go_wp2;refine wp_region_stages [([0,1,2,4,5,6,8,9,10],3),([],7),([],11),([12],13)] 13 (w.heap.size+1+1) (by kernel_rfl) (by kernel_rfl) ?_;refine wpStages_cons ?_;simp only [List.filterMap_cons,List.filterMap_nil,List.getElem?_toArray,List.getElem?_cons_zero,List.getElem?_cons_succ]
 show wpQuiet _ _ _ _ [_,_,_,_,_,_,_,_,_] _
 repeat (go_big_quiet_step (fail))
 refine wpQuiet_nil ⟨_,rfl,fun K hK=>?_⟩;go_wp2_with fail;refine (clampFn_val HA.out _).mono ?_;rintro e w1 ⟨rfl,rfl⟩;go_wp2_with fail;refine hK _ _ (.inr (fun b _ hb=>Ext.block X_ (by simp;omega))) ?_;clear hK K;refine wpStages_cons ?_;simp only [List.filterMap_nil]
 show wpQuiet _ _ _ _ [] _
 try simp only [Act.put,List.setIfInBounds_toArray,List.set_cons_succ,List.set_cons_zero]
 refine wpQuiet_nil ⟨_,rfl,fun K hK=>?_⟩;go_wp2_with fail;refine (clampFn_val HB.out _).mono ?_;rintro e w1 ⟨rfl,rfl⟩;go_wp2_with fail;refine hK _ _ (.inr (fun b _ hb=>Ext.block X_ (by simp;omega))) ?_;clear hK K;refine wpStages_cons ?_;simp only [List.filterMap_nil]
 show wpQuiet _ _ _ _ [] _
 try simp only [Act.put,List.setIfInBounds_toArray,List.set_cons_succ,List.set_cons_zero]
 refine wpQuiet_nil ⟨_,rfl,fun K hK=>?_⟩;go_wp2_with fail;refine (clampFn_val HC.out _).mono ?_;rintro e w1 ⟨rfl,rfl⟩;go_wp2_with fail;refine hK _ _ (.inr (fun b _ hb=>Ext.block X_ (by simp;omega))) ?_;clear hK K;refine wpStages_cons ?_;simp only [List.filterMap_cons,List.filterMap_nil,List.getElem?_toArray,List.getElem?_cons_zero,List.getElem?_cons_succ]
 show wpQuiet _ _ _ _ [_] _
 try simp only [Act.put,List.setIfInBounds_toArray,List.set_cons_succ,List.set_cons_zero]
 repeat (go_big_quiet_step (fail))
 refine wpQuiet_nil ⟨_,rfl,fun K hK=>?_⟩;go_wp2_with fail;refine hK _ _ (.inl (by trivial)) (wpStages_nil ?_);clear hK K;go_wp2;exact bodyPost_ret (v:=.agg #[a,b,c]) (by simp [results,Tryz.results231,go_sem, *]) rfl ⟨rfl,S_⟩
theorem clamped_val {x y z a b c:Int} (ha:cl x=a) (hb:cl y=b) (hc:cl z=c) (w:World) :
  Calls Tryz.prog 168 #[.agg #[x,y,z]] w fun e w'=>e = .returned (.agg #[a,b,c])/\Ext w w':=by
 go_enter Tryz.func168,Tryz.ntmps168;go_wp2_with fail;refine (eachClamp_val ha hb hc _).mono ?_;rintro e w1 ⟨rfl,h1⟩;obtain ⟨c1,f1⟩:=h1.cells;have z1:=h1.size;simp only [World.size_alloc] at z1
 have q0:w.heap.size<w1.heap.size:=by omega
 have q1:w.heap.size+1<w1.heap.size:=by omega
 have E1:Ext w w1:=Ext.trans X_ h1;go_wp2;exact bodyPost_ret (v:=.agg #[a,b,c]) (by simp [results,Tryz.results168,go_sem, *]) rfl ⟨rfl,S_⟩
theorem l02V_val {x y z a b c:Int} (ha:cl x=a) (hb:cl y=b) (hc:cl z=c) (w:World) :
  Calls Tryz.prog 187 #[.agg #[x,y,z]] w fun e w'=>e = .returned (.agg #[a,b,c])/\Ext w w':=by
 have HA:=hid ha;have HB:=hid hb;have HC:=hid hc;clear ha hb hc;go_enter Tryz.func187,Tryz.ntmps187;go_wp2;refine wp_region_stages [([0,1,3,4,6,7],2),([],5),([],8),([9],10)] 10 (w.heap.size+1+1) (by kernel_rfl) (by kernel_rfl) ?_;refine wpStages_cons ?_;simp only [List.filterMap_cons,List.filterMap_nil,List.getElem?_toArray,List.getElem?_cons_zero,List.getElem?_cons_succ]
 show wpQuiet _ _ _ _ [_,_,_,_,_,_] _
 repeat (go_big_quiet_step (fail))
 refine wpQuiet_nil ⟨_,rfl,fun K hK=>?_⟩;go_wp2_with fail;refine (l02N_cl HA.out _).mono ?_;rintro e w1 ⟨rfl,rfl⟩;go_wp2_with fail;refine hK _ _ (.inr (fun b _ hb=>Ext.block X_ (by simp;omega))) ?_;clear hK K;refine wpStages_cons ?_;simp only [List.filterMap_nil]
 show wpQuiet _ _ _ _ [] _
 try simp only [Act.put,List.setIfInBounds_toArray,List.set_cons_succ,List.set_cons_zero]
 refine wpQuiet_nil ⟨_,rfl,fun K hK=>?_⟩;go_wp2_with fail;refine (l02N_cl HB.out _).mono ?_;rintro e w1 ⟨rfl,rfl⟩;go_wp2_with fail;refine hK _ _ (.inr (fun b _ hb=>Ext.block X_ (by simp;omega))) ?_;clear hK K;refine wpStages_cons ?_;simp only [List.filterMap_nil]
 show wpQuiet _ _ _ _ [] _
 try simp only [Act.put,List.setIfInBounds_toArray,List.set_cons_succ,List.set_cons_zero]
 refine wpQuiet_nil ⟨_,rfl,fun K hK=>?_⟩;go_wp2_with fail;refine (l02N_cl HC.out _).mono ?_;rintro e w1 ⟨rfl,rfl⟩;go_wp2_with fail;refine hK _ _ (.inr (fun b _ hb=>Ext.block X_ (by simp;omega))) ?_;clear hK K;refine wpStages_cons ?_;simp only [List.filterMap_cons,List.filterMap_nil,List.getElem?_toArray,List.getElem?_cons_zero,List.getElem?_cons_succ]
 show wpQuiet _ _ _ _ [_] _
 try simp only [Act.put,List.setIfInBounds_toArray,List.set_cons_succ,List.set_cons_zero]
 repeat (go_big_quiet_step (fail))
 refine wpQuiet_nil ⟨_,rfl,fun K hK=>?_⟩;go_wp2_with fail;refine hK _ _ (.inl (by trivial)) (wpStages_nil ?_);clear hK K;go_wp2;exact bodyPost_ret (v:=.agg #[a,b,c]) (by simp [results,Tryz.results187,go_sem, *]) rfl ⟨rfl,S_⟩
theorem plusFn_val {m n c:Int} (h:wrap64 (m+n)=c) (w:World):Calls Tryz.prog 264 #[m,n] w fun e w'=>e = .returned (.int .i64 c)/\w=w':=by
 go_enter Tryz.func264,Tryz.ntmps264;go_wp2;go_ret;exact ⟨ret_int h,rfl⟩
theorem overFn_val {n k c:Int} {p:Nat} (hn:I64 n) (h:fdiv n k=c) (w:World) (hp:w.cell? ⟨p,0,none⟩=some (.int .i64 k)):Calls Tryz.prog 266 #[n,.pointer (some ⟨p,0,none⟩)] w fun e w'=>e = .returned (.int .i64 c)/\w=w':=by
 have HN:=hid hn;have H:=hid h;clear hn h;go_enter Tryz.func266,Tryz.ntmps266;go_wp2_with fail;refine (iFloorDiv_val HN.out H.out _).mono ?_;rintro e w1 ⟨rfl,rfl⟩;go_wp2;go_ret;exact ⟨rfl,rfl⟩
theorem withPlus_val {x y z k l m a b c:Int} (ha:wrap64 (x+k)=a) (hb:wrap64 (y+l)=b) (hc:wrap64 (z+m)=c) (w:World) :
  Calls Tryz.prog 171 #[.agg #[x,y,z],.agg #[k,l,m],.func (.func 264) #[] #[]] w fun e w'=>e = .returned (.agg #[a,b,c])/\Ext w w':=by
 have HA:=hid ha;have HB:=hid hb;have HC:=hid hc;clear ha hb hc;go_enter Tryz.func171,Tryz.ntmps171;go_wp2;refine wp_region_stages [([0,1,2,3,4,6,7,8,9,10,12,13,14,15,16],5),([],11),([],17),([18],19)] 19 (w.heap.size+1+1+1) (by kernel_rfl) (by kernel_rfl) ?_;refine wpStages_cons ?_;simp only [List.filterMap_cons,List.filterMap_nil,List.getElem?_toArray,List.getElem?_cons_zero,List.getElem?_cons_succ]
 show wpQuiet _ _ _ _ [_,_,_,_,_,_,_,_,_,_,_,_,_,_,_] _
 repeat (go_big_quiet_step (fail))
 refine wpQuiet_nil ⟨_,rfl,fun K hK=>?_⟩;go_wp2_with fail;refine (plusFn_val HA.out _).mono ?_;rintro e w1 ⟨rfl,rfl⟩;go_wp2_with fail;refine hK _ _ (.inr (fun b _ hb=>Ext.block X_ (by simp;omega))) ?_;clear hK K;refine wpStages_cons ?_;simp only [List.filterMap_nil]
 show wpQuiet _ _ _ _ [] _
 try simp only [Act.put,List.setIfInBounds_toArray,List.set_cons_succ,List.set_cons_zero]
 refine wpQuiet_nil ⟨_,rfl,fun K hK=>?_⟩;go_wp2_with fail;refine (plusFn_val HB.out _).mono ?_;rintro e w1 ⟨rfl,rfl⟩;go_wp2_with fail;refine hK _ _ (.inr (fun b _ hb=>Ext.block X_ (by simp;omega))) ?_;clear hK K;refine wpStages_cons ?_;simp only [List.filterMap_nil]
 show wpQuiet _ _ _ _ [] _
 try simp only [Act.put,List.setIfInBounds_toArray,List.set_cons_succ,List.set_cons_zero]
 refine wpQuiet_nil ⟨_,rfl,fun K hK=>?_⟩;go_wp2_with fail;refine (plusFn_val HC.out _).mono ?_;rintro e w1 ⟨rfl,rfl⟩;go_wp2_with fail;refine hK _ _ (.inr (fun b _ hb=>Ext.block X_ (by simp;omega))) ?_;clear hK K;refine wpStages_cons ?_;simp only [List.filterMap_cons,List.filterMap_nil,List.getElem?_toArray,List.getElem?_cons_zero,List.getElem?_cons_succ]
 show wpQuiet _ _ _ _ [_] _
 try simp only [Act.put,List.setIfInBounds_toArray,List.set_cons_succ,List.set_cons_zero]
 repeat (go_big_quiet_step (fail))
 refine wpQuiet_nil ⟨_,rfl,fun K hK=>?_⟩;go_wp2_with fail;refine hK _ _ (.inl (by trivial)) (wpStages_nil ?_);clear hK K;go_wp2;exact bodyPost_ret (v:=.agg #[a,b,c]) (by simp [results,Tryz.results171,go_sem, *]) rfl ⟨rfl,S_⟩
theorem plus_val {x y z k l m a b c:Int} (ha:wrap64 (x+k)=a) (hb:wrap64 (y+l)=b) (hc:wrap64 (z+m)=c) (w:World) :
  Calls Tryz.prog 220 #[.agg #[x,y,z],.agg #[k,l,m]] w fun e w'=>e = .returned (.agg #[a,b,c])/\Ext w w':=by
 have HA:=hid ha;have HB:=hid hb;have HC:=hid hc;clear ha hb hc;go_enter Tryz.func220,Tryz.ntmps220;go_wp2_with fail;refine (withPlus_val HA.out HB.out HC.out _).mono ?_;rintro e w1 ⟨rfl,h1⟩;obtain ⟨c1,f1⟩:=h1.cells;have z1:=h1.size;simp only [World.size_alloc] at z1
 have q2:w.heap.size+1+1<w1.heap.size:=by omega
 have E1:Ext w w1:=Ext.trans X_ h1;go_wp2;exact bodyPost_ret (v:=.agg #[a,b,c]) (by simp [results,Tryz.results220,go_sem, *]) rfl ⟨rfl,S_⟩
theorem eachOver_val {x y z a b c k:Int} {p:Nat} (hx:I64 x) (hy:I64 y) (hz:I64 z) (ha:fdiv x k=a) (hb:fdiv y k=b) (hc:fdiv z k=c) (w:World) (hp:w.cell? ⟨p,0,none⟩=some (.int .i64 k)) (hlt:p<w.heap.size) :
  Calls Tryz.prog 231 #[.agg #[x,y,z],.func (.func 266) #[] #[.pointer (some ⟨p,0,none⟩)]] w fun e w'=>e = .returned (.agg #[a,b,c])/\Ext w w':=by
 have HA:=hid ha;have HB:=hid hb;have HC:=hid hc;have KX:=hid hx;have KY:=hid hy;have KZ:=hid hz;have HP:=hid hp;clear ha hb hc hx hy hz hp;go_enter Tryz.func231,Tryz.ntmps231;go_wp2;refine wp_region_stages [([0,1,2,4,5,6,8,9,10],3),([],7),([],11),([12],13)] 13 (w.heap.size+1+1) (by kernel_rfl) (by kernel_rfl) ?_;refine wpStages_cons ?_;simp only [List.filterMap_cons,List.filterMap_nil,List.getElem?_toArray,List.getElem?_cons_zero,List.getElem?_cons_succ]
 show wpQuiet _ _ _ _ [_,_,_,_,_,_,_,_,_] _
 repeat (go_big_quiet_step (fail))
 refine wpQuiet_nil ⟨_,rfl,fun K hK=>?_⟩;go_wp2_with fail;refine (overFn_val KX.out HA.out _ ((Ext.cells (w:=w) X_).1 _ _ hlt |>.trans HP.out)).mono ?_;rintro e w1 ⟨rfl,rfl⟩;go_wp2_with fail;refine hK _ _ (.inr (fun b _ hb=>Ext.block X_ (by simp;omega))) ?_;clear hK K;refine wpStages_cons ?_;simp only [List.filterMap_nil]
 show wpQuiet _ _ _ _ [] _
 try simp only [Act.put,List.setIfInBounds_toArray,List.set_cons_succ,List.set_cons_zero]
 refine wpQuiet_nil ⟨_,rfl,fun K hK=>?_⟩;go_wp2_with fail;refine (overFn_val KY.out HB.out _ ((Ext.cells (w:=w) X_).1 _ _ hlt |>.trans HP.out)).mono ?_;rintro e w1 ⟨rfl,rfl⟩;go_wp2_with fail;refine hK _ _ (.inr (fun b _ hb=>Ext.block X_ (by simp;omega))) ?_;clear hK K;refine wpStages_cons ?_;simp only [List.filterMap_nil]
 show wpQuiet _ _ _ _ [] _
 try simp only [Act.put,List.setIfInBounds_toArray,List.set_cons_succ,List.set_cons_zero]
 refine wpQuiet_nil ⟨_,rfl,fun K hK=>?_⟩;go_wp2_with fail;refine (overFn_val KZ.out HC.out _ ((Ext.cells (w:=w) X_).1 _ _ hlt |>.trans HP.out)).mono ?_;rintro e w1 ⟨rfl,rfl⟩;go_wp2_with fail;refine hK _ _ (.inr (fun b _ hb=>Ext.block X_ (by simp;omega))) ?_;clear hK K;refine wpStages_cons ?_;simp only [List.filterMap_cons,List.filterMap_nil,List.getElem?_toArray,List.getElem?_cons_zero,List.getElem?_cons_succ]
 show wpQuiet _ _ _ _ [_] _
 try simp only [Act.put,List.setIfInBounds_toArray,List.set_cons_succ,List.set_cons_zero]
 repeat (go_big_quiet_step (fail))
 refine wpQuiet_nil ⟨_,rfl,fun K hK=>?_⟩;go_wp2_with fail;refine hK _ _ (.inl (by trivial)) (wpStages_nil ?_);clear hK K;go_wp2;exact bodyPost_ret (v:=.agg #[a,b,c]) (by simp [results,Tryz.results231,go_sem, *]) rfl ⟨rfl,S_⟩
theorem over_val {x y z a b c k:Int} (hx:I64 x) (hy:I64 y) (hz:I64 z) (ha:fdiv x k=a) (hb:fdiv y k=b) (hc:fdiv z k=c) (w:World) :
  Calls Tryz.prog 222 #[.agg #[x,y,z],k] w fun e w'=>e = .returned (.agg #[a,b,c])/\Ext w w':=by
 have HA:=hid ha;have HB:=hid hb;have HC:=hid hc;have KX:=hid hx;have KY:=hid hy;have KZ:=hid hz;clear ha hb hc hx hy hz;have hmf:∀(fn:Fn) (first cap:Array Value) (w:World),(Instr.makeFunc fn first cap).run Tryz.prog w = .ok (.func fn first cap) w:=fun _ _ _ _=>rfl;go_enter Tryz.func222,Tryz.ntmps222;go_wp2_with fail;refine (eachOver_val KX.out KY.out KZ.out HA.out HB.out HC.out _ (by simp [go_sem]) (by simp)).mono ?_;rintro e w1 ⟨rfl,h1⟩;obtain ⟨c1,f1⟩:=h1.cells;have z1:=h1.size;simp only [World.size_alloc] at z1
 have q2:w.heap.size+1+1<w1.heap.size:=by omega
 have E1:Ext w w1:=Ext.trans X_ h1;go_wp2;exact bodyPost_ret (v:=.agg #[a,b,c]) (by simp [results,Tryz.results222,go_sem, *]) rfl ⟨rfl,S_⟩
def addC (x k:Int):Int:=cl (cl x+cl k)
theorem cl_bd (n:Int) : -1000000<=cl n/\cl n<=1000000:=by
 unfold cl clampI
 split
 ·omega
 ·split <;> omega
theorem sAdd_val {x y z k l m a b c:Int} (ha:addC x k=a) (hb:addC y l=b) (hc:addC z m=c) (w:World) :
  Calls Tryz.prog 294 #[.agg #[x,y,z],.agg #[k,l,m]] w fun e w'=>e = .returned (.agg #[a,b,c])/\Ext w w':=by
 obtain ⟨x1,ex1⟩:∃n,cl x=n:=⟨_,rfl⟩
 obtain ⟨y1,ey1⟩:∃n,cl k=n:=⟨_,rfl⟩
 have bx1:=cl_bd x;have by1:=cl_bd k;unfold addC at ha;rw [ex1] at bx1 ha;rw [ey1] at by1 ha;have X1:=hid ex1;have Y1:=hid ey1;have S1:=hid (show wrap64 (x1+y1)=x1+y1 from wrap_small (by omega) (by omega));have HA:=hid ha;clear ex1 ey1 ha
 obtain ⟨x2,ex2⟩:∃n,cl y=n:=⟨_,rfl⟩
 obtain ⟨y2,ey2⟩:∃n,cl l=n:=⟨_,rfl⟩
 have bx2:=cl_bd y;have by2:=cl_bd l;unfold addC at hb;rw [ex2] at bx2 hb;rw [ey2] at by2 hb;have X2:=hid ex2;have Y2:=hid ey2;have S2:=hid (show wrap64 (x2+y2)=x2+y2 from wrap_small (by omega) (by omega));have HB:=hid hb;clear ex2 ey2 hb
 obtain ⟨x3,ex3⟩:∃n,cl z=n:=⟨_,rfl⟩
 obtain ⟨y3,ey3⟩:∃n,cl m=n:=⟨_,rfl⟩
 have bx3:=cl_bd z;have by3:=cl_bd m;unfold addC at hc;rw [ex3] at bx3 hc;rw [ey3] at by3 hc;have X3:=hid ex3;have Y3:=hid ey3;have S3:=hid (show wrap64 (x3+y3)=x3+y3 from wrap_small (by omega) (by omega));have HC:=hid hc;clear ex3 ey3 hc;go_enter Tryz.func294,Tryz.ntmps294;go_wp2_with fail;refine (l02V_val X1.out X2.out X3.out _).mono ?_;rintro e w1 ⟨rfl,h1⟩;obtain ⟨c1,f1⟩:=h1.cells;have z1:=h1.size;simp only [World.size_alloc] at z1
 have q1:w.heap.size<w1.heap.size:=by omega
 have q2:w.heap.size+1<w1.heap.size:=by omega
 have q3:w.heap.size+1+1<w1.heap.size:=by omega
 have E1:Ext w w1:=Ext.trans X_ h1;go_wp2_with fail;refine (l02V_val Y1.out Y2.out Y3.out _).mono ?_;rintro e w2 ⟨rfl,h2⟩;obtain ⟨c2,f2⟩:=h2.cells;have z2:=h2.size;simp only [World.size_alloc] at z2
 have q4:w1.heap.size<w2.heap.size:=by omega
 have q5:w.heap.size+1<w2.heap.size:=by omega
 have q6:w.heap.size+1+1<w2.heap.size:=by omega
 have E2:Ext w w2:=E1.trans (Ext.trans X_ h2);go_wp2_with fail;refine (l02V_val HA.out HB.out HC.out _).mono ?_;rintro e w3 ⟨rfl,h3⟩;obtain ⟨c3,f3⟩:=h3.cells;have z3:=h3.size;simp only [World.size_alloc] at z3
 have q7:w.heap.size+1+1<w3.heap.size:=by omega
 have E3:Ext w w3:=E2.trans (Ext.trans X_ h3);go_wp2;exact bodyPost_ret (v:=.agg #[a,b,c]) (by simp [results,Tryz.results294,go_sem, *]) rfl ⟨rfl,S_⟩
def dotC (x y z k l m:Int):Int:=cl x*cl k+cl y*cl l+cl z*cl m
theorem mul_range {a b:Int} (h1 : -1000000<=a) (h2:a<=1000000) (h3 : -1000000<=b) (h4:b<=1000000) : -1000000000000<=a*b/\a*b<=1000000000000:=by
 have k1:=Int.mul_nonneg (show 0<=1000000 - a by omega) (show 0<=1000000 - b by omega);have k2:=Int.mul_nonneg (show 0<=1000000+a by omega) (show 0<=1000000+b by omega);have k3:=Int.mul_nonneg (show 0<=1000000 - a by omega) (show 0<=1000000+b by omega);have k4:=Int.mul_nonneg (show 0<=1000000+a by omega) (show 0<=1000000 - b by omega);simp only [Int.sub_mul,Int.mul_sub,Int.add_mul,Int.mul_add] at k1 k2 k3 k4;omega
def okVec (x y z:Int):Bool:=inB x (-1000000) 1000000&&inB y (-1000000) 1000000&&inB z (-1000000) 1000000
theorem cl_fix (n:Int):(n=cl n)↔inB n (-1000000) 1000000=true:=by
 rw [inB_iff];unfold cl clampI
 split
 ·omega
 ·split <;> omega
theorem run_eqVec (x y z a b c:Int) (w:World):(binOp .eql 37 (.agg #[x,y,z]) (.agg #[a,b,c])).run Tryz.prog w = .ok (.bool (decide (x=a)&&(decide (y=b)&&decide (z=c)))) w:=by
 by_cases h1:x=a
 ·by_cases h2:y=b
  ·by_cases h3:z=c <;> simp [go_sem,Tryz.underlying37,Tryz.stoodInHeld37,Tryz.underlying3,h1,h2,h3]
  ·simp [go_sem,Tryz.underlying37,Tryz.stoodInHeld37,Tryz.underlying3,h1,h2]
 ·simp [go_sem,Tryz.underlying37,Tryz.stoodInHeld37,Tryz.underlying3,h1]
theorem okVec_eq (x y z:Int):(decide (x=cl x)&&(decide (y=cl y)&&decide (z=cl z)))=okVec x y z:=by
 simp only [cl_fix,okVec,Bool.decide_eq_true,Bool.and_assoc]
theorem iIsValidVec_val {x y z:Int} (w:World) :
  Calls Tryz.prog 113 #[.agg #[x,y,z]] w fun e w'=>e = .returned (.bool (okVec x y z))/\Ext w w':=by
 obtain ⟨a,ha⟩:∃a,cl x=a:=⟨_,rfl⟩
 obtain ⟨b,hb⟩:∃a,cl y=a:=⟨_,rfl⟩
 obtain ⟨c,hc⟩:∃a,cl z=a:=⟨_,rfl⟩
 have HA:=hid ha;have HB:=hid hb;have HC:=hid hc;have HO:=hid (show (decide (x=a)&&(decide (y=b)&&decide (z=c)))=okVec x y z by rw [<-ha,<-hb,<-hc];exact okVec_eq x y z);clear ha hb hc;have hq:=fun w=>run_eqVec x y z a b c w;go_enter Tryz.func113,Tryz.ntmps113;go_wp2;refine wp_region_ext (by kernel_rfl) (by kernel_rfl) ?_
 repeat (go_big_quiet_step ((go_at_call 168;exact grow_call (clamped_val HA.out HB.out HC.out _))))
 refine wpQuiet_nil ?_;intro w1 h1;go_wp2;go_ret;exact ⟨ret_bool HO.out,Ext.trans X_ h1⟩
theorem sIsValidVec_val {x y z:Int} (w:World) :
  Calls Tryz.prog 186 #[.agg #[x,y,z]] w fun e w'=>e = .returned (.bool (okVec x y z))/\Ext w w':=by
 obtain ⟨a,ha⟩:∃a,cl x=a:=⟨_,rfl⟩
 obtain ⟨b,hb⟩:∃a,cl y=a:=⟨_,rfl⟩
 obtain ⟨c,hc⟩:∃a,cl z=a:=⟨_,rfl⟩
 have HA:=hid ha;have HB:=hid hb;have HC:=hid hc;have HO:=hid (show (decide (x=a)&&(decide (y=b)&&decide (z=c)))=okVec x y z by rw [<-ha,<-hb,<-hc];exact okVec_eq x y z);clear ha hb hc;have hq:=fun w=>run_eqVec x y z a b c w;go_enter Tryz.func186,Tryz.ntmps186;go_wp2;refine wp_region_ext (by kernel_rfl) (by kernel_rfl) ?_
 repeat (go_big_quiet_step ((go_at_call 187;exact grow_call (l02V_val HA.out HB.out HC.out _))))
 refine wpQuiet_nil ?_;intro w1 h1;go_wp2;go_ret;exact ⟨ret_bool HO.out,Ext.trans X_ h1⟩
structure Xf where
 (m0 m1 m2 m3 m4 m5 m6 m7 m8 x y z:Int)
def Xf.ms (t:Xf):List Int:=[t.m0,t.m1,t.m2,t.m3,t.m4,t.m5,t.m6,t.m7,t.m8]
def Xf.V (t:Xf):Value:=.agg #[t.m0,t.m1,t.m2,t.m3,t.m4,t.m5,t.m6,t.m7,t.m8,t.x,t.y,t.z]
def Xf.ok (t:Xf):Bool:=t.ms.all (fun n=>inB n (-64) 64)&&okVec t.x t.y t.z
def Xf.I (t:Xf):Prop:=(∀n∈t.ms,I64 n)/\I64 t.x/\I64 t.y/\I64 t.z
theorem sIsValidTransform_val (t:Xf) (w:World) :
  Calls Tryz.prog 293 #[t.V] w fun e w'=>e = .returned (.bool t.ok)/\Ext w w':=by
 obtain ⟨m0,m1,m2,m3,m4,m5,m6,m7,m8,x,y,z⟩:=t;unfold Xf.V
 have i0:∀w:World,(Instr.index 224 (.agg #[m0,m1,m2,m3,m4,m5,m6,m7,m8]) (.int .i64 0)).run Tryz.prog w = .ok (.int .i64 m0) w:=fun _=>by kernel_rfl
 have i1:∀w:World,(Instr.index 224 (.agg #[m0,m1,m2,m3,m4,m5,m6,m7,m8]) (.int .i64 1)).run Tryz.prog w = .ok (.int .i64 m1) w:=fun _=>by kernel_rfl
 have i2:∀w:World,(Instr.index 224 (.agg #[m0,m1,m2,m3,m4,m5,m6,m7,m8]) (.int .i64 2)).run Tryz.prog w = .ok (.int .i64 m2) w:=fun _=>by kernel_rfl
 have i3:∀w:World,(Instr.index 224 (.agg #[m0,m1,m2,m3,m4,m5,m6,m7,m8]) (.int .i64 3)).run Tryz.prog w = .ok (.int .i64 m3) w:=fun _=>by kernel_rfl
 have i4:∀w:World,(Instr.index 224 (.agg #[m0,m1,m2,m3,m4,m5,m6,m7,m8]) (.int .i64 4)).run Tryz.prog w = .ok (.int .i64 m4) w:=fun _=>by kernel_rfl
 have i5:∀w:World,(Instr.index 224 (.agg #[m0,m1,m2,m3,m4,m5,m6,m7,m8]) (.int .i64 5)).run Tryz.prog w = .ok (.int .i64 m5) w:=fun _=>by kernel_rfl
 have i6:∀w:World,(Instr.index 224 (.agg #[m0,m1,m2,m3,m4,m5,m6,m7,m8]) (.int .i64 6)).run Tryz.prog w = .ok (.int .i64 m6) w:=fun _=>by kernel_rfl
 have i7:∀w:World,(Instr.index 224 (.agg #[m0,m1,m2,m3,m4,m5,m6,m7,m8]) (.int .i64 7)).run Tryz.prog w = .ok (.int .i64 m7) w:=fun _=>by kernel_rfl
 have i8:∀w:World,(Instr.index 224 (.agg #[m0,m1,m2,m3,m4,m5,m6,m7,m8]) (.int .i64 8)).run Tryz.prog w = .ok (.int .i64 m8) w:=fun _=>by kernel_rfl
 go_enter Tryz.func293,Tryz.ntmps293;go_wp2
 go_loop [7] (fun i=>∃k:Nat,k<=9/\i = .int .i64 k/\([m0,m1,m2,m3,m4,m5,m6,m7,m8].take k).all (fun n=>inB n (-64) 64)=true) (fun i=>9 - (intOf i).toNat)
 case atStart=>exact ⟨0,by omega,rfl,rfl⟩
 case round=>
  obtain ⟨k,hk,rfl,hall⟩:=hrel;have HA:=hid hall;clear hall
  by_cases hlt:k<9
  ·have hc:k=0\/k=1\/k=2\/k=3\/k=4\/k=5\/k=6\/k=7\/k=8:=by omega
   rcases hc with h|h|h|h|h|h|h|h|h <;> subst h
   all_goals go_wp2_with (go_at_call 70;refine (l01In_any _ _ _ _).mono ?_;rintro e w' ⟨rfl,rfl⟩)
   all_goals first
    | (go_ret;exact ⟨ret_bool (by rename_i hb;simp at hb;simp [Xf.ok,Xf.ms,hb]),X_⟩)
    | exact ⟨⟨1,by omega,rfl,by have h:=HA.out;simp at h;rename_i hb;simp at hb;simp [h,hb]⟩,by simp [intOf]⟩
    | exact ⟨⟨2,by omega,rfl,by have h:=HA.out;simp at h;rename_i hb;simp at hb;simp [h,hb]⟩,by simp [intOf]⟩
    | exact ⟨⟨3,by omega,rfl,by have h:=HA.out;simp at h;rename_i hb;simp at hb;simp [h,hb]⟩,by simp [intOf]⟩
    | exact ⟨⟨4,by omega,rfl,by have h:=HA.out;simp at h;rename_i hb;simp at hb;simp [h,hb]⟩,by simp [intOf]⟩
    | exact ⟨⟨5,by omega,rfl,by have h:=HA.out;simp at h;rename_i hb;simp at hb;simp [h,hb]⟩,by simp [intOf]⟩
    | exact ⟨⟨6,by omega,rfl,by have h:=HA.out;simp at h;rename_i hb;simp at hb;simp [h,hb]⟩,by simp [intOf]⟩
    | exact ⟨⟨7,by omega,rfl,by have h:=HA.out;simp at h;rename_i hb;simp at hb;simp [h,hb]⟩,by simp [intOf]⟩
    | exact ⟨⟨8,by omega,rfl,by have h:=HA.out;simp at h;rename_i hb;simp at hb;simp [h,hb]⟩,by simp [intOf]⟩
    | exact ⟨⟨9,by omega,rfl,by have h:=HA.out;simp at h;rename_i hb;simp at hb;simp [h,hb]⟩,by simp [intOf]⟩
  ·go_wp2_with fail
   refine (sIsValidVec_val _).mono ?_;rintro e w2 ⟨rfl,h2⟩;go_wp2;go_ret
   obtain rfl:k=9:=by omega
   exact ⟨ret_bool (by have:=HA.out;simp only [Xf.ok,Xf.ms];rw [show ([m0,m1,m2,m3,m4,m5,m6,m7,m8].all fun n=>inB n (-64) 64)=true from this,Bool.true_and]),Ext.trans X_ h2⟩
def appC (a b c o x y z:Int):Int:=addC (fdiv (dotC a b c x y z) 16) o
theorem sApply_no (m0 m1 m2 m3 m4 m5 m6 m7 m8 o1 o2 o3 x y z:Int) (hok:(⟨m0,m1,m2,m3,m4,m5,m6,m7,m8,o1,o2,o3⟩:Xf).ok=false) (w:World) :
  Calls Tryz.prog 261 #[(⟨m0,m1,m2,m3,m4,m5,m6,m7,m8,o1,o2,o3⟩:Xf).V,.agg #[x,y,z]] w fun e w'=>e = .returned (.agg #[x,y,z])/\Ext w w':=by
 have HV:=hid (sIsValidTransform_val ⟨m0,m1,m2,m3,m4,m5,m6,m7,m8,o1,o2,o3⟩);rw [hok] at HV;clear hok;unfold Xf.V at HV ⊢;simp only at HV ⊢;go_enter Tryz.func261,Tryz.ntmps261;go_wp2_with fail;refine (HV.out _).mono ?_;rintro e w1 ⟨rfl,h1⟩;obtain ⟨c1,f1⟩:=h1.cells;have z1:=h1.size;simp only [World.size_alloc] at z1;have E1:Ext w w1:=Ext.trans X_ h1
 have q1:w.heap.size<w1.heap.size:=by omega
 have q2:w.heap.size+1<w1.heap.size:=by omega
 have q3:w.heap.size+1+1<w1.heap.size:=by omega
 go_wp2;exact bodyPost_ret (v:=.agg #[x,y,z]) (by simp [results,Tryz.results261,go_sem, *]) rfl ⟨rfl,S_⟩
theorem mulC_range {a b:Int} (h1 : -64<=a) (h2:a<=64) (h3 : -1000000<=b) (h4:b<=1000000) : -1000000000000<=a*b/\a*b<=1000000000000:=mul_range (by omega) (by omega) h3 h4
theorem cl_in {n:Int} (h:inB n (-64) 64=true):cl n=n:=by
 rw [inB_iff] at h;unfold cl clampI;rw [if_neg (by omega),if_neg (by omega)]
structure ASt (w wr:World) (A:Nat) (m0 m1 m2 m3 m4 m5 m6 m7 m8 o1 o2 o3 yx yy yz p0 p1 p2:Int):Prop where
 ext:Ext w wr
 pos:w.heap.size+1+1<A
 size:A+1<wr.heap.size
 t0:wr.cell? ⟨w.heap.size,0,none⟩=some (.int .i64 m0)
 t1:wr.cell? ⟨w.heap.size,1,none⟩=some (.int .i64 m1)
 t2:wr.cell? ⟨w.heap.size,2,none⟩=some (.int .i64 m2)
 t3:wr.cell? ⟨w.heap.size,3,none⟩=some (.int .i64 m3)
 t4:wr.cell? ⟨w.heap.size,4,none⟩=some (.int .i64 m4)
 t5:wr.cell? ⟨w.heap.size,5,none⟩=some (.int .i64 m5)
 t6:wr.cell? ⟨w.heap.size,6,none⟩=some (.int .i64 m6)
 t7:wr.cell? ⟨w.heap.size,7,none⟩=some (.int .i64 m7)
 t8:wr.cell? ⟨w.heap.size,8,none⟩=some (.int .i64 m8)
 t9:wr.cell? ⟨w.heap.size,9,none⟩=some (.int .i64 o1)
 t10:wr.cell? ⟨w.heap.size,10,none⟩=some (.int .i64 o2)
 t11:wr.cell? ⟨w.heap.size,11,none⟩=some (.int .i64 o3)
 y0:wr.cell? ⟨A,0,none⟩=some (.int .i64 yx)
 y1:wr.cell? ⟨A,1,none⟩=some (.int .i64 yy)
 y2:wr.cell? ⟨A,2,none⟩=some (.int .i64 yz)
 p0:wr.cell? ⟨A+1,0,none⟩=some (.int .i64 p0)
 p1:wr.cell? ⟨A+1,1,none⟩=some (.int .i64 p1)
 p2:wr.cell? ⟨A+1,2,none⟩=some (.int .i64 p2)
 f0:wr.frozen? ⟨A+1,0,none⟩=false
 f1:wr.frozen? ⟨A+1,1,none⟩=false
 f2:wr.frozen? ⟨A+1,2,none⟩=false
 r0:wr.cell? ⟨w.heap.size+1+1,0,none⟩=some (.int .i64 0)
 r1:wr.cell? ⟨w.heap.size+1+1,1,none⟩=some (.int .i64 0)
 r2:wr.cell? ⟨w.heap.size+1+1,2,none⟩=some (.int .i64 0)
 g0:wr.frozen? ⟨w.heap.size+1+1,0,none⟩=false
 g1:wr.frozen? ⟨w.heap.size+1+1,1,none⟩=false
 g2:wr.frozen? ⟨w.heap.size+1+1,2,none⟩=false
theorem sApply_ok (m0 m1 m2 m3 m4 m5 m6 m7 m8 o1 o2 o3 x y z:Int) (hok:(⟨m0,m1,m2,m3,m4,m5,m6,m7,m8,o1,o2,o3⟩:Xf).ok=true) (w:World) :
  Calls Tryz.prog 261 #[(⟨m0,m1,m2,m3,m4,m5,m6,m7,m8,o1,o2,o3⟩:Xf).V,.agg #[x,y,z]] w fun e w'=>e = .returned (.agg #[(appC m0 m1 m2 o1 x y z),(appC m3 m4 m5 o2 x y z),(appC m6 m7 m8 o3 x y z)])/\Ext w w':=by
 have hb:inB m0 (-64) 64=true/\inB m1 (-64) 64=true/\inB m2 (-64) 64=true/\inB m3 (-64) 64=true/\inB m4 (-64) 64=true/\inB m5 (-64) 64=true/\inB m6 (-64) 64=true/\inB m7 (-64) 64=true/\inB m8 (-64) 64=true:=by
  simp [Xf.ok,Xf.ms] at hok;simp only [hok,and_self]
 have HV:=hid (sIsValidTransform_val ⟨m0,m1,m2,m3,m4,m5,m6,m7,m8,o1,o2,o3⟩);rw [hok] at HV;clear hok;unfold Xf.V at HV ⊢;simp only at HV ⊢
 obtain ⟨yx,eyx⟩:∃n,cl x=n:=⟨_,rfl⟩
 have byx:=cl_bd x;rw [eyx] at byx
 obtain ⟨yy,eyy⟩:∃n,cl y=n:=⟨_,rfl⟩
 have byy:=cl_bd y;rw [eyy] at byy
 obtain ⟨yz,eyz⟩:∃n,cl z=n:=⟨_,rfl⟩
 have byz:=cl_bd z;rw [eyz] at byz;obtain ⟨hb0,hb1,hb2,hb3,hb4,hb5,hb6,hb7,hb8⟩:=hb;simp only [appC,dotC,cl_in hb0,cl_in hb1,cl_in hb2,cl_in hb3,cl_in hb4,cl_in hb5,cl_in hb6,cl_in hb7,cl_in hb8,eyx,eyy,eyz];have bp0:=mulC_range (inB_iff.1 hb0).1 (inB_iff.1 hb0).2 byx.1 byx.2
 obtain ⟨P0,eP0⟩:∃n,m0*yx=n:=⟨_,rfl⟩
 rw [eP0] at bp0 ⊢;have bp1:=mulC_range (inB_iff.1 hb1).1 (inB_iff.1 hb1).2 byy.1 byy.2
 obtain ⟨P1,eP1⟩:∃n,m1*yy=n:=⟨_,rfl⟩
 rw [eP1] at bp1 ⊢;have bp2:=mulC_range (inB_iff.1 hb2).1 (inB_iff.1 hb2).2 byz.1 byz.2
 obtain ⟨P2,eP2⟩:∃n,m2*yz=n:=⟨_,rfl⟩
 rw [eP2] at bp2 ⊢;have bp3:=mulC_range (inB_iff.1 hb3).1 (inB_iff.1 hb3).2 byx.1 byx.2
 obtain ⟨P3,eP3⟩:∃n,m3*yx=n:=⟨_,rfl⟩
 rw [eP3] at bp3 ⊢;have bp4:=mulC_range (inB_iff.1 hb4).1 (inB_iff.1 hb4).2 byy.1 byy.2
 obtain ⟨P4,eP4⟩:∃n,m4*yy=n:=⟨_,rfl⟩
 rw [eP4] at bp4 ⊢;have bp5:=mulC_range (inB_iff.1 hb5).1 (inB_iff.1 hb5).2 byz.1 byz.2
 obtain ⟨P5,eP5⟩:∃n,m5*yz=n:=⟨_,rfl⟩
 rw [eP5] at bp5 ⊢;have bp6:=mulC_range (inB_iff.1 hb6).1 (inB_iff.1 hb6).2 byx.1 byx.2
 obtain ⟨P6,eP6⟩:∃n,m6*yx=n:=⟨_,rfl⟩
 rw [eP6] at bp6 ⊢;have bp7:=mulC_range (inB_iff.1 hb7).1 (inB_iff.1 hb7).2 byy.1 byy.2
 obtain ⟨P7,eP7⟩:∃n,m7*yy=n:=⟨_,rfl⟩
 rw [eP7] at bp7 ⊢;have bp8:=mulC_range (inB_iff.1 hb8).1 (inB_iff.1 hb8).2 byz.1 byz.2
 obtain ⟨P8,eP8⟩:∃n,m8*yz=n:=⟨_,rfl⟩
 rw [eP8] at bp8 ⊢
 obtain ⟨q0,eq0⟩:∃n,fdiv (P0+P1+P2) 16=n:=⟨_,rfl⟩
 rw [eq0];have Q0:=hid eq0
 obtain ⟨q1,eq1⟩:∃n,fdiv (P3+P4+P5) 16=n:=⟨_,rfl⟩
 rw [eq1];have Q1:=hid eq1
 obtain ⟨q2,eq2⟩:∃n,fdiv (P6+P7+P8) 16=n:=⟨_,rfl⟩
 rw [eq2];have Q2:=hid eq2
 obtain ⟨a,ea⟩:∃n,addC q0 o1=n:=⟨_,rfl⟩
 rw [ea];have HA:=hid ea
 obtain ⟨b,eb⟩:∃n,addC q1 o2=n:=⟨_,rfl⟩
 rw [eb];have HB:=hid eb
 obtain ⟨c,ec⟩:∃n,addC q2 o3=n:=⟨_,rfl⟩
 rw [ec];have HC:=hid ec;have Hyx:=hid eyx;have Hyy:=hid eyy;have Hyz:=hid eyz;clear hb0 hb1 hb2 hb3 hb4 hb5 hb6 hb7 hb8 eyx eyy eyz eq0 eq1 eq2 ea eb ec;go_enter Tryz.func261,Tryz.ntmps261;go_wp2_with fail;refine (HV.out _).mono ?_;rintro e w1 ⟨rfl,h1⟩;obtain ⟨c1,f1⟩:=h1.cells;have z1:=h1.size;simp only [World.size_alloc] at z1;have E1:Ext w w1:=Ext.trans X_ h1
 have k1:w.heap.size<w1.heap.size:=by omega
 have k2:w.heap.size+1<w1.heap.size:=by omega
 have k3:w.heap.size+1+1<w1.heap.size:=by omega
 go_wp2_with fail;refine (l02V_val Hyx.out Hyy.out Hyz.out _).mono ?_;rintro e w2 ⟨rfl,h2⟩;obtain ⟨c2,f2⟩:=h2.cells;have z2:=h2.size
 have k4:w.heap.size<w2.heap.size:=by omega
 have k5:w.heap.size+1<w2.heap.size:=by omega
 have k6:w.heap.size+1+1<w2.heap.size:=by omega
 have E2:Ext w w2:=E1.trans h2;go_wp2_with fail
 go_loopw [17] (fun i wr=>∃(k:Nat) (p0 p1 p2:Int),k<=3/\i = .int .i64 k/\ASt w wr w2.heap.size m0 m1 m2 m3 m4 m5 m6 m7 m8 o1 o2 o3 yx yy yz p0 p1 p2/\p0=(if 0<k then q0 else 0)/\p1=(if 1<k then q1 else 0)/\p2=(if 2<k then q2 else 0)) (fun i _=>3 - (intOf i).toNat)
 case atStart=>
  refine ⟨0,0,0,0,by omega,rfl,?_,rfl,rfl,rfl⟩
  constructor
  all_goals first
   | exact (E2.alloc _).alloc _
   | omega
   | (simp;done)
   | (simp [go_sem, *];done)
 case round=>
  clear c1 f1 c2 f2 h1 h2 E1 E2;obtain ⟨k,p0,p1,p2,hk,rfl,hs,e0,e1,e2⟩:=hrel;have HS:=hid hs;obtain ⟨hE,hpos,hsz,t0,t1,t2,t3,t4,t5,t6,t7,t8,t9,t10,t11,y0,y1,y2,u0,u1,u2,f0,f1,f2,r0,r1,r2,g0,g1,g2⟩:=hs
  have n0:w.heap.size<wr.heap.size:=by omega
  have n1:w2.heap.size<wr.heap.size:=by omega
  have n2:w2.heap.size+1<wr.heap.size:=by omega
  by_cases hlt:k<3
  ·have hc:k=0\/k=1\/k=2:=by omega
   rcases hc with h|h|h <;> subst h
   all_goals simp at e0 e1 e2
   all_goals subst p0 p1 p2
   ·go_wp2
    refine wp_region_stages [([0,1,2,3,4,5,6,7,8,9,10,11,12,13,14,15,16,17,18,19,20,21,22,23,24,25,26,27,28,29],30),([31],32)] 32 wr.heap.size (by kernel_rfl) (by kernel_rfl) ?_;refine wpStages_cons ?_;simp only [List.filterMap_cons,List.filterMap_nil,List.getElem?_toArray,List.getElem?_cons_zero,List.getElem?_cons_succ]
    show wpQuiet _ _ _ _ [_,_,_,_,_,_,_,_,_,_,_,_,_,_,_,_,_,_,_,_,_,_,_,_,_,_,_,_,_,_] _
    repeat (go_big_quiet_step (fail))
    refine wpQuiet_nil ⟨_,rfl,fun K hK=>?_⟩;go_wp2_with fail;refine (sFloorDiv_val (I64.mk (by omega) (by omega)) Q0.out _).mono ?_;rintro e w3 ⟨rfl,rfl⟩;go_wp2_with fail;refine hK _ _ (.inr (fun b _ hb=>Ext.block X_ hb)) ?_;clear hK K;refine wpStages_cons ?_;simp only [List.filterMap_cons,List.filterMap_nil,List.getElem?_toArray,List.getElem?_cons_zero,List.getElem?_cons_succ]
    show wpQuiet _ _ _ _ [_] _
    try simp only [Act.put,List.setIfInBounds_toArray,List.set_cons_succ,List.set_cons_zero]
    repeat (go_big_quiet_step (fail))
    refine wpQuiet_nil ⟨_,rfl,fun K hK=>?_⟩;go_wp2_with fail;refine hK _ _ (.inl (by trivial)) (wpStages_nil ?_);clear hK K;go_wp2;go_roundw
    case rel=>
     refine ⟨1,q0,0,0,by omega,by go_num,?_,by simp,by simp,by simp⟩
     have hA:w.heap.size<=w2.heap.size+1:=by omega
     constructor
     case ext=>exact Ext.drew (by apply Ext.setCell hE;exact hA)
     all_goals first
      | omega
      | (simp [go_sem, *];done)
      | (simp;omega)
    case measure=>simp [intOf]
   ·go_wp2
    refine wp_region_stages [([0,1,2,3,4,5,6,7,8,9,10,11,12,13,14,15,16,17,18,19,20,21,22,23,24,25,26,27,28,29],30),([31],32)] 32 wr.heap.size (by kernel_rfl) (by kernel_rfl) ?_;refine wpStages_cons ?_;simp only [List.filterMap_cons,List.filterMap_nil,List.getElem?_toArray,List.getElem?_cons_zero,List.getElem?_cons_succ]
    show wpQuiet _ _ _ _ [_,_,_,_,_,_,_,_,_,_,_,_,_,_,_,_,_,_,_,_,_,_,_,_,_,_,_,_,_,_] _
    repeat (go_big_quiet_step (fail))
    refine wpQuiet_nil ⟨_,rfl,fun K hK=>?_⟩;go_wp2_with fail;refine (sFloorDiv_val (I64.mk (by omega) (by omega)) Q1.out _).mono ?_;rintro e w3 ⟨rfl,rfl⟩;go_wp2_with fail;refine hK _ _ (.inr (fun b _ hb=>Ext.block X_ hb)) ?_;clear hK K;refine wpStages_cons ?_;simp only [List.filterMap_cons,List.filterMap_nil,List.getElem?_toArray,List.getElem?_cons_zero,List.getElem?_cons_succ]
    show wpQuiet _ _ _ _ [_] _
    try simp only [Act.put,List.setIfInBounds_toArray,List.set_cons_succ,List.set_cons_zero]
    repeat (go_big_quiet_step (fail))
    refine wpQuiet_nil ⟨_,rfl,fun K hK=>?_⟩;go_wp2_with fail;refine hK _ _ (.inl (by trivial)) (wpStages_nil ?_);clear hK K;go_wp2;go_roundw
    case rel=>
     refine ⟨2,q0,q1,0,by omega,by go_num,?_,by simp,by simp,by simp⟩
     have hA:w.heap.size<=w2.heap.size+1:=by omega
     constructor
     case ext=>exact Ext.drew (by apply Ext.setCell hE;exact hA)
     all_goals first
      | omega
      | (simp [go_sem, *];done)
      | (simp;omega)
    case measure=>simp [intOf]
   ·go_wp2
    refine wp_region_stages [([0,1,2,3,4,5,6,7,8,9,10,11,12,13,14,15,16,17,18,19,20,21,22,23,24,25,26,27,28,29],30),([31],32)] 32 wr.heap.size (by kernel_rfl) (by kernel_rfl) ?_;refine wpStages_cons ?_;simp only [List.filterMap_cons,List.filterMap_nil,List.getElem?_toArray,List.getElem?_cons_zero,List.getElem?_cons_succ]
    show wpQuiet _ _ _ _ [_,_,_,_,_,_,_,_,_,_,_,_,_,_,_,_,_,_,_,_,_,_,_,_,_,_,_,_,_,_] _
    repeat (go_big_quiet_step (fail))
    refine wpQuiet_nil ⟨_,rfl,fun K hK=>?_⟩;go_wp2_with fail;refine (sFloorDiv_val (I64.mk (by omega) (by omega)) Q2.out _).mono ?_;rintro e w3 ⟨rfl,rfl⟩;go_wp2_with fail;refine hK _ _ (.inr (fun b _ hb=>Ext.block X_ hb)) ?_;clear hK K;refine wpStages_cons ?_;simp only [List.filterMap_cons,List.filterMap_nil,List.getElem?_toArray,List.getElem?_cons_zero,List.getElem?_cons_succ]
    show wpQuiet _ _ _ _ [_] _
    try simp only [Act.put,List.setIfInBounds_toArray,List.set_cons_succ,List.set_cons_zero]
    repeat (go_big_quiet_step (fail))
    refine wpQuiet_nil ⟨_,rfl,fun K hK=>?_⟩;go_wp2_with fail;refine hK _ _ (.inl (by trivial)) (wpStages_nil ?_);clear hK K;go_wp2;go_roundw
    case rel=>
     refine ⟨3,q0,q1,q2,by omega,by go_num,?_,by simp,by simp,by simp⟩
     have hA:w.heap.size<=w2.heap.size+1:=by omega
     constructor
     case ext=>exact Ext.drew (by apply Ext.setCell hE;exact hA)
     all_goals first
      | omega
      | (simp [go_sem, *];done)
      | (simp;omega)
    case measure=>simp [intOf]
  ·obtain rfl:k=3:=by omega
   simp at e0 e1 e2;subst p0 p1 p2;clear HS;go_wp2;refine wp_region_stages [([0,1,2,3,4,5,6,7,8,9,10,11],12),([],13)] 13 wr.heap.size (by kernel_rfl) (by kernel_rfl) ?_;refine wpStages_cons ?_;simp only [List.filterMap_cons,List.filterMap_nil,List.getElem?_toArray,List.getElem?_cons_zero,List.getElem?_cons_succ]
   show wpQuiet _ _ _ _ [_,_,_,_,_,_,_,_,_,_,_,_] _
   repeat (go_big_quiet_step (fail))
   refine wpQuiet_nil ⟨_,rfl,fun K hK=>?_⟩;go_wp2_with fail;refine (sAdd_val HA.out HB.out HC.out _).mono ?_;rintro e w4 ⟨rfl,h4⟩;obtain ⟨c4,f4⟩:=h4.cells;have z4:=h4.size;simp only [World.size_drew] at z4
   have n3:w.heap.size+1+1<w4.heap.size:=by omega
   have n4:w.heap.size+1+1<wr.heap.size:=by omega
   have E4:Ext w w4:=Ext.trans (Ext.drew hE) h4;have s0:=(c4 (w.heap.size+1+1) 0 n4).trans r0;have s1:=(c4 (w.heap.size+1+1) 1 n4).trans r1;have s2:=(c4 (w.heap.size+1+1) 2 n4).trans r2;have v0:=(f4 (w.heap.size+1+1) 0 n4).trans g0;have v1:=(f4 (w.heap.size+1+1) 1 n4).trans g1;have v2:=(f4 (w.heap.size+1+1) 2 n4).trans g2;go_wp2_with fail;refine hK _ _ (.inr (fun b _ hb=>Ext.block (Ext.trans X_ h4) hb)) ?_;clear hK K;refine wpStages_cons ?_;simp only [List.filterMap_nil]
   show wpQuiet _ _ _ _ [] _
   refine wpQuiet_nil ⟨_,rfl,fun K hK=>?_⟩;go_wp2_with fail;refine hK _ _ (.inl (by trivial)) (wpStages_nil ?_);clear hK K;go_wp2;exact bodyPost_ret (v:=.agg #[a,b,c]) (by simp [results,Tryz.results261,go_sem, *]) rfl ⟨rfl,S_⟩
structure V3 where
 (x y z:Int)
def V3.V (t:V3):Value:=.agg #[t.x,t.y,t.z]
def Xf.app (t:Xf) (p:V3):V3:=if t.ok then ⟨appC t.m0 t.m1 t.m2 t.x p.x p.y p.z,appC t.m3 t.m4 t.m5 t.y p.x p.y p.z,appC t.m6 t.m7 t.m8 t.z p.x p.y p.z⟩ else p
theorem sApply_val {t:Xf} {p q:V3} (h:t.app p=q) (w:World):Calls Tryz.prog 261 #[t.V,p.V] w fun e w'=>e = .returned q.V/\Ext w w':=by
 subst h;obtain ⟨m0,m1,m2,m3,m4,m5,m6,m7,m8,o1,o2,o3⟩:=t;obtain ⟨x,y,z⟩:=p
 cases hok:(⟨m0,m1,m2,m3,m4,m5,m6,m7,m8,o1,o2,o3⟩:Xf).ok
 ·rw [Xf.app,hok]
  exact sApply_no _ _ _ _ _ _ _ _ _ _ _ _ _ _ _ hok w
 ·rw [Xf.app,hok]
  exact sApply_ok _ _ _ _ _ _ _ _ _ _ _ _ _ _ _ hok w
def xfAt (f:Nat->Int) (i:Nat):Xf:=⟨f (i*12),f (i*12+1),f (i*12+2),f (i*12+3),f (i*12+4),f (i*12+5),f (i*12+6),f (i*12+7),f (i*12+8),f (i*12+9),f (i*12+10),f (i*12+11)⟩
def appAll (f:Nat->Int):Nat->V3->V3
 | 0,p=>p
 | n+1,p=>(xfAt f n).app (appAll f n p)
structure ABox (w:World) (b:Nat) (x y z:Int):Prop where
 lt:b<w.heap.size
 c0:w.cell? ⟨b,0,none⟩=some (.int .i64 x)
 c1:w.cell? ⟨b,1,none⟩=some (.int .i64 y)
 c2:w.cell? ⟨b,2,none⟩=some (.int .i64 z)
 f0:w.frozen? ⟨b,0,none⟩=false
 f1:w.frozen? ⟨b,1,none⟩=false
 f2:w.frozen? ⟨b,2,none⟩=false
theorem ABox.ext {w w':World} {b:Nat} {x y z:Int} (h:ABox w b x y z) (e:Ext w w'):ABox w' b x y z:=
 ⟨Nat.lt_of_lt_of_le h.lt e.size,(e.cells.1 b _ h.lt).trans h.c0,(e.cells.1 b _ h.lt).trans h.c1,(e.cells.1 b _ h.lt).trans h.c2,(e.cells.2 b _ h.lt).trans h.f0,(e.cells.2 b _ h.lt).trans h.f1,(e.cells.2 b _ h.lt).trans h.f2⟩
theorem sApplyAll_val (lo hi:Nat) (u:Value) (n:Nat) (f:Nat->Int) (p q:V3) (hq:appAll f n p=q) (w:World) (hu:Flats 12 lo hi w u n f) (hh:hi<=w.heap.size) :
  Calls Tryz.prog 204 #[u,p.V] w fun e w'=>e = .returned q.V/\Ext w w':=by
 obtain ⟨a,cap,rfl,HU⟩:=hu.open;clear hu;have hle:=HU.le;have hcap:=HU.cap;have HQ:=hid hq;clear hq;obtain ⟨x,y,z⟩:=p;unfold V3.V;go_enter Tryz.func204,Tryz.ntmps204;go_wp2
 go_loopw [9] (fun i wr=>∃(k:Nat) (p1 p2 p3:Int),k<=n/\i = .int .i64 k/\Ext w wr/\ABox wr w.heap.size p1 p2 p3/\ABox wr (w.heap.size+1) 0 0 0/\appAll f k ⟨x,y,z⟩=⟨p1,p2,p3⟩) (fun i _=>n - (intOf i).toNat)
 case atStart=>
  refine ⟨0,x,y,z,by omega,rfl,X_,?_,?_,rfl⟩
  all_goals constructor
  all_goals first|omega|(simp;done)|(simp [go_sem];done)
 case round=>
  obtain ⟨k,p1,p2,p3,hk,rfl,hx,hb,hr,he⟩:=hrel
  by_cases hlt:k<n
  ·obtain ⟨b,off,rfl,hb1,hb2,hc⟩:=HU.at hlt (by decide)
   have c0:=(hx.cells.1 b _ (by omega)).trans (hc 0 (by decide));have c1:=(hx.cells.1 b _ (by omega)).trans (hc 1 (by decide));have c2:=(hx.cells.1 b _ (by omega)).trans (hc 2 (by decide));have c3:=(hx.cells.1 b _ (by omega)).trans (hc 3 (by decide));have c4:=(hx.cells.1 b _ (by omega)).trans (hc 4 (by decide));have c5:=(hx.cells.1 b _ (by omega)).trans (hc 5 (by decide));have c6:=(hx.cells.1 b _ (by omega)).trans (hc 6 (by decide));have c7:=(hx.cells.1 b _ (by omega)).trans (hc 7 (by decide));have c8:=(hx.cells.1 b _ (by omega)).trans (hc 8 (by decide));have c9:=(hx.cells.1 b _ (by omega)).trans (hc 9 (by decide));have c10:=(hx.cells.1 b _ (by omega)).trans (hc 10 (by decide));have c11:=(hx.cells.1 b _ (by omega)).trans (hc 11 (by decide));simp only [Nat.add_zero] at c0
   obtain ⟨q,hqq⟩:∃q,(xfAt f k).app ⟨p1,p2,p3⟩=q:=⟨_,rfl⟩
   obtain ⟨q1,q2,q3⟩:=q;have HA:=hid (fun w=>sApply_val hqq w);simp only [xfAt,Xf.V,V3.V] at HA
   have hs:b<wr.heap.size:=by have:=hx.size;omega
   have he':appAll f (k+1) ⟨x,y,z⟩=⟨q1,q2,q3⟩:=by rw [appAll,he,hqq]
   have HE:=hid he';have HX:=hid hx;have HB:=hid hb;have HR:=hid hr;have v0:=hb.lt;have v1:=hb.c0;have v2:=hb.c1;have v3:=hb.c2;clear hc hqq he he' hx hb hr;go_wp2_with fail;refine (HA.out _).mono ?_;rintro e w2 ⟨rfl,h2⟩;have h3:Ext wr w2:=Ext.trans S_ h2;have hb:=HB.out.ext h3;have hr:=HR.out.ext h3;have hx:=HX.out.trans h3;have HR2:=hid hr;have HX2:=hid hx;clear h2 h3 HB HR HX hr hx v1 v2 v3 c0 c1 c2 c3 c4 c5 c6 c7 c8 c9 c10 c11;obtain ⟨v4,v5,v6,v7,v8,v9,v10⟩:=hb;go_wp2;go_roundw
   case rel=>
    have hx:=HX2.out;have hr:=HR2.out;obtain ⟨r4,r5,r6,r7,r8,r9,r10⟩:=hr;refine ⟨k+1,q1,q2,q3,by omega,by go_num,S_,?_,?_,HE.out⟩
    all_goals constructor
    all_goals simp [go_sem, *]
   case measure=>simp [intOf];omega
  ·obtain rfl:k=n:=by omega
   have HE:=hid he;obtain ⟨v4,v5,v6,v7,v8,v9,v10⟩:=hb;obtain ⟨r4,r5,r6,r7,r8,r9,r10⟩:=hr;have hq:=HQ.out;rw [he] at hq;clear he;subst hq;go_wp2;exact bodyPost_ret (v:=.agg #[p1,p2,p3]) (by simp [results,Tryz.results204,go_sem, *]) rfl ⟨rfl,S_⟩
structure Cam where
 (w h zoom near:Int)
 deep:Bool
 (lens focus:Int)
def Cam.V (c:Cam):Value:=.agg #[c.w,c.h,c.zoom,c.near,.bool c.deep,c.lens,c.focus]
def Cam.I (c:Cam):Prop:=I64 c.w/\I64 c.h/\I64 c.zoom/\I64 c.near/\I64 c.lens/\I64 c.focus
def Cam.okB (c:Cam):Bool:=inB c.w 1 12&&inB c.h 1 12&&inB c.zoom 1 65536&&inB c.near 1 1000000&&inB c.lens 0 64&&inB c.focus 0 1000000
structure Cam.Ok (c:Cam):Prop where
 w:1<=c.w/\c.w<=12
 h:1<=c.h/\c.h<=12
 zoom:1<=c.zoom/\c.zoom<=65536
 near:1<=c.near/\c.near<=1000000
 lens:0<=c.lens/\c.lens<=64
 focus:0<=c.focus/\c.focus<=1000000
theorem Cam.okB_iff {c:Cam}:c.okB=true↔c.Ok:=by
 unfold Cam.okB;simp only [Bool.and_eq_true,inB_iff];exact ⟨fun ⟨⟨⟨⟨⟨a,b⟩,d⟩,e⟩,f⟩,g⟩=>⟨a,b,d,e,f,g⟩,fun h=>⟨⟨⟨⟨⟨h.w,h.h⟩,h.zoom⟩,h.near⟩,h.lens⟩,h.focus⟩⟩
def sc (n:Int):Int:=clampI n (-100000) 100000
theorem sc_bd (n:Int) : -100000<=sc n/\sc n<=100000:=by
 unfold sc clampI
 split
 ·omega
 ·split <;> omega
theorem sc_fix {n:Int} (h : -100000<=n/\n<=100000):sc n=n:=by
 unfold sc clampI;rw [if_neg (by omega),if_neg (by omega)]
def Cam.by (c:Cam) (z:Int):Int:=if c.deep then z else 256
def Cam.pj (c:Cam) (x z l half:Int):Int:=sc (fdiv ((x+fdiv (l*c.lens*(z - c.focus)) 4096)*c.zoom) (c.by z)+half)
def Cam.prB (c:Cam) (v:V3) (lx ly:Int):Bool:=c.okB&&okVec v.x v.y v.z&&inB lx (-16) 16&&inB ly (-16) 16&&decide (c.near<=v.z)
def Cam.pr (c:Cam) (v:V3) (lx ly:Int):V3:=⟨c.pj v.x v.z lx (c.w*8),c.pj v.y v.z ly (c.h*8),v.z⟩
def evC (a b c d i j n:Int):Int:=fdiv (cl a*((n - i)*(n - j))+cl b*(i*(n - j))+cl c*((n - i)*j)+cl d*(i*j)) (n*n)
def evP (f:Nat->Int) (i j n:Int):V3:=⟨evC (f 0) (f 3) (f 6) (f 9) i j n,evC (f 1) (f 4) (f 7) (f 10) i j n,evC (f 2) (f 5) (f 8) (f 11) i j n⟩
def lerpC (a b i n:Int):Int:=fdiv (cl a*(n - i)+cl b*i) n
def midP (f g:Nat->Int) (t:Int):Nat->Int:=fun j=>lerpC (f j) (g j) t 16
def side2 (a b s:V3):Int:=(b.x - a.x)*(s.y - a.y) - (b.y - a.y)*(s.x - a.x)
def leftB (a b s:V3):Bool:=decide (0<side2 a b s)||(side2 a b s==0&&(decide (b.y<a.y)||(b.y==a.y&&decide (a.x<b.x))))
def covB (a b c s:V3):Bool:=
 if side2 a b c=0 then false else if side2 a b c<0 then leftB a c s&&leftB c b s&&leftB b a s else leftB a b s&&leftB b c s&&leftB c a s
def depthI (a b c s:V3):Int:=fdiv (a.z*absI (side2 b c s)+b.z*absI (side2 c a s)+c.z*absI (side2 a b s)) (absI (side2 a b c))
structure Frag where
 (d s c col al:Int)
def Frag.ls (f:Frag):List Int:=[f.d,f.s,f.c,f.col,f.al]
def Frag.cs (f:Frag):List Value:=[f.d,f.s,f.c,f.col,f.al]
structure Smp where
 (x y t lx ly:Int)
def Smp.cs (s:Smp):List Value:=[s.x,s.y,s.t,s.lx,s.ly]
def Smp.at (s:Smp):V3:=⟨s.x,s.y,0⟩
def Smp.okB (c:Cam) (s:Smp):Bool:=c.okB&&inB s.x 0 (c.w*16 - 1)&&inB s.y 0 (c.h*16 - 1)&&inB s.t 0 15&&inB s.lx (-16) 16&&inB s.ly (-16) 16
def cornB (c:Cam) (f:Nat->Int) (n:Nat) (s:Smp) (u v:Nat):Bool:=c.prB (evP f (u:Nat) (v:Nat) (n:Nat)) s.lx s.ly
def corn (c:Cam) (f:Nat->Int) (n:Nat) (s:Smp) (u v:Nat):V3:=c.pr (evP f (u:Nat) (v:Nat) (n:Nat)) s.lx s.ly
def diceB (c:Cam) (f:Nat->Int) (n:Nat) (s:Smp) (u v:Nat):Bool:=cornB c f n s u v&&cornB c f n s (u+1) v&&cornB c f n s u (v+1)&&cornB c f n s (u+1) (v+1)
def hitC (a b d s:V3) (k cell col al:Int):List Frag:=if covB a b d s then [⟨depthI a b d s,k,cell,col,al⟩] else []
def cellH (c:Cam) (f:Nat->Int) (n:Nat) (s:Smp) (k:Int) (cols als:List Int) (u v:Nat):List Frag:=
 if diceB c f n s u v then
  hitC (corn c f n s u v) (corn c f n s (u+1) v) (corn c f n s u (v+1)) s.at k ((v*n+u:Nat):Int) (cols.getD (v*n+u) 0) (als.getD (v*n+u) 0) ++
  hitC (corn c f n s (u+1) v) (corn c f n s (u+1) (v+1)) (corn c f n s u (v+1)) s.at k ((v*n+u:Nat):Int) (cols.getD (v*n+u) 0) (als.getD (v*n+u) 0)
 else []
def hitsTo (c:Cam) (f:Nat->Int) (n:Nat) (s:Smp) (k:Int) (cols als:List Int) (q:Nat):List Frag:=(List.range q).flatMap fun i=>cellH c f n s k cols als (i % n) (i / n)
def hitsL (c:Cam) (f:Nat->Int) (n:Nat) (s:Smp) (k:Int) (cols als:List Int):List Frag:=hitsTo c f n s k cols als (n*n)
theorem fdiv_lo {s d m:Int} (hd:1<=d) (h:m*d<=s):m<=fdiv s d:=by
 unfold fdiv;rw [if_neg (by omega)];exact (Int.le_ediv_iff_mul_le (by omega)).2 h
theorem fdiv_hi {s d m:Int} (hd:1<=d) (h:s<=m*d):fdiv s d<=m:=by
 unfold fdiv;rw [if_neg (by omega)];exact Int.ediv_le_of_le_mul (by omega) h
theorem wts (i j n:Int):(n - i)*(n - j)+i*(n - j)+(n - i)*j+i*j=n*n:=by grind
theorem wt_lo {x w m:Int} (hw:0<=w) (h:m<=x):m*w<=x*w:=Int.mul_le_mul_of_nonneg_right h hw
theorem evC_lo {a b c d i j n m:Int} (hn:1<=n) (hi:0<=i/\i<=n) (hj:0<=j/\j<=n) (ha:m<=cl a) (hb:m<=cl b) (hc:m<=cl c) (hd:m<=cl d):m<=evC a b c d i j n:=by
 have p1:0<=(n - i)*(n - j):=Int.mul_nonneg (by omega) (by omega);have p2:0<=i*(n - j):=Int.mul_nonneg (by omega) (by omega);have p3:0<=(n - i)*j:=Int.mul_nonneg (by omega) (by omega);have p4:0<=i*j:=Int.mul_nonneg (by omega) (by omega);have e:=wts i j n
 have hnn:1<=n*n:=by have:=Int.mul_le_mul hn hn (by omega) (by omega);omega
 refine fdiv_lo hnn ?_;rw [<-e];have q1:=wt_lo p1 ha;have q2:=wt_lo p2 hb;have q3:=wt_lo p3 hc;have q4:=wt_lo p4 hd;rw [Int.mul_add,Int.mul_add,Int.mul_add];omega
theorem evC_hi {a b c d i j n m:Int} (hn:1<=n) (hi:0<=i/\i<=n) (hj:0<=j/\j<=n) (ha:cl a<=m) (hb:cl b<=m) (hc:cl c<=m) (hd:cl d<=m):evC a b c d i j n<=m:=by
 have p1:0<=(n - i)*(n - j):=Int.mul_nonneg (by omega) (by omega);have p2:0<=i*(n - j):=Int.mul_nonneg (by omega) (by omega);have p3:0<=(n - i)*j:=Int.mul_nonneg (by omega) (by omega);have p4:0<=i*j:=Int.mul_nonneg (by omega) (by omega);have e:=wts i j n
 have hnn:1<=n*n:=by have:=Int.mul_le_mul hn hn (by omega) (by omega);omega
 refine fdiv_hi hnn ?_;rw [<-e];have q1:=wt_lo p1 ha;have q2:=wt_lo p2 hb;have q3:=wt_lo p3 hc;have q4:=wt_lo p4 hd;rw [Int.mul_add,Int.mul_add,Int.mul_add];omega
theorem lerpC_lo {a b i n m:Int} (hn:1<=n) (hi:0<=i/\i<=n) (ha:m<=cl a) (hb:m<=cl b):m<=lerpC a b i n:=by
 refine fdiv_lo hn ?_;have q1:=wt_lo (show 0<=n - i by omega) ha;have q2:=wt_lo hi.1 hb
 have e:m*n=m*(n - i)+m*i:=by grind
 omega
theorem lerpC_hi {a b i n m:Int} (hn:1<=n) (hi:0<=i/\i<=n) (ha:cl a<=m) (hb:cl b<=m):lerpC a b i n<=m:=by
 refine fdiv_hi hn ?_;have q1:=wt_lo (show 0<=n - i by omega) ha;have q2:=wt_lo hi.1 hb
 have e:m*n=m*(n - i)+m*i:=by grind
 omega
theorem cl_fixed {x:Int} (h : -1000000<=x/\x<=1000000):cl x=x:=by
 unfold cl clampI;rw [if_neg (by omega),if_neg (by omega)]
theorem side2_sum (a b c s:V3):side2 b c s+side2 c a s+side2 a b s=side2 a b c:=by
 unfold side2;grind
theorem side2_swap (a b s:V3):side2 b a s = - side2 a b s:=by
 unfold side2;grind
theorem leftB_ge {a b s:V3} (h:leftB a b s=true):0<=side2 a b s:=by
 unfold leftB at h;simp only [Bool.or_eq_true,decide_eq_true_eq,Bool.and_eq_true,beq_iff_eq] at h
 rcases h with h|h <;> omega
theorem mul_abs {a b A B:Int} (h1 : -A<=a/\a<=A) (h2 : -B<=b/\b<=B) : -(A*B)<=a*b/\a*b<=A*B:=by
 have p1:=Int.mul_nonneg (show 0<=A - a by omega) (show 0<=B - b by omega);have p2:=Int.mul_nonneg (show 0<=A+a by omega) (show 0<=B+b by omega);have p3:=Int.mul_nonneg (show 0<=A - a by omega) (show 0<=B+b by omega);have p4:=Int.mul_nonneg (show 0<=A+a by omega) (show 0<=B - b by omega)
 constructor
 ·grind
 ·grind
theorem okVec_iff {x y z:Int}:okVec x y z=true↔(-1000000<=x/\x<=1000000)/\(-1000000<=y/\y<=1000000)/\(-1000000<=z/\z<=1000000):=by
 unfold okVec;simp only [Bool.and_eq_true,inB_iff];exact ⟨fun ⟨⟨a,b⟩,c⟩=>⟨a,b,c⟩,fun ⟨a,b,c⟩=>⟨⟨a,b⟩,c⟩⟩
theorem iIsValidCamera_any (c:Cam) (w:World):Calls Tryz.prog 53 #[c.V] w fun e w'=>e = .returned (.bool c.okB)/\Ext w w':=by
 obtain ⟨cw,ch,zo,ne,de,le,fo⟩:=c
 obtain ⟨b1,h1⟩:∃b,inB cw 1 12=b:=⟨_,rfl⟩
 obtain ⟨b2,h2⟩:∃b,inB ch 1 12=b:=⟨_,rfl⟩
 obtain ⟨b3,h3⟩:∃b,inB zo 1 65536=b:=⟨_,rfl⟩
 obtain ⟨b4,h4⟩:∃b,inB ne 1 1000000=b:=⟨_,rfl⟩
 obtain ⟨b5,h5⟩:∃b,inB le 0 64=b:=⟨_,rfl⟩
 obtain ⟨b6,h6⟩:∃b,inB fo 0 1000000=b:=⟨_,rfl⟩
 have e:(Cam.mk cw ch zo ne de le fo).okB=(b1&&b2&&b3&&b4&&b5&&b6):=by unfold Cam.okB;simp only [h1,h2,h3,h4,h5,h6]
 rw [e];have H1:=hid h1;have H2:=hid h2;have H3:=hid h3;have H4:=hid h4;have H5:=hid h5;have H6:=hid h6;clear h1 h2 h3 h4 h5 h6 e
 show Calls Tryz.prog 53 #[.agg #[cw,ch,zo,ne,.bool de,le,fo]] w _
 cases b1
 rotate_left
 cases b2
 rotate_left
 cases b3
 rotate_left
 cases b4
 rotate_left
 cases b5
 rotate_left
 cases b6
 all_goals
  go_enter Tryz.func53,Tryz.ntmps53;go_wp2_with (go_at_call 54;with_reducible first|(refine (within_val H1.out _).mono ?_;rintro e w1 ⟨rfl,rfl⟩)|(refine (within_val H2.out _).mono ?_;rintro e w1 ⟨rfl,rfl⟩)|(refine (within_val H3.out _).mono ?_;rintro e w1 ⟨rfl,rfl⟩)|(refine (within_val H4.out _).mono ?_;rintro e w1 ⟨rfl,rfl⟩)|(refine (within_val H5.out _).mono ?_;rintro e w1 ⟨rfl,rfl⟩)|(refine (within_val H6.out _).mono ?_;rintro e w1 ⟨rfl,rfl⟩));go_ret;exact ⟨rfl,X_⟩
theorem iIsValidCamera_val {c:Cam} {b:Bool} (h:c.okB=b) (w:World):Calls Tryz.prog 53 #[c.V] w fun e w'=>e = .returned (.bool b)/\Ext w w':=h▸iIsValidCamera_any c w
theorem pjFn1_val {x z zm q r:Int} {p:Nat} (hq:wrap64 (x*zm)=q) (hi:I64 q) (h:fdiv q z=r) (w:World) (hp:w.cell? ⟨p,2,none⟩=some (.int .i64 zm)) :
  Calls Tryz.prog 313 #[x,z,.pointer (some ⟨p,0,none⟩)] w fun e w'=>e = .returned (.int .i64 r)/\w=w':=by
 have H:=hid h;clear h;go_enter Tryz.func313,Tryz.ntmps313;go_wp2_with (go_at_call 107;refine (iFloorDiv_val hi H.out _).mono ?_;rintro e w1 ⟨rfl,rfl⟩);go_ret;exact ⟨rfl,rfl⟩
theorem pjFn2_val {x z zm q r:Int} {p:Nat} (hq:wrap64 (x*zm)=q) (hi:I64 q) (h:fdiv q 256=r) (w:World) (hp:w.cell? ⟨p,2,none⟩=some (.int .i64 zm)) :
  Calls Tryz.prog 314 #[x,z,.pointer (some ⟨p,0,none⟩)] w fun e w'=>e = .returned (.int .i64 r)/\w=w':=by
 have H:=hid h;clear h;go_enter Tryz.func314,Tryz.ntmps314;go_wp2_with (go_at_call 107;refine (iFloorDiv_val hi H.out _).mono ?_;rintro e w1 ⟨rfl,rfl⟩);go_ret;exact ⟨rfl,rfl⟩
def pjFn (deep:Bool) (p:Nat):Value:=.func (.func (if deep then 313 else 314)) #[] #[.pointer (some ⟨p,0,none⟩)]
theorem absolute_val {a c:Int} (ha : -1000000000000<=a/\a<=1000000000000) (h:absI a=c) (w:World):Calls Tryz.prog 214 #[a] w fun e w'=>e = .returned (.int .i64 c)/\w=w':=by
 subst h;obtain ⟨h1,h2⟩:=ha;unfold absI;go_enter Tryz.func214,Tryz.ntmps214
 by_cases h:a<0
 ·rw [if_pos h]
  go_wp2;go_ret;exact ⟨rfl,rfl⟩
 ·rw [if_neg h]
  go_wp2;go_ret;exact ⟨rfl,rfl⟩
theorem Blk.alloc {w:World} {g:Nat} {t:TypeId} {cs:List Value} (h:Blk w g t cs) (o:Obj):Blk (w.alloc o) g t cs:=h.ext ((Ext.refl _).alloc o)
theorem I64.of {n m:Int} (h : -m<=n/\n<=m) (hm:m<=1152921504606846976):I64 n:=⟨by omega,by omega⟩
theorem fdiv_small {a b m:Int} (ha : -m<=a/\a<=m) : -m<=fdiv a b/\fdiv a b<=m:=by
 unfold fdiv
 split
 ·omega
 ·have h0:0<=m:=by omega
  have e:0<=(b - 1)*m:=Int.mul_nonneg (by omega) h0
  have e2:m*b=(b - 1)*m+m:=by grind
  constructor
  ·exact (Int.le_ediv_iff_mul_le (by omega)).2 (by rw [Int.neg_mul];omega)
  ·exact Int.ediv_le_of_le_mul (by omega) (by omega)
theorem iCoord_val {c:Cam} (hc:c.Ok) {x z l px r:Int} (hx : -1000000<=x/\x<=1000000) (hz:1<=z/\z<=1000000) (hl : -16<=l/\l<=16) (hp:1<=px/\px<=12) (hr:c.pj x z l (px*8)=r) (C Cp V P:Nat) (w:World)
  (c2:w.cell? ⟨Cp,2,none⟩=some (.int .i64 c.zoom)) (c5:w.cell? ⟨C,5,none⟩=some (.int .i64 c.lens)) (c6:w.cell? ⟨C,6,none⟩=some (.int .i64 c.focus)) (v2:w.cell? ⟨V,2,none⟩=some (.int .i64 z)) (p0:w.cell? ⟨P,0,none⟩=some (pjFn c.deep Cp)) :
  Calls Tryz.prog 296 #[x,l,px,.pointer (some ⟨C,0,none⟩),.pointer (some ⟨V,0,none⟩),.pointer (some ⟨P,0,none⟩)] w fun e w'=>e = .returned (.int .i64 r)/\w=w':=by
 unfold Cam.pj at hr;have q1:=mul_abs (A:=16) (B:=64) (a:=l) (b:=c.lens) hl (by have:=hc.lens;omega)
 obtain ⟨p1,e1⟩:∃n,l*c.lens=n:=⟨_,rfl⟩
 rw [e1] at q1 hr;have q2:=mul_abs (A:=16*64) (B:=1000000) (a:=p1) (b:=z - c.focus) q1 (by have:=hc.focus;omega)
 obtain ⟨p2,e2⟩:∃n,p1*(z - c.focus)=n:=⟨_,rfl⟩
 rw [e2] at q2 hr
 have q3 : -250001<=fdiv p2 4096/\fdiv p2 4096<=250001:=by unfold fdiv;rw [if_neg (by decide)];omega
 obtain ⟨d,e3⟩:∃n,fdiv p2 4096=n:=⟨_,rfl⟩
 rw [e3] at q3 hr;have q4:=mul_abs (A:=1250001) (B:=65536) (a:=x+d) (b:=c.zoom) (by omega) (by have:=hc.zoom;omega)
 obtain ⟨q,e4⟩:∃n,(x+d)*c.zoom=n:=⟨_,rfl⟩
 rw [e4] at q4 hr;have q5:=fdiv_small (a:=q) (b:=c.by z) q4
 obtain ⟨t,e5⟩:∃n,fdiv q (c.by z)=n:=⟨_,rfl⟩
 rw [e5] at q5 hr;have i2:=hid (I64.of q2 (by decide));have i4:=hid (I64.of q4 (by decide));have E3:=hid e3;have E5:=hid e5;have HR:=hid (show clampI (t+px*16 / 2) (-100000) 100000=r from by rw [show px*16 / 2=px*8 from by omega];exact hr);have b5:=hc.lens;have b6:=hc.focus;have b2:=hc.zoom
 obtain ⟨lens,hle⟩:∃n,c.lens=n:=⟨_,rfl⟩
 obtain ⟨focus,hfo⟩:∃n,c.focus=n:=⟨_,rfl⟩
 obtain ⟨zoom,hzo⟩:∃n,c.zoom=n:=⟨_,rfl⟩
 rw [hle] at c5 e1 b5;rw [hfo] at c6 e2 b6;rw [hzo] at c2 e4 b2;have W4:=hid (show wrap64 ((x+d)*zoom)=q by rw [e4];exact wrap_small (by omega) (by omega));clear hle hfo hzo e3 e5 hr;unfold pjFn at p0
 unfold Cam.by at E5
 cases hd:c.deep
 ·rw [hd] at p0 E5
  simp only [Bool.false_eq_true,if_false] at p0 E5;go_enter Tryz.func296,Tryz.ntmps296;go_wp2_with (first|(go_at_call 107;refine (iFloorDiv_val i2.out E3.out _).mono ?_;rintro e w1 ⟨rfl,rfl⟩)|(go_at_call 314;refine (pjFn2_val W4.out i4.out E5.out _ c2).mono ?_;rintro e w1 ⟨rfl,rfl⟩));refine (iClamp_val HR.out _).mono ?_;rintro e w1 ⟨rfl,rfl⟩;go_wp2;go_ret;exact ⟨rfl,rfl⟩
 ·rw [hd] at p0 E5
  simp only [if_true] at p0 E5;go_enter Tryz.func296,Tryz.ntmps296;go_wp2_with (first|(go_at_call 107;refine (iFloorDiv_val i2.out E3.out _).mono ?_;rintro e w1 ⟨rfl,rfl⟩)|(go_at_call 313;refine (pjFn1_val W4.out i4.out E5.out _ c2).mono ?_;rintro e w1 ⟨rfl,rfl⟩));refine (iClamp_val HR.out _).mono ?_;rintro e w1 ⟨rfl,rfl⟩;go_wp2;go_ret;exact ⟨rfl,rfl⟩
theorem timesFn_val {n k c:Int} {p:Nat} (h:wrap64 (k*n)=c) (w:World) (hp:w.cell? ⟨p,0,none⟩=some (.int .i64 k)):Calls Tryz.prog 265 #[n,.pointer (some ⟨p,0,none⟩)] w fun e w'=>e = .returned (.int .i64 c)/\w=w':=by
 go_enter Tryz.func265,Tryz.ntmps265;go_wp2;go_ret;exact ⟨ret_int h,rfl⟩
theorem eachTimes_val {x y z a b c k:Int} {p:Nat} (ha:wrap64 (k*x)=a) (hb:wrap64 (k*y)=b) (hc:wrap64 (k*z)=c) (w:World) (hp:w.cell? ⟨p,0,none⟩=some (.int .i64 k)) (hlt:p<w.heap.size) :
  Calls Tryz.prog 231 #[.agg #[x,y,z],.func (.func 265) #[] #[.pointer (some ⟨p,0,none⟩)]] w fun e w'=>e = .returned (.agg #[a,b,c])/\Ext w w':=by
 have HA:=hid ha;have HB:=hid hb;have HC:=hid hc;have HP:=hid hp;clear ha hb hc hp;go_enter Tryz.func231,Tryz.ntmps231;go_wp2;refine wp_region_stages [([0,1,2,4,5,6,8,9,10],3),([],7),([],11),([12],13)] 13 (w.heap.size+1+1) (by kernel_rfl) (by kernel_rfl) ?_;refine wpStages_cons ?_;simp only [List.filterMap_cons,List.filterMap_nil,List.getElem?_toArray,List.getElem?_cons_zero,List.getElem?_cons_succ]
 show wpQuiet _ _ _ _ [_,_,_,_,_,_,_,_,_] _
 repeat (go_big_quiet_step (fail))
 refine wpQuiet_nil ⟨_,rfl,fun K hK=>?_⟩;go_wp2_with fail;refine (timesFn_val HA.out _ ((Ext.cells (w:=w) X_).1 _ _ hlt |>.trans HP.out)).mono ?_;rintro e w1 ⟨rfl,rfl⟩;go_wp2_with fail;refine hK _ _ (.inr (fun b _ hb=>Ext.block X_ (by simp;omega))) ?_;clear hK K;refine wpStages_cons ?_;simp only [List.filterMap_nil]
 show wpQuiet _ _ _ _ [] _
 try simp only [Act.put,List.setIfInBounds_toArray,List.set_cons_succ,List.set_cons_zero]
 refine wpQuiet_nil ⟨_,rfl,fun K hK=>?_⟩;go_wp2_with fail;refine (timesFn_val HB.out _ ((Ext.cells (w:=w) X_).1 _ _ hlt |>.trans HP.out)).mono ?_;rintro e w1 ⟨rfl,rfl⟩;go_wp2_with fail;refine hK _ _ (.inr (fun b _ hb=>Ext.block X_ (by simp;omega))) ?_;clear hK K;refine wpStages_cons ?_;simp only [List.filterMap_nil]
 show wpQuiet _ _ _ _ [] _
 try simp only [Act.put,List.setIfInBounds_toArray,List.set_cons_succ,List.set_cons_zero]
 refine wpQuiet_nil ⟨_,rfl,fun K hK=>?_⟩;go_wp2_with fail;refine (timesFn_val HC.out _ ((Ext.cells (w:=w) X_).1 _ _ hlt |>.trans HP.out)).mono ?_;rintro e w1 ⟨rfl,rfl⟩;go_wp2_with fail;refine hK _ _ (.inr (fun b _ hb=>Ext.block X_ (by simp;omega))) ?_;clear hK K;refine wpStages_cons ?_;simp only [List.filterMap_cons,List.filterMap_nil,List.getElem?_toArray,List.getElem?_cons_zero,List.getElem?_cons_succ]
 show wpQuiet _ _ _ _ [_] _
 try simp only [Act.put,List.setIfInBounds_toArray,List.set_cons_succ,List.set_cons_zero]
 repeat (go_big_quiet_step (fail))
 refine wpQuiet_nil ⟨_,rfl,fun K hK=>?_⟩;go_wp2_with fail;refine hK _ _ (.inl (by trivial)) (wpStages_nil ?_);clear hK K;go_wp2;exact bodyPost_ret (v:=.agg #[a,b,c]) (by simp [results,Tryz.results231,go_sem, *]) rfl ⟨rfl,S_⟩
theorem times_val {x y z a b c k:Int} (ha:wrap64 (k*x)=a) (hb:wrap64 (k*y)=b) (hc:wrap64 (k*z)=c) (w:World) :
  Calls Tryz.prog 221 #[.agg #[x,y,z],k] w fun e w'=>e = .returned (.agg #[a,b,c])/\Ext w w':=by
 have HA:=hid ha;have HB:=hid hb;have HC:=hid hc;clear ha hb hc;have hmf:∀(fn:Fn) (first cap:Array Value) (w:World),(Instr.makeFunc fn first cap).run Tryz.prog w = .ok (.func fn first cap) w:=fun _ _ _ _=>rfl;go_enter Tryz.func221,Tryz.ntmps221;go_wp2_with fail;refine (eachTimes_val HA.out HB.out HC.out _ (by simp [go_sem]) (by simp)).mono ?_;rintro e w1 ⟨rfl,h1⟩;obtain ⟨c1,f1⟩:=h1.cells;have z1:=h1.size;simp only [World.size_alloc] at z1
 have q2:w.heap.size+1+1<w1.heap.size:=by omega
 have E1:Ext w w1:=Ext.trans X_ h1;go_wp2;exact bodyPost_ret (v:=.agg #[a,b,c]) (by simp [results,Tryz.results221,go_sem, *]) rfl ⟨rfl,S_⟩
theorem wt_bd {n i j:Int} (hn:1<=n/\n<=64) (hi:0<=i/\i<=n) (hj:0<=j/\j<=n):0<=i*j/\i*j<=4096:=by
 have h1:=Int.mul_nonneg hi.1 hj.1;have h2:=Int.mul_le_mul (show i<=64 by omega) (show j<=64 by omega) hj.1 (by omega);omega
theorem wprod {g x:Int} (hg:0<=g/\g<=4096) (hx : -1000000<=x/\x<=1000000):(-4096000000<=g*x/\g*x<=4096000000):=mul_abs (A:=4096) (B:=1000000) (by omega) hx
theorem idxP (f:Nat->Int) (k:Nat) (hk:k<4) (w:World):(Instr.index 38 (.agg #[(f 0),(f 1),(f 2),(f 3),(f 4),(f 5),(f 6),(f 7),(f 8),(f 9),(f 10),(f 11)]) (.int .i64 (k:Nat))).run Tryz.prog w = .ok (.agg #[.int .i64 (f (3*k)),.int .i64 (f (3*k+1)),.int .i64 (f (3*k+2))]) w:=by
 rcases (show k=0\/k=1\/k=2\/k=3 by omega) with rfl|rfl|rfl|rfl <;> kernel_rfl
theorem evalPatch_any (f:Nat->Int) (i j n:Int) (hn:1<=n/\n<=64) (hi:0<=i/\i<=n) (hj:0<=j/\j<=n) (w:World) :
  Calls Tryz.prog 158 #[.agg #[(f 0),(f 1),(f 2),(f 3),(f 4),(f 5),(f 6),(f 7),(f 8),(f 9),(f 10),(f 11)],i,j,n] w fun e w'=>e = .returned ((evP f i j n).V)/\Ext w w':=by
 have b0:=wt_bd (n:=n) (i:=(n - i)) (j:=(n - j)) hn (by omega) (by omega)
 obtain ⟨g0,e0⟩:∃r,(n - i)*(n - j)=r:=⟨_,rfl⟩
 rw [e0] at b0;have b1:=wt_bd (n:=n) (i:=i) (j:=(n - j)) hn (by omega) (by omega)
 obtain ⟨g1,e1⟩:∃r,i*(n - j)=r:=⟨_,rfl⟩
 rw [e1] at b1;have b2:=wt_bd (n:=n) (i:=(n - i)) (j:=j) hn (by omega) (by omega)
 obtain ⟨g2,e2⟩:∃r,(n - i)*j=r:=⟨_,rfl⟩
 rw [e2] at b2;have b3:=wt_bd (n:=n) (i:=i) (j:=j) hn (by omega) (by omega)
 obtain ⟨g3,e3⟩:∃r,i*j=r:=⟨_,rfl⟩
 rw [e3] at b3;have bn:=wt_bd (n:=n) (i:=n) (j:=n) hn (by omega) (by omega)
 obtain ⟨nn,en⟩:∃r,n*n=r:=⟨_,rfl⟩
 rw [en] at bn
 obtain ⟨u00,hu00⟩:∃r,cl (f 0)=r:=⟨_,rfl⟩
 have v00:=cl_bd (f 0);rw [hu00] at v00;have t00:=wprod b0 v00
 obtain ⟨p00,m00⟩:∃r,g0*u00=r:=⟨_,rfl⟩
 rw [m00] at t00;have U00:=hid hu00;have M00:=hid (show wrap64 (g0*u00)=p00 by rw [m00];exact wrap_small (by omega) (by omega))
 obtain ⟨u10,hu10⟩:∃r,cl (f 3)=r:=⟨_,rfl⟩
 have v10:=cl_bd (f 3);rw [hu10] at v10;have t10:=wprod b1 v10
 obtain ⟨p10,m10⟩:∃r,g1*u10=r:=⟨_,rfl⟩
 rw [m10] at t10;have U10:=hid hu10;have M10:=hid (show wrap64 (g1*u10)=p10 by rw [m10];exact wrap_small (by omega) (by omega))
 obtain ⟨u20,hu20⟩:∃r,cl (f 6)=r:=⟨_,rfl⟩
 have v20:=cl_bd (f 6);rw [hu20] at v20;have t20:=wprod b2 v20
 obtain ⟨p20,m20⟩:∃r,g2*u20=r:=⟨_,rfl⟩
 rw [m20] at t20;have U20:=hid hu20;have M20:=hid (show wrap64 (g2*u20)=p20 by rw [m20];exact wrap_small (by omega) (by omega))
 obtain ⟨u30,hu30⟩:∃r,cl (f 9)=r:=⟨_,rfl⟩
 have v30:=cl_bd (f 9);rw [hu30] at v30;have t30:=wprod b3 v30
 obtain ⟨p30,m30⟩:∃r,g3*u30=r:=⟨_,rfl⟩
 rw [m30] at t30;have U30:=hid hu30;have M30:=hid (show wrap64 (g3*u30)=p30 by rw [m30];exact wrap_small (by omega) (by omega))
 have hv0:evC (f 0) (f 3) (f 6) (f 9) i j n=fdiv (p00+p10+p20+p30) nn:=by
  unfold evC;rw [hu00,hu10,hu20,hu30,e0,e1,e2,e3,en,Int.mul_comm u00,Int.mul_comm u10,Int.mul_comm u20,Int.mul_comm u30,m00,m10,m20,m30]
 have A00:=hid (show wrap64 (0+p00)=p00 from by rw [Int.zero_add];exact wrap_small (by omega) (by omega));have A10:=hid (show wrap64 (p00+p10)=p00+p10 from by exact wrap_small (by omega) (by omega));have A20:=hid (show wrap64 (p00+p10+p20)=p00+p10+p20 from by exact wrap_small (by omega) (by omega));have A30:=hid (show wrap64 (p00+p10+p20+p30)=p00+p10+p20+p30 from by exact wrap_small (by omega) (by omega));have I0:=hid (I64.of (n:=p00+p10+p20+p30) (m:=20000000000) (by omega) (by decide));clear hu00 m00 t00 v00 hu10 m10 t10 v10 hu20 m20 t20 v20 hu30 m30 t30 v30
 obtain ⟨u01,hu01⟩:∃r,cl (f 1)=r:=⟨_,rfl⟩
 have v01:=cl_bd (f 1);rw [hu01] at v01;have t01:=wprod b0 v01
 obtain ⟨p01,m01⟩:∃r,g0*u01=r:=⟨_,rfl⟩
 rw [m01] at t01;have U01:=hid hu01;have M01:=hid (show wrap64 (g0*u01)=p01 by rw [m01];exact wrap_small (by omega) (by omega))
 obtain ⟨u11,hu11⟩:∃r,cl (f 4)=r:=⟨_,rfl⟩
 have v11:=cl_bd (f 4);rw [hu11] at v11;have t11:=wprod b1 v11
 obtain ⟨p11,m11⟩:∃r,g1*u11=r:=⟨_,rfl⟩
 rw [m11] at t11;have U11:=hid hu11;have M11:=hid (show wrap64 (g1*u11)=p11 by rw [m11];exact wrap_small (by omega) (by omega))
 obtain ⟨u21,hu21⟩:∃r,cl (f 7)=r:=⟨_,rfl⟩
 have v21:=cl_bd (f 7);rw [hu21] at v21;have t21:=wprod b2 v21
 obtain ⟨p21,m21⟩:∃r,g2*u21=r:=⟨_,rfl⟩
 rw [m21] at t21;have U21:=hid hu21;have M21:=hid (show wrap64 (g2*u21)=p21 by rw [m21];exact wrap_small (by omega) (by omega))
 obtain ⟨u31,hu31⟩:∃r,cl (f 10)=r:=⟨_,rfl⟩
 have v31:=cl_bd (f 10);rw [hu31] at v31;have t31:=wprod b3 v31
 obtain ⟨p31,m31⟩:∃r,g3*u31=r:=⟨_,rfl⟩
 rw [m31] at t31;have U31:=hid hu31;have M31:=hid (show wrap64 (g3*u31)=p31 by rw [m31];exact wrap_small (by omega) (by omega))
 have hv1:evC (f 1) (f 4) (f 7) (f 10) i j n=fdiv (p01+p11+p21+p31) nn:=by
  unfold evC;rw [hu01,hu11,hu21,hu31,e0,e1,e2,e3,en,Int.mul_comm u01,Int.mul_comm u11,Int.mul_comm u21,Int.mul_comm u31,m01,m11,m21,m31]
 have A01:=hid (show wrap64 (0+p01)=p01 from by rw [Int.zero_add];exact wrap_small (by omega) (by omega));have A11:=hid (show wrap64 (p01+p11)=p01+p11 from by exact wrap_small (by omega) (by omega));have A21:=hid (show wrap64 (p01+p11+p21)=p01+p11+p21 from by exact wrap_small (by omega) (by omega));have A31:=hid (show wrap64 (p01+p11+p21+p31)=p01+p11+p21+p31 from by exact wrap_small (by omega) (by omega));have I1:=hid (I64.of (n:=p01+p11+p21+p31) (m:=20000000000) (by omega) (by decide));clear hu01 m01 t01 v01 hu11 m11 t11 v11 hu21 m21 t21 v21 hu31 m31 t31 v31
 obtain ⟨u02,hu02⟩:∃r,cl (f 2)=r:=⟨_,rfl⟩
 have v02:=cl_bd (f 2);rw [hu02] at v02;have t02:=wprod b0 v02
 obtain ⟨p02,m02⟩:∃r,g0*u02=r:=⟨_,rfl⟩
 rw [m02] at t02;have U02:=hid hu02;have M02:=hid (show wrap64 (g0*u02)=p02 by rw [m02];exact wrap_small (by omega) (by omega))
 obtain ⟨u12,hu12⟩:∃r,cl (f 5)=r:=⟨_,rfl⟩
 have v12:=cl_bd (f 5);rw [hu12] at v12;have t12:=wprod b1 v12
 obtain ⟨p12,m12⟩:∃r,g1*u12=r:=⟨_,rfl⟩
 rw [m12] at t12;have U12:=hid hu12;have M12:=hid (show wrap64 (g1*u12)=p12 by rw [m12];exact wrap_small (by omega) (by omega))
 obtain ⟨u22,hu22⟩:∃r,cl (f 8)=r:=⟨_,rfl⟩
 have v22:=cl_bd (f 8);rw [hu22] at v22;have t22:=wprod b2 v22
 obtain ⟨p22,m22⟩:∃r,g2*u22=r:=⟨_,rfl⟩
 rw [m22] at t22;have U22:=hid hu22;have M22:=hid (show wrap64 (g2*u22)=p22 by rw [m22];exact wrap_small (by omega) (by omega))
 obtain ⟨u32,hu32⟩:∃r,cl (f 11)=r:=⟨_,rfl⟩
 have v32:=cl_bd (f 11);rw [hu32] at v32;have t32:=wprod b3 v32
 obtain ⟨p32,m32⟩:∃r,g3*u32=r:=⟨_,rfl⟩
 rw [m32] at t32;have U32:=hid hu32;have M32:=hid (show wrap64 (g3*u32)=p32 by rw [m32];exact wrap_small (by omega) (by omega))
 have hv2:evC (f 2) (f 5) (f 8) (f 11) i j n=fdiv (p02+p12+p22+p32) nn:=by
  unfold evC;rw [hu02,hu12,hu22,hu32,e0,e1,e2,e3,en,Int.mul_comm u02,Int.mul_comm u12,Int.mul_comm u22,Int.mul_comm u32,m02,m12,m22,m32]
 have A02:=hid (show wrap64 (0+p02)=p02 from by rw [Int.zero_add];exact wrap_small (by omega) (by omega));have A12:=hid (show wrap64 (p02+p12)=p02+p12 from by exact wrap_small (by omega) (by omega));have A22:=hid (show wrap64 (p02+p12+p22)=p02+p12+p22 from by exact wrap_small (by omega) (by omega));have A32:=hid (show wrap64 (p02+p12+p22+p32)=p02+p12+p22+p32 from by exact wrap_small (by omega) (by omega));have I2:=hid (I64.of (n:=p02+p12+p22+p32) (m:=20000000000) (by omega) (by decide));clear hu02 m02 t02 v02 hu12 m12 t12 v12 hu22 m22 t22 v22 hu32 m32 t32 v32
 have hV:(evP f i j n).V = .agg #[.int .i64 (fdiv (p00+p10+p20+p30) nn),.int .i64 (fdiv (p01+p11+p21+p31) nn),.int .i64 (fdiv (p02+p12+p22+p32) nn)]:=by
  unfold evP V3.V;simp only [hv0,hv1,hv2]
 rw [hV];clear hV hv0 hv1 hv2;have G0:=hid b0;have G1:=hid b1;have G2:=hid b2;have G3:=hid b3;have j0:=idxP f 0 (by decide);have j1:=idxP f 1 (by decide);have j2:=idxP f 2 (by decide);have j3:=idxP f 3 (by decide);simp only [Nat.mul_zero,Nat.zero_add,Nat.mul_one,Nat.reduceAdd,Nat.reduceMul,Int.ofNat_eq_natCast,Int.cast_ofNat_Int] at j0 j1 j2 j3;have z0:Ext w w:=Ext.refl w;go_enter Tryz.func158,Tryz.ntmps158;go_wp2_with fail;have q1:=Blk.new (w.alloc (.cells #[(f 0),(f 1),(f 2),(f 3),(f 4),(f 5),(f 6),(f 7),(f 8),(f 9),(f 10),(f 11)] 40)) 37 [(),(),()];have q2:=Blk.new ((w.alloc (.cells #[(f 0),(f 1),(f 2),(f 3),(f 4),(f 5),(f 6),(f 7),(f 8),(f 9),(f 10),(f 11)] 40)).alloc (.cells #[(),(),()] 37)) 299 [g0,g1,g2,g3];have q3:=Blk.new (((w.alloc (.cells #[(f 0),(f 1),(f 2),(f 3),(f 4),(f 5),(f 6),(f 7),(f 8),(f 9),(f 10),(f 11)] 40)).alloc (.cells #[(),(),()] 37)).alloc (.cells #[g0,g1,g2,g3] 299)) 37 [(),(),()];simp only [World.size_alloc] at q1 q2 q3;have Q1:=hid ((q1.alloc (.cells #[g0,g1,g2,g3] 299)).alloc (.cells #[(),(),()] 37));have Q2:=hid (q2.alloc (.cells #[(),(),()] 37));have Q3:=hid q3;have X0:=hid (show Ext w ((((w.alloc (.cells #[(f 0),(f 1),(f 2),(f 3),(f 4),(f 5),(f 6),(f 7),(f 8),(f 9),(f 10),(f 11)] 40)).alloc (.cells #[(),(),()] 37)).alloc (.cells #[g0,g1,g2,g3] 299)).alloc (.cells #[(),(),()] 37)) from X_);clear q1 q2 q3 z0
 obtain ⟨W0,hW0⟩:∃W0,((((w.alloc (.cells #[(f 0),(f 1),(f 2),(f 3),(f 4),(f 5),(f 6),(f 7),(f 8),(f 9),(f 10),(f 11)] 40)).alloc (.cells #[(),(),()] 37)).alloc (.cells #[g0,g1,g2,g3] 299)).alloc (.cells #[(),(),()] 37))=W0:=⟨_,rfl⟩
 rw [hW0] at Q1 Q2 Q3 X0 ⊢;clear hW0 e0 e1 e2 e3
 go_loopw [37] (fun i wr=>∃k:Nat,k<=4/\i = .int .i64 (k:Nat)/\Ext w wr/\Blk wr (w.heap.size+1) 37 [(),(),()]/\Blk wr (w.heap.size+2) 299 [g0,g1,g2,g3]/\(k=0->Blk wr (w.heap.size+3) 37 [(),(),()])/\(k=1->Blk wr (w.heap.size+3) 37 [.int .i64 (p00),.int .i64 (p01),.int .i64 (p02)])/\(k=2->Blk wr (w.heap.size+3) 37 [.int .i64 (p00+p10),.int .i64 (p01+p11),.int .i64 (p02+p12)])/\(k=3->Blk wr (w.heap.size+3) 37 [.int .i64 (p00+p10+p20),.int .i64 (p01+p11+p21),.int .i64 (p02+p12+p22)])/\(k=4->Blk wr (w.heap.size+3) 37 [.int .i64 (p00+p10+p20+p30),.int .i64 (p01+p11+p21+p31),.int .i64 (p02+p12+p22+p32)])) (fun i _=>4 - (intOf i).toNat)
 case atStart=>exact ⟨0,by omega,rfl,X0.out,Q1.out,Q2.out,fun _=>Q3.out,fun h=>absurd h (by decide),fun h=>absurd h (by decide),fun h=>absurd h (by decide),fun h=>absurd h (by decide)⟩
 case round=>
  obtain ⟨k,hk,rfl,hx,h1,h2,s0,s1,s2,s3,s4⟩:=hrel;have HX:=hid hx;have H1:=hid h1;have H2:=hid h2;have zw:=hx.size;have zr:=h2.lt
  have zq:w.heap.size+1<wr.heap.size:=by omega
  have S0:=hid s0;have S1:=hid s1;have S2:=hid s2;have S3:=hid s3;have S4:=hid s4;clear hx h1 h2 s0 s1 s2 s3 s4
  rcases (show k=0\/k=1\/k=2\/k=3\/k=4 by omega) with rfl|rfl|rfl|rfl|rfl
  ·have HS:=hid (S0.out rfl)
   obtain ⟨a0,a1,a2⟩:=HS.out.q3;have zs:=HS.out.lt;have c0:=H2.out.cell 0 rfl;clear S0 S1 S2 S3 S4;go_wp2_with fail;refine wp_region_stages [([0,1,3,4,5],2),([],6),([],7),([],8)] 8 (wr.heap.size+1) (by kernel_rfl) (by kernel_rfl) ?_;refine st_ fun K hK=>?_;go_wp2_with fail;refine (clamped_val U00.out U01.out U02.out _).mono ?_;rintro e w3 ⟨rfl,x3⟩;have y3:Ext (wr.alloc (.cells #[(f 0),(f 1),(f 2)] 37)) w3:=Ext.trans (Ext.drew (Ext.refl _)) x3;go_wp2_with fail;refine hK _ _ (.inr (y3.same (by simp))) ?_;clear hK K;refine st_ fun K hK=>?_;go_wp2_with fail;refine (times_val M00.out M01.out M02.out _).mono ?_;rintro e w4 ⟨rfl,x4⟩;have y4:=y3.trans x4;go_wp2_with fail;refine hK _ _ (.inr (y4.same (by simp))) ?_;clear hK K;refine st_ fun K hK=>?_;go_wp2_with fail;refine (plus_val A00.out A01.out A02.out _).mono ?_;rintro e w5 ⟨rfl,x5⟩;have y5:=y4.trans x5;go_wp2_with fail;refine hK _ _ (.inr (y5.same (by simp))) ?_;clear hK K;have Y5:Ext wr w5:=Ext.trans (show Ext wr (wr.alloc (.cells #[(f 0),(f 1),(f 2)] 37)) from X_) y5;have D1:=H1.out.ext Y5;have D2:=H2.out.ext Y5;have D3:=HS.out.ext Y5;have f0:=D3.free 0;have f1:=D3.free 1;have f2:=D3.free 2;have z3:=D3.lt;obtain ⟨k0,k1,k2⟩:=D3.q3;have X5:=HX.out.trans Y5
   have n1:w.heap.size+1≠w.heap.size+3:=by omega
   have n2:w.heap.size+2≠w.heap.size+3:=by omega
   have G3:=hid (((D3.set 0 (.int .i64 (p00))).set 1 (.int .i64 (p01))).set 2 (.int .i64 (p02)));have G1':=hid (((D1.other (a:=⟨w.heap.size+3,0,none⟩) n1 (.int .i64 (p00))).other (a:=⟨w.heap.size+3,1,none⟩) n1 (.int .i64 (p01))).other (a:=⟨w.heap.size+3,2,none⟩) n1 (.int .i64 (p02)));have G2':=hid (((D2.other (a:=⟨w.heap.size+3,0,none⟩) n2 (.int .i64 (p00))).other (a:=⟨w.heap.size+3,1,none⟩) n2 (.int .i64 (p01))).other (a:=⟨w.heap.size+3,2,none⟩) n2 (.int .i64 (p02)));have GX:=hid (show Ext w (((w5.setCell ⟨w.heap.size+3,0,none⟩ (.int .i64 (p00))).setCell ⟨w.heap.size+3,1,none⟩ (.int .i64 (p01))).setCell ⟨w.heap.size+3,2,none⟩ (.int .i64 (p02))) from S_);clear D1 D2 D3 X5 Y5 y3 y4 y5 x3 x4 x5 a0 a1 a2 c0;refine st_ fun K hK=>?_;go_wp2_with fail;refine hK _ _ (.inl (by trivial)) ?_;clear hK K;refine wpStages_nil ?_;go_wp2;go_roundw
   case rel=>exact ⟨1,by omega,by go_num,GX.out,G1'.out,G2'.out,fun h=>absurd h (by decide),fun _=>G3.out,fun h=>absurd h (by decide),fun h=>absurd h (by decide),fun h=>absurd h (by decide)⟩
   case measure=>simp [intOf]
  ·have HS:=hid (S1.out rfl)
   obtain ⟨a0,a1,a2⟩:=HS.out.q3;have zs:=HS.out.lt;have c0:=H2.out.cell 1 rfl;clear S0 S1 S2 S3 S4;go_wp2_with fail;refine wp_region_stages [([0,1,3,4,5],2),([],6),([],7),([],8)] 8 (wr.heap.size+1) (by kernel_rfl) (by kernel_rfl) ?_;refine st_ fun K hK=>?_;go_wp2_with fail;refine (clamped_val U10.out U11.out U12.out _).mono ?_;rintro e w3 ⟨rfl,x3⟩;have y3:Ext (wr.alloc (.cells #[(f 3),(f 4),(f 5)] 37)) w3:=Ext.trans (Ext.drew (Ext.refl _)) x3;go_wp2_with fail;refine hK _ _ (.inr (y3.same (by simp))) ?_;clear hK K;refine st_ fun K hK=>?_;go_wp2_with fail;refine (times_val M10.out M11.out M12.out _).mono ?_;rintro e w4 ⟨rfl,x4⟩;have y4:=y3.trans x4;go_wp2_with fail;refine hK _ _ (.inr (y4.same (by simp))) ?_;clear hK K;refine st_ fun K hK=>?_;go_wp2_with fail;refine (plus_val A10.out A11.out A12.out _).mono ?_;rintro e w5 ⟨rfl,x5⟩;have y5:=y4.trans x5;go_wp2_with fail;refine hK _ _ (.inr (y5.same (by simp))) ?_;clear hK K;have Y5:Ext wr w5:=Ext.trans (show Ext wr (wr.alloc (.cells #[(f 3),(f 4),(f 5)] 37)) from X_) y5;have D1:=H1.out.ext Y5;have D2:=H2.out.ext Y5;have D3:=HS.out.ext Y5;have f0:=D3.free 0;have f1:=D3.free 1;have f2:=D3.free 2;have z3:=D3.lt;obtain ⟨k0,k1,k2⟩:=D3.q3;have X5:=HX.out.trans Y5
   have n1:w.heap.size+1≠w.heap.size+3:=by omega
   have n2:w.heap.size+2≠w.heap.size+3:=by omega
   have G3:=hid (((D3.set 0 (.int .i64 (p00+p10))).set 1 (.int .i64 (p01+p11))).set 2 (.int .i64 (p02+p12)));have G1':=hid (((D1.other (a:=⟨w.heap.size+3,0,none⟩) n1 (.int .i64 (p00+p10))).other (a:=⟨w.heap.size+3,1,none⟩) n1 (.int .i64 (p01+p11))).other (a:=⟨w.heap.size+3,2,none⟩) n1 (.int .i64 (p02+p12)));have G2':=hid (((D2.other (a:=⟨w.heap.size+3,0,none⟩) n2 (.int .i64 (p00+p10))).other (a:=⟨w.heap.size+3,1,none⟩) n2 (.int .i64 (p01+p11))).other (a:=⟨w.heap.size+3,2,none⟩) n2 (.int .i64 (p02+p12)));have GX:=hid (show Ext w (((w5.setCell ⟨w.heap.size+3,0,none⟩ (.int .i64 (p00+p10))).setCell ⟨w.heap.size+3,1,none⟩ (.int .i64 (p01+p11))).setCell ⟨w.heap.size+3,2,none⟩ (.int .i64 (p02+p12))) from S_);clear D1 D2 D3 X5 Y5 y3 y4 y5 x3 x4 x5 a0 a1 a2 c0;refine st_ fun K hK=>?_;go_wp2_with fail;refine hK _ _ (.inl (by trivial)) ?_;clear hK K;refine wpStages_nil ?_;go_wp2;go_roundw
   case rel=>exact ⟨2,by omega,by go_num,GX.out,G1'.out,G2'.out,fun h=>absurd h (by decide),fun h=>absurd h (by decide),fun _=>G3.out,fun h=>absurd h (by decide),fun h=>absurd h (by decide)⟩
   case measure=>simp [intOf]
  ·have HS:=hid (S2.out rfl)
   obtain ⟨a0,a1,a2⟩:=HS.out.q3;have zs:=HS.out.lt;have c0:=H2.out.cell 2 rfl;clear S0 S1 S2 S3 S4;go_wp2_with fail;refine wp_region_stages [([0,1,3,4,5],2),([],6),([],7),([],8)] 8 (wr.heap.size+1) (by kernel_rfl) (by kernel_rfl) ?_;refine st_ fun K hK=>?_;go_wp2_with fail;refine (clamped_val U20.out U21.out U22.out _).mono ?_;rintro e w3 ⟨rfl,x3⟩;have y3:Ext (wr.alloc (.cells #[(f 6),(f 7),(f 8)] 37)) w3:=Ext.trans (Ext.drew (Ext.refl _)) x3;go_wp2_with fail;refine hK _ _ (.inr (y3.same (by simp))) ?_;clear hK K;refine st_ fun K hK=>?_;go_wp2_with fail;refine (times_val M20.out M21.out M22.out _).mono ?_;rintro e w4 ⟨rfl,x4⟩;have y4:=y3.trans x4;go_wp2_with fail;refine hK _ _ (.inr (y4.same (by simp))) ?_;clear hK K;refine st_ fun K hK=>?_;go_wp2_with fail;refine (plus_val A20.out A21.out A22.out _).mono ?_;rintro e w5 ⟨rfl,x5⟩;have y5:=y4.trans x5;go_wp2_with fail;refine hK _ _ (.inr (y5.same (by simp))) ?_;clear hK K;have Y5:Ext wr w5:=Ext.trans (show Ext wr (wr.alloc (.cells #[(f 6),(f 7),(f 8)] 37)) from X_) y5;have D1:=H1.out.ext Y5;have D2:=H2.out.ext Y5;have D3:=HS.out.ext Y5;have f0:=D3.free 0;have f1:=D3.free 1;have f2:=D3.free 2;have z3:=D3.lt;obtain ⟨k0,k1,k2⟩:=D3.q3;have X5:=HX.out.trans Y5
   have n1:w.heap.size+1≠w.heap.size+3:=by omega
   have n2:w.heap.size+2≠w.heap.size+3:=by omega
   have G3:=hid (((D3.set 0 (.int .i64 (p00+p10+p20))).set 1 (.int .i64 (p01+p11+p21))).set 2 (.int .i64 (p02+p12+p22)));have G1':=hid (((D1.other (a:=⟨w.heap.size+3,0,none⟩) n1 (.int .i64 (p00+p10+p20))).other (a:=⟨w.heap.size+3,1,none⟩) n1 (.int .i64 (p01+p11+p21))).other (a:=⟨w.heap.size+3,2,none⟩) n1 (.int .i64 (p02+p12+p22)));have G2':=hid (((D2.other (a:=⟨w.heap.size+3,0,none⟩) n2 (.int .i64 (p00+p10+p20))).other (a:=⟨w.heap.size+3,1,none⟩) n2 (.int .i64 (p01+p11+p21))).other (a:=⟨w.heap.size+3,2,none⟩) n2 (.int .i64 (p02+p12+p22)));have GX:=hid (show Ext w (((w5.setCell ⟨w.heap.size+3,0,none⟩ (.int .i64 (p00+p10+p20))).setCell ⟨w.heap.size+3,1,none⟩ (.int .i64 (p01+p11+p21))).setCell ⟨w.heap.size+3,2,none⟩ (.int .i64 (p02+p12+p22))) from S_);clear D1 D2 D3 X5 Y5 y3 y4 y5 x3 x4 x5 a0 a1 a2 c0;refine st_ fun K hK=>?_;go_wp2_with fail;refine hK _ _ (.inl (by trivial)) ?_;clear hK K;refine wpStages_nil ?_;go_wp2;go_roundw
   case rel=>exact ⟨3,by omega,by go_num,GX.out,G1'.out,G2'.out,fun h=>absurd h (by decide),fun h=>absurd h (by decide),fun h=>absurd h (by decide),fun _=>G3.out,fun h=>absurd h (by decide)⟩
   case measure=>simp [intOf]
  ·have HS:=hid (S3.out rfl)
   obtain ⟨a0,a1,a2⟩:=HS.out.q3;have zs:=HS.out.lt;have c0:=H2.out.cell 3 rfl;clear S0 S1 S2 S3 S4;go_wp2_with fail;refine wp_region_stages [([0,1,3,4,5],2),([],6),([],7),([],8)] 8 (wr.heap.size+1) (by kernel_rfl) (by kernel_rfl) ?_;refine st_ fun K hK=>?_;go_wp2_with fail;refine (clamped_val U30.out U31.out U32.out _).mono ?_;rintro e w3 ⟨rfl,x3⟩;have y3:Ext (wr.alloc (.cells #[(f 9),(f 10),(f 11)] 37)) w3:=Ext.trans (Ext.drew (Ext.refl _)) x3;go_wp2_with fail;refine hK _ _ (.inr (y3.same (by simp))) ?_;clear hK K;refine st_ fun K hK=>?_;go_wp2_with fail;refine (times_val M30.out M31.out M32.out _).mono ?_;rintro e w4 ⟨rfl,x4⟩;have y4:=y3.trans x4;go_wp2_with fail;refine hK _ _ (.inr (y4.same (by simp))) ?_;clear hK K;refine st_ fun K hK=>?_;go_wp2_with fail;refine (plus_val A30.out A31.out A32.out _).mono ?_;rintro e w5 ⟨rfl,x5⟩;have y5:=y4.trans x5;go_wp2_with fail;refine hK _ _ (.inr (y5.same (by simp))) ?_;clear hK K;have Y5:Ext wr w5:=Ext.trans (show Ext wr (wr.alloc (.cells #[(f 9),(f 10),(f 11)] 37)) from X_) y5;have D1:=H1.out.ext Y5;have D2:=H2.out.ext Y5;have D3:=HS.out.ext Y5;have f0:=D3.free 0;have f1:=D3.free 1;have f2:=D3.free 2;have z3:=D3.lt;obtain ⟨k0,k1,k2⟩:=D3.q3;have X5:=HX.out.trans Y5
   have n1:w.heap.size+1≠w.heap.size+3:=by omega
   have n2:w.heap.size+2≠w.heap.size+3:=by omega
   have G3:=hid (((D3.set 0 (.int .i64 (p00+p10+p20+p30))).set 1 (.int .i64 (p01+p11+p21+p31))).set 2 (.int .i64 (p02+p12+p22+p32)));have G1':=hid (((D1.other (a:=⟨w.heap.size+3,0,none⟩) n1 (.int .i64 (p00+p10+p20+p30))).other (a:=⟨w.heap.size+3,1,none⟩) n1 (.int .i64 (p01+p11+p21+p31))).other (a:=⟨w.heap.size+3,2,none⟩) n1 (.int .i64 (p02+p12+p22+p32)));have G2':=hid (((D2.other (a:=⟨w.heap.size+3,0,none⟩) n2 (.int .i64 (p00+p10+p20+p30))).other (a:=⟨w.heap.size+3,1,none⟩) n2 (.int .i64 (p01+p11+p21+p31))).other (a:=⟨w.heap.size+3,2,none⟩) n2 (.int .i64 (p02+p12+p22+p32)));have GX:=hid (show Ext w (((w5.setCell ⟨w.heap.size+3,0,none⟩ (.int .i64 (p00+p10+p20+p30))).setCell ⟨w.heap.size+3,1,none⟩ (.int .i64 (p01+p11+p21+p31))).setCell ⟨w.heap.size+3,2,none⟩ (.int .i64 (p02+p12+p22+p32))) from S_);clear D1 D2 D3 X5 Y5 y3 y4 y5 x3 x4 x5 a0 a1 a2 c0;refine st_ fun K hK=>?_;go_wp2_with fail;refine hK _ _ (.inl (by trivial)) ?_;clear hK K;refine wpStages_nil ?_;go_wp2;go_roundw
   case rel=>exact ⟨4,by omega,by go_num,GX.out,G1'.out,G2'.out,fun h=>absurd h (by decide),fun h=>absurd h (by decide),fun h=>absurd h (by decide),fun h=>absurd h (by decide),fun _=>G3.out⟩
   case measure=>simp [intOf]
  ·have HS:=hid (S4.out rfl)
   obtain ⟨a0,a1,a2⟩:=HS.out.q3;have zs:=HS.out.lt;have EN:=hid en;clear S0 S1 S2 S3 S4;go_wp2_with fail;refine (over_val I0.out I1.out I2.out rfl rfl rfl _).mono ?_;rintro e w3 ⟨rfl,x3⟩;have D1:=H1.out.ext x3;have f0:=D1.free 0;have f1:=D1.free 1;have f2:=D1.free 2;have z3:=D1.lt;obtain ⟨k0,k1,k2⟩:=D1.q3;have X5:=HX.out.trans x3;go_wp2;exact bodyPost_ret (v:=.agg #[.int .i64 (fdiv (p00+p10+p20+p30) nn),.int .i64 (fdiv (p01+p11+p21+p31) nn),.int .i64 (fdiv (p02+p12+p22+p32) nn)]) (by simp [results,Tryz.results158,go_sem, *]) rfl ⟨rfl,S_⟩
@[go_sem] theorem store_fn {P:Program} {w:World} {a:Addr} {m:Mode} (fn:Fn) (first captured:Array Value):(store a (.func fn first captured) m).run P w=stored P w a (.func fn first captured) m:=run_store P w a _ m rfl
theorem projection_val (c:Cam) (w:World):Calls Tryz.prog 295 #[c.V] w fun e w'=>∃B,e = .returned (pjFn c.deep B)/\B<w'.heap.size/\w'.cell? ⟨B,2,none⟩=some (.int .i64 c.zoom)/\Ext w w':=by
 obtain ⟨cw,ch,zo,ne,de,le,fo⟩:=c;have hmf:∀(fn:Fn) (first cap:Array Value) (w:World),(Instr.makeFunc fn first cap).run Tryz.prog w = .ok (.func fn first cap) w:=fun _ _ _ _=>rfl
 show Calls Tryz.prog 295 #[.agg #[cw,ch,zo,ne,.bool de,le,fo]] w _
 cases de
 ·go_enter Tryz.func295,Tryz.ntmps295
  go_wp2;go_ret;exact ⟨w.heap.size,rfl,by simp,by simp [go_sem],X_⟩
 ·go_enter Tryz.func295,Tryz.ntmps295
  go_wp2;go_ret;exact ⟨w.heap.size,rfl,by simp,by simp [go_sem],X_⟩
theorem set3_above {N B:Nat} (w:World) (hB:N<=B) (t u v:Value):Same 0 N w (((w.drew.setCell ⟨B,0,none⟩ t).setCell ⟨B,1,none⟩ u).setCell ⟨B,2,none⟩ v):=fun k _ hk=>by
 have hk:B≠k:=by omega
 rw [Below.heap_setCell _ _ _ _ (by exact hk.symm),Below.heap_setCell _ _ _ _ (by exact hk.symm),Below.heap_setCell _ _ _ _ (by exact hk.symm)]
 rfl
theorem project_yes (c:Cam) (x y z lx ly:Int) (h:c.prB ⟨x,y,z⟩ lx ly=true) (w:World) :
  Calls Tryz.prog 262 #[c.V,.agg #[x,y,z],lx,ly] w fun e w'=>e = .returned (.tuple #[(c.pr ⟨x,y,z⟩ lx ly).V,.bool true])/\Ext w w':=by
 unfold Cam.prB at h;simp only [Bool.and_eq_true,decide_eq_true_eq] at h;obtain ⟨⟨⟨⟨hc,hv⟩,hx⟩,hy⟩,hz⟩:=h;have OK:=Cam.okB_iff.1 hc;have hvv:=okVec_iff.1 hv;have ixl:=inB_iff.1 hx;have iyl:=inB_iff.1 hy;have hn:=OK.near
 obtain ⟨px,hpx⟩:∃n,c.pj x z lx (c.w*8)=n:=⟨_,rfl⟩
 obtain ⟨py,hpy⟩:∃n,c.pj y z ly (c.h*8)=n:=⟨_,rfl⟩
 have hV:(c.pr ⟨x,y,z⟩ lx ly).V = .agg #[px,py,z]:=by
  unfold Cam.pr V3.V;simp only [hpx,hpy]
 rw [hV];have HC:=hid hc;have HV:=hid hv;have HLX:=hid hx;have HLY:=hid hy;have HO:=hid OK;have P1:=hid hpx;have P2:=hid hpy;have VX:=hid hvv.1;have VY:=hid hvv.2.1;have VZ:=hid (show 1<=z/\z<=1000000 by omega);have LX:=hid ixl;have LY:=hid iyl;have WB:=hid OK.w;have HB:=hid OK.h;have hnz:decide (z<c.near)=false:=decide_eq_false (by omega);clear hc hv hx hy OK hvv ixl iyl hn hpx hpy hV hz;have hmf:∀(fn:Fn) (first cap:Array Value) (w:World),(Instr.makeFunc fn first cap).run Tryz.prog w = .ok (.func fn first cap) w:=fun _ _ _ _=>rfl;have hb0:=Blk.new w 24 [c.w,c.h,c.zoom,c.near,.bool c.deep,c.lens,c.focus];have hb1:=Blk.new (w.alloc (.cells #[c.w,c.h,c.zoom,c.near,.bool c.deep,c.lens,c.focus] 24)) 37 [x,y,z];have hb2:=Blk.new ((w.alloc (.cells #[c.w,c.h,c.zoom,c.near,.bool c.deep,c.lens,c.focus] 24)).alloc (.cells #[x,y,z] 37)) 37 [(),(),()];simp only [World.size_alloc] at hb1 hb2;have B0:=hid ((hb0.alloc (.cells #[x,y,z] 37)).alloc (.cells #[(),(),()] 37));have B1:=hid (hb1.alloc (.cells #[(),(),()] 37));have B2:=hid hb2;have Y0:=hid (show Ext w (((w.alloc (.cells #[c.w,c.h,c.zoom,c.near,.bool c.deep,c.lens,c.focus] 24)).alloc (.cells #[x,y,z] 37)).alloc (.cells #[(),(),()] 37)) from X_);clear hb0 hb1 hb2
 show Calls Tryz.prog 262 #[.agg #[c.w,c.h,c.zoom,c.near,.bool c.deep,c.lens,c.focus],.agg #[x,y,z],lx,ly] w _
 go_enter Tryz.func262,Tryz.ntmps262;go_wp2_with fail;refine (iIsValidCamera_val HC.out _).mono ?_;rintro e w1 ⟨rfl,x1⟩;have C0:=hid (B0.out.ext x1);have C1:=hid (B1.out.ext x1);have C2:=hid (B2.out.ext x1);have Y1:=hid (Y0.out.trans x1);obtain ⟨v0,v1,v2⟩:=C1.out.q3;have c3:=C0.out.cell 3 rfl;have z0:=C0.out.lt;have z1:=C1.out.lt;clear B0 B1 B2 Y0 x1;go_wp2_with fail;refine (iIsValidVec_val (x:=x) (y:=y) (z:=z) _).mono ?_;rintro e w2 ⟨rfl,x2⟩;rw [HV.out];have D0:=hid (C0.out.ext x2);have D1:=hid (C1.out.ext x2);have D2:=hid (C2.out.ext x2);have Y2:=hid (Y1.out.trans x2);have zx:=x2.size;clear C0 C1 C2 Y1 v0 v1 v2 c3 x2;have v2:=D1.out.cell 2 rfl;obtain ⟨c0,c1,c2,c3,c4,c5,c6⟩:=D0.out.q7;go_wp2_with (go_at_call 54;with_reducible first|(refine (within_val HLX.out _).mono ?_;rintro e w3 ⟨rfl,rfl⟩)|(refine (within_val HLY.out _).mono ?_;rintro e w3 ⟨rfl,rfl⟩));refine (projection_val c _).mono ?_;rintro e w3 ⟨Cp,rfl,hCp,hcz,x3⟩
 obtain ⟨FN,hFN⟩:∃FN:Fn,pjFn c.deep Cp = .func FN #[] #[.pointer (some ⟨Cp,0,none⟩)]:=⟨_,rfl⟩
 rw [hFN];have HF:=hid hFN;have y4:Ext w3 (w3.alloc (.cells #[.func FN #[] #[.pointer (some ⟨Cp,0,none⟩)]] 119)):=X_;have hq:=(Blk.new w3 119 [.func FN #[] #[.pointer (some ⟨Cp,0,none⟩)]]).cell 0 rfl;have E0:=hid ((D0.out.ext x3).ext y4);have E1:=hid ((D1.out.ext x3).ext y4);have E2:=hid ((D2.out.ext x3).ext y4);have cz:=(y4.cells.1 _ _ hCp).trans hcz;have Y4:=hid (Y2.out.trans (x3.trans y4));have zs:=x3.size;have HQ:=hid hq;have CZ:=hid cz;clear hFN hCp hcz x3 D0 D1 D2 Y2 v2 c0 c1 c2 c3 c4 c5 c6 hq cz y4;go_upto_region 5 with fail
 obtain ⟨w4,hw4⟩:∃w4,w3.alloc (.cells #[.func FN #[] #[.pointer (some ⟨Cp,0,none⟩)]] 119)=w4:=⟨_,rfl⟩
 rw [hw4] at E0 E1 E2 CZ HQ Y4 ⊢;clear hw4;obtain ⟨c0,c1⟩:=E0.out.q2;obtain ⟨v0,v1,v2⟩:=E1.out.q3;have z4:=E2.out.lt;have f0:=E2.out.free 0;have f1:=E2.out.free 1;have f2:=E2.out.free 2;obtain ⟨k0,k1,k2⟩:=E2.out.q3;refine wp_region_stages [([0,1,2,3,4,5,7,8,9,10,11,12,14,15],6),([],13),([16],17),([],18)] 18 (w.heap.size+2) (by kernel_rfl) (by kernel_rfl) ?_;refine st_ fun K hK=>?_;go_wp2_with fail;refine (iCoord_val HO.out VX.out VZ.out LX.out WB.out P1.out w.heap.size Cp (w.heap.size+1) w3.heap.size w4.drew CZ.out (E0.out.cell 5 rfl) (E0.out.cell 6 rfl) v2 (HQ.out.trans (congrArg some HF.out.symm))).mono ?_;rintro e w5 ⟨rfl,rfl⟩;go_wp2_with fail;refine hK _ _ (.inr (fun _ _ _=>rfl)) ?_;clear hK K;refine st_ fun K hK=>?_;go_wp2_with fail;refine (iCoord_val HO.out VY.out VZ.out LY.out HB.out P2.out w.heap.size Cp (w.heap.size+1) w3.heap.size w4.drew CZ.out (E0.out.cell 5 rfl) (E0.out.cell 6 rfl) v2 (HQ.out.trans (congrArg some HF.out.symm))).mono ?_;rintro e w5 ⟨rfl,rfl⟩;go_wp2_with fail;refine hK _ _ (.inr (fun _ _ _=>rfl)) ?_;clear hK K;refine st_ fun K hK=>?_;go_wp2_with fail;refine hK _ _ (.inr (set3_above _ (Nat.le_refl _) _ _ _)) ?_;clear hK K;refine st_ fun K hK=>?_;go_wp2_with fail;refine hK _ _ (.inl (by trivial)) ?_;clear hK K;refine wpStages_nil ?_;have hX:=Y4.out;go_wp2;exact bodyPost_ret (v:=.tuple #[.agg #[px,py,z],.bool true]) (by simp [results,Tryz.results262,go_sem, *]) rfl ⟨rfl,S_⟩
theorem project_no (c:Cam) (x y z lx ly:Int) (h:c.prB ⟨x,y,z⟩ lx ly=false) (w:World) :
  Calls Tryz.prog 262 #[c.V,.agg #[x,y,z],lx,ly] w fun e w'=>e = .returned (.tuple #[.agg #[(),(),()],.bool false])/\Ext w w':=by
 unfold Cam.prB at h
 obtain ⟨b1,h1⟩:∃b,c.okB=b:=⟨_,rfl⟩
 obtain ⟨b2,h2⟩:∃b,okVec x y z=b:=⟨_,rfl⟩
 obtain ⟨b3,h3⟩:∃b,inB lx (-16) 16=b:=⟨_,rfl⟩
 obtain ⟨b4,h4⟩:∃b,inB ly (-16) 16=b:=⟨_,rfl⟩
 obtain ⟨b5,h5⟩:∃b,decide (c.near<=z)=b:=⟨_,rfl⟩
 simp only [h1,h2,h3,h4,h5] at h
 have h6:decide (z<c.near) = !b5:=by
  rw [<-h5]
  by_cases q:c.near<=z
  ·rw [decide_eq_true q,decide_eq_false (by omega)];rfl
  ·rw [decide_eq_false q,decide_eq_true (by omega)];rfl
 have HC:=hid h1;have HV:=hid h2;have HLX:=hid h3;have HLY:=hid h4;clear h1 h2 h3 h4 h5;have hb0:=Blk.new w 24 [c.w,c.h,c.zoom,c.near,.bool c.deep,c.lens,c.focus];have hb1:=Blk.new (w.alloc (.cells #[c.w,c.h,c.zoom,c.near,.bool c.deep,c.lens,c.focus] 24)) 37 [x,y,z];have hb2:=Blk.new ((w.alloc (.cells #[c.w,c.h,c.zoom,c.near,.bool c.deep,c.lens,c.focus] 24)).alloc (.cells #[x,y,z] 37)) 37 [(),(),()];simp only [World.size_alloc] at hb1 hb2;have B0:=hid ((hb0.alloc (.cells #[x,y,z] 37)).alloc (.cells #[(),(),()] 37));have B1:=hid (hb1.alloc (.cells #[(),(),()] 37));have B2:=hid hb2;have Y0:=hid (show Ext w (((w.alloc (.cells #[c.w,c.h,c.zoom,c.near,.bool c.deep,c.lens,c.focus] 24)).alloc (.cells #[x,y,z] 37)).alloc (.cells #[(),(),()] 37)) from X_);clear hb0 hb1 hb2
 show Calls Tryz.prog 262 #[.agg #[c.w,c.h,c.zoom,c.near,.bool c.deep,c.lens,c.focus],.agg #[x,y,z],lx,ly] w _
 go_enter Tryz.func262,Tryz.ntmps262;go_wp2_with fail;refine (iIsValidCamera_val HC.out _).mono ?_;rintro e w1 ⟨rfl,x1⟩
 cases b1
 ·have C2:=B2.out.ext x1
  have f0:=C2.free 0;have f1:=C2.free 1;have f2:=C2.free 2;obtain ⟨k0,k1,k2⟩:=C2.q3;have z2:=C2.lt;have hX:=Y0.out.trans x1;go_wp2;exact bodyPost_ret (v:=.tuple #[.agg #[(),(),()],.bool false]) (by simp [results,Tryz.results262,go_sem, *]) rfl ⟨rfl,S_⟩
 ·have C0:=hid (B0.out.ext x1)
  have C1:=hid (B1.out.ext x1);have C2:=hid (B2.out.ext x1);have Y1:=hid (Y0.out.trans x1);obtain ⟨v0,v1,v2⟩:=C1.out.q3;have z0:=C0.out.lt;have z1:=C1.out.lt;clear B0 B1 B2 Y0 x1;go_wp2_with fail;refine (iIsValidVec_val (x:=x) (y:=y) (z:=z) _).mono ?_;rintro e w2 ⟨rfl,x2⟩;rw [HV.out];have D0:=C0.out.ext x2;have D1:=C1.out.ext x2;have D2:=C2.out.ext x2;have hX:=Y1.out.trans x2;have c3:=D0.cell 3 rfl;have q2:=D1.cell 2 rfl;have f0:=D2.free 0;have f1:=D2.free 1;have f2:=D2.free 2;obtain ⟨k0,k1,k2⟩:=D2.q3;have y0:=D0.lt;have y1:=D1.lt;have y2:=D2.lt;clear C0 C1 C2 Y1 v0 v1 v2 x2 D0 D1 D2
  cases b2
  rotate_left
  cases b3
  rotate_left
  cases b4
  rotate_left
  cases b5
  rotate_left
  ·cases h
  all_goals
   try simp only [Bool.not_false,Bool.not_true] at h6
   go_wp2_with (go_at_call 54;with_reducible first|(refine (within_val HLX.out _).mono ?_;rintro e w3 ⟨rfl,rfl⟩)|(refine (within_val HLY.out _).mono ?_;rintro e w3 ⟨rfl,rfl⟩));exact bodyPost_ret (v:=.tuple #[.agg #[(),(),()],.bool false]) (by simp [results,Tryz.results262,go_sem, *]) rfl ⟨rfl,S_⟩
open Classical in
noncomputable def lowc (C:Addr->Prop) (w d:World):World:=if (∀a,C a->d.cell? a=w.cell? a/\d.frozen? a=w.frozen? a) then d else w
theorem lowc_same (C:Addr->Prop) (w d:World):∀a,C a->(lowc C w d).cell? a=w.cell? a/\(lowc C w d).frozen? a=w.frozen? a:=by
 unfold lowc
 split
 ·assumption
 ·exact fun _ _=>⟨rfl,rfl⟩
@[go_sem] theorem cell?_lowc (C:Addr->Prop) (w d:World) (a:Addr) (h:C a):(lowc C w d).cell? a=w.cell? a:=(lowc_same C w d a h).1
@[go_sem] theorem frozen?_lowc (C:Addr->Prop) (w d:World) (a:Addr) (h:C a):(lowc C w d).frozen? a=w.frozen? a:=(lowc_same C w d a h).2
def SC (C:Addr->Prop) (w:World):World->Prop:=fun w'=>∃d,w'=lowc C w d
theorem SC.of {C:Addr->Prop} {w w2:World} (h:∀a,C a->w2.cell? a=w.cell? a/\w2.frozen? a=w.frozen? a):SC C w w2:=⟨w2,by unfold lowc;rw [if_pos h]⟩
theorem SC.drew (C:Addr->Prop) (w:World):SC C w w.drew:=SC.of fun _ _=>⟨rfl,rfl⟩
theorem SC.get {C:Addr->Prop} {w w2:World} (h:SC C w w2):∀a,C a->w2.cell? a=w.cell? a/\w2.frozen? a=w.frozen? a:=by
 obtain ⟨d,rfl⟩:=h;exact lowc_same C w d
theorem SC.blocks {C:Addr->Prop} {w w2:World} (h:∀a,C a->w2.heap[a.block]?=w.heap[a.block]?):SC C w w2:=SC.of fun a ha=>⟨World.cell?_of_block (h a ha),World.frozen?_of_block (h a ha)⟩
theorem bind_ok {P:Program} {α β : Type} {s:Sem α} {f : α->Sem β} {w w':World} {b : β} (h:(s.bind f).run P w = .ok b w'):∃a w1,(f a).run P w1 = .ok b w':=by
 rw [Sem.run_bind'] at h
 cases hs:s.run P w with
 | ok v w1=>rw [hs] at h;exact ⟨v,w1,h⟩
 | halt x w1=>rw [hs] at h;simp at h
theorem nil_value {P:Program} {ρ : Operand->Value} {x:Operand} {o:Oper} (hx:o.op = .nilCheck x) {w w':World} {n:Next} (h:(execOp ρ o).run P w = .ok n w'):∃v,n = .value v:=by
 unfold execOp at h;rw [hx] at h;dsimp only at h
 have hp:∀{v:Value} {w1:World},Sem.run P (pure (Next.value v)) w1=Result.ok n w'->∃v,n = .value v:=fun h=>by simp at h;exact ⟨_,h.1.symm⟩
 split at h
 ·simp [runtimePanic] at h
 ·simp [runtimePanic] at h
 ·simp [runtimePanic] at h
 ·split at h
  ·simp [runtimePanic] at h
  ·obtain ⟨a,w1,h⟩:=bind_ok h
   obtain ⟨c,w2,h⟩:=bind_ok h
   split at h
   ·obtain ⟨d,w3,h⟩:=bind_ok h
    exact hp h
   ·exact hp h
  ·exact hp h
 ·exact hp h
def isReadC:Op->Bool
 | .nilCheck _=>true
 | o=>isRead o
theorem value_onlyC {P:Program} {ρ : Operand->Value} {o:Oper} (hr:isReadC o.op=true) {w w':World} {n:Next} (h:(execOp ρ o).run P w = .ok n w'):∃v,n = .value v:=by
 by_cases hn:∃x,o.op = .nilCheck x
 ·obtain ⟨x,hx⟩:=hn
  exact nil_value hx h
 ·refine value_only ?_ h
  revert hr hn
  cases o.op <;> intro hr hn <;> first|exact absurd ⟨_,rfl⟩ hn|exact hr
def readsOkC (ops:Array Oper):List (List Nat×Nat)->Bool
 | []=>true
 | (T,_)::r=>T.all (fun i=>match ops[i]? with|some o=>isReadC o.op|none=>false)&&readsOkC ops r
def wpStagesS (P:Program) (ops:Array Oper) (Q:Exit->Act->World->Prop) (S:World->Prop) (z:Nat):List (List Nat×Nat)->Act->World->Prop
 | [],a,w=>Q .normal a w
 | (T,e)::r,a,w=>wpQuiet P ops S (fun a'=>∃o,ops[e]?=some o/\wpList P ops (Exit.then (fun a2 w2=>(e=z\/S w2)/\wpStagesS P ops Q S z r a2 w2) Q) [o] a' w) (T.filterMap (ops[·]?)) a
theorem plan_of_quietS {P:Program} {ops:Array Oper} {Q:Exit->Act->World->Prop} {S:World->Prop} {z:Nat} {r:List (Bool×Nat)} {w:World} {K:Act->Prop}
  (hK:∀a,K a->wpPlan P ops Q S z r a w) :
  ∀(T:List Nat) (a:Act),T.all (fun i=>match ops[i]? with|some o=>isReadC o.op|none=>false)=true->wpQuiet P ops S K (T.filterMap (ops[·]?)) a ->
   wpPlan P ops Q S z (T.map (fun i=>(true,i))++r) a w
 | [],a,_,h=>hK a h
 | i::T,a,hr,h=>by
  simp only [List.all_cons,Bool.and_eq_true] at hr;obtain ⟨hri,hr'⟩:=hr
  cases ho:ops[i]? with
  | none=>rw [ho] at hri;cases hri
  | some o=>
   rw [ho] at hri;simp only [List.filterMap_cons,ho] at h;refine ⟨o,ho,?_⟩;unfold takeOp;unfold wpQuiet at h
   split
   ·rename_i hw
    rw [if_pos hw] at h;obtain ⟨v,hv,hn⟩:=h;refine ⟨v,fun w' hw'=>?_,plan_of_quietS hK T _ hr' hn⟩;have h1:=hv w' hw';unfold Oper.quietAt at h1
    cases hrun:(execOp a.eval o).run P w' with
    | halt x w1=>rw [hrun] at h1;exact h1.elim
    | ok n w1=>
     obtain ⟨u,rfl⟩:=value_onlyC hri hrun;rw [hrun] at h1;obtain ⟨e1,e2⟩:=h1;rw [e1,e2]
   ·rename_i hw
    rw [if_neg hw] at h;exact plan_of_quietS hK T _ hr' h
theorem plan_of_stagesS {P:Program} {ops:Array Oper} {Q:Exit->Act->World->Prop} {S:World->Prop} {z:Nat}:∀(st:List (List Nat×Nat)) (a:Act) (w:World),readsOkC ops st=true ->
  wpStagesS P ops Q S z st a w->wpPlan P ops Q S z (stagesPlan st) a w
 | [],_,_,_,h=>h
 | (T,e)::r,a,w,hr,h=>by
  simp only [readsOkC,Bool.and_eq_true] at hr;refine plan_of_quietS (K:=fun a'=>∃o,ops[e]?=some o/\wpList P ops (Exit.then (fun a2 w2=>(e=z\/S w2)/\wpStagesS P ops Q S z r a2 w2) Q) [o] a' w) (fun a' ha=>?_) T a hr.1 h;obtain ⟨o,ho,hl⟩:=ha;refine ⟨o,ho,?_⟩
  have key:∀a2 w2,((e=z\/S w2)/\wpStagesS P ops Q S z r a2 w2)->((e=z\/S w2)/\wpPlan P ops Q S z (stagesPlan r) a2 w2):=
   fun a2 w2 ⟨k1,k2⟩=>⟨k1,plan_of_stagesS r a2 w2 hr.2 k2⟩
  unfold wpList at hl ⊢
  split
  ·rename_i hw
   rw [if_pos hw] at hl
   rcases hl with hl|⟨h1,h2⟩
   ·refine .inl ?_
    have h3:=upon_then hl;have h4:o.wp P a' w (wpList P ops (Exit.then (fun a2 w2=>(e=z\/S w2)/\wpStagesS P ops Q S z r a2 w2) Q) []) Q:=h3;have h5:=Oper.wp_mono (K':=wpList P ops (Exit.then (fun a2 w2=>(e=z\/S w2)/\wpPlan P ops Q S z (stagesPlan r) a2 w2) Q) []) (fun a2 w2 hk=>key a2 w2 hk) h4;unfold Oper.wp at h5 ⊢;generalize (execOp a'.eval o).run P w=res at h5 ⊢
    cases res with
    | ok n w'=>cases n <;> exact h5
    | halt x w'=>cases x <;> exact h5
   ·exact .inr ⟨h1,h2⟩
  ·rename_i hw
   rw [if_neg hw] at hl;exact key _ _ hl
theorem wp_region_stagesS {P:Program} {Q:Exit->Act->World->Prop} {id:Nat} {a:Act} {w:World} {l:List Oper} (st:List (List Nat×Nat)) (z:Nat) (S:World->Prop) (hm:P.follows .mixedOrders=true)
  (hB:(planB .any l.toArray z (stagesPlan st)&&readsOkC l.toArray st&&(stagesPlan st).length==l.length)=true)
  (hS:S w.drew) (h:wpStagesS P l.toArray (NoPanic Q) S z st a w.drew):(Code.region id l.toArray true).wp P Q a w:=by
 simp only [Bool.and_eq_true,beq_iff_eq] at hB;exact wp_region_plan (stagesPlan st) z S hm hB.1.1 hB.2 hS (plan_of_stagesS st a w.drew hB.1.2 h)
theorem wpStagesS_nil {P:Program} {ops:Array Oper} {Q:Exit->Act->World->Prop} {S:World->Prop} {z:Nat} {a:Act} {w:World} (h:Q .normal a w):wpStagesS P ops (NoPanic Q) S z [] a w:=h
theorem wpStagesS_cons {P:Program} {ops:Array Oper} {Q:Exit->Act->World->Prop} {S:World->Prop} {z:Nat} {T:List Nat} {e:Nat} {r:List (List Nat×Nat)} {a:Act} {w:World}
  (h:wpQuiet P ops S (fun a'=>∃o,ops[e]?=some o/\∀K:Act->World->Prop,(∀a2 w2,(e=z\/S w2)->wpStagesS P ops Q S z r a2 w2->K a2 w2)->wpList P ops (Exit.then K Q) [o] a' w) (T.filterMap (ops[·]?)) a) :
  wpStagesS P ops Q S z ((T,e)::r) a w:=by
 unfold wpStagesS
 have e1:(fun a'=>∃o,ops[e]?=some o/\wpList P ops (Exit.then (fun a2 w2=>(e=z\/S w2)/\wpStagesS P ops Q S z r a2 w2) Q) [o] a' w) =
   (fun a'=>∃o,ops[e]?=some o/\∀K:Act->World->Prop,(∀a2 w2,(e=z\/S w2)->wpStagesS P ops Q S z r a2 w2->K a2 w2)->wpList P ops (Exit.then K Q) [o] a' w):=by
  funext a'
  refine propext ⟨fun ⟨o,ho,hl⟩=>⟨o,ho,fun K hK=>?_⟩,fun ⟨o,ho,hl⟩=>⟨o,ho,hl _ fun a2 w2 h1 h2=>⟨h1,h2⟩⟩⟩;unfold wpList at hl ⊢
  split
  ·rename_i hw
   rw [if_pos hw] at hl
   rcases hl with hl|⟨h1,h2⟩
   ·refine .inl ?_
    have h4:=Oper.wp_mono (K':=wpList P ops (Exit.then K Q) []) (fun a2 w2 hk=>hK a2 w2 hk.1 hk.2) hl;unfold Oper.wp at h4 ⊢;generalize (execOp a'.eval o).run P w=res at h4 ⊢
    cases res with
    | ok n w'=>cases n <;> exact h4
    | halt x w'=>cases x <;> exact h4
   ·exact .inr ⟨h1,h2⟩
  ·rename_i hw
   rw [if_neg hw] at hl;exact hK _ _ hl.1 hl.2
 rw [e1];exact h
def wpZS (P:Program) (ops:Array Oper) (Q:Exit->Act->World->Prop) (S:World->Prop) (z fuel:Nat) (listed:Array Bool) (a:Act) (w:World):Prop:=
 wpAnyZ P .any ops Q S z fuel listed a w
def takesOkC (ops:Array Oper) (z:Nat):List Nat->Array Bool->Bool
 | [],_=>true
 | i::r,l=>(match ops[i]? with|some o=>isReadC o.op|none=>false)&&(i != z&&Region.free .any ops l i&&(Region.ready .any ops l).contains i)&&takesOkC ops z r (l.setIfInBounds i true)
def stageOkC (ops:Array Oper) (z:Nat) (T E:List Nat) (l:Array Bool):Bool:=
 Region.noSelect ops&&waitsAll .any ops z&&takesOkC ops z T l&&(Region.ready .any ops (listAll T l)==E) && !E.isEmpty
def wpComesS (P:Program) (ops:Array Oper) (Q:Exit->Act->World->Prop) (S:World->Prop) (z fuel:Nat) (l:Array Bool) (e:Nat) (a:Act) (w:World):Prop:=
 ∃o,ops[e]?=some o/\∀K:Act->World->Prop,(∀a2 w2,(e=z\/S w2)->wpZS P ops Q S z fuel (l.setIfInBounds e true) a2 w2->K a2 w2)->wpList P ops (Exit.then K Q) [o] a w
theorem wpOp_of_comesS {P:Program} {ops:Array Oper} {Q:Exit->Act->World->Prop} {S:World->Prop} {z fuel:Nat} {l:Array Bool} {e:Nat} {a:Act} {w:World} (h:wpComesS P ops Q S z fuel l e a w) :
  wpOp P ops Q e (fun a' w'=>(e=z\/S w')/\wpZS P ops Q S z fuel (l.setIfInBounds e true) a' w') a w:=by
 obtain ⟨o,ho,hl⟩:=h;have ht:=hl (fun a' w'=>(e=z\/S w')/\wpZS P ops Q S z fuel (l.setIfInBounds e true) a' w') (fun a2 w2 k1 k2=>⟨k1,k2⟩);unfold wpOp;simp only [ho];unfold wpList at ht
 split
 ·rename_i hw
  rw [if_pos hw] at ht
  rcases ht with ht|⟨h1,h2⟩
  ·refine .inl ?_
   have h3:=upon_then ht;exact h3
  ·exact .inr ⟨h1,h2⟩
 ·rename_i hw
  rw [if_neg hw] at ht;exact ht
theorem wpZS_takes {P:Program} {ops:Array Oper} {Q:Exit->Act->World->Prop} {S:World->Prop} {z fuel:Nat} {w:World} {K:Act->Prop} (hsel:Region.noSelect ops=true) (hz:waitsAll .any ops z=true) (hS:S w) :
  ∀(T:List Nat) (l:Array Bool) (a:Act),takesOkC ops z T l=true->(∀a,K a->wpZS P ops (NoPanic Q) S z fuel (listAll T l) a w) ->
   wpQuiet P ops S K (T.filterMap (ops[·]?)) a->wpZS P ops (NoPanic Q) S z (T.length+fuel) l a w
 | [],l,a,_,hK,h=>by rw [List.length_nil,Nat.zero_add];exact hK a h
 | i::T,l,a,hT,hK,h=>by
  simp only [takesOkC,Bool.and_eq_true,bne_iff_ne] at hT;obtain ⟨⟨hri,⟨hiz,hf⟩,hr⟩,hT'⟩:=hT
  cases ho:ops[i]? with
  | none=>rw [ho] at hri;cases hri
  | some o=>
   rw [ho] at hri;simp only [List.filterMap_cons,ho] at h;unfold wpQuiet at h
   have hlen:(i::T).length+fuel=T.length+fuel+1:=by rw [List.length_cons];omega
   rw [hlen]
   split at h
   ·rename_i hw
    obtain ⟨v,hv,hn⟩:=h;refine wpAnyZ_first (v:=v) ho hz hiz (Region.noSelect_spec hsel) (fun c a w k=>k) _ l a w (Region.free_spec ho hf) (by simpa using hr) (.inl ⟨hw,fun w' hw'=>?_⟩) hS (wpZS_takes hsel hz hS T _ _ hT' hK hn);have h1:=hv w' hw';unfold Oper.quietAt at h1
    cases hrun:(execOp a.eval o).run P w' with
    | halt x w1=>rw [hrun] at h1;exact h1.elim
    | ok n w1=>
     obtain ⟨u,rfl⟩:=value_onlyC hri hrun;rw [hrun] at h1;obtain ⟨e1,e2⟩:=h1;rw [e1,e2]
   ·rename_i hw
    exact wpAnyZ_first (v:=undef) ho hz hiz (Region.noSelect_spec hsel) (fun c a w k=>k) _ l a w (Region.free_spec ho hf) (by simpa using hr) (.inr ⟨by simpa using hw,rfl⟩) hS (wpZS_takes hsel hz hS T _ _ hT' hK h)
theorem wpZS_stage {P:Program} {ops:Array Oper} {Q:Exit->Act->World->Prop} {S:World->Prop} {z fuel:Nat} {l:Array Bool} {a:Act} {w:World} (T E:List Nat) (hB:stageOkC ops z T E l=true) (hS:S w)
  (h:wpQuiet P ops S (fun a'=>∀e∈E,wpComesS P ops (NoPanic Q) S z fuel (listAll T l) e a' w) (T.filterMap (ops[·]?)) a) :
  wpZS P ops (NoPanic Q) S z (T.length+(fuel+1)) l a w:=by
 simp only [stageOkC,Bool.and_eq_true,beq_iff_eq] at hB;obtain ⟨⟨⟨⟨h1,h2⟩,h3⟩,h4⟩,h5⟩:=hB;refine wpZS_takes h1 h2 hS T l a h3 (fun a' hk=>?_) h;refine ⟨fun h0=>?_,fun e he=>?_⟩
 ·rw [h4] at h0;rw [h0] at h5;cases h5
 ·rw [h4] at he
  exact wpOp_of_comesS (hk e he)
theorem wpZS_end {P:Program} {ops:Array Oper} {Q:Exit->Act->World->Prop} {S:World->Prop} {z:Nat} {l:Array Bool} {a:Act} {w:World} (hB:(Region.ready .any ops l).isEmpty=true) (h:Q .normal a w):wpZS P ops (NoPanic Q) S z 0 l a w:=
 ⟨by simpa using hB,h⟩
theorem wp_region_ZS {P:Program} {Q:Exit->Act->World->Prop} {id:Nat} {a:Act} {w:World} {l:List Oper} (z:Nat) (S:World->Prop) (hm:P.follows .mixedOrders=true)
  (h:wpZS P l.toArray (NoPanic Q) S z l.length (Array.replicate l.length false) a w.drew):(Code.region id l.toArray true).wp P Q a w:=by
 refine wp_region_noPanic (wp_region_any hm ?_);have:=wpAny_of_Z _ _ _ _ h
 simpa using this
theorem sc_ {P:Program} {ops:Array Oper} {Q:Exit->Act->World->Prop} {S:World->Prop} {z:Nat} {T:List Nat} {e:Nat} {r:List (List Nat×Nat)} {a:Act} {w:World} {l:List Oper} {a0 a1:Act} {o:Oper}
  (h:∀K:Act->World->Prop,(∀a2 w2,(e=z\/S w2)->wpStagesS P ops Q S z r a2 w2->K a2 w2)->wpList P ops (Exit.then K Q) [o] a1 w)
  (hl:T.filterMap (ops[·]?)=l:=by first|(simp only [List.filterMap_cons,List.filterMap_nil,List.getElem?_toArray,List.getElem?_cons_zero,List.getElem?_cons_succ];rfl)|rfl)
  (ha:a=a0:=by first|(simp only [Act.put,List.setIfInBounds_toArray,List.set_cons_succ,List.set_cons_zero];rfl)|rfl)
  (hq:∀R:Act->Prop,R a1->wpQuiet P ops S R l a0:=by intro R h;(repeat (show wpQuiet _ _ _ _ (_::_) _;go_big_quiet_step (fail)));exact wpQuiet_nil h) (ho:ops[e]?=some o:=by rfl):wpStagesS P ops Q S z ((T,e)::r) a w:=by
 subst ha;refine wpStagesS_cons ?_;rw [hl];exact hq _ ⟨o,ho,h⟩
def putL (a:Act):List (Nat×Value)->Act
 | []=>a
 | (d,v)::r=>putL (a.put (some d) v) r
theorem put_get (a:Act) (d:Nat) (v:Value) (i:Nat):(a.put (some d) v).tmps[i]?=if d=i then (a.tmps[i]?).map (fun _=>v) else a.tmps[i]?:=by
 show (a.tmps.setIfInBounds d v)[i]?=_
 rw [Array.getElem?_setIfInBounds]
 split
 ·rename_i e
  subst e
  split
  ·rename_i h
   rw [Array.getElem?_eq_getElem h]
   rfl
  ·rename_i h
   rw [Array.getElem?_eq_none (by omega)]
   rfl
 ·rfl
theorem putL_size:∀(L:List (Nat×Value)) (a:Act),(putL a L).tmps.size=a.tmps.size
 | [],_=>rfl
 | (d,v)::r,a=>by
  unfold putL;rw [putL_size r]
  show (a.tmps.setIfInBounds d v).size=_
  rw [Array.size_setIfInBounds]
theorem putL_defers:∀(L:List (Nat×Value)) (a:Act),(putL a L).defers=a.defers
 | [],_=>rfl
 | (d,v)::r,a=>by
  unfold putL;rw [putL_defers r]
  rfl
theorem putL_get (us:Nat->Value) (i:Nat):∀(D:List Nat) (a:Act),(putL a (D.map fun d=>(d,us d))).tmps[i]?=if i∈D then (a.tmps[i]?).map (fun _=>us i) else a.tmps[i]?
 | [],a=>by simp [putL]
 | d::D,a=>by
  rw [List.map_cons];unfold putL;rw [putL_get us i D,put_get]
  by_cases e:d=i
  ·subst e
   rw [if_pos rfl,if_pos (List.mem_cons_self ..)]
   cases a.tmps[d]? <;> simp
  ·rw [if_neg e]
   by_cases h:i∈D
   ·rw [if_pos h,if_pos (List.mem_cons_of_mem _ h)]
   ·rw [if_neg h,if_neg (by simp [h];omega)]
theorem nodup_inj {α β : Type} {f : α->β}:∀{L:List α},(L.map f).Nodup->∀{x y : α},x∈L->y∈L->f x=f y->x=y
 | [],_,_,_,hx,_,_=>nomatch hx
 | a::L,h,x,y,hx,hy,e=>by
  rw [List.map_cons,List.nodup_cons] at h
  rcases List.mem_cons.1 hx with rfl|hx'
  ·rcases List.mem_cons.1 hy with rfl|hy'
   ·rfl
   ·exact absurd (List.mem_map.2 ⟨y,hy',e.symm⟩) h.1
  ·rcases List.mem_cons.1 hy with rfl|hy'
   ·exact absurd (List.mem_map.2 ⟨x,hx',e⟩) h.1
   ·exact nodup_inj h.2 hx' hy' e
theorem act_ext {a b:Act} (h1:∀i:Nat,a.tmps[i]?=b.tmps[i]?) (h2:a.defers=b.defers):a=b:=by
 cases a
 cases b
 simp only at h1 h2;subst h2
 congr 1
 exact Array.ext_getElem? h1
theorem putL_put (us:Nat->Value) (D:List Nat) (a:Act) {d:Nat} (hd:d∈D) (v:Value):(putL a (D.map fun d=>(d,us d))).put (some d) v=putL a (D.map fun j=>(j,if j=d then v else us j)):=by
 refine act_ext (fun i=>?_) ?_
 ·rw [put_get,putL_get,putL_get (fun j=>if j=d then v else us j)]
  by_cases e:d=i
  ·subst e
   rw [if_pos rfl,if_pos hd,if_pos hd]
   cases a.tmps[d]? <;> simp
  ·rw [if_neg e]
   by_cases h:i∈D
   ·rw [if_pos h,if_pos h,if_neg (Ne.symm e)]
   ·rw [if_neg h,if_neg h]
 ·show (putL a (D.map fun d=>(d,us d))).defers=_
  rw [putL_defers,putL_defers]
theorem putL_self (D:List Nat) (a:Act):putL a (D.map fun d=>(d,a.tmps.getD d undef))=a:=by
 refine act_ext (fun i=>?_) (putL_defers _ _);rw [putL_get (fun d=>a.tmps.getD d undef)]
 split
 ·cases h:a.tmps[i]? with
  | none=>rfl
  | some x=>simp [Array.getD_eq_getD_getElem?,h]
 ·rfl
theorem listAll_get (i:Nat):∀(T:List Nat) (l:Array Bool),(listAll T l)[i]?=if i∈T then (l[i]?).map (fun _=>true) else l[i]?
 | [],l=>by simp [listAll]
 | t::T,l=>by
  unfold listAll;rw [listAll_get i T,Array.getElem?_setIfInBounds]
  by_cases e:t=i
  ·subst e
   rw [if_pos rfl,if_pos (List.mem_cons_self ..)]
   by_cases h:t<l.size
   ·rw [if_pos h,Array.getElem?_eq_getElem h];split <;> rfl
   ·rw [if_neg h,Array.getElem?_eq_none (by omega)];split <;> rfl
  ·rw [if_neg e]
   by_cases h:i∈T
   ·rw [if_pos h,if_pos (List.mem_cons_of_mem _ h)]
   ·rw [if_neg h,if_neg (by simp [h];omega)]
structure BSpec where
 op:Nat
 dst:Nat
 good:Value->World->Prop
def batchOk (ops:Array Oper):Nat->Array Bool->List Nat->Bool
 | 0,_,R=>R.isEmpty
 | n+1,l,R=>(Region.ready .any ops l).all (fun i=>R.contains i&&batchOk ops n (l.setIfInBounds i true) (R.erase i)) && !(Region.ready .any ops l).isEmpty
section
variable {P : Program} {ops : Array Oper} {Q : Exit -> Act -> World -> Prop} {S : World -> Prop} {z fuel : Nat} {w0 : World} {a : Act} {l0 : Array Bool} {B : List BSpec}
end
theorem wpZ_reads {P:Program} {ops:Array Oper} {Q:Exit->Act->World->Prop} {N:Nat} {w0:World} {z fuel:Nat} {l:Array Bool} {a:Act} {w:World} (T:List Nat) (hB:(Region.noSelect ops&&waitsAll .any ops z&&takesOk ops z T l)=true) (hS:Same 0 N w0 w)
  (h:wpQuiet P ops (fun w'=>∃d,w'=lowg N w0 d) (fun a'=>wpZ P ops (NoPanic Q) N w0 z fuel (listAll T l) a' w) (T.filterMap (ops[·]?)) a):wpZ P ops (NoPanic Q) N w0 z (T.length+fuel) l a w:=by
 simp only [Bool.and_eq_true] at hB;obtain ⟨⟨h1,h2⟩,h3⟩:=hB;exact wpZ_takes h1 h2 ⟨_,lowg_of hS⟩ T l a h3 (fun a' hk=>hk) h
section
variable {P : Program} {ops : Array Oper} {Q : Exit -> Act -> World -> Prop} {S : World -> Prop} {z fuel : Nat} {w0 : World} {a : Act} {l0 : Array Bool} {B : List BSpec}
theorem batchD_go (hnd:(B.map (·.op)).Nodup) (hS:∀w',Ext w0 w'->S w')
  (hst:∀b∈B,∀v w w',b.good v w->Ext w w'->b.good v w')
  (hsp:∀b∈B,∀(us:Nat->Value) (w1:World),Ext w0 w1->∃o,ops[b.op]?=some o/\∀K:Act->World->Prop,(∀v w',Ext w1 w'->b.good v w'->(∀c∈B,∀u,c.good u w1->v≠u)->K ((putL a ((B.map (·.dst)).map fun d=>(d,us d))).put (some b.dst) v) w')->wpList P ops (Exit.then K Q) [o] (putL a ((B.map (·.dst)).map fun d=>(d,us d))) w1)
  (hdd:(B.map (·.dst)).Nodup)
  (hend:∀(us:Nat->Value) (w1:World),Ext w0 w1->(∀b∈B,b.good (us b.dst) w1)->(∀b∈B,∀c∈B,b.op≠c.op->us b.dst≠us c.dst)->wpAnyZ P .any ops Q S z fuel (listAll (B.map (·.op)) l0) (putL a ((B.map (·.dst)).map fun d=>(d,us d))) w1) :
  ∀(n:Nat) (R:List Nat) (l:Array Bool) (us:Nat->Value) (w:World),n=R.length->R.Nodup->(∀i∈R,i∈B.map (·.op))->batchOk ops n l R=true->(∀i,l[i]?=if i∈B.map (·.op)/\i∉R then (l0[i]?).map (fun _=>true) else l0[i]?)->Ext w0 w->(∀b∈B,b.op∉R->b.good (us b.dst) w)->(∀b∈B,∀c∈B,b.op∉R->c.op∉R->b.op≠c.op->us b.dst≠us c.dst) ->
   wpAnyZ P .any ops Q S z (n+fuel) l (putL a ((B.map (·.dst)).map fun d=>(d,us d))) w
 | 0,R,l,us,w,hn,_,_,_,hl,hw,hg,hp=>by
  obtain rfl:R=[]:=List.length_eq_zero_iff.1 hn.symm
  have e:l=listAll (B.map (·.op)) l0:=Array.ext_getElem? fun i=>by
   rw [hl i,listAll_get]
   by_cases h:i∈B.map (·.op)
   ·rw [if_pos ⟨h,List.not_mem_nil⟩,if_pos h]
   ·rw [if_neg (fun h'=>h h'.1),if_neg h]
  rw [Nat.zero_add,e];exact hend us w hw (fun b hb=>hg b hb List.not_mem_nil) fun b hb c hc hne=>hp b hb c hc List.not_mem_nil List.not_mem_nil hne
 | n+1,R,l,us,w,hn,hR,hRB,hck,hl,hw,hg,hp=>by
  unfold batchOk at hck;simp only [Bool.and_eq_true,List.all_eq_true] at hck;obtain ⟨hall,hne⟩:=hck;rw [Nat.succ_add];refine ⟨fun h0=>?_,fun i hi=>?_⟩
  ·rw [h0] at hne;cases hne
  ·obtain ⟨hiR,hrec⟩:=hall i hi
   have hiR:i∈R:=by simpa using hiR
   obtain ⟨b,hb,rfl⟩:=List.mem_map.1 (hRB i hiR);obtain ⟨o,ho,hK⟩:=hsp b hb us w hw
   have ht:=hK (fun a' w'=>(b.op=z\/S w')/\wpAnyZ P .any ops Q S z (n+fuel) (l.setIfInBounds b.op true) a' w') (fun v w' hx hgv hfr=>by
    have hw':=hw.trans hx;refine ⟨.inr (hS _ hw'),?_⟩;rw [putL_put us _ _ (List.mem_map.2 ⟨b,hb,rfl⟩)];refine batchD_go hnd hS hst hsp hdd hend n (R.erase b.op) (l.setIfInBounds b.op true) (fun j=>if j=b.dst then v else us j) w' ?_ (hR.erase _) (fun j hj=>hRB j (List.mem_of_mem_erase hj)) hrec (fun j=>?_) hw' (fun c hc hcR=>?_) (fun c hc e he hcR heR hne=>?_)
    ·rw [List.length_erase_of_mem hiR];omega
    ·rw [Array.getElem?_setIfInBounds]
     by_cases e:b.op=j
     ·subst e
      have hc:b.op∈B.map (·.op)/\b.op∉R.erase b.op:=⟨hRB _ hiR,hR.not_mem_erase⟩
      rw [if_pos rfl,if_pos hc];have h0:=hl b.op;rw [if_neg (fun h=>h.2 hiR)] at h0
      by_cases hs:b.op<l.size
      ·rw [if_pos hs]
       rw [Array.getElem?_eq_getElem hs] at h0;rw [<-h0]
       rfl
      ·rw [if_neg hs]
       rw [Array.getElem?_eq_none (by omega)] at h0;rw [<-h0]
       rfl
     ·rw [if_neg e,hl j]
      have:(j∉R.erase b.op)↔(j∉R):=by
       rw [List.mem_erase_of_ne (Ne.symm e)]
      simp only [this]
    ·by_cases e:c=b
     ·subst e
      show c.good (if c.dst=c.dst then v else us c.dst) w'
      rw [if_pos rfl];exact hgv
     ·have hne:c.dst≠b.dst:=fun h=>e (nodup_inj hdd hc hb h)
      have hnop:c.op≠b.op:=fun h=>e (nodup_inj hnd hc hb h)
      show c.good (if c.dst=b.dst then v else us c.dst) w'
      rw [if_neg hne];refine hst c hc _ _ _ (hg c hc fun h=>hcR ?_) hx;exact (List.mem_erase_of_ne hnop).2 h
    ·have out:∀x∈B,x.op∉R.erase b.op->x≠b->x.op∉R:=fun x hx' hxR hxb h=>hxR ((List.mem_erase_of_ne fun h2=>hxb (nodup_inj hnd hx' hb h2)).2 h)
     show (if c.dst=b.dst then v else us c.dst)≠(if e.dst=b.dst then v else us e.dst)
     by_cases h1:c=b
     ·subst h1
      have h2:e≠c:=fun h=>hne (by rw [h]);rw [if_pos rfl,if_neg fun h=>h2 (nodup_inj hdd he hc h)];exact hfr e he _ (hg e he (out e he heR h2))
     ·rw [if_neg fun h=>h1 (nodup_inj hdd hc hb h)]
      by_cases h2:e=b
      ·subst h2
       rw [if_pos rfl];exact (hfr c hc _ (hg c hc (out c hc hcR h1))).symm
      ·rw [if_neg fun h=>h2 (nodup_inj hdd he hb h)]
       exact hp c hc e he (out c hc hcR h1) (out e he heR h2) hne)
   unfold wpOp;simp only [ho];unfold wpList at ht
   split
   ·rename_i hw2
    rw [if_pos hw2] at ht
    rcases ht with ht|⟨h1,h2⟩
    ·refine .inl ?_
     have h3:=upon_then ht;exact h3
    ·exact .inr ⟨h1,h2⟩
   ·rename_i hw2
    rw [if_neg hw2] at ht;exact ht
end
theorem wpZ_batchD {P:Program} {ops:Array Oper} {Q:Exit->Act->World->Prop} {z fuel:Nat} {w0 w:World} {a:Act} {l:Array Bool} (B:List BSpec) (n:Nat) (hn:B.length=n) (hw:Ext w0 w)
  (hck:batchOk ops n l (B.map (·.op))=true) (hnd:(B.map (·.op)).Nodup) (hdd:(B.map (·.dst)).Nodup)
  (hst:∀b∈B,∀v w w',b.good v w->Ext w w'->b.good v w')
  (hsp:∀b∈B,∀(us:Nat->Value) (w1:World),Ext w0 w1->∃o,ops[b.op]?=some o/\∀K:Act->World->Prop,(∀v w',Ext w1 w'->b.good v w'->(∀c∈B,∀u,c.good u w1->v≠u)->K ((putL a ((B.map (·.dst)).map fun d=>(d,us d))).put (some b.dst) v) w')->wpList P ops (Exit.then K (NoPanic Q)) [o] (putL a ((B.map (·.dst)).map fun d=>(d,us d))) w1)
  (hend:∀(us:Nat->Value) (w1:World),Ext w0 w1->(∀b∈B,b.good (us b.dst) w1)->(∀b∈B,∀c∈B,b.op≠c.op->us b.dst≠us c.dst)->wpZ P ops (NoPanic Q) w0.heap.size w0 z fuel (listAll (B.map (·.op)) l) (putL a ((B.map (·.dst)).map fun d=>(d,us d))) w1) :
  wpZ P ops (NoPanic Q) w0.heap.size w0 z (n+fuel) l a w:=by
 have h:=batchD_go (P:=P) (Q:=NoPanic Q) (S:=fun w'=>∃d,w'=lowg w0.heap.size w0 d) (z:=z) (fuel:=fuel) (l0:=l) hnd (fun w' hx=>⟨_,lowg_of (hx.same (Nat.le_refl _))⟩) hst hsp hdd hend n (B.map (·.op)) l (fun d=>a.tmps.getD d undef) w (by rw [List.length_map];exact hn.symm) hnd (fun i hi=>hi) hck (fun i=>by rw [if_neg (fun h=>h.2 h.1)]) hw (fun b hb h=>absurd (List.mem_map.2 ⟨b,hb,rfl⟩) h) (fun b hb c hc h=>absurd (List.mem_map.2 ⟨b,hb,rfl⟩) h);rw [putL_self] at h;exact h
end Go.Proofs.YtfjbiifebcfjfaaGreat
