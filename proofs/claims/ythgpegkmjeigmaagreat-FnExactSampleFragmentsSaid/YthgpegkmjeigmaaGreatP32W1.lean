/- Texts of this claim, one behind another; what its theorem does not use is left out: Base, L01, Ex1, Ex2, Flat, Blk0, StrB, Plan, Sh1, Sh2, L15a, L15b, L15c, L15d, L15e, Ex2M, Part, LawKit, L15f, L15g, L15h, L15i, Sh3, Sh4, L16a, L15j, L15k, Sh5, LawLook, Sh6, Sh7, Sh8, Sh9, Sh10, Sh11, Sh12, Sh13, Sh14, Sh15, Gr1, Sh16, Sh17, Cl1, Lk1, Lk2, Lk3, Lk4, Lk5, Cd1, Cd2, Cd3, Cd4, Cd5, Cd6, Lk6, Lk7. -/
import Derived.WalkKit
import Derived.WalkLawsBesides
import Derived.WalkSpells
import Derived.Deep.QuietTactic
import Derived.BigQuiet
import Derived.Lib.Hide
import Derived.Test.YthgpegkmjeigmaaGreatRows
import Derived.Deep.OwnRows
import Derived.OrdersHeld
import Derived.StillTail
import Derived.Deep.RegionHeld3
import Derived.StillTailTactics
import Derived.Deep.LoopGhost
import Derived.Deep.Cut
import Derived.Deep.CutRange
import Derived.Laws.CopyOwn
import Derived.Maps.Own
import Derived.WideMake
import Derived.Lib.SmallJoins
import Derived.Laws.BytesString
set_option linter.unusedSimpArgs false
set_option linter.unusedVariables false
set_option maxRecDepth 100000
set_option maxHeartbeats 12800000
namespace Go.Proofs.YthgpegkmjeigmaaGreat
open Go.RowKit
open Go.Proofs.Tryz
variable {p:Addr} {ops:Array Oper} {args cs:Array Value} {be bl:Bool} {Q:Exit→Act→World→Prop} {a b c l op r x y z:Int} {xs:List Int} {rest:List Oper} {A B L M cap g hi' i j k lo' m:Nat} {f q:Nat→Int} {row:Option Nat} {P:Program} {e t:TypeId} {u v v0 v1 v10 v2 v3 v4 v5 v6 v7 v8 v9:Value} {d w w' w1 w2 wr:World}
open _root_.Array renaming getElem?_eq_some_iff→aRi,getElem?_toList→aTv,replicate→aU4,getElem?_eq_getElem→aUd
open _root_.Bool renaming and_eq_true→aRd,false_eq_true→aTs,eq_false_iff→aT3,and_false→aWs,false_and→aX7,true_and→aWf
open _root_.Go.Act renaming put→aSj
open _root_.Go.Addr.mk renaming injEq→aR1
open _root_.Go.Instr renaming findNow→aTl,lookup→bAc
open _root_.Go.Lib renaming hid→aVw
open _root_.Go.MapKept renaming run_checkKey→aZw,run_getObj_map→aY4,run_findKey→aZ2
open _root_.Go.Proofs.Tryz renaming prog→aQ2
open _root_.Go.Region renaming Mode→aU8,ready→aSm,binds→aVp,free→aZx,noSelect→aUc,noSelect_spec→aTt,free_spec→aUf
open _root_.Go.RowKit.Below renaming size→aY1,trans→aVh,mono→aY0,cell→bA1,heap_setCell→aQ7
open _root_.Go.Value renaming int→aT8,ownBlock→aRu,slice→aR9
open _root_.Go.Value.slice renaming injEq→aRo
open _root_.Go.World renaming cell?_of_block→aSe,frozen?_of_block→aSt,cell?→aSy,ownsRow_nil→aUp,size_alloc→aQy,frozen?→aWg,cell?_setCell_other→aSl,frozen?_setCell→aSs,cell?_setCell_same→aUh,alloc→bAx,rowIs_made→aXh
open _root_.Go.World.rowIs renaming cell→aSr,frozen→aS2,lt→aTk,of_block→aUj,congr→aTa,set→aXu
open _root_.Int renaming tmod_add_mul_tdiv→aZl,lt_tmod_of_pos→aZ5,sub_mul→aYh,one_mul→aZp,mul_comm→aSz,ediv_eq_iff_of_pos→aY2,tmod_lt_of_pos→aYb,mul_le_mul_of_nonpos_left→aXp,mul_ediv_add_emod→aZk,emod_nonneg→aZd,emod_lt_of_pos→aX9,mul_nonneg→aSv,add_mul→aZo,tmod_eq_emod_of_nonneg→aTj,natCast_mul→aUb,toNat_of_nonneg→aXy,toNat_natCast→aRr,tdiv_eq_ediv_of_nonneg→aTb
open _root_.List renaming ext_getElem?→aU6,getElem?_eq_none→aU0,getElem?_eq_some_iff→aQz,mem_of_getElem?→aRn,getElem?_take→aS1,map_set→aWy,all_eq_false→aT4,getElem_mem→aRh,take_succ_eq_append_getElem→aRv,replicate→aRj,length_take→aRp,set_cons_zero→aRb,getElem_of_mem→aRw,mem_append→aTe,take_of_length_le→aR3,range→aRl,all_eq_true→aR5,mem_range→aR4,filterMap_cons→aRm,length_nil→aS7,length_cons→aSc,filterMap_nil→aRg,getElem?_toArray→aQ1,getElem?_cons_zero→aQw,getElem?_cons_succ→aQx,setIfInBounds_toArray→aQ4,set_cons_succ→aRc,take_zero→aW1,getElem?_eq_getElem→aQ9,take_length→aR2,mem_map→aS3,getElem?_map→aSo,mem_cons→aRk,not_mem_nil→aRe,nil_append→aSu,zipWith→aTq,getElem?_set_self→aY3,getElem?_append_right→aR0,getElem?_replicate→aT0,getElem?_set_ne→aZt,drop_length→aV6
open _root_.Nat renaming le_refl→aQv,zero_add→aRt,le_trans→aQ5,lt_of_lt_of_le→aSf,le_of_lt→aT5,mul_le_mul_right→aSq,add_assoc→aSp,mod_lt→aTp,zero_le→aSi,one_le_two_pow→aZ7,pow_le_pow_right→aXt,add_mul→aTf,one_mul→aTh,mul_le_mul→aRy,mul_comm→aUu,mul_one→aUv,add_zero→aSk
open _root_.Option.some renaming injEq→aQ0,inj→aSx
instance:Coe (Nat→Int) (List Value):=⟨fun f=>[.int .i64 (f 0),.int .i64 (f 1),.int .i64 (f 2),.int .i64 (f 3),.int .i64 (f 4),.int .i64 (f 5),.int .i64 (f 6),.int .i64 (f 7),.int .i64 (f 8),.int .i64 (f 9),.int .i64 (f 10),.int .i64 (f 11)]⟩
instance:Coe (Nat→Int) (Array Value):=⟨fun f=>#[.int .i64 (f 0),.int .i64 (f 1),.int .i64 (f 2),.int .i64 (f 3),.int .i64 (f 4),.int .i64 (f 5),.int .i64 (f 6),.int .i64 (f 7),.int .i64 (f 8),.int .i64 (f 9),.int .i64 (f 10),.int .i64 (f 11)]⟩
instance:Coe Int Value:=⟨fun n=>.int .i64 n⟩
instance:Coe Nat Value:=⟨fun n=>.int .i64 n⟩
instance:Coe Unit Value:=⟨fun _=>.int .i64 0⟩
def I64 (n:Int):Prop:=-9223372036854775808<=n/\n<=9223372036854775807
theorem I64.mk {n:Int} (h1 : -9223372036854775808<=n) (h2:n<=9223372036854775807):I64 n:=⟨h1,h2⟩
theorem I64.lo {n:Int} (h:I64 n) : -9223372036854775808<=n:=h.1
theorem I64.hi {n:Int} (h:I64 n):n<=9223372036854775807:=h.2
theorem I64.wrap {n:Int} (h:I64 n):wrap64 n=n:=IntWalk.wrap64_in n ⟨h.1,h.2⟩
theorem aNz (h:a=b):aT8 .i64 a=aT8 .i64 b:=by rw [h]
theorem cS {k:IntKind} (h:a=b):Ending.returned (.int k a) = .returned (.int k b):=by rw [h]
theorem aL {a b:Bool} (h:a=b):Ending.returned (.bool a) = .returned (.bool b):=by rw [h]
def Ext (w w':World):Prop:=Below w.heap.size w w'
theorem Ext.refl (w:World):Ext w w:=Below.refl _ _
theorem Ext.size (h:Ext w w'):w.heap.size<=w'.heap.size:=aY1 h
theorem Ext.trans (h:Ext w w1) (k:Ext w1 w2):Ext w w2:=aVh h (aY0 k (aY1 h))
theorem Ext.alloc (h:Ext w w1) (o:Obj):Ext w (w1.alloc o):=Below.alloc h (aY1 h) o
theorem Ext.drew (h:Ext w w1):Ext w w1.drew:=Below.drew h
theorem Ext.drewN (h:Ext w w1) (n:Nat):Ext w (w1.drewN n):=h.trans ⟨rfl,rfl,rfl,aQv _,fun _ _=>rfl⟩
theorem Ext.setCell (h:Ext w w1) (hp:w.heap.size<=p.block) (u:Value):Ext w (w1.setCell p u):=Below.setCell h hp u
theorem X_ (h:Ext w w':=by repeat (with_reducible (first|assumption|exact Ext.refl _|apply Ext.alloc|apply Ext.drew|apply Ext.drewN))):Ext w w':=h
theorem S_ (h:Ext w w':=by repeat (first|with_reducible assumption|with_reducible exact Ext.refl _|with_reducible apply Ext.alloc|with_reducible apply Ext.drew|with_reducible apply Ext.drewN|(with_reducible refine Ext.setCell ?_ (by simp;omega) _)|(with_reducible refine Ext.setCell ?_ (by simp) _))):Ext w w':=h
theorem Ext.grown (h:Ext w w1) (hg:w1.grownBy w2 row) (hr:∀k,row=some k->w.heap.size<=k):Ext w w2:=Below.grown h hg (aY1 h) hr
theorem Ext.block (h:Ext w w1) (hk:k<w.heap.size):w1.heap[k]?=w.heap[k]?:=Below.block h k hk
theorem Ext.cells (h:Ext w w1) :
  (∀b o,b<w.heap.size->w1.cell? ⟨b,o,none⟩=w.cell? ⟨b,o,none⟩)/\(∀b o,b<w.heap.size->w1.frozen? ⟨b,o,none⟩=w.frozen? ⟨b,o,none⟩):=
 ⟨fun b o hb=>bA1 (p:=⟨b,o,none⟩) h hb,fun b o hb=>Below.frozen (p:=⟨b,o,none⟩) h hb⟩
def aM (lo hi:Nat) (w w':World):Prop:=∀b,lo<=b->b<hi->w'.heap[b]?=w.heap[b]?
theorem Ext.same (h:Ext w w1) {lo hi:Nat} (hh:hi<=w.heap.size):aM lo hi w w1:=fun _ _ hb=>h.block (by omega)
theorem aM.cell {lo hi:Nat} (h:aM lo hi w w') {b o:Nat} (h1:lo<=b) (h2:b<hi):w'.cell? ⟨b,o,none⟩=w.cell? ⟨b,o,none⟩:=
 aSe (w:=w) (h b h1 h2)
theorem aM.frozen {lo hi:Nat} (h:aM lo hi w w') {b o:Nat} (h1:lo<=b) (h2:b<hi):w'.frozen? ⟨b,o,none⟩=w.frozen? ⟨b,o,none⟩:=
 aSt (w:=w) (h b h1 h2)
def aU (lo hi:Nat) (w:World) (v:Value) (xs:List Int):Prop:=
 ∃a cap,v = .slice a xs.length cap/\xs.length<=cap/\cap<=maxLen/\∀i x,xs[i]?=some x->I64 x/\∃b off,a=some ⟨b,off,none⟩/\lo<=b/\b<hi/\w.cell? ⟨b,off+i,none⟩=some (.int .i64 x)
theorem aU.same {lo hi:Nat} (h:aU lo hi w v xs) (s:aM lo hi w w'):aU lo hi w' v xs:=by
 obtain ⟨a,cap,h1,h2,h3,h4⟩:=h;refine ⟨a,cap,h1,h2,h3,fun i x hx=>?_⟩;obtain ⟨h5,b,h0,h6,h7,h8,h9⟩:=h4 i x hx;exact ⟨h5,b,h0,h6,h7,h8,by rw [s.cell h7 h8];exact h9⟩
theorem aU.ext {lo hi:Nat} (h:aU lo hi w v xs) (hh:hi<=w.heap.size) (e:Ext w w'):aU lo hi w' v xs:=h.same (e.same hh)
theorem aU.wide {lo hi:Nat} (h:aU lo hi w v xs) (h1:lo'<=lo) (h2:hi<=hi'):aU lo' hi' w v xs:=by
 obtain ⟨a,cap,g1,g2,g3,g4⟩:=h;refine ⟨a,cap,g1,g2,g3,fun i x hx=>?_⟩;obtain ⟨h5,b,h0,h6,h7,h8,h9⟩:=g4 i x hx;exact ⟨h5,b,h0,h6,by omega,by omega,h9⟩
theorem aU.len {lo hi:Nat} (h:aU lo hi w v xs):xs.length<=9223372036854775807:=by
 obtain ⟨a,cap,g1,g2,g3,g4⟩:=h;unfold maxLen at g3;omega
structure fY (lo hi:Nat) (w:World) (a:Option Addr) (cap:Nat) (xs:List Int):Prop where
 le:xs.length<=cap
 cap:cap<=9223372036854775807
 cell:∀i x,xs[i]?=some x->I64 x/\∃b off,a=some ⟨b,off,none⟩/\lo<=b/\b<hi/\w.cell? ⟨b,off+i,none⟩=some (.int .i64 x)
theorem aU.open {lo hi:Nat} (h:aU lo hi w v xs):∃a cap,v = .slice a xs.length cap/\fY lo hi w a cap xs:=by
 obtain ⟨a,cap,g1,g2,g3,g4⟩:=h;exact ⟨a,cap,g1,g2,by unfold maxLen at g3;omega,g4⟩
theorem fY.shut {lo hi:Nat} {a:Option Addr} (h:fY lo hi w a cap xs):aU lo hi w (.slice a xs.length cap) xs:=
 ⟨a,cap,rfl,h.le,by unfold maxLen;have:=h.cap;omega,h.cell⟩
theorem fY.at {lo hi:Nat} {a:Option Addr} (h:fY lo hi w a cap xs) (hk:k<xs.length) :
  ∃b off,a=some ⟨b,off,none⟩/\lo<=b/\b<hi/\w.cell? ⟨b,off+k,none⟩=some (.int .i64 xs[k]):=(h.cell k xs[k] (by simp [hk])).2
theorem fY.i64 {lo hi:Nat} {a:Option Addr} (h:fY lo hi w a cap xs) (hk:k<xs.length):I64 xs[k]:=(h.cell k xs[k] (by simp [hk])).1
def gO {α : Type} (xs ys:List α) (k:Nat):Prop:=∀i,i<k->xs[i]?=ys[i]?
theorem gO.zero {α : Type} (xs ys:List α):gO xs ys 0:=fun i h=>by omega
theorem gO.succ {α : Type} {xs ys:List α} (h:gO xs ys k) (h1:k<xs.length) (h2:k<ys.length) (he:xs[k]=ys[k]):gO xs ys (k+1):=by
 intro i hi
 by_cases hk:i=k
 ·subst hk;simp [h1,h2,he]
 ·exact h i (by omega)
theorem gO.all {α : Type} {xs ys:List α} (h:gO xs ys k) (hl:xs.length=ys.length) (hk:xs.length<=k):xs=ys:=by
 apply aU6;intro i
 by_cases hi:i<k
 ·exact h i hi
 ·rw [aU0 (by omega),aU0 (by omega)]
theorem hid {p:Prop} (h:p):Hid p:=h
def aB (lo:Nat) (w:World) (v:Value) (xs:List Int):Prop:=w.ownsRow lo 3 1 v xs.length (xs.map (aT8 .i64))/\∀x∈xs,I64 x
theorem aB.ints {lo:Nat} (h:aB lo w v xs):aU lo w.heap.size w v xs:=by
 obtain ⟨⟨h1,h2⟩,h3⟩:=h
 rcases h2 with ⟨rfl,h4⟩|⟨g,cap,cur,rfl,hb,hg,hc,hm,hs,ht⟩
 ·refine ⟨none,0,by rw [h4],by omega,by unfold maxLen;omega,fun i x hx=>?_⟩
  have:=(aQz.1 hx).1;omega
 ·refine ⟨some ⟨g,0,none⟩,cap,rfl,hc,hm,fun i x hx=>⟨h3 x (aRn hx),g,0,rfl,hb,(aRi.1 hg).1,?_⟩⟩
  have hi:=(aQz.1 hx).1
  have e:(xs.map (aT8 .i64))[i]?=some (.int .i64 x):=by simp [hx]
  rw [<-ht,aS1,if_pos (by omega)] at e;simp only [aSy,hg,aRt]
  simpa using e
theorem aB.nil (lo:Nat) (w:World):aB lo w (.slice none 0 0) []:=⟨aUp _ _ _ _,fun _ h=>by cases h⟩
theorem aB.lt {lo:Nat} (h:aB lo w v xs):∀k,v.ownBlock=some k->lo<=k/\k<w.heap.size:=h.1.lt
theorem aB.kept {lo:Nat} (h:aB lo w v xs) (s:aM lo w.heap.size w w'):aB lo w' v xs:=by
 obtain ⟨⟨h1,h2⟩,h3⟩:=h;refine ⟨⟨h1,?_⟩,h3⟩
 rcases h2 with hn|⟨g,cap,cur,hv,hb,hg,r⟩
 ·exact .inl hn
 ·exact .inr ⟨g,cap,cur,hv,hb,by rw [s g hb (aRi.1 hg).1];exact hg,r⟩
theorem aB.ext {lo:Nat} (h:aB lo w v xs) (e:Ext w w'):aB lo w' v xs:=h.kept (e.same (aQv _))
theorem aB.form {lo:Nat} (h:aB lo w v xs):∃a cap,v = .slice a xs.length cap/\xs.length<=9223372036854775807:=by
 obtain ⟨⟨h1,h2⟩,h3⟩:=h
 rcases h2 with ⟨rfl,h4⟩|⟨g,cap,cur,rfl,hb,hg,hc,hm,hs,ht⟩
 ·exact ⟨none,0,by rw [h4],by omega⟩
 ·exact ⟨some ⟨g,0,none⟩,cap,rfl,by unfold maxLen at hm;omega⟩
theorem aB.at {lo:Nat} {a:Option Addr} {n:Nat} (h:aB lo w (.slice a n cap) xs) (hn:n=xs.length) (hk:k<xs.length) :
  ∃g y,a=some ⟨g,0,none⟩/\lo<=g/\g<w.heap.size/\xs[k]?=some y/\w.cell? ⟨g,k,none⟩=some (.int .i64 y)/\w.frozen? ⟨g,k,none⟩=false /\
   ∀x,I64 x->aB lo (w.setCell ⟨g,k,none⟩ x) (.slice a n cap) (xs.set k x)/\w.grownBy (w.setCell ⟨g,k,none⟩ x) (some g):=by
 subst hn;obtain ⟨h2,h3⟩:=h;have h0:=h2
 rcases h2.2 with ⟨h1,h4⟩|⟨g,cap',cur,h1,hb,hg,hc,hm,hs,ht⟩
 ·omega
 ·simp only [aRo,true_and] at h1
  obtain ⟨rfl,rfl⟩:=h1;refine ⟨g,xs[k],rfl,hb,(aRi.1 hg).1,by simp [hk],?_,h0.frozenAt k,fun x hx=>?_⟩
  ·rw [h0.cellAt k (by omega)];simp [hk]
  ·have h5:=h0.stored k (.int .i64 x)
   rw [<-aWy] at h5;refine ⟨⟨by simpa using h5.1,fun y hy=>?_⟩,h5.2⟩
   rcases List.mem_or_eq_of_mem_set hy with h|h
   ·exact h3 y h
   ·rw [h];exact hx
theorem aM.setLow {lo hi:Nat} (w:World) (hp:p.block<lo) (u:Value):aM lo hi w (w.setCell p u):=fun b h1 _=>aQ7 w p u b (by omega)
theorem aB.setLow {lo:Nat} (h:aB lo w v xs) (hp:p.block<lo) (u:Value):aB lo (w.setCell p u) v xs:=h.kept (aM.setLow w hp u)
theorem aB.low {lo:Nat} (h:aB lo w v xs) (hl:lo'<=lo):aB lo' w v xs:=by
 obtain ⟨⟨h1,h2⟩,h3⟩:=h;refine ⟨⟨h1,?_⟩,h3⟩
 rcases h2 with hn|⟨g,cap,cur,hv,hb,r⟩
 ·exact .inl hn
 ·exact .inr ⟨g,cap,cur,hv,by omega,r⟩
theorem aB.alloc {lo:Nat} (h:aB lo w v xs) (o:Obj):aB lo (w.alloc o) v xs:=h.ext ((Ext.refl w).alloc o)
theorem grownBy.refl (w:World) (row:Option Nat):w.grownBy w row:=World.grownBy.refl w row
theorem grownBy.trans (h:w.grownBy w1 row) (k:w1.grownBy w2 row):w.grownBy w2 row:=
 ⟨k.os.trans h.os,k.tape.trans h.tape,k.output.trans h.output,aQ5 h.size k.size,fun i hi hne=>(k.block i (aSf hi h.size) hne).trans (h.block i hi hne)⟩
theorem vK {α : Type} {xs:List α} {p : α->Bool} (h:k<xs.length) (hp:p xs[k]=false):xs.all p=false:=by
 rw [aT4];exact ⟨xs[k],aRh h,by simp [hp]⟩
theorem iZ {α : Type} {xs:List α} {p : α->Bool} (h:k<xs.length) (h1:(xs.take k).all p=true) (hp:p xs[k]=true):(xs.take (k+1)).all p=true:=by
 rw [aRv h,List.all_append,h1];simp [hp]
theorem aD {n:Int} (h1 : -1152921504606846976<=n) (h2:n<=1152921504606846976):wrap64 n=n:=IntWalk.wrap64_in n ⟨by omega,by omega⟩
theorem dX {f:FuncId} {n:Nat}
  (h:Calls P f args (w.drewN n) fun e w'=>e = .returned v/\w.drewN n=w'):Calls P f args (w.drewN n) fun e w''=>e = .returned v/\∃m,w''=w.drewN m:=
 h.mono fun _ _ ⟨he,hm⟩=>⟨he,n,hm.symm⟩
open Classical in
noncomputable def nK (w d:World):World:=if Ext w d then d else w
theorem bM (w d:World):Ext w (nK w d):=by
 unfold nK
 split
 ·assumption
 ·exact Ext.refl w
theorem aA6 (h:Ext w d):d=nK w d:=by unfold nK;rw [if_pos h]
@[go_sem] theorem aN0 (w d:World) (a:Addr) (h:a.block<w.heap.size):(nK w d).cell? a=w.cell? a:=bA1 (bM w d) h
@[go_sem] theorem aLs (w d:World) (a:Addr) (h:a.block<w.heap.size):(nK w d).frozen? a=w.frozen? a:=Below.frozen (bM w d) h
theorem cK {id:Nat} {a:Act} {l:List Oper} (hm:P.follows .mixedOrders=true) (hB:Region.lexB .any l.toArray=true)
  (h:wpQuiet P l.toArray (fun w'=>∃d,w'=nK w d) (fun a'=>∀w',Ext w w'->Q .normal a' w') l a):(Code.region id l.toArray true).wp P Q a w:=by
 refine wp_region_quiet (C:=fun w'=>∃d,w'=nK w d) hm hB ⟨_,aA6 ((Ext.refl w).drew)⟩ ?_
 have e:(fun a'=>∀w',Ext w w'->Q .normal a' w')=(fun a'=>∀w',(∃d,w'=nK w d)->Q .normal a' w'):=by
  funext a'
  refine propext ⟨fun k w' hw'=>?_,fun k w' hw'=>k w' ⟨_,aA6 hw'⟩⟩;obtain ⟨d,rfl⟩:=hw';exact k _ (bM w d)
 rw [e] at h
 simpa using h
theorem cE {f:FuncId}
  (h:Calls P f args (nK w d) fun e w'=>e = .returned v/\Ext (nK w d) w'):Calls P f args (nK w d) fun e w''=>e = .returned v/\∃d',w''=nK w d':=
 h.mono fun _ _ ⟨he,hx⟩=>⟨he,_,aA6 ((bM w d).trans hx)⟩
theorem sQ {f:FuncId}
  (h:Calls P f args (nK w d) fun e w'=>e = .returned v/\nK w d=w'):Calls P f args (nK w d) fun e w''=>e = .returned v/\∃d',w''=nK w d':=
 h.mono fun _ _ ⟨he,hx⟩=>⟨he,d,hx.symm⟩
abbrev R_ (n:Nat) (a:Array Value) (w:World) (v:Value):Prop:=Calls aQ2 n a w fun e w'=>e = .returned v/\Ext w w'
abbrev Z_ (n:Nat) (a:Array Value) (w:World) (v:Value):Prop:=Calls aQ2 n a w fun e w'=>e = .returned v/\w=w'
theorem z_ {f:Nat} {g:Array Value} {Q:Ending->World->Prop} (h:Calls P f g w fun e w'=>e = .returned v/\w=w') (k:Q (.returned v) w):Calls P f g w Q:=h.mono (by rintro e w1 ⟨rfl,rfl⟩;exact k)
theorem r_ {f:Nat} {g:Array Value} {R:World->Prop} {Q:Ending->World->Prop} (h:Calls P f g w fun e w'=>e = .returned v/\R w') (k:∀w1,R w1->Q (.returned v) w1):Calls P f g w Q:=h.mono (by rintro e w1 ⟨rfl,x⟩;exact k w1 x)
def inB (n lo hi:Int):Bool:=decide (lo<=n)&&decide (n<=hi)
theorem aG {n lo hi:Int}:inB n lo hi=true↔lo<=n/\n<=hi:=by simp [inB]
def aR (n lo hi:Int):Int:=if hi<lo\/n<lo then lo else if hi<n then hi else n
def bI (a b:Int):Int:=if b<1 then 0 else a / b
theorem aA7 {n:Int} (hb:1<=b) (h:n.tmod b<0):n.tdiv b - 1=n / b:=by
 have h1:=aZl n b;have h2 : -b<n.tmod b:=aZ5 n (by omega)
 have h3:(n.tdiv b - 1)*b=b*n.tdiv b - b:=by rw [aYh,aZp,aSz]
 rw [eq_comm,aY2 (by omega),h3];omega
theorem aA8 {n:Int} (hb:1<=b) (h:0<=n.tmod b):n.tdiv b=n / b:=by
 have h1:=aZl n b;have h2:n.tmod b<b:=aYb n (by omega);rw [eq_comm,aY2 (by omega),aSz];omega
theorem aCy (ha:I64 a):I64 (bI a b):=by
 unfold bI
 split
 ·exact ⟨by omega,by omega⟩
 ·have h1:=ha.lo
  have h2:=ha.hi;refine ⟨?_,?_⟩
  ·rw [Int.le_ediv_iff_mul_le (by omega)]
   have:(-9223372036854775808:Int)*b<=-9223372036854775808*1:=aXp (by omega) (by omega);omega
  ·have:=Int.ediv_le_ediv (show 0<b by omega) h2
   have h3:(9223372036854775807:Int) / b<=9223372036854775807:=Int.ediv_le_self _ (by omega);omega
theorem hG (n lo hi:Int) (w:World):Z_ 92 #[n,lo,hi] w (.bool (inB n lo hi)):=by
 go_enter func92,ntmps92;go_wp2
 all_goals go_ret
 ·exact ⟨aL (by simp [inB, *]),rfl⟩
 ·exact ⟨aL (by simp [inB];omega),rfl⟩
theorem aH {n lo hi:Int} {b:Bool} (h:inB n lo hi=b) (w:World):Z_ 92 #[n,lo,hi] w (.bool b):=h▸hG n lo hi w
theorem aH2 (n lo hi:Int) (w:World):Z_ 46 #[n,lo,hi] w (.bool (inB n lo hi)):=by
 go_enter func46,ntmps46;go_wp2
 all_goals go_ret
 ·exact ⟨aL (by simp [inB, *]),rfl⟩
 ·exact ⟨aL (by simp [inB];omega),rfl⟩
theorem aE {n lo hi:Int} {b:Bool} (h:inB n lo hi=b) (w:World):Z_ 46 #[n,lo,hi] w (.bool b):=h▸aH2 n lo hi w
theorem aE1 (n lo hi:Int) (w:World):Z_ 77 #[n,lo,hi] w (.int .i64 (aR n lo hi)):=by
 have H:Hid (aR n lo hi=aR n lo hi):=rfl;generalize hc:aR n lo hi=c at H ⊢;have HC:=aVw hc;clear hc H;go_enter func77,ntmps77;go_wp2
 all_goals go_ret
 all_goals exact ⟨cS (by rw [<-HC];unfold aR;split <;> (try split) <;> omega),rfl⟩
theorem aE2 (n lo hi:Int) (w:World):Z_ 81 #[n,lo,hi] w (.int .i64 (aR n lo hi)):=by
 have H:Hid (aR n lo hi=aR n lo hi):=rfl;generalize hc:aR n lo hi=c at H ⊢;have HC:=aVw hc;clear hc H;go_enter func81,ntmps81;go_wp2
 all_goals go_ret
 all_goals exact ⟨cS (by rw [<-HC];unfold aR;split <;> (try split) <;> omega),rfl⟩
theorem aCz (ha:I64 a) (hb:1<=b) (h:a.tmod b<0):wrap64 (wrap64 (a.tdiv b) - 1)=bI a b:=by
 have hq:=aA7 hb h;have hi:=aCy (b:=b) ha;rw [bI,if_neg (by omega)] at hi ⊢
 have h0:b≠1:=fun e=>by subst e;simp at h
 have h1:=hi.lo
 have h2:a / b<=4611686018427387904:=by
  have:=Int.ediv_le_ediv (show 0<b by omega) ha.hi
  have h3:(9223372036854775807:Int) / b<=9223372036854775807 / 2:=Int.ediv_le_iff_le_mul (show 0<b by omega) |>.2 (by
   have:(9223372036854775807 / 2:Int)*2<=9223372036854775807 / 2*b:=Int.mul_le_mul_of_nonneg_left (by omega) (by omega)
   omega)
  omega
 rw [I64.wrap (n:=a.tdiv b) ⟨by omega,by omega⟩,hq,hi.wrap]
theorem aC0 (ha:I64 a) (hb:1<=b) (h:0<=a.tmod b):wrap64 (a.tdiv b)=bI a b:=by
 have hi:=aCy (b:=b) ha;rw [bI,if_neg (by omega)] at hi ⊢;rw [aA8 hb h,hi.wrap]
theorem yL (a b:Int) (w:World) (ha:I64 a):Z_ 155 #[a,b] w (.int .i64 (bI a b)):=by
 have H:=aVw ha;clear ha;go_enter func155,ntmps155;go_wp2
 all_goals go_ret
 ·exact ⟨cS (by rw [bI,if_pos (by assumption)]),rfl⟩
 ·exact ⟨cS (aCz H (by assumption) (by assumption)),rfl⟩
 ·exact ⟨cS (aC0 H (by assumption) (by assumption)),rfl⟩
theorem pR (a b:Int) (w:World) (ha:I64 a):Z_ 96 #[a,b] w (.int .i64 (bI a b)):=by
 have H:=aVw ha;clear ha;go_enter func96,ntmps96;go_wp2
 all_goals go_ret
 ·exact ⟨cS (by rw [bI,if_pos (by assumption)]),rfl⟩
 ·exact ⟨cS (aCz H (by assumption) (by assumption)),rfl⟩
 ·exact ⟨cS (aC0 H (by assumption) (by assumption)),rfl⟩
def kL (a b:Int):Int:=if b<1 then a else a % b
theorem uR (a x:Int):wrap64 (a - wrap64 x)=wrap64 (a - x):=by unfold wrap64;omega
theorem aG6 (a b:Int):a - bI a b*b=kL a b:=by
 unfold bI kL
 split
 ·omega
 ·have:=aZk a b
  rw [aSz];omega
theorem aJu (ha:I64 a) (hb:I64 b):I64 (kL a b):=by
 unfold kL
 split
 ·exact ha
 ·have h1:=aZd a (show b≠0 by omega)
  have h2:=aX9 a (show 0<b by omega);have:=hb.hi;exact ⟨by omega,by omega⟩
theorem rE (a b:Int) (w:World) (ha:I64 a) (hb:I64 b):Z_ 226 #[a,b] w (.int .i64 (kL a b)):=by
 have H:=aVw ha;have HB:=aVw hb;clear ha hb;go_enter func226,ntmps226;go_wp2_with (go_at_call 96;refine (pR a b _ H).mono ?_;rintro e w' ⟨rfl,rfl⟩);go_ret;exact ⟨cS (by rw [uR,aG6,(aJu H HB).wrap]),rfl⟩
theorem mG (ha:I64 a) (hb:I64 b) (h:kL a b=c) (w:World):Z_ 226 #[a,b] w (.int .i64 c):=h▸rE a b w ha hb
theorem cD (ha:I64 a) (h:bI a b=c) (w:World):Z_ 96 #[a,b] w (.int .i64 c):=h▸pR a b w ha
theorem aT (ha:I64 a) (h:bI a b=c) (w:World):Z_ 155 #[a,b] w (.int .i64 c):=h▸yL a b w ha
theorem dY {n lo hi:Int} (h:aR n lo hi=c) (w:World):Z_ 81 #[n,lo,hi] w (.int .i64 c):=h▸aE2 n lo hi w
theorem cV {n lo hi:Int} (h:aR n lo hi=c) (w:World):Z_ 77 #[n,lo,hi] w (.int .i64 c):=h▸aE1 n lo hi w
theorem jA (a:Int) {n:Nat} (hn:1<=n):∃k:Nat,kL a n=k/\k<n:=by
 unfold kL;rw [if_neg (by omega)];have h1:=aZd a (show (n:Int)≠0 by omega);have h2:=aX9 a (show (0:Int)<n by omega);exact ⟨(a % n).toNat,by omega,by omega⟩
theorem vL (lo hi lo' hi':Nat) (u v:Value) (xs ys:List Int) (w:World) (hu:aU lo hi w u xs) (hv:aU lo' hi' w v ys) :
  Calls aQ2 82 #[u,v] w fun e w'=>e = .returned (.bool (decide (xs=ys)))/\∃n,w'=w.drewN n:=by
 obtain ⟨a,cap,rfl,HU⟩:=hu.open;obtain ⟨a',h5,rfl,HV⟩:=hv.open;have h1:=HU.le;have h2:=HU.cap;have q1:=HV.le;have q2:=HV.cap
 by_cases hl:xs.length=ys.length
 ·have h9:((xs.length:Int) != (ys.length:Int))=false:=by simp [hl]
  have HL:=aVw hl;clear hl;go_enter func82,ntmps82;go_wp2
  go_loopw [5] (fun i wr=>∃k:Nat,k<=xs.length/\i = .int .i64 k/\gO xs ys k/\∃n,wr=w.drewN n) (fun i _=>xs.length - (intOf i).toNat)
  case atStart=>exact ⟨0,by omega,rfl,gO.zero _ _,0,rfl⟩
  case round=>
   obtain ⟨k,hk,rfl,h0,n,rfl⟩:=hrel
   by_cases h4:k<xs.length
   ·have h3:k<ys.length:=by rw [<-HL];exact h4
    obtain ⟨b,q6,rfl,q3,q4,hc⟩:=HU.at h4;obtain ⟨b',q0,rfl,h6,h7,q5⟩:=HV.at h3
    by_cases he:xs[k]=ys[k]
    ·have h8:(xs[k] != ys[k])=false:=by simp [he]
     have HE:=aVw he;clear he;go_wp2
     go_quiet (fail)
     go_wp2;go_roundw
     case rel=>exact ⟨k+1,by omega,by go_num,h0.succ h4 h3 HE,_,rfl⟩
     case measure=>simp [intOf];omega
    ·have h8:(xs[k] != ys[k])=true:=by simp [he]
     go_wp2
     go_quiet (fail)
     go_wp2;go_ret;exact ⟨aL (decide_eq_false (fun h=>he (by subst h;rfl))).symm,_,World.drewN_drewN _ _ _⟩
   ·go_wp2
    go_ret;exact ⟨aL (decide_eq_true (h0.all HL (by omega))).symm,_,rfl⟩
 ·have h9:((xs.length:Int) != (ys.length:Int))=true:=by simp;omega
  go_enter func82,ntmps82;go_wp2;go_ret;exact ⟨aL (decide_eq_false (fun h=>hl (by rw [h]))).symm,0,rfl⟩
theorem aE3 (lo hi:Nat) (u:Value) (xs:List Int) (left:Int) (w:World) (hu:aU lo hi w u xs) (h1:0<=left) (h2:left<=1048576) :
  Z_ 75 #[u,left] w (.int .i64 (if left - xs.length<0 then -1 else left - xs.length)):=by
 have hl:=hu.len;obtain ⟨a,cap,rfl,HU⟩:=hu.open;go_enter func75,ntmps75;go_wp2
 all_goals go_ret
 all_goals exact ⟨rfl,rfl⟩
theorem eK:(Tryz.prog.info? 3).map (fun i=>(i.zero,i.size,i.bytes))=some (some (.int .i64 0),1,8):=by kernel_rfl
theorem fR (n:Nat):(madeCells #[aT8 .i64 0] n).toList=(aRj n (0:Int)).map (aT8 .i64):=by
 apply aU6;intro i
 by_cases h:i<n
 ·simp [madeCells,h]
  rw [Nat.mod_one]
  rfl
 ·simp [madeCells,h]
def cF (xs:List Int) (k:Nat):List Int:=xs.take k++aRj (xs.length - k) 0
theorem dZ (xs:List Int) (k:Nat) (h:k<=xs.length):(cF xs k).length=xs.length:=by simp [cF];omega
theorem iJ (xs:List Int):cF xs 0=aRj xs.length 0:=by simp [cF]
theorem jB (xs:List Int):cF xs xs.length=xs:=by simp [cF]
theorem fH (xs:List Int) (k:Nat) (h:k<xs.length):(cF xs k).set k xs[k]=cF xs (k+1):=by
 unfold cF;rw [show xs.length - k=(xs.length - (k+1))+1 from by omega,List.replicate_succ,List.set_append_right _ _ (by rw [aRp];omega),aRp,Nat.min_eq_left (aT5 h),Nat.sub_self,aRb,aRv h,List.append_assoc]
 rfl
theorem vM (lo hi:Nat) (u:Value) (xs:List Int) (w:World) (hu:aU lo hi w u xs) (hh:hi<=w.heap.size) (hsz:xs.length<=1048576) :
  Calls aQ2 78 #[u] w fun e w'=>∃v,e = .returned v/\aB w.heap.size w' v xs/\Ext w w':=by
 obtain ⟨i0,h4,h6,h7,h8⟩:=info_parts eK;obtain ⟨a,cap,rfl,HU⟩:=hu.open;clear hu;go_enter func78,ntmps78;go_wp2_with (at_make;refine wpList_make_full _ rfl _ _ 24 rfl w.heap.size 3 i0 (.int .i64 0) 1 underlying24 h4 h6 h7 _ _ _ _ xs.length rfl rfl rfl rfl (by rw [h8];omega) (by unfold maxLen;omega) (aQv _) ?_);intro w1 h0 h1;rw [fR,<-iJ] at h0;have hx:Ext w w1:=(Ext.refl w).grown h1 (fun k h=>by cases h);clear h1 h4 h6 h7 h8;go_wp2
 go_loopw [4] (fun i wr=>∃k:Nat,k<=xs.length/\i = .int .i64 k/\Ext w wr/\wr.ownsRow w.heap.size 3 1 (.slice (some ⟨w.heap.size,0,none⟩) xs.length xs.length) xs.length ((cF xs k).map (aT8 .i64)))
  (fun i _=>xs.length - (intOf i).toNat)
 case atStart=>exact ⟨0,by omega,rfl,hx,h0⟩
 case round=>
  clear h0 hx;obtain ⟨k,hk,rfl,hx,h0⟩:=hrel
  by_cases h2:k<xs.length
  ·obtain ⟨b,q2,rfl,h9,q0,hc⟩:=HU.at h2
   rw [<-hx.cells.1 b _ (by omega)] at hc;have hs:=h0.cellAt k (by omega);have hf:=h0.frozenAt k;have h3:=(h0.stored k (.int .i64 xs[k])).1;have h5:=hx.setCell (p:=⟨w.heap.size,k,none⟩) (aQv _) (.int .i64 xs[k])
   have q1:wr.cell? ⟨w.heap.size,k,none⟩=some (.int .i64 ((cF xs k)[k]'(by rw [dZ _ _ hk];exact h2))):=by
    rw [hs];simp
   rw [<-aWy,fH _ _ h2] at h3;have H1:=hid h3;have H2:=hid h5;clear h3 h5 hs h0 hx;go_wp2;go_roundw
   case rel=>exact ⟨k+1,by omega,by go_num,H2,H1⟩
   case measure=>simp [intOf];omega
  ·go_wp2
   go_ret
   obtain rfl:k=xs.length:=by omega
   rw [jB] at h0
   exact ⟨_,rfl,⟨by simpa using h0,fun x hx=>by
    obtain ⟨i,hi,rfl⟩:=aRw hx
    exact HU.i64 hi⟩,hx⟩
theorem aV (w:World) {o:Oper} {a:Act} (hg:o.guard=none) (s x:Operand)
  (hop:o.op=Op.call { callee:=Callee.builtin Builtin.append,args:=#[s,x],argTypes:=#[24,24] }) (lo:Nat) (v:Value) (xs:List Int) (hs:a.eval s=v) (hown:aB lo w v xs)
  (y:Int) (hy:I64 y) (b:Nat) (hx:a.eval x = .slice (some ⟨b,0,none⟩) 1 1) (hcell:w.cell? ⟨b,0,none⟩=some (.int .i64 y)) (hlen:xs.length<1000000000) (hlo:lo<=w.heap.size)
  (hK:∀v' w',aB lo w' v' (xs++[y])->w.grownBy w' v.ownBlock->wpList aQ2 ops Q rest (a.put o.dst v') w'):wpList aQ2 ops Q (o::rest) a w:=by
 obtain ⟨i0,h2,h3,h4,h5⟩:=info_parts eK;refine wpList_append_own w hg s x 24 hop lo 3 i0 (.int .i64 0) 1 8 underlying24 h2 h3 h4 h5 rfl (by decide) v xs.length _ hs hown.1 ⟨b,0,none⟩ 1 1 [y] hx rfl ?_ ?_ ?_ ?_ hlo ?_
 ·intro j u hj
  match j,hj with
  | 0,hj=>simp at hj;subst hj;exact hcell
 ·intro u hu;simp at hu;subst hu;rfl
 ·unfold maxLen;omega
 ·omega
 ·intro v' w1 h1 h0 _
  refine hK v' w1 ⟨by simpa using h1,fun z hz=>?_⟩ h0
  rcases aTe.1 hz with h|h
  ·exact hown.2 z h
  ·simp at h;rw [h];exact hy
structure Tex where
 log:Int
 px:List Int
instance:DecidableEq Tex:=fun a b=>decidable_of_iff (a.log=b.log/\a.px=b.px) (by cases a;cases b;simp)
def cN (lo hi:Nat) (w:World) (v:Value) (t:Tex):Prop:=∃u,v = .agg #[t.log,u]/\I64 t.log/\aU lo hi w u t.px
def eZ (lo:Nat) (w:World) (v:Value) (t:Tex):Prop:=∃u,v = .agg #[t.log,u]/\I64 t.log/\aB lo w u t.px
theorem eZ.tex {lo:Nat} {t:Tex} (h:eZ lo w v t):cN lo w.heap.size w v t:=by
 obtain ⟨u,h1,h2,h3⟩:=h;exact ⟨u,h1,h2,h3.ints⟩
theorem cN.ext {lo hi:Nat} {t:Tex} (h:cN lo hi w v t) (hh:hi<=w.heap.size) (e:Ext w w'):cN lo hi w' v t:=by
 obtain ⟨u,h1,h2,h3⟩:=h;exact ⟨u,h1,h2,h3.ext hh e⟩
theorem cN.wide {lo hi:Nat} {t:Tex} (h:cN lo hi w v t) (h1:lo'<=lo) (h2:hi<=hi'):cN lo' hi' w v t:=by
 obtain ⟨u,g1,g2,g3⟩:=h;exact ⟨u,g1,g2,g3.wide h1 h2⟩
def lH (left:Int) (n:Nat):Int:=if left - n<0 then -1 else left - n
theorem aE4 (lo hi:Nat) (u:Value) (xs:List Int) (left:Int) (w:World) (hu:aU lo hi w u xs) (h1:0<=left) (h2:left<=1048576) :
  Z_ 75 #[u,left] w (.int .i64 (lH left xs.length)):=aE3 lo hi u xs left w hu h1 h2
theorem aH3 (left:Int) (n:Nat) (h:lH left n<0):lH left n = -1:=by unfold lH at *;split at h <;> simp_all
theorem yM (lo hi:Nat) (v:Value) (t:Tex) (left:Int) (w:World) (hv:cN lo hi w v t) (hh:hi<=w.heap.size) (h1:0<=left) (h2:left<=1048576) :
  R_ 32 #[v,left] w (.int .i64 (lH left t.px.length)):=by
 obtain ⟨u,rfl,h0,hu⟩:=hv;go_enter func32,ntmps32;go_wp2_with (go_at_call 75;refine (aE4 lo hi u t.px left _ (hu.ext hh ((Ext.refl _).alloc _)) h1 h2).mono ?_;rintro e w' ⟨rfl,rfl⟩)
 all_goals go_ret
 all_goals first
  | exact ⟨cS (aH3 _ _ (by assumption)).symm,(Ext.refl _).alloc _⟩
  | exact ⟨rfl,(Ext.refl _).alloc _⟩
theorem yO (lo hi:Nat) (v:Value) (t:Tex) (w:World) (hv:cN lo hi w v t) (hh:hi<=w.heap.size) (hsz:t.px.length<=1048576) :
  Calls aQ2 37 #[v] w fun e w'=>∃v',e = .returned v'/\eZ w.heap.size w' v' t/\Ext w w':=by
 obtain ⟨u,rfl,h0,hu⟩:=hv;go_enter func37,ntmps37;go_wp2_with fail;refine (vM lo hi u t.px _ (hu.ext hh ((((Ext.refl _).alloc _).alloc _).alloc _)) (by simp;omega) hsz).mono ?_;rintro e w1 ⟨v1,rfl,h1,hx⟩;obtain ⟨a,cap,rfl,_⟩:=h1.form;have hz:=hx.size;simp only [aQy] at hz;obtain ⟨hc,hf⟩:=hx.cells;go_wp2;refine bodyPost_ret (v:=.agg #[t.log,.slice a t.px.length cap]) (by simp [results,results37,go_sem,hc]) rfl ⟨_,rfl,⟨_,rfl,h0,?_⟩,?_⟩
 ·exact (((h1.setLow (by simp) _).setLow (by simp) _).setLow (by simp) _).low (by simp;omega)
 ·exact ((((((Ext.refl _).alloc _).alloc _).alloc _).trans hx |>.setCell (by simp;omega) _).setCell (by simp) _).setCell (by simp) _
theorem yP (lo hi lo' hi':Nat) (v v':Value) (t t':Tex) (w:World) (hv:cN lo hi w v t) (hh:hi<=w.heap.size) (hv':cN lo' hi' w v' t') (hh':hi'<=w.heap.size) :
  R_ 42 #[v,v'] w (.bool (decide (t=t'))):=by
 obtain ⟨u,rfl,h3,hu⟩:=hv;obtain ⟨u',rfl,h0,h4⟩:=hv';go_enter func42,ntmps42;go_wp2_with (go_at_call 82;refine (vL lo hi lo' hi' u u' t.px t'.px _ (hu.ext hh (((Ext.refl _).alloc _).alloc _)) (h4.ext hh' (((Ext.refl _).alloc _).alloc _))).mono ?_;rintro e w' ⟨rfl,n,rfl⟩)
 all_goals go_ret
 ·rename_i h
  exact ⟨aL (decide_eq_false (fun e=>by simp [e] at h)).symm,((Ext.refl _).alloc _).alloc _⟩
 ·rename_i h
  exact ⟨aL (decide_eq_false (fun e=>by simp [e] at h)).symm,(((Ext.refl _).alloc _).alloc _).drewN _⟩
 ·rename_i h1 h2
  exact ⟨aL (decide_eq_true (by cases t;cases t';simp_all)).symm,(((Ext.refl _).alloc _).alloc _).drewN _⟩
def cY (k lo hi:Nat) (w:World) (v:Value) (n:Nat) (f:Nat->Int):Prop:=
 ∃a cap,v = .slice a n cap/\n<=cap/\cap<=maxLen/\∀i,i<n*k->I64 (f i)/\∃b off,a=some ⟨b,off,none⟩/\lo<=b/\b<hi/\w.cell? ⟨b,off+i,none⟩=some (.int .i64 (f i))
theorem cY.same {lo hi:Nat} {n:Nat} (h:cY k lo hi w v n f) (s:aM lo hi w w'):cY k lo hi w' v n f:=by
 obtain ⟨a,cap,h1,h2,h3,h4⟩:=h;refine ⟨a,cap,h1,h2,h3,fun i hx=>?_⟩;obtain ⟨h5,b,h0,h6,h7,h8,h9⟩:=h4 i hx;exact ⟨h5,b,h0,h6,h7,h8,by rw [s.cell h7 h8];exact h9⟩
theorem cY.ext {lo hi:Nat} {n:Nat} (h:cY k lo hi w v n f) (hh:hi<=w.heap.size) (e:Ext w w'):cY k lo hi w' v n f:=h.same (e.same hh)
theorem cY.wide {lo hi:Nat} {n:Nat} (h:cY k lo hi w v n f) (h1:lo'<=lo) (h2:hi<=hi'):cY k lo' hi' w v n f:=by
 obtain ⟨a,cap,g1,g2,g3,g4⟩:=h;refine ⟨a,cap,g1,g2,g3,fun i hx=>?_⟩;obtain ⟨h5,b,h0,h6,h7,h8,h9⟩:=g4 i hx;exact ⟨h5,b,h0,h6,by omega,by omega,h9⟩
structure jR (k lo hi:Nat) (w:World) (a:Option Addr) (cap n:Nat) (f:Nat->Int):Prop where
 le:n<=cap
 cap:cap<=9223372036854775807
 cell:∀i,i<n*k->I64 (f i)/\∃b off,a=some ⟨b,off,none⟩/\lo<=b/\b<hi/\w.cell? ⟨b,off+i,none⟩=some (.int .i64 (f i))
theorem cY.open {lo hi:Nat} {n:Nat} (h:cY k lo hi w v n f):∃a cap,v = .slice a n cap/\jR k lo hi w a cap n f:=by
 obtain ⟨a,cap,g1,g2,g3,g4⟩:=h;exact ⟨a,cap,g1,g2,by unfold maxLen at g3;omega,g4⟩
theorem jR.shut {lo hi:Nat} {a:Option Addr} {n:Nat} (h:jR k lo hi w a cap n f):cY k lo hi w (.slice a n cap) n f:=
 ⟨a,cap,rfl,h.le,by unfold maxLen;have:=h.cap;omega,h.cell⟩
theorem eQ {n:Nat} (hi:i<n) (hj:j<k):i*k+j<n*k:=by
 have:=aSq k (Nat.succ_le_of_lt hi);rw [Nat.succ_mul] at this;omega
theorem jR.at {lo hi:Nat} {a:Option Addr} {n:Nat} (h:jR k lo hi w a cap n f) (hi':i<n) (hk:0<k) :
  ∃b off,a=some ⟨b,off,none⟩/\lo<=b/\b<hi/\∀j,j<k->w.cell? ⟨b,off+i*k+j,none⟩=some (.int .i64 (f (i*k+j))):=by
 obtain ⟨_,b,off,h6,h7,h8,h9⟩:=h.cell _ (eQ hi' hk);refine ⟨b,off,h6,h7,h8,fun j hj=>?_⟩;obtain ⟨_,b',h2,h0,h3,h4,h1⟩:=h.cell _ (eQ hi' hj);rw [h0] at h6;simp only [aQ0,aR1] at h6;obtain ⟨rfl,rfl,_⟩:=h6;rw [aSp];exact h1
theorem jR.i64 {lo hi:Nat} {a:Option Addr} {n:Nat} (h:jR k lo hi w a cap n f) (hi':i<n) (hj:j<k):I64 (f (i*k+j)):=(h.cell _ (eQ hi' hj)).1
def lI (f:Nat->Int) (c i:Nat):Int:=if i<c then f i else 0
def bE (w:World) (b:Nat) (t:TypeId) (n:Nat) (f:Nat->Int):Prop:=w.rowIs b t n (fun i=>.int .i64 (f i))
theorem bE.cell {b:Nat} {n:Nat} (h:bE w b t n f) (hi:i<n):w.cell? ⟨b,i,none⟩=some (.int .i64 (f i)):=aSr h hi
theorem bE.frozen {b:Nat} {n:Nat} (h:bE w b t n f) (i:Nat):w.frozen? ⟨b,i,none⟩=false:=aS2 h i
theorem bE.lt {b:Nat} {n:Nat} (h:bE w b t n f):b<w.heap.size:=aTk h
theorem bE.ext {b:Nat} {n:Nat} (h:bE w b t n f) (e:Ext w w'):bE w' b t n f:=aUj h (e.block h.lt)
theorem bE.alloc {b:Nat} {n:Nat} (h:bE w b t n f) (o:Obj):bE (w.alloc o) b t n f:=World.rowIs.alloc h o
theorem bE.of {b:Nat} {n:Nat} (h:bE w b t n f) (e:w'.heap[b]?=w.heap[b]?):bE w' b t n f:=aUj h e
theorem bE.other {b:Nat} {n:Nat} (h:bE w b t n f) {a:Addr} (ha:b≠a.block) (v:Value):bE (w.setCell a v) b t n f:=World.rowIs.setOther h ha v
theorem bE.step {b:Nat} {n:Nat} {c:Nat} (h:bE w b t n (lI f c)) (hi:i=c) (hx:x=f c):bE (w.setCell ⟨b,i,none⟩ x) b t n (lI f (c+1)):=by
 subst hi hx;refine aTa (aXu h i (.int .i64 (f i))) fun j _=>?_;unfold lI
 by_cases e:j=i
 ·subst e;simp
 ·rw [if_neg e]
  by_cases h1:j<i
  ·rw [if_pos h1,if_pos (by omega)]
  ·rw [if_neg h1,if_neg (by omega)]
theorem bE.full {b:Nat} {n:Nat} (h:bE w b t n (lI f n)):bE w b t n f:=
 aTa h fun i hi=>by unfold lI;rw [if_pos hi]
theorem bE.zero {b:Nat} {n:Nat} (h:bE w b t n (fun _=>0)):bE w b t n (lI f 0):=
 aTa h fun i hi=>by unfold lI;rw [if_neg (by omega)]
def aC1 (f q:Nat->Int) (c i:Nat):Int:=if i<c then q i else f i
theorem bE.mix {b:Nat} {n:Nat} {c:Nat} (h:bE w b t n (aC1 f q c)) (hi:i=c) (hx:x=q c):bE (w.setCell ⟨b,i,none⟩ x) b t n (aC1 f q (c+1)):=by
 subst hi hx;refine aTa (aXu h i (.int .i64 (q i))) fun j _=>?_;unfold aC1
 by_cases e:j=i
 ·subst e;simp
 ·rw [if_neg e]
  by_cases h1:j<i
  ·rw [if_pos h1,if_pos (by omega)]
  ·rw [if_neg h1,if_neg (by omega)]
theorem bE.mix0 {b:Nat} {n:Nat} (h:bE w b t n f):bE w b t n (aC1 f q 0):=
 aTa h fun i hi=>by unfold aC1;rw [if_neg (by omega)]
theorem bE.mixAll {b:Nat} {n:Nat} (h:bE w b t n (aC1 f q n)):bE w b t n q:=
 aTa h fun i hi=>by unfold aC1;rw [if_pos hi]
theorem bE.flats {b:Nat} {n:Nat} (h:bE w b t (n*k) f) (hl:n<=cap) (hm:cap<=maxLen) {lo:Nat} (hb:lo<=b) (hi:∀i,i<n*k->I64 (f i)):cY k lo w.heap.size w (.slice (some ⟨b,0,none⟩) n cap) n f:=
 ⟨_,cap,rfl,hl,hm,fun i hx=>⟨hi i hx,b,0,rfl,hb,h.lt,by rw [aRt];exact h.cell hx⟩⟩
theorem aA9 {lo:Nat} {size n:Nat} {z:Array Value} (hz:∀i,i<n*size->(madeCells z (n*size))[i]?=some (.int .i64 0))
  (h:w.ownsRow lo e size (.slice (some ⟨g,0,none⟩) n n) n (madeCells z (n*size)).toList):bE w g e (n*size) (fun _=>0):=by
 rcases h.2 with ⟨h1,h4⟩|⟨g',cap,cur,h1,hb,hg,hc,hm,hs,ht⟩
 ·simp at h1
 ·simp only [aRo,true_and,aQ0,aR1,and_true] at h1
  obtain ⟨rfl,rfl⟩:=h1;refine ⟨cur,hg,hs,fun i hi=>?_⟩;have h2:=hz i hi
  have h3:cur.toList=(madeCells z (n*size)).toList:=by
   rw [<-ht,aR3];simp [hs]
  rw [<-aTv,h3,aTv];exact h2
theorem aH4 {z:Array Value} (h0:z=aU4 k (.int .i64 0)) (hk:0<k) (n:Nat):∀i,i<n->(madeCells z n)[i]?=some (.int .i64 0):=by
 intro i hi;subst h0;have h:i % k<k:=aTp _ hk;simp [madeCells,hi,h]
def Blk (w:World) (g:Nat) (t:TypeId) (cs:List Value):Prop:=w.heap[g]?=some (.cells cs.toArray t (0,0))
theorem Blk.lt {cs:List Value} (h:Blk w g t cs):g<w.heap.size:=(aRi.1 h).1
theorem Blk.cell {cs:List Value} (h:Blk w g t cs) (i:Nat) (hi:cs[i]?=some v):w.cell? ⟨g,i,none⟩=some v:=by
 unfold Blk at h;simp [aSy,h,hi]
theorem Blk.free {cs:List Value} (h:Blk w g t cs) (i:Nat):w.frozen? ⟨g,i,none⟩=false:=by
 unfold Blk at h;simp [aWg,h]
theorem Blk.new (w:World) (t:TypeId) (cs:List Value):Blk (w.alloc (.cells cs.toArray t)) w.heap.size t cs:=by
 show (w.heap.push _)[w.heap.size]?=_
 simp
theorem mk_ (w:World) (cs:List Value) (t:TypeId) {n:Nat} (h:w.heap.size=n+k):∃V,w.alloc (.cells cs.toArray t)=V/\Blk V (n+k) t cs/\Ext w V/\V.heap.size=n+(k+1):=
 ⟨_,rfl,h▸Blk.new w t cs,X_,by rw [aQy,h];rfl⟩
theorem Blk.of {cs:List Value} (h:Blk w g t cs) (e:w'.heap[g]?=w.heap[g]?):Blk w' g t cs:=e.trans h
theorem Blk.ext {cs:List Value} (h:Blk w g t cs) (e:Ext w w'):Blk w' g t cs:=h.of (e.block h.lt)
theorem Blk.set {cs:List Value} (h:Blk w g t cs) (i:Nat) (v:Value):Blk (w.setCell ⟨g,i,none⟩ v) g t (cs.set i v):=by
 have h0:=h.lt
 have h':w.heap[g] = .cells cs.toArray t (0,0):=by unfold Blk at h;simpa [aUd h0] using h
 show (w.heap.modify g _)[g]?=_
 rw [aUd (by simpa using h0),Array.getElem_modify_self,h'];simp
theorem Blk.other {cs:List Value} (h:Blk w g t cs) {a:Addr} (ne:g≠a.block) (v:Value):Blk (w.setCell a v) g t cs:=h.of (aQ7 _ _ _ _ ne)
theorem Blk.grown {cs:List Value} (h:Blk w g t cs) (hg:w.grownBy w' row) (ne:some g≠row):Blk w' g t cs:=h.of (hg.block g h.lt ne)
theorem aB.grown {lo:Nat} (h:aB lo w v xs) (hg:w.grownBy w' row) (ne:∀k,v.ownBlock=some k->some k≠row):aB lo w' v xs:=by
 obtain ⟨⟨h1,h2⟩,h3⟩:=h;refine ⟨⟨h1,?_⟩,h3⟩
 rcases h2 with hn|⟨g,cap,cur,rfl,hb,hh,r⟩
 ·exact .inl hn
 ·exact .inr ⟨g,cap,cur,rfl,hb,by rw [hg.block g ((aRi.1 hh).1) (ne g rfl)];exact hh,r⟩
theorem aB.setOther {lo:Nat} (h:aB lo w v xs) {a:Addr} (ne:v.ownBlock≠some a.block) (u:Value):aB lo (w.setCell a u) v xs:=⟨ownsRow_setCell_other h.1 ne u,h.2⟩
theorem aB.fresh0 {lo:Nat} (hl:lo<=g) (h:Blk w g 3 []):aB lo w (.slice (some ⟨g,0,none⟩) 0 0) []:=
 ⟨⟨rfl,.inr ⟨g,0,#[],rfl,hl,h,aQv _,aSi _,rfl,rfl⟩⟩,fun _ h=>by cases h⟩
theorem aB.block {lo:Nat} (h:aB lo w v xs) (hk:v.ownBlock=some k):∃cur,w.heap[k]?=some (.cells cur 3 (0,0)):=by
 obtain ⟨⟨h1,h2⟩,h3⟩:=h
 rcases h2 with ⟨rfl,_⟩|⟨g,cap,cur,rfl,hb,hh,r⟩
 ·cases hk
 ·simp only [aRu,aQ0] at hk
  subst hk;exact ⟨cur,hh⟩
theorem Blk.q2 {r:List Value} (h:Blk w g t (v0::v1::r)):w.cell? ⟨g,0,none⟩=some v0/\w.cell? ⟨g,1,none⟩=some v1:=⟨h.cell 0 rfl,h.cell 1 rfl⟩
theorem Blk.q3 {r:List Value} (h:Blk w g t (v0::v1::v2::r)):w.cell? ⟨g,0,none⟩=some v0/\w.cell? ⟨g,1,none⟩=some v1/\w.cell? ⟨g,2,none⟩=some v2:=⟨h.cell 0 rfl,h.cell 1 rfl,h.cell 2 rfl⟩
theorem Blk.q4 {r:List Value} (h:Blk w g t (v0::v1::v2::v3::r)):w.cell? ⟨g,0,none⟩=some v0/\w.cell? ⟨g,1,none⟩=some v1/\w.cell? ⟨g,2,none⟩=some v2/\w.cell? ⟨g,3,none⟩=some v3:=⟨h.cell 0 rfl,h.cell 1 rfl,h.cell 2 rfl,h.cell 3 rfl⟩
theorem Blk.q5 {r:List Value} (h:Blk w g t (v0::v1::v2::v3::v4::r)):w.cell? ⟨g,0,none⟩=some v0/\w.cell? ⟨g,1,none⟩=some v1/\w.cell? ⟨g,2,none⟩=some v2/\w.cell? ⟨g,3,none⟩=some v3/\w.cell? ⟨g,4,none⟩=some v4:=⟨h.cell 0 rfl,h.cell 1 rfl,h.cell 2 rfl,h.cell 3 rfl,h.cell 4 rfl⟩
theorem Blk.q7 {r:List Value} (h:Blk w g t (v0::v1::v2::v3::v4::v5::v6::r)):w.cell? ⟨g,0,none⟩=some v0/\w.cell? ⟨g,1,none⟩=some v1/\w.cell? ⟨g,2,none⟩=some v2/\w.cell? ⟨g,3,none⟩=some v3/\w.cell? ⟨g,4,none⟩=some v4/\w.cell? ⟨g,5,none⟩=some v5/\w.cell? ⟨g,6,none⟩=some v6:=⟨h.cell 0 rfl,h.cell 1 rfl,h.cell 2 rfl,h.cell 3 rfl,h.cell 4 rfl,h.cell 5 rfl,h.cell 6 rfl⟩
theorem Blk.q11 {r:List Value} (h:Blk w g t (v0::v1::v2::v3::v4::v5::v6::v7::v8::v9::v10::r)):w.cell? ⟨g,0,none⟩=some v0/\w.cell? ⟨g,1,none⟩=some v1/\w.cell? ⟨g,2,none⟩=some v2/\w.cell? ⟨g,3,none⟩=some v3/\w.cell? ⟨g,4,none⟩=some v4/\w.cell? ⟨g,5,none⟩=some v5/\w.cell? ⟨g,6,none⟩=some v6/\w.cell? ⟨g,7,none⟩=some v7/\w.cell? ⟨g,8,none⟩=some v8/\w.cell? ⟨g,9,none⟩=some v9/\w.cell? ⟨g,10,none⟩=some v10:=⟨h.cell 0 rfl,h.cell 1 rfl,h.cell 2 rfl,h.cell 3 rfl,h.cell 4 rfl,h.cell 5 rfl,h.cell 6 rfl,h.cell 7 rfl,h.cell 8 rfl,h.cell 9 rfl,h.cell 10 rfl⟩
theorem Blk.q12 {v11:Value} {r:List Value} (h:Blk w g t (v0::v1::v2::v3::v4::v5::v6::v7::v8::v9::v10::v11::r)):w.cell? ⟨g,0,none⟩=some v0/\w.cell? ⟨g,1,none⟩=some v1/\w.cell? ⟨g,2,none⟩=some v2/\w.cell? ⟨g,3,none⟩=some v3/\w.cell? ⟨g,4,none⟩=some v4/\w.cell? ⟨g,5,none⟩=some v5/\w.cell? ⟨g,6,none⟩=some v6/\w.cell? ⟨g,7,none⟩=some v7/\w.cell? ⟨g,8,none⟩=some v8/\w.cell? ⟨g,9,none⟩=some v9/\w.cell? ⟨g,10,none⟩=some v10/\w.cell? ⟨g,11,none⟩=some v11:=⟨h.cell 0 rfl,h.cell 1 rfl,h.cell 2 rfl,h.cell 3 rfl,h.cell 4 rfl,h.cell 5 rfl,h.cell 6 rfl,h.cell 7 rfl,h.cell 8 rfl,h.cell 9 rfl,h.cell 10 rfl,h.cell 11 rfl⟩
def qF (lo hi:Nat) (w:World) (v:Value) (xs:List ByteArray):Prop:=
 ∃a cap,v = .slice a xs.length cap/\xs.length<=cap/\cap<=maxLen/\∀i x,xs[i]?=some x->∃b off,a=some ⟨b,off,none⟩/\lo<=b/\b<hi/\w.cell? ⟨b,off+i,none⟩=some (.string x)
theorem qF.same {lo hi:Nat} {xs:List ByteArray} (h:qF lo hi w v xs) (s:aM lo hi w w'):qF lo hi w' v xs:=by
 obtain ⟨a,cap,h1,h2,h3,h4⟩:=h;refine ⟨a,cap,h1,h2,h3,fun i x hx=>?_⟩;obtain ⟨b,h0,h6,h7,h8,h9⟩:=h4 i x hx;exact ⟨b,h0,h6,h7,h8,by rw [s.cell h7 h8];exact h9⟩
theorem qF.ext {lo hi:Nat} {xs:List ByteArray} (h:qF lo hi w v xs) (hh:hi<=w.heap.size) (e:Ext w w'):qF lo hi w' v xs:=h.same (e.same hh)
structure aBa (lo hi:Nat) (w:World) (a:Option Addr) (cap:Nat) (xs:List ByteArray):Prop where
 le:xs.length<=cap
 cap:cap<=9223372036854775807
 cell:∀i x,xs[i]?=some x->∃b off,a=some ⟨b,off,none⟩/\lo<=b/\b<hi/\w.cell? ⟨b,off+i,none⟩=some (.string x)
theorem qF.open {lo hi:Nat} {xs:List ByteArray} (h:qF lo hi w v xs):∃a cap,v = .slice a xs.length cap/\aBa lo hi w a cap xs:=by
 obtain ⟨a,cap,g1,g2,g3,g4⟩:=h;exact ⟨a,cap,g1,g2,by unfold maxLen at g3;omega,g4⟩
theorem aBa.at {lo hi:Nat} {a:Option Addr} {xs:List ByteArray} (h:aBa lo hi w a cap xs) (hk:k<xs.length) :
  ∃b off,a=some ⟨b,off,none⟩/\lo<=b/\b<hi/\w.cell? ⟨b,off+k,none⟩=some (.string xs[k]):=h.cell k xs[k] (by simp [hk])
def cG (lo:Nat) (w:World) (v:Value) (xs:List ByteArray):Prop:=w.ownsRow lo 9 1 v xs.length (xs.map Value.string)
theorem cG.strs {lo:Nat} {xs:List ByteArray} (h:cG lo w v xs):qF lo w.heap.size w v xs:=by
 obtain ⟨h1,h2⟩:=h
 rcases h2 with ⟨rfl,h4⟩|⟨g,cap,cur,rfl,hb,hg,hc,hm,hs,ht⟩
 ·refine ⟨none,0,by rw [h4],by omega,by unfold maxLen;omega,fun i x hx=>?_⟩
  have:=(aQz.1 hx).1;omega
 ·refine ⟨some ⟨g,0,none⟩,cap,rfl,hc,hm,fun i x hx=>⟨g,0,rfl,hb,(aRi.1 hg).1,?_⟩⟩
  have hi:=(aQz.1 hx).1
  have e:(xs.map Value.string)[i]?=some (.string x):=by simp [hx]
  rw [<-ht,aS1,if_pos (by omega)] at e;simp only [aSy,hg,aRt]
  simpa using e
theorem cG.nil (lo:Nat) (w:World):cG lo w (.slice none 0 0) []:=aUp _ _ _ _
theorem cG.kept {lo:Nat} {xs:List ByteArray} (h:cG lo w v xs) (s:aM lo w.heap.size w w'):cG lo w' v xs:=by
 obtain ⟨h1,h2⟩:=h;refine ⟨h1,?_⟩
 rcases h2 with hn|⟨g,cap,cur,hv,hb,hg,r⟩
 ·exact .inl hn
 ·exact .inr ⟨g,cap,cur,hv,hb,by rw [s g hb (aRi.1 hg).1];exact hg,r⟩
theorem cG.ext {lo:Nat} {xs:List ByteArray} (h:cG lo w v xs) (e:Ext w w'):cG lo w' v xs:=h.kept (e.same (aQv _))
theorem cG.form {lo:Nat} {xs:List ByteArray} (h:cG lo w v xs):∃a cap,v = .slice a xs.length cap/\xs.length<=9223372036854775807:=by
 obtain ⟨h1,h2⟩:=h
 rcases h2 with ⟨rfl,h4⟩|⟨g,cap,cur,rfl,hb,hg,hc,hm,hs,ht⟩
 ·exact ⟨none,0,by rw [h4],by omega⟩
 ·exact ⟨some ⟨g,0,none⟩,cap,rfl,by unfold maxLen at hm;omega⟩
theorem aC2:(Tryz.prog.info? 9).map (fun i=>(i.zero,i.size,i.bytes))=some (some (.string ⟨#[]⟩),1,16):=by kernel_rfl
theorem jS (w:World) {o:Oper} {a:Act} (hg:o.guard=none) (s x:Operand)
  (hop:o.op=Op.call { callee:=Callee.builtin Builtin.append,args:=#[s,x],argTypes:=#[161,161] }) (lo:Nat) (v:Value) (xs:List ByteArray) (hs:a.eval s=v) (hown:cG lo w v xs)
  (y:ByteArray) (b:Nat) (hx:a.eval x = .slice (some ⟨b,0,none⟩) 1 1) (hcell:w.cell? ⟨b,0,none⟩=some (.string y)) (hlen:xs.length<1000000000) (hlo:lo<=w.heap.size)
  (hK:∀v' w',cG lo w' v' (xs++[y])->w.grownBy w' v.ownBlock->wpList aQ2 ops Q rest (a.put o.dst v') w'):wpList aQ2 ops Q (o::rest) a w:=by
 obtain ⟨i0,h2,h3,h4,h5⟩:=info_parts aC2;refine wpList_append_own w hg s x 161 hop lo 9 i0 (.string ⟨#[]⟩) 1 16 underlying161 h2 h3 h4 h5 rfl (by decide) v xs.length _ hs hown ⟨b,0,none⟩ 1 1 [.string y] hx rfl ?_ ?_ ?_ ?_ hlo ?_
 ·intro j u hj
  match j,hj with
  | 0,hj=>simp at hj;subst hj;exact hcell
 ·intro u hu;simp at hu;subst hu;rfl
 ·unfold maxLen;omega
 ·omega
 ·intro v' w1 h1 h0 _
  refine hK v' w1 ?_ h0;unfold cG
  simpa using h1
section
variable {P : Program} {ops : Array Oper} {Q : Exit -> Act -> World -> Prop} {md : aU8} {S : World -> Prop} {z : Nat}
def jC (P:Program) (md:aU8) (ops:Array Oper) (Q:Exit->Act->World->Prop) (S:World->Prop) (z:Nat):Nat->Array Bool->Act->World->Prop
 | 0,listed,a,w=>aSm md ops listed=[]/\Q .normal a w
 | fuel+1,listed,a,w=>
  (aSm md ops listed=[]->Q .normal a w) /\
  ∀i∈aSm md ops listed,wpOp P ops Q i (fun a' w'=>(i=z\/S w')/\jC P md ops Q S z fuel (listed.setIfInBounds i true) a' w') a w
theorem hH:∀(fuel:Nat) (listed:Array Bool) (a:Act) (w:World),jC P md ops Q S z fuel listed a w->wpAny P md ops Q fuel listed a w
 | 0,_,_,_,h=>h
 | fuel+1,_,_,_,h=>⟨h.1,fun i hi=>wpOp_mono (fun a' w' h'=>hH fuel _ a' w' h'.2) (h.2 i hi)⟩
def fI (md:aU8) (ops:Array Oper) (z:Nat):Bool:=
 match ops[z]? with
 | none=>true
 | some o=>(aRl ops.size).all fun j=>j==z||o.after.any fun e=>aVp md e&&e.on==j
theorem pS (h:fI md ops z=true) {i:Nat} {oi:Oper} (hi:ops[i]?=some oi) (hne:i≠z) {listed:Array Bool} (hun:listed.getD i false=false):z∉aSm md ops listed:=by
 intro hz;obtain ⟨_,oz,h3,h0⟩:=mem_ready.1 hz;unfold fI at h;simp only [h3,aR5,aR4] at h;have h1:=h i (aRi.1 hi).1;simp only [Bool.or_eq_true,beq_iff_eq,hne,false_or] at h1;obtain ⟨e,he,hb⟩:=Array.any_eq_true'.1 h1;simp only [aRd,beq_iff_eq] at hb;have h2:=h0 e he hb.1;rw [hb.2,hun] at h2;cases h2
theorem fS {i:Nat} {oi:Oper} {v:Value} (hi:ops[i]?=some oi) (hz:fI md ops z=true) (hiz:i≠z) (hsel:∀(j:Nat) (o:Oper) cs b,ops[j]?=some o->o.op≠.select cs b)
  (hQ:∀c a w,Q (.panic c) (a.put oi.dst v) w->Q (.panic c) a w) :
  ∀(fuel:Nat) (listed:Array Bool) (a:Act) (w:World),
   (∀j oj,ops[j]?=some oj->j≠i->listed.getD j true=false->(∀e∈oj.after,aVp md e=true->e.on≠i)->oi.apart ops oj=true) ->
   i∈aSm md ops listed->YieldsIf P ops S oi v a->S w ->
   jC P md ops Q S z fuel (listed.setIfInBounds i true) (a.put oi.dst v) w->jC P md ops Q S z (fuel+1) listed a w:=by
 intro fuel
 induction fuel with
 | zero=>
  intro listed a w _ hr hy hS H;refine ⟨fun h=>(by rw [h] at hr;cases hr),fun j hj=>?_⟩
  by_cases h4:j=i
  ·subst h4;exact hy.wpOp hi hS ⟨.inr hS,H⟩
  ·have:=ready_mono hj h4
   rw [H.1] at this;cases this
 | succ fuel ih=>
  intro listed a w h0 hr hy hS H;refine ⟨fun h=>(by rw [h] at hr;cases hr),fun j hj=>?_⟩
  by_cases h4:j=i
  ·subst h4;exact hy.wpOp hi hS ⟨.inr hS,H⟩
  ·have h7:listed.getD i false=false:=getD_both (mem_ready.1 hr).1
   have q3:j≠z:=fun e=>pS hz hi hiz h7 (e▸hj);have h1:=H.2 j (ready_mono hj h4);obtain ⟨h6,oj,q0,h8⟩:=mem_ready.1 hj
   have h9:∀e∈oj.after,aVp md e=true->e.on≠i:=fun e he hb heq=>by
    have h1:=h8 e he hb;rw [heq,h7] at h1;cases h1
   have h2:=wpOp_putIf q0 (h0 j oj q0 h4 h6 h9) (fun cs b=>hsel i oi cs b hi) (fun cs b=>hsel j oj cs b q0) hQ hy h1
   have h5:∀k ok,ops[k]?=some ok->k≠i->(listed.setIfInBounds j true).getD k true=false ->
     (∀e∈ok.after,aVp md e=true->e.on≠i)->oi.apart ops ok=true:=fun k ok hk hki h7 hno=>by
    refine h0 k ok hk hki ?_ hno
    by_cases q2:j=k
    ·subst q2;exact h6
    ·rw [getD_set_ne true q2] at h7;exact h7
   refine wpOp_mono (fun a' w' h3=>?_) h2;have q1:S w':=h3.2.1.resolve_left q3;refine ⟨.inr q1,ih (listed.setIfInBounds j true) a' w' h5 (ready_mono hr (Ne.symm h4)) h3.1 q1 ?_⟩;rw [Array.setIfInBounds_comm _ _ h4];exact h3.2.2
def vN (P:Program) (ops:Array Oper) (S:World->Prop) (o:Oper) (a:Act) (K:Act->Prop):Prop:=
 if Region.wanted o (yielded ops a.tmps) then ∃v,(∀w',S w'->(execOp a.eval o).run P w' = .ok (.value v) w')/\K (a.put o.dst v) else K (a.put o.dst undef)
def eT (P:Program) (ops:Array Oper) (Q:Exit->Act->World->Prop) (S:World->Prop) (z:Nat):List (Bool×Nat)->Act->World->Prop
 | [],a,w=>Q .normal a w
 | (true,i)::r,a,w=>∃o,ops[i]?=some o/\vN P ops S o a (fun a'=>eT P ops Q S z r a' w)
 | (false,i)::r,a,w=>∃o,ops[i]?=some o/\wpList P ops (Exit.then (fun a' w'=>(i=z\/S w')/\eT P ops Q S z r a' w') Q) [o] a w
def gP (md:aU8) (ops:Array Oper) (z:Nat):List (Bool×Nat)->Array Bool->Bool
 | [],listed=>(aSm md ops listed).isEmpty
 | (true,i)::r,listed=>i != z&&aZx md ops listed i&&(aSm md ops listed).contains i&&gP md ops z r (listed.setIfInBounds i true)
 | (false,i)::r,listed=>(aSm md ops listed==[i])&&gP md ops z r (listed.setIfInBounds i true)
def aG7 (md:aU8) (ops:Array Oper) (z:Nat) (plan:List (Bool×Nat)):Bool:=
 aUc ops&&fI md ops z&&gP md ops z plan (aU4 ops.size false)
theorem iX {o:Oper} {a:Act} {next K:Act->World->Prop} {r:Result Next} (h:o.upon P a next (Exit.then K Q) r):o.upon P a next Q r:=by
 cases r with
 | ok n w'=>cases n <;> exact h
 | halt x w'=>cases x <;> exact h
theorem fJ (hsel:aUc ops=true) (hz:fI md ops z=true) (hQ:∀c a a' w,Q (.panic c) a w->Q (.panic c) a' w) :
  ∀(plan:List (Bool×Nat)) (listed:Array Bool) (a:Act) (w:World),gP md ops z plan listed=true->(plan≠[]->plan.head?.map (·.1)=some true->S w)->eT P ops Q S z plan a w->jC P md ops Q S z plan.length listed a w
 | [],listed,a,w,hB,_,h=>⟨by simpa [gP] using hB,h⟩
 | (true,i)::r,listed,a,w,hB,hS,h=>by
  simp only [gP,aRd,bne_iff_ne] at hB;obtain ⟨⟨⟨hiz,hf⟩,hr⟩,hB'⟩:=hB;obtain ⟨o,ho,ht⟩:=h;have hSw:S w:=hS (by simp) rfl;unfold vN at ht
  split at ht
  ·rename_i hw
   obtain ⟨v,hv,hK⟩:=ht
   exact fS ho hz hiz (aTt hsel) (fun c a w=>hQ c _ _ w) r.length listed a w (aUf ho hf) (by simpa using hr) (.inl ⟨hw,hv⟩) hSw
    (fJ hsel hz hQ r _ _ _ hB' (fun _ _=>hSw) hK)
  ·rename_i hw
   exact fS ho hz hiz (aTt hsel) (fun c a w=>hQ c _ _ w) r.length listed a w (aUf ho hf) (by simpa using hr) (.inr ⟨by simpa using hw,rfl⟩) hSw
    (fJ hsel hz hQ r _ _ _ hB' (fun _ _=>hSw) ht)
 | (false,i)::r,listed,a,w,hB,hS,h=>by
  simp only [gP,aRd,beq_iff_eq] at hB;obtain ⟨hr,hB'⟩:=hB;obtain ⟨o,ho,ht⟩:=h;refine ⟨fun h0=>(by rw [hr] at h0;cases h0),fun j hj=>?_⟩;rw [hr] at hj
  obtain rfl:j=i:=by simpa using hj
  have h3:∀a' w',((j=z\/S w')/\eT P ops Q S z r a' w')->((j=z\/S w')/\jC P md ops Q S z r.length (listed.setIfInBounds j true) a' w'):=fun a' w' ⟨k1,k2⟩=>
   ⟨k1,fJ hsel hz hQ r _ _ _ hB' (fun hne hhd=>by
    rcases k1 with k1|k1
    ·subst k1
     cases r with
     | nil=>exact absurd rfl hne
     | cons x r'=>
      obtain ⟨b,i'⟩:=x;simp at hhd;subst hhd;simp only [gP,aRd,bne_iff_ne] at hB';obtain ⟨⟨⟨hiz,hf'⟩,hr'⟩,_⟩:=hB'
      have h4:i'∈aSm md ops (listed.setIfInBounds j true):=by simpa using hr'
      obtain ⟨h6,oi,h7,_⟩:=mem_ready.1 h4
      have h5:listed.getD i' false=false:=by
       rw [getD_set_ne true (Ne.symm hiz)] at h6;exact getD_both h6
      exact absurd (by rw [hr];simp) (pS hz h7 hiz h5)
    ·exact k1) k2⟩
  unfold wpOp;simp only [ho];unfold wpList at ht
  split
  ·rename_i hw
   rw [if_pos hw] at ht
   rcases ht with ht|⟨h1,h2⟩
   ·refine .inl ?_
    unfold Oper.wp at *;have:=iX ht;exact Oper.wp_mono (fun a' w' hk=>h3 a' w' hk) this
   ·exact .inr ⟨h1,h2⟩
  ·rename_i hw
   rw [if_neg hw] at ht;exact h3 _ _ ht
theorem nL {id:Nat} {a:Act} {w:World} {l:List Oper} (plan:List (Bool×Nat)) (z:Nat) (S:World->Prop) (hm:P.follows .mixedOrders=true) (hB:aG7 .any l.toArray z plan=true) (hl:plan.length=l.length)
  (hS:S w.drew) (h:eT P l.toArray (NoPanic Q) S z plan a w.drew):(Code.region id l.toArray true).wp P Q a w:=by
 simp only [aG7,aRd] at hB;refine wp_region_noPanic (wp_region_any hm ?_);have:=hH _ _ _ _ (fJ (Q:=NoPanic Q) hB.1.1 hB.1.2 (fun c a a' w k=>k) plan _ a w.drew hB.2 (fun _ _=>hS) h);rw [hl] at this
 simpa using this
end
def qG:Op->Bool
 | .move _ | .assign _ | .pick .. | .load .. | .binOp .. | .unOp .. | .convert .. | .fieldAddr .. | .field .. | .indexAddr .. | .index .. | .slice .. | .build .. | .extract .. | .lookup .. | .makeInterface .. | .makeFunc .. | .sliceToArrayPointer ..=>true
 | .call { callee:=.builtin .len,.. }=>true
 | _=>false
theorem aAc {P:Program} {s:Sem Value} {w w':World} {n:Next} (h:(s.bind fun v=>Sem.pure (Next.value v)).run P w = .ok n w'):∃v,n = .value v:=by
 rw [Sem.run_bind'] at h
 cases hs:s.run P w with
 | ok v w1=>rw [hs] at h;simp [Sem.run] at h;exact ⟨v,h.1.symm⟩
 | halt x w1=>rw [hs] at h;simp at h
theorem qH {P:Program} {ρ : Operand->Value} {o:Oper} (hr:qG o.op=true) {w w':World} {n:Next} (h:(execOp ρ o).run P w = .ok n w'):∃v,n = .value v:=by
 unfold execOp at h;generalize hop:o.op=op at hr h
 cases op <;> first|(simp only [qG,aTs] at hr;done)|skip
 case move x=>simp at h;exact ⟨_,h.1.symm⟩
 case assign x=>simp at h;exact ⟨_,h.1.symm⟩
 case pick c a b=>
  simp at h
  cases hs:(asBool (ρ c)).run P w with
  | ok x w1=>rw [hs] at h;simp at h;exact ⟨_,h.1.symm⟩
  | halt x w1=>rw [hs] at h;simp at h
 case call c=>
  rcases c with ⟨callee,args,ats⟩
  cases callee with
  | value f=>cases hr
  | invoke f g=>cases hr
  | builtin b=>
   cases b <;> simp only [qG,aTs] at hr
   exact aAc (s:=Builtin.len_ ats o.type (args.map ρ)) h
 all_goals exact aAc h
open Classical in
noncomputable def gQ (N:Nat) (w d:World):World:=if aM 0 N w d then d else w
theorem aAd (N:Nat) (w d:World):aM 0 N w (gQ N w d):=by
 unfold gQ
 split
 ·assumption
 ·exact fun _ _ _=>rfl
theorem oL {N:Nat} {w d:World} (h:aM 0 N w d):d=gQ N w d:=by unfold gQ;rw [if_pos h]
@[go_sem] theorem jD (N:Nat) (w d:World) (a:Addr) (h:a.block<N):(gQ N w d).cell? a=w.cell? a:=aSe (w:=w) (aAd N w d a.block (aSi _) h)
@[go_sem] theorem aLt (N:Nat) (w d:World) (a:Addr) (h:a.block<N):(gQ N w d).frozen? a=w.frozen? a:=aSt (w:=w) (aAd N w d a.block (aSi _) h)
def dQ (P:Program) (ops:Array Oper) (Q:Exit->Act->World->Prop) (N:Nat) (w0:World) (z:Nat):List (List Nat×Nat)->Act->World->Prop
 | [],a,w=>Q .normal a w
 | (T,e)::r,a,w=>wpQuiet P ops (fun w'=>∃d,w'=gQ N w0 d) (fun a'=>∃o,ops[e]?=some o/\wpList P ops (Exit.then (fun a2 w2=>(e=z\/aM 0 N w0 w2)/\dQ P ops Q N w0 z r a2 w2) Q) [o] a' w) (T.filterMap (ops[·]?)) a
def bW:List (List Nat×Nat)->List (Bool×Nat)
 | []=>[]
 | (T,e)::r=>T.map (fun i=>(true,i))++(false,e)::bW r
def uZ (ops:Array Oper):List (List Nat×Nat)->Bool
 | []=>true
 | (T,_)::r=>T.all (fun i=>match ops[i]? with|some o=>qG o.op|none=>false)&&uZ ops r
theorem kQ {P:Program} {ops:Array Oper} {Q:Exit->Act->World->Prop} {N:Nat} {w0:World} {z:Nat} {r:List (Bool×Nat)} {w:World} {K:Act->Prop}
  (hK:∀a,K a->eT P ops Q (fun w'=>∃d,w'=gQ N w0 d) z r a w) :
  ∀(T:List Nat) (a:Act),T.all (fun i=>match ops[i]? with|some o=>qG o.op|none=>false)=true->wpQuiet P ops (fun w'=>∃d,w'=gQ N w0 d) K (T.filterMap (ops[·]?)) a ->
   eT P ops Q (fun w'=>∃d,w'=gQ N w0 d) z (T.map (fun i=>(true,i))++r) a w
 | [],a,_,h=>hK a h
 | i::T,a,hr,h=>by
  simp only [List.all_cons,aRd] at hr;obtain ⟨hri,hr'⟩:=hr
  cases ho:ops[i]? with
  | none=>rw [ho] at hri;cases hri
  | some o=>
   rw [ho] at hri;simp only [aRm,ho] at h;refine ⟨o,ho,?_⟩;unfold vN;unfold wpQuiet at h
   split
   ·rename_i hw
    rw [if_pos hw] at h;obtain ⟨v,hv,hn⟩:=h;refine ⟨v,fun w' hw'=>?_,kQ hK T _ hr' hn⟩;have h1:=hv w' hw';unfold Oper.quietAt at h1
    cases hrun:(execOp a.eval o).run P w' with
    | halt x w1=>rw [hrun] at h1;exact h1.elim
    | ok n w1=>
     obtain ⟨u,rfl⟩:=qH hri hrun;rw [hrun] at h1;obtain ⟨e1,e2⟩:=h1;rw [e1,e2]
   ·rename_i hw
    rw [if_neg hw] at h;exact kQ hK T _ hr' h
theorem nM {P:Program} {ops:Array Oper} {Q:Exit->Act->World->Prop} {N:Nat} {w0:World} {z:Nat}:∀(st:List (List Nat×Nat)) (a:Act) (w:World),uZ ops st=true ->
  dQ P ops Q N w0 z st a w->eT P ops Q (fun w'=>∃d,w'=gQ N w0 d) z (bW st) a w
 | [],_,_,_,h=>h
 | (T,e)::r,a,w,hr,h=>by
  simp only [uZ,aRd] at hr;refine kQ (K:=fun a'=>∃o,ops[e]?=some o/\wpList P ops (Exit.then (fun a2 w2=>(e=z\/aM 0 N w0 w2)/\dQ P ops Q N w0 z r a2 w2) Q) [o] a' w) (fun a' ha=>?_) T a hr.1 h;obtain ⟨o,ho,hl⟩:=ha;refine ⟨o,ho,?_⟩
  have key:∀a2 w2,((e=z\/aM 0 N w0 w2)/\dQ P ops Q N w0 z r a2 w2)->((e=z\/∃d,w2=gQ N w0 d)/\eT P ops Q (fun w'=>∃d,w'=gQ N w0 d) z (bW r) a2 w2):=
   fun a2 w2 ⟨k1,k2⟩=>⟨k1.imp id (fun k=>⟨_,oL k⟩),nM r a2 w2 hr.2 k2⟩
  unfold wpList at hl ⊢
  split
  ·rename_i hw
   rw [if_pos hw] at hl
   rcases hl with hl|⟨h1,h2⟩
   ·refine .inl ?_
    have h3:=iX hl;have h4:o.wp P a' w (wpList P ops (Exit.then (fun a2 w2=>(e=z\/aM 0 N w0 w2)/\dQ P ops Q N w0 z r a2 w2) Q) []) Q:=h3;have h5:=Oper.wp_mono (K':=wpList P ops (Exit.then (fun a2 w2=>(e=z\/∃d,w2=gQ N w0 d)/\eT P ops Q (fun w'=>∃d,w'=gQ N w0 d) z (bW r) a2 w2) Q) []) (fun a2 w2 hk=>key a2 w2 hk) h4;unfold Oper.wp at h5 ⊢;generalize (execOp a'.eval o).run P w=res at h5 ⊢
    cases res with
    | ok n w'=>cases n <;> exact h5
    | halt x w'=>cases x <;> exact h5
   ·exact .inr ⟨h1,h2⟩
  ·rename_i hw
   rw [if_neg hw] at hl;exact key _ _ hl
theorem aA {P:Program} {Q:Exit->Act->World->Prop} {id:Nat} {a:Act} {w:World} {l:List Oper} (st:List (List Nat×Nat)) (z N:Nat) (hm:P.follows .mixedOrders=true)
  (hB:(aG7 .any l.toArray z (bW st)&&uZ l.toArray st&&(bW st).length==l.length)=true)
  (h:dQ P l.toArray (NoPanic Q) N w z st a w.drew):(Code.region id l.toArray true).wp P Q a w:=by
 simp only [aRd,beq_iff_eq] at hB
 have hs:∀w2,aM 0 N w w2->∃d,w2=gQ N w d:=fun w2 k=>⟨_,oL k⟩
 exact nL (bW st) z (fun w'=>∃d,w'=gQ N w d) hm hB.1.1 hB.2 (hs _ (fun _ _ _=>rfl)) (nM st a w.drew hB.1.2 h)
theorem aC {P:Program} {ops:Array Oper} {Q:Exit->Act->World->Prop} {N:Nat} {w0:World} {z:Nat} {a:Act} {w:World} (h:Q .normal a w):dQ P ops (NoPanic Q) N w0 z [] a w:=h
theorem aI {P:Program} {ops:Array Oper} {Q:Exit->Act->World->Prop} {N:Nat} {w0:World} {z:Nat} {T:List Nat} {e:Nat} {r:List (List Nat×Nat)} {a:Act} {w:World}
  (h:wpQuiet P ops (fun w'=>∃d,w'=gQ N w0 d) (fun a'=>∃o,ops[e]?=some o/\∀K:Act->World->Prop,(∀a2 w2,(e=z\/aM 0 N w0 w2)->dQ P ops Q N w0 z r a2 w2->K a2 w2)->wpList P ops (Exit.then K Q) [o] a' w) (T.filterMap (ops[·]?)) a) :
  dQ P ops Q N w0 z ((T,e)::r) a w:=by
 unfold dQ
 have e1:(fun a'=>∃o,ops[e]?=some o/\wpList P ops (Exit.then (fun a2 w2=>(e=z\/aM 0 N w0 w2)/\dQ P ops Q N w0 z r a2 w2) Q) [o] a' w) =
   (fun a'=>∃o,ops[e]?=some o/\∀K:Act->World->Prop,(∀a2 w2,(e=z\/aM 0 N w0 w2)->dQ P ops Q N w0 z r a2 w2->K a2 w2)->wpList P ops (Exit.then K Q) [o] a' w):=by
  funext a'
  refine propext ⟨fun ⟨o,ho,hl⟩=>⟨o,ho,fun K hK=>?_⟩,fun ⟨o,ho,hl⟩=>⟨o,ho,hl _ fun a2 w2 h1 h2=>⟨h1,h2⟩⟩⟩;unfold wpList at hl ⊢
  split
  ·rename_i hw
   rw [if_pos hw] at hl
   rcases hl with hl|⟨h1,h2⟩
   ·refine .inl ?_
    have h4:=Oper.wp_mono (K':=wpList P ops (Exit.then K Q) []) (fun a2 w2 hk=>hK a2 w2 hk.1 hk.2) hl;unfold Oper.wp at h4 ⊢;generalize (execOp a'.eval o).run P w=res at h4 ⊢
    cases res with
    | ok n w'=>cases n <;> exact h4
    | halt x w'=>cases x <;> exact h4
   ·exact .inr ⟨h1,h2⟩
  ·rename_i hw
   rw [if_neg hw] at hl;exact hK _ _ hl.1 hl.2
 rw [e1];exact h
def wpZ (P:Program) (ops:Array Oper) (Q:Exit->Act->World->Prop) (N:Nat) (w0:World) (z fuel:Nat) (listed:Array Bool) (a:Act) (w:World):Prop:=
 jC P .any ops Q (fun w'=>∃d,w'=gQ N w0 d) z fuel listed a w
def dR:List Nat->Array Bool->Array Bool
 | [],l=>l
 | i::r,l=>dR r (l.setIfInBounds i true)
def rF (ops:Array Oper) (z:Nat):List Nat->Array Bool->Bool
 | [],_=>true
 | i::r,l=>(match ops[i]? with|some o=>qG o.op|none=>false)&&(i != z&&aZx .any ops l i&&(aSm .any ops l).contains i)&&rF ops z r (l.setIfInBounds i true)
def vA (ops:Array Oper) (z:Nat) (T E:List Nat) (l:Array Bool):Bool:=
 aUc ops&&fI .any ops z&&rF ops z T l&&(aSm .any ops (dR T l)==E) && !E.isEmpty
def bU (P:Program) (ops:Array Oper) (Q:Exit->Act->World->Prop) (N:Nat) (w0:World) (z fuel:Nat) (l:Array Bool) (e:Nat) (a:Act) (w:World):Prop:=
 ∃o,ops[e]?=some o/\∀K:Act->World->Prop,(∀a2 w2,(e=z\/aM 0 N w0 w2)->wpZ P ops Q N w0 z fuel (l.setIfInBounds e true) a2 w2->K a2 w2)->wpList P ops (Exit.then K Q) [o] a w
theorem yQ {P:Program} {ops:Array Oper} {Q:Exit->Act->World->Prop} {N:Nat} {w0:World} {z fuel:Nat} {l:Array Bool} {e:Nat} {a:Act} {w:World} (h:bU P ops Q N w0 z fuel l e a w) :
  wpOp P ops Q e (fun a' w'=>(e=z\/∃d,w'=gQ N w0 d)/\wpZ P ops Q N w0 z fuel (l.setIfInBounds e true) a' w') a w:=by
 obtain ⟨o,ho,hl⟩:=h;have ht:=hl (fun a' w'=>(e=z\/∃d,w'=gQ N w0 d)/\wpZ P ops Q N w0 z fuel (l.setIfInBounds e true) a' w') (fun a2 w2 k1 k2=>⟨k1.imp id (fun k=>⟨_,oL k⟩),k2⟩);unfold wpOp;simp only [ho];unfold wpList at ht
 split
 ·rename_i hw
  rw [if_pos hw] at ht
  rcases ht with ht|⟨h1,h2⟩
  ·refine .inl ?_
   have h3:=iX ht;exact h3
  ·exact .inr ⟨h1,h2⟩
 ·rename_i hw
  rw [if_neg hw] at ht;exact ht
theorem oM {P:Program} {ops:Array Oper} {Q:Exit->Act->World->Prop} {N:Nat} {w0:World} {z fuel:Nat} {w:World} {K:Act->Prop} (hsel:aUc ops=true) (hz:fI .any ops z=true) (hS:∃d,w=gQ N w0 d) :
  ∀(T:List Nat) (l:Array Bool) (a:Act),rF ops z T l=true->(∀a,K a->wpZ P ops (NoPanic Q) N w0 z fuel (dR T l) a w) ->
   wpQuiet P ops (fun w'=>∃d,w'=gQ N w0 d) K (T.filterMap (ops[·]?)) a->wpZ P ops (NoPanic Q) N w0 z (T.length+fuel) l a w
 | [],l,a,_,hK,h=>by rw [aS7,aRt];exact hK a h
 | i::T,l,a,hT,hK,h=>by
  simp only [rF,aRd,bne_iff_ne] at hT;obtain ⟨⟨hri,⟨hiz,hf⟩,hr⟩,hT'⟩:=hT
  cases ho:ops[i]? with
  | none=>rw [ho] at hri;cases hri
  | some o=>
   rw [ho] at hri;simp only [aRm,ho] at h;unfold wpQuiet at h
   have hlen:(i::T).length+fuel=T.length+fuel+1:=by rw [aSc];omega
   rw [hlen]
   split at h
   ·rename_i hw
    obtain ⟨v,hv,hn⟩:=h;refine fS (v:=v) ho hz hiz (aTt hsel) (fun c a w k=>k) _ l a w (aUf ho hf) (by simpa using hr) (.inl ⟨hw,fun w' hw'=>?_⟩) hS (oM hsel hz hS T _ _ hT' hK hn);have h1:=hv w' hw';unfold Oper.quietAt at h1
    cases h0:(execOp a.eval o).run P w' with
    | halt x w1=>rw [h0] at h1;exact h1.elim
    | ok n w1=>
     obtain ⟨u,rfl⟩:=qH hri h0;rw [h0] at h1;obtain ⟨e1,e2⟩:=h1;rw [e1,e2]
   ·rename_i hw
    exact fS (v:=undef) ho hz hiz (aTt hsel) (fun c a w k=>k) _ l a w (aUf ho hf) (by simpa using hr) (.inr ⟨by simpa using hw,rfl⟩) hS (oM hsel hz hS T _ _ hT' hK h)
theorem aZ {P:Program} {ops:Array Oper} {Q:Exit->Act->World->Prop} {N:Nat} {w0:World} {z fuel:Nat} {l:Array Bool} {a:Act} {w:World} (T E:List Nat) (hB:vA ops z T E l=true) (hS:aM 0 N w0 w)
  (h:wpQuiet P ops (fun w'=>∃d,w'=gQ N w0 d) (fun a'=>∀e∈E,bU P ops (NoPanic Q) N w0 z fuel (dR T l) e a' w) (T.filterMap (ops[·]?)) a) :
  wpZ P ops (NoPanic Q) N w0 z (T.length+(fuel+1)) l a w:=by
 simp only [vA,aRd,beq_iff_eq] at hB;obtain ⟨⟨⟨⟨h1,h2⟩,h3⟩,h4⟩,h5⟩:=hB;refine oM h1 h2 ⟨_,oL hS⟩ T l a h3 (fun a' hk=>?_) h;refine ⟨fun h0=>?_,fun e he=>?_⟩
 ·rw [h4] at h0;rw [h0] at h5;cases h5
 ·rw [h4] at he
  exact yQ (hk e he)
theorem z1_ {P:Program} {ops:Array Oper} {Q:Exit->Act->World->Prop} {N:Nat} {w0:World} {z fuel:Nat} {l:Array Bool} {a:Act} {w:World} {lst:List Oper} {a0 a1:Act} {o:Oper} (T:List Nat) (e:Nat) (hS:aM 0 N w0 w)
  (h:∀K:Act->World->Prop,(∀a2 w2,(e=z\/aM 0 N w0 w2)->wpZ P ops (NoPanic Q) N w0 z fuel ((dR T l).setIfInBounds e true) a2 w2->K a2 w2)->wpList P ops (Exit.then K (NoPanic Q)) [o] a1 w)
  (hl:T.filterMap (ops[·]?)=lst:=by first|(simp only [aRm,aRg,aQ1,aQw,aQx];rfl)|rfl)
  (ha:a=a0:=by first|(simp only [aSj,aQ4,aRc,aRb];rfl)|rfl)
  (hq:∀R:Act->Prop,R a1->wpQuiet P ops (fun w'=>∃d,w'=gQ N w0 d) R lst a0:=by intro R h;(repeat (show wpQuiet _ _ _ _ (_::_) _;go_big_quiet_step (fail)));exact wpQuiet_nil h)
  (hB:vA ops z T [e] l=true:=by kernel_rfl) (ho:ops[e]?=some o:=by first|(simp only [aQ1,aQx,aQw];rfl)|rfl):wpZ P ops (NoPanic Q) N w0 z (T.length+(fuel+1)) l a w:=by
 subst ha;refine aZ T [e] hB hS ?_;rw [hl];refine hq _ (fun e' he=>?_)
 obtain rfl:e'=e:=by simpa using he
 exact ⟨o,ho,h⟩
theorem z2_ {P:Program} {ops:Array Oper} {Q:Exit->Act->World->Prop} {N:Nat} {w0:World} {z fuel:Nat} {l:Array Bool} {a:Act} {w:World} {lst:List Oper} {a0 a1:Act} {o1 o2:Oper} (T:List Nat) (e1 e2:Nat) (hS:aM 0 N w0 w)
  (h1:∀K:Act->World->Prop,(∀a2 w2,(e1=z\/aM 0 N w0 w2)->wpZ P ops (NoPanic Q) N w0 z fuel ((dR T l).setIfInBounds e1 true) a2 w2->K a2 w2)->wpList P ops (Exit.then K (NoPanic Q)) [o1] a1 w)
  (h2:∀K:Act->World->Prop,(∀a2 w2,(e2=z\/aM 0 N w0 w2)->wpZ P ops (NoPanic Q) N w0 z fuel ((dR T l).setIfInBounds e2 true) a2 w2->K a2 w2)->wpList P ops (Exit.then K (NoPanic Q)) [o2] a1 w)
  (hl:T.filterMap (ops[·]?)=lst:=by first|(simp only [aRm,aRg,aQ1,aQw,aQx];rfl)|rfl)
  (ha:a=a0:=by first|(simp only [aSj,aQ4,aRc,aRb];rfl)|rfl)
  (hq:∀R:Act->Prop,R a1->wpQuiet P ops (fun w'=>∃d,w'=gQ N w0 d) R lst a0:=by intro R h;(repeat (show wpQuiet _ _ _ _ (_::_) _;go_big_quiet_step (fail)));exact wpQuiet_nil h)
  (hB:vA ops z T [e1,e2] l=true:=by kernel_rfl) (ho1:ops[e1]?=some o1:=by first|(simp only [aQ1,aQx,aQw];rfl)|rfl) (ho2:ops[e2]?=some o2:=by first|(simp only [aQ1,aQx,aQw];rfl)|rfl):wpZ P ops (NoPanic Q) N w0 z (T.length+(fuel+1)) l a w:=by
 subst ha;refine aZ T [e1,e2] hB hS ?_;rw [hl];refine hq _ (fun e' he=>?_)
 rcases (show e'=e1\/e'=e2 by simpa using he) with rfl|rfl
 ·exact ⟨o1,ho1,h1⟩
 ·exact ⟨o2,ho2,h2⟩
theorem bX {P:Program} {ops:Array Oper} {Q:Exit->Act->World->Prop} {N:Nat} {w0:World} {z:Nat} {l:Array Bool} {a:Act} {w:World} (hB:(aSm .any ops l).isEmpty=true) (h:Q .normal a w):wpZ P ops (NoPanic Q) N w0 z 0 l a w:=
 ⟨by simpa using hB,h⟩
theorem cZ {P:Program} {Q:Exit->Act->World->Prop} {id:Nat} {a:Act} {w:World} {l:List Oper} (z N:Nat) (hm:P.follows .mixedOrders=true)
  (h:wpZ P l.toArray (NoPanic Q) N w z l.length (aU4 l.length false) a w.drew):(Code.region id l.toArray true).wp P Q a w:=by
 refine wp_region_noPanic (wp_region_any hm ?_);have:=hH _ _ _ _ h
 simpa using this
theorem st_ {P:Program} {ops:Array Oper} {Q:Exit->Act->World->Prop} {N:Nat} {w0:World} {z:Nat} {T:List Nat} {e:Nat} {r:List (List Nat×Nat)} {a:Act} {w:World} {l:List Oper} {a0 a1:Act} {o:Oper}
  (h:∀K:Act->World->Prop,(∀a2 w2,(e=z\/aM 0 N w0 w2)->dQ P ops Q N w0 z r a2 w2->K a2 w2)->wpList P ops (Exit.then K Q) [o] a1 w)
  (hl:T.filterMap (ops[·]?)=l:=by first|(simp only [aRm,aRg,aQ1,aQw,aQx];rfl)|rfl)
  (ha:a=a0:=by first|(simp only [aSj,aQ4,aRc,aRb];rfl)|rfl)
  (hq:∀R:Act->Prop,R a1->wpQuiet P ops (fun w'=>∃d,w'=gQ N w0 d) R l a0:=by intro R h;(repeat (show wpQuiet _ _ _ _ (_::_) _;go_big_quiet_step (fail)));exact wpQuiet_nil h) (ho:ops[e]?=some o:=by first|(simp only [aQ1,aQx,aQw];rfl)|rfl):dQ P ops Q N w0 z ((T,e)::r) a w:=by
 subst ha;refine aI ?_;rw [hl];exact hq _ ⟨o,ho,h⟩
theorem k_ {K R:Act->World->Prop} {p:Prop} {N:Nat} {w0 w:World} {a:Act} (hK:∀a2 w2,(p\/aM 0 N w0 w2)->R a2 w2->K a2 w2) (h:R a w) (hs:aM 0 N w0 w:=by exact Ext.same X_ (by first|exact aQv _|omega|(simp;omega)|simp)):K a w:=hK a w (.inr hs) h
theorem l_ {K R:Act->World->Prop} {p:Prop} {q:World->Prop} {w:World} {a:Act} (hK:∀a2 w2,(p\/q w2)->R a2 w2->K a2 w2) (h:R a w) (hp:p:=by trivial):K a w:=hK a w (.inl hp) h
def S9 (n:Int):Prop:=-1000000000<=n/\n<=1000000000
def dS (n:Int):Int:=aR n (-1000000000) 1000000000
theorem fD (n:Int):S9 (dS n):=by
 unfold dS aR S9
 split
 ·omega
 ·split <;> omega
def aC3 (a b:Int):Int:=if b<0 then bI (-a*256) (-b) else bI (a*256) b
def opI (op a b:Int):Int:=if op=3 then -b else if op=4 then a+b else if op=5 then a - b else if op=6 then bI (a*b) 256 else aC3 a b
def eU (op a b:Int):Int:=dS (opI op a b)
theorem mH {m:Int} (ha : -m<=a/\a<=m) (hm:0<=m) : -m - 1<=bI a b/\bI a b<=m:=by
 unfold bI
 split
 ·omega
 ·rename_i hb
  have h1:=aZk a b;have h2:=aZd a (show b≠0 by omega);have h3:=aX9 a (show 0<b by omega)
  by_cases h0:0<=a
  ·have:=Int.ediv_nonneg h0 (show 0<=b by omega)
   have:=Int.ediv_le_self b h0;omega
  ·have h4:a / b<0:=Int.ediv_neg_of_neg_of_pos (by omega) (by omega)
   have h5:a<=a / b:=by
    have:=Int.le_ediv_of_mul_le (a:=a) (b:=a) (show 0<b by omega) (by
     have:=aXp (a:=a) (b:=b) (c:=1) (by omega) (by omega)
     omega)
    omega
   omega
theorem vO (ha:S9 a) (hb:S9 b) : -1000000000000000000<=a*b/\a*b<=1000000000000000000:=by
 obtain ⟨h1,h2⟩:=ha;obtain ⟨h3,h4⟩:=hb;have k1:=aSv (show 0<=1000000000 - a by omega) (show 0<=1000000000 - b by omega);have k2:=aSv (show 0<=1000000000+a by omega) (show 0<=1000000000+b by omega);have k3:=aSv (show 0<=1000000000 - a by omega) (show 0<=1000000000+b by omega);have k4:=aSv (show 0<=1000000000+a by omega) (show 0<=1000000000 - b by omega);simp only [aYh,Int.mul_sub,aZo,Int.mul_add] at k1 k2 k3 k4
 constructor <;> omega
theorem cO {n:Int} (h:dS n=c) (w:World):Z_ 276 #[n] w (.int .i64 c):=by
 have H:=hid h;clear h;go_enter func276,ntmps276;go_wp2_with fail;refine z_ (dY H _) ?_;go_wp2;go_ret;exact ⟨rfl,rfl⟩
theorem eB {n:Int} (h:dS n=c) (w:World):Z_ 266 #[n] w (.int .i64 c):=by
 have H:=hid h;clear h;go_enter func266,ntmps266;go_wp2_with fail;refine z_ (cV H _) ?_;go_wp2;go_ret;exact ⟨rfl,rfl⟩
theorem aE5 (ha:S9 a) (hb:S9 b) (h:aC3 a b=c) (w:World):Z_ 296 #[a,b] w (.int .i64 c):=by
 obtain ⟨a1,a2⟩:=ha;obtain ⟨b1,b2⟩:=hb;unfold aC3 at h
 by_cases hn:b<0
 ·rw [if_pos hn] at h
  have H:=hid h;clear h;go_enter func296,ntmps296;go_wp2_with fail;refine z_ (cD (I64.mk (by omega) (by omega)) H _) ?_;go_wp2;go_ret;exact ⟨rfl,rfl⟩
 ·rw [if_neg hn] at h
  have H:=hid h;clear h;go_enter func296,ntmps296;go_wp2_with fail;refine z_ (cD (I64.mk (by omega) (by omega)) H _) ?_;go_wp2;go_ret;exact ⟨rfl,rfl⟩
theorem yR (ha:S9 a) (hb:S9 b) (h:aC3 a b=c) (w:World):Z_ 281 #[.int .i64 (a*256),b] w (.int .i64 c):=by
 obtain ⟨a1,a2⟩:=ha;obtain ⟨b1,b2⟩:=hb;unfold aC3 at h
 by_cases hn:b<0
 ·rw [if_pos hn,show -a*256 = -(a*256) by omega] at h
  have H:=hid h;clear h;go_enter func281,ntmps281;go_wp2_with fail;refine z_ (aT (I64.mk (by omega) (by omega)) H _) ?_;go_wp2;go_ret;exact ⟨rfl,rfl⟩
 ·rw [if_neg hn] at h
  have H:=hid h;clear h;go_enter func281,ntmps281;go_wp2_with fail;refine z_ (aT (I64.mk (by omega) (by omega)) H _) ?_;go_wp2;go_ret;exact ⟨rfl,rfl⟩
def lJ (h x:Int):Int:=kL (31*h+aR x (-1000000000) 1000000000) 1000003
def jT (xs:List Int):Int:=xs.foldl lJ 17
theorem aAe (x:Int) : -1000000000<=aR x (-1000000000) 1000000000/\aR x (-1000000000) 1000000000<=1000000000:=by
 unfold aR
 split
 ·omega
 ·split <;> omega
theorem aH5 (a:Int):0<=kL a 1000003/\kL a 1000003<1000003:=by
 obtain ⟨k,hk,h⟩:=jA a (n:=1000003) (by decide);have e:kL a 1000003=kL a ((1000003:Nat):Int):=rfl;rw [e,hk];omega
theorem vP:∀(xs:List Int) (h:Int),(0<=h/\h<1000003)->0<=xs.foldl lJ h/\xs.foldl lJ h<1000003
 | [],_,h=>h
 | _::r,_,_=>vP r _ (aH5 _)
theorem jU (xs:List Int):0<=jT xs/\jT xs<1000003:=vP xs 17 (by decide)
theorem vQ (xs:List Int) (k:Nat) (x:Int) (h:xs[k]?=some x):jT (xs.take (k+1))=lJ (jT (xs.take k)) x:=by
 unfold jT;rw [List.take_add_one,h,List.foldl_append]
 rfl
theorem aBb (lo hi:Nat) (u:Value) (xs:List Int) (w:World) (hu:aU lo hi w u xs) :
  Z_ 176 #[u] w (.int .i64 (jT xs)):=by
 obtain ⟨a,cap,rfl,HU⟩:=hu.open;have l1:=HU.le;have l2:=HU.cap;clear hu;go_enter func176,ntmps176;go_wp2
 go_loopw [3,8] (fun h i wr=>∃k:Nat,k<=xs.length/\i = .int .i64 k/\h = .int .i64 (jT (xs.take k))/\w=wr) (fun _ i _=>xs.length - (intOf i).toNat)
 case atStart=>exact ⟨0,by omega,rfl,by rw [aW1];rfl,rfl⟩
 case round=>
  obtain ⟨k,hk,rfl,rfl,rfl⟩:=hrel
  by_cases h2:k<xs.length
  ·obtain ⟨b,h7,rfl,h5,h6,hc⟩:=HU.at h2
   obtain ⟨x,hx⟩:∃x,xs[k]=x:=⟨_,rfl⟩
   have hs:=vQ xs k x (by rw [aQ9 h2,hx])
   obtain ⟨h,hh⟩:∃h,jT (xs.take k)=h:=⟨_,rfl⟩
   have hr:=jU (xs.take k);rw [hh] at hr hs ⊢;rw [hx] at hc;have HS:=hid hs;have h4:=aAe x
   obtain ⟨c,h0⟩:∃c,aR x (-1000000000) 1000000000=c:=⟨_,rfl⟩
   have HC:=hid h0;rw [h0] at h4;clear hs hh hx h0;have h1:∀w,Z_ 81 #[x,.int .i64 (-1000000000),.int .i64 1000000000] w (.int .i64 c):=fun w=>dY HC w;have h3:=hid h1;clear h1;go_wp2_with fail;refine z_ (h3 _) ?_;go_wp2_with fail;refine z_ (rE (31*h+c) 1000003 _ ⟨by omega,by omega⟩ ⟨by decide,by decide⟩) ?_;go_wp2;go_roundw
   case rel=>exact ⟨k+1,by omega,by go_num,by rw [HS,lJ,HC],by trivial⟩
   case measure=>simp [intOf];omega
  ·obtain rfl:k=xs.length:=by omega
   rw [aR2];go_wp2;go_ret;exact ⟨rfl,rfl⟩
theorem yS (lo hi:Nat) (u:Value) (xs:List Int) (w:World) (hu:aU lo hi w u xs) :
  Z_ 175 #[u] w (.int .i64 (jT xs)):=by
 obtain ⟨a,cap,rfl,HU⟩:=hu.open;have l1:=HU.le;have l2:=HU.cap;clear hu;go_enter func175,ntmps175;go_wp2
 go_loopw [3,8] (fun h i wr=>∃k:Nat,k<=xs.length/\i = .int .i64 k/\h = .int .i64 (jT (xs.take k))/\w=wr) (fun _ i _=>xs.length - (intOf i).toNat)
 case atStart=>exact ⟨0,by omega,rfl,by rw [aW1];rfl,rfl⟩
 case round=>
  obtain ⟨k,hk,rfl,rfl,rfl⟩:=hrel
  by_cases h2:k<xs.length
  ·obtain ⟨b,h8,rfl,h6,h7,hc⟩:=HU.at h2
   obtain ⟨x,hx⟩:∃x,xs[k]=x:=⟨_,rfl⟩
   have hs:=vQ xs k x (by rw [aQ9 h2,hx])
   obtain ⟨h,hh⟩:∃h,jT (xs.take k)=h:=⟨_,rfl⟩
   have hr:=jU (xs.take k);rw [hh] at hr hs ⊢;rw [hx] at hc;have h4:=aAe x
   obtain ⟨c,h0⟩:∃c,aR x (-1000000000) 1000000000=c:=⟨_,rfl⟩
   have HC:=hid h0;rw [h0] at h4;unfold lJ at hs;rw [h0,<-aG6] at hs
   obtain ⟨q,hq⟩:∃q,bI (31*h+c) 1000003=q:=⟨_,rfl⟩
   have h5:=mH (a:=31*h+c) (b:=1000003) (m:=2000000000) (by omega) (by omega);rw [hq] at h5 hs;have HQ:=hid hq;have HS:=hid hs;clear hs hh hx h0 hq;have h1:∀w,Z_ 77 #[x,.int .i64 (-1000000000),.int .i64 1000000000] w (.int .i64 c):=fun w=>cV HC w;have h3:=hid h1;clear h1;go_wp2_with fail;refine z_ (h3 _) ?_;go_wp2_with fail;refine z_ (aT (I64.mk (by omega) (by omega)) HQ _) ?_;go_wp2;go_roundw
   case rel=>exact ⟨k+1,by omega,by go_num,by rw [HS],by trivial⟩
   case measure=>simp [intOf];omega
  ·obtain rfl:k=xs.length:=by omega
   rw [aR2];go_wp2;go_ret;exact ⟨rfl,rfl⟩
def mI (xs:List Int):Int:=jT xs % 257
theorem aBc (lo hi:Nat) (u:Value) (xs:List Int) (w:World) (hu:aU lo hi w u xs) :
  Z_ 121 #[u,.int .i64 257] w (.int .i64 (mI xs)):=by
 have HU:=hid hu;clear hu;unfold mI;have hr:=jU xs
 obtain ⟨h,hh⟩:∃h,jT xs=h:=⟨_,rfl⟩
 rw [hh] at hr ⊢;have HH:=hid hh;clear hh;have et:h.tmod 257=h % 257:=aTj (by omega);go_enter func121,ntmps121;go_wp2_with fail;refine z_ (aBb lo hi _ xs _ HU) ?_;rw [HH];go_wp2;rw [<-et];go_ret;exact ⟨rfl,rfl⟩
theorem aBd (lo hi:Nat) (u:Value) (xs:List Int) (w:World) (hu:aU lo hi w u xs) :
  Z_ 118 #[u,.int .i64 257] w (.int .i64 (mI xs)):=by
 have HU:=hid hu;clear hu;unfold mI;have hr:=jU xs
 obtain ⟨h,hh⟩:∃h,jT xs=h:=⟨_,rfl⟩
 rw [hh] at hr ⊢;have HH:=hid hh;clear hh;have et:h.tmod 257=h % 257:=aTj (by omega);go_enter func118,ntmps118;go_wp2_with fail;refine z_ (yS lo hi _ xs _ HU) ?_;rw [HH];go_wp2;rw [<-et];go_ret;exact ⟨rfl,rfl⟩
def aH6 (a b:Int):Int:=if a > b then a else b
def aH7 (a b:Int):Int:=if a<b then a else b
def fT (a:Int):Int:=if a<0 then -a else a
def aG8 (a b:Int):Int:=if b≥a then 256 else 0
def vR (a:Int):Int:=bI a 256*256
def vS (a b c:Int):Int:=a+bI ((b - a)*c) 256
theorem oN (ha:I64 a) (hb:I64 b) (h:(if a > b then a else b)=c) (w:World):Z_ 261 #[a,b] w (.int .i64 c):=by
 subst h;go_enter func261,ntmps261
 by_cases h:a > b
 ·rw [if_pos h]
  go_wp2;go_ret;exact ⟨rfl,rfl⟩
 ·rw [if_neg h]
  go_wp2;go_ret;exact ⟨rfl,rfl⟩
theorem aH8 (ha:I64 a) (hb:I64 b) (h:(if a<b then a else b)=c) (w:World):Z_ 279 #[a,b] w (.int .i64 c):=by
 subst h;go_enter func279,ntmps279
 by_cases h:a<b
 ·rw [if_pos h]
  go_wp2;go_ret;exact ⟨rfl,rfl⟩
 ·rw [if_neg h]
  go_wp2;go_ret;exact ⟨rfl,rfl⟩
theorem aE6 (ha:I64 a) (hb:I64 b) (h:(if b≥a then 256 else 0)=c) (w:World):Z_ 297 #[a,b] w (.int .i64 c):=by
 subst h;go_enter func297,ntmps297
 by_cases h:b≥a
 ·rw [if_pos h]
  go_wp2;go_ret;exact ⟨rfl,rfl⟩
 ·rw [if_neg h]
  go_wp2;go_ret;exact ⟨rfl,rfl⟩
theorem aH9 (ha:S9 a) (h:fT a=c) (w:World):Z_ 152 #[a] w (.int .i64 c):=by
 subst h;obtain ⟨h1,h2⟩:=ha;unfold fT;go_enter func152,ntmps152
 by_cases h:a<0
 ·rw [if_pos h]
  go_wp2;go_ret;exact ⟨rfl,rfl⟩
 ·rw [if_neg h]
  go_wp2;go_ret;exact ⟨rfl,rfl⟩
theorem aC4 (ha:S9 a) (h:fT a=c) (w:World):Z_ 214 #[a] w (.int .i64 c):=by
 subst h;obtain ⟨h1,h2⟩:=ha;unfold fT;go_enter func214,ntmps214
 by_cases h:a<0
 ·rw [if_pos h]
  go_wp2;go_ret;exact ⟨rfl,rfl⟩
 ·rw [if_neg h]
  go_wp2;go_ret;exact ⟨rfl,rfl⟩
def Tex.n (t:Tex):Nat:=2 ^ t.log.toNat
def Tex.okB (t:Tex):Bool:=inB t.log 0 4&&decide (t.px.length=t.n*t.n)&&t.px.all (fun x=>inB x 0 256)
structure Tex.Ok (t:Tex):Prop where
 log0:0<=t.log
 log4:t.log<=4
 len:t.px.length=t.n*t.n
 all:∀x∈t.px,0<=x/\x<=256
theorem Tex.okB_iff {t:Tex}:t.okB=true↔t.Ok:=by
 simp only [Tex.okB,aRd,aG,decide_eq_true_eq,aR5];exact ⟨fun ⟨⟨⟨h1,h2⟩,h3⟩,h4⟩=>⟨h1,h2,h3,h4⟩,fun ⟨h1,h2,h3,h4⟩=>⟨⟨⟨h1,h2⟩,h3⟩,h4⟩⟩
theorem Tex.Ok.n_pos {t:Tex} (_h:t.Ok):1<=t.n:=aZ7
theorem Tex.Ok.n_le {t:Tex} (h:t.Ok):t.n<=16:=by
 have h1:=h.log0;have h2:=h.log4;exact aXt (n:=2) (by omega) (show t.log.toNat<=4 by omega)
theorem aN1 {t:Tex} (h0:0<=t.log) (h4:t.log<=4):wrap64 (2 ^ t.log.toNat)=(t.n:Int):=by
 have:t.log=0\/t.log=1\/t.log=2\/t.log=3\/t.log=4:=by omega
 rcases this with h|h|h|h|h <;> simp [Tex.n,h] <;> exact aD (by decide) (by decide)
theorem vT (u:Value) (t:Tex) (w:World) (h0:0<=t.log) (h4:t.log<=4) :
  R_ 302 #[.agg #[t.log,u]] w (.int .i64 t.n):=by
 go_enter func302,ntmps302;go_wp2;go_ret;exact ⟨cS (aN1 h0 h4),(Ext.refl _).alloc _⟩
theorem kR (l0 h0:Nat) (u:Value) (xs:List Int) (lo hi:Int) (w:World) (hu:aU l0 h0 w u xs) :
  Z_ 143 #[u,lo,hi] w (.bool (xs.all fun x=>inB x lo hi)):=by
 obtain ⟨a,cap,rfl,HU⟩:=hu.open;have h1:=HU.le;have h2:=HU.cap;clear hu;go_enter func143,ntmps143;go_wp2
 go_loop [11] (fun i=>∃k:Nat,k<=xs.length/\i = .int .i64 k/\(xs.take k).all (fun x=>inB x lo hi)=true) (fun i=>xs.length - (intOf i).toNat)
 case atStart=>exact ⟨0,by omega,rfl,rfl⟩
 case round=>
  obtain ⟨k,hk,rfl,h3⟩:=hrel;have HA:=aVw h3;clear h3
  by_cases h4:k<xs.length
  ·obtain ⟨b,h8,rfl,h6,h7,hc⟩:=HU.at h4
   cases h5:inB xs[k] lo hi
   ·have HI:=aVw h5
    go_wp2_with (go_at_call 92;refine (hG xs[k] lo hi _).mono ?_;rintro e w' ⟨rfl,rfl⟩);go_ret;exact ⟨aL (vK h4 HI.out).symm,rfl⟩
   ·have HI:=aVw h5
    go_wp2_with (go_at_call 92;refine (hG xs[k] lo hi _).mono ?_;rintro e w' ⟨rfl,rfl⟩)
    go_round
    case rel=>exact ⟨k+1,by omega,by go_num,iZ h4 HA.out HI.out⟩
    case measure=>simp [intOf];omega
  ·go_wp2
   go_ret
   obtain rfl:k=xs.length:=by omega
   exact ⟨aL (by rw [aR2] at HA;exact HA.symm),rfl⟩
theorem aLu {t:Tex} (h0:0<=t.log) (h4:t.log<=4):wrap64 (2 ^ (2*t.log).toNat)=((t.n*t.n:Nat):Int):=by
 have:t.log=0\/t.log=1\/t.log=2\/t.log=3\/t.log=4:=by omega
 rcases this with h|h|h|h|h <;> simp [Tex.n,h] <;> exact aD (by decide) (by decide)
theorem pG (lo hi:Nat) (v:Value) (t:Tex) (w:World) (hv:cN lo hi w v t) (hh:hi<=w.heap.size) :
  R_ 91 #[v] w (.bool t.okB):=by
 obtain ⟨u,rfl,h5,hu⟩:=hv;have h4:=hid (hu.ext hh ((Ext.refl _).alloc (.cells #[t.log,u] 36)));obtain ⟨a,cap,rfl,HU⟩:=hu.open;clear hu
 by_cases h1:0<=t.log/\t.log<=4
 ·have HB:=hid (aG.2 h1:inB t.log 0 4=true)
  have h0:=hid (aLu h1.1 h1.2);have h6:=h1.1;have h7:=h1.2;clear h1
  by_cases h2:t.px.length=t.n*t.n
  ·have h3:((t.px.length:Int)==wrap64 (2 ^ (2*t.log).toNat))=true:=by rw [h0.out];simp [h2]
   have H2:=hid h2;clear h2;go_enter func91,ntmps91;go_wp2
   go_quiet ((first|(go_at_call 92;exact dX (aH HB _))|(go_at_call 143;exact dX (kR lo hi _ _ _ _ _ (h4.out.ext (by simp;omega) ((Ext.refl _).drewN _))))))
   go_wp2;go_ret;exact ⟨aL (by rw [Tex.okB,HB,H2];simp),((Ext.refl _).alloc _).drewN _⟩
  ·have h3:((t.px.length:Int)==wrap64 (2 ^ (2*t.log).toNat))=false:=by rw [h0.out,beq_eq_false_iff_ne];omega
   have H2:=hid h2;clear h2;go_enter func91,ntmps91;go_wp2
   go_quiet ((first|(go_at_call 92;exact dX (aH HB _))|(go_at_call 143;exact dX (kR lo hi _ _ _ _ _ (h4.out.ext (by simp;omega) ((Ext.refl _).drewN _))))))
   go_wp2;go_ret;exact ⟨aL (by rw [Tex.okB,HB,decide_eq_false H2];rfl),((Ext.refl _).alloc _).drewN _⟩
 ·have HB:=hid (by rw [aT3];intro h;exact h1 (aG.1 h):inB t.log 0 4=false)
  clear h1;go_enter func91,ntmps91;go_wp2
  go_quiet ((go_at_call 92;exact dX (aH HB _)))
  go_wp2;go_ret;exact ⟨aL (by rw [Tex.okB,HB];rfl),((Ext.refl _).alloc _).drewN _⟩
theorem aG9 {y n:Nat} (hy:y<n) (hn:n<=16):∃p:Nat,p=y*n/\wrap64 ((y:Int)*(n:Int))=(p:Int)/\wrap64 (((y:Int)+1)*(n:Int))=(p:Int)+n/\p+n<=n*n:=by
 have h1:=aSq n (show y+1<=n by omega);rw [aTf,aTh] at h1;have h2:n*n<=16*16:=aRy hn hn;refine ⟨y*n,rfl,?_,?_,h1⟩
 ·rw [<-aUb];exact aD (by omega) (by omega)
 ·rw [aZo,aZp,<-aUb];exact aD (by omega) (by omega)
theorem aLv (b off cap:Nat) (t:Tex) (y:Nat) (w:World) (ht:t.Ok) (hy:y<t.n) (hc:t.px.length<=cap) :
  R_ 303 #[.agg #[t.log,.slice (some ⟨b,off,none⟩) t.px.length cap],y] w (.slice (some ⟨b,off+y*t.n,none⟩) t.n t.n):=by
 have h0:=ht.log0;have h4:=ht.log4;have hn:=ht.n_le;obtain ⟨p,hp,e1,e2,hb⟩:=aG9 hy hn;rw [<-hp];have h2:=ht.n_pos
 have e3:((p:Int)+t.n).toNat=p+t.n:=by omega
 have h1:p+t.n<=cap:=by rw [<-ht.len] at hb;omega
 clear hp hb hc;go_enter func303,ntmps303;go_wp2_with fail;refine r_ (vT _ t _ h0 h4) fun w1 hx=>?_;obtain ⟨hc,hf⟩:=hx.cells;have hz:=hx.size;simp only [aQy] at hz;go_wp2;go_ret;exact ⟨rfl,((Ext.refl _).alloc _).trans hx⟩
theorem cN.ok {lo hi:Nat} {t:Tex} (h:cN lo hi w v t) (ht:t.Ok) :
  ∃b off cap,v = .agg #[t.log,.slice (some ⟨b,off,none⟩) t.px.length cap]/\t.px.length<=cap/\lo<=b/\b<hi/\∀i x,t.px[i]?=some x->w.cell? ⟨b,off+i,none⟩=some (.int .i64 x):=by
 obtain ⟨u,rfl,h1,h2⟩:=h;obtain ⟨a,cap,rfl,h3⟩:=h2.open;have hn:=ht.n_pos
 have hl:0<t.px.length:=by rw [ht.len];exact Nat.mul_pos hn hn
 obtain ⟨b,off,rfl,h4,h5,_⟩:=h3.at hl;refine ⟨b,off,cap,rfl,h3.le,h4,h5,fun i x hx=>?_⟩;obtain ⟨_,b',h0,h6,_,_,h7⟩:=h3.cell i x hx;simp only [aQ0,aR1,and_true] at h6;obtain ⟨rfl,rfl⟩:=h6;exact h7
theorem sR {y x n:Nat} (hy:y<n) (hx:x<n):y*n+x<n*n:=by
 have h1:=aSq n (show y+1<=n by omega);rw [aTf,aTh] at h1;omega
def Tex.at (t:Tex) (x y:Int):Int:=t.px.getD ((kL y t.n).toNat*t.n+(kL x t.n).toNat) 0
theorem aIa (lo hi:Nat) (v:Value) (t:Tex) (x y:Int) (w:World) (hv:cN lo hi w v t) (hh:hi<=w.heap.size) (ht:t.Ok) (hx:I64 x) (hy:I64 y) :
  R_ 301 #[v,x,y] w (.int .i64 (t.at x y)):=by
 obtain ⟨b,q2,cap,rfl,h2,q8,q7,h1⟩:=hv.ok ht;have h0:=ht.log0;have h4:=ht.log4;have h3:=ht.n_pos;have hn:=ht.n_le;obtain ⟨xx,h5,q4⟩:=jA x h3;obtain ⟨yy,h6,q1⟩:=jA y h3
 have q5:b<w.heap.size:=by omega
 have q6:b<w.heap.size+1:=by omega
 have h9:t.at x y=t.px.getD (yy*t.n+xx) 0:=by rw [Tex.at,h5,h6];rfl
 have q0:yy*t.n+xx<t.px.length:=by rw [ht.len];exact sR q1 q4
 have hc:w.cell? ⟨b,q2+yy*t.n+xx,none⟩=some (.int .i64 (t.px.getD (yy*t.n+xx) 0)):=by
  rw [aSp];exact h1 _ _ (by simp [q0])
 rw [h9];generalize t.px.getD (yy*t.n+xx) 0=r at hc ⊢;have HX:=hid h5;have HY:=hid h6;have HT:=hid ht;have HC:=hid h2
 have h8:I64 (t.n:Int):=⟨by omega,by omega⟩
 have h7:=hid h8;have H1:=hid hx;have H2:=hid hy;clear h5 h6 h1 hv h9 q0 h8 hx hy ht h2;go_enter func301,ntmps301;go_wp2;refine cK (by kernel_rfl) (by kernel_rfl) ?_
 repeat (go_big_quiet_step ((first
  | (go_at_call 302;exact cE (vT _ t _ h0 h4))
  | (go_at_call_of 226 x;exact sQ (mG H1 h7 HX _))
  | (go_at_call_of 226 y;exact sQ (mG H2 h7 HY _))
  | (go_at_call 303;exact cE (aLv b q2 cap t yy _ HT q1 HC)))))
 refine wpQuiet_nil ?_;intro w1 q3;go_wp2;go_ret;exact ⟨rfl,((Ext.refl _).alloc _).trans q3⟩
def Dbl (p m L:Nat):Prop:=p*2 ^ m=2 ^ L
theorem Dbl.succ {p:Nat} (h:Dbl p (m+1) L):Dbl (2*p) m L:=by
 unfold Dbl at *;rw [Nat.pow_succ] at h;rw [<-h,aUu 2 p,Nat.mul_assoc,aUu 2]
theorem Dbl.le {p:Nat} (h:Dbl p m L) (hL:L<=30):p<=1073741824:=by
 unfold Dbl at h;have h1:2 ^ L<=2 ^ 30:=aXt (by omega) hL;have h2:p*1<=p*2 ^ m:=Nat.mul_le_mul_left p aZ7;omega
theorem Dbl.done {p:Nat} (h:Dbl p 0 L):p=2 ^ L:=by unfold Dbl at h;simpa using h
theorem aC5 (L:Nat) (hL:L<=30) (w:World):Z_ 139 #[L] w (.int .i64 ((2 ^ L:Nat):Int)):=by
 go_enter func139,ntmps139;go_wp2
 go_loop [0,3] (fun l n=>∃m p:Nat,l = .int .i64 m/\n = .int .i64 p/\Dbl p m L/\m<=30) (fun l _=>(intOf l).toNat)
 case atStart=>exact ⟨L,1,rfl,rfl,by simp [Dbl],hL⟩
 case round=>
  obtain ⟨m,p,rfl,rfl,hd,hm⟩:=hrel;have HD:=aVw hd;have hp:=hd.le hL;clear hd
  cases m with
  | zero=>
   go_wp2;go_ret;exact ⟨cS (by rw [HD.done,Int.natCast_pow];rfl),rfl⟩
  | succ m=>
   go_wp2
   go_round
   case rel=>exact ⟨m,2*p,rfl,by go_num,HD.succ,by omega⟩
   case measure=>simp [intOf]
theorem aHa (x:Int) {n:Nat} (h1:1<=n) (h2:n<=1000000):(wrap64 (x.tmod n+n)).tmod n=kL x n:=by
 have h3:=aYb x (show (0:Int)<n by omega);have h4:=aZ5 x (show (0:Int)<n by omega);rw [aD (by omega) (by omega),aTj (by omega),kL,if_neg (by omega),Int.add_emod_right,Int.tmod_def,Int.sub_mul_emod_self_left]
theorem iK {t:Tex} (h0:0<=t.log) (h4:t.log<=4) (w:World):Z_ 139 #[t.log] w (.int .i64 t.n):=by
 have h:=aC5 t.log.toNat (by omega) w;rw [aXy h0] at h;exact h
theorem pH (lo hi:Nat) (v:Value) (t:Tex) (w:World) (hv:cN lo hi w v t) (hh:hi<=w.heap.size) :
  R_ 88 #[v] w (.bool t.okB):=by
 obtain ⟨u,rfl,q2,hu⟩:=hv;obtain ⟨a,cap,rfl,HU⟩:=(hu.ext hh ((Ext.refl _).alloc (.cells #[t.log,u] 36))).open;have q1:=HU.le;have q0:=HU.cap;clear hu
 by_cases h1:0<=t.log/\t.log<=4
 ·have HB:=hid (aG.2 h1:inB t.log 0 4=true)
  have h6:=h1.1;have h7:=h1.2;clear h1;have h9:t.n<=16:=aXt (n:=2) (by omega) (show t.log.toNat<=4 by omega)
  have h4:wrap64 ((t.n:Int)*(t.n:Int))=((t.n*t.n:Nat):Int):=by
   rw [<-aUb];have:=aRy h9 h9;exact aD (by omega) (by omega)
  by_cases h2:t.px.length=t.n*t.n
  ·have h3:((t.px.length:Int) != wrap64 ((t.n:Int)*(t.n:Int)))=false:=by rw [h4];simp [h2]
   have H2:=hid h2;clear h2 h4;go_enter func88,ntmps88;go_wp2
   go_quiet ((first|(go_at_call 46;exact dX (aE HB _))|(go_at_call 139;exact dX (iK h6 h7 _))))
   go_wp2
   go_loop [25] (fun i=>∃k:Nat,k<=t.px.length/\i = .int .i64 k/\(t.px.take k).all (fun x=>inB x 0 256)=true) (fun i=>t.px.length - (intOf i).toNat)
   case atStart=>exact ⟨0,by omega,rfl,rfl⟩
   case round=>
    obtain ⟨k,hk,rfl,h0⟩:=hrel;have HA:=aVw h0;clear h0
    by_cases h5:k<t.px.length
    ·obtain ⟨b,q5,rfl,q3,q4,hc⟩:=HU.at h5
     cases h8:inB t.px[k] 0 256
     ·have HI:=aVw h8
      go_wp2_with (go_at_call 46;refine (aE HI _).mono ?_;rintro e w' ⟨rfl,rfl⟩);go_ret;exact ⟨aL (by rw [Tex.okB,vK h5 HI.out,aWs]),((Ext.refl _).alloc _).drewN _⟩
     ·have HI:=aVw h8
      go_wp2_with (go_at_call 46;refine (aE HI _).mono ?_;rintro e w' ⟨rfl,rfl⟩)
      go_round
      case rel=>exact ⟨k+1,by omega,by go_num,iZ h5 HA.out HI.out⟩
      case measure=>simp [intOf];omega
    ·go_wp2
     go_ret
     obtain rfl:k=t.px.length:=by omega
     exact ⟨aL (by rw [aR2] at HA;rw [Tex.okB,HB,H2,HA];simp),((Ext.refl _).alloc _).drewN _⟩
  ·have h3:((t.px.length:Int) != wrap64 ((t.n:Int)*(t.n:Int)))=true:=by rw [h4,bne_iff_ne];omega
   have H2:=hid h2;clear h2 h4;go_enter func88,ntmps88;go_wp2
   go_quiet ((first|(go_at_call 46;exact dX (aE HB _))|(go_at_call 139;exact dX (iK h6 h7 _))))
   go_wp2;go_ret;exact ⟨aL (by rw [Tex.okB,HB,decide_eq_false H2];rfl),((Ext.refl _).alloc _).drewN _⟩
 ·have HB:=hid (by rw [aT3];intro h;exact h1 (aG.1 h):inB t.log 0 4=false)
  clear h1;go_enter func88,ntmps88;go_wp2
  go_quiet ((first|(go_at_call 46;exact dX (aE HB _))))
  go_wp2;go_ret;exact ⟨aL (by rw [Tex.okB,HB];rfl),((Ext.refl _).alloc _).drewN _⟩
theorem aBe (lo hi:Nat) (v:Value) (t:Tex) (x y:Int) (w:World) (hv:cN lo hi w v t) (hh:hi<=w.heap.size) (ht:t.Ok) :
  R_ 295 #[v,x,y] w (.int .i64 (t.at x y)):=by
 obtain ⟨b,q1,cap,rfl,h8,q6,q4,h2⟩:=hv.ok ht;have h0:=ht.log0;have h4:=ht.log4;have h1:=ht.n_pos;have hn:=ht.n_le
 have q2:b<w.heap.size:=by omega
 have q3:b<w.heap.size+1:=by omega
 obtain ⟨xx,h3,q0⟩:=jA x h1;obtain ⟨yy,h5,h7⟩:=jA y h1;have ex:=aNz ((aHa x h1 (by omega)).trans h3);have ey:=aNz ((aHa y h1 (by omega)).trans h5);obtain ⟨p,hp,e0,e2,hb⟩:=aG9 h7 hn;have e1:=aNz e0;clear e0 e2
 have h6:t.at x y=t.px.getD (p+xx) 0:=by rw [Tex.at,h3,h5,hp];rfl
 have h9:p+xx<t.px.length:=by rw [ht.len,hp];exact sR h7 q0
 have q5:t.px.length<=256:=by rw [ht.len];exact aRy hn hn
 have hc:w.cell? ⟨b,q1+(p+xx),none⟩=some (.int .i64 (t.px.getD (p+xx) 0)):=h2 _ _ (by simp [h9]);rw [h6];generalize t.px.getD (p+xx) 0=r at hc ⊢;clear h3 h5 h2 hv h6 ht hp hb;go_enter func295,ntmps295;go_wp2_with (go_at_call 139;refine (iK h0 h4 _).mono ?_;rintro e w' ⟨rfl,rfl⟩);go_ret;exact ⟨rfl,(Ext.refl _).alloc _⟩
def Tex.avg (t:Tex) (x y:Nat):Int:=(t.at (2*x) (2*y)+t.at (2*x+1) (2*y)+t.at (2*x) (2*y+1)+t.at (2*x+1) (2*y+1)) / 4
def Tex.avgK (t:Tex) (m k:Nat):Int:=t.avg (k % m) (k / m)
def Tex.halfPx (t:Tex) (m k:Nat):List Int:=(aRl k).map (t.avgK m)
def Tex.half (t:Tex):Tex:={ log:=t.log - 1,px:=t.halfPx (2 ^ (t.log - 1).toNat) (2 ^ (t.log - 1).toNat*2 ^ (t.log - 1).toNat) }
theorem Tex.halfPx_succ (t:Tex) (m k:Nat):t.halfPx m (k+1)=t.halfPx m k++[t.avgK m k]:=by simp [Tex.halfPx,List.range_succ]
theorem Tex.halfPx_length (t:Tex) (m k:Nat):(t.halfPx m k).length=k:=by simp [Tex.halfPx]
theorem Tex.Ok.half_n {t:Tex} (h:t.Ok) (h1:1<=t.log):t.n=2*2 ^ (t.log - 1).toNat:=by
 have h4:=h.log4
 have:t.log=1\/t.log=2\/t.log=3\/t.log=4:=by omega
 rcases this with h|h|h|h <;> simp [Tex.n,h]
theorem Tex.Ok.at_range {t:Tex} (h:t.Ok) (x y:Int):0<=t.at x y/\t.at x y<=256:=by
 have hp:=h.n_pos;unfold Tex.at;obtain ⟨xx,h2,h1⟩:=jA x hp;obtain ⟨yy,h4,h3⟩:=jA y hp;rw [h2,h4]
 have h0:yy*t.n+xx<t.px.length:=by rw [h.len];exact sR h3 h1
 have:=h.all (t.px[yy*t.n+xx]'h0) (aRh h0);simp only [aRr];rw [List.getD_eq_getElem?_getD,aQ9 h0];exact this
theorem Tex.Ok.avg_range {t:Tex} (h:t.Ok) (x y:Nat):0<=t.avg x y/\t.avg x y<=256:=by
 have h1:=h.at_range (2*x) (2*y);have h2:=h.at_range (2*x+1) (2*y);have h3:=h.at_range (2*x) (2*y+1);have h4:=h.at_range (2*x+1) (2*y+1);unfold Tex.avg;omega
theorem Tex.Ok.half {t:Tex} (h:t.Ok) (h1:1<=t.log):t.half.Ok:=by
 have h4:=h.log4;refine ⟨by show 0<=t.log - 1;omega,by show t.log - 1<=4;omega,by rw [Tex.half,Tex.halfPx_length];rfl,fun x hx=>?_⟩;simp only [Tex.half,Tex.halfPx,aS3] at hx;obtain ⟨k,_,rfl⟩:=hx;exact h.avg_range _ _
theorem aJv {n:Nat} (h0:0<=l) (h4:l<=4) (hn:2 ^ l.toNat=n) (w:World) :
  R_ 302 #[.agg #[l,u]] w (.int .i64 n):=by
 subst hn;exact vT u ⟨l,[]⟩ w h0 h4
theorem Tex.avgK_at (t:Tex) (hi:i<m):t.avgK m (j*m+i)=t.avg i j:=by
 have h1:(j*m+i) % m=i:=by rw [aUu,Nat.mul_add_mod,Nat.mod_eq_of_lt hi]
 have h2:(j*m+i) / m=j:=by rw [aUu,Nat.mul_add_div (by omega),Nat.div_eq_of_lt hi];rfl
 rw [Tex.avgK,h1,h2]
theorem cJ {t:Tex} {b:Bool} (h:t.okB=b) (lo hi:Nat) (v:Value) (w:World) (hv:cN lo hi w v t) (hh:hi<=w.heap.size) :
  R_ 91 #[v] w (.bool b):=h▸pG lo hi v t w hv hh
theorem eZ.zero (lo:Nat) (w:World):eZ lo w (.agg #[(),.slice none 0 0]) ⟨0,[]⟩:=⟨_,rfl,⟨by decide,by decide⟩,aB.nil _ _⟩
theorem eZ.setLow {lo:Nat} {t:Tex} (h:eZ lo w v t) (hp:p.block<lo) (u:Value):eZ lo (w.setCell p u) v t:=by
 obtain ⟨x,h1,h2,h3⟩:=h;exact ⟨x,h1,h2,h3.setLow hp u⟩
theorem eZ.form {lo:Nat} {t:Tex} (h:eZ lo w v t):∃a c,v = .agg #[t.log,.slice a t.px.length c]/\I64 t.log:=by
 obtain ⟨x,h1,h2,h3⟩:=h;obtain ⟨a,c,rfl,_⟩:=h3.form;exact ⟨a,c,h1,h2⟩
theorem cN.shape {lo hi:Nat} {t:Tex} (h:cN lo hi w v t):∃u,v = .agg #[t.log,u]/\I64 t.log:=by
 obtain ⟨u,h1,h2,_⟩:=h;exact ⟨u,h1,h2⟩
structure SSt (w wr:World) (t:Tex) (u:Value) (g m k:Nat) (a:Option Addr) (c:Nat):Prop where
 ext:Ext w wr
 pos:w.heap.size+1<g
 size:g<wr.heap.size
 p0:wr.cell? ⟨w.heap.size,0,none⟩=some (.int .i64 t.log)
 p1:wr.cell? ⟨w.heap.size,1,none⟩=some u
 r0:wr.cell? ⟨w.heap.size+1,0,none⟩=some (.int .i64 0)
 r1:wr.cell? ⟨w.heap.size+1,1,none⟩=some (.slice none 0 0)
 f0:wr.frozen? ⟨w.heap.size+1,0,none⟩=false
 f1:wr.frozen? ⟨w.heap.size+1,1,none⟩=false
 o0:wr.cell? ⟨g,0,none⟩=some (.int .i64 (t.log - 1))
 o1:wr.cell? ⟨g,1,none⟩=some (.slice a k c)
 g1:wr.frozen? ⟨g,1,none⟩=false
 own:aB (g+1) wr (.slice a k c) (t.halfPx m k)
theorem SSt.to {wr':World} {t:Tex} {a:Option Addr} {c:Nat} (h:SSt w wr t u g m k a c) (e:Ext wr wr'):SSt w wr' t u g m k a c:=by
 obtain ⟨hc,hf⟩:=e.cells;have hs:=h.size;have hp:=h.pos;have hz:=e.size
 exact ⟨h.ext.trans e,hp,by omega,by rw [hc _ _ (by omega)];exact h.p0,by rw [hc _ _ (by omega)];exact h.p1,by rw [hc _ _ (by omega)];exact h.r0,by rw [hc _ _ (by omega)];exact h.r1,
  by rw [hf _ _ (by omega)];exact h.f0,by rw [hf _ _ (by omega)];exact h.f1,by rw [hc _ _ (by omega)];exact h.o0,by rw [hc _ _ (by omega)];exact h.o1,by rw [hf _ _ (by omega)];exact h.g1,h.own.ext e⟩
theorem SSt.push {t:Tex} {a a':Option Addr} {c c' n':Nat} (h:SSt w wr t u g m k a c) (hg:wr.grownBy w1 (aR9 a k c).ownBlock)
  (hown:aB (g+1) w1 (.slice a' n' c') (t.halfPx m k++[t.avgK m k])) :
  SSt w (w1.setCell ⟨g,1,none⟩ (.slice a' n' c')) t u g m (k+1) a' c'/\n'=k+1:=by
 rw [<-Tex.halfPx_succ] at hown;obtain ⟨a2,h2,hv,_⟩:=hown.form;rw [Tex.halfPx_length] at hv;simp only [aRo] at hv;obtain ⟨_,rfl,_⟩:=hv;have hs:=h.size;have hp:=h.pos;have hz:=hg.size;have h0:=h.own.lt
 have h1:∀b,b<g+1->some b≠(aR9 a k c).ownBlock:=fun b hb e=>by have:=(h0 b e.symm).1;omega
 have hc:∀b o,b<g+1->w1.cell? ⟨b,o,none⟩=wr.cell? ⟨b,o,none⟩:=fun b o hb=>aSe (w:=wr) (hg.block b (by omega) (h1 b hb));have hf:∀b o,b<g+1->w1.frozen? ⟨b,o,none⟩=wr.frozen? ⟨b,o,none⟩:=fun b o hb=>aSt (w:=wr) (hg.block b (by omega) (h1 b hb))
 have hd:∀b o,b<g->(w1.setCell ⟨g,1,none⟩ (.slice a' (k+1) c')).cell? ⟨b,o,none⟩=wr.cell? ⟨b,o,none⟩:=fun b o hb=>by
  rw [aSl _ _ _ _ (fun e=>by simp only [aR1] at e;omega),hc b o (by omega)]
 refine ⟨⟨(h.ext.grown hg (fun b e=>by have:=(h0 b e).1;omega)).setCell (by show w.heap.size<=g;omega) _,hp,by rw [World.size_setCell];omega,by rw [hd _ _ (by omega)];exact h.p0,by rw [hd _ _ (by omega)];exact h.p1,
  by rw [hd _ _ (by omega)];exact h.r0,by rw [hd _ _ (by omega)];exact h.r1,by rw [aSs,hf _ _ (by omega)];exact h.f0,by rw [aSs,hf _ _ (by omega)];exact h.f1,?_,?_,
  by rw [aSs,hf _ _ (by omega)];exact h.g1,hown.setLow (by simp) _⟩,rfl⟩
 ·rw [aSl _ _ _ _ (by simp),hc _ _ (by omega)];exact h.o0
 ·exact aUh _ _ _ ((hc _ _ (by omega)).trans h.o1)
theorem aK {t:Tex} {b:Bool} (h:t.okB=b) (lo hi:Nat) (v:Value) (w:World) (hv:cN lo hi w v t) (hh:hi<=w.heap.size) :
  R_ 88 #[v] w (.bool b):=h▸pH lo hi v t w hv hh
theorem aBf (h0:1<=l) (h4:l<=4) (hm:2 ^ (l - 1).toNat=m) (w:World) :
  Z_ 139 #[.int .i64 (l - 1)] w (.int .i64 m):=by
 subst hm;exact iK (t:=⟨l - 1,[]⟩) (by show 0<=l - 1;omega) (by show l - 1<=4;omega) w
theorem dU {t:Tex} (ht:t.Ok) (hr:t.at x y=r) (lo hi:Nat) (v:Value) (w:World) (hv:cN lo hi w v t) (hh:hi<=w.heap.size) :
  R_ 295 #[v,x,y] w (.int .i64 r):=hr▸aBe lo hi v t x y w hv hh ht
theorem aJw (hj:j<m) (hi:i<m) (hm:m<=8):j*m+i<1000000000:=by
 have h1:=aRy (aT5 hj) hm;have h2:=aRy hm (aQv 8);have h3:=aRy (aT5 hj) (aQv m);have h4:=aRy hm hm;omega
theorem aC6 (lo hi:Nat) (v:Value) (t:Tex) (w:World) (hv:cN lo hi w v t) (hh:hi<=w.heap.size) (ht:t.Ok) (hl1:1<=t.log) :
  Calls aQ2 299 #[v] w fun e w'=>∃v',e = .returned (.tuple #[v',.bool true])/\eZ w.heap.size w' v' t.half/\Ext w w':=by
 obtain ⟨u,rfl,x7⟩:=hv.shape;have h4:=ht.log4
 obtain ⟨m,hm⟩:∃m,2 ^ (t.log - 1).toNat=m:=⟨_,rfl⟩
 have hn:t.n=2*m:=by rw [ht.half_n hl1,hm]
 have x8:m<=8:=by have:=ht.n_le;omega
 have HM:=hid hm;have HN:=hid hn;have H1:=hid (Tex.okB_iff.2 ht);have HV:=hid hv;have HT:=hid ht
 have z2:(t.log==0)=false:=by rw [beq_eq_false_iff_ne];omega
 clear hv ht hm hn;go_enter func299,ntmps299
 go_wp2_with (first
  | (go_at_call 88;refine r_ (aK H1.out lo hi _ _ (HV.out.ext hh X_) (by simp;omega)) fun w1 hx=>?_;obtain ⟨c1,f1⟩:=hx.cells;have z1:=hx.size;simp only [aQy] at z1;have q0:w.heap.size<w1.heap.size:=(by omega);have q1:w.heap.size+1<w1.heap.size:=(by omega))
  | (go_at_call 139;refine z_ (aBf hl1 h4 HM.out _) ?_))
 have q7:Ext w w1:=Ext.trans X_ hx
 go_loopw [6] (fun y wr=>∃(j:Nat) (a:Option Addr) (c:Nat),j<=m/\y = .int .i64 j/\SSt w wr t u w1.heap.size m (j*m) a c) (fun y _=>m - (intOf y).toNat)
 case atStart=>
  refine ⟨0,none,0,by omega,rfl,?_⟩;rw [Nat.zero_mul];exact ⟨q7.alloc _,q1,by simp,by simp [go_sem, *],by simp [go_sem, *],by simp [go_sem, *],by simp [go_sem, *],by simp [go_sem, *],by simp [go_sem, *],by simp [go_sem],by simp [go_sem],by simp [go_sem],aB.nil _ _⟩
 case round=>
  clear c1 f1 hx q7;obtain ⟨j,a,c,hj,rfl,h0⟩:=hrel;have HS:=hid h0;clear h0
  by_cases x6:j<m
  ·go_wp2
   go_loopw [7] (fun x wr=>∃(i:Nat) (a:Option Addr) (c:Nat),i<=m/\x = .int .i64 i/\SSt w wr t u w1.heap.size m (j*m+i) a c) (fun x _=>m - (intOf x).toNat)
   case atStart=>exact ⟨0,a,c,by omega,rfl,HS.out⟩
   case round=>
    clear HS;obtain ⟨i,a,c,hi',rfl,h0⟩:=hrel;have HS:=hid h0;have h6:=h0.size;have o0:=h0.o0;have o1:=h0.o1;have p0:=h0.p0;have p1:=h0.p1
    have q4:w.heap.size<wr.heap.size:=by omega
    clear h0
    by_cases q6:i<m
    ·have h5:=t.avgK_at (i:=i) (j:=j) q6
     rw [Tex.avg] at h5;have d1:=HT.out.at_range (2*i) (2*j);have d2:=HT.out.at_range (2*i+1) (2*j);have d3:=HT.out.at_range (2*i) (2*j+1);have d4:=HT.out.at_range (2*i+1) (2*j+1)
     obtain ⟨r1,e1⟩:∃r,t.at (2*i) (2*j)=r:=⟨_,rfl⟩
     obtain ⟨r2,e2⟩:∃r,t.at (2*i+1) (2*j)=r:=⟨_,rfl⟩
     obtain ⟨r3,e3⟩:∃r,t.at (2*i) (2*j+1)=r:=⟨_,rfl⟩
     obtain ⟨r4,e4⟩:∃r,t.at (2*i+1) (2*j+1)=r:=⟨_,rfl⟩
     rw [e1] at h5 d1;rw [e2] at h5 d2;rw [e3] at h5 d3;rw [e4] at h5 d4;have E1:=hid e1;have E2:=hid e2;have E3:=hid e3;have E4:=hid e4;have q9:=hid h5;clear h5 e1 e2 e3 e4;have HX:=hid (HS.out.ext)
     have h3:hi<=wr.heap.size:=by omega
     clear o0 o1;go_wp2;refine cK (by kernel_rfl) (by kernel_rfl) ?_
     repeat (go_big_quiet_step ((go_at_call 295;with_reducible first
      | exact cE (dU HT.out E1.out lo hi _ _ ((HV.out.ext hh HX.out).ext h3 (bM _ _)) (aQ5 h3 (bM _ _).size))
      | exact cE (dU HT.out E2.out lo hi _ _ ((HV.out.ext hh HX.out).ext h3 (bM _ _)) (aQ5 h3 (bM _ _).size))
      | exact cE (dU HT.out E3.out lo hi _ _ ((HV.out.ext hh HX.out).ext h3 (bM _ _)) (aQ5 h3 (bM _ _).size))
      | exact cE (dU HT.out E4.out lo hi _ _ ((HV.out.ext hh HX.out).ext h3 (bM _ _)) (aQ5 h3 (bM _ _).size)))))
     refine wpQuiet_nil ?_;intro w2 q8;have h2:=hid (HS.out.to q8);clear HS HX h6 p0 p1 q4 h3 q8;have h6:=h2.out.size;have o1:=h2.out.o1;have g1:=h2.out.g1;have x1:=hid (aJw x6 q6 x8);go_wp2_with (at_builtin;refine aV _ rfl _ _ rfl (w1.heap.size+1) (.slice a (j*m+i) c) (t.halfPx m (j*m+i)) rfl (h2.out.own.alloc _) ((r1+r2+r3+r4) / 4) ⟨(by omega),(by omega)⟩ w2.heap.size rfl (by simp [go_sem]) (by rw [Tex.halfPx_length];exact x1.out) (by simp;omega) ?_;intro v' w3 h1 hg;rw [<-q9.out] at h1;obtain ⟨a',c',x9,_⟩:=h1.form;subst x9;have q5:=hid ((h2.out.to X_).push hg h1);obtain ⟨h0,h8⟩:=q5.out;rw [h8] at h0;have z0:=hid h8;have x0:=hid h0;have h9:aM 0 (w1.heap.size+1) w2 w3:=fun bb _ hbb=>(hg.block bb (by simp;omega) (fun e=>by have:=(h2.out.own.lt bb e.symm).1;omega)).trans (Ext.block (w:=w2) X_ (by omega));have y1:w3.cell? ⟨w1.heap.size,1,none⟩=some (.slice a (j*m+i) c):=(h9.cell (aSi _) (by omega)).trans h2.out.o1;have y2:w3.frozen? ⟨w1.heap.size,1,none⟩=false:=(h9.frozen (aSi _) (by omega)).trans h2.out.g1;clear h0 h8 h9 h1 hg h2 q5 o1 g1 h6);go_roundw
     case rel=>exact ⟨i+1,a',c',by omega,by go_num,by rw [<-aSp,Tex.halfPx_length];exact x0.out⟩
     case measure=>simp [intOf];omega
    ·go_wp2
     obtain rfl:i=m:=by omega
     go_roundw
     case rel=>exact ⟨j+1,a,c,by omega,by go_num,by rw [aTf,aTh];exact HS.out⟩
     case measure=>simp [intOf];omega
  ·have h6:=HS.out.size
   have o0:=HS.out.o0;have o1:=HS.out.o1;have x2:=HS.out.r0;have x3:=HS.out.r1;have x4:=HS.out.f0;have x5:=HS.out.f1
   have q2:w.heap.size<wr.heap.size:=by omega
   have q3:w.heap.size+1<wr.heap.size:=by omega
   obtain rfl:j=m:=by omega
   go_wp2;have h1:=HS.out.own;have h7:=HS.out.ext;refine bodyPost_ret (v:=.tuple #[.agg #[.int .i64 (t.log - 1),.slice a (j*j) c],.bool true]) (by simp [results,results299,go_sem, *]) rfl ⟨_,rfl,⟨_,rfl,⟨by show _<=t.log - 1;omega,by show t.log - 1<=_;omega⟩,?_⟩,?_⟩
   ·have:t.half.px=t.halfPx j (j*j):=by rw [Tex.half,HM.out]
    rw [this];exact ((h1.setLow (by simp;omega) _).setLow (by simp;omega) _).low (by omega)
   ·exact (h7.setCell (by simp) _).setCell (by simp) _
structure jP (lo M:Nat) (w w':World):Prop where
 size:w.heap.size<=w'.heap.size
 low:Below lo w w'
 high:∀b,M<=b->b<w.heap.size->w'.heap[b]?=w.heap[b]?
theorem jP.ext {lo:Nat} {W:World} (p:jP lo M w w') (h:Ext W w) (hl:W.heap.size<=lo):Ext W w':=aVh h (aY0 p.low hl)
theorem jP.block {lo:Nat} (p:jP lo M w w') {b:Nat} (hb:b<w.heap.size) (h:b<lo\/M<=b):w'.heap[b]?=w.heap[b]?:=h.elim (fun k=>p.low.block b k) (fun k=>p.high b k hb)
theorem jP.of {lo:Nat} (hg:w.grownBy w' row) (h1:∀k,row=some k->lo<=k/\k<M) (h2:lo<=w.heap.size):jP lo M w w':=
 ⟨hg.size,⟨hg.os,hg.tape,hg.output,hg.size,fun k hk=>hg.block k (by omega) (fun e=>by have:=(h1 k e.symm).1;omega)⟩,fun b hb hl=>hg.block b hl (fun e=>by have:=(h1 b e.symm).2;omega)⟩
structure hZ (w:World) (B:Nat) (a b:Value):Prop where
 lt:B<w.heap.size
 c0:w.cell? ⟨B,0,none⟩=some a
 c1:w.cell? ⟨B,1,none⟩=some b
theorem hZ.at {a b:Value} (h:hZ w B a b) (hz:w.heap.size<=w'.heap.size) (s:w'.heap[B]?=w.heap[B]?):hZ w' B a b:=
 ⟨aSf h.lt hz,(aSe (w:=w) s).trans h.c0,(aSe (w:=w) s).trans h.c1⟩
theorem hZ.ext {a b:Value} (h:hZ w B a b) (e:Ext w w'):hZ w' B a b:=h.at e.size (e.block h.lt)
theorem hZ.made (w:World) (a b:Value) (ty:TypeId):hZ (w.alloc (.cells #[a,b] ty)) w.heap.size a b:=⟨by simp,by simp [go_sem],by simp [go_sem]⟩
theorem cN.same {lo hi:Nat} {t:Tex} (h:cN lo hi w v t) (s:aM lo hi w w'):cN lo hi w' v t:=by
 obtain ⟨x,h1,h2,h3⟩:=h;exact ⟨x,h1,h2,h3.same s⟩
theorem yT {left:Int} {t:Tex} (h:lH left t.px.length=r) (lo hi:Nat) (v:Value) (w:World) (hv:cN lo hi w v t) (hh:hi<=w.heap.size) (h1:0<=left) (h2:left<=1048576) :
  R_ 32 #[v,left] w (.int .i64 r):=h▸yM lo hi v t left w hv hh h1 h2
theorem vU (lo hi lo' hi':Nat) (v v':Value) (t:Tex) (w:World) (hv:cN lo hi w v t) (hh:hi<=w.heap.size) (hv':cN lo' hi' w v' t) (hh':hi'<=w.heap.size) :
  R_ 42 #[v,v'] w (.bool true):=by
 have h:=yP lo hi lo' hi' v v' t t w hv hh hv' hh';simp only [decide_true] at h;exact h
def Tex.mip (t:Tex):Nat->Tex
 | 0=>t
 | k+1=>(t.mip k).half
theorem Tex.Ok.mip {t:Tex} (h:t.Ok):∀k:Nat,k<=t.log->(t.mip k).Ok/\(t.mip k).log=t.log - k
 | 0,_=>⟨h,by simp [Tex.mip]⟩
 | k+1,hk=>by
  obtain ⟨h1,h2⟩:=h.mip k (by omega);refine ⟨h1.half (by omega),?_⟩
  show (t.mip k).log - 1=_
  omega
theorem aB.keptAt {lo:Nat} (h:aB lo w v xs) (s:∀g,v.ownBlock=some g->w'.heap[g]?=w.heap[g]?):aB lo w' v xs:=by
 obtain ⟨⟨h1,h2⟩,h3⟩:=h;refine ⟨⟨h1,?_⟩,h3⟩
 rcases h2 with hn|⟨g,cap,cur,hv,hb,hg,r⟩
 ·exact .inl hn
 ·exact .inr ⟨g,cap,cur,hv,hb,by rw [s g (by rw [hv];rfl)];exact hg,r⟩
theorem aJx (b o j:Nat):(⟨b,o,none⟩:Addr).add j=⟨b,o+j,none⟩:=by
 unfold Addr.add
 split
 ·rename_i e;subst e;rfl
 ·rfl
structure MSt (w wr:World) (t:Tex) (A:Nat) (a:Option Addr) (c:Nat):Prop where
 ext:Ext w wr
 pos:w.heap.size+1<A
 box:hZ wr A (.int .i64 t.log) (.slice a t.px.length c)
 f0:wr.frozen? ⟨A,0,none⟩=false
 f1:wr.frozen? ⟨A,1,none⟩=false
 res:hZ wr (w.heap.size+1) (.int .i64 0) (.slice none 0 0)
 r0:wr.frozen? ⟨w.heap.size+1,0,none⟩=false
 r1:wr.frozen? ⟨w.heap.size+1,1,none⟩=false
 own:aB (w.heap.size+1+1) wr (.slice a t.px.length c) t.px
 ne:∀g,(aR9 a t.px.length c).ownBlock=some g->g≠A
theorem MSt.step {t t2:Tex} {a a2:Option Addr} {c c2:Nat} (h:MSt w wr t A a c) (e:Ext wr w1) (hown:eZ wr.heap.size w1 (.agg #[t2.log,.slice a2 t2.px.length c2]) t2) :
  MSt w ((w1.setCell ⟨A,0,none⟩ t2.log).setCell ⟨A,1,none⟩ (.slice a2 t2.px.length c2)) t2 A a2 c2:=by
 obtain ⟨u,hu,_,hown⟩:=hown
 obtain rfl:aR9 a2 t2.px.length c2=u:=by simpa using hu
 have hA:=h.box.lt;have hz:=e.size;have hp:=h.pos
 have hk:∀b o,b≠A->((w1.setCell ⟨A,0,none⟩ t2.log).setCell ⟨A,1,none⟩ (.slice a2 t2.px.length c2)).cell? ⟨b,o,none⟩=w1.cell? ⟨b,o,none⟩:=fun b o hb=>by
  rw [aSl _ _ _ _ (fun e=>by simp only [aR1] at e;omega),aSl _ _ _ _ (fun e=>by simp only [aR1] at e;omega)]
 have b1:=h.box.ext e;have r1:=h.res.ext e;obtain ⟨_,hf⟩:=e.cells;refine ⟨((h.ext.trans e).setCell (by show w.heap.size<=A;omega) _).setCell (by show w.heap.size<=A;omega) _,hp,⟨by simp;omega,?_,?_⟩,?_,?_,⟨by simp;omega,by rw [hk _ _ (by omega)];exact r1.c0,by rw [hk _ _ (by omega)];exact r1.c1⟩,?_,?_,?_,?_⟩
 ·rw [aSl _ _ _ _ (by simp)]
  exact aUh _ _ _ b1.c0
 ·refine aUh _ _ _ (?_:_=some (aR9 a t.px.length c))
  rw [aSl _ _ _ _ (by simp)];exact b1.c1
 ·rw [aSs,aSs,hf _ _ hA];exact h.f0
 ·rw [aSs,aSs,hf _ _ hA];exact h.f1
 ·rw [aSs,aSs,hf _ _ (by omega)];exact h.r0
 ·rw [aSs,aSs,hf _ _ (by omega)];exact h.r1
 ·exact ((hown.setLow (by exact hA) _).setLow (by exact hA) _).low (by omega)
 ·intro g hg
  have:=(hown.lt g hg).1;omega
theorem Tex.Ok.tex {lo:Nat} {t:Tex} {a:Option Addr} {c:Nat} (h:t.Ok) (hown:aB lo w (.slice a t.px.length c) t.px):eZ lo w (.agg #[t.log,.slice a t.px.length c]) t:=
 ⟨_,rfl,⟨by have:=h.log0;omega,by have:=h.log4;omega⟩,hown⟩
theorem bY (w:World) {o:Oper} {a:Act} (hg:o.guard=none) (s x:Operand)
  (hop:o.op=Op.call { callee:=Callee.builtin Builtin.append,args:=#[s,x],argTypes:=#[24,24] }) (lo:Nat) (v:Value) (xs ys:List Int) (hs:a.eval s=v) (hown:aB lo w v xs)
  (b off cap:Nat) (hx:a.eval x = .slice (some ⟨b,off,none⟩) ys.length cap) (hcell:∀i y,ys[i]?=some y->I64 y/\w.cell? ⟨b,off+i,none⟩=some (.int .i64 y)) (hlen:xs.length+ys.length<1000000000) (hlo:lo<=w.heap.size)
  (hK:∀v' w',aB lo w' v' (xs++ys)->w.grownBy w' v.ownBlock->wpList aQ2 ops Q rest (a.put o.dst v') w'):wpList aQ2 ops Q (o::rest) a w:=by
 obtain ⟨i0,h3,h4,h5,h6⟩:=info_parts eK;refine wpList_append_own w hg s x 24 hop lo 3 i0 (.int .i64 0) 1 8 underlying24 h3 h4 h5 h6 rfl (by decide) v xs.length _ hs hown.1 ⟨b,off,none⟩ ys.length cap (ys.map (aT8 .i64)) hx (by simp) ?_ ?_ ?_ ?_ hlo ?_
 ·intro j u hj
  rw [aSo] at hj
  cases h2:ys[j]? with
  | none=>rw [h2] at hj;cases hj
  | some y=>
   rw [h2] at hj;simp only [Option.map_some,aQ0] at hj;subst hj;rw [aJx];exact (hcell j y h2).2
 ·intro u hu
  obtain ⟨y,_,rfl⟩:=aS3.1 hu
  rfl
 ·unfold maxLen;omega
 ·omega
 ·intro v' w1 h1 h0 _
  refine hK v' w1 ⟨by simpa using h1,fun z hz=>?_⟩ h0
  rcases aTe.1 hz with h|h
  ·exact hown.2 z h
  ·obtain ⟨i,hi⟩:=List.getElem?_of_mem h
   exact (hcell i z hi).1
theorem cB (w:World) (o:Obj):(w.alloc o).heap[w.heap.size]?=some o:=by show (w.heap.push o)[w.heap.size]?=_;simp
theorem aB.empty {lo:Nat} (hl:lo<=g) (hg:w.heap[g]?=some (.cells #[] 3)):aB lo w (.slice (some ⟨g,0,none⟩) 0 0) []:=
 ⟨⟨rfl,.inr ⟨g,0,#[],rfl,hl,hg,aQv _,aSi _,rfl,rfl⟩⟩,fun _ h=>by cases h⟩
theorem aB.notBox {lo:Nat} {T:TypeId} {fr:Nat×Nat} (h:aB lo w v xs) (hA:w.heap[A]?=some (.cells cs T fr)) (hT:T≠3):v.ownBlock≠some A:=by
 intro e
 rcases h.1.2 with ⟨rfl,_⟩|⟨g,cap,cur,rfl,_,hg,_⟩
 ·cases e
 ·simp only [aRu,aQ0] at e
  subst e;rw [hg] at hA;simp only [aQ0,Obj.cells.injEq] at hA;exact hT hA.2.1.symm
theorem aE7 (lo hi:Nat) (v:Value) (t:Tex) (k:Nat) (w:World) (hv:cN lo hi w v t) (hh:hi<=w.heap.size) (ht:t.Ok) (hk:k<=t.log) :
  Calls aQ2 294 #[v,k] w fun e w'=>∃v',e = .returned (.tuple #[v',.bool true])/\eZ w.heap.size w' v' (t.mip k)/\Ext w w':=by
 have HV:=hid hv;obtain ⟨b,q7,cap,rfl,h9,x9,x5,h6⟩:=hv.ok ht
 have x8:t.px.length<=256:=by rw [ht.len];exact aRy ht.n_le ht.n_le
 have x7:k<=4:=by have:=ht.log4;omega
 have HB:=hid (aG.2 ⟨by omega,hk⟩:inB k 0 t.log=true);have H1:=hid (Tex.okB_iff.2 ht);have HT:=hid ht;have HC:=hid h9;have HH:=hid h6
 have q4:b<w.heap.size:=by omega
 clear hv ht h9 h6;go_enter func294,ntmps294
 go_upto_region 3 with (first
  | (go_at_call 88;refine r_ (aK H1 lo hi _ _ (HV.ext hh X_) (by simp;omega)) fun w1 hx=>?_;obtain ⟨c1,f1⟩:=hx.cells;have z1:=hx.size;simp only [aQy] at z1;have q0:w.heap.size<w1.heap.size:=(by omega);have q1:w.heap.size+1<w1.heap.size:=(by omega))
  | (go_at_call 46;refine z_ (aE HB _) ?_))
 have E1:Ext w w1:=Ext.trans X_ hx
 go_cut [6] from 18 to 24 (fun p wx=>∃A a c,p = .pointer (some ⟨A,0,none⟩)/\MSt w wx t A a c)
 case first=>
  refine cZ 8 w1.heap.size (by kernel_rfl) ?_;refine aZ (fuel:=4) [0,1,3,4] [2,7] (by kernel_rfl) (fun _ _ _=>rfl) ?_;simp only [aRm,aRg,aQ1,aQw,aQx]
  show wpQuiet _ _ _ _ [_,_,_,_] _
  repeat (go_big_quiet_step (fail))
  refine wpQuiet_nil ?_;intro e he;simp only [aRk,aRe,or_false] at he
  rcases he with rfl|rfl
  ·(unfold bU;simp only [aQ1,aQx,aQw,aQ0];refine ⟨_,rfl,fun K hK=>?_⟩)
   go_wp2;refine hK _ _ (.inr (fun b _ hb=>Ext.block X_ hb)) ?_;clear hK K;refine aZ (fuel:=3) [] [5,7] (by kernel_rfl) (fun b _ hb=>Ext.block X_ hb) ?_;refine wpQuiet_nil ?_;intro e he;simp only [aRk,aRe,or_false] at he
   rcases he with rfl|rfl
   ·(unfold bU;simp only [aQ1,aQx,aQw,aQ0];refine ⟨_,rfl,fun K hK=>?_⟩)
    refine bY _ rfl _ _ rfl (w.heap.size+1+1) (.slice (some ⟨w1.heap.size,0,none⟩) 0 0) [] t.px rfl (aB.empty (by omega) (cB w1 _)) b q7 cap rfl ?_ (by simp;omega) (by simp;omega) ?_
    ·intro i y hy
     obtain ⟨_,_,_,h4⟩:=HT;have h5:=h4 y (aRn hy);exact ⟨⟨by omega,by omega⟩,(((E1.alloc _).drew).cells.1 _ _ q4).trans (HH _ _ hy)⟩
    intro v2 w2 h0 hg;rw [aSu] at h0;have h1:∀b,b<w1.heap.size->w2.heap[b]?=w1.heap[b]?:=fun b hb=>(hg.block b (by simp;omega) (by simp [aRu];omega)).trans (Ext.block X_ hb);have z2:=hg.size;simp at z2;have E2:Ext w w2:=Ext.grown (w1:=(w1.alloc _).drew) (E1.alloc _).drew hg (by simp [aRu];omega);clear hg;obtain ⟨a2,n2,rfl,_⟩:=h0.form;go_wp2;refine hK _ _ (.inr (fun b _ hb=>h1 b hb)) ?_;clear hK K;refine aZ (fuel:=1) [6] [7] (by kernel_rfl) (fun b _ hb=>h1 b hb) ?_;simp only [aSj,aQ4,aRc,aRb,aRm,aRg,aQ1,aQw,aQx]
    show wpQuiet _ _ _ _ [_] _
    repeat (go_big_quiet_step (fail))
    refine wpQuiet_nil ?_;intro e he;simp only [aRk,aRe,or_false] at he;subst he
    (unfold bU;simp only [aQ1,aQx,aQw,aQ0];refine ⟨_,rfl,fun K hK=>?_⟩)
    go_wp2;refine hK _ _ (.inr (fun b _ hb=>(Ext.block (w:=w2) X_ (by omega)).trans (h1 b hb))) ?_;clear hK K;refine aZ (fuel:=0) [] [8] (by kernel_rfl) (fun b _ hb=>(Ext.block (w:=w2) X_ (by omega)).trans (h1 b hb)) ?_;refine wpQuiet_nil ?_;intro e he;simp only [aRk,aRe,or_false] at he;subst he
    (unfold bU;simp only [aQ1,aQx,aQw,aQ0];refine ⟨_,rfl,fun K hK=>?_⟩)
    go_wp2;refine l_ hK ?_;clear hK K;refine bX (by kernel_rfl) ?_;go_wp2_with fail
    go_meet
    have q8:∀b o,b<w1.heap.size->w2.cell? ⟨b,o,none⟩=w1.cell? ⟨b,o,none⟩:=fun b o hb=>aSe (w:=w1) (h1 b hb);have q9:∀b o,b<w1.heap.size->w2.frozen? ⟨b,o,none⟩=w1.frozen? ⟨b,o,none⟩:=fun b o hb=>aSt (w:=w1) (h1 b hb)
    have q2:w.heap.size+1<w2.heap.size:=by omega
    refine ⟨_,_,_,rfl,⟨E2.alloc _,q2,hZ.made _ _ _ _,by simp [go_sem],by simp [go_sem],⟨by simp;omega,by simp [go_sem, *],by simp [go_sem, *]⟩,by simp [go_sem, *],by simp [go_sem, *],h0.alloc _,?_⟩⟩;intro g hg;have h2:=(h0.lt g hg).2;omega
   ·(unfold bU;simp only [aQ1,aQx,aQw,aQ0];refine ⟨_,rfl,fun K hK=>?_⟩)
    go_wp2;refine hK _ _ (.inr (fun b _ hb=>Ext.block X_ hb)) ?_;clear hK K;refine aZ (fuel:=2) [] [5] (by kernel_rfl) (fun b _ hb=>Ext.block X_ hb) ?_;refine wpQuiet_nil ?_;intro e he;simp only [aRk,aRe,or_false] at he;subst he
    (unfold bU;simp only [aQ1,aQx,aQw,aQ0];refine ⟨_,rfl,fun K hK=>?_⟩)
    refine bY _ rfl _ _ rfl (w.heap.size+1+1) (.slice (some ⟨w1.heap.size,0,none⟩) 0 0) [] t.px rfl (aB.empty (g:=w1.heap.size) (by omega) ((Ext.block (w:=w1.alloc (.cells #[] 3)) X_ (by simp)).trans (cB w1 _))) b q7 cap rfl ?_ (by simp;omega) (by simp;omega) ?_
    ·intro i y hy
     obtain ⟨_,_,_,h4⟩:=HT;have h5:=h4 y (aRn hy);exact ⟨⟨by omega,by omega⟩,((Ext.trans E1 X_).cells.1 _ _ q4).trans (HH _ _ hy)⟩
    intro v2 w2 h0 hg;rw [aSu] at h0;have h1:∀b,b<w1.heap.size->w2.heap[b]?=w1.heap[b]?:=fun b hb=>(hg.block b (by simp;omega) (by simp [aRu];omega)).trans (Ext.block X_ hb);have hA:=hg.block (w1.heap.size+1) (by simp) (by simp [aRu]);have z2:=hg.size;simp at z2;have E2:Ext w w2:=Ext.grown (Ext.trans E1 X_) hg (by simp [aRu];omega);clear hg;obtain ⟨a2,n2,rfl,_⟩:=h0.form;have q8:∀b o,b<w1.heap.size->w2.cell? ⟨b,o,none⟩=w1.cell? ⟨b,o,none⟩:=fun b o hb=>aSe (w:=w1) (h1 b hb);have q9:∀b o,b<w1.heap.size->w2.frozen? ⟨b,o,none⟩=w1.frozen? ⟨b,o,none⟩:=fun b o hb=>aSt (w:=w1) (h1 b hb);have h7:w2.heap[w1.heap.size+1]?=some (.cells #[(),.slice none 0 0] 36):=hA.trans (by rw [<-aQy w1 (.cells #[] 3)];exact cB _ _);have h8:=h0.notBox h7 (by decide)
    have x2:∀o,w2.cell? ⟨w1.heap.size+1,o,none⟩=#[aT8 .i64 0,.slice none 0 0][o]?:=fun o=>by simp [aSy,h7]
    have x4:∀o,w2.frozen? ⟨w1.heap.size+1,o,none⟩=false:=fun o=>by simp [aWg,h7]
    clear hA;go_wp2;refine hK _ _ (.inr (fun b _ hb=>h1 b hb)) ?_;clear hK K;refine aZ (fuel:=0) [6] [8] (by kernel_rfl) (fun b _ hb=>h1 b hb) ?_;simp only [aSj,aQ4,aRc,aRb,aRm,aRg,aQ1,aQw,aQx]
    show wpQuiet _ _ _ _ [_] _
    repeat (go_big_quiet_step (fail))
    refine wpQuiet_nil ?_;intro e he;simp only [aRk,aRe,or_false] at he;subst he
    (unfold bU;simp only [aQ1,aQx,aQw,aQ0];refine ⟨_,rfl,fun K hK=>?_⟩)
    go_wp2;refine l_ hK ?_;clear hK K;refine bX (by kernel_rfl) ?_;go_wp2_with fail
    go_meet
    refine ⟨_,a2,n2,rfl,⟨(E2.setCell (by simp;omega) _).setCell (by simp;omega) _,by omega,⟨by simp;omega,by simp [go_sem, *],by simp [go_sem, *]⟩,by simp [go_sem, *],by simp [go_sem, *],⟨by simp;omega,by simp [go_sem, *],by simp [go_sem, *]⟩,by simp [go_sem, *],by simp [go_sem, *],?_,?_⟩⟩
    ·exact (h0.keptAt (fun g hg=>aQ7 _ _ _ _ (fun e=>h8 (hg.trans (congrArg some e))))).keptAt (fun g hg=>aQ7 _ _ _ _ (fun e=>h8 (hg.trans (congrArg some e))))
    ·intro g hg e
     exact h8 (hg.trans (congrArg some e))
  ·(unfold bU;simp only [aQ1,aQx,aQw,aQ0];refine ⟨_,rfl,fun K hK=>?_⟩)
   go_wp2;refine hK _ _ (.inr (fun b _ hb=>Ext.block X_ hb)) ?_;clear hK K;refine aZ (fuel:=3) [] [2] (by kernel_rfl) (fun b _ hb=>Ext.block X_ hb) ?_;refine wpQuiet_nil ?_;intro e he;simp only [aRk,aRe,or_false] at he;subst he
   (unfold bU;simp only [aQ1,aQx,aQw,aQ0];refine ⟨_,rfl,fun K hK=>?_⟩)
   go_wp2;refine hK _ _ (.inr (fun b _ hb=>Ext.block X_ hb)) ?_;clear hK K;refine aZ (fuel:=2) [] [5] (by kernel_rfl) (fun b _ hb=>Ext.block X_ hb) ?_;refine wpQuiet_nil ?_;intro e he;simp only [aRk,aRe,or_false] at he;subst he
   (unfold bU;simp only [aQ1,aQx,aQw,aQ0];refine ⟨_,rfl,fun K hK=>?_⟩)
   refine bY _ rfl _ _ rfl (w.heap.size+1+1) (.slice (some ⟨w1.heap.size+1,0,none⟩) 0 0) [] t.px rfl (aB.empty (g:=w1.heap.size+1) (by omega) (by rw [<-aQy w1 (.cells #[(),.slice none 0 0] 36)];exact cB _ _)) b q7 cap rfl ?_ (by simp;omega) (by simp;omega) ?_
   ·intro i y hy
    obtain ⟨_,_,_,h4⟩:=HT;have h5:=h4 y (aRn hy);exact ⟨⟨by omega,by omega⟩,((Ext.trans E1 X_).cells.1 _ _ q4).trans (HH _ _ hy)⟩
   intro v2 w2 h0 hg;rw [aSu] at h0;have h1:∀b,b<w1.heap.size->w2.heap[b]?=w1.heap[b]?:=fun b hb=>(hg.block b (by simp;omega) (by simp [aRu];omega)).trans (Ext.block X_ hb);have hA:=hg.block w1.heap.size (by simp;omega) (by simp [aRu]);have z2:=hg.size;simp at z2;have E2:Ext w w2:=Ext.grown (Ext.trans E1 X_) hg (by simp [aRu];omega);clear hg;obtain ⟨a2,n2,rfl,_⟩:=h0.form;have q8:∀b o,b<w1.heap.size->w2.cell? ⟨b,o,none⟩=w1.cell? ⟨b,o,none⟩:=fun b o hb=>aSe (w:=w1) (h1 b hb);have q9:∀b o,b<w1.heap.size->w2.frozen? ⟨b,o,none⟩=w1.frozen? ⟨b,o,none⟩:=fun b o hb=>aSt (w:=w1) (h1 b hb);have h7:w2.heap[w1.heap.size]?=some (.cells #[(),.slice none 0 0] 36):=hA.trans ((Ext.block (w:=w1.alloc (.cells #[(),.slice none 0 0] 36)) X_ (by simp)).trans (cB w1 _));have h8:=h0.notBox h7 (by decide)
   have x2:∀o,w2.cell? ⟨w1.heap.size,o,none⟩=#[aT8 .i64 0,.slice none 0 0][o]?:=fun o=>by simp [aSy,h7]
   have x4:∀o,w2.frozen? ⟨w1.heap.size,o,none⟩=false:=fun o=>by simp [aWg,h7]
   clear hA;go_wp2;refine hK _ _ (.inr (fun b _ hb=>h1 b hb)) ?_;clear hK K;refine aZ (fuel:=0) [6] [8] (by kernel_rfl) (fun b _ hb=>h1 b hb) ?_;simp only [aSj,aQ4,aRc,aRb,aRm,aRg,aQ1,aQw,aQx]
   show wpQuiet _ _ _ _ [_] _
   repeat (go_big_quiet_step (fail))
   refine wpQuiet_nil ?_;intro e he;simp only [aRk,aRe,or_false] at he;subst he
   (unfold bU;simp only [aQ1,aQx,aQw,aQ0];refine ⟨_,rfl,fun K hK=>?_⟩)
   go_wp2;refine l_ hK ?_;clear hK K;refine bX (by kernel_rfl) ?_;go_wp2_with fail
   go_meet
   refine ⟨_,a2,n2,rfl,⟨(E2.setCell (by simp;omega) _).setCell (by simp;omega) _,by omega,⟨by simp;omega,by simp [go_sem, *],by simp [go_sem, *]⟩,by simp [go_sem, *],by simp [go_sem, *],⟨by simp;omega,by simp [go_sem, *],by simp [go_sem, *]⟩,by simp [go_sem, *],by simp [go_sem, *],?_,?_⟩⟩
   ·exact (h0.keptAt (fun g hg=>aQ7 _ _ _ _ (fun e=>h8 (hg.trans (congrArg some e))))).keptAt (fun g hg=>aQ7 _ _ _ _ (fun e=>h8 (hg.trans (congrArg some e))))
   ·intro g hg e
    exact h8 (hg.trans (congrArg some e))
 case rest=>
  obtain ⟨A,a,c,rfl,hm⟩:=hcut;have HS:=hid hm;clear hm c1 f1;go_wp2_with fail
  go_loopw [1] (fun i wr=>∃(j:Nat) (a:Option Addr) (c:Nat),j<=k/\i = .int .i64 ((k:Int) - j)/\MSt w wr (t.mip j) A a c) (fun i _=>(intOf i).toNat)
  case atStart=>exact ⟨0,_,_,by omega,by simp,HS⟩
  case round=>
   clear HS;obtain ⟨j,a,c,hj,rfl,h3⟩:=hrel;have HS:=hid h3;have m0:=h3.box.lt;have m1:=h3.box.c0;have m2:=h3.box.c1;have f0:=h3.f0;have f1:=h3.f1;have hp:=h3.pos;have r0:=h3.res.c0;have r1:=h3.res.c1;have r2:=h3.r0;have r3:=h3.r1;clear h3
   by_cases x6:j<k
   ·obtain ⟨q3,q6⟩:=HT.mip j (by omega)
    have x0:1<=(t.mip j).log:=by omega
    have HK:=hid q3;have HL:=hid x0;clear q3 q6 x0;go_wp2_with fail;refine (aC6 _ _ _ (t.mip j) _ (HK.tex HS.own).tex (aQv _) HK HL).mono ?_;rintro e w3 ⟨v3,rfl,O3,x3⟩;obtain ⟨a3,c3,rfl,_⟩:=O3.form;have x1:=hid (HS.step x3 O3);obtain ⟨c4,f4⟩:=x3.cells;have z3:=x3.size
    have z4:A<w3.heap.size:=by omega
    go_wp2;go_roundw
    case rel=>exact ⟨j+1,a3,c3,by omega,by go_num,x1⟩
    case measure=>simp [intOf];omega
   ·obtain rfl:j=k:=by omega
    have z4:w.heap.size+1<wr.heap.size:=by omega
    obtain ⟨q3,q6⟩:=HT.mip j (by omega);have HK:=hid q3;clear q3 q6;go_wp2;have h0:=HS.own;have q5:=HS.ext;refine bodyPost_ret (v:=.tuple #[.agg #[.int .i64 (t.mip j).log,.slice a (t.mip j).px.length c],.bool true]) (by simp [results,results294,go_sem, *]) rfl ⟨_,rfl,HK.tex (((h0.setLow (by simp) _).setLow (by simp) _).low (by omega)),(q5.setCell (by simp) _).setCell (by simp) _⟩
def Tex.mipR (t:Tex) (l:Int):Tex×Bool:=if t.okB&&inB l 0 t.log then (t.mip l.toNat,true) else (⟨0,[]⟩,false)
theorem yU (lo hi:Nat) (v:Value) (t:Tex) (l:Int) (w:World) (hv:cN lo hi w v t) (hh:hi<=w.heap.size) :
  Calls aQ2 294 #[v,l] w fun e w'=>∃v',e = .returned (.tuple #[v',.bool (t.mipR l).2])/\eZ w.heap.size w' v' (t.mipR l).1/\Ext w w':=by
 by_cases h1:t.okB=true
 ·by_cases h2:inB l 0 t.log=true
  ·have ht:=Tex.okB_iff.1 h1
   have e1:t.mipR l=(t.mip l.toNat,true):=by simp [Tex.mipR,h1,h2]
   rw [e1];have h3:=aG.1 h2;have:=aE7 lo hi v t l.toNat w hv hh ht (by omega);rw [aXy h3.1] at this;exact this
  ·have e1:t.mipR l=(⟨0,[]⟩,false):=by simp [Tex.mipR,h2]
   rw [e1];obtain ⟨u,rfl,h0⟩:=hv.shape;have HV:=hid hv;have H1:=hid h1;have HB:=hid (aT3.2 h2);clear hv h1 e1 h2;go_enter func294,ntmps294
   go_wp2_with (first
   | (go_at_call 88;refine r_ (aK H1 lo hi _ _ (HV.ext hh X_) (by simp;omega)) fun w1 hx=>?_;obtain ⟨c1,f1⟩:=hx.cells;have z1:=hx.size;simp only [aQy] at z1;have q0:w.heap.size<w1.heap.size:=(by omega);have q1:w.heap.size+1<w1.heap.size:=(by omega))
   | (go_at_call 46;refine z_ (aE HB _) ?_))
   have h4:Ext w w1:=Ext.trans X_ hx;exact bodyPost_ret (v:=.tuple #[.agg #[(),.slice none 0 0],.bool false]) (by simp [results,results294,go_sem, *]) rfl ⟨_,rfl,eZ.zero _ _,(h4.setCell (by simp) _).setCell (by simp) _⟩
 ·have e1:t.mipR l=(⟨0,[]⟩,false):=by simp [Tex.mipR,h1]
  rw [e1];obtain ⟨u,rfl,h0⟩:=hv.shape;have HV:=hid hv;have H1:=hid (aT3.2 h1);clear hv h1 e1;go_enter func294,ntmps294;go_wp2_with (go_at_call 88;refine r_ (aK H1 lo hi _ _ (HV.ext hh X_) (by simp;omega)) fun w1 hx=>?_;obtain ⟨c1,f1⟩:=hx.cells;have z1:=hx.size;simp only [aQy] at z1);have h4:Ext w w1:=Ext.trans X_ hx;exact bodyPost_ret (v:=.tuple #[.agg #[(),.slice none 0 0],.bool false]) (by simp [results,results294,go_sem, *]) rfl ⟨_,rfl,eZ.zero _ _,(h4.setCell (by simp) _).setCell (by simp) _⟩
theorem nN {A B:Int} (h1:0<=a) (h2:a<=A) (h3:0<=b) (h4:b<=B):0<=a*b/\a*b<=A*B:=
 ⟨aSv h1 h3,Int.mul_le_mul h2 h4 h3 (Int.le_trans h1 h2)⟩
def aBg (u:Int) (n:Nat):Int:=aR u (-1000000) 1000000*n - 128
theorem aJy (u:Int) : -1000000<=aR u (-1000000) 1000000/\aR u (-1000000) 1000000<=1000000:=by
 unfold aR
 split
 ·omega
 ·split <;> omega
theorem oO (u:Int) {n:Nat} (h1:1<=n) (h:n<=16) : -16000000<=aR u (-1000000) 1000000*n/\aR u (-1000000) 1000000*n<=16000000:=by
 have hb:=aJy u;have h2:=nN (a:=aR u (-1000000) 1000000+1000000) (b:=n) (A:=2000000) (B:=16) (by omega) (by omega) (by omega) (by omega);have h3:(aR u (-1000000) 1000000+1000000)*(n:Int)=aR u (-1000000) 1000000*n+1000000*n:=aZo ..;have h4:=nN (a:=1000000 - aR u (-1000000) 1000000) (b:=n) (A:=2000000) (B:=16) (by omega) (by omega) (by omega) (by omega);have h5:(1000000 - aR u (-1000000) 1000000)*(n:Int)=1000000*n - aR u (-1000000) 1000000*n:=aYh ..;omega
def qI (u:Int) (n:Nat):Int:=bI (aBg u n) 256
def sS (u:Int) (n:Nat):Int:=kL (aBg u n) 256
theorem vB (u:Int) {n:Nat} (h1:1<=n) (h:n<=16) : -100000<=qI u n/\qI u n<=100000:=by
 have h2:=oO u h1 h;unfold qI aBg bI;rw [if_neg (by omega)];omega
theorem vC (u:Int) (n:Nat):0<=sS u n/\sS u n<=255:=by
 unfold sS kL;rw [if_neg (by omega)];omega
theorem aHb (u:Int) (n:Nat):aBg u n - 256*qI u n=sS u n:=by
 unfold sS qI kL bI;rw [if_neg (by omega),if_neg (by omega)];omega
theorem rG (x:Value) (t:Tex) (u:Int) (w:World) (ht:t.Ok) :
  R_ 300 #[.agg #[t.log,x],u] w (.tuple #[(qI u t.n),(sS u t.n)]):=by
 have h0:=hid ht.log0;have h4:=hid ht.log4;have h2:=ht.n_pos;have hn:=ht.n_le
 obtain ⟨n,h1⟩:∃n,t.n=n:=⟨_,rfl⟩
 rw [h1] at h2 hn ⊢;have hp:=oO u h2 hn
 obtain ⟨c,hc⟩:∃c,aR u (-1000000) 1000000=c:=⟨_,rfl⟩
 rw [hc] at hp
 obtain ⟨q,hq⟩:∃q,c*(n:Int)=q:=⟨_,rfl⟩
 rw [hq] at hp
 have hs:aBg u n=q - 128:=by unfold aBg;rw [hc,hq]
 obtain ⟨X,hX⟩:∃X,qI u n=X:=⟨_,rfl⟩
 obtain ⟨F,hF⟩:∃F,sS u n=F:=⟨_,rfl⟩
 have HX:=hid (show bI (q - 128) 256=X by rw [<-hs];exact hX);have HF:=hid (show kL (q - 128) 256=F by rw [<-hs];exact hF);have HC:=hid hc;have HN:=hid (show 2 ^ t.log.toNat=n from h1);rw [hX,hF];clear hX hF hs hc h1 ht;go_enter func300,ntmps300;go_wp2;refine cK (by kernel_rfl) (by kernel_rfl) ?_
 repeat (go_big_quiet_step ((first|(go_at_call 81;exact sQ (dY HC _))|(go_at_call 302;exact cE (aJv h0.out h4.out HN _)))))
 refine wpQuiet_nil ?_;intro w1 h3;go_wp2_with (first|(go_at_call 96;refine z_ (cD ⟨by omega,by omega⟩ HX _) ?_)|(go_at_call 226;refine z_ (mG ⟨by omega,by omega⟩ ⟨by decide,by decide⟩ HF _) ?_));exact bodyPost_ret (v:=.tuple #[X,F]) (by simp [results,results300,go_sem]) rfl ⟨rfl,Ext.trans X_ h3⟩
def Tex.look4 (m:Tex) (x fx y fy:Int):Int:=((m.at x y*(256 - fx)+m.at (x+1) y*fx)*(256 - fy)+(m.at x (y+1)*(256 - fx)+m.at (x+1) (y+1)*fx)*fy) / 65536
def Tex.look (m:Tex) (u v:Int):Int:=m.look4 (qI u m.n) (sS u m.n) (qI v m.n) (sS v m.n)
structure aOu (m:Tex) (x fx y fy r1 r2 r3 r4 p1 p2 p3 p4 p5 p6 L:Int):Prop where
 e1:m.at x y=r1
 e2:m.at (x+1) y=r2
 e3:m.at x (y+1)=r3
 e4:m.at (x+1) (y+1)=r4
 f1:r1*(256 - fx)=p1
 f2:r2*fx=p2
 f3:r3*(256 - fx)=p3
 f4:r4*fx=p4
 f5:(p1+p2)*(256 - fy)=p5
 f6:(p3+p4)*fy=p6
 b1:0<=p1/\p1<=65536
 b2:0<=p2/\p2<=65536
 b3:0<=p3/\p3<=65536
 b4:0<=p4/\p4<=65536
 b5:0<=p5/\p5<=33554432
 b6:0<=p6/\p6<=33554432
 out:(p5+p6) / 65536=L
theorem aAf {m:Tex} (hm:m.Ok) (x y:Int) {fx fy:Int} (hx:0<=fx/\fx<=255) (hy:0<=fy/\fy<=255) :
  ∃r1 r2 r3 r4 p1 p2 p3 p4 p5 p6,aOu m x fx y fy r1 r2 r3 r4 p1 p2 p3 p4 p5 p6 (m.look4 x fx y fy):=by
 have a1:=hm.at_range x y;have a2:=hm.at_range (x+1) y;have a3:=hm.at_range x (y+1);have a4:=hm.at_range (x+1) (y+1);have b1:=nN (b:=256 - fx) (B:=256) a1.1 a1.2 (by omega) (by omega);have b2:=nN (b:=fx) (B:=256) a2.1 a2.2 (by omega) (by omega);have b3:=nN (b:=256 - fx) (B:=256) a3.1 a3.2 (by omega) (by omega);have b4:=nN (b:=fx) (B:=256) a4.1 a4.2 (by omega) (by omega);have c1:=nN (a:=m.at x y*(256 - fx)+m.at (x+1) y*fx) (A:=131072) (b:=256 - fy) (B:=256) (Int.add_nonneg b1.1 b2.1) (Int.add_le_add b1.2 b2.2) (by omega) (by omega);have c2:=nN (a:=m.at x (y+1)*(256 - fx)+m.at (x+1) (y+1)*fx) (A:=131072) (b:=fy) (B:=256) (Int.add_nonneg b3.1 b4.1) (Int.add_le_add b3.2 b4.2) (by omega) (by omega);exact ⟨_,_,_,_,_,_,_,_,_,_,rfl,rfl,rfl,rfl,rfl,rfl,rfl,rfl,rfl,rfl,b1,b2,b3,b4,c1,c2,rfl⟩
theorem oP {t:Tex} (ht:t.Ok) (hr:t.at x y=r) (hx:I64 x) (hy:I64 y) (lo hi:Nat) (v:Value) (w:World) (hv:cN lo hi w v t) (hh:hi<=w.heap.size) :
  R_ 301 #[v,x,y] w (.int .i64 r):=hr▸aIa lo hi v t x y w hv hh ht hx hy
theorem aE8 (lo hi:Nat) (v:Value) (m:Tex) (a b:Int) (w:World) (hv:cN lo hi w v m) (hh:hi<=w.heap.size) (hm:m.Ok) :
  R_ 298 #[v,a,b] w (.int .i64 (m.look a b)):=by
 have x1:=vB a hm.n_pos hm.n_le;have x2:=vB b hm.n_pos hm.n_le;have g1:=vC a m.n;have g2:=vC b m.n;have P1:=fun (x:Value) (w:World)=>rG x m a w hm;have P2:=fun (x:Value) (w:World)=>rG x m b w hm;unfold Tex.look
 obtain ⟨x,ex⟩:∃x,qI a m.n=x:=⟨_,rfl⟩
 obtain ⟨y,ey⟩:∃y,qI b m.n=y:=⟨_,rfl⟩
 obtain ⟨fx,h6⟩:∃x,sS a m.n=x:=⟨_,rfl⟩
 obtain ⟨fy,h7⟩:∃x,sS b m.n=x:=⟨_,rfl⟩
 rw [ex] at x1;rw [ey] at x2;rw [h6] at g1;rw [h7] at g2;simp only [ex,h6,ey,h7] at P1 P2 ⊢;clear ex ey h6 h7;obtain ⟨r1,r2,r3,r4,p1,p2,p3,p4,p5,p6,K⟩:=aAf hm x y g1 g2;generalize m.look4 x fx y fy=L at K ⊢;have E1:=hid K.e1;have E2:=hid K.e2;have E3:=hid K.e3;have E4:=hid K.e4;have F1:=K.f1;have F2:=K.f2;have F3:=K.f3;have F4:=K.f4;have F5:=K.f5;have F6:=K.f6;have B1:=K.b1;have B2:=K.b2;have B3:=K.b3;have B4:=K.b4;have B5:=K.b5;have B6:=K.b6;have HO:=hid K.out;obtain ⟨u,rfl,_⟩:=hv.shape;have HV:=hid hv;have HM:=hid hm;have IX:=hid (I64.mk (n:=x) (by omega) (by omega));have IY:=hid (I64.mk (n:=y) (by omega) (by omega));have h8:=hid (I64.mk (n:=x+1) (by omega) (by omega));have h9:=hid (I64.mk (n:=y+1) (by omega) (by omega));have Q1:=hid P1;have Q2:=hid P2;clear K hv hm P1 P2;go_enter func298,ntmps298;go_wp2_with fail;refine r_ (Q1.out _ _) fun w1 h1=>?_;obtain ⟨c1,f1⟩:=h1.cells;have z1:=h1.size;simp only [aQy] at z1
 have q1:w.heap.size<w1.heap.size:=by omega
 go_wp2_with fail;refine r_ (Q2.out _ _) fun w2 h2=>?_;obtain ⟨c2,f2⟩:=h2.cells;have q2:w.heap.size<w2.heap.size:=aSf q1 h2.size;have e2:Ext w w2:=(Ext.trans X_ h1).trans h2;have h0:hi<=w2.heap.size:=aQ5 hh e2.size;have X2:=hid e2;go_wp2;refine cK (by kernel_rfl) (by kernel_rfl) ?_
 repeat (go_big_quiet_step ((go_at_call 301;with_reducible first
  | exact cE (oP HM.out E1.out IX.out IY.out lo hi _ _ ((HV.out.ext hh X2.out).ext h0 (bM _ _)) (aQ5 h0 (bM _ _).size))
  | exact cE (oP HM.out E2.out h8.out IY.out lo hi _ _ ((HV.out.ext hh X2.out).ext h0 (bM _ _)) (aQ5 h0 (bM _ _).size)))))
 refine wpQuiet_nil ?_;intro w3 h3;obtain ⟨c3,f3⟩:=h3.cells;have q3:w.heap.size<w3.heap.size:=aSf q2 h3.size;have e3:Ext w w3:=X2.out.trans h3;have h5:hi<=w3.heap.size:=aQ5 hh e3.size;have X3:=hid e3;go_wp2;refine cK (by kernel_rfl) (by kernel_rfl) ?_
 repeat (go_big_quiet_step ((go_at_call 301;with_reducible first
  | exact cE (oP HM.out E3.out IX.out h9.out lo hi _ _ ((HV.out.ext hh X3.out).ext h5 (bM _ _)) (aQ5 h5 (bM _ _).size))
  | exact cE (oP HM.out E4.out h8.out h9.out lo hi _ _ ((HV.out.ext hh X3.out).ext h5 (bM _ _)) (aQ5 h5 (bM _ _).size)))))
 refine wpQuiet_nil ?_;intro w4 h4;go_wp2;go_ret;exact ⟨cS HO.out,X3.out.trans h4⟩
theorem S9.i64 {n:Int} (h:S9 n):I64 n:=I64.mk (by have:=h.1;omega) (by have:=h.2;omega)
theorem aC7 (ha:S9 a) (hb:S9 b) (hc:S9 c) : -2000000000000000000<=(b - a)*c/\(b - a)*c<=2000000000000000000:=by
 have h1:=vO hb hc;have h2:=vO ha hc;rw [aYh]
 constructor <;> omega
theorem aJz {lo hi:Nat} (h:aU lo hi w u [x]):∃b off cap,u = .slice (some ⟨b,off,none⟩) 1 cap/\b<hi/\w.cell? ⟨b,off,none⟩=some (.int .i64 x)/\fY lo hi w (some ⟨b,off,none⟩) cap [x]:=by
 obtain ⟨a,cap,rfl,HU⟩:=h.open;obtain ⟨b,off,e,h1,h2,hc⟩:=HU.at (k:=0) (by simp);subst e;exact ⟨b,off,cap,rfl,h2,hc,HU⟩
theorem sU {lo hi:Nat} (h:aU lo hi w u [x,y]):∃b off cap,u = .slice (some ⟨b,off,none⟩) 2 cap/\b<hi/\w.cell? ⟨b,off,none⟩=some (.int .i64 x)/\w.cell? ⟨b,off+1,none⟩=some (.int .i64 y)/\fY lo hi w (some ⟨b,off,none⟩) cap [x,y]:=by
 obtain ⟨a,cap,rfl,HU⟩:=h.open;obtain ⟨b,off,e,h1,h2,hc⟩:=HU.at (k:=0) (by simp);subst e;obtain ⟨b',h3,e,_,_,h0⟩:=HU.at (k:=1) (by simp);injection e with e;injection e with e1 e2;subst e1;subst e2;exact ⟨b,off,cap,rfl,h2,hc,h0,HU⟩
theorem aLw {lo hi:Nat} (h:aU lo hi w u [x,y,z]):∃b off cap,u = .slice (some ⟨b,off,none⟩) 3 cap/\b<hi/\w.cell? ⟨b,off,none⟩=some (.int .i64 x)/\w.cell? ⟨b,off+1,none⟩=some (.int .i64 y)/\w.cell? ⟨b,off+2,none⟩=some (.int .i64 z):=by
 obtain ⟨a,cap,rfl,HU⟩:=h.open;obtain ⟨b,off,e,h1,h2,hc⟩:=HU.at (k:=0) (by simp);subst e;obtain ⟨b',h3,e,_,_,h4⟩:=HU.at (k:=1) (by simp);injection e with e;injection e with e1 e2;subst e1;subst e2;obtain ⟨b',h3,e,_,_,h0⟩:=HU.at (k:=2) (by simp);injection e with e;injection e with e1 e2;subst e1;subst e2;exact ⟨b,off,cap,rfl,h2,hc,h4,h0⟩
theorem aE9 (lo hi:Nat) (u:Value) (c0:Int) (cx:Value) (w:World) (hu:aU lo hi w u [x]) (hh:hi<=w.heap.size) (hx:S9 x) (hr:fT x=r) :
  R_ 285 #[.agg #[c0,cx],u] w (.int .i64 r):=by
 obtain ⟨b,h2,cap,rfl,hb,d0,_⟩:=aJz hu;have HR:=hid hr;clear hu hr
 have h0:b<w.heap.size:=by omega
 have h1:b≠w.heap.size:=by omega
 go_enter func285,ntmps285;go_wp2_with fail;refine z_ (aC4 hx HR _) ?_;go_wp2;go_ret;exact ⟨rfl,S_⟩
theorem aBh (lo hi:Nat) (u:Value) (c0:Int) (cx:Value) (w:World) (hu:aU lo hi w u [x]) (hh:hi<=w.heap.size) (hx:S9 x) (hr:vR x=r) :
  R_ 286 #[.agg #[c0,cx],u] w (.int .i64 r):=by
 obtain ⟨b,h3,cap,rfl,hb,d0,_⟩:=aJz hu;have hq:=mH (b:=256) (m:=1000000000) hx (by decide);unfold vR at hr
 obtain ⟨q,h0⟩:∃q,bI x 256=q:=⟨_,rfl⟩
 rw [h0] at hq hr;have HQ:=hid h0;clear h0;have HR:=hid hr;clear hu hr
 have h1:b<w.heap.size:=by omega
 have h2:b≠w.heap.size:=by omega
 go_enter func286,ntmps286;go_wp2_with fail;refine z_ (cD hx.i64 HQ _) ?_;go_wp2;rw [HR];go_ret;exact ⟨rfl,S_⟩
theorem aFa (lo hi:Nat) (u:Value) (c0:Int) (cx:Value) (w:World) (hu:aU lo hi w u [x,y]) (hh:hi<=w.heap.size) (hr:aH7 x y=r) :
  R_ 287 #[.agg #[c0,cx],u] w (.int .i64 r):=by
 obtain ⟨b,h2,cap,rfl,hb,d0,d1,_⟩:=sU hu;clear hu
 have h0:b<w.heap.size:=by omega
 have h1:b≠w.heap.size:=by omega
 by_cases h:y<x
 ·obtain rfl:y=r:=by
   rw [<-hr];unfold aH7
   split <;> omega
  clear hr;go_enter func287,ntmps287;go_wp2_with fail;refine aA [([0,1,2,3,4,5],6),([],7)] 99 w.heap.size (by kernel_rfl) (by kernel_rfl) ?_;refine st_ fun K hK=>?_;go_wp2_with fail;refine hK _ _ (.inr (fun b _ hb=>Ext.block X_ (by simp;omega))) ?_;clear hK K;refine aI ?_;simp only [aRg]
  show wpQuiet _ _ _ _ [] _
  try simp only [aSj,aQ4,aRc,aRb]
  repeat (go_big_quiet_step (fail))
  refine wpQuiet_nil ⟨_,rfl,fun K hK=>?_⟩;go_wp2_with fail;refine hK _ _ (.inr (fun b _ hb=>Ext.block X_ (by simp;omega))) ?_;clear hK K;refine aC ?_;go_wp2;go_ret;exact ⟨rfl,S_⟩
 ·obtain rfl:x=r:=by
   rw [<-hr];unfold aH7
   split <;> omega
  clear hr;go_enter func287,ntmps287;go_wp2_with fail;refine aA [([0,1,2,3,4,5],6),([],7)] 99 w.heap.size (by kernel_rfl) (by kernel_rfl) ?_;refine st_ fun K hK=>?_;go_wp2_with fail;refine hK _ _ (.inr (fun b _ hb=>Ext.block X_ (by simp;omega))) ?_;clear hK K;refine aI ?_;simp only [aRg]
  show wpQuiet _ _ _ _ [] _
  try simp only [aSj,aQ4,aRc,aRb]
  repeat (go_big_quiet_step (fail))
  refine wpQuiet_nil ⟨_,rfl,fun K hK=>?_⟩;go_wp2_with fail;refine hK _ _ (.inr (fun b _ hb=>Ext.block X_ (by simp;omega))) ?_;clear hK K;refine aC ?_;go_wp2;go_ret;exact ⟨rfl,S_⟩
theorem aFb (lo hi:Nat) (u:Value) (c0:Int) (cx:Value) (w:World) (hu:aU lo hi w u [x,y]) (hh:hi<=w.heap.size) (hr:aH6 x y=r) :
  R_ 288 #[.agg #[c0,cx],u] w (.int .i64 r):=by
 obtain ⟨b,h2,cap,rfl,hb,d0,d1,_⟩:=sU hu;clear hu
 have h0:b<w.heap.size:=by omega
 have h1:b≠w.heap.size:=by omega
 by_cases h:x<y
 ·obtain rfl:y=r:=by
   rw [<-hr];unfold aH6
   split <;> omega
  clear hr;go_enter func288,ntmps288;go_wp2_with fail;refine aA [([0,1,2,3,4,5],6),([],7)] 99 w.heap.size (by kernel_rfl) (by kernel_rfl) ?_;refine st_ fun K hK=>?_;go_wp2_with fail;refine hK _ _ (.inr (fun b _ hb=>Ext.block X_ (by simp;omega))) ?_;clear hK K;refine aI ?_;simp only [aRg]
  show wpQuiet _ _ _ _ [] _
  try simp only [aSj,aQ4,aRc,aRb]
  repeat (go_big_quiet_step (fail))
  refine wpQuiet_nil ⟨_,rfl,fun K hK=>?_⟩;go_wp2_with fail;refine hK _ _ (.inr (fun b _ hb=>Ext.block X_ (by simp;omega))) ?_;clear hK K;refine aC ?_;go_wp2;go_ret;exact ⟨rfl,S_⟩
 ·obtain rfl:x=r:=by
   rw [<-hr];unfold aH6
   split <;> omega
  clear hr;go_enter func288,ntmps288;go_wp2_with fail;refine aA [([0,1,2,3,4,5],6),([],7)] 99 w.heap.size (by kernel_rfl) (by kernel_rfl) ?_;refine st_ fun K hK=>?_;go_wp2_with fail;refine hK _ _ (.inr (fun b _ hb=>Ext.block X_ (by simp;omega))) ?_;clear hK K;refine aI ?_;simp only [aRg]
  show wpQuiet _ _ _ _ [] _
  try simp only [aSj,aQ4,aRc,aRb]
  repeat (go_big_quiet_step (fail))
  refine wpQuiet_nil ⟨_,rfl,fun K hK=>?_⟩;go_wp2_with fail;refine hK _ _ (.inr (fun b _ hb=>Ext.block X_ (by simp;omega))) ?_;clear hK K;refine aC ?_;go_wp2;go_ret;exact ⟨rfl,S_⟩
theorem aC8 (lo hi:Nat) (u:Value) (c0:Int) (cx:Value) (w:World) (hu:aU lo hi w u [x,y]) (hh:hi<=w.heap.size) (hx:S9 x) (hy:S9 y) (hr:aG8 x y=r) :
  R_ 289 #[.agg #[c0,cx],u] w (.int .i64 r):=by
 obtain ⟨b,h2,cap,rfl,hb,d0,d1,_⟩:=sU hu;have HR:=hid hr;clear hu hr
 have h0:b<w.heap.size:=by omega
 have h1:b≠w.heap.size:=by omega
 go_enter func289,ntmps289;go_wp2_with fail;refine aA [([0,1,2,3,4,5],6),([],7)] 99 w.heap.size (by kernel_rfl) (by kernel_rfl) ?_;refine st_ fun K hK=>?_;go_wp2_with fail;refine z_ (aE6 hx.i64 hy.i64 HR _) ?_;go_wp2_with fail;refine hK _ _ (.inr (fun b _ hb=>Ext.block X_ (by simp;omega))) ?_;clear hK K;refine aI ?_;simp only [aRg]
 show wpQuiet _ _ _ _ [] _
 try simp only [aSj,aQ4,aRc,aRb]
 repeat (go_big_quiet_step (fail))
 refine wpQuiet_nil ⟨_,rfl,fun K hK=>?_⟩;go_wp2_with fail;refine hK _ _ (.inr (fun b _ hb=>Ext.block X_ (by simp;omega))) ?_;clear hK K;refine aC ?_;go_wp2;go_ret;exact ⟨rfl,S_⟩
theorem aBi (lo hi:Nat) (u:Value) (c0:Int) (cx:Value) (xs:List Int) (w:World) (hu:aU lo hi w u xs) (hh:hi<=w.heap.size) (hr:mI xs=r) :
  R_ 290 #[.agg #[c0,cx],u] w (.int .i64 r):=by
 subst hr;have HU:=hid hu;clear hu;go_enter func290,ntmps290;go_wp2_with fail;refine z_ (aBc lo hi _ xs _ (HU.ext hh X_)) ?_;go_wp2;go_ret;exact ⟨rfl,S_⟩
theorem aBj (lo hi:Nat) (u:Value) (c0:Int) (cx:Value) (w:World) (hu:aU lo hi w u [x,y,z]) (hh:hi<=w.heap.size) (hr:aR x y z=r) :
  R_ 291 #[.agg #[c0,cx],u] w (.int .i64 r):=by
 obtain ⟨b,h2,cap,rfl,hb,d0,d1,d2⟩:=aLw hu;have HR:=hid hr;clear hu hr
 have h0:b<w.heap.size:=by omega
 have h1:b≠w.heap.size:=by omega
 go_enter func291,ntmps291;go_wp2_with fail;refine aA [([0,1,2,3,4,5,6,7,8],9),([],10)] 99 w.heap.size (by kernel_rfl) (by kernel_rfl) ?_;refine st_ fun K hK=>?_;go_wp2_with fail;refine z_ (dY HR _) ?_;go_wp2_with fail;refine hK _ _ (.inr (fun b _ hb=>Ext.block X_ (by simp;omega))) ?_;clear hK K;refine aI ?_;simp only [aRg]
 show wpQuiet _ _ _ _ [] _
 try simp only [aSj,aQ4,aRc,aRb]
 repeat (go_big_quiet_step (fail))
 refine wpQuiet_nil ⟨_,rfl,fun K hK=>?_⟩;go_wp2_with fail;refine hK _ _ (.inr (fun b _ hb=>Ext.block X_ (by simp;omega))) ?_;clear hK K;refine aC ?_;go_wp2;go_ret;exact ⟨rfl,S_⟩
theorem aFc (lo hi:Nat) (u:Value) (c0:Int) (cx:Value) (w:World) (hu:aU lo hi w u [x,y,z]) (hh:hi<=w.heap.size) (hx:S9 x) (hy:S9 y) (hz:S9 z) (hr:vS x y z=r) :
  R_ 292 #[.agg #[c0,cx],u] w (.int .i64 r):=by
 obtain ⟨b,h7,cap,rfl,hb,d0,d1,d2⟩:=aLw hu;have h3:=hx.1;have h4:=hx.2;have h5:=hy.1;have h6:=hy.2;have hm:=aC7 hx hy hz;unfold vS at hr;have hq:=mH (b:=256) hm (by decide)
 obtain ⟨q,h0⟩:∃q,bI ((y - x)*z) 256=q:=⟨_,rfl⟩
 rw [h0] at hq hr;have HQ:=hid h0;clear h0;have HR:=hid hr;clear hu hr
 have h1:b<w.heap.size:=by omega
 have h2:b≠w.heap.size:=by omega
 go_enter func292,ntmps292;go_wp2_with fail;refine aA [([0,1,2,3,4,5,6,7,8,9,10,11,12,13],14),([15],16)] 99 w.heap.size (by kernel_rfl) (by kernel_rfl) ?_;refine st_ fun K hK=>?_;go_wp2_with fail;refine z_ (cD (I64.mk (by omega) (by omega)) HQ _) ?_;go_wp2_with fail;refine hK _ _ (.inr (fun b _ hb=>Ext.block X_ (by simp;omega))) ?_;clear hK K;refine aI ?_;simp only [aRm,aRg,aQ1,aQw,aQx]
 show wpQuiet _ _ _ _ [_] _
 try simp only [aSj,aQ4,aRc,aRb]
 repeat (go_big_quiet_step (fail))
 refine wpQuiet_nil ⟨_,rfl,fun K hK=>?_⟩;go_wp2_with fail;refine hK _ _ (.inr (fun b _ hb=>Ext.block X_ (by simp;omega))) ?_;clear hK K;refine aC ?_;go_wp2;rw [HR];go_ret;exact ⟨rfl,S_⟩
def nA (op:Int):Prop:=3<=op/\op<=7
theorem aLx (ha:S9 a) (hb:S9 b) (h:dS (-b)=c) (w:World):Z_ 284 #[.int .i64 3,a,b] w (.int .i64 c):=by
 have hm:=vO ha hb;have KA:=hid ha;have KB:=hid hb;obtain ⟨a1,a2⟩:=ha;obtain ⟨b1,b2⟩:=hb;have HR:=hid h;clear h;go_enter func284,ntmps284;go_wp2_with fail;refine z_ (cO HR _) ?_;go_wp2;go_ret;exact ⟨rfl,rfl⟩
theorem aLy (ha:S9 a) (hb:S9 b) (h:dS (a+b)=c) (w:World):Z_ 284 #[.int .i64 4,a,b] w (.int .i64 c):=by
 have hm:=vO ha hb;have KA:=hid ha;have KB:=hid hb;obtain ⟨a1,a2⟩:=ha;obtain ⟨b1,b2⟩:=hb;have HR:=hid h;clear h;go_enter func284,ntmps284;go_wp2_with fail;refine z_ (cO HR _) ?_;go_wp2;go_ret;exact ⟨rfl,rfl⟩
theorem aLz (ha:S9 a) (hb:S9 b) (h:dS (a - b)=c) (w:World):Z_ 284 #[.int .i64 5,a,b] w (.int .i64 c):=by
 have hm:=vO ha hb;have KA:=hid ha;have KB:=hid hb;obtain ⟨a1,a2⟩:=ha;obtain ⟨b1,b2⟩:=hb;have HR:=hid h;clear h;go_enter func284,ntmps284;go_wp2_with fail;refine z_ (cO HR _) ?_;go_wp2;go_ret;exact ⟨rfl,rfl⟩
theorem aL0 (ha:S9 a) (hb:S9 b) (h:dS (bI (a*b) 256)=c) (w:World):Z_ 284 #[.int .i64 6,a,b] w (.int .i64 c):=by
 have hm:=vO ha hb;have KA:=hid ha;have KB:=hid hb;obtain ⟨a1,a2⟩:=ha;obtain ⟨b1,b2⟩:=hb
 obtain ⟨q,hq⟩:∃q,bI (a*b) 256=q:=⟨_,rfl⟩
 rw [hq] at h;have HR:=hid h;have HQ:=hid hq;clear h hq;go_enter func284,ntmps284;go_wp2_with fail;refine z_ (cD (I64.mk (by omega) (by omega)) HQ _) ?_;go_wp2_with fail;refine z_ (cO HR _) ?_;go_wp2;go_ret;exact ⟨rfl,rfl⟩
theorem aL1 (ha:S9 a) (hb:S9 b) (h:dS (aC3 a b)=c) (w:World):Z_ 284 #[.int .i64 7,a,b] w (.int .i64 c):=by
 have hm:=vO ha hb;have KA:=hid ha;have KB:=hid hb;obtain ⟨a1,a2⟩:=ha;obtain ⟨b1,b2⟩:=hb
 obtain ⟨q,hq⟩:∃q,aC3 a b=q:=⟨_,rfl⟩
 rw [hq] at h;have HR:=hid h;have HQ:=hid hq;clear h hq;go_enter func284,ntmps284;go_wp2_with fail;refine z_ (aE5 KA KB HQ _) ?_;go_wp2_with fail;refine z_ (cO HR _) ?_;go_wp2;go_ret;exact ⟨rfl,rfl⟩
theorem aFd (ho:nA op) (ha:S9 a) (hb:S9 b) (h:eU op a b=c) (w:World):Z_ 284 #[op,a,b] w (.int .i64 c):=by
 obtain ⟨h1,h2⟩:=ho;unfold eU opI at h
 rcases (show op=3\/op=4\/op=5\/op=6\/op=7 by omega) with rfl|rfl|rfl|rfl|rfl
 ·exact aLx ha hb (by simpa using h) w
 ·exact aLy ha hb (by simpa using h) w
 ·exact aLz ha hb (by simpa using h) w
 ·exact aL0 ha hb (by simpa using h) w
 ·exact aL1 ha hb (by simpa using h) w
theorem aPp (lo hi:Nat) (u:Value) (ha:S9 a) (h : -a=c) (w:World) (hu:aU lo hi w u [a]) (hh:hi<=w.heap.size):R_ 265 #[.int .i64 3,u] w (.int .i64 c):=by
 obtain ⟨k,h2,cap,rfl,hb,d0,_⟩:=aJz hu
 have h0:k<w.heap.size:=by omega
 have h1:k≠w.heap.size:=by omega
 obtain ⟨a1,a2⟩:=ha;have HR:=hid h;clear h hu;go_enter func265,ntmps265;go_wp2;rw [HR];go_ret;exact ⟨rfl,S_⟩
theorem aPq (lo hi:Nat) (u:Value) (ha:S9 a) (hb:S9 b) (h:a+b=c) (w:World) (hu:aU lo hi w u [a,b]) (hh:hi<=w.heap.size):R_ 265 #[.int .i64 4,u] w (.int .i64 c):=by
 obtain ⟨k,h3,cap,rfl,h2,d0,d1,_⟩:=sU hu
 have h0:k<w.heap.size:=by omega
 have h1:k≠w.heap.size:=by omega
 have hm:=vO ha hb;have KA:=hid ha;have KB:=hid hb;obtain ⟨b1,b2⟩:=hb;obtain ⟨a1,a2⟩:=ha;have HR:=hid h;clear h hu;go_enter func265,ntmps265;go_wp2_with fail;refine aA [([0,1,2,3,4,5,6],7)] 99 w.heap.size (by kernel_rfl) (by kernel_rfl) ?_;refine st_ fun K hK=>?_;go_wp2_with fail;refine k_ hK ?_;clear hK K;refine aC ?_;go_wp2;rw [HR];go_ret;exact ⟨rfl,S_⟩
theorem aPr (lo hi:Nat) (u:Value) (ha:S9 a) (hb:S9 b) (h:a - b=c) (w:World) (hu:aU lo hi w u [a,b]) (hh:hi<=w.heap.size):R_ 265 #[.int .i64 5,u] w (.int .i64 c):=by
 obtain ⟨k,h3,cap,rfl,h2,d0,d1,_⟩:=sU hu
 have h0:k<w.heap.size:=by omega
 have h1:k≠w.heap.size:=by omega
 have hm:=vO ha hb;have KA:=hid ha;have KB:=hid hb;obtain ⟨b1,b2⟩:=hb;obtain ⟨a1,a2⟩:=ha;have HR:=hid h;clear h hu;go_enter func265,ntmps265;go_wp2_with fail;refine aA [([0,1,2,3,4,5,6],7)] 99 w.heap.size (by kernel_rfl) (by kernel_rfl) ?_;refine st_ fun K hK=>?_;go_wp2_with fail;refine k_ hK ?_;clear hK K;refine aC ?_;go_wp2;rw [HR];go_ret;exact ⟨rfl,S_⟩
theorem aPs (lo hi:Nat) (u:Value) (ha:S9 a) (hb:S9 b) (h:bI (a*b) 256=c) (w:World) (hu:aU lo hi w u [a,b]) (hh:hi<=w.heap.size):R_ 265 #[.int .i64 6,u] w (.int .i64 c):=by
 obtain ⟨k,h3,cap,rfl,h2,d0,d1,_⟩:=sU hu
 have h0:k<w.heap.size:=by omega
 have h1:k≠w.heap.size:=by omega
 have hm:=vO ha hb;have KA:=hid ha;have KB:=hid hb;obtain ⟨b1,b2⟩:=hb;obtain ⟨a1,a2⟩:=ha;have HR:=hid h;clear h hu;go_enter func265,ntmps265;go_wp2_with fail;refine aA [([0,1,2,3,4,5,6],7),([],8)] 99 w.heap.size (by kernel_rfl) (by kernel_rfl) ?_;refine st_ fun K hK=>?_;go_wp2_with fail;refine z_ (aT (I64.mk (by omega) (by omega)) HR _) ?_;go_wp2_with fail;refine k_ hK ?_;clear hK K;refine aI ?_;simp only [aRg]
 show wpQuiet _ _ _ _ [] _
 try simp only [aSj,aQ4,aRc,aRb]
 repeat (go_big_quiet_step (fail))
 refine wpQuiet_nil ⟨_,rfl,fun K hK=>?_⟩;go_wp2_with fail;refine k_ hK ?_;clear hK K;refine aC ?_;go_wp2;go_ret;exact ⟨rfl,S_⟩
theorem aPt (lo hi:Nat) (u:Value) (ha:S9 a) (hb:S9 b) (h:aC3 a b=c) (w:World) (hu:aU lo hi w u [a,b]) (hh:hi<=w.heap.size):R_ 265 #[.int .i64 7,u] w (.int .i64 c):=by
 obtain ⟨k,h3,cap,rfl,h2,d0,d1,_⟩:=sU hu
 have h0:k<w.heap.size:=by omega
 have h1:k≠w.heap.size:=by omega
 have hm:=vO ha hb;have KA:=hid ha;have KB:=hid hb;obtain ⟨b1,b2⟩:=hb;obtain ⟨a1,a2⟩:=ha;have HR:=hid h;clear h hu;go_enter func265,ntmps265;go_wp2_with fail;refine aA [([0,1,2,3,4,5,6],7),([],8)] 99 w.heap.size (by kernel_rfl) (by kernel_rfl) ?_;refine st_ fun K hK=>?_;go_wp2_with fail;refine z_ (yR KA KB HR _) ?_;go_wp2_with fail;refine k_ hK ?_;clear hK K;refine aI ?_;simp only [aRg]
 show wpQuiet _ _ _ _ [] _
 try simp only [aSj,aQ4,aRc,aRb]
 repeat (go_big_quiet_step (fail))
 refine wpQuiet_nil ⟨_,rfl,fun K hK=>?_⟩;go_wp2_with fail;refine k_ hK ?_;clear hK K;refine aC ?_;go_wp2;go_ret;exact ⟨rfl,S_⟩
def aJ0 (op a b:Int):List Int:=if op=3 then [b] else [a,b]
theorem aHc (lo hi:Nat) (u:Value) (ho:nA op) (ha:S9 a) (hb:S9 b) (h:opI op a b=c) (w:World) (hu:aU lo hi w u (aJ0 op a b)) (hh:hi<=w.heap.size) :
  R_ 265 #[op,u] w (.int .i64 c):=by
 obtain ⟨h1,h2⟩:=ho;unfold opI at h
 rcases (show op=3\/op=4\/op=5\/op=6\/op=7 by omega) with rfl|rfl|rfl|rfl|rfl
 ·exact aPp lo hi u hb (by simpa using h) w hu hh
 ·exact aPq lo hi u ha hb (by simpa using h) w hu hh
 ·exact aPr lo hi u ha hb (by simpa using h) w hu hh
 ·exact aPs lo hi u ha hb (by simpa using h) w hu hh
 ·exact aPt lo hi u ha hb (by simpa using h) w hu hh
theorem aC9 (h0:0<=l) (h4:l<=4) (hm:2 ^ l.toNat=m) (w:World) :
  Z_ 139 #[l] w (.int .i64 m):=by
 subst hm;exact iK (t:=⟨l,[]⟩) h0 h4 w
theorem kS {t t2:Tex} {b:Bool} (h:t.mipR l=(t2,b)) (lo hi:Nat) (v:Value) (w:World) (hv:cN lo hi w v t) (hh:hi<=w.heap.size) :
  Calls aQ2 294 #[v,l] w fun e w'=>∃v',e = .returned (.tuple #[v',.bool b])/\eZ w.heap.size w' v' t2/\Ext w w':=by
 have:=yU lo hi v t l w hv hh;rw [h] at this;exact this
def Tex.lookR (t:Tex) (u v l:Int):Int:=if t.okB then (t.mip (aR l 0 t.log).toNat).look u v else 0
theorem aIb {L:Int} (h:0<=L):0<=aR l 0 L/\aR l 0 L<=L:=by
 unfold aR
 split
 ·omega
 ·split <;> omega
theorem aDa {n:Int} (h:aR n (-1000000) 1000000=c) (w:World):Z_ 244 #[n] w (.int .i64 c):=by
 go_enter func244,ntmps244;go_wp2_with fail;refine z_ (cV h _) ?_;go_wp2;go_ret;exact ⟨rfl,rfl⟩
structure LSt (w wr:World) (m:Tex) (A:Nat) (a:Option Addr) (c:Nat):Prop where
 ext:Ext w wr
 box:hZ wr A (.int .i64 m.log) (.slice a m.px.length c)
 tex:cN 0 wr.heap.size wr (.agg #[m.log,.slice a m.px.length c]) m
theorem LSt.to {m:Tex} {a:Option Addr} {c:Nat} (h:LSt w wr m A a c) (e:Ext wr w'):LSt w w' m A a c:=
 ⟨h.ext.trans e,h.box.ext e,(h.tex.ext (aQv _) e).wide (aQv _) e.size⟩
theorem aDb (lo hi:Nat) (v:Value) (t:Tex) (ua va l:Int) (w:World) (hv:cN lo hi w v t) (hh:hi<=w.heap.size) :
  R_ 280 #[v,ua,va,l] w (.int .i64 (t.lookR ua va l)):=by
 obtain ⟨u,rfl,q0⟩:=hv.shape;have HV:=hid hv;clear hv
 by_cases hb:t.okB=true
 ·have ht:=Tex.okB_iff.1 hb
  obtain ⟨c0,c4⟩:=aIb (l:=l) ht.log0
  have e1:t.lookR ua va l=(t.mip (aR l 0 t.log).toNat).look ua va:=by unfold Tex.lookR;rw [if_pos hb]
  rw [e1]
  obtain ⟨c,hc⟩:∃c,aR l 0 t.log=c:=⟨_,rfl⟩
  rw [hc] at c0 c4 ⊢;have hm:=(ht.mip c.toNat (by omega)).1
  have hr:t.mipR c=(t.mip c.toNat,true):=by unfold Tex.mipR;rw [if_pos (by simp only [aRd,aG];exact ⟨hb,c0,c4⟩)]
  obtain ⟨m,h9⟩:∃m,t.mip c.toNat=m:=⟨_,rfl⟩
  rw [h9] at hm hr ⊢;have HR:=hid hr;have HB:=hid hb;have HC:=hid hc;have HM:=hid hm;have M0:=hm.log0;have M4:=hm.log4;have x1:=vB ua hm.n_pos hm.n_le;have x2:=vB va hm.n_pos hm.n_le;have g1:=vC ua m.n;have g2:=vC va m.n;have s1:=oO ua hm.n_pos hm.n_le;have s2:=oO va hm.n_pos hm.n_le;have t1:=aHb ua m.n;have t2:=aHb va m.n;have y1:bI (aBg ua m.n) 256=qI ua m.n:=rfl;have y2:bI (aBg va m.n) 256=qI va m.n:=rfl;unfold aBg at t1 t2 y1 y2;unfold Tex.look
  obtain ⟨n,hn⟩:∃n,m.n=n:=⟨_,rfl⟩
  have HN:=hid (show 2 ^ m.log.toNat=n from hn);rw [hn] at x1 x2 g1 g2 s1 s2 t1 t2 y1 y2 ⊢
  obtain ⟨cu,h7⟩:∃c,aR ua (-1000000) 1000000=c:=⟨_,rfl⟩
  obtain ⟨cv,h8⟩:∃c,aR va (-1000000) 1000000=c:=⟨_,rfl⟩
  have CU:=hid h7;have CV:=hid h8;rw [h7] at s1 t1 y1;rw [h8] at s2 t2 y2
  obtain ⟨qu,q2⟩:∃c,cu*(n:Int)=c:=⟨_,rfl⟩
  obtain ⟨qv,q4⟩:∃c,cv*(n:Int)=c:=⟨_,rfl⟩
  rw [q2] at s1 t1 y1;rw [q4] at s2 t2 y2
  obtain ⟨x,ex⟩:∃x,qI ua n=x:=⟨_,rfl⟩
  obtain ⟨y,ey⟩:∃x,qI va n=x:=⟨_,rfl⟩
  obtain ⟨fx,h5⟩:∃x,sS ua n=x:=⟨_,rfl⟩
  obtain ⟨fy,h6⟩:∃x,sS va n=x:=⟨_,rfl⟩
  rw [ex] at x1 t1 y1;rw [ey] at x2 t2 y2;rw [h5] at g1 t1;rw [h6] at g2 t2;rw [ex,ey,h5,h6];have Y1:=hid y1;have Y2:=hid y2;obtain ⟨r1,r2,r3,r4,p1,p2,p3,p4,p5,p6,K⟩:=aAf hm x y g1 g2;generalize m.look4 x fx y fy=L at K ⊢;have R1:=hid K.e1;have R2:=hid K.e2;have R3:=hid K.e3;have R4:=hid K.e4;have F1:=K.f1;have F2:=K.f2;have F3:=K.f3;have F4:=K.f4;have F5:=K.f5;have F6:=K.f6;have B1:=K.b1;have B2:=K.b2;have B3:=K.b3;have B4:=K.b4;have B5:=K.b5;have B6:=K.b6;have HO:=hid (show bI (p5+p6) 65536=L by unfold bI;rw [if_neg (by omega)];exact K.out);clear K hb ht e1 hc hm hr h9 hn h7 h8 ex ey h5 h6 y1 y2;go_enter func280,ntmps280;go_upto_region 3 with (go_at_call 88;refine r_ (aK HB.out lo hi _ _ (HV.out.ext hh X_) (by simp;omega)) fun w1 h1=>?_;obtain ⟨c1,f1⟩:=h1.cells;have z1:=h1.size;simp only [aQy] at z1;have q1:w.heap.size<w1.heap.size:=(by omega));have E1:Ext w w1:=Ext.trans X_ h1
  go_cut [9,10] from 23 to 31 (fun p _ok wx=>∃A a c,p = .pointer (some ⟨A,0,none⟩)/\LSt w wx m A a c)
  case first=>
   refine cZ 11 w1.heap.size (by kernel_rfl) ?_;refine aZ (fuel:=7) [0,1,2,3] [4,9] (by kernel_rfl) (fun _ _ _=>rfl) ?_;simp only [aRm,aRg,aQ1,aQw,aQx]
   show wpQuiet _ _ _ _ [_,_,_,_] _
   repeat (go_big_quiet_step (fail))
   refine wpQuiet_nil ?_;intro e he;simp only [aRk,aRe,or_false] at he
   rcases he with rfl|rfl
   ·(unfold bU;simp only [aQ1,aQx,aQw,aQ0];refine ⟨_,rfl,fun K hK=>?_⟩)
    go_wp2_with fail;refine z_ (cV HC.out _) ?_;go_wp2_with fail;refine hK _ _ (.inr (fun b _ hb=>Ext.block X_ hb)) ?_;clear hK K;refine aZ (fuel:=6) [] [5,9] (by kernel_rfl) (fun b _ hb=>Ext.block X_ hb) ?_;refine wpQuiet_nil ?_;intro e he;simp only [aRk,aRe,or_false] at he
    rcases he with rfl|rfl
    ·(unfold bU;simp only [aQ1,aQx,aQw,aQ0];refine ⟨_,rfl,fun K hK=>?_⟩)
     go_wp2_with fail;refine (kS HR.out _ _ _ _ (HV.out.ext hh (E1.trans X_)) (by simp;omega)).mono ?_;rintro e w3 ⟨v3,rfl,O3,h3⟩;have h0:Ext w1 w3:=Ext.trans X_ h3;obtain ⟨a3,n3,rfl,_⟩:=O3.form;have z3:=h3.size;simp at z3;go_wp2_with fail;refine k_ hK ?_;clear hK K;refine aZ (fuel:=2) [6,7,8] [9] (by kernel_rfl) (h0.same (aQv _)) ?_
     try simp only [aSj,aQ4,aRc,aRb]
     simp only [aRm,aRg,aQ1,aQw,aQx]
     show wpQuiet _ _ _ _ [_,_,_] _
     repeat (go_big_quiet_step (fail))
     refine wpQuiet_nil ?_;intro e he;simp only [aRk,aRe,or_false] at he;subst he
     (unfold bU;simp only [aQ1,aQx,aQw,aQ0];refine ⟨_,rfl,fun K hK=>?_⟩)
     go_wp2;refine hK _ _ (.inr ((h0.alloc _).same (aQv _))) ?_;clear hK K;refine aZ (fuel:=1) [] [10] (by kernel_rfl) ((h0.alloc _).same (aQv _)) ?_;refine wpQuiet_nil ?_;intro e he;simp only [aRk,aRe,or_false] at he;subst he
     (unfold bU;simp only [aQ1,aQx,aQw,aQ0];refine ⟨_,rfl,fun K hK=>?_⟩)
     go_wp2;refine hK _ _ (.inr ((h0.alloc _).same (aQv _))) ?_;clear hK K;refine aZ (fuel:=0) [] [11] (by kernel_rfl) ((h0.alloc _).same (aQv _)) ?_;refine wpQuiet_nil ?_;intro e he;simp only [aRk,aRe,or_false] at he;subst he
     (unfold bU;simp only [aQ1,aQx,aQw,aQ0];refine ⟨_,rfl,fun K hK=>?_⟩)
     go_wp2;refine l_ hK ?_;clear hK K;refine bX (by kernel_rfl) ?_;go_wp2_with fail
     go_meet
     have e3:Ext w3 (w3.alloc (.cells #[m.log,.slice a3 m.px.length n3] 36)):=X_;exact ⟨_,_,_,rfl,(E1.trans h0).trans e3,hZ.made _ _ _ _,(O3.tex.ext (aQv _) e3).wide (aSi _) e3.size⟩
    ·(unfold bU;simp only [aQ1,aQx,aQw,aQ0];refine ⟨_,rfl,fun K hK=>?_⟩)
     go_wp2;refine hK _ _ (.inr (fun b _ hb=>Ext.block X_ hb)) ?_;clear hK K;refine aZ (fuel:=5) [] [5] (by kernel_rfl) (fun b _ hb=>Ext.block X_ hb) ?_;refine wpQuiet_nil ?_;intro e he;simp only [aRk,aRe,or_false] at he;subst he
     (unfold bU;simp only [aQ1,aQx,aQw,aQ0];refine ⟨_,rfl,fun K hK=>?_⟩)
     go_wp2_with fail;refine (kS HR.out _ _ _ _ (HV.out.ext hh (E1.trans X_)) (by simp;omega)).mono ?_;rintro e w3 ⟨v3,rfl,O3,h3⟩;have h0:Ext w1 w3:=Ext.trans X_ h3;obtain ⟨a3,n3,rfl,_⟩:=O3.form;have z3:=h3.size;simp at z3;go_wp2_with fail;refine k_ hK ?_;clear hK K;obtain ⟨k3,l3⟩:=h3.cells
     have q3:w1.heap.size<w3.heap.size:=by omega
     refine aZ (fuel:=1) [6,7,8] [10] (by kernel_rfl) (h0.same (aQv _)) ?_
     try simp only [aSj,aQ4,aRc,aRb]
     simp only [aRm,aRg,aQ1,aQw,aQx]
     show wpQuiet _ _ _ _ [_,_,_] _
     repeat (go_big_quiet_step (fail))
     refine wpQuiet_nil ?_;intro e he;simp only [aRk,aRe,or_false] at he;subst he
     (unfold bU;simp only [aQ1,aQx,aQw,aQ0];refine ⟨_,rfl,fun K hK=>?_⟩)
     have ES:Ext w1 ((w3.setCell ⟨w1.heap.size,0,none⟩ m.log).setCell ⟨w1.heap.size,1,none⟩ (.slice a3 m.px.length n3)):=(h0.setCell (by simp) _).setCell (by simp) _;go_wp2;refine k_ hK ?_;clear hK K;refine aZ (fuel:=0) [] [11] (by kernel_rfl) (ES.same (aQv _)) ?_;refine wpQuiet_nil ?_;intro e he;simp only [aRk,aRe,or_false] at he;subst he
     (unfold bU;simp only [aQ1,aQx,aQw,aQ0];refine ⟨_,rfl,fun K hK=>?_⟩)
     go_wp2;refine l_ hK ?_;clear hK K;refine bX (by kernel_rfl) ?_;go_wp2_with fail
     go_meet
     refine ⟨_,a3,n3,rfl,E1.trans ES,⟨by simp;omega,by simp [go_sem, *],by simp [go_sem, *]⟩,?_⟩;exact (((O3.setLow (by simp) _).setLow (by simp) _).tex).wide (aSi _) (aQv _)
   ·(unfold bU;simp only [aQ1,aQx,aQw,aQ0];refine ⟨_,rfl,fun K hK=>?_⟩)
    go_wp2;refine hK _ _ (.inr (fun b _ hb=>Ext.block X_ hb)) ?_;clear hK K;refine aZ (fuel:=6) [] [4] (by kernel_rfl) (fun b _ hb=>Ext.block X_ hb) ?_;refine wpQuiet_nil ?_;intro e he;simp only [aRk,aRe,or_false] at he;subst he
    (unfold bU;simp only [aQ1,aQx,aQw,aQ0];refine ⟨_,rfl,fun K hK=>?_⟩)
    go_wp2_with fail;refine z_ (cV HC.out _) ?_;go_wp2_with fail;refine hK _ _ (.inr (fun b _ hb=>Ext.block X_ hb)) ?_;clear hK K;refine aZ (fuel:=5) [] [5] (by kernel_rfl) (fun b _ hb=>Ext.block X_ hb) ?_;refine wpQuiet_nil ?_;intro e he;simp only [aRk,aRe,or_false] at he;subst he
    (unfold bU;simp only [aQ1,aQx,aQw,aQ0];refine ⟨_,rfl,fun K hK=>?_⟩)
    go_wp2_with fail;refine (kS HR.out _ _ _ _ (HV.out.ext hh (E1.trans X_)) (by simp;omega)).mono ?_;rintro e w3 ⟨v3,rfl,O3,h3⟩;have h0:Ext w1 w3:=Ext.trans X_ h3;obtain ⟨a3,n3,rfl,_⟩:=O3.form;have z3:=h3.size;simp at z3;go_wp2_with fail;refine k_ hK ?_;clear hK K;obtain ⟨k3,l3⟩:=h3.cells
    have q3:w1.heap.size<w3.heap.size:=by omega
    refine aZ (fuel:=1) [6,7,8] [10] (by kernel_rfl) (h0.same (aQv _)) ?_
    try simp only [aSj,aQ4,aRc,aRb]
    simp only [aRm,aRg,aQ1,aQw,aQx]
    show wpQuiet _ _ _ _ [_,_,_] _
    repeat (go_big_quiet_step (fail))
    refine wpQuiet_nil ?_;intro e he;simp only [aRk,aRe,or_false] at he;subst he
    (unfold bU;simp only [aQ1,aQx,aQw,aQ0];refine ⟨_,rfl,fun K hK=>?_⟩)
    have ES:Ext w1 ((w3.setCell ⟨w1.heap.size,0,none⟩ m.log).setCell ⟨w1.heap.size,1,none⟩ (.slice a3 m.px.length n3)):=(h0.setCell (by simp) _).setCell (by simp) _;go_wp2;refine k_ hK ?_;clear hK K;refine aZ (fuel:=0) [] [11] (by kernel_rfl) (ES.same (aQv _)) ?_;refine wpQuiet_nil ?_;intro e he;simp only [aRk,aRe,or_false] at he;subst he
    (unfold bU;simp only [aQ1,aQx,aQw,aQ0];refine ⟨_,rfl,fun K hK=>?_⟩)
    go_wp2;refine l_ hK ?_;clear hK K;refine bX (by kernel_rfl) ?_;go_wp2_with fail
    go_meet
    refine ⟨_,a3,n3,rfl,E1.trans ES,⟨by simp;omega,by simp [go_sem, *],by simp [go_sem, *]⟩,?_⟩;exact (((O3.setLow (by simp) _).setLow (by simp) _).tex).wide (aSi _) (aQv _)
  case rest=>
   obtain ⟨A,a,k,rfl,hs⟩:=hcut;have HS:=hid hs;have m0:=hs.box.lt;have m1:=hs.box.c0;have m2:=hs.box.c1;clear hs c1 f1
   go_wp2_with (first
    | (go_at_call 139;refine z_ (aC9 M0 M4 HN.out _) ?_)
    | (go_at_call 244;(with_reducible first|refine (aDa CU.out _).mono ?_|refine (aDa CV.out _).mono ?_);rintro e w2 ⟨rfl,rfl⟩)
    | (go_at_call 155;(with_reducible first|refine (aT (I64.mk (by omega) (by omega)) Y1.out _).mono ?_|refine (aT (I64.mk (by omega) (by omega)) Y2.out _).mono ?_);rintro e w2 ⟨rfl,rfl⟩))
   refine cK (by kernel_rfl) (by kernel_rfl) ?_
   repeat (go_big_quiet_step ((go_at_call 295;with_reducible first
    | exact cE (dU HM.out R1.out 0 _ _ _ (HS.out.tex.ext (aQv _) (bM _ _)) (bM _ _).size)
    | exact cE (dU HM.out R2.out 0 _ _ _ (HS.out.tex.ext (aQv _) (bM _ _)) (bM _ _).size))))
   refine wpQuiet_nil ?_;intro w3 h3;have h2:=hid (HS.out.to h3);clear m0 m1 m2;have m0:=h2.out.box.lt;have m1:=h2.out.box.c0;have m2:=h2.out.box.c1;go_wp2;refine cK (by kernel_rfl) (by kernel_rfl) ?_
   repeat (go_big_quiet_step ((go_at_call 295;with_reducible first
    | exact cE (dU HM.out R3.out 0 _ _ _ (h2.out.tex.ext (aQv _) (bM _ _)) (bM _ _).size)
    | exact cE (dU HM.out R4.out 0 _ _ _ (h2.out.tex.ext (aQv _) (bM _ _)) (bM _ _).size))))
   refine wpQuiet_nil ?_;intro w4 h4;go_wp2_with (go_at_call 155;refine z_ (aT (I64.mk (by omega) (by omega)) HO.out _) ?_);go_ret;exact ⟨rfl,h2.out.ext.trans h4⟩
 ·have e1:t.lookR ua va l=0:=by unfold Tex.lookR;rw [if_neg hb]
  rw [e1];have HB:=hid (aT3.2 hb);clear hb e1;go_enter func280,ntmps280;go_wp2_with fail;refine r_ (aK HB.out lo hi _ _ (HV.out.ext hh X_) (by simp;omega)) fun w1 h1=>?_;go_wp2;go_ret;exact ⟨rfl,Ext.trans X_ h1⟩
theorem aFe (lo hi lo' hi':Nat) (u v:Value) (t:Tex) (w:World) (hu:aU lo hi w u [x,y]) (hh:hi<=w.heap.size) (hv:cN lo' hi' w v t) (hh':hi'<=w.heap.size) (ht:t.Ok) (hr:t.look x y=r) :
  R_ 293 #[v,u] w (.int .i64 r):=by
 obtain ⟨b,h2,cap,rfl,hb,d0,d1,_⟩:=sU hu;obtain ⟨tx,rfl,_⟩:=hv.shape;have HR:=hid hr;have HV:=hid hv;have HT:=hid ht;clear hu hr hv ht
 have h0:b<w.heap.size:=by omega
 have h1:b≠w.heap.size:=by omega
 go_enter func293,ntmps293;go_wp2_with fail;refine aA [([0,1,2,3,4,5,6,7],8),([],9)] 99 (w.heap.size+1) (by kernel_rfl) (by kernel_rfl) ?_;refine st_ fun K hK=>?_;go_wp2_with fail;refine r_ (aE8 lo' hi' _ t x y _ (HV.ext hh' X_) (by simp;omega) HT) fun w1 x1=>?_;rw [HR];have X1:=x1;have X2:Ext w w1:=Ext.trans X_ x1;go_wp2_with fail;refine hK _ _ (.inr (fun k _ hk=>X1.block (by first|omega|(simp;omega)))) ?_;clear hK K;refine aI ?_;simp only [aRg]
 show wpQuiet _ _ _ _ [] _
 try simp only [aSj,aQ4,aRc,aRb]
 repeat (go_big_quiet_step (fail))
 refine wpQuiet_nil ⟨_,rfl,fun K hK=>?_⟩;go_wp2_with fail;refine hK _ _ (.inr (fun k _ hk=>X1.block (by first|omega|(simp;omega)))) ?_;clear hK K;refine aC ?_;go_wp2;go_ret;exact ⟨rfl,S_⟩
theorem aL2 (lo hi:Nat) (u:Value) (g0:Int) (g1:Value) (g2 g3:Int) (g4:Value) (w:World) (hu:aU lo hi w u [x]) (hh:hi<=w.heap.size) (hx:S9 x) (hr:fT x=r) :
  R_ 264 #[.agg #[g0,g1,g2,g3,g4],.string ⟨#[97,98,115]⟩,u] w (.int .i64 r):=by
 obtain ⟨k,h3,cap,rfl,h2,d0,_⟩:=aJz hu
 have h0:k<w.heap.size:=by omega
 have h1:k≠w.heap.size:=by omega
 have HU:=hid hu;have HR:=hid hr;clear hu hr;go_enter func264,ntmps264;go_wp2_with fail;refine z_ (aH9 hx HR _) ?_;go_wp2;go_ret;exact ⟨rfl,S_⟩
theorem aIc (lo hi:Nat) (u:Value) (g0:Int) (g1:Value) (g2 g3:Int) (g4:Value) (w:World) (hu:aU lo hi w u [x]) (hh:hi<=w.heap.size) (hx:S9 x) (hr:vR x=r) :
  R_ 264 #[.agg #[g0,g1,g2,g3,g4],.string ⟨#[102,108,111,111,114]⟩,u] w (.int .i64 r):=by
 obtain ⟨k,h4,cap,rfl,h3,d0,_⟩:=aJz hu
 have h1:k<w.heap.size:=by omega
 have h2:k≠w.heap.size:=by omega
 have HU:=hid hu;have hq:=mH (b:=256) (m:=1000000000) hx (by decide);unfold vR at hr
 obtain ⟨q,h0⟩:∃q,bI x 256=q:=⟨_,rfl⟩
 rw [h0] at hq hr;have HQ:=hid h0;clear h0;have HR:=hid hr;clear hu hr;go_enter func264,ntmps264;go_wp2_with fail;refine z_ (aT hx.i64 HQ _) ?_;go_wp2;rw [HR];go_ret;exact ⟨rfl,S_⟩
theorem aL3 (lo hi:Nat) (u:Value) (g0:Int) (g1:Value) (g2 g3:Int) (g4:Value) (w:World) (hu:aU lo hi w u [x,y]) (hh:hi<=w.heap.size) (hx:S9 x) (hy:S9 y) (hr:aH7 x y=r) :
  R_ 264 #[.agg #[g0,g1,g2,g3,g4],.string ⟨#[109,105,110]⟩,u] w (.int .i64 r):=by
 obtain ⟨k,h3,cap,rfl,h2,d0,d1,_⟩:=sU hu
 have h0:k<w.heap.size:=by omega
 have h1:k≠w.heap.size:=by omega
 have HU:=hid hu;unfold aH7 at hr;have HR:=hid hr;clear hu hr;go_enter func264,ntmps264;go_wp2_with fail;refine aA [([0,1,2,3,4,5],6),([],7)] 99 w.heap.size (by kernel_rfl) (by kernel_rfl) ?_;refine st_ fun K hK=>?_;go_wp2_with fail;refine z_ (aH8 hx.i64 hy.i64 HR _) ?_;go_wp2_with fail;refine k_ hK ?_;clear hK K;refine aI ?_;simp only [aRg]
 show wpQuiet _ _ _ _ [] _
 try simp only [aSj,aQ4,aRc,aRb]
 repeat (go_big_quiet_step (fail))
 refine wpQuiet_nil ⟨_,rfl,fun K hK=>?_⟩;go_wp2_with fail;refine k_ hK ?_;clear hK K;refine aC ?_;go_wp2;go_ret;exact ⟨rfl,S_⟩
theorem aL4 (lo hi:Nat) (u:Value) (g0:Int) (g1:Value) (g2 g3:Int) (g4:Value) (w:World) (hu:aU lo hi w u [x,y]) (hh:hi<=w.heap.size) (hx:S9 x) (hy:S9 y) (hr:aH6 x y=r) :
  R_ 264 #[.agg #[g0,g1,g2,g3,g4],.string ⟨#[109,97,120]⟩,u] w (.int .i64 r):=by
 obtain ⟨k,h3,cap,rfl,h2,d0,d1,_⟩:=sU hu
 have h0:k<w.heap.size:=by omega
 have h1:k≠w.heap.size:=by omega
 have HU:=hid hu;unfold aH6 at hr;have HR:=hid hr;clear hu hr;go_enter func264,ntmps264;go_wp2_with fail;refine aA [([0,1,2,3,4,5],6),([],7)] 99 w.heap.size (by kernel_rfl) (by kernel_rfl) ?_;refine st_ fun K hK=>?_;go_wp2_with fail;refine z_ (oN hx.i64 hy.i64 HR _) ?_;go_wp2_with fail;refine k_ hK ?_;clear hK K;refine aI ?_;simp only [aRg]
 show wpQuiet _ _ _ _ [] _
 try simp only [aSj,aQ4,aRc,aRb]
 repeat (go_big_quiet_step (fail))
 refine wpQuiet_nil ⟨_,rfl,fun K hK=>?_⟩;go_wp2_with fail;refine k_ hK ?_;clear hK K;refine aC ?_;go_wp2;go_ret;exact ⟨rfl,S_⟩
theorem aId (lo hi:Nat) (u:Value) (g0:Int) (g1:Value) (g2 g3:Int) (g4:Value) (w:World) (hu:aU lo hi w u [x,y,z]) (hh:hi<=w.heap.size) (hr:aR x y z=r) :
  R_ 264 #[.agg #[g0,g1,g2,g3,g4],.string ⟨#[99,108,97,109,112]⟩,u] w (.int .i64 r):=by
 obtain ⟨k,h3,cap,rfl,h2,d0,d1,d2⟩:=aLw hu
 have h0:k<w.heap.size:=by omega
 have h1:k≠w.heap.size:=by omega
 have HU:=hid hu;have HR:=hid hr;clear hu hr;go_enter func264,ntmps264;go_wp2_with fail;refine aA [([0,1,2,3,4,5,6,7,8],9),([],10)] 99 w.heap.size (by kernel_rfl) (by kernel_rfl) ?_;refine st_ fun K hK=>?_;go_wp2_with fail;refine z_ (cV HR _) ?_;go_wp2_with fail;refine k_ hK ?_;clear hK K;refine aI ?_;simp only [aRg]
 show wpQuiet _ _ _ _ [] _
 try simp only [aSj,aQ4,aRc,aRb]
 repeat (go_big_quiet_step (fail))
 refine wpQuiet_nil ⟨_,rfl,fun K hK=>?_⟩;go_wp2_with fail;refine k_ hK ?_;clear hK K;refine aC ?_;go_wp2;go_ret;exact ⟨rfl,S_⟩
theorem aL5 (lo hi:Nat) (u:Value) (g0:Int) (g1:Value) (g2 g3:Int) (g4:Value) (w:World) (hu:aU lo hi w u [x,y,z]) (hh:hi<=w.heap.size) (hx:S9 x) (hy:S9 y) (hz:S9 z) (hr:vS x y z=r) :
  R_ 264 #[.agg #[g0,g1,g2,g3,g4],.string ⟨#[109,105,120]⟩,u] w (.int .i64 r):=by
 obtain ⟨k,h8,cap,rfl,h3,d0,d1,d2⟩:=aLw hu
 have h1:k<w.heap.size:=by omega
 have h2:k≠w.heap.size:=by omega
 have HU:=hid hu;have h4:=hx.1;have h5:=hx.2;have h6:=hy.1;have h7:=hy.2;have hm:=aC7 hx hy hz;unfold vS at hr;have hq:=mH (b:=256) hm (by decide)
 obtain ⟨q,h0⟩:∃q,bI ((y - x)*z) 256=q:=⟨_,rfl⟩
 rw [h0] at hq hr;have HQ:=hid h0;clear h0;have HR:=hid hr;clear hu hr;go_enter func264,ntmps264;go_wp2_with fail;refine aA [([0,1,2,3,4,5,6,7,8,9,10,11,12,13],14),([15],16)] 99 w.heap.size (by kernel_rfl) (by kernel_rfl) ?_;refine st_ fun K hK=>?_;go_wp2_with fail;refine z_ (aT (I64.mk (by omega) (by omega)) HQ _) ?_;go_wp2_with fail;refine k_ hK ?_;clear hK K;refine aI ?_;simp only [aRm,aRg,aQ1,aQw,aQx]
 show wpQuiet _ _ _ _ [_] _
 try simp only [aSj,aQ4,aRc,aRb]
 repeat (go_big_quiet_step (fail))
 refine wpQuiet_nil ⟨_,rfl,fun K hK=>?_⟩;go_wp2_with fail;refine k_ hK ?_;clear hK K;refine aC ?_;go_wp2;rw [HR];go_ret;exact ⟨rfl,S_⟩
theorem aJ1 (lo hi:Nat) (u:Value) (g0:Int) (g1:Value) (g2 g3:Int) (g4:Value) (w:World) (hu:aU lo hi w u [x,y]) (hh:hi<=w.heap.size) (hx:S9 x) (hy:S9 y) (hr:aG8 x y=r) :
  R_ 264 #[.agg #[g0,g1,g2,g3,g4],.string ⟨#[115,116,101,112]⟩,u] w (.int .i64 r):=by
 obtain ⟨k,h3,cap,rfl,h2,d0,d1,_⟩:=sU hu
 have h0:k<w.heap.size:=by omega
 have h1:k≠w.heap.size:=by omega
 have HU:=hid hu;unfold aG8 at hr;clear hu
 by_cases h:y≥x
 ·rw [if_pos h] at hr
  subst hr;go_enter func264,ntmps264;go_wp2_with fail;refine aA [([0,1,2,3,4,5],6)] 99 w.heap.size (by kernel_rfl) (by kernel_rfl) ?_;refine st_ fun K hK=>?_;go_wp2_with fail;refine k_ hK ?_;clear hK K;refine aC ?_;go_wp2;go_ret;exact ⟨rfl,S_⟩
 ·rw [if_neg h] at hr
  subst hr;go_enter func264,ntmps264;go_wp2_with fail;refine aA [([0,1,2,3,4,5],6)] 99 w.heap.size (by kernel_rfl) (by kernel_rfl) ?_;refine st_ fun K hK=>?_;go_wp2_with fail;refine k_ hK ?_;clear hK K;refine aC ?_;go_wp2;go_ret;exact ⟨rfl,S_⟩
theorem aDc {t:Tex} (h:t.lookR x y l=r) (lo hi:Nat) (v:Value) (w:World) (hv:cN lo hi w v t) (hh:hi<=w.heap.size) :
  R_ 280 #[v,x,y,l] w (.int .i64 r):=h▸aDb lo hi v t x y l w hv hh
theorem aJ2 (w:World) (o:Obj):(w.alloc o).heap[w.heap.size]?=some o:=by show (w.heap.push o)[w.heap.size]?=_;simp
theorem aFf {t:Tex} (ht:t.okB=true) (x y:Int):t.lookR x y 0=t.look x y:=by
 unfold Tex.lookR;rw [if_pos ht];have h0:=(Tex.okB_iff.1 ht).log0
 have e:aR 0 0 t.log=0:=by
  unfold aR
  split
  ·omega
  ·split <;> omega
 rw [e]
 rfl
theorem aL6 (lo hi lo' hi':Nat) (u:Value) (g0:Int) (g1:Value) (g2 g3:Int) (g4:Value) (t:Tex) (w:World) (hu:aU lo hi w u [x,y]) (hh:hi<=w.heap.size) (hv:cN lo' hi' w (.agg #[g3,g4]) t) (hh':hi'<=w.heap.size) (ht:t.okB=true) (hr:t.look x y=r) :
  R_ 264 #[.agg #[g0,g1,g2,g3,g4],.string ⟨#[116,101,120]⟩,u] w (.int .i64 r):=by
 obtain ⟨b,h2,cap,rfl,hb,d0,d1,_⟩:=sU hu;have HR:=hid ((aFf ht x y).trans hr);have HV:=hid hv;clear hu hr hv ht
 have h0:b<w.heap.size:=by omega
 have h1:b≠w.heap.size:=by omega
 go_enter func264,ntmps264;go_wp2_with fail;refine aA [([0,1,2,3,4,5,6,7],8),([],9)] 99 (w.heap.size+1) (by kernel_rfl) (by kernel_rfl) ?_;refine st_ fun K hK=>?_;go_wp2_with fail;refine r_ (aDc HR lo' hi' _ _ (HV.ext hh' X_) (by simp;omega)) fun w1 x1=>?_;have X1:=x1;have X2:Ext w w1:=Ext.trans X_ x1;go_wp2_with fail;refine hK _ _ (.inr (fun k _ hk=>X1.block (by first|omega|(simp;omega)))) ?_;clear hK K;refine aI ?_;simp only [aRg]
 show wpQuiet _ _ _ _ [] _
 try simp only [aSj,aQ4,aRc,aRb]
 repeat (go_big_quiet_step (fail))
 refine wpQuiet_nil ⟨_,rfl,fun K hK=>?_⟩;go_wp2_with fail;refine hK _ _ (.inr (fun k _ hk=>X1.block (by first|omega|(simp;omega)))) ?_;clear hK K;refine aC ?_;go_wp2;go_ret;exact ⟨rfl,S_⟩
theorem aIe (lo hi:Nat) (u:Value) (g0:Int) (g1:Value) (g2 g3:Int) (g4:Value) (w:World) (hu:aU lo hi w u [x,y]) (hh:hi<=w.heap.size) (hx:S9 x) (hy:S9 y) (hr:mI [x,y]=r) :
  R_ 264 #[.agg #[g0,g1,g2,g3,g4],.string ⟨#[110,111,105,115,101]⟩,u] w (.int .i64 r):=by
 obtain ⟨b,h2,cap,rfl,hb,d0,d1,_⟩:=sU hu;have HR:=hid hr;clear hu hr
 have h0:b<w.heap.size:=by omega
 have h1:b≠w.heap.size:=by omega
 go_enter func264,ntmps264;go_wp2_with fail;refine aA [([0,1,2,3,4,5],6),([],7),([],8)] 99 w.heap.size (by kernel_rfl) (by kernel_rfl) ?_;refine st_ fun K hK=>?_;go_wp2_with fail;refine k_ hK ?_;clear hK K;refine aI ?_;simp only [aRg]
 show wpQuiet _ _ _ _ [] _
 try simp only [aSj,aQ4,aRc,aRb]
 repeat (go_big_quiet_step (fail))
 refine wpQuiet_nil ⟨_,rfl,fun K hK=>?_⟩;go_wp2_with fail
 have O1:∀W:World,aB W.heap.size (W.alloc (.cells #[x,y] 3)) (.slice (some ⟨W.heap.size,0,none⟩) 2 2) [x,y]:=fun W=>
  ⟨⟨rfl,.inr ⟨W.heap.size,2,_,rfl,aQv _,aJ2 W _,by simp,by unfold maxLen;omega,rfl,rfl⟩⟩,fun z hz=>by
   simp only [aRk,aRe,or_false] at hz
   rcases hz with rfl|rfl
   ·exact hx.i64
   ·exact hy.i64⟩
 have O2:=((O1 (w.alloc (Obj.cells #[g0,g1,g2,g3,g4] 168))).ext ((Ext.refl _).drew)).ints;simp only [aQy] at O2;refine z_ (aBd _ _ _ _ _ O2) ?_;rw [HR];go_wp2_with fail;refine k_ hK ?_;clear hK K;refine aI ?_;simp only [aRg]
 show wpQuiet _ _ _ _ [] _
 try simp only [aSj,aQ4,aRc,aRb]
 repeat (go_big_quiet_step (fail))
 refine wpQuiet_nil ⟨_,rfl,fun K hK=>?_⟩;go_wp2_with fail;refine k_ hK ?_;clear hK K;refine aC ?_;go_wp2;go_ret;exact ⟨rfl,S_⟩
theorem aFg (w:World) (mty kt et:TypeId) (r clock:Nat) (es:Array MapEntry) (s:ByteArray) (val:Value) (hm:Tryz.prog.underlying mty=some (.map kt et)) (hk:Tryz.prog.underlying kt=some .string) (hb:w.heap[r]?=some (.map es clock)) (hf:aTl .string (.string s) es.toList 0=some none) :
  (Instr.mapUpdate mty (.map (some r)) (.string s) val).run aQ2 w = .ok () { w with heap:=w.heap.setIfInBounds r (.map (es.push { key:=.string s,val:=val,born:=clock }) (clock+1)) }:=by
 have hc:(Instr.checkKey false 10000 kt (.string s)).run aQ2 w = .ok () w:=aZw (k:=.string s) hk (by simp [MapKept.IsKey]) false 9999;simp [Instr.mapUpdate,run_underlying hm,aY4 hb,hc,aZ2 hk hf,MapKept.run_setObj_map _ hb,Result.andThen]
theorem aFh (w:World) {o:Oper} {a:Act} (hg:o.guard=none) (m x v:Operand) (hop:o.op=Op.insert 310 m x v) (hd:o.dst=none)
  (b clock:Nat) (es:Array MapEntry) (hm:a.eval m = .map (some b)) (hb:w.heap[b]?=some (.map es clock)) (s:ByteArray) (hx:a.eval x = .string s) (val:Value) (hv:a.eval v=val) (hf:aTl .string (.string s) es.toList 0=some none)
  (hK:∀w',w'.heap[b]?=some (.map (es.push { key:=.string s,val:=val,born:=clock }) (clock+1))->w.grownBy w' (some b)->wpList aQ2 ops Q rest a w'):wpList aQ2 ops Q (o::rest) a w:=by
 refine wpList_plain hg fun K' hK'=>?_;have h0:=aFg w 310 9 _ b clock es s val underlying310 underlying9 hb hf;have h1:=(MapKept.heap_set (o':=.map (es.push { key:=.string s,val:=val,born:=clock }) (clock+1)) hb).1;have h2:=(MapKept.heap_set (o':=.map (es.push { key:=.string s,val:=val,born:=clock }) (clock+1)) hb).2;unfold Oper.wp;simp [execOp,hop,hm,hx,hv,h0,Result.andThen];refine hK' _ _ ?_;rw [hd];exact hK _ h1 ⟨rfl,rfl,rfl,by simp,fun i _ hi=>h2 i (fun e=>hi (by rw [e]))⟩
def dK:Array MapEntry:=#[{ key:=.string ⟨#[97,98,115]⟩,val:=.func (.func 285) #[] #[],born:=0 },{ key:=.string ⟨#[102,108,111,111,114]⟩,val:=.func (.func 286) #[] #[],born:=1 },{ key:=.string ⟨#[109,105,110]⟩,val:=.func (.func 287) #[] #[],born:=2 },{ key:=.string ⟨#[109,97,120]⟩,val:=.func (.func 288) #[] #[],born:=3 },{ key:=.string ⟨#[115,116,101,112]⟩,val:=.func (.func 289) #[] #[],born:=4 },{ key:=.string ⟨#[110,111,105,115,101]⟩,val:=.func (.func 290) #[] #[],born:=5 },{ key:=.string ⟨#[99,108,97,109,112]⟩,val:=.func (.func 291) #[] #[],born:=6 },{ key:=.string ⟨#[109,105,120]⟩,val:=.func (.func 292) #[] #[],born:=7 },{ key:=.string ⟨#[116,101,120]⟩,val:=.func (.func 293) #[] #[],born:=8 }]
theorem pT (w:World):Calls aQ2 275 #[] w fun e w'=>∃b,e = .returned (.map (some b))/\w.heap.size<=b/\b<w'.heap.size/\w'.heap[b]?=some (.map dK 9)/\Ext w w':=by
 go_enter func275,ntmps275;have h2:=run_makeMap (P:=aQ2) 310 w;have h0:(w.alloc (.map #[] 0)).heap[w.heap.size]?=some (.map #[] 0):=aJ2 _ _;have X:Ext w (w.alloc (.map #[] 0)):=X_
 have hs:w.heap.size<(w.alloc (.map #[] 0)).heap.size:=by simp
 go_wp2_with (refine aFh _ rfl _ _ _ rfl rfl w.heap.size _ _ rfl (by assumption) _ rfl _ rfl rfl ?_;clear h0;intro w1 h0 h1;replace X:=Ext.grown X h1 (fun k hk=>by simp at hk;omega);replace hs:=aSf hs h1.size;clear h1);go_ret;exact ⟨_,rfl,aQv _,hs,h0.trans rfl,X⟩
theorem aBk (m k:Nat) (c:Int) (h:k<m):(cF (aRj m c) k).set k c=cF (aRj m c) (k+1):=by
 have:=fH (aRj m c) k (by simpa using h)
 simpa using this
theorem pU (c:Int) (n m:Nat) (g1:Value) (g2 g3:Int) (g4:Value) (w:World) (hm:(n:Int)*n=m) (hn:m<=1000000) (hc:I64 c) :
  Calls aQ2 171 #[c,.agg #[n,g1,g2,g3,g4]] w fun e w'=>∃v,e = .returned v/\aB w.heap.size w' v (aRj m c)/\Ext w w':=by
 obtain ⟨i0,h3,h6,h7,h8⟩:=info_parts eK;go_enter func171,ntmps171;go_wp2_with (at_make;refine wpList_make_full _ rfl _ _ 24 rfl (w.heap.size+1) 3 i0 (.int .i64 0) 1 underlying24 h3 h6 h7 _ _ _ _ m rfl rfl rfl rfl (by rw [h8];omega) (by unfold maxLen;omega) (by simp) ?_);intro w1 h0 h1
 have e0:(aRj m (0:Int))=cF (aRj m c) 0:=by rw [iJ];simp
 try simp only [Value.cells,aUv,World.size_drew,aQy] at h0
 rw [fR,e0] at h0;have hx:Ext w w1:=Ext.grown X_ h1 (fun k h=>by cases h);clear h1 h3 h6 h7 h8 e0;go_wp2
 go_loopw [15] (fun i wr=>∃k:Nat,k<=m/\i = .int .i64 k/\Ext w wr/\wr.ownsRow (w.heap.size+1) 3 1 (.slice (some ⟨w.heap.size+1,0,none⟩) m m) m ((cF (aRj m c) k).map (aT8 .i64)))
  (fun i _=>m - (intOf i).toNat)
 case atStart=>exact ⟨0,by omega,rfl,hx,h0⟩
 case round=>
  clear h0 hx;obtain ⟨k,hk,rfl,hx,h0⟩:=hrel
  by_cases h4:k<m
  ·have hs:=h0.cellAt k (by omega)
   have hf:=h0.frozenAt k;have h2:=(h0.stored k (.int .i64 c)).1;have h5:=hx.setCell (p:=⟨w.heap.size+1,k,none⟩) (Nat.le_succ _) (.int .i64 c)
   obtain ⟨z,hz⟩:∃z,wr.cell? ⟨w.heap.size+1,k,none⟩=some (.int .i64 z):=by
    rw [hs]
    have hl:k<(cF (aRj m c) k).length:=by rw [dZ _ _ (by simpa using hk)];simpa using h4
    exact ⟨(cF (aRj m c) k)[k],by simp⟩
   rw [<-aWy,aBk _ _ _ h4] at h2;have H1:=hid h2;have H2:=hid h5;clear h2 h5 hs h0 hx;go_wp2;go_roundw
   case rel=>exact ⟨k+1,by omega,by go_num,H2,H1⟩
   case measure=>simp [intOf];omega
  ·go_wp2
   go_ret
   obtain rfl:k=m:=by omega
   have ha:=jB (aRj k c);rw [List.length_replicate] at ha;rw [ha] at h0
   have ho:aB (w.heap.size+1) wr (.slice (some ⟨w.heap.size+1,0,none⟩) k k) (aRj k c):=⟨by simpa using h0,fun x hx=>by rw [List.eq_of_mem_replicate hx];exact hc⟩
   exact ⟨_,rfl,ho.low (Nat.le_succ _),hx⟩
theorem aB.lit0 (w:World):aB w.heap.size (w.alloc (.cells #[] 3)) (.slice (some ⟨w.heap.size,0,none⟩) 0 0) []:=
 ⟨⟨rfl,.inr ⟨w.heap.size,0,_,rfl,aQv _,aJ2 w _,by simp,by unfold maxLen;omega,rfl,rfl⟩⟩,fun _ h=>by cases h⟩
def col (n:Int):Int:=aR n 0 256
theorem aJ3 (n:Int):0<=col n/\col n<=256:=by
 unfold col aR
 split
 ·omega
 ·split <;> omega
theorem pV (f:Int->Int) (xs:List Int) (k:Nat) (h:k<xs.length):(xs.take k).map f++[f xs[k]]=(xs.take (k+1)).map f:=by
 rw [aRv h,List.map_append]
 rfl
theorem mJ (lo hi:Nat) (u:Value) (xs:List Int) (w:World) (hu:aU lo hi w u xs) (hh:hi<=w.heap.size) (hl:xs.length<=1000000) :
  Calls aQ2 170 #[u] w fun e w'=>∃v,e = .returned v/\aB w.heap.size w' v (xs.map col)/\Ext w w':=by
 obtain ⟨a,cap,rfl,HU⟩:=hu.open;have l1:=HU.le;have l2:=HU.cap;clear hu;go_enter func170,ntmps170;go_wp2
 go_loopw [3,9] (fun v i wr=>∃k:Nat,k<=xs.length/\i = .int .i64 k/\aB w.heap.size wr v ((xs.take k).map col)/\Ext w wr) (fun _ i _=>xs.length - (intOf i).toNat)
 case atStart=>exact ⟨0,by omega,rfl,aB.lit0 w,X_⟩
 case round=>
  obtain ⟨k,hk,rfl,h0,hx⟩:=hrel;obtain ⟨av,cv,rfl,q0⟩:=h0.form
  have h1:((xs.take k).map col).length=k:=by simp;omega
  rw [h1] at h0 ⊢
  by_cases h4:k<xs.length
  ·obtain ⟨b,q1,rfl,h7,h8,hc⟩:=HU.at h4
   rw [<-hx.cells.1 b _ (by omega)] at hc;have h2:=pV col xs k h4
   obtain ⟨x,h5⟩:∃x,xs[k]=x:=⟨_,rfl⟩
   rw [h5] at hc h2;have h6:=aJ3 x
   obtain ⟨c,h3⟩:∃c,col x=c:=⟨_,rfl⟩
   rw [h3] at h6 h2;have HC:=hid (show aR x 0 256=c from h3);have HO:=hid h0;have HX:=hid hx;have HS:=hid h2;have HL:=hid h1;have zs:=hx.size
   have h9:b<wr.heap.size:=by omega
   clear h0 hx h2 h1 h5 h3;go_wp2_with fail;refine z_ (dY HC _) ?_;go_wp2_with (at_builtin;refine aV _ rfl _ _ rfl w.heap.size _ _ rfl (HO.alloc _) c ⟨by omega,by omega⟩ wr.heap.size rfl (by simp [go_sem]) (by rw [HL];omega) (by simp;omega) ?_;intro v' w7 h0 hg);rw [HS] at h0;go_wp2;go_roundw
   case rel=>exact ⟨k+1,by omega,by go_num,h0,Ext.grown (HX.alloc _) hg (fun g e=>(HO.lt g e).1)⟩
   case measure=>simp [intOf];omega
  ·obtain rfl:k=xs.length:=by omega
   rw [aR2] at h0;go_wp2;go_ret;exact ⟨_,rfl,h0,hx⟩
theorem mK (lo hi:Nat) (u:Value) (xs:List Int) (w:World) (hu:aU lo hi w u xs) (hh:hi<=w.heap.size) (hl:xs.length<=1000000) :
  Calls aQ2 195 #[u] w fun e w'=>∃v,e = .returned v/\aB w.heap.size w' v (xs.map col)/\Ext w w':=by
 obtain ⟨a,cap,rfl,HU⟩:=hu.open;have l1:=HU.le;have l2:=HU.cap;clear hu;go_enter func195,ntmps195;go_wp2
 go_loopw [3,9] (fun v i wr=>∃k:Nat,k<=xs.length/\i = .int .i64 k/\aB w.heap.size wr v ((xs.take k).map col)/\Ext w wr) (fun _ i _=>xs.length - (intOf i).toNat)
 case atStart=>exact ⟨0,by omega,rfl,aB.lit0 w,X_⟩
 case round=>
  obtain ⟨k,hk,rfl,h0,hx⟩:=hrel;obtain ⟨av,cv,rfl,q0⟩:=h0.form
  have h1:((xs.take k).map col).length=k:=by simp;omega
  rw [h1] at h0 ⊢
  by_cases h4:k<xs.length
  ·obtain ⟨b,q1,rfl,h7,h8,hc⟩:=HU.at h4
   rw [<-hx.cells.1 b _ (by omega)] at hc;have h2:=pV col xs k h4
   obtain ⟨x,h5⟩:∃x,xs[k]=x:=⟨_,rfl⟩
   rw [h5] at hc h2;have h6:=aJ3 x
   obtain ⟨c,h3⟩:∃c,col x=c:=⟨_,rfl⟩
   rw [h3] at h6 h2;have HC:=hid (show aR x 0 256=c from h3);have HO:=hid h0;have HX:=hid hx;have HS:=hid h2;have HL:=hid h1;have zs:=hx.size
   have h9:b<wr.heap.size:=by omega
   clear h0 hx h2 h1 h5 h3;go_wp2_with fail;refine z_ (cV HC _) ?_;go_wp2_with (at_builtin;refine aV _ rfl _ _ rfl w.heap.size _ _ rfl (HO.alloc _) c ⟨by omega,by omega⟩ wr.heap.size rfl (by simp [go_sem]) (by rw [HL];omega) (by simp;omega) ?_;intro v' w7 h0 hg);rw [HS] at h0;go_wp2;go_roundw
   case rel=>exact ⟨k+1,by omega,by go_num,h0,Ext.grown (HX.alloc _) hg (fun g e=>(HO.lt g e).1)⟩
   case measure=>simp [intOf];omega
  ·obtain rfl:k=xs.length:=by omega
   rw [aR2] at h0;go_wp2;go_ret;exact ⟨_,rfl,h0,hx⟩
theorem pX (lo hi lo' hi':Nat) (u v:Value) (op:Int) (xs ys:List Int) (w:World) (ho:nA op) (hu:aU lo hi w u xs) (hh:hi<=w.heap.size) (hv:aU lo' hi' w v ys) (hh':hi'<=w.heap.size)
  (hl:xs.length=ys.length) (hm:ys.length<=1000000) (hx9:∀x∈xs,S9 x) (hy9:∀y∈ys,S9 y) :
  Calls aQ2 272 #[op,u,v] w fun e w'=>∃r,e = .returned r/\aB w.heap.size w' r (aTq (eU op) xs ys)/\Ext w w':=by
 obtain ⟨i0,q4,q7,q8,x0⟩:=info_parts eK;obtain ⟨a,cap,rfl,HU⟩:=hu.open;obtain ⟨a',x4,rfl,HV⟩:=hv.open;clear hu hv
 obtain ⟨zs,q0⟩:∃zs,aTq (eU op) xs ys=zs:=⟨_,rfl⟩
 have h9:zs.length=ys.length:=by rw [<-q0,List.length_zipWith];omega
 have hz:∀k (h1:k<xs.length) (h2:k<ys.length) (h3:k<zs.length),eU op xs[k] ys[k]=zs[k]:=fun k h1 h2 h3=>by subst q0;simp
 have x3:=hid (fun z (h:z∈zs)=>(by
  obtain ⟨k,hk,rfl⟩:=aRw h;rw [<-hz k (by omega) (by omega) hk]
  exact (fD _).i64:I64 z))
 rw [q0];clear q0;go_enter func272,ntmps272;go_wp2_with (at_make;refine wpList_make_full _ rfl _ _ 24 rfl w.heap.size 3 i0 (.int .i64 0) 1 underlying24 q4 q7 q8 _ _ _ _ ys.length rfl rfl rfl rfl (by rw [x0];omega) (by unfold maxLen;omega) (aQv _) ?_);intro w1 h0 h4;rw [fR,<-h9,<-iJ,h9] at h0;have hx:Ext w w1:=(Ext.refl w).grown h4 (fun k h=>by cases h);have h7:w.heap.size<w1.heap.size:=(h0.lt _ rfl).2;clear h4 q4 q7 q8 x0;go_wp2
 go_loopw [14] (fun i wr=>∃k:Nat,k<=ys.length/\i = .int .i64 k/\Ext w wr/\w.heap.size<wr.heap.size/\wr.ownsRow w.heap.size 3 1 (.slice (some ⟨w.heap.size,0,none⟩) ys.length ys.length) ys.length ((cF zs k).map (aT8 .i64)))
  (fun i _=>ys.length - (intOf i).toNat)
 case atStart=>exact ⟨0,by omega,rfl,hx,h7,h0⟩
 case round=>
  clear h0 hx h7;obtain ⟨k,hk,rfl,hx,h7,h0⟩:=hrel
  by_cases q1:k<ys.length
  ·obtain ⟨b,z5,rfl,x9,z1,hc⟩:=HU.at (k:=k) (by omega)
   obtain ⟨b',x8,rfl,x5,x6,q3⟩:=HV.at q1;rw [<-hx.cells.1 b _ (by omega)] at hc;rw [<-hx.cells.1 b' _ (by omega)] at q3;have hs:=h0.cellAt k (by omega);have hf:=h0.frozenAt k;have q9:=hx9 _ (aRh (show k<xs.length by omega));have x2:=hy9 _ (aRh q1);have h6:=hz k (by omega) q1 (by omega);have h8:=(h0.stored k (.int .i64 (zs[k]'(by omega)))).1;have q2:=hx.setCell (p:=⟨w.heap.size,k,none⟩) (aQv _) (.int .i64 (zs[k]'(by omega)))
   obtain ⟨z0,z4⟩:∃z,wr.cell? ⟨w.heap.size,k,none⟩=some (.int .i64 z):=by
    rw [hs]
    have z3:k<(cF zs k).length:=by rw [dZ _ _ (by omega)];omega
    exact ⟨(cF zs k)[k],by simp⟩
   rw [<-aWy,fH _ _ (by omega)] at h8
   obtain ⟨x,q5⟩:∃x,xs[k]'(by omega)=x:=⟨_,rfl⟩
   obtain ⟨y,q6⟩:∃x,ys[k]=x:=⟨_,rfl⟩
   obtain ⟨z,x1⟩:∃x,zs[k]'(by omega)=x:=⟨_,rfl⟩
   rw [q5] at hc q9 h6;rw [q6] at q3 x2 h6;rw [x1] at h6 h8 q2;have H1:=hid h8;have H2:=hid q2;have HZ:=hid h6;have zr:=hx.size
   have z2:b<wr.heap.size:=by omega
   have x7:b'<wr.heap.size:=by omega
   clear h8 q2 hs h0 hx q5 q6 x1 h6 hz;go_wp2_with fail;refine aA [([0,1,2,3,4,5,6,7,8,9,10],11),([12],13)] 13 wr.heap.size (by kernel_rfl) (by kernel_rfl) ?_;refine st_ fun K hK=>?_;go_wp2_with fail;refine z_ (aFd ho q9 x2 HZ _) ?_;go_wp2_with fail;refine k_ hK ?_;clear hK K;refine aI ?_;simp only [aRm,aRg,aQ1,aQw,aQx]
   show wpQuiet _ _ _ _ [_] _
   try simp only [aSj,aQ4,aRc,aRb]
   repeat (go_big_quiet_step (fail))
   refine wpQuiet_nil ⟨_,rfl,fun K hK=>?_⟩;go_wp2_with fail;refine hK _ _ (.inl (by trivial)) (aC ?_);clear hK K;go_wp2;go_roundw
   case rel=>exact ⟨k+1,by omega,by go_num,H2.drew,by simpa using h7,H1.drew⟩
   case measure=>simp [intOf];omega
  ·go_wp2
   go_ret
   obtain rfl:k=ys.length:=by omega
   have h5:aB w.heap.size wr (.slice (some ⟨w.heap.size,0,none⟩) ys.length ys.length) zs:=⟨by rw [<-h9,jB] at h0;rw [<-h9];exact h0,x3⟩
   exact ⟨_,rfl,h5,hx⟩
def dAt (n k:Nat) (rows:Bool):Nat:=if rows then k / n else k % n
def nO (n:Nat) (rows:Bool):Nat:=if rows then n else 1
def rH (xs:List Int) (n:Nat) (rows:Bool) (k:Nat):Int:=
 if n=1 then 0 else if dAt n k rows<n - 1 then dS (xs.getD (k+nO n rows) 0 - xs.getD k 0) else dS (xs.getD k 0 - xs.getD (k - nO n rows) 0)
def iL (xs:List Int) (n:Nat) (rows:Bool):List Int:=(aRl (n*n)).map (rH xs n rows)
theorem aOv {n:Nat} (h1:1<=n) (h8:n<=8) (hk:k<n*n) (rows:Bool) (h:n≠1) :
  (dAt n k rows<n - 1->k+nO n rows<n*n)/\(¬dAt n k rows<n - 1->nO n rows<=k):=by
 unfold dAt nO
 rcases (show n=2\/n=3\/n=4\/n=5\/n=6\/n=7\/n=8 by omega) with rfl|rfl|rfl|rfl|rfl|rfl|rfl <;> cases rows <;> simp <;> omega
theorem gR (xs:List Int) (n:Nat) (rows:Bool):(iL xs n rows).length=n*n:=by simp [iL]
theorem nP (xs:List Int) (n:Nat) (rows:Bool) (k:Nat) (h:k<(iL xs n rows).length):(iL xs n rows)[k]=rH xs n rows k:=by simp [iL]
theorem rI (xs:List Int) (n:Nat) (rows:Bool) (k:Nat):S9 (rH xs n rows k):=by
 unfold rH
 split
 ·exact ⟨by decide,by decide⟩
 ·split <;> exact fD _
theorem cP (xs:List Int) (k:Nat) (h:k<xs.length):xs.getD k 0=xs[k]:=by simp [List.getD,h]
theorem yV (lo hi:Nat) (u:Value) (xs:List Int) (n:Nat) (w:World) (hu:aU lo hi w u xs) (hh:hi<=w.heap.size) (hl:xs.length=n*n) (h1:1<=n) (h8:n<=8) (hx9:∀x∈xs,S9 x) :
  Calls aQ2 274 #[u,n,.bool false] w fun e w'=>∃r,e = .returned r/\aB w.heap.size w' r (iL xs n false)/\Ext w w':=by
 obtain ⟨i0,x6,z1,z2,z3⟩:=info_parts eK;obtain ⟨a,cap,rfl,HU⟩:=hu.open;clear hu;have hm:n*n<=8*8:=aRy h8 h8
 obtain ⟨zs,x1⟩:∃zs,iL xs n false=zs:=⟨_,rfl⟩
 have q7:zs.length=n*n:=by rw [<-x1,gR]
 have hz:∀k (h3:k<zs.length),zs[k]=rH xs n false k:=fun k h3=>by subst x1;exact nP _ _ _ _ h3
 have x5:=fun k (hk:k<n*n)=>aOv h1 h8 hk false
 have z4:=hid (fun z (h:z∈zs)=>(by
  obtain ⟨k,hk,rfl⟩:=aRw h;rw [hz k hk]
  exact (rI _ _ _ _).i64:I64 z))
 rw [x1];clear x1
 obtain ⟨m,x8⟩:∃m,n*n=m:=⟨_,rfl⟩
 rw [x8] at hl hm q7 x5;clear x8;rw [hl];go_enter func274,ntmps274;go_wp2_with (at_make;refine wpList_make_full _ rfl _ _ 24 rfl w.heap.size 3 i0 (.int .i64 0) 1 underlying24 x6 z1 z2 _ _ _ _ m rfl rfl rfl rfl (by rw [z3];omega) (by unfold maxLen;omega) (aQv _) ?_);intro w1 h2 h6;rw [fR,<-q7,<-iJ,q7] at h2;have hx:Ext w w1:=(Ext.refl w).grown h6 (fun k h=>by cases h);have h7:w.heap.size<w1.heap.size:=(h2.lt _ rfl).2;clear h6 x6 z1 z2 z3;go_wp2
 go_loopw [16] (fun i wr=>∃k:Nat,k<=m/\i = .int .i64 k/\Ext w wr/\w.heap.size<wr.heap.size/\wr.ownsRow w.heap.size 3 1 (.slice (some ⟨w.heap.size,0,none⟩) m m) m ((cF zs k).map (aT8 .i64)))
  (fun i _=>m - (intOf i).toNat)
 case atStart=>exact ⟨0,by omega,rfl,hx,h7,h2⟩
 case round=>
  clear h2 hx h7;obtain ⟨k,hk,rfl,hx,h7,h2⟩:=hrel
  by_cases z9:k<m
  ·have hs:=h2.cellAt k (by omega)
   have hf:=h2.frozenAt k;have h4:=hz k (by omega);have x0:=(h2.stored k (.int .i64 (zs[k]'(by omega)))).1;have x2:=hx.setCell (p:=⟨w.heap.size,k,none⟩) (aQv _) (.int .i64 (zs[k]'(by omega)))
   obtain ⟨z0,y4⟩:∃z,wr.cell? ⟨w.heap.size,k,none⟩=some (.int .i64 z):=by
    rw [hs]
    have x7:k<(cF zs k).length:=by rw [dZ _ _ (by omega)];omega
    exact ⟨(cF zs k)[k],by simp⟩
   rw [<-aWy,fH _ _ (by omega)] at x0
   obtain ⟨z,x3⟩:∃x,zs[k]'(by omega)=x:=⟨_,rfl⟩
   rw [x3] at h4 x0 x2;have zr:=hx.size;have hb:=x5 k z9
   have h5:z=0->(cF zs k)=cF zs (k+1):=fun h0=>by
    have x7:k<(cF zs k).length:=by rw [dZ _ _ (by omega)];omega
    rw [<-fH _ _ (by omega),x3,h0];apply aU6;intro j
    by_cases hj:j=k
    ·subst hj
     rw [aY3 x7];unfold cF;rw [aR0 (by simp;omega),aT0];rw [if_pos (by simp;omega)]
    ·rw [aZt (Ne.symm hj)]
   clear hs hz x3
   have ht:(k:Int).tmod n=((k % n:Nat):Int):=by rw [aTj (by omega)];simp
   have y2:(k:Int).tdiv n=((k / n:Nat):Int):=by rw [aTb (by omega)];simp
   have y0:k % n<n:=aTp _ h1;have y1:k / n<=k:=Nat.div_le_self _ _;have H1:=hid x0;have H2:=hid x2;clear x0 x2
   by_cases hn:n=1
   ·subst hn
    have h0:z=0:=by rw [h4];rfl
    rw [h5 h0] at h2;clear h5 h0 h4 hb;have HO:=hid h2;have HX:=hid hx;clear h2 hx;go_wp2;go_roundw
    case rel=>exact ⟨k+1,by omega,by go_num,HX,h7,HO⟩
    case measure=>simp [intOf];omega
   ·have hb:=hb hn
    unfold rH dAt nO at h4;unfold dAt nO at hb;simp only [if_neg hn,aTs,if_false,if_true] at h4 hb;clear h5
    obtain ⟨q,hq⟩:∃q,k % n=q:=⟨_,rfl⟩
    obtain ⟨q',x9⟩:∃q,k / n=q:=⟨_,rfl⟩
    rw [hq] at h4 hb;rw [hq] at ht y0;rw [x9] at y2 y1;clear hq x9
    by_cases ha:q<n - 1
    ·rw [if_pos ha] at h4
     have z7:=hb.1 ha;clear hb h2;obtain ⟨b,y3,rfl,z5,z6,hc⟩:=HU.at (k:=k) (by omega);obtain ⟨b',x4,e',_,_,h9⟩:=HU.at (k:=k+1) (by omega);simp only [aQ0,aR1,and_true] at e';obtain ⟨rfl,rfl⟩:=e';rw [<-hx.cells.1 b _ (by omega)] at hc h9;have g1:=cP xs k (by omega);have g2:=cP xs (k+1) (by omega);rw [g1,g2] at h4;have q9:=hx9 _ (aRh (show k<xs.length by omega));have q8:=hx9 _ (aRh (show k+1<xs.length by omega))
     obtain ⟨x,q5⟩:∃x,xs[k]'(by omega)=x:=⟨_,rfl⟩
     obtain ⟨y,q6⟩:∃x,xs[k+1]'(by omega)=x:=⟨_,rfl⟩
     rw [q5] at hc q9 h4;rw [q6] at h9 q8 h4;have HZ:=hid h4.symm;obtain ⟨q1,q2⟩:=q9;obtain ⟨q3,q4⟩:=q8
     have z8:b<wr.heap.size:=by omega
     clear q5 q6 h4 g1 g2 hx;go_wp2_with fail;refine aA [([0,1,2,3,4,5,6,7,8,9,10,11,12],13),([14],15)] 15 wr.heap.size (by kernel_rfl) (by kernel_rfl) ?_;refine st_ fun K hK=>?_;go_wp2_with fail;refine z_ (cO HZ _) ?_;go_wp2_with fail;refine k_ hK ?_;clear hK K;refine aI ?_;simp only [aRm,aRg,aQ1,aQw,aQx]
     show wpQuiet _ _ _ _ [_] _
     try simp only [aSj,aQ4,aRc,aRb]
     repeat (go_big_quiet_step (fail))
     refine wpQuiet_nil ⟨_,rfl,fun K hK=>?_⟩;go_wp2_with fail;refine hK _ _ (.inl (by trivial)) (aC ?_);clear hK K;go_wp2;go_roundw
     case rel=>exact ⟨k+1,by omega,by go_num,H2.drew,by simpa using h7,H1.drew⟩
     case measure=>simp [intOf];omega
    ·rw [if_neg ha] at h4
     have z7:=hb.2 ha;clear hb h2;obtain ⟨b,y3,rfl,z5,z6,hc⟩:=HU.at (k:=k) (by omega);obtain ⟨b',x4,e',_,_,h9⟩:=HU.at (k:=k - 1) (by omega);simp only [aQ0,aR1,and_true] at e';obtain ⟨rfl,rfl⟩:=e';rw [<-hx.cells.1 b _ (by omega)] at hc h9;have g1:=cP xs k (by omega);have g2:=cP xs (k - 1) (by omega);rw [g1,g2] at h4;have q9:=hx9 _ (aRh (show k<xs.length by omega));have q8:=hx9 _ (aRh (show k - 1<xs.length by omega))
     obtain ⟨x,q5⟩:∃x,xs[k]'(by omega)=x:=⟨_,rfl⟩
     obtain ⟨y,q6⟩:∃x,xs[k - 1]'(by omega)=x:=⟨_,rfl⟩
     rw [q5] at hc q9 h4;rw [q6] at h9 q8 h4;have HZ:=hid h4.symm;obtain ⟨q1,q2⟩:=q9;obtain ⟨q3,q4⟩:=q8
     have z8:b<wr.heap.size:=by omega
     clear q5 q6 h4 g1 g2 hx;go_wp2_with fail;refine aA [([0,1,2,3,4,5,6,7,8,9,10,11,12],13),([14],15)] 15 wr.heap.size (by kernel_rfl) (by kernel_rfl) ?_;refine st_ fun K hK=>?_;go_wp2_with fail;refine z_ (cO HZ _) ?_;go_wp2_with fail;refine k_ hK ?_;clear hK K;refine aI ?_;simp only [aRm,aRg,aQ1,aQw,aQx]
     show wpQuiet _ _ _ _ [_] _
     try simp only [aSj,aQ4,aRc,aRb]
     repeat (go_big_quiet_step (fail))
     refine wpQuiet_nil ⟨_,rfl,fun K hK=>?_⟩;go_wp2_with fail;refine hK _ _ (.inl (by trivial)) (aC ?_);clear hK K;go_wp2;go_roundw
     case rel=>exact ⟨k+1,by omega,by go_num,H2.drew,by simpa using h7,H1.drew⟩
     case measure=>simp [intOf];omega
  ·go_wp2
   go_ret
   obtain rfl:k=m:=by omega
   have q0:aB w.heap.size wr (.slice (some ⟨w.heap.size,0,none⟩) k k) zs:=⟨by rw [<-q7,jB] at h2;rw [<-q7];exact h2,z4⟩
   exact ⟨_,rfl,q0,hx⟩
theorem yW (lo hi:Nat) (u:Value) (xs:List Int) (n:Nat) (w:World) (hu:aU lo hi w u xs) (hh:hi<=w.heap.size) (hl:xs.length=n*n) (h1:1<=n) (h8:n<=8) (hx9:∀x∈xs,S9 x) :
  Calls aQ2 274 #[u,n,.bool true] w fun e w'=>∃r,e = .returned r/\aB w.heap.size w' r (iL xs n true)/\Ext w w':=by
 obtain ⟨i0,x6,z1,z2,z3⟩:=info_parts eK;obtain ⟨a,cap,rfl,HU⟩:=hu.open;clear hu;have hm:n*n<=8*8:=aRy h8 h8
 obtain ⟨zs,x1⟩:∃zs,iL xs n true=zs:=⟨_,rfl⟩
 have q7:zs.length=n*n:=by rw [<-x1,gR]
 have hz:∀k (h3:k<zs.length),zs[k]=rH xs n true k:=fun k h3=>by subst x1;exact nP _ _ _ _ h3
 have x5:=fun k (hk:k<n*n)=>aOv h1 h8 hk true
 have z4:=hid (fun z (h:z∈zs)=>(by
  obtain ⟨k,hk,rfl⟩:=aRw h;rw [hz k hk]
  exact (rI _ _ _ _).i64:I64 z))
 rw [x1];clear x1
 obtain ⟨m,x8⟩:∃m,n*n=m:=⟨_,rfl⟩
 rw [x8] at hl hm q7 x5;clear x8;rw [hl];go_enter func274,ntmps274;go_wp2_with (at_make;refine wpList_make_full _ rfl _ _ 24 rfl w.heap.size 3 i0 (.int .i64 0) 1 underlying24 x6 z1 z2 _ _ _ _ m rfl rfl rfl rfl (by rw [z3];omega) (by unfold maxLen;omega) (aQv _) ?_);intro w1 h2 h6;rw [fR,<-q7,<-iJ,q7] at h2;have hx:Ext w w1:=(Ext.refl w).grown h6 (fun k h=>by cases h);have h7:w.heap.size<w1.heap.size:=(h2.lt _ rfl).2;clear h6 x6 z1 z2 z3;go_wp2
 go_loopw [16] (fun i wr=>∃k:Nat,k<=m/\i = .int .i64 k/\Ext w wr/\w.heap.size<wr.heap.size/\wr.ownsRow w.heap.size 3 1 (.slice (some ⟨w.heap.size,0,none⟩) m m) m ((cF zs k).map (aT8 .i64)))
  (fun i _=>m - (intOf i).toNat)
 case atStart=>exact ⟨0,by omega,rfl,hx,h7,h2⟩
 case round=>
  clear h2 hx h7;obtain ⟨k,hk,rfl,hx,h7,h2⟩:=hrel
  by_cases z9:k<m
  ·have hs:=h2.cellAt k (by omega)
   have hf:=h2.frozenAt k;have h4:=hz k (by omega);have x0:=(h2.stored k (.int .i64 (zs[k]'(by omega)))).1;have x2:=hx.setCell (p:=⟨w.heap.size,k,none⟩) (aQv _) (.int .i64 (zs[k]'(by omega)))
   obtain ⟨z0,y4⟩:∃z,wr.cell? ⟨w.heap.size,k,none⟩=some (.int .i64 z):=by
    rw [hs]
    have x7:k<(cF zs k).length:=by rw [dZ _ _ (by omega)];omega
    exact ⟨(cF zs k)[k],by simp⟩
   rw [<-aWy,fH _ _ (by omega)] at x0
   obtain ⟨z,x3⟩:∃x,zs[k]'(by omega)=x:=⟨_,rfl⟩
   rw [x3] at h4 x0 x2;have zr:=hx.size;have hb:=x5 k z9
   have h5:z=0->(cF zs k)=cF zs (k+1):=fun h0=>by
    have x7:k<(cF zs k).length:=by rw [dZ _ _ (by omega)];omega
    rw [<-fH _ _ (by omega),x3,h0];apply aU6;intro j
    by_cases hj:j=k
    ·subst hj
     rw [aY3 x7];unfold cF;rw [aR0 (by simp;omega),aT0];rw [if_pos (by simp;omega)]
    ·rw [aZt (Ne.symm hj)]
   clear hs hz x3
   have ht:(k:Int).tmod n=((k % n:Nat):Int):=by rw [aTj (by omega)];simp
   have y2:(k:Int).tdiv n=((k / n:Nat):Int):=by rw [aTb (by omega)];simp
   have y0:k % n<n:=aTp _ h1;have y1:k / n<=k:=Nat.div_le_self _ _;have H1:=hid x0;have H2:=hid x2;clear x0 x2
   by_cases hn:n=1
   ·subst hn
    have h0:z=0:=by rw [h4];rfl
    rw [h5 h0] at h2;clear h5 h0 h4 hb;have HO:=hid h2;have HX:=hid hx;clear h2 hx;go_wp2;go_roundw
    case rel=>exact ⟨k+1,by omega,by go_num,HX,h7,HO⟩
    case measure=>simp [intOf];omega
   ·have hb:=hb hn
    unfold rH dAt nO at h4;unfold dAt nO at hb;simp only [if_neg hn,aTs,if_false,if_true] at h4 hb;clear h5
    obtain ⟨q,hq⟩:∃q,k / n=q:=⟨_,rfl⟩
    obtain ⟨q',x9⟩:∃q,k % n=q:=⟨_,rfl⟩
    rw [hq] at h4 hb;rw [x9] at ht y0;rw [hq] at y2 y1;clear hq x9
    by_cases ha:q<n - 1
    ·rw [if_pos ha] at h4
     have z7:=hb.1 ha;clear hb h2;obtain ⟨b,y3,rfl,z5,z6,hc⟩:=HU.at (k:=k) (by omega);obtain ⟨b',x4,e',_,_,h9⟩:=HU.at (k:=k+n) (by omega);simp only [aQ0,aR1,and_true] at e';obtain ⟨rfl,rfl⟩:=e';rw [<-hx.cells.1 b _ (by omega)] at hc h9;have g1:=cP xs k (by omega);have g2:=cP xs (k+n) (by omega);rw [g1,g2] at h4;have q9:=hx9 _ (aRh (show k<xs.length by omega));have q8:=hx9 _ (aRh (show k+n<xs.length by omega))
     obtain ⟨x,q5⟩:∃x,xs[k]'(by omega)=x:=⟨_,rfl⟩
     obtain ⟨y,q6⟩:∃x,xs[k+n]'(by omega)=x:=⟨_,rfl⟩
     rw [q5] at hc q9 h4;rw [q6] at h9 q8 h4;have HZ:=hid h4.symm;obtain ⟨q1,q2⟩:=q9;obtain ⟨q3,q4⟩:=q8
     have z8:b<wr.heap.size:=by omega
     clear q5 q6 h4 g1 g2 hx;go_wp2_with fail;refine aA [([0,1,2,3,4,5,6,7,8,9,10,11,12],13),([14],15)] 15 wr.heap.size (by kernel_rfl) (by kernel_rfl) ?_;refine st_ fun K hK=>?_;go_wp2_with fail;refine z_ (cO HZ _) ?_;go_wp2_with fail;refine k_ hK ?_;clear hK K;refine aI ?_;simp only [aRm,aRg,aQ1,aQw,aQx]
     show wpQuiet _ _ _ _ [_] _
     try simp only [aSj,aQ4,aRc,aRb]
     repeat (go_big_quiet_step (fail))
     refine wpQuiet_nil ⟨_,rfl,fun K hK=>?_⟩;go_wp2_with fail;refine hK _ _ (.inl (by trivial)) (aC ?_);clear hK K;go_wp2;go_roundw
     case rel=>exact ⟨k+1,by omega,by go_num,H2.drew,by simpa using h7,H1.drew⟩
     case measure=>simp [intOf];omega
    ·rw [if_neg ha] at h4
     have z7:=hb.2 ha;clear hb h2;obtain ⟨b,y3,rfl,z5,z6,hc⟩:=HU.at (k:=k) (by omega);obtain ⟨b',x4,e',_,_,h9⟩:=HU.at (k:=k - n) (by omega);simp only [aQ0,aR1,and_true] at e';obtain ⟨rfl,rfl⟩:=e';rw [<-hx.cells.1 b _ (by omega)] at hc h9;have g1:=cP xs k (by omega);have g2:=cP xs (k - n) (by omega);rw [g1,g2] at h4;have q9:=hx9 _ (aRh (show k<xs.length by omega));have q8:=hx9 _ (aRh (show k - n<xs.length by omega))
     obtain ⟨x,q5⟩:∃x,xs[k]'(by omega)=x:=⟨_,rfl⟩
     obtain ⟨y,q6⟩:∃x,xs[k - n]'(by omega)=x:=⟨_,rfl⟩
     rw [q5] at hc q9 h4;rw [q6] at h9 q8 h4;have HZ:=hid h4.symm;obtain ⟨q1,q2⟩:=q9;obtain ⟨q3,q4⟩:=q8
     have z8:b<wr.heap.size:=by omega
     clear q5 q6 h4 g1 g2 hx;go_wp2_with fail;refine aA [([0,1,2,3,4,5,6,7,8,9,10,11,12],13),([14],15)] 15 wr.heap.size (by kernel_rfl) (by kernel_rfl) ?_;refine st_ fun K hK=>?_;go_wp2_with fail;refine z_ (cO HZ _) ?_;go_wp2_with fail;refine k_ hK ?_;clear hK K;refine aI ?_;simp only [aRm,aRg,aQ1,aQw,aQx]
     show wpQuiet _ _ _ _ [_] _
     try simp only [aSj,aQ4,aRc,aRb]
     repeat (go_big_quiet_step (fail))
     refine wpQuiet_nil ⟨_,rfl,fun K hK=>?_⟩;go_wp2_with fail;refine hK _ _ (.inl (by trivial)) (aC ?_);clear hK K;go_wp2;go_roundw
     case rel=>exact ⟨k+1,by omega,by go_num,H2.drew,by simpa using h7,H1.drew⟩
     case measure=>simp [intOf];omega
  ·go_wp2
   go_ret
   obtain rfl:k=m:=by omega
   have q0:aB w.heap.size wr (.slice (some ⟨w.heap.size,0,none⟩) k k) zs:=⟨by rw [<-q7,jB] at h2;rw [<-q7];exact h2,z4⟩
   exact ⟨_,rfl,q0,hx⟩
def kT (s:List UInt8):Int:=
 if s==[97,98,115] then 1 else if s==[102,108,111,111,114] then 1 else if s==[100,117] then 1 else if s==[100,118] then 1
 else if s==[109,105,110] then 2 else if s==[109,97,120] then 2 else if s==[115,116,101,112] then 2 else if s==[110,111,105,115,101] then 2 else if s==[116,101,120] then 2
 else if s==[99,108,97,109,112] then 3 else if s==[109,105,120] then 3
 else -1
def cA (s:ByteArray):Int:=kT s.toList
theorem mL (s:ByteArray) (w:World):Z_ 242 #[.string s] w (.int .i64 (cA s)):=by
 go_enter func242,ntmps242;go_wp2
 all_goals go_ret
 all_goals first|(exfalso;simp_all;done)|(simp [cA,kT, *];done)|simp_all [cA,kT]
theorem aFi (s:ByteArray) (w:World):Z_ 134 #[.string s] w (.int .i64 (cA s)):=by
 go_enter func134,ntmps134;go_wp2
 all_goals go_ret
 all_goals first|(exfalso;simp_all;done)|(simp [cA,kT, *];done)|simp_all [cA,kT]
theorem jV (n i:Nat) (w:World) (hn:n<=1000) (hi:i<=1000):Z_ 278 #[n,i] w (.tuple #[.int .i64 (if i+1<n then (i:Int) else i - 1),.int .i64 (if i+1<n then (i:Int)+1 else i)]):=by
 go_enter func278,ntmps278
 by_cases h:i+1<n
 ·rw [if_pos h,if_pos h]
  go_wp2;exact bodyPost_ret (v:=.tuple #[i,.int .i64 ((i:Int)+1)]) (by simp [results,results278,go_sem]) rfl ⟨rfl,rfl⟩
 ·rw [if_neg h,if_neg h]
  go_wp2;exact bodyPost_ret (v:=.tuple #[.int .i64 ((i:Int) - 1),i]) (by simp [results,results278,go_sem]) rfl ⟨rfl,rfl⟩
def cT (s:ByteArray):Bool:=s.toList==[117]||s.toList==[118]||s.toList==[120]||s.toList==[121]||s.toList==[122]||s.toList==[116]
theorem iP (s:ByteArray) (w:World):Z_ 201 #[.string s] w (.bool (cT s)):=by
 go_enter func201,ntmps201;go_wp2
 all_goals go_ret
 all_goals first|(exfalso;simp_all;done)|(simp [cT, *];done)|simp_all [cT]
theorem aIf (lo hi:Nat) (u:Value) (xs:List Int) (n:Nat) (w:World) (hu:aU lo hi w u xs) (h1:1<=n) (h8:n<=8) (hl:xs.length=n*n):Z_ 277 #[u,n] w (.bool true):=by
 obtain ⟨a,cap,rfl,HU⟩:=hu.open;clear hu;have hm:n*n<=8*8:=aRy h8 h8
 obtain ⟨m,h0⟩:∃m,n*n=m:=⟨_,rfl⟩
 have h2:(n:Int)*n=m:=by rw [<-h0];simp
 rw [h0] at hl hm;clear h0;rw [hl];go_enter func277,ntmps277;go_wp2_with fail;refine z_ (aE (b:=true) (aG.2 ⟨by omega,by omega⟩) _) ?_;go_wp2;go_ret;exact ⟨rfl,rfl⟩
def lK:List (List UInt8):=[[117],[118],[120],[121],[122],[116]]
def nQ:Obj:=.cells #[.string ⟨#[117]⟩,.string ⟨#[118]⟩,.string ⟨#[120]⟩,.string ⟨#[121]⟩,.string ⟨#[122]⟩,.string ⟨#[116]⟩] 9
theorem uS (s:ByteArray) (w:World):R_ 135 #[.string s] w (.bool (cT s)):=by
 go_enter func135,ntmps135;go_wp2
 go_loopw [7] (fun i wr=>∃k:Nat,k<=6/\i = .int .i64 k/\wr=w.alloc nQ/\∀j x,j<k->lK[j]?=some x->(s.toList==x)=false) (fun i _=>6 - (intOf i).toNat)
 case atStart=>exact ⟨0,by omega,rfl,rfl,fun j x h=>by omega⟩
 case round=>
  obtain ⟨k,hk,rfl,rfl,h6⟩:=hrel
  by_cases q0:k<6
  ·obtain ⟨x,hx⟩:∃x,lK[k]?=some x:=⟨lK[k]'(by show k<6;exact q0),by simp⟩
   obtain ⟨y,hy,h8⟩:∃y:ByteArray,(w.alloc nQ).cell? ⟨w.heap.size,k,none⟩=some (.string y)/\y.toList=x:=by
    rcases (show k=0\/k=1\/k=2\/k=3\/k=4\/k=5 by omega) with rfl|rfl|rfl|rfl|rfl|rfl <;> (simp [lK] at hx;subst hx;first|exact ⟨⟨#[117]⟩,by simp [nQ,go_sem];done,(by first|rfl|decide|decide +kernel)⟩|exact ⟨⟨#[118]⟩,by simp [nQ,go_sem];done,(by first|rfl|decide|decide +kernel)⟩|exact ⟨⟨#[120]⟩,by simp [nQ,go_sem];done,(by first|rfl|decide|decide +kernel)⟩|exact ⟨⟨#[121]⟩,by simp [nQ,go_sem];done,(by first|rfl|decide|decide +kernel)⟩|exact ⟨⟨#[122]⟩,by simp [nQ,go_sem];done,(by first|rfl|decide|decide +kernel)⟩|exact ⟨⟨#[116]⟩,by simp [nQ,go_sem];done,(by first|rfl|decide|decide +kernel)⟩)
   by_cases he:(y.toList==s.toList)=true
   ·have hv:cT s=true:=by
     have:s.toList=x:=by rw [<-h8];exact (eq_of_beq he).symm
     rcases (show k=0\/k=1\/k=2\/k=3\/k=4\/k=5 by omega) with rfl|rfl|rfl|rfl|rfl|rfl <;> (simp [lK] at hx;simp [cT,this,<-hx])
    have HV:=hid hv;clear h6 hv hx h8;go_wp2;go_ret;exact ⟨by rw [HV];rfl,X_⟩
   ·have h7:∀j z,j<k+1->lK[j]?=some z->(s.toList==z)=false:=fun j z hj hz=>by
     by_cases h9:j=k
     ·subst h9
      rw [hx] at hz;injection hz with hz;subst hz;rw [<-h8];rw [aT3];intro h;exact he (by rw [eq_of_beq h];simp)
     ·exact h6 j z (by omega) hz
    have HN:=hid h7;clear h6 h7 hx h8;go_wp2;go_roundw
    case rel=>exact ⟨k+1,by omega,by go_num,by trivial,HN⟩
    case measure=>simp [intOf];omega
  ·obtain rfl:k=6:=by omega
   have hv:cT s=false:=by
    have h0:=h6 0 _ (by decide) rfl;have h1:=h6 1 _ (by decide) rfl;have h2:=h6 2 _ (by decide) rfl;have h3:=h6 3 _ (by decide) rfl;have h4:=h6 4 _ (by decide) rfl;have h5:=h6 5 _ (by decide) rfl;simp only [cT,h0,h1,h2,h3,h4,h5,Bool.or_self]
   have HV:=hid hv;clear h6 hv;go_wp2;go_ret;exact ⟨by rw [HV];rfl,X_⟩
def lL (l:List UInt8) (f:Nat->Int) (tm:Int) (q:Nat):Int:=
 if l==[117] then f (q*5) else if l==[118] then f (q*5+1) else if l==[120] then f (q*5+2) else if l==[121] then f (q*5+3) else if l==[122] then f (q*5+4) else tm
theorem uT (lo hi:Nat) (n m i j q:Nat) (u:Value) (f:Nat->Int) (tm g3:Int) (g4:Value) (s:ByteArray) (w:World) (hu:cY 5 lo hi w u m f) (hh:hi<=w.heap.size) (hq:(j:Int)*n+i=q) (hq':q<m) (hm:m<=1000) (hj:(j:Int)*n<=1000) (h0:0<=(j:Int)*n) (hi0:i<=1000) :
  R_ 262 #[.agg #[n,u,tm,g3,g4],.string s,i,j] w (.int .i64 (lL s.toList f tm q)):=by
 obtain ⟨a,cap,rfl,HU⟩:=hu.open;obtain ⟨b,h6,rfl,h3,h4,hc⟩:=HU.at hq' (by decide);have c0:=hc 0 (by decide);have c1:=hc 1 (by decide);have c2:=hc 2 (by decide);have c3:=hc 3 (by decide);have c4:=hc 4 (by decide);have l1:=HU.le;have l2:=HU.cap;simp only [aSk] at c0
 have h5:b<w.heap.size:=by omega
 have h1:b≠w.heap.size:=by omega
 have h2:b≠w.heap.size+1:=by omega
 clear hu hc HU;go_enter func262,ntmps262;go_wp2
 all_goals go_ret
 all_goals first|(exfalso;simp_all;done)|(refine ⟨by simp [lL, *];done,S_⟩)
structure Grd where
 n:Int
 m:Nat
 f:Nat->Int
 tm:Int
 t:Tex
def Grd.R (g:Grd) (lo hi:Nat) (w:World) (v:Value):Prop:=∃pu tu,v = .agg #[g.n,pu,g.tm,g.t.log,tu]/\I64 g.n/\I64 g.tm/\I64 g.t.log/\cY 5 lo hi w pu g.m g.f/\aU lo hi w tu g.t.px
theorem Grd.R.same {g:Grd} {lo hi:Nat} (h:g.R lo hi w v) (s:aM lo hi w w'):g.R lo hi w' v:=by
 obtain ⟨pu,tu,h1,h2,h3,h4,h5,h6⟩:=h;exact ⟨pu,tu,h1,h2,h3,h4,h5.same s,h6.same s⟩
theorem Grd.R.ext {g:Grd} {lo hi:Nat} (h:g.R lo hi w v) (hh:hi<=w.heap.size) (e:Ext w w'):g.R lo hi w' v:=h.same (e.same hh)
def ptL (f:Nat->Int) (k:Nat):List Int:=[f (k*5),f (k*5+1),f (k*5+2),f (k*5+3),f (k*5+4)]
def ptB (f:Nat->Int) (k:Nat):Bool:=(ptL f k).all fun x=>inB x (-1000000) 1000000
theorem aBl (f:Nat->Int) (k:Nat):((ptL f k).all fun x=>inB x (-1000000) 1000000)=ptB f k:=by unfold ptB;with_reducible rfl
def Grd.okB (g:Grd):Bool:=inB g.n 1 8&&decide ((g.m:Int)=g.n*g.n)&&inB g.tm 0 256&&g.t.okB&&(aRl g.m).all (ptB g.f)
theorem aNg {n:Int} (h:inB n 1 8=true):1<=n*n/\n*n<=64:=by
 have h:=aG.1 h
 rcases (show n=1\/n=2\/n=3\/n=4\/n=5\/n=6\/n=7\/n=8 by omega) with rfl|rfl|rfl|rfl|rfl|rfl|rfl|rfl <;> decide
theorem gE {p:Nat->Bool} (h:∀i,i<m->p i=true):(aRl m).all p=true:=aR5.2 fun i hi=>h i (aR4.1 hi)
theorem fK {p:Nat->Bool} (hi:i<m) (h:p i=false):(aRl m).all p=false:=by
 rw [aT4];exact ⟨i,aR4.2 hi,by simp [h]⟩
theorem aU.lit5At (w:World) {q:Nat} (hq:w.heap.size=q) {x:List Int} {d e:Int} (hx:x=[a,b,c,d,e]) (hi:∀y∈x,I64 y):aU q (q+1) (w.alloc (.cells #[a,b,c,d,e] 3)) (.slice (some ⟨q,0,none⟩) 5 5) x:=by
 subst hx hq;refine ⟨_,5,rfl,aQv _,by unfold maxLen;omega,fun i y hy=>⟨hi y (aRn hy),w.heap.size,0,rfl,aQv _,by omega,?_⟩⟩;have hl:=(aQz.1 hy).1;simp only [aSc,aS7] at hl
 rcases (show i=0\/i=1\/i=2\/i=3\/i=4 by omega) with rfl|rfl|rfl|rfl|rfl <;> (simp at hy;subst hy;simp [go_sem])
theorem pY {lo hi:Int} {r:Bool} (h:(xs.all fun x=>inB x lo hi)=r) (l0 h0:Nat) (u:Value) (w:World) (hu:aU l0 h0 w u xs) :
  Z_ 143 #[u,lo,hi] w (.bool r):=h▸kR l0 h0 u xs lo hi w hu
theorem lM (lo hi:Nat) (v:Value) (g:Grd) (w:World) (hv:g.R lo hi w v) (hh:hi<=w.heap.size) :
  R_ 167 #[v] w (.bool g.okB):=by
 obtain ⟨pu,tu,rfl,hn,ht,hl,hp,hu⟩:=hv;obtain ⟨a,cap,rfl,HP⟩:=hp.open;obtain ⟨a',h6,rfl,HU⟩:=hu.open;have l1:=HP.le;have l2:=HP.cap;have HT:=hid (show cN lo hi w (.agg #[g.t.log,.slice a' g.t.px.length h6]) g.t from ⟨_,rfl,hl,hu⟩);clear hp hu hn ht hl
 cases h1:inB g.n 1 8
 ·have e:g.okB=false:=by unfold Grd.okB;rw [h1];rfl
  rw [e];go_enter func167,ntmps167;go_wp2_with (go_at_call 92;refine z_ (aH h1 _) ?_);go_ret;exact ⟨rfl,X_⟩
 have hb:=aNg h1
 obtain ⟨P,hP⟩:∃P,g.n*g.n=P:=⟨_,rfl⟩
 rw [hP] at hb
 by_cases h2:(g.m:Int)=P
 case neg=>
  have e2:((g.m:Int) != P)=true:=by simp [h2]
  have e:g.okB=false:=by unfold Grd.okB;rw [hP,decide_eq_false h2];simp
  rw [e];clear h2 e;go_enter func167,ntmps167;go_wp2_with (go_at_call 92;refine z_ (aH h1 _) ?_);go_ret;exact ⟨rfl,X_⟩
 have e2:((g.m:Int) != P)=false:=by simp [h2]
 have H2:=hid h2
 have hm:g.m<=64:=by omega
 clear h2
 cases h3:inB g.tm 0 256
 ·have e:g.okB=false:=by simp only [Grd.okB,h3,aWs,aX7]
  rw [e];go_enter func167,ntmps167;go_wp2_with (go_at_call 92;(first|with_reducible refine (aH h1 _).mono ?_|with_reducible refine (aH h3 _).mono ?_);rintro e w1 ⟨rfl,rfl⟩);go_ret;exact ⟨rfl,X_⟩
 cases h4:g.t.okB
 ·have e:g.okB=false:=by simp only [Grd.okB,h4,aWs,aX7]
  rw [e];go_enter func167,ntmps167;go_wp2_with (first|(go_at_call 92;(first|with_reducible refine (aH h1 _).mono ?_|with_reducible refine (aH h3 _).mono ?_);rintro e w1 ⟨rfl,rfl⟩)|(go_at_call 91;refine r_ (cJ h4 lo hi _ _ (HT.out.ext hh X_) (by simp;omega)) fun w1 x1=>?_));go_ret;exact ⟨rfl,Ext.trans X_ x1⟩
 have h7:g.okB=(aRl g.m).all (ptB g.f):=by simp only [Grd.okB,h1,hP,decide_eq_true H2.out,h3,h4,aWf]
 rw [h7];clear h7;go_enter func167,ntmps167;go_wp2_with (first|(go_at_call 92;(first|with_reducible refine (aH h1 _).mono ?_|with_reducible refine (aH h3 _).mono ?_);rintro e w1 ⟨rfl,rfl⟩)|(go_at_call 91;refine r_ (cJ h4 lo hi _ _ (HT.out.ext hh X_) (by simp;omega)) fun w1 x1=>?_;obtain ⟨d0,d1⟩:w.heap.size<w1.heap.size/\w1.cell? ⟨w.heap.size,1,none⟩=some (.slice a g.m cap):=⟨by have:=x1.size;simp at this;omega,by rw [x1.cells.1 _ _ (by simp)];simp [go_sem]⟩));have X1:=hid (Ext.trans X_ x1:Ext w w1);clear x1
 go_loopw [35] (fun i wr=>∃k:Nat,k<=g.m/\i = .int .i64 k/\(∀j,j<k->ptB g.f j=true)/\Ext w wr) (fun i _=>g.m - (intOf i).toNat)
 case atStart=>exact ⟨0,by omega,rfl,fun j h=>by omega,X1.out⟩
 case round=>
  obtain ⟨k,hk,rfl,h5,hx⟩:=hrel;have HA:=hid h5;clear h5
  by_cases h0:k<g.m
  ·obtain ⟨b,q3,rfl,q0,q1,hc⟩:=HP.at h0 (by decide)
   have c0:=(hx.cells.1 b _ (by omega)).trans (hc 0 (by decide));have c1:=(hx.cells.1 b _ (by omega)).trans (hc 1 (by decide));have c2:=(hx.cells.1 b _ (by omega)).trans (hc 2 (by decide));have c3:=(hx.cells.1 b _ (by omega)).trans (hc 3 (by decide));have c4:=(hx.cells.1 b _ (by omega)).trans (hc 4 (by decide));simp only [aSk] at c0;have HX:=hid hx
   have q2:b<wr.heap.size:=by have:=hx.size;omega
   have h9:∀y∈ptL g.f k,I64 y:=by
    intro y hy;simp only [ptL,aRk,aRe,or_false] at hy
    rcases hy with rfl|rfl|rfl|rfl|rfl
    ·exact HP.i64 (j:=0) h0 (by decide)
    ·exact HP.i64 (j:=1) h0 (by decide)
    ·exact HP.i64 (j:=2) h0 (by decide)
    ·exact HP.i64 (j:=3) h0 (by decide)
    ·exact HP.i64 (j:=4) h0 (by decide)
   have H9:=hid h9;clear hc hx h9
   obtain ⟨r,hr⟩:∃r,ptB g.f k=r:=⟨_,rfl⟩
   have HR:=hid hr;clear hr;go_wp2_with fail;have h8:=(aBl g.f k).trans HR.out;refine (pY h8 (wr.heap.size+1) (wr.heap.size+1+1) _ _ (aU.lit5At _ (by simp) rfl H9.out)).mono ?_;clear h8;rintro e w2 ⟨rfl,rfl⟩
   cases r
   ·go_wp2
    go_ret;exact ⟨aL (fK h0 HR.out).symm,by have hx:=HX.out;exact S_⟩
   ·go_wp2
    go_roundw
    case rel=>exact ⟨k+1,by omega,by go_num,fun j hj=>by
     by_cases e:j=k
     ·subst e;exact HR.out
     ·exact HA.out j (by omega),by have hx:=HX.out;exact S_⟩
    case measure=>simp [intOf];omega
  ·go_wp2
   go_ret
   obtain rfl:k=g.m:=by omega
   exact ⟨aL (gE HA.out).symm,hx⟩
theorem sV (lo hi:Nat) (v:Value) (g:Grd) (w:World) (hv:g.R lo hi w v) (hh:hi<=w.heap.size) :
  R_ 233 #[v] w (.bool g.okB):=by
 obtain ⟨pu,tu,rfl,hn,ht,hl,hp,hu⟩:=hv;obtain ⟨a,cap,rfl,HP⟩:=hp.open;obtain ⟨a',h8,rfl,HU⟩:=hu.open;have l1:=HP.le;have l2:=HP.cap;have HT:=hid (show cN lo hi w (.agg #[g.t.log,.slice a' g.t.px.length h8]) g.t from ⟨_,rfl,hl,hu⟩);clear hp hu hn ht hl
 cases h1:inB g.n 1 8
 ·have e:g.okB=false:=by unfold Grd.okB;rw [h1];rfl
  rw [e];go_enter func233,ntmps233;go_wp2_with (go_at_call 46;refine z_ (aE h1 _) ?_);go_ret;exact ⟨rfl,X_⟩
 have hb:=aNg h1
 obtain ⟨P,hP⟩:∃P,g.n*g.n=P:=⟨_,rfl⟩
 rw [hP] at hb
 by_cases h2:(g.m:Int)=P
 case neg=>
  have e2:((g.m:Int) != P)=true:=by simp [h2]
  have e:g.okB=false:=by unfold Grd.okB;rw [hP,decide_eq_false h2];simp
  rw [e];clear h2 e;go_enter func233,ntmps233;go_wp2_with (go_at_call 46;refine z_ (aE h1 _) ?_);go_ret;exact ⟨rfl,X_⟩
 have e2:((g.m:Int) != P)=false:=by simp [h2]
 have H2:=hid h2
 have hm:g.m<=64:=by omega
 clear h2
 cases h3:inB g.tm 0 256
 ·have e:g.okB=false:=by simp only [Grd.okB,h3,aWs,aX7]
  rw [e];go_enter func233,ntmps233;go_wp2_with (go_at_call 46;(first|with_reducible refine (aE h1 _).mono ?_|with_reducible refine (aE h3 _).mono ?_);rintro e w1 ⟨rfl,rfl⟩);go_ret;exact ⟨rfl,X_⟩
 cases h4:g.t.okB
 ·have e:g.okB=false:=by simp only [Grd.okB,h4,aWs,aX7]
  rw [e];go_enter func233,ntmps233;go_wp2_with (first|(go_at_call 46;(first|with_reducible refine (aE h1 _).mono ?_|with_reducible refine (aE h3 _).mono ?_);rintro e w1 ⟨rfl,rfl⟩)|(go_at_call 88;refine r_ (aK h4 lo hi _ _ (HT.out.ext hh X_) (by simp;omega)) fun w1 x1=>?_));go_ret;exact ⟨rfl,Ext.trans X_ x1⟩
 have q1:g.okB=(aRl g.m).all (ptB g.f):=by simp only [Grd.okB,h1,hP,decide_eq_true H2.out,h3,h4,aWf]
 rw [q1];clear q1;go_enter func233,ntmps233;go_wp2_with (first|(go_at_call 46;(first|with_reducible refine (aE h1 _).mono ?_|with_reducible refine (aE h3 _).mono ?_);rintro e w1 ⟨rfl,rfl⟩)|(go_at_call 88;refine r_ (aK h4 lo hi _ _ (HT.out.ext hh X_) (by simp;omega)) fun w1 x1=>?_;obtain ⟨d0,d1⟩:w.heap.size<w1.heap.size/\w1.cell? ⟨w.heap.size,1,none⟩=some (.slice a g.m cap):=⟨by have:=x1.size;simp at this;omega,by rw [x1.cells.1 _ _ (by simp)];simp [go_sem]⟩));have X1:=hid (Ext.trans X_ x1:Ext w w1);clear x1
 go_loopw [37] (fun i wr=>∃k:Nat,k<=g.m/\i = .int .i64 k/\(∀j,j<k->ptB g.f j=true)/\Ext w wr) (fun i _=>g.m - (intOf i).toNat)
 case atStart=>exact ⟨0,by omega,rfl,fun j h=>by omega,X1.out⟩
 case round=>
  obtain ⟨k,hk,rfl,h6,hx⟩:=hrel;have HA:=hid h6;clear h6
  by_cases h0:k<g.m
  ·obtain ⟨b,x5,rfl,q8,q9,hc⟩:=HP.at h0 (by decide)
   have c0:=(hx.cells.1 b _ (by omega)).trans (hc 0 (by decide));have c1:=(hx.cells.1 b _ (by omega)).trans (hc 1 (by decide));have c2:=(hx.cells.1 b _ (by omega)).trans (hc 2 (by decide));have c3:=(hx.cells.1 b _ (by omega)).trans (hc 3 (by decide));have c4:=(hx.cells.1 b _ (by omega)).trans (hc 4 (by decide));simp only [aSk] at c0;have HX:=hid hx
   have x3:b<wr.heap.size:=by have:=hx.size;omega
   have h9:∀y∈ptL g.f k,I64 y:=by
    intro y hy;simp only [ptL,aRk,aRe,or_false] at hy
    rcases hy with rfl|rfl|rfl|rfl|rfl
    ·exact HP.i64 (j:=0) h0 (by decide)
    ·exact HP.i64 (j:=1) h0 (by decide)
    ·exact HP.i64 (j:=2) h0 (by decide)
    ·exact HP.i64 (j:=3) h0 (by decide)
    ·exact HP.i64 (j:=4) h0 (by decide)
   have H9:=hid h9;clear hc hx h9
   obtain ⟨r,hr⟩:∃r,ptB g.f k=r:=⟨_,rfl⟩
   have HR:=hid hr;clear hr;go_wp2;have HL:=hid (aU.lit5At (wr.alloc (.cells #[.int .i64 (g.f (k*5)),.int .i64 (g.f (k*5+1)),.int .i64 (g.f (k*5+2)),.int .i64 (g.f (k*5+3)),.int .i64 (g.f (k*5+4))] 228)) (q:=wr.heap.size+1) (by simp) (x:=ptL g.f k) rfl H9.out);have h7:=hid (show Ext w _ from (by have hx:=HX.out;exact S_:Ext w ((wr.alloc (.cells #[.int .i64 (g.f (k*5)),.int .i64 (g.f (k*5+1)),.int .i64 (g.f (k*5+2)),.int .i64 (g.f (k*5+3)),.int .i64 (g.f (k*5+4))] 228)).alloc (.cells #[.int .i64 (g.f (k*5)),.int .i64 (g.f (k*5+1)),.int .i64 (g.f (k*5+2)),.int .i64 (g.f (k*5+3)),.int .i64 (g.f (k*5+4))] 3))));generalize hW:bAx (bAx wr _) _=W at HL h7 ⊢;clear hW;have q6:(ptL g.f k).length=5:=rfl;generalize hp:ptL g.f k=pl at *;have q0:=hid hp;clear hp;obtain ⟨a2,q4,e2,HI⟩:=HL.out.open;rw [q6] at e2;simp only [aRo,true_and] at e2;obtain ⟨rfl,rfl⟩:=e2
   go_loopw [53] (fun i wq=>∃j:Nat,j<=5/\i = .int .i64 j/\wq=W/\(pl.take j).all (fun x=>inB x (-1000000) 1000000)=true) (fun i _=>5 - (intOf i).toNat)
   case atStart=>exact ⟨0,by omega,rfl,rfl,rfl⟩
   case round=>
    obtain ⟨j,hj,rfl,rfl,hq⟩:=hrel;have HQ:=hid hq;clear hq
    by_cases x4:j<5
    ·obtain ⟨b3,q7,e3,x0,x2,q5⟩:=HI.at (k:=j) (by omega)
     simp only [aQ0,aR1,and_true] at e3;obtain ⟨rfl,rfl⟩:=e3;simp only [aRt] at q5
     cases q2:inB (pl[j]'(by omega)) (-1000000) 1000000
     ·have h5:=hid q2
      go_wp2_with fail;refine z_ (aE h5.out _) ?_;go_wp2;go_ret;exact ⟨aL (fK h0 (by rw [<-aBl,q0.out];exact vK (by omega) h5.out)).symm,by have hx:=h7.out;exact S_⟩
     ·have h5:=hid q2
      go_wp2_with fail;refine z_ (aE h5.out _) ?_;go_wp2;go_roundw
      case rel=>exact ⟨j+1,by omega,by go_num,by trivial,iZ (by omega) HQ.out h5.out⟩
      case measure=>simp [intOf];omega
    ·obtain rfl:j=5:=by omega
     have hR:ptB g.f k=true:=by rw [<-aBl,q0.out];have:=HQ.out;rwa [aR3 (by omega)] at this
     have q3:=hid hR;clear hR;go_wp2;go_roundw
     case rel=>exact ⟨k+1,by omega,by go_num,fun j hj=>by
      by_cases e:j=k
      ·subst e;exact q3.out
      ·exact HA.out j (by omega),by have hx:=h7.out;exact S_⟩
     case measure=>simp [intOf];omega
  ·go_wp2
   go_ret
   obtain rfl:k=g.m:=by omega
   exact ⟨aL (gE HA.out).symm,hx⟩
def cI (op:Int) (s:ByteArray):Int:=if op=4 then 1 else if op=5 then 1 else if op=6 then 2 else if op=7 then cA s else 0
def fZ (op:Int):Int:=if op=4 then 0 else 1
theorem aN2 (s:ByteArray) (n:Int) (w:World):R_ 271 #[.agg #[.int .i64 4,.string s,n]] w (.tuple #[.int .i64 1,()]):=by
 go_enter func271,ntmps271;go_wp2;exact bodyPost_ret (v:=.tuple #[.int .i64 1,()]) (by simp [results,results271,go_sem]) rfl ⟨rfl,S_⟩
theorem aN3 (s:ByteArray) (n:Int) (w:World):R_ 271 #[.agg #[.int .i64 5,.string s,n]] w (.tuple #[.int .i64 1,.int .i64 1]):=by
 go_enter func271,ntmps271;go_wp2;exact bodyPost_ret (v:=.tuple #[.int .i64 1,.int .i64 1]) (by simp [results,results271,go_sem]) rfl ⟨rfl,S_⟩
theorem aN4 (s:ByteArray) (n:Int) (w:World):R_ 271 #[.agg #[.int .i64 6,.string s,n]] w (.tuple #[.int .i64 2,.int .i64 1]):=by
 go_enter func271,ntmps271;go_wp2;exact bodyPost_ret (v:=.tuple #[.int .i64 2,.int .i64 1]) (by simp [results,results271,go_sem]) rfl ⟨rfl,S_⟩
theorem aN5 (s:ByteArray) (n:Int) (w:World):R_ 271 #[.agg #[.int .i64 7,.string s,n]] w (.tuple #[(cA s),.int .i64 1]):=by
 go_enter func271,ntmps271;go_wp2_with fail;refine z_ (mL s _) ?_;go_wp2;exact bodyPost_ret (v:=.tuple #[(cA s),.int .i64 1]) (by simp [results,results271,go_sem]) rfl ⟨rfl,S_⟩
theorem aN6 (op:Int) (s:ByteArray) (n:Int) (w:World) (h4:op≠4) (h5:op≠5) (h6:op≠6) (h7:op≠7):R_ 271 #[.agg #[op,.string s,n]] w (.tuple #[(),.int .i64 1]):=by
 go_enter func271,ntmps271;go_wp2;exact bodyPost_ret (v:=.tuple #[(),.int .i64 1]) (by simp [results,results271,go_sem]) rfl ⟨rfl,S_⟩
theorem aIg (op:Int) (s:ByteArray) (n:Int) (w:World):R_ 271 #[.agg #[op,.string s,n]] w (.tuple #[(cI op s),(fZ op)]):=by
 unfold cI fZ
 by_cases h4:op=4
 ·subst h4;simpa using aN2 s n w
 by_cases h5:op=5
 ·subst h5;simpa using aN3 s n w
 by_cases h6:op=6
 ·subst h6;simpa using aN4 s n w
 by_cases h7:op=7
 ·subst h7;simpa using aN5 s n w
 simp only [if_neg h4,if_neg h5,if_neg h6,if_neg h7];exact aN6 op s n w h4 h5 h6 h7
theorem aOw (s:ByteArray) (n L:Int) (w:World) (he:(s.toList==[])=false):R_ 270 #[.agg #[.int .i64 1,.string s,n],L] w (.bool false):=by
 go_enter func270,ntmps270;go_wp2;go_ret;exact ⟨rfl,S_⟩
theorem aOx (s:ByteArray) (n L:Int) (w:World) (he:(s.toList==[])=false):R_ 270 #[.agg #[.int .i64 3,.string s,n],L] w (.bool false):=by
 go_enter func270,ntmps270;go_wp2;go_ret;exact ⟨rfl,S_⟩
theorem aOy (s:ByteArray) (n L:Int) (w:World) (he:(s.toList==[])=false):R_ 270 #[.agg #[.int .i64 4,.string s,n],L] w (.bool false):=by
 go_enter func270,ntmps270;go_wp2;go_ret;exact ⟨rfl,S_⟩
theorem aOz (s:ByteArray) (n L:Int) (w:World) (he:(s.toList==[])=false):R_ 270 #[.agg #[.int .i64 5,.string s,n],L] w (.bool false):=by
 go_enter func270,ntmps270;go_wp2;go_ret;exact ⟨rfl,S_⟩
theorem aO0 (s:ByteArray) (n L:Int) (w:World) (he:(s.toList==[])=false):R_ 270 #[.agg #[.int .i64 6,.string s,n],L] w (.bool false):=by
 go_enter func270,ntmps270;go_wp2;go_ret;exact ⟨rfl,S_⟩
theorem aPu (s:ByteArray) (n L:Int) (w:World) (he:(s.toList==[])=true):R_ 270 #[.agg #[.int .i64 1,.string s,n],L] w (.bool true):=by
 go_enter func270,ntmps270;go_wp2;go_ret;exact ⟨rfl,S_⟩
theorem aPv (s:ByteArray) (n L:Int) (w:World) (he:(s.toList==[])=true) (h0:0<=L) (h1:L<=2000000):R_ 270 #[.agg #[.int .i64 3,.string s,n],L] w (.bool (inB n 0 (L - 1))):=by
 go_enter func270,ntmps270;go_wp2_with fail;refine z_ (hG n 0 (L - 1) _) ?_;go_wp2;go_ret;exact ⟨rfl,S_⟩
theorem aPw (s:ByteArray) (n L:Int) (w:World) (he:(s.toList==[])=true) (h0:0<=L) (h1:L<=2000000):R_ 270 #[.agg #[.int .i64 4,.string s,n],L] w (.bool (inB n 0 (L - 1))):=by
 go_enter func270,ntmps270;go_wp2_with fail;refine z_ (hG n 0 (L - 1) _) ?_;go_wp2;go_ret;exact ⟨rfl,S_⟩
theorem aPx (s:ByteArray) (n L:Int) (w:World) (he:(s.toList==[])=true):R_ 270 #[.agg #[.int .i64 5,.string s,n],L] w (.bool (decide (n=3))):=by
 go_enter func270,ntmps270;go_wp2;go_ret;exact ⟨rfl,S_⟩
theorem aPy (s:ByteArray) (n L:Int) (w:World) (he:(s.toList==[])=true):R_ 270 #[.agg #[.int .i64 6,.string s,n],L] w (.bool (inB n 4 7)):=by
 go_enter func270,ntmps270;go_wp2_with fail;refine z_ (hG n 4 7 _) ?_;go_wp2;go_ret;exact ⟨rfl,S_⟩
theorem aO1 (s:ByteArray) (n L:Int) (w:World) (he:cT s=false):R_ 270 #[.agg #[.int .i64 2,.string s,n],L] w (.bool false):=by
 go_enter func270,ntmps270;go_wp2_with fail;refine z_ (iP s _) ?_;rw [he];go_wp2;go_ret;exact ⟨rfl,S_⟩
theorem aPz (s:ByteArray) (n L:Int) (w:World) (he:cT s=true):R_ 270 #[.agg #[.int .i64 2,.string s,n],L] w (.bool (decide (n=0))):=by
 go_enter func270,ntmps270;go_wp2_with fail;refine z_ (iP s _) ?_;rw [he];go_wp2;go_ret;exact ⟨rfl,S_⟩
theorem aP0 (s:ByteArray) (n L:Int) (w:World) (he:0<=cA s):R_ 270 #[.agg #[.int .i64 7,.string s,n],L] w (.bool (decide (n=0))):=by
 obtain ⟨k,hk⟩:∃k,cA s=k:=⟨_,rfl⟩
 rw [hk] at he;have HA:=hid hk;clear hk;go_enter func270,ntmps270;go_wp2_with fail;refine z_ (mL s _) ?_;rw [HA];go_wp2;go_ret;exact ⟨rfl,S_⟩
theorem aO2 (s:ByteArray) (n L:Int) (w:World) (he:cA s<0):R_ 270 #[.agg #[.int .i64 7,.string s,n],L] w (.bool false):=by
 obtain ⟨k,hk⟩:∃k,cA s=k:=⟨_,rfl⟩
 rw [hk] at he;have HA:=hid hk;clear hk;go_enter func270,ntmps270;go_wp2_with fail;refine z_ (mL s _) ?_;rw [HA];go_wp2;go_ret;exact ⟨rfl,S_⟩
theorem aP1 (op:Int) (s:ByteArray) (n L:Int) (w:World) (h : ¬(1<=op/\op<=7)):R_ 270 #[.agg #[op,.string s,n],L] w (.bool false):=by
 have h1:op≠1:=by omega
 have h2:op≠2:=by omega
 have h3:op≠3:=by omega
 have h4:op≠4:=by omega
 have h5:op≠5:=by omega
 have h6:op≠6:=by omega
 have h7:op≠7:=by omega
 clear h;go_enter func270,ntmps270;go_wp2;go_ret;exact ⟨rfl,S_⟩
theorem aIh {s:ByteArray} {l:List UInt8} (h:s.toList=l):s=⟨l.toArray⟩:=by
 rw [Lib.toList_data] at h;subst h
 cases s
 simp
def SS (lo hi:Nat) (w:World) (v:Value) (S:List (List Int)):Prop:=
 ∃a cap,v = .slice a S.length cap/\S.length<=cap/\cap<=maxLen/\∀i xs,S[i]?=some xs->∃b off u,a=some ⟨b,off,none⟩/\lo<=b/\b<hi/\w.cell? ⟨b,off+i,none⟩=some u/\aU lo hi w u xs
structure aN7 (lo hi:Nat) (w:World) (a:Option Addr) (cap:Nat) (S:List (List Int)):Prop where
 le:S.length<=cap
 cap:cap<=9223372036854775807
 cell:∀i xs,S[i]?=some xs->∃b off u,a=some ⟨b,off,none⟩/\lo<=b/\b<hi/\w.cell? ⟨b,off+i,none⟩=some u/\aU lo hi w u xs
theorem SS.open {lo hi:Nat} {S:List (List Int)} (h:SS lo hi w v S):∃a cap,v = .slice a S.length cap/\aN7 lo hi w a cap S:=by
 obtain ⟨a,cap,g1,g2,g3,g4⟩:=h;exact ⟨a,cap,g1,g2,by unfold maxLen at g3;omega,g4⟩
theorem aN7.at {lo hi:Nat} {a:Option Addr} {S:List (List Int)} (h:aN7 lo hi w a cap S) (hk:k<S.length) (hx:Ext w wr) (hh:hi<=w.heap.size) :
  ∃b off u,a=some ⟨b,off,none⟩/\b<w.heap.size/\b<wr.heap.size/\wr.cell? ⟨b,off+k,none⟩=some u/\aU lo hi wr u S[k]:=by
 obtain ⟨b,off,u,e,h1,h2,c0,hu⟩:=h.cell k S[k] (by simp [hk]);have hz:=hx.size;exact ⟨b,off,u,e,by omega,by omega,(hx.cells.1 b _ (by omega)).trans c0,hu.ext hh hx⟩
theorem bE.ownInts {b n:Nat} {lo:Nat} (h:bE w b 3 n f) (hb:lo<=b) (hm:n<=maxLen) (hi:∀i,i<n->I64 (f i)):aB lo w (.slice (some ⟨b,0,none⟩) n n) ((aRl n).map f):=by
 obtain ⟨c,h1,h2,h3⟩:=h
 have hl:((aRl n).map f).length=n:=by simp
 refine ⟨⟨by simp,.inr ⟨b,n,c,by rw [hl],hb,h1,by rw [hl];exact aQv _,hm,by rw [h2,aUv],?_⟩⟩,fun x hx=>?_⟩
 ·apply aU6
  intro i;rw [aS1,hl,aUv,aSo,aSo]
  by_cases h0:i<n
  ·rw [if_pos h0,List.getElem?_range h0]
   simpa using h3 i h0
  ·rw [if_neg h0,aU0 (by simp;omega)]
   rfl
 ·obtain ⟨i,hi',rfl⟩:=aS3.1 hx
  exact hi i (aR4.1 hi')
theorem aJ4 (w:World) (r clock i:Nat) (es:Array MapEntry) (s:ByteArray) (v:Value) (hb:w.heap[r]?=some (.map es clock)) (hf:aTl .string (.string s) es.toList 0=some (some (i,v))) :
  (bAc 310 (.map (some r)) (.string s) false).run aQ2 w = .ok v w:=by
 have hc:=fun b=>aZw (P:=aQ2) (w:=w) (k:=.string s) underlying9 (by simp [MapKept.IsKey]) b 9999;have hm:=underlying310;simp [bAc,run_underlying hm,aY4 hb,hc,aZ2 underlying9 hf,Result.andThen]
theorem nR (w:World) {o:Oper} {a:Act} (hg:o.guard=none) (m x:Operand) (hop:o.op=Op.lookup 310 m x false)
  (b clock i:Nat) (es:Array MapEntry) (hm:a.eval m = .map (some b)) (hb:w.heap[b]?=some (.map es clock)) (s:ByteArray) (hx:a.eval x = .string s) (v:Value) (hf:aTl .string (.string s) es.toList 0=some (some (i,v)))
  (hK:wpList aQ2 ops Q rest (a.put o.dst v) w):wpList aQ2 ops Q (o::rest) a w:=by
 refine wpList_plain hg fun K' hK'=>?_;have h0:=aJ4 w b clock i es s v hb hf;unfold Oper.wp;simp [execOp,hop,hm,hx,h0,Result.andThen];exact hK' _ _ hK
def Kp (a b:Nat) (w w':World):Prop:=w.heap.size<=w'.heap.size/\∀k,a<=k->k<b->w'.heap[k]?=w.heap[k]?
theorem Ext.kp (h:Ext w w') {a b:Nat} (hb:b<=w.heap.size):Kp a b w w':=⟨h.size,fun _ _ h2=>h.block (by omega)⟩
theorem jP.kp {lo:Nat} (h:jP lo M w w') {a b:Nat} (hb:b<=w.heap.size) (hs:b<=lo\/M<=a):Kp a b w w':=⟨h.size,fun k h1 h2=>h.block (by omega) (by omega)⟩
theorem Kp.same {a b:Nat} (h:Kp a b w w'):aM a b w w':=fun k h1 h2=>h.2 k h1 h2
def Bx (w:World) (B:Nat) (cs:Array Value) (t:TypeId):Prop:=w.heap[B]?=some (.cells cs t)
theorem Bx.made (w:World) (cs:Array Value) (t:TypeId):Bx (w.alloc (.cells cs t)) w.heap.size cs t:=by show (w.heap.push _)[w.heap.size]?=_;simp
theorem Bx.madeAt (w:World) (cs:Array Value) (t:TypeId) (h:w.heap.size=B):Bx (w.alloc (.cells cs t)) B cs t:=h▸Bx.made w cs t
theorem Bx.lt (h:Bx w B cs t):B<w.heap.size:=(aRi.1 h).1
theorem Bx.kp (h:Bx w B cs t) (k:Kp B (B+1) w w'):Bx w' B cs t:=(k.2 B (aQv _) (by omega)).trans h
theorem Bx.cell (h:Bx w B cs t) (i:Nat):w.cell? ⟨B,i,none⟩=cs[i]?:=by
 unfold Bx at h;simp [aSy,h]
def fW (lo hi:Nat) (w:World) (v:Value) (xs:List Int):Prop:=aB lo w v xs/\∀k,v.ownBlock=some k->k<hi
theorem aB.o {lo:Nat} (h:aB lo w v xs):fW lo w.heap.size w v xs:=⟨h,fun k hk=>(h.lt k hk).2⟩
theorem fW.kp {lo hi:Nat} (h:fW lo hi w v xs) (k:Kp lo hi w w'):fW lo hi w' v xs:=by
 obtain ⟨⟨⟨h1,h2⟩,h3⟩,h4⟩:=h;refine ⟨⟨⟨h1,?_⟩,h3⟩,h4⟩
 rcases h2 with hn|⟨g,cap,cur,hv,hb,hg,r⟩
 ·exact .inl hn
 ·exact .inr ⟨g,cap,cur,hv,hb,by rw [k.2 g hb (h4 g (by rw [hv];rfl))];exact hg,r⟩
theorem Bx.q2 (h:Bx w B #[v0,v1] t):w.cell? ⟨B,0,none⟩=some v0/\w.cell? ⟨B,1,none⟩=some v1:=⟨(h.cell 0).trans rfl,(h.cell 1).trans rfl⟩
theorem Bx.q4 (h:Bx w B #[v0,v1,v2,v3] t):w.cell? ⟨B,0,none⟩=some v0/\w.cell? ⟨B,1,none⟩=some v1/\w.cell? ⟨B,2,none⟩=some v2/\w.cell? ⟨B,3,none⟩=some v3:=⟨(h.cell 0).trans rfl,(h.cell 1).trans rfl,(h.cell 2).trans rfl,(h.cell 3).trans rfl⟩
theorem Bx.q5 (h:Bx w B #[v0,v1,v2,v3,v4] t):w.cell? ⟨B,0,none⟩=some v0/\w.cell? ⟨B,1,none⟩=some v1/\w.cell? ⟨B,2,none⟩=some v2/\w.cell? ⟨B,3,none⟩=some v3/\w.cell? ⟨B,4,none⟩=some v4:=⟨(h.cell 0).trans rfl,(h.cell 1).trans rfl,(h.cell 2).trans rfl,(h.cell 3).trans rfl,(h.cell 4).trans rfl⟩
theorem Bx.q12 {v11:Value} (h:Bx w B #[v0,v1,v2,v3,v4,v5,v6,v7,v8,v9,v10,v11] t):w.cell? ⟨B,0,none⟩=some v0/\w.cell? ⟨B,1,none⟩=some v1/\w.cell? ⟨B,2,none⟩=some v2/\w.cell? ⟨B,3,none⟩=some v3/\w.cell? ⟨B,4,none⟩=some v4/\w.cell? ⟨B,5,none⟩=some v5/\w.cell? ⟨B,6,none⟩=some v6/\w.cell? ⟨B,7,none⟩=some v7/\w.cell? ⟨B,8,none⟩=some v8/\w.cell? ⟨B,9,none⟩=some v9/\w.cell? ⟨B,10,none⟩=some v10/\w.cell? ⟨B,11,none⟩=some v11:=⟨(h.cell 0).trans rfl,(h.cell 1).trans rfl,(h.cell 2).trans rfl,(h.cell 3).trans rfl,(h.cell 4).trans rfl,(h.cell 5).trans rfl,(h.cell 6).trans rfl,(h.cell 7).trans rfl,(h.cell 8).trans rfl,(h.cell 9).trans rfl,(h.cell 10).trans rfl,(h.cell 11).trans rfl⟩
theorem Bx.frozen (h:Bx w B cs t) (i:Nat):w.frozen? ⟨B,i,none⟩=false:=by
 unfold Bx at h;simp [aWg,h]
theorem Bx.ext (h:Bx w B cs t) (e:Ext w w'):Bx w' B cs t:=h.kp (e.kp h.lt)
theorem Bx.set (h:Bx w B cs t) (i:Nat) (v:Value):Bx (w.setCell ⟨B,i,none⟩ v) B (cs.setIfInBounds i v) t:=by
 unfold Bx at *;simp [World.setCell,Array.getElem?_modify,h]
theorem Bx.other (h:Bx w B cs t) (hp:B≠p.block) (v:Value):Bx (w.setCell p v) B cs t:=(aQ7 _ _ _ _ hp).trans h
theorem Bx.same {cs':Array Value} (h:Bx w B cs t) (e:cs=cs'):Bx w B cs' t:=e▸h
theorem jP.trans {lo:Nat} (h:jP lo M w w1) (k:jP lo M w1 w2):jP lo M w w2:=⟨aQ5 h.size k.size,h.low.trans k.low,fun b hb hl=>(k.high b hb (by have:=h.size;omega)).trans (h.high b hb hl)⟩
theorem aO3 (w:World) (x:Int):∃r:ByteArray,r.size=1/\(convert 278 9 (.slice (some ⟨w.heap.size,0,none⟩) 1 1)).run aQ2 (w.alloc (.cells #[.int .u8 x] 5)) = .ok (.string r) (w.alloc (.cells #[.int .u8 x] 5)):=by
 have h1:=run_bytesToString (P:=aQ2) (w.alloc (.cells #[.int .u8 x] 5)) ⟨w.heap.size,0,none⟩ 1 1 [x] (by simp [loadCells,loadCellsFrom,go_sem]);rw [<-run_convert_bytes_string _ 278 9 5 _ _ _ underlying278 underlying5 underlying9] at h1;exact ⟨_,by rfl,h1⟩
theorem dL {s:ByteArray} {b:Bool} (h:cT s=b) (w:World):R_ 135 #[.string s] w (.bool b):=h▸uS s w
theorem mM {s:ByteArray} (h:cA s=b) (w:World):Z_ 134 #[.string s] w (.int .i64 b):=h▸aFi s w
theorem qJ {s:ByteArray} (h:cA s=b) (w:World):Z_ 242 #[.string s] w (.int .i64 b):=h▸mL s w
structure Ins where
 op:Int
 name:ByteArray
 num:Int
def Ins.val (x:Ins):Value:=.agg #[x.op,.string x.name,x.num]
def wfI (op:Int) (s:ByteArray) (n L:Int):Bool:=
 if op=1 then s.toList==[] else if op=2 then cT s&&decide (n=0) else if op=3 then s.toList==[]&&inB n 0 (L - 1) else if op=4 then s.toList==[]&&inB n 0 (L - 1)
 else if op=5 then s.toList==[]&&decide (n=3) else if op=6 then s.toList==[]&&inB n 4 7 else if op=7 then decide (0<=cA s)&&decide (n=0) else false
theorem aL7 (op:Int) (s:ByteArray) (n L:Int) (w:World) (h0:0<=L) (h1:L<=2000000):R_ 270 #[.agg #[op,.string s,n],L] w (.bool (wfI op s n L)):=by
 by_cases h:1<=op/\op<=7
 case neg=>
  have e:wfI op s n L=false:=by
   unfold wfI;rw [if_neg (by omega),if_neg (by omega),if_neg (by omega),if_neg (by omega),if_neg (by omega),if_neg (by omega),if_neg (by omega)]
  rw [e];exact aP1 op s n L w h
 rcases (show op=1\/op=2\/op=3\/op=4\/op=5\/op=6\/op=7 by omega) with rfl|rfl|rfl|rfl|rfl|rfl|rfl
 ·cases he:(s.toList==[])
  ·rw [show wfI 1 s n L=false by simp [wfI,he]];exact aOw s n L w he
  ·rw [show wfI 1 s n L=true by simp [wfI,he]];exact aPu s n L w he
 ·cases he:cT s
  ·rw [show wfI 2 s n L=false by simp [wfI,he]];exact aO1 s n L w he
  ·rw [show wfI 2 s n L=decide (n=0) by simp [wfI,he]];exact aPz s n L w he
 ·cases he:(s.toList==[])
  ·rw [show wfI 3 s n L=false by simp [wfI,he]];exact aOx s n L w he
  ·rw [show wfI 3 s n L=inB n 0 (L - 1) by simp [wfI,he]];exact aPv s n L w he h0 h1
 ·cases he:(s.toList==[])
  ·rw [show wfI 4 s n L=false by simp [wfI,he]];exact aOy s n L w he
  ·rw [show wfI 4 s n L=inB n 0 (L - 1) by simp [wfI,he]];exact aPw s n L w he h0 h1
 ·cases he:(s.toList==[])
  ·rw [show wfI 5 s n L=false by simp [wfI,he]];exact aOz s n L w he
  ·rw [show wfI 5 s n L=decide (n=3) by simp [wfI,he]];exact aPx s n L w he
 ·cases he:(s.toList==[])
  ·rw [show wfI 6 s n L=false by simp [wfI,he]];exact aO0 s n L w he
  ·rw [show wfI 6 s n L=inB n 4 7 by simp [wfI,he]];exact aPy s n L w he
 ·by_cases he:0<=cA s
  ·rw [show wfI 7 s n L=decide (n=0) by simp [wfI,he]];exact aP0 s n L w he
  ·rw [show wfI 7 s n L=false by simp [wfI,he]];exact aO2 s n L w (by omega)
theorem aNh (a1 a2:Option Addr) (n1 c1 c2 L:Nat) (hL:L<=2000000) (s:ByteArray) (n:Int) (w:World) (he:(s.toList==[])=be) (hl:inB n 0 ((L:Int) - 1)=bl) :
  R_ 234 #[.agg #[.slice a1 n1 c1,.slice a2 L c2],.agg #[.int .i64 1,.string s,n]] w (.tuple #[(),.int .i64 1,.bool be]):=by
 cases be <;> cases bl
 all_goals
  go_enter func234,ntmps234;go_wp2_with (go_at_call 46;refine z_ (aE hl _) ?_);refine aA [([0,1,2,3,4],5)] 99 (w.heap.size+1+1) (by kernel_rfl) (by kernel_rfl) ?_;refine st_ fun K hK=>?_;go_wp2_with fail;go_wp2_with fail;refine k_ hK ?_;clear hK K;refine aC ?_;go_wp2;refine bodyPost_ret (v:=.tuple #[(),.int .i64 1,.bool _]) (by simp [results,results234,go_sem] <;> rfl) rfl ⟨rfl,S_⟩
theorem aNi (a1 a2:Option Addr) (n1 c1 c2 L:Nat) (hL:L<=2000000) (s:ByteArray) (n:Int) (w:World) {bv:Bool} (he:(s.toList==[])=be) (hl:inB n 0 ((L:Int) - 1)=bl) (hv:cT s=bv) :
  R_ 234 #[.agg #[.slice a1 n1 c1,.slice a2 L c2],.agg #[.int .i64 2,.string s,n]] w (.tuple #[(),.int .i64 1,.bool (bv&&decide (n=0))]):=by
 rcases (by omega:n=0\/n≠0) with rfl|h0 <;> cases be <;> cases bl <;> cases bv
 all_goals
  try have e0:(n==0)=false:=beq_eq_false_iff_ne.2 h0
  go_enter func234,ntmps234;go_wp2_with (go_at_call 46;refine z_ (aE hl _) ?_);refine aA [([0,1],2),([3,4,5,6,7,8,9],10)] 99 (w.heap.size+1+1) (by kernel_rfl) (by kernel_rfl) ?_;refine st_ fun K hK=>?_;go_wp2_with fail;refine r_ (dL hv _) fun w1 x1=>?_;have X1:Ext w w1:=Ext.trans X_ x1;go_wp2_with fail;refine hK _ _ (.inr (fun k _ hk=>x1.block (by first|omega|(simp;omega)))) ?_;clear hK K;refine st_ fun K hK=>?_;go_wp2_with fail;go_wp2_with fail;refine hK _ _ (.inr (fun k _ hk=>x1.block (by first|omega|(simp;omega)))) ?_;clear hK K;refine aC ?_;go_wp2;refine bodyPost_ret (v:=.tuple #[(),.int .i64 1,.bool _]) (by first|(simp [results,results234,go_sem,h0];done)|(simp [results,results234,go_sem];done)) rfl ⟨rfl,X1⟩
theorem aNj (a1 a2:Option Addr) (n1 c1 c2 L:Nat) (hL:L<=2000000) (s:ByteArray) (n:Int) (w:World) (he:(s.toList==[])=be) (hl:inB n 0 ((L:Int) - 1)=bl) :
  R_ 234 #[.agg #[.slice a1 n1 c1,.slice a2 L c2],.agg #[.int .i64 3,.string s,n]] w (.tuple #[(),.int .i64 1,.bool (be&&bl)]):=by
 cases be <;> cases bl
 all_goals
  go_enter func234,ntmps234;go_wp2_with (go_at_call 46;refine z_ (aE hl _) ?_);go_wp2;refine bodyPost_ret (v:=.tuple #[(),.int .i64 1,.bool _]) (by simp [results,results234,go_sem] <;> rfl) rfl ⟨rfl,S_⟩
theorem aNk (a1 a2:Option Addr) (n1 c1 c2 L:Nat) (hL:L<=2000000) (s:ByteArray) (n:Int) (w:World) (he:(s.toList==[])=be) (hl:inB n 0 ((L:Int) - 1)=bl) :
  R_ 234 #[.agg #[.slice a1 n1 c1,.slice a2 L c2],.agg #[.int .i64 4,.string s,n]] w (.tuple #[.int .i64 1,(),.bool (be&&bl)]):=by
 cases be <;> cases bl
 all_goals
  go_enter func234,ntmps234;go_wp2_with (go_at_call 46;refine z_ (aE hl _) ?_);go_wp2;refine bodyPost_ret (v:=.tuple #[.int .i64 1,(),.bool _]) (by simp [results,results234,go_sem] <;> rfl) rfl ⟨rfl,S_⟩
theorem aNl (a1 a2:Option Addr) (n1 c1 c2 L:Nat) (hL:L<=2000000) (s:ByteArray) (n:Int) (w:World) (he:(s.toList==[])=be) (hl:inB n 0 ((L:Int) - 1)=bl) :
  R_ 234 #[.agg #[.slice a1 n1 c1,.slice a2 L c2],.agg #[.int .i64 5,.string s,n]] w (.tuple #[.int .i64 1,.int .i64 1,.bool (be&&decide (n=3))]):=by
 rcases (by omega:n=3\/n≠3) with rfl|h0 <;> cases be <;> cases bl
 all_goals
  try have e0:(n==3)=false:=beq_eq_false_iff_ne.2 h0
  go_enter func234,ntmps234;go_wp2_with (go_at_call 46;refine z_ (aE hl _) ?_);refine aA [([0,1,2,3,4,5,6,7,8,9],10)] 99 (w.heap.size+1+1) (by kernel_rfl) (by kernel_rfl) ?_;refine st_ fun K hK=>?_;go_wp2_with fail;go_wp2_with fail;refine k_ hK ?_;clear hK K;refine aC ?_;go_wp2;refine bodyPost_ret (v:=.tuple #[.int .i64 1,.int .i64 1,.bool _]) (by first|(simp [results,results234,go_sem,h0];done)|(simp [results,results234,go_sem];done)) rfl ⟨rfl,S_⟩
theorem aNm (a1 a2:Option Addr) (n1 c1 c2 L:Nat) (hL:L<=2000000) (s:ByteArray) (n:Int) (w:World) {bq:Bool} (he:(s.toList==[])=be) (hl:inB n 0 ((L:Int) - 1)=bl) (hq:inB n 4 7=bq) :
  R_ 234 #[.agg #[.slice a1 n1 c1,.slice a2 L c2],.agg #[.int .i64 6,.string s,n]] w (.tuple #[.int .i64 2,.int .i64 1,.bool (be&&bq)]):=by
 cases be <;> cases bl <;> cases bq
 all_goals
  go_enter func234,ntmps234;go_wp2_with (go_at_call 46;refine z_ (aE hl _) ?_);refine aA [([0,1],2),([3,4,5,6,7,8,9],10)] 99 (w.heap.size+1+1) (by kernel_rfl) (by kernel_rfl) ?_;refine st_ fun K hK=>?_;go_wp2_with fail;refine z_ (aE hq _) ?_;go_wp2_with fail;refine k_ hK ?_;clear hK K;refine st_ fun K hK=>?_;go_wp2_with fail;go_wp2_with fail;refine k_ hK ?_;clear hK K;refine aC ?_;go_wp2;refine bodyPost_ret (v:=.tuple #[.int .i64 2,.int .i64 1,.bool _]) (by simp [results,results234,go_sem] <;> rfl) rfl ⟨rfl,S_⟩
theorem aNn (a1 a2:Option Addr) (n1 c1 c2 L:Nat) (hL:L<=2000000) (s:ByteArray) (n:Int) (w:World) (he:(s.toList==[])=be) (hl:inB n 0 ((L:Int) - 1)=bl) {k:Int} (hk:cA s=k) :
  R_ 234 #[.agg #[.slice a1 n1 c1,.slice a2 L c2],.agg #[.int .i64 7,.string s,n]] w (.tuple #[k,.int .i64 1,.bool (decide (0<k)&&decide (n=0))]):=by
 rcases (by omega:n=0\/n≠0) with rfl|h0 <;> by_cases h1:0<k <;> cases be <;> cases bl
 all_goals
  try have e0:(n==0)=false:=beq_eq_false_iff_ne.2 h0
  first|have e1:decide (k > 0)=true:=decide_eq_true h1|have e1:decide (k > 0)=false:=decide_eq_false h1
  go_enter func234,ntmps234;go_wp2_with (go_at_call 46;refine z_ (aE hl _) ?_);refine aA [([0,1,3,4],2),([],5),([6,7,8,9,10,11,12,13],14)] 99 (w.heap.size+1+1) (by kernel_rfl) (by kernel_rfl) ?_;refine st_ fun K hK=>?_;go_wp2_with fail;refine z_ (mM hk _) ?_;go_wp2_with fail;refine k_ hK ?_;clear hK K;refine st_ fun K hK=>?_;go_wp2_with fail;refine z_ (mM hk _) ?_;go_wp2_with fail;refine k_ hK ?_;clear hK K;refine st_ fun K hK=>?_;go_wp2_with fail;go_wp2_with fail;refine k_ hK ?_;clear hK K;refine aC ?_;go_wp2;refine bodyPost_ret (v:=.tuple #[k,.int .i64 1,.bool _]) (by first|(simp [results,results234,go_sem,h0,h1];done)|(simp [results,results234,go_sem,h1];done)) rfl ⟨rfl,S_⟩
theorem aO4 (a1 a2:Option Addr) (n1 c1 c2 L:Nat) (hL:L<=2000000) (s:ByteArray) (n:Int) (w:World) (he:(s.toList==[])=be) (hl:inB n 0 ((L:Int) - 1)=bl) (op:Int) (h : ¬(1<=op/\op<=7)) :
  R_ 234 #[.agg #[.slice a1 n1 c1,.slice a2 L c2],.agg #[op,.string s,n]] w (.tuple #[(),(),.bool false]):=by
 have h1:op≠1:=by omega
 have h2:op≠2:=by omega
 have h3:op≠3:=by omega
 have h4:op≠4:=by omega
 have h5:op≠5:=by omega
 have h6:op≠6:=by omega
 have h7:op≠7:=by omega
 clear h
 cases be <;> cases bl
 all_goals
  go_enter func234,ntmps234;go_wp2_with (go_at_call 46;refine z_ (aE hl _) ?_);go_wp2;refine bodyPost_ret (v:=.tuple #[(),(),.bool false]) (by simp [results,results234,go_sem] <;> rfl) rfl ⟨rfl,S_⟩
def aFj (lo hi:Nat) (w:World) (v:Value) (xs:List Ins):Prop:=
 ∃a cap,v = .slice a xs.length cap/\xs.length<=cap/\cap<=maxLen/\∀i x,xs[i]?=some x->(I64 x.op/\I64 x.num)/\∃b off,a=some ⟨b,off,none⟩/\lo<=b/\b<hi/\w.cell? ⟨b,off+i*3,none⟩=some (.int .i64 x.op)/\w.cell? ⟨b,off+i*3+1,none⟩=some (.string x.name)/\w.cell? ⟨b,off+i*3+2,none⟩=some (.int .i64 x.num)
theorem aFj.same {lo hi:Nat} {xs:List Ins} (h:aFj lo hi w v xs) (s:aM lo hi w w'):aFj lo hi w' v xs:=by
 obtain ⟨a,cap,h1,h2,h3,h4⟩:=h;refine ⟨a,cap,h1,h2,h3,fun i x hx=>?_⟩;obtain ⟨h5,b,q1,h6,h7,h8,h9,h0,q0⟩:=h4 i x hx;exact ⟨h5,b,q1,h6,h7,h8,by rw [s.cell h7 h8];exact h9,by rw [s.cell h7 h8];exact h0,by rw [s.cell h7 h8];exact q0⟩
structure aBm (lo hi:Nat) (w:World) (a:Option Addr) (cap:Nat) (xs:List Ins):Prop where
 le:xs.length<=cap
 cap:cap<=9223372036854775807
 cell:∀i x,xs[i]?=some x->(I64 x.op/\I64 x.num)/\∃b off,a=some ⟨b,off,none⟩/\lo<=b/\b<hi/\w.cell? ⟨b,off+i*3,none⟩=some (.int .i64 x.op)/\w.cell? ⟨b,off+i*3+1,none⟩=some (.string x.name)/\w.cell? ⟨b,off+i*3+2,none⟩=some (.int .i64 x.num)
theorem aFj.open {lo hi:Nat} {xs:List Ins} (h:aFj lo hi w v xs):∃a cap,v = .slice a xs.length cap/\aBm lo hi w a cap xs:=by
 obtain ⟨a,cap,g1,g2,g3,g4⟩:=h;exact ⟨a,cap,g1,g2,by unfold maxLen at g3;omega,g4⟩
theorem aBm.at {lo hi:Nat} {a:Option Addr} {xs:List Ins} (h:aBm lo hi w a cap xs) (hk:k<xs.length) (hx:Ext w wr) (hh:hi<=w.heap.size) :
  ∃b off op s n,a=some ⟨b,off,none⟩/\b<w.heap.size/\b<wr.heap.size/\xs.drop k=⟨op,s,n⟩::xs.drop (k+1)/\xs[k]?=some ⟨op,s,n⟩/\I64 op/\I64 n/\wr.cell? ⟨b,off+k*3,none⟩=some (.int .i64 op)/\wr.cell? ⟨b,off+k*3+1,none⟩=some (.string s)/\wr.cell? ⟨b,off+k*3+2,none⟩=some (.int .i64 n):=by
 obtain ⟨⟨i1,i2⟩,b,off,e,h1,h2,c0,c1,c2⟩:=h.cell k xs[k] (by simp [hk]);have hz:=hx.size;refine ⟨b,off,xs[k].op,xs[k].name,xs[k].num,e,by omega,by omega,List.drop_eq_getElem_cons hk,by simp [hk],i1,i2,?_,?_,?_⟩
 ·exact (hx.cells.1 b _ (by omega)).trans c0
 ·exact (hx.cells.1 b _ (by omega)).trans c1
 ·exact (hx.cells.1 b _ (by omega)).trans c2
structure Cod where
 xs:List Ins
 ls:List ByteArray
def Cod.R (c:Cod) (lo hi:Nat) (w:World) (v:Value):Prop:=∃iu lu,v = .agg #[iu,lu]/\aFj lo hi w iu c.xs/\qF lo hi w lu c.ls
theorem Cod.R.same {c:Cod} {lo hi:Nat} (h:c.R lo hi w v) (s:aM lo hi w w'):c.R lo hi w' v:=by
 obtain ⟨iu,lu,h1,h2,h3⟩:=h;exact ⟨iu,lu,h1,h2.same s,h3.same s⟩
theorem Cod.R.ext {c:Cod} {lo hi:Nat} (h:c.R lo hi w v) (hh:hi<=w.heap.size) (e:Ext w w'):c.R lo hi w' v:=h.same (e.same hh)
theorem Cod.R.form {c:Cod} {lo hi:Nat} (h:c.R lo hi w v):∃a1 c1 a2 c2,v = .agg #[.slice a1 c.xs.length c1,.slice a2 c.ls.length c2]/\aBm lo hi w a1 c1 c.xs/\aBa lo hi w a2 c2 c.ls:=by
 obtain ⟨iu,lu,rfl,h2,h3⟩:=h;obtain ⟨a1,c1,rfl,H1⟩:=h2.open;obtain ⟨a2,c2,rfl,H2⟩:=h3.open;exact ⟨a1,c1,a2,c2,rfl,H1,H2⟩
def iA (op n:Int) (st:Nat->Bool):Nat->Bool:=if op=4 then fun j=>if j=n.toNat then true else st j else st
def iB (L:Nat):List Ins->Int->Int->(Nat->Bool)->Option Int
 | [],d,m,_=>if d=0 then some m else none
 | x::r,d,m,st=>
  if wfI x.op x.name x.num L=true/\(x.op=3->st x.num.toNat=true)/\cI x.op x.name<=d then
   iB L r (d - cI x.op x.name+fZ x.op) (if d - cI x.op x.name+fZ x.op > m then d - cI x.op x.name+fZ x.op else m) (iA x.op x.num st) else none
def Cod.depth (c:Cod):Option Int:=if c.xs.length<=300 then iB c.ls.length c.xs 0 0 (fun _=>false) else none
theorem nS (s:ByteArray) : -1<=cA s/\cA s<=3/\cA s≠0:=by
 unfold cA kT
 repeat' split
 all_goals decide
theorem aBn {s:ByteArray} {n:Int} (h:wfI op s n L=true):0<=cI op s/\cI op s<=3:=by
 have:=nS s;unfold cI
 split
 ·omega
 split
 ·omega
 split
 ·omega
 split
 ·rename_i h7
  subst h7;simp [wfI] at h;omega
 ·omega
theorem aHd (op:Int):0<=fZ op/\fZ op<=1:=by
 unfold fZ
 split <;> omega
theorem nB {s:ByteArray} {n:Int} (h:wfI op s n L=true) (ho:op=3\/op=4):∃j:Nat,n=j/\j<L:=by
 have e:inB n 0 ((L:Int) - 1)=true:=by
  rcases ho with rfl|rfl <;> (simp [wfI] at h;exact h.2)
 have:=aG.1 e;exact ⟨n.toNat,by omega,by omega⟩
def yX (w:World) (b:Nat) (n:Nat) (f:Nat->Bool):Prop:=w.rowIs b 4 n (fun i=>.bool (f i))
theorem yX.ext {b:Nat} {n:Nat} {f:Nat->Bool} (h:yX w b n f) (e:Ext w w'):yX w' b n f:=aUj h (e.block (aTk h))
theorem yX.mark {b:Nat} {n:Nat} {f:Nat->Bool} (h:yX w b n f) (j:Nat):yX (w.setCell ⟨b,j,none⟩ (.bool true)) b n (fun i=>if i=j then true else f i):=by
 refine aTa (aXu h j (.bool true)) fun i _=>?_
 by_cases e:i=j
 ·subst e;simp
 ·simp [e]
theorem qK:(Tryz.prog.info? 4).map (fun i=>(i.zero,i.size,i.bytes))=some (some (.bool false),1,1):=by kernel_rfl
theorem oQ {s:ByteArray} {n:Int} {b:Bool} (h:wfI op s n L=b) (h1:L<=2000000) (w:World):R_ 270 #[.agg #[op,.string s,n],L] w (.bool b):=h▸aL7 op s n L w (by omega) (by omega)
theorem oR {s:ByteArray} {p q:Int} (hp:cI op s=p) (hq:fZ op=q) (n:Int) (w:World):R_ 271 #[.agg #[op,.string s,n]] w (.tuple #[p,q]):=hp▸hq▸aIg op s n w
theorem aDd {d m:Int} {st:Nat->Bool} {R:Option Int} (h:iB L [] d m st=R):R=if d=0 then some m else none:=h.symm
structure jQ (w:World) (B:Nat) (op:Int) (s:ByteArray) (n:Int):Prop where
 lt:B<w.heap.size
 c0:w.cell? ⟨B,0,none⟩=some (.int .i64 op)
 c1:w.cell? ⟨B,1,none⟩=some (.string s)
 c2:w.cell? ⟨B,2,none⟩=some (.int .i64 n)
theorem jQ.made (w:World) (op:Int) (s:ByteArray) (n:Int) (ty:TypeId):jQ (w.alloc (.cells #[op,.string s,n] ty)) w.heap.size op s n:=⟨by simp,by simp [go_sem],by simp [go_sem],by simp [go_sem]⟩
theorem jQ.ext {s:ByteArray} {n:Int} (h:jQ w B op s n) (e:Ext w w'):jQ w' B op s n:=by
 have:=e.size;have h0:=h.lt;obtain ⟨a,b⟩:=e.cells;exact ⟨by omega,(a B _ h0).trans h.c0,(a B _ h0).trans h.c1,(a B _ h0).trans h.c2⟩
theorem aFk (lo hi:Nat) (v:Value) (c:Cod) (w:World) (hv:c.R lo hi w v) (hh:hi<=w.heap.size) (hL:c.ls.length<=2000000) :
  R_ 253 #[v] w (.tuple #[(c.depth.getD 0),.bool c.depth.isSome]):=by
 obtain ⟨a1,c1,a2,c2,rfl,HI,HS⟩:=hv.form;have l1:=HI.le;have l2:=HI.cap;have l3:=HS.le;have l4:=HS.cap;clear hv
 obtain ⟨L,q5⟩:∃L,c.ls.length=L:=⟨_,rfl⟩
 rw [q5] at hL l3 ⊢
 by_cases h8:c.xs.length<=300
 case neg=>
  have e:c.depth=none:=by unfold Cod.depth;rw [if_neg h8]
  rw [e];go_enter func253,ntmps253;go_wp2;refine bodyPost_ret (v:=.tuple #[(),.bool false]) (by simp [results,results253,go_sem]) rfl ⟨rfl,S_⟩
 obtain ⟨R,hR⟩:∃R,c.depth=R:=⟨_,rfl⟩
 have h0:iB L c.xs 0 0 (fun _=>false)=R:=by rw [<-hR,<-q5];unfold Cod.depth;rw [if_pos h8]
 rw [hR];have h7:=hid h0;clear h0 hR;obtain ⟨i0,q6,x3,x4,x5⟩:=info_parts qK;go_enter func253,ntmps253;go_wp2_with (at_make;refine wpList_make_row _ rfl _ _ 298 rfl 4 i0 (.bool false) underlying298 q6 x3 x4 rfl .i64 .i64 L rfl rfl (by rw [x5];omega) (by omega) ?_);have h2:=hid (show yX _ _ L (fun _=>false) from aXh (w.alloc (.cells #[.slice a1 c.xs.length c1,.slice a2 L c2] 163)) (.bool false) L 4);have h1:=hid ((hZ.made w (.slice a1 c.xs.length c1) (.slice a2 L c2) 163).ext ((Ext.refl _).alloc (.cells (madeCells #[.bool false] L) 4)));have X0:=hid (show Ext w ((w.alloc (.cells #[.slice a1 c.xs.length c1,.slice a2 L c2] 163)).alloc (.cells (madeCells #[.bool false] L) 4)) from X_);clear q6 x3 x4 x5;go_wp2;simp only [aQy] at h2;generalize hB:w.heap.size+1=B at h2
 go_loopw [5,6,22] (fun dv mv i wr=>∃(k:Nat) (d m:Int) (st:Nat->Bool),k<=c.xs.length/\i = .int .i64 k/\dv = .int .i64 d/\mv = .int .i64 m/\iB L (c.xs.drop k) d m st=R/\0<=d/\d<=k/\0<=m/\m<=k/\Ext w wr/\yX wr B L st/\hZ wr w.heap.size (.slice a1 c.xs.length c1) (.slice a2 L c2)) (fun _ _ i _=>c.xs.length - (intOf i).toNat)
 case atStart=>exact ⟨0,0,0,_,by omega,rfl,rfl,rfl,h7,by omega,by omega,by omega,by omega,X0,h2.out,h1.out⟩
 case round=>
  clear h7 X0 h2 h1;obtain ⟨k,d,m,st,hk,rfl,rfl,rfl,h0,d0,d1,m0,m1,hx,h2,h1⟩:=hrel
  have k0:k<=300:=by omega
  by_cases x8:k<c.xs.length
  ·obtain ⟨b,z9,op,s,n,rfl,z4,z5,h5,q4,io,z8,x0,x1,x2⟩:=HI.at x8 hx hh
   rw [h5] at h0;unfold iB at h0;have q0:=h1.lt;have q1:=h1.c0;have q2:=h1.c1;have HX:=hid hx;have HR:=hid h2;have HQ:=hid h1;clear hx h2 h1 h5 q4
   cases h4:wfI op s n L
   ·have e:R=none:=by rw [<-h0,if_neg (by simp [h4])]
    subst e;clear h0;go_wp2_with fail;refine r_ (oQ h4 hL _) fun w1 x1=>?_;have X1:Ext w w1:=Ext.trans (by have hx:=HX.out;exact X_) x1;go_wp2;refine bodyPost_ret (v:=.tuple #[(),.bool false]) (by simp [results,results253,go_sem]) rfl ⟨rfl,S_⟩
   have pb:=aBn h4;have qb:=aHd op
   obtain ⟨p,hp⟩:∃p,cI op s=p:=⟨_,rfl⟩
   obtain ⟨q,hq⟩:∃q,fZ op=q:=⟨_,rfl⟩
   rw [hp,hq] at h0;rw [hp] at pb;rw [hq] at qb;have HP:=hid hp;have h9:=hid hq;simp only [h4,true_and] at h0
   by_cases h3:op=3/\st n.toNat=false
   ·obtain ⟨rfl,h3⟩:=h3
    obtain ⟨j,rfl,hj⟩:=nB h4 (.inl rfl);simp only [aRr] at h3
    have e:R=none:=by rw [<-h0,if_neg (by simp [h3])]
    subst e;clear h0 hp hq;go_wp2_with fail;refine r_ (oQ h4 hL _) fun w1 x1=>?_;have X1:Ext w w1:=Ext.trans (by have hx:=HX.out;exact X_) x1;have K1:=(jQ.made wr 3 s j 221).ext x1;have R1:=(HR.ext ((Ext.refl _).alloc (.cells #[.int .i64 3,.string s,j] 221))).ext x1;have y0:=K1.lt;have y1:=K1.c0;have y2:=K1.c1;have y3:=K1.c2;have z0:=aSr R1 hj;rw [h3] at z0;have z1:=aTk R1;clear K1 R1 x0 x1 x2;go_wp2;refine bodyPost_ret (v:=.tuple #[(),.bool false]) (by simp [results,results253,go_sem]) rfl ⟨rfl,S_⟩
   have q3:op=3->st n.toNat=true:=fun e=>by
    cases h:st n.toNat
    ·exact absurd ⟨e,h⟩ h3
    ·rfl
   have H3:=hid q3
   by_cases q8:p<=d
   case neg=>
    rw [if_neg (fun h=>q8 h.2)] at h0;subst h0;clear hp hq q3;have z7:(decide (d<p))=true:=decide_eq_true (by omega)
    by_cases e3:op=3
    ·subst e3
     have:=HP.out;have e:cI 3 s=0:=rfl;omega
    go_wp2_with fail;refine r_ (oQ h4 hL _) fun w1 x1=>?_;have X1:Ext w w1:=Ext.trans (by have hx:=HX.out;exact X_) x1;have K1:=(jQ.made wr op s n 221).ext x1;have y0:=K1.lt;have y1:=K1.c0;have y2:=K1.c1;have y3:=K1.c2;clear x0 x1 x2;go_wp2_with fail;refine r_ (oR HP h9 n _) fun w2 x2=>?_;have X2:Ext w w2:=X1.trans x2;go_wp2;refine bodyPost_ret (v:=.tuple #[(),.bool false]) (by simp [results,results253,go_sem]) rfl ⟨rfl,S_⟩
   rw [if_pos ⟨q3,q8⟩] at h0;have h6:=hid h0;clear h0 hp hq q3
   have pl:d - p+q<=(k:Int)+1:=by omega
   have pn:0<=d - p+q:=by omega
   obtain ⟨D,hD⟩:∃D,d - p+q=D:=⟨_,rfl⟩
   rw [hD] at h6 pl pn
   have z3:d+(q - p)=D:=by omega
   have hM:∃M:Int,(if D > m then D else m)=M/\0<=M/\M<=(k:Int)+1:=⟨_,rfl,by split <;> omega,by split <;> omega⟩
   obtain ⟨M,hM,M0,M1⟩:=hM;have HM:=hid hM;clear hD hM
   by_cases e3:op=3
   ·subst e3
    obtain ⟨j,rfl,hj⟩:=nB h4 (.inl rfl);have q9:=H3.out rfl;simp only [aRr] at q9;go_wp2_with fail;refine r_ (oQ h4 hL _) fun w1 x1=>?_;have X1:Ext w w1:=Ext.trans (by have hx:=HX.out;exact X_) x1;have g1:Ext wr w1:=Ext.trans X_ x1;have K1:=(jQ.made wr 3 s j 221).ext x1;have R1:=HR.ext g1;have z0:=aSr R1 hj;rw [q9] at z0;have z1:=aTk R1;have y0:=K1.lt;have y1:=K1.c0;have y2:=K1.c1;have y3:=K1.c2;clear x0 x1 x2;go_wp2_with fail;refine r_ (oR HP h9 j _) fun w2 x2=>?_;have g2:Ext wr w2:=g1.trans x2;have X2:Ext w w2:=X1.trans x2;have K2:=K1.ext x2;have R2:=R1.ext x2;have B2:=HQ.ext g2;clear y0 y1 y2 y3 X1 R1 K1 x2 g1 g2 z0 z1;have y0:=K2.lt;have y1:=K2.c0;have y2:=K2.c1;have y3:=K2.c2;go_wp2;rw [HM];go_roundw
    case rel=>exact ⟨k+1,D,M,_,by omega,by go_num,rfl,rfl,by rw [<-HM];exact h6,pn,by omega,M0,by omega,X2,R2,B2⟩
    case measure=>simp [intOf];omega
   by_cases e4:op=4
   ·subst e4
    obtain ⟨j,rfl,hj⟩:=nB h4 (.inr rfl)
    have x9:B≠w.heap.size:=by omega
    go_wp2_with fail;refine r_ (oQ h4 hL _) fun w1 x1=>?_;have X1:Ext w w1:=Ext.trans (by have hx:=HX.out;exact X_) x1;have g1:Ext wr w1:=Ext.trans X_ x1;have K1:=(jQ.made wr 4 s j 221).ext x1;have R1:=HR.ext g1;have y0:=K1.lt;have y1:=K1.c0;have y2:=K1.c1;have y3:=K1.c2;clear x0 x1 x2;go_wp2_with fail;refine r_ (oR HP h9 j _) fun w2 x2=>?_;have g2:Ext wr w2:=g1.trans x2;have X2:Ext w w2:=X1.trans x2;have K2:=K1.ext x2;have R2:=R1.ext x2;have B2:=HQ.ext g2;clear y0 y1 y2 y3 X1 R1 K1 x2 g1 g2;have y0:=K2.lt;have y1:=K2.c0;have y2:=K2.c1;have y3:=K2.c2;have z0:=aSr R2 hj;have z1:=aTk R2;have z2:=aS2 R2 j;have x6:=hid B2;have x7:=hid R2;clear B2 R2;go_wp2;rw [HM];go_roundw
    case rel=>exact ⟨k+1,D,M,_,by omega,by go_num,rfl,rfl,by rw [<-HM];exact h6,pn,by omega,M0,by omega,X2.setCell (by show w.heap.size<=B;omega) _,x7.mark j,x6.at (by simp) (aQ7 _ _ _ _ (by show w.heap.size≠B;omega))⟩
    case measure=>simp [intOf];omega
   ·have q7:iA op n st=st:=by unfold iA;rw [if_neg e4]
    rw [q7] at h6;clear q7;go_wp2_with fail;refine r_ (oQ h4 hL _) fun w1 x1=>?_;have X1:Ext w w1:=Ext.trans (by have hx:=HX.out;exact X_) x1;have g1:Ext wr w1:=Ext.trans X_ x1;have K1:=(jQ.made wr op s n 221).ext x1;have R1:=HR.ext g1;have y0:=K1.lt;have y1:=K1.c0;have y2:=K1.c1;have y3:=K1.c2;clear x0 x1 x2;go_wp2_with fail;refine r_ (oR HP h9 n _) fun w2 x2=>?_;have g2:Ext wr w2:=g1.trans x2;have X2:Ext w w2:=X1.trans x2;have K2:=K1.ext x2;have R2:=R1.ext x2;have B2:=HQ.ext g2;clear y0 y1 y2 y3 X1 R1 K1 x2 g1 g2;have y0:=K2.lt;have y1:=K2.c0;have y2:=K2.c1;have y3:=K2.c2;go_wp2;rw [HM];go_roundw
    case rel=>exact ⟨k+1,D,M,_,by omega,by go_num,rfl,rfl,by rw [<-HM];exact h6,pn,by omega,M0,by omega,X2,R2,B2⟩
    case measure=>simp [intOf];omega
  ·obtain rfl:k=c.xs.length:=by omega
   rw [aV6] at h0;have e:=aDd h0;clear h0
   by_cases hd:d=0
   ·rw [if_pos hd] at e
    subst e hd;go_wp2;refine bodyPost_ret (v:=.tuple #[m,.bool true]) (by simp [results,results253,go_sem]) rfl ⟨rfl,S_⟩
   ·rw [if_neg hd] at e
    have z6:(d != 0)=true:=by simp [hd]
    subst e;go_wp2;refine bodyPost_ret (v:=.tuple #[(),.bool false]) (by simp [results,results253,go_sem]) rfl ⟨rfl,S_⟩
theorem oS (a1 a2:Option Addr) (n1 c1 c2 L:Nat) (hL:L<=2000000) (op:Int) (s:ByteArray) (n:Int) (w:World) (h:wfI op s n L=true) {p q:Int} (hp:cI op s=p) (hq:fZ op=q) :
  R_ 234 #[.agg #[.slice a1 n1 c1,.slice a2 L c2],.agg #[op,.string s,n]] w (.tuple #[p,q,.bool true]):=by
 subst hp hq
 by_cases ho:1<=op/\op<=7
 case neg=>
  unfold wfI at h;rw [if_neg (by omega),if_neg (by omega),if_neg (by omega),if_neg (by omega),if_neg (by omega),if_neg (by omega),if_neg (by omega)] at h;cases h
 rcases (show op=1\/op=2\/op=3\/op=4\/op=5\/op=6\/op=7 by omega) with rfl|rfl|rfl|rfl|rfl|rfl|rfl
 ·have:=aNh a1 a2 n1 c1 c2 L hL s n w rfl rfl
  rw [show (s.toList==[])=true by simpa [wfI] using h] at this;exact this
 ·have:=aNi a1 a2 n1 c1 c2 L hL s n w rfl rfl rfl
  rw [show (cT s&&decide (n=0))=true by simpa [wfI] using h] at this;exact this
 ·have:=aNj a1 a2 n1 c1 c2 L hL s n w rfl rfl
  rw [show ((s.toList==[])&&inB n 0 ((L:Int) - 1))=true by simpa [wfI] using h] at this;exact this
 ·have:=aNk a1 a2 n1 c1 c2 L hL s n w rfl rfl
  rw [show ((s.toList==[])&&inB n 0 ((L:Int) - 1))=true by simpa [wfI] using h] at this;exact this
 ·have:=aNl a1 a2 n1 c1 c2 L hL s n w rfl rfl
  rw [show ((s.toList==[])&&decide (n=3))=true by simpa [wfI] using h] at this;exact this
 ·have:=aNm a1 a2 n1 c1 c2 L hL s n w rfl rfl rfl
  rw [show ((s.toList==[])&&inB n 4 7)=true by simpa [wfI] using h] at this;exact this
 ·have:=aNn a1 a2 n1 c1 c2 L hL s n w rfl rfl rfl
  have hb:=nS s;rw [show (decide (0<cA s)&&decide (n=0))=true by (simp [wfI] at h;simp;omega)] at this;exact this
theorem aL8 (a1 a2:Option Addr) (n1 c1 c2 L:Nat) (hL:L<=2000000) (op:Int) (s:ByteArray) (n:Int) (w:World) (h:wfI op s n L=false) :
  Calls aQ2 234 #[.agg #[.slice a1 n1 c1,.slice a2 L c2],.agg #[op,.string s,n]] w fun e w'=>(∃p q,e = .returned (.tuple #[p,q,.bool false]))/\Ext w w':=by
 by_cases ho:1<=op/\op<=7
 case neg=>exact (aO4 a1 a2 n1 c1 c2 L hL s n w rfl rfl op ho).mono fun e w' ⟨h1,h2⟩=>⟨⟨_,_,h1⟩,h2⟩
 rcases (show op=1\/op=2\/op=3\/op=4\/op=5\/op=6\/op=7 by omega) with rfl|rfl|rfl|rfl|rfl|rfl|rfl
 ·have:=aNh a1 a2 n1 c1 c2 L hL s n w rfl rfl
  rw [show (s.toList==[])=false by simpa [wfI] using h] at this
  exact this.mono fun e w' ⟨h1,h2⟩=>⟨⟨_,_,h1⟩,h2⟩
 ·have:=aNi a1 a2 n1 c1 c2 L hL s n w rfl rfl rfl
  rw [show (cT s&&decide (n=0))=false by simpa [wfI] using h] at this
  exact this.mono fun e w' ⟨h1,h2⟩=>⟨⟨_,_,h1⟩,h2⟩
 ·have:=aNj a1 a2 n1 c1 c2 L hL s n w rfl rfl
  rw [show ((s.toList==[])&&inB n 0 ((L:Int) - 1))=false by simpa [wfI] using h] at this
  exact this.mono fun e w' ⟨h1,h2⟩=>⟨⟨_,_,h1⟩,h2⟩
 ·have:=aNk a1 a2 n1 c1 c2 L hL s n w rfl rfl
  rw [show ((s.toList==[])&&inB n 0 ((L:Int) - 1))=false by simpa [wfI] using h] at this
  exact this.mono fun e w' ⟨h1,h2⟩=>⟨⟨_,_,h1⟩,h2⟩
 ·have:=aNl a1 a2 n1 c1 c2 L hL s n w rfl rfl
  rw [show ((s.toList==[])&&decide (n=3))=false by simpa [wfI] using h] at this
  exact this.mono fun e w' ⟨h1,h2⟩=>⟨⟨_,_,h1⟩,h2⟩
 ·have:=aNm a1 a2 n1 c1 c2 L hL s n w rfl rfl rfl
  rw [show ((s.toList==[])&&inB n 4 7)=false by simpa [wfI] using h] at this
  exact this.mono fun e w' ⟨h1,h2⟩=>⟨⟨_,_,h1⟩,h2⟩
 ·have:=aNn a1 a2 n1 c1 c2 L hL s n w rfl rfl rfl
  have hb:=nS s;rw [show (decide (0<cA s)&&decide (n=0))=false by (simp [wfI] at h;simp;omega)] at this
  exact this.mono fun e w' ⟨h1,h2⟩=>⟨⟨_,_,h1⟩,h2⟩
theorem aFl (lo hi:Nat) (v:Value) (c:Cod) (w:World) (hv:c.R lo hi w v) (hh:hi<=w.heap.size) (hL:c.ls.length<=2000000) :
  R_ 232 #[v] w (.tuple #[(c.depth.getD 0),.bool c.depth.isSome]):=by
 obtain ⟨a1,c1,a2,c2,rfl,HI,HS⟩:=hv.form;have l1:=HI.le;have l2:=HI.cap;have l3:=HS.le;have l4:=HS.cap;clear hv
 obtain ⟨L,q9⟩:∃L,c.ls.length=L:=⟨_,rfl⟩
 rw [q9] at hL l3 ⊢
 by_cases q3:c.xs.length<=300
 case neg=>
  have e:c.depth=none:=by unfold Cod.depth;rw [if_neg q3]
  rw [e];obtain ⟨i0,h9,q4,q5,q6⟩:=info_parts qK;go_enter func232,ntmps232;go_wp2_with (at_make;refine wpList_make_row _ rfl _ _ 298 rfl 4 i0 (.bool false) underlying298 h9 q4 q5 rfl .i64 .i64 L rfl rfl (by rw [q6];omega) (by omega) ?_);clear h9 q4 q5 q6;go_wp2;refine bodyPost_ret (v:=.tuple #[(),.bool false]) (by simp [results,results232,go_sem]) rfl ⟨rfl,S_⟩
 obtain ⟨R,hR⟩:∃R,c.depth=R:=⟨_,rfl⟩
 have h0:iB L c.xs 0 0 (fun _=>false)=R:=by rw [<-hR,<-q9];unfold Cod.depth;rw [if_pos q3]
 rw [hR];have h8:=hid h0;clear h0 hR;obtain ⟨i0,h9,q4,q5,q6⟩:=info_parts qK;go_enter func232,ntmps232;go_wp2_with (at_make;refine wpList_make_row _ rfl _ _ 298 rfl 4 i0 (.bool false) underlying298 h9 q4 q5 rfl .i64 .i64 L rfl rfl (by rw [q6];omega) (by omega) ?_);have h2:=hid (show yX _ _ L (fun _=>false) from aXh (w.alloc (.cells #[.slice a1 c.xs.length c1,.slice a2 L c2] 163)) (.bool false) L 4);have h1:=hid ((hZ.made w (.slice a1 c.xs.length c1) (.slice a2 L c2) 163).ext ((Ext.refl _).alloc (.cells (madeCells #[.bool false] L) 4)));have X0:=hid (show Ext w ((w.alloc (.cells #[.slice a1 c.xs.length c1,.slice a2 L c2] 163)).alloc (.cells (madeCells #[.bool false] L) 4)) from X_);clear h9 q4 q5 q6;go_wp2;simp only [aQy] at h2;generalize hB:w.heap.size+1=B at h2
 go_loopw [4,5,23] (fun dv mv i wr=>∃(k:Nat) (d m:Int) (st:Nat->Bool),k<=c.xs.length/\i = .int .i64 k/\dv = .int .i64 d/\mv = .int .i64 m/\iB L (c.xs.drop k) d m st=R/\0<=d/\d<=k/\0<=m/\m<=k/\Ext w wr/\yX wr B L st/\hZ wr w.heap.size (.slice a1 c.xs.length c1) (.slice a2 L c2)) (fun _ _ i _=>c.xs.length - (intOf i).toNat)
 case atStart=>exact ⟨0,0,0,_,by omega,rfl,rfl,rfl,h8,by omega,by omega,by omega,by omega,X0,h2.out,h1.out⟩
 case round=>
  clear h8 X0 h2 h1;obtain ⟨k,d,m,st,hk,rfl,rfl,rfl,h0,d0,d1,m0,m1,hx,h2,h1⟩:=hrel
  have k0:k<=300:=by omega
  by_cases x8:k<c.xs.length
  ·obtain ⟨b,z9,op,s,n,rfl,z4,z5,h5,q8,io,z8,x0,x1,x2⟩:=HI.at x8 hx hh
   rw [h5] at h0;unfold iB at h0;have q0:=h1.lt;have q1:=h1.c0;have q2:=h1.c1;have HX:=hid hx;have HR:=hid h2;have HQ:=hid h1;clear hx h2 h1 h5 q8
   cases h4:wfI op s n L
   ·have e:R=none:=by rw [<-h0,if_neg (by simp [h4])]
    subst e;clear h0;go_wp2_with fail;refine (aL8 _ _ _ _ _ L hL op s n _ h4).mono ?_;rintro e w1 ⟨⟨p,q,rfl⟩,x1⟩;have X1:Ext w w1:=Ext.trans (by have hx:=HX.out;exact X_) x1;go_wp2;refine bodyPost_ret (v:=.tuple #[(),.bool false]) (by simp [results,results232,go_sem]) rfl ⟨rfl,S_⟩
   have pb:=aBn h4;have qb:=aHd op
   obtain ⟨p,hp⟩:∃p,cI op s=p:=⟨_,rfl⟩
   obtain ⟨q,hq⟩:∃q,fZ op=q:=⟨_,rfl⟩
   rw [hp,hq] at h0;rw [hp] at pb;rw [hq] at qb;have HP:=hid hp;have h6:=hid hq;simp only [h4,true_and] at h0
   by_cases h3:op=3/\st n.toNat=false
   ·obtain ⟨rfl,h3⟩:=h3
    obtain ⟨j,rfl,hj⟩:=nB h4 (.inl rfl);simp only [aRr] at h3
    have e:R=none:=by rw [<-h0,if_neg (by simp [h3])]
    subst e;clear h0 hp hq;go_wp2_with fail;refine r_ (oS _ _ _ _ _ L hL _ s _ _ h4 HP h6) fun w1 x1=>?_;have X1:Ext w w1:=Ext.trans (by have hx:=HX.out;exact X_) x1;have K1:=(jQ.made wr 3 s j 221).ext x1;have R1:=(HR.ext ((Ext.refl _).alloc (.cells #[.int .i64 3,.string s,j] 221))).ext x1;have y0:=K1.lt;have y1:=K1.c0;have y2:=K1.c1;have y3:=K1.c2;have z0:=aSr R1 hj;rw [h3] at z0;have z1:=aTk R1;clear K1 R1 x0 x1 x2;go_wp2
    all_goals refine bodyPost_ret (v:=.tuple #[(),.bool false]) (by simp [results,results232,go_sem]) rfl ⟨rfl,S_⟩
   have q7:op=3->st n.toNat=true:=fun e=>by
    cases h:st n.toNat
    ·exact absurd ⟨e,h⟩ h3
    ·rfl
   have H3:=hid q7
   by_cases x4:p<=d
   case neg=>
    rw [if_neg (fun h=>x4 h.2)] at h0;subst h0;clear hp hq q7;have z7:(decide (d<p))=true:=decide_eq_true (by omega)
    by_cases e3:op=3
    ·subst e3
     have:=HP.out;have e:cI 3 s=0:=rfl;omega
    go_wp2_with fail;refine r_ (oS _ _ _ _ _ L hL _ s _ _ h4 HP h6) fun w1 x1=>?_;have X1:Ext w w1:=Ext.trans (by have hx:=HX.out;exact X_) x1;have K1:=(jQ.made wr op s n 221).ext x1;have y0:=K1.lt;have y1:=K1.c0;have y2:=K1.c1;have y3:=K1.c2;clear x0 x1 x2;go_wp2;refine bodyPost_ret (v:=.tuple #[(),.bool false]) (by simp [results,results232,go_sem]) rfl ⟨rfl,S_⟩
   rw [if_pos ⟨q7,x4⟩] at h0;have h7:=hid h0;clear h0 hp hq q7
   have pl:d - p+q<=(k:Int)+1:=by omega
   have pn:0<=d - p+q:=by omega
   obtain ⟨D,hD⟩:∃D,d - p+q=D:=⟨_,rfl⟩
   rw [hD] at h7 pl pn
   have z3:d+(q - p)=D:=by omega
   have hM:∃M:Int,(if D > m then D else m)=M/\0<=M/\M<=(k:Int)+1:=⟨_,rfl,by split <;> omega,by split <;> omega⟩
   obtain ⟨M,hM,M0,M1⟩:=hM;have HM:=hid hM;clear hM
   by_cases e3:op=3
   ·subst e3
    obtain ⟨j,rfl,hj⟩:=nB h4 (.inl rfl);have x5:=H3.out rfl;simp only [aRr] at x5;go_wp2_with fail;refine r_ (oS _ _ _ _ _ L hL _ s _ _ h4 HP h6) fun w1 x1=>?_;have X1:Ext w w1:=Ext.trans (by have hx:=HX.out;exact X_) x1;have g1:Ext wr w1:=Ext.trans X_ x1;have K1:=(jQ.made wr 3 s j 221).ext x1;have R1:=HR.ext g1;have z0:=aSr R1 hj;rw [x5] at z0;have z1:=aTk R1;have y0:=K1.lt;have y1:=K1.c0;have y2:=K1.c1;have y3:=K1.c2;clear x0 x1 x2;have B2:=HQ.ext g1;have R2:=R1;have X2:=X1;go_wp2_with fail;refine z_ (oN (c:=M) (I64.mk (by omega) (by omega)) (I64.mk (by omega) (by omega)) (by rw [<-HM];split <;> split <;> omega) _) ?_;go_wp2;go_roundw
    case rel=>exact ⟨k+1,D,M,_,by omega,by go_num,rfl,rfl,by rw [<-HM];exact h7,pn,by omega,M0,by omega,X2,R2,B2⟩
    case measure=>simp [intOf];omega
   by_cases e4:op=4
   ·subst e4
    obtain ⟨j,rfl,hj⟩:=nB h4 (.inr rfl)
    have x9:B≠w.heap.size:=by omega
    go_wp2_with fail;refine r_ (oS _ _ _ _ _ L hL _ s _ _ h4 HP h6) fun w1 x1=>?_;have X1:Ext w w1:=Ext.trans (by have hx:=HX.out;exact X_) x1;have g1:Ext wr w1:=Ext.trans X_ x1;have K1:=(jQ.made wr 4 s j 221).ext x1;have R1:=HR.ext g1;have y0:=K1.lt;have y1:=K1.c0;have y2:=K1.c1;have y3:=K1.c2;clear x0 x1 x2;have B2:=HQ.ext g1;have R2:=R1;have X2:=X1;have z0:=aSr R2 hj;have z1:=aTk R2;have z2:=aS2 R2 j;have x6:=hid B2;have x7:=hid R2;clear B2 R2;go_wp2_with fail;refine z_ (oN (c:=M) (I64.mk (by omega) (by omega)) (I64.mk (by omega) (by omega)) (by rw [<-HM];split <;> split <;> omega) _) ?_;go_wp2;go_roundw
    case rel=>exact ⟨k+1,D,M,_,by omega,by go_num,rfl,rfl,by rw [<-HM];exact h7,pn,by omega,M0,by omega,X2.setCell (by show w.heap.size<=B;omega) _,x7.mark j,x6.at (by simp) (aQ7 _ _ _ _ (by show w.heap.size≠B;omega))⟩
    case measure=>simp [intOf];omega
   ·have x3:iA op n st=st:=by unfold iA;rw [if_neg e4]
    rw [x3] at h7;clear x3;go_wp2_with fail;refine r_ (oS _ _ _ _ _ L hL _ s _ _ h4 HP h6) fun w1 x1=>?_;have X1:Ext w w1:=Ext.trans (by have hx:=HX.out;exact X_) x1;have g1:Ext wr w1:=Ext.trans X_ x1;have K1:=(jQ.made wr op s n 221).ext x1;have R1:=HR.ext g1;have y0:=K1.lt;have y1:=K1.c0;have y2:=K1.c1;have y3:=K1.c2;clear x0 x1 x2;have B2:=HQ.ext g1;have R2:=R1;have X2:=X1;go_wp2_with fail;refine z_ (oN (c:=M) (I64.mk (by omega) (by omega)) (I64.mk (by omega) (by omega)) (by rw [<-HM];split <;> split <;> omega) _) ?_;go_wp2;go_roundw
    case rel=>exact ⟨k+1,D,M,_,by omega,by go_num,rfl,rfl,by rw [<-HM];exact h7,pn,by omega,M0,by omega,X2,R2,B2⟩
    case measure=>simp [intOf];omega
  ·obtain rfl:k=c.xs.length:=by omega
   rw [aV6] at h0;have e:=aDd h0;clear h0
   by_cases hd:d=0
   ·rw [if_pos hd] at e
    subst e hd;go_wp2;refine bodyPost_ret (v:=.tuple #[m,.bool true]) (by simp [results,results232,go_sem]) rfl ⟨rfl,S_⟩
   ·rw [if_neg hd] at e
    have z6:(d != 0)=true:=by simp [hd]
    subst e;go_wp2;refine bodyPost_ret (v:=.tuple #[(),.bool false]) (by simp [results,results232,go_sem]) rfl ⟨rfl,S_⟩
def gY (x:Ins):Bool:=inB x.num (-1000000000) 1000000000
def Cod.runB (c:Cod):Bool:=c.depth.isSome&&c.xs.all gY
theorem aBo:∀(xs:List Ins) (d m:Int) (st:Nat->Bool),(iB L xs d m st).isSome=true->∀x∈xs,wfI x.op x.name x.num L=true
 | [],_,_,_,_,x,hx=>by cases hx
 | y::r,d,m,st,h,x,hx=>by
  unfold iB at h
  split at h
  ·rename_i hc
   rcases aRk.1 hx with rfl|hx
   ·exact hc.1
   ·exact aBo r _ _ _ h x hx
  ·simp at h
theorem Cod.wf {c:Cod} (h:c.depth.isSome=true):∀x∈c.xs,wfI x.op x.name x.num c.ls.length=true:=by
 unfold Cod.depth at h
 split at h
 ·exact aBo _ _ _ _ h
 ·simp at h
theorem aN8 {x:Ins} (h:wfI x.op x.name x.num L=true) (hL:L<=2000000) (h1:x.op≠1):gY x=true:=by
 unfold wfI at h;rw [if_neg h1] at h;refine aG.2 ?_
 split at h
 ·simp at h;omega
 split at h
 ·simp [aG] at h;omega
 split at h
 ·simp [aG] at h;omega
 split at h
 ·simp at h;omega
 split at h
 ·simp [aG] at h;omega
 split at h
 ·simp at h;omega
 ·cases h
def tU (x:Ins):Bool:=!(x.op==1)||gY x
theorem Cod.runB_push {c:Cod} (hL:c.ls.length<=2000000):(c.xs.all tU&&c.depth.isSome)=c.runB:=by
 unfold Cod.runB
 cases h:c.depth.isSome
 ·simp
 ·rw [Bool.and_true,aWf]
  have hw:=Cod.wf h;rw [Bool.eq_iff_iff,aR5,aR5]
  constructor
  ·intro k x hx
   have h1:=k x hx
   by_cases e:x.op=1
   ·simpa [tU,e] using h1
   ·exact aN8 (hw x hx) hL e
  ·intro k x hx
   simp [tU,k x hx]
theorem aFm {c:Cod} {m:Int} {b:Bool} (h:c.depth.getD 0=m/\c.depth.isSome=b) (lo hi:Nat) (v:Value) (w:World) (hv:c.R lo hi w v) (hh:hi<=w.heap.size) (hL:c.ls.length<=2000000) :
  R_ 253 #[v] w (.tuple #[m,.bool b]):=h.1▸h.2▸aFk lo hi v c w hv hh hL
theorem vV {c:Cod} {m:Int} {b:Bool} (h:c.depth.getD 0=m/\c.depth.isSome=b) (lo hi:Nat) (v:Value) (w:World) (hv:c.R lo hi w v) (hh:hi<=w.heap.size) (hL:c.ls.length<=2000000) :
  R_ 232 #[v] w (.tuple #[m,.bool b]):=h.1▸h.2▸aFl lo hi v c w hv hh hL
theorem kU {c:Cod} {r:Bool} (hr:c.runB=r) (lo hi:Nat) (v:Value) (w:World) (hv:c.R lo hi w v) (hh:hi<=w.heap.size) (hL:c.ls.length<=2000000) :
  R_ 222 #[v] w (.bool r):=by
 have HV:=hid hv;obtain ⟨a1,c1,a2,c2,rfl,HI,HS⟩:=hv.form;have l1:=HI.le;have l2:=HI.cap;clear hv HS;rw [<-Cod.runB_push hL] at hr;have HR:=hid hr;clear hr;go_enter func222,ntmps222;go_wp2;have h0:=hid (hZ.made w (.slice a1 c.xs.length c1) (.slice a2 c.ls.length c2) 163);have X0:=hid (show Ext w (w.alloc (.cells #[.slice a1 c.xs.length c1,.slice a2 c.ls.length c2] 163)) from X_)
 go_loopw [10] (fun i wr=>∃(k:Nat),k<=c.xs.length/\i = .int .i64 k/\(c.xs.take k).all tU=true/\Ext w wr/\hZ wr w.heap.size (.slice a1 c.xs.length c1) (.slice a2 c.ls.length c2)) (fun i _=>c.xs.length - (intOf i).toNat)
 case atStart=>exact ⟨0,by omega,rfl,rfl,X0,h0.out⟩
 case round=>
  clear X0 h0;obtain ⟨k,hk,rfl,h2,hx,h0⟩:=hrel
  by_cases h5:k<c.xs.length
  ·obtain ⟨b,q6,op,s,n,rfl,q3,q4,h3,h4,io,q5,x0,x1,x2⟩:=HI.at h5 hx hh
   have h7:c.xs[k]=⟨op,s,n⟩:=by have:=h4;rw [aQ9 h5] at this;exact aSx this
   have HX:=hid hx;have HQ:=hid (h0.ext ((Ext.refl _).alloc (.cells #[op,.string s,n] 221)));have HA:=hid h2;have HK:=hid h7;clear hx h0 h3 h4 h2 h7
   by_cases h1:op=1
   ·subst h1
    cases hn:inB n (-1000000000) 1000000000
    ·have h6:=hid hn
     go_wp2_with fail;refine z_ (aH h6.out _) ?_;go_wp2;go_ret;have e:c.xs.all tU=false:=vK h5 (by rw [HK];simp [tU,gY,h6.out]);have hr:=HR.out;rw [e] at hr;refine ⟨aL hr,?_⟩;have hx:=HX.out;exact S_
    ·have h6:=hid hn
     go_wp2_with fail;refine z_ (aH h6.out _) ?_;go_wp2;go_roundw
     case rel=>
      refine ⟨k+1,by omega,by go_num,iZ h5 HA.out (by rw [HK];simp [tU,gY,h6.out]),?_,HQ⟩;have hx:=HX.out;exact S_
     case measure=>simp [intOf];omega
   ·have h9:(op==1)=false:=beq_eq_false_iff_ne.2 h1
    have H1:=hid h9;go_wp2;go_roundw
    case rel=>
     refine ⟨k+1,by omega,by go_num,iZ h5 HA.out (by rw [HK];simp [tU,H1.out]),?_,HQ⟩;have hx:=HX.out;exact S_
    case measure=>simp [intOf];omega
  ·obtain rfl:k=c.xs.length:=by omega
   rw [aR2] at h2;have hr:=HR.out;rw [h2,aWf] at hr;have h8:=hid hr;clear hr h2;have q0:=h0.lt;have q1:=h0.c0;have q2:=h0.c1;clear h0;go_wp2_with fail;refine r_ (aFm ⟨rfl,h8⟩ lo hi _ _ (HV.ext hh (by assumption)) (by have:=hx.size;omega) hL) fun w1 x1=>?_;go_wp2;go_ret;exact ⟨rfl,hx.trans x1⟩
def eV (f z:Nat->Value) (c i:Nat):Value:=if i<c then f i else z i
theorem fL {b:Nat} {n:Nat} {f z:Nat->Value} {c:Nat} (h:w.rowIs b t n (eV f z c)) {x:Value} (hi:i=c) (hx:x=f c):(w.setCell ⟨b,i,none⟩ x).rowIs b t n (eV f z (c+1)):=by
 subst hi hx;refine aTa (aXu h i (f i)) fun j _=>?_;unfold eV
 by_cases e:j=i
 ·subst e;simp
 ·rw [if_neg e]
  by_cases h1:j<i
  ·rw [if_pos h1,if_pos (by omega)]
  ·rw [if_neg h1,if_neg (by omega)]
theorem kW {lo:Nat} {size n:Nat} {z:Array Value} {f:Nat->Value} (hz:∀i,i<n*size->(madeCells z (n*size))[i]?=some (f i))
  (h:w.ownsRow lo e size (.slice (some ⟨g,0,none⟩) n n) n (madeCells z (n*size)).toList):w.rowIs g e (n*size) f:=by
 rcases h.2 with ⟨h1,h4⟩|⟨g',cap,cur,h1,hb,hg,hc,hm,hs,ht⟩
 ·simp at h1
 ·simp only [aRo,true_and,aQ0,aR1,and_true] at h1
  obtain ⟨rfl,rfl⟩:=h1;refine ⟨cur,hg,hs,fun i hi=>?_⟩;have h2:=hz i hi
  have h3:cur.toList=(madeCells z (n*size)).toList:=by
   rw [<-ht,aR3];simp [hs]
  rw [<-aTv,h3,aTv];exact h2
def Cod.small (c:Cod):Prop:=c.xs.length<=1048576/\c.ls.length<=1048576
end Go.Proofs.YthgpegkmjeigmaaGreat
