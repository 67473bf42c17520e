/- Texts of this claim, one behind another; what its theorem does not use is left out: Base, Plan, RoundIn, Cells, L01, Ex1, Ex2, Flat, Blk0, StrB, Sh1, Sh2, L15a, L15b, L15c, L15d, L15e, Ex2M, Part, LawKit, L15f, L15g, L15h, L15i, Sh3, Sh4, L16a, L15j, L15k, Sh5, LawLook, Sh6, Sh7, Sh8, Sh9, Sh10, Sh11, Sh12, Sh13, Sh14, Sh15, Gr1, Sh16, Sh17, Cl1, Lk1, Lk2, Lk3, Lk4, Lk5. -/
import Derived.WalkKit
import Derived.WalkLawsBesides
import Derived.WalkSpells
import Derived.Deep.QuietTactic
import Derived.BigQuiet
import Derived.Lib.Hide
import Derived.OrdersHeld
import Derived.StillTail
import Derived.Deep.RegionHeld3
import Derived.RangeFuncNested
import Derived.RangeFuncBound
import Derived.RangeFuncCalls
import Derived.RangeFuncLeaves
import Derived.Shelf.Abstract
import Derived.Shelf.RegionOpen
import Derived.OwnWalkIn
import Derived.TacticsInMore
import Derived.LoopNIn
import Derived.LoopIn
import Derived.Test.YtfjbiifebcfjfaaGreatRows
import Derived.RangeFuncFrom
import Derived.Deep.OwnRows
import Derived.StillTailTactics
import Derived.Deep.LoopGhost
import Derived.Deep.Cut
import Derived.Deep.CutRange
import Derived.Laws.CopyOwn
import Derived.Maps.Own
import Derived.WideMake
import Derived.Lib.SmallJoins
import Derived.Laws.BytesString
set_option linter.unusedSimpArgs false
set_option linter.unusedVariables false
set_option maxRecDepth 100000
set_option maxHeartbeats 12800000
namespace Go.Proofs.YtfjbiifebcfjfaaGreat
open Go.RowKit
instance:Coe Int Value:=⟨fun n=>.int .i64 n⟩
instance:Coe Nat Value:=⟨fun n=>.int .i64 n⟩
instance:Coe Unit Value:=⟨fun _=>.int .i64 0⟩
def I64 (n:Int):Prop:=-9223372036854775808<=n/\n<=9223372036854775807
theorem I64.mk {n:Int} (h1 : -9223372036854775808<=n) (h2:n<=9223372036854775807):I64 n:=⟨h1,h2⟩
theorem I64.lo {n:Int} (h:I64 n) : -9223372036854775808<=n:=h.1
theorem I64.hi {n:Int} (h:I64 n):n<=9223372036854775807:=h.2
theorem I64.wrap {n:Int} (h:I64 n):wrap64 n=n:=IntWalk.wrap64_in n ⟨h.1,h.2⟩
theorem ret_int {k:IntKind} {a b:Int} (h:a=b):Ending.returned (.int k a) = .returned (.int k b):=by rw [h]
theorem ret_bool {a b:Bool} (h:a=b):Ending.returned (.bool a) = .returned (.bool b):=by rw [h]
def Ext (w w':World):Prop:=Below w.heap.size w w'
theorem Ext.refl (w:World):Ext w w:=Below.refl _ _
theorem Ext.size {w w':World} (h:Ext w w'):w.heap.size<=w'.heap.size:=Below.size h
theorem Ext.trans {w w1 w2:World} (h:Ext w w1) (k:Ext w1 w2):Ext w w2:=Below.trans h (Below.mono k (Below.size h))
theorem Ext.alloc {w w1:World} (h:Ext w w1) (o:Obj):Ext w (w1.alloc o):=Below.alloc h (Below.size h) o
theorem Ext.drew {w w1:World} (h:Ext w w1):Ext w w1.drew:=Below.drew h
theorem Ext.drewN {w w1:World} (h:Ext w w1) (n:Nat):Ext w (w1.drewN n):=h.trans ⟨rfl,rfl,rfl,Nat.le_refl _,fun _ _=>rfl⟩
theorem Ext.setCell {w w1:World} (h:Ext w w1) {p:Addr} (hp:w.heap.size<=p.block) (u:Value):Ext w (w1.setCell p u):=Below.setCell h hp u
theorem X_ {w w':World} (h:Ext w w':=by repeat (with_reducible (first|assumption|exact Ext.refl _|apply Ext.alloc|apply Ext.drew|apply Ext.drewN))):Ext w w':=h
theorem S_ {w w':World} (h:Ext w w':=by repeat (first|with_reducible assumption|with_reducible exact Ext.refl _|with_reducible apply Ext.alloc|with_reducible apply Ext.drew|with_reducible apply Ext.drewN|(with_reducible refine Ext.setCell ?_ (by simp;omega) _)|(with_reducible refine Ext.setCell ?_ (by simp) _))):Ext w w':=h
theorem Ext.grown {w w1 w2:World} {row:Option Nat} (h:Ext w w1) (hg:w1.grownBy w2 row) (hr:∀k,row=some k->w.heap.size<=k):Ext w w2:=Below.grown h hg (Below.size h) hr
theorem Ext.block {w w1:World} (h:Ext w w1) {k:Nat} (hk:k<w.heap.size):w1.heap[k]?=w.heap[k]?:=Below.block h k hk
theorem Ext.cells {w w1:World} (h:Ext w w1) :
  (∀b o,b<w.heap.size->w1.cell? ⟨b,o,none⟩=w.cell? ⟨b,o,none⟩)/\(∀b o,b<w.heap.size->w1.frozen? ⟨b,o,none⟩=w.frozen? ⟨b,o,none⟩):=
 ⟨fun b o hb=>Below.cell (p:=⟨b,o,none⟩) h hb,fun b o hb=>Below.frozen (p:=⟨b,o,none⟩) h hb⟩
def Same (lo hi:Nat) (w w':World):Prop:=∀b,lo<=b->b<hi->w'.heap[b]?=w.heap[b]?
theorem Ext.same {w w1:World} (h:Ext w w1) {lo hi:Nat} (hh:hi<=w.heap.size):Same lo hi w w1:=fun _ _ hb=>h.block (by omega)
theorem Same.cell {lo hi:Nat} {w w':World} (h:Same lo hi w w') {b o:Nat} (h1:lo<=b) (h2:b<hi):w'.cell? ⟨b,o,none⟩=w.cell? ⟨b,o,none⟩:=
 World.cell?_of_block (w:=w) (h b h1 h2)
theorem Same.frozen {lo hi:Nat} {w w':World} (h:Same lo hi w w') {b o:Nat} (h1:lo<=b) (h2:b<hi):w'.frozen? ⟨b,o,none⟩=w.frozen? ⟨b,o,none⟩:=
 World.frozen?_of_block (w:=w) (h b h1 h2)
def Ints (lo hi:Nat) (w:World) (v:Value) (xs:List Int):Prop:=
 ∃a cap,v = .slice a xs.length cap/\xs.length<=cap/\cap<=maxLen/\∀i x,xs[i]?=some x->I64 x/\∃b off,a=some ⟨b,off,none⟩/\lo<=b/\b<hi/\w.cell? ⟨b,off+i,none⟩=some (.int .i64 x)
theorem Ints.same {lo hi:Nat} {w w':World} {v:Value} {xs:List Int} (h:Ints lo hi w v xs) (s:Same lo hi w w'):Ints lo hi w' v xs:=by
 obtain ⟨a,cap,h1,h2,h3,h4⟩:=h;refine ⟨a,cap,h1,h2,h3,fun i x hx=>?_⟩;obtain ⟨h5,b,off,h6,h7,h8,h9⟩:=h4 i x hx;exact ⟨h5,b,off,h6,h7,h8,by rw [s.cell h7 h8];exact h9⟩
theorem Ints.ext {lo hi:Nat} {w w':World} {v:Value} {xs:List Int} (h:Ints lo hi w v xs) (hh:hi<=w.heap.size) (e:Ext w w'):Ints lo hi w' v xs:=h.same (e.same hh)
theorem Ints.wide {lo hi lo' hi':Nat} {w:World} {v:Value} {xs:List Int} (h:Ints lo hi w v xs) (h1:lo'<=lo) (h2:hi<=hi'):Ints lo' hi' w v xs:=by
 obtain ⟨a,cap,g1,g2,g3,g4⟩:=h;refine ⟨a,cap,g1,g2,g3,fun i x hx=>?_⟩;obtain ⟨h5,b,off,h6,h7,h8,h9⟩:=g4 i x hx;exact ⟨h5,b,off,h6,by omega,by omega,h9⟩
theorem Ints.len {lo hi:Nat} {w:World} {v:Value} {xs:List Int} (h:Ints lo hi w v xs):xs.length<=9223372036854775807:=by
 obtain ⟨a,cap,g1,g2,g3,g4⟩:=h;unfold maxLen at g3;omega
structure IntsAt (lo hi:Nat) (w:World) (a:Option Addr) (cap:Nat) (xs:List Int):Prop where
 le:xs.length<=cap
 cap:cap<=9223372036854775807
 cell:∀i x,xs[i]?=some x->I64 x/\∃b off,a=some ⟨b,off,none⟩/\lo<=b/\b<hi/\w.cell? ⟨b,off+i,none⟩=some (.int .i64 x)
theorem Ints.open {lo hi:Nat} {w:World} {v:Value} {xs:List Int} (h:Ints lo hi w v xs):∃a cap,v = .slice a xs.length cap/\IntsAt lo hi w a cap xs:=by
 obtain ⟨a,cap,g1,g2,g3,g4⟩:=h;exact ⟨a,cap,g1,g2,by unfold maxLen at g3;omega,g4⟩
theorem IntsAt.shut {lo hi:Nat} {w:World} {a:Option Addr} {cap:Nat} {xs:List Int} (h:IntsAt lo hi w a cap xs):Ints lo hi w (.slice a xs.length cap) xs:=
 ⟨a,cap,rfl,h.le,by unfold maxLen;have:=h.cap;omega,h.cell⟩
theorem IntsAt.at {lo hi:Nat} {w:World} {a:Option Addr} {cap:Nat} {xs:List Int} (h:IntsAt lo hi w a cap xs) {k:Nat} (hk:k<xs.length) :
  ∃b off,a=some ⟨b,off,none⟩/\lo<=b/\b<hi/\w.cell? ⟨b,off+k,none⟩=some (.int .i64 xs[k]):=(h.cell k xs[k] (by simp [hk])).2
theorem IntsAt.i64 {lo hi:Nat} {w:World} {a:Option Addr} {cap:Nat} {xs:List Int} (h:IntsAt lo hi w a cap xs) {k:Nat} (hk:k<xs.length):I64 xs[k]:=(h.cell k xs[k] (by simp [hk])).1
def SameUpTo {α : Type} (xs ys:List α) (k:Nat):Prop:=∀i,i<k->xs[i]?=ys[i]?
theorem SameUpTo.zero {α : Type} (xs ys:List α):SameUpTo xs ys 0:=fun i h=>by omega
theorem SameUpTo.succ {α : Type} {xs ys:List α} {k:Nat} (h:SameUpTo xs ys k) (h1:k<xs.length) (h2:k<ys.length) (he:xs[k]=ys[k]):SameUpTo xs ys (k+1):=by
 intro i hi
 by_cases hk:i=k
 ·subst hk;simp [h1,h2,he]
 ·exact h i (by omega)
theorem SameUpTo.all {α : Type} {xs ys:List α} {k:Nat} (h:SameUpTo xs ys k) (hl:xs.length=ys.length) (hk:xs.length<=k):xs=ys:=by
 apply List.ext_getElem?;intro i
 by_cases hi:i<k
 ·exact h i hi
 ·rw [List.getElem?_eq_none (by omega),List.getElem?_eq_none (by omega)]
theorem hid {p:Prop} (h:p):Hid p:=h
def OwnInts (lo:Nat) (w:World) (v:Value) (xs:List Int):Prop:=w.ownsRow lo 3 1 v xs.length (xs.map (Value.int .i64))/\∀x∈xs,I64 x
theorem OwnInts.ints {lo:Nat} {w:World} {v:Value} {xs:List Int} (h:OwnInts lo w v xs):Ints lo w.heap.size w v xs:=by
 obtain ⟨⟨h1,h2⟩,h3⟩:=h
 rcases h2 with ⟨rfl,h4⟩|⟨g,cap,cur,rfl,hb,hg,hc,hm,hs,ht⟩
 ·refine ⟨none,0,by rw [h4],by omega,by unfold maxLen;omega,fun i x hx=>?_⟩
  have:=(List.getElem?_eq_some_iff.1 hx).1;omega
 ·refine ⟨some ⟨g,0,none⟩,cap,rfl,hc,hm,fun i x hx=>⟨h3 x (List.mem_of_getElem? hx),g,0,rfl,hb,(Array.getElem?_eq_some_iff.1 hg).1,?_⟩⟩
  have hi:=(List.getElem?_eq_some_iff.1 hx).1
  have e:(xs.map (Value.int .i64))[i]?=some (.int .i64 x):=by simp [hx]
  rw [<-ht,List.getElem?_take,if_pos (by omega)] at e;simp only [World.cell?,hg,Nat.zero_add]
  simpa using e
theorem OwnInts.nil (lo:Nat) (w:World):OwnInts lo w (.slice none 0 0) []:=⟨World.ownsRow_nil _ _ _ _,fun _ h=>by cases h⟩
theorem OwnInts.lt {lo:Nat} {w:World} {v:Value} {xs:List Int} (h:OwnInts lo w v xs):∀k,v.ownBlock=some k->lo<=k/\k<w.heap.size:=h.1.lt
theorem OwnInts.kept {lo:Nat} {w w':World} {v:Value} {xs:List Int} (h:OwnInts lo w v xs) (s:Same lo w.heap.size w w'):OwnInts lo w' v xs:=by
 obtain ⟨⟨h1,h2⟩,h3⟩:=h;refine ⟨⟨h1,?_⟩,h3⟩
 rcases h2 with hn|⟨g,cap,cur,hv,hb,hg,r⟩
 ·exact .inl hn
 ·exact .inr ⟨g,cap,cur,hv,hb,by rw [s g hb (Array.getElem?_eq_some_iff.1 hg).1];exact hg,r⟩
theorem OwnInts.ext {lo:Nat} {w w':World} {v:Value} {xs:List Int} (h:OwnInts lo w v xs) (e:Ext w w'):OwnInts lo w' v xs:=h.kept (e.same (Nat.le_refl _))
theorem OwnInts.form {lo:Nat} {w:World} {v:Value} {xs:List Int} (h:OwnInts lo w v xs):∃a cap,v = .slice a xs.length cap/\xs.length<=9223372036854775807:=by
 obtain ⟨⟨h1,h2⟩,h3⟩:=h
 rcases h2 with ⟨rfl,h4⟩|⟨g,cap,cur,rfl,hb,hg,hc,hm,hs,ht⟩
 ·exact ⟨none,0,by rw [h4],by omega⟩
 ·exact ⟨some ⟨g,0,none⟩,cap,rfl,by unfold maxLen at hm;omega⟩
theorem OwnInts.at {lo:Nat} {w:World} {a:Option Addr} {n cap:Nat} {xs:List Int} (h:OwnInts lo w (.slice a n cap) xs) (hn:n=xs.length) {k:Nat} (hk:k<xs.length) :
  ∃g y,a=some ⟨g,0,none⟩/\lo<=g/\g<w.heap.size/\xs[k]?=some y/\w.cell? ⟨g,k,none⟩=some (.int .i64 y)/\w.frozen? ⟨g,k,none⟩=false /\
   ∀x,I64 x->OwnInts lo (w.setCell ⟨g,k,none⟩ x) (.slice a n cap) (xs.set k x)/\w.grownBy (w.setCell ⟨g,k,none⟩ x) (some g):=by
 subst hn;obtain ⟨hown,h3⟩:=h;have hown':=hown
 rcases hown.2 with ⟨h1,h4⟩|⟨g,cap',cur,h1,hb,hg,hc,hm,hs,ht⟩
 ·omega
 ·simp only [Value.slice.injEq,true_and] at h1
  obtain ⟨rfl,rfl⟩:=h1;refine ⟨g,xs[k],rfl,hb,(Array.getElem?_eq_some_iff.1 hg).1,by simp [hk],?_,hown'.frozenAt k,fun x hx=>?_⟩
  ·rw [hown'.cellAt k (by omega)];simp [hk]
  ·have hst:=hown'.stored k (.int .i64 x)
   rw [<-List.map_set] at hst;refine ⟨⟨by simpa using hst.1,fun y hy=>?_⟩,hst.2⟩
   rcases List.mem_or_eq_of_mem_set hy with h|h
   ·exact h3 y h
   ·rw [h];exact hx
theorem Same.setLow {lo hi:Nat} (w:World) {p:Addr} (hp:p.block<lo) (u:Value):Same lo hi w (w.setCell p u):=fun b h1 _=>Below.heap_setCell w p u b (by omega)
theorem OwnInts.setLow {lo:Nat} {w:World} {v:Value} {xs:List Int} (h:OwnInts lo w v xs) {p:Addr} (hp:p.block<lo) (u:Value):OwnInts lo (w.setCell p u) v xs:=h.kept (Same.setLow w hp u)
theorem OwnInts.low {lo lo':Nat} {w:World} {v:Value} {xs:List Int} (h:OwnInts lo w v xs) (hl:lo'<=lo):OwnInts lo' w v xs:=by
 obtain ⟨⟨h1,h2⟩,h3⟩:=h;refine ⟨⟨h1,?_⟩,h3⟩
 rcases h2 with hn|⟨g,cap,cur,hv,hb,r⟩
 ·exact .inl hn
 ·exact .inr ⟨g,cap,cur,hv,by omega,r⟩
theorem OwnInts.drewN {lo:Nat} {w:World} {v:Value} {xs:List Int} (h:OwnInts lo w v xs) (n:Nat):OwnInts lo (w.drewN n) v xs:=h.ext ((Ext.refl w).drewN n)
theorem OwnInts.alloc {lo:Nat} {w:World} {v:Value} {xs:List Int} (h:OwnInts lo w v xs) (o:Obj):OwnInts lo (w.alloc o) v xs:=h.ext ((Ext.refl w).alloc o)
theorem grownBy.refl (w:World) (row:Option Nat):w.grownBy w row:=World.grownBy.refl w row
theorem grownBy.trans {w w1 w2:World} {row:Option Nat} (h:w.grownBy w1 row) (k:w1.grownBy w2 row):w.grownBy w2 row:=
 ⟨k.os.trans h.os,k.tape.trans h.tape,k.output.trans h.output,Nat.le_trans h.size k.size,fun i hi hne=>(k.block i (Nat.lt_of_lt_of_le hi h.size) hne).trans (h.block i hi hne)⟩
theorem all_no {α : Type} {xs:List α} {p : α->Bool} {k:Nat} (h:k<xs.length) (hp:p xs[k]=false):xs.all p=false:=by
 rw [List.all_eq_false];exact ⟨xs[k],List.getElem_mem h,by simp [hp]⟩
theorem all_step {α : Type} {xs:List α} {p : α->Bool} {k:Nat} (h:k<xs.length) (h1:(xs.take k).all p=true) (hp:p xs[k]=true):(xs.take (k+1)).all p=true:=by
 rw [List.take_succ_eq_append_getElem h,List.all_append,h1];simp [hp]
theorem wrap_small {n:Int} (h1 : -1152921504606846976<=n) (h2:n<=1152921504606846976):wrap64 n=n:=IntWalk.wrap64_in n ⟨by omega,by omega⟩
theorem quiet_same {P:Program} {f:FuncId} {args:Array Value} {w:World} {n:Nat} {v:Value}
  (h:Calls P f args (w.drewN n) fun e w'=>e = .returned v/\w.drewN n=w'):Calls P f args (w.drewN n) fun e w''=>e = .returned v/\∃m,w''=w.drewN m:=
 h.mono fun _ _ ⟨he,hm⟩=>⟨he,n,hm.symm⟩
open Classical in
noncomputable def grow (w d:World):World:=if Ext w d then d else w
theorem grow_ext (w d:World):Ext w (grow w d):=by
 unfold grow
 split
 ·assumption
 ·exact Ext.refl w
theorem grow_of {w d:World} (h:Ext w d):d=grow w d:=by unfold grow;rw [if_pos h]
@[go_sem] theorem cell?_grow (w d:World) (a:Addr) (h:a.block<w.heap.size):(grow w d).cell? a=w.cell? a:=Below.cell (grow_ext w d) h
@[go_sem] theorem frozen?_grow (w d:World) (a:Addr) (h:a.block<w.heap.size):(grow w d).frozen? a=w.frozen? a:=Below.frozen (grow_ext w d) h
theorem wp_region_ext {P:Program} {id:Nat} {Q:Exit->Act->World->Prop} {a:Act} {w:World} {l:List Oper} (hm:P.follows .mixedOrders=true) (hB:Region.lexB .any l.toArray=true)
  (h:wpQuiet P l.toArray (fun w'=>∃d,w'=grow w d) (fun a'=>∀w',Ext w w'->Q .normal a' w') l a):(Code.region id l.toArray true).wp P Q a w:=by
 refine wp_region_quiet (C:=fun w'=>∃d,w'=grow w d) hm hB ⟨_,grow_of ((Ext.refl w).drew)⟩ ?_
 have e:(fun a'=>∀w',Ext w w'->Q .normal a' w')=(fun a'=>∀w',(∃d,w'=grow w d)->Q .normal a' w'):=by
  funext a'
  refine propext ⟨fun k w' hw'=>?_,fun k w' hw'=>k w' ⟨_,grow_of hw'⟩⟩;obtain ⟨d,rfl⟩:=hw';exact k _ (grow_ext w d)
 rw [e] at h
 simpa using h
theorem grow_call {P:Program} {f:FuncId} {args:Array Value} {w d:World} {v:Value}
  (h:Calls P f args (grow w d) fun e w'=>e = .returned v/\Ext (grow w d) w'):Calls P f args (grow w d) fun e w''=>e = .returned v/\∃d',w''=grow w d':=
 h.mono fun _ _ ⟨he,hx⟩=>⟨he,_,grow_of ((grow_ext w d).trans hx)⟩
theorem grow_same {P:Program} {f:FuncId} {args:Array Value} {w d:World} {v:Value}
  (h:Calls P f args (grow w d) fun e w'=>e = .returned v/\grow w d=w'):Calls P f args (grow w d) fun e w''=>e = .returned v/\∃d',w''=grow w d':=
 h.mono fun _ _ ⟨he,hx⟩=>⟨he,d,hx.symm⟩
section
variable {P : Program} {ops : Array Oper} {Q : Exit -> Act -> World -> Prop} {md : Region.Mode} {S : World -> Prop} {z : Nat}
def wpAnyZ (P:Program) (md:Region.Mode) (ops:Array Oper) (Q:Exit->Act->World->Prop) (S:World->Prop) (z:Nat):Nat->Array Bool->Act->World->Prop
 | 0,listed,a,w=>Region.ready md ops listed=[]/\Q .normal a w
 | fuel+1,listed,a,w=>
  (Region.ready md ops listed=[]->Q .normal a w) /\
  ∀i∈Region.ready md ops listed,wpOp P ops Q i (fun a' w'=>(i=z\/S w')/\wpAnyZ P md ops Q S z fuel (listed.setIfInBounds i true) a' w') a w
theorem wpAny_of_Z:∀(fuel:Nat) (listed:Array Bool) (a:Act) (w:World),wpAnyZ P md ops Q S z fuel listed a w->wpAny P md ops Q fuel listed a w
 | 0,_,_,_,h=>h
 | fuel+1,_,_,_,h=>⟨h.1,fun i hi=>wpOp_mono (fun a' w' h'=>wpAny_of_Z fuel _ a' w' h'.2) (h.2 i hi)⟩
def waitsAll (md:Region.Mode) (ops:Array Oper) (z:Nat):Bool:=
 match ops[z]? with
 | none=>true
 | some o=>(List.range ops.size).all fun j=>j==z||o.after.any fun e=>Region.binds md e&&e.on==j
theorem waitsAll_spec (h:waitsAll md ops z=true) {i:Nat} {oi:Oper} (hi:ops[i]?=some oi) (hne:i≠z) {listed:Array Bool} (hun:listed.getD i false=false):z∉Region.ready md ops listed:=by
 intro hz;obtain ⟨_,oz,hoz,hall⟩:=mem_ready.1 hz;unfold waitsAll at h;simp only [hoz,List.all_eq_true,List.mem_range] at h;have h1:=h i (Array.getElem?_eq_some_iff.1 hi).1;simp only [Bool.or_eq_true,beq_iff_eq,hne,false_or] at h1;obtain ⟨e,he,hb⟩:=Array.any_eq_true'.1 h1;simp only [Bool.and_eq_true,beq_iff_eq] at hb;have h2:=hall e he hb.1;rw [hb.2,hun] at h2;cases h2
theorem wpAnyZ_first {i:Nat} {oi:Oper} {v:Value} (hi:ops[i]?=some oi) (hz:waitsAll md ops z=true) (hiz:i≠z) (hsel:∀(j:Nat) (o:Oper) cs b,ops[j]?=some o->o.op≠.select cs b)
  (hQ:∀c a w,Q (.panic c) (a.put oi.dst v) w->Q (.panic c) a w) :
  ∀(fuel:Nat) (listed:Array Bool) (a:Act) (w:World),
   (∀j oj,ops[j]?=some oj->j≠i->listed.getD j true=false->(∀e∈oj.after,Region.binds md e=true->e.on≠i)->oi.apart ops oj=true) ->
   i∈Region.ready md ops listed->YieldsIf P ops S oi v a->S w ->
   wpAnyZ P md ops Q S z fuel (listed.setIfInBounds i true) (a.put oi.dst v) w->wpAnyZ P md ops Q S z (fuel+1) listed a w:=by
 intro fuel
 induction fuel with
 | zero=>
  intro listed a w _ hr hy hS H;refine ⟨fun h=>(by rw [h] at hr;cases hr),fun j hj=>?_⟩
  by_cases hji:j=i
  ·subst hji;exact hy.wpOp hi hS ⟨.inr hS,H⟩
  ·have:=ready_mono hj hji
   rw [H.1] at this;cases this
 | succ fuel ih=>
  intro listed a w hfree hr hy hS H;refine ⟨fun h=>(by rw [h] at hr;cases hr),fun j hj=>?_⟩
  by_cases hji:j=i
  ·subst hji;exact hy.wpOp hi hS ⟨.inr hS,H⟩
  ·have hun:listed.getD i false=false:=getD_both (mem_ready.1 hr).1
   have hjz:j≠z:=fun e=>waitsAll_spec hz hi hiz hun (e▸hj);have h1:=H.2 j (ready_mono hj hji);obtain ⟨hjun,oj,hoj,hall⟩:=mem_ready.1 hj
   have hnot:∀e∈oj.after,Region.binds md e=true->e.on≠i:=fun e he hb heq=>by
    have h1:=hall e he hb;rw [heq,hun] at h1;cases h1
   have h2:=wpOp_putIf hoj (hfree j oj hoj hji hjun hnot) (fun cs b=>hsel i oi cs b hi) (fun cs b=>hsel j oj cs b hoj) hQ hy h1
   have hfree':∀k ok,ops[k]?=some ok->k≠i->(listed.setIfInBounds j true).getD k true=false ->
     (∀e∈ok.after,Region.binds md e=true->e.on≠i)->oi.apart ops ok=true:=fun k ok hk hki hun hno=>by
    refine hfree k ok hk hki ?_ hno
    by_cases hjk:j=k
    ·subst hjk;exact hjun
    ·rw [getD_set_ne true hjk] at hun;exact hun
   refine wpOp_mono (fun a' w' h3=>?_) h2;have hS':S w':=h3.2.1.resolve_left hjz;refine ⟨.inr hS',ih (listed.setIfInBounds j true) a' w' hfree' (ready_mono hr (Ne.symm hji)) h3.1 hS' ?_⟩;rw [Array.setIfInBounds_comm _ _ hji];exact h3.2.2
def takeOp (P:Program) (ops:Array Oper) (S:World->Prop) (o:Oper) (a:Act) (K:Act->Prop):Prop:=
 if Region.wanted o (yielded ops a.tmps) then ∃v,(∀w',S w'->(execOp a.eval o).run P w' = .ok (.value v) w')/\K (a.put o.dst v) else K (a.put o.dst undef)
def wpPlan (P:Program) (ops:Array Oper) (Q:Exit->Act->World->Prop) (S:World->Prop) (z:Nat):List (Bool×Nat)->Act->World->Prop
 | [],a,w=>Q .normal a w
 | (true,i)::r,a,w=>∃o,ops[i]?=some o/\takeOp P ops S o a (fun a'=>wpPlan P ops Q S z r a' w)
 | (false,i)::r,a,w=>∃o,ops[i]?=some o/\wpList P ops (Exit.then (fun a' w'=>(i=z\/S w')/\wpPlan P ops Q S z r a' w') Q) [o] a w
def planFrom (md:Region.Mode) (ops:Array Oper) (z:Nat):List (Bool×Nat)->Array Bool->Bool
 | [],listed=>(Region.ready md ops listed).isEmpty
 | (true,i)::r,listed=>i != z&&Region.free md ops listed i&&(Region.ready md ops listed).contains i&&planFrom md ops z r (listed.setIfInBounds i true)
 | (false,i)::r,listed=>(Region.ready md ops listed==[i])&&planFrom md ops z r (listed.setIfInBounds i true)
def planB (md:Region.Mode) (ops:Array Oper) (z:Nat) (plan:List (Bool×Nat)):Bool:=
 Region.noSelect ops&&waitsAll md ops z&&planFrom md ops z plan (Array.replicate ops.size false)
theorem upon_then {o:Oper} {a:Act} {next K:Act->World->Prop} {r:Result Next} (h:o.upon P a next (Exit.then K Q) r):o.upon P a next Q r:=by
 cases r with
 | ok n w'=>cases n <;> exact h
 | halt x w'=>cases x <;> exact h
theorem wpAnyZ_of_plan (hsel:Region.noSelect ops=true) (hz:waitsAll md ops z=true) (hQ:∀c a a' w,Q (.panic c) a w->Q (.panic c) a' w) :
  ∀(plan:List (Bool×Nat)) (listed:Array Bool) (a:Act) (w:World),planFrom md ops z plan listed=true->(plan≠[]->plan.head?.map (·.1)=some true->S w)->wpPlan P ops Q S z plan a w->wpAnyZ P md ops Q S z plan.length listed a w
 | [],listed,a,w,hB,_,h=>⟨by simpa [planFrom] using hB,h⟩
 | (true,i)::r,listed,a,w,hB,hS,h=>by
  simp only [planFrom,Bool.and_eq_true,bne_iff_ne] at hB;obtain ⟨⟨⟨hiz,hf⟩,hr⟩,hB'⟩:=hB;obtain ⟨o,ho,ht⟩:=h;have hSw:S w:=hS (by simp) rfl;unfold takeOp at ht
  split at ht
  ·rename_i hw
   obtain ⟨v,hv,hK⟩:=ht
   exact wpAnyZ_first ho hz hiz (Region.noSelect_spec hsel) (fun c a w=>hQ c _ _ w) r.length listed a w (Region.free_spec ho hf) (by simpa using hr) (.inl ⟨hw,hv⟩) hSw
    (wpAnyZ_of_plan hsel hz hQ r _ _ _ hB' (fun _ _=>hSw) hK)
  ·rename_i hw
   exact wpAnyZ_first ho hz hiz (Region.noSelect_spec hsel) (fun c a w=>hQ c _ _ w) r.length listed a w (Region.free_spec ho hf) (by simpa using hr) (.inr ⟨by simpa using hw,rfl⟩) hSw
    (wpAnyZ_of_plan hsel hz hQ r _ _ _ hB' (fun _ _=>hSw) ht)
 | (false,i)::r,listed,a,w,hB,hS,h=>by
  simp only [planFrom,Bool.and_eq_true,beq_iff_eq] at hB;obtain ⟨hr,hB'⟩:=hB;obtain ⟨o,ho,ht⟩:=h;refine ⟨fun h0=>(by rw [hr] at h0;cases h0),fun j hj=>?_⟩;rw [hr] at hj
  obtain rfl:j=i:=by simpa using hj
  have hstep:∀a' w',((j=z\/S w')/\wpPlan P ops Q S z r a' w')->((j=z\/S w')/\wpAnyZ P md ops Q S z r.length (listed.setIfInBounds j true) a' w'):=fun a' w' ⟨k1,k2⟩=>
   ⟨k1,wpAnyZ_of_plan hsel hz hQ r _ _ _ hB' (fun hne hhd=>by
    rcases k1 with k1|k1
    ·subst k1
     cases r with
     | nil=>exact absurd rfl hne
     | cons x r'=>
      obtain ⟨b,i'⟩:=x;simp at hhd;subst hhd;simp only [planFrom,Bool.and_eq_true,bne_iff_ne] at hB';obtain ⟨⟨⟨hiz,hf'⟩,hr'⟩,_⟩:=hB'
      have hmem:i'∈Region.ready md ops (listed.setIfInBounds j true):=by simpa using hr'
      obtain ⟨hun,oi,hoi,_⟩:=mem_ready.1 hmem
      have hun':listed.getD i' false=false:=by
       rw [getD_set_ne true (Ne.symm hiz)] at hun;exact getD_both hun
      exact absurd (by rw [hr];simp) (waitsAll_spec hz hoi hiz hun')
    ·exact k1) k2⟩
  unfold wpOp;simp only [ho];unfold wpList at ht
  split
  ·rename_i hw
   rw [if_pos hw] at ht
   rcases ht with ht|⟨h1,h2⟩
   ·refine .inl ?_
    unfold Oper.wp at *;have:=upon_then ht;exact Oper.wp_mono (fun a' w' hk=>hstep a' w' hk) this
   ·exact .inr ⟨h1,h2⟩
  ·rename_i hw
   rw [if_neg hw] at ht;exact hstep _ _ ht
theorem wp_region_plan {id:Nat} {a:Act} {w:World} {l:List Oper} (plan:List (Bool×Nat)) (z:Nat) (S:World->Prop) (hm:P.follows .mixedOrders=true) (hB:planB .any l.toArray z plan=true) (hl:plan.length=l.length)
  (hS:S w.drew) (h:wpPlan P l.toArray (NoPanic Q) S z plan a w.drew):(Code.region id l.toArray true).wp P Q a w:=by
 simp only [planB,Bool.and_eq_true] at hB;refine wp_region_noPanic (wp_region_any hm ?_);have:=wpAny_of_Z _ _ _ _ (wpAnyZ_of_plan (Q:=NoPanic Q) hB.1.1 hB.1.2 (fun c a a' w k=>k) plan _ a w.drew hB.2 (fun _ _=>hS) h);rw [hl] at this
 simpa using this
end
def isRead:Op->Bool
 | .move _ | .assign _ | .pick .. | .load .. | .binOp .. | .unOp .. | .convert .. | .fieldAddr .. | .field .. | .indexAddr .. | .index .. | .slice .. | .build .. | .extract .. | .lookup .. | .makeInterface .. | .makeFunc .. | .sliceToArrayPointer ..=>true
 | .call { callee:=.builtin .len,.. }=>true
 | _=>false
theorem value_run {P:Program} {s:Sem Value} {w w':World} {n:Next} (h:(s.bind fun v=>Sem.pure (Next.value v)).run P w = .ok n w'):∃v,n = .value v:=by
 rw [Sem.run_bind'] at h
 cases hs:s.run P w with
 | ok v w1=>rw [hs] at h;simp [Sem.run] at h;exact ⟨v,h.1.symm⟩
 | halt x w1=>rw [hs] at h;simp at h
theorem value_only {P:Program} {ρ : Operand->Value} {o:Oper} (hr:isRead o.op=true) {w w':World} {n:Next} (h:(execOp ρ o).run P w = .ok n w'):∃v,n = .value v:=by
 unfold execOp at h;generalize hop:o.op=op at hr h
 cases op <;> first|(simp only [isRead,Bool.false_eq_true] at hr;done)|skip
 case move x=>simp at h;exact ⟨_,h.1.symm⟩
 case assign x=>simp at h;exact ⟨_,h.1.symm⟩
 case pick c a b=>
  simp at h
  cases hs:(asBool (ρ c)).run P w with
  | ok x w1=>rw [hs] at h;simp at h;exact ⟨_,h.1.symm⟩
  | halt x w1=>rw [hs] at h;simp at h
 case call c=>
  rcases c with ⟨callee,args,ats⟩
  cases callee with
  | value f=>cases hr
  | invoke f g=>cases hr
  | builtin b=>
   cases b <;> simp only [isRead,Bool.false_eq_true] at hr
   exact value_run (s:=Builtin.len_ ats o.type (args.map ρ)) h
 all_goals exact value_run h
open Classical in
noncomputable def lowg (N:Nat) (w d:World):World:=if Same 0 N w d then d else w
theorem lowg_same (N:Nat) (w d:World):Same 0 N w (lowg N w d):=by
 unfold lowg
 split
 ·assumption
 ·exact fun _ _ _=>rfl
theorem lowg_of {N:Nat} {w d:World} (h:Same 0 N w d):d=lowg N w d:=by unfold lowg;rw [if_pos h]
@[go_sem] theorem cell?_lowg (N:Nat) (w d:World) (a:Addr) (h:a.block<N):(lowg N w d).cell? a=w.cell? a:=World.cell?_of_block (w:=w) (lowg_same N w d a.block (Nat.zero_le _) h)
@[go_sem] theorem frozen?_lowg (N:Nat) (w d:World) (a:Addr) (h:a.block<N):(lowg N w d).frozen? a=w.frozen? a:=World.frozen?_of_block (w:=w) (lowg_same N w d a.block (Nat.zero_le _) h)
def wpStages (P:Program) (ops:Array Oper) (Q:Exit->Act->World->Prop) (N:Nat) (w0:World) (z:Nat):List (List Nat×Nat)->Act->World->Prop
 | [],a,w=>Q .normal a w
 | (T,e)::r,a,w=>wpQuiet P ops (fun w'=>∃d,w'=lowg N w0 d) (fun a'=>∃o,ops[e]?=some o/\wpList P ops (Exit.then (fun a2 w2=>(e=z\/Same 0 N w0 w2)/\wpStages P ops Q N w0 z r a2 w2) Q) [o] a' w) (T.filterMap (ops[·]?)) a
def stagesPlan:List (List Nat×Nat)->List (Bool×Nat)
 | []=>[]
 | (T,e)::r=>T.map (fun i=>(true,i))++(false,e)::stagesPlan r
def readsOk (ops:Array Oper):List (List Nat×Nat)->Bool
 | []=>true
 | (T,_)::r=>T.all (fun i=>match ops[i]? with|some o=>isRead o.op|none=>false)&&readsOk ops r
theorem plan_of_quiet {P:Program} {ops:Array Oper} {Q:Exit->Act->World->Prop} {N:Nat} {w0:World} {z:Nat} {r:List (Bool×Nat)} {w:World} {K:Act->Prop}
  (hK:∀a,K a->wpPlan P ops Q (fun w'=>∃d,w'=lowg N w0 d) z r a w) :
  ∀(T:List Nat) (a:Act),T.all (fun i=>match ops[i]? with|some o=>isRead o.op|none=>false)=true->wpQuiet P ops (fun w'=>∃d,w'=lowg N w0 d) K (T.filterMap (ops[·]?)) a ->
   wpPlan P ops Q (fun w'=>∃d,w'=lowg N w0 d) z (T.map (fun i=>(true,i))++r) a w
 | [],a,_,h=>hK a h
 | i::T,a,hr,h=>by
  simp only [List.all_cons,Bool.and_eq_true] at hr;obtain ⟨hri,hr'⟩:=hr
  cases ho:ops[i]? with
  | none=>rw [ho] at hri;cases hri
  | some o=>
   rw [ho] at hri;simp only [List.filterMap_cons,ho] at h;refine ⟨o,ho,?_⟩;unfold takeOp;unfold wpQuiet at h
   split
   ·rename_i hw
    rw [if_pos hw] at h;obtain ⟨v,hv,hn⟩:=h;refine ⟨v,fun w' hw'=>?_,plan_of_quiet hK T _ hr' hn⟩;have h1:=hv w' hw';unfold Oper.quietAt at h1
    cases hrun:(execOp a.eval o).run P w' with
    | halt x w1=>rw [hrun] at h1;exact h1.elim
    | ok n w1=>
     obtain ⟨u,rfl⟩:=value_only hri hrun;rw [hrun] at h1;obtain ⟨e1,e2⟩:=h1;rw [e1,e2]
   ·rename_i hw
    rw [if_neg hw] at h;exact plan_of_quiet hK T _ hr' h
theorem plan_of_stages {P:Program} {ops:Array Oper} {Q:Exit->Act->World->Prop} {N:Nat} {w0:World} {z:Nat}:∀(st:List (List Nat×Nat)) (a:Act) (w:World),readsOk ops st=true ->
  wpStages P ops Q N w0 z st a w->wpPlan P ops Q (fun w'=>∃d,w'=lowg N w0 d) z (stagesPlan st) a w
 | [],_,_,_,h=>h
 | (T,e)::r,a,w,hr,h=>by
  simp only [readsOk,Bool.and_eq_true] at hr;refine plan_of_quiet (K:=fun a'=>∃o,ops[e]?=some o/\wpList P ops (Exit.then (fun a2 w2=>(e=z\/Same 0 N w0 w2)/\wpStages P ops Q N w0 z r a2 w2) Q) [o] a' w) (fun a' ha=>?_) T a hr.1 h;obtain ⟨o,ho,hl⟩:=ha;refine ⟨o,ho,?_⟩
  have key:∀a2 w2,((e=z\/Same 0 N w0 w2)/\wpStages P ops Q N w0 z r a2 w2)->((e=z\/∃d,w2=lowg N w0 d)/\wpPlan P ops Q (fun w'=>∃d,w'=lowg N w0 d) z (stagesPlan r) a2 w2):=
   fun a2 w2 ⟨k1,k2⟩=>⟨k1.imp id (fun k=>⟨_,lowg_of k⟩),plan_of_stages r a2 w2 hr.2 k2⟩
  unfold wpList at hl ⊢
  split
  ·rename_i hw
   rw [if_pos hw] at hl
   rcases hl with hl|⟨h1,h2⟩
   ·refine .inl ?_
    have h3:=upon_then hl;have h4:o.wp P a' w (wpList P ops (Exit.then (fun a2 w2=>(e=z\/Same 0 N w0 w2)/\wpStages P ops Q N w0 z r a2 w2) Q) []) Q:=h3;have h5:=Oper.wp_mono (K':=wpList P ops (Exit.then (fun a2 w2=>(e=z\/∃d,w2=lowg N w0 d)/\wpPlan P ops Q (fun w'=>∃d,w'=lowg N w0 d) z (stagesPlan r) a2 w2) Q) []) (fun a2 w2 hk=>key a2 w2 hk) h4;unfold Oper.wp at h5 ⊢;generalize (execOp a'.eval o).run P w=res at h5 ⊢
    cases res with
    | ok n w'=>cases n <;> exact h5
    | halt x w'=>cases x <;> exact h5
   ·exact .inr ⟨h1,h2⟩
  ·rename_i hw
   rw [if_neg hw] at hl;exact key _ _ hl
theorem wp_region_stages {P:Program} {Q:Exit->Act->World->Prop} {id:Nat} {a:Act} {w:World} {l:List Oper} (st:List (List Nat×Nat)) (z N:Nat) (hm:P.follows .mixedOrders=true)
  (hB:(planB .any l.toArray z (stagesPlan st)&&readsOk l.toArray st&&(stagesPlan st).length==l.length)=true)
  (h:wpStages P l.toArray (NoPanic Q) N w z st a w.drew):(Code.region id l.toArray true).wp P Q a w:=by
 simp only [Bool.and_eq_true,beq_iff_eq] at hB
 have hs:∀w2,Same 0 N w w2->∃d,w2=lowg N w d:=fun w2 k=>⟨_,lowg_of k⟩
 exact wp_region_plan (stagesPlan st) z (fun w'=>∃d,w'=lowg N w d) hm hB.1.1 hB.2 (hs _ (fun _ _ _=>rfl)) (plan_of_stages st a w.drew hB.1.2 h)
theorem wpStages_nil {P:Program} {ops:Array Oper} {Q:Exit->Act->World->Prop} {N:Nat} {w0:World} {z:Nat} {a:Act} {w:World} (h:Q .normal a w):wpStages P ops (NoPanic Q) N w0 z [] a w:=h
theorem wpStages_cons {P:Program} {ops:Array Oper} {Q:Exit->Act->World->Prop} {N:Nat} {w0:World} {z:Nat} {T:List Nat} {e:Nat} {r:List (List Nat×Nat)} {a:Act} {w:World}
  (h:wpQuiet P ops (fun w'=>∃d,w'=lowg N w0 d) (fun a'=>∃o,ops[e]?=some o/\∀K:Act->World->Prop,(∀a2 w2,(e=z\/Same 0 N w0 w2)->wpStages P ops Q N w0 z r a2 w2->K a2 w2)->wpList P ops (Exit.then K Q) [o] a' w) (T.filterMap (ops[·]?)) a) :
  wpStages P ops Q N w0 z ((T,e)::r) a w:=by
 unfold wpStages
 have e1:(fun a'=>∃o,ops[e]?=some o/\wpList P ops (Exit.then (fun a2 w2=>(e=z\/Same 0 N w0 w2)/\wpStages P ops Q N w0 z r a2 w2) Q) [o] a' w) =
   (fun a'=>∃o,ops[e]?=some o/\∀K:Act->World->Prop,(∀a2 w2,(e=z\/Same 0 N w0 w2)->wpStages P ops Q N w0 z r a2 w2->K a2 w2)->wpList P ops (Exit.then K Q) [o] a' w):=by
  funext a'
  refine propext ⟨fun ⟨o,ho,hl⟩=>⟨o,ho,fun K hK=>?_⟩,fun ⟨o,ho,hl⟩=>⟨o,ho,hl _ fun a2 w2 h1 h2=>⟨h1,h2⟩⟩⟩;unfold wpList at hl ⊢
  split
  ·rename_i hw
   rw [if_pos hw] at hl
   rcases hl with hl|⟨h1,h2⟩
   ·refine .inl ?_
    have h4:=Oper.wp_mono (K':=wpList P ops (Exit.then K Q) []) (fun a2 w2 hk=>hK a2 w2 hk.1 hk.2) hl;unfold Oper.wp at h4 ⊢;generalize (execOp a'.eval o).run P w=res at h4 ⊢
    cases res with
    | ok n w'=>cases n <;> exact h4
    | halt x w'=>cases x <;> exact h4
   ·exact .inr ⟨h1,h2⟩
  ·rename_i hw
   rw [if_neg hw] at hl;exact hK _ _ hl.1 hl.2
 rw [e1];exact h
def wpZ (P:Program) (ops:Array Oper) (Q:Exit->Act->World->Prop) (N:Nat) (w0:World) (z fuel:Nat) (listed:Array Bool) (a:Act) (w:World):Prop:=
 wpAnyZ P .any ops Q (fun w'=>∃d,w'=lowg N w0 d) z fuel listed a w
def listAll:List Nat->Array Bool->Array Bool
 | [],l=>l
 | i::r,l=>listAll r (l.setIfInBounds i true)
def takesOk (ops:Array Oper) (z:Nat):List Nat->Array Bool->Bool
 | [],_=>true
 | i::r,l=>(match ops[i]? with|some o=>isRead o.op|none=>false)&&(i != z&&Region.free .any ops l i&&(Region.ready .any ops l).contains i)&&takesOk ops z r (l.setIfInBounds i true)
def stageOk (ops:Array Oper) (z:Nat) (T E:List Nat) (l:Array Bool):Bool:=
 Region.noSelect ops&&waitsAll .any ops z&&takesOk ops z T l&&(Region.ready .any ops (listAll T l)==E) && !E.isEmpty
def wpComes (P:Program) (ops:Array Oper) (Q:Exit->Act->World->Prop) (N:Nat) (w0:World) (z fuel:Nat) (l:Array Bool) (e:Nat) (a:Act) (w:World):Prop:=
 ∃o,ops[e]?=some o/\∀K:Act->World->Prop,(∀a2 w2,(e=z\/Same 0 N w0 w2)->wpZ P ops Q N w0 z fuel (l.setIfInBounds e true) a2 w2->K a2 w2)->wpList P ops (Exit.then K Q) [o] a w
theorem wpOp_of_comes {P:Program} {ops:Array Oper} {Q:Exit->Act->World->Prop} {N:Nat} {w0:World} {z fuel:Nat} {l:Array Bool} {e:Nat} {a:Act} {w:World} (h:wpComes P ops Q N w0 z fuel l e a w) :
  wpOp P ops Q e (fun a' w'=>(e=z\/∃d,w'=lowg N w0 d)/\wpZ P ops Q N w0 z fuel (l.setIfInBounds e true) a' w') a w:=by
 obtain ⟨o,ho,hl⟩:=h;have ht:=hl (fun a' w'=>(e=z\/∃d,w'=lowg N w0 d)/\wpZ P ops Q N w0 z fuel (l.setIfInBounds e true) a' w') (fun a2 w2 k1 k2=>⟨k1.imp id (fun k=>⟨_,lowg_of k⟩),k2⟩);unfold wpOp;simp only [ho];unfold wpList at ht
 split
 ·rename_i hw
  rw [if_pos hw] at ht
  rcases ht with ht|⟨h1,h2⟩
  ·refine .inl ?_
   have h3:=upon_then ht;exact h3
  ·exact .inr ⟨h1,h2⟩
 ·rename_i hw
  rw [if_neg hw] at ht;exact ht
theorem wpZ_takes {P:Program} {ops:Array Oper} {Q:Exit->Act->World->Prop} {N:Nat} {w0:World} {z fuel:Nat} {w:World} {K:Act->Prop} (hsel:Region.noSelect ops=true) (hz:waitsAll .any ops z=true) (hS:∃d,w=lowg N w0 d) :
  ∀(T:List Nat) (l:Array Bool) (a:Act),takesOk ops z T l=true->(∀a,K a->wpZ P ops (NoPanic Q) N w0 z fuel (listAll T l) a w) ->
   wpQuiet P ops (fun w'=>∃d,w'=lowg N w0 d) K (T.filterMap (ops[·]?)) a->wpZ P ops (NoPanic Q) N w0 z (T.length+fuel) l a w
 | [],l,a,_,hK,h=>by rw [List.length_nil,Nat.zero_add];exact hK a h
 | i::T,l,a,hT,hK,h=>by
  simp only [takesOk,Bool.and_eq_true,bne_iff_ne] at hT;obtain ⟨⟨hri,⟨hiz,hf⟩,hr⟩,hT'⟩:=hT
  cases ho:ops[i]? with
  | none=>rw [ho] at hri;cases hri
  | some o=>
   rw [ho] at hri;simp only [List.filterMap_cons,ho] at h;unfold wpQuiet at h
   have hlen:(i::T).length+fuel=T.length+fuel+1:=by rw [List.length_cons];omega
   rw [hlen]
   split at h
   ·rename_i hw
    obtain ⟨v,hv,hn⟩:=h;refine wpAnyZ_first (v:=v) ho hz hiz (Region.noSelect_spec hsel) (fun c a w k=>k) _ l a w (Region.free_spec ho hf) (by simpa using hr) (.inl ⟨hw,fun w' hw'=>?_⟩) hS (wpZ_takes hsel hz hS T _ _ hT' hK hn);have h1:=hv w' hw';unfold Oper.quietAt at h1
    cases hrun:(execOp a.eval o).run P w' with
    | halt x w1=>rw [hrun] at h1;exact h1.elim
    | ok n w1=>
     obtain ⟨u,rfl⟩:=value_only hri hrun;rw [hrun] at h1;obtain ⟨e1,e2⟩:=h1;rw [e1,e2]
   ·rename_i hw
    exact wpAnyZ_first (v:=undef) ho hz hiz (Region.noSelect_spec hsel) (fun c a w k=>k) _ l a w (Region.free_spec ho hf) (by simpa using hr) (.inr ⟨by simpa using hw,rfl⟩) hS (wpZ_takes hsel hz hS T _ _ hT' hK h)
theorem wpZ_stage {P:Program} {ops:Array Oper} {Q:Exit->Act->World->Prop} {N:Nat} {w0:World} {z fuel:Nat} {l:Array Bool} {a:Act} {w:World} (T E:List Nat) (hB:stageOk ops z T E l=true) (hS:Same 0 N w0 w)
  (h:wpQuiet P ops (fun w'=>∃d,w'=lowg N w0 d) (fun a'=>∀e∈E,wpComes P ops (NoPanic Q) N w0 z fuel (listAll T l) e a' w) (T.filterMap (ops[·]?)) a) :
  wpZ P ops (NoPanic Q) N w0 z (T.length+(fuel+1)) l a w:=by
 simp only [stageOk,Bool.and_eq_true,beq_iff_eq] at hB;obtain ⟨⟨⟨⟨h1,h2⟩,h3⟩,h4⟩,h5⟩:=hB;refine wpZ_takes h1 h2 ⟨_,lowg_of hS⟩ T l a h3 (fun a' hk=>?_) h;refine ⟨fun h0=>?_,fun e he=>?_⟩
 ·rw [h4] at h0;rw [h0] at h5;cases h5
 ·rw [h4] at he
  exact wpOp_of_comes (hk e he)
theorem z1_ {P:Program} {ops:Array Oper} {Q:Exit->Act->World->Prop} {N:Nat} {w0:World} {z fuel:Nat} {l:Array Bool} {a:Act} {w:World} {lst:List Oper} {a0 a1:Act} {o:Oper} (T:List Nat) (e:Nat) (hS:Same 0 N w0 w)
  (h:∀K:Act->World->Prop,(∀a2 w2,(e=z\/Same 0 N w0 w2)->wpZ P ops (NoPanic Q) N w0 z fuel ((listAll T l).setIfInBounds e true) a2 w2->K a2 w2)->wpList P ops (Exit.then K (NoPanic Q)) [o] a1 w)
  (hl:T.filterMap (ops[·]?)=lst:=by first|(simp only [List.filterMap_cons,List.filterMap_nil,List.getElem?_toArray,List.getElem?_cons_zero,List.getElem?_cons_succ];rfl)|rfl)
  (ha:a=a0:=by first|(simp only [Act.put,List.setIfInBounds_toArray,List.set_cons_succ,List.set_cons_zero];rfl)|rfl)
  (hq:∀R:Act->Prop,R a1->wpQuiet P ops (fun w'=>∃d,w'=lowg N w0 d) R lst a0:=by intro R h;(repeat (show wpQuiet _ _ _ _ (_::_) _;go_big_quiet_step (fail)));exact wpQuiet_nil h)
  (hB:stageOk ops z T [e] l=true:=by kernel_rfl) (ho:ops[e]?=some o:=by first|(simp only [List.getElem?_toArray,List.getElem?_cons_succ,List.getElem?_cons_zero];rfl)|rfl):wpZ P ops (NoPanic Q) N w0 z (T.length+(fuel+1)) l a w:=by
 subst ha;refine wpZ_stage T [e] hB hS ?_;rw [hl];refine hq _ (fun e' he=>?_)
 obtain rfl:e'=e:=by simpa using he
 exact ⟨o,ho,h⟩
theorem z2_ {P:Program} {ops:Array Oper} {Q:Exit->Act->World->Prop} {N:Nat} {w0:World} {z fuel:Nat} {l:Array Bool} {a:Act} {w:World} {lst:List Oper} {a0 a1:Act} {o1 o2:Oper} (T:List Nat) (e1 e2:Nat) (hS:Same 0 N w0 w)
  (h1:∀K:Act->World->Prop,(∀a2 w2,(e1=z\/Same 0 N w0 w2)->wpZ P ops (NoPanic Q) N w0 z fuel ((listAll T l).setIfInBounds e1 true) a2 w2->K a2 w2)->wpList P ops (Exit.then K (NoPanic Q)) [o1] a1 w)
  (h2:∀K:Act->World->Prop,(∀a2 w2,(e2=z\/Same 0 N w0 w2)->wpZ P ops (NoPanic Q) N w0 z fuel ((listAll T l).setIfInBounds e2 true) a2 w2->K a2 w2)->wpList P ops (Exit.then K (NoPanic Q)) [o2] a1 w)
  (hl:T.filterMap (ops[·]?)=lst:=by first|(simp only [List.filterMap_cons,List.filterMap_nil,List.getElem?_toArray,List.getElem?_cons_zero,List.getElem?_cons_succ];rfl)|rfl)
  (ha:a=a0:=by first|(simp only [Act.put,List.setIfInBounds_toArray,List.set_cons_succ,List.set_cons_zero];rfl)|rfl)
  (hq:∀R:Act->Prop,R a1->wpQuiet P ops (fun w'=>∃d,w'=lowg N w0 d) R lst a0:=by intro R h;(repeat (show wpQuiet _ _ _ _ (_::_) _;go_big_quiet_step (fail)));exact wpQuiet_nil h)
  (hB:stageOk ops z T [e1,e2] l=true:=by kernel_rfl) (ho1:ops[e1]?=some o1:=by first|(simp only [List.getElem?_toArray,List.getElem?_cons_succ,List.getElem?_cons_zero];rfl)|rfl) (ho2:ops[e2]?=some o2:=by first|(simp only [List.getElem?_toArray,List.getElem?_cons_succ,List.getElem?_cons_zero];rfl)|rfl):wpZ P ops (NoPanic Q) N w0 z (T.length+(fuel+1)) l a w:=by
 subst ha;refine wpZ_stage T [e1,e2] hB hS ?_;rw [hl];refine hq _ (fun e' he=>?_)
 rcases (show e'=e1\/e'=e2 by simpa using he) with rfl|rfl
 ·exact ⟨o1,ho1,h1⟩
 ·exact ⟨o2,ho2,h2⟩
theorem wpZ_end {P:Program} {ops:Array Oper} {Q:Exit->Act->World->Prop} {N:Nat} {w0:World} {z:Nat} {l:Array Bool} {a:Act} {w:World} (hB:(Region.ready .any ops l).isEmpty=true) (h:Q .normal a w):wpZ P ops (NoPanic Q) N w0 z 0 l a w:=
 ⟨by simpa using hB,h⟩
theorem wp_region_Z {P:Program} {Q:Exit->Act->World->Prop} {id:Nat} {a:Act} {w:World} {l:List Oper} (z N:Nat) (hm:P.follows .mixedOrders=true)
  (h:wpZ P l.toArray (NoPanic Q) N w z l.length (Array.replicate l.length false) a w.drew):(Code.region id l.toArray true).wp P Q a w:=by
 refine wp_region_noPanic (wp_region_any hm ?_);have:=wpAny_of_Z _ _ _ _ h
 simpa using this
theorem st_ {P:Program} {ops:Array Oper} {Q:Exit->Act->World->Prop} {N:Nat} {w0:World} {z:Nat} {T:List Nat} {e:Nat} {r:List (List Nat×Nat)} {a:Act} {w:World} {l:List Oper} {a0 a1:Act} {o:Oper}
  (h:∀K:Act->World->Prop,(∀a2 w2,(e=z\/Same 0 N w0 w2)->wpStages P ops Q N w0 z r a2 w2->K a2 w2)->wpList P ops (Exit.then K Q) [o] a1 w)
  (hl:T.filterMap (ops[·]?)=l:=by first|(simp only [List.filterMap_cons,List.filterMap_nil,List.getElem?_toArray,List.getElem?_cons_zero,List.getElem?_cons_succ];rfl)|rfl)
  (ha:a=a0:=by first|(simp only [Act.put,List.setIfInBounds_toArray,List.set_cons_succ,List.set_cons_zero];rfl)|rfl)
  (hq:∀R:Act->Prop,R a1->wpQuiet P ops (fun w'=>∃d,w'=lowg N w0 d) R l a0:=by intro R h;(repeat (show wpQuiet _ _ _ _ (_::_) _;go_big_quiet_step (fail)));exact wpQuiet_nil h) (ho:ops[e]?=some o:=by first|(simp only [List.getElem?_toArray,List.getElem?_cons_succ,List.getElem?_cons_zero];rfl)|rfl):wpStages P ops Q N w0 z ((T,e)::r) a w:=by
 subst ha;refine wpStages_cons ?_;rw [hl];exact hq _ ⟨o,ho,h⟩
section
variable {P : Program} {ops : Array Oper} {Q : Exit -> Act -> World -> Prop} {md : Region.Mode} {l n : Nat}
abbrev rd (l:Nat):Fence:=Fence.wide.inRound l
theorem round_room (l n:Nat):(rd l).depth.isSome=true->1<=n:=fun h=>by simp [rd,Fence.wide] at h
theorem rows_in {row:String} {args:Array Value} {w:World} {R:Value->World->Prop} (h:Rows P row args w R):RowsIn (rd l) n P row args w R:=
 fun c cs _=>let ⟨v,w',r,s⟩:=h c cs;⟨v,w',r,(stepsIn_wide (P:=P)).2 s⟩
theorem oper_in {o:Oper} {a:Act} {w:World} {K:Act->World->Prop} (hd:∀c,o.op≠.defer c) (hl : ¬LetsOut Q) (h:o.wp P a w K Q\/(o.asks P a w/\LetsOut Q)):o.wpIn (rd l) n P a w K Q:=by
 rcases h with h|⟨_,h⟩
 ·refine ⟨fun _ _=>trivial,?_⟩
  rw [show (rd l).round=some l from rfl,Oper.semAt_some l _ _ hd];unfold Oper.wp at h;generalize (execOp a.eval o).run P w=r at h ⊢
  cases r with
  | ok x w'=>
   cases x
   case value v=>exact h
   case skip=>exact h
   case defer d=>exact h
   case enter f args=>exact ⟨round_room l n,CallsIn.inRound l ((callsIn_wide (n:=n - 1)).2 h)⟩
   case row r args=>exact ⟨round_room l n,rows_in h⟩
   all_goals exact (h:False).elim
  | halt x w'=>
   cases x
   all_goals first|exact h|exact (h:False).elim
 ·exact (hl h).elim
def noDefer (ops:List Oper):Bool:=ops.all fun o=>match o.op with | .defer _=>false|_=>true
theorem noDefer_at {ops:List Oper} (h:noDefer ops=true) {i:Nat} {o:Oper} (ho:ops[i]?=some o):∀c,o.op≠.defer c:=by
 intro c hc;have:=List.all_eq_true.1 h o (List.mem_of_getElem? ho);rw [hc] at this;cases this
theorem wpAny_in (hd:noDefer ops.toList=true) (hl : ¬LetsOut Q):∀(fuel:Nat) (listed:Array Bool) (a:Act) (w:World),wpAny P md ops Q fuel listed a w->wpAnyIn (rd l) n P md ops Q fuel listed a w
 | 0,_,_,_,h=>h
 | fuel+1,listed,a,w,h=>by
  refine ⟨h.1,fun i hi=>?_⟩;have h2:=wpOp_mono (fun a' w' h'=>wpAny_in hd hl fuel _ a' w' h') (h.2 i hi);unfold wpOp at h2;unfold wpOpIn
  cases ho:ops[i]? with
  | none=>rw [ho] at h2;exact h2
  | some o=>
   rw [ho] at h2;simp only at h2 ⊢
   split
   ·rename_i hw
    rw [if_pos hw] at h2;exact oper_in (noDefer_at (i:=i) hd (by simpa using ho)) hl h2
   ·rename_i hw
    rw [if_neg hw] at h2;exact ⟨fun _ _=>trivial,h2⟩
theorem wpList_in (hl : ¬LetsOut Q):∀(rest:List Oper) (a:Act) (w:World),noDefer rest=true->wpList P ops Q rest a w->wpListIn (rd l) n P ops Q rest a w
 | [],_,_,_,h=>h
 | o::rest,a,w,hd,h=>by
  have hd2:noDefer rest=true:=by
   unfold noDefer at hd ⊢;rw [List.all_cons,Bool.and_eq_true] at hd;exact hd.2
  unfold wpList at h;unfold wpListIn
  split
  ·rename_i hw
   rw [if_pos hw] at h;refine oper_in (noDefer_at (i:=0) hd rfl) hl (h.imp (fun k=>?_) id);exact Oper.wp_mono (fun a' w' h'=>wpList_in hl rest a' w' hd2 h') k
  ·rename_i hw
   rw [if_neg hw] at h;exact ⟨fun _ _=>trivial,wpList_in hl rest _ _ hd2 h⟩
theorem noPanic_out (hl : ¬LetsOut Q) : ¬LetsOut (NoPanic Q):=fun ⟨a,w,h⟩=>hl ⟨a,w,h⟩
theorem wpIn_region_Z {id:Nat} {a:Act} {w:World} {l':List Oper} (z N:Nat) (hm:P.follows .mixedOrders=true) (hd:noDefer l'=true) (hl : ¬LetsOut Q)
  (h:wpZ P l'.toArray (NoPanic Q) N w z l'.length (Array.replicate l'.length false) a w.drew):(Code.region id l'.toArray true).wpIn (rd l) n P Q a w:=by
 refine Go.wpIn_mono (wpIn_region_any hm (wpAny_in (by simpa using hd) (noPanic_out hl) _ _ _ _ ?_)) NoPanic.imp;have:=wpAny_of_Z _ _ _ _ h
 simpa using this
theorem wpIn_region_plain {id:Nat} {a:Act} {w:World} {l':List Oper} (hd:noDefer l'=true) (hl : ¬LetsOut Q) (h:wpList P l'.toArray Q l' a w):(Code.region id l'.toArray false).wpIn (rd l) n P Q a w:=
 wpIn_region_lit (wpList_in hl _ _ _ hd h)
end
section
open Go.RowKit Go.Shelf
attribute [local go_sem] Oper.semAt_some
def cellK (n:Nat) (hn:0<n) (k:Nat):Fin n×Fin n:=(⟨k % n,Nat.mod_lt _ hn⟩,⟨k / n % n,Nat.mod_lt _ hn⟩)
def cellsTo (n:Nat) (hn:0<n) (k:Nat):List (Fin n×Fin n):=(List.range k).map (cellK n hn)
theorem cellsTo_length (n:Nat) (hn:0<n) (k:Nat):(cellsTo n hn k).length=k:=by simp [cellsTo]
theorem cellsTo_succ (n:Nat) (hn:0<n) (k:Nat):cellsTo n hn (k+1)=cellsTo n hn k++[cellK n hn k]:=by simp [cellsTo,List.range_succ]
def KB (B:Nat) (W W':World):Prop:=W'.heap[B]?=W.heap[B]?
theorem KB.trans {B:Nat} {X Y Z:World} (h:KB B X Y) (k:KB B Y Z):KB B X Z:=Eq.trans k h
theorem cells_val (n:Nat) (m:Nat) (w:World) :
  CallsIn Fence.wide m Tryz.prog 157 #[n] w fun e w'=>e = .returned (.func (.func 219) #[] #[.pointer (some ⟨w.heap.size,0,none⟩)])/\w'=w.alloc (.cells #[n] 3):=by
 refine callsIn_wide.2 ?_;have hmf:∀w:World,(Instr.makeFunc (.func 219) #[] #[.pointer (some ⟨w.heap.size,0,none⟩)]).run Tryz.prog w = .ok (.func (.func 219) #[] #[.pointer (some ⟨w.heap.size,0,none⟩)]) w:=fun _=>rfl;go_enter Tryz.func157,Tryz.ntmps157;go_wp2;go_ret;exact ⟨rfl,rfl⟩
theorem cells_in (n:Nat) (h0n:0<n) (hn':n<=64) (m:Nat) (l B:Nat) (J Jx:List (Fin n×Fin n)->World->Prop)
  (hJd:∀s W,J s W->J s W.drew)
  (hY:∀pre x W,J pre W->pre.length<n*n->YieldAt Fence.wide (m - 1) Tryz.prog l #[(x.1:Nat),(x.2:Nat)] W fun e W'=>
   (e = .returned (.bool true)/\J (pre++[x]) W'/\KB B W W')\/(e = .returned (.bool false)/\Jx (pre++[x]) W'))
  (W:World) (hW:W.cell? ⟨B,0,none⟩=some (.int .i64 n)) (h0:J [] W) :
  CallsIn Fence.wide m Tryz.prog 219 #[.func (.yield l) #[] #[],.pointer (some ⟨B,0,none⟩)] W fun e W'=>(∃v,e = .returned v) /\
   ((∃xs,xs=cellsTo n h0n (n*n)/\J xs W')\/(∃pre,True/\Jx pre W')):=by
 have hnn:n*n<=4096:=Nat.mul_le_mul hn' hn';refine callsIn_of_wp Tryz.func219 rfl trivial ?_ rfl;simp only [Tryz.ntmps219,List.size_toArray,List.length_cons,List.length_nil,Nat.reduceAdd,Nat.reduceSub,Array.replicate_succ,Array.replicate_zero,List.push_toArray,List.append_toArray,List.nil_append,List.cons_append]
 gi_wp2
 gi_loopw [3] (fun i wr=>∃k:Nat,k<=n*n/\i = .int .i64 k/\J (cellsTo n h0n k) wr/\KB B W wr) (fun i _=>n*n - (intOf i).toNat)
 case atStart=>exact ⟨0,Nat.zero_le _,rfl,h0,rfl⟩
 case round=>
  obtain ⟨k,hk,rfl,hJs,hnx⟩:=hrel;have hc:wr.cell? ⟨B,0,none⟩=some (.int .i64 n):=(World.cell?_of_block (w:=W) (w':=wr) (a:=⟨B,0,none⟩) hnx).trans hW
  have hmul:(n:Int)*n=((n*n:Nat):Int):=by simp
  obtain ⟨N,hN⟩:∃N,n*n=N:=⟨_,rfl⟩
  rw [hN] at hmul hk hnn ⊢
  by_cases hlt:k<N
  ·have hne:(n:Int)≠0:=by omega
   have hq:k / n % n=k / n:=Nat.mod_eq_of_lt (Nat.div_lt_of_lt_mul (by rw [hN];exact hlt));have hm:k % n<n:=Nat.mod_lt _ h0n
   have t1:Int.tmod (k:Int) n=((k % n:Nat):Int):=by rw [Int.tmod_eq_emod_of_nonneg (by omega)];rfl
   have t2:Int.tdiv (k:Int) n=((k / n:Nat):Int):=by rw [Int.tdiv_eq_ediv_of_nonneg (by omega)];rfl
   have hd:k / n<n:=Nat.div_lt_of_lt_mul (by rw [hN];exact hlt)
   obtain ⟨r,hr⟩:∃r,k % n=r:=⟨_,rfl⟩
   obtain ⟨d,hdd⟩:∃d,k / n=d:=⟨_,rfl⟩
   obtain ⟨fn,tmps,assign,body,hy,hR⟩:=hY (cellsTo n h0n k) (cellK n h0n k) wr.drew (hJd _ _ hJs) (by rw [cellsTo_length,hN];exact hlt);rw [<-cellsTo_succ] at hR;dsimp only [cellK] at hy;rw [hq,hr,hdd] at hy;rw [hr] at t1 hm;rw [hdd] at t2 hd;have t3:IntKind.i64.wrap (d:Int)=(d:Int):=IntWalk.i64_in _ (by omega);clear hq hr hdd hJs
   gi_wp2
   have hmx:Tryz.prog.follows .mixedOrders=true:=by kernel_rfl
   have hR2:=RoundIn.mono (R':=fun e W'=>∃b:Bool,e = .returned (.bool b)/\((b=true/\J (cellsTo n h0n (k+1)) W'/\KB B wr.drew W')\/(b=false/\Jx (cellsTo n h0n (k+1)) W'))) hR (fun e W' h=>by
    rcases h with ⟨rfl,h1,h2⟩|⟨rfl,h1⟩
    ·exact ⟨true,rfl,.inl ⟨rfl,h1,h2⟩⟩
    ·exact ⟨false,rfl,.inr ⟨rfl,h1⟩⟩)
   clear hR
   gi_region_with_o (refine ⟨fun h=>by simp [Fence.wide] at h,?_⟩;refine hR2.mono ?_;rintro e W3 ⟨b,rfl,h3⟩)
   all_goals (try simp only [Act.put,List.getElem_toArray,List.getElem_cons_succ,List.getElem_cons_zero,List.setIfInBounds_toArray,List.set_cons_succ,List.set_cons_zero])
   all_goals clear hR2 hy hY t1 t2 t3
   all_goals rcases h3 with ⟨rfl,h4,h5⟩|⟨rfl,h4⟩
   all_goals first
    | (have h6:KB B W _:=KB.trans (Y:=wr.drew) hnx h5
       gi_wp2
       go_roundw
       case rel=>exact ⟨k+1,by omega,by go_num,h4,h6⟩
       case measure=>simp [intOf];omega)
    | (gi_wp2
       refine bodyPost_ret (results_none rfl _ _ _) rfl ?_
       exact ⟨⟨_,rfl⟩,.inr ⟨_,trivial,h4⟩⟩)
  ·obtain rfl:k=N:=by omega
   gi_wp2
   go_end0
   exact ⟨⟨_,rfl⟩,.inl ⟨_,rfl,by rw [hN];exact hJs⟩⟩
theorem cells_stops (n:Nat) (h0n:0<n) (hn':n<=64) (m B:Nat) (w:World) (hw0:B<w.heap.size) (hw:w.cell? ⟨B,0,none⟩=some (.int .i64 n)) :
  SeqStopsK Fence.wide m Tryz.prog 219 #[.pointer (some ⟨B,0,none⟩)] (fun x:Fin n×Fin n=>#[(x.1:Nat),(x.2:Nat)]) (KB B)
   (fun xs=>xs=cellsTo n h0n (n*n)) (fun _=>True) (n*n) w:=fun l J Jx W hW hJ _ hY h0=>
 cells_in n h0n hn' m l B J Jx (fun s W hs=>hJ s W _ none hs ⟨rfl,rfl,rfl,Nat.le_refl _,fun _ _ _=>rfl⟩ (fun r e=>by cases e)) hY W ((Below.cell (p:=⟨B,0,none⟩) hW hw0).trans hw) h0
end
def inB (n lo hi:Int):Bool:=decide (lo<=n)&&decide (n<=hi)
theorem inB_iff {n lo hi:Int}:inB n lo hi=true↔lo<=n/\n<=hi:=by simp [inB]
def clampI (n lo hi:Int):Int:=if hi<lo\/n<lo then lo else if hi<n then hi else n
def fdiv (a b:Int):Int:=if b<1 then 0 else a / b
theorem tdiv_neg_mod {n b:Int} (hb:1<=b) (h:n.tmod b<0):n.tdiv b - 1=n / b:=by
 have h1:=Int.tmod_add_mul_tdiv n b;have h2 : -b<n.tmod b:=Int.lt_tmod_of_pos n (by omega)
 have h3:(n.tdiv b - 1)*b=b*n.tdiv b - b:=by rw [Int.sub_mul,Int.one_mul,Int.mul_comm]
 rw [eq_comm,Int.ediv_eq_iff_of_pos (by omega),h3];omega
theorem tdiv_pos_mod {n b:Int} (hb:1<=b) (h:0<=n.tmod b):n.tdiv b=n / b:=by
 have h1:=Int.tmod_add_mul_tdiv n b;have h2:n.tmod b<b:=Int.tmod_lt_of_pos n (by omega);rw [eq_comm,Int.ediv_eq_iff_of_pos (by omega),Int.mul_comm];omega
theorem fdiv_i64 {a b:Int} (ha:I64 a):I64 (fdiv a b):=by
 unfold fdiv
 split
 ·exact ⟨by omega,by omega⟩
 ·have h1:=ha.lo
  have h2:=ha.hi;refine ⟨?_,?_⟩
  ·rw [Int.le_ediv_iff_mul_le (by omega)]
   have:(-9223372036854775808:Int)*b<=-9223372036854775808*1:=Int.mul_le_mul_of_nonpos_left (by omega) (by omega);omega
  ·have:=Int.ediv_le_ediv (show 0<b by omega) h2
   have h3:(9223372036854775807:Int) / b<=9223372036854775807:=Int.ediv_le_self _ (by omega);omega
theorem within_any (n lo hi:Int) (w:World):Calls Tryz.prog 54 #[n,lo,hi] w fun e w'=>e = .returned (.bool (inB n lo hi))/\w=w':=by
 go_enter Tryz.func54,Tryz.ntmps54;go_wp2
 all_goals go_ret
 ·exact ⟨ret_bool (by simp [inB, *]),rfl⟩
 ·exact ⟨ret_bool (by simp [inB];omega),rfl⟩
theorem within_val {n lo hi:Int} {b:Bool} (h:inB n lo hi=b) (w:World):Calls Tryz.prog 54 #[n,lo,hi] w fun e w'=>e = .returned (.bool b)/\w=w':=h▸within_any n lo hi w
theorem l01In_any (n lo hi:Int) (w:World):Calls Tryz.prog 70 #[n,lo,hi] w fun e w'=>e = .returned (.bool (inB n lo hi))/\w=w':=by
 go_enter Tryz.func70,Tryz.ntmps70;go_wp2
 all_goals go_ret
 ·exact ⟨ret_bool (by simp [inB, *]),rfl⟩
 ·exact ⟨ret_bool (by simp [inB];omega),rfl⟩
theorem l01In_val {n lo hi:Int} {b:Bool} (h:inB n lo hi=b) (w:World):Calls Tryz.prog 70 #[n,lo,hi] w fun e w'=>e = .returned (.bool b)/\w=w':=h▸l01In_any n lo hi w
theorem sClamp_any (n lo hi:Int) (w:World):Calls Tryz.prog 194 #[n,lo,hi] w fun e w'=>e = .returned (.int .i64 (clampI n lo hi))/\w=w':=by
 have H:Hid (clampI n lo hi=clampI n lo hi):=rfl;generalize hc:clampI n lo hi=c at H ⊢;have HC:=Lib.hid hc;clear hc H;go_enter Tryz.func194,Tryz.ntmps194;go_wp2
 all_goals go_ret
 all_goals exact ⟨ret_int (by rw [<-HC.out];unfold clampI;split <;> (try split) <;> omega),rfl⟩
theorem iClamp_any (n lo hi:Int) (w:World):Calls Tryz.prog 46 #[n,lo,hi] w fun e w'=>e = .returned (.int .i64 (clampI n lo hi))/\w=w':=by
 have H:Hid (clampI n lo hi=clampI n lo hi):=rfl;generalize hc:clampI n lo hi=c at H ⊢;have HC:=Lib.hid hc;clear hc H;go_enter Tryz.func46,Tryz.ntmps46;go_wp2
 all_goals go_ret
 all_goals exact ⟨ret_int (by rw [<-HC.out];unfold clampI;split <;> (try split) <;> omega),rfl⟩
theorem fdiv_neg {a b:Int} (ha:I64 a) (hb:1<=b) (h:a.tmod b<0):wrap64 (wrap64 (a.tdiv b) - 1)=fdiv a b:=by
 have hq:=tdiv_neg_mod hb h;have hi:=fdiv_i64 (b:=b) ha;rw [fdiv,if_neg (by omega)] at hi ⊢
 have hb2:b≠1:=fun e=>by subst e;simp at h
 have h1:=hi.lo
 have h2:a / b<=4611686018427387904:=by
  have:=Int.ediv_le_ediv (show 0<b by omega) ha.hi
  have h3:(9223372036854775807:Int) / b<=9223372036854775807 / 2:=Int.ediv_le_iff_le_mul (show 0<b by omega) |>.2 (by
   have:(9223372036854775807 / 2:Int)*2<=9223372036854775807 / 2*b:=Int.mul_le_mul_of_nonneg_left (by omega) (by omega)
   omega)
  omega
 rw [I64.wrap (n:=a.tdiv b) ⟨by omega,by omega⟩,hq,hi.wrap]
theorem fdiv_pos {a b:Int} (ha:I64 a) (hb:1<=b) (h:0<=a.tmod b):wrap64 (a.tdiv b)=fdiv a b:=by
 have hi:=fdiv_i64 (b:=b) ha;rw [fdiv,if_neg (by omega)] at hi ⊢;rw [tdiv_pos_mod hb h,hi.wrap]
theorem sFloorDiv_any (a b:Int) (w:World) (ha:I64 a):Calls Tryz.prog 243 #[a,b] w fun e w'=>e = .returned (.int .i64 (fdiv a b))/\w=w':=by
 have H:=Lib.hid ha;clear ha;go_enter Tryz.func243,Tryz.ntmps243;go_wp2
 all_goals go_ret
 ·exact ⟨ret_int (by rw [fdiv,if_pos (by assumption)]),rfl⟩
 ·exact ⟨ret_int (fdiv_neg H.out (by assumption) (by assumption)),rfl⟩
 ·exact ⟨ret_int (fdiv_pos H.out (by assumption) (by assumption)),rfl⟩
theorem iFloorDiv_any (a b:Int) (w:World) (ha:I64 a):Calls Tryz.prog 107 #[a,b] w fun e w'=>e = .returned (.int .i64 (fdiv a b))/\w=w':=by
 have H:=Lib.hid ha;clear ha;go_enter Tryz.func107,Tryz.ntmps107;go_wp2
 all_goals go_ret
 ·exact ⟨ret_int (by rw [fdiv,if_pos (by assumption)]),rfl⟩
 ·exact ⟨ret_int (fdiv_neg H.out (by assumption) (by assumption)),rfl⟩
 ·exact ⟨ret_int (fdiv_pos H.out (by assumption) (by assumption)),rfl⟩
def fmod (a b:Int):Int:=if b<1 then a else a % b
theorem wrap64_sub_wrap (a x:Int):wrap64 (a - wrap64 x)=wrap64 (a - x):=by unfold wrap64;omega
theorem fmod_eq (a b:Int):a - fdiv a b*b=fmod a b:=by
 unfold fdiv fmod
 split
 ·omega
 ·have:=Int.mul_ediv_add_emod a b
  rw [Int.mul_comm];omega
theorem fmod_i64 {a b:Int} (ha:I64 a) (hb:I64 b):I64 (fmod a b):=by
 unfold fmod
 split
 ·exact ha
 ·have h1:=Int.emod_nonneg a (show b≠0 by omega)
  have h2:=Int.emod_lt_of_pos a (show 0<b by omega);have:=hb.hi;exact ⟨by omega,by omega⟩
theorem floorMod_any (a b:Int) (w:World) (ha:I64 a) (hb:I64 b):Calls Tryz.prog 229 #[a,b] w fun e w'=>e = .returned (.int .i64 (fmod a b))/\w=w':=by
 have H:=Lib.hid ha;have HB:=Lib.hid hb;clear ha hb;go_enter Tryz.func229,Tryz.ntmps229;go_wp2_with (go_at_call 107;refine (iFloorDiv_any a b _ H.out).mono ?_;rintro e w' ⟨rfl,rfl⟩);go_ret;exact ⟨ret_int (by rw [wrap64_sub_wrap,fmod_eq,(fmod_i64 H.out HB.out).wrap]),rfl⟩
theorem floorMod_val {a b c:Int} (ha:I64 a) (hb:I64 b) (h:fmod a b=c) (w:World):Calls Tryz.prog 229 #[a,b] w fun e w'=>e = .returned (.int .i64 c)/\w=w':=h▸floorMod_any a b w ha hb
theorem iFloorDiv_val {a b c:Int} (ha:I64 a) (h:fdiv a b=c) (w:World):Calls Tryz.prog 107 #[a,b] w fun e w'=>e = .returned (.int .i64 c)/\w=w':=h▸iFloorDiv_any a b w ha
theorem sFloorDiv_val {a b c:Int} (ha:I64 a) (h:fdiv a b=c) (w:World):Calls Tryz.prog 243 #[a,b] w fun e w'=>e = .returned (.int .i64 c)/\w=w':=h▸sFloorDiv_any a b w ha
theorem iClamp_val {n lo hi c:Int} (h:clampI n lo hi=c) (w:World):Calls Tryz.prog 46 #[n,lo,hi] w fun e w'=>e = .returned (.int .i64 c)/\w=w':=h▸iClamp_any n lo hi w
theorem sClamp_val {n lo hi c:Int} (h:clampI n lo hi=c) (w:World):Calls Tryz.prog 194 #[n,lo,hi] w fun e w'=>e = .returned (.int .i64 c)/\w=w':=h▸sClamp_any n lo hi w
theorem fmod_nat (a:Int) {n:Nat} (hn:1<=n):∃k:Nat,fmod a n=k/\k<n:=by
 unfold fmod;rw [if_neg (by omega)];have h1:=Int.emod_nonneg a (show (n:Int)≠0 by omega);have h2:=Int.emod_lt_of_pos a (show (0:Int)<n by omega);exact ⟨(a % n).toNat,by omega,by omega⟩
theorem info_int:(Tryz.prog.info? 3).map (fun i=>(i.zero,i.size,i.bytes))=some (some (.int .i64 0),1,8):=by kernel_rfl
theorem made_ints (n:Nat):(madeCells #[Value.int .i64 0] n).toList=(List.replicate n (0:Int)).map (Value.int .i64):=by
 apply List.ext_getElem?;intro i
 by_cases h:i<n
 ·simp [madeCells,h]
  rw [Nat.mod_one]
  rfl
 ·simp [madeCells,h]
def fillTo (xs:List Int) (k:Nat):List Int:=xs.take k++List.replicate (xs.length - k) 0
theorem fillTo_length (xs:List Int) (k:Nat) (h:k<=xs.length):(fillTo xs k).length=xs.length:=by simp [fillTo];omega
theorem fillTo_zero (xs:List Int):fillTo xs 0=List.replicate xs.length 0:=by simp [fillTo]
theorem fillTo_all (xs:List Int):fillTo xs xs.length=xs:=by simp [fillTo]
theorem fillTo_succ (xs:List Int) (k:Nat) (h:k<xs.length):(fillTo xs k).set k xs[k]=fillTo xs (k+1):=by
 unfold fillTo;rw [show xs.length - k=(xs.length - (k+1))+1 from by omega,List.replicate_succ,List.set_append_right _ _ (by rw [List.length_take];omega),List.length_take,Nat.min_eq_left (Nat.le_of_lt h),Nat.sub_self,List.set_cons_zero,List.take_succ_eq_append_getElem h,List.append_assoc]
 rfl
def upFrom (k:Int) (n:Nat):List Int:=(List.range n).map (fun i:Nat=>k+(i:Int))
theorem wpList_append1 (w:World) {ops:Array Oper} {rest:List Oper} {o:Oper} {a:Act} {Q:Exit->Act->World->Prop} (hg:o.guard=none) (s x:Operand)
  (hop:o.op=Op.call { callee:=Callee.builtin Builtin.append,args:=#[s,x],argTypes:=#[25,25] }) (lo:Nat) (v:Value) (xs:List Int) (hs:a.eval s=v) (hown:OwnInts lo w v xs)
  (y:Int) (hy:I64 y) (b:Nat) (hx:a.eval x = .slice (some ⟨b,0,none⟩) 1 1) (hcell:w.cell? ⟨b,0,none⟩=some (.int .i64 y)) (hlen:xs.length<1000000000) (hlo:lo<=w.heap.size)
  (hK:∀v' w',OwnInts lo w' v' (xs++[y])->w.grownBy w' v.ownBlock->wpList Tryz.prog ops Q rest (a.put o.dst v') w'):wpList Tryz.prog ops Q (o::rest) a w:=by
 obtain ⟨i0,hi0,hz0,hz1,hz2⟩:=info_parts info_int;refine wpList_append_own w hg s x 25 hop lo 3 i0 (.int .i64 0) 1 8 Tryz.underlying25 hi0 hz0 hz1 hz2 rfl (by decide) v xs.length _ hs hown.1 ⟨b,0,none⟩ 1 1 [y] hx rfl ?_ ?_ ?_ ?_ hlo ?_
 ·intro j u hj
  match j,hj with
  | 0,hj=>simp at hj;subst hj;exact hcell
 ·intro u hu;simp at hu;subst hu;rfl
 ·unfold maxLen;omega
 ·omega
 ·intro v' w1 hown' hgrow _
  refine hK v' w1 ⟨by simpa using hown',fun z hz=>?_⟩ hgrow
  rcases List.mem_append.1 hz with h|h
  ·exact hown.2 z h
  ·simp at h;rw [h];exact hy
structure Tex where
 log:Int
 px:List Int
instance:DecidableEq Tex:=fun a b=>decidable_of_iff (a.log=b.log/\a.px=b.px) (by cases a;cases b;simp)
def TexR (lo hi:Nat) (w:World) (v:Value) (t:Tex):Prop:=∃u,v = .agg #[t.log,u]/\I64 t.log/\Ints lo hi w u t.px
def OwnTex (lo:Nat) (w:World) (v:Value) (t:Tex):Prop:=∃u,v = .agg #[t.log,u]/\I64 t.log/\OwnInts lo w u t.px
theorem OwnTex.tex {lo:Nat} {w:World} {v:Value} {t:Tex} (h:OwnTex lo w v t):TexR lo w.heap.size w v t:=by
 obtain ⟨u,h1,h2,h3⟩:=h;exact ⟨u,h1,h2,h3.ints⟩
theorem TexR.ext {lo hi:Nat} {w w':World} {v:Value} {t:Tex} (h:TexR lo hi w v t) (hh:hi<=w.heap.size) (e:Ext w w'):TexR lo hi w' v t:=by
 obtain ⟨u,h1,h2,h3⟩:=h;exact ⟨u,h1,h2,h3.ext hh e⟩
theorem TexR.wide {lo hi lo' hi':Nat} {w:World} {v:Value} {t:Tex} (h:TexR lo hi w v t) (h1:lo'<=lo) (h2:hi<=hi'):TexR lo' hi' w v t:=by
 obtain ⟨u,g1,g2,g3⟩:=h;exact ⟨u,g1,g2,g3.wide h1 h2⟩
theorem OwnTex.ext {lo:Nat} {w w':World} {v:Value} {t:Tex} (h:OwnTex lo w v t) (e:Ext w w'):OwnTex lo w' v t:=by
 obtain ⟨u,h1,h2,h3⟩:=h;exact ⟨u,h1,h2,h3.ext e⟩
def Flats (k lo hi:Nat) (w:World) (v:Value) (n:Nat) (f:Nat->Int):Prop:=
 ∃a cap,v = .slice a n cap/\n<=cap/\cap<=maxLen/\∀i,i<n*k->I64 (f i)/\∃b off,a=some ⟨b,off,none⟩/\lo<=b/\b<hi/\w.cell? ⟨b,off+i,none⟩=some (.int .i64 (f i))
theorem Flats.same {k lo hi:Nat} {w w':World} {v:Value} {n:Nat} {f:Nat->Int} (h:Flats k lo hi w v n f) (s:Same lo hi w w'):Flats k lo hi w' v n f:=by
 obtain ⟨a,cap,h1,h2,h3,h4⟩:=h;refine ⟨a,cap,h1,h2,h3,fun i hx=>?_⟩;obtain ⟨h5,b,off,h6,h7,h8,h9⟩:=h4 i hx;exact ⟨h5,b,off,h6,h7,h8,by rw [s.cell h7 h8];exact h9⟩
theorem Flats.ext {k lo hi:Nat} {w w':World} {v:Value} {n:Nat} {f:Nat->Int} (h:Flats k lo hi w v n f) (hh:hi<=w.heap.size) (e:Ext w w'):Flats k lo hi w' v n f:=h.same (e.same hh)
theorem Flats.wide {k lo hi lo' hi':Nat} {w:World} {v:Value} {n:Nat} {f:Nat->Int} (h:Flats k lo hi w v n f) (h1:lo'<=lo) (h2:hi<=hi'):Flats k lo' hi' w v n f:=by
 obtain ⟨a,cap,g1,g2,g3,g4⟩:=h;refine ⟨a,cap,g1,g2,g3,fun i hx=>?_⟩;obtain ⟨h5,b,off,h6,h7,h8,h9⟩:=g4 i hx;exact ⟨h5,b,off,h6,by omega,by omega,h9⟩
structure FlatsAt (k lo hi:Nat) (w:World) (a:Option Addr) (cap n:Nat) (f:Nat->Int):Prop where
 le:n<=cap
 cap:cap<=9223372036854775807
 cell:∀i,i<n*k->I64 (f i)/\∃b off,a=some ⟨b,off,none⟩/\lo<=b/\b<hi/\w.cell? ⟨b,off+i,none⟩=some (.int .i64 (f i))
theorem Flats.open {k lo hi:Nat} {w:World} {v:Value} {n:Nat} {f:Nat->Int} (h:Flats k lo hi w v n f):∃a cap,v = .slice a n cap/\FlatsAt k lo hi w a cap n f:=by
 obtain ⟨a,cap,g1,g2,g3,g4⟩:=h;exact ⟨a,cap,g1,g2,by unfold maxLen at g3;omega,g4⟩
theorem FlatsAt.shut {k lo hi:Nat} {w:World} {a:Option Addr} {cap n:Nat} {f:Nat->Int} (h:FlatsAt k lo hi w a cap n f):Flats k lo hi w (.slice a n cap) n f:=
 ⟨a,cap,rfl,h.le,by unfold maxLen;have:=h.cap;omega,h.cell⟩
theorem flat_lt {i j k n:Nat} (hi:i<n) (hj:j<k):i*k+j<n*k:=by
 have:=Nat.mul_le_mul_right k (Nat.succ_le_of_lt hi);rw [Nat.succ_mul] at this;omega
theorem FlatsAt.at {k lo hi:Nat} {w:World} {a:Option Addr} {cap n:Nat} {f:Nat->Int} (h:FlatsAt k lo hi w a cap n f) {i:Nat} (hi':i<n) (hk:0<k) :
  ∃b off,a=some ⟨b,off,none⟩/\lo<=b/\b<hi/\∀j,j<k->w.cell? ⟨b,off+i*k+j,none⟩=some (.int .i64 (f (i*k+j))):=by
 obtain ⟨_,b,off,h6,h7,h8,h9⟩:=h.cell _ (flat_lt hi' hk);refine ⟨b,off,h6,h7,h8,fun j hj=>?_⟩;obtain ⟨_,b',off',h6',h7',h8',h9'⟩:=h.cell _ (flat_lt hi' hj);rw [h6'] at h6;simp only [Option.some.injEq,Addr.mk.injEq] at h6;obtain ⟨rfl,rfl,_⟩:=h6;rw [Nat.add_assoc];exact h9'
theorem FlatsAt.i64 {k lo hi:Nat} {w:World} {a:Option Addr} {cap n:Nat} {f:Nat->Int} (h:FlatsAt k lo hi w a cap n f) {i j:Nat} (hi':i<n) (hj:j<k):I64 (f (i*k+j)):=(h.cell _ (flat_lt hi' hj)).1
def fillI (f:Nat->Int) (c i:Nat):Int:=if i<c then f i else 0
def RowI (w:World) (b:Nat) (t:TypeId) (n:Nat) (f:Nat->Int):Prop:=w.rowIs b t n (fun i=>.int .i64 (f i))
theorem RowI.cell {w:World} {b:Nat} {t:TypeId} {n:Nat} {f:Nat->Int} (h:RowI w b t n f) {i:Nat} (hi:i<n):w.cell? ⟨b,i,none⟩=some (.int .i64 (f i)):=World.rowIs.cell h hi
theorem RowI.frozen {w:World} {b:Nat} {t:TypeId} {n:Nat} {f:Nat->Int} (h:RowI w b t n f) (i:Nat):w.frozen? ⟨b,i,none⟩=false:=World.rowIs.frozen h i
theorem RowI.lt {w:World} {b:Nat} {t:TypeId} {n:Nat} {f:Nat->Int} (h:RowI w b t n f):b<w.heap.size:=World.rowIs.lt h
theorem RowI.ext {w w':World} {b:Nat} {t:TypeId} {n:Nat} {f:Nat->Int} (h:RowI w b t n f) (e:Ext w w'):RowI w' b t n f:=World.rowIs.of_block h (e.block h.lt)
theorem RowI.alloc {w:World} {b:Nat} {t:TypeId} {n:Nat} {f:Nat->Int} (h:RowI w b t n f) (o:Obj):RowI (w.alloc o) b t n f:=World.rowIs.alloc h o
theorem RowI.of {w w':World} {b:Nat} {t:TypeId} {n:Nat} {f:Nat->Int} (h:RowI w b t n f) (e:w'.heap[b]?=w.heap[b]?):RowI w' b t n f:=World.rowIs.of_block h e
theorem RowI.other {w:World} {b:Nat} {t:TypeId} {n:Nat} {f:Nat->Int} (h:RowI w b t n f) {a:Addr} (ha:b≠a.block) (v:Value):RowI (w.setCell a v) b t n f:=World.rowIs.setOther h ha v
theorem RowI.step {w:World} {b:Nat} {t:TypeId} {n:Nat} {f:Nat->Int} {c:Nat} (h:RowI w b t n (fillI f c)) {i:Nat} {x:Int} (hi:i=c) (hx:x=f c):RowI (w.setCell ⟨b,i,none⟩ x) b t n (fillI f (c+1)):=by
 subst hi hx;refine World.rowIs.congr (World.rowIs.set h i (.int .i64 (f i))) fun j _=>?_;unfold fillI
 by_cases e:j=i
 ·subst e;simp
 ·rw [if_neg e]
  by_cases h1:j<i
  ·rw [if_pos h1,if_pos (by omega)]
  ·rw [if_neg h1,if_neg (by omega)]
theorem RowI.full {w:World} {b:Nat} {t:TypeId} {n:Nat} {f:Nat->Int} (h:RowI w b t n (fillI f n)):RowI w b t n f:=
 World.rowIs.congr h fun i hi=>by unfold fillI;rw [if_pos hi]
theorem RowI.zero {w:World} {b:Nat} {t:TypeId} {n:Nat} {f:Nat->Int} (h:RowI w b t n (fun _=>0)):RowI w b t n (fillI f 0):=
 World.rowIs.congr h fun i hi=>by unfold fillI;rw [if_neg (by omega)]
def mixI (f q:Nat->Int) (c i:Nat):Int:=if i<c then q i else f i
theorem RowI.mix {w:World} {b:Nat} {t:TypeId} {n:Nat} {f q:Nat->Int} {c:Nat} (h:RowI w b t n (mixI f q c)) {i:Nat} {x:Int} (hi:i=c) (hx:x=q c):RowI (w.setCell ⟨b,i,none⟩ x) b t n (mixI f q (c+1)):=by
 subst hi hx;refine World.rowIs.congr (World.rowIs.set h i (.int .i64 (q i))) fun j _=>?_;unfold mixI
 by_cases e:j=i
 ·subst e;simp
 ·rw [if_neg e]
  by_cases h1:j<i
  ·rw [if_pos h1,if_pos (by omega)]
  ·rw [if_neg h1,if_neg (by omega)]
theorem RowI.mix0 {w:World} {b:Nat} {t:TypeId} {n:Nat} {f q:Nat->Int} (h:RowI w b t n f):RowI w b t n (mixI f q 0):=
 World.rowIs.congr h fun i hi=>by unfold mixI;rw [if_neg (by omega)]
theorem RowI.mixAll {w:World} {b:Nat} {t:TypeId} {n:Nat} {f q:Nat->Int} (h:RowI w b t n (mixI f q n)):RowI w b t n q:=
 World.rowIs.congr h fun i hi=>by unfold mixI;rw [if_pos hi]
theorem RowI.flats {w:World} {b:Nat} {t:TypeId} {k n cap:Nat} {f:Nat->Int} (h:RowI w b t (n*k) f) (hl:n<=cap) (hm:cap<=maxLen) {lo:Nat} (hb:lo<=b) (hi:∀i,i<n*k->I64 (f i)):Flats k lo w.heap.size w (.slice (some ⟨b,0,none⟩) n cap) n f:=
 ⟨_,cap,rfl,hl,hm,fun i hx=>⟨hi i hx,b,0,rfl,hb,h.lt,by rw [Nat.zero_add];exact h.cell hx⟩⟩
def Blk (w:World) (g:Nat) (t:TypeId) (cs:List Value):Prop:=w.heap[g]?=some (.cells cs.toArray t (0,0))
theorem Blk.lt {w:World} {g:Nat} {t:TypeId} {cs:List Value} (h:Blk w g t cs):g<w.heap.size:=(Array.getElem?_eq_some_iff.1 h).1
theorem Blk.cell {w:World} {g:Nat} {t:TypeId} {cs:List Value} (h:Blk w g t cs) (i:Nat) {v:Value} (hi:cs[i]?=some v):w.cell? ⟨g,i,none⟩=some v:=by
 unfold Blk at h;simp [World.cell?,h,hi]
theorem Blk.free {w:World} {g:Nat} {t:TypeId} {cs:List Value} (h:Blk w g t cs) (i:Nat):w.frozen? ⟨g,i,none⟩=false:=by
 unfold Blk at h;simp [World.frozen?,h]
theorem Blk.new (w:World) (t:TypeId) (cs:List Value):Blk (w.alloc (.cells cs.toArray t)) w.heap.size t cs:=by
 show (w.heap.push _)[w.heap.size]?=_
 simp
theorem mk_ (w:World) (cs:List Value) (t:TypeId) {n k:Nat} (h:w.heap.size=n+k):∃V,w.alloc (.cells cs.toArray t)=V/\Blk V (n+k) t cs/\Ext w V/\V.heap.size=n+(k+1):=
 ⟨_,rfl,h▸Blk.new w t cs,X_,by rw [World.size_alloc,h];rfl⟩
theorem Blk.of {w w':World} {g:Nat} {t:TypeId} {cs:List Value} (h:Blk w g t cs) (e:w'.heap[g]?=w.heap[g]?):Blk w' g t cs:=e.trans h
theorem Blk.ext {w w':World} {g:Nat} {t:TypeId} {cs:List Value} (h:Blk w g t cs) (e:Ext w w'):Blk w' g t cs:=h.of (e.block h.lt)
theorem Blk.set {w:World} {g:Nat} {t:TypeId} {cs:List Value} (h:Blk w g t cs) (i:Nat) (v:Value):Blk (w.setCell ⟨g,i,none⟩ v) g t (cs.set i v):=by
 have hlt:=h.lt
 have h':w.heap[g] = .cells cs.toArray t (0,0):=by unfold Blk at h;simpa [Array.getElem?_eq_getElem hlt] using h
 show (w.heap.modify g _)[g]?=_
 rw [Array.getElem?_eq_getElem (by simpa using hlt),Array.getElem_modify_self,h'];simp
theorem Blk.other {w:World} {g:Nat} {t:TypeId} {cs:List Value} (h:Blk w g t cs) {a:Addr} (ne:g≠a.block) (v:Value):Blk (w.setCell a v) g t cs:=h.of (Below.heap_setCell _ _ _ _ ne)
theorem Blk.grown {w w':World} {g:Nat} {t:TypeId} {cs:List Value} {row:Option Nat} (h:Blk w g t cs) (hg:w.grownBy w' row) (ne:some g≠row):Blk w' g t cs:=h.of (hg.block g h.lt ne)
theorem OwnInts.grown {lo:Nat} {w w':World} {v:Value} {xs:List Int} {row:Option Nat} (h:OwnInts lo w v xs) (hg:w.grownBy w' row) (ne:∀k,v.ownBlock=some k->some k≠row):OwnInts lo w' v xs:=by
 obtain ⟨⟨h1,h2⟩,h3⟩:=h;refine ⟨⟨h1,?_⟩,h3⟩
 rcases h2 with hn|⟨g,cap,cur,rfl,hb,hh,r⟩
 ·exact .inl hn
 ·exact .inr ⟨g,cap,cur,rfl,hb,by rw [hg.block g ((Array.getElem?_eq_some_iff.1 hh).1) (ne g rfl)];exact hh,r⟩
theorem OwnInts.setOther {lo:Nat} {w:World} {v:Value} {xs:List Int} (h:OwnInts lo w v xs) {a:Addr} (ne:v.ownBlock≠some a.block) (u:Value):OwnInts lo (w.setCell a u) v xs:=⟨ownsRow_setCell_other h.1 ne u,h.2⟩
theorem OwnInts.fresh0 {lo g:Nat} {w:World} (hl:lo<=g) (h:Blk w g 3 []):OwnInts lo w (.slice (some ⟨g,0,none⟩) 0 0) []:=
 ⟨⟨rfl,.inr ⟨g,0,#[],rfl,hl,h,Nat.le_refl _,Nat.zero_le _,rfl,rfl⟩⟩,fun _ h=>by cases h⟩
theorem OwnInts.block {lo:Nat} {w:World} {v:Value} {xs:List Int} (h:OwnInts lo w v xs) {k:Nat} (hk:v.ownBlock=some k):∃cur,w.heap[k]?=some (.cells cur 3 (0,0)):=by
 obtain ⟨⟨h1,h2⟩,h3⟩:=h
 rcases h2 with ⟨rfl,_⟩|⟨g,cap,cur,rfl,hb,hh,r⟩
 ·cases hk
 ·simp only [Value.ownBlock,Option.some.injEq] at hk
  subst hk;exact ⟨cur,hh⟩
theorem Ext.gr {w w':World} (h:Ext w w') (row:Option Nat):w.grownBy w' row:=⟨h.os,h.tape,h.output,h.size,fun i hi _=>h.block hi⟩
theorem Ext.setNew {w w1:World} (h:Ext w w1) {b:Nat} (hb:w.heap.size<=b) (i:Nat) (u:Value):Ext w (w1.setCell ⟨b,i,none⟩ u):=h.setCell hb u
theorem Blk.q2 {w:World} {g:Nat} {t:TypeId} {v0 v1:Value} {r:List Value} (h:Blk w g t (v0::v1::r)):w.cell? ⟨g,0,none⟩=some v0/\w.cell? ⟨g,1,none⟩=some v1:=⟨h.cell 0 rfl,h.cell 1 rfl⟩
theorem Blk.q3 {w:World} {g:Nat} {t:TypeId} {v0 v1 v2:Value} {r:List Value} (h:Blk w g t (v0::v1::v2::r)):w.cell? ⟨g,0,none⟩=some v0/\w.cell? ⟨g,1,none⟩=some v1/\w.cell? ⟨g,2,none⟩=some v2:=⟨h.cell 0 rfl,h.cell 1 rfl,h.cell 2 rfl⟩
theorem Blk.q4 {w:World} {g:Nat} {t:TypeId} {v0 v1 v2 v3:Value} {r:List Value} (h:Blk w g t (v0::v1::v2::v3::r)):w.cell? ⟨g,0,none⟩=some v0/\w.cell? ⟨g,1,none⟩=some v1/\w.cell? ⟨g,2,none⟩=some v2/\w.cell? ⟨g,3,none⟩=some v3:=⟨h.cell 0 rfl,h.cell 1 rfl,h.cell 2 rfl,h.cell 3 rfl⟩
theorem Blk.q5 {w:World} {g:Nat} {t:TypeId} {v0 v1 v2 v3 v4:Value} {r:List Value} (h:Blk w g t (v0::v1::v2::v3::v4::r)):w.cell? ⟨g,0,none⟩=some v0/\w.cell? ⟨g,1,none⟩=some v1/\w.cell? ⟨g,2,none⟩=some v2/\w.cell? ⟨g,3,none⟩=some v3/\w.cell? ⟨g,4,none⟩=some v4:=⟨h.cell 0 rfl,h.cell 1 rfl,h.cell 2 rfl,h.cell 3 rfl,h.cell 4 rfl⟩
theorem Blk.q7 {w:World} {g:Nat} {t:TypeId} {v0 v1 v2 v3 v4 v5 v6:Value} {r:List Value} (h:Blk w g t (v0::v1::v2::v3::v4::v5::v6::r)):w.cell? ⟨g,0,none⟩=some v0/\w.cell? ⟨g,1,none⟩=some v1/\w.cell? ⟨g,2,none⟩=some v2/\w.cell? ⟨g,3,none⟩=some v3/\w.cell? ⟨g,4,none⟩=some v4/\w.cell? ⟨g,5,none⟩=some v5/\w.cell? ⟨g,6,none⟩=some v6:=⟨h.cell 0 rfl,h.cell 1 rfl,h.cell 2 rfl,h.cell 3 rfl,h.cell 4 rfl,h.cell 5 rfl,h.cell 6 rfl⟩
theorem Blk.q11 {w:World} {g:Nat} {t:TypeId} {v0 v1 v2 v3 v4 v5 v6 v7 v8 v9 v10:Value} {r:List Value} (h:Blk w g t (v0::v1::v2::v3::v4::v5::v6::v7::v8::v9::v10::r)):w.cell? ⟨g,0,none⟩=some v0/\w.cell? ⟨g,1,none⟩=some v1/\w.cell? ⟨g,2,none⟩=some v2/\w.cell? ⟨g,3,none⟩=some v3/\w.cell? ⟨g,4,none⟩=some v4/\w.cell? ⟨g,5,none⟩=some v5/\w.cell? ⟨g,6,none⟩=some v6/\w.cell? ⟨g,7,none⟩=some v7/\w.cell? ⟨g,8,none⟩=some v8/\w.cell? ⟨g,9,none⟩=some v9/\w.cell? ⟨g,10,none⟩=some v10:=⟨h.cell 0 rfl,h.cell 1 rfl,h.cell 2 rfl,h.cell 3 rfl,h.cell 4 rfl,h.cell 5 rfl,h.cell 6 rfl,h.cell 7 rfl,h.cell 8 rfl,h.cell 9 rfl,h.cell 10 rfl⟩
theorem Blk.q12 {w:World} {g:Nat} {t:TypeId} {v0 v1 v2 v3 v4 v5 v6 v7 v8 v9 v10 v11:Value} {r:List Value} (h:Blk w g t (v0::v1::v2::v3::v4::v5::v6::v7::v8::v9::v10::v11::r)):w.cell? ⟨g,0,none⟩=some v0/\w.cell? ⟨g,1,none⟩=some v1/\w.cell? ⟨g,2,none⟩=some v2/\w.cell? ⟨g,3,none⟩=some v3/\w.cell? ⟨g,4,none⟩=some v4/\w.cell? ⟨g,5,none⟩=some v5/\w.cell? ⟨g,6,none⟩=some v6/\w.cell? ⟨g,7,none⟩=some v7/\w.cell? ⟨g,8,none⟩=some v8/\w.cell? ⟨g,9,none⟩=some v9/\w.cell? ⟨g,10,none⟩=some v10/\w.cell? ⟨g,11,none⟩=some v11:=⟨h.cell 0 rfl,h.cell 1 rfl,h.cell 2 rfl,h.cell 3 rfl,h.cell 4 rfl,h.cell 5 rfl,h.cell 6 rfl,h.cell 7 rfl,h.cell 8 rfl,h.cell 9 rfl,h.cell 10 rfl,h.cell 11 rfl⟩
def Strs (lo hi:Nat) (w:World) (v:Value) (xs:List ByteArray):Prop:=
 ∃a cap,v = .slice a xs.length cap/\xs.length<=cap/\cap<=maxLen/\∀i x,xs[i]?=some x->∃b off,a=some ⟨b,off,none⟩/\lo<=b/\b<hi/\w.cell? ⟨b,off+i,none⟩=some (.string x)
theorem Strs.same {lo hi:Nat} {w w':World} {v:Value} {xs:List ByteArray} (h:Strs lo hi w v xs) (s:Same lo hi w w'):Strs lo hi w' v xs:=by
 obtain ⟨a,cap,h1,h2,h3,h4⟩:=h;refine ⟨a,cap,h1,h2,h3,fun i x hx=>?_⟩;obtain ⟨b,off,h6,h7,h8,h9⟩:=h4 i x hx;exact ⟨b,off,h6,h7,h8,by rw [s.cell h7 h8];exact h9⟩
theorem Strs.ext {lo hi:Nat} {w w':World} {v:Value} {xs:List ByteArray} (h:Strs lo hi w v xs) (hh:hi<=w.heap.size) (e:Ext w w'):Strs lo hi w' v xs:=h.same (e.same hh)
structure StrsAt (lo hi:Nat) (w:World) (a:Option Addr) (cap:Nat) (xs:List ByteArray):Prop where
 le:xs.length<=cap
 cap:cap<=9223372036854775807
 cell:∀i x,xs[i]?=some x->∃b off,a=some ⟨b,off,none⟩/\lo<=b/\b<hi/\w.cell? ⟨b,off+i,none⟩=some (.string x)
theorem Strs.open {lo hi:Nat} {w:World} {v:Value} {xs:List ByteArray} (h:Strs lo hi w v xs):∃a cap,v = .slice a xs.length cap/\StrsAt lo hi w a cap xs:=by
 obtain ⟨a,cap,g1,g2,g3,g4⟩:=h;exact ⟨a,cap,g1,g2,by unfold maxLen at g3;omega,g4⟩
theorem StrsAt.at {lo hi:Nat} {w:World} {a:Option Addr} {cap:Nat} {xs:List ByteArray} (h:StrsAt lo hi w a cap xs) {k:Nat} (hk:k<xs.length) :
  ∃b off,a=some ⟨b,off,none⟩/\lo<=b/\b<hi/\w.cell? ⟨b,off+k,none⟩=some (.string xs[k]):=h.cell k xs[k] (by simp [hk])
def OwnStrs (lo:Nat) (w:World) (v:Value) (xs:List ByteArray):Prop:=w.ownsRow lo 9 1 v xs.length (xs.map Value.string)
theorem OwnStrs.strs {lo:Nat} {w:World} {v:Value} {xs:List ByteArray} (h:OwnStrs lo w v xs):Strs lo w.heap.size w v xs:=by
 obtain ⟨h1,h2⟩:=h
 rcases h2 with ⟨rfl,h4⟩|⟨g,cap,cur,rfl,hb,hg,hc,hm,hs,ht⟩
 ·refine ⟨none,0,by rw [h4],by omega,by unfold maxLen;omega,fun i x hx=>?_⟩
  have:=(List.getElem?_eq_some_iff.1 hx).1;omega
 ·refine ⟨some ⟨g,0,none⟩,cap,rfl,hc,hm,fun i x hx=>⟨g,0,rfl,hb,(Array.getElem?_eq_some_iff.1 hg).1,?_⟩⟩
  have hi:=(List.getElem?_eq_some_iff.1 hx).1
  have e:(xs.map Value.string)[i]?=some (.string x):=by simp [hx]
  rw [<-ht,List.getElem?_take,if_pos (by omega)] at e;simp only [World.cell?,hg,Nat.zero_add]
  simpa using e
theorem OwnStrs.nil (lo:Nat) (w:World):OwnStrs lo w (.slice none 0 0) []:=World.ownsRow_nil _ _ _ _
theorem OwnStrs.lt {lo:Nat} {w:World} {v:Value} {xs:List ByteArray} (h:OwnStrs lo w v xs):∀k,v.ownBlock=some k->lo<=k/\k<w.heap.size:=World.ownsRow.lt h
theorem OwnStrs.kept {lo:Nat} {w w':World} {v:Value} {xs:List ByteArray} (h:OwnStrs lo w v xs) (s:Same lo w.heap.size w w'):OwnStrs lo w' v xs:=by
 obtain ⟨h1,h2⟩:=h;refine ⟨h1,?_⟩
 rcases h2 with hn|⟨g,cap,cur,hv,hb,hg,r⟩
 ·exact .inl hn
 ·exact .inr ⟨g,cap,cur,hv,hb,by rw [s g hb (Array.getElem?_eq_some_iff.1 hg).1];exact hg,r⟩
theorem OwnStrs.ext {lo:Nat} {w w':World} {v:Value} {xs:List ByteArray} (h:OwnStrs lo w v xs) (e:Ext w w'):OwnStrs lo w' v xs:=h.kept (e.same (Nat.le_refl _))
theorem OwnStrs.form {lo:Nat} {w:World} {v:Value} {xs:List ByteArray} (h:OwnStrs lo w v xs):∃a cap,v = .slice a xs.length cap/\xs.length<=9223372036854775807:=by
 obtain ⟨h1,h2⟩:=h
 rcases h2 with ⟨rfl,h4⟩|⟨g,cap,cur,rfl,hb,hg,hc,hm,hs,ht⟩
 ·exact ⟨none,0,by rw [h4],by omega⟩
 ·exact ⟨some ⟨g,0,none⟩,cap,rfl,by unfold maxLen at hm;omega⟩
theorem OwnStrs.low {lo lo':Nat} {w:World} {v:Value} {xs:List ByteArray} (h:OwnStrs lo w v xs) (hl:lo'<=lo):OwnStrs lo' w v xs:=by
 obtain ⟨h1,h2⟩:=h;refine ⟨h1,?_⟩
 rcases h2 with hn|⟨g,cap,cur,hv,hb,r⟩
 ·exact .inl hn
 ·exact .inr ⟨g,cap,cur,hv,by omega,r⟩
theorem info_string:(Tryz.prog.info? 9).map (fun i=>(i.zero,i.size,i.bytes))=some (some (.string ⟨#[]⟩),1,16):=by kernel_rfl
theorem wpList_append_str (w:World) {ops:Array Oper} {rest:List Oper} {o:Oper} {a:Act} {Q:Exit->Act->World->Prop} (hg:o.guard=none) (s x:Operand)
  (hop:o.op=Op.call { callee:=Callee.builtin Builtin.append,args:=#[s,x],argTypes:=#[124,124] }) (lo:Nat) (v:Value) (xs:List ByteArray) (hs:a.eval s=v) (hown:OwnStrs lo w v xs)
  (y:ByteArray) (b:Nat) (hx:a.eval x = .slice (some ⟨b,0,none⟩) 1 1) (hcell:w.cell? ⟨b,0,none⟩=some (.string y)) (hlen:xs.length<1000000000) (hlo:lo<=w.heap.size)
  (hK:∀v' w',OwnStrs lo w' v' (xs++[y])->w.grownBy w' v.ownBlock->wpList Tryz.prog ops Q rest (a.put o.dst v') w'):wpList Tryz.prog ops Q (o::rest) a w:=by
 obtain ⟨i0,hi0,hz0,hz1,hz2⟩:=info_parts info_string;refine wpList_append_own w hg s x 124 hop lo 9 i0 (.string ⟨#[]⟩) 1 16 Tryz.underlying124 hi0 hz0 hz1 hz2 rfl (by decide) v xs.length _ hs hown ⟨b,0,none⟩ 1 1 [.string y] hx rfl ?_ ?_ ?_ ?_ hlo ?_
 ·intro j u hj
  match j,hj with
  | 0,hj=>simp at hj;subst hj;exact hcell
 ·intro u hu;simp at hu;subst hu;rfl
 ·unfold maxLen;omega
 ·omega
 ·intro v' w1 hown' hgrow _
  refine hK v' w1 ?_ hgrow;unfold OwnStrs
  simpa using hown'
def S9 (n:Int):Prop:=-1000000000<=n/\n<=1000000000
def satI (n:Int):Int:=clampI n (-1000000000) 1000000000
theorem satI_S9 (n:Int):S9 (satI n):=by
 unfold satI clampI S9
 split
 ·omega
 ·split <;> omega
def ratI (a b:Int):Int:=if b<0 then fdiv (-a*256) (-b) else fdiv (a*256) b
def opI (op a b:Int):Int:=if op=3 then -b else if op=4 then a+b else if op=5 then a - b else if op=6 then fdiv (a*b) 256 else ratI a b
def arithI (op a b:Int):Int:=satI (opI op a b)
theorem fdiv_bd {a b:Int} {m:Int} (ha : -m<=a/\a<=m) (hm:0<=m) : -m - 1<=fdiv a b/\fdiv a b<=m:=by
 unfold fdiv
 split
 ·omega
 ·rename_i hb
  have h1:=Int.mul_ediv_add_emod a b;have h2:=Int.emod_nonneg a (show b≠0 by omega);have h3:=Int.emod_lt_of_pos a (show 0<b by omega)
  by_cases h0:0<=a
  ·have:=Int.ediv_nonneg h0 (show 0<=b by omega)
   have:=Int.ediv_le_self b h0;omega
  ·have h4:a / b<0:=Int.ediv_neg_of_neg_of_pos (by omega) (by omega)
   have h5:a<=a / b:=by
    have:=Int.le_ediv_of_mul_le (a:=a) (b:=a) (show 0<b by omega) (by
     have:=Int.mul_le_mul_of_nonpos_left (a:=a) (b:=b) (c:=1) (by omega) (by omega)
     omega)
    omega
   omega
theorem mul9 {a b:Int} (ha:S9 a) (hb:S9 b) : -1000000000000000000<=a*b/\a*b<=1000000000000000000:=by
 obtain ⟨h1,h2⟩:=ha;obtain ⟨h3,h4⟩:=hb;have k1:=Int.mul_nonneg (show 0<=1000000000 - a by omega) (show 0<=1000000000 - b by omega);have k2:=Int.mul_nonneg (show 0<=1000000000+a by omega) (show 0<=1000000000+b by omega);have k3:=Int.mul_nonneg (show 0<=1000000000 - a by omega) (show 0<=1000000000+b by omega);have k4:=Int.mul_nonneg (show 0<=1000000000+a by omega) (show 0<=1000000000 - b by omega);simp only [Int.sub_mul,Int.mul_sub,Int.add_mul,Int.mul_add] at k1 k2 k3 k4
 constructor <;> omega
theorem iSaturate_val {n c:Int} (h:satI n=c) (w:World):Calls Tryz.prog 303 #[n] w fun e w'=>e = .returned (.int .i64 c)/\w=w':=by
 have H:=hid h;clear h;go_enter Tryz.func303,Tryz.ntmps303;go_wp2_with fail;refine (iClamp_val H.out _).mono ?_;rintro e w1 ⟨rfl,rfl⟩;go_wp2;go_ret;exact ⟨rfl,rfl⟩
theorem iRatio_val {a b c:Int} (ha:S9 a) (hb:S9 b) (h:ratI a b=c) (w:World):Calls Tryz.prog 327 #[a,b] w fun e w'=>e = .returned (.int .i64 c)/\w=w':=by
 obtain ⟨a1,a2⟩:=ha;obtain ⟨b1,b2⟩:=hb;unfold ratI at h
 by_cases hn:b<0
 ·rw [if_pos hn] at h
  have H:=hid h;clear h;go_enter Tryz.func327,Tryz.ntmps327;go_wp2_with fail;refine (iFloorDiv_val (I64.mk (by omega) (by omega)) H.out _).mono ?_;rintro e w1 ⟨rfl,rfl⟩;go_wp2;go_ret;exact ⟨rfl,rfl⟩
 ·rw [if_neg hn] at h
  have H:=hid h;clear h;go_enter Tryz.func327,Tryz.ntmps327;go_wp2_with fail;refine (iFloorDiv_val (I64.mk (by omega) (by omega)) H.out _).mono ?_;rintro e w1 ⟨rfl,rfl⟩;go_wp2;go_ret;exact ⟨rfl,rfl⟩
def hashStep (h x:Int):Int:=fmod (31*h+clampI x (-1000000000) 1000000000) 1000003
def hashI (xs:List Int):Int:=xs.foldl hashStep 17
theorem clamp_big (x:Int) : -1000000000<=clampI x (-1000000000) 1000000000/\clampI x (-1000000000) 1000000000<=1000000000:=by
 unfold clampI
 split
 ·omega
 ·split <;> omega
theorem fmod_hash (a:Int):0<=fmod a 1000003/\fmod a 1000003<1000003:=by
 obtain ⟨k,hk,h⟩:=fmod_nat a (n:=1000003) (by decide);have e:fmod a 1000003=fmod a ((1000003:Nat):Int):=rfl;rw [e,hk];omega
theorem hash_range:∀(xs:List Int) (h:Int),(0<=h/\h<1000003)->0<=xs.foldl hashStep h/\xs.foldl hashStep h<1000003
 | [],_,h=>h
 | _::r,_,_=>hash_range r _ (fmod_hash _)
theorem hashI_range (xs:List Int):0<=hashI xs/\hashI xs<1000003:=hash_range xs 17 (by decide)
theorem hashI_snoc (xs:List Int) (k:Nat) (x:Int) (h:xs[k]?=some x):hashI (xs.take (k+1))=hashStep (hashI (xs.take k)) x:=by
 unfold hashI;rw [List.take_add_one,h,List.foldl_append]
 rfl
theorem HashInts_any (lo hi:Nat) (u:Value) (xs:List Int) (w:World) (hu:Ints lo hi w u xs) :
  Calls Tryz.prog 166 #[u] w fun e w'=>e = .returned (.int .i64 (hashI xs))/\w=w':=by
 obtain ⟨a,cap,rfl,HU⟩:=hu.open;have l1:=HU.le;have l2:=HU.cap;clear hu;go_enter Tryz.func166,Tryz.ntmps166;go_wp2
 go_loopw [3,8] (fun h i wr=>∃k:Nat,k<=xs.length/\i = .int .i64 k/\h = .int .i64 (hashI (xs.take k))/\w=wr) (fun _ i _=>xs.length - (intOf i).toNat)
 case atStart=>exact ⟨0,by omega,rfl,by rw [List.take_zero];rfl,rfl⟩
 case round=>
  obtain ⟨k,hk,rfl,rfl,rfl⟩:=hrel
  by_cases hlt:k<xs.length
  ·obtain ⟨b,off,rfl,hb1,hb2,hc⟩:=HU.at hlt
   obtain ⟨x,hx⟩:∃x,xs[k]=x:=⟨_,rfl⟩
   have hs:=hashI_snoc xs k x (by rw [List.getElem?_eq_getElem hlt,hx])
   obtain ⟨h,hh⟩:∃h,hashI (xs.take k)=h:=⟨_,rfl⟩
   have hr:=hashI_range (xs.take k);rw [hh] at hr hs ⊢;rw [hx] at hc;have HS:=hid hs;have hcl:=clamp_big x
   obtain ⟨c,hcx⟩:∃c,clampI x (-1000000000) 1000000000=c:=⟨_,rfl⟩
   have HC:=hid hcx;rw [hcx] at hcl;clear hs hh hx hcx;have hcc:∀w,Calls Tryz.prog 46 #[x,.int .i64 (-1000000000),.int .i64 1000000000] w fun e w'=>e = .returned (.int .i64 c)/\w=w':=fun w=>iClamp_val HC.out w;have HCC:=hid hcc;clear hcc;go_wp2_with fail;refine (HCC.out _).mono ?_;rintro e w1 ⟨rfl,rfl⟩;go_wp2_with fail;refine (floorMod_any (31*h+c) 1000003 _ ⟨by omega,by omega⟩ ⟨by decide,by decide⟩).mono ?_;rintro e w1 ⟨rfl,rfl⟩;go_wp2;go_roundw
   case rel=>exact ⟨k+1,by omega,by go_num,by rw [HS.out,hashStep,HC.out],by trivial⟩
   case measure=>simp [intOf];omega
  ·obtain rfl:k=xs.length:=by omega
   rw [List.take_length];go_wp2;go_ret;exact ⟨rfl,rfl⟩
theorem sHashInts_any (lo hi:Nat) (u:Value) (xs:List Int) (w:World) (hu:Ints lo hi w u xs) :
  Calls Tryz.prog 206 #[u] w fun e w'=>e = .returned (.int .i64 (hashI xs))/\w=w':=by
 obtain ⟨a,cap,rfl,HU⟩:=hu.open;have l1:=HU.le;have l2:=HU.cap;clear hu;go_enter Tryz.func206,Tryz.ntmps206;go_wp2
 go_loopw [3,8] (fun h i wr=>∃k:Nat,k<=xs.length/\i = .int .i64 k/\h = .int .i64 (hashI (xs.take k))/\w=wr) (fun _ i _=>xs.length - (intOf i).toNat)
 case atStart=>exact ⟨0,by omega,rfl,by rw [List.take_zero];rfl,rfl⟩
 case round=>
  obtain ⟨k,hk,rfl,rfl,rfl⟩:=hrel
  by_cases hlt:k<xs.length
  ·obtain ⟨b,off,rfl,hb1,hb2,hc⟩:=HU.at hlt
   obtain ⟨x,hx⟩:∃x,xs[k]=x:=⟨_,rfl⟩
   have hs:=hashI_snoc xs k x (by rw [List.getElem?_eq_getElem hlt,hx])
   obtain ⟨h,hh⟩:∃h,hashI (xs.take k)=h:=⟨_,rfl⟩
   have hr:=hashI_range (xs.take k);rw [hh] at hr hs ⊢;rw [hx] at hc;have hcl:=clamp_big x
   obtain ⟨c,hcx⟩:∃c,clampI x (-1000000000) 1000000000=c:=⟨_,rfl⟩
   have HC:=hid hcx;rw [hcx] at hcl;unfold hashStep at hs;rw [hcx,<-fmod_eq] at hs
   obtain ⟨q,hq⟩:∃q,fdiv (31*h+c) 1000003=q:=⟨_,rfl⟩
   have hqb:=fdiv_bd (a:=31*h+c) (b:=1000003) (m:=2000000000) (by omega) (by omega);rw [hq] at hqb hs;have HQ:=hid hq;have HS:=hid hs;clear hs hh hx hcx hq;have hcc:∀w,Calls Tryz.prog 194 #[x,.int .i64 (-1000000000),.int .i64 1000000000] w fun e w'=>e = .returned (.int .i64 c)/\w=w':=fun w=>sClamp_val HC.out w;have HCC:=hid hcc;clear hcc;go_wp2_with fail;refine (HCC.out _).mono ?_;rintro e w1 ⟨rfl,rfl⟩;go_wp2_with fail;refine (sFloorDiv_val (I64.mk (by omega) (by omega)) HQ.out _).mono ?_;rintro e w1 ⟨rfl,rfl⟩;go_wp2;go_roundw
   case rel=>exact ⟨k+1,by omega,by go_num,by rw [HS.out],by trivial⟩
   case measure=>simp [intOf];omega
  ·obtain rfl:k=xs.length:=by omega
   rw [List.take_length];go_wp2;go_ret;exact ⟨rfl,rfl⟩
def hash257 (xs:List Int):Int:=hashI xs % 257
theorem iHash257_any (lo hi:Nat) (u:Value) (xs:List Int) (w:World) (hu:Ints lo hi w u xs) :
  Calls Tryz.prog 109 #[u,.int .i64 257] w fun e w'=>e = .returned (.int .i64 (hash257 xs))/\w=w':=by
 have HU:=hid hu;clear hu;unfold hash257;have hr:=hashI_range xs
 obtain ⟨h,hh⟩:∃h,hashI xs=h:=⟨_,rfl⟩
 rw [hh] at hr ⊢;have HH:=hid hh;clear hh;have et:h.tmod 257=h % 257:=Int.tmod_eq_emod_of_nonneg (by omega);go_enter Tryz.func109,Tryz.ntmps109;go_wp2_with fail;refine (HashInts_any lo hi _ xs _ HU.out).mono ?_;rintro e w1 ⟨rfl,rfl⟩;rw [HH.out];go_wp2;rw [<-et];go_ret;exact ⟨rfl,rfl⟩
def maxI (a b:Int):Int:=if a > b then a else b
def minI (a b:Int):Int:=if a<b then a else b
def absI (a:Int):Int:=if a<0 then -a else a
def stepI (a b:Int):Int:=if b≥a then 256 else 0
def floorI (a:Int):Int:=fdiv a 256*256
def blendI (a b c:Int):Int:=a+fdiv ((b - a)*c) 256
theorem stepped_sh {a b c:Int} (ha:I64 a) (hb:I64 b) (h:(if b≥a then 256 else 0)=c) (w:World):Calls Tryz.prog 328 #[a,b] w fun e w'=>e = .returned (.int .i64 c)/\w=w':=by
 subst h;go_enter Tryz.func328,Tryz.ntmps328
 by_cases h:b≥a
 ·rw [if_pos h]
  go_wp2;go_ret;exact ⟨rfl,rfl⟩
 ·rw [if_neg h]
  go_wp2;go_ret;exact ⟨rfl,rfl⟩
theorem l09Abs_sh {a c:Int} (ha:S9 a) (h:absI a=c) (w:World):Calls Tryz.prog 283 #[a] w fun e w'=>e = .returned (.int .i64 c)/\w=w':=by
 subst h;obtain ⟨h1,h2⟩:=ha;unfold absI;go_enter Tryz.func283,Tryz.ntmps283
 by_cases h:a<0
 ·rw [if_pos h]
  go_wp2;go_ret;exact ⟨rfl,rfl⟩
 ·rw [if_neg h]
  go_wp2;go_ret;exact ⟨rfl,rfl⟩
theorem absolute_sh {a c:Int} (ha:S9 a) (h:absI a=c) (w:World):Calls Tryz.prog 214 #[a] w fun e w'=>e = .returned (.int .i64 c)/\w=w':=by
 subst h;obtain ⟨h1,h2⟩:=ha;unfold absI;go_enter Tryz.func214,Tryz.ntmps214
 by_cases h:a<0
 ·rw [if_pos h]
  go_wp2;go_ret;exact ⟨rfl,rfl⟩
 ·rw [if_neg h]
  go_wp2;go_ret;exact ⟨rfl,rfl⟩
def Tex.n (t:Tex):Nat:=2 ^ t.log.toNat
def Tex.okB (t:Tex):Bool:=inB t.log 0 4&&decide (t.px.length=t.n*t.n)&&t.px.all (fun x=>inB x 0 256)
structure Tex.Ok (t:Tex):Prop where
 log0:0<=t.log
 log4:t.log<=4
 len:t.px.length=t.n*t.n
 all:∀x∈t.px,0<=x/\x<=256
theorem Tex.okB_iff {t:Tex}:t.okB=true↔t.Ok:=by
 simp only [Tex.okB,Bool.and_eq_true,inB_iff,decide_eq_true_eq,List.all_eq_true];exact ⟨fun ⟨⟨⟨h1,h2⟩,h3⟩,h4⟩=>⟨h1,h2,h3,h4⟩,fun ⟨h1,h2,h3,h4⟩=>⟨⟨⟨h1,h2⟩,h3⟩,h4⟩⟩
theorem Tex.Ok.n_pos {t:Tex} (_h:t.Ok):1<=t.n:=Nat.one_le_two_pow
theorem Tex.Ok.n_le {t:Tex} (h:t.Ok):t.n<=16:=by
 have h1:=h.log0;have h2:=h.log4;exact Nat.pow_le_pow_right (n:=2) (by omega) (show t.log.toNat<=4 by omega)
theorem wrap_n {t:Tex} (h0:0<=t.log) (h4:t.log<=4):wrap64 (2 ^ t.log.toNat)=(t.n:Int):=by
 have:t.log=0\/t.log=1\/t.log=2\/t.log=3\/t.log=4:=by omega
 rcases this with h|h|h|h|h <;> simp [Tex.n,h] <;> exact wrap_small (by decide) (by decide)
theorem side_any (u:Value) (t:Tex) (w:World) (h0:0<=t.log) (h4:t.log<=4) :
  Calls Tryz.prog 333 #[.agg #[t.log,u]] w fun e w'=>e = .returned (.int .i64 t.n)/\Ext w w':=by
 go_enter Tryz.func333,Tryz.ntmps333;go_wp2;go_ret;exact ⟨ret_int (wrap_n h0 h4),(Ext.refl _).alloc _⟩
theorem allWithin_any (l0 h0:Nat) (u:Value) (xs:List Int) (lo hi:Int) (w:World) (hu:Ints l0 h0 w u xs) :
  Calls Tryz.prog 60 #[u,lo,hi] w fun e w'=>e = .returned (.bool (xs.all fun x=>inB x lo hi))/\w=w':=by
 obtain ⟨a,cap,rfl,HU⟩:=hu.open;have h1:=HU.le;have h2:=HU.cap;clear hu;go_enter Tryz.func60,Tryz.ntmps60;go_wp2
 go_loop [11] (fun i=>∃k:Nat,k<=xs.length/\i = .int .i64 k/\(xs.take k).all (fun x=>inB x lo hi)=true) (fun i=>xs.length - (intOf i).toNat)
 case atStart=>exact ⟨0,by omega,rfl,rfl⟩
 case round=>
  obtain ⟨k,hk,rfl,hall⟩:=hrel;have HA:=Lib.hid hall;clear hall
  by_cases hlt:k<xs.length
  ·obtain ⟨b,off,rfl,hb1,hb2,hc⟩:=HU.at hlt
   cases hin:inB xs[k] lo hi
   ·have HI:=Lib.hid hin
    go_wp2_with (go_at_call 54;refine (within_any xs[k] lo hi _).mono ?_;rintro e w' ⟨rfl,rfl⟩);go_ret;exact ⟨ret_bool (all_no hlt HI.out).symm,rfl⟩
   ·have HI:=Lib.hid hin
    go_wp2_with (go_at_call 54;refine (within_any xs[k] lo hi _).mono ?_;rintro e w' ⟨rfl,rfl⟩)
    go_round
    case rel=>exact ⟨k+1,by omega,by go_num,all_step hlt HA.out HI.out⟩
    case measure=>simp [intOf];omega
  ·go_wp2
   go_ret
   obtain rfl:k=xs.length:=by omega
   exact ⟨ret_bool (by rw [List.take_length] at HA;exact HA.out.symm),rfl⟩
theorem wrap_nn {t:Tex} (h0:0<=t.log) (h4:t.log<=4):wrap64 (2 ^ (2*t.log).toNat)=((t.n*t.n:Nat):Int):=by
 have:t.log=0\/t.log=1\/t.log=2\/t.log=3\/t.log=4:=by omega
 rcases this with h|h|h|h|h <;> simp [Tex.n,h] <;> exact wrap_small (by decide) (by decide)
theorem iIsValidTexture_any (lo hi:Nat) (v:Value) (t:Tex) (w:World) (hv:TexR lo hi w v t) (hh:hi<=w.heap.size) :
  Calls Tryz.prog 97 #[v] w fun e w'=>e = .returned (.bool t.okB)/\Ext w w':=by
 obtain ⟨u,rfl,hlog,hu⟩:=hv;have hu1:=hid (hu.ext hh ((Ext.refl _).alloc (.cells #[t.log,u] 27)));obtain ⟨a,cap,rfl,HU⟩:=hu.open;clear hu
 by_cases h1:0<=t.log/\t.log<=4
 ·have HB:=hid (inB_iff.2 h1:inB t.log 0 4=true)
  have hnn:=hid (wrap_nn h1.1 h1.2);have h10:=h1.1;have h11:=h1.2;clear h1
  by_cases h2:t.px.length=t.n*t.n
  ·have h3:((t.px.length:Int)==wrap64 (2 ^ (2*t.log).toNat))=true:=by rw [hnn.out];simp [h2]
   have H2:=hid h2;clear h2;go_enter Tryz.func97,Tryz.ntmps97;go_wp2
   go_quiet ((first|(go_at_call 54;exact quiet_same (within_val HB.out _))|(go_at_call 60;exact quiet_same (allWithin_any lo hi _ _ _ _ _ (hu1.out.ext (by simp;omega) ((Ext.refl _).drewN _))))))
   go_wp2;go_ret;exact ⟨ret_bool (by rw [Tex.okB,HB.out,H2.out];simp),((Ext.refl _).alloc _).drewN _⟩
  ·have h3:((t.px.length:Int)==wrap64 (2 ^ (2*t.log).toNat))=false:=by rw [hnn.out,beq_eq_false_iff_ne];omega
   have H2:=hid h2;clear h2;go_enter Tryz.func97,Tryz.ntmps97;go_wp2
   go_quiet ((first|(go_at_call 54;exact quiet_same (within_val HB.out _))|(go_at_call 60;exact quiet_same (allWithin_any lo hi _ _ _ _ _ (hu1.out.ext (by simp;omega) ((Ext.refl _).drewN _))))))
   go_wp2;go_ret;exact ⟨ret_bool (by rw [Tex.okB,HB.out,decide_eq_false H2.out];rfl),((Ext.refl _).alloc _).drewN _⟩
 ·have HB:=hid (by rw [Bool.eq_false_iff];intro h;exact h1 (inB_iff.1 h):inB t.log 0 4=false)
  clear h1;go_enter Tryz.func97,Tryz.ntmps97;go_wp2
  go_quiet ((go_at_call 54;exact quiet_same (within_val HB.out _)))
  go_wp2;go_ret;exact ⟨ret_bool (by rw [Tex.okB,HB.out];rfl),((Ext.refl _).alloc _).drewN _⟩
theorem row_nat {y n:Nat} (hy:y<n) (hn:n<=16):∃p:Nat,p=y*n/\wrap64 ((y:Int)*(n:Int))=(p:Int)/\wrap64 (((y:Int)+1)*(n:Int))=(p:Int)+n/\p+n<=n*n:=by
 have h1:=Nat.mul_le_mul_right n (show y+1<=n by omega);rw [Nat.add_mul,Nat.one_mul] at h1;have h2:n*n<=16*16:=Nat.mul_le_mul hn hn;refine ⟨y*n,rfl,?_,?_,h1⟩
 ·rw [<-Int.natCast_mul];exact wrap_small (by omega) (by omega)
 ·rw [Int.add_mul,Int.one_mul,<-Int.natCast_mul];exact wrap_small (by omega) (by omega)
theorem row_any (b off cap:Nat) (t:Tex) (y:Nat) (w:World) (ht:t.Ok) (hy:y<t.n) (hc:t.px.length<=cap) :
  Calls Tryz.prog 334 #[.agg #[t.log,.slice (some ⟨b,off,none⟩) t.px.length cap],y] w fun e w'=>e = .returned (.slice (some ⟨b,off+y*t.n,none⟩) t.n t.n)/\Ext w w':=by
 have h0:=ht.log0;have h4:=ht.log4;have hn:=ht.n_le;obtain ⟨p,hp,e1,e2,hb⟩:=row_nat hy hn;rw [<-hp];have hpos:=ht.n_pos
 have e3:((p:Int)+t.n).toNat=p+t.n:=by omega
 have hcap:p+t.n<=cap:=by rw [<-ht.len] at hb;omega
 clear hp hb hc;go_enter Tryz.func334,Tryz.ntmps334;go_wp2_with fail;refine (side_any _ t _ h0 h4).mono ?_;rintro e w1 ⟨rfl,hx⟩;obtain ⟨hc,hf⟩:=hx.cells;have hz:=hx.size;simp only [World.size_alloc] at hz;go_wp2;go_ret;exact ⟨rfl,((Ext.refl _).alloc _).trans hx⟩
theorem TexR.ok {lo hi:Nat} {w:World} {v:Value} {t:Tex} (h:TexR lo hi w v t) (ht:t.Ok) :
  ∃b off cap,v = .agg #[t.log,.slice (some ⟨b,off,none⟩) t.px.length cap]/\t.px.length<=cap/\lo<=b/\b<hi/\∀i x,t.px[i]?=some x->w.cell? ⟨b,off+i,none⟩=some (.int .i64 x):=by
 obtain ⟨u,rfl,h1,h2⟩:=h;obtain ⟨a,cap,rfl,h3⟩:=h2.open;have hn:=ht.n_pos
 have hl:0<t.px.length:=by rw [ht.len];exact Nat.mul_pos hn hn
 obtain ⟨b,off,rfl,h4,h5,_⟩:=h3.at hl;refine ⟨b,off,cap,rfl,h3.le,h4,h5,fun i x hx=>?_⟩;obtain ⟨_,b',off',h6,_,_,h7⟩:=h3.cell i x hx;simp only [Option.some.injEq,Addr.mk.injEq,and_true] at h6;obtain ⟨rfl,rfl⟩:=h6;exact h7
theorem texel_nat {y x n:Nat} (hy:y<n) (hx:x<n):y*n+x<n*n:=by
 have h1:=Nat.mul_le_mul_right n (show y+1<=n by omega);rw [Nat.add_mul,Nat.one_mul] at h1;omega
def Tex.at (t:Tex) (x y:Int):Int:=t.px.getD ((fmod y t.n).toNat*t.n+(fmod x t.n).toNat) 0
theorem texel_any (lo hi:Nat) (v:Value) (t:Tex) (x y:Int) (w:World) (hv:TexR lo hi w v t) (hh:hi<=w.heap.size) (ht:t.Ok) (hx:I64 x) (hy:I64 y) :
  Calls Tryz.prog 332 #[v,x,y] w fun e w'=>e = .returned (.int .i64 (t.at x y))/\Ext w w':=by
 obtain ⟨b,off,cap,rfl,hcap,hlo,hhi,hcell⟩:=hv.ok ht;have h0:=ht.log0;have h4:=ht.log4;have hpos:=ht.n_pos;have hn:=ht.n_le;obtain ⟨xx,hxx,hxl⟩:=fmod_nat x hpos;obtain ⟨yy,hyy,hyl⟩:=fmod_nat y hpos
 have hb0:b<w.heap.size:=by omega
 have hb1:b<w.heap.size+1:=by omega
 have hat:t.at x y=t.px.getD (yy*t.n+xx) 0:=by rw [Tex.at,hxx,hyy];rfl
 have hlt:yy*t.n+xx<t.px.length:=by rw [ht.len];exact texel_nat hyl hxl
 have hc:w.cell? ⟨b,off+yy*t.n+xx,none⟩=some (.int .i64 (t.px.getD (yy*t.n+xx) 0)):=by
  rw [Nat.add_assoc];exact hcell _ _ (by simp [hlt])
 rw [hat];generalize t.px.getD (yy*t.n+xx) 0=r at hc ⊢;have HX:=hid hxx;have HY:=hid hyy;have HT:=hid ht;have HC:=hid hcap
 have h16:I64 (t.n:Int):=⟨by omega,by omega⟩
 have H16:=hid h16;have H1:=hid hx;have H2:=hid hy;clear hxx hyy hcell hv hat hlt h16 hx hy ht hcap;go_enter Tryz.func332,Tryz.ntmps332;go_wp2;refine wp_region_ext (by kernel_rfl) (by kernel_rfl) ?_
 repeat (go_big_quiet_step ((first
  | (go_at_call 333;exact grow_call (side_any _ t _ h0 h4))
  | (go_at_call_of 229 x;exact grow_same (floorMod_val H1.out H16.out HX.out _))
  | (go_at_call_of 229 y;exact grow_same (floorMod_val H2.out H16.out HY.out _))
  | (go_at_call 334;exact grow_call (row_any b off cap t yy _ HT.out hyl HC.out)))))
 refine wpQuiet_nil ?_;intro w1 hx1;go_wp2;go_ret;exact ⟨rfl,((Ext.refl _).alloc _).trans hx1⟩
def Dbl (p m L:Nat):Prop:=p*2 ^ m=2 ^ L
theorem Dbl.succ {p m L:Nat} (h:Dbl p (m+1) L):Dbl (2*p) m L:=by
 unfold Dbl at *;rw [Nat.pow_succ] at h;rw [<-h,Nat.mul_comm 2 p,Nat.mul_assoc,Nat.mul_comm 2]
theorem Dbl.le {p m L:Nat} (h:Dbl p m L) (hL:L<=30):p<=1073741824:=by
 unfold Dbl at h;have h1:2 ^ L<=2 ^ 30:=Nat.pow_le_pow_right (by omega) hL;have h2:p*1<=p*2 ^ m:=Nat.mul_le_mul_left p Nat.one_le_two_pow;omega
theorem Dbl.done {p L:Nat} (h:Dbl p 0 L):p=2 ^ L:=by unfold Dbl at h;simpa using h
theorem l15Size_any (L:Nat) (hL:L<=30) (w:World):Calls Tryz.prog 185 #[L] w fun e w'=>e = .returned (.int .i64 ((2 ^ L:Nat):Int))/\w=w':=by
 go_enter Tryz.func185,Tryz.ntmps185;go_wp2
 go_loop [0,3] (fun l n=>∃m p:Nat,l = .int .i64 m/\n = .int .i64 p/\Dbl p m L/\m<=30) (fun l _=>(intOf l).toNat)
 case atStart=>exact ⟨L,1,rfl,rfl,by simp [Dbl],hL⟩
 case round=>
  obtain ⟨m,p,rfl,rfl,hd,hm⟩:=hrel;have HD:=Lib.hid hd;have hp:=hd.le hL;clear hd
  cases m with
  | zero=>
   go_wp2;go_ret;exact ⟨ret_int (by rw [HD.out.done,Int.natCast_pow];rfl),rfl⟩
  | succ m=>
   go_wp2
   go_round
   case rel=>exact ⟨m,2*p,rfl,by go_num,HD.out.succ,by omega⟩
   case measure=>simp [intOf]
theorem l15Size_tex {t:Tex} (h0:0<=t.log) (h4:t.log<=4) (w:World):Calls Tryz.prog 185 #[t.log] w fun e w'=>e = .returned (.int .i64 t.n)/\w=w':=by
 have h:=l15Size_any t.log.toNat (by omega) w;rw [Int.toNat_of_nonneg h0] at h;exact h
def Tex.avg (t:Tex) (x y:Nat):Int:=(t.at (2*x) (2*y)+t.at (2*x+1) (2*y)+t.at (2*x) (2*y+1)+t.at (2*x+1) (2*y+1)) / 4
def Tex.avgK (t:Tex) (m k:Nat):Int:=t.avg (k % m) (k / m)
def Tex.halfPx (t:Tex) (m k:Nat):List Int:=(List.range k).map (t.avgK m)
theorem Tex.halfPx_succ (t:Tex) (m k:Nat):t.halfPx m (k+1)=t.halfPx m k++[t.avgK m k]:=by simp [Tex.halfPx,List.range_succ]
theorem Tex.halfPx_length (t:Tex) (m k:Nat):(t.halfPx m k).length=k:=by simp [Tex.halfPx]
theorem Tex.Ok.at_range {t:Tex} (h:t.Ok) (x y:Int):0<=t.at x y/\t.at x y<=256:=by
 have hp:=h.n_pos;unfold Tex.at;obtain ⟨xx,hxx,hxl⟩:=fmod_nat x hp;obtain ⟨yy,hyy,hyl⟩:=fmod_nat y hp;rw [hxx,hyy]
 have hlt:yy*t.n+xx<t.px.length:=by rw [h.len];exact texel_nat hyl hxl
 have:=h.all (t.px[yy*t.n+xx]'hlt) (List.getElem_mem hlt);simp only [Int.toNat_natCast];rw [List.getD_eq_getElem?_getD,List.getElem?_eq_getElem hlt];exact this
theorem Tex.at_nat (t:Tex) {x y:Nat} (hx:x<t.n) (hy:y<t.n):t.px[y*t.n+x]?=some (t.at x y)\/t.px.length<=y*t.n+x:=by
 by_cases hlt:y*t.n+x<t.px.length
 ·left
  have e1:fmod (x:Int) t.n=x:=by rw [fmod,if_neg (by omega),Int.emod_eq_of_lt (by omega) (by omega)]
  have e2:fmod (y:Int) t.n=y:=by rw [fmod,if_neg (by omega),Int.emod_eq_of_lt (by omega) (by omega)]
  rw [Tex.at,e1,e2];simp only [Int.toNat_natCast];rw [List.getD_eq_getElem?_getD,List.getElem?_eq_getElem hlt]
  rfl
 ·right;omega
structure HSt (w wr:World) (t:Tex) (u:Value) (m k:Nat) (a:Option Addr) (c:Nat):Prop where
 ext:Ext w wr
 size:w.heap.size+1+1<wr.heap.size
 p0:wr.cell? ⟨w.heap.size,0,none⟩=some (.int .i64 t.log)
 p1:wr.cell? ⟨w.heap.size,1,none⟩=some u
 r0:wr.cell? ⟨w.heap.size+1,0,none⟩=some (.int .i64 0)
 r1:wr.cell? ⟨w.heap.size+1,1,none⟩=some (.slice none 0 0)
 f0:wr.frozen? ⟨w.heap.size+1,0,none⟩=false
 f1:wr.frozen? ⟨w.heap.size+1,1,none⟩=false
 o0:wr.cell? ⟨w.heap.size+1+1,0,none⟩=some (.int .i64 (t.log - 1))
 o1:wr.cell? ⟨w.heap.size+1+1,1,none⟩=some (.slice a k c)
 g1:wr.frozen? ⟨w.heap.size+1+1,1,none⟩=false
 own:OwnInts (w.heap.size+1+1+1) wr (.slice a k c) (t.halfPx m k)
theorem HSt.to {w wr wr':World} {t:Tex} {u:Value} {m k:Nat} {a:Option Addr} {c:Nat} (h:HSt w wr t u m k a c) (e:Ext wr wr'):HSt w wr' t u m k a c:=by
 obtain ⟨hc,hf⟩:=e.cells;have hs:=h.size;have hz:=e.size
 exact ⟨h.ext.trans e,by omega,by rw [hc _ _ (by omega)];exact h.p0,by rw [hc _ _ (by omega)];exact h.p1,by rw [hc _ _ (by omega)];exact h.r0,by rw [hc _ _ (by omega)];exact h.r1,
  by rw [hf _ _ (by omega)];exact h.f0,by rw [hf _ _ (by omega)];exact h.f1,by rw [hc _ _ (by omega)];exact h.o0,by rw [hc _ _ (by omega)];exact h.o1,by rw [hf _ _ (by omega)];exact h.g1,h.own.ext e⟩
theorem HSt.push {w wr w1:World} {t:Tex} {u:Value} {m k:Nat} {a a':Option Addr} {c c' n':Nat} (h:HSt w wr t u m k a c) (hg:wr.grownBy w1 (Value.slice a k c).ownBlock)
  (hown:OwnInts (w.heap.size+1+1+1) w1 (.slice a' n' c') (t.halfPx m k++[t.avgK m k])) :
  HSt w (w1.setCell ⟨w.heap.size+1+1,1,none⟩ (.slice a' n' c')) t u m (k+1) a' c'/\n'=k+1:=by
 rw [<-Tex.halfPx_succ] at hown;obtain ⟨a2,cap2,hv,_⟩:=hown.form;rw [Tex.halfPx_length] at hv;simp only [Value.slice.injEq] at hv;obtain ⟨_,rfl,_⟩:=hv;have hs:=h.size;have hz:=hg.size;have hlt:=h.own.lt
 have hne:∀b,b<w.heap.size+1+1+1->some b≠(Value.slice a k c).ownBlock:=fun b hb e=>by have:=(hlt b e.symm).1;omega
 have hc:∀b o,b<w.heap.size+1+1+1->w1.cell? ⟨b,o,none⟩=wr.cell? ⟨b,o,none⟩:=fun b o hb=>World.cell?_of_block (w:=wr) (hg.block b (by omega) (hne b hb));have hf:∀b o,b<w.heap.size+1+1+1->w1.frozen? ⟨b,o,none⟩=wr.frozen? ⟨b,o,none⟩:=fun b o hb=>World.frozen?_of_block (w:=wr) (hg.block b (by omega) (hne b hb))
 have hd:∀b o,b<w.heap.size+1+1->(w1.setCell ⟨w.heap.size+1+1,1,none⟩ (.slice a' (k+1) c')).cell? ⟨b,o,none⟩=wr.cell? ⟨b,o,none⟩:=fun b o hb=>by
  rw [World.cell?_setCell_other _ _ _ _ (fun e=>by simp only [Addr.mk.injEq] at e;omega),hc b o (by omega)]
 refine ⟨⟨(h.ext.grown hg (fun b e=>by have:=(hlt b e).1;omega)).setCell (by show w.heap.size<=w.heap.size+1+1;omega) _,by rw [World.size_setCell];omega,by rw [hd _ _ (by omega)];exact h.p0,by rw [hd _ _ (by omega)];exact h.p1,
  by rw [hd _ _ (by omega)];exact h.r0,by rw [hd _ _ (by omega)];exact h.r1,by rw [World.frozen?_setCell,hf _ _ (by omega)];exact h.f0,by rw [World.frozen?_setCell,hf _ _ (by omega)];exact h.f1,?_,?_,
  by rw [World.frozen?_setCell,hf _ _ (by omega)];exact h.g1,hown.setLow (by simp) _⟩,rfl⟩
 ·rw [World.cell?_setCell_other _ _ _ _ (by simp),hc _ _ (by omega)];exact h.o0
 ·exact World.cell?_setCell_same _ _ _ ((hc _ _ (by omega)).trans h.o1)
theorem side_val {u:Value} {l:Int} {n:Nat} (h0:0<=l) (h4:l<=4) (hn:2 ^ l.toNat=n) (w:World) :
  Calls Tryz.prog 333 #[.agg #[l,u]] w fun e w'=>e = .returned (.int .i64 n)/\Ext w w':=by
 subst hn;exact side_any u ⟨l,[]⟩ w h0 h4
theorem Tex.Ok.block {t:Tex} (ht:t.Ok) {m i j p q:Nat} (hn:t.n=2*m) (hi:i<m) (hj:j<m) (hp:2*j*t.n=p) (hq:(2*j+1)*t.n=q) :
  t.px[p+2*i]?=some (t.at (2*i) (2*j))/\t.px[p+(2*i+1)]?=some (t.at (2*i+1) (2*j))/\t.px[q+2*i]?=some (t.at (2*i) (2*j+1))/\t.px[q+(2*i+1)]?=some (t.at (2*i+1) (2*j+1)):=by
 have key:∀x y:Nat,x<t.n->y<t.n->t.px[y*t.n+x]?=some (t.at x y):=fun x y hx hy=>by
  rcases t.at_nat hx hy with h|h
  ·exact h
  ·rw [ht.len] at h
   have:=texel_nat hy hx;omega
 subst hp hq;have k1:=key (2*i) (2*j) (by omega) (by omega);have k2:=key (2*i+1) (2*j) (by omega) (by omega);have k3:=key (2*i) (2*j+1) (by omega) (by omega);have k4:=key (2*i+1) (2*j+1) (by omega) (by omega);simp only [Int.natCast_add,Int.natCast_mul,Int.natCast_one] at k1 k2 k3 k4;exact ⟨k1,k2,k3,k4⟩
theorem iIsValidTexture_val {t:Tex} {b:Bool} (h:t.okB=b) (lo hi:Nat) (v:Value) (w:World) (hv:TexR lo hi w v t) (hh:hi<=w.heap.size) :
  Calls Tryz.prog 97 #[v] w fun e w'=>e = .returned (.bool b)/\Ext w w':=h▸iIsValidTexture_any lo hi v t w hv hh
theorem OwnTex.zero (lo:Nat) (w:World):OwnTex lo w (.agg #[(),.slice none 0 0]) ⟨0,[]⟩:=⟨_,rfl,⟨by decide,by decide⟩,OwnInts.nil _ _⟩
theorem OwnTex.setLow {lo:Nat} {w:World} {v:Value} {t:Tex} (h:OwnTex lo w v t) {p:Addr} (hp:p.block<lo) (u:Value):OwnTex lo (w.setCell p u) v t:=by
 obtain ⟨x,h1,h2,h3⟩:=h;exact ⟨x,h1,h2,h3.setLow hp u⟩
theorem OwnTex.form {lo:Nat} {w:World} {v:Value} {t:Tex} (h:OwnTex lo w v t):∃a c,v = .agg #[t.log,.slice a t.px.length c]/\I64 t.log:=by
 obtain ⟨x,h1,h2,h3⟩:=h;obtain ⟨a,c,rfl,_⟩:=h3.form;exact ⟨a,c,h1,h2⟩
theorem OwnTex.low {lo lo':Nat} {w:World} {v:Value} {t:Tex} (h:OwnTex lo w v t) (hl:lo'<=lo):OwnTex lo' w v t:=by
 obtain ⟨x,h1,h2,h3⟩:=h;exact ⟨x,h1,h2,h3.low hl⟩
theorem TexR.shape {lo hi:Nat} {w:World} {v:Value} {t:Tex} (h:TexR lo hi w v t):∃u,v = .agg #[t.log,u]/\I64 t.log:=by
 obtain ⟨u,h1,h2,_⟩:=h;exact ⟨u,h1,h2⟩
structure SSt (w wr:World) (t:Tex) (u:Value) (g m k:Nat) (a:Option Addr) (c:Nat):Prop where
 ext:Ext w wr
 pos:w.heap.size+1<g
 size:g<wr.heap.size
 p0:wr.cell? ⟨w.heap.size,0,none⟩=some (.int .i64 t.log)
 p1:wr.cell? ⟨w.heap.size,1,none⟩=some u
 r0:wr.cell? ⟨w.heap.size+1,0,none⟩=some (.int .i64 0)
 r1:wr.cell? ⟨w.heap.size+1,1,none⟩=some (.slice none 0 0)
 f0:wr.frozen? ⟨w.heap.size+1,0,none⟩=false
 f1:wr.frozen? ⟨w.heap.size+1,1,none⟩=false
 o0:wr.cell? ⟨g,0,none⟩=some (.int .i64 (t.log - 1))
 o1:wr.cell? ⟨g,1,none⟩=some (.slice a k c)
 g1:wr.frozen? ⟨g,1,none⟩=false
 own:OwnInts (g+1) wr (.slice a k c) (t.halfPx m k)
theorem SSt.to {w wr wr':World} {t:Tex} {u:Value} {g m k:Nat} {a:Option Addr} {c:Nat} (h:SSt w wr t u g m k a c) (e:Ext wr wr'):SSt w wr' t u g m k a c:=by
 obtain ⟨hc,hf⟩:=e.cells;have hs:=h.size;have hp:=h.pos;have hz:=e.size
 exact ⟨h.ext.trans e,hp,by omega,by rw [hc _ _ (by omega)];exact h.p0,by rw [hc _ _ (by omega)];exact h.p1,by rw [hc _ _ (by omega)];exact h.r0,by rw [hc _ _ (by omega)];exact h.r1,
  by rw [hf _ _ (by omega)];exact h.f0,by rw [hf _ _ (by omega)];exact h.f1,by rw [hc _ _ (by omega)];exact h.o0,by rw [hc _ _ (by omega)];exact h.o1,by rw [hf _ _ (by omega)];exact h.g1,h.own.ext e⟩
theorem SSt.push {w wr w1:World} {t:Tex} {u:Value} {g m k:Nat} {a a':Option Addr} {c c' n':Nat} (h:SSt w wr t u g m k a c) (hg:wr.grownBy w1 (Value.slice a k c).ownBlock)
  (hown:OwnInts (g+1) w1 (.slice a' n' c') (t.halfPx m k++[t.avgK m k])) :
  SSt w (w1.setCell ⟨g,1,none⟩ (.slice a' n' c')) t u g m (k+1) a' c'/\n'=k+1:=by
 rw [<-Tex.halfPx_succ] at hown;obtain ⟨a2,cap2,hv,_⟩:=hown.form;rw [Tex.halfPx_length] at hv;simp only [Value.slice.injEq] at hv;obtain ⟨_,rfl,_⟩:=hv;have hs:=h.size;have hp:=h.pos;have hz:=hg.size;have hlt:=h.own.lt
 have hne:∀b,b<g+1->some b≠(Value.slice a k c).ownBlock:=fun b hb e=>by have:=(hlt b e.symm).1;omega
 have hc:∀b o,b<g+1->w1.cell? ⟨b,o,none⟩=wr.cell? ⟨b,o,none⟩:=fun b o hb=>World.cell?_of_block (w:=wr) (hg.block b (by omega) (hne b hb));have hf:∀b o,b<g+1->w1.frozen? ⟨b,o,none⟩=wr.frozen? ⟨b,o,none⟩:=fun b o hb=>World.frozen?_of_block (w:=wr) (hg.block b (by omega) (hne b hb))
 have hd:∀b o,b<g->(w1.setCell ⟨g,1,none⟩ (.slice a' (k+1) c')).cell? ⟨b,o,none⟩=wr.cell? ⟨b,o,none⟩:=fun b o hb=>by
  rw [World.cell?_setCell_other _ _ _ _ (fun e=>by simp only [Addr.mk.injEq] at e;omega),hc b o (by omega)]
 refine ⟨⟨(h.ext.grown hg (fun b e=>by have:=(hlt b e).1;omega)).setCell (by show w.heap.size<=g;omega) _,hp,by rw [World.size_setCell];omega,by rw [hd _ _ (by omega)];exact h.p0,by rw [hd _ _ (by omega)];exact h.p1,
  by rw [hd _ _ (by omega)];exact h.r0,by rw [hd _ _ (by omega)];exact h.r1,by rw [World.frozen?_setCell,hf _ _ (by omega)];exact h.f0,by rw [World.frozen?_setCell,hf _ _ (by omega)];exact h.f1,?_,?_,
  by rw [World.frozen?_setCell,hf _ _ (by omega)];exact h.g1,hown.setLow (by simp) _⟩,rfl⟩
 ·rw [World.cell?_setCell_other _ _ _ _ (by simp),hc _ _ (by omega)];exact h.o0
 ·exact World.cell?_setCell_same _ _ _ ((hc _ _ (by omega)).trans h.o1)
def Tex.mark (t:Tex) (k:Int):Tex:={ t with px:=upFrom k t.px.length }
structure Part (lo M:Nat) (w w':World):Prop where
 size:w.heap.size<=w'.heap.size
 low:Below lo w w'
 high:∀b,M<=b->b<w.heap.size->w'.heap[b]?=w.heap[b]?
theorem Part.ext {lo M:Nat} {W w w':World} (p:Part lo M w w') (h:Ext W w) (hl:W.heap.size<=lo):Ext W w':=Below.trans h (Below.mono p.low hl)
theorem Part.block {lo M:Nat} {w w':World} (p:Part lo M w w') {b:Nat} (hb:b<w.heap.size) (h:b<lo\/M<=b):w'.heap[b]?=w.heap[b]?:=h.elim (fun k=>p.low.block b k) (fun k=>p.high b k hb)
theorem Part.of {lo M:Nat} {w w':World} {row:Option Nat} (hg:w.grownBy w' row) (h1:∀k,row=some k->lo<=k/\k<M) (h2:lo<=w.heap.size):Part lo M w w':=
 ⟨hg.size,⟨hg.os,hg.tape,hg.output,hg.size,fun k hk=>hg.block k (by omega) (fun e=>by have:=(h1 k e.symm).1;omega)⟩,fun b hb hl=>hg.block b hl (fun e=>by have:=(h1 b e.symm).2;omega)⟩
structure TBox (w:World) (B:Nat) (a b:Value):Prop where
 lt:B<w.heap.size
 c0:w.cell? ⟨B,0,none⟩=some a
 c1:w.cell? ⟨B,1,none⟩=some b
theorem TBox.at {w w':World} {B:Nat} {a b:Value} (h:TBox w B a b) (hz:w.heap.size<=w'.heap.size) (s:w'.heap[B]?=w.heap[B]?):TBox w' B a b:=
 ⟨Nat.lt_of_lt_of_le h.lt hz,(World.cell?_of_block (w:=w) s).trans h.c0,(World.cell?_of_block (w:=w) s).trans h.c1⟩
theorem TBox.ext {w w':World} {B:Nat} {a b:Value} (h:TBox w B a b) (e:Ext w w'):TBox w' B a b:=h.at e.size (e.block h.lt)
theorem TBox.made (w:World) (a b:Value) (ty:TypeId):TBox (w.alloc (.cells #[a,b] ty)) w.heap.size a b:=⟨by simp,by simp [go_sem],by simp [go_sem]⟩
theorem Part.box {lo M:Nat} {w w':World} {B:Nat} {a b:Value} (p:Part lo M w w') (h:TBox w B a b) (hB:B<lo\/M<=B):TBox w' B a b:=
 h.at p.size (hB.elim (fun k=>p.low.block B k) (fun k=>p.high B k h.lt))
theorem OwnTex.kept {lo:Nat} {w w':World} {v:Value} {t:Tex} (h:OwnTex lo w v t) (s:Same lo w.heap.size w w'):OwnTex lo w' v t:=by
 obtain ⟨x,h1,h2,h3⟩:=h;exact ⟨x,h1,h2,h3.kept s⟩
theorem TexR.same {lo hi:Nat} {w w':World} {v:Value} {t:Tex} (h:TexR lo hi w v t) (s:Same lo hi w w'):TexR lo hi w' v t:=by
 obtain ⟨x,h1,h2,h3⟩:=h;exact ⟨x,h1,h2,h3.same s⟩
theorem add_none (b o j:Nat):(⟨b,o,none⟩:Addr).add j=⟨b,o+j,none⟩:=by
 unfold Addr.add
 split
 ·rename_i e;subst e;rfl
 ·rfl
structure MSt (w wr:World) (t:Tex) (A:Nat) (a:Option Addr) (c:Nat):Prop where
 ext:Ext w wr
 pos:w.heap.size+1<A
 box:TBox wr A (.int .i64 t.log) (.slice a t.px.length c)
 f0:wr.frozen? ⟨A,0,none⟩=false
 f1:wr.frozen? ⟨A,1,none⟩=false
 res:TBox wr (w.heap.size+1) (.int .i64 0) (.slice none 0 0)
 r0:wr.frozen? ⟨w.heap.size+1,0,none⟩=false
 r1:wr.frozen? ⟨w.heap.size+1,1,none⟩=false
 own:OwnInts (w.heap.size+1+1) wr (.slice a t.px.length c) t.px
 ne:∀g,(Value.slice a t.px.length c).ownBlock=some g->g≠A
theorem MSt.step {w wr w1:World} {t t2:Tex} {A:Nat} {a a2:Option Addr} {c c2:Nat} (h:MSt w wr t A a c) (e:Ext wr w1) (hown:OwnTex wr.heap.size w1 (.agg #[t2.log,.slice a2 t2.px.length c2]) t2) :
  MSt w ((w1.setCell ⟨A,0,none⟩ t2.log).setCell ⟨A,1,none⟩ (.slice a2 t2.px.length c2)) t2 A a2 c2:=by
 obtain ⟨u,hu,_,hown⟩:=hown
 obtain rfl:Value.slice a2 t2.px.length c2=u:=by simpa using hu
 have hA:=h.box.lt;have hz:=e.size;have hp:=h.pos
 have hk:∀b o,b≠A->((w1.setCell ⟨A,0,none⟩ t2.log).setCell ⟨A,1,none⟩ (.slice a2 t2.px.length c2)).cell? ⟨b,o,none⟩=w1.cell? ⟨b,o,none⟩:=fun b o hb=>by
  rw [World.cell?_setCell_other _ _ _ _ (fun e=>by simp only [Addr.mk.injEq] at e;omega),World.cell?_setCell_other _ _ _ _ (fun e=>by simp only [Addr.mk.injEq] at e;omega)]
 have b1:=h.box.ext e;have r1:=h.res.ext e;obtain ⟨_,hf⟩:=e.cells;refine ⟨((h.ext.trans e).setCell (by show w.heap.size<=A;omega) _).setCell (by show w.heap.size<=A;omega) _,hp,⟨by simp;omega,?_,?_⟩,?_,?_,⟨by simp;omega,by rw [hk _ _ (by omega)];exact r1.c0,by rw [hk _ _ (by omega)];exact r1.c1⟩,?_,?_,?_,?_⟩
 ·rw [World.cell?_setCell_other _ _ _ _ (by simp)]
  exact World.cell?_setCell_same _ _ _ b1.c0
 ·refine World.cell?_setCell_same _ _ _ (?_:_=some (Value.slice a t.px.length c))
  rw [World.cell?_setCell_other _ _ _ _ (by simp)];exact b1.c1
 ·rw [World.frozen?_setCell,World.frozen?_setCell,hf _ _ hA];exact h.f0
 ·rw [World.frozen?_setCell,World.frozen?_setCell,hf _ _ hA];exact h.f1
 ·rw [World.frozen?_setCell,World.frozen?_setCell,hf _ _ (by omega)];exact h.r0
 ·rw [World.frozen?_setCell,World.frozen?_setCell,hf _ _ (by omega)];exact h.r1
 ·exact ((hown.setLow (by exact hA) _).setLow (by exact hA) _).low (by omega)
 ·intro g hg
  have:=(hown.lt g hg).1;omega
theorem Tex.Ok.tex {lo:Nat} {w:World} {t:Tex} {a:Option Addr} {c:Nat} (h:t.Ok) (hown:OwnInts lo w (.slice a t.px.length c) t.px):OwnTex lo w (.agg #[t.log,.slice a t.px.length c]) t:=
 ⟨_,rfl,⟨by have:=h.log0;omega,by have:=h.log4;omega⟩,hown⟩
theorem wpList_append_ints (w:World) {ops:Array Oper} {rest:List Oper} {o:Oper} {a:Act} {Q:Exit->Act->World->Prop} (hg:o.guard=none) (s x:Operand)
  (hop:o.op=Op.call { callee:=Callee.builtin Builtin.append,args:=#[s,x],argTypes:=#[25,25] }) (lo:Nat) (v:Value) (xs ys:List Int) (hs:a.eval s=v) (hown:OwnInts lo w v xs)
  (b off cap:Nat) (hx:a.eval x = .slice (some ⟨b,off,none⟩) ys.length cap) (hcell:∀i y,ys[i]?=some y->I64 y/\w.cell? ⟨b,off+i,none⟩=some (.int .i64 y)) (hlen:xs.length+ys.length<1000000000) (hlo:lo<=w.heap.size)
  (hK:∀v' w',OwnInts lo w' v' (xs++ys)->w.grownBy w' v.ownBlock->wpList Tryz.prog ops Q rest (a.put o.dst v') w'):wpList Tryz.prog ops Q (o::rest) a w:=by
 obtain ⟨i0,hi0,hz0,hz1,hz2⟩:=info_parts info_int;refine wpList_append_own w hg s x 25 hop lo 3 i0 (.int .i64 0) 1 8 Tryz.underlying25 hi0 hz0 hz1 hz2 rfl (by decide) v xs.length _ hs hown.1 ⟨b,off,none⟩ ys.length cap (ys.map (Value.int .i64)) hx (by simp) ?_ ?_ ?_ ?_ hlo ?_
 ·intro j u hj
  rw [List.getElem?_map] at hj
  cases hyj:ys[j]? with
  | none=>rw [hyj] at hj;cases hj
  | some y=>
   rw [hyj] at hj;simp only [Option.map_some,Option.some.injEq] at hj;subst hj;rw [add_none];exact (hcell j y hyj).2
 ·intro u hu
  obtain ⟨y,_,rfl⟩:=List.mem_map.1 hu
  rfl
 ·unfold maxLen;omega
 ·omega
 ·intro v' w1 hown' hgrow _
  refine hK v' w1 ⟨by simpa using hown',fun z hz=>?_⟩ hgrow
  rcases List.mem_append.1 hz with h|h
  ·exact hown.2 z h
  ·obtain ⟨i,hi⟩:=List.getElem?_of_mem h
   exact (hcell i z hi).1
theorem heap_alloc_new (w:World) (o:Obj):(w.alloc o).heap[w.heap.size]?=some o:=by show (w.heap.push o)[w.heap.size]?=_;simp
theorem OwnInts.empty {lo:Nat} {w:World} {g:Nat} (hl:lo<=g) (hg:w.heap[g]?=some (.cells #[] 3)):OwnInts lo w (.slice (some ⟨g,0,none⟩) 0 0) []:=
 ⟨⟨rfl,.inr ⟨g,0,#[],rfl,hl,hg,Nat.le_refl _,Nat.zero_le _,rfl,rfl⟩⟩,fun _ h=>by cases h⟩
theorem OwnInts.notBox {lo:Nat} {w:World} {v:Value} {xs:List Int} {A:Nat} {cs:Array Value} {T:TypeId} {fr:Nat×Nat} (h:OwnInts lo w v xs) (hA:w.heap[A]?=some (.cells cs T fr)) (hT:T≠3):v.ownBlock≠some A:=by
 intro e
 rcases h.1.2 with ⟨rfl,_⟩|⟨g,cap,cur,rfl,_,hg,_⟩
 ·cases e
 ·simp only [Value.ownBlock,Option.some.injEq] at e
  subst e;rw [hg] at hA;simp only [Option.some.injEq,Obj.cells.injEq] at hA;exact hT hA.2.1.symm
theorem mul_bd {a b A B:Int} (h1:0<=a) (h2:a<=A) (h3:0<=b) (h4:b<=B):0<=a*b/\a*b<=A*B:=
 ⟨Int.mul_nonneg h1 h3,Int.mul_le_mul h2 h4 h3 (Int.le_trans h1 h2)⟩
def posS (u:Int) (n:Nat):Int:=clampI u (-1000000) 1000000*n - 128
theorem clamp_bd (u:Int) : -1000000<=clampI u (-1000000) 1000000/\clampI u (-1000000) 1000000<=1000000:=by
 unfold clampI
 split
 ·omega
 ·split <;> omega
theorem posS_prod (u:Int) {n:Nat} (h1:1<=n) (h:n<=16) : -16000000<=clampI u (-1000000) 1000000*n/\clampI u (-1000000) 1000000*n<=16000000:=by
 have hb:=clamp_bd u;have h2:=mul_bd (a:=clampI u (-1000000) 1000000+1000000) (b:=n) (A:=2000000) (B:=16) (by omega) (by omega) (by omega) (by omega);have h3:(clampI u (-1000000) 1000000+1000000)*(n:Int)=clampI u (-1000000) 1000000*n+1000000*n:=Int.add_mul ..;have h4:=mul_bd (a:=1000000 - clampI u (-1000000) 1000000) (b:=n) (A:=2000000) (B:=16) (by omega) (by omega) (by omega) (by omega);have h5:(1000000 - clampI u (-1000000) 1000000)*(n:Int)=1000000*n - clampI u (-1000000) 1000000*n:=Int.sub_mul ..;omega
def posX (u:Int) (n:Nat):Int:=fdiv (posS u n) 256
def posF (u:Int) (n:Nat):Int:=fmod (posS u n) 256
theorem posX_bd (u:Int) {n:Nat} (h1:1<=n) (h:n<=16) : -100000<=posX u n/\posX u n<=100000:=by
 have h2:=posS_prod u h1 h;unfold posX posS fdiv;rw [if_neg (by omega)];omega
theorem posF_bd (u:Int) (n:Nat):0<=posF u n/\posF u n<=255:=by
 unfold posF fmod;rw [if_neg (by omega)];omega
theorem position_any (x:Value) (t:Tex) (u:Int) (w:World) (ht:t.Ok) :
  Calls Tryz.prog 331 #[.agg #[t.log,x],u] w fun e w'=>e = .returned (.tuple #[(posX u t.n),(posF u t.n)])/\Ext w w':=by
 have h0:=hid ht.log0;have h4:=hid ht.log4;have hn1:=ht.n_pos;have hn:=ht.n_le
 obtain ⟨n,hnn⟩:∃n,t.n=n:=⟨_,rfl⟩
 rw [hnn] at hn1 hn ⊢;have hp:=posS_prod u hn1 hn
 obtain ⟨c,hc⟩:∃c,clampI u (-1000000) 1000000=c:=⟨_,rfl⟩
 rw [hc] at hp
 obtain ⟨q,hq⟩:∃q,c*(n:Int)=q:=⟨_,rfl⟩
 rw [hq] at hp
 have hs:posS u n=q - 128:=by unfold posS;rw [hc,hq]
 obtain ⟨X,hX⟩:∃X,posX u n=X:=⟨_,rfl⟩
 obtain ⟨F,hF⟩:∃F,posF u n=F:=⟨_,rfl⟩
 have HX:=hid (show fdiv (q - 128) 256=X by rw [<-hs];exact hX);have HF:=hid (show fmod (q - 128) 256=F by rw [<-hs];exact hF);have HC:=hid hc;have HN:=hid (show 2 ^ t.log.toNat=n from hnn);rw [hX,hF];clear hX hF hs hc hnn ht;go_enter Tryz.func331,Tryz.ntmps331;go_wp2;refine wp_region_ext (by kernel_rfl) (by kernel_rfl) ?_
 repeat (go_big_quiet_step ((first|(go_at_call 46;exact grow_same (iClamp_val HC.out _))|(go_at_call 333;exact grow_call (side_val h0.out h4.out HN.out _)))))
 refine wpQuiet_nil ?_;intro w1 hx1;go_wp2_with (first|(go_at_call 107;refine (iFloorDiv_val ⟨by omega,by omega⟩ HX.out _).mono ?_;rintro e w2 ⟨rfl,rfl⟩)|(go_at_call 229;refine (floorMod_val ⟨by omega,by omega⟩ ⟨by decide,by decide⟩ HF.out _).mono ?_;rintro e w2 ⟨rfl,rfl⟩));exact bodyPost_ret (v:=.tuple #[X,F]) (by simp [results,Tryz.results331,go_sem]) rfl ⟨rfl,Ext.trans X_ hx1⟩
def Tex.look4 (m:Tex) (x fx y fy:Int):Int:=((m.at x y*(256 - fx)+m.at (x+1) y*fx)*(256 - fy)+(m.at x (y+1)*(256 - fx)+m.at (x+1) (y+1)*fx)*fy) / 65536
def Tex.look (m:Tex) (u v:Int):Int:=m.look4 (posX u m.n) (posF u m.n) (posX v m.n) (posF v m.n)
structure Look4 (m:Tex) (x fx y fy r1 r2 r3 r4 p1 p2 p3 p4 p5 p6 L:Int):Prop where
 e1:m.at x y=r1
 e2:m.at (x+1) y=r2
 e3:m.at x (y+1)=r3
 e4:m.at (x+1) (y+1)=r4
 f1:r1*(256 - fx)=p1
 f2:r2*fx=p2
 f3:r3*(256 - fx)=p3
 f4:r4*fx=p4
 f5:(p1+p2)*(256 - fy)=p5
 f6:(p3+p4)*fy=p6
 b1:0<=p1/\p1<=65536
 b2:0<=p2/\p2<=65536
 b3:0<=p3/\p3<=65536
 b4:0<=p4/\p4<=65536
 b5:0<=p5/\p5<=33554432
 b6:0<=p6/\p6<=33554432
 out:(p5+p6) / 65536=L
theorem look4_all {m:Tex} (hm:m.Ok) (x y:Int) {fx fy:Int} (hx:0<=fx/\fx<=255) (hy:0<=fy/\fy<=255) :
  ∃r1 r2 r3 r4 p1 p2 p3 p4 p5 p6,Look4 m x fx y fy r1 r2 r3 r4 p1 p2 p3 p4 p5 p6 (m.look4 x fx y fy):=by
 have a1:=hm.at_range x y;have a2:=hm.at_range (x+1) y;have a3:=hm.at_range x (y+1);have a4:=hm.at_range (x+1) (y+1);have b1:=mul_bd (b:=256 - fx) (B:=256) a1.1 a1.2 (by omega) (by omega);have b2:=mul_bd (b:=fx) (B:=256) a2.1 a2.2 (by omega) (by omega);have b3:=mul_bd (b:=256 - fx) (B:=256) a3.1 a3.2 (by omega) (by omega);have b4:=mul_bd (b:=fx) (B:=256) a4.1 a4.2 (by omega) (by omega);have c1:=mul_bd (a:=m.at x y*(256 - fx)+m.at (x+1) y*fx) (A:=131072) (b:=256 - fy) (B:=256) (Int.add_nonneg b1.1 b2.1) (Int.add_le_add b1.2 b2.2) (by omega) (by omega);have c2:=mul_bd (a:=m.at x (y+1)*(256 - fx)+m.at (x+1) (y+1)*fx) (A:=131072) (b:=fy) (B:=256) (Int.add_nonneg b3.1 b4.1) (Int.add_le_add b3.2 b4.2) (by omega) (by omega);exact ⟨_,_,_,_,_,_,_,_,_,_,rfl,rfl,rfl,rfl,rfl,rfl,rfl,rfl,rfl,rfl,b1,b2,b3,b4,c1,c2,rfl⟩
theorem texel_val {t:Tex} {x y r:Int} (ht:t.Ok) (hr:t.at x y=r) (hx:I64 x) (hy:I64 y) (lo hi:Nat) (v:Value) (w:World) (hv:TexR lo hi w v t) (hh:hi<=w.heap.size) :
  Calls Tryz.prog 332 #[v,x,y] w fun e w'=>e = .returned (.int .i64 r)/\Ext w w':=hr▸texel_any lo hi v t x y w hv hh ht hx hy
theorem lookup_any (lo hi:Nat) (v:Value) (m:Tex) (a b:Int) (w:World) (hv:TexR lo hi w v m) (hh:hi<=w.heap.size) (hm:m.Ok) :
  Calls Tryz.prog 329 #[v,a,b] w fun e w'=>e = .returned (.int .i64 (m.look a b))/\Ext w w':=by
 have x1:=posX_bd a hm.n_pos hm.n_le;have x2:=posX_bd b hm.n_pos hm.n_le;have g1:=posF_bd a m.n;have g2:=posF_bd b m.n;have P1:=fun (x:Value) (w:World)=>position_any x m a w hm;have P2:=fun (x:Value) (w:World)=>position_any x m b w hm;unfold Tex.look
 obtain ⟨x,ex⟩:∃x,posX a m.n=x:=⟨_,rfl⟩
 obtain ⟨y,ey⟩:∃y,posX b m.n=y:=⟨_,rfl⟩
 obtain ⟨fx,ex'⟩:∃x,posF a m.n=x:=⟨_,rfl⟩
 obtain ⟨fy,ey'⟩:∃x,posF b m.n=x:=⟨_,rfl⟩
 rw [ex] at x1;rw [ey] at x2;rw [ex'] at g1;rw [ey'] at g2;simp only [ex,ex',ey,ey'] at P1 P2 ⊢;clear ex ey ex' ey';obtain ⟨r1,r2,r3,r4,p1,p2,p3,p4,p5,p6,K⟩:=look4_all hm x y g1 g2;generalize m.look4 x fx y fy=L at K ⊢;have E1:=hid K.e1;have E2:=hid K.e2;have E3:=hid K.e3;have E4:=hid K.e4;have F1:=K.f1;have F2:=K.f2;have F3:=K.f3;have F4:=K.f4;have F5:=K.f5;have F6:=K.f6;have B1:=K.b1;have B2:=K.b2;have B3:=K.b3;have B4:=K.b4;have B5:=K.b5;have B6:=K.b6;have HO:=hid K.out;obtain ⟨u,rfl,_⟩:=hv.shape;have HV:=hid hv;have HM:=hid hm;have IX:=hid (I64.mk (n:=x) (by omega) (by omega));have IY:=hid (I64.mk (n:=y) (by omega) (by omega));have IX1:=hid (I64.mk (n:=x+1) (by omega) (by omega));have IY1:=hid (I64.mk (n:=y+1) (by omega) (by omega));have Q1:=hid P1;have Q2:=hid P2;clear K hv hm P1 P2;go_enter Tryz.func329,Tryz.ntmps329;go_wp2_with fail;refine (Q1.out _ _).mono ?_;rintro e w1 ⟨rfl,h1⟩;obtain ⟨c1,f1⟩:=h1.cells;have z1:=h1.size;simp only [World.size_alloc] at z1
 have q1:w.heap.size<w1.heap.size:=by omega
 go_wp2_with fail;refine (Q2.out _ _).mono ?_;rintro e w2 ⟨rfl,h2⟩;obtain ⟨c2,f2⟩:=h2.cells;have q2:w.heap.size<w2.heap.size:=Nat.lt_of_lt_of_le q1 h2.size;have e2:Ext w w2:=(Ext.trans X_ h1).trans h2;have hh2:hi<=w2.heap.size:=Nat.le_trans hh e2.size;have X2:=hid e2;go_wp2;refine wp_region_ext (by kernel_rfl) (by kernel_rfl) ?_
 repeat (go_big_quiet_step ((go_at_call 332;with_reducible first
  | exact grow_call (texel_val HM.out E1.out IX.out IY.out lo hi _ _ ((HV.out.ext hh X2.out).ext hh2 (grow_ext _ _)) (Nat.le_trans hh2 (grow_ext _ _).size))
  | exact grow_call (texel_val HM.out E2.out IX1.out IY.out lo hi _ _ ((HV.out.ext hh X2.out).ext hh2 (grow_ext _ _)) (Nat.le_trans hh2 (grow_ext _ _).size)))))
 refine wpQuiet_nil ?_;intro w3 h3;obtain ⟨c3,f3⟩:=h3.cells;have q3:w.heap.size<w3.heap.size:=Nat.lt_of_lt_of_le q2 h3.size;have e3:Ext w w3:=X2.out.trans h3;have hh3:hi<=w3.heap.size:=Nat.le_trans hh e3.size;have X3:=hid e3;go_wp2;refine wp_region_ext (by kernel_rfl) (by kernel_rfl) ?_
 repeat (go_big_quiet_step ((go_at_call 332;with_reducible first
  | exact grow_call (texel_val HM.out E3.out IX.out IY1.out lo hi _ _ ((HV.out.ext hh X3.out).ext hh3 (grow_ext _ _)) (Nat.le_trans hh3 (grow_ext _ _).size))
  | exact grow_call (texel_val HM.out E4.out IX1.out IY1.out lo hi _ _ ((HV.out.ext hh X3.out).ext hh3 (grow_ext _ _)) (Nat.le_trans hh3 (grow_ext _ _).size)))))
 refine wpQuiet_nil ?_;intro w4 h4;go_wp2;go_ret;exact ⟨ret_int HO.out,X3.out.trans h4⟩
theorem S9.i64 {n:Int} (h:S9 n):I64 n:=I64.mk (by have:=h.1;omega) (by have:=h.2;omega)
theorem blend_bd {a b c:Int} (ha:S9 a) (hb:S9 b) (hc:S9 c) : -2000000000000000000<=(b - a)*c/\(b - a)*c<=2000000000000000000:=by
 have h1:=mul9 hb hc;have h2:=mul9 ha hc;rw [Int.sub_mul]
 constructor <;> omega
theorem row1 {lo hi:Nat} {w:World} {u:Value} {x:Int} (h:Ints lo hi w u [x]):∃b off cap,u = .slice (some ⟨b,off,none⟩) 1 cap/\b<hi/\w.cell? ⟨b,off,none⟩=some (.int .i64 x)/\IntsAt lo hi w (some ⟨b,off,none⟩) cap [x]:=by
 obtain ⟨a,cap,rfl,HU⟩:=h.open;obtain ⟨b,off,e,h1,h2,hc⟩:=HU.at (k:=0) (by simp);subst e;exact ⟨b,off,cap,rfl,h2,hc,HU⟩
theorem row2 {lo hi:Nat} {w:World} {u:Value} {x y:Int} (h:Ints lo hi w u [x,y]):∃b off cap,u = .slice (some ⟨b,off,none⟩) 2 cap/\b<hi/\w.cell? ⟨b,off,none⟩=some (.int .i64 x)/\w.cell? ⟨b,off+1,none⟩=some (.int .i64 y)/\IntsAt lo hi w (some ⟨b,off,none⟩) cap [x,y]:=by
 obtain ⟨a,cap,rfl,HU⟩:=h.open;obtain ⟨b,off,e,h1,h2,hc⟩:=HU.at (k:=0) (by simp);subst e;obtain ⟨b',off',e,_,_,hc'⟩:=HU.at (k:=1) (by simp);injection e with e;injection e with e1 e2;subst e1;subst e2;exact ⟨b,off,cap,rfl,h2,hc,hc',HU⟩
theorem row3 {lo hi:Nat} {w:World} {u:Value} {x y z:Int} (h:Ints lo hi w u [x,y,z]):∃b off cap,u = .slice (some ⟨b,off,none⟩) 3 cap/\b<hi/\w.cell? ⟨b,off,none⟩=some (.int .i64 x)/\w.cell? ⟨b,off+1,none⟩=some (.int .i64 y)/\w.cell? ⟨b,off+2,none⟩=some (.int .i64 z):=by
 obtain ⟨a,cap,rfl,HU⟩:=h.open;obtain ⟨b,off,e,h1,h2,hc⟩:=HU.at (k:=0) (by simp);subst e;obtain ⟨b',off',e,_,_,hc'⟩:=HU.at (k:=1) (by simp);injection e with e;injection e with e1 e2;subst e1;subst e2;obtain ⟨b',off',e,_,_,hc''⟩:=HU.at (k:=2) (by simp);injection e with e;injection e with e1 e2;subst e1;subst e2;exact ⟨b,off,cap,rfl,h2,hc,hc',hc''⟩
theorem callee_abs (lo hi:Nat) (u:Value) (c0:Int) (cx:Value) {x r:Int} (w:World) (hu:Ints lo hi w u [x]) (hh:hi<=w.heap.size) (hx:S9 x) (hr:absI x=r) :
  Calls Tryz.prog 316 #[.agg #[c0,cx],u] w fun e w'=>e = .returned (.int .i64 r)/\Ext w w':=by
 obtain ⟨b,off,cap,rfl,hb,d0,_⟩:=row1 hu;have HR:=hid hr;clear hu hr
 have hb1:b<w.heap.size:=by omega
 have hb2:b≠w.heap.size:=by omega
 go_enter Tryz.func316,Tryz.ntmps316;go_wp2_with fail;refine (absolute_sh hx HR.out _).mono ?_;rintro e w1 ⟨rfl,rfl⟩;go_wp2;go_ret;exact ⟨rfl,S_⟩
theorem callee_floor (lo hi:Nat) (u:Value) (c0:Int) (cx:Value) {x r:Int} (w:World) (hu:Ints lo hi w u [x]) (hh:hi<=w.heap.size) (hx:S9 x) (hr:floorI x=r) :
  Calls Tryz.prog 317 #[.agg #[c0,cx],u] w fun e w'=>e = .returned (.int .i64 r)/\Ext w w':=by
 obtain ⟨b,off,cap,rfl,hb,d0,_⟩:=row1 hu;have hq:=fdiv_bd (b:=256) (m:=1000000000) hx (by decide);unfold floorI at hr
 obtain ⟨q,hqq⟩:∃q,fdiv x 256=q:=⟨_,rfl⟩
 rw [hqq] at hq hr;have HQ:=hid hqq;clear hqq;have HR:=hid hr;clear hu hr
 have hb1:b<w.heap.size:=by omega
 have hb2:b≠w.heap.size:=by omega
 go_enter Tryz.func317,Tryz.ntmps317;go_wp2_with fail;refine (iFloorDiv_val hx.i64 HQ.out _).mono ?_;rintro e w1 ⟨rfl,rfl⟩;go_wp2;rw [HR.out];go_ret;exact ⟨rfl,S_⟩
theorem callee_min (lo hi:Nat) (u:Value) (c0:Int) (cx:Value) {x y r:Int} (w:World) (hu:Ints lo hi w u [x,y]) (hh:hi<=w.heap.size) (hr:minI x y=r) :
  Calls Tryz.prog 318 #[.agg #[c0,cx],u] w fun e w'=>e = .returned (.int .i64 r)/\Ext w w':=by
 obtain ⟨b,off,cap,rfl,hb,d0,d1,_⟩:=row2 hu;clear hu
 have hb1:b<w.heap.size:=by omega
 have hb2:b≠w.heap.size:=by omega
 by_cases h:y<x
 ·obtain rfl:y=r:=by
   rw [<-hr];unfold minI
   split <;> omega
  clear hr;go_enter Tryz.func318,Tryz.ntmps318;go_wp2_with fail;refine wp_region_stages [([0,1,2,3,4,5],6),([],7)] 99 w.heap.size (by kernel_rfl) (by kernel_rfl) ?_;refine wpStages_cons ?_;simp only [List.filterMap_cons,List.filterMap_nil,List.getElem?_toArray,List.getElem?_cons_zero,List.getElem?_cons_succ]
  show wpQuiet _ _ _ _ [_,_,_,_,_,_] _
  repeat (go_big_quiet_step (fail))
  refine wpQuiet_nil ⟨_,rfl,fun K hK=>?_⟩;go_wp2_with fail;refine hK _ _ (.inr (fun b _ hb=>Ext.block X_ (by simp;omega))) ?_;clear hK K;refine wpStages_cons ?_;simp only [List.filterMap_nil]
  show wpQuiet _ _ _ _ [] _
  try simp only [Act.put,List.setIfInBounds_toArray,List.set_cons_succ,List.set_cons_zero]
  repeat (go_big_quiet_step (fail))
  refine wpQuiet_nil ⟨_,rfl,fun K hK=>?_⟩;go_wp2_with fail;refine hK _ _ (.inr (fun b _ hb=>Ext.block X_ (by simp;omega))) ?_;clear hK K;refine wpStages_nil ?_;go_wp2;go_ret;exact ⟨rfl,S_⟩
 ·obtain rfl:x=r:=by
   rw [<-hr];unfold minI
   split <;> omega
  clear hr;go_enter Tryz.func318,Tryz.ntmps318;go_wp2_with fail;refine wp_region_stages [([0,1,2,3,4,5],6),([],7)] 99 w.heap.size (by kernel_rfl) (by kernel_rfl) ?_;refine wpStages_cons ?_;simp only [List.filterMap_cons,List.filterMap_nil,List.getElem?_toArray,List.getElem?_cons_zero,List.getElem?_cons_succ]
  show wpQuiet _ _ _ _ [_,_,_,_,_,_] _
  repeat (go_big_quiet_step (fail))
  refine wpQuiet_nil ⟨_,rfl,fun K hK=>?_⟩;go_wp2_with fail;refine hK _ _ (.inr (fun b _ hb=>Ext.block X_ (by simp;omega))) ?_;clear hK K;refine wpStages_cons ?_;simp only [List.filterMap_nil]
  show wpQuiet _ _ _ _ [] _
  try simp only [Act.put,List.setIfInBounds_toArray,List.set_cons_succ,List.set_cons_zero]
  repeat (go_big_quiet_step (fail))
  refine wpQuiet_nil ⟨_,rfl,fun K hK=>?_⟩;go_wp2_with fail;refine hK _ _ (.inr (fun b _ hb=>Ext.block X_ (by simp;omega))) ?_;clear hK K;refine wpStages_nil ?_;go_wp2;go_ret;exact ⟨rfl,S_⟩
theorem callee_max (lo hi:Nat) (u:Value) (c0:Int) (cx:Value) {x y r:Int} (w:World) (hu:Ints lo hi w u [x,y]) (hh:hi<=w.heap.size) (hr:maxI x y=r) :
  Calls Tryz.prog 319 #[.agg #[c0,cx],u] w fun e w'=>e = .returned (.int .i64 r)/\Ext w w':=by
 obtain ⟨b,off,cap,rfl,hb,d0,d1,_⟩:=row2 hu;clear hu
 have hb1:b<w.heap.size:=by omega
 have hb2:b≠w.heap.size:=by omega
 by_cases h:x<y
 ·obtain rfl:y=r:=by
   rw [<-hr];unfold maxI
   split <;> omega
  clear hr;go_enter Tryz.func319,Tryz.ntmps319;go_wp2_with fail;refine wp_region_stages [([0,1,2,3,4,5],6),([],7)] 99 w.heap.size (by kernel_rfl) (by kernel_rfl) ?_;refine wpStages_cons ?_;simp only [List.filterMap_cons,List.filterMap_nil,List.getElem?_toArray,List.getElem?_cons_zero,List.getElem?_cons_succ]
  show wpQuiet _ _ _ _ [_,_,_,_,_,_] _
  repeat (go_big_quiet_step (fail))
  refine wpQuiet_nil ⟨_,rfl,fun K hK=>?_⟩;go_wp2_with fail;refine hK _ _ (.inr (fun b _ hb=>Ext.block X_ (by simp;omega))) ?_;clear hK K;refine wpStages_cons ?_;simp only [List.filterMap_nil]
  show wpQuiet _ _ _ _ [] _
  try simp only [Act.put,List.setIfInBounds_toArray,List.set_cons_succ,List.set_cons_zero]
  repeat (go_big_quiet_step (fail))
  refine wpQuiet_nil ⟨_,rfl,fun K hK=>?_⟩;go_wp2_with fail;refine hK _ _ (.inr (fun b _ hb=>Ext.block X_ (by simp;omega))) ?_;clear hK K;refine wpStages_nil ?_;go_wp2;go_ret;exact ⟨rfl,S_⟩
 ·obtain rfl:x=r:=by
   rw [<-hr];unfold maxI
   split <;> omega
  clear hr;go_enter Tryz.func319,Tryz.ntmps319;go_wp2_with fail;refine wp_region_stages [([0,1,2,3,4,5],6),([],7)] 99 w.heap.size (by kernel_rfl) (by kernel_rfl) ?_;refine wpStages_cons ?_;simp only [List.filterMap_cons,List.filterMap_nil,List.getElem?_toArray,List.getElem?_cons_zero,List.getElem?_cons_succ]
  show wpQuiet _ _ _ _ [_,_,_,_,_,_] _
  repeat (go_big_quiet_step (fail))
  refine wpQuiet_nil ⟨_,rfl,fun K hK=>?_⟩;go_wp2_with fail;refine hK _ _ (.inr (fun b _ hb=>Ext.block X_ (by simp;omega))) ?_;clear hK K;refine wpStages_cons ?_;simp only [List.filterMap_nil]
  show wpQuiet _ _ _ _ [] _
  try simp only [Act.put,List.setIfInBounds_toArray,List.set_cons_succ,List.set_cons_zero]
  repeat (go_big_quiet_step (fail))
  refine wpQuiet_nil ⟨_,rfl,fun K hK=>?_⟩;go_wp2_with fail;refine hK _ _ (.inr (fun b _ hb=>Ext.block X_ (by simp;omega))) ?_;clear hK K;refine wpStages_nil ?_;go_wp2;go_ret;exact ⟨rfl,S_⟩
theorem callee_step (lo hi:Nat) (u:Value) (c0:Int) (cx:Value) {x y r:Int} (w:World) (hu:Ints lo hi w u [x,y]) (hh:hi<=w.heap.size) (hx:S9 x) (hy:S9 y) (hr:stepI x y=r) :
  Calls Tryz.prog 320 #[.agg #[c0,cx],u] w fun e w'=>e = .returned (.int .i64 r)/\Ext w w':=by
 obtain ⟨b,off,cap,rfl,hb,d0,d1,_⟩:=row2 hu;have HR:=hid hr;clear hu hr
 have hb1:b<w.heap.size:=by omega
 have hb2:b≠w.heap.size:=by omega
 go_enter Tryz.func320,Tryz.ntmps320;go_wp2_with fail;refine wp_region_stages [([0,1,2,3,4,5],6),([],7)] 99 w.heap.size (by kernel_rfl) (by kernel_rfl) ?_;refine wpStages_cons ?_;simp only [List.filterMap_cons,List.filterMap_nil,List.getElem?_toArray,List.getElem?_cons_zero,List.getElem?_cons_succ]
 show wpQuiet _ _ _ _ [_,_,_,_,_,_] _
 repeat (go_big_quiet_step (fail))
 refine wpQuiet_nil ⟨_,rfl,fun K hK=>?_⟩;go_wp2_with fail;refine (stepped_sh hx.i64 hy.i64 HR.out _).mono ?_;rintro e w1 ⟨rfl,rfl⟩;go_wp2_with fail;refine hK _ _ (.inr (fun b _ hb=>Ext.block X_ (by simp;omega))) ?_;clear hK K;refine wpStages_cons ?_;simp only [List.filterMap_nil]
 show wpQuiet _ _ _ _ [] _
 try simp only [Act.put,List.setIfInBounds_toArray,List.set_cons_succ,List.set_cons_zero]
 repeat (go_big_quiet_step (fail))
 refine wpQuiet_nil ⟨_,rfl,fun K hK=>?_⟩;go_wp2_with fail;refine hK _ _ (.inr (fun b _ hb=>Ext.block X_ (by simp;omega))) ?_;clear hK K;refine wpStages_nil ?_;go_wp2;go_ret;exact ⟨rfl,S_⟩
theorem callee_noise (lo hi:Nat) (u:Value) (c0:Int) (cx:Value) (xs:List Int) {r:Int} (w:World) (hu:Ints lo hi w u xs) (hh:hi<=w.heap.size) (hr:hash257 xs=r) :
  Calls Tryz.prog 321 #[.agg #[c0,cx],u] w fun e w'=>e = .returned (.int .i64 r)/\Ext w w':=by
 subst hr;have HU:=hid hu;clear hu;go_enter Tryz.func321,Tryz.ntmps321;go_wp2_with fail;refine (iHash257_any lo hi _ xs _ (HU.out.ext hh X_)).mono ?_;rintro e w1 ⟨rfl,rfl⟩;go_wp2;go_ret;exact ⟨rfl,S_⟩
theorem callee_clamp (lo hi:Nat) (u:Value) (c0:Int) (cx:Value) {x y z r:Int} (w:World) (hu:Ints lo hi w u [x,y,z]) (hh:hi<=w.heap.size) (hr:clampI x y z=r) :
  Calls Tryz.prog 322 #[.agg #[c0,cx],u] w fun e w'=>e = .returned (.int .i64 r)/\Ext w w':=by
 obtain ⟨b,off,cap,rfl,hb,d0,d1,d2⟩:=row3 hu;have HR:=hid hr;clear hu hr
 have hb1:b<w.heap.size:=by omega
 have hb2:b≠w.heap.size:=by omega
 go_enter Tryz.func322,Tryz.ntmps322;go_wp2_with fail;refine wp_region_stages [([0,1,2,3,4,5,6,7,8],9),([],10)] 99 w.heap.size (by kernel_rfl) (by kernel_rfl) ?_;refine wpStages_cons ?_;simp only [List.filterMap_cons,List.filterMap_nil,List.getElem?_toArray,List.getElem?_cons_zero,List.getElem?_cons_succ]
 show wpQuiet _ _ _ _ [_,_,_,_,_,_,_,_,_] _
 repeat (go_big_quiet_step (fail))
 refine wpQuiet_nil ⟨_,rfl,fun K hK=>?_⟩;go_wp2_with fail;refine (iClamp_val HR.out _).mono ?_;rintro e w1 ⟨rfl,rfl⟩;go_wp2_with fail;refine hK _ _ (.inr (fun b _ hb=>Ext.block X_ (by simp;omega))) ?_;clear hK K;refine wpStages_cons ?_;simp only [List.filterMap_nil]
 show wpQuiet _ _ _ _ [] _
 try simp only [Act.put,List.setIfInBounds_toArray,List.set_cons_succ,List.set_cons_zero]
 repeat (go_big_quiet_step (fail))
 refine wpQuiet_nil ⟨_,rfl,fun K hK=>?_⟩;go_wp2_with fail;refine hK _ _ (.inr (fun b _ hb=>Ext.block X_ (by simp;omega))) ?_;clear hK K;refine wpStages_nil ?_;go_wp2;go_ret;exact ⟨rfl,S_⟩
theorem callee_mix (lo hi:Nat) (u:Value) (c0:Int) (cx:Value) {x y z r:Int} (w:World) (hu:Ints lo hi w u [x,y,z]) (hh:hi<=w.heap.size) (hx:S9 x) (hy:S9 y) (hz:S9 z) (hr:blendI x y z=r) :
  Calls Tryz.prog 323 #[.agg #[c0,cx],u] w fun e w'=>e = .returned (.int .i64 r)/\Ext w w':=by
 obtain ⟨b,off,cap,rfl,hb,d0,d1,d2⟩:=row3 hu;have hx1:=hx.1;have hx2:=hx.2;have hy1:=hy.1;have hy2:=hy.2;have hm:=blend_bd hx hy hz;unfold blendI at hr;have hq:=fdiv_bd (b:=256) hm (by decide)
 obtain ⟨q,hqq⟩:∃q,fdiv ((y - x)*z) 256=q:=⟨_,rfl⟩
 rw [hqq] at hq hr;have HQ:=hid hqq;clear hqq;have HR:=hid hr;clear hu hr
 have hb1:b<w.heap.size:=by omega
 have hb2:b≠w.heap.size:=by omega
 go_enter Tryz.func323,Tryz.ntmps323;go_wp2_with fail;refine wp_region_stages [([0,1,2,3,4,5,6,7,8,9,10,11,12,13],14),([15],16)] 99 w.heap.size (by kernel_rfl) (by kernel_rfl) ?_;refine wpStages_cons ?_;simp only [List.filterMap_cons,List.filterMap_nil,List.getElem?_toArray,List.getElem?_cons_zero,List.getElem?_cons_succ]
 show wpQuiet _ _ _ _ [_,_,_,_,_,_,_,_,_,_,_,_,_,_] _
 repeat (go_big_quiet_step (fail))
 refine wpQuiet_nil ⟨_,rfl,fun K hK=>?_⟩;go_wp2_with fail;refine (iFloorDiv_val (I64.mk (by omega) (by omega)) HQ.out _).mono ?_;rintro e w1 ⟨rfl,rfl⟩;go_wp2_with fail;refine hK _ _ (.inr (fun b _ hb=>Ext.block X_ (by simp;omega))) ?_;clear hK K;refine wpStages_cons ?_;simp only [List.filterMap_cons,List.filterMap_nil,List.getElem?_toArray,List.getElem?_cons_zero,List.getElem?_cons_succ]
 show wpQuiet _ _ _ _ [_] _
 try simp only [Act.put,List.setIfInBounds_toArray,List.set_cons_succ,List.set_cons_zero]
 repeat (go_big_quiet_step (fail))
 refine wpQuiet_nil ⟨_,rfl,fun K hK=>?_⟩;go_wp2_with fail;refine hK _ _ (.inr (fun b _ hb=>Ext.block X_ (by simp;omega))) ?_;clear hK K;refine wpStages_nil ?_;go_wp2;rw [HR.out];go_ret;exact ⟨rfl,S_⟩
def opsOk (op:Int):Prop:=3<=op/\op<=7
theorem iArith3 {a b c:Int} (ha:S9 a) (hb:S9 b) (h:satI (-b)=c) (w:World):Calls Tryz.prog 315 #[.int .i64 3,a,b] w fun e w'=>e = .returned (.int .i64 c)/\w=w':=by
 have hm:=mul9 ha hb;have KA:=hid ha;have KB:=hid hb;obtain ⟨a1,a2⟩:=ha;obtain ⟨b1,b2⟩:=hb;have HR:=hid h;clear h;go_enter Tryz.func315,Tryz.ntmps315;go_wp2_with fail;refine (iSaturate_val HR.out _).mono ?_;rintro e w1 ⟨rfl,rfl⟩;go_wp2;go_ret;exact ⟨rfl,rfl⟩
theorem iArith4 {a b c:Int} (ha:S9 a) (hb:S9 b) (h:satI (a+b)=c) (w:World):Calls Tryz.prog 315 #[.int .i64 4,a,b] w fun e w'=>e = .returned (.int .i64 c)/\w=w':=by
 have hm:=mul9 ha hb;have KA:=hid ha;have KB:=hid hb;obtain ⟨a1,a2⟩:=ha;obtain ⟨b1,b2⟩:=hb;have HR:=hid h;clear h;go_enter Tryz.func315,Tryz.ntmps315;go_wp2_with fail;refine (iSaturate_val HR.out _).mono ?_;rintro e w1 ⟨rfl,rfl⟩;go_wp2;go_ret;exact ⟨rfl,rfl⟩
theorem iArith5 {a b c:Int} (ha:S9 a) (hb:S9 b) (h:satI (a - b)=c) (w:World):Calls Tryz.prog 315 #[.int .i64 5,a,b] w fun e w'=>e = .returned (.int .i64 c)/\w=w':=by
 have hm:=mul9 ha hb;have KA:=hid ha;have KB:=hid hb;obtain ⟨a1,a2⟩:=ha;obtain ⟨b1,b2⟩:=hb;have HR:=hid h;clear h;go_enter Tryz.func315,Tryz.ntmps315;go_wp2_with fail;refine (iSaturate_val HR.out _).mono ?_;rintro e w1 ⟨rfl,rfl⟩;go_wp2;go_ret;exact ⟨rfl,rfl⟩
theorem iArith6 {a b c:Int} (ha:S9 a) (hb:S9 b) (h:satI (fdiv (a*b) 256)=c) (w:World):Calls Tryz.prog 315 #[.int .i64 6,a,b] w fun e w'=>e = .returned (.int .i64 c)/\w=w':=by
 have hm:=mul9 ha hb;have KA:=hid ha;have KB:=hid hb;obtain ⟨a1,a2⟩:=ha;obtain ⟨b1,b2⟩:=hb
 obtain ⟨q,hq⟩:∃q,fdiv (a*b) 256=q:=⟨_,rfl⟩
 rw [hq] at h;have HR:=hid h;have HQ:=hid hq;clear h hq;go_enter Tryz.func315,Tryz.ntmps315;go_wp2_with fail;refine (iFloorDiv_val (I64.mk (by omega) (by omega)) HQ.out _).mono ?_;rintro e w1 ⟨rfl,rfl⟩;go_wp2_with fail;refine (iSaturate_val HR.out _).mono ?_;rintro e w1 ⟨rfl,rfl⟩;go_wp2;go_ret;exact ⟨rfl,rfl⟩
theorem iArith7 {a b c:Int} (ha:S9 a) (hb:S9 b) (h:satI (ratI a b)=c) (w:World):Calls Tryz.prog 315 #[.int .i64 7,a,b] w fun e w'=>e = .returned (.int .i64 c)/\w=w':=by
 have hm:=mul9 ha hb;have KA:=hid ha;have KB:=hid hb;obtain ⟨a1,a2⟩:=ha;obtain ⟨b1,b2⟩:=hb
 obtain ⟨q,hq⟩:∃q,ratI a b=q:=⟨_,rfl⟩
 rw [hq] at h;have HR:=hid h;have HQ:=hid hq;clear h hq;go_enter Tryz.func315,Tryz.ntmps315;go_wp2_with fail;refine (iRatio_val KA.out KB.out HQ.out _).mono ?_;rintro e w1 ⟨rfl,rfl⟩;go_wp2_with fail;refine (iSaturate_val HR.out _).mono ?_;rintro e w1 ⟨rfl,rfl⟩;go_wp2;go_ret;exact ⟨rfl,rfl⟩
theorem iArith_any {op a b c:Int} (ho:opsOk op) (ha:S9 a) (hb:S9 b) (h:arithI op a b=c) (w:World):Calls Tryz.prog 315 #[op,a,b] w fun e w'=>e = .returned (.int .i64 c)/\w=w':=by
 obtain ⟨h1,h2⟩:=ho;unfold arithI opI at h
 rcases (show op=3\/op=4\/op=5\/op=6\/op=7 by omega) with rfl|rfl|rfl|rfl|rfl
 ·exact iArith3 ha hb (by simpa using h) w
 ·exact iArith4 ha hb (by simpa using h) w
 ·exact iArith5 ha hb (by simpa using h) w
 ·exact iArith6 ha hb (by simpa using h) w
 ·exact iArith7 ha hb (by simpa using h) w
structure LSt (w wr:World) (m:Tex) (A:Nat) (a:Option Addr) (c:Nat):Prop where
 ext:Ext w wr
 box:TBox wr A (.int .i64 m.log) (.slice a m.px.length c)
 tex:TexR 0 wr.heap.size wr (.agg #[m.log,.slice a m.px.length c]) m
theorem LSt.to {w wr w':World} {m:Tex} {A:Nat} {a:Option Addr} {c:Nat} (h:LSt w wr m A a c) (e:Ext wr w'):LSt w w' m A a c:=
 ⟨h.ext.trans e,h.box.ext e,(h.tex.ext (Nat.le_refl _) e).wide (Nat.le_refl _) e.size⟩
theorem callee_tex (lo hi lo' hi':Nat) (u v:Value) (t:Tex) {x y r:Int} (w:World) (hu:Ints lo hi w u [x,y]) (hh:hi<=w.heap.size) (hv:TexR lo' hi' w v t) (hh':hi'<=w.heap.size) (ht:t.Ok) (hr:t.look x y=r) :
  Calls Tryz.prog 324 #[v,u] w fun e w'=>e = .returned (.int .i64 r)/\Ext w w':=by
 obtain ⟨b,off,cap,rfl,hb,d0,d1,_⟩:=row2 hu;obtain ⟨tx,rfl,_⟩:=hv.shape;have HR:=hid hr;have HV:=hid hv;have HT:=hid ht;clear hu hr hv ht
 have hb1:b<w.heap.size:=by omega
 have hb2:b≠w.heap.size:=by omega
 go_enter Tryz.func324,Tryz.ntmps324;go_wp2_with fail;refine wp_region_stages [([0,1,2,3,4,5,6,7],8),([],9)] 99 (w.heap.size+1) (by kernel_rfl) (by kernel_rfl) ?_;refine wpStages_cons ?_;simp only [List.filterMap_cons,List.filterMap_nil,List.getElem?_toArray,List.getElem?_cons_zero,List.getElem?_cons_succ]
 show wpQuiet _ _ _ _ [_,_,_,_,_,_,_,_] _
 repeat (go_big_quiet_step (fail))
 refine wpQuiet_nil ⟨_,rfl,fun K hK=>?_⟩;go_wp2_with fail;refine (lookup_any lo' hi' _ t x y _ (HV.out.ext hh' X_) (by simp;omega) HT.out).mono ?_;rintro e w1 ⟨rfl,x1⟩;rw [HR.out];have X1:=x1;have X2:Ext w w1:=Ext.trans X_ x1;go_wp2_with fail;refine hK _ _ (.inr (fun k _ hk=>X1.block (by first|omega|(simp;omega)))) ?_;clear hK K;refine wpStages_cons ?_;simp only [List.filterMap_nil]
 show wpQuiet _ _ _ _ [] _
 try simp only [Act.put,List.setIfInBounds_toArray,List.set_cons_succ,List.set_cons_zero]
 repeat (go_big_quiet_step (fail))
 refine wpQuiet_nil ⟨_,rfl,fun K hK=>?_⟩;go_wp2_with fail;refine hK _ _ (.inr (fun k _ hk=>X1.block (by first|omega|(simp;omega)))) ?_;clear hK K;refine wpStages_nil ?_;go_wp2;go_ret;exact ⟨rfl,S_⟩
theorem hnew (w:World) (o:Obj):(w.alloc o).heap[w.heap.size]?=some o:=by show (w.heap.push o)[w.heap.size]?=_;simp
theorem run_insert (w:World) (mty kt et:TypeId) (r clock:Nat) (es:Array MapEntry) (s:ByteArray) (val:Value) (hm:Tryz.prog.underlying mty=some (.map kt et)) (hk:Tryz.prog.underlying kt=some .string) (hb:w.heap[r]?=some (.map es clock)) (hf:Instr.findNow .string (.string s) es.toList 0=some none) :
  (Instr.mapUpdate mty (.map (some r)) (.string s) val).run Tryz.prog w = .ok () { w with heap:=w.heap.setIfInBounds r (.map (es.push { key:=.string s,val:=val,born:=clock }) (clock+1)) }:=by
 have hc:(Instr.checkKey false 10000 kt (.string s)).run Tryz.prog w = .ok () w:=MapKept.run_checkKey (k:=.string s) hk (by simp [MapKept.IsKey]) false 9999;simp [Instr.mapUpdate,run_underlying hm,MapKept.run_getObj_map hb,hc,MapKept.run_findKey hk hf,MapKept.run_setObj_map _ hb,Result.andThen]
theorem wpList_ins (w:World) {ops:Array Oper} {rest:List Oper} {o:Oper} {a:Act} {Q:Exit->Act->World->Prop} (hg:o.guard=none) (m x v:Operand) (hop:o.op=Op.insert 368 m x v) (hd:o.dst=none)
  (b clock:Nat) (es:Array MapEntry) (hm:a.eval m = .map (some b)) (hb:w.heap[b]?=some (.map es clock)) (s:ByteArray) (hx:a.eval x = .string s) (val:Value) (hv:a.eval v=val) (hf:Instr.findNow .string (.string s) es.toList 0=some none)
  (hK:∀w',w'.heap[b]?=some (.map (es.push { key:=.string s,val:=val,born:=clock }) (clock+1))->w.grownBy w' (some b)->wpList Tryz.prog ops Q rest a w'):wpList Tryz.prog ops Q (o::rest) a w:=by
 refine wpList_plain hg fun K' hK'=>?_;have hrun:=run_insert w 368 9 _ b clock es s val Tryz.underlying368 Tryz.underlying9 hb hf;have h1:=(MapKept.heap_set (o':=.map (es.push { key:=.string s,val:=val,born:=clock }) (clock+1)) hb).1;have h2:=(MapKept.heap_set (o':=.map (es.push { key:=.string s,val:=val,born:=clock }) (clock+1)) hb).2;unfold Oper.wp;simp [execOp,hop,hm,hx,hv,hrun,Result.andThen];refine hK' _ _ ?_;rw [hd];exact hK _ h1 ⟨rfl,rfl,rfl,by simp,fun i _ hi=>h2 i (fun e=>hi (by rw [e]))⟩
def fnEntries:Array MapEntry:=#[{ key:=.string ⟨#[97,98,115]⟩,val:=.func (.func 316) #[] #[],born:=0 },{ key:=.string ⟨#[102,108,111,111,114]⟩,val:=.func (.func 317) #[] #[],born:=1 },{ key:=.string ⟨#[109,105,110]⟩,val:=.func (.func 318) #[] #[],born:=2 },{ key:=.string ⟨#[109,97,120]⟩,val:=.func (.func 319) #[] #[],born:=3 },{ key:=.string ⟨#[115,116,101,112]⟩,val:=.func (.func 320) #[] #[],born:=4 },{ key:=.string ⟨#[110,111,105,115,101]⟩,val:=.func (.func 321) #[] #[],born:=5 },{ key:=.string ⟨#[99,108,97,109,112]⟩,val:=.func (.func 322) #[] #[],born:=6 },{ key:=.string ⟨#[109,105,120]⟩,val:=.func (.func 323) #[] #[],born:=7 },{ key:=.string ⟨#[116,101,120]⟩,val:=.func (.func 324) #[] #[],born:=8 }]
theorem pointwise_any (w:World):Calls Tryz.prog 302 #[] w fun e w'=>∃b,e = .returned (.map (some b))/\w.heap.size<=b/\b<w'.heap.size/\w'.heap[b]?=some (.map fnEntries 9)/\Ext w w':=by
 go_enter Tryz.func302,Tryz.ntmps302;have hmk:=run_makeMap (P:=Tryz.prog) 368 w;have hb0:(w.alloc (.map #[] 0)).heap[w.heap.size]?=some (.map #[] 0):=hnew _ _;have X:Ext w (w.alloc (.map #[] 0)):=X_
 have hs:w.heap.size<(w.alloc (.map #[] 0)).heap.size:=by simp
 go_wp2_with (refine wpList_ins _ rfl _ _ _ rfl rfl w.heap.size _ _ rfl (by assumption) _ rfl _ rfl rfl ?_;clear hb0;intro w1 hb0 hg1;replace X:=Ext.grown X hg1 (fun k hk=>by simp at hk;omega);replace hs:=Nat.lt_of_lt_of_le hs hg1.size;clear hg1);go_ret;exact ⟨_,rfl,Nat.le_refl _,hs,hb0.trans rfl,X⟩
theorem fillTo_const (m k:Nat) (c:Int) (h:k<m):(fillTo (List.replicate m c) k).set k c=fillTo (List.replicate m c) (k+1):=by
 have:=fillTo_succ (List.replicate m c) k (by simpa using h)
 simpa using this
theorem iConstant_any (c:Int) (n m:Nat) (g1:Value) (g2 g3:Int) (g4:Value) (w:World) (hm:(n:Int)*n=m) (hn:m<=1000000) (hc:I64 c) :
  Calls Tryz.prog 163 #[c,.agg #[n,g1,g2,g3,g4]] w fun e w'=>∃v,e = .returned v/\OwnInts w.heap.size w' v (List.replicate m c)/\Ext w w':=by
 obtain ⟨i0,hi0,hz0,hz1,hz2⟩:=info_parts info_int;go_enter Tryz.func163,Tryz.ntmps163;go_wp2_with (at_make;refine wpList_make_full _ rfl _ _ 25 rfl (w.heap.size+1) 3 i0 (.int .i64 0) 1 Tryz.underlying25 hi0 hz0 hz1 _ _ _ _ m rfl rfl rfl rfl (by rw [hz2];omega) (by unfold maxLen;omega) (by simp) ?_);intro w1 hown hgrow
 have e0:(List.replicate m (0:Int))=fillTo (List.replicate m c) 0:=by rw [fillTo_zero];simp
 try simp only [Value.cells,Nat.mul_one,World.size_drew,World.size_alloc] at hown
 rw [made_ints,e0] at hown;have hx:Ext w w1:=Ext.grown X_ hgrow (fun k h=>by cases h);clear hgrow hi0 hz0 hz1 hz2 e0;go_wp2
 go_loopw [15] (fun i wr=>∃k:Nat,k<=m/\i = .int .i64 k/\Ext w wr/\wr.ownsRow (w.heap.size+1) 3 1 (.slice (some ⟨w.heap.size+1,0,none⟩) m m) m ((fillTo (List.replicate m c) k).map (Value.int .i64)))
  (fun i _=>m - (intOf i).toNat)
 case atStart=>exact ⟨0,by omega,rfl,hx,hown⟩
 case round=>
  clear hown hx;obtain ⟨k,hk,rfl,hx,hown⟩:=hrel
  by_cases hlt:k<m
  ·have hs:=hown.cellAt k (by omega)
   have hf:=hown.frozenAt k;have hst:=(hown.stored k (.int .i64 c)).1;have hx':=hx.setCell (p:=⟨w.heap.size+1,k,none⟩) (Nat.le_succ _) (.int .i64 c)
   obtain ⟨z,hz⟩:∃z,wr.cell? ⟨w.heap.size+1,k,none⟩=some (.int .i64 z):=by
    rw [hs]
    have hl:k<(fillTo (List.replicate m c) k).length:=by rw [fillTo_length _ _ (by simpa using hk)];simpa using hlt
    exact ⟨(fillTo (List.replicate m c) k)[k],by simp⟩
   rw [<-List.map_set,fillTo_const _ _ _ hlt] at hst;have H1:=hid hst;have H2:=hid hx';clear hst hx' hs hown hx;go_wp2;go_roundw
   case rel=>exact ⟨k+1,by omega,by go_num,H2.out,H1.out⟩
   case measure=>simp [intOf];omega
  ·go_wp2
   go_ret
   obtain rfl:k=m:=by omega
   have ha:=fillTo_all (List.replicate k c);rw [List.length_replicate] at ha;rw [ha] at hown
   have ho:OwnInts (w.heap.size+1) wr (.slice (some ⟨w.heap.size+1,0,none⟩) k k) (List.replicate k c):=⟨by simpa using hown,fun x hx=>by rw [List.eq_of_mem_replicate hx];exact hc⟩
   exact ⟨_,rfl,ho.low (Nat.le_succ _),hx⟩
theorem OwnInts.lit0 (w:World):OwnInts w.heap.size (w.alloc (.cells #[] 3)) (.slice (some ⟨w.heap.size,0,none⟩) 0 0) []:=
 ⟨⟨rfl,.inr ⟨w.heap.size,0,_,rfl,Nat.le_refl _,hnew w _,by simp,by unfold maxLen;omega,rfl,rfl⟩⟩,fun _ h=>by cases h⟩
def col (n:Int):Int:=clampI n 0 256
theorem col_bd (n:Int):0<=col n/\col n<=256:=by
 unfold col clampI
 split
 ·omega
 ·split <;> omega
theorem take_map_snoc (f:Int->Int) (xs:List Int) (k:Nat) (h:k<xs.length):(xs.take k).map f++[f xs[k]]=(xs.take (k+1)).map f:=by
 rw [List.take_succ_eq_append_getElem h,List.map_append]
 rfl
theorem iLimited_any (lo hi:Nat) (u:Value) (xs:List Int) (w:World) (hu:Ints lo hi w u xs) (hh:hi<=w.heap.size) (hl:xs.length<=1000000) :
  Calls Tryz.prog 162 #[u] w fun e w'=>∃v,e = .returned v/\OwnInts w.heap.size w' v (xs.map col)/\Ext w w':=by
 obtain ⟨a,cap,rfl,HU⟩:=hu.open;have l1:=HU.le;have l2:=HU.cap;clear hu;go_enter Tryz.func162,Tryz.ntmps162;go_wp2
 go_loopw [3,9] (fun v i wr=>∃k:Nat,k<=xs.length/\i = .int .i64 k/\OwnInts w.heap.size wr v ((xs.take k).map col)/\Ext w wr) (fun _ i _=>xs.length - (intOf i).toNat)
 case atStart=>exact ⟨0,by omega,rfl,OwnInts.lit0 w,X_⟩
 case round=>
  obtain ⟨k,hk,rfl,hown,hx⟩:=hrel;obtain ⟨av,cv,rfl,hcv⟩:=hown.form
  have hlen:((xs.take k).map col).length=k:=by simp;omega
  rw [hlen] at hown ⊢
  by_cases hlt:k<xs.length
  ·obtain ⟨b,off,rfl,hb1,hb2,hc⟩:=HU.at hlt
   rw [<-hx.cells.1 b _ (by omega)] at hc;have hsn:=take_map_snoc col xs k hlt
   obtain ⟨x,hxk⟩:∃x,xs[k]=x:=⟨_,rfl⟩
   rw [hxk] at hc hsn;have hbd:=col_bd x
   obtain ⟨c,hcc⟩:∃c,col x=c:=⟨_,rfl⟩
   rw [hcc] at hbd hsn;have HC:=hid (show clampI x 0 256=c from hcc);have HO:=hid hown;have HX:=hid hx;have HS:=hid hsn;have HL:=hid hlen;have zs:=hx.size
   have hbw:b<wr.heap.size:=by omega
   clear hown hx hsn hlen hxk hcc;go_wp2_with fail;refine (iClamp_val HC.out _).mono ?_;rintro e w1 ⟨rfl,rfl⟩;go_wp2_with (at_builtin;refine wpList_append1 _ rfl _ _ rfl w.heap.size _ _ rfl (HO.out.alloc _) c ⟨by omega,by omega⟩ wr.heap.size rfl (by simp [go_sem]) (by rw [HL.out];omega) (by simp;omega) ?_;intro v' w7 hown hg);rw [HS.out] at hown;go_wp2;go_roundw
   case rel=>exact ⟨k+1,by omega,by go_num,hown,Ext.grown (HX.out.alloc _) hg (fun g e=>(HO.out.lt g e).1)⟩
   case measure=>simp [intOf];omega
  ·obtain rfl:k=xs.length:=by omega
   rw [List.take_length] at hown;go_wp2;go_ret;exact ⟨_,rfl,hown,hx⟩
theorem iCombined_any (lo hi lo' hi':Nat) (u v:Value) (op:Int) (xs ys:List Int) (w:World) (ho:opsOk op) (hu:Ints lo hi w u xs) (hh:hi<=w.heap.size) (hv:Ints lo' hi' w v ys) (hh':hi'<=w.heap.size)
  (hl:xs.length=ys.length) (hm:ys.length<=1000000) (hx9:∀x∈xs,S9 x) (hy9:∀y∈ys,S9 y) :
  Calls Tryz.prog 299 #[op,u,v] w fun e w'=>∃r,e = .returned r/\OwnInts w.heap.size w' r (List.zipWith (arithI op) xs ys)/\Ext w w':=by
 obtain ⟨i0,hi0,hz0,hz1,hz2⟩:=info_parts info_int;obtain ⟨a,cap,rfl,HU⟩:=hu.open;obtain ⟨a',cap',rfl,HV⟩:=hv.open;clear hu hv
 obtain ⟨zs,hzs⟩:∃zs,List.zipWith (arithI op) xs ys=zs:=⟨_,rfl⟩
 have hzl:zs.length=ys.length:=by rw [<-hzs,List.length_zipWith];omega
 have hz:∀k (h1:k<xs.length) (h2:k<ys.length) (h3:k<zs.length),arithI op xs[k] ys[k]=zs[k]:=fun k h1 h2 h3=>by subst hzs;simp
 have HZ9:=hid (fun z (h:z∈zs)=>(by
  obtain ⟨k,hk,rfl⟩:=List.getElem_of_mem h;rw [<-hz k (by omega) (by omega) hk]
  exact (satI_S9 _).i64:I64 z))
 rw [hzs];clear hzs;go_enter Tryz.func299,Tryz.ntmps299;go_wp2_with (at_make;refine wpList_make_full _ rfl _ _ 25 rfl w.heap.size 3 i0 (.int .i64 0) 1 Tryz.underlying25 hi0 hz0 hz1 _ _ _ _ ys.length rfl rfl rfl rfl (by rw [hz2];omega) (by unfold maxLen;omega) (Nat.le_refl _) ?_);intro w1 hown hgrow;rw [made_ints,<-hzl,<-fillTo_zero,hzl] at hown;have hx:Ext w w1:=(Ext.refl w).grown hgrow (fun k h=>by cases h);have hb0:w.heap.size<w1.heap.size:=(hown.lt _ rfl).2;clear hgrow hi0 hz0 hz1 hz2;go_wp2
 go_loopw [14] (fun i wr=>∃k:Nat,k<=ys.length/\i = .int .i64 k/\Ext w wr/\w.heap.size<wr.heap.size/\wr.ownsRow w.heap.size 3 1 (.slice (some ⟨w.heap.size,0,none⟩) ys.length ys.length) ys.length ((fillTo zs k).map (Value.int .i64)))
  (fun i _=>ys.length - (intOf i).toNat)
 case atStart=>exact ⟨0,by omega,rfl,hx,hb0,hown⟩
 case round=>
  clear hown hx hb0;obtain ⟨k,hk,rfl,hx,hb0,hown⟩:=hrel
  by_cases hlt:k<ys.length
  ·obtain ⟨b,off,rfl,hb1,hb2,hc⟩:=HU.at (k:=k) (by omega)
   obtain ⟨b',off',rfl,hb1',hb2',hc'⟩:=HV.at hlt;rw [<-hx.cells.1 b _ (by omega)] at hc;rw [<-hx.cells.1 b' _ (by omega)] at hc';have hs:=hown.cellAt k (by omega);have hf:=hown.frozenAt k;have q9:=hx9 _ (List.getElem_mem (show k<xs.length by omega));have q9':=hy9 _ (List.getElem_mem hlt);have hz':=hz k (by omega) hlt (by omega);have hst:=(hown.stored k (.int .i64 (zs[k]'(by omega)))).1;have hx':=hx.setCell (p:=⟨w.heap.size,k,none⟩) (Nat.le_refl _) (.int .i64 (zs[k]'(by omega)))
   obtain ⟨z0,hs'⟩:∃z,wr.cell? ⟨w.heap.size,k,none⟩=some (.int .i64 z):=by
    rw [hs]
    have hl2:k<(fillTo zs k).length:=by rw [fillTo_length _ _ (by omega)];omega
    exact ⟨(fillTo zs k)[k],by simp⟩
   rw [<-List.map_set,fillTo_succ _ _ (by omega)] at hst
   obtain ⟨x,hxx⟩:∃x,xs[k]'(by omega)=x:=⟨_,rfl⟩
   obtain ⟨y,hyy⟩:∃x,ys[k]=x:=⟨_,rfl⟩
   obtain ⟨z,hzz⟩:∃x,zs[k]'(by omega)=x:=⟨_,rfl⟩
   rw [hxx] at hc q9 hz';rw [hyy] at hc' q9' hz';rw [hzz] at hz' hst hx';have H1:=hid hst;have H2:=hid hx';have HZ:=hid hz';have zr:=hx.size
   have hbw:b<wr.heap.size:=by omega
   have hbw':b'<wr.heap.size:=by omega
   clear hst hx' hs hown hx hxx hyy hzz hz' hz;go_wp2_with fail;refine wp_region_stages [([0,1,2,3,4,5,6,7,8,9,10],11),([12],13)] 13 wr.heap.size (by kernel_rfl) (by kernel_rfl) ?_;refine wpStages_cons ?_;simp only [List.filterMap_cons,List.filterMap_nil,List.getElem?_toArray,List.getElem?_cons_zero,List.getElem?_cons_succ]
   show wpQuiet _ _ _ _ [_,_,_,_,_,_,_,_,_,_,_] _
   repeat (go_big_quiet_step (fail))
   refine wpQuiet_nil ⟨_,rfl,fun K hK=>?_⟩;go_wp2_with fail;refine (iArith_any ho q9 q9' HZ.out _).mono ?_;rintro e w1 ⟨rfl,rfl⟩;go_wp2_with fail;refine hK _ _ (.inr (fun k _ hk=>Ext.block X_ (by first|omega|(simp;omega)))) ?_;clear hK K;refine wpStages_cons ?_;simp only [List.filterMap_cons,List.filterMap_nil,List.getElem?_toArray,List.getElem?_cons_zero,List.getElem?_cons_succ]
   show wpQuiet _ _ _ _ [_] _
   try simp only [Act.put,List.setIfInBounds_toArray,List.set_cons_succ,List.set_cons_zero]
   repeat (go_big_quiet_step (fail))
   refine wpQuiet_nil ⟨_,rfl,fun K hK=>?_⟩;go_wp2_with fail;refine hK _ _ (.inl (by trivial)) (wpStages_nil ?_);clear hK K;go_wp2;go_roundw
   case rel=>exact ⟨k+1,by omega,by go_num,H2.out.drew,by simpa using hb0,H1.out.drew⟩
   case measure=>simp [intOf];omega
  ·go_wp2
   go_ret
   obtain rfl:k=ys.length:=by omega
   have hown':OwnInts w.heap.size wr (.slice (some ⟨w.heap.size,0,none⟩) ys.length ys.length) zs:=⟨by rw [<-hzl,fillTo_all] at hown;rw [<-hzl];exact hown,HZ9.out⟩
   exact ⟨_,rfl,hown',hx⟩
def dAt (n k:Nat) (rows:Bool):Nat:=if rows then k / n else k % n
def dStep (n:Nat) (rows:Bool):Nat:=if rows then n else 1
def dVal (xs:List Int) (n:Nat) (rows:Bool) (k:Nat):Int:=
 if n=1 then 0 else if dAt n k rows<n - 1 then satI (xs.getD (k+dStep n rows) 0 - xs.getD k 0) else satI (xs.getD k 0 - xs.getD (k - dStep n rows) 0)
def diffs (xs:List Int) (n:Nat) (rows:Bool):List Int:=(List.range (n*n)).map (dVal xs n rows)
theorem d_bd {n k:Nat} (h1:1<=n) (h8:n<=8) (hk:k<n*n) (rows:Bool) (h:n≠1) :
  (dAt n k rows<n - 1->k+dStep n rows<n*n)/\(¬dAt n k rows<n - 1->dStep n rows<=k):=by
 unfold dAt dStep
 rcases (show n=2\/n=3\/n=4\/n=5\/n=6\/n=7\/n=8 by omega) with rfl|rfl|rfl|rfl|rfl|rfl|rfl <;> cases rows <;> simp <;> omega
theorem diffs_length (xs:List Int) (n:Nat) (rows:Bool):(diffs xs n rows).length=n*n:=by simp [diffs]
theorem diffs_at (xs:List Int) (n:Nat) (rows:Bool) (k:Nat) (h:k<(diffs xs n rows).length):(diffs xs n rows)[k]=dVal xs n rows k:=by simp [diffs]
theorem dVal_i64 (xs:List Int) (n:Nat) (rows:Bool) (k:Nat):S9 (dVal xs n rows k):=by
 unfold dVal
 split
 ·exact ⟨by decide,by decide⟩
 ·split <;> exact satI_S9 _
theorem getD_at (xs:List Int) (k:Nat) (h:k<xs.length):xs.getD k 0=xs[k]:=by simp [List.getD,h]
theorem iDiffCols_any (lo hi:Nat) (u:Value) (xs:List Int) (n:Nat) (w:World) (hu:Ints lo hi w u xs) (hh:hi<=w.heap.size) (hl:xs.length=n*n) (h1:1<=n) (h8:n<=8) (hx9:∀x∈xs,S9 x) :
  Calls Tryz.prog 301 #[u,n,.bool false] w fun e w'=>∃r,e = .returned r/\OwnInts w.heap.size w' r (diffs xs n false)/\Ext w w':=by
 obtain ⟨i0,hi0,hz0,hz1,hz2⟩:=info_parts info_int;obtain ⟨a,cap,rfl,HU⟩:=hu.open;clear hu;have hm:n*n<=8*8:=Nat.mul_le_mul h8 h8
 obtain ⟨zs,hzs⟩:∃zs,diffs xs n false=zs:=⟨_,rfl⟩
 have hzl:zs.length=n*n:=by rw [<-hzs,diffs_length]
 have hz:∀k (h3:k<zs.length),zs[k]=dVal xs n false k:=fun k h3=>by subst hzs;exact diffs_at _ _ _ _ h3
 have hbd:=fun k (hk:k<n*n)=>d_bd h1 h8 hk false
 have HZ9:=hid (fun z (h:z∈zs)=>(by
  obtain ⟨k,hk,rfl⟩:=List.getElem_of_mem h;rw [hz k hk]
  exact (dVal_i64 _ _ _ _).i64:I64 z))
 rw [hzs];clear hzs
 obtain ⟨m,hmm⟩:∃m,n*n=m:=⟨_,rfl⟩
 rw [hmm] at hl hm hzl hbd;clear hmm;rw [hl];go_enter Tryz.func301,Tryz.ntmps301;go_wp2_with (at_make;refine wpList_make_full _ rfl _ _ 25 rfl w.heap.size 3 i0 (.int .i64 0) 1 Tryz.underlying25 hi0 hz0 hz1 _ _ _ _ m rfl rfl rfl rfl (by rw [hz2];omega) (by unfold maxLen;omega) (Nat.le_refl _) ?_);intro w1 hown hgrow;rw [made_ints,<-hzl,<-fillTo_zero,hzl] at hown;have hx:Ext w w1:=(Ext.refl w).grown hgrow (fun k h=>by cases h);have hb0:w.heap.size<w1.heap.size:=(hown.lt _ rfl).2;clear hgrow hi0 hz0 hz1 hz2;go_wp2
 go_loopw [16] (fun i wr=>∃k:Nat,k<=m/\i = .int .i64 k/\Ext w wr/\w.heap.size<wr.heap.size/\wr.ownsRow w.heap.size 3 1 (.slice (some ⟨w.heap.size,0,none⟩) m m) m ((fillTo zs k).map (Value.int .i64)))
  (fun i _=>m - (intOf i).toNat)
 case atStart=>exact ⟨0,by omega,rfl,hx,hb0,hown⟩
 case round=>
  clear hown hx hb0;obtain ⟨k,hk,rfl,hx,hb0,hown⟩:=hrel
  by_cases hlt:k<m
  ·have hs:=hown.cellAt k (by omega)
   have hf:=hown.frozenAt k;have hz':=hz k (by omega);have hst:=(hown.stored k (.int .i64 (zs[k]'(by omega)))).1;have hx':=hx.setCell (p:=⟨w.heap.size,k,none⟩) (Nat.le_refl _) (.int .i64 (zs[k]'(by omega)))
   obtain ⟨z0,hs'⟩:∃z,wr.cell? ⟨w.heap.size,k,none⟩=some (.int .i64 z):=by
    rw [hs]
    have hl2:k<(fillTo zs k).length:=by rw [fillTo_length _ _ (by omega)];omega
    exact ⟨(fillTo zs k)[k],by simp⟩
   rw [<-List.map_set,fillTo_succ _ _ (by omega)] at hst
   obtain ⟨z,hzz⟩:∃x,zs[k]'(by omega)=x:=⟨_,rfl⟩
   rw [hzz] at hz' hst hx';have zr:=hx.size;have hb:=hbd k hlt
   have hsame:z=0->(fillTo zs k)=fillTo zs (k+1):=fun h0=>by
    have hl2:k<(fillTo zs k).length:=by rw [fillTo_length _ _ (by omega)];omega
    rw [<-fillTo_succ _ _ (by omega),hzz,h0];apply List.ext_getElem?;intro j
    by_cases hj:j=k
    ·subst hj
     rw [List.getElem?_set_self hl2];unfold fillTo;rw [List.getElem?_append_right (by simp;omega),List.getElem?_replicate];rw [if_pos (by simp;omega)]
    ·rw [List.getElem?_set_ne (Ne.symm hj)]
   clear hs hz hzz
   have ht:(k:Int).tmod n=((k % n:Nat):Int):=by rw [Int.tmod_eq_emod_of_nonneg (by omega)];simp
   have htd:(k:Int).tdiv n=((k / n:Nat):Int):=by rw [Int.tdiv_eq_ediv_of_nonneg (by omega)];simp
   have hq1:k % n<n:=Nat.mod_lt _ h1;have hq2:k / n<=k:=Nat.div_le_self _ _;have H1:=hid hst;have H2:=hid hx';clear hst hx'
   by_cases hn:n=1
   ·subst hn
    have h0:z=0:=by rw [hz'];rfl
    rw [hsame h0] at hown;clear hsame h0 hz' hb;have HO:=hid hown;have HX:=hid hx;clear hown hx;go_wp2;go_roundw
    case rel=>exact ⟨k+1,by omega,by go_num,HX.out,hb0,HO.out⟩
    case measure=>simp [intOf];omega
   ·have hb:=hb hn
    unfold dVal dAt dStep at hz';unfold dAt dStep at hb;simp only [if_neg hn,Bool.false_eq_true,if_false,if_true] at hz' hb;clear hsame
    obtain ⟨q,hq⟩:∃q,k % n=q:=⟨_,rfl⟩
    obtain ⟨q',hq'⟩:∃q,k / n=q:=⟨_,rfl⟩
    rw [hq] at hz' hb;rw [hq] at ht hq1;rw [hq'] at htd hq2;clear hq hq'
    by_cases ha:q<n - 1
    ·rw [if_pos ha] at hz'
     have hbb:=hb.1 ha;clear hb hown;obtain ⟨b,off,rfl,hb1,hb2,hc⟩:=HU.at (k:=k) (by omega);obtain ⟨b',off',e',_,_,hc'⟩:=HU.at (k:=k+1) (by omega);simp only [Option.some.injEq,Addr.mk.injEq,and_true] at e';obtain ⟨rfl,rfl⟩:=e';rw [<-hx.cells.1 b _ (by omega)] at hc hc';have g1:=getD_at xs k (by omega);have g2:=getD_at xs (k+1) (by omega);rw [g1,g2] at hz';have q9:=hx9 _ (List.getElem_mem (show k<xs.length by omega));have q9':=hx9 _ (List.getElem_mem (show k+1<xs.length by omega))
     obtain ⟨x,hxx⟩:∃x,xs[k]'(by omega)=x:=⟨_,rfl⟩
     obtain ⟨y,hyy⟩:∃x,xs[k+1]'(by omega)=x:=⟨_,rfl⟩
     rw [hxx] at hc q9 hz';rw [hyy] at hc' q9' hz';have HZ:=hid hz'.symm;obtain ⟨q1,q2⟩:=q9;obtain ⟨q3,q4⟩:=q9'
     have hbw:b<wr.heap.size:=by omega
     clear hxx hyy hz' g1 g2 hx;go_wp2_with fail;refine wp_region_stages [([0,1,2,3,4,5,6,7,8,9,10,11,12],13),([14],15)] 15 wr.heap.size (by kernel_rfl) (by kernel_rfl) ?_;refine wpStages_cons ?_;simp only [List.filterMap_cons,List.filterMap_nil,List.getElem?_toArray,List.getElem?_cons_zero,List.getElem?_cons_succ]
     show wpQuiet _ _ _ _ [_,_,_,_,_,_,_,_,_,_,_,_,_] _
     repeat (go_big_quiet_step (fail))
     refine wpQuiet_nil ⟨_,rfl,fun K hK=>?_⟩;go_wp2_with fail;refine (iSaturate_val HZ.out _).mono ?_;rintro e w1 ⟨rfl,rfl⟩;go_wp2_with fail;refine hK _ _ (.inr (fun k _ hk=>Ext.block X_ (by first|omega|(simp;omega)))) ?_;clear hK K;refine wpStages_cons ?_;simp only [List.filterMap_cons,List.filterMap_nil,List.getElem?_toArray,List.getElem?_cons_zero,List.getElem?_cons_succ]
     show wpQuiet _ _ _ _ [_] _
     try simp only [Act.put,List.setIfInBounds_toArray,List.set_cons_succ,List.set_cons_zero]
     repeat (go_big_quiet_step (fail))
     refine wpQuiet_nil ⟨_,rfl,fun K hK=>?_⟩;go_wp2_with fail;refine hK _ _ (.inl (by trivial)) (wpStages_nil ?_);clear hK K;go_wp2;go_roundw
     case rel=>exact ⟨k+1,by omega,by go_num,H2.out.drew,by simpa using hb0,H1.out.drew⟩
     case measure=>simp [intOf];omega
    ·rw [if_neg ha] at hz'
     have hbb:=hb.2 ha;clear hb hown;obtain ⟨b,off,rfl,hb1,hb2,hc⟩:=HU.at (k:=k) (by omega);obtain ⟨b',off',e',_,_,hc'⟩:=HU.at (k:=k - 1) (by omega);simp only [Option.some.injEq,Addr.mk.injEq,and_true] at e';obtain ⟨rfl,rfl⟩:=e';rw [<-hx.cells.1 b _ (by omega)] at hc hc';have g1:=getD_at xs k (by omega);have g2:=getD_at xs (k - 1) (by omega);rw [g1,g2] at hz';have q9:=hx9 _ (List.getElem_mem (show k<xs.length by omega));have q9':=hx9 _ (List.getElem_mem (show k - 1<xs.length by omega))
     obtain ⟨x,hxx⟩:∃x,xs[k]'(by omega)=x:=⟨_,rfl⟩
     obtain ⟨y,hyy⟩:∃x,xs[k - 1]'(by omega)=x:=⟨_,rfl⟩
     rw [hxx] at hc q9 hz';rw [hyy] at hc' q9' hz';have HZ:=hid hz'.symm;obtain ⟨q1,q2⟩:=q9;obtain ⟨q3,q4⟩:=q9'
     have hbw:b<wr.heap.size:=by omega
     clear hxx hyy hz' g1 g2 hx;go_wp2_with fail;refine wp_region_stages [([0,1,2,3,4,5,6,7,8,9,10,11,12],13),([14],15)] 15 wr.heap.size (by kernel_rfl) (by kernel_rfl) ?_;refine wpStages_cons ?_;simp only [List.filterMap_cons,List.filterMap_nil,List.getElem?_toArray,List.getElem?_cons_zero,List.getElem?_cons_succ]
     show wpQuiet _ _ _ _ [_,_,_,_,_,_,_,_,_,_,_,_,_] _
     repeat (go_big_quiet_step (fail))
     refine wpQuiet_nil ⟨_,rfl,fun K hK=>?_⟩;go_wp2_with fail;refine (iSaturate_val HZ.out _).mono ?_;rintro e w1 ⟨rfl,rfl⟩;go_wp2_with fail;refine hK _ _ (.inr (fun k _ hk=>Ext.block X_ (by first|omega|(simp;omega)))) ?_;clear hK K;refine wpStages_cons ?_;simp only [List.filterMap_cons,List.filterMap_nil,List.getElem?_toArray,List.getElem?_cons_zero,List.getElem?_cons_succ]
     show wpQuiet _ _ _ _ [_] _
     try simp only [Act.put,List.setIfInBounds_toArray,List.set_cons_succ,List.set_cons_zero]
     repeat (go_big_quiet_step (fail))
     refine wpQuiet_nil ⟨_,rfl,fun K hK=>?_⟩;go_wp2_with fail;refine hK _ _ (.inl (by trivial)) (wpStages_nil ?_);clear hK K;go_wp2;go_roundw
     case rel=>exact ⟨k+1,by omega,by go_num,H2.out.drew,by simpa using hb0,H1.out.drew⟩
     case measure=>simp [intOf];omega
  ·go_wp2
   go_ret
   obtain rfl:k=m:=by omega
   have hown':OwnInts w.heap.size wr (.slice (some ⟨w.heap.size,0,none⟩) k k) zs:=⟨by rw [<-hzl,fillTo_all] at hown;rw [<-hzl];exact hown,HZ9.out⟩
   exact ⟨_,rfl,hown',hx⟩
theorem iDiffRows_any (lo hi:Nat) (u:Value) (xs:List Int) (n:Nat) (w:World) (hu:Ints lo hi w u xs) (hh:hi<=w.heap.size) (hl:xs.length=n*n) (h1:1<=n) (h8:n<=8) (hx9:∀x∈xs,S9 x) :
  Calls Tryz.prog 301 #[u,n,.bool true] w fun e w'=>∃r,e = .returned r/\OwnInts w.heap.size w' r (diffs xs n true)/\Ext w w':=by
 obtain ⟨i0,hi0,hz0,hz1,hz2⟩:=info_parts info_int;obtain ⟨a,cap,rfl,HU⟩:=hu.open;clear hu;have hm:n*n<=8*8:=Nat.mul_le_mul h8 h8
 obtain ⟨zs,hzs⟩:∃zs,diffs xs n true=zs:=⟨_,rfl⟩
 have hzl:zs.length=n*n:=by rw [<-hzs,diffs_length]
 have hz:∀k (h3:k<zs.length),zs[k]=dVal xs n true k:=fun k h3=>by subst hzs;exact diffs_at _ _ _ _ h3
 have hbd:=fun k (hk:k<n*n)=>d_bd h1 h8 hk true
 have HZ9:=hid (fun z (h:z∈zs)=>(by
  obtain ⟨k,hk,rfl⟩:=List.getElem_of_mem h;rw [hz k hk]
  exact (dVal_i64 _ _ _ _).i64:I64 z))
 rw [hzs];clear hzs
 obtain ⟨m,hmm⟩:∃m,n*n=m:=⟨_,rfl⟩
 rw [hmm] at hl hm hzl hbd;clear hmm;rw [hl];go_enter Tryz.func301,Tryz.ntmps301;go_wp2_with (at_make;refine wpList_make_full _ rfl _ _ 25 rfl w.heap.size 3 i0 (.int .i64 0) 1 Tryz.underlying25 hi0 hz0 hz1 _ _ _ _ m rfl rfl rfl rfl (by rw [hz2];omega) (by unfold maxLen;omega) (Nat.le_refl _) ?_);intro w1 hown hgrow;rw [made_ints,<-hzl,<-fillTo_zero,hzl] at hown;have hx:Ext w w1:=(Ext.refl w).grown hgrow (fun k h=>by cases h);have hb0:w.heap.size<w1.heap.size:=(hown.lt _ rfl).2;clear hgrow hi0 hz0 hz1 hz2;go_wp2
 go_loopw [16] (fun i wr=>∃k:Nat,k<=m/\i = .int .i64 k/\Ext w wr/\w.heap.size<wr.heap.size/\wr.ownsRow w.heap.size 3 1 (.slice (some ⟨w.heap.size,0,none⟩) m m) m ((fillTo zs k).map (Value.int .i64)))
  (fun i _=>m - (intOf i).toNat)
 case atStart=>exact ⟨0,by omega,rfl,hx,hb0,hown⟩
 case round=>
  clear hown hx hb0;obtain ⟨k,hk,rfl,hx,hb0,hown⟩:=hrel
  by_cases hlt:k<m
  ·have hs:=hown.cellAt k (by omega)
   have hf:=hown.frozenAt k;have hz':=hz k (by omega);have hst:=(hown.stored k (.int .i64 (zs[k]'(by omega)))).1;have hx':=hx.setCell (p:=⟨w.heap.size,k,none⟩) (Nat.le_refl _) (.int .i64 (zs[k]'(by omega)))
   obtain ⟨z0,hs'⟩:∃z,wr.cell? ⟨w.heap.size,k,none⟩=some (.int .i64 z):=by
    rw [hs]
    have hl2:k<(fillTo zs k).length:=by rw [fillTo_length _ _ (by omega)];omega
    exact ⟨(fillTo zs k)[k],by simp⟩
   rw [<-List.map_set,fillTo_succ _ _ (by omega)] at hst
   obtain ⟨z,hzz⟩:∃x,zs[k]'(by omega)=x:=⟨_,rfl⟩
   rw [hzz] at hz' hst hx';have zr:=hx.size;have hb:=hbd k hlt
   have hsame:z=0->(fillTo zs k)=fillTo zs (k+1):=fun h0=>by
    have hl2:k<(fillTo zs k).length:=by rw [fillTo_length _ _ (by omega)];omega
    rw [<-fillTo_succ _ _ (by omega),hzz,h0];apply List.ext_getElem?;intro j
    by_cases hj:j=k
    ·subst hj
     rw [List.getElem?_set_self hl2];unfold fillTo;rw [List.getElem?_append_right (by simp;omega),List.getElem?_replicate];rw [if_pos (by simp;omega)]
    ·rw [List.getElem?_set_ne (Ne.symm hj)]
   clear hs hz hzz
   have ht:(k:Int).tmod n=((k % n:Nat):Int):=by rw [Int.tmod_eq_emod_of_nonneg (by omega)];simp
   have htd:(k:Int).tdiv n=((k / n:Nat):Int):=by rw [Int.tdiv_eq_ediv_of_nonneg (by omega)];simp
   have hq1:k % n<n:=Nat.mod_lt _ h1;have hq2:k / n<=k:=Nat.div_le_self _ _;have H1:=hid hst;have H2:=hid hx';clear hst hx'
   by_cases hn:n=1
   ·subst hn
    have h0:z=0:=by rw [hz'];rfl
    rw [hsame h0] at hown;clear hsame h0 hz' hb;have HO:=hid hown;have HX:=hid hx;clear hown hx;go_wp2;go_roundw
    case rel=>exact ⟨k+1,by omega,by go_num,HX.out,hb0,HO.out⟩
    case measure=>simp [intOf];omega
   ·have hb:=hb hn
    unfold dVal dAt dStep at hz';unfold dAt dStep at hb;simp only [if_neg hn,Bool.false_eq_true,if_false,if_true] at hz' hb;clear hsame
    obtain ⟨q,hq⟩:∃q,k / n=q:=⟨_,rfl⟩
    obtain ⟨q',hq'⟩:∃q,k % n=q:=⟨_,rfl⟩
    rw [hq] at hz' hb;rw [hq'] at ht hq1;rw [hq] at htd hq2;clear hq hq'
    by_cases ha:q<n - 1
    ·rw [if_pos ha] at hz'
     have hbb:=hb.1 ha;clear hb hown;obtain ⟨b,off,rfl,hb1,hb2,hc⟩:=HU.at (k:=k) (by omega);obtain ⟨b',off',e',_,_,hc'⟩:=HU.at (k:=k+n) (by omega);simp only [Option.some.injEq,Addr.mk.injEq,and_true] at e';obtain ⟨rfl,rfl⟩:=e';rw [<-hx.cells.1 b _ (by omega)] at hc hc';have g1:=getD_at xs k (by omega);have g2:=getD_at xs (k+n) (by omega);rw [g1,g2] at hz';have q9:=hx9 _ (List.getElem_mem (show k<xs.length by omega));have q9':=hx9 _ (List.getElem_mem (show k+n<xs.length by omega))
     obtain ⟨x,hxx⟩:∃x,xs[k]'(by omega)=x:=⟨_,rfl⟩
     obtain ⟨y,hyy⟩:∃x,xs[k+n]'(by omega)=x:=⟨_,rfl⟩
     rw [hxx] at hc q9 hz';rw [hyy] at hc' q9' hz';have HZ:=hid hz'.symm;obtain ⟨q1,q2⟩:=q9;obtain ⟨q3,q4⟩:=q9'
     have hbw:b<wr.heap.size:=by omega
     clear hxx hyy hz' g1 g2 hx;go_wp2_with fail;refine wp_region_stages [([0,1,2,3,4,5,6,7,8,9,10,11,12],13),([14],15)] 15 wr.heap.size (by kernel_rfl) (by kernel_rfl) ?_;refine wpStages_cons ?_;simp only [List.filterMap_cons,List.filterMap_nil,List.getElem?_toArray,List.getElem?_cons_zero,List.getElem?_cons_succ]
     show wpQuiet _ _ _ _ [_,_,_,_,_,_,_,_,_,_,_,_,_] _
     repeat (go_big_quiet_step (fail))
     refine wpQuiet_nil ⟨_,rfl,fun K hK=>?_⟩;go_wp2_with fail;refine (iSaturate_val HZ.out _).mono ?_;rintro e w1 ⟨rfl,rfl⟩;go_wp2_with fail;refine hK _ _ (.inr (fun k _ hk=>Ext.block X_ (by first|omega|(simp;omega)))) ?_;clear hK K;refine wpStages_cons ?_;simp only [List.filterMap_cons,List.filterMap_nil,List.getElem?_toArray,List.getElem?_cons_zero,List.getElem?_cons_succ]
     show wpQuiet _ _ _ _ [_] _
     try simp only [Act.put,List.setIfInBounds_toArray,List.set_cons_succ,List.set_cons_zero]
     repeat (go_big_quiet_step (fail))
     refine wpQuiet_nil ⟨_,rfl,fun K hK=>?_⟩;go_wp2_with fail;refine hK _ _ (.inl (by trivial)) (wpStages_nil ?_);clear hK K;go_wp2;go_roundw
     case rel=>exact ⟨k+1,by omega,by go_num,H2.out.drew,by simpa using hb0,H1.out.drew⟩
     case measure=>simp [intOf];omega
    ·rw [if_neg ha] at hz'
     have hbb:=hb.2 ha;clear hb hown;obtain ⟨b,off,rfl,hb1,hb2,hc⟩:=HU.at (k:=k) (by omega);obtain ⟨b',off',e',_,_,hc'⟩:=HU.at (k:=k - n) (by omega);simp only [Option.some.injEq,Addr.mk.injEq,and_true] at e';obtain ⟨rfl,rfl⟩:=e';rw [<-hx.cells.1 b _ (by omega)] at hc hc';have g1:=getD_at xs k (by omega);have g2:=getD_at xs (k - n) (by omega);rw [g1,g2] at hz';have q9:=hx9 _ (List.getElem_mem (show k<xs.length by omega));have q9':=hx9 _ (List.getElem_mem (show k - n<xs.length by omega))
     obtain ⟨x,hxx⟩:∃x,xs[k]'(by omega)=x:=⟨_,rfl⟩
     obtain ⟨y,hyy⟩:∃x,xs[k - n]'(by omega)=x:=⟨_,rfl⟩
     rw [hxx] at hc q9 hz';rw [hyy] at hc' q9' hz';have HZ:=hid hz'.symm;obtain ⟨q1,q2⟩:=q9;obtain ⟨q3,q4⟩:=q9'
     have hbw:b<wr.heap.size:=by omega
     clear hxx hyy hz' g1 g2 hx;go_wp2_with fail;refine wp_region_stages [([0,1,2,3,4,5,6,7,8,9,10,11,12],13),([14],15)] 15 wr.heap.size (by kernel_rfl) (by kernel_rfl) ?_;refine wpStages_cons ?_;simp only [List.filterMap_cons,List.filterMap_nil,List.getElem?_toArray,List.getElem?_cons_zero,List.getElem?_cons_succ]
     show wpQuiet _ _ _ _ [_,_,_,_,_,_,_,_,_,_,_,_,_] _
     repeat (go_big_quiet_step (fail))
     refine wpQuiet_nil ⟨_,rfl,fun K hK=>?_⟩;go_wp2_with fail;refine (iSaturate_val HZ.out _).mono ?_;rintro e w1 ⟨rfl,rfl⟩;go_wp2_with fail;refine hK _ _ (.inr (fun k _ hk=>Ext.block X_ (by first|omega|(simp;omega)))) ?_;clear hK K;refine wpStages_cons ?_;simp only [List.filterMap_cons,List.filterMap_nil,List.getElem?_toArray,List.getElem?_cons_zero,List.getElem?_cons_succ]
     show wpQuiet _ _ _ _ [_] _
     try simp only [Act.put,List.setIfInBounds_toArray,List.set_cons_succ,List.set_cons_zero]
     repeat (go_big_quiet_step (fail))
     refine wpQuiet_nil ⟨_,rfl,fun K hK=>?_⟩;go_wp2_with fail;refine hK _ _ (.inl (by trivial)) (wpStages_nil ?_);clear hK K;go_wp2;go_roundw
     case rel=>exact ⟨k+1,by omega,by go_num,H2.out.drew,by simpa using hb0,H1.out.drew⟩
     case measure=>simp [intOf];omega
  ·go_wp2
   go_ret
   obtain rfl:k=m:=by omega
   have hown':OwnInts w.heap.size wr (.slice (some ⟨w.heap.size,0,none⟩) k k) zs:=⟨by rw [<-hzl,fillTo_all] at hown;rw [<-hzl];exact hown,HZ9.out⟩
   exact ⟨_,rfl,hown',hx⟩
def arityL (s:List UInt8):Int:=
 if s==[97,98,115] then 1 else if s==[102,108,111,111,114] then 1 else if s==[100,117] then 1 else if s==[100,118] then 1
 else if s==[109,105,110] then 2 else if s==[109,97,120] then 2 else if s==[115,116,101,112] then 2 else if s==[110,111,105,115,101] then 2 else if s==[116,101,120] then 2
 else if s==[99,108,97,109,112] then 3 else if s==[109,105,120] then 3
 else -1
def arity (s:ByteArray):Int:=arityL s.toList
theorem iArity_any (s:ByteArray) (w:World):Calls Tryz.prog 274 #[.string s] w fun e w'=>e = .returned (.int .i64 (arity s))/\w=w':=by
 go_enter Tryz.func274,Tryz.ntmps274;go_wp2
 all_goals go_ret
 all_goals first|(exfalso;simp_all;done)|(simp [arity,arityL, *];done)|simp_all [arity,arityL]
theorem sArity_any (s:ByteArray) (w:World):Calls Tryz.prog 181 #[.string s] w fun e w'=>e = .returned (.int .i64 (arity s))/\w=w':=by
 go_enter Tryz.func181,Tryz.ntmps181;go_wp2
 all_goals go_ret
 all_goals first|(exfalso;simp_all;done)|(simp [arity,arityL, *];done)|simp_all [arity,arityL]
def isVar (s:ByteArray):Bool:=s.toList==[117]||s.toList==[118]||s.toList==[120]||s.toList==[121]||s.toList==[122]||s.toList==[116]
theorem iIsVariable_any (s:ByteArray) (w:World):Calls Tryz.prog 218 #[.string s] w fun e w'=>e = .returned (.bool (isVar s))/\w=w':=by
 go_enter Tryz.func218,Tryz.ntmps218;go_wp2
 all_goals go_ret
 all_goals first|(exfalso;simp_all;done)|(simp [isVar, *];done)|simp_all [isVar]
def varNames:List (List UInt8):=[[117],[118],[120],[121],[122],[116]]
def varObj:Obj:=.cells #[.string ⟨#[117]⟩,.string ⟨#[118]⟩,.string ⟨#[120]⟩,.string ⟨#[121]⟩,.string ⟨#[122]⟩,.string ⟨#[116]⟩] 9
theorem sIsVariable_any (s:ByteArray) (w:World):Calls Tryz.prog 182 #[.string s] w fun e w'=>e = .returned (.bool (isVar s))/\Ext w w':=by
 go_enter Tryz.func182,Tryz.ntmps182;go_wp2
 go_loopw [7] (fun i wr=>∃k:Nat,k<=6/\i = .int .i64 k/\wr=w.alloc varObj/\∀j x,j<k->varNames[j]?=some x->(s.toList==x)=false) (fun i _=>6 - (intOf i).toNat)
 case atStart=>exact ⟨0,by omega,rfl,rfl,fun j x h=>by omega⟩
 case round=>
  obtain ⟨k,hk,rfl,rfl,hno⟩:=hrel
  by_cases hlt:k<6
  ·obtain ⟨x,hx⟩:∃x,varNames[k]?=some x:=⟨varNames[k]'(by show k<6;exact hlt),by simp⟩
   obtain ⟨y,hy,hyx⟩:∃y:ByteArray,(w.alloc varObj).cell? ⟨w.heap.size,k,none⟩=some (.string y)/\y.toList=x:=by
    rcases (show k=0\/k=1\/k=2\/k=3\/k=4\/k=5 by omega) with rfl|rfl|rfl|rfl|rfl|rfl <;> (simp [varNames] at hx;subst hx;first|exact ⟨⟨#[117]⟩,by simp [varObj,go_sem];done,(by first|rfl|decide|decide +kernel)⟩|exact ⟨⟨#[118]⟩,by simp [varObj,go_sem];done,(by first|rfl|decide|decide +kernel)⟩|exact ⟨⟨#[120]⟩,by simp [varObj,go_sem];done,(by first|rfl|decide|decide +kernel)⟩|exact ⟨⟨#[121]⟩,by simp [varObj,go_sem];done,(by first|rfl|decide|decide +kernel)⟩|exact ⟨⟨#[122]⟩,by simp [varObj,go_sem];done,(by first|rfl|decide|decide +kernel)⟩|exact ⟨⟨#[116]⟩,by simp [varObj,go_sem];done,(by first|rfl|decide|decide +kernel)⟩)
   by_cases he:(y.toList==s.toList)=true
   ·have hv:isVar s=true:=by
     have:s.toList=x:=by rw [<-hyx];exact (eq_of_beq he).symm
     rcases (show k=0\/k=1\/k=2\/k=3\/k=4\/k=5 by omega) with rfl|rfl|rfl|rfl|rfl|rfl <;> (simp [varNames] at hx;simp [isVar,this,<-hx])
    have HV:=hid hv;clear hno hv hx hyx;go_wp2;go_ret;exact ⟨by rw [HV.out];rfl,X_⟩
   ·have hno':∀j z,j<k+1->varNames[j]?=some z->(s.toList==z)=false:=fun j z hj hz=>by
     by_cases hjk:j=k
     ·subst hjk
      rw [hx] at hz;injection hz with hz;subst hz;rw [<-hyx];rw [Bool.eq_false_iff];intro h;exact he (by rw [eq_of_beq h];simp)
     ·exact hno j z (by omega) hz
    have HN:=hid hno';clear hno hno' hx hyx;go_wp2;go_roundw
    case rel=>exact ⟨k+1,by omega,by go_num,by trivial,HN.out⟩
    case measure=>simp [intOf];omega
  ·obtain rfl:k=6:=by omega
   have hv:isVar s=false:=by
    have h0:=hno 0 _ (by decide) rfl;have h1:=hno 1 _ (by decide) rfl;have h2:=hno 2 _ (by decide) rfl;have h3:=hno 3 _ (by decide) rfl;have h4:=hno 4 _ (by decide) rfl;have h5:=hno 5 _ (by decide) rfl;simp only [isVar,h0,h1,h2,h3,h4,h5,Bool.or_self]
   have HV:=hid hv;clear hno hv;go_wp2;go_ret;exact ⟨by rw [HV.out];rfl,X_⟩
def varL (l:List UInt8) (f:Nat->Int) (tm:Int) (q:Nat):Int:=
 if l==[117] then f (q*5) else if l==[118] then f (q*5+1) else if l==[120] then f (q*5+2) else if l==[121] then f (q*5+3) else if l==[122] then f (q*5+4) else tm
structure Grd where
 n:Int
 m:Nat
 f:Nat->Int
 tm:Int
 t:Tex
def Grd.R (g:Grd) (lo hi:Nat) (w:World) (v:Value):Prop:=∃pu tu,v = .agg #[g.n,pu,g.tm,g.t.log,tu]/\I64 g.n/\I64 g.tm/\I64 g.t.log/\Flats 5 lo hi w pu g.m g.f/\Ints lo hi w tu g.t.px
theorem Grd.R.same {g:Grd} {lo hi:Nat} {w w':World} {v:Value} (h:g.R lo hi w v) (s:Same lo hi w w'):g.R lo hi w' v:=by
 obtain ⟨pu,tu,h1,h2,h3,h4,h5,h6⟩:=h;exact ⟨pu,tu,h1,h2,h3,h4,h5.same s,h6.same s⟩
theorem Grd.R.ext {g:Grd} {lo hi:Nat} {w w':World} {v:Value} (h:g.R lo hi w v) (hh:hi<=w.heap.size) (e:Ext w w'):g.R lo hi w' v:=h.same (e.same hh)
theorem Grd.R.wide {g:Grd} {lo hi lo' hi':Nat} {w:World} {v:Value} (h:g.R lo hi w v) (h1:lo'<=lo) (h2:hi<=hi'):g.R lo' hi' w v:=by
 obtain ⟨pu,tu,g1,g2,g3,g4,g5,g6⟩:=h;exact ⟨pu,tu,g1,g2,g3,g4,g5.wide h1 h2,g6.wide h1 h2⟩
def ptL (f:Nat->Int) (k:Nat):List Int:=[f (k*5),f (k*5+1),f (k*5+2),f (k*5+3),f (k*5+4)]
def ptB (f:Nat->Int) (k:Nat):Bool:=(ptL f k).all fun x=>inB x (-1000000) 1000000
theorem ptB_all (f:Nat->Int) (k:Nat):((ptL f k).all fun x=>inB x (-1000000) 1000000)=ptB f k:=by unfold ptB;with_reducible rfl
def Grd.okB (g:Grd):Bool:=inB g.n 1 8&&decide ((g.m:Int)=g.n*g.n)&&inB g.tm 0 256&&g.t.okB&&(List.range g.m).all (ptB g.f)
theorem sq_bd {n:Int} (h:inB n 1 8=true):1<=n*n/\n*n<=64:=by
 have h:=inB_iff.1 h
 rcases (show n=1\/n=2\/n=3\/n=4\/n=5\/n=6\/n=7\/n=8 by omega) with rfl|rfl|rfl|rfl|rfl|rfl|rfl|rfl <;> decide
theorem rng_all {p:Nat->Bool} {m:Nat} (h:∀i,i<m->p i=true):(List.range m).all p=true:=List.all_eq_true.2 fun i hi=>h i (List.mem_range.1 hi)
theorem rng_no {p:Nat->Bool} {m i:Nat} (hi:i<m) (h:p i=false):(List.range m).all p=false:=by
 rw [List.all_eq_false];exact ⟨i,List.mem_range.2 hi,by simp [h]⟩
theorem Ints.lit5At (w:World) {q:Nat} (hq:w.heap.size=q) {x:List Int} {a b c d e:Int} (hx:x=[a,b,c,d,e]) (hi:∀y∈x,I64 y):Ints q (q+1) (w.alloc (.cells #[a,b,c,d,e] 3)) (.slice (some ⟨q,0,none⟩) 5 5) x:=by
 subst hx hq;refine ⟨_,5,rfl,Nat.le_refl _,by unfold maxLen;omega,fun i y hy=>⟨hi y (List.mem_of_getElem? hy),w.heap.size,0,rfl,Nat.le_refl _,by omega,?_⟩⟩;have hl:=(List.getElem?_eq_some_iff.1 hy).1;simp only [List.length_cons,List.length_nil] at hl
 rcases (show i=0\/i=1\/i=2\/i=3\/i=4 by omega) with rfl|rfl|rfl|rfl|rfl <;> (simp at hy;subst hy;simp [go_sem])
theorem allWithin_val {xs:List Int} {lo hi:Int} {r:Bool} (h:(xs.all fun x=>inB x lo hi)=r) (l0 h0:Nat) (u:Value) (w:World) (hu:Ints l0 h0 w u xs) :
  Calls Tryz.prog 60 #[u,lo,hi] w fun e w'=>e = .returned (.bool r)/\w=w':=h▸allWithin_any l0 h0 u xs lo hi w hu
theorem iIsValidGrid_any (lo hi:Nat) (v:Value) (g:Grd) (w:World) (hv:g.R lo hi w v) (hh:hi<=w.heap.size) :
  Calls Tryz.prog 159 #[v] w fun e w'=>e = .returned (.bool g.okB)/\Ext w w':=by
 obtain ⟨pu,tu,rfl,hn,ht,hl,hp,hu⟩:=hv;obtain ⟨a,cap,rfl,HP⟩:=hp.open;obtain ⟨a',cap',rfl,HU⟩:=hu.open;have l1:=HP.le;have l2:=HP.cap;have HT:=hid (show TexR lo hi w (.agg #[g.t.log,.slice a' g.t.px.length cap']) g.t from ⟨_,rfl,hl,hu⟩);clear hp hu hn ht hl
 cases h1:inB g.n 1 8
 ·have e:g.okB=false:=by unfold Grd.okB;rw [h1];rfl
  rw [e];go_enter Tryz.func159,Tryz.ntmps159;go_wp2_with (go_at_call 54;refine (within_val h1 _).mono ?_;rintro e w1 ⟨rfl,rfl⟩);go_ret;exact ⟨rfl,X_⟩
 have hb:=sq_bd h1
 obtain ⟨P,hP⟩:∃P,g.n*g.n=P:=⟨_,rfl⟩
 rw [hP] at hb
 by_cases h2:(g.m:Int)=P
 case neg=>
  have e2:((g.m:Int) != P)=true:=by simp [h2]
  have e:g.okB=false:=by unfold Grd.okB;rw [hP,decide_eq_false h2];simp
  rw [e];clear h2 e;go_enter Tryz.func159,Tryz.ntmps159;go_wp2_with (go_at_call 54;refine (within_val h1 _).mono ?_;rintro e w1 ⟨rfl,rfl⟩);go_ret;exact ⟨rfl,X_⟩
 have e2:((g.m:Int) != P)=false:=by simp [h2]
 have H2:=hid h2
 have hm:g.m<=64:=by omega
 clear h2
 cases h3:inB g.tm 0 256
 ·have e:g.okB=false:=by simp only [Grd.okB,h3,Bool.and_false,Bool.false_and]
  rw [e];go_enter Tryz.func159,Tryz.ntmps159;go_wp2_with (go_at_call 54;(first|with_reducible refine (within_val h1 _).mono ?_|with_reducible refine (within_val h3 _).mono ?_);rintro e w1 ⟨rfl,rfl⟩);go_ret;exact ⟨rfl,X_⟩
 cases h4:g.t.okB
 ·have e:g.okB=false:=by simp only [Grd.okB,h4,Bool.and_false,Bool.false_and]
  rw [e];go_enter Tryz.func159,Tryz.ntmps159;go_wp2_with (first|(go_at_call 54;(first|with_reducible refine (within_val h1 _).mono ?_|with_reducible refine (within_val h3 _).mono ?_);rintro e w1 ⟨rfl,rfl⟩)|(go_at_call 97;refine (iIsValidTexture_val h4 lo hi _ _ (HT.out.ext hh X_) (by simp;omega)).mono ?_;rintro e w1 ⟨rfl,x1⟩));go_ret;exact ⟨rfl,Ext.trans X_ x1⟩
 have hOK:g.okB=(List.range g.m).all (ptB g.f):=by simp only [Grd.okB,h1,hP,decide_eq_true H2.out,h3,h4,Bool.true_and]
 rw [hOK];clear hOK;go_enter Tryz.func159,Tryz.ntmps159;go_wp2_with (first|(go_at_call 54;(first|with_reducible refine (within_val h1 _).mono ?_|with_reducible refine (within_val h3 _).mono ?_);rintro e w1 ⟨rfl,rfl⟩)|(go_at_call 97;refine (iIsValidTexture_val h4 lo hi _ _ (HT.out.ext hh X_) (by simp;omega)).mono ?_;rintro e w1 ⟨rfl,x1⟩;obtain ⟨d0,d1⟩:w.heap.size<w1.heap.size/\w1.cell? ⟨w.heap.size,1,none⟩=some (.slice a g.m cap):=⟨by have:=x1.size;simp at this;omega,by rw [x1.cells.1 _ _ (by simp)];simp [go_sem]⟩));have X1:=hid (Ext.trans X_ x1:Ext w w1);clear x1
 go_loopw [35] (fun i wr=>∃k:Nat,k<=g.m/\i = .int .i64 k/\(∀j,j<k->ptB g.f j=true)/\Ext w wr) (fun i _=>g.m - (intOf i).toNat)
 case atStart=>exact ⟨0,by omega,rfl,fun j h=>by omega,X1.out⟩
 case round=>
  obtain ⟨k,hk,rfl,hall,hx⟩:=hrel;have HA:=hid hall;clear hall
  by_cases hlt:k<g.m
  ·obtain ⟨b,off,rfl,hb1,hb2,hc⟩:=HP.at hlt (by decide)
   have c0:=(hx.cells.1 b _ (by omega)).trans (hc 0 (by decide));have c1:=(hx.cells.1 b _ (by omega)).trans (hc 1 (by decide));have c2:=(hx.cells.1 b _ (by omega)).trans (hc 2 (by decide));have c3:=(hx.cells.1 b _ (by omega)).trans (hc 3 (by decide));have c4:=(hx.cells.1 b _ (by omega)).trans (hc 4 (by decide));simp only [Nat.add_zero] at c0;have HX:=hid hx
   have hbw:b<wr.heap.size:=by have:=hx.size;omega
   have h9:∀y∈ptL g.f k,I64 y:=by
    intro y hy;simp only [ptL,List.mem_cons,List.not_mem_nil,or_false] at hy
    rcases hy with rfl|rfl|rfl|rfl|rfl
    ·exact HP.i64 (j:=0) hlt (by decide)
    ·exact HP.i64 (j:=1) hlt (by decide)
    ·exact HP.i64 (j:=2) hlt (by decide)
    ·exact HP.i64 (j:=3) hlt (by decide)
    ·exact HP.i64 (j:=4) hlt (by decide)
   have H9:=hid h9;clear hc hx h9
   obtain ⟨r,hr⟩:∃r,ptB g.f k=r:=⟨_,rfl⟩
   have HR:=hid hr;clear hr;go_wp2_with fail;have hR2:=(ptB_all g.f k).trans HR.out;refine (allWithin_val hR2 (wr.heap.size+1) (wr.heap.size+1+1) _ _ (Ints.lit5At _ (by simp) rfl H9.out)).mono ?_;clear hR2;rintro e w2 ⟨rfl,rfl⟩
   cases r
   ·go_wp2
    go_ret;exact ⟨ret_bool (rng_no hlt HR.out).symm,by have hx:=HX.out;exact S_⟩
   ·go_wp2
    go_roundw
    case rel=>exact ⟨k+1,by omega,by go_num,fun j hj=>by
     by_cases e:j=k
     ·subst e;exact HR.out
     ·exact HA.out j (by omega),by have hx:=HX.out;exact S_⟩
    case measure=>simp [intOf];omega
  ·go_wp2
   go_ret
   obtain rfl:k=g.m:=by omega
   exact ⟨ret_bool (rng_all HA.out).symm,hx⟩
def popsI (op:Int) (s:ByteArray):Int:=if op=4 then 1 else if op=5 then 1 else if op=6 then 2 else if op=7 then arity s else 0
def pushI (op:Int):Int:=if op=4 then 0 else 1
theorem iPops4 (s:ByteArray) (n:Int) (w:World):Calls Tryz.prog 298 #[.agg #[.int .i64 4,.string s,n]] w fun e w'=>e = .returned (.tuple #[.int .i64 1,()])/\Ext w w':=by
 go_enter Tryz.func298,Tryz.ntmps298;go_wp2;exact bodyPost_ret (v:=.tuple #[.int .i64 1,()]) (by simp [results,Tryz.results298,go_sem]) rfl ⟨rfl,S_⟩
theorem iPops5 (s:ByteArray) (n:Int) (w:World):Calls Tryz.prog 298 #[.agg #[.int .i64 5,.string s,n]] w fun e w'=>e = .returned (.tuple #[.int .i64 1,.int .i64 1])/\Ext w w':=by
 go_enter Tryz.func298,Tryz.ntmps298;go_wp2;exact bodyPost_ret (v:=.tuple #[.int .i64 1,.int .i64 1]) (by simp [results,Tryz.results298,go_sem]) rfl ⟨rfl,S_⟩
theorem iPops6 (s:ByteArray) (n:Int) (w:World):Calls Tryz.prog 298 #[.agg #[.int .i64 6,.string s,n]] w fun e w'=>e = .returned (.tuple #[.int .i64 2,.int .i64 1])/\Ext w w':=by
 go_enter Tryz.func298,Tryz.ntmps298;go_wp2;exact bodyPost_ret (v:=.tuple #[.int .i64 2,.int .i64 1]) (by simp [results,Tryz.results298,go_sem]) rfl ⟨rfl,S_⟩
theorem iPops7 (s:ByteArray) (n:Int) (w:World):Calls Tryz.prog 298 #[.agg #[.int .i64 7,.string s,n]] w fun e w'=>e = .returned (.tuple #[(arity s),.int .i64 1])/\Ext w w':=by
 go_enter Tryz.func298,Tryz.ntmps298;go_wp2_with fail;refine (iArity_any s _).mono ?_;rintro e w1 ⟨rfl,rfl⟩;go_wp2;exact bodyPost_ret (v:=.tuple #[(arity s),.int .i64 1]) (by simp [results,Tryz.results298,go_sem]) rfl ⟨rfl,S_⟩
theorem iPopsE (op:Int) (s:ByteArray) (n:Int) (w:World) (h4:op≠4) (h5:op≠5) (h6:op≠6) (h7:op≠7):Calls Tryz.prog 298 #[.agg #[op,.string s,n]] w fun e w'=>e = .returned (.tuple #[(),.int .i64 1])/\Ext w w':=by
 go_enter Tryz.func298,Tryz.ntmps298;go_wp2;exact bodyPost_ret (v:=.tuple #[(),.int .i64 1]) (by simp [results,Tryz.results298,go_sem]) rfl ⟨rfl,S_⟩
theorem iPops_any (op:Int) (s:ByteArray) (n:Int) (w:World):Calls Tryz.prog 298 #[.agg #[op,.string s,n]] w fun e w'=>e = .returned (.tuple #[(popsI op s),(pushI op)])/\Ext w w':=by
 unfold popsI pushI
 by_cases h4:op=4
 ·subst h4;simpa using iPops4 s n w
 by_cases h5:op=5
 ·subst h5;simpa using iPops5 s n w
 by_cases h6:op=6
 ·subst h6;simpa using iPops6 s n w
 by_cases h7:op=7
 ·subst h7;simpa using iPops7 s n w
 simp only [if_neg h4,if_neg h5,if_neg h6,if_neg h7];exact iPopsE op s n w h4 h5 h6 h7
theorem iWf1n (s:ByteArray) (n L:Int) (w:World) (he:(s.toList==[])=false):Calls Tryz.prog 297 #[.agg #[.int .i64 1,.string s,n],L] w fun e w'=>e = .returned (.bool false)/\Ext w w':=by
 go_enter Tryz.func297,Tryz.ntmps297;go_wp2;go_ret;exact ⟨rfl,S_⟩
theorem iWf3n (s:ByteArray) (n L:Int) (w:World) (he:(s.toList==[])=false):Calls Tryz.prog 297 #[.agg #[.int .i64 3,.string s,n],L] w fun e w'=>e = .returned (.bool false)/\Ext w w':=by
 go_enter Tryz.func297,Tryz.ntmps297;go_wp2;go_ret;exact ⟨rfl,S_⟩
theorem iWf4n (s:ByteArray) (n L:Int) (w:World) (he:(s.toList==[])=false):Calls Tryz.prog 297 #[.agg #[.int .i64 4,.string s,n],L] w fun e w'=>e = .returned (.bool false)/\Ext w w':=by
 go_enter Tryz.func297,Tryz.ntmps297;go_wp2;go_ret;exact ⟨rfl,S_⟩
theorem iWf5n (s:ByteArray) (n L:Int) (w:World) (he:(s.toList==[])=false):Calls Tryz.prog 297 #[.agg #[.int .i64 5,.string s,n],L] w fun e w'=>e = .returned (.bool false)/\Ext w w':=by
 go_enter Tryz.func297,Tryz.ntmps297;go_wp2;go_ret;exact ⟨rfl,S_⟩
theorem iWf6n (s:ByteArray) (n L:Int) (w:World) (he:(s.toList==[])=false):Calls Tryz.prog 297 #[.agg #[.int .i64 6,.string s,n],L] w fun e w'=>e = .returned (.bool false)/\Ext w w':=by
 go_enter Tryz.func297,Tryz.ntmps297;go_wp2;go_ret;exact ⟨rfl,S_⟩
theorem iWf1 (s:ByteArray) (n L:Int) (w:World) (he:(s.toList==[])=true):Calls Tryz.prog 297 #[.agg #[.int .i64 1,.string s,n],L] w fun e w'=>e = .returned (.bool true)/\Ext w w':=by
 go_enter Tryz.func297,Tryz.ntmps297;go_wp2;go_ret;exact ⟨rfl,S_⟩
theorem iWf3 (s:ByteArray) (n L:Int) (w:World) (he:(s.toList==[])=true) (h0:0<=L) (h1:L<=2000000):Calls Tryz.prog 297 #[.agg #[.int .i64 3,.string s,n],L] w fun e w'=>e = .returned (.bool (inB n 0 (L - 1)))/\Ext w w':=by
 go_enter Tryz.func297,Tryz.ntmps297;go_wp2_with fail;refine (within_any n 0 (L - 1) _).mono ?_;rintro e w1 ⟨rfl,rfl⟩;go_wp2;go_ret;exact ⟨rfl,S_⟩
theorem iWf4 (s:ByteArray) (n L:Int) (w:World) (he:(s.toList==[])=true) (h0:0<=L) (h1:L<=2000000):Calls Tryz.prog 297 #[.agg #[.int .i64 4,.string s,n],L] w fun e w'=>e = .returned (.bool (inB n 0 (L - 1)))/\Ext w w':=by
 go_enter Tryz.func297,Tryz.ntmps297;go_wp2_with fail;refine (within_any n 0 (L - 1) _).mono ?_;rintro e w1 ⟨rfl,rfl⟩;go_wp2;go_ret;exact ⟨rfl,S_⟩
theorem iWf5 (s:ByteArray) (n L:Int) (w:World) (he:(s.toList==[])=true):Calls Tryz.prog 297 #[.agg #[.int .i64 5,.string s,n],L] w fun e w'=>e = .returned (.bool (decide (n=3)))/\Ext w w':=by
 go_enter Tryz.func297,Tryz.ntmps297;go_wp2;go_ret;exact ⟨rfl,S_⟩
theorem iWf6 (s:ByteArray) (n L:Int) (w:World) (he:(s.toList==[])=true):Calls Tryz.prog 297 #[.agg #[.int .i64 6,.string s,n],L] w fun e w'=>e = .returned (.bool (inB n 4 7))/\Ext w w':=by
 go_enter Tryz.func297,Tryz.ntmps297;go_wp2_with fail;refine (within_any n 4 7 _).mono ?_;rintro e w1 ⟨rfl,rfl⟩;go_wp2;go_ret;exact ⟨rfl,S_⟩
theorem iWf2n (s:ByteArray) (n L:Int) (w:World) (he:isVar s=false):Calls Tryz.prog 297 #[.agg #[.int .i64 2,.string s,n],L] w fun e w'=>e = .returned (.bool false)/\Ext w w':=by
 go_enter Tryz.func297,Tryz.ntmps297;go_wp2_with fail;refine (iIsVariable_any s _).mono ?_;rintro e w1 ⟨rfl,rfl⟩;rw [he];go_wp2;go_ret;exact ⟨rfl,S_⟩
theorem iWf2 (s:ByteArray) (n L:Int) (w:World) (he:isVar s=true):Calls Tryz.prog 297 #[.agg #[.int .i64 2,.string s,n],L] w fun e w'=>e = .returned (.bool (decide (n=0)))/\Ext w w':=by
 go_enter Tryz.func297,Tryz.ntmps297;go_wp2_with fail;refine (iIsVariable_any s _).mono ?_;rintro e w1 ⟨rfl,rfl⟩;rw [he];go_wp2;go_ret;exact ⟨rfl,S_⟩
theorem iWf7 (s:ByteArray) (n L:Int) (w:World) (he:0<=arity s):Calls Tryz.prog 297 #[.agg #[.int .i64 7,.string s,n],L] w fun e w'=>e = .returned (.bool (decide (n=0)))/\Ext w w':=by
 obtain ⟨k,hk⟩:∃k,arity s=k:=⟨_,rfl⟩
 rw [hk] at he;have HA:=hid hk;clear hk;go_enter Tryz.func297,Tryz.ntmps297;go_wp2_with fail;refine (iArity_any s _).mono ?_;rintro e w1 ⟨rfl,rfl⟩;rw [HA.out];go_wp2;go_ret;exact ⟨rfl,S_⟩
theorem iWf7n (s:ByteArray) (n L:Int) (w:World) (he:arity s<0):Calls Tryz.prog 297 #[.agg #[.int .i64 7,.string s,n],L] w fun e w'=>e = .returned (.bool false)/\Ext w w':=by
 obtain ⟨k,hk⟩:∃k,arity s=k:=⟨_,rfl⟩
 rw [hk] at he;have HA:=hid hk;clear hk;go_enter Tryz.func297,Tryz.ntmps297;go_wp2_with fail;refine (iArity_any s _).mono ?_;rintro e w1 ⟨rfl,rfl⟩;rw [HA.out];go_wp2;go_ret;exact ⟨rfl,S_⟩
theorem iWfE (op:Int) (s:ByteArray) (n L:Int) (w:World) (h : ¬(1<=op/\op<=7)):Calls Tryz.prog 297 #[.agg #[op,.string s,n],L] w fun e w'=>e = .returned (.bool false)/\Ext w w':=by
 have h1:op≠1:=by omega
 have h2:op≠2:=by omega
 have h3:op≠3:=by omega
 have h4:op≠4:=by omega
 have h5:op≠5:=by omega
 have h6:op≠6:=by omega
 have h7:op≠7:=by omega
 clear h;go_enter Tryz.func297,Tryz.ntmps297;go_wp2;go_ret;exact ⟨rfl,S_⟩
theorem conc {s:ByteArray} {l:List UInt8} (h:s.toList=l):s=⟨l.toArray⟩:=by
 rw [Lib.toList_data] at h;subst h
 cases s
 simp
def SS (lo hi:Nat) (w:World) (v:Value) (S:List (List Int)):Prop:=
 ∃a cap,v = .slice a S.length cap/\S.length<=cap/\cap<=maxLen/\∀i xs,S[i]?=some xs->∃b off u,a=some ⟨b,off,none⟩/\lo<=b/\b<hi/\w.cell? ⟨b,off+i,none⟩=some u/\Ints lo hi w u xs
theorem SS.same {lo hi:Nat} {w w':World} {v:Value} {S:List (List Int)} (h:SS lo hi w v S) (s:Same lo hi w w'):SS lo hi w' v S:=by
 obtain ⟨a,cap,h1,h2,h3,h4⟩:=h;refine ⟨a,cap,h1,h2,h3,fun i xs hx=>?_⟩;obtain ⟨b,off,u,h6,h7,h8,h9,h10⟩:=h4 i xs hx;exact ⟨b,off,u,h6,h7,h8,by rw [s.cell h7 h8];exact h9,h10.same s⟩
theorem SS.ext {lo hi:Nat} {w w':World} {v:Value} {S:List (List Int)} (h:SS lo hi w v S) (hh:hi<=w.heap.size) (e:Ext w w'):SS lo hi w' v S:=h.same (e.same hh)
structure SSAt (lo hi:Nat) (w:World) (a:Option Addr) (cap:Nat) (S:List (List Int)):Prop where
 le:S.length<=cap
 cap:cap<=9223372036854775807
 cell:∀i xs,S[i]?=some xs->∃b off u,a=some ⟨b,off,none⟩/\lo<=b/\b<hi/\w.cell? ⟨b,off+i,none⟩=some u/\Ints lo hi w u xs
theorem SS.open {lo hi:Nat} {w:World} {v:Value} {S:List (List Int)} (h:SS lo hi w v S):∃a cap,v = .slice a S.length cap/\SSAt lo hi w a cap S:=by
 obtain ⟨a,cap,g1,g2,g3,g4⟩:=h;exact ⟨a,cap,g1,g2,by unfold maxLen at g3;omega,g4⟩
theorem SSAt.shut {lo hi:Nat} {w:World} {a:Option Addr} {cap:Nat} {S:List (List Int)} (h:SSAt lo hi w a cap S):SS lo hi w (.slice a S.length cap) S:=
 ⟨a,cap,rfl,h.le,by unfold maxLen;have:=h.cap;omega,h.cell⟩
theorem SSAt.at {lo hi:Nat} {w:World} {a:Option Addr} {cap:Nat} {S:List (List Int)} (h:SSAt lo hi w a cap S) {k:Nat} (hk:k<S.length) {wr:World} (hx:Ext w wr) (hh:hi<=w.heap.size) :
  ∃b off u,a=some ⟨b,off,none⟩/\b<w.heap.size/\b<wr.heap.size/\wr.cell? ⟨b,off+k,none⟩=some u/\Ints lo hi wr u S[k]:=by
 obtain ⟨b,off,u,e,h1,h2,c0,hu⟩:=h.cell k S[k] (by simp [hk]);have hz:=hx.size;exact ⟨b,off,u,e,by omega,by omega,(hx.cells.1 b _ (by omega)).trans c0,hu.ext hh hx⟩
theorem RowI.ownInts {w:World} {b n:Nat} {f:Nat->Int} {lo:Nat} (h:RowI w b 3 n f) (hb:lo<=b) (hm:n<=maxLen) (hi:∀i,i<n->I64 (f i)):OwnInts lo w (.slice (some ⟨b,0,none⟩) n n) ((List.range n).map f):=by
 obtain ⟨c,h1,h2,h3⟩:=h
 have hl:((List.range n).map f).length=n:=by simp
 refine ⟨⟨by simp,.inr ⟨b,n,c,by rw [hl],hb,h1,by rw [hl];exact Nat.le_refl _,hm,by rw [h2,Nat.mul_one],?_⟩⟩,fun x hx=>?_⟩
 ·apply List.ext_getElem?
  intro i;rw [List.getElem?_take,hl,Nat.mul_one,List.getElem?_map,List.getElem?_map]
  by_cases hlt:i<n
  ·rw [if_pos hlt,List.getElem?_range hlt]
   simpa using h3 i hlt
  ·rw [if_neg hlt,List.getElem?_eq_none (by simp;omega)]
   rfl
 ·obtain ⟨i,hi',rfl⟩:=List.mem_map.1 hx
  exact hi i (List.mem_range.1 hi')
theorem run_look (w:World) (r clock i:Nat) (es:Array MapEntry) (s:ByteArray) (v:Value) (hb:w.heap[r]?=some (.map es clock)) (hf:Instr.findNow .string (.string s) es.toList 0=some (some (i,v))) :
  (Instr.lookup 368 (.map (some r)) (.string s) false).run Tryz.prog w = .ok v w:=by
 have hc:=fun b=>MapKept.run_checkKey (P:=Tryz.prog) (w:=w) (k:=.string s) Tryz.underlying9 (by simp [MapKept.IsKey]) b 9999;have hm:=Tryz.underlying368;simp [Instr.lookup,run_underlying hm,MapKept.run_getObj_map hb,hc,MapKept.run_findKey Tryz.underlying9 hf,Result.andThen]
theorem wpList_look (w:World) {ops:Array Oper} {rest:List Oper} {o:Oper} {a:Act} {Q:Exit->Act->World->Prop} (hg:o.guard=none) (m x:Operand) (hop:o.op=Op.lookup 368 m x false)
  (b clock i:Nat) (es:Array MapEntry) (hm:a.eval m = .map (some b)) (hb:w.heap[b]?=some (.map es clock)) (s:ByteArray) (hx:a.eval x = .string s) (v:Value) (hf:Instr.findNow .string (.string s) es.toList 0=some (some (i,v)))
  (hK:wpList Tryz.prog ops Q rest (a.put o.dst v) w):wpList Tryz.prog ops Q (o::rest) a w:=by
 refine wpList_plain hg fun K' hK'=>?_;have hrun:=run_look w b clock i es s v hb hf;unfold Oper.wp;simp [execOp,hop,hm,hx,hrun,Result.andThen];exact hK' _ _ hK
def Kp (a b:Nat) (w w':World):Prop:=w.heap.size<=w'.heap.size/\∀k,a<=k->k<b->w'.heap[k]?=w.heap[k]?
theorem Ext.kp {w w':World} (h:Ext w w') {a b:Nat} (hb:b<=w.heap.size):Kp a b w w':=⟨h.size,fun _ _ h2=>h.block (by omega)⟩
theorem Part.kp {lo M:Nat} {w w':World} (h:Part lo M w w') {a b:Nat} (hb:b<=w.heap.size) (hs:b<=lo\/M<=a):Kp a b w w':=⟨h.size,fun k h1 h2=>h.block (by omega) (by omega)⟩
theorem Kp.same {a b:Nat} {w w':World} (h:Kp a b w w'):Same a b w w':=fun k h1 h2=>h.2 k h1 h2
def Bx (w:World) (B:Nat) (cs:Array Value) (t:TypeId):Prop:=w.heap[B]?=some (.cells cs t)
theorem Bx.made (w:World) (cs:Array Value) (t:TypeId):Bx (w.alloc (.cells cs t)) w.heap.size cs t:=by show (w.heap.push _)[w.heap.size]?=_;simp
theorem Bx.madeAt {B:Nat} (w:World) (cs:Array Value) (t:TypeId) (h:w.heap.size=B):Bx (w.alloc (.cells cs t)) B cs t:=h▸Bx.made w cs t
theorem Bx.lt {w:World} {B:Nat} {cs:Array Value} {t:TypeId} (h:Bx w B cs t):B<w.heap.size:=(Array.getElem?_eq_some_iff.1 h).1
theorem Bx.kp {w w':World} {B:Nat} {cs:Array Value} {t:TypeId} (h:Bx w B cs t) (k:Kp B (B+1) w w'):Bx w' B cs t:=(k.2 B (Nat.le_refl _) (by omega)).trans h
theorem Bx.cell {w:World} {B:Nat} {cs:Array Value} {t:TypeId} (h:Bx w B cs t) (i:Nat):w.cell? ⟨B,i,none⟩=cs[i]?:=by
 unfold Bx at h;simp [World.cell?,h]
theorem Ints.kp {lo hi:Nat} {w w':World} {v:Value} {xs:List Int} (h:Ints lo hi w v xs) (k:Kp lo hi w w'):Ints lo hi w' v xs:=h.same k.same
def IntsO (lo hi:Nat) (w:World) (v:Value) (xs:List Int):Prop:=OwnInts lo w v xs/\∀k,v.ownBlock=some k->k<hi
theorem OwnInts.o {lo:Nat} {w:World} {v:Value} {xs:List Int} (h:OwnInts lo w v xs):IntsO lo w.heap.size w v xs:=⟨h,fun k hk=>(h.lt k hk).2⟩
theorem IntsO.kp {lo hi:Nat} {w w':World} {v:Value} {xs:List Int} (h:IntsO lo hi w v xs) (k:Kp lo hi w w'):IntsO lo hi w' v xs:=by
 obtain ⟨⟨⟨h1,h2⟩,h3⟩,h4⟩:=h;refine ⟨⟨⟨h1,?_⟩,h3⟩,h4⟩
 rcases h2 with hn|⟨g,cap,cur,hv,hb,hg,r⟩
 ·exact .inl hn
 ·exact .inr ⟨g,cap,cur,hv,hb,by rw [k.2 g hb (h4 g (by rw [hv];rfl))];exact hg,r⟩
theorem IntsO.ints {lo hi:Nat} {w:World} {v:Value} {xs:List Int} (h:IntsO lo hi w v xs):Ints lo hi w v xs:=by
 obtain ⟨a,cap,rfl,h2,h3,h4⟩:=h.1.ints;refine ⟨a,cap,rfl,h2,h3,fun i x hx=>?_⟩;obtain ⟨h5,b,off,rfl,h7,h8,h9⟩:=h4 i x hx;exact ⟨h5,b,off,rfl,h7,h.2 b rfl,h9⟩
def Grd.O (g:Grd) (lo hi:Nat) (w:World) (v:Value):Prop:=∃b tu,v = .agg #[g.n,.slice (some ⟨b,0,none⟩) g.m g.m,g.tm,g.t.log,tu]/\lo<=b/\b<hi/\RowI w b 200 (g.m*5) g.f/\IntsO lo hi w tu g.t.px/\I64 g.n/\I64 g.tm/\I64 g.t.log/\(∀i,i<g.m*5->I64 (g.f i))/\g.m<=1048576
theorem Grd.O.kp {g:Grd} {lo hi:Nat} {w w':World} {v:Value} (h:g.O lo hi w v) (k:Kp lo hi w w'):g.O lo hi w' v:=by
 obtain ⟨b,tu,h1,h2,h3,h4,h5,h6⟩:=h;exact ⟨b,tu,h1,h2,h3,h4.of (k.2 b h2 h3),h5.kp k,h6⟩
theorem Grd.O.R {g:Grd} {lo hi:Nat} {w:World} {v:Value} (h:g.O lo hi w v):g.R lo hi w v:=by
 obtain ⟨b,tu,rfl,h2,h3,h4,h5,h6,h7,h8,h9,h10⟩:=h;exact ⟨_,tu,rfl,h6,h7,h8,⟨_,g.m,rfl,Nat.le_refl _,by unfold maxLen;omega,fun i hx=>⟨h9 i hx,b,0,rfl,h2,h3,by rw [Nat.zero_add];exact h4.cell hx⟩⟩,h5.ints⟩
theorem Grd.O.form {g:Grd} {lo hi:Nat} {w:World} {v:Value} (h:g.O lo hi w v):∃b a c,v = .agg #[g.n,.slice (some ⟨b,0,none⟩) g.m g.m,g.tm,g.t.log,.slice a g.t.px.length c]:=by
 obtain ⟨b,tu,rfl,h2,h3,h4,h5,h6⟩:=h;obtain ⟨a,c,rfl,_⟩:=h5.1.form;exact ⟨b,a,c,rfl⟩
theorem Grd.O.low {g:Grd} {lo hi lo':Nat} {w:World} {v:Value} (h:g.O lo hi w v) (hl:lo'<=lo):g.O lo' hi w v:=by
 obtain ⟨b,tu,h1,h2,h3,h4,⟨h5,h5'⟩,h6⟩:=h;exact ⟨b,tu,h1,by omega,h3,h4,⟨h5.low hl,h5'⟩,h6⟩
theorem RowI.put {w:World} {b:Nat} {t:TypeId} {n:Nat} {f:Nat->Int} (h:RowI w b t n f) (i:Nat) (x:Int):∃f',RowI (w.setCell ⟨b,i,none⟩ x) b t n f':=
 ⟨fun j=>if j=i then x else f j,World.rowIs.congr (World.rowIs.set h i (.int .i64 x)) fun j _=>by by_cases e:j=i <;> simp [e]⟩
theorem Bx.frozen {w:World} {B:Nat} {cs:Array Value} {t:TypeId} (h:Bx w B cs t) (i:Nat):w.frozen? ⟨B,i,none⟩=false:=by
 unfold Bx at h;simp [World.frozen?,h]
theorem Bx.ext {w w':World} {B:Nat} {cs:Array Value} {t:TypeId} (h:Bx w B cs t) (e:Ext w w'):Bx w' B cs t:=h.kp (e.kp h.lt)
theorem Bx.set {w:World} {B:Nat} {cs:Array Value} {t:TypeId} (h:Bx w B cs t) (i:Nat) (v:Value):Bx (w.setCell ⟨B,i,none⟩ v) B (cs.setIfInBounds i v) t:=by
 unfold Bx at *;simp [World.setCell,Array.getElem?_modify,h]
theorem Bx.other {w:World} {B:Nat} {cs:Array Value} {t:TypeId} (h:Bx w B cs t) {p:Addr} (hp:B≠p.block) (v:Value):Bx (w.setCell p v) B cs t:=(Below.heap_setCell _ _ _ _ hp).trans h
theorem Bx.same {w:World} {B:Nat} {cs cs':Array Value} {t:TypeId} (h:Bx w B cs t) (e:cs=cs'):Bx w B cs' t:=e▸h
def Grd.small (g:Grd):Prop:=g.m<=1048576/\g.t.px.length<=1048576
theorem Part.trans {lo M:Nat} {w w1 w2:World} (h:Part lo M w w1) (k:Part lo M w1 w2):Part lo M w w2:=⟨Nat.le_trans h.size k.size,h.low.trans k.low,fun b hb hl=>(k.high b hb (by have:=h.size;omega)).trans (h.high b hb hl)⟩
def digs (k r:Nat):Prop:=k<10 ^ (13 - r)
theorem digs.next {k r:Nat} (h:digs k r) (hk:k≠0):r≠13/\digs (k / 10) (r+1)/\k<10000000000000:=by
 unfold digs at *
 have hr:r<13:=by
  by_cases e:r<13
  ·exact e
  ·rw [show 13 - r=0 by omega] at h
   simp at h;omega
 refine ⟨by omega,?_,Nat.lt_of_lt_of_le h (Nat.pow_le_pow_right (i:=13 - r) (j:=13) (by decide) (by omega))⟩;rw [show 13 - r=(13 - (r+1))+1 by omega,Nat.pow_succ] at h;exact Nat.div_lt_of_lt_mul (by rw [Nat.mul_comm];exact h)
theorem digs.start {k:Nat} (h:k<10000000000000):digs k 0:=h
def strC (xs:List ByteArray) (i:Nat):Value:=.string (xs.getD i ⟨#[]⟩)
theorem rowIs.put {w:World} {b:Nat} {t:TypeId} {n:Nat} {f:Nat->Value} (h:w.rowIs b t n f) (i:Nat) (x:Value):∃f',(w.setCell ⟨b,i,none⟩ x).rowIs b t n f'/\(∀j,j≠i->f' j=f j):=
 ⟨fun j=>if j=i then x else f j,World.rowIs.set h i x,fun j hj=>by simp [hj]⟩
end Go.Proofs.YtfjbiifebcfjfaaGreat
