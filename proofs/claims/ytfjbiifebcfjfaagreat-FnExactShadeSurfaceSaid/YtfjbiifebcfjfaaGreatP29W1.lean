/- Texts of this claim, one behind another; what its theorem does not use is left out: Base, L01, Plan, L02a, L02b, L02c, L02d, L02e, Ex1, Ex2, L15a, L04a, L04b, L04c, L04d, Flat, L04e, Sh1, Sh2, Sc0, Sc1, Blk0, StrB, L15b, L15c, L15d, L15e, Ex2M, Part, LawKit, L15f, L15g, L15h, L15i, Sh3. -/
import Derived.WalkKit
import Derived.WalkLawsBesides
import Derived.WalkSpells
import Derived.Deep.QuietTactic
import Derived.BigQuiet
import Derived.Lib.Hide
import Derived.Test.YtfjbiifebcfjfaaGreatRows
import Derived.OrdersHeld
import Derived.StillTail
import Derived.Deep.RegionHeld3
import Derived.Deep.Cut
import Derived.Deep.CutRange
import Derived.Laws.StructEq
import Derived.StillTailTactics
import Derived.Deep.OwnRows
import Derived.Deep.LoopGhost
import Derived.Laws.CopyOwn
set_option linter.unusedSimpArgs false
set_option linter.unusedVariables false
set_option maxRecDepth 100000
set_option maxHeartbeats 12800000
namespace Go.Proofs.YtfjbiifebcfjfaaGreat
open Go.RowKit
def I64 (n:Int):Prop:=-9223372036854775808≤n∧n≤9223372036854775807
theorem I64.mk {n:Int} (h1 : -9223372036854775808≤n) (h2:n≤9223372036854775807):I64 n:=⟨h1,h2⟩
theorem I64.lo {n:Int} (h:I64 n) : -9223372036854775808≤n:=h.1
theorem I64.hi {n:Int} (h:I64 n):n≤9223372036854775807:=h.2
theorem I64.wrap {n:Int} (h:I64 n):wrap64 n=n:=IntWalk.wrap64_in n ⟨h.1,h.2⟩
theorem vint {a b:Int} (h:a=b):Value.int .i64 a=Value.int .i64 b:=by rw [h]
theorem ret_int {k:IntKind} {a b:Int} (h:a=b):Ending.returned (.int k a) = .returned (.int k b):=by rw [h]
theorem ret_bool {a b:Bool} (h:a=b):Ending.returned (.bool a) = .returned (.bool b):=by rw [h]
def Ext (w w':World):Prop:=Below w.heap.size w w'
theorem Ext.refl (w:World):Ext w w:=Below.refl _ _
theorem Ext.size {w w':World} (h:Ext w w'):w.heap.size≤w'.heap.size:=Below.size h
theorem Ext.trans {w w1 w2:World} (h:Ext w w1) (k:Ext w1 w2):Ext w w2:=Below.trans h (Below.mono k (Below.size h))
theorem Ext.alloc {w w1:World} (h:Ext w w1) (o:Obj):Ext w (w1.alloc o):=Below.alloc h (Below.size h) o
theorem Ext.drew {w w1:World} (h:Ext w w1):Ext w w1.drew:=Below.drew h
theorem Ext.drewN {w w1:World} (h:Ext w w1) (n:Nat):Ext w (w1.drewN n):=h.trans ⟨rfl,rfl,rfl,Nat.le_refl _,fun _ _=>rfl⟩
theorem Ext.setCell {w w1:World} (h:Ext w w1) {p:Addr} (hp:w.heap.size≤p.block) (u:Value):Ext w (w1.setCell p u):=Below.setCell h hp u
theorem X_ {w w':World} (h:Ext w w':=by repeat (with_reducible (first|assumption|exact Ext.refl _|apply Ext.alloc|apply Ext.drew|apply Ext.drewN))):Ext w w':=h
theorem S_ {w w':World} (h:Ext w w':=by repeat (first|with_reducible assumption|with_reducible exact Ext.refl _|with_reducible apply Ext.alloc|with_reducible apply Ext.drew|with_reducible apply Ext.drewN|(with_reducible refine Ext.setCell ?_ (by simp;omega) _)|(with_reducible refine Ext.setCell ?_ (by simp) _))):Ext w w':=h
theorem Ext.grown {w w1 w2:World} {row:Option Nat} (h:Ext w w1) (hg:w1.grownBy w2 row) (hr:∀k,row=some k→w.heap.size≤k):Ext w w2:=Below.grown h hg (Below.size h) hr
theorem Ext.block {w w1:World} (h:Ext w w1) {k:Nat} (hk:k<w.heap.size):w1.heap[k]?=w.heap[k]?:=Below.block h k hk
theorem Ext.cells {w w1:World} (h:Ext w w1) :
  (∀b o,b<w.heap.size→w1.cell? ⟨b,o,none⟩=w.cell? ⟨b,o,none⟩)∧(∀b o,b<w.heap.size→w1.frozen? ⟨b,o,none⟩=w.frozen? ⟨b,o,none⟩):=
 ⟨fun b o hb=>Below.cell (p:=⟨b,o,none⟩) h hb,fun b o hb=>Below.frozen (p:=⟨b,o,none⟩) h hb⟩
def Same (lo hi:Nat) (w w':World):Prop:=∀b,lo≤b→b<hi→w'.heap[b]?=w.heap[b]?
theorem Ext.same {w w1:World} (h:Ext w w1) {lo hi:Nat} (hh:hi≤w.heap.size):Same lo hi w w1:=fun _ _ hb=>h.block (by omega)
theorem Same.cell {lo hi:Nat} {w w':World} (h:Same lo hi w w') {b o:Nat} (h1:lo≤b) (h2:b<hi):w'.cell? ⟨b,o,none⟩=w.cell? ⟨b,o,none⟩:=
 World.cell?_of_block (w:=w) (h b h1 h2)
theorem Same.frozen {lo hi:Nat} {w w':World} (h:Same lo hi w w') {b o:Nat} (h1:lo≤b) (h2:b<hi):w'.frozen? ⟨b,o,none⟩=w.frozen? ⟨b,o,none⟩:=
 World.frozen?_of_block (w:=w) (h b h1 h2)
def Ints (lo hi:Nat) (w:World) (v:Value) (xs:List Int):Prop:=
 ∃a cap,v = .slice a xs.length cap∧xs.length≤cap∧cap≤maxLen∧∀i x,xs[i]?=some x→I64 x∧∃b off,a=some ⟨b,off,none⟩∧lo≤b∧b<hi∧w.cell? ⟨b,off+i,none⟩=some (.int .i64 x)
theorem Ints.same {lo hi:Nat} {w w':World} {v:Value} {xs:List Int} (h:Ints lo hi w v xs) (s:Same lo hi w w'):Ints lo hi w' v xs:=by
 obtain ⟨a,cap,h1,h2,h3,h4⟩:=h;refine ⟨a,cap,h1,h2,h3,fun i x hx=>?_⟩;obtain ⟨h5,b,off,h6,h7,h8,h9⟩:=h4 i x hx;exact ⟨h5,b,off,h6,h7,h8,by rw [s.cell h7 h8];exact h9⟩
theorem Ints.ext {lo hi:Nat} {w w':World} {v:Value} {xs:List Int} (h:Ints lo hi w v xs) (hh:hi≤w.heap.size) (e:Ext w w'):Ints lo hi w' v xs:=h.same (e.same hh)
theorem Ints.wide {lo hi lo' hi':Nat} {w:World} {v:Value} {xs:List Int} (h:Ints lo hi w v xs) (h1:lo'≤lo) (h2:hi≤hi'):Ints lo' hi' w v xs:=by
 obtain ⟨a,cap,g1,g2,g3,g4⟩:=h;refine ⟨a,cap,g1,g2,g3,fun i x hx=>?_⟩;obtain ⟨h5,b,off,h6,h7,h8,h9⟩:=g4 i x hx;exact ⟨h5,b,off,h6,by omega,by omega,h9⟩
theorem Ints.len {lo hi:Nat} {w:World} {v:Value} {xs:List Int} (h:Ints lo hi w v xs):xs.length≤9223372036854775807:=by
 obtain ⟨a,cap,g1,g2,g3,g4⟩:=h;unfold maxLen at g3;omega
structure IntsAt (lo hi:Nat) (w:World) (a:Option Addr) (cap:Nat) (xs:List Int):Prop where
 le:xs.length≤cap
 cap:cap≤9223372036854775807
 cell:∀i x,xs[i]?=some x→I64 x∧∃b off,a=some ⟨b,off,none⟩∧lo≤b∧b<hi∧w.cell? ⟨b,off+i,none⟩=some (.int .i64 x)
theorem Ints.open {lo hi:Nat} {w:World} {v:Value} {xs:List Int} (h:Ints lo hi w v xs):∃a cap,v = .slice a xs.length cap∧IntsAt lo hi w a cap xs:=by
 obtain ⟨a,cap,g1,g2,g3,g4⟩:=h;exact ⟨a,cap,g1,g2,by unfold maxLen at g3;omega,g4⟩
theorem IntsAt.shut {lo hi:Nat} {w:World} {a:Option Addr} {cap:Nat} {xs:List Int} (h:IntsAt lo hi w a cap xs):Ints lo hi w (.slice a xs.length cap) xs:=
 ⟨a,cap,rfl,h.le,by unfold maxLen;have:=h.cap;omega,h.cell⟩
theorem IntsAt.at {lo hi:Nat} {w:World} {a:Option Addr} {cap:Nat} {xs:List Int} (h:IntsAt lo hi w a cap xs) {k:Nat} (hk:k<xs.length) :
  ∃b off,a=some ⟨b,off,none⟩∧lo≤b∧b<hi∧w.cell? ⟨b,off+k,none⟩=some (.int .i64 xs[k]):=(h.cell k xs[k] (by simp [hk])).2
theorem IntsAt.i64 {lo hi:Nat} {w:World} {a:Option Addr} {cap:Nat} {xs:List Int} (h:IntsAt lo hi w a cap xs) {k:Nat} (hk:k<xs.length):I64 xs[k]:=(h.cell k xs[k] (by simp [hk])).1
def SameUpTo {α : Type} (xs ys:List α) (k:Nat):Prop:=∀i,i<k→xs[i]?=ys[i]?
theorem SameUpTo.zero {α : Type} (xs ys:List α):SameUpTo xs ys 0:=fun i h=>by omega
theorem SameUpTo.succ {α : Type} {xs ys:List α} {k:Nat} (h:SameUpTo xs ys k) (h1:k<xs.length) (h2:k<ys.length) (he:xs[k]=ys[k]):SameUpTo xs ys (k+1):=by
 intro i hi
 by_cases hk:i=k
 ·subst hk;simp [h1,h2,he]
 ·exact h i (by omega)
theorem SameUpTo.all {α : Type} {xs ys:List α} {k:Nat} (h:SameUpTo xs ys k) (hl:xs.length=ys.length) (hk:xs.length≤k):xs=ys:=by
 apply List.ext_getElem?;intro i
 by_cases hi:i<k
 ·exact h i hi
 ·rw [List.getElem?_eq_none (by omega),List.getElem?_eq_none (by omega)]
theorem hid {p:Prop} (h:p):Hid p:=h
def OwnInts (lo:Nat) (w:World) (v:Value) (xs:List Int):Prop:=w.ownsRow lo 3 1 v xs.length (xs.map (Value.int .i64))∧∀x∈xs,I64 x
theorem OwnInts.ints {lo:Nat} {w:World} {v:Value} {xs:List Int} (h:OwnInts lo w v xs):Ints lo w.heap.size w v xs:=by
 obtain ⟨⟨h1,h2⟩,h3⟩:=h
 rcases h2 with ⟨rfl,h4⟩|⟨g,cap,cur,rfl,hb,hg,hc,hm,hs,ht⟩
 ·refine ⟨none,0,by rw [h4],by omega,by unfold maxLen;omega,fun i x hx=>?_⟩
  have:=(List.getElem?_eq_some_iff.1 hx).1;omega
 ·refine ⟨some ⟨g,0,none⟩,cap,rfl,hc,hm,fun i x hx=>⟨h3 x (List.mem_of_getElem? hx),g,0,rfl,hb,(Array.getElem?_eq_some_iff.1 hg).1,?_⟩⟩
  have hi:=(List.getElem?_eq_some_iff.1 hx).1
  have e:(xs.map (Value.int .i64))[i]?=some (.int .i64 x):=by simp [hx]
  rw [←ht,List.getElem?_take,if_pos (by omega)] at e;simp only [World.cell?,hg,Nat.zero_add]
  simpa using e
theorem OwnInts.nil (lo:Nat) (w:World):OwnInts lo w (.slice none 0 0) []:=⟨World.ownsRow_nil _ _ _ _,fun _ h=>by cases h⟩
theorem OwnInts.lt {lo:Nat} {w:World} {v:Value} {xs:List Int} (h:OwnInts lo w v xs):∀k,v.ownBlock=some k→lo≤k∧k<w.heap.size:=h.1.lt
theorem OwnInts.kept {lo:Nat} {w w':World} {v:Value} {xs:List Int} (h:OwnInts lo w v xs) (s:Same lo w.heap.size w w'):OwnInts lo w' v xs:=by
 obtain ⟨⟨h1,h2⟩,h3⟩:=h;refine ⟨⟨h1,?_⟩,h3⟩
 rcases h2 with hn|⟨g,cap,cur,hv,hb,hg,r⟩
 ·exact .inl hn
 ·exact .inr ⟨g,cap,cur,hv,hb,by rw [s g hb (Array.getElem?_eq_some_iff.1 hg).1];exact hg,r⟩
theorem OwnInts.ext {lo:Nat} {w w':World} {v:Value} {xs:List Int} (h:OwnInts lo w v xs) (e:Ext w w'):OwnInts lo w' v xs:=h.kept (e.same (Nat.le_refl _))
theorem OwnInts.form {lo:Nat} {w:World} {v:Value} {xs:List Int} (h:OwnInts lo w v xs):∃a cap,v = .slice a xs.length cap∧xs.length≤9223372036854775807:=by
 obtain ⟨⟨h1,h2⟩,h3⟩:=h
 rcases h2 with ⟨rfl,h4⟩|⟨g,cap,cur,rfl,hb,hg,hc,hm,hs,ht⟩
 ·exact ⟨none,0,by rw [h4],by omega⟩
 ·exact ⟨some ⟨g,0,none⟩,cap,rfl,by unfold maxLen at hm;omega⟩
theorem OwnInts.at {lo:Nat} {w:World} {a:Option Addr} {n cap:Nat} {xs:List Int} (h:OwnInts lo w (.slice a n cap) xs) (hn:n=xs.length) {k:Nat} (hk:k<xs.length) :
  ∃g y,a=some ⟨g,0,none⟩∧lo≤g∧g<w.heap.size∧xs[k]?=some y∧w.cell? ⟨g,k,none⟩=some (.int .i64 y)∧w.frozen? ⟨g,k,none⟩=false ∧
   ∀x,I64 x→OwnInts lo (w.setCell ⟨g,k,none⟩ (.int .i64 x)) (.slice a n cap) (xs.set k x)∧w.grownBy (w.setCell ⟨g,k,none⟩ (.int .i64 x)) (some g):=by
 subst hn;obtain ⟨hown,h3⟩:=h;have hown':=hown
 rcases hown.2 with ⟨h1,h4⟩|⟨g,cap',cur,h1,hb,hg,hc,hm,hs,ht⟩
 ·omega
 ·simp only [Value.slice.injEq,true_and] at h1
  obtain ⟨rfl,rfl⟩:=h1;refine ⟨g,xs[k],rfl,hb,(Array.getElem?_eq_some_iff.1 hg).1,by simp [hk],?_,hown'.frozenAt k,fun x hx=>?_⟩
  ·rw [hown'.cellAt k (by omega)];simp [hk]
  ·have hst:=hown'.stored k (.int .i64 x)
   rw [←List.map_set] at hst;refine ⟨⟨by simpa using hst.1,fun y hy=>?_⟩,hst.2⟩
   rcases List.mem_or_eq_of_mem_set hy with h|h
   ·exact h3 y h
   ·rw [h];exact hx
theorem Same.setLow {lo hi:Nat} (w:World) {p:Addr} (hp:p.block<lo) (u:Value):Same lo hi w (w.setCell p u):=fun b h1 _=>Below.heap_setCell w p u b (by omega)
theorem OwnInts.setLow {lo:Nat} {w:World} {v:Value} {xs:List Int} (h:OwnInts lo w v xs) {p:Addr} (hp:p.block<lo) (u:Value):OwnInts lo (w.setCell p u) v xs:=h.kept (Same.setLow w hp u)
theorem OwnInts.low {lo lo':Nat} {w:World} {v:Value} {xs:List Int} (h:OwnInts lo w v xs) (hl:lo'≤lo):OwnInts lo' w v xs:=by
 obtain ⟨⟨h1,h2⟩,h3⟩:=h;refine ⟨⟨h1,?_⟩,h3⟩
 rcases h2 with hn|⟨g,cap,cur,hv,hb,r⟩
 ·exact .inl hn
 ·exact .inr ⟨g,cap,cur,hv,by omega,r⟩
theorem OwnInts.drewN {lo:Nat} {w:World} {v:Value} {xs:List Int} (h:OwnInts lo w v xs) (n:Nat):OwnInts lo (w.drewN n) v xs:=h.ext ((Ext.refl w).drewN n)
theorem OwnInts.alloc {lo:Nat} {w:World} {v:Value} {xs:List Int} (h:OwnInts lo w v xs) (o:Obj):OwnInts lo (w.alloc o) v xs:=h.ext ((Ext.refl w).alloc o)
theorem grownBy.refl (w:World) (row:Option Nat):w.grownBy w row:=World.grownBy.refl w row
theorem grownBy.trans {w w1 w2:World} {row:Option Nat} (h:w.grownBy w1 row) (k:w1.grownBy w2 row):w.grownBy w2 row:=
 ⟨k.os.trans h.os,k.tape.trans h.tape,k.output.trans h.output,Nat.le_trans h.size k.size,fun i hi hne=>(k.block i (Nat.lt_of_lt_of_le hi h.size) hne).trans (h.block i hi hne)⟩
theorem all_no {α : Type} {xs:List α} {p : α→Bool} {k:Nat} (h:k<xs.length) (hp:p xs[k]=false):xs.all p=false:=by
 rw [List.all_eq_false];exact ⟨xs[k],List.getElem_mem h,by simp [hp]⟩
theorem all_step {α : Type} {xs:List α} {p : α→Bool} {k:Nat} (h:k<xs.length) (h1:(xs.take k).all p=true) (hp:p xs[k]=true):(xs.take (k+1)).all p=true:=by
 rw [List.take_succ_eq_append_getElem h,List.all_append,h1];simp [hp]
theorem wrap_small {n:Int} (h1 : -1152921504606846976≤n) (h2:n≤1152921504606846976):wrap64 n=n:=IntWalk.wrap64_in n ⟨by omega,by omega⟩
theorem quiet_same {P:Program} {f:FuncId} {args:Array Value} {w:World} {n:Nat} {v:Value}
  (h:Calls P f args (w.drewN n) fun e w'=>e = .returned v∧w.drewN n=w'):Calls P f args (w.drewN n) fun e w''=>e = .returned v∧∃m,w''=w.drewN m:=
 h.mono fun _ _ ⟨he,hm⟩=>⟨he,n,hm.symm⟩
open Classical in
noncomputable def grow (w d:World):World:=if Ext w d then d else w
theorem grow_ext (w d:World):Ext w (grow w d):=by
 unfold grow
 split
 ·assumption
 ·exact Ext.refl w
theorem grow_of {w d:World} (h:Ext w d):d=grow w d:=by unfold grow;rw [if_pos h]
@[go_sem] theorem cell?_grow (w d:World) (a:Addr) (h:a.block<w.heap.size):(grow w d).cell? a=w.cell? a:=Below.cell (grow_ext w d) h
@[go_sem] theorem frozen?_grow (w d:World) (a:Addr) (h:a.block<w.heap.size):(grow w d).frozen? a=w.frozen? a:=Below.frozen (grow_ext w d) h
theorem wp_region_ext {P:Program} {id:Nat} {Q:Exit→Act→World→Prop} {a:Act} {w:World} {l:List Oper} (hm:P.follows .mixedOrders=true) (hB:Region.lexB .any l.toArray=true)
  (h:wpQuiet P l.toArray (fun w'=>∃d,w'=grow w d) (fun a'=>∀w',Ext w w'→Q .normal a' w') l a):(Code.region id l.toArray true).wp P Q a w:=by
 refine wp_region_quiet (C:=fun w'=>∃d,w'=grow w d) hm hB ⟨_,grow_of ((Ext.refl w).drew)⟩ ?_
 have e:(fun a'=>∀w',Ext w w'→Q .normal a' w')=(fun a'=>∀w',(∃d,w'=grow w d)→Q .normal a' w'):=by
  funext a'
  refine propext ⟨fun k w' hw'=>?_,fun k w' hw'=>k w' ⟨_,grow_of hw'⟩⟩;obtain ⟨d,rfl⟩:=hw';exact k _ (grow_ext w d)
 rw [e] at h
 simpa using h
theorem grow_call {P:Program} {f:FuncId} {args:Array Value} {w d:World} {v:Value}
  (h:Calls P f args (grow w d) fun e w'=>e = .returned v∧Ext (grow w d) w'):Calls P f args (grow w d) fun e w''=>e = .returned v∧∃d',w''=grow w d':=
 h.mono fun _ _ ⟨he,hx⟩=>⟨he,_,grow_of ((grow_ext w d).trans hx)⟩
theorem grow_same {P:Program} {f:FuncId} {args:Array Value} {w d:World} {v:Value}
  (h:Calls P f args (grow w d) fun e w'=>e = .returned v∧grow w d=w'):Calls P f args (grow w d) fun e w''=>e = .returned v∧∃d',w''=grow w d':=
 h.mono fun _ _ ⟨he,hx⟩=>⟨he,d,hx.symm⟩
def inB (n lo hi:Int):Bool:=decide (lo≤n)&&decide (n≤hi)
theorem inB_iff {n lo hi:Int}:inB n lo hi=true↔lo≤n∧n≤hi:=by simp [inB]
def clampI (n lo hi:Int):Int:=if hi<lo∨n<lo then lo else if hi<n then hi else n
def fdiv (a b:Int):Int:=if b<1 then 0 else a / b
theorem tdiv_neg_mod {n b:Int} (hb:1≤b) (h:n.tmod b<0):n.tdiv b - 1=n / b:=by
 have h1:=Int.tmod_add_mul_tdiv n b;have h2 : -b<n.tmod b:=Int.lt_tmod_of_pos n (by omega)
 have h3:(n.tdiv b - 1)*b=b*n.tdiv b - b:=by rw [Int.sub_mul,Int.one_mul,Int.mul_comm]
 rw [eq_comm,Int.ediv_eq_iff_of_pos (by omega),h3];omega
theorem tdiv_pos_mod {n b:Int} (hb:1≤b) (h:0≤n.tmod b):n.tdiv b=n / b:=by
 have h1:=Int.tmod_add_mul_tdiv n b;have h2:n.tmod b<b:=Int.tmod_lt_of_pos n (by omega);rw [eq_comm,Int.ediv_eq_iff_of_pos (by omega),Int.mul_comm];omega
theorem fdiv_i64 {a b:Int} (ha:I64 a):I64 (fdiv a b):=by
 unfold fdiv
 split
 ·exact ⟨by omega,by omega⟩
 ·have h1:=ha.lo
  have h2:=ha.hi;refine ⟨?_,?_⟩
  ·rw [Int.le_ediv_iff_mul_le (by omega)]
   have:(-9223372036854775808:Int)*b≤-9223372036854775808*1:=Int.mul_le_mul_of_nonpos_left (by omega) (by omega);omega
  ·have:=Int.ediv_le_ediv (show 0<b by omega) h2
   have h3:(9223372036854775807:Int) / b≤9223372036854775807:=Int.ediv_le_self _ (by omega);omega
theorem within_any (n lo hi:Int) (w:World):Calls Tryz.prog 54 #[.int .i64 n,.int .i64 lo,.int .i64 hi] w fun e w'=>e = .returned (.bool (inB n lo hi))∧w=w':=by
 go_enter Tryz.func54,Tryz.ntmps54;go_wp2
 all_goals go_ret
 ·exact ⟨ret_bool (by simp [inB, *]),rfl⟩
 ·exact ⟨ret_bool (by simp [inB];omega),rfl⟩
theorem within_val {n lo hi:Int} {b:Bool} (h:inB n lo hi=b) (w:World):Calls Tryz.prog 54 #[.int .i64 n,.int .i64 lo,.int .i64 hi] w fun e w'=>e = .returned (.bool b)∧w=w':=h▸within_any n lo hi w
theorem l01In_any (n lo hi:Int) (w:World):Calls Tryz.prog 70 #[.int .i64 n,.int .i64 lo,.int .i64 hi] w fun e w'=>e = .returned (.bool (inB n lo hi))∧w=w':=by
 go_enter Tryz.func70,Tryz.ntmps70;go_wp2
 all_goals go_ret
 ·exact ⟨ret_bool (by simp [inB, *]),rfl⟩
 ·exact ⟨ret_bool (by simp [inB];omega),rfl⟩
theorem l01In_val {n lo hi:Int} {b:Bool} (h:inB n lo hi=b) (w:World):Calls Tryz.prog 70 #[.int .i64 n,.int .i64 lo,.int .i64 hi] w fun e w'=>e = .returned (.bool b)∧w=w':=h▸l01In_any n lo hi w
theorem sClamp_any (n lo hi:Int) (w:World):Calls Tryz.prog 194 #[.int .i64 n,.int .i64 lo,.int .i64 hi] w fun e w'=>e = .returned (.int .i64 (clampI n lo hi))∧w=w':=by
 have H:Hid (clampI n lo hi=clampI n lo hi):=rfl;generalize hc:clampI n lo hi=c at H ⊢;have HC:=Lib.hid hc;clear hc H;go_enter Tryz.func194,Tryz.ntmps194;go_wp2
 all_goals go_ret
 all_goals exact ⟨ret_int (by rw [←HC.out];unfold clampI;split <;> (try split) <;> omega),rfl⟩
theorem iClamp_any (n lo hi:Int) (w:World):Calls Tryz.prog 46 #[.int .i64 n,.int .i64 lo,.int .i64 hi] w fun e w'=>e = .returned (.int .i64 (clampI n lo hi))∧w=w':=by
 have H:Hid (clampI n lo hi=clampI n lo hi):=rfl;generalize hc:clampI n lo hi=c at H ⊢;have HC:=Lib.hid hc;clear hc H;go_enter Tryz.func46,Tryz.ntmps46;go_wp2
 all_goals go_ret
 all_goals exact ⟨ret_int (by rw [←HC.out];unfold clampI;split <;> (try split) <;> omega),rfl⟩
theorem fdiv_neg {a b:Int} (ha:I64 a) (hb:1≤b) (h:a.tmod b<0):wrap64 (wrap64 (a.tdiv b) - 1)=fdiv a b:=by
 have hq:=tdiv_neg_mod hb h;have hi:=fdiv_i64 (b:=b) ha;rw [fdiv,if_neg (by omega)] at hi ⊢
 have hb2:b≠1:=fun e=>by subst e;simp at h
 have h1:=hi.lo
 have h2:a / b≤4611686018427387904:=by
  have:=Int.ediv_le_ediv (show 0<b by omega) ha.hi
  have h3:(9223372036854775807:Int) / b≤9223372036854775807 / 2:=Int.ediv_le_iff_le_mul (show 0<b by omega) |>.2 (by
   have:(9223372036854775807 / 2:Int)*2≤9223372036854775807 / 2*b:=Int.mul_le_mul_of_nonneg_left (by omega) (by omega)
   omega)
  omega
 rw [I64.wrap (n:=a.tdiv b) ⟨by omega,by omega⟩,hq,hi.wrap]
theorem fdiv_pos {a b:Int} (ha:I64 a) (hb:1≤b) (h:0≤a.tmod b):wrap64 (a.tdiv b)=fdiv a b:=by
 have hi:=fdiv_i64 (b:=b) ha;rw [fdiv,if_neg (by omega)] at hi ⊢;rw [tdiv_pos_mod hb h,hi.wrap]
theorem sFloorDiv_any (a b:Int) (w:World) (ha:I64 a):Calls Tryz.prog 243 #[.int .i64 a,.int .i64 b] w fun e w'=>e = .returned (.int .i64 (fdiv a b))∧w=w':=by
 have H:=Lib.hid ha;clear ha;go_enter Tryz.func243,Tryz.ntmps243;go_wp2
 all_goals go_ret
 ·exact ⟨ret_int (by rw [fdiv,if_pos (by assumption)]),rfl⟩
 ·exact ⟨ret_int (fdiv_neg H.out (by assumption) (by assumption)),rfl⟩
 ·exact ⟨ret_int (fdiv_pos H.out (by assumption) (by assumption)),rfl⟩
theorem iFloorDiv_any (a b:Int) (w:World) (ha:I64 a):Calls Tryz.prog 107 #[.int .i64 a,.int .i64 b] w fun e w'=>e = .returned (.int .i64 (fdiv a b))∧w=w':=by
 have H:=Lib.hid ha;clear ha;go_enter Tryz.func107,Tryz.ntmps107;go_wp2
 all_goals go_ret
 ·exact ⟨ret_int (by rw [fdiv,if_pos (by assumption)]),rfl⟩
 ·exact ⟨ret_int (fdiv_neg H.out (by assumption) (by assumption)),rfl⟩
 ·exact ⟨ret_int (fdiv_pos H.out (by assumption) (by assumption)),rfl⟩
def fmod (a b:Int):Int:=if b<1 then a else a % b
theorem wrap64_sub_wrap (a x:Int):wrap64 (a - wrap64 x)=wrap64 (a - x):=by unfold wrap64;omega
theorem fmod_eq (a b:Int):a - fdiv a b*b=fmod a b:=by
 unfold fdiv fmod
 split
 ·omega
 ·have:=Int.mul_ediv_add_emod a b
  rw [Int.mul_comm];omega
theorem fmod_i64 {a b:Int} (ha:I64 a) (hb:I64 b):I64 (fmod a b):=by
 unfold fmod
 split
 ·exact ha
 ·have h1:=Int.emod_nonneg a (show b≠0 by omega)
  have h2:=Int.emod_lt_of_pos a (show 0<b by omega);have:=hb.hi;exact ⟨by omega,by omega⟩
theorem floorMod_any (a b:Int) (w:World) (ha:I64 a) (hb:I64 b):Calls Tryz.prog 229 #[.int .i64 a,.int .i64 b] w fun e w'=>e = .returned (.int .i64 (fmod a b))∧w=w':=by
 have H:=Lib.hid ha;have HB:=Lib.hid hb;clear ha hb;go_enter Tryz.func229,Tryz.ntmps229;go_wp2_with (go_at_call 107;refine (iFloorDiv_any a b _ H.out).mono ?_;rintro e w' ⟨rfl,rfl⟩);go_ret;exact ⟨ret_int (by rw [wrap64_sub_wrap,fmod_eq,(fmod_i64 H.out HB.out).wrap]),rfl⟩
theorem floorMod_val {a b c:Int} (ha:I64 a) (hb:I64 b) (h:fmod a b=c) (w:World):Calls Tryz.prog 229 #[.int .i64 a,.int .i64 b] w fun e w'=>e = .returned (.int .i64 c)∧w=w':=h▸floorMod_any a b w ha hb
theorem iFloorDiv_val {a b c:Int} (ha:I64 a) (h:fdiv a b=c) (w:World):Calls Tryz.prog 107 #[.int .i64 a,.int .i64 b] w fun e w'=>e = .returned (.int .i64 c)∧w=w':=h▸iFloorDiv_any a b w ha
theorem sFloorDiv_val {a b c:Int} (ha:I64 a) (h:fdiv a b=c) (w:World):Calls Tryz.prog 243 #[.int .i64 a,.int .i64 b] w fun e w'=>e = .returned (.int .i64 c)∧w=w':=h▸sFloorDiv_any a b w ha
theorem iClamp_val {n lo hi c:Int} (h:clampI n lo hi=c) (w:World):Calls Tryz.prog 46 #[.int .i64 n,.int .i64 lo,.int .i64 hi] w fun e w'=>e = .returned (.int .i64 c)∧w=w':=h▸iClamp_any n lo hi w
theorem sClamp_val {n lo hi c:Int} (h:clampI n lo hi=c) (w:World):Calls Tryz.prog 194 #[.int .i64 n,.int .i64 lo,.int .i64 hi] w fun e w'=>e = .returned (.int .i64 c)∧w=w':=h▸sClamp_any n lo hi w
theorem fmod_nat (a:Int) {n:Nat} (hn:1≤n):∃k:Nat,fmod a n=k∧k<n:=by
 unfold fmod;rw [if_neg (by omega)];have h1:=Int.emod_nonneg a (show (n:Int)≠0 by omega);have h2:=Int.emod_lt_of_pos a (show (0:Int)<n by omega);exact ⟨(a % n).toNat,by omega,by omega⟩
section
variable {P : Program} {ops : Array Oper} {Q : Exit → Act → World → Prop} {md : Region.Mode} {S : World → Prop} {z : Nat}
def wpAnyZ (P:Program) (md:Region.Mode) (ops:Array Oper) (Q:Exit→Act→World→Prop) (S:World→Prop) (z:Nat):Nat→Array Bool→Act→World→Prop
 | 0,listed,a,w=>Region.ready md ops listed=[]∧Q .normal a w
 | fuel+1,listed,a,w=>
  (Region.ready md ops listed=[]→Q .normal a w) ∧
  ∀i∈Region.ready md ops listed,wpOp P ops Q i (fun a' w'=>(i=z∨S w')∧wpAnyZ P md ops Q S z fuel (listed.setIfInBounds i true) a' w') a w
theorem wpAny_of_Z:∀(fuel:Nat) (listed:Array Bool) (a:Act) (w:World),wpAnyZ P md ops Q S z fuel listed a w→wpAny P md ops Q fuel listed a w
 | 0,_,_,_,h=>h
 | fuel+1,_,_,_,h=>⟨h.1,fun i hi=>wpOp_mono (fun a' w' h'=>wpAny_of_Z fuel _ a' w' h'.2) (h.2 i hi)⟩
def waitsAll (md:Region.Mode) (ops:Array Oper) (z:Nat):Bool:=
 match ops[z]? with
 | none=>true
 | some o=>(List.range ops.size).all fun j=>j==z||o.after.any fun e=>Region.binds md e&&e.on==j
theorem waitsAll_spec (h:waitsAll md ops z=true) {i:Nat} {oi:Oper} (hi:ops[i]?=some oi) (hne:i≠z) {listed:Array Bool} (hun:listed.getD i false=false):z∉Region.ready md ops listed:=by
 intro hz;obtain ⟨_,oz,hoz,hall⟩:=mem_ready.1 hz;unfold waitsAll at h;simp only [hoz,List.all_eq_true,List.mem_range] at h;have h1:=h i (Array.getElem?_eq_some_iff.1 hi).1;simp only [Bool.or_eq_true,beq_iff_eq,hne,false_or] at h1;obtain ⟨e,he,hb⟩:=Array.any_eq_true'.1 h1;simp only [Bool.and_eq_true,beq_iff_eq] at hb;have h2:=hall e he hb.1;rw [hb.2,hun] at h2;cases h2
theorem wpAnyZ_first {i:Nat} {oi:Oper} {v:Value} (hi:ops[i]?=some oi) (hz:waitsAll md ops z=true) (hiz:i≠z) (hsel:∀(j:Nat) (o:Oper) cs b,ops[j]?=some o→o.op≠.select cs b)
  (hQ:∀c a w,Q (.panic c) (a.put oi.dst v) w→Q (.panic c) a w) :
  ∀(fuel:Nat) (listed:Array Bool) (a:Act) (w:World),
   (∀j oj,ops[j]?=some oj→j≠i→listed.getD j true=false→(∀e∈oj.after,Region.binds md e=true→e.on≠i)→oi.apart ops oj=true) →
   i∈Region.ready md ops listed→YieldsIf P ops S oi v a→S w →
   wpAnyZ P md ops Q S z fuel (listed.setIfInBounds i true) (a.put oi.dst v) w→wpAnyZ P md ops Q S z (fuel+1) listed a w:=by
 intro fuel
 induction fuel with
 | zero=>
  intro listed a w _ hr hy hS H;refine ⟨fun h=>(by rw [h] at hr;cases hr),fun j hj=>?_⟩
  by_cases hji:j=i
  ·subst hji;exact hy.wpOp hi hS ⟨.inr hS,H⟩
  ·have:=ready_mono hj hji
   rw [H.1] at this;cases this
 | succ fuel ih=>
  intro listed a w hfree hr hy hS H;refine ⟨fun h=>(by rw [h] at hr;cases hr),fun j hj=>?_⟩
  by_cases hji:j=i
  ·subst hji;exact hy.wpOp hi hS ⟨.inr hS,H⟩
  ·have hun:listed.getD i false=false:=getD_both (mem_ready.1 hr).1
   have hjz:j≠z:=fun e=>waitsAll_spec hz hi hiz hun (e▸hj);have h1:=H.2 j (ready_mono hj hji);obtain ⟨hjun,oj,hoj,hall⟩:=mem_ready.1 hj
   have hnot:∀e∈oj.after,Region.binds md e=true→e.on≠i:=fun e he hb heq=>by
    have h1:=hall e he hb;rw [heq,hun] at h1;cases h1
   have h2:=wpOp_putIf hoj (hfree j oj hoj hji hjun hnot) (fun cs b=>hsel i oi cs b hi) (fun cs b=>hsel j oj cs b hoj) hQ hy h1
   have hfree':∀k ok,ops[k]?=some ok→k≠i→(listed.setIfInBounds j true).getD k true=false →
     (∀e∈ok.after,Region.binds md e=true→e.on≠i)→oi.apart ops ok=true:=fun k ok hk hki hun hno=>by
    refine hfree k ok hk hki ?_ hno
    by_cases hjk:j=k
    ·subst hjk;exact hjun
    ·rw [getD_set_ne true hjk] at hun;exact hun
   refine wpOp_mono (fun a' w' h3=>?_) h2;have hS':S w':=h3.2.1.resolve_left hjz;refine ⟨.inr hS',ih (listed.setIfInBounds j true) a' w' hfree' (ready_mono hr (Ne.symm hji)) h3.1 hS' ?_⟩;rw [Array.setIfInBounds_comm _ _ hji];exact h3.2.2
def takeOp (P:Program) (ops:Array Oper) (S:World→Prop) (o:Oper) (a:Act) (K:Act→Prop):Prop:=
 if Region.wanted o (yielded ops a.tmps) then ∃v,(∀w',S w'→(execOp a.eval o).run P w' = .ok (.value v) w')∧K (a.put o.dst v) else K (a.put o.dst undef)
def wpPlan (P:Program) (ops:Array Oper) (Q:Exit→Act→World→Prop) (S:World→Prop) (z:Nat):List (Bool×Nat)→Act→World→Prop
 | [],a,w=>Q .normal a w
 | (true,i)::r,a,w=>∃o,ops[i]?=some o∧takeOp P ops S o a (fun a'=>wpPlan P ops Q S z r a' w)
 | (false,i)::r,a,w=>∃o,ops[i]?=some o∧wpList P ops (Exit.then (fun a' w'=>(i=z∨S w')∧wpPlan P ops Q S z r a' w') Q) [o] a w
def planFrom (md:Region.Mode) (ops:Array Oper) (z:Nat):List (Bool×Nat)→Array Bool→Bool
 | [],listed=>(Region.ready md ops listed).isEmpty
 | (true,i)::r,listed=>i != z&&Region.free md ops listed i&&(Region.ready md ops listed).contains i&&planFrom md ops z r (listed.setIfInBounds i true)
 | (false,i)::r,listed=>(Region.ready md ops listed==[i])&&planFrom md ops z r (listed.setIfInBounds i true)
def planB (md:Region.Mode) (ops:Array Oper) (z:Nat) (plan:List (Bool×Nat)):Bool:=
 Region.noSelect ops&&waitsAll md ops z&&planFrom md ops z plan (Array.replicate ops.size false)
theorem upon_then {o:Oper} {a:Act} {next K:Act→World→Prop} {r:Result Next} (h:o.upon P a next (Exit.then K Q) r):o.upon P a next Q r:=by
 cases r with
 | ok n w'=>cases n <;> exact h
 | halt x w'=>cases x <;> exact h
theorem wpAnyZ_of_plan (hsel:Region.noSelect ops=true) (hz:waitsAll md ops z=true) (hQ:∀c a a' w,Q (.panic c) a w→Q (.panic c) a' w) :
  ∀(plan:List (Bool×Nat)) (listed:Array Bool) (a:Act) (w:World),planFrom md ops z plan listed=true→(plan≠[]→plan.head?.map (·.1)=some true→S w)→wpPlan P ops Q S z plan a w→wpAnyZ P md ops Q S z plan.length listed a w
 | [],listed,a,w,hB,_,h=>⟨by simpa [planFrom] using hB,h⟩
 | (true,i)::r,listed,a,w,hB,hS,h=>by
  simp only [planFrom,Bool.and_eq_true,bne_iff_ne] at hB;obtain ⟨⟨⟨hiz,hf⟩,hr⟩,hB'⟩:=hB;obtain ⟨o,ho,ht⟩:=h;have hSw:S w:=hS (by simp) rfl;unfold takeOp at ht
  split at ht
  ·rename_i hw
   obtain ⟨v,hv,hK⟩:=ht
   exact wpAnyZ_first ho hz hiz (Region.noSelect_spec hsel) (fun c a w=>hQ c _ _ w) r.length listed a w (Region.free_spec ho hf) (by simpa using hr) (.inl ⟨hw,hv⟩) hSw
    (wpAnyZ_of_plan hsel hz hQ r _ _ _ hB' (fun _ _=>hSw) hK)
  ·rename_i hw
   exact wpAnyZ_first ho hz hiz (Region.noSelect_spec hsel) (fun c a w=>hQ c _ _ w) r.length listed a w (Region.free_spec ho hf) (by simpa using hr) (.inr ⟨by simpa using hw,rfl⟩) hSw
    (wpAnyZ_of_plan hsel hz hQ r _ _ _ hB' (fun _ _=>hSw) ht)
 | (false,i)::r,listed,a,w,hB,hS,h=>by
  simp only [planFrom,Bool.and_eq_true,beq_iff_eq] at hB;obtain ⟨hr,hB'⟩:=hB;obtain ⟨o,ho,ht⟩:=h;refine ⟨fun h0=>(by rw [hr] at h0;cases h0),fun j hj=>?_⟩;rw [hr] at hj
  obtain rfl:j=i:=by simpa using hj
  have hstep:∀a' w',((j=z∨S w')∧wpPlan P ops Q S z r a' w')→((j=z∨S w')∧wpAnyZ P md ops Q S z r.length (listed.setIfInBounds j true) a' w'):=fun a' w' ⟨k1,k2⟩=>
   ⟨k1,wpAnyZ_of_plan hsel hz hQ r _ _ _ hB' (fun hne hhd=>by
    rcases k1 with k1|k1
    ·subst k1
     cases r with
     | nil=>exact absurd rfl hne
     | cons x r'=>
      obtain ⟨b,i'⟩:=x;simp at hhd;subst hhd;simp only [planFrom,Bool.and_eq_true,bne_iff_ne] at hB';obtain ⟨⟨⟨hiz,hf'⟩,hr'⟩,_⟩:=hB'
      have hmem:i'∈Region.ready md ops (listed.setIfInBounds j true):=by simpa using hr'
      obtain ⟨hun,oi,hoi,_⟩:=mem_ready.1 hmem
      have hun':listed.getD i' false=false:=by
       rw [getD_set_ne true (Ne.symm hiz)] at hun;exact getD_both hun
      exact absurd (by rw [hr];simp) (waitsAll_spec hz hoi hiz hun')
    ·exact k1) k2⟩
  unfold wpOp;simp only [ho];unfold wpList at ht
  split
  ·rename_i hw
   rw [if_pos hw] at ht
   rcases ht with ht|⟨h1,h2⟩
   ·refine .inl ?_
    unfold Oper.wp at *;have:=upon_then ht;exact Oper.wp_mono (fun a' w' hk=>hstep a' w' hk) this
   ·exact .inr ⟨h1,h2⟩
  ·rename_i hw
   rw [if_neg hw] at ht;exact hstep _ _ ht
theorem wp_region_plan {id:Nat} {a:Act} {w:World} {l:List Oper} (plan:List (Bool×Nat)) (z:Nat) (S:World→Prop) (hm:P.follows .mixedOrders=true) (hB:planB .any l.toArray z plan=true) (hl:plan.length=l.length)
  (hS:S w.drew) (h:wpPlan P l.toArray (NoPanic Q) S z plan a w.drew):(Code.region id l.toArray true).wp P Q a w:=by
 simp only [planB,Bool.and_eq_true] at hB;refine wp_region_noPanic (wp_region_any hm ?_);have:=wpAny_of_Z _ _ _ _ (wpAnyZ_of_plan (Q:=NoPanic Q) hB.1.1 hB.1.2 (fun c a a' w k=>k) plan _ a w.drew hB.2 (fun _ _=>hS) h);rw [hl] at this
 simpa using this
end
def isRead:Op→Bool
 | .move _ | .assign _ | .pick .. | .load .. | .binOp .. | .unOp .. | .convert .. | .fieldAddr .. | .field .. | .indexAddr .. | .index .. | .slice .. | .build .. | .extract .. | .lookup .. | .makeInterface .. | .makeFunc .. | .sliceToArrayPointer ..=>true
 | .call { callee:=.builtin .len,.. }=>true
 | _=>false
theorem value_run {P:Program} {s:Sem Value} {w w':World} {n:Next} (h:(s.bind fun v=>Sem.pure (Next.value v)).run P w = .ok n w'):∃v,n = .value v:=by
 rw [Sem.run_bind'] at h
 cases hs:s.run P w with
 | ok v w1=>rw [hs] at h;simp [Sem.run] at h;exact ⟨v,h.1.symm⟩
 | halt x w1=>rw [hs] at h;simp at h
theorem value_only {P:Program} {ρ : Operand→Value} {o:Oper} (hr:isRead o.op=true) {w w':World} {n:Next} (h:(execOp ρ o).run P w = .ok n w'):∃v,n = .value v:=by
 unfold execOp at h;generalize hop:o.op=op at hr h
 cases op <;> first|(simp only [isRead,Bool.false_eq_true] at hr;done)|skip
 case move x=>simp at h;exact ⟨_,h.1.symm⟩
 case assign x=>simp at h;exact ⟨_,h.1.symm⟩
 case pick c a b=>
  simp at h
  cases hs:(asBool (ρ c)).run P w with
  | ok x w1=>rw [hs] at h;simp at h;exact ⟨_,h.1.symm⟩
  | halt x w1=>rw [hs] at h;simp at h
 case call c=>
  rcases c with ⟨callee,args,ats⟩
  cases callee with
  | value f=>cases hr
  | invoke f g=>cases hr
  | builtin b=>
   cases b <;> simp only [isRead,Bool.false_eq_true] at hr
   exact value_run (s:=Builtin.len_ ats o.type (args.map ρ)) h
 all_goals exact value_run h
open Classical in
noncomputable def lowg (N:Nat) (w d:World):World:=if Same 0 N w d then d else w
theorem lowg_same (N:Nat) (w d:World):Same 0 N w (lowg N w d):=by
 unfold lowg
 split
 ·assumption
 ·exact fun _ _ _=>rfl
theorem lowg_of {N:Nat} {w d:World} (h:Same 0 N w d):d=lowg N w d:=by unfold lowg;rw [if_pos h]
@[go_sem] theorem cell?_lowg (N:Nat) (w d:World) (a:Addr) (h:a.block<N):(lowg N w d).cell? a=w.cell? a:=World.cell?_of_block (w:=w) (lowg_same N w d a.block (Nat.zero_le _) h)
@[go_sem] theorem frozen?_lowg (N:Nat) (w d:World) (a:Addr) (h:a.block<N):(lowg N w d).frozen? a=w.frozen? a:=World.frozen?_of_block (w:=w) (lowg_same N w d a.block (Nat.zero_le _) h)
def wpStages (P:Program) (ops:Array Oper) (Q:Exit→Act→World→Prop) (N:Nat) (w0:World) (z:Nat):List (List Nat×Nat)→Act→World→Prop
 | [],a,w=>Q .normal a w
 | (T,e)::r,a,w=>wpQuiet P ops (fun w'=>∃d,w'=lowg N w0 d) (fun a'=>∃o,ops[e]?=some o∧wpList P ops (Exit.then (fun a2 w2=>(e=z∨Same 0 N w0 w2)∧wpStages P ops Q N w0 z r a2 w2) Q) [o] a' w) (T.filterMap (ops[·]?)) a
def stagesPlan:List (List Nat×Nat)→List (Bool×Nat)
 | []=>[]
 | (T,e)::r=>T.map (fun i=>(true,i))++(false,e)::stagesPlan r
def readsOk (ops:Array Oper):List (List Nat×Nat)→Bool
 | []=>true
 | (T,_)::r=>T.all (fun i=>match ops[i]? with|some o=>isRead o.op|none=>false)&&readsOk ops r
theorem plan_of_quiet {P:Program} {ops:Array Oper} {Q:Exit→Act→World→Prop} {N:Nat} {w0:World} {z:Nat} {r:List (Bool×Nat)} {w:World} {K:Act→Prop}
  (hK:∀a,K a→wpPlan P ops Q (fun w'=>∃d,w'=lowg N w0 d) z r a w) :
  ∀(T:List Nat) (a:Act),T.all (fun i=>match ops[i]? with|some o=>isRead o.op|none=>false)=true→wpQuiet P ops (fun w'=>∃d,w'=lowg N w0 d) K (T.filterMap (ops[·]?)) a →
   wpPlan P ops Q (fun w'=>∃d,w'=lowg N w0 d) z (T.map (fun i=>(true,i))++r) a w
 | [],a,_,h=>hK a h
 | i::T,a,hr,h=>by
  simp only [List.all_cons,Bool.and_eq_true] at hr;obtain ⟨hri,hr'⟩:=hr
  cases ho:ops[i]? with
  | none=>rw [ho] at hri;cases hri
  | some o=>
   rw [ho] at hri;simp only [List.filterMap_cons,ho] at h;refine ⟨o,ho,?_⟩;unfold takeOp;unfold wpQuiet at h
   split
   ·rename_i hw
    rw [if_pos hw] at h;obtain ⟨v,hv,hn⟩:=h;refine ⟨v,fun w' hw'=>?_,plan_of_quiet hK T _ hr' hn⟩;have h1:=hv w' hw';unfold Oper.quietAt at h1
    cases hrun:(execOp a.eval o).run P w' with
    | halt x w1=>rw [hrun] at h1;exact h1.elim
    | ok n w1=>
     obtain ⟨u,rfl⟩:=value_only hri hrun;rw [hrun] at h1;obtain ⟨e1,e2⟩:=h1;rw [e1,e2]
   ·rename_i hw
    rw [if_neg hw] at h;exact plan_of_quiet hK T _ hr' h
theorem plan_of_stages {P:Program} {ops:Array Oper} {Q:Exit→Act→World→Prop} {N:Nat} {w0:World} {z:Nat}:∀(st:List (List Nat×Nat)) (a:Act) (w:World),readsOk ops st=true →
  wpStages P ops Q N w0 z st a w→wpPlan P ops Q (fun w'=>∃d,w'=lowg N w0 d) z (stagesPlan st) a w
 | [],_,_,_,h=>h
 | (T,e)::r,a,w,hr,h=>by
  simp only [readsOk,Bool.and_eq_true] at hr;refine plan_of_quiet (K:=fun a'=>∃o,ops[e]?=some o∧wpList P ops (Exit.then (fun a2 w2=>(e=z∨Same 0 N w0 w2)∧wpStages P ops Q N w0 z r a2 w2) Q) [o] a' w) (fun a' ha=>?_) T a hr.1 h;obtain ⟨o,ho,hl⟩:=ha;refine ⟨o,ho,?_⟩
  have key:∀a2 w2,((e=z∨Same 0 N w0 w2)∧wpStages P ops Q N w0 z r a2 w2)→((e=z∨∃d,w2=lowg N w0 d)∧wpPlan P ops Q (fun w'=>∃d,w'=lowg N w0 d) z (stagesPlan r) a2 w2):=
   fun a2 w2 ⟨k1,k2⟩=>⟨k1.imp id (fun k=>⟨_,lowg_of k⟩),plan_of_stages r a2 w2 hr.2 k2⟩
  unfold wpList at hl ⊢
  split
  ·rename_i hw
   rw [if_pos hw] at hl
   rcases hl with hl|⟨h1,h2⟩
   ·refine .inl ?_
    have h3:=upon_then hl;have h4:o.wp P a' w (wpList P ops (Exit.then (fun a2 w2=>(e=z∨Same 0 N w0 w2)∧wpStages P ops Q N w0 z r a2 w2) Q) []) Q:=h3;have h5:=Oper.wp_mono (K':=wpList P ops (Exit.then (fun a2 w2=>(e=z∨∃d,w2=lowg N w0 d)∧wpPlan P ops Q (fun w'=>∃d,w'=lowg N w0 d) z (stagesPlan r) a2 w2) Q) []) (fun a2 w2 hk=>key a2 w2 hk) h4;unfold Oper.wp at h5 ⊢;generalize (execOp a'.eval o).run P w=res at h5 ⊢
    cases res with
    | ok n w'=>cases n <;> exact h5
    | halt x w'=>cases x <;> exact h5
   ·exact .inr ⟨h1,h2⟩
  ·rename_i hw
   rw [if_neg hw] at hl;exact key _ _ hl
theorem wp_region_stages {P:Program} {Q:Exit→Act→World→Prop} {id:Nat} {a:Act} {w:World} {l:List Oper} (st:List (List Nat×Nat)) (z N:Nat) (hm:P.follows .mixedOrders=true)
  (hB:(planB .any l.toArray z (stagesPlan st)&&readsOk l.toArray st&&(stagesPlan st).length==l.length)=true)
  (h:wpStages P l.toArray (NoPanic Q) N w z st a w.drew):(Code.region id l.toArray true).wp P Q a w:=by
 simp only [Bool.and_eq_true,beq_iff_eq] at hB
 have hs:∀w2,Same 0 N w w2→∃d,w2=lowg N w d:=fun w2 k=>⟨_,lowg_of k⟩
 exact wp_region_plan (stagesPlan st) z (fun w'=>∃d,w'=lowg N w d) hm hB.1.1 hB.2 (hs _ (fun _ _ _=>rfl)) (plan_of_stages st a w.drew hB.1.2 h)
theorem wpStages_nil {P:Program} {ops:Array Oper} {Q:Exit→Act→World→Prop} {N:Nat} {w0:World} {z:Nat} {a:Act} {w:World} (h:Q .normal a w):wpStages P ops (NoPanic Q) N w0 z [] a w:=h
theorem wpStages_cons {P:Program} {ops:Array Oper} {Q:Exit→Act→World→Prop} {N:Nat} {w0:World} {z:Nat} {T:List Nat} {e:Nat} {r:List (List Nat×Nat)} {a:Act} {w:World}
  (h:wpQuiet P ops (fun w'=>∃d,w'=lowg N w0 d) (fun a'=>∃o,ops[e]?=some o∧∀K:Act→World→Prop,(∀a2 w2,(e=z∨Same 0 N w0 w2)→wpStages P ops Q N w0 z r a2 w2→K a2 w2)→wpList P ops (Exit.then K Q) [o] a' w) (T.filterMap (ops[·]?)) a) :
  wpStages P ops Q N w0 z ((T,e)::r) a w:=by
 unfold wpStages
 have e1:(fun a'=>∃o,ops[e]?=some o∧wpList P ops (Exit.then (fun a2 w2=>(e=z∨Same 0 N w0 w2)∧wpStages P ops Q N w0 z r a2 w2) Q) [o] a' w) =
   (fun a'=>∃o,ops[e]?=some o∧∀K:Act→World→Prop,(∀a2 w2,(e=z∨Same 0 N w0 w2)→wpStages P ops Q N w0 z r a2 w2→K a2 w2)→wpList P ops (Exit.then K Q) [o] a' w):=by
  funext a'
  refine propext ⟨fun ⟨o,ho,hl⟩=>⟨o,ho,fun K hK=>?_⟩,fun ⟨o,ho,hl⟩=>⟨o,ho,hl _ fun a2 w2 h1 h2=>⟨h1,h2⟩⟩⟩;unfold wpList at hl ⊢
  split
  ·rename_i hw
   rw [if_pos hw] at hl
   rcases hl with hl|⟨h1,h2⟩
   ·refine .inl ?_
    have h4:=Oper.wp_mono (K':=wpList P ops (Exit.then K Q) []) (fun a2 w2 hk=>hK a2 w2 hk.1 hk.2) hl;unfold Oper.wp at h4 ⊢;generalize (execOp a'.eval o).run P w=res at h4 ⊢
    cases res with
    | ok n w'=>cases n <;> exact h4
    | halt x w'=>cases x <;> exact h4
   ·exact .inr ⟨h1,h2⟩
  ·rename_i hw
   rw [if_neg hw] at hl;exact hK _ _ hl.1 hl.2
 rw [e1];exact h
def wpZ (P:Program) (ops:Array Oper) (Q:Exit→Act→World→Prop) (N:Nat) (w0:World) (z fuel:Nat) (listed:Array Bool) (a:Act) (w:World):Prop:=
 wpAnyZ P .any ops Q (fun w'=>∃d,w'=lowg N w0 d) z fuel listed a w
def listAll:List Nat→Array Bool→Array Bool
 | [],l=>l
 | i::r,l=>listAll r (l.setIfInBounds i true)
def takesOk (ops:Array Oper) (z:Nat):List Nat→Array Bool→Bool
 | [],_=>true
 | i::r,l=>(match ops[i]? with|some o=>isRead o.op|none=>false)&&(i != z&&Region.free .any ops l i&&(Region.ready .any ops l).contains i)&&takesOk ops z r (l.setIfInBounds i true)
def stageOk (ops:Array Oper) (z:Nat) (T E:List Nat) (l:Array Bool):Bool:=
 Region.noSelect ops&&waitsAll .any ops z&&takesOk ops z T l&&(Region.ready .any ops (listAll T l)==E) && !E.isEmpty
def wpComes (P:Program) (ops:Array Oper) (Q:Exit→Act→World→Prop) (N:Nat) (w0:World) (z fuel:Nat) (l:Array Bool) (e:Nat) (a:Act) (w:World):Prop:=
 ∃o,ops[e]?=some o∧∀K:Act→World→Prop,(∀a2 w2,(e=z∨Same 0 N w0 w2)→wpZ P ops Q N w0 z fuel (l.setIfInBounds e true) a2 w2→K a2 w2)→wpList P ops (Exit.then K Q) [o] a w
theorem wpOp_of_comes {P:Program} {ops:Array Oper} {Q:Exit→Act→World→Prop} {N:Nat} {w0:World} {z fuel:Nat} {l:Array Bool} {e:Nat} {a:Act} {w:World} (h:wpComes P ops Q N w0 z fuel l e a w) :
  wpOp P ops Q e (fun a' w'=>(e=z∨∃d,w'=lowg N w0 d)∧wpZ P ops Q N w0 z fuel (l.setIfInBounds e true) a' w') a w:=by
 obtain ⟨o,ho,hl⟩:=h;have ht:=hl (fun a' w'=>(e=z∨∃d,w'=lowg N w0 d)∧wpZ P ops Q N w0 z fuel (l.setIfInBounds e true) a' w') (fun a2 w2 k1 k2=>⟨k1.imp id (fun k=>⟨_,lowg_of k⟩),k2⟩);unfold wpOp;simp only [ho];unfold wpList at ht
 split
 ·rename_i hw
  rw [if_pos hw] at ht
  rcases ht with ht|⟨h1,h2⟩
  ·refine .inl ?_
   have h3:=upon_then ht;exact h3
  ·exact .inr ⟨h1,h2⟩
 ·rename_i hw
  rw [if_neg hw] at ht;exact ht
theorem wpZ_takes {P:Program} {ops:Array Oper} {Q:Exit→Act→World→Prop} {N:Nat} {w0:World} {z fuel:Nat} {w:World} {K:Act→Prop} (hsel:Region.noSelect ops=true) (hz:waitsAll .any ops z=true) (hS:∃d,w=lowg N w0 d) :
  ∀(T:List Nat) (l:Array Bool) (a:Act),takesOk ops z T l=true→(∀a,K a→wpZ P ops (NoPanic Q) N w0 z fuel (listAll T l) a w) →
   wpQuiet P ops (fun w'=>∃d,w'=lowg N w0 d) K (T.filterMap (ops[·]?)) a→wpZ P ops (NoPanic Q) N w0 z (T.length+fuel) l a w
 | [],l,a,_,hK,h=>by rw [List.length_nil,Nat.zero_add];exact hK a h
 | i::T,l,a,hT,hK,h=>by
  simp only [takesOk,Bool.and_eq_true,bne_iff_ne] at hT;obtain ⟨⟨hri,⟨hiz,hf⟩,hr⟩,hT'⟩:=hT
  cases ho:ops[i]? with
  | none=>rw [ho] at hri;cases hri
  | some o=>
   rw [ho] at hri;simp only [List.filterMap_cons,ho] at h;unfold wpQuiet at h
   have hlen:(i::T).length+fuel=T.length+fuel+1:=by rw [List.length_cons];omega
   rw [hlen]
   split at h
   ·rename_i hw
    obtain ⟨v,hv,hn⟩:=h;refine wpAnyZ_first (v:=v) ho hz hiz (Region.noSelect_spec hsel) (fun c a w k=>k) _ l a w (Region.free_spec ho hf) (by simpa using hr) (.inl ⟨hw,fun w' hw'=>?_⟩) hS (wpZ_takes hsel hz hS T _ _ hT' hK hn);have h1:=hv w' hw';unfold Oper.quietAt at h1
    cases hrun:(execOp a.eval o).run P w' with
    | halt x w1=>rw [hrun] at h1;exact h1.elim
    | ok n w1=>
     obtain ⟨u,rfl⟩:=value_only hri hrun;rw [hrun] at h1;obtain ⟨e1,e2⟩:=h1;rw [e1,e2]
   ·rename_i hw
    exact wpAnyZ_first (v:=undef) ho hz hiz (Region.noSelect_spec hsel) (fun c a w k=>k) _ l a w (Region.free_spec ho hf) (by simpa using hr) (.inr ⟨by simpa using hw,rfl⟩) hS (wpZ_takes hsel hz hS T _ _ hT' hK h)
theorem wpZ_stage {P:Program} {ops:Array Oper} {Q:Exit→Act→World→Prop} {N:Nat} {w0:World} {z fuel:Nat} {l:Array Bool} {a:Act} {w:World} (T E:List Nat) (hB:stageOk ops z T E l=true) (hS:Same 0 N w0 w)
  (h:wpQuiet P ops (fun w'=>∃d,w'=lowg N w0 d) (fun a'=>∀e∈E,wpComes P ops (NoPanic Q) N w0 z fuel (listAll T l) e a' w) (T.filterMap (ops[·]?)) a) :
  wpZ P ops (NoPanic Q) N w0 z (T.length+(fuel+1)) l a w:=by
 simp only [stageOk,Bool.and_eq_true,beq_iff_eq] at hB;obtain ⟨⟨⟨⟨h1,h2⟩,h3⟩,h4⟩,h5⟩:=hB;refine wpZ_takes h1 h2 ⟨_,lowg_of hS⟩ T l a h3 (fun a' hk=>?_) h;refine ⟨fun h0=>?_,fun e he=>?_⟩
 ·rw [h4] at h0;rw [h0] at h5;cases h5
 ·rw [h4] at he
  exact wpOp_of_comes (hk e he)
theorem z1_ {P:Program} {ops:Array Oper} {Q:Exit→Act→World→Prop} {N:Nat} {w0:World} {z fuel:Nat} {l:Array Bool} {a:Act} {w:World} {lst:List Oper} {a0 a1:Act} {o:Oper} (T:List Nat) (e:Nat) (hS:Same 0 N w0 w)
  (h:∀K:Act→World→Prop,(∀a2 w2,(e=z∨Same 0 N w0 w2)→wpZ P ops (NoPanic Q) N w0 z fuel ((listAll T l).setIfInBounds e true) a2 w2→K a2 w2)→wpList P ops (Exit.then K (NoPanic Q)) [o] a1 w)
  (hl:T.filterMap (ops[·]?)=lst:=by first|(simp only [List.filterMap_cons,List.filterMap_nil,List.getElem?_toArray,List.getElem?_cons_zero,List.getElem?_cons_succ];rfl)|rfl)
  (ha:a=a0:=by first|(simp only [Act.put,List.setIfInBounds_toArray,List.set_cons_succ,List.set_cons_zero];rfl)|rfl)
  (hq:∀R:Act→Prop,R a1→wpQuiet P ops (fun w'=>∃d,w'=lowg N w0 d) R lst a0:=by intro R h;(repeat (show wpQuiet _ _ _ _ (_::_) _;go_big_quiet_step (fail)));exact wpQuiet_nil h)
  (hB:stageOk ops z T [e] l=true:=by kernel_rfl) (ho:ops[e]?=some o:=by first|(simp only [List.getElem?_toArray,List.getElem?_cons_succ,List.getElem?_cons_zero];rfl)|rfl):wpZ P ops (NoPanic Q) N w0 z (T.length+(fuel+1)) l a w:=by
 subst ha;refine wpZ_stage T [e] hB hS ?_;rw [hl];refine hq _ (fun e' he=>?_)
 obtain rfl:e'=e:=by simpa using he
 exact ⟨o,ho,h⟩
theorem z2_ {P:Program} {ops:Array Oper} {Q:Exit→Act→World→Prop} {N:Nat} {w0:World} {z fuel:Nat} {l:Array Bool} {a:Act} {w:World} {lst:List Oper} {a0 a1:Act} {o1 o2:Oper} (T:List Nat) (e1 e2:Nat) (hS:Same 0 N w0 w)
  (h1:∀K:Act→World→Prop,(∀a2 w2,(e1=z∨Same 0 N w0 w2)→wpZ P ops (NoPanic Q) N w0 z fuel ((listAll T l).setIfInBounds e1 true) a2 w2→K a2 w2)→wpList P ops (Exit.then K (NoPanic Q)) [o1] a1 w)
  (h2:∀K:Act→World→Prop,(∀a2 w2,(e2=z∨Same 0 N w0 w2)→wpZ P ops (NoPanic Q) N w0 z fuel ((listAll T l).setIfInBounds e2 true) a2 w2→K a2 w2)→wpList P ops (Exit.then K (NoPanic Q)) [o2] a1 w)
  (hl:T.filterMap (ops[·]?)=lst:=by first|(simp only [List.filterMap_cons,List.filterMap_nil,List.getElem?_toArray,List.getElem?_cons_zero,List.getElem?_cons_succ];rfl)|rfl)
  (ha:a=a0:=by first|(simp only [Act.put,List.setIfInBounds_toArray,List.set_cons_succ,List.set_cons_zero];rfl)|rfl)
  (hq:∀R:Act→Prop,R a1→wpQuiet P ops (fun w'=>∃d,w'=lowg N w0 d) R lst a0:=by intro R h;(repeat (show wpQuiet _ _ _ _ (_::_) _;go_big_quiet_step (fail)));exact wpQuiet_nil h)
  (hB:stageOk ops z T [e1,e2] l=true:=by kernel_rfl) (ho1:ops[e1]?=some o1:=by first|(simp only [List.getElem?_toArray,List.getElem?_cons_succ,List.getElem?_cons_zero];rfl)|rfl) (ho2:ops[e2]?=some o2:=by first|(simp only [List.getElem?_toArray,List.getElem?_cons_succ,List.getElem?_cons_zero];rfl)|rfl):wpZ P ops (NoPanic Q) N w0 z (T.length+(fuel+1)) l a w:=by
 subst ha;refine wpZ_stage T [e1,e2] hB hS ?_;rw [hl];refine hq _ (fun e' he=>?_)
 rcases (show e'=e1∨e'=e2 by simpa using he) with rfl|rfl
 ·exact ⟨o1,ho1,h1⟩
 ·exact ⟨o2,ho2,h2⟩
theorem wpZ_end {P:Program} {ops:Array Oper} {Q:Exit→Act→World→Prop} {N:Nat} {w0:World} {z:Nat} {l:Array Bool} {a:Act} {w:World} (hB:(Region.ready .any ops l).isEmpty=true) (h:Q .normal a w):wpZ P ops (NoPanic Q) N w0 z 0 l a w:=
 ⟨by simpa using hB,h⟩
theorem wp_region_Z {P:Program} {Q:Exit→Act→World→Prop} {id:Nat} {a:Act} {w:World} {l:List Oper} (z N:Nat) (hm:P.follows .mixedOrders=true)
  (h:wpZ P l.toArray (NoPanic Q) N w z l.length (Array.replicate l.length false) a w.drew):(Code.region id l.toArray true).wp P Q a w:=by
 refine wp_region_noPanic (wp_region_any hm ?_);have:=wpAny_of_Z _ _ _ _ h
 simpa using this
theorem st_ {P:Program} {ops:Array Oper} {Q:Exit→Act→World→Prop} {N:Nat} {w0:World} {z:Nat} {T:List Nat} {e:Nat} {r:List (List Nat×Nat)} {a:Act} {w:World} {l:List Oper} {a0 a1:Act} {o:Oper}
  (h:∀K:Act→World→Prop,(∀a2 w2,(e=z∨Same 0 N w0 w2)→wpStages P ops Q N w0 z r a2 w2→K a2 w2)→wpList P ops (Exit.then K Q) [o] a1 w)
  (hl:T.filterMap (ops[·]?)=l:=by first|(simp only [List.filterMap_cons,List.filterMap_nil,List.getElem?_toArray,List.getElem?_cons_zero,List.getElem?_cons_succ];rfl)|rfl)
  (ha:a=a0:=by first|(simp only [Act.put,List.setIfInBounds_toArray,List.set_cons_succ,List.set_cons_zero];rfl)|rfl)
  (hq:∀R:Act→Prop,R a1→wpQuiet P ops (fun w'=>∃d,w'=lowg N w0 d) R l a0:=by intro R h;(repeat (show wpQuiet _ _ _ _ (_::_) _;go_big_quiet_step (fail)));exact wpQuiet_nil h) (ho:ops[e]?=some o:=by first|(simp only [List.getElem?_toArray,List.getElem?_cons_succ,List.getElem?_cons_zero];rfl)|rfl):wpStages P ops Q N w0 z ((T,e)::r) a w:=by
 subst ha;refine wpStages_cons ?_;rw [hl];exact hq _ ⟨o,ho,h⟩
def cl (n:Int):Int:=clampI n (-1000000) 1000000
theorem clampFn_val {n c:Int} (h:cl n=c) (w:World):Calls Tryz.prog 232 #[.int .i64 n] w fun e w'=>e = .returned (.int .i64 c)∧w=w':=by
 go_enter Tryz.func232,Tryz.ntmps232;go_wp2_with fail;refine (iClamp_val h _).mono ?_;rintro e w1 ⟨rfl,rfl⟩;go_wp2;go_ret;exact ⟨rfl,rfl⟩
theorem l02N_cl {n c:Int} (h:cl n=c) (w:World):Calls Tryz.prog 242 #[.int .i64 n] w fun e w'=>e = .returned (.int .i64 c)∧w=w':=by
 go_enter Tryz.func242,Tryz.ntmps242;go_wp2_with fail;refine (sClamp_val h _).mono ?_;rintro e w1 ⟨rfl,rfl⟩;go_wp2;go_ret;exact ⟨rfl,rfl⟩
theorem eachClamp_val {x y z a b c:Int} (ha:cl x=a) (hb:cl y=b) (hc:cl z=c) (w:World) :
  Calls Tryz.prog 231 #[.agg #[.int .i64 x,.int .i64 y,.int .i64 z],.func (.func 232) #[] #[]] w fun e w'=>e = .returned (.agg #[.int .i64 a,.int .i64 b,.int .i64 c])∧Ext w w':=by
 have HA:=hid ha;have HB:=hid hb;have HC:=hid hc;clear ha hb hc;go_enter Tryz.func231,Tryz.ntmps231;go_wp2;refine wp_region_stages [([0,1,2,4,5,6,8,9,10],3),([],7),([],11),([12],13)] 13 (w.heap.size+1+1) (by kernel_rfl) (by kernel_rfl) ?_;refine wpStages_cons ?_;simp only [List.filterMap_cons,List.filterMap_nil,List.getElem?_toArray,List.getElem?_cons_zero,List.getElem?_cons_succ]
 show wpQuiet _ _ _ _ [_,_,_,_,_,_,_,_,_] _
 repeat (go_big_quiet_step (fail))
 refine wpQuiet_nil ⟨_,rfl,fun K hK=>?_⟩;go_wp2_with fail;refine (clampFn_val HA.out _).mono ?_;rintro e w1 ⟨rfl,rfl⟩;go_wp2_with fail;refine hK _ _ (.inr (fun b _ hb=>Ext.block X_ (by simp;omega))) ?_;clear hK K;refine wpStages_cons ?_;simp only [List.filterMap_nil]
 show wpQuiet _ _ _ _ [] _
 try simp only [Act.put,List.setIfInBounds_toArray,List.set_cons_succ,List.set_cons_zero]
 refine wpQuiet_nil ⟨_,rfl,fun K hK=>?_⟩;go_wp2_with fail;refine (clampFn_val HB.out _).mono ?_;rintro e w1 ⟨rfl,rfl⟩;go_wp2_with fail;refine hK _ _ (.inr (fun b _ hb=>Ext.block X_ (by simp;omega))) ?_;clear hK K;refine wpStages_cons ?_;simp only [List.filterMap_nil]
 show wpQuiet _ _ _ _ [] _
 try simp only [Act.put,List.setIfInBounds_toArray,List.set_cons_succ,List.set_cons_zero]
 refine wpQuiet_nil ⟨_,rfl,fun K hK=>?_⟩;go_wp2_with fail;refine (clampFn_val HC.out _).mono ?_;rintro e w1 ⟨rfl,rfl⟩;go_wp2_with fail;refine hK _ _ (.inr (fun b _ hb=>Ext.block X_ (by simp;omega))) ?_;clear hK K;refine wpStages_cons ?_;simp only [List.filterMap_cons,List.filterMap_nil,List.getElem?_toArray,List.getElem?_cons_zero,List.getElem?_cons_succ]
 show wpQuiet _ _ _ _ [_] _
 try simp only [Act.put,List.setIfInBounds_toArray,List.set_cons_succ,List.set_cons_zero]
 repeat (go_big_quiet_step (fail))
 refine wpQuiet_nil ⟨_,rfl,fun K hK=>?_⟩;go_wp2_with fail;refine hK _ _ (.inl (by trivial)) (wpStages_nil ?_);clear hK K;go_wp2;exact bodyPost_ret (v:=.agg #[.int .i64 a,.int .i64 b,.int .i64 c]) (by simp [results,Tryz.results231,go_sem, *]) rfl ⟨rfl,S_⟩
theorem clamped_val {x y z a b c:Int} (ha:cl x=a) (hb:cl y=b) (hc:cl z=c) (w:World) :
  Calls Tryz.prog 168 #[.agg #[.int .i64 x,.int .i64 y,.int .i64 z]] w fun e w'=>e = .returned (.agg #[.int .i64 a,.int .i64 b,.int .i64 c])∧Ext w w':=by
 go_enter Tryz.func168,Tryz.ntmps168;go_wp2_with fail;refine (eachClamp_val ha hb hc _).mono ?_;rintro e w1 ⟨rfl,h1⟩;obtain ⟨c1,f1⟩:=h1.cells;have z1:=h1.size;simp only [World.size_alloc] at z1
 have q0:w.heap.size<w1.heap.size:=by omega
 have q1:w.heap.size+1<w1.heap.size:=by omega
 have E1:Ext w w1:=Ext.trans X_ h1;go_wp2;exact bodyPost_ret (v:=.agg #[.int .i64 a,.int .i64 b,.int .i64 c]) (by simp [results,Tryz.results168,go_sem, *]) rfl ⟨rfl,S_⟩
theorem l02V_val {x y z a b c:Int} (ha:cl x=a) (hb:cl y=b) (hc:cl z=c) (w:World) :
  Calls Tryz.prog 187 #[.agg #[.int .i64 x,.int .i64 y,.int .i64 z]] w fun e w'=>e = .returned (.agg #[.int .i64 a,.int .i64 b,.int .i64 c])∧Ext w w':=by
 have HA:=hid ha;have HB:=hid hb;have HC:=hid hc;clear ha hb hc;go_enter Tryz.func187,Tryz.ntmps187;go_wp2;refine wp_region_stages [([0,1,3,4,6,7],2),([],5),([],8),([9],10)] 10 (w.heap.size+1+1) (by kernel_rfl) (by kernel_rfl) ?_;refine wpStages_cons ?_;simp only [List.filterMap_cons,List.filterMap_nil,List.getElem?_toArray,List.getElem?_cons_zero,List.getElem?_cons_succ]
 show wpQuiet _ _ _ _ [_,_,_,_,_,_] _
 repeat (go_big_quiet_step (fail))
 refine wpQuiet_nil ⟨_,rfl,fun K hK=>?_⟩;go_wp2_with fail;refine (l02N_cl HA.out _).mono ?_;rintro e w1 ⟨rfl,rfl⟩;go_wp2_with fail;refine hK _ _ (.inr (fun b _ hb=>Ext.block X_ (by simp;omega))) ?_;clear hK K;refine wpStages_cons ?_;simp only [List.filterMap_nil]
 show wpQuiet _ _ _ _ [] _
 try simp only [Act.put,List.setIfInBounds_toArray,List.set_cons_succ,List.set_cons_zero]
 refine wpQuiet_nil ⟨_,rfl,fun K hK=>?_⟩;go_wp2_with fail;refine (l02N_cl HB.out _).mono ?_;rintro e w1 ⟨rfl,rfl⟩;go_wp2_with fail;refine hK _ _ (.inr (fun b _ hb=>Ext.block X_ (by simp;omega))) ?_;clear hK K;refine wpStages_cons ?_;simp only [List.filterMap_nil]
 show wpQuiet _ _ _ _ [] _
 try simp only [Act.put,List.setIfInBounds_toArray,List.set_cons_succ,List.set_cons_zero]
 refine wpQuiet_nil ⟨_,rfl,fun K hK=>?_⟩;go_wp2_with fail;refine (l02N_cl HC.out _).mono ?_;rintro e w1 ⟨rfl,rfl⟩;go_wp2_with fail;refine hK _ _ (.inr (fun b _ hb=>Ext.block X_ (by simp;omega))) ?_;clear hK K;refine wpStages_cons ?_;simp only [List.filterMap_cons,List.filterMap_nil,List.getElem?_toArray,List.getElem?_cons_zero,List.getElem?_cons_succ]
 show wpQuiet _ _ _ _ [_] _
 try simp only [Act.put,List.setIfInBounds_toArray,List.set_cons_succ,List.set_cons_zero]
 repeat (go_big_quiet_step (fail))
 refine wpQuiet_nil ⟨_,rfl,fun K hK=>?_⟩;go_wp2_with fail;refine hK _ _ (.inl (by trivial)) (wpStages_nil ?_);clear hK K;go_wp2;exact bodyPost_ret (v:=.agg #[.int .i64 a,.int .i64 b,.int .i64 c]) (by simp [results,Tryz.results187,go_sem, *]) rfl ⟨rfl,S_⟩
theorem plusFn_val {m n c:Int} (h:wrap64 (m+n)=c) (w:World):Calls Tryz.prog 264 #[.int .i64 m,.int .i64 n] w fun e w'=>e = .returned (.int .i64 c)∧w=w':=by
 go_enter Tryz.func264,Tryz.ntmps264;go_wp2;go_ret;exact ⟨ret_int h,rfl⟩
theorem overFn_val {n k c:Int} {p:Nat} (hn:I64 n) (h:fdiv n k=c) (w:World) (hp:w.cell? ⟨p,0,none⟩=some (.int .i64 k)):Calls Tryz.prog 266 #[.int .i64 n,.pointer (some ⟨p,0,none⟩)] w fun e w'=>e = .returned (.int .i64 c)∧w=w':=by
 have HN:=hid hn;have H:=hid h;clear hn h;go_enter Tryz.func266,Tryz.ntmps266;go_wp2_with fail;refine (iFloorDiv_val HN.out H.out _).mono ?_;rintro e w1 ⟨rfl,rfl⟩;go_wp2;go_ret;exact ⟨rfl,rfl⟩
theorem withPlus_val {x y z k l m a b c:Int} (ha:wrap64 (x+k)=a) (hb:wrap64 (y+l)=b) (hc:wrap64 (z+m)=c) (w:World) :
  Calls Tryz.prog 171 #[.agg #[.int .i64 x,.int .i64 y,.int .i64 z],.agg #[.int .i64 k,.int .i64 l,.int .i64 m],.func (.func 264) #[] #[]] w fun e w'=>e = .returned (.agg #[.int .i64 a,.int .i64 b,.int .i64 c])∧Ext w w':=by
 have HA:=hid ha;have HB:=hid hb;have HC:=hid hc;clear ha hb hc;go_enter Tryz.func171,Tryz.ntmps171;go_wp2;refine wp_region_stages [([0,1,2,3,4,6,7,8,9,10,12,13,14,15,16],5),([],11),([],17),([18],19)] 19 (w.heap.size+1+1+1) (by kernel_rfl) (by kernel_rfl) ?_;refine wpStages_cons ?_;simp only [List.filterMap_cons,List.filterMap_nil,List.getElem?_toArray,List.getElem?_cons_zero,List.getElem?_cons_succ]
 show wpQuiet _ _ _ _ [_,_,_,_,_,_,_,_,_,_,_,_,_,_,_] _
 repeat (go_big_quiet_step (fail))
 refine wpQuiet_nil ⟨_,rfl,fun K hK=>?_⟩;go_wp2_with fail;refine (plusFn_val HA.out _).mono ?_;rintro e w1 ⟨rfl,rfl⟩;go_wp2_with fail;refine hK _ _ (.inr (fun b _ hb=>Ext.block X_ (by simp;omega))) ?_;clear hK K;refine wpStages_cons ?_;simp only [List.filterMap_nil]
 show wpQuiet _ _ _ _ [] _
 try simp only [Act.put,List.setIfInBounds_toArray,List.set_cons_succ,List.set_cons_zero]
 refine wpQuiet_nil ⟨_,rfl,fun K hK=>?_⟩;go_wp2_with fail;refine (plusFn_val HB.out _).mono ?_;rintro e w1 ⟨rfl,rfl⟩;go_wp2_with fail;refine hK _ _ (.inr (fun b _ hb=>Ext.block X_ (by simp;omega))) ?_;clear hK K;refine wpStages_cons ?_;simp only [List.filterMap_nil]
 show wpQuiet _ _ _ _ [] _
 try simp only [Act.put,List.setIfInBounds_toArray,List.set_cons_succ,List.set_cons_zero]
 refine wpQuiet_nil ⟨_,rfl,fun K hK=>?_⟩;go_wp2_with fail;refine (plusFn_val HC.out _).mono ?_;rintro e w1 ⟨rfl,rfl⟩;go_wp2_with fail;refine hK _ _ (.inr (fun b _ hb=>Ext.block X_ (by simp;omega))) ?_;clear hK K;refine wpStages_cons ?_;simp only [List.filterMap_cons,List.filterMap_nil,List.getElem?_toArray,List.getElem?_cons_zero,List.getElem?_cons_succ]
 show wpQuiet _ _ _ _ [_] _
 try simp only [Act.put,List.setIfInBounds_toArray,List.set_cons_succ,List.set_cons_zero]
 repeat (go_big_quiet_step (fail))
 refine wpQuiet_nil ⟨_,rfl,fun K hK=>?_⟩;go_wp2_with fail;refine hK _ _ (.inl (by trivial)) (wpStages_nil ?_);clear hK K;go_wp2;exact bodyPost_ret (v:=.agg #[.int .i64 a,.int .i64 b,.int .i64 c]) (by simp [results,Tryz.results171,go_sem, *]) rfl ⟨rfl,S_⟩
theorem plus_val {x y z k l m a b c:Int} (ha:wrap64 (x+k)=a) (hb:wrap64 (y+l)=b) (hc:wrap64 (z+m)=c) (w:World) :
  Calls Tryz.prog 220 #[.agg #[.int .i64 x,.int .i64 y,.int .i64 z],.agg #[.int .i64 k,.int .i64 l,.int .i64 m]] w fun e w'=>e = .returned (.agg #[.int .i64 a,.int .i64 b,.int .i64 c])∧Ext w w':=by
 have HA:=hid ha;have HB:=hid hb;have HC:=hid hc;clear ha hb hc;go_enter Tryz.func220,Tryz.ntmps220;go_wp2_with fail;refine (withPlus_val HA.out HB.out HC.out _).mono ?_;rintro e w1 ⟨rfl,h1⟩;obtain ⟨c1,f1⟩:=h1.cells;have z1:=h1.size;simp only [World.size_alloc] at z1
 have q2:w.heap.size+1+1<w1.heap.size:=by omega
 have E1:Ext w w1:=Ext.trans X_ h1;go_wp2;exact bodyPost_ret (v:=.agg #[.int .i64 a,.int .i64 b,.int .i64 c]) (by simp [results,Tryz.results220,go_sem, *]) rfl ⟨rfl,S_⟩
theorem eachOver_val {x y z a b c k:Int} {p:Nat} (hx:I64 x) (hy:I64 y) (hz:I64 z) (ha:fdiv x k=a) (hb:fdiv y k=b) (hc:fdiv z k=c) (w:World) (hp:w.cell? ⟨p,0,none⟩=some (.int .i64 k)) (hlt:p<w.heap.size) :
  Calls Tryz.prog 231 #[.agg #[.int .i64 x,.int .i64 y,.int .i64 z],.func (.func 266) #[] #[.pointer (some ⟨p,0,none⟩)]] w fun e w'=>e = .returned (.agg #[.int .i64 a,.int .i64 b,.int .i64 c])∧Ext w w':=by
 have HA:=hid ha;have HB:=hid hb;have HC:=hid hc;have KX:=hid hx;have KY:=hid hy;have KZ:=hid hz;have HP:=hid hp;clear ha hb hc hx hy hz hp;go_enter Tryz.func231,Tryz.ntmps231;go_wp2;refine wp_region_stages [([0,1,2,4,5,6,8,9,10],3),([],7),([],11),([12],13)] 13 (w.heap.size+1+1) (by kernel_rfl) (by kernel_rfl) ?_;refine wpStages_cons ?_;simp only [List.filterMap_cons,List.filterMap_nil,List.getElem?_toArray,List.getElem?_cons_zero,List.getElem?_cons_succ]
 show wpQuiet _ _ _ _ [_,_,_,_,_,_,_,_,_] _
 repeat (go_big_quiet_step (fail))
 refine wpQuiet_nil ⟨_,rfl,fun K hK=>?_⟩;go_wp2_with fail;refine (overFn_val KX.out HA.out _ ((Ext.cells (w:=w) X_).1 _ _ hlt |>.trans HP.out)).mono ?_;rintro e w1 ⟨rfl,rfl⟩;go_wp2_with fail;refine hK _ _ (.inr (fun b _ hb=>Ext.block X_ (by simp;omega))) ?_;clear hK K;refine wpStages_cons ?_;simp only [List.filterMap_nil]
 show wpQuiet _ _ _ _ [] _
 try simp only [Act.put,List.setIfInBounds_toArray,List.set_cons_succ,List.set_cons_zero]
 refine wpQuiet_nil ⟨_,rfl,fun K hK=>?_⟩;go_wp2_with fail;refine (overFn_val KY.out HB.out _ ((Ext.cells (w:=w) X_).1 _ _ hlt |>.trans HP.out)).mono ?_;rintro e w1 ⟨rfl,rfl⟩;go_wp2_with fail;refine hK _ _ (.inr (fun b _ hb=>Ext.block X_ (by simp;omega))) ?_;clear hK K;refine wpStages_cons ?_;simp only [List.filterMap_nil]
 show wpQuiet _ _ _ _ [] _
 try simp only [Act.put,List.setIfInBounds_toArray,List.set_cons_succ,List.set_cons_zero]
 refine wpQuiet_nil ⟨_,rfl,fun K hK=>?_⟩;go_wp2_with fail;refine (overFn_val KZ.out HC.out _ ((Ext.cells (w:=w) X_).1 _ _ hlt |>.trans HP.out)).mono ?_;rintro e w1 ⟨rfl,rfl⟩;go_wp2_with fail;refine hK _ _ (.inr (fun b _ hb=>Ext.block X_ (by simp;omega))) ?_;clear hK K;refine wpStages_cons ?_;simp only [List.filterMap_cons,List.filterMap_nil,List.getElem?_toArray,List.getElem?_cons_zero,List.getElem?_cons_succ]
 show wpQuiet _ _ _ _ [_] _
 try simp only [Act.put,List.setIfInBounds_toArray,List.set_cons_succ,List.set_cons_zero]
 repeat (go_big_quiet_step (fail))
 refine wpQuiet_nil ⟨_,rfl,fun K hK=>?_⟩;go_wp2_with fail;refine hK _ _ (.inl (by trivial)) (wpStages_nil ?_);clear hK K;go_wp2;exact bodyPost_ret (v:=.agg #[.int .i64 a,.int .i64 b,.int .i64 c]) (by simp [results,Tryz.results231,go_sem, *]) rfl ⟨rfl,S_⟩
theorem over_val {x y z a b c k:Int} (hx:I64 x) (hy:I64 y) (hz:I64 z) (ha:fdiv x k=a) (hb:fdiv y k=b) (hc:fdiv z k=c) (w:World) :
  Calls Tryz.prog 222 #[.agg #[.int .i64 x,.int .i64 y,.int .i64 z],.int .i64 k] w fun e w'=>e = .returned (.agg #[.int .i64 a,.int .i64 b,.int .i64 c])∧Ext w w':=by
 have HA:=hid ha;have HB:=hid hb;have HC:=hid hc;have KX:=hid hx;have KY:=hid hy;have KZ:=hid hz;clear ha hb hc hx hy hz;have hmf:∀(fn:Fn) (first cap:Array Value) (w:World),(Instr.makeFunc fn first cap).run Tryz.prog w = .ok (.func fn first cap) w:=fun _ _ _ _=>rfl;go_enter Tryz.func222,Tryz.ntmps222;go_wp2_with fail;refine (eachOver_val KX.out KY.out KZ.out HA.out HB.out HC.out _ (by simp [go_sem]) (by simp)).mono ?_;rintro e w1 ⟨rfl,h1⟩;obtain ⟨c1,f1⟩:=h1.cells;have z1:=h1.size;simp only [World.size_alloc] at z1
 have q2:w.heap.size+1+1<w1.heap.size:=by omega
 have E1:Ext w w1:=Ext.trans X_ h1;go_wp2;exact bodyPost_ret (v:=.agg #[.int .i64 a,.int .i64 b,.int .i64 c]) (by simp [results,Tryz.results222,go_sem, *]) rfl ⟨rfl,S_⟩
def addC (x k:Int):Int:=cl (cl x+cl k)
theorem cl_bd (n:Int) : -1000000≤cl n∧cl n≤1000000:=by
 unfold cl clampI
 split
 ·omega
 ·split <;> omega
def dotC (x y z k l m:Int):Int:=cl x*cl k+cl y*cl l+cl z*cl m
def okVec (x y z:Int):Bool:=inB x (-1000000) 1000000&&inB y (-1000000) 1000000&&inB z (-1000000) 1000000
theorem cl_fix (n:Int):(n=cl n)↔inB n (-1000000) 1000000=true:=by
 rw [inB_iff];unfold cl clampI
 split
 ·omega
 ·split <;> omega
theorem run_eqVec (x y z a b c:Int) (w:World):(binOp .eql 37 (.agg #[.int .i64 x,.int .i64 y,.int .i64 z]) (.agg #[.int .i64 a,.int .i64 b,.int .i64 c])).run Tryz.prog w = .ok (.bool (decide (x=a)&&(decide (y=b)&&decide (z=c)))) w:=by
 by_cases h1:x=a
 ·by_cases h2:y=b
  ·by_cases h3:z=c <;> simp [go_sem,Tryz.underlying37,Tryz.stoodInHeld37,Tryz.underlying3,h1,h2,h3]
  ·simp [go_sem,Tryz.underlying37,Tryz.stoodInHeld37,Tryz.underlying3,h1,h2]
 ·simp [go_sem,Tryz.underlying37,Tryz.stoodInHeld37,Tryz.underlying3,h1]
theorem okVec_eq (x y z:Int):(decide (x=cl x)&&(decide (y=cl y)&&decide (z=cl z)))=okVec x y z:=by
 simp only [cl_fix,okVec,Bool.decide_eq_true,Bool.and_assoc]
theorem iIsValidVec_val {x y z:Int} (w:World) :
  Calls Tryz.prog 113 #[.agg #[.int .i64 x,.int .i64 y,.int .i64 z]] w fun e w'=>e = .returned (.bool (okVec x y z))∧Ext w w':=by
 obtain ⟨a,ha⟩:∃a,cl x=a:=⟨_,rfl⟩
 obtain ⟨b,hb⟩:∃a,cl y=a:=⟨_,rfl⟩
 obtain ⟨c,hc⟩:∃a,cl z=a:=⟨_,rfl⟩
 have HA:=hid ha;have HB:=hid hb;have HC:=hid hc;have HO:=hid (show (decide (x=a)&&(decide (y=b)&&decide (z=c)))=okVec x y z by rw [←ha,←hb,←hc];exact okVec_eq x y z);clear ha hb hc;have hq:=fun w=>run_eqVec x y z a b c w;go_enter Tryz.func113,Tryz.ntmps113;go_wp2;refine wp_region_ext (by kernel_rfl) (by kernel_rfl) ?_
 repeat (go_big_quiet_step ((go_at_call 168;exact grow_call (clamped_val HA.out HB.out HC.out _))))
 refine wpQuiet_nil ?_;intro w1 h1;go_wp2;go_ret;exact ⟨ret_bool HO.out,Ext.trans X_ h1⟩
theorem sIsValidVec_val {x y z:Int} (w:World) :
  Calls Tryz.prog 186 #[.agg #[.int .i64 x,.int .i64 y,.int .i64 z]] w fun e w'=>e = .returned (.bool (okVec x y z))∧Ext w w':=by
 obtain ⟨a,ha⟩:∃a,cl x=a:=⟨_,rfl⟩
 obtain ⟨b,hb⟩:∃a,cl y=a:=⟨_,rfl⟩
 obtain ⟨c,hc⟩:∃a,cl z=a:=⟨_,rfl⟩
 have HA:=hid ha;have HB:=hid hb;have HC:=hid hc;have HO:=hid (show (decide (x=a)&&(decide (y=b)&&decide (z=c)))=okVec x y z by rw [←ha,←hb,←hc];exact okVec_eq x y z);clear ha hb hc;have hq:=fun w=>run_eqVec x y z a b c w;go_enter Tryz.func186,Tryz.ntmps186;go_wp2;refine wp_region_ext (by kernel_rfl) (by kernel_rfl) ?_
 repeat (go_big_quiet_step ((go_at_call 187;exact grow_call (l02V_val HA.out HB.out HC.out _))))
 refine wpQuiet_nil ?_;intro w1 h1;go_wp2;go_ret;exact ⟨ret_bool HO.out,Ext.trans X_ h1⟩
theorem eqIntS_any (lo hi lo' hi':Nat) (u v:Value) (xs ys:List Int) (w:World) (hu:Ints lo hi w u xs) (hv:Ints lo' hi' w v ys) :
  Calls Tryz.prog 28 #[u,v] w fun e w'=>e = .returned (.bool (decide (xs=ys)))∧∃n,w'=w.drewN n:=by
 obtain ⟨a,cap,rfl,HU⟩:=hu.open;obtain ⟨a',cap',rfl,HV⟩:=hv.open;have h1:=HU.le;have h2:=HU.cap;have h1':=HV.le;have h2':=HV.cap
 by_cases hl:xs.length=ys.length
 ·have hl':((xs.length:Int) != (ys.length:Int))=false:=by simp [hl]
  have HL:=Lib.hid hl;clear hl;go_enter Tryz.func28,Tryz.ntmps28;go_wp2
  go_loopw [5] (fun i wr=>∃k:Nat,k≤xs.length∧i = .int .i64 k∧SameUpTo xs ys k∧∃n,wr=w.drewN n) (fun i _=>xs.length - (intOf i).toNat)
  case atStart=>exact ⟨0,by omega,rfl,SameUpTo.zero _ _,0,rfl⟩
  case round=>
   obtain ⟨k,hk,rfl,hsame,n,rfl⟩:=hrel
   by_cases hlt:k<xs.length
   ·have hlt':k<ys.length:=by rw [←HL.out];exact hlt
    obtain ⟨b,off,rfl,hb1,hb2,hc⟩:=HU.at hlt;obtain ⟨b',off',rfl,hb1',hb2',hc'⟩:=HV.at hlt'
    by_cases he:xs[k]=ys[k]
    ·have he':(xs[k] != ys[k])=false:=by simp [he]
     have HE:=Lib.hid he;clear he;go_wp2
     go_quiet (fail)
     go_wp2;go_roundw
     case rel=>exact ⟨k+1,by omega,by go_num,hsame.succ hlt hlt' HE.out,_,rfl⟩
     case measure=>simp [intOf];omega
    ·have he':(xs[k] != ys[k])=true:=by simp [he]
     go_wp2
     go_quiet (fail)
     go_wp2;go_ret;exact ⟨ret_bool (decide_eq_false (fun h=>he (by subst h;rfl))).symm,_,World.drewN_drewN _ _ _⟩
   ·go_wp2
    go_ret;exact ⟨ret_bool (decide_eq_true (hsame.all HL.out (by omega))).symm,_,rfl⟩
 ·have hl':((xs.length:Int) != (ys.length:Int))=true:=by simp;omega
  go_enter Tryz.func28,Tryz.ntmps28;go_wp2;go_ret;exact ⟨ret_bool (decide_eq_false (fun h=>hl (by rw [h]))).symm,0,rfl⟩
theorem szIntS_any (lo hi:Nat) (u:Value) (xs:List Int) (left:Int) (w:World) (hu:Ints lo hi w u xs) (h1:0≤left) (h2:left≤1048576) :
  Calls Tryz.prog 118 #[u,.int .i64 left] w fun e w'=>e = .returned (.int .i64 (if left - xs.length<0 then -1 else left - xs.length))∧w=w':=by
 have hl:=hu.len;obtain ⟨a,cap,rfl,HU⟩:=hu.open;go_enter Tryz.func118,Tryz.ntmps118;go_wp2
 all_goals go_ret
 all_goals exact ⟨rfl,rfl⟩
theorem info_int:(Tryz.prog.info? 3).map (fun i=>(i.zero,i.size,i.bytes))=some (some (.int .i64 0),1,8):=by kernel_rfl
theorem made_ints (n:Nat):(madeCells #[Value.int .i64 0] n).toList=(List.replicate n (0:Int)).map (Value.int .i64):=by
 apply List.ext_getElem?;intro i
 by_cases h:i<n
 ·simp [madeCells,h]
  rw [Nat.mod_one]
  rfl
 ·simp [madeCells,h]
def fillTo (xs:List Int) (k:Nat):List Int:=xs.take k++List.replicate (xs.length - k) 0
theorem fillTo_length (xs:List Int) (k:Nat) (h:k≤xs.length):(fillTo xs k).length=xs.length:=by simp [fillTo];omega
theorem fillTo_zero (xs:List Int):fillTo xs 0=List.replicate xs.length 0:=by simp [fillTo]
theorem fillTo_all (xs:List Int):fillTo xs xs.length=xs:=by simp [fillTo]
theorem fillTo_succ (xs:List Int) (k:Nat) (h:k<xs.length):(fillTo xs k).set k xs[k]=fillTo xs (k+1):=by
 unfold fillTo;rw [show xs.length - k=(xs.length - (k+1))+1 from by omega,List.replicate_succ,List.set_append_right _ _ (by rw [List.length_take];omega),List.length_take,Nat.min_eq_left (Nat.le_of_lt h),Nat.sub_self,List.set_cons_zero,List.take_succ_eq_append_getElem h,List.append_assoc]
 rfl
theorem toIntS_any (lo hi:Nat) (u:Value) (xs:List Int) (w:World) (hu:Ints lo hi w u xs) (hh:hi≤w.heap.size) (hsz:xs.length≤1048576) :
  Calls Tryz.prog 130 #[u] w fun e w'=>∃v,e = .returned v∧OwnInts w.heap.size w' v xs∧Ext w w':=by
 obtain ⟨i0,hi0,hz0,hz1,hz2⟩:=info_parts info_int;obtain ⟨a,cap,rfl,HU⟩:=hu.open;clear hu;go_enter Tryz.func130,Tryz.ntmps130;go_wp2_with (at_make;refine wpList_make_full _ rfl _ _ 25 rfl w.heap.size 3 i0 (.int .i64 0) 1 Tryz.underlying25 hi0 hz0 hz1 _ _ _ _ xs.length rfl rfl rfl rfl (by rw [hz2];omega) (by unfold maxLen;omega) (Nat.le_refl _) ?_);intro w1 hown hgrow;rw [made_ints,←fillTo_zero] at hown;have hx:Ext w w1:=(Ext.refl w).grown hgrow (fun k h=>by cases h);clear hgrow hi0 hz0 hz1 hz2;go_wp2
 go_loopw [4] (fun i wr=>∃k:Nat,k≤xs.length∧i = .int .i64 k∧Ext w wr∧wr.ownsRow w.heap.size 3 1 (.slice (some ⟨w.heap.size,0,none⟩) xs.length xs.length) xs.length ((fillTo xs k).map (Value.int .i64)))
  (fun i _=>xs.length - (intOf i).toNat)
 case atStart=>exact ⟨0,by omega,rfl,hx,hown⟩
 case round=>
  clear hown hx;obtain ⟨k,hk,rfl,hx,hown⟩:=hrel
  by_cases hlt:k<xs.length
  ·obtain ⟨b,off,rfl,hb1,hb2,hc⟩:=HU.at hlt
   rw [←hx.cells.1 b _ (by omega)] at hc;have hs:=hown.cellAt k (by omega);have hf:=hown.frozenAt k;have hst:=(hown.stored k (.int .i64 xs[k])).1;have hx':=hx.setCell (p:=⟨w.heap.size,k,none⟩) (Nat.le_refl _) (.int .i64 xs[k])
   have hs':wr.cell? ⟨w.heap.size,k,none⟩=some (.int .i64 ((fillTo xs k)[k]'(by rw [fillTo_length _ _ hk];exact hlt))):=by
    rw [hs];simp
   rw [←List.map_set,fillTo_succ _ _ hlt] at hst;have H1:=hid hst;have H2:=hid hx';clear hst hx' hs hown hx;go_wp2;go_roundw
   case rel=>exact ⟨k+1,by omega,by go_num,H2.out,H1.out⟩
   case measure=>simp [intOf];omega
  ·go_wp2
   go_ret
   obtain rfl:k=xs.length:=by omega
   rw [fillTo_all] at hown
   exact ⟨_,rfl,⟨by simpa using hown,fun x hx=>by
    obtain ⟨i,hi,rfl⟩:=List.getElem_of_mem hx
    exact HU.i64 hi⟩,hx⟩
def upFrom (k:Int) (n:Nat):List Int:=(List.range n).map (fun i:Nat=>k+(i:Int))
def heldRes (xs:List Int) (k:Int):Int:=if xs=upFrom k xs.length then k+xs.length else -1
theorem heldIntS_any (lo hi:Nat) (u:Value) (xs:List Int) (k0:Int) (w:World) (hu:Ints lo hi w u xs) (h0:0≤k0) (hsz:k0+xs.length≤1152921504606846976) :
  Calls Tryz.prog 32 #[u,.int .i64 k0] w fun e w'=>e = .returned (.int .i64 (heldRes xs k0))∧w=w':=by
 obtain ⟨a,cap,rfl,HU⟩:=hu.open;clear hu;go_enter Tryz.func32,Tryz.ntmps32;go_wp2
 go_loop [1,5] (fun q i=>∃k:Nat,k≤xs.length∧i = .int .i64 k∧q = .int .i64 (k0+k)∧SameUpTo xs (upFrom k0 xs.length) k) (fun _ i=>xs.length - (intOf i).toNat)
 case atStart=>exact ⟨0,by omega,rfl,by simp,SameUpTo.zero _ _⟩
 case round=>
  obtain ⟨k,hk,rfl,rfl,hsame⟩:=hrel
  by_cases hlt:k<xs.length
  ·obtain ⟨b,off,rfl,hb1,hb2,hc⟩:=HU.at hlt
   have hul:k<(upFrom k0 xs.length).length:=by simp [upFrom];exact hlt
   have hue:(upFrom k0 xs.length)[k]=k0+k:=by simp [upFrom]
   have H1:=hid hue;clear hue
   by_cases he:xs[k]=k0+k
   ·have he':(xs[k] != k0+k)=false:=by simp [he]
    have HE:=hid he;clear he;go_wp2
    go_round
    case rel=>exact ⟨k+1,by omega,by go_num,by go_num,hsame.succ hlt hul (by rw [HE.out,H1.out])⟩
    case measure=>simp [intOf];omega
   ·have he':(xs[k] != k0+k)=true:=by simp [he]
    have HE:=hid he;clear he;go_wp2;go_ret
    exact ⟨ret_int (by rw [heldRes,if_neg (fun h=>HE.out (by
     have:=H1.out;simp only [←h] at this
     exact this))]),rfl⟩
  ·go_wp2
   go_ret
   obtain rfl:k=xs.length:=by omega
   exact ⟨ret_int (by rw [heldRes,if_pos (hsame.all (by simp [upFrom]) (Nat.le_refl _))]),rfl⟩
theorem upFrom_length (k:Int) (n:Nat):(upFrom k n).length=n:=by simp [upFrom]
theorem upFrom_succ (k:Int) (n:Nat):upFrom k (n+1)=upFrom k n++[k+n]:=by simp [upFrom,List.range_succ]
theorem mark_step (k0:Int) (xs:List Int) (k:Nat) (h:k<xs.length):(upFrom k0 k++xs.drop k).set k (k0+k)=upFrom k0 (k+1)++xs.drop (k+1):=by
 rw [List.set_append_right _ _ (by rw [upFrom_length];omega),upFrom_length,Nat.sub_self,List.drop_eq_getElem_cons h,List.set_cons_zero,upFrom_succ,List.append_assoc]
 rfl
theorem markIntS_any (lo:Nat) (u:Value) (xs:List Int) (k0:Int) (w:World) (hu:OwnInts lo w u xs) (h0:0≤k0) (hsz:k0+xs.length≤1152921504606846976) :
  Calls Tryz.prog 31 #[u,.int .i64 k0] w fun e w'=>e = .returned (.int .i64 (k0+xs.length))∧OwnInts lo w' u (upFrom k0 xs.length)∧w.grownBy w' u.ownBlock:=by
 obtain ⟨a,cap,rfl,hlen⟩:=hu.form;have HU:=hid hu;clear hu;go_enter Tryz.func31,Tryz.ntmps31;go_wp2
 go_loopw [1,5] (fun q i wr=>∃k:Nat,k≤xs.length∧i = .int .i64 k∧q = .int .i64 (k0+k)∧OwnInts lo wr (.slice a xs.length cap) (upFrom k0 k++xs.drop k)∧w.grownBy wr (Value.slice a xs.length cap).ownBlock) (fun _ i _=>xs.length - (intOf i).toNat)
 case atStart=>exact ⟨0,by omega,rfl,by simp,by simpa [upFrom] using HU.out,grownBy.refl _ _⟩
 case round=>
  obtain ⟨k,hk,rfl,rfl,hown,hg⟩:=hrel
  by_cases hlt:k<xs.length
  ·have hl2:xs.length=(upFrom k0 k++xs.drop k).length:=by simp [upFrom];omega
   obtain ⟨g,y,rfl,hb1,hb2,_,hc,hf,hst⟩:=hown.at (k:=k) hl2 (by rw [←hl2];exact hlt);obtain ⟨hst1,hst2⟩:=hst (k0+k) ⟨by omega,by omega⟩;rw [mark_step _ _ _ hlt] at hst1;have H1:=hid hst1;have H2:=hid (grownBy.trans hg hst2);clear hst hst1 hst2 hg hl2 hown;go_wp2;go_roundw
   case rel=>exact ⟨k+1,by omega,by go_num,by go_num,H1.out,H2.out⟩
   case measure=>simp [intOf];omega
  ·go_wp2
   go_ret
   obtain rfl:k=xs.length:=by omega
   exact ⟨rfl,by simpa using hown,hg⟩
theorem wpList_append1 (w:World) {ops:Array Oper} {rest:List Oper} {o:Oper} {a:Act} {Q:Exit→Act→World→Prop} (hg:o.guard=none) (s x:Operand)
  (hop:o.op=Op.call { callee:=Callee.builtin Builtin.append,args:=#[s,x],argTypes:=#[25,25] }) (lo:Nat) (v:Value) (xs:List Int) (hs:a.eval s=v) (hown:OwnInts lo w v xs)
  (y:Int) (hy:I64 y) (b:Nat) (hx:a.eval x = .slice (some ⟨b,0,none⟩) 1 1) (hcell:w.cell? ⟨b,0,none⟩=some (.int .i64 y)) (hlen:xs.length<1000000000) (hlo:lo≤w.heap.size)
  (hK:∀v' w',OwnInts lo w' v' (xs++[y])→w.grownBy w' v.ownBlock→wpList Tryz.prog ops Q rest (a.put o.dst v') w'):wpList Tryz.prog ops Q (o::rest) a w:=by
 obtain ⟨i0,hi0,hz0,hz1,hz2⟩:=info_parts info_int;refine wpList_append_own w hg s x 25 hop lo 3 i0 (.int .i64 0) 1 8 Tryz.underlying25 hi0 hz0 hz1 hz2 rfl (by decide) v xs.length _ hs hown.1 ⟨b,0,none⟩ 1 1 [.int .i64 y] hx rfl ?_ ?_ ?_ ?_ hlo ?_
 ·intro j u hj
  match j,hj with
  | 0,hj=>simp at hj;subst hj;exact hcell
 ·intro u hu;simp at hu;subst hu;rfl
 ·unfold maxLen;omega
 ·omega
 ·intro v' w1 hown' hgrow _
  refine hK v' w1 ⟨by simpa using hown',fun z hz=>?_⟩ hgrow
  rcases List.mem_append.1 hz with h|h
  ·exact hown.2 z h
  ·simp at h;rw [h];exact hy
structure Tex where
 log:Int
 px:List Int
instance:DecidableEq Tex:=fun a b=>decidable_of_iff (a.log=b.log∧a.px=b.px) (by cases a;cases b;simp)
def TexR (lo hi:Nat) (w:World) (v:Value) (t:Tex):Prop:=∃u,v = .agg #[.int .i64 t.log,u]∧I64 t.log∧Ints lo hi w u t.px
def OwnTex (lo:Nat) (w:World) (v:Value) (t:Tex):Prop:=∃u,v = .agg #[.int .i64 t.log,u]∧I64 t.log∧OwnInts lo w u t.px
theorem OwnTex.tex {lo:Nat} {w:World} {v:Value} {t:Tex} (h:OwnTex lo w v t):TexR lo w.heap.size w v t:=by
 obtain ⟨u,h1,h2,h3⟩:=h;exact ⟨u,h1,h2,h3.ints⟩
theorem TexR.ext {lo hi:Nat} {w w':World} {v:Value} {t:Tex} (h:TexR lo hi w v t) (hh:hi≤w.heap.size) (e:Ext w w'):TexR lo hi w' v t:=by
 obtain ⟨u,h1,h2,h3⟩:=h;exact ⟨u,h1,h2,h3.ext hh e⟩
theorem TexR.wide {lo hi lo' hi':Nat} {w:World} {v:Value} {t:Tex} (h:TexR lo hi w v t) (h1:lo'≤lo) (h2:hi≤hi'):TexR lo' hi' w v t:=by
 obtain ⟨u,g1,g2,g3⟩:=h;exact ⟨u,g1,g2,g3.wide h1 h2⟩
theorem OwnTex.ext {lo:Nat} {w w':World} {v:Value} {t:Tex} (h:OwnTex lo w v t) (e:Ext w w'):OwnTex lo w' v t:=by
 obtain ⟨u,h1,h2,h3⟩:=h;exact ⟨u,h1,h2,h3.ext e⟩
def szRes (left:Int) (n:Nat):Int:=if left - n<0 then -1 else left - n
theorem szIntS_res (lo hi:Nat) (u:Value) (xs:List Int) (left:Int) (w:World) (hu:Ints lo hi w u xs) (h1:0≤left) (h2:left≤1048576) :
  Calls Tryz.prog 118 #[u,.int .i64 left] w fun e w'=>e = .returned (.int .i64 (szRes left xs.length))∧w=w':=szIntS_any lo hi u xs left w hu h1 h2
theorem szRes_neg (left:Int) (n:Nat) (h:szRes left n<0):szRes left n = -1:=by unfold szRes at *;split at h <;> simp_all
theorem szTexture_any (lo hi:Nat) (v:Value) (t:Tex) (left:Int) (w:World) (hv:TexR lo hi w v t) (hh:hi≤w.heap.size) (h1:0≤left) (h2:left≤1048576) :
  Calls Tryz.prog 66 #[v,.int .i64 left] w fun e w'=>e = .returned (.int .i64 (szRes left t.px.length))∧Ext w w':=by
 obtain ⟨u,rfl,hlog,hu⟩:=hv;go_enter Tryz.func66,Tryz.ntmps66;go_wp2_with (go_at_call 118;refine (szIntS_res lo hi u t.px left _ (hu.ext hh ((Ext.refl _).alloc _)) h1 h2).mono ?_;rintro e w' ⟨rfl,rfl⟩)
 all_goals go_ret
 all_goals first
  | exact ⟨ret_int (szRes_neg _ _ (by assumption)).symm,(Ext.refl _).alloc _⟩
  | exact ⟨rfl,(Ext.refl _).alloc _⟩
theorem toTexture_any (lo hi:Nat) (v:Value) (t:Tex) (w:World) (hv:TexR lo hi w v t) (hh:hi≤w.heap.size) (hsz:t.px.length≤1048576) :
  Calls Tryz.prog 75 #[v] w fun e w'=>∃v',e = .returned v'∧OwnTex w.heap.size w' v' t∧Ext w w':=by
 obtain ⟨u,rfl,hlog,hu⟩:=hv;go_enter Tryz.func75,Tryz.ntmps75;go_wp2_with fail;refine (toIntS_any lo hi u t.px _ (hu.ext hh ((((Ext.refl _).alloc _).alloc _).alloc _)) (by simp;omega) hsz).mono ?_;rintro e w1 ⟨v1,rfl,hv1,hx⟩;obtain ⟨a,cap,rfl,_⟩:=hv1.form;have hz:=hx.size;simp only [World.size_alloc] at hz;obtain ⟨hc,hf⟩:=hx.cells;go_wp2;refine bodyPost_ret (v:=.agg #[.int .i64 t.log,.slice a t.px.length cap]) (by simp [results,Tryz.results75,go_sem,hc]) rfl ⟨_,rfl,⟨_,rfl,hlog,?_⟩,?_⟩
 ·exact (((hv1.setLow (by simp) _).setLow (by simp) _).setLow (by simp) _).low (by simp;omega)
 ·exact ((((((Ext.refl _).alloc _).alloc _).alloc _).trans hx |>.setCell (by simp;omega) _).setCell (by simp) _).setCell (by simp) _
theorem eqTexture_any (lo hi lo' hi':Nat) (v v':Value) (t t':Tex) (w:World) (hv:TexR lo hi w v t) (hh:hi≤w.heap.size) (hv':TexR lo' hi' w v' t') (hh':hi'≤w.heap.size) :
  Calls Tryz.prog 79 #[v,v'] w fun e w'=>e = .returned (.bool (decide (t=t')))∧Ext w w':=by
 obtain ⟨u,rfl,hlog,hu⟩:=hv;obtain ⟨u',rfl,hlog',hu'⟩:=hv';go_enter Tryz.func79,Tryz.ntmps79;go_wp2_with (go_at_call 28;refine (eqIntS_any lo hi lo' hi' u u' t.px t'.px _ (hu.ext hh (((Ext.refl _).alloc _).alloc _)) (hu'.ext hh' (((Ext.refl _).alloc _).alloc _))).mono ?_;rintro e w' ⟨rfl,n,rfl⟩)
 all_goals go_ret
 ·rename_i h
  exact ⟨ret_bool (decide_eq_false (fun e=>by simp [e] at h)).symm,((Ext.refl _).alloc _).alloc _⟩
 ·rename_i h
  exact ⟨ret_bool (decide_eq_false (fun e=>by simp [e] at h)).symm,(((Ext.refl _).alloc _).alloc _).drewN _⟩
 ·rename_i h1 h2
  exact ⟨ret_bool (decide_eq_true (by cases t;cases t';simp_all)).symm,(((Ext.refl _).alloc _).alloc _).drewN _⟩
def Tex.n (t:Tex):Nat:=2 ^ t.log.toNat
def Tex.okB (t:Tex):Bool:=inB t.log 0 4&&decide (t.px.length=t.n*t.n)&&t.px.all (fun x=>inB x 0 256)
structure Tex.Ok (t:Tex):Prop where
 log0:0≤t.log
 log4:t.log≤4
 len:t.px.length=t.n*t.n
 all:∀x∈t.px,0≤x∧x≤256
theorem Tex.okB_iff {t:Tex}:t.okB=true↔t.Ok:=by
 simp only [Tex.okB,Bool.and_eq_true,inB_iff,decide_eq_true_eq,List.all_eq_true];exact ⟨fun ⟨⟨⟨h1,h2⟩,h3⟩,h4⟩=>⟨h1,h2,h3,h4⟩,fun ⟨h1,h2,h3,h4⟩=>⟨⟨⟨h1,h2⟩,h3⟩,h4⟩⟩
theorem Tex.Ok.n_pos {t:Tex} (_h:t.Ok):1≤t.n:=Nat.one_le_two_pow
theorem Tex.Ok.n_le {t:Tex} (h:t.Ok):t.n≤16:=by
 have h1:=h.log0;have h2:=h.log4;exact Nat.pow_le_pow_right (n:=2) (by omega) (show t.log.toNat≤4 by omega)
theorem wrap_n {t:Tex} (h0:0≤t.log) (h4:t.log≤4):wrap64 (2 ^ t.log.toNat)=(t.n:Int):=by
 have:t.log=0∨t.log=1∨t.log=2∨t.log=3∨t.log=4:=by omega
 rcases this with h|h|h|h|h <;> simp [Tex.n,h] <;> exact wrap_small (by decide) (by decide)
theorem side_any (u:Value) (t:Tex) (w:World) (h0:0≤t.log) (h4:t.log≤4) :
  Calls Tryz.prog 333 #[.agg #[.int .i64 t.log,u]] w fun e w'=>e = .returned (.int .i64 t.n)∧Ext w w':=by
 go_enter Tryz.func333,Tryz.ntmps333;go_wp2;go_ret;exact ⟨ret_int (wrap_n h0 h4),(Ext.refl _).alloc _⟩
theorem allWithin_any (l0 h0:Nat) (u:Value) (xs:List Int) (lo hi:Int) (w:World) (hu:Ints l0 h0 w u xs) :
  Calls Tryz.prog 60 #[u,.int .i64 lo,.int .i64 hi] w fun e w'=>e = .returned (.bool (xs.all fun x=>inB x lo hi))∧w=w':=by
 obtain ⟨a,cap,rfl,HU⟩:=hu.open;have h1:=HU.le;have h2:=HU.cap;clear hu;go_enter Tryz.func60,Tryz.ntmps60;go_wp2
 go_loop [11] (fun i=>∃k:Nat,k≤xs.length∧i = .int .i64 k∧(xs.take k).all (fun x=>inB x lo hi)=true) (fun i=>xs.length - (intOf i).toNat)
 case atStart=>exact ⟨0,by omega,rfl,rfl⟩
 case round=>
  obtain ⟨k,hk,rfl,hall⟩:=hrel;have HA:=Lib.hid hall;clear hall
  by_cases hlt:k<xs.length
  ·obtain ⟨b,off,rfl,hb1,hb2,hc⟩:=HU.at hlt
   cases hin:inB xs[k] lo hi
   ·have HI:=Lib.hid hin
    go_wp2_with (go_at_call 54;refine (within_any xs[k] lo hi _).mono ?_;rintro e w' ⟨rfl,rfl⟩);go_ret;exact ⟨ret_bool (all_no hlt HI.out).symm,rfl⟩
   ·have HI:=Lib.hid hin
    go_wp2_with (go_at_call 54;refine (within_any xs[k] lo hi _).mono ?_;rintro e w' ⟨rfl,rfl⟩)
    go_round
    case rel=>exact ⟨k+1,by omega,by go_num,all_step hlt HA.out HI.out⟩
    case measure=>simp [intOf];omega
  ·go_wp2
   go_ret
   obtain rfl:k=xs.length:=by omega
   exact ⟨ret_bool (by rw [List.take_length] at HA;exact HA.out.symm),rfl⟩
theorem wrap_nn {t:Tex} (h0:0≤t.log) (h4:t.log≤4):wrap64 (2 ^ (2*t.log).toNat)=((t.n*t.n:Nat):Int):=by
 have:t.log=0∨t.log=1∨t.log=2∨t.log=3∨t.log=4:=by omega
 rcases this with h|h|h|h|h <;> simp [Tex.n,h] <;> exact wrap_small (by decide) (by decide)
theorem iIsValidTexture_any (lo hi:Nat) (v:Value) (t:Tex) (w:World) (hv:TexR lo hi w v t) (hh:hi≤w.heap.size) :
  Calls Tryz.prog 97 #[v] w fun e w'=>e = .returned (.bool t.okB)∧Ext w w':=by
 obtain ⟨u,rfl,hlog,hu⟩:=hv;have hu1:=hid (hu.ext hh ((Ext.refl _).alloc (.cells #[.int .i64 t.log,u] 27)));obtain ⟨a,cap,rfl,HU⟩:=hu.open;clear hu
 by_cases h1:0≤t.log∧t.log≤4
 ·have HB:=hid (inB_iff.2 h1:inB t.log 0 4=true)
  have hnn:=hid (wrap_nn h1.1 h1.2);have h10:=h1.1;have h11:=h1.2;clear h1
  by_cases h2:t.px.length=t.n*t.n
  ·have h3:((t.px.length:Int)==wrap64 (2 ^ (2*t.log).toNat))=true:=by rw [hnn.out];simp [h2]
   have H2:=hid h2;clear h2;go_enter Tryz.func97,Tryz.ntmps97;go_wp2
   go_quiet ((first|(go_at_call 54;exact quiet_same (within_val HB.out _))|(go_at_call 60;exact quiet_same (allWithin_any lo hi _ _ _ _ _ (hu1.out.ext (by simp;omega) ((Ext.refl _).drewN _))))))
   go_wp2;go_ret;exact ⟨ret_bool (by rw [Tex.okB,HB.out,H2.out];simp),((Ext.refl _).alloc _).drewN _⟩
  ·have h3:((t.px.length:Int)==wrap64 (2 ^ (2*t.log).toNat))=false:=by rw [hnn.out,beq_eq_false_iff_ne];omega
   have H2:=hid h2;clear h2;go_enter Tryz.func97,Tryz.ntmps97;go_wp2
   go_quiet ((first|(go_at_call 54;exact quiet_same (within_val HB.out _))|(go_at_call 60;exact quiet_same (allWithin_any lo hi _ _ _ _ _ (hu1.out.ext (by simp;omega) ((Ext.refl _).drewN _))))))
   go_wp2;go_ret;exact ⟨ret_bool (by rw [Tex.okB,HB.out,decide_eq_false H2.out];rfl),((Ext.refl _).alloc _).drewN _⟩
 ·have HB:=hid (by rw [Bool.eq_false_iff];intro h;exact h1 (inB_iff.1 h):inB t.log 0 4=false)
  clear h1;go_enter Tryz.func97,Tryz.ntmps97;go_wp2
  go_quiet ((go_at_call 54;exact quiet_same (within_val HB.out _)))
  go_wp2;go_ret;exact ⟨ret_bool (by rw [Tex.okB,HB.out];rfl),((Ext.refl _).alloc _).drewN _⟩
theorem row_nat {y n:Nat} (hy:y<n) (hn:n≤16):∃p:Nat,p=y*n∧wrap64 ((y:Int)*(n:Int))=(p:Int)∧wrap64 (((y:Int)+1)*(n:Int))=(p:Int)+n∧p+n≤n*n:=by
 have h1:=Nat.mul_le_mul_right n (show y+1≤n by omega);rw [Nat.add_mul,Nat.one_mul] at h1;have h2:n*n≤16*16:=Nat.mul_le_mul hn hn;refine ⟨y*n,rfl,?_,?_,h1⟩
 ·rw [←Int.natCast_mul];exact wrap_small (by omega) (by omega)
 ·rw [Int.add_mul,Int.one_mul,←Int.natCast_mul];exact wrap_small (by omega) (by omega)
theorem row_any (b off cap:Nat) (t:Tex) (y:Nat) (w:World) (ht:t.Ok) (hy:y<t.n) (hc:t.px.length≤cap) :
  Calls Tryz.prog 334 #[.agg #[.int .i64 t.log,.slice (some ⟨b,off,none⟩) t.px.length cap],.int .i64 y] w fun e w'=>e = .returned (.slice (some ⟨b,off+y*t.n,none⟩) t.n t.n)∧Ext w w':=by
 have h0:=ht.log0;have h4:=ht.log4;have hn:=ht.n_le;obtain ⟨p,hp,e1,e2,hb⟩:=row_nat hy hn;rw [←hp];have hpos:=ht.n_pos
 have e3:((p:Int)+t.n).toNat=p+t.n:=by omega
 have hcap:p+t.n≤cap:=by rw [←ht.len] at hb;omega
 clear hp hb hc;go_enter Tryz.func334,Tryz.ntmps334;go_wp2_with fail;refine (side_any _ t _ h0 h4).mono ?_;rintro e w1 ⟨rfl,hx⟩;obtain ⟨hc,hf⟩:=hx.cells;have hz:=hx.size;simp only [World.size_alloc] at hz;go_wp2;go_ret;exact ⟨rfl,((Ext.refl _).alloc _).trans hx⟩
theorem TexR.ok {lo hi:Nat} {w:World} {v:Value} {t:Tex} (h:TexR lo hi w v t) (ht:t.Ok) :
  ∃b off cap,v = .agg #[.int .i64 t.log,.slice (some ⟨b,off,none⟩) t.px.length cap]∧t.px.length≤cap∧lo≤b∧b<hi∧∀i x,t.px[i]?=some x→w.cell? ⟨b,off+i,none⟩=some (.int .i64 x):=by
 obtain ⟨u,rfl,h1,h2⟩:=h;obtain ⟨a,cap,rfl,h3⟩:=h2.open;have hn:=ht.n_pos
 have hl:0<t.px.length:=by rw [ht.len];exact Nat.mul_pos hn hn
 obtain ⟨b,off,rfl,h4,h5,_⟩:=h3.at hl;refine ⟨b,off,cap,rfl,h3.le,h4,h5,fun i x hx=>?_⟩;obtain ⟨_,b',off',h6,_,_,h7⟩:=h3.cell i x hx;simp only [Option.some.injEq,Addr.mk.injEq,and_true] at h6;obtain ⟨rfl,rfl⟩:=h6;exact h7
theorem texel_nat {y x n:Nat} (hy:y<n) (hx:x<n):y*n+x<n*n:=by
 have h1:=Nat.mul_le_mul_right n (show y+1≤n by omega);rw [Nat.add_mul,Nat.one_mul] at h1;omega
def Tex.at (t:Tex) (x y:Int):Int:=t.px.getD ((fmod y t.n).toNat*t.n+(fmod x t.n).toNat) 0
theorem texel_any (lo hi:Nat) (v:Value) (t:Tex) (x y:Int) (w:World) (hv:TexR lo hi w v t) (hh:hi≤w.heap.size) (ht:t.Ok) (hx:I64 x) (hy:I64 y) :
  Calls Tryz.prog 332 #[v,.int .i64 x,.int .i64 y] w fun e w'=>e = .returned (.int .i64 (t.at x y))∧Ext w w':=by
 obtain ⟨b,off,cap,rfl,hcap,hlo,hhi,hcell⟩:=hv.ok ht;have h0:=ht.log0;have h4:=ht.log4;have hpos:=ht.n_pos;have hn:=ht.n_le;obtain ⟨xx,hxx,hxl⟩:=fmod_nat x hpos;obtain ⟨yy,hyy,hyl⟩:=fmod_nat y hpos
 have hb0:b<w.heap.size:=by omega
 have hb1:b<w.heap.size+1:=by omega
 have hat:t.at x y=t.px.getD (yy*t.n+xx) 0:=by rw [Tex.at,hxx,hyy];rfl
 have hlt:yy*t.n+xx<t.px.length:=by rw [ht.len];exact texel_nat hyl hxl
 have hc:w.cell? ⟨b,off+yy*t.n+xx,none⟩=some (.int .i64 (t.px.getD (yy*t.n+xx) 0)):=by
  rw [Nat.add_assoc];exact hcell _ _ (by simp [hlt])
 rw [hat];generalize t.px.getD (yy*t.n+xx) 0=r at hc ⊢;have HX:=hid hxx;have HY:=hid hyy;have HT:=hid ht;have HC:=hid hcap
 have h16:I64 (t.n:Int):=⟨by omega,by omega⟩
 have H16:=hid h16;have H1:=hid hx;have H2:=hid hy;clear hxx hyy hcell hv hat hlt h16 hx hy ht hcap;go_enter Tryz.func332,Tryz.ntmps332;go_wp2;refine wp_region_ext (by kernel_rfl) (by kernel_rfl) ?_
 repeat (go_big_quiet_step ((first
  | (go_at_call 333;exact grow_call (side_any _ t _ h0 h4))
  | (go_at_call_of 229 x;exact grow_same (floorMod_val H1.out H16.out HX.out _))
  | (go_at_call_of 229 y;exact grow_same (floorMod_val H2.out H16.out HY.out _))
  | (go_at_call 334;exact grow_call (row_any b off cap t yy _ HT.out hyl HC.out)))))
 refine wpQuiet_nil ?_;intro w1 hx1;go_wp2;go_ret;exact ⟨rfl,((Ext.refl _).alloc _).trans hx1⟩
structure Xf where
 (m0 m1 m2 m3 m4 m5 m6 m7 m8 x y z:Int)
def Xf.ms (t:Xf):List Int:=[t.m0,t.m1,t.m2,t.m3,t.m4,t.m5,t.m6,t.m7,t.m8]
def Xf.V (t:Xf):Value:=.agg #[.int .i64 t.m0,.int .i64 t.m1,.int .i64 t.m2,.int .i64 t.m3,.int .i64 t.m4,.int .i64 t.m5,.int .i64 t.m6,.int .i64 t.m7,.int .i64 t.m8,.int .i64 t.x,.int .i64 t.y,.int .i64 t.z]
def Xf.ok (t:Xf):Bool:=t.ms.all (fun n=>inB n (-64) 64)&&okVec t.x t.y t.z
def Xf.I (t:Xf):Prop:=(∀n∈t.ms,I64 n)∧I64 t.x∧I64 t.y∧I64 t.z
def appC (a b c o x y z:Int):Int:=addC (fdiv (dotC a b c x y z) 16) o
def Flats (k lo hi:Nat) (w:World) (v:Value) (n:Nat) (f:Nat→Int):Prop:=
 ∃a cap,v = .slice a n cap∧n≤cap∧cap≤maxLen∧∀i,i<n*k→I64 (f i)∧∃b off,a=some ⟨b,off,none⟩∧lo≤b∧b<hi∧w.cell? ⟨b,off+i,none⟩=some (.int .i64 (f i))
theorem Flats.same {k lo hi:Nat} {w w':World} {v:Value} {n:Nat} {f:Nat→Int} (h:Flats k lo hi w v n f) (s:Same lo hi w w'):Flats k lo hi w' v n f:=by
 obtain ⟨a,cap,h1,h2,h3,h4⟩:=h;refine ⟨a,cap,h1,h2,h3,fun i hx=>?_⟩;obtain ⟨h5,b,off,h6,h7,h8,h9⟩:=h4 i hx;exact ⟨h5,b,off,h6,h7,h8,by rw [s.cell h7 h8];exact h9⟩
theorem Flats.ext {k lo hi:Nat} {w w':World} {v:Value} {n:Nat} {f:Nat→Int} (h:Flats k lo hi w v n f) (hh:hi≤w.heap.size) (e:Ext w w'):Flats k lo hi w' v n f:=h.same (e.same hh)
theorem Flats.wide {k lo hi lo' hi':Nat} {w:World} {v:Value} {n:Nat} {f:Nat→Int} (h:Flats k lo hi w v n f) (h1:lo'≤lo) (h2:hi≤hi'):Flats k lo' hi' w v n f:=by
 obtain ⟨a,cap,g1,g2,g3,g4⟩:=h;refine ⟨a,cap,g1,g2,g3,fun i hx=>?_⟩;obtain ⟨h5,b,off,h6,h7,h8,h9⟩:=g4 i hx;exact ⟨h5,b,off,h6,by omega,by omega,h9⟩
structure FlatsAt (k lo hi:Nat) (w:World) (a:Option Addr) (cap n:Nat) (f:Nat→Int):Prop where
 le:n≤cap
 cap:cap≤9223372036854775807
 cell:∀i,i<n*k→I64 (f i)∧∃b off,a=some ⟨b,off,none⟩∧lo≤b∧b<hi∧w.cell? ⟨b,off+i,none⟩=some (.int .i64 (f i))
theorem Flats.open {k lo hi:Nat} {w:World} {v:Value} {n:Nat} {f:Nat→Int} (h:Flats k lo hi w v n f):∃a cap,v = .slice a n cap∧FlatsAt k lo hi w a cap n f:=by
 obtain ⟨a,cap,g1,g2,g3,g4⟩:=h;exact ⟨a,cap,g1,g2,by unfold maxLen at g3;omega,g4⟩
theorem FlatsAt.shut {k lo hi:Nat} {w:World} {a:Option Addr} {cap n:Nat} {f:Nat→Int} (h:FlatsAt k lo hi w a cap n f):Flats k lo hi w (.slice a n cap) n f:=
 ⟨a,cap,rfl,h.le,by unfold maxLen;have:=h.cap;omega,h.cell⟩
theorem flat_lt {i j k n:Nat} (hi:i<n) (hj:j<k):i*k+j<n*k:=by
 have:=Nat.mul_le_mul_right k (Nat.succ_le_of_lt hi);rw [Nat.succ_mul] at this;omega
theorem FlatsAt.at {k lo hi:Nat} {w:World} {a:Option Addr} {cap n:Nat} {f:Nat→Int} (h:FlatsAt k lo hi w a cap n f) {i:Nat} (hi':i<n) (hk:0<k) :
  ∃b off,a=some ⟨b,off,none⟩∧lo≤b∧b<hi∧∀j,j<k→w.cell? ⟨b,off+i*k+j,none⟩=some (.int .i64 (f (i*k+j))):=by
 obtain ⟨_,b,off,h6,h7,h8,h9⟩:=h.cell _ (flat_lt hi' hk);refine ⟨b,off,h6,h7,h8,fun j hj=>?_⟩;obtain ⟨_,b',off',h6',h7',h8',h9'⟩:=h.cell _ (flat_lt hi' hj);rw [h6'] at h6;simp only [Option.some.injEq,Addr.mk.injEq] at h6;obtain ⟨rfl,rfl,_⟩:=h6;rw [Nat.add_assoc];exact h9'
theorem FlatsAt.i64 {k lo hi:Nat} {w:World} {a:Option Addr} {cap n:Nat} {f:Nat→Int} (h:FlatsAt k lo hi w a cap n f) {i j:Nat} (hi':i<n) (hj:j<k):I64 (f (i*k+j)):=(h.cell _ (flat_lt hi' hj)).1
def fillI (f:Nat→Int) (c i:Nat):Int:=if i<c then f i else 0
def RowI (w:World) (b:Nat) (t:TypeId) (n:Nat) (f:Nat→Int):Prop:=w.rowIs b t n (fun i=>.int .i64 (f i))
theorem RowI.cell {w:World} {b:Nat} {t:TypeId} {n:Nat} {f:Nat→Int} (h:RowI w b t n f) {i:Nat} (hi:i<n):w.cell? ⟨b,i,none⟩=some (.int .i64 (f i)):=World.rowIs.cell h hi
theorem RowI.frozen {w:World} {b:Nat} {t:TypeId} {n:Nat} {f:Nat→Int} (h:RowI w b t n f) (i:Nat):w.frozen? ⟨b,i,none⟩=false:=World.rowIs.frozen h i
theorem RowI.lt {w:World} {b:Nat} {t:TypeId} {n:Nat} {f:Nat→Int} (h:RowI w b t n f):b<w.heap.size:=World.rowIs.lt h
theorem RowI.ext {w w':World} {b:Nat} {t:TypeId} {n:Nat} {f:Nat→Int} (h:RowI w b t n f) (e:Ext w w'):RowI w' b t n f:=World.rowIs.of_block h (e.block h.lt)
theorem RowI.alloc {w:World} {b:Nat} {t:TypeId} {n:Nat} {f:Nat→Int} (h:RowI w b t n f) (o:Obj):RowI (w.alloc o) b t n f:=World.rowIs.alloc h o
theorem RowI.of {w w':World} {b:Nat} {t:TypeId} {n:Nat} {f:Nat→Int} (h:RowI w b t n f) (e:w'.heap[b]?=w.heap[b]?):RowI w' b t n f:=World.rowIs.of_block h e
theorem RowI.other {w:World} {b:Nat} {t:TypeId} {n:Nat} {f:Nat→Int} (h:RowI w b t n f) {a:Addr} (ha:b≠a.block) (v:Value):RowI (w.setCell a v) b t n f:=World.rowIs.setOther h ha v
theorem RowI.step {w:World} {b:Nat} {t:TypeId} {n:Nat} {f:Nat→Int} {c:Nat} (h:RowI w b t n (fillI f c)) {i:Nat} {x:Int} (hi:i=c) (hx:x=f c):RowI (w.setCell ⟨b,i,none⟩ (.int .i64 x)) b t n (fillI f (c+1)):=by
 subst hi hx;refine World.rowIs.congr (World.rowIs.set h i (.int .i64 (f i))) fun j _=>?_;unfold fillI
 by_cases e:j=i
 ·subst e;simp
 ·rw [if_neg e]
  by_cases h1:j<i
  ·rw [if_pos h1,if_pos (by omega)]
  ·rw [if_neg h1,if_neg (by omega)]
theorem RowI.full {w:World} {b:Nat} {t:TypeId} {n:Nat} {f:Nat→Int} (h:RowI w b t n (fillI f n)):RowI w b t n f:=
 World.rowIs.congr h fun i hi=>by unfold fillI;rw [if_pos hi]
theorem RowI.zero {w:World} {b:Nat} {t:TypeId} {n:Nat} {f:Nat→Int} (h:RowI w b t n (fun _=>0)):RowI w b t n (fillI f 0):=
 World.rowIs.congr h fun i hi=>by unfold fillI;rw [if_neg (by omega)]
theorem RowI.flats {w:World} {b:Nat} {t:TypeId} {k n cap:Nat} {f:Nat→Int} (h:RowI w b t (n*k) f) (hl:n≤cap) (hm:cap≤maxLen) {lo:Nat} (hb:lo≤b) (hi:∀i,i<n*k→I64 (f i)):Flats k lo w.heap.size w (.slice (some ⟨b,0,none⟩) n cap) n f:=
 ⟨_,cap,rfl,hl,hm,fun i hx=>⟨hi i hx,b,0,rfl,hb,h.lt,by rw [Nat.zero_add];exact h.cell hx⟩⟩
theorem ownsRow_rowI {w:World} {lo:Nat} {e:TypeId} {size n g:Nat} {z:Array Value} (hz:∀i,i<n*size→(madeCells z (n*size))[i]?=some (.int .i64 0))
  (h:w.ownsRow lo e size (.slice (some ⟨g,0,none⟩) n n) n (madeCells z (n*size)).toList):RowI w g e (n*size) (fun _=>0):=by
 rcases h.2 with ⟨h1,h4⟩|⟨g',cap,cur,h1,hb,hg,hc,hm,hs,ht⟩
 ·simp at h1
 ·simp only [Value.slice.injEq,true_and,Option.some.injEq,Addr.mk.injEq,and_true] at h1
  obtain ⟨rfl,rfl⟩:=h1;refine ⟨cur,hg,hs,fun i hi=>?_⟩;have h2:=hz i hi
  have h3:cur.toList=(madeCells z (n*size)).toList:=by
   rw [←ht,List.take_of_length_le];simp [hs]
  rw [←Array.getElem?_toList,h3,Array.getElem?_toList];exact h2
theorem made_zero {z:Array Value} {k:Nat} (h0:z=Array.replicate k (.int .i64 0)) (hk:0<k) (n:Nat):∀i,i<n→(madeCells z n)[i]?=some (.int .i64 0):=by
 intro i hi;subst h0;have h:i % k<k:=Nat.mod_lt _ hk;simp [madeCells,hi,h]
structure V3 where
 (x y z:Int)
def V3.V (t:V3):Value:=.agg #[.int .i64 t.x,.int .i64 t.y,.int .i64 t.z]
def Xf.app (t:Xf) (p:V3):V3:=if t.ok then ⟨appC t.m0 t.m1 t.m2 t.x p.x p.y p.z,appC t.m3 t.m4 t.m5 t.y p.x p.y p.z,appC t.m6 t.m7 t.m8 t.z p.x p.y p.z⟩ else p
structure ABox (w:World) (b:Nat) (x y z:Int):Prop where
 lt:b<w.heap.size
 c0:w.cell? ⟨b,0,none⟩=some (.int .i64 x)
 c1:w.cell? ⟨b,1,none⟩=some (.int .i64 y)
 c2:w.cell? ⟨b,2,none⟩=some (.int .i64 z)
 f0:w.frozen? ⟨b,0,none⟩=false
 f1:w.frozen? ⟨b,1,none⟩=false
 f2:w.frozen? ⟨b,2,none⟩=false
theorem ABox.ext {w w':World} {b:Nat} {x y z:Int} (h:ABox w b x y z) (e:Ext w w'):ABox w' b x y z:=
 ⟨Nat.lt_of_lt_of_le h.lt e.size,(e.cells.1 b _ h.lt).trans h.c0,(e.cells.1 b _ h.lt).trans h.c1,(e.cells.1 b _ h.lt).trans h.c2,(e.cells.2 b _ h.lt).trans h.f0,(e.cells.2 b _ h.lt).trans h.f1,(e.cells.2 b _ h.lt).trans h.f2⟩
def S9 (n:Int):Prop:=-1000000000≤n∧n≤1000000000
def satI (n:Int):Int:=clampI n (-1000000000) 1000000000
theorem satI_S9 (n:Int):S9 (satI n):=by
 unfold satI clampI S9
 split
 ·omega
 ·split <;> omega
def ratI (a b:Int):Int:=if b<0 then fdiv (-a*256) (-b) else fdiv (a*256) b
def opI (op a b:Int):Int:=if op=3 then -b else if op=4 then a+b else if op=5 then a - b else if op=6 then fdiv (a*b) 256 else ratI a b
def arithI (op a b:Int):Int:=satI (opI op a b)
theorem fdiv_bd {a b:Int} {m:Int} (ha : -m≤a∧a≤m) (hm:0≤m) : -m - 1≤fdiv a b∧fdiv a b≤m:=by
 unfold fdiv
 split
 ·omega
 ·rename_i hb
  have h1:=Int.mul_ediv_add_emod a b;have h2:=Int.emod_nonneg a (show b≠0 by omega);have h3:=Int.emod_lt_of_pos a (show 0<b by omega)
  by_cases h0:0≤a
  ·have:=Int.ediv_nonneg h0 (show 0≤b by omega)
   have:=Int.ediv_le_self b h0;omega
  ·have h4:a / b<0:=Int.ediv_neg_of_neg_of_pos (by omega) (by omega)
   have h5:a≤a / b:=by
    have:=Int.le_ediv_of_mul_le (a:=a) (b:=a) (show 0<b by omega) (by
     have:=Int.mul_le_mul_of_nonpos_left (a:=a) (b:=b) (c:=1) (by omega) (by omega)
     omega)
    omega
   omega
theorem mul9 {a b:Int} (ha:S9 a) (hb:S9 b) : -1000000000000000000≤a*b∧a*b≤1000000000000000000:=by
 obtain ⟨h1,h2⟩:=ha;obtain ⟨h3,h4⟩:=hb;have k1:=Int.mul_nonneg (show 0≤1000000000 - a by omega) (show 0≤1000000000 - b by omega);have k2:=Int.mul_nonneg (show 0≤1000000000+a by omega) (show 0≤1000000000+b by omega);have k3:=Int.mul_nonneg (show 0≤1000000000 - a by omega) (show 0≤1000000000+b by omega);have k4:=Int.mul_nonneg (show 0≤1000000000+a by omega) (show 0≤1000000000 - b by omega);simp only [Int.sub_mul,Int.mul_sub,Int.add_mul,Int.mul_add] at k1 k2 k3 k4
 constructor <;> omega
theorem iSaturate_val {n c:Int} (h:satI n=c) (w:World):Calls Tryz.prog 303 #[.int .i64 n] w fun e w'=>e = .returned (.int .i64 c)∧w=w':=by
 have H:=hid h;clear h;go_enter Tryz.func303,Tryz.ntmps303;go_wp2_with fail;refine (iClamp_val H.out _).mono ?_;rintro e w1 ⟨rfl,rfl⟩;go_wp2;go_ret;exact ⟨rfl,rfl⟩
theorem sSaturate_val {n c:Int} (h:satI n=c) (w:World):Calls Tryz.prog 249 #[.int .i64 n] w fun e w'=>e = .returned (.int .i64 c)∧w=w':=by
 have H:=hid h;clear h;go_enter Tryz.func249,Tryz.ntmps249;go_wp2_with fail;refine (sClamp_val H.out _).mono ?_;rintro e w1 ⟨rfl,rfl⟩;go_wp2;go_ret;exact ⟨rfl,rfl⟩
theorem iRatio_val {a b c:Int} (ha:S9 a) (hb:S9 b) (h:ratI a b=c) (w:World):Calls Tryz.prog 327 #[.int .i64 a,.int .i64 b] w fun e w'=>e = .returned (.int .i64 c)∧w=w':=by
 obtain ⟨a1,a2⟩:=ha;obtain ⟨b1,b2⟩:=hb;unfold ratI at h
 by_cases hn:b<0
 ·rw [if_pos hn] at h
  have H:=hid h;clear h;go_enter Tryz.func327,Tryz.ntmps327;go_wp2_with fail;refine (iFloorDiv_val (I64.mk (by omega) (by omega)) H.out _).mono ?_;rintro e w1 ⟨rfl,rfl⟩;go_wp2;go_ret;exact ⟨rfl,rfl⟩
 ·rw [if_neg hn] at h
  have H:=hid h;clear h;go_enter Tryz.func327,Tryz.ntmps327;go_wp2_with fail;refine (iFloorDiv_val (I64.mk (by omega) (by omega)) H.out _).mono ?_;rintro e w1 ⟨rfl,rfl⟩;go_wp2;go_ret;exact ⟨rfl,rfl⟩
theorem sQuotient_val {a b c:Int} (ha:S9 a) (hb:S9 b) (h:ratI a b=c) (w:World):Calls Tryz.prog 286 #[.int .i64 (a*256),.int .i64 b] w fun e w'=>e = .returned (.int .i64 c)∧w=w':=by
 obtain ⟨a1,a2⟩:=ha;obtain ⟨b1,b2⟩:=hb;unfold ratI at h
 by_cases hn:b<0
 ·rw [if_pos hn,show -a*256 = -(a*256) by omega] at h
  have H:=hid h;clear h;go_enter Tryz.func286,Tryz.ntmps286;go_wp2_with fail;refine (sFloorDiv_val (I64.mk (by omega) (by omega)) H.out _).mono ?_;rintro e w1 ⟨rfl,rfl⟩;go_wp2;go_ret;exact ⟨rfl,rfl⟩
 ·rw [if_neg hn] at h
  have H:=hid h;clear h;go_enter Tryz.func286,Tryz.ntmps286;go_wp2_with fail;refine (sFloorDiv_val (I64.mk (by omega) (by omega)) H.out _).mono ?_;rintro e w1 ⟨rfl,rfl⟩;go_wp2;go_ret;exact ⟨rfl,rfl⟩
def hashStep (h x:Int):Int:=fmod (31*h+clampI x (-1000000000) 1000000000) 1000003
def hashI (xs:List Int):Int:=xs.foldl hashStep 17
theorem clamp_big (x:Int) : -1000000000≤clampI x (-1000000000) 1000000000∧clampI x (-1000000000) 1000000000≤1000000000:=by
 unfold clampI
 split
 ·omega
 ·split <;> omega
theorem fmod_hash (a:Int):0≤fmod a 1000003∧fmod a 1000003<1000003:=by
 obtain ⟨k,hk,h⟩:=fmod_nat a (n:=1000003) (by decide);have e:fmod a 1000003=fmod a ((1000003:Nat):Int):=rfl;rw [e,hk];omega
theorem hash_range:∀(xs:List Int) (h:Int),(0≤h∧h<1000003)→0≤xs.foldl hashStep h∧xs.foldl hashStep h<1000003
 | [],_,h=>h
 | _::r,_,_=>hash_range r _ (fmod_hash _)
theorem hashI_range (xs:List Int):0≤hashI xs∧hashI xs<1000003:=hash_range xs 17 (by decide)
theorem hashI_snoc (xs:List Int) (k:Nat) (x:Int) (h:xs[k]?=some x):hashI (xs.take (k+1))=hashStep (hashI (xs.take k)) x:=by
 unfold hashI;rw [List.take_add_one,h,List.foldl_append]
 rfl
theorem HashInts_any (lo hi:Nat) (u:Value) (xs:List Int) (w:World) (hu:Ints lo hi w u xs) :
  Calls Tryz.prog 166 #[u] w fun e w'=>e = .returned (.int .i64 (hashI xs))∧w=w':=by
 obtain ⟨a,cap,rfl,HU⟩:=hu.open;have l1:=HU.le;have l2:=HU.cap;clear hu;go_enter Tryz.func166,Tryz.ntmps166;go_wp2
 go_loopw [3,8] (fun h i wr=>∃k:Nat,k≤xs.length∧i = .int .i64 k∧h = .int .i64 (hashI (xs.take k))∧w=wr) (fun _ i _=>xs.length - (intOf i).toNat)
 case atStart=>exact ⟨0,by omega,rfl,by rw [List.take_zero];rfl,rfl⟩
 case round=>
  obtain ⟨k,hk,rfl,rfl,rfl⟩:=hrel
  by_cases hlt:k<xs.length
  ·obtain ⟨b,off,rfl,hb1,hb2,hc⟩:=HU.at hlt
   obtain ⟨x,hx⟩:∃x,xs[k]=x:=⟨_,rfl⟩
   have hs:=hashI_snoc xs k x (by rw [List.getElem?_eq_getElem hlt,hx])
   obtain ⟨h,hh⟩:∃h,hashI (xs.take k)=h:=⟨_,rfl⟩
   have hr:=hashI_range (xs.take k);rw [hh] at hr hs ⊢;rw [hx] at hc;have HS:=hid hs;have hcl:=clamp_big x
   obtain ⟨c,hcx⟩:∃c,clampI x (-1000000000) 1000000000=c:=⟨_,rfl⟩
   have HC:=hid hcx;rw [hcx] at hcl;clear hs hh hx hcx;have hcc:∀w,Calls Tryz.prog 46 #[.int .i64 x,.int .i64 (-1000000000),.int .i64 1000000000] w fun e w'=>e = .returned (.int .i64 c)∧w=w':=fun w=>iClamp_val HC.out w;have HCC:=hid hcc;clear hcc;go_wp2_with fail;refine (HCC.out _).mono ?_;rintro e w1 ⟨rfl,rfl⟩;go_wp2_with fail;refine (floorMod_any (31*h+c) 1000003 _ ⟨by omega,by omega⟩ ⟨by decide,by decide⟩).mono ?_;rintro e w1 ⟨rfl,rfl⟩;go_wp2;go_roundw
   case rel=>exact ⟨k+1,by omega,by go_num,by rw [HS.out,hashStep,HC.out],by trivial⟩
   case measure=>simp [intOf];omega
  ·obtain rfl:k=xs.length:=by omega
   rw [List.take_length];go_wp2;go_ret;exact ⟨rfl,rfl⟩
theorem sHashInts_any (lo hi:Nat) (u:Value) (xs:List Int) (w:World) (hu:Ints lo hi w u xs) :
  Calls Tryz.prog 206 #[u] w fun e w'=>e = .returned (.int .i64 (hashI xs))∧w=w':=by
 obtain ⟨a,cap,rfl,HU⟩:=hu.open;have l1:=HU.le;have l2:=HU.cap;clear hu;go_enter Tryz.func206,Tryz.ntmps206;go_wp2
 go_loopw [3,8] (fun h i wr=>∃k:Nat,k≤xs.length∧i = .int .i64 k∧h = .int .i64 (hashI (xs.take k))∧w=wr) (fun _ i _=>xs.length - (intOf i).toNat)
 case atStart=>exact ⟨0,by omega,rfl,by rw [List.take_zero];rfl,rfl⟩
 case round=>
  obtain ⟨k,hk,rfl,rfl,rfl⟩:=hrel
  by_cases hlt:k<xs.length
  ·obtain ⟨b,off,rfl,hb1,hb2,hc⟩:=HU.at hlt
   obtain ⟨x,hx⟩:∃x,xs[k]=x:=⟨_,rfl⟩
   have hs:=hashI_snoc xs k x (by rw [List.getElem?_eq_getElem hlt,hx])
   obtain ⟨h,hh⟩:∃h,hashI (xs.take k)=h:=⟨_,rfl⟩
   have hr:=hashI_range (xs.take k);rw [hh] at hr hs ⊢;rw [hx] at hc;have hcl:=clamp_big x
   obtain ⟨c,hcx⟩:∃c,clampI x (-1000000000) 1000000000=c:=⟨_,rfl⟩
   have HC:=hid hcx;rw [hcx] at hcl;unfold hashStep at hs;rw [hcx,←fmod_eq] at hs
   obtain ⟨q,hq⟩:∃q,fdiv (31*h+c) 1000003=q:=⟨_,rfl⟩
   have hqb:=fdiv_bd (a:=31*h+c) (b:=1000003) (m:=2000000000) (by omega) (by omega);rw [hq] at hqb hs;have HQ:=hid hq;have HS:=hid hs;clear hs hh hx hcx hq;have hcc:∀w,Calls Tryz.prog 194 #[.int .i64 x,.int .i64 (-1000000000),.int .i64 1000000000] w fun e w'=>e = .returned (.int .i64 c)∧w=w':=fun w=>sClamp_val HC.out w;have HCC:=hid hcc;clear hcc;go_wp2_with fail;refine (HCC.out _).mono ?_;rintro e w1 ⟨rfl,rfl⟩;go_wp2_with fail;refine (sFloorDiv_val (I64.mk (by omega) (by omega)) HQ.out _).mono ?_;rintro e w1 ⟨rfl,rfl⟩;go_wp2;go_roundw
   case rel=>exact ⟨k+1,by omega,by go_num,by rw [HS.out],by trivial⟩
   case measure=>simp [intOf];omega
  ·obtain rfl:k=xs.length:=by omega
   rw [List.take_length];go_wp2;go_ret;exact ⟨rfl,rfl⟩
def hash257 (xs:List Int):Int:=hashI xs % 257
theorem iHash257_any (lo hi:Nat) (u:Value) (xs:List Int) (w:World) (hu:Ints lo hi w u xs) :
  Calls Tryz.prog 109 #[u,.int .i64 257] w fun e w'=>e = .returned (.int .i64 (hash257 xs))∧w=w':=by
 have HU:=hid hu;clear hu;unfold hash257;have hr:=hashI_range xs
 obtain ⟨h,hh⟩:∃h,hashI xs=h:=⟨_,rfl⟩
 rw [hh] at hr ⊢;have HH:=hid hh;clear hh;have et:h.tmod 257=h % 257:=Int.tmod_eq_emod_of_nonneg (by omega);go_enter Tryz.func109,Tryz.ntmps109;go_wp2_with fail;refine (HashInts_any lo hi _ xs _ HU.out).mono ?_;rintro e w1 ⟨rfl,rfl⟩;rw [HH.out];go_wp2;rw [←et];go_ret;exact ⟨rfl,rfl⟩
theorem sHash257_any (lo hi:Nat) (u:Value) (xs:List Int) (w:World) (hu:Ints lo hi w u xs) :
  Calls Tryz.prog 145 #[u,.int .i64 257] w fun e w'=>e = .returned (.int .i64 (hash257 xs))∧w=w':=by
 have HU:=hid hu;clear hu;unfold hash257;have hr:=hashI_range xs
 obtain ⟨h,hh⟩:∃h,hashI xs=h:=⟨_,rfl⟩
 rw [hh] at hr ⊢;have HH:=hid hh;clear hh;have et:h.tmod 257=h % 257:=Int.tmod_eq_emod_of_nonneg (by omega);go_enter Tryz.func145,Tryz.ntmps145;go_wp2_with fail;refine (sHashInts_any lo hi _ xs _ HU.out).mono ?_;rintro e w1 ⟨rfl,rfl⟩;rw [HH.out];go_wp2;rw [←et];go_ret;exact ⟨rfl,rfl⟩
def maxI (a b:Int):Int:=if a > b then a else b
def minI (a b:Int):Int:=if a<b then a else b
def absI (a:Int):Int:=if a<0 then -a else a
def stepI (a b:Int):Int:=if b≥a then 256 else 0
def floorI (a:Int):Int:=fdiv a 256*256
def blendI (a b c:Int):Int:=a+fdiv ((b - a)*c) 256
theorem l01Max_sh {a b c:Int} (ha:I64 a) (hb:I64 b) (h:(if a > b then a else b)=c) (w:World):Calls Tryz.prog 244 #[.int .i64 a,.int .i64 b] w fun e w'=>e = .returned (.int .i64 c)∧w=w':=by
 subst h;go_enter Tryz.func244,Tryz.ntmps244
 by_cases h:a > b
 ·rw [if_pos h]
  go_wp2;go_ret;exact ⟨rfl,rfl⟩
 ·rw [if_neg h]
  go_wp2;go_ret;exact ⟨rfl,rfl⟩
theorem l01Min_sh {a b c:Int} (ha:I64 a) (hb:I64 b) (h:(if a<b then a else b)=c) (w:World):Calls Tryz.prog 284 #[.int .i64 a,.int .i64 b] w fun e w'=>e = .returned (.int .i64 c)∧w=w':=by
 subst h;go_enter Tryz.func284,Tryz.ntmps284
 by_cases h:a<b
 ·rw [if_pos h]
  go_wp2;go_ret;exact ⟨rfl,rfl⟩
 ·rw [if_neg h]
  go_wp2;go_ret;exact ⟨rfl,rfl⟩
theorem stepped_sh {a b c:Int} (ha:I64 a) (hb:I64 b) (h:(if b≥a then 256 else 0)=c) (w:World):Calls Tryz.prog 328 #[.int .i64 a,.int .i64 b] w fun e w'=>e = .returned (.int .i64 c)∧w=w':=by
 subst h;go_enter Tryz.func328,Tryz.ntmps328
 by_cases h:b≥a
 ·rw [if_pos h]
  go_wp2;go_ret;exact ⟨rfl,rfl⟩
 ·rw [if_neg h]
  go_wp2;go_ret;exact ⟨rfl,rfl⟩
theorem l09Abs_sh {a c:Int} (ha:S9 a) (h:absI a=c) (w:World):Calls Tryz.prog 283 #[.int .i64 a] w fun e w'=>e = .returned (.int .i64 c)∧w=w':=by
 subst h;obtain ⟨h1,h2⟩:=ha;unfold absI;go_enter Tryz.func283,Tryz.ntmps283
 by_cases h:a<0
 ·rw [if_pos h]
  go_wp2;go_ret;exact ⟨rfl,rfl⟩
 ·rw [if_neg h]
  go_wp2;go_ret;exact ⟨rfl,rfl⟩
theorem absolute_sh {a c:Int} (ha:S9 a) (h:absI a=c) (w:World):Calls Tryz.prog 214 #[.int .i64 a] w fun e w'=>e = .returned (.int .i64 c)∧w=w':=by
 subst h;obtain ⟨h1,h2⟩:=ha;unfold absI;go_enter Tryz.func214,Tryz.ntmps214
 by_cases h:a<0
 ·rw [if_pos h]
  go_wp2;go_ret;exact ⟨rfl,rfl⟩
 ·rw [if_neg h]
  go_wp2;go_ret;exact ⟨rfl,rfl⟩
structure Cam where
 (w h zoom near:Int)
 deep:Bool
 (lens focus:Int)
def Cam.V (c:Cam):Value:=.agg #[.int .i64 c.w,.int .i64 c.h,.int .i64 c.zoom,.int .i64 c.near,.bool c.deep,.int .i64 c.lens,.int .i64 c.focus]
def Cam.I (c:Cam):Prop:=I64 c.w∧I64 c.h∧I64 c.zoom∧I64 c.near∧I64 c.lens∧I64 c.focus
def Cam.okB (c:Cam):Bool:=inB c.w 1 12&&inB c.h 1 12&&inB c.zoom 1 65536&&inB c.near 1 1000000&&inB c.lens 0 64&&inB c.focus 0 1000000
structure Cam.Ok (c:Cam):Prop where
 w:1≤c.w∧c.w≤12
 h:1≤c.h∧c.h≤12
 zoom:1≤c.zoom∧c.zoom≤65536
 near:1≤c.near∧c.near≤1000000
 lens:0≤c.lens∧c.lens≤64
 focus:0≤c.focus∧c.focus≤1000000
theorem Cam.okB_iff {c:Cam}:c.okB=true↔c.Ok:=by
 unfold Cam.okB;simp only [Bool.and_eq_true,inB_iff];exact ⟨fun ⟨⟨⟨⟨⟨a,b⟩,d⟩,e⟩,f⟩,g⟩=>⟨a,b,d,e,f,g⟩,fun h=>⟨⟨⟨⟨⟨h.w,h.h⟩,h.zoom⟩,h.near⟩,h.lens⟩,h.focus⟩⟩
def sc (n:Int):Int:=clampI n (-100000) 100000
def Cam.by (c:Cam) (z:Int):Int:=if c.deep then z else 256
def Cam.pj (c:Cam) (x z l half:Int):Int:=sc (fdiv ((x+fdiv (l*c.lens*(z - c.focus)) 4096)*c.zoom) (c.by z)+half)
def Cam.prB (c:Cam) (v:V3) (lx ly:Int):Bool:=c.okB&&okVec v.x v.y v.z&&inB lx (-16) 16&&inB ly (-16) 16&&decide (c.near≤v.z)
def Cam.pr (c:Cam) (v:V3) (lx ly:Int):V3:=⟨c.pj v.x v.z lx (c.w*8),c.pj v.y v.z ly (c.h*8),v.z⟩
def evC (a b c d i j n:Int):Int:=fdiv (cl a*((n - i)*(n - j))+cl b*(i*(n - j))+cl c*((n - i)*j)+cl d*(i*j)) (n*n)
def evP (f:Nat→Int) (i j n:Int):V3:=⟨evC (f 0) (f 3) (f 6) (f 9) i j n,evC (f 1) (f 4) (f 7) (f 10) i j n,evC (f 2) (f 5) (f 8) (f 11) i j n⟩
def lerpC (a b i n:Int):Int:=fdiv (cl a*(n - i)+cl b*i) n
def midP (f g:Nat→Int) (t:Int):Nat→Int:=fun j=>lerpC (f j) (g j) t 16
def side2 (a b s:V3):Int:=(b.x - a.x)*(s.y - a.y) - (b.y - a.y)*(s.x - a.x)
def leftB (a b s:V3):Bool:=decide (0<side2 a b s)||(side2 a b s==0&&(decide (b.y<a.y)||(b.y==a.y&&decide (a.x<b.x))))
def covB (a b c s:V3):Bool:=
 if side2 a b c=0 then false else if side2 a b c<0 then leftB a c s&&leftB c b s&&leftB b a s else leftB a b s&&leftB b c s&&leftB c a s
def depthI (a b c s:V3):Int:=fdiv (a.z*absI (side2 b c s)+b.z*absI (side2 c a s)+c.z*absI (side2 a b s)) (absI (side2 a b c))
structure Frag where
 (d s c col al:Int)
def Frag.ls (f:Frag):List Int:=[f.d,f.s,f.c,f.col,f.al]
def Frag.cs (f:Frag):List Value:=[.int .i64 f.d,.int .i64 f.s,.int .i64 f.c,.int .i64 f.col,.int .i64 f.al]
structure Smp where
 (x y t lx ly:Int)
def Smp.cs (s:Smp):List Value:=[.int .i64 s.x,.int .i64 s.y,.int .i64 s.t,.int .i64 s.lx,.int .i64 s.ly]
def Smp.at (s:Smp):V3:=⟨s.x,s.y,0⟩
def Smp.okB (c:Cam) (s:Smp):Bool:=c.okB&&inB s.x 0 (c.w*16 - 1)&&inB s.y 0 (c.h*16 - 1)&&inB s.t 0 15&&inB s.lx (-16) 16&&inB s.ly (-16) 16
def cornB (c:Cam) (f:Nat→Int) (n:Nat) (s:Smp) (u v:Nat):Bool:=c.prB (evP f (u:Nat) (v:Nat) (n:Nat)) s.lx s.ly
def corn (c:Cam) (f:Nat→Int) (n:Nat) (s:Smp) (u v:Nat):V3:=c.pr (evP f (u:Nat) (v:Nat) (n:Nat)) s.lx s.ly
def diceB (c:Cam) (f:Nat→Int) (n:Nat) (s:Smp) (u v:Nat):Bool:=cornB c f n s u v&&cornB c f n s (u+1) v&&cornB c f n s u (v+1)&&cornB c f n s (u+1) (v+1)
def hitC (a b d s:V3) (k cell col al:Int):List Frag:=if covB a b d s then [⟨depthI a b d s,k,cell,col,al⟩] else []
def cellH (c:Cam) (f:Nat→Int) (n:Nat) (s:Smp) (k:Int) (cols als:List Int) (u v:Nat):List Frag:=
 if diceB c f n s u v then
  hitC (corn c f n s u v) (corn c f n s (u+1) v) (corn c f n s u (v+1)) s.at k ((v*n+u:Nat):Int) (cols.getD (v*n+u) 0) (als.getD (v*n+u) 0) ++
  hitC (corn c f n s (u+1) v) (corn c f n s (u+1) (v+1)) (corn c f n s u (v+1)) s.at k ((v*n+u:Nat):Int) (cols.getD (v*n+u) 0) (als.getD (v*n+u) 0)
 else []
def hitsTo (c:Cam) (f:Nat→Int) (n:Nat) (s:Smp) (k:Int) (cols als:List Int) (q:Nat):List Frag:=(List.range q).flatMap fun i=>cellH c f n s k cols als (i % n) (i / n)
def hitsL (c:Cam) (f:Nat→Int) (n:Nat) (s:Smp) (k:Int) (cols als:List Int):List Frag:=hitsTo c f n s k cols als (n*n)
theorem fdiv_lo {s d m:Int} (hd:1≤d) (h:m*d≤s):m≤fdiv s d:=by
 unfold fdiv;rw [if_neg (by omega)];exact (Int.le_ediv_iff_mul_le (by omega)).2 h
theorem fdiv_hi {s d m:Int} (hd:1≤d) (h:s≤m*d):fdiv s d≤m:=by
 unfold fdiv;rw [if_neg (by omega)];exact Int.ediv_le_of_le_mul (by omega) h
theorem wts (i j n:Int):(n - i)*(n - j)+i*(n - j)+(n - i)*j+i*j=n*n:=by grind
theorem wt_lo {x w m:Int} (hw:0≤w) (h:m≤x):m*w≤x*w:=Int.mul_le_mul_of_nonneg_right h hw
theorem evC_lo {a b c d i j n m:Int} (hn:1≤n) (hi:0≤i∧i≤n) (hj:0≤j∧j≤n) (ha:m≤cl a) (hb:m≤cl b) (hc:m≤cl c) (hd:m≤cl d):m≤evC a b c d i j n:=by
 have p1:0≤(n - i)*(n - j):=Int.mul_nonneg (by omega) (by omega);have p2:0≤i*(n - j):=Int.mul_nonneg (by omega) (by omega);have p3:0≤(n - i)*j:=Int.mul_nonneg (by omega) (by omega);have p4:0≤i*j:=Int.mul_nonneg (by omega) (by omega);have e:=wts i j n
 have hnn:1≤n*n:=by have:=Int.mul_le_mul hn hn (by omega) (by omega);omega
 refine fdiv_lo hnn ?_;rw [←e];have q1:=wt_lo p1 ha;have q2:=wt_lo p2 hb;have q3:=wt_lo p3 hc;have q4:=wt_lo p4 hd;rw [Int.mul_add,Int.mul_add,Int.mul_add];omega
theorem evC_hi {a b c d i j n m:Int} (hn:1≤n) (hi:0≤i∧i≤n) (hj:0≤j∧j≤n) (ha:cl a≤m) (hb:cl b≤m) (hc:cl c≤m) (hd:cl d≤m):evC a b c d i j n≤m:=by
 have p1:0≤(n - i)*(n - j):=Int.mul_nonneg (by omega) (by omega);have p2:0≤i*(n - j):=Int.mul_nonneg (by omega) (by omega);have p3:0≤(n - i)*j:=Int.mul_nonneg (by omega) (by omega);have p4:0≤i*j:=Int.mul_nonneg (by omega) (by omega);have e:=wts i j n
 have hnn:1≤n*n:=by have:=Int.mul_le_mul hn hn (by omega) (by omega);omega
 refine fdiv_hi hnn ?_;rw [←e];have q1:=wt_lo p1 ha;have q2:=wt_lo p2 hb;have q3:=wt_lo p3 hc;have q4:=wt_lo p4 hd;rw [Int.mul_add,Int.mul_add,Int.mul_add];omega
theorem mul_abs {a b A B:Int} (h1 : -A≤a∧a≤A) (h2 : -B≤b∧b≤B) : -(A*B)≤a*b∧a*b≤A*B:=by
 have p1:=Int.mul_nonneg (show 0≤A - a by omega) (show 0≤B - b by omega);have p2:=Int.mul_nonneg (show 0≤A+a by omega) (show 0≤B+b by omega);have p3:=Int.mul_nonneg (show 0≤A - a by omega) (show 0≤B+b by omega);have p4:=Int.mul_nonneg (show 0≤A+a by omega) (show 0≤B - b by omega)
 constructor
 ·grind
 ·grind
theorem okVec_iff {x y z:Int}:okVec x y z=true↔(-1000000≤x∧x≤1000000)∧(-1000000≤y∧y≤1000000)∧(-1000000≤z∧z≤1000000):=by
 unfold okVec;simp only [Bool.and_eq_true,inB_iff];exact ⟨fun ⟨⟨a,b⟩,c⟩=>⟨a,b,c⟩,fun ⟨a,b,c⟩=>⟨⟨a,b⟩,c⟩⟩
def Frag.lt (a b:Frag):Bool:=decide (a.d<b.d)||(a.d==b.d&&(decide (a.s<b.s)||(a.s==b.s&&decide (a.c<b.c))))
def Blk (w:World) (g:Nat) (t:TypeId) (cs:List Value):Prop:=w.heap[g]?=some (.cells cs.toArray t (0,0))
theorem Blk.lt {w:World} {g:Nat} {t:TypeId} {cs:List Value} (h:Blk w g t cs):g<w.heap.size:=(Array.getElem?_eq_some_iff.1 h).1
theorem Blk.cell {w:World} {g:Nat} {t:TypeId} {cs:List Value} (h:Blk w g t cs) (i:Nat) {v:Value} (hi:cs[i]?=some v):w.cell? ⟨g,i,none⟩=some v:=by
 unfold Blk at h;simp [World.cell?,h,hi]
theorem Blk.free {w:World} {g:Nat} {t:TypeId} {cs:List Value} (h:Blk w g t cs) (i:Nat):w.frozen? ⟨g,i,none⟩=false:=by
 unfold Blk at h;simp [World.frozen?,h]
theorem Blk.new (w:World) (t:TypeId) (cs:List Value):Blk (w.alloc (.cells cs.toArray t)) w.heap.size t cs:=by
 show (w.heap.push _)[w.heap.size]?=_
 simp
theorem Blk.of {w w':World} {g:Nat} {t:TypeId} {cs:List Value} (h:Blk w g t cs) (e:w'.heap[g]?=w.heap[g]?):Blk w' g t cs:=e.trans h
theorem Blk.ext {w w':World} {g:Nat} {t:TypeId} {cs:List Value} (h:Blk w g t cs) (e:Ext w w'):Blk w' g t cs:=h.of (e.block h.lt)
theorem Blk.set {w:World} {g:Nat} {t:TypeId} {cs:List Value} (h:Blk w g t cs) (i:Nat) (v:Value):Blk (w.setCell ⟨g,i,none⟩ v) g t (cs.set i v):=by
 have hlt:=h.lt
 have h':w.heap[g] = .cells cs.toArray t (0,0):=by unfold Blk at h;simpa [Array.getElem?_eq_getElem hlt] using h
 show (w.heap.modify g _)[g]?=_
 rw [Array.getElem?_eq_getElem (by simpa using hlt),Array.getElem_modify_self,h'];simp
theorem Blk.other {w:World} {g:Nat} {t:TypeId} {cs:List Value} (h:Blk w g t cs) {a:Addr} (ne:g≠a.block) (v:Value):Blk (w.setCell a v) g t cs:=h.of (Below.heap_setCell _ _ _ _ ne)
theorem Blk.grown {w w':World} {g:Nat} {t:TypeId} {cs:List Value} {row:Option Nat} (h:Blk w g t cs) (hg:w.grownBy w' row) (ne:some g≠row):Blk w' g t cs:=h.of (hg.block g h.lt ne)
theorem OwnInts.grown {lo:Nat} {w w':World} {v:Value} {xs:List Int} {row:Option Nat} (h:OwnInts lo w v xs) (hg:w.grownBy w' row) (ne:∀k,v.ownBlock=some k→some k≠row):OwnInts lo w' v xs:=by
 obtain ⟨⟨h1,h2⟩,h3⟩:=h;refine ⟨⟨h1,?_⟩,h3⟩
 rcases h2 with hn|⟨g,cap,cur,rfl,hb,hh,r⟩
 ·exact .inl hn
 ·exact .inr ⟨g,cap,cur,rfl,hb,by rw [hg.block g ((Array.getElem?_eq_some_iff.1 hh).1) (ne g rfl)];exact hh,r⟩
theorem OwnInts.setOther {lo:Nat} {w:World} {v:Value} {xs:List Int} (h:OwnInts lo w v xs) {a:Addr} (ne:v.ownBlock≠some a.block) (u:Value):OwnInts lo (w.setCell a u) v xs:=⟨ownsRow_setCell_other h.1 ne u,h.2⟩
theorem OwnInts.fresh0 {lo g:Nat} {w:World} (hl:lo≤g) (h:Blk w g 3 []):OwnInts lo w (.slice (some ⟨g,0,none⟩) 0 0) []:=
 ⟨⟨rfl,.inr ⟨g,0,#[],rfl,hl,h,Nat.le_refl _,Nat.zero_le _,rfl,rfl⟩⟩,fun _ h=>by cases h⟩
theorem OwnInts.block {lo:Nat} {w:World} {v:Value} {xs:List Int} (h:OwnInts lo w v xs) {k:Nat} (hk:v.ownBlock=some k):∃cur,w.heap[k]?=some (.cells cur 3 (0,0)):=by
 obtain ⟨⟨h1,h2⟩,h3⟩:=h
 rcases h2 with ⟨rfl,_⟩|⟨g,cap,cur,rfl,hb,hh,r⟩
 ·cases hk
 ·simp only [Value.ownBlock,Option.some.injEq] at hk
  subst hk;exact ⟨cur,hh⟩
theorem Ext.gr {w w':World} (h:Ext w w') (row:Option Nat):w.grownBy w' row:=⟨h.os,h.tape,h.output,h.size,fun i hi _=>h.block hi⟩
theorem Blk.q2 {w:World} {g:Nat} {t:TypeId} {v0 v1:Value} {r:List Value} (h:Blk w g t (v0::v1::r)):w.cell? ⟨g,0,none⟩=some v0∧w.cell? ⟨g,1,none⟩=some v1:=⟨h.cell 0 rfl,h.cell 1 rfl⟩
theorem Blk.q3 {w:World} {g:Nat} {t:TypeId} {v0 v1 v2:Value} {r:List Value} (h:Blk w g t (v0::v1::v2::r)):w.cell? ⟨g,0,none⟩=some v0∧w.cell? ⟨g,1,none⟩=some v1∧w.cell? ⟨g,2,none⟩=some v2:=⟨h.cell 0 rfl,h.cell 1 rfl,h.cell 2 rfl⟩
theorem Blk.q4 {w:World} {g:Nat} {t:TypeId} {v0 v1 v2 v3:Value} {r:List Value} (h:Blk w g t (v0::v1::v2::v3::r)):w.cell? ⟨g,0,none⟩=some v0∧w.cell? ⟨g,1,none⟩=some v1∧w.cell? ⟨g,2,none⟩=some v2∧w.cell? ⟨g,3,none⟩=some v3:=⟨h.cell 0 rfl,h.cell 1 rfl,h.cell 2 rfl,h.cell 3 rfl⟩
theorem Blk.q5 {w:World} {g:Nat} {t:TypeId} {v0 v1 v2 v3 v4:Value} {r:List Value} (h:Blk w g t (v0::v1::v2::v3::v4::r)):w.cell? ⟨g,0,none⟩=some v0∧w.cell? ⟨g,1,none⟩=some v1∧w.cell? ⟨g,2,none⟩=some v2∧w.cell? ⟨g,3,none⟩=some v3∧w.cell? ⟨g,4,none⟩=some v4:=⟨h.cell 0 rfl,h.cell 1 rfl,h.cell 2 rfl,h.cell 3 rfl,h.cell 4 rfl⟩
theorem Blk.q7 {w:World} {g:Nat} {t:TypeId} {v0 v1 v2 v3 v4 v5 v6:Value} {r:List Value} (h:Blk w g t (v0::v1::v2::v3::v4::v5::v6::r)):w.cell? ⟨g,0,none⟩=some v0∧w.cell? ⟨g,1,none⟩=some v1∧w.cell? ⟨g,2,none⟩=some v2∧w.cell? ⟨g,3,none⟩=some v3∧w.cell? ⟨g,4,none⟩=some v4∧w.cell? ⟨g,5,none⟩=some v5∧w.cell? ⟨g,6,none⟩=some v6:=⟨h.cell 0 rfl,h.cell 1 rfl,h.cell 2 rfl,h.cell 3 rfl,h.cell 4 rfl,h.cell 5 rfl,h.cell 6 rfl⟩
theorem Blk.q11 {w:World} {g:Nat} {t:TypeId} {v0 v1 v2 v3 v4 v5 v6 v7 v8 v9 v10:Value} {r:List Value} (h:Blk w g t (v0::v1::v2::v3::v4::v5::v6::v7::v8::v9::v10::r)):w.cell? ⟨g,0,none⟩=some v0∧w.cell? ⟨g,1,none⟩=some v1∧w.cell? ⟨g,2,none⟩=some v2∧w.cell? ⟨g,3,none⟩=some v3∧w.cell? ⟨g,4,none⟩=some v4∧w.cell? ⟨g,5,none⟩=some v5∧w.cell? ⟨g,6,none⟩=some v6∧w.cell? ⟨g,7,none⟩=some v7∧w.cell? ⟨g,8,none⟩=some v8∧w.cell? ⟨g,9,none⟩=some v9∧w.cell? ⟨g,10,none⟩=some v10:=⟨h.cell 0 rfl,h.cell 1 rfl,h.cell 2 rfl,h.cell 3 rfl,h.cell 4 rfl,h.cell 5 rfl,h.cell 6 rfl,h.cell 7 rfl,h.cell 8 rfl,h.cell 9 rfl,h.cell 10 rfl⟩
theorem Blk.q12 {w:World} {g:Nat} {t:TypeId} {v0 v1 v2 v3 v4 v5 v6 v7 v8 v9 v10 v11:Value} {r:List Value} (h:Blk w g t (v0::v1::v2::v3::v4::v5::v6::v7::v8::v9::v10::v11::r)):w.cell? ⟨g,0,none⟩=some v0∧w.cell? ⟨g,1,none⟩=some v1∧w.cell? ⟨g,2,none⟩=some v2∧w.cell? ⟨g,3,none⟩=some v3∧w.cell? ⟨g,4,none⟩=some v4∧w.cell? ⟨g,5,none⟩=some v5∧w.cell? ⟨g,6,none⟩=some v6∧w.cell? ⟨g,7,none⟩=some v7∧w.cell? ⟨g,8,none⟩=some v8∧w.cell? ⟨g,9,none⟩=some v9∧w.cell? ⟨g,10,none⟩=some v10∧w.cell? ⟨g,11,none⟩=some v11:=⟨h.cell 0 rfl,h.cell 1 rfl,h.cell 2 rfl,h.cell 3 rfl,h.cell 4 rfl,h.cell 5 rfl,h.cell 6 rfl,h.cell 7 rfl,h.cell 8 rfl,h.cell 9 rfl,h.cell 10 rfl,h.cell 11 rfl⟩
def Strs (lo hi:Nat) (w:World) (v:Value) (xs:List ByteArray):Prop:=
 ∃a cap,v = .slice a xs.length cap∧xs.length≤cap∧cap≤maxLen∧∀i x,xs[i]?=some x→∃b off,a=some ⟨b,off,none⟩∧lo≤b∧b<hi∧w.cell? ⟨b,off+i,none⟩=some (.string x)
theorem Strs.same {lo hi:Nat} {w w':World} {v:Value} {xs:List ByteArray} (h:Strs lo hi w v xs) (s:Same lo hi w w'):Strs lo hi w' v xs:=by
 obtain ⟨a,cap,h1,h2,h3,h4⟩:=h;refine ⟨a,cap,h1,h2,h3,fun i x hx=>?_⟩;obtain ⟨b,off,h6,h7,h8,h9⟩:=h4 i x hx;exact ⟨b,off,h6,h7,h8,by rw [s.cell h7 h8];exact h9⟩
theorem Strs.ext {lo hi:Nat} {w w':World} {v:Value} {xs:List ByteArray} (h:Strs lo hi w v xs) (hh:hi≤w.heap.size) (e:Ext w w'):Strs lo hi w' v xs:=h.same (e.same hh)
structure StrsAt (lo hi:Nat) (w:World) (a:Option Addr) (cap:Nat) (xs:List ByteArray):Prop where
 le:xs.length≤cap
 cap:cap≤9223372036854775807
 cell:∀i x,xs[i]?=some x→∃b off,a=some ⟨b,off,none⟩∧lo≤b∧b<hi∧w.cell? ⟨b,off+i,none⟩=some (.string x)
theorem Strs.open {lo hi:Nat} {w:World} {v:Value} {xs:List ByteArray} (h:Strs lo hi w v xs):∃a cap,v = .slice a xs.length cap∧StrsAt lo hi w a cap xs:=by
 obtain ⟨a,cap,g1,g2,g3,g4⟩:=h;exact ⟨a,cap,g1,g2,by unfold maxLen at g3;omega,g4⟩
theorem StrsAt.at {lo hi:Nat} {w:World} {a:Option Addr} {cap:Nat} {xs:List ByteArray} (h:StrsAt lo hi w a cap xs) {k:Nat} (hk:k<xs.length) :
  ∃b off,a=some ⟨b,off,none⟩∧lo≤b∧b<hi∧w.cell? ⟨b,off+k,none⟩=some (.string xs[k]):=h.cell k xs[k] (by simp [hk])
def OwnStrs (lo:Nat) (w:World) (v:Value) (xs:List ByteArray):Prop:=w.ownsRow lo 9 1 v xs.length (xs.map Value.string)
theorem OwnStrs.strs {lo:Nat} {w:World} {v:Value} {xs:List ByteArray} (h:OwnStrs lo w v xs):Strs lo w.heap.size w v xs:=by
 obtain ⟨h1,h2⟩:=h
 rcases h2 with ⟨rfl,h4⟩|⟨g,cap,cur,rfl,hb,hg,hc,hm,hs,ht⟩
 ·refine ⟨none,0,by rw [h4],by omega,by unfold maxLen;omega,fun i x hx=>?_⟩
  have:=(List.getElem?_eq_some_iff.1 hx).1;omega
 ·refine ⟨some ⟨g,0,none⟩,cap,rfl,hc,hm,fun i x hx=>⟨g,0,rfl,hb,(Array.getElem?_eq_some_iff.1 hg).1,?_⟩⟩
  have hi:=(List.getElem?_eq_some_iff.1 hx).1
  have e:(xs.map Value.string)[i]?=some (.string x):=by simp [hx]
  rw [←ht,List.getElem?_take,if_pos (by omega)] at e;simp only [World.cell?,hg,Nat.zero_add]
  simpa using e
theorem OwnStrs.nil (lo:Nat) (w:World):OwnStrs lo w (.slice none 0 0) []:=World.ownsRow_nil _ _ _ _
theorem OwnStrs.lt {lo:Nat} {w:World} {v:Value} {xs:List ByteArray} (h:OwnStrs lo w v xs):∀k,v.ownBlock=some k→lo≤k∧k<w.heap.size:=World.ownsRow.lt h
theorem OwnStrs.kept {lo:Nat} {w w':World} {v:Value} {xs:List ByteArray} (h:OwnStrs lo w v xs) (s:Same lo w.heap.size w w'):OwnStrs lo w' v xs:=by
 obtain ⟨h1,h2⟩:=h;refine ⟨h1,?_⟩
 rcases h2 with hn|⟨g,cap,cur,hv,hb,hg,r⟩
 ·exact .inl hn
 ·exact .inr ⟨g,cap,cur,hv,hb,by rw [s g hb (Array.getElem?_eq_some_iff.1 hg).1];exact hg,r⟩
theorem OwnStrs.ext {lo:Nat} {w w':World} {v:Value} {xs:List ByteArray} (h:OwnStrs lo w v xs) (e:Ext w w'):OwnStrs lo w' v xs:=h.kept (e.same (Nat.le_refl _))
theorem OwnStrs.form {lo:Nat} {w:World} {v:Value} {xs:List ByteArray} (h:OwnStrs lo w v xs):∃a cap,v = .slice a xs.length cap∧xs.length≤9223372036854775807:=by
 obtain ⟨h1,h2⟩:=h
 rcases h2 with ⟨rfl,h4⟩|⟨g,cap,cur,rfl,hb,hg,hc,hm,hs,ht⟩
 ·exact ⟨none,0,by rw [h4],by omega⟩
 ·exact ⟨some ⟨g,0,none⟩,cap,rfl,by unfold maxLen at hm;omega⟩
theorem OwnStrs.low {lo lo':Nat} {w:World} {v:Value} {xs:List ByteArray} (h:OwnStrs lo w v xs) (hl:lo'≤lo):OwnStrs lo' w v xs:=by
 obtain ⟨h1,h2⟩:=h;refine ⟨h1,?_⟩
 rcases h2 with hn|⟨g,cap,cur,hv,hb,r⟩
 ·exact .inl hn
 ·exact .inr ⟨g,cap,cur,hv,by omega,r⟩
theorem info_string:(Tryz.prog.info? 9).map (fun i=>(i.zero,i.size,i.bytes))=some (some (.string ⟨#[]⟩),1,16):=by kernel_rfl
theorem wpList_append_str (w:World) {ops:Array Oper} {rest:List Oper} {o:Oper} {a:Act} {Q:Exit→Act→World→Prop} (hg:o.guard=none) (s x:Operand)
  (hop:o.op=Op.call { callee:=Callee.builtin Builtin.append,args:=#[s,x],argTypes:=#[124,124] }) (lo:Nat) (v:Value) (xs:List ByteArray) (hs:a.eval s=v) (hown:OwnStrs lo w v xs)
  (y:ByteArray) (b:Nat) (hx:a.eval x = .slice (some ⟨b,0,none⟩) 1 1) (hcell:w.cell? ⟨b,0,none⟩=some (.string y)) (hlen:xs.length<1000000000) (hlo:lo≤w.heap.size)
  (hK:∀v' w',OwnStrs lo w' v' (xs++[y])→w.grownBy w' v.ownBlock→wpList Tryz.prog ops Q rest (a.put o.dst v') w'):wpList Tryz.prog ops Q (o::rest) a w:=by
 obtain ⟨i0,hi0,hz0,hz1,hz2⟩:=info_parts info_string;refine wpList_append_own w hg s x 124 hop lo 9 i0 (.string ⟨#[]⟩) 1 16 Tryz.underlying124 hi0 hz0 hz1 hz2 rfl (by decide) v xs.length _ hs hown ⟨b,0,none⟩ 1 1 [.string y] hx rfl ?_ ?_ ?_ ?_ hlo ?_
 ·intro j u hj
  match j,hj with
  | 0,hj=>simp at hj;subst hj;exact hcell
 ·intro u hu;simp at hu;subst hu;rfl
 ·unfold maxLen;omega
 ·omega
 ·intro v' w1 hown' hgrow _
  refine hK v' w1 ?_ hgrow;unfold OwnStrs
  simpa using hown'
def Dbl (p m L:Nat):Prop:=p*2 ^ m=2 ^ L
theorem Dbl.succ {p m L:Nat} (h:Dbl p (m+1) L):Dbl (2*p) m L:=by
 unfold Dbl at *;rw [Nat.pow_succ] at h;rw [←h,Nat.mul_comm 2 p,Nat.mul_assoc,Nat.mul_comm 2]
theorem Dbl.le {p m L:Nat} (h:Dbl p m L) (hL:L≤30):p≤1073741824:=by
 unfold Dbl at h;have h1:2 ^ L≤2 ^ 30:=Nat.pow_le_pow_right (by omega) hL;have h2:p*1≤p*2 ^ m:=Nat.mul_le_mul_left p Nat.one_le_two_pow;omega
theorem Dbl.done {p L:Nat} (h:Dbl p 0 L):p=2 ^ L:=by unfold Dbl at h;simpa using h
theorem l15Size_any (L:Nat) (hL:L≤30) (w:World):Calls Tryz.prog 185 #[.int .i64 L] w fun e w'=>e = .returned (.int .i64 ((2 ^ L:Nat):Int))∧w=w':=by
 go_enter Tryz.func185,Tryz.ntmps185;go_wp2
 go_loop [0,3] (fun l n=>∃m p:Nat,l = .int .i64 m∧n = .int .i64 p∧Dbl p m L∧m≤30) (fun l _=>(intOf l).toNat)
 case atStart=>exact ⟨L,1,rfl,rfl,by simp [Dbl],hL⟩
 case round=>
  obtain ⟨m,p,rfl,rfl,hd,hm⟩:=hrel;have HD:=Lib.hid hd;have hp:=hd.le hL;clear hd
  cases m with
  | zero=>
   go_wp2;go_ret;exact ⟨ret_int (by rw [HD.out.done,Int.natCast_pow];rfl),rfl⟩
  | succ m=>
   go_wp2
   go_round
   case rel=>exact ⟨m,2*p,rfl,by go_num,HD.out.succ,by omega⟩
   case measure=>simp [intOf]
theorem wrapmod (x:Int) {n:Nat} (h1:1≤n) (h2:n≤1000000):(wrap64 (x.tmod n+n)).tmod n=fmod x n:=by
 have h3:=Int.tmod_lt_of_pos x (show (0:Int)<n by omega);have h4:=Int.lt_tmod_of_pos x (show (0:Int)<n by omega);rw [wrap_small (by omega) (by omega),Int.tmod_eq_emod_of_nonneg (by omega),fmod,if_neg (by omega),Int.add_emod_right,Int.tmod_def,Int.sub_mul_emod_self_left]
theorem l15Size_tex {t:Tex} (h0:0≤t.log) (h4:t.log≤4) (w:World):Calls Tryz.prog 185 #[.int .i64 t.log] w fun e w'=>e = .returned (.int .i64 t.n)∧w=w':=by
 have h:=l15Size_any t.log.toNat (by omega) w;rw [Int.toNat_of_nonneg h0] at h;exact h
theorem sIsValidTexture_any (lo hi:Nat) (v:Value) (t:Tex) (w:World) (hv:TexR lo hi w v t) (hh:hi≤w.heap.size) :
  Calls Tryz.prog 123 #[v] w fun e w'=>e = .returned (.bool t.okB)∧Ext w w':=by
 obtain ⟨u,rfl,hlog,hu⟩:=hv;obtain ⟨a,cap,rfl,HU⟩:=(hu.ext hh ((Ext.refl _).alloc (.cells #[.int .i64 t.log,u] 27))).open;have hlen:=HU.le;have hcap:=HU.cap;clear hu
 by_cases h1:0≤t.log∧t.log≤4
 ·have HB:=hid (inB_iff.2 h1:inB t.log 0 4=true)
  have h10:=h1.1;have h11:=h1.2;clear h1;have hnl:t.n≤16:=Nat.pow_le_pow_right (n:=2) (by omega) (show t.log.toNat≤4 by omega)
  have hnn:wrap64 ((t.n:Int)*(t.n:Int))=((t.n*t.n:Nat):Int):=by
   rw [←Int.natCast_mul];have:=Nat.mul_le_mul hnl hnl;exact wrap_small (by omega) (by omega)
  by_cases h2:t.px.length=t.n*t.n
  ·have h3:((t.px.length:Int) != wrap64 ((t.n:Int)*(t.n:Int)))=false:=by rw [hnn];simp [h2]
   have H2:=hid h2;clear h2 hnn;go_enter Tryz.func123,Tryz.ntmps123;go_wp2
   go_quiet ((first|(go_at_call 70;exact quiet_same (l01In_val HB.out _))|(go_at_call 185;exact quiet_same (l15Size_tex h10 h11 _))))
   go_wp2
   go_loop [25] (fun i=>∃k:Nat,k≤t.px.length∧i = .int .i64 k∧(t.px.take k).all (fun x=>inB x 0 256)=true) (fun i=>t.px.length - (intOf i).toNat)
   case atStart=>exact ⟨0,by omega,rfl,rfl⟩
   case round=>
    obtain ⟨k,hk,rfl,hall⟩:=hrel;have HA:=Lib.hid hall;clear hall
    by_cases hlt:k<t.px.length
    ·obtain ⟨b,off,rfl,hb1,hb2,hc⟩:=HU.at hlt
     cases hin:inB t.px[k] 0 256
     ·have HI:=Lib.hid hin
      go_wp2_with (go_at_call 70;refine (l01In_val HI.out _).mono ?_;rintro e w' ⟨rfl,rfl⟩);go_ret;exact ⟨ret_bool (by rw [Tex.okB,all_no hlt HI.out,Bool.and_false]),((Ext.refl _).alloc _).drewN _⟩
     ·have HI:=Lib.hid hin
      go_wp2_with (go_at_call 70;refine (l01In_val HI.out _).mono ?_;rintro e w' ⟨rfl,rfl⟩)
      go_round
      case rel=>exact ⟨k+1,by omega,by go_num,all_step hlt HA.out HI.out⟩
      case measure=>simp [intOf];omega
    ·go_wp2
     go_ret
     obtain rfl:k=t.px.length:=by omega
     exact ⟨ret_bool (by rw [List.take_length] at HA;rw [Tex.okB,HB.out,H2.out,HA.out];simp),((Ext.refl _).alloc _).drewN _⟩
  ·have h3:((t.px.length:Int) != wrap64 ((t.n:Int)*(t.n:Int)))=true:=by rw [hnn,bne_iff_ne];omega
   have H2:=hid h2;clear h2 hnn;go_enter Tryz.func123,Tryz.ntmps123;go_wp2
   go_quiet ((first|(go_at_call 70;exact quiet_same (l01In_val HB.out _))|(go_at_call 185;exact quiet_same (l15Size_tex h10 h11 _))))
   go_wp2;go_ret;exact ⟨ret_bool (by rw [Tex.okB,HB.out,decide_eq_false H2.out];rfl),((Ext.refl _).alloc _).drewN _⟩
 ·have HB:=hid (by rw [Bool.eq_false_iff];intro h;exact h1 (inB_iff.1 h):inB t.log 0 4=false)
  clear h1;go_enter Tryz.func123,Tryz.ntmps123;go_wp2
  go_quiet ((first|(go_at_call 70;exact quiet_same (l01In_val HB.out _))))
  go_wp2;go_ret;exact ⟨ret_bool (by rw [Tex.okB,HB.out];rfl),((Ext.refl _).alloc _).drewN _⟩
theorem l15Texel_any (lo hi:Nat) (v:Value) (t:Tex) (x y:Int) (w:World) (hv:TexR lo hi w v t) (hh:hi≤w.heap.size) (ht:t.Ok) :
  Calls Tryz.prog 306 #[v,.int .i64 x,.int .i64 y] w fun e w'=>e = .returned (.int .i64 (t.at x y))∧Ext w w':=by
 obtain ⟨b,off,cap,rfl,hcap,hlo,hhi,hcell⟩:=hv.ok ht;have h0:=ht.log0;have h4:=ht.log4;have hpos:=ht.n_pos;have hn:=ht.n_le
 have hb0:b<w.heap.size:=by omega
 have hb1:b<w.heap.size+1:=by omega
 obtain ⟨xx,hxx,hxl⟩:=fmod_nat x hpos;obtain ⟨yy,hyy,hyl⟩:=fmod_nat y hpos;have ex:=vint ((wrapmod x hpos (by omega)).trans hxx);have ey:=vint ((wrapmod y hpos (by omega)).trans hyy);obtain ⟨p,hp,e0,e2,hb⟩:=row_nat hyl hn;have e1:=vint e0;clear e0 e2
 have hat:t.at x y=t.px.getD (p+xx) 0:=by rw [Tex.at,hxx,hyy,hp];rfl
 have hlt:p+xx<t.px.length:=by rw [ht.len,hp];exact texel_nat hyl hxl
 have hl2:t.px.length≤256:=by rw [ht.len];exact Nat.mul_le_mul hn hn
 have hc:w.cell? ⟨b,off+(p+xx),none⟩=some (.int .i64 (t.px.getD (p+xx) 0)):=hcell _ _ (by simp [hlt]);rw [hat];generalize t.px.getD (p+xx) 0=r at hc ⊢;clear hxx hyy hcell hv hat ht hp hb;go_enter Tryz.func306,Tryz.ntmps306;go_wp2_with (go_at_call 185;refine (l15Size_tex h0 h4 _).mono ?_;rintro e w' ⟨rfl,rfl⟩);go_ret;exact ⟨rfl,(Ext.refl _).alloc _⟩
def Tex.avg (t:Tex) (x y:Nat):Int:=(t.at (2*x) (2*y)+t.at (2*x+1) (2*y)+t.at (2*x) (2*y+1)+t.at (2*x+1) (2*y+1)) / 4
def Tex.avgK (t:Tex) (m k:Nat):Int:=t.avg (k % m) (k / m)
def Tex.halfPx (t:Tex) (m k:Nat):List Int:=(List.range k).map (t.avgK m)
def Tex.half (t:Tex):Tex:={ log:=t.log - 1,px:=t.halfPx (2 ^ (t.log - 1).toNat) (2 ^ (t.log - 1).toNat*2 ^ (t.log - 1).toNat) }
theorem Tex.halfPx_succ (t:Tex) (m k:Nat):t.halfPx m (k+1)=t.halfPx m k++[t.avgK m k]:=by simp [Tex.halfPx,List.range_succ]
theorem Tex.halfPx_length (t:Tex) (m k:Nat):(t.halfPx m k).length=k:=by simp [Tex.halfPx]
theorem Tex.Ok.half_n {t:Tex} (h:t.Ok) (h1:1≤t.log):t.n=2*2 ^ (t.log - 1).toNat:=by
 have h4:=h.log4
 have:t.log=1∨t.log=2∨t.log=3∨t.log=4:=by omega
 rcases this with h|h|h|h <;> simp [Tex.n,h]
theorem Tex.Ok.at_range {t:Tex} (h:t.Ok) (x y:Int):0≤t.at x y∧t.at x y≤256:=by
 have hp:=h.n_pos;unfold Tex.at;obtain ⟨xx,hxx,hxl⟩:=fmod_nat x hp;obtain ⟨yy,hyy,hyl⟩:=fmod_nat y hp;rw [hxx,hyy]
 have hlt:yy*t.n+xx<t.px.length:=by rw [h.len];exact texel_nat hyl hxl
 have:=h.all (t.px[yy*t.n+xx]'hlt) (List.getElem_mem hlt);simp only [Int.toNat_natCast];rw [List.getD_eq_getElem?_getD,List.getElem?_eq_getElem hlt];exact this
theorem Tex.Ok.avg_range {t:Tex} (h:t.Ok) (x y:Nat):0≤t.avg x y∧t.avg x y≤256:=by
 have h1:=h.at_range (2*x) (2*y);have h2:=h.at_range (2*x+1) (2*y);have h3:=h.at_range (2*x) (2*y+1);have h4:=h.at_range (2*x+1) (2*y+1);unfold Tex.avg;omega
theorem Tex.Ok.half {t:Tex} (h:t.Ok) (h1:1≤t.log):t.half.Ok:=by
 have h4:=h.log4;refine ⟨by show 0≤t.log - 1;omega,by show t.log - 1≤4;omega,by rw [Tex.half,Tex.halfPx_length];rfl,fun x hx=>?_⟩;simp only [Tex.half,Tex.halfPx,List.mem_map] at hx;obtain ⟨k,_,rfl⟩:=hx;exact h.avg_range _ _
theorem Tex.at_nat (t:Tex) {x y:Nat} (hx:x<t.n) (hy:y<t.n):t.px[y*t.n+x]?=some (t.at x y)∨t.px.length≤y*t.n+x:=by
 by_cases hlt:y*t.n+x<t.px.length
 ·left
  have e1:fmod (x:Int) t.n=x:=by rw [fmod,if_neg (by omega),Int.emod_eq_of_lt (by omega) (by omega)]
  have e2:fmod (y:Int) t.n=y:=by rw [fmod,if_neg (by omega),Int.emod_eq_of_lt (by omega) (by omega)]
  rw [Tex.at,e1,e2];simp only [Int.toNat_natCast];rw [List.getD_eq_getElem?_getD,List.getElem?_eq_getElem hlt]
  rfl
 ·right;omega
structure HSt (w wr:World) (t:Tex) (u:Value) (m k:Nat) (a:Option Addr) (c:Nat):Prop where
 ext:Ext w wr
 size:w.heap.size+1+1<wr.heap.size
 p0:wr.cell? ⟨w.heap.size,0,none⟩=some (.int .i64 t.log)
 p1:wr.cell? ⟨w.heap.size,1,none⟩=some u
 r0:wr.cell? ⟨w.heap.size+1,0,none⟩=some (.int .i64 0)
 r1:wr.cell? ⟨w.heap.size+1,1,none⟩=some (.slice none 0 0)
 f0:wr.frozen? ⟨w.heap.size+1,0,none⟩=false
 f1:wr.frozen? ⟨w.heap.size+1,1,none⟩=false
 o0:wr.cell? ⟨w.heap.size+1+1,0,none⟩=some (.int .i64 (t.log - 1))
 o1:wr.cell? ⟨w.heap.size+1+1,1,none⟩=some (.slice a k c)
 g1:wr.frozen? ⟨w.heap.size+1+1,1,none⟩=false
 own:OwnInts (w.heap.size+1+1+1) wr (.slice a k c) (t.halfPx m k)
theorem HSt.to {w wr wr':World} {t:Tex} {u:Value} {m k:Nat} {a:Option Addr} {c:Nat} (h:HSt w wr t u m k a c) (e:Ext wr wr'):HSt w wr' t u m k a c:=by
 obtain ⟨hc,hf⟩:=e.cells;have hs:=h.size;have hz:=e.size
 exact ⟨h.ext.trans e,by omega,by rw [hc _ _ (by omega)];exact h.p0,by rw [hc _ _ (by omega)];exact h.p1,by rw [hc _ _ (by omega)];exact h.r0,by rw [hc _ _ (by omega)];exact h.r1,
  by rw [hf _ _ (by omega)];exact h.f0,by rw [hf _ _ (by omega)];exact h.f1,by rw [hc _ _ (by omega)];exact h.o0,by rw [hc _ _ (by omega)];exact h.o1,by rw [hf _ _ (by omega)];exact h.g1,h.own.ext e⟩
theorem HSt.push {w wr w1:World} {t:Tex} {u:Value} {m k:Nat} {a a':Option Addr} {c c' n':Nat} (h:HSt w wr t u m k a c) (hg:wr.grownBy w1 (Value.slice a k c).ownBlock)
  (hown:OwnInts (w.heap.size+1+1+1) w1 (.slice a' n' c') (t.halfPx m k++[t.avgK m k])) :
  HSt w (w1.setCell ⟨w.heap.size+1+1,1,none⟩ (.slice a' n' c')) t u m (k+1) a' c'∧n'=k+1:=by
 rw [←Tex.halfPx_succ] at hown;obtain ⟨a2,cap2,hv,_⟩:=hown.form;rw [Tex.halfPx_length] at hv;simp only [Value.slice.injEq] at hv;obtain ⟨_,rfl,_⟩:=hv;have hs:=h.size;have hz:=hg.size;have hlt:=h.own.lt
 have hne:∀b,b<w.heap.size+1+1+1→some b≠(Value.slice a k c).ownBlock:=fun b hb e=>by have:=(hlt b e.symm).1;omega
 have hc:∀b o,b<w.heap.size+1+1+1→w1.cell? ⟨b,o,none⟩=wr.cell? ⟨b,o,none⟩:=fun b o hb=>World.cell?_of_block (w:=wr) (hg.block b (by omega) (hne b hb));have hf:∀b o,b<w.heap.size+1+1+1→w1.frozen? ⟨b,o,none⟩=wr.frozen? ⟨b,o,none⟩:=fun b o hb=>World.frozen?_of_block (w:=wr) (hg.block b (by omega) (hne b hb))
 have hd:∀b o,b<w.heap.size+1+1→(w1.setCell ⟨w.heap.size+1+1,1,none⟩ (.slice a' (k+1) c')).cell? ⟨b,o,none⟩=wr.cell? ⟨b,o,none⟩:=fun b o hb=>by
  rw [World.cell?_setCell_other _ _ _ _ (fun e=>by simp only [Addr.mk.injEq] at e;omega),hc b o (by omega)]
 refine ⟨⟨(h.ext.grown hg (fun b e=>by have:=(hlt b e).1;omega)).setCell (by show w.heap.size≤w.heap.size+1+1;omega) _,by rw [World.size_setCell];omega,by rw [hd _ _ (by omega)];exact h.p0,by rw [hd _ _ (by omega)];exact h.p1,
  by rw [hd _ _ (by omega)];exact h.r0,by rw [hd _ _ (by omega)];exact h.r1,by rw [World.frozen?_setCell,hf _ _ (by omega)];exact h.f0,by rw [World.frozen?_setCell,hf _ _ (by omega)];exact h.f1,?_,?_,
  by rw [World.frozen?_setCell,hf _ _ (by omega)];exact h.g1,hown.setLow (by simp) _⟩,rfl⟩
 ·rw [World.cell?_setCell_other _ _ _ _ (by simp),hc _ _ (by omega)];exact h.o0
 ·exact World.cell?_setCell_same _ _ _ ((hc _ _ (by omega)).trans h.o1)
theorem side_val {u:Value} {l:Int} {n:Nat} (h0:0≤l) (h4:l≤4) (hn:2 ^ l.toNat=n) (w:World) :
  Calls Tryz.prog 333 #[.agg #[.int .i64 l,u]] w fun e w'=>e = .returned (.int .i64 n)∧Ext w w':=by
 subst hn;exact side_any u ⟨l,[]⟩ w h0 h4
theorem Tex.Ok.block {t:Tex} (ht:t.Ok) {m i j p q:Nat} (hn:t.n=2*m) (hi:i<m) (hj:j<m) (hp:2*j*t.n=p) (hq:(2*j+1)*t.n=q) :
  t.px[p+2*i]?=some (t.at (2*i) (2*j))∧t.px[p+(2*i+1)]?=some (t.at (2*i+1) (2*j))∧t.px[q+2*i]?=some (t.at (2*i) (2*j+1))∧t.px[q+(2*i+1)]?=some (t.at (2*i+1) (2*j+1)):=by
 have key:∀x y:Nat,x<t.n→y<t.n→t.px[y*t.n+x]?=some (t.at x y):=fun x y hx hy=>by
  rcases t.at_nat hx hy with h|h
  ·exact h
  ·rw [ht.len] at h
   have:=texel_nat hy hx;omega
 subst hp hq;have k1:=key (2*i) (2*j) (by omega) (by omega);have k2:=key (2*i+1) (2*j) (by omega) (by omega);have k3:=key (2*i) (2*j+1) (by omega) (by omega);have k4:=key (2*i+1) (2*j+1) (by omega) (by omega);simp only [Int.natCast_add,Int.natCast_mul,Int.natCast_one] at k1 k2 k3 k4;exact ⟨k1,k2,k3,k4⟩
theorem Tex.avgK_at (t:Tex) {m i j:Nat} (hi:i<m):t.avgK m (j*m+i)=t.avg i j:=by
 have h1:(j*m+i) % m=i:=by rw [Nat.mul_comm,Nat.mul_add_mod,Nat.mod_eq_of_lt hi]
 have h2:(j*m+i) / m=j:=by rw [Nat.mul_comm,Nat.mul_add_div (by omega),Nat.div_eq_of_lt hi];rfl
 rw [Tex.avgK,h1,h2]
theorem iIsValidTexture_val {t:Tex} {b:Bool} (h:t.okB=b) (lo hi:Nat) (v:Value) (w:World) (hv:TexR lo hi w v t) (hh:hi≤w.heap.size) :
  Calls Tryz.prog 97 #[v] w fun e w'=>e = .returned (.bool b)∧Ext w w':=h▸iIsValidTexture_any lo hi v t w hv hh
theorem OwnTex.zero (lo:Nat) (w:World):OwnTex lo w (.agg #[.int .i64 0,.slice none 0 0]) ⟨0,[]⟩:=⟨_,rfl,⟨by decide,by decide⟩,OwnInts.nil _ _⟩
theorem OwnTex.setLow {lo:Nat} {w:World} {v:Value} {t:Tex} (h:OwnTex lo w v t) {p:Addr} (hp:p.block<lo) (u:Value):OwnTex lo (w.setCell p u) v t:=by
 obtain ⟨x,h1,h2,h3⟩:=h;exact ⟨x,h1,h2,h3.setLow hp u⟩
theorem OwnTex.form {lo:Nat} {w:World} {v:Value} {t:Tex} (h:OwnTex lo w v t):∃a c,v = .agg #[.int .i64 t.log,.slice a t.px.length c]∧I64 t.log:=by
 obtain ⟨x,h1,h2,h3⟩:=h;obtain ⟨a,c,rfl,_⟩:=h3.form;exact ⟨a,c,h1,h2⟩
theorem OwnTex.low {lo lo':Nat} {w:World} {v:Value} {t:Tex} (h:OwnTex lo w v t) (hl:lo'≤lo):OwnTex lo' w v t:=by
 obtain ⟨x,h1,h2,h3⟩:=h;exact ⟨x,h1,h2,h3.low hl⟩
theorem TexR.shape {lo hi:Nat} {w:World} {v:Value} {t:Tex} (h:TexR lo hi w v t):∃u,v = .agg #[.int .i64 t.log,u]∧I64 t.log:=by
 obtain ⟨u,h1,h2,_⟩:=h;exact ⟨u,h1,h2⟩
structure SSt (w wr:World) (t:Tex) (u:Value) (g m k:Nat) (a:Option Addr) (c:Nat):Prop where
 ext:Ext w wr
 pos:w.heap.size+1<g
 size:g<wr.heap.size
 p0:wr.cell? ⟨w.heap.size,0,none⟩=some (.int .i64 t.log)
 p1:wr.cell? ⟨w.heap.size,1,none⟩=some u
 r0:wr.cell? ⟨w.heap.size+1,0,none⟩=some (.int .i64 0)
 r1:wr.cell? ⟨w.heap.size+1,1,none⟩=some (.slice none 0 0)
 f0:wr.frozen? ⟨w.heap.size+1,0,none⟩=false
 f1:wr.frozen? ⟨w.heap.size+1,1,none⟩=false
 o0:wr.cell? ⟨g,0,none⟩=some (.int .i64 (t.log - 1))
 o1:wr.cell? ⟨g,1,none⟩=some (.slice a k c)
 g1:wr.frozen? ⟨g,1,none⟩=false
 own:OwnInts (g+1) wr (.slice a k c) (t.halfPx m k)
theorem SSt.to {w wr wr':World} {t:Tex} {u:Value} {g m k:Nat} {a:Option Addr} {c:Nat} (h:SSt w wr t u g m k a c) (e:Ext wr wr'):SSt w wr' t u g m k a c:=by
 obtain ⟨hc,hf⟩:=e.cells;have hs:=h.size;have hp:=h.pos;have hz:=e.size
 exact ⟨h.ext.trans e,hp,by omega,by rw [hc _ _ (by omega)];exact h.p0,by rw [hc _ _ (by omega)];exact h.p1,by rw [hc _ _ (by omega)];exact h.r0,by rw [hc _ _ (by omega)];exact h.r1,
  by rw [hf _ _ (by omega)];exact h.f0,by rw [hf _ _ (by omega)];exact h.f1,by rw [hc _ _ (by omega)];exact h.o0,by rw [hc _ _ (by omega)];exact h.o1,by rw [hf _ _ (by omega)];exact h.g1,h.own.ext e⟩
theorem SSt.push {w wr w1:World} {t:Tex} {u:Value} {g m k:Nat} {a a':Option Addr} {c c' n':Nat} (h:SSt w wr t u g m k a c) (hg:wr.grownBy w1 (Value.slice a k c).ownBlock)
  (hown:OwnInts (g+1) w1 (.slice a' n' c') (t.halfPx m k++[t.avgK m k])) :
  SSt w (w1.setCell ⟨g,1,none⟩ (.slice a' n' c')) t u g m (k+1) a' c'∧n'=k+1:=by
 rw [←Tex.halfPx_succ] at hown;obtain ⟨a2,cap2,hv,_⟩:=hown.form;rw [Tex.halfPx_length] at hv;simp only [Value.slice.injEq] at hv;obtain ⟨_,rfl,_⟩:=hv;have hs:=h.size;have hp:=h.pos;have hz:=hg.size;have hlt:=h.own.lt
 have hne:∀b,b<g+1→some b≠(Value.slice a k c).ownBlock:=fun b hb e=>by have:=(hlt b e.symm).1;omega
 have hc:∀b o,b<g+1→w1.cell? ⟨b,o,none⟩=wr.cell? ⟨b,o,none⟩:=fun b o hb=>World.cell?_of_block (w:=wr) (hg.block b (by omega) (hne b hb));have hf:∀b o,b<g+1→w1.frozen? ⟨b,o,none⟩=wr.frozen? ⟨b,o,none⟩:=fun b o hb=>World.frozen?_of_block (w:=wr) (hg.block b (by omega) (hne b hb))
 have hd:∀b o,b<g→(w1.setCell ⟨g,1,none⟩ (.slice a' (k+1) c')).cell? ⟨b,o,none⟩=wr.cell? ⟨b,o,none⟩:=fun b o hb=>by
  rw [World.cell?_setCell_other _ _ _ _ (fun e=>by simp only [Addr.mk.injEq] at e;omega),hc b o (by omega)]
 refine ⟨⟨(h.ext.grown hg (fun b e=>by have:=(hlt b e).1;omega)).setCell (by show w.heap.size≤g;omega) _,hp,by rw [World.size_setCell];omega,by rw [hd _ _ (by omega)];exact h.p0,by rw [hd _ _ (by omega)];exact h.p1,
  by rw [hd _ _ (by omega)];exact h.r0,by rw [hd _ _ (by omega)];exact h.r1,by rw [World.frozen?_setCell,hf _ _ (by omega)];exact h.f0,by rw [World.frozen?_setCell,hf _ _ (by omega)];exact h.f1,?_,?_,
  by rw [World.frozen?_setCell,hf _ _ (by omega)];exact h.g1,hown.setLow (by simp) _⟩,rfl⟩
 ·rw [World.cell?_setCell_other _ _ _ _ (by simp),hc _ _ (by omega)];exact h.o0
 ·exact World.cell?_setCell_same _ _ _ ((hc _ _ (by omega)).trans h.o1)
theorem sIsValidTexture_val {t:Tex} {b:Bool} (h:t.okB=b) (lo hi:Nat) (v:Value) (w:World) (hv:TexR lo hi w v t) (hh:hi≤w.heap.size) :
  Calls Tryz.prog 123 #[v] w fun e w'=>e = .returned (.bool b)∧Ext w w':=h▸sIsValidTexture_any lo hi v t w hv hh
theorem l15Size_half {l:Int} {m:Nat} (h0:1≤l) (h4:l≤4) (hm:2 ^ (l - 1).toNat=m) (w:World) :
  Calls Tryz.prog 185 #[.int .i64 (l - 1)] w fun e w'=>e = .returned (.int .i64 m)∧w=w':=by
 subst hm;exact l15Size_tex (t:=⟨l - 1,[]⟩) (by show 0≤l - 1;omega) (by show l - 1≤4;omega) w
theorem l15Texel_val {t:Tex} {x y r:Int} (ht:t.Ok) (hr:t.at x y=r) (lo hi:Nat) (v:Value) (w:World) (hv:TexR lo hi w v t) (hh:hi≤w.heap.size) :
  Calls Tryz.prog 306 #[v,.int .i64 x,.int .i64 y] w fun e w'=>e = .returned (.int .i64 r)∧Ext w w':=hr▸l15Texel_any lo hi v t x y w hv hh ht
theorem block_lt {i j m:Nat} (hj:j<m) (hi:i<m) (hm:m≤8):j*m+i<1000000000:=by
 have h1:=Nat.mul_le_mul (Nat.le_of_lt hj) hm;have h2:=Nat.mul_le_mul hm (Nat.le_refl 8);have h3:=Nat.mul_le_mul (Nat.le_of_lt hj) (Nat.le_refl m);have h4:=Nat.mul_le_mul hm hm;omega
theorem sHalf_valid (lo hi:Nat) (v:Value) (t:Tex) (w:World) (hv:TexR lo hi w v t) (hh:hi≤w.heap.size) (ht:t.Ok) (hl1:1≤t.log) :
  Calls Tryz.prog 325 #[v] w fun e w'=>∃v',e = .returned (.tuple #[v',.bool true])∧OwnTex w.heap.size w' v' t.half∧Ext w w':=by
 obtain ⟨u,rfl,hlog⟩:=hv.shape;have h4:=ht.log4
 obtain ⟨m,hm⟩:∃m,2 ^ (t.log - 1).toNat=m:=⟨_,rfl⟩
 have hn:t.n=2*m:=by rw [ht.half_n hl1,hm]
 have hm8:m≤8:=by have:=ht.n_le;omega
 have HM:=hid hm;have HN:=hid hn;have H1:=hid (Tex.okB_iff.2 ht);have HV:=hid hv;have HT:=hid ht
 have h2b:(t.log==0)=false:=by rw [beq_eq_false_iff_ne];omega
 clear hv ht hm hn;go_enter Tryz.func325,Tryz.ntmps325
 go_wp2_with (first
  | (go_at_call 123;refine (sIsValidTexture_val H1.out lo hi _ _ (HV.out.ext hh X_) (by simp;omega)).mono ?_;rintro e w1 ⟨rfl,hx⟩;obtain ⟨c1,f1⟩:=hx.cells;have z1:=hx.size;simp only [World.size_alloc] at z1;have q0:w.heap.size<w1.heap.size:=(by omega);have q1:w.heap.size+1<w1.heap.size:=(by omega))
  | (go_at_call 185;refine (l15Size_half hl1 h4 HM.out _).mono ?_;rintro e w2 ⟨rfl,rfl⟩))
 have hx0:Ext w w1:=Ext.trans X_ hx
 go_loopw [6] (fun y wr=>∃(j:Nat) (a:Option Addr) (c:Nat),j≤m∧y = .int .i64 j∧SSt w wr t u w1.heap.size m (j*m) a c) (fun y _=>m - (intOf y).toNat)
 case atStart=>
  refine ⟨0,none,0,by omega,rfl,?_⟩;rw [Nat.zero_mul];exact ⟨hx0.alloc _,q1,by simp,by simp [go_sem, *],by simp [go_sem, *],by simp [go_sem, *],by simp [go_sem, *],by simp [go_sem, *],by simp [go_sem, *],by simp [go_sem],by simp [go_sem],by simp [go_sem],OwnInts.nil _ _⟩
 case round=>
  clear c1 f1 hx hx0;obtain ⟨j,a,c,hj,rfl,hst⟩:=hrel;have HS:=hid hst;clear hst
  by_cases hjm:j<m
  ·go_wp2
   go_loopw [7] (fun x wr=>∃(i:Nat) (a:Option Addr) (c:Nat),i≤m∧x = .int .i64 i∧SSt w wr t u w1.heap.size m (j*m+i) a c) (fun x _=>m - (intOf x).toNat)
   case atStart=>exact ⟨0,a,c,by omega,rfl,HS.out⟩
   case round=>
    clear HS;obtain ⟨i,a,c,hi',rfl,hst⟩:=hrel;have HS:=hid hst;have hsz:=hst.size;have o0:=hst.o0;have o1:=hst.o1;have p0:=hst.p0;have p1:=hst.p1
    have hsz0:w.heap.size<wr.heap.size:=by omega
    clear hst
    by_cases him:i<m
    ·have hav:=t.avgK_at (i:=i) (j:=j) him
     rw [Tex.avg] at hav;have d1:=HT.out.at_range (2*i) (2*j);have d2:=HT.out.at_range (2*i+1) (2*j);have d3:=HT.out.at_range (2*i) (2*j+1);have d4:=HT.out.at_range (2*i+1) (2*j+1)
     obtain ⟨r1,e1⟩:∃r,t.at (2*i) (2*j)=r:=⟨_,rfl⟩
     obtain ⟨r2,e2⟩:∃r,t.at (2*i+1) (2*j)=r:=⟨_,rfl⟩
     obtain ⟨r3,e3⟩:∃r,t.at (2*i) (2*j+1)=r:=⟨_,rfl⟩
     obtain ⟨r4,e4⟩:∃r,t.at (2*i+1) (2*j+1)=r:=⟨_,rfl⟩
     rw [e1] at hav d1;rw [e2] at hav d2;rw [e3] at hav d3;rw [e4] at hav d4;have E1:=hid e1;have E2:=hid e2;have E3:=hid e3;have E4:=hid e4;have HAV:=hid hav;clear hav e1 e2 e3 e4;have HX:=hid (HS.out.ext)
     have hhr:hi≤wr.heap.size:=by omega
     clear o0 o1;go_wp2;refine wp_region_ext (by kernel_rfl) (by kernel_rfl) ?_
     repeat (go_big_quiet_step ((go_at_call 306;with_reducible first
      | exact grow_call (l15Texel_val HT.out E1.out lo hi _ _ ((HV.out.ext hh HX.out).ext hhr (grow_ext _ _)) (Nat.le_trans hhr (grow_ext _ _).size))
      | exact grow_call (l15Texel_val HT.out E2.out lo hi _ _ ((HV.out.ext hh HX.out).ext hhr (grow_ext _ _)) (Nat.le_trans hhr (grow_ext _ _).size))
      | exact grow_call (l15Texel_val HT.out E3.out lo hi _ _ ((HV.out.ext hh HX.out).ext hhr (grow_ext _ _)) (Nat.le_trans hhr (grow_ext _ _).size))
      | exact grow_call (l15Texel_val HT.out E4.out lo hi _ _ ((HV.out.ext hh HX.out).ext hhr (grow_ext _ _)) (Nat.le_trans hhr (grow_ext _ _).size)))))
     refine wpQuiet_nil ?_;intro w2 hx2;have HS2:=hid (HS.out.to hx2);clear HS HX hsz p0 p1 hsz0 hhr hx2;have hsz:=HS2.out.size;have o1:=HS2.out.o1;have g1:=HS2.out.g1;have hji:=hid (block_lt hjm him hm8);go_wp2_with (at_builtin;refine wpList_append1 _ rfl _ _ rfl (w1.heap.size+1) (.slice a (j*m+i) c) (t.halfPx m (j*m+i)) rfl (HS2.out.own.alloc _) ((r1+r2+r3+r4) / 4) ⟨(by omega),(by omega)⟩ w2.heap.size rfl (by simp [go_sem]) (by rw [Tex.halfPx_length];exact hji.out) (by simp;omega) ?_;intro v' w3 hown hg;rw [←HAV.out] at hown;obtain ⟨a',c',hv',_⟩:=hown.form;subst hv';have HS3:=hid ((HS2.out.to X_).push hg hown);obtain ⟨hst,hn'⟩:=HS3.out;rw [hn'] at hst;have HN':=hid hn';have HST:=hid hst;have hs3:Same 0 (w1.heap.size+1) w2 w3:=fun bb _ hbb=>(hg.block bb (by simp;omega) (fun e=>by have:=(HS2.out.own.lt bb e.symm).1;omega)).trans (Ext.block (w:=w2) X_ (by omega));have y1:w3.cell? ⟨w1.heap.size,1,none⟩=some (.slice a (j*m+i) c):=(hs3.cell (Nat.zero_le _) (by omega)).trans HS2.out.o1;have y2:w3.frozen? ⟨w1.heap.size,1,none⟩=false:=(hs3.frozen (Nat.zero_le _) (by omega)).trans HS2.out.g1;clear hst hn' hs3 hown hg HS2 HS3 o1 g1 hsz);go_roundw
     case rel=>exact ⟨i+1,a',c',by omega,by go_num,by rw [←Nat.add_assoc,Tex.halfPx_length];exact HST.out⟩
     case measure=>simp [intOf];omega
    ·go_wp2
     obtain rfl:i=m:=by omega
     go_roundw
     case rel=>exact ⟨j+1,a,c,by omega,by go_num,by rw [Nat.add_mul,Nat.one_mul];exact HS.out⟩
     case measure=>simp [intOf];omega
  ·have hsz:=HS.out.size
   have o0:=HS.out.o0;have o1:=HS.out.o1;have x2:=HS.out.r0;have x3:=HS.out.r1;have x4:=HS.out.f0;have x5:=HS.out.f1
   have q2:w.heap.size<wr.heap.size:=by omega
   have q3:w.heap.size+1<wr.heap.size:=by omega
   obtain rfl:j=m:=by omega
   go_wp2;have hown:=HS.out.own;have hext:=HS.out.ext;refine bodyPost_ret (v:=.tuple #[.agg #[.int .i64 (t.log - 1),.slice a (j*j) c],.bool true]) (by simp [results,Tryz.results325,go_sem, *]) rfl ⟨_,rfl,⟨_,rfl,⟨by show _≤t.log - 1;omega,by show t.log - 1≤_;omega⟩,?_⟩,?_⟩
   ·have:t.half.px=t.halfPx j (j*j):=by rw [Tex.half,HM.out]
    rw [this];exact ((hown.setLow (by simp;omega) _).setLow (by simp;omega) _).low (by omega)
   ·exact (hext.setCell (by simp) _).setCell (by simp) _
def Tex.mark (t:Tex) (k:Int):Tex:={ t with px:=upFrom k t.px.length }
structure Part (lo M:Nat) (w w':World):Prop where
 size:w.heap.size≤w'.heap.size
 low:Below lo w w'
 high:∀b,M≤b→b<w.heap.size→w'.heap[b]?=w.heap[b]?
theorem Part.ext {lo M:Nat} {W w w':World} (p:Part lo M w w') (h:Ext W w) (hl:W.heap.size≤lo):Ext W w':=Below.trans h (Below.mono p.low hl)
theorem Part.block {lo M:Nat} {w w':World} (p:Part lo M w w') {b:Nat} (hb:b<w.heap.size) (h:b<lo∨M≤b):w'.heap[b]?=w.heap[b]?:=h.elim (fun k=>p.low.block b k) (fun k=>p.high b k hb)
theorem Part.of {lo M:Nat} {w w':World} {row:Option Nat} (hg:w.grownBy w' row) (h1:∀k,row=some k→lo≤k∧k<M) (h2:lo≤w.heap.size):Part lo M w w':=
 ⟨hg.size,⟨hg.os,hg.tape,hg.output,hg.size,fun k hk=>hg.block k (by omega) (fun e=>by have:=(h1 k e.symm).1;omega)⟩,fun b hb hl=>hg.block b hl (fun e=>by have:=(h1 b e.symm).2;omega)⟩
structure TBox (w:World) (B:Nat) (a b:Value):Prop where
 lt:B<w.heap.size
 c0:w.cell? ⟨B,0,none⟩=some a
 c1:w.cell? ⟨B,1,none⟩=some b
theorem TBox.at {w w':World} {B:Nat} {a b:Value} (h:TBox w B a b) (hz:w.heap.size≤w'.heap.size) (s:w'.heap[B]?=w.heap[B]?):TBox w' B a b:=
 ⟨Nat.lt_of_lt_of_le h.lt hz,(World.cell?_of_block (w:=w) s).trans h.c0,(World.cell?_of_block (w:=w) s).trans h.c1⟩
theorem TBox.ext {w w':World} {B:Nat} {a b:Value} (h:TBox w B a b) (e:Ext w w'):TBox w' B a b:=h.at e.size (e.block h.lt)
theorem TBox.made (w:World) (a b:Value) (ty:TypeId):TBox (w.alloc (.cells #[a,b] ty)) w.heap.size a b:=⟨by simp,by simp [go_sem],by simp [go_sem]⟩
theorem Part.box {lo M:Nat} {w w':World} {B:Nat} {a b:Value} (p:Part lo M w w') (h:TBox w B a b) (hB:B<lo∨M≤B):TBox w' B a b:=
 h.at p.size (hB.elim (fun k=>p.low.block B k) (fun k=>p.high B k h.lt))
theorem OwnTex.kept {lo:Nat} {w w':World} {v:Value} {t:Tex} (h:OwnTex lo w v t) (s:Same lo w.heap.size w w'):OwnTex lo w' v t:=by
 obtain ⟨x,h1,h2,h3⟩:=h;exact ⟨x,h1,h2,h3.kept s⟩
theorem TexR.same {lo hi:Nat} {w w':World} {v:Value} {t:Tex} (h:TexR lo hi w v t) (s:Same lo hi w w'):TexR lo hi w' v t:=by
 obtain ⟨x,h1,h2,h3⟩:=h;exact ⟨x,h1,h2,h3.same s⟩
theorem szTexture_val {left:Int} {t:Tex} {r:Int} (h:szRes left t.px.length=r) (lo hi:Nat) (v:Value) (w:World) (hv:TexR lo hi w v t) (hh:hi≤w.heap.size) (h1:0≤left) (h2:left≤1048576) :
  Calls Tryz.prog 66 #[v,.int .i64 left] w fun e w'=>e = .returned (.int .i64 r)∧Ext w w':=h▸szTexture_any lo hi v t left w hv hh h1 h2
theorem eqTexture_same (lo hi lo' hi':Nat) (v v':Value) (t:Tex) (w:World) (hv:TexR lo hi w v t) (hh:hi≤w.heap.size) (hv':TexR lo' hi' w v' t) (hh':hi'≤w.heap.size) :
  Calls Tryz.prog 79 #[v,v'] w fun e w'=>e = .returned (.bool true)∧Ext w w':=by
 have h:=eqTexture_any lo hi lo' hi' v v' t t w hv hh hv' hh';simp only [decide_true] at h;exact h
def Tex.mip (t:Tex):Nat→Tex
 | 0=>t
 | k+1=>(t.mip k).half
theorem Tex.Ok.mip {t:Tex} (h:t.Ok):∀k:Nat,k≤t.log→(t.mip k).Ok∧(t.mip k).log=t.log - k
 | 0,_=>⟨h,by simp [Tex.mip]⟩
 | k+1,hk=>by
  obtain ⟨h1,h2⟩:=h.mip k (by omega);refine ⟨h1.half (by omega),?_⟩
  show (t.mip k).log - 1=_
  omega
theorem OwnInts.keptAt {lo:Nat} {w w':World} {v:Value} {xs:List Int} (h:OwnInts lo w v xs) (s:∀g,v.ownBlock=some g→w'.heap[g]?=w.heap[g]?):OwnInts lo w' v xs:=by
 obtain ⟨⟨h1,h2⟩,h3⟩:=h;refine ⟨⟨h1,?_⟩,h3⟩
 rcases h2 with hn|⟨g,cap,cur,hv,hb,hg,r⟩
 ·exact .inl hn
 ·exact .inr ⟨g,cap,cur,hv,hb,by rw [s g (by rw [hv];rfl)];exact hg,r⟩
theorem add_none (b o j:Nat):(⟨b,o,none⟩:Addr).add j=⟨b,o+j,none⟩:=by
 unfold Addr.add
 split
 ·rename_i e;subst e;rfl
 ·rfl
structure MSt (w wr:World) (t:Tex) (A:Nat) (a:Option Addr) (c:Nat):Prop where
 ext:Ext w wr
 pos:w.heap.size+1<A
 box:TBox wr A (.int .i64 t.log) (.slice a t.px.length c)
 f0:wr.frozen? ⟨A,0,none⟩=false
 f1:wr.frozen? ⟨A,1,none⟩=false
 res:TBox wr (w.heap.size+1) (.int .i64 0) (.slice none 0 0)
 r0:wr.frozen? ⟨w.heap.size+1,0,none⟩=false
 r1:wr.frozen? ⟨w.heap.size+1,1,none⟩=false
 own:OwnInts (w.heap.size+1+1) wr (.slice a t.px.length c) t.px
 ne:∀g,(Value.slice a t.px.length c).ownBlock=some g→g≠A
theorem MSt.step {w wr w1:World} {t t2:Tex} {A:Nat} {a a2:Option Addr} {c c2:Nat} (h:MSt w wr t A a c) (e:Ext wr w1) (hown:OwnTex wr.heap.size w1 (.agg #[.int .i64 t2.log,.slice a2 t2.px.length c2]) t2) :
  MSt w ((w1.setCell ⟨A,0,none⟩ (.int .i64 t2.log)).setCell ⟨A,1,none⟩ (.slice a2 t2.px.length c2)) t2 A a2 c2:=by
 obtain ⟨u,hu,_,hown⟩:=hown
 obtain rfl:Value.slice a2 t2.px.length c2=u:=by simpa using hu
 have hA:=h.box.lt;have hz:=e.size;have hp:=h.pos
 have hk:∀b o,b≠A→((w1.setCell ⟨A,0,none⟩ (.int .i64 t2.log)).setCell ⟨A,1,none⟩ (.slice a2 t2.px.length c2)).cell? ⟨b,o,none⟩=w1.cell? ⟨b,o,none⟩:=fun b o hb=>by
  rw [World.cell?_setCell_other _ _ _ _ (fun e=>by simp only [Addr.mk.injEq] at e;omega),World.cell?_setCell_other _ _ _ _ (fun e=>by simp only [Addr.mk.injEq] at e;omega)]
 have b1:=h.box.ext e;have r1:=h.res.ext e;obtain ⟨_,hf⟩:=e.cells;refine ⟨((h.ext.trans e).setCell (by show w.heap.size≤A;omega) _).setCell (by show w.heap.size≤A;omega) _,hp,⟨by simp;omega,?_,?_⟩,?_,?_,⟨by simp;omega,by rw [hk _ _ (by omega)];exact r1.c0,by rw [hk _ _ (by omega)];exact r1.c1⟩,?_,?_,?_,?_⟩
 ·rw [World.cell?_setCell_other _ _ _ _ (by simp)]
  exact World.cell?_setCell_same _ _ _ b1.c0
 ·refine World.cell?_setCell_same _ _ _ (?_:_=some (Value.slice a t.px.length c))
  rw [World.cell?_setCell_other _ _ _ _ (by simp)];exact b1.c1
 ·rw [World.frozen?_setCell,World.frozen?_setCell,hf _ _ hA];exact h.f0
 ·rw [World.frozen?_setCell,World.frozen?_setCell,hf _ _ hA];exact h.f1
 ·rw [World.frozen?_setCell,World.frozen?_setCell,hf _ _ (by omega)];exact h.r0
 ·rw [World.frozen?_setCell,World.frozen?_setCell,hf _ _ (by omega)];exact h.r1
 ·exact ((hown.setLow (by exact hA) _).setLow (by exact hA) _).low (by omega)
 ·intro g hg
  have:=(hown.lt g hg).1;omega
theorem Tex.Ok.tex {lo:Nat} {w:World} {t:Tex} {a:Option Addr} {c:Nat} (h:t.Ok) (hown:OwnInts lo w (.slice a t.px.length c) t.px):OwnTex lo w (.agg #[.int .i64 t.log,.slice a t.px.length c]) t:=
 ⟨_,rfl,⟨by have:=h.log0;omega,by have:=h.log4;omega⟩,hown⟩
theorem wpList_append_ints (w:World) {ops:Array Oper} {rest:List Oper} {o:Oper} {a:Act} {Q:Exit→Act→World→Prop} (hg:o.guard=none) (s x:Operand)
  (hop:o.op=Op.call { callee:=Callee.builtin Builtin.append,args:=#[s,x],argTypes:=#[25,25] }) (lo:Nat) (v:Value) (xs ys:List Int) (hs:a.eval s=v) (hown:OwnInts lo w v xs)
  (b off cap:Nat) (hx:a.eval x = .slice (some ⟨b,off,none⟩) ys.length cap) (hcell:∀i y,ys[i]?=some y→I64 y∧w.cell? ⟨b,off+i,none⟩=some (.int .i64 y)) (hlen:xs.length+ys.length<1000000000) (hlo:lo≤w.heap.size)
  (hK:∀v' w',OwnInts lo w' v' (xs++ys)→w.grownBy w' v.ownBlock→wpList Tryz.prog ops Q rest (a.put o.dst v') w'):wpList Tryz.prog ops Q (o::rest) a w:=by
 obtain ⟨i0,hi0,hz0,hz1,hz2⟩:=info_parts info_int;refine wpList_append_own w hg s x 25 hop lo 3 i0 (.int .i64 0) 1 8 Tryz.underlying25 hi0 hz0 hz1 hz2 rfl (by decide) v xs.length _ hs hown.1 ⟨b,off,none⟩ ys.length cap (ys.map (Value.int .i64)) hx (by simp) ?_ ?_ ?_ ?_ hlo ?_
 ·intro j u hj
  rw [List.getElem?_map] at hj
  cases hyj:ys[j]? with
  | none=>rw [hyj] at hj;cases hj
  | some y=>
   rw [hyj] at hj;simp only [Option.map_some,Option.some.injEq] at hj;subst hj;rw [add_none];exact (hcell j y hyj).2
 ·intro u hu
  obtain ⟨y,_,rfl⟩:=List.mem_map.1 hu
  rfl
 ·unfold maxLen;omega
 ·omega
 ·intro v' w1 hown' hgrow _
  refine hK v' w1 ⟨by simpa using hown',fun z hz=>?_⟩ hgrow
  rcases List.mem_append.1 hz with h|h
  ·exact hown.2 z h
  ·obtain ⟨i,hi⟩:=List.getElem?_of_mem h
   exact (hcell i z hi).1
theorem heap_alloc_new (w:World) (o:Obj):(w.alloc o).heap[w.heap.size]?=some o:=by show (w.heap.push o)[w.heap.size]?=_;simp
theorem OwnInts.empty {lo:Nat} {w:World} {g:Nat} (hl:lo≤g) (hg:w.heap[g]?=some (.cells #[] 3)):OwnInts lo w (.slice (some ⟨g,0,none⟩) 0 0) []:=
 ⟨⟨rfl,.inr ⟨g,0,#[],rfl,hl,hg,Nat.le_refl _,Nat.zero_le _,rfl,rfl⟩⟩,fun _ h=>by cases h⟩
theorem OwnInts.notBox {lo:Nat} {w:World} {v:Value} {xs:List Int} {A:Nat} {cs:Array Value} {T:TypeId} {fr:Nat×Nat} (h:OwnInts lo w v xs) (hA:w.heap[A]?=some (.cells cs T fr)) (hT:T≠3):v.ownBlock≠some A:=by
 intro e
 rcases h.1.2 with ⟨rfl,_⟩|⟨g,cap,cur,rfl,_,hg,_⟩
 ·cases e
 ·simp only [Value.ownBlock,Option.some.injEq] at e
  subst e;rw [hg] at hA;simp only [Option.some.injEq,Obj.cells.injEq] at hA;exact hT hA.2.1.symm
theorem sMip_valid (lo hi:Nat) (v:Value) (t:Tex) (k:Nat) (w:World) (hv:TexR lo hi w v t) (hh:hi≤w.heap.size) (ht:t.Ok) (hk:k≤t.log) :
  Calls Tryz.prog 305 #[v,.int .i64 k] w fun e w'=>∃v',e = .returned (.tuple #[v',.bool true])∧OwnTex w.heap.size w' v' (t.mip k)∧Ext w w':=by
 have HV:=hid hv;obtain ⟨b,off,cap,rfl,hcap,hlo,hhi,hcell⟩:=hv.ok ht
 have hl2:t.px.length≤256:=by rw [ht.len];exact Nat.mul_le_mul ht.n_le ht.n_le
 have hk4:k≤4:=by have:=ht.log4;omega
 have HB:=hid (inB_iff.2 ⟨by omega,hk⟩:inB k 0 t.log=true);have H1:=hid (Tex.okB_iff.2 ht);have HT:=hid ht;have HC:=hid hcap;have HH:=hid hcell
 have hb0:b<w.heap.size:=by omega
 clear hv ht hcap hcell;go_enter Tryz.func305,Tryz.ntmps305
 go_upto_region 3 with (first
  | (go_at_call 123;refine (sIsValidTexture_val H1.out lo hi _ _ (HV.out.ext hh X_) (by simp;omega)).mono ?_;rintro e w1 ⟨rfl,hx⟩;obtain ⟨c1,f1⟩:=hx.cells;have z1:=hx.size;simp only [World.size_alloc] at z1;have q0:w.heap.size<w1.heap.size:=(by omega);have q1:w.heap.size+1<w1.heap.size:=(by omega))
  | (go_at_call 70;refine (l01In_val HB.out _).mono ?_;rintro e w2 ⟨rfl,rfl⟩))
 have E1:Ext w w1:=Ext.trans X_ hx
 go_cut [6] from 18 to 24 (fun p wx=>∃A a c,p = .pointer (some ⟨A,0,none⟩)∧MSt w wx t A a c)
 case first=>
  refine wp_region_Z 8 w1.heap.size (by kernel_rfl) ?_;refine wpZ_stage (fuel:=4) [0,1,3,4] [2,7] (by kernel_rfl) (fun _ _ _=>rfl) ?_;simp only [List.filterMap_cons,List.filterMap_nil,List.getElem?_toArray,List.getElem?_cons_zero,List.getElem?_cons_succ]
  show wpQuiet _ _ _ _ [_,_,_,_] _
  repeat (go_big_quiet_step (fail))
  refine wpQuiet_nil ?_;intro e he;simp only [List.mem_cons,List.not_mem_nil,or_false] at he
  rcases he with rfl|rfl
  ·(unfold wpComes;simp only [List.getElem?_toArray,List.getElem?_cons_succ,List.getElem?_cons_zero,Option.some.injEq];refine ⟨_,rfl,fun K hK=>?_⟩)
   go_wp2;refine hK _ _ (.inr (fun b _ hb=>Ext.block X_ hb)) ?_;clear hK K;refine wpZ_stage (fuel:=3) [] [5,7] (by kernel_rfl) (fun b _ hb=>Ext.block X_ hb) ?_;refine wpQuiet_nil ?_;intro e he;simp only [List.mem_cons,List.not_mem_nil,or_false] at he
   rcases he with rfl|rfl
   ·(unfold wpComes;simp only [List.getElem?_toArray,List.getElem?_cons_succ,List.getElem?_cons_zero,Option.some.injEq];refine ⟨_,rfl,fun K hK=>?_⟩)
    refine wpList_append_ints _ rfl _ _ rfl (w.heap.size+1+1) (.slice (some ⟨w1.heap.size,0,none⟩) 0 0) [] t.px rfl (OwnInts.empty (by omega) (heap_alloc_new w1 _)) b off cap rfl ?_ (by simp;omega) (by simp;omega) ?_
    ·intro i y hy
     obtain ⟨_,_,_,h4⟩:=HT.out;have h5:=h4 y (List.mem_of_getElem? hy);exact ⟨⟨by omega,by omega⟩,(((E1.alloc _).drew).cells.1 _ _ hb0).trans (HH.out _ _ hy)⟩
    intro v2 w2 hown hg;rw [List.nil_append] at hown;have hs2:∀b,b<w1.heap.size→w2.heap[b]?=w1.heap[b]?:=fun b hb=>(hg.block b (by simp;omega) (by simp [Value.ownBlock];omega)).trans (Ext.block X_ hb);have z2:=hg.size;simp at z2;have E2:Ext w w2:=Ext.grown (w1:=(w1.alloc _).drew) (E1.alloc _).drew hg (by simp [Value.ownBlock];omega);clear hg;obtain ⟨a2,n2,rfl,_⟩:=hown.form;go_wp2;refine hK _ _ (.inr (fun b _ hb=>hs2 b hb)) ?_;clear hK K;refine wpZ_stage (fuel:=1) [6] [7] (by kernel_rfl) (fun b _ hb=>hs2 b hb) ?_;simp only [Act.put,List.setIfInBounds_toArray,List.set_cons_succ,List.set_cons_zero,List.filterMap_cons,List.filterMap_nil,List.getElem?_toArray,List.getElem?_cons_zero,List.getElem?_cons_succ]
    show wpQuiet _ _ _ _ [_] _
    repeat (go_big_quiet_step (fail))
    refine wpQuiet_nil ?_;intro e he;simp only [List.mem_cons,List.not_mem_nil,or_false] at he;subst he
    (unfold wpComes;simp only [List.getElem?_toArray,List.getElem?_cons_succ,List.getElem?_cons_zero,Option.some.injEq];refine ⟨_,rfl,fun K hK=>?_⟩)
    go_wp2;refine hK _ _ (.inr (fun b _ hb=>(Ext.block (w:=w2) X_ (by omega)).trans (hs2 b hb))) ?_;clear hK K;refine wpZ_stage (fuel:=0) [] [8] (by kernel_rfl) (fun b _ hb=>(Ext.block (w:=w2) X_ (by omega)).trans (hs2 b hb)) ?_;refine wpQuiet_nil ?_;intro e he;simp only [List.mem_cons,List.not_mem_nil,or_false] at he;subst he
    (unfold wpComes;simp only [List.getElem?_toArray,List.getElem?_cons_succ,List.getElem?_cons_zero,Option.some.injEq];refine ⟨_,rfl,fun K hK=>?_⟩)
    go_wp2;refine hK _ _ (.inl (by trivial)) ?_;clear hK K;refine wpZ_end (by kernel_rfl) ?_;go_wp2_with fail
    go_meet
    have hc2:∀b o,b<w1.heap.size→w2.cell? ⟨b,o,none⟩=w1.cell? ⟨b,o,none⟩:=fun b o hb=>World.cell?_of_block (w:=w1) (hs2 b hb);have hf2:∀b o,b<w1.heap.size→w2.frozen? ⟨b,o,none⟩=w1.frozen? ⟨b,o,none⟩:=fun b o hb=>World.frozen?_of_block (w:=w1) (hs2 b hb)
    have q2:w.heap.size+1<w2.heap.size:=by omega
    refine ⟨_,_,_,rfl,⟨E2.alloc _,q2,TBox.made _ _ _ _,by simp [go_sem],by simp [go_sem],⟨by simp;omega,by simp [go_sem, *],by simp [go_sem, *]⟩,by simp [go_sem, *],by simp [go_sem, *],hown.alloc _,?_⟩⟩;intro g hg;have h2:=(hown.lt g hg).2;omega
   ·(unfold wpComes;simp only [List.getElem?_toArray,List.getElem?_cons_succ,List.getElem?_cons_zero,Option.some.injEq];refine ⟨_,rfl,fun K hK=>?_⟩)
    go_wp2;refine hK _ _ (.inr (fun b _ hb=>Ext.block X_ hb)) ?_;clear hK K;refine wpZ_stage (fuel:=2) [] [5] (by kernel_rfl) (fun b _ hb=>Ext.block X_ hb) ?_;refine wpQuiet_nil ?_;intro e he;simp only [List.mem_cons,List.not_mem_nil,or_false] at he;subst he
    (unfold wpComes;simp only [List.getElem?_toArray,List.getElem?_cons_succ,List.getElem?_cons_zero,Option.some.injEq];refine ⟨_,rfl,fun K hK=>?_⟩)
    refine wpList_append_ints _ rfl _ _ rfl (w.heap.size+1+1) (.slice (some ⟨w1.heap.size,0,none⟩) 0 0) [] t.px rfl (OwnInts.empty (g:=w1.heap.size) (by omega) ((Ext.block (w:=w1.alloc (.cells #[] 3)) X_ (by simp)).trans (heap_alloc_new w1 _))) b off cap rfl ?_ (by simp;omega) (by simp;omega) ?_
    ·intro i y hy
     obtain ⟨_,_,_,h4⟩:=HT.out;have h5:=h4 y (List.mem_of_getElem? hy);exact ⟨⟨by omega,by omega⟩,((Ext.trans E1 X_).cells.1 _ _ hb0).trans (HH.out _ _ hy)⟩
    intro v2 w2 hown hg;rw [List.nil_append] at hown;have hs2:∀b,b<w1.heap.size→w2.heap[b]?=w1.heap[b]?:=fun b hb=>(hg.block b (by simp;omega) (by simp [Value.ownBlock];omega)).trans (Ext.block X_ hb);have hA:=hg.block (w1.heap.size+1) (by simp) (by simp [Value.ownBlock]);have z2:=hg.size;simp at z2;have E2:Ext w w2:=Ext.grown (Ext.trans E1 X_) hg (by simp [Value.ownBlock];omega);clear hg;obtain ⟨a2,n2,rfl,_⟩:=hown.form;have hc2:∀b o,b<w1.heap.size→w2.cell? ⟨b,o,none⟩=w1.cell? ⟨b,o,none⟩:=fun b o hb=>World.cell?_of_block (w:=w1) (hs2 b hb);have hf2:∀b o,b<w1.heap.size→w2.frozen? ⟨b,o,none⟩=w1.frozen? ⟨b,o,none⟩:=fun b o hb=>World.frozen?_of_block (w:=w1) (hs2 b hb);have hA2:w2.heap[w1.heap.size+1]?=some (.cells #[.int .i64 0,.slice none 0 0] 27):=hA.trans (by rw [←World.size_alloc w1 (.cells #[] 3)];exact heap_alloc_new _ _);have hA3:=hown.notBox hA2 (by decide)
    have hcA:∀o,w2.cell? ⟨w1.heap.size+1,o,none⟩=#[Value.int .i64 0,.slice none 0 0][o]?:=fun o=>by simp [World.cell?,hA2]
    have hfA:∀o,w2.frozen? ⟨w1.heap.size+1,o,none⟩=false:=fun o=>by simp [World.frozen?,hA2]
    clear hA;go_wp2;refine hK _ _ (.inr (fun b _ hb=>hs2 b hb)) ?_;clear hK K;refine wpZ_stage (fuel:=0) [6] [8] (by kernel_rfl) (fun b _ hb=>hs2 b hb) ?_;simp only [Act.put,List.setIfInBounds_toArray,List.set_cons_succ,List.set_cons_zero,List.filterMap_cons,List.filterMap_nil,List.getElem?_toArray,List.getElem?_cons_zero,List.getElem?_cons_succ]
    show wpQuiet _ _ _ _ [_] _
    repeat (go_big_quiet_step (fail))
    refine wpQuiet_nil ?_;intro e he;simp only [List.mem_cons,List.not_mem_nil,or_false] at he;subst he
    (unfold wpComes;simp only [List.getElem?_toArray,List.getElem?_cons_succ,List.getElem?_cons_zero,Option.some.injEq];refine ⟨_,rfl,fun K hK=>?_⟩)
    go_wp2;refine hK _ _ (.inl (by trivial)) ?_;clear hK K;refine wpZ_end (by kernel_rfl) ?_;go_wp2_with fail
    go_meet
    refine ⟨_,a2,n2,rfl,⟨(E2.setCell (by simp;omega) _).setCell (by simp;omega) _,by omega,⟨by simp;omega,by simp [go_sem, *],by simp [go_sem, *]⟩,by simp [go_sem, *],by simp [go_sem, *],⟨by simp;omega,by simp [go_sem, *],by simp [go_sem, *]⟩,by simp [go_sem, *],by simp [go_sem, *],?_,?_⟩⟩
    ·exact (hown.keptAt (fun g hg=>Below.heap_setCell _ _ _ _ (fun e=>hA3 (hg.trans (congrArg some e))))).keptAt (fun g hg=>Below.heap_setCell _ _ _ _ (fun e=>hA3 (hg.trans (congrArg some e))))
    ·intro g hg e
     exact hA3 (hg.trans (congrArg some e))
  ·(unfold wpComes;simp only [List.getElem?_toArray,List.getElem?_cons_succ,List.getElem?_cons_zero,Option.some.injEq];refine ⟨_,rfl,fun K hK=>?_⟩)
   go_wp2;refine hK _ _ (.inr (fun b _ hb=>Ext.block X_ hb)) ?_;clear hK K;refine wpZ_stage (fuel:=3) [] [2] (by kernel_rfl) (fun b _ hb=>Ext.block X_ hb) ?_;refine wpQuiet_nil ?_;intro e he;simp only [List.mem_cons,List.not_mem_nil,or_false] at he;subst he
   (unfold wpComes;simp only [List.getElem?_toArray,List.getElem?_cons_succ,List.getElem?_cons_zero,Option.some.injEq];refine ⟨_,rfl,fun K hK=>?_⟩)
   go_wp2;refine hK _ _ (.inr (fun b _ hb=>Ext.block X_ hb)) ?_;clear hK K;refine wpZ_stage (fuel:=2) [] [5] (by kernel_rfl) (fun b _ hb=>Ext.block X_ hb) ?_;refine wpQuiet_nil ?_;intro e he;simp only [List.mem_cons,List.not_mem_nil,or_false] at he;subst he
   (unfold wpComes;simp only [List.getElem?_toArray,List.getElem?_cons_succ,List.getElem?_cons_zero,Option.some.injEq];refine ⟨_,rfl,fun K hK=>?_⟩)
   refine wpList_append_ints _ rfl _ _ rfl (w.heap.size+1+1) (.slice (some ⟨w1.heap.size+1,0,none⟩) 0 0) [] t.px rfl (OwnInts.empty (g:=w1.heap.size+1) (by omega) (by rw [←World.size_alloc w1 (.cells #[.int .i64 0,.slice none 0 0] 27)];exact heap_alloc_new _ _)) b off cap rfl ?_ (by simp;omega) (by simp;omega) ?_
   ·intro i y hy
    obtain ⟨_,_,_,h4⟩:=HT.out;have h5:=h4 y (List.mem_of_getElem? hy);exact ⟨⟨by omega,by omega⟩,((Ext.trans E1 X_).cells.1 _ _ hb0).trans (HH.out _ _ hy)⟩
   intro v2 w2 hown hg;rw [List.nil_append] at hown;have hs2:∀b,b<w1.heap.size→w2.heap[b]?=w1.heap[b]?:=fun b hb=>(hg.block b (by simp;omega) (by simp [Value.ownBlock];omega)).trans (Ext.block X_ hb);have hA:=hg.block w1.heap.size (by simp;omega) (by simp [Value.ownBlock]);have z2:=hg.size;simp at z2;have E2:Ext w w2:=Ext.grown (Ext.trans E1 X_) hg (by simp [Value.ownBlock];omega);clear hg;obtain ⟨a2,n2,rfl,_⟩:=hown.form;have hc2:∀b o,b<w1.heap.size→w2.cell? ⟨b,o,none⟩=w1.cell? ⟨b,o,none⟩:=fun b o hb=>World.cell?_of_block (w:=w1) (hs2 b hb);have hf2:∀b o,b<w1.heap.size→w2.frozen? ⟨b,o,none⟩=w1.frozen? ⟨b,o,none⟩:=fun b o hb=>World.frozen?_of_block (w:=w1) (hs2 b hb);have hA2:w2.heap[w1.heap.size]?=some (.cells #[.int .i64 0,.slice none 0 0] 27):=hA.trans ((Ext.block (w:=w1.alloc (.cells #[.int .i64 0,.slice none 0 0] 27)) X_ (by simp)).trans (heap_alloc_new w1 _));have hA3:=hown.notBox hA2 (by decide)
   have hcA:∀o,w2.cell? ⟨w1.heap.size,o,none⟩=#[Value.int .i64 0,.slice none 0 0][o]?:=fun o=>by simp [World.cell?,hA2]
   have hfA:∀o,w2.frozen? ⟨w1.heap.size,o,none⟩=false:=fun o=>by simp [World.frozen?,hA2]
   clear hA;go_wp2;refine hK _ _ (.inr (fun b _ hb=>hs2 b hb)) ?_;clear hK K;refine wpZ_stage (fuel:=0) [6] [8] (by kernel_rfl) (fun b _ hb=>hs2 b hb) ?_;simp only [Act.put,List.setIfInBounds_toArray,List.set_cons_succ,List.set_cons_zero,List.filterMap_cons,List.filterMap_nil,List.getElem?_toArray,List.getElem?_cons_zero,List.getElem?_cons_succ]
   show wpQuiet _ _ _ _ [_] _
   repeat (go_big_quiet_step (fail))
   refine wpQuiet_nil ?_;intro e he;simp only [List.mem_cons,List.not_mem_nil,or_false] at he;subst he
   (unfold wpComes;simp only [List.getElem?_toArray,List.getElem?_cons_succ,List.getElem?_cons_zero,Option.some.injEq];refine ⟨_,rfl,fun K hK=>?_⟩)
   go_wp2;refine hK _ _ (.inl (by trivial)) ?_;clear hK K;refine wpZ_end (by kernel_rfl) ?_;go_wp2_with fail
   go_meet
   refine ⟨_,a2,n2,rfl,⟨(E2.setCell (by simp;omega) _).setCell (by simp;omega) _,by omega,⟨by simp;omega,by simp [go_sem, *],by simp [go_sem, *]⟩,by simp [go_sem, *],by simp [go_sem, *],⟨by simp;omega,by simp [go_sem, *],by simp [go_sem, *]⟩,by simp [go_sem, *],by simp [go_sem, *],?_,?_⟩⟩
   ·exact (hown.keptAt (fun g hg=>Below.heap_setCell _ _ _ _ (fun e=>hA3 (hg.trans (congrArg some e))))).keptAt (fun g hg=>Below.heap_setCell _ _ _ _ (fun e=>hA3 (hg.trans (congrArg some e))))
   ·intro g hg e
    exact hA3 (hg.trans (congrArg some e))
 case rest=>
  obtain ⟨A,a,c,rfl,hm⟩:=hcut;have HS:=hid hm;clear hm c1 f1;go_wp2_with fail
  go_loopw [1] (fun i wr=>∃(j:Nat) (a:Option Addr) (c:Nat),j≤k∧i = .int .i64 ((k:Int) - j)∧MSt w wr (t.mip j) A a c) (fun i _=>(intOf i).toNat)
  case atStart=>exact ⟨0,_,_,by omega,by simp,HS.out⟩
  case round=>
   clear HS;obtain ⟨j,a,c,hj,rfl,hst⟩:=hrel;have HS:=hid hst;have m0:=hst.box.lt;have m1:=hst.box.c0;have m2:=hst.box.c1;have f0:=hst.f0;have f1:=hst.f1;have hp:=hst.pos;have r0:=hst.res.c0;have r1:=hst.res.c1;have r2:=hst.r0;have r3:=hst.r1;clear hst
   by_cases hjk:j<k
   ·obtain ⟨hok,hlg⟩:=HT.out.mip j (by omega)
    have hl1:1≤(t.mip j).log:=by omega
    have HK:=hid hok;have HL:=hid hl1;clear hok hlg hl1;go_wp2_with fail;refine (sHalf_valid _ _ _ (t.mip j) _ (HK.out.tex HS.out.own).tex (Nat.le_refl _) HK.out HL.out).mono ?_;rintro e w3 ⟨v3,rfl,O3,x3⟩;obtain ⟨a3,c3,rfl,_⟩:=O3.form;have HS3:=hid (HS.out.step x3 O3);obtain ⟨c4,f4⟩:=x3.cells;have z3:=x3.size
    have z4:A<w3.heap.size:=by omega
    go_wp2;go_roundw
    case rel=>exact ⟨j+1,a3,c3,by omega,by go_num,HS3.out⟩
    case measure=>simp [intOf];omega
   ·obtain rfl:j=k:=by omega
    have z4:w.heap.size+1<wr.heap.size:=by omega
    obtain ⟨hok,hlg⟩:=HT.out.mip j (by omega);have HK:=hid hok;clear hok hlg;go_wp2;have hown:=HS.out.own;have hext:=HS.out.ext;refine bodyPost_ret (v:=.tuple #[.agg #[.int .i64 (t.mip j).log,.slice a (t.mip j).px.length c],.bool true]) (by simp [results,Tryz.results305,go_sem, *]) rfl ⟨_,rfl,HK.out.tex (((hown.setLow (by simp) _).setLow (by simp) _).low (by omega)),(hext.setCell (by simp) _).setCell (by simp) _⟩
def Tex.mipR (t:Tex) (l:Int):Tex×Bool:=if t.okB&&inB l 0 t.log then (t.mip l.toNat,true) else (⟨0,[]⟩,false)
theorem sMipLevel_any (lo hi:Nat) (v:Value) (t:Tex) (l:Int) (w:World) (hv:TexR lo hi w v t) (hh:hi≤w.heap.size) :
  Calls Tryz.prog 305 #[v,.int .i64 l] w fun e w'=>∃v',e = .returned (.tuple #[v',.bool (t.mipR l).2])∧OwnTex w.heap.size w' v' (t.mipR l).1∧Ext w w':=by
 by_cases h1:t.okB=true
 ·by_cases h2:inB l 0 t.log=true
  ·have ht:=Tex.okB_iff.1 h1
   have e1:t.mipR l=(t.mip l.toNat,true):=by simp [Tex.mipR,h1,h2]
   rw [e1];have h3:=inB_iff.1 h2;have:=sMip_valid lo hi v t l.toNat w hv hh ht (by omega);rw [Int.toNat_of_nonneg h3.1] at this;exact this
  ·have e1:t.mipR l=(⟨0,[]⟩,false):=by simp [Tex.mipR,h2]
   rw [e1];obtain ⟨u,rfl,hlog⟩:=hv.shape;have HV:=hid hv;have H1:=hid h1;have HB:=hid (Bool.eq_false_iff.2 h2);clear hv h1 e1 h2;go_enter Tryz.func305,Tryz.ntmps305
   go_wp2_with (first
   | (go_at_call 123;refine (sIsValidTexture_val H1.out lo hi _ _ (HV.out.ext hh X_) (by simp;omega)).mono ?_;rintro e w1 ⟨rfl,hx⟩;obtain ⟨c1,f1⟩:=hx.cells;have z1:=hx.size;simp only [World.size_alloc] at z1;have q0:w.heap.size<w1.heap.size:=(by omega);have q1:w.heap.size+1<w1.heap.size:=(by omega))
   | (go_at_call 70;refine (l01In_val HB.out _).mono ?_;rintro e w2 ⟨rfl,rfl⟩))
   have hx0:Ext w w1:=Ext.trans X_ hx;exact bodyPost_ret (v:=.tuple #[.agg #[.int .i64 0,.slice none 0 0],.bool false]) (by simp [results,Tryz.results305,go_sem, *]) rfl ⟨_,rfl,OwnTex.zero _ _,(hx0.setCell (by simp) _).setCell (by simp) _⟩
 ·have e1:t.mipR l=(⟨0,[]⟩,false):=by simp [Tex.mipR,h1]
  rw [e1];obtain ⟨u,rfl,hlog⟩:=hv.shape;have HV:=hid hv;have H1:=hid (Bool.eq_false_iff.2 h1);clear hv h1 e1;go_enter Tryz.func305,Tryz.ntmps305;go_wp2_with (go_at_call 123;refine (sIsValidTexture_val H1.out lo hi _ _ (HV.out.ext hh X_) (by simp;omega)).mono ?_;rintro e w1 ⟨rfl,hx⟩;obtain ⟨c1,f1⟩:=hx.cells;have z1:=hx.size;simp only [World.size_alloc] at z1);have hx0:Ext w w1:=Ext.trans X_ hx;exact bodyPost_ret (v:=.tuple #[.agg #[.int .i64 0,.slice none 0 0],.bool false]) (by simp [results,Tryz.results305,go_sem, *]) rfl ⟨_,rfl,OwnTex.zero _ _,(hx0.setCell (by simp) _).setCell (by simp) _⟩
theorem mul_bd {a b A B:Int} (h1:0≤a) (h2:a≤A) (h3:0≤b) (h4:b≤B):0≤a*b∧a*b≤A*B:=
 ⟨Int.mul_nonneg h1 h3,Int.mul_le_mul h2 h4 h3 (Int.le_trans h1 h2)⟩
def posS (u:Int) (n:Nat):Int:=clampI u (-1000000) 1000000*n - 128
theorem clamp_bd (u:Int) : -1000000≤clampI u (-1000000) 1000000∧clampI u (-1000000) 1000000≤1000000:=by
 unfold clampI
 split
 ·omega
 ·split <;> omega
theorem posS_prod (u:Int) {n:Nat} (h1:1≤n) (h:n≤16) : -16000000≤clampI u (-1000000) 1000000*n∧clampI u (-1000000) 1000000*n≤16000000:=by
 have hb:=clamp_bd u;have h2:=mul_bd (a:=clampI u (-1000000) 1000000+1000000) (b:=n) (A:=2000000) (B:=16) (by omega) (by omega) (by omega) (by omega);have h3:(clampI u (-1000000) 1000000+1000000)*(n:Int)=clampI u (-1000000) 1000000*n+1000000*n:=Int.add_mul ..;have h4:=mul_bd (a:=1000000 - clampI u (-1000000) 1000000) (b:=n) (A:=2000000) (B:=16) (by omega) (by omega) (by omega) (by omega);have h5:(1000000 - clampI u (-1000000) 1000000)*(n:Int)=1000000*n - clampI u (-1000000) 1000000*n:=Int.sub_mul ..;omega
def posX (u:Int) (n:Nat):Int:=fdiv (posS u n) 256
def posF (u:Int) (n:Nat):Int:=fmod (posS u n) 256
theorem posX_bd (u:Int) {n:Nat} (h1:1≤n) (h:n≤16) : -100000≤posX u n∧posX u n≤100000:=by
 have h2:=posS_prod u h1 h;unfold posX posS fdiv;rw [if_neg (by omega)];omega
theorem posF_bd (u:Int) (n:Nat):0≤posF u n∧posF u n≤255:=by
 unfold posF fmod;rw [if_neg (by omega)];omega
theorem posF_eq (u:Int) (n:Nat):posS u n - 256*posX u n=posF u n:=by
 unfold posF posX fmod fdiv;rw [if_neg (by omega),if_neg (by omega)];omega
theorem position_any (x:Value) (t:Tex) (u:Int) (w:World) (ht:t.Ok) :
  Calls Tryz.prog 331 #[.agg #[.int .i64 t.log,x],.int .i64 u] w fun e w'=>e = .returned (.tuple #[.int .i64 (posX u t.n),.int .i64 (posF u t.n)])∧Ext w w':=by
 have h0:=hid ht.log0;have h4:=hid ht.log4;have hn1:=ht.n_pos;have hn:=ht.n_le
 obtain ⟨n,hnn⟩:∃n,t.n=n:=⟨_,rfl⟩
 rw [hnn] at hn1 hn ⊢;have hp:=posS_prod u hn1 hn
 obtain ⟨c,hc⟩:∃c,clampI u (-1000000) 1000000=c:=⟨_,rfl⟩
 rw [hc] at hp
 obtain ⟨q,hq⟩:∃q,c*(n:Int)=q:=⟨_,rfl⟩
 rw [hq] at hp
 have hs:posS u n=q - 128:=by unfold posS;rw [hc,hq]
 obtain ⟨X,hX⟩:∃X,posX u n=X:=⟨_,rfl⟩
 obtain ⟨F,hF⟩:∃F,posF u n=F:=⟨_,rfl⟩
 have HX:=hid (show fdiv (q - 128) 256=X by rw [←hs];exact hX);have HF:=hid (show fmod (q - 128) 256=F by rw [←hs];exact hF);have HC:=hid hc;have HN:=hid (show 2 ^ t.log.toNat=n from hnn);rw [hX,hF];clear hX hF hs hc hnn ht;go_enter Tryz.func331,Tryz.ntmps331;go_wp2;refine wp_region_ext (by kernel_rfl) (by kernel_rfl) ?_
 repeat (go_big_quiet_step ((first|(go_at_call 46;exact grow_same (iClamp_val HC.out _))|(go_at_call 333;exact grow_call (side_val h0.out h4.out HN.out _)))))
 refine wpQuiet_nil ?_;intro w1 hx1;go_wp2_with (first|(go_at_call 107;refine (iFloorDiv_val ⟨by omega,by omega⟩ HX.out _).mono ?_;rintro e w2 ⟨rfl,rfl⟩)|(go_at_call 229;refine (floorMod_val ⟨by omega,by omega⟩ ⟨by decide,by decide⟩ HF.out _).mono ?_;rintro e w2 ⟨rfl,rfl⟩));exact bodyPost_ret (v:=.tuple #[.int .i64 X,.int .i64 F]) (by simp [results,Tryz.results331,go_sem]) rfl ⟨rfl,Ext.trans X_ hx1⟩
def Tex.look4 (m:Tex) (x fx y fy:Int):Int:=((m.at x y*(256 - fx)+m.at (x+1) y*fx)*(256 - fy)+(m.at x (y+1)*(256 - fx)+m.at (x+1) (y+1)*fx)*fy) / 65536
def Tex.look (m:Tex) (u v:Int):Int:=m.look4 (posX u m.n) (posF u m.n) (posX v m.n) (posF v m.n)
structure Look4 (m:Tex) (x fx y fy r1 r2 r3 r4 p1 p2 p3 p4 p5 p6 L:Int):Prop where
 e1:m.at x y=r1
 e2:m.at (x+1) y=r2
 e3:m.at x (y+1)=r3
 e4:m.at (x+1) (y+1)=r4
 f1:r1*(256 - fx)=p1
 f2:r2*fx=p2
 f3:r3*(256 - fx)=p3
 f4:r4*fx=p4
 f5:(p1+p2)*(256 - fy)=p5
 f6:(p3+p4)*fy=p6
 b1:0≤p1∧p1≤65536
 b2:0≤p2∧p2≤65536
 b3:0≤p3∧p3≤65536
 b4:0≤p4∧p4≤65536
 b5:0≤p5∧p5≤33554432
 b6:0≤p6∧p6≤33554432
 out:(p5+p6) / 65536=L
theorem look4_all {m:Tex} (hm:m.Ok) (x y:Int) {fx fy:Int} (hx:0≤fx∧fx≤255) (hy:0≤fy∧fy≤255) :
  ∃r1 r2 r3 r4 p1 p2 p3 p4 p5 p6,Look4 m x fx y fy r1 r2 r3 r4 p1 p2 p3 p4 p5 p6 (m.look4 x fx y fy):=by
 have a1:=hm.at_range x y;have a2:=hm.at_range (x+1) y;have a3:=hm.at_range x (y+1);have a4:=hm.at_range (x+1) (y+1);have b1:=mul_bd (b:=256 - fx) (B:=256) a1.1 a1.2 (by omega) (by omega);have b2:=mul_bd (b:=fx) (B:=256) a2.1 a2.2 (by omega) (by omega);have b3:=mul_bd (b:=256 - fx) (B:=256) a3.1 a3.2 (by omega) (by omega);have b4:=mul_bd (b:=fx) (B:=256) a4.1 a4.2 (by omega) (by omega);have c1:=mul_bd (a:=m.at x y*(256 - fx)+m.at (x+1) y*fx) (A:=131072) (b:=256 - fy) (B:=256) (Int.add_nonneg b1.1 b2.1) (Int.add_le_add b1.2 b2.2) (by omega) (by omega);have c2:=mul_bd (a:=m.at x (y+1)*(256 - fx)+m.at (x+1) (y+1)*fx) (A:=131072) (b:=fy) (B:=256) (Int.add_nonneg b3.1 b4.1) (Int.add_le_add b3.2 b4.2) (by omega) (by omega);exact ⟨_,_,_,_,_,_,_,_,_,_,rfl,rfl,rfl,rfl,rfl,rfl,rfl,rfl,rfl,rfl,b1,b2,b3,b4,c1,c2,rfl⟩
theorem texel_val {t:Tex} {x y r:Int} (ht:t.Ok) (hr:t.at x y=r) (hx:I64 x) (hy:I64 y) (lo hi:Nat) (v:Value) (w:World) (hv:TexR lo hi w v t) (hh:hi≤w.heap.size) :
  Calls Tryz.prog 332 #[v,.int .i64 x,.int .i64 y] w fun e w'=>e = .returned (.int .i64 r)∧Ext w w':=hr▸texel_any lo hi v t x y w hv hh ht hx hy
theorem lookup_any (lo hi:Nat) (v:Value) (m:Tex) (a b:Int) (w:World) (hv:TexR lo hi w v m) (hh:hi≤w.heap.size) (hm:m.Ok) :
  Calls Tryz.prog 329 #[v,.int .i64 a,.int .i64 b] w fun e w'=>e = .returned (.int .i64 (m.look a b))∧Ext w w':=by
 have x1:=posX_bd a hm.n_pos hm.n_le;have x2:=posX_bd b hm.n_pos hm.n_le;have g1:=posF_bd a m.n;have g2:=posF_bd b m.n;have P1:=fun (x:Value) (w:World)=>position_any x m a w hm;have P2:=fun (x:Value) (w:World)=>position_any x m b w hm;unfold Tex.look
 obtain ⟨x,ex⟩:∃x,posX a m.n=x:=⟨_,rfl⟩
 obtain ⟨y,ey⟩:∃y,posX b m.n=y:=⟨_,rfl⟩
 obtain ⟨fx,ex'⟩:∃x,posF a m.n=x:=⟨_,rfl⟩
 obtain ⟨fy,ey'⟩:∃x,posF b m.n=x:=⟨_,rfl⟩
 rw [ex] at x1;rw [ey] at x2;rw [ex'] at g1;rw [ey'] at g2;simp only [ex,ex',ey,ey'] at P1 P2 ⊢;clear ex ey ex' ey';obtain ⟨r1,r2,r3,r4,p1,p2,p3,p4,p5,p6,K⟩:=look4_all hm x y g1 g2;generalize m.look4 x fx y fy=L at K ⊢;have E1:=hid K.e1;have E2:=hid K.e2;have E3:=hid K.e3;have E4:=hid K.e4;have F1:=K.f1;have F2:=K.f2;have F3:=K.f3;have F4:=K.f4;have F5:=K.f5;have F6:=K.f6;have B1:=K.b1;have B2:=K.b2;have B3:=K.b3;have B4:=K.b4;have B5:=K.b5;have B6:=K.b6;have HO:=hid K.out;obtain ⟨u,rfl,_⟩:=hv.shape;have HV:=hid hv;have HM:=hid hm;have IX:=hid (I64.mk (n:=x) (by omega) (by omega));have IY:=hid (I64.mk (n:=y) (by omega) (by omega));have IX1:=hid (I64.mk (n:=x+1) (by omega) (by omega));have IY1:=hid (I64.mk (n:=y+1) (by omega) (by omega));have Q1:=hid P1;have Q2:=hid P2;clear K hv hm P1 P2;go_enter Tryz.func329,Tryz.ntmps329;go_wp2_with fail;refine (Q1.out _ _).mono ?_;rintro e w1 ⟨rfl,h1⟩;obtain ⟨c1,f1⟩:=h1.cells;have z1:=h1.size;simp only [World.size_alloc] at z1
 have q1:w.heap.size<w1.heap.size:=by omega
 go_wp2_with fail;refine (Q2.out _ _).mono ?_;rintro e w2 ⟨rfl,h2⟩;obtain ⟨c2,f2⟩:=h2.cells;have q2:w.heap.size<w2.heap.size:=Nat.lt_of_lt_of_le q1 h2.size;have e2:Ext w w2:=(Ext.trans X_ h1).trans h2;have hh2:hi≤w2.heap.size:=Nat.le_trans hh e2.size;have X2:=hid e2;go_wp2;refine wp_region_ext (by kernel_rfl) (by kernel_rfl) ?_
 repeat (go_big_quiet_step ((go_at_call 332;with_reducible first
  | exact grow_call (texel_val HM.out E1.out IX.out IY.out lo hi _ _ ((HV.out.ext hh X2.out).ext hh2 (grow_ext _ _)) (Nat.le_trans hh2 (grow_ext _ _).size))
  | exact grow_call (texel_val HM.out E2.out IX1.out IY.out lo hi _ _ ((HV.out.ext hh X2.out).ext hh2 (grow_ext _ _)) (Nat.le_trans hh2 (grow_ext _ _).size)))))
 refine wpQuiet_nil ?_;intro w3 h3;obtain ⟨c3,f3⟩:=h3.cells;have q3:w.heap.size<w3.heap.size:=Nat.lt_of_lt_of_le q2 h3.size;have e3:Ext w w3:=X2.out.trans h3;have hh3:hi≤w3.heap.size:=Nat.le_trans hh e3.size;have X3:=hid e3;go_wp2;refine wp_region_ext (by kernel_rfl) (by kernel_rfl) ?_
 repeat (go_big_quiet_step ((go_at_call 332;with_reducible first
  | exact grow_call (texel_val HM.out E3.out IX.out IY1.out lo hi _ _ ((HV.out.ext hh X3.out).ext hh3 (grow_ext _ _)) (Nat.le_trans hh3 (grow_ext _ _).size))
  | exact grow_call (texel_val HM.out E4.out IX1.out IY1.out lo hi _ _ ((HV.out.ext hh X3.out).ext hh3 (grow_ext _ _)) (Nat.le_trans hh3 (grow_ext _ _).size)))))
 refine wpQuiet_nil ?_;intro w4 h4;go_wp2;go_ret;exact ⟨ret_int HO.out,X3.out.trans h4⟩
theorem S9.i64 {n:Int} (h:S9 n):I64 n:=I64.mk (by have:=h.1;omega) (by have:=h.2;omega)
theorem blend_bd {a b c:Int} (ha:S9 a) (hb:S9 b) (hc:S9 c) : -2000000000000000000≤(b - a)*c∧(b - a)*c≤2000000000000000000:=by
 have h1:=mul9 hb hc;have h2:=mul9 ha hc;rw [Int.sub_mul]
 constructor <;> omega
theorem row1 {lo hi:Nat} {w:World} {u:Value} {x:Int} (h:Ints lo hi w u [x]):∃b off cap,u = .slice (some ⟨b,off,none⟩) 1 cap∧b<hi∧w.cell? ⟨b,off,none⟩=some (.int .i64 x)∧IntsAt lo hi w (some ⟨b,off,none⟩) cap [x]:=by
 obtain ⟨a,cap,rfl,HU⟩:=h.open;obtain ⟨b,off,e,h1,h2,hc⟩:=HU.at (k:=0) (by simp);subst e;exact ⟨b,off,cap,rfl,h2,hc,HU⟩
theorem row2 {lo hi:Nat} {w:World} {u:Value} {x y:Int} (h:Ints lo hi w u [x,y]):∃b off cap,u = .slice (some ⟨b,off,none⟩) 2 cap∧b<hi∧w.cell? ⟨b,off,none⟩=some (.int .i64 x)∧w.cell? ⟨b,off+1,none⟩=some (.int .i64 y)∧IntsAt lo hi w (some ⟨b,off,none⟩) cap [x,y]:=by
 obtain ⟨a,cap,rfl,HU⟩:=h.open;obtain ⟨b,off,e,h1,h2,hc⟩:=HU.at (k:=0) (by simp);subst e;obtain ⟨b',off',e,_,_,hc'⟩:=HU.at (k:=1) (by simp);injection e with e;injection e with e1 e2;subst e1;subst e2;exact ⟨b,off,cap,rfl,h2,hc,hc',HU⟩
theorem row3 {lo hi:Nat} {w:World} {u:Value} {x y z:Int} (h:Ints lo hi w u [x,y,z]):∃b off cap,u = .slice (some ⟨b,off,none⟩) 3 cap∧b<hi∧w.cell? ⟨b,off,none⟩=some (.int .i64 x)∧w.cell? ⟨b,off+1,none⟩=some (.int .i64 y)∧w.cell? ⟨b,off+2,none⟩=some (.int .i64 z):=by
 obtain ⟨a,cap,rfl,HU⟩:=h.open;obtain ⟨b,off,e,h1,h2,hc⟩:=HU.at (k:=0) (by simp);subst e;obtain ⟨b',off',e,_,_,hc'⟩:=HU.at (k:=1) (by simp);injection e with e;injection e with e1 e2;subst e1;subst e2;obtain ⟨b',off',e,_,_,hc''⟩:=HU.at (k:=2) (by simp);injection e with e;injection e with e1 e2;subst e1;subst e2;exact ⟨b,off,cap,rfl,h2,hc,hc',hc''⟩
theorem callee_abs (lo hi:Nat) (u:Value) (c0:Int) (cx:Value) {x r:Int} (w:World) (hu:Ints lo hi w u [x]) (hh:hi≤w.heap.size) (hx:S9 x) (hr:absI x=r) :
  Calls Tryz.prog 316 #[.agg #[.int .i64 c0,cx],u] w fun e w'=>e = .returned (.int .i64 r)∧Ext w w':=by
 obtain ⟨b,off,cap,rfl,hb,d0,_⟩:=row1 hu;have HR:=hid hr;clear hu hr
 have hb1:b<w.heap.size:=by omega
 have hb2:b≠w.heap.size:=by omega
 go_enter Tryz.func316,Tryz.ntmps316;go_wp2_with fail;refine (absolute_sh hx HR.out _).mono ?_;rintro e w1 ⟨rfl,rfl⟩;go_wp2;go_ret;exact ⟨rfl,S_⟩
theorem callee_floor (lo hi:Nat) (u:Value) (c0:Int) (cx:Value) {x r:Int} (w:World) (hu:Ints lo hi w u [x]) (hh:hi≤w.heap.size) (hx:S9 x) (hr:floorI x=r) :
  Calls Tryz.prog 317 #[.agg #[.int .i64 c0,cx],u] w fun e w'=>e = .returned (.int .i64 r)∧Ext w w':=by
 obtain ⟨b,off,cap,rfl,hb,d0,_⟩:=row1 hu;have hq:=fdiv_bd (b:=256) (m:=1000000000) hx (by decide);unfold floorI at hr
 obtain ⟨q,hqq⟩:∃q,fdiv x 256=q:=⟨_,rfl⟩
 rw [hqq] at hq hr;have HQ:=hid hqq;clear hqq;have HR:=hid hr;clear hu hr
 have hb1:b<w.heap.size:=by omega
 have hb2:b≠w.heap.size:=by omega
 go_enter Tryz.func317,Tryz.ntmps317;go_wp2_with fail;refine (iFloorDiv_val hx.i64 HQ.out _).mono ?_;rintro e w1 ⟨rfl,rfl⟩;go_wp2;rw [HR.out];go_ret;exact ⟨rfl,S_⟩
theorem callee_min (lo hi:Nat) (u:Value) (c0:Int) (cx:Value) {x y r:Int} (w:World) (hu:Ints lo hi w u [x,y]) (hh:hi≤w.heap.size) (hr:minI x y=r) :
  Calls Tryz.prog 318 #[.agg #[.int .i64 c0,cx],u] w fun e w'=>e = .returned (.int .i64 r)∧Ext w w':=by
 obtain ⟨b,off,cap,rfl,hb,d0,d1,_⟩:=row2 hu;clear hu
 have hb1:b<w.heap.size:=by omega
 have hb2:b≠w.heap.size:=by omega
 by_cases h:y<x
 ·obtain rfl:y=r:=by
   rw [←hr];unfold minI
   split <;> omega
  clear hr;go_enter Tryz.func318,Tryz.ntmps318;go_wp2_with fail;refine wp_region_stages [([0,1,2,3,4,5],6),([],7)] 99 w.heap.size (by kernel_rfl) (by kernel_rfl) ?_;refine wpStages_cons ?_;simp only [List.filterMap_cons,List.filterMap_nil,List.getElem?_toArray,List.getElem?_cons_zero,List.getElem?_cons_succ]
  show wpQuiet _ _ _ _ [_,_,_,_,_,_] _
  repeat (go_big_quiet_step (fail))
  refine wpQuiet_nil ⟨_,rfl,fun K hK=>?_⟩;go_wp2_with fail;refine hK _ _ (.inr (fun b _ hb=>Ext.block X_ (by simp;omega))) ?_;clear hK K;refine wpStages_cons ?_;simp only [List.filterMap_nil]
  show wpQuiet _ _ _ _ [] _
  try simp only [Act.put,List.setIfInBounds_toArray,List.set_cons_succ,List.set_cons_zero]
  repeat (go_big_quiet_step (fail))
  refine wpQuiet_nil ⟨_,rfl,fun K hK=>?_⟩;go_wp2_with fail;refine hK _ _ (.inr (fun b _ hb=>Ext.block X_ (by simp;omega))) ?_;clear hK K;refine wpStages_nil ?_;go_wp2;go_ret;exact ⟨rfl,S_⟩
 ·obtain rfl:x=r:=by
   rw [←hr];unfold minI
   split <;> omega
  clear hr;go_enter Tryz.func318,Tryz.ntmps318;go_wp2_with fail;refine wp_region_stages [([0,1,2,3,4,5],6),([],7)] 99 w.heap.size (by kernel_rfl) (by kernel_rfl) ?_;refine wpStages_cons ?_;simp only [List.filterMap_cons,List.filterMap_nil,List.getElem?_toArray,List.getElem?_cons_zero,List.getElem?_cons_succ]
  show wpQuiet _ _ _ _ [_,_,_,_,_,_] _
  repeat (go_big_quiet_step (fail))
  refine wpQuiet_nil ⟨_,rfl,fun K hK=>?_⟩;go_wp2_with fail;refine hK _ _ (.inr (fun b _ hb=>Ext.block X_ (by simp;omega))) ?_;clear hK K;refine wpStages_cons ?_;simp only [List.filterMap_nil]
  show wpQuiet _ _ _ _ [] _
  try simp only [Act.put,List.setIfInBounds_toArray,List.set_cons_succ,List.set_cons_zero]
  repeat (go_big_quiet_step (fail))
  refine wpQuiet_nil ⟨_,rfl,fun K hK=>?_⟩;go_wp2_with fail;refine hK _ _ (.inr (fun b _ hb=>Ext.block X_ (by simp;omega))) ?_;clear hK K;refine wpStages_nil ?_;go_wp2;go_ret;exact ⟨rfl,S_⟩
theorem callee_max (lo hi:Nat) (u:Value) (c0:Int) (cx:Value) {x y r:Int} (w:World) (hu:Ints lo hi w u [x,y]) (hh:hi≤w.heap.size) (hr:maxI x y=r) :
  Calls Tryz.prog 319 #[.agg #[.int .i64 c0,cx],u] w fun e w'=>e = .returned (.int .i64 r)∧Ext w w':=by
 obtain ⟨b,off,cap,rfl,hb,d0,d1,_⟩:=row2 hu;clear hu
 have hb1:b<w.heap.size:=by omega
 have hb2:b≠w.heap.size:=by omega
 by_cases h:x<y
 ·obtain rfl:y=r:=by
   rw [←hr];unfold maxI
   split <;> omega
  clear hr;go_enter Tryz.func319,Tryz.ntmps319;go_wp2_with fail;refine wp_region_stages [([0,1,2,3,4,5],6),([],7)] 99 w.heap.size (by kernel_rfl) (by kernel_rfl) ?_;refine wpStages_cons ?_;simp only [List.filterMap_cons,List.filterMap_nil,List.getElem?_toArray,List.getElem?_cons_zero,List.getElem?_cons_succ]
  show wpQuiet _ _ _ _ [_,_,_,_,_,_] _
  repeat (go_big_quiet_step (fail))
  refine wpQuiet_nil ⟨_,rfl,fun K hK=>?_⟩;go_wp2_with fail;refine hK _ _ (.inr (fun b _ hb=>Ext.block X_ (by simp;omega))) ?_;clear hK K;refine wpStages_cons ?_;simp only [List.filterMap_nil]
  show wpQuiet _ _ _ _ [] _
  try simp only [Act.put,List.setIfInBounds_toArray,List.set_cons_succ,List.set_cons_zero]
  repeat (go_big_quiet_step (fail))
  refine wpQuiet_nil ⟨_,rfl,fun K hK=>?_⟩;go_wp2_with fail;refine hK _ _ (.inr (fun b _ hb=>Ext.block X_ (by simp;omega))) ?_;clear hK K;refine wpStages_nil ?_;go_wp2;go_ret;exact ⟨rfl,S_⟩
 ·obtain rfl:x=r:=by
   rw [←hr];unfold maxI
   split <;> omega
  clear hr;go_enter Tryz.func319,Tryz.ntmps319;go_wp2_with fail;refine wp_region_stages [([0,1,2,3,4,5],6),([],7)] 99 w.heap.size (by kernel_rfl) (by kernel_rfl) ?_;refine wpStages_cons ?_;simp only [List.filterMap_cons,List.filterMap_nil,List.getElem?_toArray,List.getElem?_cons_zero,List.getElem?_cons_succ]
  show wpQuiet _ _ _ _ [_,_,_,_,_,_] _
  repeat (go_big_quiet_step (fail))
  refine wpQuiet_nil ⟨_,rfl,fun K hK=>?_⟩;go_wp2_with fail;refine hK _ _ (.inr (fun b _ hb=>Ext.block X_ (by simp;omega))) ?_;clear hK K;refine wpStages_cons ?_;simp only [List.filterMap_nil]
  show wpQuiet _ _ _ _ [] _
  try simp only [Act.put,List.setIfInBounds_toArray,List.set_cons_succ,List.set_cons_zero]
  repeat (go_big_quiet_step (fail))
  refine wpQuiet_nil ⟨_,rfl,fun K hK=>?_⟩;go_wp2_with fail;refine hK _ _ (.inr (fun b _ hb=>Ext.block X_ (by simp;omega))) ?_;clear hK K;refine wpStages_nil ?_;go_wp2;go_ret;exact ⟨rfl,S_⟩
theorem callee_step (lo hi:Nat) (u:Value) (c0:Int) (cx:Value) {x y r:Int} (w:World) (hu:Ints lo hi w u [x,y]) (hh:hi≤w.heap.size) (hx:S9 x) (hy:S9 y) (hr:stepI x y=r) :
  Calls Tryz.prog 320 #[.agg #[.int .i64 c0,cx],u] w fun e w'=>e = .returned (.int .i64 r)∧Ext w w':=by
 obtain ⟨b,off,cap,rfl,hb,d0,d1,_⟩:=row2 hu;have HR:=hid hr;clear hu hr
 have hb1:b<w.heap.size:=by omega
 have hb2:b≠w.heap.size:=by omega
 go_enter Tryz.func320,Tryz.ntmps320;go_wp2_with fail;refine wp_region_stages [([0,1,2,3,4,5],6),([],7)] 99 w.heap.size (by kernel_rfl) (by kernel_rfl) ?_;refine wpStages_cons ?_;simp only [List.filterMap_cons,List.filterMap_nil,List.getElem?_toArray,List.getElem?_cons_zero,List.getElem?_cons_succ]
 show wpQuiet _ _ _ _ [_,_,_,_,_,_] _
 repeat (go_big_quiet_step (fail))
 refine wpQuiet_nil ⟨_,rfl,fun K hK=>?_⟩;go_wp2_with fail;refine (stepped_sh hx.i64 hy.i64 HR.out _).mono ?_;rintro e w1 ⟨rfl,rfl⟩;go_wp2_with fail;refine hK _ _ (.inr (fun b _ hb=>Ext.block X_ (by simp;omega))) ?_;clear hK K;refine wpStages_cons ?_;simp only [List.filterMap_nil]
 show wpQuiet _ _ _ _ [] _
 try simp only [Act.put,List.setIfInBounds_toArray,List.set_cons_succ,List.set_cons_zero]
 repeat (go_big_quiet_step (fail))
 refine wpQuiet_nil ⟨_,rfl,fun K hK=>?_⟩;go_wp2_with fail;refine hK _ _ (.inr (fun b _ hb=>Ext.block X_ (by simp;omega))) ?_;clear hK K;refine wpStages_nil ?_;go_wp2;go_ret;exact ⟨rfl,S_⟩
theorem callee_noise (lo hi:Nat) (u:Value) (c0:Int) (cx:Value) (xs:List Int) {r:Int} (w:World) (hu:Ints lo hi w u xs) (hh:hi≤w.heap.size) (hr:hash257 xs=r) :
  Calls Tryz.prog 321 #[.agg #[.int .i64 c0,cx],u] w fun e w'=>e = .returned (.int .i64 r)∧Ext w w':=by
 subst hr;have HU:=hid hu;clear hu;go_enter Tryz.func321,Tryz.ntmps321;go_wp2_with fail;refine (iHash257_any lo hi _ xs _ (HU.out.ext hh X_)).mono ?_;rintro e w1 ⟨rfl,rfl⟩;go_wp2;go_ret;exact ⟨rfl,S_⟩
theorem callee_clamp (lo hi:Nat) (u:Value) (c0:Int) (cx:Value) {x y z r:Int} (w:World) (hu:Ints lo hi w u [x,y,z]) (hh:hi≤w.heap.size) (hr:clampI x y z=r) :
  Calls Tryz.prog 322 #[.agg #[.int .i64 c0,cx],u] w fun e w'=>e = .returned (.int .i64 r)∧Ext w w':=by
 obtain ⟨b,off,cap,rfl,hb,d0,d1,d2⟩:=row3 hu;have HR:=hid hr;clear hu hr
 have hb1:b<w.heap.size:=by omega
 have hb2:b≠w.heap.size:=by omega
 go_enter Tryz.func322,Tryz.ntmps322;go_wp2_with fail;refine wp_region_stages [([0,1,2,3,4,5,6,7,8],9),([],10)] 99 w.heap.size (by kernel_rfl) (by kernel_rfl) ?_;refine wpStages_cons ?_;simp only [List.filterMap_cons,List.filterMap_nil,List.getElem?_toArray,List.getElem?_cons_zero,List.getElem?_cons_succ]
 show wpQuiet _ _ _ _ [_,_,_,_,_,_,_,_,_] _
 repeat (go_big_quiet_step (fail))
 refine wpQuiet_nil ⟨_,rfl,fun K hK=>?_⟩;go_wp2_with fail;refine (iClamp_val HR.out _).mono ?_;rintro e w1 ⟨rfl,rfl⟩;go_wp2_with fail;refine hK _ _ (.inr (fun b _ hb=>Ext.block X_ (by simp;omega))) ?_;clear hK K;refine wpStages_cons ?_;simp only [List.filterMap_nil]
 show wpQuiet _ _ _ _ [] _
 try simp only [Act.put,List.setIfInBounds_toArray,List.set_cons_succ,List.set_cons_zero]
 repeat (go_big_quiet_step (fail))
 refine wpQuiet_nil ⟨_,rfl,fun K hK=>?_⟩;go_wp2_with fail;refine hK _ _ (.inr (fun b _ hb=>Ext.block X_ (by simp;omega))) ?_;clear hK K;refine wpStages_nil ?_;go_wp2;go_ret;exact ⟨rfl,S_⟩
theorem callee_mix (lo hi:Nat) (u:Value) (c0:Int) (cx:Value) {x y z r:Int} (w:World) (hu:Ints lo hi w u [x,y,z]) (hh:hi≤w.heap.size) (hx:S9 x) (hy:S9 y) (hz:S9 z) (hr:blendI x y z=r) :
  Calls Tryz.prog 323 #[.agg #[.int .i64 c0,cx],u] w fun e w'=>e = .returned (.int .i64 r)∧Ext w w':=by
 obtain ⟨b,off,cap,rfl,hb,d0,d1,d2⟩:=row3 hu;have hx1:=hx.1;have hx2:=hx.2;have hy1:=hy.1;have hy2:=hy.2;have hm:=blend_bd hx hy hz;unfold blendI at hr;have hq:=fdiv_bd (b:=256) hm (by decide)
 obtain ⟨q,hqq⟩:∃q,fdiv ((y - x)*z) 256=q:=⟨_,rfl⟩
 rw [hqq] at hq hr;have HQ:=hid hqq;clear hqq;have HR:=hid hr;clear hu hr
 have hb1:b<w.heap.size:=by omega
 have hb2:b≠w.heap.size:=by omega
 go_enter Tryz.func323,Tryz.ntmps323;go_wp2_with fail;refine wp_region_stages [([0,1,2,3,4,5,6,7,8,9,10,11,12,13],14),([15],16)] 99 w.heap.size (by kernel_rfl) (by kernel_rfl) ?_;refine wpStages_cons ?_;simp only [List.filterMap_cons,List.filterMap_nil,List.getElem?_toArray,List.getElem?_cons_zero,List.getElem?_cons_succ]
 show wpQuiet _ _ _ _ [_,_,_,_,_,_,_,_,_,_,_,_,_,_] _
 repeat (go_big_quiet_step (fail))
 refine wpQuiet_nil ⟨_,rfl,fun K hK=>?_⟩;go_wp2_with fail;refine (iFloorDiv_val (I64.mk (by omega) (by omega)) HQ.out _).mono ?_;rintro e w1 ⟨rfl,rfl⟩;go_wp2_with fail;refine hK _ _ (.inr (fun b _ hb=>Ext.block X_ (by simp;omega))) ?_;clear hK K;refine wpStages_cons ?_;simp only [List.filterMap_cons,List.filterMap_nil,List.getElem?_toArray,List.getElem?_cons_zero,List.getElem?_cons_succ]
 show wpQuiet _ _ _ _ [_] _
 try simp only [Act.put,List.setIfInBounds_toArray,List.set_cons_succ,List.set_cons_zero]
 repeat (go_big_quiet_step (fail))
 refine wpQuiet_nil ⟨_,rfl,fun K hK=>?_⟩;go_wp2_with fail;refine hK _ _ (.inr (fun b _ hb=>Ext.block X_ (by simp;omega))) ?_;clear hK K;refine wpStages_nil ?_;go_wp2;rw [HR.out];go_ret;exact ⟨rfl,S_⟩
end Go.Proofs.YtfjbiifebcfjfaaGreat
