/- Texts of this claim, one behind another; what its theorem does not use is left out: Pr1, Ck1, Tk1, RoundIn, Cells, Rb, Cat, Rv, L02a, L02b, L02c, L02d, L02e, L04a, L04b, L04c, L04d, L04e, Sc0, Sc1, PlanC, Fr1, Ge1, Tms, Ge4, Ge5, PlanB, PlanD, Ge6, Ge7, Tr1, Tr3, Ge8, Ge9, Ge2, Ge3, Ck2, Ck3. -/
import Derived.Test.YthgpegkmjeigmaaGreatP32W1
import Derived.Lib.OthersKept
import Derived.Laws.RangeAny
import Derived.RangeFuncNested
import Derived.RangeFuncBound
import Derived.RangeFuncCalls
import Derived.RangeFuncLeaves
import Derived.Shelf.Abstract
import Derived.Shelf.RegionOpen
import Derived.OwnWalkIn
import Derived.TacticsInMore
import Derived.LoopNIn
import Derived.LoopIn
import Derived.Test.YthgpegkmjeigmaaGreatRows
import Derived.RangeFuncFrom
import Derived.RangeFuncBox
import Derived.Deep.Cut
import Derived.Deep.CutRange
import Derived.Laws.StructEq
import Derived.Laws.AppendOwnNone
set_option linter.unusedSimpArgs false
set_option linter.unusedVariables false
set_option maxRecDepth 100000
set_option maxHeartbeats 12800000
namespace Go.Proofs.YthgpegkmjeigmaaGreat
open Go.RowKit
open Go.Proofs.Tryz
variable {ops:Array Oper} {Q:Exit→Act→World→Prop} {a b c d i j l m n r x y z:Int} {B fuel g hi k lo lo' p sz:Nat} {o:Oper} {P:Program} {e t:TypeId} {v v2:Value} {w w' w1 w2:World} {S:World→Prop}
open _root_.Array renaming getElem?_eq_some_iff→aRi,replicate→aU4,replicate_succ→aVz,replicate_zero→aV0,getElem?_setIfInBounds→aVr,getElem?_eq_getElem→aUd,getElem?_eq_none→aWq,ext_getElem?→aVk
open _root_.Bool renaming and_eq_false_iff→aZj,and_eq_true→aRd,or_eq_true→aVt
open _root_.Go.Act renaming put→aSj
open _root_.Go.Fence renaming wide→aX8
open _root_.Go.Instr renaming next→bA3,makeFunc→aV1,index→aUa
open _root_.Go.KeepsOthers renaming setCell→aVc,of_grownBy→aWv
open _root_.Go.Obj.cells renaming injEq→aR8
open _root_.Go.Oper renaming semAt_some→aWk,wp→aW3,wp_mono→aV8,quietAt→aX3
open _root_.Go.Proofs.Tryz renaming prog→aQ2,stoodInHeld122→aX0
open _root_.Go.Proofs.YthgpegkmjeigmaaGreat.Blk renaming new→aQ8
open _root_.Go.Proofs.YthgpegkmjeigmaaGreat.Ext renaming refl→aQ6,trans→aQ3,block→aRa,cells→aX6,drew→aRz,setCell→aRf
open _root_.Go.Region renaming ready→aSm,noSelect→aUc,noSelect_spec→aTt,free_spec→aUf
open _root_.Go.RowKit.Below renaming heap_setCell→aQ7,refl→aXe
open _root_.Go.Value.slice renaming injEq→aRo
open _root_.Go.World renaming cell?→aSy,size_setCell→aSg,cell?_of_block→aSe,size_alloc→aQy,putObj_heap_other→aT1
open _root_.Int renaming le_ediv_iff_mul_le→aWt,ediv_le_of_le_mul→aXa,mul_nonneg→aSv,mul_le_mul→aYa,mul_add→aWp,lt_trichotomy→aWu,mul_comm→aSz,zero_add→bAe,cast_ofNat_Int→aWn,natCast_add→aS6
open _root_.List renaming drop_eq_getElem_cons→aTd,mem_of_getElem?→aRn,getElem_of_mem→aRw,range→aRl,all_eq_false→aT4,mem_range→aR4,all_eq_true→aR5,flatMap_cons→aS0,getElem?_append_left→aSb,getElem?_append_right→aR0,length_append→aRq,length_cons→aSc,getElem?_eq_some_iff→aQz,getElem?_take→aS1,flatMap_append→aSa,all_cons→aXn,range_succ→aS9,size_toArray→aVx,length_nil→aS7,push_toArray→aWz,append_toArray→aWe,nil_append→aSu,cons_append→aV5,getElem_cons_succ→aUs,getElem_cons_zero→aUt,setIfInBounds_toArray→aQ4,set_cons_succ→aRc,set_cons_zero→aRb,map_cons→aS4,map_nil→aV7,append_nil→aTo,getElem?_cons_zero→aQw,filterMap_cons→aRm,filterMap_nil→aRg,getElem?_toArray→aQ1,getElem?_cons_succ→aQx,takeWhile_cons_of_neg→aV3,takeWhile_cons_of_pos→aV4,mem_cons_self→aVm,mem_cons_of_mem→aU7,mem_cons→aRk,mem_map→aS3,not_mem_nil→aRe,mem_erase_of_ne→aXr,length_map→aSh,mem_append→aTe
open _root_.Nat renaming le_trans→aQ5,zero_le→aSi,zero_add→aRt,succ_mul→aW2,le_refl→aQv,lt_of_lt_of_le→aSf,one_mul→aTh,mul_le_mul→aRy,mod_lt→aTp,reduceAdd→aTx,reduceSub→aYp,mod_eq_of_lt→aUx,div_lt_of_lt_mul→aTg,add_assoc→aSp,mul_zero→aY6,mul_one→aUv,reduceMul→aYo
open _root_.Option.some renaming injEq→aQ0
structure Nd where
 op:Int
 name:ByteArray
 num:Int
 args:List Int
structure Asg where
 name:ByteArray
 root:Int
structure Prg where
 ns:List Nd
 gs:List Asg
def Nds (lo hi:Nat) (w:World) (v:Value) (xs:List Nd):Prop:=
 ∃a cap,v = .slice a xs.length cap/\xs.length<=cap/\cap<=maxLen/\∀i x,xs[i]?=some x->(I64 x.op/\I64 x.num)/\∃b off u,a=some ⟨b,off,none⟩/\lo<=b/\b<hi/\w.cell? ⟨b,off+i*4,none⟩=some (.int .i64 x.op)/\w.cell? ⟨b,off+i*4+1,none⟩=some (.string x.name)/\w.cell? ⟨b,off+i*4+2,none⟩=some (.int .i64 x.num)/\w.cell? ⟨b,off+i*4+3,none⟩=some u/\aU lo hi w u x.args
theorem Nds.same {xs:List Nd} (h:Nds lo hi w v xs) (s:aM lo hi w w'):Nds lo hi w' v xs:=by
 obtain ⟨a,cap,h1,h2,h3,h4⟩:=h;refine ⟨a,cap,h1,h2,h3,fun i x hx=>?_⟩;obtain ⟨h5,b,q3,u,h6,h7,h8,h9,h0,q0,q1,q2⟩:=h4 i x hx;exact ⟨h5,b,q3,u,h6,h7,h8,by rw [s.cell h7 h8];exact h9,by rw [s.cell h7 h8];exact h0,by rw [s.cell h7 h8];exact q0,by rw [s.cell h7 h8];exact q1,q2.same s⟩
structure rJ (lo hi:Nat) (w:World) (a:Option Addr) (cap:Nat) (xs:List Nd):Prop where
 le:xs.length<=cap
 cap:cap<=9223372036854775807
 cell:∀i x,xs[i]?=some x->(I64 x.op/\I64 x.num)/\∃b off u,a=some ⟨b,off,none⟩/\lo<=b/\b<hi/\w.cell? ⟨b,off+i*4,none⟩=some (.int .i64 x.op)/\w.cell? ⟨b,off+i*4+1,none⟩=some (.string x.name)/\w.cell? ⟨b,off+i*4+2,none⟩=some (.int .i64 x.num)/\w.cell? ⟨b,off+i*4+3,none⟩=some u/\aU lo hi w u x.args
theorem Nds.open {xs:List Nd} (h:Nds lo hi w v xs):∃a cap,v = .slice a xs.length cap/\rJ lo hi w a cap xs:=by
 obtain ⟨a,cap,g1,g2,g3,g4⟩:=h;exact ⟨a,cap,g1,g2,by unfold maxLen at g3;omega,g4⟩
theorem rJ.at {a:Option Addr} {cap:Nat} {xs:List Nd} (h:rJ lo hi w a cap xs) (hk:k<xs.length) {wr:World} (hx:Ext w wr) (hh:hi<=w.heap.size) :
  ∃b off op s n u r,a=some ⟨b,off,none⟩/\b<w.heap.size/\b<wr.heap.size/\xs.drop k=⟨op,s,n,r⟩::xs.drop (k+1)/\xs[k]?=some ⟨op,s,n,r⟩/\I64 op/\I64 n/\aU lo hi wr u r/\wr.cell? ⟨b,off+k*4,none⟩=some (.int .i64 op)/\wr.cell? ⟨b,off+k*4+1,none⟩=some (.string s)/\wr.cell? ⟨b,off+k*4+2,none⟩=some (.int .i64 n)/\wr.cell? ⟨b,off+k*4+3,none⟩=some u:=by
 obtain ⟨⟨i1,i2⟩,b,off,u,e,h1,h2,c0,c1,c2,c3,hu⟩:=h.cell k xs[k] (by simp [hk]);have hz:=hx.size;refine ⟨b,off,xs[k].op,xs[k].name,xs[k].num,u,xs[k].args,e,by omega,by omega,aTd hk,by simp [hk],i1,i2,hu.ext hh hx,?_,?_,?_,?_⟩
 ·exact (hx.cells.1 b _ (by omega)).trans c0
 ·exact (hx.cells.1 b _ (by omega)).trans c1
 ·exact (hx.cells.1 b _ (by omega)).trans c2
 ·exact (hx.cells.1 b _ (by omega)).trans c3
def nH (lo hi:Nat) (w:World) (v:Value) (xs:List Asg):Prop:=
 ∃a cap,v = .slice a xs.length cap/\xs.length<=cap/\cap<=maxLen/\∀i x,xs[i]?=some x->I64 x.root/\∃b off,a=some ⟨b,off,none⟩/\lo<=b/\b<hi/\w.cell? ⟨b,off+i*2,none⟩=some (.string x.name)/\w.cell? ⟨b,off+i*2+1,none⟩=some (.int .i64 x.root)
theorem nH.same {xs:List Asg} (h:nH lo hi w v xs) (s:aM lo hi w w'):nH lo hi w' v xs:=by
 obtain ⟨a,cap,h1,h2,h3,h4⟩:=h;refine ⟨a,cap,h1,h2,h3,fun i x hx=>?_⟩;obtain ⟨h5,b,q0,h6,h7,h8,h9,h0⟩:=h4 i x hx;exact ⟨h5,b,q0,h6,h7,h8,by rw [s.cell h7 h8];exact h9,by rw [s.cell h7 h8];exact h0⟩
structure aBp (lo hi:Nat) (w:World) (a:Option Addr) (cap:Nat) (xs:List Asg):Prop where
 le:xs.length<=cap
 cap:cap<=9223372036854775807
 cell:∀i x,xs[i]?=some x->I64 x.root/\∃b off,a=some ⟨b,off,none⟩/\lo<=b/\b<hi/\w.cell? ⟨b,off+i*2,none⟩=some (.string x.name)/\w.cell? ⟨b,off+i*2+1,none⟩=some (.int .i64 x.root)
theorem nH.open {xs:List Asg} (h:nH lo hi w v xs):∃a cap,v = .slice a xs.length cap/\aBp lo hi w a cap xs:=by
 obtain ⟨a,cap,g1,g2,g3,g4⟩:=h;exact ⟨a,cap,g1,g2,by unfold maxLen at g3;omega,g4⟩
theorem aBp.at {a:Option Addr} {cap:Nat} {xs:List Asg} (h:aBp lo hi w a cap xs) (hk:k<xs.length) {wr:World} (hx:Ext w wr) (hh:hi<=w.heap.size) :
  ∃b off s r,a=some ⟨b,off,none⟩/\b<w.heap.size/\b<wr.heap.size/\xs.drop k=⟨s,r⟩::xs.drop (k+1)/\xs[k]?=some ⟨s,r⟩/\I64 r/\wr.cell? ⟨b,off+k*2,none⟩=some (.string s)/\wr.cell? ⟨b,off+k*2+1,none⟩=some (.int .i64 r):=by
 obtain ⟨i1,b,off,e,h1,h2,c0,c1⟩:=h.cell k xs[k] (by simp [hk]);have hz:=hx.size;refine ⟨b,off,xs[k].name,xs[k].root,e,by omega,by omega,aTd hk,by simp [hk],i1,?_,?_⟩
 ·exact (hx.cells.1 b _ (by omega)).trans c0
 ·exact (hx.cells.1 b _ (by omega)).trans c1
def Prg.R (p:Prg) (lo hi:Nat) (w:World) (v:Value):Prop:=∃nu au,v = .agg #[nu,au]/\Nds lo hi w nu p.ns/\nH lo hi w au p.gs
theorem Prg.R.same {p:Prg} (h:p.R lo hi w v) (s:aM lo hi w w'):p.R lo hi w' v:=by
 obtain ⟨nu,au,h1,h2,h3⟩:=h;exact ⟨nu,au,h1,h2.same s,h3.same s⟩
theorem Prg.R.ext {p:Prg} (h:p.R lo hi w v) (hh:hi<=w.heap.size) (e:Ext w w'):p.R lo hi w' v:=h.same (e.same hh)
theorem Nds.ext {xs:List Nd} (h:Nds lo hi w v xs) (hh:hi<=w.heap.size) (e:Ext w w'):Nds lo hi w' v xs:=h.same (e.same hh)
theorem nH.ext {xs:List Asg} (h:nH lo hi w v xs) (hh:hi<=w.heap.size) (e:Ext w w'):nH lo hi w' v xs:=h.same (e.same hh)
theorem Prg.R.form {p:Prg} (h:p.R lo hi w v):∃a1 c1 a2 c2,v = .agg #[.slice a1 p.ns.length c1,.slice a2 p.gs.length c2]/\rJ lo hi w a1 c1 p.ns/\aBp lo hi w a2 c2 p.gs:=by
 obtain ⟨iu,lu,rfl,h2,h3⟩:=h;obtain ⟨a1,c1,rfl,H1⟩:=h2.open;obtain ⟨a2,c2,rfl,H2⟩:=h3.open;exact ⟨a1,c1,a2,c2,rfl,H1,H2⟩
def Prg.bd (p:Prg):Prop:=(∀x∈p.ns,x.name.size<=maxLen)/\∀x∈p.gs,x.name.size<=maxLen
def Prg.small (p:Prg):Prop:=(p.ns.length<=1048576/\∀x∈p.ns,x.args.length<=1048576)/\p.gs.length<=1048576
theorem aIi (lo hi:Nat) (u:Value) (xs:List Int) (left:Int) (w:World) (hu:aU lo hi w u xs) (h1:0<=left) (h2:left<=1048576) :
  Calls aQ2 75 #[u,left] w fun e w'=>(∃r,e = .returned (.int .i64 r)/\(r = -1\/(0<=r/\r<=left/\xs.length<=1048576)))/\w=w':=by
 obtain ⟨a,cap,rfl,HU⟩:=hu.open;have h3:=HU.le;have h4:=HU.cap;clear hu HU;go_enter func75,ntmps75;go_wp2
 all_goals go_ret
 ·exact ⟨⟨_,rfl,.inl rfl⟩,rfl⟩
 ·exact ⟨⟨_,rfl,.inr ⟨by omega,by omega,by omega⟩⟩,rfl⟩
theorem aFn (lo hi:Nat) (op:Int) (s:ByteArray) (n:Int) (u:Value) (r:List Int) (left:Int) (w:World) (hu:aU lo hi w u r) (hh:hi<=w.heap.size) (hs:s.size<=maxLen) (h1:0<=left) (h2:left<=1048576) :
  Calls aQ2 178 #[.agg #[op,.string s,n,u],left] w fun e w'=>(∃q,e = .returned (.int .i64 q)/\(q = -1\/(0<=q/\q<=left/\r.length<=1048576)))/\Ext w w':=by
 unfold maxLen at hs;have HU:=hid hu;have x0:Ext w (w.alloc (.cells #[op,.string s,n,u] 237)):=X_;clear hu
 by_cases hl:left - (s.size:Int)<0
 ·go_enter func178,ntmps178
  go_wp2;go_ret;exact ⟨⟨_,rfl,.inl rfl⟩,S_⟩
 ·go_enter func178,ntmps178
  go_wp2_with fail;refine (aIi lo hi u r _ _ (HU.ext hh x0) (by omega) (by omega)).mono ?_;rintro e w1 ⟨⟨q,rfl,hq⟩,rfl⟩
  rcases hq with rfl|⟨q1,q2,q3⟩
  ·go_wp2
   go_ret;exact ⟨⟨_,rfl,.inl rfl⟩,x0⟩
  ·have hn : ¬q<0:=by omega
   go_wp2;go_ret;exact ⟨⟨_,rfl,.inr ⟨q1,by omega,q3⟩⟩,x0⟩
theorem aDe (lo hi:Nat) (u:Value) (xs:List Nd) (left:Int) (w:World) (hu:Nds lo hi w u xs) (hh:hi<=w.heap.size) (hs:∀x∈xs,x.name.size<=maxLen) (h1:0<=left) (h2:left<=1048576) :
  Calls aQ2 124 #[u,left] w fun e w'=>(∃r,e = .returned (.int .i64 r)/\(r = -1\/(0<=r/\r<=left/\xs.length<=1048576/\∀x∈xs,x.args.length<=1048576)))/\Ext w w':=by
 obtain ⟨a,cap,rfl,HU⟩:=hu.open;have h3:=HU.le;have h4:=HU.cap;have HS:=hid hs;clear hu hs
 by_cases hl:left - (xs.length:Int)<0
 ·go_enter func124,ntmps124
  go_wp2;go_ret;exact ⟨⟨_,rfl,.inl rfl⟩,S_⟩
 ·go_enter func124,ntmps124
  go_wp2
  go_loopw [1,5] (fun q i wr=>∃(k:Nat) (r:Int),k<=xs.length/\i = .int .i64 k/\q = .int .i64 r/\0<=r/\r<=left/\(∀j x,j<k->xs[j]?=some x->x.args.length<=1048576)/\Ext w wr) (fun _ i _=>xs.length - (intOf i).toNat)
  case atStart=>exact ⟨0,_,by omega,rfl,rfl,by omega,by omega,fun j x hj=>by omega,S_⟩
  case round=>
   obtain ⟨k,r,hk,rfl,rfl,h8,q0,h0,hx⟩:=hrel
   by_cases h9:k<xs.length
   ·obtain ⟨b,q4,op,s,n,ua,ra,rfl,q1,q2,h6,h5,io,q3,h7,x0,x1,x2,x3⟩:=HU.at h9 hx hh
    have hz:=hid (HS _ (aRn h5));have HX:=hid hx;have HI:=hid h7;have HA:=hid h0;have HG:=hid h5;have zx:=hx.size;clear h6 h5 hx h7 h0;go_wp2_with fail;refine (aFn lo hi op s n ua ra r _ HI (by omega) hz.out h8 (by omega)).mono ?_;rintro e w1 ⟨⟨r2,rfl,hr3⟩,x3⟩;have X3:=HX.trans x3
    rcases hr3 with rfl|⟨hr3,hr4,hr5⟩
    ·go_wp2
     go_ret;exact ⟨⟨_,rfl,.inl rfl⟩,X3⟩
    ·have hn : ¬r2<0:=by omega
     go_wp2;go_roundw
     case rel=>
      refine ⟨k+1,r2,by omega,by go_num,rfl,by omega,by omega,fun j x hj hx=>?_,X3⟩
      by_cases e:j=k
      ·subst e
       rw [HG] at hx;injection hx with hx;subst hx;exact hr5
      ·exact HA j x (by omega) hx
     case measure=>simp [intOf];omega
   ·have HA:=hid h0
    clear h0;go_wp2;go_ret;refine ⟨⟨_,rfl,.inr ⟨h8,q0,by omega,fun x hx=>?_⟩⟩,hx⟩;obtain ⟨j,hj,rfl⟩:=aRw hx;exact HA j _ (by omega) (by simp [hj])
theorem sW (s:ByteArray) (n left:Int) (w:World) (hs:s.size<=maxLen) (h1:0<=left) (h2:left<=1048576):Calls aQ2 179 #[.agg #[.string s,n],left] w fun e w'=>(∃r,e = .returned (.int .i64 r)/\(r = -1\/(0<=r/\r<=left)))/\Ext w w':=by
 unfold maxLen at hs;go_enter func179,ntmps179;go_wp2
 all_goals go_ret
 ·exact ⟨⟨_,rfl,.inl rfl⟩,S_⟩
 ·exact ⟨⟨_,rfl,.inr ⟨by omega,by omega⟩⟩,S_⟩
theorem rK (lo hi:Nat) (u:Value) (xs:List Asg) (left:Int) (w:World) (hu:nH lo hi w u xs) (hh:hi<=w.heap.size) (hs:∀x∈xs,x.name.size<=maxLen) (h1:0<=left) (h2:left<=1048576) :
  Calls aQ2 125 #[u,left] w fun e w'=>(∃r,e = .returned (.int .i64 r)/\(r = -1\/(0<=r/\r<=left/\xs.length<=1048576)))/\Ext w w':=by
 obtain ⟨a,cap,rfl,HU⟩:=hu.open;have h3:=HU.le;have h4:=HU.cap;have HS:=hid hs;clear hu hs
 by_cases hl:left - (xs.length:Int)<0
 ·go_enter func125,ntmps125
  go_wp2;go_ret;exact ⟨⟨_,rfl,.inl rfl⟩,S_⟩
 ·go_enter func125,ntmps125
  go_wp2
  go_loopw [1,5] (fun q i wr=>∃(k:Nat) (r:Int),k<=xs.length/\i = .int .i64 k/\q = .int .i64 r/\0<=r/\r<=left/\Ext w wr) (fun _ i _=>xs.length - (intOf i).toNat)
  case atStart=>exact ⟨0,_,by omega,rfl,rfl,by omega,by omega,S_⟩
  case round=>
   obtain ⟨k,r,hk,rfl,rfl,h6,h8,hx⟩:=hrel
   by_cases h7:k<xs.length
   ·obtain ⟨b,q1,s,n,rfl,h9,q0,h0,h5,io,x0,x1⟩:=HU.at h7 hx hh
    have hz:=hid (HS _ (aRn h5));have HX:=hid hx;clear h0 h5 hx;go_wp2_with fail;refine (sW s n r _ hz.out h6 (by omega)).mono ?_;rintro e w1 ⟨⟨r2,rfl,hr3⟩,x3⟩;have X3:=HX.trans x3
    rcases hr3 with rfl|⟨hr3,hr4⟩
    ·go_wp2
     go_ret;exact ⟨⟨_,rfl,.inl rfl⟩,X3⟩
    ·have hn : ¬r2<0:=by omega
     go_wp2;go_roundw
     case rel=>exact ⟨k+1,r2,by omega,by go_num,rfl,by omega,by omega,X3⟩
     case measure=>simp [intOf];omega
   ·go_wp2
    go_ret;exact ⟨⟨_,rfl,.inr ⟨h6,h8,by omega⟩⟩,hx⟩
theorem yY (lo hi:Nat) (v:Value) (p:Prg) (left:Int) (w:World) (hv:p.R lo hi w v) (hh:hi<=w.heap.size) (hb:p.bd) (h1:0<=left) (h2:left<=1048576) :
  Calls aQ2 76 #[v,left] w fun e w'=>(∃r,e = .returned (.int .i64 r)/\(r = -1\/(0<=r/\r<=left/\p.small)))/\Ext w w':=by
 obtain ⟨iu,lu,rfl,h3,h4⟩:=hv;have HI:=hid h3;have HL:=hid h4;have HB:=hid hb;clear h3 h4 hb;have x0:Ext w (w.alloc (.cells #[iu,lu] 113)):=X_;have bA:=Bx.made w #[iu,lu] 113;go_enter func76,ntmps76;go_wp2_with fail;refine (aDe lo hi _ p.ns left _ (HI.ext hh x0) (aQ5 hh x0.size) HB.1 h1 h2).mono ?_;rintro e w1 ⟨⟨r,rfl,hr⟩,x1⟩;have X1:=x0.trans x1
 rcases hr with rfl|⟨r1,r2,r3,r4⟩
 ·go_wp2
  go_ret;exact ⟨⟨_,rfl,.inl rfl⟩,X1⟩
 ·have h0:=bA.ext x1
  have hn : ¬r<0:=by omega
  have R4:=hid r4;clear bA x0 x1 r4;have y:=h0.lt;obtain ⟨y0,y1⟩:=h0.q2;go_wp2_with fail;refine (rK lo hi _ p.gs r _ (HL.ext hh X1) (aQ5 hh X1.size) HB.2 r1 (by omega)).mono ?_;rintro e w2 ⟨⟨q,rfl,hq⟩,x2⟩
  rcases hq with rfl|⟨q1,q2,q3⟩
  ·go_wp2
   go_ret;exact ⟨⟨_,rfl,.inl rfl⟩,X1.trans x2⟩
  ·have h5 : ¬q<0:=by omega
   go_wp2;go_ret;exact ⟨⟨_,rfl,.inr ⟨q1,by omega,⟨r3,R4⟩,q3⟩⟩,X1.trans x2⟩
def aN9 (n:Nat):Bool:=decide (97<=n)&&decide (n<=122)
def aOa (n:Nat):Bool:=decide (48<=n)&&decide (n<=57)
def eI (s:ByteArray) (k:Nat):Bool:=if h:k<s.size then aN9 s[k].toNat||(decide (k≠0)&&aOa s[k].toNat) else true
def dE (s:ByteArray):Bool:=decide (1<=s.size)&&decide (s.size<=8)&&(aRl s.size).all (eI s)
theorem sX {s:ByteArray} (hk:k<s.size) (h:eI s k=false):dE s=false:=by
 unfold dE;rw [aZj]
 right
 rw [aT4];exact ⟨k,aR4.2 hk,by simp [h]⟩
theorem vW {s:ByteArray} (h:∀k,k<s.size->eI s k=true):dE s=(decide (1<=s.size)&&decide (s.size<=8)):=by
 unfold dE;have:(aRl s.size).all (eI s)=true:=aR5.2 fun k hk=>h k (aR4.1 hk);rw [this,Bool.and_true]
theorem tV {s:ByteArray} (hk:k<s.size) (h:97<=s[k].toNat/\s[k].toNat<=122):eI s k=true:=by
 unfold eI aN9;rw [dif_pos hk,decide_eq_true h.1,decide_eq_true h.2]
 rfl
theorem tW {s:ByteArray} (hk:k<s.size) (h0:k≠0) (h:48<=s[k].toNat/\s[k].toNat<=57):eI s k=true:=by
 unfold eI aOa;rw [dif_pos hk,decide_eq_true h.1,decide_eq_true h.2,decide_eq_true h0];simp
theorem qL {s:ByteArray} (hk:k<s.size) (h1 : ¬(97<=s[k].toNat/\s[k].toNat<=122)) (h2 : ¬(k≠0/\48<=s[k].toNat/\s[k].toNat<=57)):eI s k=false:=by
 unfold eI aN9 aOa;rw [dif_pos hk];simp only [Bool.or_eq_false_iff,aZj,decide_eq_false_iff_not];omega
theorem rL (s:ByteArray) (w:World) (hs:s.size<=maxLen):Z_ 187 #[.string s] w (.bool (dE s)):=by
 unfold maxLen at hs;go_enter func187,ntmps187;go_wp2
 go_loopw [3] (fun i wr=>∃k:Nat,k<=s.size/\i = .int .i64 k/\wr=w/\∀j,j<k->eI s j=true) (fun i _=>s.size - (intOf i).toNat)
 case atStart=>exact ⟨0,by omega,rfl,rfl,fun j h=>by omega⟩
 case round=>
  obtain ⟨k,hk,rfl,rfl,h4⟩:=hrel
  by_cases h5:k<s.size
  ·have h3:eI s k=true->∀j,j<k+1->eI s j=true:=fun h j hj=>by
    by_cases e:j=k
    ·subst e;exact h
    ·exact h4 j (by omega)
   by_cases h1:97<=s[k].toNat/\s[k].toNat<=122
   ·have HN:=hid (h3 (tV h5 h1))
    clear h4 h3;go_wp2;go_roundw
    case rel=>exact ⟨k+1,by omega,by go_num,by trivial,HN⟩
    case measure=>simp [intOf];omega
   ·by_cases h2:k≠0/\48<=s[k].toNat/\s[k].toNat<=57
    ·have HN:=hid (h3 (tW h5 h2.1 h2.2))
     have ek:((k:Int)==0)=false:=beq_eq_false_iff_ne.2 (by omega);clear h4 h3;go_wp2
     all_goals first|(exfalso;omega)|skip
     all_goals (go_roundw <;> first|exact ⟨k+1,by omega,by go_num,by trivial,HN⟩|(simp [intOf];omega))
    ·have HN:=hid (sX h5 (qL h5 h1 h2))
     clear h4 h3
     by_cases h0:k=0
     ·have ek:((k:Int)==0)=true:=by subst h0;rfl
      go_wp2
      all_goals first|(exfalso;omega)|(go_ret;exact ⟨by rw [HN];rfl,rfl⟩)|(exfalso;simp_all <;> omega)|trace_state
     ·have ek:((k:Int)==0)=false:=beq_eq_false_iff_ne.2 (by omega)
      go_wp2
      all_goals first|(exfalso;omega)|(go_ret;exact ⟨by rw [HN];rfl,rfl⟩)|(exfalso;simp_all <;> omega)|trace_state
  ·obtain rfl:k=s.size:=by omega
   have HN:=hid (vW h4);clear h4
   obtain ⟨bi,h6⟩:∃b,inB (s.size:Int) 1 8=b:=⟨_,rfl⟩
   have h7:dE s=bi:=by
    rw [HN,<-h6];unfold inB;rw [Bool.eq_iff_iff];simp only [aRd,decide_eq_true_eq];omega
   have HB:=hid h7;go_wp2_with fail;refine z_ (aE h6 _) ?_;go_wp2;go_ret;exact ⟨by rw [HB];rfl,rfl⟩
theorem rM (s:ByteArray) (w:World) (hs:s.size<=maxLen):R_ 238 #[.string s] w (.bool (dE s)):=by
 unfold maxLen at hs;have q2:(w.iter s 0).heap[w.heap.size]?=some (.stringIter s 0):=World.iter_heap w s 0;have q1:Ext w (w.iter s 0):=(aQ6 w).alloc _;go_enter func238,ntmps238;go_wp2
 go_loopw [9] (fun _ wr=>∃pos:Nat,pos<=s.size/\wr.heap[w.heap.size]?=some (.stringIter s pos)/\(∀j,j<pos->eI s j=true)/\Ext w wr) (fun _ wr=>s.size - wr.iterPos w.heap.size)
 case atStart=>exact ⟨0,aSi _,q2,fun j h=>by omega,q1⟩
 case round=>
  obtain ⟨pos,q5,hk,h6,h7⟩:=hrel;clear q2 q1
  by_cases hp:pos<s.size
  ·have h5:eI s pos=true->∀j,j<pos+1->eI s j=true:=fun h j hj=>by
    by_cases e:j=pos
    ·subst e;exact h
    ·exact h6 j (by omega)
   have q3:wr.iterPos w.heap.size=pos:=by simp [World.iterPos,hk]
   by_cases ha:(s[pos]'hp).toNat<128
   ·have h3:∀ty,(bA3 (.pointer (some ⟨w.heap.size,0,none⟩)) true ty).run aQ2 wr=_:=fun ty=>Lib.run_next_ascii_at wr w.heap.size s pos ty hk hp ha
    have q0:=Lib.iterAt_heap wr w.heap.size s pos (pos+1) hk;have h4:Ext w (wr.iterAt w.heap.size s (pos+1)):=Lib.below_iterAt h7 (by omega) s (pos+1);generalize wr.iterAt w.heap.size s (pos+1)=W1 at h3 q0 h4
    have h9:W1.iterPos w.heap.size=pos+1:=by simp [World.iterPos,q0]
    have HX:=hid h4;have HK:=hid q0;clear h7 hk h4 q0
    by_cases h1:97<=s[pos].toNat/\s[pos].toNat<=122
    ·have HN:=hid (h5 (tV hp h1))
     clear h6 h5;go_wp2
     all_goals first|(exfalso;omega)|skip
     all_goals (go_roundw <;> first|exact ⟨pos+1,by omega,HK,HN,HX⟩|(rw [q3,h9];omega))
    ·by_cases h2:pos≠0/\48<=s[pos].toNat/\s[pos].toNat<=57
     ·have HN:=hid (h5 (tW hp h2.1 h2.2))
      have ek:((pos:Int)==0)=false:=beq_eq_false_iff_ne.2 (by omega);clear h6 h5;go_wp2
      all_goals first|(exfalso;omega)|skip
      all_goals (go_roundw <;> first|exact ⟨pos+1,by omega,HK,HN,HX⟩|(rw [q3,h9];omega))
     ·have HN:=hid (sX hp (qL hp h1 h2))
      clear h6 h5
      by_cases h0:pos=0
      ·have ek:((pos:Int)==0)=true:=by subst h0;rfl
       go_wp2
       all_goals first|(exfalso;omega)|(go_ret;exact ⟨by rw [HN];rfl,HX⟩)|(exfalso;simp_all <;> omega)
      ·have ek:((pos:Int)==0)=false:=beq_eq_false_iff_ne.2 (by omega)
       go_wp2
       all_goals first|(exfalso;omega)|(go_ret;exact ⟨by rw [HN];rfl,HX⟩)|(exfalso;simp_all <;> omega)
   ·have h3:∀ty,(bA3 (.pointer (some ⟨w.heap.size,0,none⟩)) true ty).run aQ2 wr=_:=fun ty=>Lib.run_next_any_at wr w.heap.size s pos ty hk hp
    have h4:Ext w (wr.iterAt w.heap.size s (pos+(Utf8.decode s pos).2)):=Lib.below_iterAt h7 (by omega) s _;have q4:=(decode_high s pos hp (by omega)).1;generalize wr.iterAt w.heap.size s (pos+(Utf8.decode s pos).2)=W1 at h3 h4;generalize (Utf8.decode s pos).1=rn at h3 q4;have HX:=hid h4;have HN:=hid (sX hp (qL hp (by omega) (by omega)));clear h7 hk h4 h6 h5
    by_cases h0:pos=0
    ·have ek:((pos:Int)==0)=true:=by subst h0;rfl
     go_wp2
     all_goals first|(exfalso;omega)|(go_ret;exact ⟨by rw [HN];rfl,HX⟩)|(exfalso;simp_all <;> omega)
    ·have ek:((pos:Int)==0)=false:=beq_eq_false_iff_ne.2 (by omega)
     go_wp2
     all_goals first|(exfalso;omega)|(go_ret;exact ⟨by rw [HN];rfl,HX⟩)|(exfalso;simp_all <;> omega)
  ·obtain rfl:pos=s.size:=by omega
   have h3:∀ty,(bA3 (.pointer (some ⟨w.heap.size,0,none⟩)) true ty).run aQ2 wr=_:=fun ty=>Lib.run_next_end_at wr w.heap.size s s.size ty hk hp;have HN:=hid (vW h6);have HX:=hid h7;clear h6 h7 hk
   by_cases h1:1<=s.size
   ·by_cases h8:s.size<=8
    ·have HB:=hid (show dE s=true by rw [HN,decide_eq_true h1,decide_eq_true h8];rfl)
     go_wp2
     all_goals first|(exfalso;omega)|(go_ret;exact ⟨by rw [HB];rfl,HX⟩)|(go_ret;exact ⟨by rw [HB];simp <;> omega,HX⟩)|(exfalso;simp_all <;> omega)
    ·have HB:=hid (show dE s=false by rw [HN,decide_eq_false h8];simp)
     go_wp2
     all_goals first|(exfalso;omega)|(go_ret;exact ⟨by rw [HB];rfl,HX⟩)|(go_ret;exact ⟨by rw [HB];simp <;> omega,HX⟩)|(exfalso;simp_all <;> omega)
   ·have HB:=hid (show dE s=false by rw [HN,decide_eq_false h1];simp)
    go_wp2
    all_goals first|(exfalso;omega)|(go_ret;exact ⟨by rw [HB];rfl,HX⟩)|(go_ret;exact ⟨by rw [HB];simp <;> omega,HX⟩)|(exfalso;simp_all <;> omega)
def aF {α : Type} (cs : α->List Value) (lo:Nat) (e:TypeId) (sz:Nat) (w:World) (v:Value) (xs:List α):Prop:=w.ownsRow lo e sz v xs.length (xs.flatMap cs)
theorem mN {α : Type} {cs : α->List Value} (hc:∀x,(cs x).length=sz):∀{xs:List α} {i:Nat} {x : α},xs[i]?=some x->∀j,j<sz->(xs.flatMap cs)[i*sz+j]?=(cs x)[j]?
 | [],_,_,h,_,_=>by simp at h
 | y::r,0,x,h,j,hj=>by
  simp at h;subst h;rw [aS0,Nat.zero_mul,aRt,aSb (by rw [hc];exact hj)]
 | y::r,i+1,x,h,j,hj=>by
  rw [aS0,aW2,aR0 (by rw [hc];omega),hc,show i*sz+sz+j - sz=i*sz+j by omega];exact mN hc (by simpa using h) j hj
theorem gH {α : Type} {cs : α->List Value} (hc:∀x,(cs x).length=sz):∀xs:List α,(xs.flatMap cs).length=xs.length*sz
 | []=>by simp
 | y::r=>by rw [aS0,aRq,hc,gH hc r,aSc,aW2];omega
theorem aF.nil {α : Type} (cs : α->List Value) (lo:Nat) (e:TypeId) (sz:Nat) (w:World):aF cs lo e sz w (.slice none 0 0) []:=World.ownsRow_nil _ _ _ _
theorem aF.lt {α : Type} {cs : α->List Value} {xs:List α} (h:aF cs lo e sz w v xs):∀k,v.ownBlock=some k->lo<=k/\k<w.heap.size:=World.ownsRow.lt h
theorem aF.form {α : Type} {cs : α->List Value} {xs:List α} (h:aF cs lo e sz w v xs):∃a cap,v = .slice a xs.length cap/\xs.length<=9223372036854775807:=by
 rcases h.2 with ⟨rfl,h4⟩|⟨g,cap,cur,rfl,hb,hg,hc,hm,hs,ht⟩
 ·exact ⟨none,0,by rw [h4],by omega⟩
 ·exact ⟨some ⟨g,0,none⟩,cap,rfl,by unfold maxLen at hm;omega⟩
theorem aF.of {α : Type} {cs : α->List Value} {xs:List α} (h:aF cs lo e sz w v xs) (s:∀b c,lo<=b->w.heap[b]?=some (.cells c e (0,0))->w'.heap[b]?=some (.cells c e (0,0))):aF cs lo e sz w' v xs:=by
 refine ⟨h.1,?_⟩
 rcases h.2 with hn|⟨g,cap,cur,hv,hb,hg,r⟩
 ·exact .inl hn
 ·exact .inr ⟨g,cap,cur,hv,hb,s g cur hb hg,r⟩
theorem aF.ext {α : Type} {cs : α->List Value} {xs:List α} (h:aF cs lo e sz w v xs) (x:Ext w w'):aF cs lo e sz w' v xs:=
 h.of fun b c _ hb=>(x.block (aRi.1 hb).1).trans hb
theorem aF.low {α : Type} {cs : α->List Value} {xs:List α} (h:aF cs lo e sz w v xs) (hl:lo'<=lo):aF cs lo' e sz w v xs:=by
 refine ⟨h.1,?_⟩
 rcases h.2 with hn|⟨g,cap,cur,hv,hb,r⟩
 ·exact .inl hn
 ·exact .inr ⟨g,cap,cur,hv,by omega,r⟩
theorem aF.at {α : Type} {cs : α->List Value} {xs:List α} (h:aF cs lo e sz w v xs) (hc:∀x,(cs x).length=sz) {i:Nat} {x : α} (hx:xs[i]?=some x) :
  ∃g cap,v = .slice (some ⟨g,0,none⟩) xs.length cap/\lo<=g/\g<w.heap.size/\xs.length<=cap/\cap<=9223372036854775807/\(∃c,w.heap[g]?=some (.cells c e (0,0)))/\∀j,j<sz->w.cell? ⟨g,i*sz+j,none⟩=(cs x)[j]?:=by
 have hi:=(aQz.1 hx).1
 rcases h.2 with ⟨rfl,h4⟩|⟨g,cap,cur,rfl,hb,hg,hcap,hm,hs,ht⟩
 ·omega
 ·refine ⟨g,cap,rfl,hb,(aRi.1 hg).1,hcap,by unfold maxLen at hm;omega,⟨_,hg⟩,fun j hj=>?_⟩
  have e1:=mN hc hx j hj;rw [<-ht,aS1,if_pos (eQ hi hj)] at e1;rw [<-e1];simp only [aSy,hg];simp
structure KN (lo B:Nat) (e:TypeId) (w w':World):Prop where
 os:w'.os=w.os
 tape:w'.tape=w.tape
 output:w'.output=w.output
 size:w.heap.size<=w'.heap.size
 block:∀b,b<w.heap.size->(b<lo\/(b≠B/\∀c,w.heap[b]?≠some (.cells c e (0,0))))->w'.heap[b]?=w.heap[b]?
theorem KN.refl (lo B:Nat) (e:TypeId) (w:World):KN lo B e w w:=⟨rfl,rfl,rfl,aQv _,fun _ _ _=>rfl⟩
theorem KN.trans (h:KN lo B e w w1) (k:KN lo B e w1 w2):KN lo B e w w2:=
 ⟨k.os.trans h.os,k.tape.trans h.tape,k.output.trans h.output,aQ5 h.size k.size,fun b hb hn=>by
  have e1:=h.block b hb hn
  exact (k.block b (aSf hb h.size) (by rw [e1];exact hn)).trans e1⟩
theorem Ext.kn (h:Ext w w') (lo B:Nat) (e:TypeId):KN lo B e w w':=⟨h.os,h.tape,h.output,h.size,fun b hb _=>h.block hb⟩
theorem KN.ext (h:KN lo B e w w1) (k:Ext w1 w2):KN lo B e w w2:=h.trans (k.kn lo B e)
theorem KN.set (h:KN lo B e w w1) (hl:lo<=B) (i:Nat) (u:Value):KN lo B e w (w1.setCell ⟨B,i,none⟩ u):=
 h.trans ⟨rfl,rfl,rfl,by rw [aSg];exact aQv _,fun b _ hn=>aQ7 _ _ _ _ (by simp only;rcases hn with hn|hn <;> omega)⟩
theorem KN.grown {row:Option Nat} (h:KN lo B e w w1) (hg:w1.grownBy w2 row) (hr:∀k,row=some k->lo<=k/\∃c,w1.heap[k]?=some (.cells c e (0,0))):KN lo B e w w2:=
 h.trans ⟨hg.os,hg.tape,hg.output,hg.size,fun b hb hn=>hg.block b hb (fun e1=>by
  obtain ⟨h1,c,h2⟩:=hr b e1.symm
  rcases hn with hn|hn
  ·omega
  ·exact hn.2 c h2)⟩
theorem KN.up {w0:World} (h:KN lo B e w w1) (x:Ext w0 w) (hl:w0.heap.size<=lo):Ext w0 w1:=by
 refine aQ3 (aQ6 w0) ?_;refine (aQ6 w0).grown (row:=none) ⟨h.os.trans x.os,h.tape.trans x.tape,h.output.trans x.output,aQ5 x.size h.size,fun b hb _=>?_⟩ (fun k hk=>by cases hk);exact (h.block b (aSf hb x.size) (.inl (by omega))).trans (x.block hb)
theorem KN.row {e':TypeId} {α : Type} {cs : α->List Value} {xs:List α} (h:aF cs lo' e' sz w v xs) (k:KN lo B e w w') (hB:∀c,w.heap[B]?≠some (.cells c e' (0,0))) (he:e'≠e):aF cs lo' e' sz w' v xs:=
 h.of fun b c _ hb=>(k.block b (aRi.1 hb).1 (.inr ⟨fun e1=>hB c (e1▸hb),fun c' h'=>by rw [hb] at h';simp only [aQ0,aR8] at h';exact he h'.2.1⟩)).trans hb
theorem KN.blk {cs:List Value} (h:Blk w g t cs) (k:KN lo B e w w') (hg:g≠B) (ht:t≠e):Blk w' g t cs:=
 h.of (k.block g h.lt (.inr ⟨hg,fun c' h'=>by unfold Blk at h;rw [h] at h';simp only [aQ0,aR8] at h';exact ht h'.2.1⟩))
theorem dV {α : Type} (cs : α->List Value) (e:TypeId) (sz bytes:Nat) (z:Value) (w:World) {rest:List Oper} {a:Act} (hg:o.guard=none) (s x:Operand) (t:TypeId)
  (hop:o.op=Op.call { callee:=Callee.builtin Builtin.append,args:=#[s,x],argTypes:=#[t,t] }) (ht:Tryz.prog.underlying t=some (.slice e))
  (hinfo:(Tryz.prog.info? e).map (fun i=>(i.zero,i.size,i.bytes))=some (some z,sz,bytes)) (hzs:z.cells.size=sz) (hsz:0<sz) (hby:bytes<=1000) (hc:∀x,(cs x).length=sz)
  (lo:Nat) (v:Value) (xs:List α) (hs:a.eval s=v) (hown:aF cs lo e sz w v xs)
  (y : α) (b:Nat) (hx:a.eval x = .slice (some ⟨b,0,none⟩) 1 1) (hcell:∀j,j<sz->w.cell? ⟨b,j,none⟩=(cs y)[j]?) (h1:∀u∈cs y,u.oneCell'=true) (hlen:xs.length<1000000) (hlo:lo<=w.heap.size)
  (hK:∀v' w',aF cs lo e sz w' v' (xs++[y])->w.grownBy w' v.ownBlock->wpList aQ2 ops Q rest (a.put o.dst v') w'):wpList aQ2 ops Q (o::rest) a w:=by
 obtain ⟨i0,h3,h5,h6,h7⟩:=info_parts hinfo;refine wpList_append_own w hg s x t hop lo e i0 z sz bytes ht h3 h5 h6 h7 hzs hsz v xs.length _ hs hown ⟨b,0,none⟩ 1 1 (cs y) hx (by rw [hc,aTh]) ?_ h1 ?_ ?_ hlo ?_
 ·intro j u hj
  have h4:j<sz:=by rw [<-hc y];exact (aQz.1 hj).1
  have ea:(⟨b,0,none⟩:Addr).add j=⟨b,j,none⟩:=by
   unfold Addr.add
   split <;> simp_all
  rw [ea,hcell j h4,hj]
 ·unfold maxLen;omega
 ·have:(xs.length+1)*bytes<=1000000*1000:=aRy (by omega) hby
  omega
 ·intro v' w1 h2 h0 _
  refine hK v' w1 ?_ h0;unfold aF;rw [aRq,aSa]
  simpa using h2
theorem aF.set {α : Type} {cs : α->List Value} {xs:List α} {T:TypeId} {us:List Value} (h:aF cs lo e sz w v xs) (hB:Blk w B T us) (h1:T≠e) (i:Nat) (u:Value):aF cs lo e sz (w.setCell ⟨B,i,none⟩ u) v xs:=by
 refine h.of fun b c _ hb=>(aQ7 _ _ _ _ ?_).trans hb;intro e;simp only at e;subst e;unfold Blk at hB;rw [hB] at hb;simp only [aQ0,aR8] at hb;exact h1 hb.2.1
section
variable {P : Program} {ops : Array Oper} {Q : Exit -> Act -> World -> Prop} {md : Region.Mode} {l n : Nat}
abbrev rd (l:Nat):Fence:=Fence.wide.inRound l
theorem vX (l n:Nat):(rd l).depth.isSome=true->1<=n:=fun h=>by simp [rd,aX8] at h
theorem aL9 {row:String} {args:Array Value} {w:World} {R:Value->World->Prop} (h:Rows P row args w R):RowsIn (rd l) n P row args w R:=
 fun c cs _=>let ⟨v,w',r,s⟩:=h c cs;⟨v,w',r,(stepsIn_wide (P:=P)).2 s⟩
theorem aHe {o:Oper} {a:Act} {w:World} {K:Act->World->Prop} (hd:∀c,o.op≠.defer c) (hl : ¬LetsOut Q) (h:o.wp P a w K Q\/(o.asks P a w/\LetsOut Q)):o.wpIn (rd l) n P a w K Q:=by
 rcases h with h|⟨_,h⟩
 ·refine ⟨fun _ _=>trivial,?_⟩
  rw [show (rd l).round=some l from rfl,aWk l _ _ hd];unfold aW3 at h;generalize (execOp a.eval o).run P w=r at h ⊢
  cases r with
  | ok x w'=>
   cases x
   case value v=>exact h
   case skip=>exact h
   case defer d=>exact h
   case enter f args=>exact ⟨vX l n,CallsIn.inRound l ((callsIn_wide (n:=n - 1)).2 h)⟩
   case row r args=>exact ⟨vX l n,aL9 h⟩
   all_goals exact (h:False).elim
  | halt x w'=>
   cases x
   all_goals first|exact h|exact (h:False).elim
 ·exact (hl h).elim
def jW (ops:List Oper):Bool:=ops.all fun o=>match o.op with | .defer _=>false|_=>true
theorem vY {ops:List Oper} (h:jW ops=true) {i:Nat} {o:Oper} (ho:ops[i]?=some o):∀c,o.op≠.defer c:=by
 intro c hc;have:=aR5.1 h o (aRn ho);rw [hc] at this;cases this
theorem vZ (hd:jW ops.toList=true) (hl : ¬LetsOut Q):∀(fuel:Nat) (listed:Array Bool) (a:Act) (w:World),wpAny P md ops Q fuel listed a w->wpAnyIn (rd l) n P md ops Q fuel listed a w
 | 0,_,_,_,h=>h
 | fuel+1,listed,a,w,h=>by
  refine ⟨h.1,fun i hi=>?_⟩;have h2:=wpOp_mono (fun a' w' h'=>vZ hd hl fuel _ a' w' h') (h.2 i hi);unfold wpOp at h2;unfold wpOpIn
  cases ho:ops[i]? with
  | none=>rw [ho] at h2;exact h2
  | some o=>
   rw [ho] at h2;simp only at h2 ⊢
   split
   ·rename_i hw
    rw [if_pos hw] at h2;exact aHe (vY (i:=i) hd (by simpa using ho)) hl h2
   ·rename_i hw
    rw [if_neg hw] at h2;exact ⟨fun _ _=>trivial,h2⟩
theorem sY (hl : ¬LetsOut Q):∀(rest:List Oper) (a:Act) (w:World),jW rest=true->wpList P ops Q rest a w->wpListIn (rd l) n P ops Q rest a w
 | [],_,_,_,h=>h
 | o::rest,a,w,hd,h=>by
  have hd2:jW rest=true:=by
   unfold jW at hd ⊢;rw [aXn,aRd] at hd;exact hd.2
  unfold wpList at h;unfold wpListIn
  split
  ·rename_i hw
   rw [if_pos hw] at h;refine aHe (vY (i:=0) hd rfl) hl (h.imp (fun k=>?_) id);exact aV8 (fun a' w' h'=>sY hl rest a' w' hd2 h') k
  ·rename_i hw
   rw [if_neg hw] at h;exact ⟨fun _ _=>trivial,sY hl rest _ _ hd2 h⟩
theorem tX (hl : ¬LetsOut Q) : ¬LetsOut (NoPanic Q):=fun ⟨a,w,h⟩=>hl ⟨a,w,h⟩
theorem pZ {id:Nat} {a:Act} {w:World} {l':List Oper} (z N:Nat) (hm:P.follows .mixedOrders=true) (hd:jW l'=true) (hl : ¬LetsOut Q)
  (h:wpZ P l'.toArray (NoPanic Q) N w z l'.length (aU4 l'.length false) a w.drew):(Code.region id l'.toArray true).wpIn (rd l) n P Q a w:=by
 refine Go.wpIn_mono (wpIn_region_any hm (vZ (by simpa using hd) (tX hl) _ _ _ _ ?_)) NoPanic.imp;have:=hH _ _ _ _ h
 simpa using this
theorem dW {id:Nat} {a:Act} {w:World} {l':List Oper} (hd:jW l'=true) (hl : ¬LetsOut Q) (h:wpList P l'.toArray Q l' a w):(Code.region id l'.toArray false).wpIn (rd l) n P Q a w:=
 wpIn_region_lit (sY hl _ _ _ hd h)
end
section
open Go.RowKit Go.Shelf
attribute [local go_sem] aWk
def aHf (n:Nat) (hn:0<n) (k:Nat):Fin n×Fin n:=(⟨k % n,aTp _ hn⟩,⟨k / n % n,aTp _ hn⟩)
def cC (n:Nat) (hn:0<n) (k:Nat):List (Fin n×Fin n):=(aRl k).map (aHf n hn)
theorem nT (n:Nat) (hn:0<n) (k:Nat):(cC n hn k).length=k:=by simp [cC]
theorem aBq (n:Nat) (hn:0<n) (k:Nat):cC n hn (k+1)=cC n hn k++[aHf n hn k]:=by simp [cC,aS9]
def KB (B:Nat) (W W':World):Prop:=W'.heap[B]?=W.heap[B]?
theorem KB.trans {B:Nat} {X Y Z:World} (h:KB B X Y) (k:KB B Y Z):KB B X Z:=Eq.trans k h
theorem sZ (n:Nat) (m:Nat) (w:World) :
  CallsIn aX8 m aQ2 165 #[n] w fun e w'=>e = .returned (.func (.func 217) #[] #[.pointer (some ⟨w.heap.size,0,none⟩)])/\w'=w.alloc (.cells #[n] 3):=by
 refine callsIn_wide.2 ?_;have h0:∀w:World,(aV1 (.func 217) #[] #[.pointer (some ⟨w.heap.size,0,none⟩)]).run aQ2 w = .ok (.func (.func 217) #[] #[.pointer (some ⟨w.heap.size,0,none⟩)]) w:=fun _=>rfl;go_enter func165,ntmps165;go_wp2;go_ret;exact ⟨rfl,rfl⟩
theorem aJ5 (n:Nat) (h0n:0<n) (hn':n<=64) (m:Nat) (l B:Nat) (J Jx:List (Fin n×Fin n)->World->Prop)
  (hJd:∀s W,J s W->J s W.drew)
  (hY:∀pre x W,J pre W->pre.length<n*n->YieldAt aX8 (m - 1) aQ2 l #[(x.1:Nat),(x.2:Nat)] W fun e W'=>
   (e = .returned (.bool true)/\J (pre++[x]) W'/\KB B W W')\/(e = .returned (.bool false)/\Jx (pre++[x]) W'))
  (W:World) (hW:W.cell? ⟨B,0,none⟩=some (.int .i64 n)) (h0:J [] W) :
  CallsIn aX8 m aQ2 217 #[.func (.yield l) #[] #[],.pointer (some ⟨B,0,none⟩)] W fun e W'=>(∃v,e = .returned v) /\
   ((∃xs,xs=cC n h0n (n*n)/\J xs W')\/(∃pre,True/\Jx pre W')):=by
 have q5:n*n<=4096:=aRy hn' hn';refine callsIn_of_wp func217 rfl trivial ?_ rfl;simp only [ntmps217,aVx,aSc,aS7,aTx,aYp,aVz,aV0,aWz,aWe,aSu,aV5]
 gi_wp2
 gi_loopw [3] (fun i wr=>∃k:Nat,k<=n*n/\i = .int .i64 k/\J (cC n h0n k) wr/\KB B W wr) (fun i _=>n*n - (intOf i).toNat)
 case atStart=>exact ⟨0,aSi _,rfl,h0,rfl⟩
 case round=>
  obtain ⟨k,hk,rfl,h8,q3⟩:=hrel;have hc:wr.cell? ⟨B,0,none⟩=some (.int .i64 n):=(aSe (w:=W) (w':=wr) (a:=⟨B,0,none⟩) q3).trans hW
  have q1:(n:Int)*n=((n*n:Nat):Int):=by simp
  obtain ⟨N,hN⟩:∃N,n*n=N:=⟨_,rfl⟩
  rw [hN] at q1 hk q5 ⊢
  by_cases q0:k<N
  ·have q8:(n:Int)≠0:=by omega
   have hq:k / n % n=k / n:=aUx (aTg (by rw [hN];exact q0));have hm:k % n<n:=aTp _ h0n
   have t1:Int.tmod (k:Int) n=((k % n:Nat):Int):=by rw [Int.tmod_eq_emod_of_nonneg (by omega)];rfl
   have t2:Int.tdiv (k:Int) n=((k / n:Nat):Int):=by rw [Int.tdiv_eq_ediv_of_nonneg (by omega)];rfl
   have hd:k / n<n:=aTg (by rw [hN];exact q0)
   obtain ⟨r,hr⟩:∃r,k % n=r:=⟨_,rfl⟩
   obtain ⟨d,h9⟩:∃d,k / n=d:=⟨_,rfl⟩
   obtain ⟨fn,q6,h7,q4,hy,hR⟩:=hY (cC n h0n k) (aHf n h0n k) wr.drew (hJd _ _ h8) (by rw [nT,hN];exact q0);rw [<-aBq] at hR;dsimp only [aHf] at hy;rw [hq,hr,h9] at hy;rw [hr] at t1 hm;rw [h9] at t2 hd;have t3:IntKind.i64.wrap (d:Int)=(d:Int):=IntWalk.i64_in _ (by omega);clear hq hr h9 h8
   gi_wp2
   have q7:Tryz.prog.follows .mixedOrders=true:=by kernel_rfl
   have q2:=RoundIn.mono (R':=fun e W'=>∃b:Bool,e = .returned (.bool b)/\((b=true/\J (cC n h0n (k+1)) W'/\KB B wr.drew W')\/(b=false/\Jx (cC n h0n (k+1)) W'))) hR (fun e W' h=>by
    rcases h with ⟨rfl,h1,h2⟩|⟨rfl,h1⟩
    ·exact ⟨true,rfl,.inl ⟨rfl,h1,h2⟩⟩
    ·exact ⟨false,rfl,.inr ⟨rfl,h1⟩⟩)
   clear hR
   gi_region_with_o (refine ⟨fun h=>by simp [aX8] at h,?_⟩;refine q2.mono ?_;rintro e W3 ⟨b,rfl,h3⟩)
   all_goals (try simp only [aSj,List.getElem_toArray,aUs,aUt,aQ4,aRc,aRb])
   all_goals clear q2 hy hY t1 t2 t3
   all_goals rcases h3 with ⟨rfl,h4,h5⟩|⟨rfl,h4⟩
   all_goals first
    | (have h6:KB B W _:=KB.trans (Y:=wr.drew) q3 h5
       gi_wp2
       go_roundw
       case rel=>exact ⟨k+1,by omega,by go_num,h4,h6⟩
       case measure=>simp [intOf];omega)
    | (gi_wp2
       refine bodyPost_ret (results_none rfl _ _ _) rfl ?_
       exact ⟨⟨_,rfl⟩,.inr ⟨_,trivial,h4⟩⟩)
  ·obtain rfl:k=N:=by omega
   gi_wp2
   go_end0
   exact ⟨⟨_,rfl⟩,.inl ⟨_,rfl,by rw [hN];exact h8⟩⟩
theorem nU (n:Nat) (h0n:0<n) (hn':n<=64) (m B:Nat) (w:World) (hw0:B<w.heap.size) (hw:w.cell? ⟨B,0,none⟩=some (.int .i64 n)) :
  SeqStopsK aX8 m aQ2 217 #[.pointer (some ⟨B,0,none⟩)] (fun x:Fin n×Fin n=>#[(x.1:Nat),(x.2:Nat)]) (KB B)
   (fun xs=>xs=cC n h0n (n*n)) (fun _=>True) (n*n) w:=fun l J Jx W hW hJ _ hY h0=>
 aJ5 n h0n hn' m l B J Jx (fun s W hs=>hJ s W _ none hs ⟨rfl,rfl,rfl,aQv _,fun _ _ _=>rfl⟩ (fun r e=>by cases e)) hY W ((Below.cell (p:=⟨B,0,none⟩) hW hw0).trans hw) h0
end
section
open Go.RowKit Go.Shelf
theorem gI {W:World} {B:Nat} {o:Obj} (h:W.heap[B]?=some o):B<W.heap.size:=(aRi.1 h).1
theorem yZ {W:World} {B:Nat} {t e:TypeId} {cs:Array Value} {fz:Nat×Nat} (h:W.heap[B]?=some (.cells cs t fz)) (hte:t≠e) {base size k:Nat} {v:Value} {xs:List Value} (hr:W.ownsRow base e size v k xs):some B≠v.ownBlock:=by
 rcases hr.2 with ⟨rfl,_⟩|⟨g,cap,cur,rfl,hb,hg,_⟩
 ·simp [Value.ownBlock]
 ·simp only [Value.ownBlock,ne_eq,aQ0]
  intro e';subst e';rw [hg] at h;simp only [aQ0,aR8] at h;exact hte h.2.1.symm
theorem wA {A B:World} {row:Option Nat} (hg:A.grownBy B row) (hr:∀r,row=some r->∃o:Obj,A.heap[r]?=some o/\o.isCells=false) {b:Nat} {cs:Array Value} {t:TypeId} {fz:Nat×Nat} (h:A.heap[b]?=some (.cells cs t fz)):B.heap[b]?=some (.cells cs t fz):=
 (hg.block b (gI h) (fun e=>by obtain ⟨o,ho,hc⟩:=hr b e.symm;rw [h] at ho;cases ho;cases hc)).trans h
theorem Ext.others {A B:World} (h:Ext A B):KeepsOthers A B:=⟨h.size,fun _ _ hk _=>(h.block (gI hk)).trans hk⟩
structure RB {α : Type} (cs : α->List Value) (e:TypeId) (sz:Nat) (bt:TypeId) (bx:Value->List Value) (w:World) (Bt:Nat) (F:List (Nat×TypeId×List Value)) (W:World) (xs:List α):Prop where
 ext:Ext w W
 fx:∀p∈F,Blk W p.1 p.2.1 p.2.2
 tl:w.heap.size<=Bt
 tb:∃v,Blk W Bt bt (bx v)/\aF cs w.heap.size e sz W v xs
section
variable {α : Type} {cs : α -> List Value} {e : TypeId} {sz : Nat} {bt : TypeId} {bx : Value -> List Value} {w : World} {Bt : Nat} {F : List (Nat × TypeId × List Value)} {W : World} {xs : List α}
theorem RB.to (h:RB cs e sz bt bx w Bt F W xs) {W':World} (x:Ext W W'):RB cs e sz bt bx w Bt F W' xs:=by
 obtain ⟨v,h1,h2⟩:=h.tb;exact ⟨h.ext.trans x,fun p hp=>(h.fx p hp).ext x,h.tl,v,h1.ext x,h2.ext x⟩
theorem nV {A B:World} {row:Option Nat} (hg:A.grownBy B row) (hr:∀r,row=some r->∃o:Obj,A.heap[r]?=some o/\o.isCells=false) {b:Nat} {t:TypeId} {cs:List Value} (h:Blk A b t cs):Blk B b t cs:=wA hg hr h
theorem aF.owns {lo:Nat} {A B:World} {v:Value} (h:aF cs lo e sz A v xs) {row:Option Nat} (hg:A.grownBy B row) (hr:∀r,row=some r->∃o:Obj,A.heap[r]?=some o/\o.isCells=false):aF cs lo e sz B v xs:=by
 obtain ⟨h1,h2⟩:=h;refine ⟨h1,?_⟩
 rcases h2 with hn|⟨g,cap,cur,hv,hb,hgg,r⟩
 ·exact .inl hn
 ·exact .inr ⟨g,cap,cur,hv,hb,wA hg hr hgg,r⟩
theorem RB.owns {B0:Nat} (hB:w.heap.size<=B0) {β : Type} (f : β->List α):OwnFrom B0 (fun (b : β) W=>RB cs e sz bt bx w Bt F W (f b)):=fun b A B row h hg hr=>by
 have hr':∀r,row=some r->∃o:Obj,A.heap[r]?=some o/\o.isCells=false:=fun r e=>(hr r e).2;obtain ⟨v,h1,h2⟩:=h.tb;exact ⟨h.ext.grown hg (fun k e=>aQ5 hB (hr k e).1),fun p hp=>nV hg hr' (h.fx p hp),h.tl,v,nV hg hr' h1,h2.owns hg hr'⟩
theorem bT {A:World} {b:Nat} {t:TypeId} {us:List Value} (h:Blk A b t us) (hte:t≠e) {lo:Nat} {v:Value} (hr:aF cs lo e sz A v xs):some b≠v.ownBlock:=yZ h hte hr
theorem aF.setBlk {lo:Nat} {A:World} {b:Nat} {t:TypeId} {us:List Value} {v:Value} (h:aF cs lo e sz A v xs) (hb:Blk A b t us) (hte:t≠e) (q:Nat) (u:Value):aF cs lo e sz (A.setCell ⟨b,q,none⟩ u) v xs:=
 ownsRow_setCell_other h (fun e'=>bT hb hte h e'.symm) u
theorem RB.push {W5 W6 W7:World} {v v':Value} {xs':List α} (h:RB cs e sz bt bx w Bt F W5 xs) (hF:∀p∈F,p.2.1≠e/\p.1≠Bt) (hbt:bt≠e) (q:Nat) (hq:(bx v).set q v'=bx v')
  (hv:Blk W5 Bt bt (bx v)) (ho:aF cs w.heap.size e sz W5 v xs) (x6:Ext W5 W6) (hg:W6.grownBy W7 v.ownBlock) (hown:aF cs w.heap.size e sz W7 v' xs') :
  RB cs e sz bt bx w Bt F (W7.setCell ⟨Bt,q,none⟩ v') xs':=by
 have k:∀{b:Nat} {t:TypeId} {us:List Value},t≠e->Blk W5 b t us->Blk W7 b t us:=fun hte hb=>(hb.ext x6).grown hg (bT hb hte ho);have ht:=k hbt hv;have hE:Ext w W7:=(h.ext.trans x6).grown hg (fun k e=>(ho.lt k e).1);refine ⟨hE.setCell h.tl _,fun p hp=>(k (hF p hp).1 (h.fx p hp)).other (hF p hp).2 _,h.tl,v',?_,hown.setBlk ht hbt q v'⟩;rw [<-hq];exact ht.set q v'
theorem aBr {lo:Nat} {A A':World} {v:Value} (x:Ext A A') (ho:aF cs lo e sz A v xs):∀(j:Nat) (o':Obj),v.ownBlock=some j->A'.heap[j]?=some o'->o'.isCells=true:=by
 intro j o' hj h'
 rcases ho.2 with ⟨rfl,_⟩|⟨g,cap,cur,rfl,hb,hg,_⟩
 ·simp [Value.ownBlock] at hj
 ·simp only [Value.ownBlock,aQ0] at hj
  subst hj;rw [x.block (gI hg),hg] at h'
  cases h'
  rfl
end
end
def Rd {α : Type} (cs : α->List Value) (lo hi:Nat) (w:World) (v:Value) (ys:List α):Prop:=
 ∃ad c,v = .slice ad ys.length c/\ys.length<=c/\c<=9223372036854775807/\(ad=none->c=0)/\(ys=[]\/∃b off,ad=some ⟨b,off,none⟩/\lo<=b/\b<hi/\∀j u,(ys.flatMap cs)[j]?=some u->w.cell? ⟨b,off+j,none⟩=some u)
theorem Rd.same {α : Type} {cs : α->List Value} {ys:List α} (h:Rd cs lo hi w v ys) (s:aM lo hi w w'):Rd cs lo hi w' v ys:=by
 obtain ⟨ad,c,h1,h2,h3,h4,h5⟩:=h;refine ⟨ad,c,h1,h2,h3,h4,?_⟩
 rcases h5 with h5|⟨b,off,e,l1,l2,hc⟩
 ·exact .inl h5
 ·exact .inr ⟨b,off,e,l1,l2,fun j u hj=>(s.cell l1 l2).trans (hc j u hj)⟩
theorem Rd.ext {α : Type} {cs : α->List Value} {ys:List α} (h:Rd cs lo hi w v ys) (hh:hi<=w.heap.size) (e:Ext w w'):Rd cs lo hi w' v ys:=h.same (e.same hh)
theorem aF.rd {α : Type} {cs : α->List Value} {xs:List α} (h:aF cs lo e sz w v xs) (hc:∀x,(cs x).length=sz):Rd cs lo w.heap.size w v xs:=by
 obtain ⟨h1,h2⟩:=h
 rcases h2 with ⟨rfl,h4⟩|⟨g,cap,cur,rfl,hb,hg,hcap,hm,hs,ht⟩
 ·have:xs=[]:=List.eq_nil_of_length_eq_zero h4
  subst this;exact ⟨none,0,rfl,aQv _,by omega,fun _=>rfl,.inl rfl⟩
 ·refine ⟨_,cap,rfl,hcap,by unfold maxLen at hm;omega,(fun h=>nomatch h),.inr ⟨g,0,rfl,hb,(aRi.1 hg).1,fun j u hj=>?_⟩⟩
  have hl:=(aQz.1 hj).1;rw [gH hc] at hl;rw [<-ht,aS1,if_pos hl] at hj;simp only [aSy,hg,aRt]
  simpa using hj
theorem aF.freshC {α : Type} {cs : α->List Value} (hl:lo<=g) (h:Blk w g e []):aF cs lo e sz w (.slice (some ⟨g,0,none⟩) 0 0) []:=
 ⟨by simp,.inr ⟨g,0,#[],rfl,hl,h,aQv _,by unfold maxLen;omega,by simp,by simp⟩⟩
theorem Rd.nil {α : Type} (cs : α->List Value) (lo hi:Nat) (w:World):Rd cs lo hi w (.slice none 0 0) ([]:List α):=⟨none,0,rfl,aQv _,by omega,fun _=>rfl,.inl rfl⟩
theorem Rd.form {α : Type} {cs : α->List Value} {ys:List α} (h:Rd cs lo hi w v ys):∃ad c,v = .slice ad ys.length c/\ys.length<=c/\c<=9223372036854775807/\Rd cs lo hi w (.slice ad ys.length c) ys:=by
 obtain ⟨ad,c,rfl,h2,h3,h4⟩:=h;exact ⟨ad,c,rfl,h2,h3,_,c,rfl,h2,h3,h4⟩
theorem Rd.at {α : Type} {cs : α->List Value} (hc:∀x,(cs x).length=sz) {ad:Option Addr} {n c:Nat} {ys:List α} (h:Rd cs lo hi w (.slice ad n c) ys) {y : α} (hk:ys[k]?=some y) :
  ∃b off,ad=some ⟨b,off,none⟩/\lo<=b/\b<hi/\∀j,j<sz->w.cell? ⟨b,off+k*sz+j,none⟩=(cs y)[j]?:=by
 obtain ⟨h1,c',e,h2,h3,h4,h5⟩:=h;simp only [aRo] at e;obtain ⟨rfl,rfl,rfl⟩:=e
 rcases h5 with rfl|⟨b,off,rfl,l1,l2,hcell⟩
 ·cases hk
 refine ⟨b,off,rfl,l1,l2,fun j hj=>?_⟩;have e2:=mN (cs:=cs) (sz:=sz) hc hk j hj
 have h0:j<(cs y).length:=by rw [hc];exact hj
 rw [List.getElem?_eq_getElem h0] at e2 ⊢;rw [aSp];exact hcell _ _ e2
theorem cQ {α : Type} (cs : α->List Value) (e:TypeId) (sz bytes:Nat) (z:Value) (w:World) {rest:List Oper} {a:Act} (hg:o.guard=none) (s x:Operand) (t:TypeId)
  (hop:o.op=Op.call { callee:=Callee.builtin Builtin.append,args:=#[s,x],argTypes:=#[t,t] }) (ht:Tryz.prog.underlying t=some (.slice e))
  (hinfo:(Tryz.prog.info? e).map (fun i=>(i.zero,i.size,i.bytes))=some (some z,sz,bytes)) (hzs:z.cells.size=sz) (hsz:0<sz) (hby:bytes<=1000) (hc:∀x,(cs x).length=sz) (h1:∀y,∀u∈cs y,u.oneCell'=true)
  (lo:Nat) (v:Value) (xs:List α) (hs:a.eval s=v) (hown:aF cs lo e sz w v xs)
  (lo2 hi2:Nat) (u:Value) (ys:List α) (hx:a.eval x=u) (hu:Rd cs lo2 hi2 w u ys) (hlen:xs.length+ys.length<=10000000) (hlo:lo<=w.heap.size)
  (hK:∀v' w',aF cs lo e sz w' v' (xs++ys)->w.grownBy w' v.ownBlock->wpList aQ2 ops Q rest (a.put o.dst v') w'):wpList aQ2 ops Q (o::rest) a w:=by
 obtain ⟨i0,h7,h9,q0,q1⟩:=info_parts hinfo;obtain ⟨ad,c,rfl,h2,h3,h4,h5⟩:=hu
 cases ad with
 | none=>
  have hy:ys=[]:=by
   rcases h5 with h5|⟨b,off,e',_⟩
   ·exact h5
   ·cases e'
  have h8:=h4 rfl;subst hy h8;have hr:=run_append_owned_none (w:=w) lo t o.type e i0 sz ht h7 v xs.length _ hown;refine wpList_plain hg fun _ hK'=>?_;unfold aW3 execOp;simp only [hop,resolve,invoke,builtin,Sem.run_bind,Sem.run_pure,Result.andThen_ok,List.map_toArray,aS4,aV7,hs,hx,aS7,hr];exact hK' _ _ (hK v w (by rw [aTo];exact hown) (grownBy.refl _ _))
 | some ad=>
  refine wpList_append_own w hg s x t hop lo e i0 z sz bytes ht h7 h9 q0 q1 hzs hsz v xs.length _ hs hown ad ys.length c (ys.flatMap cs) hx (gH hc ys) ?_ ?_ ?_ ?_ hlo ?_
  ·intro j q hj
   rcases h5 with rfl|⟨b,off,e',l1,l2,hcell⟩
   ·cases hj
   ·cases e'
    have ea:(⟨b,off,none⟩:Addr).add j=⟨b,off+j,none⟩:=by
     unfold Addr.add
     split <;> simp_all
    rw [ea];exact hcell j q hj
  ·intro q hq
   obtain ⟨y,hy,hq⟩:=List.mem_flatMap.1 hq;exact h1 y q hq
  ·unfold maxLen;omega
  ·have:(xs.length+ys.length)*bytes<=10000000*1000:=aRy hlen hby
   omega
  ·intro v' w1 h6 h0 _
   refine hK v' w1 ?_ h0;unfold aF;rw [aRq,aSa];exact h6
def Off (v:Value) (l h:Nat):Prop:=∀k,v.ownBlock=some k->k<l\/h<=k
def dJ (lo:Nat) (w:World) (v v2:Value) (rows:List (List Int)):Prop:=
 ∃us:List Value,us.length=rows.length/\aF (fun u=>[u]) lo 24 1 w v us/\∀(k:Nat) (u:Value) (r:List Int),us[k]?=some u->rows[k]?=some r->∃l h,lo<=l/\h<=w.heap.size/\aU l h w u r/\Off v l h/\Off v2 l h
theorem dJ.ext {rows:List (List Int)} (h:dJ lo w v v2 rows) (x:Ext w w'):dJ lo w' v v2 rows:=by
 obtain ⟨us,h1,h2,h3⟩:=h;refine ⟨us,h1,h2.ext x,fun k u r hu hr=>?_⟩;obtain ⟨l,h,a0,a1,a2,a3,a4⟩:=h3 k u r hu hr;exact ⟨l,h,a0,aQ5 a1 x.size,a2.ext a1 x,a3,a4⟩
theorem dJ.low {rows:List (List Int)} (h:dJ lo w v v2 rows) (hl:lo'<=lo):dJ lo' w v v2 rows:=by
 obtain ⟨us,h1,h2,h3⟩:=h;refine ⟨us,h1,h2.low hl,fun k u r hu hr=>?_⟩;obtain ⟨l,h,a0,a⟩:=h3 k u r hu hr;exact ⟨l,h,aQ5 hl a0,a⟩
theorem dJ.nil (h:aF (fun u:Value=>[u]) lo 24 1 w v []):dJ lo w v v2 []:=
 ⟨[],rfl,h,fun k u r hu _=>by simp at hu⟩
theorem dJ.ints {rows:List (List Int)} (h:dJ lo w v v2 rows):∃us:List Value,us.length=rows.length/\Rd (fun u=>[u]) lo w.heap.size w v us/\∀(k:Nat) (u:Value) (r:List Int),us[k]?=some u->rows[k]?=some r->aU 0 w.heap.size w u r:=by
 obtain ⟨us,h1,h2,h3⟩:=h;refine ⟨us,h1,h2.rd (fun _=>rfl),fun k u r hu hr=>?_⟩;obtain ⟨l,h,-,a1,a2,-,-⟩:=h3 k u r hu hr;exact a2.wide (aSi _) a1
theorem aU.grown {l h:Nat} {u:Value} {r:List Int} (hi:aU l h w u r) (hh:h<=w.heap.size) {row:Option Nat} (hg:w.grownBy w' row) (ho:∀k,row=some k->k<l\/h<=k):aU l h w' u r:=
 hi.same fun k h1 h2=>hg.block k (by omega) fun e=>by
  have:=ho k e.symm;omega
theorem dJ.push {v' u:Value} {rows:List (List Int)} {r:List Int} {us:List Value} (h1:us.length=rows.length)
  (h3:∀(k:Nat) (u:Value) (r:List Int),us[k]?=some u->rows[k]?=some r->∃l h,lo<=l/\h<=w.heap.size/\aU l h w u r/\Off v l h/\Off v2 l h)
  (hg:w.grownBy w' v.ownBlock) (hown:aF (fun u=>[u]) lo 24 1 w' v' (us++[u])) (hn:∀k,v'.ownBlock=some k->v.ownBlock=some k\/w.heap.size<=k)
 {l h:Nat} (hlo:lo<=l) (hh:h<=w.heap.size) (hu:aU l h w u r) (o1:Off v l h) (o2:Off v2 l h):dJ lo w' v' v2 (rows++[r]):=by
 have h0:∀{l h:Nat},h<=w.heap.size->Off v l h->Off v' l h:=fun hh o k e=>by
  rcases hn k e with e1|e1
  ·exact o k e1
  ·omega
 refine ⟨us++[u],by simp [h1],hown,fun k u' r' hu' hr'=>?_⟩
 rcases Nat.lt_or_ge k us.length with hk|hk
 ·rw [aSb hk] at hu'
  rw [aSb (by omega)] at hr';obtain ⟨l',h',a0,a1,a2,a3,a4⟩:=h3 k u' r' hu' hr';exact ⟨l',h',a0,aQ5 a1 hg.size,a2.grown a1 hg a3,h0 a1 a3,a4⟩
 ·rw [aR0 hk] at hu'
  rw [aR0 (by omega)] at hr'
  obtain ⟨i,hi⟩:∃i,k - us.length=i:=⟨_,rfl⟩
  rw [hi] at hu';rw [show k - rows.length=i by omega] at hr'
  cases i with
  | zero=>
   simp only [aQw,aQ0] at hu' hr';subst hu' hr';exact ⟨l,h,hlo,aQ5 hh hg.size,hu.grown hh hg o1,h0 hh o1,o2⟩
  | succ i=>simp at hu'
theorem dJ.beside {v2':Value} {rows:List (List Int)} (hr:dJ lo w v v2 rows) (hg:w.grownBy w' v2.ownBlock) (hn:∀k,v2'.ownBlock=some k->v2.ownBlock=some k\/w.heap.size<=k)
  (hk:∀us:List Value,aF (fun u=>[u]) lo 24 1 w v us->aF (fun u=>[u]) lo 24 1 w' v us):dJ lo w' v v2' rows:=by
 obtain ⟨us,h1,h2,h3⟩:=hr;refine ⟨us,h1,hk us h2,fun k u r hu hr=>?_⟩;obtain ⟨l,h,a0,a1,a2,a3,a4⟩:=h3 k u r hu hr;refine ⟨l,h,a0,aQ5 a1 hg.size,a2.grown a1 hg a4,a3,fun k e=>?_⟩
 rcases hn k e with e1|e1
 ·exact a4 k e1
 ·omega
theorem dJ.setLow {rows:List (List Int)} (h:dJ lo w v v2 rows) {p:Addr} (hp:p.block<lo) (x:Value):dJ lo (w.setCell p x) v v2 rows:=by
 obtain ⟨us,h1,h2,h3⟩:=h;refine ⟨us,h1,aF.of h2 fun b c hb hc=>(aQ7 _ _ _ _ (by omega)).trans hc,fun k u r hu hr=>?_⟩;obtain ⟨l,h,a0,a1,a2,a3,a4⟩:=h3 k u r hu hr;exact ⟨l,h,a0,by rw [aSg];exact a1,a2.same (fun k k1 k2=>aQ7 _ _ _ _ (by omega)),a3,a4⟩
def cl (n:Int):Int:=aR n (-1000000) 1000000
theorem nW (h:cl n=c) (w:World):Z_ 250 #[n] w (.int .i64 c):=by
 go_enter func250,ntmps250;go_wp2_with fail;refine z_ (dY h _) ?_;go_wp2;go_ret;exact ⟨rfl,rfl⟩
theorem vD (h:cl n=c) (w:World):Z_ 244 #[n] w (.int .i64 c):=by
 go_enter func244,ntmps244;go_wp2_with fail;refine z_ (cV h _) ?_;go_wp2;go_ret;exact ⟨rfl,rfl⟩
theorem zB (ha:cl x=a) (hb:cl y=b) (hc:cl z=c) (w:World) :
  R_ 249 #[.agg #[x,y,z],.func (.func 250) #[] #[]] w (.agg #[a,b,c]):=by
 have HA:=hid ha;have HB:=hid hb;have HC:=hid hc;clear ha hb hc;go_enter func249,ntmps249;go_wp2;refine aA [([0,1,2,4,5,6,8,9,10],3),([],7),([],11),([12],13)] 13 (w.heap.size+1+1) (by kernel_rfl) (by kernel_rfl) ?_;refine st_ fun K hK=>?_;go_wp2_with fail;refine z_ (nW HA _) ?_;go_wp2_with fail;refine hK _ _ (.inr (fun b _ hb=>aRa X_ (by simp;omega))) ?_;clear hK K;refine st_ fun K hK=>?_;go_wp2_with fail;refine z_ (nW HB _) ?_;go_wp2_with fail;refine hK _ _ (.inr (fun b _ hb=>aRa X_ (by simp;omega))) ?_;clear hK K;refine st_ fun K hK=>?_;go_wp2_with fail;refine z_ (nW HC _) ?_;go_wp2_with fail;refine hK _ _ (.inr (fun b _ hb=>aRa X_ (by simp;omega))) ?_;clear hK K;refine aI ?_;simp only [aRm,aRg,aQ1,aQw,aQx]
 show wpQuiet _ _ _ _ [_] _
 try simp only [aSj,aQ4,aRc,aRb]
 repeat (go_big_quiet_step (fail))
 refine wpQuiet_nil ⟨_,rfl,fun K hK=>?_⟩;go_wp2_with fail;refine hK _ _ (.inl (by trivial)) (aC ?_);clear hK K;go_wp2;exact bodyPost_ret (v:=.agg #[a,b,c]) (by simp [results,results249,go_sem, *]) rfl ⟨rfl,S_⟩
theorem eP (ha:cl x=a) (hb:cl y=b) (hc:cl z=c) (w:World) :
  R_ 219 #[.agg #[x,y,z]] w (.agg #[a,b,c]):=by
 go_enter func219,ntmps219;go_wp2_with fail;refine r_ (zB ha hb hc _) fun w1 h1=>?_;obtain ⟨c1,f1⟩:=h1.cells;have z1:=h1.size;simp only [aQy] at z1
 have q0:w.heap.size<w1.heap.size:=by omega
 have q1:w.heap.size+1<w1.heap.size:=by omega
 have E1:Ext w w1:=aQ3 X_ h1;go_wp2;exact bodyPost_ret (v:=.agg #[a,b,c]) (by simp [results,results219,go_sem, *]) rfl ⟨rfl,S_⟩
theorem jE (ha:cl x=a) (hb:cl y=b) (hc:cl z=c) (w:World) :
  R_ 230 #[.agg #[x,y,z]] w (.agg #[a,b,c]):=by
 have HA:=hid ha;have HB:=hid hb;have HC:=hid hc;clear ha hb hc;go_enter func230,ntmps230;go_wp2;refine aA [([0,1,3,4,6,7],2),([],5),([],8),([9],10)] 10 (w.heap.size+1+1) (by kernel_rfl) (by kernel_rfl) ?_;refine st_ fun K hK=>?_;go_wp2_with fail;refine z_ (vD HA _) ?_;go_wp2_with fail;refine hK _ _ (.inr (fun b _ hb=>aRa X_ (by simp;omega))) ?_;clear hK K;refine st_ fun K hK=>?_;go_wp2_with fail;refine z_ (vD HB _) ?_;go_wp2_with fail;refine hK _ _ (.inr (fun b _ hb=>aRa X_ (by simp;omega))) ?_;clear hK K;refine st_ fun K hK=>?_;go_wp2_with fail;refine z_ (vD HC _) ?_;go_wp2_with fail;refine hK _ _ (.inr (fun b _ hb=>aRa X_ (by simp;omega))) ?_;clear hK K;refine aI ?_;simp only [aRm,aRg,aQ1,aQw,aQx]
 show wpQuiet _ _ _ _ [_] _
 try simp only [aSj,aQ4,aRc,aRb]
 repeat (go_big_quiet_step (fail))
 refine wpQuiet_nil ⟨_,rfl,fun K hK=>?_⟩;go_wp2_with fail;refine hK _ _ (.inl (by trivial)) (aC ?_);clear hK K;go_wp2;exact bodyPost_ret (v:=.agg #[a,b,c]) (by simp [results,results230,go_sem, *]) rfl ⟨rfl,S_⟩
theorem qM (h:wrap64 (m+n)=c) (w:World):Z_ 248 #[m,n] w (.int .i64 c):=by
 go_enter func248,ntmps248;go_wp2;go_ret;exact ⟨cS h,rfl⟩
theorem qN {k:Int} (hn:I64 n) (h:bI n k=c) (w:World) (hp:w.cell? ⟨p,0,none⟩=some (.int .i64 k)):Z_ 252 #[n,.pointer (some ⟨p,0,none⟩)] w (.int .i64 c):=by
 have HN:=hid hn;have H:=hid h;clear hn h;go_enter func252,ntmps252;go_wp2_with fail;refine z_ (cD HN H _) ?_;go_wp2;go_ret;exact ⟨rfl,rfl⟩
theorem aBs {k:Int} (ha:wrap64 (x+k)=a) (hb:wrap64 (y+l)=b) (hc:wrap64 (z+m)=c) (w:World) :
  R_ 247 #[.agg #[x,y,z],.agg #[k,l,m],.func (.func 248) #[] #[]] w (.agg #[a,b,c]):=by
 have HA:=hid ha;have HB:=hid hb;have HC:=hid hc;clear ha hb hc;go_enter func247,ntmps247;go_wp2;refine aA [([0,1,2,3,4,6,7,8,9,10,12,13,14,15,16],5),([],11),([],17),([18],19)] 19 (w.heap.size+1+1+1) (by kernel_rfl) (by kernel_rfl) ?_;refine st_ fun K hK=>?_;go_wp2_with fail;refine z_ (qM HA _) ?_;go_wp2_with fail;refine hK _ _ (.inr (fun b _ hb=>aRa X_ (by simp;omega))) ?_;clear hK K;refine st_ fun K hK=>?_;go_wp2_with fail;refine z_ (qM HB _) ?_;go_wp2_with fail;refine hK _ _ (.inr (fun b _ hb=>aRa X_ (by simp;omega))) ?_;clear hK K;refine st_ fun K hK=>?_;go_wp2_with fail;refine z_ (qM HC _) ?_;go_wp2_with fail;refine hK _ _ (.inr (fun b _ hb=>aRa X_ (by simp;omega))) ?_;clear hK K;refine aI ?_;simp only [aRm,aRg,aQ1,aQw,aQx]
 show wpQuiet _ _ _ _ [_] _
 try simp only [aSj,aQ4,aRc,aRb]
 repeat (go_big_quiet_step (fail))
 refine wpQuiet_nil ⟨_,rfl,fun K hK=>?_⟩;go_wp2_with fail;refine hK _ _ (.inl (by trivial)) (aC ?_);clear hK K;go_wp2;exact bodyPost_ret (v:=.agg #[a,b,c]) (by simp [results,results247,go_sem, *]) rfl ⟨rfl,S_⟩
theorem nX {k:Int} (ha:wrap64 (x+k)=a) (hb:wrap64 (y+l)=b) (hc:wrap64 (z+m)=c) (w:World) :
  R_ 218 #[.agg #[x,y,z],.agg #[k,l,m]] w (.agg #[a,b,c]):=by
 have HA:=hid ha;have HB:=hid hb;have HC:=hid hc;clear ha hb hc;go_enter func218,ntmps218;go_wp2_with fail;refine r_ (aBs HA HB HC _) fun w1 h1=>?_;obtain ⟨c1,f1⟩:=h1.cells;have z1:=h1.size;simp only [aQy] at z1
 have q2:w.heap.size+1+1<w1.heap.size:=by omega
 have E1:Ext w w1:=aQ3 X_ h1;go_wp2;exact bodyPost_ret (v:=.agg #[a,b,c]) (by simp [results,results218,go_sem, *]) rfl ⟨rfl,S_⟩
theorem aBt {k:Int} (hx:I64 x) (hy:I64 y) (hz:I64 z) (ha:bI x k=a) (hb:bI y k=b) (hc:bI z k=c) (w:World) (hp:w.cell? ⟨p,0,none⟩=some (.int .i64 k)) (hlt:p<w.heap.size) :
  R_ 249 #[.agg #[x,y,z],.func (.func 252) #[] #[.pointer (some ⟨p,0,none⟩)]] w (.agg #[a,b,c]):=by
 have HA:=hid ha;have HB:=hid hb;have HC:=hid hc;have KX:=hid hx;have KY:=hid hy;have KZ:=hid hz;have HP:=hid hp;clear ha hb hc hx hy hz hp;go_enter func249,ntmps249;go_wp2;refine aA [([0,1,2,4,5,6,8,9,10],3),([],7),([],11),([12],13)] 13 (w.heap.size+1+1) (by kernel_rfl) (by kernel_rfl) ?_;refine st_ fun K hK=>?_;go_wp2_with fail;refine z_ (qN KX HA _ ((aX6 (w:=w) X_).1 _ _ hlt |>.trans HP)) ?_;go_wp2_with fail;refine hK _ _ (.inr (fun b _ hb=>aRa X_ (by simp;omega))) ?_;clear hK K;refine st_ fun K hK=>?_;go_wp2_with fail;refine z_ (qN KY HB _ ((aX6 (w:=w) X_).1 _ _ hlt |>.trans HP)) ?_;go_wp2_with fail;refine hK _ _ (.inr (fun b _ hb=>aRa X_ (by simp;omega))) ?_;clear hK K;refine st_ fun K hK=>?_;go_wp2_with fail;refine z_ (qN KZ HC _ ((aX6 (w:=w) X_).1 _ _ hlt |>.trans HP)) ?_;go_wp2_with fail;refine hK _ _ (.inr (fun b _ hb=>aRa X_ (by simp;omega))) ?_;clear hK K;refine aI ?_;simp only [aRm,aRg,aQ1,aQw,aQx]
 show wpQuiet _ _ _ _ [_] _
 try simp only [aSj,aQ4,aRc,aRb]
 repeat (go_big_quiet_step (fail))
 refine wpQuiet_nil ⟨_,rfl,fun K hK=>?_⟩;go_wp2_with fail;refine hK _ _ (.inl (by trivial)) (aC ?_);clear hK K;go_wp2;exact bodyPost_ret (v:=.agg #[a,b,c]) (by simp [results,results249,go_sem, *]) rfl ⟨rfl,S_⟩
theorem aDf {k:Int} (hx:I64 x) (hy:I64 y) (hz:I64 z) (ha:bI x k=a) (hb:bI y k=b) (hc:bI z k=c) (w:World) :
  R_ 221 #[.agg #[x,y,z],k] w (.agg #[a,b,c]):=by
 have HA:=hid ha;have HB:=hid hb;have HC:=hid hc;have KX:=hid hx;have KY:=hid hy;have KZ:=hid hz;clear ha hb hc hx hy hz;have h0:∀(fn:Fn) (first cap:Array Value) (w:World),(aV1 fn first cap).run aQ2 w = .ok (.func fn first cap) w:=fun _ _ _ _=>rfl;go_enter func221,ntmps221;go_wp2_with fail;refine r_ (aBt KX KY KZ HA HB HC _ (by simp [go_sem]) (by simp)) fun w1 h1=>?_;obtain ⟨c1,f1⟩:=h1.cells;have z1:=h1.size;simp only [aQy] at z1
 have q2:w.heap.size+1+1<w1.heap.size:=by omega
 have E1:Ext w w1:=aQ3 X_ h1;go_wp2;exact bodyPost_ret (v:=.agg #[a,b,c]) (by simp [results,results221,go_sem, *]) rfl ⟨rfl,S_⟩
theorem cM (n:Int) : -1000000<=cl n/\cl n<=1000000:=by
 unfold cl aR
 split
 ·omega
 ·split <;> omega
def cU (x y z:Int):Bool:=inB x (-1000000) 1000000&&inB y (-1000000) 1000000&&inB z (-1000000) 1000000
theorem aOb (n:Int):(n=cl n)↔inB n (-1000000) 1000000=true:=by
 rw [aG];unfold cl aR
 split
 ·omega
 ·split <;> omega
theorem aAg (x y z a b c:Int) (w:World):(binOp .eql 122 (.agg #[x,y,z]) (.agg #[a,b,c])).run aQ2 w = .ok (.bool (decide (x=a)&&(decide (y=b)&&decide (z=c)))) w:=by
 by_cases h1:x=a
 ·by_cases h2:y=b
  ·by_cases h3:z=c <;> simp [go_sem,underlying122,aX0,underlying3,h1,h2,h3]
  ·simp [go_sem,underlying122,aX0,underlying3,h1,h2]
 ·simp [go_sem,underlying122,aX0,underlying3,h1]
theorem aDg (x y z:Int):(decide (x=cl x)&&(decide (y=cl y)&&decide (z=cl z)))=cU x y z:=by
 simp only [aOb,cU,Bool.decide_eq_true,Bool.and_assoc]
theorem dM (w:World) :
  R_ 202 #[.agg #[x,y,z]] w (.bool (cU x y z)):=by
 obtain ⟨a,ha⟩:∃a,cl x=a:=⟨_,rfl⟩
 obtain ⟨b,hb⟩:∃a,cl y=a:=⟨_,rfl⟩
 obtain ⟨c,hc⟩:∃a,cl z=a:=⟨_,rfl⟩
 have HA:=hid ha;have HB:=hid hb;have HC:=hid hc;have HO:=hid (show (decide (x=a)&&(decide (y=b)&&decide (z=c)))=cU x y z by rw [<-ha,<-hb,<-hc];exact aDg x y z);clear ha hb hc;have hq:=fun w=>aAg x y z a b c w;go_enter func202,ntmps202;go_wp2;refine cK (by kernel_rfl) (by kernel_rfl) ?_
 repeat (go_big_quiet_step ((go_at_call 219;exact cE (eP HA HB HC _))))
 refine wpQuiet_nil ?_;intro w1 h1;go_wp2;go_ret;exact ⟨aL HO,aQ3 X_ h1⟩
theorem dN (w:World) :
  R_ 190 #[.agg #[x,y,z]] w (.bool (cU x y z)):=by
 obtain ⟨a,ha⟩:∃a,cl x=a:=⟨_,rfl⟩
 obtain ⟨b,hb⟩:∃a,cl y=a:=⟨_,rfl⟩
 obtain ⟨c,hc⟩:∃a,cl z=a:=⟨_,rfl⟩
 have HA:=hid ha;have HB:=hid hb;have HC:=hid hc;have HO:=hid (show (decide (x=a)&&(decide (y=b)&&decide (z=c)))=cU x y z by rw [<-ha,<-hb,<-hc];exact aDg x y z);clear ha hb hc;have hq:=fun w=>aAg x y z a b c w;go_enter func190,ntmps190;go_wp2;refine cK (by kernel_rfl) (by kernel_rfl) ?_
 repeat (go_big_quiet_step ((go_at_call 230;exact cE (jE HA HB HC _))))
 refine wpQuiet_nil ?_;intro w1 h1;go_wp2;go_ret;exact ⟨aL HO,aQ3 X_ h1⟩
structure V3 where
 (x y z:Int)
def V3.V (t:V3):Value:=.agg #[t.x,t.y,t.z]
structure Cam where
 (w h zoom near:Int)
 deep:Bool
 (lens focus:Int)
instance:Coe Cam (List Value):=⟨fun c=>[.int .i64 c.w,.int .i64 c.h,.int .i64 c.zoom,.int .i64 c.near,.bool c.deep,.int .i64 c.lens,.int .i64 c.focus]⟩
instance:Coe Cam (Array Value):=⟨fun c=>#[.int .i64 c.w,.int .i64 c.h,.int .i64 c.zoom,.int .i64 c.near,.bool c.deep,.int .i64 c.lens,.int .i64 c.focus]⟩
def Cam.V (c:Cam):Value:=.agg c
def Cam.I (c:Cam):Prop:=I64 c.w/\I64 c.h/\I64 c.zoom/\I64 c.near/\I64 c.lens/\I64 c.focus
def Cam.okB (c:Cam):Bool:=inB c.w 1 12&&inB c.h 1 12&&inB c.zoom 1 65536&&inB c.near 1 1000000&&inB c.lens 0 64&&inB c.focus 0 1000000
structure Cam.Ok (c:Cam):Prop where
 w:1<=c.w/\c.w<=12
 h:1<=c.h/\c.h<=12
 zoom:1<=c.zoom/\c.zoom<=65536
 near:1<=c.near/\c.near<=1000000
 lens:0<=c.lens/\c.lens<=64
 focus:0<=c.focus/\c.focus<=1000000
theorem Cam.okB_iff {c:Cam}:c.okB=true↔c.Ok:=by
 unfold Cam.okB;simp only [aRd,aG];exact ⟨fun ⟨⟨⟨⟨⟨a,b⟩,d⟩,e⟩,f⟩,g⟩=>⟨a,b,d,e,f,g⟩,fun h=>⟨⟨⟨⟨⟨h.w,h.h⟩,h.zoom⟩,h.near⟩,h.lens⟩,h.focus⟩⟩
def sc (n:Int):Int:=aR n (-100000) 100000
theorem aNo (n:Int) : -100000<=sc n/\sc n<=100000:=by
 unfold sc aR
 split
 ·omega
 ·split <;> omega
theorem aBu (h : -100000<=n/\n<=100000):sc n=n:=by
 unfold sc aR;rw [if_neg (by omega),if_neg (by omega)]
def Cam.by (c:Cam) (z:Int):Int:=if c.deep then z else 256
def Cam.pj (c:Cam) (x z l half:Int):Int:=sc (bI ((x+bI (l*c.lens*(z - c.focus)) 4096)*c.zoom) (c.by z)+half)
def Cam.prB (c:Cam) (v:V3) (lx ly:Int):Bool:=c.okB&&cU v.x v.y v.z&&inB lx (-16) 16&&inB ly (-16) 16&&decide (c.near<=v.z)
def Cam.pr (c:Cam) (v:V3) (lx ly:Int):V3:=⟨c.pj v.x v.z lx (c.w*8),c.pj v.y v.z ly (c.h*8),v.z⟩
def evC (a b c d i j n:Int):Int:=bI (cl a*((n - i)*(n - j))+cl b*(i*(n - j))+cl c*((n - i)*j)+cl d*(i*j)) (n*n)
def evP (f:Nat->Int) (i j n:Int):V3:=⟨evC (f 0) (f 3) (f 6) (f 9) i j n,evC (f 1) (f 4) (f 7) (f 10) i j n,evC (f 2) (f 5) (f 8) (f 11) i j n⟩
def gJ (a b i n:Int):Int:=bI (cl a*(n - i)+cl b*i) n
def aY (f g:Nat->Int) (t:Int):Nat->Int:=fun j=>gJ (f j) (g j) t 16
def aX (a b s:V3):Int:=(b.x - a.x)*(s.y - a.y) - (b.y - a.y)*(s.x - a.x)
def dB (a b s:V3):Bool:=decide (0<aX a b s)||(aX a b s==0&&(decide (b.y<a.y)||(b.y==a.y&&decide (a.x<b.x))))
def qO (a b c s:V3):Bool:=
 if aX a b c=0 then false else if aX a b c<0 then dB a c s&&dB c b s&&dB b a s else dB a b s&&dB b c s&&dB c a s
def eC (a b c s:V3):Int:=bI (a.z*fT (aX b c s)+b.z*fT (aX c a s)+c.z*fT (aX a b s)) (fT (aX a b c))
structure aO where
 (d s c col al:Int)
def aO.cs (f:aO):List Value:=[f.d,f.s,f.c,f.col,f.al]
structure Smp where
 (x y t lx ly:Int)
def Smp.at (s:Smp):V3:=⟨s.x,s.y,0⟩
def Smp.okB (c:Cam) (s:Smp):Bool:=c.okB&&inB s.x 0 (c.w*16 - 1)&&inB s.y 0 (c.h*16 - 1)&&inB s.t 0 15&&inB s.lx (-16) 16&&inB s.ly (-16) 16
def lN (c:Cam) (f:Nat->Int) (n:Nat) (s:Smp) (u v:Nat):Bool:=c.prB (evP f (u:Nat) (v:Nat) (n:Nat)) s.lx s.ly
def cW (c:Cam) (f:Nat->Int) (n:Nat) (s:Smp) (u v:Nat):V3:=c.pr (evP f (u:Nat) (v:Nat) (n:Nat)) s.lx s.ly
def lO (c:Cam) (f:Nat->Int) (n:Nat) (s:Smp) (u v:Nat):Bool:=lN c f n s u v&&lN c f n s (u+1) v&&lN c f n s u (v+1)&&lN c f n s (u+1) (v+1)
def aIj (a b d s:V3) (k cell col al:Int):List aO:=if qO a b d s then [⟨eC a b d s,k,cell,col,al⟩] else []
def aAh (c:Cam) (f:Nat->Int) (n:Nat) (s:Smp) (k:Int) (cols als:List Int) (u v:Nat):List aO:=
 if lO c f n s u v then
  aIj (cW c f n s u v) (cW c f n s (u+1) v) (cW c f n s u (v+1)) s.at k ((v*n+u:Nat):Int) (cols.getD (v*n+u) 0) (als.getD (v*n+u) 0) ++
  aIj (cW c f n s (u+1) v) (cW c f n s (u+1) (v+1)) (cW c f n s u (v+1)) s.at k ((v*n+u:Nat):Int) (cols.getD (v*n+u) 0) (als.getD (v*n+u) 0)
 else []
def qP (c:Cam) (f:Nat->Int) (n:Nat) (s:Smp) (k:Int) (cols als:List Int) (q:Nat):List aO:=(aRl q).flatMap fun i=>aAh c f n s k cols als (i % n) (i / n)
def tY (c:Cam) (f:Nat->Int) (n:Nat) (s:Smp) (k:Int) (cols als:List Int):List aO:=qP c f n s k cols als (n*n)
theorem aDh (c:Cam) (f:Nat->Int) (n:Nat) (s:Smp) (k:Int) (cols als:List Int) (q:Nat) :
  qP c f n s k cols als (q+1)=qP c f n s k cols als q++aAh c f n s k cols als (q % n) (q / n):=by
 unfold qP;rw [aS9,aSa];simp
theorem aMa {s:Int} (hd:1<=d) (h:m*d<=s):m<=bI s d:=by
 unfold bI;rw [if_neg (by omega)];exact (aWt (by omega)).2 h
theorem aMb {s:Int} (hd:1<=d) (h:s<=m*d):bI s d<=m:=by
 unfold bI;rw [if_neg (by omega)];exact aXa (by omega) h
theorem wts (i j n:Int):(n - i)*(n - j)+i*(n - j)+(n - i)*j+i*j=n*n:=by grind
theorem tZ {w:Int} (hw:0<=w) (h:m<=x):m*w<=x*w:=Int.mul_le_mul_of_nonneg_right h hw
theorem aJ6 (hn:1<=n) (hi:0<=i/\i<=n) (hj:0<=j/\j<=n) (ha:m<=cl a) (hb:m<=cl b) (hc:m<=cl c) (hd:m<=cl d):m<=evC a b c d i j n:=by
 have p1:0<=(n - i)*(n - j):=aSv (by omega) (by omega);have p2:0<=i*(n - j):=aSv (by omega) (by omega);have p3:0<=(n - i)*j:=aSv (by omega) (by omega);have p4:0<=i*j:=aSv (by omega) (by omega);have e:=wts i j n
 have h0:1<=n*n:=by have:=aYa hn hn (by omega) (by omega);omega
 refine aMa h0 ?_;rw [<-e];have q1:=tZ p1 ha;have q2:=tZ p2 hb;have q3:=tZ p3 hc;have q4:=tZ p4 hd;rw [aWp,aWp,aWp];omega
theorem aJ7 (hn:1<=n) (hi:0<=i/\i<=n) (hj:0<=j/\j<=n) (ha:cl a<=m) (hb:cl b<=m) (hc:cl c<=m) (hd:cl d<=m):evC a b c d i j n<=m:=by
 have p1:0<=(n - i)*(n - j):=aSv (by omega) (by omega);have p2:0<=i*(n - j):=aSv (by omega) (by omega);have p3:0<=(n - i)*j:=aSv (by omega) (by omega);have p4:0<=i*j:=aSv (by omega) (by omega);have e:=wts i j n
 have h0:1<=n*n:=by have:=aYa hn hn (by omega) (by omega);omega
 refine aMb h0 ?_;rw [<-e];have q1:=tZ p1 ha;have q2:=tZ p2 hb;have q3:=tZ p3 hc;have q4:=tZ p4 hd;rw [aWp,aWp,aWp];omega
theorem rN (h : -1000000<=x/\x<=1000000):cl x=x:=by
 unfold cl aR;rw [if_neg (by omega),if_neg (by omega)]
theorem aIk (a b c s:V3):aX b c s+aX c a s+aX a b s=aX a b c:=by
 unfold aX;grind
theorem aFo (a b s:V3):aX b a s = - aX a b s:=by
 unfold aX;grind
theorem lP {a b s:V3} (h:dB a b s=true):0<=aX a b s:=by
 unfold dB at h;simp only [aVt,decide_eq_true_eq,aRd,beq_iff_eq] at h
 rcases h with h|h <;> omega
theorem dG:0<=fT x/\(0<=x->fT x=x)/\(x<=0->fT x = -x):=by
 unfold fT
 split
 ·exact ⟨by omega,fun _=>by omega,fun _=>rfl⟩
 ·exact ⟨by omega,fun _=>rfl,fun _=>by omega⟩
theorem aJ8 {a b c s:V3} (h:qO a b c s=true):1<=fT (aX a b c)/\fT (aX b c s)+fT (aX c a s)+fT (aX a b s)=fT (aX a b c):=by
 unfold qO at h;have e:=aIk a b c s
 split at h
 ·cases h
 rename_i h0
 split at h
 ·rename_i h1
  simp only [aRd] at h;have p1:=lP h.1.1;have p2:=lP h.1.2;have p3:=lP h.2;rw [aFo] at p1 p2 p3;rw [(dG (x:=aX a b c)).2.2 (by omega),(dG (x:=aX b c s)).2.2 (by omega),(dG (x:=aX c a s)).2.2 (by omega),(dG (x:=aX a b s)).2.2 (by omega)];omega
 ·rename_i h1
  simp only [aRd] at h;have p1:=lP h.1.1;have p2:=lP h.1.2;have p3:=lP h.2;rw [(dG (x:=aX a b c)).2.1 (by omega),(dG (x:=aX b c s)).2.1 (by omega),(dG (x:=aX c a s)).2.1 (by omega),(dG (x:=aX a b s)).2.1 (by omega)];omega
theorem bL {A B:Int} (h1 : -A<=a/\a<=A) (h2 : -B<=b/\b<=B) : -(A*B)<=a*b/\a*b<=A*B:=by
 have p1:=aSv (show 0<=A - a by omega) (show 0<=B - b by omega);have p2:=aSv (show 0<=A+a by omega) (show 0<=B+b by omega);have p3:=aSv (show 0<=A - a by omega) (show 0<=B+b by omega);have p4:=aSv (show 0<=A+a by omega) (show 0<=B - b by omega)
 constructor
 ·grind
 ·grind
theorem aAi:cU x y z=true↔(-1000000<=x/\x<=1000000)/\(-1000000<=y/\y<=1000000)/\(-1000000<=z/\z<=1000000):=by
 unfold cU;simp only [aRd,aG];exact ⟨fun ⟨⟨a,b⟩,c⟩=>⟨a,b,c⟩,fun ⟨a,b,c⟩=>⟨⟨a,b⟩,c⟩⟩
def aO.lt (a b:aO):Bool:=decide (a.d<b.d)||(a.d==b.d&&(decide (a.s<b.s)||(a.s==b.s&&decide (a.c<b.c))))
theorem aO.lt_iff {a b:aO}:a.lt b=true↔(a.d<b.d\/a.d=b.d/\(a.s<b.s\/a.s=b.s/\a.c<b.c)):=by
 unfold aO.lt;simp only [aVt,decide_eq_true_eq,aRd,beq_iff_eq]
theorem aO.lt_no {a b:aO}:a.lt b=false↔¬(a.d<b.d\/a.d=b.d/\(a.s<b.s\/a.s=b.s/\a.c<b.c)):=by
 rw [<-aO.lt_iff,Bool.not_eq_true]
def tB (x:aO):List aO->List aO
 | []=>[x]
 | y::l=>if x.lt y then x::y::l else y::tB x l
theorem jX (x:aO) (l:List aO):(tB x l).length=l.length+1:=by
 induction l with
 | nil=>rfl
 | cons y l ih=>
  unfold tB
  split
  ·rfl
  ·simp only [aSc,ih]
def fA (x:aO) (l:List aO):Nat:=(l.takeWhile fun y=>!x.lt y).length
theorem aHg (x:aO) (l:List aO):tB x l=l.take (fA x l)++x::l.drop (fA x l):=by
 induction l with
 | nil=>rfl
 | cons y l ih=>
  unfold tB fA
  by_cases h:x.lt y=true
  ·rw [if_pos h,aV3 (by simp [h])]
   rfl
  ·rw [if_neg h,aV4 (by simp [h]),ih]
   rfl
theorem aAj (x:aO) (l:List aO):fA x l<=l.length:=List.Sublist.length_le (List.takeWhile_sublist _)
theorem aAk {x:aO} {l:List aO} (h:k<fA x l):∃hk:k<l.length,x.lt l[k]=false:=by
 induction l generalizing k with
 | nil=>exact absurd h (by simp [fA])
 | cons y l ih=>
  unfold fA at h
  by_cases hy:x.lt y=true
  ·rw [aV3 (by simp [hy])] at h
   exact absurd h (by simp)
  ·rw [aV4 (by simp [hy]),aSc] at h
   cases k with
   | zero=>exact ⟨by simp,by simpa using hy⟩
   | succ k=>
    obtain ⟨hk,hl⟩:=ih (k:=k) (by unfold fA;omega);exact ⟨by simp;omega,by simpa using hl⟩
theorem aAl {x:aO} {l:List aO} (h:fA x l<l.length):x.lt l[fA x l]=true:=by
 induction l with
 | nil=>simp at h
 | cons y l ih=>
  by_cases hy:x.lt y=true
  ·have e:fA x (y::l)=0:=by unfold fA;rw [aV3 (by simp [hy])];rfl
   simp only [e,aUt,hy]
  ·have e:fA x (y::l)=fA x l+1:=by unfold fA;rw [aV4 (by simp [hy])];rfl
   have h':fA x l<l.length:=by rw [e,aSc] at h;omega
   simp only [e,aUs];exact ih h'
def fM (l xs:List aO):List aO:=xs.foldl (fun l x=>tB x l) l
theorem qA (l xs ys:List aO):fM l (xs++ys)=fM (fM l xs) ys:=List.foldl_append
theorem kY (l xs:List aO):(fM l xs).length=l.length+xs.length:=by
 induction xs generalizing l with
 | nil=>rfl
 | cons x xs ih=>
  show (fM (tB x l) xs).length=_
  rw [ih,jX,aSc];omega
open Classical in
noncomputable def fU (C:Addr->Prop) (w d:World):World:=if (∀a,C a->d.cell? a=w.cell? a/\d.frozen? a=w.frozen? a) then d else w
theorem tC (C:Addr->Prop) (w d:World):∀a,C a->(fU C w d).cell? a=w.cell? a/\(fU C w d).frozen? a=w.frozen? a:=by
 unfold fU
 split
 ·assumption
 ·exact fun _ _=>⟨rfl,rfl⟩
@[go_sem] theorem aOc (C:Addr->Prop) (w d:World) (a:Addr) (h:C a):(fU C w d).cell? a=w.cell? a:=(tC C w d a h).1
@[go_sem] theorem aMc (C:Addr->Prop) (w d:World) (a:Addr) (h:C a):(fU C w d).frozen? a=w.frozen? a:=(tC C w d a h).2
def SC (C:Addr->Prop) (w:World):World->Prop:=fun w'=>∃d,w'=fU C w d
theorem SC.of {C:Addr->Prop} (h:∀a,C a->w2.cell? a=w.cell? a/\w2.frozen? a=w.frozen? a):SC C w w2:=⟨w2,by unfold fU;rw [if_pos h]⟩
theorem SC.drew (C:Addr->Prop) (w:World):SC C w w.drew:=SC.of fun _ _=>⟨rfl,rfl⟩
theorem SC.get {C:Addr->Prop} (h:SC C w w2):∀a,C a->w2.cell? a=w.cell? a/\w2.frozen? a=w.frozen? a:=by
 obtain ⟨d,rfl⟩:=h;exact tC C w d
theorem SC.blocks {C:Addr->Prop} (h:∀a,C a->w2.heap[a.block]?=w.heap[a.block]?):SC C w w2:=SC.of fun a ha=>⟨aSe (h a ha),World.frozen?_of_block (h a ha)⟩
theorem aBv {α β : Type} {s:Sem α} {f : α->Sem β} {b : β} (h:(s.bind f).run P w = .ok b w'):∃a w1,(f a).run P w1 = .ok b w':=by
 rw [Sem.run_bind'] at h
 cases hs:s.run P w with
 | ok v w1=>rw [hs] at h;exact ⟨v,w1,h⟩
 | halt x w1=>rw [hs] at h;simp at h
theorem aIl {ρ : Operand->Value} {x:Operand} (hx:o.op = .nilCheck x) {n:Next} (h:(execOp ρ o).run P w = .ok n w'):∃v,n = .value v:=by
 unfold execOp at h;rw [hx] at h;dsimp only at h
 have hp:∀{v:Value} {w1:World},Sem.run P (pure (Next.value v)) w1=Result.ok n w'->∃v,n = .value v:=fun h=>by simp at h;exact ⟨_,h.1.symm⟩
 split at h
 ·simp [runtimePanic] at h
 ·simp [runtimePanic] at h
 ·simp [runtimePanic] at h
 ·split at h
  ·simp [runtimePanic] at h
  ·obtain ⟨a,w1,h⟩:=aBv h
   obtain ⟨c,w2,h⟩:=aBv h
   split at h
   ·obtain ⟨d,w3,h⟩:=aBv h
    exact hp h
   ·exact hp h
  ·exact hp h
 ·exact hp h
def vE:Op->Bool
 | .nilCheck _=>true
 | o=>qG o
theorem uB {ρ : Operand->Value} (hr:vE o.op=true) {n:Next} (h:(execOp ρ o).run P w = .ok n w'):∃v,n = .value v:=by
 by_cases hn:∃x,o.op = .nilCheck x
 ·obtain ⟨x,hx⟩:=hn
  exact aIl hx h
 ·refine qH ?_ h
  revert hr hn
  cases o.op <;> intro hr hn <;> first|exact absurd ⟨_,rfl⟩ hn|exact hr
def lQ (ops:Array Oper):List (List Nat×Nat)->Bool
 | []=>true
 | (T,_)::r=>T.all (fun i=>match ops[i]? with|some o=>vE o.op|none=>false)&&lQ ops r
def cH (P:Program) (ops:Array Oper) (Q:Exit->Act->World->Prop) (S:World->Prop) (z:Nat):List (List Nat×Nat)->Act->World->Prop
 | [],a,w=>Q .normal a w
 | (T,e)::r,a,w=>wpQuiet P ops S (fun a'=>∃o,ops[e]?=some o/\wpList P ops (Exit.then (fun a2 w2=>(e=z\/S w2)/\cH P ops Q S z r a2 w2) Q) [o] a' w) (T.filterMap (ops[·]?)) a
theorem jF {z:Nat} {r:List (Bool×Nat)} {K:Act->Prop}
  (hK:∀a,K a->eT P ops Q S z r a w) :
  ∀(T:List Nat) (a:Act),T.all (fun i=>match ops[i]? with|some o=>vE o.op|none=>false)=true->wpQuiet P ops S K (T.filterMap (ops[·]?)) a ->
   eT P ops Q S z (T.map (fun i=>(true,i))++r) a w
 | [],a,_,h=>hK a h
 | i::T,a,hr,h=>by
  simp only [aXn,aRd] at hr;obtain ⟨hri,hr'⟩:=hr
  cases ho:ops[i]? with
  | none=>rw [ho] at hri;cases hri
  | some o=>
   rw [ho] at hri;simp only [aRm,ho] at h;refine ⟨o,ho,?_⟩;unfold vN;unfold wpQuiet at h
   split
   ·rename_i hw
    rw [if_pos hw] at h;obtain ⟨v,hv,hn⟩:=h;refine ⟨v,fun w' hw'=>?_,jF hK T _ hr' hn⟩;have h1:=hv w' hw';unfold aX3 at h1
    cases hrun:(execOp a.eval o).run P w' with
    | halt x w1=>rw [hrun] at h1;exact h1.elim
    | ok n w1=>
     obtain ⟨u,rfl⟩:=uB hri hrun;rw [hrun] at h1;obtain ⟨e1,e2⟩:=h1;rw [e1,e2]
   ·rename_i hw
    rw [if_neg hw] at h;exact jF hK T _ hr' h
theorem gG {z:Nat}:∀(st:List (List Nat×Nat)) (a:Act) (w:World),lQ ops st=true ->
  cH P ops Q S z st a w->eT P ops Q S z (bW st) a w
 | [],_,_,_,h=>h
 | (T,e)::r,a,w,hr,h=>by
  simp only [lQ,aRd] at hr;refine jF (K:=fun a'=>∃o,ops[e]?=some o/\wpList P ops (Exit.then (fun a2 w2=>(e=z\/S w2)/\cH P ops Q S z r a2 w2) Q) [o] a' w) (fun a' ha=>?_) T a hr.1 h;obtain ⟨o,ho,hl⟩:=ha;refine ⟨o,ho,?_⟩
  have key:∀a2 w2,((e=z\/S w2)/\cH P ops Q S z r a2 w2)->((e=z\/S w2)/\eT P ops Q S z (bW r) a2 w2):=
   fun a2 w2 ⟨k1,k2⟩=>⟨k1,gG r a2 w2 hr.2 k2⟩
  unfold wpList at hl ⊢
  split
  ·rename_i hw
   rw [if_pos hw] at hl
   rcases hl with hl|⟨h1,h2⟩
   ·refine .inl ?_
    have h3:=iX hl;have h4:o.wp P a' w (wpList P ops (Exit.then (fun a2 w2=>(e=z\/S w2)/\cH P ops Q S z r a2 w2) Q) []) Q:=h3;have h5:=aV8 (K':=wpList P ops (Exit.then (fun a2 w2=>(e=z\/S w2)/\eT P ops Q S z (bW r) a2 w2) Q) []) (fun a2 w2 hk=>key a2 w2 hk) h4;unfold aW3 at h5 ⊢;generalize (execOp a'.eval o).run P w=res at h5 ⊢
    cases res with
    | ok n w'=>cases n <;> exact h5
    | halt x w'=>cases x <;> exact h5
   ·exact .inr ⟨h1,h2⟩
  ·rename_i hw
   rw [if_neg hw] at hl;exact key _ _ hl
theorem aJ {id:Nat} {a:Act} {l:List Oper} (st:List (List Nat×Nat)) (z:Nat) (S:World->Prop) (hm:P.follows .mixedOrders=true)
  (hB:(aG7 .any l.toArray z (bW st)&&lQ l.toArray st&&(bW st).length==l.length)=true)
  (hS:S w.drew) (h:cH P l.toArray (NoPanic Q) S z st a w.drew):(Code.region id l.toArray true).wp P Q a w:=by
 simp only [aRd,beq_iff_eq] at hB;exact nL (bW st) z S hm hB.1.1 hB.2 hS (gG st a w.drew hB.1.2 h)
theorem aP {z:Nat} {a:Act} (h:Q .normal a w):cH P ops (NoPanic Q) S z [] a w:=h
theorem gS {z:Nat} {T:List Nat} {e:Nat} {r:List (List Nat×Nat)} {a:Act}
  (h:wpQuiet P ops S (fun a'=>∃o,ops[e]?=some o/\∀K:Act->World->Prop,(∀a2 w2,(e=z\/S w2)->cH P ops Q S z r a2 w2->K a2 w2)->wpList P ops (Exit.then K Q) [o] a' w) (T.filterMap (ops[·]?)) a) :
  cH P ops Q S z ((T,e)::r) a w:=by
 unfold cH
 have e1:(fun a'=>∃o,ops[e]?=some o/\wpList P ops (Exit.then (fun a2 w2=>(e=z\/S w2)/\cH P ops Q S z r a2 w2) Q) [o] a' w) =
   (fun a'=>∃o,ops[e]?=some o/\∀K:Act->World->Prop,(∀a2 w2,(e=z\/S w2)->cH P ops Q S z r a2 w2->K a2 w2)->wpList P ops (Exit.then K Q) [o] a' w):=by
  funext a'
  refine propext ⟨fun ⟨o,ho,hl⟩=>⟨o,ho,fun K hK=>?_⟩,fun ⟨o,ho,hl⟩=>⟨o,ho,hl _ fun a2 w2 h1 h2=>⟨h1,h2⟩⟩⟩;unfold wpList at hl ⊢
  split
  ·rename_i hw
   rw [if_pos hw] at hl
   rcases hl with hl|⟨h1,h2⟩
   ·refine .inl ?_
    have h4:=aV8 (K':=wpList P ops (Exit.then K Q) []) (fun a2 w2 hk=>hK a2 w2 hk.1 hk.2) hl;unfold aW3 at h4 ⊢;generalize (execOp a'.eval o).run P w=res at h4 ⊢
    cases res with
    | ok n w'=>cases n <;> exact h4
    | halt x w'=>cases x <;> exact h4
   ·exact .inr ⟨h1,h2⟩
  ·rename_i hw
   rw [if_neg hw] at hl;exact hK _ _ hl.1 hl.2
 rw [e1];exact h
def aDi (P:Program) (ops:Array Oper) (Q:Exit->Act->World->Prop) (S:World->Prop) (z fuel:Nat) (listed:Array Bool) (a:Act) (w:World):Prop:=
 jC P .any ops Q S z fuel listed a w
def rO (ops:Array Oper) (z:Nat):List Nat->Array Bool->Bool
 | [],_=>true
 | i::r,l=>(match ops[i]? with|some o=>vE o.op|none=>false)&&(i != z&&Region.free .any ops l i&&(aSm .any ops l).contains i)&&rO ops z r (l.setIfInBounds i true)
def aDj (ops:Array Oper) (z:Nat) (T E:List Nat) (l:Array Bool):Bool:=
 aUc ops&&fI .any ops z&&rO ops z T l&&(aSm .any ops (dR T l)==E) && !E.isEmpty
def gA (P:Program) (ops:Array Oper) (Q:Exit->Act->World->Prop) (S:World->Prop) (z fuel:Nat) (l:Array Bool) (e:Nat) (a:Act) (w:World):Prop:=
 ∃o,ops[e]?=some o/\∀K:Act->World->Prop,(∀a2 w2,(e=z\/S w2)->aDi P ops Q S z fuel (l.setIfInBounds e true) a2 w2->K a2 w2)->wpList P ops (Exit.then K Q) [o] a w
theorem wB {z:Nat} {l:Array Bool} {e:Nat} {a:Act} (h:gA P ops Q S z fuel l e a w) :
  wpOp P ops Q e (fun a' w'=>(e=z\/S w')/\aDi P ops Q S z fuel (l.setIfInBounds e true) a' w') a w:=by
 obtain ⟨o,ho,hl⟩:=h;have ht:=hl (fun a' w'=>(e=z\/S w')/\aDi P ops Q S z fuel (l.setIfInBounds e true) a' w') (fun a2 w2 k1 k2=>⟨k1,k2⟩);unfold wpOp;simp only [ho];unfold wpList at ht
 split
 ·rename_i hw
  rw [if_pos hw] at ht
  rcases ht with ht|⟨h1,h2⟩
  ·refine .inl ?_
   have h3:=iX ht;exact h3
  ·exact .inr ⟨h1,h2⟩
 ·rename_i hw
  rw [if_neg hw] at ht;exact ht
theorem qQ {z:Nat} {K:Act->Prop} (hsel:aUc ops=true) (hz:fI .any ops z=true) (hS:S w) :
  ∀(T:List Nat) (l:Array Bool) (a:Act),rO ops z T l=true->(∀a,K a->aDi P ops (NoPanic Q) S z fuel (dR T l) a w) ->
   wpQuiet P ops S K (T.filterMap (ops[·]?)) a->aDi P ops (NoPanic Q) S z (T.length+fuel) l a w
 | [],l,a,_,hK,h=>by rw [aS7,aRt];exact hK a h
 | i::T,l,a,hT,hK,h=>by
  simp only [rO,aRd,bne_iff_ne] at hT;obtain ⟨⟨hri,⟨hiz,hf⟩,hr⟩,hT'⟩:=hT
  cases ho:ops[i]? with
  | none=>rw [ho] at hri;cases hri
  | some o=>
   rw [ho] at hri;simp only [aRm,ho] at h;unfold wpQuiet at h
   have hlen:(i::T).length+fuel=T.length+fuel+1:=by rw [aSc];omega
   rw [hlen]
   split at h
   ·rename_i hw
    obtain ⟨v,hv,hn⟩:=h;refine fS (v:=v) ho hz hiz (aTt hsel) (fun c a w k=>k) _ l a w (aUf ho hf) (by simpa using hr) (.inl ⟨hw,fun w' hw'=>?_⟩) hS (qQ hsel hz hS T _ _ hT' hK hn);have h1:=hv w' hw';unfold aX3 at h1
    cases h0:(execOp a.eval o).run P w' with
    | halt x w1=>rw [h0] at h1;exact h1.elim
    | ok n w1=>
     obtain ⟨u,rfl⟩:=uB hri h0;rw [h0] at h1;obtain ⟨e1,e2⟩:=h1;rw [e1,e2]
   ·rename_i hw
    exact fS (v:=undef) ho hz hiz (aTt hsel) (fun c a w k=>k) _ l a w (aUf ho hf) (by simpa using hr) (.inr ⟨by simpa using hw,rfl⟩) hS (qQ hsel hz hS T _ _ hT' hK h)
theorem fN {z:Nat} {l:Array Bool} {a:Act} (T E:List Nat) (hB:aDj ops z T E l=true) (hS:S w)
  (h:wpQuiet P ops S (fun a'=>∀e∈E,gA P ops (NoPanic Q) S z fuel (dR T l) e a' w) (T.filterMap (ops[·]?)) a) :
  aDi P ops (NoPanic Q) S z (T.length+(fuel+1)) l a w:=by
 simp only [aDj,aRd,beq_iff_eq] at hB;obtain ⟨⟨⟨⟨h1,h2⟩,h3⟩,h4⟩,h5⟩:=hB;refine qQ h1 h2 hS T l a h3 (fun a' hk=>?_) h;refine ⟨fun h0=>?_,fun e he=>?_⟩
 ·rw [h4] at h0;rw [h0] at h5;cases h5
 ·rw [h4] at he
  exact wB (hk e he)
theorem wC {z:Nat} {l:Array Bool} {a:Act} (hB:(aSm .any ops l).isEmpty=true) (h:Q .normal a w):aDi P ops (NoPanic Q) S z 0 l a w:=
 ⟨by simpa using hB,h⟩
theorem sc_ {z:Nat} {T:List Nat} {e:Nat} {r:List (List Nat×Nat)} {a:Act} {l:List Oper} {a0 a1:Act}
  (h:∀K:Act->World->Prop,(∀a2 w2,(e=z\/S w2)->cH P ops Q S z r a2 w2->K a2 w2)->wpList P ops (Exit.then K Q) [o] a1 w)
  (hl:T.filterMap (ops[·]?)=l:=by first|(simp only [aRm,aRg,aQ1,aQw,aQx];rfl)|rfl)
  (ha:a=a0:=by first|(simp only [aSj,aQ4,aRc,aRb];rfl)|rfl)
  (hq:∀R:Act->Prop,R a1->wpQuiet P ops S R l a0:=by intro R h;(repeat (show wpQuiet _ _ _ _ (_::_) _;go_big_quiet_step (fail)));exact wpQuiet_nil h) (ho:ops[e]?=some o:=by rfl):cH P ops Q S z ((T,e)::r) a w:=by
 subst ha;refine gS ?_;rw [hl];exact hq _ ⟨o,ho,h⟩
def pI (a b:Int):Int:=if a<b then -1 else if b<a then 1 else 0
def or3 (x y z:Int):Int:=if x=0 then (if y=0 then z else y) else x
def aO.cmp (a b:aO):Int:=or3 (pI a.d b.d) (pI a.s b.s) (pI a.c b.c)
theorem aBw (h:a<b):pI a b = -1:=by unfold pI;rw [if_pos h]
theorem oT (a:Int):pI a a=0:=by unfold pI;rw [if_neg (Int.lt_irrefl _),if_neg (Int.lt_irrefl _)]
theorem aBx (h:b<a):pI a b=1:=by unfold pI;rw [if_neg (by omega),if_pos h]
theorem aO.cmp_lt (a b:aO):decide (a.cmp b<0)=a.lt b:=by
 cases hl:a.lt b
 ·rw [aO.lt_no] at hl
  refine decide_eq_false ?_;unfold aO.cmp or3
  rcases aWu a.d b.d with h|h|h
  ·exact absurd (.inl h) hl
  ·rw [h,oT,if_pos rfl]
   rcases aWu a.s b.s with k|k|k
   ·exact absurd (.inr ⟨h,.inl k⟩) hl
   ·rw [k,oT,if_pos rfl]
    rcases aWu a.c b.c with l|l|l
    ·exact absurd (.inr ⟨h,.inr ⟨k,l⟩⟩) hl
    ·rw [l,oT];decide
    ·rw [aBx l];decide
   ·rw [aBx k,if_neg (by decide)];decide
  ·rw [aBx h,if_neg (by decide)];decide
 ·rw [aO.lt_iff] at hl
  refine decide_eq_true ?_;unfold aO.cmp or3
  rcases hl with h|⟨h,k|⟨k,l⟩⟩
  ·rw [aBw h,if_neg (by decide)];decide
  ·rw [h,oT,if_pos rfl,aBw k,if_neg (by decide)];decide
  ·rw [h,oT,if_pos rfl,k,oT,if_pos rfl,aBw l];decide
theorem tD (n:Int) (w:World):Z_ 260 #[n] w (.bool false):=by
 go_enter func260,ntmps260;go_wp2;go_ret;exact ⟨rfl,rfl⟩
theorem qR (h:pI a b=c) (w:World):Z_ 225 #[a,b] w (.int .i64 c):=by
 have H:=hid h;clear h
 by_cases h1:a<b
 ·have e:c = -1:=by rw [<-H];unfold pI;rw [if_pos h1]
  subst e;go_enter func225,ntmps225;go_wp2_with (first|(go_at_call 260;refine z_ (tD _ _) ?_));go_ret;exact ⟨rfl,rfl⟩
 ·by_cases h2:b<a
  ·have e:c=1:=by rw [<-H];unfold pI;rw [if_neg h1,if_pos h2]
   subst e;go_enter func225,ntmps225;go_wp2_with (first|(go_at_call 260;refine z_ (tD _ _) ?_));go_ret;exact ⟨rfl,rfl⟩
  ·have e:c=0:=by rw [<-H];unfold pI;rw [if_neg h1,if_neg h2]
   subst e;go_enter func225,ntmps225;go_wp2_with (first|(go_at_call 260;refine z_ (tD _ _) ?_));go_ret;exact ⟨rfl,rfl⟩
theorem aMd (h:or3 x y z=r) (g:Nat) (w:World) (hb:Blk w g 3 [x,y,z]):Z_ 224 #[.slice (some ⟨g,0,none⟩) 3 3] w (.int .i64 r):=by
 have H:=hid h;obtain ⟨c0,c1,c2⟩:=hb.q3;have lg:=hb.lt;clear h hb;go_enter func224,ntmps224;go_wp2
 go_loopw [8] (fun i wr=>∃k:Nat,k<=3/\i = .int .i64 (k:Nat)/\w=wr/\(1<=k->x=0)/\(2<=k->y=0)/\(3<=k->z=0)) (fun i _=>3 - (intOf i).toNat)
 case atStart=>exact ⟨0,by omega,rfl,rfl,fun h=>absurd h (by omega),fun h=>absurd h (by omega),fun h=>absurd h (by omega)⟩
 case round=>
  obtain ⟨k,hk,rfl,rfl,h1,h2,h3⟩:=hrel;have H1:=hid h1;have H2:=hid h2;have H3:=hid h3;clear h1 h2 h3
  rcases (show k=0\/k=1\/k=2\/k=3 by omega) with rfl|rfl|rfl|rfl
  ·by_cases hx:x=0
   ·have HX:=hid hx
    go_wp2;go_roundw
    case rel=>exact ⟨1,by omega,by go_num,by trivial,fun _=>HX.out,fun h=>absurd h (by omega),fun h=>absurd h (by omega)⟩
    case measure=>simp [intOf]
   ·have HR:=hid (show x=r by rw [<-H];unfold or3;rw [if_neg hx])
    go_wp2;go_ret;exact ⟨cS HR,rfl⟩
  ·have h0:=hid (H1 (by omega))
   by_cases hy:y=0
   ·have HY:=hid hy
    go_wp2;go_roundw
    case rel=>exact ⟨2,by omega,by go_num,by trivial,fun _=>h0.out,fun _=>HY.out,fun h=>absurd h (by omega)⟩
    case measure=>simp [intOf]
   ·have HR:=hid (show y=r by rw [<-H];unfold or3;rw [if_pos h0.out,if_neg hy])
    go_wp2;go_ret;exact ⟨cS HR,rfl⟩
  ·have h0:=hid (H1 (by omega))
   have h4:=hid (H2 (by omega))
   by_cases hz:z=0
   ·have HZ:=hid hz
    go_wp2;go_roundw
    case rel=>exact ⟨3,by omega,by go_num,by trivial,fun _=>h0.out,fun _=>h4.out,fun _=>HZ.out⟩
    case measure=>simp [intOf]
   ·have HR:=hid (show z=r by rw [<-H];unfold or3;rw [if_pos h0.out,if_pos h4.out])
    go_wp2;go_ret;exact ⟨cS HR,rfl⟩
  ·have HR:=hid (show 0=r by rw [<-H];unfold or3;rw [if_pos (H1 (by omega)),if_pos (H2 (by omega)),H3 (by omega)])
   go_wp2;go_ret;exact ⟨cS HR,rfl⟩
theorem uC {a b:aO} (h:a.cmp b=r) (w:World) :
  R_ 174 #[.agg #[a.d,a.s,a.c,a.col,a.al],.agg #[b.d,b.s,b.c,b.col,b.al]] w (.int .i64 r):=by
 obtain ⟨c0,h0⟩:∃n,pI a.d b.d=n:=⟨_,rfl⟩
 obtain ⟨c1,h1⟩:∃n,pI a.s b.s=n:=⟨_,rfl⟩
 obtain ⟨c2,h2⟩:∃n,pI a.c b.c=n:=⟨_,rfl⟩
 unfold aO.cmp at h;rw [h0,h1,h2] at h;have H:=hid h;have H0:=hid h0;have H1:=hid h1;have H2:=hid h2;clear h h0 h1 h2;go_enter func174,ntmps174;go_wp2;refine aA [([0,1,2,3,5,6,7,8,10,11,12,13],4),([],9),([],14),([],15),([],16),([],17)] 17 (w.heap.size+1+1) (by kernel_rfl) (by kernel_rfl) ?_;refine st_ fun K hK=>?_;go_wp2_with fail;refine z_ (qR H0 _) ?_;go_wp2_with fail;refine k_ hK ?_;clear hK K;refine st_ fun K hK=>?_;go_wp2_with fail;refine z_ (qR H1 _) ?_;go_wp2_with fail;refine k_ hK ?_;clear hK K;refine st_ fun K hK=>?_;go_wp2_with fail;refine z_ (qR H2 _) ?_;go_wp2_with fail;refine k_ hK ?_;clear hK K;refine st_ fun K hK=>?_;go_wp2_with fail;refine k_ hK ?_;clear hK K
 obtain ⟨W5,h3⟩:∃W5,((((w.alloc (.cells #[a.d,a.s,a.c,a.col,a.al] 95)).alloc (.cells #[b.d,b.s,b.c,b.col,b.al] 95)).alloc (.cells #[c0,c1,c2] 3)).drew)=W5:=⟨_,rfl⟩
 have hb:Blk W5 (w.heap.size+1+1) 3 [c0,c1,c2]:=by
  rw [<-h3];have h:=aQ8 ((w.alloc (.cells #[a.d,a.s,a.c,a.col,a.al] 95)).alloc (.cells #[b.d,b.s,b.c,b.col,b.al] 95)) 3 [c0,c1,c2];simp only [aQy] at h;exact h.ext (aRz (aQ6 _))
 have HB:=hid hb
 have x5:Ext ((w.alloc (.cells #[a.d,a.s,a.c,a.col,a.al] 95)).alloc (.cells #[b.d,b.s,b.c,b.col,b.al] 95)) W5:=by rw [<-h3];exact X_
 have y5:Ext w W5:=aQ3 X_ x5;rw [h3];clear hb h3;refine st_ fun K hK=>?_;go_wp2_with fail;refine z_ (aMd H _ _ HB) ?_;go_wp2_with fail;refine k_ hK ?_;clear hK K;refine st_ fun K hK=>?_;go_wp2_with fail;refine l_ hK ?_;clear hK K;refine aC ?_;go_wp2;go_ret;exact ⟨rfl,y5⟩
theorem qS (c:Cam) (w:World):R_ 90 #[c.V] w (.bool c.okB):=by
 obtain ⟨cw,ch,zo,ne,de,le,fo⟩:=c
 obtain ⟨b1,h1⟩:∃b,inB cw 1 12=b:=⟨_,rfl⟩
 obtain ⟨b2,h2⟩:∃b,inB ch 1 12=b:=⟨_,rfl⟩
 obtain ⟨b3,h3⟩:∃b,inB zo 1 65536=b:=⟨_,rfl⟩
 obtain ⟨b4,h4⟩:∃b,inB ne 1 1000000=b:=⟨_,rfl⟩
 obtain ⟨b5,h5⟩:∃b,inB le 0 64=b:=⟨_,rfl⟩
 obtain ⟨b6,h6⟩:∃b,inB fo 0 1000000=b:=⟨_,rfl⟩
 have e:(Cam.mk cw ch zo ne de le fo).okB=(b1&&b2&&b3&&b4&&b5&&b6):=by unfold Cam.okB;simp only [h1,h2,h3,h4,h5,h6]
 rw [e];have H1:=hid h1;have H2:=hid h2;have H3:=hid h3;have H4:=hid h4;have H5:=hid h5;have H6:=hid h6;clear h1 h2 h3 h4 h5 h6 e
 show Calls aQ2 90 #[.agg #[cw,ch,zo,ne,.bool de,le,fo]] w _
 cases b1
 rotate_left
 cases b2
 rotate_left
 cases b3
 rotate_left
 cases b4
 rotate_left
 cases b5
 rotate_left
 cases b6
 all_goals
  go_enter func90,ntmps90;go_wp2_with (go_at_call 92;with_reducible first|(refine z_ (aH H1.out _) ?_)|(refine z_ (aH H2.out _) ?_)|(refine z_ (aH H3.out _) ?_)|(refine z_ (aH H4.out _) ?_)|(refine z_ (aH H5.out _) ?_)|(refine z_ (aH H6.out _) ?_));go_ret;exact ⟨rfl,X_⟩
theorem aW {c:Cam} {b:Bool} (h:c.okB=b) (w:World):R_ 90 #[c.V] w (.bool b):=h▸qS c w
theorem aIm {zm q:Int} (hq:wrap64 (x*zm)=q) (hi:I64 q) (h:bI q z=r) (w:World) (hp:w.cell? ⟨p,2,none⟩=some (.int .i64 zm)) :
  Z_ 282 #[x,z,.pointer (some ⟨p,0,none⟩)] w (.int .i64 r):=by
 have H:=hid h;clear h;go_enter func282,ntmps282;go_wp2_with (go_at_call 96;refine z_ (cD hi H _) ?_);go_ret;exact ⟨rfl,rfl⟩
theorem aIn {zm q:Int} (hq:wrap64 (x*zm)=q) (hi:I64 q) (h:bI q 256=r) (w:World) (hp:w.cell? ⟨p,2,none⟩=some (.int .i64 zm)) :
  Z_ 283 #[x,z,.pointer (some ⟨p,0,none⟩)] w (.int .i64 r):=by
 have H:=hid h;clear h;go_enter func283,ntmps283;go_wp2_with (go_at_call 96;refine z_ (cD hi H _) ?_);go_ret;exact ⟨rfl,rfl⟩
def aMe (deep:Bool) (p:Nat):Value:=.func (.func (if deep then 282 else 283)) #[] #[.pointer (some ⟨p,0,none⟩)]
theorem iV (ha : -1000000000000<=a/\a<=1000000000000) (h:fT a=c) (w:World):Z_ 214 #[a] w (.int .i64 c):=by
 subst h;obtain ⟨h1,h2⟩:=ha;unfold fT;go_enter func214,ntmps214
 by_cases h:a<0
 ·rw [if_pos h]
  go_wp2;go_ret;exact ⟨rfl,rfl⟩
 ·rw [if_neg h]
  go_wp2;go_ret;exact ⟨rfl,rfl⟩
theorem Blk.alloc {cs:List Value} (h:Blk w g t cs) (o:Obj):Blk (w.alloc o) g t cs:=h.ext ((aQ6 _).alloc o)
theorem I64.of (h : -m<=n/\n<=m) (hm:m<=1152921504606846976):I64 n:=⟨by omega,by omega⟩
theorem aFp (ha : -m<=a/\a<=m) : -m<=bI a b/\bI a b<=m:=by
 unfold bI
 split
 ·omega
 ·have h0:0<=m:=by omega
  have e:0<=(b - 1)*m:=aSv (by omega) h0
  have e2:m*b=(b - 1)*m+m:=by grind
  constructor
  ·exact (aWt (by omega)).2 (by rw [Int.neg_mul];omega)
  ·exact aXa (by omega) (by omega)
theorem wD {c:Cam} (hc:c.Ok) {px:Int} (hx : -1000000<=x/\x<=1000000) (hz:1<=z/\z<=1000000) (hl : -16<=l/\l<=16) (hp:1<=px/\px<=12) (hr:c.pj x z l (px*8)=r) (C Cp V P:Nat) (w:World)
  (c2:w.cell? ⟨Cp,2,none⟩=some (.int .i64 c.zoom)) (c5:w.cell? ⟨C,5,none⟩=some (.int .i64 c.lens)) (c6:w.cell? ⟨C,6,none⟩=some (.int .i64 c.focus)) (v2:w.cell? ⟨V,2,none⟩=some (.int .i64 z)) (p0:w.cell? ⟨P,0,none⟩=some (aMe c.deep Cp)) :
  Z_ 269 #[x,l,px,.pointer (some ⟨C,0,none⟩),.pointer (some ⟨V,0,none⟩),.pointer (some ⟨P,0,none⟩)] w (.int .i64 r):=by
 unfold Cam.pj at hr;have q1:=bL (A:=16) (B:=64) (a:=l) (b:=c.lens) hl (by have:=hc.lens;omega)
 obtain ⟨p1,e1⟩:∃n,l*c.lens=n:=⟨_,rfl⟩
 rw [e1] at q1 hr;have q2:=bL (A:=16*64) (B:=1000000) (a:=p1) (b:=z - c.focus) q1 (by have:=hc.focus;omega)
 obtain ⟨p2,e2⟩:∃n,p1*(z - c.focus)=n:=⟨_,rfl⟩
 rw [e2] at q2 hr
 have q3 : -250001<=bI p2 4096/\bI p2 4096<=250001:=by unfold bI;rw [if_neg (by decide)];omega
 obtain ⟨d,e3⟩:∃n,bI p2 4096=n:=⟨_,rfl⟩
 rw [e3] at q3 hr;have q4:=bL (A:=1250001) (B:=65536) (a:=x+d) (b:=c.zoom) (by omega) (by have:=hc.zoom;omega)
 obtain ⟨q,e4⟩:∃n,(x+d)*c.zoom=n:=⟨_,rfl⟩
 rw [e4] at q4 hr;have q5:=aFp (a:=q) (b:=c.by z) q4
 obtain ⟨t,e5⟩:∃n,bI q (c.by z)=n:=⟨_,rfl⟩
 rw [e5] at q5 hr;have i2:=hid (I64.of q2 (by decide));have i4:=hid (I64.of q4 (by decide));have E3:=hid e3;have E5:=hid e5;have HR:=hid (show aR (t+px*16 / 2) (-100000) 100000=r from by rw [show px*16 / 2=px*8 from by omega];exact hr);have b5:=hc.lens;have b6:=hc.focus;have b2:=hc.zoom
 obtain ⟨lens,h1⟩:∃n,c.lens=n:=⟨_,rfl⟩
 obtain ⟨focus,h0⟩:∃n,c.focus=n:=⟨_,rfl⟩
 obtain ⟨zoom,h2⟩:∃n,c.zoom=n:=⟨_,rfl⟩
 rw [h1] at c5 e1 b5;rw [h0] at c6 e2 b6;rw [h2] at c2 e4 b2;have W4:=hid (show wrap64 ((x+d)*zoom)=q by rw [e4];exact aD (by omega) (by omega));clear h1 h0 h2 e3 e5 hr;unfold aMe at p0
 unfold Cam.by at E5
 cases hd:c.deep
 ·rw [hd] at p0 E5
  simp only [Bool.false_eq_true,if_false] at p0 E5;go_enter func269,ntmps269;go_wp2_with (first|(go_at_call 96;refine z_ (cD i2.out E3 _) ?_)|(go_at_call 283;refine z_ (aIn W4 i4.out E5 _ c2) ?_));refine z_ (dY HR _) ?_;go_wp2;go_ret;exact ⟨rfl,rfl⟩
 ·rw [hd] at p0 E5
  simp only [if_true] at p0 E5;go_enter func269,ntmps269;go_wp2_with (first|(go_at_call 96;refine z_ (cD i2.out E3 _) ?_)|(go_at_call 282;refine z_ (aIm W4 i4.out E5 _ c2) ?_));refine z_ (dY HR _) ?_;go_wp2;go_ret;exact ⟨rfl,rfl⟩
theorem nY {k:Int} (h:wrap64 (k*n)=c) (w:World) (hp:w.cell? ⟨p,0,none⟩=some (.int .i64 k)):Z_ 251 #[n,.pointer (some ⟨p,0,none⟩)] w (.int .i64 c):=by
 go_enter func251,ntmps251;go_wp2;go_ret;exact ⟨cS h,rfl⟩
theorem zC {k:Int} (ha:wrap64 (k*x)=a) (hb:wrap64 (k*y)=b) (hc:wrap64 (k*z)=c) (w:World) (hp:w.cell? ⟨p,0,none⟩=some (.int .i64 k)) (hlt:p<w.heap.size) :
  R_ 249 #[.agg #[x,y,z],.func (.func 251) #[] #[.pointer (some ⟨p,0,none⟩)]] w (.agg #[a,b,c]):=by
 have HA:=hid ha;have HB:=hid hb;have HC:=hid hc;have HP:=hid hp;clear ha hb hc hp;go_enter func249,ntmps249;go_wp2;refine aA [([0,1,2,4,5,6,8,9,10],3),([],7),([],11),([12],13)] 13 (w.heap.size+1+1) (by kernel_rfl) (by kernel_rfl) ?_;refine st_ fun K hK=>?_;go_wp2_with fail;refine z_ (nY HA _ ((aX6 (w:=w) X_).1 _ _ hlt |>.trans HP)) ?_;go_wp2_with fail;refine hK _ _ (.inr (fun b _ hb=>aRa X_ (by simp;omega))) ?_;clear hK K;refine st_ fun K hK=>?_;go_wp2_with fail;refine z_ (nY HB _ ((aX6 (w:=w) X_).1 _ _ hlt |>.trans HP)) ?_;go_wp2_with fail;refine hK _ _ (.inr (fun b _ hb=>aRa X_ (by simp;omega))) ?_;clear hK K;refine st_ fun K hK=>?_;go_wp2_with fail;refine z_ (nY HC _ ((aX6 (w:=w) X_).1 _ _ hlt |>.trans HP)) ?_;go_wp2_with fail;refine hK _ _ (.inr (fun b _ hb=>aRa X_ (by simp;omega))) ?_;clear hK K;refine aI ?_;simp only [aRm,aRg,aQ1,aQw,aQx]
 show wpQuiet _ _ _ _ [_] _
 try simp only [aSj,aQ4,aRc,aRb]
 repeat (go_big_quiet_step (fail))
 refine wpQuiet_nil ⟨_,rfl,fun K hK=>?_⟩;go_wp2_with fail;refine hK _ _ (.inl (by trivial)) (aC ?_);clear hK K;go_wp2;exact bodyPost_ret (v:=.agg #[a,b,c]) (by simp [results,results249,go_sem, *]) rfl ⟨rfl,S_⟩
theorem iY {k:Int} (ha:wrap64 (k*x)=a) (hb:wrap64 (k*y)=b) (hc:wrap64 (k*z)=c) (w:World) :
  R_ 220 #[.agg #[x,y,z],k] w (.agg #[a,b,c]):=by
 have HA:=hid ha;have HB:=hid hb;have HC:=hid hc;clear ha hb hc;have h0:∀(fn:Fn) (first cap:Array Value) (w:World),(aV1 fn first cap).run aQ2 w = .ok (.func fn first cap) w:=fun _ _ _ _=>rfl;go_enter func220,ntmps220;go_wp2_with fail;refine r_ (zC HA HB HC _ (by simp [go_sem]) (by simp)) fun w1 h1=>?_;obtain ⟨c1,f1⟩:=h1.cells;have z1:=h1.size;simp only [aQy] at z1
 have q2:w.heap.size+1+1<w1.heap.size:=by omega
 have E1:Ext w w1:=aQ3 X_ h1;go_wp2;exact bodyPost_ret (v:=.agg #[a,b,c]) (by simp [results,results220,go_sem, *]) rfl ⟨rfl,S_⟩
theorem aDk (hn:1<=n/\n<=64) (hi:0<=i/\i<=n) (hj:0<=j/\j<=n):0<=i*j/\i*j<=4096:=by
 have h1:=aSv hi.1 hj.1;have h2:=aYa (show i<=64 by omega) (show j<=64 by omega) hj.1 (by omega);omega
theorem nC {g:Int} (hg:0<=g/\g<=4096) (hx : -1000000<=x/\x<=1000000):(-4096000000<=g*x/\g*x<=4096000000):=bL (A:=4096) (B:=1000000) (by omega) hx
theorem pJ (f:Nat->Int) (k:Nat) (hk:k<4) (w:World):(aUa 123 (.agg f) (.int .i64 (k:Nat))).run aQ2 w = .ok (.agg #[.int .i64 (f (3*k)),.int .i64 (f (3*k+1)),.int .i64 (f (3*k+2))]) w:=by
 rcases (show k=0\/k=1\/k=2\/k=3 by omega) with rfl|rfl|rfl|rfl <;> kernel_rfl
theorem zD (f:Nat->Int) (i j n:Int) (hn:1<=n/\n<=64) (hi:0<=i/\i<=n) (hj:0<=j/\j<=n) (w:World) :
  R_ 166 #[.agg f,i,j,n] w ((evP f i j n).V):=by
 have b0:=aDk (n:=n) (i:=(n - i)) (j:=(n - j)) hn (by omega) (by omega)
 obtain ⟨g0,e0⟩:∃r,(n - i)*(n - j)=r:=⟨_,rfl⟩
 rw [e0] at b0;have b1:=aDk (n:=n) (i:=i) (j:=(n - j)) hn (by omega) (by omega)
 obtain ⟨g1,e1⟩:∃r,i*(n - j)=r:=⟨_,rfl⟩
 rw [e1] at b1;have b2:=aDk (n:=n) (i:=(n - i)) (j:=j) hn (by omega) (by omega)
 obtain ⟨g2,e2⟩:∃r,(n - i)*j=r:=⟨_,rfl⟩
 rw [e2] at b2;have b3:=aDk (n:=n) (i:=i) (j:=j) hn (by omega) (by omega)
 obtain ⟨g3,e3⟩:∃r,i*j=r:=⟨_,rfl⟩
 rw [e3] at b3;have bn:=aDk (n:=n) (i:=n) (j:=n) hn (by omega) (by omega)
 obtain ⟨nn,en⟩:∃r,n*n=r:=⟨_,rfl⟩
 rw [en] at bn
 obtain ⟨a4,q7⟩:∃r,cl (f 0)=r:=⟨_,rfl⟩
 have c1:=cM (f 0);rw [q7] at c1;have d7:=nC b0 c1
 obtain ⟨h0,z6⟩:∃r,g0*a4=r:=⟨_,rfl⟩
 rw [z6] at d7;have k8:=hid q7;have i9:=hid (show wrap64 (g0*a4)=h0 by rw [z6];exact aD (by omega) (by omega))
 obtain ⟨a7,x0⟩:∃r,cl (f 3)=r:=⟨_,rfl⟩
 have c4:=cM (f 3);rw [x0] at c4;have e4:=nC b1 c4
 obtain ⟨h5,z9⟩:∃r,g1*a7=r:=⟨_,rfl⟩
 rw [z9] at e4;have l1:=hid x0;have j6:=hid (show wrap64 (g1*a7)=h5 by rw [z9];exact aD (by omega) (by omega))
 obtain ⟨b4,x6⟩:∃r,cl (f 6)=r:=⟨_,rfl⟩
 have c7:=cM (f 6);rw [x6] at c7;have e7:=nC b2 c7
 obtain ⟨h8,y2⟩:∃r,g2*b4=r:=⟨_,rfl⟩
 rw [y2] at e7;have l4:=hid x6;have j9:=hid (show wrap64 (g2*b4)=h8 by rw [y2];exact aD (by omega) (by omega))
 obtain ⟨b7,x9⟩:∃r,cl (f 9)=r:=⟨_,rfl⟩
 have d0:=cM (f 9);rw [x9] at d0;have g4:=nC b3 d0
 obtain ⟨q4,y8⟩:∃r,g3*b7=r:=⟨_,rfl⟩
 rw [y8] at g4;have l7:=hid x9;have k5:=hid (show wrap64 (g3*b7)=q4 by rw [y8];exact aD (by omega) (by omega))
 have d4:evC (f 0) (f 3) (f 6) (f 9) i j n=bI (h0+h5+h8+q4) nn:=by
  unfold evC;rw [q7,x0,x6,x9,e0,e1,e2,e3,en,aSz a4,aSz a7,aSz b4,aSz b7,z6,z9,y2,y8]
 have g7:=hid (show wrap64 (0+h0)=h0 from by rw [bAe];exact aD (by omega) (by omega));have i0:=hid (show wrap64 (h0+h5)=h0+h5 from by exact aD (by omega) (by omega));have i3:=hid (show wrap64 (h0+h5+h8)=h0+h5+h8 from by exact aD (by omega) (by omega));have i6:=hid (show wrap64 (h0+h5+h8+q4)=h0+h5+h8+q4 from by exact aD (by omega) (by omega));have I0:=hid (I64.of (n:=h0+h5+h8+q4) (m:=20000000000) (by omega) (by decide));clear q7 z6 d7 c1 x0 z9 e4 c4 x6 y2 e7 c7 x9 y8 g4 d0
 obtain ⟨a5,q8⟩:∃r,cl (f 1)=r:=⟨_,rfl⟩
 have c2:=cM (f 1);rw [q8] at c2;have d8:=nC b0 c2
 obtain ⟨h3,z7⟩:∃r,g0*a5=r:=⟨_,rfl⟩
 rw [z7] at d8;have k9:=hid q8;have j4:=hid (show wrap64 (g0*a5)=h3 by rw [z7];exact aD (by omega) (by omega))
 obtain ⟨a8,x1⟩:∃r,cl (f 4)=r:=⟨_,rfl⟩
 have c5:=cM (f 4);rw [x1] at c5;have e5:=nC b1 c5
 obtain ⟨h6,y0⟩:∃r,g1*a8=r:=⟨_,rfl⟩
 rw [y0] at e5;have l2:=hid x1;have j7:=hid (show wrap64 (g1*a8)=h6 by rw [y0];exact aD (by omega) (by omega))
 obtain ⟨b5,x7⟩:∃r,cl (f 7)=r:=⟨_,rfl⟩
 have c8:=cM (f 7);rw [x7] at c8;have e8:=nC b2 c8
 obtain ⟨h9,y6⟩:∃r,g2*b5=r:=⟨_,rfl⟩
 rw [y6] at e8;have l5:=hid x7;have k3:=hid (show wrap64 (g2*b5)=h9 by rw [y6];exact aD (by omega) (by omega))
 obtain ⟨b8,z1⟩:∃r,cl (f 10)=r:=⟨_,rfl⟩
 have d1:=cM (f 10);rw [z1] at d1;have g5:=nC b3 d1
 obtain ⟨q5,y9⟩:∃r,g3*b8=r:=⟨_,rfl⟩
 rw [y9] at g5;have l8:=hid z1;have k6:=hid (show wrap64 (g3*b8)=q5 by rw [y9];exact aD (by omega) (by omega))
 have d5:evC (f 1) (f 4) (f 7) (f 10) i j n=bI (h3+h6+h9+q5) nn:=by
  unfold evC;rw [q8,x1,x7,z1,e0,e1,e2,e3,en,aSz a5,aSz a8,aSz b5,aSz b8,z7,y0,y6,y9]
 have g8:=hid (show wrap64 (0+h3)=h3 from by rw [bAe];exact aD (by omega) (by omega));have i1:=hid (show wrap64 (h3+h6)=h3+h6 from by exact aD (by omega) (by omega));have i4:=hid (show wrap64 (h3+h6+h9)=h3+h6+h9 from by exact aD (by omega) (by omega));have i7:=hid (show wrap64 (h3+h6+h9+q5)=h3+h6+h9+q5 from by exact aD (by omega) (by omega));have I1:=hid (I64.of (n:=h3+h6+h9+q5) (m:=20000000000) (by omega) (by decide));clear q8 z7 d8 c2 x1 y0 e5 c5 x7 y6 e8 c8 z1 y9 g5 d1
 obtain ⟨a6,q9⟩:∃r,cl (f 2)=r:=⟨_,rfl⟩
 have c3:=cM (f 2);rw [q9] at c3;have d9:=nC b0 c3
 obtain ⟨h4,z8⟩:∃r,g0*a6=r:=⟨_,rfl⟩
 rw [z8] at d9;have l0:=hid q9;have j5:=hid (show wrap64 (g0*a6)=h4 by rw [z8];exact aD (by omega) (by omega))
 obtain ⟨a9,x2⟩:∃r,cl (f 5)=r:=⟨_,rfl⟩
 have c6:=cM (f 5);rw [x2] at c6;have e6:=nC b1 c6
 obtain ⟨h7,y1⟩:∃r,g1*a9=r:=⟨_,rfl⟩
 rw [y1] at e6;have l3:=hid x2;have j8:=hid (show wrap64 (g1*a9)=h7 by rw [y1];exact aD (by omega) (by omega))
 obtain ⟨b6,x8⟩:∃r,cl (f 8)=r:=⟨_,rfl⟩
 have c9:=cM (f 8);rw [x8] at c9;have e9:=nC b2 c9
 obtain ⟨q0,y7⟩:∃r,g2*b6=r:=⟨_,rfl⟩
 rw [y7] at e9;have l6:=hid x8;have k4:=hid (show wrap64 (g2*b6)=q0 by rw [y7];exact aD (by omega) (by omega))
 obtain ⟨b9,z2⟩:∃r,cl (f 11)=r:=⟨_,rfl⟩
 have d2:=cM (f 11);rw [z2] at d2;have g6:=nC b3 d2
 obtain ⟨q6,a3⟩:∃r,g3*b9=r:=⟨_,rfl⟩
 rw [a3] at g6;have l9:=hid z2;have k7:=hid (show wrap64 (g3*b9)=q6 by rw [a3];exact aD (by omega) (by omega))
 have d6:evC (f 2) (f 5) (f 8) (f 11) i j n=bI (h4+h7+q0+q6) nn:=by
  unfold evC;rw [q9,x2,x8,z2,e0,e1,e2,e3,en,aSz a6,aSz a9,aSz b6,aSz b9,z8,y1,y7,a3]
 have g9:=hid (show wrap64 (0+h4)=h4 from by rw [bAe];exact aD (by omega) (by omega));have i2:=hid (show wrap64 (h4+h7)=h4+h7 from by exact aD (by omega) (by omega));have i5:=hid (show wrap64 (h4+h7+q0)=h4+h7+q0 from by exact aD (by omega) (by omega));have i8:=hid (show wrap64 (h4+h7+q0+q6)=h4+h7+q0+q6 from by exact aD (by omega) (by omega));have I2:=hid (I64.of (n:=h4+h7+q0+q6) (m:=20000000000) (by omega) (by decide));clear q9 z8 d9 c3 x2 y1 e6 c6 x8 y7 e9 c9 z2 a3 g6 d2
 have hV:(evP f i j n).V = .agg #[.int .i64 (bI (h0+h5+h8+q4) nn),.int .i64 (bI (h3+h6+h9+q5) nn),.int .i64 (bI (h4+h7+q0+q6) nn)]:=by
  unfold evP V3.V;simp only [d4,d5,d6]
 rw [hV];clear hV d4 d5 d6;have G0:=hid b0;have G1:=hid b1;have G2:=hid b2;have G3:=hid b3;have j0:=pJ f 0 (by decide);have j1:=pJ f 1 (by decide);have j2:=pJ f 2 (by decide);have j3:=pJ f 3 (by decide);simp only [aY6,aRt,aUv,aTx,aYo,Int.ofNat_eq_natCast,aWn] at j0 j1 j2 j3;have z0:Ext w w:=aQ6 w;go_enter func166,ntmps166;go_wp2_with fail;have q1:=aQ8 (w.alloc (.cells f 125)) 122 [(),(),()];have q2:=aQ8 ((w.alloc (.cells f 125)).alloc (.cells #[(),(),()] 122)) 270 [g0,g1,g2,g3];have q3:=aQ8 (((w.alloc (.cells f 125)).alloc (.cells #[(),(),()] 122)).alloc (.cells #[g0,g1,g2,g3] 270)) 122 [(),(),()];simp only [aQy] at q1 q2 q3;have Q1:=hid ((q1.alloc (.cells #[g0,g1,g2,g3] 270)).alloc (.cells #[(),(),()] 122));have Q2:=hid (q2.alloc (.cells #[(),(),()] 122));have Q3:=hid q3;have X0:=hid (show Ext w ((((w.alloc (.cells f 125)).alloc (.cells #[(),(),()] 122)).alloc (.cells #[g0,g1,g2,g3] 270)).alloc (.cells #[(),(),()] 122)) from X_);clear q1 q2 q3 z0
 obtain ⟨W0,d3⟩:∃W0,((((w.alloc (.cells f 125)).alloc (.cells #[(),(),()] 122)).alloc (.cells #[g0,g1,g2,g3] 270)).alloc (.cells #[(),(),()] 122))=W0:=⟨_,rfl⟩
 rw [d3] at Q1 Q2 Q3 X0 ⊢;clear d3 e0 e1 e2 e3
 go_loopw [37] (fun i wr=>∃k:Nat,k<=4/\i = .int .i64 (k:Nat)/\Ext w wr/\Blk wr (w.heap.size+1) 122 [(),(),()]/\Blk wr (w.heap.size+2) 270 [g0,g1,g2,g3]/\(k=0->Blk wr (w.heap.size+3) 122 [(),(),()])/\(k=1->Blk wr (w.heap.size+3) 122 [.int .i64 (h0),.int .i64 (h3),.int .i64 (h4)])/\(k=2->Blk wr (w.heap.size+3) 122 [.int .i64 (h0+h5),.int .i64 (h3+h6),.int .i64 (h4+h7)])/\(k=3->Blk wr (w.heap.size+3) 122 [.int .i64 (h0+h5+h8),.int .i64 (h3+h6+h9),.int .i64 (h4+h7+q0)])/\(k=4->Blk wr (w.heap.size+3) 122 [.int .i64 (h0+h5+h8+q4),.int .i64 (h3+h6+h9+q5),.int .i64 (h4+h7+q0+q6)])) (fun i _=>4 - (intOf i).toNat)
 case atStart=>exact ⟨0,by omega,rfl,X0,Q1,Q2,fun _=>Q3.out,fun h=>absurd h (by decide),fun h=>absurd h (by decide),fun h=>absurd h (by decide),fun h=>absurd h (by decide)⟩
 case round=>
  obtain ⟨k,hk,rfl,hx,h1,h2,s0,s1,s2,s3,s4⟩:=hrel;have HX:=hid hx;have H1:=hid h1;have H2:=hid h2;have zw:=hx.size;have zr:=h2.lt
  have zq:w.heap.size+1<wr.heap.size:=by omega
  have S0:=hid s0;have S1:=hid s1;have S2:=hid s2;have S3:=hid s3;have S4:=hid s4;clear hx h1 h2 s0 s1 s2 s3 s4
  rcases (show k=0\/k=1\/k=2\/k=3\/k=4 by omega) with rfl|rfl|rfl|rfl|rfl
  ·have HS:=hid (S0 rfl)
   obtain ⟨a0,a1,a2⟩:=HS.q3;have zs:=HS.lt;have c0:=H2.cell 0 rfl;clear S0 S1 S2 S3 S4;go_wp2_with fail;refine aA [([0,1,3,4,5],2),([],6),([],7),([],8)] 8 (wr.heap.size+1) (by kernel_rfl) (by kernel_rfl) ?_;refine st_ fun K hK=>?_;go_wp2_with fail;refine r_ (eP k8 k9 l0 _) fun w3 x3=>?_;have y3:Ext (wr.alloc (.cells #[(f 0),(f 1),(f 2)] 122)) w3:=aQ3 (aRz (aQ6 _)) x3;go_wp2_with fail;refine k_ hK ?_;clear hK K;refine st_ fun K hK=>?_;go_wp2_with fail;refine r_ (iY i9 j4 j5 _) fun w4 x4=>?_;have y4:=y3.trans x4;go_wp2_with fail;refine k_ hK ?_;clear hK K;refine st_ fun K hK=>?_;go_wp2_with fail;refine r_ (nX g7 g8 g9 _) fun w5 x5=>?_;have y5:=y4.trans x5;go_wp2_with fail;refine k_ hK ?_;clear hK K;have Y5:Ext wr w5:=aQ3 (show Ext wr (wr.alloc (.cells #[(f 0),(f 1),(f 2)] 122)) from X_) y5;have D1:=H1.ext Y5;have D2:=H2.ext Y5;have D3:=HS.ext Y5;have f0:=D3.free 0;have f1:=D3.free 1;have f2:=D3.free 2;have z3:=D3.lt;obtain ⟨k0,k1,k2⟩:=D3.q3;have X5:=HX.trans Y5
   have n1:w.heap.size+1≠w.heap.size+3:=by omega
   have n2:w.heap.size+2≠w.heap.size+3:=by omega
   have G3:=hid (((D3.set 0 (.int .i64 (h0))).set 1 (.int .i64 (h3))).set 2 (.int .i64 (h4)));have z4:=hid (((D1.other (a:=⟨w.heap.size+3,0,none⟩) n1 (.int .i64 (h0))).other (a:=⟨w.heap.size+3,1,none⟩) n1 (.int .i64 (h3))).other (a:=⟨w.heap.size+3,2,none⟩) n1 (.int .i64 (h4)));have z5:=hid (((D2.other (a:=⟨w.heap.size+3,0,none⟩) n2 (.int .i64 (h0))).other (a:=⟨w.heap.size+3,1,none⟩) n2 (.int .i64 (h3))).other (a:=⟨w.heap.size+3,2,none⟩) n2 (.int .i64 (h4)));have GX:=hid (show Ext w (((w5.setCell ⟨w.heap.size+3,0,none⟩ (.int .i64 (h0))).setCell ⟨w.heap.size+3,1,none⟩ (.int .i64 (h3))).setCell ⟨w.heap.size+3,2,none⟩ (.int .i64 (h4))) from S_);clear D1 D2 D3 X5 Y5 y3 y4 y5 x3 x4 x5 a0 a1 a2 c0;refine st_ fun K hK=>?_;go_wp2_with fail;refine l_ hK ?_;clear hK K;refine aC ?_;go_wp2;go_roundw
   case rel=>exact ⟨1,by omega,by go_num,GX,z4,z5,fun h=>absurd h (by decide),fun _=>G3.out,fun h=>absurd h (by decide),fun h=>absurd h (by decide),fun h=>absurd h (by decide)⟩
   case measure=>simp [intOf]
  ·have HS:=hid (S1 rfl)
   obtain ⟨a0,a1,a2⟩:=HS.q3;have zs:=HS.lt;have c0:=H2.cell 1 rfl;clear S0 S1 S2 S3 S4;go_wp2_with fail;refine aA [([0,1,3,4,5],2),([],6),([],7),([],8)] 8 (wr.heap.size+1) (by kernel_rfl) (by kernel_rfl) ?_;refine st_ fun K hK=>?_;go_wp2_with fail;refine r_ (eP l1 l2 l3 _) fun w3 x3=>?_;have y3:Ext (wr.alloc (.cells #[(f 3),(f 4),(f 5)] 122)) w3:=aQ3 (aRz (aQ6 _)) x3;go_wp2_with fail;refine k_ hK ?_;clear hK K;refine st_ fun K hK=>?_;go_wp2_with fail;refine r_ (iY j6 j7 j8 _) fun w4 x4=>?_;have y4:=y3.trans x4;go_wp2_with fail;refine k_ hK ?_;clear hK K;refine st_ fun K hK=>?_;go_wp2_with fail;refine r_ (nX i0 i1 i2 _) fun w5 x5=>?_;have y5:=y4.trans x5;go_wp2_with fail;refine k_ hK ?_;clear hK K;have Y5:Ext wr w5:=aQ3 (show Ext wr (wr.alloc (.cells #[(f 3),(f 4),(f 5)] 122)) from X_) y5;have D1:=H1.ext Y5;have D2:=H2.ext Y5;have D3:=HS.ext Y5;have f0:=D3.free 0;have f1:=D3.free 1;have f2:=D3.free 2;have z3:=D3.lt;obtain ⟨k0,k1,k2⟩:=D3.q3;have X5:=HX.trans Y5
   have n1:w.heap.size+1≠w.heap.size+3:=by omega
   have n2:w.heap.size+2≠w.heap.size+3:=by omega
   have G3:=hid (((D3.set 0 (.int .i64 (h0+h5))).set 1 (.int .i64 (h3+h6))).set 2 (.int .i64 (h4+h7)));have z4:=hid (((D1.other (a:=⟨w.heap.size+3,0,none⟩) n1 (.int .i64 (h0+h5))).other (a:=⟨w.heap.size+3,1,none⟩) n1 (.int .i64 (h3+h6))).other (a:=⟨w.heap.size+3,2,none⟩) n1 (.int .i64 (h4+h7)));have z5:=hid (((D2.other (a:=⟨w.heap.size+3,0,none⟩) n2 (.int .i64 (h0+h5))).other (a:=⟨w.heap.size+3,1,none⟩) n2 (.int .i64 (h3+h6))).other (a:=⟨w.heap.size+3,2,none⟩) n2 (.int .i64 (h4+h7)));have GX:=hid (show Ext w (((w5.setCell ⟨w.heap.size+3,0,none⟩ (.int .i64 (h0+h5))).setCell ⟨w.heap.size+3,1,none⟩ (.int .i64 (h3+h6))).setCell ⟨w.heap.size+3,2,none⟩ (.int .i64 (h4+h7))) from S_);clear D1 D2 D3 X5 Y5 y3 y4 y5 x3 x4 x5 a0 a1 a2 c0;refine st_ fun K hK=>?_;go_wp2_with fail;refine l_ hK ?_;clear hK K;refine aC ?_;go_wp2;go_roundw
   case rel=>exact ⟨2,by omega,by go_num,GX,z4,z5,fun h=>absurd h (by decide),fun h=>absurd h (by decide),fun _=>G3.out,fun h=>absurd h (by decide),fun h=>absurd h (by decide)⟩
   case measure=>simp [intOf]
  ·have HS:=hid (S2 rfl)
   obtain ⟨a0,a1,a2⟩:=HS.q3;have zs:=HS.lt;have c0:=H2.cell 2 rfl;clear S0 S1 S2 S3 S4;go_wp2_with fail;refine aA [([0,1,3,4,5],2),([],6),([],7),([],8)] 8 (wr.heap.size+1) (by kernel_rfl) (by kernel_rfl) ?_;refine st_ fun K hK=>?_;go_wp2_with fail;refine r_ (eP l4 l5 l6 _) fun w3 x3=>?_;have y3:Ext (wr.alloc (.cells #[(f 6),(f 7),(f 8)] 122)) w3:=aQ3 (aRz (aQ6 _)) x3;go_wp2_with fail;refine k_ hK ?_;clear hK K;refine st_ fun K hK=>?_;go_wp2_with fail;refine r_ (iY j9 k3 k4 _) fun w4 x4=>?_;have y4:=y3.trans x4;go_wp2_with fail;refine k_ hK ?_;clear hK K;refine st_ fun K hK=>?_;go_wp2_with fail;refine r_ (nX i3 i4 i5 _) fun w5 x5=>?_;have y5:=y4.trans x5;go_wp2_with fail;refine k_ hK ?_;clear hK K;have Y5:Ext wr w5:=aQ3 (show Ext wr (wr.alloc (.cells #[(f 6),(f 7),(f 8)] 122)) from X_) y5;have D1:=H1.ext Y5;have D2:=H2.ext Y5;have D3:=HS.ext Y5;have f0:=D3.free 0;have f1:=D3.free 1;have f2:=D3.free 2;have z3:=D3.lt;obtain ⟨k0,k1,k2⟩:=D3.q3;have X5:=HX.trans Y5
   have n1:w.heap.size+1≠w.heap.size+3:=by omega
   have n2:w.heap.size+2≠w.heap.size+3:=by omega
   have G3:=hid (((D3.set 0 (.int .i64 (h0+h5+h8))).set 1 (.int .i64 (h3+h6+h9))).set 2 (.int .i64 (h4+h7+q0)));have z4:=hid (((D1.other (a:=⟨w.heap.size+3,0,none⟩) n1 (.int .i64 (h0+h5+h8))).other (a:=⟨w.heap.size+3,1,none⟩) n1 (.int .i64 (h3+h6+h9))).other (a:=⟨w.heap.size+3,2,none⟩) n1 (.int .i64 (h4+h7+q0)));have z5:=hid (((D2.other (a:=⟨w.heap.size+3,0,none⟩) n2 (.int .i64 (h0+h5+h8))).other (a:=⟨w.heap.size+3,1,none⟩) n2 (.int .i64 (h3+h6+h9))).other (a:=⟨w.heap.size+3,2,none⟩) n2 (.int .i64 (h4+h7+q0)));have GX:=hid (show Ext w (((w5.setCell ⟨w.heap.size+3,0,none⟩ (.int .i64 (h0+h5+h8))).setCell ⟨w.heap.size+3,1,none⟩ (.int .i64 (h3+h6+h9))).setCell ⟨w.heap.size+3,2,none⟩ (.int .i64 (h4+h7+q0))) from S_);clear D1 D2 D3 X5 Y5 y3 y4 y5 x3 x4 x5 a0 a1 a2 c0;refine st_ fun K hK=>?_;go_wp2_with fail;refine l_ hK ?_;clear hK K;refine aC ?_;go_wp2;go_roundw
   case rel=>exact ⟨3,by omega,by go_num,GX,z4,z5,fun h=>absurd h (by decide),fun h=>absurd h (by decide),fun h=>absurd h (by decide),fun _=>G3.out,fun h=>absurd h (by decide)⟩
   case measure=>simp [intOf]
  ·have HS:=hid (S3 rfl)
   obtain ⟨a0,a1,a2⟩:=HS.q3;have zs:=HS.lt;have c0:=H2.cell 3 rfl;clear S0 S1 S2 S3 S4;go_wp2_with fail;refine aA [([0,1,3,4,5],2),([],6),([],7),([],8)] 8 (wr.heap.size+1) (by kernel_rfl) (by kernel_rfl) ?_;refine st_ fun K hK=>?_;go_wp2_with fail;refine r_ (eP l7 l8 l9 _) fun w3 x3=>?_;have y3:Ext (wr.alloc (.cells #[(f 9),(f 10),(f 11)] 122)) w3:=aQ3 (aRz (aQ6 _)) x3;go_wp2_with fail;refine k_ hK ?_;clear hK K;refine st_ fun K hK=>?_;go_wp2_with fail;refine r_ (iY k5 k6 k7 _) fun w4 x4=>?_;have y4:=y3.trans x4;go_wp2_with fail;refine k_ hK ?_;clear hK K;refine st_ fun K hK=>?_;go_wp2_with fail;refine r_ (nX i6 i7 i8 _) fun w5 x5=>?_;have y5:=y4.trans x5;go_wp2_with fail;refine k_ hK ?_;clear hK K;have Y5:Ext wr w5:=aQ3 (show Ext wr (wr.alloc (.cells #[(f 9),(f 10),(f 11)] 122)) from X_) y5;have D1:=H1.ext Y5;have D2:=H2.ext Y5;have D3:=HS.ext Y5;have f0:=D3.free 0;have f1:=D3.free 1;have f2:=D3.free 2;have z3:=D3.lt;obtain ⟨k0,k1,k2⟩:=D3.q3;have X5:=HX.trans Y5
   have n1:w.heap.size+1≠w.heap.size+3:=by omega
   have n2:w.heap.size+2≠w.heap.size+3:=by omega
   have G3:=hid (((D3.set 0 (.int .i64 (h0+h5+h8+q4))).set 1 (.int .i64 (h3+h6+h9+q5))).set 2 (.int .i64 (h4+h7+q0+q6)));have z4:=hid (((D1.other (a:=⟨w.heap.size+3,0,none⟩) n1 (.int .i64 (h0+h5+h8+q4))).other (a:=⟨w.heap.size+3,1,none⟩) n1 (.int .i64 (h3+h6+h9+q5))).other (a:=⟨w.heap.size+3,2,none⟩) n1 (.int .i64 (h4+h7+q0+q6)));have z5:=hid (((D2.other (a:=⟨w.heap.size+3,0,none⟩) n2 (.int .i64 (h0+h5+h8+q4))).other (a:=⟨w.heap.size+3,1,none⟩) n2 (.int .i64 (h3+h6+h9+q5))).other (a:=⟨w.heap.size+3,2,none⟩) n2 (.int .i64 (h4+h7+q0+q6)));have GX:=hid (show Ext w (((w5.setCell ⟨w.heap.size+3,0,none⟩ (.int .i64 (h0+h5+h8+q4))).setCell ⟨w.heap.size+3,1,none⟩ (.int .i64 (h3+h6+h9+q5))).setCell ⟨w.heap.size+3,2,none⟩ (.int .i64 (h4+h7+q0+q6))) from S_);clear D1 D2 D3 X5 Y5 y3 y4 y5 x3 x4 x5 a0 a1 a2 c0;refine st_ fun K hK=>?_;go_wp2_with fail;refine l_ hK ?_;clear hK K;refine aC ?_;go_wp2;go_roundw
   case rel=>exact ⟨4,by omega,by go_num,GX,z4,z5,fun h=>absurd h (by decide),fun h=>absurd h (by decide),fun h=>absurd h (by decide),fun h=>absurd h (by decide),fun _=>G3.out⟩
   case measure=>simp [intOf]
  ·have HS:=hid (S4 rfl)
   obtain ⟨a0,a1,a2⟩:=HS.q3;have zs:=HS.lt;have EN:=hid en;clear S0 S1 S2 S3 S4;go_wp2_with fail;refine r_ (aDf I0 I1 I2 rfl rfl rfl _) fun w3 x3=>?_;have D1:=H1.ext x3;have f0:=D1.free 0;have f1:=D1.free 1;have f2:=D1.free 2;have z3:=D1.lt;obtain ⟨k0,k1,k2⟩:=D1.q3;have X5:=HX.trans x3;go_wp2;exact bodyPost_ret (v:=.agg #[.int .i64 (bI (h0+h5+h8+q4) nn),.int .i64 (bI (h3+h6+h9+q5) nn),.int .i64 (bI (h4+h7+q0+q6) nn)]) (by simp [results,results166,go_sem, *]) rfl ⟨rfl,S_⟩
@[go_sem] theorem aO5 {a:Addr} {m:Mode} (fn:Fn) (first captured:Array Value):(store a (.func fn first captured) m).run P w=stored P w a (.func fn first captured) m:=run_store P w a _ m rfl
theorem wE (c:Cam) (w:World):Calls aQ2 268 #[c.V] w fun e w'=>∃B,e = .returned (aMe c.deep B)/\B<w'.heap.size/\w'.cell? ⟨B,2,none⟩=some (.int .i64 c.zoom)/\Ext w w':=by
 obtain ⟨cw,ch,zo,ne,de,le,fo⟩:=c;have h0:∀(fn:Fn) (first cap:Array Value) (w:World),(aV1 fn first cap).run aQ2 w = .ok (.func fn first cap) w:=fun _ _ _ _=>rfl
 show Calls aQ2 268 #[.agg #[cw,ch,zo,ne,.bool de,le,fo]] w _
 cases de
 ·go_enter func268,ntmps268
  go_wp2;go_ret;exact ⟨w.heap.size,rfl,by simp,by simp [go_sem],X_⟩
 ·go_enter func268,ntmps268
  go_wp2;go_ret;exact ⟨w.heap.size,rfl,by simp,by simp [go_sem],X_⟩
theorem aFq {N:Nat} (w:World) (hB:N<=B) (t u v:Value):aM 0 N w (((w.drew.setCell ⟨B,0,none⟩ t).setCell ⟨B,1,none⟩ u).setCell ⟨B,2,none⟩ v):=fun k _ hk=>by
 have hk:B≠k:=by omega
 rw [aQ7 _ _ _ _ (by exact hk.symm),aQ7 _ _ _ _ (by exact hk.symm),aQ7 _ _ _ _ (by exact hk.symm)]
 rfl
theorem aDl (c:Cam) (x y z lx ly:Int) (h:c.prB ⟨x,y,z⟩ lx ly=true) (w:World) :
  R_ 245 #[c.V,.agg #[x,y,z],lx,ly] w (.tuple #[(c.pr ⟨x,y,z⟩ lx ly).V,.bool true]):=by
 unfold Cam.prB at h;simp only [aRd,decide_eq_true_eq] at h;obtain ⟨⟨⟨⟨hc,hv⟩,hx⟩,hy⟩,hz⟩:=h;have OK:=Cam.okB_iff.1 hc;have h5:=aAi.1 hv;have q0:=aG.1 hx;have q1:=aG.1 hy;have hn:=OK.near
 obtain ⟨px,h3⟩:∃n,c.pj x z lx (c.w*8)=n:=⟨_,rfl⟩
 obtain ⟨py,h4⟩:∃n,c.pj y z ly (c.h*8)=n:=⟨_,rfl⟩
 have hV:(c.pr ⟨x,y,z⟩ lx ly).V = .agg #[px,py,z]:=by
  unfold Cam.pr V3.V;simp only [h3,h4]
 rw [hV];have HC:=hid hc;have HV:=hid hv;have q4:=hid hx;have q5:=hid hy;have HO:=hid OK;have P1:=hid h3;have P2:=hid h4;have VX:=hid h5.1;have VY:=hid h5.2.1;have VZ:=hid (show 1<=z/\z<=1000000 by omega);have LX:=hid q0;have LY:=hid q1;have WB:=hid OK.w;have HB:=hid OK.h;have q8:decide (z<c.near)=false:=decide_eq_false (by omega);clear hc hv hx hy OK h5 q0 q1 hn h3 h4 hV hz;have q6:∀(fn:Fn) (first cap:Array Value) (w:World),(aV1 fn first cap).run aQ2 w = .ok (.func fn first cap) w:=fun _ _ _ _=>rfl;have h7:=aQ8 w 35 c;have h1:=aQ8 (w.alloc (.cells c 35)) 122 [x,y,z];have h2:=aQ8 ((w.alloc (.cells c 35)).alloc (.cells #[x,y,z] 122)) 122 [(),(),()];simp only [aQy] at h1 h2;have B0:=hid ((h7.alloc (.cells #[x,y,z] 122)).alloc (.cells #[(),(),()] 122));have B1:=hid (h1.alloc (.cells #[(),(),()] 122));have B2:=hid h2;have Y0:=hid (show Ext w (((w.alloc (.cells c 35)).alloc (.cells #[x,y,z] 122)).alloc (.cells #[(),(),()] 122)) from X_);clear h7 h1 h2
 show Calls aQ2 245 #[.agg c,.agg #[x,y,z],lx,ly] w _
 go_enter func245,ntmps245;go_wp2_with fail;refine r_ (aW HC.out _) fun w1 x1=>?_;have C0:=hid (B0.out.ext x1);have C1:=hid (B1.out.ext x1);have C2:=hid (B2.out.ext x1);have Y1:=hid (Y0.out.trans x1);obtain ⟨v0,v1,v2⟩:=C1.out.q3;have c3:=C0.out.cell 3 rfl;have z0:=C0.out.lt;have z1:=C1.out.lt;clear B0 B1 B2 Y0 x1;go_wp2_with fail;refine r_ (dM (x:=x) (y:=y) (z:=z) _) fun w2 x2=>?_;rw [HV.out];have D0:=hid (C0.out.ext x2);have D1:=hid (C1.out.ext x2);have D2:=hid (C2.out.ext x2);have Y2:=hid (Y1.out.trans x2);have zx:=x2.size;clear C0 C1 C2 Y1 v0 v1 v2 c3 x2;have v2:=D1.out.cell 2 rfl;obtain ⟨c0,c1,c2,c3,c4,c5,c6⟩:=D0.out.q7;go_wp2_with (go_at_call 92;with_reducible first|(refine z_ (aH q4.out _) ?_)|(refine z_ (aH q5.out _) ?_));refine (wE c _).mono ?_;rintro e w3 ⟨Cp,rfl,h6,h8,x3⟩
 obtain ⟨FN,h0⟩:∃FN:Fn,aMe c.deep Cp = .func FN #[] #[.pointer (some ⟨Cp,0,none⟩)]:=⟨_,rfl⟩
 rw [h0];have HF:=hid h0;have y4:Ext w3 (w3.alloc (.cells #[.func FN #[] #[.pointer (some ⟨Cp,0,none⟩)]] 147)):=X_;have hq:=(aQ8 w3 147 [.func FN #[] #[.pointer (some ⟨Cp,0,none⟩)]]).cell 0 rfl;have E0:=hid ((D0.out.ext x3).ext y4);have E1:=hid ((D1.out.ext x3).ext y4);have E2:=hid ((D2.out.ext x3).ext y4);have cz:=(y4.cells.1 _ _ h6).trans h8;have Y4:=hid (Y2.out.trans (x3.trans y4));have zs:=x3.size;have HQ:=hid hq;have CZ:=hid cz;clear h0 h6 h8 x3 D0 D1 D2 Y2 v2 c0 c1 c2 c3 c4 c5 c6 hq cz y4;go_upto_region 5 with fail
 obtain ⟨w4,h9⟩:∃w4,w3.alloc (.cells #[.func FN #[] #[.pointer (some ⟨Cp,0,none⟩)]] 147)=w4:=⟨_,rfl⟩
 rw [h9] at E0 E1 E2 CZ HQ Y4 ⊢;clear h9;obtain ⟨c0,c1⟩:=E0.out.q2;obtain ⟨v0,v1,v2⟩:=E1.out.q3;have z4:=E2.out.lt;have f0:=E2.out.free 0;have f1:=E2.out.free 1;have f2:=E2.out.free 2;obtain ⟨k0,k1,k2⟩:=E2.out.q3;refine aA [([0,1,2,3,4,5,7,8,9,10,11,12,14,15],6),([],13),([16],17),([],18)] 18 (w.heap.size+2) (by kernel_rfl) (by kernel_rfl) ?_;refine st_ fun K hK=>?_;go_wp2_with fail;refine z_ (wD HO.out VX.out VZ.out LX.out WB.out P1.out w.heap.size Cp (w.heap.size+1) w3.heap.size w4.drew CZ.out (E0.out.cell 5 rfl) (E0.out.cell 6 rfl) v2 (HQ.out.trans (congrArg some HF.out.symm))) ?_;go_wp2_with fail;refine hK _ _ (.inr (fun _ _ _=>rfl)) ?_;clear hK K;refine st_ fun K hK=>?_;go_wp2_with fail;refine z_ (wD HO.out VY.out VZ.out LY.out HB.out P2.out w.heap.size Cp (w.heap.size+1) w3.heap.size w4.drew CZ.out (E0.out.cell 5 rfl) (E0.out.cell 6 rfl) v2 (HQ.out.trans (congrArg some HF.out.symm))) ?_;go_wp2_with fail;refine hK _ _ (.inr (fun _ _ _=>rfl)) ?_;clear hK K;refine st_ fun K hK=>?_;go_wp2_with fail;refine hK _ _ (.inr (aFq _ (aQv _) _ _ _)) ?_;clear hK K;refine st_ fun K hK=>?_;go_wp2_with fail;refine l_ hK ?_;clear hK K;refine aC ?_;have hX:=Y4.out;go_wp2;exact bodyPost_ret (v:=.tuple #[.agg #[px,py,z],.bool true]) (by simp [results,results245,go_sem, *]) rfl ⟨rfl,S_⟩
theorem aFr (c:Cam) (x y z lx ly:Int) (h:c.prB ⟨x,y,z⟩ lx ly=false) (w:World) :
  R_ 245 #[c.V,.agg #[x,y,z],lx,ly] w (.tuple #[.agg #[(),(),()],.bool false]):=by
 unfold Cam.prB at h
 obtain ⟨b1,h1⟩:∃b,c.okB=b:=⟨_,rfl⟩
 obtain ⟨b2,h2⟩:∃b,cU x y z=b:=⟨_,rfl⟩
 obtain ⟨b3,h3⟩:∃b,inB lx (-16) 16=b:=⟨_,rfl⟩
 obtain ⟨b4,h4⟩:∃b,inB ly (-16) 16=b:=⟨_,rfl⟩
 obtain ⟨b5,h5⟩:∃b,decide (c.near<=z)=b:=⟨_,rfl⟩
 simp only [h1,h2,h3,h4,h5] at h
 have h6:decide (z<c.near) = !b5:=by
  rw [<-h5]
  by_cases q:c.near<=z
  ·rw [decide_eq_true q,decide_eq_false (by omega)];rfl
  ·rw [decide_eq_false q,decide_eq_true (by omega)];rfl
 have HC:=hid h1;have HV:=hid h2;have h9:=hid h3;have q0:=hid h4;clear h1 h2 h3 h4 h5;have h8:=aQ8 w 35 c;have h0:=aQ8 (w.alloc (.cells c 35)) 122 [x,y,z];have h7:=aQ8 ((w.alloc (.cells c 35)).alloc (.cells #[x,y,z] 122)) 122 [(),(),()];simp only [aQy] at h0 h7;have B0:=hid ((h8.alloc (.cells #[x,y,z] 122)).alloc (.cells #[(),(),()] 122));have B1:=hid (h0.alloc (.cells #[(),(),()] 122));have B2:=hid h7;have Y0:=hid (show Ext w (((w.alloc (.cells c 35)).alloc (.cells #[x,y,z] 122)).alloc (.cells #[(),(),()] 122)) from X_);clear h8 h0 h7
 show Calls aQ2 245 #[.agg c,.agg #[x,y,z],lx,ly] w _
 go_enter func245,ntmps245;go_wp2_with fail;refine r_ (aW HC.out _) fun w1 x1=>?_
 cases b1
 ·have C2:=B2.out.ext x1
  have f0:=C2.free 0;have f1:=C2.free 1;have f2:=C2.free 2;obtain ⟨k0,k1,k2⟩:=C2.q3;have z2:=C2.lt;have hX:=Y0.out.trans x1;go_wp2;exact bodyPost_ret (v:=.tuple #[.agg #[(),(),()],.bool false]) (by simp [results,results245,go_sem, *]) rfl ⟨rfl,S_⟩
 ·have C0:=hid (B0.out.ext x1)
  have C1:=hid (B1.out.ext x1);have C2:=hid (B2.out.ext x1);have Y1:=hid (Y0.out.trans x1);obtain ⟨v0,v1,v2⟩:=C1.out.q3;have z0:=C0.out.lt;have z1:=C1.out.lt;clear B0 B1 B2 Y0 x1;go_wp2_with fail;refine r_ (dM (x:=x) (y:=y) (z:=z) _) fun w2 x2=>?_;rw [HV.out];have D0:=C0.out.ext x2;have D1:=C1.out.ext x2;have D2:=C2.out.ext x2;have hX:=Y1.out.trans x2;have c3:=D0.cell 3 rfl;have q2:=D1.cell 2 rfl;have f0:=D2.free 0;have f1:=D2.free 1;have f2:=D2.free 2;obtain ⟨k0,k1,k2⟩:=D2.q3;have y0:=D0.lt;have y1:=D1.lt;have y2:=D2.lt;clear C0 C1 C2 Y1 v0 v1 v2 x2 D0 D1 D2
  cases b2
  rotate_left
  cases b3
  rotate_left
  cases b4
  rotate_left
  cases b5
  rotate_left
  ·cases h
  all_goals
   try simp only [Bool.not_false,Bool.not_true] at h6
   go_wp2_with (go_at_call 92;with_reducible first|(refine z_ (aH h9.out _) ?_)|(refine z_ (aH q0.out _) ?_));exact bodyPost_ret (v:=.tuple #[.agg #[(),(),()],.bool false]) (by simp [results,results245,go_sem, *]) rfl ⟨rfl,S_⟩
def kZ (a:Act):List (Nat×Value)->Act
 | []=>a
 | (d,v)::r=>kZ (a.put (some d) v) r
theorem aHh (a:Act) (d:Nat) (v:Value) (i:Nat):(a.put (some d) v).tmps[i]?=if d=i then (a.tmps[i]?).map (fun _=>v) else a.tmps[i]?:=by
 show (a.tmps.setIfInBounds d v)[i]?=_
 rw [aVr]
 split
 ·rename_i e
  subst e
  split
  ·rename_i h
   rw [aUd h]
   rfl
  ·rename_i h
   rw [aWq (by omega)]
   rfl
 ·rfl
theorem aIo:∀(L:List (Nat×Value)) (a:Act),(kZ a L).tmps.size=a.tmps.size
 | [],_=>rfl
 | (d,v)::r,a=>by
  unfold kZ;rw [aIo r]
  show (a.tmps.setIfInBounds d v).size=_
  rw [Array.size_setIfInBounds]
theorem jY:∀(L:List (Nat×Value)) (a:Act),(kZ a L).defers=a.defers
 | [],_=>rfl
 | (d,v)::r,a=>by
  unfold kZ;rw [jY r]
  rfl
theorem rP (us:Nat->Value) (i:Nat):∀(D:List Nat) (a:Act),(kZ a (D.map fun d=>(d,us d))).tmps[i]?=if i∈D then (a.tmps[i]?).map (fun _=>us i) else a.tmps[i]?
 | [],a=>by simp [kZ]
 | d::D,a=>by
  rw [aS4];unfold kZ;rw [rP us i D,aHh]
  by_cases e:d=i
  ·subst e
   rw [if_pos rfl,if_pos (aVm ..)]
   cases a.tmps[d]? <;> simp
  ·rw [if_neg e]
   by_cases h:i∈D
   ·rw [if_pos h,if_pos (aU7 _ h)]
   ·rw [if_neg h,if_neg (by simp [h];omega)]
theorem iC {α β : Type} {f : α->β}:∀{L:List α},(L.map f).Nodup->∀{x y : α},x∈L->y∈L->f x=f y->x=y
 | [],_,_,_,hx,_,_=>nomatch hx
 | a::L,h,x,y,hx,hy,e=>by
  rw [aS4,List.nodup_cons] at h
  rcases aRk.1 hx with rfl|hx'
  ·rcases aRk.1 hy with rfl|hy'
   ·rfl
   ·exact absurd (aS3.2 ⟨y,hy',e.symm⟩) h.1
  ·rcases aRk.1 hy with rfl|hy'
   ·exact absurd (aS3.2 ⟨x,hx',e⟩) h.1
   ·exact iC h.2 hx' hy' e
theorem aHi {a b:Act} (h1:∀i:Nat,a.tmps[i]?=b.tmps[i]?) (h2:a.defers=b.defers):a=b:=by
 cases a
 cases b
 simp only at h1 h2;subst h2
 congr 1
 exact aVk h1
theorem aJ9 (us:Nat->Value) (D:List Nat) (a:Act) {d:Nat} (hd:d∈D) (v:Value):(kZ a (D.map fun d=>(d,us d))).put (some d) v=kZ a (D.map fun j=>(j,if j=d then v else us j)):=by
 refine aHi (fun i=>?_) ?_
 ·rw [aHh,rP,rP (fun j=>if j=d then v else us j)]
  by_cases e:d=i
  ·subst e
   rw [if_pos rfl,if_pos hd,if_pos hd]
   cases a.tmps[d]? <;> simp
  ·rw [if_neg e]
   by_cases h:i∈D
   ·rw [if_pos h,if_pos h,if_neg (Ne.symm e)]
   ·rw [if_neg h,if_neg h]
 ·show (kZ a (D.map fun d=>(d,us d))).defers=_
  rw [jY,jY]
theorem aIp (D:List Nat) (a:Act):kZ a (D.map fun d=>(d,a.tmps.getD d undef))=a:=by
 refine aHi (fun i=>?_) (jY _ _);rw [rP (fun d=>a.tmps.getD d undef)]
 split
 ·cases h:a.tmps[i]? with
  | none=>rfl
  | some x=>simp [Array.getD_eq_getD_getElem?,h]
 ·rfl
theorem uD (i:Nat):∀(T:List Nat) (l:Array Bool),(dR T l)[i]?=if i∈T then (l[i]?).map (fun _=>true) else l[i]?
 | [],l=>by simp [dR]
 | t::T,l=>by
  unfold dR;rw [uD i T,aVr]
  by_cases e:t=i
  ·subst e
   rw [if_pos rfl,if_pos (aVm ..)]
   by_cases h:t<l.size
   ·rw [if_pos h,aUd h];split <;> rfl
   ·rw [if_neg h,aWq (by omega)];split <;> rfl
  ·rw [if_neg e]
   by_cases h:i∈T
   ·rw [if_pos h,if_pos (aU7 _ h)]
   ·rw [if_neg h,if_neg (by simp [h];omega)]
structure aKa where
 op:Nat
 dst:Nat
 good:Value->World->Prop
def vF (ops:Array Oper):Nat->Array Bool->List Nat->Bool
 | 0,_,R=>R.isEmpty
 | n+1,l,R=>(aSm .any ops l).all (fun i=>R.contains i&&vF ops n (l.setIfInBounds i true) (R.erase i)) && !(aSm .any ops l).isEmpty
section
variable {P : Program} {ops : Array Oper} {Q : Exit -> Act -> World -> Prop} {S : World -> Prop} {z fuel : Nat} {w0 : World} {a : Act} {l0 : Array Bool} {B : List aKa}
end
theorem aIq {N:Nat} {w0:World} {z:Nat} {l:Array Bool} {a:Act} (T:List Nat) (hB:(aUc ops&&fI .any ops z&&rF ops z T l)=true) (hS:aM 0 N w0 w)
  (h:wpQuiet P ops (fun w'=>∃d,w'=gQ N w0 d) (fun a'=>wpZ P ops (NoPanic Q) N w0 z fuel (dR T l) a' w) (T.filterMap (ops[·]?)) a):wpZ P ops (NoPanic Q) N w0 z (T.length+fuel) l a w:=by
 simp only [aRd] at hB;obtain ⟨⟨h1,h2⟩,h3⟩:=hB;exact oM h1 h2 ⟨_,oL hS⟩ T l a h3 (fun a' hk=>hk) h
section
variable {P : Program} {ops : Array Oper} {Q : Exit -> Act -> World -> Prop} {S : World -> Prop} {z fuel : Nat} {w0 : World} {a : Act} {l0 : Array Bool} {B : List aKa}
theorem aAm (hnd:(B.map (·.op)).Nodup) (hS:∀w',Ext w0 w'->S w')
  (hst:∀b∈B,∀v w w',b.good v w->Ext w w'->b.good v w')
  (hsp:∀b∈B,∀(us:Nat->Value) (w1:World),Ext w0 w1->∃o,ops[b.op]?=some o/\∀K:Act->World->Prop,(∀v w',Ext w1 w'->b.good v w'->(∀c∈B,∀u,c.good u w1->v≠u)->K ((kZ a ((B.map (·.dst)).map fun d=>(d,us d))).put (some b.dst) v) w')->wpList P ops (Exit.then K Q) [o] (kZ a ((B.map (·.dst)).map fun d=>(d,us d))) w1)
  (hdd:(B.map (·.dst)).Nodup)
  (hend:∀(us:Nat->Value) (w1:World),Ext w0 w1->(∀b∈B,b.good (us b.dst) w1)->(∀b∈B,∀c∈B,b.op≠c.op->us b.dst≠us c.dst)->jC P .any ops Q S z fuel (dR (B.map (·.op)) l0) (kZ a ((B.map (·.dst)).map fun d=>(d,us d))) w1) :
  ∀(n:Nat) (R:List Nat) (l:Array Bool) (us:Nat->Value) (w:World),n=R.length->R.Nodup->(∀i∈R,i∈B.map (·.op))->vF ops n l R=true->(∀i,l[i]?=if i∈B.map (·.op)/\i∉R then (l0[i]?).map (fun _=>true) else l0[i]?)->Ext w0 w->(∀b∈B,b.op∉R->b.good (us b.dst) w)->(∀b∈B,∀c∈B,b.op∉R->c.op∉R->b.op≠c.op->us b.dst≠us c.dst) ->
   jC P .any ops Q S z (n+fuel) l (kZ a ((B.map (·.dst)).map fun d=>(d,us d))) w
 | 0,R,l,us,w,hn,_,_,_,hl,hw,hg,hp=>by
  obtain rfl:R=[]:=List.length_eq_zero_iff.1 hn.symm
  have e:l=dR (B.map (·.op)) l0:=aVk fun i=>by
   rw [hl i,uD]
   by_cases h:i∈B.map (·.op)
   ·rw [if_pos ⟨h,aRe⟩,if_pos h]
   ·rw [if_neg (fun h'=>h h'.1),if_neg h]
  rw [aRt,e];exact hend us w hw (fun b hb=>hg b hb aRe) fun b hb c hc hne=>hp b hb c hc aRe aRe hne
 | n+1,R,l,us,w,hn,hR,hRB,hck,hl,hw,hg,hp=>by
  unfold vF at hck;simp only [aRd,aR5] at hck;obtain ⟨hall,hne⟩:=hck;rw [Nat.succ_add];refine ⟨fun h0=>?_,fun i hi=>?_⟩
  ·rw [h0] at hne;cases hne
  ·obtain ⟨hiR,hrec⟩:=hall i hi
   have hiR:i∈R:=by simpa using hiR
   obtain ⟨b,hb,rfl⟩:=aS3.1 (hRB i hiR);obtain ⟨o,ho,hK⟩:=hsp b hb us w hw
   have ht:=hK (fun a' w'=>(b.op=z\/S w')/\jC P .any ops Q S z (n+fuel) (l.setIfInBounds b.op true) a' w') (fun v w' hx hgv hfr=>by
    have h7:=hw.trans hx;refine ⟨.inr (hS _ h7),?_⟩;rw [aJ9 us _ _ (aS3.2 ⟨b,hb,rfl⟩)];refine aAm hnd hS hst hsp hdd hend n (R.erase b.op) (l.setIfInBounds b.op true) (fun j=>if j=b.dst then v else us j) w' ?_ (hR.erase _) (fun j hj=>hRB j (List.mem_of_mem_erase hj)) hrec (fun j=>?_) h7 (fun c hc hcR=>?_) (fun c hc e he hcR heR hne=>?_)
    ·rw [List.length_erase_of_mem hiR];omega
    ·rw [aVr]
     by_cases e:b.op=j
     ·subst e
      have hc:b.op∈B.map (·.op)/\b.op∉R.erase b.op:=⟨hRB _ hiR,hR.not_mem_erase⟩
      rw [if_pos rfl,if_pos hc];have h0:=hl b.op;rw [if_neg (fun h=>h.2 hiR)] at h0
      by_cases hs:b.op<l.size
      ·rw [if_pos hs]
       rw [aUd hs] at h0;rw [<-h0]
       rfl
      ·rw [if_neg hs]
       rw [aWq (by omega)] at h0;rw [<-h0]
       rfl
     ·rw [if_neg e,hl j]
      have:(j∉R.erase b.op)↔(j∉R):=by
       rw [aXr (Ne.symm e)]
      simp only [this]
    ·by_cases e:c=b
     ·subst e
      show c.good (if c.dst=c.dst then v else us c.dst) w'
      rw [if_pos rfl];exact hgv
     ·have hne:c.dst≠b.dst:=fun h=>e (iC hdd hc hb h)
      have h5:c.op≠b.op:=fun h=>e (iC hnd hc hb h)
      show c.good (if c.dst=b.dst then v else us c.dst) w'
      rw [if_neg hne];refine hst c hc _ _ _ (hg c hc fun h=>hcR ?_) hx;exact (aXr h5).2 h
    ·have h4:∀x∈B,x.op∉R.erase b.op->x≠b->x.op∉R:=fun x hx' hxR hxb h=>hxR ((aXr fun h2=>hxb (iC hnd hx' hb h2)).2 h)
     show (if c.dst=b.dst then v else us c.dst)≠(if e.dst=b.dst then v else us e.dst)
     by_cases h1:c=b
     ·subst h1
      have h2:e≠c:=fun h=>hne (by rw [h]);rw [if_pos rfl,if_neg fun h=>h2 (iC hdd he hc h)];exact hfr e he _ (hg e he (h4 e he heR h2))
     ·rw [if_neg fun h=>h1 (iC hdd hc hb h)]
      by_cases h2:e=b
      ·subst h2
       rw [if_pos rfl];exact (hfr c hc _ (hg c hc (h4 c hc hcR h1))).symm
      ·rw [if_neg fun h=>h2 (iC hdd he hb h)]
       exact hp c hc e he (h4 c hc hcR h1) (h4 e he heR h2) hne)
   unfold wpOp;simp only [ho];unfold wpList at ht
   split
   ·rename_i h6
    rw [if_pos h6] at ht
    rcases ht with ht|⟨h1,h2⟩
    ·refine .inl ?_
     have h3:=iX ht;exact h3
    ·exact .inr ⟨h1,h2⟩
   ·rename_i h6
    rw [if_neg h6] at ht;exact ht
end
theorem aFs {P:Program} {ops:Array Oper} {Q:Exit->Act->World->Prop} {z fuel:Nat} {w0 w:World} {a:Act} {l:Array Bool} (B:List aKa) (n:Nat) (hn:B.length=n) (hw:Ext w0 w)
  (hck:vF ops n l (B.map (·.op))=true) (hnd:(B.map (·.op)).Nodup) (hdd:(B.map (·.dst)).Nodup)
  (hst:∀b∈B,∀v w w',b.good v w->Ext w w'->b.good v w')
  (hsp:∀b∈B,∀(us:Nat->Value) (w1:World),Ext w0 w1->∃o,ops[b.op]?=some o/\∀K:Act->World->Prop,(∀v w',Ext w1 w'->b.good v w'->(∀c∈B,∀u,c.good u w1->v≠u)->K ((kZ a ((B.map (·.dst)).map fun d=>(d,us d))).put (some b.dst) v) w')->wpList P ops (Exit.then K (NoPanic Q)) [o] (kZ a ((B.map (·.dst)).map fun d=>(d,us d))) w1)
  (hend:∀(us:Nat->Value) (w1:World),Ext w0 w1->(∀b∈B,b.good (us b.dst) w1)->(∀b∈B,∀c∈B,b.op≠c.op->us b.dst≠us c.dst)->wpZ P ops (NoPanic Q) w0.heap.size w0 z fuel (dR (B.map (·.op)) l) (kZ a ((B.map (·.dst)).map fun d=>(d,us d))) w1) :
  wpZ P ops (NoPanic Q) w0.heap.size w0 z (n+fuel) l a w:=by
 have h:=aAm (P:=P) (Q:=NoPanic Q) (S:=fun w'=>∃d,w'=gQ w0.heap.size w0 d) (z:=z) (fuel:=fuel) (l0:=l) hnd (fun w' hx=>⟨_,oL (hx.same (aQv _))⟩) hst hsp hdd hend n (B.map (·.op)) l (fun d=>a.tmps.getD d undef) w (by rw [aSh];exact hn.symm) hnd (fun i hi=>hi) hck (fun i=>by rw [if_neg (fun h=>h.2 h.1)]) hw (fun b hb h=>absurd (aS3.2 ⟨b,hb,rfl⟩) h) (fun b hb c hc h=>absurd (aS3.2 ⟨b,hb,rfl⟩) h);rw [aIp] at h;exact h
section
open Go.RowKit Go.Shelf
attribute [local go_sem] aWk
def uU (v:V3):List Value:=[v.x,v.y,v.z]
theorem gB {f:Nat->Int} {i j n X Y Z:Int} (h:evP f i j n=⟨X,Y,Z⟩) (hn:1<=n/\n<=64) (hi:0<=i/\i<=n) (hj:0<=j/\j<=n) (w:World) :
  R_ 166 #[.agg f,i,j,n] w (.agg #[X,Y,Z]):=by
 have:=zD f i j n hn hi hj w;rw [h] at this;exact this
theorem nZ {c:Cam} {x y z lx ly a b d:Int} (h:c.prB ⟨x,y,z⟩ lx ly=true) (hp:c.pr ⟨x,y,z⟩ lx ly=⟨a,b,d⟩) (w:World) :
  R_ 245 #[.agg c,.agg #[x,y,z],lx,ly] w (.tuple #[.agg #[a,b,d],.bool true]):=by
 have:=aDl c x y z lx ly h w;rw [hp] at this;exact this
theorem oA {c:Cam} {x y z lx ly:Int} (h:c.prB ⟨x,y,z⟩ lx ly=false) (w:World) :
  R_ 245 #[.agg c,.agg #[x,y,z],lx,ly] w (.tuple #[.agg #[(),(),()],.bool false]):=aFr c x y z lx ly h w
theorem aF.fresh0 {α : Type} {cs : α->List Value} {lo g:Nat} {e:TypeId} {sz:Nat} {w:World} (hl:lo<=g) (h:Blk w g e []):aF cs lo e sz w (.slice (some ⟨g,0,none⟩) 0 0) []:=
 ⟨by simp,.inr ⟨g,0,#[],rfl,hl,h,aQv _,by unfold maxLen;omega,by simp,by simp⟩⟩
theorem aKb:(Tryz.prog.info? 122).map (fun i=>(i.zero,i.size,i.bytes))=some (some (.agg #[(),(),()]),3,24):=by kernel_rfl
theorem aKc (p:V3):∀u∈uU p,u.oneCell'=true:=by
 intro u hu;simp only [uU,aRk,aRe,or_false] at hu
 rcases hu with rfl|rfl|rfl <;> rfl
theorem lS (w:World) {ops:Array Oper} {rest:List Oper} {o:Oper} {a:Act} {Q:Exit->Act->World->Prop} (hg:o.guard=none) (s x:Operand)
  (hop:o.op=Op.call { callee:=Callee.builtin Builtin.append,args:=#[s,x],argTypes:=#[255,255] }) (lo:Nat) (v:Value) (xs:List V3) (hs:a.eval s=v) (hown:aF uU lo 122 3 w v xs)
  (y:V3) (b:Nat) (hx:a.eval x = .slice (some ⟨b,0,none⟩) 1 1) (hcell:∀j,j<3->w.cell? ⟨b,j,none⟩=(uU y)[j]?) (hlen:xs.length<1000000) (hlo:lo<=w.heap.size)
  (hK:∀v' w',aF uU lo 122 3 w' v' (xs++[y])->w.grownBy w' v.ownBlock->wpList aQ2 ops Q rest (a.put o.dst v') w'):wpList aQ2 ops Q (o::rest) a w:=
 dV uU 122 3 24 _ w hg s x 255 hop underlying255 aKb rfl (by decide) (by decide) (fun _=>rfl) lo v xs hs hown y b hx hcell (aKc y) hlen hlo hK
theorem aHj (w:World) (a b d:Int):∀j,j<3->(w.alloc (.cells #[a,b,d] 122)).cell? ⟨w.heap.size,j,none⟩=(uU ⟨a,b,d⟩)[j]?:=by
 intro j hj
 rcases (show j=0\/j=1\/j=2 by omega) with rfl|rfl|rfl <;> simp [go_sem,uU]
def wF (c:Cam) (f:Nat->Int) (n:Nat) (s:Smp) (u v:Nat) (pre:List (Fin 2×Fin 2)):List V3:=pre.map fun p=>cW c f n s (u+(p.1:Nat)) (v+(p.2:Nat))
theorem aIr (c:Cam) (f:Nat->Int) (n:Nat) (s:Smp) (u v:Nat) (pre:List (Fin 2×Fin 2)) (x:Fin 2×Fin 2):wF c f n s u v (pre++[x])=wF c f n s u v pre++[cW c f n s (u+(x.1:Nat)) (v+(x.2:Nat))]:=by unfold wF;rw [List.map_append,List.map_singleton]
def okC (c:Cam) (f:Nat->Int) (n:Nat) (s:Smp) (u v:Nat) (pre:List (Fin 2×Fin 2)):Prop:=∀p∈pre,lN c f n s (u+(p.1:Nat)) (v+(p.2:Nat))=true
def aIs (a b d:V3) (u v n:Int):List Value:=[a.x,a.y,a.z,b.x,b.y,b.z,d.x,d.y,d.z,u,v,n]
def aHk (c:Cam) (f:Nat->Int) (n:Nat) (s:Smp) (u v:Nat) (lo:Nat) (w:World) (r:Value):Prop:=
 (lO c f n s u v=false/\r = .slice none 0 0) \/
 (lO c f n s u v=true/\∃g,lo<=g/\r = .slice (some ⟨g,0,none⟩) 2 2/\Blk w g 155 (aIs (cW c f n s u v) (cW c f n s (u+1) v) (cW c f n s u (v+1)) u v n++aIs (cW c f n s (u+1) v) (cW c f n s (u+1) (v+1)) (cW c f n s u (v+1)) u v n))
def uE (c:Cam) (f:Nat->Int) (n:Nat) (s:Smp) (u v:Nat) (w:World):List (Nat×TypeId×List Value):=
 [(w.heap.size,35,c),(w.heap.size+1,125,f),(w.heap.size+2,3,[(u:Nat)]),(w.heap.size+3,3,[(v:Nat)]),(w.heap.size+4,3,[(n:Nat)]),(w.heap.size+5,3,[s.lx]),(w.heap.size+6,3,[s.ly]),(w.heap.size+7,148,[.slice none 0 0]),(w.heap.size+10,3,[.int .i64 2])]
theorem aKd (c:Cam) (f:Nat->Int) (n:Nat) (s:Smp) (u v:Nat) (w:World):∀p∈uE c f n s u v w,p.2.1≠122/\p.1≠w.heap.size+9:=by
 intro p hp;simp only [uE,aRk,aRe,or_false] at hp
 rcases hp with rfl|rfl|rfl|rfl|rfl|rfl|rfl|rfl|rfl <;> exact ⟨by simp,by simp⟩
theorem nD {w:World} {b:Nat} {t:TypeId} {x y z:Value} (h:Blk w b t [x,y,z]):b<w.heap.size/\w.cell? ⟨b,0,none⟩=some x/\w.cell? ⟨b,1,none⟩=some y/\w.cell? ⟨b,2,none⟩=some z/\w.frozen? ⟨b,0,none⟩=false/\w.frozen? ⟨b,1,none⟩=false/\w.frozen? ⟨b,2,none⟩=false:=
 ⟨h.lt,h.cell 0 rfl,h.cell 1 rfl,h.cell 2 rfl,h.free 0,h.free 1,h.free 2⟩
theorem aHl {c:Cam} {f:Nat->Int} {n:Nat} {s:Smp} {u v i j:Nat} (hi:i<2) (hj:j<2) (h:lN c f n s (u+i) (v+j)=false):lO c f n s u v=false:=by
 unfold lO
 rcases (show i=0\/i=1 by omega) with rfl|rfl <;> rcases (show j=0\/j=1 by omega) with rfl|rfl <;> (try simp only [Nat.add_zero] at h) <;> simp [h]
theorem aKe {c:Cam} {f:Nat->Int} {n:Nat} {s:Smp} {u v:Nat} (h:okC c f n s u v (cC 2 (by decide) (2*2))):lO c f n s u v=true:=by
 have h0:=h (0,0) (by decide);have h2:=h (1,0) (by decide);have h1:=h (0,1) (by decide);have h3:=h (1,1) (by decide);unfold lO;simp only [aRd];exact ⟨⟨⟨h0,h2⟩,h1⟩,h3⟩
def GB (W:World):Value->World->Prop:=fun v w=>∃b,v = .pointer (some ⟨b,0,none⟩)/\W.heap.size<=b/\Blk w b 122 [(),(),()]
theorem GB.ext {W:World} {v:Value} {w w':World} (h:GB W v w) (x:Ext w w'):GB W v w':=by
 obtain ⟨b,h1,h2,h3⟩:=h;exact ⟨b,h1,h2,h3.ext x⟩
theorem GB.fresh {W:World} {u:Value} {w1:World} (h:GB W u w1) (e:u = .pointer (some ⟨w1.heap.size,0,none⟩)):False:=by
 obtain ⟨b,rfl,h2,h3⟩:=h;simp only [Value.pointer.injEq,aQ0,Addr.mk.injEq,and_true] at e;have:=h3.lt;omega
theorem tE {a b:Nat} (h:Value.pointer (some ⟨a,0,none⟩)≠Value.pointer (some ⟨b,0,none⟩)):a≠b:=fun e=>h (by rw [e])
theorem aOd {n:Nat} (hn:1<=n/\n<=64):(1:Int)<=n/\(n:Int)<=64:=by omega
theorem zF (c:Cam) (f:Nat->Int) (n:Nat) (s:Smp) (u v:Nat) (hn:1<=n/\n<=64) (hu:u<n) (hv:v<n) (w:World) :
  Calls aQ2 210 #[.agg c,.agg f,(u:Nat),(v:Nat),(n:Nat),s.lx,s.ly] w fun e w'=>∃r,e = .returned r/\aHk c f n s u v w.heap.size w' r/\Ext w w':=by
 have C2:∀W:World,Calls aQ2 165 #[.int .i64 2] W fun e w'=>e = .returned (.func (.func 217) #[] #[.pointer (some ⟨W.heap.size,0,none⟩)])/\w'=W.alloc (.cells #[.int .i64 2] 3):=fun W=>(callsIn_wide (n:=0)).1 (sZ 2 0 W);have C2:=hid C2;have I1:=hid (aG.2 (aOd hn));have I2:=hid (aG.2 (show (0:Int)<=u/\(u:Int)<=(n:Int) - 1 by omega));have I3:=hid (aG.2 (show (0:Int)<=v/\(v:Int)<=(n:Int) - 1 by omega));refine (callsIn_wide (n:=3)).1 ?_;refine callsIn_of_wp_marks func210 rfl trivial ?_ rfl;simp only [ntmps210,aVx,aSc,aS7,aTx,aYp,aVz,aV0,aWz,aWe,aSu,aV5];refine wpIn_wide.2 ?_;go_wp2_with (go_at_call 92;with_reducible first|(refine z_ (aH I1.out _) ?_)|(refine z_ (aH I2.out _) ?_)|(refine z_ (aH I3.out _) ?_));refine (C2.out _).mono ?_;rintro e _ ⟨rfl,rfl⟩;go_wp2_with fail;have n0:w.heap.size=w.heap.size+0:=rfl;obtain ⟨V1,hV,q0,x0,n1⟩:=mk_ w c 35 n0;rw [hV];clear hV;obtain ⟨V2,hV,q1,x1,n2⟩:=mk_ V1 f 125 n1;rw [hV];clear hV;obtain ⟨V3,hV,q2,x2,n3⟩:=mk_ V2 [(u:Nat)] 3 n2;rw [hV];clear hV;obtain ⟨V4,hV,q3,x3,n4⟩:=mk_ V3 [(v:Nat)] 3 n3;rw [hV];clear hV;obtain ⟨V5,hV,q4,x4,n5⟩:=mk_ V4 [(n:Nat)] 3 n4;rw [hV];clear hV;obtain ⟨V6,hV,q5,x5,n6⟩:=mk_ V5 [s.lx] 3 n5;rw [hV];clear hV;obtain ⟨V7,hV,q6,x6,n7⟩:=mk_ V6 [s.ly] 3 n6;rw [hV];clear hV;obtain ⟨V8,hV,q7,x7,n8⟩:=mk_ V7 [.slice none 0 0] 148 n7;rw [hV];clear hV;obtain ⟨V9,hV,q8,x8,n9⟩:=mk_ V8 [] 122 n8;rw [hV];clear hV;obtain ⟨k8,hV,q9,x9,j7⟩:=mk_ V9 [.slice (some ⟨w.heap.size+8,0,none⟩) 0 0] 255 n9;rw [hV];clear hV;obtain ⟨k9,hV,i2,j9,j8⟩:=mk_ k8 [.int .i64 2] 3 j7;rw [hV];clear hV;have i4:=j9;have s9:=x9.trans i4;have s8:=x8.trans s9;have s7:=x7.trans s8;have s6:=x6.trans s7;have s5:=x5.trans s6;have s4:=x4.trans s5;have s3:=x3.trans s4;have s2:=x2.trans s3;have s1:=x1.trans s2;have s0:=x0.trans s1;have r0:=q0.ext s1;have r1:=q1.ext s2;have r2:=q2.ext s3;have r3:=q3.ext s4;have r4:=q4.ext s5;have r5:=q5.ext s6;have r6:=q6.ext s7;have r7:=q7.ext s8;have r8:=q8.ext s9;have r9:=q9.ext i4;have i3:=i2;have z0:=j8;have X0:=s0;clear q0 x0 s0 q1 x1 s1 q2 x2 s2 q3 x3 s3 q4 x4 s4 q5 x5 s5 q6 x6 s6 q7 x7 s7 q8 x8 s8 q9 x9 s9 i2 j9 i4 n0 n1 n2 n3 n4 n5 n6 n7 n8 n9 j7 j8
 obtain ⟨W0,g9⟩:∃W0,k9=W0:=⟨_,rfl⟩
 rw [g9] at r0 r1 r2 r3 r4 r5 r6 r7 r8 r9 i3 X0 z0;rw [g9];clear g9
 have g6:RB uU 122 3 255 (fun v=>[v]) w (w.heap.size+9) (uE c f n s u v w) W0 (wF c f n s u v []):=by
  refine ⟨X0,fun p hp=>?_,by omega,_,r9,aF.fresh0 (by omega) r8⟩;simp only [uE,aRk,aRe,or_false] at hp
  rcases hp with rfl|rfl|rfl|rfl|rfl|rfl|rfl|rfl|rfl <;> assumption
 have g6:=hid g6;have NB:=i3.cell 0 rfl;clear r0 r1 r2 r3 r4 r5 r6 r7 r8 r9 i3 X0 C2;refine (wpIn_wide (n:=3)).1 ?_
 refine' wpIn_rangeFunc_ownG rfl (by omega) (gf:=217) (lb:=#[.pointer (some ⟨w.heap.size+10,0,none⟩)]) rfl trivial (enters_of func217 (by kernel_rfl) rfl)
  (nU 2 (by decide) (by decide) _ (w.heap.size+10) W0 (by omega) NB) (fun h k=>KB.trans h k) ?hKb (aXe _ _) (fun _=>rfl)
  (fun z9 W=>RB uU 122 3 255 (fun v=>[v]) w (w.heap.size+9) (uE c f n s u v w) W (wF c f n s u v z9)/\okC c f n s u v z9)
  (fun cd z9 W=>cd = .ret/\lO c f n s u v=false/\Ext w W/\Blk W (w.heap.size+7) 148 [.slice none 0 0]) ?owns ?ownsx ⟨g6.out,fun p hp=>absurd hp aRe⟩ _ ?assign ?body ?done ?stop
 case hKb=>exact fun W l o o' hl ho _ _=>aT1 (by omega)
 case assign=>
  intro l x W K hK
  gi_wp2
  exact hK
 case owns=>exact fun z9 A B row h hg hr=>⟨RB.owns (by omega) (wF c f n s u v) z9 A B row h.1 hg hr,h.2⟩
 case ownsx=>exact fun cd z9 A B row h hg hr=>⟨h.1,h.2.1,h.2.2.1.grown hg (fun k e=>aQ5 (by omega) (hr k e).1),nV hg (fun r e=>(hr r e).2) h.2.2.2⟩
 case body=>
  intro l z9 x W hI o8;obtain ⟨hI,y9⟩:=hI;have HI:=hid hI;have HA:=hid y9
  obtain ⟨i,hi⟩:∃i:Nat,(x.1:Nat)=i:=⟨_,rfl⟩
  obtain ⟨j,hj⟩:∃i:Nat,(x.2:Nat)=i:=⟨_,rfl⟩
  have o6:i<2:=hi▸x.1.2;have o7:j<2:=hj▸x.2.2
  obtain ⟨X,Y,Z,hE⟩:∃X Y Z,evP f ((u:Int)+(i:Int)) ((v:Int)+(j:Int)) (n:Int)=⟨X,Y,Z⟩:=⟨_,_,_,rfl⟩
  have c6:=hid hE;have N1:=hid (aOd hn);have N2:=hid (show (0:Int)<=(u:Int)+(i:Int)/\(u:Int)+(i:Int)<=(n:Int) by omega);have N3:=hid (show (0:Int)<=(v:Int)+(j:Int)/\(v:Int)+(j:Int)<=(n:Int) by omega);have ZW:=hI.ext.size;obtain ⟨tv,y4,z8⟩:=hI.tb;have zt:=y4.lt;have m0:=hI.fx _ (.head _);obtain ⟨u1,u2,u3,u4,u5,u6,u7⟩:=m0.q7;have u8:=m0.lt;have m1:=hI.fx _ (.tail _ (.head _));obtain ⟨u9,v4,v5,v6,v7,v9,w0,w2,w3,w4,j5,j6⟩:=m1.q12;have w5:=m1.lt;have m2:=hI.fx _ (.tail _ (.tail _ (.head _)));have w6:=m2.cell 0 rfl;have w7:=m2.lt;have m3:=hI.fx _ (.tail _ (.tail _ (.tail _ (.head _))));have w9:=m3.cell 0 rfl;have m3l:=m3.lt;have m4:=hI.fx _ (.tail _ (.tail _ (.tail _ (.tail _ (.head _)))));have m4c0:=m4.cell 0 rfl;have m4l:=m4.lt;have m5:=hI.fx _ (.tail _ (.tail _ (.tail _ (.tail _ (.tail _ (.head _))))));have m5c0:=m5.cell 0 rfl;have m5l:=m5.lt;have m6:=hI.fx _ (.tail _ (.tail _ (.tail _ (.tail _ (.tail _ (.tail _ (.head _)))))));have m6c0:=m6.cell 0 rfl;have m6l:=m6.lt;have m7:=hI.fx _ (.tail _ (.tail _ (.tail _ (.tail _ (.tail _ (.tail _ (.tail _ (.head _))))))));have i1:=m7.lt;simp only [uE] at u8 w5 w7 m3l m4l m5l m6l i1;rw [hi,hj];clear hE hI y9 y4 z8 m0 m1 m2 m3 m4 m5 m6 m7 zt
  cases hb:c.prB ⟨X,Y,Z⟩ s.lx s.ly
  ·have HB:=hid hb
   clear hb;refine wpIn_block ?_;refine wpIn_seq_k fun K0 HK0=>?_;refine pZ 18 W.heap.size (by kernel_rfl) (by kernel_rfl) (fun ⟨_,_,h⟩=>h) ?_;refine z2_ (fuel:=7) [0,1,2,3,4,5,6,7,8,10,11] 9 16 (fun b _ hb=>rfl) (fun K hK=>?n2) fun K hK=>?n3
   case' n2=>
    go_wp2_with fail;refine r_ (gB c6.out N1.out N2.out N3.out _) fun a0 y0=>?_;have u0:Ext W a0:=aQ3 X_ y0;go_wp2_with fail;refine k_ hK ?_;clear hK K;refine z2_ (fuel:=6) [] 12 16 (fun b _ hb=>aRa u0 (by omega)) (fun K hK=>?n4) fun K hK=>?n5
    case' n4=>
     go_wp2_with fail;refine r_ (oA HB.out _) fun a01 y01=>?_;have d5:Ext W a01:=aQ3 X_ y01;go_wp2_with fail;refine k_ hK ?_;clear hK K;refine z1_ (fuel:=2) [13,14,15] 16 (fun b _ hb=>aRa d5 (by omega)) fun K hK=>?_;go_wp2;have h9:W.heap.size<=a01.heap.size:=d5.size;refine k_ hK ?_;clear hK K
     obtain ⟨h7,h4⟩:∃d,d=a01.alloc (.cells #[(),(),()] 122):=⟨_,rfl⟩
     rw [<-h4]
     have a5:Ext W h7:=by rw [h4];exact X_
     have y5:Blk h7 a01.heap.size 122 [(),(),()]:=h4▸aQ8 _ _ _;clear h4;refine z1_ (fuel:=1) [] 17 (fun b _ hb=>aRa a5 (by omega)) fun K hK=>?_;obtain ⟨z0,z1,z2,z3,z4,z5,z6⟩:=nD y5;go_wp2;have a4:=h9;refine hK _ _ (.inr (fun b _ hb=>aRa (w:=W) S_ (by omega))) ?_;clear hK K;refine z1_ (fuel:=0) [] 18 (fun b _ hb=>aRa (w:=W) S_ (by omega)) fun K hK=>?_;go_wp2;refine l_ hK ?_;clear hK K;refine bX (by kernel_rfl) ?_;have h5:=h9;have hE:Ext W (((h7.setCell ⟨a01.heap.size,0,none⟩ ()).setCell ⟨a01.heap.size,1,none⟩ ()).setCell ⟨a01.heap.size,2,none⟩ ()):=aRf (aRf (aRf a5 h5 _) h5 _) h5 _
     have h6:Blk (((h7.setCell ⟨a01.heap.size,0,none⟩ ()).setCell ⟨a01.heap.size,1,none⟩ ()).setCell ⟨a01.heap.size,2,none⟩ ()) (a01.heap.size) 122 [(),(),()]:=(((y5.set 0 (.int .i64 0)).set 1 (.int .i64 0)).set 2 (.int .i64 0))
     clear z0 z1 z2 z3 z4 z5 z6
     obtain ⟨A,hA⟩:∃A,a01.heap.size=A:=⟨_,rfl⟩
     rw [hA] at hE h6 h5 ⊢
     obtain ⟨wx,z7⟩:∃wx,((h7.setCell ⟨A,0,none⟩ ()).setCell ⟨A,1,none⟩ ()).setCell ⟨A,2,none⟩ ()=wx:=⟨_,rfl⟩
     rw [z7] at hE h6 ⊢;clear z7 hA
    case' n5=>
     go_wp2;have y8:W.heap.size<=a0.heap.size:=u0.size;refine k_ hK ?_;clear hK K
     obtain ⟨d2,h8⟩:∃d,d=a0.alloc (.cells #[(),(),()] 122):=⟨_,rfl⟩
     rw [<-h8]
     have i5:Ext W d2:=by rw [h8];exact X_
     have g7:Blk d2 a0.heap.size 122 [(),(),()]:=h8▸aQ8 _ _ _;clear h8;refine z1_ (fuel:=5) [] 12 (fun b _ hb=>aRa i5 (by omega)) fun K hK=>?_;go_wp2_with fail;refine r_ (oA HB.out _) fun a0A1 y0A1=>?_;have a6:Ext W a0A1:=aQ3 X_ y0A1;have y6:=g7.ext y0A1;go_wp2_with fail;refine k_ hK ?_;clear hK K;refine z1_ (fuel:=1) [13,14,15] 17 (fun b _ hb=>aRa a6 (by omega)) fun K hK=>?_;obtain ⟨z0,z1,z2,z3,z4,z5,z6⟩:=nD y6;go_wp2;have a4:=y8;refine hK _ _ (.inr (fun b _ hb=>aRa (w:=W) S_ (by omega))) ?_;clear hK K;refine z1_ (fuel:=0) [] 18 (fun b _ hb=>aRa (w:=W) S_ (by omega)) fun K hK=>?_;go_wp2;refine l_ hK ?_;clear hK K;refine bX (by kernel_rfl) ?_;have h5:=y8;have hE:Ext W (((a0A1.setCell ⟨a0.heap.size,0,none⟩ ()).setCell ⟨a0.heap.size,1,none⟩ ()).setCell ⟨a0.heap.size,2,none⟩ ()):=aRf (aRf (aRf a6 h5 _) h5 _) h5 _
     have h6:Blk (((a0A1.setCell ⟨a0.heap.size,0,none⟩ ()).setCell ⟨a0.heap.size,1,none⟩ ()).setCell ⟨a0.heap.size,2,none⟩ ()) (a0.heap.size) 122 [(),(),()]:=(((y6.set 0 (.int .i64 0)).set 1 (.int .i64 0)).set 2 (.int .i64 0))
     clear z0 z1 z2 z3 z4 z5 z6
     obtain ⟨A,hA⟩:∃A,a0.heap.size=A:=⟨_,rfl⟩
     rw [hA] at hE h6 h5 ⊢
     obtain ⟨wx,z7⟩:∃wx,((a0A1.setCell ⟨A,0,none⟩ ()).setCell ⟨A,1,none⟩ ()).setCell ⟨A,2,none⟩ ()=wx:=⟨_,rfl⟩
     rw [z7] at hE h6 ⊢;clear z7 hA
   case' n3=>
    go_wp2;have d3:W.heap.size<=W.heap.size:=aQv _;refine k_ hK ?_;clear hK K
    obtain ⟨dA,c5⟩:∃d,d=(W.alloc (.cells #[(),(),()] 122)).drew:=⟨_,rfl⟩
    rw [<-c5]
    have uA:Ext W dA:=by rw [c5];exact X_
    have bA:Blk dA W.heap.size 122 [(),(),()]:=c5▸(aQ8 _ _ _).ext (aRz (aQ6 _));clear c5;refine z1_ (fuel:=6) [] 9 (fun b _ hb=>aRa uA (by omega)) fun K hK=>?_;go_wp2_with fail;refine r_ (gB c6.out N1.out N2.out N3.out _) fun aA0 yA0=>?_;have i6:Ext W aA0:=aQ3 X_ yA0;have g8:=bA.ext yA0;go_wp2_with fail;refine k_ hK ?_;clear hK K;refine z1_ (fuel:=5) [] 12 (fun b _ hb=>aRa i6 (by omega)) fun K hK=>?_;go_wp2_with fail;refine r_ (oA HB.out _) fun aA01 yA01=>?_;have a7:Ext W aA01:=aQ3 X_ yA01;have y7:=g8.ext yA01;go_wp2_with fail;refine k_ hK ?_;clear hK K;refine z1_ (fuel:=1) [13,14,15] 17 (fun b _ hb=>aRa a7 (by omega)) fun K hK=>?_;obtain ⟨z0,z1,z2,z3,z4,z5,z6⟩:=nD y7;go_wp2;have a4:=d3;refine hK _ _ (.inr (fun b _ hb=>aRa (w:=W) S_ (by omega))) ?_;clear hK K;refine z1_ (fuel:=0) [] 18 (fun b _ hb=>aRa (w:=W) S_ (by omega)) fun K hK=>?_;go_wp2;refine l_ hK ?_;clear hK K;refine bX (by kernel_rfl) ?_;have h5:=d3;have hE:Ext W (((aA01.setCell ⟨W.heap.size,0,none⟩ ()).setCell ⟨W.heap.size,1,none⟩ ()).setCell ⟨W.heap.size,2,none⟩ ()):=aRf (aRf (aRf a7 h5 _) h5 _) h5 _
    have h6:Blk (((aA01.setCell ⟨W.heap.size,0,none⟩ ()).setCell ⟨W.heap.size,1,none⟩ ()).setCell ⟨W.heap.size,2,none⟩ ()) (W.heap.size) 122 [(),(),()]:=(((y7.set 0 (.int .i64 0)).set 1 (.int .i64 0)).set 2 (.int .i64 0))
    clear z0 z1 z2 z3 z4 z5 z6
    obtain ⟨A,hA⟩:∃A,W.heap.size=A:=⟨_,rfl⟩
    rw [hA] at hE h6 h5 ⊢
    obtain ⟨wx,z7⟩:∃wx,((aA01.setCell ⟨A,0,none⟩ ()).setCell ⟨A,1,none⟩ ()).setCell ⟨A,2,none⟩ ()=wx:=⟨_,rfl⟩
    rw [z7] at hE h6 ⊢;clear z7 hA
   all_goals
    have T2:=hid (HI.out.to hE);have y0:=h6.lt;have y1:=h6.cell 0 rfl;have y2:=h6.cell 1 rfl;have y3:=h6.cell 2 rfl;refine HK0 _ _ (wpIn_seq_k fun K1 HK1=>?_);refine wpIn_seq_k fun K2 HK2=>?_;refine dW (by kernel_rfl) (fun ⟨_,_,h⟩=>h) ?_;go_wp2_with fail;refine wpIn_cond_true rfl ?_;refine wpIn_seq_k fun K3 HK3=>?_;refine dW (by kernel_rfl) (fun ⟨_,_,h⟩=>h) ?_;have e7:=T2.out.fx _ (.tail _ (.tail _ (.tail _ (.tail _ (.tail _ (.tail _ (.tail _ (.head _))))))));have g0:=e7.cell 0 rfl;have g1:=e7.free 0;have g2:=e7.lt;have E2:=hid hE;have k6:=hid e7;clear hE e7;simp only [uE] at g0 g1 g2;go_wp2_with fail;refine wpIn_ret ?_
    have i0:lN c f n s (u+i) (v+j)=false:=by unfold lN;rw [aS6,aS6,c6.out,HB.out]
    refine ⟨((Ext.others E2.out).trans (aVc _ _ _)).from _,rfl,aHl o6 o7 i0,aRf T2.out.ext (by first|omega|(simp only;omega)|(simp;omega)) _,?_⟩;exact k6.out.set 0 _
  ·have HB:=hid hb
   obtain ⟨a,b,d,hP⟩:∃a b d,c.pr ⟨X,Y,Z⟩ s.lx s.ly=⟨a,b,d⟩:=⟨_,_,_,rfl⟩
   have HP:=hid hP;clear hb hP;refine wpIn_block ?_;refine wpIn_seq_k fun K0 HK0=>?_;refine pZ 18 W.heap.size (by kernel_rfl) (by kernel_rfl) (fun ⟨_,_,h⟩=>h) ?_;refine z2_ (fuel:=7) [0,1,2,3,4,5,6,7,8,10,11] 9 16 (fun b _ hb=>rfl) (fun K hK=>?p2) fun K hK=>?p3
   case' p2=>
    go_wp2_with fail;refine r_ (gB c6.out N1.out N2.out N3.out _) fun a0 y0=>?_;have u0:Ext W a0:=aQ3 X_ y0;go_wp2_with fail;refine k_ hK ?_;clear hK K;refine z2_ (fuel:=6) [] 12 16 (fun b _ hb=>aRa u0 (by omega)) (fun K hK=>?p4) fun K hK=>?p5
    case' p4=>
     go_wp2_with fail;refine r_ (nZ HB.out HP.out _) fun a01 y01=>?_;have d5:Ext W a01:=aQ3 X_ y01;go_wp2_with fail;refine k_ hK ?_;clear hK K;refine z1_ (fuel:=2) [13,14,15] 16 (fun b _ hb=>aRa d5 (by omega)) fun K hK=>?_;go_wp2;have h9:W.heap.size<=a01.heap.size:=d5.size;refine k_ hK ?_;clear hK K
     obtain ⟨h7,h4⟩:∃d,d=a01.alloc (.cells #[(),(),()] 122):=⟨_,rfl⟩
     rw [<-h4]
     have a5:Ext W h7:=by rw [h4];exact X_
     have y5:Blk h7 a01.heap.size 122 [(),(),()]:=h4▸aQ8 _ _ _;clear h4;refine z1_ (fuel:=1) [] 17 (fun b _ hb=>aRa a5 (by omega)) fun K hK=>?_;obtain ⟨z0,z1,z2,z3,z4,z5,z6⟩:=nD y5;go_wp2;have a4:=h9;refine hK _ _ (.inr (fun b _ hb=>aRa (w:=W) S_ (by omega))) ?_;clear hK K;refine z1_ (fuel:=0) [] 18 (fun b _ hb=>aRa (w:=W) S_ (by omega)) fun K hK=>?_;go_wp2;refine l_ hK ?_;clear hK K;refine bX (by kernel_rfl) ?_;have h5:=h9;have hE:Ext W (((h7.setCell ⟨a01.heap.size,0,none⟩ a).setCell ⟨a01.heap.size,1,none⟩ b).setCell ⟨a01.heap.size,2,none⟩ d):=aRf (aRf (aRf a5 h5 _) h5 _) h5 _
     have h6:Blk (((h7.setCell ⟨a01.heap.size,0,none⟩ a).setCell ⟨a01.heap.size,1,none⟩ b).setCell ⟨a01.heap.size,2,none⟩ d) (a01.heap.size) 122 [a,b,d]:=(((y5.set 0 (.int .i64 a)).set 1 (.int .i64 b)).set 2 (.int .i64 d))
     clear z0 z1 z2 z3 z4 z5 z6
     obtain ⟨A,hA⟩:∃A,a01.heap.size=A:=⟨_,rfl⟩
     rw [hA] at hE h6 h5 ⊢
     obtain ⟨wx,z7⟩:∃wx,((h7.setCell ⟨A,0,none⟩ a).setCell ⟨A,1,none⟩ b).setCell ⟨A,2,none⟩ d=wx:=⟨_,rfl⟩
     rw [z7] at hE h6 ⊢;clear z7 hA
    case' p5=>
     go_wp2;have y8:W.heap.size<=a0.heap.size:=u0.size;refine k_ hK ?_;clear hK K
     obtain ⟨d2,h8⟩:∃d,d=a0.alloc (.cells #[(),(),()] 122):=⟨_,rfl⟩
     rw [<-h8]
     have i5:Ext W d2:=by rw [h8];exact X_
     have g7:Blk d2 a0.heap.size 122 [(),(),()]:=h8▸aQ8 _ _ _;clear h8;refine z1_ (fuel:=5) [] 12 (fun b _ hb=>aRa i5 (by omega)) fun K hK=>?_;go_wp2_with fail;refine r_ (nZ HB.out HP.out _) fun a0A1 y0A1=>?_;have a6:Ext W a0A1:=aQ3 X_ y0A1;have y6:=g7.ext y0A1;go_wp2_with fail;refine k_ hK ?_;clear hK K;refine z1_ (fuel:=1) [13,14,15] 17 (fun b _ hb=>aRa a6 (by omega)) fun K hK=>?_;obtain ⟨z0,z1,z2,z3,z4,z5,z6⟩:=nD y6;go_wp2;have a4:=y8;refine hK _ _ (.inr (fun b _ hb=>aRa (w:=W) S_ (by omega))) ?_;clear hK K;refine z1_ (fuel:=0) [] 18 (fun b _ hb=>aRa (w:=W) S_ (by omega)) fun K hK=>?_;go_wp2;refine l_ hK ?_;clear hK K;refine bX (by kernel_rfl) ?_;have h5:=y8;have hE:Ext W (((a0A1.setCell ⟨a0.heap.size,0,none⟩ a).setCell ⟨a0.heap.size,1,none⟩ b).setCell ⟨a0.heap.size,2,none⟩ d):=aRf (aRf (aRf a6 h5 _) h5 _) h5 _
     have h6:Blk (((a0A1.setCell ⟨a0.heap.size,0,none⟩ a).setCell ⟨a0.heap.size,1,none⟩ b).setCell ⟨a0.heap.size,2,none⟩ d) (a0.heap.size) 122 [a,b,d]:=(((y6.set 0 (.int .i64 a)).set 1 (.int .i64 b)).set 2 (.int .i64 d))
     clear z0 z1 z2 z3 z4 z5 z6
     obtain ⟨A,hA⟩:∃A,a0.heap.size=A:=⟨_,rfl⟩
     rw [hA] at hE h6 h5 ⊢
     obtain ⟨wx,z7⟩:∃wx,((a0A1.setCell ⟨A,0,none⟩ a).setCell ⟨A,1,none⟩ b).setCell ⟨A,2,none⟩ d=wx:=⟨_,rfl⟩
     rw [z7] at hE h6 ⊢;clear z7 hA
   case' p3=>
    go_wp2;have d3:W.heap.size<=W.heap.size:=aQv _;refine k_ hK ?_;clear hK K
    obtain ⟨dA,c5⟩:∃d,d=(W.alloc (.cells #[(),(),()] 122)).drew:=⟨_,rfl⟩
    rw [<-c5]
    have uA:Ext W dA:=by rw [c5];exact X_
    have bA:Blk dA W.heap.size 122 [(),(),()]:=c5▸(aQ8 _ _ _).ext (aRz (aQ6 _));clear c5;refine z1_ (fuel:=6) [] 9 (fun b _ hb=>aRa uA (by omega)) fun K hK=>?_;go_wp2_with fail;refine r_ (gB c6.out N1.out N2.out N3.out _) fun aA0 yA0=>?_;have i6:Ext W aA0:=aQ3 X_ yA0;have g8:=bA.ext yA0;go_wp2_with fail;refine k_ hK ?_;clear hK K;refine z1_ (fuel:=5) [] 12 (fun b _ hb=>aRa i6 (by omega)) fun K hK=>?_;go_wp2_with fail;refine r_ (nZ HB.out HP.out _) fun aA01 yA01=>?_;have a7:Ext W aA01:=aQ3 X_ yA01;have y7:=g8.ext yA01;go_wp2_with fail;refine k_ hK ?_;clear hK K;refine z1_ (fuel:=1) [13,14,15] 17 (fun b _ hb=>aRa a7 (by omega)) fun K hK=>?_;obtain ⟨z0,z1,z2,z3,z4,z5,z6⟩:=nD y7;go_wp2;have a4:=d3;refine hK _ _ (.inr (fun b _ hb=>aRa (w:=W) S_ (by omega))) ?_;clear hK K;refine z1_ (fuel:=0) [] 18 (fun b _ hb=>aRa (w:=W) S_ (by omega)) fun K hK=>?_;go_wp2;refine l_ hK ?_;clear hK K;refine bX (by kernel_rfl) ?_;have h5:=d3;have hE:Ext W (((aA01.setCell ⟨W.heap.size,0,none⟩ a).setCell ⟨W.heap.size,1,none⟩ b).setCell ⟨W.heap.size,2,none⟩ d):=aRf (aRf (aRf a7 h5 _) h5 _) h5 _
    have h6:Blk (((aA01.setCell ⟨W.heap.size,0,none⟩ a).setCell ⟨W.heap.size,1,none⟩ b).setCell ⟨W.heap.size,2,none⟩ d) (W.heap.size) 122 [a,b,d]:=(((y7.set 0 (.int .i64 a)).set 1 (.int .i64 b)).set 2 (.int .i64 d))
    clear z0 z1 z2 z3 z4 z5 z6
    obtain ⟨A,hA⟩:∃A,W.heap.size=A:=⟨_,rfl⟩
    rw [hA] at hE h6 h5 ⊢
    obtain ⟨wx,z7⟩:∃wx,((aA01.setCell ⟨A,0,none⟩ a).setCell ⟨A,1,none⟩ b).setCell ⟨A,2,none⟩ d=wx:=⟨_,rfl⟩
    rw [z7] at hE h6 ⊢;clear z7 hA
   all_goals
    have T2:=hid (HI.out.to hE);have y0:=h6.lt;have y1:=h6.cell 0 rfl;have y2:=h6.cell 1 rfl;have y3:=h6.cell 2 rfl;refine HK0 _ _ (wpIn_seq_k fun K1 HK1=>?_);refine wpIn_seq_k fun K2 HK2=>?_;refine dW (by kernel_rfl) (fun ⟨_,_,h⟩=>h) ?_;go_wp2_with fail;refine wpIn_cond_false rfl ?_;refine wpIn_skip ?_;refine HK1 _ _ ?_;refine dW (by kernel_rfl) (fun ⟨_,_,h⟩=>h) ?_;obtain ⟨tv,y4,z8⟩:=T2.out.tb;obtain ⟨ta,tc,rfl,tlen⟩:=aF.form z8;have g0:=y4.cell 0 rfl;have gl:=y4.lt
    have j0:(wF c f n s u v z9).length=z9.length:=by unfold wF;rw [aSh]
    have k7:=hid j0;have E2:=hid hE;clear j0 hE;go_wp2_with (at_builtin;refine lS _ rfl _ _ rfl w.heap.size _ (wF c f n s u v z9) rfl (aF.ext z8 X_) ⟨a,b,d⟩ wx.heap.size rfl (aHj wx a b d) (by rw [k7.out];omega) (by have:=T2.out.ext.size;simp;omega) ?_;intro v8 w8 d4 hg;obtain ⟨va,vc,rfl,_⟩:=aF.form d4;have g1:=(y4.ext (show Ext wx (wx.alloc (.cells #[a,b,d] 122)) from X_)).grown hg (bT y4 (by decide) z8);have g2:=g1.cell 0 rfl;have g3:=g1.free 0;have g4:=g1.lt)
    have o5:cW c f n s (u+(x.1:Nat)) (v+(x.2:Nat))=⟨a,b,d⟩:=by unfold cW;rw [hi,hj,aS6,aS6,c6.out,HP.out]
    have i0:lN c f n s (u+(x.1:Nat)) (v+(x.2:Nat))=true:=by unfold lN;rw [hi,hj,aS6,aS6,c6.out,HB.out]
    have T4:=T2.out.push (aKd c f n s u v w) (by decide) 0 rfl y4 z8 (show Ext wx (wx.alloc (.cells #[a,b,d] 122)) from X_) hg d4;simp only [aRq,aSc,aS7,aRt] at T4;refine ⟨((((Ext.others E2.out).trans (KeepsOthers.alloc _ _)).trans (aWv hg (aBr (Ext.alloc (aQ6 _) _) z8))).trans (aVc _ _ _)).from _,(T4.fx _ (.tail _ (.tail _ (.tail _ (.tail _ (.tail _ (.tail _ (.tail _ (.tail _ (.head _)))))))))).trans (HI.out.fx _ (.tail _ (.tail _ (.tail _ (.tail _ (.tail _ (.tail _ (.tail _ (.tail _ (.head _)))))))))).symm,?_,?_⟩
    ·show RB _ _ _ _ _ _ _ _ _ (wF c f n s u v (z9++[x]))
     rw [aIr,o5];exact T4
    ·intro p hp
     rw [aTe,List.mem_singleton] at hp
     rcases hp with hp|rfl
     ·exact HA.out p hp
     ·exact i0
 case done=>
  rintro D ys W hD rfl ⟨hI,y9⟩ hK;have i9:lO c f n s u v=true:=aKe y9;have k1:=hid i9;have HK:=hid hK;have hp:wF c f n s u v (cC 2 (by decide) (2*2))=[cW c f n s u v,cW c f n s (u+1) v,cW c f n s u (v+1),cW c f n s (u+1) (v+1)]:=rfl;rw [hp] at hI
  obtain ⟨⟨x0,y0,s0⟩,e0⟩:∃p,cW c f n s u v=p:=⟨_,rfl⟩
  rw [e0] at hI;have k2:=hid e0
  obtain ⟨⟨x1,y1,s1⟩,e1⟩:∃p,cW c f n s (u+1) v=p:=⟨_,rfl⟩
  rw [e1] at hI;have k3:=hid e1
  obtain ⟨⟨x2,y2,s2⟩,e2⟩:∃p,cW c f n s u (v+1)=p:=⟨_,rfl⟩
  rw [e2] at hI;have k4:=hid e2
  obtain ⟨⟨x3,y3,s3⟩,e3⟩:∃p,cW c f n s (u+1) (v+1)=p:=⟨_,rfl⟩
  rw [e3] at hI;have k5:=hid e3;have HI:=hid hI;obtain ⟨tv,y4,z8⟩:=hI.tb;obtain ⟨g,tc,rfl,gl,gw,i8,gtc,-,c0⟩:=aF.at z8 (fun _=>rfl) (i:=0) rfl;obtain ⟨g1,tc1,he,-,-,-,-,-,c1⟩:=aF.at z8 (fun _=>rfl) (i:=1) rfl;simp only [aRo,aQ0,Addr.mk.injEq,and_true,true_and] at he;obtain ⟨rfl,rfl⟩:=he;obtain ⟨g2,tc2,he,-,-,-,-,-,c2⟩:=aF.at z8 (fun _=>rfl) (i:=2) rfl;simp only [aRo,aQ0,Addr.mk.injEq,and_true,true_and] at he;obtain ⟨rfl,rfl⟩:=he;obtain ⟨g3,tc3,he,-,-,-,-,-,c3⟩:=aF.at z8 (fun _=>rfl) (i:=3) rfl;simp only [aRo,aQ0,Addr.mk.injEq,and_true,true_and] at he;obtain ⟨rfl,rfl⟩:=he;have p00:W.cell? ⟨g,0,none⟩=some (.int .i64 x0):=c0 0 (by decide);have p01:W.cell? ⟨g,1,none⟩=some (.int .i64 y0):=c0 1 (by decide);have p02:W.cell? ⟨g,2,none⟩=some (.int .i64 s0):=c0 2 (by decide);have p10:W.cell? ⟨g,3,none⟩=some (.int .i64 x1):=c1 0 (by decide);have p11:W.cell? ⟨g,4,none⟩=some (.int .i64 y1):=c1 1 (by decide);have p12:W.cell? ⟨g,5,none⟩=some (.int .i64 s1):=c1 2 (by decide);have p20:W.cell? ⟨g,6,none⟩=some (.int .i64 x2):=c2 0 (by decide);have p21:W.cell? ⟨g,7,none⟩=some (.int .i64 y2):=c2 1 (by decide);have p22:W.cell? ⟨g,8,none⟩=some (.int .i64 s2):=c2 2 (by decide);have p30:W.cell? ⟨g,9,none⟩=some (.int .i64 x3):=c3 0 (by decide);have p31:W.cell? ⟨g,10,none⟩=some (.int .i64 y3):=c3 1 (by decide);have p32:W.cell? ⟨g,11,none⟩=some (.int .i64 s3):=c3 2 (by decide);have t0:W.cell? ⟨w.heap.size+9,0,none⟩=some (.slice (some ⟨g,0,none⟩) 4 tc):=y4.cell 0 rfl;have tl:=y4.lt;have o4:4<=tc:=i8;clear hI y9 hK y4 z8 c0 c1 c2 c3 i8 hp i9 e0 e1 e2 e3;go_wp2_with fail;refine cZ 19 W.heap.size (by kernel_rfl) ?_;refine aIq (fuel:=8) [0,1,2,3,4,5,6,7,8,9,10,11] (by kernel_rfl) (fun b _ hb=>rfl) ?_
  try simp only [aSj,aQ4,aRc,aRb]
  simp only [aRm,aRg,aQ1,aQw,aQx]
  show wpQuiet _ _ _ _ [_,_,_,_,_,_,_,_,_,_,_,_] _
  repeat (go_big_quiet_step (fail))
  refine wpQuiet_nil ?_;refine aFs (fuel:=4) [⟨12,20,GB W⟩,⟨13,21,GB W⟩,⟨14,22,GB W⟩,⟨15,23,GB W⟩] 4 rfl (aRz (aQ6 _)) (by kernel_rfl) (by simp) (by simp) ?_ ?_ ?_
  ·intro b hb v w w' h x
   simp only [aRk,aRe,or_false] at hb
   rcases hb with rfl|rfl|rfl|rfl <;> exact GB.ext h x
  ·intro b hb us w1 d6
   simp only [aRk,aRe,or_false] at hb
   rcases hb with rfl|rfl|rfl|rfl
   all_goals
    refine ⟨_,rfl,fun K hK=>?_⟩;simp only [aS4,aV7,kZ,aSj,aQ4,aRc,aRb] at hK ⊢;go_wp2;refine hK _ _ X_ ⟨w1.heap.size,rfl,d6.size,aQ8 _ _ _⟩ (fun c hc u hu e=>?_);simp only [aRk,aRe,or_false] at hc
    rcases hc with rfl|rfl|rfl|rfl <;> exact GB.fresh hu e.symm
  ·intro us w1 d6 hg c7
   obtain ⟨a0,h0,l0,b0⟩:=hg ⟨12,20,GB W⟩ (by simp);obtain ⟨a1,h1,l1,b1⟩:=hg ⟨13,21,GB W⟩ (by simp);obtain ⟨a2,h2,l2,b2⟩:=hg ⟨14,22,GB W⟩ (by simp);obtain ⟨a3,h3,l3,b3⟩:=hg ⟨15,23,GB W⟩ (by simp);have b5:=c7 ⟨12,20,GB W⟩ (by simp) ⟨13,21,GB W⟩ (by simp) (by simp);have b6:=c7 ⟨12,20,GB W⟩ (by simp) ⟨14,22,GB W⟩ (by simp) (by simp);have b7:=c7 ⟨12,20,GB W⟩ (by simp) ⟨15,23,GB W⟩ (by simp) (by simp);have b8:=c7 ⟨13,21,GB W⟩ (by simp) ⟨14,22,GB W⟩ (by simp) (by simp);have b9:=c7 ⟨13,21,GB W⟩ (by simp) ⟨15,23,GB W⟩ (by simp) (by simp);have c4:=c7 ⟨14,22,GB W⟩ (by simp) ⟨15,23,GB W⟩ (by simp) (by simp);simp only at h0 h1 h2 h3 b5 b6 b7 b8 b9 c4;rw [h0,h1] at b5;rw [h0,h2] at b6;rw [h0,h3] at b7;rw [h1,h2] at b8;rw [h1,h3] at b9;rw [h2,h3] at c4;replace b5:=tE b5;replace b6:=tE b6;replace b7:=tE b7;replace b8:=tE b8;replace b9:=tE b9;replace c4:=tE c4;simp only [aS4,aV7,kZ,aSj,aQ4,aRc,aRb,h0,h1,h2,h3];clear h0 h1 h2 h3 hg c7 p00 p01 p02 p10 p11 p12 p20 p21 p22 p30 p31 p32 t0 tl;have l4:=b0.free 0;have l5:=b0.free 1;have l6:=b0.free 2;have o9:=b0.cell 0 rfl;have p0:=b0.cell 1 rfl;have p1:=b0.cell 2 rfl;have t6:=b0.lt;refine z1_ (fuel:=3) [] 16 (fun b _ hb=>aRa d6 hb) fun K hK=>?_;go_wp2;have X0:Ext W (((w1.setCell ⟨a0,0,none⟩ x0).setCell ⟨a0,1,none⟩ y0).setCell ⟨a0,2,none⟩ s0):=aRf (aRf (aRf d6 l0 _) l0 _) l0 _;have d7:=((b0.set 0 (.int .i64 x0)).set 1 (.int .i64 y0)).set 2 (.int .i64 s0);have a8:=((b1.other (a:=⟨a0,0,none⟩) b5.symm (.int .i64 x0)).other (a:=⟨a0,1,none⟩) b5.symm (.int .i64 y0)).other (a:=⟨a0,2,none⟩) b5.symm (.int .i64 s0);have d8:=((b2.other (a:=⟨a0,0,none⟩) b6.symm (.int .i64 x0)).other (a:=⟨a0,1,none⟩) b6.symm (.int .i64 y0)).other (a:=⟨a0,2,none⟩) b6.symm (.int .i64 s0);have d9:=((b3.other (a:=⟨a0,0,none⟩) b7.symm (.int .i64 x0)).other (a:=⟨a0,1,none⟩) b7.symm (.int .i64 y0)).other (a:=⟨a0,2,none⟩) b7.symm (.int .i64 s0);refine hK _ _ (.inr (fun b _ hb=>aRa X0 hb)) ?_;clear hK K l4 l5 l6 o9 p0 p1 t6 b0 b1 b2 b3
   obtain ⟨v0,j1⟩:∃w,((w1.setCell ⟨a0,0,none⟩ x0).setCell ⟨a0,1,none⟩ y0).setCell ⟨a0,2,none⟩ s0=w:=⟨_,rfl⟩
   rw [j1] at d7 a8 d8 d9 X0 ⊢;clear j1;have l7:=a8.free 0;have l8:=a8.free 1;have l9:=a8.free 2;have p6:=a8.cell 0 rfl;have p7:=a8.cell 1 rfl;have p8:=a8.cell 2 rfl;have t7:=a8.lt;refine z1_ (fuel:=2) [] 17 (fun b _ hb=>aRa X0 hb) fun K hK=>?_;go_wp2;have X1:Ext W (((v0.setCell ⟨a1,0,none⟩ x1).setCell ⟨a1,1,none⟩ y1).setCell ⟨a1,2,none⟩ s1):=aRf (aRf (aRf X0 l1 _) l1 _) l1 _;have e4:=((d7.other (a:=⟨a1,0,none⟩) b5 (.int .i64 x1)).other (a:=⟨a1,1,none⟩) b5 (.int .i64 y1)).other (a:=⟨a1,2,none⟩) b5 (.int .i64 s1);have e5:=((a8.set 0 (.int .i64 x1)).set 1 (.int .i64 y1)).set 2 (.int .i64 s1);have a9:=((d8.other (a:=⟨a1,0,none⟩) b8.symm (.int .i64 x1)).other (a:=⟨a1,1,none⟩) b8.symm (.int .i64 y1)).other (a:=⟨a1,2,none⟩) b8.symm (.int .i64 s1);have e6:=((d9.other (a:=⟨a1,0,none⟩) b9.symm (.int .i64 x1)).other (a:=⟨a1,1,none⟩) b9.symm (.int .i64 y1)).other (a:=⟨a1,2,none⟩) b9.symm (.int .i64 s1);refine hK _ _ (.inr (fun b _ hb=>aRa X1 hb)) ?_;clear hK K l7 l8 l9 p6 p7 p8 t7 d7 a8 d8 d9
   obtain ⟨v1,j2⟩:∃w,((v0.setCell ⟨a1,0,none⟩ x1).setCell ⟨a1,1,none⟩ y1).setCell ⟨a1,2,none⟩ s1=w:=⟨_,rfl⟩
   rw [j2] at e4 e5 a9 e6 X1 ⊢;clear j2 X0;have m8:=a9.free 0;have m9:=a9.free 1;have o0:=a9.free 2;have p9:=a9.cell 0 rfl;have t1:=a9.cell 1 rfl;have t2:=a9.cell 2 rfl;have t8:=a9.lt;refine z1_ (fuel:=1) [] 18 (fun b _ hb=>aRa X1 hb) fun K hK=>?_;go_wp2;have X2:Ext W (((v1.setCell ⟨a2,0,none⟩ x2).setCell ⟨a2,1,none⟩ y2).setCell ⟨a2,2,none⟩ s2):=aRf (aRf (aRf X1 l2 _) l2 _) l2 _;have e8:=((e4.other (a:=⟨a2,0,none⟩) b6 (.int .i64 x2)).other (a:=⟨a2,1,none⟩) b6 (.int .i64 y2)).other (a:=⟨a2,2,none⟩) b6 (.int .i64 s2);have e9:=((e5.other (a:=⟨a2,0,none⟩) b8 (.int .i64 x2)).other (a:=⟨a2,1,none⟩) b8 (.int .i64 y2)).other (a:=⟨a2,2,none⟩) b8 (.int .i64 s2);have g5:=((a9.set 0 (.int .i64 x2)).set 1 (.int .i64 y2)).set 2 (.int .i64 s2);have b4:=((e6.other (a:=⟨a2,0,none⟩) c4.symm (.int .i64 x2)).other (a:=⟨a2,1,none⟩) c4.symm (.int .i64 y2)).other (a:=⟨a2,2,none⟩) c4.symm (.int .i64 s2);refine hK _ _ (.inr (fun b _ hb=>aRa X2 hb)) ?_;clear hK K m8 m9 o0 p9 t1 t2 t8 e4 e5 a9 e6
   obtain ⟨v2,j3⟩:∃w,((v1.setCell ⟨a2,0,none⟩ x2).setCell ⟨a2,1,none⟩ y2).setCell ⟨a2,2,none⟩ s2=w:=⟨_,rfl⟩
   rw [j3] at e8 e9 g5 b4 X2 ⊢;clear j3 X1;have o1:=b4.free 0;have o2:=b4.free 1;have o3:=b4.free 2;have t3:=b4.cell 0 rfl;have t4:=b4.cell 1 rfl;have t5:=b4.cell 2 rfl;have t9:=b4.lt;refine z1_ (fuel:=0) [] 19 (fun b _ hb=>aRa X2 hb) fun K hK=>?_;go_wp2;have X3:Ext W (((v2.setCell ⟨a3,0,none⟩ x3).setCell ⟨a3,1,none⟩ y3).setCell ⟨a3,2,none⟩ s3):=aRf (aRf (aRf X2 l3 _) l3 _) l3 _;have c8:=((e8.other (a:=⟨a3,0,none⟩) b7 (.int .i64 x3)).other (a:=⟨a3,1,none⟩) b7 (.int .i64 y3)).other (a:=⟨a3,2,none⟩) b7 (.int .i64 s3);have c9:=((e9.other (a:=⟨a3,0,none⟩) b9 (.int .i64 x3)).other (a:=⟨a3,1,none⟩) b9 (.int .i64 y3)).other (a:=⟨a3,2,none⟩) b9 (.int .i64 s3);have d0:=((g5.other (a:=⟨a3,0,none⟩) c4 (.int .i64 x3)).other (a:=⟨a3,1,none⟩) c4 (.int .i64 y3)).other (a:=⟨a3,2,none⟩) c4 (.int .i64 s3);have d1:=((b4.set 0 (.int .i64 x3)).set 1 (.int .i64 y3)).set 2 (.int .i64 s3);refine l_ hK ?_;clear hK K o1 o2 o3 t3 t4 t5 t9 e8 e9 g5 b4
   obtain ⟨v3,j4⟩:∃w,((v2.setCell ⟨a3,0,none⟩ x3).setCell ⟨a3,1,none⟩ y3).setCell ⟨a3,2,none⟩ s3=w:=⟨_,rfl⟩
   rw [j4] at c8 c9 d0 d1 X3 ⊢;clear j4 X2;refine bX (by kernel_rfl) ?_;have q00:=c8.cell 0 rfl;have q01:=c8.cell 1 rfl;have q02:=c8.cell 2 rfl;have ql0:=c8.lt;have i2:=c9.cell 0 rfl;have q11:=c9.cell 1 rfl;have q12:=c9.cell 2 rfl;have ql1:=c9.lt;have q20:=d0.cell 0 rfl;have q21:=d0.cell 1 rfl;have q22:=d0.cell 2 rfl;have ql2:=d0.lt;have q30:=d1.cell 0 rfl;have q31:=d1.cell 1 rfl;have q32:=d1.cell 2 rfl;have ql3:=d1.lt;have T:=hid (HI.out.to X3);have XT:=hid X3;have HD:v3.heap[D]?=some (.deferred (some [])):=(X3.block (gI HK.out)).trans HK.out;have i7:=hid HD;have m2:=(T.out.fx _ (.tail _ (.tail _ (.head _)))).cell 0 rfl;have m3:=(T.out.fx _ (.tail _ (.tail _ (.tail _ (.head _))))).cell 0 rfl;have m4:=(T.out.fx _ (.tail _ (.tail _ (.tail _ (.tail _ (.head _)))))).cell 0 rfl;have m7:=T.out.fx _ (.tail _ (.tail _ (.tail _ (.tail _ (.tail _ (.tail _ (.tail _ (.head _))))))));have m7c:=m7.cell 0 rfl;have m7f:=m7.free 0;have i1:=m7.lt;have M7:=hid m7;have zX:=X3.size;clear X3 HD m7 c8 c9 d0 d1;simp only [uE] at m2 m3 m4 m7c m7f i1;go_wp2;have BF:=aQ8 (v3.setCell ⟨w.heap.size+7,0,none⟩ (.slice (some ⟨v3.heap.size,0,none⟩) 2 2)) 155 [x0,y0,s0,x1,y1,s1,x2,y2,s2,(u:Nat),(v:Nat),(n:Nat),x1,y1,s1,x3,y3,s3,x2,y2,s2,(u:Nat),(v:Nat),(n:Nat)];rw [aSg] at BF;have R7:=(M7.out.set 0 (.slice (some ⟨v3.heap.size,0,none⟩) 2 2)).alloc (.cells #[x0,y0,s0,x1,y1,s1,x2,y2,s2,(u:Nat),(v:Nat),(n:Nat),x1,y1,s1,x3,y3,s3,x2,y2,s2,(u:Nat),(v:Nat),(n:Nat)] 155);have XF:Ext w ((v3.setCell ⟨w.heap.size+7,0,none⟩ (.slice (some ⟨v3.heap.size,0,none⟩) 2 2)).alloc (.cells #[x0,y0,s0,x1,y1,s1,x2,y2,s2,(u:Nat),(v:Nat),(n:Nat),x1,y1,s1,x3,y3,s3,x2,y2,s2,(u:Nat),(v:Nat),(n:Nat)] 155)):=Ext.alloc (aRf T.out.ext (by simp only;omega) _) _;have dl:=gI i7.out;have DF:((v3.setCell ⟨w.heap.size+7,0,none⟩ (.slice (some ⟨v3.heap.size,0,none⟩) 2 2)).alloc (.cells #[x0,y0,s0,x1,y1,s1,x2,y2,s2,(u:Nat),(v:Nat),(n:Nat),x1,y1,s1,x3,y3,s3,x2,y2,s2,(u:Nat),(v:Nat),(n:Nat)] 155)).heap[D]?=some (.deferred (some [])):=(aRa (w:=(v3.setCell ⟨w.heap.size+7,0,none⟩ (.slice (some ⟨v3.heap.size,0,none⟩) 2 2))) X_ (by rw [aSg];exact dl)).trans ((aQ7 _ _ _ _ (by simp only;omega)).trans i7.out);have gp:(((v3.setCell ⟨w.heap.size+7,0,none⟩ (.slice (some ⟨v3.heap.size,0,none⟩) 2 2)).alloc (.cells #[x0,y0,s0,x1,y1,s1,x2,y2,s2,(u:Nat),(v:Nat),(n:Nat),x1,y1,s1,x3,y3,s3,x2,y2,s2,(u:Nat),(v:Nat),(n:Nat)] 155)).putObj D (Obj.deferred none)).cell? ⟨w.heap.size+7,0,none⟩=some (.slice (some ⟨v3.heap.size,0,none⟩) 2 2):=(aSe (w:=((v3.setCell ⟨w.heap.size+7,0,none⟩ (.slice (some ⟨v3.heap.size,0,none⟩) 2 2)).alloc (.cells #[x0,y0,s0,x1,y1,s1,x2,y2,s2,(u:Nat),(v:Nat),(n:Nat),x1,y1,s1,x3,y3,s3,x2,y2,s2,(u:Nat),(v:Nat),(n:Nat)] 155))) (aT1 (by simp only;omega))).trans (R7.cell 0 rfl);have k0:Blk (((v3.setCell ⟨w.heap.size+7,0,none⟩ (.slice (some ⟨v3.heap.size,0,none⟩) 2 2)).alloc (.cells #[x0,y0,s0,x1,y1,s1,x2,y2,s2,(u:Nat),(v:Nat),(n:Nat),x1,y1,s1,x3,y3,s3,x2,y2,s2,(u:Nat),(v:Nat),(n:Nat)] 155)).putObj D (Obj.deferred none)) v3.heap.size 155 [x0,y0,s0,x1,y1,s1,x2,y2,s2,(u:Nat),(v:Nat),(n:Nat),x1,y1,s1,x3,y3,s3,x2,y2,s2,(u:Nat),(v:Nat),(n:Nat)]:=(aT1 (by omega)).trans BF;refine ⟨by simp,.inl ⟨_,_,rfl,run_takeDeferred DF,?_⟩⟩;refine ⟨.slice (some ⟨v3.heap.size,0,none⟩) 2 2,by simp [results,results210,go_sem,gp],_,rfl,.inr ⟨k1.out,v3.heap.size,by have:=T.out.ext.size;omega,rfl,?_⟩,XF.grown (grownBy_putObj' _ D _) (fun k e=>by cases e;omega)⟩;rw [k2.out,k3.out,k4.out,k5.out];exact k0
 case stop=>
  rintro D cd z9 W hD - ⟨rfl,hd,hX,hB⟩ hK;have g0:=hB.cell 0 rfl;have gp:(W.putObj D (Obj.deferred none)).cell? ⟨w.heap.size+7,0,none⟩=some (.slice none 0 0):=(aSe (w:=W) (aT1 (by simp only;omega))).trans g0;refine wpIn_ret ?_;refine ⟨by simp,.inl ⟨_,_,rfl,run_takeDeferred hK,?_⟩⟩;exact ⟨.slice none 0 0,by simp [results,results210,go_sem,gp],_,rfl,.inl ⟨hd,rfl⟩,hX.grown (grownBy_putObj' W D _) (fun k e=>by cases e;omega)⟩
end
section
open Go.RowKit Go.Shelf
attribute [local go_sem] aWk
theorem oB {P:Program} {Q:Exit->Act->World->Prop} {l n:Nat} {id:Nat} {a:Act} {w:World} {l':List Oper} (z:Nat) (S:World->Prop) (hm:P.follows .mixedOrders=true) (hd:jW l'=true) (hl : ¬LetsOut Q)
  (h:aDi P l'.toArray (NoPanic Q) S z l'.length (aU4 l'.length false) a w.drew):(Code.region id l'.toArray true).wpIn (rd l) n P Q a w:=by
 refine Go.wpIn_mono (wpIn_region_any hm (vZ (by simpa using hd) (tX hl) _ _ _ _ ?_)) NoPanic.imp;have:=hH _ _ _ _ h
 simpa using this
def CDs (w b:Nat):Addr->Prop:=fun a=>a.block=w\/a.block=w+1\/a.block=w+2\/a.block=w+3\/a.block=w+4\/a.block=w+5\/a.block=b+1\/a.block=b+2
@[go_sem] theorem aP2 {w b k o:Nat} (h:k=w\/k=w+1\/k=w+2\/k=w+3\/k=w+4\/k=w+5\/k=b+1\/k=b+2):CDs w b ⟨k,o,none⟩:=h
theorem qT {w b N:Nat} (h:w+6<=b) (hN:b+2<N) {a:Addr} (ha:CDs w b a):a.block<N:=by
 unfold CDs at ha;omega
structure Mc where
 (a b d:V3)
 (u v n:Int)
def Mc.cs (m:Mc):List Value:=aIs m.a m.b m.d m.u m.v m.n
theorem Mc.one (m:Mc):∀u∈m.cs,u.oneCell'=true:=by
 intro u hu;simp only [Mc.cs,aIs,aRk,aRe,or_false] at hu
 rcases hu with rfl|rfl|rfl|rfl|rfl|rfl|rfl|rfl|rfl|rfl|rfl|rfl <;> rfl
theorem wG {α β : Type} {L:List α} {f g : α->List β} (h:∀a∈L,f a=g a):L.flatMap f=L.flatMap g:=by
 rw [List.flatMap_def,List.flatMap_def,List.map_congr_left h]
def fX (c:Cam) (f:Nat->Int) (n:Nat) (s:Smp) (u v:Nat):List Mc:=
 if lO c f n s u v then [⟨cW c f n s u v,cW c f n s (u+1) v,cW c f n s u (v+1),u,v,n⟩,⟨cW c f n s (u+1) v,cW c f n s (u+1) (v+1),cW c f n s u (v+1),u,v,n⟩] else []
def iQ (c:Cam) (f:Nat->Int) (n:Nat) (s:Smp) (pre:List (Fin n×Fin n)):List Mc:=pre.flatMap fun p=>fX c f n s p.1 p.2
def jZ (c:Cam) (f:Nat->Int) (n:Nat) (s:Smp):List Mc:=(aRl (n*n)).flatMap fun q=>fX c f n s (q % n) (q / n)
theorem wH (c:Cam) (f:Nat->Int) (n:Nat) (s:Smp) (pre:List (Fin n×Fin n)) (x:Fin n×Fin n):iQ c f n s (pre++[x])=iQ c f n s pre++fX c f n s x.1 x.2:=by
 unfold iQ;rw [aSa,List.flatMap_singleton]
theorem iW (c:Cam) (f:Nat->Int) (n:Nat) (s:Smp) (u v:Nat):(fX c f n s u v).length<=2:=by unfold fX;split <;> simp
theorem aBy (c:Cam) (f:Nat->Int) (n:Nat) (s:Smp) (pre:List (Fin n×Fin n)):(iQ c f n s pre).length<=2*pre.length:=by
 induction pre with
 | nil=>simp [iQ]
 | cons x pre ih=>
  have:=iW c f n s x.1 x.2;unfold iQ at ih ⊢;rw [aS0,aRq,aSc];omega
theorem aIt (c:Cam) (f:Nat->Int) (n:Nat) (s:Smp) (hn:0<n):iQ c f n s (cC n hn (n*n))=jZ c f n s:=by
 unfold iQ jZ cC;rw [List.flatMap_map];refine wG fun q hq=>?_;have hd:q / n<n:=aTg (aR4.1 hq)
 show fX c f n s (q % n) (q / n % n)=_
 rw [aUx hd]
theorem wI:(Tryz.prog.info? 155).map (fun i=>(i.zero,i.size,i.bytes))=some (some (.agg #[(),(),(),(),(),(),(),(),(),(),(),()]),12,96):=by kernel_rfl
theorem rQ {α : Type} (cs : α->List Value) (e:TypeId) (sz bytes:Nat) (z:Value) (w:World) {ops:Array Oper} {rest:List Oper} {o:Oper} {a:Act} {Q:Exit->Act->World->Prop} (hg:o.guard=none) (s x:Operand) (t:TypeId)
  (hop:o.op=Op.call { callee:=Callee.builtin Builtin.append,args:=#[s,x],argTypes:=#[t,t] }) (ht:Tryz.prog.underlying t=some (.slice e))
  (hinfo:(Tryz.prog.info? e).map (fun i=>(i.zero,i.size,i.bytes))=some (some z,sz,bytes)) (hzs:z.cells.size=sz) (hsz:0<sz) (hby:bytes<=1000) (hc:∀x,(cs x).length=sz)
  (lo:Nat) (v:Value) (xs:List α) (hs:a.eval s=v) (hown:aF cs lo e sz w v xs)
  (y y' : α) (b:Nat) (hx:a.eval x = .slice (some ⟨b,0,none⟩) 2 2) (hcell:∀j u,(cs y++cs y')[j]?=some u->w.cell? ⟨b,j,none⟩=some u) (h1:∀u∈cs y++cs y',u.oneCell'=true) (hlen:xs.length<1000000) (hlo:lo<=w.heap.size)
  (hK:∀v' w',aF cs lo e sz w' v' (xs++[y,y'])->w.grownBy w' v.ownBlock->wpList aQ2 ops Q rest (a.put o.dst v') w'):wpList aQ2 ops Q (o::rest) a w:=by
 obtain ⟨i0,h3,h4,h5,h6⟩:=info_parts hinfo;refine wpList_append_own w hg s x t hop lo e i0 z sz bytes ht h3 h4 h5 h6 hzs hsz v xs.length _ hs hown ⟨b,0,none⟩ 2 2 (cs y++cs y') hx (by rw [aRq,hc,hc];omega) ?_ h1 ?_ ?_ hlo ?_
 ·intro j u hj
  have ea:(⟨b,0,none⟩:Addr).add j=⟨b,j,none⟩:=by
   unfold Addr.add
   split <;> simp_all
  rw [ea];exact hcell j u hj
 ·unfold maxLen;omega
 ·have:(xs.length+2)*bytes<=1000002*1000:=aRy (by omega) hby
  omega
 ·intro v' w1 h2 h0 _
  refine hK v' w1 ?_ h0;unfold aF;rw [aRq,aSa]
  simpa using h2
def aIu (c:Cam) (f:Nat->Int) (n:Nat) (s:Smp) (w:World) (b1:Nat):List (Nat×TypeId×List Value):=
 [(w.heap.size,35,c),(w.heap.size+1,125,f),(w.heap.size+2,214,[(),(),.int .i64 1]),(w.heap.size+3,3,[(n:Nat)]),(w.heap.size+4,3,[s.lx]),(w.heap.size+5,3,[s.ly]),(b1+1,3,[(n:Nat)]),(b1+3,3,[(n:Nat)])]
theorem aHm (c:Cam) (f:Nat->Int) (n:Nat) (s:Smp) (w:World) (b1:Nat) (hb:w.heap.size+6<=b1):∀p∈aIu c f n s w b1,p.2.1≠155/\p.1≠b1+2:=by
 intro p hp;simp only [aIu,aRk,aRe,or_false] at hp
 rcases hp with rfl|rfl|rfl|rfl|rfl|rfl|rfl|rfl <;> exact ⟨by simp,by simp only [ne_eq];omega⟩
theorem wJ (w:World):R_ 209 #[.agg #[(),(),.int .i64 1]] w (.bool true):=by
 have I1:inB 1 1 64=true:=rfl;have I2:inB 0 0 0=true:=rfl
 have eb:bits .and .i64 1 0=0:=by decide
 go_enter func209,ntmps209;go_wp2_with (go_at_call 92;with_reducible first|(refine z_ (aH I1 _) ?_)|(refine z_ (aH I2 _) ?_));go_ret;exact ⟨rfl,X_⟩
theorem aBz (c:Cam) (f:Nat->Int) (n:Nat) (s:Smp) (hn:1<=n/\n<=8) (w:World) :
  Calls aQ2 156 #[.agg c,.agg f,.agg #[(),(),.int .i64 1],(n:Nat),s.lx,s.ly] w fun e w'=>∃r,e = .returned r/\aF Mc.cs w.heap.size 155 12 w' r (jZ c f n s)/\Ext w w':=by
 have C2:∀W:World,Calls aQ2 165 #[(n:Nat)] W fun e w'=>e = .returned (.func (.func 217) #[] #[.pointer (some ⟨W.heap.size,0,none⟩)])/\w'=W.alloc (.cells #[(n:Nat)] 3):=fun W=>(callsIn_wide (n:=0)).1 (sZ n 0 W);have C2:=hid C2;have I1:=hid (aG.2 (show (1:Int)<=(n:Int)/\(n:Int)<=8 by omega))
 have a8:0<n:=by omega
 have q0:=aQ8 w 35 c;have q1:=aQ8 (w.alloc (.cells c 35)) 125 f;have q2:=aQ8 ((w.alloc (.cells c 35)).alloc (.cells f 125)) 214 [(),(),.int .i64 1];have q3:=aQ8 (((w.alloc (.cells c 35)).alloc (.cells f 125)).alloc (.cells #[(),(),.int .i64 1] 214)) 3 [(n:Nat)];have q4:=aQ8 ((((w.alloc (.cells c 35)).alloc (.cells f 125)).alloc (.cells #[(),(),.int .i64 1] 214)).alloc (.cells #[(n:Nat)] 3)) 3 [s.lx];have q5:=aQ8 (((((w.alloc (.cells c 35)).alloc (.cells f 125)).alloc (.cells #[(),(),.int .i64 1] 214)).alloc (.cells #[(n:Nat)] 3)).alloc (.cells #[s.lx] 3)) 3 [s.ly];simp only [aQy] at q1 q2 q3 q4 q5;have r0:=q0.ext (show Ext (w.alloc (.cells c 35)) ((((((w.alloc (.cells c 35)).alloc (.cells f 125)).alloc (.cells #[(),(),.int .i64 1] 214)).alloc (.cells #[(n:Nat)] 3)).alloc (.cells #[s.lx] 3)).alloc (.cells #[s.ly] 3)) from X_);have R0:=hid r0;have r1:=q1.ext (show Ext ((w.alloc (.cells c 35)).alloc (.cells f 125)) ((((((w.alloc (.cells c 35)).alloc (.cells f 125)).alloc (.cells #[(),(),.int .i64 1] 214)).alloc (.cells #[(n:Nat)] 3)).alloc (.cells #[s.lx] 3)).alloc (.cells #[s.ly] 3)) from X_);have R1:=hid r1;have r2:=q2.ext (show Ext (((w.alloc (.cells c 35)).alloc (.cells f 125)).alloc (.cells #[(),(),.int .i64 1] 214)) ((((((w.alloc (.cells c 35)).alloc (.cells f 125)).alloc (.cells #[(),(),.int .i64 1] 214)).alloc (.cells #[(n:Nat)] 3)).alloc (.cells #[s.lx] 3)).alloc (.cells #[s.ly] 3)) from X_);have R2:=hid r2;have r3:=q3.ext (show Ext ((((w.alloc (.cells c 35)).alloc (.cells f 125)).alloc (.cells #[(),(),.int .i64 1] 214)).alloc (.cells #[(n:Nat)] 3)) ((((((w.alloc (.cells c 35)).alloc (.cells f 125)).alloc (.cells #[(),(),.int .i64 1] 214)).alloc (.cells #[(n:Nat)] 3)).alloc (.cells #[s.lx] 3)).alloc (.cells #[s.ly] 3)) from X_);have R3:=hid r3;have r4:=q4.ext (show Ext (((((w.alloc (.cells c 35)).alloc (.cells f 125)).alloc (.cells #[(),(),.int .i64 1] 214)).alloc (.cells #[(n:Nat)] 3)).alloc (.cells #[s.lx] 3)) ((((((w.alloc (.cells c 35)).alloc (.cells f 125)).alloc (.cells #[(),(),.int .i64 1] 214)).alloc (.cells #[(n:Nat)] 3)).alloc (.cells #[s.lx] 3)).alloc (.cells #[s.ly] 3)) from X_);have R4:=hid r4;have r5:=q5.ext (show Ext ((((((w.alloc (.cells c 35)).alloc (.cells f 125)).alloc (.cells #[(),(),.int .i64 1] 214)).alloc (.cells #[(n:Nat)] 3)).alloc (.cells #[s.lx] 3)).alloc (.cells #[s.ly] 3)) ((((((w.alloc (.cells c 35)).alloc (.cells f 125)).alloc (.cells #[(),(),.int .i64 1] 214)).alloc (.cells #[(n:Nat)] 3)).alloc (.cells #[s.lx] 3)).alloc (.cells #[s.ly] 3)) from X_);have R5:=hid r5;have X0:=hid (show Ext w ((((((w.alloc (.cells c 35)).alloc (.cells f 125)).alloc (.cells #[(),(),.int .i64 1] 214)).alloc (.cells #[(n:Nat)] 3)).alloc (.cells #[s.lx] 3)).alloc (.cells #[s.ly] 3)) from X_);clear q0 q1 q2 q3 q4 q5 r0 r1 r2 r3 r4 r5;refine (callsIn_wide (n:=3)).1 ?_;refine callsIn_of_wp_marks func156 rfl trivial ?_ rfl;simp only [ntmps156,aVx,aSc,aS7,aTx,aYp,aVz,aV0,aWz,aWe,aSu,aV5];refine wpIn_wide.2 ?_;go_wp2_with fail;refine r_ (wJ _) fun w1 x1=>?_;have z1:=x1.size;simp only [aQy] at z1;have S0:=R0.ext x1;have S1:=R1.ext x1;have S2:=R2.ext x1;have S3:=R3.ext x1;have S4:=R4.ext x1;have S5:=R5.ext x1;have X1:=hid (X0.trans x1);have c3:=S3.cell 0 rfl;have c2:=S2.cell 2 rfl;have l2:=S2.lt;have l3:=S3.lt;have H0:=hid S0;have H1:=hid S1;have H2:=hid S2;have H3:=hid S3;have H4:=hid S4;have H5:=hid S5;clear S0 S1 S2 S3 S4 S5 x1 R0 R1 R2 R3 R4 R5 X0;go_wp2_with (go_at_call 92;refine z_ (aH I1 _) ?_);refine (C2 _).mono ?_;rintro e _ ⟨rfl,rfl⟩;go_wp2_with fail;have q6:=aQ8 w1 155 [];have q7:=aQ8 (w1.alloc (.cells #[] 155)) 3 [(n:Nat)];have q8:=aQ8 ((w1.alloc (.cells #[] 155)).alloc (.cells #[(n:Nat)] 3)) 148 [.slice (some ⟨w1.heap.size,0,none⟩) 0 0];have q9:=aQ8 (((w1.alloc (.cells #[] 155)).alloc (.cells #[(n:Nat)] 3)).alloc (.cells #[.slice (some ⟨w1.heap.size,0,none⟩) 0 0] 148)) 3 [(n:Nat)];simp only [aQy] at q7 q8 q9;have r6:=q6.ext (show Ext (w1.alloc (.cells #[] 155)) ((((w1.alloc (.cells #[] 155)).alloc (.cells #[(n:Nat)] 3)).alloc (.cells #[.slice (some ⟨w1.heap.size,0,none⟩) 0 0] 148)).alloc (.cells #[(n:Nat)] 3)) from X_);have r7:=q7.ext (show Ext ((w1.alloc (.cells #[] 155)).alloc (.cells #[(n:Nat)] 3)) ((((w1.alloc (.cells #[] 155)).alloc (.cells #[(n:Nat)] 3)).alloc (.cells #[.slice (some ⟨w1.heap.size,0,none⟩) 0 0] 148)).alloc (.cells #[(n:Nat)] 3)) from X_);have r8:=q8.ext (show Ext (((w1.alloc (.cells #[] 155)).alloc (.cells #[(n:Nat)] 3)).alloc (.cells #[.slice (some ⟨w1.heap.size,0,none⟩) 0 0] 148)) ((((w1.alloc (.cells #[] 155)).alloc (.cells #[(n:Nat)] 3)).alloc (.cells #[.slice (some ⟨w1.heap.size,0,none⟩) 0 0] 148)).alloc (.cells #[(n:Nat)] 3)) from X_);have r9:=q9.ext (show Ext ((((w1.alloc (.cells #[] 155)).alloc (.cells #[(n:Nat)] 3)).alloc (.cells #[.slice (some ⟨w1.heap.size,0,none⟩) 0 0] 148)).alloc (.cells #[(n:Nat)] 3)) ((((w1.alloc (.cells #[] 155)).alloc (.cells #[(n:Nat)] 3)).alloc (.cells #[.slice (some ⟨w1.heap.size,0,none⟩) 0 0] 148)).alloc (.cells #[(n:Nat)] 3)) from X_);have xx:Ext w1 ((((w1.alloc (.cells #[] 155)).alloc (.cells #[(n:Nat)] 3)).alloc (.cells #[.slice (some ⟨w1.heap.size,0,none⟩) 0 0] 148)).alloc (.cells #[(n:Nat)] 3)):=X_;have r0:=H0.ext xx;have r1:=H1.ext xx;have r2:=H2.ext xx;have r3:=H3.ext xx;have r4:=H4.ext xx;have r5:=H5.ext xx;have X0:=X1.trans xx
 have z0:((((w1.alloc (.cells #[] 155)).alloc (.cells #[(n:Nat)] 3)).alloc (.cells #[.slice (some ⟨w1.heap.size,0,none⟩) 0 0] 148)).alloc (.cells #[(n:Nat)] 3)).heap.size=w1.heap.size+4:=by simp
 clear q6 q7 q8 q9 xx H0 H1 H2 H3 H4 H5
 obtain ⟨W0,h7⟩:∃W0,((((w1.alloc (.cells #[] 155)).alloc (.cells #[(n:Nat)] 3)).alloc (.cells #[.slice (some ⟨w1.heap.size,0,none⟩) 0 0] 148)).alloc (.cells #[(n:Nat)] 3))=W0:=⟨_,rfl⟩
 rw [h7] at r0 r1 r2 r3 r4 r5 r6 r7 r8 r9 X0 z0
 try simp only [aQy] at h7
 rw [h7];clear h7
 have z6:w.heap.size+6<=w1.heap.size:=by omega
 have h9:RB Mc.cs 155 12 148 (fun v=>[v]) w (w1.heap.size+2) (aIu c f n s w w1.heap.size) W0 (iQ c f n s []):=by
  refine ⟨X0,fun p hp=>?_,by omega,_,r8,aF.fresh0 (by omega) r6⟩;simp only [aIu,aRk,aRe,or_false] at hp
  rcases hp with rfl|rfl|rfl|rfl|rfl|rfl|rfl|rfl <;> assumption
 have h9:=hid h9;have NB:=r9.cell 0 rfl;clear r0 r1 r2 r3 r4 r5 r6 r7 r8 r9 X0 C2 X1 c3 c2 l2 l3;refine (wpIn_wide (n:=3)).1 ?_
 refine' wpIn_rangeFunc_ownG rfl (by omega) (gf:=217) (lb:=#[.pointer (some ⟨w1.heap.size+3,0,none⟩)]) rfl trivial (enters_of func217 (by kernel_rfl) rfl)
  (nU n a8 (by omega) _ (w1.heap.size+3) W0 (by omega) NB) (fun h k=>KB.trans h k) ?hKb (aXe _ _) (fun _=>rfl)
  (fun h0 W=>RB Mc.cs 155 12 148 (fun v=>[v]) w (w1.heap.size+2) (aIu c f n s w w1.heap.size) W (iQ c f n s h0))
  (fun cd h0 W=>False) ?owns ?ownsx h9 _ ?assign ?body ?done ?stop
 case hKb=>exact fun W l o o' hl ho _ _=>aT1 (by omega)
 case assign=>
  intro l x W K hK
  gi_wp2
  exact hK
 case owns=>exact fun h0 A B row h hg hr=>RB.owns (by omega) (iQ c f n s) h0 A B row h hg hr
 case ownsx=>exact fun cd h0 A B row h hg hr=>h
 case stop=>
  rintro D cd h0 W hD - h hK;exact h.elim
 case body=>
  intro l h0 x W hI b0;have HI:=hid hI
  obtain ⟨i,hi⟩:∃i:Nat,(x.1:Nat)=i:=⟨_,rfl⟩
  obtain ⟨j,hj⟩:∃i:Nat,(x.2:Nat)=i:=⟨_,rfl⟩
  have a6:i<n:=hi▸x.1.2;have a7:j<n:=hj▸x.2.2;have ZW:=hI.ext.size;obtain ⟨tv,h1,h2⟩:=hI.tb;obtain ⟨ta,tc,rfl,a1⟩:=aF.form h2;have g0:=h1.cell 0 rfl;have gl:=h1.lt;have a3:=hid h1;have a4:=hid h2;have m0:=hI.fx _ (.head _);obtain ⟨x4,x5,x6,x7,x8,x9,z2⟩:=m0.q7;have b1:=m0.lt;have m1:=hI.fx _ (.tail _ (.head _));obtain ⟨z3,z4,z5,z7,z8,z9,y0,y1,y2,y3,h5,h6⟩:=m1.q12;have b2:=m1.lt;have m2:=hI.fx _ (.tail _ (.tail _ (.head _)));obtain ⟨y4,y5,y6⟩:=m2.q3;have b3:=m2.lt;have m3:=hI.fx _ (.tail _ (.tail _ (.tail _ (.head _))));have y7:=m3.cell 0 rfl;have b4:=m3.lt;have m4:=hI.fx _ (.tail _ (.tail _ (.tail _ (.tail _ (.head _)))));have y8:=m4.cell 0 rfl;have b5:=m4.lt;have m5:=hI.fx _ (.tail _ (.tail _ (.tail _ (.tail _ (.tail _ (.head _))))));have y9:=m5.cell 0 rfl;have b6:=m5.lt;have m6:=hI.fx _ (.tail _ (.tail _ (.tail _ (.tail _ (.tail _ (.tail _ (.head _)))))));have a0:=m6.cell 0 rfl;have b7:=m6.lt
  try simp only [aIu] at b1 b2 b3 b4 b5 b6 b7
  have x3:=aBy c f n s h0;have a9:n*n<=64:=aRy (by omega:n<=8) (by omega:n<=8);have h8:=hid (show (iQ c f n s h0).length<1000000 by omega);rw [hi,hj];clear hI h1 h2 m0 m1 m2 m3 m4 m5 m6 x3 a9;refine wpIn_block ?_;refine oB 20 (fun w'=>∃d,w'=fU (CDs w.heap.size w1.heap.size) W d) (by kernel_rfl) (by kernel_rfl) (fun ⟨_,_,h⟩=>h) ?_;refine fN (fuel:=2) [0,1,2,3,4,5,6,7,8,9,10,11,12,13,14,15,16,17] [18] (by kernel_rfl) (SC.drew _ _) ?_
  try simp only [aSj,aQ4,aRc,aRb]
  simp only [aRm,aRg,aQ1,aQw,aQx]
  show wpQuiet _ _ _ _ [_,_,_,_,_,_,_,_,_,_,_,_,_,_,_,_,_,_] _
  repeat (go_big_quiet_step (fail))
  refine wpQuiet_nil ?_;intro e he;simp only [aRk,aRe,or_false] at he;subst he
  (unfold gA;simp only [aQ1,aQx,aQw,aQ0];refine ⟨_,rfl,fun K hK=>?_⟩)
  go_wp2_with fail;refine (zF c f n s i j (by omega) a6 a7 _).mono ?_;rintro e wy ⟨r,rfl,hR,x2⟩;have yy:Ext W wy:=aQ3 (aRz (aQ6 _)) x2
  have h3:fX c f n s (x.1:Nat) (x.2:Nat)=fX c f n s i j:=by rw [hi,hj]
  have HM:=hid h3;have T:=hid (HI.to yy);have U1:=hid (a3.ext yy);have U2:=hid (aF.ext a4 yy);have YY:=hid yy;have b8:=yy.size;clear h3 x2 yy x4 x5 x6 x7 x8 x9 z2 z3 z4 z5 z7 z8 z9 y0 y1 y2 y3 h5 h6 y4 y5 y6 y7 y8 y9 a0
  rcases hR with ⟨hd,rfl⟩|⟨hd,g,gl2,rfl,hB⟩
  ·have x0:fX c f n s i j=[]:=by unfold fX;rw [hd];rfl
   go_wp2_with fail;refine hK _ _ (.inr (SC.blocks fun a ha=>YY.block (qT z6 gl ha))) ?_;clear hK K;refine fN (fuel:=1) [] [19] (by kernel_rfl) (SC.blocks fun a ha=>YY.block (qT z6 gl ha)) ?_;refine wpQuiet_nil ?_;intro e he;simp only [aRk,aRe,or_false] at he;subst he
   (unfold gA;simp only [aQ1,aQx,aQw,aQ0];refine ⟨_,rfl,fun K hK=>?_⟩)
   obtain ⟨i0,a5,-,-,-⟩:=info_parts wI;refine wpList_append_own_none rfl _ _ 148 rfl w.heap.size 155 i0 12 underlying148 a5 _ _ _ rfl U2 rfl ?_;go_wp2_with fail;refine hK _ _ (.inr (SC.blocks fun a ha=>YY.block (qT z6 gl ha))) ?_;clear hK K;have k0:=U1.cell 0 rfl;have k1:=U1.free 0;have k2:=U1.lt;refine fN (fuel:=0) [] [20] (by kernel_rfl) (SC.blocks fun a ha=>YY.block (qT z6 gl ha)) ?_;refine wpQuiet_nil ?_;intro e he;simp only [aRk,aRe,or_false] at he;subst he
   (unfold gA;simp only [aQ1,aQx,aQw,aQ0];refine ⟨_,rfl,fun K hK=>?_⟩)
   go_wp2;refine l_ hK ?_;clear hK K;refine wC (by kernel_rfl) ?_;have T4:=T.push (aHm c f n s w w1.heap.size z6) (by decide) 0 rfl U1 U2 (aQ6 _) (grownBy.refl _ _) U2;refine ⟨((Ext.others YY).trans (aVc _ _ _)).from _,(T4.fx _ (.tail _ (.tail _ (.tail _ (.tail _ (.tail _ (.tail _ (.tail _ (.head _))))))))).trans (HI.fx _ (.tail _ (.tail _ (.tail _ (.tail _ (.tail _ (.tail _ (.tail _ (.head _))))))))).symm,?_⟩
   show RB _ _ _ _ _ _ _ _ _ (iQ c f n s (h0++[x]))
   rw [wH,HM,x0,aTo];exact T4
  ·have x0:fX c f n s i j=[⟨cW c f n s i j,cW c f n s (i+1) j,cW c f n s i (j+1),i,j,n⟩,⟨cW c f n s (i+1) j,cW c f n s (i+1) (j+1),cW c f n s i (j+1),i,j,n⟩]:=by unfold fX;rw [hd];rfl
   have HB:=hid hB;clear hB;go_wp2_with fail;refine hK _ _ (.inr (SC.blocks fun a ha=>YY.block (qT z6 gl ha))) ?_;clear hK K;refine fN (fuel:=1) [] [19] (by kernel_rfl) (SC.blocks fun a ha=>YY.block (qT z6 gl ha)) ?_;refine wpQuiet_nil ?_;intro e he;simp only [aRk,aRe,or_false] at he;subst he
   (unfold gA;simp only [aQ1,aQx,aQw,aQ0];refine ⟨_,rfl,fun K hK=>?_⟩)
   refine rQ Mc.cs 155 12 96 _ _ rfl _ _ 148 rfl underlying148 wI rfl (by decide) (by decide) (fun _=>rfl) w.heap.size _ (iQ c f n s h0) rfl U2
    ⟨cW c f n s i j,cW c f n s (i+1) j,cW c f n s i (j+1),i,j,n⟩ ⟨cW c f n s (i+1) j,cW c f n s (i+1) (j+1),cW c f n s i (j+1),i,j,n⟩ g rfl (fun k u hk=>HB.cell k hk) (fun u hu=>(aTe.1 hu).elim (Mc.one _ u) (Mc.one _ u)) h8 (by have:=T.ext.size;omega) ?_
   intro v8 w8 h4 hg;obtain ⟨va,vc,rfl,_⟩:=aF.form h4;have G1:=U1.grown hg (bT U1 (by decide) U2);have k0:=G1.cell 0 rfl;have k1:=G1.free 0;have k2:=G1.lt
   have hC:∀a:Addr,CDs w.heap.size w1.heap.size a->w8.heap[a.block]?=W.heap[a.block]?:=fun a ha=>by
    have hr:some a.block≠(Value.slice ta (iQ c f n s h0).length tc).ownBlock:=by
     rcases ha with h|h|h|h|h|h|h|h
     ·rw [h];exact bT (T.fx _ (.head _)) (by simp) U2
     ·rw [h];exact bT (T.fx _ (.tail _ (.head _))) (by simp) U2
     ·rw [h];exact bT (T.fx _ (.tail _ (.tail _ (.head _)))) (by simp) U2
     ·rw [h];exact bT (T.fx _ (.tail _ (.tail _ (.tail _ (.head _))))) (by simp) U2
     ·rw [h];exact bT (T.fx _ (.tail _ (.tail _ (.tail _ (.tail _ (.head _)))))) (by simp) U2
     ·rw [h];exact bT (T.fx _ (.tail _ (.tail _ (.tail _ (.tail _ (.tail _ (.head _))))))) (by simp) U2
     ·rw [h];exact bT (T.fx _ (.tail _ (.tail _ (.tail _ (.tail _ (.tail _ (.tail _ (.head _)))))))) (by simp) U2
     ·rw [h];exact bT U1 (by decide) U2
    have hl:=qT z6 gl ha;exact (hg.block _ (aSf hl b8) hr).trans (YY.block hl)
   have a2:=hid hC;clear hC;go_wp2_with fail;refine hK _ _ (.inr (SC.blocks a2)) ?_;clear hK K;refine fN (fuel:=0) [] [20] (by kernel_rfl) (SC.blocks a2) ?_;refine wpQuiet_nil ?_;intro e he;simp only [aRk,aRe,or_false] at he;subst he
   (unfold gA;simp only [aQ1,aQx,aQw,aQ0];refine ⟨_,rfl,fun K hK=>?_⟩)
   go_wp2;refine l_ hK ?_;clear hK K;refine wC (by kernel_rfl) ?_;have T4:=T.push (aHm c f n s w w1.heap.size z6) (by decide) 0 rfl U1 U2 (aQ6 _) hg h4;simp only [aRq,aSc,aS7,aRt,aTx] at T4;refine ⟨(((Ext.others YY).trans (aWv hg (aBr (aQ6 _) U2))).trans (aVc _ _ _)).from _,(T4.fx _ (.tail _ (.tail _ (.tail _ (.tail _ (.tail _ (.tail _ (.tail _ (.head _))))))))).trans (HI.fx _ (.tail _ (.tail _ (.tail _ (.tail _ (.tail _ (.tail _ (.tail _ (.head _))))))))).symm,?_⟩
   show RB _ _ _ _ _ _ _ _ _ (iQ c f n s (h0++[x]))
   rw [wH,HM,x0];exact T4
 case done=>
  rintro D ys W hD rfl hI hK;rw [aIt] at hI;obtain ⟨tv,h1,h2⟩:=hI.tb;obtain ⟨ta,tc,rfl,a1⟩:=aF.form h2;have k0:=h1.cell 0 rfl;have k5:=h1.lt;have HI:=hid hI;clear hI h1;go_wp2_with fail;refine ⟨by simp,.inl ⟨_,_,rfl,run_takeDeferred hK,?_⟩⟩;refine ⟨_,results_tmp rfl _ _ _,_,rfl,?_,?_⟩
  ·exact aF.owns h2 (grownBy_putObj' W D _) (fun r e=>by cases e;exact ⟨_,hK,rfl⟩)
  ·exact HI.ext.grown (grownBy_putObj' W D _) (fun k e=>by cases e;omega)
end
theorem aIv (x y z:Int) (w:World):R_ 228 #[.agg #[x,y,z]] w (.agg #[x,y,z]):=by
 go_enter func228,ntmps228;go_wp2;exact bodyPost_ret (v:=.agg #[x,y,z]) (by simp [results,results228,go_sem]) rfl ⟨rfl,S_⟩
theorem aFt (x y z:Int) (w:World):R_ 229 #[.agg #[x,y,z],.agg #[x,y,z]] w (.bool true):=by
 go_enter func229,ntmps229;go_wp2;go_ret;exact ⟨rfl,X_⟩
theorem aKf {i:Nat} (h:i<12):i=0\/i=1\/i=2\/i=3\/i=4\/i=5\/i=6\/i=7\/i=8\/i=9\/i=10\/i=11:=by omega
theorem fO {b:Nat} {f:Nat->Int} (hb:w.heap.size=b):bE (w.alloc (.cells f t)) b t 12 f:=
 hb▸World.rowIs_alloc _ _ _ _ fun i hi=>by rcases aKf hi with h|h|h|h|h|h|h|h|h|h|h|h <;> subst h <;> rfl
theorem aDm (x0 x1 x2 x3 x4 x5 x6 x7 x8 x9 x10 x11:Int) (w:World) :
  R_ 182 #[.agg #[x0,x1,x2,x3,x4,x5,x6,x7,x8,x9,x10,x11]] w (.agg #[x0,x1,x2,x3,x4,x5,x6,x7,x8,x9,x10,x11]):=by
 obtain ⟨f,hf⟩:∃f:Nat->Int,f=fun i=>[x0,x1,x2,x3,x4,x5,x6,x7,x8,x9,x10,x11].getD i 0:=⟨_,rfl⟩
 have f0:f 0=x0:=by subst hf;rfl
 have f1:f 1=x1:=by subst hf;rfl
 have f2:f 2=x2:=by subst hf;rfl
 have f3:f 3=x3:=by subst hf;rfl
 have f4:f 4=x4:=by subst hf;rfl
 have f5:f 5=x5:=by subst hf;rfl
 have f6:f 6=x6:=by subst hf;rfl
 have f7:f 7=x7:=by subst hf;rfl
 have f8:f 8=x8:=by subst hf;rfl
 have f9:f 9=x9:=by subst hf;rfl
 have h0:f 10=x10:=by subst hf;rfl
 have h4:f 11=x11:=by subst hf;rfl
 clear hf;rw [<-f0,<-f1,<-f2,<-f3,<-f4,<-f5,<-f6,<-f7,<-f8,<-f9,<-h0,<-h4];clear f0 f1 f2 f3 f4 f5 f6 f7 f8 f9 h0 h4;go_enter func182,ntmps182;go_wp2
 go_loopw [4] (fun i wr=>∃k:Nat,k<=4/\i = .int .i64 k/\Ext w wr/\bE wr w.heap.size 130 12 f/\bE wr (w.heap.size+1) 123 12 (fun _=>0)/\bE wr (w.heap.size+1+1) 123 12 (lI f (k*3))) (fun i _=>4 - (intOf i).toNat)
 case atStart=>
  refine ⟨0,by omega,rfl,X_,?_,?_,?_⟩
  ·exact ((fO rfl).alloc _).alloc _
  ·exact (fO (f:=fun _=>0) (by simp)).alloc _
  ·exact bE.zero (fO (f:=fun _=>0) (by simp))
 case round=>
  obtain ⟨k,hk,rfl,hE,h1,h2,h3⟩:=hrel
  by_cases q1:k<4
  ·have c0:=h1.cell (i:=k*3) (by omega)
   have c1:=h1.cell (i:=k*3+1) (by omega);have c2:=h1.cell (i:=k*3+2) (by omega);have H1:=hid h1;have H2:=hid h2;have H3:=hid h3;have HE:=hid hE;clear h1 h2 h3 hE;go_wp2_with fail;refine r_ (aIv (f (k*3)) (f (k*3+1)) (f (k*3+2)) _) fun w2 y2=>?_;have h3:=H3.ext y2;have d0:=h3.cell (i:=k*3) (by omega);have d1:=h3.cell (i:=k*3+1) (by omega);have d2:=h3.cell (i:=k*3+2) (by omega);have e0:=h3.frozen (k*3);have e1:=h3.frozen (k*3+1);have e2:=h3.frozen (k*3+2);have G1:=hid (H1.ext y2);have G2:=hid (H2.ext y2);have G3:=hid h3;have GE:=hid (HE.trans y2);clear h3 H1 H2 H3 HE y2;go_wp2;go_roundw
   case rel=>
    refine ⟨k+1,by omega,by go_num,?_,?_,?_,?_⟩
    ·have hE:=GE.out
     exact S_
    ·exact ((G1.other (by simp;omega) _).other (by simp;omega) _).other (by simp;omega) _
    ·exact ((G2.other (by simp) _).other (by simp) _).other (by simp) _
    ·rw [Nat.add_mul,aTh]
     exact bE.step (bE.step (bE.step G3 rfl rfl) rfl rfl) rfl rfl
   case measure=>simp [intOf];omega
  ·obtain rfl:k=4:=by omega
   have h3:=h3.full;have c0:=h3.cell (i:=0) (by decide);have d0:=h2.cell (i:=0) (by decide);have e0:=h2.frozen 0;have c1:=h3.cell (i:=1) (by decide);have d1:=h2.cell (i:=1) (by decide);have e1:=h2.frozen 1;have c2:=h3.cell (i:=2) (by decide);have d2:=h2.cell (i:=2) (by decide);have e2:=h2.frozen 2;have c3:=h3.cell (i:=3) (by decide);have d3:=h2.cell (i:=3) (by decide);have e3:=h2.frozen 3;have c4:=h3.cell (i:=4) (by decide);have d4:=h2.cell (i:=4) (by decide);have e4:=h2.frozen 4;have c5:=h3.cell (i:=5) (by decide);have d5:=h2.cell (i:=5) (by decide);have e5:=h2.frozen 5;have c6:=h3.cell (i:=6) (by decide);have d6:=h2.cell (i:=6) (by decide);have e6:=h2.frozen 6;have c7:=h3.cell (i:=7) (by decide);have d7:=h2.cell (i:=7) (by decide);have e7:=h2.frozen 7;have c8:=h3.cell (i:=8) (by decide);have d8:=h2.cell (i:=8) (by decide);have e8:=h2.frozen 8;have c9:=h3.cell (i:=9) (by decide);have d9:=h2.cell (i:=9) (by decide);have e9:=h2.frozen 9;have h5:=h3.cell (i:=10) (by decide);have h7:=h2.cell (i:=10) (by decide);have h9:=h2.frozen 10;have h6:=h3.cell (i:=11) (by decide);have h8:=h2.cell (i:=11) (by decide);have q0:=h2.frozen 11;have HE:=hid hE;clear h1 h2 h3 hE;go_wp2;exact bodyPost_ret (v:=.agg f) (by simp [results,results182,go_sem, *]) rfl ⟨rfl,by have hE:=HE.out;exact S_⟩
theorem aB0 (x0 x1 x2 x3 x4 x5 x6 x7 x8 x9 x10 x11:Int) (w:World) :
  R_ 185 #[.agg #[x0,x1,x2,x3,x4,x5,x6,x7,x8,x9,x10,x11],.agg #[x0,x1,x2,x3,x4,x5,x6,x7,x8,x9,x10,x11]] w (.bool true):=by
 obtain ⟨f,hf⟩:∃f:Nat->Int,f=fun i=>[x0,x1,x2,x3,x4,x5,x6,x7,x8,x9,x10,x11].getD i 0:=⟨_,rfl⟩
 have f0:f 0=x0:=by subst hf;rfl
 have f1:f 1=x1:=by subst hf;rfl
 have f2:f 2=x2:=by subst hf;rfl
 have f3:f 3=x3:=by subst hf;rfl
 have f4:f 4=x4:=by subst hf;rfl
 have f5:f 5=x5:=by subst hf;rfl
 have f6:f 6=x6:=by subst hf;rfl
 have f7:f 7=x7:=by subst hf;rfl
 have f8:f 8=x8:=by subst hf;rfl
 have f9:f 9=x9:=by subst hf;rfl
 have h0:f 10=x10:=by subst hf;rfl
 have h3:f 11=x11:=by subst hf;rfl
 clear hf;rw [<-f0,<-f1,<-f2,<-f3,<-f4,<-f5,<-f6,<-f7,<-f8,<-f9,<-h0,<-h3];clear f0 f1 f2 f3 f4 f5 f6 f7 f8 f9 h0 h3;go_enter func185,ntmps185;go_wp2
 go_loopw [5] (fun i wr=>∃k:Nat,k<=4/\i = .int .i64 k/\Ext w wr/\bE wr w.heap.size 123 12 f/\bE wr (w.heap.size+1) 123 12 f) (fun i _=>4 - (intOf i).toNat)
 case atStart=>
  exact ⟨0,by omega,rfl,X_,(fO rfl).alloc _,fO (by simp)⟩
 case round=>
  obtain ⟨k,hk,rfl,hE,h1,h2⟩:=hrel
  by_cases h4:k<4
  ·have c0:=h1.cell (i:=k*3) (by omega)
   have c1:=h1.cell (i:=k*3+1) (by omega);have c2:=h1.cell (i:=k*3+2) (by omega);have d0:=h2.cell (i:=k*3) (by omega);have d1:=h2.cell (i:=k*3+1) (by omega);have d2:=h2.cell (i:=k*3+2) (by omega);have s1:=h1.lt;have s2:=h2.lt;have H1:=hid h1;have H2:=hid h2;have HE:=hid hE;clear h1 h2 hE;go_wp2;refine cK (by kernel_rfl) (by kernel_rfl) ?_
   repeat (go_big_quiet_step ((go_at_call 229;exact cE (aFt _ _ _ _))))
   refine wpQuiet_nil ?_;intro w1 y1;go_wp2;go_roundw
   case rel=>exact ⟨k+1,by omega,by go_num,HE.trans y1,H1.ext y1,H2.ext y1⟩
   case measure=>simp [intOf];omega
  ·go_wp2
   go_ret;exact ⟨rfl,hE⟩
theorem uF (x0 x1 x2 x3 x4 x5 x6 x7 x8 x9 x10 x11:Int) (w:World) :
  R_ 128 #[.agg #[x0,x1,x2,x3,x4,x5,x6,x7,x8,x9,x10,x11]] w (.agg #[x0,x1,x2,x3,x4,x5,x6,x7,x8,x9,x10,x11]):=by
 go_enter func128,ntmps128;go_wp2_with fail;refine r_ (aDm x0 x1 x2 x3 x4 x5 x6 x7 x8 x9 x10 x11 _) fun w1 h1=>?_;obtain ⟨c1,f1⟩:=h1.cells;have z1:=h1.size;simp only [aQy] at z1;have E1:Ext w w1:=aQ3 X_ h1
 have k1:w.heap.size<w1.heap.size:=by omega
 have k2:w.heap.size+1<w1.heap.size:=by omega
 have k3:w.heap.size+1+1<w1.heap.size:=by omega
 go_wp2;exact bodyPost_ret (v:=.agg #[x0,x1,x2,x3,x4,x5,x6,x7,x8,x9,x10,x11]) (by simp [results,results128,go_sem, *]) rfl ⟨rfl,S_⟩
theorem rR (x0 x1 x2 x3 x4 x5 x6 x7 x8 x9 x10 x11:Int) (w:World) :
  R_ 131 #[.agg #[x0,x1,x2,x3,x4,x5,x6,x7,x8,x9,x10,x11],.agg #[x0,x1,x2,x3,x4,x5,x6,x7,x8,x9,x10,x11]] w (.bool true):=by
 go_enter func131,ntmps131;go_wp2_with fail;refine r_ (aB0 x0 x1 x2 x3 x4 x5 x6 x7 x8 x9 x10 x11 _) fun w1 h1=>?_;go_wp2;go_ret;exact ⟨rfl,aQ3 X_ h1⟩
def C1e (b:Nat):Addr->Prop:=fun a=>a.block=b
@[go_sem] theorem aP3 {b o:Nat} (h:k=b):C1e b ⟨k,o,none⟩:=h
theorem oU (x y z k l m t:Int) (ht:0<=t/\t<=16) (w:World) :
  R_ 211 #[.agg #[x,y,z],.agg #[k,l,m],t,.int .i64 16] w (.agg #[(gJ x k t 16),(gJ y l t 16),(gJ z m t 16)]):=by
 obtain ⟨ux,h4⟩:∃r,cl x=r:=⟨_,rfl⟩
 have q5:=cM x;rw [h4] at q5
 obtain ⟨uy,h5⟩:∃r,cl y=r:=⟨_,rfl⟩
 have q6:=cM y;rw [h5] at q6
 obtain ⟨uz,h6⟩:∃r,cl z=r:=⟨_,rfl⟩
 have q7:=cM z;rw [h6] at q7
 obtain ⟨uk,h1⟩:∃r,cl k=r:=⟨_,rfl⟩
 have h8:=cM k;rw [h1] at h8
 obtain ⟨ul,h2⟩:∃r,cl l=r:=⟨_,rfl⟩
 have h9:=cM l;rw [h2] at h9
 obtain ⟨um,h3⟩:∃r,cl m=r:=⟨_,rfl⟩
 have q4:=cM m;rw [h3] at q4;have p0:=bL (A:=16) (B:=1000000) (a:=16 - t) (b:=ux) (by omega) q5
 obtain ⟨q0,e0⟩:∃r,(16 - t)*ux=r:=⟨_,rfl⟩
 rw [e0] at p0;have r0:=bL (A:=16) (B:=1000000) (a:=t) (b:=uk) (by omega) h8
 obtain ⟨s0,g0⟩:∃r,t*uk=r:=⟨_,rfl⟩
 rw [g0] at r0
 have x0:gJ x k t 16=bI (q0+s0) 16:=by unfold gJ;rw [h4,h1,aSz ux,aSz uk,e0,g0]
 rw [x0];have M0:=hid (show wrap64 ((16 - t)*ux)=q0 by rw [e0];exact aD (by omega) (by omega));have N0:=hid (show wrap64 (t*uk)=s0 by rw [g0];exact aD (by omega) (by omega));have S0:=hid (show wrap64 (q0+s0)=q0+s0 from aD (by omega) (by omega));have I0:=hid (I64.of (n:=q0+s0) (m:=40000000) (by omega) (by decide));have p1:=bL (A:=16) (B:=1000000) (a:=16 - t) (b:=uy) (by omega) q6
 obtain ⟨q1,e1⟩:∃r,(16 - t)*uy=r:=⟨_,rfl⟩
 rw [e1] at p1;have r1:=bL (A:=16) (B:=1000000) (a:=t) (b:=ul) (by omega) h9
 obtain ⟨s1,g1⟩:∃r,t*ul=r:=⟨_,rfl⟩
 rw [g1] at r1
 have x3:gJ y l t 16=bI (q1+s1) 16:=by unfold gJ;rw [h5,h2,aSz uy,aSz ul,e1,g1]
 rw [x3];have M1:=hid (show wrap64 ((16 - t)*uy)=q1 by rw [e1];exact aD (by omega) (by omega));have N1:=hid (show wrap64 (t*ul)=s1 by rw [g1];exact aD (by omega) (by omega));have S1:=hid (show wrap64 (q1+s1)=q1+s1 from aD (by omega) (by omega));have I1:=hid (I64.of (n:=q1+s1) (m:=40000000) (by omega) (by decide));have p2:=bL (A:=16) (B:=1000000) (a:=16 - t) (b:=uz) (by omega) q7
 obtain ⟨q2,e2⟩:∃r,(16 - t)*uz=r:=⟨_,rfl⟩
 rw [e2] at p2;have r2:=bL (A:=16) (B:=1000000) (a:=t) (b:=um) (by omega) q4
 obtain ⟨s2,g2⟩:∃r,t*um=r:=⟨_,rfl⟩
 rw [g2] at r2
 have x4:gJ z m t 16=bI (q2+s2) 16:=by unfold gJ;rw [h6,h3,aSz uz,aSz um,e2,g2]
 rw [x4];have M2:=hid (show wrap64 ((16 - t)*uz)=q2 by rw [e2];exact aD (by omega) (by omega));have N2:=hid (show wrap64 (t*um)=s2 by rw [g2];exact aD (by omega) (by omega));have S2:=hid (show wrap64 (q2+s2)=q2+s2 from aD (by omega) (by omega));have I2:=hid (I64.of (n:=q2+s2) (m:=40000000) (by omega) (by decide));have z4:=hid h4;have z5:=hid h5;have z6:=hid h6;have z1:=hid h1;have z2:=hid h2;have z3:=hid h3;clear h4 q5 h5 q6 h6 q7 h1 h8 h2 h9 h3 q4 p0 e0 r0 g0 x0 p1 e1 r1 g1 x3 p2 e2 r2 g2 x4;have J1:=hid (show inB 16 1 4096=true from rfl);have J2:=hid (aG.2 (show (0:Int)<=t/\t<=16 from ht));have q0:=(aQ8 w 122 [x,y,z]).ext (show Ext (w.alloc (.cells #[x,y,z] 122)) (((w.alloc (.cells #[x,y,z] 122)).alloc (.cells #[k,l,m] 122)).alloc (.cells #[(),(),()] 122)) from X_);have q1:=aQ8 (w.alloc (.cells #[x,y,z] 122)) 122 [k,l,m];have q2:=aQ8 ((w.alloc (.cells #[x,y,z] 122)).alloc (.cells #[k,l,m] 122)) 122 [(),(),()];simp only [aQy] at q1 q2;have R0:=hid q0;have R1:=hid (q1.alloc (.cells #[(),(),()] 122));have R2:=hid q2;have X0:=hid (show Ext w (((w.alloc (.cells #[x,y,z] 122)).alloc (.cells #[k,l,m] 122)).alloc (.cells #[(),(),()] 122)) from X_);clear q0 q1 q2;go_enter func211,ntmps211;go_wp2_with fail;refine aJ [([2],0),([],1),([],3),([],4),([],5)] 5 (fun w'=>∃d,w'=fU (C1e (w.heap.size+1)) _ d) (by kernel_rfl) (by kernel_rfl) (SC.drew _ _) ?_;refine sc_ fun K hK=>?_;go_wp2_with fail;refine hK _ _ (.inr (SC.drew _ _)) ?_;clear hK K;refine sc_ fun K hK=>?_;go_wp2_with fail;refine r_ (eP z4.out z5.out z6.out _) fun w1 x1=>?_;have y1:Ext (((w.alloc (.cells #[x,y,z] 122)).alloc (.cells #[k,l,m] 122)).alloc (.cells #[(),(),()] 122)) w1:=aQ3 (aRz (aQ6 _)) x1;go_wp2_with fail;refine hK _ _ (.inr (SC.blocks fun a ha=>y1.block (by rw [show a.block=w.heap.size+1 from ha];simp))) ?_;clear hK K;refine sc_ fun K hK=>?_;go_wp2_with fail;refine r_ (eP z1.out z2.out z3.out _) fun w2 x2=>?_;have y2:=y1.trans x2;have D0:=R0.out.ext y2;have D1:=R1.out.ext y2;have D2:=R2.out.ext y2;have a0:=D0.free 0;have a1:=D0.free 1;have a2:=D0.free 2;have a3:=D0.cell 0 rfl;have a4:=D0.cell 1 rfl;have a5:=D0.cell 2 rfl;have a6:=D0.lt;have c0:=D1.free 0;have c1:=D1.free 1;have c2:=D1.free 2;have c3:=D1.cell 0 rfl;have c4:=D1.cell 1 rfl;have c5:=D1.cell 2 rfl;have c6:=D1.lt;go_wp2_with fail;refine hK _ _ (.inr (SC.blocks fun a ha=>y2.block (by rw [show a.block=w.heap.size+1 from ha];simp))) ?_;clear hK K;refine sc_ fun K hK=>?_;go_wp2_with fail;refine hK _ _ (.inr (SC.blocks fun a ha=>?_)) ?_
 ·have hb:a.block=w.heap.size+1:=ha
  rw [aQ7 _ _ _ _ (by rw [hb];simp),aQ7 _ _ _ _ (by rw [hb];simp),aQ7 _ _ _ _ (by rw [hb];simp)];exact y2.block (by rw [hb];simp)
 clear hK K;refine sc_ fun K hK=>?_;go_wp2_with fail;refine l_ hK ?_;clear hK K;refine aP ?_
 have h0:w.heap.size≠w.heap.size+1:=by omega
 have q8:w.heap.size+2≠w.heap.size:=by omega
 have q9:w.heap.size+2≠w.heap.size+1:=by omega
 have E0:=((((((D0.set 0 (.int .i64 ux)).set 1 (.int .i64 uy)).set 2 (.int .i64 uz)).other (a:=⟨w.heap.size+1,0,none⟩) h0 (.int .i64 uk)).other (a:=⟨w.heap.size+1,1,none⟩) h0 (.int .i64 ul)).other (a:=⟨w.heap.size+1,2,none⟩) h0 (.int .i64 um))
 have E1:=((((((D1.other (a:=⟨w.heap.size,0,none⟩) h0.symm (.int .i64 ux)).other (a:=⟨w.heap.size,1,none⟩) h0.symm (.int .i64 uy)).other (a:=⟨w.heap.size,2,none⟩) h0.symm (.int .i64 uz)).set 0 (.int .i64 uk)).set 1 (.int .i64 ul)).set 2 (.int .i64 um))
 have E2:=((((((D2.other (a:=⟨w.heap.size,0,none⟩) q8 (.int .i64 ux)).other (a:=⟨w.heap.size,1,none⟩) q8 (.int .i64 uy)).other (a:=⟨w.heap.size,2,none⟩) q8 (.int .i64 uz)).other (a:=⟨w.heap.size+1,0,none⟩) q9 (.int .i64 uk)).other (a:=⟨w.heap.size+1,1,none⟩) q9 (.int .i64 ul)).other (a:=⟨w.heap.size+1,2,none⟩) q9 (.int .i64 um))
 have EX:Ext w ((((((w2.setCell ⟨w.heap.size,0,none⟩ ux).setCell ⟨w.heap.size,1,none⟩ uy).setCell ⟨w.heap.size,2,none⟩ uz).setCell ⟨w.heap.size+1,0,none⟩ uk).setCell ⟨w.heap.size+1,1,none⟩ ul).setCell ⟨w.heap.size+1,2,none⟩ um):=by
  have hX:=X0.out.trans y2;exact S_
 obtain ⟨w3,h7⟩:∃w3,((((((w2.setCell ⟨w.heap.size,0,none⟩ ux).setCell ⟨w.heap.size,1,none⟩ uy).setCell ⟨w.heap.size,2,none⟩ uz).setCell ⟨w.heap.size+1,0,none⟩ uk).setCell ⟨w.heap.size+1,1,none⟩ ul).setCell ⟨w.heap.size+1,2,none⟩ um)=w3:=⟨_,rfl⟩
 rw [h7] at E0 E1 E2 EX
 try simp only [aSp,aTx] at h7
 rw [h7];clear h7 a0 a1 a2 a3 a4 a5 a6 c0 c1 c2 c3 c4 c5 c6 D0 D1 D2 y1 y2 x1 x2;have a3:=E0.cell 0 rfl;have a4:=E0.cell 1 rfl;have a5:=E0.cell 2 rfl;have a6:=E0.lt;have c3:=E1.cell 0 rfl;have c4:=E1.cell 1 rfl;have c5:=E1.cell 2 rfl;have c6:=E1.lt;have x9:=hid E2;have z0:=hid EX;clear E0 E1 E2 EX;go_wp2_with (go_at_call 92;with_reducible first|(refine z_ (aH J1.out _) ?_)|(refine z_ (aH J2.out _) ?_));refine aA [([0,1,2,3,5,6,9],4),([],7),([],8),([],10),([],11)] 11 w3.heap.size (by kernel_rfl) (by kernel_rfl) ?_;refine st_ fun K hK=>?_;go_wp2_with fail;refine r_ (iY M0.out M1.out M2.out _) fun w5 x5=>?_;have y5:Ext w3 w5:=aQ3 (aRz (aQ6 _)) x5;go_wp2_with fail;refine k_ hK ?_;clear hK K;refine st_ fun K hK=>?_;go_wp2_with fail;refine r_ (iY N0.out N1.out N2.out _) fun w6 x6=>?_;have y6:=y5.trans x6;go_wp2_with fail;refine k_ hK ?_;clear hK K;refine st_ fun K hK=>?_;go_wp2_with fail;refine r_ (nX S0.out S1.out S2.out _) fun w7 x7=>?_;have y7:=y6.trans x7;go_wp2_with fail;refine k_ hK ?_;clear hK K;refine st_ fun K hK=>?_;go_wp2_with fail;refine r_ (aDf I0.out I1.out I2.out rfl rfl rfl _) fun w8 x8=>?_;have y8:=y7.trans x8;go_wp2_with fail;refine k_ hK ?_;clear hK K;have F2:=x9.out.ext y8;obtain ⟨k0,k1,k2⟩:=F2.q3;have f0:=F2.free 0;have f1:=F2.free 1;have f2:=F2.free 2;have fl:=F2.lt;have hX:=z0.out.trans y8;refine st_ fun K hK=>?_;go_wp2_with fail;refine l_ hK ?_;clear hK K;refine aC ?_;go_wp2;exact bodyPost_ret (v:=.agg #[.int .i64 (bI (q0+s0) 16),.int .i64 (bI (q1+s1) 16),.int .i64 (bI (q2+s2) 16)]) (by simp [results,results211,go_sem, *]) rfl ⟨rfl,S_⟩
def C2e (b c:Nat):Addr->Prop:=fun a=>a.block=b\/a.block=c
@[go_sem] theorem aP4 {b c o:Nat} (h:k=b\/k=c):C2e b c ⟨k,o,none⟩:=h
theorem aKg (f g:Nat->Int) (t:Int) (ht:0<=t/\t<=16) (w:World) :
  R_ 157 #[.agg f,.agg g,t] w (.agg (aY f g t)):=by
 have J2:=hid (aG.2 (show (0:Int)<=t/\t<=16 from ht))
 obtain ⟨q,hq⟩:∃q:Nat->Int,aY f g t=q:=⟨_,rfl⟩
 have HQ:=hid (fun j=>show gJ (f j) (g j) t 16=q j by rw [<-hq];rfl);have HT:=hid ht;rw [hq];clear ht hq;have j0:=pJ f 0 (by decide);have j1:=pJ f 1 (by decide);have j2:=pJ f 2 (by decide);have j3:=pJ f 3 (by decide);simp only [aY6,aRt,aUv,aTx,aYo,aWn] at j0 j1 j2 j3;have r0:=fO (w:=w) (t:=125) (f:=f) rfl;have r1:=fO (w:=(w.alloc (.cells f 125))) (t:=125) (f:=g) rfl;have r2:=fO (w:=((w.alloc (.cells f 125)).alloc (.cells g 125))) (t:=125) (f:=fun _=>0) rfl;simp only [aQy] at r1 r2;have R0:=hid ((r0.alloc (.cells g 125)).alloc (.cells #[(),(),(),(),(),(),(),(),(),(),(),()] 125));have R1:=hid (r1.alloc (.cells #[(),(),(),(),(),(),(),(),(),(),(),()] 125));have R2:=hid r2;have X0:=hid (show Ext w (((w.alloc (.cells f 125)).alloc (.cells g 125)).alloc (.cells #[(),(),(),(),(),(),(),(),(),(),(),()] 125)) from X_);clear r0 r1 r2;go_enter func157,ntmps157;go_wp2_with (go_at_call 92;refine z_ (aH J2 _) ?_)
 obtain ⟨W0,h4⟩:∃W0,(((w.alloc (.cells f 125)).alloc (.cells g 125)).alloc (.cells #[(),(),(),(),(),(),(),(),(),(),(),()] 125))=W0:=⟨_,rfl⟩
 rw [h4] at R0 R1 R2 X0 ⊢;clear h4
 go_loopw [15] (fun i wr=>∃k c:Nat,c=k*3/\k<=4/\i = .int .i64 (k:Nat)/\Ext w wr/\bE wr w.heap.size 125 12 (aC1 f q c)/\bE wr (w.heap.size+1) 125 12 g/\bE wr (w.heap.size+2) 125 12 (fun _=>0)) (fun i _=>4 - (intOf i).toNat)
 case atStart=>exact ⟨0,0,rfl,by omega,rfl,X0,bE.mix0 R0,R1,R2⟩
 case round=>
  obtain ⟨k,c,hc,hk,rfl,hx,h0,h1,h2⟩:=hrel;have HX:=hid hx;have H0:=hid h0;have H1:=hid h1;have H2:=hid h2;have z0:=h0.lt;have z1:=h1.lt;have z2:=h2.lt;have zx:=hx.size;clear hx h0 h1 h2 R0 R1 R2 X0
  rcases (show k=0\/k=1\/k=2\/k=3\/k=4 by omega) with rfl|rfl|rfl|rfl|rfl
  ·obtain rfl:c=0:=by omega
   clear hc;have c0:=H1.cell (i:=0) (by decide);have c1:=H1.cell (i:=1) (by decide);have c2:=H1.cell (i:=2) (by decide);go_wp2_with fail;refine aJ [([0,1,2,3,4,5,6,8],7),([9],10)] 99 (fun w'=>∃d,w'=fU (C2e (w.heap.size+1) wr.heap.size) _ d) (by kernel_rfl) (by kernel_rfl) (SC.drew _ _) ?_;refine sc_ fun K hK=>?_;go_wp2_with fail;refine r_ (oU (f 0) (f 1) (f 2) (g 0) (g 1) (g 2) t HT _) fun w3 x3=>?_;rw [HQ 0,HQ 1,HQ 2];have y3:Ext (wr.alloc (.cells #[(f 0),(f 1),(f 2)] 122)) w3:=aQ3 (aRz (aQ6 _)) x3;go_wp2_with fail;refine hK _ _ (.inr (SC.blocks fun a ha=>y3.block (by rcases ha with h|h <;> rw [h] <;> simp <;> omega))) ?_;clear hK K;have Y3:Ext wr w3:=aQ3 (show Ext wr (wr.alloc (.cells #[(f 0),(f 1),(f 2)] 122)) from X_) y3;have D0:=H0.ext Y3;have D1:=H1.ext Y3;have D2:=H2.ext Y3;have X3:=HX.trans Y3;have k0:=D0.cell (i:=0) (by decide);have k1:=D0.cell (i:=1) (by decide);have k2:=D0.cell (i:=2) (by decide);have f0:=D0.frozen 0;have f1:=D0.frozen 1;have f2:=D0.frozen 2;have fl:=D0.lt;have G0:=hid (bE.mix (c:=2) (bE.mix (c:=1) (bE.mix (c:=0) D0 rfl rfl) rfl rfl) rfl rfl)
   have n1:w.heap.size+1≠w.heap.size:=by omega
   have n2:w.heap.size+2≠w.heap.size:=by omega
   have G1:=hid (((D1.other (a:=⟨w.heap.size,0,none⟩) n1 (.int .i64 (q 0))).other (a:=⟨w.heap.size,1,none⟩) n1 (.int .i64 (q 1))).other (a:=⟨w.heap.size,2,none⟩) n1 (.int .i64 (q 2)));have G2:=hid (((D2.other (a:=⟨w.heap.size,0,none⟩) n2 (.int .i64 (q 0))).other (a:=⟨w.heap.size,1,none⟩) n2 (.int .i64 (q 1))).other (a:=⟨w.heap.size,2,none⟩) n2 (.int .i64 (q 2)));have GX:=hid (show Ext w (((w3.setCell ⟨w.heap.size,0,none⟩ (q 0)).setCell ⟨w.heap.size,1,none⟩ (q 1)).setCell ⟨w.heap.size,2,none⟩ (q 2)) from S_);have h3:=hid (fun a:Addr=>fun ha:C2e (w.heap.size+1) wr.heap.size a=>y3.block (show a.block<(wr.alloc (.cells #[(f 0),(f 1),(f 2)] 122)).heap.size by rcases ha with h|h <;> rw [h] <;> simp <;> omega));clear D0 D1 D2 X3 Y3 y3 x3 c0 c1 c2;refine sc_ fun K hK=>?_;go_wp2_with fail;refine hK _ _ (.inr (SC.blocks fun a ha=>?_)) ?_
   ·have hb:a.block≠w.heap.size:=by rcases ha with h|h <;> omega
    rw [aQ7 _ _ _ _ (by exact hb),aQ7 _ _ _ _ (by exact hb),aQ7 _ _ _ _ (by exact hb)];exact h3.out a ha
   clear hK K;refine aP ?_;go_wp2;go_roundw
   case rel=>exact ⟨1,3,rfl,by omega,by go_num,GX,G0,G1,G2⟩
   case measure=>simp [intOf]
  ·obtain rfl:c=3:=by omega
   clear hc;have c0:=H1.cell (i:=3) (by decide);have c1:=H1.cell (i:=4) (by decide);have c2:=H1.cell (i:=5) (by decide);go_wp2_with fail;refine aJ [([0,1,2,3,4,5,6,8],7),([9],10)] 99 (fun w'=>∃d,w'=fU (C2e (w.heap.size+1) wr.heap.size) _ d) (by kernel_rfl) (by kernel_rfl) (SC.drew _ _) ?_;refine sc_ fun K hK=>?_;go_wp2_with fail;refine r_ (oU (f 3) (f 4) (f 5) (g 3) (g 4) (g 5) t HT _) fun w3 x3=>?_;rw [HQ 3,HQ 4,HQ 5];have y3:Ext (wr.alloc (.cells #[(f 3),(f 4),(f 5)] 122)) w3:=aQ3 (aRz (aQ6 _)) x3;go_wp2_with fail;refine hK _ _ (.inr (SC.blocks fun a ha=>y3.block (by rcases ha with h|h <;> rw [h] <;> simp <;> omega))) ?_;clear hK K;have Y3:Ext wr w3:=aQ3 (show Ext wr (wr.alloc (.cells #[(f 3),(f 4),(f 5)] 122)) from X_) y3;have D0:=H0.ext Y3;have D1:=H1.ext Y3;have D2:=H2.ext Y3;have X3:=HX.trans Y3;have k0:=D0.cell (i:=3) (by decide);have k1:=D0.cell (i:=4) (by decide);have k2:=D0.cell (i:=5) (by decide);have f0:=D0.frozen 3;have f1:=D0.frozen 4;have f2:=D0.frozen 5;have fl:=D0.lt;have G0:=hid (bE.mix (c:=5) (bE.mix (c:=4) (bE.mix (c:=3) D0 rfl rfl) rfl rfl) rfl rfl)
   have n1:w.heap.size+1≠w.heap.size:=by omega
   have n2:w.heap.size+2≠w.heap.size:=by omega
   have G1:=hid (((D1.other (a:=⟨w.heap.size,3,none⟩) n1 (.int .i64 (q 3))).other (a:=⟨w.heap.size,4,none⟩) n1 (.int .i64 (q 4))).other (a:=⟨w.heap.size,5,none⟩) n1 (.int .i64 (q 5)));have G2:=hid (((D2.other (a:=⟨w.heap.size,3,none⟩) n2 (.int .i64 (q 3))).other (a:=⟨w.heap.size,4,none⟩) n2 (.int .i64 (q 4))).other (a:=⟨w.heap.size,5,none⟩) n2 (.int .i64 (q 5)));have GX:=hid (show Ext w (((w3.setCell ⟨w.heap.size,3,none⟩ (q 3)).setCell ⟨w.heap.size,4,none⟩ (q 4)).setCell ⟨w.heap.size,5,none⟩ (q 5)) from S_);have h3:=hid (fun a:Addr=>fun ha:C2e (w.heap.size+1) wr.heap.size a=>y3.block (show a.block<(wr.alloc (.cells #[(f 3),(f 4),(f 5)] 122)).heap.size by rcases ha with h|h <;> rw [h] <;> simp <;> omega));clear D0 D1 D2 X3 Y3 y3 x3 c0 c1 c2;refine sc_ fun K hK=>?_;go_wp2_with fail;refine hK _ _ (.inr (SC.blocks fun a ha=>?_)) ?_
   ·have hb:a.block≠w.heap.size:=by rcases ha with h|h <;> omega
    rw [aQ7 _ _ _ _ (by exact hb),aQ7 _ _ _ _ (by exact hb),aQ7 _ _ _ _ (by exact hb)];exact h3.out a ha
   clear hK K;refine aP ?_;go_wp2;go_roundw
   case rel=>exact ⟨2,6,rfl,by omega,by go_num,GX,G0,G1,G2⟩
   case measure=>simp [intOf]
  ·obtain rfl:c=6:=by omega
   clear hc;have c0:=H1.cell (i:=6) (by decide);have c1:=H1.cell (i:=7) (by decide);have c2:=H1.cell (i:=8) (by decide);go_wp2_with fail;refine aJ [([0,1,2,3,4,5,6,8],7),([9],10)] 99 (fun w'=>∃d,w'=fU (C2e (w.heap.size+1) wr.heap.size) _ d) (by kernel_rfl) (by kernel_rfl) (SC.drew _ _) ?_;refine sc_ fun K hK=>?_;go_wp2_with fail;refine r_ (oU (f 6) (f 7) (f 8) (g 6) (g 7) (g 8) t HT _) fun w3 x3=>?_;rw [HQ 6,HQ 7,HQ 8];have y3:Ext (wr.alloc (.cells #[(f 6),(f 7),(f 8)] 122)) w3:=aQ3 (aRz (aQ6 _)) x3;go_wp2_with fail;refine hK _ _ (.inr (SC.blocks fun a ha=>y3.block (by rcases ha with h|h <;> rw [h] <;> simp <;> omega))) ?_;clear hK K;have Y3:Ext wr w3:=aQ3 (show Ext wr (wr.alloc (.cells #[(f 6),(f 7),(f 8)] 122)) from X_) y3;have D0:=H0.ext Y3;have D1:=H1.ext Y3;have D2:=H2.ext Y3;have X3:=HX.trans Y3;have k0:=D0.cell (i:=6) (by decide);have k1:=D0.cell (i:=7) (by decide);have k2:=D0.cell (i:=8) (by decide);have f0:=D0.frozen 6;have f1:=D0.frozen 7;have f2:=D0.frozen 8;have fl:=D0.lt;have G0:=hid (bE.mix (c:=8) (bE.mix (c:=7) (bE.mix (c:=6) D0 rfl rfl) rfl rfl) rfl rfl)
   have n1:w.heap.size+1≠w.heap.size:=by omega
   have n2:w.heap.size+2≠w.heap.size:=by omega
   have G1:=hid (((D1.other (a:=⟨w.heap.size,6,none⟩) n1 (.int .i64 (q 6))).other (a:=⟨w.heap.size,7,none⟩) n1 (.int .i64 (q 7))).other (a:=⟨w.heap.size,8,none⟩) n1 (.int .i64 (q 8)));have G2:=hid (((D2.other (a:=⟨w.heap.size,6,none⟩) n2 (.int .i64 (q 6))).other (a:=⟨w.heap.size,7,none⟩) n2 (.int .i64 (q 7))).other (a:=⟨w.heap.size,8,none⟩) n2 (.int .i64 (q 8)));have GX:=hid (show Ext w (((w3.setCell ⟨w.heap.size,6,none⟩ (q 6)).setCell ⟨w.heap.size,7,none⟩ (q 7)).setCell ⟨w.heap.size,8,none⟩ (q 8)) from S_);have h3:=hid (fun a:Addr=>fun ha:C2e (w.heap.size+1) wr.heap.size a=>y3.block (show a.block<(wr.alloc (.cells #[(f 6),(f 7),(f 8)] 122)).heap.size by rcases ha with h|h <;> rw [h] <;> simp <;> omega));clear D0 D1 D2 X3 Y3 y3 x3 c0 c1 c2;refine sc_ fun K hK=>?_;go_wp2_with fail;refine hK _ _ (.inr (SC.blocks fun a ha=>?_)) ?_
   ·have hb:a.block≠w.heap.size:=by rcases ha with h|h <;> omega
    rw [aQ7 _ _ _ _ (by exact hb),aQ7 _ _ _ _ (by exact hb),aQ7 _ _ _ _ (by exact hb)];exact h3.out a ha
   clear hK K;refine aP ?_;go_wp2;go_roundw
   case rel=>exact ⟨3,9,rfl,by omega,by go_num,GX,G0,G1,G2⟩
   case measure=>simp [intOf]
  ·obtain rfl:c=9:=by omega
   clear hc;have c0:=H1.cell (i:=9) (by decide);have c1:=H1.cell (i:=10) (by decide);have c2:=H1.cell (i:=11) (by decide);go_wp2_with fail;refine aJ [([0,1,2,3,4,5,6,8],7),([9],10)] 99 (fun w'=>∃d,w'=fU (C2e (w.heap.size+1) wr.heap.size) _ d) (by kernel_rfl) (by kernel_rfl) (SC.drew _ _) ?_;refine sc_ fun K hK=>?_;go_wp2_with fail;refine r_ (oU (f 9) (f 10) (f 11) (g 9) (g 10) (g 11) t HT _) fun w3 x3=>?_;rw [HQ 9,HQ 10,HQ 11];have y3:Ext (wr.alloc (.cells #[(f 9),(f 10),(f 11)] 122)) w3:=aQ3 (aRz (aQ6 _)) x3;go_wp2_with fail;refine hK _ _ (.inr (SC.blocks fun a ha=>y3.block (by rcases ha with h|h <;> rw [h] <;> simp <;> omega))) ?_;clear hK K;have Y3:Ext wr w3:=aQ3 (show Ext wr (wr.alloc (.cells #[(f 9),(f 10),(f 11)] 122)) from X_) y3;have D0:=H0.ext Y3;have D1:=H1.ext Y3;have D2:=H2.ext Y3;have X3:=HX.trans Y3;have k0:=D0.cell (i:=9) (by decide);have k1:=D0.cell (i:=10) (by decide);have k2:=D0.cell (i:=11) (by decide);have f0:=D0.frozen 9;have f1:=D0.frozen 10;have f2:=D0.frozen 11;have fl:=D0.lt;have G0:=hid (bE.mix (c:=11) (bE.mix (c:=10) (bE.mix (c:=9) D0 rfl rfl) rfl rfl) rfl rfl)
   have n1:w.heap.size+1≠w.heap.size:=by omega
   have n2:w.heap.size+2≠w.heap.size:=by omega
   have G1:=hid (((D1.other (a:=⟨w.heap.size,9,none⟩) n1 (.int .i64 (q 9))).other (a:=⟨w.heap.size,10,none⟩) n1 (.int .i64 (q 10))).other (a:=⟨w.heap.size,11,none⟩) n1 (.int .i64 (q 11)));have G2:=hid (((D2.other (a:=⟨w.heap.size,9,none⟩) n2 (.int .i64 (q 9))).other (a:=⟨w.heap.size,10,none⟩) n2 (.int .i64 (q 10))).other (a:=⟨w.heap.size,11,none⟩) n2 (.int .i64 (q 11)));have GX:=hid (show Ext w (((w3.setCell ⟨w.heap.size,9,none⟩ (q 9)).setCell ⟨w.heap.size,10,none⟩ (q 10)).setCell ⟨w.heap.size,11,none⟩ (q 11)) from S_);have h3:=hid (fun a:Addr=>fun ha:C2e (w.heap.size+1) wr.heap.size a=>y3.block (show a.block<(wr.alloc (.cells #[(f 9),(f 10),(f 11)] 122)).heap.size by rcases ha with h|h <;> rw [h] <;> simp <;> omega));clear D0 D1 D2 X3 Y3 y3 x3 c0 c1 c2;refine sc_ fun K hK=>?_;go_wp2_with fail;refine hK _ _ (.inr (SC.blocks fun a ha=>?_)) ?_
   ·have hb:a.block≠w.heap.size:=by rcases ha with h|h <;> omega
    rw [aQ7 _ _ _ _ (by exact hb),aQ7 _ _ _ _ (by exact hb),aQ7 _ _ _ _ (by exact hb)];exact h3.out a ha
   clear hK K;refine aP ?_;go_wp2;go_roundw
   case rel=>exact ⟨4,12,rfl,by omega,by go_num,GX,G0,G1,G2⟩
   case measure=>simp [intOf]
  ·obtain rfl:c=12:=by omega
   clear hc;have h0:=bE.mixAll H0;have c0:=h0.cell (i:=0) (by decide);have d0:=H2.cell (i:=0) (by decide);have e0:=H2.frozen 0;have c1:=h0.cell (i:=1) (by decide);have d1:=H2.cell (i:=1) (by decide);have e1:=H2.frozen 1;have c2:=h0.cell (i:=2) (by decide);have d2:=H2.cell (i:=2) (by decide);have e2:=H2.frozen 2;have c3:=h0.cell (i:=3) (by decide);have d3:=H2.cell (i:=3) (by decide);have e3:=H2.frozen 3;have c4:=h0.cell (i:=4) (by decide);have d4:=H2.cell (i:=4) (by decide);have e4:=H2.frozen 4;have c5:=h0.cell (i:=5) (by decide);have d5:=H2.cell (i:=5) (by decide);have e5:=H2.frozen 5;have c6:=h0.cell (i:=6) (by decide);have d6:=H2.cell (i:=6) (by decide);have e6:=H2.frozen 6;have c7:=h0.cell (i:=7) (by decide);have d7:=H2.cell (i:=7) (by decide);have e7:=H2.frozen 7;have c8:=h0.cell (i:=8) (by decide);have d8:=H2.cell (i:=8) (by decide);have e8:=H2.frozen 8;have c9:=h0.cell (i:=9) (by decide);have d9:=H2.cell (i:=9) (by decide);have e9:=H2.frozen 9;have h5:=h0.cell (i:=10) (by decide);have h7:=H2.cell (i:=10) (by decide);have h9:=H2.frozen 10;have h6:=h0.cell (i:=11) (by decide);have h8:=H2.cell (i:=11) (by decide);have q0:=H2.frozen 11;have hE:=HX.out;clear h0;go_wp2;exact bodyPost_ret (v:=.agg q) (by simp [results,results157,go_sem, *]) rfl ⟨rfl,S_⟩
theorem wK (f g:Nat->Int) (sh rt t:Int) (ht:0<=t/\t<=16) (w:World) :
  R_ 103 #[.agg #[(f 0),(f 1),(f 2),(f 3),(f 4),(f 5),(f 6),(f 7),(f 8),(f 9),(f 10),(f 11),(g 0),(g 1),(g 2),(g 3),(g 4),(g 5),(g 6),(g 7),(g 8),(g 9),(g 10),(g 11),sh,rt],t] w (.agg (aY f g t)):=by
 have HT:=hid ht;have q0:=aQ8 w 127 [(f 0),(f 1),(f 2),(f 3),(f 4),(f 5),(f 6),(f 7),(f 8),(f 9),(f 10),(f 11),(g 0),(g 1),(g 2),(g 3),(g 4),(g 5),(g 6),(g 7),(g 8),(g 9),(g 10),(g 11),sh,rt];have q1:=aQ8 (w.alloc (.cells #[(f 0),(f 1),(f 2),(f 3),(f 4),(f 5),(f 6),(f 7),(f 8),(f 9),(f 10),(f 11),(g 0),(g 1),(g 2),(g 3),(g 4),(g 5),(g 6),(g 7),(g 8),(g 9),(g 10),(g 11),sh,rt] 127)) 125 [(),(),(),(),(),(),(),(),(),(),(),()];rw [aQy] at q1;have R1:=hid q1;have X0:=hid (show Ext w ((w.alloc (.cells #[(f 0),(f 1),(f 2),(f 3),(f 4),(f 5),(f 6),(f 7),(f 8),(f 9),(f 10),(f 11),(g 0),(g 1),(g 2),(g 3),(g 4),(g 5),(g 6),(g 7),(g 8),(g 9),(g 10),(g 11),sh,rt] 127)).alloc (.cells #[(),(),(),(),(),(),(),(),(),(),(),()] 125)) from X_);clear q1 q0 ht;go_enter func103,ntmps103;go_wp2_with fail;refine r_ (aKg f g t HT _) fun w1 x1=>?_;have D:=R1.ext x1;have d0:=D.cell 0 rfl;have e0:=D.free 0;have d1:=D.cell 1 rfl;have e1:=D.free 1;have d2:=D.cell 2 rfl;have e2:=D.free 2;have d3:=D.cell 3 rfl;have e3:=D.free 3;have d4:=D.cell 4 rfl;have e4:=D.free 4;have d5:=D.cell 5 rfl;have e5:=D.free 5;have d6:=D.cell 6 rfl;have e6:=D.free 6;have d7:=D.cell 7 rfl;have e7:=D.free 7;have d8:=D.cell 8 rfl;have e8:=D.free 8;have d9:=D.cell 9 rfl;have e9:=D.free 9;have h0:=D.cell 10 rfl;have h2:=D.free 10;have h1:=D.cell 11 rfl;have h3:=D.free 11;have hE:=X0.trans x1;clear D;go_wp2;exact bodyPost_ret (v:=.agg (aY f g t)) (by simp [results,results103,go_sem, *]) rfl ⟨rfl,S_⟩
theorem wL (c:Cam) (f:Nat->Int) (n:Nat) (s:Smp) (hn:1<=n/\n<=8) (w:World) :
  Calls aQ2 102 #[.agg c,.agg f,(n:Nat),s.lx,s.ly] w fun e w'=>∃r,e = .returned r/\aF Mc.cs w.heap.size 155 12 w' r (jZ c f n s)/\Ext w w':=by
 go_enter func102,ntmps102;go_wp2_with fail;refine (aBz c f n s hn _).mono ?_;rintro e w1 ⟨r,rfl,hO,x1⟩;go_wp2;go_ret;exact ⟨r,rfl,aF.low hO (by simp;omega),aQ3 X_ x1⟩
def V3.scr (v:V3):Prop:=(-100000<=v.x/\v.x<=100000)/\(-100000<=v.y/\v.y<=100000)
structure aHn (w:World) (D A E:Nat) (a b:V3):Prop where
 ld:D<w.heap.size
 la:A<w.heap.size
 le:E<w.heap.size
 d:w.cell? ⟨D,0,none⟩=some (.int .i64 (b.x - a.x))
 a0:w.cell? ⟨A,0,none⟩=some (.int .i64 a.x)
 a1:w.cell? ⟨A,1,none⟩=some (.int .i64 a.y)
 e:w.cell? ⟨E,0,none⟩=some (.int .i64 (b.y - a.y))
theorem rS {a b s:V3} (ha:a.scr) (hb:b.scr) (hs:s.scr) :
  (-40000000000<=(b.x - a.x)*(s.y - a.y)/\(b.x - a.x)*(s.y - a.y)<=40000000000)/\(-40000000000<=(b.y - a.y)*(s.x - a.x)/\(b.y - a.y)*(s.x - a.x)<=40000000000):=by
 obtain ⟨a1,a2⟩:=ha;obtain ⟨b1,b2⟩:=hb;obtain ⟨s1,s2⟩:=hs;exact ⟨bL (A:=200000) (B:=200000) (by omega) (by omega),bL (A:=200000) (B:=200000) (by omega) (by omega)⟩
theorem eE (ax ay az bx by' bz:Int) (ha:V3.scr ⟨ax,ay,az⟩) (hb:V3.scr ⟨bx,by',bz⟩) (w:World) :
  Calls aQ2 215 #[.agg #[ax,ay,az],.agg #[bx,by',bz]] w fun e w'=>∃D A E,e = .returned (.func (.func 246) #[] #[.pointer (some ⟨D,0,none⟩),.pointer (some ⟨A,0,none⟩),.pointer (some ⟨E,0,none⟩)])/\aHn w' D A E ⟨ax,ay,az⟩ ⟨bx,by',bz⟩/\Ext w w':=by
 obtain ⟨a1,a2⟩:=ha;obtain ⟨b1,b2⟩:=hb;simp only at a1 a2 b1 b2;have h0:∀(w:World) (D A E:Nat),(aV1 (.func 246) #[] #[.pointer (some ⟨D,0,none⟩),.pointer (some ⟨A,0,none⟩),.pointer (some ⟨E,0,none⟩)]).run aQ2 w = .ok (.func (.func 246) #[] #[.pointer (some ⟨D,0,none⟩),.pointer (some ⟨A,0,none⟩),.pointer (some ⟨E,0,none⟩)]) w:=fun _ _ _ _=>rfl;go_enter func215,ntmps215;go_upto_region 1 with fail
 go_cut [5,6] from 7 to 16 (fun u v wx=>∃D E,u = .pointer (some ⟨D,0,none⟩)/\v = .pointer (some ⟨E,0,none⟩)/\Ext w wx/\D<wx.heap.size/\E<wx.heap.size/\w.heap.size<wx.heap.size/\wx.cell? ⟨w.heap.size,0,none⟩=some (.int .i64 ax)/\wx.cell? ⟨w.heap.size,1,none⟩=some (.int .i64 ay)/\wx.cell? ⟨D,0,none⟩=some (.int .i64 (bx - ax))/\wx.cell? ⟨E,0,none⟩=some (.int .i64 (by' - ay)))
 case first=>
  refine cZ 13 (w.heap.size+1+1) (by kernel_rfl) ?_;refine z2_ (fuel:=3) [0,1,2,3,4,5,6,7,8,9] 10 11 (fun _ _ _=>rfl) (fun K hK=>?_) fun K hK=>?_
  ·go_wp2
   refine hK _ _ (.inr (fun b _ hb=>aRa X_ (by simp;omega))) ?_;clear hK K;refine z1_ (fuel:=2) [] 11 (fun b _ hb=>aRa X_ (by simp;omega)) fun K hK=>?_;go_wp2;refine hK _ _ (.inr (fun b _ hb=>aRa X_ (by simp;omega))) ?_;clear hK K;refine z1_ (fuel:=1) [] 12 (fun b _ hb=>aRa X_ (by simp;omega)) fun K hK=>?_;go_wp2;refine hK _ _ (.inr (fun b _ hb=>aRa S_ (by simp;omega))) ?_;clear hK K;refine z1_ (fuel:=0) [] 13 (fun b _ hb=>aRa S_ (by simp;omega)) fun K hK=>?_;go_wp2;refine l_ hK ?_;clear hK K;refine bX (by kernel_rfl) ?_;go_wp2_with fail
   go_meet
   refine ⟨_,_,rfl,rfl,S_,by simp <;> omega,by simp <;> omega,by simp <;> omega,by simp [go_sem, *],by simp [go_sem, *],by simp [go_sem, *],by simp [go_sem, *]⟩
  ·go_wp2
   refine hK _ _ (.inr (fun b _ hb=>aRa X_ (by simp;omega))) ?_;clear hK K;refine z1_ (fuel:=2) [] 10 (fun b _ hb=>aRa X_ (by simp;omega)) fun K hK=>?_;go_wp2;refine hK _ _ (.inr (fun b _ hb=>aRa X_ (by simp;omega))) ?_;clear hK K;refine z1_ (fuel:=1) [] 12 (fun b _ hb=>aRa X_ (by simp;omega)) fun K hK=>?_;go_wp2;refine hK _ _ (.inr (fun b _ hb=>aRa S_ (by simp;omega))) ?_;clear hK K;refine z1_ (fuel:=0) [] 13 (fun b _ hb=>aRa S_ (by simp;omega)) fun K hK=>?_;go_wp2;refine l_ hK ?_;clear hK K;refine bX (by kernel_rfl) ?_;go_wp2_with fail
   go_meet
   refine ⟨_,_,rfl,rfl,S_,by simp <;> omega,by simp <;> omega,by simp <;> omega,by simp [go_sem, *],by simp [go_sem, *],by simp [go_sem, *],by simp [go_sem, *]⟩
 case rest=>
  obtain ⟨D,E,rfl,rfl,hE,l1,l2,l3,c0,c1,c2,c3⟩:=hcut;go_wp2;go_ret;exact ⟨_,_,_,rfl,⟨l1,l3,l2,c2,c0,c1,c3⟩,hE⟩
theorem dC {a b:V3} (sx sy sz:Int) (hd:aX a b ⟨sx,sy,sz⟩=d) (ha:a.scr) (hb:b.scr) (hs:V3.scr ⟨sx,sy,sz⟩) {D A E:Nat} (w:World) (hE:aHn w D A E a b) :
  R_ 246 #[.agg #[sx,sy,sz],.pointer (some ⟨D,0,none⟩),.pointer (some ⟨A,0,none⟩),.pointer (some ⟨E,0,none⟩)] w (.int .i64 d):=by
 have q:=rS ha hb hs;unfold aX at hd;obtain ⟨a1,a2⟩:=ha;obtain ⟨b1,b2⟩:=hb;obtain ⟨s1,s2⟩:=hs;obtain ⟨x1,x2,x3,d0,d1,d2,d3⟩:=hE;obtain ⟨ax,ay,az⟩:=a;obtain ⟨bx,h0,bz⟩:=b;simp only at hd q a1 a2 b1 b2 s1 s2 d0 d1 d2 d3
 obtain ⟨p1,e1⟩:∃n,(bx - ax)*(sy - ay)=n:=⟨_,rfl⟩
 obtain ⟨p2,e2⟩:∃n,(h0 - ay)*(sx - ax)=n:=⟨_,rfl⟩
 rw [e1,e2] at hd q
 obtain ⟨u1,f1⟩:∃n,bx - ax=n:=⟨_,rfl⟩
 obtain ⟨u2,f2⟩:∃n,h0 - ay=n:=⟨_,rfl⟩
 rw [f1] at d0 e1;rw [f2] at d3 e2;have HD:=hid hd;clear f1 f2 b1 b2 hd;go_enter func246,ntmps246;go_wp2;go_ret;exact ⟨cS HD,X_⟩
theorem aS {v:V3} (h:v.scr):Hid v.scr:=h
theorem rT (ax ay az bx by' bz cx cy cz:Int) (ha:V3.scr ⟨ax,ay,az⟩) (hb:V3.scr ⟨bx,by',bz⟩) (hc:V3.scr ⟨cx,cy,cz⟩) (hd:aX ⟨ax,ay,az⟩ ⟨bx,by',bz⟩ ⟨cx,cy,cz⟩=d) (w:World):R_ 216 #[.agg #[ax,ay,az,bx,by',bz,cx,cy,cz]] w (.int .i64 d):=by
 have Ha:=aS ha;have Hb:=aS hb;have Hc:=aS hc;have HD:=hid hd;have y0:Ext w (w.alloc (.cells #[ax,ay,az,bx,by',bz,cx,cy,cz] 153)):=X_;have Y0:=hid y0;clear ha hb hc hd y0;go_enter func216,ntmps216;go_wp2_with fail;refine aA [([0,1,2,3,4,5,7,8,9],6),([],10),([],11)] 11 (w.heap.size+1) (by kernel_rfl) (by kernel_rfl) ?_;refine st_ fun K hK=>?_;go_wp2_with fail;refine (eE ax ay az bx by' bz Ha Hb _).mono ?_;rintro e w1 ⟨D,A,E,rfl,hE,x1⟩;have y1:Ext (w.alloc (.cells #[ax,ay,az,bx,by',bz,cx,cy,cz] 153)) w1:=aQ3 (aRz (aQ6 _)) x1;go_wp2_with fail;refine hK _ _ (.inr (y1.same (by rw [aQy];exact aQv _))) ?_;clear hK K;refine st_ fun K hK=>?_;go_wp2_with fail;refine r_ (dC cx cy cz HD Ha Hb Hc _ hE) fun w2 x2=>?_;have y2:=y1.trans x2;go_wp2_with fail;refine hK _ _ (.inr (y2.same (by rw [aQy];exact aQv _))) ?_;clear hK K;refine st_ fun K hK=>?_;go_wp2_with fail;refine l_ hK ?_;clear hK K;refine aC ?_;go_wp2;go_ret;exact ⟨rfl,Y0.trans y2⟩
theorem aOt {a b s:V3}:dB a b s=true↔(0<aX a b s\/aX a b s=0/\(b.y<a.y\/b.y=a.y/\a.x<b.x)):=by
 unfold dB;simp only [aVt,decide_eq_true_eq,aRd,beq_iff_eq]
structure rU (w:World) (B:Nat) (a b c:V3):Prop where
 lt:B<w.heap.size
 c0:w.cell? ⟨B,0,none⟩=some (.int .i64 a.x)
 c1:w.cell? ⟨B,1,none⟩=some (.int .i64 a.y)
 c2:w.cell? ⟨B,2,none⟩=some (.int .i64 a.z)
 c3:w.cell? ⟨B,3,none⟩=some (.int .i64 b.x)
 c4:w.cell? ⟨B,4,none⟩=some (.int .i64 b.y)
 c5:w.cell? ⟨B,5,none⟩=some (.int .i64 b.z)
 c6:w.cell? ⟨B,6,none⟩=some (.int .i64 c.x)
 c7:w.cell? ⟨B,7,none⟩=some (.int .i64 c.y)
 c8:w.cell? ⟨B,8,none⟩=some (.int .i64 c.z)
theorem rU.ext {a b c:V3} (h:rU w B a b c) (x:Ext w w'):rU w' B a b c:=
 ⟨aSf h.lt x.size,(x.cells.1 _ _ h.lt).trans h.c0,(x.cells.1 _ _ h.lt).trans h.c1,(x.cells.1 _ _ h.lt).trans h.c2,(x.cells.1 _ _ h.lt).trans h.c3,(x.cells.1 _ _ h.lt).trans h.c4,(x.cells.1 _ _ h.lt).trans h.c5,(x.cells.1 _ _ h.lt).trans h.c6,(x.cells.1 _ _ h.lt).trans h.c7,(x.cells.1 _ _ h.lt).trans h.c8⟩
structure rV (w:World) (B:Nat) (s:V3):Prop where
 lt:B<w.heap.size
 c0:w.cell? ⟨B,0,none⟩=some (.int .i64 s.x)
 c1:w.cell? ⟨B,1,none⟩=some (.int .i64 s.y)
 c2:w.cell? ⟨B,2,none⟩=some (.int .i64 s.z)
theorem rV.ext {s:V3} (h:rV w B s) (x:Ext w w'):rV w' B s:=
 ⟨aSf h.lt x.size,(x.cells.1 _ _ h.lt).trans h.c0,(x.cells.1 _ _ h.lt).trans h.c1,(x.cells.1 _ _ h.lt).trans h.c2⟩
theorem tF (px py qx qy:Int):decide (qy<py)=true\/(decide (qy<py)=false/\(qy==py)=true/\decide (px<qx)=true)\/(decide (qy<py)=false/\(qy==py)=true/\decide (px<qx)=false)\/(decide (qy<py)=false/\(qy==py)=false):=by
 simp only [decide_eq_true_eq,decide_eq_false_iff_not,beq_iff_eq,beq_eq_false_iff_ne];omega
theorem tG (d:Int):decide (d<0)=true\/(decide (d<0)=false/\(d==0)=true)\/(decide (d<0)=false/\(d==0)=false):=by
 simp only [decide_eq_true_eq,decide_eq_false_iff_not,beq_iff_eq,beq_eq_false_iff_ne];omega
theorem lT {px py pz qx qy qz:Int} {s:V3} (hd:aX ⟨px,py,pz⟩ ⟨qx,qy,qz⟩ s=d):dB ⟨px,py,pz⟩ ⟨qx,qy,qz⟩ s=(!(decide (d<0)||((d==0) && !(decide (qy<py)||((qy==py)&&decide (px<qx)))))):=by
 unfold dB;rw [hd];simp only
 by_cases h1:d<0
 ·simp [h1];omega
 ·by_cases h2:d=0
  ·subst h2;simp
  ·have h3:0<d:=by omega
   simp [h1,h2,h3]
theorem rU.of {a b c:V3} (h:Blk w B t [a.x,a.y,a.z,b.x,b.y,b.z,c.x,c.y,c.z]):rU w B a b c:=
 ⟨h.lt,h.cell 0 rfl,h.cell 1 rfl,h.cell 2 rfl,h.cell 3 rfl,h.cell 4 rfl,h.cell 5 rfl,h.cell 6 rfl,h.cell 7 rfl,h.cell 8 rfl⟩
theorem rV.of {s:V3} (h:Blk w B t [s.x,s.y,s.z]):rV w B s:=⟨h.lt,h.cell 0 rfl,h.cell 1 rfl,h.cell 2 rfl⟩
theorem aFu (ax ay az bx by' bz cx cy cz:Int) (ha:V3.scr ⟨ax,ay,az⟩) (hb:V3.scr ⟨bx,by',bz⟩) (hc:V3.scr ⟨cx,cy,cz⟩) (sx sy sz:Int) (hs:V3.scr ⟨sx,sy,sz⟩) {r:Bool} (hp:0<aX ⟨ax,ay,az⟩ ⟨bx,by',bz⟩ ⟨cx,cy,cz⟩) (hr:(dB ⟨ax,ay,az⟩ ⟨bx,by',bz⟩ ⟨sx,sy,sz⟩&&dB ⟨bx,by',bz⟩ ⟨cx,cy,cz⟩ ⟨sx,sy,sz⟩&&dB ⟨cx,cy,cz⟩ ⟨ax,ay,az⟩ ⟨sx,sy,sz⟩)=r) (w:World):R_ 212 #[.agg #[ax,ay,az,bx,by',bz,cx,cy,cz],.agg #[sx,sy,sz]] w (.bool r):=by
 have Ha:=aS ha;have Hb:=aS hb;have Hc:=aS hc;have Hs:=aS hs
 obtain ⟨d0,h2⟩:∃d,aX ⟨ax,ay,az⟩ ⟨bx,by',bz⟩ ⟨cx,cy,cz⟩=d:=⟨_,rfl⟩
 have HA:=hid h2
 have i0:∀w:World,(aUa 151 (.agg #[ax,ay,az,bx,by',bz,cx,cy,cz]) (.int .i64 0)).run aQ2 w = .ok (.agg #[ax,ay,az]) w:=fun _=>by kernel_rfl
 have i1:∀w:World,(aUa 151 (.agg #[ax,ay,az,bx,by',bz,cx,cy,cz]) (.int .i64 1)).run aQ2 w = .ok (.agg #[bx,by',bz]) w:=fun _=>by kernel_rfl
 have i2:∀w:World,(aUa 151 (.agg #[ax,ay,az,bx,by',bz,cx,cy,cz]) (.int .i64 2)).run aQ2 w = .ok (.agg #[cx,cy,cz]) w:=fun _=>by kernel_rfl
 have HR:=hid hr;rw [h2] at hp;clear ha hb hc hs hr h2
 have z1:(d0==0)=false:=by rw [beq_eq_false_iff_ne];omega
 have z2:decide (d0<0)=false:=by rw [decide_eq_false_iff_not];omega
 have h3:=aQ8 w 153 [ax,ay,az,bx,by',bz,cx,cy,cz];have h1:=aQ8 (w.alloc (.cells #[ax,ay,az,bx,by',bz,cx,cy,cz] 153)) 122 [sx,sy,sz];rw [aQy] at h1;have y0:Ext w ((w.alloc (.cells #[ax,ay,az,bx,by',bz,cx,cy,cz] 153)).alloc (.cells #[sx,sy,sz] 122)):=X_;have B0:=hid (h3.alloc (.cells #[sx,sy,sz] 122));have B1:=hid h1;have Y0:=hid y0;clear h3 h1 y0;go_enter func212,ntmps212;go_wp2_with fail;refine r_ (rT ax ay az bx by' bz cx cy cz Ha Hb Hc HA _) fun w1 x1=>?_;have q0:=hid (B0.ext x1);have q1:=hid (B1.ext x1);have X1:=hid (Y0.trans x1);clear x1 B0 B1 Y0;have Q0:=hid (rU.of (a:=⟨ax,ay,az⟩) (b:=⟨bx,by',bz⟩) (c:=⟨cx,cy,cz⟩) q0.out);have Q1:=hid (rV.of (s:=⟨sx,sy,sz⟩) q1.out);have t0:=Q0.lt;have u0:=Q0.c0;have u1:=Q0.c1;have u2:=Q0.c2;have u3:=Q0.c3;have u4:=Q0.c4;have u5:=Q0.c5;have u6:=Q0.c6;have u7:=Q0.c7;have u8:=Q0.c8;simp only at u0 u1 u2 u3 u4 u5 u6 u7 u8;go_wp2;clear u0 u1 u2 u3 u4 u5 u6 u7 u8
 go_loopw [31] (fun i wr=>∃k:Nat,k<=3/\i = .int .i64 (k:Nat)/\Ext w1 wr/\(0<k->dB ⟨ax,ay,az⟩ ⟨bx,by',bz⟩ ⟨sx,sy,sz⟩=true)/\(1<k->dB ⟨bx,by',bz⟩ ⟨cx,cy,cz⟩ ⟨sx,sy,sz⟩=true)/\(2<k->dB ⟨cx,cy,cz⟩ ⟨ax,ay,az⟩ ⟨sx,sy,sz⟩=true)) (fun i _=>3 - (intOf i).toNat)
 case atStart=>exact ⟨0,by omega,rfl,aQ6 _,fun h=>absurd h (by omega),fun h=>absurd h (by omega),fun h=>absurd h (by omega)⟩
 case round=>
  obtain ⟨k,hk,rfl,hx,g0,g1,g2⟩:=hrel;have HX:=hid hx;have G0:=hid g0;have G1:=hid g1;have G2:=hid g2;have hB:=Q0.ext hx;have hS:=Q1.ext hx;have t0:=hB.c0;have t1:=hB.c1;have t2:=hB.c2;have t3:=hB.c3;have t4:=hB.c4;have t5:=hB.c5;have t6:=hB.c6;have t7:=hB.c7;have t8:=hB.c8;have u0:=hS.c0;have u1:=hS.c1;have u2:=hS.c2;have zb:=hB.lt;have zs:=hS.lt;simp only at t0 t1 t2 t3 t4 t5 t6 t7 t8 u0 u1 u2;clear hx g0 g1 g2 hB hS
  rcases (show k=0\/k=1\/k=2\/k=3 by omega) with rfl|rfl|rfl|rfl
  ·obtain ⟨d,hd⟩:∃d,aX ⟨ax,ay,az⟩ ⟨bx,by',bz⟩ ⟨sx,sy,sz⟩=d:=⟨_,rfl⟩
   have HD:=hid hd;clear hd;go_wp2_with fail;refine aA [([0,1,3],2),([],4),([],5)] 5 (wr.heap.size+1+1) (by kernel_rfl) (by kernel_rfl) ?_;refine st_ fun K hK=>?_;go_wp2_with fail;refine (eE ax ay az bx by' bz Ha Hb _).mono ?_;rintro e w3 ⟨D,A,E,rfl,hE,x3⟩;have y3:Ext ((wr.alloc (.cells #[ax,ay,az] 122)).alloc (.cells #[bx,by',bz] 122)) w3:=aQ3 (aRz (aQ6 _)) x3;go_wp2_with fail;refine k_ hK ?_;clear hK K;refine st_ fun K hK=>?_;go_wp2_with fail;refine r_ (dC sx sy sz HD Ha Hb Hs _ hE) fun w4 x4=>?_;have y4:=y3.trans x4;go_wp2_with fail;refine k_ hK ?_;clear hK K;refine st_ fun K hK=>?_;go_wp2_with fail;refine l_ hK ?_;clear hK K;refine aC ?_;have ba:=(aQ8 wr 122 [ax,ay,az]).ext (aQ3 ((aQ6 _).alloc (.cells #[bx,by',bz] 122)) y4);have bb:=(aQ8 (wr.alloc (.cells #[ax,ay,az] 122)) 122 [bx,by',bz]).ext y4;rw [aQy] at bb;obtain ⟨m0,m1⟩:=ba.q2;obtain ⟨n0,n1⟩:=bb.q2;have l0:=ba.lt;have l1:=bb.lt;have h0:=hid (HX.trans (aQ3 (show Ext wr ((wr.alloc (.cells #[ax,ay,az] 122)).alloc (.cells #[bx,by',bz] 122)) from X_) y4));have lv:=lT HD;clear t0 t1 t2 t3 t4 t5 t6 t7 t8 u0 u1 u2 y3 y4 x3 x4 hE ba bb
   rcases tF ax ay bx by' with e1|⟨e1,e2,e3⟩|⟨e1,e2,e3⟩|⟨e1,e2⟩ <;> rcases tG d with s1|⟨s1,s2⟩|⟨s1,s2⟩
   all_goals (try rw [e1] at lv);(try rw [e2] at lv);(try rw [e3] at lv);(try rw [s1] at lv);(try rw [s2] at lv)
   all_goals first|(have LV:=hid (lv.trans (show _=true from rfl));clear lv;go_wp2;go_roundw;(case rel=>exact ⟨1,by omega,by go_num,h0,fun _=>LV.out,fun h=>absurd h (by omega),fun h=>absurd h (by omega)⟩);(case measure=>simp [intOf]))|(have LV:=hid (lv.trans (show _=false from rfl));clear lv;go_wp2;go_ret;exact ⟨aL (by rw [<-HR];simp [LV.out]),X1.trans h0⟩)
  ·obtain ⟨d,hd⟩:∃d,aX ⟨bx,by',bz⟩ ⟨cx,cy,cz⟩ ⟨sx,sy,sz⟩=d:=⟨_,rfl⟩
   have HD:=hid hd;clear hd;go_wp2_with fail;refine aA [([0,1,3],2),([],4),([],5)] 5 (wr.heap.size+1+1) (by kernel_rfl) (by kernel_rfl) ?_;refine st_ fun K hK=>?_;go_wp2_with fail;refine (eE bx by' bz cx cy cz Hb Hc _).mono ?_;rintro e w3 ⟨D,A,E,rfl,hE,x3⟩;have y3:Ext ((wr.alloc (.cells #[bx,by',bz] 122)).alloc (.cells #[cx,cy,cz] 122)) w3:=aQ3 (aRz (aQ6 _)) x3;go_wp2_with fail;refine k_ hK ?_;clear hK K;refine st_ fun K hK=>?_;go_wp2_with fail;refine r_ (dC sx sy sz HD Hb Hc Hs _ hE) fun w4 x4=>?_;have y4:=y3.trans x4;go_wp2_with fail;refine k_ hK ?_;clear hK K;refine st_ fun K hK=>?_;go_wp2_with fail;refine l_ hK ?_;clear hK K;refine aC ?_;have ba:=(aQ8 wr 122 [bx,by',bz]).ext (aQ3 ((aQ6 _).alloc (.cells #[cx,cy,cz] 122)) y4);have bb:=(aQ8 (wr.alloc (.cells #[bx,by',bz] 122)) 122 [cx,cy,cz]).ext y4;rw [aQy] at bb;obtain ⟨m0,m1⟩:=ba.q2;obtain ⟨n0,n1⟩:=bb.q2;have l0:=ba.lt;have l1:=bb.lt;have h0:=hid (HX.trans (aQ3 (show Ext wr ((wr.alloc (.cells #[bx,by',bz] 122)).alloc (.cells #[cx,cy,cz] 122)) from X_) y4));have lv:=lT HD;clear t0 t1 t2 t3 t4 t5 t6 t7 t8 u0 u1 u2 y3 y4 x3 x4 hE ba bb
   rcases tF bx by' cx cy with e1|⟨e1,e2,e3⟩|⟨e1,e2,e3⟩|⟨e1,e2⟩ <;> rcases tG d with s1|⟨s1,s2⟩|⟨s1,s2⟩
   all_goals (try rw [e1] at lv);(try rw [e2] at lv);(try rw [e3] at lv);(try rw [s1] at lv);(try rw [s2] at lv)
   all_goals first|(have LV:=hid (lv.trans (show _=true from rfl));clear lv;go_wp2;go_roundw;(case rel=>exact ⟨2,by omega,by go_num,h0,fun _=>G0.out (by omega),fun _=>LV.out,fun h=>absurd h (by omega)⟩);(case measure=>simp [intOf]))|(have LV:=hid (lv.trans (show _=false from rfl));clear lv;go_wp2;go_ret;exact ⟨aL (by rw [<-HR];simp [LV.out]),X1.trans h0⟩)
  ·obtain ⟨d,hd⟩:∃d,aX ⟨cx,cy,cz⟩ ⟨ax,ay,az⟩ ⟨sx,sy,sz⟩=d:=⟨_,rfl⟩
   have HD:=hid hd;clear hd;go_wp2_with fail;refine aA [([0,1,3],2),([],4),([],5)] 5 (wr.heap.size+1+1) (by kernel_rfl) (by kernel_rfl) ?_;refine st_ fun K hK=>?_;go_wp2_with fail;refine (eE cx cy cz ax ay az Hc Ha _).mono ?_;rintro e w3 ⟨D,A,E,rfl,hE,x3⟩;have y3:Ext ((wr.alloc (.cells #[cx,cy,cz] 122)).alloc (.cells #[ax,ay,az] 122)) w3:=aQ3 (aRz (aQ6 _)) x3;go_wp2_with fail;refine k_ hK ?_;clear hK K;refine st_ fun K hK=>?_;go_wp2_with fail;refine r_ (dC sx sy sz HD Hc Ha Hs _ hE) fun w4 x4=>?_;have y4:=y3.trans x4;go_wp2_with fail;refine k_ hK ?_;clear hK K;refine st_ fun K hK=>?_;go_wp2_with fail;refine l_ hK ?_;clear hK K;refine aC ?_;have ba:=(aQ8 wr 122 [cx,cy,cz]).ext (aQ3 ((aQ6 _).alloc (.cells #[ax,ay,az] 122)) y4);have bb:=(aQ8 (wr.alloc (.cells #[cx,cy,cz] 122)) 122 [ax,ay,az]).ext y4;rw [aQy] at bb;obtain ⟨m0,m1⟩:=ba.q2;obtain ⟨n0,n1⟩:=bb.q2;have l0:=ba.lt;have l1:=bb.lt;have h0:=hid (HX.trans (aQ3 (show Ext wr ((wr.alloc (.cells #[cx,cy,cz] 122)).alloc (.cells #[ax,ay,az] 122)) from X_) y4));have lv:=lT HD;clear t0 t1 t2 t3 t4 t5 t6 t7 t8 u0 u1 u2 y3 y4 x3 x4 hE ba bb
   rcases tF cx cy ax ay with e1|⟨e1,e2,e3⟩|⟨e1,e2,e3⟩|⟨e1,e2⟩ <;> rcases tG d with s1|⟨s1,s2⟩|⟨s1,s2⟩
   all_goals (try rw [e1] at lv);(try rw [e2] at lv);(try rw [e3] at lv);(try rw [s1] at lv);(try rw [s2] at lv)
   all_goals first|(have LV:=hid (lv.trans (show _=true from rfl));clear lv;go_wp2;go_roundw;(case rel=>exact ⟨3,by omega,by go_num,h0,fun _=>G0.out (by omega),fun _=>G1.out (by omega),fun _=>LV.out⟩);(case measure=>simp [intOf]))|(have LV:=hid (lv.trans (show _=false from rfl));clear lv;go_wp2;go_ret;exact ⟨aL (by rw [<-HR];simp [LV.out]),X1.trans h0⟩)
  ·go_wp2
   go_ret;exact ⟨aL (by rw [<-HR,G0 (by omega),G1 (by omega),G2 (by omega)];rfl),X1.trans HX⟩
theorem aFv (ax ay az bx by' bz cx cy cz:Int) (ha:V3.scr ⟨ax,ay,az⟩) (hb:V3.scr ⟨bx,by',bz⟩) (hc:V3.scr ⟨cx,cy,cz⟩) (sx sy sz:Int) (hs:V3.scr ⟨sx,sy,sz⟩) {r:Bool} (hp:aX ⟨ax,ay,az⟩ ⟨bx,by',bz⟩ ⟨cx,cy,cz⟩<0) (hr:(dB ⟨ax,ay,az⟩ ⟨cx,cy,cz⟩ ⟨sx,sy,sz⟩&&dB ⟨cx,cy,cz⟩ ⟨bx,by',bz⟩ ⟨sx,sy,sz⟩&&dB ⟨bx,by',bz⟩ ⟨ax,ay,az⟩ ⟨sx,sy,sz⟩)=r) (w:World):R_ 212 #[.agg #[ax,ay,az,bx,by',bz,cx,cy,cz],.agg #[sx,sy,sz]] w (.bool r):=by
 have Ha:=aS ha;have Hb:=aS hb;have Hc:=aS hc;have Hs:=aS hs
 obtain ⟨d0,h3⟩:∃d,aX ⟨ax,ay,az⟩ ⟨bx,by',bz⟩ ⟨cx,cy,cz⟩=d:=⟨_,rfl⟩
 have HA:=hid h3
 have i0:∀w:World,(aUa 151 (.agg #[ax,ay,az,cx,cy,cz,bx,by',bz]) (.int .i64 0)).run aQ2 w = .ok (.agg #[ax,ay,az]) w:=fun _=>by kernel_rfl
 have i1:∀w:World,(aUa 151 (.agg #[ax,ay,az,cx,cy,cz,bx,by',bz]) (.int .i64 1)).run aQ2 w = .ok (.agg #[cx,cy,cz]) w:=fun _=>by kernel_rfl
 have i2:∀w:World,(aUa 151 (.agg #[ax,ay,az,cx,cy,cz,bx,by',bz]) (.int .i64 2)).run aQ2 w = .ok (.agg #[bx,by',bz]) w:=fun _=>by kernel_rfl
 have HR:=hid hr;rw [h3] at hp;clear ha hb hc hs hr h3
 have z1:(d0==0)=false:=by rw [beq_eq_false_iff_ne];omega
 have z2:decide (d0<0)=true:=by rw [decide_eq_true_eq];omega
 have h4:=aQ8 w 153 [ax,ay,az,bx,by',bz,cx,cy,cz];have h2:=aQ8 (w.alloc (.cells #[ax,ay,az,bx,by',bz,cx,cy,cz] 153)) 122 [sx,sy,sz];rw [aQy] at h2;have y0:Ext w ((w.alloc (.cells #[ax,ay,az,bx,by',bz,cx,cy,cz] 153)).alloc (.cells #[sx,sy,sz] 122)):=X_;have B0:=hid (h4.alloc (.cells #[sx,sy,sz] 122));have B1:=hid h2;have Y0:=hid y0;clear h4 h2 y0;go_enter func212,ntmps212;go_wp2_with fail;refine r_ (rT ax ay az bx by' bz cx cy cz Ha Hb Hc HA _) fun w1 x1=>?_;have q0:=hid (B0.ext x1);have q1:=hid (B1.ext x1);have X1:=hid (Y0.trans x1);clear x1 B0 B1 Y0;have Q0:=hid (rU.of (a:=⟨ax,ay,az⟩) (b:=⟨bx,by',bz⟩) (c:=⟨cx,cy,cz⟩) q0.out);have Q1:=hid (rV.of (s:=⟨sx,sy,sz⟩) q1.out);have t0:=Q0.lt;have u0:=Q0.c0;have u1:=Q0.c1;have u2:=Q0.c2;have u3:=Q0.c3;have u4:=Q0.c4;have u5:=Q0.c5;have u6:=Q0.c6;have u7:=Q0.c7;have u8:=Q0.c8;have v3:=q0.out.free 3;have v4:=q0.out.free 4;have v5:=q0.out.free 5;have v6:=q0.out.free 6;have v7:=q0.out.free 7;have v8:=q0.out.free 8;simp only at u0 u1 u2 u3 u4 u5 u6 u7 u8;have X2:=hid (show Ext w ((((((w1.setCell ⟨w.heap.size,3,none⟩ cx).setCell ⟨w.heap.size,4,none⟩ cy).setCell ⟨w.heap.size,5,none⟩ cz).setCell ⟨w.heap.size,6,none⟩ bx).setCell ⟨w.heap.size,7,none⟩ by').setCell ⟨w.heap.size,8,none⟩ bz) from by have hX:=X1.out;exact S_);have P0:=hid (rU.of (a:=⟨ax,ay,az⟩) (b:=⟨cx,cy,cz⟩) (c:=⟨bx,by',bz⟩) ((((((q0.out.set 3 (.int .i64 cx)).set 4 (.int .i64 cy)).set 5 (.int .i64 cz)).set 6 (.int .i64 bx)).set 7 (.int .i64 by')).set 8 (.int .i64 bz)))
 have h1:w.heap.size+1≠w.heap.size:=by omega
 have P1:=hid (rV.of (s:=⟨sx,sy,sz⟩) ((((((q1.out.other (a:=⟨w.heap.size,3,none⟩) h1 (.int .i64 cx)).other (a:=⟨w.heap.size,4,none⟩) h1 (.int .i64 cy)).other (a:=⟨w.heap.size,5,none⟩) h1 (.int .i64 cz)).other (a:=⟨w.heap.size,6,none⟩) h1 (.int .i64 bx)).other (a:=⟨w.heap.size,7,none⟩) h1 (.int .i64 by')).other (a:=⟨w.heap.size,8,none⟩) h1 (.int .i64 bz)));go_wp2;clear u0 u1 u2 u3 u4 u5 u6 u7 u8 v3 v4 v5 v6 v7 v8 q0 q1 Q0 Q1 t0 X1
 obtain ⟨wq,h5⟩:∃wq,((((((w1.setCell ⟨w.heap.size,3,none⟩ cx).setCell ⟨w.heap.size,4,none⟩ cy).setCell ⟨w.heap.size,5,none⟩ cz).setCell ⟨w.heap.size,6,none⟩ bx).setCell ⟨w.heap.size,7,none⟩ by').setCell ⟨w.heap.size,8,none⟩ bz)=wq:=⟨_,rfl⟩
 rw [h5] at X2 P0 P1 ⊢;have X1:=hid X2;clear h5 X2
 go_loopw [31] (fun i wr=>∃k:Nat,k<=3/\i = .int .i64 (k:Nat)/\Ext wq wr/\(0<k->dB ⟨ax,ay,az⟩ ⟨cx,cy,cz⟩ ⟨sx,sy,sz⟩=true)/\(1<k->dB ⟨cx,cy,cz⟩ ⟨bx,by',bz⟩ ⟨sx,sy,sz⟩=true)/\(2<k->dB ⟨bx,by',bz⟩ ⟨ax,ay,az⟩ ⟨sx,sy,sz⟩=true)) (fun i _=>3 - (intOf i).toNat)
 case atStart=>exact ⟨0,by omega,rfl,aQ6 _,fun h=>absurd h (by omega),fun h=>absurd h (by omega),fun h=>absurd h (by omega)⟩
 case round=>
  obtain ⟨k,hk,rfl,hx,g0,g1,g2⟩:=hrel;have HX:=hid hx;have G0:=hid g0;have G1:=hid g1;have G2:=hid g2;have hB:=P0.ext hx;have hS:=P1.ext hx;have t0:=hB.c0;have t1:=hB.c1;have t2:=hB.c2;have t3:=hB.c3;have t4:=hB.c4;have t5:=hB.c5;have t6:=hB.c6;have t7:=hB.c7;have t8:=hB.c8;have u0:=hS.c0;have u1:=hS.c1;have u2:=hS.c2;have zb:=hB.lt;have zs:=hS.lt;simp only at t0 t1 t2 t3 t4 t5 t6 t7 t8 u0 u1 u2;clear hx g0 g1 g2 hB hS
  rcases (show k=0\/k=1\/k=2\/k=3 by omega) with rfl|rfl|rfl|rfl
  ·obtain ⟨d,hd⟩:∃d,aX ⟨ax,ay,az⟩ ⟨cx,cy,cz⟩ ⟨sx,sy,sz⟩=d:=⟨_,rfl⟩
   have HD:=hid hd;clear hd;go_wp2_with fail;refine aA [([0,1,3],2),([],4),([],5)] 5 (wr.heap.size+1+1) (by kernel_rfl) (by kernel_rfl) ?_;refine st_ fun K hK=>?_;go_wp2_with fail;refine (eE ax ay az cx cy cz Ha Hc _).mono ?_;rintro e w3 ⟨D,A,E,rfl,hE,x3⟩;have y3:Ext ((wr.alloc (.cells #[ax,ay,az] 122)).alloc (.cells #[cx,cy,cz] 122)) w3:=aQ3 (aRz (aQ6 _)) x3;go_wp2_with fail;refine k_ hK ?_;clear hK K;refine st_ fun K hK=>?_;go_wp2_with fail;refine r_ (dC sx sy sz HD Ha Hc Hs _ hE) fun w4 x4=>?_;have y4:=y3.trans x4;go_wp2_with fail;refine k_ hK ?_;clear hK K;refine st_ fun K hK=>?_;go_wp2_with fail;refine l_ hK ?_;clear hK K;refine aC ?_;have ba:=(aQ8 wr 122 [ax,ay,az]).ext (aQ3 ((aQ6 _).alloc (.cells #[cx,cy,cz] 122)) y4);have bb:=(aQ8 (wr.alloc (.cells #[ax,ay,az] 122)) 122 [cx,cy,cz]).ext y4;rw [aQy] at bb;obtain ⟨m0,m1⟩:=ba.q2;obtain ⟨n0,n1⟩:=bb.q2;have l0:=ba.lt;have l1:=bb.lt;have h0:=hid (HX.trans (aQ3 (show Ext wr ((wr.alloc (.cells #[ax,ay,az] 122)).alloc (.cells #[cx,cy,cz] 122)) from X_) y4));have lv:=lT HD;clear t0 t1 t2 t3 t4 t5 t6 t7 t8 u0 u1 u2 y3 y4 x3 x4 hE ba bb
   rcases tF ax ay cx cy with e1|⟨e1,e2,e3⟩|⟨e1,e2,e3⟩|⟨e1,e2⟩ <;> rcases tG d with s1|⟨s1,s2⟩|⟨s1,s2⟩
   all_goals (try rw [e1] at lv);(try rw [e2] at lv);(try rw [e3] at lv);(try rw [s1] at lv);(try rw [s2] at lv)
   all_goals first|(have LV:=hid (lv.trans (show _=true from rfl));clear lv;go_wp2;go_roundw;(case rel=>exact ⟨1,by omega,by go_num,h0,fun _=>LV.out,fun h=>absurd h (by omega),fun h=>absurd h (by omega)⟩);(case measure=>simp [intOf]))|(have LV:=hid (lv.trans (show _=false from rfl));clear lv;go_wp2;go_ret;exact ⟨aL (by rw [<-HR];simp [LV.out]),X1.trans h0⟩)
  ·obtain ⟨d,hd⟩:∃d,aX ⟨cx,cy,cz⟩ ⟨bx,by',bz⟩ ⟨sx,sy,sz⟩=d:=⟨_,rfl⟩
   have HD:=hid hd;clear hd;go_wp2_with fail;refine aA [([0,1,3],2),([],4),([],5)] 5 (wr.heap.size+1+1) (by kernel_rfl) (by kernel_rfl) ?_;refine st_ fun K hK=>?_;go_wp2_with fail;refine (eE cx cy cz bx by' bz Hc Hb _).mono ?_;rintro e w3 ⟨D,A,E,rfl,hE,x3⟩;have y3:Ext ((wr.alloc (.cells #[cx,cy,cz] 122)).alloc (.cells #[bx,by',bz] 122)) w3:=aQ3 (aRz (aQ6 _)) x3;go_wp2_with fail;refine k_ hK ?_;clear hK K;refine st_ fun K hK=>?_;go_wp2_with fail;refine r_ (dC sx sy sz HD Hc Hb Hs _ hE) fun w4 x4=>?_;have y4:=y3.trans x4;go_wp2_with fail;refine k_ hK ?_;clear hK K;refine st_ fun K hK=>?_;go_wp2_with fail;refine l_ hK ?_;clear hK K;refine aC ?_;have ba:=(aQ8 wr 122 [cx,cy,cz]).ext (aQ3 ((aQ6 _).alloc (.cells #[bx,by',bz] 122)) y4);have bb:=(aQ8 (wr.alloc (.cells #[cx,cy,cz] 122)) 122 [bx,by',bz]).ext y4;rw [aQy] at bb;obtain ⟨m0,m1⟩:=ba.q2;obtain ⟨n0,n1⟩:=bb.q2;have l0:=ba.lt;have l1:=bb.lt;have h0:=hid (HX.trans (aQ3 (show Ext wr ((wr.alloc (.cells #[cx,cy,cz] 122)).alloc (.cells #[bx,by',bz] 122)) from X_) y4));have lv:=lT HD;clear t0 t1 t2 t3 t4 t5 t6 t7 t8 u0 u1 u2 y3 y4 x3 x4 hE ba bb
   rcases tF cx cy bx by' with e1|⟨e1,e2,e3⟩|⟨e1,e2,e3⟩|⟨e1,e2⟩ <;> rcases tG d with s1|⟨s1,s2⟩|⟨s1,s2⟩
   all_goals (try rw [e1] at lv);(try rw [e2] at lv);(try rw [e3] at lv);(try rw [s1] at lv);(try rw [s2] at lv)
   all_goals first|(have LV:=hid (lv.trans (show _=true from rfl));clear lv;go_wp2;go_roundw;(case rel=>exact ⟨2,by omega,by go_num,h0,fun _=>G0.out (by omega),fun _=>LV.out,fun h=>absurd h (by omega)⟩);(case measure=>simp [intOf]))|(have LV:=hid (lv.trans (show _=false from rfl));clear lv;go_wp2;go_ret;exact ⟨aL (by rw [<-HR];simp [LV.out]),X1.trans h0⟩)
  ·obtain ⟨d,hd⟩:∃d,aX ⟨bx,by',bz⟩ ⟨ax,ay,az⟩ ⟨sx,sy,sz⟩=d:=⟨_,rfl⟩
   have HD:=hid hd;clear hd;go_wp2_with fail;refine aA [([0,1,3],2),([],4),([],5)] 5 (wr.heap.size+1+1) (by kernel_rfl) (by kernel_rfl) ?_;refine st_ fun K hK=>?_;go_wp2_with fail;refine (eE bx by' bz ax ay az Hb Ha _).mono ?_;rintro e w3 ⟨D,A,E,rfl,hE,x3⟩;have y3:Ext ((wr.alloc (.cells #[bx,by',bz] 122)).alloc (.cells #[ax,ay,az] 122)) w3:=aQ3 (aRz (aQ6 _)) x3;go_wp2_with fail;refine k_ hK ?_;clear hK K;refine st_ fun K hK=>?_;go_wp2_with fail;refine r_ (dC sx sy sz HD Hb Ha Hs _ hE) fun w4 x4=>?_;have y4:=y3.trans x4;go_wp2_with fail;refine k_ hK ?_;clear hK K;refine st_ fun K hK=>?_;go_wp2_with fail;refine l_ hK ?_;clear hK K;refine aC ?_;have ba:=(aQ8 wr 122 [bx,by',bz]).ext (aQ3 ((aQ6 _).alloc (.cells #[ax,ay,az] 122)) y4);have bb:=(aQ8 (wr.alloc (.cells #[bx,by',bz] 122)) 122 [ax,ay,az]).ext y4;rw [aQy] at bb;obtain ⟨m0,m1⟩:=ba.q2;obtain ⟨n0,n1⟩:=bb.q2;have l0:=ba.lt;have l1:=bb.lt;have h0:=hid (HX.trans (aQ3 (show Ext wr ((wr.alloc (.cells #[bx,by',bz] 122)).alloc (.cells #[ax,ay,az] 122)) from X_) y4));have lv:=lT HD;clear t0 t1 t2 t3 t4 t5 t6 t7 t8 u0 u1 u2 y3 y4 x3 x4 hE ba bb
   rcases tF bx by' ax ay with e1|⟨e1,e2,e3⟩|⟨e1,e2,e3⟩|⟨e1,e2⟩ <;> rcases tG d with s1|⟨s1,s2⟩|⟨s1,s2⟩
   all_goals (try rw [e1] at lv);(try rw [e2] at lv);(try rw [e3] at lv);(try rw [s1] at lv);(try rw [s2] at lv)
   all_goals first|(have LV:=hid (lv.trans (show _=true from rfl));clear lv;go_wp2;go_roundw;(case rel=>exact ⟨3,by omega,by go_num,h0,fun _=>G0.out (by omega),fun _=>G1.out (by omega),fun _=>LV.out⟩);(case measure=>simp [intOf]))|(have LV:=hid (lv.trans (show _=false from rfl));clear lv;go_wp2;go_ret;exact ⟨aL (by rw [<-HR];simp [LV.out]),X1.trans h0⟩)
  ·go_wp2
   go_ret;exact ⟨aL (by rw [<-HR,G0 (by omega),G1 (by omega),G2 (by omega)];rfl),X1.trans HX⟩
theorem aDn (ax ay az bx by' bz cx cy cz:Int) (ha:V3.scr ⟨ax,ay,az⟩) (hb:V3.scr ⟨bx,by',bz⟩) (hc:V3.scr ⟨cx,cy,cz⟩) (sx sy sz:Int) (hs:V3.scr ⟨sx,sy,sz⟩) (hp:aX ⟨ax,ay,az⟩ ⟨bx,by',bz⟩ ⟨cx,cy,cz⟩=0) (w:World):R_ 212 #[.agg #[ax,ay,az,bx,by',bz,cx,cy,cz],.agg #[sx,sy,sz]] w (.bool false):=by
 have Ha:=aS ha;have Hb:=aS hb;have Hc:=aS hc;have Hs:=aS hs
 obtain ⟨d0,h1⟩:∃d,aX ⟨ax,ay,az⟩ ⟨bx,by',bz⟩ ⟨cx,cy,cz⟩=d:=⟨_,rfl⟩
 have HA:=hid h1;rw [h1] at hp;clear ha hb hc hs h1
 have z1:(d0==0)=true:=by rw [hp];rfl
 have h2:=aQ8 w 153 [ax,ay,az,bx,by',bz,cx,cy,cz];have h0:=aQ8 (w.alloc (.cells #[ax,ay,az,bx,by',bz,cx,cy,cz] 153)) 122 [sx,sy,sz];rw [aQy] at h0;have y0:Ext w ((w.alloc (.cells #[ax,ay,az,bx,by',bz,cx,cy,cz] 153)).alloc (.cells #[sx,sy,sz] 122)):=X_;have B0:=hid (h2.alloc (.cells #[sx,sy,sz] 122));have B1:=hid h0;have Y0:=hid y0;clear h2 h0 y0;go_enter func212,ntmps212;go_wp2_with fail;refine r_ (rT ax ay az bx by' bz cx cy cz Ha Hb Hc HA _) fun w1 x1=>?_;have q0:=hid (B0.ext x1);have q1:=hid (B1.ext x1);have X1:=hid (Y0.trans x1);clear x1 B0 B1 Y0;go_wp2;go_ret;exact ⟨rfl,X1⟩
theorem aFw (ax ay az bx by' bz cx cy cz:Int) (ha:V3.scr ⟨ax,ay,az⟩) (hb:V3.scr ⟨bx,by',bz⟩) (hc:V3.scr ⟨cx,cy,cz⟩) (sx sy sz:Int) (hs:V3.scr ⟨sx,sy,sz⟩) {r:Bool} (hr:qO ⟨ax,ay,az⟩ ⟨bx,by',bz⟩ ⟨cx,cy,cz⟩ ⟨sx,sy,sz⟩=r) (w:World):R_ 212 #[.agg #[ax,ay,az,bx,by',bz,cx,cy,cz],.agg #[sx,sy,sz]] w (.bool r):=by
 unfold qO at hr
 split at hr
 ·rename_i h0
  subst hr
  exact aDn ax ay az bx by' bz cx cy cz ha hb hc sx sy sz hs h0 w
 ·split at hr
  ·rename_i h0 h1
   exact aFv ax ay az bx by' bz cx cy cz ha hb hc sx sy sz hs h1 hr w
  ·rename_i h0 h1
   exact aFu ax ay az bx by' bz cx cy cz ha hb hc sx sy sz hs (by omega) hr w
def aKh (m1 m2 m3:Int):Nat->Int
 | 0=>0
 | 1=>m1
 | 2=>m1+m2
 | _=>m1+m2+m3
theorem aO6 (a b c:Int):aKh a b c 0=0:=rfl
theorem aNp (a b c:Int):aKh a b c 1=a:=rfl
theorem aNq (a b c:Int):aKh a b c 2=a+b:=rfl
theorem aNr (a b c:Int):aKh a b c 3=a+b+c:=rfl
theorem oV {a b s:V3} (ha:a.scr) (hb:b.scr) (hs:s.scr) : -80000000000<=aX a b s/\aX a b s<=80000000000:=by
 have:=rS ha hb hs;unfold aX;omega
theorem aB1 (h : -m<=x/\x<=m):0<=fT x/\fT x<=m:=by unfold fT;split <;> omega
theorem aIw (ax ay az bx by' bz cx cy cz:Int) (ha:V3.scr ⟨ax,ay,az⟩) (hb:V3.scr ⟨bx,by',bz⟩) (hc:V3.scr ⟨cx,cy,cz⟩) (sx sy sz:Int) (hs:V3.scr ⟨sx,sy,sz⟩) (hz:(-1000000<=az/\az<=1000000)/\(-1000000<=bz/\bz<=1000000)/\(-1000000<=cz/\cz<=1000000)) (hr:eC ⟨ax,ay,az⟩ ⟨bx,by',bz⟩ ⟨cx,cy,cz⟩ ⟨sx,sy,sz⟩=r) (w:World) :
  R_ 160 #[.agg #[ax,ay,az,bx,by',bz,cx,cy,cz],.agg #[sx,sy,sz]] w (.int .i64 r):=by
 unfold eC at hr;simp only at hr;have Ha:=aS ha;have Hb:=aS hb;have Hc:=aS hc;have Hs:=aS hs;obtain ⟨z1,z2,z3⟩:=hz;have b1:=oV hb hc hs
 obtain ⟨s1,e1⟩:∃n,aX ⟨bx,by',bz⟩ ⟨cx,cy,cz⟩ ⟨sx,sy,sz⟩=n:=⟨_,rfl⟩
 rw [e1] at b1 hr;have B1:=hid (show -1000000000000<=s1/\s1<=1000000000000 by omega);have g1:=aB1 b1;clear b1
 obtain ⟨n1,k1⟩:∃n,fT s1=n:=⟨_,rfl⟩
 rw [k1] at g1 hr;have f1:=bL (A:=1000000) (B:=80000000000) (a:=az) (b:=n1) (by omega) (by omega)
 obtain ⟨m1,r1⟩:∃n,az*n1=n:=⟨_,rfl⟩
 rw [r1] at f1 hr;have S1:=hid e1;have K1:=hid k1;have M1:=hid r1;have F1:=hid f1;clear e1 k1 r1 f1 g1;have b2:=oV hc ha hs
 obtain ⟨s2,e2⟩:∃n,aX ⟨cx,cy,cz⟩ ⟨ax,ay,az⟩ ⟨sx,sy,sz⟩=n:=⟨_,rfl⟩
 rw [e2] at b2 hr;have B2:=hid (show -1000000000000<=s2/\s2<=1000000000000 by omega);have g2:=aB1 b2;clear b2
 obtain ⟨n2,k2⟩:∃n,fT s2=n:=⟨_,rfl⟩
 rw [k2] at g2 hr;have f2:=bL (A:=1000000) (B:=80000000000) (a:=bz) (b:=n2) (by omega) (by omega)
 obtain ⟨m2,r2⟩:∃n,bz*n2=n:=⟨_,rfl⟩
 rw [r2] at f2 hr;have S2:=hid e2;have K2:=hid k2;have M2:=hid r2;have F2:=hid f2;clear e2 k2 r2 f2 g2;have b3:=oV ha hb hs
 obtain ⟨s3,e3⟩:∃n,aX ⟨ax,ay,az⟩ ⟨bx,by',bz⟩ ⟨sx,sy,sz⟩=n:=⟨_,rfl⟩
 rw [e3] at b3 hr;have B3:=hid (show -1000000000000<=s3/\s3<=1000000000000 by omega);have g3:=aB1 b3;clear b3
 obtain ⟨n3,k3⟩:∃n,fT s3=n:=⟨_,rfl⟩
 rw [k3] at g3 hr;have f3:=bL (A:=1000000) (B:=80000000000) (a:=cz) (b:=n3) (by omega) (by omega)
 obtain ⟨m3,r3⟩:∃n,cz*n3=n:=⟨_,rfl⟩
 rw [r3] at f3 hr;have S3:=hid e3;have K3:=hid k3;have M3:=hid r3;have F3:=hid f3;clear e3 k3 r3 f3 g3
 obtain ⟨d0,h1⟩:∃d,aX ⟨ax,ay,az⟩ ⟨bx,by',bz⟩ ⟨cx,cy,cz⟩=d:=⟨_,rfl⟩
 rw [h1] at hr;have HA:=hid h1;have BA:=hid (show -1000000000000<=d0/\d0<=1000000000000 by have:=oV ha hb hc;rw [h1] at this;omega)
 obtain ⟨da,h3⟩:∃d,fT d0=d:=⟨_,rfl⟩
 rw [h3] at hr;have KA:=hid h3;have HR:=hid hr;clear ha hb hc hs hr h1 h3 z1 z2 z3
 have i0:∀w:World,(aUa 151 (.agg #[ax,ay,az,bx,by',bz,cx,cy,cz]) (.int .i64 0)).run aQ2 w = .ok (.agg #[ax,ay,az]) w:=fun _=>by kernel_rfl
 have i1:∀w:World,(aUa 151 (.agg #[ax,ay,az,bx,by',bz,cx,cy,cz]) (.int .i64 1)).run aQ2 w = .ok (.agg #[bx,by',bz]) w:=fun _=>by kernel_rfl
 have i2:∀w:World,(aUa 151 (.agg #[ax,ay,az,bx,by',bz,cx,cy,cz]) (.int .i64 2)).run aQ2 w = .ok (.agg #[cx,cy,cz]) w:=fun _=>by kernel_rfl
 have h5:=aQ8 w 153 [ax,ay,az,bx,by',bz,cx,cy,cz];have h2:=aQ8 (w.alloc (.cells #[ax,ay,az,bx,by',bz,cx,cy,cz] 153)) 122 [sx,sy,sz];rw [aQy] at h2;have y0:Ext w ((w.alloc (.cells #[ax,ay,az,bx,by',bz,cx,cy,cz] 153)).alloc (.cells #[sx,sy,sz] 122)):=X_;have Q0:=hid (rU.of (a:=⟨ax,ay,az⟩) (b:=⟨bx,by',bz⟩) (c:=⟨cx,cy,cz⟩) (h5.alloc (.cells #[sx,sy,sz] 122)));have Q1:=hid (rV.of (s:=⟨sx,sy,sz⟩) h2);have X1:=hid y0;clear h5 h2 y0;go_enter func160,ntmps160;have t0:=Q0.lt;have u0:=Q0.c0;have u1:=Q0.c1;have u2:=Q0.c2;have u3:=Q0.c3;have u4:=Q0.c4;have u5:=Q0.c5;have u6:=Q0.c6;have u7:=Q0.c7;have u8:=Q0.c8;simp only at u0 u1 u2 u3 u4 u5 u6 u7 u8;go_wp2;clear u0 u1 u2 u3 u4 u5 u6 u7 u8 t0
 obtain ⟨W0,h4⟩:∃W0,((w.alloc (.cells #[ax,ay,az,bx,by',bz,cx,cy,cz] 153)).alloc (.cells #[sx,sy,sz] 122))=W0:=⟨_,rfl⟩
 rw [h4] at Q0 Q1 X1 ⊢;clear h4
 go_loopw [5,10] (fun sm i wr=>∃k:Nat,k<=3/\i = .int .i64 (k:Nat)/\sm = .int .i64 (aKh m1 m2 m3 k)/\Ext W0 wr) (fun _ i _=>3 - (intOf i).toNat)
 case atStart=>exact ⟨0,by omega,rfl,rfl,aQ6 _⟩
 case round=>
  obtain ⟨k,hk,rfl,rfl,hx⟩:=hrel;have HX:=hid hx;have hB:=Q0.ext hx;have hS:=Q1.ext hx;have t0:=hB.c0;have t1:=hB.c1;have t2:=hB.c2;have t3:=hB.c3;have t4:=hB.c4;have t5:=hB.c5;have t6:=hB.c6;have t7:=hB.c7;have t8:=hB.c8;have u0:=hS.c0;have u1:=hS.c1;have u2:=hS.c2;have zb:=hB.lt;have zs:=hS.lt;simp only at t0 t1 t2 t3 t4 t5 t6 t7 t8 u0 u1 u2;clear hx
  rcases (show k=0\/k=1\/k=2\/k=3 by omega) with rfl|rfl|rfl|rfl
  ·rw [aO6]
   have r1:=M1.out;have f1:=F1.out;go_wp2_with fail;refine aA [([0,1,2,3,4,5,6,7,8,9,10,11,12,13,14,16],15),([],17),([],18),([19,20],21)] 21 (wr.heap.size+1) (by kernel_rfl) (by kernel_rfl) ?_;refine st_ fun K hK=>?_;go_wp2_with fail;refine (eE bx by' bz cx cy cz Hb Hc _).mono ?_;rintro e w3 ⟨D,A,E,rfl,hE,x3⟩;have y3:Ext (wr.alloc (.cells #[ax,ay,az] 122)) w3:=aQ3 (aRz (aQ6 _)) x3;go_wp2_with fail;refine k_ hK ?_;clear hK K;refine st_ fun K hK=>?_;go_wp2_with fail;refine r_ (dC sx sy sz S1 Hb Hc Hs _ hE) fun w4 x4=>?_;have y4:=y3.trans x4;go_wp2_with fail;refine k_ hK ?_;clear hK K;refine st_ fun K hK=>?_;go_wp2_with fail;refine z_ (iV B1 K1 _) ?_;go_wp2_with fail;refine k_ hK ?_;clear hK K;refine st_ fun K hK=>?_;go_wp2_with fail;refine l_ hK ?_;clear hK K;refine aC ?_;have h0:=hid (HX.trans (aQ3 (show Ext wr (wr.alloc (.cells #[ax,ay,az] 122)) from X_) y4));clear t0 t1 t2 t3 t4 t5 t6 t7 t8 u0 u1 u2 y3 y4 x3 x4 hE;go_wp2;go_roundw
   case rel=>exact ⟨1,by omega,by go_num,by rw [aNp] <;> go_num,h0⟩
   case measure=>simp [intOf]
  ·rw [aNp]
   have r2:=M2.out;have f1:=F1.out;have f2:=F2.out;go_wp2_with fail;refine aA [([0,1,2,3,4,5,6,7,8,9,10,11,12,13,14,16],15),([],17),([],18),([19,20],21)] 21 (wr.heap.size+1) (by kernel_rfl) (by kernel_rfl) ?_;refine st_ fun K hK=>?_;go_wp2_with fail;refine (eE cx cy cz ax ay az Hc Ha _).mono ?_;rintro e w3 ⟨D,A,E,rfl,hE,x3⟩;have y3:Ext (wr.alloc (.cells #[bx,by',bz] 122)) w3:=aQ3 (aRz (aQ6 _)) x3;go_wp2_with fail;refine k_ hK ?_;clear hK K;refine st_ fun K hK=>?_;go_wp2_with fail;refine r_ (dC sx sy sz S2 Hc Ha Hs _ hE) fun w4 x4=>?_;have y4:=y3.trans x4;go_wp2_with fail;refine k_ hK ?_;clear hK K;refine st_ fun K hK=>?_;go_wp2_with fail;refine z_ (iV B2 K2 _) ?_;go_wp2_with fail;refine k_ hK ?_;clear hK K;refine st_ fun K hK=>?_;go_wp2_with fail;refine l_ hK ?_;clear hK K;refine aC ?_;have h0:=hid (HX.trans (aQ3 (show Ext wr (wr.alloc (.cells #[bx,by',bz] 122)) from X_) y4));clear t0 t1 t2 t3 t4 t5 t6 t7 t8 u0 u1 u2 y3 y4 x3 x4 hE;go_wp2;go_roundw
   case rel=>exact ⟨2,by omega,by go_num,by rw [aNq] <;> go_num,h0⟩
   case measure=>simp [intOf]
  ·rw [aNq]
   have r3:=M3.out;have f1:=F1.out;have f2:=F2.out;have f3:=F3.out;go_wp2_with fail;refine aA [([0,1,2,3,4,5,6,7,8,9,10,11,12,13,14,16],15),([],17),([],18),([19,20],21)] 21 (wr.heap.size+1) (by kernel_rfl) (by kernel_rfl) ?_;refine st_ fun K hK=>?_;go_wp2_with fail;refine (eE ax ay az bx by' bz Ha Hb _).mono ?_;rintro e w3 ⟨D,A,E,rfl,hE,x3⟩;have y3:Ext (wr.alloc (.cells #[cx,cy,cz] 122)) w3:=aQ3 (aRz (aQ6 _)) x3;go_wp2_with fail;refine k_ hK ?_;clear hK K;refine st_ fun K hK=>?_;go_wp2_with fail;refine r_ (dC sx sy sz S3 Ha Hb Hs _ hE) fun w4 x4=>?_;have y4:=y3.trans x4;go_wp2_with fail;refine k_ hK ?_;clear hK K;refine st_ fun K hK=>?_;go_wp2_with fail;refine z_ (iV B3 K3 _) ?_;go_wp2_with fail;refine k_ hK ?_;clear hK K;refine st_ fun K hK=>?_;go_wp2_with fail;refine l_ hK ?_;clear hK K;refine aC ?_;have h0:=hid (HX.trans (aQ3 (show Ext wr (wr.alloc (.cells #[cx,cy,cz] 122)) from X_) y4));clear t0 t1 t2 t3 t4 t5 t6 t7 t8 u0 u1 u2 y3 y4 x3 x4 hE;go_wp2;go_roundw
   case rel=>exact ⟨3,by omega,by go_num,by rw [aNr] <;> go_num,h0⟩
   case measure=>simp [intOf]
  ·rw [aNr]
   have f1:=F1.out;have f2:=F2.out;have f3:=F3.out;go_wp2_with fail;refine r_ (rT ax ay az bx by' bz cx cy cz Ha Hb Hc HA _) fun w6 x6=>?_;go_wp2_with fail;refine z_ (iV BA KA _) ?_;go_wp2_with fail;refine z_ (cD (I64.of (m:=1000000000000000000) (by omega) (by decide)) HR _) ?_;go_wp2;go_ret;exact ⟨rfl,X1.trans (HX.trans x6)⟩
theorem mO (hx : -100000<=x/\x<=100000) (hy : -100000<=y/\y<=100000) (hz : -1000000<=z/\z<=1000000) (w:World) :
  R_ 213 #[.agg #[x,y,z]] w (.agg #[x,y,z]):=by
 have X:=hid (rN (x:=x) (by omega));have Y:=hid (rN (x:=y) (by omega));have Z:=hid (rN (x:=z) (by omega));have SX:=hid (show aR x (-100000) 100000=x from aBu hx);have SY:=hid (show aR y (-100000) 100000=y from aBu hy);clear hx hy hz;have h2:=aQ8 w 122 [x,y,z];have h0:=aQ8 (w.alloc (.cells #[x,y,z] 122)) 122 [(),(),()];rw [aQy] at h0;have y0:Ext w ((w.alloc (.cells #[x,y,z] 122)).alloc (.cells #[(),(),()] 122)):=X_;have B0:=hid (h2.alloc (.cells #[(),(),()] 122));have B1:=hid h0;have Y0:=hid y0;clear h2 h0 y0;go_enter func213,ntmps213;go_wp2_with fail;refine r_ (eP X Y Z _) fun w1 x1=>?_;have C0:=B0.ext x1;have C1:=B1.ext x1;have f0:=C0.free 0;have f1:=C0.free 1;have f2:=C0.free 2;obtain ⟨k0,k1,k2⟩:=C0.q3;have zc:=C0.lt;have E0:=hid (((C0.set 0 (.int .i64 x)).set 1 (.int .i64 y)).set 2 (.int .i64 z))
 have h1:w.heap.size+1≠w.heap.size:=by omega
 have E1:=hid (((C1.other (a:=⟨w.heap.size,0,none⟩) h1 (.int .i64 x)).other (a:=⟨w.heap.size,1,none⟩) h1 (.int .i64 y)).other (a:=⟨w.heap.size,2,none⟩) h1 (.int .i64 z));have X1:=Y0.trans x1;have X2:=hid (show Ext w (((w1.setCell ⟨w.heap.size,0,none⟩ x).setCell ⟨w.heap.size,1,none⟩ y).setCell ⟨w.heap.size,2,none⟩ z) from S_);clear C0 C1 x1 X1 B0 B1 Y0;go_upto_region 2 with fail;clear f0 f1 f2 zc k0 k1 k2
 obtain ⟨w2,h3⟩:∃w2,((w1.setCell ⟨w.heap.size,0,none⟩ x).setCell ⟨w.heap.size,1,none⟩ y).setCell ⟨w.heap.size,2,none⟩ z=w2:=⟨_,rfl⟩
 rw [h3] at E0 E1 X2 ⊢;clear h3;obtain ⟨c0,c1,c2⟩:=E0.q3;have z0:=E0.lt;have z1:=E1.lt;have f0:=E1.free 0;have f1:=E1.free 1;have f2:=E1.free 2;obtain ⟨k0,k1,k2⟩:=E1.q3;refine aA [([0,1,3,4,6,7],2),([],5),([8],9)] 9 w2.heap.size (by kernel_rfl) (by kernel_rfl) ?_;refine st_ fun K hK=>?_;go_wp2_with fail;refine z_ (dY SX _) ?_;go_wp2_with fail;refine hK _ _ (.inr (fun k _ hk=>aRa X_ hk)) ?_;clear hK K;refine st_ fun K hK=>?_;go_wp2_with fail;refine z_ (dY SY _) ?_;go_wp2_with fail;refine hK _ _ (.inr (fun k _ hk=>aRa X_ hk)) ?_;clear hK K;refine st_ fun K hK=>?_;go_wp2_with fail;refine l_ hK ?_;clear hK K;refine aC ?_;have hX:=X2.out;go_wp2;exact bodyPost_ret (v:=.agg #[x,y,z]) (by simp [results,results213,go_sem, *]) rfl ⟨rfl,S_⟩
theorem uG (ax ay az bx by' bz cx cy cz:Int) (ha:V3.scr ⟨ax,ay,az⟩) (hb:V3.scr ⟨bx,by',bz⟩) (hc:V3.scr ⟨cx,cy,cz⟩) (hz:(-1000000<=az/\az<=1000000)/\(-1000000<=bz/\bz<=1000000)/\(-1000000<=cz/\cz<=1000000)) (w:World):R_ 159 #[.agg #[ax,ay,az,bx,by',bz,cx,cy,cz]] w (.agg #[ax,ay,az,bx,by',bz,cx,cy,cz]):=by
 obtain ⟨z1,z2,z3⟩:=hz;obtain ⟨a1,a2⟩:=ha;obtain ⟨b1,b2⟩:=hb;obtain ⟨c1,c2⟩:=hc;simp only at a1 a2 b1 b2 c1 c2;have Za:=hid z1;have Zb:=hid z2;have Zc:=hid z3;have h4:=hid a1;have h5:=hid a2;have h6:=hid b1;have h7:=hid b2;have h8:=hid c1;have h9:=hid c2;clear z1 z2 z3 a1 a2 b1 b2 c1 c2
 have i0:∀w:World,(aUa 151 (.agg #[ax,ay,az,bx,by',bz,cx,cy,cz]) (.int .i64 0)).run aQ2 w = .ok (.agg #[ax,ay,az]) w:=fun _=>by kernel_rfl
 have i1:∀w:World,(aUa 151 (.agg #[ax,ay,az,bx,by',bz,cx,cy,cz]) (.int .i64 1)).run aQ2 w = .ok (.agg #[bx,by',bz]) w:=fun _=>by kernel_rfl
 have i2:∀w:World,(aUa 151 (.agg #[ax,ay,az,bx,by',bz,cx,cy,cz]) (.int .i64 2)).run aQ2 w = .ok (.agg #[cx,cy,cz]) w:=fun _=>by kernel_rfl
 have h3:=aQ8 w 153 [ax,ay,az,bx,by',bz,cx,cy,cz];have h1:=aQ8 (w.alloc (.cells #[ax,ay,az,bx,by',bz,cx,cy,cz] 153)) 153 [(),(),(),(),(),(),(),(),()];rw [aQy] at h1;have y0:Ext w ((w.alloc (.cells #[ax,ay,az,bx,by',bz,cx,cy,cz] 153)).alloc (.cells #[(),(),(),(),(),(),(),(),()] 153)):=X_;have B0:=hid (h3.alloc (.cells #[(),(),(),(),(),(),(),(),()] 153));have B1:=hid h1;have Y0:=hid y0;have c0:=B0.cell 0 rfl;have c1:=B0.cell 1 rfl;have c2:=B0.cell 2 rfl;have c3:=B0.cell 3 rfl;have c4:=B0.cell 4 rfl;have c5:=B0.cell 5 rfl;have c6:=B0.cell 6 rfl;have c7:=B0.cell 7 rfl;have c8:=B0.cell 8 rfl;have zc:=B0.lt;clear h3 h1 y0;go_enter func159,ntmps159;go_wp2;clear c0 c1 c2 c3 c4 c5 c6 c7 c8 zc
 obtain ⟨W0,h2⟩:∃W0,((w.alloc (.cells #[ax,ay,az,bx,by',bz,cx,cy,cz] 153)).alloc (.cells #[(),(),(),(),(),(),(),(),()] 153))=W0:=⟨_,rfl⟩
 rw [h2] at B0 B1 Y0 ⊢;clear h2
 go_loopw [7] (fun i wr=>∃k:Nat,k<=3/\i = .int .i64 (k:Nat)/\Ext w wr/\Blk wr w.heap.size 153 [ax,ay,az,bx,by',bz,cx,cy,cz]/\Blk wr (w.heap.size+1) 153 [(),(),(),(),(),(),(),(),()]) (fun i _=>3 - (intOf i).toNat)
 case atStart=>exact ⟨0,by omega,rfl,Y0,B0,B1⟩
 case round=>
  obtain ⟨k,hk,rfl,hx,hB,hC⟩:=hrel;have HX:=hid hx;have HB:=hid hB;have HC:=hid hC;have zw:=hx.size;have zb:=hB.lt;have zc:=hC.lt;clear hx hB hC B0 B1 Y0
  rcases (show k=0\/k=1\/k=2\/k=3 by omega) with rfl|rfl|rfl|rfl
  ·go_wp2_with fail
   refine r_ (mO h4 h5 Za _) fun w3 x3=>?_;have y3:Ext wr w3:=aQ3 (show Ext wr (wr.alloc (.cells #[ax,ay,az] 122)) from X_) x3;have D0:=HB.ext y3;have D1:=HC.ext y3;have f0:=D0.free 0;have f1:=D0.free 1;have f2:=D0.free 2;obtain ⟨k0,k1,k2⟩:=D0.q3;have z3:=D0.lt;have X3:=HX.trans y3;have G0:=hid (((D0.set 0 (.int .i64 ax)).set 1 (.int .i64 ay)).set 2 (.int .i64 az))
   have h0:w.heap.size+1≠w.heap.size:=by omega
   have G1:=hid (((D1.other (a:=⟨w.heap.size,0,none⟩) h0 (.int .i64 ax)).other (a:=⟨w.heap.size,1,none⟩) h0 (.int .i64 ay)).other (a:=⟨w.heap.size,2,none⟩) h0 (.int .i64 az));have GX:=hid (show Ext w (((w3.setCell ⟨w.heap.size,0,none⟩ ax).setCell ⟨w.heap.size,1,none⟩ ay).setCell ⟨w.heap.size,2,none⟩ az) from S_);clear D0 D1 X3 y3 x3 HB HC HX;go_wp2;go_roundw
   case rel=>exact ⟨1,by omega,by go_num,GX,G0,G1⟩
   case measure=>simp [intOf]
  ·go_wp2_with fail
   refine r_ (mO h6 h7 Zb _) fun w3 x3=>?_;have y3:Ext wr w3:=aQ3 (show Ext wr (wr.alloc (.cells #[bx,by',bz] 122)) from X_) x3;have D0:=HB.ext y3;have D1:=HC.ext y3;have f0:=D0.free 3;have f1:=D0.free 4;have f2:=D0.free 5;have k0:=D0.cell 3 rfl;have k1:=D0.cell 4 rfl;have k2:=D0.cell 5 rfl;have z3:=D0.lt;have X3:=HX.trans y3;have G0:=hid (((D0.set 3 (.int .i64 bx)).set 4 (.int .i64 by')).set 5 (.int .i64 bz))
   have h0:w.heap.size+1≠w.heap.size:=by omega
   have G1:=hid (((D1.other (a:=⟨w.heap.size,3,none⟩) h0 (.int .i64 bx)).other (a:=⟨w.heap.size,4,none⟩) h0 (.int .i64 by')).other (a:=⟨w.heap.size,5,none⟩) h0 (.int .i64 bz));have GX:=hid (show Ext w (((w3.setCell ⟨w.heap.size,3,none⟩ bx).setCell ⟨w.heap.size,4,none⟩ by').setCell ⟨w.heap.size,5,none⟩ bz) from S_);clear D0 D1 X3 y3 x3 HB HC HX;go_wp2;go_roundw
   case rel=>exact ⟨2,by omega,by go_num,GX,G0,G1⟩
   case measure=>simp [intOf]
  ·go_wp2_with fail
   refine r_ (mO h8 h9 Zc _) fun w3 x3=>?_;have y3:Ext wr w3:=aQ3 (show Ext wr (wr.alloc (.cells #[cx,cy,cz] 122)) from X_) x3;have D0:=HB.ext y3;have D1:=HC.ext y3;have f0:=D0.free 6;have f1:=D0.free 7;have f2:=D0.free 8;have k0:=D0.cell 6 rfl;have k1:=D0.cell 7 rfl;have k2:=D0.cell 8 rfl;have z3:=D0.lt;have X3:=HX.trans y3;have G0:=hid (((D0.set 6 (.int .i64 cx)).set 7 (.int .i64 cy)).set 8 (.int .i64 cz))
   have h0:w.heap.size+1≠w.heap.size:=by omega
   have G1:=hid (((D1.other (a:=⟨w.heap.size,6,none⟩) h0 (.int .i64 cx)).other (a:=⟨w.heap.size,7,none⟩) h0 (.int .i64 cy)).other (a:=⟨w.heap.size,8,none⟩) h0 (.int .i64 cz));have GX:=hid (show Ext w (((w3.setCell ⟨w.heap.size,6,none⟩ cx).setCell ⟨w.heap.size,7,none⟩ cy).setCell ⟨w.heap.size,8,none⟩ cz) from S_);clear D0 D1 X3 y3 x3 HB HC HX;go_wp2;go_roundw
   case rel=>exact ⟨3,by omega,by go_num,GX,G0,G1⟩
   case measure=>simp [intOf]
  ·have c0:=HB.cell 0 rfl
   have c1:=HB.cell 1 rfl;have c2:=HB.cell 2 rfl;have c3:=HB.cell 3 rfl;have c4:=HB.cell 4 rfl;have c5:=HB.cell 5 rfl;have c6:=HB.cell 6 rfl;have c7:=HB.cell 7 rfl;have c8:=HB.cell 8 rfl;have f0:=HC.free 0;have f1:=HC.free 1;have f2:=HC.free 2;have f3:=HC.free 3;have f4:=HC.free 4;have f5:=HC.free 5;have f6:=HC.free 6;have f7:=HC.free 7;have f8:=HC.free 8;have k0:=HC.cell 0 rfl;have k1:=HC.cell 1 rfl;have k2:=HC.cell 2 rfl;have k3:=HC.cell 3 rfl;have k4:=HC.cell 4 rfl;have k5:=HC.cell 5 rfl;have k6:=HC.cell 6 rfl;have k7:=HC.cell 7 rfl;have k8:=HC.cell 8 rfl;have hX:=HX.out;go_wp2;exact bodyPost_ret (v:=.agg #[ax,ay,az,bx,by',bz,cx,cy,cz]) (by simp [results,results159,go_sem, *]) rfl ⟨rfl,S_⟩
theorem uH (ax ay az bx by' bz cx cy cz:Int) (ha:V3.scr ⟨ax,ay,az⟩) (hb:V3.scr ⟨bx,by',bz⟩) (hc:V3.scr ⟨cx,cy,cz⟩) (hz:(-1000000<=az/\az<=1000000)/\(-1000000<=bz/\bz<=1000000)/\(-1000000<=cz/\cz<=1000000)) (sx sy:Int) (hs:(-100000<=sx/\sx<=100000)/\(-100000<=sy/\sy<=100000)) {r:Bool} (hr:qO ⟨ax,ay,az⟩ ⟨bx,by',bz⟩ ⟨cx,cy,cz⟩ ⟨sx,sy,0⟩=r) (w:World) :
  R_ 158 #[.agg #[ax,ay,az,bx,by',bz,cx,cy,cz],sx,sy] w (.bool r):=by
 have Ha:=aS ha;have Hb:=aS hb;have Hc:=aS hc;have HZ:=hid hz;have HR:=hid hr;have Hs:=aS (show V3.scr ⟨sx,sy,0⟩ from hs);have I1:=hid (aG.2 hs.1);have I2:=hid (aG.2 hs.2);have y0:Ext w (w.alloc (.cells #[ax,ay,az,bx,by',bz,cx,cy,cz] 153)):=X_;have Y0:=hid y0;clear ha hb hc hz hr hs y0;go_enter func158,ntmps158;go_wp2_with (go_at_call 92;with_reducible first|(refine z_ (aH I1.out _) ?_)|(refine z_ (aH I2.out _) ?_));refine r_ (uG ax ay az bx by' bz cx cy cz Ha.out Hb.out Hc.out HZ.out _) fun w1 x1=>?_;go_wp2_with fail;refine r_ (aFw ax ay az bx by' bz cx cy cz Ha.out Hb.out Hc.out sx sy 0 Hs.out HR.out _) fun w2 x2=>?_;go_wp2;go_ret;exact ⟨rfl,Y0.out.trans (x1.trans x2)⟩
theorem aFx (ax ay az bx by' bz cx cy cz:Int) (ha:V3.scr ⟨ax,ay,az⟩) (hb:V3.scr ⟨bx,by',bz⟩) (hc:V3.scr ⟨cx,cy,cz⟩) (hz:(-1000000<=az/\az<=1000000)/\(-1000000<=bz/\bz<=1000000)/\(-1000000<=cz/\cz<=1000000)) (sx sy:Int) (hs:(-100000<=sx/\sx<=100000)/\(-100000<=sy/\sy<=100000)) (hr:qO ⟨ax,ay,az⟩ ⟨bx,by',bz⟩ ⟨cx,cy,cz⟩ ⟨sx,sy,0⟩=false) (w:World) :
  R_ 104 #[.agg #[ax,ay,az,bx,by',bz,cx,cy,cz],sx,sy] w (.tuple #[(),.bool false]):=by
 have Ha:=aS ha;have Hb:=aS hb;have Hc:=aS hc;have HZ:=hid hz;have HR:=hid hr;have HS:=hid hs;have h0:=aQ8 w 153 [ax,ay,az,bx,by',bz,cx,cy,cz];have y0:Ext w (w.alloc (.cells #[ax,ay,az,bx,by',bz,cx,cy,cz] 153)):=X_;have B0:=hid h0;have Y0:=hid y0;clear ha hb hc hz hr hs y0 h0;go_enter func104,ntmps104;go_wp2_with fail;refine r_ (uH ax ay az bx by' bz cx cy cz Ha Hb Hc HZ sx sy HS HR _) fun w1 x1=>?_;go_wp2;exact bodyPost_ret (v:=.tuple #[(),.bool false]) (by simp [results,results104,go_sem, *]) rfl ⟨rfl,Y0.trans x1⟩
theorem aDo (ax ay az bx by' bz cx cy cz:Int) (ha:V3.scr ⟨ax,ay,az⟩) (hb:V3.scr ⟨bx,by',bz⟩) (hc:V3.scr ⟨cx,cy,cz⟩) (hz:(-1000000<=az/\az<=1000000)/\(-1000000<=bz/\bz<=1000000)/\(-1000000<=cz/\cz<=1000000)) (sx sy:Int) (hs:(-100000<=sx/\sx<=100000)/\(-100000<=sy/\sy<=100000)) (hr:qO ⟨ax,ay,az⟩ ⟨bx,by',bz⟩ ⟨cx,cy,cz⟩ ⟨sx,sy,0⟩=true) (hd:eC ⟨ax,ay,az⟩ ⟨bx,by',bz⟩ ⟨cx,cy,cz⟩ ⟨sx,sy,0⟩=r) (w:World) :
  R_ 104 #[.agg #[ax,ay,az,bx,by',bz,cx,cy,cz],sx,sy] w (.tuple #[r,.bool true]):=by
 have Ha:=aS ha;have Hb:=aS hb;have Hc:=aS hc;have HZ:=hid hz;have HR:=hid hr;have HS:=hid hs;have HD:=hid hd;have h0:=aQ8 w 153 [ax,ay,az,bx,by',bz,cx,cy,cz];have y0:Ext w (w.alloc (.cells #[ax,ay,az,bx,by',bz,cx,cy,cz] 153)):=X_;have B0:=hid h0;have Y0:=hid y0;clear ha hb hc hz hr hs y0 h0 hd;go_enter func104,ntmps104;go_wp2_with fail;refine r_ (uH ax ay az bx by' bz cx cy cz Ha Hb Hc HZ sx sy HS HR _) fun w1 x1=>?_;have c0:=(B0.ext x1).cell 0 rfl;have c1:=(B0.ext x1).cell 1 rfl;have c2:=(B0.ext x1).cell 2 rfl;have c3:=(B0.ext x1).cell 3 rfl;have c4:=(B0.ext x1).cell 4 rfl;have c5:=(B0.ext x1).cell 5 rfl;have c6:=(B0.ext x1).cell 6 rfl;have c7:=(B0.ext x1).cell 7 rfl;have c8:=(B0.ext x1).cell 8 rfl;have zb:=(B0.ext x1).lt;go_wp2_with fail;refine r_ (uG ax ay az bx by' bz cx cy cz Ha Hb Hc HZ _) fun w2 x2=>?_;clear c0 c1 c2 c3 c4 c5 c6 c7 c8;go_wp2_with fail;refine r_ (aIw ax ay az bx by' bz cx cy cz Ha Hb Hc sx sy 0 HS HZ HD _) fun w3 x3=>?_;go_wp2;exact bodyPost_ret (v:=.tuple #[r,.bool true]) (by simp [results,results104,go_sem, *]) rfl ⟨rfl,Y0.trans (x1.trans (x2.trans x3))⟩
def qU (op:Int):Bool:=op==2||op==8
def aB2 (op l:Int):Bool:=if op=1\/op=2 then l==0 else if op=3 then l==1 else if 4<=op/\op<=7 then l==2 else if op=8 then decide (l<=3) else false
def gK (x:Nd):Bool:=(if qU x.op then dE x.name else x.name.toList==[])&&(if x.op=1 then inB x.num 0 2559999 else x.num==0)&&aB2 x.op x.args.length
theorem uI {s:ByteArray} (h:dE s=true):(s.toList==[])=false:=by
 rw [beq_eq_false_iff_ne];intro e
 have h1:s.size=0:=by
  rw [ByteArray.toList_eq] at e
  have:s.data.toList.length=s.size:=by simp
  rw [<-this,e]
  rfl
 unfold dE at h;rw [h1] at h;simp at h
theorem kB {s:ByteArray} {b:Bool} (h:dE s=b) (w:World) (hs:s.size<=maxLen):R_ 238 #[.string s] w (.bool b):=h▸rM s w hs
theorem kD {s:ByteArray} {b:Bool} (h:dE s=b) (w:World) (hs:s.size<=maxLen):Z_ 187 #[.string s] w (.bool b):=h▸rL s w hs
theorem aDp (op:Int) (bn:Bool):(op=1/\bn=true)\/(op=1/\bn=false)\/op=2\/op=3\/op=4\/op=5\/op=6\/op=7\/op=8\/(op≠1/\op≠2/\op≠3/\op≠4/\op≠5/\op≠6/\op≠7/\op≠8):=by
 cases bn <;> simp <;> omega
theorem wM (op:Int) (s:ByteArray) (n:Int) (a:Option Addr) (r:List Int) (cap:Nat) (w:World) (hs:s.size<=maxLen) :
  R_ 237 #[.agg #[op,.string s,n,.slice a r.length cap]] w (.bool (gK ⟨op,s,n,r⟩)):=by
 obtain ⟨bi,h2⟩:∃b,dE s=b:=⟨_,rfl⟩
 obtain ⟨be,h4⟩:∃b,(s.toList==[])=b:=⟨_,rfl⟩
 obtain ⟨bn,h0⟩:∃b,inB n 0 2559999=b:=⟨_,rfl⟩
 have h3:bi=true->be=false:=fun h=>by rw [<-h4];exact uI (by rw [h2,h])
 have bA:=Bx.made w #[op,.string s,n,.slice a r.length cap] 197;have HS:=hid hs;have HI:=hid h2;clear hs
 rcases aDp op bn with ⟨rfl,rfl⟩|⟨rfl,rfl⟩|rfl|rfl|rfl|rfl|rfl|rfl|rfl|⟨o1,o2,o3,o4,o5,o6,o7,o8⟩
 all_goals cases bi <;> cases be
 all_goals first|(exfalso;simp at h3;done)|skip
 all_goals
  try have q1:(op==1)=false:=beq_eq_false_iff_ne.2 o1
  try have q2:(op==2)=false:=beq_eq_false_iff_ne.2 o2
  try have q3:(op==3)=false:=beq_eq_false_iff_ne.2 o3
  try have q4:(op==4)=false:=beq_eq_false_iff_ne.2 o4
  try have q5:(op==5)=false:=beq_eq_false_iff_ne.2 o5
  try have q6:(op==6)=false:=beq_eq_false_iff_ne.2 o6
  try have q7:(op==7)=false:=beq_eq_false_iff_ne.2 o7
  try have q8:(op==8)=false:=beq_eq_false_iff_ne.2 o8
  clear h3 h2;go_enter func237,ntmps237;go_wp2_with fail;refine r_ (kB HI _ HS) fun w1 x1=>?_;have h1:=bA.ext x1;have X1:Ext w w1:=aQ3 X_ x1;clear bA x1;have y:=h1.lt;obtain ⟨y0,y1,y2,y3⟩:=h1.q4;clear h1;go_wp2_with (go_at_call 92;refine z_ (aH h0 _) ?_)
  all_goals (go_ret;exact ⟨by first|(simp [gK,qU,aB2,HI.out,h0, *];done)|(simp [gK,qU,aB2,HI.out,h0, *] <;> simp_all;done)|(simp [gK,qU,aB2,HI.out,h0, *] <;> omega),X1⟩)
def lU (r:List Int) (i:Int):Bool:=r.all fun a=>inB a 0 (i - 1)
theorem aMf:inB 4 4 7=true/\inB 5 4 7=true/\inB 6 4 7=true/\inB 7 4 7=true:=⟨rfl,rfl,rfl,rfl⟩
theorem aIx (lo hi:Nat) (op:Int) (s:ByteArray) (n:Int) (u:Value) (r:List Int) (i:Int) (w:World) (hu:aU lo hi w u r) (hh:hi<=w.heap.size) (hs:s.size<=maxLen) (hi1:0<=i) (hi2:i<=10000000) :
  R_ 186 #[.agg #[op,.string s,n,u],i] w (.bool (lU r i&&gK ⟨op,s,n,r⟩)):=by
 obtain ⟨a,cap,rfl,HU⟩:=hu.open;have l1:=HU.le;have l2:=HU.cap
 obtain ⟨bi,h7⟩:∃b,dE s=b:=⟨_,rfl⟩
 obtain ⟨be,h5⟩:∃b,(s.toList==[])=b:=⟨_,rfl⟩
 obtain ⟨bn,h1⟩:∃b,inB n 0 2559999=b:=⟨_,rfl⟩
 have h3:bi=true->be=false:=fun h=>by rw [<-h5];exact uI (by rw [h7,h])
 have HS:=hid hs;have HI:=hid h7;have HE:=hid h5;have HB:=hid h1;have x0:Ext w (w.alloc (.cells #[op,.string s,n,.slice a r.length cap] 197)):=X_;have h9:=hid h3;clear hs h7 h5 h1 h3 hu;go_enter func186,ntmps186;go_wp2
 go_loopw [11] (fun q wr=>∃k:Nat,k<=r.length/\q = .int .i64 k/\wr=(w.alloc (.cells #[op,.string s,n,.slice a r.length cap] 197))/\∀j x,j<k->r[j]?=some x->inB x 0 (i - 1)=true) (fun q _=>r.length - (intOf q).toNat)
 case atStart=>exact ⟨0,by omega,rfl,rfl,fun j x h=>by omega⟩
 case round=>
  obtain ⟨k,hk,rfl,rfl,h4⟩:=hrel
  by_cases h8:k<r.length
  ·obtain ⟨b,q0,rfl,q5,q6,hc⟩:=HU.at h8
   have h0:r[k]?=some r[k]:=by simp [h8]
   obtain ⟨y,hy⟩:∃y,r[k]=y:=⟨_,rfl⟩
   rw [hy] at hc h0;clear hy;rw [<-x0.cells.1 b _ (by omega)] at hc
   obtain ⟨bb,h2⟩:∃c,inB y 0 (i - 1)=c:=⟨_,rfl⟩
   have q7:b<(w.alloc (.cells #[op,.string s,n,.slice (some ⟨b,q0,none⟩) r.length cap] 197)).heap.size:=by simp;omega
   cases bb
   ·have HN:Hid (lU r i=false):=hid (by
     unfold lU;rw [aT4]
     exact ⟨y,aRn h0,by rw [h2];simp⟩)
    have h6:=hid h2;clear h4 h0 h2;go_wp2_with (go_at_call 46;refine z_ (aE h6.out _) ?_);go_ret;exact ⟨by rw [HN.out];rfl,x0⟩
   ·have HN:Hid (∀j x,j<k+1->r[j]?=some x->inB x 0 (i - 1)=true):=hid (fun j z hj hz=>by
     by_cases e:j=k
     ·subst e
      rw [h0] at hz;injection hz with hz;subst hz;exact h2
     ·exact h4 j z (by omega) hz)
    have h6:=hid h2;clear h4 h0 h2;go_wp2_with (go_at_call 46;refine z_ (aE h6.out _) ?_);go_roundw
    case rel=>exact ⟨k+1,by omega,by go_num,by trivial,HN.out⟩
    case measure=>simp [intOf];omega
  ·obtain rfl:k=r.length:=by omega
   have HN:Hid (lU r i=true):=hid (by
    unfold lU;rw [aR5];intro x hx;obtain ⟨j,hj,rfl⟩:=aRw hx
    exact h4 j _ hj (by simp [hj]))
   clear h4;have h3:=h9.out;have h5:=HE.out;have h1:=HB.out
   rcases aDp op bn with ⟨rfl,rfl⟩|⟨rfl,rfl⟩|rfl|rfl|rfl|rfl|rfl|rfl|rfl|⟨o1,o2,o3,o4,o5,o6,o7,o8⟩
   all_goals cases bi <;> cases be
   all_goals first|(exfalso;simp at h3;done)|skip
   all_goals
    try have q1:(op==1)=false:=beq_eq_false_iff_ne.2 o1
    try have q2:(op==2)=false:=beq_eq_false_iff_ne.2 o2
    try have q3:(op==3)=false:=beq_eq_false_iff_ne.2 o3
    try have q8:(op==8)=false:=beq_eq_false_iff_ne.2 o8
    try have q4:inB op 4 7=false:=by unfold inB;simp;omega
    clear h3;go_wp2_with (first|(go_at_call 187;refine z_ (kD HI.out _ HS.out) ?_)|(go_at_call 46;(first|with_reducible refine (aE h1 _).mono ?_|with_reducible refine (aE q4 _).mono ?_|with_reducible refine (aE aMf.1 _).mono ?_|with_reducible refine (aE aMf.2.1 _).mono ?_|with_reducible refine (aE aMf.2.2.1 _).mono ?_|with_reducible refine (aE aMf.2.2.2 _).mono ?_);rintro e w1 ⟨rfl,rfl⟩))
    all_goals (go_ret;exact ⟨by rw [HN.out,Bool.true_and];first|(simp [gK,qU,aB2,HI.out,h1, *];done)|(simp [gK,qU,aB2,HI.out,h1, *] <;> simp_all;done)|(simp [gK,qU,aB2,HI.out,h1, *] <;> omega),x0⟩)
end Go.Proofs.YthgpegkmjeigmaaGreat
