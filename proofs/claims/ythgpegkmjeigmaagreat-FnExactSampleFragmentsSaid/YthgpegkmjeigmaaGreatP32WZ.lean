/- Texts of this claim, packed: what its theorem does not use is left out. -/
import Derived.Test.YthgpegkmjeigmaaGreatP32W5
import Derived.Test.YthgpegkmjeigmaaGreatP32W4
import Derived.Test.YthgpegkmjeigmaaGreatP32W2
import Derived.Test.YthgpegkmjeigmaaGreatP32W3
import Derived.Test.YthgpegkmjeigmaaGreatP32W1
import Derived.OpenShut
import Derived.ShutString
import Derived.ChangeOld
import Derived.Below
import Derived.Carry
import Derived.Lib.SmallJoins
import Derived.Deep.Slices
import Derived.Deep.Strs
import Derived.Test.YthgpegkmjeigmaaGreatRows
import Derived.ProofKit
set_option linter.unusedSimpArgs false
set_option linter.unusedVariables false
set_option maxRecDepth 100000
set_option maxHeartbeats 12800000
namespace Go.Proofs.YthgpegkmjeigmaaGreat
open Go.RowKit
open Go.Proofs.Tryz
open _root_.Go.Act renaming put→aSj
variable {b hi hi' lo lo' n o:Nat} {f:Nat→Int} {t:TypeId} {v:Value} {w w':World}
open _root_.Array renaming getElem?_eq_some_iff→aRi,ext_getElem?→aVk
open _root_.Bool renaming and_eq_true→aRd
open _root_.Classical renaming axiomOfChoice→aUl
open _root_.Go.Addr renaming add→aUy
open _root_.Go.DataW renaming trod→aUq,Trod→bA2
open _root_.Go.Deep renaming open_slice→aWm,add_add→aT9
open _root_.Go.Proofs.Tryz renaming prog→aQ2
open _root_.Go.Proofs.YthgpegkmjeigmaaGreat.Ext renaming refl→aQ6,trans→aQ3
open _root_.Go.RowKit.Below renaming heap_setCell→aQ7
open _root_.Go.World renaming size_alloc→aQy,size_setCell→aSg,cell?→aSy,cells?_some→aW7
open _root_.Go.World.rowIs renaming congr→aTa,lt→aTk,of_block→aUj,cell→aSr,frozen→aS2
open _root_.List renaming mem_of_getElem?→aRn,getElem?_eq_some_iff→aQz,getElem?_eq_getElem→aQ9,getElem_mem→aRh,length_cons→aSc,map_cons→aS4,map_nil→aV7,length_nil→aS7,setIfInBounds_toArray→aQ4,set_cons_succ→aRc,set_cons_zero→aRb,getElem?_take→aS1,range→aRl,mem_range→aR4,mem_map→aS3,getElem?_toArray→aQ1,getElem?_cons_zero→aQw,getElem?_cons_succ→aQx,filterMap_nil→aRg,filterMap_cons→aRm
open _root_.Nat renaming le_trans→aQ5,lt_of_lt_of_le→aSf,zero_add→aRt,le_refl→aQv,add_mul→aTf,one_mul→aTh,add_assoc→aSp,mod_lt→aTp,reduceAdd→aTx,zero_le→aSi,mul_comm→aUu,zero_mul→aVo
open _root_.Option.some renaming inj→aSx,injEq→aQ0
theorem h2_ {a b:Prop} (l:a) (m:b):Hid a∧Hid b:=⟨l,m⟩
theorem h3_ {a b c:Prop} (l:a) (m:b) (n:c):Hid a∧Hid b∧Hid c:=⟨l,m,n⟩
theorem h4_ {a b c d:Prop} (l:a) (m:b) (n:c) (o:d):Hid a∧Hid b∧Hid c∧Hid d:=⟨l,m,n,o⟩
theorem h5_ {a b c d e:Prop} (l:a) (m:b) (n:c) (o:d) (p:e):Hid a∧Hid b∧Hid c∧Hid d∧Hid e:=⟨l,m,n,o,p⟩
theorem h6_ {a b c d e f:Prop} (l:a) (m:b) (n:c) (o:d) (p:e) (q:f):Hid a∧Hid b∧Hid c∧Hid d∧Hid e∧Hid f:=⟨l,m,n,o,p,q⟩
theorem h7_ {a b c d e f g:Prop} (l:a) (m:b) (n:c) (o:d) (p:e) (q:f) (r:g):Hid a∧Hid b∧Hid c∧Hid d∧Hid e∧Hid f∧Hid g:=⟨l,m,n,o,p,q,r⟩
theorem m5_ {a b c d e:Prop} (m:a) (n:b) (o:c) (p:d) (q:e):a∧b∧c∧d∧e:=⟨m,n,o,p,q⟩
theorem m8_ {a b c d e f g h:Prop} (m:a) (n:b) (o:c) (p:d) (q:e) (r:f) (s:g) (t:h):a∧b∧c∧d∧e∧f∧g∧h:=⟨m,n,o,p,q,r,s,t⟩
theorem m12_ {a b c d e f g h i j k l:Prop} (m:a) (n:b) (o:c) (p:d) (q:e) (r:f) (s:g) (t:h) (u:i) (v:j) (w:k) (x:l):a∧b∧c∧d∧e∧f∧g∧h∧i∧j∧k∧l:=⟨m,n,o,p,q,r,s,t,u,v,w,x⟩
abbrev fL_ (f:Nat→Int):List Value:=[f 0,f 1,f 2,f 3,f 4,f 5,f 6,f 7,f 8,f 9,f 10,f 11,f 12,f 13,f 14,f 15,f 16,f 17,f 18,f 19,f 20,f 21,f 22,f 23,f 24,f 25]
abbrev fA_ (f:Nat→Int):Array Value:=#[f 0,f 1,f 2,f 3,f 4,f 5,f 6,f 7,f 8,f 9,f 10,f 11,f 12,f 13,f 14,f 15,f 16,f 17,f 18,f 19,f 20,f 21,f 22,f 23,f 24,f 25]
theorem CI.same (h:CI lo hi w b o) (s:aM lo hi w w'):CI lo hi w' b o:=by
 obtain ⟨h1,h2,⟨x,h3⟩,h4⟩:=h;exact ⟨h1,h2,⟨x,(s.cell h1 h2).trans h3⟩,(s.frozen h1 h2).trans h4⟩
theorem CS.same (h:CS lo hi w b o) (s:aM lo hi w w'):CS lo hi w' b o:=by
 obtain ⟨h1,h2,⟨x,h3⟩,h4⟩:=h;exact ⟨h1,h2,⟨x,(s.cell h1 h2).trans h3⟩,(s.frozen h1 h2).trans h4⟩
theorem CI.wide (h:CI lo hi w b o) (h1:lo'<=lo) (h2:hi<=hi'):CI lo' hi' w b o:=⟨aQ5 h1 h.1,aSf h.2.1 h2,h.2.2⟩
theorem CS.wide (h:CS lo hi w b o) (h1:lo'<=lo) (h2:hi<=hi'):CS lo' hi' w b o:=⟨aQ5 h1 h.1,aSf h.2.1 h2,h.2.2⟩
theorem kJ.same (h:kJ lo hi w v n) (s:aM lo hi w w'):kJ lo hi w' v n:=by
 obtain ⟨a,cap,h1,h2,h3,h4⟩:=h;exact ⟨a,cap,h1,h2,h3,fun i hi=>by obtain ⟨b,h0,e,hc⟩:=h4 i hi;exact ⟨b,h0,e,hc.same s⟩⟩
theorem kJ.wide (h:kJ lo hi w v n) (h1:lo'<=lo) (h2:hi<=hi'):kJ lo' hi' w v n:=by
 obtain ⟨a,cap,g1,g2,g3,h4⟩:=h;exact ⟨a,cap,g1,g2,g3,fun i hi=>by obtain ⟨b,h0,e,hc⟩:=h4 i hi;exact ⟨b,h0,e,hc.wide h1 h2⟩⟩
theorem aB.intsM {xs:List Int} (h:aB lo w v xs):kJ lo w.heap.size w v xs.length:=by
 obtain ⟨a,cap,rfl,_⟩:=h.form;obtain ⟨a',h0,e,g2,g3,_⟩:=h.ints;simp only [Value.slice.injEq,true_and] at e;obtain ⟨rfl,rfl⟩:=e;refine ⟨a,cap,rfl,g2,by unfold maxLen at g3;omega,fun i hi=>?_⟩;obtain ⟨g,y,rfl,l1,l2,_,hc,hf,_⟩:=h.at rfl hi;exact ⟨g,0,rfl,l1,l2,⟨y,by rw [aRt];exact hc⟩,by rw [aRt];exact hf⟩
theorem tR.same (h:tR lo hi w v n) (s:aM lo hi w w'):tR lo hi w' v n:=by
 obtain ⟨a,cap,h1,h2,h3,h4⟩:=h;refine ⟨a,cap,h1,h2,h3,fun i hi=>?_⟩;obtain ⟨b,h0,a',m,c',e,k0,k1,k2,k3,k4,k5⟩:=h4 i hi;exact ⟨b,h0,a',m,c',e,k0.same s,k1.same s,k2.same s,(s.cell k0.1 k0.2.1).trans k3,k4,k5.same s⟩
theorem tR.wide (h:tR lo hi w v n) (h1:lo'<=lo) (h2:hi<=hi'):tR lo' hi' w v n:=by
 obtain ⟨a,cap,g1,g2,g3,h4⟩:=h;refine ⟨a,cap,g1,g2,g3,fun i hi=>?_⟩;obtain ⟨b,h0,a',m,c',e,k0,k1,k2,k3,k4,k5⟩:=h4 i hi;exact ⟨b,h0,a',m,c',e,k0.wide h1 h2,k1.wide h1 h2,k2.wide h1 h2,k3,k4,k5.wide h1 h2⟩
theorem mD.same (h:mD lo hi w v n) (s:aM lo hi w w'):mD lo hi w' v n:=by
 obtain ⟨a,cap,h1,h2,h3,h4⟩:=h;exact ⟨a,cap,h1,h2,h3,fun i hi=>by obtain ⟨b,h0,e,k0,k1⟩:=h4 i hi;exact ⟨b,h0,e,k0.same s,k1.same s⟩⟩
theorem mD.wide (h:mD lo hi w v n) (h1:lo'<=lo) (h2:hi<=hi'):mD lo' hi' w v n:=by
 obtain ⟨a,cap,g1,g2,g3,h4⟩:=h;exact ⟨a,cap,g1,g2,g3,fun i hi=>by obtain ⟨b,h0,e,k0,k1⟩:=h4 i hi;exact ⟨b,h0,e,k0.wide h1 h2,k1.wide h1 h2⟩⟩
def pQ (lo hi:Nat) (w:World) (v:Value) (xs:List Nd):Prop:=Nds lo hi w v xs/\tR lo hi w v xs.length
def mE (lo hi:Nat) (w:World) (v:Value) (xs:List Asg):Prop:=nH lo hi w v xs/\mD lo hi w v xs.length
theorem pQ.same {xs:List Nd} (h:pQ lo hi w v xs) (s:aM lo hi w w'):pQ lo hi w' v xs:=⟨h.1.same s,h.2.same s⟩
theorem mE.same {xs:List Asg} (h:mE lo hi w v xs) (s:aM lo hi w w'):mE lo hi w' v xs:=⟨h.1.same s,h.2.same s⟩
theorem pQ.ext {xs:List Nd} (h:pQ lo hi w v xs) (hh:hi<=w.heap.size) (e:Ext w w'):pQ lo hi w' v xs:=h.same (e.same hh)
theorem pQ.wide {xs:List Nd} (h:pQ lo hi w v xs) (h1:lo'<=lo) (h2:hi<=hi'):pQ lo' hi' w v xs:=⟨h.1.wide h1 h2,h.2.wide h1 h2⟩
theorem mE.wide {xs:List Asg} (h:mE lo hi w v xs) (h1:lo'<=lo) (h2:hi<=hi'):mE lo' hi' w v xs:=⟨h.1.wide h1 h2,h.2.wide h1 h2⟩
theorem pQ.setLow {xs:List Nd} (h:pQ lo hi w v xs) {p:Addr} (hp:p.block<lo) (x:Value):pQ lo hi (w.setCell p x) v xs:=h.same (fun k h1 _=>aQ7 _ _ _ _ (by omega))
theorem mE.setLow {xs:List Asg} (h:mE lo hi w v xs) {p:Addr} (hp:p.block<lo) (x:Value):mE lo hi (w.setCell p x) v xs:=h.same (fun k h1 _=>aQ7 _ _ _ _ (by omega))
def Prg.B (p:Prg) (lo hi:Nat) (w:World) (v:Value):Prop:=∃iu lu,v = .agg #[iu,lu]/\pQ lo hi w iu p.ns/\mE lo hi w lu p.gs
theorem Prg.B.R {p:Prg} (h:p.B lo hi w v):p.R lo hi w v:=by
 obtain ⟨iu,lu,rfl,h1,h2⟩:=h;exact ⟨iu,lu,rfl,h1.1,h2.1⟩
theorem Prg.B.same {p:Prg} (h:p.B lo hi w v) (s:aM lo hi w w'):p.B lo hi w' v:=by
 obtain ⟨iu,lu,rfl,h1,h2⟩:=h;exact ⟨iu,lu,rfl,h1.same s,h2.same s⟩
theorem Prg.B.wide {p:Prg} (h:p.B lo hi w v) (h1:lo'<=lo) (h2:hi<=hi'):p.B lo' hi' w v:=by
 obtain ⟨iu,lu,rfl,g1,g2⟩:=h;exact ⟨iu,lu,rfl,g1.wide h1 h2,g2.wide h1 h2⟩
theorem aEw (lo hi:Nat) (op:Int) (s:ByteArray) (n:Int) (u:Value) (r:List Int) (w:World) (hu:aU lo hi w u r) (hh:hi<=w.heap.size) (hsz:r.length<=1048576) :
  Calls aQ2 180 #[.agg #[op,.string s,n,u]] w fun e w'=>∃a c,e = .returned (.agg #[op,.string s,n,.slice a r.length c])/\aB w.heap.size w' (.slice a r.length c) r/\Ext w w':=by
 have HU:=hid hu;clear hu;go_enter func180,ntmps180;go_wp2_with fail;refine (vM lo hi u r _ (HU.out.ext hh S_) (by simp;omega) hsz).mono ?_;rintro e w1 ⟨v1,rfl,hO,x1⟩;obtain ⟨a,c,rfl,_⟩:=hO.form;have h2:=x1.size;simp only [aQy,aSg] at h2;have h1:=(Bx.madeAt (B:=w.heap.size+1+1) ((w.alloc (.cells #[op,.string s,n,u] 237)).alloc (.cells #[(),.string ⟨#[]⟩,(),.slice none 0 0] 197)) #[op,.string s,n,.slice none 0 0] 197 (by simp)).ext x1;have h0:=((Bx.madeAt (B:=w.heap.size+1) (w.alloc (.cells #[op,.string s,n,u] 237)) #[(),.string ⟨#[]⟩,(),.slice none 0 0] 197 (by simp)).ext ((aQ6 _).alloc (.cells #[op,.string s,n,.slice none 0 0] 197))).ext x1;have X0:Ext w (((w.alloc (.cells #[op,.string s,n,u] 237)).alloc (.cells #[(),.string ⟨#[]⟩,(),.slice none 0 0] 197)).alloc (.cells #[op,.string s,n,.slice none 0 0] 197)):=S_;obtain ⟨X1,HO⟩:=h2_ (X0.trans x1) hO;clear x1 hO X0;have q:=h1.lt;obtain ⟨q0,q1,q2,q3⟩:=h1.q4;have h7:=h1.frozen 0;have h8:=h1.frozen 1;have h9:=h1.frozen 2;have q5:=h1.frozen 3;have d:=h0.lt;obtain ⟨d0,d1,d2,d3⟩:=h0.q4;have h3:=h0.frozen 0;have h4:=h0.frozen 1;have h5:=h0.frozen 2;have h6:=h0.frozen 3;clear h0 h1;go_wp2;refine bodyPost_ret (v:=.agg #[op,.string s,n,.slice a r.length c]) (by simp [results,results180,go_sem, *]) rfl ⟨a,c,rfl,?_,?_⟩
 ·have h:=HO.out
  simp only [aQy,aSg] at h ⊢;refine aB.low ?_ (Nat.le_add_right _ 3)
  repeat (with_reducible refine aB.setLow ?_ (by simp <;> omega) _)
  exact h
 ·have hX:=X1.out
  exact S_
theorem aCt (lo hi:Nat) (u:Value) (xs:List Nd) (w:World) (hu:Nds lo hi w u xs) (hh:hi<=w.heap.size) (hsz:xs.length<=1048576) (hsa:∀x∈xs,x.args.length<=1048576) :
  Calls aQ2 126 #[u] w fun e w'=>e = .returned (.slice (some ⟨w.heap.size,0,none⟩) xs.length xs.length)/\pQ w.heap.size w'.heap.size w' (.slice (some ⟨w.heap.size,0,none⟩) xs.length xs.length) xs/\w.heap.size<w'.heap.size/\Ext w w':=by
 obtain ⟨i0,q2,q5,q6,q7⟩:=info_parts aMo;obtain ⟨a,cap,rfl,HU⟩:=hu.open;clear hu;have x6:=HU.cap;have z5:=HU.le;have HS:=hid hsa;clear hsa;go_enter func126,ntmps126;go_wp2_with (at_make;refine wpList_make_full _ rfl _ _ 116 rfl w.heap.size 197 i0 _ 4 underlying116 q2 q5 q6 _ _ _ _ xs.length rfl rfl rfl rfl (by rw [q7];omega) (by unfold maxLen;omega) (aQv _) ?_);intro w1 h9 h4;have hx:Ext w w1:=(aQ6 w).grown h4 (fun k h=>by cases h);have h1:=hid (show w1.rowIs w.heap.size 197 (xs.length*4) (eV (ndC xs (fun _=>.slice none 0 0)) ndZ 0) from aTa (kW (aMp _) h9) (fun i _=>by unfold eV;simp));clear h9 h4 q2 q5 q6 q7;go_wp2
 go_loopw [4] (fun i wr=>∃(k:Nat) (us:Nat->Value),k<=xs.length/\i = .int .i64 k/\Ext w wr/\wr.rowIs w.heap.size 197 (xs.length*4) (eV (ndC xs us) ndZ (k*4))/\∀j x,j<k->xs[j]?=some x->aB (w.heap.size+1) wr (us j) x.args) (fun i _=>xs.length - (intOf i).toNat)
 case atStart=>exact ⟨0,_,by omega,rfl,hx,by simpa using h1.out,fun j x hj=>by omega⟩
 case round=>
  clear hx h1;obtain ⟨k,us,hk,rfl,hx,h1,h3⟩:=hrel
  by_cases q4:k<xs.length
  ·obtain ⟨b,z7,op,s,n,ua,ra,rfl,x9,z4,h7,h5,io,z6,q3,x0,x1,x2,x3⟩:=HU.at q4 hx hh
   have x5:=hid (aB6 (us:=fun j=>if j=k then ua else us j) h5);obtain ⟨z0,z1,z2,z3⟩:=aOg k;have x7:=eQ (k:=4) (j:=3) q4 (by decide);obtain ⟨HX,HR,HI,HA,HG⟩:=h5_ hx h1 q3 h3 h5;have zx:=hx.size;have zr:=aTk h1;clear h7 h5 hx h1 q3 h3;go_wp2_with fail;refine (aEw lo hi op s n ua ra _ HI.out (by omega) (HS.out _ (aRn HG.out))).mono ?_;rintro e w2 ⟨a2,c2,rfl,hN,h2⟩;have hR:w2.rowIs w.heap.size 197 (xs.length*4) (eV (ndC xs us) ndZ (k*4)):=aUj HR.out (h2.block zr);obtain ⟨hX,zz,q0,d0,g0,d1,g1,d2⟩:=m8_ (HX.out.trans h2) h2.size (hid (aB6 (us:=fun j=>if j=k then .slice a2 ra.length c2 else us j) HG.out)) (aSr hR (i:=k*4) (by omega)) (aS2 hR (k*4)) (aSr hR (i:=k*4+1) (by omega)) (aS2 hR (k*4+1)) (aSr hR (i:=k*4+2) (by omega));have g2:=aS2 hR (k*4+2);have d3:=aSr hR (i:=k*4+3) (by omega);have g3:=aS2 hR (k*4+3);unfold eV at d0 d1 d2 d3;rw [if_neg (by omega)] at d0 d1 d2 d3;rw [z0] at d0;rw [z1] at d1;rw [z2] at d2;rw [z3] at d3;have x4:=hid hX
   have q1:w2.rowIs w.heap.size 197 (xs.length*4) (eV (ndC xs (fun j=>if j=k then .slice a2 ra.length c2 else us j)) ndZ (k*4)):=aTa hR (fun i _=>by
    unfold eV
    by_cases hi:i<k*4
    ·rw [if_pos hi,if_pos hi,aMn (k:=k) (u:=.slice a2 ra.length c2) i hi]
    ·rw [if_neg hi,if_neg hi])
   obtain ⟨q9,HN⟩:=h2_ q1 hN;have q8:Hid (∀j x,j<k->xs[j]?=some x->aB (w.heap.size+1) w2 (us j) x.args):=hid (fun j x hj h6=>(HA.out j x hj h6).ext h2);clear HX HR h2 hX hR q1 z0 z1 z2 z3 x0 x1 x2 x3 hN HA x5;go_wp2;go_roundw
   case rel=>
    refine ⟨k+1,fun j=>if j=k then .slice a2 ra.length c2 else us j,by omega,by go_num,?_,?_,?_⟩
    ·have hX:=x4.out
     exact S_
    ·rw [aTf,aTh]
     obtain ⟨e0,e1,e2,e3⟩:=q0.out;refine fL (fL (fL (fL (q9.out) rfl e0.symm) rfl e1.symm) rfl e2.symm) rfl ?_;rw [e3];simp
    ·intro j x hj h6
     simp only [aSg]
     repeat (with_reducible refine aB.setLow ?_ (by simp <;> omega) _)
     by_cases e:j=k
     ·subst e
      rw [HG.out] at h6;injection h6 with h6;subst h6;simp only [if_pos rfl];exact HN.out.low (by omega)
     ·simp only [if_neg e]
      exact q8.out j x (by omega) h6
   case measure=>simp [intOf];omega
  ·obtain rfl:k=xs.length:=by omega
   obtain ⟨HR,HA,HX⟩:=h3_ h1 h3 hx;clear h1 h3 hx;go_wp2;go_ret;have hR:=HR.out;have h8:=aTk hR
   have h0:∀q,q<xs.length*4->wr.cell? ⟨w.heap.size,0+q,none⟩=some (ndC xs us q):=fun q hq=>by
    rw [aRt,aSr hR hq];unfold eV;rw [if_pos hq]
   refine ⟨rfl,⟨⟨_,_,rfl,aQv _,by unfold maxLen;omega,fun i x hx=>?_⟩,⟨_,_,rfl,aQv _,by omega,fun i hi=>?_⟩⟩,h8,HX.out⟩
   ·obtain ⟨e0,e1,e2,e3⟩:=aB6 (us:=us) hx
    have hi:=(aQz.1 hx).1;have hl:=eQ (k:=4) (j:=3) hi (by decide);have x8:=(HU.cell i x hx).1;refine ⟨x8,w.heap.size,0,us i,rfl,aQv _,h8,?_,?_,?_,?_,(HA.out i x hi hx).ints.wide (by omega) (aQv _)⟩
    ·rw [h0 _ (by omega),e0]
    ·rw [aSp,h0 _ (by omega),e1]
    ·rw [aSp,h0 _ (by omega),e2]
    ·rw [aSp,h0 _ (by omega),e3]
   ·have hx:xs[i]?=some xs[i]:=aQ9 hi
    obtain ⟨e0,e1,e2,e3⟩:=aB6 (us:=us) hx;have hl:=eQ (k:=4) (j:=3) hi (by decide);have hO:=HA.out i _ hi hx;obtain ⟨ua,uc,hu,_⟩:=hO.form;have hM:=hO.intsM;rw [hu] at hM;have fz:∀q,wr.frozen? ⟨w.heap.size,q,none⟩=false:=fun q=>aS2 hR q;refine ⟨w.heap.size,0,ua,_,uc,rfl,⟨aQv _,h8,⟨xs[i].op,?_⟩,fz _⟩,⟨aQv _,h8,⟨xs[i].name,?_⟩,fz _⟩,⟨aQv _,h8,⟨xs[i].num,?_⟩,fz _⟩,?_,HS.out _ (aRh hi),hM.wide (by omega) (aQv _)⟩
    ·rw [h0 _ (by omega),e0]
    ·rw [aSp,h0 _ (by omega),e1]
    ·rw [aSp,h0 _ (by omega),e2]
    ·rw [aSp,h0 _ (by omega),e3,hu]
theorem aEx (lo hi:Nat) (u:Value) (xs:List Asg) (w:World) (hu:nH lo hi w u xs) (hh:hi<=w.heap.size) (hsz:xs.length<=1048576) :
  Calls aQ2 127 #[u] w fun e w'=>e = .returned (.slice (some ⟨w.heap.size,0,none⟩) xs.length xs.length)/\mE w.heap.size w'.heap.size w' (.slice (some ⟨w.heap.size,0,none⟩) xs.length xs.length) xs/\w.heap.size<w'.heap.size/\Ext w w':=by
 obtain ⟨i0,h8,q0,q1,q2⟩:=info_parts aMq;obtain ⟨a,cap,rfl,HU⟩:=hu.open;clear hu;have q6:=HU.cap;have x2:=HU.le;go_enter func127,ntmps127;go_wp2_with (at_make;refine wpList_make_full _ rfl _ _ 117 rfl w.heap.size 200 i0 _ 2 underlying117 h8 q0 q1 _ _ _ _ xs.length rfl rfl rfl rfl (by rw [q2];omega) (by unfold maxLen;omega) (aQv _) ?_);intro w1 h6 h3;have hx:Ext w w1:=(aQ6 w).grown h3 (fun k h=>by cases h);have h1:=hid (show w1.rowIs w.heap.size 200 (xs.length*2) (eV (agC xs) agZ 0) from aTa (kW (aMr _) h6) (fun i _=>by unfold eV;simp));clear h6 h3 h8 q0 q1 q2;go_wp2
 go_loopw [4] (fun i wr=>∃k:Nat,k<=xs.length/\i = .int .i64 k/\Ext w wr/\wr.rowIs w.heap.size 200 (xs.length*2) (eV (agC xs) agZ (k*2))) (fun i _=>xs.length - (intOf i).toNat)
 case atStart=>exact ⟨0,by omega,rfl,hx,by simpa using h1.out⟩
 case round=>
  clear hx h1;obtain ⟨k,hk,rfl,hx,h1⟩:=hrel
  by_cases h9:k<xs.length
  ·obtain ⟨b,x3,s,n,rfl,q8,q9,h4,h5,io,x0,x1⟩:=HU.at h9 hx hh
   have q5:=hid (aF9 h5);obtain ⟨z0,z1⟩:=aOh k;have q7:=eQ (k:=2) (j:=1) h9 (by decide);obtain ⟨HX,HR⟩:=h2_ hx h1;clear h4 h5 hx h1;go_wp2_with fail;refine r_ (aI8 s n _) fun w2 h2=>?_;have hR:w2.rowIs w.heap.size 200 (xs.length*2) (eV (agC xs) agZ (k*2)):=aUj HR (h2.block (aTk HR));have hX:=HX.trans h2;have d0:=aSr hR (i:=k*2) (by omega);have g0:=aS2 hR (k*2);have d1:=aSr hR (i:=k*2+1) (by omega);have g1:=aS2 hR (k*2+1);unfold eV at d0 d1;rw [if_neg (by omega)] at d0 d1;rw [z0] at d0;rw [z1] at d1;obtain ⟨q4,q3⟩:=h2_ hX hR;clear HX HR h2 hX hR z0 z1 x0 x1;go_wp2;go_roundw
   case rel=>
    refine ⟨k+1,by omega,by go_num,?_,?_⟩
    ·have hX:=q4.out
     exact S_
    ·rw [aTf,aTh]
     obtain ⟨e0,e1⟩:=q5.out;exact fL (fL (q3) rfl e0.symm) rfl e1.symm
   case measure=>simp [intOf];omega
  ·obtain rfl:k=xs.length:=by omega
   obtain ⟨HR,HX⟩:=h2_ h1 hx;clear h1 hx;go_wp2;go_ret;have hR:=HR.out;have h7:=aTk hR
   have h0:∀q,q<xs.length*2->wr.cell? ⟨w.heap.size,0+q,none⟩=some (agC xs q):=fun q hq=>by
    rw [aRt,aSr hR hq];unfold eV;rw [if_pos hq]
   refine ⟨rfl,⟨⟨_,_,rfl,aQv _,by unfold maxLen;omega,fun i x hx=>?_⟩,⟨_,_,rfl,aQv _,by omega,fun i hi=>?_⟩⟩,h7,HX⟩
   ·obtain ⟨e0,e1⟩:=aF9 hx
    have hi:=(aQz.1 hx).1;have hl:=eQ (k:=2) (j:=1) hi (by decide);refine ⟨(HU.cell i x hx).1,w.heap.size,0,rfl,aQv _,h7,?_,?_⟩
    ·rw [h0 _ (by omega),e0]
    ·rw [aSp,h0 _ (by omega),e1]
   ·have hx:xs[i]?=some xs[i]:=aQ9 hi
    obtain ⟨e0,e1⟩:=aF9 hx;have hl:=eQ (k:=2) (j:=1) hi (by decide);have fz:∀q,wr.frozen? ⟨w.heap.size,q,none⟩=false:=fun q=>aS2 hR q;refine ⟨w.heap.size,0,rfl,⟨aQv _,h7,⟨xs[i].name,?_⟩,fz _⟩,⟨aQv _,h7,⟨xs[i].root,?_⟩,fz _⟩⟩
    ·rw [h0 _ (by omega),e0]
    ·rw [aSp,h0 _ (by omega),e1]
theorem yE (lo hi:Nat) (v:Value) (p:Prg) (w:World) (hv:p.R lo hi w v) (hh:hi<=w.heap.size) (hsz:p.small) :
  Calls aQ2 79 #[v] w fun e w'=>∃v',e = .returned v'/\p.B w.heap.size w'.heap.size w' v'/\Ext w w':=by
 obtain ⟨iu,lu,rfl,q3,q4⟩:=hv;obtain ⟨HI,HL⟩:=h2_ q3 q4;clear q3 q4;obtain ⟨⟨z1,z1'⟩,z2⟩:=hsz;have HZ:=hid z1';clear z1';have x0:Ext w (((w.alloc (.cells #[iu,lu] 113)).alloc (.cells #[.slice none 0 0,.slice none 0 0] 119)).alloc (.cells #[.slice none 0 0,.slice none 0 0] 119)):=X_;have bA:=((Bx.made w #[iu,lu] 113).ext ((aQ6 _).alloc (.cells #[.slice none 0 0,.slice none 0 0] 119))).ext ((aQ6 _).alloc (.cells #[.slice none 0 0,.slice none 0 0] 119));have bB:=(Bx.madeAt (B:=w.heap.size+1) (w.alloc (.cells #[iu,lu] 113)) #[.slice none 0 0,.slice none 0 0] 119 (by simp)).ext ((aQ6 _).alloc (.cells #[.slice none 0 0,.slice none 0 0] 119));have bC:=Bx.madeAt (B:=w.heap.size+1+1) ((w.alloc (.cells #[iu,lu] 113)).alloc (.cells #[.slice none 0 0,.slice none 0 0] 119)) #[.slice none 0 0,.slice none 0 0] 119 (by simp);go_enter func79,ntmps79;go_wp2_with fail;refine (aCt lo hi _ p.ns _ (HI.out.ext hh x0) (aQ5 hh x0.size) z1 HZ.out).mono ?_;rintro e w1 ⟨rfl,hR,h5,x1⟩;simp only [aQy] at hR h5;have h4:=bA.ext x1;have h9:=bB.ext x1;have h0:=bC.ext x1;have x5:=x1.size;simp only [aQy] at x5;obtain ⟨h8,h7⟩:=h2_ (x0.trans x1) hR;clear bA bB bC x0 x1 hR;have y:=h4.lt;obtain ⟨y0,y1⟩:=h4.q2;have q:=h0.lt;obtain ⟨q0,q1⟩:=h0.q2;have q6:=h0.frozen 0;have q7:=h0.frozen 1;obtain ⟨x3,x4,X2,q8⟩:=h4_ (h9.other (p:=⟨w.heap.size+1+1,0,none⟩) (by simp) (.slice (some ⟨w.heap.size+1+1+1,0,none⟩) p.ns.length p.ns.length)) (h0.set 0 (.slice (some ⟨w.heap.size+1+1+1,0,none⟩) p.ns.length p.ns.length)) (h8.out.setCell (p:=⟨w.heap.size+1+1,0,none⟩) (by simp;omega) (.slice (some ⟨w.heap.size+1+1+1,0,none⟩) p.ns.length p.ns.length)) (h7.out.same (w':=w1.setCell ⟨w.heap.size+1+1,0,none⟩ (.slice (some ⟨w.heap.size+1+1+1,0,none⟩) p.ns.length p.ns.length)) (fun k h1 _=>aQ7 _ _ _ _ (by simp;omega)));clear h4 h9 h0 h8 h7;go_wp2_with fail;refine (aEx lo hi _ p.gs _ (HL.out.ext hh X2.out) (by simp;omega) z2).mono ?_;rintro e w2 ⟨rfl,hO,h6,x2⟩;have h2:=x3.out.ext x2;have h3:=(x4.out.ext x2).same (cs':=#[.slice (some ⟨w.heap.size+1+1+1,0,none⟩) p.ns.length p.ns.length,.slice none 0 0]) rfl;have q5:=x2.size;simp only [aSg] at q5 hO h6;obtain ⟨X3,q9,HO⟩:=h3_ (X2.out.trans x2) (q8.out.ext (by simp) x2) hO;clear y y0 y1 q q0 q1 q6 q7 x2 hO;have q:=h3.lt;obtain ⟨q0,q1⟩:=h3.q2;have q6:=h3.frozen 0;have q7:=h3.frozen 1;have d:=h2.lt;obtain ⟨d0,d1⟩:=h2.q2;have x6:=h2.frozen 0;have x7:=h2.frozen 1;clear h2 h3;go_wp2;refine bodyPost_ret (v:=.agg #[.slice (some ⟨w.heap.size+1+1+1,0,none⟩) p.ns.length p.ns.length,.slice (some ⟨w1.heap.size,0,none⟩) p.gs.length p.gs.length]) (by simp [results,results79,go_sem, *]) rfl ⟨_,rfl,⟨_,_,rfl,?_,?_⟩,?_⟩
 ·have h:=q9.out
  simp only [aSg];refine pQ.wide ?_ (Nat.le_add_right _ 3) q5
  repeat (with_reducible refine pQ.setLow ?_ (by simp <;> omega) _)
  exact h
 ·have h:=HO.out
  simp only [aSg];refine mE.wide ?_ (show w.heap.size<=w1.heap.size by omega) (aQv _)
  repeat (with_reducible refine mE.setLow ?_ (by simp <;> omega) _)
  exact h
 ·have hX:=X3.out
  exact S_
theorem Prg.B.form {p:Prg} (h:p.B lo hi w v):∃a1 c1 a2 c2,v = .agg #[.slice a1 p.ns.length c1,.slice a2 p.gs.length c2]/\tR lo hi w (.slice a1 p.ns.length c1) p.ns.length/\mD lo hi w (.slice a2 p.gs.length c2) p.gs.length:=by
 obtain ⟨iu,lu,rfl,⟨h1,h2⟩,h3,h4⟩:=h;obtain ⟨a1,c1,rfl,_⟩:=h1.open;obtain ⟨a2,c2,rfl,_⟩:=h3.open;exact ⟨a1,c1,a2,c2,rfl,h2,h4⟩
def prC (us vs:Nat->Value) (i:Nat):Value:=if i % 2=0 then us (i / 2) else vs (i / 2)
def prZ (_:Nat):Value:=.slice none 0 0
theorem aG3 (us vs:Nat->Value) (k:Nat):prC us vs (k*2)=us k/\prC us vs (k*2+1)=vs k:=by
 refine ⟨?_,?_⟩
 ·unfold prC
  rw [if_pos (by omega),show k*2 / 2=k by omega]
 ·unfold prC
  rw [if_neg (by omega),show (k*2+1) / 2=k by omega]
theorem aNb {us vs:Nat->Value} {k:Nat} {u:Value}:∀i,i<k*2->prC us vs i=prC (fun j=>if j=k then u else us j) (fun j=>if j=k then v else vs j) i:=by
 intro i hi;unfold prC;simp only [if_neg (show ¬i / 2=k by omega)]
theorem aNc:(Tryz.prog.info? 119).map (fun i=>(i.zero,i.size,i.bytes))=some (some (.agg #[.slice none 0 0,.slice none 0 0]),2,48):=by kernel_rfl
theorem aNd (n:Nat):∀i,i<n->(madeCells #[.slice none 0 0,.slice none 0 0] n)[i]?=some (prZ i):=by
 intro i hi;unfold prZ;have:i % 2<2:=aTp _ (by decide)
 rcases (show i % 2=0\/i % 2=1 by omega) with e|e <;> simp [madeCells,hi,e]
theorem nG.same (h:nG lo hi w v n) (s:aM lo hi w w'):nG lo hi w' v n:=by
 obtain ⟨a,cap,h1,h2,h3,h4⟩:=h;refine ⟨a,cap,h1,h2,h3,fun i hi=>?_⟩;obtain ⟨b,h0,a1,m1,c1,a2,m2,c2,e,l1,l2,k1,k2,z1,z2,k3,k4⟩:=h4 i hi;exact ⟨b,h0,a1,m1,c1,a2,m2,c2,e,l1,l2,(s.cell l1 l2).trans k1,(s.cell l1 l2).trans k2,z1,z2,k3.same s,k4.same s⟩
theorem nG.wide (h:nG lo hi w v n) (h1:lo'<=lo) (h2:hi<=hi'):nG lo' hi' w v n:=by
 obtain ⟨a,cap,g1,g2,g3,h4⟩:=h;refine ⟨a,cap,g1,g2,g3,fun i hi=>?_⟩;obtain ⟨b,h0,a1,m1,c1,a2,m2,c2,e,l1,l2,k1,k2,z1,z2,k3,k4⟩:=h4 i hi;exact ⟨b,h0,a1,m1,c1,a2,m2,c2,e,by omega,by omega,k1,k2,z1,z2,k3.wide h1 h2,k4.wide h1 h2⟩
theorem gL.wide {ps:List Prg} (h:gL lo hi w v ps) (h1:lo'<=lo) (h2:hi<=hi'):gL lo' hi' w v ps:=by
 obtain ⟨a,cap,g1,g2,g3,h4⟩:=h;refine ⟨a,cap,g1,g2,g3,fun k p hk=>?_⟩;obtain ⟨b,h0,u1,u2,e1,e2,e3,e4,e5,iu,lu,e6,e7,e8⟩:=h4 k p hk;exact ⟨b,h0,u1,u2,e1,by omega,by omega,e4,e5,iu,lu,e6,e7.wide h1 h2,e8.wide h1 h2⟩
theorem yF (lo hi:Nat) (u:Value) (ps:List Prg) (w:World) (hu:gL lo hi w u ps) (hh:hi<=w.heap.size) (hsz:ps.length<=1048576) (hsm:∀p∈ps,p.small) :
  Calls aQ2 38 #[u] w fun e w'=>e = .returned (.slice (some ⟨w.heap.size,0,none⟩) ps.length ps.length)/\(gL w.heap.size w'.heap.size w' (.slice (some ⟨w.heap.size,0,none⟩) ps.length ps.length) ps/\nG w.heap.size w'.heap.size w' (.slice (some ⟨w.heap.size,0,none⟩) ps.length ps.length) ps.length)/\w.heap.size<w'.heap.size/\Ext w w':=by
 obtain ⟨i0,q4,q5,q6,q7⟩:=info_parts aNc;obtain ⟨a,cap,rfl,HU⟩:=hu.open;clear hu;have x4:=HU.cap;have x8:=HU.le;obtain ⟨HS,x2⟩:=h2_ hsm HU;clear hsm;go_enter func38,ntmps38;go_wp2_with (at_make;refine wpList_make_full _ rfl _ _ 37 rfl w.heap.size 119 i0 _ 2 underlying37 q4 q5 q6 _ _ _ _ ps.length rfl rfl rfl rfl (by rw [q7];omega) (by unfold maxLen;omega) (aQv _) ?_);intro w1 h9 h6;have hx:Ext w w1:=(aQ6 w).grown h6 (fun k h=>by cases h);have h3:=hid (show w1.rowIs w.heap.size 119 (ps.length*2) (eV (prC (fun _=>.slice none 0 0) (fun _=>.slice none 0 0)) prZ 0) from aTa (kW (aNd _) h9) (fun i _=>by unfold eV;simp));clear h9 h6 q4 q5 q6 q7 HU;go_wp2
 go_loopw [4] (fun i wr=>∃(k:Nat) (us vs:Nat->Value),k<=ps.length/\i = .int .i64 k/\Ext w wr/\wr.rowIs w.heap.size 119 (ps.length*2) (eV (prC us vs) prZ (k*2))/\∀j p,j<k->ps[j]?=some p->p.B (w.heap.size+1) wr.heap.size wr (.agg #[us j,vs j])) (fun i _=>ps.length - (intOf i).toNat)
 case atStart=>exact ⟨0,_,_,by omega,rfl,hx,by simpa using h3.out,fun j x hj=>by omega⟩
 case round=>
  clear hx h3;obtain ⟨k,us,vs,hk,rfl,hx,h3,h5⟩:=hrel
  by_cases h4:k<ps.length
  ·obtain ⟨b,x9,e1,d1,e2,d2,rfl,x7,x6,x0,x1,hR⟩:=x2.at h4 hx hh
   have h8:ps[k]?=some ps[k]:=aQ9 h4;have x5:=eQ (k:=2) (j:=1) h4 (by decide);obtain ⟨HX,HR,HP,HA,HG⟩:=h5_ hx h3 hR h5 h8;have zx:=hx.size;have zr:=aTk h3;clear h8 hx h3 h5 hR;go_wp2_with fail;refine (yE lo hi _ ps[k] _ HP (by omega) (HS _ (aRh h4))).mono ?_;rintro e w2 ⟨v2,rfl,hN,h2⟩;obtain ⟨a1,c1,a2,c2,rfl,_⟩:=hN.form;have hR:w2.rowIs w.heap.size 119 (ps.length*2) (eV (prC us vs) prZ (k*2)):=aUj HR (h2.block zr);have hX:=HX.trans h2;have zz:=h2.size;have q1:=hid (aG3 (fun j=>if j=k then .slice a1 (ps[k]'h4).ns.length c1 else us j) (fun j=>if j=k then .slice a2 (ps[k]'h4).gs.length c2 else vs j) k);have d0:=aSr hR (i:=k*2) (by omega);have g0:=aS2 hR (k*2);have q0:=aSr hR (i:=k*2+1) (by omega);have g1:=aS2 hR (k*2+1);unfold eV at d0 q0;rw [if_neg (by omega)] at d0 q0;unfold prZ at d0 q0;have x3:=hid hX
   have q3:w2.rowIs w.heap.size 119 (ps.length*2) (eV (prC (fun j=>if j=k then .slice a1 (ps[k]'h4).ns.length c1 else us j) (fun j=>if j=k then .slice a2 (ps[k]'h4).gs.length c2 else vs j)) prZ (k*2)):=aTa hR (fun i _=>by
    unfold eV
    by_cases hi:i<k*2
    ·rw [if_pos hi,if_pos hi,aNb (k:=k) i hi]
    ·rw [if_neg hi,if_neg hi])
   obtain ⟨q9,HN,q8⟩:=h3_ q3 hN (show ∀j p,j<k->ps[j]?=some p->p.B (w.heap.size+1) w2.heap.size w2 (.agg #[us j,vs j]) from fun j p hj h7=>((HA j p hj h7).same (h2.same (aQv _))).wide (aQv _) zz);clear HX HR h2 hX hR q3 x0 x1 hN HA;go_wp2;go_roundw
   case rel=>
    refine ⟨k+1,fun j=>if j=k then .slice a1 (ps[k]'h4).ns.length c1 else us j,fun j=>if j=k then .slice a2 (ps[k]'h4).gs.length c2 else vs j,by omega,by go_num,?_,?_,?_⟩
    ·have hX:=x3.out
     exact S_
    ·rw [aTf,aTh]
     obtain ⟨e0,e1⟩:=q1.out;refine fL (fL q9 rfl ?_) rfl ?_
     ·rw [e0];simp
     ·rw [e1];simp
    ·intro j p hj h7
     simp only [aSg]
     have hs:∀W:World,∀u1 u2:Value,aM (w.heap.size+1) W.heap.size W ((W.setCell ⟨w.heap.size,k*2,none⟩ u1).setCell ⟨w.heap.size,k*2+1,none⟩ u2):=fun W u1 u2 q h1 _=>by
      rw [aQ7 _ _ _ _ (by simp;omega),aQ7 _ _ _ _ (by simp;omega)]
     by_cases e:j=k
     ·subst e
      rw [HG] at h7;injection h7 with h7;subst h7;simp only [if_pos rfl];exact (HN.wide (by omega) (aQv _)).same (hs _ _ _)
     ·simp only [if_neg e]
      exact (q8 j p (by omega) h7).same (hs _ _ _)
   case measure=>simp [intOf];omega
  ·obtain rfl:k=ps.length:=by omega
   obtain ⟨HR,HA,HX⟩:=h3_ h3 h5 hx;clear h3 h5 hx;go_wp2;go_ret;have hR:=HR.out;have q2:=aTk hR
   have h0:∀q,q<ps.length*2->wr.cell? ⟨w.heap.size,0+q,none⟩=some (prC us vs q):=fun q hq=>by
    rw [aRt,aSr hR hq];unfold eV;rw [if_pos hq]
   refine ⟨rfl,⟨⟨_,_,rfl,aQv _,by unfold maxLen;omega,fun i p hp=>?_⟩,⟨_,_,rfl,aQv _,by omega,fun i hi=>?_⟩⟩,q2,HX⟩
   ·obtain ⟨e0,e1⟩:=aG3 us vs i
    have hi:=(aQz.1 hp).1;have hl:=eQ (k:=2) (j:=1) hi (by decide);refine ⟨w.heap.size,0,us i,vs i,rfl,aQv _,q2,?_,?_,((HA i p hi hp).wide (by omega) (aQv _)).R⟩
    ·rw [h0 _ (by omega),e0]
    ·rw [aSp,h0 _ (by omega),e1]
   ·have hp:ps[i]?=some ps[i]:=aQ9 hi
    obtain ⟨e0,e1⟩:=aG3 us vs i;have hl:=eQ (k:=2) (j:=1) hi (by decide);have hB:=(HA i _ hi hp).wide (lo':=w.heap.size) (hi':=wr.heap.size) (by omega) (aQv _);obtain ⟨a1,c1,a2,c2,e,hN,hA⟩:=hB.form;simp only [Value.agg.injEq,Array.mk.injEq,List.cons.injEq,and_true] at e;have hs:=HS.out _ (aRh hi);refine ⟨w.heap.size,0,a1,_,c1,a2,_,c2,rfl,aQv _,q2,?_,?_,hs.1.1,hs.2,hN,hA⟩
    ·rw [h0 _ (by omega),e0,e.1]
    ·rw [aSp,h0 _ (by omega),e1,e.2]
theorem uX (lo hi lo' hi':Nat) (u v:Value) (ps:List Prg) (w:World) (hu:gL lo hi w u ps) (hv:gL lo' hi' w v ps) (hh:hi<=w.heap.size) (hh':hi'<=w.heap.size) :
  R_ 43 #[u,v] w (.bool true):=by
 obtain ⟨a,cap,rfl,HU⟩:=hu.open;obtain ⟨a',h5,rfl,HV⟩:=hv.open;clear hu hv;have h1:=HU.le;have h2:=HU.cap;have q3:=HV.le;have q4:=HV.cap;go_enter func43,ntmps43;go_wp2
 go_loopw [5] (fun i wr=>∃k:Nat,k<=ps.length/\i = .int .i64 k/\Ext w wr) (fun i _=>ps.length - (intOf i).toNat)
 case atStart=>exact ⟨0,by omega,rfl,X_⟩
 case round=>
  obtain ⟨k,hk,rfl,hx⟩:=hrel
  by_cases h0:k<ps.length
  ·obtain ⟨b,q7,e1,d1,e2,d2,rfl,q6,q5,x0,x1,hR⟩:=HU.at h0 hx hh
   obtain ⟨b',h8,q1,h9,q2,q0,rfl,h7,h6,q8,q9,h3⟩:=HV.at h0 hx hh';obtain ⟨HX,HI,h4⟩:=h3_ hx hR h3;have zx:=hx.size;clear hx hR h3;go_wp2;refine aA [([0,1,2,3,4,5,6,7],8),([],9)] 99 wr.heap.size (by kernel_rfl) (by kernel_rfl) ?_;refine st_ fun K hK=>?_;go_wp2_with fail;refine r_ (wX lo hi lo' hi' _ _ (ps[k]'h0) _ (HI.ext (by omega) X_) (by simp;omega) (h4.ext (by omega) X_) (by simp;omega)) fun w1 h1=>?_;have y1:Ext wr w1:=aQ3 X_ h1;go_wp2;refine k_ hK (st_ fun K hK=>?_);go_wp2;refine k_ hK (aC ?_);clear hK K;have hX:=HX.trans y1;clear h1 y1 HX;go_wp2;go_roundw
   case rel=>exact ⟨k+1,by omega,by go_num,hX⟩
   case measure=>simp [intOf];omega
  ·go_wp2
   go_ret;exact ⟨rfl,hx⟩
theorem yG (lo hi:Nat) (u:Value) (ps:List Prg) (left:Int) (w:World) (hu:gL lo hi w u ps) (hh:hi<=w.heap.size) (hb:∀p∈ps,p.bd) (h1:0<=left) (h2:left<=1048576) :
  Calls aQ2 33 #[u,left] w fun e w'=>(∃r,e = .returned (.int .i64 r)/\(r = -1\/(0<=r/\r<=left/\ps.length<=1048576/\∀p∈ps,p.small)))/\Ext w w':=by
 obtain ⟨a,cap,rfl,HU⟩:=hu.open;have h3:=HU.le;have h4:=HU.cap;have HB:=hid hb;clear hu hb
 by_cases hl:left - (ps.length:Int)<0
 ·go_enter func33,ntmps33
  go_wp2;go_ret;exact ⟨⟨_,rfl,.inl rfl⟩,S_⟩
 ·go_enter func33,ntmps33
  go_wp2
  go_loopw [1,5] (fun q i wr=>∃(k:Nat) (r:Int),k<=ps.length/\i = .int .i64 k/\q = .int .i64 r/\0<=r/\r<=left/\(∀j x,j<k->ps[j]?=some x->x.small)/\Ext w wr) (fun _ i _=>ps.length - (intOf i).toNat)
  case atStart=>exact ⟨0,_,by omega,rfl,rfl,by omega,by omega,fun j x hj=>by omega,S_⟩
  case round=>
   obtain ⟨k,r,hk,rfl,rfl,h7,h9,h0,hx⟩:=hrel
   by_cases h6:k<ps.length
   ·obtain ⟨b,q2,e1,d1,e2,d2,rfl,q1,q0,x0,x1,hR⟩:=HU.at h6 hx hh
    have h5:ps[k]?=some ps[k]:=aQ9 h6;obtain ⟨hz,HX,HI,HA,HG⟩:=h5_ (HB _ (aRh h6)) hx hR h0 h5;have zx:=hx.size;clear h5 hx hR h0;go_wp2_with fail;refine (yY lo hi _ (ps[k]'h6) r _ HI (by omega) hz.out h7 (by omega)).mono ?_;rintro e w1 ⟨⟨r2,rfl,hr3⟩,x3⟩;have X3:=HX.trans x3
    rcases hr3 with rfl|⟨hr3,hr4,hr5⟩
    ·go_wp2
     go_ret;exact ⟨⟨_,rfl,.inl rfl⟩,X3⟩
    ·have hn : ¬r2<0:=by omega
     have h8:=hid hr5;clear hr5;go_wp2;go_roundw
     case rel=>
      refine ⟨k+1,r2,by omega,by go_num,rfl,by omega,by omega,fun j x hj hx=>?_,X3⟩
      by_cases e:j=k
      ·subst e
       rw [HG] at hx;injection hx with hx;subst hx;exact h8
      ·exact HA j x (by omega) hx
     case measure=>simp [intOf];omega
   ·go_wp2
    go_ret;exact ⟨⟨_,rfl,.inr ⟨h7,h9,by omega,fun p hp=>by obtain ⟨i,hi,rfl⟩:=List.getElem_of_mem hp;exact h0 i _ (by omega) (aQ9 hi)⟩⟩,hx⟩
theorem Ext.setC {w0:World} (hb:w0.heap.size<=b):∀(vs:List Value) (o:Nat) {w:World},Ext w0 w->Ext w0 (w.setCells b o vs)
 | [],_,_,h=>h
 | _::r,_,_,h=>Ext.setC hb r _ (h.setCell hb _)
theorem Blk.setC {g:Nat} {cs:List Value} (ne:g≠b):∀(vs:List Value) (o:Nat) {w:World},Blk w g t cs->Blk (w.setCells b o vs) g t cs
 | [],_,_,h=>h
 | v::r,_,_,h=>Blk.setC ne r _ (h.other (a:=⟨b,_,none⟩) ne v)
theorem bE.stepN:∀(xs:List Int) (c:Nat) (w:World),bE w b t n (lI f c)->(∀j x,xs[j]?=some x->x=f (c+j))->bE (w.setCells b c (xs.map (Value.int .i64))) b t n (lI f (c+xs.length))
 | [],c,w,h,_=>h
 | x::r,c,w,h,hx=>by
  have h0:=h.step (i:=c) (x:=x) rfl (hx 0 x rfl);have h1:=bE.stepN r (c+1) _ h0 (fun j y hj=>by rw [hx (j+1) y hj];congr 1;omega);rw [aSc,show c+(r.length+1)=c+1+r.length by omega];exact h1
theorem bE.there (h:bE w b t n f) {m:Nat} (hm:o+m<=n):w.there b o m:=fun j hj=>
 ⟨by rw [h.cell (i:=o+j) (by omega)];rfl,h.frozen _⟩
theorem bE.rangeL (h:bE w b t n f) (xs:List Int) (hm:o+xs.length<=n) (hx:∀j x,xs[j]?=some x->x=f (o+j)):w.rangeAt b o (xs.map (Value.int .i64)):=fun j v hj=>by
 rw [List.getElem?_map] at hj
 cases hx':xs[j]? with
 | none=>rw [hx'] at hj;cases hj
 | some x=>
  rw [hx'] at hj;have hl:=(aQz.1 hx').1;have e:=hx j x hx';rw [h.cell (i:=o+j) (by omega),<-e];exact hj
theorem aCu {i:Nat} (h:i<26):i=0\/i=1\/i=2\/i=3\/i=4\/i=5\/i=6\/i=7\/i=8\/i=9\/i=10\/i=11\/i=12\/i=13\/i=14\/i=15\/i=16\/i=17\/i=18\/i=19\/i=20\/i=21\/i=22\/i=23\/i=24\/i=25:=by omega
theorem aG4 (hb:w.heap.size=b):bE (w.alloc (.cells #[(),(),(),(),(),(),(),(),(),(),(),(),(),(),(),(),(),(),(),(),(),(),(),(),(),()] t)) b t 26 (fun _=>0):=
 hb▸World.rowIs_alloc _ _ _ _ fun i hi=>by rcases aCu hi with h|h|h|h|h|h|h|h|h|h|h|h|h|h|h|h|h|h|h|h|h|h|h|h|h|h <;> subst h <;> rfl
theorem aNx (f:Nat->Int):∀j x,([f 0,f 1,f 2,f 3,f 4,f 5,f 6,f 7,f 8,f 9,f 10,f 11,f 12,f 13,f 14,f 15,f 16,f 17,f 18,f 19,f 20,f 21,f 22,f 23,f 24,f 25]:List Int)[j]?=some x->x=f j:=by
 intro j x h;have hl:=(aQz.1 h).1
 rcases aCu hl with e|e|e|e|e|e|e|e|e|e|e|e|e|e|e|e|e|e|e|e|e|e|e|e|e|e <;> subst e <;> exact (aSx h).symm
theorem aH1 (f:Nat->Int) (c:Nat):∀j x,([f (c+0),f (c+1),f (c+2),f (c+3),f (c+4),f (c+5),f (c+6),f (c+7),f (c+8),f (c+9),f (c+10),f (c+11)]:List Int)[j]?=some x->x=f (c+j):=by
 intro j x h;have hl:=(aQz.1 h).1
 rcases aKf hl with e|e|e|e|e|e|e|e|e|e|e|e <;> subst e <;> exact (aSx h).symm
theorem aEy:(Tryz.prog.info? 125).map (·.size)=some 12:=by kernel_rfl
theorem zZ (f:Nat->Int) (w:World):R_ 80 #[.agg (fA_ f)] w (.agg (fA_ f)):=by
 have b0:=(Blk.new w 134 (fL_ f)).ext (show Ext (w.alloc (.cells (fA_ f) 134)) (((w.alloc (.cells (fA_ f) 134)).alloc (.cells #[(),(),(),(),(),(),(),(),(),(),(),(),(),(),(),(),(),(),(),(),(),(),(),(),(),()] 127)).alloc (.cells #[(),(),(),(),(),(),(),(),(),(),(),(),(),(),(),(),(),(),(),(),(),(),(),(),(),()] 127)) from X_);have r0:=(Blk.new (w.alloc (.cells (fA_ f) 134)) 127 [(),(),(),(),(),(),(),(),(),(),(),(),(),(),(),(),(),(),(),(),(),(),(),(),(),()]).ext (show Ext ((w.alloc (.cells (fA_ f) 134)).alloc (.cells #[(),(),(),(),(),(),(),(),(),(),(),(),(),(),(),(),(),(),(),(),(),(),(),(),(),()] 127)) (((w.alloc (.cells (fA_ f) 134)).alloc (.cells #[(),(),(),(),(),(),(),(),(),(),(),(),(),(),(),(),(),(),(),(),(),(),(),(),(),()] 127)).alloc (.cells #[(),(),(),(),(),(),(),(),(),(),(),(),(),(),(),(),(),(),(),(),(),(),(),(),(),()] 127)) from X_);have t0:=bE.zero (f:=f) (aG4 (w:=((w.alloc (.cells (fA_ f) 134)).alloc (.cells #[(),(),(),(),(),(),(),(),(),(),(),(),(),(),(),(),(),(),(),(),(),(),(),(),(),()] 127))) (t:=127) rfl);simp only [aQy] at r0 t0;have x0:Ext w (((w.alloc (.cells (fA_ f) 134)).alloc (.cells #[(),(),(),(),(),(),(),(),(),(),(),(),(),(),(),(),(),(),(),(),(),(),(),(),(),()] 127)).alloc (.cells #[(),(),(),(),(),(),(),(),(),(),(),(),(),(),(),(),(),(),(),(),(),(),(),(),(),()] 127)):=X_;obtain ⟨B0,R0,T0,X0⟩:=h4_ b0 r0 t0 x0;clear b0 r0 t0 x0;go_enter func80,ntmps80;go_upto_region 2 with fail
 obtain ⟨WA,h2⟩:=e_ (((w.alloc (.cells (fA_ f) 134)).alloc (.cells #[(),(),(),(),(),(),(),(),(),(),(),(),(),(),(),(),(),(),(),(),(),(),(),(),(),()] 127)).alloc (.cells #[(),(),(),(),(),(),(),(),(),(),(),(),(),(),(),(),(),(),(),(),(),(),(),(),(),()] 127))
 rw [h2] at B0 R0 T0 X0 ⊢;clear h2;obtain ⟨c0,c1,c2,c3,c4,c5,c6,c7,c8,c9,h5,h6⟩:=B0.q12;have cl:=B0.lt;go_wp2_with fail;refine r_ (uF (f 0) (f 1) (f 2) (f 3) (f 4) (f 5) (f 6) (f 7) (f 8) (f 9) (f 10) (f 11) _) fun w1 x1=>?_;clear c0 c1 c2 c3 c4 c5 c6 c7 c8 c9 h5 h6 cl;obtain ⟨B1,R1,T1,X1⟩:=h4_ (B0.ext x1) (R0.ext x1) (T0.ext x1) (X0.trans x1);clear B0 R0 T0 X0 x1;go_upto_region 3 with (show wpList _ _ _ [_] _ _;refine wpList_store_mid rfl _ _ _ rfl (w.heap.size+1+1) 0 f rfl rfl (T1.there (m:=12) (by decide)) aEy (by kernel_rfl) ?_);obtain ⟨B2,R2,T2,X2⟩:=h4_ (B1.setC (b:=w.heap.size+1+1) (by omega) f 0) (R1.setC (b:=w.heap.size+1+1) (by omega) f 0) (bE.stepN [f 0,f 1,f 2,f 3,f 4,f 5,f 6,f 7,f 8,f 9,f 10,f 11] 0 _ T1 (by first|exact aH1 f 0|(intro j x h;rw [aRt];have:=aH1 f 0 j x;simpa using this h))) (X1.setC (b:=w.heap.size+1+1) (by omega) f 0);simp only [aS4,aV7,aSc,aS7,aRt,aTx] at T2
 obtain ⟨z0,h0⟩:=e_ (w1.setCells (w.heap.size+1+1) 0 f)
 rw [h0] at B2 R2 T2 X2
 show Code.wp _ _ _ _ (w1.setCells (w.heap.size+1+1) 0 f)
 rw [h0];clear h0 B1 R1 T1 X1;obtain ⟨h7,h8,h9,q0,q1,q2,q3,q4,q5,q6,q7,q8⟩:=m12_ (B2.cell 12 rfl) (B2.cell 13 rfl) (B2.cell 14 rfl) (B2.cell 15 rfl) (B2.cell 16 rfl) (B2.cell 17 rfl) (B2.cell 18 rfl) (B2.cell 19 rfl) (B2.cell 20 rfl) (B2.cell 21 rfl) (B2.cell 22 rfl) (B2.cell 23 rfl);have cl:=B2.lt;go_wp2_with fail;refine r_ (uF (f 12) (f 13) (f 14) (f 15) (f 16) (f 17) (f 18) (f 19) (f 20) (f 21) (f 22) (f 23) _) fun w2 x2=>?_;clear h7 h8 h9 q0 q1 q2 q3 q4 q5 q6 q7 q8 cl;obtain ⟨B3,R3,T3,X3⟩:=h4_ (B2.ext x2) (R2.ext x2) (T2.ext x2) (X2.trans x2);clear B2 R2 T2 X2 x2;go_upto_region 4 with (show wpList _ _ _ [_] _ _;refine wpList_store_mid rfl _ _ _ rfl (w.heap.size+1+1) 12 #[(f 12),(f 13),(f 14),(f 15),(f 16),(f 17),(f 18),(f 19),(f 20),(f 21),(f 22),(f 23)] rfl rfl (T3.there (m:=12) (by decide)) aEy (by kernel_rfl) ?_);obtain ⟨B4,R4,T4,X4⟩:=h4_ (B3.setC (b:=w.heap.size+1+1) (by omega) [(f 12),(f 13),(f 14),(f 15),(f 16),(f 17),(f 18),(f 19),(f 20),(f 21),(f 22),(f 23)] 12) (R3.setC (b:=w.heap.size+1+1) (by omega) [(f 12),(f 13),(f 14),(f 15),(f 16),(f 17),(f 18),(f 19),(f 20),(f 21),(f 22),(f 23)] 12) (bE.stepN [f 12,f 13,f 14,f 15,f 16,f 17,f 18,f 19,f 20,f 21,f 22,f 23] 12 _ T3 (by first|exact aH1 f 12|(intro j x h;rw [aRt];have:=aH1 f 0 j x;simpa using this h))) (X3.setC (b:=w.heap.size+1+1) (by omega) [(f 12),(f 13),(f 14),(f 15),(f 16),(f 17),(f 18),(f 19),(f 20),(f 21),(f 22),(f 23)] 12);simp only [aS4,aV7,aSc,aS7,aRt,aTx] at T4
 obtain ⟨h4,h1⟩:=e_ (w2.setCells (w.heap.size+1+1) 12 [(f 12),(f 13),(f 14),(f 15),(f 16),(f 17),(f 18),(f 19),(f 20),(f 21),(f 22),(f 23)])
 rw [h1] at B4 R4 T4 X4
 show Code.wp _ _ _ _ (w2.setCells (w.heap.size+1+1) 12 [(f 12),(f 13),(f 14),(f 15),(f 16),(f 17),(f 18),(f 19),(f 20),(f 21),(f 22),(f 23)])
 rw [h1];clear h1 B3 R3 T3 X3;obtain ⟨q9,x3,cl,x4,x5,x6,x7,tl⟩:=m8_ (B4.cell 24 rfl) (B4.cell 25 rfl) B4.lt (T4.cell (i:=24) (by decide)) (T4.cell (i:=25) (by decide)) (T4.frozen 24) (T4.frozen 25) T4.lt;obtain ⟨T5,R5,X5⟩:=h3_ (bE.step (bE.step T4 rfl rfl) rfl rfl) ((R4.other (a:=⟨w.heap.size+1+1,24,none⟩) (by simp) (.int .i64 (f 24))).other (a:=⟨w.heap.size+1+1,25,none⟩) (by simp) (.int .i64 (f 25))) ((X4.setCell (p:=⟨w.heap.size+1+1,24,none⟩) (by simp;omega) (.int .i64 (f 24))).setCell (p:=⟨w.heap.size+1+1,25,none⟩) (by simp;omega) (.int .i64 (f 25)));clear B4 R4 X4;go_upto_region 6 with fail
 obtain ⟨WC,h3⟩:=e_ ((h4.setCell ⟨w.heap.size+1+1,24,none⟩ (f 24)).setCell ⟨w.heap.size+1+1,25,none⟩ (f 25))
 rw [h3] at T5 R5 X5 ⊢;clear h3 q9 x3 cl x4 x5 x6 x7 tl T4;have x9:=(bE.full T5).rangeL (o:=0) [f 0,f 1,f 2,f 3,f 4,f 5,f 6,f 7,f 8,f 9,f 10,f 11,f 12,f 13,f 14,f 15,f 16,f 17,f 18,f 19,f 20,f 21,f 22,f 23,f 24,f 25] (by simp) (fun j x h=>by rw [aRt];exact aNx f j x h);have x8:WC.heap[w.heap.size+1]?=some (.cells #[(),(),(),(),(),(),(),(),(),(),(),(),(),(),(),(),(),(),(),(),(),(),(),(),(),()] 127 (0,0)):=R5;go_wp2_with (first|(show wpList _ _ _ [_,_] _ _;refine wpList_load_mid rfl _ _ rfl (w.heap.size+1+1) 0 rfl (fL_ f) _ x9 underlying127 rfl iG ?_)|(show wpList _ _ _ [_] _ _;refine wpList_store_rowTo rfl _ _ _ rfl rfl (w.heap.size+1) (fA_ f) rfl rfl _ _ x8 iG rfl (by kernel_rfl) ?_));have bR:=R5.rowB (fL_ f);have xR:=X5.setRowB (g:=w.heap.size+1) (by omega) (fA_ f);refine aCh rfl rfl bR _ underlying127 rfl iG rfl ?_;exact ⟨rfl,xR⟩
theorem yH (f:Nat->Int) (w:World):R_ 84 #[.agg (fA_ f),.agg (fA_ f)] w (.bool true):=by
 have b0:=(Blk.new w 127 (fL_ f)).ext (show Ext (w.alloc (.cells (fA_ f) 127)) ((w.alloc (.cells (fA_ f) 127)).alloc (.cells (fA_ f) 127)) from X_);have r0:=Blk.new (w.alloc (.cells (fA_ f) 127)) 127 (fL_ f);rw [aQy] at r0;obtain ⟨X0,B0,R0⟩:=h3_ (show Ext w ((w.alloc (.cells (fA_ f) 127)).alloc (.cells (fA_ f) 127)) from X_) b0 r0;clear b0 r0;go_enter func84,ntmps84;go_upto_region 1 with fail
 obtain ⟨WA,h0⟩:=e_ ((w.alloc (.cells (fA_ f) 127)).alloc (.cells (fA_ f) 127))
 rw [h0] at B0 R0 X0 ⊢;clear h0;obtain ⟨c0,d0,c1,d1,c2,d2,c3,d3,c4,d4,c5,d5⟩:=m12_ (B0.cell 0 rfl) (R0.cell 0 rfl) (B0.cell 1 rfl) (R0.cell 1 rfl) (B0.cell 2 rfl) (R0.cell 2 rfl) (B0.cell 3 rfl) (R0.cell 3 rfl) (B0.cell 4 rfl) (R0.cell 4 rfl) (B0.cell 5 rfl) (R0.cell 5 rfl);obtain ⟨c6,d6,c7,d7,c8,d8,c9,d9,h1,q5,h2,q6⟩:=m12_ (B0.cell 6 rfl) (R0.cell 6 rfl) (B0.cell 7 rfl) (R0.cell 7 rfl) (B0.cell 8 rfl) (R0.cell 8 rfl) (B0.cell 9 rfl) (R0.cell 9 rfl) (B0.cell 10 rfl) (R0.cell 10 rfl) (B0.cell 11 rfl) (R0.cell 11 rfl);have cl:=B0.lt;have dl:=R0.lt;go_wp2_with fail;refine r_ (rR (f 0) (f 1) (f 2) (f 3) (f 4) (f 5) (f 6) (f 7) (f 8) (f 9) (f 10) (f 11) _) fun w1 x1=>?_;obtain ⟨B1,R1,X1⟩:=h3_ (B0.ext x1) (R0.ext x1) (X0.trans x1);clear B0 R0 X0 x1 cl dl c0 d0 c1 d1 c2 d2 c3 d3 c4 d4 c5 d5 c6 d6 c7 d7 c8 d8 c9 d9 h1 q5 h2 q6;obtain ⟨h3,q7,h4,q8,h5,q9,h6,x0,h7,x3,h8,x4⟩:=m12_ (B1.cell 12 rfl) (R1.cell 12 rfl) (B1.cell 13 rfl) (R1.cell 13 rfl) (B1.cell 14 rfl) (R1.cell 14 rfl) (B1.cell 15 rfl) (R1.cell 15 rfl) (B1.cell 16 rfl) (R1.cell 16 rfl) (B1.cell 17 rfl) (R1.cell 17 rfl);obtain ⟨h9,x5,q0,x6,q1,x7,q2,x8,q3,x9,q4,z0⟩:=m12_ (B1.cell 18 rfl) (R1.cell 18 rfl) (B1.cell 19 rfl) (R1.cell 19 rfl) (B1.cell 20 rfl) (R1.cell 20 rfl) (B1.cell 21 rfl) (R1.cell 21 rfl) (B1.cell 22 rfl) (R1.cell 22 rfl) (B1.cell 23 rfl) (R1.cell 23 rfl);have cl:=B1.lt;have dl:=R1.lt;go_wp2_with fail;refine r_ (rR (f 12) (f 13) (f 14) (f 15) (f 16) (f 17) (f 18) (f 19) (f 20) (f 21) (f 22) (f 23) _) fun w2 x2=>?_;obtain ⟨B2,R2,X2⟩:=h3_ (B1.ext x2) (R1.ext x2) (X1.trans x2);clear B1 R1 X1 x2 cl dl h3 q7 h4 q8 h5 q9 h6 x0 h7 x3 h8 x4 h9 x5 q0 x6 q1 x7 q2 x8 q3 x9 q4 z0;have z1:=B2.cell 24 rfl;obtain ⟨z2,z3,z4,cl,dl⟩:=m5_ (B2.cell 25 rfl) (R2.cell 24 rfl) (R2.cell 25 rfl) B2.lt R2.lt;go_wp2;go_ret;exact ⟨rfl,X2⟩
theorem aJr:(Tryz.prog.info? 127).map (fun i=>(i.zero,i.size,i.bytes))=some (some (.agg #[(),(),(),(),(),(),(),(),(),(),(),(),(),(),(),(),(),(),(),(),(),(),(),(),(),()]),26,208):=by kernel_rfl
theorem aJs:(Tryz.prog.info? 134).map (fun i=>i.size)=some 26:=by kernel_rfl
theorem aCv {g:Nat->Int} (h:∀j,j<26->w.cell? ⟨b,o+j,none⟩=some (.int .i64 (g j))):w.rangeAt b o (fL_ g):=by
 intro q v hq;have hl:=(aQz.1 hq).1
 rcases aCu hl with e|e|e|e|e|e|e|e|e|e|e|e|e|e|e|e|e|e|e|e|e|e|e|e|e|e <;> subst e <;> exact (h _ (by decide)).trans hq
theorem yI (lo hi:Nat) (u:Value) (n:Nat) (f:Nat->Int) (w:World) (hu:cY 26 lo hi w u n f) (hh:hi<=w.heap.size) (hsz:n<=1048576) :
  Calls aQ2 39 #[u] w fun e w'=>e = .returned (.slice (some ⟨w.heap.size,0,none⟩) n n)/\bE w' w.heap.size 127 (n*26) f/\Ext w w':=by
 obtain ⟨i0,h5,h7,h8,h9⟩:=info_parts aJr;obtain ⟨a,cap,rfl,HU⟩:=hu.open;clear hu;have q4:=HU.cap;have q8:=HU.le;have q2:=hid HU;clear HU;go_enter func39,ntmps39;go_wp2_with (at_make;refine wpList_make_full _ rfl _ _ 38 rfl w.heap.size 127 i0 _ 26 underlying38 h5 h7 h8 _ _ _ _ n rfl rfl rfl rfl (by rw [h9];omega) (by unfold maxLen;omega) (aQv _) ?_);intro w1 h3 h1;have hx:Ext w w1:=(aQ6 w).grown h1 (fun k h=>by cases h);have h0:=hid (bE.zero (f:=f) (aA9 (aH4 (k:=26) rfl (by decide) _) h3));clear h3 h1 h5 h7 h8 h9;go_wp2
 go_loopw [4] (fun i wr=>∃k:Nat,k<=n/\i = .int .i64 k/\Ext w wr/\bE wr w.heap.size 127 (n*26) (lI f (k*26))) (fun i _=>n - (intOf i).toNat)
 case atStart=>exact ⟨0,by omega,rfl,hx,by simpa using h0.out⟩
 case round=>
  clear hx h0;obtain ⟨k,hk,rfl,hx,h0⟩:=hrel
  by_cases h6:k<n
  ·obtain ⟨b,q0,rfl,q6,q7,hc⟩:=q2.at h6 (by decide)
   have q5:=eQ (k:=26) (j:=25) h6 (by decide)
   obtain ⟨g,hg⟩:∃g:Nat->Int,g=fun j=>f (k*26+j):=⟨_,rfl⟩
   have h4:wr.rangeAt b (q0+k*26) (fL_ g):=aCv fun j hj=>((hx.cells.1 b _ (by omega)).trans (hc j hj)).trans (by rw [hg]);obtain ⟨HG,HX,HR⟩:=h3_ hg hx h0
   have bl:b<wr.heap.size:=by have:=hx.size;omega
   clear hc hx h0 hg;go_wp2_with (show wpList _ _ _ [_,_,_,_] _ _;refine wpList_load_mid rfl _ _ rfl b (q0+k*26) rfl (fL_ g) _ h4 underlying134 rfl aJs ?_);refine r_ (zZ g _) fun w2 h2=>?_;have hR:=HR.ext h2;have hX:=HX.trans h2;have ht:=hR.there (o:=k*26) (m:=26) (by omega);obtain ⟨q3,q1⟩:=h2_ (hX.setC (b:=w.heap.size) (aQv _) (fL_ g) (k*26)) (bE.stepN [g 0,g 1,g 2,g 3,g 4,g 5,g 6,g 7,g 8,g 9,g 10,g 11,g 12,g 13,g 14,g 15,g 16,g 17,g 18,g 19,g 20,g 21,g 22,g 23,g 24,g 25] (k*26) _ hR (fun j x h=>by have:=aNx g j x h;rw [this,HG]));clear HX HR h2 hX hR h4;go_wp2_with (show wpList _ _ _ [_] _ _;refine wpList_store_mid rfl _ _ _ rfl w.heap.size (k*26) (fA_ g) rfl rfl ht fQ (by kernel_rfl) ?_);clear ht;go_roundw
   case rel=>
    refine ⟨k+1,by omega,by go_num,q3,?_⟩;rw [aTf,aTh];exact q1
   case measure=>simp [intOf];omega
  ·go_wp2
   go_ret
   obtain rfl:k=n:=by omega
   exact ⟨rfl,h0.full,hx⟩
theorem uY (lo hi lo' hi':Nat) (u v:Value) (n:Nat) (f:Nat->Int) (w:World) (hu:cY 26 lo hi w u n f) (hv:cY 26 lo' hi' w v n f) (hh:hi<=w.heap.size) (hh':hi'<=w.heap.size) :
  R_ 44 #[u,v] w (.bool true):=by
 obtain ⟨a,cap,rfl,HU⟩:=cY.open hu;obtain ⟨a',q0,rfl,HV⟩:=cY.open hv;clear hu hv;have h1:=HU.le;have h2:=HU.cap;have q3:=HV.le;have q4:=HV.cap;obtain ⟨h8,h9⟩:=h2_ HU HV;clear HU HV;go_enter func44,ntmps44;go_wp2
 go_loopw [5] (fun i wr=>∃k:Nat,k<=n/\i = .int .i64 k/\Ext w wr) (fun i _=>n - (intOf i).toNat)
 case atStart=>exact ⟨0,by omega,rfl,X_⟩
 case round=>
  obtain ⟨k,hk,rfl,hx⟩:=hrel
  by_cases h4:k<n
  ·obtain ⟨b,h5,rfl,q5,q6,hc⟩:=h8.at h4 (by decide)
   obtain ⟨b',h0,rfl,q1,q2,h3⟩:=h9.at h4 (by decide)
   obtain ⟨g,hg⟩:∃g:Nat->Int,g=fun j=>f (k*26+j):=⟨_,rfl⟩
   obtain ⟨h6,h7⟩:=h2_ (show wr.rangeAt b (h5+k*26) (fL_ g) from aCv fun j hj=>((hx.cells.1 b _ (by omega)).trans (hc j hj)).trans (by rw [hg])) (show wr.rangeAt b' (h0+k*26) (fL_ g) from aCv fun j hj=>((hx.cells.1 b' _ (by omega)).trans (h3 j hj)).trans (by rw [hg]))
   have s1:b<wr.heap.size:=by have:=hx.size;omega
   have s2:b'<wr.heap.size:=by have:=hx.size;omega
   have HX:=hid hx;clear hc h3 hx hg;go_wp2;refine aA [([0,1,2,3,4,5,6,7],8),([],9)] 99 wr.heap.size (by kernel_rfl) (by kernel_rfl) ?_;refine st_ (hq:=by intro R h;show wpQuiet _ _ _ _ [_,_,_,_,_,_,_,_] _;go_big_quiet_step (fail);go_big_quiet_step (fail);go_big_quiet_step (fail);refine eN rfl _ _ rfl b (h5+k*26) rfl (fL_ g) _ (by rintro _ ⟨d,rfl⟩ j v hj;rw [jD _ _ _ _ s1];exact h6 j v hj) underlying127 rfl iG ?_;simp only [Act.put,aQ4,aRc,aRb];go_big_quiet_step (fail);go_big_quiet_step (fail);go_big_quiet_step (fail);refine eN rfl _ _ rfl b' (h0+k*26) rfl (fL_ g) _ (by rintro _ ⟨d,rfl⟩ j v hj;rw [jD _ _ _ _ s2];exact h7 j v hj) underlying127 rfl iG ?_;simp only [Act.put,aQ4,aRc,aRb];exact wpQuiet_nil h) fun K hK=>?_;go_wp2_with fail;refine r_ (yH g _) fun w1 h1=>?_;have y1:Ext wr w1:=aQ3 X_ h1;go_wp2;refine k_ hK (st_ fun K hK=>?_);go_wp2;refine k_ hK (aC ?_);clear hK K;have hX:=HX.trans y1;clear h1 y1 HX;go_wp2;go_roundw
   case rel=>exact ⟨k+1,by omega,by go_num,hX⟩
   case measure=>simp [intOf];omega
  ·go_wp2
   go_ret;exact ⟨rfl,hx⟩
theorem yJ (lo hi:Nat) (u:Value) (n:Nat) (f:Nat->Int) (left:Int) (w:World) (hu:cY 26 lo hi w u n f) (h1:0<=left) (h2:left<=1048576) :
  Z_ 34 #[u,left] w (.int .i64 (lH left n)):=by
 obtain ⟨a,cap,rfl,HU⟩:=hu.open;have h3:=HU.le;have h4:=HU.cap;unfold lH;go_enter func34,ntmps34;go_wp2
 all_goals go_ret
 all_goals exact ⟨rfl,rfl⟩
theorem yK {left:Int} {r:Int} (h:lH left n=r) (lo hi:Nat) (u:Value) (f:Nat->Int) (w:World) (hu:cY 26 lo hi w u n f) (h1:0<=left) (h2:left<=1048576) :
  Z_ 34 #[u,left] w (.int .i64 r):=h▸yJ lo hi u n f left w hu h1 h2
theorem aCw (a b c d:Int) (e:Bool) (f g:Int) (w:World):Calls aQ2 36 #[.agg #[a,b,c,d,.bool e,f,g]] w fun x w'=>x = .returned (.agg #[a,b,c,d,.bool e,f,g])/\Ext w w':=by
 go_enter func36,ntmps36;go_wp2;refine bodyPost_ret (v:=.agg #[a,b,c,d,.bool e,f,g]) (by simp [results,results36,go_sem]) rfl ⟨rfl,?_⟩;exact S_
theorem aAa (a b c d:Int) (e:Bool) (f g:Int) (w:World):Calls aQ2 41 #[.agg #[a,b,c,d,.bool e,f,g],.agg #[a,b,c,d,.bool e,f,g]] w fun x w'=>x = .returned (.bool true)/\Ext w w':=by
 cases e
 all_goals
  go_enter func41,ntmps41;go_wp2;go_ret;exact ⟨rfl,S_⟩
structure Scn.Sm (s:Scn):Prop where
 small:s.small
 px:s.t.px.length<=1048576
 n:s.ps.length<=1048576
 m:s.m<=1048576
def Scn.bd (s:Scn):Prop:=∀p∈s.ps,p.bd
def Scn.O (s:Scn) (lo hi:Nat) (w:World) (v:Value):Prop:=
 ∃a1 c1 a2 c2 a3 c3,v = .agg #[s.c.w,s.c.h,s.c.zoom,s.c.near,.bool s.c.deep,s.c.lens,s.c.focus,s.t.log,.slice a1 s.t.px.length c1,.slice a2 s.ps.length c2,.slice a3 s.m c3,s.side]/\s.R lo hi w v/\kJ lo hi w (.slice a1 s.t.px.length c1) s.t.px.length/\nG lo hi w (.slice a2 s.ps.length c2) s.ps.length/\sN lo hi w (.slice a3 s.m c3) s.m
theorem sN.same (h:sN lo hi w v n) (s:aM lo hi w w'):sN lo hi w' v n:=by
 obtain ⟨a,cap,h1,h2,h3,h4⟩:=h;exact ⟨a,cap,h1,h2,h3,fun i hi=>by obtain ⟨b,h0,e,k0,k1⟩:=h4 i hi;exact ⟨b,h0,e,k0.same s,k1.same s⟩⟩
theorem Scn.O.R {s:Scn} (h:s.O lo hi w v):s.R lo hi w v:=by
 obtain ⟨_,_,_,_,_,_,rfl,h,_⟩:=h;exact h
theorem Scn.O.form {s:Scn} (h:s.O lo hi w v):∃a1 c1 a2 c2 a3 c3,v = .agg #[s.c.w,s.c.h,s.c.zoom,s.c.near,.bool s.c.deep,s.c.lens,s.c.focus,s.t.log,.slice a1 s.t.px.length c1,.slice a2 s.ps.length c2,.slice a3 s.m c3,s.side]:=by
 obtain ⟨a1,c1,a2,c2,a3,c3,rfl,_⟩:=h;exact ⟨a1,c1,a2,c2,a3,c3,rfl⟩
theorem Scn.O.same {s:Scn} (h:s.O lo hi w v) (k:aM lo hi w w'):s.O lo hi w' v:=by
 obtain ⟨a1,c1,a2,c2,a3,c3,rfl,h1,h2,h3,h4⟩:=h;exact ⟨a1,c1,a2,c2,a3,c3,rfl,h1.same k,h2.same k,h3.same k,h4.same k⟩
theorem Scn.O.kp {s:Scn} (h:s.O lo hi w v) (k:Kp lo hi w w'):s.O lo hi w' v:=h.same k.same
theorem bE.srfsM (h:bE w b 127 (n*26) f) (hl:lo<=b) (hn:n<=1048576):sN lo w.heap.size w (.slice (some ⟨b,0,none⟩) n n) n:=
 ⟨_,n,rfl,aQv _,by omega,fun i hi=>by
  have h2:=eQ (k:=26) (j:=25) hi (by decide)
  exact ⟨b,0,rfl,⟨hl,h.lt,⟨_,by rw [aRt];exact h.cell (by omega)⟩,by rw [aRt];exact h.frozen _⟩,⟨hl,h.lt,⟨_,by rw [aRt];exact h.cell (by omega)⟩,by rw [aRt];exact h.frozen _⟩⟩⟩
theorem aEz (lo hi:Nat) (v:Value) (s:Scn) (left:Int) (w:World) (hv:s.R lo hi w v) (hh:hi<=w.heap.size) (hb:s.bd) (h1:0<=left) (h2:left<=1048576) :
  Calls aQ2 9 #[v,left] w fun e w'=>(∃r,e = .returned (.int .i64 r)/\(r = -1\/(0<=r/\r<=left/\s.Sm)))/\Ext w w':=by
 obtain ⟨a1,c1,a2,c2,a3,c3,rfl,-,h0,-,k1,k2,k3⟩:=hv.form;obtain ⟨HT,HP,HF,HB⟩:=h4_ (show ∀W:World,Ext w W->cN lo hi W (.agg #[s.t.log,.slice a1 s.t.px.length c1]) s.t from fun W x=>⟨_,rfl,h0,(k1.shut).ext hh x⟩) (show gL lo hi w (.slice a2 s.ps.length c2) s.ps by obtain ⟨tu,pu,su,e,_,_,_,_,h6,_⟩:=hv;simp only [Value.agg.injEq,Array.mk.injEq,List.cons.injEq,and_true,true_and] at e;obtain ⟨-,e2,-⟩:=e;rw [e2];exact h6) (show cY 26 lo hi w (.slice a3 s.m c3) s.m s.F from k3.shut) hb;have x0:Ext w (w.alloc (.cells (sA_ s a1 c1 a2 c2 a3 c3) 30)):=X_;obtain ⟨B0,X0⟩:=h2_ (Blk.new w 30 (sL_ s a1 c1 a2 c2 a3 c3)) x0;obtain ⟨q2,q4,q6,q3,q5⟩:=m5_ k1.cap k2.cap k3.cap k1.le k2.le;have q7:=k3.le;clear hv h0 k1 k2 k3 hb x0
 obtain ⟨r1,h3⟩:=e_ (lH left s.t.px.length)
 have h8:=hid h3
 have h5:r1 = -1\/(0<=r1/\r1<=left/\s.t.px.length<=1048576):=by unfold lH at h3;split at h3 <;> omega
 clear h3;go_enter func9,ntmps9;go_wp2_with fail;refine r_ (yT h8 lo hi _ _ (HT _ X0) (aQ5 hh X0.size) h1 h2) fun w1 x1=>?_;obtain ⟨B1,X1⟩:=h2_ (B0.ext x1) (X0.trans x1);clear B0 X0 x1
 rcases h5 with rfl|⟨g1,g2,g3⟩
 ·go_wp2
  go_ret;exact ⟨⟨_,rfl,.inl rfl⟩,X1⟩
 have n1 : ¬r1<0:=by omega
 have c9:=B1.cell 9 rfl;have cl:=B1.lt;go_wp2_with fail;refine (yG lo hi _ s.ps r1 _ (HP.ext hh X1) (aQ5 hh X1.size) HB g1 (by omega)).mono ?_;rintro e w2 ⟨⟨r2,rfl,hr2⟩,x2⟩;obtain ⟨B2,X2⟩:=h2_ (B1.ext x2) (X1.trans x2);clear B1 X1 x2 c9 cl
 rcases hr2 with rfl|⟨g4,g5,g6,g7⟩
 ·go_wp2
  go_ret;exact ⟨⟨_,rfl,.inl rfl⟩,X2⟩
 have n2 : ¬r2<0:=by omega
 have q0:=hid (show s.small from fun p hp=>⟨HB p hp,g7 p hp⟩)
 obtain ⟨r3,h4⟩:=e_ (lH r2 s.m)
 have h9:=hid h4
 have h7:r3 = -1\/(0<=r3/\r3<=r2/\s.m<=1048576):=by unfold lH at h4;split at h4 <;> omega
 clear h4 g7;have q1:=B2.cell 10 rfl;have cl:=B2.lt;go_wp2_with fail;refine z_ (yK h9 lo hi _ s.F _ (HF.ext hh X2) g4 (by omega)) ?_
 rcases h7 with rfl|⟨g8,g9,g10⟩
 ·go_wp2
  go_ret;exact ⟨⟨_,rfl,.inl rfl⟩,X2⟩
 have n3 : ¬r3<0:=by omega
 go_wp2;go_ret;exact ⟨⟨_,rfl,.inr ⟨g8,by omega,⟨q0,g3,g6,g10⟩⟩⟩,X2⟩
theorem kK (lo hi:Nat) (v:Value) (s:Scn) (w:World) (hv:s.R lo hi w v) (hh:hi<=w.heap.size) (hsz:s.Sm) :
  Calls aQ2 11 #[v] w fun e w'=>∃v',e = .returned v'/\s.O w.heap.size w'.heap.size w' v'/\Ext w w':=by
 obtain ⟨a1,c1,a2,c2,a3,c3,rfl,y4,z4,q8,k1,k2,k3⟩:=hv.form;obtain ⟨HT,HP,HF,y6,y5,y7,y8⟩:=h7_ (show ∀W:World,Ext w W->cN lo hi W (.agg #[s.t.log,.slice a1 s.t.px.length c1]) s.t from fun W x=>⟨_,rfl,z4,(k1.shut).ext hh x⟩) (show gL lo hi w (.slice a2 s.ps.length c2) s.ps by obtain ⟨tu,pu,su,e,_,_,_,_,h6,_⟩:=hv;simp only [Value.agg.injEq,Array.mk.injEq,List.cons.injEq,and_true,true_and] at e;obtain ⟨-,e2,-⟩:=e;rw [e2];exact h6) (show cY 26 lo hi w (.slice a3 s.m c3) s.m s.F from k3.shut) (show ∀i,i<s.m*26->I64 (s.F i) from fun i hi=>(k3.cell i hi).1) y4 z4 q8;have z1:=hsz.px;have z2:=hsz.n;have z3:=hsz.m;have ZS:=hid (show ∀p∈s.ps,p.small from fun p hp=>(hsz.small p hp).2);have x0:Ext w (((w.alloc (.cells (sA_ s a1 c1 a2 c2 a3 c3) 30)).alloc (.cells #[(),(),(),(),.bool false,(),(),(),.slice none 0 0,.slice none 0 0,.slice none 0 0,()] 40)).alloc (.cells #[(),(),(),(),.bool false,(),(),(),.slice none 0 0,.slice none 0 0,.slice none 0 0,()] 40)):=X_;have b0:=(Blk.new w 30 (sL_ s a1 c1 a2 c2 a3 c3)).ext (show Ext (w.alloc (.cells (sA_ s a1 c1 a2 c2 a3 c3) 30)) (((w.alloc (.cells (sA_ s a1 c1 a2 c2 a3 c3) 30)).alloc (.cells #[(),(),(),(),.bool false,(),(),(),.slice none 0 0,.slice none 0 0,.slice none 0 0,()] 40)).alloc (.cells #[(),(),(),(),.bool false,(),(),(),.slice none 0 0,.slice none 0 0,.slice none 0 0,()] 40)) from X_);have r0:=(Blk.new (w.alloc (.cells (sA_ s a1 c1 a2 c2 a3 c3) 30)) 40 [(),(),(),(),.bool false,(),(),(),.slice none 0 0,.slice none 0 0,.slice none 0 0,()]).ext (show Ext ((w.alloc (.cells (sA_ s a1 c1 a2 c2 a3 c3) 30)).alloc (.cells #[(),(),(),(),.bool false,(),(),(),.slice none 0 0,.slice none 0 0,.slice none 0 0,()] 40)) (((w.alloc (.cells (sA_ s a1 c1 a2 c2 a3 c3) 30)).alloc (.cells #[(),(),(),(),.bool false,(),(),(),.slice none 0 0,.slice none 0 0,.slice none 0 0,()] 40)).alloc (.cells #[(),(),(),(),.bool false,(),(),(),.slice none 0 0,.slice none 0 0,.slice none 0 0,()] 40)) from X_);have t0:=Blk.new ((w.alloc (.cells (sA_ s a1 c1 a2 c2 a3 c3) 30)).alloc (.cells #[(),(),(),(),.bool false,(),(),(),.slice none 0 0,.slice none 0 0,.slice none 0 0,()] 40)) 40 [(),(),(),(),.bool false,(),(),(),.slice none 0 0,.slice none 0 0,.slice none 0 0,()];simp only [aQy] at r0 t0;obtain ⟨B0,R0,T0,X0⟩:=h4_ b0 r0 t0 x0;clear hv y4 z4 q8 k1 k2 k3 hsz b0 r0 t0 x0;go_enter func11,ntmps11;go_upto_region 2 with fail
 obtain ⟨WA,y3⟩:=e_ (((w.alloc (.cells (sA_ s a1 c1 a2 c2 a3 c3) 30)).alloc (.cells #[(),(),(),(),.bool false,(),(),(),.slice none 0 0,.slice none 0 0,.slice none 0 0,()] 40)).alloc (.cells #[(),(),(),(),.bool false,(),(),(),.slice none 0 0,.slice none 0 0,.slice none 0 0,()] 40))
 rw [y3] at B0 R0 T0 X0 ⊢;clear y3;obtain ⟨b0,b1,b2,b3,b4,b5,b6⟩:=B0.q7;have bl:=B0.lt;go_wp2_with fail;refine r_ (aCw _ _ _ _ _ _ _ _) fun w1 x1=>?_;clear bl b0 b1 b2 b3 b4 b5 b6;obtain ⟨B1,R1,T1,X1⟩:=h4_ (B0.ext x1) (R0.ext x1) (T0.ext x1) (X0.trans x1);clear B0 R0 T0 X0;clear x1;have i3:w.heap.size+1+1<w1.heap.size:=T1.lt;obtain ⟨d0,e0,d1,e1,d2,e2,d3,e3,d4,e4,d5,e5⟩:=m12_ (T1.cell 0 rfl) (T1.free 0) (T1.cell 1 rfl) (T1.free 1) (T1.cell 2 rfl) (T1.free 2) (T1.cell 3 rfl) (T1.free 3) (T1.cell 4 rfl) (T1.free 4) (T1.cell 5 rfl) (T1.free 5);have d6:=T1.cell 6 rfl;have e6:=T1.free 6;have dl:=T1.lt;obtain ⟨T2,B2,R2,X2⟩:=h4_ (((((((T1.set 0 (.int .i64 s.c.w)).set 1 (.int .i64 s.c.h)).set 2 (.int .i64 s.c.zoom)).set 3 (.int .i64 s.c.near)).set 4 (.bool s.c.deep)).set 5 (.int .i64 s.c.lens)).set 6 (.int .i64 s.c.focus)) (((((((B1.other (a:=⟨w.heap.size+1+1,0,none⟩) (by simp <;> omega) (.int .i64 s.c.w)).other (a:=⟨w.heap.size+1+1,1,none⟩) (by simp <;> omega) (.int .i64 s.c.h)).other (a:=⟨w.heap.size+1+1,2,none⟩) (by simp <;> omega) (.int .i64 s.c.zoom)).other (a:=⟨w.heap.size+1+1,3,none⟩) (by simp <;> omega) (.int .i64 s.c.near)).other (a:=⟨w.heap.size+1+1,4,none⟩) (by simp <;> omega) (.bool s.c.deep)).other (a:=⟨w.heap.size+1+1,5,none⟩) (by simp <;> omega) (.int .i64 s.c.lens)).other (a:=⟨w.heap.size+1+1,6,none⟩) (by simp <;> omega) (.int .i64 s.c.focus)) (((((((R1.other (a:=⟨w.heap.size+1+1,0,none⟩) (by simp <;> omega) (.int .i64 s.c.w)).other (a:=⟨w.heap.size+1+1,1,none⟩) (by simp <;> omega) (.int .i64 s.c.h)).other (a:=⟨w.heap.size+1+1,2,none⟩) (by simp <;> omega) (.int .i64 s.c.zoom)).other (a:=⟨w.heap.size+1+1,3,none⟩) (by simp <;> omega) (.int .i64 s.c.near)).other (a:=⟨w.heap.size+1+1,4,none⟩) (by simp <;> omega) (.bool s.c.deep)).other (a:=⟨w.heap.size+1+1,5,none⟩) (by simp <;> omega) (.int .i64 s.c.lens)).other (a:=⟨w.heap.size+1+1,6,none⟩) (by simp <;> omega) (.int .i64 s.c.focus)) (((((((X1.setCell (p:=⟨w.heap.size+1+1,0,none⟩) (by simp;omega) (.int .i64 s.c.w)).setCell (p:=⟨w.heap.size+1+1,1,none⟩) (by simp;omega) (.int .i64 s.c.h)).setCell (p:=⟨w.heap.size+1+1,2,none⟩) (by simp;omega) (.int .i64 s.c.zoom)).setCell (p:=⟨w.heap.size+1+1,3,none⟩) (by simp;omega) (.int .i64 s.c.near)).setCell (p:=⟨w.heap.size+1+1,4,none⟩) (by simp;omega) (.bool s.c.deep)).setCell (p:=⟨w.heap.size+1+1,5,none⟩) (by simp;omega) (.int .i64 s.c.lens)).setCell (p:=⟨w.heap.size+1+1,6,none⟩) (by simp;omega) (.int .i64 s.c.focus));simp only [aRc,aRb] at T2;go_upto_region 3 with fail
 obtain ⟨y0,x4⟩:=e_ (((((((w1.setCell ⟨w.heap.size+1+1,0,none⟩ s.c.w).setCell ⟨w.heap.size+1+1,1,none⟩ s.c.h).setCell ⟨w.heap.size+1+1,2,none⟩ s.c.zoom).setCell ⟨w.heap.size+1+1,3,none⟩ s.c.near).setCell ⟨w.heap.size+1+1,4,none⟩ (.bool s.c.deep)).setCell ⟨w.heap.size+1+1,5,none⟩ s.c.lens).setCell ⟨w.heap.size+1+1,6,none⟩ s.c.focus)
 have c7:y0.heap.size<=w1.heap.size/\w1.heap.size<=y0.heap.size:=by rw [<-x4];simp
 rw [x4] at B2 R2 T2 X2 ⊢;clear x4 B1 R1 T1 X1 dl d0 e0 d1 e1 d2 e2 d3 e3 d4 e4 d5 e5 d6 e6;have b7:=B2.cell 7 rfl;have b8:=B2.cell 8 rfl;have bl:=B2.lt;go_wp2_with fail;refine (yO lo hi _ s.t _ (HT _ X2) (aQ5 hh X2.size) z1).mono ?_;rintro e w3 ⟨v3,rfl,⟨u3,rfl,_,hO⟩,x3⟩;obtain ⟨p1,q1,rfl,_⟩:=hO.form;have i4:=x3.size;clear bl b7 b8;obtain ⟨B3,R3,T3,X3⟩:=h4_ (B2.ext x3) (R2.ext x3) (T2.ext x3) (X2.trans x3);clear B2 R2 T2 X2;obtain ⟨HI,HM⟩:=h2_ hO.ints hO.intsM;clear x3 hO;have d7:=T3.cell 7 rfl;have e7:=T3.free 7;have d8:=T3.cell 8 rfl;have e8:=T3.free 8;have dl:=T3.lt;obtain ⟨T4,B4,R4,X4⟩:=h4_ ((T3.set 7 (.int .i64 s.t.log)).set 8 (.slice p1 s.t.px.length q1)) ((B3.other (a:=⟨w.heap.size+1+1,7,none⟩) (by simp <;> omega) (.int .i64 s.t.log)).other (a:=⟨w.heap.size+1+1,8,none⟩) (by simp <;> omega) (.slice p1 s.t.px.length q1)) ((R3.other (a:=⟨w.heap.size+1+1,7,none⟩) (by simp <;> omega) (.int .i64 s.t.log)).other (a:=⟨w.heap.size+1+1,8,none⟩) (by simp <;> omega) (.slice p1 s.t.px.length q1)) ((X3.setCell (p:=⟨w.heap.size+1+1,7,none⟩) (by simp;omega) (.int .i64 s.t.log)).setCell (p:=⟨w.heap.size+1+1,8,none⟩) (by simp;omega) (.slice p1 s.t.px.length q1));replace HI:=hid (HI.same ((aM.setLow w3 (p:=⟨w.heap.size+1+1,7,none⟩) (by simp only;omega) (.int .i64 s.t.log)).trans (aM.setLow _ (p:=⟨w.heap.size+1+1,8,none⟩) (by simp only;omega) (.slice p1 s.t.px.length q1))));replace HM:=hid (HM.same ((aM.setLow w3 (p:=⟨w.heap.size+1+1,7,none⟩) (by simp only;omega) (.int .i64 s.t.log)).trans (aM.setLow _ (p:=⟨w.heap.size+1+1,8,none⟩) (by simp only;omega) (.slice p1 s.t.px.length q1))));simp only [aRc,aRb] at T4;go_upto_region 4 with fail
 obtain ⟨q2,x6⟩:=e_ ((w3.setCell ⟨w.heap.size+1+1,7,none⟩ s.t.log).setCell ⟨w.heap.size+1+1,8,none⟩ (.slice p1 s.t.px.length q1))
 have c8:q2.heap.size<=w3.heap.size/\w3.heap.size<=q2.heap.size:=by rw [<-x6];simp
 rw [x6] at B4 R4 T4 X4 HI HM ⊢;clear x6 B3 R3 T3 X3 dl d7 e7 d8 e8;have b9:=B4.cell 9 rfl;have bl:=B4.lt;go_wp2_with fail;refine (yF lo hi _ s.ps _ (HP.ext hh X4) (aQ5 hh X4.size) z2 ZS).mono ?_;rintro e w5 ⟨rfl,⟨hPR,hPM⟩,hlt5,x5⟩;have i5:=x5.size;clear bl b9;obtain ⟨B5,R5,T5,X5⟩:=h4_ (B4.ext x5) (R4.ext x5) (T4.ext x5) (X4.trans x5);replace HI:=hid (HI.same (x5.same (by first|exact aQv _|omega)));replace HM:=hid (HM.same (x5.same (by first|exact aQv _|omega)));clear B4 R4 T4 X4;obtain ⟨q4,q3⟩:=h2_ hPR hPM;clear x5 hPR hPM;have d9:=T5.cell 9 rfl;have e9:=T5.free 9;have dl:=T5.lt;obtain ⟨T6,B6,R6,X6⟩:=h4_ (T5.set 9 (.slice (some ⟨q2.heap.size,0,none⟩) s.ps.length s.ps.length)) (B5.other (a:=⟨w.heap.size+1+1,9,none⟩) (by simp <;> omega) (.slice (some ⟨q2.heap.size,0,none⟩) s.ps.length s.ps.length)) (R5.other (a:=⟨w.heap.size+1+1,9,none⟩) (by simp <;> omega) (.slice (some ⟨q2.heap.size,0,none⟩) s.ps.length s.ps.length)) (X5.setCell (p:=⟨w.heap.size+1+1,9,none⟩) (by simp;omega) (.slice (some ⟨q2.heap.size,0,none⟩) s.ps.length s.ps.length));replace HI:=hid (HI.same (aM.setLow w5 (p:=⟨w.heap.size+1+1,9,none⟩) (by simp only;omega) (.slice (some ⟨q2.heap.size,0,none⟩) s.ps.length s.ps.length)));replace HM:=hid (HM.same (aM.setLow w5 (p:=⟨w.heap.size+1+1,9,none⟩) (by simp only;omega) (.slice (some ⟨q2.heap.size,0,none⟩) s.ps.length s.ps.length)));replace q4:=hid (q4.same (aM.setLow w5 (p:=⟨w.heap.size+1+1,9,none⟩) (by simp only;omega) (.slice (some ⟨q2.heap.size,0,none⟩) s.ps.length s.ps.length)));replace q3:=hid (q3.same (aM.setLow w5 (p:=⟨w.heap.size+1+1,9,none⟩) (by simp only;omega) (.slice (some ⟨q2.heap.size,0,none⟩) s.ps.length s.ps.length)));simp only [aRc,aRb] at T6;go_upto_region 5 with fail
 obtain ⟨q0,x8⟩:=e_ (w5.setCell ⟨w.heap.size+1+1,9,none⟩ (.slice (some ⟨q2.heap.size,0,none⟩) s.ps.length s.ps.length))
 have c9:q0.heap.size<=w5.heap.size/\w5.heap.size<=q0.heap.size:=by rw [<-x8];simp
 rw [x8] at B6 R6 T6 X6 HI HM q4 q3 ⊢;clear x8 B5 R5 T5 X5 dl d9 e9;have y9:=B6.cell 10 rfl;have bl:=B6.lt;go_wp2_with fail;refine (yI lo hi _ s.m s.F _ (HF.ext hh X6) (aQ5 hh X6.size) z3).mono ?_;rintro e w7 ⟨rfl,z5,x7⟩;have i6:=x7.size;clear bl y9;obtain ⟨B7,R7,T7,X7⟩:=h4_ (B6.ext x7) (R6.ext x7) (T6.ext x7) (X6.trans x7);replace HI:=hid (HI.same (x7.same (by first|exact aQv _|omega)));replace HM:=hid (HM.same (x7.same (by first|exact aQv _|omega)));replace q4:=hid (q4.same (x7.same (by first|exact aQv _|omega)));replace q3:=hid (q3.same (x7.same (by first|exact aQv _|omega)));clear B6 R6 T6 X6;have i2:=z5.lt;obtain ⟨q9,x2⟩:=h2_ (z5.flats (k:=26) (n:=s.m) (cap:=s.m) (aQv _) (by unfold maxLen;omega) (lo:=q0.heap.size) (aQv _) y6) (z5.srfsM (lo:=q0.heap.size) (aQv _) z3);clear x7 z5;have y1:=T7.cell 10 rfl;have a4:=T7.free 10;have dl:=T7.lt;obtain ⟨T8,B8,R8,X8⟩:=h4_ (T7.set 10 (.slice (some ⟨q0.heap.size,0,none⟩) s.m s.m)) (B7.other (a:=⟨w.heap.size+1+1,10,none⟩) (by simp <;> omega) (.slice (some ⟨q0.heap.size,0,none⟩) s.m s.m)) (R7.other (a:=⟨w.heap.size+1+1,10,none⟩) (by simp <;> omega) (.slice (some ⟨q0.heap.size,0,none⟩) s.m s.m)) (X7.setCell (p:=⟨w.heap.size+1+1,10,none⟩) (by simp;omega) (.slice (some ⟨q0.heap.size,0,none⟩) s.m s.m));replace HI:=hid (HI.same (aM.setLow w7 (p:=⟨w.heap.size+1+1,10,none⟩) (by simp only;omega) (.slice (some ⟨q0.heap.size,0,none⟩) s.m s.m)));replace HM:=hid (HM.same (aM.setLow w7 (p:=⟨w.heap.size+1+1,10,none⟩) (by simp only;omega) (.slice (some ⟨q0.heap.size,0,none⟩) s.m s.m)));replace q4:=hid (q4.same (aM.setLow w7 (p:=⟨w.heap.size+1+1,10,none⟩) (by simp only;omega) (.slice (some ⟨q0.heap.size,0,none⟩) s.m s.m)));replace q3:=hid (q3.same (aM.setLow w7 (p:=⟨w.heap.size+1+1,10,none⟩) (by simp only;omega) (.slice (some ⟨q0.heap.size,0,none⟩) s.m s.m)));replace q9:=hid (q9.same (aM.setLow w7 (p:=⟨w.heap.size+1+1,10,none⟩) (by simp only;omega) (.slice (some ⟨q0.heap.size,0,none⟩) s.m s.m)));replace x2:=hid (x2.same (aM.setLow w7 (p:=⟨w.heap.size+1+1,10,none⟩) (by simp only;omega) (.slice (some ⟨q0.heap.size,0,none⟩) s.m s.m)));simp only [aRc,aRb] at T8;go_upto_region 6 with fail
 obtain ⟨q5,x9⟩:=e_ (w7.setCell ⟨w.heap.size+1+1,10,none⟩ (.slice (some ⟨q0.heap.size,0,none⟩) s.m s.m))
 have i0:q5.heap.size<=w7.heap.size/\w7.heap.size<=q5.heap.size:=by rw [<-x9];simp
 rw [x9] at B8 R8 T8 X8 HI HM q4 q3 q9 x2 ⊢;clear x9 B7 R7 T7 X7 dl y1 a4;obtain ⟨a0,bl,y2,a5,dl⟩:=m5_ (B8.cell 11 rfl) B8.lt (T8.cell 11 rfl) (T8.free 11) T8.lt;obtain ⟨T9,B9,R9,X9⟩:=h4_ (T8.set 11 (.int .i64 s.side)) (B8.other (a:=⟨w.heap.size+1+1,11,none⟩) (by simp <;> omega) (.int .i64 s.side)) (R8.other (a:=⟨w.heap.size+1+1,11,none⟩) (by simp <;> omega) (.int .i64 s.side)) (X8.setCell (p:=⟨w.heap.size+1+1,11,none⟩) (by simp;omega) (.int .i64 s.side));replace HI:=hid (HI.same (aM.setLow q5 (p:=⟨w.heap.size+1+1,11,none⟩) (by simp only;omega) (.int .i64 s.side)));replace HM:=hid (HM.same (aM.setLow q5 (p:=⟨w.heap.size+1+1,11,none⟩) (by simp only;omega) (.int .i64 s.side)));replace q4:=hid (q4.same (aM.setLow q5 (p:=⟨w.heap.size+1+1,11,none⟩) (by simp only;omega) (.int .i64 s.side)));replace q3:=hid (q3.same (aM.setLow q5 (p:=⟨w.heap.size+1+1,11,none⟩) (by simp only;omega) (.int .i64 s.side)));replace q9:=hid (q9.same (aM.setLow q5 (p:=⟨w.heap.size+1+1,11,none⟩) (by simp only;omega) (.int .i64 s.side)));replace x2:=hid (x2.same (aM.setLow q5 (p:=⟨w.heap.size+1+1,11,none⟩) (by simp only;omega) (.int .i64 s.side)));simp only [aRc,aRb] at T9;go_upto_region 7 with fail
 obtain ⟨q6,z0⟩:=e_ (q5.setCell ⟨w.heap.size+1+1,11,none⟩ s.side)
 have i1:q6.heap.size<=q5.heap.size/\q5.heap.size<=q6.heap.size:=by rw [<-z0];simp
 rw [z0] at B9 R9 T9 X9 HI HM q4 q3 q9 x2 ⊢;clear z0 B8 R8 T8 X8 dl y2 a5;clear bl a0;obtain ⟨d0,g0,h0,d1,g1,h1,d2,g2,h2,d3,g3,h3⟩:=m12_ (T9.cell 0 rfl) (R9.cell 0 rfl) (R9.free 0) (T9.cell 1 rfl) (R9.cell 1 rfl) (R9.free 1) (T9.cell 2 rfl) (R9.cell 2 rfl) (R9.free 2) (T9.cell 3 rfl) (R9.cell 3 rfl) (R9.free 3);obtain ⟨d4,g4,h4,d5,g5,h5,d6,g6,h6,d7,g7,h7⟩:=m12_ (T9.cell 4 rfl) (R9.cell 4 rfl) (R9.free 4) (T9.cell 5 rfl) (R9.cell 5 rfl) (R9.free 5) (T9.cell 6 rfl) (R9.cell 6 rfl) (R9.free 6) (T9.cell 7 rfl) (R9.cell 7 rfl) (R9.free 7);obtain ⟨d8,g8,h8,d9,g9,h9,y1,a9,c4,y2,c0,c5⟩:=m12_ (T9.cell 8 rfl) (R9.cell 8 rfl) (R9.free 8) (T9.cell 9 rfl) (R9.cell 9 rfl) (R9.free 9) (T9.cell 10 rfl) (R9.cell 10 rfl) (R9.free 10) (T9.cell 11 rfl) (R9.cell 11 rfl) (R9.free 11);have dl:=T9.lt;have gl:=R9.lt;have zz:w.heap.size+1+1<q6.heap.size:=T9.lt
 have zc:w.heap.size+1+1<w1.heap.size/\w1.heap.size<=w3.heap.size/\w3.heap.size<=w5.heap.size/\w5.heap.size<=w7.heap.size/\q6.heap.size=w7.heap.size:=by omega
 obtain ⟨a6,a7,z8,z7,z6,z9⟩:=h6_ (HI.same ((((((((((((aM.setLow q6 (p:=⟨w.heap.size+1,0,none⟩) (by simp only;omega) (.int .i64 s.c.w)).trans (aM.setLow _ (p:=⟨w.heap.size+1,1,none⟩) (by simp only;omega) (.int .i64 s.c.h))).trans (aM.setLow _ (p:=⟨w.heap.size+1,2,none⟩) (by simp only;omega) (.int .i64 s.c.zoom))).trans (aM.setLow _ (p:=⟨w.heap.size+1,3,none⟩) (by simp only;omega) (.int .i64 s.c.near))).trans (aM.setLow _ (p:=⟨w.heap.size+1,4,none⟩) (by simp only;omega) (.bool s.c.deep))).trans (aM.setLow _ (p:=⟨w.heap.size+1,5,none⟩) (by simp only;omega) (.int .i64 s.c.lens))).trans (aM.setLow _ (p:=⟨w.heap.size+1,6,none⟩) (by simp only;omega) (.int .i64 s.c.focus))).trans (aM.setLow _ (p:=⟨w.heap.size+1,7,none⟩) (by simp only;omega) (.int .i64 s.t.log))).trans (aM.setLow _ (p:=⟨w.heap.size+1,8,none⟩) (by simp only;omega) (.slice p1 s.t.px.length q1))).trans (aM.setLow _ (p:=⟨w.heap.size+1,9,none⟩) (by simp only;omega) (.slice (some ⟨q2.heap.size,0,none⟩) s.ps.length s.ps.length))).trans (aM.setLow _ (p:=⟨w.heap.size+1,10,none⟩) (by simp only;omega) (.slice (some ⟨q0.heap.size,0,none⟩) s.m s.m))).trans (aM.setLow _ (p:=⟨w.heap.size+1,11,none⟩) (by simp only;omega) (.int .i64 s.side)))) (HM.same ((((((((((((aM.setLow q6 (p:=⟨w.heap.size+1,0,none⟩) (by simp only;omega) (.int .i64 s.c.w)).trans (aM.setLow _ (p:=⟨w.heap.size+1,1,none⟩) (by simp only;omega) (.int .i64 s.c.h))).trans (aM.setLow _ (p:=⟨w.heap.size+1,2,none⟩) (by simp only;omega) (.int .i64 s.c.zoom))).trans (aM.setLow _ (p:=⟨w.heap.size+1,3,none⟩) (by simp only;omega) (.int .i64 s.c.near))).trans (aM.setLow _ (p:=⟨w.heap.size+1,4,none⟩) (by simp only;omega) (.bool s.c.deep))).trans (aM.setLow _ (p:=⟨w.heap.size+1,5,none⟩) (by simp only;omega) (.int .i64 s.c.lens))).trans (aM.setLow _ (p:=⟨w.heap.size+1,6,none⟩) (by simp only;omega) (.int .i64 s.c.focus))).trans (aM.setLow _ (p:=⟨w.heap.size+1,7,none⟩) (by simp only;omega) (.int .i64 s.t.log))).trans (aM.setLow _ (p:=⟨w.heap.size+1,8,none⟩) (by simp only;omega) (.slice p1 s.t.px.length q1))).trans (aM.setLow _ (p:=⟨w.heap.size+1,9,none⟩) (by simp only;omega) (.slice (some ⟨q2.heap.size,0,none⟩) s.ps.length s.ps.length))).trans (aM.setLow _ (p:=⟨w.heap.size+1,10,none⟩) (by simp only;omega) (.slice (some ⟨q0.heap.size,0,none⟩) s.m s.m))).trans (aM.setLow _ (p:=⟨w.heap.size+1,11,none⟩) (by simp only;omega) (.int .i64 s.side)))) (q4.same ((((((((((((aM.setLow q6 (p:=⟨w.heap.size+1,0,none⟩) (by simp only;omega) (.int .i64 s.c.w)).trans (aM.setLow _ (p:=⟨w.heap.size+1,1,none⟩) (by simp only;omega) (.int .i64 s.c.h))).trans (aM.setLow _ (p:=⟨w.heap.size+1,2,none⟩) (by simp only;omega) (.int .i64 s.c.zoom))).trans (aM.setLow _ (p:=⟨w.heap.size+1,3,none⟩) (by simp only;omega) (.int .i64 s.c.near))).trans (aM.setLow _ (p:=⟨w.heap.size+1,4,none⟩) (by simp only;omega) (.bool s.c.deep))).trans (aM.setLow _ (p:=⟨w.heap.size+1,5,none⟩) (by simp only;omega) (.int .i64 s.c.lens))).trans (aM.setLow _ (p:=⟨w.heap.size+1,6,none⟩) (by simp only;omega) (.int .i64 s.c.focus))).trans (aM.setLow _ (p:=⟨w.heap.size+1,7,none⟩) (by simp only;omega) (.int .i64 s.t.log))).trans (aM.setLow _ (p:=⟨w.heap.size+1,8,none⟩) (by simp only;omega) (.slice p1 s.t.px.length q1))).trans (aM.setLow _ (p:=⟨w.heap.size+1,9,none⟩) (by simp only;omega) (.slice (some ⟨q2.heap.size,0,none⟩) s.ps.length s.ps.length))).trans (aM.setLow _ (p:=⟨w.heap.size+1,10,none⟩) (by simp only;omega) (.slice (some ⟨q0.heap.size,0,none⟩) s.m s.m))).trans (aM.setLow _ (p:=⟨w.heap.size+1,11,none⟩) (by simp only;omega) (.int .i64 s.side)))) (q3.same ((((((((((((aM.setLow q6 (p:=⟨w.heap.size+1,0,none⟩) (by simp only;omega) (.int .i64 s.c.w)).trans (aM.setLow _ (p:=⟨w.heap.size+1,1,none⟩) (by simp only;omega) (.int .i64 s.c.h))).trans (aM.setLow _ (p:=⟨w.heap.size+1,2,none⟩) (by simp only;omega) (.int .i64 s.c.zoom))).trans (aM.setLow _ (p:=⟨w.heap.size+1,3,none⟩) (by simp only;omega) (.int .i64 s.c.near))).trans (aM.setLow _ (p:=⟨w.heap.size+1,4,none⟩) (by simp only;omega) (.bool s.c.deep))).trans (aM.setLow _ (p:=⟨w.heap.size+1,5,none⟩) (by simp only;omega) (.int .i64 s.c.lens))).trans (aM.setLow _ (p:=⟨w.heap.size+1,6,none⟩) (by simp only;omega) (.int .i64 s.c.focus))).trans (aM.setLow _ (p:=⟨w.heap.size+1,7,none⟩) (by simp only;omega) (.int .i64 s.t.log))).trans (aM.setLow _ (p:=⟨w.heap.size+1,8,none⟩) (by simp only;omega) (.slice p1 s.t.px.length q1))).trans (aM.setLow _ (p:=⟨w.heap.size+1,9,none⟩) (by simp only;omega) (.slice (some ⟨q2.heap.size,0,none⟩) s.ps.length s.ps.length))).trans (aM.setLow _ (p:=⟨w.heap.size+1,10,none⟩) (by simp only;omega) (.slice (some ⟨q0.heap.size,0,none⟩) s.m s.m))).trans (aM.setLow _ (p:=⟨w.heap.size+1,11,none⟩) (by simp only;omega) (.int .i64 s.side)))) (q9.same ((((((((((((aM.setLow q6 (p:=⟨w.heap.size+1,0,none⟩) (by simp only;omega) (.int .i64 s.c.w)).trans (aM.setLow _ (p:=⟨w.heap.size+1,1,none⟩) (by simp only;omega) (.int .i64 s.c.h))).trans (aM.setLow _ (p:=⟨w.heap.size+1,2,none⟩) (by simp only;omega) (.int .i64 s.c.zoom))).trans (aM.setLow _ (p:=⟨w.heap.size+1,3,none⟩) (by simp only;omega) (.int .i64 s.c.near))).trans (aM.setLow _ (p:=⟨w.heap.size+1,4,none⟩) (by simp only;omega) (.bool s.c.deep))).trans (aM.setLow _ (p:=⟨w.heap.size+1,5,none⟩) (by simp only;omega) (.int .i64 s.c.lens))).trans (aM.setLow _ (p:=⟨w.heap.size+1,6,none⟩) (by simp only;omega) (.int .i64 s.c.focus))).trans (aM.setLow _ (p:=⟨w.heap.size+1,7,none⟩) (by simp only;omega) (.int .i64 s.t.log))).trans (aM.setLow _ (p:=⟨w.heap.size+1,8,none⟩) (by simp only;omega) (.slice p1 s.t.px.length q1))).trans (aM.setLow _ (p:=⟨w.heap.size+1,9,none⟩) (by simp only;omega) (.slice (some ⟨q2.heap.size,0,none⟩) s.ps.length s.ps.length))).trans (aM.setLow _ (p:=⟨w.heap.size+1,10,none⟩) (by simp only;omega) (.slice (some ⟨q0.heap.size,0,none⟩) s.m s.m))).trans (aM.setLow _ (p:=⟨w.heap.size+1,11,none⟩) (by simp only;omega) (.int .i64 s.side)))) (x2.same ((((((((((((aM.setLow q6 (p:=⟨w.heap.size+1,0,none⟩) (by simp only;omega) (.int .i64 s.c.w)).trans (aM.setLow _ (p:=⟨w.heap.size+1,1,none⟩) (by simp only;omega) (.int .i64 s.c.h))).trans (aM.setLow _ (p:=⟨w.heap.size+1,2,none⟩) (by simp only;omega) (.int .i64 s.c.zoom))).trans (aM.setLow _ (p:=⟨w.heap.size+1,3,none⟩) (by simp only;omega) (.int .i64 s.c.near))).trans (aM.setLow _ (p:=⟨w.heap.size+1,4,none⟩) (by simp only;omega) (.bool s.c.deep))).trans (aM.setLow _ (p:=⟨w.heap.size+1,5,none⟩) (by simp only;omega) (.int .i64 s.c.lens))).trans (aM.setLow _ (p:=⟨w.heap.size+1,6,none⟩) (by simp only;omega) (.int .i64 s.c.focus))).trans (aM.setLow _ (p:=⟨w.heap.size+1,7,none⟩) (by simp only;omega) (.int .i64 s.t.log))).trans (aM.setLow _ (p:=⟨w.heap.size+1,8,none⟩) (by simp only;omega) (.slice p1 s.t.px.length q1))).trans (aM.setLow _ (p:=⟨w.heap.size+1,9,none⟩) (by simp only;omega) (.slice (some ⟨q2.heap.size,0,none⟩) s.ps.length s.ps.length))).trans (aM.setLow _ (p:=⟨w.heap.size+1,10,none⟩) (by simp only;omega) (.slice (some ⟨q0.heap.size,0,none⟩) s.m s.m))).trans (aM.setLow _ (p:=⟨w.heap.size+1,11,none⟩) (by simp only;omega) (.int .i64 s.side))));have c6:=X9.out;clear B9 HT HP HF;go_wp2;refine bodyPost_ret (v:=.agg #[s.c.w,s.c.h,s.c.zoom,s.c.near,.bool s.c.deep,s.c.lens,s.c.focus,s.t.log,.slice p1 s.t.px.length q1,.slice (some ⟨q2.heap.size,0,none⟩) s.ps.length s.ps.length,.slice (some ⟨q0.heap.size,0,none⟩) s.m s.m,s.side]) (by simp [results,results11,go_sem, *]) rfl ?_;refine ⟨_,rfl,⟨p1,q1,_,_,_,_,rfl,⟨_,_,_,rfl,y5,y7,y8,a6.out.wide (by omega) (by simp;omega),z8.out.wide (by omega) (by simp;omega),z6.out.wide (by omega) (by simp;omega)⟩,a7.out.wide (by omega) (by simp;omega),z7.out.wide (by omega) (by simp;omega),?_⟩,S_⟩;obtain ⟨a,cap,e1,e2,e3,e4⟩:=z9.out;exact ⟨a,cap,e1,e2,e3,fun i hi=>by obtain ⟨b,a8,e,h1,h2⟩:=e4 i hi;exact ⟨b,a8,e,h1.wide (by omega) (by simp;omega),h2.wide (by omega) (by simp;omega)⟩⟩
theorem aCx (lo hi lo' hi':Nat) (v v':Value) (s:Scn) (w:World) (hv:s.R lo hi w v) (hh:hi<=w.heap.size) (hv':s.R lo' hi' w v') (hh':hi'<=w.heap.size) :
  R_ 14 #[v,v'] w (.bool true):=by
 obtain ⟨tu,pu,su,rfl,-,h0,-,k1,k2,k3⟩:=hv;obtain ⟨h2,h3,h4,rfl,-,h1,-,h6,h7,h8⟩:=hv';obtain ⟨HT,q1,HP,q0,HF,h9⟩:=h6_ (show cN lo hi w (.agg #[s.t.log,tu]) s.t from ⟨_,rfl,h0,k1⟩) (show cN lo' hi' w (.agg #[s.t.log,h2]) s.t from ⟨_,rfl,h0,h6⟩) k2 h7 k3 h8;have x0:Ext w ((w.alloc (.cells #[s.c.w,s.c.h,s.c.zoom,s.c.near,.bool s.c.deep,s.c.lens,s.c.focus,s.t.log,tu,pu,su,s.side] 40)).alloc (.cells #[s.c.w,s.c.h,s.c.zoom,s.c.near,.bool s.c.deep,s.c.lens,s.c.focus,s.t.log,h2,h3,h4,s.side] 40)):=X_;have b0:=(Blk.new w 40 [s.c.w,s.c.h,s.c.zoom,s.c.near,.bool s.c.deep,s.c.lens,s.c.focus,s.t.log,tu,pu,su,s.side]).ext (show Ext (w.alloc (.cells #[s.c.w,s.c.h,s.c.zoom,s.c.near,.bool s.c.deep,s.c.lens,s.c.focus,s.t.log,tu,pu,su,s.side] 40)) ((w.alloc (.cells #[s.c.w,s.c.h,s.c.zoom,s.c.near,.bool s.c.deep,s.c.lens,s.c.focus,s.t.log,tu,pu,su,s.side] 40)).alloc (.cells #[s.c.w,s.c.h,s.c.zoom,s.c.near,.bool s.c.deep,s.c.lens,s.c.focus,s.t.log,h2,h3,h4,s.side] 40)) from X_);have r0:=Blk.new (w.alloc (.cells #[s.c.w,s.c.h,s.c.zoom,s.c.near,.bool s.c.deep,s.c.lens,s.c.focus,s.t.log,tu,pu,su,s.side] 40)) 40 [s.c.w,s.c.h,s.c.zoom,s.c.near,.bool s.c.deep,s.c.lens,s.c.focus,s.t.log,h2,h3,h4,s.side];rw [aQy] at r0;obtain ⟨B0,R0,X0⟩:=h3_ b0 r0 x0;clear h0 h1 k1 k2 k3 h6 h7 h8 b0 r0 x0;go_enter func14,ntmps14;go_upto_region 1 with fail
 obtain ⟨WA,h5⟩:=e_ ((w.alloc (.cells #[s.c.w,s.c.h,s.c.zoom,s.c.near,.bool s.c.deep,s.c.lens,s.c.focus,s.t.log,tu,pu,su,s.side] 40)).alloc (.cells #[s.c.w,s.c.h,s.c.zoom,s.c.near,.bool s.c.deep,s.c.lens,s.c.focus,s.t.log,h2,h3,h4,s.side] 40))
 rw [h5] at B0 R0 X0 ⊢;clear h5;obtain ⟨b0,r0,b1,r1,b2,r2,b3,r3,b4,r4,b5,r5⟩:=m12_ (B0.cell 0 rfl) (R0.cell 0 rfl) (B0.cell 1 rfl) (R0.cell 1 rfl) (B0.cell 2 rfl) (R0.cell 2 rfl) (B0.cell 3 rfl) (R0.cell 3 rfl) (B0.cell 4 rfl) (R0.cell 4 rfl) (B0.cell 5 rfl) (R0.cell 5 rfl);have b6:=B0.cell 6 rfl;have r6:=R0.cell 6 rfl;have bl:=B0.lt;have rl:=R0.lt;go_wp2_with fail;refine r_ (aAa _ _ _ _ _ _ _ _) fun w1 x1=>?_;obtain ⟨B1,R1,X1⟩:=h3_ (B0.ext x1) (R0.ext x1) (X0.trans x1);clear B0 R0 X0 x1 bl rl b0 r0 b1 r1 b2 r2 b3 r3 b4 r4 b5 r5 b6 r6;have b7:=B1.cell 7 rfl;obtain ⟨r7,b8,r8,bl,rl⟩:=m5_ (R1.cell 7 rfl) (B1.cell 8 rfl) (R1.cell 8 rfl) B1.lt R1.lt;go_wp2_with fail;refine r_ (vU lo hi lo' hi' _ _ s.t _ (HT.ext hh X1) (aQ5 hh X1.size) (q1.ext hh' X1) (aQ5 hh' X1.size)) fun w2 x2=>?_;obtain ⟨B2,R2,X2⟩:=h3_ (B1.ext x2) (R1.ext x2) (X1.trans x2);clear B1 R1 X1 x2 bl rl b7 r7 b8 r8;have b9:=B2.cell 9 rfl;have r9:=R2.cell 9 rfl;have bl:=B2.lt;have rl:=R2.lt;go_wp2_with fail;refine r_ (uX lo hi lo' hi' _ _ s.ps _ (HP.ext hh X2) (q0.ext hh' X2) (aQ5 hh X2.size) (aQ5 hh' X2.size)) fun w3 x3=>?_;obtain ⟨B3,R3,X3⟩:=h3_ (B2.ext x3) (R2.ext x3) (X2.trans x3);clear B2 R2 X2 x3 bl rl b9 r9;have q2:=B3.cell 10 rfl;have q3:=R3.cell 10 rfl;have bl:=B3.lt;have rl:=R3.lt;go_wp2_with fail;refine r_ (uY lo hi lo' hi' _ _ s.m s.F _ (HF.ext hh X3) (h9.ext hh' X3) (aQ5 hh X3.size) (aQ5 hh' X3.size)) fun w4 x4=>?_;obtain ⟨B4,R4,X4⟩:=h3_ (B3.ext x4) (R3.ext x4) (X3.trans x4);clear B3 R3 X3 x4 bl rl q2 q3;have q4:=B4.cell 11 rfl;have q5:=R4.cell 11 rfl;have bl:=B4.lt;have rl:=R4.lt;go_wp2;go_ret;exact ⟨rfl,X4⟩
theorem aAb (lo hi:Nat) (v:Value) (s:Scn) (k0:Int) (w:World) (hv:s.O lo hi w v) (hh:hi<=w.heap.size) (hl:lo<=hi) (hs:s.Sm) (h0:0<=k0) (h1:k0<=1000000000) :
  Calls aQ2 20 #[v,k0] w fun e w'=>(∃r,e = .returned (.int .i64 r)/\0<=r)/\jP lo hi w w':=by
 obtain ⟨a1,c1,a2,c2,a3,c3,rfl,-,hI,hP,hS⟩:=hv;obtain ⟨HI,HP,h4⟩:=h3_ hI hP hS;have z1:=hs.px;have z2:=hs.n;have z3:=hs.m;have x0:Ext w (w.alloc (.cells (sA_ s a1 c1 a2 c2 a3 c3) 40)):=X_;obtain ⟨B0,S0⟩:=h2_ (Blk.new w 40 (sL_ s a1 c1 a2 c2 a3 c3)) (Shp.of x0 hh hl);have zx:=x0.size;clear hI hP hS hs x0;go_enter func20,ntmps20;go_wp2_with fail;refine r_ (aEv lo hi _ _ s.t.px.length k0 _ (HI.shp S0) (by simp;omega) hl h0 (by omega)) fun w1 S1=>?_;obtain ⟨B1,h2⟩:=h2_ (B0.of (S1.part.block B0.lt (.inr (by omega)))) (S0.trans S1);have y1:=h2.size;have c9:=B1.cell 9 rfl;have cl:=B1.lt;clear B0 S0 S1;go_wp2_with fail;refine (tS lo hi _ s.ps.length _ _ (HP.shp h2) z2 (by omega) hl (by omega) (by omega)).mono ?_;rintro e w2 ⟨⟨r2,rfl,g1,g2⟩,S2⟩;obtain ⟨B2,h3⟩:=h2_ (B1.of (S2.part.block B1.lt (.inr (by omega)))) (h2.trans S2);have y2:=h3.size;clear B1 h2 S2 c9 cl;have h5:=B2.cell 10 rfl;have cl:=B2.lt;go_wp2_with fail;refine (tT lo hi _ s.m _ _ (h4.shp h3) z3 (by omega) hl (by omega) (by omega)).mono ?_;rintro e w3 ⟨⟨r3,rfl,g3⟩,S3⟩;go_wp2;go_ret;exact ⟨⟨_,rfl,by omega⟩,(h3.trans S3).part⟩
theorem Scn.frs_len {s:Scn} {p:Smp} {X:List aO} (h:s.frs p=X):X.length<=100000:=by
 rcases Scn.frs_cases h with ⟨ho,-,rfl⟩|⟨-,rfl⟩
 ·exact ho.seen_le p
 ·simp
theorem rC (lo hi:Nat) (v:Value) (s:Scn) (p:Smp) (w:World) {X:List aO} (hX:s.frs p=X) (hv:s.R lo hi w v) (hh:hi<=w.heap.size) (hsm:s.small) (hx:I64 p.x) (hy:I64 p.y) :
  Calls aQ2 23 #[v,.agg #[p.x,p.y,p.t,p.lx,p.ly]] w fun e w'=>∃r,e = .returned r/\FrO w.heap.size w'.heap.size w' r X.length (X.flatMap aO.cs)/\Ext w w':=by
 refine (oJ lo hi v s p w hX hv hh hsm hx hy).mono ?_;rintro e w' ⟨r,rfl,h,x⟩;exact ⟨r,rfl,h.frO,x⟩
theorem jO (lo hi:Nat) (v:Value) (s:Scn) (p:Smp) (w:World) {X:List aO} (hX:s.frs p=X) (hv:s.R lo hi w v) (hh:hi<=w.heap.size) (hsm:s.small) :
  Calls aQ2 24 #[v,.agg #[p.x,p.y,p.t,p.lx,p.ly]] w fun e w'=>∃r,e = .returned r/\FrO w.heap.size w'.heap.size w' r X.length (X.flatMap aO.cs)/\Ext w w':=by
 refine (oK lo hi v s p w hX hv hh hsm).mono ?_;rintro e w' ⟨r,rfl,h,x⟩;exact ⟨r,rfl,h.frO,x⟩
theorem aNy (vs:Value) (s:Scn) (p:Smp) (W:World) (hs:s.R 0 W.heap.size W vs) (hbs:s.bd) (hp:p.I) :
  R_ 6 #[vs,.agg #[p.x,p.y,p.t,p.lx,p.ly]] W (.bool true):=by
 obtain ⟨X,hq⟩:=e_ (s.frs p)
 obtain ⟨HQ,Hs,d1,Hp⟩:=h4_ hq hs hbs hp;obtain ⟨st,sp,sf,rfl,_⟩:=hs;clear hbs hq;go_enter func6,ntmps6;go_wp2_with fail;refine (aEz 0 W.heap.size _ s 1048576 _ (Hs.ext (aQv _) X_) (by simp <;> omega) d1 (by decide) (by decide)).mono ?_;rintro e w1 ⟨⟨rs,rfl,hrs⟩,x1⟩;obtain ⟨h1,h0⟩:=h2_ (((Bx.made W #[s.c.w,s.c.h,s.c.zoom,s.c.near,.bool s.c.deep,s.c.lens,s.c.focus,s.t.log,st,sp,sf,s.side] _).ext ((aQ6 _).alloc _)).ext x1) ((Bx.madeAt (B:=W.heap.size+1) (W.alloc _) #[p.x,p.y,p.t,p.lx,p.ly] _ (by simp)).ext x1);have E:Ext W w1:=aQ3 X_ x1;clear x1;have ps:=h1.lt;obtain ⟨q4,q6,q7,q8,q9,x0,z0,z1,y0,y1,h2,h3⟩:=h1.q12;have pp:=h0.lt;obtain ⟨h9,q0,q1,q2,q3⟩:=h0.q5
 rcases hrs with rfl|⟨ras,rbs,hss⟩
 ·go_wp2
  go_ret;exact ⟨rfl,E⟩
 have a8:=hid hss;clear hss;have pW:=h0.lt;have hX:=Scn.frs_len HQ;go_wp2_with fail;have zE:=E.size;refine aA [([0,2],1),([],3),([],4),([],5)] 99 w1.heap.size (by kernel_rfl) (by kernel_rfl) ?_;refine st_ fun K hK=>?_;go_wp2_with fail;refine (kK 0 W.heap.size _ s w1.drew (Hs.ext (aQv _) E.drew) zE a8).mono ?_;rintro e w2 ⟨v2,rfl,O2,x2⟩;have y2:Ext w1 w2:=aQ3 X_ x2;have z2:=y2.size;go_wp2;refine k_ hK (st_ fun K hK=>?_);go_wp2_with fail;refine (mZ p _).mono ?_;rintro e w3 ⟨rfl,O3,x3⟩;have y3:Ext w1 w3:=y2.trans x3;have z3:=x3.size;go_wp2;refine k_ hK (st_ fun K hK=>?_);go_wp2_with fail;refine (rC _ _ _ s p _ HQ (O2.kp (x3.kp (by first|exact aQv _|omega))).R (by omega) a8.small Hp.1 Hp.2.1).mono ?_;rintro e w4 ⟨s4,rfl,S4,x4⟩;have y4:Ext w1 w4:=y3.trans x4;have z4:=x4.size;go_wp2;refine k_ hK (st_ fun K hK=>?_);go_wp2;refine k_ hK (aC ?_);clear hK K;replace h1:=hid (h1.kp (y4.kp h1.lt));replace h0:=hid (h0.kp (y4.kp h0.lt));replace E:=E.trans y4;have h5:=hid S4;clear x2 y2 x3 y3 x4 y4 O2 O3 S4;clear ps q4 q6 q7 q8 q9 x0 z0 z1 y0 y1 h2 h3 pp h9 q0 q1 q2 q3;have ps:=h1.lt;obtain ⟨q4,q6,q7,q8,q9,x0,z0,z1,y0,y1,h2,h3⟩:=h1.q12;have pp:=h0.lt;obtain ⟨h9,q0,q1,q2,q3⟩:=h0.q5;go_wp2_with fail;have zE:=E.size;refine (kK 0 W.heap.size _ s _ (Hs.ext (aQv _) E) zE a8).mono ?_;rintro e w5 ⟨v5,rfl,O5,x5⟩;have z5:=x5.size;replace h1:=hid (h1.kp (x5.kp h1.lt));replace h0:=hid (h0.kp (x5.kp h0.lt));replace h5:=hid (h5.kp (x5.kp (by first|omega|(simp;omega))));replace E:=E.trans x5;have y5:=hid O5;obtain ⟨b5,b6,b7,b8,b9,c0,rfl⟩:=O5.form;clear x5 O5 ps q4 q6 q7 q8 q9 x0 z0 z1 y0 y1 h2 h3 pp h9 q0 q1 q2 q3;have ps:=h1.lt;obtain ⟨q4,q6,q7,q8,q9,x0,z0,z1,y0,y1,h2,h3⟩:=h1.q12;have pp:=h0.lt;obtain ⟨h9,q0,q1,q2,q3⟩:=h0.q5;go_wp2_with fail;have x6:Ext w5 (w5.alloc (.cells (sA_ s b5 b6 b7 b8 b9 c0) 40)):=X_;have h4:=hid (Bx.made w5 #[s.c.w,s.c.h,s.c.zoom,s.c.near,.bool s.c.deep,s.c.lens,s.c.focus,s.t.log,.slice b5 s.t.px.length b6,.slice b7 s.ps.length b8,.slice b9 s.m c0,s.side] 40);have z6:=x6.size;have zE:=E.size;replace h1:=hid (h1.kp (x6.kp h1.lt));replace h0:=hid (h0.kp (x6.kp h0.lt));replace h5:=hid (h5.kp (x6.kp (by first|omega|(simp;omega))));replace y5:=hid (y5.kp (x6.kp (by first|omega|(simp;omega))));replace E:=E.trans x6;clear ps q4 q6 q7 q8 q9 x0 z0 z1 y0 y1 h2 h3 pp h9 q0 q1 q2 q3
 obtain ⟨w6,c7⟩:=e_ (w5.alloc (.cells (sA_ s b5 b6 b7 b8 b9 c0) 40))
 try simp only [aQy]
 rw [c7] at h4 E z6 h1 h0 h5 y5 ⊢;clear c7 x6;have ps:=h1.lt;obtain ⟨q4,q6,q7,q8,q9,x0,z0,z1,y0,y1,h2,h3⟩:=h1.q12;have pp:=h0.lt;obtain ⟨h9,q0,q1,q2,q3⟩:=h0.q5;have xs:=h4.lt;obtain ⟨y6,y9,a0,a1,a2,a3,a4,a5,a6,a7,h6,h7⟩:=h4.q12;have zE:=E.size;refine aA [([0,1],2),([],3),([],4)] 99 w6.heap.size (by kernel_rfl) (by kernel_rfl) ?_;refine st_ fun K hK=>?_;go_wp2_with fail;refine (mZ p _).mono ?_;rintro e w7 ⟨rfl,O7,x7⟩;have y7:Ext w6 w7:=aQ3 X_ x7;have z7:=y7.size;go_wp2;refine k_ hK (st_ fun K hK=>?_);go_wp2_with fail;refine (jO _ _ _ s p _ HQ (y5.kp (y7.kp (by omega))).R (by omega) a8.small).mono ?_;rintro e w8 ⟨r8,rfl,O8,x8⟩;have y8:Ext w6 w8:=y7.trans x8;have z8:=x8.size;go_wp2;refine k_ hK (st_ fun K hK=>?_);go_wp2;refine k_ hK (aC ?_);clear hK K;replace h1:=hid (h1.kp (y8.kp h1.lt));replace h0:=hid (h0.kp (y8.kp h0.lt));replace h4:=hid (h4.kp (y8.kp h4.lt));replace h5:=hid (h5.kp (y8.kp (by first|omega|(simp;omega))));replace y5:=hid (y5.kp (y8.kp (by first|omega|(simp;omega))));replace E:=E.trans y8;have h8:=hid O8;clear x7 y7 x8 y8 O7 O8;clear ps q4 q6 q7 q8 q9 x0 z0 z1 y0 y1 h2 h3 pp h9 q0 q1 q2 q3 xs y6 y9 a0 a1 a2 a3 a4 a5 a6 a7 h6 h7;have ps:=h1.lt;obtain ⟨q4,q6,q7,q8,q9,x0,z0,z1,y0,y1,h2,h3⟩:=h1.q12;have pp:=h0.lt;obtain ⟨h9,q0,q1,q2,q3⟩:=h0.q5;have xs:=h4.lt;obtain ⟨y6,y9,a0,a1,a2,a3,a4,a5,a6,a7,h6,h7⟩:=h4.q12;go_wp2_with fail;refine r_ (mY _ _ _ _ _ _ X _ h8 h5) fun w9 x9=>?_;have z9:=x9.size;replace h1:=hid (h1.kp (x9.kp h1.lt));replace h0:=hid (h0.kp (x9.kp h0.lt));replace h4:=hid (h4.kp (x9.kp h4.lt));replace h5:=hid (h5.kp (x9.kp (by first|omega|(simp;omega))));replace y5:=hid (y5.kp (x9.kp (by first|omega|(simp;omega))));replace h8:=hid (h8.kp (x9.kp (by first|omega|(simp;omega))));replace E:=E.trans x9;clear x9 ps q4 q6 q7 q8 q9 x0 z0 z1 y0 y1 h2 h3 pp h9 q0 q1 q2 q3 xs y6 y9 a0 a1 a2 a3 a4 a5 a6 a7 h6 h7;have ps:=h1.lt;obtain ⟨q4,q6,q7,q8,q9,x0,z0,z1,y0,y1,h2,h3⟩:=h1.q12;have pp:=h0.lt;obtain ⟨h9,q0,q1,q2,q3⟩:=h0.q5;have xs:=h4.lt;obtain ⟨y6,y9,a0,a1,a2,a3,a4,a5,a6,a7,h6,h7⟩:=h4.q12;go_wp2_with fail;have zE:=E.size;refine aA [([0,1],2),([],3),([],4)] 99 w9.heap.size (by kernel_rfl) (by kernel_rfl) ?_;refine st_ fun K hK=>?_;go_wp2_with fail;refine (kK 0 W.heap.size _ s w9.drew (Hs.ext (aQv _) E.drew) zE a8).mono ?_;rintro e w10 ⟨d4,rfl,c4,c8⟩;have b4:Ext w9 w10:=aQ3 X_ c8;have d6:=b4.size;go_wp2;refine k_ hK (st_ fun K hK=>?_);go_wp2_with fail;refine r_ (aCx _ _ _ _ _ _ s _ (y5.kp (b4.kp (by omega))).R (by omega) c4.R (aQv _)) fun w11 x11=>?_;have a9:Ext w9 w11:=b4.trans x11;have d7:=x11.size;go_wp2;refine k_ hK (st_ fun K hK=>?_);go_wp2;refine k_ hK (aC ?_);clear hK K;replace h1:=hid (h1.kp (a9.kp h1.lt));replace h0:=hid (h0.kp (a9.kp h0.lt));replace h4:=hid (h4.kp (a9.kp h4.lt));replace h5:=hid (h5.kp (a9.kp (by first|omega|(simp;omega))));replace y5:=hid (y5.kp (a9.kp (by first|omega|(simp;omega))));replace h8:=hid (h8.kp (a9.kp (by first|omega|(simp;omega))));replace E:=E.trans a9;clear c8 b4 x11 a9 c4 ps q4 q6 q7 q8 q9 x0 z0 z1 y0 y1 h2 h3 pp h9 q0 q1 q2 q3 xs y6 y9 a0 a1 a2 a3 a4 a5 a6 a7 h6 h7;have ps:=h1.lt;obtain ⟨q4,q6,q7,q8,q9,x0,z0,z1,y0,y1,h2,h3⟩:=h1.q12;have pp:=h0.lt;obtain ⟨h9,q0,q1,q2,q3⟩:=h0.q5;have xs:=h4.lt;obtain ⟨y6,y9,a0,a1,a2,a3,a4,a5,a6,a7,h6,h7⟩:=h4.q12;go_wp2_with fail;refine (aAb _ _ _ s 1 _ y5 (by omega) (by omega) a8 (by omega) (by first|decide|omega)).mono ?_;rintro e w12 ⟨⟨k12,rfl,hk12⟩,x12⟩;have d8:=x12.size;have zE:=E.size;replace h1:=hid (h1.kp (x12.kp h1.lt (by first|omega|(simp;omega))));replace h0:=hid (h0.kp (x12.kp h0.lt (by first|omega|(simp;omega))));replace h4:=hid (h4.kp (x12.kp h4.lt (by first|omega|(simp;omega))));replace h5:=hid (h5.kp (x12.kp (by first|omega|(simp;omega)) (by first|omega|(simp;omega))));replace h8:=hid (h8.kp (x12.kp (by first|omega|(simp;omega)) (by first|omega|(simp;omega))));replace E:=x12.ext E (by omega);clear x12 ps q4 q6 q7 q8 q9 x0 z0 z1 y0 y1 h2 h3 pp h9 q0 q1 q2 q3 xs y6 y9 a0 a1 a2 a3 a4 a5 a6 a7 h6 h7;have ps:=h1.lt;obtain ⟨q4,q6,q7,q8,q9,x0,z0,z1,y0,y1,h2,h3⟩:=h1.q12;have pp:=h0.lt;obtain ⟨h9,q0,q1,q2,q3⟩:=h0.q5;have xs:=h4.lt;obtain ⟨y6,y9,a0,a1,a2,a3,a4,a5,a6,a7,h6,h7⟩:=h4.q12;go_wp2_with fail;refine r_ (mY _ _ _ _ _ _ X _ h8 h5) fun w13 x13=>?_;have d9:=x13.size;replace h1:=hid (h1.kp (x13.kp h1.lt));replace h0:=hid (h0.kp (x13.kp h0.lt));replace h4:=hid (h4.kp (x13.kp h4.lt));replace h5:=hid (h5.kp (x13.kp (by first|omega|(simp;omega))));replace h8:=hid (h8.kp (x13.kp (by first|omega|(simp;omega))));replace E:=E.trans x13;clear x13 ps q4 q6 q7 q8 q9 x0 z0 z1 y0 y1 h2 h3 pp h9 q0 q1 q2 q3 xs y6 y9 a0 a1 a2 a3 a4 a5 a6 a7 h6 h7;have ps:=h1.lt;obtain ⟨q4,q6,q7,q8,q9,x0,z0,z1,y0,y1,h2,h3⟩:=h1.q12;have pp:=h0.lt;obtain ⟨h9,q0,q1,q2,q3⟩:=h0.q5;have xs:=h4.lt;obtain ⟨y6,y9,a0,a1,a2,a3,a4,a5,a6,a7,h6,h7⟩:=h4.q12;clear h4 xs y6 y9 a0 a1 a2 a3 a4 a5 a6 a7 h6 h7;go_wp2_with fail;refine (aEt _ _ _ X 1 _ h8 (by omega) (by omega) (by omega)).mono ?_;rintro e w14 ⟨rfl,c3,b0⟩;have e0:=b0.size;have zE:=E.size;replace h1:=hid (h1.kp (b0.kp h1.lt (by first|omega|(simp;omega))));replace h0:=hid (h0.kp (b0.kp h0.lt (by first|omega|(simp;omega))));replace h5:=hid (h5.kp (b0.kp (by first|omega|(simp;omega)) (by first|omega|(simp;omega))));replace E:=b0.ext E (by omega);replace h8:=hid c3;clear b0 c3 ps q4 q6 q7 q8 q9 x0 z0 z1 y0 y1 h2 h3 pp h9 q0 q1 q2 q3;have ps:=h1.lt;obtain ⟨q4,q6,q7,q8,q9,x0,z0,z1,y0,y1,h2,h3⟩:=h1.q12;have pp:=h0.lt;obtain ⟨h9,q0,q1,q2,q3⟩:=h0.q5;go_wp2_with fail;refine r_ (sM _ _ _ X.length 1 _ h8 (by omega) (by omega)) fun w15 x15=>?_;have e1:=x15.size;replace h1:=hid (h1.kp (x15.kp h1.lt));replace h0:=hid (h0.kp (x15.kp h0.lt));replace h5:=hid (h5.kp (x15.kp (by first|omega|(simp;omega))));replace h8:=hid (h8.kp (x15.kp (by first|omega|(simp;omega))));replace E:=E.trans x15;clear x15 ps q4 q6 q7 q8 q9 x0 z0 z1 y0 y1 h2 h3 pp h9 q0 q1 q2 q3;have ps:=h1.lt;obtain ⟨q4,q6,q7,q8,q9,x0,z0,z1,y0,y1,h2,h3⟩:=h1.q12;have pp:=h0.lt;obtain ⟨h9,q0,q1,q2,q3⟩:=h0.q5;go_wp2_with fail;have zE:=E.size;refine aA [([0,2],1),([],3),([],4),([],5)] 99 w15.heap.size (by kernel_rfl) (by kernel_rfl) ?_;refine st_ fun K hK=>?_;go_wp2_with fail;refine (kK 0 W.heap.size _ s w15.drew (Hs.ext (aQv _) E.drew) zE a8).mono ?_;rintro e w16 ⟨d5,rfl,c5,c9⟩;have c2:Ext w15 w16:=aQ3 X_ c9;have e2:=c2.size;go_wp2;refine k_ hK (st_ fun K hK=>?_);go_wp2_with fail;refine (mZ p _).mono ?_;rintro e w17 ⟨rfl,d2,b3⟩;have d0:Ext w15 w17:=c2.trans b3;have e3:=b3.size;go_wp2;refine k_ hK (st_ fun K hK=>?_);go_wp2_with fail;refine (jO _ _ _ s p _ HQ (c5.kp (b3.kp (by first|exact aQv _|omega))).R (by omega) a8.small).mono ?_;rintro e w18 ⟨d3,rfl,c6,c1⟩;have b1:Ext w15 w18:=d0.trans c1;have e4:=c1.size;go_wp2;refine k_ hK (st_ fun K hK=>?_);go_wp2;refine k_ hK (aC ?_);clear hK K;replace h1:=hid (h1.kp (b1.kp h1.lt));replace h0:=hid (h0.kp (b1.kp h0.lt));replace h5:=hid (h5.kp (b1.kp (by first|omega|(simp;omega))));replace h8:=hid (h8.kp (b1.kp (by first|omega|(simp;omega))));replace E:=E.trans b1;have b2:=hid c6;clear c9 c2 b3 d0 c1 b1 c5 d2 c6;clear ps q4 q6 q7 q8 q9 x0 z0 z1 y0 y1 h2 h3 pp h9 q0 q1 q2 q3 h1 h0;go_wp2_with fail;refine r_ (mY _ _ _ _ _ _ X _ b2 h5) fun w19 x19=>?_;have e5:=x19.size;replace h5:=hid (h5.kp (x19.kp (by first|omega|(simp;omega))));replace h8:=hid (h8.kp (x19.kp (by first|omega|(simp;omega))));replace b2:=hid (b2.kp (x19.kp (by first|omega|(simp;omega))));replace E:=E.trans x19;clear x19;clear b2 h5;go_wp2_with fail;refine r_ (sM _ _ _ X.length 1 _ h8 (by omega) (by omega)) fun w20 x20=>?_;have e6:=x20.size;replace h8:=hid (h8.kp (x20.kp (by first|omega|(simp;omega))));replace E:=E.trans x20;clear x20;go_wp2;go_ret;exact ⟨rfl,E⟩
section
open Go.ChangeShapes Go.WideShapes Go.ChangeAt Go.RowKit
section
variable {H : Type} {enc : TypeId × Value -> H} {W : World} {base b0 : Nat} {sp : Nat -> Bool} {held : Bool}
theorem aLp {n:Int} (h:(Lit.int .i64 n).wf=true):I64 n:=by
 simp [Lit.wf,IntKind.min,IntKind.max,IntKind.signed,IntKind.bits] at h;exact ⟨by omega,by omega⟩
theorem aE0 {fuel:Nat} {c:Value} {y:DataW H×List MemPlace} (h:aUq enc aQ2 W base sp held fuel 24 [c]=some y):∃xs,aU 0 W.heap.size W c xs:=by
 rcases open_ints underlying24 underlying3 (by kernel_rfl) h with ⟨hcs,_⟩|⟨a,len,cap,zs,hcs,_,hl,hm,hz,_,hcell,hwz⟩
 ·obtain rfl:c = .slice none 0 0:=by simpa using hcs
  exact ⟨[],none,0,rfl,aQv _,by unfold maxLen;omega,fun i x hx=>by simp at hx⟩
 ·obtain rfl:c = .slice (some a) len cap:=by simpa using hcs
  have h1:(zs.take len).length=len:=by
   rw [List.length_take,hz]
   split <;> omega
  refine ⟨zs.take len,some a,cap,by rw [h1],by omega,hm,fun i x hx=>?_⟩
  have hi:i<len:=by have:=(aQz.1 hx).1;omega
  rw [aS1,if_pos hi] at hx;have h3:=(aQz.1 hx).1
  have h2:zs.getD i 0=x:=by simp [List.getD,hx]
  obtain ⟨b,o,s⟩:=a
  obtain rfl:s=none:=by
   cases s with
   | none=>rfl
   | some s=>
    have h0:=hcell 0 (by omega);simp only [aSy,aUy,if_true] at h0
    split at h0 <;> simp at h0
  have hc:=hcell i h3;rw [h2] at hc
  have ha:(⟨b,o,none⟩:Addr).add i=⟨b,o+i,none⟩:=by
   unfold aUy
   split
   ·rename_i e;subst e;rfl
   ·rfl
  rw [ha] at hc;refine ⟨aLp (hwz x (aRn hx)),b,o,rfl,aSi _,?_,hc⟩;simp only [aSy] at hc
  split at hc
  ·rename_i e;exact (aRi.1 e).1
  ·cases hc
end
end
section
open Go.ChangeShapes Go.WideShapes Go.ChangeAt Go.RowKit
def rD (P:Program):Nat->TypeId->Nat->Option TypeId
 | 0,_,_=>none
 | d+1,t,i=>
  match P.underlying t with
  | some (.struct fs)=>
   match fs.toList.find? (fun f=>decide (f.offset<=i)&&decide (i<f.offset+P.cellsOf f.type)) with
   | some f=>
    match rD P d f.type (i - f.offset) with
    | some u=>if (i - f.offset)+P.cellsOf u<=P.cellsOf f.type then some u else none
    | none=>none
   | none=>none
  | some (.array n e)=>
   if i / P.cellsOf e<n then
    match rD P d e (i % P.cellsOf e) with
    | some u=>if (i % P.cellsOf e)+P.cellsOf u<=P.cellsOf e then some u else none
    | none=>none
   else none
  | some _=>if i=0 then some t else none
  | none=>none
section
variable {H : Type} {enc : TypeId × Value -> H} {P : Program} {W : World} {base : Nat} {sp : Nat -> Bool} {held : Bool}
theorem sP {α : Type} (l:List α) (o k i c:Nat) (h1:o<=i) (h2:i - o+c<=k):((((l.drop o).take k).drop (i - o)).take c)=(l.drop i).take c:=by
 rw [List.drop_take,List.take_take,List.drop_drop,Nat.min_eq_left (by omega)]
 congr 2
 omega
theorem aA3 (d:Nat):∀{t u:TypeId} {i fuel:Nat} {cs:List Value} {x:DataW H×List MemPlace},rD P d t i=some u->aUq enc P W base sp held fuel t cs=some x ->
  (i=0/\t=u)\/∃(m:Nat) (y:DataW H×List MemPlace),aUq enc P W base sp held m u ((cs.drop i).take (P.cellsOf u))=some y:=by
 induction d with
 | zero=>intro t u i fuel cs x h;simp [rD] at h
 | succ d ih=>
  intro t u i fuel cs x h hx;unfold rD at h
  split at h
  ·rename_i fs h5
   split at h
   ·rename_i f hf
    have hp:=List.find?_some hf;simp only [aRd,decide_eq_true_eq] at hp;have hm:=List.mem_of_find?_eq_some hf
    split at h
    ·rename_i u' hu
     split at h
     ·rename_i h0
      simp only [aQ0] at h;subst h;obtain ⟨xs,n,_,_,hl,h4,hg⟩:=DataW.trod_struct h5 hx;obtain ⟨j,hj⟩:=List.getElem?_of_mem hm
      have h6:fs[j]?=some f:=by simpa using hj
      have h1:=hg j f h6
      have h8:j<xs.length:=by rw [h4];exact (aRi.1 h6).1
      rw [aQ9 h8] at h1;refine .inr ?_
      rcases ih hu h1 with ⟨h2,rfl⟩|⟨m,y,hy⟩
      ·refine ⟨n,xs[j],?_⟩
       have:f.offset=i:=by omega
       rw [<-this];exact h1
      ·rw [sP _ _ _ _ _ hp.1 h0] at hy
       exact ⟨m,y,hy⟩
     ·cases h
    ·cases h
   ·cases h
  ·rename_i n e h5
   split at h
   ·rename_i hn
    split at h
    ·rename_i u' hu
     split at h
     ·rename_i h0
      simp only [aQ0] at h;subst h;obtain ⟨xs,m',_,_,hl,h4,hg⟩:=DataW.trod_array h5 hx;have h1:=hg _ hn;rw [aQ9 (by omega)] at h1;have h7:=Nat.div_add_mod i (P.cellsOf e);rw [aUu] at h7;refine .inr ?_
      rcases ih hu h1 with ⟨h2,rfl⟩|⟨m,y,hy⟩
      ·refine ⟨m',xs[i / P.cellsOf e]'(by omega),?_⟩
       have:i / P.cellsOf e*P.cellsOf e=i:=by omega
       rw [this] at h1;exact h1
      ·have h3:i % P.cellsOf e=i - i / P.cellsOf e*P.cellsOf e:=by omega
       rw [h3] at hy h0;rw [sP _ _ _ _ _ (by omega) h0] at hy;exact ⟨m,y,hy⟩
     ·cases h
    ·cases h
   ·cases h
  ·split at h
   ·rename_i hi
    simp only [aQ0] at h;exact .inl ⟨hi,h⟩
   ·cases h
  ·cases h
def mF (P:Program) (t:TypeId) (k:Nat) (ti:TypeId):Bool:=decide (P.cellsOf t=k)&&decide (P.cellsOf ti=1)&&decide (t≠ti)&&(aRl k).all fun i=>decide (rD P 6 t i=some ti)
theorem aA4 {t ti:TypeId} {k fuel:Nat} {cs:List Value} {x:DataW H×List MemPlace} (hi:P.underlying ti=some (.int .i64)) (ho:mF P t k ti=true) (h:aUq enc P W base sp held fuel t cs=some x) :
  ∀i,i<k->∃n,cs[i]?=some (.int .i64 n)/\I64 n:=by
 intro i h0;simp only [mF,aRd,decide_eq_true_eq,List.all_eq_true,aR4] at ho;obtain ⟨⟨⟨h1,h2⟩,h3⟩,h4⟩:=ho
 rcases aA3 6 (h4 i h0) h with ⟨_,e⟩|⟨m,y,hy⟩
 ·exact absurd e h3
 ·rw [h2] at hy
  obtain ⟨n,e0,_,hw⟩:=DataW.trod_int hi hy;refine ⟨n,?_,?_⟩
  ·have:((cs.drop i).take 1)[0]?=some (.int .i64 n):=by rw [e0];rfl
   rw [aS1,if_pos (by decide),List.getElem?_drop] at this;exact this
  ·simp [Lit.wf,IntKind.min,IntKind.max,IntKind.signed,IntKind.bits] at hw
   exact ⟨by omega,by omega⟩
theorem aJt {t e ti:TypeId} {k fuel:Nat} {c:Value} {y:DataW H×List MemPlace} (ht:P.underlying t=some (.slice e)) (hi:P.underlying ti=some (.int .i64)) (ho:mF P e k ti=true) (hk:0<k)
  (h:aUq enc P W base sp held fuel t [c]=some y):∃n f,cY k 0 W.heap.size W c n f:=by
 have hC:P.cellsOf e=k:=by
  simp only [mF,aRd,decide_eq_true_eq] at ho;exact ho.1.1.1
 rcases aWm ht h with ⟨h0,_⟩|⟨a,len,cap,m,n,D,Pl,hcs,hb,hl,hm,hmm,hx,hel⟩
 ·obtain rfl:c = .slice none 0 0:=by simpa using h0
  exact ⟨0,fun _=>0,none,0,rfl,aQv _,by unfold maxLen;omega,fun i hx=>by omega⟩
 ·obtain rfl:c = .slice (some a) len cap:=by simpa using hcs
  have q1:len<=m:=by rw [hmm];split <;> omega
  rw [hC] at hel
  have h9:∀i,i<len*k->∃x,I64 x/\W.cell? (a.add (i / k*k) |>.add (i % k))=some (.int .i64 x):=by
   intro i h3;have h1:i / k<len:=(Nat.div_lt_iff_lt_mul hk).2 h3;obtain ⟨cs',hc,h6⟩:=hel (i / k) (by omega);obtain ⟨x,h7,h8⟩:=aA4 hi ho h6 (i % k) (aTp _ hk);obtain ⟨_,q0,h5⟩:=aW7 hc;exact ⟨x,h8,(h5 _ (aTp _ hk)).trans h7⟩
  have h4:∀i,∃x,i<len*k->I64 x/\W.cell? (a.add i)=some (.int .i64 x):=by
   intro i
   by_cases h3:i<len*k
   ·obtain ⟨x,h1,h2⟩:=h9 i h3
    rw [aT9] at h2
    have:i / k*k+i % k=i:=by have:=Nat.div_add_mod i k;rw [aUu] at this;omega
    rw [this] at h2;exact ⟨x,fun _=>⟨h1,h2⟩⟩
   ·exact ⟨0,fun h=>absurd h h3⟩
  obtain ⟨f,hf⟩:=aUl h4;refine ⟨len,f,some a,cap,rfl,hl,hm,fun i h3=>⟨(hf i h3).1,?_⟩⟩;have h0:=(hf 0 (by omega)).2;obtain ⟨b,o,s⟩:=a
  obtain rfl:s=none:=by
   cases s with
   | none=>rfl
   | some s=>
    simp only [aSy,aUy,if_true] at h0
    split at h0 <;> simp at h0
  have hc:=(hf i h3).2
  have ha:(⟨b,o,none⟩:Addr).add i=⟨b,o+i,none⟩:=by
   unfold aUy
   split
   ·rename_i e;subst e;rfl
   ·rfl
  rw [ha] at hc;refine ⟨b,o,rfl,aSi _,?_,hc⟩;simp only [aSy] at hc
  split at hc
  ·rename_i e;exact (aRi.1 e).1
  ·cases hc
theorem aOr {t ti:TypeId} {fs:Array Field} {k b0:Nat} {v:Value} {d:DataW H} {p:List MemPlace} (ht:P.underlying t=some (.struct fs)) (hi:P.underlying ti=some (.int .i64)) (ho:mF P t k ti=true)
  (hv:Value.okWide P W .any b0 t v) (h:bA2 enc P W base sp held t v d p):∃f:Nat->Int,v = .agg ((Array.range k).map fun i=>.int .i64 (f i))/\∀i,i<k->I64 (f i):=by
 obtain ⟨cs,rfl,h4⟩:=okWide_struct ht hv;obtain ⟨fuel,hf⟩:=h
 have hC:P.cellsOf t=k:=by
  simp only [mF,aRd,decide_eq_true_eq] at ho;exact ho.1.1.1
 have h3:∀i,∃n,i<k->cs[i]?=some (.int .i64 n)/\I64 n:=by
  intro i
  by_cases h0:i<k
  ·obtain ⟨n,h1,h2⟩:=aA4 hi ho hf i h0
   exact ⟨n,fun _=>⟨by simpa [Value.cells] using h1,h2⟩⟩
  ·exact ⟨0,fun h=>absurd h h0⟩
 obtain ⟨f,hf⟩:=aUl h3;refine ⟨f,?_,fun i h0=>(hf i h0).2⟩
 congr 1
 apply aVk;intro i
 by_cases h0:i<k
 ·rw [(hf i h0).1]
  simp [h0]
 ·simp [h0]
  omega
end
end
section
open Go.ChangeShapes Go.WideShapes Go.ChangeAt Go.RowKit
section
variable {H : Type} {enc : TypeId × Value -> H} {P : Program} {W : World} {base b0 : Nat} {sp : Nat -> Bool} {held : Bool}
theorem bK {t u:TypeId} {i fuel:Nat} {cs:List Value} {x:DataW H×List MemPlace} (hl:(rD P 6 t i==some u&&decide (t≠u)&&decide (P.cellsOf u=1))=true) (h:aUq enc P W base sp held fuel t cs=some x) (hi:i<cs.length) :
  ∃c m y,cs[i]?=some c/\aUq enc P W base sp held m u [c]=some y:=by
 simp only [aRd,beq_iff_eq,decide_eq_true_eq] at hl;obtain ⟨⟨h1,h2⟩,h3⟩:=hl
 rcases aA3 6 h1 h with ⟨_,e⟩|⟨m,y,hy⟩
 ·exact absurd e h2
 ·rw [h3,List.drop_eq_getElem_cons hi] at hy
  exact ⟨cs[i],m,y,by simp [hi],hy⟩
theorem eO {t:TypeId} {fuel:Nat} {c:Value} {y:DataW H×List MemPlace} (ht:P.underlying t=some (.int .i64)) (h:aUq enc P W base sp held fuel t [c]=some y):∃n,c = .int .i64 n/\I64 n:=by
 obtain ⟨k,e0,_,hw⟩:=DataW.trod_int ht h;exact ⟨k,by simpa using e0,aLp hw⟩
theorem aA5 {t:TypeId} {fuel:Nat} {c:Value} {y:DataW H×List MemPlace} (ht:P.underlying t=some .string) (h:aUq enc P W base sp held fuel t [c]=some y):∃s,c = .string s/\s.size<=maxLen:=by
 obtain ⟨s,e0,_,hw⟩:=DataW.trod_string ht h;exact ⟨s,by simpa using e0,hw⟩
end
section
variable {H : Type} {enc : TypeId × Value -> H} {W : World} {base b0 : Nat} {sp : Nat -> Bool} {held : Bool}
theorem aNf {fuel:Nat} {c:Value} {y:DataW H×List MemPlace} (h:aUq enc aQ2 W base sp held fuel 110 [c]=some y):∃xs,Nds 0 W.heap.size W c xs/\∀x∈xs,x.name.size<=maxLen:=by
 rcases aWm underlying110 h with ⟨hcs,_⟩|⟨a,len,cap,m,n,D,Pl,hcs,_,hl,hm,hmm,_,hel⟩
 ·obtain rfl:c = .slice none 0 0:=by simpa using hcs
  exact ⟨[],⟨none,0,rfl,aQv _,by unfold maxLen;omega,fun i x hx=>by simp at hx⟩,fun s hs=>by cases hs⟩
 ·obtain rfl:c = .slice (some a) len cap:=by simpa using hcs
  have h6:len<=m:=by rw [hmm];split <;> omega
  have hC:Tryz.prog.cellsOf 237=4:=by kernel_rfl
  rw [hC] at hel
  have h3:∀i,∃x:Nd,i<len->(I64 x.op/\I64 x.num/\x.name.size<=maxLen)/\W.cell? (a.add (i*4))=some (.int .i64 x.op)/\W.cell? (a.add (i*4+1))=some (.string x.name)/\W.cell? (a.add (i*4+2))=some (.int .i64 x.num)/\∃u,W.cell? (a.add (i*4+3))=some u/\aU 0 W.heap.size W u x.args:=by
   intro i
   by_cases h4:i<len
   ·obtain ⟨cs',hc,h2⟩:=hel i (by omega)
    obtain ⟨_,h5,h1⟩:=aW7 hc;obtain ⟨c0,m0,y0,e0,t0⟩:=bK (i:=0) (u:=3) (by kernel_rfl) h2 (by omega);obtain ⟨c1,m1,y1,e1,t1⟩:=bK (i:=1) (u:=9) (by kernel_rfl) h2 (by omega);obtain ⟨c2,m2,y2,e2,t2⟩:=bK (i:=2) (u:=3) (by kernel_rfl) h2 (by omega);obtain ⟨c3,m3,y3,e3,t3⟩:=bK (i:=3) (u:=24) (by kernel_rfl) h2 (by omega);obtain ⟨px,hx⟩:=aE0 t3;obtain ⟨n0,rfl,i0⟩:=eO underlying3 t0;obtain ⟨s,rfl,i1⟩:=aA5 underlying9 t1;obtain ⟨n2,rfl,i2⟩:=eO underlying3 t2;refine ⟨⟨n0,s,n2,px⟩,fun _=>⟨⟨i0,i2,i1⟩,?_,?_,?_,c3,?_,hx⟩⟩
    ·have:=h1 0 (by omega);rw [aT9] at this;exact this.trans e0
    ·have:=h1 1 (by omega);rw [aT9] at this;exact this.trans e1
    ·have:=h1 2 (by omega);rw [aT9] at this;exact this.trans e2
    ·have:=h1 3 (by omega);rw [aT9] at this;exact this.trans e3
   ·exact ⟨⟨0,⟨#[]⟩,0,[]⟩,fun h=>absurd h h4⟩
  obtain ⟨f,hf⟩:=aUl h3;refine ⟨(aRl len).map f,⟨some a,cap,by simp,by simpa using hl,hm,fun i x hx=>?_⟩,fun s hs=>?_⟩
  ·have hi:i<len:=by have:=(aQz.1 hx).1;simpa using this
   obtain rfl:f i=x:=by simpa [hi] using hx
   obtain ⟨⟨i0,i2,_⟩,g0,g1,g2,u,g3,hu⟩:=hf i hi;refine ⟨⟨i0,i2⟩,?_⟩;have h0:=(hf 0 (by omega)).2.1;clear hf hel h3;obtain ⟨b,o,s⟩:=a
   obtain rfl:s=none:=by
    cases s with
    | none=>rfl
    | some s=>
     simp only [aSy,aUy,aVo,if_true] at h0
     split at h0 <;> simp at h0
   have ha:∀k,(⟨b,o,none⟩:Addr).add k=⟨b,o+k,none⟩:=by
    intro k;unfold aUy
    split
    ·rename_i e;subst e;rfl
    ·rfl
   rw [ha] at g0 g1 g2 g3;refine ⟨b,o,u,rfl,aSi _,?_,g0,by rw [aSp];exact g1,by rw [aSp];exact g2,by rw [aSp];exact g3,hu⟩;simp only [aSy] at g0
   split at g0
   ·rename_i e;exact (aRi.1 e).1
   ·cases g0
  ·obtain ⟨i,hi,rfl⟩:=aS3.1 hs
   exact (hf i (aR4.1 hi)).1.2.2
theorem aLq {fuel:Nat} {c:Value} {y:DataW H×List MemPlace} (h:aUq enc aQ2 W base sp held fuel 111 [c]=some y):∃xs,nH 0 W.heap.size W c xs/\∀x∈xs,x.name.size<=maxLen:=by
 rcases aWm underlying111 h with ⟨hcs,_⟩|⟨a,len,cap,m,n,D,Pl,hcs,_,hl,hm,hmm,_,hel⟩
 ·obtain rfl:c = .slice none 0 0:=by simpa using hcs
  exact ⟨[],⟨none,0,rfl,aQv _,by unfold maxLen;omega,fun i x hx=>by simp at hx⟩,fun s hs=>by cases hs⟩
 ·obtain rfl:c = .slice (some a) len cap:=by simpa using hcs
  have h6:len<=m:=by rw [hmm];split <;> omega
  have hC:Tryz.prog.cellsOf 239=2:=by kernel_rfl
  rw [hC] at hel
  have h3:∀i,∃x:Asg,i<len->(I64 x.root/\x.name.size<=maxLen)/\W.cell? (a.add (i*2))=some (.string x.name)/\W.cell? (a.add (i*2+1))=some (.int .i64 x.root):=by
   intro i
   by_cases h4:i<len
   ·obtain ⟨cs',hc,h2⟩:=hel i (by omega)
    obtain ⟨_,h5,h1⟩:=aW7 hc;obtain ⟨c0,m0,y0,e0,t0⟩:=bK (i:=0) (u:=9) (by kernel_rfl) h2 (by omega);obtain ⟨c1,m1,y1,e1,t1⟩:=bK (i:=1) (u:=3) (by kernel_rfl) h2 (by omega);obtain ⟨s,rfl,i0⟩:=aA5 underlying9 t0;obtain ⟨n1,rfl,i1⟩:=eO underlying3 t1;refine ⟨⟨s,n1⟩,fun _=>⟨⟨i1,i0⟩,?_,?_⟩⟩
    ·have:=h1 0 (by omega);rw [aT9] at this;exact this.trans e0
    ·have:=h1 1 (by omega);rw [aT9] at this;exact this.trans e1
   ·exact ⟨⟨⟨#[]⟩,0⟩,fun h=>absurd h h4⟩
  obtain ⟨f,hf⟩:=aUl h3;refine ⟨(aRl len).map f,⟨some a,cap,by simp,by simpa using hl,hm,fun i x hx=>?_⟩,fun s hs=>?_⟩
  ·have hi:i<len:=by have:=(aQz.1 hx).1;simpa using this
   obtain rfl:f i=x:=by simpa [hi] using hx
   obtain ⟨⟨i0,_⟩,g0,g1⟩:=hf i hi;refine ⟨i0,?_⟩;have h0:=(hf 0 (by omega)).2.1;clear hf hel h3;obtain ⟨b,o,s⟩:=a
   obtain rfl:s=none:=by
    cases s with
    | none=>rfl
    | some s=>
     simp only [aSy,aUy,aVo,if_true] at h0
     split at h0 <;> simp at h0
   have ha:∀k,(⟨b,o,none⟩:Addr).add k=⟨b,o+k,none⟩:=by
    intro k;unfold aUy
    split
    ·rename_i e;subst e;rfl
    ·rfl
   rw [ha] at g0 g1;refine ⟨b,o,rfl,aSi _,?_,g0,by rw [aSp];exact g1⟩;simp only [aSy] at g0
   split at g0
   ·rename_i e;exact (aRi.1 e).1
   ·cases g0
  ·obtain ⟨i,hi,rfl⟩:=aS3.1 hs
   exact (hf i (aR4.1 hi)).1.2
end
end
section
open Go.ChangeShapes Go.WideShapes Go.ChangeAt Go.RowKit
section
variable {H : Type} {enc : TypeId × Value -> H} {P : Program} {W : World} {base b0 : Nat} {sp : Nat -> Bool} {held : Bool}
theorem aG5 {t:TypeId} {fuel:Nat} {c:Value} {y:DataW H×List MemPlace} (ht:P.underlying t=some .bool) (h:aUq enc P W base sp held fuel t [c]=some y):∃b,c = .bool b:=by
 obtain ⟨b,e0,_⟩:=DataW.trod_bool ht h;exact ⟨b,by simpa using e0⟩
end
section
variable {H : Type} {enc : TypeId × Value -> H} {W : World} {base b0 : Nat} {sp : Nat -> Bool} {held : Bool}
theorem aLr {fuel:Nat} {c:Value} {y:DataW H×List MemPlace} (h:aUq enc aQ2 W base sp held fuel 27 [c]=some y):∃ps,gL 0 W.heap.size W c ps/\∀p∈ps,p.bd:=by
 rcases aWm underlying27 h with ⟨hcs,_⟩|⟨a,len,cap,m,n,D,Pl,hcs,_,hl,hm,hmm,_,hel⟩
 ·obtain rfl:c = .slice none 0 0:=by simpa using hcs
  exact ⟨[],⟨none,0,rfl,aQv _,by unfold maxLen;omega,fun i x hx=>by simp at hx⟩,fun s hs=>by cases hs⟩
 ·obtain rfl:c = .slice (some a) len cap:=by simpa using hcs
  have h7:len<=m:=by rw [hmm];split <;> omega
  have hC:Tryz.prog.cellsOf 113=2:=by kernel_rfl
  rw [hC] at hel
  have h3:∀i,∃x:Prg,i<len->x.bd/\∃u1 u2,W.cell? (a.add (i*2))=some u1/\W.cell? (a.add (i*2+1))=some u2/\x.R 0 W.heap.size W (.agg #[u1,u2]):=by
   intro i
   by_cases h4:i<len
   ·obtain ⟨cs',hc,h2⟩:=hel i (by omega)
    obtain ⟨_,h6,h1⟩:=aW7 hc;obtain ⟨c0,m0,y0,e0,t0⟩:=bK (i:=0) (u:=110) (by kernel_rfl) h2 (by omega);obtain ⟨c1,m1,y1,e1,t1⟩:=bK (i:=1) (u:=111) (by kernel_rfl) h2 (by omega);obtain ⟨xs,hx,bx⟩:=aNf t0;obtain ⟨ls,h5,bl⟩:=aLq t1;refine ⟨⟨xs,ls⟩,fun _=>⟨⟨bx,bl⟩,c0,c1,?_,?_,_,_,rfl,hx,h5⟩⟩
    ·have:=h1 0 (by omega);rw [aT9] at this;exact this.trans e0
    ·have:=h1 1 (by omega);rw [aT9] at this;exact this.trans e1
   ·exact ⟨⟨[],[]⟩,fun h=>absurd h h4⟩
  obtain ⟨f,hf⟩:=aUl h3;refine ⟨(aRl len).map f,⟨some a,cap,by simp,by simpa using hl,hm,fun i x hx=>?_⟩,fun s hs=>?_⟩
  ·have hi:i<len:=by have:=(aQz.1 hx).1;simpa using this
   obtain rfl:f i=x:=by simpa [hi] using hx
   obtain ⟨_,u1,u2,g0,g1,hR⟩:=hf i hi;obtain ⟨_,v1,v2,h0,_⟩:=hf 0 (by omega);clear hf hel h3;obtain ⟨b,o,s⟩:=a
   obtain rfl:s=none:=by
    cases s with
    | none=>rfl
    | some s=>
     simp only [aSy,aUy,aVo,if_true] at h0
     split at h0 <;> simp at h0
   have ha:∀k,(⟨b,o,none⟩:Addr).add k=⟨b,o+k,none⟩:=by
    intro k;unfold aUy
    split
    ·rename_i e;subst e;rfl
    ·rfl
   rw [ha] at g0 g1;refine ⟨b,o,u1,u2,rfl,aSi _,?_,g0,by rw [aSp];exact g1,hR⟩;simp only [aSy] at g0
   split at g0
   ·rename_i e;exact (aRi.1 e).1
   ·cases g0
  ·obtain ⟨i,hi,rfl⟩:=aS3.1 hs
   exact (hf i (aR4.1 hi)).1
theorem aQb {v:Value} {d:DataW H} {p:List MemPlace} (hv:Value.okWide aQ2 W .any b0 30 v) (h:bA2 enc aQ2 W base sp held 30 v d p) :
  ∃s:Scn,s.R 0 W.heap.size W v/\s.bd:=by
 obtain ⟨cs,rfl,h0⟩:=okWide_struct underlying30 hv
 have hC:Tryz.prog.cellsOf 30=12:=by kernel_rfl
 rw [hC] at h0;obtain ⟨fuel,hf⟩:=h
 have h6:(Value.agg cs).cells.toList.length=12:=by simp [Value.cells,h0]
 obtain ⟨c0,m0,y0,e0,t0⟩:=bK (i:=0) (u:=3) (by kernel_rfl) hf (by omega);obtain ⟨c1,m1,y1,e1,t1⟩:=bK (i:=1) (u:=3) (by kernel_rfl) hf (by omega);obtain ⟨c2,m2,y2,e2,t2⟩:=bK (i:=2) (u:=3) (by kernel_rfl) hf (by omega);obtain ⟨c3,m3,y3,e3,t3⟩:=bK (i:=3) (u:=3) (by kernel_rfl) hf (by omega);obtain ⟨c4,m4,y4,e4,t4⟩:=bK (i:=4) (u:=4) (by kernel_rfl) hf (by omega);obtain ⟨c5,m5,y5,e5,t5⟩:=bK (i:=5) (u:=3) (by kernel_rfl) hf (by omega);obtain ⟨c6,m6,y6,e6,t6⟩:=bK (i:=6) (u:=3) (by kernel_rfl) hf (by omega);obtain ⟨c7,m7,y7,e7,t7⟩:=bK (i:=7) (u:=3) (by kernel_rfl) hf (by omega);obtain ⟨c8,m8,y8,e8,t8⟩:=bK (i:=8) (u:=24) (by kernel_rfl) hf (by omega);obtain ⟨c9,m9,y9,e9,t9⟩:=bK (i:=9) (u:=27) (by kernel_rfl) hf (by omega);obtain ⟨h1,q2,q4,h2,h9⟩:=bK (i:=10) (u:=28) (by kernel_rfl) hf (by omega);obtain ⟨q1,q3,q5,h3,q0⟩:=bK (i:=11) (u:=3) (by kernel_rfl) hf (by omega);obtain ⟨k0,rfl,i0⟩:=eO underlying3 t0;obtain ⟨k1,rfl,i1⟩:=eO underlying3 t1;obtain ⟨k2,rfl,i2⟩:=eO underlying3 t2;obtain ⟨k3,rfl,i3⟩:=eO underlying3 t3;obtain ⟨k4,rfl⟩:=aG5 underlying4 t4;obtain ⟨k5,rfl,i5⟩:=eO underlying3 t5;obtain ⟨k6,rfl,i6⟩:=eO underlying3 t6;obtain ⟨k7,rfl,i7⟩:=eO underlying3 t7;obtain ⟨px,hx⟩:=aE0 t8;obtain ⟨ps,h7,h5⟩:=aLr t9;obtain ⟨n,f,hp⟩:=aJt (k:=26) (e:=134) underlying28 underlying3 (by kernel_rfl) (by omega) h9;obtain ⟨h4,rfl,h8⟩:=eO underlying3 q0
 have e:cs=#[(k0:Value),k1,k2,k3,.bool k4,k5,k6,k7,c8,c9,h1,h4]:=by
  apply aVk;intro i;simp only [Value.cells,Array.getElem?_toList] at e0 e1 e2 e3 e4 e5 e6 e7 e8 e9 h2 h3
  match i with
  | 0=>simpa using e0
  | 1=>simpa using e1
  | 2=>simpa using e2
  | 3=>simpa using e3
  | 4=>simpa using e4
  | 5=>simpa using e5
  | 6=>simpa using e6
  | 7=>simpa using e7
  | 8=>simpa using e8
  | 9=>simpa using e9
  | 10=>simpa using h2
  | 11=>simpa using h3
  | i+12=>simp [h0]
 subst e;exact ⟨⟨⟨k0,k1,k2,k3,k4,k5,k6⟩,⟨k7,px⟩,ps,n,f,h4⟩,⟨c8,c9,h1,rfl,⟨i0,i1,i2,i3,i5,i6⟩,i7,h8,hx,h7,hp⟩,h5⟩
end
end
section
open Go.ChangeShapes Go.WideShapes Go.ChangeAt Go.RowKit
section
variable {H : Type} {enc : TypeId × Value -> H} {W : World} {base b0 : Nat} {sp : Nat -> Bool} {held : Bool}
theorem aQc {v:Value} {d:DataW H} {p:List MemPlace} (hv:Value.okWide aQ2 W .any b0 32 v) (h:bA2 enc aQ2 W base sp held 32 v d p) :
  ∃s:Smp,v = .agg #[s.x,s.y,s.t,s.lx,s.ly]/\s.I:=by
 obtain ⟨f,rfl,hi⟩:=aOr (k:=5) underlying32 underlying3 (by kernel_rfl) hv h;exact ⟨⟨f 0,f 1,f 2,f 3,f 4⟩,by simp [<-Array.toList_inj,List.range_succ],hi 0 (by decide),hi 1 (by decide),hi 2 (by decide),hi 3 (by decide),hi 4 (by decide)⟩
end
end
section
namespace fnExactSampleFragments
open Go.ChangeShapes Go.WideShapes Go.ChangeAt Go.RowKit
theorem wY:Tryz.pinned.checked.prog.funcNamed Rows.fnExactSampleFragmentsRow.func=some 6:=by kernel_rfl
end fnExactSampleFragments
end
end Go.Proofs.YthgpegkmjeigmaaGreat
