/- Texts of this claim, packed: what its theorem does not use is left out. -/
import Derived.Test.YthgpegkmjeigmaaGreatP35W5
import Derived.Test.YthgpegkmjeigmaaGreatP35W4
import Derived.Test.YthgpegkmjeigmaaGreatP35W1
import Derived.Test.YthgpegkmjeigmaaGreatP35W3
import Derived.Test.YthgpegkmjeigmaaGreatP35W2
import Derived.OpenShut
import Derived.ShutString
import Derived.ChangeOld
import Derived.Below
import Derived.Carry
import Derived.Lib.SmallJoins
import Derived.Deep.Slices
import Derived.Deep.Strs
import Derived.Test.YthgpegkmjeigmaaGreatRows
import Derived.ProofKit
set_option linter.unusedSimpArgs false
set_option linter.unusedVariables false
set_option maxRecDepth 100000
set_option maxHeartbeats 12800000
namespace Go.Proofs.YthgpegkmjeigmaaGreat
open Go.RowKit
open Go.Proofs.Tryz
open _root_.Go.Act renaming put→aU1
variable {i:Int} {xs:List Value} {b g hi hi' j k lo lo' n:Nat} {f:Nat→Int} {t:TypeId} {v:Value} {w w':World}
open _root_.Array renaming getElem?_eq_some_iff→aTx
open _root_.Bool renaming and_eq_true→aTs
open _root_.Classical renaming axiomOfChoice→aX3
open _root_.Go.Addr renaming add→aXl
open _root_.Go.DataW renaming trod→aXf
open _root_.Go.Deep renaming open_slice→aZg,add_add→aWv
open _root_.Go.Proofs.Tryz renaming prog→aTg
open _root_.Go.Proofs.YthgpegkmjeigmaaGreat.Blk renaming new→aTm
open _root_.Go.Proofs.YthgpegkmjeigmaaGreat.Ext renaming grown→aUo,refl→aTn,trans→aTi,drew→aUi
open _root_.Go.RowKit.Below renaming heap_setCell→aTo
open _root_.Go.Value renaming slice→aUk,int→aWn,cells→bDj
open _root_.Go.Value.slice renaming injEq→aTw
open _root_.Go.World renaming size_alloc→aTe,frozen?_setCell→aU9,cell?_setCell_other→aU2,cell?_setCell_same→aW5,size_setCell→aUz,cell?→aVk,cells?_some→aZ0
open _root_.Go.World.rowIs renaming congr→aVt,lt→aV3,of_block→aXa,cell→aU7,frozen→aVr
open _root_.List renaming getElem?_eq_getElem→aTk,take_of_length_le→aUe,length_take→aT0,getElem?_cons_zero→aTa,getElem?_cons_succ→aTb,take_length→aUb,getElem?_eq_some_iff→aTd,length_cons→aUs,take_succ_eq_append_getElem→aT6,take_append_drop→aWg,drop_eq_getElem_cons→aVf,set_cons_zero→aTp,getElem?_append_right→aT9,getElem?_map→aU0,mem_of_getElem?→aT2,append_nil→aVw,length_map→aUn,getElem_mem→aTy,map_cons→aVn,map_nil→aYw,length_nil→aVp,setIfInBounds_toArray→aTj,set_cons_succ→aTr,getElem?_take→aVo,range→aT3,mem_range→aUp,mem_map→aVm,filterMap_cons→aT4,getElem?_toArray→aTh,filterMap_nil→aTv
open _root_.Nat renaming le_refl→aTc,lt_or_ge→aUc,add_zero→aUq,le_trans→aTl,lt_of_lt_of_le→aUu,mul_comm→aXj,zero_add→aUa,add_mul→aVy,one_mul→aVz,add_assoc→aU5,mod_lt→aV2,reduceAdd→aWi,zero_le→aUx,zero_mul→aXv
open _root_.Option.some renaming inj→aU8,injEq→aTf
def wI (l:List aH) (k:Nat) (f:aH):Bool:=match l[k+1]? with|none=>true|some g=>decide (g.d≠f.d)
def aX (l:List aH):Nat->List Stp×Int×Int
 | 0=>([],65536,65536)
 | k+1=>match l[k]? with
  | none=>aX l k
  | some f=>if wI l k f=true/\dN (aX l k).2.1 f.al≠(aX l k).2.2 then ((aX l k).1++[⟨f.d,dN (aX l k).2.1 f.al⟩],dN (aX l k).2.1 f.al,dN (aX l k).2.1 f.al)
   else ((aX l k).1,dN (aX l k).2.1 f.al,(aX l k).2.2)
theorem aAm {l:List aH} {f:aH} (h:l[k]?=some f) (he:wI l k f=true) (hw:dN (aX l k).2.1 f.al≠(aX l k).2.2) :
  aX l (k+1)=((aX l k).1++[⟨f.d,dN (aX l k).2.1 f.al⟩],dN (aX l k).2.1 f.al,dN (aX l k).2.1 f.al):=by
 simp only [aX,h];rw [if_pos ⟨he,hw⟩]
theorem aCs {l:List aH} {f:aH} (h:l[k]?=some f) (hn : ¬(wI l k f=true/\dN (aX l k).2.1 f.al≠(aX l k).2.2)) :
  aX l (k+1)=((aX l k).1,dN (aX l k).2.1 f.al,(aX l k).2.2):=by
 simp only [aX,h];rw [if_neg hn]
theorem aLx {l:List aH} {f:aH} (h:l[k]?=some f) (hs:jN l):aW l (k+1)=(if wI l k f=true then fB (aW l k).1 f.d (dN (aW l k).2 f.al) else (aW l k).1,dN (aW l k).2 f.al):=by
 simp only [aW,h];unfold wI
 cases hg:l[k+1]? with
 | none=>rfl
 | some g=>
  have h1:=hs.d_le (Nat.lt_succ_self k) h hg;simp only [decide_eq_true_eq]
  by_cases h2:g.d=f.d
  ·rw [if_neg (by omega),if_neg (by omega)]
  ·rw [if_pos (by omega),if_pos h2]
structure aR0 (l:List aH) (k:Nat):Prop where
 one:(aW l k).1=(aX l k).1.take 64
 two:(aW l k).2=(aX l k).2.1
 w:0<=(aX l k).2.1/\(aX l k).2.1<=(aX l k).2.2/\(aX l k).2.2<=65536
 last:lQ (aX l k).1=(aX l k).2.2
 len:(aX l k).1.length<=k
theorem aCt {l:List aH} (hs:jN l):∀k,k<=l.length->aR0 l k:=by
 intro k
 induction k with
 | zero=>exact fun _=>⟨rfl,rfl,⟨by show (0:Int)<=65536;decide,Int.le_refl _,Int.le_refl _⟩,rfl,aTc _⟩
 | succ k ih=>
  intro hk;obtain ⟨i1,i2,⟨i3,i4,i5⟩,i6,i7⟩:=ih (by omega)
  obtain ⟨f,hf⟩:∃f,l[k]?=some f:=⟨_,aTk (by omega)⟩
  have hw:=aGg f.al i3;have hd:=aLx hf hs;rw [i1,i2] at hd
  obtain ⟨o,ho⟩:=e_ ((aX l k).1)
  obtain ⟨v,hv⟩:=e_ (dN (aX l k).2.1 f.al)
  obtain ⟨z,hz⟩:=e_ ((aX l k).2.2)
  by_cases hc:wI l k f=true/\dN (aX l k).2.1 f.al≠(aX l k).2.2
  ·have h0:=aAm hf hc.1 hc.2
   rw [if_pos hc.1] at hd;rw [ho,hv] at h0 hd;rw [hv,hz] at hc;rw [hv] at hw;rw [hz] at i4 i5 i6;rw [ho] at i6 i7;refine ⟨?_,?_,?_,?_,?_⟩
   ·rw [hd,h0]
    show fB (o.take 64) f.d v=(o++[(⟨f.d,v⟩:Stp)]).take 64
    unfold fB
    rcases aUc o.length 64 with h|h
    ·rw [aUe (by omega),aUe (by simp;omega),if_pos ⟨by have:=hc.2;omega,h⟩]
    ·rw [if_neg (by simp;omega),List.take_append_of_le_length h]
   ·rw [hd,h0]
   ·rw [h0]
    exact ⟨hw.1,Int.le_refl _,by show v<=65536;omega⟩
   ·rw [h0]
    exact tL _ _
   ·rw [h0]
    simp;omega
  ·have h0:=aCs hf hc
   rw [ho,hv,hz] at h0;rw [ho,hv] at hd;rw [hv,hz] at hc;rw [hv] at hw;rw [hz] at i4 i5 i6;rw [ho] at i6 i7;refine ⟨?_,?_,?_,?_,?_⟩
   ·rw [hd,h0]
    show (if wI l k f=true then fB (o.take 64) f.d v else o.take 64)=o.take 64
    split
    ·rename_i he
     have h3:v=z:=Decidable.byContradiction fun h=>hc ⟨he,h⟩;unfold fB;rw [if_neg];rintro ⟨h1,h2⟩;rw [aT0] at h2;rw [aUe (by omega),i6] at h1;omega
    ·rfl
   ·rw [hd,h0]
   ·rw [h0]
    exact ⟨hw.1,by show v<=z;omega,i5⟩
   ·rw [h0]
    exact i6
   ·rw [h0]
    show o.length<=k+1
    omega
theorem aI1 {l:List aH} (hs:jN l):zZ l=(aX l l.length).1.take 64:=(aCt hs _ (aTc _)).one
theorem aN1 {l:List Stp} (h:aD Stp.cs lo 183 2 w v l) (hl:l.length<=100000) (hlo:lo<=w.heap.size) :
  Calls aTg 119 #[v] w fun e w'=>∃r,e = .returned r/\aD Stp.cs lo 183 2 w' r (l.take 64)/\Ext w w':=by
 have HO:=hid h;obtain ⟨a,cap,rfl,-⟩:=h.form
 rcases aUc 64 l.length with hgt|hle
 ·obtain ⟨f,hf⟩:∃f,l[0]?=some f:=⟨_,aTk (by omega)⟩
  obtain ⟨g,h3,he,-,h6,h4,h5,-,h0⟩:=aD.at h (fun _=>rfl) hf;simp only [aTw,true_and] at he;obtain ⟨rfl,rfl⟩:=he;have R0:=Rd.cut (sz:=2) (fun _=>rfl) (h.rd (fun _=>rfl)) (Nat.le_of_lt hgt);clear h hf h0;have x0:Ext w (w.alloc (.cells #[] 183)):=X_;obtain ⟨HR,h2,h1⟩:=h3_ (R0.ext (aTc _) x0) x0 (aD.freshC (cs:=Stp.cs) (sz:=2) hlo (aTm w 183 []));have hd:decide (64<(l.length:Int))=true:=decide_eq_true (by omega)
  have h7:64<=cap:=by omega
  have HL:=hid (show ([]:List Stp).length+(l.take 64).length<=10000000 by simp;omega);clear R0 x0;go_enter func119,ntmps119;go_wp2_with (at_builtin;refine cU Stp.cs 183 2 16 _ _ rfl _ _ 101 rfl underlying101 qG rfl (by decide) (by decide) (fun _=>rfl) Stp.one lo (.slice (some ⟨w.heap.size,0,none⟩) 0 0) [] rfl h1 _ _ _ (l.take 64) rfl HR HL (by simp;omega) ?_;intro v6 w6 hown hg);obtain ⟨HX,HW⟩:=h2_ (aUo h2 hg (fun k e=>by have:w.heap.size=k:=aU8 e;omega)) hown;clear hown hg;go_wp2;go_ret;exact ⟨_,rfl,HW,HX⟩
 ·have hd:decide (64<(l.length:Int))=false:=decide_eq_false (by omega)
  clear h;go_enter func119,ntmps119;go_wp2;go_ret;exact ⟨_,rfl,by rw [aUe hle];exact HO,aTn _⟩
theorem aGp {fs:List aH} (h:aD aH.cs lo 95 5 w v fs) (hl:fs.length<=100000) :
  Calls aTg 69 #[v] w fun e w'=>∃r,e = .returned r/\aD Stp.cs w.heap.size 183 2 w' r (fT fs)/\Ext w w':=by
 have HO:=hid h;obtain ⟨a,cap,rfl,-⟩:=h.form;obtain ⟨HL,z6⟩:=h2_ (aTm w 95 []) (show Ext w (w.alloc (.cells #[] 95)) from X_);clear h;go_enter func69,ntmps69;go_wp2
 go_loopw [3,15] (fun u x wr=>∃k:Nat,k<=fs.length/\x = .int .i64 (k:Nat)/\aD aH.cs w.heap.size 95 5 wr u (cW [] ((fs.take k).filter fun f=>inB f.d (-1000000) 1000000))/\Ext w wr) (fun _ x _=>fs.length - (intOf x).toNat)
 case atStart=>exact ⟨0,by omega,rfl,aD.freshC (aTc _) HL,z6⟩
 case round=>
  clear HL z6;obtain ⟨k,hk,rfl,ho,hx⟩:=hrel;have HX:=hid hx;have zr:=hx.size
  rcases aUc k fs.length with hlt|hge
  ·obtain ⟨f,hf⟩:∃f,fs[k]?=some f:=⟨_,aTk hlt⟩
   obtain ⟨g,x9,he,-,y6,z0,y5,-,h0⟩:=aD.at (aD.ext HO hx) (fun _=>rfl) hf;simp only [aTw,true_and] at he;obtain ⟨rfl,rfl⟩:=he;have c0:=h0 0 (by decide);have c1:=h0 1 (by decide);have c2:=h0 2 (by decide);have c3:=h0 3 (by decide);have c4:=h0 4 (by decide);simp only [aH.cs,aUq,aTa,aTb] at c0 c1 c2 c3 c4;have XB:=hid (show Ext wr (wr.alloc (.cells #[f.d,f.s,f.c,f.col,f.al] 95)) from X_)
   obtain ⟨b,hb⟩:=e_ (inB f.d (-1000000) 1000000)
   have HB:=hid hb;have y7:=aEg (fs:=fs) (k:=k) (P:=fun f=>inB f.d (-1000000) 1000000)
   obtain ⟨F,hF⟩:=e_ (cW [] ((fs.take k).filter fun f=>inB f.d (-1000000) 1000000))
   rw [hF] at ho y7;have HR:=hid ho;obtain ⟨ra,rc,rfl,-⟩:=aD.form ho
   cases b
   ·have hs:=aJ4 (P:=fun f=>inB f.d (-1000000) 1000000) hf hb
    rw [hF] at hs;have HS:=hid hs;clear hf h0 ho hx hb hF hs;go_wp2_with (go_at_call 46;refine z_ (aF HB _) ?_);go_roundw
    case rel=>exact ⟨k+1,by omega,by go_num,by rw [HS];exact HR.ext XB,HX.trans XB⟩
    case measure=>simp [intOf];omega
   ·have hs:=aGo (P:=fun f=>inB f.d (-1000000) 1000000) hf hb
    rw [hF] at hs;obtain ⟨HS,y1⟩:=h2_ hs (show F.length<=100000 by omega);clear hf h0 ho hx hb hF hs;go_wp2_with fail;refine z_ (aF HB _) ?_;go_wp2_with fail;refine (wB _ _ _ f _ (HR.ext XB) y1).mono ?_;rintro e w3 ⟨v3,rfl,o3,x3⟩;obtain ⟨P1,P2⟩:=h2_ (o3.low (lo':=w.heap.size) (by rw [aTe];omega)) (HX.trans (XB.trans x3));clear o3 x3;go_wp2;go_roundw
    case rel=>exact ⟨k+1,by omega,by go_num,by rw [HS];exact P1,P2⟩
    case measure=>simp [intOf];omega
  ·obtain rfl:k=fs.length:=by omega
   obtain ⟨F,hF⟩:=e_ (aAa fs)
   have h9:=ho;rw [aUb] at h9;change aD aH.cs w.heap.size 95 5 wr _ (aAa fs) at h9;rw [hF] at h9;have HS:=hid (show jN F from hF▸sB fs)
   have z3:=hid (show F.length<=100000 by
    have:=aEg (fs:=fs) (k:=fs.length) (P:=fun f=>inB f.d (-1000000) 1000000);rw [aUb] at this;rw [<-hF]
    exact aTl this hl)
   have q9:=hid h9;obtain ⟨oa,oc,rfl,-⟩:=aD.form h9;obtain ⟨HD,x6,h7⟩:=h3_ (show zZ F=fT fs by rw [<-hF];rfl) (aTm wr 183 []) (show Ext wr (wr.alloc (.cells #[] 183)) from X_)
   obtain ⟨W2,z7⟩:=i_ wr
   rw [<-z7] at q9 x6 h7 HX zr ⊢;clear ho hx h9 hF z7;go_wp2
   go_loopw [6,7,8,29] (fun u t z x wr=>∃k:Nat,k<=F.length/\x = .int .i64 (k:Nat)/\t = .int .i64 (aX F k).2.1/\z = .int .i64 (aX F k).2.2/\aD Stp.cs W2.heap.size 183 2 wr u (aX F k).1/\aD aH.cs w.heap.size 95 5 wr (.slice oa F.length oc) F/\Ext w wr/\W2.heap.size<=wr.heap.size) (fun _ _ _ x _=>F.length - (intOf x).toNat)
   case atStart=>exact ⟨0,by omega,rfl,rfl,rfl,aD.freshC (aTc _) x6,q9.ext h7,HX.trans h7,h7.size⟩
   case round=>
    clear q9 x6 HX;obtain ⟨k,hk,rfl,rfl,rfl,hu,ho,hx,a2⟩:=hrel;have q4:=hid a2;obtain ⟨i1,i2,i3,i4,i5⟩:=aCt HS k hk
    obtain ⟨X,hX⟩:=e_ ((aX F k).1)
    obtain ⟨t,ht⟩:=e_ ((aX F k).2.1)
    obtain ⟨z,hz⟩:=e_ ((aX F k).2.2)
    have z8:=hX;rw [hX] at hu i5;rw [ht,hz] at i3;rw [ht,hz];obtain ⟨b2,b3,b4⟩:=i3;obtain ⟨HX,HT,HZ,HU,HF,HE⟩:=h6_ hX ht hz hu ho hx;have zw:=hx.size;obtain ⟨ua,uc,rfl,-⟩:=aD.form hu
    rcases aUc k F.length with hlt|hge
    ·obtain ⟨f,hf⟩:∃f,F[k]?=some f:=⟨_,aTk hlt⟩
     obtain ⟨g,x9,he,-,y6,z0,y5,-,h0⟩:=aD.at ho (fun _=>rfl) hf;simp only [aTw,true_and] at he;obtain ⟨rfl,rfl⟩:=he;have c0:=h0 0 (by decide);have c1:=h0 1 (by decide);have c2:=h0 2 (by decide);have c3:=h0 3 (by decide);have c4:=h0 4 (by decide);simp only [aH.cs,aUq,aTa,aTb] at c0 c1 c2 c3 c4;have a3:=hid hf
     obtain ⟨ca,q5⟩:=e_ (aQ f.al 0 256)
     have ba:=xU f.al;rw [q5] at ba
     obtain ⟨p,hp⟩:=e_ (t*ca)
     have bp:0<=p/\p<=t*256:=hp▸⟨Int.mul_nonneg b2 ba.1,Int.mul_le_mul_of_nonneg_left ba.2 b2⟩
     obtain ⟨q,hq⟩:=e_ (p / 256)
     have bq:0<=q/\q<=t:=by omega
     have hw:dN (aX F k).2.1 f.al=t - q:=by
      unfold dN;rw [ht,q5,hp,hq]
     have HA:=hid q5
     have i1 : -9223372036854775808<=p/\p<=9223372036854775807:=by omega
     obtain ⟨wt,y9⟩:=e_ (t - q)
     rw [y9] at hw;have HW:=hid hw
     have bw:0<=wt/\wt<=65536:=by omega
     obtain ⟨XB,ZU,z5⟩:=h3_ (show Ext wr (wr.alloc (.cells #[f.d,f.s,f.c,f.col,f.al] 95)) from X_) (show W2.heap.size<=wr.heap.size from q4) (show X.length<1000000 by have:=z3.out;omega)
     have z4:=hid (fun (h1:wI F k f=true) (h2:wt≠z)=>(show aX F (k+1)=(X++[⟨f.d,wt⟩],wt,wt) by
      have h:=aAm hf h1 (by rw [hw,hz];exact h2);rw [hw,hX] at h
      exact h))
     have x7:=hid (fun (h1 : ¬(wI F k f=true/\wt≠z))=>(show aX F (k+1)=(X,wt,z) by
      have h:=aCs hf (by rw [hw,hz];exact h1);rw [hw,hX,hz] at h
      exact h))
     clear hf h0 q5 hu hx hX ht hz hw ho i2 i4 z8 i5
     obtain ⟨eb,q3⟩:=e_ (wI F k f)
     have q1:=hid q3
     rcases aUc (k+1) F.length with hlt2|hge2
     ·obtain ⟨f2,z1⟩:∃f,F[k+1]?=some f:=⟨_,aTk hlt2⟩
      obtain ⟨g2,y4,z9,-,-,-,-,-,h6⟩:=aD.at HF (fun _=>rfl) z1;simp only [aTw,true_and,aTf,Addr.mk.injEq,and_true] at z9;obtain ⟨rfl,rfl⟩:=z9;have d0:=h6 0 (by decide);simp only [aH.cs,aUq,aTa,aTb] at d0
      have y8:(((k:Nat):Int)+1==((F.length:Nat):Int))=false:=by simp;omega
      have q6:decide (f2.d≠f.d)=eb:=by rw [<-q3];unfold wI;rw [z1]
      clear h6 z1 q3
      cases eb
      ·have hd:f2.d=f.d:=by simpa using q6
       clear q6;go_wp2_with (go_at_call 77;refine z_ (cL HA _) ?_)
       go_quiet (fail)
       go_wp2;go_roundw
       case rel=>
        have h3:=x7.out (by rw [q1];simp);exact ⟨k+1,by omega,by go_num,by rw [h3],by rw [h3],by rw [h3];exact HU.ext (XB.trans X_),HF.ext (XB.trans X_),HE.trans (XB.trans X_),aTl q4 (XB.trans (w2:=_) X_).size⟩
       case measure=>simp [intOf];omega
      ·have hd : ¬f2.d=f.d:=by simpa using q6
       have a4:(f2.d==f.d)=false:=by simpa using hd
       have a5:(f2.d != f.d)=true:=by simpa using hd
       clear q6
       by_cases hz:wt=z
       ·subst hz
        go_wp2_with (go_at_call 77;refine z_ (cL HA _) ?_)
        go_quiet (fail)
        go_wp2;go_roundw
        case rel=>
         have h3:=x7.out (by rw [q1];simp);exact ⟨k+1,by omega,by go_num,by rw [h3],by rw [h3],by rw [h3];exact HU.ext (XB.trans X_),HF.ext (XB.trans X_),HE.trans (XB.trans X_),aTl q4 (XB.trans (w2:=_) X_).size⟩
        case measure=>simp [intOf];omega
       ·have a0:(wt==z)=false:=by simpa using hz
        have a1:(wt != z)=true:=by simpa using hz
        have x8:=hid hz;go_wp2_with (go_at_call 77;refine z_ (cL HA _) ?_)
        go_quiet (fail)
        obtain ⟨WD,h8⟩:=e_ ((wr.alloc (.cells #[f.d,f.s,f.c,f.col,f.al] 95)).drewN nq)
        have xd:Ext (wr.alloc (.cells #[f.d,f.s,f.c,f.col,f.al] 95)) WD:=h8▸(aTn _).drewN nq;rw [h8];have bF:=(aTm wr 95 [f.d,f.s,f.c,f.col,f.al]).ext xd;have e0:=bF.cell 0 rfl;have el:=bF.lt;obtain ⟨XD,q0,XN⟩:=h3_ (XB.trans xd) (aTm WD 183 [f.d,wt]) (show Ext WD (WD.alloc (.cells #[f.d,wt] 183)) from X_);obtain ⟨q2,q8,q7⟩:=h3_ (HU.ext (XD.trans XN)) (HF.ext (XD.trans XN)) (HE.trans (XD.trans XN));have zN:=(HE.trans XD).size;have zM:=h7.size;have zO:=XD.size;have h5:=hid (show W2.heap.size<=(WD.alloc (.cells #[f.d,wt] 183)).heap.size by have:=ZU.out;simp;omega);clear h8 xd bF
        go_wp2_with (at_builtin;refine bZ Stp.cs 183 2 16 _ _ rfl _ _ 101 rfl underlying101 qG rfl (by decide) (by decide) (fun _=>rfl) W2.heap.size (.slice ua X.length uc) X rfl q2 ⟨f.d,wt⟩ WD.heap.size rfl (fun jj hj=>by
          rcases (show jj=0\/jj=1 by omega) with rfl|rfl
          ·exact q0.cell 0 rfl
          ·exact q0.cell 1 rfl) (Stp.one _) z5 h5 ?_;intro v2 w2 hown hg)
        have h4:=aD.rowE q2;have h3:=z4.out q1 x8;obtain ⟨x0,x1,x2,x4,HH⟩:=h5_ (show aD Stp.cs W2.heap.size 183 2 w2 v2 (aX F (k+1)).1 by rw [h3];exact hown) (q8.grownE hg (by decide) (fun k e=>(h4 k e).2)) (aUo q7 hg (fun k e=>by have:=(h4 k e).1;omega)) (show W2.heap.size<=w2.heap.size from aTl h5 hg.size) h3;clear hown hg h4 h3;go_wp2;go_roundw
        case rel=>exact ⟨k+1,by omega,by go_num,by rw [HH],by rw [HH],x0,x1,x2,x4⟩
        case measure=>simp [intOf];omega
     ·have y0:F[k+1]?=none:=List.getElem?_eq_none (by omega)
      have y8:((k:Nat):Int)+1=((F.length:Nat):Int):=by omega
      obtain rfl:eb=true:=by rw [<-q3];unfold wI;rw [y0]
      clear y0 q3
      by_cases hz:wt=z
      ·subst hz
       go_wp2_with (go_at_call 77;refine z_ (cL HA _) ?_)
       go_quiet (fail)
       go_wp2;go_roundw
       case rel=>
        have h3:=x7.out (by rw [q1];simp);exact ⟨k+1,by omega,by go_num,by rw [h3],by rw [h3],by rw [h3];exact HU.ext (XB.trans X_),HF.ext (XB.trans X_),HE.trans (XB.trans X_),aTl q4 (XB.trans (w2:=_) X_).size⟩
       case measure=>simp [intOf];omega
      ·have a0:(wt==z)=false:=by simpa using hz
       have a1:(wt != z)=true:=by simpa using hz
       have x8:=hid hz;go_wp2_with (go_at_call 77;refine z_ (cL HA _) ?_)
       go_quiet (fail)
       obtain ⟨WD,h8⟩:=e_ ((wr.alloc (.cells #[f.d,f.s,f.c,f.col,f.al] 95)).drewN nq)
       have xd:Ext (wr.alloc (.cells #[f.d,f.s,f.c,f.col,f.al] 95)) WD:=h8▸(aTn _).drewN nq;rw [h8];have bF:=(aTm wr 95 [f.d,f.s,f.c,f.col,f.al]).ext xd;have e0:=bF.cell 0 rfl;have el:=bF.lt;obtain ⟨XD,q0,XN⟩:=h3_ (XB.trans xd) (aTm WD 183 [f.d,wt]) (show Ext WD (WD.alloc (.cells #[f.d,wt] 183)) from X_);obtain ⟨q2,q8,q7⟩:=h3_ (HU.ext (XD.trans XN)) (HF.ext (XD.trans XN)) (HE.trans (XD.trans XN));have zN:=(HE.trans XD).size;have zM:=h7.size;have zO:=XD.size;have h5:=hid (show W2.heap.size<=(WD.alloc (.cells #[f.d,wt] 183)).heap.size by have:=ZU.out;simp;omega);clear h8 xd bF
       go_wp2_with (at_builtin;refine bZ Stp.cs 183 2 16 _ _ rfl _ _ 101 rfl underlying101 qG rfl (by decide) (by decide) (fun _=>rfl) W2.heap.size (.slice ua X.length uc) X rfl q2 ⟨f.d,wt⟩ WD.heap.size rfl (fun jj hj=>by
         rcases (show jj=0\/jj=1 by omega) with rfl|rfl
         ·exact q0.cell 0 rfl
         ·exact q0.cell 1 rfl) (Stp.one _) z5 h5 ?_;intro v2 w2 hown hg)
       have h4:=aD.rowE q2;have h3:=z4.out q1 x8;obtain ⟨x0,x1,x2,x4,HH⟩:=h5_ (show aD Stp.cs W2.heap.size 183 2 w2 v2 (aX F (k+1)).1 by rw [h3];exact hown) (q8.grownE hg (by decide) (fun k e=>(h4 k e).2)) (aUo q7 hg (fun k e=>by have:=(h4 k e).1;omega)) (show W2.heap.size<=w2.heap.size from aTl h5 hg.size) h3;clear hown hg h4 h3;go_wp2;go_roundw
       case rel=>exact ⟨k+1,by omega,by go_num,by rw [HH],by rw [HH],x0,x1,x2,x4⟩
       case measure=>simp [intOf];omega
    ·obtain rfl:k=F.length:=by omega
     obtain ⟨HC,y3⟩:=h2_ (show X.take 64=zZ F by rw [aI1 HS,HX]) (show X.length<=100000 by have:=z3.out;omega);clear hu hx ho hX ht hz z8;go_wp2_with fail;refine (aN1 (HU.low (lo':=w.heap.size) (by have:=h7.size;omega)) y3 (by omega)).mono ?_;rintro e w5 ⟨r,rfl,hr,x5⟩
     have z2:aD Stp.cs w.heap.size 183 2 w5 r (fT fs):=by rw [<-HD,<-HC];exact hr
     obtain ⟨ra,rc,rfl,-⟩:=aD.form z2;have y2:=hid z2;clear z2;have X5:=hid (HE.trans x5);clear hr x5;go_wp2;go_ret;exact ⟨_,rfl,y2,X5⟩
open Classical in
noncomputable def Scn.dps (s:Scn) (i j:Int):List (List Stp):=if (s.okB&&(inB i 0 (s.c.w - 1)&&inB j 0 (s.c.h - 1)))=true then s.deeps i j s.side.toNat (s.side.toNat*s.side.toNat) else []
theorem Scn.dps_cases {s:Scn} {j:Int} {L:List (List Stp)} (h:s.dps i j=L):(∃sd,aNy s i j sd/\L=s.deeps i j sd (sd*sd))\/((s.okB&&(inB i 0 (s.c.w - 1)&&inB j 0 (s.c.h - 1)))=false/\L=[]):=by
 unfold Scn.dps at h
 split at h
 ·rename_i h1
  exact .inl ⟨_,aNz h1,h.symm⟩
 ·rename_i h1
  exact .inr ⟨by simpa using h1,h.symm⟩
theorem Scn.dps_ok {s:Scn} {j:Int} {L:List (List Stp)} (h:s.dps i j=L):(∀l∈L,tK l)/\L.length<=16:=by
 rcases Scn.dps_cases h with ⟨sd,hp,rfl⟩|⟨-,rfl⟩
 ·exact ⟨Scn.deeps_ok,by rw [Scn.deeps_len (aTc _)];rcases hp.s3 with rfl|rfl|rfl <;> decide⟩
 ·simp
theorem fU.none:fU lo w (.slice none 0 0) []:=⟨[],rfl,aD.nil _ _ _ _ _,fun k u l hu=>by simp at hu,List.Pairwise.nil⟩
theorem dM.same {v2:Value} {rows:List (List Int)} (h:dM lo w v v2 rows) (hz:w.heap.size<=w'.heap.size) (k:∀b,lo<=b->b<w.heap.size->w'.heap[b]?=w.heap[b]?):dM lo w' v v2 rows:=by
 obtain ⟨us,h1,h2,h3⟩:=h;refine ⟨us,h1,aD.of h2 fun b c hb hc=>(k b hb (aTx.1 hc).1).trans hc,fun q u r hu hr=>?_⟩;obtain ⟨l,h,a0,a1,a2,a3,a4⟩:=h3 q u r hu hr;exact ⟨l,h,a0,aTl a1 hz,a2.same fun b b1 b2=>k b (by omega) (by omega),a3,a4⟩
theorem aAd.same {s:Scn} {cv av:Value} (h:aAd s lo w cv av j) (hz:w.heap.size<=w'.heap.size) (k:∀b,lo<=b->b<w.heap.size->w'.heap[b]?=w.heap[b]?):aAd s lo w' cv av j:=⟨h.c.same hz k,h.a.same hz k,h.ap⟩
theorem aBt (s:Scn) (lo hi:Nat) (v:Value) (i j:Int) (w:World) (hv:s.R lo hi w v) (hh:hi<=w.heap.size) (hsm:s.small) (hb:(s.okB&&(inB i 0 (s.c.w - 1)&&inB j 0 (s.c.h - 1)))=false) :
  R_ 28 #[v,i,j] w (.slice none 0 0):=by
 obtain ⟨HV,q8⟩:=h2_ hv hsm;obtain ⟨a1,c1,a2,c2,a3,c3,rfl⟩:=hv.formV
 obtain ⟨b0,q5⟩:=e_ s.okB
 obtain ⟨b1,q6⟩:=e_ (inB i 0 (s.c.w - 1))
 obtain ⟨b2,q7⟩:=e_ (inB j 0 (s.c.h - 1))
 obtain ⟨H0,H1,H2,HB⟩:=h4_ q5 q6 q7 hb;clear hv hsm hb q5 q6 q7;have x0:Ext w (w.alloc (.cells (sA_ s a1 c1 a2 c2 a3 c3) 40)):=X_;have bS:=(aTm w 40 (sL_ s a1 c1 a2 c2 a3 c3)).ext (show Ext _ (w.alloc (.cells (sA_ s a1 c1 a2 c2 a3 c3) 40)) from X_)
 try simp only [aTe] at bS
 obtain ⟨W0,h3⟩:=e_ (w.alloc (.cells (sA_ s a1 c1 a2 c2 a3 c3) 40))
 rw [h3] at x0 bS;obtain ⟨h2,q9⟩:=h2_ x0 h3;have z0:=bS.lt;have q4:=hid bS;clear x0 h3 bS;go_enter func28,ntmps28;go_upto_region 1 with fail;rw [q9];have bq:=q4.ext (aTn _);obtain ⟨h4,h5,h6,h7,h8,h9,q0,q1,q2,q3,h0,h1⟩:=bq.q12;have sl:=bq.lt;clear bq;go_wp2_with fail;have CH:=lP s lo hi _ _ (HV.ext hh h2) (aTl hh h2.size) q8;rw [H0] at CH;refine CH.mono ?_;clear CH;rintro e w3 ⟨rfl,x3⟩;have X3:=hid x3;clear x3;clear sl h4 h5 h6 h7 h8 h9 q0 q1 q2 q3 h0 h1;have bq:=q4.ext X3;obtain ⟨h4,h5,h6,h7,h8,h9,q0,q1,q2,q3,h0,h1⟩:=bq.q12;have sl:=bq.lt;clear bq
 cases b0
 ·go_wp2
  go_ret;exact ⟨rfl,h2.trans X3⟩
 ·have ho:=Scn.okB_iff.1 H0
  have x2:=ho.c.w;have x1:=ho.c.h;clear ho;go_wp2_with fail;refine r_ (aEh s.c i j H1 H2 (by omega) (by omega) _) fun w4 x4=>?_;have X4:=hid (X3.trans x4);clear x4;clear sl h4 h5 h6 h7 h8 h9 q0 q1 q2 q3 h0 h1
  have hf:(b1&&b2)=false:=by
   have h:=HB.out;rw [H0,H1,H2,Bool.true_and] at h;exact h
  rw [hf];clear hf;go_wp2;go_ret;exact ⟨rfl,h2.trans X4⟩
theorem aAn (lo hi:Nat) (v:Value) (s:Scn) (i j:Int) (w:World) {L:List (List Stp)} (hL:s.dps i j=L) (hv:s.R lo hi w v) (hh:hi<=w.heap.size) (hsm:s.small) :
  Calls aTg 28 #[v,i,j] w fun e w'=>∃r,e = .returned r/\fU w.heap.size w' r L/\Ext w w':=by
 rcases Scn.dps_cases hL with ⟨sd,hp,rfl⟩|⟨hb,rfl⟩
 ·exact aAk s lo hi v i j sd w hv hh hp.o hsm hp.hsd hp.hi hp.hj
 ·refine (aBt s lo hi v i j w hv hh hsm hb).mono ?_
  rintro e w' ⟨rfl,x⟩;exact ⟨_,rfl,fU.none,x⟩
theorem aAo (lo hi:Nat) (v:Value) (s:Scn) (i j:Int) (w:World) {L:List (List Stp)} (hL:s.dps i j=L) (hv:s.R lo hi w v) (hh:hi<=w.heap.size) (hsm:s.small) :
  Calls aTg 27 #[v,i,j] w fun e w'=>∃r,e = .returned r/\fU w.heap.size w' r L/\Ext w w':=by
 obtain ⟨HQ,HV,a6⟩:=h3_ (Scn.dps_cases hL) hv hsm;obtain ⟨a1,c1,a2,c2,a3,c3,rfl⟩:=hv.formV
 obtain ⟨b0,b3⟩:=e_ s.okB
 obtain ⟨b1,b4⟩:=e_ (inB i 0 (s.c.w - 1))
 obtain ⟨b2,b5⟩:=e_ (inB j 0 (s.c.h - 1))
 obtain ⟨H0,H1,H2⟩:=h3_ b3 b4 b5;clear hv hsm hL b3 b4 b5;have x0:Ext w (w.alloc (.cells (sA_ s a1 c1 a2 c2 a3 c3) 40)):=X_;have bS:=(aTm w 40 (sL_ s a1 c1 a2 c2 a3 c3)).ext (show Ext _ (w.alloc (.cells (sA_ s a1 c1 a2 c2 a3 c3) 40)) from X_)
 try simp only [aTe] at bS
 obtain ⟨W0,y6⟩:=e_ (w.alloc (.cells (sA_ s a1 c1 a2 c2 a3 c3) 40))
 rw [y6] at x0 bS;obtain ⟨x1,e7⟩:=h2_ x0 y6;have z0:=bS.lt;have z1:=hid bS;clear x0 y6 bS;obtain ⟨HD,a7⟩:=h2_ (aTm W0 101 []) (show Ext W0 (W0.alloc (.cells #[] 101)) from X_);go_enter func27,ntmps27;go_upto_region 1 with fail;rw [e7];have bq:=z1.ext (aTn _);obtain ⟨h8,h9,q0,q3,q4,q5,q6,q7,q8,q9,h5,h4⟩:=bq.q12;have sl:=bq.lt;clear bq;go_wp2_with fail;have XA:=hid (x1.trans a7);have CH:=lS s lo hi _ _ (HV.ext hh XA) (aTl hh XA.size) a6;rw [H0] at CH;refine CH.mono ?_;clear CH;rintro e w3 ⟨rfl,x3⟩;obtain ⟨X3,x9⟩:=h2_ (a7.trans x3) (HD.ext x3);clear x3;clear sl h8 h9 q0 q3 q4 q5 q6 q7 q8 q9 h5 h4;have bq:=z1.ext X3;obtain ⟨h8,h9,q0,q3,q4,q5,q6,q7,q8,q9,h5,h4⟩:=bq.q12;have sl:=bq.lt;clear bq
 cases b0
 ·skip
  have hL:L=[]:=by
   rcases HQ with ⟨sd,hp,-⟩|⟨-,h⟩
   ·have h1:=aG.2 (show 0<=i/\i<=s.c.w - 1 by have:=hp.hi;omega)
    have h2:=aG.2 (show 0<=j/\j<=s.c.h - 1 by have:=hp.hj;omega);have h0:=Scn.okB_iff.2 hp.o;rw [H0] at h0;exact absurd h0 (by decide)
   ·exact h
  subst hL;go_wp2;go_ret;exact ⟨_,rfl,fU.none,x1.trans X3⟩
 ·have ho:=Scn.okB_iff.1 H0
  have g7:=ho.c.w;have g6:=ho.c.h;clear ho;go_wp2_with fail;refine z_ (aF H1 _) ?_
  cases b1
  ·skip
   have hL:L=[]:=by
    rcases HQ with ⟨sd,hp,-⟩|⟨-,h⟩
    ·have h1:=aG.2 (show 0<=i/\i<=s.c.w - 1 by have:=hp.hi;omega)
     have h2:=aG.2 (show 0<=j/\j<=s.c.h - 1 by have:=hp.hj;omega);have h0:=Scn.okB_iff.2 hp.o;rw [H1] at h1;exact absurd h1 (by decide)
    ·exact h
   subst hL;go_wp2;go_ret;exact ⟨_,rfl,fU.none,x1.trans X3⟩
  ·go_wp2_with fail
   refine z_ (aF H2 _) ?_
   cases b2
   ·skip
    have hL:L=[]:=by
     rcases HQ with ⟨sd,hp,-⟩|⟨-,h⟩
     ·have h1:=aG.2 (show 0<=i/\i<=s.c.w - 1 by have:=hp.hi;omega)
      have h2:=aG.2 (show 0<=j/\j<=s.c.h - 1 by have:=hp.hj;omega);have h0:=Scn.okB_iff.2 hp.o;rw [H2] at h2;exact absurd h2 (by decide)
     ·exact h
    subst hL;go_wp2;go_ret;exact ⟨_,rfl,fU.none,x1.trans X3⟩
   ·skip
    have hp:∃sd,aNy s i j sd/\L=s.deeps i j sd (sd*sd):=by
     rcases HQ with h|⟨h,-⟩
     ·exact h
     ·rw [H0,H1,H2] at h
      exact absurd h (by decide)
    obtain ⟨sd,hp,rfl⟩:=hp;have HP:=hid hp;have g8:=hp.hi;have g9:=hp.hj;clear hp;go_wp2_with fail;have a9:=hid (x1.trans X3);refine (aNu s lo hi _ _ (HV.ext hh a9) (aTl hh a9.size) HP.o a6).mono ?_;rintro e w5 ⟨cv,av,rfl,hd,x5⟩;obtain ⟨xa,xc,ya,yc,rfl,rfl⟩:=hd.rd.forms;have e4:=hid hd;have y5:Ext w5 (w5.alloc (.cells #[.slice xa s.m xc,.slice ya s.m yc] 78)):=X_;obtain ⟨b9,X5,c7⟩:=h3_ ((aTm w5 78 [.slice xa s.m xc,.slice ya s.m yc])) (X3.trans (x5.trans y5)) ((x9.ext x5).ext y5);have i1:=x5.size;have z3:=x9.lt;clear hd x5 y5;clear sl h8 h9 q0 q3 q4 q5 q6 q7 q8 q9 h5 h4;have bq:=z1.ext X5;obtain ⟨h8,h9,q0,q3,q4,q5,q6,q7,q8,q9,h5,h4⟩:=bq.q12;have sl:=bq.lt;clear bq;rw [HP.hsd] at h4;go_wp2_with fail;have CP:=tM s.c HP.o.cb i j HP.hi HP.hj sd HP.s3 (w5.alloc (.cells #[.slice xa s.m xc,.slice ya s.m yc] 78));refine CP.mono ?_;clear CP;rintro e w6 ⟨q,rfl,hq,x6⟩;obtain ⟨qa,qc,rfl,-⟩:=hq.form;rw [gG];obtain ⟨y2,X6⟩:=h2_ (hq.low (lo':=W0.heap.size+1) (by rw [aTe];omega)) (X5.trans x6);obtain ⟨a5,z7,c8,y3⟩:=h4_ (z1.ext X6) (b9.ext x6) (c7.ext x6) (e4.ext (aTi (show Ext w5 (w5.alloc (.cells #[.slice xa s.m xc,.slice ya s.m yc] 78)) from X_) x6));have z6:=z7.lt;have e8:=hid (x1.trans X6);clear hq x6;clear sl h8 h9 q0 q3 q4 q5 q6 q7 q8 q9 h5 h4
    obtain ⟨N,hN⟩:=e_ (sd*sd)
    have g2:N<=16:=by rw [<-hN];rcases HP.s3 with rfl|rfl|rfl <;> decide
    have HN:=hid hN;rw [hN];clear hN;go_wp2
    go_loopw [7,43] (fun u x wr=>∃k:Nat,k<=N/\x = .int .i64 (k:Nat)/\fU W0.heap.size wr u (s.deeps i j sd k)/\(∀b,u.ownBlock=some b->b=W0.heap.size\/w6.heap.size<=b)/\w6.heap.size<=wr.heap.size/\(∀b,b<w6.heap.size->b≠W0.heap.size->wr.heap[b]?=w6.heap[b]?)/\Ext w wr) (fun _ x _=>N - (intOf x).toNat)
    case atStart=>exact ⟨0,by omega,rfl,⟨[],rfl,aD.freshS (aTc _) c8,fun k u l hu=>by simp at hu,List.Pairwise.nil⟩,fun b e=>.inl (aU8 e).symm,aTc _,fun _ _ _=>rfl,e8⟩
    case round=>
     obtain ⟨k,hk,rfl,b7,h6,zr,h7,hx⟩:=hrel;obtain ⟨d5,x2,e2,XW⟩:=h4_ b7 h6 h7 hx;obtain ⟨ds,x4,z2,z4,b6⟩:=b7;obtain ⟨c6,e3⟩:=h2_ b6 (fU.rowLt (by rw [x4]) z4);clear b6;rw [Scn.deeps_len (by rw [HN];exact hk)] at x4;obtain ⟨da,dc,rfl,-⟩:=z2.form
     rcases aUc k N with hlt|hge
     ·have hq:=aD.keptBlk (w':=wr) y2 (fun b e=>h7 b (y2.lt b e).2 (by have:=(y2.lt b e).1;omega))
      have hS:Blk wr w.heap.size 40 (sL_ s a1 c1 a2 c2 a3 c3):=a5.of (h7 _ a5.lt (by omega));have hA:Blk wr w5.heap.size 78 [.slice xa s.m xc,.slice ya s.m yc]:=z7.of (h7 _ z7.lt (by omega));have d6:=hid (y3.same zr (fun b b1 b2=>h7 b b2 (by omega))).rd
      obtain ⟨p,hp⟩:∃p,(tJ i j sd)[k]?=some p:=⟨_,aTk (by rw [gG,HN];exact hlt)⟩
      have b8:p.okB s.c=true:=by
       have h1:=(aTd.1 hp).2;unfold tJ at h1;rw [List.getElem_map,List.getElem_range] at h1;rw [<-h1];exact aJ3 HP.o.cb HP.hi HP.hj HP.s3 (by rw [HN];exact hlt)
      have e5:=hid (Scn.deeps_succ (s:=s) hp);obtain ⟨gq,cq,he,-,g5,y4,g4,-,h3⟩:=aD.at hq (fun _=>rfl) hp;rw [show (tJ i j sd).length=N by rw [gG];exact HN] at he y4;simp only [aTw,true_and] at he;obtain ⟨rfl,rfl⟩:=he;have d0:=h3 0 (by decide);have d1:=h3 1 (by decide);have d2:=h3 2 (by decide);have d3:=h3 3 (by decide);have d4:=h3 4 (by decide);simp only [Smp.cs,aUq,aTa,aTb] at d0 d1 d2 d3 d4;obtain ⟨y1,z9,x9,a4,e6,d8,XS⟩:=h7_ b8 z2 z4 x4 hS hA (show Ext wr (wr.alloc (.cells #[p.x,p.y,p.t,p.lx,p.ly] 42)) from X_);clear hq hS hA hp b8 h3 z2 z4 h6 h7 hx x4;have bq:=e6.ext XS;obtain ⟨h8,h9,q0,q3,q4,q5,q6,q7,q8,q9,h5,h4⟩:=bq.q12;have sl:=bq.lt;clear bq;have bq:=d8.ext XS;obtain ⟨e9,g0⟩:=bq.q2;have dl:=bq.lt;clear bq;go_upto_region 8 with fail;go_wp2_with fail;have a8:=hid (XW.trans XS);have CH:=aGj s lo hi _ _ _ _ p _ (HV.ext hh a8) (aTl hh a8.size) HP.o y1 (d6.ext XS);refine CH.mono ?_;clear CH;rintro e w7 ⟨f1,rfl,y7,x7⟩;obtain ⟨d9,X7,g3⟩:=h3_ y7 (XS.trans x7) (HP.o.seen_le p);obtain ⟨fa,fc,rfl,-⟩:=aD.form y7;clear y7 x7 d0 d1 d2 d3 d4;clear sl dl e9 g0 h8 h9 q0 q3 q4 q5 q6 q7 q8 q9 h5 h4;go_wp2_with fail;refine (aGp d9 g3.out).mono ?_;rintro e w8 ⟨g1,rfl,z5,x8⟩;obtain ⟨ga,gc,rfl,-⟩:=aD.form z5;have X8:=hid (X7.trans x8);have i0:=X7.size;have y8:Ext w8 (w8.alloc (.cells #[.slice ga (fT (s.seen p)).length gc] 101)):=X_;obtain ⟨c0,Y8,O8⟩:=h3_ (aTm w8 101 [.slice ga (fT (s.seen p)).length gc]) y8 ((aD.low z5 (show W0.heap.size<=w7.heap.size by omega)).ext y8)
      have e0:=hid (show ∀k,(aUk ga (fT (s.seen p)).length gc).ownBlock=some k->∀u∈ds,u.ownBlock≠some k from fun a ha u hu e=>by
       have q1:=(z5.lt a ha).1;have q2:=e3.out u hu a e
       omega)
      obtain ⟨a0,y0,d7⟩:=h3_ (z9.ext (X8.trans y8)) (fun a u l hu hl=>(x9 a u l hu hl).ext (X8.trans y8)) (show ds.length<1000000 by have:=a4.out;omega);have z8:=aTl (X8.size) y8.size;obtain ⟨Z8,c9⟩:=h2_ (show W0.heap.size<=(w8.alloc (.cells #[.slice ga (fT (s.seen p)).length gc] 101)).heap.size by omega) (fun b e=>(z9.lt b e).2);clear z5 x8 y8
      have c4:Hid (∀j,j<1->(w8.alloc (.cells #[.slice ga (fT (s.seen p)).length gc] 101)).cell? ⟨w8.heap.size,j,none⟩=[aUk ga (fT (s.seen p)).length gc][j]?):=hid (fun j hj=>by
       obtain rfl:j=0:=by omega
       exact c0.cell 0 rfl)
      have c5:Hid (∀u∈[aUk ga (fT (s.seen p)).length gc],u.oneCell'=true):=hid (fun u hu=>by
       rw [List.mem_singleton] at hu;subst hu
       rfl)
      go_wp2_with (at_builtin;refine gL (fun u=>[u]) 101 1 24 _ _ rfl _ _ 57 rfl underlying57 aCr rfl (by decide) (by decide) (fun _=>rfl) W0.heap.size (.slice da ds.length dc) ds rfl a0 (.slice ga (fT (s.seen p)).length gc) w8.heap.size rfl c4 c5 d7 Z8 ?_;intro v9 w9 hown hg hat);have P:=hid (fU.push (by rw [a4,Scn.deeps_len (by rw [HN];exact hk)]) a0 y0 O8 hg hown c6 e0)
      have Q1:=hid (show ∀b,v9.ownBlock=some b->b=W0.heap.size\/w6.heap.size<=b from fun b e=>by
       rcases hat b e with h|h
       ·exact x2 b h
       ·right;omega)
      have Q2:=hid (show w6.heap.size<=w9.heap.size by have:=hg.size;omega)
      have Q3:=hid (show ∀b,b<w6.heap.size->b≠W0.heap.size->w9.heap[b]?=w6.heap[b]? from fun b b1 b2=>by
       have e1:=hg.block b (by omega) (fun e=>by
        rcases x2 b e.symm with h|h <;> omega)
       exact (e1.trans ((X8.trans Y8).block (by omega))).trans (e2 b b1 b2))
      have Q4:=hid (aUo (XW.trans (X8.trans Y8)) hg (fun b e=>by
       have:=(z9.lt b e).1
       omega))
      clear hown hg hat;go_wp2;go_roundw
      case rel=>exact ⟨k+1,by omega,by go_num,by rw [e5];exact P,Q1,Q2,Q3,Q4⟩
      case measure=>simp [intOf];omega
     ·obtain rfl:k=N:=by omega
      have y9:=hid (d5.low (show w.heap.size<=W0.heap.size by omega));clear x4 z2 z4 h6 h7 hx;go_wp2;go_ret;exact ⟨_,rfl,HN.out▸y9.out,XW⟩
def stV (l:List Stp):List Value:=l.flatMap Stp.cs
theorem aAp (l:List Stp):(stV l).length=l.length*2:=by
 induction l with
 | nil=>rfl
 | cons x r ih=>simp only [stV,List.flatMap_cons,List.length_append,aUs] at ih ⊢;rw [ih];simp [Stp.cs];omega
def fP:List (List Value)->Nat
 | []=>0
 | x::r=>x.length+fP r
def fH:Int->List (List Value)->List (List Value)
 | _,[]=>[]
 | k,x::r=>upV k x.length::fH (k+x.length) r
theorem wC (a b:List (List Value)):fP (a++b)=fP a+fP b:=by
 induction a with
 | nil=>simp [fP]
 | cons x r ih=>simp [fP,ih];omega
theorem rF (k:Int) (a b:List (List Value)):fH k (a++b)=fH k a++fH (k+fP a) b:=by
 induction a generalizing k with
 | nil=>simp [fH,fP]
 | cons x r ih=>
  simp only [List.cons_append,fH,fP,ih];rw [show k+((x.length+fP r:Nat):Int)=k+x.length+fP r by omega]
theorem dI (k:Int) (a:List (List Value)):(fH k a).length=a.length:=by
 induction a generalizing k with
 | nil=>rfl
 | cons x r ih=>simp [fH,ih]
theorem iP {S:List (List Value)} (h:j<S.length):fP (S.take (j+1))=fP (S.take j)+S[j].length:=by
 rw [aT6 h,wC];simp [fP]
theorem tU (S:List (List Value)) (j:Nat):fP (S.take j)<=fP S:=by
 have:=wC (S.take j) (S.drop j);rw [aWg] at this;omega
theorem nG {S:List (List Value)} (k:Int) (h:j<S.length):fH k (S.take (j+1))=fH k (S.take j)++[upV (k+fP (S.take j)) S[j].length]:=by
 rw [aT6 h,rF]
 rfl
theorem aGq {S:List (List Value)} (k:Int) (h:j<S.length):(fH k (S.take j)++S.drop j).set j (upV (k+fP (S.take j)) S[j].length)=fH k (S.take (j+1))++S.drop (j+1):=by
 have hl:(fH k (S.take j)).length=j:=by rw [dI,aT0];omega
 rw [List.set_append_right _ _ (by omega),hl,Nat.sub_self,aVf h,aTp,nG k h,List.append_assoc]
 rfl
theorem aLy {S:List (List Value)} (k:Int) (h:j<S.length):(fH k S)[j]?=some (upV (k+fP (S.take j)) S[j].length):=by
 have h1:=rF k (S.take (j+1)) (S.drop (j+1));rw [aWg,nG k h] at h1;rw [h1,List.getElem?_append_left (by simp [dI];omega),aT9 (by rw [dI,aT0];omega),dI,aT0,show j - min j S.length=0 by omega]
 rfl
def StO (lo:Nat) (w:World) (u:Value) (xs:List Value):Prop:=∃n,w.ownsRow lo 183 2 u n xs
def DsO (lo hi:Nat) (w:World) (v:Value) (S:List (List Value)):Prop:=∃us:List Value,w.ownsRow lo 101 1 v us.length us/\us.length=S.length/\(∀(i:Nat) (u:Value) (xs:List Value),us[i]?=some u->S[i]?=some xs->StO lo w u xs)/\Apt us/\(∀k,v.ownBlock=some k->k<hi)/\∀u∈us,∀k,u.ownBlock=some k->k<hi
theorem fU.o {ls:List (List Stp)} (h:fU lo w v ls):DsO lo w.heap.size w v (ls.map stV):=by
 obtain ⟨us,h1,h2,h3,h4⟩:=h
 have h0:w.ownsRow lo 101 1 v us.length us:=by
  have h:w.ownsRow lo 101 1 v us.length (us.flatMap fun u=>[u]):=h2
  rwa [List.flatMap_singleton'] at h
 refine ⟨us,h0,by simp [h1],fun i u xs hu hx=>?_,h4,fun k hk=>(World.ownsRow.lt h0 k hk).2,fU.rowLt h1 h3⟩;rw [aU0,Option.map_eq_some_iff] at hx;obtain ⟨l,hl,rfl⟩:=hx;exact ⟨l.length,h3 i u l hu hl⟩
theorem DsO.kp {S:List (List Value)} (h:DsO lo hi w v S) (k:Kp lo hi w w'):DsO lo hi w' v S:=by
 obtain ⟨us,h1,h2,h3,h4,h5,h6⟩:=h;refine ⟨us,⟨h1.1,?_⟩,h2,fun i u xs hu hx=>?_,h4,h5,h6⟩
 ·rcases h1.2 with hn|⟨g,cap,cur,hv,hb,hg,r⟩
  ·exact .inl hn
  ·exact .inr ⟨g,cap,cur,hv,hb,(k.2 g hb (h5 g (by rw [hv];rfl))).trans hg,r⟩
 ·obtain ⟨n,q1,q2⟩:=h3 i u xs hu hx
  refine ⟨n,q1,?_⟩
  rcases q2 with hn|⟨g,cap,cur,hv,hb,hg,r⟩
  ·exact .inl hn
  ·exact .inr ⟨g,cap,cur,hv,hb,(k.2 g hb (h6 u (aT2 hu) g (by rw [hv];rfl))).trans hg,r⟩
theorem DsO.form {S:List (List Value)} (h:DsO lo hi w v S):∃a c,v = .slice a S.length c:=by
 obtain ⟨us,h1,h2,_⟩:=h;obtain ⟨a,c,e⟩:=ownsRow.form h1;exact ⟨a,c,by rw [e,h2]⟩
theorem ownsRow.blkAt {e:TypeId} {sz:Nat} (h:w.ownsRow lo e sz v n xs) (hk:v.ownBlock=some g):∃cur,w.heap[g]?=some (.cells cur e (0,0)):=by
 rcases h.2 with ⟨rfl,rfl⟩|⟨g',cap,cur,rfl,hb,hg,hc,hm,hs,ht⟩
 ·cases hk
 ·injection hk with hk
  subst hk;exact ⟨cur,hg⟩
theorem ownsRow.formN {e:TypeId} {sz:Nat} (h:w.ownsRow lo e sz v n xs):∃a c,v = .slice a n c/\n<=9223372036854775807:=by
 rcases h.2 with ⟨rfl,rfl⟩|⟨g,cap,cur,rfl,hb,hg,hc,hm,hs,ht⟩
 ·exact ⟨none,0,rfl,by omega⟩
 ·exact ⟨some ⟨g,0,none⟩,cap,rfl,by unfold maxLen at hm;omega⟩
theorem wJ (a b:Int) (w:World):R_ 123 #[.agg #[a,b],.agg #[a,b]] w (.bool true):=by
 go_enter func123,ntmps123;go_wp2;go_ret;exact ⟨rfl,X_⟩
theorem uZ (lo lo':Nat) (u v:Value) (xs:List Stp) (w:World) (hu:aD Stp.cs lo 183 2 w u xs) (hv:aD Stp.cs lo' 183 2 w v xs) :
  R_ 72 #[u,v] w (.bool true):=by
 obtain ⟨a,c,rfl,-⟩:=hu.form;obtain ⟨b,d,rfl,-⟩:=hv.form;obtain ⟨HU,HV⟩:=h2_ hu hv;clear hu hv;go_enter func72,ntmps72;go_wp2
 go_loopw [5] (fun x wr=>∃k:Nat,k<=xs.length/\x = .int .i64 (k:Nat)/\Ext w wr) (fun x _=>xs.length - (intOf x).toNat)
 case atStart=>exact ⟨0,by omega,rfl,aTn _⟩
 case round=>
  obtain ⟨k,hk,rfl,hx⟩:=hrel;have HX:=hid hx
  rcases aUc k xs.length with hlt|hge
  ·obtain ⟨f,hf⟩:∃f,xs[k]?=some f:=⟨_,aTk hlt⟩
   obtain ⟨g,cap,he,-,h8,h4,h7,-,h1⟩:=aD.at (HU.ext hx) (fun _=>rfl) hf;simp only [aTw,true_and] at he;obtain ⟨rfl,rfl⟩:=he;obtain ⟨g2,h3,he,-,h6,h2,h5,-,h0⟩:=aD.at (HV.ext hx) (fun _=>rfl) hf;simp only [aTw,true_and] at he;obtain ⟨rfl,rfl⟩:=he;have c0:=h1 0 (by decide);have c1:=h1 1 (by decide);have d0:=h0 0 (by decide);have d1:=h0 1 (by decide);simp only [Stp.cs,aUq,aTa,aTb] at c0 c1 d0 d1;clear hx h1 h0 hf;go_wp2;refine aA [([0,1,2,3,4,5,6,7],8),([],9)] 99 wr.heap.size ?_;refine st_ fun K hK=>?_;go_wp2_with fail;refine r_ (wJ f.d f.w _) fun w1 x1=>?_;have y1:Ext wr w1:=aTi (aUi (aTn _)) x1;have Y1:=hid (HX.trans y1);go_wp2;refine k_ hK (st_ fun K hK=>?_);go_wp2;refine k_ hK ?_;clear hK K x1 y1;refine aC ?_;go_wp2;go_roundw
   case rel=>exact ⟨k+1,by omega,by go_num,Y1⟩
   case measure=>simp [intOf];omega
  ·go_wp2
   go_ret;exact ⟨rfl,HX⟩
theorem wK (lo n:Nat) (u:Value) (xs:List Value) (k0:Int) (w:World) (hu:w.ownsRow lo 183 2 u n xs) (h0:0<=k0) (hsz:k0+(n*2:Nat)<=1152921504606846976) :
  Calls aTg 73 #[u,k0] w fun e w'=>e = .returned (.int .i64 (k0+(n*2:Nat)))/\w'.ownsRow lo 183 2 u n (upV k0 (n*2))/\w.grownBy w' u.ownBlock:=by
 obtain ⟨a,cap,rfl,h8⟩:=ownsRow.formN hu;obtain ⟨HU,h3⟩:=h2_ hu (show xs.length=n*2 from hu.1);clear hu;go_enter func73,ntmps73;go_wp2
 go_loopw [1,5] (fun q i wr=>∃k:Nat,k<=n/\i = .int .i64 (k:Nat)/\q = .int .i64 (k0+(k*2:Nat))/\wr.ownsRow lo 183 2 (.slice a n cap) n (upV k0 (k*2)++xs.drop (k*2))/\w.grownBy wr (aUk a n cap).ownBlock) (fun _ i _=>n - (intOf i).toNat)
 case atStart=>exact ⟨0,by omega,rfl,by simp,by simpa [upV] using HU.out,grownBy.refl _ _⟩
 case round=>
  obtain ⟨k,hk,rfl,rfl,h1,hg⟩:=hrel
  by_cases q6:k<n
  ·have h6:k0+((k*2:Nat):Int)+2<=1152921504606846976:=by omega
   obtain ⟨j,hj⟩:=e_ (k*2)
   have h4:(k+1)*2=j+2:=by omega
   have h7:j+2<=n*2:=by omega
   rw [hj] at h1 h6 ⊢;have h9:=h3.out;obtain ⟨g,y0,rfl,q0,q5,-,q1,q3,h5⟩:=iO h1 (c:=j) (by omega);obtain ⟨o1,g1⟩:=h5 (.int .i64 (k0+(j:Nat)));rw [aAl _ _ _ (by omega)] at o1;obtain ⟨g',y1,e1,_,_,-,q2,q4,h2⟩:=iO o1 (c:=j+1) (by omega);simp only [aTf,Addr.mk.injEq,and_true] at e1;subst e1;obtain ⟨o2,g2⟩:=h2 (.int .i64 (k0+((j+1:Nat):Int)));rw [aAl _ _ _ (by omega)] at o2;replace o2:World.ownsRow _ _ _ _ _ _ (upV k0 (j+2)++xs.drop (j+2)):=o2
   have E1:k0+((j+1:Nat):Int)=k0+(j:Nat)+1:=by omega
   rw [E1] at o2 g2;obtain ⟨HO,HG,HJ⟩:=h3_ o2 (grownBy.trans hg (grownBy.trans g1 g2)) h4;clear h5 h2 o1 o2 g1 g2 hg h1 E1 h9 h4 h7;go_wp2;go_roundw
   case rel=>exact ⟨k+1,by omega,by go_num,by congr 1;have:=HJ.out;omega,by rw [HJ];exact HO,HG⟩
   case measure=>simp [intOf];omega
  ·obtain rfl:k=n:=by omega
   have hd:xs.drop (k*2)=[]:=List.drop_eq_nil_of_le (by rw [h3];exact aTc _);rw [hd,aVw] at h1;go_wp2;go_ret;exact ⟨rfl,h1,hg⟩
theorem vA (lo n:Nat) (u:Value) (k0:Int) (w:World) (hu:w.ownsRow lo 183 2 u n (upV k0 (n*2))) (h0:0<=k0) (hsz:k0+(n*2:Nat)<=1152921504606846976) :
  Z_ 74 #[u,k0] w (.int .i64 (k0+(n*2:Nat))):=by
 obtain ⟨a,cap,rfl,h3⟩:=ownsRow.formN hu;have HU:=hid hu;clear hu;go_enter func74,ntmps74;go_wp2
 go_loopw [1,5] (fun q i wr=>∃k:Nat,k<=n/\i = .int .i64 (k:Nat)/\q = .int .i64 (k0+(k*2:Nat))/\wr=w) (fun _ i _=>n - (intOf i).toNat)
 case atStart=>exact ⟨0,by omega,rfl,by simp,rfl⟩
 case round=>
  obtain ⟨k,hk,rfl,rfl,rfl⟩:=hrel
  by_cases h7:k<n
  ·have h2:k0+((k*2:Nat):Int)+2<=1152921504606846976:=by omega
   obtain ⟨j,hj⟩:=e_ (k*2)
   have h1:(k+1)*2=j+2:=by omega
   have h6:j+2<=n*2:=by omega
   rw [hj] at h2 ⊢;obtain ⟨g,y0,rfl,h4,h5,q0,c0,-,-⟩:=iO HU (c:=j) (by omega);obtain ⟨g1,y1,e1,_,_,q1,c1,-,-⟩:=iO HU (c:=j+1) (by omega);simp only [aTf,Addr.mk.injEq,and_true] at e1;subst e1;rw [aQ5 (by omega)] at q0 q1;simp only [aTf] at q0 q1;subst q0 q1
   have E1:k0+((j+1:Nat):Int)=k0+(j:Nat)+1:=by omega
   rw [E1] at c1;have HJ:=hid h1;clear E1 h1;go_wp2;go_roundw
   case rel=>exact ⟨k+1,by omega,by go_num,by congr 1;have:=HJ.out;omega,by first|rfl|trivial⟩
   case measure=>simp [intOf];omega
  ·obtain rfl:k=n:=by omega
   go_wp2;go_ret;exact ⟨rfl,rfl⟩
theorem DsO.at {S:List (List Value)} (h:DsO lo hi w v S) (hk:S[k]?=some xs) :
  ∃g c u n,v = .slice (some ⟨g,0,none⟩) S.length c/\lo<=g/\g<w.heap.size/\S.length<=c/\c<=9223372036854775807/\w.cell? ⟨g,k,none⟩=some u/\w.ownsRow lo 183 2 u n xs:=by
 obtain ⟨us,h1,h2,h3,h4,h5,h6⟩:=h;have h8:=(aTd.1 hk).1
 obtain ⟨u,hu⟩:∃u,us[k]?=some u:=⟨us[k]'(by omega),by simp [show k<us.length by omega]⟩
 obtain ⟨g,c,e,h0,h7⟩:=ownsRow.form1 h1 (by omega);subst e;have hc:=ownsRow.caps h1;obtain ⟨n,hn⟩:=h3 k u xs hu hk;refine ⟨g,c,u,n,by rw [h2],h0,h7,by omega,hc.2,?_,hn⟩;rw [World.ownsRow.cellAt h1 k (by omega)];exact hu
theorem DsO.row {ls:List (List Stp)} (h:DsO lo hi w v (ls.map stV)) {l:List Stp} (hl:ls[k]?=some l) :
  ∃g c u,v = .slice (some ⟨g,0,none⟩) ls.length c/\g<w.heap.size/\ls.length<=c/\c<=9223372036854775807/\w.cell? ⟨g,k,none⟩=some u/\aD Stp.cs lo 183 2 w u l:=by
 obtain ⟨g,c,u,n,e,q1,q2,q3,q4,q5,q6⟩:=h.at (k:=k) (xs:=stV l) (by rw [aU0,hl];rfl);rw [aUn] at e q3
 have hn:n=l.length:=by
  have:=q6.1;rw [aAp] at this;omega
 subst hn;exact ⟨g,c,u,e,q2,q3,q4,q5,q6⟩
theorem vB (lo hi lo' hi':Nat) (u v:Value) (ls:List (List Stp)) (w:World) (hu:DsO lo hi w u (ls.map stV)) (hv:DsO lo' hi' w v (ls.map stV)) :
  R_ 29 #[u,v] w (.bool true):=by
 obtain ⟨a,c,rfl⟩:=hu.form;obtain ⟨b,d,rfl⟩:=hv.form;simp only [aUn];obtain ⟨HU,HV⟩:=h2_ hu hv;clear hu hv;go_enter func29,ntmps29;go_wp2
 go_loopw [5] (fun x wr=>∃k:Nat,k<=ls.length/\x = .int .i64 (k:Nat)/\Ext w wr) (fun x _=>ls.length - (intOf x).toNat)
 case atStart=>exact ⟨0,by omega,rfl,aTn _⟩
 case round=>
  obtain ⟨k,hk,rfl,hx⟩:=hrel;have HX:=hid hx
  rcases aUc k ls.length with hlt|hge
  ·obtain ⟨l,hl⟩:∃l,ls[k]?=some l:=⟨_,aTk hlt⟩
   obtain ⟨g,cap,y,he,h2,h4,h8,c0,oy⟩:=DsO.row HU hl;simp only [aUn,aTw,true_and] at he;obtain ⟨rfl,rfl⟩:=he;obtain ⟨g2,h3,z,he,h0,h1,h5,d0,oz⟩:=DsO.row HV hl;simp only [aUn,aTw,true_and] at he;obtain ⟨rfl,rfl⟩:=he;replace c0:=(hx.cell h2).trans c0;replace d0:=(hx.cell h0).trans d0;have h6:=aUu h2 hx.size;have h7:=aUu h0 hx.size;obtain ⟨OY,OZ⟩:=h2_ (oy.ext hx) (oz.ext hx);clear hx oy oz hl;go_wp2;refine aA [([0,1,2,3,4,5,6,7],8),([],9)] 99 wr.heap.size ?_;refine st_ fun K hK=>?_;go_wp2_with fail;refine r_ (uZ _ _ _ _ l _ (OY.ext (aUi (aTn _))) (OZ.ext (aUi (aTn _)))) fun w1 x1=>?_;have y1:Ext wr w1:=aTi (aUi (aTn _)) x1;have Y1:=hid (HX.trans y1);go_wp2;refine k_ hK (st_ fun K hK=>?_);go_wp2;refine k_ hK ?_;clear hK K x1 y1;refine aC ?_;go_wp2;go_roundw
   case rel=>exact ⟨k+1,by omega,by go_num,Y1⟩
   case measure=>simp [intOf];omega
  ·go_wp2
   go_ret;exact ⟨rfl,HX⟩
theorem aI2 (lo hi:Nat) (v:Value) (S:List (List Value)) (k0:Int) (w:World) (hv:DsO lo hi w v S) (hl:lo<=w.heap.size) (h0:0<=k0) (hsz:k0+(fP S:Nat)<=1152921504606846976) :
  Calls aTg 30 #[v,k0] w fun e w'=>e = .returned (.int .i64 (k0+(fP S:Nat)))/\DsO lo hi w' v (fH k0 S)/\jT lo hi w w':=by
 obtain ⟨a,c,rfl⟩:=hv.form;obtain ⟨us,o1,o2,o3,o4,o5,o6⟩:=hv;obtain ⟨HO,HL,HR,HA,H4,H5⟩:=h6_ o1 o2 o3 o4 o5 o6;clear o1 o2 o3 o4 o5 o6;go_enter func30,ntmps30;go_wp2
 go_loopw [1,5] (fun q i wr=>∃k:Nat,k<=S.length/\i = .int .i64 k/\q = .int .i64 (k0+(fP (S.take k):Nat))/\wr.ownsRow lo 101 1 (.slice a S.length c) us.length us/\(∀(i:Nat) (u:Value) (xs:List Value),us[i]?=some u->(fH k0 (S.take k)++S.drop k)[i]?=some xs->StO lo wr u xs)/\jT lo hi w wr) (fun _ i _=>S.length - (intOf i).toNat)
 case atStart=>exact ⟨0,by omega,rfl,by simp [fP],HO,by simpa [fH] using HR.out,⟨aTc _,Below.refl _ _,fun _ _ _=>rfl⟩⟩
 case round=>
  clear HO HR;obtain ⟨k,hk,rfl,rfl,h1,hr,hp⟩:=hrel;have h4:=HL.out
  by_cases h6:k<S.length
  ·obtain ⟨g,c',e,x1,x2⟩:=ownsRow.form1 h1 (by omega)
   simp only [aTw] at e;obtain ⟨rfl,-,rfl⟩:=e
   obtain ⟨u,hu⟩:∃u,us[k]?=some u:=⟨us[k]'(by omega),by simp [show k<us.length by omega]⟩
   have q9:wr.cell? ⟨g,k,none⟩=some u:=by
    have hh:=h1;rw [h4] at hh;rw [World.ownsRow.cellAt hh k (by omega)];exact hu
   have x0:=ownsRow.caps (by rw [h4] at h1;exact h1)
   obtain ⟨n,h5⟩:StO lo wr u S[k]:=hr k u S[k] hu (by
    rw [aT9 (by rw [dI,aT0];omega),dI,aT0,show k - min k S.length=0 by omega,aVf h6]
    rfl)
   have q2:n*2=S[k].length:=h5.1.symm
   have ht:fP (S.take k)+S[k].length<=fP S:=by rw [<-iP h6];exact tU S _
   obtain ⟨h3,h9,HP,h2,h8⟩:=h5_ h1 hr hp h5 q2;clear h1 hr hp h5;go_wp2_with fail;refine (wK lo n u S[k] (k0+(fP (S.take k):Nat)) _ h2 (by omega) (by omega)).mono ?_;rintro e w1 ⟨rfl,h7,hg⟩
   have q1:(aUk (some ⟨g,0,none⟩) S.length c).ownBlock=none\/(aUk (some ⟨g,0,none⟩) S.length c).ownBlock≠u.ownBlock:=by
    refine .inr fun e=>?_;obtain ⟨q8,hb⟩:=ownsRow.blkAt h2 e.symm;exact ownsRow.not h3 hb (by decide) rfl
   have hO:=h3.kept hg q1
   have hR:∀(i:Nat) (u:Value) (xs:List Value),us[i]?=some u->(fH k0 (S.take (k+1))++S.drop (k+1))[i]?=some xs->StO lo w1 u xs:=by
    rw [<-aGq k0 h6];intro i v ys hi hy
    by_cases q0:i=k
    ·subst q0
     rw [hu] at hi;injection hi with hi;subst hi;rw [List.getElem?_set,if_pos rfl] at hy
     split at hy
     ·injection hy with hy
      rw [h8] at h7;exact ⟨n,hy▸h7⟩
     ·cases hy
    ·rw [List.getElem?_set_ne (by omega)] at hy
     obtain ⟨m,hm⟩:=h9 i v ys hi hy;refine ⟨m,hm.kept hg ?_⟩
     cases q7:v.ownBlock with
     | none=>exact .inl rfl
     | some q=>exact .inr fun e=>HA.ne hi hu q0 q q7 e.symm
   have q3:=fun k' hk'=>And.intro (h2.lt k' hk').1 (H5 u (aT2 hu) k' hk');have hz:=HP.size;have hP:=jT.trans HP (jT.of hg q3 (by omega));clear q3 hz q1 hg h7 hu h2 h9 h3 HP q2;obtain ⟨q4,q6,q5⟩:=h3_ hO hR hP;clear hO hR hP;go_wp2;go_roundw
   case rel=>
    refine ⟨k+1,by omega,by go_num,?_,q4,q6,q5⟩;have:=h8.out;rw [iP h6]
    congr 1
    omega
   case measure=>simp [intOf];omega
  ·obtain rfl:k=S.length:=by omega
   rw [aUb] at hr ⊢;rw [List.drop_length,aVw] at hr;go_wp2;go_ret;exact ⟨rfl,⟨us,h1,by rw [dI];exact h4,hr,HA,H4,H5⟩,hp⟩
theorem aCu (lo hi:Nat) (v:Value) (S:List (List Value)) (k0:Int) (w:World) (hv:DsO lo hi w v (fH k0 S)) (h0:0<=k0) (hsz:k0+(fP S:Nat)<=1152921504606846976) :
  R_ 31 #[v,k0] w (.int .i64 (k0+(fP S:Nat))):=by
 obtain ⟨a,c,rfl⟩:=hv.form;rw [dI];have HV:=hid hv;clear hv;go_enter func31,ntmps31;go_wp2
 go_loopw [1,5] (fun q i wr=>∃k:Nat,k<=S.length/\i = .int .i64 k/\q = .int .i64 (k0+(fP (S.take k):Nat))/\wr=w) (fun _ i _=>S.length - (intOf i).toNat)
 case atStart=>exact ⟨0,by omega,rfl,by simp [fP],rfl⟩
 case round=>
  obtain ⟨k,hk,rfl,rfl,rfl⟩:=hrel
  by_cases h3:k<S.length
  ·obtain ⟨g,c',u,n,e,q1,q2,q3,q4,c0,h1⟩:=DsO.at HV (aLy k0 h3)
   rw [dI] at e q3;simp only [aTw,true_and] at e;obtain ⟨rfl,rfl⟩:=e
   have h4:n*2=S[k].length:=by
    have:=h1.1;rw [sD] at this;exact this.symm
   rw [<-h4] at h1
   have ht:fP (S.take k)+S[k].length<=fP S:=by rw [<-iP h3];exact tU S _
   obtain ⟨h2,h5⟩:=h2_ h1 h4;clear h1;go_wp2_with fail;refine z_ (vA lo n u (k0+(fP (S.take k):Nat)) _ h2 (by omega) (by omega)) ?_;clear h4;go_wp2;go_roundw
   case rel=>
    refine ⟨k+1,by omega,by go_num,?_,by first|rfl|trivial⟩;have:=h5.out;rw [iP h3]
    congr 1
    omega
   case measure=>simp [intOf];omega
  ·obtain rfl:k=S.length:=by omega
   rw [aUb];go_wp2;go_ret;exact ⟨rfl,aTn _⟩
structure Shp (lo hi:Nat) (w w':World):Prop where
 part:jT lo hi w w'
 fr:∀b o,lo<=b->b<hi->w'.frozen? ⟨b,o,none⟩=w.frozen? ⟨b,o,none⟩
 sl:∀b o a n c,lo<=b->b<hi->w.cell? ⟨b,o,none⟩=some (.slice a n c)->w'.cell? ⟨b,o,none⟩=some (.slice a n c)
 int:∀b o x,lo<=b->b<hi->w.cell? ⟨b,o,none⟩=some (.int .i64 x)->∃y,w'.cell? ⟨b,o,none⟩=some (.int .i64 y)
 str:∀b o x,lo<=b->b<hi->w.cell? ⟨b,o,none⟩=some (.string x)->∃y,w'.cell? ⟨b,o,none⟩=some (.string y)
theorem Shp.size (h:Shp lo hi w w'):w.heap.size<=w'.heap.size:=h.part.size
theorem Shp.of (e:Ext w w') (hh:hi<=w.heap.size) (hl:lo<=hi):Shp lo hi w w' where
 part:=jT.of (row:=none) ⟨e.os,e.tape,e.output,e.size,fun i h _=>e.block h⟩ (fun k h=>by cases h) (by omega)
 fr b o h1 h2:=e.cells.2 b o (by omega)
 sl b o a n c h1 h2 h:=(e.cells.1 b o (by omega)).trans h
 int b o x h1 h2 h:=⟨x,(e.cells.1 b o (by omega)).trans h⟩
 str b o x h1 h2 h:=⟨x,(e.cells.1 b o (by omega)).trans h⟩
theorem Shp.refl (hh:hi<=w.heap.size) (hl:lo<=hi):Shp lo hi w w:=Shp.of (aTn w) hh hl
theorem Shp.trans {w1 w2:World} (h:Shp lo hi w w1) (k:Shp lo hi w1 w2):Shp lo hi w w2 where
 part:=h.part.trans k.part
 fr b o h1 h2:=(k.fr b o h1 h2).trans (h.fr b o h1 h2)
 sl b o a n c h1 h2 e:=k.sl b o a n c h1 h2 (h.sl b o a n c h1 h2 e)
 int b o x h1 h2 e:=by obtain ⟨y,hy⟩:=h.int b o x h1 h2 e;exact k.int b o y h1 h2 hy
 str b o x h1 h2 e:=by obtain ⟨y,hy⟩:=h.str b o x h1 h2 e;exact k.str b o y h1 h2 hy
theorem jT.set {o:Nat} (h1:lo<=b) (h2:b<hi) (hl:lo<=w.heap.size) (v:Value):jT lo hi w (w.setCell ⟨b,o,none⟩ v):=
 jT.of (row:=some b) ⟨rfl,rfl,rfl,by simp,fun k _ hne=>aTo _ _ _ _ (by simpa using hne)⟩ (fun k h=>by injection h with h;omega) hl
theorem Shp.setInt {o:Nat} {x:Int} (h1:lo<=b) (h2:b<hi) (hl:lo<=w.heap.size) (hc:w.cell? ⟨b,o,none⟩=some (.int .i64 x)) (y:Int):Shp lo hi w (w.setCell ⟨b,o,none⟩ y) where
 part:=jT.set h1 h2 hl _
 fr b' o' _ _:=aU9 _ _ _ _
 sl b' o' a n c _ _ e:=by
  refine (aU2 _ _ _ _ (fun hh=>?_)).trans e;rw [hh] at hc;rw [hc] at e;cases e
 int b' o' z _ _ e:=by
  by_cases hh:(⟨b,o,none⟩:Addr)=⟨b',o',none⟩
  ·rw [<-hh];exact ⟨y,aW5 _ _ _ hc⟩
  ·exact ⟨z,(aU2 _ _ _ _ hh).trans e⟩
 str b' o' z _ _ e:=by
  refine ⟨z,(aU2 _ _ _ _ (fun hh=>?_)).trans e⟩;rw [hh] at hc;rw [hc] at e;cases e
theorem Shp.setStr {o:Nat} {x:ByteArray} (h1:lo<=b) (h2:b<hi) (hl:lo<=w.heap.size) (hc:w.cell? ⟨b,o,none⟩=some (.string x)) (y:ByteArray):Shp lo hi w (w.setCell ⟨b,o,none⟩ (.string y)) where
 part:=jT.set h1 h2 hl _
 fr b' o' _ _:=aU9 _ _ _ _
 sl b' o' a n c _ _ e:=by
  refine (aU2 _ _ _ _ (fun hh=>?_)).trans e;rw [hh] at hc;rw [hc] at e;cases e
 str b' o' z _ _ e:=by
  by_cases hh:(⟨b,o,none⟩:Addr)=⟨b',o',none⟩
  ·rw [<-hh];exact ⟨y,aW5 _ _ _ hc⟩
  ·exact ⟨z,(aU2 _ _ _ _ hh).trans e⟩
 int b' o' z _ _ e:=by
  refine ⟨z,(aU2 _ _ _ _ (fun hh=>?_)).trans e⟩;rw [hh] at hc;rw [hc] at e;cases e
def CI (lo hi:Nat) (w:World) (b o:Nat):Prop:=lo<=b/\b<hi/\(∃x,w.cell? ⟨b,o,none⟩=some (.int .i64 x))/\w.frozen? ⟨b,o,none⟩=false
def CS (lo hi:Nat) (w:World) (b o:Nat):Prop:=lo<=b/\b<hi/\(∃x,w.cell? ⟨b,o,none⟩=some (.string x))/\w.frozen? ⟨b,o,none⟩=false
theorem CI.shp {o:Nat} (h:CI lo hi w b o) (s:Shp lo hi w w'):CI lo hi w' b o:=by
 obtain ⟨h1,h2,⟨x,h3⟩,h4⟩:=h;exact ⟨h1,h2,s.int b o x h1 h2 h3,(s.fr b o h1 h2).trans h4⟩
theorem CS.shp {o:Nat} (h:CS lo hi w b o) (s:Shp lo hi w w'):CS lo hi w' b o:=by
 obtain ⟨h1,h2,⟨x,h3⟩,h4⟩:=h;exact ⟨h1,h2,s.str b o x h1 h2 h3,(s.fr b o h1 h2).trans h4⟩
def lT (lo hi:Nat) (w:World) (v:Value) (n:Nat):Prop:=
 ∃a cap,v = .slice a n cap/\n<=cap/\cap<=9223372036854775807/\∀i,i<n->∃b off,a=some ⟨b,off,none⟩/\CI lo hi w b (off+i)
theorem lT.shp (h:lT lo hi w v n) (s:Shp lo hi w w'):lT lo hi w' v n:=by
 obtain ⟨a,cap,h1,h2,h3,h4⟩:=h;refine ⟨a,cap,h1,h2,h3,fun i hi=>?_⟩;obtain ⟨b,h0,e,hc⟩:=h4 i hi;exact ⟨b,h0,e,hc.shp s⟩
def vC (lo hi:Nat) (w:World) (v:Value) (n:Nat):Prop:=
 ∃a cap,v = .slice a n cap/\n<=cap/\cap<=9223372036854775807/\∀i,i<n->∃b off a' m c',a=some ⟨b,off,none⟩/\CI lo hi w b (off+i*4)/\CS lo hi w b (off+i*4+1)/\CI lo hi w b (off+i*4+2)/\w.cell? ⟨b,off+i*4+3,none⟩=some (.slice a' m c')/\m<=1048576/\lT lo hi w (.slice a' m c') m
theorem vC.shp (h:vC lo hi w v n) (s:Shp lo hi w w'):vC lo hi w' v n:=by
 obtain ⟨a,cap,h1,h2,h3,h4⟩:=h;refine ⟨a,cap,h1,h2,h3,fun i hi=>?_⟩;obtain ⟨b,h0,a',m,c',e,k0,k1,k2,k3,k4,k5⟩:=h4 i hi;exact ⟨b,h0,a',m,c',e,k0.shp s,k1.shp s,k2.shp s,s.sl _ _ _ _ _ k0.1 k0.2.1 k3,k4,k5.shp s⟩
def nH (lo hi:Nat) (w:World) (v:Value) (n:Nat):Prop:=
 ∃a cap,v = .slice a n cap/\n<=cap/\cap<=9223372036854775807/\∀i,i<n->∃b off,a=some ⟨b,off,none⟩/\CS lo hi w b (off+i*2)/\CI lo hi w b (off+i*2+1)
theorem nH.shp (h:nH lo hi w v n) (s:Shp lo hi w w'):nH lo hi w' v n:=by
 obtain ⟨a,cap,h1,h2,h3,h4⟩:=h;refine ⟨a,cap,h1,h2,h3,fun i hi=>?_⟩;obtain ⟨b,h0,e,k0,k1⟩:=h4 i hi;exact ⟨b,h0,e,k0.shp s,k1.shp s⟩
def oI (lo hi:Nat) (w:World) (v:Value) (n:Nat):Prop:=
 ∃a cap,v = .slice a n cap/\n<=cap/\cap<=9223372036854775807/\∀i,i<n->∃b off a1 m1 c1 a2 m2 c2,a=some ⟨b,off,none⟩/\lo<=b/\b<hi/\w.cell? ⟨b,off+i*2,none⟩=some (.slice a1 m1 c1)/\w.cell? ⟨b,off+i*2+1,none⟩=some (.slice a2 m2 c2)/\m1<=1048576/\m2<=1048576/\vC lo hi w (.slice a1 m1 c1) m1/\nH lo hi w (.slice a2 m2 c2) m2
theorem oI.shp (h:oI lo hi w v n) (s:Shp lo hi w w'):oI lo hi w' v n:=by
 obtain ⟨a,cap,h1,h2,h3,h4⟩:=h;refine ⟨a,cap,h1,h2,h3,fun i hi=>?_⟩;obtain ⟨b,h0,a1,m1,c1,a2,m2,c2,e,l1,l2,k1,k2,z1,z2,k3,k4⟩:=h4 i hi;exact ⟨b,h0,a1,m1,c1,a2,m2,c2,e,l1,l2,s.sl _ _ _ _ _ l1 l2 k1,s.sl _ _ _ _ _ l1 l2 k2,z1,z2,k3.shp s,k4.shp s⟩
def tV (lo hi:Nat) (w:World) (v:Value) (n:Nat):Prop:=
 ∃a cap,v = .slice a n cap/\n<=cap/\cap<=9223372036854775807/\∀i,i<n->∃b off,a=some ⟨b,off,none⟩/\CI lo hi w b (off+i*26+24)/\CI lo hi w b (off+i*26+25)
theorem tV.shp (h:tV lo hi w v n) (s:Shp lo hi w w'):tV lo hi w' v n:=by
 obtain ⟨a,cap,h1,h2,h3,h4⟩:=h;refine ⟨a,cap,h1,h2,h3,fun i hi=>?_⟩;obtain ⟨b,h0,e,k0,k1⟩:=h4 i hi;exact ⟨b,h0,e,k0.shp s,k1.shp s⟩
def aGr (k r:Nat):Prop:=k<10 ^ (19 - r)/\k<4611686018427387904
theorem aGr.next {r:Nat} (h:aGr k r) (hk:k≠0):r≠19/\aGr (k / 10) (r+1)/\k<4611686018427387904:=by
 unfold aGr at *;obtain ⟨h,h2⟩:=h
 have hr:r<19:=by
  by_cases e:r<19
  ·exact e
  ·rw [show 19 - r=0 by omega] at h
   simp at h;omega
 refine ⟨by omega,⟨?_,by omega⟩,h2⟩;rw [show 19 - r=(19 - (r+1))+1 by omega,Nat.pow_succ] at h;exact Nat.div_lt_of_lt_mul (by rw [aXj];exact h)
theorem aGr.start (h:k<4611686018427387904):aGr k 0:=⟨by omega,h⟩
theorem aI3 (k0:Nat) (w:World) (h:k0<4611686018427387904):Calls aTg 172 #[k0] w fun e w'=>(∃s:ByteArray,e = .returned (.string s))/\Ext w w':=by
 by_cases h0:k0=0
 ·subst h0
  go_enter func172,ntmps172;go_wp2;go_ret;exact ⟨⟨_,rfl⟩,aTn _⟩
 ·go_enter func172,ntmps172
  have hz:=hid h;clear h;go_wp2
  go_loopw [0,3] (fun kv sv wr=>∃(k r:Nat) (s:ByteArray),kv = .int .i64 k/\sv = .string s/\s.size<=r/\r<=19/\aGr k r/\Ext w wr) (fun kv _ _=>(intOf kv).toNat)
  case atStart=>exact ⟨k0,0,_,rfl,rfl,by decide,by omega,aGr.start hz.out,aTn _⟩
  case round=>
   obtain ⟨k,r,s,rfl,rfl,hs,hr,hk,hx⟩:=hrel
   by_cases h3:k=0
   ·subst h3
    clear hk;go_wp2;go_ret;exact ⟨⟨_,rfl⟩,hx⟩
   ·obtain ⟨q1,h1,h4⟩:=hk.next h3
    replace h1:=hid h1;have HX:=hid hx
    have h2:(k:Int)<4611686018427387904:=by omega
    clear hk hx h4;clear hz
    obtain ⟨dd,h6,h7,h8⟩:∃d:Int,(k:Int).tmod 10=d/\0<=d/\d<10:=⟨_,rfl,Int.tmod_nonneg _ (by omega),Int.tmod_lt_of_pos _ (by decide)⟩
    have hw:Hid (wrap64 ((k:Int) / 10)=((k / 10:Nat):Int)):=by show _=_;rw [IntWalk.wrap64_in _ ⟨by omega,by omega⟩];omega
    have hq:(k:Int).tdiv 10=((k / 10:Nat):Int):=by
     rw [Int.tdiv_eq_ediv_of_nonneg (by omega)];omega
    clear h2;obtain ⟨r1,h9,h5⟩:=aRh wr (48+dd);have q0:(r1++s).size=r1.size+s.size:=ByteArray.size_append;go_wp2;go_roundw
    case rel=>exact ⟨k / 10,r+1,r1++s,by first|rfl|trivial|rw [hw.out],rfl,by omega,by omega,h1.out,HX.alloc _⟩
    case measure=>
     rw [hw.out];simp [intOf];omega
theorem wD (k0:Int) (w:World) (h0:0<=k0) (h:k0<4611686018427387904):Calls aTg 172 #[k0] w fun e w'=>(∃s:ByteArray,e = .returned (.string s))/\Ext w w':=by
 obtain ⟨k,rfl⟩:∃k:Nat,k0=k:=⟨k0.toNat,by omega⟩
 exact aI3 k w (by omega)
theorem tW (lo hi:Nat) (v:Value) (n:Nat) (k0:Int) (w:World) (h:lT lo hi w v n) (hh:hi<=w.heap.size) (hl:lo<=hi) (h0:0<=k0) (h1:k0+n<=4611686018427387904) :
  Calls aTg 108 #[v,k0] w fun e w'=>e = .returned (.int .i64 (k0+n))/\Shp lo hi w w':=by
 have H:=hid h;obtain ⟨a,cap,rfl,z1,z2,-⟩:=h;go_enter func108,ntmps108;go_wp2
 go_loopw [1,5] (fun q i wr=>∃k:Nat,k<=n/\i = .int .i64 k/\q = .int .i64 (k0+(k:Nat))/\Shp lo hi w wr) (fun _ i _=>n - (intOf i).toNat)
 case atStart=>exact ⟨0,by omega,rfl,by simp,Shp.refl hh hl⟩
 case round=>
  obtain ⟨k,hk,rfl,rfl,hs⟩:=hrel
  by_cases h4:k<n
  ·obtain ⟨a',h3,e',-,-,h2⟩:=H.shp hs
   simp only [aTw] at e';obtain ⟨rfl,-,rfl⟩:=e';obtain ⟨b,off,rfl,l1,l2,⟨x,c⟩,f⟩:=h2 k h4
   have bl:b<wr.heap.size:=by have:=hs.size;omega
   obtain ⟨HS,HC⟩:=h2_ hs c
   have zl:lo<=wr.heap.size:=by omega
   clear hs h2;go_wp2;go_roundw
   case rel=>exact ⟨k+1,by omega,by go_num,by congr 1;omega,HS.trans (Shp.setInt l1 l2 zl HC _)⟩
   case measure=>simp [intOf];omega
  ·obtain rfl:k=n:=by omega
   go_wp2;go_ret;exact ⟨rfl,hs⟩
theorem aEi (lo hi:Nat) (v:Value) (n:Nat) (k0:Int) (w:World) (h:nH lo hi w v n) (hh:hi<=w.heap.size) (hl:lo<=hi) (h0:0<=k0) (h1:k0+n*2<=4611686018427380000) :
  Calls aTg 110 #[v,k0] w fun e w'=>(∃r,e = .returned (.int .i64 r)/\k0<=r/\r<=k0+n*2)/\Shp lo hi w w':=by
 have H:=hid h;obtain ⟨a,cap,rfl,z1,z2,-⟩:=h;go_enter func110,ntmps110;go_wp2
 go_loopw [1,5] (fun q i wr=>∃(k:Nat) (r:Int),k<=n/\i = .int .i64 k/\q = .int .i64 r/\k0<=r/\r<=k0+k*2/\Shp lo hi w wr) (fun _ i _=>n - (intOf i).toNat)
 case atStart=>exact ⟨0,k0,by omega,rfl,rfl,by omega,by omega,Shp.refl hh hl⟩
 case round=>
  obtain ⟨k,r,hk,rfl,rfl,q1,q2,hs⟩:=hrel
  by_cases h7:k<n
  ·obtain ⟨a',h5,e',-,-,h3⟩:=H.shp hs
   simp only [aTw] at e';obtain ⟨rfl,-,rfl⟩:=e';obtain ⟨b,h8,rfl,C0,C1⟩:=h3 k h7;have zs:=hs.size;have h6:=hid C0;obtain ⟨l1,l2,-⟩:=C0
   have bl:b<wr.heap.size:=by omega
   obtain ⟨HS,h2⟩:=h2_ hs C1
   have zl:lo<=wr.heap.size:=by omega
   have zh:hi<=wr.heap.size:=by omega
   clear hs h3 C1;go_wp2_with fail;refine (wD r _ (by omega) (by omega)).mono ?_;rintro e w2 ⟨⟨s2,rfl⟩,x2⟩;have S2:=Shp.of x2 zh hl;have z2:=x2.size;obtain ⟨-,-,⟨y0,d0⟩,f0⟩:=h6.out.shp S2;obtain ⟨-,-,⟨y1,d1⟩,f1⟩:=h2.out.shp S2;have S3:=Shp.setStr l1 l2 (show lo<=w2.heap.size by omega) d0 s2;obtain ⟨-,-,⟨y2,d2⟩,-⟩:=h2.out.shp (S2.trans S3);have S4:=Shp.setInt l1 l2 (show lo<=(w2.setCell ⟨b,h8+k*2,none⟩ (.string s2)).heap.size by simp;omega) d2 (r+1);have h4:=hid (HS.trans (S2.trans (S3.trans S4)))
   have h9:b<w2.heap.size:=by omega
   clear HS S2 S3 S4 x2 d2;go_wp2;go_roundw
   case rel=>exact ⟨k+1,r+1+1,by omega,by go_num,rfl,by omega,by omega,h4⟩
   case measure=>simp [intOf];omega
  ·obtain rfl:k=n:=by omega
   go_wp2;go_ret;exact ⟨⟨_,rfl,q1,q2⟩,hs⟩
theorem aBu (lo hi:Nat) (v:Value) (n:Nat) (k0:Int) (w:World) (h:vC lo hi w v n) (hh:hi<=w.heap.size) (hl:lo<=hi) (h0:0<=k0) (h1:k0+n*1048579<=4611686018427380000) :
  Calls aTg 109 #[v,k0] w fun e w'=>(∃r,e = .returned (.int .i64 r)/\k0<=r/\r<=k0+n*1048579)/\Shp lo hi w w':=by
 have H:=hid h;obtain ⟨a,cap,rfl,z1,z2,-⟩:=h;go_enter func109,ntmps109;go_wp2
 go_loopw [1,5] (fun q i wr=>∃(k:Nat) (r:Int),k<=n/\i = .int .i64 k/\q = .int .i64 r/\k0<=r/\r<=k0+k*1048579/\Shp lo hi w wr) (fun _ i _=>n - (intOf i).toNat)
 case atStart=>exact ⟨0,k0,by omega,rfl,rfl,by omega,by omega,Shp.refl hh hl⟩
 case round=>
  obtain ⟨k,r,hk,rfl,rfl,q1,q2,hs⟩:=hrel
  by_cases q3:k<n
  ·obtain ⟨a',h7,e',-,-,h5⟩:=H.shp hs
   simp only [aTw] at e';obtain ⟨rfl,-,rfl⟩:=e';obtain ⟨b,q4,au,m,cu,rfl,C0,C1,C2,c3,hm,hI⟩:=h5 k q3;have zs:=hs.size;obtain ⟨l1,l2,⟨x0,c0⟩,f0⟩:=C0
   have bl:b<wr.heap.size:=by omega
   obtain ⟨HS,h8,h4,h9,q0⟩:=h5_ hs C1 C2 c3 hI
   have zl:lo<=wr.heap.size:=by omega
   have zh:hi<=wr.heap.size:=by omega
   have S1:=Shp.setInt l1 l2 zl c0 r;have h3:=hid S1;clear hs h5 C1 C2 c3 hI S1;go_wp2_with fail;refine (wD (r+1) _ (by omega) (by omega)).mono ?_;rintro e w2 ⟨⟨s2,rfl⟩,x2⟩;have z2:=x2.size;rw [aUz] at z2;have S2:=h3.trans (Shp.of x2 (by simp;omega) hl);obtain ⟨-,-,⟨y1,d1⟩,f1⟩:=h8.out.shp S2;obtain ⟨-,-,⟨y2,d2⟩,f2⟩:=h4.out.shp S2;have d3:=S2.sl _ _ _ _ _ l1 l2 h9.out;have S3:=Shp.setStr l1 l2 (show lo<=w2.heap.size by omega) d1 s2;obtain ⟨-,-,⟨y3,d4⟩,-⟩:=h4.out.shp (S2.trans S3);have S4:=Shp.setInt l1 l2 (show lo<=(w2.setCell ⟨b,q4+k*4+1,none⟩ (.string s2)).heap.size by simp;omega) d4 (r+1+1);have h2:=hid (S2.trans (S3.trans S4))
   have q5:b<w2.heap.size:=by omega
   clear h3 S2 S3 S4 x2 d4 c0 f0;go_wp2_with fail;refine r_ (tW lo hi _ m _ _ (q0.out.shp h2) (by simp;omega) hl (by omega) (by omega)) fun w5 S5=>?_;have h6:=hid (HS.trans (h2.trans S5));clear S5 h2 HS d1 d2 d3 f1 f2;go_wp2;go_roundw
   case rel=>exact ⟨k+1,_,by omega,by go_num,rfl,by omega,by omega,h6⟩
   case measure=>simp [intOf];omega
  ·obtain rfl:k=n:=by omega
   go_wp2;go_ret;exact ⟨⟨_,rfl,q1,q2⟩,hs⟩
theorem vD (lo hi:Nat) (v:Value) (n:Nat) (k0:Int) (w:World) (h:oI lo hi w v n) (hn:n<=1048576) (hh:hi<=w.heap.size) (hl:lo<=hi) (h0:0<=k0) (h1:k0<=1000000000000000000) :
  Calls aTg 62 #[v,k0] w fun e w'=>(∃r,e = .returned (.int .i64 r)/\k0<=r/\r<=k0+n*1100000000000)/\Shp lo hi w w':=by
 have H:=hid h;obtain ⟨a,cap,rfl,z1,z2,-⟩:=h;go_enter func62,ntmps62;go_wp2
 go_loopw [1,5] (fun q i wr=>∃(k:Nat) (r:Int),k<=n/\i = .int .i64 k/\q = .int .i64 r/\k0<=r/\r<=k0+k*1100000000000/\Shp lo hi w wr) (fun _ i _=>n - (intOf i).toNat)
 case atStart=>exact ⟨0,k0,by omega,rfl,rfl,by omega,by omega,Shp.refl hh hl⟩
 case round=>
  obtain ⟨k,r,hk,rfl,rfl,q1,q2,hs⟩:=hrel
  by_cases h9:k<n
  ·obtain ⟨a',h5,e',-,-,h3⟩:=H.shp hs
   simp only [aTw] at e';obtain ⟨rfl,-,rfl⟩:=e';obtain ⟨b,q3,a1,m1,c1,a2,m2,c2,rfl,l1,l2,d0,d1,s1,s2,hN,hA⟩:=h3 k h9;have zs:=hs.size
   have bl:b<wr.heap.size:=by omega
   obtain ⟨HS,h7,h6,h8⟩:=h4_ hs hN hA d1
   have zh:hi<=wr.heap.size:=by omega
   clear hs h3 hN hA d1;go_wp2_with fail;refine (aBu lo hi _ m1 _ _ h7.out zh hl (by omega) (by omega)).mono ?_;rintro e w2 ⟨⟨r2,rfl,g1,g2⟩,S2⟩;have d2:=S2.sl _ _ _ _ _ l1 l2 h8.out;have z2:=S2.size
   have q0:b<w2.heap.size:=by omega
   have h2:=hid S2;clear S2 d0;go_wp2_with fail;refine (aEi lo hi _ m2 _ _ (h6.out.shp h2) (by omega) hl (by omega) (by omega)).mono ?_;rintro e w3 ⟨⟨r3,rfl,g3,g4⟩,S3⟩;have h4:=hid (HS.trans (h2.trans S3));clear S3 h2 HS d2;go_wp2;go_roundw
   case rel=>exact ⟨k+1,_,by omega,by go_num,rfl,by omega,by omega,h4⟩
   case measure=>simp [intOf];omega
  ·obtain rfl:k=n:=by omega
   go_wp2;go_ret;exact ⟨⟨_,rfl,q1,q2⟩,hs⟩
theorem vE (lo hi:Nat) (v:Value) (n:Nat) (k0:Int) (w:World) (h:tV lo hi w v n) (hn:n<=1048576) (hh:hi<=w.heap.size) (hl:lo<=hi) (h0:0<=k0) (h1:k0<=4000000000000000000) :
  Calls aTg 63 #[v,k0] w fun e w'=>(∃r,e = .returned (.int .i64 r)/\k0<=r)/\Shp lo hi w w':=by
 have H:=hid h;obtain ⟨a,cap,rfl,z1,z2,-⟩:=h;go_enter func63,ntmps63;go_wp2
 go_loopw [1,5] (fun q i wr=>∃(k:Nat) (r:Int),k<=n/\i = .int .i64 k/\q = .int .i64 r/\k0<=r/\r<=k0+k*2/\Shp lo hi w wr) (fun _ i _=>n - (intOf i).toNat)
 case atStart=>exact ⟨0,k0,by omega,rfl,rfl,by omega,by omega,Shp.refl hh hl⟩
 case round=>
  obtain ⟨k,r,hk,rfl,rfl,q1,q2,hs⟩:=hrel
  by_cases h5:k<n
  ·obtain ⟨a',h4,e',-,-,h2⟩:=H.shp hs
   simp only [aTw] at e';obtain ⟨rfl,-,rfl⟩:=e';obtain ⟨b,h6,rfl,C0,C1⟩:=h2 k h5;have zs:=hs.size;obtain ⟨l1,l2,⟨x0,c0⟩,f0⟩:=C0
   have bl:b<wr.heap.size:=by omega
   have HS:=hid hs
   have zl:lo<=wr.heap.size:=by omega
   have S1:=Shp.setInt l1 l2 zl c0 r;obtain ⟨-,-,⟨y2,d2⟩,-⟩:=C1.shp S1;have S2:=Shp.setInt l1 l2 (show lo<=(wr.setCell ⟨b,h6+k*26+24,none⟩ r).heap.size by simp;omega) d2 (r+1);have h3:=hid (hs.trans (S1.trans S2));obtain ⟨-,-,⟨x1,c1⟩,f1⟩:=C1;clear hs h2 S1 S2 HS d2;go_wp2;go_roundw
   case rel=>exact ⟨k+1,_,by omega,by go_num,rfl,by omega,by omega,h3⟩
   case measure=>simp [intOf];omega
  ·obtain rfl:k=n:=by omega
   go_wp2;go_ret;exact ⟨⟨_,rfl,q1⟩,hs⟩
theorem aGs (lo hi:Nat) (lg:Int) (v:Value) (n:Nat) (k0:Int) (w:World) (h:lT lo hi w v n) (hh:hi<=w.heap.size) (hl:lo<=hi) (h0:0<=k0) (h1:k0+n<=4611686018427387904) :
  Calls aTg 61 #[.agg #[lg,v],k0] w fun e w'=>e = .returned (.int .i64 (k0+n))/\Shp lo hi w w':=by
 have H:=hid h;have x0:Ext w (w.alloc (.cells #[lg,v] 36)):=X_;have S0:=hid (Shp.of x0 hh hl);have z0:=x0.size;clear h;go_enter func61,ntmps61;go_wp2_with fail;refine r_ (tW lo hi _ n _ _ (H.shp S0) (aTl hh z0) hl h0 h1) fun w2 S2=>?_;go_wp2;go_ret;exact ⟨rfl,S0.trans S2⟩
theorem CI.same {o:Nat} (h:CI lo hi w b o) (s:aN lo hi w w'):CI lo hi w' b o:=by
 obtain ⟨h1,h2,⟨x,h3⟩,h4⟩:=h;exact ⟨h1,h2,⟨x,(s.cell h1 h2).trans h3⟩,(s.frozen h1 h2).trans h4⟩
theorem CS.same {o:Nat} (h:CS lo hi w b o) (s:aN lo hi w w'):CS lo hi w' b o:=by
 obtain ⟨h1,h2,⟨x,h3⟩,h4⟩:=h;exact ⟨h1,h2,⟨x,(s.cell h1 h2).trans h3⟩,(s.frozen h1 h2).trans h4⟩
theorem CI.wide {o:Nat} (h:CI lo hi w b o) (h1:lo'<=lo) (h2:hi<=hi'):CI lo' hi' w b o:=⟨aTl h1 h.1,aUu h.2.1 h2,h.2.2⟩
theorem CS.wide {o:Nat} (h:CS lo hi w b o) (h1:lo'<=lo) (h2:hi<=hi'):CS lo' hi' w b o:=⟨aTl h1 h.1,aUu h.2.1 h2,h.2.2⟩
theorem lT.same (h:lT lo hi w v n) (s:aN lo hi w w'):lT lo hi w' v n:=by
 obtain ⟨a,cap,h1,h2,h3,h4⟩:=h;exact ⟨a,cap,h1,h2,h3,fun i hi=>by obtain ⟨b,h0,e,hc⟩:=h4 i hi;exact ⟨b,h0,e,hc.same s⟩⟩
theorem lT.wide (h:lT lo hi w v n) (h1:lo'<=lo) (h2:hi<=hi'):lT lo' hi' w v n:=by
 obtain ⟨a,cap,g1,g2,g3,h4⟩:=h;exact ⟨a,cap,g1,g2,g3,fun i hi=>by obtain ⟨b,h0,e,hc⟩:=h4 i hi;exact ⟨b,h0,e,hc.wide h1 h2⟩⟩
theorem aB.intsM {xs:List Int} (h:aB lo w v xs):lT lo w.heap.size w v xs.length:=by
 obtain ⟨a,cap,rfl,_⟩:=h.form;obtain ⟨a',h0,e,g2,g3,_⟩:=h.ints;simp only [aTw,true_and] at e;obtain ⟨rfl,rfl⟩:=e;refine ⟨a,cap,rfl,g2,by unfold maxLen at g3;omega,fun i hi=>?_⟩;obtain ⟨g,y,rfl,l1,l2,_,hc,hf,_⟩:=h.at rfl hi;exact ⟨g,0,rfl,l1,l2,⟨y,by rw [aUa];exact hc⟩,by rw [aUa];exact hf⟩
theorem vC.same (h:vC lo hi w v n) (s:aN lo hi w w'):vC lo hi w' v n:=by
 obtain ⟨a,cap,h1,h2,h3,h4⟩:=h;refine ⟨a,cap,h1,h2,h3,fun i hi=>?_⟩;obtain ⟨b,h0,a',m,c',e,k0,k1,k2,k3,k4,k5⟩:=h4 i hi;exact ⟨b,h0,a',m,c',e,k0.same s,k1.same s,k2.same s,(s.cell k0.1 k0.2.1).trans k3,k4,k5.same s⟩
theorem vC.wide (h:vC lo hi w v n) (h1:lo'<=lo) (h2:hi<=hi'):vC lo' hi' w v n:=by
 obtain ⟨a,cap,g1,g2,g3,h4⟩:=h;refine ⟨a,cap,g1,g2,g3,fun i hi=>?_⟩;obtain ⟨b,h0,a',m,c',e,k0,k1,k2,k3,k4,k5⟩:=h4 i hi;exact ⟨b,h0,a',m,c',e,k0.wide h1 h2,k1.wide h1 h2,k2.wide h1 h2,k3,k4,k5.wide h1 h2⟩
theorem nH.same (h:nH lo hi w v n) (s:aN lo hi w w'):nH lo hi w' v n:=by
 obtain ⟨a,cap,h1,h2,h3,h4⟩:=h;exact ⟨a,cap,h1,h2,h3,fun i hi=>by obtain ⟨b,h0,e,k0,k1⟩:=h4 i hi;exact ⟨b,h0,e,k0.same s,k1.same s⟩⟩
theorem nH.wide (h:nH lo hi w v n) (h1:lo'<=lo) (h2:hi<=hi'):nH lo' hi' w v n:=by
 obtain ⟨a,cap,g1,g2,g3,h4⟩:=h;exact ⟨a,cap,g1,g2,g3,fun i hi=>by obtain ⟨b,h0,e,k0,k1⟩:=h4 i hi;exact ⟨b,h0,e,k0.wide h1 h2,k1.wide h1 h2⟩⟩
def qR (lo hi:Nat) (w:World) (v:Value) (xs:List Nd):Prop:=Nds lo hi w v xs/\vC lo hi w v xs.length
def nI (lo hi:Nat) (w:World) (v:Value) (xs:List Asg):Prop:=oJ lo hi w v xs/\nH lo hi w v xs.length
theorem qR.same {xs:List Nd} (h:qR lo hi w v xs) (s:aN lo hi w w'):qR lo hi w' v xs:=⟨h.1.same s,h.2.same s⟩
theorem nI.same {xs:List Asg} (h:nI lo hi w v xs) (s:aN lo hi w w'):nI lo hi w' v xs:=⟨h.1.same s,h.2.same s⟩
theorem qR.ext {xs:List Nd} (h:qR lo hi w v xs) (hh:hi<=w.heap.size) (e:Ext w w'):qR lo hi w' v xs:=h.same (e.same hh)
theorem qR.wide {xs:List Nd} (h:qR lo hi w v xs) (h1:lo'<=lo) (h2:hi<=hi'):qR lo' hi' w v xs:=⟨h.1.wide h1 h2,h.2.wide h1 h2⟩
theorem nI.wide {xs:List Asg} (h:nI lo hi w v xs) (h1:lo'<=lo) (h2:hi<=hi'):nI lo' hi' w v xs:=⟨h.1.wide h1 h2,h.2.wide h1 h2⟩
theorem qR.setLow {xs:List Nd} (h:qR lo hi w v xs) {p:Addr} (hp:p.block<lo) (x:Value):qR lo hi (w.setCell p x) v xs:=h.same (fun k h1 _=>aTo _ _ _ _ (by omega))
theorem nI.setLow {xs:List Asg} (h:nI lo hi w v xs) {p:Addr} (hp:p.block<lo) (x:Value):nI lo hi (w.setCell p x) v xs:=h.same (fun k h1 _=>aTo _ _ _ _ (by omega))
def Prg.B (p:Prg) (lo hi:Nat) (w:World) (v:Value):Prop:=∃iu lu,v = .agg #[iu,lu]/\qR lo hi w iu p.ns/\nI lo hi w lu p.gs
theorem Prg.B.R {p:Prg} (h:p.B lo hi w v):p.R lo hi w v:=by
 obtain ⟨iu,lu,rfl,h1,h2⟩:=h;exact ⟨iu,lu,rfl,h1.1,h2.1⟩
theorem Prg.B.same {p:Prg} (h:p.B lo hi w v) (s:aN lo hi w w'):p.B lo hi w' v:=by
 obtain ⟨iu,lu,rfl,h1,h2⟩:=h;exact ⟨iu,lu,rfl,h1.same s,h2.same s⟩
theorem Prg.B.wide {p:Prg} (h:p.B lo hi w v) (h1:lo'<=lo) (h2:hi<=hi'):p.B lo' hi' w v:=by
 obtain ⟨iu,lu,rfl,g1,g2⟩:=h;exact ⟨iu,lu,rfl,g1.wide h1 h2,g2.wide h1 h2⟩
theorem aGt (lo hi:Nat) (op:Int) (s:ByteArray) (n:Int) (u:Value) (r:List Int) (w:World) (hu:aS lo hi w u r) (hh:hi<=w.heap.size) (hsz:r.length<=1048576) :
  Calls aTg 180 #[.agg #[op,.string s,n,u]] w fun e w'=>∃a c,e = .returned (.agg #[op,.string s,n,.slice a r.length c])/\aB w.heap.size w' (.slice a r.length c) r/\Ext w w':=by
 have HU:=hid hu;clear hu;go_enter func180,ntmps180;go_wp2_with fail;refine (xC lo hi u r _ (HU.out.ext hh S_) (by simp;omega) hsz).mono ?_;rintro e w1 ⟨v1,rfl,hO,x1⟩;obtain ⟨a,c,rfl,_⟩:=hO.form;have h2:=x1.size;simp only [aTe,aUz] at h2;have h1:=(Bx.madeAt (B:=w.heap.size+1+1) ((w.alloc (.cells #[op,.string s,n,u] 237)).alloc (.cells #[(),.string ⟨#[]⟩,(),.slice none 0 0] 197)) #[op,.string s,n,.slice none 0 0] 197 (by simp)).ext x1;have h0:=((Bx.madeAt (B:=w.heap.size+1) (w.alloc (.cells #[op,.string s,n,u] 237)) #[(),.string ⟨#[]⟩,(),.slice none 0 0] 197 (by simp)).ext ((aTn _).alloc (.cells #[op,.string s,n,.slice none 0 0] 197))).ext x1;have X0:Ext w (((w.alloc (.cells #[op,.string s,n,u] 237)).alloc (.cells #[(),.string ⟨#[]⟩,(),.slice none 0 0] 197)).alloc (.cells #[op,.string s,n,.slice none 0 0] 197)):=S_;obtain ⟨X1,HO⟩:=h2_ (X0.trans x1) hO;clear x1 hO X0;have q:=h1.lt;obtain ⟨q0,q1,q2,q3⟩:=h1.q4;have h7:=h1.frozen 0;have h8:=h1.frozen 1;have h9:=h1.frozen 2;have q5:=h1.frozen 3;have d:=h0.lt;obtain ⟨d0,d1,d2,d3⟩:=h0.q4;have h3:=h0.frozen 0;have h4:=h0.frozen 1;have h5:=h0.frozen 2;have h6:=h0.frozen 3;clear h0 h1;go_wp2;refine bodyPost_ret (v:=.agg #[op,.string s,n,.slice a r.length c]) (by simp [results,results180,go_sem, *]) rfl ⟨a,c,rfl,?_,?_⟩
 ·have h:=HO.out
  simp only [aTe,aUz] at h ⊢;refine aB.low ?_ (Nat.le_add_right _ 3)
  repeat (with_reducible refine aB.setLow ?_ (by simp <;> omega) _)
  exact h
 ·have hX:=X1.out
  exact S_
theorem aEj (lo hi:Nat) (u:Value) (xs:List Nd) (w:World) (hu:Nds lo hi w u xs) (hh:hi<=w.heap.size) (hsz:xs.length<=1048576) (hsa:∀x∈xs,x.args.length<=1048576) :
  Calls aTg 126 #[u] w fun e w'=>e = .returned (.slice (some ⟨w.heap.size,0,none⟩) xs.length xs.length)/\qR w.heap.size w'.heap.size w' (.slice (some ⟨w.heap.size,0,none⟩) xs.length xs.length) xs/\w.heap.size<w'.heap.size/\Ext w w':=by
 obtain ⟨i0,q2,q5,q6,q7⟩:=info_parts aO1;obtain ⟨a,cap,rfl,HU⟩:=hu.open;clear hu;have x6:=HU.cap;have z5:=HU.le;have HS:=hid hsa;clear hsa;go_enter func126,ntmps126;go_wp2_with (at_make;refine wpList_make_full _ rfl _ _ 116 rfl w.heap.size 197 i0 _ 4 underlying116 q2 q5 q6 _ _ _ _ xs.length rfl rfl rfl rfl (by rw [q7];omega) (by unfold maxLen;omega) (aTc _) ?_);intro w1 h9 h4;have hx:Ext w w1:=(aTn w).grown h4 (fun k h=>by cases h);have h1:=hid (show w1.rowIs w.heap.size 197 (xs.length*4) (fI (ndC xs (fun _=>.slice none 0 0)) ndZ 0) from aVt (mB (aO2 _) h9) (fun i _=>by unfold fI;simp));clear h9 h4 q2 q5 q6 q7;go_wp2
 go_loopw [4] (fun i wr=>∃(k:Nat) (us:Nat->Value),k<=xs.length/\i = .int .i64 k/\Ext w wr/\wr.rowIs w.heap.size 197 (xs.length*4) (fI (ndC xs us) ndZ (k*4))/\∀j x,j<k->xs[j]?=some x->aB (w.heap.size+1) wr (us j) x.args) (fun i _=>xs.length - (intOf i).toNat)
 case atStart=>exact ⟨0,_,by omega,rfl,hx,by simpa using h1.out,fun j x hj=>by omega⟩
 case round=>
  clear hx h1;obtain ⟨k,us,hk,rfl,hx,h1,h3⟩:=hrel
  by_cases q4:k<xs.length
  ·obtain ⟨b,z7,op,s,n,ua,ra,rfl,x9,z4,h7,h5,io,z6,q3,x0,x1,x2,x3⟩:=HU.at q4 hx hh
   have x5:=hid (aDw (us:=fun j=>if j=k then ua else us j) h5);obtain ⟨z0,z1,z2,z3⟩:=aQv k;have x7:=fE (k:=4) (j:=3) q4 (by decide);obtain ⟨HX,HR,HI,HA,HG⟩:=h5_ hx h1 q3 h3 h5;have zx:=hx.size;have zr:=aV3 h1;clear h7 h5 hx h1 q3 h3;go_wp2_with fail;refine (aGt lo hi op s n ua ra _ HI.out (by omega) (HS.out _ (aT2 HG.out))).mono ?_;rintro e w2 ⟨a2,c2,rfl,hN,h2⟩;have hR:w2.rowIs w.heap.size 197 (xs.length*4) (fI (ndC xs us) ndZ (k*4)):=aXa HR.out (h2.block zr);obtain ⟨hX,zz,q0,d0,g0,d1,g1,d2⟩:=m8_ (HX.out.trans h2) h2.size (hid (aDw (us:=fun j=>if j=k then .slice a2 ra.length c2 else us j) HG.out)) (aU7 hR (i:=k*4) (by omega)) (aVr hR (k*4)) (aU7 hR (i:=k*4+1) (by omega)) (aVr hR (k*4+1)) (aU7 hR (i:=k*4+2) (by omega));have g2:=aVr hR (k*4+2);have d3:=aU7 hR (i:=k*4+3) (by omega);have g3:=aVr hR (k*4+3);unfold fI at d0 d1 d2 d3;rw [if_neg (by omega)] at d0 d1 d2 d3;rw [z0] at d0;rw [z1] at d1;rw [z2] at d2;rw [z3] at d3;have x4:=hid hX
   have q1:w2.rowIs w.heap.size 197 (xs.length*4) (fI (ndC xs (fun j=>if j=k then .slice a2 ra.length c2 else us j)) ndZ (k*4)):=aVt hR (fun i _=>by
    unfold fI
    by_cases hi:i<k*4
    ·rw [if_pos hi,if_pos hi,aO0 (k:=k) (u:=.slice a2 ra.length c2) i hi]
    ·rw [if_neg hi,if_neg hi])
   obtain ⟨q9,HN⟩:=h2_ q1 hN;have q8:Hid (∀j x,j<k->xs[j]?=some x->aB (w.heap.size+1) w2 (us j) x.args):=hid (fun j x hj h6=>(HA.out j x hj h6).ext h2);clear HX HR h2 hX hR q1 z0 z1 z2 z3 x0 x1 x2 x3 hN HA x5;go_wp2;go_roundw
   case rel=>
    refine ⟨k+1,fun j=>if j=k then .slice a2 ra.length c2 else us j,by omega,by go_num,?_,?_,?_⟩
    ·have hX:=x4.out
     exact S_
    ·rw [aVy,aVz]
     obtain ⟨e0,e1,e2,e3⟩:=q0.out;refine fZ (fZ (fZ (fZ (q9.out) rfl e0.symm) rfl e1.symm) rfl e2.symm) rfl ?_;rw [e3];simp
    ·intro j x hj h6
     simp only [aUz]
     repeat (with_reducible refine aB.setLow ?_ (by simp <;> omega) _)
     by_cases e:j=k
     ·subst e
      rw [HG.out] at h6;injection h6 with h6;subst h6;simp only [if_pos rfl];exact HN.out.low (by omega)
     ·simp only [if_neg e]
      exact q8.out j x (by omega) h6
   case measure=>simp [intOf];omega
  ·obtain rfl:k=xs.length:=by omega
   obtain ⟨HR,HA,HX⟩:=h3_ h1 h3 hx;clear h1 h3 hx;go_wp2;go_ret;have hR:=HR.out;have h8:=aV3 hR
   have h0:∀q,q<xs.length*4->wr.cell? ⟨w.heap.size,0+q,none⟩=some (ndC xs us q):=fun q hq=>by
    rw [aUa,aU7 hR hq];unfold fI;rw [if_pos hq]
   refine ⟨rfl,⟨⟨_,_,rfl,aTc _,by unfold maxLen;omega,fun i x hx=>?_⟩,⟨_,_,rfl,aTc _,by omega,fun i hi=>?_⟩⟩,h8,HX.out⟩
   ·obtain ⟨e0,e1,e2,e3⟩:=aDw (us:=us) hx
    have hi:=(aTd.1 hx).1;have hl:=fE (k:=4) (j:=3) hi (by decide);have x8:=(HU.cell i x hx).1;refine ⟨x8,w.heap.size,0,us i,rfl,aTc _,h8,?_,?_,?_,?_,(HA.out i x hi hx).ints.wide (by omega) (aTc _)⟩
    ·rw [h0 _ (by omega),e0]
    ·rw [aU5,h0 _ (by omega),e1]
    ·rw [aU5,h0 _ (by omega),e2]
    ·rw [aU5,h0 _ (by omega),e3]
   ·have hx:xs[i]?=some xs[i]:=aTk hi
    obtain ⟨e0,e1,e2,e3⟩:=aDw (us:=us) hx;have hl:=fE (k:=4) (j:=3) hi (by decide);have hO:=HA.out i _ hi hx;obtain ⟨ua,uc,hu,_⟩:=hO.form;have hM:=hO.intsM;rw [hu] at hM;have fz:∀q,wr.frozen? ⟨w.heap.size,q,none⟩=false:=fun q=>aVr hR q;refine ⟨w.heap.size,0,ua,_,uc,rfl,⟨aTc _,h8,⟨xs[i].op,?_⟩,fz _⟩,⟨aTc _,h8,⟨xs[i].name,?_⟩,fz _⟩,⟨aTc _,h8,⟨xs[i].num,?_⟩,fz _⟩,?_,HS.out _ (aTy hi),hM.wide (by omega) (aTc _)⟩
    ·rw [h0 _ (by omega),e0]
    ·rw [aU5,h0 _ (by omega),e1]
    ·rw [aU5,h0 _ (by omega),e2]
    ·rw [aU5,h0 _ (by omega),e3,hu]
theorem aGu (lo hi:Nat) (u:Value) (xs:List Asg) (w:World) (hu:oJ lo hi w u xs) (hh:hi<=w.heap.size) (hsz:xs.length<=1048576) :
  Calls aTg 127 #[u] w fun e w'=>e = .returned (.slice (some ⟨w.heap.size,0,none⟩) xs.length xs.length)/\nI w.heap.size w'.heap.size w' (.slice (some ⟨w.heap.size,0,none⟩) xs.length xs.length) xs/\w.heap.size<w'.heap.size/\Ext w w':=by
 obtain ⟨i0,h8,q0,q1,q2⟩:=info_parts aO3;obtain ⟨a,cap,rfl,HU⟩:=hu.open;clear hu;have q6:=HU.cap;have x2:=HU.le;go_enter func127,ntmps127;go_wp2_with (at_make;refine wpList_make_full _ rfl _ _ 117 rfl w.heap.size 200 i0 _ 2 underlying117 h8 q0 q1 _ _ _ _ xs.length rfl rfl rfl rfl (by rw [q2];omega) (by unfold maxLen;omega) (aTc _) ?_);intro w1 h6 h3;have hx:Ext w w1:=(aTn w).grown h3 (fun k h=>by cases h);have h1:=hid (show w1.rowIs w.heap.size 200 (xs.length*2) (fI (agC xs) agZ 0) from aVt (mB (aO4 _) h6) (fun i _=>by unfold fI;simp));clear h6 h3 h8 q0 q1 q2;go_wp2
 go_loopw [4] (fun i wr=>∃k:Nat,k<=xs.length/\i = .int .i64 k/\Ext w wr/\wr.rowIs w.heap.size 200 (xs.length*2) (fI (agC xs) agZ (k*2))) (fun i _=>xs.length - (intOf i).toNat)
 case atStart=>exact ⟨0,by omega,rfl,hx,by simpa using h1.out⟩
 case round=>
  clear hx h1;obtain ⟨k,hk,rfl,hx,h1⟩:=hrel
  by_cases h9:k<xs.length
  ·obtain ⟨b,x3,s,n,rfl,q8,q9,h4,h5,io,x0,x1⟩:=HU.at h9 hx hh
   have q5:=hid (aH7 h5);obtain ⟨z0,z1⟩:=aQw k;have q7:=fE (k:=2) (j:=1) h9 (by decide);obtain ⟨HX,HR⟩:=h2_ hx h1;clear h4 h5 hx h1;go_wp2_with fail;refine r_ (aLd s n _) fun w2 h2=>?_;have hR:w2.rowIs w.heap.size 200 (xs.length*2) (fI (agC xs) agZ (k*2)):=aXa HR (h2.block (aV3 HR));have hX:=HX.trans h2;have d0:=aU7 hR (i:=k*2) (by omega);have g0:=aVr hR (k*2);have d1:=aU7 hR (i:=k*2+1) (by omega);have g1:=aVr hR (k*2+1);unfold fI at d0 d1;rw [if_neg (by omega)] at d0 d1;rw [z0] at d0;rw [z1] at d1;obtain ⟨q4,q3⟩:=h2_ hX hR;clear HX HR h2 hX hR z0 z1 x0 x1;go_wp2;go_roundw
   case rel=>
    refine ⟨k+1,by omega,by go_num,?_,?_⟩
    ·have hX:=q4.out
     exact S_
    ·rw [aVy,aVz]
     obtain ⟨e0,e1⟩:=q5.out;exact fZ (fZ (q3) rfl e0.symm) rfl e1.symm
   case measure=>simp [intOf];omega
  ·obtain rfl:k=xs.length:=by omega
   obtain ⟨HR,HX⟩:=h2_ h1 hx;clear h1 hx;go_wp2;go_ret;have hR:=HR.out;have h7:=aV3 hR
   have h0:∀q,q<xs.length*2->wr.cell? ⟨w.heap.size,0+q,none⟩=some (agC xs q):=fun q hq=>by
    rw [aUa,aU7 hR hq];unfold fI;rw [if_pos hq]
   refine ⟨rfl,⟨⟨_,_,rfl,aTc _,by unfold maxLen;omega,fun i x hx=>?_⟩,⟨_,_,rfl,aTc _,by omega,fun i hi=>?_⟩⟩,h7,HX⟩
   ·obtain ⟨e0,e1⟩:=aH7 hx
    have hi:=(aTd.1 hx).1;have hl:=fE (k:=2) (j:=1) hi (by decide);refine ⟨(HU.cell i x hx).1,w.heap.size,0,rfl,aTc _,h7,?_,?_⟩
    ·rw [h0 _ (by omega),e0]
    ·rw [aU5,h0 _ (by omega),e1]
   ·have hx:xs[i]?=some xs[i]:=aTk hi
    obtain ⟨e0,e1⟩:=aH7 hx;have hl:=fE (k:=2) (j:=1) hi (by decide);have fz:∀q,wr.frozen? ⟨w.heap.size,q,none⟩=false:=fun q=>aVr hR q;refine ⟨w.heap.size,0,rfl,⟨aTc _,h7,⟨xs[i].name,?_⟩,fz _⟩,⟨aTc _,h7,⟨xs[i].root,?_⟩,fz _⟩⟩
    ·rw [h0 _ (by omega),e0]
    ·rw [aU5,h0 _ (by omega),e1]
theorem aAq (lo hi:Nat) (v:Value) (p:Prg) (w:World) (hv:p.R lo hi w v) (hh:hi<=w.heap.size) (hsz:p.small) :
  Calls aTg 79 #[v] w fun e w'=>∃v',e = .returned v'/\p.B w.heap.size w'.heap.size w' v'/\Ext w w':=by
 obtain ⟨iu,lu,rfl,q3,q4⟩:=hv;obtain ⟨HI,HL⟩:=h2_ q3 q4;clear q3 q4;obtain ⟨⟨z1,z1'⟩,z2⟩:=hsz;have HZ:=hid z1';clear z1';have x0:Ext w (((w.alloc (.cells #[iu,lu] 113)).alloc (.cells true 119)).alloc (.cells true 119)):=X_;have bA:=((Bx.made w #[iu,lu] 113).ext ((aTn _).alloc (.cells true 119))).ext ((aTn _).alloc (.cells true 119));have bB:=(Bx.madeAt (B:=w.heap.size+1) (w.alloc (.cells #[iu,lu] 113)) true 119 (by simp)).ext ((aTn _).alloc (.cells true 119));have bC:=Bx.madeAt (B:=w.heap.size+1+1) ((w.alloc (.cells #[iu,lu] 113)).alloc (.cells true 119)) true 119 (by simp);go_enter func79,ntmps79;go_wp2_with fail;refine (aEj lo hi _ p.ns _ (HI.out.ext hh x0) (aTl hh x0.size) z1 HZ.out).mono ?_;rintro e w1 ⟨rfl,hR,h5,x1⟩;simp only [aTe] at hR h5;have h4:=bA.ext x1;have h9:=bB.ext x1;have h0:=bC.ext x1;have x5:=x1.size;simp only [aTe] at x5;obtain ⟨h8,h7⟩:=h2_ (x0.trans x1) hR;clear bA bB bC x0 x1 hR;have y:=h4.lt;obtain ⟨y0,y1⟩:=h4.q2;have q:=h0.lt;obtain ⟨q0,q1⟩:=h0.q2;have q6:=h0.frozen 0;have q7:=h0.frozen 1;obtain ⟨x3,x4,X2,q8⟩:=h4_ (h9.other (p:=⟨w.heap.size+1+1,0,none⟩) (by simp) (.slice (some ⟨w.heap.size+1+1+1,0,none⟩) p.ns.length p.ns.length)) (h0.set 0 (.slice (some ⟨w.heap.size+1+1+1,0,none⟩) p.ns.length p.ns.length)) (h8.out.sc ⟨w.heap.size+1+1,0,none⟩ (.slice (some ⟨w.heap.size+1+1+1,0,none⟩) p.ns.length p.ns.length)) (h7.out.same (w':=w1.setCell ⟨w.heap.size+1+1,0,none⟩ (.slice (some ⟨w.heap.size+1+1+1,0,none⟩) p.ns.length p.ns.length)) (fun k h1 _=>aTo _ _ _ _ (by simp;omega)));clear h4 h9 h0 h8 h7;go_wp2_with fail;refine (aGu lo hi _ p.gs _ (HL.out.ext hh X2.out) (by simp;omega) z2).mono ?_;rintro e w2 ⟨rfl,hO,h6,x2⟩;have h2:=x3.out.ext x2;have h3:=(x4.out.ext x2).same (cs':=#[.slice (some ⟨w.heap.size+1+1+1,0,none⟩) p.ns.length p.ns.length,.slice none 0 0]) rfl;have q5:=x2.size;simp only [aUz] at q5 hO h6;obtain ⟨X3,q9,HO⟩:=h3_ (X2.out.trans x2) (q8.out.ext (by simp) x2) hO;clear y y0 y1 q q0 q1 q6 q7 x2 hO;have q:=h3.lt;obtain ⟨q0,q1⟩:=h3.q2;have q6:=h3.frozen 0;have q7:=h3.frozen 1;have d:=h2.lt;obtain ⟨d0,d1⟩:=h2.q2;have x6:=h2.frozen 0;have x7:=h2.frozen 1;clear h2 h3;go_wp2;refine bodyPost_ret (v:=.agg #[.slice (some ⟨w.heap.size+1+1+1,0,none⟩) p.ns.length p.ns.length,.slice (some ⟨w1.heap.size,0,none⟩) p.gs.length p.gs.length]) (by simp [results,results79,go_sem, *]) rfl ⟨_,rfl,⟨_,_,rfl,?_,?_⟩,?_⟩
 ·have h:=q9.out
  simp only [aUz];refine qR.wide ?_ (Nat.le_add_right _ 3) q5
  repeat (with_reducible refine qR.setLow ?_ (by simp <;> omega) _)
  exact h
 ·have h:=HO.out
  simp only [aUz];refine nI.wide ?_ (show w.heap.size<=w1.heap.size by omega) (aTc _)
  repeat (with_reducible refine nI.setLow ?_ (by simp <;> omega) _)
  exact h
 ·have hX:=X3.out
  exact S_
theorem Prg.B.form {p:Prg} (h:p.B lo hi w v):∃a1 c1 a2 c2,v = .agg #[.slice a1 p.ns.length c1,.slice a2 p.gs.length c2]/\vC lo hi w (.slice a1 p.ns.length c1) p.ns.length/\nH lo hi w (.slice a2 p.gs.length c2) p.gs.length:=by
 obtain ⟨iu,lu,rfl,⟨h1,h2⟩,h3,h4⟩:=h;obtain ⟨a1,c1,rfl,_⟩:=h1.open;obtain ⟨a2,c2,rfl,_⟩:=h3.open;exact ⟨a1,c1,a2,c2,rfl,h2,h4⟩
def prC (us vs:Nat->Value) (i:Nat):Value:=if i % 2=0 then us (i / 2) else vs (i / 2)
def prZ (_:Nat):Value:=.slice none 0 0
theorem aI4 (us vs:Nat->Value) (k:Nat):prC us vs (k*2)=us k/\prC us vs (k*2+1)=vs k:=by
 refine ⟨?_,?_⟩
 ·unfold prC
  rw [if_pos (by omega),show k*2 / 2=k by omega]
 ·unfold prC
  rw [if_neg (by omega),show (k*2+1) / 2=k by omega]
theorem aPq {us vs:Nat->Value} {u:Value}:∀i,i<k*2->prC us vs i=prC (fun j=>if j=k then u else us j) (fun j=>if j=k then v else vs j) i:=by
 intro i hi;unfold prC;simp only [if_neg (show ¬i / 2=k by omega)]
theorem aPr:(Tryz.prog.info? 119).map (fun i=>(i.zero,i.size,i.bytes))=some (some (.agg true),2,48):=by kernel_rfl
theorem aPs (n:Nat):∀i,i<n->(madeCells true n)[i]?=some (prZ i):=by
 intro i hi;unfold prZ;have:i % 2<2:=aV2 _ (by decide)
 rcases (show i % 2=0\/i % 2=1 by omega) with e|e <;> simp [madeCells,hi,e]
theorem oI.same (h:oI lo hi w v n) (s:aN lo hi w w'):oI lo hi w' v n:=by
 obtain ⟨a,cap,h1,h2,h3,h4⟩:=h;refine ⟨a,cap,h1,h2,h3,fun i hi=>?_⟩;obtain ⟨b,h0,a1,m1,c1,a2,m2,c2,e,l1,l2,k1,k2,z1,z2,k3,k4⟩:=h4 i hi;exact ⟨b,h0,a1,m1,c1,a2,m2,c2,e,l1,l2,(s.cell l1 l2).trans k1,(s.cell l1 l2).trans k2,z1,z2,k3.same s,k4.same s⟩
theorem oI.wide (h:oI lo hi w v n) (h1:lo'<=lo) (h2:hi<=hi'):oI lo' hi' w v n:=by
 obtain ⟨a,cap,g1,g2,g3,h4⟩:=h;refine ⟨a,cap,g1,g2,g3,fun i hi=>?_⟩;obtain ⟨b,h0,a1,m1,c1,a2,m2,c2,e,l1,l2,k1,k2,z1,z2,k3,k4⟩:=h4 i hi;exact ⟨b,h0,a1,m1,c1,a2,m2,c2,e,by omega,by omega,k1,k2,z1,z2,k3.wide h1 h2,k4.wide h1 h2⟩
theorem hZ.wide {ps:List Prg} (h:hZ lo hi w v ps) (h1:lo'<=lo) (h2:hi<=hi'):hZ lo' hi' w v ps:=by
 obtain ⟨a,cap,g1,g2,g3,h4⟩:=h;refine ⟨a,cap,g1,g2,g3,fun k p hk=>?_⟩;obtain ⟨b,h0,u1,u2,e1,e2,e3,e4,e5,iu,lu,e6,e7,e8⟩:=h4 k p hk;exact ⟨b,h0,u1,u2,e1,by omega,by omega,e4,e5,iu,lu,e6,e7.wide h1 h2,e8.wide h1 h2⟩
theorem aAr (lo hi:Nat) (u:Value) (ps:List Prg) (w:World) (hu:hZ lo hi w u ps) (hh:hi<=w.heap.size) (hsz:ps.length<=1048576) (hsm:∀p∈ps,p.small) :
  Calls aTg 38 #[u] w fun e w'=>e = .returned (.slice (some ⟨w.heap.size,0,none⟩) ps.length ps.length)/\(hZ w.heap.size w'.heap.size w' (.slice (some ⟨w.heap.size,0,none⟩) ps.length ps.length) ps/\oI w.heap.size w'.heap.size w' (.slice (some ⟨w.heap.size,0,none⟩) ps.length ps.length) ps.length)/\w.heap.size<w'.heap.size/\Ext w w':=by
 obtain ⟨i0,q4,q5,q6,q7⟩:=info_parts aPr;obtain ⟨a,cap,rfl,HU⟩:=hu.open;clear hu;have x4:=HU.cap;have x8:=HU.le;obtain ⟨HS,x2⟩:=h2_ hsm HU;clear hsm;go_enter func38,ntmps38;go_wp2_with (at_make;refine wpList_make_full _ rfl _ _ 37 rfl w.heap.size 119 i0 _ 2 underlying37 q4 q5 q6 _ _ _ _ ps.length rfl rfl rfl rfl (by rw [q7];omega) (by unfold maxLen;omega) (aTc _) ?_);intro w1 h9 h6;have hx:Ext w w1:=(aTn w).grown h6 (fun k h=>by cases h);have h3:=hid (show w1.rowIs w.heap.size 119 (ps.length*2) (fI (prC (fun _=>.slice none 0 0) (fun _=>.slice none 0 0)) prZ 0) from aVt (mB (aPs _) h9) (fun i _=>by unfold fI;simp));clear h9 h6 q4 q5 q6 q7 HU;go_wp2
 go_loopw [4] (fun i wr=>∃(k:Nat) (us vs:Nat->Value),k<=ps.length/\i = .int .i64 k/\Ext w wr/\wr.rowIs w.heap.size 119 (ps.length*2) (fI (prC us vs) prZ (k*2))/\∀j p,j<k->ps[j]?=some p->p.B (w.heap.size+1) wr.heap.size wr (.agg #[us j,vs j])) (fun i _=>ps.length - (intOf i).toNat)
 case atStart=>exact ⟨0,_,_,by omega,rfl,hx,by simpa using h3.out,fun j x hj=>by omega⟩
 case round=>
  clear hx h3;obtain ⟨k,us,vs,hk,rfl,hx,h3,h5⟩:=hrel
  by_cases h4:k<ps.length
  ·obtain ⟨b,x9,e1,d1,e2,d2,rfl,x7,x6,x0,x1,hR⟩:=x2.at h4 hx hh
   have h8:ps[k]?=some ps[k]:=aTk h4;have x5:=fE (k:=2) (j:=1) h4 (by decide);obtain ⟨HX,HR,HP,HA,HG⟩:=h5_ hx h3 hR h5 h8;have zx:=hx.size;have zr:=aV3 h3;clear h8 hx h3 h5 hR;go_wp2_with fail;refine (aAq lo hi _ ps[k] _ HP (by omega) (HS _ (aTy h4))).mono ?_;rintro e w2 ⟨v2,rfl,hN,h2⟩;obtain ⟨a1,c1,a2,c2,rfl,_⟩:=hN.form;have hR:w2.rowIs w.heap.size 119 (ps.length*2) (fI (prC us vs) prZ (k*2)):=aXa HR (h2.block zr);have hX:=HX.trans h2;have zz:=h2.size;have q1:=hid (aI4 (fun j=>if j=k then .slice a1 (ps[k]'h4).ns.length c1 else us j) (fun j=>if j=k then .slice a2 (ps[k]'h4).gs.length c2 else vs j) k);have d0:=aU7 hR (i:=k*2) (by omega);have g0:=aVr hR (k*2);have q0:=aU7 hR (i:=k*2+1) (by omega);have g1:=aVr hR (k*2+1);unfold fI at d0 q0;rw [if_neg (by omega)] at d0 q0;unfold prZ at d0 q0;have x3:=hid hX
   have q3:w2.rowIs w.heap.size 119 (ps.length*2) (fI (prC (fun j=>if j=k then .slice a1 (ps[k]'h4).ns.length c1 else us j) (fun j=>if j=k then .slice a2 (ps[k]'h4).gs.length c2 else vs j)) prZ (k*2)):=aVt hR (fun i _=>by
    unfold fI
    by_cases hi:i<k*2
    ·rw [if_pos hi,if_pos hi,aPq (k:=k) i hi]
    ·rw [if_neg hi,if_neg hi])
   obtain ⟨q9,HN,q8⟩:=h3_ q3 hN (show ∀j p,j<k->ps[j]?=some p->p.B (w.heap.size+1) w2.heap.size w2 (.agg #[us j,vs j]) from fun j p hj h7=>((HA j p hj h7).same (h2.same (aTc _))).wide (aTc _) zz);clear HX HR h2 hX hR q3 x0 x1 hN HA;go_wp2;go_roundw
   case rel=>
    refine ⟨k+1,fun j=>if j=k then .slice a1 (ps[k]'h4).ns.length c1 else us j,fun j=>if j=k then .slice a2 (ps[k]'h4).gs.length c2 else vs j,by omega,by go_num,?_,?_,?_⟩
    ·have hX:=x3.out
     exact S_
    ·rw [aVy,aVz]
     obtain ⟨e0,e1⟩:=q1.out;refine fZ (fZ q9 rfl ?_) rfl ?_
     ·rw [e0];simp
     ·rw [e1];simp
    ·intro j p hj h7
     simp only [aUz]
     have hs:∀W:World,∀u1 u2:Value,aN (w.heap.size+1) W.heap.size W ((W.setCell ⟨w.heap.size,k*2,none⟩ u1).setCell ⟨w.heap.size,k*2+1,none⟩ u2):=fun W u1 u2 q h1 _=>by
      rw [aTo _ _ _ _ (by simp;omega),aTo _ _ _ _ (by simp;omega)]
     by_cases e:j=k
     ·subst e
      rw [HG] at h7;injection h7 with h7;subst h7;simp only [if_pos rfl];exact (HN.wide (by omega) (aTc _)).same (hs _ _ _)
     ·simp only [if_neg e]
      exact (q8 j p (by omega) h7).same (hs _ _ _)
   case measure=>simp [intOf];omega
  ·obtain rfl:k=ps.length:=by omega
   obtain ⟨HR,HA,HX⟩:=h3_ h3 h5 hx;clear h3 h5 hx;go_wp2;go_ret;have hR:=HR.out;have q2:=aV3 hR
   have h0:∀q,q<ps.length*2->wr.cell? ⟨w.heap.size,0+q,none⟩=some (prC us vs q):=fun q hq=>by
    rw [aUa,aU7 hR hq];unfold fI;rw [if_pos hq]
   refine ⟨rfl,⟨⟨_,_,rfl,aTc _,by unfold maxLen;omega,fun i p hp=>?_⟩,⟨_,_,rfl,aTc _,by omega,fun i hi=>?_⟩⟩,q2,HX⟩
   ·obtain ⟨e0,e1⟩:=aI4 us vs i
    have hi:=(aTd.1 hp).1;have hl:=fE (k:=2) (j:=1) hi (by decide);refine ⟨w.heap.size,0,us i,vs i,rfl,aTc _,q2,?_,?_,((HA i p hi hp).wide (by omega) (aTc _)).R⟩
    ·rw [h0 _ (by omega),e0]
    ·rw [aU5,h0 _ (by omega),e1]
   ·have hp:ps[i]?=some ps[i]:=aTk hi
    obtain ⟨e0,e1⟩:=aI4 us vs i;have hl:=fE (k:=2) (j:=1) hi (by decide);have hB:=(HA i _ hi hp).wide (lo':=w.heap.size) (hi':=wr.heap.size) (by omega) (aTc _);obtain ⟨a1,c1,a2,c2,e,hN,hA⟩:=hB.form;simp only [Value.agg.injEq,Array.mk.injEq,List.cons.injEq,and_true] at e;have hs:=HS.out _ (aTy hi);refine ⟨w.heap.size,0,a1,_,c1,a2,_,c2,rfl,aTc _,q2,?_,?_,hs.1.1,hs.2,hN,hA⟩
    ·rw [h0 _ (by omega),e0,e.1]
    ·rw [aU5,h0 _ (by omega),e1,e.2]
theorem wL (lo hi lo' hi':Nat) (u v:Value) (ps:List Prg) (w:World) (hu:hZ lo hi w u ps) (hv:hZ lo' hi' w v ps) (hh:hi<=w.heap.size) (hh':hi'<=w.heap.size) :
  R_ 43 #[u,v] w (.bool true):=by
 obtain ⟨a,cap,rfl,HU⟩:=hu.open;obtain ⟨a',h5,rfl,HV⟩:=hv.open;clear hu hv;have h1:=HU.le;have h2:=HU.cap;have q3:=HV.le;have q4:=HV.cap;go_enter func43,ntmps43;go_wp2
 go_loopw [5] (fun i wr=>∃k:Nat,k<=ps.length/\i = .int .i64 k/\Ext w wr) (fun i _=>ps.length - (intOf i).toNat)
 case atStart=>exact ⟨0,by omega,rfl,X_⟩
 case round=>
  obtain ⟨k,hk,rfl,hx⟩:=hrel
  by_cases h0:k<ps.length
  ·obtain ⟨b,q7,e1,d1,e2,d2,rfl,q6,q5,x0,x1,hR⟩:=HU.at h0 hx hh
   obtain ⟨b',h8,q1,h9,q2,q0,rfl,h7,h6,q8,q9,h3⟩:=HV.at h0 hx hh';obtain ⟨HX,HI,h4⟩:=h3_ hx hR h3;have zx:=hx.size;clear hx hR h3;go_wp2;refine aA [([0,1,2,3,4,5,6,7],8),([],9)] 99 wr.heap.size ?_;refine st_ fun K hK=>?_;go_wp2_with fail;refine r_ (yU lo hi lo' hi' _ _ (ps[k]'h0) _ (HI.ext (by omega) X_) (by simp;omega) (h4.ext (by omega) X_) (by simp;omega)) fun w1 h1=>?_;have y1:Ext wr w1:=aTi X_ h1;go_wp2;refine k_ hK (st_ fun K hK=>?_);go_wp2;refine k_ hK (aC ?_);clear hK K;have hX:=HX.trans y1;clear h1 y1 HX;go_wp2;go_roundw
   case rel=>exact ⟨k+1,by omega,by go_num,hX⟩
   case measure=>simp [intOf];omega
  ·go_wp2
   go_ret;exact ⟨rfl,hx⟩
theorem aAs (lo hi:Nat) (u:Value) (ps:List Prg) (left:Int) (w:World) (hu:hZ lo hi w u ps) (hh:hi<=w.heap.size) (hb:∀p∈ps,p.bd) (h1:0<=left) (h2:left<=1048576) :
  Calls aTg 33 #[u,left] w fun e w'=>(∃r,e = .returned (.int .i64 r)/\(r = -1\/(0<=r/\r<=left/\ps.length<=1048576/\∀p∈ps,p.small)))/\Ext w w':=by
 obtain ⟨a,cap,rfl,HU⟩:=hu.open;have h3:=HU.le;have h4:=HU.cap;have HB:=hid hb;clear hu hb
 by_cases hl:left - (ps.length:Int)<0
 ·go_enter func33,ntmps33
  go_wp2;go_ret;exact ⟨⟨_,rfl,.inl rfl⟩,S_⟩
 ·go_enter func33,ntmps33
  go_wp2
  go_loopw [1,5] (fun q i wr=>∃(k:Nat) (r:Int),k<=ps.length/\i = .int .i64 k/\q = .int .i64 r/\0<=r/\r<=left/\(∀j x,j<k->ps[j]?=some x->x.small)/\Ext w wr) (fun _ i _=>ps.length - (intOf i).toNat)
  case atStart=>exact ⟨0,_,by omega,rfl,rfl,by omega,by omega,fun j x hj=>by omega,S_⟩
  case round=>
   obtain ⟨k,r,hk,rfl,rfl,h7,h9,h0,hx⟩:=hrel
   by_cases h6:k<ps.length
   ·obtain ⟨b,q2,e1,d1,e2,d2,rfl,q1,q0,x0,x1,hR⟩:=HU.at h6 hx hh
    have h5:ps[k]?=some ps[k]:=aTk h6;obtain ⟨hz,HX,HI,HA,HG⟩:=h5_ (HB _ (aTy h6)) hx hR h0 h5;have zx:=hx.size;clear h5 hx hR h0;go_wp2_with fail;refine (aA9 lo hi _ (ps[k]'h6) r _ HI (by omega) hz.out h7 (by omega)).mono ?_;rintro e w1 ⟨⟨r2,rfl,hr3⟩,x3⟩;have X3:=HX.trans x3
    rcases hr3 with rfl|⟨hr3,hr4,hr5⟩
    ·go_wp2
     go_ret;exact ⟨⟨_,rfl,.inl rfl⟩,X3⟩
    ·have hn : ¬r2<0:=by omega
     have h8:=hid hr5;clear hr5;go_wp2;go_roundw
     case rel=>
      refine ⟨k+1,r2,by omega,by go_num,rfl,by omega,by omega,fun j x hj hx=>?_,X3⟩
      by_cases e:j=k
      ·subst e
       rw [HG] at hx;injection hx with hx;subst hx;exact h8
      ·exact HA j x (by omega) hx
     case measure=>simp [intOf];omega
   ·go_wp2
    go_ret;exact ⟨⟨_,rfl,.inr ⟨h7,h9,by omega,fun p hp=>by obtain ⟨i,hi,rfl⟩:=List.getElem_of_mem hp;exact h0 i _ (by omega) (aTk hi)⟩⟩,hx⟩
theorem Ext.setC {w0:World} (hb:w0.heap.size<=b):∀(vs:List Value) (o:Nat) {w:World},Ext w0 w->Ext w0 (w.setCells b o vs)
 | [],_,_,h=>h
 | _::r,_,_,h=>Ext.setC hb r _ (h.setCell hb _)
theorem Blk.setC {cs:List Value} (ne:g≠b):∀(vs:List Value) (o:Nat) {w:World},Blk w g t cs->Blk (w.setCells b o vs) g t cs
 | [],_,_,h=>h
 | v::r,_,_,h=>Blk.setC ne r _ (h.other (a:=⟨b,_,none⟩) ne v)
theorem bT.stepN:∀(xs:List Int) (c:Nat) (w:World),bT w b t n (mJ f c)->(∀j x,xs[j]?=some x->x=f (c+j))->bT (w.setCells b c (xs.map (aWn .i64))) b t n (mJ f (c+xs.length))
 | [],c,w,h,_=>h
 | x::r,c,w,h,hx=>by
  have h0:=h.step (i:=c) (x:=x) rfl (hx 0 x rfl);have h1:=bT.stepN r (c+1) _ h0 (fun j y hj=>by rw [hx (j+1) y hj];congr 1;omega);rw [aUs,show c+(r.length+1)=c+1+r.length by omega];exact h1
theorem bT.there (h:bT w b t n f) {o m:Nat} (hm:o+m<=n):w.there b o m:=fun j hj=>
 ⟨by rw [h.cell (i:=o+j) (by omega)];rfl,h.frozen _⟩
theorem bT.rangeL (h:bT w b t n f) {o:Nat} (xs:List Int) (hm:o+xs.length<=n) (hx:∀j x,xs[j]?=some x->x=f (o+j)):w.rangeAt b o (xs.map (aWn .i64)):=fun j v hj=>by
 rw [aU0] at hj
 cases hx':xs[j]? with
 | none=>rw [hx'] at hj;cases hj
 | some x=>
  rw [hx'] at hj;have hl:=(aTd.1 hx').1;have e:=hx j x hx';rw [h.cell (i:=o+j) (by omega),<-e];exact hj
theorem aEk {i:Nat} (h:i<26):i=0\/i=1\/i=2\/i=3\/i=4\/i=5\/i=6\/i=7\/i=8\/i=9\/i=10\/i=11\/i=12\/i=13\/i=14\/i=15\/i=16\/i=17\/i=18\/i=19\/i=20\/i=21\/i=22\/i=23\/i=24\/i=25:=by omega
theorem aI5 (hb:w.heap.size=b):bT (w.alloc (.cells () t)) b t 26 (fun _=>0):=
 hb▸World.rowIs_alloc _ _ _ _ fun i hi=>by rcases aEk hi with h|h|h|h|h|h|h|h|h|h|h|h|h|h|h|h|h|h|h|h|h|h|h|h|h|h <;> subst h <;> rfl
theorem aQd (f:Nat->Int):∀j x,([f 0,f 1,f 2,f 3,f 4,f 5,f 6,f 7,f 8,f 9,f 10,f 11,f 12,f 13,f 14,f 15,f 16,f 17,f 18,f 19,f 20,f 21,f 22,f 23,f 24,f 25]:List Int)[j]?=some x->x=f j:=by
 intro j x h;have hl:=(aTd.1 h).1
 rcases aEk hl with e|e|e|e|e|e|e|e|e|e|e|e|e|e|e|e|e|e|e|e|e|e|e|e|e|e <;> subst e <;> exact (aU8 h).symm
theorem aJ5 (f:Nat->Int) (c:Nat):∀j x,([f (c+0),f (c+1),f (c+2),f (c+3),f (c+4),f (c+5),f (c+6),f (c+7),f (c+8),f (c+9),f (c+10),f (c+11)]:List Int)[j]?=some x->x=f (c+j):=by
 intro j x h;have hl:=(aTd.1 h).1
 rcases aMo hl with e|e|e|e|e|e|e|e|e|e|e|e <;> subst e <;> exact (aU8 h).symm
theorem aGv:(Tryz.prog.info? 125).map (·.size)=some 12:=by kernel_rfl
theorem aBv (f:Nat->Int) (w:World):R_ 80 #[.agg (fA_ f)] w (.agg (fA_ f)):=by
 have b0:=(aTm w 134 (fL_ f)).ext (show Ext (w.alloc (.cells (fA_ f) 134)) (((w.alloc (.cells (fA_ f) 134)).alloc (.cells () 127)).alloc (.cells () 127)) from X_);have r0:=(aTm (w.alloc (.cells (fA_ f) 134)) 127 ()).ext (show Ext ((w.alloc (.cells (fA_ f) 134)).alloc (.cells () 127)) (((w.alloc (.cells (fA_ f) 134)).alloc (.cells () 127)).alloc (.cells () 127)) from X_);have t0:=bT.zero (f:=f) (aI5 (w:=((w.alloc (.cells (fA_ f) 134)).alloc (.cells () 127))) (t:=127) rfl);simp only [aTe] at r0 t0;have x0:Ext w (((w.alloc (.cells (fA_ f) 134)).alloc (.cells () 127)).alloc (.cells () 127)):=X_;obtain ⟨B0,R0,T0,X0⟩:=h4_ b0 r0 t0 x0;clear b0 r0 t0 x0;go_enter func80,ntmps80;go_upto_region 2 with fail
 obtain ⟨WA,h2⟩:=e_ (((w.alloc (.cells (fA_ f) 134)).alloc (.cells () 127)).alloc (.cells () 127))
 rw [h2] at B0 R0 T0 X0 ⊢;clear h2;obtain ⟨c0,c1,c2,c3,c4,c5,c6,c7,c8,c9,h5,h6⟩:=B0.q12;have cl:=B0.lt;go_wp2_with fail;refine r_ (vP (f 0) (f 1) (f 2) (f 3) (f 4) (f 5) (f 6) (f 7) (f 8) (f 9) (f 10) (f 11) _) fun w1 x1=>?_;clear c0 c1 c2 c3 c4 c5 c6 c7 c8 c9 h5 h6 cl;obtain ⟨B1,R1,T1,X1⟩:=h4_ (B0.ext x1) (R0.ext x1) (T0.ext x1) (X0.trans x1);clear B0 R0 T0 X0 x1;go_upto_region 3 with (show wpList _ _ _ [_] _ _;refine wpList_store_mid rfl _ _ _ rfl (w.heap.size+1+1) 0 f rfl rfl (T1.there (m:=12) (by decide)) aGv (by kernel_rfl) ?_);obtain ⟨B2,R2,T2,X2⟩:=h4_ (B1.setC (b:=w.heap.size+1+1) (by omega) f 0) (R1.setC (b:=w.heap.size+1+1) (by omega) f 0) (bT.stepN [f 0,f 1,f 2,f 3,f 4,f 5,f 6,f 7,f 8,f 9,f 10,f 11] 0 _ T1 (by first|exact aJ5 f 0|(intro j x h;rw [aUa];have:=aJ5 f 0 j x;simpa using this h))) (X1.setC (b:=w.heap.size+1+1) (by omega) f 0);simp only [aVn,aYw,aUs,aVp,aUa,aWi] at T2
 obtain ⟨z0,h0⟩:=e_ (w1.setCells (w.heap.size+1+1) 0 f)
 rw [h0] at B2 R2 T2 X2
 show Code.wp _ _ _ _ (w1.setCells (w.heap.size+1+1) 0 f)
 rw [h0];clear h0 B1 R1 T1 X1;obtain ⟨h7,h8,h9,q0,q1,q2,q3,q4,q5,q6,q7,q8⟩:=m12_ (B2.cell 12 rfl) (B2.cell 13 rfl) (B2.cell 14 rfl) (B2.cell 15 rfl) (B2.cell 16 rfl) (B2.cell 17 rfl) (B2.cell 18 rfl) (B2.cell 19 rfl) (B2.cell 20 rfl) (B2.cell 21 rfl) (B2.cell 22 rfl) (B2.cell 23 rfl);have cl:=B2.lt;go_wp2_with fail;refine r_ (vP (f 12) (f 13) (f 14) (f 15) (f 16) (f 17) (f 18) (f 19) (f 20) (f 21) (f 22) (f 23) _) fun w2 x2=>?_;clear h7 h8 h9 q0 q1 q2 q3 q4 q5 q6 q7 q8 cl;obtain ⟨B3,R3,T3,X3⟩:=h4_ (B2.ext x2) (R2.ext x2) (T2.ext x2) (X2.trans x2);clear B2 R2 T2 X2 x2;go_upto_region 4 with (show wpList _ _ _ [_] _ _;refine wpList_store_mid rfl _ _ _ rfl (w.heap.size+1+1) 12 #[(f 12),(f 13),(f 14),(f 15),(f 16),(f 17),(f 18),(f 19),(f 20),(f 21),(f 22),(f 23)] rfl rfl (T3.there (m:=12) (by decide)) aGv (by kernel_rfl) ?_);obtain ⟨B4,R4,T4,X4⟩:=h4_ (B3.setC (b:=w.heap.size+1+1) (by omega) [(f 12),(f 13),(f 14),(f 15),(f 16),(f 17),(f 18),(f 19),(f 20),(f 21),(f 22),(f 23)] 12) (R3.setC (b:=w.heap.size+1+1) (by omega) [(f 12),(f 13),(f 14),(f 15),(f 16),(f 17),(f 18),(f 19),(f 20),(f 21),(f 22),(f 23)] 12) (bT.stepN [f 12,f 13,f 14,f 15,f 16,f 17,f 18,f 19,f 20,f 21,f 22,f 23] 12 _ T3 (by first|exact aJ5 f 12|(intro j x h;rw [aUa];have:=aJ5 f 0 j x;simpa using this h))) (X3.setC (b:=w.heap.size+1+1) (by omega) [(f 12),(f 13),(f 14),(f 15),(f 16),(f 17),(f 18),(f 19),(f 20),(f 21),(f 22),(f 23)] 12);simp only [aVn,aYw,aUs,aVp,aUa,aWi] at T4
 obtain ⟨h4,h1⟩:=e_ (w2.setCells (w.heap.size+1+1) 12 [(f 12),(f 13),(f 14),(f 15),(f 16),(f 17),(f 18),(f 19),(f 20),(f 21),(f 22),(f 23)])
 rw [h1] at B4 R4 T4 X4
 show Code.wp _ _ _ _ (w2.setCells (w.heap.size+1+1) 12 [(f 12),(f 13),(f 14),(f 15),(f 16),(f 17),(f 18),(f 19),(f 20),(f 21),(f 22),(f 23)])
 rw [h1];clear h1 B3 R3 T3 X3;obtain ⟨q9,x3,cl,x4,x5,x6,x7,tl⟩:=m8_ (B4.cell 24 rfl) (B4.cell 25 rfl) B4.lt (T4.cell (i:=24) (by decide)) (T4.cell (i:=25) (by decide)) (T4.frozen 24) (T4.frozen 25) T4.lt;obtain ⟨T5,R5,X5⟩:=h3_ (bT.step (bT.step T4 rfl rfl) rfl rfl) ((R4.ot ⟨w.heap.size+1+1,24,none⟩ (.int .i64 (f 24))).ot ⟨w.heap.size+1+1,25,none⟩ (.int .i64 (f 25))) ((X4.sc ⟨w.heap.size+1+1,24,none⟩ (.int .i64 (f 24))).sc ⟨w.heap.size+1+1,25,none⟩ (.int .i64 (f 25)));clear B4 R4 X4;go_upto_region 6 with fail
 obtain ⟨WC,h3⟩:=e_ ((h4.setCell ⟨w.heap.size+1+1,24,none⟩ (f 24)).setCell ⟨w.heap.size+1+1,25,none⟩ (f 25))
 rw [h3] at T5 R5 X5 ⊢;clear h3 q9 x3 cl x4 x5 x6 x7 tl T4;have x9:=(bT.full T5).rangeL (o:=0) [f 0,f 1,f 2,f 3,f 4,f 5,f 6,f 7,f 8,f 9,f 10,f 11,f 12,f 13,f 14,f 15,f 16,f 17,f 18,f 19,f 20,f 21,f 22,f 23,f 24,f 25] (by simp) (fun j x h=>by rw [aUa];exact aQd f j x h);have x8:WC.heap[w.heap.size+1]?=some (.cells () 127 (0,0)):=R5;go_wp2_with (first|(show wpList _ _ _ [_,_] _ _;refine wpList_load_mid rfl _ _ rfl (w.heap.size+1+1) 0 rfl (fL_ f) _ x9 underlying127 rfl jC ?_)|(show wpList _ _ _ [_] _ _;refine wpList_store_rowTo rfl _ _ _ rfl rfl (w.heap.size+1) (fA_ f) rfl rfl _ _ x8 jC rfl (by kernel_rfl) ?_));have bR:=R5.rowB (fL_ f);have xR:=X5.setRowB (g:=w.heap.size+1) (by omega) (fA_ f);refine aD6 rfl rfl bR _ underlying127 rfl jC rfl ?_;exact ⟨rfl,xR⟩
theorem aAt (f:Nat->Int) (w:World):R_ 84 #[.agg (fA_ f),.agg (fA_ f)] w (.bool true):=by
 have b0:=(aTm w 127 (fL_ f)).ext (show Ext (w.alloc (.cells (fA_ f) 127)) ((w.alloc (.cells (fA_ f) 127)).alloc (.cells (fA_ f) 127)) from X_);have r0:=aTm (w.alloc (.cells (fA_ f) 127)) 127 (fL_ f);rw [aTe] at r0;obtain ⟨X0,B0,R0⟩:=h3_ (show Ext w ((w.alloc (.cells (fA_ f) 127)).alloc (.cells (fA_ f) 127)) from X_) b0 r0;clear b0 r0;go_enter func84,ntmps84;go_upto_region 1 with fail
 obtain ⟨WA,h0⟩:=e_ ((w.alloc (.cells (fA_ f) 127)).alloc (.cells (fA_ f) 127))
 rw [h0] at B0 R0 X0 ⊢;clear h0;obtain ⟨c0,d0,c1,d1,c2,d2,c3,d3,c4,d4,c5,d5⟩:=m12_ (B0.cell 0 rfl) (R0.cell 0 rfl) (B0.cell 1 rfl) (R0.cell 1 rfl) (B0.cell 2 rfl) (R0.cell 2 rfl) (B0.cell 3 rfl) (R0.cell 3 rfl) (B0.cell 4 rfl) (R0.cell 4 rfl) (B0.cell 5 rfl) (R0.cell 5 rfl);obtain ⟨c6,d6,c7,d7,c8,d8,c9,d9,h1,q5,h2,q6⟩:=m12_ (B0.cell 6 rfl) (R0.cell 6 rfl) (B0.cell 7 rfl) (R0.cell 7 rfl) (B0.cell 8 rfl) (R0.cell 8 rfl) (B0.cell 9 rfl) (R0.cell 9 rfl) (B0.cell 10 rfl) (R0.cell 10 rfl) (B0.cell 11 rfl) (R0.cell 11 rfl);have cl:=B0.lt;have dl:=R0.lt;go_wp2_with fail;refine r_ (sU (f 0) (f 1) (f 2) (f 3) (f 4) (f 5) (f 6) (f 7) (f 8) (f 9) (f 10) (f 11) _) fun w1 x1=>?_;obtain ⟨B1,R1,X1⟩:=h3_ (B0.ext x1) (R0.ext x1) (X0.trans x1);clear B0 R0 X0 x1 cl dl c0 d0 c1 d1 c2 d2 c3 d3 c4 d4 c5 d5 c6 d6 c7 d7 c8 d8 c9 d9 h1 q5 h2 q6;obtain ⟨h3,q7,h4,q8,h5,q9,h6,x0,h7,x3,h8,x4⟩:=m12_ (B1.cell 12 rfl) (R1.cell 12 rfl) (B1.cell 13 rfl) (R1.cell 13 rfl) (B1.cell 14 rfl) (R1.cell 14 rfl) (B1.cell 15 rfl) (R1.cell 15 rfl) (B1.cell 16 rfl) (R1.cell 16 rfl) (B1.cell 17 rfl) (R1.cell 17 rfl);obtain ⟨h9,x5,q0,x6,q1,x7,q2,x8,q3,x9,q4,z0⟩:=m12_ (B1.cell 18 rfl) (R1.cell 18 rfl) (B1.cell 19 rfl) (R1.cell 19 rfl) (B1.cell 20 rfl) (R1.cell 20 rfl) (B1.cell 21 rfl) (R1.cell 21 rfl) (B1.cell 22 rfl) (R1.cell 22 rfl) (B1.cell 23 rfl) (R1.cell 23 rfl);have cl:=B1.lt;have dl:=R1.lt;go_wp2_with fail;refine r_ (sU (f 12) (f 13) (f 14) (f 15) (f 16) (f 17) (f 18) (f 19) (f 20) (f 21) (f 22) (f 23) _) fun w2 x2=>?_;obtain ⟨B2,R2,X2⟩:=h3_ (B1.ext x2) (R1.ext x2) (X1.trans x2);clear B1 R1 X1 x2 cl dl h3 q7 h4 q8 h5 q9 h6 x0 h7 x3 h8 x4 h9 x5 q0 x6 q1 x7 q2 x8 q3 x9 q4 z0;have z1:=B2.cell 24 rfl;obtain ⟨z2,z3,z4,cl,dl⟩:=m5_ (B2.cell 25 rfl) (R2.cell 24 rfl) (R2.cell 25 rfl) B2.lt R2.lt;go_wp2;go_ret;exact ⟨rfl,X2⟩
theorem aLz:(Tryz.prog.info? 127).map (fun i=>(i.zero,i.size,i.bytes))=some (some (.agg ()),26,208):=by kernel_rfl
theorem aL0:(Tryz.prog.info? 134).map (fun i=>i.size)=some 26:=by kernel_rfl
theorem aEl {o:Nat} {g:Nat->Int} (h:∀j,j<26->w.cell? ⟨b,o+j,none⟩=some (.int .i64 (g j))):w.rangeAt b o (fL_ g):=by
 intro q v hq;have hl:=(aTd.1 hq).1
 rcases aEk hl with e|e|e|e|e|e|e|e|e|e|e|e|e|e|e|e|e|e|e|e|e|e|e|e|e|e <;> subst e <;> exact (h _ (by decide)).trans hq
theorem aAu (lo hi:Nat) (u:Value) (n:Nat) (f:Nat->Int) (w:World) (hu:dL 26 lo hi w u n f) (hh:hi<=w.heap.size) (hsz:n<=1048576) :
  Calls aTg 39 #[u] w fun e w'=>e = .returned (.slice (some ⟨w.heap.size,0,none⟩) n n)/\bT w' w.heap.size 127 (n*26) f/\Ext w w':=by
 obtain ⟨i0,h5,h7,h8,h9⟩:=info_parts aLz;obtain ⟨a,cap,rfl,HU⟩:=hu.open;clear hu;have q4:=HU.cap;have q8:=HU.le;have q2:=hid HU;clear HU;go_enter func39,ntmps39;go_wp2_with (at_make;refine wpList_make_full _ rfl _ _ 38 rfl w.heap.size 127 i0 _ 26 underlying38 h5 h7 h8 _ _ _ _ n rfl rfl rfl rfl (by rw [h9];omega) (by unfold maxLen;omega) (aTc _) ?_);intro w1 h3 h1;have hx:Ext w w1:=(aTn w).grown h1 (fun k h=>by cases h);have h0:=hid (bT.zero (f:=f) (aC0 (aJ8 (k:=26) rfl (by decide) _) h3));clear h3 h1 h5 h7 h8 h9;go_wp2
 go_loopw [4] (fun i wr=>∃k:Nat,k<=n/\i = .int .i64 k/\Ext w wr/\bT wr w.heap.size 127 (n*26) (mJ f (k*26))) (fun i _=>n - (intOf i).toNat)
 case atStart=>exact ⟨0,by omega,rfl,hx,by simpa using h0.out⟩
 case round=>
  clear hx h0;obtain ⟨k,hk,rfl,hx,h0⟩:=hrel
  by_cases h6:k<n
  ·obtain ⟨b,q0,rfl,q6,q7,hc⟩:=q2.at h6 (by decide)
   have q5:=fE (k:=26) (j:=25) h6 (by decide)
   obtain ⟨g,hg⟩:∃g:Nat->Int,g=fun j=>f (k*26+j):=⟨_,rfl⟩
   have h4:wr.rangeAt b (q0+k*26) (fL_ g):=aEl fun j hj=>((hx.cells.1 b _ (by omega)).trans (hc j hj)).trans (by rw [hg]);obtain ⟨HG,HX,HR⟩:=h3_ hg hx h0
   have bl:b<wr.heap.size:=by have:=hx.size;omega
   clear hc hx h0 hg;go_wp2_with (show wpList _ _ _ [_,_,_,_] _ _;refine wpList_load_mid rfl _ _ rfl b (q0+k*26) rfl (fL_ g) _ h4 underlying134 rfl aL0 ?_);refine r_ (aBv g _) fun w2 h2=>?_;have hR:=HR.ext h2;have hX:=HX.trans h2;have ht:=hR.there (o:=k*26) (m:=26) (by omega);obtain ⟨q3,q1⟩:=h2_ (hX.setC (b:=w.heap.size) (aTc _) (fL_ g) (k*26)) (bT.stepN [g 0,g 1,g 2,g 3,g 4,g 5,g 6,g 7,g 8,g 9,g 10,g 11,g 12,g 13,g 14,g 15,g 16,g 17,g 18,g 19,g 20,g 21,g 22,g 23,g 24,g 25] (k*26) _ hR (fun j x h=>by have:=aQd g j x h;rw [this,HG]));clear HX HR h2 hX hR h4;go_wp2_with (show wpList _ _ _ [_] _ _;refine wpList_store_mid rfl _ _ _ rfl w.heap.size (k*26) (fA_ g) rfl rfl ht gE (by kernel_rfl) ?_);clear ht;go_roundw
   case rel=>
    refine ⟨k+1,by omega,by go_num,q3,?_⟩;rw [aVy,aVz];exact q1
   case measure=>simp [intOf];omega
  ·go_wp2
   go_ret
   obtain rfl:k=n:=by omega
   exact ⟨rfl,h0.full,hx⟩
theorem wM (lo hi lo' hi':Nat) (u v:Value) (n:Nat) (f:Nat->Int) (w:World) (hu:dL 26 lo hi w u n f) (hv:dL 26 lo' hi' w v n f) (hh:hi<=w.heap.size) (hh':hi'<=w.heap.size) :
  R_ 44 #[u,v] w (.bool true):=by
 obtain ⟨a,cap,rfl,HU⟩:=dL.open hu;obtain ⟨a',q0,rfl,HV⟩:=dL.open hv;clear hu hv;have h1:=HU.le;have h2:=HU.cap;have q3:=HV.le;have q4:=HV.cap;obtain ⟨h8,h9⟩:=h2_ HU HV;clear HU HV;go_enter func44,ntmps44;go_wp2
 go_loopw [5] (fun i wr=>∃k:Nat,k<=n/\i = .int .i64 k/\Ext w wr) (fun i _=>n - (intOf i).toNat)
 case atStart=>exact ⟨0,by omega,rfl,X_⟩
 case round=>
  obtain ⟨k,hk,rfl,hx⟩:=hrel
  by_cases h4:k<n
  ·obtain ⟨b,h5,rfl,q5,q6,hc⟩:=h8.at h4 (by decide)
   obtain ⟨b',h0,rfl,q1,q2,h3⟩:=h9.at h4 (by decide)
   obtain ⟨g,hg⟩:∃g:Nat->Int,g=fun j=>f (k*26+j):=⟨_,rfl⟩
   obtain ⟨h6,h7⟩:=h2_ (show wr.rangeAt b (h5+k*26) (fL_ g) from aEl fun j hj=>((hx.cells.1 b _ (by omega)).trans (hc j hj)).trans (by rw [hg])) (show wr.rangeAt b' (h0+k*26) (fL_ g) from aEl fun j hj=>((hx.cells.1 b' _ (by omega)).trans (h3 j hj)).trans (by rw [hg]))
   have s1:b<wr.heap.size:=by have:=hx.size;omega
   have s2:b'<wr.heap.size:=by have:=hx.size;omega
   have HX:=hid hx;clear hc h3 hx hg;go_wp2;refine aA [([0,1,2,3,4,5,6,7],8),([],9)] 99 wr.heap.size ?_;refine st_ (hq:=by intro R h;show wpQuiet _ _ _ _ [_,_,_,_,_,_,_,_] _;go_big_quiet_step (fail);go_big_quiet_step (fail);go_big_quiet_step (fail);refine fA rfl _ _ rfl b (h5+k*26) rfl (fL_ g) _ (by rintro _ ⟨d,rfl⟩ j v hj;rw [kF _ _ _ _ s1];exact h6 j v hj) underlying127 rfl jC ?_;simp only [Act.put,aTj,aTr,aTp];go_big_quiet_step (fail);go_big_quiet_step (fail);go_big_quiet_step (fail);refine fA rfl _ _ rfl b' (h0+k*26) rfl (fL_ g) _ (by rintro _ ⟨d,rfl⟩ j v hj;rw [kF _ _ _ _ s2];exact h7 j v hj) underlying127 rfl jC ?_;simp only [Act.put,aTj,aTr,aTp];exact wpQuiet_nil h) fun K hK=>?_;go_wp2_with fail;refine r_ (aAt g _) fun w1 h1=>?_;have y1:Ext wr w1:=aTi X_ h1;go_wp2;refine k_ hK (st_ fun K hK=>?_);go_wp2;refine k_ hK (aC ?_);clear hK K;have hX:=HX.trans y1;clear h1 y1 HX;go_wp2;go_roundw
   case rel=>exact ⟨k+1,by omega,by go_num,hX⟩
   case measure=>simp [intOf];omega
  ·go_wp2
   go_ret;exact ⟨rfl,hx⟩
theorem aAv (lo hi:Nat) (u:Value) (n:Nat) (f:Nat->Int) (left:Int) (w:World) (hu:dL 26 lo hi w u n f) (h1:0<=left) (h2:left<=1048576) :
  Z_ 34 #[u,left] w (.int .i64 (mI left n)):=by
 obtain ⟨a,cap,rfl,HU⟩:=hu.open;have h3:=HU.le;have h4:=HU.cap;unfold mI;go_enter func34,ntmps34;go_wp2
 all_goals go_ret
 all_goals exact ⟨rfl,rfl⟩
theorem aAw {left:Int} {r:Int} (h:mI left n=r) (lo hi:Nat) (u:Value) (f:Nat->Int) (w:World) (hu:dL 26 lo hi w u n f) (h1:0<=left) (h2:left<=1048576) :
  Z_ 34 #[u,left] w (.int .i64 r):=h▸aAv lo hi u n f left w hu h1 h2
theorem aEm (a b c d:Int) (e:Bool) (f g:Int) (w:World):Calls aTg 36 #[.agg #[a,b,c,d,.bool e,f,g]] w fun x w'=>x = .returned (.agg #[a,b,c,d,.bool e,f,g])/\Ext w w':=by
 go_enter func36,ntmps36;go_wp2;refine bodyPost_ret (v:=.agg #[a,b,c,d,.bool e,f,g]) (by simp [results,results36,go_sem]) rfl ⟨rfl,?_⟩;exact S_
theorem aBw (a b c d:Int) (e:Bool) (f g:Int) (w:World):Calls aTg 41 #[.agg #[a,b,c,d,.bool e,f,g],.agg #[a,b,c,d,.bool e,f,g]] w fun x w'=>x = .returned (.bool true)/\Ext w w':=by
 cases e
 all_goals
  go_enter func41,ntmps41;go_wp2;go_ret;exact ⟨rfl,S_⟩
structure Scn.Sm (s:Scn):Prop where
 small:s.small
 px:s.t.px.length<=1048576
 n:s.ps.length<=1048576
 m:s.m<=1048576
def Scn.bd (s:Scn):Prop:=∀p∈s.ps,p.bd
def Scn.O (s:Scn) (lo hi:Nat) (w:World) (v:Value):Prop:=
 ∃a1 c1 a2 c2 a3 c3,v = .agg #[s.c.w,s.c.h,s.c.zoom,s.c.near,.bool s.c.deep,s.c.lens,s.c.focus,s.t.log,.slice a1 s.t.px.length c1,.slice a2 s.ps.length c2,.slice a3 s.m c3,s.side]/\s.R lo hi w v/\lT lo hi w (.slice a1 s.t.px.length c1) s.t.px.length/\oI lo hi w (.slice a2 s.ps.length c2) s.ps.length/\tV lo hi w (.slice a3 s.m c3) s.m
theorem tV.same (h:tV lo hi w v n) (s:aN lo hi w w'):tV lo hi w' v n:=by
 obtain ⟨a,cap,h1,h2,h3,h4⟩:=h;exact ⟨a,cap,h1,h2,h3,fun i hi=>by obtain ⟨b,h0,e,k0,k1⟩:=h4 i hi;exact ⟨b,h0,e,k0.same s,k1.same s⟩⟩
theorem Scn.O.R {s:Scn} (h:s.O lo hi w v):s.R lo hi w v:=by
 obtain ⟨_,_,_,_,_,_,rfl,h,_⟩:=h;exact h
theorem Scn.O.form {s:Scn} (h:s.O lo hi w v):∃a1 c1 a2 c2 a3 c3,v = .agg #[s.c.w,s.c.h,s.c.zoom,s.c.near,.bool s.c.deep,s.c.lens,s.c.focus,s.t.log,.slice a1 s.t.px.length c1,.slice a2 s.ps.length c2,.slice a3 s.m c3,s.side]:=by
 obtain ⟨a1,c1,a2,c2,a3,c3,rfl,_⟩:=h;exact ⟨a1,c1,a2,c2,a3,c3,rfl⟩
theorem Scn.O.same {s:Scn} (h:s.O lo hi w v) (k:aN lo hi w w'):s.O lo hi w' v:=by
 obtain ⟨a1,c1,a2,c2,a3,c3,rfl,h1,h2,h3,h4⟩:=h;exact ⟨a1,c1,a2,c2,a3,c3,rfl,h1.same k,h2.same k,h3.same k,h4.same k⟩
theorem Scn.O.kp {s:Scn} (h:s.O lo hi w v) (k:Kp lo hi w w'):s.O lo hi w' v:=h.same k.same
theorem bT.srfsM (h:bT w b 127 (n*26) f) (hl:lo<=b) (hn:n<=1048576):tV lo w.heap.size w (.slice (some ⟨b,0,none⟩) n n) n:=
 ⟨_,n,rfl,aTc _,by omega,fun i hi=>by
  have h2:=fE (k:=26) (j:=25) hi (by decide)
  exact ⟨b,0,rfl,⟨hl,h.lt,⟨_,by rw [aUa];exact h.cell (by omega)⟩,by rw [aUa];exact h.frozen _⟩,⟨hl,h.lt,⟨_,by rw [aUa];exact h.cell (by omega)⟩,by rw [aUa];exact h.frozen _⟩⟩⟩
theorem aGw (lo hi:Nat) (v:Value) (s:Scn) (left:Int) (w:World) (hv:s.R lo hi w v) (hh:hi<=w.heap.size) (hb:s.bd) (h1:0<=left) (h2:left<=1048576) :
  Calls aTg 9 #[v,left] w fun e w'=>(∃r,e = .returned (.int .i64 r)/\(r = -1\/(0<=r/\r<=left/\s.Sm)))/\Ext w w':=by
 obtain ⟨a1,c1,a2,c2,a3,c3,rfl,-,h0,-,k1,k2,k3⟩:=hv.form;obtain ⟨HT,HP,HF,HB⟩:=h4_ (show ∀W:World,Ext w W->cZ lo hi W (.agg #[s.t.log,.slice a1 s.t.px.length c1]) s.t from fun W x=>⟨_,rfl,h0,(k1.shut).ext hh x⟩) (show hZ lo hi w (.slice a2 s.ps.length c2) s.ps by obtain ⟨tu,pu,su,e,_,_,_,_,h6,_⟩:=hv;simp only [Value.agg.injEq,Array.mk.injEq,List.cons.injEq,and_true,true_and] at e;obtain ⟨-,e2,-⟩:=e;rw [e2];exact h6) (show dL 26 lo hi w (.slice a3 s.m c3) s.m s.F from k3.shut) hb;have x0:Ext w (w.alloc (.cells (sA_ s a1 c1 a2 c2 a3 c3) 30)):=X_;obtain ⟨B0,X0⟩:=h2_ (aTm w 30 (sL_ s a1 c1 a2 c2 a3 c3)) x0;obtain ⟨q2,q4,q6,q3,q5⟩:=m5_ k1.cap k2.cap k3.cap k1.le k2.le;have q7:=k3.le;clear hv h0 k1 k2 k3 hb x0
 obtain ⟨r1,h3⟩:=e_ (mI left s.t.px.length)
 have h8:=hid h3
 have h5:r1 = -1\/(0<=r1/\r1<=left/\s.t.px.length<=1048576):=by unfold mI at h3;split at h3 <;> omega
 clear h3;go_enter func9,ntmps9;go_wp2_with fail;refine r_ (aA4 h8 lo hi _ _ (HT _ X0) (aTl hh X0.size) h1 h2) fun w1 x1=>?_;obtain ⟨B1,X1⟩:=h2_ (B0.ext x1) (X0.trans x1);clear B0 X0 x1
 rcases h5 with rfl|⟨g1,g2,g3⟩
 ·go_wp2
  go_ret;exact ⟨⟨_,rfl,.inl rfl⟩,X1⟩
 have n1 : ¬r1<0:=by omega
 have c9:=B1.cell 9 rfl;have cl:=B1.lt;go_wp2_with fail;refine (aAs lo hi _ s.ps r1 _ (HP.ext hh X1) (aTl hh X1.size) HB g1 (by omega)).mono ?_;rintro e w2 ⟨⟨r2,rfl,hr2⟩,x2⟩;obtain ⟨B2,X2⟩:=h2_ (B1.ext x2) (X1.trans x2);clear B1 X1 x2 c9 cl
 rcases hr2 with rfl|⟨g4,g5,g6,g7⟩
 ·go_wp2
  go_ret;exact ⟨⟨_,rfl,.inl rfl⟩,X2⟩
 have n2 : ¬r2<0:=by omega
 have q0:=hid (show s.small from fun p hp=>⟨HB p hp,g7 p hp⟩)
 obtain ⟨r3,h4⟩:=e_ (mI r2 s.m)
 have h9:=hid h4
 have h7:r3 = -1\/(0<=r3/\r3<=r2/\s.m<=1048576):=by unfold mI at h4;split at h4 <;> omega
 clear h4 g7;have q1:=B2.cell 10 rfl;have cl:=B2.lt;go_wp2_with fail;refine z_ (aAw h9 lo hi _ s.F _ (HF.ext hh X2) g4 (by omega)) ?_
 rcases h7 with rfl|⟨g8,g9,g10⟩
 ·go_wp2
  go_ret;exact ⟨⟨_,rfl,.inl rfl⟩,X2⟩
 have n3 : ¬r3<0:=by omega
 go_wp2;go_ret;exact ⟨⟨_,rfl,.inr ⟨g8,by omega,⟨q0,g3,g6,g10⟩⟩⟩,X2⟩
theorem lU (lo hi:Nat) (v:Value) (s:Scn) (w:World) (hv:s.R lo hi w v) (hh:hi<=w.heap.size) (hsz:s.Sm) :
  Calls aTg 11 #[v] w fun e w'=>∃v',e = .returned v'/\s.O w.heap.size w'.heap.size w' v'/\Ext w w':=by
 obtain ⟨a1,c1,a2,c2,a3,c3,rfl,y4,z4,q8,k1,k2,k3⟩:=hv.form;obtain ⟨HT,HP,HF,y6,y5,y7,y8⟩:=h7_ (show ∀W:World,Ext w W->cZ lo hi W (.agg #[s.t.log,.slice a1 s.t.px.length c1]) s.t from fun W x=>⟨_,rfl,z4,(k1.shut).ext hh x⟩) (show hZ lo hi w (.slice a2 s.ps.length c2) s.ps by obtain ⟨tu,pu,su,e,_,_,_,_,h6,_⟩:=hv;simp only [Value.agg.injEq,Array.mk.injEq,List.cons.injEq,and_true,true_and] at e;obtain ⟨-,e2,-⟩:=e;rw [e2];exact h6) (show dL 26 lo hi w (.slice a3 s.m c3) s.m s.F from k3.shut) (show ∀i,i<s.m*26->I64 (s.F i) from fun i hi=>(k3.cell i hi).1) y4 z4 q8;have z1:=hsz.px;have z2:=hsz.n;have z3:=hsz.m;have ZS:=hid (show ∀p∈s.ps,p.small from fun p hp=>(hsz.small p hp).2);have x0:Ext w (((w.alloc (.cells (sA_ s a1 c1 a2 c2 a3 c3) 30)).alloc (.cells ((),true) 40)).alloc (.cells ((),true) 40)):=X_;have b0:=(aTm w 30 (sL_ s a1 c1 a2 c2 a3 c3)).ext (show Ext (w.alloc (.cells (sA_ s a1 c1 a2 c2 a3 c3) 30)) (((w.alloc (.cells (sA_ s a1 c1 a2 c2 a3 c3) 30)).alloc (.cells ((),true) 40)).alloc (.cells ((),true) 40)) from X_);have r0:=(aTm (w.alloc (.cells (sA_ s a1 c1 a2 c2 a3 c3) 30)) 40 ((),true)).ext (show Ext ((w.alloc (.cells (sA_ s a1 c1 a2 c2 a3 c3) 30)).alloc (.cells ((),true) 40)) (((w.alloc (.cells (sA_ s a1 c1 a2 c2 a3 c3) 30)).alloc (.cells ((),true) 40)).alloc (.cells ((),true) 40)) from X_);have t0:=aTm ((w.alloc (.cells (sA_ s a1 c1 a2 c2 a3 c3) 30)).alloc (.cells ((),true) 40)) 40 ((),true);simp only [aTe] at r0 t0;obtain ⟨B0,R0,T0,X0⟩:=h4_ b0 r0 t0 x0;clear hv y4 z4 q8 k1 k2 k3 hsz b0 r0 t0 x0;go_enter func11,ntmps11;go_upto_region 2 with fail
 obtain ⟨WA,y3⟩:=e_ (((w.alloc (.cells (sA_ s a1 c1 a2 c2 a3 c3) 30)).alloc (.cells ((),true) 40)).alloc (.cells ((),true) 40))
 rw [y3] at B0 R0 T0 X0 ⊢;clear y3;obtain ⟨b0,b1,b2,b3,b4,b5,b6⟩:=B0.q7;have bl:=B0.lt;go_wp2_with fail;refine r_ (aEm _ _ _ _ _ _ _ _) fun w1 x1=>?_;clear bl b0 b1 b2 b3 b4 b5 b6;obtain ⟨B1,R1,T1,X1⟩:=h4_ (B0.ext x1) (R0.ext x1) (T0.ext x1) (X0.trans x1);clear B0 R0 T0 X0;clear x1;have i3:w.heap.size+1+1<w1.heap.size:=T1.lt;obtain ⟨d0,e0,d1,e1,d2,e2,d3,e3,d4,e4,d5,e5⟩:=m12_ (T1.cell 0 rfl) (T1.free 0) (T1.cell 1 rfl) (T1.free 1) (T1.cell 2 rfl) (T1.free 2) (T1.cell 3 rfl) (T1.free 3) (T1.cell 4 rfl) (T1.free 4) (T1.cell 5 rfl) (T1.free 5);have d6:=T1.cell 6 rfl;have e6:=T1.free 6;have dl:=T1.lt;obtain ⟨T2,B2,R2,X2⟩:=h4_ (((((((T1.set 0 (.int .i64 s.c.w)).set 1 (.int .i64 s.c.h)).set 2 (.int .i64 s.c.zoom)).set 3 (.int .i64 s.c.near)).set 4 (.bool s.c.deep)).set 5 (.int .i64 s.c.lens)).set 6 (.int .i64 s.c.focus)) (((((((B1.ot ⟨w.heap.size+1+1,0,none⟩ (.int .i64 s.c.w)).ot ⟨w.heap.size+1+1,1,none⟩ (.int .i64 s.c.h)).ot ⟨w.heap.size+1+1,2,none⟩ (.int .i64 s.c.zoom)).ot ⟨w.heap.size+1+1,3,none⟩ (.int .i64 s.c.near)).ot ⟨w.heap.size+1+1,4,none⟩ (.bool s.c.deep)).ot ⟨w.heap.size+1+1,5,none⟩ (.int .i64 s.c.lens)).ot ⟨w.heap.size+1+1,6,none⟩ (.int .i64 s.c.focus)) (((((((R1.ot ⟨w.heap.size+1+1,0,none⟩ (.int .i64 s.c.w)).ot ⟨w.heap.size+1+1,1,none⟩ (.int .i64 s.c.h)).ot ⟨w.heap.size+1+1,2,none⟩ (.int .i64 s.c.zoom)).ot ⟨w.heap.size+1+1,3,none⟩ (.int .i64 s.c.near)).ot ⟨w.heap.size+1+1,4,none⟩ (.bool s.c.deep)).ot ⟨w.heap.size+1+1,5,none⟩ (.int .i64 s.c.lens)).ot ⟨w.heap.size+1+1,6,none⟩ (.int .i64 s.c.focus)) (((((((X1.sc ⟨w.heap.size+1+1,0,none⟩ (.int .i64 s.c.w)).sc ⟨w.heap.size+1+1,1,none⟩ (.int .i64 s.c.h)).sc ⟨w.heap.size+1+1,2,none⟩ (.int .i64 s.c.zoom)).sc ⟨w.heap.size+1+1,3,none⟩ (.int .i64 s.c.near)).sc ⟨w.heap.size+1+1,4,none⟩ (.bool s.c.deep)).sc ⟨w.heap.size+1+1,5,none⟩ (.int .i64 s.c.lens)).sc ⟨w.heap.size+1+1,6,none⟩ (.int .i64 s.c.focus));simp only [aTr,aTp] at T2;go_upto_region 3 with fail
 obtain ⟨y0,x4⟩:=e_ (((((((w1.setCell ⟨w.heap.size+1+1,0,none⟩ s.c.w).setCell ⟨w.heap.size+1+1,1,none⟩ s.c.h).setCell ⟨w.heap.size+1+1,2,none⟩ s.c.zoom).setCell ⟨w.heap.size+1+1,3,none⟩ s.c.near).setCell ⟨w.heap.size+1+1,4,none⟩ (.bool s.c.deep)).setCell ⟨w.heap.size+1+1,5,none⟩ s.c.lens).setCell ⟨w.heap.size+1+1,6,none⟩ s.c.focus)
 have c7:y0.heap.size<=w1.heap.size/\w1.heap.size<=y0.heap.size:=by rw [<-x4];simp
 rw [x4] at B2 R2 T2 X2 ⊢;clear x4 B1 R1 T1 X1 dl d0 e0 d1 e1 d2 e2 d3 e3 d4 e4 d5 e5 d6 e6;have b7:=B2.cell 7 rfl;have b8:=B2.cell 8 rfl;have bl:=B2.lt;go_wp2_with fail;refine (aAz lo hi _ s.t _ (HT _ X2) (aTl hh X2.size) z1).mono ?_;rintro e w3 ⟨v3,rfl,⟨u3,rfl,_,hO⟩,x3⟩;obtain ⟨p1,q1,rfl,_⟩:=hO.form;have i4:=x3.size;clear bl b7 b8;obtain ⟨B3,R3,T3,X3⟩:=h4_ (B2.ext x3) (R2.ext x3) (T2.ext x3) (X2.trans x3);clear B2 R2 T2 X2;obtain ⟨HI,HM⟩:=h2_ hO.ints hO.intsM;clear x3 hO;have d7:=T3.cell 7 rfl;have e7:=T3.free 7;have d8:=T3.cell 8 rfl;have e8:=T3.free 8;have dl:=T3.lt;obtain ⟨T4,B4,R4,X4⟩:=h4_ ((T3.set 7 (.int .i64 s.t.log)).set 8 (.slice p1 s.t.px.length q1)) ((B3.ot ⟨w.heap.size+1+1,7,none⟩ (.int .i64 s.t.log)).ot ⟨w.heap.size+1+1,8,none⟩ (.slice p1 s.t.px.length q1)) ((R3.ot ⟨w.heap.size+1+1,7,none⟩ (.int .i64 s.t.log)).ot ⟨w.heap.size+1+1,8,none⟩ (.slice p1 s.t.px.length q1)) ((X3.sc ⟨w.heap.size+1+1,7,none⟩ (.int .i64 s.t.log)).sc ⟨w.heap.size+1+1,8,none⟩ (.slice p1 s.t.px.length q1));replace HI:=hid (HI.same ((aN.sl w3 ⟨w.heap.size+1+1,7,none⟩ (.int .i64 s.t.log)).trans (aN.sl _ ⟨w.heap.size+1+1,8,none⟩ (.slice p1 s.t.px.length q1))));replace HM:=hid (HM.same ((aN.sl w3 ⟨w.heap.size+1+1,7,none⟩ (.int .i64 s.t.log)).trans (aN.sl _ ⟨w.heap.size+1+1,8,none⟩ (.slice p1 s.t.px.length q1))));simp only [aTr,aTp] at T4;go_upto_region 4 with fail
 obtain ⟨q2,x6⟩:=e_ ((w3.setCell ⟨w.heap.size+1+1,7,none⟩ s.t.log).setCell ⟨w.heap.size+1+1,8,none⟩ (.slice p1 s.t.px.length q1))
 have c8:q2.heap.size<=w3.heap.size/\w3.heap.size<=q2.heap.size:=by rw [<-x6];simp
 rw [x6] at B4 R4 T4 X4 HI HM ⊢;clear x6 B3 R3 T3 X3 dl d7 e7 d8 e8;have b9:=B4.cell 9 rfl;have bl:=B4.lt;go_wp2_with fail;refine (aAr lo hi _ s.ps _ (HP.ext hh X4) (aTl hh X4.size) z2 ZS).mono ?_;rintro e w5 ⟨rfl,⟨hPR,hPM⟩,hlt5,x5⟩;have i5:=x5.size;clear bl b9;obtain ⟨B5,R5,T5,X5⟩:=h4_ (B4.ext x5) (R4.ext x5) (T4.ext x5) (X4.trans x5);replace HI:=hid (HI.same (x5.same (by first|exact aTc _|omega)));replace HM:=hid (HM.same (x5.same (by first|exact aTc _|omega)));clear B4 R4 T4 X4;obtain ⟨q4,q3⟩:=h2_ hPR hPM;clear x5 hPR hPM;have d9:=T5.cell 9 rfl;have e9:=T5.free 9;have dl:=T5.lt;obtain ⟨T6,B6,R6,X6⟩:=h4_ (T5.set 9 (.slice (some ⟨q2.heap.size,0,none⟩) s.ps.length s.ps.length)) (B5.ot ⟨w.heap.size+1+1,9,none⟩ (.slice (some ⟨q2.heap.size,0,none⟩) s.ps.length s.ps.length)) (R5.ot ⟨w.heap.size+1+1,9,none⟩ (.slice (some ⟨q2.heap.size,0,none⟩) s.ps.length s.ps.length)) (X5.sc ⟨w.heap.size+1+1,9,none⟩ (.slice (some ⟨q2.heap.size,0,none⟩) s.ps.length s.ps.length));replace HI:=hid (HI.same (aN.sl w5 ⟨w.heap.size+1+1,9,none⟩ (.slice (some ⟨q2.heap.size,0,none⟩) s.ps.length s.ps.length)));replace HM:=hid (HM.same (aN.sl w5 ⟨w.heap.size+1+1,9,none⟩ (.slice (some ⟨q2.heap.size,0,none⟩) s.ps.length s.ps.length)));replace q4:=hid (q4.same (aN.sl w5 ⟨w.heap.size+1+1,9,none⟩ (.slice (some ⟨q2.heap.size,0,none⟩) s.ps.length s.ps.length)));replace q3:=hid (q3.same (aN.sl w5 ⟨w.heap.size+1+1,9,none⟩ (.slice (some ⟨q2.heap.size,0,none⟩) s.ps.length s.ps.length)));simp only [aTr,aTp] at T6;go_upto_region 5 with fail
 obtain ⟨q0,x8⟩:=e_ (w5.setCell ⟨w.heap.size+1+1,9,none⟩ (.slice (some ⟨q2.heap.size,0,none⟩) s.ps.length s.ps.length))
 have c9:q0.heap.size<=w5.heap.size/\w5.heap.size<=q0.heap.size:=by rw [<-x8];simp
 rw [x8] at B6 R6 T6 X6 HI HM q4 q3 ⊢;clear x8 B5 R5 T5 X5 dl d9 e9;have y9:=B6.cell 10 rfl;have bl:=B6.lt;go_wp2_with fail;refine (aAu lo hi _ s.m s.F _ (HF.ext hh X6) (aTl hh X6.size) z3).mono ?_;rintro e w7 ⟨rfl,z5,x7⟩;have i6:=x7.size;clear bl y9;obtain ⟨B7,R7,T7,X7⟩:=h4_ (B6.ext x7) (R6.ext x7) (T6.ext x7) (X6.trans x7);replace HI:=hid (HI.same (x7.same (by first|exact aTc _|omega)));replace HM:=hid (HM.same (x7.same (by first|exact aTc _|omega)));replace q4:=hid (q4.same (x7.same (by first|exact aTc _|omega)));replace q3:=hid (q3.same (x7.same (by first|exact aTc _|omega)));clear B6 R6 T6 X6;have i2:=z5.lt;obtain ⟨q9,x2⟩:=h2_ (z5.flats (k:=26) (n:=s.m) (cap:=s.m) (aTc _) (by unfold maxLen;omega) (lo:=q0.heap.size) (aTc _) y6) (z5.srfsM (lo:=q0.heap.size) (aTc _) z3);clear x7 z5;have y1:=T7.cell 10 rfl;have a4:=T7.free 10;have dl:=T7.lt;obtain ⟨T8,B8,R8,X8⟩:=h4_ (T7.set 10 (.slice (some ⟨q0.heap.size,0,none⟩) s.m s.m)) (B7.ot ⟨w.heap.size+1+1,10,none⟩ (.slice (some ⟨q0.heap.size,0,none⟩) s.m s.m)) (R7.ot ⟨w.heap.size+1+1,10,none⟩ (.slice (some ⟨q0.heap.size,0,none⟩) s.m s.m)) (X7.sc ⟨w.heap.size+1+1,10,none⟩ (.slice (some ⟨q0.heap.size,0,none⟩) s.m s.m));replace HI:=hid (HI.same (aN.sl w7 ⟨w.heap.size+1+1,10,none⟩ (.slice (some ⟨q0.heap.size,0,none⟩) s.m s.m)));replace HM:=hid (HM.same (aN.sl w7 ⟨w.heap.size+1+1,10,none⟩ (.slice (some ⟨q0.heap.size,0,none⟩) s.m s.m)));replace q4:=hid (q4.same (aN.sl w7 ⟨w.heap.size+1+1,10,none⟩ (.slice (some ⟨q0.heap.size,0,none⟩) s.m s.m)));replace q3:=hid (q3.same (aN.sl w7 ⟨w.heap.size+1+1,10,none⟩ (.slice (some ⟨q0.heap.size,0,none⟩) s.m s.m)));replace q9:=hid (q9.same (aN.sl w7 ⟨w.heap.size+1+1,10,none⟩ (.slice (some ⟨q0.heap.size,0,none⟩) s.m s.m)));replace x2:=hid (x2.same (aN.sl w7 ⟨w.heap.size+1+1,10,none⟩ (.slice (some ⟨q0.heap.size,0,none⟩) s.m s.m)));simp only [aTr,aTp] at T8;go_upto_region 6 with fail
 obtain ⟨q5,x9⟩:=e_ (w7.setCell ⟨w.heap.size+1+1,10,none⟩ (.slice (some ⟨q0.heap.size,0,none⟩) s.m s.m))
 have i0:q5.heap.size<=w7.heap.size/\w7.heap.size<=q5.heap.size:=by rw [<-x9];simp
 rw [x9] at B8 R8 T8 X8 HI HM q4 q3 q9 x2 ⊢;clear x9 B7 R7 T7 X7 dl y1 a4;obtain ⟨a0,bl,y2,a5,dl⟩:=m5_ (B8.cell 11 rfl) B8.lt (T8.cell 11 rfl) (T8.free 11) T8.lt;obtain ⟨T9,B9,R9,X9⟩:=h4_ (T8.set 11 (.int .i64 s.side)) (B8.ot ⟨w.heap.size+1+1,11,none⟩ (.int .i64 s.side)) (R8.ot ⟨w.heap.size+1+1,11,none⟩ (.int .i64 s.side)) (X8.sc ⟨w.heap.size+1+1,11,none⟩ (.int .i64 s.side));replace HI:=hid (HI.same (aN.sl q5 ⟨w.heap.size+1+1,11,none⟩ (.int .i64 s.side)));replace HM:=hid (HM.same (aN.sl q5 ⟨w.heap.size+1+1,11,none⟩ (.int .i64 s.side)));replace q4:=hid (q4.same (aN.sl q5 ⟨w.heap.size+1+1,11,none⟩ (.int .i64 s.side)));replace q3:=hid (q3.same (aN.sl q5 ⟨w.heap.size+1+1,11,none⟩ (.int .i64 s.side)));replace q9:=hid (q9.same (aN.sl q5 ⟨w.heap.size+1+1,11,none⟩ (.int .i64 s.side)));replace x2:=hid (x2.same (aN.sl q5 ⟨w.heap.size+1+1,11,none⟩ (.int .i64 s.side)));simp only [aTr,aTp] at T9;go_upto_region 7 with fail
 obtain ⟨q6,z0⟩:=e_ (q5.setCell ⟨w.heap.size+1+1,11,none⟩ s.side)
 have i1:q6.heap.size<=q5.heap.size/\q5.heap.size<=q6.heap.size:=by rw [<-z0];simp
 rw [z0] at B9 R9 T9 X9 HI HM q4 q3 q9 x2 ⊢;clear z0 B8 R8 T8 X8 dl y2 a5;clear bl a0;obtain ⟨d0,g0,h0,d1,g1,h1,d2,g2,h2,d3,g3,h3⟩:=m12_ (T9.cell 0 rfl) (R9.cell 0 rfl) (R9.free 0) (T9.cell 1 rfl) (R9.cell 1 rfl) (R9.free 1) (T9.cell 2 rfl) (R9.cell 2 rfl) (R9.free 2) (T9.cell 3 rfl) (R9.cell 3 rfl) (R9.free 3);obtain ⟨d4,g4,h4,d5,g5,h5,d6,g6,h6,d7,g7,h7⟩:=m12_ (T9.cell 4 rfl) (R9.cell 4 rfl) (R9.free 4) (T9.cell 5 rfl) (R9.cell 5 rfl) (R9.free 5) (T9.cell 6 rfl) (R9.cell 6 rfl) (R9.free 6) (T9.cell 7 rfl) (R9.cell 7 rfl) (R9.free 7);obtain ⟨d8,g8,h8,d9,g9,h9,y1,a9,c4,y2,c0,c5⟩:=m12_ (T9.cell 8 rfl) (R9.cell 8 rfl) (R9.free 8) (T9.cell 9 rfl) (R9.cell 9 rfl) (R9.free 9) (T9.cell 10 rfl) (R9.cell 10 rfl) (R9.free 10) (T9.cell 11 rfl) (R9.cell 11 rfl) (R9.free 11);have dl:=T9.lt;have gl:=R9.lt;have zz:w.heap.size+1+1<q6.heap.size:=T9.lt
 have zc:w.heap.size+1+1<w1.heap.size/\w1.heap.size<=w3.heap.size/\w3.heap.size<=w5.heap.size/\w5.heap.size<=w7.heap.size/\q6.heap.size=w7.heap.size:=by omega
 obtain ⟨a6,a7,z8,z7,z6,z9⟩:=h6_ (HI.same ((((((((((((aN.sl q6 ⟨w.heap.size+1,0,none⟩ (.int .i64 s.c.w)).trans (aN.sl _ ⟨w.heap.size+1,1,none⟩ (.int .i64 s.c.h))).trans (aN.sl _ ⟨w.heap.size+1,2,none⟩ (.int .i64 s.c.zoom))).trans (aN.sl _ ⟨w.heap.size+1,3,none⟩ (.int .i64 s.c.near))).trans (aN.sl _ ⟨w.heap.size+1,4,none⟩ (.bool s.c.deep))).trans (aN.sl _ ⟨w.heap.size+1,5,none⟩ (.int .i64 s.c.lens))).trans (aN.sl _ ⟨w.heap.size+1,6,none⟩ (.int .i64 s.c.focus))).trans (aN.sl _ ⟨w.heap.size+1,7,none⟩ (.int .i64 s.t.log))).trans (aN.sl _ ⟨w.heap.size+1,8,none⟩ (.slice p1 s.t.px.length q1))).trans (aN.sl _ ⟨w.heap.size+1,9,none⟩ (.slice (some ⟨q2.heap.size,0,none⟩) s.ps.length s.ps.length))).trans (aN.sl _ ⟨w.heap.size+1,10,none⟩ (.slice (some ⟨q0.heap.size,0,none⟩) s.m s.m))).trans (aN.sl _ ⟨w.heap.size+1,11,none⟩ (.int .i64 s.side)))) (HM.same ((((((((((((aN.sl q6 ⟨w.heap.size+1,0,none⟩ (.int .i64 s.c.w)).trans (aN.sl _ ⟨w.heap.size+1,1,none⟩ (.int .i64 s.c.h))).trans (aN.sl _ ⟨w.heap.size+1,2,none⟩ (.int .i64 s.c.zoom))).trans (aN.sl _ ⟨w.heap.size+1,3,none⟩ (.int .i64 s.c.near))).trans (aN.sl _ ⟨w.heap.size+1,4,none⟩ (.bool s.c.deep))).trans (aN.sl _ ⟨w.heap.size+1,5,none⟩ (.int .i64 s.c.lens))).trans (aN.sl _ ⟨w.heap.size+1,6,none⟩ (.int .i64 s.c.focus))).trans (aN.sl _ ⟨w.heap.size+1,7,none⟩ (.int .i64 s.t.log))).trans (aN.sl _ ⟨w.heap.size+1,8,none⟩ (.slice p1 s.t.px.length q1))).trans (aN.sl _ ⟨w.heap.size+1,9,none⟩ (.slice (some ⟨q2.heap.size,0,none⟩) s.ps.length s.ps.length))).trans (aN.sl _ ⟨w.heap.size+1,10,none⟩ (.slice (some ⟨q0.heap.size,0,none⟩) s.m s.m))).trans (aN.sl _ ⟨w.heap.size+1,11,none⟩ (.int .i64 s.side)))) (q4.same ((((((((((((aN.sl q6 ⟨w.heap.size+1,0,none⟩ (.int .i64 s.c.w)).trans (aN.sl _ ⟨w.heap.size+1,1,none⟩ (.int .i64 s.c.h))).trans (aN.sl _ ⟨w.heap.size+1,2,none⟩ (.int .i64 s.c.zoom))).trans (aN.sl _ ⟨w.heap.size+1,3,none⟩ (.int .i64 s.c.near))).trans (aN.sl _ ⟨w.heap.size+1,4,none⟩ (.bool s.c.deep))).trans (aN.sl _ ⟨w.heap.size+1,5,none⟩ (.int .i64 s.c.lens))).trans (aN.sl _ ⟨w.heap.size+1,6,none⟩ (.int .i64 s.c.focus))).trans (aN.sl _ ⟨w.heap.size+1,7,none⟩ (.int .i64 s.t.log))).trans (aN.sl _ ⟨w.heap.size+1,8,none⟩ (.slice p1 s.t.px.length q1))).trans (aN.sl _ ⟨w.heap.size+1,9,none⟩ (.slice (some ⟨q2.heap.size,0,none⟩) s.ps.length s.ps.length))).trans (aN.sl _ ⟨w.heap.size+1,10,none⟩ (.slice (some ⟨q0.heap.size,0,none⟩) s.m s.m))).trans (aN.sl _ ⟨w.heap.size+1,11,none⟩ (.int .i64 s.side)))) (q3.same ((((((((((((aN.sl q6 ⟨w.heap.size+1,0,none⟩ (.int .i64 s.c.w)).trans (aN.sl _ ⟨w.heap.size+1,1,none⟩ (.int .i64 s.c.h))).trans (aN.sl _ ⟨w.heap.size+1,2,none⟩ (.int .i64 s.c.zoom))).trans (aN.sl _ ⟨w.heap.size+1,3,none⟩ (.int .i64 s.c.near))).trans (aN.sl _ ⟨w.heap.size+1,4,none⟩ (.bool s.c.deep))).trans (aN.sl _ ⟨w.heap.size+1,5,none⟩ (.int .i64 s.c.lens))).trans (aN.sl _ ⟨w.heap.size+1,6,none⟩ (.int .i64 s.c.focus))).trans (aN.sl _ ⟨w.heap.size+1,7,none⟩ (.int .i64 s.t.log))).trans (aN.sl _ ⟨w.heap.size+1,8,none⟩ (.slice p1 s.t.px.length q1))).trans (aN.sl _ ⟨w.heap.size+1,9,none⟩ (.slice (some ⟨q2.heap.size,0,none⟩) s.ps.length s.ps.length))).trans (aN.sl _ ⟨w.heap.size+1,10,none⟩ (.slice (some ⟨q0.heap.size,0,none⟩) s.m s.m))).trans (aN.sl _ ⟨w.heap.size+1,11,none⟩ (.int .i64 s.side)))) (q9.same ((((((((((((aN.sl q6 ⟨w.heap.size+1,0,none⟩ (.int .i64 s.c.w)).trans (aN.sl _ ⟨w.heap.size+1,1,none⟩ (.int .i64 s.c.h))).trans (aN.sl _ ⟨w.heap.size+1,2,none⟩ (.int .i64 s.c.zoom))).trans (aN.sl _ ⟨w.heap.size+1,3,none⟩ (.int .i64 s.c.near))).trans (aN.sl _ ⟨w.heap.size+1,4,none⟩ (.bool s.c.deep))).trans (aN.sl _ ⟨w.heap.size+1,5,none⟩ (.int .i64 s.c.lens))).trans (aN.sl _ ⟨w.heap.size+1,6,none⟩ (.int .i64 s.c.focus))).trans (aN.sl _ ⟨w.heap.size+1,7,none⟩ (.int .i64 s.t.log))).trans (aN.sl _ ⟨w.heap.size+1,8,none⟩ (.slice p1 s.t.px.length q1))).trans (aN.sl _ ⟨w.heap.size+1,9,none⟩ (.slice (some ⟨q2.heap.size,0,none⟩) s.ps.length s.ps.length))).trans (aN.sl _ ⟨w.heap.size+1,10,none⟩ (.slice (some ⟨q0.heap.size,0,none⟩) s.m s.m))).trans (aN.sl _ ⟨w.heap.size+1,11,none⟩ (.int .i64 s.side)))) (x2.same ((((((((((((aN.sl q6 ⟨w.heap.size+1,0,none⟩ (.int .i64 s.c.w)).trans (aN.sl _ ⟨w.heap.size+1,1,none⟩ (.int .i64 s.c.h))).trans (aN.sl _ ⟨w.heap.size+1,2,none⟩ (.int .i64 s.c.zoom))).trans (aN.sl _ ⟨w.heap.size+1,3,none⟩ (.int .i64 s.c.near))).trans (aN.sl _ ⟨w.heap.size+1,4,none⟩ (.bool s.c.deep))).trans (aN.sl _ ⟨w.heap.size+1,5,none⟩ (.int .i64 s.c.lens))).trans (aN.sl _ ⟨w.heap.size+1,6,none⟩ (.int .i64 s.c.focus))).trans (aN.sl _ ⟨w.heap.size+1,7,none⟩ (.int .i64 s.t.log))).trans (aN.sl _ ⟨w.heap.size+1,8,none⟩ (.slice p1 s.t.px.length q1))).trans (aN.sl _ ⟨w.heap.size+1,9,none⟩ (.slice (some ⟨q2.heap.size,0,none⟩) s.ps.length s.ps.length))).trans (aN.sl _ ⟨w.heap.size+1,10,none⟩ (.slice (some ⟨q0.heap.size,0,none⟩) s.m s.m))).trans (aN.sl _ ⟨w.heap.size+1,11,none⟩ (.int .i64 s.side))));have c6:=X9.out;clear B9 HT HP HF;go_wp2;refine bodyPost_ret (v:=.agg #[s.c.w,s.c.h,s.c.zoom,s.c.near,.bool s.c.deep,s.c.lens,s.c.focus,s.t.log,.slice p1 s.t.px.length q1,.slice (some ⟨q2.heap.size,0,none⟩) s.ps.length s.ps.length,.slice (some ⟨q0.heap.size,0,none⟩) s.m s.m,s.side]) (by simp [results,results11,go_sem, *]) rfl ?_;refine ⟨_,rfl,⟨p1,q1,_,_,_,_,rfl,⟨_,_,_,rfl,y5,y7,y8,a6.out.wide (by omega) (by simp;omega),z8.out.wide (by omega) (by simp;omega),z6.out.wide (by omega) (by simp;omega)⟩,a7.out.wide (by omega) (by simp;omega),z7.out.wide (by omega) (by simp;omega),?_⟩,S_⟩;obtain ⟨a,cap,e1,e2,e3,e4⟩:=z9.out;exact ⟨a,cap,e1,e2,e3,fun i hi=>by obtain ⟨b,a8,e,h1,h2⟩:=e4 i hi;exact ⟨b,a8,e,h1.wide (by omega) (by simp;omega),h2.wide (by omega) (by simp;omega)⟩⟩
theorem aEn (lo hi lo' hi':Nat) (v v':Value) (s:Scn) (w:World) (hv:s.R lo hi w v) (hh:hi<=w.heap.size) (hv':s.R lo' hi' w v') (hh':hi'<=w.heap.size) :
  R_ 14 #[v,v'] w (.bool true):=by
 obtain ⟨tu,pu,su,rfl,-,h0,-,k1,k2,k3⟩:=hv;obtain ⟨h2,h3,h4,rfl,-,h1,-,h6,h7,h8⟩:=hv';obtain ⟨HT,q1,HP,q0,HF,h9⟩:=h6_ (show cZ lo hi w (.agg #[s.t.log,tu]) s.t from ⟨_,rfl,h0,k1⟩) (show cZ lo' hi' w (.agg #[s.t.log,h2]) s.t from ⟨_,rfl,h0,h6⟩) k2 h7 k3 h8;have x0:Ext w ((w.alloc (.cells #[s.c.w,s.c.h,s.c.zoom,s.c.near,.bool s.c.deep,s.c.lens,s.c.focus,s.t.log,tu,pu,su,s.side] 40)).alloc (.cells #[s.c.w,s.c.h,s.c.zoom,s.c.near,.bool s.c.deep,s.c.lens,s.c.focus,s.t.log,h2,h3,h4,s.side] 40)):=X_;have b0:=(aTm w 40 [s.c.w,s.c.h,s.c.zoom,s.c.near,.bool s.c.deep,s.c.lens,s.c.focus,s.t.log,tu,pu,su,s.side]).ext (show Ext (w.alloc (.cells #[s.c.w,s.c.h,s.c.zoom,s.c.near,.bool s.c.deep,s.c.lens,s.c.focus,s.t.log,tu,pu,su,s.side] 40)) ((w.alloc (.cells #[s.c.w,s.c.h,s.c.zoom,s.c.near,.bool s.c.deep,s.c.lens,s.c.focus,s.t.log,tu,pu,su,s.side] 40)).alloc (.cells #[s.c.w,s.c.h,s.c.zoom,s.c.near,.bool s.c.deep,s.c.lens,s.c.focus,s.t.log,h2,h3,h4,s.side] 40)) from X_);have r0:=aTm (w.alloc (.cells #[s.c.w,s.c.h,s.c.zoom,s.c.near,.bool s.c.deep,s.c.lens,s.c.focus,s.t.log,tu,pu,su,s.side] 40)) 40 [s.c.w,s.c.h,s.c.zoom,s.c.near,.bool s.c.deep,s.c.lens,s.c.focus,s.t.log,h2,h3,h4,s.side];rw [aTe] at r0;obtain ⟨B0,R0,X0⟩:=h3_ b0 r0 x0;clear h0 h1 k1 k2 k3 h6 h7 h8 b0 r0 x0;go_enter func14,ntmps14;go_upto_region 1 with fail
 obtain ⟨WA,h5⟩:=e_ ((w.alloc (.cells #[s.c.w,s.c.h,s.c.zoom,s.c.near,.bool s.c.deep,s.c.lens,s.c.focus,s.t.log,tu,pu,su,s.side] 40)).alloc (.cells #[s.c.w,s.c.h,s.c.zoom,s.c.near,.bool s.c.deep,s.c.lens,s.c.focus,s.t.log,h2,h3,h4,s.side] 40))
 rw [h5] at B0 R0 X0 ⊢;clear h5;obtain ⟨b0,r0,b1,r1,b2,r2,b3,r3,b4,r4,b5,r5⟩:=m12_ (B0.cell 0 rfl) (R0.cell 0 rfl) (B0.cell 1 rfl) (R0.cell 1 rfl) (B0.cell 2 rfl) (R0.cell 2 rfl) (B0.cell 3 rfl) (R0.cell 3 rfl) (B0.cell 4 rfl) (R0.cell 4 rfl) (B0.cell 5 rfl) (R0.cell 5 rfl);have b6:=B0.cell 6 rfl;have r6:=R0.cell 6 rfl;have bl:=B0.lt;have rl:=R0.lt;go_wp2_with fail;refine r_ (aBw _ _ _ _ _ _ _ _) fun w1 x1=>?_;obtain ⟨B1,R1,X1⟩:=h3_ (B0.ext x1) (R0.ext x1) (X0.trans x1);clear B0 R0 X0 x1 bl rl b0 r0 b1 r1 b2 r2 b3 r3 b4 r4 b5 r5 b6 r6;have b7:=B1.cell 7 rfl;obtain ⟨r7,b8,r8,bl,rl⟩:=m5_ (R1.cell 7 rfl) (B1.cell 8 rfl) (R1.cell 8 rfl) B1.lt R1.lt;go_wp2_with fail;refine r_ (xL lo hi lo' hi' _ _ s.t _ (HT.ext hh X1) (aTl hh X1.size) (q1.ext hh' X1) (aTl hh' X1.size)) fun w2 x2=>?_;obtain ⟨B2,R2,X2⟩:=h3_ (B1.ext x2) (R1.ext x2) (X1.trans x2);clear B1 R1 X1 x2 bl rl b7 r7 b8 r8;have b9:=B2.cell 9 rfl;have r9:=R2.cell 9 rfl;have bl:=B2.lt;have rl:=R2.lt;go_wp2_with fail;refine r_ (wL lo hi lo' hi' _ _ s.ps _ (HP.ext hh X2) (q0.ext hh' X2) (aTl hh X2.size) (aTl hh' X2.size)) fun w3 x3=>?_;obtain ⟨B3,R3,X3⟩:=h3_ (B2.ext x3) (R2.ext x3) (X2.trans x3);clear B2 R2 X2 x3 bl rl b9 r9;have q2:=B3.cell 10 rfl;have q3:=R3.cell 10 rfl;have bl:=B3.lt;have rl:=R3.lt;go_wp2_with fail;refine r_ (wM lo hi lo' hi' _ _ s.m s.F _ (HF.ext hh X3) (h9.ext hh' X3) (aTl hh X3.size) (aTl hh' X3.size)) fun w4 x4=>?_;obtain ⟨B4,R4,X4⟩:=h3_ (B3.ext x4) (R3.ext x4) (X3.trans x4);clear B3 R3 X3 x4 bl rl q2 q3;have q4:=B4.cell 11 rfl;have q5:=R4.cell 11 rfl;have bl:=B4.lt;have rl:=R4.lt;go_wp2;go_ret;exact ⟨rfl,X4⟩
theorem aBx (lo hi:Nat) (v:Value) (s:Scn) (k0:Int) (w:World) (hv:s.O lo hi w v) (hh:hi<=w.heap.size) (hl:lo<=hi) (hs:s.Sm) (h0:0<=k0) (h1:k0<=1000000000) :
  Calls aTg 20 #[v,k0] w fun e w'=>(∃r,e = .returned (.int .i64 r)/\0<=r)/\jT lo hi w w':=by
 obtain ⟨a1,c1,a2,c2,a3,c3,rfl,-,hI,hP,hS⟩:=hv;obtain ⟨HI,HP,h4⟩:=h3_ hI hP hS;have z1:=hs.px;have z2:=hs.n;have z3:=hs.m;have x0:Ext w (w.alloc (.cells (sA_ s a1 c1 a2 c2 a3 c3) 40)):=X_;obtain ⟨B0,S0⟩:=h2_ (aTm w 40 (sL_ s a1 c1 a2 c2 a3 c3)) (Shp.of x0 hh hl);have zx:=x0.size;clear hI hP hS hs x0;go_enter func20,ntmps20;go_wp2_with fail;refine r_ (aGs lo hi _ _ s.t.px.length k0 _ (HI.shp S0) (by simp;omega) hl h0 (by omega)) fun w1 S1=>?_;obtain ⟨B1,h2⟩:=h2_ (B0.of (S1.part.block B0.lt (.inr (by omega)))) (S0.trans S1);have y1:=h2.size;have c9:=B1.cell 9 rfl;have cl:=B1.lt;clear B0 S0 S1;go_wp2_with fail;refine (vD lo hi _ s.ps.length _ _ (HP.shp h2) z2 (by omega) hl (by omega) (by omega)).mono ?_;rintro e w2 ⟨⟨r2,rfl,g1,g2⟩,S2⟩;obtain ⟨B2,h3⟩:=h2_ (B1.of (S2.part.block B1.lt (.inr (by omega)))) (h2.trans S2);have y2:=h3.size;clear B1 h2 S2 c9 cl;have h5:=B2.cell 10 rfl;have cl:=B2.lt;go_wp2_with fail;refine (vE lo hi _ s.m _ _ (h4.shp h3) z3 (by omega) hl (by omega) (by omega)).mono ?_;rintro e w3 ⟨⟨r3,rfl,g3⟩,S3⟩;go_wp2;go_ret;exact ⟨⟨_,rfl,by omega⟩,(h3.trans S3).part⟩
theorem aPt {ls:List (List Stp)} (h:∀l∈ls,tK l):fP (ls.map stV)<=ls.length*128:=by
 induction ls with
 | nil=>simp [fP]
 | cons x r ih=>
  have h1:=(h x (by simp)).len;have h2:=ih fun l hl=>h l (by simp [hl]);simp only [aVn,fP,aAp,aUs];omega
theorem Scn.dps_tot {s:Scn} {j:Int} {L:List (List Stp)} (h:s.dps i j=L):fP (L.map stV)<=2048:=by
 have h1:=Scn.dps_ok h;have h2:=aPt h1.1;omega
theorem aEo (lo hi:Nat) (v:Value) (s:Scn) (i j:Int) (w:World) {L:List (List Stp)} (hL:s.dps i j=L) (hv:s.R lo hi w v) (hh:hi<=w.heap.size) (hsm:s.small) :
  Calls aTg 27 #[v,i,j] w fun e w'=>∃r,e = .returned r/\DsO w.heap.size w'.heap.size w' r (L.map stV)/\Ext w w':=by
 refine (aAo lo hi v s i j w hL hv hh hsm).mono ?_;rintro e w' ⟨r,rfl,h,x⟩;exact ⟨r,rfl,h.o,x⟩
theorem tX (lo hi:Nat) (v:Value) (s:Scn) (i j:Int) (w:World) {L:List (List Stp)} (hL:s.dps i j=L) (hv:s.R lo hi w v) (hh:hi<=w.heap.size) (hsm:s.small) :
  Calls aTg 28 #[v,i,j] w fun e w'=>∃r,e = .returned r/\DsO w.heap.size w'.heap.size w' r (L.map stV)/\Ext w w':=by
 refine (aAn lo hi v s i j w hL hv hh hsm).mono ?_;rintro e w' ⟨r,rfl,h,x⟩;exact ⟨r,rfl,h.o,x⟩
theorem aR3 (vs:Value) (s:Scn) (a:Int) (b:Int) (W:World) (hs:s.R 0 W.heap.size W vs) (hbs:s.bd) (ha:I64 a) (hb:I64 b) :
  R_ 8 #[vs,a,b] W (.bool true):=by
 obtain ⟨X,hq⟩:=e_ (s.dps a b)
 obtain ⟨HQ,Hs,b1⟩:=h3_ hq hs hbs;obtain ⟨st,sp,sf,rfl,_⟩:=hs;clear hbs hq;go_enter func8,ntmps8;go_wp2_with fail;refine (aGw 0 W.heap.size _ s 1048576 _ (Hs.ext (aTc _) X_) (by simp <;> omega) b1 (by decide) (by decide)).mono ?_;rintro e w1 ⟨⟨rs,rfl,hrs⟩,x1⟩;have h0:=hid ((Bx.made W #[s.c.w,s.c.h,s.c.zoom,s.c.near,.bool s.c.deep,s.c.lens,s.c.focus,s.t.log,st,sp,sf,s.side] _).ext x1);have E:Ext W w1:=aTi X_ x1;clear x1;have ps:=h0.lt;obtain ⟨h6,h7,h8,h9,q0,q1,q2,q3,q4,q5,h1,h2⟩:=h0.q12
 rcases hrs with rfl|⟨ras,rbs,hss⟩
 ·go_wp2
  go_ret;exact ⟨rfl,E⟩
 have a1:=hid hss;clear hss;have pW:=h0.lt;have hX:=Scn.dps_tot HQ;have zE:=E.size;go_wp2_with fail;refine (lU 0 W.heap.size _ s _ (Hs.ext (aTc _) E) zE a1).mono ?_;rintro e w2 ⟨v2,rfl,O2,x2⟩;have y2:Ext w1 w2:=x2;have z2:=y2.size;go_wp2_with fail;refine (aEo _ _ _ s a b _ HQ O2.R (aTc _) a1.small).mono ?_;rintro e w3 ⟨s3,rfl,S3,x3⟩;have y3:Ext w1 w3:=y2.trans x3;have z3:=x3.size;replace h0:=hid (h0.kp (y3.kp h0.lt));replace E:=E.trans y3;have h3:=hid S3;clear x2 y2 x3 y3 O2 S3;clear ps h6 h7 h8 h9 q0 q1 q2 q3 q4 q5 h1 h2;have ps:=h0.lt;obtain ⟨h6,h7,h8,h9,q0,q1,q2,q3,q4,q5,h1,h2⟩:=h0.q12;go_wp2_with fail;have zE:=E.size;refine (lU 0 W.heap.size _ s _ (Hs.ext (aTc _) E) zE a1).mono ?_;rintro e w4 ⟨v4,rfl,O4,x4⟩;have z4:=x4.size;replace h0:=hid (h0.kp (x4.kp h0.lt));replace h3:=hid (h3.kp (x4.kp (by first|omega|(simp;omega))));replace E:=E.trans x4;have q8:=hid O4;obtain ⟨b2,b3,b4,b5,b6,b7,rfl⟩:=O4.form;clear x4 O4 ps h6 h7 h8 h9 q0 q1 q2 q3 q4 q5 h1 h2;have ps:=h0.lt;obtain ⟨h6,h7,h8,h9,q0,q1,q2,q3,q4,q5,h1,h2⟩:=h0.q12;go_wp2_with fail;refine (tX _ _ _ s a b _ HQ (q8.kp (Ext.kp X_ (by omega))).R (by simp <;> omega) a1.small).mono ?_;rintro e w5 ⟨r5,rfl,O5,x5⟩;have h4:=hid ((Bx.made w4 #[s.c.w,s.c.h,s.c.zoom,s.c.near,.bool s.c.deep,s.c.lens,s.c.focus,s.t.log,.slice b2 s.t.px.length b3,.slice b4 s.ps.length b5,.slice b6 s.m b7,s.side] _).ext x5);have y5:Ext w4 w5:=aTi X_ x5;have z5:=x5.size;simp only [aTe] at z5 O5;replace h0:=hid (h0.kp (y5.kp h0.lt));replace h3:=hid (h3.kp (y5.kp (by first|omega|(simp;omega))));replace q8:=hid (q8.kp (y5.kp (by first|omega|(simp;omega))));replace E:=E.trans y5;have h5:=hid O5;clear x5 y5 O5 ps h6 h7 h8 h9 q0 q1 q2 q3 q4 q5 h1 h2;have ps:=h0.lt;obtain ⟨h6,h7,h8,h9,q0,q1,q2,q3,q4,q5,h1,h2⟩:=h0.q12;have xs:=h4.lt;obtain ⟨q9,x0,z0,z1,y0,y1,y4,y6,y9,a0,q6,q7⟩:=h4.q12;go_wp2_with fail;refine r_ (vB _ _ _ _ _ _ X _ h5 h3) fun w6 x6=>?_;have z6:=x6.size;replace h0:=hid (h0.kp (x6.kp h0.lt));replace h4:=hid (h4.kp (x6.kp h4.lt));replace h3:=hid (h3.kp (x6.kp (by first|omega|(simp;omega))));replace q8:=hid (q8.kp (x6.kp (by first|omega|(simp;omega))));replace h5:=hid (h5.kp (x6.kp (by first|omega|(simp;omega))));replace E:=E.trans x6;clear x6 ps h6 h7 h8 h9 q0 q1 q2 q3 q4 q5 h1 h2 xs q9 x0 z0 z1 y0 y1 y4 y6 y9 a0 q6 q7;have ps:=h0.lt;obtain ⟨h6,h7,h8,h9,q0,q1,q2,q3,q4,q5,h1,h2⟩:=h0.q12;have xs:=h4.lt;obtain ⟨q9,x0,z0,z1,y0,y1,y4,y6,y9,a0,q6,q7⟩:=h4.q12;go_wp2_with fail;have zE:=E.size;refine aA [([0,1],2),([],3),([],4)] 99 w6.heap.size ?_;refine st_ fun K hK=>?_;go_wp2_with fail;refine (lU 0 W.heap.size _ s w6.drew (Hs.ext (aTc _) E.drew) zE a1).mono ?_;rintro e w7 ⟨v7,rfl,O7,x7⟩;have y7:Ext w6 w7:=aTi X_ x7;have z7:=y7.size;go_wp2;refine k_ hK (st_ fun K hK=>?_);go_wp2_with fail;refine r_ (aEn _ _ _ _ _ _ s _ (q8.kp (y7.kp (by omega))).R (by omega) O7.R (aTc _)) fun w8 x8=>?_;have y8:Ext w6 w8:=y7.trans x8;have z8:=x8.size;go_wp2;refine k_ hK (st_ fun K hK=>?_);go_wp2;refine k_ hK (aC ?_);clear hK K;replace h0:=hid (h0.kp (y8.kp h0.lt));replace h4:=hid (h4.kp (y8.kp h4.lt));replace h3:=hid (h3.kp (y8.kp (by first|omega|(simp;omega))));replace q8:=hid (q8.kp (y8.kp (by first|omega|(simp;omega))));replace h5:=hid (h5.kp (y8.kp (by first|omega|(simp;omega))));replace E:=E.trans y8;clear x7 y7 x8 y8 O7 ps h6 h7 h8 h9 q0 q1 q2 q3 q4 q5 h1 h2 xs q9 x0 z0 z1 y0 y1 y4 y6 y9 a0 q6 q7;have ps:=h0.lt;obtain ⟨h6,h7,h8,h9,q0,q1,q2,q3,q4,q5,h1,h2⟩:=h0.q12;have xs:=h4.lt;obtain ⟨q9,x0,z0,z1,y0,y1,y4,y6,y9,a0,q6,q7⟩:=h4.q12;go_wp2_with fail;refine (aBx _ _ _ s 1 _ q8 (by omega) (by omega) a1 (by omega) (by first|decide|omega)).mono ?_;rintro e w9 ⟨⟨k9,rfl,hk9⟩,x9⟩;have z9:=x9.size;have zE:=E.size;replace h0:=hid (h0.kp (x9.kp h0.lt (by first|omega|(simp;omega))));replace h4:=hid (h4.kp (x9.kp h4.lt (by first|omega|(simp;omega))));replace h3:=hid (h3.kp (x9.kp (by first|omega|(simp;omega)) (by first|omega|(simp;omega))));replace h5:=hid (h5.kp (x9.kp (by first|omega|(simp;omega)) (by first|omega|(simp;omega))));replace E:=x9.ext E (by omega);clear x9 ps h6 h7 h8 h9 q0 q1 q2 q3 q4 q5 h1 h2 xs q9 x0 z0 z1 y0 y1 y4 y6 y9 a0 q6 q7;have ps:=h0.lt;obtain ⟨h6,h7,h8,h9,q0,q1,q2,q3,q4,q5,h1,h2⟩:=h0.q12;have xs:=h4.lt;obtain ⟨q9,x0,z0,z1,y0,y1,y4,y6,y9,a0,q6,q7⟩:=h4.q12;go_wp2_with fail;refine r_ (vB _ _ _ _ _ _ X _ h5 h3) fun w10 x10=>?_;have c0:=x10.size;replace h0:=hid (h0.kp (x10.kp h0.lt));replace h4:=hid (h4.kp (x10.kp h4.lt));replace h3:=hid (h3.kp (x10.kp (by first|omega|(simp;omega))));replace h5:=hid (h5.kp (x10.kp (by first|omega|(simp;omega))));replace E:=E.trans x10;clear x10 ps h6 h7 h8 h9 q0 q1 q2 q3 q4 q5 h1 h2 xs q9 x0 z0 z1 y0 y1 y4 y6 y9 a0 q6 q7;have ps:=h0.lt;obtain ⟨h6,h7,h8,h9,q0,q1,q2,q3,q4,q5,h1,h2⟩:=h0.q12;have xs:=h4.lt;obtain ⟨q9,x0,z0,z1,y0,y1,y4,y6,y9,a0,q6,q7⟩:=h4.q12;clear h4 xs q9 x0 z0 z1 y0 y1 y4 y6 y9 a0 q6 q7;go_wp2_with fail;refine (aI2 _ _ _ (X.map stV) 1 _ h5 (by omega) (by omega) (by omega)).mono ?_;rintro e w11 ⟨rfl,a7,a2⟩;have c1:=a2.size;have zE:=E.size;replace h0:=hid (h0.kp (a2.kp h0.lt (by first|omega|(simp;omega))));replace h3:=hid (h3.kp (a2.kp (by first|omega|(simp;omega)) (by first|omega|(simp;omega))));replace E:=a2.ext E (by omega);replace h5:=hid a7;clear a2 a7 ps h6 h7 h8 h9 q0 q1 q2 q3 q4 q5 h1 h2;have ps:=h0.lt;obtain ⟨h6,h7,h8,h9,q0,q1,q2,q3,q4,q5,h1,h2⟩:=h0.q12;go_wp2_with fail;refine r_ (aCu _ _ _ (X.map stV) 1 _ h5 (by omega) (by omega)) fun w12 x12=>?_;have c2:=x12.size;replace h0:=hid (h0.kp (x12.kp h0.lt));replace h3:=hid (h3.kp (x12.kp (by first|omega|(simp;omega))));replace h5:=hid (h5.kp (x12.kp (by first|omega|(simp;omega))));replace E:=E.trans x12;clear x12 ps h6 h7 h8 h9 q0 q1 q2 q3 q4 q5 h1 h2;have ps:=h0.lt;obtain ⟨h6,h7,h8,h9,q0,q1,q2,q3,q4,q5,h1,h2⟩:=h0.q12;have zE:=E.size;go_wp2_with fail;refine (lU 0 W.heap.size _ s _ (Hs.ext (aTc _) E) zE a1).mono ?_;rintro e w13 ⟨b9,rfl,a8,b0⟩;have a6:Ext w12 w13:=b0;have c3:=a6.size;go_wp2_with fail;refine (tX _ _ _ s a b _ HQ a8.R (aTc _) a1.small).mono ?_;rintro e w14 ⟨b8,rfl,a9,a5⟩;have a3:Ext w12 w14:=a6.trans a5;have c4:=a5.size;replace h0:=hid (h0.kp (a3.kp h0.lt));replace h3:=hid (h3.kp (a3.kp (by first|omega|(simp;omega))));replace h5:=hid (h5.kp (a3.kp (by first|omega|(simp;omega))));replace E:=E.trans a3;have a4:=hid a9;clear b0 a6 a5 a3 a8 a9;clear ps h6 h7 h8 h9 q0 q1 q2 q3 q4 q5 h1 h2 h0;go_wp2_with fail;refine r_ (vB _ _ _ _ _ _ X _ a4 h3) fun w15 x15=>?_;have c5:=x15.size;replace h3:=hid (h3.kp (x15.kp (by first|omega|(simp;omega))));replace h5:=hid (h5.kp (x15.kp (by first|omega|(simp;omega))));replace a4:=hid (a4.kp (x15.kp (by first|omega|(simp;omega))));replace E:=E.trans x15;clear x15;clear a4 h3;go_wp2_with fail;refine r_ (aCu _ _ _ (X.map stV) 1 _ h5 (by omega) (by omega)) fun w16 x16=>?_;have c6:=x16.size;replace h5:=hid (h5.kp (x16.kp (by first|omega|(simp;omega))));replace E:=E.trans x16;clear x16;go_wp2;go_ret;exact ⟨rfl,E⟩
section
open Go.ChangeShapes Go.WideShapes Go.ChangeAt Go.RowKit
section
variable {H : Type} {enc : TypeId × Value -> H} {W : World} {base b0 : Nat} {sp : Nat -> Bool} {held : Bool}
theorem aI6 {n:Int} (h:(Lit.int .i64 n).wf=true):I64 n:=by
 simp [Lit.wf,IntKind.min,IntKind.max,IntKind.signed,IntKind.bits] at h;exact ⟨by omega,by omega⟩
theorem aSq {v:Value} {d:DataW H} {p:List MemPlace} (hv:Value.okWide aTg W .any b0 3 v) (h:DataW.Trod enc aTg W base sp held 3 v d p):∃n,v = .int .i64 n/\I64 n:=by
 obtain ⟨n,rfl,_,_,hw⟩:=open_int underlying3 hv h;exact ⟨n,rfl,aI6 hw⟩
theorem aGx {fuel:Nat} {c:Value} {y:DataW H×List MemPlace} (h:aXf enc aTg W base sp held fuel 24 [c]=some y):∃xs,aS 0 W.heap.size W c xs:=by
 rcases open_ints underlying24 underlying3 (by kernel_rfl) h with ⟨hcs,_⟩|⟨a,len,cap,zs,hcs,_,hl,hm,hz,_,hcell,hwz⟩
 ·obtain rfl:c = .slice none 0 0:=by simpa using hcs
  exact ⟨[],none,0,rfl,aTc _,by unfold maxLen;omega,fun i x hx=>by simp at hx⟩
 ·obtain rfl:c = .slice (some a) len cap:=by simpa using hcs
  have h1:(zs.take len).length=len:=by
   rw [aT0,hz]
   split <;> omega
  refine ⟨zs.take len,some a,cap,by rw [h1],by omega,hm,fun i x hx=>?_⟩
  have hi:i<len:=by have:=(aTd.1 hx).1;omega
  rw [aVo,if_pos hi] at hx;have h3:=(aTd.1 hx).1
  have h2:zs.getD i 0=x:=by simp [List.getD,hx]
  obtain ⟨b,o,s⟩:=a
  obtain rfl:s=none:=by
   cases s with
   | none=>rfl
   | some s=>
    have h0:=hcell 0 (by omega);simp only [aVk,aXl,if_true] at h0
    split at h0 <;> simp at h0
  have hc:=hcell i h3;rw [h2] at hc
  have ha:(⟨b,o,none⟩:Addr).add i=⟨b,o+i,none⟩:=by
   unfold aXl
   split
   ·rename_i e;subst e;rfl
   ·rfl
  rw [ha] at hc;refine ⟨aI6 (hwz x (aT2 hx)),b,o,rfl,aUx _,?_,hc⟩;simp only [aVk] at hc
  split at hc
  ·rename_i e;exact (aTx.1 e).1
  ·cases hc
end
end
section
open Go.ChangeShapes Go.WideShapes Go.ChangeAt Go.RowKit
def sE (P:Program):Nat->TypeId->Nat->Option TypeId
 | 0,_,_=>none
 | d+1,t,i=>
  match P.underlying t with
  | some (.struct fs)=>
   match fs.toList.find? (fun f=>decide (f.offset<=i)&&decide (i<f.offset+P.cellsOf f.type)) with
   | some f=>
    match sE P d f.type (i - f.offset) with
    | some u=>if (i - f.offset)+P.cellsOf u<=P.cellsOf f.type then some u else none
    | none=>none
   | none=>none
  | some (.array n e)=>
   if i / P.cellsOf e<n then
    match sE P d e (i % P.cellsOf e) with
    | some u=>if (i % P.cellsOf e)+P.cellsOf u<=P.cellsOf e then some u else none
    | none=>none
   else none
  | some _=>if i=0 then some t else none
  | none=>none
section
variable {H : Type} {enc : TypeId × Value -> H} {P : Program} {W : World} {base : Nat} {sp : Nat -> Bool} {held : Bool}
theorem tY {α : Type} (l:List α) (o k i c:Nat) (h1:o<=i) (h2:i - o+c<=k):((((l.drop o).take k).drop (i - o)).take c)=(l.drop i).take c:=by
 rw [List.drop_take,List.take_take,List.drop_drop,Nat.min_eq_left (by omega)]
 congr 2
 omega
theorem aCv (d:Nat):∀{t u:TypeId} {i fuel:Nat} {cs:List Value} {x:DataW H×List MemPlace},sE P d t i=some u->aXf enc P W base sp held fuel t cs=some x ->
  (i=0/\t=u)\/∃(m:Nat) (y:DataW H×List MemPlace),aXf enc P W base sp held m u ((cs.drop i).take (P.cellsOf u))=some y:=by
 induction d with
 | zero=>intro t u i fuel cs x h;simp [sE] at h
 | succ d ih=>
  intro t u i fuel cs x h hx;unfold sE at h
  split at h
  ·rename_i fs h5
   split at h
   ·rename_i f hf
    have hp:=List.find?_some hf;simp only [aTs,decide_eq_true_eq] at hp;have hm:=List.mem_of_find?_eq_some hf
    split at h
    ·rename_i u' hu
     split at h
     ·rename_i h0
      simp only [aTf] at h;subst h;obtain ⟨xs,n,_,_,hl,h4,hg⟩:=DataW.trod_struct h5 hx;obtain ⟨j,hj⟩:=List.getElem?_of_mem hm
      have h6:fs[j]?=some f:=by simpa using hj
      have h1:=hg j f h6
      have h8:j<xs.length:=by rw [h4];exact (aTx.1 h6).1
      rw [aTk h8] at h1;refine .inr ?_
      rcases ih hu h1 with ⟨h2,rfl⟩|⟨m,y,hy⟩
      ·refine ⟨n,xs[j],?_⟩
       have:f.offset=i:=by omega
       rw [<-this];exact h1
      ·rw [tY _ _ _ _ _ hp.1 h0] at hy
       exact ⟨m,y,hy⟩
     ·cases h
    ·cases h
   ·cases h
  ·rename_i n e h5
   split at h
   ·rename_i hn
    split at h
    ·rename_i u' hu
     split at h
     ·rename_i h0
      simp only [aTf] at h;subst h;obtain ⟨xs,m',_,_,hl,h4,hg⟩:=DataW.trod_array h5 hx;have h1:=hg _ hn;rw [aTk (by omega)] at h1;have h7:=Nat.div_add_mod i (P.cellsOf e);rw [aXj] at h7;refine .inr ?_
      rcases ih hu h1 with ⟨h2,rfl⟩|⟨m,y,hy⟩
      ·refine ⟨m',xs[i / P.cellsOf e]'(by omega),?_⟩
       have:i / P.cellsOf e*P.cellsOf e=i:=by omega
       rw [this] at h1;exact h1
      ·have h3:i % P.cellsOf e=i - i / P.cellsOf e*P.cellsOf e:=by omega
       rw [h3] at hy h0;rw [tY _ _ _ _ _ (by omega) h0] at hy;exact ⟨m,y,hy⟩
     ·cases h
    ·cases h
   ·cases h
  ·split at h
   ·rename_i hi
    simp only [aTf] at h;exact .inl ⟨hi,h⟩
   ·cases h
  ·cases h
def tZ (P:Program) (t:TypeId) (k:Nat) (ti:TypeId):Bool:=decide (P.cellsOf t=k)&&decide (P.cellsOf ti=1)&&decide (t≠ti)&&(aT3 k).all fun i=>decide (sE P 6 t i=some ti)
theorem aL1 {t ti:TypeId} {k fuel:Nat} {cs:List Value} {x:DataW H×List MemPlace} (hi:P.underlying ti=some (.int .i64)) (ho:tZ P t k ti=true) (h:aXf enc P W base sp held fuel t cs=some x) :
  ∀i,i<k->∃n,cs[i]?=some (.int .i64 n)/\I64 n:=by
 intro i h0;simp only [tZ,aTs,decide_eq_true_eq,List.all_eq_true,aUp] at ho;obtain ⟨⟨⟨h1,h2⟩,h3⟩,h4⟩:=ho
 rcases aCv 6 (h4 i h0) h with ⟨_,e⟩|⟨m,y,hy⟩
 ·exact absurd e h3
 ·rw [h2] at hy
  obtain ⟨n,e0,_,hw⟩:=DataW.trod_int hi hy;refine ⟨n,?_,?_⟩
  ·have:((cs.drop i).take 1)[0]?=some (.int .i64 n):=by rw [e0];rfl
   rw [aVo,if_pos (by decide),List.getElem?_drop] at this;exact this
  ·simp [Lit.wf,IntKind.min,IntKind.max,IntKind.signed,IntKind.bits] at hw
   exact ⟨by omega,by omega⟩
theorem aL2 {t e ti:TypeId} {k fuel:Nat} {c:Value} {y:DataW H×List MemPlace} (ht:P.underlying t=some (.slice e)) (hi:P.underlying ti=some (.int .i64)) (ho:tZ P e k ti=true) (hk:0<k)
  (h:aXf enc P W base sp held fuel t [c]=some y):∃n f,dL k 0 W.heap.size W c n f:=by
 have hC:P.cellsOf e=k:=by
  simp only [tZ,aTs,decide_eq_true_eq] at ho;exact ho.1.1.1
 rcases aZg ht h with ⟨h0,_⟩|⟨a,len,cap,m,n,D,Pl,hcs,hb,hl,hm,hmm,hx,hel⟩
 ·obtain rfl:c = .slice none 0 0:=by simpa using h0
  exact ⟨0,fun _=>0,none,0,rfl,aTc _,by unfold maxLen;omega,fun i hx=>by omega⟩
 ·obtain rfl:c = .slice (some a) len cap:=by simpa using hcs
  have q1:len<=m:=by rw [hmm];split <;> omega
  rw [hC] at hel
  have h9:∀i,i<len*k->∃x,I64 x/\W.cell? (a.add (i / k*k) |>.add (i % k))=some (.int .i64 x):=by
   intro i h3;have h1:i / k<len:=(Nat.div_lt_iff_lt_mul hk).2 h3;obtain ⟨cs',hc,h6⟩:=hel (i / k) (by omega);obtain ⟨x,h7,h8⟩:=aL1 hi ho h6 (i % k) (aV2 _ hk);obtain ⟨_,q0,h5⟩:=aZ0 hc;exact ⟨x,h8,(h5 _ (aV2 _ hk)).trans h7⟩
  have h4:∀i,∃x,i<len*k->I64 x/\W.cell? (a.add i)=some (.int .i64 x):=by
   intro i
   by_cases h3:i<len*k
   ·obtain ⟨x,h1,h2⟩:=h9 i h3
    rw [aWv] at h2
    have:i / k*k+i % k=i:=by have:=Nat.div_add_mod i k;rw [aXj] at this;omega
    rw [this] at h2;exact ⟨x,fun _=>⟨h1,h2⟩⟩
   ·exact ⟨0,fun h=>absurd h h3⟩
  obtain ⟨f,hf⟩:=aX3 h4;refine ⟨len,f,some a,cap,rfl,hl,hm,fun i h3=>⟨(hf i h3).1,?_⟩⟩;have h0:=(hf 0 (by omega)).2;obtain ⟨b,o,s⟩:=a
  obtain rfl:s=none:=by
   cases s with
   | none=>rfl
   | some s=>
    simp only [aVk,aXl,if_true] at h0
    split at h0 <;> simp at h0
  have hc:=(hf i h3).2
  have ha:(⟨b,o,none⟩:Addr).add i=⟨b,o+i,none⟩:=by
   unfold aXl
   split
   ·rename_i e;subst e;rfl
   ·rfl
  rw [ha] at hc;refine ⟨b,o,rfl,aUx _,?_,hc⟩;simp only [aVk] at hc
  split at hc
  ·rename_i e;exact (aTx.1 e).1
  ·cases hc
end
end
section
open Go.ChangeShapes Go.WideShapes Go.ChangeAt Go.RowKit
section
variable {H : Type} {enc : TypeId × Value -> H} {P : Program} {W : World} {base b0 : Nat} {sp : Nat -> Bool} {held : Bool}
theorem bW {t u:TypeId} {i fuel:Nat} {cs:List Value} {x:DataW H×List MemPlace} (hl:(sE P 6 t i==some u&&decide (t≠u)&&decide (P.cellsOf u=1))=true) (h:aXf enc P W base sp held fuel t cs=some x) (hi:i<cs.length) :
  ∃c m y,cs[i]?=some c/\aXf enc P W base sp held m u [c]=some y:=by
 simp only [aTs,beq_iff_eq,decide_eq_true_eq] at hl;obtain ⟨⟨h1,h2⟩,h3⟩:=hl
 rcases aCv 6 h1 h with ⟨_,e⟩|⟨m,y,hy⟩
 ·exact absurd e h2
 ·rw [h3,aVf hi] at hy
  exact ⟨cs[i],m,y,by simp [hi],hy⟩
theorem fC {t:TypeId} {fuel:Nat} {c:Value} {y:DataW H×List MemPlace} (ht:P.underlying t=some (.int .i64)) (h:aXf enc P W base sp held fuel t [c]=some y):∃n,c = .int .i64 n/\I64 n:=by
 obtain ⟨k,e0,_,hw⟩:=DataW.trod_int ht h;exact ⟨k,by simpa using e0,aI6 hw⟩
theorem aCw {t:TypeId} {fuel:Nat} {c:Value} {y:DataW H×List MemPlace} (ht:P.underlying t=some .string) (h:aXf enc P W base sp held fuel t [c]=some y):∃s,c = .string s/\s.size<=maxLen:=by
 obtain ⟨s,e0,_,hw⟩:=DataW.trod_string ht h;exact ⟨s,by simpa using e0,hw⟩
end
section
variable {H : Type} {enc : TypeId × Value -> H} {W : World} {base b0 : Nat} {sp : Nat -> Bool} {held : Bool}
theorem aPv {fuel:Nat} {c:Value} {y:DataW H×List MemPlace} (h:aXf enc aTg W base sp held fuel 110 [c]=some y):∃xs,Nds 0 W.heap.size W c xs/\∀x∈xs,x.name.size<=maxLen:=by
 rcases aZg underlying110 h with ⟨hcs,_⟩|⟨a,len,cap,m,n,D,Pl,hcs,_,hl,hm,hmm,_,hel⟩
 ·obtain rfl:c = .slice none 0 0:=by simpa using hcs
  exact ⟨[],⟨none,0,rfl,aTc _,by unfold maxLen;omega,fun i x hx=>by simp at hx⟩,fun s hs=>by cases hs⟩
 ·obtain rfl:c = .slice (some a) len cap:=by simpa using hcs
  have h6:len<=m:=by rw [hmm];split <;> omega
  have hC:Tryz.prog.cellsOf 237=4:=by kernel_rfl
  rw [hC] at hel
  have h3:∀i,∃x:Nd,i<len->(I64 x.op/\I64 x.num/\x.name.size<=maxLen)/\W.cell? (a.add (i*4))=some (.int .i64 x.op)/\W.cell? (a.add (i*4+1))=some (.string x.name)/\W.cell? (a.add (i*4+2))=some (.int .i64 x.num)/\∃u,W.cell? (a.add (i*4+3))=some u/\aS 0 W.heap.size W u x.args:=by
   intro i
   by_cases h4:i<len
   ·obtain ⟨cs',hc,h2⟩:=hel i (by omega)
    obtain ⟨_,h5,h1⟩:=aZ0 hc;obtain ⟨c0,m0,y0,e0,t0⟩:=bW (i:=0) (u:=3) (by kernel_rfl) h2 (by omega);obtain ⟨c1,m1,y1,e1,t1⟩:=bW (i:=1) (u:=9) (by kernel_rfl) h2 (by omega);obtain ⟨c2,m2,y2,e2,t2⟩:=bW (i:=2) (u:=3) (by kernel_rfl) h2 (by omega);obtain ⟨c3,m3,y3,e3,t3⟩:=bW (i:=3) (u:=24) (by kernel_rfl) h2 (by omega);obtain ⟨px,hx⟩:=aGx t3;obtain ⟨n0,rfl,i0⟩:=fC underlying3 t0;obtain ⟨s,rfl,i1⟩:=aCw underlying9 t1;obtain ⟨n2,rfl,i2⟩:=fC underlying3 t2;refine ⟨⟨n0,s,n2,px⟩,fun _=>⟨⟨i0,i2,i1⟩,?_,?_,?_,c3,?_,hx⟩⟩
    ·have:=h1 0 (by omega);rw [aWv] at this;exact this.trans e0
    ·have:=h1 1 (by omega);rw [aWv] at this;exact this.trans e1
    ·have:=h1 2 (by omega);rw [aWv] at this;exact this.trans e2
    ·have:=h1 3 (by omega);rw [aWv] at this;exact this.trans e3
   ·exact ⟨⟨0,⟨#[]⟩,0,[]⟩,fun h=>absurd h h4⟩
  obtain ⟨f,hf⟩:=aX3 h3;refine ⟨(aT3 len).map f,⟨some a,cap,by simp,by simpa using hl,hm,fun i x hx=>?_⟩,fun s hs=>?_⟩
  ·have hi:i<len:=by have:=(aTd.1 hx).1;simpa using this
   obtain rfl:f i=x:=by simpa [hi] using hx
   obtain ⟨⟨i0,i2,_⟩,g0,g1,g2,u,g3,hu⟩:=hf i hi;refine ⟨⟨i0,i2⟩,?_⟩;have h0:=(hf 0 (by omega)).2.1;clear hf hel h3;obtain ⟨b,o,s⟩:=a
   obtain rfl:s=none:=by
    cases s with
    | none=>rfl
    | some s=>
     simp only [aVk,aXl,aXv,if_true] at h0
     split at h0 <;> simp at h0
   have ha:∀k,(⟨b,o,none⟩:Addr).add k=⟨b,o+k,none⟩:=by
    intro k;unfold aXl
    split
    ·rename_i e;subst e;rfl
    ·rfl
   rw [ha] at g0 g1 g2 g3;refine ⟨b,o,u,rfl,aUx _,?_,g0,by rw [aU5];exact g1,by rw [aU5];exact g2,by rw [aU5];exact g3,hu⟩;simp only [aVk] at g0
   split at g0
   ·rename_i e;exact (aTx.1 e).1
   ·cases g0
  ·obtain ⟨i,hi,rfl⟩:=aVm.1 hs
   exact (hf i (aUp.1 hi)).1.2.2
theorem aN2 {fuel:Nat} {c:Value} {y:DataW H×List MemPlace} (h:aXf enc aTg W base sp held fuel 111 [c]=some y):∃xs,oJ 0 W.heap.size W c xs/\∀x∈xs,x.name.size<=maxLen:=by
 rcases aZg underlying111 h with ⟨hcs,_⟩|⟨a,len,cap,m,n,D,Pl,hcs,_,hl,hm,hmm,_,hel⟩
 ·obtain rfl:c = .slice none 0 0:=by simpa using hcs
  exact ⟨[],⟨none,0,rfl,aTc _,by unfold maxLen;omega,fun i x hx=>by simp at hx⟩,fun s hs=>by cases hs⟩
 ·obtain rfl:c = .slice (some a) len cap:=by simpa using hcs
  have h6:len<=m:=by rw [hmm];split <;> omega
  have hC:Tryz.prog.cellsOf 239=2:=by kernel_rfl
  rw [hC] at hel
  have h3:∀i,∃x:Asg,i<len->(I64 x.root/\x.name.size<=maxLen)/\W.cell? (a.add (i*2))=some (.string x.name)/\W.cell? (a.add (i*2+1))=some (.int .i64 x.root):=by
   intro i
   by_cases h4:i<len
   ·obtain ⟨cs',hc,h2⟩:=hel i (by omega)
    obtain ⟨_,h5,h1⟩:=aZ0 hc;obtain ⟨c0,m0,y0,e0,t0⟩:=bW (i:=0) (u:=9) (by kernel_rfl) h2 (by omega);obtain ⟨c1,m1,y1,e1,t1⟩:=bW (i:=1) (u:=3) (by kernel_rfl) h2 (by omega);obtain ⟨s,rfl,i0⟩:=aCw underlying9 t0;obtain ⟨n1,rfl,i1⟩:=fC underlying3 t1;refine ⟨⟨s,n1⟩,fun _=>⟨⟨i1,i0⟩,?_,?_⟩⟩
    ·have:=h1 0 (by omega);rw [aWv] at this;exact this.trans e0
    ·have:=h1 1 (by omega);rw [aWv] at this;exact this.trans e1
   ·exact ⟨⟨⟨#[]⟩,0⟩,fun h=>absurd h h4⟩
  obtain ⟨f,hf⟩:=aX3 h3;refine ⟨(aT3 len).map f,⟨some a,cap,by simp,by simpa using hl,hm,fun i x hx=>?_⟩,fun s hs=>?_⟩
  ·have hi:i<len:=by have:=(aTd.1 hx).1;simpa using this
   obtain rfl:f i=x:=by simpa [hi] using hx
   obtain ⟨⟨i0,_⟩,g0,g1⟩:=hf i hi;refine ⟨i0,?_⟩;have h0:=(hf 0 (by omega)).2.1;clear hf hel h3;obtain ⟨b,o,s⟩:=a
   obtain rfl:s=none:=by
    cases s with
    | none=>rfl
    | some s=>
     simp only [aVk,aXl,aXv,if_true] at h0
     split at h0 <;> simp at h0
   have ha:∀k,(⟨b,o,none⟩:Addr).add k=⟨b,o+k,none⟩:=by
    intro k;unfold aXl
    split
    ·rename_i e;subst e;rfl
    ·rfl
   rw [ha] at g0 g1;refine ⟨b,o,rfl,aUx _,?_,g0,by rw [aU5];exact g1⟩;simp only [aVk] at g0
   split at g0
   ·rename_i e;exact (aTx.1 e).1
   ·cases g0
  ·obtain ⟨i,hi,rfl⟩:=aVm.1 hs
   exact (hf i (aUp.1 hi)).1.2
end
end
section
open Go.ChangeShapes Go.WideShapes Go.ChangeAt Go.RowKit
section
variable {H : Type} {enc : TypeId × Value -> H} {P : Program} {W : World} {base b0 : Nat} {sp : Nat -> Bool} {held : Bool}
theorem aI7 {t:TypeId} {fuel:Nat} {c:Value} {y:DataW H×List MemPlace} (ht:P.underlying t=some .bool) (h:aXf enc P W base sp held fuel t [c]=some y):∃b,c = .bool b:=by
 obtain ⟨b,e0,_⟩:=DataW.trod_bool ht h;exact ⟨b,by simpa using e0⟩
end
section
variable {H : Type} {enc : TypeId × Value -> H} {W : World} {base b0 : Nat} {sp : Nat -> Bool} {held : Bool}
theorem aN3 {fuel:Nat} {c:Value} {y:DataW H×List MemPlace} (h:aXf enc aTg W base sp held fuel 27 [c]=some y):∃ps,hZ 0 W.heap.size W c ps/\∀p∈ps,p.bd:=by
 rcases aZg underlying27 h with ⟨hcs,_⟩|⟨a,len,cap,m,n,D,Pl,hcs,_,hl,hm,hmm,_,hel⟩
 ·obtain rfl:c = .slice none 0 0:=by simpa using hcs
  exact ⟨[],⟨none,0,rfl,aTc _,by unfold maxLen;omega,fun i x hx=>by simp at hx⟩,fun s hs=>by cases hs⟩
 ·obtain rfl:c = .slice (some a) len cap:=by simpa using hcs
  have h7:len<=m:=by rw [hmm];split <;> omega
  have hC:Tryz.prog.cellsOf 113=2:=by kernel_rfl
  rw [hC] at hel
  have h3:∀i,∃x:Prg,i<len->x.bd/\∃u1 u2,W.cell? (a.add (i*2))=some u1/\W.cell? (a.add (i*2+1))=some u2/\x.R 0 W.heap.size W (.agg #[u1,u2]):=by
   intro i
   by_cases h4:i<len
   ·obtain ⟨cs',hc,h2⟩:=hel i (by omega)
    obtain ⟨_,h6,h1⟩:=aZ0 hc;obtain ⟨c0,m0,y0,e0,t0⟩:=bW (i:=0) (u:=110) (by kernel_rfl) h2 (by omega);obtain ⟨c1,m1,y1,e1,t1⟩:=bW (i:=1) (u:=111) (by kernel_rfl) h2 (by omega);obtain ⟨xs,hx,bx⟩:=aPv t0;obtain ⟨ls,h5,bl⟩:=aN2 t1;refine ⟨⟨xs,ls⟩,fun _=>⟨⟨bx,bl⟩,c0,c1,?_,?_,_,_,rfl,hx,h5⟩⟩
    ·have:=h1 0 (by omega);rw [aWv] at this;exact this.trans e0
    ·have:=h1 1 (by omega);rw [aWv] at this;exact this.trans e1
   ·exact ⟨⟨[],[]⟩,fun h=>absurd h h4⟩
  obtain ⟨f,hf⟩:=aX3 h3;refine ⟨(aT3 len).map f,⟨some a,cap,by simp,by simpa using hl,hm,fun i x hx=>?_⟩,fun s hs=>?_⟩
  ·have hi:i<len:=by have:=(aTd.1 hx).1;simpa using this
   obtain rfl:f i=x:=by simpa [hi] using hx
   obtain ⟨_,u1,u2,g0,g1,hR⟩:=hf i hi;obtain ⟨_,v1,v2,h0,_⟩:=hf 0 (by omega);clear hf hel h3;obtain ⟨b,o,s⟩:=a
   obtain rfl:s=none:=by
    cases s with
    | none=>rfl
    | some s=>
     simp only [aVk,aXl,aXv,if_true] at h0
     split at h0 <;> simp at h0
   have ha:∀k,(⟨b,o,none⟩:Addr).add k=⟨b,o+k,none⟩:=by
    intro k;unfold aXl
    split
    ·rename_i e;subst e;rfl
    ·rfl
   rw [ha] at g0 g1;refine ⟨b,o,u1,u2,rfl,aUx _,?_,g0,by rw [aU5];exact g1,hR⟩;simp only [aVk] at g0
   split at g0
   ·rename_i e;exact (aTx.1 e).1
   ·cases g0
  ·obtain ⟨i,hi,rfl⟩:=aVm.1 hs
   exact (hf i (aUp.1 hi)).1
theorem aSr {v:Value} {d:DataW H} {p:List MemPlace} (hv:Value.okWide aTg W .any b0 30 v) (h:DataW.Trod enc aTg W base sp held 30 v d p) :
  ∃s:Scn,s.R 0 W.heap.size W v/\s.bd:=by
 obtain ⟨cs,rfl,h0⟩:=okWide_struct underlying30 hv
 have hC:Tryz.prog.cellsOf 30=12:=by kernel_rfl
 rw [hC] at h0;obtain ⟨fuel,hf⟩:=h
 have h6:(Value.agg cs).cells.toList.length=12:=by simp [bDj,h0]
 obtain ⟨c0,m0,y0,e0,t0⟩:=bW (i:=0) (u:=3) (by kernel_rfl) hf (by omega);obtain ⟨c1,m1,y1,e1,t1⟩:=bW (i:=1) (u:=3) (by kernel_rfl) hf (by omega);obtain ⟨c2,m2,y2,e2,t2⟩:=bW (i:=2) (u:=3) (by kernel_rfl) hf (by omega);obtain ⟨c3,m3,y3,e3,t3⟩:=bW (i:=3) (u:=3) (by kernel_rfl) hf (by omega);obtain ⟨c4,m4,y4,e4,t4⟩:=bW (i:=4) (u:=4) (by kernel_rfl) hf (by omega);obtain ⟨c5,m5,y5,e5,t5⟩:=bW (i:=5) (u:=3) (by kernel_rfl) hf (by omega);obtain ⟨c6,m6,y6,e6,t6⟩:=bW (i:=6) (u:=3) (by kernel_rfl) hf (by omega);obtain ⟨c7,m7,y7,e7,t7⟩:=bW (i:=7) (u:=3) (by kernel_rfl) hf (by omega);obtain ⟨c8,m8,y8,e8,t8⟩:=bW (i:=8) (u:=24) (by kernel_rfl) hf (by omega);obtain ⟨c9,m9,y9,e9,t9⟩:=bW (i:=9) (u:=27) (by kernel_rfl) hf (by omega);obtain ⟨h1,q2,q4,h2,h9⟩:=bW (i:=10) (u:=28) (by kernel_rfl) hf (by omega);obtain ⟨q1,q3,q5,h3,q0⟩:=bW (i:=11) (u:=3) (by kernel_rfl) hf (by omega);obtain ⟨k0,rfl,i0⟩:=fC underlying3 t0;obtain ⟨k1,rfl,i1⟩:=fC underlying3 t1;obtain ⟨k2,rfl,i2⟩:=fC underlying3 t2;obtain ⟨k3,rfl,i3⟩:=fC underlying3 t3;obtain ⟨k4,rfl⟩:=aI7 underlying4 t4;obtain ⟨k5,rfl,i5⟩:=fC underlying3 t5;obtain ⟨k6,rfl,i6⟩:=fC underlying3 t6;obtain ⟨k7,rfl,i7⟩:=fC underlying3 t7;obtain ⟨px,hx⟩:=aGx t8;obtain ⟨ps,h7,h5⟩:=aN3 t9;obtain ⟨n,f,hp⟩:=aL2 (k:=26) (e:=134) underlying28 underlying3 (by kernel_rfl) (by omega) h9;obtain ⟨h4,rfl,h8⟩:=fC underlying3 q0
 have e:cs=#[(k0:Value),k1,k2,k3,.bool k4,k5,k6,k7,c8,c9,h1,h4]:=by
  apply Array.ext_getElem?;intro i;simp only [bDj,Array.getElem?_toList] at e0 e1 e2 e3 e4 e5 e6 e7 e8 e9 h2 h3
  match i with
  | 0=>simpa using e0
  | 1=>simpa using e1
  | 2=>simpa using e2
  | 3=>simpa using e3
  | 4=>simpa using e4
  | 5=>simpa using e5
  | 6=>simpa using e6
  | 7=>simpa using e7
  | 8=>simpa using e8
  | 9=>simpa using e9
  | 10=>simpa using h2
  | 11=>simpa using h3
  | i+12=>simp [h0]
 subst e;exact ⟨⟨⟨k0,k1,k2,k3,k4,k5,k6⟩,⟨k7,px⟩,ps,n,f,h4⟩,⟨c8,c9,h1,rfl,⟨i0,i1,i2,i3,i5,i6⟩,i7,h8,hx,h7,hp⟩,h5⟩
end
end
section
namespace fnExactDeepPixel
open Go.ChangeShapes Go.WideShapes Go.ChangeAt Go.RowKit
theorem yV:Tryz.pinned.checked.prog.funcNamed Rows.fnExactDeepPixelRow.func=some 8:=by kernel_rfl
end fnExactDeepPixel
end
end Go.Proofs.YthgpegkmjeigmaaGreat
