/- Texts of this claim, one behind another; what its theorem does not use is left out: Oc4, Oc5, In2, Sc5, Sc7, In3, Fr2, In4, In5, Oc6, Dw4, Dw5, Dw6, LiftTex, LiftBy0, Dw7, Dw9, LawShadow, P27. -/
import Derived.Test.YtfjbiifebcfjfaaGreatP27W7
import Derived.Test.YtfjbiifebcfjfaaGreatP27W5
import Derived.Test.YtfjbiifebcfjfaaGreatP27W6
import Derived.Test.YtfjbiifebcfjfaaGreatP27W1
import Derived.OpenShut
import Derived.ShutString
import Derived.ChangeOld
import Derived.Below
import Derived.Carry
import Derived.Lib.SmallJoins
import Derived.Test.YtfjbiifebcfjfaaGreatRows
import Derived.ProofKit
set_option linter.unusedSimpArgs false
set_option linter.unusedVariables false
set_option maxRecDepth 100000
set_option maxHeartbeats 12800000
namespace Go.Proofs.YtfjbiifebcfjfaaGreat
open Go.RowKit
theorem info_StpT:(Tryz.prog.info? 251).map (fun i=>(i.zero,i.size,i.bytes))=some (some (.agg #[.int .i64 0,.int .i64 0]),2,16):=by kernel_rfl
theorem Stp.one (x:Stp):∀u∈x.cs,u.oneCell'=true:=by
 intro u hu;simp only [Stp.cs,List.mem_cons,List.not_mem_nil,or_false] at hu
 rcases hu with rfl|rfl <;> rfl
theorem lastWeight_val {lo:Nat} {l:List Stp} {v:Value} {w:World} (h:OwnG Stp.cs lo 251 2 w v l) {r:Int} (hr:lastW l=r) :
  Calls Tryz.prog 230 #[v] w fun e w'=>e = .returned (.int .i64 r)∧w=w':=by
 obtain ⟨a,cap,rfl,-⟩:=h.form
 rcases Nat.eq_zero_or_pos l.length with h0|hp
 ·have hn:l=[]:=List.eq_nil_of_length_eq_zero h0
  subst hn
  have e1:r=65536:=by rw [←hr];rfl
  subst e1;clear h hr h0;go_enter Tryz.func230,Tryz.ntmps230;go_wp2;go_ret;exact ⟨rfl,rfl⟩
 ·obtain ⟨n,hn⟩:∃n,l.length=n+1:=⟨l.length - 1,by omega⟩
  obtain ⟨x,hx⟩:∃x,l[n]?=some x:=⟨_,List.getElem?_eq_getElem (by omega)⟩
  have e1:r=x.w:=by
   rw [←hr];unfold lastW;rw [List.getLast?_eq_getElem?,hn,Nat.add_sub_cancel,hx]
  subst e1;obtain ⟨g,cap',he,-,glt,gcap,gcm,-,hcell⟩:=OwnG.at h (fun _=>rfl) hx;simp only [Value.slice.injEq,true_and] at he;obtain ⟨rfl,rfl⟩:=he;have d1:=hcell 1 (by decide);simp only [Stp.cs,List.getElem?_cons_zero,List.getElem?_cons_succ] at d1
  have e2:((n+1:Nat):Int) - 1=(n:Nat):=by omega
  rw [hn];rw [hn] at gcap;clear h hr hx hp hn hcell;go_enter Tryz.func230,Tryz.ntmps230;go_wp2;go_ret;exact ⟨rfl,rfl⟩
theorem deeper_any {lo:Nat} {l:List Stp} {v:Value} {w:World} (h:OwnG Stp.cs lo 251 2 w v l) (d wt:Int) (hlo:lo≤w.heap.size) (hl:l.length≤64) :
  Calls Tryz.prog 167 #[v,.int .i64 d,.int .i64 wt] w fun e w'=>∃v',e = .returned v'∧OwnG Stp.cs lo 251 2 w' v' (deeper l d wt)∧∀W,Ext W w→W.heap.size≤lo→Ext W w':=by
 have HO:=hid h;obtain ⟨a,cap,rfl,-⟩:=h.form
 obtain ⟨r,hr⟩:∃r,lastW l=r:=⟨_,rfl⟩
 have HR:=hid hr
 by_cases h1:wt<r
 ·by_cases h2:l.length<64
  ·have e1:deeper l d wt=l++[⟨d,wt⟩]:=by
    unfold deeper;rw [if_pos ⟨by rw [hr];exact h1,h2⟩]
   rw [e1];have hB:=Blk.new w 251 [.int .i64 d,.int .i64 wt];have HB:=hid hB
   have hlen:l.length<1000000:=by omega
   have HL:=hid hlen;clear h hr e1 hB hlen;go_enter Tryz.func167,Tryz.ntmps167;go_wp2_with fail;refine (lastWeight_val HO.out HR.out).mono ?_;rintro e w3 ⟨rfl,rfl⟩
   go_wp2_with (at_builtin;refine wpList_append_elt Stp.cs 251 2 16 _ _ rfl _ _ 101 rfl Tryz.underlying101 info_StpT rfl (by decide) (by decide) (fun _=>rfl) lo (.slice a l.length cap) l rfl (HO.out.ext X_) ⟨d,wt⟩ w.heap.size rfl (fun jj hj=>by
     rcases (show jj=0∨jj=1 by omega) with rfl|rfl
     ·exact HB.out.cell 0 rfl
     ·exact HB.out.cell 1 rfl) (Stp.one _) HL.out (by rw [World.size_alloc];omega) ?_;intro v2 w2 hown hg)
   go_ret;exact ⟨_,rfl,hown,fun W hx hW=>Ext.grown (hx.trans X_) hg (fun k hk=>Nat.le_trans hW (OwnG.lt HO.out k hk).1)⟩
  ·have e1:deeper l d wt=l:=by
    unfold deeper;rw [if_neg (fun hh=>h2 hh.2)]
   rw [e1];clear h hr e1;go_enter Tryz.func167,Tryz.ntmps167;go_wp2_with (go_at_call 230;refine (lastWeight_val HO.out HR.out).mono ?_;rintro e w3 ⟨rfl,rfl⟩);go_ret;exact ⟨_,rfl,HO.out,fun W hx hW=>hx⟩
 ·have e1:deeper l d wt=l:=by
   unfold deeper;rw [if_neg (fun hh=>h1 (by rw [←hr];exact hh.1))]
  rw [e1];clear h hr e1;go_enter Tryz.func167,Tryz.ntmps167;go_wp2_with (go_at_call 230;refine (lastWeight_val HO.out HR.out).mono ?_;rintro e w3 ⟨rfl,rfl⟩);go_ret;exact ⟨_,rfl,HO.out,fun W hx hW=>hx⟩
theorem deepTo_last {fs:List Frag} {k:Nat} {f:Frag} (h:fs[k]?=some f) (hn:fs[k+1]?=none):deepTo fs (k+1)=(deeper (deepTo fs k).1 f.d (leftW (deepTo fs k).2 f.al),leftW (deepTo fs k).2 f.al):=by
 show (match fs[k]? with|none=>deepTo fs k|some f=>_)=_
 rw [h];simp only [hn,if_true]
theorem deepTo_step {fs:List Frag} {k:Nat} {f g:Frag} (h:fs[k]?=some f) (hn:fs[k+1]?=some g) (hl:f.d<g.d):deepTo fs (k+1)=(deeper (deepTo fs k).1 f.d (leftW (deepTo fs k).2 f.al),leftW (deepTo fs k).2 f.al):=by
 show (match fs[k]? with|none=>deepTo fs k|some f=>_)=_
 rw [h];simp only [hn,hl,decide_true,if_true]
theorem deepTo_keep {fs:List Frag} {k:Nat} {f g:Frag} (h:fs[k]?=some f) (hn:fs[k+1]?=some g) (hl : ¬f.d<g.d):deepTo fs (k+1)=((deepTo fs k).1,leftW (deepTo fs k).2 f.al):=by
 show (match fs[k]? with|none=>deepTo fs k|some f=>_)=_
 rw [h];simp only [hn,hl,decide_false,Bool.false_eq_true,if_false]
theorem Stp.sm {fs:List Frag} (hs:SortF fs) (hr:∀f∈fs,-1000000≤f.d∧f.d≤1000000) {k:Nat} (hk:k≤fs.length):(deepTo fs k).1.length≤64∧0≤(deepTo fs k).2∧(deepTo fs k).2≤65536:=by
 obtain ⟨a,b,-,-⟩:=deepTo_inv hs hr k hk;exact ⟨a.len,b.1,Int.le_trans b.2 (lastW_le a).1⟩
theorem deepOf_any {lo:Nat} {fs:List Frag} {v:Value} {w:World} (h:OwnG Frag.cs lo 47 5 w v fs) (hs:SortF fs) (hr:∀f∈fs,-1000000≤f.d∧f.d≤1000000) :
  Calls Tryz.prog 110 #[v] w fun e w'=>∃r,e = .returned r∧OwnG Stp.cs w.heap.size 251 2 w' r (deepF fs)∧Ext w w':=by
 have HO:=hid h;have HS:=hid (fun k (hk:k≤fs.length)=>Stp.sm hs hr hk);obtain ⟨a,cap,rfl,-⟩:=h.form;have hL:=Blk.new w 251 [];have HL:=hid hL;clear h hs hr hL;go_enter Tryz.func110,Tryz.ntmps110;go_wp2_with fail
 go_loopw [3,4,10] (fun u t x wr=>∃k:Nat,k≤fs.length∧x = .int .i64 (k:Nat)∧t = .int .i64 (deepTo fs k).2∧OwnG Stp.cs w.heap.size 251 2 wr u (deepTo fs k).1∧Ext w wr) (fun _ _ x _=>fs.length - (intOf x).toNat)
 case atStart=>exact ⟨0,by omega,rfl,rfl,OwnG.freshS (Nat.le_refl _) HL.out,X_⟩
 case round=>
  clear HL;obtain ⟨k,hk,rfl,rfl,hu,hx⟩:=hrel;obtain ⟨b1,b2,b3⟩:=HS.out k hk
  obtain ⟨X,hX⟩:∃X,(deepTo fs k).1=X:=⟨_,rfl⟩
  obtain ⟨t,ht⟩:∃t,(deepTo fs k).2=t:=⟨_,rfl⟩
  rw [hX] at hu b1;rw [ht] at b2 b3;rw [ht];have HX:=hid hX;have HT:=hid ht;have HU:=hid hu;have HE:=hid hx;obtain ⟨ua,uc,rfl,-⟩:=OwnG.form hu
  rcases Nat.lt_or_ge k fs.length with hlt|hge
  ·obtain ⟨f,hf⟩:∃f,fs[k]?=some f:=⟨_,List.getElem?_eq_getElem hlt⟩
   obtain ⟨g,cap',he,-,glt,gcap,gcm,-,hcell⟩:=OwnG.at (OwnG.ext HO.out hx) (fun _=>rfl) hf;simp only [Value.slice.injEq,true_and] at he;obtain ⟨rfl,rfl⟩:=he;have c0:=hcell 0 (by decide);have c1:=hcell 1 (by decide);have c2:=hcell 2 (by decide);have c3:=hcell 3 (by decide);have c4:=hcell 4 (by decide);simp only [Frag.cs,Nat.add_zero,List.getElem?_cons_zero,List.getElem?_cons_succ] at c0 c1 c2 c3 c4;have HF:=hid hf
   obtain ⟨ca,hca⟩:∃n,clampI f.al 0 256=n:=⟨_,rfl⟩
   have ba:=clamp256 f.al;rw [hca] at ba
   obtain ⟨p,hp⟩:∃n,t*ca=n:=⟨_,rfl⟩
   have bp:0≤p∧p≤t*256:=hp▸⟨Int.mul_nonneg b2 ba.1,Int.mul_le_mul_of_nonneg_left ba.2 b2⟩
   obtain ⟨q,hq⟩:∃n,p / 256=n:=⟨_,rfl⟩
   have bq:0≤q∧q≤t:=by omega
   have hw:leftW (deepTo fs k).2 f.al=t - q:=by
    unfold leftW;rw [ht,hca,hp,hq]
   have HW:=hid hw;have HA:=hid hca
   have i1 : -9223372036854775808≤p∧p≤9223372036854775807:=by omega
   have zw:=hx.size;have hU2:=hid (fun W' (x:Ext wr W')=>OwnG.ext HU.out x);clear hf hcell hca hu hx hX ht hw HS
   obtain ⟨wt,hwt⟩:∃n,t - q=n:=⟨_,rfl⟩
   have bw:0≤wt∧wt≤65536:=by omega
   have xb:Ext wr (wr.alloc (.cells #[.int .i64 f.d,.int .i64 f.s,.int .i64 f.c,.int .i64 f.col,.int .i64 f.al] 47)):=X_;have XB:=hid xb;clear xb
   rcases Nat.lt_or_ge (k+1) fs.length with hlt2|hge2
   ·obtain ⟨f2,hf2⟩:∃f,fs[k+1]?=some f:=⟨_,List.getElem?_eq_getElem hlt2⟩
    obtain ⟨g2,cap2,he2,-,-,-,-,-,hcell2⟩:=OwnG.at (OwnG.ext HO.out HE.out) (fun _=>rfl) hf2;simp only [Value.slice.injEq,true_and,Option.some.injEq,Addr.mk.injEq,and_true] at he2;obtain ⟨rfl,rfl⟩:=he2;have d0:=hcell2 0 (by decide);simp only [Frag.cs,Nat.add_zero,List.getElem?_cons_zero,List.getElem?_cons_succ] at d0;have HF2:=hid hf2
    have hne:(((k:Nat):Int)+1==((fs.length:Nat):Int))=false:=by simp;omega
    clear hcell2 hf2
    by_cases hd:f.d<f2.d
    ·have hs1:=deepTo_step HF.out HF2.out hd
     rw [HX.out,HW.out,hwt] at hs1;have HS1:=hid hs1;clear hs1;go_wp2_with (go_at_call 46;refine (iClamp_val HA.out _).mono ?_;rintro e w3 ⟨rfl,rfl⟩)
     go_quiet (fail)
     go_wp2_with fail;refine (deeper_any (HU.out.ext (XB.out.trans X_)) f.d wt (Ext.size (HE.out.trans (XB.out.trans X_))) b1).mono ?_;rintro e w4 ⟨v4,rfl,o4,fr4⟩;have X4:=hid (fr4 w (HE.out.trans (XB.out.trans X_)) (Nat.le_refl _));have O4:=hid o4;obtain ⟨va,vc,rfl,-⟩:=OwnG.form o4;clear o4 fr4;go_wp2;go_roundw
     case rel=>
      refine ⟨k+1,by omega,by go_num,by rw [HS1.out],?_,X4.out⟩;rw [HS1.out];exact O4.out
     case measure=>simp [intOf];omega
    ·have hs1:=deepTo_keep HF.out HF2.out hd
     rw [HX.out,HW.out,hwt] at hs1;have HS1:=hid hs1;clear hs1;go_wp2_with (go_at_call 46;refine (iClamp_val HA.out _).mono ?_;rintro e w3 ⟨rfl,rfl⟩)
     go_quiet (fail)
     go_wp2;go_roundw
     case rel=>
      refine ⟨k+1,by omega,by go_num,by rw [HS1.out],?_,Ext.trans HE.out (XB.out.trans X_)⟩;rw [HS1.out];exact HU.out.ext (XB.out.trans X_)
     case measure=>simp [intOf];omega
   ·have hn2:fs[k+1]?=none:=List.getElem?_eq_none (by omega)
    have hs1:=deepTo_last HF.out hn2;rw [HX.out,HW.out,hwt] at hs1;have HS1:=hid hs1
    have hne:((k:Nat):Int)+1=((fs.length:Nat):Int):=by omega
    clear hs1 hn2;go_wp2_with (go_at_call 46;refine (iClamp_val HA.out _).mono ?_;rintro e w3 ⟨rfl,rfl⟩)
    go_quiet (fail)
    go_wp2_with fail;refine (deeper_any (HU.out.ext (XB.out.trans X_)) f.d wt (Ext.size (HE.out.trans (XB.out.trans X_))) b1).mono ?_;rintro e w4 ⟨v4,rfl,o4,fr4⟩;have X4:=hid (fr4 w (HE.out.trans (XB.out.trans X_)) (Nat.le_refl _));have O4:=hid o4;obtain ⟨va,vc,rfl,-⟩:=OwnG.form o4;clear o4 fr4;go_wp2;go_roundw
    case rel=>
     refine ⟨k+1,by omega,by go_num,by rw [HS1.out],?_,X4.out⟩;rw [HS1.out];exact O4.out
    case measure=>simp [intOf];omega
  ·obtain rfl:k=fs.length:=by omega
   have HF:=hid (show X=deepF fs by rw [←HX.out];rfl);clear hu hx hX ht;go_wp2;go_ret;exact ⟨_,rfl,HF.out▸HU.out,HE.out⟩
theorem isValidDeep_yes {lo:Nat} {l:List Stp} {v:Value} {w:World} (h:OwnG Stp.cs lo 251 2 w v l) (ho:StpOk l) :
  Calls Tryz.prog 104 #[v] w fun e w'=>e = .returned (.bool true)∧Ext w w':=by
 have HO:=hid h;have HK:=hid ho;have hl:=ho.len;obtain ⟨a,cap,rfl,-⟩:=h.form;clear h ho;go_enter Tryz.func104,Tryz.ntmps104;go_wp2_with fail
 go_loopw [10] (fun x wr=>∃k:Nat,k≤l.length∧x = .int .i64 (k:Nat)∧Ext w wr) (fun x _=>l.length - (intOf x).toNat)
 case atStart=>exact ⟨0,by omega,rfl,Ext.refl _⟩
 case round=>
  obtain ⟨k,hk,rfl,hx⟩:=hrel;have HX:=hid hx
  rcases Nat.lt_or_ge k l.length with hlt|hge
  ·obtain ⟨f,hf⟩:∃f,l[k]?=some f:=⟨_,List.getElem?_eq_getElem hlt⟩
   obtain ⟨g,cap',he,-,glt,gcap,gcm,-,hcell⟩:=OwnG.at (OwnG.ext HO.out hx) (fun _=>rfl) hf;simp only [Value.slice.injEq,true_and] at he;obtain ⟨rfl,rfl⟩:=he;have c0:=hcell 0 (by decide);have c1:=hcell 1 (by decide);simp only [Stp.cs,Nat.add_zero,List.getElem?_cons_zero,List.getElem?_cons_succ] at c0 c1;obtain ⟨q1,q2⟩:=HK.out.bd f (List.mem_of_getElem? hf);have I1:=hid (inB_iff.2 q1);have I2:=hid (inB_iff.2 q2);have x1:Ext w (wr.alloc (.cells #[.int .i64 f.d,.int .i64 f.w] 251)):=hx.trans X_;have X1:=hid x1
   rcases Nat.eq_zero_or_pos k with h0|hp
   ·subst h0
    clear hx hcell hf x1;go_wp2_with (go_at_call 54;with_reducible first|(refine (within_val I1.out _).mono ?_;rintro e w1 ⟨rfl,rfl⟩)|(refine (within_val I2.out _).mono ?_;rintro e w1 ⟨rfl,rfl⟩))
    go_quiet (fail)
    go_wp2;go_roundw
    case rel=>exact ⟨1,by omega,by go_num,Ext.trans X1.out X_⟩
    case measure=>simp [intOf];omega
   ·obtain ⟨m,rfl⟩:∃m,k=m+1:=⟨k - 1,by omega⟩
    obtain ⟨f0,hf0⟩:∃f,l[m]?=some f:=⟨_,List.getElem?_eq_getElem (by omega)⟩
    obtain ⟨g2,cap2,he2,-,-,-,-,-,hcell2⟩:=OwnG.at (OwnG.ext HO.out hx) (fun _=>rfl) hf0;simp only [Value.slice.injEq,true_and,Option.some.injEq,Addr.mk.injEq,and_true] at he2;obtain ⟨rfl,rfl⟩:=he2;have d0:=hcell2 0 (by decide);have d1:=hcell2 1 (by decide);simp only [Stp.cs,Nat.add_zero,List.getElem?_cons_zero,List.getElem?_cons_succ] at d0 d1
    have e1:((m+1:Nat):Int) - 1=(m:Nat):=by omega
    have hlm:m<l.length:=by omega
    have e3:IntKind.i64.wrap ((m:Nat):Int)=((m:Nat):Int):=IntWalk.i64_in _ (by omega)
    have hlt2:f0.d<f.d∧f.w<f0.w:=by
     have h:=List.pairwise_iff_getElem.1 HK.out.sort m (m+1) (by omega) hlt (by omega);rw [(List.getElem?_eq_some_iff.1 hf).2,(List.getElem?_eq_some_iff.1 hf0).2] at h;exact h
    have r1 : ¬f.d≤f0.d:=by omega
    have r2 : ¬f0.w≤f.w:=by omega
    clear hx hcell hcell2 hf hf0 x1;go_wp2_with (go_at_call 54;with_reducible first|(refine (within_val I1.out _).mono ?_;rintro e w1 ⟨rfl,rfl⟩)|(refine (within_val I2.out _).mono ?_;rintro e w1 ⟨rfl,rfl⟩))
    go_quiet (fail)
    go_wp2;go_roundw
    case rel=>exact ⟨m+1+1,by omega,by go_num,Ext.trans X1.out X_⟩
    case measure=>simp [intOf];omega
  ·go_wp2
   go_ret;exact ⟨rfl,HX.out⟩
theorem before_val (d z:Int) (B:Nat) (w:World) (hc:w.cell? ⟨B,0,none⟩=some (.int .i64 z)) {b:Bool} (hb:decide (d<z)=b) :
  Calls Tryz.prog 106 #[.int .i64 d,.pointer (some ⟨B,0,none⟩)] w fun e w'=>e = .returned (.bool b)∧w=w':=by
 subst hb;go_enter Tryz.func106,Tryz.ntmps106;go_wp2;go_ret;exact ⟨rfl,rfl⟩
theorem transW_take {l:List Stp} {k:Nat} {f:Stp} (h:l[k]?=some f) (z:Int):transW 65536 (l.take (k+1)) z=if f.d<z then f.w else transW 65536 (l.take k) z:=by
 obtain ⟨hk,rfl⟩:=List.getElem?_eq_some_iff.1 h;unfold transW;rw [List.take_succ_eq_append_getElem hk,List.foldl_append]
 rfl
theorem transmittance_any {lo:Nat} {l:List Stp} {v:Value} {w:World} (h:OwnG Stp.cs lo 251 2 w v l) (z:Int) (B:Nat) (hB:B<w.heap.size) (hc:w.cell? ⟨B,0,none⟩=some (.int .i64 z)) :
  Calls Tryz.prog 105 #[v,.func (.func 106) #[] #[.pointer (some ⟨B,0,none⟩)]] w fun e w'=>e = .returned (.int .i64 (transL l z))∧Ext w w':=by
 have HO:=hid h;have HC:=hid hc;obtain ⟨a,cap,rfl,-⟩:=h.form;clear h hc;go_enter Tryz.func105,Tryz.ntmps105;go_wp2_with fail
 go_loopw [5,10] (fun t x wr=>∃k:Nat,k≤l.length∧x = .int .i64 (k:Nat)∧t = .int .i64 (transW 65536 (l.take k) z)∧Ext w wr) (fun _ x _=>l.length - (intOf x).toNat)
 case atStart=>exact ⟨0,by omega,rfl,rfl,Ext.refl _⟩
 case round=>
  obtain ⟨k,hk,rfl,rfl,hx⟩:=hrel;have HX:=hid hx
  obtain ⟨t,ht⟩:∃t,transW 65536 (l.take k) z=t:=⟨_,rfl⟩
  rw [ht];have HT:=hid ht
  rcases Nat.lt_or_ge k l.length with hlt|hge
  ·obtain ⟨f,hf⟩:∃f,l[k]?=some f:=⟨_,List.getElem?_eq_getElem hlt⟩
   obtain ⟨g,cap',he,-,glt,gcap,gcm,-,hcell⟩:=OwnG.at (OwnG.ext HO.out hx) (fun _=>rfl) hf;simp only [Value.slice.injEq,true_and] at he;obtain ⟨rfl,rfl⟩:=he;have c0:=hcell 0 (by decide);have c1:=hcell 1 (by decide);simp only [Stp.cs,Nat.add_zero,List.getElem?_cons_zero,List.getElem?_cons_succ] at c0 c1;have x1:Ext w (wr.alloc (.cells #[.int .i64 f.d,.int .i64 f.w] 251)):=hx.trans X_;have X1:=hid x1;have cB:(wr.alloc (.cells #[.int .i64 f.d,.int .i64 f.w] 251)).cell? ⟨B,0,none⟩=some (.int .i64 z):=(x1.cells.1 B _ hB).trans HC.out;have CB:=hid cB;have hs:=transW_take hf z;rw [ht] at hs
   by_cases hd:f.d<z
   ·rw [if_pos hd] at hs
    have HS:=hid hs;have HD:=hid (show decide (f.d<z)=true from decide_eq_true hd);clear hx hcell hf x1 cB hs ht;go_wp2_with fail;refine (before_val f.d z B _ CB.out HD.out).mono ?_;rintro e w1 ⟨rfl,rfl⟩;go_wp2;go_roundw
    case rel=>exact ⟨k+1,by omega,by go_num,by rw [HS.out],X1.out⟩
    case measure=>simp [intOf];omega
   ·rw [if_neg hd] at hs
    have HS:=hid hs;have HD:=hid (show decide (f.d<z)=false from decide_eq_false hd);clear hx hcell hf x1 cB hs ht;go_wp2_with fail;refine (before_val f.d z B _ CB.out HD.out).mono ?_;rintro e w1 ⟨rfl,rfl⟩;go_wp2;go_roundw
    case rel=>exact ⟨k+1,by omega,by go_num,by rw [HS.out],X1.out⟩
    case measure=>simp [intOf];omega
  ·obtain rfl:k=l.length:=by omega
   have hf:t=transL l z:=by rw [←ht,List.take_length];rfl
   have HF:=hid hf;clear hx ht hf;go_wp2;go_ret;exact ⟨ret_int HF.out,HX.out⟩
theorem iTransmittance_any {lo:Nat} {l:List Stp} {v:Value} {w:World} (h:OwnG Stp.cs lo 251 2 w v l) (ho:StpOk l) (z:Int) :
  Calls Tryz.prog 48 #[v,.int .i64 z] w fun e w'=>e = .returned (.int .i64 (transL l z))∧Ext w w':=by
 have hmf:∀(fn:Fn) (first cap:Array Value) (w:World),(Instr.makeFunc fn first cap).run Tryz.prog w = .ok (.func fn first cap) w:=fun _ _ _ _=>rfl;have HO:=hid h;have HK:=hid ho;obtain ⟨a,cap,rfl,-⟩:=h.form;have bZ:=Blk.new w 3 [.int .i64 z];have HZ:=hid bZ;clear h ho bZ;go_enter Tryz.func48,Tryz.ntmps48;go_wp2_with fail;refine (isValidDeep_yes (HO.out.ext X_) HK.out).mono ?_;rintro e w1 ⟨rfl,x1⟩;have X1:=hid (Ext.trans (w:=w) X_ x1);have Z1:=hid (HZ.out.ext x1);clear x1;go_wp2_with fail;refine (transmittance_any (HO.out.ext X1.out) z w.heap.size Z1.out.lt (Z1.out.cell 0 rfl)).mono ?_;rintro e w2 ⟨rfl,x2⟩;have X2:=hid (X1.out.trans x2);clear x2;go_wp2;go_ret;exact ⟨rfl,X2.out⟩
theorem filt_yes {fs:List Frag} {k:Nat} {f:Frag} {P:Frag→Bool} (h:fs[k]?=some f) (hp:P f=true):insAll [] ((fs.take (k+1)).filter P)=insF f (insAll [] ((fs.take k).filter P)):=by
 obtain ⟨hk,rfl⟩:=List.getElem?_eq_some_iff.1 h;rw [List.take_succ_eq_append_getElem hk,List.filter_append,insAll_append,List.filter_cons_of_pos hp]
 rfl
theorem filt_no {fs:List Frag} {k:Nat} {f:Frag} {P:Frag→Bool} (h:fs[k]?=some f) (hp:P f=false):insAll [] ((fs.take (k+1)).filter P)=insAll [] ((fs.take k).filter P):=by
 obtain ⟨hk,rfl⟩:=List.getElem?_eq_some_iff.1 h;rw [List.take_succ_eq_append_getElem hk,List.filter_append,List.filter_cons_of_neg (by rw [hp];decide),List.filter_nil,List.append_nil]
theorem filt_le {fs:List Frag} {k:Nat} {P:Frag→Bool}:(insAll [] ((fs.take k).filter P)).length≤fs.length:=by
 rw [insAll_length];have:=List.length_filter_le P (fs.take k);have:=List.length_take_le k fs;rw [List.length_take] at *;simp only [List.length_nil];omega
theorem DeepOf_any {lo:Nat} {fs:List Frag} {v:Value} {w:World} (h:OwnG Frag.cs lo 47 5 w v fs) (hl:fs.length≤100000) :
  Calls Tryz.prog 52 #[v] w fun e w'=>∃r,e = .returned r∧OwnG Stp.cs w.heap.size 251 2 w' r (deepL fs)∧Ext w w':=by
 have HO:=hid h;obtain ⟨a,cap,rfl,-⟩:=h.form;clear h;go_enter Tryz.func52,Tryz.ntmps52;go_wp2_with fail;refine (iFragments_any _).mono ?_;rintro e w1 ⟨rfl,o1,x1⟩;have HO1:=hid o1;have HX1:=hid x1;clear o1 x1;go_wp2_with fail
 go_loopw [9] (fun x wr=>∃(k:Nat) (vv:Value),k≤fs.length∧x = .int .i64 (k:Nat)∧OrdF w.heap.size wr w.heap.size (insAll [] ((fs.take k).filter fun f=>inB f.d (-1000000) 1000000)) vv∧Ext w wr) (fun x _=>fs.length - (intOf x).toNat)
 case atStart=>exact ⟨0,_,by omega,rfl,HO1.out,HX1.out⟩
 case round=>
  clear HO1 HX1;obtain ⟨k,vv,hk,rfl,ho,hx⟩:=hrel;have HR:=hid ho;have HX:=hid hx;have zr:=ho.box.lt
  rcases Nat.lt_or_ge k fs.length with hlt|hge
  ·obtain ⟨f,hf⟩:∃f,fs[k]?=some f:=⟨_,List.getElem?_eq_getElem hlt⟩
   obtain ⟨g,cap',he,-,glt,gcap,gcm,-,hcell⟩:=OwnG.at (OwnG.ext HO.out hx) (fun _=>rfl) hf;simp only [Value.slice.injEq,true_and] at he;obtain ⟨rfl,rfl⟩:=he;have c0:=hcell 0 (by decide);have c1:=hcell 1 (by decide);have c2:=hcell 2 (by decide);have c3:=hcell 3 (by decide);have c4:=hcell 4 (by decide);simp only [Frag.cs,Nat.add_zero,List.getElem?_cons_zero,List.getElem?_cons_succ] at c0 c1 c2 c3 c4;have xb:Ext wr (wr.alloc (.cells #[.int .i64 f.d,.int .i64 f.s,.int .i64 f.c,.int .i64 f.col,.int .i64 f.al] 47)):=X_;have XB:=hid xb
   obtain ⟨b,hb⟩:∃b,inB f.d (-1000000) 1000000=b:=⟨_,rfl⟩
   have HB:=hid hb;have hle:=filt_le (fs:=fs) (k:=k) (P:=fun f=>inB f.d (-1000000) 1000000);have HF:=hid hf
   obtain ⟨F,hF⟩:∃F,insAll [] ((fs.take k).filter fun f=>inB f.d (-1000000) 1000000)=F:=⟨_,rfl⟩
   rw [hF] at ho hle;have HFF:=hid hF;have HR:=hid ho
   cases b
   ·have hs:=filt_no (P:=fun f=>inB f.d (-1000000) 1000000) hf hb
    rw [hF] at hs;have HS:=hid hs;clear hf hcell ho hx xb hb hF hs;go_wp2_with (go_at_call 54;refine (within_val HB.out _).mono ?_;rintro e w3 ⟨rfl,rfl⟩);go_roundw
    case rel=>exact ⟨k+1,vv,by omega,by go_num,by rw [HS.out];exact HR.out.ext XB.out,HX.out.trans XB.out⟩
    case measure=>simp [intOf];omega
   ·have hs:=filt_yes (P:=fun f=>inB f.d (-1000000) 1000000) hf hb
    rw [hF] at hs;have HS:=hid hs
    have hl2:F.length≤100000:=by omega
    have HL2:=hid hl2;clear hf hcell ho hx xb hb hF hs hl2;go_wp2_with fail;refine (within_val HB.out _).mono ?_;rintro e w3 ⟨rfl,rfl⟩;go_wp2_with fail;refine (iInsert_any (HR.out.ext XB.out) f HL2.out).mono ?_;rintro e w3 ⟨v3,rfl,o3,k3,-,-⟩;have P1:=hid o3;have P2:Hid (Ext w w3):=hid (k3.up (HX.out.trans XB.out) (Nat.le_refl _));clear o3 k3;go_wp2;go_roundw
    case rel=>exact ⟨k+1,v3,by omega,by go_num,by rw [HS.out];exact P1.out,P2.out⟩
    case measure=>simp [intOf];omega
  ·obtain rfl:k=fs.length:=by omega
   have c0:=HR.out.box.cell 0 rfl
   obtain ⟨F,hF⟩:∃F,deepR fs=F:=⟨_,rfl⟩
   have ho2:OrdF w.heap.size wr w.heap.size F vv:=by
    rw [←hF];have:=HR.out;rw [List.take_length] at this;exact this
   have HS:=hid (show SortF F from hF▸deepR_sort fs);have HM:=hid (show ∀f∈F,-1000000≤f.d∧f.d≤1000000 from fun f hf=>(deepR_mem f (hF▸hf)).2);have HO2:=hid ho2;obtain ⟨oa,oc,rfl,-⟩:=ho2.row.form;have HD:=hid (show deepF F=deepL fs by rw [←hF];rfl);clear ho hx ho2 hF HR;go_wp2_with fail;refine (deepOf_any HO2.out.row HS.out HM.out).mono ?_;rintro e w3 ⟨r,rfl,hr,x3⟩;obtain ⟨ra,rc,rfl,-⟩:=hr.form;have HR:=hid hr;have X3:=hid (HX.out.trans x3);have zz:=HX.out.size;clear hr x3;go_wp2;go_ret;exact ⟨_,rfl,HD.out▸OwnG.low HR.out (by omega),X3.out⟩
def Shds (s:Scn) (lo:Nat) (w:World) (v:Value) (j:Nat):Prop:=∃us:List (Value×Value),us.length=j∧OwnG pairCs lo 92 2 w v us∧∀k u,us[k]?=some u→OwnInts lo w u.1 (s.shade k).1∧OwnInts lo w u.2 (s.shade k).2
theorem Shds.ext {s:Scn} {lo j:Nat} {w w':World} {v:Value} (h:Shds s lo w v j) (x:Ext w w'):Shds s lo w' v j:=by
 obtain ⟨us,h1,h2,h3⟩:=h;exact ⟨us,h1,h2.ext x,fun k u hu=>⟨(h3 k u hu).1.ext x,(h3 k u hu).2.ext x⟩⟩
theorem Shds.low {s:Scn} {lo lo' j:Nat} {w:World} {v:Value} (h:Shds s lo w v j) (hl:lo'≤lo):Shds s lo' w v j:=by
 obtain ⟨us,h1,h2,h3⟩:=h;exact ⟨us,h1,h2.low hl,fun k u hu=>⟨(h3 k u hu).1.low hl,(h3 k u hu).2.low hl⟩⟩
theorem OwnInts.grownS {lo lo':Nat} {w w':World} {v r:Value} {xs:List Int} {us:List (Value×Value)} (h:OwnInts lo w r xs) (ho:OwnG pairCs lo' 92 2 w v us) (hg:w.grownBy w' v.ownBlock):OwnInts lo w' r xs:=
 h.grown hg fun k hk e=>by
  obtain ⟨c,hc⟩:=h.block hk;obtain ⟨_,c',hc'⟩:=OwnG.rowF ho k e.symm;rw [hc] at hc';simp only [Option.some.injEq,Obj.cells.injEq] at hc';exact absurd hc'.2.1 (by decide)
theorem Shds.push {s:Scn} {lo j:Nat} {w w':World} {v v' r1 r2:Value} {us:List (Value×Value)} (h1:us.length=j) (h2:OwnG pairCs lo 92 2 w v us) (h3:∀k u,us[k]?=some u→OwnInts lo w u.1 (s.shade k).1∧OwnInts lo w u.2 (s.shade k).2)
  (hr1:OwnInts lo w r1 (s.shade j).1) (hr2:OwnInts lo w r2 (s.shade j).2) (hg:w.grownBy w' v.ownBlock) (hown:OwnG pairCs lo 92 2 w' v' (us++[(r1,r2)])):Shds s lo w' v' (j+1):=by
 refine ⟨us++[(r1,r2)],by simp [h1],hown,fun k u hu=>?_⟩
 rcases Nat.lt_or_ge k us.length with hk|hk
 ·rw [List.getElem?_append_left hk] at hu
  exact ⟨(h3 k u hu).1.grownS h2 hg,(h3 k u hu).2.grownS h2 hg⟩
 ·rw [List.getElem?_append_right hk] at hu
  have hk0:k - us.length=0:=by
   have:=(List.getElem?_eq_some_iff.1 hu).1;simp at this;omega
  rw [hk0] at hu
  obtain rfl:(r1,r2)=u:=by simpa using hu
  obtain rfl:k=j:=by omega
  exact ⟨hr1.grownS h2 hg,hr2.grownS h2 hg⟩
theorem info_ShdT:(Tryz.prog.info? 92).map (fun i=>(i.zero,i.size,i.bytes))=some (some (.agg #[.slice none 0 0,.slice none 0 0]),2,48):=by kernel_rfl
theorem OwnG.empty {α : Type} (cs : α→List Value) {lo sz g:Nat} {e:TypeId} {w:World} (hl:lo≤g) (hg:w.heap[g]?=some (.cells #[] e (0,0))):OwnG cs lo e sz w (.slice (some ⟨g,0,none⟩) 0 0) []:=
 ⟨by simp,.inr ⟨g,0,#[],rfl,hl,hg,Nat.le_refl _,by unfold maxLen;omega,by simp,by simp⟩⟩
theorem iShadeAll_any (s:Scn) (lo hi:Nat) (v:Value) (w:World) (hv:s.R lo hi w v) (hh:hi≤w.heap.size) (ho:s.Ok) (hsm:s.small) :
  Calls Tryz.prog 44 #[v] w fun e w'=>∃r,e = .returned r∧Shds s w.heap.size w' r s.m∧Ext w w':=by
 have HV:=hid hv;have hm5:=ho.m;obtain ⟨a1,c1,a2,c2,a3,c3,rfl⟩:=hv.formV;have HSM:=hid hsm;have HO:=hid ho;have x0:Ext w (w.alloc (.cells #[.int .i64 s.c.w,.int .i64 s.c.h,.int .i64 s.c.zoom,.int .i64 s.c.near,.bool s.c.deep,.int .i64 s.c.lens,.int .i64 s.c.focus,.int .i64 s.t.log,.slice a1 s.t.px.length c1,.slice a2 s.ps.length c2,.slice a3 s.m c3,.int .i64 s.side] 31)):=X_;have bS:=Blk.new w 31 [.int .i64 s.c.w,.int .i64 s.c.h,.int .i64 s.c.zoom,.int .i64 s.c.near,.bool s.c.deep,.int .i64 s.c.lens,.int .i64 s.c.focus,.int .i64 s.t.log,.slice a1 s.t.px.length c1,.slice a2 s.ps.length c2,.slice a3 s.m c3,.int .i64 s.side]
 obtain ⟨W0,hW0⟩:∃W0,w.alloc (.cells #[.int .i64 s.c.w,.int .i64 s.c.h,.int .i64 s.c.zoom,.int .i64 s.c.near,.bool s.c.deep,.int .i64 s.c.lens,.int .i64 s.c.focus,.int .i64 s.t.log,.slice a1 s.t.px.length c1,.slice a2 s.ps.length c2,.slice a3 s.m c3,.int .i64 s.side] 31)=W0:=⟨_,rfl⟩
 have bS:Blk W0 w.heap.size 31 [.int .i64 s.c.w,.int .i64 s.c.h,.int .i64 s.c.zoom,.int .i64 s.c.near,.bool s.c.deep,.int .i64 s.c.lens,.int .i64 s.c.focus,.int .i64 s.t.log,.slice a1 s.t.px.length c1,.slice a2 s.ps.length c2,.slice a3 s.m c3,.int .i64 s.side]:=hW0▸bS;rw [hW0] at x0;have HX0:=hid x0;have HS0:=hid bS;have HW0:=hid hW0;have z0:w.heap.size<W0.heap.size:=bS.lt;have s0:=Shds.ext (j:=0) (s:=s) (lo:=W0.heap.size) (v:=.slice (some ⟨W0.heap.size,0,none⟩) 0 0) ⟨[],rfl,OwnG.empty pairCs (Nat.le_refl _) (Blk.new W0 92 []),fun k u hu=>by simp at hu⟩ (Ext.refl _);have S0:=hid s0;clear hv ho hsm x0 bS hW0 s0;go_enter Tryz.func44,Tryz.ntmps44;go_upto_region 1 with fail;rw [HW0.out];have c10:=HS0.out.cell 10 rfl;go_wp2_with fail;clear c10
 go_loopw [3,9] (fun r i wr=>∃k:Nat,k≤s.m∧i = .int .i64 (k:Nat)∧Shds s W0.heap.size wr r k∧Ext W0 wr) (fun _ i _=>s.m - (intOf i).toNat)
 case atStart=>exact ⟨0,by omega,rfl,S0.out,X_⟩
 case round=>
  obtain ⟨k,hk,rfl,hs,hx⟩:=hrel;have HX:=hid hx;have HS:=hid hs
  rcases Nat.lt_or_ge k s.m with hlt|hge
  ·have b1:=HS0.out.ext hx
   obtain ⟨c0,c1,c2,c3,c4,c5,c6,c7,c8,c9,c10,c11⟩:=b1.q12;have zr:=HX.out.size;clear b1 hx hs;go_wp2_with fail;refine (iShade_any s lo hi _ k _ (HV.out.ext hh (HX0.out.trans HX.out)) (Nat.le_trans hh (HX0.out.trans HX.out).size) HO.out HSM.out hlt).mono ?_;rintro e w1 ⟨r1,r2,rfl,h,h1,h2,i1,i2,x1⟩;obtain ⟨us,u1,u2,u3⟩:=HS.out.ext x1;obtain ⟨ra,rc,rfl,hul⟩:=u2.form;have o1:OwnInts W0.heap.size w1 r1 (s.shade k).1:=i1.1.low (by omega);have o2:OwnInts W0.heap.size w1 r2 (s.shade k).2:=i2.1.low (by omega);obtain ⟨ra1,rc1,rfl,-⟩:=o1.form;obtain ⟨ra2,rc2,rfl,-⟩:=o2.form;have y1:Ext w1 (w1.alloc (.cells #[.slice ra1 (s.shade k).1.length rc1,.slice ra2 (s.shade k).2.length rc2] 92)):=X_;have B1:=Blk.new w1 92 [.slice ra1 (s.shade k).1.length rc1,.slice ra2 (s.shade k).2.length rc2];have zw:=x1.size;have HX1:=hid (HX.out.trans (x1.trans y1));have HU:=hid (u2.ext y1);have HU3:=hid u3;have HUL:=hid u1;have O1:=hid (o1.ext y1);have O2:=hid (o2.ext y1);have Y1:=hid y1;have HB1:=hid B1
   have hu5:us.length<1000000:=by omega
   clear u1 u2 u3 o1 o2 i1 i2 x1 y1 B1 c0 c1 c2 c3 c4 c5 c6 c7 c8 c9 c10 c11 HS
   go_wp2_with (refine wpList_append_elt pairCs 92 2 48 _ _ rfl _ _ 96 rfl Tryz.underlying96 info_ShdT rfl (by decide) (by decide) (fun _=>rfl) W0.heap.size (.slice ra us.length rc) us rfl HU.out (.slice ra1 (s.shade k).1.length rc1,.slice ra2 (s.shade k).2.length rc2) w1.heap.size rfl (fun j hj=>(HB1.out.cell j (List.getElem?_eq_getElem hj)).trans (List.getElem?_eq_getElem hj).symm) (fun u hu=>by
    simp only [pairCs,List.mem_cons,List.not_mem_nil,or_false] at hu
    rcases hu with rfl|rfl <;> rfl) hu5 (by rw [World.size_alloc];omega) ?_)
   intro v2 w2 hown hg;have P:=hid (Shds.push HUL.out HU.out (fun k u hu=>⟨(HU3.out k u hu).1.ext Y1.out,(HU3.out k u hu).2.ext Y1.out⟩) O1.out O2.out hg hown);have X2:=hid (HX1.out.grown hg (fun b hb=>(HU.out.lt b hb).1));clear hown hg;go_wp2;go_roundw
   case rel=>exact ⟨k+1,by omega,by go_num,P.out,X2.out⟩
   case measure=>simp [intOf];omega
  ·obtain rfl:k=s.m:=by omega
   have hs2:=hid (hs.low (Nat.le_of_lt z0));have X2:=hid (HX0.out.trans hx);clear hs hx HX HS;go_wp2;go_ret;exact ⟨_,rfl,hs2.out,X2.out⟩
def Scn.allH (s:Scn) (p:Smp):List Frag:=(List.range s.m).flatMap fun k=>s.hits k p
def Scn.seen (s:Scn) (p:Smp):List Frag:=insAll [] (s.allH p)
theorem hitC_le (A B C P:V3) (k c col al:Int):(hitC A B C P k c col al).length≤1:=by
 unfold hitC
 repeat' split
 all_goals simp
theorem cellH_le (c:Cam) (f:Nat→Int) (n:Nat) (s:Smp) (k:Int) (cols als:List Int) (u v:Nat):(cellH c f n s k cols als u v).length≤2:=by
 unfold cellH
 split
 ·rw [List.length_append]
  exact Nat.add_le_add (hitC_le _ _ _ _ _ _ _ _) (hitC_le _ _ _ _ _ _ _ _)
 ·simp
theorem hitsTo_le (c:Cam) (f:Nat→Int) (n:Nat) (s:Smp) (k:Int) (cols als:List Int) (q:Nat):(hitsTo c f n s k cols als q).length≤2*q:=by
 induction q with
 | zero=>simp [hitsTo]
 | succ q ih=>
  rw [hitsTo_succ,List.length_append];have:=cellH_le c f n s k cols als (q % n) (q / n);omega
theorem Scn.Ok.hits_le {s:Scn} (ho:s.Ok) (p:Smp) {k:Nat} (hk:k<s.m):(s.hits k p).length≤128:=by
 obtain ⟨q,n,-,-,h3,h4,h5,-,-⟩:=ho.at hk;unfold Scn.hits hitsL;rw [h3,Int.toNat_natCast];have h1:=hitsTo_le s.c (midP (s.st k) (s.en k) p.t) n p (k:Nat) (s.shade k).1 (s.shade k).2 (n*n);have h2:n*n≤8*8:=Nat.mul_le_mul h5 h5;omega
def Scn.seenTo (s:Scn) (p:Smp) (j:Nat):List Frag:=insAll [] ((List.range j).flatMap fun k=>s.hits k p)
theorem Scn.seenTo_succ (s:Scn) (p:Smp) (j:Nat):s.seenTo p (j+1)=insAll (s.seenTo p j) (s.hits j p):=by
 unfold Scn.seenTo;rw [List.range_succ,List.flatMap_append,insAll_append];simp
theorem Scn.Ok.seenTo_le {s:Scn} (ho:s.Ok) (p:Smp) {j:Nat} (hj:j≤s.m):(s.seenTo p j).length≤128*j:=by
 induction j with
 | zero=>simp [Scn.seenTo,insAll]
 | succ j ih=>
  rw [Scn.seenTo_succ,insAll_length];have:=ho.hits_le p (show j<s.m by omega);have:=ih (by omega);omega
theorem insAll_take {l xs:List Frag} {j:Nat} {f:Frag} (h:xs[j]?=some f):insAll l (xs.take (j+1))=insF f (insAll l (xs.take j)):=by
 obtain ⟨hj,rfl⟩:=List.getElem?_eq_some_iff.1 h;rw [List.take_succ_eq_append_getElem hj,insAll_append]
 rfl
theorem OwnG.keptBlk {α : Type} {cs : α→List Value} {lo sz:Nat} {e:TypeId} {w w':World} {v:Value} {xs:List α} (h:OwnG cs lo e sz w v xs) (s:∀k,v.ownBlock=some k→w'.heap[k]?=w.heap[k]?):OwnG cs lo e sz w' v xs:=by
 refine ⟨h.1,?_⟩
 rcases h.2 with hn|⟨g,cap,cur,hv,hb,hg,r⟩
 ·exact .inl hn
 ·exact .inr ⟨g,cap,cur,hv,hb,(s g (by rw [hv];rfl)).trans hg,r⟩
theorem iSeen_any (s:Scn) (lo lo2 hi:Nat) (v u:Value) (p:Smp) (w:World) (hv:s.R lo hi w v) (hh:hi≤w.heap.size) (ho:s.Ok) (hp:p.okB s.c=true) (hu:Shds s lo2 w u s.m) :
  Calls Tryz.prog 43 #[v,.agg #[.int .i64 p.x,.int .i64 p.y,.int .i64 p.t,.int .i64 p.lx,.int .i64 p.ly],u] w fun e w'=>∃r,e = .returned r∧OwnG Frag.cs w.heap.size 47 5 w' r (s.seen p)∧Ext w w':=by
 have HV:=hid hv;have hm5:=ho.m;obtain ⟨a1,c1,a2,c2,a3,c3,rfl⟩:=hv.formV;have HO:=hid ho;have HP:=hid hp;have HU:=hid hu;obtain ⟨us,hul,hu2,hu3⟩:=hu;obtain ⟨ua,uc,rfl,-⟩:=hu2.form;have HUL:=hid hul;have HU2:=hid hu2;have HU3:=hid hu3;have x0:Ext w ((w.alloc (.cells #[.int .i64 s.c.w,.int .i64 s.c.h,.int .i64 s.c.zoom,.int .i64 s.c.near,.bool s.c.deep,.int .i64 s.c.lens,.int .i64 s.c.focus,.int .i64 s.t.log,.slice a1 s.t.px.length c1,.slice a2 s.ps.length c2,.slice a3 s.m c3,.int .i64 s.side] 31)).alloc (.cells #[.int .i64 p.x,.int .i64 p.y,.int .i64 p.t,.int .i64 p.lx,.int .i64 p.ly] 34)):=X_;have bS:=(Blk.new w 31 [.int .i64 s.c.w,.int .i64 s.c.h,.int .i64 s.c.zoom,.int .i64 s.c.near,.bool s.c.deep,.int .i64 s.c.lens,.int .i64 s.c.focus,.int .i64 s.t.log,.slice a1 s.t.px.length c1,.slice a2 s.ps.length c2,.slice a3 s.m c3,.int .i64 s.side]).ext (show Ext _ ((w.alloc (.cells #[.int .i64 s.c.w,.int .i64 s.c.h,.int .i64 s.c.zoom,.int .i64 s.c.near,.bool s.c.deep,.int .i64 s.c.lens,.int .i64 s.c.focus,.int .i64 s.t.log,.slice a1 s.t.px.length c1,.slice a2 s.ps.length c2,.slice a3 s.m c3,.int .i64 s.side] 31)).alloc (.cells #[.int .i64 p.x,.int .i64 p.y,.int .i64 p.t,.int .i64 p.lx,.int .i64 p.ly] 34)) from X_);have bP:=Blk.new (w.alloc (.cells #[.int .i64 s.c.w,.int .i64 s.c.h,.int .i64 s.c.zoom,.int .i64 s.c.near,.bool s.c.deep,.int .i64 s.c.lens,.int .i64 s.c.focus,.int .i64 s.t.log,.slice a1 s.t.px.length c1,.slice a2 s.ps.length c2,.slice a3 s.m c3,.int .i64 s.side] 31)) 34 [.int .i64 p.x,.int .i64 p.y,.int .i64 p.t,.int .i64 p.lx,.int .i64 p.ly];rw [World.size_alloc] at bP
 obtain ⟨W0,hW0⟩:∃W0,(w.alloc (.cells #[.int .i64 s.c.w,.int .i64 s.c.h,.int .i64 s.c.zoom,.int .i64 s.c.near,.bool s.c.deep,.int .i64 s.c.lens,.int .i64 s.c.focus,.int .i64 s.t.log,.slice a1 s.t.px.length c1,.slice a2 s.ps.length c2,.slice a3 s.m c3,.int .i64 s.side] 31)).alloc (.cells #[.int .i64 p.x,.int .i64 p.y,.int .i64 p.t,.int .i64 p.lx,.int .i64 p.ly] 34)=W0:=⟨_,rfl⟩
 rw [hW0] at x0;have bS:Blk W0 w.heap.size 31 [.int .i64 s.c.w,.int .i64 s.c.h,.int .i64 s.c.zoom,.int .i64 s.c.near,.bool s.c.deep,.int .i64 s.c.lens,.int .i64 s.c.focus,.int .i64 s.t.log,.slice a1 s.t.px.length c1,.slice a2 s.ps.length c2,.slice a3 s.m c3,.int .i64 s.side]:=hW0▸bS;have bP:Blk W0 (w.heap.size+1) 34 [.int .i64 p.x,.int .i64 p.y,.int .i64 p.t,.int .i64 p.lx,.int .i64 p.ly]:=hW0▸bP;have HX0:=hid x0;have HS0:=hid bS;have HP0:=hid bP;have HW0:=hid hW0;have z0:w.heap.size+1<W0.heap.size:=bP.lt;clear hv ho hp hu2 hu3 hul x0 bS bP hW0;go_enter Tryz.func43,Tryz.ntmps43;go_upto_region 1 with fail;rw [HW0.out];go_wp2_with fail;refine (iFragments_any _).mono ?_;rintro e w1 ⟨rfl,o1,x1⟩;have HO1:=hid o1;have HX1:=hid x1;have c10:=(HS0.out.ext x1).cell 10 rfl;have z1:=x1.size;clear o1 x1;go_wp2_with fail;clear c10
 go_loopw [15] (fun i wr=>∃(k:Nat) (vv:Value),k≤s.m∧i = .int .i64 (k:Nat)∧OrdF W0.heap.size wr W0.heap.size (s.seenTo p k) vv∧Ext W0 wr) (fun i _=>s.m - (intOf i).toNat)
 case atStart=>exact ⟨0,_,by omega,rfl,HO1.out,HX1.out⟩
 case round=>
  obtain ⟨WA,rfl⟩:∃W,W=wr:=⟨_,rfl⟩
  obtain ⟨k,vv,hk,rfl,hord,hx⟩:=hrel;have HX:=hid hx;have HR:=hid hord;have zr:=hx.size
  rcases Nat.lt_or_ge k s.m with hlt|hge
  ·have b1:=HS0.out.ext hx
   obtain ⟨c0,c1,c2,c3,c4,c5,c6,c7,c8,c9,c10,c11⟩:=b1.q12;have b2:=HP0.out.ext hx;obtain ⟨d0,d1,d2,d3,d4⟩:=b2.q5;have xw:Ext w WA:=HX0.out.trans hx;have XW:=hid xw
   obtain ⟨y,hy⟩:∃y,us[k]?=some y:=⟨_,List.getElem?_eq_getElem (by have:=HUL.out;omega)⟩
   obtain ⟨y1,y2⟩:=y;obtain ⟨gu,uc',he,-,glt,gcap,gcm,-,hcell⟩:=OwnG.at (OwnG.ext HU2.out xw) (fun _=>rfl) hy;simp only [Value.slice.injEq,true_and] at he;obtain ⟨rfl,rfl⟩:=he;obtain ⟨i1,i2⟩:=HU3.out k _ hy;have j1:OwnInts lo2 WA y1 (s.shade k).1:=i1.ext xw;have j2:OwnInts lo2 WA y2 (s.shade k).2:=i2.ext xw;clear i1 i2;obtain ⟨e1,f1,rfl,-⟩:=j1.form;obtain ⟨e2,f2,rfl,-⟩:=j2.form;have g0:=hcell 0 (by decide);have g1:=hcell 1 (by decide);simp only [pairCs,Nat.add_zero,List.getElem?_cons_zero,List.getElem?_cons_succ] at g0 g1;have I1:=hid j1;have I2:=hid j2;obtain ⟨q,n,-,-,h3,h4,h5,-,-⟩:=HO.out.at hlt;have hlen:=HO.out.shade hlt;rw [h3,Int.toNat_natCast] at hlen;have HLEN:=hid hlen;have HRT:=hid h3;have hul:=HUL.out
   have hulk:((k:Nat):Int)<(us.length:Nat):=by omega
   have hkm:s.m≤5:=hm5;clear b1 b2 hx hord xw hcell hy j1 j2 hlen h3 hul;go_wp2_with fail;refine wp_region_stagesS [([0,1,2,3,4,5,6,9],7),([],8)] 99 (fun w'=>∃d,w'=lowc (C3f w.heap.size (w.heap.size+1) gu) _ d) (by kernel_rfl) (by kernel_rfl) (SC.drew _ _) ?_;refine sc_ fun K hK=>?_;go_wp2_with fail
   have eh:hitsL s.c (midP (s.st k) (s.en k) p.t) n p (k:Nat) (s.shade k).1 (s.shade k).2=s.hits k p:=by unfold Scn.hits;rw [HRT.out,Int.toNat_natCast]
   refine (iHits_any s lo hi _ k p n (s.shade k).1 (s.shade k).2 _ _ _ (HV.out.ext hh (XW.out.trans X_)) (Nat.le_trans hh (XW.out.trans (Ext.drew (Ext.refl _))).size) hlt HRT.out ⟨h4,h5⟩ HP.out ((I1.out.ext (show Ext WA WA.drew from Ext.drew (Ext.refl _))).ints.wide (Nat.zero_le _) (Nat.le_refl _)) ((I2.out.ext (show Ext WA WA.drew from Ext.drew (Ext.refl _))).ints.wide (Nat.zero_le _) (Nat.le_refl _)) HLEN.out.1 HLEN.out.2).mono ?_;rintro e w2 ⟨r,rfl,hr,x2⟩;rw [eh] at hr
   obtain ⟨L,hL⟩:∃L,s.hits k p=L:=⟨_,rfl⟩
   rw [hL] at hr;have hr:OwnG Frag.cs WA.heap.size 47 5 w2 r L:=hr;have HL:=hid hL;have hL128:L.length≤128:=hL▸HO.out.hits_le p hlt;have hF0:=HO.out.seenTo_le p (Nat.le_of_lt hlt)
   obtain ⟨F0,hF⟩:∃F,s.seenTo p k=F:=⟨_,rfl⟩
   rw [hF] at hF0;have HF:=hid hF;have HRF:=hid (hF▸HR.out);obtain ⟨ra,rc,rfl,-⟩:=hr.form;have Y2:=hid (Ext.trans (w:=WA) X_ x2);have HRR:=hid hr;have hOr:=HR.out.box.lt;have zy:=Y2.out.size;have hvr:=HR.out.row.lt;have HVR:=hid hvr
   have zbx:w.heap.size<WA.heap.size:=by omega
   clear x2 hr hL hF eh hvr HRT HLEN I1 I2 HR;go_wp2_with fail;refine hK _ _ (.inr (SC.blocks fun a ha=>Y2.out.block (by rcases ha with ha|ha|ha <;> rw [ha] <;> omega))) ?_;clear hK K;refine sc_ fun K hK=>?_;go_wp2_with fail;go_wp2_with fail;refine hK _ _ (.inr (SC.blocks fun a ha=>Y2.out.block (by rcases ha with ha|ha|ha <;> rw [ha] <;> omega))) ?_;clear hK K;refine wpStagesS_nil ?_;clear c0 c1 c2 c3 c4 c5 c6 c7 c8 c9 c10 c11 d0 d1 d2 d3 d4 g0 g1;go_wp2_with fail
   go_loopw [27] (fun j wr=>∃(jn:Nat) (vq:Value),jn≤L.length∧j = .int .i64 (jn:Nat)∧OrdF W0.heap.size wr W0.heap.size (insAll F0 (L.take jn)) vq∧OwnG Frag.cs WA.heap.size 47 5 wr (.slice ra L.length rc) L∧(∀b,(Value.slice ra L.length rc).ownBlock=some b→vq.ownBlock≠some b)∧Ext W0 wr) (fun j _=>L.length - (intOf j).toNat)
   case atStart=>exact ⟨0,vv,by omega,rfl,HRF.out.ext Y2.out,HRR.out,fun b hb e=>by
    have h1:=(HRR.out.lt b hb).1;have h2:=(HVR.out b e).2
    omega,HX.out.trans Y2.out⟩
   case round=>
    obtain ⟨jn,vq,hj,rfl,ho1,hr1,hd1,hx1⟩:=hrel;have HO1:=hid ho1;have HR1:=hid hr1;have HD1:=hid hd1;have HX1:=hid hx1;clear ho1 hr1 hd1 hx1
    rcases Nat.lt_or_ge jn L.length with hjl|hjl
    ·obtain ⟨f,hf⟩:∃f,L[jn]?=some f:=⟨_,List.getElem?_eq_getElem hjl⟩
     obtain ⟨g,rc',he,-,glt,gcap,gcm,-,hcell⟩:=OwnG.at HR1.out (fun _=>rfl) hf;simp only [Value.slice.injEq,true_and] at he;obtain ⟨rfl,rfl⟩:=he;have d0:=hcell 0 (by decide);have d1:=hcell 1 (by decide);have d2:=hcell 2 (by decide);have d3:=hcell 3 (by decide);have d4:=hcell 4 (by decide);simp only [Frag.cs,Nat.add_zero,List.getElem?_cons_zero,List.getElem?_cons_succ] at d0 d1 d2 d3 d4;have HFF:=hid hf
     have hle:(insAll F0 (L.take jn)).length≤100000:=by
      rw [insAll_length,List.length_take];omega
     have zq:=HX1.out.size;clear hcell hf;go_wp2_with fail;refine (iInsert_any (HO1.out.ext (show Ext _ (wr.alloc (.cells #[.int .i64 f.d,.int .i64 f.s,.int .i64 f.c,.int .i64 f.col,.int .i64 f.al] 47)) from X_)) f hle).mono ?_;rintro e w3 ⟨v3,rfl,o3,k3,fr3,at3⟩;have hglo:WA.heap.size≤g∧g<wr.heap.size:=HR1.out.lt g rfl;have P1:=hid o3;have P2:Hid (Ext W0 w3):=hid (k3.up (HX1.out.trans X_) (Nat.le_refl _))
     have P3:=hid (HR1.out.keptBlk (w':=w3) (fun b hb=>by
      obtain rfl:g=b:=Option.some.inj hb
      exact (fr3 g (by rw [World.size_alloc];omega) (by omega) (HD1.out g rfl)).trans (Ext.block (show Ext wr (wr.alloc (.cells #[.int .i64 f.d,.int .i64 f.s,.int .i64 f.c,.int .i64 f.col,.int .i64 f.al] 47)) from X_) hglo.2)))
     have P4:Hid (∀b,(Value.slice (some ⟨g,0,none⟩) L.length rc).ownBlock=some b→v3.ownBlock≠some b):=hid (fun b hb e=>by
      obtain rfl:g=b:=Option.some.inj hb
      rcases at3 g e with h|h
      ·exact HD1.out g rfl h
      ·rw [World.size_alloc] at h
       omega)
     clear o3 k3 fr3 at3;go_wp2;go_roundw
     case rel=>exact ⟨jn+1,v3,by omega,by go_num,by rw [insAll_take HFF.out];exact P1.out,P3.out,P4.out,P2.out⟩
     case measure=>simp [intOf];omega
    ·obtain rfl:jn=L.length:=by omega
     have P1:Hid (OrdF W0.heap.size wr W0.heap.size (s.seenTo p (k+1)) vq):=hid (by
      rw [Scn.seenTo_succ,HF.out,HL.out];have:=HO1.out;rw [List.take_length] at this
      exact this)
     go_wp2;go_roundw
     case rel=>exact ⟨k+1,vq,by omega,by go_num,P1.out,HX1.out⟩
     case measure=>simp [intOf];omega
  ·obtain rfl:k=s.m:=by omega
   have c0:=HR.out.box.cell 0 rfl;have c1:=HR.out.box.lt;have X2:=hid (HX0.out.trans hx);have HRR:=hid (HR.out.row.low (show w.heap.size≤W0.heap.size by omega));clear hx hord HX;go_wp2;go_ret;exact ⟨_,rfl,HRR.out,X2.out⟩
def DpRow (lo:Nat) (w:World) (v:Value) (ls:List (List Stp)):Prop:=∃us:List Value,us.length=ls.length∧OwnG (fun u=>[u]) lo 101 1 w v us∧∀(k:Nat) (u:Value) (l:List Stp),us[k]?=some u→ls[k]?=some l→OwnG Stp.cs lo 251 2 w u l
theorem DpRow.ext {lo:Nat} {w w':World} {v:Value} {ls:List (List Stp)} (h:DpRow lo w v ls) (x:Ext w w'):DpRow lo w' v ls:=by
 obtain ⟨us,h1,h2,h3⟩:=h;exact ⟨us,h1,h2.ext x,fun k u l hu hl=>(h3 k u l hu hl).ext x⟩
theorem DpRow.low {lo lo':Nat} {w:World} {v:Value} {ls:List (List Stp)} (h:DpRow lo w v ls) (hl:lo'≤lo):DpRow lo' w v ls:=by
 obtain ⟨us,h1,h2,h3⟩:=h;exact ⟨us,h1,h2.low hl,fun k u l hu hk=>(h3 k u l hu hk).low hl⟩
theorem OwnG.grownD {lo lo':Nat} {w w':World} {v r:Value} {l:List Stp} {us:List Value} (h:OwnG Stp.cs lo 251 2 w r l) (ho:OwnG (fun u=>[u]) lo' 101 1 w v us) (hg:w.grownBy w' v.ownBlock):OwnG Stp.cs lo 251 2 w' r l:=
 h.grownE hg (e':=101) (by decide) (fun k hk=>by
  obtain ⟨_,c,hc⟩:=OwnG.rowF ho k hk
  exact ⟨c,hc⟩)
theorem DpRow.push {lo:Nat} {w w':World} {v v' r:Value} {us:List Value} {ls:List (List Stp)} {l:List Stp} (h1:us.length=ls.length) (h2:OwnG (fun u=>[u]) lo 101 1 w v us) (h3:∀(k:Nat) (u:Value) (l:List Stp),us[k]?=some u→ls[k]?=some l→OwnG Stp.cs lo 251 2 w u l)
  (hr:OwnG Stp.cs lo 251 2 w r l) (hg:w.grownBy w' v.ownBlock) (hown:OwnG (fun u=>[u]) lo 101 1 w' v' (us++[r])):DpRow lo w' v' (ls++[l]):=by
 refine ⟨us++[r],by simp [h1],hown,fun k u l' hu hl=>?_⟩
 rcases Nat.lt_or_ge k us.length with hk|hk
 ·rw [List.getElem?_append_left hk] at hu
  rw [List.getElem?_append_left (by omega)] at hl;exact (h3 k u l' hu hl).grownD h2 hg
 ·have hk1:=(List.getElem?_eq_some_iff.1 hu).1
  simp at hk1
  have hk0:k - us.length=0:=by omega
  rw [List.getElem?_append_right hk,hk0] at hu;rw [List.getElem?_append_right (by omega),show k - ls.length=0 by omega] at hl
  obtain rfl:r=u:=by simpa using hu
  obtain rfl:l=l':=by simpa using hl
  exact hr.grownD h2 hg
theorem info_StpS:(Tryz.prog.info? 101).map (fun i=>(i.zero,i.size,i.bytes))=some (some (.slice none 0 0),1,24):=by kernel_rfl
theorem Scn.Ok.seen_le {s:Scn} (ho:s.Ok) (p:Smp):(s.seen p).length≤100000:=by
 have h:=ho.seenTo_le p (Nat.le_refl s.m);have:=ho.m
 show (s.seenTo p s.m).length≤100000
 omega
def Scn.deeps (s:Scn) (i j:Int) (sd:Nat) (k:Nat):List (List Stp):=((pixS i j sd).take k).map fun p=>deepL (s.seen p)
theorem Scn.deeps_succ {s:Scn} {i j:Int} {sd k:Nat} {p:Smp} (h:(pixS i j sd)[k]?=some p):s.deeps i j sd (k+1)=s.deeps i j sd k++[deepL (s.seen p)]:=by
 obtain ⟨hk,rfl⟩:=List.getElem?_eq_some_iff.1 h;unfold Scn.deeps;rw [List.take_succ_eq_append_getElem hk,List.map_append,List.map_singleton]
theorem Scn.deeps_ok {s:Scn} {i j:Int} {sd k:Nat}:∀l∈s.deeps i j sd k,StpOk l:=by
 intro l hl;obtain ⟨p,-,rfl⟩:=List.mem_map.1 hl;exact deepL_ok _
theorem Scn.deeps_len {s:Scn} {i j:Int} {sd:Nat} {k:Nat} (hk:k≤sd*sd):(s.deeps i j sd k).length=k:=by
 unfold Scn.deeps;rw [List.length_map,List.length_take,pixS_length];omega
theorem iDeepPixel_any (s:Scn) (lo hi:Nat) (v:Value) (i j:Int) (sd:Nat) (w:World) (hv:s.R lo hi w v) (hh:hi≤w.heap.size) (ho:s.Ok) (hsm:s.small) (hsd:s.side=(sd:Nat)) (hi0:0≤i∧i<s.c.w) (hj0:0≤j∧j<s.c.h) :
  Calls Tryz.prog 19 #[v,.int .i64 i,.int .i64 j] w fun e w'=>∃r,e = .returned r∧DpRow w.heap.size w' r (s.deeps i j sd (sd*sd))∧Ext w w':=by
 have hsd3:sd=1∨sd=2∨sd=4:=by have:=ho.side;omega
 have hcw:=ho.c.w;have hch:=ho.c.h;have HOK:=hid (Scn.okB_iff.2 ho);have HV:=hid hv;have hm5:=ho.m;obtain ⟨a1,c1,a2,c2,a3,c3,rfl⟩:=hv.formV;have HO:=hid ho;have HSM:=hid hsm;have x0:Ext w (w.alloc (.cells #[.int .i64 s.c.w,.int .i64 s.c.h,.int .i64 s.c.zoom,.int .i64 s.c.near,.bool s.c.deep,.int .i64 s.c.lens,.int .i64 s.c.focus,.int .i64 s.t.log,.slice a1 s.t.px.length c1,.slice a2 s.ps.length c2,.slice a3 s.m c3,.int .i64 s.side] 31)):=X_;have bS:=Blk.new w 31 [.int .i64 s.c.w,.int .i64 s.c.h,.int .i64 s.c.zoom,.int .i64 s.c.near,.bool s.c.deep,.int .i64 s.c.lens,.int .i64 s.c.focus,.int .i64 s.t.log,.slice a1 s.t.px.length c1,.slice a2 s.ps.length c2,.slice a3 s.m c3,.int .i64 s.side]
 obtain ⟨W0,hW0⟩:∃W0,w.alloc (.cells #[.int .i64 s.c.w,.int .i64 s.c.h,.int .i64 s.c.zoom,.int .i64 s.c.near,.bool s.c.deep,.int .i64 s.c.lens,.int .i64 s.c.focus,.int .i64 s.t.log,.slice a1 s.t.px.length c1,.slice a2 s.ps.length c2,.slice a3 s.m c3,.int .i64 s.side] 31)=W0:=⟨_,rfl⟩
 rw [hW0] at x0;have bS:Blk W0 w.heap.size 31 [.int .i64 s.c.w,.int .i64 s.c.h,.int .i64 s.c.zoom,.int .i64 s.c.near,.bool s.c.deep,.int .i64 s.c.lens,.int .i64 s.c.focus,.int .i64 s.t.log,.slice a1 s.t.px.length c1,.slice a2 s.ps.length c2,.slice a3 s.m c3,.int .i64 s.side]:=hW0▸bS;have HX0:=hid x0;have HS0:=hid bS;have HW0:=hid hW0;have z0:=bS.lt;clear hv ho hsm x0 bS hW0;have HSD:=hid hsd3;have HSE:=hid hsd;clear hsd hsd3;go_enter Tryz.func19,Tryz.ntmps19;go_upto_region 1 with fail;rw [HW0.out];have bq:=HS0.out.ext (Ext.refl _);obtain ⟨c0,c1,c2,c3,c4,c5,c6,c7,c8,c9,c10,c11⟩:=bq.q12;have ls:=bq.lt;clear bq;go_wp2_with fail;have CH:=iIsValidScene_any s lo hi _ W0 (HV.out.ext hh HX0.out) (Nat.le_trans hh HX0.out.size) HSM.out;refine CH.mono ?_;clear CH;rw [HOK.out];rintro e w3 ⟨rfl,x3⟩;have X3:=hid x3;clear x3;clear ls c0 c1 c2 c3 c4 c5 c6 c7 c8 c9 c10 c11;have bq:=HS0.out.ext X3.out;obtain ⟨c0,c1,c2,c3,c4,c5,c6,c7,c8,c9,c10,c11⟩:=bq.q12;have ls:=bq.lt;clear bq;go_wp2_with fail;have CH:=inImage_yes s.c i j hi0 hj0 (by omega) (by omega) w3;refine CH.mono ?_;clear CH;rintro e w4 ⟨rfl,x4⟩;have X4:=hid (X3.out.trans x4);clear x4 X3;clear ls c0 c1 c2 c3 c4 c5 c6 c7 c8 c9 c10 c11;have bq:=HS0.out.ext X4.out;obtain ⟨c0,c1,c2,c3,c4,c5,c6,c7,c8,c9,c10,c11⟩:=bq.q12;have ls:=bq.lt;clear bq;have bD:=Blk.new w4 101 [];have HD:=hid bD;clear bD;go_wp2_with fail;have XA:=hid (HX0.out.trans (X4.out.trans (show Ext w4 (w4.alloc (.cells #[] 101)) from X_)));have CH:=iShadeAll_any s lo hi _ _ (HV.out.ext hh XA.out) (Nat.le_trans hh XA.out.size) HO.out HSM.out;refine CH.mono ?_;clear CH;rintro e w5 ⟨r,rfl,hr,x5⟩;obtain ⟨us,hus,hu2,hu3⟩:=hr;obtain ⟨ra,rc,rfl,-⟩:=hu2.form;have zA:=XA.out.size;have HR:Hid (Shds s w4.heap.size w5 (.slice ra us.length rc) s.m):=hid (Shds.low ⟨us,hus,hu2,hu3⟩ (by rw [World.size_alloc];omega));have X5:=hid (XA.out.trans x5);have HS5:=hid (HS0.out.ext (X4.out.trans (Ext.trans (show Ext w4 (w4.alloc (.cells #[] 101)) from X_) x5)));have HD5:=hid (HD.out.ext x5);have z4:=X4.out.size;clear hus hu2 hu3 x5 XA HD HS0 zA;clear ls c0 c1 c2 c3 c4 c5 c6 c7 c8 c9 c10 c11;have bq:=HS5.out.ext (Ext.refl _);obtain ⟨c0,c1,c2,c3,c4,c5,c6,c7,c8,c9,c10,c11⟩:=bq.q12;have ls:=bq.lt;clear bq;have hs5:s.side=((sd:Nat):Int):=HSE.out;rw [hs5] at c11;clear hs5;go_wp2_with fail;have CH:=iPixelSamples_any i j (by omega) (by omega) sd HSD.out w5;refine CH.mono ?_;clear CH;rintro e w6 ⟨q,rfl,hq,x6⟩;obtain ⟨qa,qc,rfl,-⟩:=hq.form;rw [pixS_length];have HQ:=hid hq;have X6:=hid (X5.out.trans x6);have HR6:=hid (HR.out.ext x6);have HS6:=hid (HS5.out.ext x6);have HD6:=hid (HD5.out.ext x6);have z5:w4.heap.size<w6.heap.size:=HD6.out.lt;have z6:=x6.size;clear hq x6 HR HS5 HD5 X5;clear ls c0 c1 c2 c3 c4 c5 c6 c7 c8 c9 c10 c11
 obtain ⟨N,hN⟩:∃N,sd*sd=N:=⟨_,rfl⟩
 have hN16:N≤16:=by rw [←hN];rcases HSD.out with rfl|rfl|rfl <;> decide
 have HN:=hid hN;rw [hN];clear hN;go_wp2_with fail
 go_loopw [7,31] (fun u x wr=>∃k:Nat,k≤N∧x = .int .i64 (k:Nat)∧DpRow w4.heap.size wr u (s.deeps i j sd k)∧KN w4.heap.size w4.heap.size 101 w6 wr) (fun _ x _=>N - (intOf x).toNat)
 case atStart=>exact ⟨0,by omega,rfl,⟨[],rfl,OwnG.freshS (Nat.le_refl _) HD6.out,fun k u l hu=>by simp at hu⟩,KN.refl _ _ _ _⟩
 case round=>
  obtain ⟨k,hk,rfl,hdp,hkn⟩:=hrel;have HKN:=hid hkn;have HDP:=hid hdp;obtain ⟨ds,hdl,hd2,hd3⟩:=hdp;rw [Scn.deeps_len (by rw [HN.out];exact hk)] at hdl;obtain ⟨da,dc,rfl,-⟩:=hd2.form;have XW:=hid (HKN.out.up X6.out (Nat.le_trans (Nat.le_of_lt z0) z4));have zr:=hkn.size
  rcases Nat.lt_or_ge k N with hlt|hge
  ·have nB:∀{t:TypeId},t≠101→∀c,w6.heap[w4.heap.size]?≠some (.cells c t (0,0)):=fun ht c=>HD6.out.noCells ht c
   have hq:=KN.row HQ.out HKN.out (nB (by decide)) (by decide);have hS:=KN.blk HS6.out HKN.out (by have:=HD6.out.neq HS6.out (by decide);exact fun e=>this e.symm) (by decide)
   have hR:Shds s w4.heap.size wr (.slice ra us.length rc) s.m:=by
    obtain ⟨us',q1,q2,q3⟩:=HR6.out;exact ⟨us',q1,KN.row q2 HKN.out (nB (by decide)) (by decide),fun a u hu=>⟨KN.ints (q3 a u hu).1 HKN.out (nB (by decide)) (by decide),KN.ints (q3 a u hu).2 HKN.out (nB (by decide)) (by decide)⟩⟩
   obtain ⟨p,hp⟩:∃p,(pixS i j sd)[k]?=some p:=⟨_,List.getElem?_eq_getElem (by rw [pixS_length,HN.out];exact hlt)⟩
   have hok:p.okB s.c=true:=by
    have h1:=(List.getElem?_eq_some_iff.1 hp).2;unfold pixS at h1;rw [List.getElem_map,List.getElem_range] at h1;rw [←h1];exact smpK_ok HO.out.cb hi0 hj0 HSD.out (by rw [HN.out];exact hlt)
   have hsucc:=Scn.deeps_succ (s:=s) hp;obtain ⟨gq,cq,he,-,glt,gcap,gcm,-,hcell⟩:=OwnG.at hq (fun _=>rfl) hp;rw [show (pixS i j sd).length=N by rw [pixS_length];exact HN.out] at he gcap;simp only [Value.slice.injEq,true_and] at he;obtain ⟨rfl,rfl⟩:=he;have d0:=hcell 0 (by decide);have d1:=hcell 1 (by decide);have d2:=hcell 2 (by decide);have d3:=hcell 3 (by decide);have d4:=hcell 4 (by decide);simp only [Smp.cs,Nat.add_zero,List.getElem?_cons_zero,List.getElem?_cons_succ] at d0 d1 d2 d3 d4;have HOKP:=hid hok;have HSU:=hid hsucc;have HD2:=hid hd2;have HD3:=hid hd3;have HDL:=hid hdl;have HRr:=hid hR;have xs1:Ext wr (wr.alloc (.cells #[.int .i64 p.x,.int .i64 p.y,.int .i64 p.t,.int .i64 p.lx,.int .i64 p.ly] 34)):=X_;have XS1:=hid xs1;have cs0:=hS.ext xs1;have cs1:=Blk.new wr 34 [.int .i64 p.x,.int .i64 p.y,.int .i64 p.t,.int .i64 p.lx,.int .i64 p.ly];obtain ⟨s0,s1,s2,s3,s4,s5,s6,s7,s8,s9,s10,s11⟩:=cs0.q12;have HSr:=hid hS;clear hq hS hR hp hok hsucc hcell hd2 hd3 hdl hkn nB cs0 cs1 xs1;go_upto_region 7 with fail;go_wp2_with fail
   obtain ⟨WB,hWB⟩:∃W,wr.alloc (.cells #[.int .i64 p.x,.int .i64 p.y,.int .i64 p.t,.int .i64 p.lx,.int .i64 p.ly] 34)=W:=⟨_,rfl⟩
   have XSB:Hid (Ext wr WB):=hid (hWB▸XS1.out);rw [hWB];clear hWB;have XWB:=hid (XW.out.trans XSB.out);have CH:=iSeen_any s lo w4.heap.size hi _ _ p WB (HV.out.ext hh XWB.out) (Nat.le_trans hh XWB.out.size) HO.out HOKP.out (HRr.out.ext XSB.out);refine CH.mono ?_;clear CH;rintro e w7 ⟨f1,rfl,hf1,x7⟩;have HF1:=hid hf1;have X7:=hid (XSB.out.trans x7);obtain ⟨fa,fc,rfl,-⟩:=OwnG.form hf1;have hle:=hid (HO.out.seen_le p);clear hf1 x7 s0 s1 s2 s3 s4 s5 s6 s7 s8 s9 s10 s11;go_wp2_with fail;refine (DeepOf_any HF1.out hle.out).mono ?_;rintro e w8 ⟨g1,rfl,hg1,x8⟩;obtain ⟨ga,gc,rfl,-⟩:=OwnG.form hg1;have X8:=hid (X7.out.trans x8);have hz8:=X7.out.size;have y8:Ext w8 (w8.alloc (.cells #[.slice ga (deepL (s.seen p)).length gc] 101)):=X_;have B8:=Blk.new w8 101 [.slice ga (deepL (s.seen p)).length gc];have HB8:=hid B8;have Y8:=hid y8;have O8:=hid ((OwnG.low hg1 (show w4.heap.size≤w7.heap.size by omega)).ext y8);have HD8:=hid (HD2.out.ext (X8.out.trans y8));have HD83:=hid (fun a u l hu hl=>(HD3.out a u l hu hl).ext (X8.out.trans y8))
   have hds:ds.length<1000000:=by have:=HDL.out;omega
   have HDS:=hid hds;have z8:=Nat.le_trans (X8.out.size) y8.size;have Z8:=hid (show w4.heap.size≤(w8.alloc (.cells #[.slice ga (deepL (s.seen p)).length gc] 101)).heap.size by omega);clear hg1 x8 y8 B8 hds d0 d1 d2 d3 d4
   have HC1:Hid (∀j,j<1→(w8.alloc (.cells #[.slice ga (deepL (s.seen p)).length gc] 101)).cell? ⟨w8.heap.size,j,none⟩=[Value.slice ga (deepL (s.seen p)).length gc][j]?):=hid (fun j hj=>by
    obtain rfl:j=0:=by omega
    exact HB8.out.cell 0 rfl)
   have HC2:Hid (∀u∈[Value.slice ga (deepL (s.seen p)).length gc],u.oneCell'=true):=hid (fun u hu=>by
    rw [List.mem_singleton] at hu;subst hu
    rfl)
   go_wp2_with (at_builtin;refine wpList_append_elt (fun u=>[u]) 101 1 24 _ _ rfl _ _ 57 rfl Tryz.underlying57 info_StpS rfl (by decide) (by decide) (fun _=>rfl) w4.heap.size (.slice da ds.length dc) ds rfl HD8.out (.slice ga (deepL (s.seen p)).length gc) w8.heap.size rfl HC1.out HC2.out HDS.out Z8.out ?_;intro v9 w9 hown hg);have P:=hid (DpRow.push (by rw [HDL.out,Scn.deeps_len (by rw [HN.out];exact hk)]) HD8.out HD83.out O8.out hg hown)
   have K9:=hid (((HKN.out.ext (X8.out.trans Y8.out))).grown hg (fun k' hk'=>by
    obtain ⟨q1,c,hc⟩:=OwnG.rowF HD8.out k' hk'
    exact ⟨q1,c,hc⟩))
   clear hown hg;go_wp2;go_roundw
   case rel=>exact ⟨k+1,by omega,by go_num,by rw [HSU.out];exact P.out,K9.out⟩
   case measure=>simp [intOf];omega
  ·obtain rfl:k=N:=by omega
   have hfin:=hid (HDP.out.low (show w.heap.size≤w4.heap.size by omega));clear hdl hd2 hd3 hkn;go_wp2;go_ret;exact ⟨_,rfl,HN.out▸hfin.out,XW.out⟩
theorem DpRow.at {lo:Nat} {w:World} {v:Value} {ls:List (List Stp)} (h:DpRow lo w v ls) {k:Nat} {l:List Stp} (hl:ls[k]?=some l) :
  ∃g cap u,v = .slice (some ⟨g,0,none⟩) ls.length cap∧g<w.heap.size∧ls.length≤cap∧cap≤9223372036854775807∧w.cell? ⟨g,k,none⟩=some u∧OwnG Stp.cs lo 251 2 w u l:=by
 obtain ⟨us,h1,h2,h3⟩:=h
 obtain ⟨u,hu⟩:∃u,us[k]?=some u:=⟨_,List.getElem?_eq_getElem (by have:=(List.getElem?_eq_some_iff.1 hl).1;omega)⟩
 obtain ⟨g,cap,he,-,glt,gcap,gcm,-,hcell⟩:=OwnG.at h2 (fun _=>rfl) hu;have c0:=hcell 0 (by decide);rw [Nat.mul_one,Nat.add_zero] at c0;exact ⟨g,cap,u,by rw [he,h1],glt,by omega,gcm,c0,h3 k u l hu hl⟩
theorem DpRow.form {lo:Nat} {w:World} {v:Value} {ls:List (List Stp)} (h:DpRow lo w v ls):∃a c,v = .slice a ls.length c:=by
 obtain ⟨us,h1,h2,h3⟩:=h;obtain ⟨a,c,rfl,-⟩:=h2.form;exact ⟨a,c,by rw [h1]⟩
theorem DpRow.kn {lo lo2 B:Nat} {w w':World} {v:Value} {ls:List (List Stp)} (h:DpRow lo w v ls) (k:KN lo2 B 3 w w') (hB:∀t,t≠3→∀c,w.heap[B]?≠some (.cells c t (0,0))):DpRow lo w' v ls:=by
 obtain ⟨us,h1,h2,h3⟩:=h;exact ⟨us,h1,KN.row h2 k (hB _ (by decide)) (by decide),fun a u l hu hl=>KN.row (h3 a u l hu hl) k (hB _ (by decide)) (by decide)⟩
theorem OwnInts.freshO {lo g:Nat} {w:World} (hl:lo≤g) (h:Blk w g 3 []):OwnInts lo w (.slice (some ⟨g,0,none⟩) 0 0) []:=
 ⟨⟨by simp,.inr ⟨g,0,#[],rfl,hl,h,Nat.le_refl _,by unfold maxLen;omega,by simp,by simp⟩⟩,fun x hx=>by cases hx⟩
theorem iOcclusion_any (s:Scn) (lo hi:Nat) (v:Value) (i j:Int) (sd:Nat) (z:Int) (w:World) (hv:s.R lo hi w v) (hh:hi≤w.heap.size) (ho:s.Ok) (hsm:s.small) (hsd:s.side=(sd:Nat)) (hi0:0≤i∧i<s.c.w) (hj0:0≤j∧j<s.c.h) :
  Calls Tryz.prog 18 #[v,.int .i64 i,.int .i64 j,.int .i64 z] w fun e w'=>e = .returned (.int .i64 (occI (s.deeps i j sd (sd*sd)) z))∧Ext w w':=by
 have hsd3:sd=1∨sd=2∨sd=4:=by have:=ho.side;omega
 have hcw:=ho.c.w;have hch:=ho.c.h;have HOK:=hid (Scn.okB_iff.2 ho);have HV:=hid hv;have hm5:=ho.m;obtain ⟨a1,c1,a2,c2,a3,c3,rfl⟩:=hv.formV;have HO:=hid ho;have HSM:=hid hsm;have x0:Ext w (w.alloc (.cells #[.int .i64 s.c.w,.int .i64 s.c.h,.int .i64 s.c.zoom,.int .i64 s.c.near,.bool s.c.deep,.int .i64 s.c.lens,.int .i64 s.c.focus,.int .i64 s.t.log,.slice a1 s.t.px.length c1,.slice a2 s.ps.length c2,.slice a3 s.m c3,.int .i64 s.side] 31)):=X_;have bS:=Blk.new w 31 [.int .i64 s.c.w,.int .i64 s.c.h,.int .i64 s.c.zoom,.int .i64 s.c.near,.bool s.c.deep,.int .i64 s.c.lens,.int .i64 s.c.focus,.int .i64 s.t.log,.slice a1 s.t.px.length c1,.slice a2 s.ps.length c2,.slice a3 s.m c3,.int .i64 s.side]
 obtain ⟨W0,hW0⟩:∃W0,w.alloc (.cells #[.int .i64 s.c.w,.int .i64 s.c.h,.int .i64 s.c.zoom,.int .i64 s.c.near,.bool s.c.deep,.int .i64 s.c.lens,.int .i64 s.c.focus,.int .i64 s.t.log,.slice a1 s.t.px.length c1,.slice a2 s.ps.length c2,.slice a3 s.m c3,.int .i64 s.side] 31)=W0:=⟨_,rfl⟩
 rw [hW0] at x0;have bS:Blk W0 w.heap.size 31 [.int .i64 s.c.w,.int .i64 s.c.h,.int .i64 s.c.zoom,.int .i64 s.c.near,.bool s.c.deep,.int .i64 s.c.lens,.int .i64 s.c.focus,.int .i64 s.t.log,.slice a1 s.t.px.length c1,.slice a2 s.ps.length c2,.slice a3 s.m c3,.int .i64 s.side]:=hW0▸bS;have HX0:=hid x0;have HS0:=hid bS;have HW0:=hid hW0;have z0:=bS.lt;clear hv ho hsm x0 bS hW0;have HSD:=hid hsd3;have HSE:=hid hsd;clear hsd hsd3;go_enter Tryz.func18,Tryz.ntmps18;go_upto_region 1 with fail;rw [HW0.out];have bD:=Blk.new W0 3 [];have HD:=hid bD;clear bD;have bq:=HS0.out.ext (Ext.refl _);obtain ⟨c0,c1,c2,c3,c4,c5,c6,c7,c8,c9,c10,c11⟩:=bq.q12;have ls:=bq.lt;clear bq;go_wp2_with fail;have XA:=hid (HX0.out.trans (show Ext W0 (W0.alloc (.cells #[] 3)) from X_));have CH:=iDeepPixel_any s lo hi _ i j sd _ (HV.out.ext hh XA.out) (Nat.le_trans hh XA.out.size) HO.out HSM.out HSE.out hi0 hj0;refine CH.mono ?_;clear CH;rintro e w3 ⟨r,rfl,hr,x3⟩
 obtain ⟨LS,hLS⟩:∃LS,s.deeps i j sd (sd*sd)=LS:=⟨_,rfl⟩
 have hok:∀l∈LS,StpOk l:=hLS▸Scn.deeps_ok
 have hll:LS.length≤16:=by rw [←hLS,Scn.deeps_len (Nat.le_refl _)];rcases HSD.out with rfl|rfl|rfl <;> decide
 rw [hLS] at hr;have HLS:=hid hLS;have HOK2:=hid hok;obtain ⟨ra,rc,rfl⟩:=hr.form;have HR:=hid hr;have X3:=hid (XA.out.trans x3);have HD3:=hid (HD.out.ext x3);have z3:W0.heap.size<w3.heap.size:=HD3.out.lt;clear hLS hok hr x3;clear ls c0 c1 c2 c3 c4 c5 c6 c7 c8 c9 c10 c11;go_wp2_with fail
 go_loopw [9,18] (fun u x wr=>∃k:Nat,k≤LS.length∧x = .int .i64 (k:Nat)∧OwnInts W0.heap.size wr u ((LS.take k).map fun l=>lostI l z)∧KN W0.heap.size W0.heap.size 3 w3 wr) (fun _ x _=>LS.length - (intOf x).toNat)
 case atStart=>exact ⟨0,by omega,rfl,OwnInts.freshO (Nat.le_refl _) HD3.out,KN.refl _ _ _ _⟩
 case round=>
  obtain ⟨k,hk,rfl,hu,hkn⟩:=hrel;have HKN:=hid hkn;have HU:=hid hu;obtain ⟨ua,uc,rfl,-⟩:=hu.form
  have hul:((LS.take k).map fun l=>lostI l z).length=k:=by rw [List.length_map,List.length_take];omega
  have HUL:=hid hul;have XW:=hid (HKN.out.up X3.out (Nat.le_of_lt z0));have zr:=hkn.size
  rcases Nat.lt_or_ge k LS.length with hlt|hge
  ·obtain ⟨l,hl⟩:∃l,LS[k]?=some l:=⟨_,List.getElem?_eq_getElem hlt⟩
   obtain ⟨gq,cq,u,he,glt,gcap,gcm,c0,hu2⟩:=DpRow.at (DpRow.kn HR.out HKN.out (fun t ht c=>HD3.out.noCells ht c)) hl;simp only [Value.slice.injEq,true_and] at he;obtain ⟨rfl,rfl⟩:=he;obtain ⟨va,vc,rfl,-⟩:=OwnG.form hu2;have hS:=HOK2.out l (List.mem_of_getElem? hl);have hb:=lostI_bd hS z;have hbt:=hS.trans_bd z
   obtain ⟨t,ht⟩:∃t,transL l z=t:=⟨_,rfl⟩
   obtain ⟨q,hq⟩:∃q,(65536 - t) / 256=q:=⟨_,rfl⟩
   have hlq:lostI l z=q:=by unfold lostI;rw [ht];exact hq
   rw [hlq] at hb;rw [ht] at hbt
   have htd:Int.tdiv (65536 - t) 256=q:=by rw [Int.tdiv_eq_ediv_of_nonneg (by omega)];exact hq
   have hsu:((LS.take (k+1)).map fun l=>lostI l z)=((LS.take k).map fun l=>lostI l z)++[q]:=by
    obtain ⟨hk2,rfl⟩:=List.getElem?_eq_some_iff.1 hl;rw [List.take_succ_eq_append_getElem hk2,List.map_append,List.map_singleton,hlq]
   have HSU:=hid hsu;have HT:=hid ht;have HS:=hid hS;have HU2:=hid hu2;rw [hul];have HU3:Hid (OwnInts W0.heap.size wr (.slice ua k uc) ((LS.take k).map fun l=>lostI l z)):=hid (by have h':=hu;rw [hul] at h';exact h');clear hu hu2 hl hlq hsu ht hS hkn hul hq HU;go_wp2_with fail;refine (iTransmittance_any HU2.out HS.out z).mono ?_;rw [HT.out];rintro e w5 ⟨rfl,x5⟩;have y5:Ext w5 (w5.alloc (.cells #[.int .i64 q] 3)):=X_;have B5:=hid (Blk.new w5 3 [.int .i64 q]);have X5:=hid (x5.trans y5);have HU5:=hid (HU3.out.ext (x5.trans y5));have Z5:=hid (show W0.heap.size≤(w5.alloc (.cells #[.int .i64 q] 3)).heap.size by have:=(x5.trans y5).size;omega);have I5:=hid (show I64 q from ⟨by omega,by omega⟩);have L5:=hid (show ((LS.take k).map fun l=>lostI l z).length<1000000000 by rw [HUL.out];omega);clear x5 y5;go_wp2_with (at_builtin;refine wpList_append1 _ rfl _ _ rfl W0.heap.size (.slice ua k uc) ((LS.take k).map fun l=>lostI l z) rfl HU5.out q I5.out w5.heap.size rfl (B5.out.cell 0 rfl) L5.out Z5.out ?_;intro v9 w9 hown hg)
   have K9:=hid ((HKN.out.ext X5.out).grown hg (fun k' hk'=>by
    have h1:=HU5.out.lt k' hk';obtain ⟨c,hc⟩:=HU5.out.block hk'
    exact ⟨h1.1,c,hc⟩))
   have P:=hid hown;clear hown hg;go_wp2;go_roundw
   case rel=>exact ⟨k+1,by omega,by go_num,by rw [HSU.out];exact P.out,K9.out⟩
   case measure=>simp [intOf];omega
  ·obtain rfl:k=LS.length:=by omega
   have hfull:((LS.take LS.length).map fun l=>lostI l z)=LS.map fun l=>lostI l z:=by rw [List.take_length]
   rw [hul];have HU3:Hid (OwnInts W0.heap.size wr (.slice ua LS.length uc) (LS.map fun l=>lostI l z)):=hid (by have h':=hu;rw [hul,hfull] at h';exact h')
   have HM:=hid (show ∀x∈LS.map (fun l=>lostI l z),0≤x∧x≤256 from fun x hx=>by
    obtain ⟨l,hm,rfl⟩:=List.mem_map.1 hx
    exact lostI_bd (HOK2.out l hm) z)
   have HL2:=hid (show (LS.map fun l=>lostI l z).length≤1000 by rw [List.length_map];omega);clear hu hkn hul hfull;go_wp2_with fail;refine (iMean_val 0 _ _ _ _ (HU3.out.ints.wide (Nat.zero_le _) (Nat.le_refl _)) HM.out HL2.out).mono ?_;rintro e w5 ⟨rfl,rfl⟩;go_wp2;go_ret;exact ⟨ret_int (by rw [HLS.out];rfl),XW.out⟩
theorem OwnG.rowS {α : Type} {cs : α→List Value} {lo:Nat} {e:TypeId} {sz:Nat} {w:World} {v:Value} {xs:List α} (h:OwnG cs lo e sz w v xs):∀k,v.ownBlock=some k→lo≤k∧∃c,w.heap[k]?=some (.cells c e (0,0)):=by
 intro k hk
 rcases h.2 with ⟨rfl,h4⟩|⟨g,cap,cur,rfl,hb,hg,_⟩
 ·cases hk
 ·simp only [Value.ownBlock,Option.some.injEq] at hk
  subst hk;exact ⟨hb,cur,hg⟩
theorem Blk.neRow {w:World} {A k:Nat} {t e:TypeId} {cs:List Value} {c:Array Value} (h:Blk w A t cs) (hk:w.heap[k]?=some (.cells c e (0,0))) (ne:t≠e):A≠k:=fun e1=>by
 subst e1;unfold Blk at h;rw [h] at hk;simp only [Option.some.injEq,Obj.cells.injEq] at hk;exact ne hk.2.1
structure ScM (lo lp hp:Nat) (w:World) (t:Tex) (tv pv sv:Value) (ps:List Prg) (xs:List Srf):Prop where
 tex:OwnInts lo w tv t.px
 prg:PRow lp hp w pv ps
 srf:OwnG Srf.cs hp 42 26 w sv xs
section
variable {lo lp hp : Nat} {w w' : World} {t : Tex} {tv pv sv : Value} {ps : List Prg} {xs : List Srf}
theorem ScM.ext (h:ScM lo lp hp w t tv pv sv ps xs) (x:Ext w w'):ScM lo lp hp w' t tv pv sv ps xs:=⟨h.tex.ext x,h.prg.ext x,OwnG.ext h.srf x⟩
theorem ScM.gr (h:ScM lo lp hp w t tv pv sv ps xs) {B:Nat} (g:Gr B w w') (hB:B<lo) (h1:lo≤lp) (h2:lo≤hp):ScM lo lp hp w' t tv pv sv ps xs:=
 ⟨h.tex.kept (fun k h1 h2=>g.keep h2 (by omega)),h.prg.gr g (by omega),OwnG.of h.srf fun b c hb hc=>(g.keep (Array.getElem?_eq_some_iff.1 hc).1 (by omega)).trans hc⟩
theorem ints_ne_box {v:Value} {ys:List Int} (h:OwnInts lo w v ys) {X:Nat} {u:TypeId} {cs:List Value} (hX:Blk w X u cs) (hu:u≠3):v.ownBlock≠some X:=fun e=>by
 obtain ⟨c,hc⟩:=h.block e;exact hX.neRow hc hu rfl
theorem ScM.set (h:ScM lo lp hp w t tv pv sv ps xs) {X:Nat} {cs:List Value} (hX:Blk w X 31 cs) (hx:X<lp∨hp≤X) (i:Nat) (u:Value):ScM lo lp hp (w.setCell ⟨X,i,none⟩ u) t tv pv sv ps xs:=
 ⟨h.tex.setOther (ints_ne_box h.tex hX (by decide)) u,h.prg.set hX (by decide) hx i u,OwnG.of h.srf fun b c hb hc=>(Below.heap_setCell _ _ _ _ (by
  simp only
  exact fun e=>hX.neRow (e▸hc) (by decide) rfl)).trans hc⟩
theorem ScM.row (h:ScM lo lp hp w t tv pv sv ps xs) {X:Nat} {cs:List Value} (hX:Blk w X 31 cs) (hx:X<lp∨hp≤X) (ds:Array Value):ScM lo lp hp (w.setRow X ds) t tv pv sv ps xs:=
 ⟨h.tex.grown (row:=some X) ⟨rfl,rfl,rfl,by rw [size_setRowB];exact Nat.le_refl _,fun k hk ne=>setRow_other _ _ _ _ (fun e=>ne (by rw [e]))⟩ (fun k hk e=>ints_ne_box h.tex hX (by decide) (by rw [hk];exact e)),
  h.prg.keep (by rw [size_setRowB];exact Nat.le_refl _) (fun b h1 h2=>setRow_other _ _ _ _ (by omega)) (fun b c h1 hc=>(setRow_other _ _ _ _ (fun e=>hX.neRow (e▸hc) (by decide) rfl)).trans hc),
  OwnG.of h.srf fun b c hb hc=>(setRow_other _ _ _ _ (fun e=>hX.neRow (e▸hc) (by decide) rfl)).trans hc⟩
theorem ScM.push (h:ScM lo lp hp w t tv pv sv ps xs) {sv':Value} {xs':List Srf} (hg:w.grownBy w' sv.ownBlock) (ho:OwnG Srf.cs hp 42 26 w' sv' xs'):ScM lo lp hp w' t tv pv sv' ps xs':=by
 have hr:=OwnG.rowS h.srf;refine ⟨h.tex.grown hg (fun k hk e=>?_),h.prg.grown hg (fun k hk=>?_),ho⟩
 ·obtain ⟨_,c,hc⟩:=hr k e.symm
  obtain ⟨c',hc'⟩:=h.tex.block hk;rw [hc'] at hc;simp only [Option.some.injEq,Obj.cells.injEq] at hc;exact absurd hc.2.1 (by decide)
 ·obtain ⟨h1,c,hc⟩:=hr k hk
  exact ⟨h1,c,_,by decide,hc⟩
theorem ScM.low {lo':Nat} (h:ScM lo lp hp w t tv pv sv ps xs) (hl:lo'≤lo):ScM lo' lp hp w t tv pv sv ps xs:=⟨h.tex.low hl,h.prg,h.srf⟩
end
theorem info_SrfT:(Tryz.prog.info? 42).map (fun i=>(i.zero,i.size,i.bytes))=some (some (.agg #[.int .i64 0,.int .i64 0,.int .i64 0,.int .i64 0,.int .i64 0,.int .i64 0,.int .i64 0,.int .i64 0,.int .i64 0,.int .i64 0,.int .i64 0,.int .i64 0,.int .i64 0,.int .i64 0,.int .i64 0,.int .i64 0,.int .i64 0,.int .i64 0,.int .i64 0,.int .i64 0,.int .i64 0,.int .i64 0,.int .i64 0,.int .i64 0,.int .i64 0,.int .i64 0]),26,208):=by kernel_rfl
theorem info_PrgT:(Tryz.prog.info? 132).map (fun i=>(i.zero,i.size,i.bytes))=some (some (.agg #[.slice none 0 0,.slice none 0 0]),2,48):=by kernel_rfl
theorem info_ScnT:(Tryz.prog.info? 31).map (fun i=>i.size)=some 12:=by kernel_rfl
theorem pair_one (u:Value×Value) (h1:u.1.oneCell'=true) (h2:u.2.oneCell'=true):∀x∈pairCs u,x.oneCell'=true:=by
 intro x hx;simp only [pairCs,List.mem_cons,List.not_mem_nil,or_false] at hx
 rcases hx with rfl|rfl <;> assumption
theorem Cur.grown {hi:Nat} {w w':World} {B:Nat} (h:Cur hi w B) {row:Option Nat} (hg:w.grownBy w' row) (hr:∀k,row=some k→B<k):Cur hi w' B:=
 h.keep fun b hb=>hg.block b (by have:=h.lt;omega) (fun e=>by have:=hr b e.symm;omega)
structure ScSm (c:Cam) (t:Tex) (side:Int) (ps:List Prg) (xs:List Srf):Prop where
 c:c.Sm
 t:t.Ok
 side:side=1∨side=2
 n:1≤ps.length∧ps.length≤2
 prg:∀p∈ps,p.bd∧p.small∧p.chkB=true
 m:xs.length≤3
 srf:∀x∈xs,SrfSm x.f x.g x.sh x.rt ps.length
theorem l20Draw_any (hi B:Nat) (w:World) (hc:Cur hi w B):Calls Tryz.prog 85 #[.pointer (some ⟨B,0,none⟩)] w fun e w'=>∃(c:Cam) (t:Tex) (side:Int) (ps:List Prg) (xs:List Srf) (lp hp:Nat) (ta:Option Addr) (tc:Nat) (pa:Option Addr) (pc:Nat) (sa:Option Addr) (sc:Nat),
  e = .returned (.agg #[.int .i64 c.w,.int .i64 c.h,.int .i64 c.zoom,.int .i64 c.near,.bool c.deep,.int .i64 c.lens,.int .i64 c.focus,.int .i64 t.log,.slice ta t.px.length tc,.slice pa ps.length pc,.slice sa xs.length sc,.int .i64 side])∧ScSm c t side ps xs∧w.heap.size≤lp∧w.heap.size≤hp∧hp≤w'.heap.size∧ScM w.heap.size lp hp w' t (.slice ta t.px.length tc) (.slice pa ps.length pc) (.slice sa xs.length sc) ps xs∧Cur hi w' B∧Gr B w w':=by
 have zB:=hc.lt;have x0:Ext w (w.alloc (.cells #[.int .i64 0,.int .i64 0,.int .i64 0,.int .i64 0,.bool false,.int .i64 0,.int .i64 0,.int .i64 0,.slice none 0 0,.slice none 0 0,.slice none 0 0,.int .i64 0] 31)):=X_;have HQ:=hid (Blk.new w 31 [.int .i64 0,.int .i64 0,.int .i64 0,.int .i64 0,.bool false,.int .i64 0,.int .i64 0,.int .i64 0,.slice none 0 0,.slice none 0 0,.slice none 0 0,.int .i64 0]);have HC0:=hid (hc.ext x0);have HX0:=hid x0;have z1:(w.alloc (.cells #[.int .i64 0,.int .i64 0,.int .i64 0,.int .i64 0,.bool false,.int .i64 0,.int .i64 0,.int .i64 0,.slice none 0 0,.slice none 0 0,.slice none 0 0,.int .i64 0] 31)).heap.size=w.heap.size+1:=World.size_alloc _ _;clear hc x0;go_enter Tryz.func85,Tryz.ntmps85;go_wp2_with fail;refine (l08Draw_any hi B _ HC0.out).mono ?_;rintro e w1 ⟨c,rfl,hcm,C1,G1⟩;have HCM:=hid hcm;clear hcm;go_wp2_with fail;refine (l15Draw_any hi B _ C1).mono ?_;rintro e w2 ⟨tv,t,rfl,OT,okt,C2,G2⟩;obtain ⟨tu,rfl,hlog,o2⟩:=OT;obtain ⟨ta,tc,rfl,tlen⟩:=o2.form;have HOK:=hid okt;have HO2:=hid o2;clear o2 okt tlen;go_wp2_with fail;refine (l01Pick_any hi B w2.heap.size 3 [1,1,2] _ (C2.ext X_) (Blk.new w2 3 [.int .i64 1,.int .i64 1,.int .i64 2]) (by have:=C2.lt;omega) rfl (by decide) (by decide)).mono ?_;rintro e w3 ⟨side,rfl,hside,C3,G3⟩
 have hs2:side=1∨side=2:=by simp at hside;omega
 have gp:Gr B w2 w3:=((Gr.refl B w2).ext (show Ext w2 (w2.alloc (.cells #[.int .i64 1,.int .i64 1,.int .i64 2] 3)) from X_)).trans G3;have GG:=((Gr.refl B w).ext HX0.out).trans (G1.trans (G2.trans gp));have RR:=(G1.trans (G2.trans gp)).blk HQ.out (by omega);have zw1:=G1.size
 have O3:=(HO2.out.kept (w':=w3) (fun k h1 h2=>gp.keep h2 (by omega)))
 have HO3:=hid (O3.low (lo':=w.heap.size) (by omega));have HG:=hid GG;have HR:=hid RR;have HC3:=hid C3;have HSD:=hid hs2;have z3:=GG.size;have l3:=RR.lt;clear C1 G1 C2 G2 C3 G3 gp GG RR hside hs2 HC0 HQ HX0 O3 HO2 zw1;go_upto_region 2 with (show wpList _ _ _ [_] _ _;refine wpList_store_fresh _ _ _ rfl 31 (.tmp 3) (.tmp 13) rfl rfl #[.int .i64 c.w,.int .i64 c.h,.int .i64 c.zoom,.int .i64 c.near,.bool c.deep,.int .i64 c.lens,.int .i64 c.focus,.int .i64 t.log,.slice ta t.px.length tc,.slice none 0 0,.slice none 0 0,.int .i64 side] w3.heap.size rfl rfl rfl (by kernel_rfl) (by kernel_rfl) (by kernel_rfl) ?_)
 obtain ⟨A,hA⟩:∃A,w3.heap.size=A:=⟨_,rfl⟩
 rw [hA];have b4:=Blk.new w3 31 [.int .i64 c.w,.int .i64 c.h,.int .i64 c.zoom,.int .i64 c.near,.bool c.deep,.int .i64 c.lens,.int .i64 c.focus,.int .i64 t.log,.slice ta t.px.length tc,.slice none 0 0,.slice none 0 0,.int .i64 side];have x4:Ext w3 (w3.alloc (.cells #[.int .i64 c.w,.int .i64 c.h,.int .i64 c.zoom,.int .i64 c.near,.bool c.deep,.int .i64 c.lens,.int .i64 c.focus,.int .i64 t.log,.slice ta t.px.length tc,.slice none 0 0,.slice none 0 0,.int .i64 side] 31)):=X_
 have z4:(w3.alloc (.cells #[.int .i64 c.w,.int .i64 c.h,.int .i64 c.zoom,.int .i64 c.near,.bool c.deep,.int .i64 c.lens,.int .i64 c.focus,.int .i64 t.log,.slice ta t.px.length tc,.slice none 0 0,.slice none 0 0,.int .i64 side] 31)).heap.size=A+1:=by rw [World.size_alloc,hA]
 rw [hA] at b4;have HG4:=hid (HG.out.ext x4);have HR4:=hid (HR.out.ext x4);have HC4:=hid (HC3.out.ext x4);have HO4:=hid (HO3.out.ext x4)
 obtain ⟨W4,hW4⟩:∃W,w3.alloc (.cells #[.int .i64 c.w,.int .i64 c.h,.int .i64 c.zoom,.int .i64 c.near,.bool c.deep,.int .i64 c.lens,.int .i64 c.focus,.int .i64 t.log,.slice ta t.px.length tc,.slice none 0 0,.slice none 0 0,.int .i64 side] 31)=W:=⟨_,rfl⟩
 rw [hW4] at HG4 HR4 HC4 HO4 b4 z4 ⊢;have HB4:=hid b4
 have hBA:B<A:=by omega
 have hRA:w.heap.size<A:=by omega
 have hBlo:B<w.heap.size:=zB;have HZ4:=hid z4;clear hW4 x4 HG HR HC3 HO3 hA z3 l3 z4 b4 zB z1;go_wp2_with fail;refine (l01Below_any hi B 2 _ HC4.out (by decide) ⟨by decide,by decide⟩).mono ?_;rintro e w5 ⟨nn,rfl,hnn,C5,G5⟩
 obtain ⟨N,hN⟩:∃N:Nat,1+nn=(N:Int):=⟨(1+nn).toNat,by omega⟩
 have hN12:1≤N∧N≤2:=by omega
 have HB5:=hid (G5.blk HB4.out (by omega));have HR5:=hid (G5.blk HR4.out (by omega));have HC5:=hid C5;have HG5:=hid (HG4.out.trans G5);have HO5:=hid (HO4.out.kept (w':=w5) (fun k h1 h2=>G5.keep h2 (by omega)));have z5:=G5.size
 have z55:A+1≤w5.heap.size:=by have:=HZ4.out;omega
 have HNN:=hid hN;clear C5 G5 HB4 HR4 HC4 HG4 HO4 hN z5;go_wp2_with fail;clear hnn
 go_loopw [4] (fun i wr=>∃(j:Nat) (ps:List Prg) (hp:Nat) (pa:Option Addr) (pc:Nat),i = .int .i64 (j:Nat)∧ps.length+j=N∧(∀p∈ps,p.bd∧p.small∧p.chkB=true)∧A+1≤hp∧Blk wr A 31 [.int .i64 c.w,.int .i64 c.h,.int .i64 c.zoom,.int .i64 c.near,.bool c.deep,.int .i64 c.lens,.int .i64 c.focus,.int .i64 t.log,.slice ta t.px.length tc,.slice pa ps.length pc,.slice none 0 0,.int .i64 side]∧Blk wr w.heap.size 31 [.int .i64 0,.int .i64 0,.int .i64 0,.int .i64 0,.bool false,.int .i64 0,.int .i64 0,.int .i64 0,.slice none 0 0,.slice none 0 0,.slice none 0 0,.int .i64 0]∧OwnInts w.heap.size wr (.slice ta t.px.length tc) t.px∧PRow (A+1) hp wr (.slice pa ps.length pc) ps∧Cur hi wr B∧Gr B w wr) (fun i _=>(intOf i).toNat)
 case atStart=>exact ⟨N,[],A+1,none,0,by rw [HNN.out],by simp,fun p h=>absurd h List.not_mem_nil,Nat.le_refl _,HB5.out,HR5.out,HO5.out,PRow.nil z55,HC5.out,HG5.out⟩
 case round=>
  obtain ⟨j,ps,hp,pa,pc,rfl,hj,hps,hhp,b,r,o,pr,C,G⟩:=hrel;have HB:=hid b;have HR:=hid r;have HO:=hid o;have HP:=hid pr;have HC:=hid C;have HG:=hid G;have HPS:=hid hps;have HJ:=hid hj;have zr:=G.size;clear r o pr C G hps HB5 HR5 HC5 HG5 HO5 hj
  rcases Nat.eq_zero_or_pos j with rfl|hpos
  ·clear b
   go_wp2_with fail;have HB1:=HB;refine (l01Below_any hi B 4 _ HC.out (by decide) ⟨by decide,by decide⟩).mono ?_;rintro e w6 ⟨mm,rfl,hmm,C6,G6⟩
   obtain ⟨M,hM⟩:∃M:Nat,mm=(M:Int):=⟨mm.toNat,by omega⟩
   subst hM
   have hM3:M≤3:=by omega
   have hnp:1≤ps.length∧ps.length≤3:=by have:=HJ.out;omega
   have hnp2:1≤ps.length∧ps.length≤2:=by have:=HJ.out;omega
   have HN:=hid hnp;have HN2:=hid hnp2
   obtain ⟨hq,hhq⟩:∃q,w6.heap.size=q:=⟨_,rfl⟩
   have zw6:=G6.size;have hpw:=HP.out.1;have P6:PRow (A+1) hp w6 (.slice pa ps.length pc) ps:=HP.out.gr G6 (by omega)
   have M6:ScM w.heap.size (A+1) hp w6 t (.slice ta t.px.length tc) (.slice pa ps.length pc) (.slice none 0 0) ps []:=⟨HO.out.kept (fun k h1 h2=>G6.keep h2 (by omega)),P6,OwnG.nil _ _ _ _ _⟩
   have HM6:=hid M6;have HB6:=hid (G6.blk HB.out (by omega));have HR6:=hid (G6.blk HR.out (by omega));have HC6:=hid C6;have HG6:=hid (HG.out.trans G6)
   have hlp:w.heap.size≤A+1:=by omega
   have hhp0:w.heap.size≤hp:=by omega
   clear C6 G6 P6 M6 HB HB1 HR HC HG HO HP hmm hhq hnp hnp2;go_wp2_with fail
   go_loopw [5] (fun i wr=>∃(j:Nat) (xs:List Srf) (sa:Option Addr) (sc:Nat),i = .int .i64 (j:Nat)∧xs.length+j=M∧(∀x∈xs,SrfSm x.f x.g x.sh x.rt ps.length)∧Blk wr w.heap.size 31 [.int .i64 0,.int .i64 0,.int .i64 0,.int .i64 0,.bool false,.int .i64 0,.int .i64 0,.int .i64 0,.slice none 0 0,.slice none 0 0,.slice none 0 0,.int .i64 0]∧Blk wr A 31 [.int .i64 c.w,.int .i64 c.h,.int .i64 c.zoom,.int .i64 c.near,.bool c.deep,.int .i64 c.lens,.int .i64 c.focus,.int .i64 t.log,.slice ta t.px.length tc,.slice pa ps.length pc,.slice sa xs.length sc,.int .i64 side]∧ScM w.heap.size (A+1) hp wr t (.slice ta t.px.length tc) (.slice pa ps.length pc) (.slice sa xs.length sc) ps xs∧Cur hi wr B∧Gr B w wr) (fun i _=>(intOf i).toNat)
   case atStart=>exact ⟨M,[],none,0,rfl,by simp,fun x h=>absurd h List.not_mem_nil,HR6.out,HB6.out,HM6.out,HC6.out,HG6.out⟩
   case round=>
    obtain ⟨j,xs,sa,sc,rfl,hj,hxs0,r,b,m,C,G⟩:=hrel;have HB:=hid b;have HR:=hid r;have HM:=hid m;have HC:=hid C;have HG:=hid G;have HXS0:=hid hxs0;have HL:=hid (show xs.length≤3 by omega);have HJ2:=hid hj;have hAx:A<A+1∨hp≤A:=.inl (by omega);clear r b m C G hxs0 hj HB6 HR6 HC6 HG6 HM6
    rcases Nat.eq_zero_or_pos j with rfl|hpos
    ·have bA:=HB.out.rangeB
     have bR:=HR.out;have zr2:=HG.out.size;have hpz:=HM.out.prg.1;go_wp2_with (first|(show wpList _ _ _ [_,_] _ _;refine wpList_load_mid rfl _ _ rfl A 0 rfl [.int .i64 c.w,.int .i64 c.h,.int .i64 c.zoom,.int .i64 c.near,.bool c.deep,.int .i64 c.lens,.int .i64 c.focus,.int .i64 t.log,.slice ta t.px.length tc,.slice pa ps.length pc,.slice sa xs.length sc,.int .i64 side] _ bA Tryz.underlying31 rfl info_ScnT ?_)|(show wpList _ _ _ [_] _ _;refine wpList_store_rowTo rfl _ _ _ rfl rfl w.heap.size #[.int .i64 c.w,.int .i64 c.h,.int .i64 c.zoom,.int .i64 c.near,.bool c.deep,.int .i64 c.lens,.int .i64 c.focus,.int .i64 t.log,.slice ta t.px.length tc,.slice pa ps.length pc,.slice sa xs.length sc,.int .i64 side] rfl rfl 31 _ bR info_ScnT rfl (by kernel_rfl) ?_));have bF:=Blk.rowB HR.out [.int .i64 c.w,.int .i64 c.h,.int .i64 c.zoom,.int .i64 c.near,.bool c.deep,.int .i64 c.lens,.int .i64 c.focus,.int .i64 t.log,.slice ta t.px.length tc,.slice pa ps.length pc,.slice sa xs.length sc,.int .i64 side];clear bA bR;refine ret_box rfl rfl bF _ Tryz.underlying31 rfl info_ScnT rfl ?_;exact ⟨c,t,side,ps,xs,A+1,hp,ta,tc,pa,pc,sa,sc,rfl,⟨HCM.out,HOK.out,HSD.out,HN2.out,HPS.out,HL.out,HXS0.out⟩,hlp,hhp0,by rw [size_setRowB];exact hpz,HM.out.row HR.out (.inl (by omega)) _,HC.out.rowNew (by omega) _,HG.out.rowNew (Nat.le_refl _) _⟩
    ·have hBlo2:=hBlo
     have hhp:=hhp0
     obtain ⟨j',rfl⟩:∃j',j=j'+1:=⟨j - 1,by omega⟩
     have hj3:j'≤3:=by have:=HJ2.out;omega
     go_upto_region 9 with fail;have b:=HB.out;have c9:=b.cell 9 rfl;have c10:=b.cell 10 rfl;have lA:=b.lt;have zr:=HG.out.size;clear b;refine wp_region_stagesS [([0,1,2,3,4,5],6),([],7),([],8),([9],10)] 10 (fun w'=>∃d,w'=lowc (CBox A) _ d) (by kernel_rfl) (by kernel_rfl) (SC.drew _ _) ?_;refine sc_ fun K hK=>?_;go_wp2_with fail;refine (l20Surf_any hi B ps.length HN.out _ (HC.out.ext (Ext.drew (Ext.refl _)))).mono ?_;rintro e v1 ⟨f,g,sh,rt,rfl,hS,C1,G1⟩;have g1:Gr B wr v1:=((Gr.refl B wr).ext (Ext.drew (Ext.refl _))).trans G1;go_wp2_with fail;refine hK _ _ (.inr (SC.blocks fun a ha=>g1.keep (by rw [ha];exact lA) (by rw [ha];omega))) ?_;clear hK K;have x5:Ext v1 (v1.alloc (.cells #[.int .i64 (f 0),.int .i64 (f 1),.int .i64 (f 2),.int .i64 (f 3),.int .i64 (f 4),.int .i64 (f 5),.int .i64 (f 6),.int .i64 (f 7),.int .i64 (f 8),.int .i64 (f 9),.int .i64 (f 10),.int .i64 (f 11),.int .i64 (g 0),.int .i64 (g 1),.int .i64 (g 2),.int .i64 (g 3),.int .i64 (g 4),.int .i64 (g 5),.int .i64 (g 6),.int .i64 (g 7),.int .i64 (g 8),.int .i64 (g 9),.int .i64 (g 10),.int .i64 (g 11),.int .i64 sh,.int .i64 rt] 42)):=X_;have g5:Gr B wr (v1.alloc (.cells #[.int .i64 (f 0),.int .i64 (f 1),.int .i64 (f 2),.int .i64 (f 3),.int .i64 (f 4),.int .i64 (f 5),.int .i64 (f 6),.int .i64 (f 7),.int .i64 (f 8),.int .i64 (f 9),.int .i64 (f 10),.int .i64 (f 11),.int .i64 (g 0),.int .i64 (g 1),.int .i64 (g 2),.int .i64 (g 3),.int .i64 (g 4),.int .i64 (g 5),.int .i64 (g 6),.int .i64 (g 7),.int .i64 (g 8),.int .i64 (g 9),.int .i64 (g 10),.int .i64 (g 11),.int .i64 sh,.int .i64 rt] 42)):=g1.ext x5;have M5:=(HM.out.gr g1 hBlo hlp hhp).ext x5;have C5:=C1.ext x5;have bE:=Blk.new v1 42 [.int .i64 (f 0),.int .i64 (f 1),.int .i64 (f 2),.int .i64 (f 3),.int .i64 (f 4),.int .i64 (f 5),.int .i64 (f 6),.int .i64 (f 7),.int .i64 (f 8),.int .i64 (f 9),.int .i64 (f 10),.int .i64 (f 11),.int .i64 (g 0),.int .i64 (g 1),.int .i64 (g 2),.int .i64 (g 3),.int .i64 (g 4),.int .i64 (g 5),.int .i64 (g 6),.int .i64 (g 7),.int .i64 (g 8),.int .i64 (g 9),.int .i64 (g 10),.int .i64 (g 11),.int .i64 sh,.int .i64 rt];have b5:=g5.blk HB.out (by omega);have HSS:=hid hS;have HM5:=hid M5;have HC5:=hid C5;have HG5:=hid g5;have HE:=hid bE;have HB5:=hid b5;have z5:=g5.size;clear hS M5 C5 bE b5 C1 G1 x5 g5;refine sc_ fun K hK=>?_;go_wp2_with fail;refine hK _ _ (.inr (SC.blocks fun a ha=>HG5.out.keep (by rw [ha];exact lA) (by rw [ha];omega))) ?_;clear hK K g1;refine sc_ fun K hK=>?_
     refine wpList_append_at Srf.cs 42 26 208 _ _ rfl _ _ 29 rfl Tryz.underlying29 info_SrfT rfl (by decide) (by decide) (fun _=>rfl) hp (.slice sa xs.length sc) xs rfl HM5.out.srf ⟨f,g,sh,rt⟩ v1.heap.size rfl (fun j hj=>by
       have e1:(Srf.cs ⟨f,g,sh,rt⟩)[j]?=some ((Srf.cs ⟨f,g,sh,rt⟩)[j]'(by rw [Srf.cs_len];exact hj)):=List.getElem?_eq_getElem _
       exact (HE.out.cell j e1).trans e1.symm) (Srf.one _) (by have:=HL.out;omega) (by have h1:=HM5.out.prg.1;exact h1) ?_
     intro v2 w2 hown hgr hat
     obtain ⟨xs',hxs⟩:∃xs',xs++[(⟨f,g,sh,rt⟩:Srf)]=xs':=⟨_,rfl⟩
     rw [hxs] at hown;obtain ⟨sa2,sc2,rfl,_⟩:=OwnG.form hown;have hrow:=OwnG.rowS HM5.out.srf
     have b6:=HB5.out.grown hgr (fun e=>by
       obtain ⟨_,cc,hcc⟩:=hrow _ e.symm
       exact HB5.out.neRow hcc (by decide) rfl)
     have HXS:=hid hxs;have HB6:=hid b6;have HM6:=hid (HM5.out.push hgr hown);have HC6:=hid (HC5.out.grown hgr (fun k e=>by have:=(hrow k e).1;omega));have HG6:=hid ((HG.out.trans HG5.out).step hgr (fun k e=>by have:=(hrow k e).1;omega));have HRR:=hid ((HG5.out.blk HR.out (by omega)).grown hgr (fun e=>by have:=(hrow _ e.symm).1;omega))
     have HKP:=hid (show ∀a,CBox A a→w2.heap[a.block]?=wr.heap[a.block]? from fun a ha=>(hgr.block _ (by rw [ha];omega) (fun e=>by
       obtain ⟨_,cc,hcc⟩:=hrow _ e.symm;rw [ha] at hcc
       exact HB5.out.neRow hcc (by decide) rfl)).trans (HG5.out.keep (by rw [ha];exact lA) (by rw [ha];omega)))
     have c10':=b6.cell 10 rfl;have k10:=b6.free 10;have l6:=b6.lt;clear hown hgr hat hrow hxs b6 c9 c10;go_wp2_with fail;refine hK _ _ (.inr (SC.blocks HKP.out)) ?_;clear hK K
     try simp only [Act.put,List.getElem_toArray,List.getElem_cons_succ,List.getElem_cons_zero,List.setIfInBounds_toArray,List.set_cons_succ,List.set_cons_zero]
     refine sc_ fun K hK=>?_;go_wp2_with fail;refine hK _ _ (.inl trivial) ?_;clear hK K;refine wpStagesS_nil ?_;go_wp2;go_roundw
     case rel=>
      refine ⟨j',xs',sa2,sc2,by go_num,?_,?_,?_,HB6.out.set 10 _,HM6.out.set HB6.out hAx 10 _,HC6.out.setNew (by omega) 10 _,HG6.out.setNew (by omega) 10 _⟩
      ·rw [←HXS.out,List.length_append,List.length_singleton]
       have:=HJ2.out;omega
      ·rw [←HXS.out]
       intro y hy
       rcases List.mem_append.1 hy with hy|hy
       ·exact HXS0.out y hy
       ·rw [List.mem_singleton.1 hy]
        exact HSS.out
      ·exact HRR.out.other (by simp only;omega) _
     case measure=>simp [intOf]
  ·have c9:=b.cell 9 rfl
   have lA:=b.lt;have hpw:=HP.out.1;obtain ⟨_,us,hus,hown0,hR0⟩:=HP.out;have HUS:=hid hus;have HOW:=hid hown0;have HR0:=hid hR0;obtain ⟨pa',pc',he,_⟩:=OwnG.form hown0;have HPE:=hid he;clear b hus hown0 hR0 he;go_upto_region 5 with fail;refine wp_region_stagesS [([0,1,2],3),([],4),([],5),([6],7)] 7 (fun w'=>∃d,w'=lowc (CBox A) _ d) (by kernel_rfl) (by kernel_rfl) (SC.drew _ _) ?_;refine sc_ fun K hK=>?_;go_wp2_with fail;have Cd:=HC.out.ext (Ext.drew (Ext.refl wr));refine (l14Good_cur hi B _ Cd).mono ?_;rintro e v1 ⟨p,u,rfl,R1,bd1,sm1,ch1,C1,G1⟩;obtain ⟨na,nc,ga,gc,rfl,-,-⟩:=R1.form;have g1:Gr B wr v1:=((Gr.refl B wr).ext (Ext.drew (Ext.refl _))).trans G1;go_wp2_with fail;refine hK _ _ (.inr (SC.blocks fun a ha=>g1.keep (by rw [ha];exact lA) (by rw [ha];omega))) ?_;clear hK K;have x5:Ext v1 (v1.alloc (.cells #[.slice na p.ns.length nc,.slice ga p.gs.length gc] 132)):=X_;have g5:Gr B wr (v1.alloc (.cells #[.slice na p.ns.length nc,.slice ga p.gs.length gc] 132)):=g1.ext x5;have bE:=Blk.new v1 132 [.slice na p.ns.length nc,.slice ga p.gs.length gc];have b5:=g5.blk HB.out (by omega);have OW5:=OwnG.of (w':=v1.alloc (.cells #[.slice na p.ns.length nc,.slice ga p.gs.length gc] 132)) HOW.out fun b c hb hc=>(g5.keep (Array.getElem?_eq_some_iff.1 hc).1 (by omega)).trans hc;have HP1:=hid (⟨bd1,sm1,ch1⟩:p.bd∧p.small∧p.chkB=true);have HR1:=hid R1;have HX5:=hid x5;have HC5:=hid (C1.ext x5);have HG1:=hid g1;have HG5:=hid g5;have HE:=hid bE;have HB5:=hid b5;have HOW5:=hid OW5;have z5:=g5.size;clear C1 G1 x5 g5 bE b5 OW5 bd1 sm1 ch1 R1;refine sc_ fun K hK=>?_;go_wp2_with fail;refine hK _ _ (.inr (SC.blocks fun a ha=>HG5.out.keep (by rw [ha];exact lA) (by rw [ha];omega))) ?_;clear hK K g1;refine sc_ fun K hK=>?_
   refine wpList_append_at pairCs 132 2 48 _ _ rfl _ _ 28 rfl Tryz.underlying28 info_PrgT rfl (by decide) (by decide) (fun _=>rfl) (A+1) (.slice pa ps.length pc) us rfl HOW5.out (.slice na p.ns.length nc,.slice ga p.gs.length gc) v1.heap.size rfl (fun j hj=>by
     rcases (show j=0∨j=1 by omega) with rfl|rfl
     ·exact HE.out.cell 0 rfl
     ·exact HE.out.cell 1 rfl) (pair_one _ rfl rfl) (by have:=HUS.out;have:=HJ.out;omega) (by omega) ?_
   intro v2 w2 hown hgr hat;obtain ⟨pa2,pc2,he2,_⟩:=OwnG.form hown
   have hl2:(us++[((.slice na p.ns.length nc,.slice ga p.gs.length gc):Value×Value)]).length=(ps++[p]).length:=by simp [HUS.out]
   rw [hl2] at he2;have hrow:=OwnG.rowS HOW5.out;have hvl:∀k,(Value.slice pa ps.length pc).ownBlock=some k→A+1≤k∧k<wr.heap.size:=fun k hk=>HOW.out.lt k hk;have PP:=PRow.push (lo:=A+1) HP.out.1 (by omega) HG1.out (by omega) HR1.out HUS.out HR0.out hvl HX5.out hown hgr hat
   obtain ⟨ps',hps'⟩:∃ps',ps++[p]=ps':=⟨_,rfl⟩
   rw [hps'] at he2 PP;subst he2
   have b6:=HB5.out.grown hgr (fun e=>by
     obtain ⟨_,cc,hcc⟩:=hrow _ e.symm
     exact HB5.out.neRow hcc (by decide) rfl)
   have r6:=(HG5.out.blk HR.out (by omega)).grown hgr (fun e=>by have:=(hrow _ e.symm).1;omega)
   have o6:=(HO.out.kept (fun k h1 h2=>HG5.out.keep h2 (by omega))).grown hgr (fun k hk e=>by
     obtain ⟨_,cc,hcc⟩:=hrow k e.symm;obtain ⟨c',hc'⟩:=(HO.out.kept (fun k h1 h2=>HG5.out.keep h2 (by omega))).block hk;rw [hc'] at hcc;simp only [Option.some.injEq,Obj.cells.injEq] at hcc
     exact absurd hcc.2.1 (by decide))
   have HPP:=hid PP;have HPE2:=hid hps';have HB6:=hid b6;have HR6:=hid r6;have HO6:=hid o6;have HC6:=hid (HC5.out.grown hgr (fun k e=>by have:=(hrow k e).1;omega));have HG6:=hid ((HG.out.trans HG5.out).step hgr (fun k e=>by have:=(hrow k e).1;omega))
   have HKP:=hid (show ∀a,CBox A a→w2.heap[a.block]?=wr.heap[a.block]? from fun a ha=>(hgr.block _ (by rw [ha];omega) (fun e=>by
     obtain ⟨_,cc,hcc⟩:=hrow _ e.symm;rw [ha] at hcc
     exact HB5.out.neRow hcc (by decide) rfl)).trans (HG5.out.keep (by rw [ha];exact lA) (by rw [ha];omega)))
   have hz1:wr.heap.size≤v1.heap.size:=HG1.out.size;have c9':=b6.cell 9 rfl;have k9:=b6.free 9;have l6:=b6.lt;clear hown hgr hat hrow hvl PP hps' b6 r6 o6 c9 hl2;go_wp2_with fail;refine hK _ _ (.inr (SC.blocks HKP.out)) ?_;clear hK K
   try simp only [Act.put,List.getElem_toArray,List.getElem_cons_succ,List.getElem_cons_zero,List.setIfInBounds_toArray,List.set_cons_succ,List.set_cons_zero]
   refine sc_ fun K hK=>?_;go_wp2_with fail;refine hK _ _ (.inl trivial) ?_;clear hK K;refine wpStagesS_nil ?_
   obtain ⟨j',rfl⟩:∃j',j=j'+1:=⟨j - 1,by omega⟩
   have hj3:j'≤3:=by have:=HJ.out;omega
   go_wp2;go_roundw
   case rel=>
    refine ⟨j',ps',v1.heap.size,pa2,pc2,by go_num,?_,?_,by omega,HB6.out.set 9 _,HR6.out.other (by simp only;omega) _,HO6.out.setOther (ints_ne_box HO6.out HB6.out (by decide)) _,HPP.out.set HB6.out (by decide) (.inl (by omega)) 9 _,HC6.out.setNew (by omega) 9 _,HG6.out.setNew (by omega) 9 _⟩
    ·rw [←HPE2.out,List.length_append,List.length_singleton]
     have:=HJ.out;omega
    ·rw [←HPE2.out]
     intro q hq
     rcases List.mem_append.1 hq with hq|hq
     ·exact HPS.out q hq
     ·rw [List.mem_singleton.1 hq]
      exact HP1.out
   case measure=>simp [intOf]
theorem l32Scene_any (hi B:Nat) (w:World) (hc:Cur hi w B):Calls Tryz.prog 33 #[.pointer (some ⟨B,0,none⟩)] w fun e w'=>∃(c:Cam) (t:Tex) (side:Int) (ps:List Prg) (xs:List Srf) (lp hp:Nat) (ta:Option Addr) (tc:Nat) (pa:Option Addr) (pc:Nat) (sa:Option Addr) (sc:Nat),
  e = .returned (.agg #[.int .i64 c.w,.int .i64 c.h,.int .i64 c.zoom,.int .i64 c.near,.bool c.deep,.int .i64 c.lens,.int .i64 c.focus,.int .i64 t.log,.slice ta t.px.length tc,.slice pa ps.length pc,.slice sa xs.length sc,.int .i64 side])∧ScSm c t side ps xs∧1≤xs.length∧w.heap.size≤lp∧w.heap.size≤hp∧hp≤w'.heap.size∧ScM w.heap.size lp hp w' t (.slice ta t.px.length tc) (.slice pa ps.length pc) (.slice sa xs.length sc) ps xs∧Cur hi w' B∧Gr B w w':=by
 have zB:=hc.lt;have x0:Ext w (w.alloc (.cells #[.int .i64 0,.int .i64 0,.int .i64 0,.int .i64 0,.bool false,.int .i64 0,.int .i64 0,.int .i64 0,.slice none 0 0,.slice none 0 0,.slice none 0 0,.int .i64 0] 31)):=X_;have HQ:=hid (Blk.new w 31 [.int .i64 0,.int .i64 0,.int .i64 0,.int .i64 0,.bool false,.int .i64 0,.int .i64 0,.int .i64 0,.slice none 0 0,.slice none 0 0,.slice none 0 0,.int .i64 0]);have HC0:=hid (hc.ext x0);have HX0:=hid x0;have z1:(w.alloc (.cells #[.int .i64 0,.int .i64 0,.int .i64 0,.int .i64 0,.bool false,.int .i64 0,.int .i64 0,.int .i64 0,.slice none 0 0,.slice none 0 0,.slice none 0 0,.int .i64 0] 31)).heap.size=w.heap.size+1:=World.size_alloc _ _;clear hc x0;go_enter Tryz.func33,Tryz.ntmps33;go_wp2_with fail;refine (l20Draw_any hi B _ HC0.out).mono ?_;rintro e w3 ⟨c,t,side,ps,xs0,lp,hp,ta,tc,pa,pc,sa0,sc0,rfl,hsm,hlp0,hhp0,hpw,m3,C3,G3⟩;have GG:=((Gr.refl B w).ext HX0.out).trans G3;have HR3:=hid (G3.blk HQ.out (by omega));have HG3:=hid GG;have HC3:=hid C3;have HM3:=hid (m3.low (lo':=w.heap.size) (by omega));have HSM:=hid hsm;have HN:=hid (show 1≤ps.length∧ps.length≤3 by have:=hsm.n;omega);have z3:=G3.size;have l3:=HR3.out.lt
 have hlps:w.heap.size<lp:=by omega
 have hhps:w.heap.size<hp:=by omega
 have hlp:w.heap.size≤lp:=by omega
 have hhp:w.heap.size≤hp:=by omega
 clear GG G3 C3 m3 hsm HC0 HQ HX0;go_wp2_with (show wpList _ _ _ [_] _ _;refine wpList_store_fresh _ _ _ rfl 31 (.tmp 3) (.tmp 5) rfl rfl #[.int .i64 c.w,.int .i64 c.h,.int .i64 c.zoom,.int .i64 c.near,.bool c.deep,.int .i64 c.lens,.int .i64 c.focus,.int .i64 t.log,.slice ta t.px.length tc,.slice pa ps.length pc,.slice sa0 xs0.length sc0,.int .i64 side] w3.heap.size rfl rfl rfl (by kernel_rfl) (by kernel_rfl) (by kernel_rfl) ?_)
 obtain ⟨A,hA⟩:∃A,w3.heap.size=A:=⟨_,rfl⟩
 rw [hA];have b4:=Blk.new w3 31 [.int .i64 c.w,.int .i64 c.h,.int .i64 c.zoom,.int .i64 c.near,.bool c.deep,.int .i64 c.lens,.int .i64 c.focus,.int .i64 t.log,.slice ta t.px.length tc,.slice pa ps.length pc,.slice sa0 xs0.length sc0,.int .i64 side];have x4:Ext w3 (w3.alloc (.cells #[.int .i64 c.w,.int .i64 c.h,.int .i64 c.zoom,.int .i64 c.near,.bool c.deep,.int .i64 c.lens,.int .i64 c.focus,.int .i64 t.log,.slice ta t.px.length tc,.slice pa ps.length pc,.slice sa0 xs0.length sc0,.int .i64 side] 31)):=X_;rw [hA] at b4;have HG4:=hid (HG3.out.ext x4);have HR4:=hid (HR3.out.ext x4);have HC4:=hid (HC3.out.ext x4);have HM4:=hid (HM3.out.ext x4)
 obtain ⟨W4,hW4⟩:∃W,w3.alloc (.cells #[.int .i64 c.w,.int .i64 c.h,.int .i64 c.zoom,.int .i64 c.near,.bool c.deep,.int .i64 c.lens,.int .i64 c.focus,.int .i64 t.log,.slice ta t.px.length tc,.slice pa ps.length pc,.slice sa0 xs0.length sc0,.int .i64 side] 31)=W:=⟨_,rfl⟩
 rw [hW4] at HG4 HR4 HC4 HM4 b4 ⊢;have HB4:=hid b4
 have hBA:B<A:=by omega
 have hRA:w.heap.size<A:=by omega
 have hBlo:B<w.heap.size:=zB;have hAx:A<lp∨hp≤A:=.inr (by omega);clear hW4 x4 HG3 HR3 HC3 HM3 hA z3 l3 b4 zB z1 hlp0 hhp0 hpw
 go_loopg [] 1 (fun k wr=>∃(xs:List Srf) (sa:Option Addr) (sc:Nat),1≤xs.length+k∧k≤1∧xs.length≤3∧(∀x∈xs,SrfSm x.f x.g x.sh x.rt ps.length)∧Blk wr w.heap.size 31 [.int .i64 0,.int .i64 0,.int .i64 0,.int .i64 0,.bool false,.int .i64 0,.int .i64 0,.int .i64 0,.slice none 0 0,.slice none 0 0,.slice none 0 0,.int .i64 0]∧Blk wr A 31 [.int .i64 c.w,.int .i64 c.h,.int .i64 c.zoom,.int .i64 c.near,.bool c.deep,.int .i64 c.lens,.int .i64 c.focus,.int .i64 t.log,.slice ta t.px.length tc,.slice pa ps.length pc,.slice sa xs.length sc,.int .i64 side]∧ScM w.heap.size lp hp wr t (.slice ta t.px.length tc) (.slice pa ps.length pc) (.slice sa xs.length sc) ps xs∧Cur hi wr B∧Gr B w wr)
 case atStart=>exact ⟨xs0,sa0,sc0,by omega,by omega,HSM.out.m,HSM.out.srf,HR4.out,HB4.out,HM4.out,HC4.out,HG4.out⟩
 case round=>
  obtain ⟨xs,sa,sc,hk1,hk2,hm3,hxs0,r,b,m,C,G⟩:=hrel;have HB:=hid b;have HR:=hid r;have HM:=hid m;have HC:=hid C;have HG:=hid G;have HXS0:=hid hxs0;have HL:=hid hm3;have d10:=b.cell 10 rfl;have ld:=b.lt;clear r b m C G hxs0 HB4 HR4 HC4 HG4 HM4
  rcases Nat.eq_zero_or_pos xs.length with h0|hpos
  ·have hx0:(xs.length:Int)=0:=by omega
   go_upto_region 3 with fail;have H0:=hid h0;clear d10 ld h0 hx0;have b:=HB.out;have c9:=b.cell 9 rfl;have c10:=b.cell 10 rfl;have lA:=b.lt;have zr:=HG.out.size;clear b;refine wp_region_stagesS [([0,1,2,3,4,5],6),([],7),([],8),([9],10)] 10 (fun w'=>∃d,w'=lowc (CBox A) _ d) (by kernel_rfl) (by kernel_rfl) (SC.drew _ _) ?_;refine sc_ fun K hK=>?_;go_wp2_with fail;refine (l20Surf_any hi B ps.length HN.out _ (HC.out.ext (Ext.drew (Ext.refl _)))).mono ?_;rintro e v1 ⟨f,g,sh,rt,rfl,hS,C1,G1⟩;have g1:Gr B wr v1:=((Gr.refl B wr).ext (Ext.drew (Ext.refl _))).trans G1;go_wp2_with fail;refine hK _ _ (.inr (SC.blocks fun a ha=>g1.keep (by rw [ha];exact lA) (by rw [ha];omega))) ?_;clear hK K;have x5:Ext v1 (v1.alloc (.cells #[.int .i64 (f 0),.int .i64 (f 1),.int .i64 (f 2),.int .i64 (f 3),.int .i64 (f 4),.int .i64 (f 5),.int .i64 (f 6),.int .i64 (f 7),.int .i64 (f 8),.int .i64 (f 9),.int .i64 (f 10),.int .i64 (f 11),.int .i64 (g 0),.int .i64 (g 1),.int .i64 (g 2),.int .i64 (g 3),.int .i64 (g 4),.int .i64 (g 5),.int .i64 (g 6),.int .i64 (g 7),.int .i64 (g 8),.int .i64 (g 9),.int .i64 (g 10),.int .i64 (g 11),.int .i64 sh,.int .i64 rt] 42)):=X_;have g5:Gr B wr (v1.alloc (.cells #[.int .i64 (f 0),.int .i64 (f 1),.int .i64 (f 2),.int .i64 (f 3),.int .i64 (f 4),.int .i64 (f 5),.int .i64 (f 6),.int .i64 (f 7),.int .i64 (f 8),.int .i64 (f 9),.int .i64 (f 10),.int .i64 (f 11),.int .i64 (g 0),.int .i64 (g 1),.int .i64 (g 2),.int .i64 (g 3),.int .i64 (g 4),.int .i64 (g 5),.int .i64 (g 6),.int .i64 (g 7),.int .i64 (g 8),.int .i64 (g 9),.int .i64 (g 10),.int .i64 (g 11),.int .i64 sh,.int .i64 rt] 42)):=g1.ext x5;have M5:=(HM.out.gr g1 hBlo hlp hhp).ext x5;have C5:=C1.ext x5;have bE:=Blk.new v1 42 [.int .i64 (f 0),.int .i64 (f 1),.int .i64 (f 2),.int .i64 (f 3),.int .i64 (f 4),.int .i64 (f 5),.int .i64 (f 6),.int .i64 (f 7),.int .i64 (f 8),.int .i64 (f 9),.int .i64 (f 10),.int .i64 (f 11),.int .i64 (g 0),.int .i64 (g 1),.int .i64 (g 2),.int .i64 (g 3),.int .i64 (g 4),.int .i64 (g 5),.int .i64 (g 6),.int .i64 (g 7),.int .i64 (g 8),.int .i64 (g 9),.int .i64 (g 10),.int .i64 (g 11),.int .i64 sh,.int .i64 rt];have b5:=g5.blk HB.out (by omega);have HSS:=hid hS;have HM5:=hid M5;have HC5:=hid C5;have HG5:=hid g5;have HE:=hid bE;have HB5:=hid b5;have z5:=g5.size;clear hS M5 C5 bE b5 C1 G1 x5 g5;refine sc_ fun K hK=>?_;go_wp2_with fail;refine hK _ _ (.inr (SC.blocks fun a ha=>HG5.out.keep (by rw [ha];exact lA) (by rw [ha];omega))) ?_;clear hK K g1;refine sc_ fun K hK=>?_
   refine wpList_append_at Srf.cs 42 26 208 _ _ rfl _ _ 29 rfl Tryz.underlying29 info_SrfT rfl (by decide) (by decide) (fun _=>rfl) hp (.slice sa xs.length sc) xs rfl HM5.out.srf ⟨f,g,sh,rt⟩ v1.heap.size rfl (fun j hj=>by
     have e1:(Srf.cs ⟨f,g,sh,rt⟩)[j]?=some ((Srf.cs ⟨f,g,sh,rt⟩)[j]'(by rw [Srf.cs_len];exact hj)):=List.getElem?_eq_getElem _
     exact (HE.out.cell j e1).trans e1.symm) (Srf.one _) (by have:=HL.out;omega) (by have h1:=HM5.out.prg.1;exact h1) ?_
   intro v2 w2 hown hgr hat
   obtain ⟨xs',hxs⟩:∃xs',xs++[(⟨f,g,sh,rt⟩:Srf)]=xs':=⟨_,rfl⟩
   rw [hxs] at hown;obtain ⟨sa2,sc2,rfl,_⟩:=OwnG.form hown;have hrow:=OwnG.rowS HM5.out.srf
   have b6:=HB5.out.grown hgr (fun e=>by
     obtain ⟨_,cc,hcc⟩:=hrow _ e.symm
     exact HB5.out.neRow hcc (by decide) rfl)
   have HXS:=hid hxs;have HB6:=hid b6;have HM6:=hid (HM5.out.push hgr hown);have HC6:=hid (HC5.out.grown hgr (fun k e=>by have:=(hrow k e).1;omega));have HG6:=hid ((HG.out.trans HG5.out).step hgr (fun k e=>by have:=(hrow k e).1;omega));have HRR:=hid ((HG5.out.blk HR.out (by omega)).grown hgr (fun e=>by have:=(hrow _ e.symm).1;omega))
   have HKP:=hid (show ∀a,CBox A a→w2.heap[a.block]?=wr.heap[a.block]? from fun a ha=>(hgr.block _ (by rw [ha];omega) (fun e=>by
     obtain ⟨_,cc,hcc⟩:=hrow _ e.symm;rw [ha] at hcc
     exact HB5.out.neRow hcc (by decide) rfl)).trans (HG5.out.keep (by rw [ha];exact lA) (by rw [ha];omega)))
   have c10':=b6.cell 10 rfl;have k10:=b6.free 10;have l6:=b6.lt;clear hown hgr hat hrow hxs b6 c9 c10;go_wp2_with fail;refine hK _ _ (.inr (SC.blocks HKP.out)) ?_;clear hK K
   try simp only [Act.put,List.getElem_toArray,List.getElem_cons_succ,List.getElem_cons_zero,List.setIfInBounds_toArray,List.set_cons_succ,List.set_cons_zero]
   refine sc_ fun K hK=>?_;go_wp2_with fail;refine hK _ _ (.inl trivial) ?_;clear hK K;refine wpStagesS_nil ?_;go_wp2
   go_roundg 0
   case measure=>
    have:=H0.out;omega
   case rel=>
    refine ⟨xs',sa2,sc2,?_,by omega,?_,?_,?_,HB6.out.set 10 _,HM6.out.set HB6.out hAx 10 _,HC6.out.setNew (by omega) 10 _,HG6.out.setNew (by omega) 10 _⟩
    ·rw [←HXS.out,List.length_append,List.length_singleton]
     omega
    ·rw [←HXS.out,List.length_append,List.length_singleton]
     have:=H0.out;omega
    ·rw [←HXS.out]
     intro y hy
     rcases List.mem_append.1 hy with hy|hy
     ·exact HXS0.out y hy
     ·rw [List.mem_singleton.1 hy]
      exact HSS.out
    ·exact HRR.out.other (by simp only;omega) _
  ·have hx0 : ¬(xs.length:Int)=0:=by omega
   have bA:=HB.out.rangeB;have bR:=HR.out;have zr2:=HG.out.size;have hpz:=HM.out.prg.1;go_wp2_with (first|(show wpList _ _ _ [_,_] _ _;refine wpList_load_mid rfl _ _ rfl A 0 rfl [.int .i64 c.w,.int .i64 c.h,.int .i64 c.zoom,.int .i64 c.near,.bool c.deep,.int .i64 c.lens,.int .i64 c.focus,.int .i64 t.log,.slice ta t.px.length tc,.slice pa ps.length pc,.slice sa xs.length sc,.int .i64 side] _ bA Tryz.underlying31 rfl info_ScnT ?_)|(show wpList _ _ _ [_] _ _;refine wpList_store_rowTo rfl _ _ _ rfl rfl w.heap.size #[.int .i64 c.w,.int .i64 c.h,.int .i64 c.zoom,.int .i64 c.near,.bool c.deep,.int .i64 c.lens,.int .i64 c.focus,.int .i64 t.log,.slice ta t.px.length tc,.slice pa ps.length pc,.slice sa xs.length sc,.int .i64 side] rfl rfl 31 _ bR info_ScnT rfl (by kernel_rfl) ?_));have bF:=Blk.rowB HR.out [.int .i64 c.w,.int .i64 c.h,.int .i64 c.zoom,.int .i64 c.near,.bool c.deep,.int .i64 c.lens,.int .i64 c.focus,.int .i64 t.log,.slice ta t.px.length tc,.slice pa ps.length pc,.slice sa xs.length sc,.int .i64 side];clear bA bR;refine ret_box rfl rfl bF _ Tryz.underlying31 rfl info_ScnT rfl ?_;have hs:=HSM.out;exact ⟨c,t,side,ps,xs,lp,hp,ta,tc,pa,pc,sa,sc,rfl,⟨hs.c,hs.t,hs.side,hs.n,hs.prg,HL.out,HXS0.out⟩,hpos,hlp,hhp,by rw [size_setRowB];exact hpz,HM.out.row HR.out (.inl (by omega)) _,HC.out.rowNew (by omega) _,HG.out.rowNew (Nat.le_refl _) _⟩
section
open Go.ChangeShapes Go.WideShapes Go.ChangeAt Go.RowKit
section
variable {H : Type} {enc : TypeId × Value → H} {W : World} {base b0 : Nat} {sp : Nat → Bool} {held : Bool}
end
end
section
open Go.ChangeShapes Go.WideShapes Go.ChangeAt Go.RowKit
section
variable {H : Type} {enc : TypeId × Value → H} {W : World} {base b0 : Nat} {sp : Nat → Bool} {held : Bool}
theorem wf_U8 {n:Int} (h:(Lit.int .u8 n).wf=true):0≤n∧n≤255:=by
 simp [Lit.wf,IntKind.min,IntKind.max,IntKind.signed,IntKind.bits] at h;omega
theorem cellByts {fuel:Nat} {c:Value} {y:DataW H×List MemPlace} (h:DataW.trod enc Tryz.prog W base sp held fuel 22 [c]=some y):∃n,Byts W.heap.size W c n:=by
 rcases open_ints Tryz.underlying22 Tryz.underlying5 (by kernel_rfl) h with ⟨hcs,_⟩|⟨a,len,cap,zs,hcs,_,hl,hm,hz,_,hcell,hwz⟩
 ·obtain rfl:c = .slice none 0 0:=by simpa using hcs
  exact ⟨0,none,0,rfl,Nat.le_refl _,by unfold maxLen;omega,fun i hx=>by omega⟩
 ·obtain rfl:c = .slice (some a) len cap:=by simpa using hcs
  refine ⟨len,some a,cap,rfl,by omega,hm,fun i hi=>?_⟩
  have hlz:len≤zs.length:=by rw [hz];split <;> omega
  have hzi:i<zs.length:=by omega
  obtain ⟨b,o,s⟩:=a
  obtain rfl:s=none:=by
   cases s with
   | none=>rfl
   | some s=>
    have h0:=hcell 0 (by omega);simp only [World.cell?,Addr.add,if_true] at h0
    split at h0 <;> simp at h0
  have hc:=hcell i hzi
  have ha:(⟨b,o,none⟩:Addr).add i=⟨b,o+i,none⟩:=by
   unfold Addr.add
   split
   ·rename_i e;subst e;rfl
   ·rfl
  rw [ha] at hc;have hw:=wf_U8 (hwz (zs.getD i 0) (by rw [List.getD_eq_getElem?_getD,List.getElem?_eq_getElem hzi];exact List.getElem_mem hzi));refine ⟨b,o,zs.getD i 0,rfl,?_,hw.1,hw.2,hc⟩;simp only [World.cell?] at hc
  split at hc
  ·rename_i e;exact (Array.getElem?_eq_some_iff.1 e).1
  ·cases hc
theorem argByts {v:Value} {d:DataW H} {p:List MemPlace} (hv:Value.okWide Tryz.prog W .any b0 22 v) (h:DataW.Trod enc Tryz.prog W base sp held 22 v d p):∃n,Byts W.heap.size W v n:=by
 obtain ⟨a,len,cap,rfl⟩:=okWide_slice Tryz.underlying22 hv;obtain ⟨fuel,hf⟩:=h;exact cellByts hf
end
end
theorem patB_cg {f g:Nat→Int} (h:∀j,j<12→f j=g j):patB f=patB g:=by
 unfold patB;rw [h 0 (by decide),h 1 (by decide),h 2 (by decide),h 3 (by decide),h 4 (by decide),h 5 (by decide),h 6 (by decide),h 7 (by decide),h 8 (by decide),h 9 (by decide),h 10 (by decide),h 11 (by decide)]
theorem nearP_cg {f g:Nat→Int} (h:∀j,j<12→f j=g j):nearP f=nearP g:=by
 unfold nearP;rw [h 2 (by decide),h 5 (by decide),h 8 (by decide),h 11 (by decide)]
def scnOf (c:Cam) (t:Tex) (side:Int) (ps:List Prg) (xs:List Srf):Scn:=⟨c,t,ps,xs.length,srfF xs,side⟩
section
variable {c : Cam} {t : Tex} {side : Int} {ps : List Prg} {xs : List Srf} {k : Nat} {x : Srf}
theorem scnOf_st (h:xs[k]?=some x):∀j,j<12→(scnOf c t side ps xs).st k j=x.f j:=fun j hj=>by
 show srfF xs (k*26+j)=_
 rw [srfF_at h (by omega)]
 rcases twelve1 hj with e|e|e|e|e|e|e|e|e|e|e|e <;> subst e <;> rfl
theorem scnOf_en (h:xs[k]?=some x):∀j,j<12→(scnOf c t side ps xs).en k j=x.g j:=fun j hj=>by
 show srfF xs (k*26+12+j)=_
 rw [Nat.add_assoc,srfF_at h (by omega)]
 rcases twelve1 hj with e|e|e|e|e|e|e|e|e|e|e|e <;> subst e <;> rfl
theorem scnOf_sh (h:xs[k]?=some x):(scnOf c t side ps xs).sh k=x.sh:=by
 show srfF xs (k*26+24)=_
 rw [srfF_at h (by decide)]
 rfl
theorem scnOf_rt (h:xs[k]?=some x):(scnOf c t side ps xs).rt k=x.rt:=by
 show srfF xs (k*26+25)=_
 rw [srfF_at h (by decide)]
 rfl
end
theorem PtSm.i64 {f:Nat→Int} (h:PtSm f) (j:Nat):I64 (f j):=by have:=h.bd j;exact ⟨by omega,by omega⟩
theorem SrfSm.I {x:Srf} {n:Nat} (h:SrfSm x.f x.g x.sh x.rt n) (hn:n≤1000):x.I:=by
 intro y hy;have h1:=h.sh;have h2:=h.rt;simp only [Srf.ls,List.mem_cons,List.not_mem_nil,or_false] at hy;have a:∀{j:Nat},y=x.f j→I64 y:=fun e=>e▸h.f.i64 _;have b:∀{j:Nat},y=x.g j→I64 y:=fun e=>e▸h.g.i64 _
 rcases hy with e|e|e|e|e|e|e|e|e|e|e|e|e|e|e|e|e|e|e|e|e|e|e|e|e|e
 ·exact a e
 ·exact a e
 ·exact a e
 ·exact a e
 ·exact a e
 ·exact a e
 ·exact a e
 ·exact a e
 ·exact a e
 ·exact a e
 ·exact a e
 ·exact a e
 ·exact b e
 ·exact b e
 ·exact b e
 ·exact b e
 ·exact b e
 ·exact b e
 ·exact b e
 ·exact b e
 ·exact b e
 ·exact b e
 ·exact b e
 ·exact b e
 ·rw [e];exact ⟨by omega,by omega⟩
 ·rw [e];exact ⟨by omega,by omega⟩
structure Scn.Drawn (s:Scn):Prop where
 ok:s.Ok
 small:s.small
 cam:s.c.Sm
 side:s.side=1∨s.side=2
 m:s.m≤3
 n:s.ps.length≤2
 rt:∀k,k<s.m→s.rt k=1∨s.rt k=2∨s.rt k=4
 near:∀k,k<s.m→60≤s.near k
theorem ScSm.drawn {c:Cam} {t:Tex} {side:Int} {ps:List Prg} {xs:List Srf} (h:ScSm c t side ps xs):(scnOf c t side ps xs).Drawn:=by
 have at_:∀k,k<xs.length→∃x,xs[k]?=some x∧SrfSm x.f x.g x.sh x.rt ps.length:=fun k hk=>⟨xs[k],List.getElem?_eq_getElem hk,h.srf _ (List.getElem_mem hk)⟩
 have hn:=h.n;have hm:=h.m;refine ⟨⟨Cam.okB_iff.1 h.c.okB,h.c.okB,Tex.okB_iff.2 h.t,⟨hn.1,by show ps.length≤3;omega⟩,by show xs.length≤5;omega,by have:=h.side;show side=1∨side=2∨side=4;omega,fun p hp=>(h.prg p hp).2.2,fun k hk=>?_⟩,fun p hp=>⟨(h.prg p hp).1,(h.prg p hp).2.1⟩,h.c,h.side,hm,hn.2,fun k hk=>?_,fun k hk=>?_⟩
 ·obtain ⟨x,hx,hs⟩:=at_ k hk
  have e:=hs.ok;unfold Scn.srfB srfB;unfold srfB at e;rw [patB_cg (scnOf_st hx),patB_cg (scnOf_en hx),scnOf_sh hx,scnOf_rt hx];exact e
 ·obtain ⟨x,hx,hs⟩:=at_ k hk
  rw [scnOf_rt hx];exact hs.rt
 ·obtain ⟨x,hx,hs⟩:=at_ k hk
  have e:=hs.near;unfold Scn.near nearS;unfold nearS at e;rw [nearP_cg (scnOf_st hx),nearP_cg (scnOf_en hx)];exact e
theorem ScM.reads {lo lp hp:Nat} {w:World} {c:Cam} {t:Tex} {side:Int} {ps:List Prg} {xs:List Srf} {ta:Option Addr} {tc:Nat} {pa:Option Addr} {pc:Nat} {sa:Option Addr} {sc:Nat}
  (h:ScM lo lp hp w t (.slice ta t.px.length tc) (.slice pa ps.length pc) (.slice sa xs.length sc) ps xs) (hs:ScSm c t side ps xs) (h1:lo≤lp) (h2:lo≤hp):(scnOf c t side ps xs).R lo w.heap.size w (.agg #[.int .i64 c.w,.int .i64 c.h,.int .i64 c.zoom,.int .i64 c.near,.bool c.deep,.int .i64 c.lens,.int .i64 c.focus,.int .i64 t.log,.slice ta t.px.length tc,.slice pa ps.length pc,.slice sa xs.length sc,.int .i64 side]):=by
 have hc:=hs.c;have hcw:=hc.w;have hch:=hc.h;have hcz:=hc.zoom;have hcn:=hc.near;have hcl:=hc.lens;have hcf:=hc.focus;have hsd:=hs.side;have hn:=hs.n;have t0:=hs.t.log0;have t4:=hs.t.log4;refine ⟨_,_,_,rfl,⟨⟨by show -9223372036854775808≤c.w;omega,by show c.w≤_;omega⟩,⟨by show -9223372036854775808≤c.h;omega,by show c.h≤_;omega⟩,⟨by show -9223372036854775808≤c.zoom;omega,by show c.zoom≤_;omega⟩,⟨by show -9223372036854775808≤c.near;omega,by show c.near≤_;omega⟩,⟨by show -9223372036854775808≤c.lens;omega,by show c.lens≤_;omega⟩,⟨by show -9223372036854775808≤c.focus;omega,by show c.focus≤_;omega⟩⟩,⟨by show -9223372036854775808≤t.log;omega,by show t.log≤_;omega⟩,⟨by show -9223372036854775808≤side;omega,by show side≤_;omega⟩,h.tex.ints,?_,?_⟩
 ·obtain ⟨a,cap,k1,k2,k3,k4⟩:=h.prg.prgs
  refine ⟨a,cap,k1,k2,k3,fun k p hp=>?_⟩;obtain ⟨b,off,u1,u2,e1,e2,e3,e4,e5,e6⟩:=k4 k p hp;exact ⟨b,off,u1,u2,e1,by omega,e3,e4,e5,e6.low h1 (Nat.le_refl _)⟩
 ·exact (OwnG.flatsS h.srf fun x hx=>(hs.srf x hx).I (by omega)).wide h2 (Nat.le_refl _)
theorem MakeScene_any (hi:Nat) (v:Value) (n:Nat) (w:World) (hv:Byts hi w v n) (hh:hi≤w.heap.size) (hn:n≤1048576) :
  Calls Tryz.prog 8 #[v] w fun e w'=>∃(s:Scn) (u:Value),e = .returned u∧s.R w.heap.size w'.heap.size w' u∧s.Drawn∧1≤s.m∧Ext w w':=by
 have HV:=hid hv;obtain ⟨a,cap,rfl,k1,k2⟩:=hv.open;clear hv;have HQ:=hid (Blk.new w 31 [.int .i64 0,.int .i64 0,.int .i64 0,.int .i64 0,.bool false,.int .i64 0,.int .i64 0,.int .i64 0,.slice none 0 0,.slice none 0 0,.slice none 0 0,.int .i64 0]);have x0:Ext w (w.alloc (.cells #[.int .i64 0,.int .i64 0,.int .i64 0,.int .i64 0,.bool false,.int .i64 0,.int .i64 0,.int .i64 0,.slice none 0 0,.slice none 0 0,.slice none 0 0,.int .i64 0] 31)):=X_;have HX0:=hid x0;have z1:(w.alloc (.cells #[.int .i64 0,.int .i64 0,.int .i64 0,.int .i64 0,.bool false,.int .i64 0,.int .i64 0,.int .i64 0,.slice none 0 0,.slice none 0 0,.slice none 0 0,.int .i64 0] 31)).heap.size=w.heap.size+1:=World.size_alloc _ _;clear x0;go_enter Tryz.func8,Tryz.ntmps8;go_wp2_with fail;refine (l01New_any hi _ n _ (HV.out.ext hh HX0.out) (by omega) hn).mono ?_;rintro e w1 ⟨B,rfl,hB,C1,x1⟩;go_wp2_with fail;refine (l32Scene_any hi B _ C1).mono ?_;rintro e w2 ⟨c,t,side,ps,xs,lp,hp,ta,tc,pa,pc,sa,sc,rfl,hsm,hm1,hlp,hhp,hpw,m2,C2,G2⟩;have z1':=x1.size;have R0:=G2.blk (HQ.out.ext x1) (by omega);have M2:=hid (m2.low (lo':=w.heap.size) (by omega));have HE:=hid (G2.up (HX0.out.trans x1) (by omega));have HSM:=hid hsm;have HR0:=hid R0
 have hl:w.heap.size<lp:=by omega
 clear m2 C2 G2 C1 x1 hsm;go_wp2_with (show wpList _ _ _ [_] _ _;refine wpList_store_rowTo rfl _ _ _ rfl rfl w.heap.size #[.int .i64 c.w,.int .i64 c.h,.int .i64 c.zoom,.int .i64 c.near,.bool c.deep,.int .i64 c.lens,.int .i64 c.focus,.int .i64 t.log,.slice ta t.px.length tc,.slice pa ps.length pc,.slice sa xs.length sc,.int .i64 side] rfl rfl 31 _ R0 info_ScnT rfl (by kernel_rfl) ?_);have bF:=Blk.rowB HR0.out [.int .i64 c.w,.int .i64 c.h,.int .i64 c.zoom,.int .i64 c.near,.bool c.deep,.int .i64 c.lens,.int .i64 c.focus,.int .i64 t.log,.slice ta t.px.length tc,.slice pa ps.length pc,.slice sa xs.length sc,.int .i64 side];clear R0;refine ret_box rfl rfl bF _ Tryz.underlying31 rfl info_ScnT rfl ?_;refine ⟨scnOf c t side ps xs,_,rfl,(M2.out.row HR0.out (.inl hl) _).reads HSM.out (by omega) (by omega),HSM.out.drawn,hm1,HE.out.setRowB (Nat.le_refl _) _⟩
theorem Scn.Drawn.seen_pos {s:Scn} (h:s.Drawn) {p:Smp} (ht:0≤p.t∧p.t≤16):∀f∈s.seen p,0≤f.d:=by
 intro f hf;have h1:f∈insAll [] ((List.range s.m).flatMap fun k=>s.hits k p):=hf;rw [mem_insAll] at h1
 rcases h1 with h1|h1
 ·cases h1
 ·obtain ⟨k,hk,h2⟩:=List.mem_flatMap.1 h1
  rw [List.mem_range] at hk;have a:=(Scn.hits_near (h.ok.srf k hk) ht f h2).1;have b:=h.near k hk;omega
theorem Scn.Drawn.deeps_pos {s:Scn} (h:s.Drawn) {i j:Int} {sd n:Nat} (hs:sd=1∨sd=2∨sd=4):∀l∈s.deeps i j sd n,∀x∈l,0≤x.d:=by
 intro l hl x hx;obtain ⟨p,hp,rfl⟩:=List.mem_map.1 hl;refine deepL_near (h.seen_pos ?_) x hx;have hp2:=List.mem_of_mem_take hp;unfold pixS at hp2;obtain ⟨k,hk,rfl⟩:=List.mem_map.1 hp2;rw [List.mem_range] at hk;have:=(smpK_at (i:=i) (j:=j) hs hk).2.2.1;omega
def lastO (ls:List (List Stp)):Nat→Int
 | 0=>0
 | k+1=>occI ls (80*(k:Nat))
theorem lastO_le {ls:List (List Stp)} (h:∀l∈ls,StpOk l) (hn:ls≠[]) (k:Nat):lastO ls k≤occI ls (80*(k:Nat)):=by
 cases k with
 | zero=>exact (occI_bd h hn _).1
 | succ k=>exact occI_mono h (by omega)
theorem lawShadow (v:Value) (nb:Nat) (W:World) (hv:Byts W.heap.size W v nb) :
  Calls Tryz.prog 5 #[v] W fun e w'=>e = .returned (.bool true)∧Ext W w':=by
 have HV:=hid hv;obtain ⟨a,cap,rfl,k1,k2⟩:=hv.open;clear hv
 by_cases hn:nb≤1048576
 ·go_enter Tryz.func5,Tryz.ntmps5
  go_wp2_with fail;refine (MakeScene_any W.heap.size _ nb _ HV.out (Nat.le_refl _) hn).mono ?_;rintro e w1 ⟨s,v1,rfl,R1,D1,hm1,x1⟩;obtain ⟨a1,c1,a2,c2,a3,c3,rfl⟩:=R1.formV;have HD:=hid D1;have HR1:=hid R1;have HX1:=hid x1;clear R1 D1 x1;go_upto_region 4 with (show wpList _ _ _ [_] _ _;refine wpList_store_fresh _ _ _ rfl 31 (.tmp 3) (.tmp 13) rfl rfl #[.int .i64 s.c.w,.int .i64 s.c.h,.int .i64 s.c.zoom,.int .i64 s.c.near,.bool s.c.deep,.int .i64 s.c.lens,.int .i64 s.c.focus,.int .i64 s.t.log,.slice a1 s.t.px.length c1,.slice a2 s.ps.length c2,.slice a3 s.m c3,.int .i64 s.side] w1.heap.size rfl rfl rfl (by kernel_rfl) (by kernel_rfl) (by kernel_rfl) ?_);have x2:Ext w1 (w1.alloc (.cells #[.int .i64 s.c.w,.int .i64 s.c.h,.int .i64 s.c.zoom,.int .i64 s.c.near,.bool s.c.deep,.int .i64 s.c.lens,.int .i64 s.c.focus,.int .i64 s.t.log,.slice a1 s.t.px.length c1,.slice a2 s.ps.length c2,.slice a3 s.m c3,.int .i64 s.side] 31)):=X_;have b2:=Blk.new w1 31 [.int .i64 s.c.w,.int .i64 s.c.h,.int .i64 s.c.zoom,.int .i64 s.c.near,.bool s.c.deep,.int .i64 s.c.lens,.int .i64 s.c.focus,.int .i64 s.t.log,.slice a1 s.t.px.length c1,.slice a2 s.ps.length c2,.slice a3 s.m c3,.int .i64 s.side]
  obtain ⟨S,hS⟩:∃S,w1.heap.size=S:=⟨_,rfl⟩
  obtain ⟨w2,hw2⟩:∃w,w1.alloc (.cells #[.int .i64 s.c.w,.int .i64 s.c.h,.int .i64 s.c.zoom,.int .i64 s.c.near,.bool s.c.deep,.int .i64 s.c.lens,.int .i64 s.c.focus,.int .i64 s.t.log,.slice a1 s.t.px.length c1,.slice a2 s.ps.length c2,.slice a3 s.m c3,.int .i64 s.side] 31)=w:=⟨_,rfl⟩
  rw [hw2] at x2 b2 ⊢;rw [hS] at b2 ⊢;have HR2:=hid (HR1.out.ext (Nat.le_refl _) x2);have HX2:=hid (HX1.out.trans x2);have HB2:=hid b2;have hz2:=x2.size;have HZ2:=hid hz2;obtain ⟨c0,c1,c2,c3,c4,c5,c6,c7,c8,c9,c10,c11⟩:=b2.q12;have l2:=b2.lt;clear hS hw2 x2 b2 HR1 HX1 hz2;have hcw:=HD.out.ok.c.w;have hch:=HD.out.ok.c.h;have hsS:S<w2.heap.size:=l2
  have hne1:s.c.w≠0:=by omega
  go_upto_region 4 with fail;refine wp_region_stages [([0,2,3,4],1),([5],6)] 6 w2.heap.size (by kernel_rfl) (by kernel_rfl) ?_;refine st_ fun K hK=>?_;go_wp2_with fail;refine (MakeNum_any W.heap.size _ nb 1 _ (HV.out.ext (Nat.le_refl _) (HX2.out.trans (Ext.drew (Ext.refl _)))) (HX2.out.trans (Ext.drew (Ext.refl _))).size hn (by decide)).mono ?_;rintro e w3 ⟨i0,rfl,hi0,x5⟩;have y5:Ext w2 w3:=Ext.trans (Ext.drew (Ext.refl _)) x5;have ti:Int.tmod i0 s.c.w=i0 % s.c.w:=Int.tmod_eq_emod_of_nonneg hi0.1
  obtain ⟨i,hi⟩:∃z,i0 % s.c.w=z:=⟨_,rfl⟩
  have bi:0≤i∧i<s.c.w:=by rw [←hi];exact ⟨Int.emod_nonneg _ (by omega),Int.emod_lt_of_pos _ (by omega)⟩
  rw [hi] at ti;clear hi x5;go_wp2_with fail;refine hK _ _ (.inr (y5.same (Nat.le_refl _))) ?_;clear hK K;refine st_ fun K hK=>?_;go_wp2_with fail;refine hK _ _ (.inl (by trivial)) ?_;clear hK K;refine wpStages_nil ?_;clear ti hi0 hne1;have HX3:=hid (HX2.out.trans y5);have HB3:=hid (HB2.out.ext y5);have HR3:=hid (HR2.out.ext HZ2.out y5);have HZ3:=hid (Nat.le_trans HZ2.out y5.size);have hsS3:S<w3.heap.size:=Nat.lt_of_lt_of_le hsS y5.size;clear y5;clear c0 c1 c2 c3 c4 c5 c6 c7 c8 c9 c10 c11 l2;have bq:=HB3.out.ext (Ext.refl _);obtain ⟨c0,c1,c2,c3,c4,c5,c6,c7,c8,c9,c10,c11⟩:=bq.q12;have l2:=bq.lt;clear bq
  have hne2:s.c.h≠0:=by omega
  go_upto_region 5 with fail;refine wp_region_stages [([0,2,3,4],1),([5],6)] 6 w3.heap.size (by kernel_rfl) (by kernel_rfl) ?_;refine st_ fun K hK=>?_;go_wp2_with fail;refine (MakeNum_any W.heap.size _ nb 2 _ (HV.out.ext (Nat.le_refl _) (HX3.out.trans (Ext.drew (Ext.refl _)))) (HX3.out.trans (Ext.drew (Ext.refl _))).size hn (by decide)).mono ?_;rintro e w4 ⟨j0,rfl,hj0,x5⟩;have y5:Ext w3 w4:=Ext.trans (Ext.drew (Ext.refl _)) x5;have tj:Int.tmod j0 s.c.h=j0 % s.c.h:=Int.tmod_eq_emod_of_nonneg hj0.1
  obtain ⟨j,hj⟩:∃z,j0 % s.c.h=z:=⟨_,rfl⟩
  have bj:0≤j∧j<s.c.h:=by rw [←hj];exact ⟨Int.emod_nonneg _ (by omega),Int.emod_lt_of_pos _ (by omega)⟩
  rw [hj] at tj;clear hj x5;go_wp2_with fail;refine hK _ _ (.inr (y5.same (Nat.le_refl _))) ?_;clear hK K;refine st_ fun K hK=>?_;go_wp2_with fail;refine hK _ _ (.inl (by trivial)) ?_;clear hK K;refine wpStages_nil ?_;clear tj hj0 hne2;have HX4:=hid (HX3.out.trans y5);have HB4:=hid (HB3.out.ext y5);have HR4:=hid (HR3.out.ext HZ3.out y5);have HZ4:=hid (Nat.le_trans HZ3.out y5.size);have hsS4:S<w4.heap.size:=Nat.lt_of_lt_of_le hsS3 y5.size;clear y5 hsS hsS3 HB2 HB3 HR2 HR3 HX2 HX3 HZ2 HZ3;clear c0 c1 c2 c3 c4 c5 c6 c7 c8 c9 c10 c11 l2
  obtain ⟨sd,hsd⟩:∃sd:Nat,s.side=((sd:Nat):Int):=⟨s.side.toNat,by have:=HD.out.side;omega⟩
  have hsd3:sd=1∨sd=2∨sd=4:=by have:=HD.out.side;omega
  have HSD:=hid hsd3;have HSE:=hid hsd
  obtain ⟨DS,hDS⟩:∃DS,s.deeps i j sd (sd*sd)=DS:=⟨_,rfl⟩
  have HDS:=hid hDS;have HOKD:=hid (show ∀l∈DS,StpOk l from hDS▸Scn.deeps_ok)
  have HNE:=hid (show DS≠[] from fun e1=>by
   have h1:=Scn.deeps_len (s:=s) (i:=i) (j:=j) (sd:=sd) (Nat.le_refl (sd*sd));rw [hDS,e1] at h1
   rcases hsd3 with rfl|rfl|rfl <;> simp at h1)
  have HPOS:=hid (show ∀l∈DS,∀x∈l,0≤x.d from hDS▸HD.out.deeps_pos hsd3);clear hsd hsd3 hDS;go_wp2_with fail
  go_loopw [6,7] (fun a z wr=>∃k:Nat,k≤5∧z = .int .i64 (80*(k:Nat))∧a = .int .i64 (lastO DS k)∧Ext w4 wr) (fun _ z _=>400 - (intOf z).toNat)
  case atStart=>exact ⟨0,by omega,rfl,rfl,Ext.refl _⟩
  case round=>
   obtain ⟨k,hk,rfl,rfl,hx⟩:=hrel;have HX:=hid (HX4.out.trans hx);have HY:=hid hx;have hR:=HR4.out.ext HZ4.out hx;have HRr:=hid hR;have hz:=Nat.le_trans HZ4.out hx.size;have HZr:=hid hz;clear hx hR hz;have bq:=HB4.out.ext HY.out;obtain ⟨c0,c1,c2,c3,c4,c5,c6,c7,c8,c9,c10,c11⟩:=bq.q12;have l2:=bq.lt;clear bq
   rcases Nat.lt_or_ge k 5 with hlt|hge
   ·have h400:(80*(k:Int))<400:=by omega
    have hl:=lastO_le HOKD.out HNE.out k;have hb:=occI_bd HOKD.out HNE.out (80*(k:Nat))
    have h0:k=0→occI DS (80*(k:Nat))=0:=fun e1=>by
     subst e1;exact occI_zero HPOS.out
    obtain ⟨L,hL⟩:∃L,lastO DS k=L:=⟨_,rfl⟩
    obtain ⟨n,hn2⟩:∃n,occI DS (80*(k:Nat))=n:=⟨_,rfl⟩
    rw [hL,hn2] at hl;rw [hn2] at hb h0;rw [hL];have HN2:=hid hn2;have HDN:=hid (show occI (s.deeps i j sd (sd*sd)) (80*(k:Nat))=n by rw [HDS.out];exact hn2);clear hL hn2;go_wp2_with fail;have CH:=iOcclusion_any s W.heap.size w1.heap.size _ i j sd (80*(k:Nat)) wr HRr.out HZr.out HD.out.ok HD.out.small HSE.out bi bj;rw [HDN.out] at CH;refine CH.mono ?_;clear CH;rintro e w6 ⟨rfl,x6⟩;have HY6:=hid (HY.out.trans x6);clear x6;clear c0 c1 c2 c3 c4 c5 c6 c7 c8 c9 c10 c11 l2
    have g1 : ¬n<L:=by omega
    have g2 : ¬256<n:=by omega
    have hlast:lastO DS (k+1)=n:=HN2.out;have HLA:=hid hlast;clear hlast
    rcases Nat.eq_zero_or_pos k with hk0|hkp
    ·have hn0:=h0 hk0
     subst hk0;subst hn0;go_wp2;go_roundw
     case rel=>exact ⟨1,by omega,by go_num,by rw [HLA.out],HY6.out⟩
     case measure=>simp [intOf]
    ·have hkz:(80*(k:Int)==0)=false:=by simp;omega
     have hkz2 : ¬(80*(k:Int)=0):=by omega
     go_wp2;go_roundw
     case rel=>exact ⟨k+1,by omega,by go_num,by rw [HLA.out],HY6.out⟩
     case measure=>simp [intOf];omega
   ·obtain rfl:k=5:=by omega
    have hsS5:S<wr.heap.size:=l2
    obtain ⟨N,hN⟩:∃N,sd*sd=N:=⟨_,rfl⟩
    have hmul:s.side*s.side=((N:Nat):Int):=by rw [HSE.out,←hN];simp
    have hN16:N≤16:=by rw [←hN];rcases HSD.out with rfl|rfl|rfl <;> decide
    have HLN:=hid (show (s.deeps i j sd (sd*sd)).length=N by rw [Scn.deeps_len (Nat.le_refl _)];exact hN);have hs5:=HD.out.side;clear hN;go_upto_region 14 with fail;refine wp_region_stages [([0,1,2,5,6,7,8,9],3),([4,10],11)] 11 wr.heap.size (by kernel_rfl) (by kernel_rfl) ?_;refine st_ fun K hK=>?_;go_wp2_with fail;have CH:=iDeepPixel_any s W.heap.size w1.heap.size _ i j sd wr.drew (HRr.out.ext HZr.out (Ext.drew (Ext.refl _))) (Nat.le_trans HZr.out (Ext.size (Ext.drew (Ext.refl _)))) HD.out.ok HD.out.small HSE.out bi bj;refine CH.mono ?_;clear CH;rintro e w6 ⟨r,rfl,hr,x6⟩;obtain ⟨ra,rc,rfl⟩:=hr.form;rw [HLN.out];have y6:Ext wr w6:=Ext.trans (Ext.drew (Ext.refl _)) x6;have HY6:=hid (HX.out.trans y6);clear hr x6;go_wp2_with fail;refine hK _ _ (.inr (y6.same (Nat.le_refl _))) ?_;clear hK K;refine st_ fun K hK=>?_;go_wp2_with fail;refine hK _ _ (.inl (by trivial)) ?_;clear hK K;refine wpStages_nil ?_;go_wp2;go_ret;exact ⟨rfl,HY6.out⟩
 ·have hn2:(1048576:Int)<(nb:Int):=by omega
  go_enter Tryz.func5,Tryz.ntmps5;go_wp2;go_ret;exact ⟨rfl,Ext.refl _⟩
section
namespace fnShadow
open Go.ChangeShapes Go.WideShapes Go.ChangeAt Go.RowKit
theorem own:ownKnob Tryz.prog.godebug=none:=by kernel_rfl
theorem laid:laidOutB Tryz.prog=true:=by kernel_rfl
theorem lifted (os:Os) (started:os.Started) (H:Type) (enc:TypeId×Value→H) :
  ReturnsInHanded {} Tryz.checked os 5 .any (Rows.fnShadowSpec.pre6 enc Tryz.prog Tryz.f5 Rows.fnShadowRow.domain false) (Rows.fnShadowSpec.post enc Tryz.prog Tryz.f5 false true false false):=by
 refine returnsInHanded_of_change (C:=Tryz.checked) own started (by kernel_rfl) Tryz.func5
  (ChangeSpec.witness6 (enc:=enc) (C:=Tryz.checked) false ⟨#[],#[.slice none 0 0],[]⟩ 8 (by kernel_rfl) (by kernel_rfl) (by kernel_rfl) (by kernel_rfl)) ?_
 intro W base args ds gs before hval0 hW hcnd _;have hval:∀(j:Nat) t v,Tryz.f5.params[j]?=some t→args[j]?=some v→Value.okWide Tryz.prog W .any base t v:=hval0;have hW':=hW;obtain ⟨p,q,hA0,hV,rfl,hfz,hnd⟩:=hW;have hA:DataW.TrodAll enc Tryz.prog W 0 (fun _=>true) true Tryz.f5.params.toList args.toList ds p:=hA0;rw [Tryz.params5] at hA hval;obtain ⟨v0,vs0,d0,ds0,p0,q0,hargs,rfl,rfl,h0,r0⟩:=trodAll_cons hA;obtain ⟨rfl,rfl,rfl⟩:=trodAll_nil r0
 obtain rfl:args=#[v0]:=by cases args;simp_all
 obtain ⟨rfl,rfl⟩:=trodVars_none hV;have k0:=h0
 have lt0:∀x∈p0,x.block<W.heap.size:=by obtain ⟨m,hm⟩:=k0;exact DataW.trod_lt m _ _ _ hm
 obtain ⟨n0,w0⟩:=argByts (hval 0 22 v0 rfl rfl) h0;clear hA0 hval0;refine (lawShadow v0 n0 W w0).mono fun e W' ⟨he,bel0⟩=>?_;have bel:Below W.heap.size W W':=bel0;subst he;exact ⟨_,rfl,_,_,_,[],_,[],hW',trodAll_mk1 (shut_bool Tryz.underlying4 _),(trodAll_cons_mk (Below.trod laid (by kernel_rfl) (of_decide_eq_true (by kernel_rfl)) k0 bel lt0) trodAll_mk0),rfl,bel.frame _,fun h=>by cases h⟩
theorem named:Tryz.pinned.checked.prog.funcNamed Rows.fnShadowRow.func=some 5:=by kernel_rfl
theorem facts:joinedFacts Tryz.pinned.checked.prog 5 Tryz.f5 Rows.fnShadowSpec Rows.fnShadowRow=true:=by kernel_rfl
theorem inst:Tryz.f5.isInstance Tryz.pinned.checked.prog Rows.fnShadowRow.origin Rows.fnShadowRow.targs:=of_decide_eq_true (by kernel_rfl)
theorem wrap:Tryz.f5.isWrapper Tryz.pinned.checked.prog Rows.fnShadowRow.wrapper Rows.fnShadowRow.mainSum:=by
 unfold Func.isWrapper
 first|(rw [if_pos (by decide +kernel)];kernel_rfl)|(rw [if_neg (by decide +kernel)];exact ⟨rfl,rfl⟩)
theorem over:Rows.fnShadowRow.holds Tryz.pinned (OpenSpec.ofChange Rows.fnShadowSpec):=
 OpenClaim.holds_of_wide 5 Tryz.f5 rfl rfl rfl rfl rfl rfl rfl ⟨rfl,rfl,rfl,rfl,rfl⟩ rfl rfl rfl rfl rfl named Tryz.func5 facts inst wrap
  (fun os started H enc _=>lifted os started H enc)
theorem proved:Rows.FnShadowSaid:=over
end fnShadow
end
end Go.Proofs.YtfjbiifebcfjfaaGreat
