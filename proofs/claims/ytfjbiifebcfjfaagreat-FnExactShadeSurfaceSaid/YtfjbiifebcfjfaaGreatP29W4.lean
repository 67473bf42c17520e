/- Texts of this claim, one behind another; what its theorem does not use is left out: Ow9, Cl2, Cl3, Ld1, FnT, Ev1, Mc1, Mc2, PlanX, Ev2, Ev3, Pr2, Pr3, Ev4, Ev5, Ev6, Mc3, Mc4, Mc5, Mc6, Rg1, Rg2, Rg3, Ex2H, LawKitH, Lk8, Df1, Fl1. -/
import Derived.Test.YtfjbiifebcfjfaaGreatP29W3
import Derived.Test.YtfjbiifebcfjfaaGreatP29W2
import Derived.Test.YtfjbiifebcfjfaaGreatP29W1
import Derived.Lib.SliceRun
set_option linter.unusedSimpArgs false
set_option linter.unusedVariables false
set_option maxRecDepth 100000
set_option maxHeartbeats 12800000
namespace Go.Proofs.YtfjbiifebcfjfaaGreat
open Go.RowKit
section
open Go.RowKit Go.Maps Go.WideMaps
theorem iIsValidProgram_val {p:Prg} {b:Bool} (h:p.okB=b) (lo hi:Nat) (v:Value) (w:World) (hv:p.R lo hi w v) (hh:hi≤w.heap.size) (hb:p.bd) (hgl:p.gs.length≤1048576) :
  Calls Tryz.prog 225 #[v] w fun e w'=>e = .returned (.bool b)∧Ext w w':=h▸iIsValidProgram_any lo hi v p w hv hh hb hgl
theorem iKnown_val {gs:List Asg} {op:Int} {s:ByteArray} {o:Nat} {r:Bool} (h:knownB gs op s o=r) (num:Int) (sa:Option Addr) (sn sc b:Nat) (w:World) (hM:FM w b gs gs.length) (hs:s.size≤maxLen) (ho:o≤10000000) (hgl:gs.length≤1048576) :
  Calls Tryz.prog 227 #[exprV op (.agg #[.int .i64 op,.string s,.int .i64 num,.slice sa sn sc]),.int .i64 o,.map (some b)] w fun e w'=>e = .returned (.bool r)∧Ext w w':=h▸iKnown_any gs op s num sa sn sc o b w hM hs ho hgl
theorem iFitting_val {op:Int} {s:ByteArray} {sn:Nat} {r:Bool} (h:fitB op s sn=r) (num:Int) (sa:Option Addr) (sc:Nat) (w:World) :
  Calls Tryz.prog 228 #[exprV op (.agg #[.int .i64 op,.string s,.int .i64 num,.slice sa sn sc])] w fun e w'=>e = .returned (.bool r)∧Ext w w':=h▸iFitting_any op s num sa sn sc w
theorem iExprOf_val {op:Int} {s:ByteArray} {num:Int} {u E:Value} (h:exprV op (.agg #[.int .i64 op,.string s,.int .i64 num,u])=E) (w:World):Calls Tryz.prog 217 #[.agg #[.int .i64 op,.string s,.int .i64 num,u]] w fun e w'=>e = .returned E∧Ext w w':=h▸iExprOf_any op s num u w
theorem FM.look {w:World} {b k:Nat} {gs:List Asg} (h:FM w b gs k) {s:ByteArray} (hs:s.size≤maxLen) {t:Nat} (hr:frst gs k s.toList=some t) :
  (Instr.lookup 239 (.map (some b)) (.string s) false).run Tryz.prog w = .ok (.int .i64 (t:Int)) w:=by
 obtain ⟨n,D,hn,hown,hm1,hm2⟩:=h;obtain ⟨h1,h2⟩:=hm2 s hs;obtain ⟨c,hrun,hat,hwc⟩:=hown.lookup_int strLaw Tryz.underlying239 Tryz.underlying3 (zeroI _) (keyS hs);rw [h2 t hr] at hat;simp only [DataW.lit.injEq,Lit.int.injEq,true_and] at hat;subst hat;exact hrun
theorem iCheck_any (lo hi:Nat) (v:Value) (p:Prg) (w:World) (hv:p.R lo hi w v) (hh:hi≤w.heap.size) (hb:p.bd) (hgl:p.gs.length≤1048576) :
  Calls Tryz.prog 164 #[v] w fun e w'=>(∃c k:Int,e = .returned (.tuple #[.int .i64 c,.int .i64 k])∧(c==0)=p.chkB)∧Ext w w':=by
 have HV:=hid hv;obtain ⟨a1,c1,a2,c2,rfl,HN,HG⟩:=hv.form;have l1:=HN.le;have l2:=HN.cap;have l3:=HG.le;have l4:=HG.cap;have HBD:=hid hb;clear hv hb;have x0:Ext w (w.alloc (.cells #[.slice a1 p.ns.length c1,.slice a2 p.gs.length c2] 132)):=X_;have bB:=Bx.made w #[.slice a1 p.ns.length c1,.slice a2 p.gs.length c2] 132
 cases hok:p.okB
 ·have HOK:=hid hok
  have HC:Hid (p.chkB=false):=hid (by unfold Prg.chkB;rw [hok];rfl);clear hok;go_enter Tryz.func164,Tryz.ntmps164;go_wp2_with fail;refine (iIsValidProgram_val HOK.out lo hi _ _ (HV.out.ext hh x0) (Nat.le_trans hh x0.size) HBD.out hgl).mono ?_;rintro e w1 ⟨rfl,x1⟩;have X1:=x0.trans x1;go_wp2;refine bodyPost_ret (v:=.tuple #[.int .i64 1,.int .i64 0]) (by simp [results,Tryz.results164,go_sem]) rfl ⟨⟨_,_,rfl,by rw [HC.out];rfl⟩,X1⟩
 have HP:=hid (Prg.okB_V hok);have l5:=HP.out.len;have HOK:=hid hok;clear hok;go_enter Tryz.func164,Tryz.ntmps164;go_wp2_with fail;refine (iIsValidProgram_val HOK.out lo hi _ _ (HV.out.ext hh x0) (Nat.le_trans hh x0.size) HBD.out hgl).mono ?_;rintro e w1 ⟨rfl,x1⟩;have X1:=x0.trans x1;have bB1:=bB.ext x1;have q:=bB1.lt;have q0:=bB1.cell 0;simp only [List.getElem?_toArray,List.getElem?_cons_zero,List.getElem?_cons_succ] at q0;have q1:=bB1.cell 1;simp only [List.getElem?_toArray,List.getElem?_cons_zero,List.getElem?_cons_succ] at q1;clear x0 x1 bB;go_wp2_with fail;refine wp_region_stages [([0,2],1),([],3),([4],5)] 99 w1.heap.size (by kernel_rfl) (by kernel_rfl) ?_;refine st_ fun K hK=>?_;go_wp2_with fail;refine (iAssigned_any lo hi _ p _ ((HV.out.ext hh X1).ext (Nat.le_trans hh X1.size) X_) (by have:=X1.size;simp;omega) HBD.out hgl).mono ?_;rintro e w2 ⟨⟨mb,rfl,hmb,hM⟩,x2⟩;have y2:Ext w1 w2:=Ext.trans X_ x2;have z2:=y2.size;go_wp2_with fail;refine hK _ _ (.inr (fun k _ hk=>y2.block (by first|omega|(simp;omega)))) ?_;clear hK K;refine st_ fun K hK=>?_;go_wp2_with fail;refine (iOwners_any lo hi _ p _ ((HV.out.ext hh X1).ext (Nat.le_trans hh X1.size) y2) (by have:=X1.size;omega) HP.out hgl).mono ?_;rintro e w3 ⟨⟨oa,oc,rfl,hO⟩,x3⟩;have y3:=y2.trans x3;have hM3:=hM.ext x3;go_wp2_with fail;refine hK _ _ (.inr (fun k _ hk=>y3.block (by first|omega|(simp;omega)))) ?_;clear hK K;refine st_ fun K hK=>?_;go_wp2_with fail;go_wp2_with fail;refine hK _ _ (.inr (fun k _ hk=>y3.block (by first|omega|(simp;omega)))) ?_;clear hK K;refine wpStages_nil ?_;have hI:=hO.ints;obtain ⟨oa',oc',e1,HO⟩:=hI.open;rw [Prg.ownL_len] at e1;simp only [Value.slice.injEq,true_and] at e1;obtain ⟨rfl,rfl⟩:=e1;have lo1:=HO.le;have lo2:=HO.cap;rw [Prg.ownL_len] at lo1;have bB3:=bB1.ext y3;have HB3:=hid bB3;have HX3:=hid (X1.trans y3);have HM3:=hid hM3;clear x2 x3 y2 y3 hM hM3 bB1 hO hI X1 q q0 q1 z2;have q:=bB3.lt;have q0:=bB3.cell 0;simp only [List.getElem?_toArray,List.getElem?_cons_zero,List.getElem?_cons_succ] at q0;have q1:=bB3.cell 1;simp only [List.getElem?_toArray,List.getElem?_cons_zero,List.getElem?_cons_succ] at q1;clear bB3;go_wp2
 go_loopw [24] (fun i wr=>∃k:Nat,k≤p.ns.length∧i = .int .i64 k∧(∀j,j<k→p.nameB j=true)∧Bx wr w.heap.size #[.slice a1 p.ns.length c1,.slice a2 p.gs.length c2] 132∧Ext w wr∧Ext w3 wr) (fun i _=>p.ns.length - (intOf i).toNat)
 case atStart=>exact ⟨0,by omega,rfl,fun j h=>by omega,HB3.out,HX3.out,Ext.refl _⟩
 case round=>
  clear HB3 HX3 q q0 q1;obtain ⟨k,hk,rfl,hall,hB,hx,hx1⟩:=hrel;have HA:=hid hall;have HX:=hid hx;have HX1:=hid hx1;have HB:=hid hB
  by_cases hlt:k<p.ns.length
  ·obtain ⟨b,off,op,s,num,sa,sc,ra,rfl,hb1,hbw,hget,io,inn,hI,HI,y0,y1,y2,y3⟩:=HN.atW hlt hx hh
   have li1:=HI.le;have li2:=HI.cap;obtain ⟨ob,oo,oy,rfl,hob,hoy,_,hoc⟩:=HO.atE (k:=k) (by rw [Prg.ownL_len];exact hlt) hx1 (Nat.le_refl _);have e9:=ownL_at hoy;subst e9;have hsz:=hid (HBD.out.1 _ (List.mem_of_getElem? hget));have q0:Ext wr (wr.alloc (.cells #[.int .i64 op,.string s,.int .i64 num,.slice sa ra.length sc] 243)):=X_;have hon:=((HP.out.own_is hlt).lt HP.out).2
   obtain ⟨E,hE⟩:∃E,exprV op (.agg #[.int .i64 op,.string s,.int .i64 num,.slice sa ra.length sc])=E:=⟨_,rfl⟩
   obtain ⟨bk,hbk⟩:∃r,knownB p.gs op s (p.own k)=r:=⟨_,rfl⟩
   have HE:=hid hE;have HBK:=hid hbk;have HND:Hid (p.nameB k=bk):=hid (by rw [Prg.nameB_at hget,←hbk];rfl)
   have hob':ob≤wr.heap.size:=by omega
   have hob2:ob<wr.heap.size+1:=by omega
   have HHB:=hid (hx.size);clear hget hall hB hx hx1 hI hoy hE hbk;go_wp2_with fail;refine wp_region_stages [([0,2,3,4,5,6],1),([],7),([],8)] 99 (wr.heap.size+1) (by kernel_rfl) (by kernel_rfl) ?_;refine st_ fun K hK=>?_;go_wp2_with fail;refine (iExprOf_val HE.out _).mono ?_;rintro e w4 ⟨rfl,x4⟩;have X4:Ext (wr.alloc (.cells #[.int .i64 op,.string s,.int .i64 num,.slice sa ra.length sc] 243)) w4:=Ext.trans X_ x4;go_wp2_with fail;refine hK _ _ (.inr (fun k _ hk=>X4.block (by first|omega|(simp;omega)))) ?_;clear hK K;refine st_ fun K hK=>?_;go_wp2_with fail;have hk5:=iKnown_val HBK.out num sa ra.length sc mb w4 ((HM3.out.ext HX1.out).ext (q0.trans X4)) hsz.out (by omega) hgl;rw [HE.out] at hk5;refine hk5.mono ?_;clear hk5;rintro e w5 ⟨rfl,x5⟩;have X5:=X4.trans x5;go_wp2_with fail;refine hK _ _ (.inr (fun k _ hk=>X5.block (by first|omega|(simp;omega)))) ?_;clear hK K;refine st_ fun K hK=>?_;go_wp2_with fail;go_wp2_with fail;refine hK _ _ (.inr (fun k _ hk=>X5.block (by first|omega|(simp;omega)))) ?_;clear hK K;refine wpStages_nil ?_;have HX5:=hid ((HX.out.trans q0).trans X5);have HX6:=hid ((HX1.out.trans q0).trans X5);have HB5:=hid ((HB.out.ext q0).ext X5);clear x4 X4 x5 X5
   cases bk
   ·go_wp2
    have HC:p.chkB=false:=by unfold Prg.chkB;rw [rng_no (p:=p.nameB) hlt HND.out];simp
    refine bodyPost_ret (v:=.tuple #[.int .i64 2,.int .i64 k]) (by simp [results,Tryz.results164,go_sem]) rfl ⟨⟨_,_,rfl,by rw [HC];rfl⟩,HX5.out⟩
   ·go_wp2
    go_roundw
    case rel=>
     refine ⟨k+1,by omega,by go_num,fun i hi=>?_,HB5.out,HX5.out,HX6.out⟩
     by_cases e:i=k
     ·subst e;exact HND.out
     ·exact HA.out i (by omega)
    case measure=>simp [intOf];omega
  ·obtain rfl:k=p.ns.length:=by omega
   have q:=hB.lt;have q0:=hB.cell 0;simp only [List.getElem?_toArray,List.getElem?_cons_zero,List.getElem?_cons_succ] at q0;have q1:=hB.cell 1;simp only [List.getElem?_toArray,List.getElem?_cons_zero,List.getElem?_cons_succ] at q1;clear hall hB hx hx1;go_wp2
   go_loopw [43] (fun i wr=>∃k:Nat,k≤p.ns.length∧i = .int .i64 k∧(∀j,j<k→p.arB j=true)∧Bx wr w.heap.size #[.slice a1 p.ns.length c1,.slice a2 p.gs.length c2] 132∧Ext w wr∧Ext w3 wr) (fun i _=>p.ns.length - (intOf i).toNat)
   case atStart=>exact ⟨0,by omega,rfl,fun j h=>by omega,HB.out,HX.out,HX1.out⟩
   case round=>
    clear HB HX HX1 q q0 q1;obtain ⟨k,hk,rfl,hall,hB,hx,hx1⟩:=hrel;have HA2:=hid hall;have HX:=hid hx;have HX1:=hid hx1;have HB:=hid hB
    by_cases hlt:k<p.ns.length
    ·obtain ⟨b,off,op,s,num,sa,sc,ra,rfl,hb1,hbw,hget,io,inn,hI,HI,y0,y1,y2,y3⟩:=HN.atW hlt hx hh
     have li1:=HI.le;have li2:=HI.cap;have q0:Ext wr (wr.alloc (.cells #[.int .i64 op,.string s,.int .i64 num,.slice sa ra.length sc] 243)):=X_
     obtain ⟨E,hE⟩:∃E,exprV op (.agg #[.int .i64 op,.string s,.int .i64 num,.slice sa ra.length sc])=E:=⟨_,rfl⟩
     obtain ⟨bk,hbk⟩:∃r,fitB op s ra.length=r:=⟨_,rfl⟩
     have HE:=hid hE;have HBK:=hid hbk;have HND:Hid (p.arB k=bk):=hid (by rw [Prg.arB_at hget,←hbk];rfl);clear hget hall hB hx hx1 hI hE hbk;go_wp2_with fail;refine (iExprOf_val HE.out _).mono ?_;rintro e w4 ⟨rfl,x4⟩;go_wp2_with fail;have hk5:=iFitting_val HBK.out num sa sc w4;rw [HE.out] at hk5;refine hk5.mono ?_;clear hk5;rintro e w5 ⟨rfl,x5⟩;have X5:=x4.trans x5;have HX5:=hid ((HX.out.trans q0).trans X5);have HX6:=hid ((HX1.out.trans q0).trans X5);have HB5:=hid ((HB.out.ext q0).ext X5);clear x4 x5 X5
     cases bk
     ·go_wp2
      have HC:p.chkB=false:=by unfold Prg.chkB;rw [rng_no (p:=p.arB) hlt HND.out];simp
      refine bodyPost_ret (v:=.tuple #[.int .i64 3,.int .i64 k]) (by simp [results,Tryz.results164,go_sem]) rfl ⟨⟨_,_,rfl,by rw [HC];rfl⟩,HX5.out⟩
     ·go_wp2
      go_roundw
      case rel=>
       refine ⟨k+1,by omega,by go_num,fun i hi=>?_,HB5.out,HX5.out,HX6.out⟩
       by_cases e:i=k
       ·subst e;exact HND.out
       ·exact HA2.out i (by omega)
      case measure=>simp [intOf];omega
    ·obtain rfl:k=p.ns.length:=by omega
     have q:=hB.lt;have q0:=hB.cell 0;simp only [List.getElem?_toArray,List.getElem?_cons_zero,List.getElem?_cons_succ] at q0;have q1:=hB.cell 1;simp only [List.getElem?_toArray,List.getElem?_cons_zero,List.getElem?_cons_succ] at q1;clear hall hB hx hx1;go_wp2
     go_loopw [57] (fun i wr=>∃k:Nat,k≤p.gs.length∧i = .int .i64 k∧(∀j,j<k→p.asB j=true)∧Ext w wr∧Ext w3 wr) (fun i _=>p.gs.length - (intOf i).toNat)
     case atStart=>exact ⟨0,by omega,rfl,fun j h=>by omega,HX.out,HX1.out⟩
     case round=>
      clear HB HX HX1 q q0 q1;obtain ⟨k,hk,rfl,hall,hx,hx1⟩:=hrel;have HA3:=hid hall;have HX:=hid hx;have HX1:=hid hx1
      by_cases hlt:k<p.gs.length
      ·obtain ⟨b,off,s,rt,rfl,hb1,hbw,hdrop,hget,ir,y0,y1⟩:=HG.at hlt hx hh
       have q0:Ext wr (wr.alloc (.cells #[.string s,.int .i64 rt] 194)):=X_;have hsz:=HBD.out.2 _ (List.mem_of_getElem? hget);simp only at hsz
       obtain ⟨bv,hbv⟩:∃b,isVar s=b:=⟨_,rfl⟩
       have HBV:=hid hbv
       obtain ⟨t,ht⟩:∃t,frst p.gs p.gs.length s.toList=some t:=by
        cases e:frst p.gs p.gs.length s.toList with
        | some t=>exact ⟨t,rfl⟩
        | none=>
         have:=frst_none e;rw [asgB_iff.2 ⟨k,_,hlt,hget,rfl⟩] at this;cases this
       have HT:=hid ht
       have htb:t≤1048576:=by have:=(frst_some ht).1;omega
       have HND:Hid (p.asB k=(!bv && !(decide (t<k)))):=hid (by rw [Prg.asB_at hget,hbv,frst_lt ht]);have HX3:=hid (hx.trans q0);have HX4:=hid (hx1.trans q0);have hlook:=((HM3.out.ext hx1).ext q0).look hsz ht;clear hdrop hget hall hx hx1 HX HX1 hbv ht
       have e0:decide (t<k)=true∨decide (t<k)=false:=by cases decide (t<k) <;> simp
       have hfin:p.asB k=false→p.chkB=false:=fun h=>by unfold Prg.chkB;rw [rng_no (p:=p.asB) hlt h];simp
       have HF:=hid hfin;clear hfin
       by_cases htk:t<k
       ·have HD:=hid (HND.out.trans (by rw [decide_eq_true htk];simp:_=false))
        clear HND e0
        cases bv
        all_goals
         go_wp2_with (go_at_call 218;refine (iIsVariable_val HBV.out _).mono ?_;rintro e w4 ⟨rfl,rfl⟩);refine bodyPost_ret (v:=.tuple #[.int .i64 4,.int .i64 k]) (by simp [results,Tryz.results164,go_sem]) rfl ⟨⟨_,_,rfl,by rw [HF.out HD.out];rfl⟩,HX3.out⟩
       ·have HD:=hid (HND.out.trans (by rw [decide_eq_false htk];simp:_ = !bv))
        clear HND e0
        cases bv
        ·go_wp2_with (go_at_call 218;refine (iIsVariable_val HBV.out _).mono ?_;rintro e w4 ⟨rfl,rfl⟩)
         go_roundw
         case rel=>
          refine ⟨k+1,by omega,by go_num,fun i hi=>?_,HX3.out,HX4.out⟩
          by_cases e:i=k
          ·subst e;exact HD.out
          ·exact HA3.out i (by omega)
         case measure=>simp [intOf];omega
        ·go_wp2_with (go_at_call 218;refine (iIsVariable_val HBV.out _).mono ?_;rintro e w4 ⟨rfl,rfl⟩)
         refine bodyPost_ret (v:=.tuple #[.int .i64 4,.int .i64 k]) (by simp [results,Tryz.results164,go_sem]) rfl ⟨⟨_,_,rfl,by rw [HF.out HD.out];rfl⟩,HX3.out⟩
      ·obtain rfl:k=p.gs.length:=by omega
       have HMW:=hid (HM3.out.ext hx1);clear hall hx hx1;have HC:Hid (p.chkB=asgB p.gs p.gs.length [99,111,108,111,114]):=hid (by unfold Prg.chkB Prg.colB;rw [HOK.out,rng_all HA.out,rng_all HA2.out,rng_all HA3.out];rfl)
       cases hc:frst p.gs p.gs.length [99,111,108,111,114] with
       | none=>
        have HC2:=hid (HC.out.trans (frst_no hc));have HQ:=hid hc;clear HC hc;go_wp2_with (at_lookup;refine wpList_first_ok _ rfl _ _ rfl _ _ _ rfl HMW.out (⟨#[99,111,108,111,114]⟩:ByteArray) (by decide) rfl none (by rw [colS];exact HQ.out) ?_);refine bodyPost_ret (v:=.tuple #[.int .i64 5,.int .i64 0]) (by simp [results,Tryz.results164,go_sem]) rfl ⟨⟨_,_,rfl,HC2.out.symm⟩,HX.out⟩
       | some t=>
        have HC2:=hid (HC.out.trans ((frst_lt hc).trans (decide_eq_true (frst_some hc).1)));have HQ:=hid hc;clear HC hc;go_wp2_with (at_lookup;refine wpList_first_ok _ rfl _ _ rfl _ _ _ rfl HMW.out (⟨#[99,111,108,111,114]⟩:ByteArray) (by decide) rfl (some t) (by rw [colS];exact HQ.out) ?_);refine bodyPost_ret (v:=.tuple #[.int .i64 0,.int .i64 0]) (by simp [results,Tryz.results164,go_sem]) rfl ⟨⟨_,_,rfl,HC2.out.symm⟩,HX.out⟩
theorem iIsOk_val {p:Prg} {b:Bool} (h:p.chkB=b) (lo hi:Nat) (v:Value) (w:World) (hv:p.R lo hi w v) (hh:hi≤w.heap.size) (hb:p.bd) (hgl:p.gs.length≤1048576) :
  Calls Tryz.prog 99 #[v] w fun e w'=>e = .returned (.bool b)∧Ext w w':=by
 have HV:=hid hv;obtain ⟨a1,c1,a2,c2,rfl,HN,HG⟩:=hv.form;have x0:Ext w (w.alloc (.cells #[.slice a1 p.ns.length c1,.slice a2 p.gs.length c2] 132)):=X_;have HH:=hid h;clear hv HN HG h;go_enter Tryz.func99,Tryz.ntmps99;go_wp2_with fail;refine (iCheck_any lo hi _ p _ (HV.out.ext hh x0) (Nat.le_trans hh x0.size) hb hgl).mono ?_;rintro e w1 ⟨⟨c,k,rfl,hc⟩,x1⟩;rw [HH.out] at hc;have X1:=x0.trans x1;go_wp2;go_ret;exact ⟨rfl,X1⟩
end
def colOf (S:List (List Int)) (k:Nat):List Int:=S.map fun r=>r.getD k 0
theorem colOf_len (S:List (List Int)) (k:Nat):(colOf S k).length=S.length:=by simp [colOf]
theorem colOf_take (S:List (List Int)) (k j:Nat) (h:j<S.length):(colOf S k).take j++[S[j].getD k 0]=(colOf S k).take (j+1):=by
 rw [List.take_succ_eq_append_getElem (by rw [colOf_len];exact h)];simp [colOf]
def good (m:Nat) (r:List Int):Prop:=r.length=m∧∀x∈r,S9 x
theorem colOf_S9 {m:Nat} {S:List (List Int)} (h:∀r∈S,good m r) {k:Nat} (hk:k<m):∀x∈colOf S k,S9 x:=by
 intro x hx;obtain ⟨r,hr,rfl⟩:=List.mem_map.1 hx;obtain ⟨h1,h2⟩:=h r hr;have e:r.getD k 0=r[k]'(by omega):=getD_at r k (by omega);exact e▸h2 _ (List.getElem_mem _)
def Fun (F:Nat) (t:Tex) (ar:Nat) (fv:List Int→Int):Prop:=
 ∀(lo hi lo' hi':Nat) (u v:Value) (x:List Int) (w:World),x.length=ar→(∀y∈x,S9 y)→Ints lo hi w u x→hi≤w.heap.size→TexR lo' hi' w v t→hi'≤w.heap.size →
  Calls Tryz.prog F #[v,u] w fun e w'=>e = .returned (.int .i64 (fv x))∧Ext w w'
structure FBox (w:World) (B:Nat) (a b:Value):Prop where
 lt:B<w.heap.size
 c0:w.cell? ⟨B,0,none⟩=some a
 c1:w.cell? ⟨B,1,none⟩=some b
 f0:w.frozen? ⟨B,0,none⟩=false
 f1:w.frozen? ⟨B,1,none⟩=false
theorem FBox.made (w:World) (a b:Value) (ty:TypeId):FBox (w.alloc (.cells #[a,b] ty)) w.heap.size a b:=⟨by simp,by simp [go_sem],by simp [go_sem],by simp [go_sem],by simp [go_sem]⟩
theorem FBox.ext {w w':World} {B:Nat} {a b:Value} (h:FBox w B a b) (e:Ext w w'):FBox w' B a b:=by
 have:=e.size;have h0:=h.lt;obtain ⟨p,q⟩:=e.cells;exact ⟨by omega,(p B _ h0).trans h.c0,(p B _ h0).trans h.c1,(q B _ h0).trans h.f0,(q B _ h0).trans h.f1⟩
theorem FBox.set2 {w:World} {B:Nat} {a b:Value} (h:FBox w B a b) (x y:Value):TBox ((w.setCell ⟨B,0,none⟩ x).setCell ⟨B,1,none⟩ y) B x y:=by
 have h0:=h.lt;have h1:=h.c0;have h2:=h.c1;refine ⟨by simpa using h0,by simp [go_sem,h1],by simp [go_sem,h2]⟩
theorem iCalled_gen (F:Nat) (fv:List Int→Int) (i0:Nat) (s:ByteArray) (S:List (List Int)) (lo hi lo' hi':Nat) (n m:Nat) (pu tu av:Value) (tm:Int) (t:Tex) (w:World)
  (hdu:(s.toList==[100,117])=false) (hdv:(s.toList==[100,118])=false) (hlook:Instr.findNow .string (.string s) fnEntries.toList 0=some (some (i0,.func (.func F) #[] #[])))
  (hE:∀xs w',(callFunc F xs).run Tryz.prog w' = .ok (.enter F xs) w') (hF:Fun F t S.length fv) (hS:SS lo hi w av S) (hh:hi≤w.heap.size) (hT:TexR lo' hi' w (.agg #[.int .i64 t.log,tu]) t) (hh':hi'≤w.heap.size) (hg:∀r∈S,good m r) (hm:(n:Int)*n=m) (hm2:m≤64) (hl:S.length≤3) :
  Calls Tryz.prog 273 #[.string s,.agg #[.int .i64 n,pu,.int .i64 tm,.int .i64 t.log,tu],av] w fun e w'=>∃r,e = .returned r∧OwnInts w.heap.size w' r ((List.range m).map fun k=>satI (fv (colOf S k)))∧Ext w w':=by
 obtain ⟨a,cap,rfl,HS⟩:=hS.open;have l1:=HS.le;have l2:=HS.cap
 obtain ⟨ta,tc,rfl⟩:∃ta tc,tu = .slice ta t.px.length tc:=by
  obtain ⟨u,h1,_,h2⟩:=hT;obtain ⟨ta,tc,h3,_⟩:=h2.open;simp only [Value.agg.injEq,Array.mk.injEq,List.cons.injEq,true_and,and_true] at h1;exact ⟨ta,tc,h1.trans h3⟩
 have HT:=hid hT;have HG:=hid hg;have HF:=hid hF;clear hS hT hg hF;obtain ⟨j0,hj0,hz0,hz1,hz2⟩:=info_parts info_int;go_enter Tryz.func273,Tryz.ntmps273
 have hsz:w.heap.size+1=(w.alloc (.cells #[.int .i64 n,pu,.int .i64 tm,.int .i64 t.log,.slice ta t.px.length tc] 135)).heap.size:=by simp
 have hq0:Ext w (w.alloc (.cells #[.int .i64 n,pu,.int .i64 tm,.int .i64 t.log,.slice ta t.px.length tc] 135)):=X_
 have hc0:(w.alloc (.cells #[.int .i64 n,pu,.int .i64 tm,.int .i64 t.log,.slice ta t.px.length tc] 135)).cell? ⟨w.heap.size,0,none⟩=some (.int .i64 n):=by simp [go_sem]
 have hc3:(w.alloc (.cells #[.int .i64 n,pu,.int .i64 tm,.int .i64 t.log,.slice ta t.px.length tc] 135)).cell? ⟨w.heap.size,3,none⟩=some (.int .i64 t.log):=by simp [go_sem]
 have hc4:(w.alloc (.cells #[.int .i64 n,pu,.int .i64 tm,.int .i64 t.log,.slice ta t.px.length tc] 135)).cell? ⟨w.heap.size,4,none⟩=some (.slice ta t.px.length tc):=by simp [go_sem]
 go_upto_region 6 with fail;generalize (w.alloc (.cells #[.int .i64 n,pu,.int .i64 tm,.int .i64 t.log,.slice ta t.px.length tc] 135))=W0 at hsz hq0 hc0 hc3 hc4 ⊢
 have hlt:w.heap.size<W0.heap.size:=by omega
 go_cut [7,8] from 31 to 36 (fun fn p wx=>fn = .func (.func F) #[] #[]∧∃A,p = .pointer (some ⟨A,0,none⟩)∧W0.heap.size≤A∧Ext W0 wx∧TBox wx A (.int .i64 t.log) (.slice ta t.px.length tc))
 case first=>
  refine wp_region_Z 8 W0.heap.size (by kernel_rfl) ?_;refine z2_ (fuel:=4) [1,3,4,5] 0 6 (fun b _ hb=>rfl) (fun K hK=>?_) fun K hK=>?_
  ·go_wp2_with fail
   refine (pointwise_any _).mono ?_;rintro e wa ⟨mb,rfl,mlo,mlt,mh,xa⟩;have ua:Ext W0 wa:=Ext.trans X_ xa;go_wp2_with fail;refine hK _ _ (.inr (fun b _ hb=>ua.block (by omega))) ?_;clear hK K;refine z2_ (fuel:=3) [] 2 6 (fun b _ hb=>ua.block (by omega)) (fun K hK=>?_) fun K hK=>?_
   ·refine wpList_look _ rfl _ _ rfl mb _ _ _ rfl mh _ rfl _ hlook ?_
    go_wp2;refine hK _ _ (.inr (fun b _ hb=>ua.block (by omega))) ?_;clear hK K;refine z1_ (fuel:=2) [] 6 (fun b _ hb=>ua.block (by omega)) fun K hK=>?_;go_wp2;have ub:=ua.alloc (.cells #[.int .i64 0,.slice none 0 0] 371);have bx:=FBox.made wa (.int .i64 0) (.slice none 0 0) 371;have hA:=ua.size;refine hK _ _ (.inr (fun b _ hb=>ub.block (by omega))) ?_;clear hK K;refine z1_ (fuel:=0) [7] 8 (fun b _ hb=>ub.block (by omega)) fun K hK=>?_;have k0:=bx.lt;have k1:=bx.c0;have k2:=bx.c1;have k3:=bx.f0;have k4:=bx.f1;go_wp2;refine hK _ _ (.inl (by trivial)) ?_;clear hK K;refine wpZ_end (by kernel_rfl) ?_;go_wp2_with fail
    go_meet
    exact ⟨rfl,wa.heap.size,rfl,by omega,(by have X:=ub;exact S_),by first|exact TBox.made _ _ _ _|exact bx.set2 _ _⟩
   ·go_wp2
    have ub:=ua.alloc (.cells #[.int .i64 0,.slice none 0 0] 371);have bx:=FBox.made wa (.int .i64 0) (.slice none 0 0) 371;have hA:=ua.size;refine hK _ _ (.inr (fun b _ hb=>ub.block (by omega))) ?_;clear hK K;refine z1_ (fuel:=2) [] 2 (fun b _ hb=>ub.block (by omega)) fun K hK=>?_;refine wpList_look _ rfl _ _ rfl mb _ _ _ rfl ((Ext.block (w:=wa) X_ mlt).trans mh) _ rfl _ hlook ?_;go_wp2;refine hK _ _ (.inr (fun b _ hb=>ub.block (by omega))) ?_;clear hK K;refine z1_ (fuel:=0) [7] 8 (fun b _ hb=>ub.block (by omega)) fun K hK=>?_;have k0:=bx.lt;have k1:=bx.c0;have k2:=bx.c1;have k3:=bx.f0;have k4:=bx.f1;go_wp2;refine hK _ _ (.inl (by trivial)) ?_;clear hK K;refine wpZ_end (by kernel_rfl) ?_;go_wp2_with fail
    go_meet
    exact ⟨rfl,wa.heap.size,rfl,by omega,(by have X:=ub;exact S_),by first|exact TBox.made _ _ _ _|exact bx.set2 _ _⟩
  ·go_wp2
   have ub:Ext W0 (W0.drew.alloc (.cells #[.int .i64 0,.slice none 0 0] 371)):=X_;have bx:FBox (W0.drew.alloc (.cells #[.int .i64 0,.slice none 0 0] 371)) W0.heap.size (.int .i64 0) (.slice none 0 0):=FBox.made W0.drew (.int .i64 0) (.slice none 0 0) 371;refine hK _ _ (.inr (fun b _ hb=>ub.block (by omega))) ?_;clear hK K;refine z1_ (fuel:=3) [] 0 (fun b _ hb=>ub.block (by omega)) fun K hK=>?_;go_wp2_with fail;refine (pointwise_any _).mono ?_;rintro e wa ⟨mb,rfl,mlo,mlt,mh,xa⟩;have ua:=ub.trans xa;have by2:=bx.ext xa;go_wp2_with fail;refine hK _ _ (.inr (fun b _ hb=>ua.block (by omega))) ?_;clear hK K;refine z1_ (fuel:=2) [] 2 (fun b _ hb=>ua.block (by omega)) fun K hK=>?_;refine wpList_look _ rfl _ _ rfl mb _ _ _ rfl mh _ rfl _ hlook ?_;go_wp2;refine hK _ _ (.inr (fun b _ hb=>ua.block (by omega))) ?_;clear hK K;refine z1_ (fuel:=0) [7] 8 (fun b _ hb=>ua.block (by omega)) fun K hK=>?_;have k0:=by2.lt;have k1:=by2.c0;have k2:=by2.c1;have k3:=by2.f0;have k4:=by2.f1;go_wp2;refine hK _ _ (.inl (by trivial)) ?_;clear hK K;refine wpZ_end (by kernel_rfl) ?_;go_wp2_with fail
   go_meet
   exact ⟨rfl,W0.heap.size,rfl,by omega,(by have X:=ua;exact S_),by first|exact TBox.made _ _ _ _|exact by2.set2 _ _⟩
 case rest=>
  obtain ⟨rfl,A,rfl,hA,xc,tb⟩:=hcut;have X:=hq0.trans xc;have e0:=(xc.cells.1 _ _ hlt).trans hc0
  have hcs:w.heap.size<wc.heap.size:=by have:=xc.size;omega
  have hmi:(List.range m).length=m:=by simp
  clear hc0 hc3 hc4 hq0 xc hlook;go_wp2_with (at_make;refine wpList_make_row _ rfl _ _ 25 rfl 3 j0 (.int .i64 0) Tryz.underlying25 hj0 hz0 hz1 rfl .i64 .i64 m rfl rfl (by rw [hz2];omega) (by omega) ?_);have hrow:=hid (RowI.zero (f:=fun k=>satI (fv (colOf S k))) (show RowI _ _ _ m (fun _=>0) from World.rowIs_made wc (.int .i64 0) m 3));have X1:=hid (X.alloc (.cells (madeCells #[.int .i64 0] m) 3));have tb1:=hid (tb.ext ((Ext.refl wc).alloc (.cells (madeCells #[.int .i64 0] m) 3)))
  have hB2:w.heap.size≤wc.heap.size:=by omega
  have hB3:A≠wc.heap.size:=by have:=tb.lt;omega
  generalize hB:wc.heap.size=B at hrow hB2 hB3;clear hj0 hz0 hz1 hz2 X tb e0;go_wp2
  go_loopw [45] (fun i wr=>∃k:Nat,k≤m∧i = .int .i64 k∧Ext w wr∧RowI wr B 3 m (fillI (fun k=>satI (fv (colOf S k))) k)∧TBox wr A (.int .i64 t.log) (.slice ta t.px.length tc)) (fun i _=>m - (intOf i).toNat)
  case atStart=>exact ⟨0,by omega,rfl,X1.out,hrow.out,tb1.out⟩
  case round=>
   clear hrow X1 tb1;obtain ⟨k,hk,rfl,hx,hrow,tb⟩:=hrel
   by_cases hlt:k<m
   ·have HX:=hid hx
    have HR:=hid hrow;have HB:=hid tb;clear hx hrow tb
    rename World=>W1
    go_wp2
    go_loopw [11,51] (fun v i wq=>∃j:Nat,j≤S.length∧i = .int .i64 j∧OwnInts W1.heap.size wq v ((colOf S k).take j)∧Ext W1 wq) (fun _ i _=>S.length - (intOf i).toNat)
    case atStart=>exact ⟨0,by omega,rfl,OwnInts.lit0 W1,X_⟩
    case round=>
     obtain ⟨j,hj,rfl,hown,hy⟩:=hrel;obtain ⟨av,cv,rfl,hcv⟩:=hown.form
     have hlen:((colOf S k).take j).length=j:=by rw [List.length_take,colOf_len];omega
     rw [hlen] at hown ⊢
     by_cases hlj:j<S.length
     ·obtain ⟨b,off,u,rfl,hb1,hb2,c0,hu⟩:=HS.at hlj (HX.out.trans hy) hh
      obtain ⟨g1,g2⟩:=HG.out _ (List.getElem_mem hlj);obtain ⟨ua,uc,rfl,HU⟩:=hu.open;have lu:=HU.le;have lc:=HU.cap;obtain ⟨b3,off3,rfl,hb3,hb4,c3⟩:=HU.at (k:=k) (by omega);have hz4:=HX.out.size;have hz5:=hy.size
      have hb5:b3<wr.heap.size:=by omega
      have hgd:=getD_at S[j] k (by omega);have hsn:=colOf_take S k j hlj;rw [hgd] at hsn;have i9:=(g2 _ (List.getElem_mem (show k<S[j].length by omega))).i64
      obtain ⟨x,hxk⟩:∃x,S[j][k]'(by omega)=x:=⟨_,rfl⟩
      rw [hxk] at c3 hsn i9;rw [g1] at lu c0;have HO:=hid hown;have HY:=hid hy;have HSN:=hid hsn;have HL:=hid hlen;have HI:=hid i9;clear hown hy hsn hlen hxk hgd hu HU i9 hz4 hz5 g1 g2;go_wp2_with (at_builtin;refine wpList_append1 _ rfl _ _ rfl W1.heap.size _ _ rfl (HO.out.alloc _) x HI.out wr.heap.size rfl (by simp [go_sem]) (by rw [HL.out];omega) (by have:=HY.out.size;simp;omega) ?_;intro v' w7 hown hg);rw [HSN.out] at hown;go_wp2;go_roundw
      case rel=>exact ⟨j+1,by omega,by go_num,hown,Ext.grown (HY.out.alloc _) hg (fun g e=>(HO.out.lt g e).1)⟩
      case measure=>simp [intOf];omega
     ·obtain rfl:j=S.length:=by omega
      rw [List.take_of_length_le (by rw [colOf_len];omega)] at hown;have tb:=HB.out.ext hy;have q0:=tb.lt;have q1:=tb.c0;have q2:=tb.c1;have xq:=HX.out.trans hy;have hs9:=colOf_S9 HG.out hlt;have HC:=hid (HF.out _ _ _ _ _ _ _ wr (colOf_len S k) hs9 hown.ints (Nat.le_refl _) (HT.out.ext hh' xq) (by have:=xq.size;omega));have HX2:=hid xq;have HR2:=hid (HR.out.ext hy);have HTB:=hid tb;clear hown hy tb xq hs9;go_wp2_with fail;refine HC.out.mono ?_;rintro e w7 ⟨rfl,x7⟩;have R7:=HR2.out.ext x7;have r0:=R7.cell hlt;have r1:=R7.frozen k;have r2:=R7.lt;have HR7:=hid R7
      obtain ⟨y,hy⟩:∃y,satI (fv (colOf S k))=y:=⟨_,rfl⟩
      have HY2:=hid hy;have HX7:=hid (HX2.out.trans x7);have HTB7:=hid (HTB.out.ext x7);clear R7 hy x7 q0 q1 q2;go_wp2_with fail;refine (iSaturate_val HY2.out _).mono ?_;rintro e w8 ⟨rfl,rfl⟩;go_wp2;go_roundw
      case rel=>exact ⟨k+1,by omega,by go_num,HX7.out.setCell hB2 _,HR7.out.step rfl HY2.out.symm,HTB7.out.at (by simp) (Below.heap_setCell _ _ _ _ hB3)⟩
      case measure=>simp [intOf];omega
   ·obtain rfl:k=m:=by omega
    go_wp2;go_ret;exact ⟨_,rfl,hrow.full.ownInts hB2 (by unfold maxLen;omega) (fun i _=>(satI_S9 _).i64),hx⟩
def fnV (t:Tex) (s:List UInt8) (x:List Int):Int:=
 if s==[97,98,115] then absI (x.getD 0 0) else if s==[102,108,111,111,114] then floorI (x.getD 0 0) else if s==[109,105,110] then minI (x.getD 0 0) (x.getD 1 0) else if s==[109,97,120] then maxI (x.getD 0 0) (x.getD 1 0) else if s==[115,116,101,112] then stepI (x.getD 0 0) (x.getD 1 0) else if s==[110,111,105,115,101] then hash257 [x.getD 0 0,x.getD 1 0] else if s==[99,108,97,109,112] then clampI (x.getD 0 0) (x.getD 1 0) (x.getD 2 0) else if s==[109,105,120] then blendI (x.getD 0 0) (x.getD 1 0) (x.getD 2 0) else if s==[116,101,120] then t.look (x.getD 0 0) (x.getD 1 0) else 0
def callRow (n m:Nat) (t:Tex) (s:List UInt8) (S:List (List Int)):List Int:=
 if s==[100,117] then diffs (S.getD 0 []) n false else if s==[100,118] then diffs (S.getD 0 []) n true else (List.range m).map fun k=>satI (fnV t s (colOf S k))
theorem one_of {x:List Int} (h:x.length=1):∃a,x=[a]:=by
 match x,h with
 | [a],_=>exact ⟨a,rfl⟩
theorem two_of {x:List Int} (h:x.length=2):∃a b,x=[a,b]:=by
 match x,h with
 | [a,b],_=>exact ⟨a,b,rfl⟩
theorem three_of {x:List Int} (h:x.length=3):∃a b c,x=[a,b,c]:=by
 match x,h with
 | [a,b,c],_=>exact ⟨a,b,c,rfl⟩
theorem enters {f : FuncId} {fn : Func} (hf : Tryz.prog.funcs[f]? = some fn) (hname : (fn.name == "runtime.NumGoroutine") = false) (hb : fn.body.isSome = true) (args : Array Value) (w : World) : (callFunc f args).run Tryz.prog w = .ok (.enter f args) w := by
 cases h:fn.body with
 | none=>rw [h] at hb;cases hb
 | some c=>
  have h1 : fn.name ≠ "runtime.NumGoroutine" := by simpa using hname
  simp [callFunc,hf,h1,h]
theorem Fun_abs (t:Tex) (_ht:t.okB=true):Fun 316 t 1 (fnV t [97,98,115]):=by
 intro lo hi lo' hi' u v x w hl hs hu hh hv hh';obtain ⟨a,rfl⟩:=one_of hl;obtain ⟨cu,rfl,c1,c2⟩:=hv;exact callee_abs lo hi u _ _ w hu hh (hs a (by simp)) rfl
theorem look_abs:Instr.findNow .string (.string ⟨#[97,98,115]⟩) fnEntries.toList 0=some (some (0,.func (.func 316) #[] #[])):=by rfl
theorem Fun_floor (t:Tex) (_ht:t.okB=true):Fun 317 t 1 (fnV t [102,108,111,111,114]):=by
 intro lo hi lo' hi' u v x w hl hs hu hh hv hh';obtain ⟨a,rfl⟩:=one_of hl;obtain ⟨cu,rfl,c1,c2⟩:=hv;exact callee_floor lo hi u _ _ w hu hh (hs a (by simp)) rfl
theorem look_floor:Instr.findNow .string (.string ⟨#[102,108,111,111,114]⟩) fnEntries.toList 0=some (some (1,.func (.func 317) #[] #[])):=by rfl
theorem Fun_min (t:Tex) (_ht:t.okB=true):Fun 318 t 2 (fnV t [109,105,110]):=by
 intro lo hi lo' hi' u v x w hl hs hu hh hv hh';obtain ⟨a,b,rfl⟩:=two_of hl;obtain ⟨cu,rfl,c1,c2⟩:=hv;exact callee_min lo hi u _ _ w hu hh  rfl
theorem look_min:Instr.findNow .string (.string ⟨#[109,105,110]⟩) fnEntries.toList 0=some (some (2,.func (.func 318) #[] #[])):=by rfl
theorem Fun_max (t:Tex) (_ht:t.okB=true):Fun 319 t 2 (fnV t [109,97,120]):=by
 intro lo hi lo' hi' u v x w hl hs hu hh hv hh';obtain ⟨a,b,rfl⟩:=two_of hl;obtain ⟨cu,rfl,c1,c2⟩:=hv;exact callee_max lo hi u _ _ w hu hh  rfl
theorem look_max:Instr.findNow .string (.string ⟨#[109,97,120]⟩) fnEntries.toList 0=some (some (3,.func (.func 319) #[] #[])):=by rfl
theorem Fun_step (t:Tex) (_ht:t.okB=true):Fun 320 t 2 (fnV t [115,116,101,112]):=by
 intro lo hi lo' hi' u v x w hl hs hu hh hv hh';obtain ⟨a,b,rfl⟩:=two_of hl;obtain ⟨cu,rfl,c1,c2⟩:=hv;exact callee_step lo hi u _ _ w hu hh (hs a (by simp)) (hs b (by simp)) rfl
theorem look_step:Instr.findNow .string (.string ⟨#[115,116,101,112]⟩) fnEntries.toList 0=some (some (4,.func (.func 320) #[] #[])):=by rfl
theorem Fun_noise (t:Tex) (_ht:t.okB=true):Fun 321 t 2 (fnV t [110,111,105,115,101]):=by
 intro lo hi lo' hi' u v x w hl hs hu hh hv hh';obtain ⟨a,b,rfl⟩:=two_of hl;obtain ⟨cu,rfl,c1,c2⟩:=hv;exact callee_noise lo hi u _ _ [a,b] w hu hh rfl
theorem look_noise:Instr.findNow .string (.string ⟨#[110,111,105,115,101]⟩) fnEntries.toList 0=some (some (5,.func (.func 321) #[] #[])):=by rfl
theorem Fun_clamp (t:Tex) (_ht:t.okB=true):Fun 322 t 3 (fnV t [99,108,97,109,112]):=by
 intro lo hi lo' hi' u v x w hl hs hu hh hv hh';obtain ⟨a,b,c,rfl⟩:=three_of hl;obtain ⟨cu,rfl,c1,c2⟩:=hv;exact callee_clamp lo hi u _ _ w hu hh  rfl
theorem look_clamp:Instr.findNow .string (.string ⟨#[99,108,97,109,112]⟩) fnEntries.toList 0=some (some (6,.func (.func 322) #[] #[])):=by rfl
theorem Fun_mix (t:Tex) (_ht:t.okB=true):Fun 323 t 3 (fnV t [109,105,120]):=by
 intro lo hi lo' hi' u v x w hl hs hu hh hv hh';obtain ⟨a,b,c,rfl⟩:=three_of hl;obtain ⟨cu,rfl,c1,c2⟩:=hv;exact callee_mix lo hi u _ _ w hu hh (hs a (by simp)) (hs b (by simp)) (hs c (by simp)) rfl
theorem look_mix:Instr.findNow .string (.string ⟨#[109,105,120]⟩) fnEntries.toList 0=some (some (7,.func (.func 323) #[] #[])):=by rfl
theorem Fun_tex (t:Tex) (_ht:t.okB=true):Fun 324 t 2 (fnV t [116,101,120]):=by
 intro lo hi lo' hi' u v x w hl hs hu hh hv hh';obtain ⟨a,b,rfl⟩:=two_of hl;obtain ⟨cu,rfl,c1,c2⟩:=hv
 have hv:TexR lo' hi' w (.agg #[.int .i64 t.log,cu]) t:=⟨cu,rfl,c1,c2⟩
 exact callee_tex lo hi lo' hi' u _ t w hu hh hv hh' (Tex.okB_iff.1 _ht) rfl
theorem look_tex:Instr.findNow .string (.string ⟨#[116,101,120]⟩) fnEntries.toList 0=some (some (8,.func (.func 324) #[] #[])):=by rfl
theorem iCalled_d (rows:Bool) (xs:List Int) (lo hi:Nat) (n m:Nat) (pu tu av:Value) (tm g3:Int) (w:World) (s:ByteArray) (S:List (List Int)) (hs:s.toList=if rows then [100,118] else [100,117]) (hxs:S[0]?=some xs)
  (hS:SS lo hi w av S) (hh:hi≤w.heap.size) (hg:good m xs) (hm:n*n=m) (h1:1≤n) (h8:n≤8) :
  Calls Tryz.prog 273 #[.string s,.agg #[.int .i64 n,pu,.int .i64 tm,.int .i64 g3,tu],av] w fun e w'=>∃r,e = .returned r∧OwnInts w.heap.size w' r (diffs xs n rows)∧Ext w w':=by
 obtain ⟨a,cap,rfl,HS⟩:=hS.open;have l1:=HS.le;have l2:=HS.cap;have hl0:=(List.getElem?_eq_some_iff.1 hxs).1;have hx0:=(List.getElem?_eq_some_iff.1 hxs).2;obtain ⟨b,off,u,rfl,hb1,hb2,c0,hu⟩:=HS.at hl0 (Ext.refl w) hh;rw [hx0] at hu;simp only [Nat.add_zero] at c0
 have hbn:b≠w.heap.size:=by omega
 have HU:=hid hu;clear hu hxs hx0
 cases rows
 ·have e:=conc (l:=[100,117]) hs
  subst e;clear hs;go_enter Tryz.func273,Tryz.ntmps273;go_wp2_with fail;refine wp_region_stages [([0,1,2,3,4],5),([],6)] 99 (w.heap.size+1) (by kernel_rfl) (by kernel_rfl) ?_;refine st_ fun K hK=>?_;go_wp2_with fail;refine (iDiffCols_any lo hi u xs n _ (HU.out.ext hh X_) (by simp;omega) (hg.1.trans hm.symm) h1 h8 hg.2).mono ?_;rintro e w1 ⟨r,rfl,hr,x1⟩;obtain ⟨ra,rc,rfl,_⟩:=hr.form;have X1:Ext w w1:=Ext.trans X_ x1;go_wp2_with fail;refine hK _ _ (.inr (fun k _ hk=>x1.block (by first|omega|(simp;omega)))) ?_;clear hK K;refine st_ fun K hK=>?_;go_wp2_with fail;go_wp2_with fail;refine hK _ _ (.inr (fun k _ hk=>x1.block (by first|omega|(simp;omega)))) ?_;clear hK K;refine wpStages_nil ?_;go_wp2;go_ret;exact ⟨_,rfl,hr.low (by simp),X1⟩
 ·have e:=conc (l:=[100,118]) hs
  subst e;clear hs;go_enter Tryz.func273,Tryz.ntmps273;go_wp2_with fail;refine wp_region_stages [([0,1,2,3,4],5),([],6)] 99 (w.heap.size+1) (by kernel_rfl) (by kernel_rfl) ?_;refine st_ fun K hK=>?_;go_wp2_with fail;refine (iDiffRows_any lo hi u xs n _ (HU.out.ext hh X_) (by simp;omega) (hg.1.trans hm.symm) h1 h8 hg.2).mono ?_;rintro e w1 ⟨r,rfl,hr,x1⟩;obtain ⟨ra,rc,rfl,_⟩:=hr.form;have X1:Ext w w1:=Ext.trans X_ x1;go_wp2_with fail;refine hK _ _ (.inr (fun k _ hk=>x1.block (by first|omega|(simp;omega)))) ?_;clear hK K;refine st_ fun K hK=>?_;go_wp2_with fail;go_wp2_with fail;refine hK _ _ (.inr (fun k _ hk=>x1.block (by first|omega|(simp;omega)))) ?_;clear hK K;refine wpStages_nil ?_;go_wp2;go_ret;exact ⟨_,rfl,hr.low (by simp),X1⟩
theorem iCalled_any (s:ByteArray) (S:List (List Int)) (lo hi lo' hi':Nat) (n m:Nat) (pu tu av:Value) (tm:Int) (t:Tex) (w:World) (hs:0≤arity s) (hl:(S.length:Int)=arity s) (ht:t.okB=true)
  (hS:SS lo hi w av S) (hh:hi≤w.heap.size) (hT:TexR lo' hi' w (.agg #[.int .i64 t.log,tu]) t) (hh':hi'≤w.heap.size) (hg:∀r∈S,good m r) (hm:n*n=m) (h1:1≤n) (h8:n≤8) :
  Calls Tryz.prog 273 #[.string s,.agg #[.int .i64 n,pu,.int .i64 tm,.int .i64 t.log,tu],av] w fun e w'=>∃r,e = .returned r∧OwnInts w.heap.size w' r (callRow n m t s.toList S)∧Ext w w':=by
 have hmi:(n:Int)*n=m:=by rw [←hm];simp
 have hm2:m≤64:=by
  have:n*n≤8*8:=Nat.mul_le_mul h8 h8;omega
 have key:∀(l:List UInt8) (F i0 ar:Nat),s.toList=l→(l==[100,117])=false→(l==[100,118])=false→(arityL l=ar)→ar≤3→Instr.findNow .string (.string ⟨l.toArray⟩) fnEntries.toList 0=some (some (i0,.func (.func F) #[] #[])) →
   (∀xs w',(callFunc F xs).run Tryz.prog w' = .ok (.enter F xs) w')→Fun F t ar (fnV t l)→Calls Tryz.prog 273 #[.string s,.agg #[.int .i64 n,pu,.int .i64 tm,.int .i64 t.log,tu],av] w fun e w'=>∃r,e = .returned r∧OwnInts w.heap.size w' r (callRow n m t s.toList S)∧Ext w w':=by
  intro l F i0 ar hsl h1' h2' har ha3 hlk hE hF
  have hlen:S.length=ar:=by
   unfold arity at hl;rw [hsl,har] at hl;omega
  subst hlen;rw [hsl];unfold callRow;rw [h1',h2'];have e:=conc hsl;subst e;exact iCalled_gen F (fnV t l) i0 _ S lo hi lo' hi' n m pu tu av tm t w (by rw [hsl];exact h1') (by rw [hsl];exact h2') hlk hE hF hS hh hT hh' hg hmi hm2 ha3
 have hd:∀rows:Bool,s.toList=(if rows then [100,118] else [100,117])→Calls Tryz.prog 273 #[.string s,.agg #[.int .i64 n,pu,.int .i64 tm,.int .i64 t.log,tu],av] w fun e w'=>∃r,e = .returned r∧OwnInts w.heap.size w' r (callRow n m t s.toList S)∧Ext w w':=by
  intro rows hsl
  have hl1:S.length=1:=by
   unfold arity at hl;rw [hsl] at hl
   cases rows <;> (have:(S.length:Int)=1:=hl;omega)
  obtain ⟨xs,rfl⟩:∃xs,S=[xs]:=by
   match S,hl1 with
   | [a],_=>exact ⟨a,rfl⟩
  have:=iCalled_d rows xs lo hi n m pu tu av tm t.log w s [xs] hsl rfl hS hh (hg xs (by simp)) hm h1 h8;rw [hsl]
  cases rows <;> exact this
 unfold arity arityL at hs
 by_cases c_abs:(s.toList==[97,98,115])=true
 ·exact key [97,98,115] _ _ 1 (eq_of_beq c_abs) rfl rfl rfl (by decide) look_abs (enters Tryz.func316 (by kernel_rfl) (by kernel_rfl)) (Fun_abs t ht)
 by_cases c_floor:(s.toList==[102,108,111,111,114])=true
 ·exact key [102,108,111,111,114] _ _ 1 (eq_of_beq c_floor) rfl rfl rfl (by decide) look_floor (enters Tryz.func317 (by kernel_rfl) (by kernel_rfl)) (Fun_floor t ht)
 by_cases c_du:(s.toList==[100,117])=true
 ·exact hd false (eq_of_beq c_du)
 by_cases c_dv:(s.toList==[100,118])=true
 ·exact hd true (eq_of_beq c_dv)
 by_cases c_min:(s.toList==[109,105,110])=true
 ·exact key [109,105,110] _ _ 2 (eq_of_beq c_min) rfl rfl rfl (by decide) look_min (enters Tryz.func318 (by kernel_rfl) (by kernel_rfl)) (Fun_min t ht)
 by_cases c_max:(s.toList==[109,97,120])=true
 ·exact key [109,97,120] _ _ 2 (eq_of_beq c_max) rfl rfl rfl (by decide) look_max (enters Tryz.func319 (by kernel_rfl) (by kernel_rfl)) (Fun_max t ht)
 by_cases c_step:(s.toList==[115,116,101,112])=true
 ·exact key [115,116,101,112] _ _ 2 (eq_of_beq c_step) rfl rfl rfl (by decide) look_step (enters Tryz.func320 (by kernel_rfl) (by kernel_rfl)) (Fun_step t ht)
 by_cases c_noise:(s.toList==[110,111,105,115,101])=true
 ·exact key [110,111,105,115,101] _ _ 2 (eq_of_beq c_noise) rfl rfl rfl (by decide) look_noise (enters Tryz.func321 (by kernel_rfl) (by kernel_rfl)) (Fun_noise t ht)
 by_cases c_tex:(s.toList==[116,101,120])=true
 ·exact key [116,101,120] _ _ 2 (eq_of_beq c_tex) rfl rfl rfl (by decide) look_tex (enters Tryz.func324 (by kernel_rfl) (by kernel_rfl)) (Fun_tex t ht)
 by_cases c_clamp:(s.toList==[99,108,97,109,112])=true
 ·exact key [99,108,97,109,112] _ _ 3 (eq_of_beq c_clamp) rfl rfl rfl (by decide) look_clamp (enters Tryz.func322 (by kernel_rfl) (by kernel_rfl)) (Fun_clamp t ht)
 by_cases c_mix:(s.toList==[109,105,120])=true
 ·exact key [109,105,120] _ _ 3 (eq_of_beq c_mix) rfl rfl rfl (by decide) look_mix (enters Tryz.func323 (by kernel_rfl) (by kernel_rfl)) (Fun_mix t ht)
 simp only [Bool.not_eq_true] at c_abs c_floor c_du c_dv c_min c_max c_step c_noise c_tex c_clamp c_mix;simp [c_abs,c_floor,c_du,c_dv,c_min,c_max,c_step,c_noise,c_tex,c_clamp,c_mix] at hs
theorem iLoaded_any (s:ByteArray) (lo hi:Nat) (n m:Nat) (pu tu:Value) (f:Nat→Int) (tm g3:Int) (w:World) (hp:Flats 5 lo hi w pu m f) (hh:hi≤w.heap.size) (hm:(n:Int)*n=m) (hm2:m≤64) (htm:I64 tm) :
  Calls Tryz.prog 271 #[.string s,.agg #[.int .i64 n,pu,.int .i64 tm,.int .i64 g3,tu]] w fun e w'=>∃r,e = .returned r∧OwnInts w.heap.size w' r ((List.range m).map (varL s.toList f tm))∧Ext w w':=by
 obtain ⟨a,cap,rfl,HP⟩:=hp.open;have l1:=HP.le;have l2:=HP.cap;clear hp;obtain ⟨j0,hj0,hz0,hz1,hz2⟩:=info_parts info_int;go_enter Tryz.func271,Tryz.ntmps271;go_wp2_with (at_make;refine wpList_make_row _ rfl _ _ 25 rfl 3 j0 (.int .i64 0) Tryz.underlying25 hj0 hz0 hz1 rfl .i64 .i64 m rfl rfl (by rw [hz2];omega) (by omega) ?_);have hrow:=hid (RowI.zero (f:=varL s.toList f tm) (show RowI _ _ _ m (fun _=>0) from World.rowIs_made (w.alloc (.cells #[.int .i64 n,.slice a m cap,.int .i64 tm,.int .i64 g3,tu] 135)) (.int .i64 0) m 3));have X0:=hid (show Ext w ((w.alloc (.cells #[.int .i64 n,.slice a m cap,.int .i64 tm,.int .i64 g3,tu] 135)).alloc (.cells (madeCells #[.int .i64 0] m) 3)) from X_)
 have c2:((w.alloc (.cells #[.int .i64 n,.slice a m cap,.int .i64 tm,.int .i64 g3,tu] 135)).alloc (.cells (madeCells #[.int .i64 0] m) 3)).cell? ⟨w.heap.size,2,none⟩=some (.int .i64 tm):=by simp [go_sem]
 have C2:=hid c2;clear hj0 hz0 hz1 hz2 c2;simp only [World.size_alloc] at hrow;generalize hB:w.heap.size+1=B at hrow
 have hB2:w.heap.size≤B:=by omega
 have hB3:w.heap.size≠B:=by omega
 go_wp2
 go_loopw [17] (fun i wr=>∃k:Nat,k≤m∧i = .int .i64 k∧Ext w wr∧RowI wr B 3 m (fillI (varL s.toList f tm) k)∧wr.cell? ⟨w.heap.size,2,none⟩=some (.int .i64 tm)) (fun i _=>m - (intOf i).toNat)
 case atStart=>exact ⟨0,by omega,rfl,X0.out,hrow.out,C2.out⟩
 case round=>
  clear X0 hrow C2;obtain ⟨k,hk,rfl,hx,hrow,q2⟩:=hrel;have Q2:=hid q2
  by_cases hlt:k<m
  ·obtain ⟨b,off,rfl,hb1,hb2,hc⟩:=HP.at hlt (by decide)
   have zs:=hx.size;have hlt2:=hrow.lt;have c0:=(hx.cells.1 b _ (by omega)).trans (hc 0 (by decide));have c1:=(hx.cells.1 b _ (by omega)).trans (hc 1 (by decide));have c2:=(hx.cells.1 b _ (by omega)).trans (hc 2 (by decide));have c3:=(hx.cells.1 b _ (by omega)).trans (hc 3 (by decide));have c4:=(hx.cells.1 b _ (by omega)).trans (hc 4 (by decide));simp only [Nat.add_zero] at c0
   have hbw:b<wr.heap.size:=by omega
   have hbB:w.heap.size<wr.heap.size:=by omega
   have r0:=hrow.cell hlt;have r1:=hrow.frozen k;have HX:=hid hx;have HR:=hid hrow;clear hc hx hrow;go_wp2
   all_goals
    go_roundw
    case rel=>
     refine ⟨k+1,by omega,by go_num,(Ext.setCell HX.out hB2 _).alloc _,RowI.alloc (RowI.step HR.out rfl ?_) _,?_⟩
     ·simp only [varL]
      simp [*]
     ·have:=Q2.out
      simp [go_sem,hB3,hbB,this]
    case measure=>simp [intOf];omega
  ·obtain rfl:k=m:=by omega
   have h9:∀i,i<k→I64 (varL s.toList f tm i):=fun i hi=>by
    unfold varL
    split
    ·exact HP.i64 (j:=0) hi (by decide)
    split
    ·exact HP.i64 (j:=1) hi (by decide)
    split
    ·exact HP.i64 (j:=2) hi (by decide)
    split
    ·exact HP.i64 (j:=3) hi (by decide)
    split
    ·exact HP.i64 (j:=4) hi (by decide)
    ·exact htm
   go_wp2;go_ret;exact ⟨_,rfl,hrow.full.ownInts hB2 (by unfold maxLen;omega) h9,hx⟩
theorem zip_goodE {m:Nat} {op:Int} {a b:List Int} (ha:a.length=m) (hb:b.length=m):good m (List.zipWith (arithI op) a b):=by
 refine ⟨by simp;omega,fun x hx=>?_⟩;obtain ⟨i,hi,rfl⟩:=List.getElem_of_mem hx;simp;exact satI_S9 _
theorem varL_S9E {f:Nat→Int} {tm:Int} {m q:Nat} (l:List UInt8) (hf:∀i,i<m*5→S9 (f i)) (ht:S9 tm) (hq:q<m):S9 (varL l f tm q):=by
 unfold varL
 split
 ·exact hf _ (by omega)
 split
 ·exact hf _ (by omega)
 split
 ·exact hf _ (by omega)
 split
 ·exact hf _ (by omega)
 split
 ·exact hf _ (by omega)
 ·exact ht
theorem call_goodE {n m:Nat} (hm:n*n=m) (t:Tex) (l:List UInt8) (S:List (List Int)):good m (callRow n m t l S):=by
 have hd:∀xs rows,good m (diffs xs n rows):=fun xs rows=>⟨by rw [diffs_length,hm],fun x hx=>by
  obtain ⟨i,hi,rfl⟩:=List.getElem_of_mem hx;rw [diffs_at]
  exact dVal_i64 _ _ _ _⟩
 unfold callRow
 split
 ·exact hd _ _
 split
 ·exact hd _ _
 ·refine ⟨by simp,fun x hx=>?_⟩
  obtain ⟨i,hi,rfl⟩:=List.mem_map.1 hx;exact satI_S9 _
theorem Grd.partsE {g:Grd} (h:g.okB=true):∃n:Nat,g.n=n∧n*n=g.m∧1≤n∧n≤8∧g.t.okB=true∧S9 g.tm∧∀i,i<g.m*5→S9 (g.f i):=by
 unfold Grd.okB at h;simp only [Bool.and_eq_true,decide_eq_true_eq,List.all_eq_true,List.mem_range] at h;obtain ⟨⟨⟨⟨h1,h2⟩,h3⟩,h4⟩,h5⟩:=h;have h1:=inB_iff.1 h1;have h3:=inB_iff.1 h3
 obtain ⟨n,hn⟩:∃n:Nat,g.n=n:=⟨g.n.toNat,by omega⟩
 rw [hn] at h1 h2
 have h6:((n*n:Nat):Int)=(g.m:Int):=by rw [h2];simp
 refine ⟨n,hn,by omega,by omega,by omega,h4,⟨by omega,by omega⟩,fun i hi=>?_⟩;have h7:=h5 (i / 5) (by omega);unfold ptB ptL at h7;simp only [List.all_cons,List.all_nil,Bool.and_true,Bool.and_eq_true] at h7;obtain ⟨a0,a1,a2,a3,a4⟩:=h7
 have hi5:i=i / 5*5+i % 5:=by omega
 have hlt:i % 5<5:=Nat.mod_lt _ (by decide)
 have key:inB (g.f i) (-1000000) 1000000=true:=by
  rcases (show i % 5=0∨i % 5=1∨i % 5=2∨i % 5=3∨i % 5=4 by omega) with e|e|e|e|e <;> rw [e] at hi5 <;> rw [hi5]
  ·exact a0
  ·exact a1
  ·exact a2
  ·exact a3
  ·exact a4
 have:=inB_iff.1 key;exact ⟨by omega,by omega⟩
def Prg.rootOf (p:Prg) (s:ByteArray):Nat:=match frst p.gs p.gs.length s.toList with|some i=>((p.gs[i]?).map fun a=>a.root.toNat).getD 0|none=>0
def evB (p:Prg) (n m:Nat) (f:Nat→Int) (tm:Int) (t:Tex) (rec:Nat→List Int) (x:Nd):List Int:=
 if x.op=1 then List.replicate m x.num else if x.op=2 then (if isVar x.name then (List.range m).map (varL x.name.toList f tm) else rec (p.rootOf x.name))
 else if x.op=8 then callRow n m t x.name.toList (x.args.map fun a=>rec a.toNat)
 else List.zipWith (arithI x.op) ((x.args.map fun a=>rec a.toNat).getD 0 []) ((x.args.map fun a=>rec a.toNat).getD (if x.op=3 then 0 else 1) [])
def evF (p:Prg) (n m:Nat) (f:Nat→Int) (tm:Int) (t:Tex):Nat→Nat→List Int
 | 0,_=>[]
 | F+1,j=>match p.ns[j]? with|some x=>evB p n m f tm t (evF p n m f tm t F) x|none=>[]
noncomputable def Prg.rank (p:Prg) (j:Nat):Nat:=p.own j*64+j
noncomputable def Prg.ev (p:Prg) (n m:Nat) (f:Nat→Int) (tm:Int) (t:Tex) (j:Nat):List Int:=evF p n m f tm t (p.rank j+1) j
structure Prg.K (p:Prg):Prop where
 v:p.V
 name:∀(k:Nat) (x:Nd),p.ns[k]?=some x→x.op=2→isVar x.name=false→∃i,frst p.gs p.gs.length x.name.toList=some i∧i<p.own k
 call:∀(k:Nat) (x:Nd),p.ns[k]?=some x→x.op=8→0≤arity x.name∧arity x.name=x.args.length
 one:∀(i j:Nat) (a b:Asg),p.gs[i]?=some a→p.gs[j]?=some b→a.name.toList=b.name.toList→i=j
 col:∃i,frst p.gs p.gs.length [99,111,108,111,114]=some i
theorem frst_of {gs:List Asg} {l:List UInt8} {t:Nat} (h:asgB gs t l=true):∃i,frst gs gs.length l=some i∧i<t:=by
 cases e:frst gs gs.length l with
 | none=>rw [frst_no e] at h;cases h
 | some i=>rw [frst_lt e,decide_eq_true_eq] at h;exact ⟨i,rfl,h⟩
theorem Prg.chkB_K {p:Prg} (h:p.chkB=true):p.K:=by
 unfold Prg.chkB at h;simp only [Bool.and_eq_true] at h;obtain ⟨⟨⟨⟨h1,h2⟩,h3⟩,h4⟩,h5⟩:=h;rw [List.all_eq_true] at h2 h3 h4;have hv:=Prg.okB_V h1
 have hone:∀(i j:Nat) (a b:Asg),i<j→p.gs[i]?=some a→p.gs[j]?=some b→a.name.toList=b.name.toList→False:=by
  intro i j a b hij ha hb he;have:=h4 j (List.mem_range.2 (List.getElem?_eq_some_iff.1 hb).1);rw [Prg.asB_at hb,Bool.and_eq_true] at this;have h6:=this.2;rw [asgB_iff.2 ⟨i,a,hij,ha,he⟩] at h6;cases h6
 refine ⟨hv,fun k x hx h2' hvar=>?_,fun k x hx h8=>?_,fun i j a b ha hb he=>?_,?_⟩
 ·have:=h2 k (List.mem_range.2 (List.getElem?_eq_some_iff.1 hx).1)
  rw [Prg.nameB_at hx,if_pos h2',hvar,Bool.false_or] at this;exact frst_of this
 ·have e1:=h2 k (List.mem_range.2 (List.getElem?_eq_some_iff.1 hx).1)
  rw [Prg.nameB_at hx,if_neg (by omega),if_pos h8,decide_eq_true_eq] at e1;have e2:=h3 k (List.mem_range.2 (List.getElem?_eq_some_iff.1 hx).1);rw [Prg.arB_at hx,if_pos h8,decide_eq_true_eq] at e2;exact ⟨e1,e2⟩
 ·rcases Nat.lt_trichotomy i j with hij|hij|hij
  ·exact (hone i j a b hij ha hb he).elim
  ·exact hij
  ·exact (hone j i b a hij hb ha he.symm).elim
 ·obtain ⟨i,hi,_⟩:=frst_of h5
  exact ⟨i,hi⟩
theorem Prg.K.root {p:Prg} (h:p.K) {s:ByteArray} {i:Nat} (hf:frst p.gs p.gs.length s.toList=some i):∃(s':ByteArray),p.gs[i]?=some ⟨s',(p.rootOf s:Nat)⟩∧s'.toList=s.toList∧p.own (p.rootOf s)=i∧p.rootOf s<p.ns.length:=by
 obtain ⟨h1,⟨a,h2,h3⟩,_⟩:=frst_some hf;have hr:=(h.v.ag i a h2).2
 have e:p.rootOf s=a.root.toNat:=by unfold Prg.rootOf;rw [hf];simp [h2]
 have e2:a=⟨a.name,(p.rootOf s:Nat)⟩:=by cases a;simp only [Asg.mk.injEq,true_and] at *;omega
 have h4:p.gs[i]?=some ⟨a.name,(p.rootOf s:Nat)⟩:=by rw [h2];exact congrArg some e2
 have ho:=h.v.own_eq (Own.root h4);exact ⟨a.name,h4,h3,ho,by omega⟩
theorem Prg.K.rank_arg {p:Prg} (h:p.K) {j:Nat} {x:Nd} (hx:p.ns[j]?=some x) {a:Int} (ha:a∈x.args):p.rank a.toNat<p.rank j∧a.toNat<p.ns.length∧p.own a.toNat=p.own j:=by
 have h1:=(h.v.nd j x hx).2 a ha;have h2:=(List.getElem?_eq_some_iff.1 hx).1;have h3:=(h.v.own_is h2).down hx (j:=a.toNat) (by rw [Int.toNat_of_nonneg h1.1];exact ha);have h4:=h.v.own_eq h3;unfold Prg.rank;rw [h4];omega
theorem Prg.K.rank_name {p:Prg} (h:p.K) {j:Nat} {x:Nd} (hx:p.ns[j]?=some x) (h2:x.op=2) (hv:isVar x.name=false):p.rank (p.rootOf x.name)<p.rank j:=by
 obtain ⟨i,hi,hij⟩:=h.name j x hx h2 hv;obtain ⟨s',_,_,h3,h4⟩:=h.root hi;have:=h.v.len;unfold Prg.rank;rw [h3];omega
theorem evB_congr {p:Prg} {n m:Nat} {f:Nat→Int} {tm:Int} {t:Tex} {rec rec':Nat→List Int} {x:Nd} (h1:∀a∈x.args,rec a.toNat=rec' a.toNat) (h2:x.op=2→isVar x.name=false→rec (p.rootOf x.name)=rec' (p.rootOf x.name)) :
  evB p n m f tm t rec x=evB p n m f tm t rec' x:=by
 have e:(x.args.map fun a=>rec a.toNat)=x.args.map fun a=>rec' a.toNat:=List.map_congr_left h1;unfold evB;rw [e]
 by_cases o2:x.op=2
 ·cases hv:isVar x.name
  ·rw [h2 o2 hv]
  ·rfl
 ·simp only [if_neg o2]
theorem evF_eq {p:Prg} (h:p.K) {n m:Nat} {f:Nat→Int} {tm:Int} {t:Tex}:∀(F F' j:Nat),p.rank j<F→p.rank j<F'→evF p n m f tm t F j=evF p n m f tm t F' j:=by
 intro F
 induction F with
 | zero=>intro F' j hj;omega
 | succ F ih=>
  intro F' j hj hj'
  obtain ⟨G,rfl⟩:∃G,F'=G+1:=⟨F' - 1,by omega⟩
  unfold evF
  cases hx:p.ns[j]? with
  | none=>rfl
  | some x=>
   refine evB_congr (fun a ha=>?_) (fun o2 hv=>?_)
   ·have:=(h.rank_arg hx ha).1
    exact ih G _ (by omega) (by omega)
   ·have:=h.rank_name hx o2 hv
    exact ih G _ (by omega) (by omega)
theorem Prg.K.ev_step {p:Prg} (h:p.K) {n m:Nat} {f:Nat→Int} {tm:Int} {t:Tex} {j:Nat} {x:Nd} (hx:p.ns[j]?=some x):p.ev n m f tm t j=evB p n m f tm t (p.ev n m f tm t) x:=by
 have e:p.ev n m f tm t j=evB p n m f tm t (evF p n m f tm t (p.rank j)) x:=by
  unfold Prg.ev evF;rw [hx]
 rw [e];refine evB_congr (fun a ha=>?_) (fun o2 hv=>?_)
 ·exact evF_eq h _ _ _ (h.rank_arg hx ha).1 (by omega)
 ·exact evF_eq h _ _ _ (h.rank_name hx o2 hv) (by omega)
theorem getD_map {α : Type} (L:List α) (g : α→List Int) {i:Nat} (hi:i<L.length):(L.map g).getD i []=g L[i]:=by
 rw [List.getD_eq_getElem?_getD,List.getElem?_map,List.getElem?_eq_getElem hi]
 rfl
theorem nodeF_op {x:Nd} (h:nodeF x=true):(x.op=1∧inB x.num 0 2559999=true∧x.args.length=0)∨(x.op=2∧x.args.length=0)∨(x.op=3∧x.args.length=1)∨(4≤x.op∧x.op≤7∧x.args.length=2)∨(x.op=8∧x.args.length≤3):=by
 unfold nodeF at h;simp only [Bool.and_eq_true] at h;obtain ⟨⟨_,h2⟩,h3⟩:=h;unfold lenB at h3
 split at h3
 ·rename_i hc
  have h3:x.args.length=0:=by simpa using h3
  rcases hc with hc|hc
  ·rw [if_pos hc] at h2;exact .inl ⟨hc,h2,h3⟩
  ·exact .inr (.inl ⟨hc,h3⟩)
 split at h3
 ·rename_i hc
  exact .inr (.inr (.inl ⟨hc,by simp at h3;omega⟩))
 split at h3
 ·rename_i hc
  exact .inr (.inr (.inr (.inl ⟨hc.1,hc.2,by simp at h3;omega⟩)))
 split at h3
 ·rename_i hc
  exact .inr (.inr (.inr (.inr ⟨hc,by simp at h3;omega⟩)))
 ·cases h3
theorem Prg.K.ev_good {p:Prg} (h:p.K) {n m:Nat} {f:Nat→Int} {tm:Int} {t:Tex} (hm:n*n=m) (hf:∀i,i<m*5→S9 (f i)) (ht:S9 tm):∀(F j:Nat),p.rank j<F→j<p.ns.length→good m (p.ev n m f tm t j):=by
 intro F
 induction F with
 | zero=>intro j hj;omega
 | succ F ih=>
  intro j hj hjl
  have hx:p.ns[j]?=some p.ns[j]:=by simp [hjl]
  obtain ⟨x,hxe⟩:∃x,p.ns[j]=x:=⟨_,rfl⟩
  rw [hxe] at hx;rw [h.ev_step hx]
  have hA:∀a∈x.args,good m (p.ev n m f tm t a.toNat):=fun a ha=>by
   have:=h.rank_arg hx ha;exact ih _ (by omega) this.2.1
  unfold evB
  rcases nodeF_op (h.v.nd j x hx).1 with ⟨o,h2,h3⟩|⟨o,h3⟩|⟨o,h3⟩|⟨o,o',h3⟩|⟨o,h3⟩
  ·rw [if_pos o]
   have:=inB_iff.1 h2;exact ⟨by simp,fun y hy=>by rw [(List.mem_replicate.1 hy).2];exact ⟨by omega,by omega⟩⟩
  ·rw [if_neg (by omega),if_pos o]
   cases hv:isVar x.name
   ·obtain ⟨i,hi,_⟩:=h.name j x hx o hv
    obtain ⟨s',_,_,h4,h5⟩:=h.root hi;have:=h.rank_name hx o hv;exact ih _ (by omega) h5
   ·refine ⟨by simp,fun y hy=>?_⟩
    obtain ⟨q,hq,rfl⟩:=List.mem_map.1 hy;exact varL_S9E _ hf ht (List.mem_range.1 hq)
  ·rw [if_neg (by omega),if_neg (by omega),if_neg (by omega),if_pos o,getD_map _ _ (by omega)]
   exact zip_goodE (hA _ (List.getElem_mem _)).1 (hA _ (List.getElem_mem _)).1
  ·rw [if_neg (by omega),if_neg (by omega),if_neg (by omega),if_neg (by omega),getD_map _ _ (by omega),getD_map _ _ (by omega)]
   exact zip_goodE (hA _ (List.getElem_mem _)).1 (hA _ (List.getElem_mem _)).1
  ·rw [if_neg (by omega),if_neg (by omega),if_pos o]
   exact call_goodE hm t _ _
noncomputable def Prg.at (p:Prg) (n m:Nat) (f:Nat→Int) (tm:Int) (t:Tex) (j q:Nat):Int:=(p.ev n m f tm t j).getD q 0
def KeepI (w w':World):Prop:=∀(b:Nat) (cur:Array Value) (fr:Nat×Nat),w.heap[b]?=some (.cells cur 3 fr)→w'.heap[b]?=some (.cells cur 3 fr)
theorem KeepI.refl (w:World):KeepI w w:=fun _ _ _ h=>h
theorem KeepI.trans {w w1 w2:World} (h:KeepI w w1) (k:KeepI w1 w2):KeepI w w2:=fun b c f e=>k b c f (h b c f e)
theorem Ext.keepI {w w':World} (h:Ext w w'):KeepI w w':=fun b c f e=>(h.block (Array.getElem?_eq_some_iff.1 e).1).trans e
theorem KeepI.grown {w w':World} {row:Option Nat} (h:w.grownBy w' row) (hr:∀(k:Nat) (cur:Array Value) (fr:Nat×Nat),row=some k→w.heap[k]?≠some (.cells cur 3 fr)):KeepI w w':=fun b c f e=>
 (h.block b (Array.getElem?_eq_some_iff.1 e).1 (fun e'=>hr b c f e'.symm e)).trans e
theorem KeepI.setCell {w:World} {p:Addr} (u:Value) (h:∀(cur:Array Value) (fr:Nat×Nat),w.heap[p.block]?≠some (.cells cur 3 fr)):KeepI w (w.setCell p u):=fun b c f e=>by
 have hne:b≠p.block:=fun e'=>h c f (e'▸e);rw [Below.heap_setCell w p u b hne];exact e
theorem OwnInts.keepI {lo:Nat} {w w':World} {v:Value} {xs:List Int} (h:OwnInts lo w v xs) (k:KeepI w w'):OwnInts lo w' v xs:=by
 obtain ⟨⟨h1,h2⟩,h3⟩:=h;refine ⟨⟨h1,?_⟩,h3⟩
 rcases h2 with hn|⟨g,cap,cur,hv,hb,hg,r⟩
 ·exact .inl hn
 ·exact .inr ⟨g,cap,cur,hv,hb,k _ _ _ hg,r⟩
structure Rws (lo:Nat) (w:World) (vs:List Value) (S:List (List Int)):Prop where
 len:vs.length=S.length
 own:∀(i:Nat) (v:Value) (xs:List Int),vs[i]?=some v→S[i]?=some xs→OwnInts lo w v xs
theorem Rws.keepI {lo:Nat} {w w':World} {vs:List Value} {S:List (List Int)} (h:Rws lo w vs S) (k:KeepI w w'):Rws lo w' vs S:=⟨h.len,fun i v xs h1 h2=>(h.own i v xs h1 h2).keepI k⟩
theorem Rws.nil (lo:Nat) (w:World):Rws lo w [] []:=⟨rfl,fun i v xs h=>by simp at h⟩
theorem Rws.snoc {lo:Nat} {w:World} {vs:List Value} {S:List (List Int)} (h:Rws lo w vs S) {v:Value} {xs:List Int} (hv:OwnInts lo w v xs):Rws lo w (vs++[v]) (S++[xs]):=by
 have hl:=h.len;refine ⟨by simp [hl],fun i u ys h1 h2=>?_⟩
 by_cases hi:i<vs.length
 ·rw [List.getElem?_append_left hi] at h1
  rw [List.getElem?_append_left (by omega)] at h2;exact h.own i u ys h1 h2
 ·rw [List.getElem?_append_right (by omega)] at h1
  rw [List.getElem?_append_right (by omega)] at h2
  have hi0:i - vs.length=0:=by
   have:=(List.getElem?_eq_some_iff.1 h1).1;simp at this;omega
  rw [hi0] at h1;rw [show i - S.length=0 by omega] at h2;simp at h1 h2;subst h1 h2;exact hv
theorem Rws.take {lo:Nat} {w:World} {vs:List Value} {S:List (List Int)} (h:Rws lo w vs S) (k:Nat):Rws lo w (vs.take k) (S.take k):=by
 refine ⟨by simp [h.len],fun i u ys h1 h2=>?_⟩;rw [List.getElem?_take] at h1 h2
 split at h1
 ·rename_i hk
  rw [if_pos hk] at h2;exact h.own i u ys h1 h2
 ·cases h1
theorem Rws.drop {lo:Nat} {w:World} {vs:List Value} {S:List (List Int)} (h:Rws lo w vs S) (k:Nat):Rws lo w (vs.drop k) (S.drop k):=by
 refine ⟨by simp [h.len],fun i u ys h1 h2=>?_⟩;rw [List.getElem?_drop] at h1 h2;exact h.own _ u ys h1 h2
theorem Rws.set {lo:Nat} {w:World} {vs:List Value} {S:List (List Int)} (h:Rws lo w vs S) (k:Nat) {v:Value} {xs:List Int} (hv:OwnInts lo w v xs):Rws lo w (vs.set k v) (S.set k xs):=by
 refine ⟨by simp [h.len],fun i u ys h1 h2=>?_⟩;rw [List.getElem?_set] at h1 h2
 split at h1
 ·rename_i hk
  rw [if_pos hk] at h2
  split at h1
  ·split at h2
   ·injection h1 with h1
    injection h2 with h2;subst h1 h2;exact hv
   ·cases h2
  ·cases h1
 ·rename_i hk
  rw [if_neg hk] at h2;exact h.own i u ys h1 h2
def Apt (vs:List Value):Prop:=vs.Pairwise fun u v=>∀k,u.ownBlock=some k→v.ownBlock≠some k
def Lone (r:Value) (vs:List Value):Prop:=∀u∈vs,∀k,u.ownBlock=some k→r.ownBlock≠some k
theorem Lone.of {lo M:Nat} {w:World} {vs:List Value} {S:List (List Int)} {r:Value} (h:Rws lo w vs S) (hM:w.heap.size≤M) (hr:∀k,r.ownBlock=some k→M≤k):Lone r vs:=by
 intro u hu k hk e;obtain ⟨i,hi,rfl⟩:=List.getElem_of_mem hu;have hl:=h.len;have:=((h.own i vs[i] (S[i]'(by omega)) (by simp [hi]) (by simp [show i<S.length by omega])).lt k hk).2;have:=hr k e;omega
theorem Apt.insert {vs us:List Value} {r:Value} (h:Apt (vs++us)) (hr:Lone r (vs++us)):Apt ((vs++[r])++us):=by
 unfold Apt at *;simp only [List.pairwise_append,List.mem_append,List.mem_singleton,List.pairwise_singleton,true_and] at h ⊢;obtain ⟨h1,h2,h3⟩:=h;refine ⟨⟨h1,?_⟩,h2,?_⟩
 ·rintro a ha b rfl k hk
  exact hr a (List.mem_append_left _ ha) k hk
 ·rintro a (ha|rfl) b hb k hk
  ·exact h3 a ha b hb k hk
  ·intro e
   exact hr b (List.mem_append_right _ hb) k e hk
theorem Apt.sub {vs us vs' us':List Value} (h:Apt (vs++us)) (h1:List.Sublist vs' vs) (h2:List.Sublist us' us):Apt (vs'++us'):=List.Pairwise.sublist (h1.append h2) h
theorem Apt.store {vs us:List Value} {r:Value} (h:Apt ((vs++[r])++us)) (k:Nat):Apt (vs++us.set k r):=by
 unfold Apt at *;simp only [List.pairwise_append,List.mem_append,List.mem_singleton,List.pairwise_singleton,true_and] at h ⊢;obtain ⟨⟨h1,h4⟩,h2,h3⟩:=h
 have key:∀(us:List Value) (k:Nat),us.Pairwise (fun u v=>∀k,u.ownBlock=some k→v.ownBlock≠some k)→(∀b∈us,∀k,r.ownBlock=some k→b.ownBlock≠some k)→(us.set k r).Pairwise (fun u v=>∀k,u.ownBlock=some k→v.ownBlock≠some k):=by
  intro us
  induction us with
  | nil=>intro k _ _;simp
  | cons x xs ih=>
   intro k hp hr;rw [List.pairwise_cons] at hp
   cases k with
   | zero=>
    rw [List.set_cons_zero,List.pairwise_cons];exact ⟨fun b hb=>hr b (List.mem_cons_of_mem _ hb),hp.2⟩
   | succ k=>
    rw [List.set_cons_succ,List.pairwise_cons];refine ⟨fun b hb j hj e=>?_,ih k hp.2 fun b hb=>hr b (List.mem_cons_of_mem _ hb)⟩
    rcases List.mem_or_eq_of_mem_set hb with hb|rfl
    ·exact hp.1 b hb j hj e
    ·exact hr x List.mem_cons_self j e hj
 refine ⟨h1,key us k h2 fun b hb j hj=>h3 r (.inr rfl) b hb j hj,?_⟩;intro a ha b hb j hj e
 rcases List.mem_or_eq_of_mem_set hb with hb|rfl
 ·exact h3 a (.inl ha) b hb j hj e
 ·exact h4 a ha b rfl j hj e
theorem info_ints:(Tryz.prog.info? 25).map (fun i=>(i.zero,i.size,i.bytes))=some (some (.slice none 0 0),1,24):=by kernel_rfl
theorem ownsRow.form {w:World} {lo:Nat} {e:TypeId} {size n:Nat} {v:Value} {xs:List Value} (h:w.ownsRow lo e size v n xs):∃a cap,v = .slice a n cap:=by
 rcases h.2 with ⟨rfl,h4⟩|⟨g,cap,cur,rfl,hb,hg,hc,hm,hs,ht⟩
 ·exact ⟨none,0,by rw [h4]⟩
 ·exact ⟨some ⟨g,0,none⟩,cap,rfl⟩
theorem wpList_append_row (w:World) {ops:Array Oper} {rest:List Oper} {o:Oper} {a:Act} {Q:Exit→Act→World→Prop} (hg:o.guard=none) (s x:Operand)
  (hop:o.op=Op.call { callee:=Callee.builtin Builtin.append,args:=#[s,x],argTypes:=#[201,201] }) (lo:Nat) (v:Value) (n:Nat) (vs:List Value) (hs:a.eval s=v) (hown:w.ownsRow lo 25 1 v n vs)
  (y:Value) (hy:y.oneCell'=true) (b:Nat) (hx:a.eval x = .slice (some ⟨b,0,none⟩) 1 1) (hcell:w.cell? ⟨b,0,none⟩=some y) (hlen:n<1000000) (hlo:lo≤w.heap.size)
  (hK:∀v' w',w'.ownsRow lo 25 1 v' (n+1) (vs++[y])→w.grownBy w' v.ownBlock→wpList Tryz.prog ops Q rest (a.put o.dst v') w'):wpList Tryz.prog ops Q (o::rest) a w:=by
 obtain ⟨i0,hi0,hz0,hz1,hz2⟩:=info_parts info_ints;refine wpList_append_own w hg s x 201 hop lo 25 i0 (.slice none 0 0) 1 24 Tryz.underlying201 hi0 hz0 hz1 hz2 rfl (by decide) v n _ hs hown ⟨b,0,none⟩ 1 1 [y] hx rfl ?_ ?_ ?_ ?_ hlo ?_
 ·intro j u hj
  match j,hj with
  | 0,hj=>simp at hj;subst hj;exact hcell
 ·intro u hu;simp at hu;subst hu;exact hy
 ·unfold maxLen;omega
 ·omega
 ·intro v' w1 hown' hgrow _
  exact hK v' w1 hown' hgrow
theorem wpList_append_rows (w:World) {ops:Array Oper} {rest:List Oper} {o:Oper} {a:Act} {Q:Exit→Act→World→Prop} (hg:o.guard=none) (s x:Operand)
  (hop:o.op=Op.call { callee:=Callee.builtin Builtin.append,args:=#[s,x],argTypes:=#[201,201] }) (lo:Nat) (v:Value) (n:Nat) (vs:List Value) (hs:a.eval s=v) (hown:w.ownsRow lo 25 1 v n vs)
  (ys:List Value) (hy:∀y∈ys,y.oneCell'=true) (b off cap:Nat) (hx:a.eval x = .slice (some ⟨b,off,none⟩) ys.length cap) (hcell:∀i y,ys[i]?=some y→w.cell? ⟨b,off+i,none⟩=some y) (hlen:n+ys.length<1000000) (hlo:lo≤w.heap.size)
  (hK:∀v' w',w'.ownsRow lo 25 1 v' (n+ys.length) (vs++ys)→w.grownBy w' v.ownBlock→wpList Tryz.prog ops Q rest (a.put o.dst v') w'):wpList Tryz.prog ops Q (o::rest) a w:=by
 obtain ⟨i0,hi0,hz0,hz1,hz2⟩:=info_parts info_ints;refine wpList_append_own w hg s x 201 hop lo 25 i0 (.slice none 0 0) 1 24 Tryz.underlying201 hi0 hz0 hz1 hz2 rfl (by decide) v n _ hs hown ⟨b,off,none⟩ ys.length cap ys hx (by simp) ?_ hy ?_ ?_ hlo ?_
 ·intro j u hj
  have:=hcell j u hj
  rwa [Addr.add_lit]
 ·unfold maxLen;omega
 ·omega
 ·intro v' w1 hown' hgrow _
  exact hK v' w1 hown' hgrow
theorem sliceNil1 (b off n cap:Nat) (w:World):(binOp .eql 25 (.slice (some ⟨b,off,none⟩) n cap) (.slice none 0 0)).run Tryz.prog w = .ok (.bool false) w:=by
 simp only [binOp];simp [Op.equal,Op.maxDepth,Lib.run_equalIn_slice_nil w 9999 25 3 (some ⟨b,off,none⟩) n cap 0 0 Tryz.underlying25]
theorem sliceNil2 (b off n cap:Nat) (w:World):(binOp .eql 201 (.slice (some ⟨b,off,none⟩) n cap) (.slice none 0 0)).run Tryz.prog w = .ok (.bool false) w:=by
 simp only [binOp];simp [Op.equal,Op.maxDepth,Lib.run_equalIn_slice_nil w 9999 201 25 (some ⟨b,off,none⟩) n cap 0 0 Tryz.underlying201]
theorem cloneInts2_any (lo hi:Nat) (u:Value) (xs:List Int) (w:World) (hu:Ints lo hi w u xs) (hh:hi≤w.heap.size) (h1:1≤xs.length) (h2:xs.length≤144) :
  Calls Tryz.prog 61 #[u] w fun e w'=>∃v',e = .returned v'∧OwnInts w.heap.size w' v' xs∧Ext w w':=by
 obtain ⟨a,cap,rfl,HU⟩:=hu.open;obtain ⟨b,off,rfl,hb1,hb2,_⟩:=HU.at (k:=0) (by omega);have l1:=HU.le;have l2:=HU.cap;clear hu;go_enter Tryz.func61,Tryz.ntmps61
 have HC:∀i y,xs[i]?=some y→I64 y∧(w.alloc (.cells #[] 3)).cell? ⟨b,off+i,none⟩=some (.int .i64 y):=by
  intro i y hy;obtain ⟨h3,b',off',e,h4,h5,h6⟩:=HU.cell i y hy;simp only [Option.some.injEq,Addr.mk.injEq,and_true] at e;obtain ⟨rfl,rfl⟩:=e;exact ⟨h3,(((Ext.refl w).alloc _).cells.1 b _ (by omega)).trans h6⟩
 have HC:=hid HC;have hnil:=fun w=>sliceNil1 b off xs.length cap w;go_wp2_with (at_builtin;refine wpList_append_ints _ rfl _ _ rfl w.heap.size (.slice (some ⟨w.heap.size,0,none⟩) 0 0) [] xs rfl (OwnInts.empty (Nat.le_refl _) (heap_alloc_new w _)) b off cap rfl HC.out (by simp;omega) (by simp) ?_;intro v' w1 hown hg;obtain ⟨a',c',rfl,_⟩:=hown.form);go_ret;exact ⟨_,rfl,by simpa using hown,((Ext.refl w).alloc _).grown hg (fun k e=>by simp [Value.ownBlock] at e;omega)⟩
theorem ownsRow.empty {lo:Nat} {w:World} {e:TypeId} {g:Nat} (hl:lo≤g) (hg:w.heap[g]?=some (.cells #[] e)):w.ownsRow lo e 1 (.slice (some ⟨g,0,none⟩) 0 0) 0 []:=
 ⟨rfl,.inr ⟨g,0,#[],rfl,hl,hg,Nat.le_refl _,Nat.zero_le _,rfl,rfl⟩⟩
theorem cloneRows_any (b off cap:Nat) (ys:List Value) (w:World) (hb:b<w.heap.size) (hc:ys.length≤cap) (hc2:cap≤9223372036854775807) (hcell:∀i y,ys[i]?=some y→w.cell? ⟨b,off+i,none⟩=some y) (hy:∀y∈ys,y.oneCell'=true) (h2:ys.length≤1000) :
  Calls Tryz.prog 300 #[.slice (some ⟨b,off,none⟩) ys.length cap] w fun e w'=>∃v',e = .returned v'∧w'.ownsRow w.heap.size 25 1 v' ys.length ys∧Ext w w':=by
 go_enter Tryz.func300,Tryz.ntmps300;have HC:∀i y,ys[i]?=some y→(w.alloc (.cells #[] 25)).cell? ⟨b,off+i,none⟩=some y:=fun i y h=>(((Ext.refl w).alloc _).cells.1 b _ hb).trans (hcell i y h);have HC:=hid HC;have HY:=hid hy;have hnil:=fun w=>sliceNil2 b off ys.length cap w;clear hcell hy;go_wp2_with (at_builtin;refine wpList_append_rows _ rfl _ _ rfl w.heap.size (.slice (some ⟨w.heap.size,0,none⟩) 0 0) 0 [] rfl (ownsRow.empty (Nat.le_refl _) (heap_alloc_new w _)) ys HY.out b off cap rfl HC.out (by omega) (by simp) ?_;intro v' w1 hown hg;obtain ⟨a',c',rfl⟩:=ownsRow.form hown);go_ret;exact ⟨_,rfl,by simpa using hown,((Ext.refl w).alloc _).grown hg (fun k e=>by simp [Value.ownBlock] at e;omega)⟩
def Nls (us:List Value) (L:List (List Int)):Prop:=∀(j:Nat) (u:Value),us[j]?=some u→L[j]?=some []→u = .slice none 0 0
theorem Nls.set {us:List Value} {L:List (List Int)} (h:Nls us L) (j:Nat) {v:Value} {xs:List Int} (hx:xs≠[]):Nls (us.set j v) (L.set j xs):=by
 intro i u h1 h2;rw [List.getElem?_set] at h1 h2
 by_cases e:j=i
 ·rw [if_pos e] at h2
  split at h2
  ·injection h2 with h2;exact absurd h2 hx
  ·cases h2
 ·rw [if_neg e] at h1 h2
  exact h i u h1 h2
theorem Nls.nils (k:Nat):Nls (List.replicate k (.slice none 0 0)) (List.replicate k []):=by
 intro j u h1 _;rw [List.getElem?_replicate] at h1
 split at h1
 ·injection h1 with h1;exact h1.symm
 ·cases h1
structure Mach (lo lo2:Nat) (w:World) (mb n:Nat) (pu tu:Value) (tm lg:Int) (sv lv:Value) (vs us:List Value) (S L:List (List Int)):Prop where
 box:w.heap[mb]?=some (.cells #[.int .i64 n,pu,.int .i64 tm,.int .i64 lg,tu,sv,lv] 304)
 low:lo≤mb
 so:w.ownsRow lo2 25 1 sv vs.length vs
 lo':w.ownsRow lo 25 1 lv us.length us
 sep:∀k,lv.ownBlock=some k→k<lo2
 hl:lo≤lo2
 hl2:lo2≤w.heap.size
 sl:vs.length=S.length
 rows:Rws lo w (vs++us) (S++L)
 apt:Apt (vs++us)
 nls:Nls us L
theorem cell_of_cells {w:World} {b:Nat} {cs:Array Value} {t:TypeId} (h:w.heap[b]?=some (.cells cs t)) (i:Nat):w.cell? ⟨b,i,none⟩=cs[i]?:=by simp [World.cell?,h]
theorem frozen_of_cells {w:World} {b:Nat} {cs:Array Value} {t:TypeId} (h:w.heap[b]?=some (.cells cs t)) (i:Nat):w.frozen? ⟨b,i,none⟩=false:=by simp [World.frozen?,h]
theorem Mach.lt {lo lo2:Nat} {w:World} {mb n:Nat} {pu tu:Value} {tm lg:Int} {sv lv:Value} {vs us:List Value} {S L:List (List Int)} (M:Mach lo lo2 w mb n pu tu tm lg sv lv vs us S L):mb<w.heap.size:=(Array.getElem?_eq_some_iff.1 M.box).1
theorem ownsRow.not {w:World} {lo:Nat} {e:TypeId} {size n:Nat} {v:Value} {xs:List Value} (h:w.ownsRow lo e size v n xs) {A:Nat} {cs:Array Value} {T:TypeId} (hA:w.heap[A]?=some (.cells cs T)) (hT:T≠e):v.ownBlock≠some A:=by
 intro k
 rcases h.2 with ⟨rfl,_⟩|⟨g,cap,cur,rfl,_,hg,_⟩
 ·cases k
 ·simp only [Value.ownBlock,Option.some.injEq] at k
  subst k;rw [hg] at hA;simp only [Option.some.injEq,Obj.cells.injEq] at hA;exact hT hA.2.1.symm
theorem ownsRow.int {w:World} {lo:Nat} {e:TypeId} {size n:Nat} {v:Value} {xs:List Value} (h:w.ownsRow lo e size v n xs) (hT:e≠3):∀(k:Nat) (cur:Array Value) (fr:Nat×Nat),v.ownBlock=some k→w.heap[k]?≠some (.cells cur 3 fr):=by
 intro k cur fr hk e'
 rcases h.2 with ⟨rfl,_⟩|⟨g,cap,cur',rfl,_,hg,_⟩
 ·cases hk
 ·simp only [Value.ownBlock,Option.some.injEq] at hk
  subst hk;rw [hg] at e';simp only [Option.some.injEq,Obj.cells.injEq] at e';exact hT e'.2.1
structure Step (lo:Nat) (w w':World):Prop where
 below:Below lo w w'
 keep:KeepI w w'
theorem Step.refl (lo:Nat) (w:World):Step lo w w:=⟨Below.refl _ _,KeepI.refl _⟩
theorem Step.trans {lo:Nat} {w w1 w2:World} (h:Step lo w w1) (k:Step lo w1 w2):Step lo w w2:=⟨h.below.trans k.below,h.keep.trans k.keep⟩
theorem Ext.step {lo:Nat} {w w':World} (h:Ext w w') (hl:lo≤w.heap.size):Step lo w w':=⟨Below.mono h hl,h.keepI⟩
theorem Step.size {lo:Nat} {w w':World} (h:Step lo w w'):w.heap.size≤w'.heap.size:=Below.size h.below
theorem Mach.ext {lo lo2:Nat} {w w':World} {mb n:Nat} {pu tu:Value} {tm lg:Int} {sv lv:Value} {vs us:List Value} {S L:List (List Int)} (M:Mach lo lo2 w mb n pu tu tm lg sv lv vs us S L) (e:Ext w w'):Mach lo lo2 w' mb n pu tu tm lg sv lv vs us S L:=by
 have hg:w.grownBy w' none:=⟨Below.os e,Below.tape e,Below.output e,e.size,fun k hk _=>e.block hk⟩
 exact ⟨(e.block M.lt).trans M.box,M.low,M.so.kept hg (by cases sv.ownBlock <;> simp),M.lo'.kept hg (by cases lv.ownBlock <;> simp),M.sep,M.hl,Nat.le_trans M.hl2 e.size,M.sl,M.rows.keepI e.keepI,M.apt,M.nls⟩
theorem heap_set5 {w:World} {b:Nat} {x0 x1 x2 x3 x4 x5 x6:Value} {t:TypeId} (h:w.heap[b]?=some (.cells #[x0,x1,x2,x3,x4,x5,x6] t)) (v:Value):(w.setCell ⟨b,5,none⟩ v).heap[b]?=some (.cells #[x0,x1,x2,x3,x4,v,x6] t):=by
 simp [World.setCell,Array.getElem?_modify,h]
theorem Rws.insert {lo:Nat} {w:World} {vs us:List Value} {S L:List (List Int)} (hl:vs.length=S.length) (h:Rws lo w (vs++us) (S++L)) {v:Value} {xs:List Int} (hv:OwnInts lo w v xs):Rws lo w ((vs++[v])++us) ((S++[xs])++L):=by
 have hl2:=h.len;simp only [List.length_append] at hl2;refine ⟨by simp;omega,fun i u ys h1 h2=>?_⟩
 by_cases h3:i<vs.length
 ·rw [List.append_assoc,List.getElem?_append_left h3] at h1
  rw [List.append_assoc,List.getElem?_append_left (by omega)] at h2;exact h.own i u ys (by rw [List.getElem?_append_left h3];exact h1) (by rw [List.getElem?_append_left (by omega)];exact h2)
 ·by_cases h4:i=vs.length
  ·subst h4
   rw [List.append_assoc,List.getElem?_append_right (Nat.le_refl _)] at h1;rw [List.append_assoc,hl,List.getElem?_append_right (Nat.le_refl _)] at h2;simp at h1 h2;subst h1 h2;exact hv
  ·rw [List.getElem?_append_right (by simp;omega)] at h1
   rw [List.getElem?_append_right (by simp;omega)] at h2;refine h.own (i - 1) u ys ?_ ?_
   ·rw [List.getElem?_append_right (by omega),show i - 1 - vs.length=i - (vs++[v]).length by simp;omega]
    exact h1
   ·rw [List.getElem?_append_right (by omega),show i - 1 - S.length=i - (S++[xs]).length by simp;omega]
    exact h2
theorem push_any {lo lo2:Nat} {w:World} {mb n:Nat} {pu tu:Value} {tm lg:Int} {sv lv:Value} {vs us:List Value} {S L:List (List Int)} (M:Mach lo lo2 w mb n pu tu tm lg sv lv vs us S L) {r:Value} {xs:List Int} (hr:OwnInts lo w r xs) (hlone:Lone r (vs++us)) (hS:vs.length≤1000) :
  Calls Tryz.prog 270 #[.pointer (some ⟨mb,0,none⟩),r] w fun e w'=>e = .returned (.tuple #[])∧(∃sv',Mach lo lo2 w' mb n pu tu tm lg sv' lv (vs++[r]) us (S++[xs]) L)∧Step lo w w'∧∀b,b<w.heap.size→b≠mb→sv.ownBlock≠some b→w'.heap[b]?=w.heap[b]?:=by
 obtain ⟨sa,sc,rfl⟩:=ownsRow.form M.so;obtain ⟨ra,rc,rfl,_⟩:=hr.form;have hb:=M.lt;have hlo:=M.low;have c5:=cell_of_cells M.box 5;have f5:=frozen_of_cells M.box 5;simp at c5;have hn1:=ownsRow.not M.so M.box (by decide);have HM:=hid M;have HR:=hid hr;have HL:=hid hlone;clear M hr hlone;go_enter Tryz.func270,Tryz.ntmps270;go_wp2_with (at_builtin;refine wpList_append_row _ rfl _ _ rfl lo2 _ _ _ rfl (World.ownsRow.alloc HM.out.so _) (.slice ra xs.length rc) rfl w.heap.size rfl (by simp [go_sem]) (by omega) (by have:=HM.out.hl2;simp;omega) ?_;intro v' w1 hown hg;obtain ⟨va,vc,rfl⟩:=ownsRow.form hown;obtain ⟨hq0,hq1⟩:mb<w1.heap.size∧w1.heap[mb]?=w.heap[mb]?:=⟨by have:=hg.size;simp at this;omega,(hg.block mb (by simp;omega) (fun e=>hn1 e.symm)).trans ((Ext.refl w).alloc _ |>.block hb)⟩;have hbx:=hq1.trans HM.out.box;have d5:=cell_of_cells hbx 5;have g5:=frozen_of_cells hbx 5;simp at d5;have HBX:=hid hbx;clear hbx hq1)
 go_end0
 obtain ⟨M,hv',hgr,hbx⟩:Mach lo lo2 w mb n pu tu tm lg (.slice sa vs.length sc) lv vs us S L∧_∧_∧_:=⟨HM.out,hown,hg,HBX.out⟩
 have hr:=HR.out;have x0:Ext w (w.alloc (.cells #[.slice ra xs.length rc] 25)):=X_;have hlw:lo≤w.heap.size:=Nat.le_trans M.hl M.hl2;have hsl:=World.ownsRow.lt M.so;have k1:KeepI w w1:=x0.keepI.trans (KeepI.grown hgr (fun k cur fr hk=>ownsRow.int (World.ownsRow.alloc M.so _) (by decide) k cur fr hk))
 have k2:KeepI w1 (w1.setCell ⟨mb,5,none⟩ (.slice va (vs.length+1) vc)):=KeepI.setCell _ (fun cur fr e=>by
  rw [hbx] at e
  simp at e)
 have hmb:=ownsRow.not hv' hbx (by decide)
 have hgs:w1.grownBy (w1.setCell ⟨mb,5,none⟩ (.slice va (vs.length+1) vc)) (some mb):=⟨rfl,rfl,rfl,by simp,fun k hk hne=>Below.heap_setCell _ _ _ _ (by simpa using hne)⟩
 have hll:=M.lo'.alloc (.cells #[.slice ra xs.length rc] 25);have hlm:=ownsRow.not M.lo' M.box (by decide);refine ⟨rfl,⟨_,heap_set5 hbx _,M.low,?_,?_,M.sep,M.hl,by have:=hgr.size;have:=x0.size;have:=M.hl2;simp;omega,by simp [M.sl],?_,?_,M.nls⟩,⟨?_,k1.trans k2⟩,?_⟩
 ·have:=hv'.kept hgs (.inr hmb)
  simpa using this
 ·refine (hll.kept hgr ?_).kept hgs (.inr hlm)
  cases hk:lv.ownBlock with
  | none=>exact .inl rfl
  | some k=>
   refine .inr fun e=>?_;have h1:=M.sep k hk;have h2:=(hsl k e.symm).1;omega
 ·have hr2:=(M.rows.keepI (k1.trans k2))
  have hr3:OwnInts lo _ _ _:=hr.keepI (k1.trans k2);exact Rws.insert M.sl hr2 hr3
 ·exact M.apt.insert HL.out
 ·exact Below.setCell (Below.grown (Below.mono x0 hlw) hgr (by have:=x0.size;omega) (fun k hk=>by have:=(hsl k hk).1;have:=M.hl;omega)) M.low _
 ·intro b hb1 hb2 hb3
  exact (Below.heap_setCell _ _ _ _ hb2).trans ((hgr.block b (by simp;omega) (fun e=>hb3 e.symm)).trans (x0.block hb1))
def SameX (N X:Nat) (w w':World):Prop:=∀b,b<N→b≠X→w'.heap[b]?=w.heap[b]?
theorem SameX.trans {N X:Nat} {w w1 w2:World} (h:SameX N X w w1) (k:SameX N X w1 w2):SameX N X w w2:=fun b h1 h2=>(k b h1 h2).trans (h b h1 h2)
theorem SameX.gr {N X:Nat} {w w1:World} (h:w.grownBy w1 (some X)) (hN:N≤w.heap.size):SameX N X w w1:=fun b h1 h2=>h.block b (by omega) (fun e=>h2 (by simpa using e))
theorem SameX.of {N X:Nat} {w w1:World} (h:Same 0 N w w1):SameX N X w w1:=fun b h1 _=>h b (Nat.zero_le _) h1
open Classical in
noncomputable def lowx (N X:Nat) (w d:World):World:=if SameX N X w d then d else w
theorem lowx_same (N X:Nat) (w d:World):SameX N X w (lowx N X w d):=by
 unfold lowx
 split
 ·assumption
 ·exact fun _ _ _=>rfl
@[go_sem] theorem cell?_lowx (N X:Nat) (w d:World) (a:Addr) (h:a.block<N) (hx:a.block≠X):(lowx N X w d).cell? a=w.cell? a:=World.cell?_of_block (w:=w) (lowx_same N X w d a.block h hx)
@[go_sem] theorem frozen?_lowx (N X:Nat) (w d:World) (a:Addr) (h:a.block<N) (hx:a.block≠X):(lowx N X w d).frozen? a=w.frozen? a:=World.frozen?_of_block (w:=w) (lowx_same N X w d a.block h hx)
structure EvI (p:Prg) (V:Nat→List Int) (D:Nat) (W w:World):Prop where
 gr:W.grownBy w (some D)
 row:∃us:List Value,w.ownsRow 0 25 1 (.slice (some ⟨D,0,none⟩) p.ns.length p.ns.length) p.ns.length us∧∀(j:Nat) (u:Value),us[j]?=some u→u = .slice none 0 0∨OwnInts 0 w u (V j)
section
variable {p : Prg} {V : Nat → List Int} {B E D mb : Nat} {a1 a2 : Option Addr} {c1 c2 n m : Nat} {pu tu : Value} {f : Nat → Int} {tm : Int} {t : Tex} {W w w' : World}
theorem grown_ext (h:Ext w w') (row:Option Nat):w.grownBy w' row:=⟨h.os,h.tape,h.output,h.size,fun k hk _=>h.block hk⟩
theorem EvI.keep (h:EvI p V D W w) (g:w.grownBy w' (some D)):KeepI w w':=by
 obtain ⟨us,hr,_⟩:=h.row;exact KeepI.grown g fun k cur fr hk=>ownsRow.int hr (by decide) k cur fr (by rw [←hk];rfl)
theorem EvI.ext (h:EvI p V D W w) (e:Ext w w'):EvI p V D W w':=by
 obtain ⟨us,hr,hu⟩:=h.row;exact ⟨grownBy.trans h.gr (grown_ext e _),us,hr.kept (grown_ext e none) (.inr (by simp [Value.ownBlock])),fun j u hj=>(hu j u hj).imp id fun o=>o.ext e⟩
theorem EvI.size (h:EvI p V D W w):W.heap.size≤w.heap.size:=h.gr.size
theorem NdsAt.same {lo hi:Nat} {a:Option Addr} {cap:Nat} {xs:List Nd} (h:NdsAt lo hi w a cap xs) (s:Same lo hi w w'):NdsAt lo hi w' a cap xs:=by
 have h1:=(h.shut).same s;obtain ⟨a',c',e,H⟩:=h1.open;simp only [Value.slice.injEq,true_and] at e;obtain ⟨rfl,rfl⟩:=e;exact H
theorem AsgsAt.same {lo hi:Nat} {a:Option Addr} {cap:Nat} {xs:List Asg} (h:AsgsAt lo hi w a cap xs) (s:Same lo hi w w'):AsgsAt lo hi w' a cap xs:=by
 have h1:=(h.shut).same s;obtain ⟨a',c',e,H⟩:=h1.open;simp only [Value.slice.injEq,true_and] at e;obtain ⟨rfl,rfl⟩:=e;exact H
theorem EvI.store (h:EvI p V D W w) {j:Nat} (hj:j<p.ns.length) {v:Value} (hv:OwnInts 0 w v (V j)) :
  D<w.heap.size∧(∃x,w.cell? ⟨D,j,none⟩=some x)∧w.frozen? ⟨D,j,none⟩=false∧EvI p V D W (w.setCell ⟨D,j,none⟩ v)∧w.grownBy (w.setCell ⟨D,j,none⟩ v) (some D)∧OwnInts 0 (w.setCell ⟨D,j,none⟩ v) v (V j):=by
 have h0:=h;obtain ⟨us,hr,hu⟩:=h.row;have hst:=hr.stored j v;have hk:=h0.keep hst.2
 have hl:us.length=p.ns.length:=by have:=hr.1;simpa using this
 refine ⟨(hr.lt D rfl).2,⟨us[j]'(by omega),by rw [hr.cellAt j (by omega)];simp [show j<us.length by omega]⟩,hr.frozenAt j,⟨grownBy.trans h.gr hst.2,us.set j v,hst.1,fun i u hi=>?_⟩,hst.2,hv.keepI hk⟩;rw [List.getElem?_set] at hi
 split at hi
 ·rename_i e
  subst e
  split at hi
  ·injection hi with hi
   subst hi;exact .inr (hv.keepI hk)
  ·cases hi
 ·exact (hu i u hi).imp id fun o=>o.keepI hk
end
section
variable {p : Prg} {V : Nat → List Int} {B E D mb : Nat} {a1 a2 : Option Addr} {c1 c2 n m : Nat} {pu tu : Value} {f : Nat → Int} {tm : Int} {t : Tex} {W w w' : World}
theorem EvI.args (h:EvI p V D W w) {row:Option Nat} (g:w.grownBy w' row) (hr:∀k,row=some k→W.heap.size≤k∧∀(cur:Array Value) (fr:Nat×Nat),w.heap[k]?≠some (.cells cur 3 fr)) (hd:D<W.heap.size):EvI p V D W w'∧KeepI w w':=by
 have hk:KeepI w w':=KeepI.grown g fun k cur fr e=>(hr k e).2 cur fr;obtain ⟨us,hrow,hu⟩:=h.row
 have hne:some D≠row:=fun e=>by have:=(hr D e.symm).1;omega
 refine ⟨⟨⟨g.os.trans h.gr.os,g.tape.trans h.gr.tape,g.output.trans h.gr.output,Nat.le_trans h.gr.size g.size,fun i hi hne'=>?_⟩,us,hrow.kept g (.inr (by simpa [Value.ownBlock] using hne)),fun j u hj=>(hu j u hj).imp id fun o=>o.keepI hk⟩,hk⟩;rw [g.block i (Nat.lt_of_lt_of_le hi h.gr.size) (fun e=>by have:=(hr i e.symm).1;omega)];exact h.gr.block i hi hne'
theorem IntsAt.same {lo hi:Nat} {a:Option Addr} {cap:Nat} {xs:List Int} (h:IntsAt lo hi w a cap xs) (s:Same lo hi w w'):IntsAt lo hi w' a cap xs:=by
 have h1:=(h.shut).same s;obtain ⟨a',c',e,H⟩:=h1.open;simp only [Value.slice.injEq,true_and] at e;obtain ⟨rfl,rfl⟩:=e;exact H
end
theorem Ints.setLow {lo hi:Nat} {w:World} {v:Value} {xs:List Int} (h:Ints lo hi w v xs) {p:Addr} (hp:p.block<lo) (x:Value):Ints lo hi (w.setCell p x) v xs:=
 h.same (fun k h1 _=>Below.heap_setCell _ _ _ _ (by omega))
def ndC (xs:List Nd) (us:Nat→Value) (i:Nat):Value:=
 match xs[i / 4]? with
 | some x=>if i % 4=0 then .int .i64 x.op else if i % 4=1 then .string x.name else if i % 4=2 then .int .i64 x.num else us (i / 4)
 | none=>.int .i64 0
def ndZ (i:Nat):Value:=if i % 4=1 then .string ⟨#[]⟩ else if i % 4=3 then .slice none 0 0 else .int .i64 0
theorem ndC_at {xs:List Nd} {us:Nat→Value} {k:Nat} {x:Nd} (h:xs[k]?=some x):ndC xs us (k*4) = .int .i64 x.op∧ndC xs us (k*4+1) = .string x.name∧ndC xs us (k*4+2) = .int .i64 x.num∧ndC xs us (k*4+3)=us k:=by
 refine ⟨?_,?_,?_,?_⟩
 ·unfold ndC
  rw [show k*4 / 4=k by omega,h,show k*4 % 4=0 by omega]
  rfl
 ·unfold ndC
  rw [show (k*4+1) / 4=k by omega,h,show (k*4+1) % 4=1 by omega]
  rfl
 ·unfold ndC
  rw [show (k*4+2) / 4=k by omega,h,show (k*4+2) % 4=2 by omega]
  rfl
 ·unfold ndC
  rw [show (k*4+3) / 4=k by omega,h,show (k*4+3) % 4=3 by omega]
  rfl
theorem ndZ_at (k:Nat):ndZ (k*4) = .int .i64 0∧ndZ (k*4+1) = .string ⟨#[]⟩∧ndZ (k*4+2) = .int .i64 0∧ndZ (k*4+3) = .slice none 0 0:=by
 refine ⟨?_,?_,?_,?_⟩
 ·unfold ndZ;rw [show k*4 % 4=0 by omega];rfl
 ·unfold ndZ;rw [show (k*4+1) % 4=1 by omega];rfl
 ·unfold ndZ;rw [show (k*4+2) % 4=2 by omega];rfl
 ·unfold ndZ;rw [show (k*4+3) % 4=3 by omega];rfl
theorem ndC_upd {xs:List Nd} {us:Nat→Value} {k:Nat} {u:Value}:∀i,i<k*4→ndC xs us i=ndC xs (fun j=>if j=k then u else us j) i:=by
 intro i hi;unfold ndC;simp only [if_neg (show ¬i / 4=k by omega)]
theorem info_Nd:(Tryz.prog.info? 243).map (fun i=>(i.zero,i.size,i.bytes))=some (some (.agg #[.int .i64 0,.string ⟨#[]⟩,.int .i64 0,.slice none 0 0]),4,56):=by kernel_rfl
theorem made_nd (n:Nat):∀i,i<n→(madeCells #[.int .i64 0,.string ⟨#[]⟩,.int .i64 0,.slice none 0 0] n)[i]?=some (ndZ i):=by
 intro i hi;unfold ndZ;have:i % 4<4:=Nat.mod_lt _ (by decide)
 rcases (show i % 4=0∨i % 4=1∨i % 4=2∨i % 4=3 by omega) with e|e|e|e <;> simp [madeCells,hi,e]
theorem eqIntS_eq (lo hi lo' hi':Nat) (u v:Value) (xs:List Int) (w:World) (hu:Ints lo hi w u xs) (hv:Ints lo' hi' w v xs) :
  Calls Tryz.prog 28 #[u,v] w fun e w'=>e = .returned (.bool true)∧Ext w w':=(eqIntS_any lo hi lo' hi' u v xs xs w hu hv).mono fun e w' ⟨h1,n,h2⟩=>⟨by rw [h1];simp,by rw [h2];exact (Ext.refl w).drewN n⟩
theorem eqNode_same (lo hi lo' hi':Nat) (op:Int) (s:ByteArray) (n:Int) (u u':Value) (r:List Int) (w:World) (hu:Ints lo hi w u r) (hv:Ints lo' hi' w u' r) (hh:hi≤w.heap.size) (hh':hi'≤w.heap.size) :
  Calls Tryz.prog 253 #[.agg #[.int .i64 op,.string s,.int .i64 n,u],.agg #[.int .i64 op,.string s,.int .i64 n,u']] w fun e w'=>e = .returned (.bool true)∧Ext w w':=by
 have HU:=hid hu;have HV:=hid hv;have x0:Ext w ((w.alloc (.cells #[.int .i64 op,.string s,.int .i64 n,u] 243)).alloc (.cells #[.int .i64 op,.string s,.int .i64 n,u'] 243)):=X_;clear hu hv;go_enter Tryz.func253,Tryz.ntmps253;go_wp2_with fail;refine (eqIntS_eq lo hi lo' hi' _ _ r _ (HU.out.ext hh x0) (HV.out.ext hh' x0)).mono ?_;rintro e w1 ⟨rfl,x1⟩;have X1:=x0.trans x1;go_wp2;go_ret;exact ⟨rfl,X1⟩
theorem eqNodeS_same (lo hi lo' hi':Nat) (u v:Value) (xs:List Nd) (w:World) (hu:Nds lo hi w u xs) (hv:Nds lo' hi' w v xs) (hh:hi≤w.heap.size) (hh':hi'≤w.heap.size) :
  Calls Tryz.prog 198 #[u,v] w fun e w'=>e = .returned (.bool true)∧Ext w w':=by
 obtain ⟨a,cap,rfl,HU⟩:=hu.open;obtain ⟨a',cap',rfl,HV⟩:=hv.open;clear hu hv;have h1:=HU.le;have h2:=HU.cap;have h1':=HV.le;have h2':=HV.cap;go_enter Tryz.func198,Tryz.ntmps198;go_wp2
 go_loopw [5] (fun i wr=>∃k:Nat,k≤xs.length∧i = .int .i64 k∧Ext w wr) (fun i _=>xs.length - (intOf i).toNat)
 case atStart=>exact ⟨0,by omega,rfl,X_⟩
 case round=>
  obtain ⟨k,hk,rfl,hx⟩:=hrel
  by_cases hlt:k<xs.length
  ·obtain ⟨b,off,op,s,n,ua,ra,rfl,hb1,hbw,hdrop,hget,io,inn,hia,x0,x1,x2,x3⟩:=HU.at hlt hx hh
   obtain ⟨b',off',op',s',n',ua',ra',rfl,hb1',hbw',hdrop',hget',io',inn',hia',x0',x1',x2',x3'⟩:=HV.at hlt hx hh';rw [hget] at hget';simp only [Option.some.injEq,Nd.mk.injEq] at hget';obtain ⟨rfl,rfl,rfl,rfl⟩:=hget';have HX:=hid hx;have HI:=hid hia;have HI':=hid hia';have zx:=hx.size;clear hx hdrop hdrop' hget hia hia';go_wp2_with fail;refine wp_region_stages [([0,1,2,3,4,5,6,7],8),([],9)] 99 wr.heap.size (by kernel_rfl) (by kernel_rfl) ?_;refine st_ fun K hK=>?_;go_wp2_with fail;refine (eqNode_same lo hi lo' hi' op s n ua ua' ra _ (HI.out.ext (by omega) X_) (HI'.out.ext (by omega) X_) (by simp;omega) (by simp;omega)).mono ?_;rintro e w1 ⟨rfl,h1⟩;have y1:Ext wr w1:=Ext.trans X_ h1;go_wp2_with fail;refine hK _ _ (.inr (y1.same (Nat.le_refl _))) ?_;clear hK K;refine st_ fun K hK=>?_;go_wp2_with fail;refine hK _ _ (.inr (y1.same (Nat.le_refl _))) ?_;clear hK K;refine wpStages_nil ?_;have hX:=HX.out.trans y1;clear h1 y1 HX;go_wp2;go_roundw
   case rel=>exact ⟨k+1,by omega,by go_num,hX⟩
   case measure=>simp [intOf];omega
  ·go_wp2
   go_ret;exact ⟨rfl,hx⟩
theorem Nds.setLow {lo hi:Nat} {w:World} {v:Value} {xs:List Nd} (h:Nds lo hi w v xs) {p:Addr} (hp:p.block<lo) (x:Value):Nds lo hi (w.setCell p x) v xs:=
 h.same (fun k h1 _=>Below.heap_setCell _ _ _ _ (by omega))
theorem Asgs.setLow {lo hi:Nat} {w:World} {v:Value} {xs:List Asg} (h:Asgs lo hi w v xs) {p:Addr} (hp:p.block<lo) (x:Value):Asgs lo hi (w.setCell p x) v xs:=
 h.same (fun k h1 _=>Below.heap_setCell _ _ _ _ (by omega))
theorem Nds.wide {lo hi lo' hi':Nat} {w:World} {v:Value} {xs:List Nd} (h:Nds lo hi w v xs) (h1:lo'≤lo) (h2:hi≤hi'):Nds lo' hi' w v xs:=by
 obtain ⟨a,cap,g1,g2,g3,g4⟩:=h;refine ⟨a,cap,g1,g2,g3,fun i x hx=>?_⟩;obtain ⟨h5,b,off,u,h6,h7,h8,h9,h10,h11,h12,h13⟩:=g4 i x hx;exact ⟨h5,b,off,u,h6,by omega,by omega,h9,h10,h11,h12,h13.wide h1 h2⟩
theorem Asgs.wide {lo hi lo' hi':Nat} {w:World} {v:Value} {xs:List Asg} (h:Asgs lo hi w v xs) (h1:lo'≤lo) (h2:hi≤hi'):Asgs lo' hi' w v xs:=by
 obtain ⟨a,cap,g1,g2,g3,g4⟩:=h;refine ⟨a,cap,g1,g2,g3,fun i x hx=>?_⟩;obtain ⟨h5,b,off,h6,h7,h8,h9⟩:=g4 i x hx;exact ⟨h5,b,off,h6,by omega,by omega,h9⟩
def agC (xs:List Asg) (i:Nat):Value:=
 match xs[i / 2]? with
 | some x=>if i % 2=0 then .string x.name else .int .i64 x.root
 | none=>.int .i64 0
def agZ (i:Nat):Value:=if i % 2=0 then .string ⟨#[]⟩ else .int .i64 0
theorem agC_at {xs:List Asg} {k:Nat} {x:Asg} (h:xs[k]?=some x):agC xs (k*2) = .string x.name∧agC xs (k*2+1) = .int .i64 x.root:=by
 refine ⟨?_,?_⟩
 ·unfold agC
  rw [show k*2 / 2=k by omega,h,show k*2 % 2=0 by omega]
  rfl
 ·unfold agC
  rw [show (k*2+1) / 2=k by omega,h,show (k*2+1) % 2=1 by omega]
  rfl
theorem agZ_at (k:Nat):agZ (k*2) = .string ⟨#[]⟩∧agZ (k*2+1) = .int .i64 0:=by
 refine ⟨?_,?_⟩
 ·unfold agZ;rw [show k*2 % 2=0 by omega];rfl
 ·unfold agZ;rw [show (k*2+1) % 2=1 by omega];rfl
theorem info_Ag:(Tryz.prog.info? 194).map (fun i=>(i.zero,i.size,i.bytes))=some (some (.agg #[.string ⟨#[]⟩,.int .i64 0]),2,24):=by kernel_rfl
theorem made_ag (n:Nat):∀i,i<n→(madeCells #[.string ⟨#[]⟩,.int .i64 0] n)[i]?=some (agZ i):=by
 intro i hi;unfold agZ;have:i % 2<2:=Nat.mod_lt _ (by decide)
 rcases (show i % 2=0∨i % 2=1 by omega) with e|e <;> simp [madeCells,hi,e]
theorem toAsg_val (s:ByteArray) (n:Int) (w:World):Calls Tryz.prog 251 #[.agg #[.string s,.int .i64 n]] w fun e w'=>e = .returned (.agg #[.string s,.int .i64 n])∧Ext w w':=by
 go_enter Tryz.func251,Tryz.ntmps251;go_wp2;refine bodyPost_ret (v:=.agg #[.string s,.int .i64 n]) (by simp [results,Tryz.results251,go_sem]) rfl ⟨rfl,?_⟩;exact S_
theorem eqAsg_same (s:ByteArray) (n:Int) (w:World):Calls Tryz.prog 254 #[.agg #[.string s,.int .i64 n],.agg #[.string s,.int .i64 n]] w fun e w'=>e = .returned (.bool true)∧Ext w w':=by
 go_enter Tryz.func254,Tryz.ntmps254;go_wp2;go_ret;exact ⟨rfl,S_⟩
theorem eqAsgS_same (lo hi lo' hi':Nat) (u v:Value) (xs:List Asg) (w:World) (hu:Asgs lo hi w u xs) (hv:Asgs lo' hi' w v xs) (hh:hi≤w.heap.size) (hh':hi'≤w.heap.size) :
  Calls Tryz.prog 199 #[u,v] w fun e w'=>e = .returned (.bool true)∧Ext w w':=by
 obtain ⟨a,cap,rfl,HU⟩:=hu.open;obtain ⟨a',cap',rfl,HV⟩:=hv.open;clear hu hv;have h1:=HU.le;have h2:=HU.cap;have h1':=HV.le;have h2':=HV.cap;go_enter Tryz.func199,Tryz.ntmps199;go_wp2
 go_loopw [5] (fun i wr=>∃k:Nat,k≤xs.length∧i = .int .i64 k∧Ext w wr) (fun i _=>xs.length - (intOf i).toNat)
 case atStart=>exact ⟨0,by omega,rfl,X_⟩
 case round=>
  obtain ⟨k,hk,rfl,hx⟩:=hrel
  by_cases hlt:k<xs.length
  ·obtain ⟨b,off,s,n,rfl,hb1,hbw,hdrop,hget,io,x0,x1⟩:=HU.at hlt hx hh
   obtain ⟨b',off',s',n',rfl,hb1',hbw',hdrop',hget',io',x0',x1'⟩:=HV.at hlt hx hh';rw [hget] at hget';simp only [Option.some.injEq,Asg.mk.injEq] at hget';obtain ⟨rfl,rfl⟩:=hget';have HX:=hid hx;clear hx hdrop hdrop' hget;go_wp2;refine wp_region_ext (by kernel_rfl) (by kernel_rfl) ?_
   repeat (go_big_quiet_step ((go_at_call 254;exact grow_call (eqAsg_same _ _ _))))
   refine wpQuiet_nil ?_;intro w1 h1;have hX:=HX.out.trans h1;clear h1 HX;go_wp2;go_roundw
   case rel=>exact ⟨k+1,by omega,by go_num,hX⟩
   case measure=>simp [intOf];omega
  ·go_wp2
   go_ret;exact ⟨rfl,hx⟩
theorem eqProgram_same (lo hi lo' hi':Nat) (v v':Value) (p:Prg) (w:World) (hv:p.R lo hi w v) (hh:hi≤w.heap.size) (hv':p.R lo' hi' w v') (hh':hi'≤w.heap.size) :
  Calls Tryz.prog 133 #[v,v'] w fun e w'=>e = .returned (.bool true)∧Ext w w':=by
 obtain ⟨iu,lu,rfl,hi1,hl1⟩:=hv;obtain ⟨iu',lu',rfl,hi2,hl2⟩:=hv';have HI:=hid hi1;have HL:=hid hl1;have HI':=hid hi2;have HL':=hid hl2;clear hi1 hl1 hi2 hl2;have x0:Ext w ((w.alloc (.cells #[iu,lu] 132)).alloc (.cells #[iu',lu'] 132)):=X_;have bA:=(Bx.made w #[iu,lu] 132).ext ((Ext.refl _).alloc (.cells #[iu',lu'] 132));have bB:=Bx.madeAt (B:=w.heap.size+1) (w.alloc (.cells #[iu,lu] 132)) #[iu',lu'] 132 (by simp);go_enter Tryz.func133,Tryz.ntmps133;go_wp2_with fail;refine (eqNodeS_same lo hi lo' hi' _ _ p.ns _ (HI.out.ext hh x0) (HI'.out.ext hh' x0) (Nat.le_trans hh x0.size) (Nat.le_trans hh' x0.size)).mono ?_;rintro e w1 ⟨rfl,x1⟩;have bA1:=bA.ext x1;have bB1:=bB.ext x1;have X1:=x0.trans x1;clear bA bB x0 x1;have y:=bA1.lt;have y0:=bA1.cell 0;simp only [List.getElem?_toArray,List.getElem?_cons_zero,List.getElem?_cons_succ] at y0;have y1:=bA1.cell 1;simp only [List.getElem?_toArray,List.getElem?_cons_zero,List.getElem?_cons_succ] at y1;have q:=bB1.lt;have q0:=bB1.cell 0;simp only [List.getElem?_toArray,List.getElem?_cons_zero,List.getElem?_cons_succ] at q0;have q1:=bB1.cell 1;simp only [List.getElem?_toArray,List.getElem?_cons_zero,List.getElem?_cons_succ] at q1;go_wp2_with fail;refine (eqAsgS_same lo hi lo' hi' _ _ p.gs _ (HL.out.ext hh X1) (HL'.out.ext hh' X1) (Nat.le_trans hh X1.size) (Nat.le_trans hh' X1.size)).mono ?_;rintro e w2 ⟨rfl,x2⟩;go_wp2;go_ret;exact ⟨rfl,X1.trans x2⟩
section
open Go.RowKit Go.Maps Go.WideMaps
noncomputable def evOk (p:Prg) (g:Grd) (i j:Int):Bool:=p.chkB&&g.okB&&inB i 0 (g.n - 1)&&inB j 0 (g.n - 1)
end
section
open Go.RowKit Go.Maps Go.WideMaps
noncomputable def evV (p:Prg) (g:Grd):Nat→List Int:=p.ev g.n.toNat g.m g.f g.tm g.t
theorem Prg.R.form2 {p:Prg} {lo hi:Nat} {w:World} {v:Value} (h:p.R lo hi w v):∃a1 c1 a2 c2,v = .agg #[.slice a1 p.ns.length c1,.slice a2 p.gs.length c2]:=by
 obtain ⟨a1,c1,a2,c2,rfl,_⟩:=h.form;exact ⟨a1,c1,a2,c2,rfl⟩
theorem at_lt {n m i j:Nat} (hm:n*n=m) (hi:i<n) (hj:j<n):j*n+i<m:=by
 have h1:(j+1)*n≤n*n:=Nat.mul_le_mul_right n hj;rw [Nat.add_mul,Nat.one_mul] at h1;omega
end
section
open Go.RowKit Go.Maps Go.WideMaps
noncomputable def named (p:Prg) (g:Grd) (q:Nat) (l:List UInt8):Int:=match frst p.gs p.gs.length l with|some k=>(evV p g (((p.gs[k]?).map fun a=>a.root.toNat).getD 0)).getD q 0|none=>256
noncomputable def shC (p:Prg) (g:Grd) (i j:Int):Int:=if evOk p g i j=true then clampI (named p g (j*g.n+i).toNat [99,111,108,111,114]) 0 256 else 0
noncomputable def shA (p:Prg) (g:Grd) (i j:Int):Int:=if evOk p g i j=true then clampI (named p g (j*g.n+i).toNat [97,108,112,104,97]) 0 256 else 0
theorem alphaS:(⟨#[97,108,112,104,97]⟩:ByteArray).toList=[97,108,112,104,97]:=by rw [Lib.toList_data]
theorem named_some {p:Prg} {g:Grd} {q:Nat} {l:List UInt8} {k r:Nat} {s:ByteArray} (h:frst p.gs p.gs.length l=some k) (hk:p.gs[k]?=some ⟨s,r⟩):named p g q l=(evV p g r).getD q 0:=by
 unfold named;rw [h];simp [hk]
theorem named_none {p:Prg} {g:Grd} {q:Nat} {l:List UInt8} (h:frst p.gs p.gs.length l=none):named p g q l=256:=by unfold named;rw [h]
theorem Prg.K.asg {p:Prg} (h:p.K) {l:List UInt8} {k:Nat} (hf:frst p.gs p.gs.length l=some k):∃(s:ByteArray) (r:Nat),p.gs[k]?=some ⟨s,(r:Nat)⟩∧r<p.ns.length∧k<p.gs.length∧s.toList=l:=by
 obtain ⟨h1,⟨a,h2,h3⟩,_⟩:=frst_some hf;have hr:=(h.v.ag k a h2).2;refine ⟨a.name,a.root.toNat,?_,by omega,h1,h3⟩;rw [h2]
 cases a
 simp only [Option.some.injEq,Asg.mk.injEq,true_and] at *;omega
end
theorem ownsRow.shrink {w:World} {lo:Nat} {e:TypeId} {g n cap q:Nat} {xs:List Value} (h:w.ownsRow lo e 1 (.slice (some ⟨g,0,none⟩) n cap) n xs) (hq:q≤n):w.ownsRow lo e 1 (.slice (some ⟨g,0,none⟩) q cap) q (xs.take q):=by
 obtain ⟨h1,h2⟩:=h;refine ⟨by simp;omega,?_⟩
 rcases h2 with ⟨hn,_⟩|⟨g',cap',cur,hv,hb,hg,hc,hm,hs,ht⟩
 ·simp at hn
 ·simp only [Value.slice.injEq,Option.some.injEq,Addr.mk.injEq,and_true,true_and] at hv
  obtain ⟨rfl,rfl⟩:=hv;refine .inr ⟨g,cap,cur,rfl,hb,hg,by omega,hm,hs,?_⟩;rw [←ht,List.take_take,Nat.mul_one,Nat.mul_one,Nat.min_eq_left hq]
theorem ownsRow.caps {w:World} {lo:Nat} {e:TypeId} {g n cap:Nat} {xs:List Value} (h:w.ownsRow lo e 1 (.slice (some ⟨g,0,none⟩) n cap) n xs):n≤cap∧cap≤9223372036854775807:=by
 rcases h.2 with ⟨hn,_⟩|⟨g',cap',cur,hv,hb,hg,hc,hm,hs,ht⟩
 ·simp at hn
 ·simp only [Value.slice.injEq,Option.some.injEq,Addr.mk.injEq,and_true,true_and] at hv
  obtain ⟨rfl,rfl⟩:=hv;unfold maxLen at hm;exact ⟨hc,by omega⟩
theorem ownsRow.form1 {w:World} {lo:Nat} {e:TypeId} {size n:Nat} {v:Value} {xs:List Value} (h:w.ownsRow lo e size v n xs) (hn:1≤n):∃g cap,v = .slice (some ⟨g,0,none⟩) n cap∧lo≤g∧g<w.heap.size:=by
 rcases h.2 with ⟨rfl,h4⟩|⟨g,cap,cur,rfl,hb,hg,hc,hm,hs,ht⟩
 ·omega
 ·exact ⟨g,cap,rfl,hb,(Array.getElem?_eq_some_iff.1 hg).1⟩
theorem Rws.one {lo:Nat} {w:World} {vs:List Value} {S:List (List Int)} (h:Rws lo w vs S):∀v∈vs,v.oneCell'=true:=by
 intro v hv;obtain ⟨i,hi,rfl⟩:=List.getElem_of_mem hv;have hl:=h.len;obtain ⟨a,c,e,_⟩:=(h.own i vs[i] (S[i]'(by omega)) (by simp [hi]) (by simp [show i<S.length by omega])).form;rw [e]
 rfl
theorem Rws.left {lo:Nat} {w:World} {vs us:List Value} {S L:List (List Int)} (hl:vs.length=S.length) (h:Rws lo w (vs++us) (S++L)):Rws lo w vs S:=by
 have:=h.take vs.length
 rwa [List.take_left,hl,List.take_left] at this
theorem Rws.right {lo:Nat} {w:World} {vs us:List Value} {S L:List (List Int)} (hl:vs.length=S.length) (h:Rws lo w (vs++us) (S++L)):Rws lo w us L:=by
 have:=h.drop vs.length
 rwa [List.drop_left,hl,List.drop_left] at this
theorem Rws.app {lo:Nat} {w:World} {vs us:List Value} {S L:List (List Int)} (h:Rws lo w vs S) (k:Rws lo w us L):Rws lo w (vs++us) (S++L):=by
 have hl:=h.len;refine ⟨by simp [h.len,k.len],fun i u ys h1 h2=>?_⟩
 by_cases h3:i<vs.length
 ·rw [List.getElem?_append_left h3] at h1
  rw [List.getElem?_append_left (by omega)] at h2;exact h.own i u ys h1 h2
 ·rw [List.getElem?_append_right (by omega)] at h1 h2
  rw [hl] at h1;exact k.own _ u ys h1 h2
theorem pop_any {lo lo2:Nat} {w:World} {mb n:Nat} {pu tu:Value} {tm lg:Int} {sv lv:Value} {vs us:List Value} {S L:List (List Int)} (M:Mach lo lo2 w mb n pu tu tm lg sv lv vs us S L) (p q:Nat) (hp:1≤p) (hq:q+p=vs.length) (hS:vs.length≤1000) :
  Calls Tryz.prog 272 #[.pointer (some ⟨mb,0,none⟩),.int .i64 p] w fun e w'=>∃r,e = .returned r∧w'.ownsRow w.heap.size 25 1 r p (vs.drop q)∧(∃sv',Mach lo lo2 w' mb n pu tu tm lg sv' lv (vs.take q) us (S.take q) L∧sv'.ownBlock=sv.ownBlock)∧Step lo w w'∧∀b,b<w.heap.size→b≠mb→w'.heap[b]?=w.heap[b]?:=by
 obtain ⟨g,sc,rfl,hg1,hg2⟩:=ownsRow.form1 M.so (by omega);have hb:=M.lt;have hlo:=M.low;obtain ⟨l1,l2⟩:=ownsRow.caps M.so;have c5:=cell_of_cells M.box 5;have f5:=frozen_of_cells M.box 5;simp at c5
 have hq2:(vs.length:Int) - p=q:=by omega
 have hq3:vs.length - q=p:=by omega
 have hmx:=ownsRow.not M.so M.box (by decide)
 have hdl:(vs.drop q).length=p:=by simp;omega
 have hcell:∀i y,(vs.drop q)[i]?=some y→w.cell? ⟨g,q+i,none⟩=some y:=by
  intro i y hy;rw [List.getElem?_drop] at hy;have hlt:=(List.getElem?_eq_some_iff.1 hy).1;rw [World.ownsRow.cellAt M.so (q+i) (by omega)];exact hy
 have hone:∀y∈vs.drop q,y.oneCell'=true:=fun y hy=>(Rws.left M.sl M.rows).one y (List.mem_of_mem_drop hy);have HM:=hid M;have HC:=hid hcell;have HO:=hid hone;have HD:=hid hdl;clear M hcell hone hdl;go_enter Tryz.func272,Tryz.ntmps272;go_wp2_with fail;have key:=cloneRows_any g q (sc - q) (vs.drop q) w hg2 (by rw [HD.out];omega) (by omega) HC.out HO.out (by rw [HD.out];omega);rw [HD.out] at key;refine key.mono ?_;rintro e w1 ⟨r,rfl,hr,x1⟩;obtain ⟨ra,rc,rfl⟩:=ownsRow.form hr;have M1:=HM.out.ext x1;have b5:=cell_of_cells M1.box 5;have g5:=frozen_of_cells M1.box 5;simp at b5;have hb2:=M1.lt;have HR:=hid hr;have HM1:=hid M1;clear key hr M1 c5 f5;go_wp2;go_ret
 obtain ⟨M,hr⟩:Mach lo lo2 w1 mb n pu tu tm lg _ lv vs us S L∧_:=⟨HM1.out,HR.out⟩
 have k2:KeepI w1 (w1.setCell ⟨mb,5,none⟩ (.slice (some ⟨g,0,none⟩) q sc)):=KeepI.setCell _ (fun cur fr e=>by
  rw [M.box] at e
  simp at e)
 have hgs:w1.grownBy (w1.setCell ⟨mb,5,none⟩ (.slice (some ⟨g,0,none⟩) q sc)) (some mb):=⟨rfl,rfl,rfl,by simp,fun k hk hne=>Below.heap_setCell _ _ _ _ (by simpa using hne)⟩
 have hlm:=ownsRow.not M.lo' M.box (by decide);have hlw:lo≤w.heap.size:=Nat.le_trans HM.out.hl HM.out.hl2;have hrm:=ownsRow.not hr M.box (by decide)
 have htl:(vs.take q).length=q:=by simp;omega
 refine ⟨_,rfl,hr.kept hgs (.inr hrm),⟨_,⟨heap_set5 M.box _,M.low,?_,M.lo'.kept hgs (.inr hlm),M.sep,M.hl,by have:=M.hl2;simpa using this,by simp [M.sl],?_,?_,M.nls⟩,rfl⟩,⟨?_,x1.keepI.trans k2⟩,fun b hb1 hb2=>(Below.heap_setCell _ _ _ _ hb2).trans (x1.block hb1)⟩
 ·rw [htl]
  exact (ownsRow.shrink M.so (by omega)).kept hgs (.inr hmx)
 ·have h1:=(Rws.left M.sl M.rows).keepI k2
  have h2:=(Rws.right M.sl M.rows).keepI k2;exact (h1.take q).app h2
 ·exact M.apt.sub (List.take_sublist _ _) (List.Sublist.refl _)
 ·exact Below.setCell (Below.mono x1 hlw) M.low _
theorem SC.go {C:Addr→Prop} {w w1 w2:World} (h:SC C w w1) (k:∀a,C a→w2.heap[a.block]?=w1.heap[a.block]?):SC C w w2:=SC.of fun a ha=>by
 have h1:=h.get a ha;exact ⟨(World.cell?_of_block (k a ha)).trans h1.1,(World.frozen?_of_block (k a ha)).trans h1.2⟩
theorem snoc_drop {α : Type} (l:List α) (q:Nat) (hq:q+1=l.length):∃x,l.drop q=[x]∧l=l.take q++[x]:=by
 refine ⟨l[q]'(by omega),?_,?_⟩
 ·rw [List.drop_eq_getElem_cons (by omega),List.drop_of_length_le (by omega)]
 ·rw [←List.take_succ_eq_append_getElem (by omega),List.take_of_length_le (by omega)]
theorem snoc2_drop {α : Type} (l:List α) (q:Nat) (hq:q+2=l.length):∃x y,l.drop q=[x,y]∧l=l.take q++[x]++[y]:=by
 refine ⟨l[q]'(by omega),l[q+1]'(by omega),?_,?_⟩
 ·rw [List.drop_eq_getElem_cons (by omega),List.drop_eq_getElem_cons (by omega),List.drop_of_length_le (by omega)]
 ·rw [←List.take_succ_eq_append_getElem (by omega),←List.take_succ_eq_append_getElem (by omega),List.take_of_length_le (by omega)]
theorem unary_any {lo lo2:Nat} {w:World} {mb n:Nat} {pu tu:Value} {tm lg:Int} {sv lv:Value} {vs us:List Value} {S L:List (List Int)} (M:Mach lo lo2 w mb n pu tu tm lg sv lv vs us S L) (q m:Nat) (op:Int) (hop:opsOk op) (hq:q+1=S.length) (hS:S.length≤1000)
  (hg:∀r∈S,good m r) (hm:m≤64) :
  Calls Tryz.prog 269 #[.pointer (some ⟨mb,0,none⟩),.int .i64 op] w fun e w'=>e = .returned (.tuple #[])∧(∃sv' vs',Mach lo lo2 w' mb n pu tu tm lg sv' lv vs' us (S.take q++[List.zipWith (arithI op) (S.getD q []) (S.getD q [])]) L)∧Step lo w w':=by
 have hvl:=M.sl;obtain ⟨x,hx1,hx2⟩:=snoc_drop vs q (by omega);obtain ⟨xs,hs1,hs2⟩:=snoc_drop S q hq;have hR:=Rws.left M.sl M.rows
 have hown:OwnInts lo w x xs:=by
  have:=(hR.drop q).own 0 x xs (by rw [hx1];rfl) (by rw [hs1];rfl);exact this
 have hxs:S.getD q []=xs:=by
  have h1:S[q]?=(S.drop q)[0]?:=by rw [List.getElem?_drop,Nat.add_zero]
  rw [List.getD,h1,hs1]
  rfl
 rw [hxs];obtain ⟨g1,g2⟩:=hg xs (by rw [hs2];simp);replace g1:=hid g1;replace hxs:=hid hxs
 obtain ⟨zs,hzs⟩:∃zs,List.zipWith (arithI op) xs xs=zs:=⟨_,rfl⟩
 rw [hzs];replace hzs:=hid hzs;have HM:=hid M;have HO:=hid hown;have hx1':=hid hx1;have hlw:lo≤w.heap.size:=Nat.le_trans M.hl M.hl2;clear M hown hR hx1 hx2 hs1 hs2;go_enter Tryz.func269,Tryz.ntmps269;go_wp2_with fail;refine (pop_any HM.out 1 q (Nat.le_refl _) (by omega) (by omega)).mono ?_;rintro e w1 ⟨r,rfl,hr,⟨sv1,M1,hsv0⟩,st1,fr1⟩;have hsv1:∀k,sv1.ownBlock=some k→k<w.heap.size:=fun k hk=>(World.ownsRow.lt HM.out.so k (hsv0▸hk)).2;clear hsv0;obtain ⟨rb,rc,rfl,hrb1,hrb2⟩:=ownsRow.form1 hr (Nat.le_refl _);rw [hx1'.out] at hr;have r0:=World.ownsRow.cellAt hr 0 (by omega);simp at r0;obtain ⟨xa,xc,rfl,_⟩:=HO.out.form;have HM1:=hid M1;have HX1:=hid ((HO.out.keepI st1.keep));have hu:=hid (HX1.out.ints.wide (Nat.zero_le _) (Nat.le_refl _));have HS1:=hid st1;have HF1:=hid fr1;have hs1:=st1.size;clear HM M1 st1 fr1;go_wp2_with fail;refine wp_region_stagesS [([0,1,2,3,4,5,6,7],8),([],9)] 99 (fun w'=>∃d,w'=lowc (fun a=>a.block=rb) _ d) (by kernel_rfl) (by kernel_rfl) (SC.drew _ _) ?_;refine sc_ fun K hK=>?_;go_wp2_with fail;refine (iCombined_any 0 w1.heap.size 0 w1.heap.size _ _ op xs xs _ hop (hu.out.ext (Nat.le_refl _) (Ext.drew (Ext.refl _))) (Nat.le_refl _) (hu.out.ext (Nat.le_refl _) (Ext.drew (Ext.refl _))) (Nat.le_refl _) rfl (by rw [g1.out];omega) g2 g2).mono ?_;rintro e w2 ⟨y,rfl,hy,x2⟩;rw [hzs.out] at hy;obtain ⟨ya,yc,rfl,_⟩:=hy.form;have X2:Ext w1 w2:=Ext.trans (Ext.drew (Ext.refl _)) x2;have SC2:SC (fun a=>a.block=rb) w1 w2:=SC.blocks (fun a ha=>by rw [ha];exact X2.block hrb2);go_wp2_with fail;refine hK _ _ (.inr (SC2)) ?_;clear hK K;refine sc_ fun K hK=>?_;go_wp2_with fail;have M2:=HM1.out.ext X2;have hlone:=Lone.of (M:=w1.heap.size) HM1.out.rows (Nat.le_refl _) (fun k hk=>(hy.lt k hk).1);refine (push_any M2 (hy.low (Nat.le_trans hlw hs1)) hlone (by simp;omega)).mono ?_;rintro e w3 ⟨rfl,⟨sv3,M3⟩,st3,fr3⟩
 have SC3:SC (fun a=>a.block=rb) w1 w3:=SC2.go (fun a ha=>by
  have hrm:=ownsRow.not (hr.kept (row:=none) ⟨X2.os,X2.tape,X2.output,X2.size,fun k hk _=>X2.block hk⟩ (by simp [Value.ownBlock])) M2.box (by decide);rw [ha]
  exact fr3 rb (by have:=X2.size;omega) (fun e=>hrm (by rw [e];rfl)) (fun e=>by have:=hsv1 rb e;omega))
 go_wp2_with fail;refine hK _ _ (.inr (SC3)) ?_;clear hK K;refine wpStagesS_nil ?_;go_wp2
 go_end0
 exact ⟨rfl,⟨sv3,_,M3⟩,HS1.out.trans ((X2.step (Nat.le_trans hlw hs1)).trans st3)⟩
theorem binary_any {lo lo2:Nat} {w:World} {mb n:Nat} {pu tu:Value} {tm lg:Int} {sv lv:Value} {vs us:List Value} {S L:List (List Int)} (M:Mach lo lo2 w mb n pu tu tm lg sv lv vs us S L) (q m:Nat) (op:Int) (hop:opsOk op) (hq:q+2=S.length) (hS:S.length≤1000)
  (hg:∀r∈S,good m r) (hm:m≤64) :
  Calls Tryz.prog 268 #[.pointer (some ⟨mb,0,none⟩),.int .i64 op] w fun e w'=>e = .returned (.tuple #[])∧(∃sv' vs',Mach lo lo2 w' mb n pu tu tm lg sv' lv vs' us (S.take q++[List.zipWith (arithI op) (S.getD q []) (S.getD (q+1) [])]) L)∧Step lo w w':=by
 have hvl:=M.sl;obtain ⟨x,x',hx1,hx2⟩:=snoc2_drop vs q (by omega);obtain ⟨xs,ys,hs1,hs2⟩:=snoc2_drop S q hq;have hR:=Rws.left M.sl M.rows
 have hown:OwnInts lo w x xs:=by
  have:=(hR.drop q).own 0 x xs (by rw [hx1];rfl) (by rw [hs1];rfl);exact this
 have hown':OwnInts lo w x' ys:=by
  have:=(hR.drop q).own 1 x' ys (by rw [hx1];rfl) (by rw [hs1];rfl);exact this
 have hxs:S.getD q []=xs:=by
  have h1:S[q]?=(S.drop q)[0]?:=by rw [List.getElem?_drop,Nat.add_zero]
  rw [List.getD,h1,hs1]
  rfl
 have hys:S.getD (q+1) []=ys:=by
  have h1:S[q+1]?=(S.drop q)[1]?:=by rw [List.getElem?_drop]
  rw [List.getD,h1,hs1]
  rfl
 rw [hxs,hys];obtain ⟨g1,g2⟩:=hg xs (by rw [hs2];simp);obtain ⟨g3,g4⟩:=hg ys (by rw [hs2];simp);replace g1:=hid g1;replace g3:=hid g3;replace hxs:=hid hxs;replace hys:=hid hys
 obtain ⟨zs,hzs⟩:∃zs,List.zipWith (arithI op) xs ys=zs:=⟨_,rfl⟩
 rw [hzs];replace hzs:=hid hzs;have HM:=hid M;have HO:=hid hown;have HO':=hid hown';have hx1':=hid hx1;have hlw:lo≤w.heap.size:=Nat.le_trans M.hl M.hl2;clear M hown hown' hR hx1 hx2 hs1 hs2;go_enter Tryz.func268,Tryz.ntmps268;go_wp2_with fail;refine (pop_any HM.out 2 q (by omega) (by omega) (by omega)).mono ?_;rintro e w1 ⟨r,rfl,hr,⟨sv1,M1,hsv0⟩,st1,fr1⟩;have hsv1:∀k,sv1.ownBlock=some k→k<w.heap.size:=fun k hk=>(World.ownsRow.lt HM.out.so k (hsv0▸hk)).2;clear hsv0;obtain ⟨rb,rc,rfl,hrb1,hrb2⟩:=ownsRow.form1 hr (by omega);rw [hx1'.out] at hr;have r0:=World.ownsRow.cellAt hr 0 (by omega);have r1:=World.ownsRow.cellAt hr 1 (by omega);simp at r0 r1;obtain ⟨xa,xc,rfl,_⟩:=HO.out.form;obtain ⟨ya',yc',rfl,_⟩:=HO'.out.form;have HM1:=hid M1;have HX1:=hid ((HO.out.keepI st1.keep));have hu:=hid (HX1.out.ints.wide (Nat.zero_le _) (Nat.le_refl _));have hu':=hid ((HO'.out.keepI st1.keep).ints.wide (Nat.zero_le _) (Nat.le_refl _));have HS1:=hid st1;have HF1:=hid fr1;have hs1:=st1.size;clear HM M1 st1 fr1;go_wp2_with fail;refine wp_region_stagesS [([0,1,2,3,4,5,6,7],8),([],9)] 99 (fun w'=>∃d,w'=lowc (fun a=>a.block=rb) _ d) (by kernel_rfl) (by kernel_rfl) (SC.drew _ _) ?_;refine sc_ fun K hK=>?_;go_wp2_with fail;refine (iCombined_any 0 w1.heap.size 0 w1.heap.size _ _ op xs ys _ hop (hu.out.ext (Nat.le_refl _) (Ext.drew (Ext.refl _))) (Nat.le_refl _) (hu'.out.ext (Nat.le_refl _) (Ext.drew (Ext.refl _))) (Nat.le_refl _) (by rw [g1.out,g3.out]) (by rw [g3.out];omega) g2 g4).mono ?_;rintro e w2 ⟨y,rfl,hy,x2⟩;rw [hzs.out] at hy;obtain ⟨ya,yc,rfl,_⟩:=hy.form;have X2:Ext w1 w2:=Ext.trans (Ext.drew (Ext.refl _)) x2;have SC2:SC (fun a=>a.block=rb) w1 w2:=SC.blocks (fun a ha=>by rw [ha];exact X2.block hrb2);go_wp2_with fail;refine hK _ _ (.inr (SC2)) ?_;clear hK K;refine sc_ fun K hK=>?_;go_wp2_with fail;have M2:=HM1.out.ext X2;have hlone:=Lone.of (M:=w1.heap.size) HM1.out.rows (Nat.le_refl _) (fun k hk=>(hy.lt k hk).1);refine (push_any M2 (hy.low (Nat.le_trans hlw hs1)) hlone (by simp;omega)).mono ?_;rintro e w3 ⟨rfl,⟨sv3,M3⟩,st3,fr3⟩
 have SC3:SC (fun a=>a.block=rb) w1 w3:=SC2.go (fun a ha=>by
  have hrm:=ownsRow.not (hr.kept (row:=none) ⟨X2.os,X2.tape,X2.output,X2.size,fun k hk _=>X2.block hk⟩ (by simp [Value.ownBlock])) M2.box (by decide);rw [ha]
  exact fr3 rb (by have:=X2.size;omega) (fun e=>hrm (by rw [e];rfl)) (fun e=>by have:=hsv1 rb e;omega))
 go_wp2_with fail;refine hK _ _ (.inr (SC3)) ?_;clear hK K;refine wpStagesS_nil ?_;go_wp2
 go_end0
 exact ⟨rfl,⟨sv3,_,M3⟩,HS1.out.trans ((X2.step (Nat.le_trans hlw hs1)).trans st3)⟩
def CMx (mb xb:Nat):Addr→Prop:=fun a=>a.block=xb∨a=⟨mb,0,none⟩∨a=⟨mb,1,none⟩∨a=⟨mb,2,none⟩∨a=⟨mb,3,none⟩∨a=⟨mb,4,none⟩∨a=⟨mb,6,none⟩
@[go_sem] theorem CMx_x (mb xb o:Nat):CMx mb xb ⟨xb,o,none⟩:=.inl rfl
@[go_sem] theorem CMx_0 (mb xb:Nat):CMx mb xb ⟨mb,0,none⟩:=.inr (.inl rfl)
@[go_sem] theorem CMx_1 (mb xb:Nat):CMx mb xb ⟨mb,1,none⟩:=.inr (.inr (.inl rfl))
@[go_sem] theorem CMx_2 (mb xb:Nat):CMx mb xb ⟨mb,2,none⟩:=.inr (.inr (.inr (.inl rfl)))
@[go_sem] theorem CMx_3 (mb xb:Nat):CMx mb xb ⟨mb,3,none⟩:=.inr (.inr (.inr (.inr (.inl rfl))))
@[go_sem] theorem CMx_4 (mb xb:Nat):CMx mb xb ⟨mb,4,none⟩:=.inr (.inr (.inr (.inr (.inr (.inl rfl)))))
@[go_sem] theorem CMx_6 (mb xb:Nat):CMx mb xb ⟨mb,6,none⟩:=.inr (.inr (.inr (.inr (.inr (.inr rfl)))))
theorem CMx_of {lo lo2:Nat} {w w':World} {mb n xb:Nat} {pu tu:Value} {tm lg:Int} {sv sv' lv:Value} {vs us vs' us':List Value} {S L S' L':List (List Int)} (M:Mach lo lo2 w mb n pu tu tm lg sv lv vs us S L) (M':Mach lo lo2 w' mb n pu tu tm lg sv' lv vs' us' S' L')
  (hx:w'.heap[xb]?=w.heap[xb]?):SC (CMx mb xb) w w':=SC.of fun a ha=>by
 rcases ha with ha|ha|ha|ha|ha|ha|ha
 ·have h:w'.heap[a.block]?=w.heap[a.block]?:=by rw [ha];exact hx
  exact ⟨World.cell?_of_block h,World.frozen?_of_block h⟩
 all_goals
  subst ha;rw [cell_of_cells M.box,cell_of_cells M'.box,frozen_of_cells M.box,frozen_of_cells M'.box];exact ⟨rfl,rfl⟩
structure GridIn (lo:Nat) (w:World) (n m:Nat) (pu tu:Value) (f:Nat→Int) (tm:Int) (t:Tex):Prop where
 flats:Flats 5 0 lo w pu m f
 tex:TexR 0 lo w (.agg #[.int .i64 t.log,tu]) t
 hm:n*n=m
 h1:1≤n
 h8:n≤8
 ok:t.okB=true
 tm9:S9 tm
 f9:∀i,i<m*5→S9 (f i)
theorem GridIn.step {lo:Nat} {w w':World} {n m:Nat} {pu tu:Value} {f:Nat→Int} {tm:Int} {t:Tex} (h:GridIn lo w n m pu tu f tm t) (s:Below lo w w'):GridIn lo w' n m pu tu f tm t:=by
 have e:Same 0 lo w w':=fun b _ hb=>s.block b hb;exact ⟨h.flats.same e,h.tex.same e,h.hm,h.h1,h.h8,h.ok,h.tm9,h.f9⟩
theorem GridIn.hmi {lo:Nat} {w:World} {n m:Nat} {pu tu:Value} {f:Nat→Int} {tm:Int} {t:Tex} (h:GridIn lo w n m pu tu f tm t):(n:Int)*n=m∧1≤m∧m≤64:=by
 have h1:=h.h1;have h8:=h.h8;have h2:n*n≤8*8:=Nat.mul_le_mul h8 h8;have h3:1*1≤n*n:=Nat.mul_le_mul h1 h1;have:=h.hm;refine ⟨by rw [←h.hm];simp,by omega,by omega⟩
theorem ownsRow.ss {w:World} {lo lo' p:Nat} {v:Value} {vs:List Value} {S:List (List Int)} (h:w.ownsRow lo 25 1 v p vs) (hr:Rws lo' w vs S):SS 0 w.heap.size w v S:=by
 have hl:=hr.len
 have hp:p=S.length:=by have:=h.1;omega
 subst hp
 rcases h.2 with ⟨rfl,h4⟩|⟨g,cap,cur,rfl,hb,hg,hc,hm,hs,ht⟩
 ·refine ⟨none,0,by rw [h4],by omega,by unfold maxLen;omega,fun i xs hx=>?_⟩
  have:=(List.getElem?_eq_some_iff.1 hx).1;omega
 ·refine ⟨some ⟨g,0,none⟩,cap,rfl,hc,hm,fun i xs hx=>?_⟩
  have hi:=(List.getElem?_eq_some_iff.1 hx).1
  obtain ⟨v,hv⟩:∃v,vs[i]?=some v:=⟨vs[i]'(by omega),by simp [show i<vs.length by omega]⟩
  refine ⟨g,0,v,rfl,Nat.zero_le _,(Array.getElem?_eq_some_iff.1 hg).1,?_,(hr.own i _ xs hv hx).ints.wide (Nat.zero_le _) (Nat.le_refl _)⟩;have e:=hv;rw [←ht,List.getElem?_take,if_pos (by omega)] at e;simp only [World.cell?,hg,Nat.zero_add];rw [←Array.getElem?_toList];exact e
theorem exec1 {lo lo2:Nat} {w:World} {mb n m:Nat} {pu tu:Value} {f:Nat→Int} {tm:Int} {t:Tex} {sv lv:Value} {vs us:List Value} {S L:List (List Int)} (M:Mach lo lo2 w mb n pu tu tm t.log sv lv vs us S L) (G:GridIn lo w n m pu tu f tm t) (s:ByteArray) (num:Int) (hn:I64 num) (hS:S.length≤1000)
  (zs:List Int) (hz:List.replicate m num=zs) :
  Calls Tryz.prog 224 #[.pointer (some ⟨mb,0,none⟩),.agg #[.int .i64 1,.string s,.int .i64 num]] w fun e w'=>e = .returned (.tuple #[])∧(∃sv' vs',Mach lo lo2 w' mb n pu tu tm t.log sv' lv vs' us (S++[zs]) L)∧Step lo w w':=by
 obtain ⟨q1,q2,q3⟩:=G.hmi;have hb:=M.lt;have hvl:=M.sl;have c0:=cell_of_cells M.box 0;have c1:=cell_of_cells M.box 1;have c2:=cell_of_cells M.box 2;have c3:=cell_of_cells M.box 3;have c4:=cell_of_cells M.box 4;simp at c0 c1 c2 c3 c4;have hlw:lo≤w.heap.size:=Nat.le_trans M.hl M.hl2;have hsv:=World.ownsRow.lt M.so;have x0:Ext w (w.alloc (.cells #[.int .i64 1,.string s,.int .i64 num] 197)):=X_;have HM:=hid (M.ext x0)
 have hxb:w.heap.size<(w.alloc (.cells #[.int .i64 1,.string s,.int .i64 num] 197)).heap.size:=by simp
 replace hz:=hid hz;clear M G;go_enter Tryz.func224,Tryz.ntmps224;go_wp2_with fail;refine wp_region_stagesS [([0,1,2,3,4,5,6],7),([],8)] 99 (fun w'=>∃d,w'=lowc (CMx mb w.heap.size) _ d) (by kernel_rfl) (by kernel_rfl) (SC.drew _ _) ?_;refine sc_ fun K hK=>?_;go_wp2_with fail;refine (iConstant_any num n m _ _ _ _ _ q1 (by omega) hn).mono ?_;rintro e w2 ⟨y,rfl,hy,x2⟩;rw [hz.out] at hy;obtain ⟨ya,yc,rfl,_⟩:=hy.form;have X2:Ext (w.alloc (.cells #[.int .i64 1,.string s,.int .i64 num] 197)) w2:=Ext.trans (Ext.drew (Ext.refl _)) x2;have M2:=HM.out.ext X2;have SC2:=CMx_of HM.out M2 (X2.block hxb);go_wp2_with fail;refine hK _ _ (.inr (SC2)) ?_;clear hK K;refine sc_ fun K hK=>?_;go_wp2_with fail;have hlone:=Lone.of (M:=(w.alloc (.cells #[.int .i64 1,.string s,.int .i64 num] 197)).heap.size) HM.out.rows (Nat.le_refl _) (fun k hk=>(hy.lt k hk).1);refine (push_any M2 (hy.low (by have:=x0.size;simp;omega)) hlone (by omega)).mono ?_;rintro e w3 ⟨rfl,⟨sv3,M3⟩,st3,fr3⟩;have SC3:=CMx_of HM.out M3 ((fr3 w.heap.size (by have:=X2.size;omega) (by omega) (fun e=>by have:=(hsv _ e).2;omega)).trans (X2.block hxb));go_wp2_with fail;refine hK _ _ (.inr (SC3)) ?_;clear hK K;refine wpStagesS_nil ?_;go_wp2
 go_end0
 exact ⟨rfl,⟨sv3,_,M3⟩,((x0.trans X2).step hlw).trans st3⟩
theorem exec2 {lo lo2:Nat} {w:World} {mb n m:Nat} {pu tu:Value} {f:Nat→Int} {tm:Int} {t:Tex} {sv lv:Value} {vs us:List Value} {S L:List (List Int)} (M:Mach lo lo2 w mb n pu tu tm t.log sv lv vs us S L) (G:GridIn lo w n m pu tu f tm t) (s:ByteArray) (num:Int) (hS:S.length≤1000)
  (zs:List Int) (hz:(List.range m).map (varL s.toList f tm)=zs) :
  Calls Tryz.prog 224 #[.pointer (some ⟨mb,0,none⟩),.agg #[.int .i64 2,.string s,.int .i64 num]] w fun e w'=>e = .returned (.tuple #[])∧(∃sv' vs',Mach lo lo2 w' mb n pu tu tm t.log sv' lv vs' us (S++[zs]) L)∧Step lo w w':=by
 obtain ⟨q1,q2,q3⟩:=G.hmi;have hb:=M.lt;have hvl:=M.sl;have c0:=cell_of_cells M.box 0;have c1:=cell_of_cells M.box 1;have c2:=cell_of_cells M.box 2;have c3:=cell_of_cells M.box 3;have c4:=cell_of_cells M.box 4;simp at c0 c1 c2 c3 c4;have hlw:lo≤w.heap.size:=Nat.le_trans M.hl M.hl2;have hsv:=World.ownsRow.lt M.so;have x0:Ext w (w.alloc (.cells #[.int .i64 2,.string s,.int .i64 num] 197)):=X_;have HM:=hid (M.ext x0)
 have hxb:w.heap.size<(w.alloc (.cells #[.int .i64 2,.string s,.int .i64 num] 197)).heap.size:=by simp
 replace hz:=hid hz;have HF:=hid (G.flats.ext hlw x0);have t9:=G.tm9.i64;clear M G;go_enter Tryz.func224,Tryz.ntmps224;go_wp2_with fail;refine wp_region_stagesS [([0,1,2,3,4,5,6],7),([],8)] 99 (fun w'=>∃d,w'=lowc (CMx mb w.heap.size) _ d) (by kernel_rfl) (by kernel_rfl) (SC.drew _ _) ?_;refine sc_ fun K hK=>?_;go_wp2_with fail;refine (iLoaded_any s 0 lo n m _ _ f tm _ _ (HF.out.ext (Nat.le_trans hlw x0.size) (Ext.drew (Ext.refl _))) (Nat.le_trans hlw x0.size) q1 q3 t9).mono ?_;rintro e w2 ⟨y,rfl,hy,x2⟩;rw [hz.out] at hy;obtain ⟨ya,yc,rfl,_⟩:=hy.form;have X2:Ext (w.alloc (.cells #[.int .i64 2,.string s,.int .i64 num] 197)) w2:=Ext.trans (Ext.drew (Ext.refl _)) x2;have M2:=HM.out.ext X2;have SC2:=CMx_of HM.out M2 (X2.block hxb);go_wp2_with fail;refine hK _ _ (.inr (SC2)) ?_;clear hK K;refine sc_ fun K hK=>?_;go_wp2_with fail;have hlone:=Lone.of (M:=(w.alloc (.cells #[.int .i64 2,.string s,.int .i64 num] 197)).heap.size) HM.out.rows (Nat.le_refl _) (fun k hk=>(hy.lt k hk).1);refine (push_any M2 (hy.low (by have:=x0.size;simp;omega)) hlone (by omega)).mono ?_;rintro e w3 ⟨rfl,⟨sv3,M3⟩,st3,fr3⟩;have SC3:=CMx_of HM.out M3 ((fr3 w.heap.size (by have:=X2.size;omega) (by omega) (fun e=>by have:=(hsv _ e).2;omega)).trans (X2.block hxb));go_wp2_with fail;refine hK _ _ (.inr (SC3)) ?_;clear hK K;refine wpStagesS_nil ?_;go_wp2
 go_end0
 exact ⟨rfl,⟨sv3,_,M3⟩,((x0.trans X2).step hlw).trans st3⟩
theorem exec7 {lo lo2:Nat} {w:World} {mb n m:Nat} {pu tu:Value} {f:Nat→Int} {tm:Int} {t:Tex} {sv lv:Value} {vs us:List Value} {S L:List (List Int)} (M:Mach lo lo2 w mb n pu tu tm t.log sv lv vs us S L) (G:GridIn lo w n m pu tu f tm t) (s:ByteArray) (num:Int) (hS:S.length≤1000)
  (zs:List Int) (p q:Nat) (hp:arity s=p) (hp1:1≤p) (hq:q+p=S.length) (hg:∀r∈S,good m r) (hz:callRow n m t s.toList (S.drop q)=zs) :
  Calls Tryz.prog 224 #[.pointer (some ⟨mb,0,none⟩),.agg #[.int .i64 7,.string s,.int .i64 num]] w fun e w'=>e = .returned (.tuple #[])∧(∃sv' vs',Mach lo lo2 w' mb n pu tu tm t.log sv' lv vs' us (S.take q++[zs]) L)∧Step lo w w':=by
 obtain ⟨q1,q2,q3⟩:=G.hmi;have hb:=M.lt;have hvl:=M.sl;have c0:=cell_of_cells M.box 0;have c1:=cell_of_cells M.box 1;have c2:=cell_of_cells M.box 2;have c3:=cell_of_cells M.box 3;have c4:=cell_of_cells M.box 4;simp at c0 c1 c2 c3 c4;have hlw:lo≤w.heap.size:=Nat.le_trans M.hl M.hl2;have hsv:=World.ownsRow.lt M.so;have x0:Ext w (w.alloc (.cells #[.int .i64 7,.string s,.int .i64 num] 197)):=X_;have HM:=hid (M.ext x0)
 have hxb:w.heap.size<(w.alloc (.cells #[.int .i64 7,.string s,.int .i64 num] 197)).heap.size:=by simp
 replace hz:=hid hz;have HG:=hid (G.step (x0.step hlw).below);have hg2:∀r∈S.drop q,good m r:=fun r hr=>hg r (List.mem_of_mem_drop hr)
 have hdl:(S.drop q).length=p:=by simp;omega
 replace hp:=hid hp;replace hg:=hid hg;replace hg2:=hid hg2;replace hdl:=hid hdl;clear M G;go_enter Tryz.func224,Tryz.ntmps224;go_wp2_with fail;refine wp_region_stagesS [([0,1,2,3,4,5,6,7,8,9],10),([],11),([],12),([],13)] 99 (fun w'=>∃d,w'=lowc (CMx mb w.heap.size) _ d) (by kernel_rfl) (by kernel_rfl) (SC.drew _ _) ?_;refine sc_ fun K hK=>?_;go_wp2_with fail;refine (iArity_val hp.out _).mono ?_;rintro e w1 ⟨rfl,rfl⟩;have X1:Ext (w.alloc (.cells #[.int .i64 7,.string s,.int .i64 num] 197)) (w.alloc (.cells #[.int .i64 7,.string s,.int .i64 num] 197)).drew:=Ext.drew (Ext.refl _);have M1:=HM.out.ext X1;have SC1:=CMx_of HM.out M1 (X1.block hxb);go_wp2_with fail;refine hK _ _ (.inr (SC1)) ?_;clear hK K;refine sc_ fun K hK=>?_;go_wp2_with fail;refine (pop_any M1 p q hp1 (by omega) (by omega)).mono ?_;rintro e w2 ⟨r,rfl,hr,⟨sv2,M2,hsv2⟩,st2,fr2⟩;obtain ⟨ra,rc,rfl⟩:=ownsRow.form hr;have SC2:=CMx_of HM.out M2 ((fr2 w.heap.size (by have:=X1.size;omega) (by omega)).trans (X1.block hxb));have HR:=hid hr;go_wp2_with fail;refine hK _ _ (.inr (SC2)) ?_;clear hK K;refine sc_ fun K hK=>?_;go_wp2_with fail;have G2:=HG.out.step ((X1.step (by simp;omega)).trans st2).below;have hs2:=st2.size;have hs1:=X1.size;have hs0:=x0.size
 have hSS:SS 0 w2.heap.size w2 (.slice ra p rc) (S.drop q):=by
  have hrw:=((Rws.left M1.sl M1.rows).drop q).keepI st2.keep;exact ownsRow.ss HR.out hrw
 refine (iCalled_any s (S.drop q) 0 w2.heap.size 0 lo n m _ _ _ tm t w2 (by rw [hp.out];omega) (by rw [hdl.out,hp.out]) G2.ok hSS (Nat.le_refl _) G2.tex (by omega) hg2.out G2.hm G2.h1 G2.h8).mono ?_;rintro e w3 ⟨y,rfl,hy,x3⟩;rw [hz.out] at hy;obtain ⟨ya,yc,rfl,_⟩:=hy.form;have M3:=M2.ext x3;have f2:=(fr2 w.heap.size (by omega) (by omega)).trans (X1.block hxb);have f3:=(x3.block (by omega)).trans f2;have SC3:=CMx_of HM.out M3 f3;go_wp2_with fail;refine hK _ _ (.inr (SC3)) ?_;clear hK K;refine sc_ fun K hK=>?_;go_wp2_with fail;have hlone:=Lone.of (M:=w2.heap.size) M2.rows (Nat.le_refl _) (fun k hk=>(hy.lt k hk).1);refine (push_any M3 (hy.low (by omega)) hlone (by simp;omega)).mono ?_;rintro e w4 ⟨rfl,⟨sv4,M4⟩,st4,fr4⟩;have hs3:=x3.size;have SC4:=CMx_of HM.out M4 ((fr4 w.heap.size (by omega) (by omega) (fun e=>by have:=(hsv _ (hsv2▸e)).2;omega)).trans f3);go_wp2_with fail;refine hK _ _ (.inr (SC4)) ?_;clear hK K;refine wpStagesS_nil ?_;go_wp2
 go_end0
 exact ⟨rfl,⟨sv4,_,M4⟩,(((x0.trans X1).step hlw).trans st2).trans ((x3.step (by omega)).trans st4)⟩
def CMl (mb xb lb:Nat):Addr→Prop:=fun a=>a.block=lb∨CMx mb xb a
@[go_sem] theorem CMl_l (mb xb lb o:Nat):CMl mb xb lb ⟨lb,o,none⟩:=.inl rfl
@[go_sem] theorem CMl_x (mb xb lb o:Nat):CMl mb xb lb ⟨xb,o,none⟩:=.inr (CMx_x _ _ _)
@[go_sem] theorem CMl_6 (mb xb lb:Nat):CMl mb xb lb ⟨mb,6,none⟩:=.inr (CMx_6 _ _)
theorem CMl_of {mb xb lb:Nat} {w w':World} (h:SC (CMx mb xb) w w') (hl:w'.heap[lb]?=w.heap[lb]?):SC (CMl mb xb lb) w w':=SC.of fun a ha=>by
 rcases ha with ha|ha
 ·have h:w'.heap[a.block]?=w.heap[a.block]?:=by rw [ha];exact hl
  exact ⟨World.cell?_of_block h,World.frozen?_of_block h⟩
 ·exact h.get a ha
theorem exec3 {lo lo2:Nat} {w:World} {mb n m:Nat} {pu tu:Value} {tm lg:Int} {sv lv:Value} {vs us:List Value} {S L:List (List Int)} (M:Mach lo lo2 w mb n pu tu tm lg sv lv vs us S L) (s:ByteArray) (j:Nat) (xs:List Int) (hx:L[j]?=some xs) (h1:1≤xs.length) (h2:xs.length≤64) (hS:S.length≤1000) :
  Calls Tryz.prog 224 #[.pointer (some ⟨mb,0,none⟩),.agg #[.int .i64 3,.string s,.int .i64 j]] w fun e w'=>e = .returned (.tuple #[])∧(∃sv' vs',Mach lo lo2 w' mb n pu tu tm lg sv' lv vs' us (S++[xs]) L)∧Step lo w w':=by
 have hR:=Rws.right M.sl M.rows;have hjL:=(List.getElem?_eq_some_iff.1 hx).1;have hul:=hR.len
 have hju:j<us.length:=by omega
 obtain ⟨v,hv⟩:∃v,us[j]?=some v:=⟨us[j],by simp [hju]⟩
 have hown:=hR.own j v xs hv hx;obtain ⟨va,vc,rfl,_⟩:=hown.form;obtain ⟨lb,lc,rfl,hlb1,hlb2⟩:=ownsRow.form1 M.lo' (by omega);obtain ⟨k1,k2⟩:=ownsRow.caps M.lo';have hbl:=M.sep lb rfl;have hvl:=M.sl;have hb:=M.lt;have c6:=cell_of_cells M.box 6;simp at c6;have r0:=World.ownsRow.cellAt M.lo' j (by omega);rw [hv] at r0;have hlw:lo≤w.heap.size:=Nat.le_trans M.hl M.hl2;have hsv:=World.ownsRow.lt M.so;have hsl:=M.so
 have hbm:lb≠mb:=fun e=>by
  have:=ownsRow.not M.lo' M.box (by decide);exact this (by rw [←e];rfl)
 have x0:Ext w (w.alloc (.cells #[.int .i64 3,.string s,.int .i64 j] 197)):=X_;have HM:=hid (M.ext x0);have HO:=hid (hown.ints.ext (Nat.le_refl _) x0)
 have hxb:w.heap.size<(w.alloc (.cells #[.int .i64 3,.string s,.int .i64 j] 197)).heap.size:=by simp
 have hlo2:=M.hl2;clear M hown hv hx hR hsl;go_enter Tryz.func224,Tryz.ntmps224;go_wp2_with fail;refine wp_region_stagesS [([0,1,2,3,4,5,6,7,8],9),([],10)] 99 (fun w'=>∃d,w'=lowc (CMl mb w.heap.size lb) _ d) (by kernel_rfl) (by kernel_rfl) (SC.drew _ _) ?_;refine sc_ fun K hK=>?_;go_wp2_with fail;refine (cloneInts2_any lo w.heap.size _ xs _ (HO.out.ext (Nat.le_of_lt hxb) (Ext.drew (Ext.refl _))) (Nat.le_of_lt hxb) h1 (by omega)).mono ?_;rintro e w2 ⟨y,rfl,hy,x2⟩;obtain ⟨ya,yc,rfl,_⟩:=hy.form;have X2:Ext (w.alloc (.cells #[.int .i64 3,.string s,.int .i64 j] 197)) w2:=Ext.trans (Ext.drew (Ext.refl _)) x2;have M2:=HM.out.ext X2;have SC2:=CMl_of (CMx_of HM.out M2 (X2.block hxb)) (X2.block (k:=lb) (by omega));go_wp2_with fail;refine hK _ _ (.inr (SC2)) ?_;clear hK K;refine sc_ fun K hK=>?_;go_wp2_with fail;have hlone:=Lone.of (M:=(w.alloc (.cells #[.int .i64 3,.string s,.int .i64 j] 197)).heap.size) HM.out.rows (Nat.le_refl _) (fun k hk=>(hy.lt k hk).1);refine (push_any M2 (hy.low (by have:=x0.size;simp;omega)) hlone (by omega)).mono ?_;rintro e w3 ⟨rfl,⟨sv3,M3⟩,st3,fr3⟩;have hz2:=X2.size;have SC3:=CMl_of (CMx_of HM.out M3 ((fr3 w.heap.size (by omega) (by omega) (fun e=>by have:=(hsv _ e).2;omega)).trans (X2.block hxb))) ((fr3 lb (by omega) hbm (fun e=>by have:=(hsv _ e).1;omega)).trans (X2.block (k:=lb) (by omega)));go_wp2_with fail;refine hK _ _ (.inr (SC3)) ?_;clear hK K;refine wpStagesS_nil ?_;go_wp2
 go_end0
 exact ⟨rfl,⟨sv3,_,M3⟩,((x0.trans X2).step hlw).trans st3⟩
theorem exec5 {lo lo2:Nat} {w:World} {mb n m:Nat} {pu tu:Value} {tm lg:Int} {sv lv:Value} {vs us:List Value} {S L:List (List Int)} (M:Mach lo lo2 w mb n pu tu tm lg sv lv vs us S L) (s:ByteArray) (q:Nat) (op:Int) (hop:opsOk op) (hq:q+1=S.length) (hS:S.length≤1000) (hg:∀r∈S,good m r) (hm:m≤64) :
  Calls Tryz.prog 224 #[.pointer (some ⟨mb,0,none⟩),.agg #[.int .i64 5,.string s,.int .i64 op]] w fun e w'=>e = .returned (.tuple #[])∧(∃sv' vs',Mach lo lo2 w' mb n pu tu tm lg sv' lv vs' us (S.take q++[List.zipWith (arithI op) (S.getD q []) (S.getD q [])]) L)∧Step lo w w':=by
 have hlw:lo≤w.heap.size:=Nat.le_trans M.hl M.hl2;have x0:Ext w (w.alloc (.cells #[.int .i64 5,.string s,.int .i64 op] 197)):=X_;have HC:=hid (unary_any (M.ext x0) q m op hop hq hS hg hm);clear M hop hq;go_enter Tryz.func224,Tryz.ntmps224;go_wp2_with fail;refine HC.out.mono ?_;rintro e w2 ⟨rfl,h1,h2⟩;go_wp2
 go_end0
 exact ⟨rfl,h1,(x0.step hlw).trans h2⟩
theorem exec6 {lo lo2:Nat} {w:World} {mb n m:Nat} {pu tu:Value} {tm lg:Int} {sv lv:Value} {vs us:List Value} {S L:List (List Int)} (M:Mach lo lo2 w mb n pu tu tm lg sv lv vs us S L) (s:ByteArray) (q:Nat) (op:Int) (hop:opsOk op) (hq:q+2=S.length) (hS:S.length≤1000) (hg:∀r∈S,good m r) (hm:m≤64) :
  Calls Tryz.prog 224 #[.pointer (some ⟨mb,0,none⟩),.agg #[.int .i64 6,.string s,.int .i64 op]] w fun e w'=>e = .returned (.tuple #[])∧(∃sv' vs',Mach lo lo2 w' mb n pu tu tm lg sv' lv vs' us (S.take q++[List.zipWith (arithI op) (S.getD q []) (S.getD (q+1) [])]) L)∧Step lo w w':=by
 have hlw:lo≤w.heap.size:=Nat.le_trans M.hl M.hl2;have x0:Ext w (w.alloc (.cells #[.int .i64 6,.string s,.int .i64 op] 197)):=X_;have HC:=hid (binary_any (M.ext x0) q m op hop hq hS hg hm);clear M hop hq;go_enter Tryz.func224,Tryz.ntmps224;go_wp2_with fail;refine HC.out.mono ?_;rintro e w2 ⟨rfl,h1,h2⟩;go_wp2
 go_end0
 exact ⟨rfl,h1,(x0.step hlw).trans h2⟩
theorem exec4 {lo lo2:Nat} {w:World} {mb n:Nat} {pu tu:Value} {tm lg:Int} {sv lv:Value} {vs us:List Value} {S L:List (List Int)} (M:Mach lo lo2 w mb n pu tu tm lg sv lv vs us S L) (s:ByteArray) (j q:Nat) (hj:j<L.length) (hq:q+1=S.length) (hS:S.length≤1000) (hne:∀r∈S,r≠[]) :
  Calls Tryz.prog 224 #[.pointer (some ⟨mb,0,none⟩),.agg #[.int .i64 4,.string s,.int .i64 j]] w fun e w'=>e = .returned (.tuple #[])∧(∃sv' vs' us',Mach lo lo2 w' mb n pu tu tm lg sv' lv vs' us' (S.take q) (L.set j (S.getD q [])))∧Step lo w w':=by
 have hR:=Rws.right M.sl M.rows;have hul:=hR.len
 have hju:j<us.length:=by omega
 have hvl:=M.sl;obtain ⟨x,hx1,hx2⟩:=snoc_drop vs q (by omega);obtain ⟨xs,hs1,hs2⟩:=snoc_drop S q hq;have hRl:=Rws.left M.sl M.rows
 have hown:OwnInts lo w x xs:=by
  have:=(hRl.drop q).own 0 x xs (by rw [hx1];rfl) (by rw [hs1];rfl);exact this
 have hnx:xs≠[]:=hne xs (List.mem_of_mem_drop (by rw [hs1];exact List.mem_singleton.2 rfl))
 have hxs:S.getD q []=xs:=by
  have h1:S[q]?=(S.drop q)[0]?:=by rw [List.getElem?_drop,Nat.add_zero]
  rw [List.getD,h1,hs1]
  rfl
 rw [hxs];obtain ⟨xa,xc,rfl,_⟩:=hown.form;obtain ⟨lb,lc,rfl,hlb1,hlb2⟩:=ownsRow.form1 M.lo' (by omega);obtain ⟨k1,k2⟩:=ownsRow.caps M.lo';have hbl:=M.sep lb rfl;have hb:=M.lt;have c6:=cell_of_cells M.box 6;simp at c6;have hlw:lo≤w.heap.size:=Nat.le_trans M.hl M.hl2;have hsv:=World.ownsRow.lt M.so;have hlo2:=M.hl2
 have hapt:Apt ((vs.take q++[.slice xa xs.length xc])++us):=by rw [←hx2];exact M.apt
 have x0:Ext w (w.alloc (.cells #[.int .i64 4,.string s,.int .i64 j] 197)):=X_;have HM:=hid (M.ext x0);have HO:=hid hown;have HA:=hid hapt
 have hxb:w.heap.size<(w.alloc (.cells #[.int .i64 4,.string s,.int .i64 j] 197)).heap.size:=by simp
 replace hx1:=hid hx1;clear M hown hR hRl hapt hx2 hs1 hs2 hxs;go_enter Tryz.func224,Tryz.ntmps224;go_wp2_with fail;refine wp_region_stagesS [([0,1,2,3,4,5,6],7),([],8),([],9),([],10),([],11)] 11 (fun w'=>∃d,w'=lowc (CMx mb w.heap.size) _ d) (by kernel_rfl) (by kernel_rfl) (SC.drew _ _) ?_;refine sc_ fun K hK=>?_;go_wp2_with fail;have X1:Ext (w.alloc (.cells #[.int .i64 4,.string s,.int .i64 j] 197)) (w.alloc (.cells #[.int .i64 4,.string s,.int .i64 j] 197)).drew:=Ext.drew (Ext.refl _);have M1:=HM.out.ext X1;refine (pop_any M1 1 q (Nat.le_refl _) (by omega) (by omega)).mono ?_;rintro e w2 ⟨r,rfl,hr,⟨sv2,M2,hsv2⟩,st2,fr2⟩;obtain ⟨rb,rc,rfl,hrb1,hrb2⟩:=ownsRow.form1 hr (Nat.le_refl _);rw [hx1.out] at hr;have r0:=World.ownsRow.cellAt hr 0 (by omega);simp at r0;have SC2:=CMx_of HM.out M2 ((fr2 w.heap.size (by have:=X1.size;omega) (by omega)).trans (X1.block hxb));have hlt2:=(World.ownsRow.lt M2.lo' lb rfl).2
 obtain ⟨y0,hy0⟩:∃y,us[j]?=some y:=⟨us[j],by simp [hju]⟩
 have t0:=World.ownsRow.cellAt M2.lo' j (by omega);rw [hy0] at t0;have t1:=World.ownsRow.frozenAt M2.lo' j;have HM2:=hid M2;have HST:=hid st2;have HX:=hid (HO.out.keepI ((x0.trans X1).keepI.trans st2.keep));clear M2 hr st2 fr2 hy0;go_wp2_with fail;refine hK _ _ (.inr (SC2)) ?_;clear hK K;refine sc_ fun K hK=>?_;go_wp2_with fail;go_wp2_with fail;refine hK _ _ (.inr (SC2)) ?_;clear hK K;refine sc_ fun K hK=>?_;go_wp2_with fail;go_wp2_with fail;refine hK _ _ (.inr (SC2)) ?_;clear hK K;refine sc_ fun K hK=>?_;go_wp2_with fail;go_wp2_with fail;refine hK _ _ (.inr (SC2)) ?_;clear hK K;refine sc_ fun K hK=>?_;go_wp2_with fail;go_wp2_with fail;refine hK _ _ (.inl (by trivial)) ?_;clear hK K;refine wpStagesS_nil ?_;go_wp2
 go_end0
 have M2:=HM2.out;have hsto:=World.ownsRow.stored M2.lo' j (.slice xa xs.length xc);have hbm:lb≠mb:=fun e=>ownsRow.not M2.lo' M2.box (by decide) (by rw [←e];rfl);have kk:KeepI w2 (w2.setCell ⟨lb,j,none⟩ (.slice xa xs.length xc)):=KeepI.setCell _ (fun cur fr=>ownsRow.int M2.lo' (by decide) lb cur fr rfl);have hsl2:=World.ownsRow.lt M2.so
 have hl2:(us.set j (.slice xa xs.length xc)).length=us.length:=by simp
 refine ⟨rfl,⟨sv2,vs.take q,us.set j (.slice xa xs.length xc),⟨?_,M2.low,?_,?_,M2.sep,M2.hl,by have:=M2.hl2;simpa using this,M2.sl,?_,HA.out.store j,M2.nls.set j hnx⟩⟩,(((x0.trans X1).step hlw).trans HST.out).trans ⟨Below.setCell (Below.refl _ _) hlb1 _,kk⟩⟩
 ·exact (Below.heap_setCell _ _ _ _ (fun e=>hbm e.symm)).trans M2.box
 ·refine M2.so.kept hsto.2 ?_
  cases hk:sv2.ownBlock with
  | none=>exact .inl rfl
  | some k=>exact .inr (fun e=>by have:=(hsl2 k hk).1;injection e with e;omega)
 ·rw [hl2]
  exact hsto.1
 ·exact (Rws.left M2.sl M2.rows).keepI kk |>.app (((Rws.right M2.sl M2.rows).keepI kk).set j (HX.out.keepI kk))
def rowI (n m:Nat) (f:Nat→Int) (tm:Int) (t:Tex) (op:Int) (s:ByteArray) (num:Int) (args L:List (List Int)):List Int:=
 if op=1 then List.replicate m num else if op=2 then (List.range m).map (varL s.toList f tm) else if op=3 then L.getD num.toNat [] else if op=5 then List.zipWith (arithI num) (args.getD 0 []) (args.getD 0 [])
 else if op=6 then List.zipWith (arithI num) (args.getD 0 []) (args.getD 1 []) else callRow n m t s.toList args
def cutI (op:Int) (s:ByteArray) (S:List (List Int)):Nat:=S.length - (popsI op s).toNat
def nextS (n m:Nat) (f:Nat→Int) (tm:Int) (t:Tex) (x:Ins) (S L:List (List Int)):List (List Int):=
 if x.op=4 then S.take (cutI x.op x.name S) else S.take (cutI x.op x.name S)++[rowI n m f tm t x.op x.name x.num (S.drop (cutI x.op x.name S)) L]
def nextL (x:Ins) (S L:List (List Int)):List (List Int):=if x.op=4 then L.set x.num.toNat (S.getD (cutI x.op x.name S) []) else L
def runG (n m:Nat) (f:Nat→Int) (tm:Int) (t:Tex):List Ins→List (List Int)→List (List Int)→List (List Int)
 | [],_,L=>L
 | x::r,S,L=>runG n m f tm t r (nextS n m f tm t x S L) (nextL x S L)
theorem zip_good {m:Nat} {op:Int} {a b:List Int} (ha:a.length=m) (hb:b.length=m):good m (List.zipWith (arithI op) a b):=by
 refine ⟨by simp;omega,fun x hx=>?_⟩;obtain ⟨i,hi,rfl⟩:=List.getElem_of_mem hx;simp;exact satI_S9 _
theorem varL_S9 {f:Nat→Int} {tm:Int} {m q:Nat} (l:List UInt8) (hf:∀i,i<m*5→S9 (f i)) (ht:S9 tm) (hq:q<m):S9 (varL l f tm q):=by
 unfold varL
 split
 ·exact hf _ (by omega)
 split
 ·exact hf _ (by omega)
 split
 ·exact hf _ (by omega)
 split
 ·exact hf _ (by omega)
 split
 ·exact hf _ (by omega)
 ·exact ht
theorem call_good {n m:Nat} (hm:n*n=m) (t:Tex) (l:List UInt8) (S:List (List Int)):good m (callRow n m t l S):=by
 have hd:∀xs rows,good m (diffs xs n rows):=fun xs rows=>⟨by rw [diffs_length,hm],fun x hx=>by
  obtain ⟨i,hi,rfl⟩:=List.getElem_of_mem hx;rw [diffs_at]
  exact dVal_i64 _ _ _ _⟩
 unfold callRow
 split
 ·exact hd _ _
 split
 ·exact hd _ _
 ·refine ⟨by simp,fun x hx=>?_⟩
  obtain ⟨i,hi,rfl⟩:=List.mem_map.1 hx;exact satI_S9 _
structure Okst (L0 m:Nat) (xs:List Ins) (S L:List (List Int)):Prop where
 run:∃d st,(runD L0 xs S.length d st).isSome=true∧∀j r,L[j]?=some r→(st j=true∧good m r)∨(st j=false∧r=[])
 len:L.length=L0
 rows:∀r∈S,good m r
theorem Okst.wf {L0 m:Nat} {x:Ins} {r:List Ins} {S L:List (List Int)} (h:Okst L0 m (x::r) S L):wfI x.op x.name x.num L0=true:=by
 obtain ⟨d,st,h1,_⟩:=h.run;exact runD_wf _ _ _ _ h1 x (List.mem_cons_self)
theorem Okst.pops {L0 m:Nat} {x:Ins} {r:List Ins} {S L:List (List Int)} (h:Okst L0 m (x::r) S L):∃p:Nat,popsI x.op x.name=p∧cutI x.op x.name S+p=S.length:=by
 obtain ⟨d,st,h1,_⟩:=h.run;have hb:=pops_bd h.wf;unfold runD at h1
 split at h1
 ·rename_i hc
  refine ⟨(popsI x.op x.name).toNat,by omega,?_⟩;unfold cutI;omega
 ·simp at h1
theorem Okst.local {L0 m:Nat} {x:Ins} {r:List Ins} {S L:List (List Int)} (h:Okst L0 m (x::r) S L) (h3:x.op=3):∃xs,L[x.num.toNat]?=some xs∧good m xs:=by
 obtain ⟨d,st,h1,h2⟩:=h.run;obtain ⟨j,hj,hjL⟩:=wf_at h.wf (.inl h3);unfold runD at h1
 split at h1
 ·rename_i hc
  have hs:=hc.2.1 h3;rw [hj] at hs ⊢;simp only [Int.toNat_natCast] at hs ⊢;have hl:=h.len
  have hx:L[j]?=some (L[j]'(by omega)):=by simp [show j<L.length by omega]
  rcases h2 j _ hx with h4|h4
  ·exact ⟨_,hx,h4.2⟩
  ·rw [hs] at h4;cases h4.1
 ·simp at h1
theorem Okst.next {L0 n m:Nat} {f:Nat→Int} {tm:Int} {t:Tex} {x:Ins} {r:List Ins} {S L:List (List Int)} (h:Okst L0 m (x::r) S L) (hm:n*n=m) (hn:numB x=true) (hf:∀i,i<m*5→S9 (f i)) (ht:S9 tm):Okst L0 m r (nextS n m f tm t x S L) (nextL x S L):=by
 obtain ⟨p,hp,hc⟩:=h.pops;have hwf:=h.wf;have hloc:=h.local;have hrows:=h.rows;obtain ⟨d,st,h1,h2⟩:=h.run;have hlen:=h.len;have hd:∀y∈S.drop (cutI x.op x.name S),good m y:=fun y hy=>hrows y (List.mem_of_mem_drop hy);have htk:∀y∈S.take (cutI x.op x.name S),good m y:=fun y hy=>hrows y (List.mem_of_mem_take hy)
 have hdl:(S.drop (cutI x.op x.name S)).length=p:=by simp;omega
 have hga:∀i,i<p→good m ((S.drop (cutI x.op x.name S)).getD i []):=fun i hi=>by
  have e:(S.drop (cutI x.op x.name S)).getD i []=(S.drop (cutI x.op x.name S))[i]'(by omega):=by rw [List.getD,List.getElem?_eq_getElem (show i<(S.drop (cutI x.op x.name S)).length by omega)];rfl
  rw [e];exact hd _ (List.getElem_mem _)
 unfold runD at h1
 split at h1
 case isFalse=>simp at h1
 rename_i hcond;generalize (if (S.length:Int) - popsI x.op x.name+pushI x.op > d then (S.length:Int) - popsI x.op x.name+pushI x.op else d)=d2 at h1
 by_cases h4:x.op=4
 ·have hp1:p=1:=by
   rw [h4] at hp;have:popsI 4 x.name=1:=rfl;omega
  have hq0:pushI x.op=0:=by rw [h4];rfl
  obtain ⟨j,hj,hjL⟩:=wf_at hwf (.inr h4);refine ⟨⟨d2,markSt x.op x.num st,?_,?_⟩,?_,?_⟩
  ·unfold nextS
   rw [if_pos h4,List.length_take,Nat.min_eq_left (by omega)]
   have e:((S.length:Int) - popsI x.op x.name+pushI x.op)=(cutI x.op x.name S:Nat):=by rw [hp,hq0];omega
   rw [e] at h1;exact h1
  ·intro i y hy
   unfold nextL at hy;rw [if_pos h4,hj,Int.toNat_natCast] at hy;unfold markSt;rw [if_pos h4,hj,Int.toNat_natCast];rw [List.getElem?_set] at hy
   by_cases hij:j=i
   ·subst hij
    rw [if_pos rfl,if_pos (by omega)] at hy;injection hy with hy;subst hy;refine .inl ⟨by simp,?_⟩;have:=hga 0 (by omega);rw [List.getD,List.getElem?_drop,Nat.add_zero] at this;exact this
   ·rw [if_neg hij] at hy
    have:=h2 i y hy;rw [if_neg (fun e=>hij e.symm)];exact this
  ·unfold nextL
   rw [if_pos h4,List.length_set];exact hlen
  ·intro y hy
   unfold nextS at hy;rw [if_pos h4] at hy;exact htk y hy
 ·have hq1:pushI x.op=1:=by unfold pushI;rw [if_neg h4]
  have hmk:markSt x.op x.num st=st:=by unfold markSt;rw [if_neg h4]
  have hL:nextL x S L=L:=by unfold nextL;rw [if_neg h4]
  have hrow:good m (rowI n m f tm t x.op x.name x.num (S.drop (cutI x.op x.name S)) L):=by
   unfold rowI
   split
   ·have hb:=inB_iff.1 (show inB x.num (-1000000000) 1000000000=true from hn)
    refine ⟨by simp,fun y hy=>?_⟩;rw [List.eq_of_mem_replicate hy];exact hb
   split
   ·refine ⟨by simp,fun y hy=>?_⟩
    obtain ⟨i,hi,rfl⟩:=List.mem_map.1 hy;exact varL_S9 _ hf ht (List.mem_range.1 hi)
   split
   ·rename_i h3
    obtain ⟨xs,hx,hg⟩:=hloc h3;rw [List.getD,hx];exact hg
   split
   ·rename_i h5
    have hp5:p=1:=by
     rw [h5] at hp;have:popsI 5 x.name=1:=rfl;omega
    exact zip_good (hga 0 (by omega)).1 (hga 0 (by omega)).1
   split
   ·rename_i h6
    have hp6:p=2:=by
     rw [h6] at hp;have:popsI 6 x.name=2:=rfl;omega
    exact zip_good (hga 0 (by omega)).1 (hga 1 (by omega)).1
   ·exact call_good hm t _ _
  refine ⟨⟨d2,st,?_,?_⟩,by rw [hL];exact hlen,?_⟩
  ·unfold nextS
   rw [if_neg h4,List.length_append,List.length_take,Nat.min_eq_left (by omega),List.length_singleton];rw [hmk] at h1
   have e:((S.length:Int) - popsI x.op x.name+pushI x.op)=((cutI x.op x.name S+1:Nat):Int):=by rw [hp,hq1];omega
   rw [e] at h1;exact h1
  ·rw [hL]
   exact h2
  ·intro y hy
   unfold nextS at hy;rw [if_neg h4] at hy
   rcases List.mem_append.1 hy with hy|hy
   ·exact htk y hy
   ·simp at hy
    subst hy;exact hrow
theorem opsOk_of {num:Int} (h:inB num 4 7=true):opsOk num:=by
 have:=inB_iff.1 h;unfold opsOk;omega
theorem execute_any {lo lo2:Nat} {w:World} {mb n m:Nat} {pu tu:Value} {f:Nat→Int} {tm:Int} {t:Tex} {sv lv:Value} {vs us:List Value} {S L:List (List Int)} {x:Ins} {r:List Ins} {L0:Nat} (M:Mach lo lo2 w mb n pu tu tm t.log sv lv vs us S L) (G:GridIn lo w n m pu tu f tm t) (ok:Okst L0 m (x::r) S L) (hn:numB x=true) (hS:S.length≤1000) :
  Calls Tryz.prog 224 #[.pointer (some ⟨mb,0,none⟩),.agg #[.int .i64 x.op,.string x.name,.int .i64 x.num]] w fun e w'=>e = .returned (.tuple #[])∧(∃sv' vs' us',Mach lo lo2 w' mb n pu tu tm t.log sv' lv vs' us' (nextS n m f tm t x S L) (nextL x S L))∧Step lo w w':=by
 have hwf:=ok.wf;obtain ⟨p,hp,hc⟩:=ok.pops;obtain ⟨q1,q2,q3⟩:=G.hmi;have hloc:=ok.local;have hrows:=ok.rows;have hlen:=ok.len;clear ok;obtain ⟨op,s,num⟩:=x;simp only at hwf hp hc hloc ⊢
 have hop:1≤op∧op≤7:=by
  by_cases h:1≤op∧op≤7
  ·exact h
  ·unfold wfI at hwf
   rw [if_neg (by omega),if_neg (by omega),if_neg (by omega),if_neg (by omega),if_neg (by omega),if_neg (by omega),if_neg (by omega)] at hwf;cases hwf
 have hnum:=inB_iff.1 (show inB num (-1000000000) 1000000000=true from hn)
 have wrap:∀{e:Ending} {w':World} {S' L':List (List Int)},(nextS n m f tm t ⟨op,s,num⟩ S L=S')→(nextL ⟨op,s,num⟩ S L=L')→(e = .returned (.tuple #[])∧(∃sv' vs',Mach lo lo2 w' mb n pu tu tm t.log sv' lv vs' us S' L')∧Step lo w w')→(e = .returned (.tuple #[])∧(∃sv' vs' us',Mach lo lo2 w' mb n pu tu tm t.log sv' lv vs' us' (nextS n m f tm t ⟨op,s,num⟩ S L) (nextL ⟨op,s,num⟩ S L))∧Step lo w w'):=by
  intro e w' S' L' h1 h2 ⟨h3,⟨sv',vs',h4⟩,h5⟩;subst h1 h2;exact ⟨h3,⟨sv',vs',us,h4⟩,h5⟩
 rcases (show op=1∨op=2∨op=3∨op=4∨op=5∨op=6∨op=7 by omega) with rfl|rfl|rfl|rfl|rfl|rfl|rfl
 ·have h0:p=0:=by have:popsI 1 s=0:=rfl;omega
  refine (exec1 M G s num ⟨by omega,by omega⟩ hS _ rfl).mono fun e w' h=>wrap ?_ rfl h;unfold nextS;rw [if_neg (by simp),show cutI 1 s S=S.length by omega,List.take_length]
  rfl
 ·have h0:p=0:=by have:popsI 2 s=0:=rfl;omega
  refine (exec2 M G s num hS _ rfl).mono fun e w' h=>wrap ?_ rfl h;unfold nextS;rw [if_neg (by simp),show cutI 2 s S=S.length by omega,List.take_length]
  rfl
 ·have h0:p=0:=by have:popsI 3 s=0:=rfl;omega
  obtain ⟨j,rfl,hj⟩:=wf_at hwf (.inl rfl);obtain ⟨xs,hx,hg⟩:=hloc rfl;simp only [Int.toNat_natCast] at hx;refine (exec3 (m:=m) M s j xs hx (by rw [hg.1];omega) (by rw [hg.1];omega) hS).mono fun e w' h=>wrap ?_ rfl h;unfold nextS;rw [if_neg (by simp),show cutI 3 s S=S.length by omega,List.take_length];unfold rowI;rw [if_neg (by simp),if_neg (by simp),if_pos rfl,Int.toNat_natCast,List.getD,hx]
  rfl
 ·have h0:p=1:=by have:popsI 4 s=1:=rfl;omega
  obtain ⟨j,rfl,hj⟩:=wf_at hwf (.inr rfl);have h4:=exec4 M s j (cutI 4 s S) (by omega) (by omega) hS (fun r hr e=>by have:=(hrows r hr).1;rw [e] at this;simp at this;omega);unfold nextS nextL;rw [if_pos rfl,if_pos rfl];exact h4
 ·have h0:p=1:=by have:popsI 5 s=1:=rfl;omega
  have hn3:num=3:=by simp [wfI] at hwf;exact hwf.2
  refine (exec5 (m:=m) M s (cutI 5 s S) num (by subst hn3;unfold opsOk;omega) (by omega) hS hrows q3).mono fun e w' h=>wrap ?_ rfl h;unfold nextS;rw [if_neg (by simp)];unfold rowI;rw [if_neg (by simp),if_neg (by simp),if_neg (by simp),if_pos rfl];simp only [List.getD,List.getElem?_drop,Nat.add_zero]
 ·have h0:p=2:=by have:popsI 6 s=2:=rfl;omega
  have hn4:inB num 4 7=true:=by simp [wfI] at hwf;exact hwf.2
  refine (exec6 (m:=m) M s (cutI 6 s S) num (opsOk_of hn4) (by omega) hS hrows q3).mono fun e w' h=>wrap ?_ rfl h;unfold nextS;rw [if_neg (by simp)];unfold rowI;rw [if_neg (by simp),if_neg (by simp),if_neg (by simp),if_neg (by simp),if_pos rfl];simp only [List.getD,List.getElem?_drop,Nat.add_zero]
 ·have hp7:arity s=p:=by have:popsI 7 s=arity s:=rfl;omega
  have hab:=arity_bd s;refine (exec7 M G s num hS _ p (cutI 7 s S) hp7 (by omega) hc hrows rfl).mono fun e w' h=>wrap ?_ rfl h;unfold nextS;rw [if_neg (by simp)];unfold rowI;rw [if_neg (by simp),if_neg (by simp),if_neg (by simp),if_neg (by simp),if_neg (by simp)]
def OwnSS (lo:Nat) (w:World) (v:Value) (S:List (List Int)):Prop:=∃us,w.ownsRow lo 25 1 v us.length us∧Rws lo w us S∧Apt us∧Nls us S
def Cod.out (c:Cod) (g:Grd):List (List Int):=runG g.n.toNat g.m g.f g.tm g.t c.xs [] (List.replicate c.ls.length [])
theorem iValid_val {g:Grd} {r:Bool} (h:g.okB=r) (lo hi:Nat) (v:Value) (w:World) (hv:g.R lo hi w v) (hh:hi≤w.heap.size) :
  Calls Tryz.prog 159 #[v] w fun e w'=>e = .returned (.bool r)∧Ext w w':=h▸iIsValidGrid_any lo hi v g w hv hh
theorem sValid_val {g:Grd} {r:Bool} (h:g.okB=r) (lo hi:Nat) (v:Value) (w:World) (hv:g.R lo hi w v) (hh:hi≤w.heap.size) :
  Calls Tryz.prog 190 #[v] w fun e w'=>e = .returned (.bool r)∧Ext w w':=h▸sIsValidGrid_any lo hi v g w hv hh
theorem Grd.parts {g:Grd} (h:g.okB=true):∃n:Nat,g.n=n∧n*n=g.m∧1≤n∧n≤8∧g.t.okB=true∧S9 g.tm∧∀i,i<g.m*5→S9 (g.f i):=by
 unfold Grd.okB at h;simp only [Bool.and_eq_true,decide_eq_true_eq,List.all_eq_true,List.mem_range] at h;obtain ⟨⟨⟨⟨h1,h2⟩,h3⟩,h4⟩,h5⟩:=h;have h1:=inB_iff.1 h1;have h3:=inB_iff.1 h3
 obtain ⟨n,hn⟩:∃n:Nat,g.n=n:=⟨g.n.toNat,by omega⟩
 rw [hn] at h1 h2
 have h6:((n*n:Nat):Int)=(g.m:Int):=by rw [h2];simp
 refine ⟨n,hn,by omega,by omega,by omega,h4,⟨by omega,by omega⟩,fun i hi=>?_⟩;have h7:=h5 (i / 5) (by omega);unfold ptB ptL at h7;simp only [List.all_cons,List.all_nil,Bool.and_true,Bool.and_eq_true] at h7;obtain ⟨a0,a1,a2,a3,a4⟩:=h7
 have hi5:i=i / 5*5+i % 5:=by omega
 have hlt:i % 5<5:=Nat.mod_lt _ (by decide)
 have key:inB (g.f i) (-1000000) 1000000=true:=by
  rcases (show i % 5=0∨i % 5=1∨i % 5=2∨i % 5=3∨i % 5=4 by omega) with e|e|e|e|e <;> rw [e] at hi5 <;> rw [hi5]
  ·exact a0
  ·exact a1
  ·exact a2
  ·exact a3
  ·exact a4
 have:=inB_iff.1 key;exact ⟨by omega,by omega⟩
theorem Okst.start {c:Cod} {m:Nat} (h:c.depth.isSome=true):Okst c.ls.length m c.xs [] (List.replicate c.ls.length []):=by
 unfold Cod.depth at h
 split at h
 ·refine ⟨⟨0,fun _=>false,h,fun j r hj=>.inr ⟨rfl,?_⟩⟩,by simp,fun r hr=>by cases hr⟩
  exact List.eq_of_mem_replicate (List.mem_of_getElem? hj)
 ·simp at h
theorem Rws.nils (lo:Nat) (w:World) (k:Nat):Rws lo w (List.replicate k (.slice none 0 0)) (List.replicate k []):=by
 refine ⟨by simp,fun i v xs h1 h2=>?_⟩;rw [List.eq_of_mem_replicate (List.mem_of_getElem? h1),List.eq_of_mem_replicate (List.mem_of_getElem? h2)];exact OwnInts.nil lo w
theorem Apt.nils (k:Nat):Apt (List.replicate k (.slice none 0 0)):=by
 unfold Apt
 induction k with
 | zero=>simp
 | succ k ih=>
  rw [List.replicate_succ,List.pairwise_cons];refine ⟨fun b hb j hj=>?_,ih⟩;simp [Value.ownBlock] at hj
theorem ownsRow.fresh (w:World) (lo k:Nat) (hl:lo≤w.heap.size) (hk:k≤2000000):(w.alloc (.cells (madeCells #[.slice none 0 0] k) 25)).ownsRow lo 25 1 (.slice (some ⟨w.heap.size,0,none⟩) k k) (List.replicate k (Value.slice none 0 0)).length (List.replicate k (.slice none 0 0)):=by
 have h:=World.ownsRow_lit (size:=1) (e:=25) w (madeCells #[Value.slice none 0 0] k) k hl (by unfold maxLen;omega) (by rw [Nat.mul_one];exact size_madeCells _ _);rw [toList_madeCells_one] at h
 simpa using h
theorem iRunGrid_no (lo hi lo' hi':Nat) (v u:Value) (c:Cod) (g:Grd) (w:World) (hv:c.R lo hi w v) (hh:hi≤w.heap.size) (hu:g.R lo' hi' w u) (hh':hi'≤w.heap.size) (hL:c.ls.length≤2000000) (hno:(c.runB&&g.okB)=false) :
  Calls Tryz.prog 160 #[v,u] w fun e w'=>e = .returned (.tuple #[.slice none 0 0,.bool false])∧Ext w w':=by
 have HV:=hid hv;have HU:=hid hu;obtain ⟨a1,c1,a2,c2,rfl,-,-⟩:=hv.form;obtain ⟨pu,tu,rfl,-,-,-,-,-⟩:=hu;clear hv
 cases h1:c.runB
 ·go_enter Tryz.func160,Tryz.ntmps160
  go_wp2_with (go_at_call 223;refine (iRunnable_val h1 lo hi _ _ (HV.out.ext hh X_) (by simp;omega) hL).mono ?_;rintro e w1 ⟨rfl,x1⟩);refine bodyPost_ret (v:=.tuple #[.slice none 0 0,.bool false]) (by simp [results,Tryz.results160,go_sem]) rfl ⟨rfl,Ext.trans X_ x1⟩
 ·have h2:g.okB=false:=by rw [h1] at hno;simpa using hno
  have hbx:=hid (show ∀w1,Ext ((w.alloc (.cells #[.slice a1 c.xs.length c1,.slice a2 c.ls.length c2] 126)).alloc (.cells #[.int .i64 g.n,pu,.int .i64 g.tm,.int .i64 g.t.log,tu] 135)) w1→w.heap.size+1<w1.heap.size∧w1.cell? ⟨w.heap.size+1,0,none⟩=some (.int .i64 g.n)∧w1.cell? ⟨w.heap.size+1,1,none⟩=some pu∧w1.cell? ⟨w.heap.size+1,2,none⟩=some (.int .i64 g.tm)∧w1.cell? ⟨w.heap.size+1,3,none⟩=some (.int .i64 g.t.log)∧w1.cell? ⟨w.heap.size+1,4,none⟩=some tu from by
   intro w1 x1;have:=x1.size
   refine ⟨by simp at this;omega,?_,?_,?_,?_,?_⟩ <;> (rw [x1.cells.1 _ _ (by simp)];simp [go_sem]))
  go_enter Tryz.func160,Tryz.ntmps160;go_wp2_with (go_at_call 223;refine (iRunnable_val h1 lo hi _ _ (HV.out.ext hh X_) (by simp;omega) hL).mono ?_;rintro e w1 ⟨rfl,x1⟩;obtain ⟨d,d0,d1,d2,d3,d4⟩:=hbx.out w1 x1;have X1:Ext w w1:=Ext.trans X_ x1;clear x1);refine (iValid_val h2 lo' hi' _ _ (HU.out.ext hh' X1) (by have:=X1.size;omega)).mono ?_;rintro e w2 ⟨rfl,x2⟩;go_wp2;refine bodyPost_ret (v:=.tuple #[.slice none 0 0,.bool false]) (by simp [results,Tryz.results160,go_sem]) rfl ⟨rfl,X1.trans x2⟩
theorem iRunGrid_yes (lo hi lo' hi':Nat) (v u:Value) (c:Cod) (g:Grd) (w:World) (hv:c.R lo hi w v) (hh:hi≤w.heap.size) (hu:g.R lo' hi' w u) (hh':hi'≤w.heap.size) (hL:c.ls.length≤2000000) (hyes:(c.runB&&g.okB)=true) :
  Calls Tryz.prog 160 #[v,u] w fun e w'=>∃r,e = .returned (.tuple #[r,.bool true])∧OwnSS w.heap.size w' r (c.out g)∧Ext w w':=by
 have HV:=hid hv;have HU:=hid hu;obtain ⟨a1,c1,a2,c2,rfl,HI,-⟩:=hv.form;obtain ⟨pu,tu,rfl,-,t64,l64,hp,ht⟩:=hu;clear hv;simp only [Bool.and_eq_true] at hyes;obtain ⟨h1,h2⟩:=hyes;obtain ⟨n,hn,hnn,n1,n8,hok,htm9,hf9⟩:=Grd.parts h2
 have hdep:c.depth.isSome=true:=by unfold Cod.runB at h1;simp at h1;exact h1.1
 have hnums:∀x∈c.xs,numB x=true:=by unfold Cod.runB at h1;simp at h1;exact h1.2
 have hlen:c.xs.length≤300:=by
  unfold Cod.depth at hdep
  split at hdep
  ·assumption
  ·simp at hdep
 have hout:runG n g.m g.f g.tm g.t c.xs [] (List.replicate c.ls.length [])=c.out g:=by unfold Cod.out;rw [hn];rfl
 have HG:=hid (show GridIn w.heap.size w n g.m pu tu g.f g.tm g.t from ⟨hp.wide (Nat.zero_le _) hh',⟨tu,rfl,l64,ht.wide (Nat.zero_le _) hh'⟩,hnn,n1,n8,hok,htm9,hf9⟩);have HD:=hid hdep;have HN:=hid hnums;have HOUT:=hid hout;clear hp ht t64 l64 hnn hok htm9 hf9 hdep hnums hout;rw [hn];replace hn:=hid hn;obtain ⟨i0,hi0,hz0,hz1,hz2⟩:=info_parts info_ints
 have hbx:=hid (show ∀w1,Ext ((w.alloc (.cells #[.slice a1 c.xs.length c1,.slice a2 c.ls.length c2] 126)).alloc (.cells #[.int .i64 n,pu,.int .i64 g.tm,.int .i64 g.t.log,tu] 135)) w1→w.heap.size+1<w1.heap.size∧w1.cell? ⟨w.heap.size+1,0,none⟩=some (.int .i64 n)∧w1.cell? ⟨w.heap.size+1,1,none⟩=some pu∧w1.cell? ⟨w.heap.size+1,2,none⟩=some (.int .i64 g.tm)∧w1.cell? ⟨w.heap.size+1,3,none⟩=some (.int .i64 g.t.log)∧w1.cell? ⟨w.heap.size+1,4,none⟩=some tu∧w.heap.size<w1.heap.size∧w1.cell? ⟨w.heap.size,0,none⟩=some (.slice a1 c.xs.length c1)∧w1.cell? ⟨w.heap.size,1,none⟩=some (.slice a2 c.ls.length c2) from by
  intro w1 x1;have:=x1.size;simp at this
  refine ⟨by omega,?_,?_,?_,?_,?_,by omega,?_,?_⟩ <;> (rw [x1.cells.1 _ _ (by simp <;> omega)];simp [go_sem]))
 go_enter Tryz.func160,Tryz.ntmps160;go_wp2_with (go_at_call 223;refine (iRunnable_val h1 lo hi _ _ (HV.out.ext hh X_) (by simp;omega) hL).mono ?_;rintro e w1 ⟨rfl,x1⟩;obtain ⟨d,d0,d1,d2,d3,d4,-⟩:=hbx.out w1 x1);refine (iValid_val h2 lo' hi' _ _ (by have:=HU.out.ext hh' (Ext.trans X_ x1:Ext w w1);rw [hn.out] at this;exact this) (by have:=x1.size;simp at this;omega)).mono ?_;rintro e w2 ⟨rfl,x2⟩;clear d d0 d1 d2 d3 d4;obtain ⟨d,d0,d1,d2,d3,d4,e,e0,e1⟩:=hbx.out w2 (x1.trans x2);have X2:Ext w w2:=(Ext.trans X_ x1:Ext w w1).trans x2;clear x1 x2 hbx;have HX2:=hid X2;go_wp2_with fail;refine wp_region_stages [([0,1,2,3],4),([5],6),([],7)] 7 w2.heap.size (by kernel_rfl) (by kernel_rfl) ?_;refine wpStages_cons ?_;simp only [List.filterMap_cons,List.filterMap_nil,List.getElem?_toArray,List.getElem?_cons_zero,List.getElem?_cons_succ]
 show wpQuiet _ _ _ _ [_,_,_,_] _
 repeat (go_big_quiet_step (fail))
 refine wpQuiet_nil ⟨_,rfl,fun K hK=>?_⟩;go_wp2_with (at_make;refine wpList_make_row _ rfl _ _ 201 rfl 25 i0 (.slice none 0 0) Tryz.underlying201 hi0 hz0 hz1 rfl .i64 .i64 c.ls.length rfl rfl (by rw [hz2];omega) (by omega) ?_);go_wp2_with fail;refine hK _ _ (.inr (fun k _ hk=>Ext.block X_ (by first|omega|(simp;omega)))) ?_;clear hK K;clear hi0 hz0 hz1 hz2;refine st_ fun K hK=>?_;go_wp2_with fail;go_wp2_with fail;refine hK _ _ (.inr (fun k _ hk=>Ext.block X_ (by first|omega|(simp;omega)))) ?_;clear hK K;refine st_ fun K hK=>?_;go_wp2_with fail;go_wp2_with fail;refine hK _ _ (.inl (by trivial)) ?_;clear hK K;refine wpStages_nil ?_
 have M0:Mach w.heap.size (w2.heap.size+1) ((w2.drew.alloc (.cells (madeCells #[.slice none 0 0] c.ls.length) 25)).alloc (.cells #[.int .i64 n,pu,.int .i64 g.tm,.int .i64 g.t.log,tu,.slice none 0 0,.slice (some ⟨w2.heap.size,0,none⟩) c.ls.length c.ls.length] 304)) (w2.heap.size+1) n pu tu g.tm g.t.log (.slice none 0 0) (.slice (some ⟨w2.heap.size,0,none⟩) c.ls.length c.ls.length) [] (List.replicate c.ls.length (.slice none 0 0)) [] (List.replicate c.ls.length []):=by
  have hz:=X2.size;have hf:=ownsRow.fresh w2.drew w.heap.size c.ls.length hz hL;refine ⟨?_,by omega,World.ownsRow_nil _ _ _ _,hf.alloc _,fun k hk=>by simp [Value.ownBlock] at hk;omega,by omega,by simp,rfl,Rws.nils _ _ _,Apt.nils _,Nls.nils _⟩;have:=hnew (w2.drew.alloc (.cells (madeCells #[.slice none 0 0] c.ls.length) 25)) (.cells #[.int .i64 n,pu,.int .i64 g.tm,.int .i64 g.t.log,tu,.slice none 0 0,.slice (some ⟨w2.heap.size,0,none⟩) c.ls.length c.ls.length] 304)
  simpa using this
 have X3:Ext w ((w2.drew.alloc (.cells (madeCells #[.slice none 0 0] c.ls.length) 25)).alloc (.cells #[.int .i64 n,pu,.int .i64 g.tm,.int .i64 g.t.log,tu,.slice none 0 0,.slice (some ⟨w2.heap.size,0,none⟩) c.ls.length c.ls.length] 304)):=(X2.drew.alloc _).alloc _;have X23:Ext w2 ((w2.drew.alloc (.cells (madeCells #[.slice none 0 0] c.ls.length) 25)).alloc (.cells #[.int .i64 n,pu,.int .i64 g.tm,.int .i64 g.t.log,tu,.slice none 0 0,.slice (some ⟨w2.heap.size,0,none⟩) c.ls.length c.ls.length] 304)):=X_;have f0:=(X23.cells.1 _ 0 e).trans e0
 have f1:w.heap.size<((w2.drew.alloc (.cells (madeCells #[.slice none 0 0] c.ls.length) 25)).alloc (.cells #[.int .i64 n,pu,.int .i64 g.tm,.int .i64 g.t.log,tu,.slice none 0 0,.slice (some ⟨w2.heap.size,0,none⟩) c.ls.length c.ls.length] 304)).heap.size:=by have:=X23.size;omega
 go_wp2_with fail;have M0':=hid M0;have HX3:=hid X3;clear M0 X3 X23 f0 f1;clear d d0 d1 d2 d3 d4 e e0 e1 X2;have k1:=HI.le;have k2:=HI.cap
 go_loopw [27] (fun i wr=>∃(k:Nat) (sv:Value) (vs us:List Value) (S L:List (List Int)),k≤c.xs.length∧i = .int .i64 k∧Mach w.heap.size (w2.heap.size+1) wr (w2.heap.size+1) n pu tu g.tm g.t.log sv (.slice (some ⟨w2.heap.size,0,none⟩) c.ls.length c.ls.length) vs us S L∧Okst c.ls.length g.m (c.xs.drop k) S L∧runG n g.m g.f g.tm g.t (c.xs.drop k) S L=c.out g∧S.length≤k∧Ext w wr) (fun i _=>c.xs.length - (intOf i).toNat)
 case atStart=>exact ⟨0,_,_,_,_,_,by omega,rfl,M0'.out,by rw [List.drop_zero];exact Okst.start HD.out,by rw [List.drop_zero];exact HOUT.out,by simp,HX3.out⟩
 case round=>
  clear M0' HX3;obtain ⟨k,sv,vs,us,S,L,hk,rfl,M,ok,hrun,hSk,hx⟩:=hrel
  by_cases hlt:k<c.xs.length
  ·obtain ⟨b,off,op,s,num,rfl,hb1,hbw,hdrop,hget,io,inn,x0,x1,x2⟩:=HI.at hlt hx hh
   rw [hdrop] at ok hrun;have hnb:numB ⟨op,s,num⟩=true:=HN.out _ (List.mem_of_getElem? hget);have y0:Ext wr (wr.alloc (.cells #[.int .i64 op,.string s,.int .i64 num] 197)):=X_;have HC:=hid (execute_any (M.ext y0) (HG.out.step (hx.trans y0)) ok hnb (by omega));have HK:=hid (ok.next (t:=g.t) HG.out.hm hnb HG.out.f9 HG.out.tm9);have hpq:=ok.pops;have HR:=hid hrun;have HX:=hid (hx.trans y0);clear M ok hrun hget hdrop hx y0 hnb;go_wp2_with fail;refine HC.out.mono ?_;rintro e w7 ⟨rfl,⟨sv',vs',us',M'⟩,st⟩;have HM':=hid M';have HS':=hid st;clear M' st;go_wp2;go_roundw
   case rel=>
    refine ⟨k+1,sv',vs',us',_,_,by omega,by go_num,HM'.out,HK.out,HR.out,?_,Below.trans HX.out HS'.out.below⟩;obtain ⟨p,hp1,hp2⟩:=hpq;unfold nextS
    split
    ·rw [List.length_take];omega
    ·rw [List.length_append,List.length_take,List.length_singleton];omega
   case measure=>simp [intOf];omega
  ·obtain rfl:k=c.xs.length:=by omega
   rw [List.drop_length] at hrun;have c6:=cell_of_cells M.box 6;simp at c6;have hb:=M.lt;have hrun':L=c.out g:=hrun;have HM:=hid M;have HR:=hid hrun';clear M ok hrun hrun';go_wp2;refine bodyPost_ret (v:=.tuple #[.slice (some ⟨w2.heap.size,0,none⟩) c.ls.length c.ls.length,.bool true]) (by simp [results,Tryz.results160,go_sem]) rfl ⟨_,rfl,?_,hx⟩;rw [←HR.out];have M:=HM.out;exact ⟨us,M.lo',Rws.right M.sl M.rows,(List.pairwise_append.1 M.apt).2.1,M.nls⟩
def SSO (lo hi:Nat) (w:World) (v:Value) (S:List (List Int)):Prop:=∃us,w.ownsRow lo 25 1 v us.length us∧Rws lo w us S∧Apt us∧(∀k,v.ownBlock=some k→k<hi)∧∀u∈us,∀k,u.ownBlock=some k→k<hi
theorem Rws.blk {lo:Nat} {w:World} {us:List Value} {S:List (List Int)} (h:Rws lo w us S):∀u∈us,∀k,u.ownBlock=some k→lo≤k∧k<w.heap.size:=by
 intro u hu k hk;obtain ⟨i,hi,rfl⟩:=List.getElem_of_mem hu;have hl:=h.len;exact (h.own i us[i] (S[i]'(by omega)) (by simp [hi]) (by simp [show i<S.length by omega])).lt k hk
theorem OwnSS.o {lo:Nat} {w:World} {v:Value} {S:List (List Int)} (h:OwnSS lo w v S):SSO lo w.heap.size w v S:=by
 obtain ⟨us,h1,h2,h3,-⟩:=h;exact ⟨us,h1,h2,h3,fun k hk=>(World.ownsRow.lt h1 k hk).2,fun u hu k hk=>(h2.blk u hu k hk).2⟩
theorem SSO.kp {lo hi:Nat} {w w':World} {v:Value} {S:List (List Int)} (h:SSO lo hi w v S) (k:Kp lo hi w w'):SSO lo hi w' v S:=by
 obtain ⟨us,h1,h2,h3,h4,h5⟩:=h;refine ⟨us,⟨h1.1,?_⟩,⟨h2.len,fun i u xs hu hx=>?_⟩,h3,h4,h5⟩
 ·rcases h1.2 with hn|⟨g,cap,cur,hv,hb,hg,r⟩
  ·exact .inl hn
  ·exact .inr ⟨g,cap,cur,hv,hb,by rw [k.2 g hb (h4 g (by rw [hv];rfl))];exact hg,r⟩
 ·have hown:=h2.own i u xs hu hx
  exact (IntsO.kp (hi:=hi) ⟨hown,h5 u (List.mem_of_getElem? hu)⟩ k).1
theorem SSO.ss {lo hi:Nat} {w:World} {v:Value} {S:List (List Int)} (h:SSO lo hi w v S):SS 0 w.heap.size w v S:=by
 obtain ⟨us,h1,h2,_⟩:=h;exact ownsRow.ss h1 h2
theorem SSO.form {lo hi:Nat} {w:World} {v:Value} {S:List (List Int)} (h:SSO lo hi w v S):∃a c,v = .slice a S.length c:=by
 obtain ⟨us,h1,h2,_⟩:=h;obtain ⟨a,c,e⟩:=ownsRow.form h1;exact ⟨a,c,by rw [e,h2.len]⟩
theorem eqIntS_same (lo hi lo' hi':Nat) (u v:Value) (xs:List Int) (w:World) (hu:Ints lo hi w u xs) (hv:Ints lo' hi' w v xs) :
  Calls Tryz.prog 28 #[u,v] w fun e w'=>e = .returned (.bool true)∧Ext w w':=(eqIntS_any lo hi lo' hi' u v xs xs w hu hv).mono fun e w' ⟨h1,n,h2⟩=>⟨by rw [h1];simp,by rw [h2];exact (Ext.refl w).drewN n⟩
theorem diff_at {n j i:Nat} (hi:i<n):(j*n+i) % n=i∧(j*n+i) / n=j:=by
 constructor
 ·rw [Nat.mul_comm,Nat.mul_add_mod];exact Nat.mod_eq_of_lt hi
 ·rw [Nat.mul_comm,Nat.mul_add_div (by omega),Nat.div_eq_of_lt hi,Nat.add_zero]
theorem dCol {xs:List Int} {n j i:Nat} (hi:i<n) (hn:n≠1):dVal xs n false (j*n+i)=if i+1<n then satI (xs.getD (j*n+(i+1)) 0 - xs.getD (j*n+i) 0) else satI (xs.getD (j*n+i) 0 - xs.getD (j*n+(i - 1)) 0):=by
 obtain ⟨h1,h2⟩:=diff_at (j:=j) hi;unfold dVal dAt dStep;rw [if_neg hn];simp only [Bool.false_eq_true,if_false,h1]
 by_cases h:i+1<n
 ·rw [if_pos (by omega),if_pos h,Nat.add_assoc]
 ·rw [if_neg (by omega),if_neg h,Nat.add_sub_assoc (by omega)]
theorem dRow {xs:List Int} {n j i:Nat} (hi:i<n) (hn:n≠1):dVal xs n true (j*n+i)=if j+1<n then satI (xs.getD (j*n+n+i) 0 - xs.getD (j*n+i) 0) else satI (xs.getD (j*n+i) 0 - xs.getD (j*n - n+i) 0):=by
 obtain ⟨h1,h2⟩:=diff_at (j:=j) hi;unfold dVal dAt dStep;rw [if_neg hn];simp only [if_true,h2]
 by_cases h:j+1<n
 ·rw [if_pos (by omega),if_pos h,show j*n+i+n=j*n+n+i by omega]
 ·rw [if_neg (by omega),if_neg h]
  have hj:1≤j∨j=0:=by omega
  rcases hj with hj|hj
  ·have:1*n≤j*n:=Nat.mul_le_mul_right _ hj
   rw [show j*n+i - n=j*n - n+i by omega]
  ·subst hj
   exact absurd (by omega) hn
theorem OwnInts.take_snoc {lo:Nat} {w:World} {v:Value} {D:List Int} {k:Nat} {x:Int} (h:OwnInts lo w v (D.take k++[x])) (hk:k<D.length) (hx:D[k]=x):OwnInts lo w v (D.take (k+1)):=by
 rw [List.take_succ_eq_append_getElem hk,hx];exact h
theorem sDiff_any (lo hi:Nat) (u:Value) (xs:List Int) (n:Nat) (rows:Bool) (w:World) (hu:Ints lo hi w u xs) (hh:hi≤w.heap.size) (hl:xs.length=n*n) (h1:1≤n) (h8:n≤8) (hx9:∀x∈xs,S9 x) :
  Calls Tryz.prog 246 #[u,.int .i64 n,.bool rows] w fun e w'=>∃r,e = .returned r∧OwnInts w.heap.size w' r (diffs xs n rows)∧Ext w w':=by
 have HUU:=hid hu;obtain ⟨a,cap,rfl,HU⟩:=hu.open;have l1:=HU.le;have l2:=HU.cap;have hm8:n*n≤8*8:=Nat.mul_le_mul h8 h8;have hDl:=diffs_length xs n rows;have hDa:=diffs_at xs n rows
 obtain ⟨D,hD⟩:∃D,diffs xs n rows=D:=⟨_,rfl⟩
 rw [hD] at hDl
 have hDa2:∀k (h:k<D.length),D[k]=dVal xs n rows k:=by subst hD;exact hDa
 rw [hD];have HL:=hid hl;have H9:=hid hx9;have HD:=hid hDa2;have HDl:=hid hDl;clear hu hx9 hDa hDa2 hD hDl hl
 obtain ⟨m,hm⟩:∃m,n*n=m:=⟨_,rfl⟩
 have HM:=hid hm;have hl2:xs.length=m:=HL.out.trans hm;rw [hm] at hm8;clear hm;rw [hl2] at l1 ⊢;have HL2:=hid hl2;clear hl2;go_enter Tryz.func246,Tryz.ntmps246;go_wp2_with fail
 have HU2:Ints lo hi w (.slice a m cap) xs:=by rw [←HL2.out];exact HU.shut
 have x0:Ext w (w.alloc (.cells #[] 3)):=X_;refine (l19Ok_any lo hi _ xs n _ (HU2.ext hh x0) h1 h8 HL.out).mono ?_;rintro e w1 ⟨rfl,rfl⟩;have hO:=hid (OwnInts.lit0 w);have hXE:=hid x0;clear HU2 x0;go_wp2
 go_loopw [23] (fun i wr=>∃k:Nat,k≤m∧i = .int .i64 k∧wr=w.alloc (.cells #[] 3)) (fun i _=>m - (intOf i).toNat)
 case atStart=>exact ⟨0,by omega,rfl,rfl⟩
 case round=>
  obtain ⟨k,hk,rfl,rfl⟩:=hrel
  by_cases hlt:k<m
  ·have hkx:k<xs.length:=by rw [HL2.out];exact hlt
   obtain ⟨b,off,rfl,hb1,hb2,hc⟩:=HU.at hkx;have hc2:=(hXE.out.cells.1 b (off+k) (by omega)).trans hc;have h9:=H9.out _ (List.getElem_mem hkx)
   obtain ⟨x,hx⟩:∃x,xs[k]=x:=⟨_,rfl⟩
   rw [hx] at hc2 h9;have hin:=hid (inB_iff.2 h9:inB x (-1000000000) 1000000000=true)
   have hbw:b<(w.alloc (.cells #[] 3)).heap.size:=by have:=hXE.out.size;omega
   clear hc hx h9;go_wp2_with fail;refine (l01In_val hin.out _).mono ?_;rintro e w1 ⟨rfl,rfl⟩;go_wp2;go_roundw
   case rel=>exact ⟨k+1,by omega,by go_num,by trivial⟩
   case measure=>simp [intOf];omega
  ·go_wp2
   go_loopw [7,10] (fun v jv wr=>∃j:Nat,j≤n∧jv = .int .i64 j∧OwnInts w.heap.size wr v (D.take (j*n))∧Ext w wr) (fun _ jv _=>n - (intOf jv).toNat)
   case atStart=>exact ⟨0,by omega,rfl,by simpa using hO.out,hXE.out⟩
   case round=>
    obtain ⟨j,hj,rfl,hown,hx⟩:=hrel
    by_cases hjn:j<n
    ·have hp2:=Nat.mul_le_mul_right n (show j+1≤n from hjn)
     have hp4:j+1<n→j*n+n+n≤m:=fun h=>by
      have:=Nat.mul_le_mul_right n (show j+2≤n from h);rw [Nat.add_mul,HM.out] at this;omega
     have hpn:1≤j→n≤j*n:=fun h=>by have:=Nat.mul_le_mul_right n h;omega
     rw [Nat.add_mul,Nat.one_mul,HM.out] at hp2
     obtain ⟨p,hp⟩:∃p,j*n=p:=⟨_,rfl⟩
     have hpi:(j:Int)*n=p:=by rw [←hp];simp
     have hpi2:((j:Int)+1)*n=p+n:=by rw [Int.add_mul,hpi,Int.one_mul]
     have hpi3:((j:Int) - 1)*n=p - n:=by rw [Int.sub_mul,hpi,Int.one_mul]
     rw [hp] at hp2 hown hpn hp4;have HP:=hid hp;have HO:=hid hown;have HX:=hid hx;clear hp hown hx;go_wp2
     go_loopw [7,11] (fun v iv wq=>∃i:Nat,i≤n∧iv = .int .i64 i∧OwnInts w.heap.size wq v (D.take (p+i))∧Ext w wq) (fun _ iv _=>n - (intOf iv).toNat)
     case atStart=>exact ⟨0,by omega,rfl,HO.out,HX.out⟩
     case round=>
      clear HO HX;obtain ⟨i,hi,rfl,hown,hx⟩:=hrel;obtain ⟨av,cv,rfl,_⟩:=hown.form;have hzz:=hx.size;have hDd:=HDl.out;rw [HM.out] at hDd;replace hDd:=hid hDd
      by_cases hin:i<n
      ·have hlen:(D.take (p+i)).length=p+i:=by rw [List.length_take,hDd.out];omega
       rw [hlen] at hown ⊢;have HLN:=hid hlen;clear hlen
       have hltD:p+i<D.length:=by rw [hDd.out];omega
       have HLT:=hid hltD;clear hltD
       by_cases hn1:n=1
       ·have e1:((n:Int)==1)=true:=by simp [hn1]
        have hv:=hid (show D[p+i]'HLT.out=0 by rw [HD.out];unfold dVal;rw [if_pos hn1]);have HN:=hid hn1;have HO:=hid hown;have HX:=hid hx;clear hn1 hown hx;go_wp2_with (at_builtin;refine wpList_append1 _ rfl _ _ rfl w.heap.size _ _ rfl (HO.out.alloc _) 0 ⟨by omega,by omega⟩ wr.heap.size rfl (by simp [go_sem]) (by rw [HLN.out];omega) (by simp;omega) ?_;intro v' w7 hown hg);have hown2:=hown.take_snoc HLT.out hv.out;go_wp2;go_roundw
        case rel=>exact ⟨i+1,by omega,by go_num,hown2,Ext.grown (HX.out.alloc _) hg (fun g e=>(HO.out.lt g e).1)⟩
        case measure=>simp [intOf];omega
       ·have e1:((n:Int)==1)=false:=by simp;omega
        have HN:=hid hn1;clear hn1
        cases rows
        ·by_cases hs:i+1<n
         ·have k1:(p+(i+1))<xs.length:=by rw [HL2.out];omega
          have k2:(p+i)<xs.length:=by rw [HL2.out];omega
          obtain ⟨b,off,rfl,hb1,hb2,hc1⟩:=HU.at k1;obtain ⟨b',off',e',hb1',hb2',hc2⟩:=HU.at k2;simp only [Option.some.injEq,Addr.mk.injEq,and_true] at e';obtain ⟨rfl,rfl⟩:=e';have g1:=H9.out _ (List.getElem_mem k1);have g2:=H9.out _ (List.getElem_mem k2);have c1:=(hx.cells.1 b _ (by omega)).trans hc1;have c2:=(hx.cells.1 b _ (by omega)).trans hc2
          have hbw:b<w.heap.size:=by omega
          have hv:D[p+i]'HLT.out=satI (xs[(p+(i+1))] - xs[(p+i)]):=by
           rw [HD.out];have:=dCol (xs:=xs) (j:=j) hin HN.out;rw [HP.out] at this;rw [this,if_pos hs,getD_at _ _ k1,getD_at _ _ k2]
          obtain ⟨y1,hy1⟩:∃y,xs[(p+(i+1))]=y:=⟨_,rfl⟩
          obtain ⟨y2,hy2⟩:∃y,xs[(p+i)]=y:=⟨_,rfl⟩
          rw [hy1] at c1 g1 hv;rw [hy2] at c2 g2 hv
          obtain ⟨z,hz⟩:∃z,satI (y1 - y2)=z:=⟨_,rfl⟩
          have hz9:=hid (satI_S9 (y1 - y2)).i64;rw [hz] at hv hz9;have HZ:=hid hz;have HV:=hid hv;have HO:=hid hown;have HX:=hid hx;obtain ⟨g3,g4⟩:=g1;obtain ⟨g5,g6⟩:=g2
          have hbr:b<wr.heap.size:=by omega
          clear hv hz hy1 hy2 hc1 hc2 k1 k2 hown hx;go_wp2_with fail;refine (l17Pair_any n i _ (by omega) (by omega)).mono ?_;rintro e w1 ⟨rfl,rfl⟩;rw [if_pos hs,if_pos hs];go_wp2_with fail;refine wp_region_stages [([0,1,2,3,4,5,6,7,8,9,10,11,12,13,14,15,16,17],18),([],19),([],20),([],21)] 99 w.heap.size (by kernel_rfl) (by kernel_rfl) ?_;refine st_ fun K hK=>?_;go_wp2_with fail;refine (sSaturate_val HZ.out _).mono ?_;rintro e w1 ⟨rfl,rfl⟩;go_wp2_with fail;refine hK _ _ (.inr (fun k _ hk=>Ext.block X_ (by first|omega|(simp;omega)))) ?_;clear hK K;refine st_ fun K hK=>?_;go_wp2_with fail;go_wp2_with fail;refine hK _ _ (.inr (fun k _ hk=>Ext.block X_ (by first|omega|(simp;omega)))) ?_;clear hK K;refine wpStages_cons ?_;simp only [List.filterMap_nil]
          show wpQuiet _ _ _ _ [] _
          try simp only [Act.put,List.setIfInBounds_toArray,List.set_cons_succ,List.set_cons_zero]
          repeat (go_big_quiet_step (fail))
          refine wpQuiet_nil ⟨_,rfl,fun K hK=>?_⟩;refine wpList_append1 _ rfl _ _ rfl w.heap.size _ _ rfl (HO.out.ext X_) z hz9.out wr.heap.size rfl (by simp [go_sem]) (by rw [HLN.out];omega) (by simp;omega) ?_;intro v' w7 hown hg;have X7:Ext w w7:=Ext.grown (Ext.trans HX.out X_) hg (fun g e=>(HO.out.lt g e).1);have hown2:=hown.take_snoc HLT.out HV.out
          have hln2:(D.take (p+i+1)).length=p+i+1:=by rw [List.length_take,hDd.out];omega
          clear hown;obtain ⟨va,vc,rfl,_⟩:=hown2.form;rw [hln2] at hown2 ⊢;replace hown2:=hid hown2;clear hln2;go_wp2_with fail;refine hK _ _ (.inr (fun k _ hk=>(X7.block hk).trans (HX.out.block hk).symm)) ?_;clear hK K;refine st_ fun K hK=>?_;go_wp2_with fail;go_wp2_with fail;refine hK _ _ (.inr (fun k _ hk=>(X7.block hk).trans (HX.out.block hk).symm)) ?_;clear hK K;refine wpStages_nil ?_;go_wp2;go_roundw
          case rel=>exact ⟨i+1,by omega,by go_num,hown2.out,X7⟩
          case measure=>simp [intOf];omega
         ·obtain ⟨i',rfl⟩:∃i',i=i'+1:=⟨i - 1,by have:=HN.out;omega⟩
          have hi'1:((i':Int)+1) - 1=i':=by omega
          have k1:(p+(i'+1))<xs.length:=by rw [HL2.out];omega
          have k2:(p+i')<xs.length:=by rw [HL2.out];omega
          obtain ⟨b,off,rfl,hb1,hb2,hc1⟩:=HU.at k1;obtain ⟨b',off',e',hb1',hb2',hc2⟩:=HU.at k2;simp only [Option.some.injEq,Addr.mk.injEq,and_true] at e';obtain ⟨rfl,rfl⟩:=e';have g1:=H9.out _ (List.getElem_mem k1);have g2:=H9.out _ (List.getElem_mem k2);have c1:=(hx.cells.1 b _ (by omega)).trans hc1;have c2:=(hx.cells.1 b _ (by omega)).trans hc2
          have hbw:b<w.heap.size:=by omega
          have hv:D[p+(i'+1)]'HLT.out=satI (xs[(p+(i'+1))] - xs[(p+i')]):=by
           rw [HD.out];have:=dCol (xs:=xs) (j:=j) hin HN.out;rw [HP.out] at this;rw [this,if_neg hs,show i'+1 - 1=i' from rfl,getD_at _ _ k1,getD_at _ _ k2]
          obtain ⟨y1,hy1⟩:∃y,xs[(p+(i'+1))]=y:=⟨_,rfl⟩
          obtain ⟨y2,hy2⟩:∃y,xs[(p+i')]=y:=⟨_,rfl⟩
          rw [hy1] at c1 g1 hv;rw [hy2] at c2 g2 hv
          obtain ⟨z,hz⟩:∃z,satI (y1 - y2)=z:=⟨_,rfl⟩
          have hz9:=hid (satI_S9 (y1 - y2)).i64;rw [hz] at hv hz9;have HZ:=hid hz;have HV:=hid hv;have HO:=hid hown;have HX:=hid hx;obtain ⟨g3,g4⟩:=g1;obtain ⟨g5,g6⟩:=g2
          have hbr:b<wr.heap.size:=by omega
          clear hv hz hy1 hy2 hc1 hc2 k1 k2 hown hx;go_wp2_with fail;refine (l17Pair_any n (i'+1) _ (by omega) (by omega)).mono ?_;rintro e w1 ⟨rfl,rfl⟩;rw [if_neg hs,if_neg hs];go_wp2_with fail;refine wp_region_stages [([0,1,2,3,4,5,6,7,8,9,10,11,12,13,14,15,16,17],18),([],19),([],20),([],21)] 99 w.heap.size (by kernel_rfl) (by kernel_rfl) ?_;refine st_ fun K hK=>?_;go_wp2_with fail;refine (sSaturate_val HZ.out _).mono ?_;rintro e w1 ⟨rfl,rfl⟩;go_wp2_with fail;refine hK _ _ (.inr (fun k _ hk=>Ext.block X_ (by first|omega|(simp;omega)))) ?_;clear hK K;refine st_ fun K hK=>?_;go_wp2_with fail;go_wp2_with fail;refine hK _ _ (.inr (fun k _ hk=>Ext.block X_ (by first|omega|(simp;omega)))) ?_;clear hK K;refine wpStages_cons ?_;simp only [List.filterMap_nil]
          show wpQuiet _ _ _ _ [] _
          try simp only [Act.put,List.setIfInBounds_toArray,List.set_cons_succ,List.set_cons_zero]
          repeat (go_big_quiet_step (fail))
          refine wpQuiet_nil ⟨_,rfl,fun K hK=>?_⟩;refine wpList_append1 _ rfl _ _ rfl w.heap.size _ _ rfl (HO.out.ext X_) z hz9.out wr.heap.size rfl (by simp [go_sem]) (by rw [HLN.out];omega) (by simp;omega) ?_;intro v' w7 hown hg;have X7:Ext w w7:=Ext.grown (Ext.trans HX.out X_) hg (fun g e=>(HO.out.lt g e).1);have hown2:=hown.take_snoc HLT.out HV.out
          have hln2:(D.take (p+(i'+1)+1)).length=p+(i'+1)+1:=by rw [List.length_take,hDd.out];omega
          clear hown;obtain ⟨va,vc,rfl,_⟩:=hown2.form;rw [hln2] at hown2 ⊢;replace hown2:=hid hown2;clear hln2;go_wp2_with fail;refine hK _ _ (.inr (fun k _ hk=>(X7.block hk).trans (HX.out.block hk).symm)) ?_;clear hK K;refine st_ fun K hK=>?_;go_wp2_with fail;go_wp2_with fail;refine hK _ _ (.inr (fun k _ hk=>(X7.block hk).trans (HX.out.block hk).symm)) ?_;clear hK K;refine wpStages_nil ?_;go_wp2;go_roundw
          case rel=>exact ⟨i'+1+1,by omega,by go_num,hown2.out,X7⟩
          case measure=>simp [intOf];omega
        ·by_cases hs:j+1<n
         ·have k1:(p+n+i)<xs.length:=by rw [HL2.out];omega
          have k2:(p+i)<xs.length:=by rw [HL2.out];omega
          obtain ⟨b,off,rfl,hb1,hb2,hc1⟩:=HU.at k1;obtain ⟨b',off',e',hb1',hb2',hc2⟩:=HU.at k2;simp only [Option.some.injEq,Addr.mk.injEq,and_true] at e';obtain ⟨rfl,rfl⟩:=e';have g1:=H9.out _ (List.getElem_mem k1);have g2:=H9.out _ (List.getElem_mem k2);have c1:=(hx.cells.1 b _ (by omega)).trans hc1;have c2:=(hx.cells.1 b _ (by omega)).trans hc2
          have hbw:b<w.heap.size:=by omega
          have hv:D[p+i]'HLT.out=satI (xs[(p+n+i)] - xs[(p+i)]):=by
           rw [HD.out];have:=dRow (xs:=xs) (j:=j) hin HN.out;rw [HP.out] at this;rw [this,if_pos hs,getD_at _ _ k1,getD_at _ _ k2]
          obtain ⟨y1,hy1⟩:∃y,xs[(p+n+i)]=y:=⟨_,rfl⟩
          obtain ⟨y2,hy2⟩:∃y,xs[(p+i)]=y:=⟨_,rfl⟩
          rw [hy1] at c1 g1 hv;rw [hy2] at c2 g2 hv
          obtain ⟨z,hz⟩:∃z,satI (y1 - y2)=z:=⟨_,rfl⟩
          have hz9:=hid (satI_S9 (y1 - y2)).i64;rw [hz] at hv hz9;have HZ:=hid hz;have HV:=hid hv;have HO:=hid hown;have HX:=hid hx;obtain ⟨g3,g4⟩:=g1;obtain ⟨g5,g6⟩:=g2
          have hbr:b<wr.heap.size:=by omega
          clear hv hz hy1 hy2 hc1 hc2 k1 k2 hown hx;go_wp2_with fail;refine (l17Pair_any n j _ (by omega) (by omega)).mono ?_;rintro e w1 ⟨rfl,rfl⟩;rw [if_pos hs,if_pos hs];go_wp2_with fail;refine wp_region_stages [([0,1,2,3,4,5,6,7,8,9,10,11,12,13,14,15,16,17],18),([],19),([],20),([],21)] 99 w.heap.size (by kernel_rfl) (by kernel_rfl) ?_;refine st_ fun K hK=>?_;go_wp2_with fail;refine (sSaturate_val HZ.out _).mono ?_;rintro e w1 ⟨rfl,rfl⟩;go_wp2_with fail;refine hK _ _ (.inr (fun k _ hk=>Ext.block X_ (by first|omega|(simp;omega)))) ?_;clear hK K;refine st_ fun K hK=>?_;go_wp2_with fail;go_wp2_with fail;refine hK _ _ (.inr (fun k _ hk=>Ext.block X_ (by first|omega|(simp;omega)))) ?_;clear hK K;refine wpStages_cons ?_;simp only [List.filterMap_nil]
          show wpQuiet _ _ _ _ [] _
          try simp only [Act.put,List.setIfInBounds_toArray,List.set_cons_succ,List.set_cons_zero]
          repeat (go_big_quiet_step (fail))
          refine wpQuiet_nil ⟨_,rfl,fun K hK=>?_⟩;refine wpList_append1 _ rfl _ _ rfl w.heap.size _ _ rfl (HO.out.ext X_) z hz9.out wr.heap.size rfl (by simp [go_sem]) (by rw [HLN.out];omega) (by simp;omega) ?_;intro v' w7 hown hg;have X7:Ext w w7:=Ext.grown (Ext.trans HX.out X_) hg (fun g e=>(HO.out.lt g e).1);have hown2:=hown.take_snoc HLT.out HV.out
          have hln2:(D.take (p+i+1)).length=p+i+1:=by rw [List.length_take,hDd.out];omega
          clear hown;obtain ⟨va,vc,rfl,_⟩:=hown2.form;rw [hln2] at hown2 ⊢;replace hown2:=hid hown2;clear hln2;go_wp2_with fail;refine hK _ _ (.inr (fun k _ hk=>(X7.block hk).trans (HX.out.block hk).symm)) ?_;clear hK K;refine st_ fun K hK=>?_;go_wp2_with fail;go_wp2_with fail;refine hK _ _ (.inr (fun k _ hk=>(X7.block hk).trans (HX.out.block hk).symm)) ?_;clear hK K;refine wpStages_nil ?_;go_wp2;go_roundw
          case rel=>exact ⟨i+1,by omega,by go_num,hown2.out,X7⟩
          case measure=>simp [intOf];omega
         ·obtain ⟨p',rfl⟩:∃p',p=p'+n:=⟨p - n,by have:=HN.out;have:=hpn (by omega);omega⟩
          have hpi4:((j:Int) - 1)*n=p':=by rw [hpi3];omega
          clear hpi3
          have k1:(p'+n+i)<xs.length:=by rw [HL2.out];omega
          have k2:(p'+i)<xs.length:=by rw [HL2.out];omega
          obtain ⟨b,off,rfl,hb1,hb2,hc1⟩:=HU.at k1;obtain ⟨b',off',e',hb1',hb2',hc2⟩:=HU.at k2;simp only [Option.some.injEq,Addr.mk.injEq,and_true] at e';obtain ⟨rfl,rfl⟩:=e';have g1:=H9.out _ (List.getElem_mem k1);have g2:=H9.out _ (List.getElem_mem k2);have c1:=(hx.cells.1 b _ (by omega)).trans hc1;have c2:=(hx.cells.1 b _ (by omega)).trans hc2
          have hbw:b<w.heap.size:=by omega
          have hv:D[p'+n+i]'HLT.out=satI (xs[(p'+n+i)] - xs[(p'+i)]):=by
           rw [HD.out];have:=dRow (xs:=xs) (j:=j) hin HN.out;rw [HP.out] at this;rw [this,if_neg hs,show p'+n - n+i=p'+i by omega,getD_at _ _ k1,getD_at _ _ k2]
          obtain ⟨y1,hy1⟩:∃y,xs[(p'+n+i)]=y:=⟨_,rfl⟩
          obtain ⟨y2,hy2⟩:∃y,xs[(p'+i)]=y:=⟨_,rfl⟩
          rw [hy1] at c1 g1 hv;rw [hy2] at c2 g2 hv
          obtain ⟨z,hz⟩:∃z,satI (y1 - y2)=z:=⟨_,rfl⟩
          have hz9:=hid (satI_S9 (y1 - y2)).i64;rw [hz] at hv hz9;have HZ:=hid hz;have HV:=hid hv;have HO:=hid hown;have HX:=hid hx;obtain ⟨g3,g4⟩:=g1;obtain ⟨g5,g6⟩:=g2
          have hbr:b<wr.heap.size:=by omega
          clear hv hz hy1 hy2 hc1 hc2 k1 k2 hown hx;go_wp2_with fail;refine (l17Pair_any n j _ (by omega) (by omega)).mono ?_;rintro e w1 ⟨rfl,rfl⟩;rw [if_neg hs,if_neg hs];go_wp2_with fail;refine wp_region_stages [([0,1,2,3,4,5,6,7,8,9,10,11,12,13,14,15,16,17],18),([],19),([],20),([],21)] 99 w.heap.size (by kernel_rfl) (by kernel_rfl) ?_;refine st_ fun K hK=>?_;go_wp2_with fail;refine (sSaturate_val HZ.out _).mono ?_;rintro e w1 ⟨rfl,rfl⟩;go_wp2_with fail;refine hK _ _ (.inr (fun k _ hk=>Ext.block X_ (by first|omega|(simp;omega)))) ?_;clear hK K;refine st_ fun K hK=>?_;go_wp2_with fail;go_wp2_with fail;refine hK _ _ (.inr (fun k _ hk=>Ext.block X_ (by first|omega|(simp;omega)))) ?_;clear hK K;refine wpStages_cons ?_;simp only [List.filterMap_nil]
          show wpQuiet _ _ _ _ [] _
          try simp only [Act.put,List.setIfInBounds_toArray,List.set_cons_succ,List.set_cons_zero]
          repeat (go_big_quiet_step (fail))
          refine wpQuiet_nil ⟨_,rfl,fun K hK=>?_⟩;refine wpList_append1 _ rfl _ _ rfl w.heap.size _ _ rfl (HO.out.ext X_) z hz9.out wr.heap.size rfl (by simp [go_sem]) (by rw [HLN.out];omega) (by simp;omega) ?_;intro v' w7 hown hg;have X7:Ext w w7:=Ext.grown (Ext.trans HX.out X_) hg (fun g e=>(HO.out.lt g e).1);have hown2:=hown.take_snoc HLT.out HV.out
          have hln2:(D.take (p'+n+i+1)).length=p'+n+i+1:=by rw [List.length_take,hDd.out];omega
          clear hown;obtain ⟨va,vc,rfl,_⟩:=hown2.form;rw [hln2] at hown2 ⊢;replace hown2:=hid hown2;clear hln2;go_wp2_with fail;refine hK _ _ (.inr (fun k _ hk=>(X7.block hk).trans (HX.out.block hk).symm)) ?_;clear hK K;refine st_ fun K hK=>?_;go_wp2_with fail;go_wp2_with fail;refine hK _ _ (.inr (fun k _ hk=>(X7.block hk).trans (HX.out.block hk).symm)) ?_;clear hK K;refine wpStages_nil ?_;go_wp2;go_roundw
          case rel=>exact ⟨i+1,by omega,by go_num,hown2.out,X7⟩
          case measure=>simp [intOf];omega
      ·obtain rfl:i=n:=by omega
       go_wp2;go_roundw
       case rel=>exact ⟨j+1,by omega,by go_num,by rw [Nat.add_mul,Nat.one_mul,HP.out];exact hown,hx⟩
       case measure=>simp [intOf];omega
    ·obtain rfl:j=n:=by omega
     rw [List.take_of_length_le (by rw [HDl.out];exact Nat.le_refl _)] at hown;go_wp2;go_ret;exact ⟨_,rfl,hown,hx⟩
structure GBox (w:World) (B:Nat) (n:Int) (pu:Value) (tm lg:Int) (tu:Value):Prop where
 lt:B<w.heap.size
 c0:w.cell? ⟨B,0,none⟩=some (.int .i64 n)
 c1:w.cell? ⟨B,1,none⟩=some pu
 c2:w.cell? ⟨B,2,none⟩=some (.int .i64 tm)
 c3:w.cell? ⟨B,3,none⟩=some (.int .i64 lg)
 c4:w.cell? ⟨B,4,none⟩=some tu
theorem GBox.made (w:World) (n:Int) (pu:Value) (tm lg:Int) (tu:Value) (ty:TypeId):GBox (w.alloc (.cells #[.int .i64 n,pu,.int .i64 tm,.int .i64 lg,tu] ty)) w.heap.size n pu tm lg tu:=⟨by simp,by simp [go_sem],by simp [go_sem],by simp [go_sem],by simp [go_sem],by simp [go_sem]⟩
theorem GBox.ext {w w':World} {B:Nat} {n:Int} {pu:Value} {tm lg:Int} {tu:Value} (h:GBox w B n pu tm lg tu) (e:Ext w w'):GBox w' B n pu tm lg tu:=by
 have:=e.size;have h0:=h.lt;obtain ⟨a,b⟩:=e.cells;exact ⟨by omega,(a B _ h0).trans h.c0,(a B _ h0).trans h.c1,(a B _ h0).trans h.c2,(a B _ h0).trans h.c3,(a B _ h0).trans h.c4⟩
theorem l17Var_val {s:ByteArray} {f:Nat→Int} {tm r:Int} {q:Nat} (hr:varL s.toList f tm q=r) (lo hi n m i j:Nat) (u:Value) (g3:Int) (g4:Value) (w:World) (hu:Flats 5 lo hi w u m f) (hh:hi≤w.heap.size) (hq:(j:Int)*n+i=q) (hq':q<m) (hm:m≤1000) (hj:(j:Int)*n≤1000) (h0:0≤(j:Int)*n) (hi0:i≤1000) :
  Calls Tryz.prog 245 #[.agg #[.int .i64 n,u,.int .i64 tm,.int .i64 g3,g4],.string s,.int .i64 i,.int .i64 j] w fun e w'=>e = .returned (.int .i64 r)∧Ext w w':=hr▸l17Variable_any lo hi n m i j q u f tm g3 g4 s w hu hh hq hq' hm hj h0 hi0
theorem sFill3 (lo hi:Nat) (n:Int) (pu tu lv:Value) (tm lg:Int) (s:ByteArray) (j:Nat) (L:List (List Int)) (xs:List Int) (w:World) (hL:SS lo hi w lv L) (hh:hi≤w.heap.size) (hx:L[j]?=some xs) (h1:1≤xs.length) (h2:xs.length≤64) :
  Calls Tryz.prog 192 #[.agg #[.int .i64 n,pu,.int .i64 tm,.int .i64 lg,tu],.agg #[.int .i64 3,.string s,.int .i64 j],lv] w fun e w'=>∃r,e = .returned r∧OwnInts w.heap.size w' r xs∧Ext w w':=by
 obtain ⟨a,cap,rfl,HL⟩:=hL.open;have l1:=HL.le;have l2:=HL.cap;have hj:=(List.getElem?_eq_some_iff.1 hx).1;have hxe:=(List.getElem?_eq_some_iff.1 hx).2;obtain ⟨b,off,u,rfl,hb1,hb2,c0,hu⟩:=HL.at hj (Ext.refl w) hh;rw [hxe] at hu;obtain ⟨ua,uc,rfl,HU⟩:=hu.open;obtain ⟨b2,off2,rfl,hb3,hb4,_⟩:=HU.at (k:=0) (by omega)
 have hbn1:b<w.heap.size+1:=by omega
 have hbn2:b<w.heap.size+1+1:=by omega
 have k1:=HU.le;have k2:=HU.cap
 have HC:∀(w1:World),Ext w w1→∀i y,xs[i]?=some y→I64 y∧w1.cell? ⟨b2,off2+i,none⟩=some (.int .i64 y):=by
  intro w1 x1 i y hy;obtain ⟨h3,b',off',e,h4,h5,h6⟩:=HU.cell i y hy;simp only [Option.some.injEq,Addr.mk.injEq,and_true] at e;obtain ⟨rfl,rfl⟩:=e;exact ⟨h3,(x1.cells.1 _ _ (by omega)).trans h6⟩
 replace HC:=hid HC;clear hL hx hxe hu;go_enter Tryz.func192,Tryz.ntmps192;go_wp2_with (at_builtin;refine wpList_append_ints _ rfl _ _ rfl w.heap.size (.slice (some ⟨w.heap.size+1+1,0,none⟩) 0 0) [] xs rfl (OwnInts.empty (by omega) (by have:=heap_alloc_new ((w.alloc (.cells #[.int .i64 n,pu,.int .i64 tm,.int .i64 lg,tu] 135)).alloc (.cells #[.int .i64 3,.string s,.int .i64 j] 197)) (.cells #[] 3);simpa using this)) b2 off2 uc rfl (HC.out _ X_) (by simp;omega) (by simp <;> omega) ?_;intro v' w1 hown hg;obtain ⟨a',c',rfl,_⟩:=hown.form);go_ret;refine ⟨_,rfl,by simpa using hown,Ext.grown X_ hg (fun k e=>by simp [Value.ownBlock] at e;omega)⟩
theorem sFill1 (lo hi:Nat) (n m:Nat) (pu tu lv:Value) (f:Nat→Int) (tm lg:Int) (s:ByteArray) (num:Int) (w:World) (hp:Flats 5 lo hi w pu m f) (hh:hi≤w.heap.size) (hm:n*n=m) (h1:1≤n) (h8:n≤8) (D:List Int) (hD:D.length=m) (hn:I64 num) (hz:∀k (h:k<D.length),D[k]=num) :
  Calls Tryz.prog 192 #[.agg #[.int .i64 n,pu,.int .i64 tm,.int .i64 lg,tu],.agg #[.int .i64 1,.string s,.int .i64 num],lv] w fun e w'=>∃r,e = .returned r∧OwnInts w.heap.size w' r D∧Ext w w':=by
 have HPU:=hid hp;have HM:=hid hm;have HDl:=hid hD;have hm8:n*n≤8*8:=Nat.mul_le_mul h8 h8;rw [hm] at hm8;have x0:Ext w ((w.alloc (.cells #[.int .i64 n,pu,.int .i64 tm,.int .i64 lg,tu] 135)).alloc (.cells #[.int .i64 1,.string s,.int .i64 num] 197)):=X_;have gb:=(GBox.made w n pu tm lg tu 135).ext ((Ext.refl _).alloc (.cells #[.int .i64 1,.string s,.int .i64 num] 197));have xb:=XBox.made (w.alloc (.cells #[.int .i64 n,pu,.int .i64 tm,.int .i64 lg,tu] 135)) 1 s num 197;simp only [World.size_alloc] at xb
 obtain ⟨W0,hW0⟩:∃W,(w.alloc (.cells #[.int .i64 n,pu,.int .i64 tm,.int .i64 lg,tu] 135)).alloc (.cells #[.int .i64 1,.string s,.int .i64 num] 197)=W:=⟨_,rfl⟩
 rw [hW0] at x0 gb xb;have HGB:=hid gb;have HXB:=hid xb;have HX0:=hid x0;have HW0:=hid hW0;have hz0:=x0.size
 have hzW:w.heap.size+2=W0.heap.size:=by rw [←hW0];simp
 clear hp hm hD gb xb x0 hW0;have HV:=hid hz;clear hz;go_enter Tryz.func192,Tryz.ntmps192;go_wp2;rw [HW0.out]
 go_loopw [7,8] (fun v jv wr=>∃j:Nat,j≤n∧jv = .int .i64 j∧OwnInts W0.heap.size wr v (D.take (j*n))∧Ext W0 wr) (fun _ jv _=>n - (intOf jv).toNat)
 case atStart=>exact ⟨0,by omega,rfl,by simpa [←hzW] using OwnInts.lit0 W0,X_⟩
 case round=>
  obtain ⟨j,hj,rfl,hown,hx⟩:=hrel;have hGB:=HGB.out.ext hx
  by_cases hjn:j<n
  ·have hp2:=Nat.mul_le_mul_right n (show j+1≤n from hjn)
   rw [Nat.add_mul,Nat.one_mul,HM.out] at hp2
   obtain ⟨p,hp⟩:∃p,j*n=p:=⟨_,rfl⟩
   have hpi:(j:Int)*n=p:=by rw [←hp];simp
   rw [hp] at hp2 hown;have HP:=hid hp;have HPI:=hid hpi;have HO:=hid hown;have HX:=hid hx;have g0:=hGB.lt;have g1:=hGB.c0;have g2:=hGB.c1;have g3:=hGB.c2;have g4:=hGB.c3;have g5:=hGB.c4;clear hp hpi hown hx hGB;go_wp2
   go_loopw [7,9] (fun v iv wq=>∃i:Nat,i≤n∧iv = .int .i64 i∧OwnInts W0.heap.size wq v (D.take (p+i))∧Ext W0 wq) (fun _ iv _=>n - (intOf iv).toNat)
   case atStart=>exact ⟨0,by omega,rfl,HO.out,HX.out⟩
   case round=>
    clear HO HX g0 g1 g2 g3 g4 g5;obtain ⟨i,hiN,rfl,hown,hx⟩:=hrel;obtain ⟨av,cv,rfl,_⟩:=hown.form;have hGB:=HGB.out.ext hx;have hXB:=HXB.out.ext hx;have hzz:=hx.size
    by_cases hin:i<n
    ·have hlen:(D.take (p+i)).length=p+i:=by rw [List.length_take,HDl.out];omega
     have HLT:Hid (p+i<D.length):=by rw [HDl.out];show p+i<m;omega
     rw [hlen] at hown ⊢;have HLN:=hid hlen;clear hlen;have g0:=hGB.lt;have g1:=hGB.c0;have g2:=hGB.c1;have g3:=hGB.c2;have g4:=hGB.c3;have g5:=hGB.c4;have y0:=hXB.lt;have y1:=hXB.c0;have y2:=hXB.c1;have y3:=hXB.c2;have HX:=hid hx;have HO:=hid hown;clear hGB hXB hown hx;go_wp2_with (at_builtin;refine wpList_append1 _ rfl _ _ rfl W0.heap.size _ _ rfl (HO.out.alloc _) num hn wr.heap.size rfl (by simp [go_sem]) (by rw [HLN.out];omega) (by simp;omega) ?_;intro v' w7 hown hg);have hown2:=hown.take_snoc HLT.out (HV.out _ _);clear hown;have X7:Ext W0 w7:=Ext.grown (HX.out.alloc _) hg (fun g e=>(HO.out.lt g e).1);have HG7:=hid (HGB.out.ext X7);go_wp2;go_roundw
     case rel=>exact ⟨i+1,by omega,by go_num,hown2,X7⟩
     case measure=>simp [intOf];omega
    ·obtain rfl:i=n:=by omega
     have g0:=hGB.lt;have g1:=hGB.c0;have g2:=hGB.c1;have g3:=hGB.c2;have g4:=hGB.c3;have g5:=hGB.c4;clear hGB hXB;go_wp2;go_roundw
     case rel=>exact ⟨j+1,by omega,by go_num,by rw [Nat.add_mul,Nat.one_mul,HP.out];exact hown,hx⟩
     case measure=>simp [intOf];omega
  ·obtain rfl:j=n:=by omega
   rw [List.take_of_length_le (by rw [HDl.out,HM.out];exact Nat.le_refl _)] at hown;have g0:=hGB.lt;have g1:=hGB.c0;have g2:=hGB.c1;have g3:=hGB.c2;have g4:=hGB.c3;have g5:=hGB.c4;go_wp2;go_ret;exact ⟨_,rfl,hown.low (by omega),HX0.out.trans hx⟩
theorem sFill2 (lo hi:Nat) (n m:Nat) (pu tu lv:Value) (f:Nat→Int) (tm lg:Int) (s:ByteArray) (num:Int) (w:World) (hp:Flats 5 lo hi w pu m f) (hh:hi≤w.heap.size) (hm:n*n=m) (h1:1≤n) (h8:n≤8) (D:List Int) (hD:D.length=m) (hz:∀k (h:k<D.length),D[k]=varL s.toList f tm k) (h9:∀x∈D,I64 x) :
  Calls Tryz.prog 192 #[.agg #[.int .i64 n,pu,.int .i64 tm,.int .i64 lg,tu],.agg #[.int .i64 2,.string s,.int .i64 num],lv] w fun e w'=>∃r,e = .returned r∧OwnInts w.heap.size w' r D∧Ext w w':=by
 have HPU:=hid hp;have HM:=hid hm;have HDl:=hid hD;have hm8:n*n≤8*8:=Nat.mul_le_mul h8 h8;rw [hm] at hm8;have x0:Ext w ((w.alloc (.cells #[.int .i64 n,pu,.int .i64 tm,.int .i64 lg,tu] 135)).alloc (.cells #[.int .i64 2,.string s,.int .i64 num] 197)):=X_;have gb:=(GBox.made w n pu tm lg tu 135).ext ((Ext.refl _).alloc (.cells #[.int .i64 2,.string s,.int .i64 num] 197));have xb:=XBox.made (w.alloc (.cells #[.int .i64 n,pu,.int .i64 tm,.int .i64 lg,tu] 135)) 2 s num 197;simp only [World.size_alloc] at xb
 obtain ⟨W0,hW0⟩:∃W,(w.alloc (.cells #[.int .i64 n,pu,.int .i64 tm,.int .i64 lg,tu] 135)).alloc (.cells #[.int .i64 2,.string s,.int .i64 num] 197)=W:=⟨_,rfl⟩
 rw [hW0] at x0 gb xb;have HGB:=hid gb;have HXB:=hid xb;have HX0:=hid x0;have HW0:=hid hW0;have hz0:=x0.size
 have hzW:w.heap.size+2=W0.heap.size:=by rw [←hW0];simp
 clear hp hm hD gb xb x0 hW0;have HV:=hid hz;have H9:=hid h9;clear hz h9;go_enter Tryz.func192,Tryz.ntmps192;go_wp2;rw [HW0.out]
 go_loopw [7,8] (fun v jv wr=>∃j:Nat,j≤n∧jv = .int .i64 j∧OwnInts W0.heap.size wr v (D.take (j*n))∧Ext W0 wr) (fun _ jv _=>n - (intOf jv).toNat)
 case atStart=>exact ⟨0,by omega,rfl,by simpa [←hzW] using OwnInts.lit0 W0,X_⟩
 case round=>
  obtain ⟨j,hj,rfl,hown,hx⟩:=hrel;have hGB:=HGB.out.ext hx
  by_cases hjn:j<n
  ·have hp2:=Nat.mul_le_mul_right n (show j+1≤n from hjn)
   rw [Nat.add_mul,Nat.one_mul,HM.out] at hp2
   obtain ⟨p,hp⟩:∃p,j*n=p:=⟨_,rfl⟩
   have hpi:(j:Int)*n=p:=by rw [←hp];simp
   rw [hp] at hp2 hown;have HP:=hid hp;have HPI:=hid hpi;have HO:=hid hown;have HX:=hid hx;have g0:=hGB.lt;have g1:=hGB.c0;have g2:=hGB.c1;have g3:=hGB.c2;have g4:=hGB.c3;have g5:=hGB.c4;clear hp hpi hown hx hGB;go_wp2
   go_loopw [7,9] (fun v iv wq=>∃i:Nat,i≤n∧iv = .int .i64 i∧OwnInts W0.heap.size wq v (D.take (p+i))∧Ext W0 wq) (fun _ iv _=>n - (intOf iv).toNat)
   case atStart=>exact ⟨0,by omega,rfl,HO.out,HX.out⟩
   case round=>
    clear HO HX g0 g1 g2 g3 g4 g5;obtain ⟨i,hiN,rfl,hown,hx⟩:=hrel;obtain ⟨av,cv,rfl,_⟩:=hown.form;have hGB:=HGB.out.ext hx;have hXB:=HXB.out.ext hx;have hzz:=hx.size
    by_cases hin:i<n
    ·have hlen:(D.take (p+i)).length=p+i:=by rw [List.length_take,HDl.out];omega
     have HLT:Hid (p+i<D.length):=by rw [HDl.out];show p+i<m;omega
     rw [hlen] at hown ⊢;have HLN:=hid hlen;clear hlen;have g0:=hGB.lt;have g1:=hGB.c0;have g2:=hGB.c1;have g3:=hGB.c2;have g4:=hGB.c3;have g5:=hGB.c4;have y0:=hXB.lt;have y1:=hXB.c0;have y2:=hXB.c1;have y3:=hXB.c2;have HX:=hid hx;have HO:=hid hown;clear hGB hXB hown hx
     obtain ⟨z,hz⟩:∃z,varL s.toList f tm (p+i)=z:=⟨_,rfl⟩
     have hvz:Hid (D[p+i]'HLT.out=z):=(HV.out _ HLT.out).trans hz
     have hz9:Hid (I64 z):=by have:=H9.out _ (List.getElem_mem HLT.out);rw [hvz.out] at this;exact this
     have HZ:=hid hz;clear hz;go_wp2_with fail;refine (l17Var_val HZ.out lo hi n m i j _ _ _ _ (HPU.out.ext hh (HX0.out.trans HX.out)) (by omega) (by rw [HPI.out];omega) (by omega) (by omega) (by rw [HPI.out];omega) (by rw [HPI.out];omega) (by omega)).mono ?_;rintro e w1 ⟨rfl,x1⟩;have HO1:=hid (HO.out.ext x1);have HX1:=hid (HX.out.trans x1);have hz1:=x1.size;clear g0 g1 g2 g3 g4 g5 y0 y1 y2 y3;go_wp2_with (at_builtin;refine wpList_append1 _ rfl _ _ rfl W0.heap.size _ _ rfl (HO1.out.alloc _) z hz9.out w1.heap.size rfl (by simp [go_sem]) (by rw [HLN.out];omega) (by simp;omega) ?_;intro v' w7 hown hg);have hown2:=hown.take_snoc HLT.out hvz.out;clear hown;have X7:Ext W0 w7:=Ext.grown (HX1.out.alloc _) hg (fun g e=>(HO1.out.lt g e).1);have HG7:=hid (HGB.out.ext X7);go_wp2;go_roundw
     case rel=>exact ⟨i+1,by omega,by go_num,hown2,X7⟩
     case measure=>simp [intOf];omega
    ·obtain rfl:i=n:=by omega
     have g0:=hGB.lt;have g1:=hGB.c0;have g2:=hGB.c1;have g3:=hGB.c2;have g4:=hGB.c3;have g5:=hGB.c4;clear hGB hXB;go_wp2;go_roundw
     case rel=>exact ⟨j+1,by omega,by go_num,by rw [Nat.add_mul,Nat.one_mul,HP.out];exact hown,hx⟩
     case measure=>simp [intOf];omega
  ·obtain rfl:j=n:=by omega
   rw [List.take_of_length_le (by rw [HDl.out,HM.out];exact Nat.le_refl _)] at hown;have g0:=hGB.lt;have g1:=hGB.c0;have g2:=hGB.c1;have g3:=hGB.c2;have g4:=hGB.c3;have g5:=hGB.c4;go_wp2;go_ret;exact ⟨_,rfl,hown.low (by omega),HX0.out.trans hx⟩
end Go.Proofs.YtfjbiifebcfjfaaGreat
