/- Texts of this claim, one behind another; what its theorem does not use is left out: Rs5, Rs6, Rs7, Ss1, Shp, Mk1, Mk2, Mk3, Mk4, Mk5, Mk6, Lw1, Ss2. -/
import Derived.Test.YtfjbiifebcfjfaaGreatP29W6
import Derived.Test.YtfjbiifebcfjfaaGreatP29W5
import Derived.Test.YtfjbiifebcfjfaaGreatP29W2
import Derived.Test.YtfjbiifebcfjfaaGreatP29W4
import Derived.Test.YtfjbiifebcfjfaaGreatP29W3
set_option linter.unusedSimpArgs false
set_option linter.unusedVariables false
set_option maxRecDepth 100000
set_option maxHeartbeats 12800000
namespace Go.Proofs.YtfjbiifebcfjfaaGreat
open Go.RowKit
theorem Ins.one (y:Ins):∀u∈y.cs,u.oneCell'=true:=by
 intro u hu;simp only [Ins.cs,List.mem_cons,List.not_mem_nil,or_false] at hu
 rcases hu with rfl|rfl|rfl <;> rfl
theorem flat_step {p:Prg} {ra:List Int} {j:Nat} (hj:j<ra.length):((ra.take (j+1)).flatMap fun a=>p.tr a.toNat)=((ra.take j).flatMap fun a=>p.tr a.toNat)++p.tr (ra[j]).toNat:=by
 rw [List.take_succ_eq_append_getElem hj,List.flatMap_append];simp
theorem sTr_any (lo hi lo2 hi2:Nat) (p:Prg) (hp:p.K) (W W2:World) (a1 a2:Option Addr) (c1 c2:Nat) (HN:NdsAt lo hi W a1 c1 p.ns) (hh:hi≤W.heap.size) (lv:Value) (hL:Strs lo2 hi2 W2 lv (p.gs.map (·.name))) (hh2:hi2≤W2.heap.size) :
  ∀(F r:Nat) (w:World),r<F→r<p.ns.length→Ext W w→Ext W2 w→(p.tr r).length≤1000→Calls Tryz.prog 124 #[.agg #[.slice a1 p.ns.length c1,.slice a2 p.gs.length c2],lv,.int .i64 (r:Nat)] w fun e w'=>∃u,e = .returned u∧OwnInss w.heap.size w' u (p.tr r)∧Ext w w':=by
 intro F
 induction F with
 | zero=>intro r w h;omega
 | succ F ih=>
  intro r w hF hr hx hx2 hlen;have IH:=hid ih;have HP:=hid hp;have HLV:=hid hL;have l1:=HN.le;have l2:=HN.cap;have l5:=hp.v.len;have l6:=hp.v.gs_len;obtain ⟨b,off,op,s,n,ua,ra,rfl,hb1,hbw,hdrop,hget,io,inn,hia,x0,x1,x2,x3⟩:=HN.at hr hx hh;have hk:=nodeF_op (hp.v.nd r _ hget).1;have hargs:=hid (hp.v.nd r _ hget).2;have hst:=hp.v.tr_step hget
  have hfl:(ra.flatMap fun a=>p.tr a.toNat).length≤1000:=by rw [hst,List.length_append] at hlen;simp only at hlen;omega
  have HFL:=hid hfl;have HST:=hid hst;have HG:=hid hget;have HX:=hid hx;have HX2:=hid hx2;obtain ⟨ax,ac,rfl,HI⟩:=hia.open;have m1:=HI.le;have m2:=HI.cap;have HII:=hid HI
  have hrl:ra.length≤3:=by rcases hk with ⟨_,_,h⟩|⟨_,h⟩|⟨_,h⟩|⟨_,_,h⟩|⟨_,h⟩ <;> (simp only at h;omega)
  have HK:=hid hk;have zz:=hx.size;have x0':Ext w (((w.alloc (.cells #[.slice (some ⟨b,off,none⟩) p.ns.length c1,.slice a2 p.gs.length c2] 132)).alloc (.cells #[.int .i64 op,.string s,.int .i64 n,.slice ax ra.length ac] 243)).alloc (.cells #[] 197)):=X_;have bP:=(Blk.new w 132 [.slice (some ⟨b,off,none⟩) p.ns.length c1,.slice a2 p.gs.length c2]).ext (show Ext (w.alloc (.cells #[.slice (some ⟨b,off,none⟩) p.ns.length c1,.slice a2 p.gs.length c2] 132)) (((w.alloc (.cells #[.slice (some ⟨b,off,none⟩) p.ns.length c1,.slice a2 p.gs.length c2] 132)).alloc (.cells #[.int .i64 op,.string s,.int .i64 n,.slice ax ra.length ac] 243)).alloc (.cells #[] 197)) from X_);have bN:=(Blk.new (w.alloc (.cells #[.slice (some ⟨b,off,none⟩) p.ns.length c1,.slice a2 p.gs.length c2] 132)) 243 [.int .i64 op,.string s,.int .i64 n,.slice ax ra.length ac]).ext (show Ext ((w.alloc (.cells #[.slice (some ⟨b,off,none⟩) p.ns.length c1,.slice a2 p.gs.length c2] 132)).alloc (.cells #[.int .i64 op,.string s,.int .i64 n,.slice ax ra.length ac] 243)) (((w.alloc (.cells #[.slice (some ⟨b,off,none⟩) p.ns.length c1,.slice a2 p.gs.length c2] 132)).alloc (.cells #[.int .i64 op,.string s,.int .i64 n,.slice ax ra.length ac] 243)).alloc (.cells #[] 197)) from X_);have bO:=Blk.new ((w.alloc (.cells #[.slice (some ⟨b,off,none⟩) p.ns.length c1,.slice a2 p.gs.length c2] 132)).alloc (.cells #[.int .i64 op,.string s,.int .i64 n,.slice ax ra.length ac] 243)) 197 [];simp only [World.size_alloc] at bN bO;have HX0:=hid x0';have HBP:=hid bP;have HBN:=hid bN;have HO:=hid (show OwnInss w.heap.size (((w.alloc (.cells #[.slice (some ⟨b,off,none⟩) p.ns.length c1,.slice a2 p.gs.length c2] 132)).alloc (.cells #[.int .i64 op,.string s,.int .i64 n,.slice ax ra.length ac] 243)).alloc (.cells #[] 197)) (.slice (some ⟨w.heap.size+1+1,0,none⟩) 0 0) [] from OwnG.freshC (by omega) bO);clear ih hp hL hdrop hget hia HI hk hx hx2 hst hfl hlen bP bN bO x0';go_enter Tryz.func124,Tryz.ntmps124;go_wp2_with fail
  go_loopw [8,20] (fun v i wr=>∃(k:Nat) (xs:List Ins),k≤ra.length∧i = .int .i64 (k:Nat)∧xs=((ra.take k).flatMap fun a=>p.tr a.toNat)∧OwnInss w.heap.size wr v xs∧Blk wr w.heap.size 132 [.slice (some ⟨b,off,none⟩) p.ns.length c1,.slice a2 p.gs.length c2]∧Blk wr (w.heap.size+1) 243 [.int .i64 op,.string s,.int .i64 n,.slice ax ra.length ac]∧Ext w wr) (fun _ i _=>ra.length - (intOf i).toNat)
  case atStart=>exact ⟨0,[],by omega,rfl,rfl,HO.out,HBP.out,HBN.out,HX0.out⟩
  case round=>
   clear HX0 HBP HBN HO;obtain ⟨k,xs,hk,rfl,hxs,ho,hbp,hbn,hx⟩:=hrel;obtain ⟨xa,xc,rfl,-⟩:=OwnG.form ho;have HXS:=hid hxs
   have hxl:xs.length≤1000:=by rw [hxs];exact Nat.le_trans (flat_take hk) HFL.out
   by_cases hlt:k<ra.length
   ·obtain ⟨b',off',rfl,d1,d2,hc⟩:=HII.out.at hlt
    have ha:=hargs.out ra[k] (List.getElem_mem hlt);have hs1:=flat_step (p:=p) hlt
    obtain ⟨q,hq⟩:∃q:Nat,ra[k]=q:=⟨ra[k].toNat,by omega⟩
    rw [hq] at hc ha hs1;simp only [Int.toNat_natCast] at hs1
    have hl2:xs.length+(p.tr q).length≤1000:=by rw [hxs,←List.length_append,←hs1];exact Nat.le_trans (flat_take (by omega)) HFL.out
    have HS1:=hid hs1;have HO:=hid ho;have HBP:=hid hbp;have HBN:=hid hbn;have HXX:=hid hx;have hc':=(hx.cells.1 b' _ (by omega)).trans hc;obtain ⟨p0,p1⟩:=hbp.q2;have pl:=hbp.lt
    have bl:b'<wr.heap.size:=by have:=hx.size;omega
    have TL:=hid (show (p.tr q).length≤1000 by omega);have HL2:=hid hl2;clear hxs ho hbp hbn hx hc hs1 hq hl2;go_wp2_with fail;refine (IH.out q wr (by omega) (by omega) (HX.out.trans HXX.out) (HX2.out.trans HXX.out) TL.out).mono ?_;rintro e w3 ⟨u,rfl,O3,x3⟩;have HO3:=hid (OwnG.rd (sz:=3) O3 (fun _=>rfl));have HOO:=hid (OwnG.ext HO.out x3);have HBP3:=hid (HBP.out.ext x3);have HBN3:=hid (HBN.out.ext x3);have HX3:=hid (HXX.out.trans x3);have zw3:=HX3.out.size;clear O3 x3 HO HBP HBN HXX p0 p1 pl hc';go_wp2_with (at_builtin;refine wpList_append_cat Ins.cs 197 3 32 _ w3 rfl _ _ 123 rfl Tryz.underlying123 info_InsT rfl (by decide) (by decide) (fun _=>rfl) Ins.one w.heap.size (.slice xa xs.length xc) xs rfl HOO.out _ _ u (p.tr q) rfl HO3.out ?_ ?_ ?_)
    ·have:=HL2.out;omega
    ·omega
    intro v4 w4 hown hg;have HOW:=hid hown;have HBP4:=hid (HBP3.out.grown hg (blk_not_row HBP3.out (by decide) HOO.out));have HBN4:=hid (HBN3.out.grown hg (blk_not_row HBN3.out (by decide) HOO.out));have HX4:=hid (Ext.grown HX3.out hg (fun k hk=>(OwnG.lt HOO.out k hk).1));clear hown hg;go_wp2;go_roundw
    case rel=>exact ⟨k+1,xs++p.tr q,by omega,by go_num,by rw [HXS.out,HS1.out],HOW.out,HBP4.out,HBN4.out,HX4.out⟩
    case measure=>simp [intOf];omega
   ·obtain rfl:k=ra.length:=by omega
    rw [List.take_length] at HXS;have HBN:=hid hbn;have HXX:=hid hx;have HO:=hid ho;obtain ⟨n0,n1,n2⟩:=hbn.q3;have nl:=hbn.lt;have zw:=hx.size;have FIN:=hid (show ∀(y:Ins) (v':Value) (w':World),insOf p ⟨op,s,n,ra⟩=y→OwnInss w.heap.size w' v' (xs++[y])→Ext w w'→∃u,Ending.returned v' = .returned u∧OwnInss w.heap.size w' u (p.tr r)∧Ext w w' from fun y v' w' hy h1 h2=>⟨_,rfl,by rw [HST.out,hy,←HXS.out];exact h1,h2⟩);clear hxs ho hbp hbn hx
    rcases HK.out with ⟨rfl,-,-⟩|⟨rfl,-⟩|⟨rfl,-⟩|⟨o1,o2,-⟩|⟨rfl,-⟩
    ·skip
     have y5:Ext wr (wr.alloc (.cells #[.int .i64 1,.string ⟨#[]⟩,.int .i64 n] 197)):=X_;have HI5:=hid (OwnG.ext HO.out y5);have HX5:=hid (HXX.out.trans y5);have zy5:=HX5.out.size;clear y5;go_wp2_with (at_builtin;refine wpList_append_insn _ rfl _ _ rfl w.heap.size (.slice xa xs.length xc) xs rfl ?_ ⟨1,⟨#[]⟩,n⟩ wr.heap.size rfl ?_ ?_ ?_ ?_)
     ·exact HI5.out
     ·omega
     ·first|exact zy5|omega
     intro v6 w6 hown hg;have hX6:=Ext.grown HX5.out hg (fun k hk=>(OwnG.lt HI5.out k hk).1);go_wp2;go_ret;exact FIN.out _ _ _ rfl hown hX6
    ·cases hv:isVar s
     ·have hix:ixL s.toList (p.gs.map (·.name))=((ixOf p s:Nat):Int):=by
       obtain ⟨i,hi,_⟩:=HP.out.name r _ HG.out rfl hv;rw [ix_frst];unfold ixOf;rw [hi]
       rfl
      have hy:insOf p ⟨2,s,n,ra⟩=⟨3,⟨#[]⟩,((ixOf p s:Nat):Int)⟩:=by unfold insOf;simp [hv]
      obtain ⟨z,hz⟩:∃z,((ixOf p s:Nat):Int)=z:=⟨_,rfl⟩
      rw [hz] at hix hy;have HIX:=hid hix;have HYY:=hid hy;clear hix hy hz;go_wp2_with fail;refine (sIsVariable_val hv _).mono ?_;rintro e w7 ⟨rfl,x7⟩;replace HO:=hid (OwnG.ext HO.out x7);replace HXX:=hid (HXX.out.trans x7);have n1:=(HBN.out.ext x7).cell 1 rfl;have nl:=(HBN.out.ext x7).lt;go_wp2_with fail;refine (sLocal_any lo2 hi2 _ _ s _ (HLV.out.ext hh2 (HX2.out.trans HXX.out)) (by rw [List.length_map];omega)).mono ?_;rw [HIX.out];rintro e w8 ⟨rfl,rfl⟩;have y5:Ext w7 (w7.alloc (.cells #[.int .i64 3,.string ⟨#[]⟩,.int .i64 z] 197)):=X_;have HI5:=hid (OwnG.ext HO.out y5);have HX5:=hid (HXX.out.trans y5);have zy5:=HX5.out.size;clear y5;go_wp2_with (at_builtin;refine wpList_append_insn _ rfl _ _ rfl w.heap.size (.slice xa xs.length xc) xs rfl ?_ ⟨3,⟨#[]⟩,z⟩ w7.heap.size rfl ?_ ?_ ?_ ?_)
      ·exact HI5.out
      ·omega
      ·first|exact zy5|omega
      intro v6 w6 hown hg;have hX6:=Ext.grown HX5.out hg (fun k hk=>(OwnG.lt HI5.out k hk).1);go_wp2;go_ret;exact FIN.out _ _ _ HYY.out hown hX6
     ·have hy:insOf p ⟨2,s,n,ra⟩=⟨2,s,0⟩:=by unfold insOf;simp [hv]
      have HYY:=hid hy;clear hy;go_wp2_with fail;refine (sIsVariable_val hv _).mono ?_;rintro e w7 ⟨rfl,x7⟩;replace HO:=hid (OwnG.ext HO.out x7);replace HXX:=hid (HXX.out.trans x7);have n1:=(HBN.out.ext x7).cell 1 rfl;have nl:=(HBN.out.ext x7).lt;have y5:Ext w7 (w7.alloc (.cells #[.int .i64 2,.string s,.int .i64 0] 197)):=X_;have HI5:=hid (OwnG.ext HO.out y5);have HX5:=hid (HXX.out.trans y5);have zy5:=HX5.out.size;clear y5;go_wp2_with (at_builtin;refine wpList_append_insn _ rfl _ _ rfl w.heap.size (.slice xa xs.length xc) xs rfl ?_ ⟨2,s,0⟩ w7.heap.size rfl ?_ ?_ ?_ ?_)
      ·exact HI5.out
      ·omega
      ·first|exact zy5|omega
      intro v6 w6 hown hg;have hX6:=Ext.grown HX5.out hg (fun k hk=>(OwnG.lt HI5.out k hk).1);go_wp2;go_ret;exact FIN.out _ _ _ HYY.out hown hX6
    ·skip
     have y5:Ext wr (wr.alloc (.cells #[.int .i64 5,.string ⟨#[]⟩,.int .i64 3] 197)):=X_;have HI5:=hid (OwnG.ext HO.out y5);have HX5:=hid (HXX.out.trans y5);have zy5:=HX5.out.size;clear y5;go_wp2_with (at_builtin;refine wpList_append_insn _ rfl _ _ rfl w.heap.size (.slice xa xs.length xc) xs rfl ?_ ⟨5,⟨#[]⟩,3⟩ wr.heap.size rfl ?_ ?_ ?_ ?_)
     ·exact HI5.out
     ·omega
     ·first|exact zy5|omega
     intro v6 w6 hown hg;have hX6:=Ext.grown HX5.out hg (fun k hk=>(OwnG.lt HI5.out k hk).1);go_wp2;go_ret;exact FIN.out _ _ _ rfl hown hX6
    ·have h1 : ¬op=1:=by omega
     have h2 : ¬op=2:=by omega
     have h3 : ¬op=3:=by omega
     have h8 : ¬op=8:=by omega
     have hy:=hid (show insOf p ⟨op,s,n,ra⟩=⟨6,⟨#[]⟩,op⟩ by unfold insOf;simp [h1,h2,h3,h8]);have y5:Ext wr (wr.alloc (.cells #[.int .i64 6,.string ⟨#[]⟩,.int .i64 op] 197)):=X_;have HI5:=hid (OwnG.ext HO.out y5);have HX5:=hid (HXX.out.trans y5);have zy5:=HX5.out.size;clear y5;go_wp2_with (at_builtin;refine wpList_append_insn _ rfl _ _ rfl w.heap.size (.slice xa xs.length xc) xs rfl ?_ ⟨6,⟨#[]⟩,op⟩ wr.heap.size rfl ?_ ?_ ?_ ?_)
     ·exact HI5.out
     ·omega
     ·first|exact zy5|omega
     intro v6 w6 hown hg;have hX6:=Ext.grown HX5.out hg (fun k hk=>(OwnG.lt HI5.out k hk).1);go_wp2;go_ret;exact FIN.out _ _ _ hy.out hown hX6
    ·skip
     have y5:Ext wr (wr.alloc (.cells #[.int .i64 7,.string s,.int .i64 0] 197)):=X_;have HI5:=hid (OwnG.ext HO.out y5);have HX5:=hid (HXX.out.trans y5);have zy5:=HX5.out.size;clear y5;go_wp2_with (at_builtin;refine wpList_append_insn _ rfl _ _ rfl w.heap.size (.slice xa xs.length xc) xs rfl ?_ ⟨7,s,0⟩ wr.heap.size rfl ?_ ?_ ?_ ?_)
     ·exact HI5.out
     ·omega
     ·first|exact zy5|omega
     intro v6 w6 hown hg;have hX6:=Ext.grown HX5.out hg (fun k hk=>(OwnG.lt HI5.out k hk).1);go_wp2;go_ret;exact FIN.out _ _ _ rfl hown hX6
section
open Go.RowKit Go.Maps Go.WideMaps
structure SB (p:Prg) (P R C lo:Nat) (a1 a2:Option Addr) (c1 c2:Nat) (w:World) (xs:List Ins) (iv:Value) (ls:List ByteArray) (lv:Value):Prop where
 prog:Blk w P 132 [.slice a1 p.ns.length c1,.slice a2 p.gs.length c2]
 res:Blk w R 126 [.slice none 0 0,.slice none 0 0]
 code:Blk w C 126 [iv,lv]
 ins:OwnInss lo w iv xs
 loc:OwnStrs lo w lv ls
 low:lo≤C∧R<lo
theorem SB.ext {p:Prg} {P R C lo:Nat} {a1 a2:Option Addr} {c1 c2:Nat} {w w':World} {xs:List Ins} {iv:Value} {ls:List ByteArray} {lv:Value} (h:SB p P R C lo a1 a2 c1 c2 w xs iv ls lv) (x:Ext w w'):SB p P R C lo a1 a2 c1 c2 w' xs iv ls lv:=
 ⟨h.prog.ext x,h.res.ext x,h.code.ext x,OwnG.ext h.ins x,h.loc.ext x,h.low⟩
theorem SB.kn {p:Prg} {P R C lo:Nat} {a1 a2:Option Addr} {c1 c2:Nat} {w w':World} {xs xs':List Ins} {iv iv':Value} {ls:List ByteArray} {lv:Value} (h:SB p P R C lo a1 a2 c1 c2 w xs iv ls lv) (k:KN lo C 197 w w') (hc:Blk w' C 126 [iv',lv]) (hi:OwnInss lo w' iv' xs'):SB p P R C lo a1 a2 c1 c2 w' xs' iv' ls lv:=
 ⟨KN.blk h.prog k (h.prog.neq h.code (by decide)) (by decide),KN.blk h.res k (by have:=h.low;omega) (by decide),hc,hi,KN.strs h.loc k (h.code.noCells (by decide)) (by decide),h.low⟩
theorem SB.knS {p:Prg} {P R C lo:Nat} {a1 a2:Option Addr} {c1 c2:Nat} {w w':World} {xs:List Ins} {iv lv lv':Value} {ls ls':List ByteArray} (h:SB p P R C lo a1 a2 c1 c2 w xs iv ls lv) (k:KN lo C 9 w w') (hc:Blk w' C 126 [iv,lv']) (hl:OwnStrs lo w' lv' ls'):SB p P R C lo a1 a2 c1 c2 w' xs iv ls' lv':=
 ⟨KN.blk h.prog k (h.prog.neq h.code (by decide)) (by decide),KN.blk h.res k (by have:=h.low;omega) (by decide),hc,KN.row h.ins k (h.code.noCells (by decide)) (by decide),hl,h.low⟩
theorem sCompile_any (lo hi:Nat) (v:Value) (p:Prg) (w:World) (hv:p.R lo hi w v) (hh:hi≤w.heap.size) (hchk:p.chkB=true) (hbd:p.bd) (hnl:p.ns.length≤1048576) (hgl:p.gs.length≤1048576) :
  Calls Tryz.prog 71 #[v] w fun e w'=>∃u,e = .returned (.tuple #[u,.bool true])∧p.code.R w.heap.size w'.heap.size w' u∧Ext w w':=by
 have HV:=hid hv;have hp:=Prg.chkB_K hchk;have HP:=hid hp;have HCH:=hid hchk;obtain ⟨a1,c1,a2,c2,rfl,HN,HG⟩:=hv.form;have l1:=HN.le;have l2:=HN.cap;have l3:=HG.le;have l4:=HG.cap;have l5:=hp.v.len;have l6:=hp.v.gs_len;have HNN:=hid HN;have HGG:=hid HG
 have hn64:∀x∈p.ns,I64 x.num:=fun x hx=>by
  obtain ⟨i,hi,hix⟩:=List.getElem_of_mem hx;exact (HN.cell i x (by rw [←hix];simp [hi])).1.2
 have H64:=hid (trs_64 hp hgl hn64);have hcl:=code_len hp;have HCL:=hid hcl;have b0:=Blk.new w 132 [.slice a1 p.ns.length c1,.slice a2 p.gs.length c2];have r0:=Blk.new (w.alloc (.cells #[.slice a1 p.ns.length c1,.slice a2 p.gs.length c2] 132)) 126 [.slice none 0 0,.slice none 0 0];rw [World.size_alloc] at r0;have x0:Ext w ((w.alloc (.cells #[.slice a1 p.ns.length c1,.slice a2 p.gs.length c2] 132)).alloc (.cells #[.slice none 0 0,.slice none 0 0] 126)):=X_;have HB0:=hid (b0.ext (show Ext _ ((w.alloc (.cells #[.slice a1 p.ns.length c1,.slice a2 p.gs.length c2] 132)).alloc (.cells #[.slice none 0 0,.slice none 0 0] 126)) from X_));have HR0:=hid r0;have HX0:=hid x0;clear hv hp hchk b0 r0 x0 hn64 hcl HN HG;go_enter Tryz.func71,Tryz.ntmps71;go_wp2_with fail;refine (sCheck_any lo hi _ p _ (HV.out.ext hh HX0.out) (Nat.le_trans hh HX0.out.size) hbd hnl hgl).mono ?_;rintro e w1 ⟨⟨c,k,rfl,hc⟩,x1⟩;rw [HCH.out] at hc
 obtain rfl:c=0:=by simpa using hc
 have HX1:=hid (HX0.out.trans x1);have HB1:=hid (HB0.out.ext x1);have HR1:=hid (HR0.out.ext x1);have zw1:w.heap.size+1<w1.heap.size:=HR1.out.lt;clear x1 HX0 HB0 HR0 hc;have xb:Ext w1 (w1.alloc (.cells #[.slice none 0 0,.slice none 0 0] 126)):=X_
 have HS0:=hid (show SB p w.heap.size (w.heap.size+1) w1.heap.size w1.heap.size a1 a2 c1 c2 (w1.alloc (.cells #[.slice none 0 0,.slice none 0 0] 126)) [] (.slice none 0 0) [] (.slice none 0 0) from
  ⟨HB1.out.ext xb,HR1.out.ext xb,Blk.new w1 126 [.slice none 0 0,.slice none 0 0],OwnG.nil _ _ _ _ _,OwnStrs.nil _ _,⟨Nat.le_refl _,zw1⟩⟩)
 have HXb:=hid (HX1.out.trans xb);have q1:=(HB1.out.ext xb).cell 1 rfl;clear xb HB1 HR1;go_wp2_with fail
 go_loopw [23] (fun i wr=>∃(k:Nat) (lv:Value),k≤p.gs.length∧i = .int .i64 (k:Nat)∧SB p w.heap.size (w.heap.size+1) w1.heap.size w1.heap.size a1 a2 c1 c2 wr [] (.slice none 0 0) ((p.gs.take k).map (·.name)) lv∧Ext w wr) (fun i _=>p.gs.length - (intOf i).toNat)
 case atStart=>exact ⟨0,_,by omega,rfl,HS0.out,HXb.out⟩
 case round=>
  clear HS0 HXb q1;obtain ⟨k,lv,hk,rfl,hS,hx⟩:=hrel
  by_cases hlt:k<p.gs.length
  ·obtain ⟨b,off,s,rt,rfl,hb1,hbw,hdrop,hget,ir,y0,y1⟩:=HGG.out.at hlt hx hh
   have HG1:=hid hget
   obtain ⟨NL,hNL⟩:∃N,(p.gs.take k).map (·.name)=N:=⟨_,rfl⟩
   have hNl:NL.length≤200:=by rw [←hNL,List.length_map,List.length_take];omega
   rw [hNL] at hS;have HNL:=hid hNL;obtain ⟨la,lc,rfl,-⟩:=hS.loc.form;have HS:=hid hS;have HX:=hid hx;have yA:Ext wr ((wr.alloc (.cells #[.string s,.int .i64 rt] 194)).alloc (.cells #[.string s] 9)):=X_;have HY:=hid yA;have HSy:=hid (hS.ext yA);have b6:=Blk.new (wr.alloc (.cells #[.string s,.int .i64 rt] 194)) 9 [.string s];rw [World.size_alloc] at b6;have HB6:=hid b6;obtain ⟨cc0,cc1⟩:=hS.code.q2;have cf1:=hS.code.free 1;have cl:=hS.code.lt;have zr:=hx.size;have zy:=yA.size;clear hS hx hNL hdrop hget yA b6;go_wp2_with (at_builtin;refine wpList_append_str _ rfl _ _ rfl w1.heap.size (.slice la NL.length lc) NL rfl ?_ s (wr.heap.size+1) rfl ?_ ?_ ?_ ?_)
   ·exact HSy.out.loc
   ·exact HB6.out.cell 0 rfl
   ·omega
   ·exact Nat.le_trans (Nat.le_of_lt cl) zy
   intro lv2 w8 hown hg;have hrow:=OwnStrs.row HSy.out.loc
   have kC:w8.heap[w1.heap.size]?=((wr.alloc (.cells #[.string s,.int .i64 rt] 194)).alloc (.cells #[.string s] 9)).heap[w1.heap.size]?:=hg.block _ (by omega) (fun e=>by
    obtain ⟨_,c,hc⟩:=hrow _ e.symm
    exact HSy.out.code.noCells (by decide) c hc)
   have K8:KN w1.heap.size w1.heap.size 9 wr w8:=((KN.refl _ _ _ _).ext HY.out).grown hg hrow;have C8:=HSy.out.code.of kC;have O9:=KN.strs hown ((KN.refl w1.heap.size w1.heap.size 197 w8).set (Nat.le_refl _) 1 lv2) (C8.noCells (by decide)) (by decide);have HS9:=hid (HS.out.knS (K8.set (Nat.le_refl _) 1 lv2) (C8.set 1 lv2) O9);have HX9:=hid ((K8.set (Nat.le_refl _) 1 lv2).up HX.out (Nat.le_of_lt (by omega)));obtain ⟨la2,lc2,hv2,_⟩:=hown.form
   have hll2:(NL++[s]).length=NL.length+1:=by simp
   rw [hll2] at hv2;subst hv2;have e1':=C8.cell 1 rfl;have g1':=C8.free 1;have c8l:=C8.lt;clear hown hg hrow kC K8 C8 O9 HSy HY cc0 cc1 cf1;go_wp2_with fail;go_roundw
   case rel=>
    have e2:NL++[s]=(p.gs.take (k+1)).map (·.name):=by rw [List.take_add_one,HG1.out,List.map_append,HNL.out];rfl
    have HS10:=HS9.out;rw [e2] at HS10;exact ⟨k+1,_,by omega,by go_num,HS10,HX9.out⟩
   case measure=>simp [intOf];omega
  ·obtain rfl:k=p.gs.length:=by omega
   rw [List.take_length] at hS
   obtain ⟨NL,hNL⟩:∃N,p.gs.map (·.name)=N:=⟨_,rfl⟩
   have hNl:NL.length=p.gs.length:=by rw [←hNL,List.length_map]
   rw [hNL] at hS;have HNL:=hid hNL;have HNl:=hid hNl;have HS:=hid hS;have HX:=hid hx;have q1:=hS.prog.cell 1 rfl;have ql:=hS.prog.lt;clear hS hx hNL hNl;go_wp2_with fail;clear q1 ql
   go_loopw [38] (fun i wr=>∃(k:Nat) (iv:Value),k≤p.gs.length∧i = .int .i64 (k:Nat)∧SB p w.heap.size (w.heap.size+1) w1.heap.size w1.heap.size a1 a2 c1 c2 wr (p.trs k) iv NL lv∧Ext w wr) (fun i _=>p.gs.length - (intOf i).toNat)
   case atStart=>exact ⟨0,_,by omega,rfl,HS.out,HX.out⟩
   case round=>
    clear HS HX;obtain ⟨k,iv,hk,rfl,hS,hx⟩:=hrel
    by_cases hlt:k<p.gs.length
    ·obtain ⟨b,off,s,rt,rfl,hb1,hbw,hdrop,hget,ir,y0,y1⟩:=HGG.out.at hlt hx hh
     have hrb:=(HP.out.v.ag k _ hget).2;simp only at hrb
     obtain ⟨r,rfl⟩:∃r:Nat,rt=r:=⟨rt.toNat,by omega⟩
     have hst:=Prg.trs_step hget;have hmo:=trs_mono (p:=p) (k:=k+1) p.gs.length (by omega) (Nat.le_refl _);have hcl2:(p.trs p.gs.length).length≤120:=HCL.out;simp only [Int.toNat_natCast] at hst
     have hle:(p.trs (k+1)).length=(p.trs k).length+(p.tr r).length+1:=by rw [hst];simp;omega
     have HST:=hid hst
     obtain ⟨L,hL⟩:∃L,p.trs k=L:=⟨_,rfl⟩
     rw [hL] at hS hle;have HL:=hid hL
     obtain ⟨T,hT⟩:∃T,p.tr r=T:=⟨_,rfl⟩
     rw [hT] at hle;have HT:=hid hT
     have hLl:L.length≤120:=by omega
     have hTl:T.length≤120:=by omega
     have HTl:=hid (show (p.tr r).length≤1000 by rw [hT];omega);obtain ⟨ia,ic,rfl,-⟩:=OwnG.form hS.ins;obtain ⟨la,lc,rfl,-⟩:=hS.loc.form;have yA:Ext wr (wr.alloc (.cells #[.string s,.int .i64 (r:Nat)] 194)):=X_;have HS:=hid hS;have HX:=hid hx;have HYA:=hid yA;have HSA:=hid (hS.ext yA);have bA:=Blk.new wr 194 [.string s,.int .i64 (r:Nat)];have HBA:=hid bA;obtain ⟨cc0,cc1⟩:=hS.code.q2;have cl:=hS.code.lt;obtain ⟨pp0,pp1⟩:=hS.prog.q2;have pl:=hS.prog.lt;have zr:=hx.size;have zy:=yA.size;rw [World.size_alloc] at zy;clear hS hx hdrop hget hst hL hT hle hmo hcl2 yA bA;go_wp2_with fail;refine wp_region_stagesS [([0,1,2,3,4,5,6],7),([],8),([9],10)] 10 (fun w'=>∃d,w'=lowc (C3b w1.heap.size wr.heap.size w.heap.size) _ d) (by kernel_rfl) (by kernel_rfl) (SC.drew _ _) ?_;refine sc_ fun K hK=>?_;go_wp2_with fail;refine (sTr_any lo hi w1.heap.size wr.heap.size p HP.out w wr a1 (some ⟨b,off,none⟩) c1 c2 HNN.out hh (.slice la NL.length lc) (by rw [HNL.out];exact HS.out.loc.strs) (Nat.le_refl _) (r+1) r _ (by omega) (by omega) (HX.out.trans X_) X_ HTl.out).mono ?_;rintro e w5 ⟨u,rfl,O5,x5⟩;rw [HT.out] at O5;have Y5:Ext (wr.alloc (.cells #[.string s,.int .i64 (r:Nat)] 194)) w5:=Ext.trans X_ x5;have HY5:=hid Y5;have HS5:=hid (HSA.out.ext Y5);have HA5:=hid (HBA.out.ext Y5);have HO5:=hid (OwnG.rd (sz:=3) O5 (fun _=>rfl));have z5:=Y5.size;rw [World.size_alloc] at z5;clear O5 x5 Y5;go_wp2_with fail;refine hK _ _ (.inr (SC.blocks fun a ha=>?_)) ?_
     ·rcases ha with ha|ha|ha
      ·exact HY5.out.block (by rw [ha,World.size_alloc];omega)
      ·exact HY5.out.block (by rw [ha,World.size_alloc];omega)
      ·exact HY5.out.block (by rw [ha,World.size_alloc];omega)
     clear hK K
     obtain ⟨M,hM⟩:∃M,L++T=M:=⟨_,rfl⟩
     have hMl:M.length≤300:=by rw [←hM,List.length_append];omega
     have HMM:=hid hM;refine sc_ fun K hK=>?_;refine wpList_append_cat Ins.cs 197 3 32 _ w5 rfl _ _ 123 rfl Tryz.underlying123 info_InsT rfl (by decide) (by decide) (fun _=>rfl) Ins.one w1.heap.size (.slice ia L.length ic) L rfl HS5.out.ins _ _ u T rfl HO5.out (by omega) (by omega) ?_;rw [hM];intro iv2 w6 hown hg;clear hM;have hrow:=OwnG.rowC HS5.out.ins
     have hother:∀{B:Nat} {t:TypeId} {cs:List Value},Blk w5 B t cs→t≠197→w6.heap[B]?=w5.heap[B]?:=fun hb ht=>hg.block _ hb.lt (fun e=>by
      obtain ⟨_,c,hc⟩:=hrow _ e.symm
      exact hb.noCells (Ne.symm ht) c hc)
     have kC:=hother HS5.out.code (by decide);have kA:=hother HA5.out (by decide);have kP:=hother HS5.out.prog (by decide);have K6:KN w1.heap.size w1.heap.size 197 (wr.alloc (.cells #[.string s,.int .i64 (r:Nat)] 194)) w6:=((KN.refl _ _ _ _).ext HY5.out).grown hg hrow;have C6:=HS5.out.code.of kC;have HS7:=hid (HSA.out.kn (K6.set (Nat.le_refl _) 0 iv2) (C6.set 0 iv2) (OwnG.set hown C6 (by decide) 0 iv2));have HX7:=hid ((K6.set (Nat.le_refl _) 0 iv2).up (HX.out.trans HYA.out) (by omega));obtain ⟨ia2,ic2,hv2,_⟩:=OwnG.form hown;subst hv2;obtain ⟨e0,e1⟩:=C6.q2;have g0:=C6.free 0;have c6l:=C6.lt;have kC2:=hid (kC.trans (HY5.out.block (by rw [World.size_alloc];omega)));have kA2:=hid (kA.trans (HY5.out.block (by rw [World.size_alloc];omega)));have kP2:=hid (kP.trans (HY5.out.block (by rw [World.size_alloc];omega)));clear hown hg hrow hother kC kA kP K6 C6;go_wp2_with fail;refine hK _ _ (.inr (SC.blocks fun a ha=>?_)) ?_
     ·rcases ha with ha|ha|ha
      ·rw [ha];exact kC2.out
      ·rw [ha];exact kA2.out
      ·rw [ha];exact kP2.out
     clear hK K;refine wpStagesS_cons ?_;simp only [List.filterMap_cons,List.filterMap_nil,List.getElem?_toArray,List.getElem?_cons_zero,List.getElem?_cons_succ]
     show wpQuiet _ _ _ _ [_] _
     simp only [Act.put,List.setIfInBounds_toArray,List.set_cons_succ,List.set_cons_zero,List.getElem_toArray,List.getElem_cons_succ,List.getElem_cons_zero]
     repeat (go_big_quiet_step (fail))
     refine wpQuiet_nil ⟨_,rfl,fun K hK=>?_⟩;go_wp2_with fail;refine hK _ _ (.inl trivial) ?_;clear hK K;refine wpStagesS_nil ?_;clear e0 e1 g0 cc0 cc1 pp0 pp1 kC2 kA2 kP2 HY5 HS5 HA5 HO5;have e0:=HS7.out.code.cell 0 rfl;have g0:=HS7.out.code.free 0;have el:=HS7.out.code.lt;have y7:Ext (w6.setCell ⟨w1.heap.size,0,none⟩ (.slice ia2 M.length ic2)) ((w6.setCell ⟨w1.heap.size,0,none⟩ (.slice ia2 M.length ic2)).alloc (.cells #[.int .i64 4,.string ⟨#[]⟩,.int .i64 (k:Nat)] 197)):=X_;have HI7:=hid (OwnG.ext HS7.out.ins y7);have HY7:=hid y7;have z7:=y7.size;clear y7;go_wp2_with (at_builtin;refine wpList_append_insn _ rfl _ _ rfl w1.heap.size (.slice ia2 M.length ic2) M rfl ?_ ⟨4,⟨#[]⟩,(k:Nat)⟩ w6.heap.size rfl ?_ ?_ ?_ ?_)
     ·exact HI7.out
     ·omega
     ·simp at c6l z7 ⊢;omega
     intro iv3 w8 hown hg;have hrow:=OwnG.rowC HI7.out
     have kC:w8.heap[w1.heap.size]?=(w6.setCell ⟨w1.heap.size,0,none⟩ (.slice ia2 M.length ic2)).heap[w1.heap.size]?:=(hg.block _ (by simp;omega) (fun e=>by
      obtain ⟨_,c,hc⟩:=hrow _ e.symm
      exact (HS7.out.code.ext HY7.out).noCells (by decide) c hc)).trans (HY7.out.block el)
     have K8:KN w1.heap.size w1.heap.size 197 (w6.setCell ⟨w1.heap.size,0,none⟩ (.slice ia2 M.length ic2)) w8:=((KN.refl _ _ _ _).ext HY7.out).grown hg hrow;have C8:=HS7.out.code.of kC;have HS9:=hid (HS7.out.kn (K8.set (Nat.le_refl _) 0 iv3) (C8.set 0 iv3) (OwnG.set hown C8 (by decide) 0 iv3));have HX9:=hid ((K8.set (Nat.le_refl _) 0 iv3).up HX7.out (by omega));obtain ⟨ia3,ic3,hv3,_⟩:=OwnG.form hown
     have hll:(M++[(⟨4,⟨#[]⟩,(k:Nat)⟩:Ins)]).length=M.length+1:=by simp
     rw [hll] at hv3;subst hv3;have f0:=C8.cell 0 rfl;have h0:=C8.free 0;have c8l:=C8.lt;clear hown hg hrow kC K8 C8 e0 g0 el;go_wp2_with fail;go_roundw
     case rel=>
      have e1:M++[(⟨4,⟨#[]⟩,(k:Nat)⟩:Ins)]=p.trs (k+1):=by rw [HST.out,HL.out,HT.out,←HMM.out,List.append_assoc]
      have HS10:=HS9.out;rw [e1] at HS10;exact ⟨k+1,_,by omega,by go_num,HS10,HX9.out⟩
     case measure=>simp [intOf];omega
    ·obtain rfl:k=p.gs.length:=by omega
     obtain ⟨ia,ic,rfl,-⟩:=OwnG.form hS.ins;obtain ⟨la,lc,rfl,-⟩:=hS.loc.form;obtain ⟨cc0,cc1⟩:=hS.code.q2;have cl:=hS.code.lt;obtain ⟨r0,r1⟩:=hS.res.q2;have f0:=hS.res.free 0;have f1:=hS.res.free 1;have rl:=hS.res.lt;have zX:=hx.size;have hSt:=hid (hS.loc.strs);have hI:=hid (hS.ins.inss (Nat.le_refl _) (H64.out _ (Nat.le_refl _)))
     have hcR:p.code.R w1.heap.size wr.heap.size wr (.agg #[.slice ia (p.trs p.gs.length).length ic,.slice la NL.length lc]):=⟨_,_,rfl,hI.out,by rw [show p.code.ls=NL from HNL.out];exact hSt.out⟩
     have HcR:=hid (hcR.same ((Same.setLow wr (p:=⟨w.heap.size+1,0,none⟩) (by simp only;omega) (.slice ia (p.trs p.gs.length).length ic)).trans (Same.setLow _ (p:=⟨w.heap.size+1,1,none⟩) (by simp only;omega) (.slice la NL.length lc))));have hXo:=hx;clear hS hcR;go_wp2;refine bodyPost_ret (v:=.tuple #[.agg #[.slice ia (p.trs p.gs.length).length ic,.slice la NL.length lc],.bool true]) (by simp [results,Tryz.results71,go_sem, *]) rfl ?_;exact ⟨_,rfl,HcR.out.wideC (by omega) (by simp),S_⟩
end
theorem Scn.Ok.shadeT {s:Scn} (ho:s.Ok) {q n:Nat} (hq:q<s.ps.length) (hn:1≤n∧n≤8) (f:Nat→Int):∃X Y,s.ps[q].code.shade (gridP f n s.t)=(X,Y,true):=by
 have hc:=ho.prg _ (List.getElem_mem hq);obtain ⟨X,Y,e,-⟩:=(Prg.chkB_K hc).shade hc (gridP_ok (f:=f) (n:=n) (t:=s.t) hn ho.t);exact ⟨X,Y,e⟩
theorem sIsValidScene_val {s:Scn} {b:Bool} (h:s.okB=b) (lo hi:Nat) (v:Value) (w:World) (hv:s.R lo hi w v) (hh:hi≤w.heap.size) (hsm:s.small):Calls Tryz.prog 69 #[v] w fun e w'=>e = .returned (.bool b)∧Ext w w':=h▸sIsValidScene_any s lo hi v w hv hh hsm
theorem sShadeSurface_no (s:Scn) (lo hi:Nat) (v:Value) (k:Int) (w:World) (hv:s.R lo hi w v) (hh:hi≤w.heap.size) (hsm:s.small) (hb:(s.okB&&inB k 0 ((s.m:Int) - 1))=false) :
  Calls Tryz.prog 26 #[v,.int .i64 k] w fun e w'=>e = .returned (.tuple #[.slice none 0 0,.slice none 0 0,.bool false])∧Ext w w':=by
 have HV:=hid hv;have HSM:=hid hsm;obtain ⟨a1,c1,a2,c2,a3,c3,rfl,-,-,-,-,-,h3⟩:=hv.form;have hcap:=h3.cap;have hle:=h3.le;have x0:Ext w (w.alloc (.cells #[.int .i64 s.c.w,.int .i64 s.c.h,.int .i64 s.c.zoom,.int .i64 s.c.near,.bool s.c.deep,.int .i64 s.c.lens,.int .i64 s.c.focus,.int .i64 s.t.log,.slice a1 s.t.px.length c1,.slice a2 s.ps.length c2,.slice a3 s.m c3,.int .i64 s.side] 31)):=X_;have b0:=Blk.new w 31 [.int .i64 s.c.w,.int .i64 s.c.h,.int .i64 s.c.zoom,.int .i64 s.c.near,.bool s.c.deep,.int .i64 s.c.lens,.int .i64 s.c.focus,.int .i64 s.t.log,.slice a1 s.t.px.length c1,.slice a2 s.ps.length c2,.slice a3 s.m c3,.int .i64 s.side];have HX0:=hid x0;have HB0:=hid b0
 cases hok:s.okB
 ·have HO:=hid hok
  clear hv hsm hb h3 x0 b0 hok;go_enter Tryz.func26,Tryz.ntmps26;go_wp2_with fail;refine (sIsValidScene_val HO.out lo hi _ _ (HV.out.ext hh HX0.out) (Nat.le_trans hh HX0.out.size) HSM.out).mono ?_;rintro e w1 ⟨rfl,x1⟩;go_wp2
  go_ret3
  exact ⟨rfl,HX0.out.trans x1⟩
 ·have hb2:inB k 0 ((s.m:Int) - 1)=false:=by rw [hok] at hb;simpa using hb
  have HO:=hid hok;have HB2:=hid hb2;clear hv hsm hb h3 x0 b0 hok hb2;go_enter Tryz.func26,Tryz.ntmps26;go_wp2_with fail;refine (sIsValidScene_val HO.out lo hi _ _ (HV.out.ext hh HX0.out) (Nat.le_trans hh HX0.out.size) HSM.out).mono ?_;rintro e w1 ⟨rfl,x1⟩;have c10:=(HB0.out.ext x1).cell 10 rfl;have cl:=(HB0.out.ext x1).lt;have HX1:=hid (HX0.out.trans x1);clear x1;go_wp2_with fail;refine (l01In_val HB2.out _).mono ?_;rintro e w2 ⟨rfl,rfl⟩;go_wp2
  go_ret3
  exact ⟨rfl,HX1.out⟩
theorem sShadeSurface_any (s:Scn) (lo hi:Nat) (v:Value) (k:Nat) (w:World) (hv:s.R lo hi w v) (hh:hi≤w.heap.size) (ho:s.Ok) (hsm:s.small) (hk:k<s.m) :
  Calls Tryz.prog 26 #[v,.int .i64 (k:Nat)] w fun e w'=>∃r1 r2,e = .returned (.tuple #[r1,r2,.bool true])∧Ints 0 w'.heap.size w' r1 (s.shade k).1∧Ints 0 w'.heap.size w' r2 (s.shade k).2∧Ext w w':=by
 obtain ⟨q,n,hsh,hq,hrt,hn1,hn8,hpf,hpg⟩:=ho.at hk;have HV:=hid hv;have HO:=hid (Scn.okB_iff.2 ho);have HSM:=hid hsm;have hin:inB ((k:Nat):Int) 0 ((s.m:Int) - 1)=true:=inB_iff.2 ⟨by omega,by omega⟩;have HIN:=hid hin;obtain ⟨XX,YY,hxy⟩:=ho.shadeT hq ⟨hn1,hn8⟩ (s.st k);obtain ⟨a1,c1,a2,c2,a3,c3,rfl,-,hlog,-,h1,h2,h3⟩:=hv.form;have hcap:=h3.cap;have hle:=h3.le;have le2:=h2.le;have cap2:=h2.cap;obtain ⟨b,off,rfl,hb1,hb2,hcell⟩:=h3.at hk (by decide)
 obtain ⟨f,hf⟩:∃f,s.st k=f:=⟨_,rfl⟩
 obtain ⟨g,hg⟩:∃f,s.en k=f:=⟨_,rfl⟩
 have bw:b<w.heap.size:=by omega
 have hcs:w.rangeAt b (off+k*26) ((List.range 26).map fun j=>.int .i64 (s.F (k*26+j))):=by
  intro j v hj;obtain ⟨h1,h2⟩:=List.getElem?_eq_some_iff.1 hj;simp only [List.length_map,List.length_range] at h1;simp only [List.getElem_map,List.getElem_range] at h2;subst h2;exact hcell j h1
 change w.rangeAt b (off+k*26) [.int .i64 (s.st k 0),.int .i64 (s.st k 1),.int .i64 (s.st k 2),.int .i64 (s.st k 3),.int .i64 (s.st k 4),.int .i64 (s.st k 5),.int .i64 (s.st k 6),.int .i64 (s.st k 7),.int .i64 (s.st k 8),.int .i64 (s.st k 9),.int .i64 (s.st k 10),.int .i64 (s.st k 11),.int .i64 (s.en k 0),.int .i64 (s.en k 1),.int .i64 (s.en k 2),.int .i64 (s.en k 3),.int .i64 (s.en k 4),.int .i64 (s.en k 5),.int .i64 (s.en k 6),.int .i64 (s.en k 7),.int .i64 (s.en k 8),.int .i64 (s.en k 9),.int .i64 (s.en k 10),.int .i64 (s.en k 11),.int .i64 (s.sh k),.int .i64 (s.rt k)] at hcs;simp only [hf,hg,hsh,hrt] at hcs;have hshd:=Scn.shade_at hsh hq hrt;rw [hf] at hshd hpf hxy;have hchk:=ho.prg _ (List.getElem_mem hq);have hsp:=hsm _ (List.getElem_mem hq);have htok:=Tex.okB_iff.1 ho.t;have H1:=hid h1;have H2:=hid h2;have HCS:=hid hcs;have HLOG:=hid hlog;have hTR:=hid (show ∀W:World,Ext w W→TexR lo hi W (.agg #[.int .i64 s.t.log,.slice a1 s.t.px.length c1]) s.t from fun W x=>⟨_,rfl,hlog,(h1.shut).ext hh x⟩);have HCH:=hid hchk;have HSP:=hid hsp;have HTO:=hid htok;have HPF:=hid hpf;have HSD:=hid hshd;have HXYT:=hid hxy;have x2:Ext w (w.alloc (.cells #[.int .i64 s.c.w,.int .i64 s.c.h,.int .i64 s.c.zoom,.int .i64 s.c.near,.bool s.c.deep,.int .i64 s.c.lens,.int .i64 s.c.focus,.int .i64 s.t.log,.slice a1 s.t.px.length c1,.slice a2 s.ps.length c2,.slice (some ⟨b,off,none⟩) s.m c3,.int .i64 s.side] 31)):=X_;have bS:=Blk.new w 31 [.int .i64 s.c.w,.int .i64 s.c.h,.int .i64 s.c.zoom,.int .i64 s.c.near,.bool s.c.deep,.int .i64 s.c.lens,.int .i64 s.c.focus,.int .i64 s.t.log,.slice a1 s.t.px.length c1,.slice a2 s.ps.length c2,.slice (some ⟨b,off,none⟩) s.m c3,.int .i64 s.side];clear hv h1 h2 h3 hcs hchk hsp htok hpf hpg hshd hsh hrt hcell hf hg hlog hin ho hsm hxy;have HX0:=hid x2;have HS:=hid bS;clear x2 bS;go_enter Tryz.func26,Tryz.ntmps26;go_wp2_with fail;refine (sIsValidScene_val HO.out lo hi _ _ (HV.out.ext hh HX0.out) (Nat.le_trans hh HX0.out.size) HSM.out).mono ?_;rintro e W0 ⟨rfl,x1⟩;have x2:=HX0.out.trans x1;have bS:=HS.out.ext x1;clear HX0 HS x1;have HX0:=hid x2;have HS:=hid bS;have d10:=bS.cell 10 rfl;have ls:=bS.lt;clear x2 bS;go_wp2_with fail;refine (l01In_val HIN.out _).mono ?_;rintro e w2 ⟨rfl,rfl⟩;have hc0:W0.rangeAt b (off+k*26) [.int .i64 (f 0),.int .i64 (f 1),.int .i64 (f 2),.int .i64 (f 3),.int .i64 (f 4),.int .i64 (f 5),.int .i64 (f 6),.int .i64 (f 7),.int .i64 (f 8),.int .i64 (f 9),.int .i64 (f 10),.int .i64 (f 11),.int .i64 (g 0),.int .i64 (g 1),.int .i64 (g 2),.int .i64 (g 3),.int .i64 (g 4),.int .i64 (g 5),.int .i64 (g 6),.int .i64 (g 7),.int .i64 (g 8),.int .i64 (g 9),.int .i64 (g 10),.int .i64 (g 11),.int .i64 (q:Nat),.int .i64 (n:Nat)]:=fun j v hj=>(HX0.out.cells.1 b _ bw).trans (HCS.out j v hj);have HC0:=hid hc0
 have lb:b<W0.heap.size:=by have:=HX0.out.size;omega
 clear hc0;go_upto_region 4 with (first|(show wpList _ _ _ [_,_,_] _ _;refine wpList_load_mid rfl _ _ rfl b (off+k*26) rfl [.int .i64 (f 0),.int .i64 (f 1),.int .i64 (f 2),.int .i64 (f 3),.int .i64 (f 4),.int .i64 (f 5),.int .i64 (f 6),.int .i64 (f 7),.int .i64 (f 8),.int .i64 (f 9),.int .i64 (f 10),.int .i64 (f 11),.int .i64 (g 0),.int .i64 (g 1),.int .i64 (g 2),.int .i64 (g 3),.int .i64 (g 4),.int .i64 (g 5),.int .i64 (g 6),.int .i64 (g 7),.int .i64 (g 8),.int .i64 (g 9),.int .i64 (g 10),.int .i64 (g 11),.int .i64 (q:Nat),.int .i64 (n:Nat)] _ HC0.out Tryz.underlying42 rfl info_srfS ?_)|(show wpList _ _ _ [_] _ _;refine wpList_store_fresh _ _ _ rfl 42 (.tmp 7) (.tmp 28) rfl rfl #[.int .i64 (f 0),.int .i64 (f 1),.int .i64 (f 2),.int .i64 (f 3),.int .i64 (f 4),.int .i64 (f 5),.int .i64 (f 6),.int .i64 (f 7),.int .i64 (f 8),.int .i64 (f 9),.int .i64 (f 10),.int .i64 (f 11),.int .i64 (g 0),.int .i64 (g 1),.int .i64 (g 2),.int .i64 (g 3),.int .i64 (g 4),.int .i64 (g 5),.int .i64 (g 6),.int .i64 (g 7),.int .i64 (g 8),.int .i64 (g 9),.int .i64 (g 10),.int .i64 (g 11),.int .i64 (q:Nat),.int .i64 (n:Nat)] W0.heap.size rfl rfl rfl (by kernel_rfl) (by kernel_rfl) (by kernel_rfl) ?_));have xA:Ext W0 (W0.alloc (.cells #[.int .i64 (f 0),.int .i64 (f 1),.int .i64 (f 2),.int .i64 (f 3),.int .i64 (f 4),.int .i64 (f 5),.int .i64 (f 6),.int .i64 (f 7),.int .i64 (f 8),.int .i64 (f 9),.int .i64 (f 10),.int .i64 (f 11),.int .i64 (g 0),.int .i64 (g 1),.int .i64 (g 2),.int .i64 (g 3),.int .i64 (g 4),.int .i64 (g 5),.int .i64 (g 6),.int .i64 (g 7),.int .i64 (g 8),.int .i64 (g 9),.int .i64 (g 10),.int .i64 (g 11),.int .i64 (q:Nat),.int .i64 (n:Nat)] 42)):=X_;have bA:=Blk.new W0 42 [.int .i64 (f 0),.int .i64 (f 1),.int .i64 (f 2),.int .i64 (f 3),.int .i64 (f 4),.int .i64 (f 5),.int .i64 (f 6),.int .i64 (f 7),.int .i64 (f 8),.int .i64 (f 9),.int .i64 (f 10),.int .i64 (f 11),.int .i64 (g 0),.int .i64 (g 1),.int .i64 (g 2),.int .i64 (g 3),.int .i64 (g 4),.int .i64 (g 5),.int .i64 (g 6),.int .i64 (g 7),.int .i64 (g 8),.int .i64 (g 9),.int .i64 (g 10),.int .i64 (g 11),.int .i64 (q:Nat),.int .i64 (n:Nat)]
 obtain ⟨A,hA⟩:∃A,W0.heap.size=A:=⟨_,rfl⟩
 obtain ⟨W1,hW1⟩:∃W1,W0.alloc (.cells #[.int .i64 (f 0),.int .i64 (f 1),.int .i64 (f 2),.int .i64 (f 3),.int .i64 (f 4),.int .i64 (f 5),.int .i64 (f 6),.int .i64 (f 7),.int .i64 (f 8),.int .i64 (f 9),.int .i64 (f 10),.int .i64 (f 11),.int .i64 (g 0),.int .i64 (g 1),.int .i64 (g 2),.int .i64 (g 3),.int .i64 (g 4),.int .i64 (g 5),.int .i64 (g 6),.int .i64 (g 7),.int .i64 (g 8),.int .i64 (g 9),.int .i64 (g 10),.int .i64 (g 11),.int .i64 (q:Nat),.int .i64 (n:Nat)] 42)=W1:=⟨_,rfl⟩
 rw [hW1] at xA bA ⊢;rw [hA] at bA ls lb ⊢;have X1:=hid (HX0.out.trans xA);have S1:=HS.out.ext xA;have HS1:=hid S1;have HA1:=hid bA;have d9:=S1.cell 9 rfl;have ls1:=S1.lt;have e24:=bA.cell 24 rfl;have lA:=bA.lt;obtain ⟨b2,off2,na,nc,ga,gc,rfl,hbw2,hbr2,k1,k2,hR⟩:=H2.out.at hq X1.out hh;have HR:=hid hR;clear hW1 hA xA bA S1 hR d10 ls lb HS HX0 HC0 HCS;go_wp2_with fail;refine (sCompile_any lo hi _ (s.ps[q]'hq) _ HR.out (Nat.le_trans hh X1.out.size) HCH.out HSP.out.1 HSP.out.2.1.1 HSP.out.2.2).mono ?_;rintro e w5 ⟨u,rfl,R5,x5⟩
 obtain ⟨K,hK⟩:∃K,(s.ps[q]'hq).code=K:=⟨_,rfl⟩
 have HKK:=hid (show K.small by rw [←hK];exact ⟨by have:=code_len (Prg.chkB_K HCH.out);omega,by show ((s.ps[q]'hq).gs.map (·.name)).length≤1048576;rw [List.length_map];exact HSP.out.2.2⟩);have HKD:=hid hK;rw [hK] at R5;obtain ⟨a5,c5,a6,c6,rfl,-,-⟩:=R5.form;have y5:Ext w5 (w5.alloc (.cells #[.slice a5 K.xs.length c5,.slice a6 K.ls.length c6] 126)):=X_;have bC:=Blk.new w5 126 [.slice a5 K.xs.length c5,.slice a6 K.ls.length c6];have HC5:=hid (R5.ext (Nat.le_refl _) y5);have X5:=hid (X1.out.trans (x5.trans y5));have S5:=HS1.out.ext (x5.trans y5);have A5:=HA1.out.ext (x5.trans y5);have HB5:=hid bC;have z5:=(x5.trans y5).size;have zw5:=y5.size;have zx5:=x5.size;have d7:=S5.cell 7 rfl;have d8:=S5.cell 8 rfl;have ls5:=S5.lt;obtain ⟨e0,e1,e2,e3,e4,e5,e6,e7,e8,e9,e10,e11⟩:=A5.q12;have e25:=A5.cell 25 rfl;have lA5:=A5.lt;clear R5 x5 y5 bC S5 A5 d9 ls1 e24 lA k1 k2 hK HS1 HR;go_wp2_with fail;refine (sGridR_any lo hi f HPF.out n ⟨hn1,hn8⟩ 0 ⟨by decide,by decide⟩ _ s.t _ (hTR.out _ X5.out) (Nat.le_trans hh X5.out.size) HTO.out).mono ?_;rintro e w6 ⟨gv,rfl,R6,x6⟩
 obtain ⟨g1,g2,hg⟩:∃g:Grd,gridP f n s.t=g∧True:=⟨_,rfl,trivial⟩
 have HGD:=hid g2;change (gridP f n s.t).R _ _ _ _ at R6;rw [g2] at R6;obtain ⟨a7,c7,a8,c8,rfl⟩:=Grd.R.formS R6;have y6:Ext w6 (w6.alloc (.cells #[.int .i64 g1.n,.slice a7 g1.m c7,.int .i64 g1.tm,.int .i64 g1.t.log,.slice a8 g1.t.px.length c8] 135)):=X_;have bG:=Blk.new w6 135 [.int .i64 g1.n,.slice a7 g1.m c7,.int .i64 g1.tm,.int .i64 g1.t.log,.slice a8 g1.t.px.length c8];have HG6:=hid (R6.ext (Nat.le_refl _) y6);have X6:=hid (X5.out.trans (x6.trans y6));have B6:=HB5.out.ext (x6.trans y6);have HC6:=hid (HC5.out.ext (by have:=zw5;omega) (x6.trans y6));have z6:=(x6.trans y6).size;have zw6:=y6.size;obtain ⟨f0,f1⟩:=B6.q2;have lB6:=B6.lt;obtain ⟨i0,i1,i2,i3,i4⟩:=bG.q5;have lG:=bG.lt;clear R6 x6 y6 bG B6 hg g2 d7 d8 ls5 e0 e1 e2 e3 e4 e5 e6 e7 e8 e9 e10 e11 e25 lA5;go_wp2_with fail
 have hXY:K.shade g1=(XX,YY,true):=by rw [←HKD.out,←HGD.out];exact HXYT.out
 have hXY2:(s.shade k).1=XX∧(s.shade k).2=YY:=by
  rw [HSD.out,HKD.out,HGD.out,hXY];exact ⟨rfl,rfl⟩
 have HE:=hid hXY2;have HXY:=hid hXY;clear hXY hXY2;refine (sShadeGrid_any _ _ _ _ _ _ K g1 _ HXY.out HC6.out (by omega) HG6.out (by omega) HKK.out).mono ?_;rintro e w7 ⟨r1,r2,rfl,O1,O2,x7⟩;have X7:=hid (X6.out.trans x7);have HO1:=hid O1;have HO2:=hid O2;clear O1 O2 x7 f0 f1 lB6 i0 i1 i2 i3 i4 lG;go_wp2
 go_ret3
 exact ⟨r1,r2,rfl,by rw [HE.out.1];exact HO1.out,by rw [HE.out.2];exact HO2.out,X7.out⟩
open Classical in
noncomputable def Scn.shd (s:Scn) (k:Int):List Int×List Int×Bool:=if (s.okB&&inB k 0 ((s.m:Int) - 1))=true then ((s.shade k.toNat).1,(s.shade k.toNat).2,true) else ([],[],false)
theorem Scn.shd_cases {s:Scn} {k:Int} {X Y:List Int} {b:Bool} (h:s.shd k=(X,Y,b)) :
  (∃q:Nat,k=q∧s.Ok∧q<s.m∧X=(s.shade q).1∧Y=(s.shade q).2∧b=true)∨((s.okB&&inB k 0 ((s.m:Int) - 1))=false∧X=[]∧Y=[]∧b=false):=by
 unfold Scn.shd at h
 split at h
 ·rename_i h1
  simp only [Bool.and_eq_true] at h1;have h2:=inB_iff.1 h1.2;simp only [Prod.mk.injEq] at h;exact .inl ⟨k.toNat,by omega,Scn.okB_iff.1 h1.1,by omega,h.1.symm,h.2.1.symm,h.2.2.symm⟩
 ·rename_i h1
  simp only [Prod.mk.injEq] at h;exact .inr ⟨by simpa using h1,h.1.symm,h.2.1.symm,h.2.2.symm⟩
theorem Scn.shd_len {s:Scn} {k:Int} {X Y:List Int} {b:Bool} (h:s.shd k=(X,Y,b)):X.length≤64∧Y.length≤64:=by
 rcases Scn.shd_cases h with ⟨q,_,ho,hq,rfl,rfl,_⟩|⟨_,rfl,rfl,_⟩
 ·obtain ⟨q',n,h1,h2,h3,h4,h5,_⟩:=ho.at hq
  have h6:=ho.shade hq;rw [h3,Int.toNat_natCast] at h6;have:n*n≤8*8:=Nat.mul_le_mul h5 h5;omega
 ·simp
theorem iShadeSurf_no (s:Scn) (lo hi:Nat) (v:Value) (k:Int) (w:World) (hv:s.R lo hi w v) (hh:hi≤w.heap.size) (hsm:s.small) (hb:(s.okB&&inB k 0 ((s.m:Int) - 1))=false) :
  Calls Tryz.prog 13 #[v,.int .i64 k] w fun e w'=>e = .returned (.tuple #[.slice none 0 0,.slice none 0 0,.bool false])∧Ext w w':=by
 have HV:=hid hv;obtain ⟨a1,c1,a2,c2,a3,c3,rfl⟩:=hv.formV;have HSM:=hid hsm;have HBB:=hid hb;have x0:Ext w (w.alloc (.cells #[.int .i64 s.c.w,.int .i64 s.c.h,.int .i64 s.c.zoom,.int .i64 s.c.near,.bool s.c.deep,.int .i64 s.c.lens,.int .i64 s.c.focus,.int .i64 s.t.log,.slice a1 s.t.px.length c1,.slice a2 s.ps.length c2,.slice a3 s.m c3,.int .i64 s.side] 31)):=X_;have bS:=Blk.new w 31 [.int .i64 s.c.w,.int .i64 s.c.h,.int .i64 s.c.zoom,.int .i64 s.c.near,.bool s.c.deep,.int .i64 s.c.lens,.int .i64 s.c.focus,.int .i64 s.t.log,.slice a1 s.t.px.length c1,.slice a2 s.ps.length c2,.slice a3 s.m c3,.int .i64 s.side]
 obtain ⟨W0,hW0⟩:∃W0,w.alloc (.cells #[.int .i64 s.c.w,.int .i64 s.c.h,.int .i64 s.c.zoom,.int .i64 s.c.near,.bool s.c.deep,.int .i64 s.c.lens,.int .i64 s.c.focus,.int .i64 s.t.log,.slice a1 s.t.px.length c1,.slice a2 s.ps.length c2,.slice a3 s.m c3,.int .i64 s.side] 31)=W0:=⟨_,rfl⟩
 rw [hW0] at x0;have bS:Blk W0 w.heap.size 31 [.int .i64 s.c.w,.int .i64 s.c.h,.int .i64 s.c.zoom,.int .i64 s.c.near,.bool s.c.deep,.int .i64 s.c.lens,.int .i64 s.c.focus,.int .i64 s.t.log,.slice a1 s.t.px.length c1,.slice a2 s.ps.length c2,.slice a3 s.m c3,.int .i64 s.side]:=hW0▸bS;have HX0:=hid x0;have HS0:=hid bS;have HW0:=hid hW0;clear hv hsm hb x0 bS hW0;go_enter Tryz.func13,Tryz.ntmps13;go_upto_region 1 with fail;rw [HW0.out];have bs:=HS0.out.ext (Ext.refl _);obtain ⟨c0,c1,c2,c3,c4,c5,c6,c7,c8,c9,c10,c11⟩:=bs.q12;have ls:=bs.lt;clear bs;go_wp2_with fail;refine (iHasSurface_any s lo hi _ k W0 (HV.out.ext hh HX0.out) (Nat.le_trans hh HX0.out.size) HSM.out HBB.out).mono ?_;rintro e w3 ⟨rfl,x3⟩;have X3:=hid (HX0.out.trans x3);clear x3 ls c0 c1 c2 c3 c4 c5 c6 c7 c8 c9 c10 c11;go_wp2
 go_ret3
 exact ⟨rfl,X3.out⟩
theorem iShadeSurfO_any (s:Scn) (lo hi:Nat) (v:Value) (k:Nat) (w:World) (hv:s.R lo hi w v) (hh:hi≤w.heap.size) (ho:s.Ok) (hsm:s.small) (hk:k<s.m) :
  Calls Tryz.prog 13 #[v,.int .i64 (k:Nat)] w fun e w'=>∃r1 r2,e = .returned (.tuple #[r1,r2,.bool true])∧∃h,w.heap.size≤h∧h≤w'.heap.size∧IntsO w.heap.size h w' r1 (s.shade k).1∧IntsO h w'.heap.size w' r2 (s.shade k).2∧Ext w w':=by
 have HV:=hid hv;have hm5:=ho.m;obtain ⟨a1,c1,a2,c2,a3,c3,rfl⟩:=hv.formV;have HO:=hid ho;have HSM:=hid hsm
 have hb:(s.okB&&inB (k:Int) 0 ((s.m:Int) - 1))=true:=by
  rw [Scn.okB_iff.2 ho,Bool.true_and,inB_iff];omega
 have HBB:=hid hb;have x0:Ext w (w.alloc (.cells #[.int .i64 s.c.w,.int .i64 s.c.h,.int .i64 s.c.zoom,.int .i64 s.c.near,.bool s.c.deep,.int .i64 s.c.lens,.int .i64 s.c.focus,.int .i64 s.t.log,.slice a1 s.t.px.length c1,.slice a2 s.ps.length c2,.slice a3 s.m c3,.int .i64 s.side] 31)):=X_;have bS:=Blk.new w 31 [.int .i64 s.c.w,.int .i64 s.c.h,.int .i64 s.c.zoom,.int .i64 s.c.near,.bool s.c.deep,.int .i64 s.c.lens,.int .i64 s.c.focus,.int .i64 s.t.log,.slice a1 s.t.px.length c1,.slice a2 s.ps.length c2,.slice a3 s.m c3,.int .i64 s.side]
 obtain ⟨W0,hW0⟩:∃W0,w.alloc (.cells #[.int .i64 s.c.w,.int .i64 s.c.h,.int .i64 s.c.zoom,.int .i64 s.c.near,.bool s.c.deep,.int .i64 s.c.lens,.int .i64 s.c.focus,.int .i64 s.t.log,.slice a1 s.t.px.length c1,.slice a2 s.ps.length c2,.slice a3 s.m c3,.int .i64 s.side] 31)=W0:=⟨_,rfl⟩
 rw [hW0] at x0;have bS:Blk W0 w.heap.size 31 [.int .i64 s.c.w,.int .i64 s.c.h,.int .i64 s.c.zoom,.int .i64 s.c.near,.bool s.c.deep,.int .i64 s.c.lens,.int .i64 s.c.focus,.int .i64 s.t.log,.slice a1 s.t.px.length c1,.slice a2 s.ps.length c2,.slice a3 s.m c3,.int .i64 s.side]:=hW0▸bS;have HX0:=hid x0;have HS0:=hid bS;have HW0:=hid hW0;clear hv ho hsm hb x0 bS hW0;go_enter Tryz.func13,Tryz.ntmps13;go_upto_region 1 with fail;rw [HW0.out];have bs:=HS0.out.ext (Ext.refl _);obtain ⟨c0,c1,c2,c3,c4,c5,c6,c7,c8,c9,c10,c11⟩:=bs.q12;have ls:=bs.lt;clear bs;go_wp2_with fail;have CH:=iHasSurface_any s lo hi _ (k:Nat) W0 (HV.out.ext hh HX0.out) (Nat.le_trans hh HX0.out.size) HSM.out HBB.out;refine CH.mono ?_;clear CH;rintro e w3 ⟨rfl,x3⟩;have X3:=hid x3;clear x3;clear ls c0 c1 c2 c3 c4 c5 c6 c7 c8 c9 c10 c11;have bs:=HS0.out.ext X3.out;obtain ⟨c0,c1,c2,c3,c4,c5,c6,c7,c8,c9,c10,c11⟩:=bs.q12;have ls:=bs.lt;clear bs;go_wp2_with fail;have XX:=hid (HX0.out.trans X3.out);have CH:=iShade_any s lo hi _ k w3 (HV.out.ext hh XX.out) (Nat.le_trans hh XX.out.size) HO.out HSM.out hk;refine CH.mono ?_;clear CH;rintro e w5 ⟨r1,r2,rfl,h,hh1,hh2,O1,O2,x5⟩;obtain ⟨ra,rc,rfl⟩:=O1.form;obtain ⟨sa,sc,rfl⟩:=O2.form;have X5:=hid (XX.out.trans x5);have P1:=hid (O1.low' (lo':=w.heap.size) XX.out.size);have P2:=hid O2;have HH1:=hid (show w.heap.size≤h from Nat.le_trans XX.out.size hh1);have HH2:=hid hh2;clear O1 O2 x5 hh1 hh2;clear ls c0 c1 c2 c3 c4 c5 c6 c7 c8 c9 c10 c11;go_upto_region 4 with fail;refine wp_region_stages [([0,1,2,3,4,5],6)] 6 (w5.heap.size+1) (by kernel_rfl) (by kernel_rfl) ?_;refine st_ fun K hK=>?_;go_wp2_with fail;refine hK _ _ (.inl (by trivial)) ?_;clear hK K;refine wpStages_nil ?_;go_wp2
 go_ret3
 have xf:Ext w5 (w5.alloc (.cells #[.slice ra (s.shade k).1.length rc,.slice sa (s.shade k).2.length sc] 92)):=X_;have XF:=hid xf;have zf:=xf.size;clear xf;refine ⟨_,_,rfl,h,HH1.out,?_,?_,?_,X5.out.trans X_⟩
 ·have:=HH2.out;simp;omega
 ·exact P1.out.kp (Ext.kp X_ HH2.out)
 ·have h2:=P2.out
  exact ⟨h2.1.ext X_,fun q hq=>Nat.lt_of_lt_of_le (h2.2 q hq) (by simp)⟩
theorem sShadeSurf_val (lo hi:Nat) (v:Value) (s:Scn) (k:Int) (w:World) {X Y:List Int} {b:Bool} (hs:s.shd k=(X,Y,b)) (hv:s.R lo hi w v) (hh:hi≤w.heap.size) (hsm:s.small) :
  Calls Tryz.prog 26 #[v,.int .i64 k] w fun e w'=>∃r1 r2,e = .returned (.tuple #[r1,r2,.bool b])∧Ints 0 w'.heap.size w' r1 X∧Ints 0 w'.heap.size w' r2 Y∧Ext w w':=by
 rcases Scn.shd_cases hs with ⟨q,rfl,ho,hq,rfl,rfl,rfl⟩|⟨hb,rfl,rfl,rfl⟩
 ·exact sShadeSurface_any s lo hi v q w hv hh ho hsm hq
 ·refine (sShadeSurface_no s lo hi v k w hv hh hsm hb).mono ?_
  rintro e w' ⟨rfl,x⟩;exact shade_none' x
theorem iShadeSurf_val (lo hi:Nat) (v:Value) (s:Scn) (k:Int) (w:World) {X Y:List Int} {b:Bool} (hs:s.shd k=(X,Y,b)) (hv:s.R lo hi w v) (hh:hi≤w.heap.size) (hsm:s.small) :
  Calls Tryz.prog 13 #[v,.int .i64 k] w fun e w'=>∃r1 r2,e = .returned (.tuple #[r1,r2,.bool b])∧∃h,w.heap.size≤h∧h≤w'.heap.size∧IntsO w.heap.size h w' r1 X∧IntsO h w'.heap.size w' r2 Y∧Ext w w':=by
 rcases Scn.shd_cases hs with ⟨q,rfl,ho,hq,rfl,rfl,rfl⟩|⟨hb,rfl,rfl,rfl⟩
 ·exact iShadeSurfO_any s lo hi v q w hv hh ho hsm hq
 ·refine (iShadeSurf_no s lo hi v k w hv hh hsm hb).mono ?_
  rintro e w' ⟨rfl,x⟩;exact shade_none x
structure Shp (lo hi:Nat) (w w':World):Prop where
 part:Part lo hi w w'
 fr:∀b o,lo≤b→b<hi→w'.frozen? ⟨b,o,none⟩=w.frozen? ⟨b,o,none⟩
 sl:∀b o a n c,lo≤b→b<hi→w.cell? ⟨b,o,none⟩=some (.slice a n c)→w'.cell? ⟨b,o,none⟩=some (.slice a n c)
 int:∀b o x,lo≤b→b<hi→w.cell? ⟨b,o,none⟩=some (.int .i64 x)→∃y,w'.cell? ⟨b,o,none⟩=some (.int .i64 y)
 str:∀b o x,lo≤b→b<hi→w.cell? ⟨b,o,none⟩=some (.string x)→∃y,w'.cell? ⟨b,o,none⟩=some (.string y)
theorem Shp.size {lo hi:Nat} {w w':World} (h:Shp lo hi w w'):w.heap.size≤w'.heap.size:=h.part.size
theorem Shp.of {lo hi:Nat} {w w':World} (e:Ext w w') (hh:hi≤w.heap.size) (hl:lo≤hi):Shp lo hi w w' where
 part:=Part.of (row:=none) ⟨e.os,e.tape,e.output,e.size,fun i h _=>e.block h⟩ (fun k h=>by cases h) (by omega)
 fr b o h1 h2:=e.cells.2 b o (by omega)
 sl b o a n c h1 h2 h:=(e.cells.1 b o (by omega)).trans h
 int b o x h1 h2 h:=⟨x,(e.cells.1 b o (by omega)).trans h⟩
 str b o x h1 h2 h:=⟨x,(e.cells.1 b o (by omega)).trans h⟩
theorem Shp.refl {lo hi:Nat} {w:World} (hh:hi≤w.heap.size) (hl:lo≤hi):Shp lo hi w w:=Shp.of (Ext.refl w) hh hl
theorem Shp.trans {lo hi:Nat} {w w1 w2:World} (h:Shp lo hi w w1) (k:Shp lo hi w1 w2):Shp lo hi w w2 where
 part:=h.part.trans k.part
 fr b o h1 h2:=(k.fr b o h1 h2).trans (h.fr b o h1 h2)
 sl b o a n c h1 h2 e:=k.sl b o a n c h1 h2 (h.sl b o a n c h1 h2 e)
 int b o x h1 h2 e:=by obtain ⟨y,hy⟩:=h.int b o x h1 h2 e;exact k.int b o y h1 h2 hy
 str b o x h1 h2 e:=by obtain ⟨y,hy⟩:=h.str b o x h1 h2 e;exact k.str b o y h1 h2 hy
theorem Shp.ext {lo hi:Nat} {w w1 w2:World} (h:Shp lo hi w w1) (e:Ext w1 w2) (hh:hi≤w.heap.size) (hl:lo≤hi):Shp lo hi w w2:=h.trans (Shp.of e (Nat.le_trans hh h.size) hl)
theorem Part.set {lo hi:Nat} {w:World} {b o:Nat} (h1:lo≤b) (h2:b<hi) (hl:lo≤w.heap.size) (v:Value):Part lo hi w (w.setCell ⟨b,o,none⟩ v):=
 Part.of (row:=some b) ⟨rfl,rfl,rfl,by simp,fun k _ hne=>Below.heap_setCell _ _ _ _ (by simpa using hne)⟩ (fun k h=>by injection h with h;omega) hl
theorem Shp.setInt {lo hi:Nat} {w:World} {b o:Nat} {x:Int} (h1:lo≤b) (h2:b<hi) (hl:lo≤w.heap.size) (hc:w.cell? ⟨b,o,none⟩=some (.int .i64 x)) (y:Int):Shp lo hi w (w.setCell ⟨b,o,none⟩ (.int .i64 y)) where
 part:=Part.set h1 h2 hl _
 fr b' o' _ _:=World.frozen?_setCell _ _ _ _
 sl b' o' a n c _ _ e:=by
  refine (World.cell?_setCell_other _ _ _ _ (fun hh=>?_)).trans e;rw [hh] at hc;rw [hc] at e;cases e
 int b' o' z _ _ e:=by
  by_cases hh:(⟨b,o,none⟩:Addr)=⟨b',o',none⟩
  ·rw [←hh];exact ⟨y,World.cell?_setCell_same _ _ _ hc⟩
  ·exact ⟨z,(World.cell?_setCell_other _ _ _ _ hh).trans e⟩
 str b' o' z _ _ e:=by
  refine ⟨z,(World.cell?_setCell_other _ _ _ _ (fun hh=>?_)).trans e⟩;rw [hh] at hc;rw [hc] at e;cases e
theorem Shp.setStr {lo hi:Nat} {w:World} {b o:Nat} {x:ByteArray} (h1:lo≤b) (h2:b<hi) (hl:lo≤w.heap.size) (hc:w.cell? ⟨b,o,none⟩=some (.string x)) (y:ByteArray):Shp lo hi w (w.setCell ⟨b,o,none⟩ (.string y)) where
 part:=Part.set h1 h2 hl _
 fr b' o' _ _:=World.frozen?_setCell _ _ _ _
 sl b' o' a n c _ _ e:=by
  refine (World.cell?_setCell_other _ _ _ _ (fun hh=>?_)).trans e;rw [hh] at hc;rw [hc] at e;cases e
 str b' o' z _ _ e:=by
  by_cases hh:(⟨b,o,none⟩:Addr)=⟨b',o',none⟩
  ·rw [←hh];exact ⟨y,World.cell?_setCell_same _ _ _ hc⟩
  ·exact ⟨z,(World.cell?_setCell_other _ _ _ _ hh).trans e⟩
 int b' o' z _ _ e:=by
  refine ⟨z,(World.cell?_setCell_other _ _ _ _ (fun hh=>?_)).trans e⟩;rw [hh] at hc;rw [hc] at e;cases e
def CI (lo hi:Nat) (w:World) (b o:Nat):Prop:=lo≤b∧b<hi∧(∃x,w.cell? ⟨b,o,none⟩=some (.int .i64 x))∧w.frozen? ⟨b,o,none⟩=false
def CS (lo hi:Nat) (w:World) (b o:Nat):Prop:=lo≤b∧b<hi∧(∃x,w.cell? ⟨b,o,none⟩=some (.string x))∧w.frozen? ⟨b,o,none⟩=false
theorem CI.shp {lo hi:Nat} {w w':World} {b o:Nat} (h:CI lo hi w b o) (s:Shp lo hi w w'):CI lo hi w' b o:=by
 obtain ⟨h1,h2,⟨x,h3⟩,h4⟩:=h;exact ⟨h1,h2,s.int b o x h1 h2 h3,(s.fr b o h1 h2).trans h4⟩
theorem CS.shp {lo hi:Nat} {w w':World} {b o:Nat} (h:CS lo hi w b o) (s:Shp lo hi w w'):CS lo hi w' b o:=by
 obtain ⟨h1,h2,⟨x,h3⟩,h4⟩:=h;exact ⟨h1,h2,s.str b o x h1 h2 h3,(s.fr b o h1 h2).trans h4⟩
def IntsM (lo hi:Nat) (w:World) (v:Value) (n:Nat):Prop:=
 ∃a cap,v = .slice a n cap∧n≤cap∧cap≤9223372036854775807∧∀i,i<n→∃b off,a=some ⟨b,off,none⟩∧CI lo hi w b (off+i)
theorem IntsM.shp {lo hi:Nat} {w w':World} {v:Value} {n:Nat} (h:IntsM lo hi w v n) (s:Shp lo hi w w'):IntsM lo hi w' v n:=by
 obtain ⟨a,cap,h1,h2,h3,h4⟩:=h;refine ⟨a,cap,h1,h2,h3,fun i hi=>?_⟩;obtain ⟨b,off,e,hc⟩:=h4 i hi;exact ⟨b,off,e,hc.shp s⟩
def NdsM (lo hi:Nat) (w:World) (v:Value) (n:Nat):Prop:=
 ∃a cap,v = .slice a n cap∧n≤cap∧cap≤9223372036854775807∧∀i,i<n→∃b off a' m c',a=some ⟨b,off,none⟩∧CI lo hi w b (off+i*4)∧CS lo hi w b (off+i*4+1)∧CI lo hi w b (off+i*4+2)∧w.cell? ⟨b,off+i*4+3,none⟩=some (.slice a' m c')∧m≤1048576∧IntsM lo hi w (.slice a' m c') m
theorem NdsM.shp {lo hi:Nat} {w w':World} {v:Value} {n:Nat} (h:NdsM lo hi w v n) (s:Shp lo hi w w'):NdsM lo hi w' v n:=by
 obtain ⟨a,cap,h1,h2,h3,h4⟩:=h;refine ⟨a,cap,h1,h2,h3,fun i hi=>?_⟩;obtain ⟨b,off,a',m,c',e,k0,k1,k2,k3,k4,k5⟩:=h4 i hi;exact ⟨b,off,a',m,c',e,k0.shp s,k1.shp s,k2.shp s,s.sl _ _ _ _ _ k0.1 k0.2.1 k3,k4,k5.shp s⟩
def AsgsM (lo hi:Nat) (w:World) (v:Value) (n:Nat):Prop:=
 ∃a cap,v = .slice a n cap∧n≤cap∧cap≤9223372036854775807∧∀i,i<n→∃b off,a=some ⟨b,off,none⟩∧CS lo hi w b (off+i*2)∧CI lo hi w b (off+i*2+1)
theorem AsgsM.shp {lo hi:Nat} {w w':World} {v:Value} {n:Nat} (h:AsgsM lo hi w v n) (s:Shp lo hi w w'):AsgsM lo hi w' v n:=by
 obtain ⟨a,cap,h1,h2,h3,h4⟩:=h;refine ⟨a,cap,h1,h2,h3,fun i hi=>?_⟩;obtain ⟨b,off,e,k0,k1⟩:=h4 i hi;exact ⟨b,off,e,k0.shp s,k1.shp s⟩
def PrgsM (lo hi:Nat) (w:World) (v:Value) (n:Nat):Prop:=
 ∃a cap,v = .slice a n cap∧n≤cap∧cap≤9223372036854775807∧∀i,i<n→∃b off a1 m1 c1 a2 m2 c2,a=some ⟨b,off,none⟩∧lo≤b∧b<hi∧w.cell? ⟨b,off+i*2,none⟩=some (.slice a1 m1 c1)∧w.cell? ⟨b,off+i*2+1,none⟩=some (.slice a2 m2 c2)∧m1≤1048576∧m2≤1048576∧NdsM lo hi w (.slice a1 m1 c1) m1∧AsgsM lo hi w (.slice a2 m2 c2) m2
theorem PrgsM.shp {lo hi:Nat} {w w':World} {v:Value} {n:Nat} (h:PrgsM lo hi w v n) (s:Shp lo hi w w'):PrgsM lo hi w' v n:=by
 obtain ⟨a,cap,h1,h2,h3,h4⟩:=h;refine ⟨a,cap,h1,h2,h3,fun i hi=>?_⟩;obtain ⟨b,off,a1,m1,c1,a2,m2,c2,e,l1,l2,k1,k2,z1,z2,k3,k4⟩:=h4 i hi;exact ⟨b,off,a1,m1,c1,a2,m2,c2,e,l1,l2,s.sl _ _ _ _ _ l1 l2 k1,s.sl _ _ _ _ _ l1 l2 k2,z1,z2,k3.shp s,k4.shp s⟩
def SrfsM (lo hi:Nat) (w:World) (v:Value) (n:Nat):Prop:=
 ∃a cap,v = .slice a n cap∧n≤cap∧cap≤9223372036854775807∧∀i,i<n→∃b off,a=some ⟨b,off,none⟩∧CI lo hi w b (off+i*26+24)∧CI lo hi w b (off+i*26+25)
theorem SrfsM.shp {lo hi:Nat} {w w':World} {v:Value} {n:Nat} (h:SrfsM lo hi w v n) (s:Shp lo hi w w'):SrfsM lo hi w' v n:=by
 obtain ⟨a,cap,h1,h2,h3,h4⟩:=h;refine ⟨a,cap,h1,h2,h3,fun i hi=>?_⟩;obtain ⟨b,off,e,k0,k1⟩:=h4 i hi;exact ⟨b,off,e,k0.shp s,k1.shp s⟩
def digz (k r:Nat):Prop:=k<10 ^ (19 - r)∧k<4611686018427387904
theorem digz.next {k r:Nat} (h:digz k r) (hk:k≠0):r≠19∧digz (k / 10) (r+1)∧k<4611686018427387904:=by
 unfold digz at *;obtain ⟨h,h2⟩:=h
 have hr:r<19:=by
  by_cases e:r<19
  ·exact e
  ·rw [show 19 - r=0 by omega] at h
   simp at h;omega
 refine ⟨by omega,⟨?_,by omega⟩,h2⟩;rw [show 19 - r=(19 - (r+1))+1 by omega,Nat.pow_succ] at h;exact Nat.div_lt_of_lt_mul (by rw [Nat.mul_comm];exact h)
theorem digz.start {k:Nat} (h:k<4611686018427387904):digz k 0:=⟨by omega,h⟩
theorem markText64 (k0:Nat) (w:World) (h:k0<4611686018427387904):Calls Tryz.prog 201 #[.int .i64 k0] w fun e w'=>(∃s:ByteArray,e = .returned (.string s))∧Ext w w':=by
 by_cases h0:k0=0
 ·subst h0
  go_enter Tryz.func201,Tryz.ntmps201;go_wp2;go_ret;exact ⟨⟨_,rfl⟩,Ext.refl _⟩
 ·go_enter Tryz.func201,Tryz.ntmps201
  have hz:=hid h;clear h;go_wp2
  go_loopw [0,3] (fun kv sv wr=>∃(k r:Nat) (s:ByteArray),kv = .int .i64 k∧sv = .string s∧s.size≤r∧r≤19∧digz k r∧Ext w wr) (fun kv _ _=>(intOf kv).toNat)
  case atStart=>exact ⟨k0,0,_,rfl,rfl,by decide,by omega,digz.start hz.out,Ext.refl _⟩
  case round=>
   obtain ⟨k,r,s,rfl,rfl,hs,hr,hk,hx⟩:=hrel
   by_cases hk0:k=0
   ·subst hk0
    clear hk;go_wp2;go_ret;exact ⟨⟨_,rfl⟩,hx⟩
   ·obtain ⟨r19,hk2,hkb⟩:=hk.next hk0
    replace hk2:=hid hk2;have HX:=hid hx
    have hkb2:(k:Int)<4611686018427387904:=by omega
    clear hk hx hkb;clear hz
    obtain ⟨dd,hd1,hd2,hd3⟩:∃d:Int,(k:Int).tmod 10=d∧0≤d∧d<10:=⟨_,rfl,Int.tmod_nonneg _ (by omega),Int.tmod_lt_of_pos _ (by decide)⟩
    have hw:Hid (wrap64 ((k:Int) / 10)=((k / 10:Nat):Int)):=by show _=_;rw [IntWalk.wrap64_in _ ⟨by omega,by omega⟩];omega
    have hq:(k:Int).tdiv 10=((k / 10:Nat):Int):=by
     rw [Int.tdiv_eq_ediv_of_nonneg (by omega)];omega
    clear hkb2;obtain ⟨r1,hr1,hcv⟩:=conv1 wr (48+dd);have hsz:(r1++s).size=r1.size+s.size:=ByteArray.size_append;go_wp2;go_roundw
    case rel=>exact ⟨k / 10,r+1,r1++s,by first|rfl|trivial|rw [hw.out],rfl,by omega,by omega,hk2.out,HX.out.alloc _⟩
    case measure=>
     rw [hw.out];simp [intOf];omega
theorem markText64I (k0:Int) (w:World) (h0:0≤k0) (h:k0<4611686018427387904):Calls Tryz.prog 201 #[.int .i64 k0] w fun e w'=>(∃s:ByteArray,e = .returned (.string s))∧Ext w w':=by
 obtain ⟨k,rfl⟩:∃k:Nat,k0=k:=⟨k0.toNat,by omega⟩
 exact markText64 k w (by omega)
theorem markIntS_shp (lo hi:Nat) (v:Value) (n:Nat) (k0:Int) (w:World) (h:IntsM lo hi w v n) (hh:hi≤w.heap.size) (hl:lo≤hi) (h0:0≤k0) (h1:k0+n≤4611686018427387904) :
  Calls Tryz.prog 31 #[v,.int .i64 k0] w fun e w'=>e = .returned (.int .i64 (k0+n))∧Shp lo hi w w':=by
 have H:=hid h;obtain ⟨a,cap,rfl,z1,z2,-⟩:=h;go_enter Tryz.func31,Tryz.ntmps31;go_wp2
 go_loopw [1,5] (fun q i wr=>∃k:Nat,k≤n∧i = .int .i64 k∧q = .int .i64 (k0+(k:Nat))∧Shp lo hi w wr) (fun _ i _=>n - (intOf i).toNat)
 case atStart=>exact ⟨0,by omega,rfl,by simp,Shp.refl hh hl⟩
 case round=>
  obtain ⟨k,hk,rfl,rfl,hs⟩:=hrel
  by_cases hlt:k<n
  ·obtain ⟨a',cap',e',-,-,hcl⟩:=H.out.shp hs
   simp only [Value.slice.injEq] at e';obtain ⟨rfl,-,rfl⟩:=e';obtain ⟨b,off,rfl,l1,l2,⟨x,c⟩,f⟩:=hcl k hlt
   have bl:b<wr.heap.size:=by have:=hs.size;omega
   have HS:=hid hs;have HC:=hid c
   have zl:lo≤wr.heap.size:=by omega
   clear hs hcl;go_wp2;go_roundw
   case rel=>exact ⟨k+1,by omega,by go_num,by congr 1;omega,HS.out.trans (Shp.setInt l1 l2 zl HC.out _)⟩
   case measure=>simp [intOf];omega
  ·obtain rfl:k=n:=by omega
   go_wp2;go_ret;exact ⟨rfl,hs⟩
theorem markAsgS_shp (lo hi:Nat) (v:Value) (n:Nat) (k0:Int) (w:World) (h:AsgsM lo hi w v n) (hh:hi≤w.heap.size) (hl:lo≤hi) (h0:0≤k0) (h1:k0+n*2≤4611686018427380000) :
  Calls Tryz.prog 136 #[v,.int .i64 k0] w fun e w'=>(∃r,e = .returned (.int .i64 r)∧k0≤r∧r≤k0+n*2)∧Shp lo hi w w':=by
 have H:=hid h;obtain ⟨a,cap,rfl,z1,z2,-⟩:=h;go_enter Tryz.func136,Tryz.ntmps136;go_wp2
 go_loopw [1,5] (fun q i wr=>∃(k:Nat) (r:Int),k≤n∧i = .int .i64 k∧q = .int .i64 r∧k0≤r∧r≤k0+k*2∧Shp lo hi w wr) (fun _ i _=>n - (intOf i).toNat)
 case atStart=>exact ⟨0,k0,by omega,rfl,rfl,by omega,by omega,Shp.refl hh hl⟩
 case round=>
  obtain ⟨k,r,hk,rfl,rfl,q1,q2,hs⟩:=hrel
  by_cases hlt:k<n
  ·obtain ⟨a',cap',e',-,-,hcl⟩:=H.out.shp hs
   simp only [Value.slice.injEq] at e';obtain ⟨rfl,-,rfl⟩:=e';obtain ⟨b,off,rfl,C0,C1⟩:=hcl k hlt;have zs:=hs.size;have hC0:=hid C0;obtain ⟨l1,l2,-⟩:=C0
   have bl:b<wr.heap.size:=by omega
   have HS:=hid hs;have hC1:=hid C1
   have zl:lo≤wr.heap.size:=by omega
   have zh:hi≤wr.heap.size:=by omega
   clear hs hcl C1;go_wp2_with fail;refine (markText64I r _ (by omega) (by omega)).mono ?_;rintro e w2 ⟨⟨s2,rfl⟩,x2⟩;have S2:=Shp.of x2 zh hl;have z2:=x2.size;obtain ⟨-,-,⟨y0,d0⟩,f0⟩:=hC0.out.shp S2;obtain ⟨-,-,⟨y1,d1⟩,f1⟩:=hC1.out.shp S2;have S3:=Shp.setStr l1 l2 (show lo≤w2.heap.size by omega) d0 s2;obtain ⟨-,-,⟨y2,d2⟩,-⟩:=hC1.out.shp (S2.trans S3);have S4:=Shp.setInt l1 l2 (show lo≤(w2.setCell ⟨b,off+k*2,none⟩ (.string s2)).heap.size by simp;omega) d2 (r+1);have HS4:=hid (HS.out.trans (S2.trans (S3.trans S4)))
   have bl2:b<w2.heap.size:=by omega
   clear HS S2 S3 S4 x2 d2;go_wp2;go_roundw
   case rel=>exact ⟨k+1,r+1+1,by omega,by go_num,rfl,by omega,by omega,HS4.out⟩
   case measure=>simp [intOf];omega
  ·obtain rfl:k=n:=by omega
   go_wp2;go_ret;exact ⟨⟨_,rfl,q1,q2⟩,hs⟩
theorem markNodeS_shp (lo hi:Nat) (v:Value) (n:Nat) (k0:Int) (w:World) (h:NdsM lo hi w v n) (hh:hi≤w.heap.size) (hl:lo≤hi) (h0:0≤k0) (h1:k0+n*1048579≤4611686018427380000) :
  Calls Tryz.prog 135 #[v,.int .i64 k0] w fun e w'=>(∃r,e = .returned (.int .i64 r)∧k0≤r∧r≤k0+n*1048579)∧Shp lo hi w w':=by
 have H:=hid h;obtain ⟨a,cap,rfl,z1,z2,-⟩:=h;go_enter Tryz.func135,Tryz.ntmps135;go_wp2
 go_loopw [1,5] (fun q i wr=>∃(k:Nat) (r:Int),k≤n∧i = .int .i64 k∧q = .int .i64 r∧k0≤r∧r≤k0+k*1048579∧Shp lo hi w wr) (fun _ i _=>n - (intOf i).toNat)
 case atStart=>exact ⟨0,k0,by omega,rfl,rfl,by omega,by omega,Shp.refl hh hl⟩
 case round=>
  obtain ⟨k,r,hk,rfl,rfl,q1,q2,hs⟩:=hrel
  by_cases hlt:k<n
  ·obtain ⟨a',cap',e',-,-,hcl⟩:=H.out.shp hs
   simp only [Value.slice.injEq] at e';obtain ⟨rfl,-,rfl⟩:=e';obtain ⟨b,off,au,m,cu,rfl,C0,C1,C2,c3,hm,hI⟩:=hcl k hlt;have zs:=hs.size;obtain ⟨l1,l2,⟨x0,c0⟩,f0⟩:=C0
   have bl:b<wr.heap.size:=by omega
   have HS:=hid hs;have hC1:=hid C1;have hC2:=hid C2;have hC3:=hid c3;have hHI:=hid hI
   have zl:lo≤wr.heap.size:=by omega
   have zh:hi≤wr.heap.size:=by omega
   have S1:=Shp.setInt l1 l2 zl c0 r;have HS1:=hid S1;clear hs hcl C1 C2 c3 hI S1;go_wp2_with fail;refine (markText64I (r+1) _ (by omega) (by omega)).mono ?_;rintro e w2 ⟨⟨s2,rfl⟩,x2⟩;have z2:=x2.size;rw [World.size_setCell] at z2;have S2:=HS1.out.trans (Shp.of x2 (by simp;omega) hl);obtain ⟨-,-,⟨y1,d1⟩,f1⟩:=hC1.out.shp S2;obtain ⟨-,-,⟨y2,d2⟩,f2⟩:=hC2.out.shp S2;have d3:=S2.sl _ _ _ _ _ l1 l2 hC3.out;have S3:=Shp.setStr l1 l2 (show lo≤w2.heap.size by omega) d1 s2;obtain ⟨-,-,⟨y3,d4⟩,-⟩:=hC2.out.shp (S2.trans S3);have S4:=Shp.setInt l1 l2 (show lo≤(w2.setCell ⟨b,off+k*4+1,none⟩ (.string s2)).heap.size by simp;omega) d4 (r+1+1);have HS4:=hid (S2.trans (S3.trans S4))
   have bl2:b<w2.heap.size:=by omega
   clear HS1 S2 S3 S4 x2 d4 c0 f0;go_wp2_with fail;refine (markIntS_shp lo hi _ m _ _ (hHI.out.shp HS4.out) (by simp;omega) hl (by omega) (by omega)).mono ?_;rintro e w5 ⟨rfl,S5⟩;have HS5:=hid (HS.out.trans (HS4.out.trans S5));clear S5 HS4 HS d1 d2 d3 f1 f2;go_wp2;go_roundw
   case rel=>exact ⟨k+1,_,by omega,by go_num,rfl,by omega,by omega,HS5.out⟩
   case measure=>simp [intOf];omega
  ·obtain rfl:k=n:=by omega
   go_wp2;go_ret;exact ⟨⟨_,rfl,q1,q2⟩,hs⟩
theorem markProgramS_shp (lo hi:Nat) (v:Value) (n:Nat) (k0:Int) (w:World) (h:PrgsM lo hi w v n) (hn:n≤1048576) (hh:hi≤w.heap.size) (hl:lo≤hi) (h0:0≤k0) (h1:k0≤1000000000000000000) :
  Calls Tryz.prog 83 #[v,.int .i64 k0] w fun e w'=>(∃r,e = .returned (.int .i64 r)∧k0≤r∧r≤k0+n*1100000000000)∧Shp lo hi w w':=by
 have H:=hid h;obtain ⟨a,cap,rfl,z1,z2,-⟩:=h;go_enter Tryz.func83,Tryz.ntmps83;go_wp2
 go_loopw [1,5] (fun q i wr=>∃(k:Nat) (r:Int),k≤n∧i = .int .i64 k∧q = .int .i64 r∧k0≤r∧r≤k0+k*1100000000000∧Shp lo hi w wr) (fun _ i _=>n - (intOf i).toNat)
 case atStart=>exact ⟨0,k0,by omega,rfl,rfl,by omega,by omega,Shp.refl hh hl⟩
 case round=>
  obtain ⟨k,r,hk,rfl,rfl,q1,q2,hs⟩:=hrel
  by_cases hlt:k<n
  ·obtain ⟨a',cap',e',-,-,hcl⟩:=H.out.shp hs
   simp only [Value.slice.injEq] at e';obtain ⟨rfl,-,rfl⟩:=e';obtain ⟨b,off,a1,m1,c1,a2,m2,c2,rfl,l1,l2,d0,d1,s1,s2,hN,hA⟩:=hcl k hlt;have zs:=hs.size
   have bl:b<wr.heap.size:=by omega
   have HS:=hid hs;have hN':=hid hN;have hA':=hid hA;have hd1:=hid d1
   have zh:hi≤wr.heap.size:=by omega
   clear hs hcl hN hA d1;go_wp2_with fail;refine (markNodeS_shp lo hi _ m1 _ _ hN'.out zh hl (by omega) (by omega)).mono ?_;rintro e w2 ⟨⟨r2,rfl,g1,g2⟩,S2⟩;have d2:=S2.sl _ _ _ _ _ l1 l2 hd1.out;have z2:=S2.size
   have bl2:b<w2.heap.size:=by omega
   have HS2:=hid S2;clear S2 d0;go_wp2_with fail;refine (markAsgS_shp lo hi _ m2 _ _ (hA'.out.shp HS2.out) (by omega) hl (by omega) (by omega)).mono ?_;rintro e w3 ⟨⟨r3,rfl,g3,g4⟩,S3⟩;have HS3:=hid (HS.out.trans (HS2.out.trans S3));clear S3 HS2 HS d2;go_wp2;go_roundw
   case rel=>exact ⟨k+1,_,by omega,by go_num,rfl,by omega,by omega,HS3.out⟩
   case measure=>simp [intOf];omega
  ·obtain rfl:k=n:=by omega
   go_wp2;go_ret;exact ⟨⟨_,rfl,q1,q2⟩,hs⟩
theorem markSurfaceS_shp (lo hi:Nat) (v:Value) (n:Nat) (k0:Int) (w:World) (h:SrfsM lo hi w v n) (hn:n≤1048576) (hh:hi≤w.heap.size) (hl:lo≤hi) (h0:0≤k0) (h1:k0≤4000000000000000000) :
  Calls Tryz.prog 84 #[v,.int .i64 k0] w fun e w'=>(∃r,e = .returned (.int .i64 r)∧k0≤r)∧Shp lo hi w w':=by
 have H:=hid h;obtain ⟨a,cap,rfl,z1,z2,-⟩:=h;go_enter Tryz.func84,Tryz.ntmps84;go_wp2
 go_loopw [1,5] (fun q i wr=>∃(k:Nat) (r:Int),k≤n∧i = .int .i64 k∧q = .int .i64 r∧k0≤r∧r≤k0+k*2∧Shp lo hi w wr) (fun _ i _=>n - (intOf i).toNat)
 case atStart=>exact ⟨0,k0,by omega,rfl,rfl,by omega,by omega,Shp.refl hh hl⟩
 case round=>
  obtain ⟨k,r,hk,rfl,rfl,q1,q2,hs⟩:=hrel
  by_cases hlt:k<n
  ·obtain ⟨a',cap',e',-,-,hcl⟩:=H.out.shp hs
   simp only [Value.slice.injEq] at e';obtain ⟨rfl,-,rfl⟩:=e';obtain ⟨b,off,rfl,C0,C1⟩:=hcl k hlt;have zs:=hs.size;obtain ⟨l1,l2,⟨x0,c0⟩,f0⟩:=C0
   have bl:b<wr.heap.size:=by omega
   have HS:=hid hs
   have zl:lo≤wr.heap.size:=by omega
   have S1:=Shp.setInt l1 l2 zl c0 r;obtain ⟨-,-,⟨y2,d2⟩,-⟩:=C1.shp S1;have S2:=Shp.setInt l1 l2 (show lo≤(wr.setCell ⟨b,off+k*26+24,none⟩ (.int .i64 r)).heap.size by simp;omega) d2 (r+1);have HS2:=hid (hs.trans (S1.trans S2));obtain ⟨-,-,⟨x1,c1⟩,f1⟩:=C1;clear hs hcl S1 S2 HS d2;go_wp2;go_roundw
   case rel=>exact ⟨k+1,_,by omega,by go_num,rfl,by omega,by omega,HS2.out⟩
   case measure=>simp [intOf];omega
  ·obtain rfl:k=n:=by omega
   go_wp2;go_ret;exact ⟨⟨_,rfl,q1⟩,hs⟩
theorem markTex_shp (lo hi:Nat) (lg:Int) (v:Value) (n:Nat) (k0:Int) (w:World) (h:IntsM lo hi w v n) (hh:hi≤w.heap.size) (hl:lo≤hi) (h0:0≤k0) (h1:k0+n≤4611686018427387904) :
  Calls Tryz.prog 82 #[.agg #[.int .i64 lg,v],.int .i64 k0] w fun e w'=>e = .returned (.int .i64 (k0+n))∧Shp lo hi w w':=by
 have H:=hid h;have x0:Ext w (w.alloc (.cells #[.int .i64 lg,v] 27)):=X_;have S0:=hid (Shp.of x0 hh hl);have z0:=x0.size;clear h;go_enter Tryz.func82,Tryz.ntmps82;go_wp2_with fail;refine (markIntS_shp lo hi _ n _ _ (H.out.shp S0.out) (Nat.le_trans hh z0) hl h0 h1).mono ?_;rintro e w2 ⟨rfl,S2⟩;go_wp2;go_ret;exact ⟨rfl,S0.out.trans S2⟩
theorem CI.same {lo hi:Nat} {w w':World} {b o:Nat} (h:CI lo hi w b o) (s:Same lo hi w w'):CI lo hi w' b o:=by
 obtain ⟨h1,h2,⟨x,h3⟩,h4⟩:=h;exact ⟨h1,h2,⟨x,(s.cell h1 h2).trans h3⟩,(s.frozen h1 h2).trans h4⟩
theorem CS.same {lo hi:Nat} {w w':World} {b o:Nat} (h:CS lo hi w b o) (s:Same lo hi w w'):CS lo hi w' b o:=by
 obtain ⟨h1,h2,⟨x,h3⟩,h4⟩:=h;exact ⟨h1,h2,⟨x,(s.cell h1 h2).trans h3⟩,(s.frozen h1 h2).trans h4⟩
theorem CI.wide {lo hi lo' hi':Nat} {w:World} {b o:Nat} (h:CI lo hi w b o) (h1:lo'≤lo) (h2:hi≤hi'):CI lo' hi' w b o:=⟨Nat.le_trans h1 h.1,Nat.lt_of_lt_of_le h.2.1 h2,h.2.2⟩
theorem CS.wide {lo hi lo' hi':Nat} {w:World} {b o:Nat} (h:CS lo hi w b o) (h1:lo'≤lo) (h2:hi≤hi'):CS lo' hi' w b o:=⟨Nat.le_trans h1 h.1,Nat.lt_of_lt_of_le h.2.1 h2,h.2.2⟩
theorem IntsM.same {lo hi:Nat} {w w':World} {v:Value} {n:Nat} (h:IntsM lo hi w v n) (s:Same lo hi w w'):IntsM lo hi w' v n:=by
 obtain ⟨a,cap,h1,h2,h3,h4⟩:=h;exact ⟨a,cap,h1,h2,h3,fun i hi=>by obtain ⟨b,off,e,hc⟩:=h4 i hi;exact ⟨b,off,e,hc.same s⟩⟩
theorem IntsM.wide {lo hi lo' hi':Nat} {w:World} {v:Value} {n:Nat} (h:IntsM lo hi w v n) (h1:lo'≤lo) (h2:hi≤hi'):IntsM lo' hi' w v n:=by
 obtain ⟨a,cap,g1,g2,g3,h4⟩:=h;exact ⟨a,cap,g1,g2,g3,fun i hi=>by obtain ⟨b,off,e,hc⟩:=h4 i hi;exact ⟨b,off,e,hc.wide h1 h2⟩⟩
theorem OwnInts.intsM {lo:Nat} {w:World} {v:Value} {xs:List Int} (h:OwnInts lo w v xs):IntsM lo w.heap.size w v xs.length:=by
 obtain ⟨a,cap,rfl,_⟩:=h.form;obtain ⟨a',cap',e,g2,g3,_⟩:=h.ints;simp only [Value.slice.injEq,true_and] at e;obtain ⟨rfl,rfl⟩:=e;refine ⟨a,cap,rfl,g2,by unfold maxLen at g3;omega,fun i hi=>?_⟩;obtain ⟨g,y,rfl,l1,l2,_,hc,hf,_⟩:=h.at rfl hi;exact ⟨g,0,rfl,l1,l2,⟨y,by rw [Nat.zero_add];exact hc⟩,by rw [Nat.zero_add];exact hf⟩
theorem NdsM.same {lo hi:Nat} {w w':World} {v:Value} {n:Nat} (h:NdsM lo hi w v n) (s:Same lo hi w w'):NdsM lo hi w' v n:=by
 obtain ⟨a,cap,h1,h2,h3,h4⟩:=h;refine ⟨a,cap,h1,h2,h3,fun i hi=>?_⟩;obtain ⟨b,off,a',m,c',e,k0,k1,k2,k3,k4,k5⟩:=h4 i hi;exact ⟨b,off,a',m,c',e,k0.same s,k1.same s,k2.same s,(s.cell k0.1 k0.2.1).trans k3,k4,k5.same s⟩
theorem NdsM.wide {lo hi lo' hi':Nat} {w:World} {v:Value} {n:Nat} (h:NdsM lo hi w v n) (h1:lo'≤lo) (h2:hi≤hi'):NdsM lo' hi' w v n:=by
 obtain ⟨a,cap,g1,g2,g3,h4⟩:=h;refine ⟨a,cap,g1,g2,g3,fun i hi=>?_⟩;obtain ⟨b,off,a',m,c',e,k0,k1,k2,k3,k4,k5⟩:=h4 i hi;exact ⟨b,off,a',m,c',e,k0.wide h1 h2,k1.wide h1 h2,k2.wide h1 h2,k3,k4,k5.wide h1 h2⟩
theorem AsgsM.same {lo hi:Nat} {w w':World} {v:Value} {n:Nat} (h:AsgsM lo hi w v n) (s:Same lo hi w w'):AsgsM lo hi w' v n:=by
 obtain ⟨a,cap,h1,h2,h3,h4⟩:=h;exact ⟨a,cap,h1,h2,h3,fun i hi=>by obtain ⟨b,off,e,k0,k1⟩:=h4 i hi;exact ⟨b,off,e,k0.same s,k1.same s⟩⟩
theorem AsgsM.wide {lo hi lo' hi':Nat} {w:World} {v:Value} {n:Nat} (h:AsgsM lo hi w v n) (h1:lo'≤lo) (h2:hi≤hi'):AsgsM lo' hi' w v n:=by
 obtain ⟨a,cap,g1,g2,g3,h4⟩:=h;exact ⟨a,cap,g1,g2,g3,fun i hi=>by obtain ⟨b,off,e,k0,k1⟩:=h4 i hi;exact ⟨b,off,e,k0.wide h1 h2,k1.wide h1 h2⟩⟩
def NdsB (lo hi:Nat) (w:World) (v:Value) (xs:List Nd):Prop:=Nds lo hi w v xs∧NdsM lo hi w v xs.length
def AsgsB (lo hi:Nat) (w:World) (v:Value) (xs:List Asg):Prop:=Asgs lo hi w v xs∧AsgsM lo hi w v xs.length
theorem NdsB.same {lo hi:Nat} {w w':World} {v:Value} {xs:List Nd} (h:NdsB lo hi w v xs) (s:Same lo hi w w'):NdsB lo hi w' v xs:=⟨h.1.same s,h.2.same s⟩
theorem AsgsB.same {lo hi:Nat} {w w':World} {v:Value} {xs:List Asg} (h:AsgsB lo hi w v xs) (s:Same lo hi w w'):AsgsB lo hi w' v xs:=⟨h.1.same s,h.2.same s⟩
theorem NdsB.ext {lo hi:Nat} {w w':World} {v:Value} {xs:List Nd} (h:NdsB lo hi w v xs) (hh:hi≤w.heap.size) (e:Ext w w'):NdsB lo hi w' v xs:=h.same (e.same hh)
theorem AsgsB.ext {lo hi:Nat} {w w':World} {v:Value} {xs:List Asg} (h:AsgsB lo hi w v xs) (hh:hi≤w.heap.size) (e:Ext w w'):AsgsB lo hi w' v xs:=h.same (e.same hh)
theorem NdsB.wide {lo hi lo' hi':Nat} {w:World} {v:Value} {xs:List Nd} (h:NdsB lo hi w v xs) (h1:lo'≤lo) (h2:hi≤hi'):NdsB lo' hi' w v xs:=⟨h.1.wide h1 h2,h.2.wide h1 h2⟩
theorem AsgsB.wide {lo hi lo' hi':Nat} {w:World} {v:Value} {xs:List Asg} (h:AsgsB lo hi w v xs) (h1:lo'≤lo) (h2:hi≤hi'):AsgsB lo' hi' w v xs:=⟨h.1.wide h1 h2,h.2.wide h1 h2⟩
theorem NdsB.setLow {lo hi:Nat} {w:World} {v:Value} {xs:List Nd} (h:NdsB lo hi w v xs) {p:Addr} (hp:p.block<lo) (x:Value):NdsB lo hi (w.setCell p x) v xs:=h.same (fun k h1 _=>Below.heap_setCell _ _ _ _ (by omega))
theorem AsgsB.setLow {lo hi:Nat} {w:World} {v:Value} {xs:List Asg} (h:AsgsB lo hi w v xs) {p:Addr} (hp:p.block<lo) (x:Value):AsgsB lo hi (w.setCell p x) v xs:=h.same (fun k h1 _=>Below.heap_setCell _ _ _ _ (by omega))
def Prg.B (p:Prg) (lo hi:Nat) (w:World) (v:Value):Prop:=∃iu lu,v = .agg #[iu,lu]∧NdsB lo hi w iu p.ns∧AsgsB lo hi w lu p.gs
theorem Prg.B.R {p:Prg} {lo hi:Nat} {w:World} {v:Value} (h:p.B lo hi w v):p.R lo hi w v:=by
 obtain ⟨iu,lu,rfl,h1,h2⟩:=h;exact ⟨iu,lu,rfl,h1.1,h2.1⟩
theorem Prg.B.same {p:Prg} {lo hi:Nat} {w w':World} {v:Value} (h:p.B lo hi w v) (s:Same lo hi w w'):p.B lo hi w' v:=by
 obtain ⟨iu,lu,rfl,h1,h2⟩:=h;exact ⟨iu,lu,rfl,h1.same s,h2.same s⟩
theorem Prg.B.wide {p:Prg} {lo hi lo' hi':Nat} {w:World} {v:Value} (h:p.B lo hi w v) (h1:lo'≤lo) (h2:hi≤hi'):p.B lo' hi' w v:=by
 obtain ⟨iu,lu,rfl,g1,g2⟩:=h;exact ⟨iu,lu,rfl,g1.wide h1 h2,g2.wide h1 h2⟩
theorem toNodeM_any (lo hi:Nat) (op:Int) (s:ByteArray) (n:Int) (u:Value) (r:List Int) (w:World) (hu:Ints lo hi w u r) (hh:hi≤w.heap.size) (hsz:r.length≤1048576) :
  Calls Tryz.prog 250 #[.agg #[.int .i64 op,.string s,.int .i64 n,u]] w fun e w'=>∃a c,e = .returned (.agg #[.int .i64 op,.string s,.int .i64 n,.slice a r.length c])∧OwnInts w.heap.size w' (.slice a r.length c) r∧Ext w w':=by
 have HU:=hid hu;clear hu;go_enter Tryz.func250,Tryz.ntmps250;go_wp2_with fail;refine (toIntS_any lo hi u r _ (HU.out.ext hh S_) (by simp;omega) hsz).mono ?_;rintro e w1 ⟨v1,rfl,hO,x1⟩;obtain ⟨a,c,rfl,_⟩:=hO.form;have hs1:=x1.size;simp only [World.size_alloc,World.size_setCell] at hs1;have bC1:=(Bx.madeAt (B:=w.heap.size+1+1) ((w.alloc (.cells #[.int .i64 op,.string s,.int .i64 n,u] 314)).alloc (.cells #[.int .i64 0,.string ⟨#[]⟩,.int .i64 0,.slice none 0 0] 243)) #[.int .i64 op,.string s,.int .i64 n,.slice none 0 0] 243 (by simp)).ext x1;have bB1:=((Bx.madeAt (B:=w.heap.size+1) (w.alloc (.cells #[.int .i64 op,.string s,.int .i64 n,u] 314)) #[.int .i64 0,.string ⟨#[]⟩,.int .i64 0,.slice none 0 0] 243 (by simp)).ext ((Ext.refl _).alloc (.cells #[.int .i64 op,.string s,.int .i64 n,.slice none 0 0] 243))).ext x1;have X0:Ext w (((w.alloc (.cells #[.int .i64 op,.string s,.int .i64 n,u] 314)).alloc (.cells #[.int .i64 0,.string ⟨#[]⟩,.int .i64 0,.slice none 0 0] 243)).alloc (.cells #[.int .i64 op,.string s,.int .i64 n,.slice none 0 0] 243)):=S_;have X1:=hid (X0.trans x1);have HO:=hid hO;clear x1 hO X0;have q:=bC1.lt;have q0:=bC1.cell 0;simp only [List.getElem?_toArray,List.getElem?_cons_zero,List.getElem?_cons_succ] at q0;have q1:=bC1.cell 1;simp only [List.getElem?_toArray,List.getElem?_cons_zero,List.getElem?_cons_succ] at q1;have q2:=bC1.cell 2;simp only [List.getElem?_toArray,List.getElem?_cons_zero,List.getElem?_cons_succ] at q2;have q3:=bC1.cell 3;simp only [List.getElem?_toArray,List.getElem?_cons_zero,List.getElem?_cons_succ] at q3;have qf0:=bC1.frozen 0;have qf1:=bC1.frozen 1;have qf2:=bC1.frozen 2;have qf3:=bC1.frozen 3;have d:=bB1.lt;have d0:=bB1.cell 0;simp only [List.getElem?_toArray,List.getElem?_cons_zero,List.getElem?_cons_succ] at d0;have d1:=bB1.cell 1;simp only [List.getElem?_toArray,List.getElem?_cons_zero,List.getElem?_cons_succ] at d1;have d2:=bB1.cell 2;simp only [List.getElem?_toArray,List.getElem?_cons_zero,List.getElem?_cons_succ] at d2;have d3:=bB1.cell 3;simp only [List.getElem?_toArray,List.getElem?_cons_zero,List.getElem?_cons_succ] at d3;have df0:=bB1.frozen 0;have df1:=bB1.frozen 1;have df2:=bB1.frozen 2;have df3:=bB1.frozen 3;clear bB1 bC1;go_wp2;refine bodyPost_ret (v:=.agg #[.int .i64 op,.string s,.int .i64 n,.slice a r.length c]) (by simp [results,Tryz.results250,go_sem, *]) rfl ⟨a,c,rfl,?_,?_⟩
 ·have h:=HO.out
  simp only [World.size_alloc,World.size_setCell] at h ⊢;refine OwnInts.low ?_ (Nat.le_add_right _ 3)
  repeat (with_reducible refine OwnInts.setLow ?_ (by simp <;> omega) _)
  exact h
 ·have hX:=X1.out
  exact S_
theorem toNodeSM_any (lo hi:Nat) (u:Value) (xs:List Nd) (w:World) (hu:Nds lo hi w u xs) (hh:hi≤w.heap.size) (hsz:xs.length≤1048576) (hsa:∀x∈xs,x.args.length≤1048576) :
  Calls Tryz.prog 195 #[u] w fun e w'=>e = .returned (.slice (some ⟨w.heap.size,0,none⟩) xs.length xs.length)∧NdsB w.heap.size w'.heap.size w' (.slice (some ⟨w.heap.size,0,none⟩) xs.length xs.length) xs∧w.heap.size<w'.heap.size∧Ext w w':=by
 obtain ⟨i0,hi0,hz0,hz1,hz2⟩:=info_parts info_Nd;obtain ⟨a,cap,rfl,HU⟩:=hu.open;clear hu;have hcap:=HU.cap;have hle:=HU.le;have HS:=hid hsa;clear hsa;go_enter Tryz.func195,Tryz.ntmps195;go_wp2_with (at_make;refine wpList_make_full _ rfl _ _ 129 rfl w.heap.size 243 i0 _ 4 Tryz.underlying129 hi0 hz0 hz1 _ _ _ _ xs.length rfl rfl rfl rfl (by rw [hz2];omega) (by unfold maxLen;omega) (Nat.le_refl _) ?_);intro w1 hown hgrow;have hx:Ext w w1:=(Ext.refl w).grown hgrow (fun k h=>by cases h);have hrow:=hid (show w1.rowIs w.heap.size 243 (xs.length*4) (fillG (ndC xs (fun _=>.slice none 0 0)) ndZ 0) from World.rowIs.congr (ownsRow_rowIs (made_nd _) hown) (fun i _=>by unfold fillG;simp));clear hown hgrow hi0 hz0 hz1 hz2;go_wp2
 go_loopw [4] (fun i wr=>∃(k:Nat) (us:Nat→Value),k≤xs.length∧i = .int .i64 k∧Ext w wr∧wr.rowIs w.heap.size 243 (xs.length*4) (fillG (ndC xs us) ndZ (k*4))∧∀j x,j<k→xs[j]?=some x→OwnInts (w.heap.size+1) wr (us j) x.args) (fun i _=>xs.length - (intOf i).toNat)
 case atStart=>exact ⟨0,_,by omega,rfl,hx,by simpa using hrow.out,fun j x hj=>by omega⟩
 case round=>
  clear hx hrow;obtain ⟨k,us,hk,rfl,hx,hrow,hall⟩:=hrel
  by_cases hlt:k<xs.length
  ·obtain ⟨b,off,op,s,n,ua,ra,rfl,hb1,hbw,hdrop,hget,io,inn,hia,x0,x1,x2,x3⟩:=HU.at hlt hx hh
   have hat:=hid (ndC_at (us:=fun j=>if j=k then ua else us j) hget);obtain ⟨z0,z1,z2,z3⟩:=ndZ_at k;have hlen:=flat_lt (k:=4) (j:=3) hlt (by decide);have HX:=hid hx;have HR:=hid hrow;have HI:=hid hia;have HA:=hid hall;have HG:=hid hget;have zx:=hx.size;have zr:=World.rowIs.lt hrow;clear hdrop hget hx hrow hia hall;go_wp2_with fail;refine (toNodeM_any lo hi op s n ua ra _ HI.out (by omega) (HS.out _ (List.mem_of_getElem? HG.out))).mono ?_;rintro e w2 ⟨a2,c2,rfl,hN,h2⟩;have hR:w2.rowIs w.heap.size 243 (xs.length*4) (fillG (ndC xs us) ndZ (k*4)):=World.rowIs.of_block HR.out (h2.block zr);have hX:=HX.out.trans h2;have zz:=h2.size;have hat2:=hid (ndC_at (us:=fun j=>if j=k then .slice a2 ra.length c2 else us j) HG.out);have d0:=World.rowIs.cell hR (i:=k*4) (by omega);have g0:=World.rowIs.frozen hR (k*4);have d1:=World.rowIs.cell hR (i:=k*4+1) (by omega);have g1:=World.rowIs.frozen hR (k*4+1);have d2:=World.rowIs.cell hR (i:=k*4+2) (by omega);have g2:=World.rowIs.frozen hR (k*4+2);have d3:=World.rowIs.cell hR (i:=k*4+3) (by omega);have g3:=World.rowIs.frozen hR (k*4+3);unfold fillG at d0 d1 d2 d3;rw [if_neg (by omega)] at d0 d1 d2 d3;rw [z0] at d0;rw [z1] at d1;rw [z2] at d2;rw [z3] at d3;have HX2:=hid hX
   have hR':w2.rowIs w.heap.size 243 (xs.length*4) (fillG (ndC xs (fun j=>if j=k then .slice a2 ra.length c2 else us j)) ndZ (k*4)):=World.rowIs.congr hR (fun i _=>by
    unfold fillG
    by_cases hi:i<k*4
    ·rw [if_pos hi,if_pos hi,ndC_upd (k:=k) (u:=.slice a2 ra.length c2) i hi]
    ·rw [if_neg hi,if_neg hi])
   have HR2:=hid hR';have HN:=hid hN;have HA2:Hid (∀j x,j<k→xs[j]?=some x→OwnInts (w.heap.size+1) w2 (us j) x.args):=hid (fun j x hj hxj=>(HA.out j x hj hxj).ext h2);clear HX HR h2 hX hR hR' z0 z1 z2 z3 x0 x1 x2 x3 hN HA hat;go_wp2;go_roundw
   case rel=>
    refine ⟨k+1,fun j=>if j=k then .slice a2 ra.length c2 else us j,by omega,by go_num,?_,?_,?_⟩
    ·have hX:=HX2.out
     exact S_
    ·rw [Nat.add_mul,Nat.one_mul]
     obtain ⟨e0,e1,e2,e3⟩:=hat2.out;refine fillG_step (fillG_step (fillG_step (fillG_step (HR2.out) rfl e0.symm) rfl e1.symm) rfl e2.symm) rfl ?_;rw [e3];simp
    ·intro j x hj hxj
     simp only [World.size_setCell]
     repeat (with_reducible refine OwnInts.setLow ?_ (by simp <;> omega) _)
     by_cases e:j=k
     ·subst e
      rw [HG.out] at hxj;injection hxj with hxj;subst hxj;simp only [if_pos rfl];exact HN.out.low (by omega)
     ·simp only [if_neg e]
      exact HA2.out j x (by omega) hxj
   case measure=>simp [intOf];omega
  ·obtain rfl:k=xs.length:=by omega
   have HR:=hid hrow;have HA:=hid hall;have HX:=hid hx;clear hrow hall hx;go_wp2;go_ret;have hR:=HR.out;have hlR:=World.rowIs.lt hR
   have cellAt:∀q,q<xs.length*4→wr.cell? ⟨w.heap.size,0+q,none⟩=some (ndC xs us q):=fun q hq=>by
    rw [Nat.zero_add,World.rowIs.cell hR hq];unfold fillG;rw [if_pos hq]
   refine ⟨rfl,⟨⟨_,_,rfl,Nat.le_refl _,by unfold maxLen;omega,fun i x hx=>?_⟩,⟨_,_,rfl,Nat.le_refl _,by omega,fun i hi=>?_⟩⟩,hlR,HX.out⟩
   ·obtain ⟨e0,e1,e2,e3⟩:=ndC_at (us:=us) hx
    have hi:=(List.getElem?_eq_some_iff.1 hx).1;have hl:=flat_lt (k:=4) (j:=3) hi (by decide);have i64:=(HU.cell i x hx).1;refine ⟨i64,w.heap.size,0,us i,rfl,Nat.le_refl _,hlR,?_,?_,?_,?_,(HA.out i x hi hx).ints.wide (by omega) (Nat.le_refl _)⟩
    ·rw [cellAt _ (by omega),e0]
    ·rw [Nat.add_assoc,cellAt _ (by omega),e1]
    ·rw [Nat.add_assoc,cellAt _ (by omega),e2]
    ·rw [Nat.add_assoc,cellAt _ (by omega),e3]
   ·have hx:xs[i]?=some xs[i]:=List.getElem?_eq_getElem hi
    obtain ⟨e0,e1,e2,e3⟩:=ndC_at (us:=us) hx;have hl:=flat_lt (k:=4) (j:=3) hi (by decide);have hO:=HA.out i _ hi hx;obtain ⟨ua,uc,hu,_⟩:=hO.form;have hM:=hO.intsM;rw [hu] at hM;have fz:∀q,wr.frozen? ⟨w.heap.size,q,none⟩=false:=fun q=>World.rowIs.frozen hR q;refine ⟨w.heap.size,0,ua,_,uc,rfl,⟨Nat.le_refl _,hlR,⟨xs[i].op,?_⟩,fz _⟩,⟨Nat.le_refl _,hlR,⟨xs[i].name,?_⟩,fz _⟩,⟨Nat.le_refl _,hlR,⟨xs[i].num,?_⟩,fz _⟩,?_,HS.out _ (List.getElem_mem hi),hM.wide (by omega) (Nat.le_refl _)⟩
    ·rw [cellAt _ (by omega),e0]
    ·rw [Nat.add_assoc,cellAt _ (by omega),e1]
    ·rw [Nat.add_assoc,cellAt _ (by omega),e2]
    ·rw [Nat.add_assoc,cellAt _ (by omega),e3,hu]
theorem toAsgSM_any (lo hi:Nat) (u:Value) (xs:List Asg) (w:World) (hu:Asgs lo hi w u xs) (hh:hi≤w.heap.size) (hsz:xs.length≤1048576) :
  Calls Tryz.prog 196 #[u] w fun e w'=>e = .returned (.slice (some ⟨w.heap.size,0,none⟩) xs.length xs.length)∧AsgsB w.heap.size w'.heap.size w' (.slice (some ⟨w.heap.size,0,none⟩) xs.length xs.length) xs∧w.heap.size<w'.heap.size∧Ext w w':=by
 obtain ⟨i0,hi0,hz0,hz1,hz2⟩:=info_parts info_Ag;obtain ⟨a,cap,rfl,HU⟩:=hu.open;clear hu;have hcap:=HU.cap;have hle:=HU.le;go_enter Tryz.func196,Tryz.ntmps196;go_wp2_with (at_make;refine wpList_make_full _ rfl _ _ 130 rfl w.heap.size 194 i0 _ 2 Tryz.underlying130 hi0 hz0 hz1 _ _ _ _ xs.length rfl rfl rfl rfl (by rw [hz2];omega) (by unfold maxLen;omega) (Nat.le_refl _) ?_);intro w1 hown hgrow;have hx:Ext w w1:=(Ext.refl w).grown hgrow (fun k h=>by cases h);have hrow:=hid (show w1.rowIs w.heap.size 194 (xs.length*2) (fillG (agC xs) agZ 0) from World.rowIs.congr (ownsRow_rowIs (made_ag _) hown) (fun i _=>by unfold fillG;simp));clear hown hgrow hi0 hz0 hz1 hz2;go_wp2
 go_loopw [4] (fun i wr=>∃k:Nat,k≤xs.length∧i = .int .i64 k∧Ext w wr∧wr.rowIs w.heap.size 194 (xs.length*2) (fillG (agC xs) agZ (k*2))) (fun i _=>xs.length - (intOf i).toNat)
 case atStart=>exact ⟨0,by omega,rfl,hx,by simpa using hrow.out⟩
 case round=>
  clear hx hrow;obtain ⟨k,hk,rfl,hx,hrow⟩:=hrel
  by_cases hlt:k<xs.length
  ·obtain ⟨b,off,s,n,rfl,hb1,hbw,hdrop,hget,io,x0,x1⟩:=HU.at hlt hx hh
   have hat:=hid (agC_at hget);obtain ⟨z0,z1⟩:=agZ_at k;have hlen:=flat_lt (k:=2) (j:=1) hlt (by decide);have HX:=hid hx;have HR:=hid hrow;clear hdrop hget hx hrow;go_wp2_with fail;refine (toAsg_val s n _).mono ?_;rintro e w2 ⟨rfl,h2⟩;have hR:w2.rowIs w.heap.size 194 (xs.length*2) (fillG (agC xs) agZ (k*2)):=World.rowIs.of_block HR.out (h2.block (World.rowIs.lt HR.out));have hX:=HX.out.trans h2;have d0:=World.rowIs.cell hR (i:=k*2) (by omega);have g0:=World.rowIs.frozen hR (k*2);have d1:=World.rowIs.cell hR (i:=k*2+1) (by omega);have g1:=World.rowIs.frozen hR (k*2+1);unfold fillG at d0 d1;rw [if_neg (by omega)] at d0 d1;rw [z0] at d0;rw [z1] at d1;have HX2:=hid hX;have HR2:=hid hR;clear HX HR h2 hX hR z0 z1 x0 x1;go_wp2;go_roundw
   case rel=>
    refine ⟨k+1,by omega,by go_num,?_,?_⟩
    ·have hX:=HX2.out
     exact S_
    ·rw [Nat.add_mul,Nat.one_mul]
     obtain ⟨e0,e1⟩:=hat.out;exact fillG_step (fillG_step (HR2.out) rfl e0.symm) rfl e1.symm
   case measure=>simp [intOf];omega
  ·obtain rfl:k=xs.length:=by omega
   have HR:=hid hrow;have HX:=hid hx;clear hrow hx;go_wp2;go_ret;have hR:=HR.out;have hlR:=World.rowIs.lt hR
   have cellAt:∀q,q<xs.length*2→wr.cell? ⟨w.heap.size,0+q,none⟩=some (agC xs q):=fun q hq=>by
    rw [Nat.zero_add,World.rowIs.cell hR hq];unfold fillG;rw [if_pos hq]
   refine ⟨rfl,⟨⟨_,_,rfl,Nat.le_refl _,by unfold maxLen;omega,fun i x hx=>?_⟩,⟨_,_,rfl,Nat.le_refl _,by omega,fun i hi=>?_⟩⟩,hlR,HX.out⟩
   ·obtain ⟨e0,e1⟩:=agC_at hx
    have hi:=(List.getElem?_eq_some_iff.1 hx).1;have hl:=flat_lt (k:=2) (j:=1) hi (by decide);refine ⟨(HU.cell i x hx).1,w.heap.size,0,rfl,Nat.le_refl _,hlR,?_,?_⟩
    ·rw [cellAt _ (by omega),e0]
    ·rw [Nat.add_assoc,cellAt _ (by omega),e1]
   ·have hx:xs[i]?=some xs[i]:=List.getElem?_eq_getElem hi
    obtain ⟨e0,e1⟩:=agC_at hx;have hl:=flat_lt (k:=2) (j:=1) hi (by decide);have fz:∀q,wr.frozen? ⟨w.heap.size,q,none⟩=false:=fun q=>World.rowIs.frozen hR q;refine ⟨w.heap.size,0,rfl,⟨Nat.le_refl _,hlR,⟨xs[i].name,?_⟩,fz _⟩,⟨Nat.le_refl _,hlR,⟨xs[i].root,?_⟩,fz _⟩⟩
    ·rw [cellAt _ (by omega),e0]
    ·rw [Nat.add_assoc,cellAt _ (by omega),e1]
theorem toProgramM_any (lo hi:Nat) (v:Value) (p:Prg) (w:World) (hv:p.R lo hi w v) (hh:hi≤w.heap.size) (hsz:p.small) :
  Calls Tryz.prog 131 #[v] w fun e w'=>∃v',e = .returned v'∧p.B w.heap.size w'.heap.size w' v'∧Ext w w':=by
 obtain ⟨iu,lu,rfl,hi1,hl1⟩:=hv;have HI:=hid hi1;have HL:=hid hl1;clear hi1 hl1;obtain ⟨⟨z1,z1'⟩,z2⟩:=hsz;have HZ:=hid z1';clear z1';have x0:Ext w (((w.alloc (.cells #[iu,lu] 190)).alloc (.cells #[.slice none 0 0,.slice none 0 0] 132)).alloc (.cells #[.slice none 0 0,.slice none 0 0] 132)):=X_;have bA:=((Bx.made w #[iu,lu] 190).ext ((Ext.refl _).alloc (.cells #[.slice none 0 0,.slice none 0 0] 132))).ext ((Ext.refl _).alloc (.cells #[.slice none 0 0,.slice none 0 0] 132));have bB:=(Bx.madeAt (B:=w.heap.size+1) (w.alloc (.cells #[iu,lu] 190)) #[.slice none 0 0,.slice none 0 0] 132 (by simp)).ext ((Ext.refl _).alloc (.cells #[.slice none 0 0,.slice none 0 0] 132));have bC:=Bx.madeAt (B:=w.heap.size+1+1) ((w.alloc (.cells #[iu,lu] 190)).alloc (.cells #[.slice none 0 0,.slice none 0 0] 132)) #[.slice none 0 0,.slice none 0 0] 132 (by simp);go_enter Tryz.func131,Tryz.ntmps131;go_wp2_with fail;refine (toNodeSM_any lo hi _ p.ns _ (HI.out.ext hh x0) (Nat.le_trans hh x0.size) z1 HZ.out).mono ?_;rintro e w1 ⟨rfl,hR,hlt1,x1⟩;simp only [World.size_alloc] at hR hlt1;have bA1:=bA.ext x1;have bB1:=bB.ext x1;have bC1:=bC.ext x1;have hs1:=x1.size;simp only [World.size_alloc] at hs1;have HX1:=hid (x0.trans x1);have HR1:=hid hR;clear bA bB bC x0 x1 hR;have y:=bA1.lt;have y0:=bA1.cell 0;simp only [List.getElem?_toArray,List.getElem?_cons_zero,List.getElem?_cons_succ] at y0;have y1:=bA1.cell 1;simp only [List.getElem?_toArray,List.getElem?_cons_zero,List.getElem?_cons_succ] at y1;have q:=bC1.lt;have q0:=bC1.cell 0;simp only [List.getElem?_toArray,List.getElem?_cons_zero,List.getElem?_cons_succ] at q0;have q1:=bC1.cell 1;simp only [List.getElem?_toArray,List.getElem?_cons_zero,List.getElem?_cons_succ] at q1;have qf0:=bC1.frozen 0;have qf1:=bC1.frozen 1;have bB2:=hid (bB1.other (p:=⟨w.heap.size+1+1,0,none⟩) (by simp) (.slice (some ⟨w.heap.size+1+1+1,0,none⟩) p.ns.length p.ns.length));have bC2:=hid (bC1.set 0 (.slice (some ⟨w.heap.size+1+1+1,0,none⟩) p.ns.length p.ns.length));have X2:=hid (HX1.out.setCell (p:=⟨w.heap.size+1+1,0,none⟩) (by simp;omega) (.slice (some ⟨w.heap.size+1+1+1,0,none⟩) p.ns.length p.ns.length));have HR2:=hid (HR1.out.same (w':=w1.setCell ⟨w.heap.size+1+1,0,none⟩ (.slice (some ⟨w.heap.size+1+1+1,0,none⟩) p.ns.length p.ns.length)) (fun k h1 _=>Below.heap_setCell _ _ _ _ (by simp;omega)));clear bA1 bB1 bC1 HX1 HR1;go_wp2_with fail;refine (toAsgSM_any lo hi _ p.gs _ (HL.out.ext hh X2.out) (by simp;omega) z2).mono ?_;rintro e w2 ⟨rfl,hO,hlt2,x2⟩;have bB3:=bB2.out.ext x2;have bC3:=(bC2.out.ext x2).same (cs':=#[.slice (some ⟨w.heap.size+1+1+1,0,none⟩) p.ns.length p.ns.length,.slice none 0 0]) rfl;have hs2:=x2.size;simp only [World.size_setCell] at hs2 hO hlt2;have X3:=hid (X2.out.trans x2);have HR3:=hid (HR2.out.ext (by simp) x2);have HO:=hid hO;clear y y0 y1 q q0 q1 qf0 qf1 x2 hO;have q:=bC3.lt;have q0:=bC3.cell 0;simp only [List.getElem?_toArray,List.getElem?_cons_zero,List.getElem?_cons_succ] at q0;have q1:=bC3.cell 1;simp only [List.getElem?_toArray,List.getElem?_cons_zero,List.getElem?_cons_succ] at q1;have qf0:=bC3.frozen 0;have qf1:=bC3.frozen 1;have d:=bB3.lt;have d0:=bB3.cell 0;simp only [List.getElem?_toArray,List.getElem?_cons_zero,List.getElem?_cons_succ] at d0;have d1:=bB3.cell 1;simp only [List.getElem?_toArray,List.getElem?_cons_zero,List.getElem?_cons_succ] at d1;have df0:=bB3.frozen 0;have df1:=bB3.frozen 1;clear bB3 bC3;go_wp2;refine bodyPost_ret (v:=.agg #[.slice (some ⟨w.heap.size+1+1+1,0,none⟩) p.ns.length p.ns.length,.slice (some ⟨w1.heap.size,0,none⟩) p.gs.length p.gs.length]) (by simp [results,Tryz.results131,go_sem, *]) rfl ⟨_,rfl,⟨_,_,rfl,?_,?_⟩,?_⟩
 ·have h:=HR3.out
  simp only [World.size_setCell];refine NdsB.wide ?_ (Nat.le_add_right _ 3) hs2
  repeat (with_reducible refine NdsB.setLow ?_ (by simp <;> omega) _)
  exact h
 ·have h:=HO.out
  simp only [World.size_setCell];refine AsgsB.wide ?_ (show w.heap.size≤w1.heap.size by omega) (Nat.le_refl _)
  repeat (with_reducible refine AsgsB.setLow ?_ (by simp <;> omega) _)
  exact h
 ·have hX:=X3.out
  exact S_
theorem Prg.B.form {p:Prg} {lo hi:Nat} {w:World} {v:Value} (h:p.B lo hi w v):∃a1 c1 a2 c2,v = .agg #[.slice a1 p.ns.length c1,.slice a2 p.gs.length c2]∧NdsM lo hi w (.slice a1 p.ns.length c1) p.ns.length∧AsgsM lo hi w (.slice a2 p.gs.length c2) p.gs.length:=by
 obtain ⟨iu,lu,rfl,⟨h1,h2⟩,h3,h4⟩:=h;obtain ⟨a1,c1,rfl,_⟩:=h1.open;obtain ⟨a2,c2,rfl,_⟩:=h3.open;exact ⟨a1,c1,a2,c2,rfl,h2,h4⟩
def prC (us vs:Nat→Value) (i:Nat):Value:=if i % 2=0 then us (i / 2) else vs (i / 2)
def prZ (_:Nat):Value:=.slice none 0 0
theorem prC_at (us vs:Nat→Value) (k:Nat):prC us vs (k*2)=us k∧prC us vs (k*2+1)=vs k:=by
 refine ⟨?_,?_⟩
 ·unfold prC
  rw [if_pos (by omega),show k*2 / 2=k by omega]
 ·unfold prC
  rw [if_neg (by omega),show (k*2+1) / 2=k by omega]
theorem prC_upd {us vs:Nat→Value} {k:Nat} {u v:Value}:∀i,i<k*2→prC us vs i=prC (fun j=>if j=k then u else us j) (fun j=>if j=k then v else vs j) i:=by
 intro i hi;unfold prC;simp only [if_neg (show ¬i / 2=k by omega)]
theorem info_Pr:(Tryz.prog.info? 132).map (fun i=>(i.zero,i.size,i.bytes))=some (some (.agg #[.slice none 0 0,.slice none 0 0]),2,48):=by kernel_rfl
theorem made_pr (n:Nat):∀i,i<n→(madeCells #[.slice none 0 0,.slice none 0 0] n)[i]?=some (prZ i):=by
 intro i hi;unfold prZ;have:i % 2<2:=Nat.mod_lt _ (by decide)
 rcases (show i % 2=0∨i % 2=1 by omega) with e|e <;> simp [madeCells,hi,e]
theorem PrgsM.same {lo hi:Nat} {w w':World} {v:Value} {n:Nat} (h:PrgsM lo hi w v n) (s:Same lo hi w w'):PrgsM lo hi w' v n:=by
 obtain ⟨a,cap,h1,h2,h3,h4⟩:=h;refine ⟨a,cap,h1,h2,h3,fun i hi=>?_⟩;obtain ⟨b,off,a1,m1,c1,a2,m2,c2,e,l1,l2,k1,k2,z1,z2,k3,k4⟩:=h4 i hi;exact ⟨b,off,a1,m1,c1,a2,m2,c2,e,l1,l2,(s.cell l1 l2).trans k1,(s.cell l1 l2).trans k2,z1,z2,k3.same s,k4.same s⟩
theorem PrgsM.wide {lo hi lo' hi':Nat} {w:World} {v:Value} {n:Nat} (h:PrgsM lo hi w v n) (h1:lo'≤lo) (h2:hi≤hi'):PrgsM lo' hi' w v n:=by
 obtain ⟨a,cap,g1,g2,g3,h4⟩:=h;refine ⟨a,cap,g1,g2,g3,fun i hi=>?_⟩;obtain ⟨b,off,a1,m1,c1,a2,m2,c2,e,l1,l2,k1,k2,z1,z2,k3,k4⟩:=h4 i hi;exact ⟨b,off,a1,m1,c1,a2,m2,c2,e,by omega,by omega,k1,k2,z1,z2,k3.wide h1 h2,k4.wide h1 h2⟩
theorem PrgsR.wide {lo hi lo' hi':Nat} {w:World} {v:Value} {ps:List Prg} (h:PrgsR lo hi w v ps) (h1:lo'≤lo) (h2:hi≤hi'):PrgsR lo' hi' w v ps:=by
 obtain ⟨a,cap,g1,g2,g3,h4⟩:=h;refine ⟨a,cap,g1,g2,g3,fun k p hk=>?_⟩;obtain ⟨b,off,u1,u2,e1,e2,e3,e4,e5,iu,lu,e6,e7,e8⟩:=h4 k p hk;exact ⟨b,off,u1,u2,e1,by omega,by omega,e4,e5,iu,lu,e6,e7.wide h1 h2,e8.wide h1 h2⟩
theorem toProgramS_any (lo hi:Nat) (u:Value) (ps:List Prg) (w:World) (hu:PrgsR lo hi w u ps) (hh:hi≤w.heap.size) (hsz:ps.length≤1048576) (hsm:∀p∈ps,p.small) :
  Calls Tryz.prog 76 #[u] w fun e w'=>e = .returned (.slice (some ⟨w.heap.size,0,none⟩) ps.length ps.length)∧(PrgsR w.heap.size w'.heap.size w' (.slice (some ⟨w.heap.size,0,none⟩) ps.length ps.length) ps∧PrgsM w.heap.size w'.heap.size w' (.slice (some ⟨w.heap.size,0,none⟩) ps.length ps.length) ps.length)∧w.heap.size<w'.heap.size∧Ext w w':=by
 obtain ⟨i0,hi0,hz0,hz1,hz2⟩:=info_parts info_Pr;obtain ⟨a,cap,rfl,HU⟩:=hu.open;clear hu;have hcap:=HU.cap;have hle:=HU.le;have HS:=hid hsm;have HUU:=hid HU;clear hsm;go_enter Tryz.func76,Tryz.ntmps76;go_wp2_with (at_make;refine wpList_make_full _ rfl _ _ 28 rfl w.heap.size 132 i0 _ 2 Tryz.underlying28 hi0 hz0 hz1 _ _ _ _ ps.length rfl rfl rfl rfl (by rw [hz2];omega) (by unfold maxLen;omega) (Nat.le_refl _) ?_);intro w1 hown hgrow;have hx:Ext w w1:=(Ext.refl w).grown hgrow (fun k h=>by cases h);have hrow:=hid (show w1.rowIs w.heap.size 132 (ps.length*2) (fillG (prC (fun _=>.slice none 0 0) (fun _=>.slice none 0 0)) prZ 0) from World.rowIs.congr (ownsRow_rowIs (made_pr _) hown) (fun i _=>by unfold fillG;simp));clear hown hgrow hi0 hz0 hz1 hz2 HU;go_wp2
 go_loopw [4] (fun i wr=>∃(k:Nat) (us vs:Nat→Value),k≤ps.length∧i = .int .i64 k∧Ext w wr∧wr.rowIs w.heap.size 132 (ps.length*2) (fillG (prC us vs) prZ (k*2))∧∀j p,j<k→ps[j]?=some p→p.B (w.heap.size+1) wr.heap.size wr (.agg #[us j,vs j])) (fun i _=>ps.length - (intOf i).toNat)
 case atStart=>exact ⟨0,_,_,by omega,rfl,hx,by simpa using hrow.out,fun j x hj=>by omega⟩
 case round=>
  clear hx hrow;obtain ⟨k,us,vs,hk,rfl,hx,hrow,hall⟩:=hrel
  by_cases hlt:k<ps.length
  ·obtain ⟨b,off,e1,d1,e2,d2,rfl,hbw,hbr,x0,x1,hR⟩:=HUU.out.at hlt hx hh
   have hget:ps[k]?=some ps[k]:=List.getElem?_eq_getElem hlt;have hlen:=flat_lt (k:=2) (j:=1) hlt (by decide);have HX:=hid hx;have HR:=hid hrow;have HP:=hid hR;have HA:=hid hall;have HG:=hid hget;have zx:=hx.size;have zr:=World.rowIs.lt hrow;clear hget hx hrow hall hR;go_wp2_with fail;refine (toProgramM_any lo hi _ ps[k] _ HP.out (by omega) (HS.out _ (List.getElem_mem hlt))).mono ?_;rintro e w2 ⟨v2,rfl,hN,h2⟩;obtain ⟨a1,c1,a2,c2,rfl,_⟩:=hN.form;have hR:w2.rowIs w.heap.size 132 (ps.length*2) (fillG (prC us vs) prZ (k*2)):=World.rowIs.of_block HR.out (h2.block zr);have hX:=HX.out.trans h2;have zz:=h2.size;have hat2:=hid (prC_at (fun j=>if j=k then .slice a1 (ps[k]'hlt).ns.length c1 else us j) (fun j=>if j=k then .slice a2 (ps[k]'hlt).gs.length c2 else vs j) k);have d0:=World.rowIs.cell hR (i:=k*2) (by omega);have g0:=World.rowIs.frozen hR (k*2);have d1':=World.rowIs.cell hR (i:=k*2+1) (by omega);have g1:=World.rowIs.frozen hR (k*2+1);unfold fillG at d0 d1';rw [if_neg (by omega)] at d0 d1';unfold prZ at d0 d1';have HX2:=hid hX
   have hR':w2.rowIs w.heap.size 132 (ps.length*2) (fillG (prC (fun j=>if j=k then .slice a1 (ps[k]'hlt).ns.length c1 else us j) (fun j=>if j=k then .slice a2 (ps[k]'hlt).gs.length c2 else vs j)) prZ (k*2)):=World.rowIs.congr hR (fun i _=>by
    unfold fillG
    by_cases hi:i<k*2
    ·rw [if_pos hi,if_pos hi,prC_upd (k:=k) i hi]
    ·rw [if_neg hi,if_neg hi])
   have HR2:=hid hR';have HN:=hid hN;have HA2:=hid (show ∀j p,j<k→ps[j]?=some p→p.B (w.heap.size+1) w2.heap.size w2 (.agg #[us j,vs j]) from fun j p hj hpj=>((HA.out j p hj hpj).same (h2.same (Nat.le_refl _))).wide (Nat.le_refl _) zz);clear HX HR h2 hX hR hR' x0 x1 hN HA;go_wp2;go_roundw
   case rel=>
    refine ⟨k+1,fun j=>if j=k then .slice a1 (ps[k]'hlt).ns.length c1 else us j,fun j=>if j=k then .slice a2 (ps[k]'hlt).gs.length c2 else vs j,by omega,by go_num,?_,?_,?_⟩
    ·have hX:=HX2.out
     exact S_
    ·rw [Nat.add_mul,Nat.one_mul]
     obtain ⟨e0,e1⟩:=hat2.out;refine fillG_step (fillG_step HR2.out rfl ?_) rfl ?_
     ·rw [e0];simp
     ·rw [e1];simp
    ·intro j p hj hpj
     simp only [World.size_setCell]
     have hs:∀W:World,∀u1 u2:Value,Same (w.heap.size+1) W.heap.size W ((W.setCell ⟨w.heap.size,k*2,none⟩ u1).setCell ⟨w.heap.size,k*2+1,none⟩ u2):=fun W u1 u2 q h1 _=>by
      rw [Below.heap_setCell _ _ _ _ (by simp;omega),Below.heap_setCell _ _ _ _ (by simp;omega)]
     by_cases e:j=k
     ·subst e
      rw [HG.out] at hpj;injection hpj with hpj;subst hpj;simp only [if_pos rfl];exact (HN.out.wide (by omega) (Nat.le_refl _)).same (hs _ _ _)
     ·simp only [if_neg e]
      exact (HA2.out j p (by omega) hpj).same (hs _ _ _)
   case measure=>simp [intOf];omega
  ·obtain rfl:k=ps.length:=by omega
   have HR:=hid hrow;have HA:=hid hall;have HX:=hid hx;clear hrow hall hx;go_wp2;go_ret;have hR:=HR.out;have hlR:=World.rowIs.lt hR
   have cellAt:∀q,q<ps.length*2→wr.cell? ⟨w.heap.size,0+q,none⟩=some (prC us vs q):=fun q hq=>by
    rw [Nat.zero_add,World.rowIs.cell hR hq];unfold fillG;rw [if_pos hq]
   refine ⟨rfl,⟨⟨_,_,rfl,Nat.le_refl _,by unfold maxLen;omega,fun i p hp=>?_⟩,⟨_,_,rfl,Nat.le_refl _,by omega,fun i hi=>?_⟩⟩,hlR,HX.out⟩
   ·obtain ⟨e0,e1⟩:=prC_at us vs i
    have hi:=(List.getElem?_eq_some_iff.1 hp).1;have hl:=flat_lt (k:=2) (j:=1) hi (by decide);refine ⟨w.heap.size,0,us i,vs i,rfl,Nat.le_refl _,hlR,?_,?_,((HA.out i p hi hp).wide (by omega) (Nat.le_refl _)).R⟩
    ·rw [cellAt _ (by omega),e0]
    ·rw [Nat.add_assoc,cellAt _ (by omega),e1]
   ·have hp:ps[i]?=some ps[i]:=List.getElem?_eq_getElem hi
    obtain ⟨e0,e1⟩:=prC_at us vs i;have hl:=flat_lt (k:=2) (j:=1) hi (by decide);have hB:=(HA.out i _ hi hp).wide (lo':=w.heap.size) (hi':=wr.heap.size) (by omega) (Nat.le_refl _);obtain ⟨a1,c1,a2,c2,e,hN,hA⟩:=hB.form;simp only [Value.agg.injEq,Array.mk.injEq,List.cons.injEq,and_true] at e;have hs:=HS.out _ (List.getElem_mem hi);refine ⟨w.heap.size,0,a1,_,c1,a2,_,c2,rfl,Nat.le_refl _,hlR,?_,?_,hs.1.1,hs.2,hN,hA⟩
    ·rw [cellAt _ (by omega),e0,e.1]
    ·rw [Nat.add_assoc,cellAt _ (by omega),e1,e.2]
theorem eqProgramS_same (lo hi lo' hi':Nat) (u v:Value) (ps:List Prg) (w:World) (hu:PrgsR lo hi w u ps) (hv:PrgsR lo' hi' w v ps) (hh:hi≤w.heap.size) (hh':hi'≤w.heap.size) :
  Calls Tryz.prog 80 #[u,v] w fun e w'=>e = .returned (.bool true)∧Ext w w':=by
 obtain ⟨a,cap,rfl,HU⟩:=hu.open;obtain ⟨a',cap',rfl,HV⟩:=hv.open;clear hu hv;have h1:=HU.le;have h2:=HU.cap;have h1':=HV.le;have h2':=HV.cap;go_enter Tryz.func80,Tryz.ntmps80;go_wp2
 go_loopw [5] (fun i wr=>∃k:Nat,k≤ps.length∧i = .int .i64 k∧Ext w wr) (fun i _=>ps.length - (intOf i).toNat)
 case atStart=>exact ⟨0,by omega,rfl,X_⟩
 case round=>
  obtain ⟨k,hk,rfl,hx⟩:=hrel
  by_cases hlt:k<ps.length
  ·obtain ⟨b,off,e1,d1,e2,d2,rfl,hbw,hbr,x0,x1,hR⟩:=HU.at hlt hx hh
   obtain ⟨b',off',e1',d1',e2',d2',rfl,hbw',hbr',x0',x1',hR'⟩:=HV.at hlt hx hh';have HX:=hid hx;have HI:=hid hR;have HI':=hid hR';have zx:=hx.size;clear hx hR hR';go_wp2_with fail;refine wp_region_stages [([0,1,2,3,4,5,6,7],8),([],9)] 99 wr.heap.size (by kernel_rfl) (by kernel_rfl) ?_;refine st_ fun K hK=>?_;go_wp2_with fail;refine (eqProgram_same lo hi lo' hi' _ _ (ps[k]'hlt) _ (HI.out.ext (by omega) X_) (by simp;omega) (HI'.out.ext (by omega) X_) (by simp;omega)).mono ?_;rintro e w1 ⟨rfl,h1⟩;have y1:Ext wr w1:=Ext.trans X_ h1;go_wp2_with fail;refine hK _ _ (.inr (y1.same (Nat.le_refl _))) ?_;clear hK K;refine st_ fun K hK=>?_;go_wp2_with fail;refine hK _ _ (.inr (y1.same (Nat.le_refl _))) ?_;clear hK K;refine wpStages_nil ?_;have hX:=HX.out.trans y1;clear h1 y1 HX;go_wp2;go_roundw
   case rel=>exact ⟨k+1,by omega,by go_num,hX⟩
   case measure=>simp [intOf];omega
  ·go_wp2
   go_ret;exact ⟨rfl,hx⟩
theorem szProgramS_any (lo hi:Nat) (u:Value) (ps:List Prg) (left:Int) (w:World) (hu:PrgsR lo hi w u ps) (hh:hi≤w.heap.size) (hb:∀p∈ps,p.bd) (h1:0≤left) (h2:left≤1048576) :
  Calls Tryz.prog 67 #[u,.int .i64 left] w fun e w'=>(∃r,e = .returned (.int .i64 r)∧(r = -1∨(0≤r∧r≤left∧ps.length≤1048576∧∀p∈ps,p.small)))∧Ext w w':=by
 obtain ⟨a,cap,rfl,HU⟩:=hu.open;have h3:=HU.le;have h4:=HU.cap;have HB:=hid hb;clear hu hb
 by_cases hl:left - (ps.length:Int)<0
 ·go_enter Tryz.func67,Tryz.ntmps67
  go_wp2;go_ret;exact ⟨⟨_,rfl,.inl rfl⟩,S_⟩
 ·go_enter Tryz.func67,Tryz.ntmps67
  go_wp2
  go_loopw [1,5] (fun q i wr=>∃(k:Nat) (r:Int),k≤ps.length∧i = .int .i64 k∧q = .int .i64 r∧0≤r∧r≤left∧(∀j x,j<k→ps[j]?=some x→x.small)∧Ext w wr) (fun _ i _=>ps.length - (intOf i).toNat)
  case atStart=>exact ⟨0,_,by omega,rfl,rfl,by omega,by omega,fun j x hj=>by omega,S_⟩
  case round=>
   obtain ⟨k,r,hk,rfl,rfl,hr1,hr2,hall,hx⟩:=hrel
   by_cases hlt:k<ps.length
   ·obtain ⟨b,off,e1,d1,e2,d2,rfl,hbw,hbr,x0,x1,hR⟩:=HU.at hlt hx hh
    have hget:ps[k]?=some ps[k]:=List.getElem?_eq_getElem hlt;have hz:=hid (HB.out _ (List.getElem_mem hlt));have HX:=hid hx;have HI:=hid hR;have HA:=hid hall;have HG:=hid hget;have zx:=hx.size;clear hget hx hR hall;go_wp2_with fail;refine (szProgram_any lo hi _ (ps[k]'hlt) r _ HI.out (by omega) hz.out hr1 (by omega)).mono ?_;rintro e w1 ⟨⟨r2,rfl,hr3⟩,x3⟩;have X3:=HX.out.trans x3
    rcases hr3 with rfl|⟨hr3,hr4,hr5⟩
    ·go_wp2
     go_ret;exact ⟨⟨_,rfl,.inl rfl⟩,X3⟩
    ·have hn : ¬r2<0:=by omega
     have HR5:=hid hr5;clear hr5;go_wp2;go_roundw
     case rel=>
      refine ⟨k+1,r2,by omega,by go_num,rfl,by omega,by omega,fun j x hj hx=>?_,X3⟩
      by_cases e:j=k
      ·subst e
       rw [HG.out] at hx;injection hx with hx;subst hx;exact HR5.out
      ·exact HA.out j x (by omega) hx
     case measure=>simp [intOf];omega
   ·go_wp2
    go_ret;exact ⟨⟨_,rfl,.inr ⟨hr1,hr2,by omega,fun p hp=>by obtain ⟨i,hi,rfl⟩:=List.getElem_of_mem hp;exact hall i _ (by omega) (List.getElem?_eq_getElem hi)⟩⟩,hx⟩
theorem Ext.setC {b:Nat} {w0:World} (hb:w0.heap.size≤b):∀(vs:List Value) (o:Nat) {w:World},Ext w0 w→Ext w0 (w.setCells b o vs)
 | [],_,_,h=>h
 | _::r,_,_,h=>Ext.setC hb r _ (h.setCell hb _)
theorem Blk.setC {g b:Nat} {t:TypeId} {cs:List Value} (ne:g≠b):∀(vs:List Value) (o:Nat) {w:World},Blk w g t cs→Blk (w.setCells b o vs) g t cs
 | [],_,_,h=>h
 | v::r,_,_,h=>Blk.setC ne r _ (h.other (a:=⟨b,_,none⟩) ne v)
theorem Same.setC {lo hi b:Nat} (hb:b<lo):∀(vs:List Value) (o:Nat) (w:World),Same lo hi w (w.setCells b o vs)
 | [],_,_=>fun _ _ _=>rfl
 | v::r,o,w=>fun k h1 h2=>(Same.setC hb r (o+1) (w.setCell ⟨b,o,none⟩ v) k h1 h2).trans (Below.heap_setCell _ _ _ _ (by simp only;omega))
theorem RowI.stepN {b:Nat} {t:TypeId} {n:Nat} {f:Nat→Int}:∀(xs:List Int) (c:Nat) (w:World),RowI w b t n (fillI f c)→(∀j x,xs[j]?=some x→x=f (c+j))→RowI (w.setCells b c (xs.map (Value.int .i64))) b t n (fillI f (c+xs.length))
 | [],c,w,h,_=>h
 | x::r,c,w,h,hx=>by
  have h0:=h.step (i:=c) (x:=x) rfl (hx 0 x rfl);have h1:=RowI.stepN r (c+1) _ h0 (fun j y hj=>by rw [hx (j+1) y hj];congr 1;omega);rw [List.length_cons,show c+(r.length+1)=c+1+r.length by omega];exact h1
theorem RowI.there {w:World} {b:Nat} {t:TypeId} {n:Nat} {f:Nat→Int} (h:RowI w b t n f) {o m:Nat} (hm:o+m≤n):w.there b o m:=fun j hj=>
 ⟨by rw [h.cell (i:=o+j) (by omega)];rfl,h.frozen _⟩
theorem RowI.rangeL {w:World} {b:Nat} {t:TypeId} {n:Nat} {f:Nat→Int} (h:RowI w b t n f) {o:Nat} (xs:List Int) (hm:o+xs.length≤n) (hx:∀j x,xs[j]?=some x→x=f (o+j)):w.rangeAt b o (xs.map (Value.int .i64)):=fun j v hj=>by
 rw [List.getElem?_map] at hj
 cases hx':xs[j]? with
 | none=>rw [hx'] at hj;cases hj
 | some x=>
  rw [hx'] at hj;have hl:=(List.getElem?_eq_some_iff.1 hx').1;have e:=hx j x hx';rw [h.cell (i:=o+j) (by omega),←e];exact hj
theorem twenty6 {i:Nat} (h:i<26):i=0∨i=1∨i=2∨i=3∨i=4∨i=5∨i=6∨i=7∨i=8∨i=9∨i=10∨i=11∨i=12∨i=13∨i=14∨i=15∨i=16∨i=17∨i=18∨i=19∨i=20∨i=21∨i=22∨i=23∨i=24∨i=25:=by omega
theorem row26_zero {w:World} {b:Nat} {t:TypeId} (hb:w.heap.size=b):RowI (w.alloc (.cells #[.int .i64 0,.int .i64 0,.int .i64 0,.int .i64 0,.int .i64 0,.int .i64 0,.int .i64 0,.int .i64 0,.int .i64 0,.int .i64 0,.int .i64 0,.int .i64 0,.int .i64 0,.int .i64 0,.int .i64 0,.int .i64 0,.int .i64 0,.int .i64 0,.int .i64 0,.int .i64 0,.int .i64 0,.int .i64 0,.int .i64 0,.int .i64 0,.int .i64 0,.int .i64 0] t)) b t 26 (fun _=>0):=
 hb▸World.rowIs_alloc _ _ _ _ fun i hi=>by rcases twenty6 hi with h|h|h|h|h|h|h|h|h|h|h|h|h|h|h|h|h|h|h|h|h|h|h|h|h|h <;> subst h <;> rfl
theorem lst26 (f:Nat→Int):∀j x,([f 0,f 1,f 2,f 3,f 4,f 5,f 6,f 7,f 8,f 9,f 10,f 11,f 12,f 13,f 14,f 15,f 16,f 17,f 18,f 19,f 20,f 21,f 22,f 23,f 24,f 25]:List Int)[j]?=some x→x=f j:=by
 intro j x h;have hl:=(List.getElem?_eq_some_iff.1 h).1
 rcases twenty6 hl with e|e|e|e|e|e|e|e|e|e|e|e|e|e|e|e|e|e|e|e|e|e|e|e|e|e <;> subst e <;> exact (Option.some.inj h).symm
theorem lst12 (f:Nat→Int) (c:Nat):∀j x,([f (c+0),f (c+1),f (c+2),f (c+3),f (c+4),f (c+5),f (c+6),f (c+7),f (c+8),f (c+9),f (c+10),f (c+11)]:List Int)[j]?=some x→x=f (c+j):=by
 intro j x h;have hl:=(List.getElem?_eq_some_iff.1 h).1
 rcases twelve hl with e|e|e|e|e|e|e|e|e|e|e|e <;> subst e <;> exact (Option.some.inj h).symm
theorem info_P12:(Tryz.prog.info? 40).map (·.size)=some 12:=by kernel_rfl
theorem toSurface_val (f:Nat→Int) (w:World):Calls Tryz.prog 132 #[.agg #[.int .i64 (f 0),.int .i64 (f 1),.int .i64 (f 2),.int .i64 (f 3),.int .i64 (f 4),.int .i64 (f 5),.int .i64 (f 6),.int .i64 (f 7),.int .i64 (f 8),.int .i64 (f 9),.int .i64 (f 10),.int .i64 (f 11),.int .i64 (f 12),.int .i64 (f 13),.int .i64 (f 14),.int .i64 (f 15),.int .i64 (f 16),.int .i64 (f 17),.int .i64 (f 18),.int .i64 (f 19),.int .i64 (f 20),.int .i64 (f 21),.int .i64 (f 22),.int .i64 (f 23),.int .i64 (f 24),.int .i64 (f 25)]] w fun e w'=>e = .returned (.agg #[.int .i64 (f 0),.int .i64 (f 1),.int .i64 (f 2),.int .i64 (f 3),.int .i64 (f 4),.int .i64 (f 5),.int .i64 (f 6),.int .i64 (f 7),.int .i64 (f 8),.int .i64 (f 9),.int .i64 (f 10),.int .i64 (f 11),.int .i64 (f 12),.int .i64 (f 13),.int .i64 (f 14),.int .i64 (f 15),.int .i64 (f 16),.int .i64 (f 17),.int .i64 (f 18),.int .i64 (f 19),.int .i64 (f 20),.int .i64 (f 21),.int .i64 (f 22),.int .i64 (f 23),.int .i64 (f 24),.int .i64 (f 25)])∧Ext w w':=by
 have b0:=(Blk.new w 212 [.int .i64 (f 0),.int .i64 (f 1),.int .i64 (f 2),.int .i64 (f 3),.int .i64 (f 4),.int .i64 (f 5),.int .i64 (f 6),.int .i64 (f 7),.int .i64 (f 8),.int .i64 (f 9),.int .i64 (f 10),.int .i64 (f 11),.int .i64 (f 12),.int .i64 (f 13),.int .i64 (f 14),.int .i64 (f 15),.int .i64 (f 16),.int .i64 (f 17),.int .i64 (f 18),.int .i64 (f 19),.int .i64 (f 20),.int .i64 (f 21),.int .i64 (f 22),.int .i64 (f 23),.int .i64 (f 24),.int .i64 (f 25)]).ext (show Ext (w.alloc (.cells #[.int .i64 (f 0),.int .i64 (f 1),.int .i64 (f 2),.int .i64 (f 3),.int .i64 (f 4),.int .i64 (f 5),.int .i64 (f 6),.int .i64 (f 7),.int .i64 (f 8),.int .i64 (f 9),.int .i64 (f 10),.int .i64 (f 11),.int .i64 (f 12),.int .i64 (f 13),.int .i64 (f 14),.int .i64 (f 15),.int .i64 (f 16),.int .i64 (f 17),.int .i64 (f 18),.int .i64 (f 19),.int .i64 (f 20),.int .i64 (f 21),.int .i64 (f 22),.int .i64 (f 23),.int .i64 (f 24),.int .i64 (f 25)] 212)) (((w.alloc (.cells #[.int .i64 (f 0),.int .i64 (f 1),.int .i64 (f 2),.int .i64 (f 3),.int .i64 (f 4),.int .i64 (f 5),.int .i64 (f 6),.int .i64 (f 7),.int .i64 (f 8),.int .i64 (f 9),.int .i64 (f 10),.int .i64 (f 11),.int .i64 (f 12),.int .i64 (f 13),.int .i64 (f 14),.int .i64 (f 15),.int .i64 (f 16),.int .i64 (f 17),.int .i64 (f 18),.int .i64 (f 19),.int .i64 (f 20),.int .i64 (f 21),.int .i64 (f 22),.int .i64 (f 23),.int .i64 (f 24),.int .i64 (f 25)] 212)).alloc (.cells #[.int .i64 0,.int .i64 0,.int .i64 0,.int .i64 0,.int .i64 0,.int .i64 0,.int .i64 0,.int .i64 0,.int .i64 0,.int .i64 0,.int .i64 0,.int .i64 0,.int .i64 0,.int .i64 0,.int .i64 0,.int .i64 0,.int .i64 0,.int .i64 0,.int .i64 0,.int .i64 0,.int .i64 0,.int .i64 0,.int .i64 0,.int .i64 0,.int .i64 0,.int .i64 0] 42)).alloc (.cells #[.int .i64 0,.int .i64 0,.int .i64 0,.int .i64 0,.int .i64 0,.int .i64 0,.int .i64 0,.int .i64 0,.int .i64 0,.int .i64 0,.int .i64 0,.int .i64 0,.int .i64 0,.int .i64 0,.int .i64 0,.int .i64 0,.int .i64 0,.int .i64 0,.int .i64 0,.int .i64 0,.int .i64 0,.int .i64 0,.int .i64 0,.int .i64 0,.int .i64 0,.int .i64 0] 42)) from X_);have r0:=(Blk.new (w.alloc (.cells #[.int .i64 (f 0),.int .i64 (f 1),.int .i64 (f 2),.int .i64 (f 3),.int .i64 (f 4),.int .i64 (f 5),.int .i64 (f 6),.int .i64 (f 7),.int .i64 (f 8),.int .i64 (f 9),.int .i64 (f 10),.int .i64 (f 11),.int .i64 (f 12),.int .i64 (f 13),.int .i64 (f 14),.int .i64 (f 15),.int .i64 (f 16),.int .i64 (f 17),.int .i64 (f 18),.int .i64 (f 19),.int .i64 (f 20),.int .i64 (f 21),.int .i64 (f 22),.int .i64 (f 23),.int .i64 (f 24),.int .i64 (f 25)] 212)) 42 [.int .i64 0,.int .i64 0,.int .i64 0,.int .i64 0,.int .i64 0,.int .i64 0,.int .i64 0,.int .i64 0,.int .i64 0,.int .i64 0,.int .i64 0,.int .i64 0,.int .i64 0,.int .i64 0,.int .i64 0,.int .i64 0,.int .i64 0,.int .i64 0,.int .i64 0,.int .i64 0,.int .i64 0,.int .i64 0,.int .i64 0,.int .i64 0,.int .i64 0,.int .i64 0]).ext (show Ext ((w.alloc (.cells #[.int .i64 (f 0),.int .i64 (f 1),.int .i64 (f 2),.int .i64 (f 3),.int .i64 (f 4),.int .i64 (f 5),.int .i64 (f 6),.int .i64 (f 7),.int .i64 (f 8),.int .i64 (f 9),.int .i64 (f 10),.int .i64 (f 11),.int .i64 (f 12),.int .i64 (f 13),.int .i64 (f 14),.int .i64 (f 15),.int .i64 (f 16),.int .i64 (f 17),.int .i64 (f 18),.int .i64 (f 19),.int .i64 (f 20),.int .i64 (f 21),.int .i64 (f 22),.int .i64 (f 23),.int .i64 (f 24),.int .i64 (f 25)] 212)).alloc (.cells #[.int .i64 0,.int .i64 0,.int .i64 0,.int .i64 0,.int .i64 0,.int .i64 0,.int .i64 0,.int .i64 0,.int .i64 0,.int .i64 0,.int .i64 0,.int .i64 0,.int .i64 0,.int .i64 0,.int .i64 0,.int .i64 0,.int .i64 0,.int .i64 0,.int .i64 0,.int .i64 0,.int .i64 0,.int .i64 0,.int .i64 0,.int .i64 0,.int .i64 0,.int .i64 0] 42)) (((w.alloc (.cells #[.int .i64 (f 0),.int .i64 (f 1),.int .i64 (f 2),.int .i64 (f 3),.int .i64 (f 4),.int .i64 (f 5),.int .i64 (f 6),.int .i64 (f 7),.int .i64 (f 8),.int .i64 (f 9),.int .i64 (f 10),.int .i64 (f 11),.int .i64 (f 12),.int .i64 (f 13),.int .i64 (f 14),.int .i64 (f 15),.int .i64 (f 16),.int .i64 (f 17),.int .i64 (f 18),.int .i64 (f 19),.int .i64 (f 20),.int .i64 (f 21),.int .i64 (f 22),.int .i64 (f 23),.int .i64 (f 24),.int .i64 (f 25)] 212)).alloc (.cells #[.int .i64 0,.int .i64 0,.int .i64 0,.int .i64 0,.int .i64 0,.int .i64 0,.int .i64 0,.int .i64 0,.int .i64 0,.int .i64 0,.int .i64 0,.int .i64 0,.int .i64 0,.int .i64 0,.int .i64 0,.int .i64 0,.int .i64 0,.int .i64 0,.int .i64 0,.int .i64 0,.int .i64 0,.int .i64 0,.int .i64 0,.int .i64 0,.int .i64 0,.int .i64 0] 42)).alloc (.cells #[.int .i64 0,.int .i64 0,.int .i64 0,.int .i64 0,.int .i64 0,.int .i64 0,.int .i64 0,.int .i64 0,.int .i64 0,.int .i64 0,.int .i64 0,.int .i64 0,.int .i64 0,.int .i64 0,.int .i64 0,.int .i64 0,.int .i64 0,.int .i64 0,.int .i64 0,.int .i64 0,.int .i64 0,.int .i64 0,.int .i64 0,.int .i64 0,.int .i64 0,.int .i64 0] 42)) from X_);have t0:=RowI.zero (f:=f) (row26_zero (w:=((w.alloc (.cells #[.int .i64 (f 0),.int .i64 (f 1),.int .i64 (f 2),.int .i64 (f 3),.int .i64 (f 4),.int .i64 (f 5),.int .i64 (f 6),.int .i64 (f 7),.int .i64 (f 8),.int .i64 (f 9),.int .i64 (f 10),.int .i64 (f 11),.int .i64 (f 12),.int .i64 (f 13),.int .i64 (f 14),.int .i64 (f 15),.int .i64 (f 16),.int .i64 (f 17),.int .i64 (f 18),.int .i64 (f 19),.int .i64 (f 20),.int .i64 (f 21),.int .i64 (f 22),.int .i64 (f 23),.int .i64 (f 24),.int .i64 (f 25)] 212)).alloc (.cells #[.int .i64 0,.int .i64 0,.int .i64 0,.int .i64 0,.int .i64 0,.int .i64 0,.int .i64 0,.int .i64 0,.int .i64 0,.int .i64 0,.int .i64 0,.int .i64 0,.int .i64 0,.int .i64 0,.int .i64 0,.int .i64 0,.int .i64 0,.int .i64 0,.int .i64 0,.int .i64 0,.int .i64 0,.int .i64 0,.int .i64 0,.int .i64 0,.int .i64 0,.int .i64 0] 42))) (t:=42) rfl);simp only [World.size_alloc] at r0 t0;have x0:Ext w (((w.alloc (.cells #[.int .i64 (f 0),.int .i64 (f 1),.int .i64 (f 2),.int .i64 (f 3),.int .i64 (f 4),.int .i64 (f 5),.int .i64 (f 6),.int .i64 (f 7),.int .i64 (f 8),.int .i64 (f 9),.int .i64 (f 10),.int .i64 (f 11),.int .i64 (f 12),.int .i64 (f 13),.int .i64 (f 14),.int .i64 (f 15),.int .i64 (f 16),.int .i64 (f 17),.int .i64 (f 18),.int .i64 (f 19),.int .i64 (f 20),.int .i64 (f 21),.int .i64 (f 22),.int .i64 (f 23),.int .i64 (f 24),.int .i64 (f 25)] 212)).alloc (.cells #[.int .i64 0,.int .i64 0,.int .i64 0,.int .i64 0,.int .i64 0,.int .i64 0,.int .i64 0,.int .i64 0,.int .i64 0,.int .i64 0,.int .i64 0,.int .i64 0,.int .i64 0,.int .i64 0,.int .i64 0,.int .i64 0,.int .i64 0,.int .i64 0,.int .i64 0,.int .i64 0,.int .i64 0,.int .i64 0,.int .i64 0,.int .i64 0,.int .i64 0,.int .i64 0] 42)).alloc (.cells #[.int .i64 0,.int .i64 0,.int .i64 0,.int .i64 0,.int .i64 0,.int .i64 0,.int .i64 0,.int .i64 0,.int .i64 0,.int .i64 0,.int .i64 0,.int .i64 0,.int .i64 0,.int .i64 0,.int .i64 0,.int .i64 0,.int .i64 0,.int .i64 0,.int .i64 0,.int .i64 0,.int .i64 0,.int .i64 0,.int .i64 0,.int .i64 0,.int .i64 0,.int .i64 0] 42)):=X_;have B0:=hid b0;have R0:=hid r0;have T0:=hid t0;have X0:=hid x0;clear b0 r0 t0 x0;go_enter Tryz.func132,Tryz.ntmps132;go_upto_region 2 with fail
 obtain ⟨WA,hWA⟩:∃WA,(((w.alloc (.cells #[.int .i64 (f 0),.int .i64 (f 1),.int .i64 (f 2),.int .i64 (f 3),.int .i64 (f 4),.int .i64 (f 5),.int .i64 (f 6),.int .i64 (f 7),.int .i64 (f 8),.int .i64 (f 9),.int .i64 (f 10),.int .i64 (f 11),.int .i64 (f 12),.int .i64 (f 13),.int .i64 (f 14),.int .i64 (f 15),.int .i64 (f 16),.int .i64 (f 17),.int .i64 (f 18),.int .i64 (f 19),.int .i64 (f 20),.int .i64 (f 21),.int .i64 (f 22),.int .i64 (f 23),.int .i64 (f 24),.int .i64 (f 25)] 212)).alloc (.cells #[.int .i64 0,.int .i64 0,.int .i64 0,.int .i64 0,.int .i64 0,.int .i64 0,.int .i64 0,.int .i64 0,.int .i64 0,.int .i64 0,.int .i64 0,.int .i64 0,.int .i64 0,.int .i64 0,.int .i64 0,.int .i64 0,.int .i64 0,.int .i64 0,.int .i64 0,.int .i64 0,.int .i64 0,.int .i64 0,.int .i64 0,.int .i64 0,.int .i64 0,.int .i64 0] 42)).alloc (.cells #[.int .i64 0,.int .i64 0,.int .i64 0,.int .i64 0,.int .i64 0,.int .i64 0,.int .i64 0,.int .i64 0,.int .i64 0,.int .i64 0,.int .i64 0,.int .i64 0,.int .i64 0,.int .i64 0,.int .i64 0,.int .i64 0,.int .i64 0,.int .i64 0,.int .i64 0,.int .i64 0,.int .i64 0,.int .i64 0,.int .i64 0,.int .i64 0,.int .i64 0,.int .i64 0] 42))=WA:=⟨_,rfl⟩
 rw [hWA] at B0 R0 T0 X0 ⊢;clear hWA;obtain ⟨c0,c1,c2,c3,c4,c5,c6,c7,c8,c9,c10,c11⟩:=B0.out.q12;have cl:=B0.out.lt;go_wp2_with fail;refine (toPatch_val (f 0) (f 1) (f 2) (f 3) (f 4) (f 5) (f 6) (f 7) (f 8) (f 9) (f 10) (f 11) _).mono ?_;rintro e w1 ⟨rfl,x1⟩;clear c0 c1 c2 c3 c4 c5 c6 c7 c8 c9 c10 c11 cl;have B1:=hid (B0.out.ext x1);have R1:=hid (R0.out.ext x1);have T1:=hid (T0.out.ext x1);have X1:=hid (X0.out.trans x1);clear B0 R0 T0 X0 x1;go_upto_region 3 with (show wpList _ _ _ [_] _ _;refine wpList_store_mid rfl _ _ _ rfl (w.heap.size+1+1) 0 #[.int .i64 (f 0),.int .i64 (f 1),.int .i64 (f 2),.int .i64 (f 3),.int .i64 (f 4),.int .i64 (f 5),.int .i64 (f 6),.int .i64 (f 7),.int .i64 (f 8),.int .i64 (f 9),.int .i64 (f 10),.int .i64 (f 11)] rfl rfl (T1.out.there (m:=12) (by decide)) info_P12 (by kernel_rfl) ?_);have B2:=hid (B1.out.setC (b:=w.heap.size+1+1) (by omega) [.int .i64 (f 0),.int .i64 (f 1),.int .i64 (f 2),.int .i64 (f 3),.int .i64 (f 4),.int .i64 (f 5),.int .i64 (f 6),.int .i64 (f 7),.int .i64 (f 8),.int .i64 (f 9),.int .i64 (f 10),.int .i64 (f 11)] 0);have R2:=hid (R1.out.setC (b:=w.heap.size+1+1) (by omega) [.int .i64 (f 0),.int .i64 (f 1),.int .i64 (f 2),.int .i64 (f 3),.int .i64 (f 4),.int .i64 (f 5),.int .i64 (f 6),.int .i64 (f 7),.int .i64 (f 8),.int .i64 (f 9),.int .i64 (f 10),.int .i64 (f 11)] 0);have T2:=hid (RowI.stepN [f 0,f 1,f 2,f 3,f 4,f 5,f 6,f 7,f 8,f 9,f 10,f 11] 0 _ T1.out (by first|exact lst12 f 0|(intro j x h;rw [Nat.zero_add];have:=lst12 f 0 j x;simpa using this h)));have X2:=hid (X1.out.setC (b:=w.heap.size+1+1) (by omega) [.int .i64 (f 0),.int .i64 (f 1),.int .i64 (f 2),.int .i64 (f 3),.int .i64 (f 4),.int .i64 (f 5),.int .i64 (f 6),.int .i64 (f 7),.int .i64 (f 8),.int .i64 (f 9),.int .i64 (f 10),.int .i64 (f 11)] 0);simp only [List.map_cons,List.map_nil,List.length_cons,List.length_nil,Nat.zero_add,Nat.reduceAdd] at T2
 obtain ⟨WB0,hWB0⟩:∃W,w1.setCells (w.heap.size+1+1) 0 [.int .i64 (f 0),.int .i64 (f 1),.int .i64 (f 2),.int .i64 (f 3),.int .i64 (f 4),.int .i64 (f 5),.int .i64 (f 6),.int .i64 (f 7),.int .i64 (f 8),.int .i64 (f 9),.int .i64 (f 10),.int .i64 (f 11)]=W:=⟨_,rfl⟩
 rw [hWB0] at B2 R2 T2 X2
 show Code.wp _ _ _ _ (w1.setCells (w.heap.size+1+1) 0 [.int .i64 (f 0),.int .i64 (f 1),.int .i64 (f 2),.int .i64 (f 3),.int .i64 (f 4),.int .i64 (f 5),.int .i64 (f 6),.int .i64 (f 7),.int .i64 (f 8),.int .i64 (f 9),.int .i64 (f 10),.int .i64 (f 11)])
 rw [hWB0];clear hWB0 B1 R1 T1 X1;have c12:=B2.out.cell 12 rfl;have c13:=B2.out.cell 13 rfl;have c14:=B2.out.cell 14 rfl;have c15:=B2.out.cell 15 rfl;have c16:=B2.out.cell 16 rfl;have c17:=B2.out.cell 17 rfl;have c18:=B2.out.cell 18 rfl;have c19:=B2.out.cell 19 rfl;have c20:=B2.out.cell 20 rfl;have c21:=B2.out.cell 21 rfl;have c22:=B2.out.cell 22 rfl;have c23:=B2.out.cell 23 rfl;have cl:=B2.out.lt;go_wp2_with fail;refine (toPatch_val (f 12) (f 13) (f 14) (f 15) (f 16) (f 17) (f 18) (f 19) (f 20) (f 21) (f 22) (f 23) _).mono ?_;rintro e w2 ⟨rfl,x2⟩;clear c12 c13 c14 c15 c16 c17 c18 c19 c20 c21 c22 c23 cl;have B3:=hid (B2.out.ext x2);have R3:=hid (R2.out.ext x2);have T3:=hid (T2.out.ext x2);have X3:=hid (X2.out.trans x2);clear B2 R2 T2 X2 x2;go_upto_region 4 with (show wpList _ _ _ [_] _ _;refine wpList_store_mid rfl _ _ _ rfl (w.heap.size+1+1) 12 #[.int .i64 (f 12),.int .i64 (f 13),.int .i64 (f 14),.int .i64 (f 15),.int .i64 (f 16),.int .i64 (f 17),.int .i64 (f 18),.int .i64 (f 19),.int .i64 (f 20),.int .i64 (f 21),.int .i64 (f 22),.int .i64 (f 23)] rfl rfl (T3.out.there (m:=12) (by decide)) info_P12 (by kernel_rfl) ?_);have B4:=hid (B3.out.setC (b:=w.heap.size+1+1) (by omega) [.int .i64 (f 12),.int .i64 (f 13),.int .i64 (f 14),.int .i64 (f 15),.int .i64 (f 16),.int .i64 (f 17),.int .i64 (f 18),.int .i64 (f 19),.int .i64 (f 20),.int .i64 (f 21),.int .i64 (f 22),.int .i64 (f 23)] 12);have R4:=hid (R3.out.setC (b:=w.heap.size+1+1) (by omega) [.int .i64 (f 12),.int .i64 (f 13),.int .i64 (f 14),.int .i64 (f 15),.int .i64 (f 16),.int .i64 (f 17),.int .i64 (f 18),.int .i64 (f 19),.int .i64 (f 20),.int .i64 (f 21),.int .i64 (f 22),.int .i64 (f 23)] 12);have T4:=hid (RowI.stepN [f 12,f 13,f 14,f 15,f 16,f 17,f 18,f 19,f 20,f 21,f 22,f 23] 12 _ T3.out (by first|exact lst12 f 12|(intro j x h;rw [Nat.zero_add];have:=lst12 f 0 j x;simpa using this h)));have X4:=hid (X3.out.setC (b:=w.heap.size+1+1) (by omega) [.int .i64 (f 12),.int .i64 (f 13),.int .i64 (f 14),.int .i64 (f 15),.int .i64 (f 16),.int .i64 (f 17),.int .i64 (f 18),.int .i64 (f 19),.int .i64 (f 20),.int .i64 (f 21),.int .i64 (f 22),.int .i64 (f 23)] 12);simp only [List.map_cons,List.map_nil,List.length_cons,List.length_nil,Nat.zero_add,Nat.reduceAdd] at T4
 obtain ⟨WB1,hWB1⟩:∃W,w2.setCells (w.heap.size+1+1) 12 [.int .i64 (f 12),.int .i64 (f 13),.int .i64 (f 14),.int .i64 (f 15),.int .i64 (f 16),.int .i64 (f 17),.int .i64 (f 18),.int .i64 (f 19),.int .i64 (f 20),.int .i64 (f 21),.int .i64 (f 22),.int .i64 (f 23)]=W:=⟨_,rfl⟩
 rw [hWB1] at B4 R4 T4 X4
 show Code.wp _ _ _ _ (w2.setCells (w.heap.size+1+1) 12 [.int .i64 (f 12),.int .i64 (f 13),.int .i64 (f 14),.int .i64 (f 15),.int .i64 (f 16),.int .i64 (f 17),.int .i64 (f 18),.int .i64 (f 19),.int .i64 (f 20),.int .i64 (f 21),.int .i64 (f 22),.int .i64 (f 23)])
 rw [hWB1];clear hWB1 B3 R3 T3 X3;have c24:=B4.out.cell 24 rfl;have c25:=B4.out.cell 25 rfl;have cl:=B4.out.lt;have d24:=T4.out.cell (i:=24) (by decide);have d25:=T4.out.cell (i:=25) (by decide);have e24:=T4.out.frozen 24;have e25:=T4.out.frozen 25;have tl:=T4.out.lt;have T5:=hid (RowI.step (RowI.step T4.out rfl rfl) rfl rfl);have R5:=hid ((R4.out.other (a:=⟨w.heap.size+1+1,24,none⟩) (by simp) (.int .i64 (f 24))).other (a:=⟨w.heap.size+1+1,25,none⟩) (by simp) (.int .i64 (f 25)));have X5:=hid ((X4.out.setCell (p:=⟨w.heap.size+1+1,24,none⟩) (by simp;omega) (.int .i64 (f 24))).setCell (p:=⟨w.heap.size+1+1,25,none⟩) (by simp;omega) (.int .i64 (f 25)));clear B4 R4 X4;go_upto_region 6 with fail
 obtain ⟨WC,hWC⟩:∃W,((WB1.setCell ⟨w.heap.size+1+1,24,none⟩ (.int .i64 (f 24))).setCell ⟨w.heap.size+1+1,25,none⟩ (.int .i64 (f 25)))=W:=⟨_,rfl⟩
 rw [hWC] at T5 R5 X5 ⊢;clear hWC c24 c25 cl d24 d25 e24 e25 tl T4;have hcT:=(RowI.full T5.out).rangeL (o:=0) [f 0,f 1,f 2,f 3,f 4,f 5,f 6,f 7,f 8,f 9,f 10,f 11,f 12,f 13,f 14,f 15,f 16,f 17,f 18,f 19,f 20,f 21,f 22,f 23,f 24,f 25] (by simp) (fun j x h=>by rw [Nat.zero_add];exact lst26 f j x h);have hbR:WC.heap[w.heap.size+1]?=some (.cells #[.int .i64 0,.int .i64 0,.int .i64 0,.int .i64 0,.int .i64 0,.int .i64 0,.int .i64 0,.int .i64 0,.int .i64 0,.int .i64 0,.int .i64 0,.int .i64 0,.int .i64 0,.int .i64 0,.int .i64 0,.int .i64 0,.int .i64 0,.int .i64 0,.int .i64 0,.int .i64 0,.int .i64 0,.int .i64 0,.int .i64 0,.int .i64 0,.int .i64 0,.int .i64 0] 42 (0,0)):=R5.out;go_wp2_with (first|(show wpList _ _ _ [_,_] _ _;refine wpList_load_mid rfl _ _ rfl (w.heap.size+1+1) 0 rfl [.int .i64 (f 0),.int .i64 (f 1),.int .i64 (f 2),.int .i64 (f 3),.int .i64 (f 4),.int .i64 (f 5),.int .i64 (f 6),.int .i64 (f 7),.int .i64 (f 8),.int .i64 (f 9),.int .i64 (f 10),.int .i64 (f 11),.int .i64 (f 12),.int .i64 (f 13),.int .i64 (f 14),.int .i64 (f 15),.int .i64 (f 16),.int .i64 (f 17),.int .i64 (f 18),.int .i64 (f 19),.int .i64 (f 20),.int .i64 (f 21),.int .i64 (f 22),.int .i64 (f 23),.int .i64 (f 24),.int .i64 (f 25)] _ hcT Tryz.underlying42 rfl info_srfS ?_)|(show wpList _ _ _ [_] _ _;refine wpList_store_rowTo rfl _ _ _ rfl rfl (w.heap.size+1) #[.int .i64 (f 0),.int .i64 (f 1),.int .i64 (f 2),.int .i64 (f 3),.int .i64 (f 4),.int .i64 (f 5),.int .i64 (f 6),.int .i64 (f 7),.int .i64 (f 8),.int .i64 (f 9),.int .i64 (f 10),.int .i64 (f 11),.int .i64 (f 12),.int .i64 (f 13),.int .i64 (f 14),.int .i64 (f 15),.int .i64 (f 16),.int .i64 (f 17),.int .i64 (f 18),.int .i64 (f 19),.int .i64 (f 20),.int .i64 (f 21),.int .i64 (f 22),.int .i64 (f 23),.int .i64 (f 24),.int .i64 (f 25)] rfl rfl _ _ hbR info_srfS rfl (by kernel_rfl) ?_));have bR:=R5.out.rowB [.int .i64 (f 0),.int .i64 (f 1),.int .i64 (f 2),.int .i64 (f 3),.int .i64 (f 4),.int .i64 (f 5),.int .i64 (f 6),.int .i64 (f 7),.int .i64 (f 8),.int .i64 (f 9),.int .i64 (f 10),.int .i64 (f 11),.int .i64 (f 12),.int .i64 (f 13),.int .i64 (f 14),.int .i64 (f 15),.int .i64 (f 16),.int .i64 (f 17),.int .i64 (f 18),.int .i64 (f 19),.int .i64 (f 20),.int .i64 (f 21),.int .i64 (f 22),.int .i64 (f 23),.int .i64 (f 24),.int .i64 (f 25)];have xR:=X5.out.setRowB (g:=w.heap.size+1) (by omega) #[.int .i64 (f 0),.int .i64 (f 1),.int .i64 (f 2),.int .i64 (f 3),.int .i64 (f 4),.int .i64 (f 5),.int .i64 (f 6),.int .i64 (f 7),.int .i64 (f 8),.int .i64 (f 9),.int .i64 (f 10),.int .i64 (f 11),.int .i64 (f 12),.int .i64 (f 13),.int .i64 (f 14),.int .i64 (f 15),.int .i64 (f 16),.int .i64 (f 17),.int .i64 (f 18),.int .i64 (f 19),.int .i64 (f 20),.int .i64 (f 21),.int .i64 (f 22),.int .i64 (f 23),.int .i64 (f 24),.int .i64 (f 25)];refine ret_box rfl rfl bR _ Tryz.underlying42 rfl info_srfS rfl ?_;exact ⟨rfl,xR⟩
theorem eqSurface_same (f:Nat→Int) (w:World):Calls Tryz.prog 134 #[.agg #[.int .i64 (f 0),.int .i64 (f 1),.int .i64 (f 2),.int .i64 (f 3),.int .i64 (f 4),.int .i64 (f 5),.int .i64 (f 6),.int .i64 (f 7),.int .i64 (f 8),.int .i64 (f 9),.int .i64 (f 10),.int .i64 (f 11),.int .i64 (f 12),.int .i64 (f 13),.int .i64 (f 14),.int .i64 (f 15),.int .i64 (f 16),.int .i64 (f 17),.int .i64 (f 18),.int .i64 (f 19),.int .i64 (f 20),.int .i64 (f 21),.int .i64 (f 22),.int .i64 (f 23),.int .i64 (f 24),.int .i64 (f 25)],.agg #[.int .i64 (f 0),.int .i64 (f 1),.int .i64 (f 2),.int .i64 (f 3),.int .i64 (f 4),.int .i64 (f 5),.int .i64 (f 6),.int .i64 (f 7),.int .i64 (f 8),.int .i64 (f 9),.int .i64 (f 10),.int .i64 (f 11),.int .i64 (f 12),.int .i64 (f 13),.int .i64 (f 14),.int .i64 (f 15),.int .i64 (f 16),.int .i64 (f 17),.int .i64 (f 18),.int .i64 (f 19),.int .i64 (f 20),.int .i64 (f 21),.int .i64 (f 22),.int .i64 (f 23),.int .i64 (f 24),.int .i64 (f 25)]] w fun e w'=>e = .returned (.bool true)∧Ext w w':=by
 have b0:=(Blk.new w 42 [.int .i64 (f 0),.int .i64 (f 1),.int .i64 (f 2),.int .i64 (f 3),.int .i64 (f 4),.int .i64 (f 5),.int .i64 (f 6),.int .i64 (f 7),.int .i64 (f 8),.int .i64 (f 9),.int .i64 (f 10),.int .i64 (f 11),.int .i64 (f 12),.int .i64 (f 13),.int .i64 (f 14),.int .i64 (f 15),.int .i64 (f 16),.int .i64 (f 17),.int .i64 (f 18),.int .i64 (f 19),.int .i64 (f 20),.int .i64 (f 21),.int .i64 (f 22),.int .i64 (f 23),.int .i64 (f 24),.int .i64 (f 25)]).ext (show Ext (w.alloc (.cells #[.int .i64 (f 0),.int .i64 (f 1),.int .i64 (f 2),.int .i64 (f 3),.int .i64 (f 4),.int .i64 (f 5),.int .i64 (f 6),.int .i64 (f 7),.int .i64 (f 8),.int .i64 (f 9),.int .i64 (f 10),.int .i64 (f 11),.int .i64 (f 12),.int .i64 (f 13),.int .i64 (f 14),.int .i64 (f 15),.int .i64 (f 16),.int .i64 (f 17),.int .i64 (f 18),.int .i64 (f 19),.int .i64 (f 20),.int .i64 (f 21),.int .i64 (f 22),.int .i64 (f 23),.int .i64 (f 24),.int .i64 (f 25)] 42)) ((w.alloc (.cells #[.int .i64 (f 0),.int .i64 (f 1),.int .i64 (f 2),.int .i64 (f 3),.int .i64 (f 4),.int .i64 (f 5),.int .i64 (f 6),.int .i64 (f 7),.int .i64 (f 8),.int .i64 (f 9),.int .i64 (f 10),.int .i64 (f 11),.int .i64 (f 12),.int .i64 (f 13),.int .i64 (f 14),.int .i64 (f 15),.int .i64 (f 16),.int .i64 (f 17),.int .i64 (f 18),.int .i64 (f 19),.int .i64 (f 20),.int .i64 (f 21),.int .i64 (f 22),.int .i64 (f 23),.int .i64 (f 24),.int .i64 (f 25)] 42)).alloc (.cells #[.int .i64 (f 0),.int .i64 (f 1),.int .i64 (f 2),.int .i64 (f 3),.int .i64 (f 4),.int .i64 (f 5),.int .i64 (f 6),.int .i64 (f 7),.int .i64 (f 8),.int .i64 (f 9),.int .i64 (f 10),.int .i64 (f 11),.int .i64 (f 12),.int .i64 (f 13),.int .i64 (f 14),.int .i64 (f 15),.int .i64 (f 16),.int .i64 (f 17),.int .i64 (f 18),.int .i64 (f 19),.int .i64 (f 20),.int .i64 (f 21),.int .i64 (f 22),.int .i64 (f 23),.int .i64 (f 24),.int .i64 (f 25)] 42)) from X_);have r0:=Blk.new (w.alloc (.cells #[.int .i64 (f 0),.int .i64 (f 1),.int .i64 (f 2),.int .i64 (f 3),.int .i64 (f 4),.int .i64 (f 5),.int .i64 (f 6),.int .i64 (f 7),.int .i64 (f 8),.int .i64 (f 9),.int .i64 (f 10),.int .i64 (f 11),.int .i64 (f 12),.int .i64 (f 13),.int .i64 (f 14),.int .i64 (f 15),.int .i64 (f 16),.int .i64 (f 17),.int .i64 (f 18),.int .i64 (f 19),.int .i64 (f 20),.int .i64 (f 21),.int .i64 (f 22),.int .i64 (f 23),.int .i64 (f 24),.int .i64 (f 25)] 42)) 42 [.int .i64 (f 0),.int .i64 (f 1),.int .i64 (f 2),.int .i64 (f 3),.int .i64 (f 4),.int .i64 (f 5),.int .i64 (f 6),.int .i64 (f 7),.int .i64 (f 8),.int .i64 (f 9),.int .i64 (f 10),.int .i64 (f 11),.int .i64 (f 12),.int .i64 (f 13),.int .i64 (f 14),.int .i64 (f 15),.int .i64 (f 16),.int .i64 (f 17),.int .i64 (f 18),.int .i64 (f 19),.int .i64 (f 20),.int .i64 (f 21),.int .i64 (f 22),.int .i64 (f 23),.int .i64 (f 24),.int .i64 (f 25)];rw [World.size_alloc] at r0;have X0:=hid (show Ext w ((w.alloc (.cells #[.int .i64 (f 0),.int .i64 (f 1),.int .i64 (f 2),.int .i64 (f 3),.int .i64 (f 4),.int .i64 (f 5),.int .i64 (f 6),.int .i64 (f 7),.int .i64 (f 8),.int .i64 (f 9),.int .i64 (f 10),.int .i64 (f 11),.int .i64 (f 12),.int .i64 (f 13),.int .i64 (f 14),.int .i64 (f 15),.int .i64 (f 16),.int .i64 (f 17),.int .i64 (f 18),.int .i64 (f 19),.int .i64 (f 20),.int .i64 (f 21),.int .i64 (f 22),.int .i64 (f 23),.int .i64 (f 24),.int .i64 (f 25)] 42)).alloc (.cells #[.int .i64 (f 0),.int .i64 (f 1),.int .i64 (f 2),.int .i64 (f 3),.int .i64 (f 4),.int .i64 (f 5),.int .i64 (f 6),.int .i64 (f 7),.int .i64 (f 8),.int .i64 (f 9),.int .i64 (f 10),.int .i64 (f 11),.int .i64 (f 12),.int .i64 (f 13),.int .i64 (f 14),.int .i64 (f 15),.int .i64 (f 16),.int .i64 (f 17),.int .i64 (f 18),.int .i64 (f 19),.int .i64 (f 20),.int .i64 (f 21),.int .i64 (f 22),.int .i64 (f 23),.int .i64 (f 24),.int .i64 (f 25)] 42)) from X_);have B0:=hid b0;have R0:=hid r0;clear b0 r0;go_enter Tryz.func134,Tryz.ntmps134;go_upto_region 1 with fail
 obtain ⟨WA,hWA⟩:∃WA,((w.alloc (.cells #[.int .i64 (f 0),.int .i64 (f 1),.int .i64 (f 2),.int .i64 (f 3),.int .i64 (f 4),.int .i64 (f 5),.int .i64 (f 6),.int .i64 (f 7),.int .i64 (f 8),.int .i64 (f 9),.int .i64 (f 10),.int .i64 (f 11),.int .i64 (f 12),.int .i64 (f 13),.int .i64 (f 14),.int .i64 (f 15),.int .i64 (f 16),.int .i64 (f 17),.int .i64 (f 18),.int .i64 (f 19),.int .i64 (f 20),.int .i64 (f 21),.int .i64 (f 22),.int .i64 (f 23),.int .i64 (f 24),.int .i64 (f 25)] 42)).alloc (.cells #[.int .i64 (f 0),.int .i64 (f 1),.int .i64 (f 2),.int .i64 (f 3),.int .i64 (f 4),.int .i64 (f 5),.int .i64 (f 6),.int .i64 (f 7),.int .i64 (f 8),.int .i64 (f 9),.int .i64 (f 10),.int .i64 (f 11),.int .i64 (f 12),.int .i64 (f 13),.int .i64 (f 14),.int .i64 (f 15),.int .i64 (f 16),.int .i64 (f 17),.int .i64 (f 18),.int .i64 (f 19),.int .i64 (f 20),.int .i64 (f 21),.int .i64 (f 22),.int .i64 (f 23),.int .i64 (f 24),.int .i64 (f 25)] 42))=WA:=⟨_,rfl⟩
 rw [hWA] at B0 R0 X0 ⊢;clear hWA;have c0:=B0.out.cell 0 rfl;have d0:=R0.out.cell 0 rfl;have c1:=B0.out.cell 1 rfl;have d1:=R0.out.cell 1 rfl;have c2:=B0.out.cell 2 rfl;have d2:=R0.out.cell 2 rfl;have c3:=B0.out.cell 3 rfl;have d3:=R0.out.cell 3 rfl;have c4:=B0.out.cell 4 rfl;have d4:=R0.out.cell 4 rfl;have c5:=B0.out.cell 5 rfl;have d5:=R0.out.cell 5 rfl;have c6:=B0.out.cell 6 rfl;have d6:=R0.out.cell 6 rfl;have c7:=B0.out.cell 7 rfl;have d7:=R0.out.cell 7 rfl;have c8:=B0.out.cell 8 rfl;have d8:=R0.out.cell 8 rfl;have c9:=B0.out.cell 9 rfl;have d9:=R0.out.cell 9 rfl;have c10:=B0.out.cell 10 rfl;have d10:=R0.out.cell 10 rfl;have c11:=B0.out.cell 11 rfl;have d11:=R0.out.cell 11 rfl;have cl:=B0.out.lt;have dl:=R0.out.lt;go_wp2_with fail;refine (eqPatch_same (f 0) (f 1) (f 2) (f 3) (f 4) (f 5) (f 6) (f 7) (f 8) (f 9) (f 10) (f 11) _).mono ?_;rintro e w1 ⟨rfl,x1⟩;have B1:=hid (B0.out.ext x1);have R1:=hid (R0.out.ext x1);have X1:=hid (X0.out.trans x1);clear B0 R0 X0 x1 cl dl c0 d0 c1 d1 c2 d2 c3 d3 c4 d4 c5 d5 c6 d6 c7 d7 c8 d8 c9 d9 c10 d10 c11 d11;have c12:=B1.out.cell 12 rfl;have d12:=R1.out.cell 12 rfl;have c13:=B1.out.cell 13 rfl;have d13:=R1.out.cell 13 rfl;have c14:=B1.out.cell 14 rfl;have d14:=R1.out.cell 14 rfl;have c15:=B1.out.cell 15 rfl;have d15:=R1.out.cell 15 rfl;have c16:=B1.out.cell 16 rfl;have d16:=R1.out.cell 16 rfl;have c17:=B1.out.cell 17 rfl;have d17:=R1.out.cell 17 rfl;have c18:=B1.out.cell 18 rfl;have d18:=R1.out.cell 18 rfl;have c19:=B1.out.cell 19 rfl;have d19:=R1.out.cell 19 rfl;have c20:=B1.out.cell 20 rfl;have d20:=R1.out.cell 20 rfl;have c21:=B1.out.cell 21 rfl;have d21:=R1.out.cell 21 rfl;have c22:=B1.out.cell 22 rfl;have d22:=R1.out.cell 22 rfl;have c23:=B1.out.cell 23 rfl;have d23:=R1.out.cell 23 rfl;have cl:=B1.out.lt;have dl:=R1.out.lt;go_wp2_with fail;refine (eqPatch_same (f 12) (f 13) (f 14) (f 15) (f 16) (f 17) (f 18) (f 19) (f 20) (f 21) (f 22) (f 23) _).mono ?_;rintro e w2 ⟨rfl,x2⟩;have B2:=hid (B1.out.ext x2);have R2:=hid (R1.out.ext x2);have X2:=hid (X1.out.trans x2);clear B1 R1 X1 x2 cl dl c12 d12 c13 d13 c14 d14 c15 d15 c16 d16 c17 d17 c18 d18 c19 d19 c20 d20 c21 d21 c22 d22 c23 d23;have c24:=B2.out.cell 24 rfl;have c25:=B2.out.cell 25 rfl;have d24:=R2.out.cell 24 rfl;have d25:=R2.out.cell 25 rfl;have cl:=B2.out.lt;have dl:=R2.out.lt;go_wp2;go_ret;exact ⟨rfl,X2.out⟩
theorem info_SrfZ:(Tryz.prog.info? 42).map (fun i=>(i.zero,i.size,i.bytes))=some (some (.agg #[.int .i64 0,.int .i64 0,.int .i64 0,.int .i64 0,.int .i64 0,.int .i64 0,.int .i64 0,.int .i64 0,.int .i64 0,.int .i64 0,.int .i64 0,.int .i64 0,.int .i64 0,.int .i64 0,.int .i64 0,.int .i64 0,.int .i64 0,.int .i64 0,.int .i64 0,.int .i64 0,.int .i64 0,.int .i64 0,.int .i64 0,.int .i64 0,.int .i64 0,.int .i64 0]),26,208):=by kernel_rfl
theorem info_srfL:(Tryz.prog.info? 212).map (fun i=>i.size)=some 26:=by kernel_rfl
theorem range26 {w:World} {b o:Nat} {g:Nat→Int} (h:∀j,j<26→w.cell? ⟨b,o+j,none⟩=some (.int .i64 (g j))):w.rangeAt b o [.int .i64 (g 0),.int .i64 (g 1),.int .i64 (g 2),.int .i64 (g 3),.int .i64 (g 4),.int .i64 (g 5),.int .i64 (g 6),.int .i64 (g 7),.int .i64 (g 8),.int .i64 (g 9),.int .i64 (g 10),.int .i64 (g 11),.int .i64 (g 12),.int .i64 (g 13),.int .i64 (g 14),.int .i64 (g 15),.int .i64 (g 16),.int .i64 (g 17),.int .i64 (g 18),.int .i64 (g 19),.int .i64 (g 20),.int .i64 (g 21),.int .i64 (g 22),.int .i64 (g 23),.int .i64 (g 24),.int .i64 (g 25)]:=by
 intro q v hq;have hl:=(List.getElem?_eq_some_iff.1 hq).1
 rcases twenty6 hl with e|e|e|e|e|e|e|e|e|e|e|e|e|e|e|e|e|e|e|e|e|e|e|e|e|e <;> subst e <;> exact (h _ (by decide)).trans hq
theorem toSurfaceS_any (lo hi:Nat) (u:Value) (n:Nat) (f:Nat→Int) (w:World) (hu:Flats 26 lo hi w u n f) (hh:hi≤w.heap.size) (hsz:n≤1048576) :
  Calls Tryz.prog 77 #[u] w fun e w'=>e = .returned (.slice (some ⟨w.heap.size,0,none⟩) n n)∧RowI w' w.heap.size 42 (n*26) f∧Ext w w':=by
 obtain ⟨i0,hi0,hz0,hz1,hz2⟩:=info_parts info_SrfZ;obtain ⟨a,cap,rfl,HU⟩:=hu.open;clear hu;have hcap:=HU.cap;have hle:=HU.le;have HUU:=hid HU;clear HU;go_enter Tryz.func77,Tryz.ntmps77;go_wp2_with (at_make;refine wpList_make_full _ rfl _ _ 29 rfl w.heap.size 42 i0 _ 26 Tryz.underlying29 hi0 hz0 hz1 _ _ _ _ n rfl rfl rfl rfl (by rw [hz2];omega) (by unfold maxLen;omega) (Nat.le_refl _) ?_);intro w1 hown hgrow;have hx:Ext w w1:=(Ext.refl w).grown hgrow (fun k h=>by cases h);have hrow:=hid (RowI.zero (f:=f) (ownsRow_rowI (made_zero (k:=26) rfl (by decide) _) hown));clear hown hgrow hi0 hz0 hz1 hz2;go_wp2
 go_loopw [4] (fun i wr=>∃k:Nat,k≤n∧i = .int .i64 k∧Ext w wr∧RowI wr w.heap.size 42 (n*26) (fillI f (k*26))) (fun i _=>n - (intOf i).toNat)
 case atStart=>exact ⟨0,by omega,rfl,hx,by simpa using hrow.out⟩
 case round=>
  clear hx hrow;obtain ⟨k,hk,rfl,hx,hrow⟩:=hrel
  by_cases hlt:k<n
  ·obtain ⟨b,off,rfl,hb1,hb2,hc⟩:=HUU.out.at hlt (by decide)
   have hlen:=flat_lt (k:=26) (j:=25) hlt (by decide)
   obtain ⟨g,hg⟩:∃g:Nat→Int,g=fun j=>f (k*26+j):=⟨_,rfl⟩
   have hcs:wr.rangeAt b (off+k*26) [.int .i64 (g 0),.int .i64 (g 1),.int .i64 (g 2),.int .i64 (g 3),.int .i64 (g 4),.int .i64 (g 5),.int .i64 (g 6),.int .i64 (g 7),.int .i64 (g 8),.int .i64 (g 9),.int .i64 (g 10),.int .i64 (g 11),.int .i64 (g 12),.int .i64 (g 13),.int .i64 (g 14),.int .i64 (g 15),.int .i64 (g 16),.int .i64 (g 17),.int .i64 (g 18),.int .i64 (g 19),.int .i64 (g 20),.int .i64 (g 21),.int .i64 (g 22),.int .i64 (g 23),.int .i64 (g 24),.int .i64 (g 25)]:=range26 fun j hj=>((hx.cells.1 b _ (by omega)).trans (hc j hj)).trans (by rw [hg]);have HG:=hid hg;have HX:=hid hx;have HR:=hid hrow
   have bl:b<wr.heap.size:=by have:=hx.size;omega
   clear hc hx hrow hg;go_wp2_with (show wpList _ _ _ [_,_,_,_] _ _;refine wpList_load_mid rfl _ _ rfl b (off+k*26) rfl [.int .i64 (g 0),.int .i64 (g 1),.int .i64 (g 2),.int .i64 (g 3),.int .i64 (g 4),.int .i64 (g 5),.int .i64 (g 6),.int .i64 (g 7),.int .i64 (g 8),.int .i64 (g 9),.int .i64 (g 10),.int .i64 (g 11),.int .i64 (g 12),.int .i64 (g 13),.int .i64 (g 14),.int .i64 (g 15),.int .i64 (g 16),.int .i64 (g 17),.int .i64 (g 18),.int .i64 (g 19),.int .i64 (g 20),.int .i64 (g 21),.int .i64 (g 22),.int .i64 (g 23),.int .i64 (g 24),.int .i64 (g 25)] _ hcs Tryz.underlying212 rfl info_srfL ?_);refine (toSurface_val g _).mono ?_;rintro e w2 ⟨rfl,h2⟩;have hR:=HR.out.ext h2;have hX:=HX.out.trans h2;have ht:=hR.there (o:=k*26) (m:=26) (by omega);have HX2:=hid (hX.setC (b:=w.heap.size) (Nat.le_refl _) [.int .i64 (g 0),.int .i64 (g 1),.int .i64 (g 2),.int .i64 (g 3),.int .i64 (g 4),.int .i64 (g 5),.int .i64 (g 6),.int .i64 (g 7),.int .i64 (g 8),.int .i64 (g 9),.int .i64 (g 10),.int .i64 (g 11),.int .i64 (g 12),.int .i64 (g 13),.int .i64 (g 14),.int .i64 (g 15),.int .i64 (g 16),.int .i64 (g 17),.int .i64 (g 18),.int .i64 (g 19),.int .i64 (g 20),.int .i64 (g 21),.int .i64 (g 22),.int .i64 (g 23),.int .i64 (g 24),.int .i64 (g 25)] (k*26));have HR2:=hid (RowI.stepN [g 0,g 1,g 2,g 3,g 4,g 5,g 6,g 7,g 8,g 9,g 10,g 11,g 12,g 13,g 14,g 15,g 16,g 17,g 18,g 19,g 20,g 21,g 22,g 23,g 24,g 25] (k*26) _ hR (fun j x h=>by have:=lst26 g j x h;rw [this,HG.out]));clear HX HR h2 hX hR hcs;go_wp2_with (show wpList _ _ _ [_] _ _;refine wpList_store_mid rfl _ _ _ rfl w.heap.size (k*26) #[.int .i64 (g 0),.int .i64 (g 1),.int .i64 (g 2),.int .i64 (g 3),.int .i64 (g 4),.int .i64 (g 5),.int .i64 (g 6),.int .i64 (g 7),.int .i64 (g 8),.int .i64 (g 9),.int .i64 (g 10),.int .i64 (g 11),.int .i64 (g 12),.int .i64 (g 13),.int .i64 (g 14),.int .i64 (g 15),.int .i64 (g 16),.int .i64 (g 17),.int .i64 (g 18),.int .i64 (g 19),.int .i64 (g 20),.int .i64 (g 21),.int .i64 (g 22),.int .i64 (g 23),.int .i64 (g 24),.int .i64 (g 25)] rfl rfl ht info_srf (by kernel_rfl) ?_);clear ht;go_roundw
   case rel=>
    refine ⟨k+1,by omega,by go_num,HX2.out,?_⟩;rw [Nat.add_mul,Nat.one_mul];exact HR2.out
   case measure=>simp [intOf];omega
  ·go_wp2
   go_ret
   obtain rfl:k=n:=by omega
   exact ⟨rfl,hrow.full,hx⟩
theorem eqSurfaceS_same (lo hi lo' hi':Nat) (u v:Value) (n:Nat) (f:Nat→Int) (w:World) (hu:Flats 26 lo hi w u n f) (hv:Flats 26 lo' hi' w v n f) (hh:hi≤w.heap.size) (hh':hi'≤w.heap.size) :
  Calls Tryz.prog 81 #[u,v] w fun e w'=>e = .returned (.bool true)∧Ext w w':=by
 obtain ⟨a,cap,rfl,HU⟩:=Flats.open hu;obtain ⟨a',cap',rfl,HV⟩:=Flats.open hv;clear hu hv;have h1:=HU.le;have h2:=HU.cap;have h1':=HV.le;have h2':=HV.cap;have HUU:=hid HU;have HVV:=hid HV;clear HU HV;go_enter Tryz.func81,Tryz.ntmps81;go_wp2
 go_loopw [5] (fun i wr=>∃k:Nat,k≤n∧i = .int .i64 k∧Ext w wr) (fun i _=>n - (intOf i).toNat)
 case atStart=>exact ⟨0,by omega,rfl,X_⟩
 case round=>
  obtain ⟨k,hk,rfl,hx⟩:=hrel
  by_cases hlt:k<n
  ·obtain ⟨b,off,rfl,hb1,hb2,hc⟩:=HUU.out.at hlt (by decide)
   obtain ⟨b',off',rfl,hb1',hb2',hc'⟩:=HVV.out.at hlt (by decide)
   obtain ⟨g,hg⟩:∃g:Nat→Int,g=fun j=>f (k*26+j):=⟨_,rfl⟩
   have HC1:=hid (show wr.rangeAt b (off+k*26) [.int .i64 (g 0),.int .i64 (g 1),.int .i64 (g 2),.int .i64 (g 3),.int .i64 (g 4),.int .i64 (g 5),.int .i64 (g 6),.int .i64 (g 7),.int .i64 (g 8),.int .i64 (g 9),.int .i64 (g 10),.int .i64 (g 11),.int .i64 (g 12),.int .i64 (g 13),.int .i64 (g 14),.int .i64 (g 15),.int .i64 (g 16),.int .i64 (g 17),.int .i64 (g 18),.int .i64 (g 19),.int .i64 (g 20),.int .i64 (g 21),.int .i64 (g 22),.int .i64 (g 23),.int .i64 (g 24),.int .i64 (g 25)] from range26 fun j hj=>((hx.cells.1 b _ (by omega)).trans (hc j hj)).trans (by rw [hg]));have HC2:=hid (show wr.rangeAt b' (off'+k*26) [.int .i64 (g 0),.int .i64 (g 1),.int .i64 (g 2),.int .i64 (g 3),.int .i64 (g 4),.int .i64 (g 5),.int .i64 (g 6),.int .i64 (g 7),.int .i64 (g 8),.int .i64 (g 9),.int .i64 (g 10),.int .i64 (g 11),.int .i64 (g 12),.int .i64 (g 13),.int .i64 (g 14),.int .i64 (g 15),.int .i64 (g 16),.int .i64 (g 17),.int .i64 (g 18),.int .i64 (g 19),.int .i64 (g 20),.int .i64 (g 21),.int .i64 (g 22),.int .i64 (g 23),.int .i64 (g 24),.int .i64 (g 25)] from range26 fun j hj=>((hx.cells.1 b' _ (by omega)).trans (hc' j hj)).trans (by rw [hg]))
   have s1:b<wr.heap.size:=by have:=hx.size;omega
   have s2:b'<wr.heap.size:=by have:=hx.size;omega
   have HX:=hid hx;clear hc hc' hx hg;go_wp2_with fail;refine wp_region_stages [([0,1,2,3,4,5,6,7],8),([],9)] 99 wr.heap.size (by kernel_rfl) (by kernel_rfl) ?_;refine st_ (hq:=by intro R h;show wpQuiet _ _ _ _ [_,_,_,_,_,_,_,_] _;go_big_quiet_step (fail);go_big_quiet_step (fail);go_big_quiet_step (fail);refine wpQuiet_load_mid rfl _ _ rfl b (off+k*26) rfl [.int .i64 (g 0),.int .i64 (g 1),.int .i64 (g 2),.int .i64 (g 3),.int .i64 (g 4),.int .i64 (g 5),.int .i64 (g 6),.int .i64 (g 7),.int .i64 (g 8),.int .i64 (g 9),.int .i64 (g 10),.int .i64 (g 11),.int .i64 (g 12),.int .i64 (g 13),.int .i64 (g 14),.int .i64 (g 15),.int .i64 (g 16),.int .i64 (g 17),.int .i64 (g 18),.int .i64 (g 19),.int .i64 (g 20),.int .i64 (g 21),.int .i64 (g 22),.int .i64 (g 23),.int .i64 (g 24),.int .i64 (g 25)] _ (by rintro _ ⟨d,rfl⟩ j v hj;rw [cell?_lowg _ _ _ _ s1];exact HC1.out j v hj) Tryz.underlying42 rfl info_srfS ?_;simp only [Act.put,List.setIfInBounds_toArray,List.set_cons_succ,List.set_cons_zero];go_big_quiet_step (fail);go_big_quiet_step (fail);go_big_quiet_step (fail);refine wpQuiet_load_mid rfl _ _ rfl b' (off'+k*26) rfl [.int .i64 (g 0),.int .i64 (g 1),.int .i64 (g 2),.int .i64 (g 3),.int .i64 (g 4),.int .i64 (g 5),.int .i64 (g 6),.int .i64 (g 7),.int .i64 (g 8),.int .i64 (g 9),.int .i64 (g 10),.int .i64 (g 11),.int .i64 (g 12),.int .i64 (g 13),.int .i64 (g 14),.int .i64 (g 15),.int .i64 (g 16),.int .i64 (g 17),.int .i64 (g 18),.int .i64 (g 19),.int .i64 (g 20),.int .i64 (g 21),.int .i64 (g 22),.int .i64 (g 23),.int .i64 (g 24),.int .i64 (g 25)] _ (by rintro _ ⟨d,rfl⟩ j v hj;rw [cell?_lowg _ _ _ _ s2];exact HC2.out j v hj) Tryz.underlying42 rfl info_srfS ?_;simp only [Act.put,List.setIfInBounds_toArray,List.set_cons_succ,List.set_cons_zero];exact wpQuiet_nil h) fun K hK=>?_;go_wp2_with fail;refine (eqSurface_same g _).mono ?_;rintro e w1 ⟨rfl,h1⟩;have y1:Ext wr w1:=Ext.trans X_ h1;go_wp2_with fail;refine hK _ _ (.inr (y1.same (Nat.le_refl _))) ?_;clear hK K;refine st_ fun K hK=>?_;go_wp2_with fail;refine hK _ _ (.inr (y1.same (Nat.le_refl _))) ?_;clear hK K;refine wpStages_nil ?_;have hX:=HX.out.trans y1;clear h1 y1 HX;go_wp2;go_roundw
   case rel=>exact ⟨k+1,by omega,by go_num,hX⟩
   case measure=>simp [intOf];omega
  ·go_wp2
   go_ret;exact ⟨rfl,hx⟩
theorem szSurfaceS_any (lo hi:Nat) (u:Value) (n:Nat) (f:Nat→Int) (left:Int) (w:World) (hu:Flats 26 lo hi w u n f) (h1:0≤left) (h2:left≤1048576) :
  Calls Tryz.prog 68 #[u,.int .i64 left] w fun e w'=>e = .returned (.int .i64 (szRes left n))∧w=w':=by
 obtain ⟨a,cap,rfl,HU⟩:=hu.open;have h3:=HU.le;have h4:=HU.cap;unfold szRes;go_enter Tryz.func68,Tryz.ntmps68;go_wp2
 all_goals go_ret
 all_goals exact ⟨rfl,rfl⟩
theorem szSurfaceS_val {left:Int} {n:Nat} {r:Int} (h:szRes left n=r) (lo hi:Nat) (u:Value) (f:Nat→Int) (w:World) (hu:Flats 26 lo hi w u n f) (h1:0≤left) (h2:left≤1048576) :
  Calls Tryz.prog 68 #[u,.int .i64 left] w fun e w'=>e = .returned (.int .i64 r)∧w=w':=h▸szSurfaceS_any lo hi u n f left w hu h1 h2
theorem toCamera_val (a b c d:Int) (e:Bool) (f g:Int) (w:World):Calls Tryz.prog 74 #[.agg #[.int .i64 a,.int .i64 b,.int .i64 c,.int .i64 d,.bool e,.int .i64 f,.int .i64 g]] w fun x w'=>x = .returned (.agg #[.int .i64 a,.int .i64 b,.int .i64 c,.int .i64 d,.bool e,.int .i64 f,.int .i64 g])∧Ext w w':=by
 go_enter Tryz.func74,Tryz.ntmps74;go_wp2;refine bodyPost_ret (v:=.agg #[.int .i64 a,.int .i64 b,.int .i64 c,.int .i64 d,.bool e,.int .i64 f,.int .i64 g]) (by simp [results,Tryz.results74,go_sem]) rfl ⟨rfl,?_⟩;exact S_
theorem eqCamera_same (a b c d:Int) (e:Bool) (f g:Int) (w:World):Calls Tryz.prog 78 #[.agg #[.int .i64 a,.int .i64 b,.int .i64 c,.int .i64 d,.bool e,.int .i64 f,.int .i64 g],.agg #[.int .i64 a,.int .i64 b,.int .i64 c,.int .i64 d,.bool e,.int .i64 f,.int .i64 g]] w fun x w'=>x = .returned (.bool true)∧Ext w w':=by
 cases e
 all_goals
  go_enter Tryz.func78,Tryz.ntmps78;go_wp2;go_ret;exact ⟨rfl,S_⟩
structure Scn.Sm (s:Scn):Prop where
 small:s.small
 px:s.t.px.length≤1048576
 n:s.ps.length≤1048576
 m:s.m≤1048576
def Scn.bd (s:Scn):Prop:=∀p∈s.ps,p.bd
def Scn.O (s:Scn) (lo hi:Nat) (w:World) (v:Value):Prop:=
 ∃a1 c1 a2 c2 a3 c3,v = .agg #[.int .i64 s.c.w,.int .i64 s.c.h,.int .i64 s.c.zoom,.int .i64 s.c.near,.bool s.c.deep,.int .i64 s.c.lens,.int .i64 s.c.focus,.int .i64 s.t.log,.slice a1 s.t.px.length c1,.slice a2 s.ps.length c2,.slice a3 s.m c3,.int .i64 s.side]∧s.R lo hi w v∧IntsM lo hi w (.slice a1 s.t.px.length c1) s.t.px.length∧PrgsM lo hi w (.slice a2 s.ps.length c2) s.ps.length∧SrfsM lo hi w (.slice a3 s.m c3) s.m
theorem SrfsM.same {lo hi:Nat} {w w':World} {v:Value} {n:Nat} (h:SrfsM lo hi w v n) (s:Same lo hi w w'):SrfsM lo hi w' v n:=by
 obtain ⟨a,cap,h1,h2,h3,h4⟩:=h;exact ⟨a,cap,h1,h2,h3,fun i hi=>by obtain ⟨b,off,e,k0,k1⟩:=h4 i hi;exact ⟨b,off,e,k0.same s,k1.same s⟩⟩
theorem Scn.O.R {s:Scn} {lo hi:Nat} {w:World} {v:Value} (h:s.O lo hi w v):s.R lo hi w v:=by
 obtain ⟨_,_,_,_,_,_,rfl,h,_⟩:=h;exact h
theorem Scn.O.form {s:Scn} {lo hi:Nat} {w:World} {v:Value} (h:s.O lo hi w v):∃a1 c1 a2 c2 a3 c3,v = .agg #[.int .i64 s.c.w,.int .i64 s.c.h,.int .i64 s.c.zoom,.int .i64 s.c.near,.bool s.c.deep,.int .i64 s.c.lens,.int .i64 s.c.focus,.int .i64 s.t.log,.slice a1 s.t.px.length c1,.slice a2 s.ps.length c2,.slice a3 s.m c3,.int .i64 s.side]:=by
 obtain ⟨a1,c1,a2,c2,a3,c3,rfl,_⟩:=h;exact ⟨a1,c1,a2,c2,a3,c3,rfl⟩
theorem Scn.O.same {s:Scn} {lo hi:Nat} {w w':World} {v:Value} (h:s.O lo hi w v) (k:Same lo hi w w'):s.O lo hi w' v:=by
 obtain ⟨a1,c1,a2,c2,a3,c3,rfl,h1,h2,h3,h4⟩:=h;exact ⟨a1,c1,a2,c2,a3,c3,rfl,h1.same k,h2.same k,h3.same k,h4.same k⟩
theorem Scn.O.kp {s:Scn} {lo hi:Nat} {w w':World} {v:Value} (h:s.O lo hi w v) (k:Kp lo hi w w'):s.O lo hi w' v:=h.same k.same
theorem RowI.srfsM {w:World} {b n:Nat} {f:Nat→Int} (h:RowI w b 42 (n*26) f) {lo:Nat} (hl:lo≤b) (hn:n≤1048576):SrfsM lo w.heap.size w (.slice (some ⟨b,0,none⟩) n n) n:=
 ⟨_,n,rfl,Nat.le_refl _,by omega,fun i hi=>by
  have h2:=flat_lt (k:=26) (j:=25) hi (by decide)
  exact ⟨b,0,rfl,⟨hl,h.lt,⟨_,by rw [Nat.zero_add];exact h.cell (by omega)⟩,by rw [Nat.zero_add];exact h.frozen _⟩,⟨hl,h.lt,⟨_,by rw [Nat.zero_add];exact h.cell (by omega)⟩,by rw [Nat.zero_add];exact h.frozen _⟩⟩⟩
theorem szScene_any (lo hi:Nat) (v:Value) (s:Scn) (left:Int) (w:World) (hv:s.R lo hi w v) (hh:hi≤w.heap.size) (hb:s.bd) (h1:0≤left) (h2:left≤1048576) :
  Calls Tryz.prog 25 #[v,.int .i64 left] w fun e w'=>(∃r,e = .returned (.int .i64 r)∧(r = -1∨(0≤r∧r≤left∧s.Sm)))∧Ext w w':=by
 obtain ⟨a1,c1,a2,c2,a3,c3,rfl,-,hlog,-,k1,k2,k3⟩:=hv.form;have HT:=hid (show ∀W:World,Ext w W→TexR lo hi W (.agg #[.int .i64 s.t.log,.slice a1 s.t.px.length c1]) s.t from fun W x=>⟨_,rfl,hlog,(k1.shut).ext hh x⟩);have HP:=hid (show PrgsR lo hi w (.slice a2 s.ps.length c2) s.ps by obtain ⟨tu,pu,su,e,_,_,_,_,h6,_⟩:=hv;simp only [Value.agg.injEq,Array.mk.injEq,List.cons.injEq,and_true,true_and] at e;obtain ⟨-,e2,-⟩:=e;rw [e2];exact h6);have HF:=hid (show Flats 26 lo hi w (.slice a3 s.m c3) s.m s.F from k3.shut);have HB:=hid hb;have x0:Ext w (w.alloc (.cells #[.int .i64 s.c.w,.int .i64 s.c.h,.int .i64 s.c.zoom,.int .i64 s.c.near,.bool s.c.deep,.int .i64 s.c.lens,.int .i64 s.c.focus,.int .i64 s.t.log,.slice a1 s.t.px.length c1,.slice a2 s.ps.length c2,.slice a3 s.m c3,.int .i64 s.side] 72)):=X_;have B0:=hid (Blk.new w 72 [.int .i64 s.c.w,.int .i64 s.c.h,.int .i64 s.c.zoom,.int .i64 s.c.near,.bool s.c.deep,.int .i64 s.c.lens,.int .i64 s.c.focus,.int .i64 s.t.log,.slice a1 s.t.px.length c1,.slice a2 s.ps.length c2,.slice a3 s.m c3,.int .i64 s.side]);have X0:=hid x0;have k1':=k1.cap;have k2':=k2.cap;have k3':=k3.cap;have k1l:=k1.le;have k2l:=k2.le;have k3l:=k3.le;clear hv hlog k1 k2 k3 hb x0
 obtain ⟨r1,hr1⟩:∃r,szRes left s.t.px.length=r:=⟨_,rfl⟩
 have HR1:=hid hr1
 have hr1c:r1 = -1∨(0≤r1∧r1≤left∧s.t.px.length≤1048576):=by unfold szRes at hr1;split at hr1 <;> omega
 clear hr1;go_enter Tryz.func25,Tryz.ntmps25;go_wp2_with fail;refine (szTexture_val HR1.out lo hi _ _ (HT.out _ X0.out) (Nat.le_trans hh X0.out.size) h1 h2).mono ?_;rintro e w1 ⟨rfl,x1⟩;have B1:=hid (B0.out.ext x1);have X1:=hid (X0.out.trans x1);clear B0 X0 x1
 rcases hr1c with rfl|⟨g1,g2,g3⟩
 ·go_wp2
  go_ret;exact ⟨⟨_,rfl,.inl rfl⟩,X1.out⟩
 have n1 : ¬r1<0:=by omega
 have c9:=B1.out.cell 9 rfl;have cl:=B1.out.lt;go_wp2_with fail;refine (szProgramS_any lo hi _ s.ps r1 _ (HP.out.ext hh X1.out) (Nat.le_trans hh X1.out.size) HB.out g1 (by omega)).mono ?_;rintro e w2 ⟨⟨r2,rfl,hr2⟩,x2⟩;have B2:=hid (B1.out.ext x2);have X2:=hid (X1.out.trans x2);clear B1 X1 x2 c9 cl
 rcases hr2 with rfl|⟨g4,g5,g6,g7⟩
 ·go_wp2
  go_ret;exact ⟨⟨_,rfl,.inl rfl⟩,X2.out⟩
 have n2 : ¬r2<0:=by omega
 have HSM:=hid (show s.small from fun p hp=>⟨HB.out p hp,g7 p hp⟩)
 obtain ⟨r3,hr3⟩:∃r,szRes r2 s.m=r:=⟨_,rfl⟩
 have HR3:=hid hr3
 have hr3c:r3 = -1∨(0≤r3∧r3≤r2∧s.m≤1048576):=by unfold szRes at hr3;split at hr3 <;> omega
 clear hr3 g7;have c10:=B2.out.cell 10 rfl;have cl:=B2.out.lt;go_wp2_with fail;refine (szSurfaceS_val HR3.out lo hi _ s.F _ (HF.out.ext hh X2.out) g4 (by omega)).mono ?_;rintro e w3 ⟨rfl,rfl⟩
 rcases hr3c with rfl|⟨g8,g9,g10⟩
 ·go_wp2
  go_ret;exact ⟨⟨_,rfl,.inl rfl⟩,X2.out⟩
 have n3 : ¬r3<0:=by omega
 go_wp2;go_ret;exact ⟨⟨_,rfl,.inr ⟨g8,by omega,⟨HSM.out,g3,g6,g10⟩⟩⟩,X2.out⟩
theorem toScene_any (lo hi:Nat) (v:Value) (s:Scn) (w:World) (hv:s.R lo hi w v) (hh:hi≤w.heap.size) (hsz:s.Sm) :
  Calls Tryz.prog 27 #[v] w fun e w'=>∃v',e = .returned v'∧s.O w.heap.size w'.heap.size w' v'∧Ext w w':=by
 obtain ⟨a1,c1,a2,c2,a3,c3,rfl,hci,hlog,hside,k1,k2,k3⟩:=hv.form;have HT:=hid (show ∀W:World,Ext w W→TexR lo hi W (.agg #[.int .i64 s.t.log,.slice a1 s.t.px.length c1]) s.t from fun W x=>⟨_,rfl,hlog,(k1.shut).ext hh x⟩);have HP:=hid (show PrgsR lo hi w (.slice a2 s.ps.length c2) s.ps by obtain ⟨tu,pu,su,e,_,_,_,_,h6,_⟩:=hv;simp only [Value.agg.injEq,Array.mk.injEq,List.cons.injEq,and_true,true_and] at e;obtain ⟨-,e2,-⟩:=e;rw [e2];exact h6);have HF:=hid (show Flats 26 lo hi w (.slice a3 s.m c3) s.m s.F from k3.shut);have HFI:=hid (show ∀i,i<s.m*26→I64 (s.F i) from fun i hi=>(k3.cell i hi).1);have HCI:=hid hci;have HLG:=hid hlog;have HSD:=hid hside;have z1:=hsz.px;have z2:=hsz.n;have z3:=hsz.m;have ZS:=hid (show ∀p∈s.ps,p.small from fun p hp=>(hsz.small p hp).2);have x0:Ext w (((w.alloc (.cells #[.int .i64 s.c.w,.int .i64 s.c.h,.int .i64 s.c.zoom,.int .i64 s.c.near,.bool s.c.deep,.int .i64 s.c.lens,.int .i64 s.c.focus,.int .i64 s.t.log,.slice a1 s.t.px.length c1,.slice a2 s.ps.length c2,.slice a3 s.m c3,.int .i64 s.side] 72)).alloc (.cells #[.int .i64 0,.int .i64 0,.int .i64 0,.int .i64 0,.bool false,.int .i64 0,.int .i64 0,.int .i64 0,.slice none 0 0,.slice none 0 0,.slice none 0 0,.int .i64 0] 31)).alloc (.cells #[.int .i64 0,.int .i64 0,.int .i64 0,.int .i64 0,.bool false,.int .i64 0,.int .i64 0,.int .i64 0,.slice none 0 0,.slice none 0 0,.slice none 0 0,.int .i64 0] 31)):=X_;have b0:=(Blk.new w 72 [.int .i64 s.c.w,.int .i64 s.c.h,.int .i64 s.c.zoom,.int .i64 s.c.near,.bool s.c.deep,.int .i64 s.c.lens,.int .i64 s.c.focus,.int .i64 s.t.log,.slice a1 s.t.px.length c1,.slice a2 s.ps.length c2,.slice a3 s.m c3,.int .i64 s.side]).ext (show Ext (w.alloc (.cells #[.int .i64 s.c.w,.int .i64 s.c.h,.int .i64 s.c.zoom,.int .i64 s.c.near,.bool s.c.deep,.int .i64 s.c.lens,.int .i64 s.c.focus,.int .i64 s.t.log,.slice a1 s.t.px.length c1,.slice a2 s.ps.length c2,.slice a3 s.m c3,.int .i64 s.side] 72)) (((w.alloc (.cells #[.int .i64 s.c.w,.int .i64 s.c.h,.int .i64 s.c.zoom,.int .i64 s.c.near,.bool s.c.deep,.int .i64 s.c.lens,.int .i64 s.c.focus,.int .i64 s.t.log,.slice a1 s.t.px.length c1,.slice a2 s.ps.length c2,.slice a3 s.m c3,.int .i64 s.side] 72)).alloc (.cells #[.int .i64 0,.int .i64 0,.int .i64 0,.int .i64 0,.bool false,.int .i64 0,.int .i64 0,.int .i64 0,.slice none 0 0,.slice none 0 0,.slice none 0 0,.int .i64 0] 31)).alloc (.cells #[.int .i64 0,.int .i64 0,.int .i64 0,.int .i64 0,.bool false,.int .i64 0,.int .i64 0,.int .i64 0,.slice none 0 0,.slice none 0 0,.slice none 0 0,.int .i64 0] 31)) from X_);have r0:=(Blk.new (w.alloc (.cells #[.int .i64 s.c.w,.int .i64 s.c.h,.int .i64 s.c.zoom,.int .i64 s.c.near,.bool s.c.deep,.int .i64 s.c.lens,.int .i64 s.c.focus,.int .i64 s.t.log,.slice a1 s.t.px.length c1,.slice a2 s.ps.length c2,.slice a3 s.m c3,.int .i64 s.side] 72)) 31 [.int .i64 0,.int .i64 0,.int .i64 0,.int .i64 0,.bool false,.int .i64 0,.int .i64 0,.int .i64 0,.slice none 0 0,.slice none 0 0,.slice none 0 0,.int .i64 0]).ext (show Ext ((w.alloc (.cells #[.int .i64 s.c.w,.int .i64 s.c.h,.int .i64 s.c.zoom,.int .i64 s.c.near,.bool s.c.deep,.int .i64 s.c.lens,.int .i64 s.c.focus,.int .i64 s.t.log,.slice a1 s.t.px.length c1,.slice a2 s.ps.length c2,.slice a3 s.m c3,.int .i64 s.side] 72)).alloc (.cells #[.int .i64 0,.int .i64 0,.int .i64 0,.int .i64 0,.bool false,.int .i64 0,.int .i64 0,.int .i64 0,.slice none 0 0,.slice none 0 0,.slice none 0 0,.int .i64 0] 31)) (((w.alloc (.cells #[.int .i64 s.c.w,.int .i64 s.c.h,.int .i64 s.c.zoom,.int .i64 s.c.near,.bool s.c.deep,.int .i64 s.c.lens,.int .i64 s.c.focus,.int .i64 s.t.log,.slice a1 s.t.px.length c1,.slice a2 s.ps.length c2,.slice a3 s.m c3,.int .i64 s.side] 72)).alloc (.cells #[.int .i64 0,.int .i64 0,.int .i64 0,.int .i64 0,.bool false,.int .i64 0,.int .i64 0,.int .i64 0,.slice none 0 0,.slice none 0 0,.slice none 0 0,.int .i64 0] 31)).alloc (.cells #[.int .i64 0,.int .i64 0,.int .i64 0,.int .i64 0,.bool false,.int .i64 0,.int .i64 0,.int .i64 0,.slice none 0 0,.slice none 0 0,.slice none 0 0,.int .i64 0] 31)) from X_);have t0:=Blk.new ((w.alloc (.cells #[.int .i64 s.c.w,.int .i64 s.c.h,.int .i64 s.c.zoom,.int .i64 s.c.near,.bool s.c.deep,.int .i64 s.c.lens,.int .i64 s.c.focus,.int .i64 s.t.log,.slice a1 s.t.px.length c1,.slice a2 s.ps.length c2,.slice a3 s.m c3,.int .i64 s.side] 72)).alloc (.cells #[.int .i64 0,.int .i64 0,.int .i64 0,.int .i64 0,.bool false,.int .i64 0,.int .i64 0,.int .i64 0,.slice none 0 0,.slice none 0 0,.slice none 0 0,.int .i64 0] 31)) 31 [.int .i64 0,.int .i64 0,.int .i64 0,.int .i64 0,.bool false,.int .i64 0,.int .i64 0,.int .i64 0,.slice none 0 0,.slice none 0 0,.slice none 0 0,.int .i64 0];simp only [World.size_alloc] at r0 t0;have B0:=hid b0;have R0:=hid r0;have T0:=hid t0;have X0:=hid x0;clear hv hci hlog hside k1 k2 k3 hsz b0 r0 t0 x0;go_enter Tryz.func27,Tryz.ntmps27;go_upto_region 2 with fail
 obtain ⟨WA,hWA⟩:∃WA,(((w.alloc (.cells #[.int .i64 s.c.w,.int .i64 s.c.h,.int .i64 s.c.zoom,.int .i64 s.c.near,.bool s.c.deep,.int .i64 s.c.lens,.int .i64 s.c.focus,.int .i64 s.t.log,.slice a1 s.t.px.length c1,.slice a2 s.ps.length c2,.slice a3 s.m c3,.int .i64 s.side] 72)).alloc (.cells #[.int .i64 0,.int .i64 0,.int .i64 0,.int .i64 0,.bool false,.int .i64 0,.int .i64 0,.int .i64 0,.slice none 0 0,.slice none 0 0,.slice none 0 0,.int .i64 0] 31)).alloc (.cells #[.int .i64 0,.int .i64 0,.int .i64 0,.int .i64 0,.bool false,.int .i64 0,.int .i64 0,.int .i64 0,.slice none 0 0,.slice none 0 0,.slice none 0 0,.int .i64 0] 31))=WA:=⟨_,rfl⟩
 rw [hWA] at B0 R0 T0 X0 ⊢;clear hWA;obtain ⟨b0,b1,b2,b3,b4,b5,b6⟩:=B0.out.q7;have bl:=B0.out.lt;go_wp2_with fail;refine (toCamera_val _ _ _ _ _ _ _ _).mono ?_;rintro e w1 ⟨rfl,x1⟩;clear bl b0 b1 b2 b3 b4 b5 b6;have B1:=hid (B0.out.ext x1);have R1:=hid (R0.out.ext x1);have T1:=hid (T0.out.ext x1);have X1:=hid (X0.out.trans x1);clear B0 R0 T0 X0;clear x1;have zw1:w.heap.size+1+1<w1.heap.size:=T1.out.lt;have d0:=T1.out.cell 0 rfl;have e0:=T1.out.free 0;have d1:=T1.out.cell 1 rfl;have e1:=T1.out.free 1;have d2:=T1.out.cell 2 rfl;have e2:=T1.out.free 2;have d3:=T1.out.cell 3 rfl;have e3:=T1.out.free 3;have d4:=T1.out.cell 4 rfl;have e4:=T1.out.free 4;have d5:=T1.out.cell 5 rfl;have e5:=T1.out.free 5;have d6:=T1.out.cell 6 rfl;have e6:=T1.out.free 6;have dl:=T1.out.lt;have T2:=hid (((((((T1.out.set 0 (.int .i64 s.c.w)).set 1 (.int .i64 s.c.h)).set 2 (.int .i64 s.c.zoom)).set 3 (.int .i64 s.c.near)).set 4 (.bool s.c.deep)).set 5 (.int .i64 s.c.lens)).set 6 (.int .i64 s.c.focus));have B2:=hid (((((((B1.out.other (a:=⟨w.heap.size+1+1,0,none⟩) (by simp <;> omega) (.int .i64 s.c.w)).other (a:=⟨w.heap.size+1+1,1,none⟩) (by simp <;> omega) (.int .i64 s.c.h)).other (a:=⟨w.heap.size+1+1,2,none⟩) (by simp <;> omega) (.int .i64 s.c.zoom)).other (a:=⟨w.heap.size+1+1,3,none⟩) (by simp <;> omega) (.int .i64 s.c.near)).other (a:=⟨w.heap.size+1+1,4,none⟩) (by simp <;> omega) (.bool s.c.deep)).other (a:=⟨w.heap.size+1+1,5,none⟩) (by simp <;> omega) (.int .i64 s.c.lens)).other (a:=⟨w.heap.size+1+1,6,none⟩) (by simp <;> omega) (.int .i64 s.c.focus));have R2:=hid (((((((R1.out.other (a:=⟨w.heap.size+1+1,0,none⟩) (by simp <;> omega) (.int .i64 s.c.w)).other (a:=⟨w.heap.size+1+1,1,none⟩) (by simp <;> omega) (.int .i64 s.c.h)).other (a:=⟨w.heap.size+1+1,2,none⟩) (by simp <;> omega) (.int .i64 s.c.zoom)).other (a:=⟨w.heap.size+1+1,3,none⟩) (by simp <;> omega) (.int .i64 s.c.near)).other (a:=⟨w.heap.size+1+1,4,none⟩) (by simp <;> omega) (.bool s.c.deep)).other (a:=⟨w.heap.size+1+1,5,none⟩) (by simp <;> omega) (.int .i64 s.c.lens)).other (a:=⟨w.heap.size+1+1,6,none⟩) (by simp <;> omega) (.int .i64 s.c.focus));have X2:=hid (((((((X1.out.setCell (p:=⟨w.heap.size+1+1,0,none⟩) (by simp;omega) (.int .i64 s.c.w)).setCell (p:=⟨w.heap.size+1+1,1,none⟩) (by simp;omega) (.int .i64 s.c.h)).setCell (p:=⟨w.heap.size+1+1,2,none⟩) (by simp;omega) (.int .i64 s.c.zoom)).setCell (p:=⟨w.heap.size+1+1,3,none⟩) (by simp;omega) (.int .i64 s.c.near)).setCell (p:=⟨w.heap.size+1+1,4,none⟩) (by simp;omega) (.bool s.c.deep)).setCell (p:=⟨w.heap.size+1+1,5,none⟩) (by simp;omega) (.int .i64 s.c.lens)).setCell (p:=⟨w.heap.size+1+1,6,none⟩) (by simp;omega) (.int .i64 s.c.focus));simp only [List.set_cons_succ,List.set_cons_zero] at T2;go_upto_region 3 with fail
 obtain ⟨WS2,hWS2⟩:∃W,(((((((w1.setCell ⟨w.heap.size+1+1,0,none⟩ (.int .i64 s.c.w)).setCell ⟨w.heap.size+1+1,1,none⟩ (.int .i64 s.c.h)).setCell ⟨w.heap.size+1+1,2,none⟩ (.int .i64 s.c.zoom)).setCell ⟨w.heap.size+1+1,3,none⟩ (.int .i64 s.c.near)).setCell ⟨w.heap.size+1+1,4,none⟩ (.bool s.c.deep)).setCell ⟨w.heap.size+1+1,5,none⟩ (.int .i64 s.c.lens)).setCell ⟨w.heap.size+1+1,6,none⟩ (.int .i64 s.c.focus))=W:=⟨_,rfl⟩
 have zS2:WS2.heap.size≤w1.heap.size∧w1.heap.size≤WS2.heap.size:=by rw [←hWS2];simp
 rw [hWS2] at B2 R2 T2 X2 ⊢;clear hWS2 B1 R1 T1 X1 dl d0 e0 d1 e1 d2 e2 d3 e3 d4 e4 d5 e5 d6 e6;have b7:=B2.out.cell 7 rfl;have b8:=B2.out.cell 8 rfl;have bl:=B2.out.lt;go_wp2_with fail;refine (toTexture_any lo hi _ s.t _ (HT.out _ X2.out) (Nat.le_trans hh X2.out.size) z1).mono ?_;rintro e w3 ⟨v3,rfl,⟨u3,rfl,_,hO⟩,x3⟩;obtain ⟨p1,q1,rfl,_⟩:=hO.form;have zw3:=x3.size;clear bl b7 b8;have B3:=hid (B2.out.ext x3);have R3:=hid (R2.out.ext x3);have T3:=hid (T2.out.ext x3);have X3:=hid (X2.out.trans x3);clear B2 R2 T2 X2;have HI:=hid hO.ints;have HM:=hid hO.intsM;clear x3 hO;have d7:=T3.out.cell 7 rfl;have e7:=T3.out.free 7;have d8:=T3.out.cell 8 rfl;have e8:=T3.out.free 8;have dl:=T3.out.lt;have T4:=hid ((T3.out.set 7 (.int .i64 s.t.log)).set 8 (.slice p1 s.t.px.length q1));have B4:=hid ((B3.out.other (a:=⟨w.heap.size+1+1,7,none⟩) (by simp <;> omega) (.int .i64 s.t.log)).other (a:=⟨w.heap.size+1+1,8,none⟩) (by simp <;> omega) (.slice p1 s.t.px.length q1));have R4:=hid ((R3.out.other (a:=⟨w.heap.size+1+1,7,none⟩) (by simp <;> omega) (.int .i64 s.t.log)).other (a:=⟨w.heap.size+1+1,8,none⟩) (by simp <;> omega) (.slice p1 s.t.px.length q1));have X4:=hid ((X3.out.setCell (p:=⟨w.heap.size+1+1,7,none⟩) (by simp;omega) (.int .i64 s.t.log)).setCell (p:=⟨w.heap.size+1+1,8,none⟩) (by simp;omega) (.slice p1 s.t.px.length q1));replace HI:=hid (HI.out.same ((Same.setLow w3 (p:=⟨w.heap.size+1+1,7,none⟩) (by simp only;omega) (.int .i64 s.t.log)).trans (Same.setLow _ (p:=⟨w.heap.size+1+1,8,none⟩) (by simp only;omega) (.slice p1 s.t.px.length q1))));replace HM:=hid (HM.out.same ((Same.setLow w3 (p:=⟨w.heap.size+1+1,7,none⟩) (by simp only;omega) (.int .i64 s.t.log)).trans (Same.setLow _ (p:=⟨w.heap.size+1+1,8,none⟩) (by simp only;omega) (.slice p1 s.t.px.length q1))));simp only [List.set_cons_succ,List.set_cons_zero] at T4;go_upto_region 4 with fail
 obtain ⟨WS4,hWS4⟩:∃W,((w3.setCell ⟨w.heap.size+1+1,7,none⟩ (.int .i64 s.t.log)).setCell ⟨w.heap.size+1+1,8,none⟩ (.slice p1 s.t.px.length q1))=W:=⟨_,rfl⟩
 have zS4:WS4.heap.size≤w3.heap.size∧w3.heap.size≤WS4.heap.size:=by rw [←hWS4];simp
 rw [hWS4] at B4 R4 T4 X4 HI HM ⊢;clear hWS4 B3 R3 T3 X3 dl d7 e7 d8 e8;have b9:=B4.out.cell 9 rfl;have bl:=B4.out.lt;go_wp2_with fail;refine (toProgramS_any lo hi _ s.ps _ (HP.out.ext hh X4.out) (Nat.le_trans hh X4.out.size) z2 ZS.out).mono ?_;rintro e w5 ⟨rfl,⟨hPR,hPM⟩,hlt5,x5⟩;have zw5:=x5.size;clear bl b9;have B5:=hid (B4.out.ext x5);have R5:=hid (R4.out.ext x5);have T5:=hid (T4.out.ext x5);have X5:=hid (X4.out.trans x5);replace HI:=hid (HI.out.same (x5.same (by first|exact Nat.le_refl _|omega)));replace HM:=hid (HM.out.same (x5.same (by first|exact Nat.le_refl _|omega)));clear B4 R4 T4 X4;have HPR:=hid hPR;have HPM:=hid hPM;clear x5 hPR hPM;have d9:=T5.out.cell 9 rfl;have e9:=T5.out.free 9;have dl:=T5.out.lt;have T6:=hid (T5.out.set 9 (.slice (some ⟨WS4.heap.size,0,none⟩) s.ps.length s.ps.length));have B6:=hid (B5.out.other (a:=⟨w.heap.size+1+1,9,none⟩) (by simp <;> omega) (.slice (some ⟨WS4.heap.size,0,none⟩) s.ps.length s.ps.length));have R6:=hid (R5.out.other (a:=⟨w.heap.size+1+1,9,none⟩) (by simp <;> omega) (.slice (some ⟨WS4.heap.size,0,none⟩) s.ps.length s.ps.length));have X6:=hid (X5.out.setCell (p:=⟨w.heap.size+1+1,9,none⟩) (by simp;omega) (.slice (some ⟨WS4.heap.size,0,none⟩) s.ps.length s.ps.length));replace HI:=hid (HI.out.same (Same.setLow w5 (p:=⟨w.heap.size+1+1,9,none⟩) (by simp only;omega) (.slice (some ⟨WS4.heap.size,0,none⟩) s.ps.length s.ps.length)));replace HM:=hid (HM.out.same (Same.setLow w5 (p:=⟨w.heap.size+1+1,9,none⟩) (by simp only;omega) (.slice (some ⟨WS4.heap.size,0,none⟩) s.ps.length s.ps.length)));replace HPR:=hid (HPR.out.same (Same.setLow w5 (p:=⟨w.heap.size+1+1,9,none⟩) (by simp only;omega) (.slice (some ⟨WS4.heap.size,0,none⟩) s.ps.length s.ps.length)));replace HPM:=hid (HPM.out.same (Same.setLow w5 (p:=⟨w.heap.size+1+1,9,none⟩) (by simp only;omega) (.slice (some ⟨WS4.heap.size,0,none⟩) s.ps.length s.ps.length)));simp only [List.set_cons_succ,List.set_cons_zero] at T6;go_upto_region 5 with fail
 obtain ⟨WS6,hWS6⟩:∃W,(w5.setCell ⟨w.heap.size+1+1,9,none⟩ (.slice (some ⟨WS4.heap.size,0,none⟩) s.ps.length s.ps.length))=W:=⟨_,rfl⟩
 have zS6:WS6.heap.size≤w5.heap.size∧w5.heap.size≤WS6.heap.size:=by rw [←hWS6];simp
 rw [hWS6] at B6 R6 T6 X6 HI HM HPR HPM ⊢;clear hWS6 B5 R5 T5 X5 dl d9 e9;have b10:=B6.out.cell 10 rfl;have bl:=B6.out.lt;go_wp2_with fail;refine (toSurfaceS_any lo hi _ s.m s.F _ (HF.out.ext hh X6.out) (Nat.le_trans hh X6.out.size) z3).mono ?_;rintro e w7 ⟨rfl,hRW,x7⟩;have zw7:=x7.size;clear bl b10;have B7:=hid (B6.out.ext x7);have R7:=hid (R6.out.ext x7);have T7:=hid (T6.out.ext x7);have X7:=hid (X6.out.trans x7);replace HI:=hid (HI.out.same (x7.same (by first|exact Nat.le_refl _|omega)));replace HM:=hid (HM.out.same (x7.same (by first|exact Nat.le_refl _|omega)));replace HPR:=hid (HPR.out.same (x7.same (by first|exact Nat.le_refl _|omega)));replace HPM:=hid (HPM.out.same (x7.same (by first|exact Nat.le_refl _|omega)));clear B6 R6 T6 X6;have zrw:=hRW.lt;have HFL:=hid (hRW.flats (k:=26) (n:=s.m) (cap:=s.m) (Nat.le_refl _) (by unfold maxLen;omega) (lo:=WS6.heap.size) (Nat.le_refl _) HFI.out);have HSM:=hid (hRW.srfsM (lo:=WS6.heap.size) (Nat.le_refl _) z3);clear x7 hRW;have d10:=T7.out.cell 10 rfl;have e10:=T7.out.free 10;have dl:=T7.out.lt;have T8:=hid (T7.out.set 10 (.slice (some ⟨WS6.heap.size,0,none⟩) s.m s.m));have B8:=hid (B7.out.other (a:=⟨w.heap.size+1+1,10,none⟩) (by simp <;> omega) (.slice (some ⟨WS6.heap.size,0,none⟩) s.m s.m));have R8:=hid (R7.out.other (a:=⟨w.heap.size+1+1,10,none⟩) (by simp <;> omega) (.slice (some ⟨WS6.heap.size,0,none⟩) s.m s.m));have X8:=hid (X7.out.setCell (p:=⟨w.heap.size+1+1,10,none⟩) (by simp;omega) (.slice (some ⟨WS6.heap.size,0,none⟩) s.m s.m));replace HI:=hid (HI.out.same (Same.setLow w7 (p:=⟨w.heap.size+1+1,10,none⟩) (by simp only;omega) (.slice (some ⟨WS6.heap.size,0,none⟩) s.m s.m)));replace HM:=hid (HM.out.same (Same.setLow w7 (p:=⟨w.heap.size+1+1,10,none⟩) (by simp only;omega) (.slice (some ⟨WS6.heap.size,0,none⟩) s.m s.m)));replace HPR:=hid (HPR.out.same (Same.setLow w7 (p:=⟨w.heap.size+1+1,10,none⟩) (by simp only;omega) (.slice (some ⟨WS6.heap.size,0,none⟩) s.m s.m)));replace HPM:=hid (HPM.out.same (Same.setLow w7 (p:=⟨w.heap.size+1+1,10,none⟩) (by simp only;omega) (.slice (some ⟨WS6.heap.size,0,none⟩) s.m s.m)));replace HFL:=hid (HFL.out.same (Same.setLow w7 (p:=⟨w.heap.size+1+1,10,none⟩) (by simp only;omega) (.slice (some ⟨WS6.heap.size,0,none⟩) s.m s.m)));replace HSM:=hid (HSM.out.same (Same.setLow w7 (p:=⟨w.heap.size+1+1,10,none⟩) (by simp only;omega) (.slice (some ⟨WS6.heap.size,0,none⟩) s.m s.m)));simp only [List.set_cons_succ,List.set_cons_zero] at T8;go_upto_region 6 with fail
 obtain ⟨WS8,hWS8⟩:∃W,(w7.setCell ⟨w.heap.size+1+1,10,none⟩ (.slice (some ⟨WS6.heap.size,0,none⟩) s.m s.m))=W:=⟨_,rfl⟩
 have zS8:WS8.heap.size≤w7.heap.size∧w7.heap.size≤WS8.heap.size:=by rw [←hWS8];simp
 rw [hWS8] at B8 R8 T8 X8 HI HM HPR HPM HFL HSM ⊢;clear hWS8 B7 R7 T7 X7 dl d10 e10;have b11:=B8.out.cell 11 rfl;have bl:=B8.out.lt;have d11:=T8.out.cell 11 rfl;have e11:=T8.out.free 11;have dl:=T8.out.lt;have T9:=hid (T8.out.set 11 (.int .i64 s.side));have B9:=hid (B8.out.other (a:=⟨w.heap.size+1+1,11,none⟩) (by simp <;> omega) (.int .i64 s.side));have R9:=hid (R8.out.other (a:=⟨w.heap.size+1+1,11,none⟩) (by simp <;> omega) (.int .i64 s.side));have X9:=hid (X8.out.setCell (p:=⟨w.heap.size+1+1,11,none⟩) (by simp;omega) (.int .i64 s.side));replace HI:=hid (HI.out.same (Same.setLow WS8 (p:=⟨w.heap.size+1+1,11,none⟩) (by simp only;omega) (.int .i64 s.side)));replace HM:=hid (HM.out.same (Same.setLow WS8 (p:=⟨w.heap.size+1+1,11,none⟩) (by simp only;omega) (.int .i64 s.side)));replace HPR:=hid (HPR.out.same (Same.setLow WS8 (p:=⟨w.heap.size+1+1,11,none⟩) (by simp only;omega) (.int .i64 s.side)));replace HPM:=hid (HPM.out.same (Same.setLow WS8 (p:=⟨w.heap.size+1+1,11,none⟩) (by simp only;omega) (.int .i64 s.side)));replace HFL:=hid (HFL.out.same (Same.setLow WS8 (p:=⟨w.heap.size+1+1,11,none⟩) (by simp only;omega) (.int .i64 s.side)));replace HSM:=hid (HSM.out.same (Same.setLow WS8 (p:=⟨w.heap.size+1+1,11,none⟩) (by simp only;omega) (.int .i64 s.side)));simp only [List.set_cons_succ,List.set_cons_zero] at T9;go_upto_region 7 with fail
 obtain ⟨WS9,hWS9⟩:∃W,(WS8.setCell ⟨w.heap.size+1+1,11,none⟩ (.int .i64 s.side))=W:=⟨_,rfl⟩
 have zS9:WS9.heap.size≤WS8.heap.size∧WS8.heap.size≤WS9.heap.size:=by rw [←hWS9];simp
 rw [hWS9] at B9 R9 T9 X9 HI HM HPR HPM HFL HSM ⊢;clear hWS9 B8 R8 T8 X8 dl d11 e11;clear bl b11;have d0:=T9.out.cell 0 rfl;have g0:=R9.out.cell 0 rfl;have h0:=R9.out.free 0;have d1:=T9.out.cell 1 rfl;have g1:=R9.out.cell 1 rfl;have h1:=R9.out.free 1;have d2:=T9.out.cell 2 rfl;have g2:=R9.out.cell 2 rfl;have h2:=R9.out.free 2;have d3:=T9.out.cell 3 rfl;have g3:=R9.out.cell 3 rfl;have h3:=R9.out.free 3;have d4:=T9.out.cell 4 rfl;have g4:=R9.out.cell 4 rfl;have h4:=R9.out.free 4;have d5:=T9.out.cell 5 rfl;have g5:=R9.out.cell 5 rfl;have h5:=R9.out.free 5;have d6:=T9.out.cell 6 rfl;have g6:=R9.out.cell 6 rfl;have h6:=R9.out.free 6;have d7:=T9.out.cell 7 rfl;have g7:=R9.out.cell 7 rfl;have h7:=R9.out.free 7;have d8:=T9.out.cell 8 rfl;have g8:=R9.out.cell 8 rfl;have h8:=R9.out.free 8;have d9:=T9.out.cell 9 rfl;have g9:=R9.out.cell 9 rfl;have h9:=R9.out.free 9;have d10:=T9.out.cell 10 rfl;have g10:=R9.out.cell 10 rfl;have h10:=R9.out.free 10;have d11:=T9.out.cell 11 rfl;have g11:=R9.out.cell 11 rfl;have h11:=R9.out.free 11;have dl:=T9.out.lt;have gl:=R9.out.lt;have zz:w.heap.size+1+1<WS9.heap.size:=T9.out.lt
 have zc:w.heap.size+1+1<w1.heap.size∧w1.heap.size≤w3.heap.size∧w3.heap.size≤w5.heap.size∧w5.heap.size≤w7.heap.size∧WS9.heap.size=w7.heap.size:=by omega
 have fHI:=hid (HI.out.same ((((((((((((Same.setLow WS9 (p:=⟨w.heap.size+1,0,none⟩) (by simp only;omega) (.int .i64 s.c.w)).trans (Same.setLow _ (p:=⟨w.heap.size+1,1,none⟩) (by simp only;omega) (.int .i64 s.c.h))).trans (Same.setLow _ (p:=⟨w.heap.size+1,2,none⟩) (by simp only;omega) (.int .i64 s.c.zoom))).trans (Same.setLow _ (p:=⟨w.heap.size+1,3,none⟩) (by simp only;omega) (.int .i64 s.c.near))).trans (Same.setLow _ (p:=⟨w.heap.size+1,4,none⟩) (by simp only;omega) (.bool s.c.deep))).trans (Same.setLow _ (p:=⟨w.heap.size+1,5,none⟩) (by simp only;omega) (.int .i64 s.c.lens))).trans (Same.setLow _ (p:=⟨w.heap.size+1,6,none⟩) (by simp only;omega) (.int .i64 s.c.focus))).trans (Same.setLow _ (p:=⟨w.heap.size+1,7,none⟩) (by simp only;omega) (.int .i64 s.t.log))).trans (Same.setLow _ (p:=⟨w.heap.size+1,8,none⟩) (by simp only;omega) (.slice p1 s.t.px.length q1))).trans (Same.setLow _ (p:=⟨w.heap.size+1,9,none⟩) (by simp only;omega) (.slice (some ⟨WS4.heap.size,0,none⟩) s.ps.length s.ps.length))).trans (Same.setLow _ (p:=⟨w.heap.size+1,10,none⟩) (by simp only;omega) (.slice (some ⟨WS6.heap.size,0,none⟩) s.m s.m))).trans (Same.setLow _ (p:=⟨w.heap.size+1,11,none⟩) (by simp only;omega) (.int .i64 s.side))));have fHM:=hid (HM.out.same ((((((((((((Same.setLow WS9 (p:=⟨w.heap.size+1,0,none⟩) (by simp only;omega) (.int .i64 s.c.w)).trans (Same.setLow _ (p:=⟨w.heap.size+1,1,none⟩) (by simp only;omega) (.int .i64 s.c.h))).trans (Same.setLow _ (p:=⟨w.heap.size+1,2,none⟩) (by simp only;omega) (.int .i64 s.c.zoom))).trans (Same.setLow _ (p:=⟨w.heap.size+1,3,none⟩) (by simp only;omega) (.int .i64 s.c.near))).trans (Same.setLow _ (p:=⟨w.heap.size+1,4,none⟩) (by simp only;omega) (.bool s.c.deep))).trans (Same.setLow _ (p:=⟨w.heap.size+1,5,none⟩) (by simp only;omega) (.int .i64 s.c.lens))).trans (Same.setLow _ (p:=⟨w.heap.size+1,6,none⟩) (by simp only;omega) (.int .i64 s.c.focus))).trans (Same.setLow _ (p:=⟨w.heap.size+1,7,none⟩) (by simp only;omega) (.int .i64 s.t.log))).trans (Same.setLow _ (p:=⟨w.heap.size+1,8,none⟩) (by simp only;omega) (.slice p1 s.t.px.length q1))).trans (Same.setLow _ (p:=⟨w.heap.size+1,9,none⟩) (by simp only;omega) (.slice (some ⟨WS4.heap.size,0,none⟩) s.ps.length s.ps.length))).trans (Same.setLow _ (p:=⟨w.heap.size+1,10,none⟩) (by simp only;omega) (.slice (some ⟨WS6.heap.size,0,none⟩) s.m s.m))).trans (Same.setLow _ (p:=⟨w.heap.size+1,11,none⟩) (by simp only;omega) (.int .i64 s.side))));have fHPR:=hid (HPR.out.same ((((((((((((Same.setLow WS9 (p:=⟨w.heap.size+1,0,none⟩) (by simp only;omega) (.int .i64 s.c.w)).trans (Same.setLow _ (p:=⟨w.heap.size+1,1,none⟩) (by simp only;omega) (.int .i64 s.c.h))).trans (Same.setLow _ (p:=⟨w.heap.size+1,2,none⟩) (by simp only;omega) (.int .i64 s.c.zoom))).trans (Same.setLow _ (p:=⟨w.heap.size+1,3,none⟩) (by simp only;omega) (.int .i64 s.c.near))).trans (Same.setLow _ (p:=⟨w.heap.size+1,4,none⟩) (by simp only;omega) (.bool s.c.deep))).trans (Same.setLow _ (p:=⟨w.heap.size+1,5,none⟩) (by simp only;omega) (.int .i64 s.c.lens))).trans (Same.setLow _ (p:=⟨w.heap.size+1,6,none⟩) (by simp only;omega) (.int .i64 s.c.focus))).trans (Same.setLow _ (p:=⟨w.heap.size+1,7,none⟩) (by simp only;omega) (.int .i64 s.t.log))).trans (Same.setLow _ (p:=⟨w.heap.size+1,8,none⟩) (by simp only;omega) (.slice p1 s.t.px.length q1))).trans (Same.setLow _ (p:=⟨w.heap.size+1,9,none⟩) (by simp only;omega) (.slice (some ⟨WS4.heap.size,0,none⟩) s.ps.length s.ps.length))).trans (Same.setLow _ (p:=⟨w.heap.size+1,10,none⟩) (by simp only;omega) (.slice (some ⟨WS6.heap.size,0,none⟩) s.m s.m))).trans (Same.setLow _ (p:=⟨w.heap.size+1,11,none⟩) (by simp only;omega) (.int .i64 s.side))));have fHPM:=hid (HPM.out.same ((((((((((((Same.setLow WS9 (p:=⟨w.heap.size+1,0,none⟩) (by simp only;omega) (.int .i64 s.c.w)).trans (Same.setLow _ (p:=⟨w.heap.size+1,1,none⟩) (by simp only;omega) (.int .i64 s.c.h))).trans (Same.setLow _ (p:=⟨w.heap.size+1,2,none⟩) (by simp only;omega) (.int .i64 s.c.zoom))).trans (Same.setLow _ (p:=⟨w.heap.size+1,3,none⟩) (by simp only;omega) (.int .i64 s.c.near))).trans (Same.setLow _ (p:=⟨w.heap.size+1,4,none⟩) (by simp only;omega) (.bool s.c.deep))).trans (Same.setLow _ (p:=⟨w.heap.size+1,5,none⟩) (by simp only;omega) (.int .i64 s.c.lens))).trans (Same.setLow _ (p:=⟨w.heap.size+1,6,none⟩) (by simp only;omega) (.int .i64 s.c.focus))).trans (Same.setLow _ (p:=⟨w.heap.size+1,7,none⟩) (by simp only;omega) (.int .i64 s.t.log))).trans (Same.setLow _ (p:=⟨w.heap.size+1,8,none⟩) (by simp only;omega) (.slice p1 s.t.px.length q1))).trans (Same.setLow _ (p:=⟨w.heap.size+1,9,none⟩) (by simp only;omega) (.slice (some ⟨WS4.heap.size,0,none⟩) s.ps.length s.ps.length))).trans (Same.setLow _ (p:=⟨w.heap.size+1,10,none⟩) (by simp only;omega) (.slice (some ⟨WS6.heap.size,0,none⟩) s.m s.m))).trans (Same.setLow _ (p:=⟨w.heap.size+1,11,none⟩) (by simp only;omega) (.int .i64 s.side))));have fHFL:=hid (HFL.out.same ((((((((((((Same.setLow WS9 (p:=⟨w.heap.size+1,0,none⟩) (by simp only;omega) (.int .i64 s.c.w)).trans (Same.setLow _ (p:=⟨w.heap.size+1,1,none⟩) (by simp only;omega) (.int .i64 s.c.h))).trans (Same.setLow _ (p:=⟨w.heap.size+1,2,none⟩) (by simp only;omega) (.int .i64 s.c.zoom))).trans (Same.setLow _ (p:=⟨w.heap.size+1,3,none⟩) (by simp only;omega) (.int .i64 s.c.near))).trans (Same.setLow _ (p:=⟨w.heap.size+1,4,none⟩) (by simp only;omega) (.bool s.c.deep))).trans (Same.setLow _ (p:=⟨w.heap.size+1,5,none⟩) (by simp only;omega) (.int .i64 s.c.lens))).trans (Same.setLow _ (p:=⟨w.heap.size+1,6,none⟩) (by simp only;omega) (.int .i64 s.c.focus))).trans (Same.setLow _ (p:=⟨w.heap.size+1,7,none⟩) (by simp only;omega) (.int .i64 s.t.log))).trans (Same.setLow _ (p:=⟨w.heap.size+1,8,none⟩) (by simp only;omega) (.slice p1 s.t.px.length q1))).trans (Same.setLow _ (p:=⟨w.heap.size+1,9,none⟩) (by simp only;omega) (.slice (some ⟨WS4.heap.size,0,none⟩) s.ps.length s.ps.length))).trans (Same.setLow _ (p:=⟨w.heap.size+1,10,none⟩) (by simp only;omega) (.slice (some ⟨WS6.heap.size,0,none⟩) s.m s.m))).trans (Same.setLow _ (p:=⟨w.heap.size+1,11,none⟩) (by simp only;omega) (.int .i64 s.side))));have fHSM:=hid (HSM.out.same ((((((((((((Same.setLow WS9 (p:=⟨w.heap.size+1,0,none⟩) (by simp only;omega) (.int .i64 s.c.w)).trans (Same.setLow _ (p:=⟨w.heap.size+1,1,none⟩) (by simp only;omega) (.int .i64 s.c.h))).trans (Same.setLow _ (p:=⟨w.heap.size+1,2,none⟩) (by simp only;omega) (.int .i64 s.c.zoom))).trans (Same.setLow _ (p:=⟨w.heap.size+1,3,none⟩) (by simp only;omega) (.int .i64 s.c.near))).trans (Same.setLow _ (p:=⟨w.heap.size+1,4,none⟩) (by simp only;omega) (.bool s.c.deep))).trans (Same.setLow _ (p:=⟨w.heap.size+1,5,none⟩) (by simp only;omega) (.int .i64 s.c.lens))).trans (Same.setLow _ (p:=⟨w.heap.size+1,6,none⟩) (by simp only;omega) (.int .i64 s.c.focus))).trans (Same.setLow _ (p:=⟨w.heap.size+1,7,none⟩) (by simp only;omega) (.int .i64 s.t.log))).trans (Same.setLow _ (p:=⟨w.heap.size+1,8,none⟩) (by simp only;omega) (.slice p1 s.t.px.length q1))).trans (Same.setLow _ (p:=⟨w.heap.size+1,9,none⟩) (by simp only;omega) (.slice (some ⟨WS4.heap.size,0,none⟩) s.ps.length s.ps.length))).trans (Same.setLow _ (p:=⟨w.heap.size+1,10,none⟩) (by simp only;omega) (.slice (some ⟨WS6.heap.size,0,none⟩) s.m s.m))).trans (Same.setLow _ (p:=⟨w.heap.size+1,11,none⟩) (by simp only;omega) (.int .i64 s.side))));have hXo:=X9.out;clear B9 HT HP HF;go_wp2;refine bodyPost_ret (v:=.agg #[.int .i64 s.c.w,.int .i64 s.c.h,.int .i64 s.c.zoom,.int .i64 s.c.near,.bool s.c.deep,.int .i64 s.c.lens,.int .i64 s.c.focus,.int .i64 s.t.log,.slice p1 s.t.px.length q1,.slice (some ⟨WS4.heap.size,0,none⟩) s.ps.length s.ps.length,.slice (some ⟨WS6.heap.size,0,none⟩) s.m s.m,.int .i64 s.side]) (by simp [results,Tryz.results27,go_sem, *]) rfl ?_;refine ⟨_,rfl,⟨p1,q1,_,_,_,_,rfl,⟨_,_,_,rfl,HCI.out,HLG.out,HSD.out,fHI.out.wide (by omega) (by simp;omega),fHPR.out.wide (by omega) (by simp;omega),fHFL.out.wide (by omega) (by simp;omega)⟩,fHM.out.wide (by omega) (by simp;omega),fHPM.out.wide (by omega) (by simp;omega),?_⟩,S_⟩;obtain ⟨a,cap,e1,e2,e3,e4⟩:=fHSM.out;exact ⟨a,cap,e1,e2,e3,fun i hi=>by obtain ⟨b,off,e,h1,h2⟩:=e4 i hi;exact ⟨b,off,e,h1.wide (by omega) (by simp;omega),h2.wide (by omega) (by simp;omega)⟩⟩
theorem eqScene_same (lo hi lo' hi':Nat) (v v':Value) (s:Scn) (w:World) (hv:s.R lo hi w v) (hh:hi≤w.heap.size) (hv':s.R lo' hi' w v') (hh':hi'≤w.heap.size) :
  Calls Tryz.prog 29 #[v,v'] w fun e w'=>e = .returned (.bool true)∧Ext w w':=by
 obtain ⟨tu,pu,su,rfl,-,hlog,-,k1,k2,k3⟩:=hv;obtain ⟨tu',pu',su',rfl,-,hlog',-,k1',k2',k3'⟩:=hv';have HT:=hid (show TexR lo hi w (.agg #[.int .i64 s.t.log,tu]) s.t from ⟨_,rfl,hlog,k1⟩);have HT':=hid (show TexR lo' hi' w (.agg #[.int .i64 s.t.log,tu']) s.t from ⟨_,rfl,hlog,k1'⟩);have HP:=hid k2;have HP':=hid k2';have HF:=hid k3;have HF':=hid k3';have x0:Ext w ((w.alloc (.cells #[.int .i64 s.c.w,.int .i64 s.c.h,.int .i64 s.c.zoom,.int .i64 s.c.near,.bool s.c.deep,.int .i64 s.c.lens,.int .i64 s.c.focus,.int .i64 s.t.log,tu,pu,su,.int .i64 s.side] 31)).alloc (.cells #[.int .i64 s.c.w,.int .i64 s.c.h,.int .i64 s.c.zoom,.int .i64 s.c.near,.bool s.c.deep,.int .i64 s.c.lens,.int .i64 s.c.focus,.int .i64 s.t.log,tu',pu',su',.int .i64 s.side] 31)):=X_;have b0:=(Blk.new w 31 [.int .i64 s.c.w,.int .i64 s.c.h,.int .i64 s.c.zoom,.int .i64 s.c.near,.bool s.c.deep,.int .i64 s.c.lens,.int .i64 s.c.focus,.int .i64 s.t.log,tu,pu,su,.int .i64 s.side]).ext (show Ext (w.alloc (.cells #[.int .i64 s.c.w,.int .i64 s.c.h,.int .i64 s.c.zoom,.int .i64 s.c.near,.bool s.c.deep,.int .i64 s.c.lens,.int .i64 s.c.focus,.int .i64 s.t.log,tu,pu,su,.int .i64 s.side] 31)) ((w.alloc (.cells #[.int .i64 s.c.w,.int .i64 s.c.h,.int .i64 s.c.zoom,.int .i64 s.c.near,.bool s.c.deep,.int .i64 s.c.lens,.int .i64 s.c.focus,.int .i64 s.t.log,tu,pu,su,.int .i64 s.side] 31)).alloc (.cells #[.int .i64 s.c.w,.int .i64 s.c.h,.int .i64 s.c.zoom,.int .i64 s.c.near,.bool s.c.deep,.int .i64 s.c.lens,.int .i64 s.c.focus,.int .i64 s.t.log,tu',pu',su',.int .i64 s.side] 31)) from X_);have r0:=Blk.new (w.alloc (.cells #[.int .i64 s.c.w,.int .i64 s.c.h,.int .i64 s.c.zoom,.int .i64 s.c.near,.bool s.c.deep,.int .i64 s.c.lens,.int .i64 s.c.focus,.int .i64 s.t.log,tu,pu,su,.int .i64 s.side] 31)) 31 [.int .i64 s.c.w,.int .i64 s.c.h,.int .i64 s.c.zoom,.int .i64 s.c.near,.bool s.c.deep,.int .i64 s.c.lens,.int .i64 s.c.focus,.int .i64 s.t.log,tu',pu',su',.int .i64 s.side];rw [World.size_alloc] at r0;have B0:=hid b0;have R0:=hid r0;have X0:=hid x0;clear hlog hlog' k1 k2 k3 k1' k2' k3' b0 r0 x0;go_enter Tryz.func29,Tryz.ntmps29;go_upto_region 1 with fail
 obtain ⟨WA,hWA⟩:∃WA,((w.alloc (.cells #[.int .i64 s.c.w,.int .i64 s.c.h,.int .i64 s.c.zoom,.int .i64 s.c.near,.bool s.c.deep,.int .i64 s.c.lens,.int .i64 s.c.focus,.int .i64 s.t.log,tu,pu,su,.int .i64 s.side] 31)).alloc (.cells #[.int .i64 s.c.w,.int .i64 s.c.h,.int .i64 s.c.zoom,.int .i64 s.c.near,.bool s.c.deep,.int .i64 s.c.lens,.int .i64 s.c.focus,.int .i64 s.t.log,tu',pu',su',.int .i64 s.side] 31))=WA:=⟨_,rfl⟩
 rw [hWA] at B0 R0 X0 ⊢;clear hWA;have b0:=B0.out.cell 0 rfl;have r0:=R0.out.cell 0 rfl;have b1:=B0.out.cell 1 rfl;have r1:=R0.out.cell 1 rfl;have b2:=B0.out.cell 2 rfl;have r2:=R0.out.cell 2 rfl;have b3:=B0.out.cell 3 rfl;have r3:=R0.out.cell 3 rfl;have b4:=B0.out.cell 4 rfl;have r4:=R0.out.cell 4 rfl;have b5:=B0.out.cell 5 rfl;have r5:=R0.out.cell 5 rfl;have b6:=B0.out.cell 6 rfl;have r6:=R0.out.cell 6 rfl;have bl:=B0.out.lt;have rl:=R0.out.lt;go_wp2_with fail;refine (eqCamera_same _ _ _ _ _ _ _ _).mono ?_;rintro e w1 ⟨rfl,x1⟩;have B1:=hid (B0.out.ext x1);have R1:=hid (R0.out.ext x1);have X1:=hid (X0.out.trans x1);clear B0 R0 X0 x1 bl rl b0 r0 b1 r1 b2 r2 b3 r3 b4 r4 b5 r5 b6 r6;have b7:=B1.out.cell 7 rfl;have r7:=R1.out.cell 7 rfl;have b8:=B1.out.cell 8 rfl;have r8:=R1.out.cell 8 rfl;have bl:=B1.out.lt;have rl:=R1.out.lt;go_wp2_with fail;refine (eqTexture_same lo hi lo' hi' _ _ s.t _ (HT.out.ext hh X1.out) (Nat.le_trans hh X1.out.size) (HT'.out.ext hh' X1.out) (Nat.le_trans hh' X1.out.size)).mono ?_;rintro e w2 ⟨rfl,x2⟩;have B2:=hid (B1.out.ext x2);have R2:=hid (R1.out.ext x2);have X2:=hid (X1.out.trans x2);clear B1 R1 X1 x2 bl rl b7 r7 b8 r8;have b9:=B2.out.cell 9 rfl;have r9:=R2.out.cell 9 rfl;have bl:=B2.out.lt;have rl:=R2.out.lt;go_wp2_with fail;refine (eqProgramS_same lo hi lo' hi' _ _ s.ps _ (HP.out.ext hh X2.out) (HP'.out.ext hh' X2.out) (Nat.le_trans hh X2.out.size) (Nat.le_trans hh' X2.out.size)).mono ?_;rintro e w3 ⟨rfl,x3⟩;have B3:=hid (B2.out.ext x3);have R3:=hid (R2.out.ext x3);have X3:=hid (X2.out.trans x3);clear B2 R2 X2 x3 bl rl b9 r9;have b10:=B3.out.cell 10 rfl;have r10:=R3.out.cell 10 rfl;have bl:=B3.out.lt;have rl:=R3.out.lt;go_wp2_with fail;refine (eqSurfaceS_same lo hi lo' hi' _ _ s.m s.F _ (HF.out.ext hh X3.out) (HF'.out.ext hh' X3.out) (Nat.le_trans hh X3.out.size) (Nat.le_trans hh' X3.out.size)).mono ?_;rintro e w4 ⟨rfl,x4⟩;have B4:=hid (B3.out.ext x4);have R4:=hid (R3.out.ext x4);have X4:=hid (X3.out.trans x4);clear B3 R3 X3 x4 bl rl b10 r10;have b11:=B4.out.cell 11 rfl;have r11:=R4.out.cell 11 rfl;have bl:=B4.out.lt;have rl:=R4.out.lt;go_wp2;go_ret;exact ⟨rfl,X4.out⟩
theorem markScene_any (lo hi:Nat) (v:Value) (s:Scn) (k0:Int) (w:World) (hv:s.O lo hi w v) (hh:hi≤w.heap.size) (hl:lo≤hi) (hs:s.Sm) (h0:0≤k0) (h1:k0≤1000000000) :
  Calls Tryz.prog 30 #[v,.int .i64 k0] w fun e w'=>(∃r,e = .returned (.int .i64 r)∧0≤r)∧Part lo hi w w':=by
 obtain ⟨a1,c1,a2,c2,a3,c3,rfl,-,hI,hP,hS⟩:=hv;have HI:=hid hI;have HP:=hid hP;have HSS:=hid hS;have z1:=hs.px;have z2:=hs.n;have z3:=hs.m;have x0:Ext w (w.alloc (.cells #[.int .i64 s.c.w,.int .i64 s.c.h,.int .i64 s.c.zoom,.int .i64 s.c.near,.bool s.c.deep,.int .i64 s.c.lens,.int .i64 s.c.focus,.int .i64 s.t.log,.slice a1 s.t.px.length c1,.slice a2 s.ps.length c2,.slice a3 s.m c3,.int .i64 s.side] 31)):=X_;have B0:=hid (Blk.new w 31 [.int .i64 s.c.w,.int .i64 s.c.h,.int .i64 s.c.zoom,.int .i64 s.c.near,.bool s.c.deep,.int .i64 s.c.lens,.int .i64 s.c.focus,.int .i64 s.t.log,.slice a1 s.t.px.length c1,.slice a2 s.ps.length c2,.slice a3 s.m c3,.int .i64 s.side]);have S0:=hid (Shp.of x0 hh hl);have zx:=x0.size;clear hI hP hS hs x0;go_enter Tryz.func30,Tryz.ntmps30;go_wp2_with fail;refine (markTex_shp lo hi _ _ s.t.px.length k0 _ (HI.out.shp S0.out) (by omega) hl h0 (by omega)).mono ?_;rintro e w1 ⟨rfl,S1⟩;have B1:=hid (B0.out.of (S1.part.block B0.out.lt (.inr (by omega))));have S1':=hid (S0.out.trans S1);have y1:=S1'.out.size;have c9:=B1.out.cell 9 rfl;have cl:=B1.out.lt;clear B0 S0 S1;go_wp2_with fail;refine (markProgramS_shp lo hi _ s.ps.length _ _ (HP.out.shp S1'.out) z2 (by omega) hl (by omega) (by omega)).mono ?_;rintro e w2 ⟨⟨r2,rfl,g1,g2⟩,S2⟩;have B2:=hid (B1.out.of (S2.part.block B1.out.lt (.inr (by omega))));have S2':=hid (S1'.out.trans S2);have y2:=S2'.out.size;clear B1 S1' S2 c9 cl;have c10:=B2.out.cell 10 rfl;have cl:=B2.out.lt;go_wp2_with fail;refine (markSurfaceS_shp lo hi _ s.m _ _ (HSS.out.shp S2'.out) z3 (by omega) hl (by omega) (by omega)).mono ?_;rintro e w3 ⟨⟨r3,rfl,g3⟩,S3⟩;go_wp2;go_ret;exact ⟨⟨_,rfl,by omega⟩,(S2'.out.trans S3).part⟩
theorem markIntS_o (lo hi:Nat) (u:Value) (xs:List Int) (k0:Int) (w:World) (hu:IntsO lo hi w u xs) (hl:lo≤w.heap.size) (h0:0≤k0) (hsz:k0+xs.length≤1152921504606846976) :
  Calls Tryz.prog 31 #[u,.int .i64 k0] w fun e w'=>e = .returned (.int .i64 (k0+xs.length))∧IntsO lo hi w' u (upFrom k0 xs.length)∧Part lo hi w w':=by
 refine (markIntS_any lo u xs k0 w hu.1 h0 hsz).mono ?_;rintro e w' ⟨rfl,h1,h2⟩;refine ⟨rfl,⟨h1,hu.2⟩,?_⟩;exact Part.of h2 (fun k hk=>⟨(hu.1.lt k hk).1,hu.2 k hk⟩) hl
theorem heldIntS_up (lo hi:Nat) (u:Value) (n:Nat) (k0:Int) (w:World) (hu:Ints lo hi w u (upFrom k0 n)) (h0:0≤k0) (hsz:k0+n≤1152921504606846976) :
  Calls Tryz.prog 32 #[u,.int .i64 k0] w fun e w'=>e = .returned (.int .i64 (k0+n))∧Ext w w':=by
 refine (heldIntS_any lo hi u _ k0 w hu h0 (by rw [upFrom_length];exact hsz)).mono ?_;rintro e w' ⟨rfl,rfl⟩;refine ⟨?_,Ext.refl _⟩;unfold heldRes;rw [upFrom_length,if_pos rfl]
end Go.Proofs.YtfjbiifebcfjfaaGreat
