/- Texts of this claim, one behind another; what its theorem does not use is left out: In4, In5, Dw4, Dw5, Dw6, LiftTex, LiftBy0, Dw7, Sc6, Dw8, Dw9, LawSees, P26. -/
import Derived.Test.YtfjbiifebcfjfaaGreatP26W7
import Derived.Test.YtfjbiifebcfjfaaGreatP26W6
import Derived.Test.YtfjbiifebcfjfaaGreatP26W5
import Derived.Test.YtfjbiifebcfjfaaGreatP26W1
import Derived.OpenShut
import Derived.ShutString
import Derived.ChangeOld
import Derived.Below
import Derived.Carry
import Derived.Lib.SmallJoins
import Derived.Test.YtfjbiifebcfjfaaGreatP26W2
import Derived.Test.YtfjbiifebcfjfaaGreatRows
import Derived.ProofKit
set_option linter.unusedSimpArgs false
set_option linter.unusedVariables false
set_option maxRecDepth 100000
set_option maxHeartbeats 12800000
namespace Go.Proofs.YtfjbiifebcfjfaaGreat
open Go.RowKit
theorem iSampleFragments_any (s:Scn) (lo hi:Nat) (v:Value) (p:Smp) (w:World) (hv:s.R lo hi w v) (hh:hi≤w.heap.size) (ho:s.Ok) (hsm:s.small) (hp:p.okB s.c=true) :
  Calls Tryz.prog 12 #[v,.agg #[.int .i64 p.x,.int .i64 p.y,.int .i64 p.t,.int .i64 p.lx,.int .i64 p.ly]] w fun e w'=>∃r,e = .returned r∧OwnG Frag.cs w.heap.size 47 5 w' r (s.seen p)∧Ext w w':=by
 have HV:=hid hv;obtain ⟨a1,c1,a2,c2,a3,c3,rfl⟩:=hv.formV;have HO:=hid ho;have HSM:=hid hsm;have HP:=hid hp;have HOK:=hid (Scn.okB_iff.2 ho);have x0:Ext w ((w.alloc (.cells #[.int .i64 s.c.w,.int .i64 s.c.h,.int .i64 s.c.zoom,.int .i64 s.c.near,.bool s.c.deep,.int .i64 s.c.lens,.int .i64 s.c.focus,.int .i64 s.t.log,.slice a1 s.t.px.length c1,.slice a2 s.ps.length c2,.slice a3 s.m c3,.int .i64 s.side] 31)).alloc (.cells #[.int .i64 p.x,.int .i64 p.y,.int .i64 p.t,.int .i64 p.lx,.int .i64 p.ly] 34)):=X_;have bS:=(Blk.new w 31 [.int .i64 s.c.w,.int .i64 s.c.h,.int .i64 s.c.zoom,.int .i64 s.c.near,.bool s.c.deep,.int .i64 s.c.lens,.int .i64 s.c.focus,.int .i64 s.t.log,.slice a1 s.t.px.length c1,.slice a2 s.ps.length c2,.slice a3 s.m c3,.int .i64 s.side]).ext (show Ext _ ((w.alloc (.cells #[.int .i64 s.c.w,.int .i64 s.c.h,.int .i64 s.c.zoom,.int .i64 s.c.near,.bool s.c.deep,.int .i64 s.c.lens,.int .i64 s.c.focus,.int .i64 s.t.log,.slice a1 s.t.px.length c1,.slice a2 s.ps.length c2,.slice a3 s.m c3,.int .i64 s.side] 31)).alloc (.cells #[.int .i64 p.x,.int .i64 p.y,.int .i64 p.t,.int .i64 p.lx,.int .i64 p.ly] 34)) from X_);have bP:=Blk.new (w.alloc (.cells #[.int .i64 s.c.w,.int .i64 s.c.h,.int .i64 s.c.zoom,.int .i64 s.c.near,.bool s.c.deep,.int .i64 s.c.lens,.int .i64 s.c.focus,.int .i64 s.t.log,.slice a1 s.t.px.length c1,.slice a2 s.ps.length c2,.slice a3 s.m c3,.int .i64 s.side] 31)) 34 [.int .i64 p.x,.int .i64 p.y,.int .i64 p.t,.int .i64 p.lx,.int .i64 p.ly];rw [World.size_alloc] at bP
 obtain ⟨W0,hW0⟩:∃W0,(w.alloc (.cells #[.int .i64 s.c.w,.int .i64 s.c.h,.int .i64 s.c.zoom,.int .i64 s.c.near,.bool s.c.deep,.int .i64 s.c.lens,.int .i64 s.c.focus,.int .i64 s.t.log,.slice a1 s.t.px.length c1,.slice a2 s.ps.length c2,.slice a3 s.m c3,.int .i64 s.side] 31)).alloc (.cells #[.int .i64 p.x,.int .i64 p.y,.int .i64 p.t,.int .i64 p.lx,.int .i64 p.ly] 34)=W0:=⟨_,rfl⟩
 rw [hW0] at x0;have bS:Blk W0 w.heap.size 31 [.int .i64 s.c.w,.int .i64 s.c.h,.int .i64 s.c.zoom,.int .i64 s.c.near,.bool s.c.deep,.int .i64 s.c.lens,.int .i64 s.c.focus,.int .i64 s.t.log,.slice a1 s.t.px.length c1,.slice a2 s.ps.length c2,.slice a3 s.m c3,.int .i64 s.side]:=hW0▸bS;have bP:Blk W0 (w.heap.size+1) 34 [.int .i64 p.x,.int .i64 p.y,.int .i64 p.t,.int .i64 p.lx,.int .i64 p.ly]:=hW0▸bP;have HX0:=hid x0;have HS0:=hid bS;have HP0:=hid bP;have HW0:=hid hW0;have z0:=bP.lt;clear hv ho hp hsm x0 bS bP hW0;go_enter Tryz.func12,Tryz.ntmps12;go_upto_region 1 with fail;rw [HW0.out];have bs:=HS0.out.ext (Ext.refl _);obtain ⟨c0,c1,c2,c3,c4,c5,c6,c7,c8,c9,c10,c11⟩:=bs.q12;have bp:=HP0.out.ext (Ext.refl _);obtain ⟨d0,d1,d2,d3,d4⟩:=bp.q5;have ls:=bs.lt;have lp:=bp.lt;clear bs bp;go_wp2_with fail;refine (iIsValidScene_any s lo hi _ _ (HV.out.ext hh HX0.out) (Nat.le_trans hh HX0.out.size) HSM.out).mono ?_;rw [HOK.out];rintro e w3 ⟨rfl,x3⟩;have X3:=hid x3;clear x3 ls lp;clear c0 c1 c2 c3 c4 c5 c6 c7 c8 c9 c10 c11 d0 d1 d2 d3 d4;have bs:=HS0.out.ext X3.out;obtain ⟨c0,c1,c2,c3,c4,c5,c6,c7,c8,c9,c10,c11⟩:=bs.q12;have bp:=HP0.out.ext X3.out;obtain ⟨d0,d1,d2,d3,d4⟩:=bp.q5;have ls:=bs.lt;have lp:=bp.lt;clear bs bp;go_wp2_with fail;refine (iIsValidSample_any s.c p _).mono ?_;rw [HP.out];rintro e w4 ⟨rfl,x4⟩;have X4:=hid (X3.out.trans x4);clear x4 ls lp;clear c0 c1 c2 c3 c4 c5 c6 c7 c8 c9 c10 c11 d0 d1 d2 d3 d4;have bs:=HS0.out.ext X4.out;obtain ⟨c0,c1,c2,c3,c4,c5,c6,c7,c8,c9,c10,c11⟩:=bs.q12;have bp:=HP0.out.ext X4.out;obtain ⟨d0,d1,d2,d3,d4⟩:=bp.q5;have ls:=bs.lt;have lp:=bp.lt;clear bs bp;go_upto_region 3 with fail;refine wp_region_stages [([0,1,2],3),([],4),([],5)] 5 w4.heap.size (by kernel_rfl) (by kernel_rfl) ?_;refine wpStages_cons ?_;simp only [List.filterMap_cons,List.filterMap_nil,List.getElem?_toArray,List.getElem?_cons_zero,List.getElem?_cons_succ]
 show wpQuiet _ _ _ _ [_,_,_] _
 repeat (go_big_quiet_step (fail))
 refine wpQuiet_nil ⟨_,rfl,fun K hK=>?_⟩;go_wp2_with fail;have xd:Ext w w4.drew:=HX0.out.trans (X4.out.trans (Ext.drew (Ext.refl _)));refine (iShadeAll_any s lo hi _ _ (HV.out.ext hh xd) (Nat.le_trans hh xd.size) HO.out HSM.out).mono ?_;rintro e w5 ⟨r,rfl,hr,x5⟩;have y5:Ext w4 w5:=Ext.trans (Ext.drew (Ext.refl _)) x5;obtain ⟨us,hus,hu2,hu3⟩:=hr;obtain ⟨ra,rc,rfl,-⟩:=hu2.form;have HR:Hid (Shds s w4.drew.heap.size w5 (.slice ra us.length rc) s.m):=hid ⟨us,hus,hu2,hu3⟩;have X5:=hid (HX0.out.trans (X4.out.trans y5));clear hus hu2 hu3 x5 xd;go_wp2_with fail;refine hK _ _ (.inr (y5.same (Nat.le_refl _))) ?_;clear hK K;refine st_ fun K hK=>?_;go_wp2_with fail;have CS:=iSeen_any s lo w4.drew.heap.size hi _ _ p w5 (HV.out.ext hh X5.out) (Nat.le_trans hh X5.out.size) HO.out HP.out HR.out;refine CS.mono ?_;clear CS;rintro e w6 ⟨q,rfl,O6,x6⟩;obtain ⟨ta,tc,rfl,tl⟩:=OwnG.form O6;have y6:=y5.trans x6;have X6:=hid (X5.out.trans x6);have HO6:=hid O6;clear O6 x6 tl;go_wp2_with fail;refine hK _ _ (.inr (y6.same (Nat.le_refl _))) ?_;clear hK K y5 y6;refine st_ fun K hK=>?_;go_wp2_with fail;refine hK _ _ (.inl (by trivial)) ?_;clear hK K;refine wpStages_nil ?_;go_wp2;go_ret;exact ⟨_,rfl,OwnG.low HO6.out X5.out.size,X6.out⟩
theorem iSampleColor_any (s:Scn) (lo hi:Nat) (v:Value) (p:Smp) (w:World) (hv:s.R lo hi w v) (hh:hi≤w.heap.size) (ho:s.Ok) (hsm:s.small) (hp:p.okB s.c=true) :
  Calls Tryz.prog 15 #[v,.agg #[.int .i64 p.x,.int .i64 p.y,.int .i64 p.t,.int .i64 p.lx,.int .i64 p.ly]] w fun e w'=>e = .returned (.int .i64 (compF (s.seen p)))∧Ext w w':=by
 have HV:=hid hv;obtain ⟨a1,c1,a2,c2,a3,c3,rfl⟩:=hv.formV;have HO:=hid ho;have HSM:=hid hsm;have HP:=hid hp;have HOK:=hid (Scn.okB_iff.2 ho);have x0:Ext w ((w.alloc (.cells #[.int .i64 s.c.w,.int .i64 s.c.h,.int .i64 s.c.zoom,.int .i64 s.c.near,.bool s.c.deep,.int .i64 s.c.lens,.int .i64 s.c.focus,.int .i64 s.t.log,.slice a1 s.t.px.length c1,.slice a2 s.ps.length c2,.slice a3 s.m c3,.int .i64 s.side] 31)).alloc (.cells #[.int .i64 p.x,.int .i64 p.y,.int .i64 p.t,.int .i64 p.lx,.int .i64 p.ly] 34)):=X_;have bS:=(Blk.new w 31 [.int .i64 s.c.w,.int .i64 s.c.h,.int .i64 s.c.zoom,.int .i64 s.c.near,.bool s.c.deep,.int .i64 s.c.lens,.int .i64 s.c.focus,.int .i64 s.t.log,.slice a1 s.t.px.length c1,.slice a2 s.ps.length c2,.slice a3 s.m c3,.int .i64 s.side]).ext (show Ext _ ((w.alloc (.cells #[.int .i64 s.c.w,.int .i64 s.c.h,.int .i64 s.c.zoom,.int .i64 s.c.near,.bool s.c.deep,.int .i64 s.c.lens,.int .i64 s.c.focus,.int .i64 s.t.log,.slice a1 s.t.px.length c1,.slice a2 s.ps.length c2,.slice a3 s.m c3,.int .i64 s.side] 31)).alloc (.cells #[.int .i64 p.x,.int .i64 p.y,.int .i64 p.t,.int .i64 p.lx,.int .i64 p.ly] 34)) from X_);have bP:=Blk.new (w.alloc (.cells #[.int .i64 s.c.w,.int .i64 s.c.h,.int .i64 s.c.zoom,.int .i64 s.c.near,.bool s.c.deep,.int .i64 s.c.lens,.int .i64 s.c.focus,.int .i64 s.t.log,.slice a1 s.t.px.length c1,.slice a2 s.ps.length c2,.slice a3 s.m c3,.int .i64 s.side] 31)) 34 [.int .i64 p.x,.int .i64 p.y,.int .i64 p.t,.int .i64 p.lx,.int .i64 p.ly];rw [World.size_alloc] at bP
 obtain ⟨W0,hW0⟩:∃W0,(w.alloc (.cells #[.int .i64 s.c.w,.int .i64 s.c.h,.int .i64 s.c.zoom,.int .i64 s.c.near,.bool s.c.deep,.int .i64 s.c.lens,.int .i64 s.c.focus,.int .i64 s.t.log,.slice a1 s.t.px.length c1,.slice a2 s.ps.length c2,.slice a3 s.m c3,.int .i64 s.side] 31)).alloc (.cells #[.int .i64 p.x,.int .i64 p.y,.int .i64 p.t,.int .i64 p.lx,.int .i64 p.ly] 34)=W0:=⟨_,rfl⟩
 rw [hW0] at x0;have bS:Blk W0 w.heap.size 31 [.int .i64 s.c.w,.int .i64 s.c.h,.int .i64 s.c.zoom,.int .i64 s.c.near,.bool s.c.deep,.int .i64 s.c.lens,.int .i64 s.c.focus,.int .i64 s.t.log,.slice a1 s.t.px.length c1,.slice a2 s.ps.length c2,.slice a3 s.m c3,.int .i64 s.side]:=hW0▸bS;have bP:Blk W0 (w.heap.size+1) 34 [.int .i64 p.x,.int .i64 p.y,.int .i64 p.t,.int .i64 p.lx,.int .i64 p.ly]:=hW0▸bP;have HX0:=hid x0;have HS0:=hid bS;have HP0:=hid bP;have HW0:=hid hW0;have z0:=bP.lt;clear hv ho hp hsm x0 bS bP hW0;go_enter Tryz.func15,Tryz.ntmps15;go_upto_region 1 with fail;rw [HW0.out];have bs:=HS0.out.ext (Ext.refl _);obtain ⟨c0,c1,c2,c3,c4,c5,c6,c7,c8,c9,c10,c11⟩:=bs.q12;have bp:=HP0.out.ext (Ext.refl _);obtain ⟨d0,d1,d2,d3,d4⟩:=bp.q5;have ls:=bs.lt;have lp:=bp.lt;clear bs bp;go_wp2_with fail;refine (iSampleFragments_any s lo hi _ p _ (HV.out.ext hh HX0.out) (Nat.le_trans hh HX0.out.size) HO.out HSM.out HP.out).mono ?_;rintro e w3 ⟨r,rfl,hr,x3⟩;have X3:=hid (HX0.out.trans x3);have HR:=hid hr;clear x3 hr ls lp;clear c0 c1 c2 c3 c4 c5 c6 c7 c8 c9 c10 c11 d0 d1 d2 d3 d4;go_wp2_with fail;refine (iComposite_any _ _ _ _ HR.out).mono ?_;rintro e w4 ⟨rfl,x4⟩;have X4:=hid (X3.out.trans x4);clear x4;go_wp2;go_ret;exact ⟨rfl,X4.out⟩
theorem iShadeSurface_any (s:Scn) (lo hi:Nat) (v:Value) (k:Nat) (w:World) (hv:s.R lo hi w v) (hh:hi≤w.heap.size) (ho:s.Ok) (hsm:s.small) (hk:k<s.m) :
  Calls Tryz.prog 13 #[v,.int .i64 (k:Nat)] w fun e w'=>∃r1 r2,e = .returned (.tuple #[r1,r2,.bool true])∧OwnInts w.heap.size w' r1 (s.shade k).1∧OwnInts w.heap.size w' r2 (s.shade k).2∧Ext w w':=by
 have HV:=hid hv;have hm5:=ho.m;obtain ⟨a1,c1,a2,c2,a3,c3,rfl⟩:=hv.formV;have HO:=hid ho;have HSM:=hid hsm
 have hb:(s.okB&&inB (k:Int) 0 ((s.m:Int) - 1))=true:=by
  rw [Scn.okB_iff.2 ho,Bool.true_and,inB_iff];omega
 have HBB:=hid hb;have x0:Ext w (w.alloc (.cells #[.int .i64 s.c.w,.int .i64 s.c.h,.int .i64 s.c.zoom,.int .i64 s.c.near,.bool s.c.deep,.int .i64 s.c.lens,.int .i64 s.c.focus,.int .i64 s.t.log,.slice a1 s.t.px.length c1,.slice a2 s.ps.length c2,.slice a3 s.m c3,.int .i64 s.side] 31)):=X_;have bS:=Blk.new w 31 [.int .i64 s.c.w,.int .i64 s.c.h,.int .i64 s.c.zoom,.int .i64 s.c.near,.bool s.c.deep,.int .i64 s.c.lens,.int .i64 s.c.focus,.int .i64 s.t.log,.slice a1 s.t.px.length c1,.slice a2 s.ps.length c2,.slice a3 s.m c3,.int .i64 s.side]
 obtain ⟨W0,hW0⟩:∃W0,w.alloc (.cells #[.int .i64 s.c.w,.int .i64 s.c.h,.int .i64 s.c.zoom,.int .i64 s.c.near,.bool s.c.deep,.int .i64 s.c.lens,.int .i64 s.c.focus,.int .i64 s.t.log,.slice a1 s.t.px.length c1,.slice a2 s.ps.length c2,.slice a3 s.m c3,.int .i64 s.side] 31)=W0:=⟨_,rfl⟩
 rw [hW0] at x0;have bS:Blk W0 w.heap.size 31 [.int .i64 s.c.w,.int .i64 s.c.h,.int .i64 s.c.zoom,.int .i64 s.c.near,.bool s.c.deep,.int .i64 s.c.lens,.int .i64 s.c.focus,.int .i64 s.t.log,.slice a1 s.t.px.length c1,.slice a2 s.ps.length c2,.slice a3 s.m c3,.int .i64 s.side]:=hW0▸bS;have HX0:=hid x0;have HS0:=hid bS;have HW0:=hid hW0;clear hv ho hsm hb x0 bS hW0;go_enter Tryz.func13,Tryz.ntmps13;go_upto_region 1 with fail;rw [HW0.out];have bs:=HS0.out.ext (Ext.refl _);obtain ⟨c0,c1,c2,c3,c4,c5,c6,c7,c8,c9,c10,c11⟩:=bs.q12;have ls:=bs.lt;clear bs;go_wp2_with fail;have CH:=iHasSurface_any s lo hi _ (k:Nat) W0 (HV.out.ext hh HX0.out) (Nat.le_trans hh HX0.out.size) HSM.out HBB.out;refine CH.mono ?_;clear CH;rintro e w3 ⟨rfl,x3⟩;have X3:=hid x3;clear x3;clear ls c0 c1 c2 c3 c4 c5 c6 c7 c8 c9 c10 c11;have bs:=HS0.out.ext X3.out;obtain ⟨c0,c1,c2,c3,c4,c5,c6,c7,c8,c9,c10,c11⟩:=bs.q12;have ls:=bs.lt;clear bs;go_wp2_with fail;have XX:=hid (HX0.out.trans X3.out);have CH:=iShade_any s lo hi _ k w3 (HV.out.ext hh XX.out) (Nat.le_trans hh XX.out.size) HO.out HSM.out hk;refine CH.mono ?_;clear CH;rintro e w5 ⟨r1,r2,rfl,h,hh1,hh2,O1,O2,x5⟩;obtain ⟨ra,rc,rfl⟩:=O1.form;obtain ⟨sa,sc,rfl⟩:=O2.form;have X5:=hid (XX.out.trans x5);have P1:=hid (O1.1.low (lo':=w.heap.size) XX.out.size);have P2:=hid (O2.1.low (lo':=w.heap.size) (Nat.le_trans XX.out.size hh1));clear O1 O2 x5 hh1 hh2;clear ls c0 c1 c2 c3 c4 c5 c6 c7 c8 c9 c10 c11;go_upto_region 4 with fail;refine wp_region_stages [([0,1,2,3,4,5],6)] 6 (w5.heap.size+1) (by kernel_rfl) (by kernel_rfl) ?_;refine st_ fun K hK=>?_;go_wp2_with fail;refine hK _ _ (.inl (by trivial)) ?_;clear hK K;refine wpStages_nil ?_;go_wp2
 go_ret3
 exact ⟨_,_,rfl,P1.out.ext X_,P2.out.ext X_,X5.out.trans X_⟩
theorem OwnG.rowS {α : Type} {cs : α→List Value} {lo:Nat} {e:TypeId} {sz:Nat} {w:World} {v:Value} {xs:List α} (h:OwnG cs lo e sz w v xs):∀k,v.ownBlock=some k→lo≤k∧∃c,w.heap[k]?=some (.cells c e (0,0)):=by
 intro k hk
 rcases h.2 with ⟨rfl,h4⟩|⟨g,cap,cur,rfl,hb,hg,_⟩
 ·cases hk
 ·simp only [Value.ownBlock,Option.some.injEq] at hk
  subst hk;exact ⟨hb,cur,hg⟩
theorem Blk.neRow {w:World} {A k:Nat} {t e:TypeId} {cs:List Value} {c:Array Value} (h:Blk w A t cs) (hk:w.heap[k]?=some (.cells c e (0,0))) (ne:t≠e):A≠k:=fun e1=>by
 subst e1;unfold Blk at h;rw [h] at hk;simp only [Option.some.injEq,Obj.cells.injEq] at hk;exact ne hk.2.1
structure ScM (lo lp hp:Nat) (w:World) (t:Tex) (tv pv sv:Value) (ps:List Prg) (xs:List Srf):Prop where
 tex:OwnInts lo w tv t.px
 prg:PRow lp hp w pv ps
 srf:OwnG Srf.cs hp 42 26 w sv xs
section
variable {lo lp hp : Nat} {w w' : World} {t : Tex} {tv pv sv : Value} {ps : List Prg} {xs : List Srf}
theorem ScM.ext (h:ScM lo lp hp w t tv pv sv ps xs) (x:Ext w w'):ScM lo lp hp w' t tv pv sv ps xs:=⟨h.tex.ext x,h.prg.ext x,OwnG.ext h.srf x⟩
theorem ScM.gr (h:ScM lo lp hp w t tv pv sv ps xs) {B:Nat} (g:Gr B w w') (hB:B<lo) (h1:lo≤lp) (h2:lo≤hp):ScM lo lp hp w' t tv pv sv ps xs:=
 ⟨h.tex.kept (fun k h1 h2=>g.keep h2 (by omega)),h.prg.gr g (by omega),OwnG.of h.srf fun b c hb hc=>(g.keep (Array.getElem?_eq_some_iff.1 hc).1 (by omega)).trans hc⟩
theorem ints_ne_box {v:Value} {ys:List Int} (h:OwnInts lo w v ys) {X:Nat} {u:TypeId} {cs:List Value} (hX:Blk w X u cs) (hu:u≠3):v.ownBlock≠some X:=fun e=>by
 obtain ⟨c,hc⟩:=h.block e;exact hX.neRow hc hu rfl
theorem ScM.set (h:ScM lo lp hp w t tv pv sv ps xs) {X:Nat} {cs:List Value} (hX:Blk w X 31 cs) (hx:X<lp∨hp≤X) (i:Nat) (u:Value):ScM lo lp hp (w.setCell ⟨X,i,none⟩ u) t tv pv sv ps xs:=
 ⟨h.tex.setOther (ints_ne_box h.tex hX (by decide)) u,h.prg.set hX (by decide) hx i u,OwnG.of h.srf fun b c hb hc=>(Below.heap_setCell _ _ _ _ (by
  simp only
  exact fun e=>hX.neRow (e▸hc) (by decide) rfl)).trans hc⟩
theorem ScM.row (h:ScM lo lp hp w t tv pv sv ps xs) {X:Nat} {cs:List Value} (hX:Blk w X 31 cs) (hx:X<lp∨hp≤X) (ds:Array Value):ScM lo lp hp (w.setRow X ds) t tv pv sv ps xs:=
 ⟨h.tex.grown (row:=some X) ⟨rfl,rfl,rfl,by rw [size_setRowB];exact Nat.le_refl _,fun k hk ne=>setRow_other _ _ _ _ (fun e=>ne (by rw [e]))⟩ (fun k hk e=>ints_ne_box h.tex hX (by decide) (by rw [hk];exact e)),
  h.prg.keep (by rw [size_setRowB];exact Nat.le_refl _) (fun b h1 h2=>setRow_other _ _ _ _ (by omega)) (fun b c h1 hc=>(setRow_other _ _ _ _ (fun e=>hX.neRow (e▸hc) (by decide) rfl)).trans hc),
  OwnG.of h.srf fun b c hb hc=>(setRow_other _ _ _ _ (fun e=>hX.neRow (e▸hc) (by decide) rfl)).trans hc⟩
theorem ScM.push (h:ScM lo lp hp w t tv pv sv ps xs) {sv':Value} {xs':List Srf} (hg:w.grownBy w' sv.ownBlock) (ho:OwnG Srf.cs hp 42 26 w' sv' xs'):ScM lo lp hp w' t tv pv sv' ps xs':=by
 have hr:=OwnG.rowS h.srf;refine ⟨h.tex.grown hg (fun k hk e=>?_),h.prg.grown hg (fun k hk=>?_),ho⟩
 ·obtain ⟨_,c,hc⟩:=hr k e.symm
  obtain ⟨c',hc'⟩:=h.tex.block hk;rw [hc'] at hc;simp only [Option.some.injEq,Obj.cells.injEq] at hc;exact absurd hc.2.1 (by decide)
 ·obtain ⟨h1,c,hc⟩:=hr k hk
  exact ⟨h1,c,_,by decide,hc⟩
theorem ScM.low {lo':Nat} (h:ScM lo lp hp w t tv pv sv ps xs) (hl:lo'≤lo):ScM lo' lp hp w t tv pv sv ps xs:=⟨h.tex.low hl,h.prg,h.srf⟩
end
theorem info_SrfT:(Tryz.prog.info? 42).map (fun i=>(i.zero,i.size,i.bytes))=some (some (.agg #[.int .i64 0,.int .i64 0,.int .i64 0,.int .i64 0,.int .i64 0,.int .i64 0,.int .i64 0,.int .i64 0,.int .i64 0,.int .i64 0,.int .i64 0,.int .i64 0,.int .i64 0,.int .i64 0,.int .i64 0,.int .i64 0,.int .i64 0,.int .i64 0,.int .i64 0,.int .i64 0,.int .i64 0,.int .i64 0,.int .i64 0,.int .i64 0,.int .i64 0,.int .i64 0]),26,208):=by kernel_rfl
theorem info_PrgT:(Tryz.prog.info? 132).map (fun i=>(i.zero,i.size,i.bytes))=some (some (.agg #[.slice none 0 0,.slice none 0 0]),2,48):=by kernel_rfl
theorem info_ScnT:(Tryz.prog.info? 31).map (fun i=>i.size)=some 12:=by kernel_rfl
theorem pair_one (u:Value×Value) (h1:u.1.oneCell'=true) (h2:u.2.oneCell'=true):∀x∈pairCs u,x.oneCell'=true:=by
 intro x hx;simp only [pairCs,List.mem_cons,List.not_mem_nil,or_false] at hx
 rcases hx with rfl|rfl <;> assumption
theorem Cur.grown {hi:Nat} {w w':World} {B:Nat} (h:Cur hi w B) {row:Option Nat} (hg:w.grownBy w' row) (hr:∀k,row=some k→B<k):Cur hi w' B:=
 h.keep fun b hb=>hg.block b (by have:=h.lt;omega) (fun e=>by have:=hr b e.symm;omega)
structure ScSm (c:Cam) (t:Tex) (side:Int) (ps:List Prg) (xs:List Srf):Prop where
 c:c.Sm
 t:t.Ok
 side:side=1∨side=2
 n:1≤ps.length∧ps.length≤2
 prg:∀p∈ps,p.bd∧p.small∧p.chkB=true
 m:xs.length≤3
 srf:∀x∈xs,SrfSm x.f x.g x.sh x.rt ps.length
theorem l20Draw_any (hi B:Nat) (w:World) (hc:Cur hi w B):Calls Tryz.prog 85 #[.pointer (some ⟨B,0,none⟩)] w fun e w'=>∃(c:Cam) (t:Tex) (side:Int) (ps:List Prg) (xs:List Srf) (lp hp:Nat) (ta:Option Addr) (tc:Nat) (pa:Option Addr) (pc:Nat) (sa:Option Addr) (sc:Nat),
  e = .returned (.agg #[.int .i64 c.w,.int .i64 c.h,.int .i64 c.zoom,.int .i64 c.near,.bool c.deep,.int .i64 c.lens,.int .i64 c.focus,.int .i64 t.log,.slice ta t.px.length tc,.slice pa ps.length pc,.slice sa xs.length sc,.int .i64 side])∧ScSm c t side ps xs∧w.heap.size≤lp∧w.heap.size≤hp∧hp≤w'.heap.size∧ScM w.heap.size lp hp w' t (.slice ta t.px.length tc) (.slice pa ps.length pc) (.slice sa xs.length sc) ps xs∧Cur hi w' B∧Gr B w w':=by
 have zB:=hc.lt;have x0:Ext w (w.alloc (.cells #[.int .i64 0,.int .i64 0,.int .i64 0,.int .i64 0,.bool false,.int .i64 0,.int .i64 0,.int .i64 0,.slice none 0 0,.slice none 0 0,.slice none 0 0,.int .i64 0] 31)):=X_;have HQ:=hid (Blk.new w 31 [.int .i64 0,.int .i64 0,.int .i64 0,.int .i64 0,.bool false,.int .i64 0,.int .i64 0,.int .i64 0,.slice none 0 0,.slice none 0 0,.slice none 0 0,.int .i64 0]);have HC0:=hid (hc.ext x0);have HX0:=hid x0;have z1:(w.alloc (.cells #[.int .i64 0,.int .i64 0,.int .i64 0,.int .i64 0,.bool false,.int .i64 0,.int .i64 0,.int .i64 0,.slice none 0 0,.slice none 0 0,.slice none 0 0,.int .i64 0] 31)).heap.size=w.heap.size+1:=World.size_alloc _ _;clear hc x0;go_enter Tryz.func85,Tryz.ntmps85;go_wp2_with fail;refine (l08Draw_any hi B _ HC0.out).mono ?_;rintro e w1 ⟨c,rfl,hcm,C1,G1⟩;have HCM:=hid hcm;clear hcm;go_wp2_with fail;refine (l15Draw_any hi B _ C1).mono ?_;rintro e w2 ⟨tv,t,rfl,OT,okt,C2,G2⟩;obtain ⟨tu,rfl,hlog,o2⟩:=OT;obtain ⟨ta,tc,rfl,tlen⟩:=o2.form;have HOK:=hid okt;have HO2:=hid o2;clear o2 okt tlen;go_wp2_with fail;refine (l01Pick_any hi B w2.heap.size 3 [1,1,2] _ (C2.ext X_) (Blk.new w2 3 [.int .i64 1,.int .i64 1,.int .i64 2]) (by have:=C2.lt;omega) rfl (by decide) (by decide)).mono ?_;rintro e w3 ⟨side,rfl,hside,C3,G3⟩
 have hs2:side=1∨side=2:=by simp at hside;omega
 have gp:Gr B w2 w3:=((Gr.refl B w2).ext (show Ext w2 (w2.alloc (.cells #[.int .i64 1,.int .i64 1,.int .i64 2] 3)) from X_)).trans G3;have GG:=((Gr.refl B w).ext HX0.out).trans (G1.trans (G2.trans gp));have RR:=(G1.trans (G2.trans gp)).blk HQ.out (by omega);have zw1:=G1.size
 have O3:=(HO2.out.kept (w':=w3) (fun k h1 h2=>gp.keep h2 (by omega)))
 have HO3:=hid (O3.low (lo':=w.heap.size) (by omega));have HG:=hid GG;have HR:=hid RR;have HC3:=hid C3;have HSD:=hid hs2;have z3:=GG.size;have l3:=RR.lt;clear C1 G1 C2 G2 C3 G3 gp GG RR hside hs2 HC0 HQ HX0 O3 HO2 zw1;go_upto_region 2 with (show wpList _ _ _ [_] _ _;refine wpList_store_fresh _ _ _ rfl 31 (.tmp 3) (.tmp 13) rfl rfl #[.int .i64 c.w,.int .i64 c.h,.int .i64 c.zoom,.int .i64 c.near,.bool c.deep,.int .i64 c.lens,.int .i64 c.focus,.int .i64 t.log,.slice ta t.px.length tc,.slice none 0 0,.slice none 0 0,.int .i64 side] w3.heap.size rfl rfl rfl (by kernel_rfl) (by kernel_rfl) (by kernel_rfl) ?_)
 obtain ⟨A,hA⟩:∃A,w3.heap.size=A:=⟨_,rfl⟩
 rw [hA];have b4:=Blk.new w3 31 [.int .i64 c.w,.int .i64 c.h,.int .i64 c.zoom,.int .i64 c.near,.bool c.deep,.int .i64 c.lens,.int .i64 c.focus,.int .i64 t.log,.slice ta t.px.length tc,.slice none 0 0,.slice none 0 0,.int .i64 side];have x4:Ext w3 (w3.alloc (.cells #[.int .i64 c.w,.int .i64 c.h,.int .i64 c.zoom,.int .i64 c.near,.bool c.deep,.int .i64 c.lens,.int .i64 c.focus,.int .i64 t.log,.slice ta t.px.length tc,.slice none 0 0,.slice none 0 0,.int .i64 side] 31)):=X_
 have z4:(w3.alloc (.cells #[.int .i64 c.w,.int .i64 c.h,.int .i64 c.zoom,.int .i64 c.near,.bool c.deep,.int .i64 c.lens,.int .i64 c.focus,.int .i64 t.log,.slice ta t.px.length tc,.slice none 0 0,.slice none 0 0,.int .i64 side] 31)).heap.size=A+1:=by rw [World.size_alloc,hA]
 rw [hA] at b4;have HG4:=hid (HG.out.ext x4);have HR4:=hid (HR.out.ext x4);have HC4:=hid (HC3.out.ext x4);have HO4:=hid (HO3.out.ext x4)
 obtain ⟨W4,hW4⟩:∃W,w3.alloc (.cells #[.int .i64 c.w,.int .i64 c.h,.int .i64 c.zoom,.int .i64 c.near,.bool c.deep,.int .i64 c.lens,.int .i64 c.focus,.int .i64 t.log,.slice ta t.px.length tc,.slice none 0 0,.slice none 0 0,.int .i64 side] 31)=W:=⟨_,rfl⟩
 rw [hW4] at HG4 HR4 HC4 HO4 b4 z4 ⊢;have HB4:=hid b4
 have hBA:B<A:=by omega
 have hRA:w.heap.size<A:=by omega
 have hBlo:B<w.heap.size:=zB;have HZ4:=hid z4;clear hW4 x4 HG HR HC3 HO3 hA z3 l3 z4 b4 zB z1;go_wp2_with fail;refine (l01Below_any hi B 2 _ HC4.out (by decide) ⟨by decide,by decide⟩).mono ?_;rintro e w5 ⟨nn,rfl,hnn,C5,G5⟩
 obtain ⟨N,hN⟩:∃N:Nat,1+nn=(N:Int):=⟨(1+nn).toNat,by omega⟩
 have hN12:1≤N∧N≤2:=by omega
 have HB5:=hid (G5.blk HB4.out (by omega));have HR5:=hid (G5.blk HR4.out (by omega));have HC5:=hid C5;have HG5:=hid (HG4.out.trans G5);have HO5:=hid (HO4.out.kept (w':=w5) (fun k h1 h2=>G5.keep h2 (by omega)));have z5:=G5.size
 have z55:A+1≤w5.heap.size:=by have:=HZ4.out;omega
 have HNN:=hid hN;clear C5 G5 HB4 HR4 HC4 HG4 HO4 hN z5;go_wp2_with fail;clear hnn
 go_loopw [4] (fun i wr=>∃(j:Nat) (ps:List Prg) (hp:Nat) (pa:Option Addr) (pc:Nat),i = .int .i64 (j:Nat)∧ps.length+j=N∧(∀p∈ps,p.bd∧p.small∧p.chkB=true)∧A+1≤hp∧Blk wr A 31 [.int .i64 c.w,.int .i64 c.h,.int .i64 c.zoom,.int .i64 c.near,.bool c.deep,.int .i64 c.lens,.int .i64 c.focus,.int .i64 t.log,.slice ta t.px.length tc,.slice pa ps.length pc,.slice none 0 0,.int .i64 side]∧Blk wr w.heap.size 31 [.int .i64 0,.int .i64 0,.int .i64 0,.int .i64 0,.bool false,.int .i64 0,.int .i64 0,.int .i64 0,.slice none 0 0,.slice none 0 0,.slice none 0 0,.int .i64 0]∧OwnInts w.heap.size wr (.slice ta t.px.length tc) t.px∧PRow (A+1) hp wr (.slice pa ps.length pc) ps∧Cur hi wr B∧Gr B w wr) (fun i _=>(intOf i).toNat)
 case atStart=>exact ⟨N,[],A+1,none,0,by rw [HNN.out],by simp,fun p h=>absurd h List.not_mem_nil,Nat.le_refl _,HB5.out,HR5.out,HO5.out,PRow.nil z55,HC5.out,HG5.out⟩
 case round=>
  obtain ⟨j,ps,hp,pa,pc,rfl,hj,hps,hhp,b,r,o,pr,C,G⟩:=hrel;have HB:=hid b;have HR:=hid r;have HO:=hid o;have HP:=hid pr;have HC:=hid C;have HG:=hid G;have HPS:=hid hps;have HJ:=hid hj;have zr:=G.size;clear r o pr C G hps HB5 HR5 HC5 HG5 HO5 hj
  rcases Nat.eq_zero_or_pos j with rfl|hpos
  ·clear b
   go_wp2_with fail;have HB1:=HB;refine (l01Below_any hi B 4 _ HC.out (by decide) ⟨by decide,by decide⟩).mono ?_;rintro e w6 ⟨mm,rfl,hmm,C6,G6⟩
   obtain ⟨M,hM⟩:∃M:Nat,mm=(M:Int):=⟨mm.toNat,by omega⟩
   subst hM
   have hM3:M≤3:=by omega
   have hnp:1≤ps.length∧ps.length≤3:=by have:=HJ.out;omega
   have hnp2:1≤ps.length∧ps.length≤2:=by have:=HJ.out;omega
   have HN:=hid hnp;have HN2:=hid hnp2
   obtain ⟨hq,hhq⟩:∃q,w6.heap.size=q:=⟨_,rfl⟩
   have zw6:=G6.size;have hpw:=HP.out.1;have P6:PRow (A+1) hp w6 (.slice pa ps.length pc) ps:=HP.out.gr G6 (by omega)
   have M6:ScM w.heap.size (A+1) hp w6 t (.slice ta t.px.length tc) (.slice pa ps.length pc) (.slice none 0 0) ps []:=⟨HO.out.kept (fun k h1 h2=>G6.keep h2 (by omega)),P6,OwnG.nil _ _ _ _ _⟩
   have HM6:=hid M6;have HB6:=hid (G6.blk HB.out (by omega));have HR6:=hid (G6.blk HR.out (by omega));have HC6:=hid C6;have HG6:=hid (HG.out.trans G6)
   have hlp:w.heap.size≤A+1:=by omega
   have hhp0:w.heap.size≤hp:=by omega
   clear C6 G6 P6 M6 HB HB1 HR HC HG HO HP hmm hhq hnp hnp2;go_wp2_with fail
   go_loopw [5] (fun i wr=>∃(j:Nat) (xs:List Srf) (sa:Option Addr) (sc:Nat),i = .int .i64 (j:Nat)∧xs.length+j=M∧(∀x∈xs,SrfSm x.f x.g x.sh x.rt ps.length)∧Blk wr w.heap.size 31 [.int .i64 0,.int .i64 0,.int .i64 0,.int .i64 0,.bool false,.int .i64 0,.int .i64 0,.int .i64 0,.slice none 0 0,.slice none 0 0,.slice none 0 0,.int .i64 0]∧Blk wr A 31 [.int .i64 c.w,.int .i64 c.h,.int .i64 c.zoom,.int .i64 c.near,.bool c.deep,.int .i64 c.lens,.int .i64 c.focus,.int .i64 t.log,.slice ta t.px.length tc,.slice pa ps.length pc,.slice sa xs.length sc,.int .i64 side]∧ScM w.heap.size (A+1) hp wr t (.slice ta t.px.length tc) (.slice pa ps.length pc) (.slice sa xs.length sc) ps xs∧Cur hi wr B∧Gr B w wr) (fun i _=>(intOf i).toNat)
   case atStart=>exact ⟨M,[],none,0,rfl,by simp,fun x h=>absurd h List.not_mem_nil,HR6.out,HB6.out,HM6.out,HC6.out,HG6.out⟩
   case round=>
    obtain ⟨j,xs,sa,sc,rfl,hj,hxs0,r,b,m,C,G⟩:=hrel;have HB:=hid b;have HR:=hid r;have HM:=hid m;have HC:=hid C;have HG:=hid G;have HXS0:=hid hxs0;have HL:=hid (show xs.length≤3 by omega);have HJ2:=hid hj;have hAx:A<A+1∨hp≤A:=.inl (by omega);clear r b m C G hxs0 hj HB6 HR6 HC6 HG6 HM6
    rcases Nat.eq_zero_or_pos j with rfl|hpos
    ·have bA:=HB.out.rangeB
     have bR:=HR.out;have zr2:=HG.out.size;have hpz:=HM.out.prg.1;go_wp2_with (first|(show wpList _ _ _ [_,_] _ _;refine wpList_load_mid rfl _ _ rfl A 0 rfl [.int .i64 c.w,.int .i64 c.h,.int .i64 c.zoom,.int .i64 c.near,.bool c.deep,.int .i64 c.lens,.int .i64 c.focus,.int .i64 t.log,.slice ta t.px.length tc,.slice pa ps.length pc,.slice sa xs.length sc,.int .i64 side] _ bA Tryz.underlying31 rfl info_ScnT ?_)|(show wpList _ _ _ [_] _ _;refine wpList_store_rowTo rfl _ _ _ rfl rfl w.heap.size #[.int .i64 c.w,.int .i64 c.h,.int .i64 c.zoom,.int .i64 c.near,.bool c.deep,.int .i64 c.lens,.int .i64 c.focus,.int .i64 t.log,.slice ta t.px.length tc,.slice pa ps.length pc,.slice sa xs.length sc,.int .i64 side] rfl rfl 31 _ bR info_ScnT rfl (by kernel_rfl) ?_));have bF:=Blk.rowB HR.out [.int .i64 c.w,.int .i64 c.h,.int .i64 c.zoom,.int .i64 c.near,.bool c.deep,.int .i64 c.lens,.int .i64 c.focus,.int .i64 t.log,.slice ta t.px.length tc,.slice pa ps.length pc,.slice sa xs.length sc,.int .i64 side];clear bA bR;refine ret_box rfl rfl bF _ Tryz.underlying31 rfl info_ScnT rfl ?_;exact ⟨c,t,side,ps,xs,A+1,hp,ta,tc,pa,pc,sa,sc,rfl,⟨HCM.out,HOK.out,HSD.out,HN2.out,HPS.out,HL.out,HXS0.out⟩,hlp,hhp0,by rw [size_setRowB];exact hpz,HM.out.row HR.out (.inl (by omega)) _,HC.out.rowNew (by omega) _,HG.out.rowNew (Nat.le_refl _) _⟩
    ·have hBlo2:=hBlo
     have hhp:=hhp0
     obtain ⟨j',rfl⟩:∃j',j=j'+1:=⟨j - 1,by omega⟩
     have hj3:j'≤3:=by have:=HJ2.out;omega
     go_upto_region 9 with fail;have b:=HB.out;have c9:=b.cell 9 rfl;have c10:=b.cell 10 rfl;have lA:=b.lt;have zr:=HG.out.size;clear b;refine wp_region_stagesS [([0,1,2,3,4,5],6),([],7),([],8),([9],10)] 10 (fun w'=>∃d,w'=lowc (CBox A) _ d) (by kernel_rfl) (by kernel_rfl) (SC.drew _ _) ?_;refine sc_ fun K hK=>?_;go_wp2_with fail;refine (l20Surf_any hi B ps.length HN.out _ (HC.out.ext (Ext.drew (Ext.refl _)))).mono ?_;rintro e v1 ⟨f,g,sh,rt,rfl,hS,C1,G1⟩;have g1:Gr B wr v1:=((Gr.refl B wr).ext (Ext.drew (Ext.refl _))).trans G1;go_wp2_with fail;refine hK _ _ (.inr (SC.blocks fun a ha=>g1.keep (by rw [ha];exact lA) (by rw [ha];omega))) ?_;clear hK K;have x5:Ext v1 (v1.alloc (.cells #[.int .i64 (f 0),.int .i64 (f 1),.int .i64 (f 2),.int .i64 (f 3),.int .i64 (f 4),.int .i64 (f 5),.int .i64 (f 6),.int .i64 (f 7),.int .i64 (f 8),.int .i64 (f 9),.int .i64 (f 10),.int .i64 (f 11),.int .i64 (g 0),.int .i64 (g 1),.int .i64 (g 2),.int .i64 (g 3),.int .i64 (g 4),.int .i64 (g 5),.int .i64 (g 6),.int .i64 (g 7),.int .i64 (g 8),.int .i64 (g 9),.int .i64 (g 10),.int .i64 (g 11),.int .i64 sh,.int .i64 rt] 42)):=X_;have g5:Gr B wr (v1.alloc (.cells #[.int .i64 (f 0),.int .i64 (f 1),.int .i64 (f 2),.int .i64 (f 3),.int .i64 (f 4),.int .i64 (f 5),.int .i64 (f 6),.int .i64 (f 7),.int .i64 (f 8),.int .i64 (f 9),.int .i64 (f 10),.int .i64 (f 11),.int .i64 (g 0),.int .i64 (g 1),.int .i64 (g 2),.int .i64 (g 3),.int .i64 (g 4),.int .i64 (g 5),.int .i64 (g 6),.int .i64 (g 7),.int .i64 (g 8),.int .i64 (g 9),.int .i64 (g 10),.int .i64 (g 11),.int .i64 sh,.int .i64 rt] 42)):=g1.ext x5;have M5:=(HM.out.gr g1 hBlo hlp hhp).ext x5;have C5:=C1.ext x5;have bE:=Blk.new v1 42 [.int .i64 (f 0),.int .i64 (f 1),.int .i64 (f 2),.int .i64 (f 3),.int .i64 (f 4),.int .i64 (f 5),.int .i64 (f 6),.int .i64 (f 7),.int .i64 (f 8),.int .i64 (f 9),.int .i64 (f 10),.int .i64 (f 11),.int .i64 (g 0),.int .i64 (g 1),.int .i64 (g 2),.int .i64 (g 3),.int .i64 (g 4),.int .i64 (g 5),.int .i64 (g 6),.int .i64 (g 7),.int .i64 (g 8),.int .i64 (g 9),.int .i64 (g 10),.int .i64 (g 11),.int .i64 sh,.int .i64 rt];have b5:=g5.blk HB.out (by omega);have HSS:=hid hS;have HM5:=hid M5;have HC5:=hid C5;have HG5:=hid g5;have HE:=hid bE;have HB5:=hid b5;have z5:=g5.size;clear hS M5 C5 bE b5 C1 G1 x5 g5;refine sc_ fun K hK=>?_;go_wp2_with fail;refine hK _ _ (.inr (SC.blocks fun a ha=>HG5.out.keep (by rw [ha];exact lA) (by rw [ha];omega))) ?_;clear hK K g1;refine sc_ fun K hK=>?_
     refine wpList_append_at Srf.cs 42 26 208 _ _ rfl _ _ 29 rfl Tryz.underlying29 info_SrfT rfl (by decide) (by decide) (fun _=>rfl) hp (.slice sa xs.length sc) xs rfl HM5.out.srf ⟨f,g,sh,rt⟩ v1.heap.size rfl (fun j hj=>by
       have e1:(Srf.cs ⟨f,g,sh,rt⟩)[j]?=some ((Srf.cs ⟨f,g,sh,rt⟩)[j]'(by rw [Srf.cs_len];exact hj)):=List.getElem?_eq_getElem _
       exact (HE.out.cell j e1).trans e1.symm) (Srf.one _) (by have:=HL.out;omega) (by have h1:=HM5.out.prg.1;exact h1) ?_
     intro v2 w2 hown hgr hat
     obtain ⟨xs',hxs⟩:∃xs',xs++[(⟨f,g,sh,rt⟩:Srf)]=xs':=⟨_,rfl⟩
     rw [hxs] at hown;obtain ⟨sa2,sc2,rfl,_⟩:=OwnG.form hown;have hrow:=OwnG.rowS HM5.out.srf
     have b6:=HB5.out.grown hgr (fun e=>by
       obtain ⟨_,cc,hcc⟩:=hrow _ e.symm
       exact HB5.out.neRow hcc (by decide) rfl)
     have HXS:=hid hxs;have HB6:=hid b6;have HM6:=hid (HM5.out.push hgr hown);have HC6:=hid (HC5.out.grown hgr (fun k e=>by have:=(hrow k e).1;omega));have HG6:=hid ((HG.out.trans HG5.out).step hgr (fun k e=>by have:=(hrow k e).1;omega));have HRR:=hid ((HG5.out.blk HR.out (by omega)).grown hgr (fun e=>by have:=(hrow _ e.symm).1;omega))
     have HKP:=hid (show ∀a,CBox A a→w2.heap[a.block]?=wr.heap[a.block]? from fun a ha=>(hgr.block _ (by rw [ha];omega) (fun e=>by
       obtain ⟨_,cc,hcc⟩:=hrow _ e.symm;rw [ha] at hcc
       exact HB5.out.neRow hcc (by decide) rfl)).trans (HG5.out.keep (by rw [ha];exact lA) (by rw [ha];omega)))
     have c10':=b6.cell 10 rfl;have k10:=b6.free 10;have l6:=b6.lt;clear hown hgr hat hrow hxs b6 c9 c10;go_wp2_with fail;refine hK _ _ (.inr (SC.blocks HKP.out)) ?_;clear hK K
     try simp only [Act.put,List.getElem_toArray,List.getElem_cons_succ,List.getElem_cons_zero,List.setIfInBounds_toArray,List.set_cons_succ,List.set_cons_zero]
     refine sc_ fun K hK=>?_;go_wp2_with fail;refine hK _ _ (.inl trivial) ?_;clear hK K;refine wpStagesS_nil ?_;go_wp2;go_roundw
     case rel=>
      refine ⟨j',xs',sa2,sc2,by go_num,?_,?_,?_,HB6.out.set 10 _,HM6.out.set HB6.out hAx 10 _,HC6.out.setNew (by omega) 10 _,HG6.out.setNew (by omega) 10 _⟩
      ·rw [←HXS.out,List.length_append,List.length_singleton]
       have:=HJ2.out;omega
      ·rw [←HXS.out]
       intro y hy
       rcases List.mem_append.1 hy with hy|hy
       ·exact HXS0.out y hy
       ·rw [List.mem_singleton.1 hy]
        exact HSS.out
      ·exact HRR.out.other (by simp only;omega) _
     case measure=>simp [intOf]
  ·have c9:=b.cell 9 rfl
   have lA:=b.lt;have hpw:=HP.out.1;obtain ⟨_,us,hus,hown0,hR0⟩:=HP.out;have HUS:=hid hus;have HOW:=hid hown0;have HR0:=hid hR0;obtain ⟨pa',pc',he,_⟩:=OwnG.form hown0;have HPE:=hid he;clear b hus hown0 hR0 he;go_upto_region 5 with fail;refine wp_region_stagesS [([0,1,2],3),([],4),([],5),([6],7)] 7 (fun w'=>∃d,w'=lowc (CBox A) _ d) (by kernel_rfl) (by kernel_rfl) (SC.drew _ _) ?_;refine sc_ fun K hK=>?_;go_wp2_with fail;have Cd:=HC.out.ext (Ext.drew (Ext.refl wr));refine (l14Good_cur hi B _ Cd).mono ?_;rintro e v1 ⟨p,u,rfl,R1,bd1,sm1,ch1,C1,G1⟩;obtain ⟨na,nc,ga,gc,rfl,-,-⟩:=R1.form;have g1:Gr B wr v1:=((Gr.refl B wr).ext (Ext.drew (Ext.refl _))).trans G1;go_wp2_with fail;refine hK _ _ (.inr (SC.blocks fun a ha=>g1.keep (by rw [ha];exact lA) (by rw [ha];omega))) ?_;clear hK K;have x5:Ext v1 (v1.alloc (.cells #[.slice na p.ns.length nc,.slice ga p.gs.length gc] 132)):=X_;have g5:Gr B wr (v1.alloc (.cells #[.slice na p.ns.length nc,.slice ga p.gs.length gc] 132)):=g1.ext x5;have bE:=Blk.new v1 132 [.slice na p.ns.length nc,.slice ga p.gs.length gc];have b5:=g5.blk HB.out (by omega);have OW5:=OwnG.of (w':=v1.alloc (.cells #[.slice na p.ns.length nc,.slice ga p.gs.length gc] 132)) HOW.out fun b c hb hc=>(g5.keep (Array.getElem?_eq_some_iff.1 hc).1 (by omega)).trans hc;have HP1:=hid (⟨bd1,sm1,ch1⟩:p.bd∧p.small∧p.chkB=true);have HR1:=hid R1;have HX5:=hid x5;have HC5:=hid (C1.ext x5);have HG1:=hid g1;have HG5:=hid g5;have HE:=hid bE;have HB5:=hid b5;have HOW5:=hid OW5;have z5:=g5.size;clear C1 G1 x5 g5 bE b5 OW5 bd1 sm1 ch1 R1;refine sc_ fun K hK=>?_;go_wp2_with fail;refine hK _ _ (.inr (SC.blocks fun a ha=>HG5.out.keep (by rw [ha];exact lA) (by rw [ha];omega))) ?_;clear hK K g1;refine sc_ fun K hK=>?_
   refine wpList_append_at pairCs 132 2 48 _ _ rfl _ _ 28 rfl Tryz.underlying28 info_PrgT rfl (by decide) (by decide) (fun _=>rfl) (A+1) (.slice pa ps.length pc) us rfl HOW5.out (.slice na p.ns.length nc,.slice ga p.gs.length gc) v1.heap.size rfl (fun j hj=>by
     rcases (show j=0∨j=1 by omega) with rfl|rfl
     ·exact HE.out.cell 0 rfl
     ·exact HE.out.cell 1 rfl) (pair_one _ rfl rfl) (by have:=HUS.out;have:=HJ.out;omega) (by omega) ?_
   intro v2 w2 hown hgr hat;obtain ⟨pa2,pc2,he2,_⟩:=OwnG.form hown
   have hl2:(us++[((.slice na p.ns.length nc,.slice ga p.gs.length gc):Value×Value)]).length=(ps++[p]).length:=by simp [HUS.out]
   rw [hl2] at he2;have hrow:=OwnG.rowS HOW5.out;have hvl:∀k,(Value.slice pa ps.length pc).ownBlock=some k→A+1≤k∧k<wr.heap.size:=fun k hk=>HOW.out.lt k hk;have PP:=PRow.push (lo:=A+1) HP.out.1 (by omega) HG1.out (by omega) HR1.out HUS.out HR0.out hvl HX5.out hown hgr hat
   obtain ⟨ps',hps'⟩:∃ps',ps++[p]=ps':=⟨_,rfl⟩
   rw [hps'] at he2 PP;subst he2
   have b6:=HB5.out.grown hgr (fun e=>by
     obtain ⟨_,cc,hcc⟩:=hrow _ e.symm
     exact HB5.out.neRow hcc (by decide) rfl)
   have r6:=(HG5.out.blk HR.out (by omega)).grown hgr (fun e=>by have:=(hrow _ e.symm).1;omega)
   have o6:=(HO.out.kept (fun k h1 h2=>HG5.out.keep h2 (by omega))).grown hgr (fun k hk e=>by
     obtain ⟨_,cc,hcc⟩:=hrow k e.symm;obtain ⟨c',hc'⟩:=(HO.out.kept (fun k h1 h2=>HG5.out.keep h2 (by omega))).block hk;rw [hc'] at hcc;simp only [Option.some.injEq,Obj.cells.injEq] at hcc
     exact absurd hcc.2.1 (by decide))
   have HPP:=hid PP;have HPE2:=hid hps';have HB6:=hid b6;have HR6:=hid r6;have HO6:=hid o6;have HC6:=hid (HC5.out.grown hgr (fun k e=>by have:=(hrow k e).1;omega));have HG6:=hid ((HG.out.trans HG5.out).step hgr (fun k e=>by have:=(hrow k e).1;omega))
   have HKP:=hid (show ∀a,CBox A a→w2.heap[a.block]?=wr.heap[a.block]? from fun a ha=>(hgr.block _ (by rw [ha];omega) (fun e=>by
     obtain ⟨_,cc,hcc⟩:=hrow _ e.symm;rw [ha] at hcc
     exact HB5.out.neRow hcc (by decide) rfl)).trans (HG5.out.keep (by rw [ha];exact lA) (by rw [ha];omega)))
   have hz1:wr.heap.size≤v1.heap.size:=HG1.out.size;have c9':=b6.cell 9 rfl;have k9:=b6.free 9;have l6:=b6.lt;clear hown hgr hat hrow hvl PP hps' b6 r6 o6 c9 hl2;go_wp2_with fail;refine hK _ _ (.inr (SC.blocks HKP.out)) ?_;clear hK K
   try simp only [Act.put,List.getElem_toArray,List.getElem_cons_succ,List.getElem_cons_zero,List.setIfInBounds_toArray,List.set_cons_succ,List.set_cons_zero]
   refine sc_ fun K hK=>?_;go_wp2_with fail;refine hK _ _ (.inl trivial) ?_;clear hK K;refine wpStagesS_nil ?_
   obtain ⟨j',rfl⟩:∃j',j=j'+1:=⟨j - 1,by omega⟩
   have hj3:j'≤3:=by have:=HJ.out;omega
   go_wp2;go_roundw
   case rel=>
    refine ⟨j',ps',v1.heap.size,pa2,pc2,by go_num,?_,?_,by omega,HB6.out.set 9 _,HR6.out.other (by simp only;omega) _,HO6.out.setOther (ints_ne_box HO6.out HB6.out (by decide)) _,HPP.out.set HB6.out (by decide) (.inl (by omega)) 9 _,HC6.out.setNew (by omega) 9 _,HG6.out.setNew (by omega) 9 _⟩
    ·rw [←HPE2.out,List.length_append,List.length_singleton]
     have:=HJ.out;omega
    ·rw [←HPE2.out]
     intro q hq
     rcases List.mem_append.1 hq with hq|hq
     ·exact HPS.out q hq
     ·rw [List.mem_singleton.1 hq]
      exact HP1.out
   case measure=>simp [intOf]
theorem l32Scene_any (hi B:Nat) (w:World) (hc:Cur hi w B):Calls Tryz.prog 33 #[.pointer (some ⟨B,0,none⟩)] w fun e w'=>∃(c:Cam) (t:Tex) (side:Int) (ps:List Prg) (xs:List Srf) (lp hp:Nat) (ta:Option Addr) (tc:Nat) (pa:Option Addr) (pc:Nat) (sa:Option Addr) (sc:Nat),
  e = .returned (.agg #[.int .i64 c.w,.int .i64 c.h,.int .i64 c.zoom,.int .i64 c.near,.bool c.deep,.int .i64 c.lens,.int .i64 c.focus,.int .i64 t.log,.slice ta t.px.length tc,.slice pa ps.length pc,.slice sa xs.length sc,.int .i64 side])∧ScSm c t side ps xs∧1≤xs.length∧w.heap.size≤lp∧w.heap.size≤hp∧hp≤w'.heap.size∧ScM w.heap.size lp hp w' t (.slice ta t.px.length tc) (.slice pa ps.length pc) (.slice sa xs.length sc) ps xs∧Cur hi w' B∧Gr B w w':=by
 have zB:=hc.lt;have x0:Ext w (w.alloc (.cells #[.int .i64 0,.int .i64 0,.int .i64 0,.int .i64 0,.bool false,.int .i64 0,.int .i64 0,.int .i64 0,.slice none 0 0,.slice none 0 0,.slice none 0 0,.int .i64 0] 31)):=X_;have HQ:=hid (Blk.new w 31 [.int .i64 0,.int .i64 0,.int .i64 0,.int .i64 0,.bool false,.int .i64 0,.int .i64 0,.int .i64 0,.slice none 0 0,.slice none 0 0,.slice none 0 0,.int .i64 0]);have HC0:=hid (hc.ext x0);have HX0:=hid x0;have z1:(w.alloc (.cells #[.int .i64 0,.int .i64 0,.int .i64 0,.int .i64 0,.bool false,.int .i64 0,.int .i64 0,.int .i64 0,.slice none 0 0,.slice none 0 0,.slice none 0 0,.int .i64 0] 31)).heap.size=w.heap.size+1:=World.size_alloc _ _;clear hc x0;go_enter Tryz.func33,Tryz.ntmps33;go_wp2_with fail;refine (l20Draw_any hi B _ HC0.out).mono ?_;rintro e w3 ⟨c,t,side,ps,xs0,lp,hp,ta,tc,pa,pc,sa0,sc0,rfl,hsm,hlp0,hhp0,hpw,m3,C3,G3⟩;have GG:=((Gr.refl B w).ext HX0.out).trans G3;have HR3:=hid (G3.blk HQ.out (by omega));have HG3:=hid GG;have HC3:=hid C3;have HM3:=hid (m3.low (lo':=w.heap.size) (by omega));have HSM:=hid hsm;have HN:=hid (show 1≤ps.length∧ps.length≤3 by have:=hsm.n;omega);have z3:=G3.size;have l3:=HR3.out.lt
 have hlps:w.heap.size<lp:=by omega
 have hhps:w.heap.size<hp:=by omega
 have hlp:w.heap.size≤lp:=by omega
 have hhp:w.heap.size≤hp:=by omega
 clear GG G3 C3 m3 hsm HC0 HQ HX0;go_wp2_with (show wpList _ _ _ [_] _ _;refine wpList_store_fresh _ _ _ rfl 31 (.tmp 3) (.tmp 5) rfl rfl #[.int .i64 c.w,.int .i64 c.h,.int .i64 c.zoom,.int .i64 c.near,.bool c.deep,.int .i64 c.lens,.int .i64 c.focus,.int .i64 t.log,.slice ta t.px.length tc,.slice pa ps.length pc,.slice sa0 xs0.length sc0,.int .i64 side] w3.heap.size rfl rfl rfl (by kernel_rfl) (by kernel_rfl) (by kernel_rfl) ?_)
 obtain ⟨A,hA⟩:∃A,w3.heap.size=A:=⟨_,rfl⟩
 rw [hA];have b4:=Blk.new w3 31 [.int .i64 c.w,.int .i64 c.h,.int .i64 c.zoom,.int .i64 c.near,.bool c.deep,.int .i64 c.lens,.int .i64 c.focus,.int .i64 t.log,.slice ta t.px.length tc,.slice pa ps.length pc,.slice sa0 xs0.length sc0,.int .i64 side];have x4:Ext w3 (w3.alloc (.cells #[.int .i64 c.w,.int .i64 c.h,.int .i64 c.zoom,.int .i64 c.near,.bool c.deep,.int .i64 c.lens,.int .i64 c.focus,.int .i64 t.log,.slice ta t.px.length tc,.slice pa ps.length pc,.slice sa0 xs0.length sc0,.int .i64 side] 31)):=X_;rw [hA] at b4;have HG4:=hid (HG3.out.ext x4);have HR4:=hid (HR3.out.ext x4);have HC4:=hid (HC3.out.ext x4);have HM4:=hid (HM3.out.ext x4)
 obtain ⟨W4,hW4⟩:∃W,w3.alloc (.cells #[.int .i64 c.w,.int .i64 c.h,.int .i64 c.zoom,.int .i64 c.near,.bool c.deep,.int .i64 c.lens,.int .i64 c.focus,.int .i64 t.log,.slice ta t.px.length tc,.slice pa ps.length pc,.slice sa0 xs0.length sc0,.int .i64 side] 31)=W:=⟨_,rfl⟩
 rw [hW4] at HG4 HR4 HC4 HM4 b4 ⊢;have HB4:=hid b4
 have hBA:B<A:=by omega
 have hRA:w.heap.size<A:=by omega
 have hBlo:B<w.heap.size:=zB;have hAx:A<lp∨hp≤A:=.inr (by omega);clear hW4 x4 HG3 HR3 HC3 HM3 hA z3 l3 b4 zB z1 hlp0 hhp0 hpw
 go_loopg [] 1 (fun k wr=>∃(xs:List Srf) (sa:Option Addr) (sc:Nat),1≤xs.length+k∧k≤1∧xs.length≤3∧(∀x∈xs,SrfSm x.f x.g x.sh x.rt ps.length)∧Blk wr w.heap.size 31 [.int .i64 0,.int .i64 0,.int .i64 0,.int .i64 0,.bool false,.int .i64 0,.int .i64 0,.int .i64 0,.slice none 0 0,.slice none 0 0,.slice none 0 0,.int .i64 0]∧Blk wr A 31 [.int .i64 c.w,.int .i64 c.h,.int .i64 c.zoom,.int .i64 c.near,.bool c.deep,.int .i64 c.lens,.int .i64 c.focus,.int .i64 t.log,.slice ta t.px.length tc,.slice pa ps.length pc,.slice sa xs.length sc,.int .i64 side]∧ScM w.heap.size lp hp wr t (.slice ta t.px.length tc) (.slice pa ps.length pc) (.slice sa xs.length sc) ps xs∧Cur hi wr B∧Gr B w wr)
 case atStart=>exact ⟨xs0,sa0,sc0,by omega,by omega,HSM.out.m,HSM.out.srf,HR4.out,HB4.out,HM4.out,HC4.out,HG4.out⟩
 case round=>
  obtain ⟨xs,sa,sc,hk1,hk2,hm3,hxs0,r,b,m,C,G⟩:=hrel;have HB:=hid b;have HR:=hid r;have HM:=hid m;have HC:=hid C;have HG:=hid G;have HXS0:=hid hxs0;have HL:=hid hm3;have d10:=b.cell 10 rfl;have ld:=b.lt;clear r b m C G hxs0 HB4 HR4 HC4 HG4 HM4
  rcases Nat.eq_zero_or_pos xs.length with h0|hpos
  ·have hx0:(xs.length:Int)=0:=by omega
   go_upto_region 3 with fail;have H0:=hid h0;clear d10 ld h0 hx0;have b:=HB.out;have c9:=b.cell 9 rfl;have c10:=b.cell 10 rfl;have lA:=b.lt;have zr:=HG.out.size;clear b;refine wp_region_stagesS [([0,1,2,3,4,5],6),([],7),([],8),([9],10)] 10 (fun w'=>∃d,w'=lowc (CBox A) _ d) (by kernel_rfl) (by kernel_rfl) (SC.drew _ _) ?_;refine sc_ fun K hK=>?_;go_wp2_with fail;refine (l20Surf_any hi B ps.length HN.out _ (HC.out.ext (Ext.drew (Ext.refl _)))).mono ?_;rintro e v1 ⟨f,g,sh,rt,rfl,hS,C1,G1⟩;have g1:Gr B wr v1:=((Gr.refl B wr).ext (Ext.drew (Ext.refl _))).trans G1;go_wp2_with fail;refine hK _ _ (.inr (SC.blocks fun a ha=>g1.keep (by rw [ha];exact lA) (by rw [ha];omega))) ?_;clear hK K;have x5:Ext v1 (v1.alloc (.cells #[.int .i64 (f 0),.int .i64 (f 1),.int .i64 (f 2),.int .i64 (f 3),.int .i64 (f 4),.int .i64 (f 5),.int .i64 (f 6),.int .i64 (f 7),.int .i64 (f 8),.int .i64 (f 9),.int .i64 (f 10),.int .i64 (f 11),.int .i64 (g 0),.int .i64 (g 1),.int .i64 (g 2),.int .i64 (g 3),.int .i64 (g 4),.int .i64 (g 5),.int .i64 (g 6),.int .i64 (g 7),.int .i64 (g 8),.int .i64 (g 9),.int .i64 (g 10),.int .i64 (g 11),.int .i64 sh,.int .i64 rt] 42)):=X_;have g5:Gr B wr (v1.alloc (.cells #[.int .i64 (f 0),.int .i64 (f 1),.int .i64 (f 2),.int .i64 (f 3),.int .i64 (f 4),.int .i64 (f 5),.int .i64 (f 6),.int .i64 (f 7),.int .i64 (f 8),.int .i64 (f 9),.int .i64 (f 10),.int .i64 (f 11),.int .i64 (g 0),.int .i64 (g 1),.int .i64 (g 2),.int .i64 (g 3),.int .i64 (g 4),.int .i64 (g 5),.int .i64 (g 6),.int .i64 (g 7),.int .i64 (g 8),.int .i64 (g 9),.int .i64 (g 10),.int .i64 (g 11),.int .i64 sh,.int .i64 rt] 42)):=g1.ext x5;have M5:=(HM.out.gr g1 hBlo hlp hhp).ext x5;have C5:=C1.ext x5;have bE:=Blk.new v1 42 [.int .i64 (f 0),.int .i64 (f 1),.int .i64 (f 2),.int .i64 (f 3),.int .i64 (f 4),.int .i64 (f 5),.int .i64 (f 6),.int .i64 (f 7),.int .i64 (f 8),.int .i64 (f 9),.int .i64 (f 10),.int .i64 (f 11),.int .i64 (g 0),.int .i64 (g 1),.int .i64 (g 2),.int .i64 (g 3),.int .i64 (g 4),.int .i64 (g 5),.int .i64 (g 6),.int .i64 (g 7),.int .i64 (g 8),.int .i64 (g 9),.int .i64 (g 10),.int .i64 (g 11),.int .i64 sh,.int .i64 rt];have b5:=g5.blk HB.out (by omega);have HSS:=hid hS;have HM5:=hid M5;have HC5:=hid C5;have HG5:=hid g5;have HE:=hid bE;have HB5:=hid b5;have z5:=g5.size;clear hS M5 C5 bE b5 C1 G1 x5 g5;refine sc_ fun K hK=>?_;go_wp2_with fail;refine hK _ _ (.inr (SC.blocks fun a ha=>HG5.out.keep (by rw [ha];exact lA) (by rw [ha];omega))) ?_;clear hK K g1;refine sc_ fun K hK=>?_
   refine wpList_append_at Srf.cs 42 26 208 _ _ rfl _ _ 29 rfl Tryz.underlying29 info_SrfT rfl (by decide) (by decide) (fun _=>rfl) hp (.slice sa xs.length sc) xs rfl HM5.out.srf ⟨f,g,sh,rt⟩ v1.heap.size rfl (fun j hj=>by
     have e1:(Srf.cs ⟨f,g,sh,rt⟩)[j]?=some ((Srf.cs ⟨f,g,sh,rt⟩)[j]'(by rw [Srf.cs_len];exact hj)):=List.getElem?_eq_getElem _
     exact (HE.out.cell j e1).trans e1.symm) (Srf.one _) (by have:=HL.out;omega) (by have h1:=HM5.out.prg.1;exact h1) ?_
   intro v2 w2 hown hgr hat
   obtain ⟨xs',hxs⟩:∃xs',xs++[(⟨f,g,sh,rt⟩:Srf)]=xs':=⟨_,rfl⟩
   rw [hxs] at hown;obtain ⟨sa2,sc2,rfl,_⟩:=OwnG.form hown;have hrow:=OwnG.rowS HM5.out.srf
   have b6:=HB5.out.grown hgr (fun e=>by
     obtain ⟨_,cc,hcc⟩:=hrow _ e.symm
     exact HB5.out.neRow hcc (by decide) rfl)
   have HXS:=hid hxs;have HB6:=hid b6;have HM6:=hid (HM5.out.push hgr hown);have HC6:=hid (HC5.out.grown hgr (fun k e=>by have:=(hrow k e).1;omega));have HG6:=hid ((HG.out.trans HG5.out).step hgr (fun k e=>by have:=(hrow k e).1;omega));have HRR:=hid ((HG5.out.blk HR.out (by omega)).grown hgr (fun e=>by have:=(hrow _ e.symm).1;omega))
   have HKP:=hid (show ∀a,CBox A a→w2.heap[a.block]?=wr.heap[a.block]? from fun a ha=>(hgr.block _ (by rw [ha];omega) (fun e=>by
     obtain ⟨_,cc,hcc⟩:=hrow _ e.symm;rw [ha] at hcc
     exact HB5.out.neRow hcc (by decide) rfl)).trans (HG5.out.keep (by rw [ha];exact lA) (by rw [ha];omega)))
   have c10':=b6.cell 10 rfl;have k10:=b6.free 10;have l6:=b6.lt;clear hown hgr hat hrow hxs b6 c9 c10;go_wp2_with fail;refine hK _ _ (.inr (SC.blocks HKP.out)) ?_;clear hK K
   try simp only [Act.put,List.getElem_toArray,List.getElem_cons_succ,List.getElem_cons_zero,List.setIfInBounds_toArray,List.set_cons_succ,List.set_cons_zero]
   refine sc_ fun K hK=>?_;go_wp2_with fail;refine hK _ _ (.inl trivial) ?_;clear hK K;refine wpStagesS_nil ?_;go_wp2
   go_roundg 0
   case measure=>
    have:=H0.out;omega
   case rel=>
    refine ⟨xs',sa2,sc2,?_,by omega,?_,?_,?_,HB6.out.set 10 _,HM6.out.set HB6.out hAx 10 _,HC6.out.setNew (by omega) 10 _,HG6.out.setNew (by omega) 10 _⟩
    ·rw [←HXS.out,List.length_append,List.length_singleton]
     omega
    ·rw [←HXS.out,List.length_append,List.length_singleton]
     have:=H0.out;omega
    ·rw [←HXS.out]
     intro y hy
     rcases List.mem_append.1 hy with hy|hy
     ·exact HXS0.out y hy
     ·rw [List.mem_singleton.1 hy]
      exact HSS.out
    ·exact HRR.out.other (by simp only;omega) _
  ·have hx0 : ¬(xs.length:Int)=0:=by omega
   have bA:=HB.out.rangeB;have bR:=HR.out;have zr2:=HG.out.size;have hpz:=HM.out.prg.1;go_wp2_with (first|(show wpList _ _ _ [_,_] _ _;refine wpList_load_mid rfl _ _ rfl A 0 rfl [.int .i64 c.w,.int .i64 c.h,.int .i64 c.zoom,.int .i64 c.near,.bool c.deep,.int .i64 c.lens,.int .i64 c.focus,.int .i64 t.log,.slice ta t.px.length tc,.slice pa ps.length pc,.slice sa xs.length sc,.int .i64 side] _ bA Tryz.underlying31 rfl info_ScnT ?_)|(show wpList _ _ _ [_] _ _;refine wpList_store_rowTo rfl _ _ _ rfl rfl w.heap.size #[.int .i64 c.w,.int .i64 c.h,.int .i64 c.zoom,.int .i64 c.near,.bool c.deep,.int .i64 c.lens,.int .i64 c.focus,.int .i64 t.log,.slice ta t.px.length tc,.slice pa ps.length pc,.slice sa xs.length sc,.int .i64 side] rfl rfl 31 _ bR info_ScnT rfl (by kernel_rfl) ?_));have bF:=Blk.rowB HR.out [.int .i64 c.w,.int .i64 c.h,.int .i64 c.zoom,.int .i64 c.near,.bool c.deep,.int .i64 c.lens,.int .i64 c.focus,.int .i64 t.log,.slice ta t.px.length tc,.slice pa ps.length pc,.slice sa xs.length sc,.int .i64 side];clear bA bR;refine ret_box rfl rfl bF _ Tryz.underlying31 rfl info_ScnT rfl ?_;have hs:=HSM.out;exact ⟨c,t,side,ps,xs,lp,hp,ta,tc,pa,pc,sa,sc,rfl,⟨hs.c,hs.t,hs.side,hs.n,hs.prg,HL.out,HXS0.out⟩,hpos,hlp,hhp,by rw [size_setRowB];exact hpz,HM.out.row HR.out (.inl (by omega)) _,HC.out.rowNew (by omega) _,HG.out.rowNew (Nat.le_refl _) _⟩
section
open Go.ChangeShapes Go.WideShapes Go.ChangeAt Go.RowKit
section
variable {H : Type} {enc : TypeId × Value → H} {W : World} {base b0 : Nat} {sp : Nat → Bool} {held : Bool}
end
end
section
open Go.ChangeShapes Go.WideShapes Go.ChangeAt Go.RowKit
section
variable {H : Type} {enc : TypeId × Value → H} {W : World} {base b0 : Nat} {sp : Nat → Bool} {held : Bool}
theorem wf_U8 {n:Int} (h:(Lit.int .u8 n).wf=true):0≤n∧n≤255:=by
 simp [Lit.wf,IntKind.min,IntKind.max,IntKind.signed,IntKind.bits] at h;omega
theorem cellByts {fuel:Nat} {c:Value} {y:DataW H×List MemPlace} (h:DataW.trod enc Tryz.prog W base sp held fuel 22 [c]=some y):∃n,Byts W.heap.size W c n:=by
 rcases open_ints Tryz.underlying22 Tryz.underlying5 (by kernel_rfl) h with ⟨hcs,_⟩|⟨a,len,cap,zs,hcs,_,hl,hm,hz,_,hcell,hwz⟩
 ·obtain rfl:c = .slice none 0 0:=by simpa using hcs
  exact ⟨0,none,0,rfl,Nat.le_refl _,by unfold maxLen;omega,fun i hx=>by omega⟩
 ·obtain rfl:c = .slice (some a) len cap:=by simpa using hcs
  refine ⟨len,some a,cap,rfl,by omega,hm,fun i hi=>?_⟩
  have hlz:len≤zs.length:=by rw [hz];split <;> omega
  have hzi:i<zs.length:=by omega
  obtain ⟨b,o,s⟩:=a
  obtain rfl:s=none:=by
   cases s with
   | none=>rfl
   | some s=>
    have h0:=hcell 0 (by omega);simp only [World.cell?,Addr.add,if_true] at h0
    split at h0 <;> simp at h0
  have hc:=hcell i hzi
  have ha:(⟨b,o,none⟩:Addr).add i=⟨b,o+i,none⟩:=by
   unfold Addr.add
   split
   ·rename_i e;subst e;rfl
   ·rfl
  rw [ha] at hc;have hw:=wf_U8 (hwz (zs.getD i 0) (by rw [List.getD_eq_getElem?_getD,List.getElem?_eq_getElem hzi];exact List.getElem_mem hzi));refine ⟨b,o,zs.getD i 0,rfl,?_,hw.1,hw.2,hc⟩;simp only [World.cell?] at hc
  split at hc
  ·rename_i e;exact (Array.getElem?_eq_some_iff.1 e).1
  ·cases hc
theorem argByts {v:Value} {d:DataW H} {p:List MemPlace} (hv:Value.okWide Tryz.prog W .any b0 22 v) (h:DataW.Trod enc Tryz.prog W base sp held 22 v d p):∃n,Byts W.heap.size W v n:=by
 obtain ⟨a,len,cap,rfl⟩:=okWide_slice Tryz.underlying22 hv;obtain ⟨fuel,hf⟩:=h;exact cellByts hf
end
end
theorem patB_cg {f g:Nat→Int} (h:∀j,j<12→f j=g j):patB f=patB g:=by
 unfold patB;rw [h 0 (by decide),h 1 (by decide),h 2 (by decide),h 3 (by decide),h 4 (by decide),h 5 (by decide),h 6 (by decide),h 7 (by decide),h 8 (by decide),h 9 (by decide),h 10 (by decide),h 11 (by decide)]
theorem nearP_cg {f g:Nat→Int} (h:∀j,j<12→f j=g j):nearP f=nearP g:=by
 unfold nearP;rw [h 2 (by decide),h 5 (by decide),h 8 (by decide),h 11 (by decide)]
def scnOf (c:Cam) (t:Tex) (side:Int) (ps:List Prg) (xs:List Srf):Scn:=⟨c,t,ps,xs.length,srfF xs,side⟩
section
variable {c : Cam} {t : Tex} {side : Int} {ps : List Prg} {xs : List Srf} {k : Nat} {x : Srf}
theorem scnOf_st (h:xs[k]?=some x):∀j,j<12→(scnOf c t side ps xs).st k j=x.f j:=fun j hj=>by
 show srfF xs (k*26+j)=_
 rw [srfF_at h (by omega)]
 rcases twelve1 hj with e|e|e|e|e|e|e|e|e|e|e|e <;> subst e <;> rfl
theorem scnOf_en (h:xs[k]?=some x):∀j,j<12→(scnOf c t side ps xs).en k j=x.g j:=fun j hj=>by
 show srfF xs (k*26+12+j)=_
 rw [Nat.add_assoc,srfF_at h (by omega)]
 rcases twelve1 hj with e|e|e|e|e|e|e|e|e|e|e|e <;> subst e <;> rfl
theorem scnOf_sh (h:xs[k]?=some x):(scnOf c t side ps xs).sh k=x.sh:=by
 show srfF xs (k*26+24)=_
 rw [srfF_at h (by decide)]
 rfl
theorem scnOf_rt (h:xs[k]?=some x):(scnOf c t side ps xs).rt k=x.rt:=by
 show srfF xs (k*26+25)=_
 rw [srfF_at h (by decide)]
 rfl
end
theorem PtSm.i64 {f:Nat→Int} (h:PtSm f) (j:Nat):I64 (f j):=by have:=h.bd j;exact ⟨by omega,by omega⟩
theorem SrfSm.I {x:Srf} {n:Nat} (h:SrfSm x.f x.g x.sh x.rt n) (hn:n≤1000):x.I:=by
 intro y hy;have h1:=h.sh;have h2:=h.rt;simp only [Srf.ls,List.mem_cons,List.not_mem_nil,or_false] at hy;have a:∀{j:Nat},y=x.f j→I64 y:=fun e=>e▸h.f.i64 _;have b:∀{j:Nat},y=x.g j→I64 y:=fun e=>e▸h.g.i64 _
 rcases hy with e|e|e|e|e|e|e|e|e|e|e|e|e|e|e|e|e|e|e|e|e|e|e|e|e|e
 ·exact a e
 ·exact a e
 ·exact a e
 ·exact a e
 ·exact a e
 ·exact a e
 ·exact a e
 ·exact a e
 ·exact a e
 ·exact a e
 ·exact a e
 ·exact a e
 ·exact b e
 ·exact b e
 ·exact b e
 ·exact b e
 ·exact b e
 ·exact b e
 ·exact b e
 ·exact b e
 ·exact b e
 ·exact b e
 ·exact b e
 ·exact b e
 ·rw [e];exact ⟨by omega,by omega⟩
 ·rw [e];exact ⟨by omega,by omega⟩
structure Scn.Drawn (s:Scn):Prop where
 ok:s.Ok
 small:s.small
 cam:s.c.Sm
 side:s.side=1∨s.side=2
 m:s.m≤3
 n:s.ps.length≤2
 rt:∀k,k<s.m→s.rt k=1∨s.rt k=2∨s.rt k=4
 near:∀k,k<s.m→60≤s.near k
theorem ScSm.drawn {c:Cam} {t:Tex} {side:Int} {ps:List Prg} {xs:List Srf} (h:ScSm c t side ps xs):(scnOf c t side ps xs).Drawn:=by
 have at_:∀k,k<xs.length→∃x,xs[k]?=some x∧SrfSm x.f x.g x.sh x.rt ps.length:=fun k hk=>⟨xs[k],List.getElem?_eq_getElem hk,h.srf _ (List.getElem_mem hk)⟩
 have hn:=h.n;have hm:=h.m;refine ⟨⟨Cam.okB_iff.1 h.c.okB,h.c.okB,Tex.okB_iff.2 h.t,⟨hn.1,by show ps.length≤3;omega⟩,by show xs.length≤5;omega,by have:=h.side;show side=1∨side=2∨side=4;omega,fun p hp=>(h.prg p hp).2.2,fun k hk=>?_⟩,fun p hp=>⟨(h.prg p hp).1,(h.prg p hp).2.1⟩,h.c,h.side,hm,hn.2,fun k hk=>?_,fun k hk=>?_⟩
 ·obtain ⟨x,hx,hs⟩:=at_ k hk
  have e:=hs.ok;unfold Scn.srfB srfB;unfold srfB at e;rw [patB_cg (scnOf_st hx),patB_cg (scnOf_en hx),scnOf_sh hx,scnOf_rt hx];exact e
 ·obtain ⟨x,hx,hs⟩:=at_ k hk
  rw [scnOf_rt hx];exact hs.rt
 ·obtain ⟨x,hx,hs⟩:=at_ k hk
  have e:=hs.near;unfold Scn.near nearS;unfold nearS at e;rw [nearP_cg (scnOf_st hx),nearP_cg (scnOf_en hx)];exact e
theorem ScM.reads {lo lp hp:Nat} {w:World} {c:Cam} {t:Tex} {side:Int} {ps:List Prg} {xs:List Srf} {ta:Option Addr} {tc:Nat} {pa:Option Addr} {pc:Nat} {sa:Option Addr} {sc:Nat}
  (h:ScM lo lp hp w t (.slice ta t.px.length tc) (.slice pa ps.length pc) (.slice sa xs.length sc) ps xs) (hs:ScSm c t side ps xs) (h1:lo≤lp) (h2:lo≤hp):(scnOf c t side ps xs).R lo w.heap.size w (.agg #[.int .i64 c.w,.int .i64 c.h,.int .i64 c.zoom,.int .i64 c.near,.bool c.deep,.int .i64 c.lens,.int .i64 c.focus,.int .i64 t.log,.slice ta t.px.length tc,.slice pa ps.length pc,.slice sa xs.length sc,.int .i64 side]):=by
 have hc:=hs.c;have hcw:=hc.w;have hch:=hc.h;have hcz:=hc.zoom;have hcn:=hc.near;have hcl:=hc.lens;have hcf:=hc.focus;have hsd:=hs.side;have hn:=hs.n;have t0:=hs.t.log0;have t4:=hs.t.log4;refine ⟨_,_,_,rfl,⟨⟨by show -9223372036854775808≤c.w;omega,by show c.w≤_;omega⟩,⟨by show -9223372036854775808≤c.h;omega,by show c.h≤_;omega⟩,⟨by show -9223372036854775808≤c.zoom;omega,by show c.zoom≤_;omega⟩,⟨by show -9223372036854775808≤c.near;omega,by show c.near≤_;omega⟩,⟨by show -9223372036854775808≤c.lens;omega,by show c.lens≤_;omega⟩,⟨by show -9223372036854775808≤c.focus;omega,by show c.focus≤_;omega⟩⟩,⟨by show -9223372036854775808≤t.log;omega,by show t.log≤_;omega⟩,⟨by show -9223372036854775808≤side;omega,by show side≤_;omega⟩,h.tex.ints,?_,?_⟩
 ·obtain ⟨a,cap,k1,k2,k3,k4⟩:=h.prg.prgs
  refine ⟨a,cap,k1,k2,k3,fun k p hp=>?_⟩;obtain ⟨b,off,u1,u2,e1,e2,e3,e4,e5,e6⟩:=k4 k p hp;exact ⟨b,off,u1,u2,e1,by omega,e3,e4,e5,e6.low h1 (Nat.le_refl _)⟩
 ·exact (OwnG.flatsS h.srf fun x hx=>(hs.srf x hx).I (by omega)).wide h2 (Nat.le_refl _)
theorem MakeScene_any (hi:Nat) (v:Value) (n:Nat) (w:World) (hv:Byts hi w v n) (hh:hi≤w.heap.size) (hn:n≤1048576) :
  Calls Tryz.prog 8 #[v] w fun e w'=>∃(s:Scn) (u:Value),e = .returned u∧s.R w.heap.size w'.heap.size w' u∧s.Drawn∧1≤s.m∧Ext w w':=by
 have HV:=hid hv;obtain ⟨a,cap,rfl,k1,k2⟩:=hv.open;clear hv;have HQ:=hid (Blk.new w 31 [.int .i64 0,.int .i64 0,.int .i64 0,.int .i64 0,.bool false,.int .i64 0,.int .i64 0,.int .i64 0,.slice none 0 0,.slice none 0 0,.slice none 0 0,.int .i64 0]);have x0:Ext w (w.alloc (.cells #[.int .i64 0,.int .i64 0,.int .i64 0,.int .i64 0,.bool false,.int .i64 0,.int .i64 0,.int .i64 0,.slice none 0 0,.slice none 0 0,.slice none 0 0,.int .i64 0] 31)):=X_;have HX0:=hid x0;have z1:(w.alloc (.cells #[.int .i64 0,.int .i64 0,.int .i64 0,.int .i64 0,.bool false,.int .i64 0,.int .i64 0,.int .i64 0,.slice none 0 0,.slice none 0 0,.slice none 0 0,.int .i64 0] 31)).heap.size=w.heap.size+1:=World.size_alloc _ _;clear x0;go_enter Tryz.func8,Tryz.ntmps8;go_wp2_with fail;refine (l01New_any hi _ n _ (HV.out.ext hh HX0.out) (by omega) hn).mono ?_;rintro e w1 ⟨B,rfl,hB,C1,x1⟩;go_wp2_with fail;refine (l32Scene_any hi B _ C1).mono ?_;rintro e w2 ⟨c,t,side,ps,xs,lp,hp,ta,tc,pa,pc,sa,sc,rfl,hsm,hm1,hlp,hhp,hpw,m2,C2,G2⟩;have z1':=x1.size;have R0:=G2.blk (HQ.out.ext x1) (by omega);have M2:=hid (m2.low (lo':=w.heap.size) (by omega));have HE:=hid (G2.up (HX0.out.trans x1) (by omega));have HSM:=hid hsm;have HR0:=hid R0
 have hl:w.heap.size<lp:=by omega
 clear m2 C2 G2 C1 x1 hsm;go_wp2_with (show wpList _ _ _ [_] _ _;refine wpList_store_rowTo rfl _ _ _ rfl rfl w.heap.size #[.int .i64 c.w,.int .i64 c.h,.int .i64 c.zoom,.int .i64 c.near,.bool c.deep,.int .i64 c.lens,.int .i64 c.focus,.int .i64 t.log,.slice ta t.px.length tc,.slice pa ps.length pc,.slice sa xs.length sc,.int .i64 side] rfl rfl 31 _ R0 info_ScnT rfl (by kernel_rfl) ?_);have bF:=Blk.rowB HR0.out [.int .i64 c.w,.int .i64 c.h,.int .i64 c.zoom,.int .i64 c.near,.bool c.deep,.int .i64 c.lens,.int .i64 c.focus,.int .i64 t.log,.slice ta t.px.length tc,.slice pa ps.length pc,.slice sa xs.length sc,.int .i64 side];clear R0;refine ret_box rfl rfl bF _ Tryz.underlying31 rfl info_ScnT rfl ?_;refine ⟨scnOf c t side ps xs,_,rfl,(M2.out.row HR0.out (.inl hl) _).reads HSM.out (by omega) (by omega),HSM.out.drawn,hm1,HE.out.setRowB (Nat.le_refl _) _⟩
def smpK (i j:Int) (side k:Nat):Smp:=
 ⟨i*16+((k % side:Nat):Int)*((16 / side:Nat):Int)+hashI [i,j,(k:Int),1] % ((16 / side:Nat):Int),j*16+((k / side:Nat):Int)*((16 / side:Nat):Int)+hashI [i,j,(k:Int),2] % ((16 / side:Nat):Int),
  hashI [i,j,(k:Int),3] % 16,hashI [i,j,(k:Int),4] % 33 - 16,hashI [i,j,(k:Int),5] % 33 - 16⟩
def pixS (i j:Int) (side:Nat):List Smp:=(List.range (side*side)).map (smpK i j side)
theorem pixS_length (i j:Int) (side:Nat):(pixS i j side).length=side*side:=by unfold pixS;simp
theorem smpK_at {i j:Int} {side k:Nat} (hs:side=1∨side=2∨side=4) (hk:k<side*side) :
  (i*16≤(smpK i j side k).x∧(smpK i j side k).x≤i*16+15)∧(j*16≤(smpK i j side k).y∧(smpK i j side k).y≤j*16+15)∧(0≤(smpK i j side k).t∧(smpK i j side k).t≤15) ∧
   (-16≤(smpK i j side k).lx∧(smpK i j side k).lx≤16)∧(-16≤(smpK i j side k).ly∧(smpK i j side k).ly≤16):=by
 have h1:k % side<side:=Nat.mod_lt _ (by omega);have h2:k / side<side:=Nat.div_lt_of_lt_mul hk;unfold smpK;simp only;generalize k % side=a at h1 ⊢;generalize k / side=b at h2 ⊢;generalize hashI [i,j,(k:Int),1]=p1;generalize hashI [i,j,(k:Int),2]=p2;generalize hashI [i,j,(k:Int),3]=p3;generalize hashI [i,j,(k:Int),4]=p4;generalize hashI [i,j,(k:Int),5]=p5
 rcases hs with rfl|rfl|rfl
 ·simp only [Nat.div_one];omega
 ·simp only [Nat.reduceDiv];omega
 ·simp only [Nat.reduceDiv];omega
theorem smpK_ok {c:Cam} (hc:c.okB=true) {i j:Int} {side k:Nat} (hi:0≤i∧i<c.w) (hj:0≤j∧j<c.h) (hs:side=1∨side=2∨side=4) (hk:k<side*side):Smp.okB c (smpK i j side k)=true:=by
 obtain ⟨a,b,d,e,f⟩:=smpK_at (i:=i) (j:=j) hs hk;unfold Smp.okB;simp only [Bool.and_eq_true,inB_iff];exact ⟨⟨⟨⟨⟨hc,by omega⟩,by omega⟩,by omega⟩,by omega⟩,by omega⟩
structure Stp where
 (d w:Int)
def Stp.cs (x:Stp):List Value:=[.int .i64 x.d,.int .i64 x.w]
theorem sIsValidCamera_any (c:Cam) (w:World):Calls Tryz.prog 122 #[c.V] w fun e w'=>e = .returned (.bool c.okB)∧Ext w w':=by
 obtain ⟨cw,ch,zo,ne,de,le,fo⟩:=c
 obtain ⟨b1,h1⟩:∃b,inB cw 1 12=b:=⟨_,rfl⟩
 obtain ⟨b2,h2⟩:∃b,inB ch 1 12=b:=⟨_,rfl⟩
 obtain ⟨b3,h3⟩:∃b,inB zo 1 65536=b:=⟨_,rfl⟩
 obtain ⟨b4,h4⟩:∃b,inB ne 1 1000000=b:=⟨_,rfl⟩
 obtain ⟨b5,h5⟩:∃b,inB le 0 64=b:=⟨_,rfl⟩
 obtain ⟨b6,h6⟩:∃b,inB fo 0 1000000=b:=⟨_,rfl⟩
 have e:(Cam.mk cw ch zo ne de le fo).okB=(b1&&b2&&b3&&b4&&b5&&b6):=by unfold Cam.okB;simp only [h1,h2,h3,h4,h5,h6]
 rw [e];have H1:=hid h1;have H2:=hid h2;have H3:=hid h3;have H4:=hid h4;have H5:=hid h5;have H6:=hid h6;clear h1 h2 h3 h4 h5 h6 e
 show Calls Tryz.prog 122 #[.agg #[.int .i64 cw,.int .i64 ch,.int .i64 zo,.int .i64 ne,.bool de,.int .i64 le,.int .i64 fo]] w _
 cases b1
 rotate_left
 cases b2
 rotate_left
 cases b3
 rotate_left
 cases b4
 rotate_left
 cases b5
 rotate_left
 cases b6
 all_goals
  go_enter Tryz.func122,Tryz.ntmps122;go_wp2_with (go_at_call 70;with_reducible first|(refine (l01In_val H1.out _).mono ?_;rintro e w1 ⟨rfl,rfl⟩)|(refine (l01In_val H2.out _).mono ?_;rintro e w1 ⟨rfl,rfl⟩)|(refine (l01In_val H3.out _).mono ?_;rintro e w1 ⟨rfl,rfl⟩)|(refine (l01In_val H4.out _).mono ?_;rintro e w1 ⟨rfl,rfl⟩)|(refine (l01In_val H5.out _).mono ?_;rintro e w1 ⟨rfl,rfl⟩)|(refine (l01In_val H6.out _).mono ?_;rintro e w1 ⟨rfl,rfl⟩));go_ret;exact ⟨rfl,X_⟩
theorem sIsValidCamera_val {c:Cam} {b:Bool} (h:c.okB=b) (w:World):Calls Tryz.prog 122 #[c.V] w fun e w'=>e = .returned (.bool b)∧Ext w w':=h▸sIsValidCamera_any c w
theorem ints4 {w:World} {g:Nat} {a b c d:Int} (h:Blk w g 3 [.int .i64 a,.int .i64 b,.int .i64 c,.int .i64 d]) (hi:∀y∈[a,b,c,d],I64 y):Ints 0 w.heap.size w (.slice (some ⟨g,0,none⟩) 4 4) [a,b,c,d]:=
 ⟨_,4,rfl,Nat.le_refl _,by unfold maxLen;omega,fun i y hy=>⟨hi y (List.mem_of_getElem? hy),g,0,rfl,Nat.zero_le _,h.lt,by
  rw [Nat.zero_add];have e:=congrArg (Option.map (Value.int .i64)) hy;rw [←List.getElem?_map] at e
  exact h.cell i e⟩⟩
theorem sHashRange_val (lo hi:Nat) (u:Value) (xs:List Int) (n:Int) (w:World) (hu:Ints lo hi w u xs) (hn:1≤n∧n≤1000000) {r:Int} (hr:hashI xs % n=r) :
  Calls Tryz.prog 145 #[u,.int .i64 n] w fun e w'=>e = .returned (.int .i64 r)∧w=w':=by
 have HU:=hid hu;have HR:=hid hr;obtain ⟨a,cap,rfl,-⟩:=hu.open;have hb:=hashI_range xs
 obtain ⟨h,hh⟩:∃h,hashI xs=h:=⟨_,rfl⟩
 rw [hh] at hb hr;have HH:=hid hh;have HR2:=hid hr;clear hu hr hh HR;go_enter Tryz.func145,Tryz.ntmps145;go_wp2_with fail;refine (sHashInts_any lo hi _ xs _ HU.out).mono ?_;rw [HH.out];rintro e w1 ⟨rfl,rfl⟩;go_wp2;go_ret;exact ⟨ret_int HR2.out,rfl⟩
theorem info_SmpT:(Tryz.prog.info? 34).map (fun i=>(i.zero,i.size,i.bytes))=some (some (.agg #[.int .i64 0,.int .i64 0,.int .i64 0,.int .i64 0,.int .i64 0]),5,40):=by kernel_rfl
theorem info_SmpS:(Tryz.prog.info? 34).map (fun i=>i.size)=some 5:=by kernel_rfl
theorem Smp.one (x:Smp):∀u∈x.cs,u.oneCell'=true:=by
 intro u hu;simp only [Smp.cs,List.mem_cons,List.not_mem_nil,or_false] at hu
 rcases hu with rfl|rfl|rfl|rfl|rfl <;> rfl
theorem smpK_eq {i j:Int} {side q r:Nat} (hq:q<side) {s p1 p2 p3 p4 p5:Int} (hs:((16 / side:Nat):Int)=s) (h1:hashI [i,j,((r*side+q:Nat):Int),1] % s=p1) (h2:hashI [i,j,((r*side+q:Nat):Int),2] % s=p2)
  (h3:hashI [i,j,((r*side+q:Nat):Int),3] % 16=p3) (h4:hashI [i,j,((r*side+q:Nat):Int),4] % 33=p4) (h5:hashI [i,j,((r*side+q:Nat):Int),5] % 33=p5) :
  smpK i j side (r*side+q)=⟨i*16+(q:Int)*s+p1,j*16+(r:Int)*s+p2,p3,p4 - 16,p5 - 16⟩:=by
 have e1:(r*side+q) % side=q:=by rw [Nat.add_comm,Nat.add_mul_mod_self_right,Nat.mod_eq_of_lt hq]
 have e2:(r*side+q) / side=r:=by rw [Nat.add_comm,Nat.add_mul_div_right _ _ (by omega),Nat.div_eq_of_lt hq,Nat.zero_add]
 unfold smpK;rw [e1,e2,hs,h1,h2,h3,h4,h5]
theorem OwnG.freshS {α : Type} {cs : α→List Value} {lo g:Nat} {e:TypeId} {sz:Nat} {w:World} (hl:lo≤g) (h:Blk w g e []):OwnG cs lo e sz w (.slice (some ⟨g,0,none⟩) 0 0) []:=
 ⟨by simp,.inr ⟨g,0,#[],rfl,hl,h,Nat.le_refl _,by unfold maxLen;omega,by simp,by simp⟩⟩
theorem range_snoc {α : Type} (f:Nat→α) (n:Nat):(List.range (n+1)).map f=(List.range n).map f++[f n]:=by rw [List.range_succ,List.map_append,List.map_singleton]
theorem sPixelSamples_any (c:Cam) (hc:c.okB=true) (i j:Int) (hi:0≤i∧i<c.w) (hj:0≤j∧j<c.h) (sd:Nat) (hs:sd=1∨sd=2∨sd=4) (w:World) :
  Calls Tryz.prog 87 #[.agg #[.int .i64 c.w,.int .i64 c.h,.int .i64 c.zoom,.int .i64 c.near,.bool c.deep,.int .i64 c.lens,.int .i64 c.focus],.int .i64 i,.int .i64 j,.int .i64 (sd:Nat)] w fun e w'=>∃r,e = .returned r∧OwnG Smp.cs w.heap.size 34 5 w' r (pixS i j sd)∧Ext w w':=by
 have HC:=hid hc;have hw:=(Cam.okB_iff.1 hc).w;have hh:=(Cam.okB_iff.1 hc).h;have I1:=hid (inB_iff.2 (show 0≤i∧i≤c.w - 1 by omega));have I2:=hid (inB_iff.2 (show 0≤j∧j≤c.h - 1 by omega));have x0:Ext w (w.alloc (.cells #[.int .i64 c.w,.int .i64 c.h,.int .i64 c.zoom,.int .i64 c.near,.bool c.deep,.int .i64 c.lens,.int .i64 c.focus] 24)):=X_;have bC:=Blk.new w 24 [.int .i64 c.w,.int .i64 c.h,.int .i64 c.zoom,.int .i64 c.near,.bool c.deep,.int .i64 c.lens,.int .i64 c.focus];have HX0:=hid x0;have HB0:=hid bC;clear hc x0 bC;have HSD:=hid hs
 have hsd4:sd≤4:=by omega
 have hne:((sd:Nat):Int)≠0:=by omega
 obtain ⟨ST,hst⟩:∃st:Int,((16 / sd:Nat):Int)=st:=⟨_,rfl⟩
 have t0:Int.tdiv 16 ((sd:Nat):Int)=ST:=by rw [←hst,Int.tdiv_eq_ediv_of_nonneg (by omega)];rfl
 have hstb:4≤ST∧ST≤16:=by rw [←hst];rcases hs with rfl|rfl|rfl <;> decide
 have HST:=hid hst
 have hs16:sd*sd≤16:=by rcases hs with rfl|rfl|rfl <;> decide
 clear hs hst;go_enter Tryz.func87,Tryz.ntmps87;go_upto_region 2 with fail
 go_cut [46] from 16 to 47 (fun u wx=>u = .bool false∧Ext w wx∧Blk wx (w.heap.size+1) 34 [])
 case first=>
  go_wp2_with fail;refine (sIsValidCamera_val HC.out _).mono ?_;rintro e w1 ⟨rfl,x1⟩;have b1:=HB0.out.ext (Ext.trans (show Ext (w.alloc (.cells #[.int .i64 c.w,.int .i64 c.h,.int .i64 c.zoom,.int .i64 c.near,.bool c.deep,.int .i64 c.lens,.int .i64 c.focus] 24)) ((w.alloc (.cells #[.int .i64 c.w,.int .i64 c.h,.int .i64 c.zoom,.int .i64 c.near,.bool c.deep,.int .i64 c.lens,.int .i64 c.focus] 24)).alloc (.cells #[] 34)) from X_) x1);have bE:=(Blk.new (w.alloc (.cells #[.int .i64 c.w,.int .i64 c.h,.int .i64 c.zoom,.int .i64 c.near,.bool c.deep,.int .i64 c.lens,.int .i64 c.focus] 24)) 34 []).ext x1;rw [World.size_alloc] at bE;have X1:=hid (HX0.out.trans (Ext.trans (show Ext (w.alloc (.cells #[.int .i64 c.w,.int .i64 c.h,.int .i64 c.zoom,.int .i64 c.near,.bool c.deep,.int .i64 c.lens,.int .i64 c.focus] 24)) ((w.alloc (.cells #[.int .i64 c.w,.int .i64 c.h,.int .i64 c.zoom,.int .i64 c.near,.bool c.deep,.int .i64 c.lens,.int .i64 c.focus] 24)).alloc (.cells #[] 34)) from X_) x1));obtain ⟨c0,c1⟩:=b1.q2;have l1:=b1.lt;have HE0:=hid bE;clear b1 x1 bE HB0
  rcases HSD.out with h1|h1|h1
  all_goals
   have h2:((sd:Nat):Int)=((sd:Nat):Int):=rfl;subst h1;clear h2;go_wp2_with (go_at_call 70;with_reducible first|(refine (l01In_val I1.out _).mono ?_;rintro e w4 ⟨rfl,rfl⟩)|(refine (l01In_val I2.out _).mono ?_;rintro e w4 ⟨rfl,rfl⟩))
   go_meet
   exact ⟨rfl,X1.out,HE0.out⟩
 case rest=>
  obtain ⟨rfl,x1,hE0⟩:=hcut;have X1:=hid x1;have HE0:=hid hE0;clear x1 hE0;go_wp2_with fail
  go_loopw [9,11] (fun v x wr=>∃(r:Nat) (xs:List Smp),r≤sd∧x = .int .i64 (r:Nat)∧xs=(List.range (r*sd)).map (smpK i j sd)∧OwnG Smp.cs w.heap.size 34 5 wr v xs∧Ext w wr) (fun _ x _=>sd - (intOf x).toNat)
  case atStart=>exact ⟨0,[],by omega,rfl,by rw [Nat.zero_mul];rfl,OwnG.freshS (by omega) HE0.out,X1.out⟩
  case round=>
   obtain ⟨r,xs,hr,rfl,hxs,ho,hx⟩:=hrel;obtain ⟨xa,xc,rfl,hxl⟩:=OwnG.form ho;have HXS:=hid hxs;have HO:=hid ho;have HX:=hid hx;clear hxs ho hx HE0
   rcases Nat.lt_or_ge r sd with hlt|hge
   ·have hlt2:(r:Int)<((sd:Nat):Int):=by omega
    go_wp2_with fail
    go_loopw [9,12] (fun v x wr=>∃(q:Nat) (xs:List Smp),q≤sd∧x = .int .i64 (q:Nat)∧xs=(List.range (r*sd+q)).map (smpK i j sd)∧OwnG Smp.cs w.heap.size 34 5 wr v xs∧Ext w wr) (fun _ x _=>sd - (intOf x).toNat)
    case atStart=>exact ⟨0,xs,by omega,rfl,by rw [Nat.add_zero];exact HXS.out,HO.out,HX.out⟩
    case round=>
     clear HXS HO HX;obtain ⟨q,xs,hq,rfl,hxs,ho,hx⟩:=hrel;obtain ⟨xa,xc,rfl,hxl⟩:=OwnG.form ho;have HXS:=hid hxs;have HO:=hid ho;have HX:=hid hx;clear hxs ho hx
     rcases Nat.lt_or_ge q sd with hq2|hq2
     ·have hq3:(q:Int)<((sd:Nat):Int):=by omega
      obtain ⟨m,hm⟩:∃m,xs.length=m:=⟨_,rfl⟩
      have hmb:m=r*sd+q:=by rw [←hm,HXS.out,List.length_map,List.length_range]
      have hrs:r*sd≤3*4:=Nat.mul_le_mul (by omega) (by omega)
      have hm16:m≤15:=by omega
      obtain ⟨p1,hp1⟩:∃p,hashI [i,j,(m:Nat),1] % ST=p:=⟨_,rfl⟩
      obtain ⟨p2,hp2⟩:∃p,hashI [i,j,(m:Nat),2] % ST=p:=⟨_,rfl⟩
      obtain ⟨p3,hp3⟩:∃p,hashI [i,j,(m:Nat),3] % 16=p:=⟨_,rfl⟩
      obtain ⟨p4,hp4⟩:∃p,hashI [i,j,(m:Nat),4] % 33=p:=⟨_,rfl⟩
      obtain ⟨p5,hp5⟩:∃p,hashI [i,j,(m:Nat),5] % 33=p:=⟨_,rfl⟩
      have b1:0≤p1∧p1≤15:=by rw [←hp1];exact ⟨Int.emod_nonneg _ (by omega),by have:=Int.emod_lt_of_pos (hashI [i,j,((m:Nat):Int),1]) (show 0<ST by omega);omega⟩
      have b2:0≤p2∧p2≤15:=by rw [←hp2];exact ⟨Int.emod_nonneg _ (by omega),by have:=Int.emod_lt_of_pos (hashI [i,j,((m:Nat):Int),2]) (show 0<ST by omega);omega⟩
      obtain ⟨e1,he1⟩:∃e1,(q:Int)*ST=e1:=⟨_,rfl⟩
      obtain ⟨e2,he2⟩:∃e2,(r:Int)*ST=e2:=⟨_,rfl⟩
      have q1:0≤e1∧e1≤64:=by
       rw [←he1];have:=mul_abs (a:=(q:Int)) (b:=ST) (A:=4) (B:=16) (by omega) (by omega);exact ⟨Int.mul_nonneg (by omega) (by omega),by omega⟩
      have q2:0≤e2∧e2≤64:=by
       rw [←he2];have:=mul_abs (a:=(r:Int)) (b:=ST) (A:=4) (B:=16) (by omega) (by omega);exact ⟨Int.mul_nonneg (by omega) (by omega),by omega⟩
      have HE1:=hid he1;have HE2:=hid he2
      have b3:0≤p3∧p3≤15:=by omega
      have b4:0≤p4∧p4≤32:=by omega
      have b5:0≤p5∧p5≤32:=by omega
      have P1:=hid hp1;have P2:=hid hp2;have P3:=hid hp3;have P4:=hid hp4;have P5:=hid hp5
      have HI64:=hid (show ∀k:Int,(0≤k∧k≤10)→∀y∈[i,j,((m:Nat):Int),k],I64 y from fun k hk y hy=>by
       simp only [List.mem_cons,List.not_mem_nil,or_false] at hy
       rcases hy with rfl|rfl|rfl|rfl <;> exact ⟨by omega,by omega⟩)
      have HMB:=hid hmb;have HMM:=hid hm;have w0:=Blk.new wr 3 [.int .i64 i,.int .i64 j,.int .i64 (m:Nat),.int .i64 1];have HI1:=hid w0;rw [hm];clear hp1 hp2 hp3 hp4 hp5 hmb w0;go_wp2_with fail;refine (sHashRange_val 0 _ _ [i,j,(m:Nat),1] _ _ (ints4 HI1.out (HI64.out 1 (by decide))) (by omega) P1.out).mono ?_;rintro e wq ⟨rfl,rfl⟩;clear hm;go_upto_region 13 with fail;have bX:=Blk.new (wr.alloc (.cells #[.int .i64 i,.int .i64 j,.int .i64 (m:Nat),.int .i64 1] 3)) 34 [.int .i64 (i*16+e1+p1),.int .i64 0,.int .i64 0,.int .i64 0,.int .i64 0];rw [World.size_alloc] at bX;have xX:Ext wr ((wr.alloc (.cells #[.int .i64 i,.int .i64 j,.int .i64 (m:Nat),.int .i64 1] 3)).alloc (.cells #[.int .i64 (i*16+e1+p1),.int .i64 0,.int .i64 0,.int .i64 0,.int .i64 0] 34)):=X_
      obtain ⟨W2,hW2⟩:∃W,(wr.alloc (.cells #[.int .i64 i,.int .i64 j,.int .i64 (m:Nat),.int .i64 1] 3)).alloc (.cells #[.int .i64 (i*16+e1+p1),.int .i64 0,.int .i64 0,.int .i64 0,.int .i64 0] 34)=W:=⟨_,rfl⟩
      rw [hW2] at bX xX ⊢;have HB2:=hid bX;have HY2:=hid xX;clear hW2 bX xX HI1;have bi2:=Blk.new W2 3 [.int .i64 i,.int .i64 j,.int .i64 (m:Nat),.int .i64 2];have HI2:=hid bi2;clear bi2;go_wp2_with fail;refine (sHashRange_val 0 _ _ [i,j,(m:Nat),2] _ _ (ints4 HI2.out (HI64.out 2 (by decide))) (by omega) P2.out).mono ?_;rintro e wq ⟨rfl,rfl⟩
      have q2:=(HB2.out.ext (show Ext W2 (W2.alloc (.cells #[.int .i64 i,.int .i64 j,.int .i64 (m:Nat),.int .i64 2] 3)) from X_))
      have cq:=q2.cell 1 rfl;have fq:=q2.free 1;have lq:=q2.lt;have Q2:=hid q2;clear q2;go_upto_region 14 with fail
      obtain ⟨W3,hW3⟩:∃W,(W2.alloc (.cells #[.int .i64 i,.int .i64 j,.int .i64 (m:Nat),.int .i64 2] 3)).setCell ⟨wr.heap.size+1,1,none⟩ (.int .i64 (j*16+e2+p2))=W:=⟨_,rfl⟩
      have bb:=Q2.out.set 1 (.int .i64 (j*16+e2+p2));have xx:Ext wr ((W2.alloc (.cells #[.int .i64 i,.int .i64 j,.int .i64 (m:Nat),.int .i64 2] 3)).setCell ⟨wr.heap.size+1,1,none⟩ (.int .i64 (j*16+e2+p2))):=Ext.setCell (Ext.trans HY2.out X_) (by simp only;omega) _;rw [hW3] at bb xx ⊢;have HB3:=hid bb;have HY3:=hid xx;clear hW3 bb xx cq fq lq Q2 HB2 HY2 HI2;have bi3:=Blk.new W3 3 [.int .i64 i,.int .i64 j,.int .i64 (m:Nat),.int .i64 3];have HI3:=hid bi3;clear bi3;go_wp2_with fail;refine (sHashRange_val 0 _ _ [i,j,(m:Nat),3] _ _ (ints4 HI3.out (HI64.out 3 (by decide))) (by omega) P3.out).mono ?_;rintro e wq ⟨rfl,rfl⟩
      have q3:=(HB3.out.ext (show Ext W3 (W3.alloc (.cells #[.int .i64 i,.int .i64 j,.int .i64 (m:Nat),.int .i64 3] 3)) from X_))
      have cq:=q3.cell 2 rfl;have fq:=q3.free 2;have lq:=q3.lt;have Q3:=hid q3;clear q3;go_upto_region 15 with fail
      obtain ⟨W4,hW4⟩:∃W,(W3.alloc (.cells #[.int .i64 i,.int .i64 j,.int .i64 (m:Nat),.int .i64 3] 3)).setCell ⟨wr.heap.size+1,2,none⟩ (.int .i64 (p3))=W:=⟨_,rfl⟩
      have bb:=Q3.out.set 2 (.int .i64 (p3));have xx:Ext wr ((W3.alloc (.cells #[.int .i64 i,.int .i64 j,.int .i64 (m:Nat),.int .i64 3] 3)).setCell ⟨wr.heap.size+1,2,none⟩ (.int .i64 (p3))):=Ext.setCell (Ext.trans HY3.out X_) (by simp only;omega) _;rw [hW4] at bb xx ⊢;have HB4:=hid bb;have HY4:=hid xx;clear hW4 bb xx cq fq lq Q3 HB3 HY3 HI3;have bi4:=Blk.new W4 3 [.int .i64 i,.int .i64 j,.int .i64 (m:Nat),.int .i64 4];have HI4:=hid bi4;clear bi4;go_wp2_with fail;refine (sHashRange_val 0 _ _ [i,j,(m:Nat),4] _ _ (ints4 HI4.out (HI64.out 4 (by decide))) (by omega) P4.out).mono ?_;rintro e wq ⟨rfl,rfl⟩
      have q4:=(HB4.out.ext (show Ext W4 (W4.alloc (.cells #[.int .i64 i,.int .i64 j,.int .i64 (m:Nat),.int .i64 4] 3)) from X_))
      have cq:=q4.cell 3 rfl;have fq:=q4.free 3;have lq:=q4.lt;have Q4:=hid q4;clear q4;go_upto_region 16 with fail
      obtain ⟨W5,hW5⟩:∃W,(W4.alloc (.cells #[.int .i64 i,.int .i64 j,.int .i64 (m:Nat),.int .i64 4] 3)).setCell ⟨wr.heap.size+1,3,none⟩ (.int .i64 (p4 - 16))=W:=⟨_,rfl⟩
      have bb:=Q4.out.set 3 (.int .i64 (p4 - 16));have xx:Ext wr ((W4.alloc (.cells #[.int .i64 i,.int .i64 j,.int .i64 (m:Nat),.int .i64 4] 3)).setCell ⟨wr.heap.size+1,3,none⟩ (.int .i64 (p4 - 16))):=Ext.setCell (Ext.trans HY4.out X_) (by simp only;omega) _;rw [hW5] at bb xx ⊢;have HB5:=hid bb;have HY5:=hid xx;clear hW5 bb xx cq fq lq Q4 HB4 HY4 HI4;have bi5:=Blk.new W5 3 [.int .i64 i,.int .i64 j,.int .i64 (m:Nat),.int .i64 5];have HI5:=hid bi5;clear bi5;go_wp2_with fail;refine (sHashRange_val 0 _ _ [i,j,(m:Nat),5] _ _ (ints4 HI5.out (HI64.out 5 (by decide))) (by omega) P5.out).mono ?_;rintro e wq ⟨rfl,rfl⟩
      have q5:=(HB5.out.ext (show Ext W5 (W5.alloc (.cells #[.int .i64 i,.int .i64 j,.int .i64 (m:Nat),.int .i64 5] 3)) from X_))
      have cq:=q5.cell 4 rfl;have fq:=q5.free 4;have lq:=q5.lt;have Q5:=hid q5;clear q5;go_upto_region 17 with fail
      obtain ⟨W6,hW6⟩:∃W,(W5.alloc (.cells #[.int .i64 i,.int .i64 j,.int .i64 (m:Nat),.int .i64 5] 3)).setCell ⟨wr.heap.size+1,4,none⟩ (.int .i64 (p5 - 16))=W:=⟨_,rfl⟩
      have bb:=Q5.out.set 4 (.int .i64 (p5 - 16));have xx:Ext wr ((W5.alloc (.cells #[.int .i64 i,.int .i64 j,.int .i64 (m:Nat),.int .i64 5] 3)).setCell ⟨wr.heap.size+1,4,none⟩ (.int .i64 (p5 - 16))):=Ext.setCell (Ext.trans HY5.out X_) (by simp only;omega) _;rw [hW6] at bb xx ⊢;have HB6:=hid bb;have HY6:=hid xx;clear hW6 bb xx cq fq lq Q5 HB5 HY5 HI5
      have hsm:smpK i j sd m=⟨i*16+e1+p1,j*16+e2+p2,p3,p4 - 16,p5 - 16⟩:=by
       have em:=HMB.out;rw [em];rw [←HE1.out,←HE2.out];refine smpK_eq hq2 HST.out ?_ ?_ ?_ ?_ ?_
       ·rw [←em];exact P1.out
       ·rw [←em];exact P2.out
       ·rw [←em];exact P3.out
       ·rw [←em];exact P4.out
       ·rw [←em];exact P5.out
      have b6:=HB6.out;obtain ⟨c0,c1,c2,c3,c4⟩:=b6.q5;have l6:=b6.lt;have hsm2:=hid hsm;have bE:=Blk.new W6 34 [.int .i64 (i*16+e1+p1),.int .i64 (j*16+e2+p2),.int .i64 p3,.int .i64 (p4 - 16),.int .i64 (p5 - 16)];have HE:=hid bE;have O6:=hid (OwnG.ext (OwnG.ext HO.out HY6.out) (show Ext W6 (W6.alloc (.cells #[.int .i64 (i*16+e1+p1),.int .i64 (j*16+e2+p2),.int .i64 p3,.int .i64 (p4 - 16),.int .i64 (p5 - 16)] 34)) from X_));have HY7:=hid (Ext.trans HY6.out (show Ext W6 (W6.alloc (.cells #[.int .i64 (i*16+e1+p1),.int .i64 (j*16+e2+p2),.int .i64 p3,.int .i64 (p4 - 16),.int .i64 (p5 - 16)] 34)) from X_))
      have hwz:w.heap.size≤(W6.alloc (.cells #[.int .i64 (i*16+e1+p1),.int .i64 (j*16+e2+p2),.int .i64 p3,.int .i64 (p4 - 16),.int .i64 (p5 - 16)] 34)).heap.size:=by have h1:=HY7.out.size;have h2:=HX.out.size;omega
      have HWZ:=hid hwz
      have hlx:xs.length<1000000:=by rw [HMM.out];omega
      have HLX:=hid hlx;have O7:Hid (OwnG Smp.cs w.heap.size 34 5 (W6.alloc (.cells #[.int .i64 (i*16+e1+p1),.int .i64 (j*16+e2+p2),.int .i64 p3,.int .i64 (p4 - 16),.int .i64 (p5 - 16)] 34)) (.slice xa m xc) xs):=hid (HMM.out▸O6.out);clear b6 hsm bE hwz hlx
      go_wp2_with (at_builtin;refine wpList_append_elt Smp.cs 34 5 40 _ _ rfl _ _ 105 rfl Tryz.underlying105 info_SmpT rfl (by decide) (by decide) (fun _=>rfl) w.heap.size (.slice xa m xc) xs rfl O7.out ⟨i*16+e1+p1,j*16+e2+p2,p3,p4 - 16,p5 - 16⟩ W6.heap.size rfl (fun jj hj=>by
        rcases (show jj=0∨jj=1∨jj=2∨jj=3∨jj=4 by omega) with rfl|rfl|rfl|rfl|rfl
        ·exact HE.out.cell 0 rfl
        ·exact HE.out.cell 1 rfl
        ·exact HE.out.cell 2 rfl
        ·exact HE.out.cell 3 rfl
        ·exact HE.out.cell 4 rfl) (Smp.one _) HLX.out HWZ.out ?_;intro v8 w8 hown hg;obtain ⟨xs',hxs'⟩:∃xs',xs++[(⟨i*16+e1+p1,j*16+e2+p2,p3,p4 - 16,p5 - 16⟩:Smp)]=xs':=⟨_,rfl⟩;rw [hxs'] at hown;have HXS2:=hid hxs';have HOW:=hid hown;have HGR:=hid hg;obtain ⟨va,vc,rfl,_⟩:=OwnG.form hown;clear hown hg hxs')
      go_roundw
      case rel=>
       refine ⟨q+1,xs',by omega,by go_num,?_,HOW.out,Ext.grown (HX.out.trans HY7.out) HGR.out (fun k hk=>(OwnG.lt O7.out k hk).1)⟩
       ·rw [←HXS2.out,←hsm2.out,HMB.out,HXS.out]
        exact (range_snoc _ _).symm
      case measure=>simp [intOf];omega
     ·obtain rfl:q=sd:=by omega
      have HXS3:=hid (show xs=(List.range ((r+1)*q)).map (smpK i j q) by rw [HXS.out,Nat.succ_mul]);go_wp2;go_roundw
      case rel=>exact ⟨r+1,xs,by omega,by go_num,HXS3.out,HO.out,HX.out⟩
      case measure=>simp [intOf];omega
   ·obtain rfl:r=sd:=by omega
    have HF:=hid (show xs=pixS i j r by rw [HXS.out];rfl);go_wp2;go_ret;refine ⟨_,rfl,?_,HX.out⟩;rw [←HF.out];exact HO.out
theorem l11Draw_any (hi B:Nat) (c:Cam) (hcm:c.Sm) (w:World) (hc:Cur hi w B):Calls Tryz.prog 35 #[.pointer (some ⟨B,0,none⟩),.agg #[.int .i64 c.w,.int .i64 c.h,.int .i64 c.zoom,.int .i64 c.near,.bool c.deep,.int .i64 c.lens,.int .i64 c.focus]] w fun e w'=>∃p:Smp,e = .returned (.agg #[.int .i64 p.x,.int .i64 p.y,.int .i64 p.t,.int .i64 p.lx,.int .i64 p.ly])∧p.okB c=true∧Gr B w w':=by
 have zB:=hc.lt;have hcw:=hcm.w;have hch:=hcm.h;have HOK:=hid hcm.okB;have x0:Ext w ((w.alloc (.cells #[.int .i64 c.w,.int .i64 c.h,.int .i64 c.zoom,.int .i64 c.near,.bool c.deep,.int .i64 c.lens,.int .i64 c.focus] 24)).alloc (.cells #[.int .i64 0,.int .i64 0,.int .i64 0,.int .i64 0,.int .i64 0] 34)):=X_;have bC:=(Blk.new w 24 [.int .i64 c.w,.int .i64 c.h,.int .i64 c.zoom,.int .i64 c.near,.bool c.deep,.int .i64 c.lens,.int .i64 c.focus]).ext (show Ext (w.alloc (.cells #[.int .i64 c.w,.int .i64 c.h,.int .i64 c.zoom,.int .i64 c.near,.bool c.deep,.int .i64 c.lens,.int .i64 c.focus] 24)) ((w.alloc (.cells #[.int .i64 c.w,.int .i64 c.h,.int .i64 c.zoom,.int .i64 c.near,.bool c.deep,.int .i64 c.lens,.int .i64 c.focus] 24)).alloc (.cells #[.int .i64 0,.int .i64 0,.int .i64 0,.int .i64 0,.int .i64 0] 34)) from X_)
 have bS:Blk ((w.alloc (.cells #[.int .i64 c.w,.int .i64 c.h,.int .i64 c.zoom,.int .i64 c.near,.bool c.deep,.int .i64 c.lens,.int .i64 c.focus] 24)).alloc (.cells #[.int .i64 0,.int .i64 0,.int .i64 0,.int .i64 0,.int .i64 0] 34)) (w.heap.size+1) 34 [.int .i64 0,.int .i64 0,.int .i64 0,.int .i64 0,.int .i64 0]:=by
  have h:=Blk.new (w.alloc (.cells #[.int .i64 c.w,.int .i64 c.h,.int .i64 c.zoom,.int .i64 c.near,.bool c.deep,.int .i64 c.lens,.int .i64 c.focus] 24)) 34 [.int .i64 0,.int .i64 0,.int .i64 0,.int .i64 0,.int .i64 0];rw [World.size_alloc] at h;exact h
 have z2:((w.alloc (.cells #[.int .i64 c.w,.int .i64 c.h,.int .i64 c.zoom,.int .i64 c.near,.bool c.deep,.int .i64 c.lens,.int .i64 c.focus] 24)).alloc (.cells #[.int .i64 0,.int .i64 0,.int .i64 0,.int .i64 0,.int .i64 0] 34)).heap.size=w.heap.size+2:=by simp
 have HC0:=hid (hc.ext x0);have HX0:=hid x0;have HCM:=hid hcm;clear hc hcm;go_enter Tryz.func35,Tryz.ntmps35;go_upto_region 1 with fail
 obtain ⟨W0,hW0⟩:∃W0,((w.alloc (.cells #[.int .i64 c.w,.int .i64 c.h,.int .i64 c.zoom,.int .i64 c.near,.bool c.deep,.int .i64 c.lens,.int .i64 c.focus] 24)).alloc (.cells #[.int .i64 0,.int .i64 0,.int .i64 0,.int .i64 0,.int .i64 0] 34))=W0:=⟨_,rfl⟩
 rw [hW0] at x0 bC bS z2 HC0 HX0 ⊢;have HS:=hid bS;have Z2:=hid z2;obtain ⟨c0,c1,c2,c3,c4,c5,c6⟩:=bC.q7;have lc:=bC.lt;clear hW0 x0 bC bS z2;refine wp_region_stagesS [([0,1,2,3,5,6,7],4),([],8),([],9),([],10)] 10 (fun w'=>∃d,w'=lowc (CBox w.heap.size) _ d) (by kernel_rfl) (by kernel_rfl) (SC.drew _ _) ?_;refine sc_ fun K hK=>?_;go_wp2_with fail;refine (l01Below_any hi B c.w _ (HC0.out.ext (Ext.drew (Ext.refl _))) (by omega) ⟨by omega,by omega⟩).mono ?_;rintro e v1 ⟨x,rfl,hx,C1,G1⟩;have g1:Gr B W0 v1:=((Gr.refl B W0).ext (Ext.drew (Ext.refl _))).trans G1;go_wp2_with fail;refine hK _ _ (.inr (SC.blocks fun a ha=>g1.keep (by rw [ha];exact lc) (by rw [ha];omega))) ?_;clear hK K;refine sc_ fun K hK=>?_;go_wp2_with fail;refine (l01Below_any hi B c.h _ C1 (by omega) ⟨by omega,by omega⟩).mono ?_;rintro e v2 ⟨y,rfl,hy,C2,G2⟩;have g2:Gr B W0 v2:=g1.trans G2;go_wp2_with fail;refine hK _ _ (.inr (SC.blocks fun a ha=>g2.keep (by rw [ha];exact lc) (by rw [ha];omega))) ?_;clear hK K;refine sc_ fun K hK=>?_;go_wp2_with fail;refine (sPixelSamples_any c HOK.out x y hx hy 2 (.inr (.inl rfl)) _).mono ?_;rintro e v3 ⟨r,rfl,O3,x3⟩
 obtain ⟨ps,hps⟩:∃ps,pixS x y 2=ps:=⟨_,rfl⟩
 have hln:ps.length=4:=by rw [←hps,pixS_length]
 have HPS:=hid hps;have HLN:=hid hln;rw [hps] at O3;obtain ⟨ra,rc,rfl,hrl⟩:=OwnG.form O3;have g3:Gr B W0 v3:=g2.ext x3;have HG3:=hid g3;have HO3:=hid O3;have HC3:=hid (C2.ext x3);have HS3:=hid (g3.blk HS.out (by omega));have hBv:=C2.lt
 have hl0 : ¬(ps.length:Int)=0:=by omega
 have hl4:0<(ps.length:Int):=by omega
 clear O3 x3 C1 C2 G1 G2 g1 g2 hps hln;go_wp2_with fail;refine hK _ _ (.inr (SC.blocks fun a ha=>g3.keep (by rw [ha];exact lc) (by rw [ha];omega))) ?_;clear hK K g3;refine sc_ fun K hK=>?_;go_wp2_with fail;refine hK _ _ (.inl trivial) ?_;clear hK K;refine wpStagesS_nil ?_;clear c0 c1 c2 c3 c4 c5 c6 lc;go_wp2_with fail;refine (l01Below_any hi B ps.length _ HC3.out hl4 ⟨by omega,by omega⟩).mono ?_;rintro e v4 ⟨k,rfl,⟨k0,k1⟩,C4,G4⟩
 obtain ⟨q,hq⟩:∃q:Nat,k=(q:Int):=⟨k.toNat,by omega⟩
 subst hq
 have hq4:q<ps.length:=by omega
 obtain ⟨p,hp⟩:∃p,ps[q]?=some p:=⟨_,List.getElem?_eq_getElem hq4⟩
 have hpe:p=smpK x y 2 q:=by
  have h:=hp;rw [←HPS.out] at h;unfold pixS at h;rw [List.getElem?_map] at h;obtain ⟨q',hq',e⟩:=Option.map_eq_some_iff.1 h;rw [List.getElem?_range (by have:=HLN.out;omega)] at hq'
  cases hq'
  exact e.symm
 have hpo:p.okB c=true:=by rw [hpe];exact smpK_ok HOK.out hx hy (.inr (.inl rfl)) (by have:=HLN.out;omega)
 have HPO:=hid hpo;have O4:=OwnG.of (w':=v4) HO3.out fun b cc hb hcc=>(G4.keep (Array.getElem?_eq_some_iff.1 hcc).1 (by have:=Z2.out;omega)).trans hcc;obtain ⟨g,cap,he,-,glt,gcap,gcm,-,hcell⟩:=OwnG.at O4 (fun _=>rfl) hp;simp only [Value.slice.injEq,true_and] at he;obtain ⟨rfl,rfl⟩:=he;have d0:=hcell 0 (by decide);have d1:=hcell 1 (by decide);have d2:=hcell 2 (by decide);have d3:=hcell 3 (by decide);have d4:=hcell 4 (by decide);simp only [Smp.cs,Nat.add_zero,List.getElem?_cons_zero,List.getElem?_cons_succ] at d0 d1 d2 d3 d4;have S4:=G4.blk HS3.out (by omega);have HS4:=hid S4;have HG4:=hid ((((Gr.refl B w).ext HX0.out).trans HG3.out).trans G4);obtain ⟨s0,s1,s2,s3,s4⟩:=S4.q5;have f0:=S4.free 0;have f1:=S4.free 1;have f2:=S4.free 2;have f3:=S4.free 3;have f4:=S4.free 4;have l4:=S4.lt;clear hp hpe hpo O4 hcell C4 G4 S4 HO3;go_wp2;have bF:=((((HS4.out.set 0 (.int .i64 p.x)).set 1 (.int .i64 p.y)).set 2 (.int .i64 p.t)).set 3 (.int .i64 p.lx)).set 4 (.int .i64 p.ly);refine ret_box rfl rfl bF _ Tryz.underlying34 rfl info_SmpS rfl ?_;exact ⟨p,rfl,HPO.out,((((HG4.out.setNew (by omega) _ _).setNew (by omega) _ _).setNew (by omega) _ _).setNew (by omega) _ _).setNew (by omega) _ _⟩
theorem MakeSample_any (hi:Nat) (v:Value) (n:Nat) (c:Cam) (hcm:c.Sm) (w:World) (hv:Byts hi w v n) (hh:hi≤w.heap.size) (hn:n≤1048576) :
  Calls Tryz.prog 9 #[v,.agg #[.int .i64 c.w,.int .i64 c.h,.int .i64 c.zoom,.int .i64 c.near,.bool c.deep,.int .i64 c.lens,.int .i64 c.focus]] w fun e w'=>∃p:Smp,e = .returned (.agg #[.int .i64 p.x,.int .i64 p.y,.int .i64 p.t,.int .i64 p.lx,.int .i64 p.ly])∧p.okB c=true∧Ext w w':=by
 have HV:=hid hv;obtain ⟨a,cap,rfl,k1,k2⟩:=hv.open;have x0:Ext w ((w.alloc (.cells #[.int .i64 c.w,.int .i64 c.h,.int .i64 c.zoom,.int .i64 c.near,.bool c.deep,.int .i64 c.lens,.int .i64 c.focus] 24)).alloc (.cells #[.int .i64 0,.int .i64 0,.int .i64 0,.int .i64 0,.int .i64 0] 34)):=X_;have bC:=(Blk.new w 24 [.int .i64 c.w,.int .i64 c.h,.int .i64 c.zoom,.int .i64 c.near,.bool c.deep,.int .i64 c.lens,.int .i64 c.focus]).ext (show Ext (w.alloc (.cells #[.int .i64 c.w,.int .i64 c.h,.int .i64 c.zoom,.int .i64 c.near,.bool c.deep,.int .i64 c.lens,.int .i64 c.focus] 24)) ((w.alloc (.cells #[.int .i64 c.w,.int .i64 c.h,.int .i64 c.zoom,.int .i64 c.near,.bool c.deep,.int .i64 c.lens,.int .i64 c.focus] 24)).alloc (.cells #[.int .i64 0,.int .i64 0,.int .i64 0,.int .i64 0,.int .i64 0] 34)) from X_)
 have bS:Blk ((w.alloc (.cells #[.int .i64 c.w,.int .i64 c.h,.int .i64 c.zoom,.int .i64 c.near,.bool c.deep,.int .i64 c.lens,.int .i64 c.focus] 24)).alloc (.cells #[.int .i64 0,.int .i64 0,.int .i64 0,.int .i64 0,.int .i64 0] 34)) (w.heap.size+1) 34 [.int .i64 0,.int .i64 0,.int .i64 0,.int .i64 0,.int .i64 0]:=by
  have h:=Blk.new (w.alloc (.cells #[.int .i64 c.w,.int .i64 c.h,.int .i64 c.zoom,.int .i64 c.near,.bool c.deep,.int .i64 c.lens,.int .i64 c.focus] 24)) 34 [.int .i64 0,.int .i64 0,.int .i64 0,.int .i64 0,.int .i64 0];rw [World.size_alloc] at h;exact h
 have z2:((w.alloc (.cells #[.int .i64 c.w,.int .i64 c.h,.int .i64 c.zoom,.int .i64 c.near,.bool c.deep,.int .i64 c.lens,.int .i64 c.focus] 24)).alloc (.cells #[.int .i64 0,.int .i64 0,.int .i64 0,.int .i64 0,.int .i64 0] 34)).heap.size=w.heap.size+2:=by simp
 have HX0:=hid x0;have HCM:=hid hcm;clear hv hcm;go_enter Tryz.func9,Tryz.ntmps9;go_upto_region 1 with fail
 obtain ⟨W0,hW0⟩:∃W0,((w.alloc (.cells #[.int .i64 c.w,.int .i64 c.h,.int .i64 c.zoom,.int .i64 c.near,.bool c.deep,.int .i64 c.lens,.int .i64 c.focus] 24)).alloc (.cells #[.int .i64 0,.int .i64 0,.int .i64 0,.int .i64 0,.int .i64 0] 34))=W0:=⟨_,rfl⟩
 rw [hW0] at x0 bC bS z2 HX0 ⊢;have HS:=hid bS;have Z2:=hid z2;obtain ⟨c0,c1,c2,c3,c4,c5,c6⟩:=bC.q7;have lc:=bC.lt;clear hW0 x0 bC bS z2;refine wp_region_stages [([0,2],1),([],3),([],4)] 4 W0.heap.size (by kernel_rfl) (by kernel_rfl) ?_;refine st_ fun K hK=>?_;go_wp2_with fail;have yd:Ext w W0.drew:=HX0.out.trans (Ext.drew (Ext.refl _));refine (l32New_any hi _ n 7 _ (HV.out.ext hh yd) (Nat.le_trans hh yd.size) hn (by decide)).mono ?_;rintro e w1 ⟨B,rfl,hB,C1,x1⟩;have y1:Ext W0 w1:=Ext.trans (Ext.drew (Ext.refl _)) x1;have hB0:W0.heap.size≤B:=hB;go_wp2_with fail;refine hK _ _ (.inr (y1.same (Nat.le_refl _))) ?_;clear hK K;refine st_ fun K hK=>?_;go_wp2_with fail;refine (l11Draw_any hi B c HCM.out _ C1).mono ?_;rintro e w2 ⟨p,rfl,hp,G2⟩;have y2:Ext W0 w2:=G2.up y1 hB0;go_wp2_with fail;refine hK _ _ (.inr (y2.same (Nat.le_refl _))) ?_;clear hK K;have HPO:=hid hp;have HY2:=hid (HX0.out.trans y2);have S2:=HS.out.ext y2;have HS2:=hid S2;obtain ⟨s0,s1,s2,s3,s4⟩:=S2.q5;have f0:=S2.free 0;have f1:=S2.free 1;have f2:=S2.free 2;have f3:=S2.free 3;have f4:=S2.free 4;have l2:=S2.lt;clear hp G2 y1 y2 S2 C1 x1 yd c0 c1 c2 c3 c4 c5 c6 lc;refine st_ fun K hK=>?_;go_wp2_with fail;refine hK _ _ (.inl (by trivial)) ?_;clear hK K;refine wpStages_nil ?_;go_wp2;have bF:=((((HS2.out.set 0 (.int .i64 p.x)).set 1 (.int .i64 p.y)).set 2 (.int .i64 p.t)).set 3 (.int .i64 p.lx)).set 4 (.int .i64 p.ly);refine ret_box rfl rfl bF _ Tryz.underlying34 rfl info_SmpS rfl ?_;exact ⟨p,rfl,HPO.out,Ext.setCell (Ext.setCell (Ext.setCell (Ext.setCell (Ext.setCell HY2.out (by simp only;omega) _) (by simp only;omega) _) (by simp only;omega) _) (by simp only;omega) _) (by simp only;omega) _⟩
theorem lawSees (v:Value) (nb:Nat) (W:World) (hv:Byts W.heap.size W v nb) :
  Calls Tryz.prog 4 #[v] W fun e w'=>e = .returned (.bool true)∧Ext W w':=by
 have HV:=hid hv;obtain ⟨a,cap,rfl,k1,k2⟩:=hv.open;clear hv
 by_cases hn:nb≤1048576
 ·go_enter Tryz.func4,Tryz.ntmps4
  go_wp2_with fail;refine (MakeScene_any W.heap.size _ nb _ HV.out (Nat.le_refl _) hn).mono ?_;rintro e w1 ⟨s,v1,rfl,R1,D1,hm1,x1⟩;obtain ⟨a1,c1,a2,c2,a3,c3,rfl⟩:=R1.formV;have HD:=hid D1;have HR1:=hid R1;have HX1:=hid x1;clear R1 D1 x1;go_upto_region 4 with (show wpList _ _ _ [_] _ _;refine wpList_store_fresh _ _ _ rfl 31 (.tmp 3) (.tmp 15) rfl rfl #[.int .i64 s.c.w,.int .i64 s.c.h,.int .i64 s.c.zoom,.int .i64 s.c.near,.bool s.c.deep,.int .i64 s.c.lens,.int .i64 s.c.focus,.int .i64 s.t.log,.slice a1 s.t.px.length c1,.slice a2 s.ps.length c2,.slice a3 s.m c3,.int .i64 s.side] w1.heap.size rfl rfl rfl (by kernel_rfl) (by kernel_rfl) (by kernel_rfl) ?_);have x2:Ext w1 (w1.alloc (.cells #[.int .i64 s.c.w,.int .i64 s.c.h,.int .i64 s.c.zoom,.int .i64 s.c.near,.bool s.c.deep,.int .i64 s.c.lens,.int .i64 s.c.focus,.int .i64 s.t.log,.slice a1 s.t.px.length c1,.slice a2 s.ps.length c2,.slice a3 s.m c3,.int .i64 s.side] 31)):=X_;have b2:=Blk.new w1 31 [.int .i64 s.c.w,.int .i64 s.c.h,.int .i64 s.c.zoom,.int .i64 s.c.near,.bool s.c.deep,.int .i64 s.c.lens,.int .i64 s.c.focus,.int .i64 s.t.log,.slice a1 s.t.px.length c1,.slice a2 s.ps.length c2,.slice a3 s.m c3,.int .i64 s.side]
  obtain ⟨S,hS⟩:∃S,w1.heap.size=S:=⟨_,rfl⟩
  obtain ⟨w2,hw2⟩:∃w,w1.alloc (.cells #[.int .i64 s.c.w,.int .i64 s.c.h,.int .i64 s.c.zoom,.int .i64 s.c.near,.bool s.c.deep,.int .i64 s.c.lens,.int .i64 s.c.focus,.int .i64 s.t.log,.slice a1 s.t.px.length c1,.slice a2 s.ps.length c2,.slice a3 s.m c3,.int .i64 s.side] 31)=w:=⟨_,rfl⟩
  rw [hw2] at x2 b2 ⊢;rw [hS] at b2 ⊢;have HR2:=hid (HR1.out.ext (Nat.le_refl _) x2);have HX2:=hid (HX1.out.trans x2);have HB2:=hid b2;have hz2:=x2.size;have HZ2:=hid hz2;obtain ⟨c0,c1,c2,c3,c4,c5,c6,c7,c8,c9,c10,c11⟩:=b2.q12;have l2:=b2.lt;clear hS hw2 x2 b2 HR1 HX1 hz2;go_wp2_with fail;refine (MakeSample_any W.heap.size _ nb s.c HD.out.cam _ (HV.out.ext (Nat.le_refl _) HX2.out) HX2.out.size hn).mono ?_;rintro e w3 ⟨p,rfl,hp,x3⟩;have HP:=hid hp;have hR3:=HR2.out.ext HZ2.out x3;have HR3:=hid hR3;have HX3:=hid (HX2.out.trans x3);have HB3:=hid (HB2.out.ext x3);have HZ3:=hid (Nat.le_trans HZ2.out x3.size);clear hp hR3 x3 c0 c1 c2 c3 c4 c5 c6 c7 c8 c9 c10 c11 l2 HB2 HX2 HR2;go_upto_region 5 with (show wpList _ _ _ [_] _ _;refine wpList_store_fresh _ _ _ rfl 34 (.tmp 4) (.tmp 19) rfl rfl #[.int .i64 p.x,.int .i64 p.y,.int .i64 p.t,.int .i64 p.lx,.int .i64 p.ly] w3.heap.size rfl rfl rfl (by kernel_rfl) (by kernel_rfl) (by kernel_rfl) ?_);have x4:Ext w3 (w3.alloc (.cells #[.int .i64 p.x,.int .i64 p.y,.int .i64 p.t,.int .i64 p.lx,.int .i64 p.ly] 34)):=X_;have b4:=Blk.new w3 34 [.int .i64 p.x,.int .i64 p.y,.int .i64 p.t,.int .i64 p.lx,.int .i64 p.ly]
  obtain ⟨M,hM⟩:∃S,w3.heap.size=S:=⟨_,rfl⟩
  obtain ⟨w4,hw4⟩:∃w,w3.alloc (.cells #[.int .i64 p.x,.int .i64 p.y,.int .i64 p.t,.int .i64 p.lx,.int .i64 p.ly] 34)=w:=⟨_,rfl⟩
  rw [hw4] at x4 b4 ⊢;rw [hM] at b4 ⊢;have HR4:=hid (HR3.out.ext HZ3.out x4);have HX4:=hid (HX3.out.trans x4);have b3:=HB3.out.ext x4;have HB4:=hid b3;have HM4:=hid b4;have HZ4:=hid (Nat.le_trans HZ3.out x4.size);clear hM hw4 x4 b4 b3 HB3 HX3 HR3 HZ2 HZ3;have bs:=HB4.out.ext (Ext.refl _);have bp:=HM4.out.ext (Ext.refl _);obtain ⟨c0,c1,c2,c3,c4,c5,c6,c7,c8,c9,c10,c11⟩:=bs.q12;obtain ⟨d0,d1,d2,d3,d4⟩:=bp.q5;have ls:=bs.lt;have lp:=bp.lt;clear bs bp;go_wp2_with fail;have CH:=iSampleFragments_any s W.heap.size w1.heap.size _ p w4 (HR4.out.ext HZ4.out (Ext.refl _)) (Nat.le_trans HZ4.out (Ext.size (Ext.refl _))) HD.out.ok HD.out.small HP.out;refine CH.mono ?_;clear CH;rintro e w5 ⟨r,rfl,O5,x5⟩;obtain ⟨ta,tc,rfl,tl⟩:=OwnG.form O5;have HO5:=hid O5;have HX5:=hid x5;have HM5:=hid (HD.out.ok.m);clear O5 x5;clear ls lp c0 c1 c2 c3 c4 c5 c6 c7 c8 c9 c10 c11 d0 d1 d2 d3 d4;have c10:=(HB4.out.ext HX5.out).cell 10 rfl;go_wp2_with fail;clear c10
  go_loopw [6,26] (fun a i wr=>∃k:Nat,k≤s.m∧i = .int .i64 (k:Nat)∧a = .int .i64 ((s.seenTo p k).length:Nat)∧Ext w5 wr) (fun _ i _=>s.m - (intOf i).toNat)
  case atStart=>exact ⟨0,by omega,rfl,rfl,Ext.refl _⟩
  case round=>
   obtain ⟨k,hk,rfl,rfl,hx⟩:=hrel;have HX:=hid (HX5.out.trans hx);have HY:=hid hx;have hmb:=HM5.out;clear hx
   rcases Nat.lt_or_ge k s.m with hlt|hge
   ·have hle1:=HD.out.ok.seenTo_le p hk
    have hle2:=HD.out.ok.hits_le p hlt;have bs:=HB4.out.ext HX.out;have bp:=HM4.out.ext HX.out;obtain ⟨c0,c1,c2,c3,c4,c5,c6,c7,c8,c9,c10,c11⟩:=bs.q12;obtain ⟨d0,d1,d2,d3,d4⟩:=bp.q5;have ls:=bs.lt;have lp:=bp.lt;clear bs bp;go_wp2_with fail;have CH:=iSurfaceFragments_any s W.heap.size w1.heap.size _ k p wr (HR4.out.ext HZ4.out HX.out) (Nat.le_trans HZ4.out (Ext.size HX.out)) HD.out.ok HD.out.small hlt HP.out;refine CH.mono ?_;clear CH;rintro e w7 ⟨r7,rfl,O7,x7⟩;obtain ⟨ra,rc,rfl,-⟩:=OwnG.form O7;have HX7:=hid (HX.out.trans x7);have HY7:=hid (HY.out.trans x7);clear O7 x7;clear ls lp c0 c1 c2 c3 c4 c5 c6 c7 c8 c9 c10 c11 d0 d1 d2 d3 d4;have bs:=HB4.out.ext HX7.out;have bp:=HM4.out.ext HX7.out;obtain ⟨c0,c1,c2,c3,c4,c5,c6,c7,c8,c9,c10,c11⟩:=bs.q12;obtain ⟨d0,d1,d2,d3,d4⟩:=bp.q5;have ls:=bs.lt;have lp:=bp.lt;clear bs bp;go_wp2_with fail;have CH:=iShadeSurface_any s W.heap.size w1.heap.size _ k w7 (HR4.out.ext HZ4.out HX7.out) (Nat.le_trans HZ4.out (Ext.size HX7.out)) HD.out.ok HD.out.small hlt;refine CH.mono ?_;clear CH;rintro e w8 ⟨q1,q2,rfl,-,-,x8⟩;have HY8:=hid (HY7.out.trans x8);clear x8;clear ls lp c0 c1 c2 c3 c4 c5 c6 c7 c8 c9 c10 c11 d0 d1 d2 d3 d4;go_wp2;go_roundw
    case rel=>exact ⟨k+1,by omega,by go_num,by rw [Scn.seenTo_succ,insAll_length];go_num,HY8.out⟩
    case measure=>simp [intOf];omega
   ·obtain rfl:k=s.m:=by omega
    have bs:=HB4.out.ext HX.out;have bp:=HM4.out.ext HX.out;obtain ⟨c0,c1,c2,c3,c4,c5,c6,c7,c8,c9,c10,c11⟩:=bs.q12;obtain ⟨d0,d1,d2,d3,d4⟩:=bp.q5;have ls:=bs.lt;have lp:=bp.lt;clear bs bp;go_wp2_with fail;refine (iIsSorted_yes _ _ _ _ (HO5.out.ext HY.out) (s.seen_sort p)).mono ?_;rintro e w7 ⟨rfl,x7⟩;have HX7:=hid (HX.out.trans x7);have HY7:=hid (HY.out.trans x7);clear x7;clear ls lp c0 c1 c2 c3 c4 c5 c6 c7 c8 c9 c10 c11 d0 d1 d2 d3 d4;have bs:=HB4.out.ext HX7.out;have bp:=HM4.out.ext HX7.out;obtain ⟨c0,c1,c2,c3,c4,c5,c6,c7,c8,c9,c10,c11⟩:=bs.q12;obtain ⟨d0,d1,d2,d3,d4⟩:=bp.q5;have ls:=bs.lt;have lp:=bp.lt;clear bs bp;go_wp2_with fail;have CH:=iSampleColor_any s W.heap.size w1.heap.size _ p w7 (HR4.out.ext HZ4.out HX7.out) (Nat.le_trans HZ4.out (Ext.size HX7.out)) HD.out.ok HD.out.small HP.out;refine CH.mono ?_;clear CH;rintro e w8 ⟨rfl,x8⟩;have HX8:=hid (HX7.out.trans x8);have HY8:=hid (HY7.out.trans x8);clear x8;clear ls lp c0 c1 c2 c3 c4 c5 c6 c7 c8 c9 c10 c11 d0 d1 d2 d3 d4;go_wp2_with fail;refine (iComposite_any _ _ _ _ (HO5.out.ext HY8.out)).mono ?_;rintro e w9 ⟨rfl,x9⟩;have HX9:=hid (HX4.out.trans (HX8.out.trans x9));clear x9;go_wp2;go_ret;exact ⟨rfl,HX9.out⟩
 ·have hn2:(1048576:Int)<(nb:Int):=by omega
  go_enter Tryz.func4,Tryz.ntmps4;go_wp2;go_ret;exact ⟨rfl,Ext.refl _⟩
section
namespace fnSees
open Go.ChangeShapes Go.WideShapes Go.ChangeAt Go.RowKit
theorem own:ownKnob Tryz.prog.godebug=none:=by kernel_rfl
theorem laid:laidOutB Tryz.prog=true:=by kernel_rfl
theorem lifted (os:Os) (started:os.Started) (H:Type) (enc:TypeId×Value→H) :
  ReturnsInHanded {} Tryz.checked os 4 .any (Rows.fnSeesSpec.pre6 enc Tryz.prog Tryz.f4 Rows.fnSeesRow.domain false) (Rows.fnSeesSpec.post enc Tryz.prog Tryz.f4 false true false false):=by
 refine returnsInHanded_of_change (C:=Tryz.checked) own started (by kernel_rfl) Tryz.func4
  (ChangeSpec.witness6 (enc:=enc) (C:=Tryz.checked) false ⟨#[],#[.slice none 0 0],[]⟩ 8 (by kernel_rfl) (by kernel_rfl) (by kernel_rfl) (by kernel_rfl)) ?_
 intro W base args ds gs before hval0 hW hcnd _;have hval:∀(j:Nat) t v,Tryz.f4.params[j]?=some t→args[j]?=some v→Value.okWide Tryz.prog W .any base t v:=hval0;have hW':=hW;obtain ⟨p,q,hA0,hV,rfl,hfz,hnd⟩:=hW;have hA:DataW.TrodAll enc Tryz.prog W 0 (fun _=>true) true Tryz.f4.params.toList args.toList ds p:=hA0;rw [Tryz.params4] at hA hval;obtain ⟨v0,vs0,d0,ds0,p0,q0,hargs,rfl,rfl,h0,r0⟩:=trodAll_cons hA;obtain ⟨rfl,rfl,rfl⟩:=trodAll_nil r0
 obtain rfl:args=#[v0]:=by cases args;simp_all
 obtain ⟨rfl,rfl⟩:=trodVars_none hV;have k0:=h0
 have lt0:∀x∈p0,x.block<W.heap.size:=by obtain ⟨m,hm⟩:=k0;exact DataW.trod_lt m _ _ _ hm
 obtain ⟨n0,w0⟩:=argByts (hval 0 22 v0 rfl rfl) h0;clear hA0 hval0;refine (lawSees v0 n0 W w0).mono fun e W' ⟨he,bel0⟩=>?_;have bel:Below W.heap.size W W':=bel0;subst he;exact ⟨_,rfl,_,_,_,[],_,[],hW',trodAll_mk1 (shut_bool Tryz.underlying4 _),(trodAll_cons_mk (Below.trod laid (by kernel_rfl) (of_decide_eq_true (by kernel_rfl)) k0 bel lt0) trodAll_mk0),rfl,bel.frame _,fun h=>by cases h⟩
theorem named:Tryz.pinned.checked.prog.funcNamed Rows.fnSeesRow.func=some 4:=by kernel_rfl
theorem facts:joinedFacts Tryz.pinned.checked.prog 4 Tryz.f4 Rows.fnSeesSpec Rows.fnSeesRow=true:=by kernel_rfl
theorem inst:Tryz.f4.isInstance Tryz.pinned.checked.prog Rows.fnSeesRow.origin Rows.fnSeesRow.targs:=of_decide_eq_true (by kernel_rfl)
theorem wrap:Tryz.f4.isWrapper Tryz.pinned.checked.prog Rows.fnSeesRow.wrapper Rows.fnSeesRow.mainSum:=by
 unfold Func.isWrapper
 first|(rw [if_pos (by decide +kernel)];kernel_rfl)|(rw [if_neg (by decide +kernel)];exact ⟨rfl,rfl⟩)
theorem over:Rows.fnSeesRow.holds Tryz.pinned (OpenSpec.ofChange Rows.fnSeesSpec):=
 OpenClaim.holds_of_wide 4 Tryz.f4 rfl rfl rfl rfl rfl rfl rfl ⟨rfl,rfl,rfl,rfl,rfl⟩ rfl rfl rfl rfl rfl named Tryz.func4 facts inst wrap
  (fun os started H enc _=>lifted os started H enc)
theorem proved:Rows.FnSeesSaid:=over
end fnSees
end
end Go.Proofs.YtfjbiifebcfjfaaGreat
