/- Texts of this claim, one behind another; what its theorem does not use is left out: LawSS, LiftTex, Leaf, Es1, Es2, Es3, Es4, Es5, Es6, Lw3, LiftPrg, LiftScn, P29. -/
import Derived.Test.YtfjbiifebcfjfaaGreatP29W7
import Derived.Test.YtfjbiifebcfjfaaGreatP29W1
import Derived.OpenShut
import Derived.ShutString
import Derived.ChangeOld
import Derived.Below
import Derived.Carry
import Derived.Lib.SmallJoins
import Derived.Deep.Slices
import Derived.Test.YtfjbiifebcfjfaaGreatP29W4
import Derived.Test.YtfjbiifebcfjfaaGreatP29W2
import Derived.Deep.Strs
import Derived.Test.YtfjbiifebcfjfaaGreatRows
import Derived.ProofKit
set_option linter.unusedSimpArgs false
set_option linter.unusedVariables false
set_option maxRecDepth 100000
set_option maxHeartbeats 12800000
namespace Go.Proofs.YtfjbiifebcfjfaaGreat
open Go.RowKit
theorem lawShadeSurface (vs:Value) (s:Scn) (a:Int) (W:World) (hs:s.R 0 W.heap.size W vs) (hbs:s.bd) (ha:I64 a) :
  Calls Tryz.prog 7 #[vs,.int .i64 a] W fun e w'=>e = .returned (.bool true)∧Ext W w':=by
 obtain ⟨X,Y,b,hq⟩:∃X Y b,s.shd a=(X,Y,b):=⟨_,_,_,rfl⟩
 have HQ:=hid hq;have Hs:=hid hs;have HBs:=hid hbs;obtain ⟨st,sp,sf,rfl,_⟩:=hs;clear hbs hq;go_enter Tryz.func7,Tryz.ntmps7;go_wp2_with fail;refine (szScene_any 0 W.heap.size _ s 1048576 _ (Hs.out.ext (Nat.le_refl _) X_) (by simp <;> omega) HBs.out (by decide) (by decide)).mono ?_;rintro e w1 ⟨⟨rs,rfl,hrs⟩,x1⟩;have BPs:=hid ((Bx.made W #[.int .i64 s.c.w,.int .i64 s.c.h,.int .i64 s.c.zoom,.int .i64 s.c.near,.bool s.c.deep,.int .i64 s.c.lens,.int .i64 s.c.focus,.int .i64 s.t.log,st,sp,sf,.int .i64 s.side] _).ext x1);have E:Ext W w1:=Ext.trans X_ x1;clear x1;have ps:=BPs.out.lt;have ps0:=BPs.out.cell 0;simp only [List.getElem?_toArray,List.getElem?_cons_zero,List.getElem?_cons_succ] at ps0;have ps1:=BPs.out.cell 1;simp only [List.getElem?_toArray,List.getElem?_cons_zero,List.getElem?_cons_succ] at ps1;have ps2:=BPs.out.cell 2;simp only [List.getElem?_toArray,List.getElem?_cons_zero,List.getElem?_cons_succ] at ps2;have ps3:=BPs.out.cell 3;simp only [List.getElem?_toArray,List.getElem?_cons_zero,List.getElem?_cons_succ] at ps3;have ps4:=BPs.out.cell 4;simp only [List.getElem?_toArray,List.getElem?_cons_zero,List.getElem?_cons_succ] at ps4;have ps5:=BPs.out.cell 5;simp only [List.getElem?_toArray,List.getElem?_cons_zero,List.getElem?_cons_succ] at ps5;have ps6:=BPs.out.cell 6;simp only [List.getElem?_toArray,List.getElem?_cons_zero,List.getElem?_cons_succ] at ps6;have ps7:=BPs.out.cell 7;simp only [List.getElem?_toArray,List.getElem?_cons_zero,List.getElem?_cons_succ] at ps7;have ps8:=BPs.out.cell 8;simp only [List.getElem?_toArray,List.getElem?_cons_zero,List.getElem?_cons_succ] at ps8;have ps9:=BPs.out.cell 9;simp only [List.getElem?_toArray,List.getElem?_cons_zero,List.getElem?_cons_succ] at ps9;have ps10:=BPs.out.cell 10;simp only [List.getElem?_toArray,List.getElem?_cons_zero,List.getElem?_cons_succ] at ps10;have ps11:=BPs.out.cell 11;simp only [List.getElem?_toArray,List.getElem?_cons_zero,List.getElem?_cons_succ] at ps11
 rcases hrs with rfl|⟨ras,rbs,hss⟩
 ·go_wp2_with fail
  go_ret;exact ⟨rfl,E⟩
 have HSs:=hid hss;clear hss;have pW:=BPs.out.lt;have hXY:=Scn.shd_len HQ.out;have hX:=hXY.1;have hY:=hXY.2;clear hXY;have zE:=E.size;go_wp2_with fail;refine (toScene_any 0 W.heap.size _ s _ (Hs.out.ext (Nat.le_refl _) E) zE HSs.out).mono ?_;rintro e w2 ⟨v2,rfl,O2,x2⟩;have y2:Ext w1 w2:=x2;have z2:=y2.size;go_wp2_with fail;refine (sShadeSurf_val _ _ _ s a _ HQ.out O2.R (Nat.le_refl _) HSs.out.small).mono ?_;rintro e w3 ⟨s3,t3,rfl,S3,T3,x3⟩;have y3:Ext w1 w3:=y2.trans x3;have z3:=x3.size;replace BPs:=hid (BPs.out.kp (y3.kp BPs.out.lt));replace E:=E.trans y3;have SP0:=hid S3;have SP1:=hid T3;clear x2 y2 x3 y3 O2 S3 T3;clear ps ps0 ps1 ps2 ps3 ps4 ps5 ps6 ps7 ps8 ps9 ps10 ps11;have ps:=BPs.out.lt;have ps0:=BPs.out.cell 0;simp only [List.getElem?_toArray,List.getElem?_cons_zero,List.getElem?_cons_succ] at ps0;have ps1:=BPs.out.cell 1;simp only [List.getElem?_toArray,List.getElem?_cons_zero,List.getElem?_cons_succ] at ps1;have ps2:=BPs.out.cell 2;simp only [List.getElem?_toArray,List.getElem?_cons_zero,List.getElem?_cons_succ] at ps2;have ps3:=BPs.out.cell 3;simp only [List.getElem?_toArray,List.getElem?_cons_zero,List.getElem?_cons_succ] at ps3;have ps4:=BPs.out.cell 4;simp only [List.getElem?_toArray,List.getElem?_cons_zero,List.getElem?_cons_succ] at ps4;have ps5:=BPs.out.cell 5;simp only [List.getElem?_toArray,List.getElem?_cons_zero,List.getElem?_cons_succ] at ps5;have ps6:=BPs.out.cell 6;simp only [List.getElem?_toArray,List.getElem?_cons_zero,List.getElem?_cons_succ] at ps6;have ps7:=BPs.out.cell 7;simp only [List.getElem?_toArray,List.getElem?_cons_zero,List.getElem?_cons_succ] at ps7;have ps8:=BPs.out.cell 8;simp only [List.getElem?_toArray,List.getElem?_cons_zero,List.getElem?_cons_succ] at ps8;have ps9:=BPs.out.cell 9;simp only [List.getElem?_toArray,List.getElem?_cons_zero,List.getElem?_cons_succ] at ps9;have ps10:=BPs.out.cell 10;simp only [List.getElem?_toArray,List.getElem?_cons_zero,List.getElem?_cons_succ] at ps10;have ps11:=BPs.out.cell 11;simp only [List.getElem?_toArray,List.getElem?_cons_zero,List.getElem?_cons_succ] at ps11;go_wp2_with fail;have zE:=E.size;refine (toScene_any 0 W.heap.size _ s _ (Hs.out.ext (Nat.le_refl _) E) zE HSs.out).mono ?_;rintro e w4 ⟨v4,rfl,O4,x4⟩;have z4:=x4.size;replace BPs:=hid (BPs.out.kp (x4.kp BPs.out.lt));replace SP0:=hid (SP0.out.kp (x4.kp (by first|omega|(simp;omega))));replace SP1:=hid (SP1.out.kp (x4.kp (by first|omega|(simp;omega))));replace E:=E.trans x4;have OXs:=hid O4;obtain ⟨cs1,cs2,cs3,cs4,cs5,cs6,rfl⟩:=O4.form;clear x4 O4 ps ps0 ps1 ps2 ps3 ps4 ps5 ps6 ps7 ps8 ps9 ps10 ps11;have ps:=BPs.out.lt;have ps0:=BPs.out.cell 0;simp only [List.getElem?_toArray,List.getElem?_cons_zero,List.getElem?_cons_succ] at ps0;have ps1:=BPs.out.cell 1;simp only [List.getElem?_toArray,List.getElem?_cons_zero,List.getElem?_cons_succ] at ps1;have ps2:=BPs.out.cell 2;simp only [List.getElem?_toArray,List.getElem?_cons_zero,List.getElem?_cons_succ] at ps2;have ps3:=BPs.out.cell 3;simp only [List.getElem?_toArray,List.getElem?_cons_zero,List.getElem?_cons_succ] at ps3;have ps4:=BPs.out.cell 4;simp only [List.getElem?_toArray,List.getElem?_cons_zero,List.getElem?_cons_succ] at ps4;have ps5:=BPs.out.cell 5;simp only [List.getElem?_toArray,List.getElem?_cons_zero,List.getElem?_cons_succ] at ps5;have ps6:=BPs.out.cell 6;simp only [List.getElem?_toArray,List.getElem?_cons_zero,List.getElem?_cons_succ] at ps6;have ps7:=BPs.out.cell 7;simp only [List.getElem?_toArray,List.getElem?_cons_zero,List.getElem?_cons_succ] at ps7;have ps8:=BPs.out.cell 8;simp only [List.getElem?_toArray,List.getElem?_cons_zero,List.getElem?_cons_succ] at ps8;have ps9:=BPs.out.cell 9;simp only [List.getElem?_toArray,List.getElem?_cons_zero,List.getElem?_cons_succ] at ps9;have ps10:=BPs.out.cell 10;simp only [List.getElem?_toArray,List.getElem?_cons_zero,List.getElem?_cons_succ] at ps10;have ps11:=BPs.out.cell 11;simp only [List.getElem?_toArray,List.getElem?_cons_zero,List.getElem?_cons_succ] at ps11;go_wp2_with fail;refine (iShadeSurf_val _ _ _ s a _ HQ.out (OXs.out.kp (Ext.kp X_ (by omega))).R (by simp <;> omega) HSs.out.small).mono ?_;rintro e w5 ⟨r5,q5,rfl,h5,la5,lb5,O5,Q5,x5⟩;have BXs:=hid ((Bx.made w4 #[.int .i64 s.c.w,.int .i64 s.c.h,.int .i64 s.c.zoom,.int .i64 s.c.near,.bool s.c.deep,.int .i64 s.c.lens,.int .i64 s.c.focus,.int .i64 s.t.log,.slice cs1 s.t.px.length cs2,.slice cs3 s.ps.length cs4,.slice cs5 s.m cs6,.int .i64 s.side] _).ext x5);have y5:Ext w4 w5:=Ext.trans X_ x5;have z5:=x5.size;simp only [World.size_alloc] at z5 O5 Q5 la5 lb5;replace BPs:=hid (BPs.out.kp (y5.kp BPs.out.lt));replace SP0:=hid (SP0.out.kp (y5.kp (by first|omega|(simp;omega))));replace SP1:=hid (SP1.out.kp (y5.kp (by first|omega|(simp;omega))));replace OXs:=hid (OXs.out.kp (y5.kp (by first|omega|(simp;omega))));replace E:=E.trans y5;have OR0:=hid O5;have OR1:=hid Q5;clear x5 y5 O5 Q5 ps ps0 ps1 ps2 ps3 ps4 ps5 ps6 ps7 ps8 ps9 ps10 ps11;have ps:=BPs.out.lt;have ps0:=BPs.out.cell 0;simp only [List.getElem?_toArray,List.getElem?_cons_zero,List.getElem?_cons_succ] at ps0;have ps1:=BPs.out.cell 1;simp only [List.getElem?_toArray,List.getElem?_cons_zero,List.getElem?_cons_succ] at ps1;have ps2:=BPs.out.cell 2;simp only [List.getElem?_toArray,List.getElem?_cons_zero,List.getElem?_cons_succ] at ps2;have ps3:=BPs.out.cell 3;simp only [List.getElem?_toArray,List.getElem?_cons_zero,List.getElem?_cons_succ] at ps3;have ps4:=BPs.out.cell 4;simp only [List.getElem?_toArray,List.getElem?_cons_zero,List.getElem?_cons_succ] at ps4;have ps5:=BPs.out.cell 5;simp only [List.getElem?_toArray,List.getElem?_cons_zero,List.getElem?_cons_succ] at ps5;have ps6:=BPs.out.cell 6;simp only [List.getElem?_toArray,List.getElem?_cons_zero,List.getElem?_cons_succ] at ps6;have ps7:=BPs.out.cell 7;simp only [List.getElem?_toArray,List.getElem?_cons_zero,List.getElem?_cons_succ] at ps7;have ps8:=BPs.out.cell 8;simp only [List.getElem?_toArray,List.getElem?_cons_zero,List.getElem?_cons_succ] at ps8;have ps9:=BPs.out.cell 9;simp only [List.getElem?_toArray,List.getElem?_cons_zero,List.getElem?_cons_succ] at ps9;have ps10:=BPs.out.cell 10;simp only [List.getElem?_toArray,List.getElem?_cons_zero,List.getElem?_cons_succ] at ps10;have ps11:=BPs.out.cell 11;simp only [List.getElem?_toArray,List.getElem?_cons_zero,List.getElem?_cons_succ] at ps11;have xs:=BXs.out.lt;have xs0:=BXs.out.cell 0;simp only [List.getElem?_toArray,List.getElem?_cons_zero,List.getElem?_cons_succ] at xs0;have xs1:=BXs.out.cell 1;simp only [List.getElem?_toArray,List.getElem?_cons_zero,List.getElem?_cons_succ] at xs1;have xs2:=BXs.out.cell 2;simp only [List.getElem?_toArray,List.getElem?_cons_zero,List.getElem?_cons_succ] at xs2;have xs3:=BXs.out.cell 3;simp only [List.getElem?_toArray,List.getElem?_cons_zero,List.getElem?_cons_succ] at xs3;have xs4:=BXs.out.cell 4;simp only [List.getElem?_toArray,List.getElem?_cons_zero,List.getElem?_cons_succ] at xs4;have xs5:=BXs.out.cell 5;simp only [List.getElem?_toArray,List.getElem?_cons_zero,List.getElem?_cons_succ] at xs5;have xs6:=BXs.out.cell 6;simp only [List.getElem?_toArray,List.getElem?_cons_zero,List.getElem?_cons_succ] at xs6;have xs7:=BXs.out.cell 7;simp only [List.getElem?_toArray,List.getElem?_cons_zero,List.getElem?_cons_succ] at xs7;have xs8:=BXs.out.cell 8;simp only [List.getElem?_toArray,List.getElem?_cons_zero,List.getElem?_cons_succ] at xs8;have xs9:=BXs.out.cell 9;simp only [List.getElem?_toArray,List.getElem?_cons_zero,List.getElem?_cons_succ] at xs9;have xs10:=BXs.out.cell 10;simp only [List.getElem?_toArray,List.getElem?_cons_zero,List.getElem?_cons_succ] at xs10;have xs11:=BXs.out.cell 11;simp only [List.getElem?_toArray,List.getElem?_cons_zero,List.getElem?_cons_succ] at xs11;go_wp2_with fail;refine (eqIntS_same _ _ _ _ _ _ X _ OR0.out.ints SP0.out).mono ?_;rintro e w6 ⟨rfl,x6⟩;have z6:=x6.size;replace BPs:=hid (BPs.out.kp (x6.kp BPs.out.lt));replace BXs:=hid (BXs.out.kp (x6.kp BXs.out.lt));replace SP0:=hid (SP0.out.kp (x6.kp (by first|omega|(simp;omega))));replace SP1:=hid (SP1.out.kp (x6.kp (by first|omega|(simp;omega))));replace OXs:=hid (OXs.out.kp (x6.kp (by first|omega|(simp;omega))));replace OR0:=hid (OR0.out.kp (x6.kp (by first|omega|(simp;omega))));replace OR1:=hid (OR1.out.kp (x6.kp (by first|omega|(simp;omega))));replace E:=E.trans x6;clear x6 ps ps0 ps1 ps2 ps3 ps4 ps5 ps6 ps7 ps8 ps9 ps10 ps11 xs xs0 xs1 xs2 xs3 xs4 xs5 xs6 xs7 xs8 xs9 xs10 xs11;have ps:=BPs.out.lt;have ps0:=BPs.out.cell 0;simp only [List.getElem?_toArray,List.getElem?_cons_zero,List.getElem?_cons_succ] at ps0;have ps1:=BPs.out.cell 1;simp only [List.getElem?_toArray,List.getElem?_cons_zero,List.getElem?_cons_succ] at ps1;have ps2:=BPs.out.cell 2;simp only [List.getElem?_toArray,List.getElem?_cons_zero,List.getElem?_cons_succ] at ps2;have ps3:=BPs.out.cell 3;simp only [List.getElem?_toArray,List.getElem?_cons_zero,List.getElem?_cons_succ] at ps3;have ps4:=BPs.out.cell 4;simp only [List.getElem?_toArray,List.getElem?_cons_zero,List.getElem?_cons_succ] at ps4;have ps5:=BPs.out.cell 5;simp only [List.getElem?_toArray,List.getElem?_cons_zero,List.getElem?_cons_succ] at ps5;have ps6:=BPs.out.cell 6;simp only [List.getElem?_toArray,List.getElem?_cons_zero,List.getElem?_cons_succ] at ps6;have ps7:=BPs.out.cell 7;simp only [List.getElem?_toArray,List.getElem?_cons_zero,List.getElem?_cons_succ] at ps7;have ps8:=BPs.out.cell 8;simp only [List.getElem?_toArray,List.getElem?_cons_zero,List.getElem?_cons_succ] at ps8;have ps9:=BPs.out.cell 9;simp only [List.getElem?_toArray,List.getElem?_cons_zero,List.getElem?_cons_succ] at ps9;have ps10:=BPs.out.cell 10;simp only [List.getElem?_toArray,List.getElem?_cons_zero,List.getElem?_cons_succ] at ps10;have ps11:=BPs.out.cell 11;simp only [List.getElem?_toArray,List.getElem?_cons_zero,List.getElem?_cons_succ] at ps11;have xs:=BXs.out.lt;have xs0:=BXs.out.cell 0;simp only [List.getElem?_toArray,List.getElem?_cons_zero,List.getElem?_cons_succ] at xs0;have xs1:=BXs.out.cell 1;simp only [List.getElem?_toArray,List.getElem?_cons_zero,List.getElem?_cons_succ] at xs1;have xs2:=BXs.out.cell 2;simp only [List.getElem?_toArray,List.getElem?_cons_zero,List.getElem?_cons_succ] at xs2;have xs3:=BXs.out.cell 3;simp only [List.getElem?_toArray,List.getElem?_cons_zero,List.getElem?_cons_succ] at xs3;have xs4:=BXs.out.cell 4;simp only [List.getElem?_toArray,List.getElem?_cons_zero,List.getElem?_cons_succ] at xs4;have xs5:=BXs.out.cell 5;simp only [List.getElem?_toArray,List.getElem?_cons_zero,List.getElem?_cons_succ] at xs5;have xs6:=BXs.out.cell 6;simp only [List.getElem?_toArray,List.getElem?_cons_zero,List.getElem?_cons_succ] at xs6;have xs7:=BXs.out.cell 7;simp only [List.getElem?_toArray,List.getElem?_cons_zero,List.getElem?_cons_succ] at xs7;have xs8:=BXs.out.cell 8;simp only [List.getElem?_toArray,List.getElem?_cons_zero,List.getElem?_cons_succ] at xs8;have xs9:=BXs.out.cell 9;simp only [List.getElem?_toArray,List.getElem?_cons_zero,List.getElem?_cons_succ] at xs9;have xs10:=BXs.out.cell 10;simp only [List.getElem?_toArray,List.getElem?_cons_zero,List.getElem?_cons_succ] at xs10;have xs11:=BXs.out.cell 11;simp only [List.getElem?_toArray,List.getElem?_cons_zero,List.getElem?_cons_succ] at xs11;go_wp2_with fail;refine (eqIntS_same _ _ _ _ _ _ Y _ OR1.out.ints SP1.out).mono ?_;rintro e w7 ⟨rfl,x7⟩;have z7:=x7.size;replace BPs:=hid (BPs.out.kp (x7.kp BPs.out.lt));replace BXs:=hid (BXs.out.kp (x7.kp BXs.out.lt));replace SP0:=hid (SP0.out.kp (x7.kp (by first|omega|(simp;omega))));replace SP1:=hid (SP1.out.kp (x7.kp (by first|omega|(simp;omega))));replace OXs:=hid (OXs.out.kp (x7.kp (by first|omega|(simp;omega))));replace OR0:=hid (OR0.out.kp (x7.kp (by first|omega|(simp;omega))));replace OR1:=hid (OR1.out.kp (x7.kp (by first|omega|(simp;omega))));replace E:=E.trans x7;clear x7 ps ps0 ps1 ps2 ps3 ps4 ps5 ps6 ps7 ps8 ps9 ps10 ps11 xs xs0 xs1 xs2 xs3 xs4 xs5 xs6 xs7 xs8 xs9 xs10 xs11;have ps:=BPs.out.lt;have ps0:=BPs.out.cell 0;simp only [List.getElem?_toArray,List.getElem?_cons_zero,List.getElem?_cons_succ] at ps0;have ps1:=BPs.out.cell 1;simp only [List.getElem?_toArray,List.getElem?_cons_zero,List.getElem?_cons_succ] at ps1;have ps2:=BPs.out.cell 2;simp only [List.getElem?_toArray,List.getElem?_cons_zero,List.getElem?_cons_succ] at ps2;have ps3:=BPs.out.cell 3;simp only [List.getElem?_toArray,List.getElem?_cons_zero,List.getElem?_cons_succ] at ps3;have ps4:=BPs.out.cell 4;simp only [List.getElem?_toArray,List.getElem?_cons_zero,List.getElem?_cons_succ] at ps4;have ps5:=BPs.out.cell 5;simp only [List.getElem?_toArray,List.getElem?_cons_zero,List.getElem?_cons_succ] at ps5;have ps6:=BPs.out.cell 6;simp only [List.getElem?_toArray,List.getElem?_cons_zero,List.getElem?_cons_succ] at ps6;have ps7:=BPs.out.cell 7;simp only [List.getElem?_toArray,List.getElem?_cons_zero,List.getElem?_cons_succ] at ps7;have ps8:=BPs.out.cell 8;simp only [List.getElem?_toArray,List.getElem?_cons_zero,List.getElem?_cons_succ] at ps8;have ps9:=BPs.out.cell 9;simp only [List.getElem?_toArray,List.getElem?_cons_zero,List.getElem?_cons_succ] at ps9;have ps10:=BPs.out.cell 10;simp only [List.getElem?_toArray,List.getElem?_cons_zero,List.getElem?_cons_succ] at ps10;have ps11:=BPs.out.cell 11;simp only [List.getElem?_toArray,List.getElem?_cons_zero,List.getElem?_cons_succ] at ps11;have xs:=BXs.out.lt;have xs0:=BXs.out.cell 0;simp only [List.getElem?_toArray,List.getElem?_cons_zero,List.getElem?_cons_succ] at xs0;have xs1:=BXs.out.cell 1;simp only [List.getElem?_toArray,List.getElem?_cons_zero,List.getElem?_cons_succ] at xs1;have xs2:=BXs.out.cell 2;simp only [List.getElem?_toArray,List.getElem?_cons_zero,List.getElem?_cons_succ] at xs2;have xs3:=BXs.out.cell 3;simp only [List.getElem?_toArray,List.getElem?_cons_zero,List.getElem?_cons_succ] at xs3;have xs4:=BXs.out.cell 4;simp only [List.getElem?_toArray,List.getElem?_cons_zero,List.getElem?_cons_succ] at xs4;have xs5:=BXs.out.cell 5;simp only [List.getElem?_toArray,List.getElem?_cons_zero,List.getElem?_cons_succ] at xs5;have xs6:=BXs.out.cell 6;simp only [List.getElem?_toArray,List.getElem?_cons_zero,List.getElem?_cons_succ] at xs6;have xs7:=BXs.out.cell 7;simp only [List.getElem?_toArray,List.getElem?_cons_zero,List.getElem?_cons_succ] at xs7;have xs8:=BXs.out.cell 8;simp only [List.getElem?_toArray,List.getElem?_cons_zero,List.getElem?_cons_succ] at xs8;have xs9:=BXs.out.cell 9;simp only [List.getElem?_toArray,List.getElem?_cons_zero,List.getElem?_cons_succ] at xs9;have xs10:=BXs.out.cell 10;simp only [List.getElem?_toArray,List.getElem?_cons_zero,List.getElem?_cons_succ] at xs10;have xs11:=BXs.out.cell 11;simp only [List.getElem?_toArray,List.getElem?_cons_zero,List.getElem?_cons_succ] at xs11;go_wp2_with fail;have zE:=E.size;refine wp_region_stages [([0,1],2),([],3),([],4)] 99 w7.heap.size (by kernel_rfl) (by kernel_rfl) ?_;refine st_ fun K hK=>?_;go_wp2_with fail;refine (toScene_any 0 W.heap.size _ s w7.drew (Hs.out.ext (Nat.le_refl _) E.drew) zE HSs.out).mono ?_;rintro e w8 ⟨v8,rfl,O8,x8⟩;have y8:Ext w7 w8:=Ext.trans X_ x8;have z8:=y8.size;go_wp2_with fail;refine hK _ _ (.inr (y8.same (Nat.le_refl _))) ?_;clear hK K;refine st_ fun K hK=>?_;go_wp2_with fail;refine (eqScene_same _ _ _ _ _ _ s _ (OXs.out.kp (y8.kp (by omega))).R (by omega) O8.R (Nat.le_refl _)).mono ?_;rintro e w9 ⟨rfl,x9⟩;have y9:Ext w7 w9:=y8.trans x9;have z9:=x9.size;go_wp2_with fail;refine hK _ _ (.inr (y9.same (Nat.le_refl _))) ?_;clear hK K;refine st_ fun K hK=>?_;go_wp2_with fail;refine hK _ _ (.inr (y9.same (Nat.le_refl _))) ?_;clear hK K;refine wpStages_nil ?_;replace BPs:=hid (BPs.out.kp (y9.kp BPs.out.lt));replace BXs:=hid (BXs.out.kp (y9.kp BXs.out.lt));replace SP0:=hid (SP0.out.kp (y9.kp (by first|omega|(simp;omega))));replace SP1:=hid (SP1.out.kp (y9.kp (by first|omega|(simp;omega))));replace OXs:=hid (OXs.out.kp (y9.kp (by first|omega|(simp;omega))));replace OR0:=hid (OR0.out.kp (y9.kp (by first|omega|(simp;omega))));replace OR1:=hid (OR1.out.kp (y9.kp (by first|omega|(simp;omega))));replace E:=E.trans y9;clear x8 y8 x9 y9 O8 ps ps0 ps1 ps2 ps3 ps4 ps5 ps6 ps7 ps8 ps9 ps10 ps11 xs xs0 xs1 xs2 xs3 xs4 xs5 xs6 xs7 xs8 xs9 xs10 xs11;have ps:=BPs.out.lt;have ps0:=BPs.out.cell 0;simp only [List.getElem?_toArray,List.getElem?_cons_zero,List.getElem?_cons_succ] at ps0;have ps1:=BPs.out.cell 1;simp only [List.getElem?_toArray,List.getElem?_cons_zero,List.getElem?_cons_succ] at ps1;have ps2:=BPs.out.cell 2;simp only [List.getElem?_toArray,List.getElem?_cons_zero,List.getElem?_cons_succ] at ps2;have ps3:=BPs.out.cell 3;simp only [List.getElem?_toArray,List.getElem?_cons_zero,List.getElem?_cons_succ] at ps3;have ps4:=BPs.out.cell 4;simp only [List.getElem?_toArray,List.getElem?_cons_zero,List.getElem?_cons_succ] at ps4;have ps5:=BPs.out.cell 5;simp only [List.getElem?_toArray,List.getElem?_cons_zero,List.getElem?_cons_succ] at ps5;have ps6:=BPs.out.cell 6;simp only [List.getElem?_toArray,List.getElem?_cons_zero,List.getElem?_cons_succ] at ps6;have ps7:=BPs.out.cell 7;simp only [List.getElem?_toArray,List.getElem?_cons_zero,List.getElem?_cons_succ] at ps7;have ps8:=BPs.out.cell 8;simp only [List.getElem?_toArray,List.getElem?_cons_zero,List.getElem?_cons_succ] at ps8;have ps9:=BPs.out.cell 9;simp only [List.getElem?_toArray,List.getElem?_cons_zero,List.getElem?_cons_succ] at ps9;have ps10:=BPs.out.cell 10;simp only [List.getElem?_toArray,List.getElem?_cons_zero,List.getElem?_cons_succ] at ps10;have ps11:=BPs.out.cell 11;simp only [List.getElem?_toArray,List.getElem?_cons_zero,List.getElem?_cons_succ] at ps11;have xs:=BXs.out.lt;have xs0:=BXs.out.cell 0;simp only [List.getElem?_toArray,List.getElem?_cons_zero,List.getElem?_cons_succ] at xs0;have xs1:=BXs.out.cell 1;simp only [List.getElem?_toArray,List.getElem?_cons_zero,List.getElem?_cons_succ] at xs1;have xs2:=BXs.out.cell 2;simp only [List.getElem?_toArray,List.getElem?_cons_zero,List.getElem?_cons_succ] at xs2;have xs3:=BXs.out.cell 3;simp only [List.getElem?_toArray,List.getElem?_cons_zero,List.getElem?_cons_succ] at xs3;have xs4:=BXs.out.cell 4;simp only [List.getElem?_toArray,List.getElem?_cons_zero,List.getElem?_cons_succ] at xs4;have xs5:=BXs.out.cell 5;simp only [List.getElem?_toArray,List.getElem?_cons_zero,List.getElem?_cons_succ] at xs5;have xs6:=BXs.out.cell 6;simp only [List.getElem?_toArray,List.getElem?_cons_zero,List.getElem?_cons_succ] at xs6;have xs7:=BXs.out.cell 7;simp only [List.getElem?_toArray,List.getElem?_cons_zero,List.getElem?_cons_succ] at xs7;have xs8:=BXs.out.cell 8;simp only [List.getElem?_toArray,List.getElem?_cons_zero,List.getElem?_cons_succ] at xs8;have xs9:=BXs.out.cell 9;simp only [List.getElem?_toArray,List.getElem?_cons_zero,List.getElem?_cons_succ] at xs9;have xs10:=BXs.out.cell 10;simp only [List.getElem?_toArray,List.getElem?_cons_zero,List.getElem?_cons_succ] at xs10;have xs11:=BXs.out.cell 11;simp only [List.getElem?_toArray,List.getElem?_cons_zero,List.getElem?_cons_succ] at xs11;go_wp2_with fail;refine (markScene_any _ _ _ s 1 _ OXs.out (by omega) (by omega) HSs.out (by omega) (by first|decide|omega)).mono ?_;rintro e w10 ⟨⟨k10,rfl,hk10⟩,x10⟩;have z10:=x10.size;have zE:=E.size;replace BPs:=hid (BPs.out.kp (x10.kp BPs.out.lt (by first|omega|(simp;omega))));replace BXs:=hid (BXs.out.kp (x10.kp BXs.out.lt (by first|omega|(simp;omega))));replace SP0:=hid (SP0.out.kp (x10.kp (by first|omega|(simp;omega)) (by first|omega|(simp;omega))));replace SP1:=hid (SP1.out.kp (x10.kp (by first|omega|(simp;omega)) (by first|omega|(simp;omega))));replace OR0:=hid (OR0.out.kp (x10.kp (by first|omega|(simp;omega)) (by first|omega|(simp;omega))));replace OR1:=hid (OR1.out.kp (x10.kp (by first|omega|(simp;omega)) (by first|omega|(simp;omega))));replace E:=x10.ext E (by omega);clear x10 ps ps0 ps1 ps2 ps3 ps4 ps5 ps6 ps7 ps8 ps9 ps10 ps11 xs xs0 xs1 xs2 xs3 xs4 xs5 xs6 xs7 xs8 xs9 xs10 xs11;have ps:=BPs.out.lt;have ps0:=BPs.out.cell 0;simp only [List.getElem?_toArray,List.getElem?_cons_zero,List.getElem?_cons_succ] at ps0;have ps1:=BPs.out.cell 1;simp only [List.getElem?_toArray,List.getElem?_cons_zero,List.getElem?_cons_succ] at ps1;have ps2:=BPs.out.cell 2;simp only [List.getElem?_toArray,List.getElem?_cons_zero,List.getElem?_cons_succ] at ps2;have ps3:=BPs.out.cell 3;simp only [List.getElem?_toArray,List.getElem?_cons_zero,List.getElem?_cons_succ] at ps3;have ps4:=BPs.out.cell 4;simp only [List.getElem?_toArray,List.getElem?_cons_zero,List.getElem?_cons_succ] at ps4;have ps5:=BPs.out.cell 5;simp only [List.getElem?_toArray,List.getElem?_cons_zero,List.getElem?_cons_succ] at ps5;have ps6:=BPs.out.cell 6;simp only [List.getElem?_toArray,List.getElem?_cons_zero,List.getElem?_cons_succ] at ps6;have ps7:=BPs.out.cell 7;simp only [List.getElem?_toArray,List.getElem?_cons_zero,List.getElem?_cons_succ] at ps7;have ps8:=BPs.out.cell 8;simp only [List.getElem?_toArray,List.getElem?_cons_zero,List.getElem?_cons_succ] at ps8;have ps9:=BPs.out.cell 9;simp only [List.getElem?_toArray,List.getElem?_cons_zero,List.getElem?_cons_succ] at ps9;have ps10:=BPs.out.cell 10;simp only [List.getElem?_toArray,List.getElem?_cons_zero,List.getElem?_cons_succ] at ps10;have ps11:=BPs.out.cell 11;simp only [List.getElem?_toArray,List.getElem?_cons_zero,List.getElem?_cons_succ] at ps11;have xs:=BXs.out.lt;have xs0:=BXs.out.cell 0;simp only [List.getElem?_toArray,List.getElem?_cons_zero,List.getElem?_cons_succ] at xs0;have xs1:=BXs.out.cell 1;simp only [List.getElem?_toArray,List.getElem?_cons_zero,List.getElem?_cons_succ] at xs1;have xs2:=BXs.out.cell 2;simp only [List.getElem?_toArray,List.getElem?_cons_zero,List.getElem?_cons_succ] at xs2;have xs3:=BXs.out.cell 3;simp only [List.getElem?_toArray,List.getElem?_cons_zero,List.getElem?_cons_succ] at xs3;have xs4:=BXs.out.cell 4;simp only [List.getElem?_toArray,List.getElem?_cons_zero,List.getElem?_cons_succ] at xs4;have xs5:=BXs.out.cell 5;simp only [List.getElem?_toArray,List.getElem?_cons_zero,List.getElem?_cons_succ] at xs5;have xs6:=BXs.out.cell 6;simp only [List.getElem?_toArray,List.getElem?_cons_zero,List.getElem?_cons_succ] at xs6;have xs7:=BXs.out.cell 7;simp only [List.getElem?_toArray,List.getElem?_cons_zero,List.getElem?_cons_succ] at xs7;have xs8:=BXs.out.cell 8;simp only [List.getElem?_toArray,List.getElem?_cons_zero,List.getElem?_cons_succ] at xs8;have xs9:=BXs.out.cell 9;simp only [List.getElem?_toArray,List.getElem?_cons_zero,List.getElem?_cons_succ] at xs9;have xs10:=BXs.out.cell 10;simp only [List.getElem?_toArray,List.getElem?_cons_zero,List.getElem?_cons_succ] at xs10;have xs11:=BXs.out.cell 11;simp only [List.getElem?_toArray,List.getElem?_cons_zero,List.getElem?_cons_succ] at xs11;go_wp2_with fail;refine (eqIntS_same _ _ _ _ _ _ X _ OR0.out.ints SP0.out).mono ?_;rintro e w11 ⟨rfl,x11⟩;have z11:=x11.size;replace BPs:=hid (BPs.out.kp (x11.kp BPs.out.lt));replace BXs:=hid (BXs.out.kp (x11.kp BXs.out.lt));replace SP0:=hid (SP0.out.kp (x11.kp (by first|omega|(simp;omega))));replace SP1:=hid (SP1.out.kp (x11.kp (by first|omega|(simp;omega))));replace OR0:=hid (OR0.out.kp (x11.kp (by first|omega|(simp;omega))));replace OR1:=hid (OR1.out.kp (x11.kp (by first|omega|(simp;omega))));replace E:=E.trans x11;clear x11 ps ps0 ps1 ps2 ps3 ps4 ps5 ps6 ps7 ps8 ps9 ps10 ps11 xs xs0 xs1 xs2 xs3 xs4 xs5 xs6 xs7 xs8 xs9 xs10 xs11;have ps:=BPs.out.lt;have ps0:=BPs.out.cell 0;simp only [List.getElem?_toArray,List.getElem?_cons_zero,List.getElem?_cons_succ] at ps0;have ps1:=BPs.out.cell 1;simp only [List.getElem?_toArray,List.getElem?_cons_zero,List.getElem?_cons_succ] at ps1;have ps2:=BPs.out.cell 2;simp only [List.getElem?_toArray,List.getElem?_cons_zero,List.getElem?_cons_succ] at ps2;have ps3:=BPs.out.cell 3;simp only [List.getElem?_toArray,List.getElem?_cons_zero,List.getElem?_cons_succ] at ps3;have ps4:=BPs.out.cell 4;simp only [List.getElem?_toArray,List.getElem?_cons_zero,List.getElem?_cons_succ] at ps4;have ps5:=BPs.out.cell 5;simp only [List.getElem?_toArray,List.getElem?_cons_zero,List.getElem?_cons_succ] at ps5;have ps6:=BPs.out.cell 6;simp only [List.getElem?_toArray,List.getElem?_cons_zero,List.getElem?_cons_succ] at ps6;have ps7:=BPs.out.cell 7;simp only [List.getElem?_toArray,List.getElem?_cons_zero,List.getElem?_cons_succ] at ps7;have ps8:=BPs.out.cell 8;simp only [List.getElem?_toArray,List.getElem?_cons_zero,List.getElem?_cons_succ] at ps8;have ps9:=BPs.out.cell 9;simp only [List.getElem?_toArray,List.getElem?_cons_zero,List.getElem?_cons_succ] at ps9;have ps10:=BPs.out.cell 10;simp only [List.getElem?_toArray,List.getElem?_cons_zero,List.getElem?_cons_succ] at ps10;have ps11:=BPs.out.cell 11;simp only [List.getElem?_toArray,List.getElem?_cons_zero,List.getElem?_cons_succ] at ps11;have xs:=BXs.out.lt;have xs0:=BXs.out.cell 0;simp only [List.getElem?_toArray,List.getElem?_cons_zero,List.getElem?_cons_succ] at xs0;have xs1:=BXs.out.cell 1;simp only [List.getElem?_toArray,List.getElem?_cons_zero,List.getElem?_cons_succ] at xs1;have xs2:=BXs.out.cell 2;simp only [List.getElem?_toArray,List.getElem?_cons_zero,List.getElem?_cons_succ] at xs2;have xs3:=BXs.out.cell 3;simp only [List.getElem?_toArray,List.getElem?_cons_zero,List.getElem?_cons_succ] at xs3;have xs4:=BXs.out.cell 4;simp only [List.getElem?_toArray,List.getElem?_cons_zero,List.getElem?_cons_succ] at xs4;have xs5:=BXs.out.cell 5;simp only [List.getElem?_toArray,List.getElem?_cons_zero,List.getElem?_cons_succ] at xs5;have xs6:=BXs.out.cell 6;simp only [List.getElem?_toArray,List.getElem?_cons_zero,List.getElem?_cons_succ] at xs6;have xs7:=BXs.out.cell 7;simp only [List.getElem?_toArray,List.getElem?_cons_zero,List.getElem?_cons_succ] at xs7;have xs8:=BXs.out.cell 8;simp only [List.getElem?_toArray,List.getElem?_cons_zero,List.getElem?_cons_succ] at xs8;have xs9:=BXs.out.cell 9;simp only [List.getElem?_toArray,List.getElem?_cons_zero,List.getElem?_cons_succ] at xs9;have xs10:=BXs.out.cell 10;simp only [List.getElem?_toArray,List.getElem?_cons_zero,List.getElem?_cons_succ] at xs10;have xs11:=BXs.out.cell 11;simp only [List.getElem?_toArray,List.getElem?_cons_zero,List.getElem?_cons_succ] at xs11;go_wp2_with fail;refine (eqIntS_same _ _ _ _ _ _ Y _ OR1.out.ints SP1.out).mono ?_;rintro e w12 ⟨rfl,x12⟩;have z12:=x12.size;replace BPs:=hid (BPs.out.kp (x12.kp BPs.out.lt));replace BXs:=hid (BXs.out.kp (x12.kp BXs.out.lt));replace SP0:=hid (SP0.out.kp (x12.kp (by first|omega|(simp;omega))));replace SP1:=hid (SP1.out.kp (x12.kp (by first|omega|(simp;omega))));replace OR0:=hid (OR0.out.kp (x12.kp (by first|omega|(simp;omega))));replace OR1:=hid (OR1.out.kp (x12.kp (by first|omega|(simp;omega))));replace E:=E.trans x12;clear x12 ps ps0 ps1 ps2 ps3 ps4 ps5 ps6 ps7 ps8 ps9 ps10 ps11 xs xs0 xs1 xs2 xs3 xs4 xs5 xs6 xs7 xs8 xs9 xs10 xs11;have ps:=BPs.out.lt;have ps0:=BPs.out.cell 0;simp only [List.getElem?_toArray,List.getElem?_cons_zero,List.getElem?_cons_succ] at ps0;have ps1:=BPs.out.cell 1;simp only [List.getElem?_toArray,List.getElem?_cons_zero,List.getElem?_cons_succ] at ps1;have ps2:=BPs.out.cell 2;simp only [List.getElem?_toArray,List.getElem?_cons_zero,List.getElem?_cons_succ] at ps2;have ps3:=BPs.out.cell 3;simp only [List.getElem?_toArray,List.getElem?_cons_zero,List.getElem?_cons_succ] at ps3;have ps4:=BPs.out.cell 4;simp only [List.getElem?_toArray,List.getElem?_cons_zero,List.getElem?_cons_succ] at ps4;have ps5:=BPs.out.cell 5;simp only [List.getElem?_toArray,List.getElem?_cons_zero,List.getElem?_cons_succ] at ps5;have ps6:=BPs.out.cell 6;simp only [List.getElem?_toArray,List.getElem?_cons_zero,List.getElem?_cons_succ] at ps6;have ps7:=BPs.out.cell 7;simp only [List.getElem?_toArray,List.getElem?_cons_zero,List.getElem?_cons_succ] at ps7;have ps8:=BPs.out.cell 8;simp only [List.getElem?_toArray,List.getElem?_cons_zero,List.getElem?_cons_succ] at ps8;have ps9:=BPs.out.cell 9;simp only [List.getElem?_toArray,List.getElem?_cons_zero,List.getElem?_cons_succ] at ps9;have ps10:=BPs.out.cell 10;simp only [List.getElem?_toArray,List.getElem?_cons_zero,List.getElem?_cons_succ] at ps10;have ps11:=BPs.out.cell 11;simp only [List.getElem?_toArray,List.getElem?_cons_zero,List.getElem?_cons_succ] at ps11;have xs:=BXs.out.lt;have xs0:=BXs.out.cell 0;simp only [List.getElem?_toArray,List.getElem?_cons_zero,List.getElem?_cons_succ] at xs0;have xs1:=BXs.out.cell 1;simp only [List.getElem?_toArray,List.getElem?_cons_zero,List.getElem?_cons_succ] at xs1;have xs2:=BXs.out.cell 2;simp only [List.getElem?_toArray,List.getElem?_cons_zero,List.getElem?_cons_succ] at xs2;have xs3:=BXs.out.cell 3;simp only [List.getElem?_toArray,List.getElem?_cons_zero,List.getElem?_cons_succ] at xs3;have xs4:=BXs.out.cell 4;simp only [List.getElem?_toArray,List.getElem?_cons_zero,List.getElem?_cons_succ] at xs4;have xs5:=BXs.out.cell 5;simp only [List.getElem?_toArray,List.getElem?_cons_zero,List.getElem?_cons_succ] at xs5;have xs6:=BXs.out.cell 6;simp only [List.getElem?_toArray,List.getElem?_cons_zero,List.getElem?_cons_succ] at xs6;have xs7:=BXs.out.cell 7;simp only [List.getElem?_toArray,List.getElem?_cons_zero,List.getElem?_cons_succ] at xs7;have xs8:=BXs.out.cell 8;simp only [List.getElem?_toArray,List.getElem?_cons_zero,List.getElem?_cons_succ] at xs8;have xs9:=BXs.out.cell 9;simp only [List.getElem?_toArray,List.getElem?_cons_zero,List.getElem?_cons_succ] at xs9;have xs10:=BXs.out.cell 10;simp only [List.getElem?_toArray,List.getElem?_cons_zero,List.getElem?_cons_succ] at xs10;have xs11:=BXs.out.cell 11;simp only [List.getElem?_toArray,List.getElem?_cons_zero,List.getElem?_cons_succ] at xs11;clear BXs xs xs0 xs1 xs2 xs3 xs4 xs5 xs6 xs7 xs8 xs9 xs10 xs11;go_wp2_with fail;refine (markIntS_o _ _ _ X 1 _ OR0.out (by omega) (by omega) (by omega)).mono ?_;rintro e w13 ⟨rfl,M13,x13⟩;have z13:=x13.size;have zE:=E.size;replace BPs:=hid (BPs.out.kp (x13.kp BPs.out.lt (by first|omega|(simp;omega))));replace SP0:=hid (SP0.out.kp (x13.kp (by first|omega|(simp;omega)) (by first|omega|(simp;omega))));replace SP1:=hid (SP1.out.kp (x13.kp (by first|omega|(simp;omega)) (by first|omega|(simp;omega))));replace OR1:=hid (OR1.out.kp (x13.kp (by first|omega|(simp;omega)) (by first|omega|(simp;omega))));replace E:=x13.ext E (by omega);replace OR0:=hid M13;clear x13 M13 ps ps0 ps1 ps2 ps3 ps4 ps5 ps6 ps7 ps8 ps9 ps10 ps11;have ps:=BPs.out.lt;have ps0:=BPs.out.cell 0;simp only [List.getElem?_toArray,List.getElem?_cons_zero,List.getElem?_cons_succ] at ps0;have ps1:=BPs.out.cell 1;simp only [List.getElem?_toArray,List.getElem?_cons_zero,List.getElem?_cons_succ] at ps1;have ps2:=BPs.out.cell 2;simp only [List.getElem?_toArray,List.getElem?_cons_zero,List.getElem?_cons_succ] at ps2;have ps3:=BPs.out.cell 3;simp only [List.getElem?_toArray,List.getElem?_cons_zero,List.getElem?_cons_succ] at ps3;have ps4:=BPs.out.cell 4;simp only [List.getElem?_toArray,List.getElem?_cons_zero,List.getElem?_cons_succ] at ps4;have ps5:=BPs.out.cell 5;simp only [List.getElem?_toArray,List.getElem?_cons_zero,List.getElem?_cons_succ] at ps5;have ps6:=BPs.out.cell 6;simp only [List.getElem?_toArray,List.getElem?_cons_zero,List.getElem?_cons_succ] at ps6;have ps7:=BPs.out.cell 7;simp only [List.getElem?_toArray,List.getElem?_cons_zero,List.getElem?_cons_succ] at ps7;have ps8:=BPs.out.cell 8;simp only [List.getElem?_toArray,List.getElem?_cons_zero,List.getElem?_cons_succ] at ps8;have ps9:=BPs.out.cell 9;simp only [List.getElem?_toArray,List.getElem?_cons_zero,List.getElem?_cons_succ] at ps9;have ps10:=BPs.out.cell 10;simp only [List.getElem?_toArray,List.getElem?_cons_zero,List.getElem?_cons_succ] at ps10;have ps11:=BPs.out.cell 11;simp only [List.getElem?_toArray,List.getElem?_cons_zero,List.getElem?_cons_succ] at ps11;go_wp2_with fail;refine (markIntS_o _ _ _ Y (1+X.length) _ OR1.out (by omega) (by omega) (by omega)).mono ?_;rintro e w14 ⟨rfl,M14,x14⟩;have z14:=x14.size;have zE:=E.size;replace BPs:=hid (BPs.out.kp (x14.kp BPs.out.lt (by first|omega|(simp;omega))));replace SP0:=hid (SP0.out.kp (x14.kp (by first|omega|(simp;omega)) (by first|omega|(simp;omega))));replace SP1:=hid (SP1.out.kp (x14.kp (by first|omega|(simp;omega)) (by first|omega|(simp;omega))));replace OR0:=hid (OR0.out.kp (x14.kp (by first|omega|(simp;omega)) (by first|omega|(simp;omega))));replace E:=x14.ext E (by omega);replace OR1:=hid M14;clear x14 M14 ps ps0 ps1 ps2 ps3 ps4 ps5 ps6 ps7 ps8 ps9 ps10 ps11;have ps:=BPs.out.lt;have ps0:=BPs.out.cell 0;simp only [List.getElem?_toArray,List.getElem?_cons_zero,List.getElem?_cons_succ] at ps0;have ps1:=BPs.out.cell 1;simp only [List.getElem?_toArray,List.getElem?_cons_zero,List.getElem?_cons_succ] at ps1;have ps2:=BPs.out.cell 2;simp only [List.getElem?_toArray,List.getElem?_cons_zero,List.getElem?_cons_succ] at ps2;have ps3:=BPs.out.cell 3;simp only [List.getElem?_toArray,List.getElem?_cons_zero,List.getElem?_cons_succ] at ps3;have ps4:=BPs.out.cell 4;simp only [List.getElem?_toArray,List.getElem?_cons_zero,List.getElem?_cons_succ] at ps4;have ps5:=BPs.out.cell 5;simp only [List.getElem?_toArray,List.getElem?_cons_zero,List.getElem?_cons_succ] at ps5;have ps6:=BPs.out.cell 6;simp only [List.getElem?_toArray,List.getElem?_cons_zero,List.getElem?_cons_succ] at ps6;have ps7:=BPs.out.cell 7;simp only [List.getElem?_toArray,List.getElem?_cons_zero,List.getElem?_cons_succ] at ps7;have ps8:=BPs.out.cell 8;simp only [List.getElem?_toArray,List.getElem?_cons_zero,List.getElem?_cons_succ] at ps8;have ps9:=BPs.out.cell 9;simp only [List.getElem?_toArray,List.getElem?_cons_zero,List.getElem?_cons_succ] at ps9;have ps10:=BPs.out.cell 10;simp only [List.getElem?_toArray,List.getElem?_cons_zero,List.getElem?_cons_succ] at ps10;have ps11:=BPs.out.cell 11;simp only [List.getElem?_toArray,List.getElem?_cons_zero,List.getElem?_cons_succ] at ps11;go_wp2_with fail;refine (heldIntS_up _ _ _ X.length 1 _ OR0.out.ints (by omega) (by omega)).mono ?_;rintro e w15 ⟨rfl,x15⟩;have z15:=x15.size;replace BPs:=hid (BPs.out.kp (x15.kp BPs.out.lt));replace SP0:=hid (SP0.out.kp (x15.kp (by first|omega|(simp;omega))));replace SP1:=hid (SP1.out.kp (x15.kp (by first|omega|(simp;omega))));replace OR0:=hid (OR0.out.kp (x15.kp (by first|omega|(simp;omega))));replace OR1:=hid (OR1.out.kp (x15.kp (by first|omega|(simp;omega))));replace E:=E.trans x15;clear x15 ps ps0 ps1 ps2 ps3 ps4 ps5 ps6 ps7 ps8 ps9 ps10 ps11;have ps:=BPs.out.lt;have ps0:=BPs.out.cell 0;simp only [List.getElem?_toArray,List.getElem?_cons_zero,List.getElem?_cons_succ] at ps0;have ps1:=BPs.out.cell 1;simp only [List.getElem?_toArray,List.getElem?_cons_zero,List.getElem?_cons_succ] at ps1;have ps2:=BPs.out.cell 2;simp only [List.getElem?_toArray,List.getElem?_cons_zero,List.getElem?_cons_succ] at ps2;have ps3:=BPs.out.cell 3;simp only [List.getElem?_toArray,List.getElem?_cons_zero,List.getElem?_cons_succ] at ps3;have ps4:=BPs.out.cell 4;simp only [List.getElem?_toArray,List.getElem?_cons_zero,List.getElem?_cons_succ] at ps4;have ps5:=BPs.out.cell 5;simp only [List.getElem?_toArray,List.getElem?_cons_zero,List.getElem?_cons_succ] at ps5;have ps6:=BPs.out.cell 6;simp only [List.getElem?_toArray,List.getElem?_cons_zero,List.getElem?_cons_succ] at ps6;have ps7:=BPs.out.cell 7;simp only [List.getElem?_toArray,List.getElem?_cons_zero,List.getElem?_cons_succ] at ps7;have ps8:=BPs.out.cell 8;simp only [List.getElem?_toArray,List.getElem?_cons_zero,List.getElem?_cons_succ] at ps8;have ps9:=BPs.out.cell 9;simp only [List.getElem?_toArray,List.getElem?_cons_zero,List.getElem?_cons_succ] at ps9;have ps10:=BPs.out.cell 10;simp only [List.getElem?_toArray,List.getElem?_cons_zero,List.getElem?_cons_succ] at ps10;have ps11:=BPs.out.cell 11;simp only [List.getElem?_toArray,List.getElem?_cons_zero,List.getElem?_cons_succ] at ps11;go_wp2_with fail;refine (heldIntS_up _ _ _ Y.length (1+X.length) _ OR1.out.ints (by omega) (by omega)).mono ?_;rintro e w16 ⟨rfl,x16⟩;have z16:=x16.size;replace BPs:=hid (BPs.out.kp (x16.kp BPs.out.lt));replace SP0:=hid (SP0.out.kp (x16.kp (by first|omega|(simp;omega))));replace SP1:=hid (SP1.out.kp (x16.kp (by first|omega|(simp;omega))));replace OR0:=hid (OR0.out.kp (x16.kp (by first|omega|(simp;omega))));replace OR1:=hid (OR1.out.kp (x16.kp (by first|omega|(simp;omega))));replace E:=E.trans x16;clear x16 ps ps0 ps1 ps2 ps3 ps4 ps5 ps6 ps7 ps8 ps9 ps10 ps11;have ps:=BPs.out.lt;have ps0:=BPs.out.cell 0;simp only [List.getElem?_toArray,List.getElem?_cons_zero,List.getElem?_cons_succ] at ps0;have ps1:=BPs.out.cell 1;simp only [List.getElem?_toArray,List.getElem?_cons_zero,List.getElem?_cons_succ] at ps1;have ps2:=BPs.out.cell 2;simp only [List.getElem?_toArray,List.getElem?_cons_zero,List.getElem?_cons_succ] at ps2;have ps3:=BPs.out.cell 3;simp only [List.getElem?_toArray,List.getElem?_cons_zero,List.getElem?_cons_succ] at ps3;have ps4:=BPs.out.cell 4;simp only [List.getElem?_toArray,List.getElem?_cons_zero,List.getElem?_cons_succ] at ps4;have ps5:=BPs.out.cell 5;simp only [List.getElem?_toArray,List.getElem?_cons_zero,List.getElem?_cons_succ] at ps5;have ps6:=BPs.out.cell 6;simp only [List.getElem?_toArray,List.getElem?_cons_zero,List.getElem?_cons_succ] at ps6;have ps7:=BPs.out.cell 7;simp only [List.getElem?_toArray,List.getElem?_cons_zero,List.getElem?_cons_succ] at ps7;have ps8:=BPs.out.cell 8;simp only [List.getElem?_toArray,List.getElem?_cons_zero,List.getElem?_cons_succ] at ps8;have ps9:=BPs.out.cell 9;simp only [List.getElem?_toArray,List.getElem?_cons_zero,List.getElem?_cons_succ] at ps9;have ps10:=BPs.out.cell 10;simp only [List.getElem?_toArray,List.getElem?_cons_zero,List.getElem?_cons_succ] at ps10;have ps11:=BPs.out.cell 11;simp only [List.getElem?_toArray,List.getElem?_cons_zero,List.getElem?_cons_succ] at ps11;have zE:=E.size;go_wp2_with fail;refine (toScene_any 0 W.heap.size _ s _ (Hs.out.ext (Nat.le_refl _) E) zE HSs.out).mono ?_;rintro e w17 ⟨v17,rfl,O17,x17⟩;have y17:Ext w16 w17:=x17;have z17:=y17.size;go_wp2_with fail;refine (iShadeSurf_val _ _ _ s a _ HQ.out O17.R (Nat.le_refl _) HSs.out.small).mono ?_;rintro e w18 ⟨r18,q18,rfl,h18,la18,lb18,O18,Q18,x18⟩;have y18:Ext w16 w18:=y17.trans x18;have z18:=x18.size;replace BPs:=hid (BPs.out.kp (y18.kp BPs.out.lt));replace SP0:=hid (SP0.out.kp (y18.kp (by first|omega|(simp;omega))));replace SP1:=hid (SP1.out.kp (y18.kp (by first|omega|(simp;omega))));replace OR0:=hid (OR0.out.kp (y18.kp (by first|omega|(simp;omega))));replace OR1:=hid (OR1.out.kp (y18.kp (by first|omega|(simp;omega))));replace E:=E.trans y18;have OT0:=hid O18;have OT1:=hid Q18;clear x17 y17 x18 y18 O17 O18 Q18;clear ps ps0 ps1 ps2 ps3 ps4 ps5 ps6 ps7 ps8 ps9 ps10 ps11 BPs;go_wp2_with fail;refine (eqIntS_same _ _ _ _ _ _ X _ OT0.out.ints SP0.out).mono ?_;rintro e w19 ⟨rfl,x19⟩;have z19:=x19.size;replace SP0:=hid (SP0.out.kp (x19.kp (by first|omega|(simp;omega))));replace SP1:=hid (SP1.out.kp (x19.kp (by first|omega|(simp;omega))));replace OR0:=hid (OR0.out.kp (x19.kp (by first|omega|(simp;omega))));replace OR1:=hid (OR1.out.kp (x19.kp (by first|omega|(simp;omega))));replace OT0:=hid (OT0.out.kp (x19.kp (by first|omega|(simp;omega))));replace OT1:=hid (OT1.out.kp (x19.kp (by first|omega|(simp;omega))));replace E:=E.trans x19;clear x19;go_wp2_with fail;refine (eqIntS_same _ _ _ _ _ _ Y _ OT1.out.ints SP1.out).mono ?_;rintro e w20 ⟨rfl,x20⟩;have z20:=x20.size;replace SP0:=hid (SP0.out.kp (x20.kp (by first|omega|(simp;omega))));replace SP1:=hid (SP1.out.kp (x20.kp (by first|omega|(simp;omega))));replace OR0:=hid (OR0.out.kp (x20.kp (by first|omega|(simp;omega))));replace OR1:=hid (OR1.out.kp (x20.kp (by first|omega|(simp;omega))));replace OT0:=hid (OT0.out.kp (x20.kp (by first|omega|(simp;omega))));replace OT1:=hid (OT1.out.kp (x20.kp (by first|omega|(simp;omega))));replace E:=E.trans x20;clear x20;clear OT0 OT1 SP0 SP1;go_wp2_with fail;refine (heldIntS_up _ _ _ X.length 1 _ OR0.out.ints (by omega) (by omega)).mono ?_;rintro e w21 ⟨rfl,x21⟩;have z21:=x21.size;replace OR0:=hid (OR0.out.kp (x21.kp (by first|omega|(simp;omega))));replace OR1:=hid (OR1.out.kp (x21.kp (by first|omega|(simp;omega))));replace E:=E.trans x21;clear x21;go_wp2_with fail;refine (heldIntS_up _ _ _ Y.length (1+X.length) _ OR1.out.ints (by omega) (by omega)).mono ?_;rintro e w22 ⟨rfl,x22⟩;have z22:=x22.size;replace OR0:=hid (OR0.out.kp (x22.kp (by first|omega|(simp;omega))));replace OR1:=hid (OR1.out.kp (x22.kp (by first|omega|(simp;omega))));replace E:=E.trans x22;clear x22;go_wp2_with fail;go_ret;exact ⟨rfl,E⟩
section
open Go.ChangeShapes Go.WideShapes Go.ChangeAt Go.RowKit
section
variable {H : Type} {enc : TypeId × Value → H} {W : World} {base b0 : Nat} {sp : Nat → Bool} {held : Bool}
theorem wf_I64 {n:Int} (h:(Lit.int .i64 n).wf=true):I64 n:=by
 simp [Lit.wf,IntKind.min,IntKind.max,IntKind.signed,IntKind.bits] at h;exact ⟨by omega,by omega⟩
theorem argInt {v:Value} {d:DataW H} {p:List MemPlace} (hv:Value.okWide Tryz.prog W .any b0 3 v) (h:DataW.Trod enc Tryz.prog W base sp held 3 v d p):∃n,v = .int .i64 n∧I64 n:=by
 obtain ⟨n,rfl,_,_,hw⟩:=open_int Tryz.underlying3 hv h;exact ⟨n,rfl,wf_I64 hw⟩
theorem cellInts {fuel:Nat} {c:Value} {y:DataW H×List MemPlace} (h:DataW.trod enc Tryz.prog W base sp held fuel 25 [c]=some y):∃xs,Ints 0 W.heap.size W c xs:=by
 rcases open_ints Tryz.underlying25 Tryz.underlying3 (by kernel_rfl) h with ⟨hcs,_⟩|⟨a,len,cap,zs,hcs,_,hl,hm,hz,_,hcell,hwz⟩
 ·obtain rfl:c = .slice none 0 0:=by simpa using hcs
  exact ⟨[],none,0,rfl,Nat.le_refl _,by unfold maxLen;omega,fun i x hx=>by simp at hx⟩
 ·obtain rfl:c = .slice (some a) len cap:=by simpa using hcs
  have hlen:(zs.take len).length=len:=by
   rw [List.length_take,hz]
   split <;> omega
  refine ⟨zs.take len,some a,cap,by rw [hlen],by omega,hm,fun i x hx=>?_⟩
  have hi:i<len:=by have:=(List.getElem?_eq_some_iff.1 hx).1;omega
  rw [List.getElem?_take,if_pos hi] at hx;have hzi:=(List.getElem?_eq_some_iff.1 hx).1
  have hxx:zs.getD i 0=x:=by simp [List.getD,hx]
  obtain ⟨b,o,s⟩:=a
  obtain rfl:s=none:=by
   cases s with
   | none=>rfl
   | some s=>
    have h0:=hcell 0 (by omega);simp only [World.cell?,Addr.add,if_true] at h0
    split at h0 <;> simp at h0
  have hc:=hcell i hzi;rw [hxx] at hc
  have ha:(⟨b,o,none⟩:Addr).add i=⟨b,o+i,none⟩:=by
   unfold Addr.add
   split
   ·rename_i e;subst e;rfl
   ·rfl
  rw [ha] at hc;refine ⟨wf_I64 (hwz x (List.mem_of_getElem? hx)),b,o,rfl,Nat.zero_le _,?_,hc⟩;simp only [World.cell?] at hc
  split at hc
  ·rename_i e;exact (Array.getElem?_eq_some_iff.1 e).1
  ·cases hc
end
end
section
open Go.ChangeShapes Go.WideShapes Go.ChangeAt Go.RowKit
def leafAt (P:Program):Nat→TypeId→Nat→Option TypeId
 | 0,_,_=>none
 | d+1,t,i=>
  match P.underlying t with
  | some (.struct fs)=>
   match fs.toList.find? (fun f=>decide (f.offset≤i)&&decide (i<f.offset+P.cellsOf f.type)) with
   | some f=>
    match leafAt P d f.type (i - f.offset) with
    | some u=>if (i - f.offset)+P.cellsOf u≤P.cellsOf f.type then some u else none
    | none=>none
   | none=>none
  | some (.array n e)=>
   if i / P.cellsOf e<n then
    match leafAt P d e (i % P.cellsOf e) with
    | some u=>if (i % P.cellsOf e)+P.cellsOf u≤P.cellsOf e then some u else none
    | none=>none
   else none
  | some _=>if i=0 then some t else none
  | none=>none
section
variable {H : Type} {enc : TypeId × Value → H} {P : Program} {W : World} {base : Nat} {sp : Nat → Bool} {held : Bool}
theorem take_drop_in {α : Type} (l:List α) (o k i c:Nat) (h1:o≤i) (h2:i - o+c≤k):((((l.drop o).take k).drop (i - o)).take c)=(l.drop i).take c:=by
 rw [List.drop_take,List.take_take,List.drop_drop,Nat.min_eq_left (by omega)]
 congr 2
 omega
theorem trod_leaf (d:Nat):∀{t u:TypeId} {i fuel:Nat} {cs:List Value} {x:DataW H×List MemPlace},leafAt P d t i=some u→DataW.trod enc P W base sp held fuel t cs=some x →
  (i=0∧t=u)∨∃(m:Nat) (y:DataW H×List MemPlace),DataW.trod enc P W base sp held m u ((cs.drop i).take (P.cellsOf u))=some y:=by
 induction d with
 | zero=>intro t u i fuel cs x h;simp [leafAt] at h
 | succ d ih=>
  intro t u i fuel cs x h hx;unfold leafAt at h
  split at h
  ·rename_i fs hfs
   split at h
   ·rename_i f hf
    have hp:=List.find?_some hf;simp only [Bool.and_eq_true,decide_eq_true_eq] at hp;have hm:=List.mem_of_find?_eq_some hf
    split at h
    ·rename_i u' hu
     split at h
     ·rename_i hfit
      simp only [Option.some.injEq] at h;subst h;obtain ⟨xs,n,_,_,hl,hlen,hg⟩:=DataW.trod_struct hfs hx;obtain ⟨j,hj⟩:=List.getElem?_of_mem hm
      have hj':fs[j]?=some f:=by simpa using hj
      have h1:=hg j f hj'
      have hjl:j<xs.length:=by rw [hlen];exact (Array.getElem?_eq_some_iff.1 hj').1
      rw [List.getElem?_eq_getElem hjl] at h1;refine .inr ?_
      rcases ih hu h1 with ⟨h2,rfl⟩|⟨m,y,hy⟩
      ·refine ⟨n,xs[j],?_⟩
       have:f.offset=i:=by omega
       rw [←this];exact h1
      ·rw [take_drop_in _ _ _ _ _ hp.1 hfit] at hy
       exact ⟨m,y,hy⟩
     ·cases h
    ·cases h
   ·cases h
  ·rename_i n e hfs
   split at h
   ·rename_i hn
    split at h
    ·rename_i u' hu
     split at h
     ·rename_i hfit
      simp only [Option.some.injEq] at h;subst h;obtain ⟨xs,m',_,_,hl,hlen,hg⟩:=DataW.trod_array hfs hx;have h1:=hg _ hn;rw [List.getElem?_eq_getElem (by omega)] at h1;have hdm:=Nat.div_add_mod i (P.cellsOf e);rw [Nat.mul_comm] at hdm;refine .inr ?_
      rcases ih hu h1 with ⟨h2,rfl⟩|⟨m,y,hy⟩
      ·refine ⟨m',xs[i / P.cellsOf e]'(by omega),?_⟩
       have:i / P.cellsOf e*P.cellsOf e=i:=by omega
       rw [this] at h1;exact h1
      ·have h3:i % P.cellsOf e=i - i / P.cellsOf e*P.cellsOf e:=by omega
       rw [h3] at hy hfit;rw [take_drop_in _ _ _ _ _ (by omega) hfit] at hy;exact ⟨m,y,hy⟩
     ·cases h
    ·cases h
   ·cases h
  ·split at h
   ·rename_i hi
    simp only [Option.some.injEq] at h;exact .inl ⟨hi,h⟩
   ·cases h
  ·cases h
def onlyInts (P:Program) (t:TypeId) (k:Nat) (ti:TypeId):Bool:=decide (P.cellsOf t=k)&&decide (P.cellsOf ti=1)&&decide (t≠ti)&&(List.range k).all fun i=>decide (leafAt P 6 t i=some ti)
theorem trod_ints {t ti:TypeId} {k fuel:Nat} {cs:List Value} {x:DataW H×List MemPlace} (hi:P.underlying ti=some (.int .i64)) (ho:onlyInts P t k ti=true) (h:DataW.trod enc P W base sp held fuel t cs=some x) :
  ∀i,i<k→∃n,cs[i]?=some (.int .i64 n)∧I64 n:=by
 intro i hik;simp only [onlyInts,Bool.and_eq_true,decide_eq_true_eq,List.all_eq_true,List.mem_range] at ho;obtain ⟨⟨⟨h1,h2⟩,h3⟩,h4⟩:=ho
 rcases trod_leaf 6 (h4 i hik) h with ⟨_,e⟩|⟨m,y,hy⟩
 ·exact absurd e h3
 ·rw [h2] at hy
  obtain ⟨n,e0,_,hw⟩:=DataW.trod_int hi hy;refine ⟨n,?_,?_⟩
  ·have:((cs.drop i).take 1)[0]?=some (.int .i64 n):=by rw [e0];rfl
   rw [List.getElem?_take,if_pos (by decide),List.getElem?_drop] at this;exact this
  ·simp [Lit.wf,IntKind.min,IntKind.max,IntKind.signed,IntKind.bits] at hw
   exact ⟨by omega,by omega⟩
theorem cellFlats {t e ti:TypeId} {k fuel:Nat} {c:Value} {y:DataW H×List MemPlace} (ht:P.underlying t=some (.slice e)) (hi:P.underlying ti=some (.int .i64)) (ho:onlyInts P e k ti=true) (hk:0<k)
  (h:DataW.trod enc P W base sp held fuel t [c]=some y):∃n f,Flats k 0 W.heap.size W c n f:=by
 have hC:P.cellsOf e=k:=by
  simp only [onlyInts,Bool.and_eq_true,decide_eq_true_eq] at ho;exact ho.1.1.1
 rcases Go.Deep.open_slice ht h with ⟨h0,_⟩|⟨a,len,cap,m,n,D,Pl,hcs,hb,hl,hm,hmm,hx,hel⟩
 ·obtain rfl:c = .slice none 0 0:=by simpa using h0
  exact ⟨0,fun _=>0,none,0,rfl,Nat.le_refl _,by unfold maxLen;omega,fun i hx=>by omega⟩
 ·obtain rfl:c = .slice (some a) len cap:=by simpa using hcs
  have hlm:len≤m:=by rw [hmm];split <;> omega
  rw [hC] at hel
  have key:∀i,i<len*k→∃x,I64 x∧W.cell? (a.add (i / k*k) |>.add (i % k))=some (.int .i64 x):=by
   intro i hil;have h1:i / k<len:=(Nat.div_lt_iff_lt_mul hk).2 hil;obtain ⟨cs',hc,ht'⟩:=hel (i / k) (by omega);obtain ⟨x,hx1,hx2⟩:=trod_ints hi ho ht' (i % k) (Nat.mod_lt _ hk);obtain ⟨_,hcl,hat⟩:=World.cells?_some hc;exact ⟨x,hx2,(hat _ (Nat.mod_lt _ hk)).trans hx1⟩
  have key2:∀i,∃x,i<len*k→I64 x∧W.cell? (a.add i)=some (.int .i64 x):=by
   intro i
   by_cases hil:i<len*k
   ·obtain ⟨x,h1,h2⟩:=key i hil
    rw [Go.Deep.add_add] at h2
    have:i / k*k+i % k=i:=by have:=Nat.div_add_mod i k;rw [Nat.mul_comm] at this;omega
    rw [this] at h2;exact ⟨x,fun _=>⟨h1,h2⟩⟩
   ·exact ⟨0,fun h=>absurd h hil⟩
  obtain ⟨f,hf⟩:=Classical.axiomOfChoice key2;refine ⟨len,f,some a,cap,rfl,hl,hm,fun i hil=>⟨(hf i hil).1,?_⟩⟩;have h0:=(hf 0 (by omega)).2;obtain ⟨b,o,s⟩:=a
  obtain rfl:s=none:=by
   cases s with
   | none=>rfl
   | some s=>
    simp only [World.cell?,Addr.add,if_true] at h0
    split at h0 <;> simp at h0
  have hc:=(hf i hil).2
  have ha:(⟨b,o,none⟩:Addr).add i=⟨b,o+i,none⟩:=by
   unfold Addr.add
   split
   ·rename_i e;subst e;rfl
   ·rfl
  rw [ha] at hc;refine ⟨b,o,rfl,Nat.zero_le _,?_,hc⟩;simp only [World.cell?] at hc
  split at hc
  ·rename_i e;exact (Array.getElem?_eq_some_iff.1 e).1
  ·cases hc
end
end
structure Kept2 (X Y:Nat) (w w':World):Prop where
 os:w'.os=w.os
 tape:w'.tape=w.tape
 output:w'.output=w.output
 size:w.heap.size≤w'.heap.size
 block:∀b,b<w.heap.size→b≠X→b≠Y→w'.heap[b]?=w.heap[b]?
theorem Kept2.refl (X Y:Nat) (w:World):Kept2 X Y w w:=⟨rfl,rfl,rfl,Nat.le_refl _,fun _ _ _ _=>rfl⟩
theorem Kept2.trans {X Y:Nat} {w w1 w2:World} (h:Kept2 X Y w w1) (k:Kept2 X Y w1 w2):Kept2 X Y w w2:=
 ⟨k.os.trans h.os,k.tape.trans h.tape,k.output.trans h.output,Nat.le_trans h.size k.size,fun b hb hx hy=>(k.block b (by have:=h.size;omega) hx hy).trans (h.block b hb hx hy)⟩
theorem Ext.k2 {w w':World} (h:Ext w w') (X Y:Nat):Kept2 X Y w w':=⟨h.os,h.tape,h.output,h.size,fun _ hb _ _=>h.block hb⟩
theorem Kept2.ext {X Y:Nat} {w w1 w2:World} (h:Ext w w1) (k:Kept2 X Y w1 w2) (hX:w.heap.size≤X) (hY:w.heap.size≤Y):Ext w w2:=
 ⟨k.os.trans h.os,k.tape.trans h.tape,k.output.trans h.output,Nat.le_trans h.size k.size,fun b hb=>(k.block b (by have:=h.size;omega) (by omega) (by omega)).trans (h.block hb)⟩
def Same2 (N X Y:Nat) (w w':World):Prop:=∀b,b<N→b≠X→b≠Y→w'.heap[b]?=w.heap[b]?
theorem Kept2.same {X Y:Nat} {w w':World} (h:Kept2 X Y w w') {N:Nat} (hN:N≤w.heap.size):Same2 N X Y w w':=fun b hb hx hy=>h.block b (by omega) hx hy
open Classical in
noncomputable def low2 (N X Y:Nat) (w d:World):World:=if Same2 N X Y w d then d else w
theorem low2_same (N X Y:Nat) (w d:World):Same2 N X Y w (low2 N X Y w d):=by
 unfold low2
 split
 ·assumption
 ·exact fun _ _ _ _=>rfl
@[go_sem] theorem cell?_low2 (N X Y:Nat) (w d:World) (a:Addr) (h:a.block<N) (hx:a.block≠X) (hy:a.block≠Y):(low2 N X Y w d).cell? a=w.cell? a:=World.cell?_of_block (w:=w) (low2_same N X Y w d a.block h hx hy)
@[go_sem] theorem frozen?_low2 (N X Y:Nat) (w d:World) (a:Addr) (h:a.block<N) (hx:a.block≠X) (hy:a.block≠Y):(low2 N X Y w d).frozen? a=w.frozen? a:=World.frozen?_of_block (w:=w) (low2_same N X Y w d a.block h hx hy)
structure EsI (p:Prg) (V:Nat→List Int) (m KD VD:Nat) (W w:World):Prop where
 kept:Kept2 KD VD W w
 row:∃(kf:Nat→Bool) (vf:Nat→Int),w.rowIs KD 4 (p.ns.length*m) (fun i=>.bool (kf i))∧RowI w VD 3 (p.ns.length*m) vf∧∀(node q:Nat),node<p.ns.length→q<m→kf (node*m+q)=true→vf (node*m+q)=(V node).getD q 0
section
variable {p : Prg} {V : Nat → List Int} {B M KD VD : Nat} {a1 a2 oa : Option Addr} {c1 c2 oc n m : Nat} {pu tu : Value} {f : Nat → Int} {tm : Int} {t : Tex} {W w w' : World}
theorem EsI.ext (h:EsI p V m KD VD W w) (e:Ext w w'):EsI p V m KD VD W w':=by
 obtain ⟨kf,vf,h1,h2,h3⟩:=h.row;exact ⟨h.kept.trans (e.k2 _ _),kf,vf,World.rowIs.of_block h1 (e.block (World.rowIs.lt h1)),h2.ext e,h3⟩
theorem ix_inj {a b q r m:Nat} (hq:q<m) (hr:r<m) (h:a*m+q=b*m+r):a=b∧q=r:=by
 have hm:0<m:=by omega
 have h1:(a*m+q) / m=a:=by rw [Nat.mul_comm,Nat.mul_add_div hm,Nat.div_eq_of_lt hq,Nat.add_zero]
 have h2:(b*m+r) / m=b:=by rw [Nat.mul_comm,Nat.mul_add_div hm,Nat.div_eq_of_lt hr,Nat.add_zero]
 have:a=b:=by rw [←h1,←h2,h]
 subst this;exact ⟨rfl,by omega⟩
theorem EsI.store (h:EsI p V m KD VD W w) (hkv:KD≠VD) {node q:Nat} (hn:node<p.ns.length) (hq:q<m) :
  EsI p V m KD VD W ((w.setCell ⟨KD,node*m+q,none⟩ (.bool true)).setCell ⟨VD,node*m+q,none⟩ (.int .i64 ((V node).getD q 0)))∧Kept2 KD VD w ((w.setCell ⟨KD,node*m+q,none⟩ (.bool true)).setCell ⟨VD,node*m+q,none⟩ (.int .i64 ((V node).getD q 0))):=by
 obtain ⟨kf,vf,h1,h2,h3⟩:=h.row
 have hK:Kept2 KD VD w ((w.setCell ⟨KD,node*m+q,none⟩ (.bool true)).setCell ⟨VD,node*m+q,none⟩ (.int .i64 ((V node).getD q 0))):=
  ⟨rfl,rfl,rfl,by simp,fun b _ hx hy=>(Below.heap_setCell _ _ _ _ hy).trans (Below.heap_setCell _ _ _ _ hx)⟩
 have r1:=World.rowIs.set h1 (node*m+q) (.bool true);have r2:=World.rowIs.set h2 (node*m+q) (.int .i64 ((V node).getD q 0));refine ⟨⟨h.kept.trans hK,fun i=>if i=node*m+q then true else kf i,fun i=>if i=node*m+q then (V node).getD q 0 else vf i,?_,?_,?_⟩,hK⟩
 ·refine World.rowIs.of_block (World.rowIs.congr r1 fun i _=>by by_cases e:i=node*m+q <;> simp [e]) (Below.heap_setCell _ _ _ _ hkv)
 ·have r3:=World.rowIs.set (World.rowIs.of_block (w':=w.setCell ⟨KD,node*m+q,none⟩ (.bool true)) h2 (Below.heap_setCell _ _ _ _ (Ne.symm hkv))) (node*m+q) (.int .i64 ((V node).getD q 0))
  exact World.rowIs.congr r3 fun i _=>by by_cases e:i=node*m+q <;> simp [e]
 ·intro nd r hnd hr hk
  by_cases e:nd*m+r=node*m+q
  ·obtain ⟨rfl,rfl⟩:=ix_inj hr hq e
   simp
  ·simp only [e,if_false] at hk ⊢
   exact h3 nd r hnd hr hk
end
section
variable {p : Prg} {V : Nat → List Int} {B M KD VD : Nat} {a1 a2 oa : Option Addr} {c1 c2 oc n m : Nat} {pu tu : Value} {f : Nat → Int} {tm : Int} {t : Tex} {W w w' : World}
end
section
variable {p : Prg} {V : Nat → List Int} {B M KD VD : Nat} {a1 a2 oa : Option Addr} {c1 c2 oc n m : Nat} {pu tu : Value} {f : Nat → Int} {tm : Int} {t : Tex} {W w w' : World}
theorem EsI.args (h:EsI p V m KD VD W w) {row:Option Nat} (g:w.grownBy w' row) (hr:∀k,row=some k→W.heap.size≤k) (h1:KD<W.heap.size) (h2:VD<W.heap.size):EsI p V m KD VD W w':=by
 obtain ⟨kf,vf,r1,r2,r3⟩:=h.row
 have hne:∀b,b<W.heap.size→some b≠row:=fun b hb e=>by have:=hr b e.symm;omega
 exact ⟨⟨g.os.trans h.kept.os,g.tape.trans h.kept.tape,g.output.trans h.kept.output,Nat.le_trans h.kept.size g.size,fun b hb hx hy=>(g.block b (by have:=h.kept.size;omega) (hne b hb)).trans (h.kept.block b hb hx hy)⟩,
  kf,vf,World.rowIs.of_block r1 (g.block _ (World.rowIs.lt r1) (hne _ h1)),r2.of (g.block _ r2.lt (hne _ h2)),r3⟩
end
section
variable {p : Prg} {V : Nat → List Int} {B M KD VD : Nat} {a1 a2 oa : Option Addr} {c1 c2 oc n m : Nat} {pu tu : Value} {f : Nat → Int} {tm : Int} {t : Tex} {W w w' : World}
end
def Prg.O (p:Prg) (lo hi:Nat) (w:World) (v:Value):Prop:=p.R lo hi w v
theorem Prg.O.R {p:Prg} {lo hi:Nat} {w:World} {v:Value} (h:p.O lo hi w v):p.R lo hi w v:=h
theorem Prg.O.kp {p:Prg} {lo hi:Nat} {w w':World} {v:Value} (h:p.O lo hi w v) (k:Kp lo hi w w'):p.O lo hi w' v:=Prg.R.kp h k
theorem Prg.O.form {p:Prg} {lo hi:Nat} {w:World} {v:Value} (h:p.O lo hi w v):∃a1 c1 a2 c2,v = .agg #[.slice a1 p.ns.length c1,.slice a2 p.gs.length c2]:=Prg.R.form2 h
section
open Go.ChangeShapes Go.WideShapes Go.ChangeAt Go.RowKit
section
variable {H : Type} {enc : TypeId × Value → H} {P : Program} {W : World} {base b0 : Nat} {sp : Nat → Bool} {held : Bool}
theorem trod_leaf1E {t u:TypeId} {i fuel:Nat} {cs:List Value} {x:DataW H×List MemPlace} (hl:(leafAt P 6 t i==some u&&decide (t≠u)&&decide (P.cellsOf u=1))=true) (h:DataW.trod enc P W base sp held fuel t cs=some x) (hi:i<cs.length) :
  ∃c m y,cs[i]?=some c∧DataW.trod enc P W base sp held m u [c]=some y:=by
 simp only [Bool.and_eq_true,beq_iff_eq,decide_eq_true_eq] at hl;obtain ⟨⟨h1,h2⟩,h3⟩:=hl
 rcases trod_leaf 6 h1 h with ⟨_,e⟩|⟨m,y,hy⟩
 ·exact absurd e h2
 ·rw [h3,List.drop_eq_getElem_cons hi] at hy
  exact ⟨cs[i],m,y,by simp [hi],hy⟩
theorem cell_intE {t:TypeId} {fuel:Nat} {c:Value} {y:DataW H×List MemPlace} (ht:P.underlying t=some (.int .i64)) (h:DataW.trod enc P W base sp held fuel t [c]=some y):∃n,c = .int .i64 n∧I64 n:=by
 obtain ⟨k,e0,_,hw⟩:=DataW.trod_int ht h;exact ⟨k,by simpa using e0,wf_I64 hw⟩
theorem cell_strE {t:TypeId} {fuel:Nat} {c:Value} {y:DataW H×List MemPlace} (ht:P.underlying t=some .string) (h:DataW.trod enc P W base sp held fuel t [c]=some y):∃s,c = .string s∧s.size≤maxLen:=by
 obtain ⟨s,e0,_,hw⟩:=DataW.trod_string ht h;exact ⟨s,by simpa using e0,hw⟩
end
section
variable {H : Type} {enc : TypeId × Value → H} {W : World} {base b0 : Nat} {sp : Nat → Bool} {held : Bool}
theorem cellNds {fuel:Nat} {c:Value} {y:DataW H×List MemPlace} (h:DataW.trod enc Tryz.prog W base sp held fuel 187 [c]=some y):∃xs,Nds 0 W.heap.size W c xs∧∀x∈xs,x.name.size≤maxLen:=by
 rcases Go.Deep.open_slice Tryz.underlying187 h with ⟨hcs,_⟩|⟨a,len,cap,m,n,D,Pl,hcs,_,hl,hm,hmm,_,hel⟩
 ·obtain rfl:c = .slice none 0 0:=by simpa using hcs
  exact ⟨[],⟨none,0,rfl,Nat.le_refl _,by unfold maxLen;omega,fun i x hx=>by simp at hx⟩,fun s hs=>by cases hs⟩
 ·obtain rfl:c = .slice (some a) len cap:=by simpa using hcs
  have hlm:len≤m:=by rw [hmm];split <;> omega
  have hC:Tryz.prog.cellsOf 314=4:=by kernel_rfl
  rw [hC] at hel
  have key:∀i,∃x:Nd,i<len→(I64 x.op∧I64 x.num∧x.name.size≤maxLen)∧W.cell? (a.add (i*4))=some (.int .i64 x.op)∧W.cell? (a.add (i*4+1))=some (.string x.name)∧W.cell? (a.add (i*4+2))=some (.int .i64 x.num)∧∃u,W.cell? (a.add (i*4+3))=some u∧Ints 0 W.heap.size W u x.args:=by
   intro i
   by_cases hil:i<len
   ·obtain ⟨cs',hc,ht'⟩:=hel i (by omega)
    obtain ⟨_,hcl,hat⟩:=World.cells?_some hc;obtain ⟨c0,m0,y0,e0,t0⟩:=trod_leaf1E (i:=0) (u:=3) (by kernel_rfl) ht' (by omega);obtain ⟨c1,m1,y1,e1,t1⟩:=trod_leaf1E (i:=1) (u:=9) (by kernel_rfl) ht' (by omega);obtain ⟨c2,m2,y2,e2,t2⟩:=trod_leaf1E (i:=2) (u:=3) (by kernel_rfl) ht' (by omega);obtain ⟨c3,m3,y3,e3,t3⟩:=trod_leaf1E (i:=3) (u:=25) (by kernel_rfl) ht' (by omega);obtain ⟨px,hx⟩:=cellInts t3;obtain ⟨n0,rfl,i0⟩:=cell_intE Tryz.underlying3 t0;obtain ⟨s,rfl,i1⟩:=cell_strE Tryz.underlying9 t1;obtain ⟨n2,rfl,i2⟩:=cell_intE Tryz.underlying3 t2;refine ⟨⟨n0,s,n2,px⟩,fun _=>⟨⟨i0,i2,i1⟩,?_,?_,?_,c3,?_,hx⟩⟩
    ·have:=hat 0 (by omega);rw [Go.Deep.add_add] at this;exact this.trans e0
    ·have:=hat 1 (by omega);rw [Go.Deep.add_add] at this;exact this.trans e1
    ·have:=hat 2 (by omega);rw [Go.Deep.add_add] at this;exact this.trans e2
    ·have:=hat 3 (by omega);rw [Go.Deep.add_add] at this;exact this.trans e3
   ·exact ⟨⟨0,⟨#[]⟩,0,[]⟩,fun h=>absurd h hil⟩
  obtain ⟨f,hf⟩:=Classical.axiomOfChoice key;refine ⟨(List.range len).map f,⟨some a,cap,by simp,by simpa using hl,hm,fun i x hx=>?_⟩,fun s hs=>?_⟩
  ·have hi:i<len:=by have:=(List.getElem?_eq_some_iff.1 hx).1;simpa using this
   obtain rfl:f i=x:=by simpa [hi] using hx
   obtain ⟨⟨i0,i2,_⟩,g0,g1,g2,u,g3,hu⟩:=hf i hi;refine ⟨⟨i0,i2⟩,?_⟩;have h0:=(hf 0 (by omega)).2.1;clear hf hel key;obtain ⟨b,o,s⟩:=a
   obtain rfl:s=none:=by
    cases s with
    | none=>rfl
    | some s=>
     simp only [World.cell?,Addr.add,Nat.zero_mul,if_true] at h0
     split at h0 <;> simp at h0
   have ha:∀k,(⟨b,o,none⟩:Addr).add k=⟨b,o+k,none⟩:=by
    intro k;unfold Addr.add
    split
    ·rename_i e;subst e;rfl
    ·rfl
   rw [ha] at g0 g1 g2 g3;refine ⟨b,o,u,rfl,Nat.zero_le _,?_,g0,by rw [Nat.add_assoc];exact g1,by rw [Nat.add_assoc];exact g2,by rw [Nat.add_assoc];exact g3,hu⟩;simp only [World.cell?] at g0
   split at g0
   ·rename_i e;exact (Array.getElem?_eq_some_iff.1 e).1
   ·cases g0
  ·obtain ⟨i,hi,rfl⟩:=List.mem_map.1 hs
   exact (hf i (List.mem_range.1 hi)).1.2.2
theorem cellAsgs {fuel:Nat} {c:Value} {y:DataW H×List MemPlace} (h:DataW.trod enc Tryz.prog W base sp held fuel 188 [c]=some y):∃xs,Asgs 0 W.heap.size W c xs∧∀x∈xs,x.name.size≤maxLen:=by
 rcases Go.Deep.open_slice Tryz.underlying188 h with ⟨hcs,_⟩|⟨a,len,cap,m,n,D,Pl,hcs,_,hl,hm,hmm,_,hel⟩
 ·obtain rfl:c = .slice none 0 0:=by simpa using hcs
  exact ⟨[],⟨none,0,rfl,Nat.le_refl _,by unfold maxLen;omega,fun i x hx=>by simp at hx⟩,fun s hs=>by cases hs⟩
 ·obtain rfl:c = .slice (some a) len cap:=by simpa using hcs
  have hlm:len≤m:=by rw [hmm];split <;> omega
  have hC:Tryz.prog.cellsOf 316=2:=by kernel_rfl
  rw [hC] at hel
  have key:∀i,∃x:Asg,i<len→(I64 x.root∧x.name.size≤maxLen)∧W.cell? (a.add (i*2))=some (.string x.name)∧W.cell? (a.add (i*2+1))=some (.int .i64 x.root):=by
   intro i
   by_cases hil:i<len
   ·obtain ⟨cs',hc,ht'⟩:=hel i (by omega)
    obtain ⟨_,hcl,hat⟩:=World.cells?_some hc;obtain ⟨c0,m0,y0,e0,t0⟩:=trod_leaf1E (i:=0) (u:=9) (by kernel_rfl) ht' (by omega);obtain ⟨c1,m1,y1,e1,t1⟩:=trod_leaf1E (i:=1) (u:=3) (by kernel_rfl) ht' (by omega);obtain ⟨s,rfl,i0⟩:=cell_strE Tryz.underlying9 t0;obtain ⟨n1,rfl,i1⟩:=cell_intE Tryz.underlying3 t1;refine ⟨⟨s,n1⟩,fun _=>⟨⟨i1,i0⟩,?_,?_⟩⟩
    ·have:=hat 0 (by omega);rw [Go.Deep.add_add] at this;exact this.trans e0
    ·have:=hat 1 (by omega);rw [Go.Deep.add_add] at this;exact this.trans e1
   ·exact ⟨⟨⟨#[]⟩,0⟩,fun h=>absurd h hil⟩
  obtain ⟨f,hf⟩:=Classical.axiomOfChoice key;refine ⟨(List.range len).map f,⟨some a,cap,by simp,by simpa using hl,hm,fun i x hx=>?_⟩,fun s hs=>?_⟩
  ·have hi:i<len:=by have:=(List.getElem?_eq_some_iff.1 hx).1;simpa using this
   obtain rfl:f i=x:=by simpa [hi] using hx
   obtain ⟨⟨i0,_⟩,g0,g1⟩:=hf i hi;refine ⟨i0,?_⟩;have h0:=(hf 0 (by omega)).2.1;clear hf hel key;obtain ⟨b,o,s⟩:=a
   obtain rfl:s=none:=by
    cases s with
    | none=>rfl
    | some s=>
     simp only [World.cell?,Addr.add,Nat.zero_mul,if_true] at h0
     split at h0 <;> simp at h0
   have ha:∀k,(⟨b,o,none⟩:Addr).add k=⟨b,o+k,none⟩:=by
    intro k;unfold Addr.add
    split
    ·rename_i e;subst e;rfl
    ·rfl
   rw [ha] at g0 g1;refine ⟨b,o,rfl,Nat.zero_le _,?_,g0,by rw [Nat.add_assoc];exact g1⟩;simp only [World.cell?] at g0
   split at g0
   ·rename_i e;exact (Array.getElem?_eq_some_iff.1 e).1
   ·cases g0
  ·obtain ⟨i,hi,rfl⟩:=List.mem_map.1 hs
   exact (hf i (List.mem_range.1 hi)).1.2
end
end
section
open Go.ChangeShapes Go.WideShapes Go.ChangeAt Go.RowKit
section
variable {H : Type} {enc : TypeId × Value → H} {P : Program} {W : World} {base b0 : Nat} {sp : Nat → Bool} {held : Bool}
theorem cell_boolE {t:TypeId} {fuel:Nat} {c:Value} {y:DataW H×List MemPlace} (ht:P.underlying t=some .bool) (h:DataW.trod enc P W base sp held fuel t [c]=some y):∃b,c = .bool b:=by
 obtain ⟨b,e0,_⟩:=DataW.trod_bool ht h;exact ⟨b,by simpa using e0⟩
end
section
variable {H : Type} {enc : TypeId × Value → H} {W : World} {base b0 : Nat} {sp : Nat → Bool} {held : Bool}
theorem cellPrgs {fuel:Nat} {c:Value} {y:DataW H×List MemPlace} (h:DataW.trod enc Tryz.prog W base sp held fuel 69 [c]=some y):∃ps,PrgsR 0 W.heap.size W c ps∧∀p∈ps,p.bd:=by
 rcases Go.Deep.open_slice Tryz.underlying69 h with ⟨hcs,_⟩|⟨a,len,cap,m,n,D,Pl,hcs,_,hl,hm,hmm,_,hel⟩
 ·obtain rfl:c = .slice none 0 0:=by simpa using hcs
  exact ⟨[],⟨none,0,rfl,Nat.le_refl _,by unfold maxLen;omega,fun i x hx=>by simp at hx⟩,fun s hs=>by cases hs⟩
 ·obtain rfl:c = .slice (some a) len cap:=by simpa using hcs
  have hlm:len≤m:=by rw [hmm];split <;> omega
  have hC:Tryz.prog.cellsOf 190=2:=by kernel_rfl
  rw [hC] at hel
  have key:∀i,∃x:Prg,i<len→x.bd∧∃u1 u2,W.cell? (a.add (i*2))=some u1∧W.cell? (a.add (i*2+1))=some u2∧x.R 0 W.heap.size W (.agg #[u1,u2]):=by
   intro i
   by_cases hil:i<len
   ·obtain ⟨cs',hc,ht'⟩:=hel i (by omega)
    obtain ⟨_,hcl,hat⟩:=World.cells?_some hc;obtain ⟨c0,m0,y0,e0,t0⟩:=trod_leaf1E (i:=0) (u:=187) (by kernel_rfl) ht' (by omega);obtain ⟨c1,m1,y1,e1,t1⟩:=trod_leaf1E (i:=1) (u:=188) (by kernel_rfl) ht' (by omega);obtain ⟨xs,hx,bx⟩:=cellNds t0;obtain ⟨ls,hl2,bl⟩:=cellAsgs t1;refine ⟨⟨xs,ls⟩,fun _=>⟨⟨bx,bl⟩,c0,c1,?_,?_,_,_,rfl,hx,hl2⟩⟩
    ·have:=hat 0 (by omega);rw [Go.Deep.add_add] at this;exact this.trans e0
    ·have:=hat 1 (by omega);rw [Go.Deep.add_add] at this;exact this.trans e1
   ·exact ⟨⟨[],[]⟩,fun h=>absurd h hil⟩
  obtain ⟨f,hf⟩:=Classical.axiomOfChoice key;refine ⟨(List.range len).map f,⟨some a,cap,by simp,by simpa using hl,hm,fun i x hx=>?_⟩,fun s hs=>?_⟩
  ·have hi:i<len:=by have:=(List.getElem?_eq_some_iff.1 hx).1;simpa using this
   obtain rfl:f i=x:=by simpa [hi] using hx
   obtain ⟨_,u1,u2,g0,g1,hR⟩:=hf i hi;obtain ⟨_,v1,v2,h0,_⟩:=hf 0 (by omega);clear hf hel key;obtain ⟨b,o,s⟩:=a
   obtain rfl:s=none:=by
    cases s with
    | none=>rfl
    | some s=>
     simp only [World.cell?,Addr.add,Nat.zero_mul,if_true] at h0
     split at h0 <;> simp at h0
   have ha:∀k,(⟨b,o,none⟩:Addr).add k=⟨b,o+k,none⟩:=by
    intro k;unfold Addr.add
    split
    ·rename_i e;subst e;rfl
    ·rfl
   rw [ha] at g0 g1;refine ⟨b,o,u1,u2,rfl,Nat.zero_le _,?_,g0,by rw [Nat.add_assoc];exact g1,hR⟩;simp only [World.cell?] at g0
   split at g0
   ·rename_i e;exact (Array.getElem?_eq_some_iff.1 e).1
   ·cases g0
  ·obtain ⟨i,hi,rfl⟩:=List.mem_map.1 hs
   exact (hf i (List.mem_range.1 hi)).1
theorem argScn {v:Value} {d:DataW H} {p:List MemPlace} (hv:Value.okWide Tryz.prog W .any b0 72 v) (h:DataW.Trod enc Tryz.prog W base sp held 72 v d p) :
  ∃s:Scn,s.R 0 W.heap.size W v∧s.bd:=by
 obtain ⟨cs,rfl,hsz⟩:=okWide_struct Tryz.underlying72 hv
 have hC:Tryz.prog.cellsOf 72=12:=by kernel_rfl
 rw [hC] at hsz;obtain ⟨fuel,hf⟩:=h
 have hlen:(Value.agg cs).cells.toList.length=12:=by simp [Value.cells,hsz]
 obtain ⟨c0,m0,y0,e0,t0⟩:=trod_leaf1E (i:=0) (u:=3) (by kernel_rfl) hf (by omega);obtain ⟨c1,m1,y1,e1,t1⟩:=trod_leaf1E (i:=1) (u:=3) (by kernel_rfl) hf (by omega);obtain ⟨c2,m2,y2,e2,t2⟩:=trod_leaf1E (i:=2) (u:=3) (by kernel_rfl) hf (by omega);obtain ⟨c3,m3,y3,e3,t3⟩:=trod_leaf1E (i:=3) (u:=3) (by kernel_rfl) hf (by omega);obtain ⟨c4,m4,y4,e4,t4⟩:=trod_leaf1E (i:=4) (u:=4) (by kernel_rfl) hf (by omega);obtain ⟨c5,m5,y5,e5,t5⟩:=trod_leaf1E (i:=5) (u:=3) (by kernel_rfl) hf (by omega);obtain ⟨c6,m6,y6,e6,t6⟩:=trod_leaf1E (i:=6) (u:=3) (by kernel_rfl) hf (by omega);obtain ⟨c7,m7,y7,e7,t7⟩:=trod_leaf1E (i:=7) (u:=3) (by kernel_rfl) hf (by omega);obtain ⟨c8,m8,y8,e8,t8⟩:=trod_leaf1E (i:=8) (u:=25) (by kernel_rfl) hf (by omega);obtain ⟨c9,m9,y9,e9,t9⟩:=trod_leaf1E (i:=9) (u:=69) (by kernel_rfl) hf (by omega);obtain ⟨c10,m10,y10,e10,t10⟩:=trod_leaf1E (i:=10) (u:=70) (by kernel_rfl) hf (by omega);obtain ⟨c11,m11,y11,e11,t11⟩:=trod_leaf1E (i:=11) (u:=3) (by kernel_rfl) hf (by omega);obtain ⟨k0,rfl,i0⟩:=cell_intE Tryz.underlying3 t0;obtain ⟨k1,rfl,i1⟩:=cell_intE Tryz.underlying3 t1;obtain ⟨k2,rfl,i2⟩:=cell_intE Tryz.underlying3 t2;obtain ⟨k3,rfl,i3⟩:=cell_intE Tryz.underlying3 t3;obtain ⟨k4,rfl⟩:=cell_boolE Tryz.underlying4 t4;obtain ⟨k5,rfl,i5⟩:=cell_intE Tryz.underlying3 t5;obtain ⟨k6,rfl,i6⟩:=cell_intE Tryz.underlying3 t6;obtain ⟨k7,rfl,i7⟩:=cell_intE Tryz.underlying3 t7;obtain ⟨px,hx⟩:=cellInts t8;obtain ⟨ps,hps,hbd⟩:=cellPrgs t9;obtain ⟨n,f,hp⟩:=cellFlats (k:=26) (e:=212) Tryz.underlying70 Tryz.underlying3 (by kernel_rfl) (by omega) t10;obtain ⟨k11,rfl,i11⟩:=cell_intE Tryz.underlying3 t11
 have e:cs=#[.int .i64 k0,.int .i64 k1,.int .i64 k2,.int .i64 k3,.bool k4,.int .i64 k5,.int .i64 k6,.int .i64 k7,c8,c9,c10,.int .i64 k11]:=by
  apply Array.ext_getElem?;intro i;simp only [Value.cells,Array.getElem?_toList] at e0 e1 e2 e3 e4 e5 e6 e7 e8 e9 e10 e11
  match i with
  | 0=>simpa using e0
  | 1=>simpa using e1
  | 2=>simpa using e2
  | 3=>simpa using e3
  | 4=>simpa using e4
  | 5=>simpa using e5
  | 6=>simpa using e6
  | 7=>simpa using e7
  | 8=>simpa using e8
  | 9=>simpa using e9
  | 10=>simpa using e10
  | 11=>simpa using e11
  | i+12=>simp [hsz]
 subst e;exact ⟨⟨⟨k0,k1,k2,k3,k4,k5,k6⟩,⟨k7,px⟩,ps,n,f,k11⟩,⟨c8,c9,c10,rfl,⟨i0,i1,i2,i3,i5,i6⟩,i7,i11,hx,hps,hp⟩,hbd⟩
end
end
section
namespace fnExactShadeSurface
open Go.ChangeShapes Go.WideShapes Go.ChangeAt Go.RowKit
theorem own:ownKnob Tryz.prog.godebug=none:=by kernel_rfl
theorem laid:laidOutB Tryz.prog=true:=by kernel_rfl
theorem lifted (os:Os) (started:os.Started) (H:Type) (enc:TypeId×Value→H) :
  ReturnsInHanded {} Tryz.checked os 7 .any (Rows.fnExactShadeSurfaceSpec.pre6 enc Tryz.prog Tryz.f7 Rows.fnExactShadeSurfaceRow.domain false) (Rows.fnExactShadeSurfaceSpec.post enc Tryz.prog Tryz.f7 false true false false):=by
 refine returnsInHanded_of_change (C:=Tryz.checked) own started (by kernel_rfl) Tryz.func7
  (ChangeSpec.witness6 (enc:=enc) (C:=Tryz.checked) false ⟨#[],#[.agg #[.int .i64 0,.int .i64 0,.int .i64 0,.int .i64 0,.bool false,.int .i64 0,.int .i64 0,.int .i64 0,.slice none 0 0,.slice none 0 0,.slice none 0 0,.int .i64 0],.int .i64 0],[]⟩ 8 (by kernel_rfl) (by kernel_rfl) (by kernel_rfl) (by kernel_rfl)) ?_
 intro W base args ds gs before hval0 hW hcnd _;have hval:∀(j:Nat) t v,Tryz.f7.params[j]?=some t→args[j]?=some v→Value.okWide Tryz.prog W .any base t v:=hval0;have hW':=hW;obtain ⟨p,q,hA0,hV,rfl,hfz,hnd⟩:=hW;have hA:DataW.TrodAll enc Tryz.prog W 0 (fun _=>true) true Tryz.f7.params.toList args.toList ds p:=hA0;rw [Tryz.params7] at hA hval;obtain ⟨v0,vs0,d0,ds0,p0,q0,hargs,rfl,rfl,h0,r0⟩:=trodAll_cons hA;obtain ⟨v1,vs1,d1,ds1,p1,q1,rfl,rfl,rfl,h1,r1⟩:=trodAll_cons r0;obtain ⟨rfl,rfl,rfl⟩:=trodAll_nil r1
 obtain rfl:args=#[v0,v1]:=by cases args;simp_all
 obtain ⟨rfl,rfl⟩:=trodVars_none hV;have k0:=h0
 have lt0:∀x∈p0,x.block<W.heap.size:=by obtain ⟨m,hm⟩:=k0;exact DataW.trod_lt m _ _ _ hm
 obtain ⟨x0,w0,b0⟩:=argScn (hval 0 72 v0 rfl rfl) h0;have k1:=h1
 have lt1:∀x∈p1,x.block<W.heap.size:=by obtain ⟨m,hm⟩:=k1;exact DataW.trod_lt m _ _ _ hm
 obtain ⟨x1,rfl,w1⟩:=argInt (hval 1 3 v1 rfl rfl) h1;clear hA0 hval0;refine (lawShadeSurface v0 x0 x1 W w0 b0 w1).mono fun e W' ⟨he,bel0⟩=>?_;have bel:Below W.heap.size W W':=bel0;subst he;exact ⟨_,rfl,_,_,_,[],_,[],hW',trodAll_mk1 (shut_bool Tryz.underlying4 _),(trodAll_cons_mk (Below.trod laid (by kernel_rfl) (of_decide_eq_true (by kernel_rfl)) k0 bel lt0) (trodAll_cons_mk (Below.trod laid (by kernel_rfl) (of_decide_eq_true (by kernel_rfl)) k1 bel lt1) trodAll_mk0)),rfl,bel.frame _,fun h=>by cases h⟩
theorem named:Tryz.pinned.checked.prog.funcNamed Rows.fnExactShadeSurfaceRow.func=some 7:=by kernel_rfl
theorem facts:joinedFacts Tryz.pinned.checked.prog 7 Tryz.f7 Rows.fnExactShadeSurfaceSpec Rows.fnExactShadeSurfaceRow=true:=by kernel_rfl
theorem inst:Tryz.f7.isInstance Tryz.pinned.checked.prog Rows.fnExactShadeSurfaceRow.origin Rows.fnExactShadeSurfaceRow.targs:=of_decide_eq_true (by kernel_rfl)
theorem wrap:Tryz.f7.isWrapper Tryz.pinned.checked.prog Rows.fnExactShadeSurfaceRow.wrapper Rows.fnExactShadeSurfaceRow.mainSum:=by
 unfold Func.isWrapper
 first|(rw [if_pos (by decide +kernel)];kernel_rfl)|(rw [if_neg (by decide +kernel)];exact ⟨rfl,rfl⟩)
theorem over:Rows.fnExactShadeSurfaceRow.holds Tryz.pinned (OpenSpec.ofChange Rows.fnExactShadeSurfaceSpec):=
 OpenClaim.holds_of_wide 7 Tryz.f7 rfl rfl rfl rfl rfl rfl rfl ⟨rfl,rfl,rfl,rfl,rfl⟩ rfl rfl rfl rfl rfl named Tryz.func7 facts inst wrap
  (fun os started H enc _=>lifted os started H enc)
theorem proved:Rows.FnExactShadeSurfaceSaid:=over
end fnExactShadeSurface
end
end Go.Proofs.YtfjbiifebcfjfaaGreat
