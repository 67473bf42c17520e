/- Texts of this claim, one behind another; what its theorem does not use is left out: Ge12, Ge13, Cp3, Cp4, Cp5, Tk2, Tk3, Tk4, Tk5, Ps1, Ps2, PlanE, Ps3, Ps4, Ps5, Ps6, Ps7, Ps8, Ps9, Cp6, Cp7, SrfI, Ge18, Ge19. -/
import Derived.Test.YtfjbiifebcfjfaaGreatP28W5
import Derived.Test.YtfjbiifebcfjfaaGreatP28W4
import Derived.Test.YtfjbiifebcfjfaaGreatP28W1
import Derived.Test.YtfjbiifebcfjfaaGreatP28W2
import Derived.Lib.SlBytesConst
import Derived.Maps.AppendAt
set_option linter.unusedSimpArgs false
set_option linter.unusedVariables false
set_option maxRecDepth 100000
set_option maxHeartbeats 12800000
namespace Go.Proofs.YtfjbiifebcfjfaaGreat
open Go.RowKit
def pixB (c:Cam) (x y:Int):Bool:=c.okB&&inB x 0 (c.w*16 - 1)&&inB y 0 (c.h*16 - 1)
def Cam.cs (c:Cam):List Value:=[c.w,c.h,c.zoom,c.near,.bool c.deep,c.lens,c.focus]
theorem iPixelAt_no (c:Cam) (x y:Int) (h:pixB c x y=false) (w:World) :
  Calls Tryz.prog 20 #[.agg #[c.w,c.h,c.zoom,c.near,.bool c.deep,c.lens,c.focus],x,y] w fun e w'=>e = .returned (.tuple #[(),(),.bool false])/\Ext w w':=by
 have q0:=Blk.new w 24 [c.w,c.h,c.zoom,c.near,.bool c.deep,c.lens,c.focus];have R0:=hid q0;have X0:=hid (show Ext w (w.alloc (.cells #[c.w,c.h,c.zoom,c.near,.bool c.deep,c.lens,c.focus] 24)) from X_);clear q0;unfold pixB at h
 cases hb:c.okB
 ·have HB:=hid hb
  clear h hb;go_enter Tryz.func20,Tryz.ntmps20;go_wp2_with fail;refine (iIsValidCamera_val HB.out _).mono ?_;rintro e w1 ⟨rfl,x1⟩;have X1:=X0.out.trans x1;go_wp2;exact bodyPost_ret (v:=.tuple #[(),(),.bool false]) (by simp [results,Tryz.results20,go_sem, *]) rfl ⟨rfl,X1⟩
 ·have HB:=hid hb
  have hk:=Cam.okB_iff.1 hb;have k1:=hk.w;have k2:=hk.h;have wr1:wrap64 (c.w*16)=c.w*16:=wrap_small (by omega) (by omega);have wr2:wrap64 (c.w*16 - 1)=c.w*16 - 1:=wrap_small (by omega) (by omega);have wr3:wrap64 (c.h*16)=c.h*16:=wrap_small (by omega) (by omega);have wr4:wrap64 (c.h*16 - 1)=c.h*16 - 1:=wrap_small (by omega) (by omega);rw [hb] at h;clear hb hk
  cases h1:inB x 0 (c.w*16 - 1)
  ·have I1:=hid h1
   clear h h1;go_enter Tryz.func20,Tryz.ntmps20;go_wp2_with fail;refine (iIsValidCamera_val HB.out _).mono ?_;rintro e w1 ⟨rfl,x1⟩;have X1:=X0.out.trans x1;have c0:=(R0.out.ext x1).cell 0 rfl;go_wp2_with (go_at_call 54;refine (within_val I1.out _).mono ?_;rintro e w2 ⟨rfl,rfl⟩);exact bodyPost_ret (v:=.tuple #[(),(),.bool false]) (by simp [results,Tryz.results20,go_sem, *]) rfl ⟨rfl,X1⟩
  ·rw [h1] at h
   have I1:=hid h1;have I2:=hid (show inB y 0 (c.h*16 - 1)=false by simpa using h);clear h h1;go_enter Tryz.func20,Tryz.ntmps20;go_wp2_with fail;refine (iIsValidCamera_val HB.out _).mono ?_;rintro e w1 ⟨rfl,x1⟩;have X1:=X0.out.trans x1;have c0:=(R0.out.ext x1).cell 0 rfl;have c1:=(R0.out.ext x1).cell 1 rfl;go_wp2_with (go_at_call 54;with_reducible first|(refine (within_val I1.out _).mono ?_;rintro e w2 ⟨rfl,rfl⟩)|(refine (within_val I2.out _).mono ?_;rintro e w2 ⟨rfl,rfl⟩));exact bodyPost_ret (v:=.tuple #[(),(),.bool false]) (by simp [results,Tryz.results20,go_sem, *]) rfl ⟨rfl,X1⟩
theorem iPixelAt_yes (c:Cam) (x y:Int) (h:pixB c x y=true) (w:World) :
  Calls Tryz.prog 20 #[.agg #[c.w,c.h,c.zoom,c.near,.bool c.deep,c.lens,c.focus],x,y] w fun e w'=>e = .returned (.tuple #[.int .i64 (x / 16),.int .i64 (y / 16),.bool true])/\Ext w w':=by
 have q0:=Blk.new w 24 [c.w,c.h,c.zoom,c.near,.bool c.deep,c.lens,c.focus];have R0:=hid q0;have X0:=hid (show Ext w (w.alloc (.cells #[c.w,c.h,c.zoom,c.near,.bool c.deep,c.lens,c.focus] 24)) from X_);clear q0;unfold pixB at h;simp only [Bool.and_eq_true] at h;obtain ⟨⟨hb,h1⟩,h2⟩:=h;have HB:=hid hb;have I1:=hid h1;have I2:=hid h2;have hk:=Cam.okB_iff.1 hb;have k1:=hk.w;have k2:=hk.h;rw [inB_iff] at h1 h2;have wr1:wrap64 (c.w*16)=c.w*16:=wrap_small (by omega) (by omega);have wr2:wrap64 (c.w*16 - 1)=c.w*16 - 1:=wrap_small (by omega) (by omega);have wr3:wrap64 (c.h*16)=c.h*16:=wrap_small (by omega) (by omega);have wr4:wrap64 (c.h*16 - 1)=c.h*16 - 1:=wrap_small (by omega) (by omega);have t1:Int.tdiv x 16=x / 16:=Int.tdiv_eq_ediv_of_nonneg (by omega);have t2:Int.tdiv y 16=y / 16:=Int.tdiv_eq_ediv_of_nonneg (by omega);have wr5:wrap64 (x / 16)=x / 16:=wrap_small (by omega) (by omega);have wr6:wrap64 (y / 16)=y / 16:=wrap_small (by omega) (by omega);clear hb hk h1 h2;go_enter Tryz.func20,Tryz.ntmps20;go_wp2_with fail;refine (iIsValidCamera_val HB.out _).mono ?_;rintro e w1 ⟨rfl,x1⟩;have X1:=X0.out.trans x1;have c0:=(R0.out.ext x1).cell 0 rfl;have c1:=(R0.out.ext x1).cell 1 rfl;go_wp2_with (go_at_call 54;with_reducible first|(refine (within_val I1.out _).mono ?_;rintro e w2 ⟨rfl,rfl⟩)|(refine (within_val I2.out _).mono ?_;rintro e w2 ⟨rfl,rfl⟩));exact bodyPost_ret (v:=.tuple #[.int .i64 (x / 16),.int .i64 (y / 16),.bool true]) (by simp [results,Tryz.results20,go_sem, *]) rfl ⟨rfl,X1⟩
theorem Smp.okB_eq (c:Cam) (p:Smp):p.okB c=(pixB c p.x p.y&&inB p.t 0 15&&inB p.lx (-16) 16&&inB p.ly (-16) 16):=rfl
theorem iIsValidSample_any (c:Cam) (p:Smp) (w:World) :
  Calls Tryz.prog 39 #[.agg #[c.w,c.h,c.zoom,c.near,.bool c.deep,c.lens,c.focus],.agg #[p.x,p.y,p.t,p.lx,p.ly]] w fun e w'=>e = .returned (.bool (p.okB c))/\Ext w w':=by
 have q0:=Blk.new w 24 [c.w,c.h,c.zoom,c.near,.bool c.deep,c.lens,c.focus];have q1:=Blk.new (w.alloc (.cells #[c.w,c.h,c.zoom,c.near,.bool c.deep,c.lens,c.focus] 24)) 34 [p.x,p.y,p.t,p.lx,p.ly];rw [World.size_alloc] at q1;have R1:=hid q1;have X0:=hid (show Ext w ((w.alloc (.cells #[c.w,c.h,c.zoom,c.near,.bool c.deep,c.lens,c.focus] 24)).alloc (.cells #[p.x,p.y,p.t,p.lx,p.ly] 34)) from X_);clear q0 q1;rw [Smp.okB_eq]
 cases h0:pixB c p.x p.y
 ·have H0:=hid h0
  clear h0;go_enter Tryz.func39,Tryz.ntmps39;go_wp2_with fail;refine (iPixelAt_no c p.x p.y H0.out _).mono ?_;rintro e w1 ⟨rfl,x1⟩;have X1:=X0.out.trans x1;go_wp2;go_ret;exact ⟨rfl,X1⟩
 ·have H0:=hid h0
  clear h0
  obtain ⟨b1,hb1⟩:∃b,inB p.t 0 15=b:=⟨_,rfl⟩
  obtain ⟨b2,hb2⟩:∃b,inB p.lx (-16) 16=b:=⟨_,rfl⟩
  obtain ⟨b3,hb3⟩:∃b,inB p.ly (-16) 16=b:=⟨_,rfl⟩
  have I1:=hid hb1;have I2:=hid hb2;have I3:=hid hb3;rw [hb1,hb2,hb3];clear hb1 hb2 hb3
  cases b1
  rotate_left
  cases b2
  rotate_left
  all_goals
   go_enter Tryz.func39,Tryz.ntmps39;go_wp2_with fail;refine (iPixelAt_yes c p.x p.y H0.out _).mono ?_;rintro e w1 ⟨rfl,x1⟩;have X1:=X0.out.trans x1;have c2:=(R1.out.ext x1).cell 2 rfl;have c3:=(R1.out.ext x1).cell 3 rfl;have c4:=(R1.out.ext x1).cell 4 rfl;go_wp2_with (go_at_call 54;with_reducible first|(refine (within_val I1.out _).mono ?_;rintro e w2 ⟨rfl,rfl⟩)|(refine (within_val I2.out _).mono ?_;rintro e w2 ⟨rfl,rfl⟩)|(refine (within_val I3.out _).mono ?_;rintro e w2 ⟨rfl,rfl⟩));go_ret;exact ⟨rfl,X1⟩
theorem iIsValidScene_any (s:Scn) (lo hi:Nat) (v:Value) (w:World) (hv:s.R lo hi w v) (hh:hi<=w.heap.size) (hsm:s.small) :
  Calls Tryz.prog 42 #[v] w fun e w'=>e = .returned (.bool s.okB)/\Ext w w':=by
 obtain ⟨a1,c1,a2,c2,a3,c3,rfl,-,hlog,-,h1,h2,h3⟩:=hv.form;have q0:=Blk.new w 31 [s.c.w,s.c.h,s.c.zoom,s.c.near,.bool s.c.deep,s.c.lens,s.c.focus,s.t.log,.slice a1 s.t.px.length c1,.slice a2 s.ps.length c2,.slice a3 s.m c3,s.side];have R0:=hid q0;have X0:=hid (show Ext w (w.alloc (.cells #[s.c.w,s.c.h,s.c.zoom,s.c.near,.bool s.c.deep,s.c.lens,s.c.focus,s.t.log,.slice a1 s.t.px.length c1,.slice a2 s.ps.length c2,.slice a3 s.m c3,s.side] 31)) from X_);have HT:=hid (show ∀W:World,Ext w W->TexR lo hi W (.agg #[s.t.log,.slice a1 s.t.px.length c1]) s.t from fun W x=>⟨_,rfl,hlog,(h1.shut).ext hh x⟩);have H1:=hid h1;have H2:=hid h2;have H3:=hid h3;have le2:=h2.le;have cap2:=h2.cap;have le3:=h3.le;have cap3:=h3.cap;have HS:=hid hsm;clear q0 hv hlog h1 h2 h3 hsm;unfold Scn.okB
 obtain ⟨b1,hb1⟩:∃b,s.c.okB=b:=⟨_,rfl⟩
 obtain ⟨b2,hb2⟩:∃b,s.t.okB=b:=⟨_,rfl⟩
 obtain ⟨b3,hb3⟩:∃b,inB (s.ps.length:Int) 1 3=b:=⟨_,rfl⟩
 obtain ⟨b5,hb5⟩:∃b,sideB s.side=b:=⟨_,rfl⟩
 have C1:=hid hb1;have C2:=hid hb2;have C3:=hid hb3;have C5:=hid (show ∀W:World,Calls Tryz.prog 98 #[s.side] W fun e w'=>e = .returned (.bool b5)/\Ext W w' from fun W=>hb5▸iSideOk_any s.side W);rw [hb1,hb2,hb3,hb5];clear hb1 hb2 hb3 hb5
 cases b1
 case false=>
  go_enter Tryz.func42,Tryz.ntmps42;go_wp2_with fail;refine (iIsValidCamera_val C1.out _).mono ?_;rintro e w1 ⟨rfl,x1⟩;have X1:=hid (X0.out.trans x1);have R1:=hid (R0.out.ext x1);clear x1;go_wp2;go_ret;exact ⟨by simp [*],X1.out⟩
 cases b2
 case true.false=>
  go_enter Tryz.func42,Tryz.ntmps42;go_wp2_with fail;refine (iIsValidCamera_val C1.out _).mono ?_;rintro e w1 ⟨rfl,x1⟩;have X1:=hid (X0.out.trans x1);have R1:=hid (R0.out.ext x1);clear x1;have c7:=R1.out.cell 7 rfl;have c8:=R1.out.cell 8 rfl;have l1:=R1.out.lt;go_wp2_with fail;refine (iIsValidTexture_val C2.out lo hi _ _ (HT.out _ X1.out) (Nat.le_trans hh X1.out.size)).mono ?_;rintro e w2 ⟨rfl,x2⟩;have X2:=hid (X1.out.trans x2);have R2:=hid (R1.out.ext x2);clear x2 c7 c8 l1;go_wp2;go_ret;exact ⟨by simp [*],X2.out⟩
 cases b3
 case true.true.false=>
  go_enter Tryz.func42,Tryz.ntmps42;go_wp2_with fail;refine (iIsValidCamera_val C1.out _).mono ?_;rintro e w1 ⟨rfl,x1⟩;have X1:=hid (X0.out.trans x1);have R1:=hid (R0.out.ext x1);clear x1;have c7:=R1.out.cell 7 rfl;have c8:=R1.out.cell 8 rfl;have l1:=R1.out.lt;go_wp2_with fail;refine (iIsValidTexture_val C2.out lo hi _ _ (HT.out _ X1.out) (Nat.le_trans hh X1.out.size)).mono ?_;rintro e w2 ⟨rfl,x2⟩;have X2:=hid (X1.out.trans x2);have R2:=hid (R1.out.ext x2);clear x2 c7 c8 l1;have c9:=R2.out.cell 9 rfl;have c10:=R2.out.cell 10 rfl;have c11:=R2.out.cell 11 rfl;have l2:=R2.out.lt;go_wp2_with (go_at_call 54;refine (within_val C3.out _).mono ?_;rintro e w3 ⟨rfl,rfl⟩);go_ret;exact ⟨by simp [*],X2.out⟩
 rcases Nat.lt_or_ge 5 s.m with hm|hm
 ·have g0:decide (s.m<=5)=false:=by simp;omega
  go_enter Tryz.func42,Tryz.ntmps42;go_wp2_with fail;refine (iIsValidCamera_val C1.out _).mono ?_;rintro e w1 ⟨rfl,x1⟩;have X1:=hid (X0.out.trans x1);have R1:=hid (R0.out.ext x1);clear x1;have c7:=R1.out.cell 7 rfl;have c8:=R1.out.cell 8 rfl;have l1:=R1.out.lt;go_wp2_with fail;refine (iIsValidTexture_val C2.out lo hi _ _ (HT.out _ X1.out) (Nat.le_trans hh X1.out.size)).mono ?_;rintro e w2 ⟨rfl,x2⟩;have X2:=hid (X1.out.trans x2);have R2:=hid (R1.out.ext x2);clear x2 c7 c8 l1;have c9:=R2.out.cell 9 rfl;have c10:=R2.out.cell 10 rfl;have c11:=R2.out.cell 11 rfl;have l2:=R2.out.lt;go_wp2_with (go_at_call 54;refine (within_val C3.out _).mono ?_;rintro e w3 ⟨rfl,rfl⟩);go_ret;exact ⟨by simp [*],X2.out⟩
 have g0:decide (s.m<=5)=true:=by simp;omega
 cases b5
 case true.true.true.inr.false=>
  go_enter Tryz.func42,Tryz.ntmps42;go_wp2_with fail;refine (iIsValidCamera_val C1.out _).mono ?_;rintro e w1 ⟨rfl,x1⟩;have X1:=hid (X0.out.trans x1);have R1:=hid (R0.out.ext x1);clear x1;have c7:=R1.out.cell 7 rfl;have c8:=R1.out.cell 8 rfl;have l1:=R1.out.lt;go_wp2_with fail;refine (iIsValidTexture_val C2.out lo hi _ _ (HT.out _ X1.out) (Nat.le_trans hh X1.out.size)).mono ?_;rintro e w2 ⟨rfl,x2⟩;have X2:=hid (X1.out.trans x2);have R2:=hid (R1.out.ext x2);clear x2 c7 c8 l1;have c9:=R2.out.cell 9 rfl;have c10:=R2.out.cell 10 rfl;have c11:=R2.out.cell 11 rfl;have l2:=R2.out.lt;go_wp2_with (go_at_call 54;refine (within_val C3.out _).mono ?_;rintro e w3 ⟨rfl,rfl⟩);refine (C5.out _).mono ?_;rintro e w4 ⟨rfl,x4⟩;have X4:=hid (X2.out.trans x4);have R4:=hid (R2.out.ext x4);clear x4 c9 c10 c11 l2;go_wp2;go_ret;exact ⟨by simp [*],X4.out⟩
 go_enter Tryz.func42,Tryz.ntmps42;go_wp2_with fail;refine (iIsValidCamera_val C1.out _).mono ?_;rintro e w1 ⟨rfl,x1⟩;have X1:=hid (X0.out.trans x1);have R1:=hid (R0.out.ext x1);clear x1;have c7:=R1.out.cell 7 rfl;have c8:=R1.out.cell 8 rfl;have l1:=R1.out.lt;go_wp2_with fail;refine (iIsValidTexture_val C2.out lo hi _ _ (HT.out _ X1.out) (Nat.le_trans hh X1.out.size)).mono ?_;rintro e w2 ⟨rfl,x2⟩;have X2:=hid (X1.out.trans x2);have R2:=hid (R1.out.ext x2);clear x2 c7 c8 l1;have c9:=R2.out.cell 9 rfl;have c10:=R2.out.cell 10 rfl;have c11:=R2.out.cell 11 rfl;have l2:=R2.out.lt;go_wp2_with (go_at_call 54;refine (within_val C3.out _).mono ?_;rintro e w3 ⟨rfl,rfl⟩);refine (C5.out _).mono ?_;rintro e w4 ⟨rfl,x4⟩;have X4:=hid (X2.out.trans x4);have R4:=hid (R2.out.ext x4);clear x4 c9 c10 c11 l2;have c10:=R4.out.cell 9 rfl;have l4:=R4.out.lt;go_wp2_with fail;clear c10 l4
 go_loopw [39] (fun i wr=>∃k:Nat,k<=s.ps.length/\i = .int .i64 (k:Nat)/\Ext w wr/\Blk wr w.heap.size 31 [s.c.w,s.c.h,s.c.zoom,s.c.near,.bool s.c.deep,s.c.lens,s.c.focus,s.t.log,.slice a1 s.t.px.length c1,.slice a2 s.ps.length c2,.slice a3 s.m c3,s.side]/\∀q (hq:q<k) (hq2:q<s.ps.length),s.ps[q].chkB=true) (fun i _=>s.ps.length - (intOf i).toNat)
 case atStart=>exact ⟨0,by omega,rfl,X4.out,R4.out,fun q hq=>absurd hq (by omega)⟩
 case round=>
  obtain ⟨k,hk,rfl,hx,hb,hc⟩:=hrel;have HX:=hid hx;have HB:=hid hb;have HC:=hid hc
  rcases Nat.lt_or_ge k s.ps.length with hlt|hge
  ·obtain ⟨b,off,e1,d1,e2,d2,rfl,hbw,hbr,k1,k2,hR⟩:=H2.out.at hlt hx hh
   have HR:=hid hR;have hz:=hx.size;have HL:=hid hlt;clear hx hb hc hR X1 X2 X4 R1 R2 R4;go_wp2_with fail
   cases hcb:(s.ps[k]'hlt).chkB
   ·refine (iIsOk_val hcb lo hi _ _ (HR.out.ext (by omega) (show Ext wr (wr.alloc (.cells #[.slice e1 (s.ps[k]'hlt).ns.length d1,.slice e2 (s.ps[k]'hlt).gs.length d2] 132)) from X_)) (by simp;omega) (HS.out _ (List.getElem_mem hlt)).1 (HS.out _ (List.getElem_mem hlt)).2.2).mono ?_
    rintro e w5 ⟨rfl,x5⟩;have y5:Ext wr w5:=Ext.trans (show Ext wr (wr.alloc (.cells #[.slice e1 (s.ps[k]'hlt).ns.length d1,.slice e2 (s.ps[k]'hlt).gs.length d2] 132)) from X_) x5;have hall:s.ps.all Prg.chkB=false:=List.all_eq_false.2 ⟨_,List.getElem_mem hlt,by simp [hcb]⟩;have X5:=HX.out.trans y5;clear hcb;go_wp2;go_ret;exact ⟨by rw [hall];simp,X5⟩
   ·refine (iIsOk_val hcb lo hi _ _ (HR.out.ext (by omega) (show Ext wr (wr.alloc (.cells #[.slice e1 (s.ps[k]'hlt).ns.length d1,.slice e2 (s.ps[k]'hlt).gs.length d2] 132)) from X_)) (by simp;omega) (HS.out _ (List.getElem_mem hlt)).1 (HS.out _ (List.getElem_mem hlt)).2.2).mono ?_
    rintro e w5 ⟨rfl,x5⟩;have y5:Ext wr w5:=Ext.trans (show Ext wr (wr.alloc (.cells #[.slice e1 (s.ps[k]'hlt).ns.length d1,.slice e2 (s.ps[k]'hlt).gs.length d2] 132)) from X_) x5;have X5:=hid (HX.out.trans y5);have R5:=hid (HB.out.ext y5);have HCB:=hid hcb;clear hcb;go_wp2;go_roundw
    case rel=>
     refine ⟨k+1,by omega,by go_num,X5.out,R5.out,fun q hq hq2=>?_⟩
     rcases Nat.lt_or_ge q k with h|h
     ·exact HC.out q h hq2
     ·obtain rfl:q=k:=by omega
      exact HCB.out
    case measure=>simp [intOf];omega
  ·obtain rfl:k=s.ps.length:=by omega
   have hall:s.ps.all Prg.chkB=true:=List.all_eq_true.2 (fun x hx=>by obtain ⟨q,hq,rfl⟩:=List.getElem_of_mem hx;exact hc q hq hq);have HA:=hid hall;have c11:=hb.cell 10 rfl;have lb:=hb.lt;clear hx hb hc hall X1 X2 X4 R1 R2 R4;go_wp2_with fail;clear c11 lb
   go_loopw [50] (fun i wr=>∃k:Nat,k<=s.m/\i = .int .i64 (k:Nat)/\Ext w wr/\Blk wr w.heap.size 31 [s.c.w,s.c.h,s.c.zoom,s.c.near,.bool s.c.deep,s.c.lens,s.c.focus,s.t.log,.slice a1 s.t.px.length c1,.slice a2 s.ps.length c2,.slice a3 s.m c3,s.side]/\∀q,q<k->s.srfB q=true) (fun i _=>s.m - (intOf i).toNat)
   case atStart=>exact ⟨0,by omega,rfl,HX.out,HB.out,fun q hq=>absurd hq (by omega)⟩
   case round=>
    obtain ⟨j,hj,rfl,hx,hb,hc⟩:=hrel;have HX:=hid hx;have HB:=hid hb;have HC:=hid hc
    rcases Nat.lt_or_ge j s.m with hlt|hge
    ·obtain ⟨b,off,rfl,hb1,hb2,hcell⟩:=H3.out.at hlt (by decide)
     have bw:b<w.heap.size:=by omega
     have hcs:wr.rangeAt b (off+j*26) ((List.range 26).map fun q=>.int .i64 (s.F (j*26+q))):=by
      intro q v hq;obtain ⟨h1,h2⟩:=List.getElem?_eq_some_iff.1 hq;simp only [List.length_map,List.length_range] at h1;simp only [List.getElem_map,List.getElem_range] at h2;subst h2;exact (hx.cells.1 b _ bw).trans (hcell q h1)
     change wr.rangeAt b (off+j*26) [(s.st j 0),(s.st j 1),(s.st j 2),(s.st j 3),(s.st j 4),(s.st j 5),(s.st j 6),(s.st j 7),(s.st j 8),(s.st j 9),(s.st j 10),(s.st j 11),(s.en j 0),(s.en j 1),(s.en j 2),(s.en j 3),(s.en j 4),(s.en j 5),(s.en j 6),(s.en j 7),(s.en j 8),(s.en j 9),(s.en j 10),(s.en j 11),(s.sh j),(s.rt j)] at hcs;have HCS:=hid hcs
     have hbx:World.rangeAt (wr.alloc (.cells #[(s.st j 0),(s.st j 1),(s.st j 2),(s.st j 3),(s.st j 4),(s.st j 5),(s.st j 6),(s.st j 7),(s.st j 8),(s.st j 9),(s.st j 10),(s.st j 11),(s.en j 0),(s.en j 1),(s.en j 2),(s.en j 3),(s.en j 4),(s.en j 5),(s.en j 6),(s.en j 7),(s.en j 8),(s.en j 9),(s.en j 10),(s.en j 11),(s.sh j),(s.rt j)] 42)) wr.heap.size 0 [(s.st j 0),(s.st j 1),(s.st j 2),(s.st j 3),(s.st j 4),(s.st j 5),(s.st j 6),(s.st j 7),(s.st j 8),(s.st j 9),(s.st j 10),(s.st j 11),(s.en j 0),(s.en j 1),(s.en j 2),(s.en j 3),(s.en j 4),(s.en j 5),(s.en j 6),(s.en j 7),(s.en j 8),(s.en j 9),(s.en j 10),(s.en j 11),(s.sh j),(s.rt j)]:=fun q v hq=>by rw [Nat.zero_add];exact (Blk.new wr 42 [(s.st j 0),(s.st j 1),(s.st j 2),(s.st j 3),(s.st j 4),(s.st j 5),(s.st j 6),(s.st j 7),(s.st j 8),(s.st j 9),(s.st j 10),(s.st j 11),(s.en j 0),(s.en j 1),(s.en j 2),(s.en j 3),(s.en j 4),(s.en j 5),(s.en j 6),(s.en j 7),(s.en j 8),(s.en j 9),(s.en j 10),(s.en j 11),(s.sh j),(s.rt j)]).cell q hq
     have HBX:=hid hbx;clear hcs hbx;have b9:=hb.cell 9 rfl;have bl:=hb.lt;have bl2:b<wr.heap.size:=Nat.lt_of_lt_of_le bw hx.size;clear hx hb hc hcell;go_upto_region 12 with (first|(show wpList _ _ _ [_,_,_] _ _;refine wpList_load_mid rfl _ _ rfl b (off+j*26) rfl [(s.st j 0),(s.st j 1),(s.st j 2),(s.st j 3),(s.st j 4),(s.st j 5),(s.st j 6),(s.st j 7),(s.st j 8),(s.st j 9),(s.st j 10),(s.st j 11),(s.en j 0),(s.en j 1),(s.en j 2),(s.en j 3),(s.en j 4),(s.en j 5),(s.en j 6),(s.en j 7),(s.en j 8),(s.en j 9),(s.en j 10),(s.en j 11),(s.sh j),(s.rt j)] _ HCS.out Tryz.underlying42 rfl info_srf ?_)|(show wpList _ _ _ [_] _ _;refine wpList_store_fresh _ _ _ rfl 42 (.tmp 6) (.tmp 53) rfl rfl #[(s.st j 0),(s.st j 1),(s.st j 2),(s.st j 3),(s.st j 4),(s.st j 5),(s.st j 6),(s.st j 7),(s.st j 8),(s.st j 9),(s.st j 10),(s.st j 11),(s.en j 0),(s.en j 1),(s.en j 2),(s.en j 3),(s.en j 4),(s.en j 5),(s.en j 6),(s.en j 7),(s.en j 8),(s.en j 9),(s.en j 10),(s.en j 11),(s.sh j),(s.rt j)] wr.heap.size rfl rfl rfl (by kernel_rfl) (by kernel_rfl) (by kernel_rfl) ?_));go_wp2_with (show wpList _ _ _ [_,_,_,_,_,_] _ _;refine wpList_load_mid rfl _ _ rfl wr.heap.size 0 rfl [(s.st j 0),(s.st j 1),(s.st j 2),(s.st j 3),(s.st j 4),(s.st j 5),(s.st j 6),(s.st j 7),(s.st j 8),(s.st j 9),(s.st j 10),(s.st j 11),(s.en j 0),(s.en j 1),(s.en j 2),(s.en j 3),(s.en j 4),(s.en j 5),(s.en j 6),(s.en j 7),(s.en j 8),(s.en j 9),(s.en j 10),(s.en j 11),(s.sh j),(s.rt j)] _ HBX.out Tryz.underlying42 rfl info_srf ?_);refine (iIsValidSurface_any (s.st j) (s.en j) (s.sh j) (s.rt j) s.ps.length _).mono ?_;rintro e w5 ⟨rfl,x5⟩;have y5:Ext wr w5:=Ext.trans (show Ext wr (wr.alloc (.cells #[(s.st j 0),(s.st j 1),(s.st j 2),(s.st j 3),(s.st j 4),(s.st j 5),(s.st j 6),(s.st j 7),(s.st j 8),(s.st j 9),(s.st j 10),(s.st j 11),(s.en j 0),(s.en j 1),(s.en j 2),(s.en j 3),(s.en j 4),(s.en j 5),(s.en j 6),(s.en j 7),(s.en j 8),(s.en j 9),(s.en j 10),(s.en j 11),(s.sh j),(s.rt j)] 42)) from X_) x5;have X5:=hid (HX.out.trans y5);have R5:=hid (HB.out.ext y5)
     cases hcb:srfB (s.st j) (s.en j) (s.sh j) (s.rt j) s.ps.length
     ·have hall:(List.range s.m).all s.srfB=false:=List.all_eq_false.2 ⟨j,List.mem_range.2 hlt,by unfold Scn.srfB;simp [hcb]⟩
      clear hcb;go_wp2;go_ret;exact ⟨by rw [hall];simp,X5.out⟩
     ·have HCB:=hid hcb
      clear hcb;go_wp2;go_roundw
      case rel=>
       refine ⟨j+1,by omega,by go_num,X5.out,R5.out,fun q hq=>?_⟩
       rcases Nat.lt_or_ge q j with h|h
       ·exact HC.out q h
       ·obtain rfl:q=j:=by omega
        exact HCB.out
      case measure=>simp [intOf];omega
    ·obtain rfl:j=s.m:=by omega
     have hall:(List.range s.m).all s.srfB=true:=List.all_eq_true.2 (fun q hq=>HC.out q (List.mem_range.1 hq));go_wp2;go_ret;exact ⟨by rw [hall,HA.out,g0];rfl,HX.out⟩
section
open Go.RowKit Go.Maps Go.WideMaps
theorem insOf_val {p:Prg} {op num:Int} {s:ByteArray} {us:List Int} {o n:Int} {t:ByteArray} (h:insOf p ⟨op,s,num,us⟩=⟨o,t,n⟩):(insOf p ⟨op,s,num,us⟩).val = .agg #[o,.string t,n]:=by rw [h];rfl
theorem iInsOf_any (p:Prg) (hK:p.K) (j:Nat) (op num:Int) (s:ByteArray) (ra:List Int) (hx:p.ns[j]?=some ⟨op,s,num,ra⟩) (sa:Option Addr) (sn sc b:Nat) (w:World) (hM:FM w b p.gs p.gs.length) (hs:s.size<=maxLen) (hgl:p.gs.length<=1048576) :
  Calls Tryz.prog 156 #[.agg #[op,.string s,num,.slice sa sn sc],.map (some b)] w fun e w'=>e = .returned (insOf p ⟨op,s,num,ra⟩).val/\Ext w w':=by
 have HM:=hid hM;have nF:=nodeF_op (hK.v.nd j _ hx).1;simp only at nF;have HX:=hid hx;clear hM hx
 by_cases o1:op=1
 ·subst o1
  clear nF;have hi:insOf p ⟨1,s,num,ra⟩=⟨1,⟨#[]⟩,num⟩:=rfl;rw [insOf_val hi];clear hi;have NB:=hid (Blk.new w 243 [.int .i64 (1),.string s,num,.slice sa sn sc]);go_enter Tryz.func156,Tryz.ntmps156;go_wp2_with fail;refine (iExprOf_any (1) s num _ _).mono ?_;rintro e w1 ⟨rfl,x1⟩;have N1:=NB.out.ext (show Ext _ ((w.alloc (.cells #[.int .i64 (1),.string s,num,.slice sa sn sc] 243)).alloc (.cells #[(),.string ⟨#[]⟩,()] 197)) from X_);have R1:=Blk.new (w.alloc (.cells #[.int .i64 (1),.string s,num,.slice sa sn sc] 243)) 197 [(),.string ⟨#[]⟩,()];rw [World.size_alloc] at R1;have X1:Ext w w1:=Ext.trans X_ x1;have N2:=N1.ext x1;have R2:=R1.ext x1;have M2:=hid (HM.out.ext X1);obtain ⟨n0,n1,n2⟩:=N2.q3;obtain ⟨r0,r1,r2⟩:=R2.q3;have f0:=R2.free 0;have f1:=R2.free 1;have f2:=R2.free 2;have zn:=N2.lt;have zr:=R2.lt;clear N1 R1 N2 R2 x1;unfold exprV;rw [if_neg (by decide),if_neg (by decide)];go_wp2;refine bodyPost_ret (v:=.agg #[.int .i64 (1),.string ⟨#[]⟩,.int .i64 (num)]) (by simp [results,Tryz.results156,go_sem, *]) rfl ?_;exact ⟨rfl,S_⟩
 by_cases o3:op=3
 ·subst o3
  clear nF;have hi:insOf p ⟨3,s,num,ra⟩=⟨5,⟨#[]⟩,3⟩:=rfl;rw [insOf_val hi];clear hi;have NB:=hid (Blk.new w 243 [.int .i64 (3),.string s,num,.slice sa sn sc]);go_enter Tryz.func156,Tryz.ntmps156;go_wp2_with fail;refine (iExprOf_any (3) s num _ _).mono ?_;rintro e w1 ⟨rfl,x1⟩;have N1:=NB.out.ext (show Ext _ ((w.alloc (.cells #[.int .i64 (3),.string s,num,.slice sa sn sc] 243)).alloc (.cells #[(),.string ⟨#[]⟩,()] 197)) from X_);have R1:=Blk.new (w.alloc (.cells #[.int .i64 (3),.string s,num,.slice sa sn sc] 243)) 197 [(),.string ⟨#[]⟩,()];rw [World.size_alloc] at R1;have X1:Ext w w1:=Ext.trans X_ x1;have N2:=N1.ext x1;have R2:=R1.ext x1;have M2:=hid (HM.out.ext X1);obtain ⟨n0,n1,n2⟩:=N2.q3;obtain ⟨r0,r1,r2⟩:=R2.q3;have f0:=R2.free 0;have f1:=R2.free 1;have f2:=R2.free 2;have zn:=N2.lt;have zr:=R2.lt;clear N1 R1 N2 R2 x1;unfold exprV;rw [if_neg (by decide),if_neg (by decide)];go_wp2;refine bodyPost_ret (v:=.agg #[.int .i64 (5),.string ⟨#[]⟩,.int .i64 (3)]) (by simp [results,Tryz.results156,go_sem, *]) rfl ?_;exact ⟨rfl,S_⟩
 by_cases o2:op=2
 ·subst o2
  have h0:=as_vv (.agg #[.int .i64 2,.string s,num,.slice sa sn sc]);clear nF
  cases hv:isVar s
  ·obtain ⟨i,hi0,hik⟩:=hK.name j _ HX.out rfl hv
   simp only at hi0;have HI:=hid hi0;have hil:=(frst_some hi0).1
   have hix:ixOf p s=i:=by unfold ixOf;rw [hi0];rfl
   have HV:=hid hv;clear hi0
   have hi:insOf p ⟨2,s,num,ra⟩=⟨3,⟨#[]⟩,(i:Nat)⟩:=by unfold insOf;simp [hv,hix]
   rw [insOf_val hi];clear hi;clear hv hix;have NB:=hid (Blk.new w 243 [.int .i64 (2),.string s,num,.slice sa sn sc]);go_enter Tryz.func156,Tryz.ntmps156;go_wp2_with fail;refine (iExprOf_any (2) s num _ _).mono ?_;rintro e w1 ⟨rfl,x1⟩;have N1:=NB.out.ext (show Ext _ ((w.alloc (.cells #[.int .i64 (2),.string s,num,.slice sa sn sc] 243)).alloc (.cells #[(),.string ⟨#[]⟩,()] 197)) from X_);have R1:=Blk.new (w.alloc (.cells #[.int .i64 (2),.string s,num,.slice sa sn sc] 243)) 197 [(),.string ⟨#[]⟩,()];rw [World.size_alloc] at R1;have X1:Ext w w1:=Ext.trans X_ x1;have N2:=N1.ext x1;have R2:=R1.ext x1;have M2:=hid (HM.out.ext X1);obtain ⟨n0,n1,n2⟩:=N2.q3;obtain ⟨r0,r1,r2⟩:=R2.q3;have f0:=R2.free 0;have f1:=R2.free 1;have f2:=R2.free 2;have zn:=N2.lt;have zr:=R2.lt;clear N1 R1 N2 R2 x1;unfold exprV;rw [if_pos rfl];go_wp2_with (first|(at_lookup;refine wpList_first _ rfl _ _ rfl _ _ _ rfl (M2.out.ext X_) _ hs rfl _ HI.out ?_)|(go_at_call 218;refine (iIsVariable_val HV.out _).mono ?_;rintro e w3 ⟨rfl,rfl⟩));refine bodyPost_ret (v:=.agg #[.int .i64 (3),.string ⟨#[]⟩,.int .i64 ((i:Nat))]) (by simp [results,Tryz.results156,go_sem, *]) rfl ?_;exact ⟨rfl,S_⟩
  ·have HV:=hid hv
   have hi:insOf p ⟨2,s,num,ra⟩=⟨2,s,0⟩:=by unfold insOf;simp [hv]
   rw [insOf_val hi];clear hi;clear hv;have NB:=hid (Blk.new w 243 [.int .i64 (2),.string s,num,.slice sa sn sc]);go_enter Tryz.func156,Tryz.ntmps156;go_wp2_with fail;refine (iExprOf_any (2) s num _ _).mono ?_;rintro e w1 ⟨rfl,x1⟩;have N1:=NB.out.ext (show Ext _ ((w.alloc (.cells #[.int .i64 (2),.string s,num,.slice sa sn sc] 243)).alloc (.cells #[(),.string ⟨#[]⟩,()] 197)) from X_);have R1:=Blk.new (w.alloc (.cells #[.int .i64 (2),.string s,num,.slice sa sn sc] 243)) 197 [(),.string ⟨#[]⟩,()];rw [World.size_alloc] at R1;have X1:Ext w w1:=Ext.trans X_ x1;have N2:=N1.ext x1;have R2:=R1.ext x1;have M2:=hid (HM.out.ext X1);obtain ⟨n0,n1,n2⟩:=N2.q3;obtain ⟨r0,r1,r2⟩:=R2.q3;have f0:=R2.free 0;have f1:=R2.free 1;have f2:=R2.free 2;have zn:=N2.lt;have zr:=R2.lt;clear N1 R1 N2 R2 x1;unfold exprV;rw [if_pos rfl];go_wp2_with (go_at_call 218;refine (iIsVariable_val HV.out _).mono ?_;rintro e w3 ⟨rfl,rfl⟩);refine bodyPost_ret (v:=.agg #[.int .i64 (2),.string s,.int .i64 (0)]) (by simp [results,Tryz.results156,go_sem, *]) rfl ?_;exact ⟨rfl,S_⟩
 by_cases o8:op=8
 ·subst o8
  have h0:=as_cv (.agg #[.int .i64 8,.string s,num,.slice sa sn sc]);have h1:=as_cc (.agg #[.int .i64 8,.string s,num,.slice sa sn sc]);clear nF;have hi:insOf p ⟨8,s,num,ra⟩=⟨7,s,0⟩:=rfl;rw [insOf_val hi];clear hi;have NB:=hid (Blk.new w 243 [.int .i64 (8),.string s,num,.slice sa sn sc]);go_enter Tryz.func156,Tryz.ntmps156;go_wp2_with fail;refine (iExprOf_any (8) s num _ _).mono ?_;rintro e w1 ⟨rfl,x1⟩;have N1:=NB.out.ext (show Ext _ ((w.alloc (.cells #[.int .i64 (8),.string s,num,.slice sa sn sc] 243)).alloc (.cells #[(),.string ⟨#[]⟩,()] 197)) from X_);have R1:=Blk.new (w.alloc (.cells #[.int .i64 (8),.string s,num,.slice sa sn sc] 243)) 197 [(),.string ⟨#[]⟩,()];rw [World.size_alloc] at R1;have X1:Ext w w1:=Ext.trans X_ x1;have N2:=N1.ext x1;have R2:=R1.ext x1;have M2:=hid (HM.out.ext X1);obtain ⟨n0,n1,n2⟩:=N2.q3;obtain ⟨r0,r1,r2⟩:=R2.q3;have f0:=R2.free 0;have f1:=R2.free 1;have f2:=R2.free 2;have zn:=N2.lt;have zr:=R2.lt;clear N1 R1 N2 R2 x1;unfold exprV;rw [if_neg (by decide),if_pos rfl];go_wp2;refine bodyPost_ret (v:=.agg #[.int .i64 (7),.string s,.int .i64 (0)]) (by simp [results,Tryz.results156,go_sem, *]) rfl ?_;exact ⟨rfl,S_⟩
 have h0:=as_pv (.agg #[op,.string s,num,.slice sa sn sc]);have h1:=as_pc (.agg #[op,.string s,num,.slice sa sn sc]);have b1:(op==1)=false:=beq_eq_false_iff_ne.2 o1;have b3:(op==3)=false:=beq_eq_false_iff_ne.2 o3
 have hi:insOf p ⟨op,s,num,ra⟩=⟨6,⟨#[]⟩,op⟩:=by unfold insOf;simp [o1,o2,o3,o8]
 rw [insOf_val hi];clear hi;have NB:=hid (Blk.new w 243 [.int .i64 (op),.string s,num,.slice sa sn sc]);go_enter Tryz.func156,Tryz.ntmps156;go_wp2_with fail;refine (iExprOf_any (op) s num _ _).mono ?_;rintro e w1 ⟨rfl,x1⟩;have N1:=NB.out.ext (show Ext _ ((w.alloc (.cells #[.int .i64 (op),.string s,num,.slice sa sn sc] 243)).alloc (.cells #[(),.string ⟨#[]⟩,()] 197)) from X_);have R1:=Blk.new (w.alloc (.cells #[.int .i64 (op),.string s,num,.slice sa sn sc] 243)) 197 [(),.string ⟨#[]⟩,()];rw [World.size_alloc] at R1;have X1:Ext w w1:=Ext.trans X_ x1;have N2:=N1.ext x1;have R2:=R1.ext x1;have M2:=hid (HM.out.ext X1);obtain ⟨n0,n1,n2⟩:=N2.q3;obtain ⟨r0,r1,r2⟩:=R2.q3;have f0:=R2.free 0;have f1:=R2.free 1;have f2:=R2.free 2;have zn:=N2.lt;have zr:=R2.lt;clear N1 R1 N2 R2 x1;unfold exprV;rw [if_neg o2,if_neg o8];go_wp2;refine bodyPost_ret (v:=.agg #[.int .i64 (6),.string ⟨#[]⟩,.int .i64 (op)]) (by simp [results,Tryz.results156,go_sem, *]) rfl ?_;exact ⟨rfl,S_⟩
end
section
open Go.RowKit Go.Maps Go.WideMaps
def Ins.cs (x:Ins):List Value:=[x.op,.string x.name,x.num]
def OwnInss (lo:Nat) (w:World) (v:Value) (xs:List Ins):Prop:=OwnG Ins.cs lo 197 3 w v xs
theorem info_InsT:(Tryz.prog.info? 197).map (fun i=>(i.zero,i.size,i.bytes))=some (some (.agg #[(),.string ⟨#[]⟩,()]),3,32):=by kernel_rfl
theorem wpList_append_insn (w:World) {ops:Array Oper} {rest:List Oper} {o:Oper} {a:Act} {Q:Exit->Act->World->Prop} (hg:o.guard=none) (s x:Operand)
  (hop:o.op=Op.call { callee:=Callee.builtin Builtin.append,args:=#[s,x],argTypes:=#[123,123] }) (lo:Nat) (v:Value) (xs:List Ins) (hs:a.eval s=v) (hown:OwnInss lo w v xs)
  (y:Ins) (b:Nat) (hx:a.eval x = .slice (some ⟨b,0,none⟩) 1 1) (hcell:w.cell? ⟨b,0,none⟩=some (.int .i64 y.op)/\w.cell? ⟨b,1,none⟩=some (.string y.name)/\w.cell? ⟨b,2,none⟩=some (.int .i64 y.num)) (hlen:xs.length<1000000) (hlo:lo<=w.heap.size)
  (hK:∀v' w',OwnInss lo w' v' (xs++[y])->w.grownBy w' v.ownBlock->wpList Tryz.prog ops Q rest (a.put o.dst v') w'):wpList Tryz.prog ops Q (o::rest) a w:=by
 refine wpList_append_elt Ins.cs 197 3 32 _ w hg s x 123 hop Tryz.underlying123 info_InsT rfl (by decide) (by decide) (fun _=>rfl) lo v xs hs hown y b hx ?_ ?_ hlen hlo hK
 ·intro j hj
  obtain ⟨c0,c1,c2⟩:=hcell
  rcases (show j=0\/j=1\/j=2 by omega) with rfl|rfl|rfl
  ·exact c0
  ·exact c1
  ·exact c2
 ·intro u hu
  simp only [Ins.cs,List.mem_cons,List.not_mem_nil,or_false] at hu
  rcases hu with rfl|rfl|rfl <;> rfl
theorem OwnG.rowC {α : Type} {cs : α->List Value} {lo:Nat} {e:TypeId} {sz:Nat} {w:World} {v:Value} {xs:List α} (h:OwnG cs lo e sz w v xs):∀k,v.ownBlock=some k->lo<=k/\∃c,w.heap[k]?=some (.cells c e (0,0)):=by
 intro k hk
 rcases h.2 with ⟨rfl,h4⟩|⟨g,cap,cur,rfl,hb,hg,_⟩
 ·cases hk
 ·simp only [Value.ownBlock,Option.some.injEq] at hk
  subst hk;exact ⟨hb,cur,hg⟩
theorem KN.strs {lo B:Nat} {e:TypeId} {lo':Nat} {w w':World} {v:Value} {xs:List ByteArray} (h:OwnStrs lo' w v xs) (k:KN lo B e w w') (hB:∀c,w.heap[B]?≠some (.cells c 9 (0,0))) (he:9≠e):OwnStrs lo' w' v xs:=by
 obtain ⟨h1,h2⟩:=h;refine ⟨h1,?_⟩
 rcases h2 with hn|⟨g,cap,cur,hv,hb,hg,r⟩
 ·exact .inl hn
 ·refine .inr ⟨g,cap,cur,hv,hb,?_,r⟩
  exact (k.block g (Array.getElem?_eq_some_iff.1 hg).1 (.inr ⟨fun e1=>hB cur (e1▸hg),fun c' h'=>by rw [hg] at h';simp only [Option.some.injEq,Obj.cells.injEq] at h';exact he h'.2.1⟩)).trans hg
structure TB (p:Prg) (P T C M mb lo:Nat) (a1 a2:Option Addr) (c1 c2:Nat) (w:World) (xs:List Ins) (iv:Value) (ls:List ByteArray) (lv:Value):Prop where
 prog:Blk w P 132 [.slice a1 p.ns.length c1,.slice a2 p.gs.length c2]
 fn:Blk w T 241 [.func (.func 155) #[] #[.pointer (some ⟨P,0,none⟩),.pointer (some ⟨T,0,none⟩),.pointer (some ⟨C,0,none⟩),.pointer (some ⟨M,0,none⟩)]]
 code:Blk w C 126 [iv,lv]
 mp:Blk w M 239 [.map (some mb)]
 map:FM w mb p.gs p.gs.length
 ins:OwnInss lo w iv xs
 loc:OwnStrs lo w lv ls
 low:lo<=C
theorem Blk.neq {w:World} {A B:Nat} {cs ds:List Value} {t u:TypeId} (h:Blk w A t cs) (k:Blk w B u ds) (ht:t≠u):A≠B:=fun e=>by
 subst e;unfold Blk at h k;rw [h] at k;simp only [Option.some.injEq,Obj.cells.injEq] at k;exact ht k.2.1
theorem Blk.noCells {w:World} {A:Nat} {cs:List Value} {t e:TypeId} (h:Blk w A t cs) (he:e≠t):∀c,w.heap[A]?≠some (.cells c e (0,0)):=fun c hc=>by
 unfold Blk at h;rw [h] at hc;simp only [Option.some.injEq,Obj.cells.injEq] at hc;exact he hc.2.1.symm
theorem KN.fm {lo B:Nat} {e:TypeId} {w w':World} {b k:Nat} {gs:List Asg} {ds:List Value} {u:TypeId} (h:FM w b gs k) (kn:KN lo B e w w') (hB:Blk w B u ds):FM w' b gs k:=by
 have hl:=h.lt;have h':=h;obtain ⟨n,D,_,⟨es,clock,h1,_⟩,_⟩:=h';refine h.of_block (kn.block b hl (.inr ⟨fun e1=>?_,fun c hc=>?_⟩))
 ·subst e1
  unfold Blk at hB;rw [hB] at h1;cases h1
 ·rw [hc] at h1
  cases h1
theorem TB.ext {p:Prg} {P T C M mb lo:Nat} {a1 a2:Option Addr} {c1 c2:Nat} {w w':World} {xs:List Ins} {iv:Value} {ls:List ByteArray} {lv:Value} (h:TB p P T C M mb lo a1 a2 c1 c2 w xs iv ls lv) (x:Ext w w'):TB p P T C M mb lo a1 a2 c1 c2 w' xs iv ls lv:=
 ⟨h.prog.ext x,h.fn.ext x,h.code.ext x,h.mp.ext x,h.map.ext x,OwnG.ext h.ins x,h.loc.ext x,h.low⟩
theorem TB.kn {p:Prg} {P T C M mb lo:Nat} {a1 a2:Option Addr} {c1 c2:Nat} {w w':World} {xs xs':List Ins} {iv iv':Value} {ls:List ByteArray} {lv:Value} (h:TB p P T C M mb lo a1 a2 c1 c2 w xs iv ls lv) (k:KN lo C 197 w w') (hc:Blk w' C 126 [iv',lv]) (hi:OwnInss lo w' iv' xs'):TB p P T C M mb lo a1 a2 c1 c2 w' xs' iv' ls lv:=
 ⟨KN.blk h.prog k (h.prog.neq h.code (by decide)) (by decide),KN.blk h.fn k (h.fn.neq h.code (by decide)) (by decide),hc,KN.blk h.mp k (h.mp.neq h.code (by decide)) (by decide),KN.fm h.map k h.code,hi,KN.strs h.loc k (h.code.noCells (by decide)) (by decide),h.low⟩
def C3b (b c d:Nat):Addr->Prop:=fun a=>a.block=b\/a.block=c\/a.block=d
@[go_sem] theorem C3b_1 (b c d o:Nat):C3b b c d ⟨b,o,none⟩:=.inl rfl
@[go_sem] theorem C3b_2 (b c d o:Nat):C3b b c d ⟨c,o,none⟩:=.inr (.inl rfl)
@[go_sem] theorem C3b_3 (b c d o:Nat):C3b b c d ⟨d,o,none⟩:=.inr (.inr rfl)
end
section
open Go.RowKit Go.Maps Go.WideMaps
theorem flat_take {p:Prg} {ra:List Int} {j:Nat} (hj:j<=ra.length):((ra.take j).flatMap fun a=>p.tr a.toNat).length<=(ra.flatMap fun a=>p.tr a.toNat).length:=by
 conv=>rhs;rw [<-List.take_append_drop j ra,List.flatMap_append,List.length_append]
 omega
theorem iTr_any (lo hi:Nat) (p:Prg) (hv:p.K) (hbd:p.bd) (hgl:p.gs.length<=1048576) (W:World) (a1 a2:Option Addr) (c1 c2:Nat) (HN:NdsAt lo hi W a1 c1 p.ns) (hh:hi<=W.heap.size) (P T C M mb l2:Nat) (hl2:W.heap.size<=l2) (ls:List ByteArray) (lv:Value):∀m,
  ∀(node:Nat) (xs:List Ins) (iv:Value) (w:World),node<m->node<p.ns.length->xs.length+(p.tr node).length<=900000->TB p P T C M mb l2 a1 a2 c1 c2 w xs iv ls lv->Ext W w ->
  Calls Tryz.prog 155 #[(node:Nat),.pointer (some ⟨P,0,none⟩),.pointer (some ⟨T,0,none⟩),.pointer (some ⟨C,0,none⟩),.pointer (some ⟨M,0,none⟩)] w fun e w'=>e = .returned (.tuple #[])/\(∃iv',TB p P T C M mb l2 a1 a2 c1 c2 w' (xs++p.tr node) iv' ls lv)/\KN l2 C 197 w w':=by
 intro m;have l1:=HN.le;have l3:=HN.cap
 induction m with
 | zero=>intro node xs iv w hm;omega
 | succ m ih=>
  intro node xs iv w hm hnl hlen hB hx;have zx:=hx.size;have HB:=hid hB;have HX:=hid hx;obtain ⟨b,off,op,s,num,sa,sc,ra,rfl,hb1,hbw,hget,io,inn,hI,HI,y0,y1,y2,y3⟩:=HN.atW hnl hx hh;have HG:=hid hget;have li1:=HI.le;have li2:=HI.cap;have qp:=hB.prog.cell 0 rfl;have pl:=hB.prog.lt;have hlo:=hB.low;have hcl:=hB.code.lt;have htr:=hv.v.tr_step hget;simp only at htr
  have hfl:(p.tr node).length=(ra.flatMap fun a=>p.tr a.toNat).length+1:=by rw [htr];simp
  have HTR:=hid htr;have IH:=hid ih;have hss:s.size<=maxLen:=hbd.1 _ (List.mem_of_getElem? hget);have nb:=Blk.new w 243 [op,.string s,num,.slice sa ra.length sc];have xn:Ext w (w.alloc (.cells #[op,.string s,num,.slice sa ra.length sc] 243)):=X_;have NB:=hid nb;have XN:=hid xn;clear ih hget hB hx nb xn htr;go_enter Tryz.func155,Tryz.ntmps155;go_wp2
  go_loopw [17] (fun i wr=>∃(j:Nat) (iv':Value),j<=ra.length/\i = .int .i64 (j:Nat)/\TB p P T C M mb l2 (some ⟨b,off,none⟩) a2 c1 c2 wr (xs++(ra.take j).flatMap fun a=>p.tr a.toNat) iv' ls lv/\Blk wr w.heap.size 243 [op,.string s,num,.slice sa ra.length sc]/\KN l2 C 197 w wr) (fun i _=>ra.length - (intOf i).toNat)
  case atStart=>exact ⟨0,iv,by omega,rfl,by simpa using HB.out.ext XN.out,NB.out,(KN.refl _ _ _ _).ext XN.out⟩
  case round=>
   clear HB NB XN;obtain ⟨j,iv',hj,rfl,hB,hN,hk⟩:=hrel;have HB:=hid hB;have HNB:=hid hN;have HK:=hid hk;have HXr:=hid (hk.up HX.out hl2);have hft:=flat_take (p:=p) hj;clear hB hN hk
   by_cases hlj:j<ra.length
   ·obtain ⟨b3,off3,y,rfl,hb3,hy,_,hc3⟩:=HI.atE hlj HXr.out hh
    have hyb:=(hv.v.nd node _ HG.out).2 y (List.mem_of_getElem? hy)
    obtain ⟨z,rfl⟩:∃z:Nat,y=z:=⟨y.toNat,by omega⟩
    have hf:=HB.out.fn;have qf:=hf.cell 0 rfl
    have htk:((ra.take (j+1)).flatMap fun a=>p.tr a.toNat)=((ra.take j).flatMap fun a=>p.tr a.toNat)++p.tr z:=by
     rw [List.take_add_one,hy,List.flatMap_append];simp
    have hft2:=flat_take (p:=p) (ra:=ra) (j:=j+1) (by omega);rw [htk,List.length_append] at hft2;have HTK:=hid htk;clear hy htk hf;go_wp2_with fail;refine (IH.out z _ iv' _ (by omega) (by omega) (by rw [List.length_append];omega) HB.out HXr.out).mono ?_;rintro e w1 ⟨rfl,⟨iv2,hB2⟩,hk2⟩;have HB2:=hid hB2;have HNB2:=hid (KN.blk HNB.out hk2 (HNB.out.neq HB.out.code (by decide)) (by decide));have HK2:=hid (HK.out.trans hk2);clear hB2 hk2 HB HNB HK HXr qf;go_wp2;go_roundw
    case rel=>exact ⟨j+1,iv2,by omega,by go_num,by rw [HTK.out,<-List.append_assoc];exact HB2.out,HNB2.out,HK2.out⟩
    case measure=>simp [intOf];omega
   ·obtain rfl:j=ra.length:=by omega
    rw [List.take_length] at HB hft
    obtain ⟨L,hL⟩:∃L,xs++(ra.flatMap fun a=>p.tr a.toNat)=L:=⟨_,rfl⟩
    have hLl:L.length<=900000:=by rw [<-hL,List.length_append];omega
    rw [hL] at HB;have HL:=hid hL;obtain ⟨ia,ic,rfl,-⟩:=OwnG.form HB.out.ins;clear hL hft;have hco:=HB.out.code;have cc0:=hco.cell 0 rfl;have cf0:=hco.free 0;have ccl:=hco.lt;have hmp:=HB.out.mp;have m0:=hmp.cell 0 rfl;have ml:=hmp.lt;obtain ⟨n0,n1,n2,n3⟩:=HNB.out.q4;have zn:=HNB.out.lt;have zwr:=HXr.out.size;have hNC:=HNB.out.neq HB.out.code (by decide)
    have hin:∃o t n,insOf p ⟨op,s,num,ra⟩=⟨o,t,n⟩:=⟨_,_,_,rfl⟩
    obtain ⟨io,it,inu,hin⟩:=hin;have HIN:=hid hin;clear hin hco hmp;go_wp2_with fail;refine wp_region_stagesS [([0,1,2,3],4),([],5),([],6),([7],8)] 8 (fun w'=>∃d,w'=lowc (C3b C w.heap.size M) _ d) (by kernel_rfl) (by kernel_rfl) (SC.drew _ _) ?_;refine sc_ fun K hK=>?_;go_wp2_with fail;refine (iInsOf_any p hv node op num s ra HG.out sa ra.length sc mb _ (HB.out.map.ext X_) hss hgl).mono ?_;rintro e w6 ⟨rfl,x6⟩;rw [insOf_val HIN.out];have y6:Ext wr w6:=Ext.trans (Ext.drew (Ext.refl _)) x6;go_wp2_with fail;refine hK _ _ (.inr (SC.blocks fun a ha=>?_)) ?_
    ·rcases ha with ha|ha|ha
     ·exact y6.block (by rw [ha];omega)
     ·exact y6.block (by rw [ha];omega)
     ·exact y6.block (by rw [ha];omega)
    clear hK K;refine sc_ fun K hK=>?_;go_wp2_with fail;have y7:Ext w6 (w6.alloc (.cells #[io,.string it,inu] 197)):=X_;have b7:=Blk.new w6 197 [io,.string it,inu];have y67:=y6.trans y7;refine hK _ _ (.inr (SC.blocks fun a ha=>?_)) ?_
    ·rcases ha with ha|ha|ha
     ·exact y67.block (by rw [ha];omega)
     ·exact y67.block (by rw [ha];omega)
     ·exact y67.block (by rw [ha];omega)
    clear hK K;have HB7:=hid (HB.out.ext y67);have HN7:=hid (HNB.out.ext y67);have z67:=y67.size;have hlo2:=HXr.out.size;refine sc_ fun K hK=>?_;refine wpList_append_insn _ rfl _ _ rfl l2 (.slice ia L.length ic) L rfl HB7.out.ins ⟨io,it,inu⟩ w6.heap.size rfl ⟨b7.cell 0 rfl,b7.cell 1 rfl,b7.cell 2 rfl⟩ (by omega) (by omega) ?_;intro iv2 w8 hown hg;have hrow:=OwnG.rowC HB7.out.ins
    have hother:∀{B:Nat} {t:TypeId} {cs:List Value},Blk (w6.alloc (.cells #[io,.string it,inu] 197)) B t cs->t≠197->w8.heap[B]?=(w6.alloc (.cells #[io,.string it,inu] 197)).heap[B]?:=fun hb ht=>hg.block _ hb.lt (fun e=>by
     obtain ⟨_,c,hc⟩:=hrow _ e.symm
     exact hb.noCells (Ne.symm ht) c hc)
    have kC:=hother HB7.out.code (by decide);have kN:=hother HN7.out (by decide);have kM:=hother HB7.out.mp (by decide);have K8:KN l2 C 197 wr w8:=((KN.refl l2 C 197 wr).ext y67).grown hg hrow;have C8:=HB7.out.code.of kC;have e0:=C8.cell 0 rfl;have g0:=C8.free 0;have HK9:=hid (HK.out.trans (K8.set HB.out.low 0 iv2));have HB9:=hid (HB.out.kn (K8.set HB.out.low 0 iv2) (C8.set 0 iv2) (OwnG.set hown C8 (by decide) 0 iv2));go_wp2_with fail;refine hK _ _ (.inr (SC.blocks fun a ha=>?_)) ?_
    ·rcases ha with ha|ha|ha
     ·rw [ha];exact kC.trans (y67.block (by omega))
     ·rw [ha];exact kN.trans (y67.block (by omega))
     ·rw [ha];exact kM.trans (y67.block (by omega))
    clear hK K;obtain ⟨ia2,ic2,hv2,_⟩:=OwnG.form hown
    have hll:(L++[(⟨io,it,inu⟩:Ins)]).length=L.length+1:=by simp
    rw [hll] at hv2;subst hv2;clear hown hg hrow hother kC kN kM K8 C8 cc0 cf0 m0 n0 n1 n2 n3;refine wpStagesS_cons ?_;simp only [List.filterMap_cons,List.filterMap_nil,List.getElem?_toArray,List.getElem?_cons_zero,List.getElem?_cons_succ]
    show wpQuiet _ _ _ _ [_] _
    simp only [Act.put,List.setIfInBounds_toArray,List.set_cons_succ,List.set_cons_zero,List.getElem_toArray,List.getElem_cons_succ,List.getElem_cons_zero]
    repeat (go_big_quiet_step (fail))
    refine wpQuiet_nil ⟨_,rfl,fun K hK=>?_⟩;go_wp2_with fail;refine hK _ _ (.inl trivial) ?_;clear hK K;refine wpStagesS_nil ?_
    have hfin:L++[(⟨io,it,inu⟩:Ins)]=xs++p.tr node:=by rw [HTR.out,HIN.out,<-HL.out,List.append_assoc]
    go_wp2
    go_end0
    exact ⟨rfl,⟨_,by rw [<-hfin];exact HB9.out⟩,HK9.out⟩
end
def digB (x:Int):Bool:=inB x 48 57
def letB (x:Int):Bool:=inB x 97 122
theorem wrap64_i64T (n:Int):I64 (wrap64 n):=by unfold wrap64;exact ⟨by omega,by omega⟩
theorem l12Digit_val {x:Int} {b:Bool} (h:digB x=b) (w:World):Calls Tryz.prog 307 #[.int .u8 x] w fun e w'=>e = .returned (.bool b)/\w=w':=by
 cases b
 ·have h2 : ¬(48<=x/\x<=57):=fun c=>by rw [digB,inB_iff.2 c] at h;cases h
  clear h;go_enter Tryz.func307,Tryz.ntmps307;go_wp2
  all_goals first|(exfalso;omega)|(go_ret;exact ⟨by simp <;> omega,rfl⟩)
 ·have h2:=inB_iff.1 h
  clear h;go_enter Tryz.func307,Tryz.ntmps307;go_wp2
  all_goals first|(exfalso;omega)|(go_ret;exact ⟨by simp <;> omega,rfl⟩)
theorem l12Letter_val {x:Int} {b:Bool} (h:letB x=b) (w:World):Calls Tryz.prog 309 #[.int .u8 x] w fun e w'=>e = .returned (.bool b)/\w=w':=by
 cases b
 ·have h2 : ¬(97<=x/\x<=122):=fun c=>by rw [letB,inB_iff.2 c] at h;cases h
  clear h;go_enter Tryz.func309,Tryz.ntmps309;go_wp2
  all_goals first|(exfalso;omega)|(go_ret;exact ⟨by simp <;> omega,rfl⟩)
 ·have h2:=inB_iff.1 h
  clear h;go_enter Tryz.func309,Tryz.ntmps309;go_wp2
  all_goals first|(exfalso;omega)|(go_ret;exact ⟨by simp <;> omega,rfl⟩)
def wb:Nat->Int
 | 0=>0
 | d+1=>10*wb d+9
def ub:Nat->Int
 | 0=>1
 | d+1=>10*ub d
theorem wb_le {d:Nat} (h:d<=6):0<=wb d/\wb d<=999999:=by
 rcases (show d=0\/d=1\/d=2\/d=3\/d=4\/d=5\/d=6 by omega) with rfl|rfl|rfl|rfl|rfl|rfl|rfl <;> decide
theorem ub_le {d:Nat} (h:d<=6):1<=ub d/\ub d<=1000000:=by
 rcases (show d=0\/d=1\/d=2\/d=3\/d=4\/d=5\/d=6 by omega) with rfl|rfl|rfl|rfl|rfl|rfl|rfl <;> decide
theorem l12Number_any (s:ByteArray) (o:Nat) (w:World) (hs:s.size<=2000) (ho:o<s.size) (hd:digB (s[o].toNat:Nat)=true):Calls Tryz.prog 308 #[.string s,(o:Nat)] w fun e w'=>∃(k:Nat) (n:Int) (b:Bool),e = .returned (.tuple #[(k:Nat),n,.bool b])/\o<k/\k<=s.size/\I64 n/\Ext w w':=by
 have HD:=hid hd;clear hd;go_enter Tryz.func308,Tryz.ntmps308;go_wp2
 go_loopw [7,8] (fun i q wr=>∃(d:Nat) (z:Int),d<=6/\o+d<=s.size/\i = .int .i64 ((o+d:Nat):Int)/\q = .int .i64 z/\0<=z/\z<=wb d/\wr=w) (fun i _ _=>s.size - (intOf i).toNat)
 case atStart=>exact ⟨0,0,by omega,by omega,by go_num,rfl,by omega,by decide,rfl⟩
 case round=>
  obtain ⟨d,z,hd6,hk,rfl,rfl,hz0,hz1,rfl⟩:=hrel;have hw6:=wb_le hd6
  by_cases hgo:(∃h:o+d<s.size,digB (s[o+d].toNat:Nat)=true)/\d<=5
  ·obtain ⟨⟨hlt,hdg⟩,hd5⟩:=hgo
   have hb:=inB_iff.1 hdg;have HB:=hid hdg;have hwb:wb (d+1)=10*wb d+9:=rfl;have HWB:=hid hwb;clear hdg hwb;go_wp2_with (go_at_call 307;refine (l12Digit_val HB.out _).mono ?_;rintro e w1 ⟨rfl,rfl⟩);go_roundw
   case rel=>exact ⟨d+1,z*10+((s[o+d].toNat:Int) - 48),by omega,by omega,by go_num,rfl,by omega,by rw [HWB.out];omega,by trivial⟩
   case measure=>simp [intOf];omega
  ·have hd1:1<=d:=by
    by_cases h0:d=0
    ·subst h0;exact absurd ⟨⟨ho,HD.out⟩,by omega⟩ hgo
    ·omega
   have HG:=hid hgo;clear hgo
   obtain ⟨k,hke⟩:∃k,o+d=k:=⟨_,rfl⟩
   rw [hke] at hk ⊢
   have HR:Hid ((k<s.size->∀h:k<s.size,digB (s[k].toNat:Nat)=true->d=6)/\True):=hid ⟨fun hlt h hdg=>by
    subst hke
    by_cases h5:d<=5
    ·exact absurd ⟨⟨hlt,hdg⟩,h5⟩ HG.out
    ·omega,trivial⟩
   clear HG
   by_cases hlt:k<s.size
   ·cases hdg:digB (s[k].toNat:Nat)
    ·have HB:=hid hdg
     clear hdg;go_wp2_with (go_at_call 307;refine (l12Digit_val HB.out _).mono ?_;rintro e w1 ⟨rfl,rfl⟩)
     ·refine bodyPost_ret (v:=.tuple #[(k:Nat),(),.bool false]) (by simp [results,Tryz.results308,go_sem]) rfl ?_
      exact ⟨k,0,false,rfl,by omega,hk,⟨by decide,by decide⟩,Ext.refl _⟩
     ·refine bodyPost_ret (v:=.tuple #[(k:Nat),.int .i64 (z*256),.bool true]) (by simp [results,Tryz.results308,go_sem]) rfl ?_
      exact ⟨k,z*256,true,rfl,by omega,hk,⟨by omega,by omega⟩,Ext.refl _⟩
     ·rename (_=false/\_=false)=>q2
      rename ¬(k:Int)=(s.size:Int)=>q3
      clear q2 q3 HR HB
      go_loopw [7,10,11] (fun i q u wx=>∃(c:Nat) (y:Int),c<=6/\k+1+c<=s.size/\i = .int .i64 ((k+1+c:Nat):Int)/\q = .int .i64 y/\0<=y/\y<=wb c/\u = .int .i64 (ub c)/\wx=wr) (fun i _ _ _=>s.size - (intOf i).toNat)
      case atStart=>exact ⟨0,0,by omega,by omega,by go_num,rfl,by omega,by decide,rfl,rfl⟩
      case round=>
       obtain ⟨c,y,hc6,hkc,rfl,rfl,hy0,hy1,rfl,rfl⟩:=hrel;have hcw:=wb_le hc6;have hcu:=ub_le hc6
       obtain ⟨l,hle⟩:∃l,k+1+c=l:=⟨_,rfl⟩
       obtain ⟨uc,huc⟩:∃uc,ub c=uc:=⟨_,rfl⟩
       have hu1:ub (c+1)=10*uc:=by rw [<-huc];rfl
       have HU1:=hid hu1;have HW1:Hid (wb (c+1)=10*wb c+9):=hid rfl;rw [huc] at hcu ⊢;rw [hle] at hkc ⊢;have HL:=hid hle;clear huc hu1 hle
       by_cases hll:l<s.size
       ·cases hdl:digB (s[l].toNat:Nat)
        ·have HB:=hid hdl
         clear hdl;go_wp2_with (go_at_call 307;refine (l12Digit_val HB.out _).mono ?_;rintro e w1 ⟨rfl,rfl⟩)
         ·refine bodyPost_ret (v:=.tuple #[.int .i64 ((k:Int)+1),(),.bool false]) (by simp [results,Tryz.results308,go_sem]) rfl ?_
          exact ⟨k+1,0,false,by go_num,by omega,by omega,⟨by decide,by decide⟩,Ext.refl _⟩
         ·refine bodyPost_ret (v:=.tuple #[(l:Nat),(),.bool false]) (by simp [results,Tryz.results308,go_sem]) rfl ?_
          exact ⟨l,0,false,rfl,by have:=HL.out;omega,hkc,⟨by decide,by decide⟩,Ext.refl _⟩
         ·go_quiet (fail)
          go_wp2;refine bodyPost_ret (v:=.tuple #[(l:Nat),.int .i64 (wrap64 (z*256+y*256 / uc)),.bool true]) (by simp [results,Tryz.results308,go_sem]) rfl ?_;exact ⟨l,_,true,rfl,by have:=HL.out;omega,hkc,wrap64_i64T _,X_⟩
        ·have HB:=hid hdl
         have hb:=inB_iff.1 hdl;clear hdl
         by_cases hc5:c<=5
         ·have hl5:(l:Int) - ((k:Int)+1)<=5:=by have:=HL.out;omega
          go_wp2_with (go_at_call 307;refine (l12Digit_val HB.out _).mono ?_;rintro e w1 ⟨rfl,rfl⟩);go_roundw
          case rel=>exact ⟨c+1,y*10+((s[l].toNat:Int) - 48),by omega,by have:=HL.out;omega,by have:=HL.out;go_num,rfl,by omega,by rw [HW1.out];omega,by rw [HU1.out,Int.mul_comm],by trivial⟩
          case measure=>simp [intOf];omega
         ·have hl5 : ¬(l:Int) - ((k:Int)+1)<=5:=by have:=HL.out;omega
          go_wp2_with (go_at_call 307;refine (l12Digit_val HB.out _).mono ?_;rintro e w1 ⟨rfl,rfl⟩);refine bodyPost_ret (v:=.tuple #[(l:Nat),(),.bool false]) (by simp [results,Tryz.results308,go_sem]) rfl ?_;exact ⟨l,0,false,rfl,by have:=HL.out;omega,hkc,⟨by decide,by decide⟩,Ext.refl _⟩
       ·go_wp2
        ·refine bodyPost_ret (v:=.tuple #[.int .i64 ((k:Int)+1),(),.bool false]) (by simp [results,Tryz.results308,go_sem]) rfl ?_
         exact ⟨k+1,0,false,by go_num,by omega,by omega,⟨by decide,by decide⟩,Ext.refl _⟩
        ·refine bodyPost_ret (v:=.tuple #[(l:Nat),(),.bool false]) (by simp [results,Tryz.results308,go_sem]) rfl ?_
         exact ⟨l,0,false,rfl,by have:=HL.out;omega,hkc,⟨by decide,by decide⟩,Ext.refl _⟩
        ·go_quiet (fail)
         go_wp2;refine bodyPost_ret (v:=.tuple #[(l:Nat),.int .i64 (wrap64 (z*256+y*256 / uc)),.bool true]) (by simp [results,Tryz.results308,go_sem]) rfl ?_;exact ⟨l,_,true,rfl,by have:=HL.out;omega,hkc,wrap64_i64T _,X_⟩
    ·have HB:=hid hdg
     obtain rfl:=HR.out.1 hlt hlt hdg;clear hdg;go_wp2_with (go_at_call 307;refine (l12Digit_val HB.out _).mono ?_;rintro e w1 ⟨rfl,rfl⟩);refine bodyPost_ret (v:=.tuple #[(k:Nat),(),.bool false]) (by simp [results,Tryz.results308,go_sem]) rfl ?_;exact ⟨k,0,false,rfl,by omega,hk,⟨by decide,by decide⟩,Ext.refl _⟩
   ·go_wp2
    ·refine bodyPost_ret (v:=.tuple #[(k:Nat),(),.bool false]) (by simp [results,Tryz.results308,go_sem]) rfl ?_
     exact ⟨k,0,false,rfl,by omega,hk,⟨by decide,by decide⟩,Ext.refl _⟩
    ·refine bodyPost_ret (v:=.tuple #[(s.size:Nat),.int .i64 (z*256),.bool true]) (by simp [results,Tryz.results308,go_sem]) rfl ?_
     exact ⟨s.size,z*256,true,rfl,ho,Nat.le_refl _,⟨by omega,by omega⟩,Ext.refl _⟩
def ldB (s:ByteArray) (j:Nat):Bool:=if h:j<s.size then letB (s[j].toNat:Nat)||digB (s[j].toNat:Nat) else false
def symL:List Int:=[43,45,42,47,40,41,44,61,59]
structure ScanR (s:ByteArray) (o:Nat) (t:Tok) (k:Nat):Prop where
 lt:o<k
 le:k<=s.size
 off:t.off=o
 text:t.text.size<=2000
 num:I64 t.num
 kind:1<=t.kind/\t.kind<=3
def Tok.val (t:Tok):Value:=.agg #[t.kind,.string t.text,t.num,t.off]
theorem extract_le (s:ByteArray) (a b:Nat):(s.extract a b).size<=s.size:=by
 rw [ByteArray.size_extract];omega
theorem l12Scan_dig (s:ByteArray) (o:Nat) (w:World) (hs:s.size<=2000) (ho:o<s.size) (hd:digB (s[o].toNat:Nat)=true):Calls Tryz.prog 289 #[.string s,(o:Nat)] w fun e w'=>∃(t:Tok) (k:Nat) (b:Bool),e = .returned (.tuple #[t.val,(k:Nat),.bool b])/\ScanR s o t k/\Ext w w':=by
 have HD:=hid hd;clear hd;go_enter Tryz.func289,Tryz.ntmps289;go_wp2_with (go_at_call 307;refine (l12Digit_val HD.out _).mono ?_;rintro e w1 ⟨rfl,rfl⟩);refine (l12Number_any s o _ hs ho HD.out).mono ?_;rintro e w1 ⟨k,n,b,rfl,hk,hks,hn,x1⟩;have z1:=x1.size;have BX:=(Bx.made w #[(),.string ⟨#[]⟩,(),()] 336).ext x1;simp only [World.size_alloc] at z1;have X0:Ext w w1:=Ext.trans X_ x1;clear x1;have bx:=BX.lt;have bx0:=BX.cell 0;simp only [List.getElem?_toArray,List.getElem?_cons_zero,List.getElem?_cons_succ] at bx0;have bx1:=BX.cell 1;simp only [List.getElem?_toArray,List.getElem?_cons_zero,List.getElem?_cons_succ] at bx1;have bx2:=BX.cell 2;simp only [List.getElem?_toArray,List.getElem?_cons_zero,List.getElem?_cons_succ] at bx2;have bx3:=BX.cell 3;simp only [List.getElem?_toArray,List.getElem?_cons_zero,List.getElem?_cons_succ] at bx3;have bxf0:=BX.frozen 0;have bxf1:=BX.frozen 1;have bxf2:=BX.frozen 2;have bxf3:=BX.frozen 3;go_wp2;refine bodyPost_ret (v:=.tuple #[.agg #[.int .i64 1,.string (s.extract o k),n,(o:Nat)],(k:Nat),.bool b]) (by simp [results,Tryz.results289,go_sem, *]) rfl ?_;exact ⟨⟨1,s.extract o k,n,o⟩,k,b,rfl,⟨hk,hks,rfl,Nat.le_trans (extract_le s o k) hs,hn,by show (1:Int)<=1;decide,by show (1:Int)<=3;decide⟩,S_⟩
theorem l12Scan_let (s:ByteArray) (o:Nat) (w:World) (hs:s.size<=2000) (ho:o<s.size) (hd:digB (s[o].toNat:Nat)=false) (hl:letB (s[o].toNat:Nat)=true):Calls Tryz.prog 289 #[.string s,(o:Nat)] w fun e w'=>∃k:Nat,e = .returned (.tuple #[Tok.val ⟨2,s.extract o k,0,o⟩,(k:Nat),.bool (decide ((k:Int) - o<=8))])/\ScanR s o ⟨2,s.extract o k,0,o⟩ k/\(∀j,o<=j->j<k->ldB s j=true)/\ldB s k=false/\Ext w w':=by
 have HD:=hid hd;have HL:=hid hl;clear hd hl;go_enter Tryz.func289,Tryz.ntmps289;have BX:=Bx.made w #[(),.string ⟨#[]⟩,(),()] 336;have X0:Ext w (w.alloc (.cells #[(),.string ⟨#[]⟩,(),()] 336)):=X_
 go_wp2_with first|(go_at_call 307;refine (l12Digit_val HD.out _).mono ?_;rintro e w1 ⟨rfl,rfl⟩)|(go_at_call 309;refine (l12Letter_val HL.out _).mono ?_;rintro e w1 ⟨rfl,rfl⟩)
 go_loopw [11] (fun i wr=>∃k:Nat,o<=k/\k<=s.size/\i = .int .i64 (k:Nat)/\(∀j,o<=j->j<k->ldB s j=true)/\wr=w.alloc (.cells #[(),.string ⟨#[]⟩,(),()] 336)) (fun i _=>s.size - (intOf i).toNat)
 case atStart=>exact ⟨o,Nat.le_refl _,by omega,rfl,fun j h1 h2=>by omega,rfl⟩
 case round=>
  obtain ⟨k,hk,hks,rfl,hall,rfl⟩:=hrel;have HA:=hid hall;clear hall;have htok:∀q,(s.extract o q).size<=2000:=fun q=>Nat.le_trans (extract_le s o q) hs;have HT:=hid htok;clear htok;have bx:=BX.lt;have bx0:=BX.cell 0;simp only [List.getElem?_toArray,List.getElem?_cons_zero,List.getElem?_cons_succ] at bx0;have bx1:=BX.cell 1;simp only [List.getElem?_toArray,List.getElem?_cons_zero,List.getElem?_cons_succ] at bx1;have bx2:=BX.cell 2;simp only [List.getElem?_toArray,List.getElem?_cons_zero,List.getElem?_cons_succ] at bx2;have bx3:=BX.cell 3;simp only [List.getElem?_toArray,List.getElem?_cons_zero,List.getElem?_cons_succ] at bx3;have bxf0:=BX.frozen 0;have bxf1:=BX.frozen 1;have bxf2:=BX.frozen 2;have bxf3:=BX.frozen 3;simp only [World.size_alloc] at bx
  have fin:k<=s.size/\ldB s k=false->o<k:=fun h=>by
   by_cases e:k=o
   ·subst e
    have h2:=h.2;unfold ldB at h2;rw [dif_pos ho,HL.out] at h2;simp at h2
   ·omega
  have HF:=hid fin;clear fin
  by_cases hlt:k<s.size
  ·cases h1:letB (s[k].toNat:Nat)
   ·cases h2:digB (s[k].toNat:Nat)
    ·have hld:ldB s k=false:=by unfold ldB;rw [dif_pos hlt,h1,h2];rfl
     have HB:=hid hld;have H1:=hid h1;have H2:=hid h2;have hok:=HF.out ⟨hks,hld⟩;clear hld h1 h2
     go_wp2_with first|(go_at_call 307;refine (l12Digit_val H2.out _).mono ?_;rintro e w1 ⟨rfl,rfl⟩)|(go_at_call 309;refine (l12Letter_val H1.out _).mono ?_;rintro e w1 ⟨rfl,rfl⟩)
     refine bodyPost_ret (v:=.tuple #[Tok.val ⟨2,s.extract o k,0,o⟩,(k:Nat),.bool (decide ((k:Int) - o<=8))]) (by simp [results,Tok.val,Tryz.results289,go_sem, *]) rfl ?_;exact ⟨k,rfl,⟨hok,hks,rfl,HT.out k,⟨by show (-9223372036854775808:Int)<=0;decide,by show (0:Int)<=9223372036854775807;decide⟩,by show (1:Int)<=2;decide,by show (2:Int)<=3;decide⟩,HA.out,HB.out,S_⟩
    ·have hld:ldB s k=true:=by unfold ldB;rw [dif_pos hlt,h1,h2];rfl
     have HB:=hid hld;have H1:=hid h1;have H2:=hid h2;clear hld h1 h2
     go_wp2_with first|(go_at_call 307;refine (l12Digit_val H2.out _).mono ?_;rintro e w1 ⟨rfl,rfl⟩)|(go_at_call 309;refine (l12Letter_val H1.out _).mono ?_;rintro e w1 ⟨rfl,rfl⟩)
     go_roundw
     case rel=>exact ⟨k+1,by omega,by omega,by go_num,fun j j1 j2=>by (by_cases e:j=k);exact e▸HB.out;exact HA.out j j1 (by omega),by trivial⟩
     case measure=>simp [intOf];omega
   ·have hld:ldB s k=true:=by unfold ldB;rw [dif_pos hlt,h1];rfl
    have HB:=hid hld;have H1:=hid h1;clear hld h1
    go_wp2_with first|(go_at_call 309;refine (l12Letter_val H1.out _).mono ?_;rintro e w1 ⟨rfl,rfl⟩)
    go_roundw
    case rel=>exact ⟨k+1,by omega,by omega,by go_num,fun j j1 j2=>by (by_cases e:j=k);exact e▸HB.out;exact HA.out j j1 (by omega),by trivial⟩
    case measure=>simp [intOf];omega
  ·have hld:ldB s k=false:=by unfold ldB;rw [dif_neg hlt]
   have HB:=hid hld;have hok:=HF.out ⟨hks,hld⟩;clear hld;go_wp2;refine bodyPost_ret (v:=.tuple #[Tok.val ⟨2,s.extract o k,0,o⟩,(k:Nat),.bool (decide ((k:Int) - o<=8))]) (by simp [results,Tok.val,Tryz.results289,go_sem, *]) rfl ?_;exact ⟨k,rfl,⟨hok,hks,rfl,HT.out k,⟨by show (-9223372036854775808:Int)<=0;decide,by show (0:Int)<=9223372036854775807;decide⟩,by show (1:Int)<=2;decide,by show (2:Int)<=3;decide⟩,HA.out,HB.out,S_⟩
theorem l12Scan_oth (s:ByteArray) (o:Nat) (w:World) (hs:s.size<=2000) (ho:o<s.size) (hd:digB (s[o].toNat:Nat)=false) (hl:letB (s[o].toNat:Nat)=false):Calls Tryz.prog 289 #[.string s,(o:Nat)] w fun e w'=>∃(t:Tok) (k:Nat) (b:Bool),e = .returned (.tuple #[t.val,(k:Nat),.bool b])/\(b=true->t=⟨3,s.extract o (o+1),0,o⟩/\k=o+1)/\(((s[o].toNat:Nat):Int)∈symL->b=true)/\Ext w w':=by
 obtain ⟨c,hc⟩:∃c:Int,((s[o].toNat:Nat):Int)=c:=⟨_,rfl⟩
 rw [hc] at hd hl ⊢;have HD:=hid hd;have HL:=hid hl;have htok:∀q,(s.extract o q).size<=2000:=fun q=>Nat.le_trans (extract_le s o q) hs;have HT:=hid htok;clear hd hl htok
 have kc:(Go.convert 22 22 (.slice (some ⟨w.heap.size+1,0,none⟩) 9 9)).run Tryz.prog ((w.alloc (.cells #[(),.string ⟨#[]⟩,(),()] 336)).alloc (.cells #[.int .u8 43,.int .u8 45,.int .u8 42,.int .u8 47,.int .u8 40,.int .u8 41,.int .u8 44,.int .u8 61,.int .u8 59] 5)) = .ok (.slice (some ⟨w.heap.size+1,0,none⟩) 9 9) ((w.alloc (.cells #[(),.string ⟨#[]⟩,(),()] 336)).alloc (.cells #[.int .u8 43,.int .u8 45,.int .u8 42,.int .u8 47,.int .u8 40,.int .u8 41,.int .u8 44,.int .u8 61,.int .u8 59] 5 (9,10))):=by
  have:=Lib.run_convert_bytes_const (P:=Tryz.prog) (w.alloc (.cells #[(),.string ⟨#[]⟩,(),()] 336)) 22 5 #[.int .u8 43,.int .u8 45,.int .u8 42,.int .u8 47,.int .u8 40,.int .u8 41,.int .u8 44,.int .u8 61,.int .u8 59] 9 9 Tryz.underlying22 Tryz.underlying5;simp only [World.size_alloc] at this;exact this
 have BX:=Bx.made w #[(),.string ⟨#[]⟩,(),()] 336;have x1:Ext (w.alloc (.cells #[(),.string ⟨#[]⟩,(),()] 336)) ((w.alloc (.cells #[(),.string ⟨#[]⟩,(),()] 336)).alloc (.cells #[.int .u8 43,.int .u8 45,.int .u8 42,.int .u8 47,.int .u8 40,.int .u8 41,.int .u8 44,.int .u8 61,.int .u8 59] 5 (9,10))):=X_;have BX1:=BX.ext x1;have X0:Ext w ((w.alloc (.cells #[(),.string ⟨#[]⟩,(),()] 336)).alloc (.cells #[.int .u8 43,.int .u8 45,.int .u8 42,.int .u8 47,.int .u8 40,.int .u8 41,.int .u8 44,.int .u8 61,.int .u8 59] 5 (9,10))):=X_
 have hcell:∀(j:Nat) (y:Int),symL[j]?=some y->((w.alloc (.cells #[(),.string ⟨#[]⟩,(),()] 336)).alloc (.cells #[.int .u8 43,.int .u8 45,.int .u8 42,.int .u8 47,.int .u8 40,.int .u8 41,.int .u8 44,.int .u8 61,.int .u8 59] 5 (9,10))).cell? ⟨w.heap.size+1,j,none⟩=some (.int .u8 y):=by
  intro j y hy
  have hb:((w.alloc (.cells #[(),.string ⟨#[]⟩,(),()] 336)).alloc (.cells #[.int .u8 43,.int .u8 45,.int .u8 42,.int .u8 47,.int .u8 40,.int .u8 41,.int .u8 44,.int .u8 61,.int .u8 59] 5 (9,10))).heap[w.heap.size+1]?=some (.cells (symL.map (Value.int .u8)).toArray 5 (9,10)):=by
   have:=heap_alloc_new (w.alloc (.cells #[(),.string ⟨#[]⟩,(),()] 336)) (.cells #[.int .u8 43,.int .u8 45,.int .u8 42,.int .u8 47,.int .u8 40,.int .u8 41,.int .u8 44,.int .u8 61,.int .u8 59] 5 (9,10));rw [World.size_alloc] at this;exact this
  simp only [World.cell?,hb];simp [hy]
 generalize ((w.alloc (.cells #[(),.string ⟨#[]⟩,(),()] 336)).alloc (.cells #[.int .u8 43,.int .u8 45,.int .u8 42,.int .u8 47,.int .u8 40,.int .u8 41,.int .u8 44,.int .u8 61,.int .u8 59] 5 (9,10)))=W at BX1 X0 hcell x1 kc;have HC:=hid hcell;clear hcell x1;go_enter Tryz.func289,Tryz.ntmps289
 go_wp2_with first|(go_at_call 307;refine (l12Digit_val HD.out _).mono ?_;rintro e w1 ⟨rfl,rfl⟩)|(go_at_call 309;refine (l12Letter_val HL.out _).mono ?_;rintro e w1 ⟨rfl,rfl⟩)
 clear kc BX;have HK:=hid hc;clear hc
 go_loopw [70] (fun i wr=>∃k:Nat,k<=9/\i = .int .i64 (k:Nat)/\(∀j,j<k->symL[j]?≠some c)/\wr=W) (fun i _=>9 - (intOf i).toNat)
 case atStart=>exact ⟨0,by omega,rfl,fun j h=>by omega,rfl⟩
 case round=>
  obtain ⟨k,hk,rfl,hall,rfl⟩:=hrel;have HA:=hid hall;clear hall;have bx:=BX1.lt;have bx0:=BX1.cell 0;simp only [List.getElem?_toArray,List.getElem?_cons_zero,List.getElem?_cons_succ] at bx0;have bx1:=BX1.cell 1;simp only [List.getElem?_toArray,List.getElem?_cons_zero,List.getElem?_cons_succ] at bx1;have bx2:=BX1.cell 2;simp only [List.getElem?_toArray,List.getElem?_cons_zero,List.getElem?_cons_succ] at bx2;have bx3:=BX1.cell 3;simp only [List.getElem?_toArray,List.getElem?_cons_zero,List.getElem?_cons_succ] at bx3;have bxf0:=BX1.frozen 0;have bxf1:=BX1.frozen 1;have bxf2:=BX1.frozen 2;have bxf3:=BX1.frozen 3
  by_cases hlt:k<9
  ·obtain ⟨y,hy⟩:∃y,symL[k]?=some y:=⟨symL[k]'(by simpa [symL] using hlt),by simp⟩
   have hcell:=HC.out k y hy;have hb2:w.heap.size+1<wr.heap.size:=World.block_lt_of_cell? _ _ hcell;have HY:=hid hy;clear hy
   by_cases hyc:y=c
   ·subst hyc
    go_wp2;refine bodyPost_ret (v:=.tuple #[Tok.val ⟨3,s.extract o (o+1),0,o⟩,.int .i64 ((o:Int)+1),.bool true]) (by simp [results,Tok.val,Tryz.results289,go_sem, *]) rfl ?_;exact ⟨_,o+1,true,by go_num,fun _=>⟨rfl,rfl⟩,fun _=>rfl,S_⟩
   ·have hyb:(y==c)=false:=beq_eq_false_iff_ne.2 hyc
    go_wp2;go_roundw
    case rel=>exact ⟨k+1,by omega,by go_num,fun j hj=>by (by_cases e:j=k);exact e▸(fun h=>hyc (by rw [HY.out] at h;simpa using h));exact HA.out j (by omega),by trivial⟩
    case measure=>simp [intOf];omega
  ·obtain rfl:k=9:=by omega
   have hno:c∉symL:=fun h=>by
    obtain ⟨j,hj,e⟩:=List.getElem_of_mem h;exact HA.out j (by simpa [symL] using hj) (by rw [List.getElem?_eq_getElem hj,e])
   have HN:=hid hno;clear hno;go_wp2;refine bodyPost_ret (v:=.tuple #[Tok.val ⟨0,⟨#[]⟩,0,0⟩,(o:Nat),.bool false]) (by simp [results,Tok.val,Tryz.results289,go_sem, *]) rfl ?_;exact ⟨_,o,false,rfl,(fun h=>nomatch h),(fun h=>absurd h HN.out),S_⟩
structure ScanE (s:ByteArray) (o:Nat) (ho:o<s.size) (t:Tok) (k:Nat) (b:Bool):Prop where
 lets:letB (s[o].toNat:Nat)=true->t=⟨2,s.extract o k,0,o⟩/\b=decide ((k:Int) - o<=8)/\(∀j,o<=j->j<k->ldB s j=true)/\ldB s k=false/\o<k
 syms:digB (s[o].toNat:Nat)=false->letB (s[o].toNat:Nat)=false->((s[o].toNat:Nat):Int)∈symL->b=true/\t=⟨3,s.extract o (o+1),0,o⟩/\k=o+1
theorem let_dig {x:Int} (h:letB x=true):digB x=false:=by
 have h1:=inB_iff.1 h
 cases h2:digB x
 ·rfl
 ·have:=inB_iff.1 h2
  omega
theorem l12Scan_any (s:ByteArray) (o:Nat) (w:World) (hs:s.size<=2000) (ho:o<s.size):Calls Tryz.prog 289 #[.string s,(o:Nat)] w fun e w'=>∃(t:Tok) (k:Nat) (b:Bool),e = .returned (.tuple #[t.val,(k:Nat),.bool b])/\(b=true->ScanR s o t k)/\ScanE s o ho t k b/\Ext w w':=by
 cases hd:digB (s[o].toNat:Nat)
 ·cases hl:letB (s[o].toNat:Nat)
  ·refine (l12Scan_oth s o w hs ho hd hl).mono ?_
   rintro e w1 ⟨t,k,b,rfl,h1,h2,x⟩;refine ⟨t,k,b,rfl,fun hb=>?_,⟨(fun h=>by rw [hl] at h;cases h),fun _ _ hm=>⟨h2 hm,(h1 (h2 hm)).1,(h1 (h2 hm)).2⟩⟩,x⟩;obtain ⟨rfl,rfl⟩:=h1 hb;exact ⟨by omega,by omega,rfl,Nat.le_trans (extract_le s o (o+1)) hs,⟨by show (-9223372036854775808:Int)<=0;decide,by show (0:Int)<=9223372036854775807;decide⟩,by show (1:Int)<=3;decide,by show (3:Int)<=3;decide⟩
  ·refine (l12Scan_let s o w hs ho hd hl).mono ?_
   rintro e w1 ⟨k,rfl,h1,h2,h3,x⟩;exact ⟨_,k,_,rfl,fun _=>h1,⟨fun _=>⟨rfl,rfl,h2,h3,h1.lt⟩,(fun _ h=>by rw [hl] at h;cases h)⟩,x⟩
 ·refine (l12Scan_dig s o w hs ho hd).mono ?_
  rintro e w1 ⟨t,k,b,rfl,h1,x⟩;exact ⟨t,k,b,rfl,fun _=>h1,⟨(fun h=>by rw [let_dig h] at hd;cases hd),(fun h=>by rw [hd] at h;cases h)⟩,x⟩
def cuS:ByteArray:=⟨#[99,111,108,111,114,32,61,32,117,59]⟩
def cuT:List Tok:=[⟨2,⟨#[99,111,108,111,114]⟩,0,0⟩,⟨3,⟨#[61]⟩,0,6⟩,⟨2,⟨#[117]⟩,0,8⟩,⟨3,⟨#[59]⟩,0,9⟩]
def CuSt (o:Nat) (out:List Tok):Prop:=(o=0/\out=[])\/(o=5/\out=cuT.take 1)\/(o=6/\out=cuT.take 1)\/(o=7/\out=cuT.take 2)\/(o=8/\out=cuT.take 2)\/(o=9/\out=cuT.take 3)\/(o=10/\out=cuT.take 4)
theorem cu_size:cuS.size=10:=rfl
theorem cu_end {o k e:Nat} (h1:∀j,o<=j->j<k->ldB cuS j=true) (h2:ldB cuS k=false) (hk:o<k) (he:ldB cuS e=false) (hoe:o<=e) (hall:∀j,o<j->j<e->ldB cuS j=true):k=e:=by
 rcases Nat.lt_trichotomy k e with h|h|h
 ·rw [hall k hk h] at h2;cases h2
 ·exact h
 ·rw [h1 e hoe h] at he;cases he
def sepB (x:Int):Bool:=decide (x=32)||decide (x=10)
theorem cu_step {o:Nat} {out:List Tok} (h:CuSt o out) (ho:o<cuS.size):(sepB (cuS[o].toNat:Nat)=true->CuSt (o+1) out)/\(sepB (cuS[o].toNat:Nat)=false->∀(t:Tok) (k:Nat) (b:Bool),ScanE cuS o ho t k b->b=true/\CuSt k (out++[t])):=by
 rcases h with ⟨rfl,rfl⟩|⟨rfl,rfl⟩|⟨rfl,rfl⟩|⟨rfl,rfl⟩|⟨rfl,rfl⟩|⟨rfl,rfl⟩|⟨rfl,rfl⟩
 ·have e:(cuS[0]'ho).toNat=99:=rfl
  refine ⟨(fun h=>by rw [e] at h;exact absurd h (by decide)),fun _ t k b hE=>?_⟩;obtain ⟨rfl,rfl,h1,h2,hk⟩:=hE.lets (by rw [e];decide)
  obtain rfl:=cu_end h1 h2 hk (e:=5) (by decide) (by decide) (by
   intro j j1 j2
   rcases (show j=1\/j=2\/j=3\/j=4 by omega) with rfl|rfl|rfl|rfl <;> decide)
  exact ⟨by decide,.inr (.inl ⟨rfl,rfl⟩)⟩
 ·have e:(cuS[5]'ho).toNat=32:=rfl
  exact ⟨fun _=>.inr (.inr (.inl ⟨rfl,rfl⟩)),(fun h=>by rw [e] at h;exact absurd h (by decide))⟩
 ·have e:(cuS[6]'ho).toNat=61:=rfl
  refine ⟨(fun h=>by rw [e] at h;exact absurd h (by decide)),fun _ t k b hE=>?_⟩;obtain ⟨rfl,rfl,rfl⟩:=hE.syms (by rw [e];decide) (by rw [e];decide) (by rw [e];decide);exact ⟨rfl,.inr (.inr (.inr (.inl ⟨rfl,rfl⟩)))⟩
 ·have e:(cuS[7]'ho).toNat=32:=rfl
  exact ⟨fun _=>.inr (.inr (.inr (.inr (.inl ⟨rfl,rfl⟩)))),(fun h=>by rw [e] at h;exact absurd h (by decide))⟩
 ·have e:(cuS[8]'ho).toNat=117:=rfl
  refine ⟨(fun h=>by rw [e] at h;exact absurd h (by decide)),fun _ t k b hE=>?_⟩;obtain ⟨rfl,rfl,h1,h2,hk⟩:=hE.lets (by rw [e];decide);obtain rfl:=cu_end h1 h2 hk (e:=9) (by decide) (by decide) (by intro j j1 j2;omega);exact ⟨by decide,.inr (.inr (.inr (.inr (.inr (.inl ⟨rfl,rfl⟩)))))⟩
 ·have e:(cuS[9]'ho).toNat=59:=rfl
  refine ⟨(fun h=>by rw [e] at h;exact absurd h (by decide)),fun _ t k b hE=>?_⟩;obtain ⟨rfl,rfl,rfl⟩:=hE.syms (by rw [e];decide) (by rw [e];decide) (by rw [e];decide);exact ⟨rfl,.inr (.inr (.inr (.inr (.inr (.inr ⟨rfl,rfl⟩)))))⟩
 ·exact absurd ho (by decide)
def TokG (t:Tok):Prop:=1<=t.kind/\t.kind<=3/\t.text.size<=2000/\I64 t.num/\0<=t.off/\t.off<=2000
def Toks (tk:List Tok):Prop:=∃(ts:List Tok) (n:Int),tk=ts++[⟨0,⟨#[]⟩,0,n⟩]/\(∀t∈ts,TokG t)/\0<=n/\n<=2000/\ts.length<=2000
theorem sTokenize_any (s:ByteArray) (w:World) (hs:s.size<=maxLen):Calls Tryz.prog 256 #[.string s] w fun e w'=>∃(v:Value) (n:Int),e = .returned (.tuple #[v,n])/\Ext w w'/\(s=cuS->n = -1)/\(0<=n\/(n = -1/\∃tk,OwnToks w.heap.size w' v tk/\Toks tk/\(s=cuS->tk=cuT++[⟨0,⟨#[]⟩,0,10⟩]))):=by
 unfold maxLen at hs
 by_cases hl:s.size > 2000
 ·have hne:s≠cuS:=fun e=>by rw [e,cu_size] at hl;omega
  go_enter Tryz.func256,Tryz.ntmps256;go_wp2
  go_ret2
  exact ⟨_,_,rfl,Ext.refl _,fun e=>absurd e hne,.inl (by decide)⟩
 ·have hs2:s.size<=2000:=by omega
  have hown:OwnToks w.heap.size (w.alloc (.cells #[] 336)) (.slice (some ⟨w.heap.size,0,none⟩) 0 0) []:=⟨rfl,.inr ⟨w.heap.size,0,#[],rfl,Nat.le_refl _,heap_alloc_new w _,Nat.le_refl _,by unfold maxLen;omega,rfl,rfl⟩⟩
  have HO:=hid hown;clear hown;go_enter Tryz.func256,Tryz.ntmps256;go_wp2
  go_loopw [4,5] (fun v i wr=>∃(k:Nat) (ts:List Tok),k<=s.size/\i = .int .i64 (k:Nat)/\OwnToks w.heap.size wr v ts/\(∀t∈ts,TokG t)/\ts.length<=k/\(s=cuS->CuSt k ts)/\Ext w wr) (fun _ i _=>s.size - (intOf i).toNat)
  case atStart=>exact ⟨0,[],by omega,rfl,HO.out,(fun t h=>nomatch h),Nat.le_refl _,fun _=>.inl ⟨rfl,rfl⟩,X_⟩
  case round=>
   obtain ⟨k,ts,hk,rfl,hown,hall,htl,hcu,hx⟩:=hrel;have HO2:=hid hown;have HA:=hid hall;have HC:=hid hcu;have HX:=hid hx;obtain ⟨va,vc,rfl,-⟩:=hown.form;have zx:=hx.size;clear hown hall hcu hx HO
   by_cases hlt:k<s.size
   ·cases hsp:sepB (s[k].toNat:Nat)
    ·have h32 : ¬((s[k].toNat:Nat):Int)=32:=fun e=>by rw [e] at hsp;cases hsp
     have h10 : ¬((s[k].toNat:Nat):Int)=10:=fun e=>by rw [e] at hsp;cases hsp
     have HS:=hid hsp;have e32:(((s[k].toNat:Nat):Int)==32)=false:=beq_eq_false_iff_ne.2 h32;have e10:(((s[k].toNat:Nat):Int)==10)=false:=beq_eq_false_iff_ne.2 h10;clear hsp h32 h10;go_wp2_with fail;refine (l12Scan_any s k wr hs2 hlt).mono ?_;rintro e w1 ⟨t,k2,b,rfl,hR,hE,x1⟩;simp only [Tok.val]
     have hcu2:s=cuS->b=true/\CuSt k2 (ts++[t]):=fun e=>by
      subst e;exact (cu_step (HC.out rfl) hlt).2 HS.out t k2 b hE
     have HC2:=hid hcu2;have z1:=x1.size;clear hE hcu2
     cases b
     ·go_wp2
      go_ret2
      exact ⟨_,_,rfl,(show Ext w _ from HX.out.trans (x1.trans X_)),(fun e=>by have:=(HC2.out e).1;cases this),.inl (by omega)⟩
     ·have R:=hR rfl
      have HR:=hid R;have k2s:=R.le;have kk2:=R.lt;have HO3:=hid (HO2.out.ext x1:OwnToks w.heap.size w1 (.slice va ts.length vc) ts);clear hR R
      have B2:Blk ((w1.alloc (.cells #[t.kind,.string t.text,t.num,t.off] 336)).alloc (.cells #[t.kind,.string t.text,t.num,t.off] 336)) (w1.heap.size+1) 336 [t.kind,.string t.text,t.num,t.off]:=by
       have:=Blk.new (w1.alloc (.cells #[t.kind,.string t.text,t.num,t.off] 336)) 336 [t.kind,.string t.text,t.num,t.off];rw [World.size_alloc] at this;exact this
      have y2:Ext w1 ((w1.alloc (.cells #[t.kind,.string t.text,t.num,t.off] 336)).alloc (.cells #[t.kind,.string t.text,t.num,t.off] 336)):=X_;have X2:=HX.out.trans (x1.trans y2);have HO4:=hid (OwnG.ext HO3.out y2);have HB2:=hid B2;have HX2:=hid X2;clear B2 y2 X2 HO3 x1;go_wp2_with (at_builtin;refine wpList_append_tok _ rfl _ _ rfl w.heap.size (.slice va ts.length vc) ts rfl HO4.out t (w1.heap.size+1) rfl ⟨HB2.out.cell 0 rfl,HB2.out.cell 1 rfl,HB2.out.cell 2 rfl,HB2.out.cell 3 rfl⟩ (by omega) (by simp;omega) ?_;intro v' w2 hown hg);have X3:=hid (HX2.out.grown hg (fun q hq=>(OwnG.lt HO4.out q hq).1));obtain ⟨va',vc',rfl,-⟩:=OwnG.form hown;have HO5:=hid hown;clear hown hg;go_wp2;go_roundw
      case rel=>exact ⟨k2,ts++[t],by omega,rfl,HO5.out,(fun x hx=>by
       rcases List.mem_append.1 hx with h|h
       ·exact HA.out x h
       ·simp only [List.mem_cons,List.not_mem_nil,or_false] at h
        subst h;have R:=HR.out
        exact ⟨R.kind.1,R.kind.2,R.text,R.num,by rw [R.off];omega,by rw [R.off];omega⟩),by simp;omega,(fun e=>(HC2.out e).2),X3.out⟩
      case measure=>simp [intOf];omega
    ·have HS:=hid hsp
     have hor:(((s[k].toNat:Nat):Int)==32||((s[k].toNat:Nat):Int)==10)=true:=by
      unfold sepB at hsp
      simpa using hsp
     clear hsp
     by_cases e:((s[k].toNat:Nat):Int)=32
     ·have e32:(((s[k].toNat:Nat):Int)==32)=true:=beq_iff_eq.2 e
      have HE:=hid e;clear e hor;go_wp2;go_roundw
      case rel=>exact ⟨k+1,ts,by omega,by go_num,HO2.out,HA.out,by omega,(fun e=>by subst e;exact (cu_step (HC.out rfl) hlt).1 HS.out),HX.out⟩
      case measure=>simp [intOf];omega
     ·have e32:(((s[k].toNat:Nat):Int)==32)=false:=beq_eq_false_iff_ne.2 e
      have e10:(((s[k].toNat:Nat):Int)==10)=true:=by rw [e32] at hor;simpa using hor
      have HE:=hid e;clear e hor;go_wp2;go_roundw
      case rel=>exact ⟨k+1,ts,by omega,by go_num,HO2.out,HA.out,by omega,(fun e=>by subst e;exact (cu_step (HC.out rfl) hlt).1 HS.out),HX.out⟩
      case measure=>simp [intOf];omega
   ·obtain rfl:k=s.size:=by omega
    have B2:=Blk.new wr 336 [(),.string ⟨#[]⟩,(),(s.size:Nat)];have y2:Ext wr (wr.alloc (.cells #[(),.string ⟨#[]⟩,(),(s.size:Nat)] 336)):=X_;have X2:=HX.out.trans y2;have HO4:=hid (OwnG.ext HO2.out y2);have HB2:=hid B2;have HX2:=hid X2;clear B2 y2 X2;go_wp2_with (at_builtin;refine wpList_append_tok _ rfl _ _ rfl w.heap.size (.slice va ts.length vc) ts rfl HO4.out ⟨0,⟨#[]⟩,0,(s.size:Nat)⟩ wr.heap.size rfl ⟨HB2.out.cell 0 rfl,HB2.out.cell 1 rfl,HB2.out.cell 2 rfl,HB2.out.cell 3 rfl⟩ (by omega) (by simp;omega) ?_;intro v' w2 hown hg);have X3:=hid (HX2.out.grown hg (fun q hq=>(OwnG.lt HO4.out q hq).1));have HO5:=hid hown;clear hown hg;go_wp2
    go_ret2
    refine ⟨v',-1,rfl,X3.out,fun _=>rfl,.inr ⟨rfl,_,HO5.out,⟨ts,_,rfl,HA.out,by omega,by omega,by omega⟩,fun e=>?_⟩⟩;subst e
    rcases HC.out rfl with h|h|h|h|h|h|h
    ·exact absurd h.1 (by decide)
    ·exact absurd h.1 (by decide)
    ·exact absurd h.1 (by decide)
    ·exact absurd h.1 (by decide)
    ·exact absurd h.1 (by decide)
    ·exact absurd h.1 (by decide)
    ·rw [h.2];rfl
def NdG (x:Nd):Prop:=I64 x.op/\I64 x.num/\x.name.size<=2000/\x.args.length<=3
structure Pst (lo:Nat) (X:Nat->Prop) (B:Nat) (tk:List Tok) (gs:List Asg) (w:World) (k:Nat) (ns:List Nd) (bad:Int) (tv nv gv:Value):Prop where
 box:Blk w B 334 [tv,(k:Nat),nv,gv,bad]
 low:lo<=B
 toks:OwnToks lo w tv tk
 nds:OwnNds lo X w nv ns
 asgs:OwnAsgs lo w gv gs
 ends:Toks tk
 here:k<tk.length
 len:ns.length<=60
 good:∀x∈ns,NdG x
 b64:I64 bad
 xlt:∀b,X b->b<w.heap.size
theorem Pst.ext {lo B:Nat} {X:Nat->Prop} {tk:List Tok} {gs:List Asg} {w w':World} {k:Nat} {ns:List Nd} {bad:Int} {tv nv gv:Value} (h:Pst lo X B tk gs w k ns bad tv nv gv) (x:Ext w w'):Pst lo X B tk gs w' k ns bad tv nv gv:=
 ⟨h.box.ext x,h.low,OwnG.ext h.toks x,h.nds.ext x,OwnG.ext h.asgs x,h.ends,h.here,h.len,h.good,h.b64,fun b hb=>Nat.lt_of_lt_of_le (h.xlt b hb) x.size⟩
theorem Toks.at {tk:List Tok} (h:Toks tk) {k:Nat} (hk:k<tk.length):∃t,tk[k]?=some t/\I64 t.kind/\t.text.size<=2000/\I64 t.num/\0<=t.off/\t.off<=2000/\(t.kind≠0->k+1<tk.length):=by
 obtain ⟨ts,n,rfl,h1,h2,h3,h4⟩:=h;refine ⟨_,List.getElem?_eq_getElem hk,?_⟩;rw [List.getElem_append]
 split
 ·rename_i hlt
  obtain ⟨g1,g2,g3,g4,g5,g6⟩:=h1 _ (List.getElem_mem hlt);exact ⟨⟨by omega,by omega⟩,g3,g4,g5,g6,fun _=>by simp;omega⟩
 ·simp
  exact ⟨⟨by decide,by decide⟩,by decide,⟨by decide,by decide⟩,h2,h3⟩
def peekB (t:Tok):ByteArray:=if t.kind=3 then t.text else ⟨#[]⟩
theorem sPeek_any {lo B:Nat} {X:Nat->Prop} {tk:List Tok} {gs:List Asg} {w:World} {k:Nat} {ns:List Nd} {bad:Int} {tv nv gv:Value} (h:Pst lo X B tk gs w k ns bad tv nv gv) {t:Tok} (ht:tk[k]?=some t) :
  Calls Tryz.prog 290 #[.pointer (some ⟨B,0,none⟩)] w fun e w'=>e = .returned (.string (peekB t))/\Ext w w':=by
 obtain ⟨g,cap,rfl,g1,g2,g3,g4,_,hc⟩:=OwnG.at h.toks (fun _=>rfl) ht;have hk:=h.here;obtain ⟨c0,c1⟩:=h.box.q2;have z:=h.box.lt;have d0:=hc 0 (by decide);have d1:=hc 1 (by decide);have d2:=hc 2 (by decide);have d3:=hc 3 (by decide);simp only [Tok.cs,Nat.add_zero,List.getElem?_cons_zero,List.getElem?_cons_succ] at d0 d1 d2 d3;have HT:=hid ht
 have gne:g≠w.heap.size:=by omega
 have bne:B≠w.heap.size:=by omega
 clear h hc ht;go_enter Tryz.func290,Tryz.ntmps290;go_wp2;refine wp_region_stagesS [([0,1,2,3,4,5,6,7,8,9],10),([],11)] 99 (fun w'=>∃d,w'=lowx (w.heap.size) (w.heap.size) _ d) (by kernel_rfl) (by kernel_rfl) ⟨_,lowx_of (fun _ _ _=>rfl)⟩ ?_;refine sc_ fun K hK=>?_;go_wp2_with fail;go_wp2_with fail;refine hK _ _ (.inr ⟨_,lowx_of (fun b hb _=>Ext.block (show Ext w _ from X_) hb)⟩) ?_;clear hK K;refine sc_ fun K hK=>?_;go_wp2_with fail;go_wp2_with fail;refine hK _ _ (.inr ⟨_,lowx_of (fun b hb _=>Ext.block (show Ext w _ from S_) hb)⟩) ?_;clear hK K;refine wpStagesS_nil ?_
 by_cases h3:t.kind=3
 ·have hp:peekB t=t.text:=by unfold peekB;rw [if_pos h3]
  have HP:=hid hp;have e3:(t.kind==3)=true:=beq_iff_eq.2 h3;clear hp h3;go_wp2;go_ret;exact ⟨by rw [HP.out];rfl,X_⟩
 ·have hp:peekB t=⟨#[]⟩:=by unfold peekB;rw [if_neg h3]
  have HP:=hid hp;have e3:(t.kind==3)=false:=beq_eq_false_iff_ne.2 h3;clear hp h3;go_wp2;go_ret;exact ⟨by rw [HP.out];rfl,X_⟩
theorem Pst.setBad {lo B:Nat} {X:Nat->Prop} {tk:List Tok} {gs:List Asg} {w:World} {k:Nat} {ns:List Nd} {bad:Int} {tv nv gv:Value} (h:Pst lo X B tk gs w k ns bad tv nv gv) {z:Int} (hz:I64 z):Pst lo X B tk gs (w.setCell ⟨B,4,none⟩ z) k ns z tv nv gv:=
 ⟨h.box.set 4 _,h.low,OwnG.set h.toks h.box (by decide) 4 _,OwnNds.set h.nds h.box (by decide) (by decide) 4 _,OwnG.set h.asgs h.box (by decide) 4 _,h.ends,h.here,h.len,h.good,hz,fun b hb=>by rw [World.size_setCell];exact h.xlt b hb⟩
theorem Pst.setAt {lo B:Nat} {X:Nat->Prop} {tk:List Tok} {gs:List Asg} {w:World} {k:Nat} {ns:List Nd} {bad:Int} {tv nv gv:Value} (h:Pst lo X B tk gs w k ns bad tv nv gv) {q:Nat} (hq:q<tk.length):Pst lo X B tk gs (w.setCell ⟨B,1,none⟩ (.int .i64 (q:Nat))) q ns bad tv nv gv:=
 ⟨h.box.set 1 _,h.low,OwnG.set h.toks h.box (by decide) 1 _,OwnNds.set h.nds h.box (by decide) (by decide) 1 _,OwnG.set h.asgs h.box (by decide) 1 _,h.ends,hq,h.len,h.good,h.b64,fun b hb=>by rw [World.size_setCell];exact h.xlt b hb⟩
def CFl (B g:Nat):Addr->Prop:=fun a=>a.block=g\/a=⟨B,0,none⟩\/a=⟨B,1,none⟩
@[go_sem] theorem CFl_g (B g o:Nat):CFl B g ⟨g,o,none⟩:=.inl rfl
@[go_sem] theorem CFl_0 (B g:Nat):CFl B g ⟨B,0,none⟩:=.inr (.inl rfl)
@[go_sem] theorem CFl_1 (B g:Nat):CFl B g ⟨B,1,none⟩:=.inr (.inr rfl)
theorem sFail_any {lo B:Nat} {X:Nat->Prop} {tk:List Tok} {gs:List Asg} {w:World} {k:Nat} {ns:List Nd} {bad:Int} {tv nv gv:Value} (h:Pst lo X B tk gs w k ns bad tv nv gv) :
  Calls Tryz.prog 257 #[.pointer (some ⟨B,0,none⟩)] w fun e w'=>∃z,e = .returned (.int .i64 0)/\0<=z/\Pst lo X B tk gs w' k ns z tv nv gv/\KN lo B 243 w w':=by
 have HP:=hid h;obtain ⟨t,ht,_,_,_,o1,o2,_⟩:=h.ends.at h.here;obtain ⟨g,cap,rfl,g1,g2,g3,g4,⟨cg,hcg⟩,hc⟩:=OwnG.at h.toks (fun _=>rfl) ht
 have gB:g≠B:=fun e=>by
  subst e;have hb:=h.box;unfold Blk at hb;rw [hcg] at hb;simp only [Option.some.injEq,Obj.cells.injEq] at hb;exact absurd hb.2.1 (by decide)
 have hk:=h.here;obtain ⟨c0,c1⟩:=h.box.q2;have c4:=h.box.cell 4 rfl;have f4:=h.box.free 4;have z:=h.box.lt;have d3:=hc 3 (by decide);simp only [Tok.cs,List.getElem?_cons_zero,List.getElem?_cons_succ] at d3
 have gne:g≠w.heap.size:=by omega
 have bne:B≠w.heap.size:=by omega
 have i64:I64 bad:=h.b64;clear h hc ht
 by_cases hb:bad<0
 ·go_enter Tryz.func257,Tryz.ntmps257
  go_wp2;refine wp_region_stagesS [([0,1,2,3,4,5,6,7,8,9,10,11,12,13],14)] 99 (fun w'=>∃d,w'=lowc (CFl B g) _ d) (by kernel_rfl) (by kernel_rfl) (SC.drew _ _) ?_;refine sc_ fun K hK=>?_;go_wp2_with fail
  have hsc:SC (CFl B g) w (w.setCell ⟨B,4,none⟩ t.off).drew:=SC.of fun a ha=>by
   have b4:=HP.out.box.set 4 (.int .i64 t.off)
   rcases ha with ha|rfl|rfl
   ·have hh:(w.setCell ⟨B,4,none⟩ t.off).drew.heap[a.block]?=w.heap[a.block]?:=Below.heap_setCell _ _ _ _ (by rw [ha];exact gB)
    exact ⟨World.cell?_of_block hh,World.frozen?_of_block hh⟩
   ·exact ⟨(b4.cell 0 rfl).trans (HP.out.box.cell 0 rfl).symm,(b4.free 0).trans (HP.out.box.free 0).symm⟩
   ·exact ⟨(b4.cell 1 rfl).trans (HP.out.box.cell 1 rfl).symm,(b4.free 1).trans (HP.out.box.free 1).symm⟩
  refine hK _ _ (.inr hsc) ?_;clear hK K;refine wpStagesS_nil ?_;go_wp2;go_ret
  have i2:I64 t.off:=⟨by omega,by omega⟩
  exact ⟨t.off,rfl,o1,(HP.out.setBad i2).ext X_,((KN.refl lo B _ w).set HP.out.low 4 _).ext X_⟩
 ·go_enter Tryz.func257,Tryz.ntmps257
  go_wp2;go_ret;exact ⟨rfl,bad,by omega,HP.out,KN.refl _ _ _ _⟩
theorem sExpect_any {lo B:Nat} {X:Nat->Prop} {tk:List Tok} {gs:List Asg} {w:World} {k:Nat} {ns:List Nd} {bad:Int} {tv nv gv:Value} (h:Pst lo X B tk gs w k ns bad tv nv gv) {t:Tok} (ht:tk[k]?=some t) (x:ByteArray) (hx:x≠⟨#[]⟩) :
  Calls Tryz.prog 258 #[.pointer (some ⟨B,0,none⟩),.string x] w fun e w'=>∃(b:Bool) (q:Nat) (z:Int),e = .returned (.bool b)/\Pst lo X B tk gs w' q ns z tv nv gv/\KN lo B 243 w w'/\(b=true->q=k+1/\z=bad)/\(b=false->0<=z)/\(peekB t=x->b=true):=by
 have HP:=hid h;have HT:=hid ht;clear h ht;go_enter Tryz.func258,Tryz.ntmps258;go_wp2_with fail;refine (sPeek_any HP.out HT.out).mono ?_;rintro e w1 ⟨rfl,x1⟩;have HP1:=hid (HP.out.ext x1);have K1:=x1.kn lo B 243
 by_cases he:(peekB t).toList=x.toList
 ·have ee:((peekB t).toList==x.toList)=true:=beq_iff_eq.2 he
  have hpx:peekB t=x:=by
   rw [Lib.toList_data,Lib.toList_data] at he;exact ByteArray.ext (Array.ext' he)
  have hne:t.kind≠0:=fun e=>by
   have:peekB t=⟨#[]⟩:=by unfold peekB;rw [if_neg (by omega)]
   exact hx (hpx.symm.trans this)
  obtain ⟨t',ht',_,_,_,_,_,hl⟩:=HP.out.ends.at HP.out.here
  have hte:t'=t:=by rw [HT.out] at ht';simpa using ht'.symm
  have hk1:=hl (hte▸hne);have HK1:=hid hk1;have c1:=HP1.out.box.cell 1 rfl;have f1:=HP1.out.box.free 1;have z1:=HP1.out.box.lt
  have kb:k<=3000:=by
   obtain ⟨ts,n,e1,_,_,_,e2⟩:=HP.out.ends;have:=HP.out.here;rw [e1,List.length_append] at this;simp at this;omega
  clear he hpx hne ht' hl hte hk1;go_wp2;go_ret;have P2:=HP1.out.setAt HK1.out;exact ⟨true,k+1,bad,rfl,by simpa using P2,K1.set HP.out.low 1 _,fun _=>⟨rfl,rfl⟩,(fun h=>nomatch h),fun _=>rfl⟩
 ·have ee:((peekB t).toList==x.toList)=false:=beq_eq_false_iff_ne.2 he
  have hpx:peekB t≠x:=fun e=>he (by rw [e]);have HX:=hid hpx;clear he hpx;go_wp2_with fail;refine (sFail_any HP1.out).mono ?_;rintro e w2 ⟨z,rfl,hz,P2,K2⟩;have KK:=hid (K1.trans K2);have HP2:=hid P2;clear P2 K2 K1;go_wp2;go_ret;exact ⟨false,k,z,rfl,HP2.out,KK.out,(fun h=>nomatch h),(fun _=>hz),fun h=>absurd h HX.out⟩
section
variable {P : Program} {ops : Array Oper} {Q : Exit -> Act -> World -> Prop} {md : Region.Mode} {S : World -> Prop} {y : Nat} {R : Array Bool -> Act -> World -> Prop}
def waitsOne (md:Region.Mode) (ops:Array Oper) (y i:Nat):Bool:=
 match ops[y]? with
 | none=>false
 | some o=>o.after.any fun e=>Region.binds md e&&e.on==i
theorem waitsOne_spec {i:Nat} (h:waitsOne md ops y i=true) {listed:Array Bool} (hun:listed.getD i false=false):y∉Region.ready md ops listed:=by
 intro hz;obtain ⟨_,oz,hoz,hall⟩:=mem_ready.1 hz;unfold waitsOne at h;simp only [hoz] at h;obtain ⟨e,he,hb⟩:=Array.any_eq_true'.1 h;simp only [Bool.and_eq_true,beq_iff_eq] at hb;have h2:=hall e he hb.1;rw [hb.2,hun] at h2;cases h2
def wpAnyE (P:Program) (md:Region.Mode) (ops:Array Oper) (Q:Exit->Act->World->Prop) (S:World->Prop) (R:Array Bool->Act->World->Prop):Nat->Array Bool->Act->World->Prop
 | 0,listed,a,w=>R listed a w
 | fuel+1,listed,a,w=>
  (Region.ready md ops listed=[]->Q .normal a w) /\
  ∀i∈Region.ready md ops listed,wpOp P ops Q i (fun a' w'=>S w'/\wpAnyE P md ops Q S R fuel (listed.setIfInBounds i true) a' w') a w
theorem wpAny_of_E {g:Nat} (hR:∀l a w,R l a w->wpAny P md ops Q g l a w):∀(fuel:Nat) (listed:Array Bool) (a:Act) (w:World),wpAnyE P md ops Q S R fuel listed a w->wpAny P md ops Q (fuel+g) listed a w
 | 0,l,a,w,h=>by rw [Nat.zero_add];exact hR l a w h
 | fuel+1,l,a,w,h=>by
  rw [Nat.succ_add];exact ⟨h.1,fun i hi=>wpOp_mono (fun a' w' h'=>wpAny_of_E hR fuel _ a' w' h'.2) (h.2 i hi)⟩
theorem wpAnyE_first {i:Nat} {oi:Oper} {v:Value} (hi:ops[i]?=some oi) (hy1:waitsOne md ops y i=true) (hR:∀l a w,R l a w->Region.ready md ops l=[y]) (hsel:∀(j:Nat) (o:Oper) cs b,ops[j]?=some o->o.op≠.select cs b)
  (hQ:∀c a w,Q (.panic c) (a.put oi.dst v) w->Q (.panic c) a w) :
  ∀(fuel:Nat) (listed:Array Bool) (a:Act) (w:World),
   (∀j oj,ops[j]?=some oj->j≠i->listed.getD j true=false->(∀e∈oj.after,Region.binds md e=true->e.on≠i)->oi.apart ops oj=true) ->
   i∈Region.ready md ops listed->YieldsIf P ops S oi v a->S w ->
   wpAnyE P md ops Q S R fuel (listed.setIfInBounds i true) (a.put oi.dst v) w->wpAnyE P md ops Q S R (fuel+1) listed a w:=by
 intro fuel
 induction fuel with
 | zero=>
  intro listed a w _ hr hy hS H;refine ⟨fun h=>(by rw [h] at hr;cases hr),fun j hj=>?_⟩
  by_cases hji:j=i
  ·subst hji;exact hy.wpOp hi hS ⟨hS,H⟩
  ·have hun:listed.getD i false=false:=getD_both (mem_ready.1 hr).1
   have:=ready_mono hj hji;rw [hR _ _ _ H] at this;simp only [List.mem_cons,List.not_mem_nil,or_false] at this;exact absurd (this▸hj) (waitsOne_spec hy1 hun)
 | succ fuel ih=>
  intro listed a w hfree hr hy hS H;refine ⟨fun h=>(by rw [h] at hr;cases hr),fun j hj=>?_⟩
  by_cases hji:j=i
  ·subst hji;exact hy.wpOp hi hS ⟨hS,H⟩
  ·have hun:listed.getD i false=false:=getD_both (mem_ready.1 hr).1
   have h1:=H.2 j (ready_mono hj hji);obtain ⟨hjun,oj,hoj,hall⟩:=mem_ready.1 hj
   have hnot:∀e∈oj.after,Region.binds md e=true->e.on≠i:=fun e he hb heq=>by
    have h1:=hall e he hb;rw [heq,hun] at h1;cases h1
   have h2:=wpOp_putIf hoj (hfree j oj hoj hji hjun hnot) (fun cs b=>hsel i oi cs b hi) (fun cs b=>hsel j oj cs b hoj) hQ hy h1
   have hfree':∀k ok,ops[k]?=some ok->k≠i->(listed.setIfInBounds j true).getD k true=false ->
     (∀e∈ok.after,Region.binds md e=true->e.on≠i)->oi.apart ops ok=true:=fun k ok hk hki hun hno=>by
    refine hfree k ok hk hki ?_ hno
    by_cases hjk:j=k
    ·subst hjk;exact hjun
    ·rw [getD_set_ne true hjk] at hun;exact hun
   refine wpOp_mono (fun a' w' h3=>?_) h2;have hS':S w':=h3.2.1;refine ⟨hS',ih (listed.setIfInBounds j true) a' w' hfree' (ready_mono hr (Ne.symm hji)) h3.1 hS' ?_⟩;rw [Array.setIfInBounds_comm _ _ hji];exact h3.2.2
def planFromE (md:Region.Mode) (ops:Array Oper) (z y:Nat):List (Bool×Nat)->Array Bool->Bool
 | [],listed=>Region.ready md ops listed==[y]
 | (true,i)::r,listed=>i != z&&waitsOne md ops y i&&Region.free md ops listed i&&(Region.ready md ops listed).contains i&&planFromE md ops z y r (listed.setIfInBounds i true)
 | (false,i)::r,listed=>i != z&&(Region.ready md ops listed==[i])&&planFromE md ops z y r (listed.setIfInBounds i true)
def listPlan:List (Bool×Nat)->Array Bool->Array Bool
 | [],l=>l
 | (_,i)::r,l=>listPlan r (l.setIfInBounds i true)
theorem planFromE_end {z:Nat}:∀(plan:List (Bool×Nat)) (l:Array Bool),planFromE md ops z y plan l=true->Region.ready md ops (listPlan plan l)=[y]
 | [],l,h=>by simpa [planFromE,listPlan] using h
 | (true,i)::r,l,h=>by
  simp only [planFromE,Bool.and_eq_true] at h;exact planFromE_end r _ h.2
 | (false,i)::r,l,h=>by
  simp only [planFromE,Bool.and_eq_true] at h;exact planFromE_end r _ h.2
theorem wpAnyE_of_plan {z:Nat} {C:Act->World->Prop} (hsel:Region.noSelect ops=true) (hQ:∀c a a' w,Q (.panic c) a w->Q (.panic c) a' w) :
  ∀(plan:List (Bool×Nat)) (listed:Array Bool) (a:Act) (w:World),planFromE md ops z y plan listed=true->S w->wpPlan P ops (Exit.then C Q) S z plan a w->wpAnyE P md ops Q S (fun l a w=>l=listPlan plan listed/\C a w) plan.length listed a w
 | [],listed,a,w,hB,_,h=>⟨rfl,h⟩
 | (true,i)::r,listed,a,w,hB,hS,h=>by
  have hend:=planFromE_end _ _ hB;simp only [planFromE,Bool.and_eq_true,bne_iff_ne] at hB;obtain ⟨⟨⟨⟨hiz,hw1⟩,hf⟩,hr⟩,hB'⟩:=hB;obtain ⟨o,ho,ht⟩:=h
  have hR:∀l a w,(l=listPlan ((true,i)::r) listed/\C a w)->Region.ready md ops l=[y]:=fun l a w k=>by rw [k.1];exact hend
  unfold takeOp at ht
  split at ht
  ·rename_i hw
   obtain ⟨v,hv,hK⟩:=ht
   exact wpAnyE_first ho hw1 hR (Region.noSelect_spec hsel) (fun c a w=>hQ c _ _ w) r.length listed a w (Region.free_spec ho hf) (by simpa using hr) (.inl ⟨hw,hv⟩) hS
    (wpAnyE_of_plan hsel hQ r _ _ _ hB' hS hK)
  ·rename_i hw
   exact wpAnyE_first ho hw1 hR (Region.noSelect_spec hsel) (fun c a w=>hQ c _ _ w) r.length listed a w (Region.free_spec ho hf) (by simpa using hr) (.inr ⟨by simpa using hw,rfl⟩) hS
    (wpAnyE_of_plan hsel hQ r _ _ _ hB' hS ht)
 | (false,i)::r,listed,a,w,hB,hS,h=>by
  simp only [planFromE,Bool.and_eq_true,beq_iff_eq,bne_iff_ne] at hB;obtain ⟨⟨hiz,hr⟩,hB'⟩:=hB;obtain ⟨o,ho,ht⟩:=h;refine ⟨fun h0=>(by rw [hr] at h0;cases h0),fun j hj=>?_⟩;rw [hr] at hj
  obtain rfl:j=i:=by simpa using hj
  have hstep:∀a' w',((j=z\/S w')/\wpPlan P ops (Exit.then C Q) S z r a' w')->(S w'/\wpAnyE P md ops Q S (fun l a w=>l=listPlan r (listed.setIfInBounds j true)/\C a w) r.length (listed.setIfInBounds j true) a' w'):=fun a' w' ⟨k1,k2⟩=>
   ⟨k1.resolve_left hiz,wpAnyE_of_plan hsel hQ r _ _ _ hB' (k1.resolve_left hiz) k2⟩
  unfold wpOp;simp only [ho];unfold wpList at ht
  split
  ·rename_i hw
   rw [if_pos hw] at ht
   rcases ht with ht|⟨h1,h2⟩
   ·refine .inl ?_
    unfold Oper.wp at ht
    have h3:o.upon P a (wpList P ops (Exit.then (fun a' w'=>(j=z\/S w')/\wpPlan P ops (Exit.then C Q) S z r a' w') (Exit.then C Q)) []) Q ((execOp a.eval o).run P w):=by
     cases hres:(execOp a.eval o).run P w with
     | ok n w'=>rw [hres] at ht;cases n <;> exact ht
     | halt x w'=>rw [hres] at ht;cases x <;> exact ht
    have h4:o.wp P a w (wpList P ops (Exit.then (fun a' w'=>(j=z\/S w')/\wpPlan P ops (Exit.then C Q) S z r a' w') (Exit.then C Q)) []) Q:=h3;exact Oper.wp_mono (fun a' w' hk=>hstep a' w' hk) h4
   ·exact .inr ⟨h1,h2⟩
  ·rename_i hw
   rw [if_neg hw] at ht;exact hstep _ _ ht
end
def phasesOk (ops:Array Oper) (y:Nat) (st1 st2:List (List Nat×Nat)):Bool:=
 Region.noSelect ops&&waitsAll .any ops 99&&planFromE .any ops 99 y (stagesPlan st1) (Array.replicate ops.size false)&&planFrom .any ops 99 (stagesPlan st2) (listPlan (stagesPlan st1) (Array.replicate ops.size false))&&readsOkC ops st1&&readsOkC ops st2&&((stagesPlan st1).length+(stagesPlan st2).length==ops.size)
theorem wp_region_phases {P:Program} {Q:Exit->Act->World->Prop} {id:Nat} {a:Act} {w:World} {l:List Oper} (st1 st2:List (List Nat×Nat)) (y:Nat) (S1:World->Prop) (hm:P.follows .mixedOrders=true)
  (hB:phasesOk l.toArray y st1 st2=true) (hS:S1 w.drew)
  (h:wpStagesS P l.toArray (Exit.then (fun a w=>∃S2:World->Prop,S2 w/\wpStagesS P l.toArray (NoPanic Q) S2 99 st2 a w) (NoPanic Q)) S1 99 st1 a w.drew):(Code.region id l.toArray true).wp P Q a w:=by
 unfold phasesOk at hB;simp only [Bool.and_eq_true,beq_iff_eq] at hB;obtain ⟨⟨⟨⟨⟨⟨h1,h2⟩,h3⟩,h4⟩,h5⟩,h6⟩,h7⟩:=hB;refine wp_region_noPanic (wp_region_any hm ?_);have hp:=plan_of_stagesS st1 a w.drew h5 h;have hE:=wpAnyE_of_plan h1 (fun c a a' w k=>k) _ _ a w.drew h3 hS hp
 have hA:=wpAny_of_E (g:=(stagesPlan st2).length) (fun l' a w hk=>by
  obtain ⟨rfl,S2,hs2,hst⟩:=hk
  exact wpAny_of_Z _ _ _ _ (wpAnyZ_of_plan h1 h2 (fun c a a' w k=>k) _ _ a w h4 (fun _ _=>hs2) (plan_of_stagesS st2 a w h6 hst))) _ _ _ _ hE
 rw [h7] at hA
 simpa using hA
theorem wpPhase_end {P:Program} {ops:Array Oper} {Q:Exit->Act->World->Prop} {S:World->Prop} {C:Act->World->Prop} {a:Act} {w:World} (h:C a w):wpStagesS P ops (Exit.then C Q) S 99 [] a w:=h
theorem wpPhase_free {P:Program} {ops:Array Oper} {Q:Exit->Act->World->Prop} {st:List (List Nat×Nat)} {a:Act} {w:World} (h:wpStagesS P ops Q (fun _=>True) 99 st a w):∃S2:World->Prop,S2 w/\wpStagesS P ops Q S2 99 st a w:=⟨_,trivial,h⟩
theorem Pst.setNds {lo B:Nat} {X:Nat->Prop} {tk:List Tok} {gs:List Asg} {w w':World} {k:Nat} {ns ns':List Nd} {bad:Int} {tv nv nv' gv:Value} (h:Pst lo X B tk gs w k ns bad tv nv gv) (hb:Blk w' B 334 [tv,(k:Nat),nv,gv,bad]) (kk:KN lo B 243 w w') (hn:OwnNds lo X w' nv' ns') (hl:ns'.length<=60) (hg:∀x∈ns',NdG x):Pst lo X B tk gs (w'.setCell ⟨B,2,none⟩ nv') k ns' bad tv nv' gv:=by
 have hB:∀(e:TypeId),e≠334->∀c,w.heap[B]?≠some (.cells c e (0,0)):=fun e he c hc=>by
  have:=h.box;unfold Blk at this;rw [this] at hc;simp only [Option.some.injEq,Obj.cells.injEq] at hc;exact he hc.2.1.symm
 exact ⟨hb.set 2 _,h.low,OwnG.set (KN.row h.toks kk (hB _ (by decide)) (by decide)) hb (by decide) 2 _,OwnNds.set hn hb (by decide) (by decide) 2 _,OwnG.set (KN.row h.asgs kk (hB _ (by decide)) (by decide)) hb (by decide) 2 _,h.ends,h.here,hl,hg,h.b64,fun b hb=>by rw [World.size_setCell];exact Nat.lt_of_lt_of_le (h.xlt b hb) kk.size⟩
def C2b (b c:Nat):Addr->Prop:=fun a=>a.block=b\/a.block=c
@[go_sem] theorem C2b_1 (b c o:Nat):C2b b c ⟨b,o,none⟩:=.inl rfl
@[go_sem] theorem C2b_2 (b c o:Nat):C2b b c ⟨c,o,none⟩:=.inr rfl
theorem sEmit_any {lo B:Nat} {X:Nat->Prop} {tk:List Tok} {gs:List Asg} {w:World} {k:Nat} {ns:List Nd} {bad:Int} {tv nv gv:Value} (h:Pst lo X B tk gs w k ns bad tv nv gv) (hk1:1<=k) (x:Nd) (u:Value) (hu:OwnInts lo w u x.args) (hux:∀k,u.ownBlock=some k->¬X k) (hx:NdG x) :
  Calls Tryz.prog 312 #[.pointer (some ⟨B,0,none⟩),.agg #[x.op,.string x.name,x.num,u]] w fun e w'=>∃(r:Nat) (q:Nat) (ns':List Nd) (z:Int) (nv':Value),e = .returned (.int .i64 (r:Nat))/\r<=60/\Pst lo X B tk gs w' q ns' z tv nv' gv/\KN lo B 243 w w'/\(0<=z\/(q=k/\ns'=ns++[x]/\z=bad/\r=ns.length))/\(ns.length<60->q=k/\ns'=ns++[x]/\z=bad/\r=ns.length):=by
 have x0:Ext w (w.alloc (.cells #[x.op,.string x.name,x.num,u] 243)):=X_;have HP0:=hid h;have HP:=hid (h.ext x0);have HU:=hid (hu.ext x0);have HX0:=hid x0;obtain ⟨na,nc,rfl,_⟩:=h.nds.form;have hlen:=h.len;have zB:=h.box.lt;have hlo:=h.low;have c1:=HP.out.box.cell 1 rfl;have c2:=HP.out.box.cell 2 rfl;have f1:=HP.out.box.free 1;have f2:=HP.out.box.free 2
 have kb:k<=3000:=by
  obtain ⟨ts,n,e1,_,_,_,e2⟩:=h.ends;have:=h.here;rw [e1,List.length_append] at this;simp at this;omega
 have hB:=Blk.new w 243 [x.op,.string x.name,x.num,u];have HB:=hid hB
 have bne:B≠w.heap.size:=by omega
 clear h hu x0 hB
 by_cases h60:ns.length=60
 ·have e60:((ns.length:Nat):Int)=60:=by omega
  go_enter Tryz.func312,Tryz.ntmps312;go_wp2_with fail;have P2:=HP0.out.setAt (q:=k - 1) (by have:=HP0.out.here;omega)
  have ek:(((k - 1:Nat):Int))=(k:Int) - 1:=by omega
  rw [ek] at P2;refine (sFail_any (P2.ext (show Ext _ ((w.setCell ⟨B,1,none⟩ (.int .i64 ((k:Int) - 1))).alloc (.cells #[x.op,.string x.name,x.num,u] 243)) from X_))).mono ?_;rintro e w2 ⟨z,rfl,hz,P3,K3⟩;have KK:=hid ((((KN.refl lo B 243 w).set hlo 1 (.int .i64 ((k:Int) - 1))).ext (show Ext _ ((w.setCell ⟨B,1,none⟩ (.int .i64 ((k:Int) - 1))).alloc (.cells #[x.op,.string x.name,x.num,u] 243)) from X_)).trans K3);have HP3:=hid P3;clear P2 P3 K3;go_wp2;go_ret;exact ⟨0,k - 1,ns,z,_,rfl,by omega,HP3.out,KK.out,.inl hz,by omega⟩
 ·have e60 : ¬((ns.length:Nat):Int)=60:=by omega
  go_enter Tryz.func312,Tryz.ntmps312;go_wp2_with fail;refine wp_region_phases [([0,1,2,3,4,5,6],7),([],8)] [([],9),([],10),([],11),([],12)] 9 (fun w'=>∃d,w'=lowc (C2b B w.heap.size) _ d) (by kernel_rfl) (by kernel_rfl) (SC.drew _ _) ?_;refine sc_ fun K hK=>?_;go_wp2_with fail;have y1:Ext w (((w.alloc (.cells #[x.op,.string x.name,x.num,u] 243)).alloc (.cells #[x.op,.string x.name,x.num,u] 243)).drew):=S_;have y2:Ext (w.alloc (.cells #[x.op,.string x.name,x.num,u] 243)) (((w.alloc (.cells #[x.op,.string x.name,x.num,u] 243)).alloc (.cells #[x.op,.string x.name,x.num,u] 243)).drew):=S_
  have B2:Blk (((w.alloc (.cells #[x.op,.string x.name,x.num,u] 243)).alloc (.cells #[x.op,.string x.name,x.num,u] 243)).drew) (w.heap.size+1) 243 [x.op,.string x.name,x.num,u]:=by
   have:=Blk.new (w.alloc (.cells #[x.op,.string x.name,x.num,u] 243)) 243 [x.op,.string x.name,x.num,u];rw [World.size_alloc] at this;exact this
  refine hK _ _ (.inr (SC.blocks fun a ha=>?_)) ?_
  ·rcases ha with ha|ha
   ·exact y2.block (by rw [ha,World.size_alloc];omega)
   ·exact y2.block (by rw [ha,World.size_alloc];omega)
  clear hK K;have HY1:=hid y1;have HY2:=hid y2;have HB2:=hid B2;have HN:=hid (HP0.out.nds.ext y1);have HU2:=hid (HU.out.ext y2);clear y1 y2 B2;have z1:=HY1.out.size;refine sc_ fun K hK=>?_;refine wpList_append_nd _ rfl _ _ rfl lo X (.slice na ns.length nc) ns rfl HN.out x u HU2.out hux (w.heap.size+1) rfl ⟨HB2.out.cell 0 rfl,HB2.out.cell 1 rfl,HB2.out.cell 2 rfl,HB2.out.cell 3 rfl⟩ (by omega) (by omega) ?_;intro nv2 w2 hown hg;have z2:=HY2.out.size;rw [World.size_alloc] at z2;have hr:=HP0.out.nds.row;have k2:∀b,b<w.heap.size->(∀c,w.heap[b]?≠some (.cells c 243 (0,0)))->w2.heap[b]?=w.heap[b]?:=fun b hb hn=>(hg.block b (by omega) (fun e=>(by obtain ⟨_,c,hc⟩:=hr b e.symm;exact hn c hc))).trans (HY1.out.block hb)
  have kB:w2.heap[B]?=w.heap[B]?:=k2 B zB (fun c hc=>by
   have:=HP0.out.box;unfold Blk at this;rw [this] at hc;simp only [Option.some.injEq,Obj.cells.injEq] at hc
   exact absurd hc.2.1 (by decide))
  have B3:=HP0.out.box.of kB
  have K3:KN lo B 243 w w2:=KN.grown (HY1.out.kn lo B 243) hg (fun k hk=>by
   obtain ⟨q1,c,hc⟩:=hr k hk
   exact ⟨q1,c,(HY1.out.block (Array.getElem?_eq_some_iff.1 hc).1).trans hc⟩)
  have kN:w2.heap[w.heap.size]?=(w.alloc (.cells #[x.op,.string x.name,x.num,u] 243)).heap[w.heap.size]?:=(hg.block _ (by omega) (fun e=>by
   obtain ⟨_,c,hc⟩:=hr _ e.symm
   exact absurd (Array.getElem?_eq_some_iff.1 hc).1 (by omega))).trans (HY2.out.block (by rw [World.size_alloc];omega))
  have kB2:w2.heap[B]?=(w.alloc (.cells #[x.op,.string x.name,x.num,u] 243)).heap[B]?:=kB.trans (HX0.out.block zB).symm;go_wp2_with fail;refine hK _ _ (.inr (SC.blocks fun a ha=>?_)) ?_
  ·rcases ha with ha|ha
   ·rw [ha];exact kB2
   ·rw [ha];exact kN
  clear hK K;have d2:=B3.cell 2 rfl;have e2:=B3.free 2;have d0:=B3.cell 0 rfl;have e0:=B3.free 0;have HB3:=hid B3;have HK3:=hid K3;have HO:=hid hown;obtain ⟨na2,nc2,rfl,_⟩:=hown.form
  have hll:(ns++[x]).length=ns.length+1:=by simp
  clear hown hg hr k2 kB kN kB2 B3 K3 c1 c2 f1 f2;refine wpPhase_end (wpPhase_free ?_);refine sc_ fun K hK=>?_;go_wp2_with fail;go_wp2_with fail;refine hK _ _ (.inr (trivial)) ?_;clear hK K;refine sc_ fun K hK=>?_;go_wp2_with fail;go_wp2_with fail;refine hK _ _ (.inr (trivial)) ?_;clear hK K;refine sc_ fun K hK=>?_;go_wp2_with fail;go_wp2_with fail;refine hK _ _ (.inr (trivial)) ?_;clear hK K;refine sc_ fun K hK=>?_;go_wp2_with fail;go_wp2_with fail;refine hK _ _ (.inr (trivial)) ?_;clear hK K;refine wpStagesS_nil ?_
  have P4:=Pst.setNds HP0.out HB3.out HK3.out HO.out (by omega) (fun y hy=>by
   rcases List.mem_append.1 hy with hy|hy
   ·exact HP0.out.good y hy
   ·simp only [List.mem_cons,List.not_mem_nil,or_false] at hy
    subst hy
    exact hx)
  rw [hll] at P4;have HP4:=hid P4;have c2:=P4.box.cell 2 rfl;clear P4;go_wp2;go_ret;exact ⟨ns.length,k,ns++[x],bad,_,by go_num,by omega,HP4.out,HK3.out.set hlo 2 _,.inr ⟨rfl,rfl,rfl,rfl⟩,fun _=>⟨rfl,rfl,rfl,rfl⟩⟩
theorem OwnInts.lits {lo g:Nat} {w:World} {xs:List Int} (hl:lo<=g) (h:Blk w g 3 (xs.map (Value.int .i64))) (h64:∀x∈xs,I64 x) (hn:xs.length<=1000000):OwnInts lo w (.slice (some ⟨g,0,none⟩) xs.length xs.length) xs:=by
 refine ⟨⟨by simp,.inr ⟨g,xs.length,(xs.map (Value.int .i64)).toArray,rfl,hl,h,Nat.le_refl _,by unfold maxLen;omega,by simp,?_⟩⟩,h64⟩;simp only [Nat.mul_one];rw [List.take_of_length_le (by simp)]
def semiB:ByteArray:=⟨#[59]⟩
theorem sOp_any2 (x:ByteArray) (b:Bool) (w:World):Calls Tryz.prog 311 #[.string x,.bool b] w fun e w'=>∃o:Int,e = .returned (.int .i64 o)/\0<=o/\o<=8/\Ext w w'/\(x=semiB->o=0)/\(o≠0->x≠⟨#[]⟩):=by
 have sm:∀c:UInt8,c≠59->(x.toList==[c])=true->x=semiB->False:=fun c hc e h=>by
  subst h;simp [semiB] at e;exact hc e.symm
 have nm:∀c:UInt8,(x.toList==[c])=true->x≠⟨#[]⟩:=fun c e h=>by
  subst h;simp at e
 cases b
 ·by_cases h1:(x.toList==[42])=true
  ·have n1:=nm _ h1
   have s1:=sm _ (by decide) h1;clear sm nm;go_enter Tryz.func311,Tryz.ntmps311;go_wp2;go_ret;exact ⟨6,rfl,by omega,by omega,X_,(fun h=>(s1 h).elim),fun _=>n1⟩
  ·have h1':(x.toList==[42])=false:=by simpa using h1
   clear h1
   by_cases h2:(x.toList==[47])=true
   ·have n1:=nm _ h2
    have s1:=sm _ (by decide) h2;clear sm nm;go_enter Tryz.func311,Tryz.ntmps311;go_wp2;go_ret;exact ⟨7,rfl,by omega,by omega,X_,(fun h=>(s1 h).elim),fun _=>n1⟩
   ·have h2':(x.toList==[47])=false:=by simpa using h2
    clear h2 sm nm;go_enter Tryz.func311,Tryz.ntmps311;go_wp2;go_ret;exact ⟨0,rfl,by omega,by omega,X_,(fun _=>rfl),fun h=>(h rfl).elim⟩
 ·by_cases h1:(x.toList==[43])=true
  ·have n1:=nm _ h1
   have s1:=sm _ (by decide) h1;clear sm nm;go_enter Tryz.func311,Tryz.ntmps311;go_wp2;go_ret;exact ⟨4,rfl,by omega,by omega,X_,(fun h=>(s1 h).elim),fun _=>n1⟩
  ·have h1':(x.toList==[43])=false:=by simpa using h1
   clear h1
   by_cases h2:(x.toList==[45])=true
   ·have n1:=nm _ h2
    have s1:=sm _ (by decide) h2;clear sm nm;go_enter Tryz.func311,Tryz.ntmps311;go_wp2;go_ret;exact ⟨5,rfl,by omega,by omega,X_,(fun h=>(s1 h).elim),fun _=>n1⟩
   ·have h2':(x.toList==[45])=false:=by simpa using h2
    clear h2 sm nm;go_enter Tryz.func311,Tryz.ntmps311;go_wp2;go_ret;exact ⟨0,rfl,by omega,by omega,X_,(fun _=>rfl),fun h=>(h rfl).elim⟩
def LoneT (tk:List Tok) (k:Nat) (ns:List Nd) (d:Int) (x:ByteArray):Prop:=∃t t1,tk[k]?=some t/\t.kind=2/\t.text=x/\tk[k+1]?=some t1/\peekB t1=semiB/\ns.length<60/\d<=64
def PRes (lo:Nat) (X:Nat->Prop) (B:Nat) (tk:List Tok) (gs:List Asg) (tv gv:Value) (st:Nat) (w:World) (k:Nat) (ns:List Nd) (bad d:Int) (e:Ending) (w':World):Prop:=
 ∃(r q:Nat) (ns':List Nd) (z:Int) (nv':Value),e = .returned (.int .i64 (r:Nat))/\r<=60/\Pst lo X B tk gs w' q ns' z tv nv' gv/\KN lo B 243 w w'/\(0<=z\/(z=bad/\k+st<=q))/\∀x,LoneT tk k ns d x->z=bad/\q=k+1/\ns'=ns++[⟨2,x,0,[]⟩]/\r=ns.length
def PCF (lo B:Nat) (tk:List Tok) (gs:List Asg) (tv gv:Value) (m:Nat):Prop:=∀(X:Nat->Prop) (w:World) (k:Nat) (ns:List Nd) (bad:Int) (nv:Value) (d:Int),Pst lo X B tk gs w k ns bad tv nv gv->bad<0->1<=k->tk.length - k<=m->0<=d->d<=65 ->
 Calls Tryz.prog 326 #[.pointer (some ⟨B,0,none⟩),d] w (PRes lo X B tk gs tv gv 1 w k ns bad d)
def PCE (lo B:Nat) (tk:List Tok) (gs:List Asg) (tv gv:Value) (m:Nat):Prop:=∀(X:Nat->Prop) (w:World) (k:Nat) (ns:List Nd) (bad:Int) (nv:Value) (d:Int),Pst lo X B tk gs w k ns bad tv nv gv->bad<0->1<=k->tk.length - k<=m->0<=d->d<=65 ->
 Calls Tryz.prog 259 #[.pointer (some ⟨B,0,none⟩),d] w (PRes lo X B tk gs tv gv 1 w k ns bad d)
def PCB (lo B:Nat) (tk:List Tok) (gs:List Asg) (tv gv:Value) (b:Bool) (m:Nat):Prop:=∀(X:Nat->Prop) (w:World) (k:Nat) (ns:List Nd) (bad:Int) (nv:Value) (d:Int),Pst lo X B tk gs w k ns bad tv nv gv->bad<0->1<=k->tk.length - k<=m->0<=d->d<=65 ->
 Calls Tryz.prog 291 #[.pointer (some ⟨B,0,none⟩),d,.bool b] w (PRes lo X B tk gs tv gv 1 w k ns bad d)
def PCO (lo B:Nat) (tk:List Tok) (gs:List Asg) (tv gv:Value) (b:Bool) (m:Nat):Prop:=∀(X:Nat->Prop) (w:World) (k:Nat) (ns:List Nd) (bad:Int) (nv:Value) (d:Int),Pst lo X B tk gs w k ns bad tv nv gv->bad<0->1<=k->tk.length - k<=m->0<=d->d<=65 ->
 Calls Tryz.prog 310 #[.pointer (some ⟨B,0,none⟩),d,.bool b] w (PRes lo X B tk gs tv gv 1 w k ns bad d)
def PCC (lo B:Nat) (tk:List Tok) (gs:List Asg) (tv gv:Value) (m:Nat):Prop:=∀(X:Nat->Prop) (w:World) (k:Nat) (ns:List Nd) (bad:Int) (nv:Value) (x:ByteArray) (d:Int),Pst lo X B tk gs w k ns bad tv nv gv->bad<0->1<=k->tk.length - k<=m->0<=d->d<=65->x.size<=2000 ->
 Calls Tryz.prog 330 #[.pointer (some ⟨B,0,none⟩),.string x,d] w fun e w'=>∃(r q:Nat) (ns':List Nd) (z:Int) (nv':Value),e = .returned (.int .i64 (r:Nat))/\r<=60/\Pst lo X B tk gs w' q ns' z tv nv' gv/\KN lo B 243 w w'/\(0<=z\/(z=bad/\k<=q))
theorem NdG.of {o n:Int} {x:ByteArray} {us:List Int} (h1:I64 o) (h2:I64 n) (h3:x.size<=2000) (h4:us.length<=3):NdG ⟨o,x,n,us⟩:=⟨h1,h2,h3,h4⟩
theorem Pst.step {lo B:Nat} {X:Nat->Prop} {tk:List Tok} {gs:List Asg} {w:World} {k:Nat} {ns:List Nd} {bad:Int} {tv nv gv:Value} (h:Pst lo X B tk gs w k ns bad tv nv gv) (hq:k+1<tk.length):Pst lo X B tk gs (w.setCell ⟨B,1,none⟩ (.int .i64 ((k:Int)+1))) (k+1) ns bad tv nv gv:=by
 simpa using h.setAt hq
theorem Pst.k3000 {lo B:Nat} {X:Nat->Prop} {tk:List Tok} {gs:List Asg} {w:World} {k:Nat} {ns:List Nd} {bad:Int} {tv nv gv:Value} (h:Pst lo X B tk gs w k ns bad tv nv gv):k<=3000:=by
 obtain ⟨ts,n,e1,_,_,_,e2⟩:=h.ends;have:=h.here;rw [e1,List.length_append] at this;simp at this;omega
theorem peekB_ne {t:Tok} {x:ByteArray} (h:peekB t=x) (hx:x≠⟨#[]⟩):t.kind=3/\t.text=x:=by
 unfold peekB at h
 by_cases e:t.kind=3
 ·rw [if_pos e] at h;exact ⟨e,h⟩
 ·rw [if_neg e] at h;exact absurd h.symm hx
theorem LoneT.not {tk:List Tok} {k:Nat} {ns:List Nd} {d:Int} {x:ByteArray} (h:LoneT tk k ns d x) {t:Tok} (ht:tk[k]?=some t):t.kind=2/\t.text=x/\∃t1,tk[k+1]?=some t1/\peekB t1=semiB:=by
 obtain ⟨t',t1,h1,h2,h3,h4,h5,_⟩:=h;rw [ht] at h1
 cases h1
 exact ⟨h2,h3,t1,h4,h5⟩
theorem sFactor_of {lo B:Nat} {tk:List Tok} {gs:List Asg} {tv gv:Value} (m:Nat) (hF:PCF lo B tk gs tv gv m) (hE:PCE lo B tk gs tv gv m) (hC:PCC lo B tk gs tv gv m):PCF lo B tk gs tv gv (m+1):=by
 intro X w k ns bad nv d h hbad hk1 hm hd0 hd;have HP:=hid h;have HF:=hid hF;have HE:=hid hE;have HC:=hid hC;have kb:=h.k3000;have zlo:=h.low;have HE:=hid hE;clear hF hE hC
 by_cases hd64:d > 64
 ·go_enter Tryz.func326,Tryz.ntmps326
  go_wp2_with fail;refine (sFail_any HP.out).mono ?_;rintro e w2 ⟨z,rfl,hz,P2,K2⟩;have HP2:=hid P2;have HK2:=hid K2;clear P2 K2 h;go_wp2;go_ret
  exact ⟨0,k,ns,z,nv,rfl,by omega,HP2.out,HK2.out,.inl hz,fun x hx=>by
   obtain ⟨t,t1,_,_,_,_,_,_,h1⟩:=hx
   omega⟩
 ·obtain ⟨t,ht,tk64,tts,tn64,o1,o2,hkl⟩:=h.ends.at h.here
  obtain ⟨g,cap,etv,g1,g2,g3,g4,⟨cg,hcg⟩,hc⟩:=OwnG.at h.toks (fun _=>rfl) ht;have hk:=h.here;obtain ⟨c0,c1⟩:=h.box.q2;have z:=h.box.lt;have d0:=hc 0 (by decide);have d1:=hc 1 (by decide);have d2:=hc 2 (by decide);have d3:=hc 3 (by decide);simp only [Tok.cs,Nat.add_zero,List.getElem?_cons_zero,List.getElem?_cons_succ] at d0 d1 d2 d3;have HT:=hid ht;have HKL:=hid hkl;have HETV:=hid etv;rw [etv] at c0
  have gne:g≠w.heap.size:=by omega
  have bne:B≠w.heap.size:=by omega
  have hd65:d+1<=65:=by omega
  clear h hc ht hcg hkl etv;go_enter Tryz.func326,Tryz.ntmps326;go_wp2_with fail;refine wp_region_stagesS [([0,1,2,3,4,5,6,7,8,9],10),([],11)] 99 (fun w'=>∃d,w'=lowx (w.heap.size) (w.heap.size) _ d) (by kernel_rfl) (by kernel_rfl) ⟨_,lowx_of (fun _ _ _=>rfl)⟩ ?_;refine sc_ fun K hK=>?_;go_wp2_with fail;go_wp2_with fail;refine hK _ _ (.inr ⟨_,lowx_of (fun b hb _=>Ext.block (show Ext w _ from X_) hb)⟩) ?_;clear hK K;refine sc_ fun K hK=>?_;go_wp2_with fail;go_wp2_with fail;refine hK _ _ (.inr ⟨_,lowx_of (fun b hb _=>Ext.block (show Ext w _ from S_) hb)⟩) ?_;clear hK K;refine wpStagesS_nil ?_;have x1:Ext w ((w.alloc (.cells #[t.kind,.string t.text,t.num,t.off] 336)).drew):=S_;have B1:Blk ((w.alloc (.cells #[t.kind,.string t.text,t.num,t.off] 336)).drew) w.heap.size 336 [t.kind,.string t.text,t.num,t.off]:=(Blk.new w 336 [t.kind,.string t.text,t.num,t.off]).ext (show Ext (w.alloc (.cells #[t.kind,.string t.text,t.num,t.off] 336)) _ from S_);have HX1:=hid x1;have HB1:=hid B1;clear x1 B1;go_wp2_with fail;refine (sPeek_any (HP.out.ext HX1.out) HT.out).mono ?_;rintro e w2 ⟨rfl,x2⟩;have HX2:=hid (HX1.out.trans x2);have HB2:=hid (HB1.out.ext x2);have HP2:=hid (HP.out.ext HX2.out);have z2:=HX2.out.size;have zB2:=HB2.out.lt;have c1':=HP2.out.box.cell 1 rfl;have f1':=HP2.out.box.free 1;clear HX1 HB1 x2 c0 c1 d0 d1 d2 d3 g1 g2 g3 g4
  by_cases h45:((peekB t).toList==[45])=true
  ·have hp:peekB t=⟨#[45]⟩:=ByteArray.ext (Array.ext' (by rw [<-Lib.toList_data];exact beq_iff_eq.1 h45))
   have hk3:=(peekB_ne hp (by decide)).1;have hkk:=HKL.out (by omega);have HP3:=hid (HP2.out.step hkk);have HK3:=hid ((HX2.out.kn lo B 243).set zlo 1 (.int .i64 ((k:Int)+1)));clear hp;go_wp2_with fail;refine (HF.out _ _ (k+1) ns bad nv (d+1) HP3.out hbad (by omega) (by omega) (by omega) hd65).mono ?_;rintro e w4 ⟨r,q,ns',z4,nv',rfl,hr,P4,K4,hz4,-⟩;have HP4:=hid P4;have HK4:=hid (HK3.out.trans K4);have c4:=P4.box.cell 4 rfl;clear P4 K4 c1' f1'
   have hno:∀x,¬LoneT tk k ns d x:=fun x hx=>by
    have:=(hx.not HT.out).1;omega
   by_cases hz0:0<=z4
   ·go_wp2
    go_ret;exact ⟨0,q,ns',z4,nv',rfl,by omega,HP4.out,HK4.out,.inl hz0,fun x hx=>(hno x hx).elim⟩
   ·have hzb:=hz4.resolve_left hz0
    go_wp2_with fail
    have hu:OwnInts lo (w4.alloc (.cells #[(r:Nat)] 3)) (.slice (some ⟨w4.heap.size,0,none⟩) 1 1) [(r:Int)]:=OwnInts.lits (xs:=[(r:Int)]) (by have:=HP4.out.box.lt;omega) (Blk.new w4 3 [(r:Nat)]) (fun y hy=>by
     simp only [List.mem_cons,List.not_mem_nil,or_false] at hy;subst hy
     exact ⟨by omega,by omega⟩) (by simp)
    have y4:Ext w4 (w4.alloc (.cells #[(r:Nat)] 3)):=X_
    refine (sEmit_any (HP4.out.ext y4) (by omega) ⟨3,⟨#[]⟩,0,[(r:Int)]⟩ (.slice (some ⟨w4.heap.size,0,none⟩) 1 1) hu (fun j hj hx=>by
     have e:w4.heap.size=j:=by simpa [Value.ownBlock] using hj
     have:=HP4.out.xlt j hx
     omega) (NdG.of ⟨by omega,by omega⟩ ⟨by omega,by omega⟩ (by decide) (by simp))).mono ?_
    rintro e w5 ⟨r5,q5,ns5,z5,nv5,rfl,hr5,P5,K5,hz5,-⟩;have HP5:=hid P5;have HK5:=hid ((HK4.out.ext y4).trans K5);clear P5 K5 hu y4;go_wp2;go_ret;exact ⟨r5,q5,ns5,z5,nv5,rfl,hr5,HP5.out,HK5.out,hz5.imp id (fun h=>⟨h.2.2.1.trans hzb.1,by omega⟩),fun x hx=>(hno x hx).elim⟩
  ·have e45:((peekB t).toList==[45])=false:=by simpa using h45
   clear h45;go_wp2_with fail;refine (sPeek_any HP2.out HT.out).mono ?_;rintro e w3 ⟨rfl,x3⟩;have HX3:=hid (HX2.out.trans x3);have HB3:=hid (HB2.out.ext x3);have HP3:=hid (HP.out.ext HX3.out);have z3:=x3.size;have c1':=HP3.out.box.cell 1 rfl;have f1':=HP3.out.box.free 1;obtain ⟨d0,d1,d2⟩:=HB3.out.q3;have zB3:=HP3.out.box.lt;clear HX2 HB2 HP2 x3
   by_cases h40:((peekB t).toList==[40])=true
   ·have hp:peekB t=⟨#[40]⟩:=ByteArray.ext (Array.ext' (by rw [<-Lib.toList_data];exact beq_iff_eq.1 h40))
    have hk3:=(peekB_ne hp (by decide)).1;have hkk:=HKL.out (by omega);have HP4:=hid (HP3.out.step hkk);have HK4:=hid ((HX3.out.kn lo B 243).set zlo 1 (.int .i64 ((k:Int)+1)))
    have hno:∀x,¬LoneT tk k ns d x:=fun x hx=>by
     have:=(hx.not HT.out).1;omega
    clear hp d0 d1 d2;go_wp2_with fail;refine (HE.out _ _ (k+1) ns bad nv (d+1) HP4.out hbad (by omega) (by omega) (by omega) hd65).mono ?_;rintro e w5 ⟨r,q,ns',z5,nv',rfl,hr,P5,K5,hz5,-⟩;have HP5:=hid P5;have HK5:=hid (HK4.out.trans K5);have c4:=P5.box.cell 4 rfl;clear P5 K5 c1' f1'
    by_cases hz0:0<=z5
    ·go_wp2
     go_ret;exact ⟨0,q,ns',z5,nv',rfl,by omega,HP5.out,HK5.out,.inl hz0,fun x hx=>(hno x hx).elim⟩
    ·have hzb:=hz5.resolve_left hz0
     obtain ⟨t5,ht5,_⟩:=HP5.out.ends.at HP5.out.here;go_wp2_with fail;refine (sExpect_any HP5.out ht5 ⟨#[41]⟩ (by decide)).mono ?_;rintro e w6 ⟨b,q6,z6,rfl,P6,K6,hb1,hb2,-⟩;have HP6:=hid P6;have HK6:=hid (HK5.out.trans K6);clear P6 K6
     cases b
     ·have:=hb2 rfl
      go_wp2;go_ret;exact ⟨0,q6,ns',z6,nv',rfl,by omega,HP6.out,HK6.out,.inl this,fun x hx=>(hno x hx).elim⟩
     ·obtain ⟨rfl,rfl⟩:=hb1 rfl
      go_wp2;go_ret;exact ⟨r,q+1,ns',z6,nv',rfl,hr,HP6.out,HK6.out,.inr ⟨hzb.1,by omega⟩,fun x hx=>(hno x hx).elim⟩
   ·have e40:((peekB t).toList==[40])=false:=by simpa using h40
    clear h40
    by_cases k1:t.kind=1
    ·have hkk:=HKL.out (by omega)
     have HP4:=hid (HP3.out.step hkk);have HK4:=hid ((HX3.out.kn lo B 243).set zlo 1 (.int .i64 ((k:Int)+1)))
     have hno:∀x,¬LoneT tk k ns d x:=fun x hx=>by
      have:=(hx.not HT.out).1;omega
     go_wp2_with fail;refine (sEmit_any HP4.out (by omega) ⟨1,⟨#[]⟩,t.num,[]⟩ (.slice none 0 0) (OwnInts.nil _ _) (fun _ h=>nomatch h) (NdG.of ⟨by omega,by omega⟩ tn64 (by decide) (by simp))).mono ?_;rintro e w5 ⟨r5,q5,ns5,z5,nv5,rfl,hr5,P5,K5,hz5,-⟩;have HP5:=hid P5;have HK5:=hid (HK4.out.trans K5);clear P5 K5;go_wp2;go_ret;exact ⟨r5,q5,ns5,z5,nv5,rfl,hr5,HP5.out,HK5.out,hz5.imp id (fun h=>⟨h.2.2.1,by omega⟩),fun x hx=>(hno x hx).elim⟩
    ·by_cases k2:t.kind=2
     ·have hkk:=HKL.out (by omega)
      have HP4:=hid (HP3.out.step hkk);have HK4:=hid ((HX3.out.kn lo B 243).set zlo 1 (.int .i64 ((k:Int)+1)));obtain ⟨t4,ht4,_,_,_,_,_,hkl4⟩:=HP4.out.ends.at HP4.out.here;have HT4:=hid ht4;have HB4:=hid (HB3.out.other (a:=⟨B,1,none⟩) (by simp only;omega) (.int .i64 ((k:Int)+1)));clear ht4;go_wp2_with fail;refine (sPeek_any HP4.out HT4.out).mono ?_;rintro e w5 ⟨rfl,x5⟩;have HB5:=hid (HB4.out.ext x5);have HP5:=hid (HP4.out.ext x5);have HK5:=hid (HK4.out.ext x5);have c5:=HP5.out.box.cell 1 rfl;have f5:=HP5.out.box.free 1;have b1:=HB5.out.cell 1 rfl;have z5:=HB5.out.lt;have z6:=HP5.out.box.lt;clear x5 d0 d1 d2 HB3 HB4 HK4 HP4 c1' f1'
      by_cases h40:((peekB t4).toList==[40])=true
      ·have hp:peekB t4=⟨#[40]⟩:=ByteArray.ext (Array.ext' (by rw [<-Lib.toList_data];exact beq_iff_eq.1 h40))
       have hk3:=(peekB_ne hp (by decide)).1;have hkk4:=hkl4 (by omega);have HP6:=hid (HP5.out.step hkk4);have HK6:=hid (HK5.out.set zlo 1 (.int .i64 (((k+1:Nat):Int)+1)))
       have hno:∀x,¬LoneT tk k ns d x:=fun x hx=>by
        obtain ⟨_,_,t1,h1,h2⟩:=hx.not HT.out;rw [HT4.out] at h1
        cases h1
        rw [hp] at h2;exact absurd h2 (by decide)
       clear hp hkl4;go_wp2_with fail;refine (HC.out _ _ (k+1+1) ns bad nv t.text (d+1) HP6.out hbad (by omega) (by omega) (by omega) hd65 tts).mono ?_;rintro e w7 ⟨r,q,ns',z7,nv',rfl,hr,P7,K7,hz7⟩;have HP7:=hid P7;have HK7:=hid (HK6.out.trans K7);clear P7 K7;go_wp2;go_ret;exact ⟨r,q,ns',z7,nv',rfl,hr,HP7.out,HK7.out,hz7.imp id (fun h=>⟨h.1,by omega⟩),fun x hx=>(hno x hx).elim⟩
      ·have e40b:((peekB t4).toList==[40])=false:=by simpa using h40
       clear h40 hkl4;go_wp2_with fail;refine (sEmit_any HP5.out (by omega) ⟨2,t.text,0,[]⟩ (.slice none 0 0) (OwnInts.nil _ _) (fun _ h=>nomatch h) (NdG.of ⟨by omega,by omega⟩ ⟨by omega,by omega⟩ tts (by simp))).mono ?_;rintro e w7 ⟨r7,q7,ns7,z7,nv7,rfl,hr7,P7,K7,hz7,hx7⟩;have HP7:=hid P7;have HK7:=hid (HK5.out.trans K7);clear P7 K7;go_wp2;go_ret
       exact ⟨r7,q7,ns7,z7,nv7,rfl,hr7,HP7.out,HK7.out,hz7.imp id (fun h=>⟨h.2.2.1,by omega⟩),fun x hx=>by
        obtain ⟨t',t1,g1,g2,g3,g4,g5,g6,g7⟩:=hx;rw [HT.out] at g1
        cases g1
        obtain ⟨i1,i2,i3,i4⟩:=hx7 g6
        exact ⟨i3,i1,by rw [i2,g3],i4⟩⟩
     ·go_wp2_with fail
      refine (sFail_any HP3.out).mono ?_;rintro e w4 ⟨z4,rfl,hz,P4,K4⟩;have HP4:=hid P4;have HK4:=hid ((HX3.out.kn lo B 243).trans K4);clear P4 K4;go_wp2;go_ret
      exact ⟨0,k,ns,z4,nv,rfl,by omega,HP4.out,HK4.out,.inl hz,fun x hx=>by
       have:=(hx.not HT.out).1
       omega⟩
theorem sOperandT_of {lo B:Nat} {tk:List Tok} {gs:List Asg} {tv gv:Value} (m:Nat) (hB:PCB lo B tk gs tv gv false m):PCO lo B tk gs tv gv true m:=by
 intro X w k ns bad nv d h hbad hk1 hm hd0 hd;have H:=hid (hB X w k ns bad nv d h hbad hk1 hm hd0 hd);clear hB h;go_enter Tryz.func310,Tryz.ntmps310;go_wp2_with fail;refine H.out.mono ?_;rintro e w2 ⟨r,q,ns',z,nv',rfl,h2⟩;have H2:=hid h2;clear h2;go_wp2;go_ret;exact ⟨r,q,ns',z,nv',rfl,H2.out⟩
theorem sOperandF_of {lo B:Nat} {tk:List Tok} {gs:List Asg} {tv gv:Value} (m:Nat) (hB:PCF lo B tk gs tv gv m):PCO lo B tk gs tv gv false m:=by
 intro X w k ns bad nv d h hbad hk1 hm hd0 hd;have H:=hid (hB X w k ns bad nv d h hbad hk1 hm hd0 hd);clear hB h;go_enter Tryz.func310,Tryz.ntmps310;go_wp2_with fail;refine H.out.mono ?_;rintro e w2 ⟨r,q,ns',z,nv',rfl,h2⟩;have H2:=hid h2;clear h2;go_wp2;go_ret;exact ⟨r,q,ns',z,nv',rfl,H2.out⟩
theorem sExpression_of {lo B:Nat} {tk:List Tok} {gs:List Asg} {tv gv:Value} (m:Nat) (hB:PCB lo B tk gs tv gv true m):PCE lo B tk gs tv gv m:=by
 intro X w k ns bad nv d h hbad hk1 hm hd0 hd;have H:=hid (hB X w k ns bad nv d h hbad hk1 hm hd0 hd);clear hB h;go_enter Tryz.func259,Tryz.ntmps259;go_wp2_with fail;refine H.out.mono ?_;rintro e w2 ⟨r,q,ns',z,nv',rfl,h2⟩;have H2:=hid h2;clear h2;go_wp2;go_ret;exact ⟨r,q,ns',z,nv',rfl,H2.out⟩
def msr (B n:Nat) (w:World):Nat:=
 match w.cell? ⟨B,4,none⟩,w.cell? ⟨B,1,none⟩ with
 | some (.int _ z),some (.int _ k)=>if 0<=z then 0 else 1+(n - k.toNat)
 | _,_=>0
theorem Pst.msr {lo B n:Nat} {X:Nat->Prop} {tk:List Tok} {gs:List Asg} {w:World} {k:Nat} {ns:List Nd} {bad:Int} {tv nv gv:Value} (h:Pst lo X B tk gs w k ns bad tv nv gv):Go.Proofs.YtfjbiifebcfjfaaGreat.msr B n w=if 0<=bad then 0 else 1+(n - k):=by
 unfold Go.Proofs.YtfjbiifebcfjfaaGreat.msr;rw [h.box.cell 4 rfl,h.box.cell 1 rfl]
 rfl
theorem sBinary_of {lo B:Nat} {tk:List Tok} {gs:List Asg} {tv gv:Value} (m:Nat) (b:Bool) (hO:PCO lo B tk gs tv gv b m):PCB lo B tk gs tv gv b m:=by
 intro X w k ns bad nv d h hbad hk1 hm hd0 hd;have HP:=hid h;have HO:=hid hO;have zlo:=h.low;have hk:=h.here;clear hO h;go_enter Tryz.func291,Tryz.ntmps291;go_wp2_with fail;refine (HO.out X w k ns bad nv d HP.out hbad hk1 hm hd0 hd).mono ?_;rintro e w1 ⟨r1,q1,ns1,z1,nv1,rfl,hr1,P1,K1,hz1,hx1⟩;have HP1:=hid P1;have HK1:=hid K1;have HX1:=hid hx1;clear P1 K1 hx1;go_wp2_with fail
 go_loopw [7] (fun v wr=>∃(r q:Nat) (ns':List Nd) (z:Int) (nv':Value),v = .int .i64 (r:Nat)/\r<=60/\Pst lo X B tk gs wr q ns' z tv nv' gv/\KN lo B 243 w wr/\(0<=z\/(z=bad/\k+1<=q))/\(∀x,LoneT tk k ns d x->z=bad/\q=k+1/\ns'=ns++[⟨2,x,0,[]⟩]/\r=ns.length)) (fun _ wr=>msr B tk.length wr)
 case atStart=>exact ⟨r1,q1,ns1,z1,nv1,rfl,hr1,HP1.out,HK1.out,hz1,HX1.out⟩
 case round=>
  obtain ⟨r,q,ns',z,nv',rfl,hr,P,K,hz,hx⟩:=hrel;have HP2:=hid P;have HK2:=hid K;have HX2:=hid hx;have hq:=P.here;have kb:=P.k3000;have c4:=P.box.cell 4 rfl;clear P K hx HP1 HK1 HX1
  by_cases hz0:z<0
  ·obtain ⟨zb,hkq⟩:=hz.resolve_left (by omega)
   obtain ⟨t,ht,_,_,_,_,_,hkl⟩:=HP2.out.ends.at hq;have HT:=hid ht;have HKL:=hid hkl;clear ht hkl;go_wp2_with fail;refine (sPeek_any HP2.out HT.out).mono ?_;rintro e w2 ⟨rfl,x2⟩;have HX3:=hid x2;clear x2;go_wp2_with fail;refine (sOp_any2 (peekB t) b w2).mono ?_;rintro e w3 ⟨o,rfl,ho0,ho8,x3,hs,hne⟩;have HX4:=hid (HX3.out.trans x3);have HP4:=hid (HP2.out.ext HX4.out);have HK4:=hid (HK2.out.ext HX4.out);have hs':=hid hs;clear x3 hs c4 HX3
   by_cases ho:o=0
   ·go_wp2
    go_ret;exact ⟨r,q,ns',z,nv',rfl,hr,HP4.out,HK4.out,.inr ⟨zb,hkq⟩,HX2.out⟩
   ·have hno:∀x,¬LoneT tk k ns d x:=fun x hx=>by
     obtain ⟨_,g2,_⟩:=HX2.out x hx;obtain ⟨_,t1,_,_,_,g4,g5,_⟩:=hx;rw [g2] at HT;have:=HT.out;rw [g4] at this
     cases this
     exact ho (hs'.out g5)
    have hk3:t.kind≠0:=fun e=>hne ho (by unfold peekB;rw [if_neg (by omega)]);have hkk:=HKL.out hk3;have HP5:=hid (HP4.out.step hkk);have HK5:=hid (HK4.out.set zlo 1 (.int .i64 ((q:Int)+1)));have c1:=HP4.out.box.cell 1 rfl;have f1:=HP4.out.box.free 1;clear hne hk3 hs';go_wp2_with fail;refine (HO.out _ _ (q+1) ns' z nv' d HP5.out hz0 (by omega) (by omega) hd0 hd).mono ?_;rintro e w5 ⟨r5,q5,ns5,z5,nv5,rfl,hr5,P5,K5,hz5,-⟩;have HP6:=hid P5;have HK6:=hid (HK5.out.trans K5);have c4:=P5.box.cell 4 rfl;clear P5 K5 c1 f1
    by_cases hz50:0<=z5
    ·go_wp2
     go_ret;exact ⟨0,q5,ns5,z5,nv5,rfl,by omega,HP6.out,HK6.out,.inl hz50,fun x hx=>(hno x hx).elim⟩
    ·obtain ⟨zb5,hq5⟩:=hz5.resolve_left hz50
     have hl:OwnInts lo (w5.alloc (.cells #[(r:Nat),(r5:Nat)] 3)) (.slice (some ⟨w5.heap.size,0,none⟩) 2 2) [(r:Int),(r5:Int)]:=OwnInts.lits (xs:=[(r:Int),(r5:Int)]) (by have:=HP6.out.box.lt;omega) (Blk.new w5 3 [(r:Nat),(r5:Nat)]) (fun y hy=>by
      simp only [List.mem_cons,List.not_mem_nil,or_false] at hy
      rcases hy with rfl|rfl
      ·exact ⟨by omega,by omega⟩
      ·exact ⟨by omega,by omega⟩) (by simp)
     have y5:Ext w5 (w5.alloc (.cells #[(r:Nat),(r5:Nat)] 3)):=X_;have HU:=hid hl;have HY:=hid y5;clear hl y5;go_wp2_with fail
     refine (sEmit_any (HP6.out.ext HY.out) (by omega) ⟨o,⟨#[]⟩,0,[(r:Int),(r5:Int)]⟩ (.slice (some ⟨w5.heap.size,0,none⟩) 2 2) HU.out (fun j hj hx=>by
      have e:w5.heap.size=j:=by simpa [Value.ownBlock] using hj
      have:=HP6.out.xlt j hx
      omega) (NdG.of ⟨by omega,by omega⟩ ⟨by omega,by omega⟩ (by decide) (by simp))).mono ?_
     rintro e w7 ⟨r7,q7,ns7,z7,nv7,rfl,hr7,P7,K7,hz7,-⟩;have HP7:=hid P7;have HK7:=hid ((HK6.out.ext HY.out).trans K7);have hz8:0<=z7\/(z7=bad/\q+2<=q7):=hz7.imp id (fun h=>⟨h.2.2.1.trans (zb5.trans zb),by omega⟩);clear P7 K7 hz7;go_wp2;go_roundw
     case rel=>exact ⟨r7,q7,ns7,z7,nv7,rfl,hr7,HP7.out,HK7.out,hz8.imp id (fun h=>⟨h.1,by omega⟩),fun x hx=>(hno x hx).elim⟩
     case measure=>
      rw [HP7.out.msr,HP2.out.msr,if_neg (show ¬(0<=z) by omega)]
      split
      ·omega
      ·have:=HP7.out.here
       omega
  ·go_wp2
   go_ret;exact ⟨r,q,ns',z,nv',rfl,hr,HP2.out,HK2.out,hz,HX2.out⟩
theorem wpList_append1_at (w:World) {ops:Array Oper} {rest:List Oper} {o:Oper} {a:Act} {Q:Exit->Act->World->Prop} (hg:o.guard=none) (s x:Operand)
  (hop:o.op=Op.call { callee:=Callee.builtin Builtin.append,args:=#[s,x],argTypes:=#[25,25] }) (lo:Nat) (v:Value) (xs:List Int) (hs:a.eval s=v) (hown:OwnInts lo w v xs)
  (y:Int) (hy:I64 y) (b:Nat) (hx:a.eval x = .slice (some ⟨b,0,none⟩) 1 1) (hcell:w.cell? ⟨b,0,none⟩=some (.int .i64 y)) (hlen:xs.length<1000000000) (hlo:lo<=w.heap.size)
  (hK:∀v' w',OwnInts lo w' v' (xs++[y])->w.grownBy w' v.ownBlock->(v'.ownBlock=v.ownBlock\/v'.ownBlock=some w.heap.size)->wpList Tryz.prog ops Q rest (a.put o.dst v') w'):wpList Tryz.prog ops Q (o::rest) a w:=by
 obtain ⟨i0,hi0,hz0,hz1,hz2⟩:=info_parts info_int;refine wpList_append_own_at w hg s x 25 hop lo 3 i0 (.int .i64 0) 1 8 Tryz.underlying25 hi0 hz0 hz1 hz2 rfl (by decide) v xs.length _ hs hown.1 ⟨b,0,none⟩ 1 1 [y] hx rfl ?_ ?_ ?_ ?_ hlo ?_
 ·intro j u hj
  match j,hj with
  | 0,hj=>simp at hj;subst hj;exact hcell
 ·intro u hu;simp at hu;subst hu;rfl
 ·unfold maxLen;omega
 ·omega
 ·intro v' w1 hown' hgrow _ hat
  refine hK v' w1 ⟨by simpa using hown',fun z hz=>?_⟩ hgrow hat
  rcases List.mem_append.1 hz with h|h
  ·exact hown.2 z h
  ·simp at h;rw [h];exact hy
theorem KN.grownNew {lo B:Nat} {e:TypeId} {w w1 w2:World} {row:Option Nat} (h:KN lo B e w w1) (hg:w1.grownBy w2 row) (hr:∀k,row=some k->w.heap.size<=k):KN lo B e w w2:=
 ⟨hg.os.trans h.os,hg.tape.trans h.tape,hg.output.trans h.output,Nat.le_trans h.size hg.size,fun b hb hn=>(hg.block b (Nat.lt_of_lt_of_le hb h.size) (fun e1=>by have:=hr b e1.symm;omega)).trans (h.block b hb hn)⟩
def XV (X:Nat->Prop) (v:Value):Nat->Prop:=fun b=>X b\/v.ownBlock=some b
theorem Pst.reX {lo B:Nat} {X Y:Nat->Prop} {tk:List Tok} {gs:List Asg} {w:World} {k:Nat} {ns:List Nd} {bad:Int} {tv nv gv:Value} (h:Pst lo X B tk gs w k ns bad tv nv gv) (hx:∀k,k<w.heap.size->¬X k->¬Y k) (hl:∀b,Y b->b<w.heap.size):Pst lo Y B tk gs w k ns bad tv nv gv:=
 ⟨h.box,h.low,h.toks,h.nds.other hx,h.asgs,h.ends,h.here,h.len,h.good,h.b64,hl⟩
theorem Pst.unV {lo B:Nat} {X:Nat->Prop} {tk:List Tok} {gs:List Asg} {w:World} {k:Nat} {ns:List Nd} {bad:Int} {tv nv gv v:Value} (h:Pst lo (XV X v) B tk gs w k ns bad tv nv gv):Pst lo X B tk gs w k ns bad tv nv gv:=
 h.reX (fun _ _ hn hx=>hn (.inl hx)) (fun b hb=>h.xlt b (.inl hb))
theorem Pst.addV {lo B:Nat} {X:Nat->Prop} {tk:List Tok} {gs:List Asg} {w w':World} {k:Nat} {ns:List Nd} {bad:Int} {tv nv gv v:Value} (h:Pst lo X B tk gs w k ns bad tv nv gv) (x:Ext w w') (hv:∀b,v.ownBlock=some b->w.heap.size<=b/\b<w'.heap.size):Pst lo (XV X v) B tk gs w' k ns bad tv nv gv:=
 ⟨h.box.ext x,h.low,OwnG.ext h.toks x,(h.nds.other (Y:=XV X v) (fun k hk hn hx=>hx.elim hn fun e=>by have:=(hv k e).1;omega)).ext x,OwnG.ext h.asgs x,h.ends,h.here,h.len,h.good,h.b64,fun b hb=>hb.elim (fun hb=>Nat.lt_of_lt_of_le (h.xlt b hb) x.size) (fun e=>(hv b e).2)⟩
theorem Pst.notBox {lo B:Nat} {X:Nat->Prop} {tk:List Tok} {gs:List Asg} {w:World} {k:Nat} {ns:List Nd} {bad:Int} {tv nv gv:Value} (h:Pst lo X B tk gs w k ns bad tv nv gv) {e:TypeId} (he:e≠334):∀c,w.heap[B]?≠some (.cells c e (0,0)):=fun c hc=>by
 have:=h.box;unfold Blk at this;rw [this] at hc;simp only [Option.some.injEq,Obj.cells.injEq] at hc;exact he hc.2.1.symm
theorem OwnG.grownI {α : Type} {cs : α->List Value} {lo sz:Nat} {e e':TypeId} {w w':World} {v:Value} {xs:List α} {row:Option Nat} (h:OwnG cs lo e sz w v xs) (hg:w.grownBy w' row) (he:e≠e') (hr:∀k,row=some k->∃c,w.heap[k]?=some (.cells c e' (0,0))):OwnG cs lo e sz w' v xs:=
 h.of fun b c _ hb=>(hg.block b (Array.getElem?_eq_some_iff.1 hb).1 fun e1=>by
  obtain ⟨c',hc'⟩:=hr b e1.symm;rw [hb] at hc';simp only [Option.some.injEq,Obj.cells.injEq] at hc'
  exact he hc'.2.1).trans hb
theorem Pst.grownV {lo l2 B:Nat} {X:Nat->Prop} {tk:List Tok} {gs:List Asg} {w w':World} {k:Nat} {ns:List Nd} {bad:Int} {tv nv gv v v':Value} {xs ys:List Int} (h:Pst lo (XV X v) B tk gs w k ns bad tv nv gv) (hu:OwnInts l2 w v xs) (hu':OwnInts l2 w' v' ys) (hg:w.grownBy w' v.ownBlock) (hat:v'.ownBlock=v.ownBlock\/v'.ownBlock=some w.heap.size):Pst lo (XV X v') B tk gs w' k ns bad tv nv gv:=by
 have hr:∀k,v.ownBlock=some k->∃c,w.heap[k]?=some (.cells c 3 (0,0)):=fun k hk=>hu.block hk;refine ⟨h.box.grown hg (fun e=>?_),h.low,OwnG.grownI h.toks hg (by decide) hr,?_,OwnG.grownI h.asgs hg (by decide) hr,h.ends,h.here,h.len,h.good,h.b64,fun b hb=>hb.elim (fun hb=>Nat.lt_of_lt_of_le (h.xlt b (.inl hb)) hg.size) (fun e=>(hu'.lt b e).2)⟩
 ·obtain ⟨c,hc⟩:=hr B e.symm
  exact h.notBox (by decide) c hc
 ·have h1:=h.nds.other (Y:=fun b=>XV X v b\/v'.ownBlock=some b) (fun k hk hn hx=>hx.elim hn fun e=>by
   rcases hat with ha|ha
   ·exact hn (.inr (ha.symm.trans e))
   ·rw [ha] at e
    cases e
    omega)
  exact (h1.grownI hg (fun k hk=>⟨.inl (.inr hk),hr k hk⟩)).other (fun k _ hn hx=>hn (hx.elim (fun h=>.inl (.inl h)) .inr))
def lenOf:Value->Nat
 | .slice _ n _=>n
 | _=>0
theorem sCall_of {lo B:Nat} {tk:List Tok} {gs:List Asg} {tv gv:Value} (m:Nat) (hE:PCE lo B tk gs tv gv m):PCC lo B tk gs tv gv m:=by
 intro X w k ns bad nv name d h hbad hk1 hm hd0 hd hname;have HP:=hid h;have HE:=hid hE;have zlo:=h.low;have hk:=h.here;have zB:=h.box.lt;obtain ⟨t,ht,_⟩:=h.ends.at h.here;have HT:=hid ht;clear hE ht;have x1:Ext w (w.alloc (.cells #[] 3)):=X_;have hu1:OwnInts w.heap.size (w.alloc (.cells #[] 3)) (.slice (some ⟨w.heap.size,0,none⟩) 0 0) []:=OwnInts.fresh0 (Nat.le_refl _) (Blk.new w 3 []);have hv1:∀b,(Value.slice (some ⟨w.heap.size,0,none⟩) 0 0).ownBlock=some b->w.heap.size<=b/\b<(w.alloc (.cells #[] 3)).heap.size:=fun b hb=>hu1.lt b hb;have HP1:=hid (h.addV x1 hv1);have HX1:=hid x1;have HU1:=hid hu1;clear x1 hu1 hv1 h;go_enter Tryz.func330,Tryz.ntmps330;go_wp2_with fail;refine (sPeek_any HP1.out HT.out).mono ?_;rintro e w2 ⟨rfl,x2⟩;have HX2:=hid (HX1.out.trans x2);have HU2:=hid (HU1.out.ext x2);have HP2:=hid (HP1.out.ext x2);have HK2:=hid (HX2.out.kn lo B 243);clear x2 HX1 HU1 HP1
 by_cases h41:((peekB t).toList==[41])=true
 ·go_wp2_with fail
  refine (sExpect_any HP2.out HT.out ⟨#[41]⟩ (by decide)).mono ?_;rintro e w4 ⟨b,q4,z4,rfl,P4,K4,hb1,hb2,-⟩;have HU4:=hid (KN.ints HU2.out K4 (HP2.out.notBox (by decide)) (by decide));have HK4:=hid (HK2.out.trans K4);have HP4:=hid P4;clear P4 K4
  cases b
  ·have:=hb2 rfl
   go_wp2;go_ret;exact ⟨0,q4,ns,z4,nv,rfl,by omega,HP4.out.unV,HK4.out,.inl this⟩
  ·obtain ⟨rfl,rfl⟩:=hb1 rfl
   go_wp2_with fail
   refine (sEmit_any HP4.out.unV (by omega) ⟨8,name,0,[]⟩ (.slice (some ⟨w.heap.size,0,none⟩) 0 0) (HU4.out.low (by omega)) (fun j hj hx=>by
    have:=(HU4.out.lt j hj).1;have:=HP.out.xlt j hx
    omega) (NdG.of ⟨by omega,by omega⟩ ⟨by omega,by omega⟩ hname (by simp))).mono ?_
   rintro e w5 ⟨r5,q5,ns5,z5,nv5,rfl,hr5,P5,K5,hz5,-⟩;have HP5:=hid P5;have HK5:=hid (HK4.out.trans K5);clear P5 K5;go_wp2;go_ret;exact ⟨r5,q5,ns5,z5,nv5,rfl,hr5,HP5.out,HK5.out,hz5.imp id (fun h=>⟨h.2.2.1,by omega⟩)⟩
 ·have e41:((peekB t).toList==[41])=false:=by simpa using h41
  clear h41;go_wp2_with fail
  go_loopw [7] (fun v wr=>∃(q:Nat) (xs:List Int) (ns':List Nd) (nv':Value),OwnInts w.heap.size wr v xs/\xs.length<=3/\Pst lo (XV X v) B tk gs wr q ns' bad tv nv' gv/\KN lo B 243 w wr/\k<=q) (fun v _=>3 - lenOf v)
  case atStart=>exact ⟨k,[],ns,nv,HU2.out,by simp,HP2.out,HK2.out,Nat.le_refl _⟩
  case round=>
   obtain ⟨q,xs,ns',nv',U,hxl,P,K,hkq⟩:=hrel;obtain ⟨va,vc,rfl,-⟩:=U.form;have HU3:=hid U;have HP3:=hid P;have HK3:=hid K;clear U P K HP2 HU2 HK2 HX2 e41 HT
   by_cases h3:xs.length=3
   ·go_wp2_with fail
    refine (sFail_any HP3.out).mono ?_;rintro e w4 ⟨z4,rfl,hz,P4,K4⟩;have HP4:=hid P4.unV;have HK4:=hid (HK3.out.trans K4);clear P4 K4;go_wp2;go_ret;exact ⟨0,q,ns',z4,nv',rfl,by omega,HP4.out,HK4.out,.inl hz⟩
   ·have h3' : ¬((xs.length:Nat):Int)=3:=by omega
    have hq:=HP3.out.here;go_wp2_with fail;refine (HE.out _ wr q ns' bad nv' d HP3.out hbad (by omega) (by omega) hd0 hd).mono ?_;rintro e w4 ⟨r,q4,ns4,z4,nv4,rfl,hr,P4,K4,hz4,-⟩;have HU4:=hid (KN.ints HU3.out K4 (HP3.out.notBox (by decide)) (by decide));have HK4:=hid (HK3.out.trans K4);have HP4:=hid P4;have c4:=P4.box.cell 4 rfl;clear P4 K4
    by_cases hz40:0<=z4
    ·go_wp2
     go_ret;exact ⟨0,q4,ns4,z4,nv4,rfl,by omega,HP4.out.unV,HK4.out,.inl hz40⟩
    ·obtain ⟨rfl,hq4⟩:=hz4.resolve_left hz40
     have y4:Ext w4 (w4.alloc (.cells #[(r:Nat)] 3)):=X_;have b4:=Blk.new w4 3 [(r:Nat)];have zw:=HK4.out.size;have HY:=hid y4;have HB:=hid b4;have HU5:=hid (HU4.out.ext y4);have HP5:=hid (HP4.out.ext y4);have HK5:=hid (HK4.out.ext y4);have zy:=y4.size;clear y4 b4;go_wp2_with (at_builtin;refine wpList_append1_at _ rfl _ _ rfl w.heap.size (.slice va xs.length vc) xs rfl HU5.out (r:Nat) ⟨by omega,by omega⟩ w4.heap.size rfl (HB.out.cell 0 rfl) (by omega) (by omega) ?_;intro v' w6 hown hg hat);have HU6:=hid hown;have HP6:=hid (HP5.out.grownV HU5.out hown hg hat);have HK6:=hid (HK5.out.grownNew hg (fun k hk=>(HU5.out.lt k hk).1));obtain ⟨va',vc',hv',-⟩:=hown.form
     have hll:(xs++[(r:Int)]).length=xs.length+1:=by simp
     rw [hll] at hv';subst hv';clear hown hg hat;obtain ⟨t6,ht6,_,_,_,_,_,hkl⟩:=HP6.out.ends.at HP6.out.here;have HT6:=hid ht6;clear ht6;refine (sPeek_any HP6.out HT6.out).mono ?_;rintro e w7 ⟨rfl,x7⟩;have HU7:=hid (HU6.out.ext x7);have HP7:=hid (HP6.out.ext x7);have HK7:=hid (HK6.out.ext x7);clear x7 HU6 HP6 HK6;have c1:=HP7.out.box.cell 1 rfl;have f1:=HP7.out.box.free 1;have k7:=HP7.out.k3000
     by_cases h44:((peekB t6).toList==[44])=true
     ·have hp:peekB t6=⟨#[44]⟩:=ByteArray.ext (Array.ext' (by rw [<-Lib.toList_data];exact beq_iff_eq.1 h44))
      have hk3:=(peekB_ne hp (by decide)).1;have hkk:=hkl (by omega);have HP8:=hid (HP7.out.step hkk)
      have HU8:=hid (HU7.out.setOther (a:=⟨B,1,none⟩) (fun e=>by
       obtain ⟨c,hc⟩:=HU7.out.block e
       exact HP7.out.notBox (by decide) c hc) (.int .i64 ((q4:Int)+1)))
      have HK8:=hid (HK7.out.set zlo 1 (.int .i64 ((q4:Int)+1)));clear hp hkl;go_wp2;go_roundw
      case rel=>exact ⟨q4+1,xs++[(r:Int)],ns4,nv4,HU8.out,by omega,HP8.out,HK8.out,by omega⟩
      case measure=>simp only [lenOf];omega
     ·have e44:((peekB t6).toList==[44])=false:=by simpa using h44
      clear h44 hkl;go_wp2_with fail;refine (sExpect_any HP7.out HT6.out ⟨#[41]⟩ (by decide)).mono ?_;rintro e w8 ⟨b,q8,z8,rfl,P8,K8,hb1,hb2,-⟩;have HU8:=hid (KN.ints HU7.out K8 (HP7.out.notBox (by decide)) (by decide));have HK8:=hid (HK7.out.trans K8);have HP8:=hid P8;clear P8 K8 c1 f1
      cases b
      ·have:=hb2 rfl
       go_wp2;go_ret;exact ⟨0,q8,ns4,z8,nv4,rfl,by omega,HP8.out.unV,HK8.out,.inl this⟩
      ·obtain ⟨rfl,rfl⟩:=hb1 rfl
       go_wp2_with fail
       refine (sEmit_any HP8.out.unV (by omega) ⟨8,name,0,xs++[(r:Int)]⟩ (.slice va' (xs.length+1) vc') (HU8.out.low (by omega)) (fun j hj hx=>by
        have:=(HU8.out.lt j hj).1;have:=HP.out.xlt j hx
        omega) (NdG.of ⟨by omega,by omega⟩ ⟨by omega,by omega⟩ hname (by omega))).mono ?_
       rintro e w9 ⟨r9,q9,ns9,z9,nv9,rfl,hr9,P9,K9,hz9,-⟩;have HP9:=hid P9;have HK9:=hid (HK8.out.trans K9);clear P9 K9;go_wp2;go_ret;exact ⟨r9,q9,ns9,z9,nv9,rfl,hr9,HP9.out,HK9.out,hz9.imp id (fun h=>⟨h.2.2.1,by omega⟩)⟩
theorem PCF.le {lo B:Nat} {tk:List Tok} {gs:List Asg} {tv gv:Value} {m n:Nat} (h:PCF lo B tk gs tv gv m) (hn:n<=m):PCF lo B tk gs tv gv n:=fun X w k ns bad nv d hp hb hk hm=>h X w k ns bad nv d hp hb hk (by omega)
theorem sParts_all {lo B:Nat} {tk:List Tok} {gs:List Asg} {tv gv:Value}:∀m,PCF lo B tk gs tv gv m/\PCE lo B tk gs tv gv m
 | 0=>by
  have hF:PCF lo B tk gs tv gv 0:=fun X w k ns bad nv d hp hb hk hm=>by
   have:=hp.here;omega
  exact ⟨hF,sExpression_of 0 (sBinary_of 0 true (sOperandT_of 0 (sBinary_of 0 false (sOperandF_of 0 hF))))⟩
 | m+1=>by
  obtain ⟨hF,hE⟩:=sParts_all (lo:=lo) (B:=B) (tk:=tk) (gs:=gs) (tv:=tv) (gv:=gv) m;have hF1:=sFactor_of m hF hE (sCall_of m hE);exact ⟨hF1,sExpression_of _ (sBinary_of _ true (sOperandT_of _ (sBinary_of _ false (sOperandF_of _ hF1))))⟩
theorem sExpression_any {lo B:Nat} {X:Nat->Prop} {tk:List Tok} {gs:List Asg} {w:World} {k:Nat} {ns:List Nd} {bad:Int} {tv nv gv:Value} (h:Pst lo X B tk gs w k ns bad tv nv gv) (hb:bad<0) (hk:1<=k) (d:Int) (hd0:0<=d) (hd:d<=65) :
  Calls Tryz.prog 259 #[.pointer (some ⟨B,0,none⟩),d] w (PRes lo X B tk gs tv gv 1 w k ns bad d):=
 (sParts_all (tk.length - k)).2 X w k ns bad nv d h hb hk (Nat.le_refl _) hd0 hd
theorem OwnNds.nds {lo l2:Nat} {X:Nat->Prop} {w:World} {v:Value} {xs:List Nd} (h:OwnNds lo X w v xs) (hl:l2<=lo) (hg:∀x∈xs,NdG x):Nds l2 w.heap.size w v xs:=by
 obtain ⟨a,c,rfl,_⟩:=h.form;obtain ⟨ps,rfl,h1,h2⟩:=h
 have hc:(List.map (·.1) ps).length<=c/\c<=maxLen:=by
  rcases h1.2 with ⟨e,h4⟩|⟨g,cap,cur,e,hb,hh,hc,hm,_⟩
  ·simp only [Value.slice.injEq] at e
   obtain ⟨rfl,e2,rfl⟩:=e;exact ⟨by omega,by unfold maxLen;omega⟩
  ·simp only [Value.slice.injEq] at e
   obtain ⟨rfl,e2,rfl⟩:=e;exact ⟨by omega,hm⟩
 refine ⟨a,c,rfl,hc.1,hc.2,fun i x hx=>?_⟩
 obtain ⟨p,hp,rfl⟩:=List.getElem?_map ..▸hx |> fun h=>by
  rw [Option.map_eq_some_iff] at h;exact h
 obtain ⟨g,cap,e,g1,g2,_,_,_,hcell⟩:=h1.at (fun _=>rfl) hp;simp only [Value.slice.injEq] at e;obtain ⟨rfl,_,rfl⟩:=e;have hm:=List.mem_of_getElem? hp;have G:=hg p.1 (List.mem_map.2 ⟨p,hm,rfl⟩);have c0:=hcell 0 (by decide);have c1:=hcell 1 (by decide);have c2:=hcell 2 (by decide);have c3:=hcell 3 (by decide);simp only [ndCs,Nat.add_zero,List.getElem?_cons_zero,List.getElem?_cons_succ] at c0 c1 c2 c3;exact ⟨⟨G.1,G.2.1⟩,g,0,p.2,rfl,by omega,g2,by rw [Nat.zero_add];exact c0,by rw [Nat.zero_add];exact c1,by rw [Nat.zero_add];exact c2,by rw [Nat.zero_add];exact c3,((h2 p hm).1.low hl).ints⟩
theorem OwnAsgs.asgs {lo l2:Nat} {w:World} {v:Value} {xs:List Asg} (h:OwnAsgs lo w v xs) (hl:l2<=lo) (hg:∀x∈xs,I64 x.root):Asgs l2 w.heap.size w v xs:=by
 obtain ⟨a,c,rfl,_⟩:=OwnG.form h
 have hc:xs.length<=c/\c<=maxLen:=by
  rcases h.2 with ⟨e,h4⟩|⟨g,cap,cur,e,hb,hh,hc,hm,_⟩
  ·simp only [Value.slice.injEq] at e
   obtain ⟨rfl,e2,rfl⟩:=e;exact ⟨by omega,by unfold maxLen;omega⟩
  ·simp only [Value.slice.injEq] at e
   obtain ⟨rfl,e2,rfl⟩:=e;exact ⟨hc,hm⟩
 refine ⟨a,c,rfl,hc.1,hc.2,fun i x hx=>?_⟩;obtain ⟨g,cap,e,g1,g2,_,_,_,hcell⟩:=OwnG.at h (fun _=>rfl) hx;simp only [Value.slice.injEq] at e;obtain ⟨rfl,_,rfl⟩:=e;have c0:=hcell 0 (by decide);have c1:=hcell 1 (by decide);simp only [Asg.cs,Nat.add_zero,List.getElem?_cons_zero,List.getElem?_cons_succ] at c0 c1;exact ⟨hg x (List.mem_of_getElem? hx),g,0,rfl,by omega,g2,by rw [Nat.zero_add];exact c0,by rw [Nat.zero_add];exact c1⟩
def AsgG (x:Asg):Prop:=I64 x.root/\x.name.size<=2000
theorem Pst.prog {lo l2 B:Nat} {X:Nat->Prop} {tk:List Tok} {gs:List Asg} {w:World} {k:Nat} {ns:List Nd} {bad:Int} {tv nv gv:Value} (h:Pst lo X B tk gs w k ns bad tv nv gv) (hl:l2<=lo) (hg:∀x∈gs,AsgG x):(⟨ns,gs⟩:Prg).R l2 w.heap.size w (.agg #[nv,gv]):=
 ⟨nv,gv,rfl,h.nds.nds hl h.good,OwnAsgs.asgs h.asgs hl fun x hx=>(hg x hx).1⟩
theorem Pst.bd {lo B:Nat} {X:Nat->Prop} {tk:List Tok} {gs:List Asg} {w:World} {k:Nat} {ns:List Nd} {bad:Int} {tv nv gv:Value} (h:Pst lo X B tk gs w k ns bad tv nv gv) (hg:∀x∈gs,AsgG x):(⟨ns,gs⟩:Prg).bd:=
 ⟨fun x hx=>by have:=(h.good x hx).2.2.1;unfold maxLen;omega,fun x hx=>by have:=(hg x hx).2;unfold maxLen;omega⟩
theorem Pst.small {lo B:Nat} {X:Nat->Prop} {tk:List Tok} {gs:List Asg} {w:World} {k:Nat} {ns:List Nd} {bad:Int} {tv nv gv:Value} (h:Pst lo X B tk gs w k ns bad tv nv gv) (hg:gs.length<=4000):(⟨ns,gs⟩:Prg).small:=
 ⟨⟨by have:=h.len;show ns.length<=_;omega,fun x hx=>by have:=(h.good x hx).2.2.2;omega⟩,by show gs.length<=_;omega⟩
theorem Prg.rNone (lo hi:Nat) (w:World):(⟨[],[]⟩:Prg).R lo hi w (.agg #[.slice Option.none 0 0,.slice Option.none 0 0]):=
 ⟨.slice Option.none 0 0,.slice Option.none 0 0,rfl,⟨Option.none,0,rfl,Nat.le_refl _,Nat.zero_le _,(fun i x h=>by simp at h)⟩,⟨Option.none,0,rfl,Nat.le_refl _,Nat.zero_le _,(fun i x h=>by simp at h)⟩⟩
theorem Prg.bd_none:(⟨[],[]⟩:Prg).bd:=⟨(fun _ h=>nomatch h),(fun _ h=>nomatch h)⟩
theorem Prg.small_none:(⟨[],[]⟩:Prg).small:=⟨⟨Nat.zero_le _,(fun _ h=>nomatch h)⟩,Nat.zero_le _⟩
def cuN:Nd:=⟨2,⟨#[117]⟩,0,[]⟩
def cuA:Asg:=⟨⟨#[99,111,108,111,114]⟩,0⟩
def cuP:Prg:=⟨[cuN],[cuA]⟩
def cuK:List Tok:=cuT++[⟨0,⟨#[]⟩,0,10⟩]
def CuP (q:Nat) (ns:List Nd) (gs:List Asg):Prop:=(q=0/\ns=[]/\gs=[])\/(q=4/\ns=[cuN]/\gs=[cuA])
theorem CuP.name {q:Nat} {ns:List Nd} {gs:List Asg} (h:CuP q ns gs) {t:Tok} (ht:cuK[q]?=some t) (hk:t.kind≠0):q=0/\ns=[]/\gs=[]/\t.kind=2/\t.text=cuA.name:=by
 rcases h with ⟨rfl,h1,h2⟩|⟨rfl,h1,h2⟩
 ·have e:t=⟨2,⟨#[99,111,108,111,114]⟩,0,0⟩:=by
   have:cuK[0]?=some ⟨2,⟨#[99,111,108,111,114]⟩,0,0⟩:=rfl;rw [this] at ht;exact (Option.some.inj ht).symm
  subst e;exact ⟨rfl,h1,h2,rfl,rfl⟩
 ·have e:t=⟨0,⟨#[]⟩,0,10⟩:=by
   have:cuK[4]?=some ⟨0,⟨#[]⟩,0,10⟩:=rfl;rw [this] at ht;exact (Option.some.inj ht).symm
  subst e;exact absurd rfl hk
theorem CuP.done {q:Nat} {ns:List Nd} {gs:List Asg} (h:CuP q ns gs) {t:Tok} (ht:cuK[q]?=some t) (hk:t.kind=0):(⟨ns,gs⟩:Prg)=cuP:=by
 rcases h with ⟨rfl,h1,h2⟩|⟨rfl,h1,h2⟩
 ·have e:t=⟨2,⟨#[99,111,108,111,114]⟩,0,0⟩:=by
   have:cuK[0]?=some ⟨2,⟨#[99,111,108,111,114]⟩,0,0⟩:=rfl;rw [this] at ht;exact (Option.some.inj ht).symm
  subst e;exact absurd hk (by decide)
 ·subst h1 h2
  rfl
theorem cu_eq {t:Tok} (ht:cuK[1]?=some t):peekB t=⟨#[61]⟩:=by
 have:cuK[1]?=some ⟨3,⟨#[61]⟩,0,6⟩:=rfl;rw [this] at ht
 cases ht
 rfl
theorem cu_semi {t:Tok} (ht:cuK[3]?=some t):peekB t=⟨#[59]⟩:=by
 have:cuK[3]?=some ⟨3,⟨#[59]⟩,0,9⟩:=rfl;rw [this] at ht
 cases ht
 rfl
theorem cu_lone:LoneT cuK 2 [] 1 ⟨#[117]⟩:=⟨⟨2,⟨#[117]⟩,0,8⟩,⟨3,⟨#[59]⟩,0,9⟩,rfl,rfl,rfl,rfl,rfl,by decide,by decide⟩
def ParseR (s:ByteArray) (w:World) (e:Ending) (w':World):Prop:=∃(p:Prg) (v:Value) (n:Int),e = .returned (.tuple #[v,n])/\p.R w.heap.size w'.heap.size w' v/\p.bd/\p.small/\Ext w w'/\(s=cuS->p=cuP)
def CBk (b:Nat):Addr->Prop:=fun a=>a.block=b
@[go_sem] theorem CBk_1 (b o:Nat):CBk b ⟨b,o,none⟩:=rfl
theorem Ints.low {lo l2 hi:Nat} {w:World} {v:Value} {xs:List Int} (h:Ints lo hi w v xs) (hl:l2<=lo):Ints l2 hi w v xs:=by
 obtain ⟨a,cap,h1,h2,h3,h4⟩:=h;refine ⟨a,cap,h1,h2,h3,fun i x hx=>?_⟩;obtain ⟨g1,b,off,g2,g3,g4⟩:=h4 i x hx;exact ⟨g1,b,off,g2,by omega,g4⟩
theorem Prg.R.low {p:Prg} {lo l2 hi h2:Nat} {w:World} {v:Value} (h:p.R lo hi w v) (hl:l2<=lo) (hh:hi<=h2):p.R l2 h2 w v:=by
 obtain ⟨nu,au,rfl,⟨a,c,e1,e2,e3,e4⟩,⟨a',c',f1,f2,f3,f4⟩⟩:=h;refine ⟨nu,au,rfl,⟨a,c,e1,e2,e3,fun i x hx=>?_⟩,⟨a',c',f1,f2,f3,fun i x hx=>?_⟩⟩
 ·obtain ⟨g1,b,off,u,g2,g3,g4,g5,g6,g7,g8,g9⟩:=e4 i x hx
  obtain ⟨ia,ic,i1,i2,i3,i4⟩:=g9
  exact ⟨g1,b,off,u,g2,by omega,by omega,g5,g6,g7,g8,ia,ic,i1,i2,i3,fun j y hy=>by
   obtain ⟨j1,jb,jo,j2,j3,j4,j5⟩:=i4 j y hy
   exact ⟨j1,jb,jo,j2,by omega,by omega,j5⟩⟩
 ·obtain ⟨g1,b,off,g2,g3,g4,g5,g6⟩:=f4 i x hx
  exact ⟨g1,b,off,g2,by omega,by omega,g5,g6⟩
theorem Same.trans {lo hi:Nat} {a b c:World} (h:Same lo hi a b) (k:Same lo hi b c):Same lo hi a c:=fun i h1 h2=>(k i h1 h2).trans (h i h1 h2)
theorem OwnG.row {α : Type} {cs : α->List Value} {lo:Nat} {e:TypeId} {sz:Nat} {w:World} {v:Value} {xs:List α} (h:OwnG cs lo e sz w v xs):∀k,v.ownBlock=some k->lo<=k/\∃c,w.heap[k]?=some (.cells c e (0,0)):=by
 intro k hk
 rcases h.2 with ⟨rfl,h4⟩|⟨g,cap,cur,rfl,hb,hg,_⟩
 ·cases hk
 ·simp only [Value.ownBlock,Option.some.injEq] at hk
  subst hk;exact ⟨hb,cur,hg⟩
theorem OwnNds.grownO {lo:Nat} {X:Nat->Prop} {w w':World} {v:Value} {xs:List Nd} {row:Option Nat} {e:TypeId} (h:OwnNds lo X w v xs) (hg:w.grownBy w' row) (h1:243≠e) (h2:3≠e) (hr:∀k,row=some k->∃c,w.heap[k]?=some (.cells c e (0,0))):OwnNds lo X w' v xs:=by
 obtain ⟨ps,h0,h3,h4⟩:=h;refine ⟨ps,h0,OwnG.grownI h3 hg h1 hr,fun p hp=>⟨(h4 p hp).1.grown hg fun k hk e=>?_,(h4 p hp).2⟩⟩;obtain ⟨c,hc⟩:=(h4 p hp).1.block hk;obtain ⟨c',hc'⟩:=hr k e.symm;rw [hc] at hc';simp only [Option.some.injEq,Obj.cells.injEq] at hc';exact h2 hc'.2.1
theorem Pst.setGs {lo B:Nat} {X:Nat->Prop} {tk:List Tok} {gs gs':List Asg} {w w':World} {k:Nat} {ns:List Nd} {bad:Int} {tv nv gv gv':Value} (h:Pst lo X B tk gs w k ns bad tv nv gv) (hg:w.grownBy w' gv.ownBlock) (hn:OwnAsgs lo w' gv' gs'):Pst lo X B tk gs' (w'.setCell ⟨B,3,none⟩ gv') k ns bad tv nv gv':=by
 have hr:=fun k hk=>(OwnG.row h.asgs k hk).2
 have hb:=h.box.grown hg (fun e=>by
  obtain ⟨c,hc⟩:=hr B e.symm
  exact h.notBox (by decide) c hc)
 exact ⟨hb.set 3 _,h.low,OwnG.set (OwnG.grownI h.toks hg (by decide) hr) hb (by decide) 3 _,OwnNds.set (h.nds.grownO hg (by decide) (by decide) hr) hb (by decide) (by decide) 3 _,OwnG.set hn hb (by decide) 3 _,h.ends,h.here,h.len,h.good,h.b64,fun b hb=>by rw [World.size_setCell];exact Nat.lt_of_lt_of_le (h.xlt b hb) hg.size⟩
theorem sParse_any (s:ByteArray) (w:World) (hs:s.size<=maxLen):Calls Tryz.prog 202 #[.string s] w (ParseR s w):=by
 have hB:=Blk.new w 132 [.slice none 0 0,.slice none 0 0];have x1:Ext w (w.alloc (.cells #[.slice none 0 0,.slice none 0 0] 132)):=X_
 have hA:w.heap.size<(w.alloc (.cells #[.slice none 0 0,.slice none 0 0] 132)).heap.size:=by rw [World.size_alloc];omega
 have rA:=hid hB;have HX1:=hid x1;have z1:(w.alloc (.cells #[.slice none 0 0,.slice none 0 0] 132)).heap.size=w.heap.size+1:=World.size_alloc _ _;clear hB x1;go_enter Tryz.func202,Tryz.ntmps202;go_wp2_with fail;refine (sTokenize_any s _ hs).mono ?_;rintro e w2 ⟨tv,n,rfl,x2,hcu,hn⟩;have HX2:=hid x2;have HCU:=hid hcu;have HN:=hid hn;have b2:=(x2.block hA).trans rA.out;have q0:=Blk.cell (show Blk w2 w.heap.size 132 [.slice none 0 0,.slice none 0 0] from b2) 0 rfl;have q1:=Blk.cell (show Blk w2 w.heap.size 132 [.slice none 0 0,.slice none 0 0] from b2) 1 rfl;have q0f:=Blk.free (show Blk w2 w.heap.size 132 [.slice none 0 0,.slice none 0 0] from b2) 0;have q1f:=Blk.free (show Blk w2 w.heap.size 132 [.slice none 0 0,.slice none 0 0] from b2) 1;have zw2:=x2.size;clear x2 hcu hn b2
 by_cases hn0:0<=n
 ·have EW:Ext w w2:=HX1.out.trans HX2.out
  go_wp2;refine bodyPost_ret (v:=.tuple #[.agg #[.slice none 0 0,.slice none 0 0],n]) (by simp [results,Tryz.results202,go_sem, *]) rfl ?_;exact ⟨⟨[],[]⟩,_,n,rfl,Prg.rNone _ _ _,Prg.bd_none,Prg.small_none,S_,fun e=>by have:=HCU.out e;omega⟩
 ·obtain ⟨hn1,tk,OT,HTK,hcut⟩:=HN.out.resolve_left hn0
  subst hn1
  have hlen0:0<tk.length:=by
   obtain ⟨ts,n,rfl,_⟩:=HTK;simp
  obtain ⟨g,cap,rfl,g1,g2,g3,g4,_,_⟩:=OwnG.at OT (fun _=>rfl) (List.getElem?_eq_getElem hlen0);have y2:Ext w2 (w2.alloc (.cells #[.slice (some ⟨g,0,none⟩) tk.length cap,(),.slice none 0 0,.slice none 0 0,.int .i64 (-1)] 334)):=X_
  have P0:Pst (w.alloc (.cells #[.slice none 0 0,.slice none 0 0] 132)).heap.size (fun _=>False) w2.heap.size tk [] (w2.alloc (.cells #[.slice (some ⟨g,0,none⟩) tk.length cap,(),.slice none 0 0,.slice none 0 0,.int .i64 (-1)] 334)) 0 [] (-1) (.slice (some ⟨g,0,none⟩) tk.length cap) (.slice none 0 0) (.slice none 0 0):=
   ⟨Blk.new w2 334 [.slice (some ⟨g,0,none⟩) tk.length cap,(),.slice none 0 0,.slice none 0 0,.int .i64 (-1)],zw2,OwnG.ext OT y2,OwnNds.nil _ _ _,OwnG.nil _ _ _ _ _,HTK,hlen0,by simp,(fun _ h=>nomatch h),⟨by decide,by decide⟩,(fun _ h=>h.elim)⟩
  have HP0:=hid P0;have HX3:=hid (HX2.out.trans y2);have HCUT:=hid hcut;clear P0 y2 hcut HCU HN OT q0 q1 q0f q1f;go_wp2_with fail
  go_loopw [8] (fun _ wr=>∃(q:Nat) (ns:List Nd) (gs:List Asg) (nv gv:Value),Pst (w.alloc (.cells #[.slice none 0 0,.slice none 0 0] 132)).heap.size (fun _=>False) w2.heap.size tk gs wr q ns (-1) (.slice (some ⟨g,0,none⟩) tk.length cap) nv gv/\Ext (w.alloc (.cells #[.slice none 0 0,.slice none 0 0] 132)) wr/\(∀x∈gs,AsgG x)/\gs.length<=q/\(s=cuS->CuP q ns gs)) (fun _ wr=>msr w2.heap.size tk.length wr)
  case atStart=>exact ⟨0,[],[],_,_,HP0.out,HX3.out,(fun _ h=>nomatch h),Nat.le_refl _,fun _=>.inl ⟨rfl,rfl,rfl⟩⟩
  case round=>
   obtain ⟨q,ns,gs,nv,gv,P,EX,hgs',hgl,hcp⟩:=hrel;have kb:=P.k3000;obtain ⟨t,ht,tk64,tts,tn64,o1,o2,hkl⟩:=P.ends.at P.here;obtain ⟨g',cap',etv,g1',g2',_,_,_,hc⟩:=OwnG.at P.toks (fun _=>rfl) ht;simp only [Value.slice.injEq,Option.some.injEq,Addr.mk.injEq] at etv;obtain ⟨⟨rfl,_⟩,_,rfl⟩:=etv;have hk:=P.here;obtain ⟨c0,c1⟩:=P.box.q2;have c4:=P.box.cell 4 rfl;have zb:=P.box.lt;have d0:=hc 0 (by decide);have d1:=hc 1 (by decide);have d2:=hc 2 (by decide);have d3:=hc 3 (by decide);simp only [Tok.cs,Nat.add_zero,List.getElem?_cons_zero,List.getElem?_cons_succ] at d0 d1 d2 d3;have HP:=hid P;have HE:=hid EX;have hgs:=hid hgs';have HT:=hid ht;have HKL:=hid hkl;have HC:=hid hcp
   have hcuT:s=cuS->cuK[q]?=some t:=fun e=>by rw [<-ht,HCUT.out e];rfl
   have HCT:=hid hcuT
   have gne:g≠wr.heap.size:=by omega
   have bne:w2.heap.size≠wr.heap.size:=by omega
   clear P EX hgs' ht hkl hcp hc hcuT HP0 HX3
   by_cases hk0:t.kind=0
   ·have hdone:s=cuS->(⟨ns,gs⟩:Prg)=cuP:=fun e=>(HC.out e).done (HCT.out e) hk0
    go_wp2_with fail;refine wp_region_stagesS [([0,1,2,3,4,5,6,7,8,9,10,11,12,13,14,15,16,17],18)] 99 (fun w'=>∃d,w'=lowx (wr.heap.size) (wr.heap.size) _ d) (by kernel_rfl) (by kernel_rfl) ⟨_,lowx_of (fun _ _ _=>rfl)⟩ ?_;refine sc_ fun K hK=>?_;go_wp2_with fail;go_wp2_with fail;refine hK _ _ (.inr ⟨_,lowx_of (fun b hb _=>Ext.block (show Ext wr _ from X_) hb)⟩) ?_;clear hK K;refine wpStagesS_nil ?_;clear c0 c1 c4 d0 d1 d2 d3;have c0:=HP.out.box.cell 0 rfl;have c2:=HP.out.box.cell 2 rfl;have c3:=HP.out.box.cell 3 rfl;have c4:=HP.out.box.cell 4 rfl;have zB:=HP.out.box.lt;have hlo:=HP.out.low;have r0:=(HE.out.block hA).trans rA.out;have q0:=Blk.cell (show Blk wr w.heap.size 132 [.slice none 0 0,.slice none 0 0] from r0) 0 rfl;have q0f:=Blk.free (show Blk wr w.heap.size 132 [.slice none 0 0,.slice none 0 0] from r0) 0;have q1:=Blk.cell (show Blk wr w.heap.size 132 [.slice none 0 0,.slice none 0 0] from r0) 1 rfl;have q1f:=Blk.free (show Blk wr w.heap.size 132 [.slice none 0 0,.slice none 0 0] from r0) 1;have EW:Ext w wr:=HX1.out.trans HE.out;have R0:=hid (HP.out.prog (Nat.le_refl _) hgs.out);have G1:=hid (HP.out.bd hgs.out);have G2:=hid (HP.out.small (by omega));obtain ⟨na,nc,rfl,-⟩:=HP.out.nds.form;obtain ⟨ga,gc,rfl,-⟩:=OwnG.form HP.out.asgs;clear r0;go_wp2;refine bodyPost_ret (v:=.tuple #[.agg #[.slice na ns.length nc,.slice ga gs.length gc],.int .i64 (-1)]) (by simp [results,Tryz.results202,go_sem, *]) rfl ?_;refine ⟨⟨ns,gs⟩,_,-1,rfl,?_,G1.out,G2.out,S_,hdone⟩;have R1:=R0.out.same ((Same.setLow _ (p:=⟨w.heap.size,0,none⟩) (by simp only;omega) (.slice na ns.length nc)).trans (Same.setLow _ (p:=⟨w.heap.size,1,none⟩) (by simp only;omega) (.slice ga gs.length gc)));exact R1.low (by omega) (by simp)
   ·have hkk:=HKL.out hk0
    go_wp2_with fail;refine wp_region_stagesS [([0,1,2,3,4,5,6,7,8,9,10,11,12,13,14,15,16,17],18)] 99 (fun w'=>∃d,w'=lowx (wr.heap.size) (wr.heap.size) _ d) (by kernel_rfl) (by kernel_rfl) ⟨_,lowx_of (fun _ _ _=>rfl)⟩ ?_;refine sc_ fun K hK=>?_;go_wp2_with fail;go_wp2_with fail;refine hK _ _ (.inr ⟨_,lowx_of (fun b hb _=>Ext.block (show Ext wr _ from X_) hb)⟩) ?_;clear hK K;refine wpStagesS_nil ?_;go_wp2_with fail;have zB6:=HP.out.box.lt;refine wp_region_stagesS [([0,1,2,3,4,5,6,7,8,9],10),([],11)] 99 (fun w'=>∃d,w'=lowx (wr.heap.size) (wr.heap.size) _ d) (by kernel_rfl) (by kernel_rfl) ⟨_,lowx_of (fun _ _ _=>rfl)⟩ ?_;refine sc_ fun K hK=>?_;go_wp2_with fail;go_wp2_with fail;refine hK _ _ (.inr ⟨_,lowx_of (fun b hb _=>Ext.block (show Ext wr _ from X_) hb)⟩) ?_;clear hK K;refine sc_ fun K hK=>?_;go_wp2_with fail;go_wp2_with fail;refine hK _ _ (.inr ⟨_,lowx_of (fun b hb _=>Ext.block (show Ext wr _ from S_) hb)⟩) ?_;clear hK K;refine wpStagesS_nil ?_;have y1:Ext wr ((wr.drew.alloc (.cells #[t.kind,.string t.text,t.num,t.off] 336)).drew):=S_;have T1:Blk ((wr.drew.alloc (.cells #[t.kind,.string t.text,t.num,t.off] 336)).drew) wr.heap.size 336 [t.kind,.string t.text,t.num,t.off]:=(Blk.new wr.drew 336 [t.kind,.string t.text,t.num,t.off]).ext (show Ext (wr.drew.alloc (.cells #[t.kind,.string t.text,t.num,t.off] 336)) _ from S_);have HY1:=hid y1;have HP1:=hid (HP.out.ext y1);have HE1:=hid (Ext.trans HE.out y1);have HT1:=hid T1;clear y1 T1 c0 c1 c4 d0 d1 d2 d3
    by_cases hk2:t.kind=2
    ·have c1:=HP.out.box.cell 1 rfl
     have f1:=HP.out.box.free 1;have e3:Ext (wr.setCell ⟨w2.heap.size,1,none⟩ (.int .i64 ((q:Int)+1))) (((wr.setCell ⟨w2.heap.size,1,none⟩ (.int .i64 ((q:Int)+1))).alloc (.cells #[.int .i64 2,.string t.text,t.num,t.off] 336)).drew.drew):=X_;have b3:=(Blk.new (wr.setCell ⟨w2.heap.size,1,none⟩ (.int .i64 ((q:Int)+1))) 336 [.int .i64 2,.string t.text,t.num,t.off]).ext (show Ext ((wr.setCell ⟨w2.heap.size,1,none⟩ (.int .i64 ((q:Int)+1))).alloc (.cells #[.int .i64 2,.string t.text,t.num,t.off] 336)) (((wr.setCell ⟨w2.heap.size,1,none⟩ (.int .i64 ((q:Int)+1))).alloc (.cells #[.int .i64 2,.string t.text,t.num,t.off] 336)).drew.drew) from X_);rw [World.size_setCell] at b3;have HP3:=hid ((HP.out.step hkk).ext e3);have HE3:=hid ((Ext.setCell HE.out (p:=⟨w2.heap.size,1,none⟩) HP.out.low (.int .i64 ((q:Int)+1))).trans e3);have HT3:=hid b3;have zB0:=HP.out.box.lt;obtain ⟨t3,ht3,_,_,_,_,_,hkl3⟩:=HP3.out.ends.at HP3.out.here;have HTk3:=hid ht3;clear e3 b3 ht3 HT1 HP1 HE1 HY1;go_wp2_with fail;refine (sExpect_any HP3.out HTk3.out ⟨#[61]⟩ (by decide)).mono ?_;rintro e w5 ⟨b5,q5,z5,rfl,P5,K5,hb1,hb2,hb3⟩;have HP5:=hid P5;have HE5:=hid (K5.up HE3.out (Nat.le_refl _));have HT5:=hid (K5.blk HT3.out (by omega) (by decide));have hB3:=hid hb3;clear P5 K5 hb3 c1 f1 HP3 HE3 HT3
     cases b5
     ·have hz5:=hb2 rfl
      have hno:s=cuS->False:=fun e=>by
       obtain ⟨e1,_⟩:=(HC.out e).name (HCT.out e) hk0;have:=HTk3.out;rw [e1,HCUT.out e] at this;exact absurd (hB3.out (cu_eq this)) (by decide)
      clear hb1 hb2;have c0:=HP5.out.box.cell 0 rfl;have c4:=HP5.out.box.cell 4 rfl;have zB:=HP5.out.box.lt;have hlo:=HP5.out.low;have r0:=(HE5.out.block hA).trans rA.out;have q0:=Blk.cell (show Blk w5 w.heap.size 132 [.slice none 0 0,.slice none 0 0] from r0) 0 rfl;have q0f:=Blk.free (show Blk w5 w.heap.size 132 [.slice none 0 0,.slice none 0 0] from r0) 0;have q1:=Blk.cell (show Blk w5 w.heap.size 132 [.slice none 0 0,.slice none 0 0] from r0) 1 rfl;have q1f:=Blk.free (show Blk w5 w.heap.size 132 [.slice none 0 0,.slice none 0 0] from r0) 1;have EW:Ext w w5:=HX1.out.trans HE5.out;clear r0;go_wp2_with fail;refine wp_region_stagesS [([0,1,2,3,4],5),([],6)] 6 (fun w'=>∃d,w'=lowc (CBk w2.heap.size) _ d) (by kernel_rfl) (by kernel_rfl) (SC.drew _ _) ?_;refine sc_ fun K hK=>?_;go_wp2_with fail;refine hK _ _ (.inr (SC.blocks fun a ha=>?_)) ?_
      ·unfold CBk at ha
       exact (Below.heap_setCell _ _ _ _ (by rw [ha];simp only;omega)).trans (Below.heap_setCell _ _ _ _ (by rw [ha];simp only;omega))
      clear hK K;refine sc_ fun K hK=>?_;go_wp2_with fail;refine hK _ _ (.inl trivial) ?_;clear hK K;refine wpStagesS_nil ?_;go_wp2;refine bodyPost_ret (v:=.tuple #[.agg #[.slice none 0 0,.slice none 0 0],z5]) (by simp [results,Tryz.results202,go_sem, *]) rfl ?_;exact ⟨⟨[],[]⟩,_,z5,rfl,Prg.rNone _ _ _,Prg.bd_none,Prg.small_none,S_,fun e=>(hno e).elim⟩
     ·obtain ⟨rfl,rfl⟩:=hb1 rfl
      clear hb1 hb2 hB3;go_wp2_with fail;refine (sExpression_any HP5.out (by decide) (by omega) 1 (by omega) (by omega)).mono ?_;rintro e w6 ⟨r,q6,ns6,z6,nv6,rfl,hr,P6,K6,hz6,hx6⟩;have HP6:=hid P6;have HE6:=hid (K6.up HE5.out (Nat.le_refl _));have HT6:=hid (K6.blk HT5.out (by omega) (by decide));have HX6:=hid hx6;have c4:=P6.box.cell 4 rfl;have k6:=P6.k3000
      have hcu6:s=cuS->z6 = -1/\q6=3/\ns6=[cuN]/\r=0/\gs=[]:=fun e=>by
       obtain ⟨e1,e2,e3,_⟩:=(HC.out e).name (HCT.out e) hk0;obtain ⟨i1,i2,i3,i4⟩:=HX6.out ⟨#[117]⟩ (by rw [HCUT.out e,e1,e2];exact cu_lone);exact ⟨i1,by omega,by rw [i3,e2];rfl,by rw [i4,e2];rfl,e3⟩
      have HCU6:=hid hcu6;clear P6 K6 hx6 hcu6 HP5 HE5 HT5
      by_cases hz60:0<=z6
      ·have hno:s=cuS->False:=fun e=>by
        have:=(HCU6.out e).1;omega
       have c0:=HP6.out.box.cell 0 rfl;have c4:=HP6.out.box.cell 4 rfl;have zB:=HP6.out.box.lt;have hlo:=HP6.out.low;have r0:=(HE6.out.block hA).trans rA.out;have q0:=Blk.cell (show Blk w6 w.heap.size 132 [.slice none 0 0,.slice none 0 0] from r0) 0 rfl;have q0f:=Blk.free (show Blk w6 w.heap.size 132 [.slice none 0 0,.slice none 0 0] from r0) 0;have q1:=Blk.cell (show Blk w6 w.heap.size 132 [.slice none 0 0,.slice none 0 0] from r0) 1 rfl;have q1f:=Blk.free (show Blk w6 w.heap.size 132 [.slice none 0 0,.slice none 0 0] from r0) 1;have EW:Ext w w6:=HX1.out.trans HE6.out;clear r0;go_wp2_with fail;refine wp_region_stagesS [([0,1,2,3,4],5),([],6)] 6 (fun w'=>∃d,w'=lowc (CBk w2.heap.size) _ d) (by kernel_rfl) (by kernel_rfl) (SC.drew _ _) ?_;refine sc_ fun K hK=>?_;go_wp2_with fail;refine hK _ _ (.inr (SC.blocks fun a ha=>?_)) ?_
       ·unfold CBk at ha
        exact (Below.heap_setCell _ _ _ _ (by rw [ha];simp only;omega)).trans (Below.heap_setCell _ _ _ _ (by rw [ha];simp only;omega))
       clear hK K;refine sc_ fun K hK=>?_;go_wp2_with fail;refine hK _ _ (.inl trivial) ?_;clear hK K;refine wpStagesS_nil ?_;go_wp2;refine bodyPost_ret (v:=.tuple #[.agg #[.slice none 0 0,.slice none 0 0],z6]) (by simp [results,Tryz.results202,go_sem, *]) rfl ?_;exact ⟨⟨[],[]⟩,_,z6,rfl,Prg.rNone _ _ _,Prg.bd_none,Prg.small_none,S_,fun e=>(hno e).elim⟩
      ·obtain ⟨rfl,hq6⟩:=hz6.resolve_left hz60
       obtain ⟨t6,ht6,_,_,_,_,_,_⟩:=HP6.out.ends.at HP6.out.here;have HTk6:=hid ht6;clear ht6;go_wp2_with fail;refine (sExpect_any HP6.out HTk6.out ⟨#[59]⟩ (by decide)).mono ?_;rintro e w7 ⟨b7,q7,z7,rfl,P7,K7,hb1,hb2,hb3⟩;have HP7:=hid P7;have HE7:=hid (K7.up HE6.out (Nat.le_refl _));have HT7:=hid (K7.blk HT6.out (by omega) (by decide));have hB3:=hid hb3;clear P7 K7 hb3 c4 HP6 HE6 HT6
       cases b7
       ·have hz7:=hb2 rfl
        have hno:s=cuS->False:=fun e=>by
         obtain ⟨_,e1,_⟩:=HCU6.out e;have:=HTk6.out;rw [e1,HCUT.out e] at this;exact absurd (hB3.out (cu_semi this)) (by decide)
        clear hb1 hb2;have c0:=HP7.out.box.cell 0 rfl;have c4:=HP7.out.box.cell 4 rfl;have zB:=HP7.out.box.lt;have hlo:=HP7.out.low;have r0:=(HE7.out.block hA).trans rA.out;have q0:=Blk.cell (show Blk w7 w.heap.size 132 [.slice none 0 0,.slice none 0 0] from r0) 0 rfl;have q0f:=Blk.free (show Blk w7 w.heap.size 132 [.slice none 0 0,.slice none 0 0] from r0) 0;have q1:=Blk.cell (show Blk w7 w.heap.size 132 [.slice none 0 0,.slice none 0 0] from r0) 1 rfl;have q1f:=Blk.free (show Blk w7 w.heap.size 132 [.slice none 0 0,.slice none 0 0] from r0) 1;have EW:Ext w w7:=HX1.out.trans HE7.out;clear r0;go_wp2_with fail;refine wp_region_stagesS [([0,1,2,3,4],5),([],6)] 6 (fun w'=>∃d,w'=lowc (CBk w2.heap.size) _ d) (by kernel_rfl) (by kernel_rfl) (SC.drew _ _) ?_;refine sc_ fun K hK=>?_;go_wp2_with fail;refine hK _ _ (.inr (SC.blocks fun a ha=>?_)) ?_
        ·unfold CBk at ha
         exact (Below.heap_setCell _ _ _ _ (by rw [ha];simp only;omega)).trans (Below.heap_setCell _ _ _ _ (by rw [ha];simp only;omega))
        clear hK K;refine sc_ fun K hK=>?_;go_wp2_with fail;refine hK _ _ (.inl trivial) ?_;clear hK K;refine wpStagesS_nil ?_;go_wp2;refine bodyPost_ret (v:=.tuple #[.agg #[.slice none 0 0,.slice none 0 0],z7]) (by simp [results,Tryz.results202,go_sem, *]) rfl ?_;exact ⟨⟨[],[]⟩,_,z7,rfl,Prg.rNone _ _ _,Prg.bd_none,Prg.small_none,S_,fun e=>(hno e).elim⟩
       ·obtain ⟨rfl,rfl⟩:=hb1 rfl
        clear hb1 hb2 hB3;have c3:=HP7.out.box.cell 3 rfl;have c0:=HP7.out.box.cell 0 rfl;have f3:=HP7.out.box.free 3;have t1:=HT7.out.cell 1 rfl;have zT:=HT7.out.lt;have zB7:=HP7.out.box.lt;have hlo:=HP7.out.low;obtain ⟨ga,gc,rfl,-⟩:=OwnG.form HP7.out.asgs;go_wp2_with fail;refine wp_region_phases [([0,1,2,3,4,5,6,7,8,9],10),([],11)] [([],12),([],13),([],14),([],15)] 12 (fun w'=>∃d,w'=lowc (C2b w2.heap.size wr.heap.size) _ d) (by kernel_rfl) (by kernel_rfl) (SC.drew _ _) ?_;refine sc_ fun K hK=>?_;go_wp2_with fail;have y8:Ext w7 ((w7.alloc (.cells #[.string t.text,(r:Nat)] 194)).drew):=S_;have B8:=(Blk.new w7 194 [.string t.text,(r:Nat)]).ext (show Ext (w7.alloc (.cells #[.string t.text,(r:Nat)] 194)) ((w7.alloc (.cells #[.string t.text,(r:Nat)] 194)).drew) from S_);refine hK _ _ (.inr (SC.blocks fun a ha=>?_)) ?_
        ·rcases ha with ha|ha
         ·exact y8.block (by rw [ha];omega)
         ·exact y8.block (by rw [ha];omega)
        clear hK K;have HB8:=hid B8;have HP8:=hid (HP7.out.ext y8);have HE8:=hid (HE7.out.trans y8);have HY8:=hid y8;have z8:=y8.size;clear y8 B8;refine sc_ fun K hK=>?_;refine wpList_append_asg _ rfl _ _ rfl (w.alloc (.cells #[.slice none 0 0,.slice none 0 0] 132)).heap.size (.slice ga gs.length gc) gs rfl HP8.out.asgs ⟨t.text,(r:Nat)⟩ w7.heap.size rfl ⟨HB8.out.cell 0 rfl,HB8.out.cell 1 rfl⟩ (by omega) (by omega) ?_;intro gv2 w9 hown hg;have hrow:=OwnG.row HP8.out.asgs
        have kB:w9.heap[w2.heap.size]?=w7.heap[w2.heap.size]?:=(hg.block _ (by omega) (fun e=>by
         obtain ⟨_,c,hc⟩:=hrow _ e.symm
         exact HP8.out.notBox (by decide) c hc)).trans (HY8.out.block zB7)
        have kT:w9.heap[wr.heap.size]?=w7.heap[wr.heap.size]?:=(hg.block _ (by omega) (fun e=>by
         obtain ⟨_,c,hc⟩:=hrow _ e.symm;have h1:=HT7.out.ext HY8.out;unfold Blk at h1;rw [h1] at hc;simp only [Option.some.injEq,Obj.cells.injEq] at hc
         exact absurd hc.2.1 (by decide))).trans (HY8.out.block zT)
        have HP9:=hid (HP8.out.setGs hg hown);have HE9:=hid (Ext.setCell (Ext.grown HE8.out hg (fun k hk=>(hrow k hk).1)) (p:=⟨w2.heap.size,3,none⟩) HP8.out.low gv2);have B9:=HP7.out.box.of kB;have e3:=B9.cell 3 rfl;have e0:=B9.cell 0 rfl;have g3:=B9.free 3;go_wp2_with fail;refine hK _ _ (.inr (SC.blocks fun a ha=>?_)) ?_
        ·rcases ha with ha|ha
         ·rw [ha];exact kB
         ·rw [ha];exact kT
        clear hK K;obtain ⟨ga2,gc2,hv,_⟩:=OwnG.form hown
        have hll:(gs++[(⟨t.text,(r:Nat)⟩:Asg)]).length=gs.length+1:=by simp
        rw [hll] at hv;subst hv;clear hown hg hrow kB kT c3 c0 f3 t1 B9;refine wpPhase_end (wpPhase_free ?_);refine sc_ fun K hK=>?_;go_wp2_with fail;go_wp2_with fail;refine hK _ _ (.inr (trivial)) ?_;clear hK K;refine sc_ fun K hK=>?_;go_wp2_with fail;go_wp2_with fail;refine hK _ _ (.inr (trivial)) ?_;clear hK K;refine sc_ fun K hK=>?_;go_wp2_with fail;go_wp2_with fail;refine hK _ _ (.inr (trivial)) ?_;clear hK K;refine sc_ fun K hK=>?_;go_wp2_with fail;go_wp2_with fail;refine hK _ _ (.inr (trivial)) ?_;clear hK K;refine wpStagesS_nil ?_;go_wp2;go_roundw
        case rel=>exact ⟨q6+1,ns6,gs++[(⟨t.text,(r:Nat)⟩:Asg)],_,_,HP9.out,HE9.out,(fun y hy=>by
         rcases List.mem_append.1 hy with hy|hy
         ·exact hgs.out y hy
         ·simp only [List.mem_cons,List.not_mem_nil,or_false] at hy
          subst hy
          exact ⟨⟨by show (-9223372036854775808:Int)<=((r:Nat):Int);omega,by show ((r:Nat):Int)<=9223372036854775807;omega⟩,tts⟩),by omega,fun e=>by
         obtain ⟨_,i1,i2,i3,i4⟩:=HCU6.out e;obtain ⟨_,_,_,_,i5⟩:=(HC.out e).name (HCT.out e) hk0
         exact .inr ⟨by omega,i2,by rw [i3,i4,i5];rfl⟩⟩
        case measure=>
         rw [HP9.out.msr,HP.out.msr,if_neg (by omega),if_neg (by omega)];have:=HP9.out.here;omega
    ·go_wp2_with fail
     refine (sFail_any HP1.out).mono ?_;rintro e w3 ⟨z3,rfl,hz,P3,K3⟩;have HP3:=hid P3;have HE3:=hid (K3.up HE1.out (Nat.le_refl _));have hno:s=cuS->False:=fun e=>hk2 ((HC.out e).name (HCT.out e) hk0).2.2.2.1;clear P3 K3;have c0:=HP3.out.box.cell 0 rfl;have c4:=HP3.out.box.cell 4 rfl;have zB:=HP3.out.box.lt;have hlo:=HP3.out.low;have r0:=(HE3.out.block hA).trans rA.out;have q0:=Blk.cell (show Blk w3 w.heap.size 132 [.slice none 0 0,.slice none 0 0] from r0) 0 rfl;have q0f:=Blk.free (show Blk w3 w.heap.size 132 [.slice none 0 0,.slice none 0 0] from r0) 0;have q1:=Blk.cell (show Blk w3 w.heap.size 132 [.slice none 0 0,.slice none 0 0] from r0) 1 rfl;have q1f:=Blk.free (show Blk w3 w.heap.size 132 [.slice none 0 0,.slice none 0 0] from r0) 1;have EW:Ext w w3:=HX1.out.trans HE3.out;clear r0;go_wp2_with fail;refine wp_region_stagesS [([0,1,2,3,4],5),([],6)] 6 (fun w'=>∃d,w'=lowc (CBk w2.heap.size) _ d) (by kernel_rfl) (by kernel_rfl) (SC.drew _ _) ?_;refine sc_ fun K hK=>?_;go_wp2_with fail;refine hK _ _ (.inr (SC.blocks fun a ha=>?_)) ?_
     ·unfold CBk at ha
      exact (Below.heap_setCell _ _ _ _ (by rw [ha];simp only;omega)).trans (Below.heap_setCell _ _ _ _ (by rw [ha];simp only;omega))
     clear hK K;refine sc_ fun K hK=>?_;go_wp2_with fail;refine hK _ _ (.inl trivial) ?_;clear hK K;refine wpStagesS_nil ?_;go_wp2;refine bodyPost_ret (v:=.tuple #[.agg #[.slice none 0 0,.slice none 0 0],z3]) (by simp [results,Tryz.results202,go_sem, *]) rfl ?_;exact ⟨⟨[],[]⟩,_,z3,rfl,Prg.rNone _ _ _,Prg.bd_none,Prg.small_none,S_,fun e=>(hno e).elim⟩
section
open Go.RowKit Go.Maps Go.WideMaps
theorem i64L {z:Int} (h:0<=z/\z<=9):I64 z:=⟨by omega,by omega⟩
theorem insOf_64 {p:Prg} (h:p.K) (hgl:p.gs.length<=1048576) {j:Nat} {x:Nd} (hx:p.ns[j]?=some x) (hn:I64 x.num):I64 (insOf p x).op/\I64 (insOf p x).num:=by
 have hix:((ixOf p x.name:Nat):Int)<=1048576:=by
  unfold ixOf
  cases e:frst p.gs p.gs.length x.name.toList with
  | none=>decide
  | some i=>
   have:=(frst_some e).1
   show ((i:Nat):Int)<=1048576
   omega
 rcases nodeF_op (h.v.nd j x hx).1 with ⟨o,h2,h3⟩|⟨o,h3⟩|⟨o,h3⟩|⟨o,o',h3⟩|⟨o,h3⟩
 ·unfold insOf;rw [if_pos o];exact ⟨i64L (z:=1) ⟨by decide,by decide⟩,hn⟩
 ·unfold insOf
  rw [if_neg (by omega),if_neg (by omega),if_pos o]
  split
  ·exact ⟨i64L (z:=2) ⟨by decide,by decide⟩,i64L (z:=0) ⟨by decide,by decide⟩⟩
  ·exact ⟨i64L (z:=3) ⟨by decide,by decide⟩,⟨by show (-9223372036854775808:Int)<=((ixOf p x.name:Nat):Int);omega,by show ((ixOf p x.name:Nat):Int)<=9223372036854775807;omega⟩⟩
 ·unfold insOf;rw [if_neg (by omega),if_pos o];exact ⟨i64L (z:=5) ⟨by decide,by decide⟩,i64L (z:=3) ⟨by decide,by decide⟩⟩
 ·unfold insOf;rw [if_neg (by omega),if_neg (by omega),if_neg (by omega),if_neg (by omega)]
  exact ⟨i64L (z:=6) ⟨by decide,by decide⟩,⟨by show (-9223372036854775808:Int)<=x.op;omega,by show x.op<=9223372036854775807;omega⟩⟩
 ·unfold insOf;rw [if_neg (by omega),if_neg (by omega),if_neg (by omega),if_pos o];exact ⟨i64L (z:=7) ⟨by decide,by decide⟩,i64L (z:=0) ⟨by decide,by decide⟩⟩
theorem tr_64 {p:Prg} (h:p.K) (hgl:p.gs.length<=1048576) (hn:∀x∈p.ns,I64 x.num):∀(F j:Nat),j<F->∀y∈p.tr j,I64 y.op/\I64 y.num:=by
 intro F
 induction F with
 | zero=>intro j hj;omega
 | succ F ih=>
  intro j hj y hy
  cases hx:p.ns[j]? with
  | none=>
   have:p.tr j=[]:=by show trF p (j+1) j=[];rw [trF,hx]
   rw [this] at hy;cases hy
  | some x=>
   rw [h.v.tr_step hx] at hy
   rcases List.mem_append.1 hy with hy|hy
   ·obtain ⟨a,ha,hy⟩:=List.mem_flatMap.1 hy
    have:=(h.v.nd j x hx).2 a ha;exact ih a.toNat (by omega) y hy
   ·simp only [List.mem_cons,List.not_mem_nil,or_false] at hy
    subst hy;exact insOf_64 h hgl hx (hn x (List.mem_of_getElem? hx))
theorem trs_64 {p:Prg} (h:p.K) (hgl:p.gs.length<=1048576) (hn:∀x∈p.ns,I64 x.num):∀(k:Nat),k<=p.gs.length->∀y∈p.trs k,I64 y.op/\I64 y.num:=by
 intro k
 induction k with
 | zero=>intro _ y hy;cases hy
 | succ k ih=>
  intro hk y hy
  obtain ⟨a,ha⟩:∃a,p.gs[k]?=some a:=⟨p.gs[k],List.getElem?_eq_getElem (by omega)⟩
  rw [Prg.trs_step ha] at hy
  rcases List.mem_append.1 hy with hy|hy
  ·exact ih (by omega) y hy
  ·rcases List.mem_append.1 hy with hy|hy
   ·exact tr_64 h hgl hn _ _ (Nat.lt_succ_self _) y hy
   ·simp only [List.mem_cons,List.not_mem_nil,or_false] at hy
    subst hy;exact ⟨i64L (z:=4) ⟨by decide,by decide⟩,⟨by show (-9223372036854775808:Int)<=((k:Nat):Int);omega,by show ((k:Nat):Int)<=9223372036854775807;omega⟩⟩
theorem OwnInss.inss {lo l2:Nat} {w:World} {v:Value} {xs:List Ins} (h:OwnInss lo w v xs) (hl:l2<=lo) (hg:∀x∈xs,I64 x.op/\I64 x.num):Inss l2 w.heap.size w v xs:=by
 obtain ⟨a,c,rfl,_⟩:=OwnG.form h
 have hc:xs.length<=c/\c<=maxLen:=by
  rcases h.2 with ⟨e,h4⟩|⟨g,cap,cur,e,hb,hh,hc,hm,_⟩
  ·simp only [Value.slice.injEq] at e
   obtain ⟨rfl,e2,rfl⟩:=e;exact ⟨by omega,by unfold maxLen;omega⟩
  ·simp only [Value.slice.injEq] at e
   obtain ⟨rfl,e2,rfl⟩:=e;exact ⟨hc,hm⟩
 refine ⟨a,c,rfl,hc.1,hc.2,fun i x hx=>?_⟩;obtain ⟨g,cap,e,g1,g2,_,_,_,hcell⟩:=OwnG.at h (fun _=>rfl) hx;simp only [Value.slice.injEq] at e;obtain ⟨rfl,_,rfl⟩:=e;have c0:=hcell 0 (by decide);have c1:=hcell 1 (by decide);have c2:=hcell 2 (by decide);simp only [Ins.cs,Nat.add_zero,List.getElem?_cons_zero,List.getElem?_cons_succ] at c0 c1 c2;exact ⟨hg x (List.mem_of_getElem? hx),g,0,rfl,by omega,g2,by rw [Nat.zero_add];exact c0,by rw [Nat.zero_add];exact c1,by rw [Nat.zero_add];exact c2⟩
theorem Strs.low {lo l2 hi:Nat} {w:World} {v:Value} {xs:List ByteArray} (h:Strs lo hi w v xs) (hl:l2<=lo):Strs l2 hi w v xs:=by
 obtain ⟨a,cap,h1,h2,h3,h4⟩:=h;refine ⟨a,cap,h1,h2,h3,fun i x hx=>?_⟩;obtain ⟨b,off,g2,g3,g4⟩:=h4 i x hx;exact ⟨b,off,g2,by omega,g4⟩
theorem OwnStrs.row {lo:Nat} {w:World} {v:Value} {xs:List ByteArray} (h:OwnStrs lo w v xs):∀k,v.ownBlock=some k->lo<=k/\∃c,w.heap[k]?=some (.cells c 9 (0,0)):=by
 intro k hk
 rcases h.2 with ⟨rfl,h4⟩|⟨g,cap,cur,rfl,hb,hg,_⟩
 ·cases hk
 ·simp only [Value.ownBlock,Option.some.injEq] at hk
  subst hk;exact ⟨hb,cur,hg⟩
theorem TB.knS {p:Prg} {P T C M mb lo:Nat} {a1 a2:Option Addr} {c1 c2:Nat} {w w':World} {xs:List Ins} {iv lv lv':Value} {ls ls':List ByteArray} (h:TB p P T C M mb lo a1 a2 c1 c2 w xs iv ls lv) (k:KN lo C 9 w w') (hc:Blk w' C 126 [iv,lv']) (hl:OwnStrs lo w' lv' ls'):TB p P T C M mb lo a1 a2 c1 c2 w' xs iv ls' lv':=
 ⟨KN.blk h.prog k (h.prog.neq h.code (by decide)) (by decide),KN.blk h.fn k (h.fn.neq h.code (by decide)) (by decide),hc,KN.blk h.mp k (h.mp.neq h.code (by decide)) (by decide),KN.fm h.map k h.code,KN.row h.ins k (h.code.noCells (by decide)) (by decide),hl,h.low⟩
end
section
open Go.RowKit Go.Maps Go.WideMaps
theorem Cod.R.wideC {c:Cod} {lo hi l2 h2:Nat} {w:World} {v:Value} (h:c.R lo hi w v) (hl:l2<=lo) (hh:hi<=h2):c.R l2 h2 w v:=by
 obtain ⟨iu,lu,rfl,⟨a,cap,e1,e2,e3,e4⟩,⟨a',cap',f1,f2,f3,f4⟩⟩:=h;refine ⟨iu,lu,rfl,⟨a,cap,e1,e2,e3,fun i x hx=>?_⟩,⟨a',cap',f1,f2,f3,fun i x hx=>?_⟩⟩
 ·obtain ⟨g0,b,off,g1,g2,g3,g4⟩:=e4 i x hx
  exact ⟨g0,b,off,g1,by omega,by omega,g4⟩
 ·obtain ⟨b,off,g1,g2,g3,g4⟩:=f4 i x hx
  exact ⟨b,off,g1,by omega,by omega,g4⟩
theorem trs_mono {p:Prg} {k:Nat}:∀m,k<=m->m<=p.gs.length->(p.trs k).length<=(p.trs m).length:=by
 intro m
 induction m with
 | zero=>
  intro h _
  have:k=0:=by omega
  rw [this];exact Nat.le_refl _
 | succ m ih=>
  intro h hm
  by_cases e:k=m+1
  ·subst e;exact Nat.le_refl _
  ·have:=ih (by omega) (by omega)
   obtain ⟨a,ha⟩:∃a,p.gs[m]?=some a:=⟨p.gs[m],List.getElem?_eq_getElem (by omega)⟩
   rw [Prg.trs_step ha,List.length_append];omega
theorem iCompile_any (lo hi:Nat) (v:Value) (p:Prg) (w:World) (hv:p.R lo hi w v) (hh:hi<=w.heap.size) (hchk:p.chkB=true) (hbd:p.bd) (hgl:p.gs.length<=1048576) :
  Calls Tryz.prog 94 #[v] w fun e w'=>∃u,e = .returned (.tuple #[u,.bool true])/\p.code.R w.heap.size w'.heap.size w' u/\Ext w w':=by
 have HV:=hid hv;have hp:=Prg.chkB_K hchk;have HP:=hid hp;have HCH:=hid hchk;obtain ⟨a1,c1,a2,c2,rfl,HN,HG⟩:=hv.form;have l1:=HN.le;have l2:=HN.cap;have l3:=HG.le;have l4:=HG.cap;have l5:=hp.v.len;have l6:=hp.v.gs_len
 have hn64:∀x∈p.ns,I64 x.num:=fun x hx=>by
  obtain ⟨i,hi,hix⟩:=List.getElem_of_mem hx;exact (HN.cell i x (by rw [<-hix];simp [hi])).1.2
 have H64:=hid (trs_64 hp hgl hn64);have hcl:=code_len hp;have HCL:=hid hcl;have b0:=Blk.new w 132 [.slice a1 p.ns.length c1,.slice a2 p.gs.length c2];have r0:=Blk.new (w.alloc (.cells #[.slice a1 p.ns.length c1,.slice a2 p.gs.length c2] 132)) 126 [.slice none 0 0,.slice none 0 0];rw [World.size_alloc] at r0;have x0:Ext w ((w.alloc (.cells #[.slice a1 p.ns.length c1,.slice a2 p.gs.length c2] 132)).alloc (.cells #[.slice none 0 0,.slice none 0 0] 126)):=X_;have HB0:=hid (b0.ext (show Ext _ ((w.alloc (.cells #[.slice a1 p.ns.length c1,.slice a2 p.gs.length c2] 132)).alloc (.cells #[.slice none 0 0,.slice none 0 0] 126)) from X_));have HR0:=hid r0;have HX0:=hid x0;clear hv hp hchk b0 r0 x0 hn64 hcl;go_enter Tryz.func94,Tryz.ntmps94;go_wp2_with fail;refine (iIsOk_val HCH.out lo hi _ _ (HV.out.ext hh HX0.out) (Nat.le_trans hh HX0.out.size) hbd hgl).mono ?_;rintro e w1 ⟨rfl,x1⟩;have HX1:=hid (HX0.out.trans x1);have HB1:=hid (HB0.out.ext x1);have HR1:=hid (HR0.out.ext x1);obtain ⟨q0,q1⟩:=HB1.out.q2;have ql:=HB1.out.lt;clear x1 HX0 HB0 HR0;go_wp2_with fail;refine (iAssigned_any lo hi _ p _ (HV.out.ext hh HX1.out) (Nat.le_trans hh HX1.out.size) hbd hgl).mono ?_;rintro e w2 ⟨⟨mb,rfl,hmb,hM⟩,x2⟩;have HX2:=hid (HX1.out.trans x2);have HB2:=hid (HB1.out.ext x2);have HR2:=hid (HR1.out.ext x2);have HM2:=hid hM;have q1:=HB2.out.cell 1 rfl;have ql2:=HB2.out.lt;have rl2:=HR2.out.lt;have zw2:=HX2.out.size;clear x2 hM HX1 HB1 HR1;have xb:Ext w2 (((w2.alloc (.cells #[.slice none 0 0,.slice none 0 0] 126)).alloc (.cells #[.map (some mb)] 239)).alloc (.cells #[.func (.func 155) #[] #[.pointer (some ⟨w.heap.size,0,none⟩),.pointer (some ⟨w2.heap.size+1+1,0,none⟩),.pointer (some ⟨w2.heap.size,0,none⟩),.pointer (some ⟨w2.heap.size+1,0,none⟩)]] 241)):=X_;have cb:=(Blk.new w2 126 [.slice none 0 0,.slice none 0 0]).ext (show Ext (w2.alloc (.cells #[.slice none 0 0,.slice none 0 0] 126)) (((w2.alloc (.cells #[.slice none 0 0,.slice none 0 0] 126)).alloc (.cells #[.map (some mb)] 239)).alloc (.cells #[.func (.func 155) #[] #[.pointer (some ⟨w.heap.size,0,none⟩),.pointer (some ⟨w2.heap.size+1+1,0,none⟩),.pointer (some ⟨w2.heap.size,0,none⟩),.pointer (some ⟨w2.heap.size+1,0,none⟩)]] 241)) from X_);have mbx:=(Blk.new (w2.alloc (.cells #[.slice none 0 0,.slice none 0 0] 126)) 239 [.map (some mb)]).ext (show Ext ((w2.alloc (.cells #[.slice none 0 0,.slice none 0 0] 126)).alloc (.cells #[.map (some mb)] 239)) (((w2.alloc (.cells #[.slice none 0 0,.slice none 0 0] 126)).alloc (.cells #[.map (some mb)] 239)).alloc (.cells #[.func (.func 155) #[] #[.pointer (some ⟨w.heap.size,0,none⟩),.pointer (some ⟨w2.heap.size+1+1,0,none⟩),.pointer (some ⟨w2.heap.size,0,none⟩),.pointer (some ⟨w2.heap.size+1,0,none⟩)]] 241)) from X_);have fb:=Blk.new ((w2.alloc (.cells #[.slice none 0 0,.slice none 0 0] 126)).alloc (.cells #[.map (some mb)] 239)) 241 [.func (.func 155) #[] #[.pointer (some ⟨w.heap.size,0,none⟩),.pointer (some ⟨w2.heap.size+1+1,0,none⟩),.pointer (some ⟨w2.heap.size,0,none⟩),.pointer (some ⟨w2.heap.size+1,0,none⟩)]];simp only [World.size_alloc] at mbx fb
 have hT:TB p w.heap.size (w2.heap.size+1+1) w2.heap.size (w2.heap.size+1) mb w2.heap.size a1 a2 c1 c2 (((w2.alloc (.cells #[.slice none 0 0,.slice none 0 0] 126)).alloc (.cells #[.map (some mb)] 239)).alloc (.cells #[.func (.func 155) #[] #[.pointer (some ⟨w.heap.size,0,none⟩),.pointer (some ⟨w2.heap.size+1+1,0,none⟩),.pointer (some ⟨w2.heap.size,0,none⟩),.pointer (some ⟨w2.heap.size+1,0,none⟩)]] 241)) [] (.slice none 0 0) [] (.slice none 0 0):=⟨HB2.out.ext xb,fb,cb,mbx,HM2.out.ext xb,OwnG.nil _ _ _ _ _,OwnStrs.nil _ _,Nat.le_refl _⟩
 have HT:=hid hT;have HRb:=hid (HR2.out.ext xb);have HXb:=hid (HX2.out.trans xb);have q1b:=hT.prog.cell 1 rfl;clear cb mbx fb hT xb HB2 HM2 HR2 HX2;go_wp2_with fail
 go_loopw [20] (fun i wr=>∃(k:Nat) (iv lv:Value),k<=p.gs.length/\i = .int .i64 (k:Nat)/\TB p w.heap.size (w2.heap.size+1+1) w2.heap.size (w2.heap.size+1) mb w2.heap.size a1 a2 c1 c2 wr (p.trs k) iv ((p.gs.take k).map (·.name)) lv/\Blk wr (w.heap.size+1) 126 [.slice none 0 0,.slice none 0 0]/\Ext w wr) (fun i _=>p.gs.length - (intOf i).toNat)
 case atStart=>exact ⟨0,_,_,by omega,rfl,HT.out,HRb.out,HXb.out⟩
 case round=>
  clear HT HRb HXb q1b;obtain ⟨k,iv,lv,hk,rfl,hT,hR,hx⟩:=hrel;have HT:=hid hT;have HR:=hid hR;have HX:=hid hx
  by_cases hlt:k<p.gs.length
  ·obtain ⟨b,off,s,rt,rfl,hb1,hbw,hdrop,hget,ir,y0,y1⟩:=HG.at hlt hx hh
   have hrb:=(HP.out.v.ag k _ hget).2;simp only at hrb
   obtain ⟨r,rfl⟩:∃r:Nat,rt=r:=⟨rt.toNat,by omega⟩
   have HG1:=hid hget;have hst:=Prg.trs_step hget;have hmo:=trs_mono (p:=p) (k:=k+1) p.gs.length (by omega) (Nat.le_refl _);have hcl:=HCL.out;have hcl2:(p.trs p.gs.length).length<=120:=hcl;simp only [Int.toNat_natCast] at hst
   have hle:(p.trs (k+1)).length=(p.trs k).length+(p.tr r).length+1:=by rw [hst];simp;omega
   have HST:=hid hst;have y0:Ext wr (wr.alloc (.cells #[.string s,(r:Nat)] 194)):=X_;have HA:=hid (Blk.new wr 194 [.string s,(r:Nat)]);have HT1:=hid (hT.ext y0);have HR1:=hid (hR.ext y0);have HX1:=hid (hx.trans y0);have hfn:=hT.fn;have f0:=hfn.cell 0 rfl;have fl:=hfn.lt;have zr:=hx.size;have hlo:=hT.low;have hCl:=hT.code.lt;clear hT hR hx hdrop hget hst hcl HT HR HX hfn;go_wp2_with fail;refine (iTr_any lo hi p HP.out hbd hgl w a1 (some ⟨b,off,none⟩) c1 c2 HN hh w.heap.size (w2.heap.size+1+1) w2.heap.size (w2.heap.size+1) mb w2.heap.size zw2 _ _ (r+1) r _ iv _ (by omega) (by omega) (by omega) HT1.out HX1.out).mono ?_;rintro e w5 ⟨rfl,⟨iv2,hT5⟩,hk5⟩;have HA5:=hid (KN.blk HA.out hk5 (HA.out.neq HT1.out.code (by decide)) (by decide));have HR5:=hid (HR1.out.of (hk5.block _ HR1.out.lt (.inl (by omega))));have HX5:=hid (hk5.up HX1.out zw2)
   obtain ⟨L,hL⟩:∃L,p.trs k++p.tr r=L:=⟨_,rfl⟩
   have hLl:L.length<=200:=by rw [<-hL,List.length_append];omega
   rw [hL] at hT5;have HL:=hid hL
   obtain ⟨NL,hNL⟩:∃N,(p.gs.take k).map (·.name)=N:=⟨_,rfl⟩
   have hNl:NL.length<=200:=by rw [<-hNL,List.length_map,List.length_take];omega
   rw [hNL] at hT5;have HNL:=hid hNL;have HT5:=hid hT5;obtain ⟨ia,ic,rfl,-⟩:=OwnG.form hT5.ins;obtain ⟨la,lc,rfl,-⟩:=hT5.loc.form;obtain ⟨cc0,cc1⟩:=hT5.code.q2;have cf0:=hT5.code.free 0;have cf1:=hT5.code.free 1;have cl:=hT5.code.lt;obtain ⟨k0,k1⟩:=HA5.out.q2;have kl:=HA5.out.lt;have y5:Ext w5 (w5.alloc (.cells #[.int .i64 4,.string ⟨#[]⟩,(k:Nat)] 197)):=X_;have b5:=Blk.new w5 197 [.int .i64 4,.string ⟨#[]⟩,(k:Nat)];have HY5:=hid y5;have HB5:=hid b5;have HI5:=hid (OwnG.ext hT5.ins y5);have zX5:=HX5.out.size;have zy5:=y5.size;clear hL hNL hT5 hk5 y5 b5 HT1 HR1 HX1 HA f0;go_wp2_with (at_builtin;refine wpList_append_insn _ rfl _ _ rfl w2.heap.size (.slice ia L.length ic) L rfl ?_ ⟨4,⟨#[]⟩,(k:Nat)⟩ w5.heap.size rfl ?_ ?_ ?_ ?_)
   ·exact HI5.out
   ·omega
   ·exact Nat.le_trans (Nat.le_of_lt cl) zy5
   intro iv3 w6 hown hg;have hrow:=OwnG.rowC HI5.out
   have hother:∀{B:Nat} {t:TypeId} {cs:List Value},Blk w5 B t cs->t≠197->w6.heap[B]?=w5.heap[B]?:=fun hb ht=>(hg.block _ (by have:=hb.lt;omega) (fun e=>by
    obtain ⟨_,c,hc⟩:=hrow _ e.symm
    exact (hb.ext HY5.out).noCells (Ne.symm ht) c hc)).trans (HY5.out.block hb.lt)
   have kC:=hother HT5.out.code (by decide);have kA:=hother HA5.out (by decide);have K6:KN w2.heap.size w2.heap.size 197 w5 w6:=((KN.refl _ _ _ w5).ext HY5.out).grown hg hrow;have C6:=HT5.out.code.of kC;have HA6:=hid ((HA5.out.of kA).other (a:=⟨w2.heap.size,0,none⟩) (HA5.out.neq HT5.out.code (by decide)) iv3);have HT6:=hid (HT5.out.kn (K6.set (Nat.le_refl _) 0 iv3) (C6.set 0 iv3) (OwnG.set hown C6 (by decide) 0 iv3));have HR6:=hid (HR5.out.of ((K6.set (Nat.le_refl _) 0 iv3).block _ HR5.out.lt (.inl (by omega))));have HX6:=hid ((K6.set (Nat.le_refl _) 0 iv3).up HX5.out zw2);obtain ⟨ia2,ic2,hv2,_⟩:=OwnG.form hown
   have hll:(L++[(⟨4,⟨#[]⟩,(k:Nat)⟩:Ins)]).length=L.length+1:=by simp
   rw [hll] at hv2;subst hv2;obtain ⟨e0,e1⟩:=C6.q2;have g0:=C6.free 0;have g1:=C6.free 1;have a0:=(HA5.out.of kA).cell 0 rfl;have al:=(HA5.out.of kA).lt;have c6l:=C6.lt;clear hown hg hrow hother kC kA K6 C6 cc0 cc1 cf0 cf1 k0 k1;have y6:Ext (w6.setCell ⟨w2.heap.size,0,none⟩ (.slice ia2 (L.length+1) ic2)) ((w6.setCell ⟨w2.heap.size,0,none⟩ (.slice ia2 (L.length+1) ic2)).alloc (.cells #[.string s] 9)):=X_;have HS6:=hid (HT6.out.loc.ext y6);have HY6:=hid y6;have b6:=Blk.new (w6.setCell ⟨w2.heap.size,0,none⟩ (.slice ia2 (L.length+1) ic2)) 9 [.string s];rw [World.size_setCell] at b6;have zy6:=y6.size;have zc6:=HT6.out.code.lt;clear y6;go_wp2_with (at_builtin;refine wpList_append_str _ rfl _ _ rfl w2.heap.size (.slice la NL.length lc) NL rfl ?_ s w6.heap.size rfl ?_ ?_ ?_ ?_)
   ·exact HS6.out
   ·exact b6.cell 0 rfl
   ·omega
   ·exact Nat.le_trans (Nat.le_of_lt zc6) zy6
   intro lv2 w8 hown hg;have hrow:=OwnStrs.row HS6.out
   have kC:w8.heap[w2.heap.size]?=(w6.setCell ⟨w2.heap.size,0,none⟩ (.slice ia2 (L.length+1) ic2)).heap[w2.heap.size]?:=(hg.block _ (by omega) (fun e=>by
    obtain ⟨_,c,hc⟩:=hrow _ e.symm
    exact (HT6.out.code.ext HY6.out).noCells (by decide) c hc)).trans (HY6.out.block zc6)
   have K8:KN w2.heap.size w2.heap.size 9 (w6.setCell ⟨w2.heap.size,0,none⟩ (.slice ia2 (L.length+1) ic2)) w8:=((KN.refl _ _ _ _).ext HY6.out).grown hg hrow;have C8:=HT6.out.code.of kC;have O9:=KN.strs hown ((KN.refl w2.heap.size w2.heap.size 197 w8).set (Nat.le_refl _) 1 lv2) (C8.noCells (by decide)) (by decide);have HT9:=hid (HT6.out.knS (K8.set (Nat.le_refl _) 1 lv2) (C8.set 1 lv2) O9);have HR9:=hid (HR6.out.of ((K8.set (Nat.le_refl _) 1 lv2).block _ HR6.out.lt (.inl (by omega))));have HX9:=hid ((K8.set (Nat.le_refl _) 1 lv2).up HX6.out zw2);obtain ⟨la2,lc2,hv2,_⟩:=hown.form
   have hll2:(NL++[s]).length=NL.length+1:=by simp
   rw [hll2] at hv2;subst hv2;have e1':=C8.cell 1 rfl;have g1':=C8.free 1;have c8l:=C8.lt;clear hown hg hrow kC K8 C8 O9 HS6 HY6;go_wp2_with fail;go_roundw
   case rel=>
    have e1:L++[(⟨4,⟨#[]⟩,(k:Nat)⟩:Ins)]=p.trs (k+1):=by rw [HST.out,<-HL.out,List.append_assoc]
    have e2:NL++[s]=(p.gs.take (k+1)).map (·.name):=by rw [List.take_add_one,HG1.out,List.map_append,HNL.out];rfl
    have HT10:=HT9.out;rw [e1,e2] at HT10;exact ⟨k+1,_,_,by omega,by go_num,HT10,HR9.out,HX9.out⟩
   case measure=>simp [intOf];omega
  ·obtain rfl:k=p.gs.length:=by omega
   rw [List.take_length] at HT;obtain ⟨ia,ic,rfl,-⟩:=OwnG.form HT.out.ins;obtain ⟨la,lc,rfl,-⟩:=HT.out.loc.form;obtain ⟨cc0,cc1⟩:=HT.out.code.q2;have cl:=HT.out.code.lt;obtain ⟨r0,r1⟩:=HR.out.q2;have f0:=HR.out.free 0;have f1:=HR.out.free 1;have rl:=HR.out.lt;have zX:=HX.out.size;have hS:=hid (HT.out.loc.strs);have hI:=hid (HT.out.ins.inss (Nat.le_refl _) (H64.out _ (Nat.le_refl _)))
   have hcR:p.code.R w2.heap.size wr.heap.size wr (.agg #[.slice ia (p.trs p.gs.length).length ic,.slice la p.gs.length lc]):=⟨_,_,rfl,hI.out,by have h:=hS.out;rw [List.length_map] at h;exact h⟩
   have HcR:=hid (hcR.same ((Same.setLow wr (p:=⟨w.heap.size+1,0,none⟩) (by simp only;omega) (.slice ia (p.trs p.gs.length).length ic)).trans (Same.setLow _ (p:=⟨w.heap.size+1,1,none⟩) (by simp only;omega) (.slice la p.gs.length lc))));have hXo:=HX.out;clear hT hR hx hcR;go_wp2;refine bodyPost_ret (v:=.tuple #[.agg #[.slice ia (p.trs p.gs.length).length ic,.slice la p.gs.length lc],.bool true]) (by simp [results,Tryz.results94,go_sem, *]) rfl ?_;exact ⟨_,rfl,HcR.out.wideC zw2 (by simp),S_⟩
end
theorem info_srfS:(Tryz.prog.info? 42).map (fun i=>i.size)=some 26:=by kernel_rfl
theorem Scn.prg_at {s:Scn} {k q:Nat} (h:s.sh k=(q:Nat)) (hq:q<s.ps.length):s.prg k=s.ps[q]:=by
 unfold Scn.prg;rw [h,Int.toNat_natCast,List.getD_eq_getElem?_getD,List.getElem?_eq_getElem hq]
 rfl
theorem Scn.shade_at {s:Scn} {k q n:Nat} (h:s.sh k=(q:Nat)) (hq:q<s.ps.length) (hn:s.rt k=(n:Nat)):s.shade k=((s.ps[q].code.shade (gridP (s.st k) n s.t)).1,(s.ps[q].code.shade (gridP (s.st k) n s.t)).2.1):=by
 unfold Scn.shade;rw [Scn.prg_at h hq];unfold Scn.grd;rw [hn,Int.toNat_natCast]
theorem Scn.Ok.at {s:Scn} (ho:s.Ok) {k:Nat} (hk:k<s.m):∃q n:Nat,s.sh k=(q:Nat)/\q<s.ps.length/\s.rt k=(n:Nat)/\1<=n/\n<=8/\patB (s.st k)=true/\patB (s.en k)=true:=by
 have h:=srfB_iff.1 (ho.srf k hk);have h1:=h.sh;have h2:=h.rt;exact ⟨(s.sh k).toNat,(s.rt k).toNat,by omega,by omega,by omega,by omega,by omega,h.f,h.g⟩
theorem Scn.Ok.shade {s:Scn} (ho:s.Ok) {k:Nat} (hk:k<s.m):(s.shade k).1.length=(s.rt k).toNat*(s.rt k).toNat/\(s.shade k).2.length=(s.rt k).toNat*(s.rt k).toNat:=by
 obtain ⟨q,n,h1,h2,h3,h4,h5,h6,-⟩:=ho.at hk;have hc:=ho.prg _ (List.getElem_mem h2);obtain ⟨X,Y,e,x,y,-⟩:=(Prg.chkB_K hc).shade hc (gridP_ok (f:=s.st k) (n:=n) (t:=s.t) ⟨h4,h5⟩ ho.t);rw [Scn.shade_at h1 h2 h3,e,h3,Int.toNat_natCast];exact ⟨x,y⟩
theorem Grd.R.formS {g:Grd} {lo hi:Nat} {w:World} {v:Value} (h:g.R lo hi w v):∃a1 c1 a2 c2,v = .agg #[g.n,.slice a1 g.m c1,g.tm,g.t.log,.slice a2 g.t.px.length c2]:=by
 obtain ⟨pu,tu,rfl,_,_,_,hp,hu⟩:=h;obtain ⟨a1,c1,rfl,_⟩:=hp;obtain ⟨a2,c2,rfl,_⟩:=hu;exact ⟨a1,c1,a2,c2,rfl⟩
theorem info_shd:(Tryz.prog.info? 92).map (fun i=>i.size)=some 2:=by kernel_rfl
theorem IntsO.low' {lo lo' hi:Nat} {w:World} {v:Value} {xs:List Int} (h:IntsO lo hi w v xs) (hl:lo'<=lo):IntsO lo' hi w v xs:=⟨h.1.low hl,h.2⟩
theorem IntsO.setLow {lo hi:Nat} {w:World} {v:Value} {xs:List Int} (h:IntsO lo hi w v xs) {p:Addr} (hp:p.block<lo) (u:Value):IntsO lo hi (w.setCell p u) v xs:=⟨h.1.setLow hp u,h.2⟩
theorem IntsO.form {lo hi:Nat} {w:World} {v:Value} {xs:List Int} (h:IntsO lo hi w v xs):∃a c,v = .slice a xs.length c:=by
 obtain ⟨a,c,e,_⟩:=h.1.form;exact ⟨a,c,e⟩
theorem iShade_any (s:Scn) (lo hi:Nat) (v:Value) (k:Nat) (w:World) (hv:s.R lo hi w v) (hh:hi<=w.heap.size) (ho:s.Ok) (hsm:s.small) (hk:k<s.m) :
  Calls Tryz.prog 41 #[v,(k:Nat)] w fun e w'=>∃r1 r2,e = .returned (.agg #[r1,r2])/\∃h,w.heap.size<=h/\h<=w'.heap.size/\IntsO w.heap.size h w' r1 (s.shade k).1/\IntsO h w'.heap.size w' r2 (s.shade k).2/\Ext w w':=by
 obtain ⟨q,n,hsh,hq,hrt,hn1,hn8,hpf,hpg⟩:=ho.at hk;obtain ⟨a1,c1,a2,c2,a3,c3,rfl,-,hlog,-,h1,h2,h3⟩:=hv.form;have hcap:=h3.cap;have hle:=h3.le;have le2:=h2.le;have cap2:=h2.cap;obtain ⟨b,off,rfl,hb1,hb2,hcell⟩:=h3.at hk (by decide)
 obtain ⟨f,hf⟩:∃f,s.st k=f:=⟨_,rfl⟩
 obtain ⟨g,hg⟩:∃f,s.en k=f:=⟨_,rfl⟩
 have bw:b<w.heap.size:=by omega
 have hcs:w.rangeAt b (off+k*26) ((List.range 26).map fun j=>.int .i64 (s.F (k*26+j))):=by
  intro j v hj;obtain ⟨h1,h2⟩:=List.getElem?_eq_some_iff.1 hj;simp only [List.length_map,List.length_range] at h1;simp only [List.getElem_map,List.getElem_range] at h2;subst h2;exact hcell j h1
 change w.rangeAt b (off+k*26) [(s.st k 0),(s.st k 1),(s.st k 2),(s.st k 3),(s.st k 4),(s.st k 5),(s.st k 6),(s.st k 7),(s.st k 8),(s.st k 9),(s.st k 10),(s.st k 11),(s.en k 0),(s.en k 1),(s.en k 2),(s.en k 3),(s.en k 4),(s.en k 5),(s.en k 6),(s.en k 7),(s.en k 8),(s.en k 9),(s.en k 10),(s.en k 11),(s.sh k),(s.rt k)] at hcs;simp only [hf,hg,hsh,hrt] at hcs;have hshd:=Scn.shade_at hsh hq hrt;rw [hf] at hshd hpf;have hchk:=ho.prg _ (List.getElem_mem hq);have hsp:=hsm _ (List.getElem_mem hq);have htok:=ho.t;have H1:=hid h1;have H2:=hid h2;have HCS:=hid hcs;have HLOG:=hid hlog;have hTR:=hid (show ∀W:World,Ext w W->TexR lo hi W (.agg #[s.t.log,.slice a1 s.t.px.length c1]) s.t from fun W x=>⟨_,rfl,hlog,(h1.shut).ext hh x⟩);have HCH:=hid hchk;have HSP:=hid hsp;have HTO:=hid htok;have HPF:=hid hpf;have HSD:=hid hshd;have x2:Ext w ((w.alloc (.cells #[s.c.w,s.c.h,s.c.zoom,s.c.near,.bool s.c.deep,s.c.lens,s.c.focus,s.t.log,.slice a1 s.t.px.length c1,.slice a2 s.ps.length c2,.slice (some ⟨b,off,none⟩) s.m c3,s.side] 31)).alloc (.cells #[.slice none 0 0,.slice none 0 0] 92)):=X_;have bS:=(Blk.new w 31 [s.c.w,s.c.h,s.c.zoom,s.c.near,.bool s.c.deep,s.c.lens,s.c.focus,s.t.log,.slice a1 s.t.px.length c1,.slice a2 s.ps.length c2,.slice (some ⟨b,off,none⟩) s.m c3,s.side]).ext (show Ext (w.alloc (.cells #[s.c.w,s.c.h,s.c.zoom,s.c.near,.bool s.c.deep,s.c.lens,s.c.focus,s.t.log,.slice a1 s.t.px.length c1,.slice a2 s.ps.length c2,.slice (some ⟨b,off,none⟩) s.m c3,s.side] 31)) ((w.alloc (.cells #[s.c.w,s.c.h,s.c.zoom,s.c.near,.bool s.c.deep,s.c.lens,s.c.focus,s.t.log,.slice a1 s.t.px.length c1,.slice a2 s.ps.length c2,.slice (some ⟨b,off,none⟩) s.m c3,s.side] 31)).alloc (.cells #[.slice none 0 0,.slice none 0 0] 92)) from X_)
 have bH:Blk ((w.alloc (.cells #[s.c.w,s.c.h,s.c.zoom,s.c.near,.bool s.c.deep,s.c.lens,s.c.focus,s.t.log,.slice a1 s.t.px.length c1,.slice a2 s.ps.length c2,.slice (some ⟨b,off,none⟩) s.m c3,s.side] 31)).alloc (.cells #[.slice none 0 0,.slice none 0 0] 92)) (w.heap.size+1) 92 [.slice none 0 0,.slice none 0 0]:=by
  have h:=Blk.new (w.alloc (.cells #[s.c.w,s.c.h,s.c.zoom,s.c.near,.bool s.c.deep,s.c.lens,s.c.focus,s.t.log,.slice a1 s.t.px.length c1,.slice a2 s.ps.length c2,.slice (some ⟨b,off,none⟩) s.m c3,s.side] 31)) 92 [.slice none 0 0,.slice none 0 0];rw [World.size_alloc] at h;exact h
 have z2:((w.alloc (.cells #[s.c.w,s.c.h,s.c.zoom,s.c.near,.bool s.c.deep,s.c.lens,s.c.focus,s.t.log,.slice a1 s.t.px.length c1,.slice a2 s.ps.length c2,.slice (some ⟨b,off,none⟩) s.m c3,s.side] 31)).alloc (.cells #[.slice none 0 0,.slice none 0 0] 92)).heap.size=w.heap.size+2:=by simp
 clear hv h1 h2 h3 hcs hchk hsp htok hpf hpg hshd hsh hrt hcell hf hg hlog;go_enter Tryz.func41,Tryz.ntmps41;go_upto_region 1 with fail
 obtain ⟨W0,hW0⟩:∃W0,((w.alloc (.cells #[s.c.w,s.c.h,s.c.zoom,s.c.near,.bool s.c.deep,s.c.lens,s.c.focus,s.t.log,.slice a1 s.t.px.length c1,.slice a2 s.ps.length c2,.slice (some ⟨b,off,none⟩) s.m c3,s.side] 31)).alloc (.cells #[.slice none 0 0,.slice none 0 0] 92))=W0:=⟨_,rfl⟩
 rw [hW0] at x2 bS bH z2;rw [hW0];clear hW0;have HX0:=hid x2;have HS:=hid bS;have HH:=hid bH;have Z2:=hid z2;have hc0:W0.rangeAt b (off+k*26) [(f 0),(f 1),(f 2),(f 3),(f 4),(f 5),(f 6),(f 7),(f 8),(f 9),(f 10),(f 11),(g 0),(g 1),(g 2),(g 3),(g 4),(g 5),(g 6),(g 7),(g 8),(g 9),(g 10),(g 11),(q:Nat),(n:Nat)]:=fun j v hj=>(x2.cells.1 b _ bw).trans (HCS.out j v hj);have HC0:=hid hc0;have d10:=bS.cell 10 rfl;have ls:=bS.lt
 have lb:b<W0.heap.size:=by omega
 clear x2 bS bH z2 hc0;go_upto_region 2 with (first|(show wpList _ _ _ [_,_,_] _ _;refine wpList_load_mid rfl _ _ rfl b (off+k*26) rfl [(f 0),(f 1),(f 2),(f 3),(f 4),(f 5),(f 6),(f 7),(f 8),(f 9),(f 10),(f 11),(g 0),(g 1),(g 2),(g 3),(g 4),(g 5),(g 6),(g 7),(g 8),(g 9),(g 10),(g 11),(q:Nat),(n:Nat)] _ HC0.out Tryz.underlying42 rfl info_srfS ?_)|(show wpList _ _ _ [_] _ _;refine wpList_store_fresh _ _ _ rfl 42 (.tmp 5) (.tmp 17) rfl rfl #[(f 0),(f 1),(f 2),(f 3),(f 4),(f 5),(f 6),(f 7),(f 8),(f 9),(f 10),(f 11),(g 0),(g 1),(g 2),(g 3),(g 4),(g 5),(g 6),(g 7),(g 8),(g 9),(g 10),(g 11),(q:Nat),(n:Nat)] W0.heap.size rfl rfl rfl (by kernel_rfl) (by kernel_rfl) (by kernel_rfl) ?_));have xA:Ext W0 (W0.alloc (.cells #[(f 0),(f 1),(f 2),(f 3),(f 4),(f 5),(f 6),(f 7),(f 8),(f 9),(f 10),(f 11),(g 0),(g 1),(g 2),(g 3),(g 4),(g 5),(g 6),(g 7),(g 8),(g 9),(g 10),(g 11),(q:Nat),(n:Nat)] 42)):=X_;have bA:=Blk.new W0 42 [(f 0),(f 1),(f 2),(f 3),(f 4),(f 5),(f 6),(f 7),(f 8),(f 9),(f 10),(f 11),(g 0),(g 1),(g 2),(g 3),(g 4),(g 5),(g 6),(g 7),(g 8),(g 9),(g 10),(g 11),(q:Nat),(n:Nat)]
 obtain ⟨A,hA⟩:∃A,W0.heap.size=A:=⟨_,rfl⟩
 obtain ⟨W1,hW1⟩:∃W1,W0.alloc (.cells #[(f 0),(f 1),(f 2),(f 3),(f 4),(f 5),(f 6),(f 7),(f 8),(f 9),(f 10),(f 11),(g 0),(g 1),(g 2),(g 3),(g 4),(g 5),(g 6),(g 7),(g 8),(g 9),(g 10),(g 11),(q:Nat),(n:Nat)] 42)=W1:=⟨_,rfl⟩
 rw [hW1] at xA bA ⊢;rw [hA] at bA ls lb ⊢;have X1:=hid (HX0.out.trans xA);have S1:=HS.out.ext xA;have HS1:=hid S1;have HH1:=hid (HH.out.ext xA);have HA1:=hid bA;have ZA:=hid (show w.heap.size+2<=A by have:=Z2.out;omega);have d9:=S1.cell 9 rfl;have ls1:=S1.lt;have e24:=bA.cell 24 rfl;have lA:=bA.lt;obtain ⟨b2,off2,na,nc,ga,gc,rfl,hbw2,hbr2,k1,k2,hR⟩:=H2.out.at hq X1.out hh;have HR:=hid hR;clear hW1 hA xA bA S1 hR d10 ls lb HS HH HX0 HC0 HCS;go_wp2_with fail;refine (iCompile_any lo hi _ (s.ps[q]'hq) _ HR.out (Nat.le_trans hh X1.out.size) HCH.out HSP.out.1 HSP.out.2.2).mono ?_;rintro e w5 ⟨u,rfl,R5,x5⟩
 obtain ⟨K,hK⟩:∃K,(s.ps[q]'hq).code=K:=⟨_,rfl⟩
 have HKK:=hid (show K.small by rw [<-hK];exact ⟨by have:=code_len (Prg.chkB_K HCH.out);omega,by show ((s.ps[q]'hq).gs.map (·.name)).length<=1048576;rw [List.length_map];exact HSP.out.2.2⟩);have HKD:=hid hK;rw [hK] at R5;obtain ⟨a5,c5,a6,c6,rfl,-,-⟩:=R5.form;have y5:Ext w5 (w5.alloc (.cells #[.slice a5 K.xs.length c5,.slice a6 K.ls.length c6] 126)):=X_;have bC:=Blk.new w5 126 [.slice a5 K.xs.length c5,.slice a6 K.ls.length c6];have HC5:=hid (R5.ext (Nat.le_refl _) y5);have X5:=hid (X1.out.trans (x5.trans y5));have S5:=HS1.out.ext (x5.trans y5);have HS5:=hid S5;have HH5:=hid (HH1.out.ext (x5.trans y5));have A5:=HA1.out.ext (x5.trans y5);have HA5:=hid A5;have HB5:=hid bC;have z5:=(x5.trans y5).size;have zw5:=y5.size;have zx5:=x5.size;have d7:=S5.cell 7 rfl;have d8:=S5.cell 8 rfl;have ls5:=S5.lt;obtain ⟨e0,e1,e2,e3,e4,e5,e6,e7,e8,e9,e10,e11⟩:=A5.q12;have e25:=A5.cell 25 rfl;have lA5:=A5.lt;have ZF:=hid (show w.heap.size+2<=(w5.alloc (.cells #[.slice a5 K.xs.length c5,.slice a6 K.ls.length c6] 126)).heap.size by have:=ZA.out;omega);clear R5 x5 y5 bC S5 A5 d9 ls1 e24 lA k1 k2 hK HS1 HH1 HA1 HR;go_wp2_with fail;refine (iGridOf_any lo hi f HPF.out n ⟨hn1,hn8⟩ _ s.t _ (hTR.out _ X5.out) (Nat.le_trans hh X5.out.size) HTO.out).mono ?_;rintro e w6 ⟨gv,rfl,R6,x6⟩
 obtain ⟨g1,g2,hg⟩:∃g:Grd,gridP f n s.t=g/\True:=⟨_,rfl,trivial⟩
 have HGD:=hid g2;rw [g2] at R6;obtain ⟨a7,c7,a8,c8,rfl⟩:=Grd.R.formS R6;have y6:Ext w6 (w6.alloc (.cells #[g1.n,.slice a7 g1.m c7,g1.tm,g1.t.log,.slice a8 g1.t.px.length c8] 135)):=X_;have bG:=Blk.new w6 135 [g1.n,.slice a7 g1.m c7,g1.tm,g1.t.log,.slice a8 g1.t.px.length c8];have HG6:=hid (R6.ext (Nat.le_refl _) y6);have X6:=hid (X5.out.trans (x6.trans y6));have HH6:=hid (HH5.out.ext (x6.trans y6));have B6:=HB5.out.ext (x6.trans y6);have HC6:=hid (HC5.out.ext (by have:=zw5;omega) (x6.trans y6));have z6:=(x6.trans y6).size;have zw6:=y6.size;obtain ⟨f0,f1⟩:=B6.q2;have lB6:=B6.lt;obtain ⟨i0,i1,i2,i3,i4⟩:=bG.q5;have lG:=bG.lt;clear R6 x6 y6 bG B6 hg g2 d7 d8 ls5 e0 e1 e2 e3 e4 e5 e6 e7 e8 e9 e10 e11 e25 lA5;go_wp2_with fail
 have hS:∃X Y bb,K.shade g1=(X,Y,bb):=⟨_,_,_,rfl⟩
 obtain ⟨X,Y,bb,hXY⟩:=hS
 have hXY2:(s.shade k).1=X/\(s.shade k).2=Y:=by
  rw [HSD.out,HKD.out,HGD.out,hXY];exact ⟨rfl,rfl⟩
 have HE:=hid hXY2;have HXY:=hid hXY;clear hXY hXY2;refine (iShadeGrid_any _ _ _ _ _ _ K g1 _ HXY.out HC6.out (by omega) HG6.out (by omega) HKK.out).mono ?_;rintro e w7 ⟨r1,r2,rfl,h,hh1,hh2,O1,O2,x7⟩;obtain ⟨ra,rc,rfl⟩:=O1.form;obtain ⟨sa,sc,rfl⟩:=O2.form;have B7:=HH6.out.ext x7;have HB7:=hid B7;have X7:=hid (X6.out.trans x7);have HO1:=hid O1;have HO2:=hid O2;obtain ⟨p0,p1⟩:=B7.q2;have q0:=B7.free 0;have q1:=B7.free 1;have lB7:=B7.lt;clear B7 O1 O2 x7 f0 f1 lB6 i0 i1 i2 i3 i4 lG;go_wp2;have bF:=(HB7.out.set 0 (.slice ra X.length rc)).set 1 (.slice sa Y.length sc);refine ret_box rfl rfl bF _ Tryz.underlying92 rfl info_shd rfl ?_;have ZA2:=ZF.out;refine ⟨_,_,rfl,h,by omega,by rw [World.size_setCell,World.size_setCell];exact hh2,?_,?_,?_⟩
 ·rw [HE.out.1]
  exact ((HO1.out.setLow (p:=⟨w.heap.size+1,0,none⟩) (by simp only;omega) _).setLow (p:=⟨w.heap.size+1,1,none⟩) (by simp only;omega) _).low' (by omega)
 ·rw [HE.out.2,World.size_setCell,World.size_setCell]
  exact (HO2.out.setLow (p:=⟨w.heap.size+1,0,none⟩) (by simp only;omega) _).setLow (p:=⟨w.heap.size+1,1,none⟩) (by simp only;omega) _
 ·exact Ext.setCell (Ext.setCell X7.out (by simp only;omega) _) (by simp only;omega) _
theorem Scn.R.formV {s:Scn} {lo hi:Nat} {w:World} {v:Value} (h:s.R lo hi w v):∃a1 c1 a2 c2 a3 c3,v = .agg #[s.c.w,s.c.h,s.c.zoom,s.c.near,.bool s.c.deep,s.c.lens,s.c.focus,s.t.log,.slice a1 s.t.px.length c1,.slice a2 s.ps.length c2,.slice a3 s.m c3,s.side]:=by
 obtain ⟨a1,c1,a2,c2,a3,c3,e,_⟩:=h.form;exact ⟨a1,c1,a2,c2,a3,c3,e⟩
theorem Scn.R.mlt {s:Scn} {lo hi:Nat} {w:World} {v:Value} (h:s.R lo hi w v):(s.m:Int)<=9223372036854775807:=by
 obtain ⟨a1,c1,a2,c2,a3,c3,e,-,-,-,-,-,h3⟩:=h.form;have h1:=h3.le;have h2:=h3.cap;omega
theorem iHasSurface_any (s:Scn) (lo hi:Nat) (v:Value) (k:Int) (w:World) (hv:s.R lo hi w v) (hh:hi<=w.heap.size) (hsm:s.small) {r:Bool} (hr:(s.okB&&inB k 0 ((s.m:Int) - 1))=r) :
  Calls Tryz.prog 38 #[v,k] w fun e w'=>e = .returned (.bool r)/\Ext w w':=by
 have HV:=hid hv;have hm:=hv.mlt;obtain ⟨a1,c1,a2,c2,a3,c3,rfl⟩:=hv.formV;have HSM:=hid hsm;have x1:Ext w (w.alloc (.cells #[s.c.w,s.c.h,s.c.zoom,s.c.near,.bool s.c.deep,s.c.lens,s.c.focus,s.t.log,.slice a1 s.t.px.length c1,.slice a2 s.ps.length c2,.slice a3 s.m c3,s.side] 31)):=X_;have bS:=Blk.new w 31 [s.c.w,s.c.h,s.c.zoom,s.c.near,.bool s.c.deep,s.c.lens,s.c.focus,s.t.log,.slice a1 s.t.px.length c1,.slice a2 s.ps.length c2,.slice a3 s.m c3,s.side];have HX:=hid x1;have HB:=hid bS
 obtain ⟨b,hb⟩:∃b,s.okB=b:=⟨_,rfl⟩
 rw [hb] at hr;have HO:=hid hb;clear hv hsm x1 bS hb
 cases b
 ·have hr2:false=r:=hr
  subst hr2;go_enter Tryz.func38,Tryz.ntmps38;go_wp2_with fail;refine (iIsValidScene_any s lo hi _ _ (HV.out.ext hh HX.out) (Nat.le_trans hh HX.out.size) HSM.out).mono ?_;rw [HO.out];rintro e w3 ⟨rfl,x3⟩;have y3:=HX.out.trans x3;go_wp2;go_ret;exact ⟨rfl,y3⟩
 ·have hr2:inB k 0 ((s.m:Int) - 1)=r:=hr
  have HR:=hid hr2;clear hr hr2;go_enter Tryz.func38,Tryz.ntmps38;go_wp2_with fail;refine (iIsValidScene_any s lo hi _ _ (HV.out.ext hh HX.out) (Nat.le_trans hh HX.out.size) HSM.out).mono ?_;rw [HO.out];rintro e w3 ⟨rfl,x3⟩;have b3:=HB.out.ext x3;have y3:=hid (HX.out.trans x3);have c10:=b3.cell 10 rfl;have l3:=b3.lt;clear b3 x3;go_wp2_with (go_at_call 54;refine (within_val HR.out _).mono ?_;rintro e w4 ⟨rfl,rfl⟩);go_ret;exact ⟨rfl,y3.out⟩
theorem iSurfaceFragments_any (s:Scn) (lo hi:Nat) (v:Value) (k:Nat) (p:Smp) (w:World) (hv:s.R lo hi w v) (hh:hi<=w.heap.size) (ho:s.Ok) (hsm:s.small) (hk:k<s.m) (hp:p.okB s.c=true) :
  Calls Tryz.prog 11 #[v,(k:Nat),.agg #[p.x,p.y,p.t,p.lx,p.ly]] w fun e w'=>∃r,e = .returned r/\OwnG Frag.cs w.heap.size 47 5 w' r (s.hits k p)/\Ext w w':=by
 have HV:=hid hv;have hm:=hv.mlt;obtain ⟨a1,c1,a2,c2,a3,c3,rfl⟩:=hv.formV;obtain ⟨q,n,h1,h2,h3,h4,h5,h6,-⟩:=ho.at hk;have hlen:=ho.shade hk;rw [h3,Int.toNat_natCast] at hlen
 have hb:(s.okB&&inB (k:Int) 0 ((s.m:Int) - 1))=true:=by
  rw [Scn.okB_iff.2 ho,Bool.true_and,inB_iff];omega
 have HSM:=hid hsm;have HBB:=hid hb;have HP:=hid hp;have HO:=hid ho;have HRT:=hid h3;have HLEN:=hid hlen;have x2:Ext w ((w.alloc (.cells #[s.c.w,s.c.h,s.c.zoom,s.c.near,.bool s.c.deep,s.c.lens,s.c.focus,s.t.log,.slice a1 s.t.px.length c1,.slice a2 s.ps.length c2,.slice a3 s.m c3,s.side] 31)).alloc (.cells #[p.x,p.y,p.t,p.lx,p.ly] 34)):=X_;have bS:=(Blk.new w 31 [s.c.w,s.c.h,s.c.zoom,s.c.near,.bool s.c.deep,s.c.lens,s.c.focus,s.t.log,.slice a1 s.t.px.length c1,.slice a2 s.ps.length c2,.slice a3 s.m c3,s.side]).ext (show Ext (w.alloc (.cells #[s.c.w,s.c.h,s.c.zoom,s.c.near,.bool s.c.deep,s.c.lens,s.c.focus,s.t.log,.slice a1 s.t.px.length c1,.slice a2 s.ps.length c2,.slice a3 s.m c3,s.side] 31)) ((w.alloc (.cells #[s.c.w,s.c.h,s.c.zoom,s.c.near,.bool s.c.deep,s.c.lens,s.c.focus,s.t.log,.slice a1 s.t.px.length c1,.slice a2 s.ps.length c2,.slice a3 s.m c3,s.side] 31)).alloc (.cells #[p.x,p.y,p.t,p.lx,p.ly] 34)) from X_)
 have bP:Blk ((w.alloc (.cells #[s.c.w,s.c.h,s.c.zoom,s.c.near,.bool s.c.deep,s.c.lens,s.c.focus,s.t.log,.slice a1 s.t.px.length c1,.slice a2 s.ps.length c2,.slice a3 s.m c3,s.side] 31)).alloc (.cells #[p.x,p.y,p.t,p.lx,p.ly] 34)) (w.heap.size+1) 34 [p.x,p.y,p.t,p.lx,p.ly]:=by
  have h:=Blk.new (w.alloc (.cells #[s.c.w,s.c.h,s.c.zoom,s.c.near,.bool s.c.deep,s.c.lens,s.c.focus,s.t.log,.slice a1 s.t.px.length c1,.slice a2 s.ps.length c2,.slice a3 s.m c3,s.side] 31)) 34 [p.x,p.y,p.t,p.lx,p.ly];rw [World.size_alloc] at h;exact h
 have z2:((w.alloc (.cells #[s.c.w,s.c.h,s.c.zoom,s.c.near,.bool s.c.deep,s.c.lens,s.c.focus,s.t.log,.slice a1 s.t.px.length c1,.slice a2 s.ps.length c2,.slice a3 s.m c3,s.side] 31)).alloc (.cells #[p.x,p.y,p.t,p.lx,p.ly] 34)).heap.size=w.heap.size+2:=by simp
 have HX:=hid x2;have HS:=hid bS;have HM:=hid bP;clear hv hsm hb hp ho h1 h2 h3 h6 hlen x2 bS bP z2;go_enter Tryz.func11,Tryz.ntmps11;go_wp2_with fail;refine (iHasSurface_any s lo hi _ (k:Nat) _ (HV.out.ext hh HX.out) (Nat.le_trans hh HX.out.size) HSM.out HBB.out).mono ?_;rintro e w3 ⟨rfl,x3⟩;have b3:=HS.out.ext x3;have m3:=HM.out.ext x3;have X3:=hid (HX.out.trans x3);obtain ⟨c0,c1,c2,c3,c4,c5,c6,c7,c8,c9,c10,c11⟩:=b3.q12;obtain ⟨d0,d1,d2,d3,d4⟩:=m3.q5;have l3:=b3.lt;have lm3:=m3.lt;have HS3:=hid b3;have HM3:=hid m3;clear b3 m3 x3 HX HS HM;go_wp2_with fail;refine (iIsValidSample_any s.c p _).mono ?_;rw [HP.out];rintro e w4 ⟨rfl,x4⟩;have b4:=HS3.out.ext x4;have m4:=HM3.out.ext x4;have X4:=hid (X3.out.trans x4);clear c0 c1 c2 c3 c4 c5 c6 c7 c8 c9 c10 c11 d0 d1 d2 d3 d4 l3 lm3 x4;obtain ⟨c0,c1,c2,c3,c4,c5,c6,c7,c8,c9,c10,c11⟩:=b4.q12;obtain ⟨d0,d1,d2,d3,d4⟩:=m4.q5;have l3:=b4.lt;have lm3:=m4.lt;clear b4 m4;go_upto_region 3 with fail;refine wp_region_stages [([0,1,2,3,4],5),([],6),([],7)] 7 w4.heap.size (by kernel_rfl) (by kernel_rfl) ?_;refine wpStages_cons ?_;simp only [List.filterMap_cons,List.filterMap_nil,List.getElem?_toArray,List.getElem?_cons_zero,List.getElem?_cons_succ]
 show wpQuiet _ _ _ _ [_,_,_,_,_] _
 repeat (go_big_quiet_step (fail))
 refine wpQuiet_nil ⟨_,rfl,fun K hK=>?_⟩;go_wp2_with fail;have xd:Ext w w4.drew:=X4.out.trans (Ext.drew (Ext.refl _));refine (iShade_any s lo hi _ k _ (HV.out.ext hh xd) (Nat.le_trans hh xd.size) HO.out HSM.out hk).mono ?_;rintro e w5 ⟨r1,r2,rfl,h,hh1,hh2,O1,O2,x5⟩;have y5:Ext w4 w5:=Ext.trans (Ext.drew (Ext.refl _)) x5;obtain ⟨ra,rc,rfl⟩:=O1.form;obtain ⟨sa,sc,rfl⟩:=O2.form;have X5:=hid (X4.out.trans y5);have I1:=hid (O1.1.ints.wide (Nat.zero_le _) (Nat.le_refl _));have I2:=hid (O2.1.ints.wide (Nat.zero_le _) (Nat.le_refl _));clear O1 O2 x5 xd hh1 hh2;go_wp2_with fail;refine hK _ _ (.inr (y5.same (Nat.le_refl _))) ?_;clear hK K;refine st_ fun K hK=>?_;go_wp2_with fail;refine (iHits_any s lo hi _ k p n _ _ _ _ _ (HV.out.ext hh X5.out) (Nat.le_trans hh X5.out.size) hk HRT.out ⟨h4,h5⟩ HP.out I1.out I2.out HLEN.out.1 HLEN.out.2).mono ?_;rintro e w6 ⟨r,rfl,O6,x6⟩;obtain ⟨ta,tc,rfl,tl⟩:=OwnG.form O6;have y6:=y5.trans x6;have X6:=hid (X5.out.trans x6);have HO6:=hid O6;have hE:=hid (show hitsL s.c (midP (s.st k) (s.en k) p.t) n p (k:Nat) (s.shade k).1 (s.shade k).2=s.hits k p by unfold Scn.hits;rw [HRT.out,Int.toNat_natCast]);clear O6 x6 tl;go_wp2_with fail;refine hK _ _ (.inr (y6.same (Nat.le_refl _))) ?_;clear hK K y5 y6;refine st_ fun K hK=>?_;go_wp2_with fail;refine hK _ _ (.inl (by trivial)) ?_;clear hK K;refine wpStages_nil ?_;go_wp2;go_ret;refine ⟨_,rfl,?_,X6.out⟩;have h6:=OwnG.low HO6.out (lo':=w.heap.size) X5.out.size;rw [hE.out] at h6 ⊢;exact h6
end Go.Proofs.YtfjbiifebcfjfaaGreat
