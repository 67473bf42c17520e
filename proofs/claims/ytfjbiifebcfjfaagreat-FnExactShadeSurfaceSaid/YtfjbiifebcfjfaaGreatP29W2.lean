/- Texts of this claim, one behind another; what its theorem does not use is left out: Sh4, L16a, L15j, L15k, Sh5, LawLook, Sh6, Sh7, Sh8, Sh9, Sh10, Sh11, Sh12, Sh13, Sh14, Sh15, Gr1, Sh16, Sh17, Cl1, Lk1, Lk2, Lk3, Lk4, Lk5, Cd1, Cd2, Cd3, Cd4, Cd5, Cd6, Lk6, Lk7, Pr1, Ck1, Tk1. -/
import Derived.Test.YtfjbiifebcfjfaaGreatP29W1
import Derived.Maps.Own
import Derived.WideMake
import Derived.Lib.SmallJoins
import Derived.Laws.BytesString
import Derived.Lib.OthersKept
import Derived.Laws.RangeAny
set_option linter.unusedSimpArgs false
set_option linter.unusedVariables false
set_option maxRecDepth 100000
set_option maxHeartbeats 12800000
namespace Go.Proofs.YtfjbiifebcfjfaaGreat
open Go.RowKit
def opsOk (op:Int):Prop:=3≤op∧op≤7
theorem iArith3 {a b c:Int} (ha:S9 a) (hb:S9 b) (h:satI (-b)=c) (w:World):Calls Tryz.prog 315 #[.int .i64 3,.int .i64 a,.int .i64 b] w fun e w'=>e = .returned (.int .i64 c)∧w=w':=by
 have hm:=mul9 ha hb;have KA:=hid ha;have KB:=hid hb;obtain ⟨a1,a2⟩:=ha;obtain ⟨b1,b2⟩:=hb;have HR:=hid h;clear h;go_enter Tryz.func315,Tryz.ntmps315;go_wp2_with fail;refine (iSaturate_val HR.out _).mono ?_;rintro e w1 ⟨rfl,rfl⟩;go_wp2;go_ret;exact ⟨rfl,rfl⟩
theorem iArith4 {a b c:Int} (ha:S9 a) (hb:S9 b) (h:satI (a+b)=c) (w:World):Calls Tryz.prog 315 #[.int .i64 4,.int .i64 a,.int .i64 b] w fun e w'=>e = .returned (.int .i64 c)∧w=w':=by
 have hm:=mul9 ha hb;have KA:=hid ha;have KB:=hid hb;obtain ⟨a1,a2⟩:=ha;obtain ⟨b1,b2⟩:=hb;have HR:=hid h;clear h;go_enter Tryz.func315,Tryz.ntmps315;go_wp2_with fail;refine (iSaturate_val HR.out _).mono ?_;rintro e w1 ⟨rfl,rfl⟩;go_wp2;go_ret;exact ⟨rfl,rfl⟩
theorem iArith5 {a b c:Int} (ha:S9 a) (hb:S9 b) (h:satI (a - b)=c) (w:World):Calls Tryz.prog 315 #[.int .i64 5,.int .i64 a,.int .i64 b] w fun e w'=>e = .returned (.int .i64 c)∧w=w':=by
 have hm:=mul9 ha hb;have KA:=hid ha;have KB:=hid hb;obtain ⟨a1,a2⟩:=ha;obtain ⟨b1,b2⟩:=hb;have HR:=hid h;clear h;go_enter Tryz.func315,Tryz.ntmps315;go_wp2_with fail;refine (iSaturate_val HR.out _).mono ?_;rintro e w1 ⟨rfl,rfl⟩;go_wp2;go_ret;exact ⟨rfl,rfl⟩
theorem iArith6 {a b c:Int} (ha:S9 a) (hb:S9 b) (h:satI (fdiv (a*b) 256)=c) (w:World):Calls Tryz.prog 315 #[.int .i64 6,.int .i64 a,.int .i64 b] w fun e w'=>e = .returned (.int .i64 c)∧w=w':=by
 have hm:=mul9 ha hb;have KA:=hid ha;have KB:=hid hb;obtain ⟨a1,a2⟩:=ha;obtain ⟨b1,b2⟩:=hb
 obtain ⟨q,hq⟩:∃q,fdiv (a*b) 256=q:=⟨_,rfl⟩
 rw [hq] at h;have HR:=hid h;have HQ:=hid hq;clear h hq;go_enter Tryz.func315,Tryz.ntmps315;go_wp2_with fail;refine (iFloorDiv_val (I64.mk (by omega) (by omega)) HQ.out _).mono ?_;rintro e w1 ⟨rfl,rfl⟩;go_wp2_with fail;refine (iSaturate_val HR.out _).mono ?_;rintro e w1 ⟨rfl,rfl⟩;go_wp2;go_ret;exact ⟨rfl,rfl⟩
theorem iArith7 {a b c:Int} (ha:S9 a) (hb:S9 b) (h:satI (ratI a b)=c) (w:World):Calls Tryz.prog 315 #[.int .i64 7,.int .i64 a,.int .i64 b] w fun e w'=>e = .returned (.int .i64 c)∧w=w':=by
 have hm:=mul9 ha hb;have KA:=hid ha;have KB:=hid hb;obtain ⟨a1,a2⟩:=ha;obtain ⟨b1,b2⟩:=hb
 obtain ⟨q,hq⟩:∃q,ratI a b=q:=⟨_,rfl⟩
 rw [hq] at h;have HR:=hid h;have HQ:=hid hq;clear h hq;go_enter Tryz.func315,Tryz.ntmps315;go_wp2_with fail;refine (iRatio_val KA.out KB.out HQ.out _).mono ?_;rintro e w1 ⟨rfl,rfl⟩;go_wp2_with fail;refine (iSaturate_val HR.out _).mono ?_;rintro e w1 ⟨rfl,rfl⟩;go_wp2;go_ret;exact ⟨rfl,rfl⟩
theorem iArith_any {op a b c:Int} (ho:opsOk op) (ha:S9 a) (hb:S9 b) (h:arithI op a b=c) (w:World):Calls Tryz.prog 315 #[.int .i64 op,.int .i64 a,.int .i64 b] w fun e w'=>e = .returned (.int .i64 c)∧w=w':=by
 obtain ⟨h1,h2⟩:=ho;unfold arithI opI at h
 rcases (show op=3∨op=4∨op=5∨op=6∨op=7 by omega) with rfl|rfl|rfl|rfl|rfl
 ·exact iArith3 ha hb (by simpa using h) w
 ·exact iArith4 ha hb (by simpa using h) w
 ·exact iArith5 ha hb (by simpa using h) w
 ·exact iArith6 ha hb (by simpa using h) w
 ·exact iArith7 ha hb (by simpa using h) w
theorem sOp3 (lo hi:Nat) (u:Value) {a c:Int} (ha:S9 a) (h : -a=c) (w:World) (hu:Ints lo hi w u [a]) (hh:hi≤w.heap.size):Calls Tryz.prog 248 #[.int .i64 3,u] w fun e w'=>e = .returned (.int .i64 c)∧Ext w w':=by
 obtain ⟨k,off,cap,rfl,hb,d0,_⟩:=row1 hu
 have hb1:k<w.heap.size:=by omega
 have hb2:k≠w.heap.size:=by omega
 obtain ⟨a1,a2⟩:=ha;have HR:=hid h;clear h hu;go_enter Tryz.func248,Tryz.ntmps248;go_wp2;rw [HR.out];go_ret;exact ⟨rfl,S_⟩
theorem sOp4 (lo hi:Nat) (u:Value) {a b c:Int} (ha:S9 a) (hb:S9 b) (h:a+b=c) (w:World) (hu:Ints lo hi w u [a,b]) (hh:hi≤w.heap.size):Calls Tryz.prog 248 #[.int .i64 4,u] w fun e w'=>e = .returned (.int .i64 c)∧Ext w w':=by
 obtain ⟨k,off,cap,rfl,hbk,d0,d1,_⟩:=row2 hu
 have hb1:k<w.heap.size:=by omega
 have hb2:k≠w.heap.size:=by omega
 have hm:=mul9 ha hb;have KA:=hid ha;have KB:=hid hb;obtain ⟨b1,b2⟩:=hb;obtain ⟨a1,a2⟩:=ha;have HR:=hid h;clear h hu;go_enter Tryz.func248,Tryz.ntmps248;go_wp2_with fail;refine wp_region_stages [([0,1,2,3,4,5,6],7)] 99 w.heap.size (by kernel_rfl) (by kernel_rfl) ?_;refine wpStages_cons ?_;simp only [List.filterMap_cons,List.filterMap_nil,List.getElem?_toArray,List.getElem?_cons_zero,List.getElem?_cons_succ]
 show wpQuiet _ _ _ _ [_,_,_,_,_,_,_] _
 repeat (go_big_quiet_step (fail))
 refine wpQuiet_nil ⟨_,rfl,fun K hK=>?_⟩;go_wp2_with fail;refine hK _ _ (.inr (fun k _ hk=>Ext.block X_ (by first|omega|(simp;omega)))) ?_;clear hK K;refine wpStages_nil ?_;go_wp2;rw [HR.out];go_ret;exact ⟨rfl,S_⟩
theorem sOp5 (lo hi:Nat) (u:Value) {a b c:Int} (ha:S9 a) (hb:S9 b) (h:a - b=c) (w:World) (hu:Ints lo hi w u [a,b]) (hh:hi≤w.heap.size):Calls Tryz.prog 248 #[.int .i64 5,u] w fun e w'=>e = .returned (.int .i64 c)∧Ext w w':=by
 obtain ⟨k,off,cap,rfl,hbk,d0,d1,_⟩:=row2 hu
 have hb1:k<w.heap.size:=by omega
 have hb2:k≠w.heap.size:=by omega
 have hm:=mul9 ha hb;have KA:=hid ha;have KB:=hid hb;obtain ⟨b1,b2⟩:=hb;obtain ⟨a1,a2⟩:=ha;have HR:=hid h;clear h hu;go_enter Tryz.func248,Tryz.ntmps248;go_wp2_with fail;refine wp_region_stages [([0,1,2,3,4,5,6],7)] 99 w.heap.size (by kernel_rfl) (by kernel_rfl) ?_;refine wpStages_cons ?_;simp only [List.filterMap_cons,List.filterMap_nil,List.getElem?_toArray,List.getElem?_cons_zero,List.getElem?_cons_succ]
 show wpQuiet _ _ _ _ [_,_,_,_,_,_,_] _
 repeat (go_big_quiet_step (fail))
 refine wpQuiet_nil ⟨_,rfl,fun K hK=>?_⟩;go_wp2_with fail;refine hK _ _ (.inr (fun k _ hk=>Ext.block X_ (by first|omega|(simp;omega)))) ?_;clear hK K;refine wpStages_nil ?_;go_wp2;rw [HR.out];go_ret;exact ⟨rfl,S_⟩
theorem sOp6 (lo hi:Nat) (u:Value) {a b c:Int} (ha:S9 a) (hb:S9 b) (h:fdiv (a*b) 256=c) (w:World) (hu:Ints lo hi w u [a,b]) (hh:hi≤w.heap.size):Calls Tryz.prog 248 #[.int .i64 6,u] w fun e w'=>e = .returned (.int .i64 c)∧Ext w w':=by
 obtain ⟨k,off,cap,rfl,hbk,d0,d1,_⟩:=row2 hu
 have hb1:k<w.heap.size:=by omega
 have hb2:k≠w.heap.size:=by omega
 have hm:=mul9 ha hb;have KA:=hid ha;have KB:=hid hb;obtain ⟨b1,b2⟩:=hb;obtain ⟨a1,a2⟩:=ha;have HR:=hid h;clear h hu;go_enter Tryz.func248,Tryz.ntmps248;go_wp2_with fail;refine wp_region_stages [([0,1,2,3,4,5,6],7),([],8)] 99 w.heap.size (by kernel_rfl) (by kernel_rfl) ?_;refine wpStages_cons ?_;simp only [List.filterMap_cons,List.filterMap_nil,List.getElem?_toArray,List.getElem?_cons_zero,List.getElem?_cons_succ]
 show wpQuiet _ _ _ _ [_,_,_,_,_,_,_] _
 repeat (go_big_quiet_step (fail))
 refine wpQuiet_nil ⟨_,rfl,fun K hK=>?_⟩;go_wp2_with fail;refine (sFloorDiv_val (I64.mk (by omega) (by omega)) HR.out _).mono ?_;rintro e w1 ⟨rfl,rfl⟩;go_wp2_with fail;refine hK _ _ (.inr (fun k _ hk=>Ext.block X_ (by first|omega|(simp;omega)))) ?_;clear hK K;refine wpStages_cons ?_;simp only [List.filterMap_nil]
 show wpQuiet _ _ _ _ [] _
 try simp only [Act.put,List.setIfInBounds_toArray,List.set_cons_succ,List.set_cons_zero]
 repeat (go_big_quiet_step (fail))
 refine wpQuiet_nil ⟨_,rfl,fun K hK=>?_⟩;go_wp2_with fail;refine hK _ _ (.inr (fun k _ hk=>Ext.block X_ (by first|omega|(simp;omega)))) ?_;clear hK K;refine wpStages_nil ?_;go_wp2;go_ret;exact ⟨rfl,S_⟩
theorem sOp7 (lo hi:Nat) (u:Value) {a b c:Int} (ha:S9 a) (hb:S9 b) (h:ratI a b=c) (w:World) (hu:Ints lo hi w u [a,b]) (hh:hi≤w.heap.size):Calls Tryz.prog 248 #[.int .i64 7,u] w fun e w'=>e = .returned (.int .i64 c)∧Ext w w':=by
 obtain ⟨k,off,cap,rfl,hbk,d0,d1,_⟩:=row2 hu
 have hb1:k<w.heap.size:=by omega
 have hb2:k≠w.heap.size:=by omega
 have hm:=mul9 ha hb;have KA:=hid ha;have KB:=hid hb;obtain ⟨b1,b2⟩:=hb;obtain ⟨a1,a2⟩:=ha;have HR:=hid h;clear h hu;go_enter Tryz.func248,Tryz.ntmps248;go_wp2_with fail;refine wp_region_stages [([0,1,2,3,4,5,6],7),([],8)] 99 w.heap.size (by kernel_rfl) (by kernel_rfl) ?_;refine wpStages_cons ?_;simp only [List.filterMap_cons,List.filterMap_nil,List.getElem?_toArray,List.getElem?_cons_zero,List.getElem?_cons_succ]
 show wpQuiet _ _ _ _ [_,_,_,_,_,_,_] _
 repeat (go_big_quiet_step (fail))
 refine wpQuiet_nil ⟨_,rfl,fun K hK=>?_⟩;go_wp2_with fail;refine (sQuotient_val KA.out KB.out HR.out _).mono ?_;rintro e w1 ⟨rfl,rfl⟩;go_wp2_with fail;refine hK _ _ (.inr (fun k _ hk=>Ext.block X_ (by first|omega|(simp;omega)))) ?_;clear hK K;refine wpStages_cons ?_;simp only [List.filterMap_nil]
 show wpQuiet _ _ _ _ [] _
 try simp only [Act.put,List.setIfInBounds_toArray,List.set_cons_succ,List.set_cons_zero]
 repeat (go_big_quiet_step (fail))
 refine wpQuiet_nil ⟨_,rfl,fun K hK=>?_⟩;go_wp2_with fail;refine hK _ _ (.inr (fun k _ hk=>Ext.block X_ (by first|omega|(simp;omega)))) ?_;clear hK K;refine wpStages_nil ?_;go_wp2;go_ret;exact ⟨rfl,S_⟩
def opArgs (op a b:Int):List Int:=if op=3 then [b] else [a,b]
theorem sOp_any (lo hi:Nat) (u:Value) {op a b c:Int} (ho:opsOk op) (ha:S9 a) (hb:S9 b) (h:opI op a b=c) (w:World) (hu:Ints lo hi w u (opArgs op a b)) (hh:hi≤w.heap.size) :
  Calls Tryz.prog 248 #[.int .i64 op,u] w fun e w'=>e = .returned (.int .i64 c)∧Ext w w':=by
 obtain ⟨h1,h2⟩:=ho;unfold opI at h
 rcases (show op=3∨op=4∨op=5∨op=6∨op=7 by omega) with rfl|rfl|rfl|rfl|rfl
 ·exact sOp3 lo hi u hb (by simpa using h) w hu hh
 ·exact sOp4 lo hi u ha hb (by simpa using h) w hu hh
 ·exact sOp5 lo hi u ha hb (by simpa using h) w hu hh
 ·exact sOp6 lo hi u ha hb (by simpa using h) w hu hh
 ·exact sOp7 lo hi u ha hb (by simpa using h) w hu hh
theorem l15Size_val {l:Int} {m:Nat} (h0:0≤l) (h4:l≤4) (hm:2 ^ l.toNat=m) (w:World) :
  Calls Tryz.prog 185 #[.int .i64 l] w fun e w'=>e = .returned (.int .i64 m)∧w=w':=by
 subst hm;exact l15Size_tex (t:=⟨l,[]⟩) h0 h4 w
theorem sMipLevel_val {t t2:Tex} {l:Int} {b:Bool} (h:t.mipR l=(t2,b)) (lo hi:Nat) (v:Value) (w:World) (hv:TexR lo hi w v t) (hh:hi≤w.heap.size) :
  Calls Tryz.prog 305 #[v,.int .i64 l] w fun e w'=>∃v',e = .returned (.tuple #[v',.bool b])∧OwnTex w.heap.size w' v' t2∧Ext w w':=by
 have:=sMipLevel_any lo hi v t l w hv hh;rw [h] at this;exact this
def Tex.lookR (t:Tex) (u v l:Int):Int:=if t.okB then (t.mip (clampI l 0 t.log).toNat).look u v else 0
theorem clampI_bd {l L:Int} (h:0≤L):0≤clampI l 0 L∧clampI l 0 L≤L:=by
 unfold clampI
 split
 ·omega
 ·split <;> omega
theorem l02N_val {n c:Int} (h:clampI n (-1000000) 1000000=c) (w:World):Calls Tryz.prog 242 #[.int .i64 n] w fun e w'=>e = .returned (.int .i64 c)∧w=w':=by
 go_enter Tryz.func242,Tryz.ntmps242;go_wp2_with fail;refine (sClamp_val h _).mono ?_;rintro e w1 ⟨rfl,rfl⟩;go_wp2;go_ret;exact ⟨rfl,rfl⟩
structure LSt (w wr:World) (m:Tex) (A:Nat) (a:Option Addr) (c:Nat):Prop where
 ext:Ext w wr
 box:TBox wr A (.int .i64 m.log) (.slice a m.px.length c)
 tex:TexR 0 wr.heap.size wr (.agg #[.int .i64 m.log,.slice a m.px.length c]) m
theorem LSt.to {w wr w':World} {m:Tex} {A:Nat} {a:Option Addr} {c:Nat} (h:LSt w wr m A a c) (e:Ext wr w'):LSt w w' m A a c:=
 ⟨h.ext.trans e,h.box.ext e,(h.tex.ext (Nat.le_refl _) e).wide (Nat.le_refl _) e.size⟩
theorem sLookup_any (lo hi:Nat) (v:Value) (t:Tex) (ua va l:Int) (w:World) (hv:TexR lo hi w v t) (hh:hi≤w.heap.size) :
  Calls Tryz.prog 285 #[v,.int .i64 ua,.int .i64 va,.int .i64 l] w fun e w'=>e = .returned (.int .i64 (t.lookR ua va l))∧Ext w w':=by
 obtain ⟨u,rfl,hlog⟩:=hv.shape;have HV:=hid hv;clear hv
 by_cases hb:t.okB=true
 ·have ht:=Tex.okB_iff.1 hb
  obtain ⟨c0,c4⟩:=clampI_bd (l:=l) ht.log0
  have e1:t.lookR ua va l=(t.mip (clampI l 0 t.log).toNat).look ua va:=by unfold Tex.lookR;rw [if_pos hb]
  rw [e1]
  obtain ⟨c,hc⟩:∃c,clampI l 0 t.log=c:=⟨_,rfl⟩
  rw [hc] at c0 c4 ⊢;have hm:=(ht.mip c.toNat (by omega)).1
  have hr:t.mipR c=(t.mip c.toNat,true):=by unfold Tex.mipR;rw [if_pos (by simp only [Bool.and_eq_true,inB_iff];exact ⟨hb,c0,c4⟩)]
  obtain ⟨m,hmm⟩:∃m,t.mip c.toNat=m:=⟨_,rfl⟩
  rw [hmm] at hm hr ⊢;have HR:=hid hr;have HB:=hid hb;have HC:=hid hc;have HM:=hid hm;have M0:=hm.log0;have M4:=hm.log4;have x1:=posX_bd ua hm.n_pos hm.n_le;have x2:=posX_bd va hm.n_pos hm.n_le;have g1:=posF_bd ua m.n;have g2:=posF_bd va m.n;have s1:=posS_prod ua hm.n_pos hm.n_le;have s2:=posS_prod va hm.n_pos hm.n_le;have t1:=posF_eq ua m.n;have t2:=posF_eq va m.n;have y1:fdiv (posS ua m.n) 256=posX ua m.n:=rfl;have y2:fdiv (posS va m.n) 256=posX va m.n:=rfl;unfold posS at t1 t2 y1 y2;unfold Tex.look
  obtain ⟨n,hn⟩:∃n,m.n=n:=⟨_,rfl⟩
  have HN:=hid (show 2 ^ m.log.toNat=n from hn);rw [hn] at x1 x2 g1 g2 s1 s2 t1 t2 y1 y2 ⊢
  obtain ⟨cu,hcu⟩:∃c,clampI ua (-1000000) 1000000=c:=⟨_,rfl⟩
  obtain ⟨cv,hcv⟩:∃c,clampI va (-1000000) 1000000=c:=⟨_,rfl⟩
  have CU:=hid hcu;have CV:=hid hcv;rw [hcu] at s1 t1 y1;rw [hcv] at s2 t2 y2
  obtain ⟨qu,hqu⟩:∃c,cu*(n:Int)=c:=⟨_,rfl⟩
  obtain ⟨qv,hqv⟩:∃c,cv*(n:Int)=c:=⟨_,rfl⟩
  rw [hqu] at s1 t1 y1;rw [hqv] at s2 t2 y2
  obtain ⟨x,ex⟩:∃x,posX ua n=x:=⟨_,rfl⟩
  obtain ⟨y,ey⟩:∃x,posX va n=x:=⟨_,rfl⟩
  obtain ⟨fx,ex'⟩:∃x,posF ua n=x:=⟨_,rfl⟩
  obtain ⟨fy,ey'⟩:∃x,posF va n=x:=⟨_,rfl⟩
  rw [ex] at x1 t1 y1;rw [ey] at x2 t2 y2;rw [ex'] at g1 t1;rw [ey'] at g2 t2;rw [ex,ey,ex',ey'];have Y1:=hid y1;have Y2:=hid y2;obtain ⟨r1,r2,r3,r4,p1,p2,p3,p4,p5,p6,K⟩:=look4_all hm x y g1 g2;generalize m.look4 x fx y fy=L at K ⊢;have R1:=hid K.e1;have R2:=hid K.e2;have R3:=hid K.e3;have R4:=hid K.e4;have F1:=K.f1;have F2:=K.f2;have F3:=K.f3;have F4:=K.f4;have F5:=K.f5;have F6:=K.f6;have B1:=K.b1;have B2:=K.b2;have B3:=K.b3;have B4:=K.b4;have B5:=K.b5;have B6:=K.b6;have HO:=hid (show fdiv (p5+p6) 65536=L by unfold fdiv;rw [if_neg (by omega)];exact K.out);clear K hb ht e1 hc hm hr hmm hn hcu hcv ex ey ex' ey' y1 y2;go_enter Tryz.func285,Tryz.ntmps285;go_upto_region 3 with (go_at_call 123;refine (sIsValidTexture_val HB.out lo hi _ _ (HV.out.ext hh X_) (by simp;omega)).mono ?_;rintro e w1 ⟨rfl,h1⟩;obtain ⟨c1,f1⟩:=h1.cells;have z1:=h1.size;simp only [World.size_alloc] at z1;have q1:w.heap.size<w1.heap.size:=(by omega));have E1:Ext w w1:=Ext.trans X_ h1
  go_cut [9,10] from 23 to 31 (fun p _ok wx=>∃A a c,p = .pointer (some ⟨A,0,none⟩)∧LSt w wx m A a c)
  case first=>
   refine wp_region_Z 11 w1.heap.size (by kernel_rfl) ?_;refine wpZ_stage (fuel:=7) [0,1,2,3] [4,9] (by kernel_rfl) (fun _ _ _=>rfl) ?_;simp only [List.filterMap_cons,List.filterMap_nil,List.getElem?_toArray,List.getElem?_cons_zero,List.getElem?_cons_succ]
   show wpQuiet _ _ _ _ [_,_,_,_] _
   repeat (go_big_quiet_step (fail))
   refine wpQuiet_nil ?_;intro e he;simp only [List.mem_cons,List.not_mem_nil,or_false] at he
   rcases he with rfl|rfl
   ·(unfold wpComes;simp only [List.getElem?_toArray,List.getElem?_cons_succ,List.getElem?_cons_zero,Option.some.injEq];refine ⟨_,rfl,fun K hK=>?_⟩)
    go_wp2_with fail;refine (sClamp_val HC.out _).mono ?_;rintro e w2 ⟨rfl,rfl⟩;go_wp2_with fail;refine hK _ _ (.inr (fun b _ hb=>Ext.block X_ hb)) ?_;clear hK K;refine wpZ_stage (fuel:=6) [] [5,9] (by kernel_rfl) (fun b _ hb=>Ext.block X_ hb) ?_;refine wpQuiet_nil ?_;intro e he;simp only [List.mem_cons,List.not_mem_nil,or_false] at he
    rcases he with rfl|rfl
    ·(unfold wpComes;simp only [List.getElem?_toArray,List.getElem?_cons_succ,List.getElem?_cons_zero,Option.some.injEq];refine ⟨_,rfl,fun K hK=>?_⟩)
     go_wp2_with fail;refine (sMipLevel_val HR.out _ _ _ _ (HV.out.ext hh (E1.trans X_)) (by simp;omega)).mono ?_;rintro e w3 ⟨v3,rfl,O3,h3⟩;have E13:Ext w1 w3:=Ext.trans X_ h3;obtain ⟨a3,n3,rfl,_⟩:=O3.form;have z3:=h3.size;simp at z3;go_wp2_with fail;refine hK _ _ (.inr (E13.same (Nat.le_refl _))) ?_;clear hK K;refine wpZ_stage (fuel:=2) [6,7,8] [9] (by kernel_rfl) (E13.same (Nat.le_refl _)) ?_
     try simp only [Act.put,List.setIfInBounds_toArray,List.set_cons_succ,List.set_cons_zero]
     simp only [List.filterMap_cons,List.filterMap_nil,List.getElem?_toArray,List.getElem?_cons_zero,List.getElem?_cons_succ]
     show wpQuiet _ _ _ _ [_,_,_] _
     repeat (go_big_quiet_step (fail))
     refine wpQuiet_nil ?_;intro e he;simp only [List.mem_cons,List.not_mem_nil,or_false] at he;subst he
     (unfold wpComes;simp only [List.getElem?_toArray,List.getElem?_cons_succ,List.getElem?_cons_zero,Option.some.injEq];refine ⟨_,rfl,fun K hK=>?_⟩)
     go_wp2;refine hK _ _ (.inr ((E13.alloc _).same (Nat.le_refl _))) ?_;clear hK K;refine wpZ_stage (fuel:=1) [] [10] (by kernel_rfl) ((E13.alloc _).same (Nat.le_refl _)) ?_;refine wpQuiet_nil ?_;intro e he;simp only [List.mem_cons,List.not_mem_nil,or_false] at he;subst he
     (unfold wpComes;simp only [List.getElem?_toArray,List.getElem?_cons_succ,List.getElem?_cons_zero,Option.some.injEq];refine ⟨_,rfl,fun K hK=>?_⟩)
     go_wp2;refine hK _ _ (.inr ((E13.alloc _).same (Nat.le_refl _))) ?_;clear hK K;refine wpZ_stage (fuel:=0) [] [11] (by kernel_rfl) ((E13.alloc _).same (Nat.le_refl _)) ?_;refine wpQuiet_nil ?_;intro e he;simp only [List.mem_cons,List.not_mem_nil,or_false] at he;subst he
     (unfold wpComes;simp only [List.getElem?_toArray,List.getElem?_cons_succ,List.getElem?_cons_zero,Option.some.injEq];refine ⟨_,rfl,fun K hK=>?_⟩)
     go_wp2;refine hK _ _ (.inl (by trivial)) ?_;clear hK K;refine wpZ_end (by kernel_rfl) ?_;go_wp2_with fail
     go_meet
     have e3:Ext w3 (w3.alloc (.cells #[.int .i64 m.log,.slice a3 m.px.length n3] 27)):=X_;exact ⟨_,_,_,rfl,(E1.trans E13).trans e3,TBox.made _ _ _ _,(O3.tex.ext (Nat.le_refl _) e3).wide (Nat.zero_le _) e3.size⟩
    ·(unfold wpComes;simp only [List.getElem?_toArray,List.getElem?_cons_succ,List.getElem?_cons_zero,Option.some.injEq];refine ⟨_,rfl,fun K hK=>?_⟩)
     go_wp2;refine hK _ _ (.inr (fun b _ hb=>Ext.block X_ hb)) ?_;clear hK K;refine wpZ_stage (fuel:=5) [] [5] (by kernel_rfl) (fun b _ hb=>Ext.block X_ hb) ?_;refine wpQuiet_nil ?_;intro e he;simp only [List.mem_cons,List.not_mem_nil,or_false] at he;subst he
     (unfold wpComes;simp only [List.getElem?_toArray,List.getElem?_cons_succ,List.getElem?_cons_zero,Option.some.injEq];refine ⟨_,rfl,fun K hK=>?_⟩)
     go_wp2_with fail;refine (sMipLevel_val HR.out _ _ _ _ (HV.out.ext hh (E1.trans X_)) (by simp;omega)).mono ?_;rintro e w3 ⟨v3,rfl,O3,h3⟩;have E13:Ext w1 w3:=Ext.trans X_ h3;obtain ⟨a3,n3,rfl,_⟩:=O3.form;have z3:=h3.size;simp at z3;go_wp2_with fail;refine hK _ _ (.inr (E13.same (Nat.le_refl _))) ?_;clear hK K;obtain ⟨k3,l3⟩:=h3.cells
     have q3:w1.heap.size<w3.heap.size:=by omega
     refine wpZ_stage (fuel:=1) [6,7,8] [10] (by kernel_rfl) (E13.same (Nat.le_refl _)) ?_
     try simp only [Act.put,List.setIfInBounds_toArray,List.set_cons_succ,List.set_cons_zero]
     simp only [List.filterMap_cons,List.filterMap_nil,List.getElem?_toArray,List.getElem?_cons_zero,List.getElem?_cons_succ]
     show wpQuiet _ _ _ _ [_,_,_] _
     repeat (go_big_quiet_step (fail))
     refine wpQuiet_nil ?_;intro e he;simp only [List.mem_cons,List.not_mem_nil,or_false] at he;subst he
     (unfold wpComes;simp only [List.getElem?_toArray,List.getElem?_cons_succ,List.getElem?_cons_zero,Option.some.injEq];refine ⟨_,rfl,fun K hK=>?_⟩)
     have ES:Ext w1 ((w3.setCell ⟨w1.heap.size,0,none⟩ (.int .i64 m.log)).setCell ⟨w1.heap.size,1,none⟩ (.slice a3 m.px.length n3)):=(E13.setCell (by simp) _).setCell (by simp) _;go_wp2;refine hK _ _ (.inr (ES.same (Nat.le_refl _))) ?_;clear hK K;refine wpZ_stage (fuel:=0) [] [11] (by kernel_rfl) (ES.same (Nat.le_refl _)) ?_;refine wpQuiet_nil ?_;intro e he;simp only [List.mem_cons,List.not_mem_nil,or_false] at he;subst he
     (unfold wpComes;simp only [List.getElem?_toArray,List.getElem?_cons_succ,List.getElem?_cons_zero,Option.some.injEq];refine ⟨_,rfl,fun K hK=>?_⟩)
     go_wp2;refine hK _ _ (.inl (by trivial)) ?_;clear hK K;refine wpZ_end (by kernel_rfl) ?_;go_wp2_with fail
     go_meet
     refine ⟨_,a3,n3,rfl,E1.trans ES,⟨by simp;omega,by simp [go_sem, *],by simp [go_sem, *]⟩,?_⟩;exact (((O3.setLow (by simp) _).setLow (by simp) _).tex).wide (Nat.zero_le _) (Nat.le_refl _)
   ·(unfold wpComes;simp only [List.getElem?_toArray,List.getElem?_cons_succ,List.getElem?_cons_zero,Option.some.injEq];refine ⟨_,rfl,fun K hK=>?_⟩)
    go_wp2;refine hK _ _ (.inr (fun b _ hb=>Ext.block X_ hb)) ?_;clear hK K;refine wpZ_stage (fuel:=6) [] [4] (by kernel_rfl) (fun b _ hb=>Ext.block X_ hb) ?_;refine wpQuiet_nil ?_;intro e he;simp only [List.mem_cons,List.not_mem_nil,or_false] at he;subst he
    (unfold wpComes;simp only [List.getElem?_toArray,List.getElem?_cons_succ,List.getElem?_cons_zero,Option.some.injEq];refine ⟨_,rfl,fun K hK=>?_⟩)
    go_wp2_with fail;refine (sClamp_val HC.out _).mono ?_;rintro e w2 ⟨rfl,rfl⟩;go_wp2_with fail;refine hK _ _ (.inr (fun b _ hb=>Ext.block X_ hb)) ?_;clear hK K;refine wpZ_stage (fuel:=5) [] [5] (by kernel_rfl) (fun b _ hb=>Ext.block X_ hb) ?_;refine wpQuiet_nil ?_;intro e he;simp only [List.mem_cons,List.not_mem_nil,or_false] at he;subst he
    (unfold wpComes;simp only [List.getElem?_toArray,List.getElem?_cons_succ,List.getElem?_cons_zero,Option.some.injEq];refine ⟨_,rfl,fun K hK=>?_⟩)
    go_wp2_with fail;refine (sMipLevel_val HR.out _ _ _ _ (HV.out.ext hh (E1.trans X_)) (by simp;omega)).mono ?_;rintro e w3 ⟨v3,rfl,O3,h3⟩;have E13:Ext w1 w3:=Ext.trans X_ h3;obtain ⟨a3,n3,rfl,_⟩:=O3.form;have z3:=h3.size;simp at z3;go_wp2_with fail;refine hK _ _ (.inr (E13.same (Nat.le_refl _))) ?_;clear hK K;obtain ⟨k3,l3⟩:=h3.cells
    have q3:w1.heap.size<w3.heap.size:=by omega
    refine wpZ_stage (fuel:=1) [6,7,8] [10] (by kernel_rfl) (E13.same (Nat.le_refl _)) ?_
    try simp only [Act.put,List.setIfInBounds_toArray,List.set_cons_succ,List.set_cons_zero]
    simp only [List.filterMap_cons,List.filterMap_nil,List.getElem?_toArray,List.getElem?_cons_zero,List.getElem?_cons_succ]
    show wpQuiet _ _ _ _ [_,_,_] _
    repeat (go_big_quiet_step (fail))
    refine wpQuiet_nil ?_;intro e he;simp only [List.mem_cons,List.not_mem_nil,or_false] at he;subst he
    (unfold wpComes;simp only [List.getElem?_toArray,List.getElem?_cons_succ,List.getElem?_cons_zero,Option.some.injEq];refine ⟨_,rfl,fun K hK=>?_⟩)
    have ES:Ext w1 ((w3.setCell ⟨w1.heap.size,0,none⟩ (.int .i64 m.log)).setCell ⟨w1.heap.size,1,none⟩ (.slice a3 m.px.length n3)):=(E13.setCell (by simp) _).setCell (by simp) _;go_wp2;refine hK _ _ (.inr (ES.same (Nat.le_refl _))) ?_;clear hK K;refine wpZ_stage (fuel:=0) [] [11] (by kernel_rfl) (ES.same (Nat.le_refl _)) ?_;refine wpQuiet_nil ?_;intro e he;simp only [List.mem_cons,List.not_mem_nil,or_false] at he;subst he
    (unfold wpComes;simp only [List.getElem?_toArray,List.getElem?_cons_succ,List.getElem?_cons_zero,Option.some.injEq];refine ⟨_,rfl,fun K hK=>?_⟩)
    go_wp2;refine hK _ _ (.inl (by trivial)) ?_;clear hK K;refine wpZ_end (by kernel_rfl) ?_;go_wp2_with fail
    go_meet
    refine ⟨_,a3,n3,rfl,E1.trans ES,⟨by simp;omega,by simp [go_sem, *],by simp [go_sem, *]⟩,?_⟩;exact (((O3.setLow (by simp) _).setLow (by simp) _).tex).wide (Nat.zero_le _) (Nat.le_refl _)
  case rest=>
   obtain ⟨A,a,k,rfl,hs⟩:=hcut;have HS:=hid hs;have m0:=hs.box.lt;have m1:=hs.box.c0;have m2:=hs.box.c1;clear hs c1 f1
   go_wp2_with (first
    | (go_at_call 185;refine (l15Size_val M0 M4 HN.out _).mono ?_;rintro e w2 ⟨rfl,rfl⟩)
    | (go_at_call 242;(with_reducible first|refine (l02N_val CU.out _).mono ?_|refine (l02N_val CV.out _).mono ?_);rintro e w2 ⟨rfl,rfl⟩)
    | (go_at_call 243;(with_reducible first|refine (sFloorDiv_val (I64.mk (by omega) (by omega)) Y1.out _).mono ?_|refine (sFloorDiv_val (I64.mk (by omega) (by omega)) Y2.out _).mono ?_);rintro e w2 ⟨rfl,rfl⟩))
   refine wp_region_ext (by kernel_rfl) (by kernel_rfl) ?_
   repeat (go_big_quiet_step ((go_at_call 306;with_reducible first
    | exact grow_call (l15Texel_val HM.out R1.out 0 _ _ _ (HS.out.tex.ext (Nat.le_refl _) (grow_ext _ _)) (grow_ext _ _).size)
    | exact grow_call (l15Texel_val HM.out R2.out 0 _ _ _ (HS.out.tex.ext (Nat.le_refl _) (grow_ext _ _)) (grow_ext _ _).size))))
   refine wpQuiet_nil ?_;intro w3 h3;have HS3:=hid (HS.out.to h3);clear m0 m1 m2;have m0:=HS3.out.box.lt;have m1:=HS3.out.box.c0;have m2:=HS3.out.box.c1;go_wp2;refine wp_region_ext (by kernel_rfl) (by kernel_rfl) ?_
   repeat (go_big_quiet_step ((go_at_call 306;with_reducible first
    | exact grow_call (l15Texel_val HM.out R3.out 0 _ _ _ (HS3.out.tex.ext (Nat.le_refl _) (grow_ext _ _)) (grow_ext _ _).size)
    | exact grow_call (l15Texel_val HM.out R4.out 0 _ _ _ (HS3.out.tex.ext (Nat.le_refl _) (grow_ext _ _)) (grow_ext _ _).size))))
   refine wpQuiet_nil ?_;intro w4 h4;go_wp2_with (go_at_call 243;refine (sFloorDiv_val (I64.mk (by omega) (by omega)) HO.out _).mono ?_;rintro e w5 ⟨rfl,rfl⟩);go_ret;exact ⟨rfl,HS3.out.ext.trans h4⟩
 ·have e1:t.lookR ua va l=0:=by unfold Tex.lookR;rw [if_neg hb]
  rw [e1];have HB:=hid (Bool.eq_false_iff.2 hb);clear hb e1;go_enter Tryz.func285,Tryz.ntmps285;go_wp2_with fail;refine (sIsValidTexture_val HB.out lo hi _ _ (HV.out.ext hh X_) (by simp;omega)).mono ?_;rintro e w1 ⟨rfl,h1⟩;go_wp2;go_ret;exact ⟨rfl,Ext.trans X_ h1⟩
theorem callee_tex (lo hi lo' hi':Nat) (u v:Value) (t:Tex) {x y r:Int} (w:World) (hu:Ints lo hi w u [x,y]) (hh:hi≤w.heap.size) (hv:TexR lo' hi' w v t) (hh':hi'≤w.heap.size) (ht:t.Ok) (hr:t.look x y=r) :
  Calls Tryz.prog 324 #[v,u] w fun e w'=>e = .returned (.int .i64 r)∧Ext w w':=by
 obtain ⟨b,off,cap,rfl,hb,d0,d1,_⟩:=row2 hu;obtain ⟨tx,rfl,_⟩:=hv.shape;have HR:=hid hr;have HV:=hid hv;have HT:=hid ht;clear hu hr hv ht
 have hb1:b<w.heap.size:=by omega
 have hb2:b≠w.heap.size:=by omega
 go_enter Tryz.func324,Tryz.ntmps324;go_wp2_with fail;refine wp_region_stages [([0,1,2,3,4,5,6,7],8),([],9)] 99 (w.heap.size+1) (by kernel_rfl) (by kernel_rfl) ?_;refine wpStages_cons ?_;simp only [List.filterMap_cons,List.filterMap_nil,List.getElem?_toArray,List.getElem?_cons_zero,List.getElem?_cons_succ]
 show wpQuiet _ _ _ _ [_,_,_,_,_,_,_,_] _
 repeat (go_big_quiet_step (fail))
 refine wpQuiet_nil ⟨_,rfl,fun K hK=>?_⟩;go_wp2_with fail;refine (lookup_any lo' hi' _ t x y _ (HV.out.ext hh' X_) (by simp;omega) HT.out).mono ?_;rintro e w1 ⟨rfl,x1⟩;rw [HR.out];have X1:=x1;have X2:Ext w w1:=Ext.trans X_ x1;go_wp2_with fail;refine hK _ _ (.inr (fun k _ hk=>X1.block (by first|omega|(simp;omega)))) ?_;clear hK K;refine wpStages_cons ?_;simp only [List.filterMap_nil]
 show wpQuiet _ _ _ _ [] _
 try simp only [Act.put,List.setIfInBounds_toArray,List.set_cons_succ,List.set_cons_zero]
 repeat (go_big_quiet_step (fail))
 refine wpQuiet_nil ⟨_,rfl,fun K hK=>?_⟩;go_wp2_with fail;refine hK _ _ (.inr (fun k _ hk=>X1.block (by first|omega|(simp;omega)))) ?_;clear hK K;refine wpStages_nil ?_;go_wp2;go_ret;exact ⟨rfl,S_⟩
theorem sFn_abs (lo hi:Nat) (u:Value) (g0:Int) (g1:Value) (g2 g3:Int) (g4:Value) {x r:Int} (w:World) (hu:Ints lo hi w u [x]) (hh:hi≤w.heap.size) (hx:S9 x) (hr:absI x=r) :
  Calls Tryz.prog 247 #[.agg #[.int .i64 g0,g1,.int .i64 g2,.int .i64 g3,g4],.string ⟨#[97,98,115]⟩,u] w fun e w'=>e = .returned (.int .i64 r)∧Ext w w':=by
 obtain ⟨k,off,cap,rfl,hbk,d0,_⟩:=row1 hu
 have hb1:k<w.heap.size:=by omega
 have hb2:k≠w.heap.size:=by omega
 have HU:=hid hu;have HR:=hid hr;clear hu hr;go_enter Tryz.func247,Tryz.ntmps247;go_wp2_with fail;refine (l09Abs_sh hx HR.out _).mono ?_;rintro e w1 ⟨rfl,rfl⟩;go_wp2;go_ret;exact ⟨rfl,S_⟩
theorem sFn_floor (lo hi:Nat) (u:Value) (g0:Int) (g1:Value) (g2 g3:Int) (g4:Value) {x r:Int} (w:World) (hu:Ints lo hi w u [x]) (hh:hi≤w.heap.size) (hx:S9 x) (hr:floorI x=r) :
  Calls Tryz.prog 247 #[.agg #[.int .i64 g0,g1,.int .i64 g2,.int .i64 g3,g4],.string ⟨#[102,108,111,111,114]⟩,u] w fun e w'=>e = .returned (.int .i64 r)∧Ext w w':=by
 obtain ⟨k,off,cap,rfl,hbk,d0,_⟩:=row1 hu
 have hb1:k<w.heap.size:=by omega
 have hb2:k≠w.heap.size:=by omega
 have HU:=hid hu;have hq:=fdiv_bd (b:=256) (m:=1000000000) hx (by decide);unfold floorI at hr
 obtain ⟨q,hqq⟩:∃q,fdiv x 256=q:=⟨_,rfl⟩
 rw [hqq] at hq hr;have HQ:=hid hqq;clear hqq;have HR:=hid hr;clear hu hr;go_enter Tryz.func247,Tryz.ntmps247;go_wp2_with fail;refine (sFloorDiv_val hx.i64 HQ.out _).mono ?_;rintro e w1 ⟨rfl,rfl⟩;go_wp2;rw [HR.out];go_ret;exact ⟨rfl,S_⟩
theorem sFn_min (lo hi:Nat) (u:Value) (g0:Int) (g1:Value) (g2 g3:Int) (g4:Value) {x y r:Int} (w:World) (hu:Ints lo hi w u [x,y]) (hh:hi≤w.heap.size) (hx:S9 x) (hy:S9 y) (hr:minI x y=r) :
  Calls Tryz.prog 247 #[.agg #[.int .i64 g0,g1,.int .i64 g2,.int .i64 g3,g4],.string ⟨#[109,105,110]⟩,u] w fun e w'=>e = .returned (.int .i64 r)∧Ext w w':=by
 obtain ⟨k,off,cap,rfl,hbk,d0,d1,_⟩:=row2 hu
 have hb1:k<w.heap.size:=by omega
 have hb2:k≠w.heap.size:=by omega
 have HU:=hid hu;unfold minI at hr;have HR:=hid hr;clear hu hr;go_enter Tryz.func247,Tryz.ntmps247;go_wp2_with fail;refine wp_region_stages [([0,1,2,3,4,5],6),([],7)] 99 w.heap.size (by kernel_rfl) (by kernel_rfl) ?_;refine wpStages_cons ?_;simp only [List.filterMap_cons,List.filterMap_nil,List.getElem?_toArray,List.getElem?_cons_zero,List.getElem?_cons_succ]
 show wpQuiet _ _ _ _ [_,_,_,_,_,_] _
 repeat (go_big_quiet_step (fail))
 refine wpQuiet_nil ⟨_,rfl,fun K hK=>?_⟩;go_wp2_with fail;refine (l01Min_sh hx.i64 hy.i64 HR.out _).mono ?_;rintro e w1 ⟨rfl,rfl⟩;go_wp2_with fail;refine hK _ _ (.inr (fun k _ hk=>Ext.block X_ (by first|omega|(simp;omega)))) ?_;clear hK K;refine wpStages_cons ?_;simp only [List.filterMap_nil]
 show wpQuiet _ _ _ _ [] _
 try simp only [Act.put,List.setIfInBounds_toArray,List.set_cons_succ,List.set_cons_zero]
 repeat (go_big_quiet_step (fail))
 refine wpQuiet_nil ⟨_,rfl,fun K hK=>?_⟩;go_wp2_with fail;refine hK _ _ (.inr (fun k _ hk=>Ext.block X_ (by first|omega|(simp;omega)))) ?_;clear hK K;refine wpStages_nil ?_;go_wp2;go_ret;exact ⟨rfl,S_⟩
theorem sFn_max (lo hi:Nat) (u:Value) (g0:Int) (g1:Value) (g2 g3:Int) (g4:Value) {x y r:Int} (w:World) (hu:Ints lo hi w u [x,y]) (hh:hi≤w.heap.size) (hx:S9 x) (hy:S9 y) (hr:maxI x y=r) :
  Calls Tryz.prog 247 #[.agg #[.int .i64 g0,g1,.int .i64 g2,.int .i64 g3,g4],.string ⟨#[109,97,120]⟩,u] w fun e w'=>e = .returned (.int .i64 r)∧Ext w w':=by
 obtain ⟨k,off,cap,rfl,hbk,d0,d1,_⟩:=row2 hu
 have hb1:k<w.heap.size:=by omega
 have hb2:k≠w.heap.size:=by omega
 have HU:=hid hu;unfold maxI at hr;have HR:=hid hr;clear hu hr;go_enter Tryz.func247,Tryz.ntmps247;go_wp2_with fail;refine wp_region_stages [([0,1,2,3,4,5],6),([],7)] 99 w.heap.size (by kernel_rfl) (by kernel_rfl) ?_;refine wpStages_cons ?_;simp only [List.filterMap_cons,List.filterMap_nil,List.getElem?_toArray,List.getElem?_cons_zero,List.getElem?_cons_succ]
 show wpQuiet _ _ _ _ [_,_,_,_,_,_] _
 repeat (go_big_quiet_step (fail))
 refine wpQuiet_nil ⟨_,rfl,fun K hK=>?_⟩;go_wp2_with fail;refine (l01Max_sh hx.i64 hy.i64 HR.out _).mono ?_;rintro e w1 ⟨rfl,rfl⟩;go_wp2_with fail;refine hK _ _ (.inr (fun k _ hk=>Ext.block X_ (by first|omega|(simp;omega)))) ?_;clear hK K;refine wpStages_cons ?_;simp only [List.filterMap_nil]
 show wpQuiet _ _ _ _ [] _
 try simp only [Act.put,List.setIfInBounds_toArray,List.set_cons_succ,List.set_cons_zero]
 repeat (go_big_quiet_step (fail))
 refine wpQuiet_nil ⟨_,rfl,fun K hK=>?_⟩;go_wp2_with fail;refine hK _ _ (.inr (fun k _ hk=>Ext.block X_ (by first|omega|(simp;omega)))) ?_;clear hK K;refine wpStages_nil ?_;go_wp2;go_ret;exact ⟨rfl,S_⟩
theorem sFn_clamp (lo hi:Nat) (u:Value) (g0:Int) (g1:Value) (g2 g3:Int) (g4:Value) {x y z r:Int} (w:World) (hu:Ints lo hi w u [x,y,z]) (hh:hi≤w.heap.size) (hr:clampI x y z=r) :
  Calls Tryz.prog 247 #[.agg #[.int .i64 g0,g1,.int .i64 g2,.int .i64 g3,g4],.string ⟨#[99,108,97,109,112]⟩,u] w fun e w'=>e = .returned (.int .i64 r)∧Ext w w':=by
 obtain ⟨k,off,cap,rfl,hbk,d0,d1,d2⟩:=row3 hu
 have hb1:k<w.heap.size:=by omega
 have hb2:k≠w.heap.size:=by omega
 have HU:=hid hu;have HR:=hid hr;clear hu hr;go_enter Tryz.func247,Tryz.ntmps247;go_wp2_with fail;refine wp_region_stages [([0,1,2,3,4,5,6,7,8],9),([],10)] 99 w.heap.size (by kernel_rfl) (by kernel_rfl) ?_;refine wpStages_cons ?_;simp only [List.filterMap_cons,List.filterMap_nil,List.getElem?_toArray,List.getElem?_cons_zero,List.getElem?_cons_succ]
 show wpQuiet _ _ _ _ [_,_,_,_,_,_,_,_,_] _
 repeat (go_big_quiet_step (fail))
 refine wpQuiet_nil ⟨_,rfl,fun K hK=>?_⟩;go_wp2_with fail;refine (sClamp_val HR.out _).mono ?_;rintro e w1 ⟨rfl,rfl⟩;go_wp2_with fail;refine hK _ _ (.inr (fun k _ hk=>Ext.block X_ (by first|omega|(simp;omega)))) ?_;clear hK K;refine wpStages_cons ?_;simp only [List.filterMap_nil]
 show wpQuiet _ _ _ _ [] _
 try simp only [Act.put,List.setIfInBounds_toArray,List.set_cons_succ,List.set_cons_zero]
 repeat (go_big_quiet_step (fail))
 refine wpQuiet_nil ⟨_,rfl,fun K hK=>?_⟩;go_wp2_with fail;refine hK _ _ (.inr (fun k _ hk=>Ext.block X_ (by first|omega|(simp;omega)))) ?_;clear hK K;refine wpStages_nil ?_;go_wp2;go_ret;exact ⟨rfl,S_⟩
theorem sFn_mix (lo hi:Nat) (u:Value) (g0:Int) (g1:Value) (g2 g3:Int) (g4:Value) {x y z r:Int} (w:World) (hu:Ints lo hi w u [x,y,z]) (hh:hi≤w.heap.size) (hx:S9 x) (hy:S9 y) (hz:S9 z) (hr:blendI x y z=r) :
  Calls Tryz.prog 247 #[.agg #[.int .i64 g0,g1,.int .i64 g2,.int .i64 g3,g4],.string ⟨#[109,105,120]⟩,u] w fun e w'=>e = .returned (.int .i64 r)∧Ext w w':=by
 obtain ⟨k,off,cap,rfl,hbk,d0,d1,d2⟩:=row3 hu
 have hb1:k<w.heap.size:=by omega
 have hb2:k≠w.heap.size:=by omega
 have HU:=hid hu;have hx1:=hx.1;have hx2:=hx.2;have hy1:=hy.1;have hy2:=hy.2;have hm:=blend_bd hx hy hz;unfold blendI at hr;have hq:=fdiv_bd (b:=256) hm (by decide)
 obtain ⟨q,hqq⟩:∃q,fdiv ((y - x)*z) 256=q:=⟨_,rfl⟩
 rw [hqq] at hq hr;have HQ:=hid hqq;clear hqq;have HR:=hid hr;clear hu hr;go_enter Tryz.func247,Tryz.ntmps247;go_wp2_with fail;refine wp_region_stages [([0,1,2,3,4,5,6,7,8,9,10,11,12,13],14),([15],16)] 99 w.heap.size (by kernel_rfl) (by kernel_rfl) ?_;refine wpStages_cons ?_;simp only [List.filterMap_cons,List.filterMap_nil,List.getElem?_toArray,List.getElem?_cons_zero,List.getElem?_cons_succ]
 show wpQuiet _ _ _ _ [_,_,_,_,_,_,_,_,_,_,_,_,_,_] _
 repeat (go_big_quiet_step (fail))
 refine wpQuiet_nil ⟨_,rfl,fun K hK=>?_⟩;go_wp2_with fail;refine (sFloorDiv_val (I64.mk (by omega) (by omega)) HQ.out _).mono ?_;rintro e w1 ⟨rfl,rfl⟩;go_wp2_with fail;refine hK _ _ (.inr (fun k _ hk=>Ext.block X_ (by first|omega|(simp;omega)))) ?_;clear hK K;refine wpStages_cons ?_;simp only [List.filterMap_cons,List.filterMap_nil,List.getElem?_toArray,List.getElem?_cons_zero,List.getElem?_cons_succ]
 show wpQuiet _ _ _ _ [_] _
 try simp only [Act.put,List.setIfInBounds_toArray,List.set_cons_succ,List.set_cons_zero]
 repeat (go_big_quiet_step (fail))
 refine wpQuiet_nil ⟨_,rfl,fun K hK=>?_⟩;go_wp2_with fail;refine hK _ _ (.inr (fun k _ hk=>Ext.block X_ (by first|omega|(simp;omega)))) ?_;clear hK K;refine wpStages_nil ?_;go_wp2;rw [HR.out];go_ret;exact ⟨rfl,S_⟩
theorem sFn_step (lo hi:Nat) (u:Value) (g0:Int) (g1:Value) (g2 g3:Int) (g4:Value) {x y r:Int} (w:World) (hu:Ints lo hi w u [x,y]) (hh:hi≤w.heap.size) (hx:S9 x) (hy:S9 y) (hr:stepI x y=r) :
  Calls Tryz.prog 247 #[.agg #[.int .i64 g0,g1,.int .i64 g2,.int .i64 g3,g4],.string ⟨#[115,116,101,112]⟩,u] w fun e w'=>e = .returned (.int .i64 r)∧Ext w w':=by
 obtain ⟨k,off,cap,rfl,hbk,d0,d1,_⟩:=row2 hu
 have hb1:k<w.heap.size:=by omega
 have hb2:k≠w.heap.size:=by omega
 have HU:=hid hu;unfold stepI at hr;clear hu
 by_cases h:y≥x
 ·rw [if_pos h] at hr
  subst hr;go_enter Tryz.func247,Tryz.ntmps247;go_wp2_with fail;refine wp_region_stages [([0,1,2,3,4,5],6)] 99 w.heap.size (by kernel_rfl) (by kernel_rfl) ?_;refine wpStages_cons ?_;simp only [List.filterMap_cons,List.filterMap_nil,List.getElem?_toArray,List.getElem?_cons_zero,List.getElem?_cons_succ]
  show wpQuiet _ _ _ _ [_,_,_,_,_,_] _
  repeat (go_big_quiet_step (fail))
  refine wpQuiet_nil ⟨_,rfl,fun K hK=>?_⟩;go_wp2_with fail;refine hK _ _ (.inr (fun k _ hk=>Ext.block X_ (by first|omega|(simp;omega)))) ?_;clear hK K;refine wpStages_nil ?_;go_wp2;go_ret;exact ⟨rfl,S_⟩
 ·rw [if_neg h] at hr
  subst hr;go_enter Tryz.func247,Tryz.ntmps247;go_wp2_with fail;refine wp_region_stages [([0,1,2,3,4,5],6)] 99 w.heap.size (by kernel_rfl) (by kernel_rfl) ?_;refine wpStages_cons ?_;simp only [List.filterMap_cons,List.filterMap_nil,List.getElem?_toArray,List.getElem?_cons_zero,List.getElem?_cons_succ]
  show wpQuiet _ _ _ _ [_,_,_,_,_,_] _
  repeat (go_big_quiet_step (fail))
  refine wpQuiet_nil ⟨_,rfl,fun K hK=>?_⟩;go_wp2_with fail;refine hK _ _ (.inr (fun k _ hk=>Ext.block X_ (by first|omega|(simp;omega)))) ?_;clear hK K;refine wpStages_nil ?_;go_wp2;go_ret;exact ⟨rfl,S_⟩
theorem sLookup_val {t:Tex} {x y l r:Int} (h:t.lookR x y l=r) (lo hi:Nat) (v:Value) (w:World) (hv:TexR lo hi w v t) (hh:hi≤w.heap.size) :
  Calls Tryz.prog 285 #[v,.int .i64 x,.int .i64 y,.int .i64 l] w fun e w'=>e = .returned (.int .i64 r)∧Ext w w':=h▸sLookup_any lo hi v t x y l w hv hh
theorem hnew (w:World) (o:Obj):(w.alloc o).heap[w.heap.size]?=some o:=by show (w.heap.push o)[w.heap.size]?=_;simp
theorem lookR_zero {t:Tex} (ht:t.okB=true) (x y:Int):t.lookR x y 0=t.look x y:=by
 unfold Tex.lookR;rw [if_pos ht];have h0:=(Tex.okB_iff.1 ht).log0
 have e:clampI 0 0 t.log=0:=by
  unfold clampI
  split
  ·omega
  ·split <;> omega
 rw [e]
 rfl
theorem sFn_tex (lo hi lo' hi':Nat) (u:Value) (g0:Int) (g1:Value) (g2 g3:Int) (g4:Value) (t:Tex) {x y r:Int} (w:World) (hu:Ints lo hi w u [x,y]) (hh:hi≤w.heap.size) (hv:TexR lo' hi' w (.agg #[.int .i64 g3,g4]) t) (hh':hi'≤w.heap.size) (ht:t.okB=true) (hr:t.look x y=r) :
  Calls Tryz.prog 247 #[.agg #[.int .i64 g0,g1,.int .i64 g2,.int .i64 g3,g4],.string ⟨#[116,101,120]⟩,u] w fun e w'=>e = .returned (.int .i64 r)∧Ext w w':=by
 obtain ⟨b,off,cap,rfl,hb,d0,d1,_⟩:=row2 hu;have HR:=hid ((lookR_zero ht x y).trans hr);have HV:=hid hv;clear hu hr hv ht
 have hb1:b<w.heap.size:=by omega
 have hb2:b≠w.heap.size:=by omega
 go_enter Tryz.func247,Tryz.ntmps247;go_wp2_with fail;refine wp_region_stages [([0,1,2,3,4,5,6,7],8),([],9)] 99 (w.heap.size+1) (by kernel_rfl) (by kernel_rfl) ?_;refine wpStages_cons ?_;simp only [List.filterMap_cons,List.filterMap_nil,List.getElem?_toArray,List.getElem?_cons_zero,List.getElem?_cons_succ]
 show wpQuiet _ _ _ _ [_,_,_,_,_,_,_,_] _
 repeat (go_big_quiet_step (fail))
 refine wpQuiet_nil ⟨_,rfl,fun K hK=>?_⟩;go_wp2_with fail;refine (sLookup_val HR.out lo' hi' _ _ (HV.out.ext hh' X_) (by simp;omega)).mono ?_;rintro e w1 ⟨rfl,x1⟩;have X1:=x1;have X2:Ext w w1:=Ext.trans X_ x1;go_wp2_with fail;refine hK _ _ (.inr (fun k _ hk=>X1.block (by first|omega|(simp;omega)))) ?_;clear hK K;refine wpStages_cons ?_;simp only [List.filterMap_nil]
 show wpQuiet _ _ _ _ [] _
 try simp only [Act.put,List.setIfInBounds_toArray,List.set_cons_succ,List.set_cons_zero]
 repeat (go_big_quiet_step (fail))
 refine wpQuiet_nil ⟨_,rfl,fun K hK=>?_⟩;go_wp2_with fail;refine hK _ _ (.inr (fun k _ hk=>X1.block (by first|omega|(simp;omega)))) ?_;clear hK K;refine wpStages_nil ?_;go_wp2;go_ret;exact ⟨rfl,S_⟩
theorem sFn_noise (lo hi:Nat) (u:Value) (g0:Int) (g1:Value) (g2 g3:Int) (g4:Value) {x y r:Int} (w:World) (hu:Ints lo hi w u [x,y]) (hh:hi≤w.heap.size) (hx:S9 x) (hy:S9 y) (hr:hash257 [x,y]=r) :
  Calls Tryz.prog 247 #[.agg #[.int .i64 g0,g1,.int .i64 g2,.int .i64 g3,g4],.string ⟨#[110,111,105,115,101]⟩,u] w fun e w'=>e = .returned (.int .i64 r)∧Ext w w':=by
 obtain ⟨b,off,cap,rfl,hb,d0,d1,_⟩:=row2 hu;have HR:=hid hr;clear hu hr
 have hb1:b<w.heap.size:=by omega
 have hb2:b≠w.heap.size:=by omega
 go_enter Tryz.func247,Tryz.ntmps247;go_wp2_with fail;refine wp_region_stages [([0,1,2,3,4,5],6),([],7),([],8)] 99 w.heap.size (by kernel_rfl) (by kernel_rfl) ?_;refine wpStages_cons ?_;simp only [List.filterMap_cons,List.filterMap_nil,List.getElem?_toArray,List.getElem?_cons_zero,List.getElem?_cons_succ]
 show wpQuiet _ _ _ _ [_,_,_,_,_,_] _
 repeat (go_big_quiet_step (fail))
 refine wpQuiet_nil ⟨_,rfl,fun K hK=>?_⟩;go_wp2_with fail;refine hK _ _ (.inr (fun k _ hk=>Ext.block X_ (by first|omega|(simp;omega)))) ?_;clear hK K;refine wpStages_cons ?_;simp only [List.filterMap_nil]
 show wpQuiet _ _ _ _ [] _
 try simp only [Act.put,List.setIfInBounds_toArray,List.set_cons_succ,List.set_cons_zero]
 repeat (go_big_quiet_step (fail))
 refine wpQuiet_nil ⟨_,rfl,fun K hK=>?_⟩;go_wp2_with fail
 have O1:∀W:World,OwnInts W.heap.size (W.alloc (.cells #[.int .i64 x,.int .i64 y] 3)) (.slice (some ⟨W.heap.size,0,none⟩) 2 2) [x,y]:=fun W=>
  ⟨⟨rfl,.inr ⟨W.heap.size,2,_,rfl,Nat.le_refl _,hnew W _,by simp,by unfold maxLen;omega,rfl,rfl⟩⟩,fun z hz=>by
   simp only [List.mem_cons,List.not_mem_nil,or_false] at hz
   rcases hz with rfl|rfl
   ·exact hx.i64
   ·exact hy.i64⟩
 have O2:=((O1 (w.alloc (Obj.cells #[.int .i64 g0,g1,.int .i64 g2,.int .i64 g3,g4] 135))).ext ((Ext.refl _).drew)).ints;simp only [World.size_alloc] at O2;refine (sHash257_any _ _ _ _ _ O2).mono ?_;rintro e w1 ⟨rfl,rfl⟩;rw [HR.out];go_wp2_with fail;refine hK _ _ (.inr (fun k _ hk=>Ext.block X_ (by first|omega|(simp;omega)))) ?_;clear hK K;refine wpStages_cons ?_;simp only [List.filterMap_nil]
 show wpQuiet _ _ _ _ [] _
 try simp only [Act.put,List.setIfInBounds_toArray,List.set_cons_succ,List.set_cons_zero]
 repeat (go_big_quiet_step (fail))
 refine wpQuiet_nil ⟨_,rfl,fun K hK=>?_⟩;go_wp2_with fail;refine hK _ _ (.inr (fun k _ hk=>Ext.block X_ (by first|omega|(simp;omega)))) ?_;clear hK K;refine wpStages_nil ?_;go_wp2;go_ret;exact ⟨rfl,S_⟩
theorem run_insert (w:World) (mty kt et:TypeId) (r clock:Nat) (es:Array MapEntry) (s:ByteArray) (val:Value) (hm:Tryz.prog.underlying mty=some (.map kt et)) (hk:Tryz.prog.underlying kt=some .string) (hb:w.heap[r]?=some (.map es clock)) (hf:Instr.findNow .string (.string s) es.toList 0=some none) :
  (Instr.mapUpdate mty (.map (some r)) (.string s) val).run Tryz.prog w = .ok () { w with heap:=w.heap.setIfInBounds r (.map (es.push { key:=.string s,val:=val,born:=clock }) (clock+1)) }:=by
 have hc:(Instr.checkKey false 10000 kt (.string s)).run Tryz.prog w = .ok () w:=MapKept.run_checkKey (k:=.string s) hk (by simp [MapKept.IsKey]) false 9999;simp [Instr.mapUpdate,run_underlying hm,MapKept.run_getObj_map hb,hc,MapKept.run_findKey hk hf,MapKept.run_setObj_map _ hb,Result.andThen]
theorem wpList_ins (w:World) {ops:Array Oper} {rest:List Oper} {o:Oper} {a:Act} {Q:Exit→Act→World→Prop} (hg:o.guard=none) (m x v:Operand) (hop:o.op=Op.insert 368 m x v) (hd:o.dst=none)
  (b clock:Nat) (es:Array MapEntry) (hm:a.eval m = .map (some b)) (hb:w.heap[b]?=some (.map es clock)) (s:ByteArray) (hx:a.eval x = .string s) (val:Value) (hv:a.eval v=val) (hf:Instr.findNow .string (.string s) es.toList 0=some none)
  (hK:∀w',w'.heap[b]?=some (.map (es.push { key:=.string s,val:=val,born:=clock }) (clock+1))→w.grownBy w' (some b)→wpList Tryz.prog ops Q rest a w'):wpList Tryz.prog ops Q (o::rest) a w:=by
 refine wpList_plain hg fun K' hK'=>?_;have hrun:=run_insert w 368 9 _ b clock es s val Tryz.underlying368 Tryz.underlying9 hb hf;have h1:=(MapKept.heap_set (o':=.map (es.push { key:=.string s,val:=val,born:=clock }) (clock+1)) hb).1;have h2:=(MapKept.heap_set (o':=.map (es.push { key:=.string s,val:=val,born:=clock }) (clock+1)) hb).2;unfold Oper.wp;simp [execOp,hop,hm,hx,hv,hrun,Result.andThen];refine hK' _ _ ?_;rw [hd];exact hK _ h1 ⟨rfl,rfl,rfl,by simp,fun i _ hi=>h2 i (fun e=>hi (by rw [e]))⟩
def fnEntries:Array MapEntry:=#[{ key:=.string ⟨#[97,98,115]⟩,val:=.func (.func 316) #[] #[],born:=0 },{ key:=.string ⟨#[102,108,111,111,114]⟩,val:=.func (.func 317) #[] #[],born:=1 },{ key:=.string ⟨#[109,105,110]⟩,val:=.func (.func 318) #[] #[],born:=2 },{ key:=.string ⟨#[109,97,120]⟩,val:=.func (.func 319) #[] #[],born:=3 },{ key:=.string ⟨#[115,116,101,112]⟩,val:=.func (.func 320) #[] #[],born:=4 },{ key:=.string ⟨#[110,111,105,115,101]⟩,val:=.func (.func 321) #[] #[],born:=5 },{ key:=.string ⟨#[99,108,97,109,112]⟩,val:=.func (.func 322) #[] #[],born:=6 },{ key:=.string ⟨#[109,105,120]⟩,val:=.func (.func 323) #[] #[],born:=7 },{ key:=.string ⟨#[116,101,120]⟩,val:=.func (.func 324) #[] #[],born:=8 }]
theorem pointwise_any (w:World):Calls Tryz.prog 302 #[] w fun e w'=>∃b,e = .returned (.map (some b))∧w.heap.size≤b∧b<w'.heap.size∧w'.heap[b]?=some (.map fnEntries 9)∧Ext w w':=by
 go_enter Tryz.func302,Tryz.ntmps302;have hmk:=run_makeMap (P:=Tryz.prog) 368 w;have hb0:(w.alloc (.map #[] 0)).heap[w.heap.size]?=some (.map #[] 0):=hnew _ _;have X:Ext w (w.alloc (.map #[] 0)):=X_
 have hs:w.heap.size<(w.alloc (.map #[] 0)).heap.size:=by simp
 go_wp2_with (refine wpList_ins _ rfl _ _ _ rfl rfl w.heap.size _ _ rfl (by assumption) _ rfl _ rfl rfl ?_;clear hb0;intro w1 hb0 hg1;replace X:=Ext.grown X hg1 (fun k hk=>by simp at hk;omega);replace hs:=Nat.lt_of_lt_of_le hs hg1.size;clear hg1);go_ret;exact ⟨_,rfl,Nat.le_refl _,hs,hb0.trans rfl,X⟩
theorem fillTo_const (m k:Nat) (c:Int) (h:k<m):(fillTo (List.replicate m c) k).set k c=fillTo (List.replicate m c) (k+1):=by
 have:=fillTo_succ (List.replicate m c) k (by simpa using h)
 simpa using this
theorem iConstant_any (c:Int) (n m:Nat) (g1:Value) (g2 g3:Int) (g4:Value) (w:World) (hm:(n:Int)*n=m) (hn:m≤1000000) (hc:I64 c) :
  Calls Tryz.prog 163 #[.int .i64 c,.agg #[.int .i64 n,g1,.int .i64 g2,.int .i64 g3,g4]] w fun e w'=>∃v,e = .returned v∧OwnInts w.heap.size w' v (List.replicate m c)∧Ext w w':=by
 obtain ⟨i0,hi0,hz0,hz1,hz2⟩:=info_parts info_int;go_enter Tryz.func163,Tryz.ntmps163;go_wp2_with (at_make;refine wpList_make_full _ rfl _ _ 25 rfl (w.heap.size+1) 3 i0 (.int .i64 0) 1 Tryz.underlying25 hi0 hz0 hz1 _ _ _ _ m rfl rfl rfl rfl (by rw [hz2];omega) (by unfold maxLen;omega) (by simp) ?_);intro w1 hown hgrow
 have e0:(List.replicate m (0:Int))=fillTo (List.replicate m c) 0:=by rw [fillTo_zero];simp
 try simp only [Value.cells,Nat.mul_one,World.size_drew,World.size_alloc] at hown
 rw [made_ints,e0] at hown;have hx:Ext w w1:=Ext.grown X_ hgrow (fun k h=>by cases h);clear hgrow hi0 hz0 hz1 hz2 e0;go_wp2
 go_loopw [15] (fun i wr=>∃k:Nat,k≤m∧i = .int .i64 k∧Ext w wr∧wr.ownsRow (w.heap.size+1) 3 1 (.slice (some ⟨w.heap.size+1,0,none⟩) m m) m ((fillTo (List.replicate m c) k).map (Value.int .i64)))
  (fun i _=>m - (intOf i).toNat)
 case atStart=>exact ⟨0,by omega,rfl,hx,hown⟩
 case round=>
  clear hown hx;obtain ⟨k,hk,rfl,hx,hown⟩:=hrel
  by_cases hlt:k<m
  ·have hs:=hown.cellAt k (by omega)
   have hf:=hown.frozenAt k;have hst:=(hown.stored k (.int .i64 c)).1;have hx':=hx.setCell (p:=⟨w.heap.size+1,k,none⟩) (Nat.le_succ _) (.int .i64 c)
   obtain ⟨z,hz⟩:∃z,wr.cell? ⟨w.heap.size+1,k,none⟩=some (.int .i64 z):=by
    rw [hs]
    have hl:k<(fillTo (List.replicate m c) k).length:=by rw [fillTo_length _ _ (by simpa using hk)];simpa using hlt
    exact ⟨(fillTo (List.replicate m c) k)[k],by simp⟩
   rw [←List.map_set,fillTo_const _ _ _ hlt] at hst;have H1:=hid hst;have H2:=hid hx';clear hst hx' hs hown hx;go_wp2;go_roundw
   case rel=>exact ⟨k+1,by omega,by go_num,H2.out,H1.out⟩
   case measure=>simp [intOf];omega
  ·go_wp2
   go_ret
   obtain rfl:k=m:=by omega
   have ha:=fillTo_all (List.replicate k c);rw [List.length_replicate] at ha;rw [ha] at hown
   have ho:OwnInts (w.heap.size+1) wr (.slice (some ⟨w.heap.size+1,0,none⟩) k k) (List.replicate k c):=⟨by simpa using hown,fun x hx=>by rw [List.eq_of_mem_replicate hx];exact hc⟩
   exact ⟨_,rfl,ho.low (Nat.le_succ _),hx⟩
theorem OwnInts.lit0 (w:World):OwnInts w.heap.size (w.alloc (.cells #[] 3)) (.slice (some ⟨w.heap.size,0,none⟩) 0 0) []:=
 ⟨⟨rfl,.inr ⟨w.heap.size,0,_,rfl,Nat.le_refl _,hnew w _,by simp,by unfold maxLen;omega,rfl,rfl⟩⟩,fun _ h=>by cases h⟩
def col (n:Int):Int:=clampI n 0 256
theorem col_bd (n:Int):0≤col n∧col n≤256:=by
 unfold col clampI
 split
 ·omega
 ·split <;> omega
theorem take_map_snoc (f:Int→Int) (xs:List Int) (k:Nat) (h:k<xs.length):(xs.take k).map f++[f xs[k]]=(xs.take (k+1)).map f:=by
 rw [List.take_succ_eq_append_getElem h,List.map_append]
 rfl
theorem iLimited_any (lo hi:Nat) (u:Value) (xs:List Int) (w:World) (hu:Ints lo hi w u xs) (hh:hi≤w.heap.size) (hl:xs.length≤1000000) :
  Calls Tryz.prog 162 #[u] w fun e w'=>∃v,e = .returned v∧OwnInts w.heap.size w' v (xs.map col)∧Ext w w':=by
 obtain ⟨a,cap,rfl,HU⟩:=hu.open;have l1:=HU.le;have l2:=HU.cap;clear hu;go_enter Tryz.func162,Tryz.ntmps162;go_wp2
 go_loopw [3,9] (fun v i wr=>∃k:Nat,k≤xs.length∧i = .int .i64 k∧OwnInts w.heap.size wr v ((xs.take k).map col)∧Ext w wr) (fun _ i _=>xs.length - (intOf i).toNat)
 case atStart=>exact ⟨0,by omega,rfl,OwnInts.lit0 w,X_⟩
 case round=>
  obtain ⟨k,hk,rfl,hown,hx⟩:=hrel;obtain ⟨av,cv,rfl,hcv⟩:=hown.form
  have hlen:((xs.take k).map col).length=k:=by simp;omega
  rw [hlen] at hown ⊢
  by_cases hlt:k<xs.length
  ·obtain ⟨b,off,rfl,hb1,hb2,hc⟩:=HU.at hlt
   rw [←hx.cells.1 b _ (by omega)] at hc;have hsn:=take_map_snoc col xs k hlt
   obtain ⟨x,hxk⟩:∃x,xs[k]=x:=⟨_,rfl⟩
   rw [hxk] at hc hsn;have hbd:=col_bd x
   obtain ⟨c,hcc⟩:∃c,col x=c:=⟨_,rfl⟩
   rw [hcc] at hbd hsn;have HC:=hid (show clampI x 0 256=c from hcc);have HO:=hid hown;have HX:=hid hx;have HS:=hid hsn;have HL:=hid hlen;have zs:=hx.size
   have hbw:b<wr.heap.size:=by omega
   clear hown hx hsn hlen hxk hcc;go_wp2_with fail;refine (iClamp_val HC.out _).mono ?_;rintro e w1 ⟨rfl,rfl⟩;go_wp2_with (at_builtin;refine wpList_append1 _ rfl _ _ rfl w.heap.size _ _ rfl (HO.out.alloc _) c ⟨by omega,by omega⟩ wr.heap.size rfl (by simp [go_sem]) (by rw [HL.out];omega) (by simp;omega) ?_;intro v' w7 hown hg);rw [HS.out] at hown;go_wp2;go_roundw
   case rel=>exact ⟨k+1,by omega,by go_num,hown,Ext.grown (HX.out.alloc _) hg (fun g e=>(HO.out.lt g e).1)⟩
   case measure=>simp [intOf];omega
  ·obtain rfl:k=xs.length:=by omega
   rw [List.take_length] at hown;go_wp2;go_ret;exact ⟨_,rfl,hown,hx⟩
theorem sClamped_any (lo hi:Nat) (u:Value) (xs:List Int) (w:World) (hu:Ints lo hi w u xs) (hh:hi≤w.heap.size) (hl:xs.length≤1000000) :
  Calls Tryz.prog 129 #[u] w fun e w'=>∃v,e = .returned v∧OwnInts w.heap.size w' v (xs.map col)∧Ext w w':=by
 obtain ⟨a,cap,rfl,HU⟩:=hu.open;have l1:=HU.le;have l2:=HU.cap;clear hu;go_enter Tryz.func129,Tryz.ntmps129;go_wp2
 go_loopw [3,9] (fun v i wr=>∃k:Nat,k≤xs.length∧i = .int .i64 k∧OwnInts w.heap.size wr v ((xs.take k).map col)∧Ext w wr) (fun _ i _=>xs.length - (intOf i).toNat)
 case atStart=>exact ⟨0,by omega,rfl,OwnInts.lit0 w,X_⟩
 case round=>
  obtain ⟨k,hk,rfl,hown,hx⟩:=hrel;obtain ⟨av,cv,rfl,hcv⟩:=hown.form
  have hlen:((xs.take k).map col).length=k:=by simp;omega
  rw [hlen] at hown ⊢
  by_cases hlt:k<xs.length
  ·obtain ⟨b,off,rfl,hb1,hb2,hc⟩:=HU.at hlt
   rw [←hx.cells.1 b _ (by omega)] at hc;have hsn:=take_map_snoc col xs k hlt
   obtain ⟨x,hxk⟩:∃x,xs[k]=x:=⟨_,rfl⟩
   rw [hxk] at hc hsn;have hbd:=col_bd x
   obtain ⟨c,hcc⟩:∃c,col x=c:=⟨_,rfl⟩
   rw [hcc] at hbd hsn;have HC:=hid (show clampI x 0 256=c from hcc);have HO:=hid hown;have HX:=hid hx;have HS:=hid hsn;have HL:=hid hlen;have zs:=hx.size
   have hbw:b<wr.heap.size:=by omega
   clear hown hx hsn hlen hxk hcc;go_wp2_with fail;refine (sClamp_val HC.out _).mono ?_;rintro e w1 ⟨rfl,rfl⟩;go_wp2_with (at_builtin;refine wpList_append1 _ rfl _ _ rfl w.heap.size _ _ rfl (HO.out.alloc _) c ⟨by omega,by omega⟩ wr.heap.size rfl (by simp [go_sem]) (by rw [HL.out];omega) (by simp;omega) ?_;intro v' w7 hown hg);rw [HS.out] at hown;go_wp2;go_roundw
   case rel=>exact ⟨k+1,by omega,by go_num,hown,Ext.grown (HX.out.alloc _) hg (fun g e=>(HO.out.lt g e).1)⟩
   case measure=>simp [intOf];omega
  ·obtain rfl:k=xs.length:=by omega
   rw [List.take_length] at hown;go_wp2;go_ret;exact ⟨_,rfl,hown,hx⟩
theorem iCombined_any (lo hi lo' hi':Nat) (u v:Value) (op:Int) (xs ys:List Int) (w:World) (ho:opsOk op) (hu:Ints lo hi w u xs) (hh:hi≤w.heap.size) (hv:Ints lo' hi' w v ys) (hh':hi'≤w.heap.size)
  (hl:xs.length=ys.length) (hm:ys.length≤1000000) (hx9:∀x∈xs,S9 x) (hy9:∀y∈ys,S9 y) :
  Calls Tryz.prog 299 #[.int .i64 op,u,v] w fun e w'=>∃r,e = .returned r∧OwnInts w.heap.size w' r (List.zipWith (arithI op) xs ys)∧Ext w w':=by
 obtain ⟨i0,hi0,hz0,hz1,hz2⟩:=info_parts info_int;obtain ⟨a,cap,rfl,HU⟩:=hu.open;obtain ⟨a',cap',rfl,HV⟩:=hv.open;clear hu hv
 obtain ⟨zs,hzs⟩:∃zs,List.zipWith (arithI op) xs ys=zs:=⟨_,rfl⟩
 have hzl:zs.length=ys.length:=by rw [←hzs,List.length_zipWith];omega
 have hz:∀k (h1:k<xs.length) (h2:k<ys.length) (h3:k<zs.length),arithI op xs[k] ys[k]=zs[k]:=fun k h1 h2 h3=>by subst hzs;simp
 have HZ9:=hid (fun z (h:z∈zs)=>(by
  obtain ⟨k,hk,rfl⟩:=List.getElem_of_mem h;rw [←hz k (by omega) (by omega) hk]
  exact (satI_S9 _).i64:I64 z))
 rw [hzs];clear hzs;go_enter Tryz.func299,Tryz.ntmps299;go_wp2_with (at_make;refine wpList_make_full _ rfl _ _ 25 rfl w.heap.size 3 i0 (.int .i64 0) 1 Tryz.underlying25 hi0 hz0 hz1 _ _ _ _ ys.length rfl rfl rfl rfl (by rw [hz2];omega) (by unfold maxLen;omega) (Nat.le_refl _) ?_);intro w1 hown hgrow;rw [made_ints,←hzl,←fillTo_zero,hzl] at hown;have hx:Ext w w1:=(Ext.refl w).grown hgrow (fun k h=>by cases h);have hb0:w.heap.size<w1.heap.size:=(hown.lt _ rfl).2;clear hgrow hi0 hz0 hz1 hz2;go_wp2
 go_loopw [14] (fun i wr=>∃k:Nat,k≤ys.length∧i = .int .i64 k∧Ext w wr∧w.heap.size<wr.heap.size∧wr.ownsRow w.heap.size 3 1 (.slice (some ⟨w.heap.size,0,none⟩) ys.length ys.length) ys.length ((fillTo zs k).map (Value.int .i64)))
  (fun i _=>ys.length - (intOf i).toNat)
 case atStart=>exact ⟨0,by omega,rfl,hx,hb0,hown⟩
 case round=>
  clear hown hx hb0;obtain ⟨k,hk,rfl,hx,hb0,hown⟩:=hrel
  by_cases hlt:k<ys.length
  ·obtain ⟨b,off,rfl,hb1,hb2,hc⟩:=HU.at (k:=k) (by omega)
   obtain ⟨b',off',rfl,hb1',hb2',hc'⟩:=HV.at hlt;rw [←hx.cells.1 b _ (by omega)] at hc;rw [←hx.cells.1 b' _ (by omega)] at hc';have hs:=hown.cellAt k (by omega);have hf:=hown.frozenAt k;have q9:=hx9 _ (List.getElem_mem (show k<xs.length by omega));have q9':=hy9 _ (List.getElem_mem hlt);have hz':=hz k (by omega) hlt (by omega);have hst:=(hown.stored k (.int .i64 (zs[k]'(by omega)))).1;have hx':=hx.setCell (p:=⟨w.heap.size,k,none⟩) (Nat.le_refl _) (.int .i64 (zs[k]'(by omega)))
   obtain ⟨z0,hs'⟩:∃z,wr.cell? ⟨w.heap.size,k,none⟩=some (.int .i64 z):=by
    rw [hs]
    have hl2:k<(fillTo zs k).length:=by rw [fillTo_length _ _ (by omega)];omega
    exact ⟨(fillTo zs k)[k],by simp⟩
   rw [←List.map_set,fillTo_succ _ _ (by omega)] at hst
   obtain ⟨x,hxx⟩:∃x,xs[k]'(by omega)=x:=⟨_,rfl⟩
   obtain ⟨y,hyy⟩:∃x,ys[k]=x:=⟨_,rfl⟩
   obtain ⟨z,hzz⟩:∃x,zs[k]'(by omega)=x:=⟨_,rfl⟩
   rw [hxx] at hc q9 hz';rw [hyy] at hc' q9' hz';rw [hzz] at hz' hst hx';have H1:=hid hst;have H2:=hid hx';have HZ:=hid hz';have zr:=hx.size
   have hbw:b<wr.heap.size:=by omega
   have hbw':b'<wr.heap.size:=by omega
   clear hst hx' hs hown hx hxx hyy hzz hz' hz;go_wp2_with fail;refine wp_region_stages [([0,1,2,3,4,5,6,7,8,9,10],11),([12],13)] 13 wr.heap.size (by kernel_rfl) (by kernel_rfl) ?_;refine wpStages_cons ?_;simp only [List.filterMap_cons,List.filterMap_nil,List.getElem?_toArray,List.getElem?_cons_zero,List.getElem?_cons_succ]
   show wpQuiet _ _ _ _ [_,_,_,_,_,_,_,_,_,_,_] _
   repeat (go_big_quiet_step (fail))
   refine wpQuiet_nil ⟨_,rfl,fun K hK=>?_⟩;go_wp2_with fail;refine (iArith_any ho q9 q9' HZ.out _).mono ?_;rintro e w1 ⟨rfl,rfl⟩;go_wp2_with fail;refine hK _ _ (.inr (fun k _ hk=>Ext.block X_ (by first|omega|(simp;omega)))) ?_;clear hK K;refine wpStages_cons ?_;simp only [List.filterMap_cons,List.filterMap_nil,List.getElem?_toArray,List.getElem?_cons_zero,List.getElem?_cons_succ]
   show wpQuiet _ _ _ _ [_] _
   try simp only [Act.put,List.setIfInBounds_toArray,List.set_cons_succ,List.set_cons_zero]
   repeat (go_big_quiet_step (fail))
   refine wpQuiet_nil ⟨_,rfl,fun K hK=>?_⟩;go_wp2_with fail;refine hK _ _ (.inl (by trivial)) (wpStages_nil ?_);clear hK K;go_wp2;go_roundw
   case rel=>exact ⟨k+1,by omega,by go_num,H2.out.drew,by simpa using hb0,H1.out.drew⟩
   case measure=>simp [intOf];omega
  ·go_wp2
   go_ret
   obtain rfl:k=ys.length:=by omega
   have hown':OwnInts w.heap.size wr (.slice (some ⟨w.heap.size,0,none⟩) ys.length ys.length) zs:=⟨by rw [←hzl,fillTo_all] at hown;rw [←hzl];exact hown,HZ9.out⟩
   exact ⟨_,rfl,hown',hx⟩
def dAt (n k:Nat) (rows:Bool):Nat:=if rows then k / n else k % n
def dStep (n:Nat) (rows:Bool):Nat:=if rows then n else 1
def dVal (xs:List Int) (n:Nat) (rows:Bool) (k:Nat):Int:=
 if n=1 then 0 else if dAt n k rows<n - 1 then satI (xs.getD (k+dStep n rows) 0 - xs.getD k 0) else satI (xs.getD k 0 - xs.getD (k - dStep n rows) 0)
def diffs (xs:List Int) (n:Nat) (rows:Bool):List Int:=(List.range (n*n)).map (dVal xs n rows)
theorem d_bd {n k:Nat} (h1:1≤n) (h8:n≤8) (hk:k<n*n) (rows:Bool) (h:n≠1) :
  (dAt n k rows<n - 1→k+dStep n rows<n*n)∧(¬dAt n k rows<n - 1→dStep n rows≤k):=by
 unfold dAt dStep
 rcases (show n=2∨n=3∨n=4∨n=5∨n=6∨n=7∨n=8 by omega) with rfl|rfl|rfl|rfl|rfl|rfl|rfl <;> cases rows <;> simp <;> omega
theorem diffs_length (xs:List Int) (n:Nat) (rows:Bool):(diffs xs n rows).length=n*n:=by simp [diffs]
theorem diffs_at (xs:List Int) (n:Nat) (rows:Bool) (k:Nat) (h:k<(diffs xs n rows).length):(diffs xs n rows)[k]=dVal xs n rows k:=by simp [diffs]
theorem dVal_i64 (xs:List Int) (n:Nat) (rows:Bool) (k:Nat):S9 (dVal xs n rows k):=by
 unfold dVal
 split
 ·exact ⟨by decide,by decide⟩
 ·split <;> exact satI_S9 _
theorem getD_at (xs:List Int) (k:Nat) (h:k<xs.length):xs.getD k 0=xs[k]:=by simp [List.getD,h]
theorem iDiffCols_any (lo hi:Nat) (u:Value) (xs:List Int) (n:Nat) (w:World) (hu:Ints lo hi w u xs) (hh:hi≤w.heap.size) (hl:xs.length=n*n) (h1:1≤n) (h8:n≤8) (hx9:∀x∈xs,S9 x) :
  Calls Tryz.prog 301 #[u,.int .i64 n,.bool false] w fun e w'=>∃r,e = .returned r∧OwnInts w.heap.size w' r (diffs xs n false)∧Ext w w':=by
 obtain ⟨i0,hi0,hz0,hz1,hz2⟩:=info_parts info_int;obtain ⟨a,cap,rfl,HU⟩:=hu.open;clear hu;have hm:n*n≤8*8:=Nat.mul_le_mul h8 h8
 obtain ⟨zs,hzs⟩:∃zs,diffs xs n false=zs:=⟨_,rfl⟩
 have hzl:zs.length=n*n:=by rw [←hzs,diffs_length]
 have hz:∀k (h3:k<zs.length),zs[k]=dVal xs n false k:=fun k h3=>by subst hzs;exact diffs_at _ _ _ _ h3
 have hbd:=fun k (hk:k<n*n)=>d_bd h1 h8 hk false
 have HZ9:=hid (fun z (h:z∈zs)=>(by
  obtain ⟨k,hk,rfl⟩:=List.getElem_of_mem h;rw [hz k hk]
  exact (dVal_i64 _ _ _ _).i64:I64 z))
 rw [hzs];clear hzs
 obtain ⟨m,hmm⟩:∃m,n*n=m:=⟨_,rfl⟩
 rw [hmm] at hl hm hzl hbd;clear hmm;rw [hl];go_enter Tryz.func301,Tryz.ntmps301;go_wp2_with (at_make;refine wpList_make_full _ rfl _ _ 25 rfl w.heap.size 3 i0 (.int .i64 0) 1 Tryz.underlying25 hi0 hz0 hz1 _ _ _ _ m rfl rfl rfl rfl (by rw [hz2];omega) (by unfold maxLen;omega) (Nat.le_refl _) ?_);intro w1 hown hgrow;rw [made_ints,←hzl,←fillTo_zero,hzl] at hown;have hx:Ext w w1:=(Ext.refl w).grown hgrow (fun k h=>by cases h);have hb0:w.heap.size<w1.heap.size:=(hown.lt _ rfl).2;clear hgrow hi0 hz0 hz1 hz2;go_wp2
 go_loopw [16] (fun i wr=>∃k:Nat,k≤m∧i = .int .i64 k∧Ext w wr∧w.heap.size<wr.heap.size∧wr.ownsRow w.heap.size 3 1 (.slice (some ⟨w.heap.size,0,none⟩) m m) m ((fillTo zs k).map (Value.int .i64)))
  (fun i _=>m - (intOf i).toNat)
 case atStart=>exact ⟨0,by omega,rfl,hx,hb0,hown⟩
 case round=>
  clear hown hx hb0;obtain ⟨k,hk,rfl,hx,hb0,hown⟩:=hrel
  by_cases hlt:k<m
  ·have hs:=hown.cellAt k (by omega)
   have hf:=hown.frozenAt k;have hz':=hz k (by omega);have hst:=(hown.stored k (.int .i64 (zs[k]'(by omega)))).1;have hx':=hx.setCell (p:=⟨w.heap.size,k,none⟩) (Nat.le_refl _) (.int .i64 (zs[k]'(by omega)))
   obtain ⟨z0,hs'⟩:∃z,wr.cell? ⟨w.heap.size,k,none⟩=some (.int .i64 z):=by
    rw [hs]
    have hl2:k<(fillTo zs k).length:=by rw [fillTo_length _ _ (by omega)];omega
    exact ⟨(fillTo zs k)[k],by simp⟩
   rw [←List.map_set,fillTo_succ _ _ (by omega)] at hst
   obtain ⟨z,hzz⟩:∃x,zs[k]'(by omega)=x:=⟨_,rfl⟩
   rw [hzz] at hz' hst hx';have zr:=hx.size;have hb:=hbd k hlt
   have hsame:z=0→(fillTo zs k)=fillTo zs (k+1):=fun h0=>by
    have hl2:k<(fillTo zs k).length:=by rw [fillTo_length _ _ (by omega)];omega
    rw [←fillTo_succ _ _ (by omega),hzz,h0];apply List.ext_getElem?;intro j
    by_cases hj:j=k
    ·subst hj
     rw [List.getElem?_set_self hl2];unfold fillTo;rw [List.getElem?_append_right (by simp;omega),List.getElem?_replicate];rw [if_pos (by simp;omega)]
    ·rw [List.getElem?_set_ne (Ne.symm hj)]
   clear hs hz hzz
   have ht:(k:Int).tmod n=((k % n:Nat):Int):=by rw [Int.tmod_eq_emod_of_nonneg (by omega)];simp
   have htd:(k:Int).tdiv n=((k / n:Nat):Int):=by rw [Int.tdiv_eq_ediv_of_nonneg (by omega)];simp
   have hq1:k % n<n:=Nat.mod_lt _ h1;have hq2:k / n≤k:=Nat.div_le_self _ _;have H1:=hid hst;have H2:=hid hx';clear hst hx'
   by_cases hn:n=1
   ·subst hn
    have h0:z=0:=by rw [hz'];rfl
    rw [hsame h0] at hown;clear hsame h0 hz' hb;have HO:=hid hown;have HX:=hid hx;clear hown hx;go_wp2;go_roundw
    case rel=>exact ⟨k+1,by omega,by go_num,HX.out,hb0,HO.out⟩
    case measure=>simp [intOf];omega
   ·have hb:=hb hn
    unfold dVal dAt dStep at hz';unfold dAt dStep at hb;simp only [if_neg hn,Bool.false_eq_true,if_false,if_true] at hz' hb;clear hsame
    obtain ⟨q,hq⟩:∃q,k % n=q:=⟨_,rfl⟩
    obtain ⟨q',hq'⟩:∃q,k / n=q:=⟨_,rfl⟩
    rw [hq] at hz' hb;rw [hq] at ht hq1;rw [hq'] at htd hq2;clear hq hq'
    by_cases ha:q<n - 1
    ·rw [if_pos ha] at hz'
     have hbb:=hb.1 ha;clear hb hown;obtain ⟨b,off,rfl,hb1,hb2,hc⟩:=HU.at (k:=k) (by omega);obtain ⟨b',off',e',_,_,hc'⟩:=HU.at (k:=k+1) (by omega);simp only [Option.some.injEq,Addr.mk.injEq,and_true] at e';obtain ⟨rfl,rfl⟩:=e';rw [←hx.cells.1 b _ (by omega)] at hc hc';have g1:=getD_at xs k (by omega);have g2:=getD_at xs (k+1) (by omega);rw [g1,g2] at hz';have q9:=hx9 _ (List.getElem_mem (show k<xs.length by omega));have q9':=hx9 _ (List.getElem_mem (show k+1<xs.length by omega))
     obtain ⟨x,hxx⟩:∃x,xs[k]'(by omega)=x:=⟨_,rfl⟩
     obtain ⟨y,hyy⟩:∃x,xs[k+1]'(by omega)=x:=⟨_,rfl⟩
     rw [hxx] at hc q9 hz';rw [hyy] at hc' q9' hz';have HZ:=hid hz'.symm;obtain ⟨q1,q2⟩:=q9;obtain ⟨q3,q4⟩:=q9'
     have hbw:b<wr.heap.size:=by omega
     clear hxx hyy hz' g1 g2 hx;go_wp2_with fail;refine wp_region_stages [([0,1,2,3,4,5,6,7,8,9,10,11,12],13),([14],15)] 15 wr.heap.size (by kernel_rfl) (by kernel_rfl) ?_;refine wpStages_cons ?_;simp only [List.filterMap_cons,List.filterMap_nil,List.getElem?_toArray,List.getElem?_cons_zero,List.getElem?_cons_succ]
     show wpQuiet _ _ _ _ [_,_,_,_,_,_,_,_,_,_,_,_,_] _
     repeat (go_big_quiet_step (fail))
     refine wpQuiet_nil ⟨_,rfl,fun K hK=>?_⟩;go_wp2_with fail;refine (iSaturate_val HZ.out _).mono ?_;rintro e w1 ⟨rfl,rfl⟩;go_wp2_with fail;refine hK _ _ (.inr (fun k _ hk=>Ext.block X_ (by first|omega|(simp;omega)))) ?_;clear hK K;refine wpStages_cons ?_;simp only [List.filterMap_cons,List.filterMap_nil,List.getElem?_toArray,List.getElem?_cons_zero,List.getElem?_cons_succ]
     show wpQuiet _ _ _ _ [_] _
     try simp only [Act.put,List.setIfInBounds_toArray,List.set_cons_succ,List.set_cons_zero]
     repeat (go_big_quiet_step (fail))
     refine wpQuiet_nil ⟨_,rfl,fun K hK=>?_⟩;go_wp2_with fail;refine hK _ _ (.inl (by trivial)) (wpStages_nil ?_);clear hK K;go_wp2;go_roundw
     case rel=>exact ⟨k+1,by omega,by go_num,H2.out.drew,by simpa using hb0,H1.out.drew⟩
     case measure=>simp [intOf];omega
    ·rw [if_neg ha] at hz'
     have hbb:=hb.2 ha;clear hb hown;obtain ⟨b,off,rfl,hb1,hb2,hc⟩:=HU.at (k:=k) (by omega);obtain ⟨b',off',e',_,_,hc'⟩:=HU.at (k:=k - 1) (by omega);simp only [Option.some.injEq,Addr.mk.injEq,and_true] at e';obtain ⟨rfl,rfl⟩:=e';rw [←hx.cells.1 b _ (by omega)] at hc hc';have g1:=getD_at xs k (by omega);have g2:=getD_at xs (k - 1) (by omega);rw [g1,g2] at hz';have q9:=hx9 _ (List.getElem_mem (show k<xs.length by omega));have q9':=hx9 _ (List.getElem_mem (show k - 1<xs.length by omega))
     obtain ⟨x,hxx⟩:∃x,xs[k]'(by omega)=x:=⟨_,rfl⟩
     obtain ⟨y,hyy⟩:∃x,xs[k - 1]'(by omega)=x:=⟨_,rfl⟩
     rw [hxx] at hc q9 hz';rw [hyy] at hc' q9' hz';have HZ:=hid hz'.symm;obtain ⟨q1,q2⟩:=q9;obtain ⟨q3,q4⟩:=q9'
     have hbw:b<wr.heap.size:=by omega
     clear hxx hyy hz' g1 g2 hx;go_wp2_with fail;refine wp_region_stages [([0,1,2,3,4,5,6,7,8,9,10,11,12],13),([14],15)] 15 wr.heap.size (by kernel_rfl) (by kernel_rfl) ?_;refine wpStages_cons ?_;simp only [List.filterMap_cons,List.filterMap_nil,List.getElem?_toArray,List.getElem?_cons_zero,List.getElem?_cons_succ]
     show wpQuiet _ _ _ _ [_,_,_,_,_,_,_,_,_,_,_,_,_] _
     repeat (go_big_quiet_step (fail))
     refine wpQuiet_nil ⟨_,rfl,fun K hK=>?_⟩;go_wp2_with fail;refine (iSaturate_val HZ.out _).mono ?_;rintro e w1 ⟨rfl,rfl⟩;go_wp2_with fail;refine hK _ _ (.inr (fun k _ hk=>Ext.block X_ (by first|omega|(simp;omega)))) ?_;clear hK K;refine wpStages_cons ?_;simp only [List.filterMap_cons,List.filterMap_nil,List.getElem?_toArray,List.getElem?_cons_zero,List.getElem?_cons_succ]
     show wpQuiet _ _ _ _ [_] _
     try simp only [Act.put,List.setIfInBounds_toArray,List.set_cons_succ,List.set_cons_zero]
     repeat (go_big_quiet_step (fail))
     refine wpQuiet_nil ⟨_,rfl,fun K hK=>?_⟩;go_wp2_with fail;refine hK _ _ (.inl (by trivial)) (wpStages_nil ?_);clear hK K;go_wp2;go_roundw
     case rel=>exact ⟨k+1,by omega,by go_num,H2.out.drew,by simpa using hb0,H1.out.drew⟩
     case measure=>simp [intOf];omega
  ·go_wp2
   go_ret
   obtain rfl:k=m:=by omega
   have hown':OwnInts w.heap.size wr (.slice (some ⟨w.heap.size,0,none⟩) k k) zs:=⟨by rw [←hzl,fillTo_all] at hown;rw [←hzl];exact hown,HZ9.out⟩
   exact ⟨_,rfl,hown',hx⟩
theorem iDiffRows_any (lo hi:Nat) (u:Value) (xs:List Int) (n:Nat) (w:World) (hu:Ints lo hi w u xs) (hh:hi≤w.heap.size) (hl:xs.length=n*n) (h1:1≤n) (h8:n≤8) (hx9:∀x∈xs,S9 x) :
  Calls Tryz.prog 301 #[u,.int .i64 n,.bool true] w fun e w'=>∃r,e = .returned r∧OwnInts w.heap.size w' r (diffs xs n true)∧Ext w w':=by
 obtain ⟨i0,hi0,hz0,hz1,hz2⟩:=info_parts info_int;obtain ⟨a,cap,rfl,HU⟩:=hu.open;clear hu;have hm:n*n≤8*8:=Nat.mul_le_mul h8 h8
 obtain ⟨zs,hzs⟩:∃zs,diffs xs n true=zs:=⟨_,rfl⟩
 have hzl:zs.length=n*n:=by rw [←hzs,diffs_length]
 have hz:∀k (h3:k<zs.length),zs[k]=dVal xs n true k:=fun k h3=>by subst hzs;exact diffs_at _ _ _ _ h3
 have hbd:=fun k (hk:k<n*n)=>d_bd h1 h8 hk true
 have HZ9:=hid (fun z (h:z∈zs)=>(by
  obtain ⟨k,hk,rfl⟩:=List.getElem_of_mem h;rw [hz k hk]
  exact (dVal_i64 _ _ _ _).i64:I64 z))
 rw [hzs];clear hzs
 obtain ⟨m,hmm⟩:∃m,n*n=m:=⟨_,rfl⟩
 rw [hmm] at hl hm hzl hbd;clear hmm;rw [hl];go_enter Tryz.func301,Tryz.ntmps301;go_wp2_with (at_make;refine wpList_make_full _ rfl _ _ 25 rfl w.heap.size 3 i0 (.int .i64 0) 1 Tryz.underlying25 hi0 hz0 hz1 _ _ _ _ m rfl rfl rfl rfl (by rw [hz2];omega) (by unfold maxLen;omega) (Nat.le_refl _) ?_);intro w1 hown hgrow;rw [made_ints,←hzl,←fillTo_zero,hzl] at hown;have hx:Ext w w1:=(Ext.refl w).grown hgrow (fun k h=>by cases h);have hb0:w.heap.size<w1.heap.size:=(hown.lt _ rfl).2;clear hgrow hi0 hz0 hz1 hz2;go_wp2
 go_loopw [16] (fun i wr=>∃k:Nat,k≤m∧i = .int .i64 k∧Ext w wr∧w.heap.size<wr.heap.size∧wr.ownsRow w.heap.size 3 1 (.slice (some ⟨w.heap.size,0,none⟩) m m) m ((fillTo zs k).map (Value.int .i64)))
  (fun i _=>m - (intOf i).toNat)
 case atStart=>exact ⟨0,by omega,rfl,hx,hb0,hown⟩
 case round=>
  clear hown hx hb0;obtain ⟨k,hk,rfl,hx,hb0,hown⟩:=hrel
  by_cases hlt:k<m
  ·have hs:=hown.cellAt k (by omega)
   have hf:=hown.frozenAt k;have hz':=hz k (by omega);have hst:=(hown.stored k (.int .i64 (zs[k]'(by omega)))).1;have hx':=hx.setCell (p:=⟨w.heap.size,k,none⟩) (Nat.le_refl _) (.int .i64 (zs[k]'(by omega)))
   obtain ⟨z0,hs'⟩:∃z,wr.cell? ⟨w.heap.size,k,none⟩=some (.int .i64 z):=by
    rw [hs]
    have hl2:k<(fillTo zs k).length:=by rw [fillTo_length _ _ (by omega)];omega
    exact ⟨(fillTo zs k)[k],by simp⟩
   rw [←List.map_set,fillTo_succ _ _ (by omega)] at hst
   obtain ⟨z,hzz⟩:∃x,zs[k]'(by omega)=x:=⟨_,rfl⟩
   rw [hzz] at hz' hst hx';have zr:=hx.size;have hb:=hbd k hlt
   have hsame:z=0→(fillTo zs k)=fillTo zs (k+1):=fun h0=>by
    have hl2:k<(fillTo zs k).length:=by rw [fillTo_length _ _ (by omega)];omega
    rw [←fillTo_succ _ _ (by omega),hzz,h0];apply List.ext_getElem?;intro j
    by_cases hj:j=k
    ·subst hj
     rw [List.getElem?_set_self hl2];unfold fillTo;rw [List.getElem?_append_right (by simp;omega),List.getElem?_replicate];rw [if_pos (by simp;omega)]
    ·rw [List.getElem?_set_ne (Ne.symm hj)]
   clear hs hz hzz
   have ht:(k:Int).tmod n=((k % n:Nat):Int):=by rw [Int.tmod_eq_emod_of_nonneg (by omega)];simp
   have htd:(k:Int).tdiv n=((k / n:Nat):Int):=by rw [Int.tdiv_eq_ediv_of_nonneg (by omega)];simp
   have hq1:k % n<n:=Nat.mod_lt _ h1;have hq2:k / n≤k:=Nat.div_le_self _ _;have H1:=hid hst;have H2:=hid hx';clear hst hx'
   by_cases hn:n=1
   ·subst hn
    have h0:z=0:=by rw [hz'];rfl
    rw [hsame h0] at hown;clear hsame h0 hz' hb;have HO:=hid hown;have HX:=hid hx;clear hown hx;go_wp2;go_roundw
    case rel=>exact ⟨k+1,by omega,by go_num,HX.out,hb0,HO.out⟩
    case measure=>simp [intOf];omega
   ·have hb:=hb hn
    unfold dVal dAt dStep at hz';unfold dAt dStep at hb;simp only [if_neg hn,Bool.false_eq_true,if_false,if_true] at hz' hb;clear hsame
    obtain ⟨q,hq⟩:∃q,k / n=q:=⟨_,rfl⟩
    obtain ⟨q',hq'⟩:∃q,k % n=q:=⟨_,rfl⟩
    rw [hq] at hz' hb;rw [hq'] at ht hq1;rw [hq] at htd hq2;clear hq hq'
    by_cases ha:q<n - 1
    ·rw [if_pos ha] at hz'
     have hbb:=hb.1 ha;clear hb hown;obtain ⟨b,off,rfl,hb1,hb2,hc⟩:=HU.at (k:=k) (by omega);obtain ⟨b',off',e',_,_,hc'⟩:=HU.at (k:=k+n) (by omega);simp only [Option.some.injEq,Addr.mk.injEq,and_true] at e';obtain ⟨rfl,rfl⟩:=e';rw [←hx.cells.1 b _ (by omega)] at hc hc';have g1:=getD_at xs k (by omega);have g2:=getD_at xs (k+n) (by omega);rw [g1,g2] at hz';have q9:=hx9 _ (List.getElem_mem (show k<xs.length by omega));have q9':=hx9 _ (List.getElem_mem (show k+n<xs.length by omega))
     obtain ⟨x,hxx⟩:∃x,xs[k]'(by omega)=x:=⟨_,rfl⟩
     obtain ⟨y,hyy⟩:∃x,xs[k+n]'(by omega)=x:=⟨_,rfl⟩
     rw [hxx] at hc q9 hz';rw [hyy] at hc' q9' hz';have HZ:=hid hz'.symm;obtain ⟨q1,q2⟩:=q9;obtain ⟨q3,q4⟩:=q9'
     have hbw:b<wr.heap.size:=by omega
     clear hxx hyy hz' g1 g2 hx;go_wp2_with fail;refine wp_region_stages [([0,1,2,3,4,5,6,7,8,9,10,11,12],13),([14],15)] 15 wr.heap.size (by kernel_rfl) (by kernel_rfl) ?_;refine wpStages_cons ?_;simp only [List.filterMap_cons,List.filterMap_nil,List.getElem?_toArray,List.getElem?_cons_zero,List.getElem?_cons_succ]
     show wpQuiet _ _ _ _ [_,_,_,_,_,_,_,_,_,_,_,_,_] _
     repeat (go_big_quiet_step (fail))
     refine wpQuiet_nil ⟨_,rfl,fun K hK=>?_⟩;go_wp2_with fail;refine (iSaturate_val HZ.out _).mono ?_;rintro e w1 ⟨rfl,rfl⟩;go_wp2_with fail;refine hK _ _ (.inr (fun k _ hk=>Ext.block X_ (by first|omega|(simp;omega)))) ?_;clear hK K;refine wpStages_cons ?_;simp only [List.filterMap_cons,List.filterMap_nil,List.getElem?_toArray,List.getElem?_cons_zero,List.getElem?_cons_succ]
     show wpQuiet _ _ _ _ [_] _
     try simp only [Act.put,List.setIfInBounds_toArray,List.set_cons_succ,List.set_cons_zero]
     repeat (go_big_quiet_step (fail))
     refine wpQuiet_nil ⟨_,rfl,fun K hK=>?_⟩;go_wp2_with fail;refine hK _ _ (.inl (by trivial)) (wpStages_nil ?_);clear hK K;go_wp2;go_roundw
     case rel=>exact ⟨k+1,by omega,by go_num,H2.out.drew,by simpa using hb0,H1.out.drew⟩
     case measure=>simp [intOf];omega
    ·rw [if_neg ha] at hz'
     have hbb:=hb.2 ha;clear hb hown;obtain ⟨b,off,rfl,hb1,hb2,hc⟩:=HU.at (k:=k) (by omega);obtain ⟨b',off',e',_,_,hc'⟩:=HU.at (k:=k - n) (by omega);simp only [Option.some.injEq,Addr.mk.injEq,and_true] at e';obtain ⟨rfl,rfl⟩:=e';rw [←hx.cells.1 b _ (by omega)] at hc hc';have g1:=getD_at xs k (by omega);have g2:=getD_at xs (k - n) (by omega);rw [g1,g2] at hz';have q9:=hx9 _ (List.getElem_mem (show k<xs.length by omega));have q9':=hx9 _ (List.getElem_mem (show k - n<xs.length by omega))
     obtain ⟨x,hxx⟩:∃x,xs[k]'(by omega)=x:=⟨_,rfl⟩
     obtain ⟨y,hyy⟩:∃x,xs[k - n]'(by omega)=x:=⟨_,rfl⟩
     rw [hxx] at hc q9 hz';rw [hyy] at hc' q9' hz';have HZ:=hid hz'.symm;obtain ⟨q1,q2⟩:=q9;obtain ⟨q3,q4⟩:=q9'
     have hbw:b<wr.heap.size:=by omega
     clear hxx hyy hz' g1 g2 hx;go_wp2_with fail;refine wp_region_stages [([0,1,2,3,4,5,6,7,8,9,10,11,12],13),([14],15)] 15 wr.heap.size (by kernel_rfl) (by kernel_rfl) ?_;refine wpStages_cons ?_;simp only [List.filterMap_cons,List.filterMap_nil,List.getElem?_toArray,List.getElem?_cons_zero,List.getElem?_cons_succ]
     show wpQuiet _ _ _ _ [_,_,_,_,_,_,_,_,_,_,_,_,_] _
     repeat (go_big_quiet_step (fail))
     refine wpQuiet_nil ⟨_,rfl,fun K hK=>?_⟩;go_wp2_with fail;refine (iSaturate_val HZ.out _).mono ?_;rintro e w1 ⟨rfl,rfl⟩;go_wp2_with fail;refine hK _ _ (.inr (fun k _ hk=>Ext.block X_ (by first|omega|(simp;omega)))) ?_;clear hK K;refine wpStages_cons ?_;simp only [List.filterMap_cons,List.filterMap_nil,List.getElem?_toArray,List.getElem?_cons_zero,List.getElem?_cons_succ]
     show wpQuiet _ _ _ _ [_] _
     try simp only [Act.put,List.setIfInBounds_toArray,List.set_cons_succ,List.set_cons_zero]
     repeat (go_big_quiet_step (fail))
     refine wpQuiet_nil ⟨_,rfl,fun K hK=>?_⟩;go_wp2_with fail;refine hK _ _ (.inl (by trivial)) (wpStages_nil ?_);clear hK K;go_wp2;go_roundw
     case rel=>exact ⟨k+1,by omega,by go_num,H2.out.drew,by simpa using hb0,H1.out.drew⟩
     case measure=>simp [intOf];omega
  ·go_wp2
   go_ret
   obtain rfl:k=m:=by omega
   have hown':OwnInts w.heap.size wr (.slice (some ⟨w.heap.size,0,none⟩) k k) zs:=⟨by rw [←hzl,fillTo_all] at hown;rw [←hzl];exact hown,HZ9.out⟩
   exact ⟨_,rfl,hown',hx⟩
def arityL (s:List UInt8):Int:=
 if s==[97,98,115] then 1 else if s==[102,108,111,111,114] then 1 else if s==[100,117] then 1 else if s==[100,118] then 1
 else if s==[109,105,110] then 2 else if s==[109,97,120] then 2 else if s==[115,116,101,112] then 2 else if s==[110,111,105,115,101] then 2 else if s==[116,101,120] then 2
 else if s==[99,108,97,109,112] then 3 else if s==[109,105,120] then 3
 else -1
def arity (s:ByteArray):Int:=arityL s.toList
theorem iArity_any (s:ByteArray) (w:World):Calls Tryz.prog 274 #[.string s] w fun e w'=>e = .returned (.int .i64 (arity s))∧w=w':=by
 go_enter Tryz.func274,Tryz.ntmps274;go_wp2
 all_goals go_ret
 all_goals first|(exfalso;simp_all;done)|(simp [arity,arityL, *];done)|simp_all [arity,arityL]
theorem sArity_any (s:ByteArray) (w:World):Calls Tryz.prog 181 #[.string s] w fun e w'=>e = .returned (.int .i64 (arity s))∧w=w':=by
 go_enter Tryz.func181,Tryz.ntmps181;go_wp2
 all_goals go_ret
 all_goals first|(exfalso;simp_all;done)|(simp [arity,arityL, *];done)|simp_all [arity,arityL]
theorem l17Pair_any (n i:Nat) (w:World) (hn:n≤1000) (hi:i≤1000):Calls Tryz.prog 282 #[.int .i64 n,.int .i64 i] w fun e w'=>e = .returned (.tuple #[.int .i64 (if i+1<n then (i:Int) else i - 1),.int .i64 (if i+1<n then (i:Int)+1 else i)])∧w=w':=by
 go_enter Tryz.func282,Tryz.ntmps282
 by_cases h:i+1<n
 ·rw [if_pos h,if_pos h]
  go_wp2;exact bodyPost_ret (v:=.tuple #[.int .i64 i,.int .i64 ((i:Int)+1)]) (by simp [results,Tryz.results282,go_sem]) rfl ⟨rfl,rfl⟩
 ·rw [if_neg h,if_neg h]
  go_wp2;exact bodyPost_ret (v:=.tuple #[.int .i64 ((i:Int) - 1),.int .i64 i]) (by simp [results,Tryz.results282,go_sem]) rfl ⟨rfl,rfl⟩
def isVar (s:ByteArray):Bool:=s.toList==[117]||s.toList==[118]||s.toList==[120]||s.toList==[121]||s.toList==[122]||s.toList==[116]
theorem iIsVariable_any (s:ByteArray) (w:World):Calls Tryz.prog 218 #[.string s] w fun e w'=>e = .returned (.bool (isVar s))∧w=w':=by
 go_enter Tryz.func218,Tryz.ntmps218;go_wp2
 all_goals go_ret
 all_goals first|(exfalso;simp_all;done)|(simp [isVar, *];done)|simp_all [isVar]
theorem l19Ok_any (lo hi:Nat) (u:Value) (xs:List Int) (n:Nat) (w:World) (hu:Ints lo hi w u xs) (h1:1≤n) (h8:n≤8) (hl:xs.length=n*n):Calls Tryz.prog 281 #[u,.int .i64 n] w fun e w'=>e = .returned (.bool true)∧w=w':=by
 obtain ⟨a,cap,rfl,HU⟩:=hu.open;clear hu;have hm:n*n≤8*8:=Nat.mul_le_mul h8 h8
 obtain ⟨m,hmm⟩:∃m,n*n=m:=⟨_,rfl⟩
 have hmi:(n:Int)*n=m:=by rw [←hmm];simp
 rw [hmm] at hl hm;clear hmm;rw [hl];go_enter Tryz.func281,Tryz.ntmps281;go_wp2_with fail;refine (l01In_val (b:=true) (inB_iff.2 ⟨by omega,by omega⟩) _).mono ?_;rintro e w1 ⟨rfl,rfl⟩;go_wp2;go_ret;exact ⟨rfl,rfl⟩
def varNames:List (List UInt8):=[[117],[118],[120],[121],[122],[116]]
def varObj:Obj:=.cells #[.string ⟨#[117]⟩,.string ⟨#[118]⟩,.string ⟨#[120]⟩,.string ⟨#[121]⟩,.string ⟨#[122]⟩,.string ⟨#[116]⟩] 9
theorem sIsVariable_any (s:ByteArray) (w:World):Calls Tryz.prog 182 #[.string s] w fun e w'=>e = .returned (.bool (isVar s))∧Ext w w':=by
 go_enter Tryz.func182,Tryz.ntmps182;go_wp2
 go_loopw [7] (fun i wr=>∃k:Nat,k≤6∧i = .int .i64 k∧wr=w.alloc varObj∧∀j x,j<k→varNames[j]?=some x→(s.toList==x)=false) (fun i _=>6 - (intOf i).toNat)
 case atStart=>exact ⟨0,by omega,rfl,rfl,fun j x h=>by omega⟩
 case round=>
  obtain ⟨k,hk,rfl,rfl,hno⟩:=hrel
  by_cases hlt:k<6
  ·obtain ⟨x,hx⟩:∃x,varNames[k]?=some x:=⟨varNames[k]'(by show k<6;exact hlt),by simp⟩
   obtain ⟨y,hy,hyx⟩:∃y:ByteArray,(w.alloc varObj).cell? ⟨w.heap.size,k,none⟩=some (.string y)∧y.toList=x:=by
    rcases (show k=0∨k=1∨k=2∨k=3∨k=4∨k=5 by omega) with rfl|rfl|rfl|rfl|rfl|rfl <;> (simp [varNames] at hx;subst hx;first|exact ⟨⟨#[117]⟩,by simp [varObj,go_sem];done,(by first|rfl|decide|decide +kernel)⟩|exact ⟨⟨#[118]⟩,by simp [varObj,go_sem];done,(by first|rfl|decide|decide +kernel)⟩|exact ⟨⟨#[120]⟩,by simp [varObj,go_sem];done,(by first|rfl|decide|decide +kernel)⟩|exact ⟨⟨#[121]⟩,by simp [varObj,go_sem];done,(by first|rfl|decide|decide +kernel)⟩|exact ⟨⟨#[122]⟩,by simp [varObj,go_sem];done,(by first|rfl|decide|decide +kernel)⟩|exact ⟨⟨#[116]⟩,by simp [varObj,go_sem];done,(by first|rfl|decide|decide +kernel)⟩)
   by_cases he:(y.toList==s.toList)=true
   ·have hv:isVar s=true:=by
     have:s.toList=x:=by rw [←hyx];exact (eq_of_beq he).symm
     rcases (show k=0∨k=1∨k=2∨k=3∨k=4∨k=5 by omega) with rfl|rfl|rfl|rfl|rfl|rfl <;> (simp [varNames] at hx;simp [isVar,this,←hx])
    have HV:=hid hv;clear hno hv hx hyx;go_wp2;go_ret;exact ⟨by rw [HV.out];rfl,X_⟩
   ·have hno':∀j z,j<k+1→varNames[j]?=some z→(s.toList==z)=false:=fun j z hj hz=>by
     by_cases hjk:j=k
     ·subst hjk
      rw [hx] at hz;injection hz with hz;subst hz;rw [←hyx];rw [Bool.eq_false_iff];intro h;exact he (by rw [eq_of_beq h];simp)
     ·exact hno j z (by omega) hz
    have HN:=hid hno';clear hno hno' hx hyx;go_wp2;go_roundw
    case rel=>exact ⟨k+1,by omega,by go_num,by trivial,HN.out⟩
    case measure=>simp [intOf];omega
  ·obtain rfl:k=6:=by omega
   have hv:isVar s=false:=by
    have h0:=hno 0 _ (by decide) rfl;have h1:=hno 1 _ (by decide) rfl;have h2:=hno 2 _ (by decide) rfl;have h3:=hno 3 _ (by decide) rfl;have h4:=hno 4 _ (by decide) rfl;have h5:=hno 5 _ (by decide) rfl;simp only [isVar,h0,h1,h2,h3,h4,h5,Bool.or_self]
   have HV:=hid hv;clear hno hv;go_wp2;go_ret;exact ⟨by rw [HV.out];rfl,X_⟩
def varL (l:List UInt8) (f:Nat→Int) (tm:Int) (q:Nat):Int:=
 if l==[117] then f (q*5) else if l==[118] then f (q*5+1) else if l==[120] then f (q*5+2) else if l==[121] then f (q*5+3) else if l==[122] then f (q*5+4) else tm
theorem l17Variable_any (lo hi:Nat) (n m i j q:Nat) (u:Value) (f:Nat→Int) (tm g3:Int) (g4:Value) (s:ByteArray) (w:World) (hu:Flats 5 lo hi w u m f) (hh:hi≤w.heap.size) (hq:(j:Int)*n+i=q) (hq':q<m) (hm:m≤1000) (hj:(j:Int)*n≤1000) (h0:0≤(j:Int)*n) (hi0:i≤1000) :
  Calls Tryz.prog 245 #[.agg #[.int .i64 n,u,.int .i64 tm,.int .i64 g3,g4],.string s,.int .i64 i,.int .i64 j] w fun e w'=>e = .returned (.int .i64 (varL s.toList f tm q))∧Ext w w':=by
 obtain ⟨a,cap,rfl,HU⟩:=hu.open;obtain ⟨b,off,rfl,hb1,hb2,hc⟩:=HU.at hq' (by decide);have c0:=hc 0 (by decide);have c1:=hc 1 (by decide);have c2:=hc 2 (by decide);have c3:=hc 3 (by decide);have c4:=hc 4 (by decide);have l1:=HU.le;have l2:=HU.cap;simp only [Nat.add_zero] at c0
 have hbw:b<w.heap.size:=by omega
 have hbw2:b≠w.heap.size:=by omega
 have hbw3:b≠w.heap.size+1:=by omega
 clear hu hc HU;go_enter Tryz.func245,Tryz.ntmps245;go_wp2
 all_goals go_ret
 all_goals first|(exfalso;simp_all;done)|(refine ⟨by simp [varL, *];done,S_⟩)
structure Grd where
 n:Int
 m:Nat
 f:Nat→Int
 tm:Int
 t:Tex
def Grd.R (g:Grd) (lo hi:Nat) (w:World) (v:Value):Prop:=∃pu tu,v = .agg #[.int .i64 g.n,pu,.int .i64 g.tm,.int .i64 g.t.log,tu]∧I64 g.n∧I64 g.tm∧I64 g.t.log∧Flats 5 lo hi w pu g.m g.f∧Ints lo hi w tu g.t.px
theorem Grd.R.same {g:Grd} {lo hi:Nat} {w w':World} {v:Value} (h:g.R lo hi w v) (s:Same lo hi w w'):g.R lo hi w' v:=by
 obtain ⟨pu,tu,h1,h2,h3,h4,h5,h6⟩:=h;exact ⟨pu,tu,h1,h2,h3,h4,h5.same s,h6.same s⟩
theorem Grd.R.ext {g:Grd} {lo hi:Nat} {w w':World} {v:Value} (h:g.R lo hi w v) (hh:hi≤w.heap.size) (e:Ext w w'):g.R lo hi w' v:=h.same (e.same hh)
theorem Grd.R.wide {g:Grd} {lo hi lo' hi':Nat} {w:World} {v:Value} (h:g.R lo hi w v) (h1:lo'≤lo) (h2:hi≤hi'):g.R lo' hi' w v:=by
 obtain ⟨pu,tu,g1,g2,g3,g4,g5,g6⟩:=h;exact ⟨pu,tu,g1,g2,g3,g4,g5.wide h1 h2,g6.wide h1 h2⟩
def ptL (f:Nat→Int) (k:Nat):List Int:=[f (k*5),f (k*5+1),f (k*5+2),f (k*5+3),f (k*5+4)]
def ptB (f:Nat→Int) (k:Nat):Bool:=(ptL f k).all fun x=>inB x (-1000000) 1000000
theorem ptB_all (f:Nat→Int) (k:Nat):((ptL f k).all fun x=>inB x (-1000000) 1000000)=ptB f k:=by unfold ptB;with_reducible rfl
def Grd.okB (g:Grd):Bool:=inB g.n 1 8&&decide ((g.m:Int)=g.n*g.n)&&inB g.tm 0 256&&g.t.okB&&(List.range g.m).all (ptB g.f)
theorem sq_bd {n:Int} (h:inB n 1 8=true):1≤n*n∧n*n≤64:=by
 have h:=inB_iff.1 h
 rcases (show n=1∨n=2∨n=3∨n=4∨n=5∨n=6∨n=7∨n=8 by omega) with rfl|rfl|rfl|rfl|rfl|rfl|rfl|rfl <;> decide
theorem rng_all {p:Nat→Bool} {m:Nat} (h:∀i,i<m→p i=true):(List.range m).all p=true:=List.all_eq_true.2 fun i hi=>h i (List.mem_range.1 hi)
theorem rng_no {p:Nat→Bool} {m i:Nat} (hi:i<m) (h:p i=false):(List.range m).all p=false:=by
 rw [List.all_eq_false];exact ⟨i,List.mem_range.2 hi,by simp [h]⟩
theorem Ints.lit5At (w:World) {q:Nat} (hq:w.heap.size=q) {x:List Int} {a b c d e:Int} (hx:x=[a,b,c,d,e]) (hi:∀y∈x,I64 y):Ints q (q+1) (w.alloc (.cells #[.int .i64 a,.int .i64 b,.int .i64 c,.int .i64 d,.int .i64 e] 3)) (.slice (some ⟨q,0,none⟩) 5 5) x:=by
 subst hx hq;refine ⟨_,5,rfl,Nat.le_refl _,by unfold maxLen;omega,fun i y hy=>⟨hi y (List.mem_of_getElem? hy),w.heap.size,0,rfl,Nat.le_refl _,by omega,?_⟩⟩;have hl:=(List.getElem?_eq_some_iff.1 hy).1;simp only [List.length_cons,List.length_nil] at hl
 rcases (show i=0∨i=1∨i=2∨i=3∨i=4 by omega) with rfl|rfl|rfl|rfl|rfl <;> (simp at hy;subst hy;simp [go_sem])
theorem allWithin_val {xs:List Int} {lo hi:Int} {r:Bool} (h:(xs.all fun x=>inB x lo hi)=r) (l0 h0:Nat) (u:Value) (w:World) (hu:Ints l0 h0 w u xs) :
  Calls Tryz.prog 60 #[u,.int .i64 lo,.int .i64 hi] w fun e w'=>e = .returned (.bool r)∧w=w':=h▸allWithin_any l0 h0 u xs lo hi w hu
theorem iIsValidGrid_any (lo hi:Nat) (v:Value) (g:Grd) (w:World) (hv:g.R lo hi w v) (hh:hi≤w.heap.size) :
  Calls Tryz.prog 159 #[v] w fun e w'=>e = .returned (.bool g.okB)∧Ext w w':=by
 obtain ⟨pu,tu,rfl,hn,ht,hl,hp,hu⟩:=hv;obtain ⟨a,cap,rfl,HP⟩:=hp.open;obtain ⟨a',cap',rfl,HU⟩:=hu.open;have l1:=HP.le;have l2:=HP.cap;have HT:=hid (show TexR lo hi w (.agg #[.int .i64 g.t.log,.slice a' g.t.px.length cap']) g.t from ⟨_,rfl,hl,hu⟩);clear hp hu hn ht hl
 cases h1:inB g.n 1 8
 ·have e:g.okB=false:=by unfold Grd.okB;rw [h1];rfl
  rw [e];go_enter Tryz.func159,Tryz.ntmps159;go_wp2_with (go_at_call 54;refine (within_val h1 _).mono ?_;rintro e w1 ⟨rfl,rfl⟩);go_ret;exact ⟨rfl,X_⟩
 have hb:=sq_bd h1
 obtain ⟨P,hP⟩:∃P,g.n*g.n=P:=⟨_,rfl⟩
 rw [hP] at hb
 by_cases h2:(g.m:Int)=P
 case neg=>
  have e2:((g.m:Int) != P)=true:=by simp [h2]
  have e:g.okB=false:=by unfold Grd.okB;rw [hP,decide_eq_false h2];simp
  rw [e];clear h2 e;go_enter Tryz.func159,Tryz.ntmps159;go_wp2_with (go_at_call 54;refine (within_val h1 _).mono ?_;rintro e w1 ⟨rfl,rfl⟩);go_ret;exact ⟨rfl,X_⟩
 have e2:((g.m:Int) != P)=false:=by simp [h2]
 have H2:=hid h2
 have hm:g.m≤64:=by omega
 clear h2
 cases h3:inB g.tm 0 256
 ·have e:g.okB=false:=by simp only [Grd.okB,h3,Bool.and_false,Bool.false_and]
  rw [e];go_enter Tryz.func159,Tryz.ntmps159;go_wp2_with (go_at_call 54;(first|with_reducible refine (within_val h1 _).mono ?_|with_reducible refine (within_val h3 _).mono ?_);rintro e w1 ⟨rfl,rfl⟩);go_ret;exact ⟨rfl,X_⟩
 cases h4:g.t.okB
 ·have e:g.okB=false:=by simp only [Grd.okB,h4,Bool.and_false,Bool.false_and]
  rw [e];go_enter Tryz.func159,Tryz.ntmps159;go_wp2_with (first|(go_at_call 54;(first|with_reducible refine (within_val h1 _).mono ?_|with_reducible refine (within_val h3 _).mono ?_);rintro e w1 ⟨rfl,rfl⟩)|(go_at_call 97;refine (iIsValidTexture_val h4 lo hi _ _ (HT.out.ext hh X_) (by simp;omega)).mono ?_;rintro e w1 ⟨rfl,x1⟩));go_ret;exact ⟨rfl,Ext.trans X_ x1⟩
 have hOK:g.okB=(List.range g.m).all (ptB g.f):=by simp only [Grd.okB,h1,hP,decide_eq_true H2.out,h3,h4,Bool.true_and]
 rw [hOK];clear hOK;go_enter Tryz.func159,Tryz.ntmps159;go_wp2_with (first|(go_at_call 54;(first|with_reducible refine (within_val h1 _).mono ?_|with_reducible refine (within_val h3 _).mono ?_);rintro e w1 ⟨rfl,rfl⟩)|(go_at_call 97;refine (iIsValidTexture_val h4 lo hi _ _ (HT.out.ext hh X_) (by simp;omega)).mono ?_;rintro e w1 ⟨rfl,x1⟩;obtain ⟨d0,d1⟩:w.heap.size<w1.heap.size∧w1.cell? ⟨w.heap.size,1,none⟩=some (.slice a g.m cap):=⟨by have:=x1.size;simp at this;omega,by rw [x1.cells.1 _ _ (by simp)];simp [go_sem]⟩));have X1:=hid (Ext.trans X_ x1:Ext w w1);clear x1
 go_loopw [35] (fun i wr=>∃k:Nat,k≤g.m∧i = .int .i64 k∧(∀j,j<k→ptB g.f j=true)∧Ext w wr) (fun i _=>g.m - (intOf i).toNat)
 case atStart=>exact ⟨0,by omega,rfl,fun j h=>by omega,X1.out⟩
 case round=>
  obtain ⟨k,hk,rfl,hall,hx⟩:=hrel;have HA:=hid hall;clear hall
  by_cases hlt:k<g.m
  ·obtain ⟨b,off,rfl,hb1,hb2,hc⟩:=HP.at hlt (by decide)
   have c0:=(hx.cells.1 b _ (by omega)).trans (hc 0 (by decide));have c1:=(hx.cells.1 b _ (by omega)).trans (hc 1 (by decide));have c2:=(hx.cells.1 b _ (by omega)).trans (hc 2 (by decide));have c3:=(hx.cells.1 b _ (by omega)).trans (hc 3 (by decide));have c4:=(hx.cells.1 b _ (by omega)).trans (hc 4 (by decide));simp only [Nat.add_zero] at c0;have HX:=hid hx
   have hbw:b<wr.heap.size:=by have:=hx.size;omega
   have h9:∀y∈ptL g.f k,I64 y:=by
    intro y hy;simp only [ptL,List.mem_cons,List.not_mem_nil,or_false] at hy
    rcases hy with rfl|rfl|rfl|rfl|rfl
    ·exact HP.i64 (j:=0) hlt (by decide)
    ·exact HP.i64 (j:=1) hlt (by decide)
    ·exact HP.i64 (j:=2) hlt (by decide)
    ·exact HP.i64 (j:=3) hlt (by decide)
    ·exact HP.i64 (j:=4) hlt (by decide)
   have H9:=hid h9;clear hc hx h9
   obtain ⟨r,hr⟩:∃r,ptB g.f k=r:=⟨_,rfl⟩
   have HR:=hid hr;clear hr;go_wp2_with fail;have hR2:=(ptB_all g.f k).trans HR.out;refine (allWithin_val hR2 (wr.heap.size+1) (wr.heap.size+1+1) _ _ (Ints.lit5At _ (by simp) rfl H9.out)).mono ?_;clear hR2;rintro e w2 ⟨rfl,rfl⟩
   cases r
   ·go_wp2
    go_ret;exact ⟨ret_bool (rng_no hlt HR.out).symm,by have hx:=HX.out;exact S_⟩
   ·go_wp2
    go_roundw
    case rel=>exact ⟨k+1,by omega,by go_num,fun j hj=>by
     by_cases e:j=k
     ·subst e;exact HR.out
     ·exact HA.out j (by omega),by have hx:=HX.out;exact S_⟩
    case measure=>simp [intOf];omega
  ·go_wp2
   go_ret
   obtain rfl:k=g.m:=by omega
   exact ⟨ret_bool (rng_all HA.out).symm,hx⟩
theorem sIsValidGrid_any (lo hi:Nat) (v:Value) (g:Grd) (w:World) (hv:g.R lo hi w v) (hh:hi≤w.heap.size) :
  Calls Tryz.prog 190 #[v] w fun e w'=>e = .returned (.bool g.okB)∧Ext w w':=by
 obtain ⟨pu,tu,rfl,hn,ht,hl,hp,hu⟩:=hv;obtain ⟨a,cap,rfl,HP⟩:=hp.open;obtain ⟨a',cap',rfl,HU⟩:=hu.open;have l1:=HP.le;have l2:=HP.cap;have HT:=hid (show TexR lo hi w (.agg #[.int .i64 g.t.log,.slice a' g.t.px.length cap']) g.t from ⟨_,rfl,hl,hu⟩);clear hp hu hn ht hl
 cases h1:inB g.n 1 8
 ·have e:g.okB=false:=by unfold Grd.okB;rw [h1];rfl
  rw [e];go_enter Tryz.func190,Tryz.ntmps190;go_wp2_with (go_at_call 70;refine (l01In_val h1 _).mono ?_;rintro e w1 ⟨rfl,rfl⟩);go_ret;exact ⟨rfl,X_⟩
 have hb:=sq_bd h1
 obtain ⟨P,hP⟩:∃P,g.n*g.n=P:=⟨_,rfl⟩
 rw [hP] at hb
 by_cases h2:(g.m:Int)=P
 case neg=>
  have e2:((g.m:Int) != P)=true:=by simp [h2]
  have e:g.okB=false:=by unfold Grd.okB;rw [hP,decide_eq_false h2];simp
  rw [e];clear h2 e;go_enter Tryz.func190,Tryz.ntmps190;go_wp2_with (go_at_call 70;refine (l01In_val h1 _).mono ?_;rintro e w1 ⟨rfl,rfl⟩);go_ret;exact ⟨rfl,X_⟩
 have e2:((g.m:Int) != P)=false:=by simp [h2]
 have H2:=hid h2
 have hm:g.m≤64:=by omega
 clear h2
 cases h3:inB g.tm 0 256
 ·have e:g.okB=false:=by simp only [Grd.okB,h3,Bool.and_false,Bool.false_and]
  rw [e];go_enter Tryz.func190,Tryz.ntmps190;go_wp2_with (go_at_call 70;(first|with_reducible refine (l01In_val h1 _).mono ?_|with_reducible refine (l01In_val h3 _).mono ?_);rintro e w1 ⟨rfl,rfl⟩);go_ret;exact ⟨rfl,X_⟩
 cases h4:g.t.okB
 ·have e:g.okB=false:=by simp only [Grd.okB,h4,Bool.and_false,Bool.false_and]
  rw [e];go_enter Tryz.func190,Tryz.ntmps190;go_wp2_with (first|(go_at_call 70;(first|with_reducible refine (l01In_val h1 _).mono ?_|with_reducible refine (l01In_val h3 _).mono ?_);rintro e w1 ⟨rfl,rfl⟩)|(go_at_call 123;refine (sIsValidTexture_val h4 lo hi _ _ (HT.out.ext hh X_) (by simp;omega)).mono ?_;rintro e w1 ⟨rfl,x1⟩));go_ret;exact ⟨rfl,Ext.trans X_ x1⟩
 have hOK:g.okB=(List.range g.m).all (ptB g.f):=by simp only [Grd.okB,h1,hP,decide_eq_true H2.out,h3,h4,Bool.true_and]
 rw [hOK];clear hOK;go_enter Tryz.func190,Tryz.ntmps190;go_wp2_with (first|(go_at_call 70;(first|with_reducible refine (l01In_val h1 _).mono ?_|with_reducible refine (l01In_val h3 _).mono ?_);rintro e w1 ⟨rfl,rfl⟩)|(go_at_call 123;refine (sIsValidTexture_val h4 lo hi _ _ (HT.out.ext hh X_) (by simp;omega)).mono ?_;rintro e w1 ⟨rfl,x1⟩;obtain ⟨d0,d1⟩:w.heap.size<w1.heap.size∧w1.cell? ⟨w.heap.size,1,none⟩=some (.slice a g.m cap):=⟨by have:=x1.size;simp at this;omega,by rw [x1.cells.1 _ _ (by simp)];simp [go_sem]⟩));have X1:=hid (Ext.trans X_ x1:Ext w w1);clear x1
 go_loopw [37] (fun i wr=>∃k:Nat,k≤g.m∧i = .int .i64 k∧(∀j,j<k→ptB g.f j=true)∧Ext w wr) (fun i _=>g.m - (intOf i).toNat)
 case atStart=>exact ⟨0,by omega,rfl,fun j h=>by omega,X1.out⟩
 case round=>
  obtain ⟨k,hk,rfl,hall,hx⟩:=hrel;have HA:=hid hall;clear hall
  by_cases hlt:k<g.m
  ·obtain ⟨b,off,rfl,hb1,hb2,hc⟩:=HP.at hlt (by decide)
   have c0:=(hx.cells.1 b _ (by omega)).trans (hc 0 (by decide));have c1:=(hx.cells.1 b _ (by omega)).trans (hc 1 (by decide));have c2:=(hx.cells.1 b _ (by omega)).trans (hc 2 (by decide));have c3:=(hx.cells.1 b _ (by omega)).trans (hc 3 (by decide));have c4:=(hx.cells.1 b _ (by omega)).trans (hc 4 (by decide));simp only [Nat.add_zero] at c0;have HX:=hid hx
   have hbw:b<wr.heap.size:=by have:=hx.size;omega
   have h9:∀y∈ptL g.f k,I64 y:=by
    intro y hy;simp only [ptL,List.mem_cons,List.not_mem_nil,or_false] at hy
    rcases hy with rfl|rfl|rfl|rfl|rfl
    ·exact HP.i64 (j:=0) hlt (by decide)
    ·exact HP.i64 (j:=1) hlt (by decide)
    ·exact HP.i64 (j:=2) hlt (by decide)
    ·exact HP.i64 (j:=3) hlt (by decide)
    ·exact HP.i64 (j:=4) hlt (by decide)
   have H9:=hid h9;clear hc hx h9
   obtain ⟨r,hr⟩:∃r,ptB g.f k=r:=⟨_,rfl⟩
   have HR:=hid hr;clear hr;go_wp2;have HL:=hid (Ints.lit5At (wr.alloc (.cells #[.int .i64 (g.f (k*5)),.int .i64 (g.f (k*5+1)),.int .i64 (g.f (k*5+2)),.int .i64 (g.f (k*5+3)),.int .i64 (g.f (k*5+4))] 200)) (q:=wr.heap.size+1) (by simp) (x:=ptL g.f k) rfl H9.out);have HX2:=hid (show Ext w _ from (by have hx:=HX.out;exact S_:Ext w ((wr.alloc (.cells #[.int .i64 (g.f (k*5)),.int .i64 (g.f (k*5+1)),.int .i64 (g.f (k*5+2)),.int .i64 (g.f (k*5+3)),.int .i64 (g.f (k*5+4))] 200)).alloc (.cells #[.int .i64 (g.f (k*5)),.int .i64 (g.f (k*5+1)),.int .i64 (g.f (k*5+2)),.int .i64 (g.f (k*5+3)),.int .i64 (g.f (k*5+4))] 3))));generalize hW:World.alloc (World.alloc wr _) _=W at HL HX2 ⊢;clear hW;have hpl:(ptL g.f k).length=5:=rfl;generalize hp:ptL g.f k=pl at *;have HP2:=hid hp;clear hp;obtain ⟨a2,cap2,e2,HI⟩:=HL.out.open;rw [hpl] at e2;simp only [Value.slice.injEq,true_and] at e2;obtain ⟨rfl,rfl⟩:=e2
   go_loopw [53] (fun i wq=>∃j:Nat,j≤5∧i = .int .i64 j∧wq=W∧(pl.take j).all (fun x=>inB x (-1000000) 1000000)=true) (fun i _=>5 - (intOf i).toNat)
   case atStart=>exact ⟨0,by omega,rfl,rfl,rfl⟩
   case round=>
    obtain ⟨j,hj,rfl,rfl,hq⟩:=hrel;have HQ:=hid hq;clear hq
    by_cases hlj:j<5
    ·obtain ⟨b3,off3,e3,hb3,hb4,hc3⟩:=HI.at (k:=j) (by omega)
     simp only [Option.some.injEq,Addr.mk.injEq,and_true] at e3;obtain ⟨rfl,rfl⟩:=e3;simp only [Nat.zero_add] at hc3
     cases hin:inB (pl[j]'(by omega)) (-1000000) 1000000
     ·have HI2:=hid hin
      go_wp2_with fail;refine (l01In_val HI2.out _).mono ?_;rintro e w2 ⟨rfl,rfl⟩;go_wp2;go_ret;exact ⟨ret_bool (rng_no hlt (by rw [←ptB_all,HP2.out];exact all_no (by omega) HI2.out)).symm,by have hx:=HX2.out;exact S_⟩
     ·have HI2:=hid hin
      go_wp2_with fail;refine (l01In_val HI2.out _).mono ?_;rintro e w2 ⟨rfl,rfl⟩;go_wp2;go_roundw
      case rel=>exact ⟨j+1,by omega,by go_num,by trivial,all_step (by omega) HQ.out HI2.out⟩
      case measure=>simp [intOf];omega
    ·obtain rfl:j=5:=by omega
     have hR:ptB g.f k=true:=by rw [←ptB_all,HP2.out];have:=HQ.out;rwa [List.take_of_length_le (by omega)] at this
     have HR2:=hid hR;clear hR;go_wp2;go_roundw
     case rel=>exact ⟨k+1,by omega,by go_num,fun j hj=>by
      by_cases e:j=k
      ·subst e;exact HR2.out
      ·exact HA.out j (by omega),by have hx:=HX2.out;exact S_⟩
     case measure=>simp [intOf];omega
  ·go_wp2
   go_ret
   obtain rfl:k=g.m:=by omega
   exact ⟨ret_bool (rng_all HA.out).symm,hx⟩
def popsI (op:Int) (s:ByteArray):Int:=if op=4 then 1 else if op=5 then 1 else if op=6 then 2 else if op=7 then arity s else 0
def pushI (op:Int):Int:=if op=4 then 0 else 1
theorem iPops4 (s:ByteArray) (n:Int) (w:World):Calls Tryz.prog 298 #[.agg #[.int .i64 4,.string s,.int .i64 n]] w fun e w'=>e = .returned (.tuple #[.int .i64 1,.int .i64 0])∧Ext w w':=by
 go_enter Tryz.func298,Tryz.ntmps298;go_wp2;exact bodyPost_ret (v:=.tuple #[.int .i64 1,.int .i64 0]) (by simp [results,Tryz.results298,go_sem]) rfl ⟨rfl,S_⟩
theorem iPops5 (s:ByteArray) (n:Int) (w:World):Calls Tryz.prog 298 #[.agg #[.int .i64 5,.string s,.int .i64 n]] w fun e w'=>e = .returned (.tuple #[.int .i64 1,.int .i64 1])∧Ext w w':=by
 go_enter Tryz.func298,Tryz.ntmps298;go_wp2;exact bodyPost_ret (v:=.tuple #[.int .i64 1,.int .i64 1]) (by simp [results,Tryz.results298,go_sem]) rfl ⟨rfl,S_⟩
theorem iPops6 (s:ByteArray) (n:Int) (w:World):Calls Tryz.prog 298 #[.agg #[.int .i64 6,.string s,.int .i64 n]] w fun e w'=>e = .returned (.tuple #[.int .i64 2,.int .i64 1])∧Ext w w':=by
 go_enter Tryz.func298,Tryz.ntmps298;go_wp2;exact bodyPost_ret (v:=.tuple #[.int .i64 2,.int .i64 1]) (by simp [results,Tryz.results298,go_sem]) rfl ⟨rfl,S_⟩
theorem iPops7 (s:ByteArray) (n:Int) (w:World):Calls Tryz.prog 298 #[.agg #[.int .i64 7,.string s,.int .i64 n]] w fun e w'=>e = .returned (.tuple #[.int .i64 (arity s),.int .i64 1])∧Ext w w':=by
 go_enter Tryz.func298,Tryz.ntmps298;go_wp2_with fail;refine (iArity_any s _).mono ?_;rintro e w1 ⟨rfl,rfl⟩;go_wp2;exact bodyPost_ret (v:=.tuple #[.int .i64 (arity s),.int .i64 1]) (by simp [results,Tryz.results298,go_sem]) rfl ⟨rfl,S_⟩
theorem iPopsE (op:Int) (s:ByteArray) (n:Int) (w:World) (h4:op≠4) (h5:op≠5) (h6:op≠6) (h7:op≠7):Calls Tryz.prog 298 #[.agg #[.int .i64 op,.string s,.int .i64 n]] w fun e w'=>e = .returned (.tuple #[.int .i64 0,.int .i64 1])∧Ext w w':=by
 go_enter Tryz.func298,Tryz.ntmps298;go_wp2;exact bodyPost_ret (v:=.tuple #[.int .i64 0,.int .i64 1]) (by simp [results,Tryz.results298,go_sem]) rfl ⟨rfl,S_⟩
theorem iPops_any (op:Int) (s:ByteArray) (n:Int) (w:World):Calls Tryz.prog 298 #[.agg #[.int .i64 op,.string s,.int .i64 n]] w fun e w'=>e = .returned (.tuple #[.int .i64 (popsI op s),.int .i64 (pushI op)])∧Ext w w':=by
 unfold popsI pushI
 by_cases h4:op=4
 ·subst h4;simpa using iPops4 s n w
 by_cases h5:op=5
 ·subst h5;simpa using iPops5 s n w
 by_cases h6:op=6
 ·subst h6;simpa using iPops6 s n w
 by_cases h7:op=7
 ·subst h7;simpa using iPops7 s n w
 simp only [if_neg h4,if_neg h5,if_neg h6,if_neg h7];exact iPopsE op s n w h4 h5 h6 h7
theorem iWf1n (s:ByteArray) (n L:Int) (w:World) (he:(s.toList==[])=false):Calls Tryz.prog 297 #[.agg #[.int .i64 1,.string s,.int .i64 n],.int .i64 L] w fun e w'=>e = .returned (.bool false)∧Ext w w':=by
 go_enter Tryz.func297,Tryz.ntmps297;go_wp2;go_ret;exact ⟨rfl,S_⟩
theorem iWf3n (s:ByteArray) (n L:Int) (w:World) (he:(s.toList==[])=false):Calls Tryz.prog 297 #[.agg #[.int .i64 3,.string s,.int .i64 n],.int .i64 L] w fun e w'=>e = .returned (.bool false)∧Ext w w':=by
 go_enter Tryz.func297,Tryz.ntmps297;go_wp2;go_ret;exact ⟨rfl,S_⟩
theorem iWf4n (s:ByteArray) (n L:Int) (w:World) (he:(s.toList==[])=false):Calls Tryz.prog 297 #[.agg #[.int .i64 4,.string s,.int .i64 n],.int .i64 L] w fun e w'=>e = .returned (.bool false)∧Ext w w':=by
 go_enter Tryz.func297,Tryz.ntmps297;go_wp2;go_ret;exact ⟨rfl,S_⟩
theorem iWf5n (s:ByteArray) (n L:Int) (w:World) (he:(s.toList==[])=false):Calls Tryz.prog 297 #[.agg #[.int .i64 5,.string s,.int .i64 n],.int .i64 L] w fun e w'=>e = .returned (.bool false)∧Ext w w':=by
 go_enter Tryz.func297,Tryz.ntmps297;go_wp2;go_ret;exact ⟨rfl,S_⟩
theorem iWf6n (s:ByteArray) (n L:Int) (w:World) (he:(s.toList==[])=false):Calls Tryz.prog 297 #[.agg #[.int .i64 6,.string s,.int .i64 n],.int .i64 L] w fun e w'=>e = .returned (.bool false)∧Ext w w':=by
 go_enter Tryz.func297,Tryz.ntmps297;go_wp2;go_ret;exact ⟨rfl,S_⟩
theorem iWf1 (s:ByteArray) (n L:Int) (w:World) (he:(s.toList==[])=true):Calls Tryz.prog 297 #[.agg #[.int .i64 1,.string s,.int .i64 n],.int .i64 L] w fun e w'=>e = .returned (.bool true)∧Ext w w':=by
 go_enter Tryz.func297,Tryz.ntmps297;go_wp2;go_ret;exact ⟨rfl,S_⟩
theorem iWf3 (s:ByteArray) (n L:Int) (w:World) (he:(s.toList==[])=true) (h0:0≤L) (h1:L≤2000000):Calls Tryz.prog 297 #[.agg #[.int .i64 3,.string s,.int .i64 n],.int .i64 L] w fun e w'=>e = .returned (.bool (inB n 0 (L - 1)))∧Ext w w':=by
 go_enter Tryz.func297,Tryz.ntmps297;go_wp2_with fail;refine (within_any n 0 (L - 1) _).mono ?_;rintro e w1 ⟨rfl,rfl⟩;go_wp2;go_ret;exact ⟨rfl,S_⟩
theorem iWf4 (s:ByteArray) (n L:Int) (w:World) (he:(s.toList==[])=true) (h0:0≤L) (h1:L≤2000000):Calls Tryz.prog 297 #[.agg #[.int .i64 4,.string s,.int .i64 n],.int .i64 L] w fun e w'=>e = .returned (.bool (inB n 0 (L - 1)))∧Ext w w':=by
 go_enter Tryz.func297,Tryz.ntmps297;go_wp2_with fail;refine (within_any n 0 (L - 1) _).mono ?_;rintro e w1 ⟨rfl,rfl⟩;go_wp2;go_ret;exact ⟨rfl,S_⟩
theorem iWf5 (s:ByteArray) (n L:Int) (w:World) (he:(s.toList==[])=true):Calls Tryz.prog 297 #[.agg #[.int .i64 5,.string s,.int .i64 n],.int .i64 L] w fun e w'=>e = .returned (.bool (decide (n=3)))∧Ext w w':=by
 go_enter Tryz.func297,Tryz.ntmps297;go_wp2;go_ret;exact ⟨rfl,S_⟩
theorem iWf6 (s:ByteArray) (n L:Int) (w:World) (he:(s.toList==[])=true):Calls Tryz.prog 297 #[.agg #[.int .i64 6,.string s,.int .i64 n],.int .i64 L] w fun e w'=>e = .returned (.bool (inB n 4 7))∧Ext w w':=by
 go_enter Tryz.func297,Tryz.ntmps297;go_wp2_with fail;refine (within_any n 4 7 _).mono ?_;rintro e w1 ⟨rfl,rfl⟩;go_wp2;go_ret;exact ⟨rfl,S_⟩
theorem iWf2n (s:ByteArray) (n L:Int) (w:World) (he:isVar s=false):Calls Tryz.prog 297 #[.agg #[.int .i64 2,.string s,.int .i64 n],.int .i64 L] w fun e w'=>e = .returned (.bool false)∧Ext w w':=by
 go_enter Tryz.func297,Tryz.ntmps297;go_wp2_with fail;refine (iIsVariable_any s _).mono ?_;rintro e w1 ⟨rfl,rfl⟩;rw [he];go_wp2;go_ret;exact ⟨rfl,S_⟩
theorem iWf2 (s:ByteArray) (n L:Int) (w:World) (he:isVar s=true):Calls Tryz.prog 297 #[.agg #[.int .i64 2,.string s,.int .i64 n],.int .i64 L] w fun e w'=>e = .returned (.bool (decide (n=0)))∧Ext w w':=by
 go_enter Tryz.func297,Tryz.ntmps297;go_wp2_with fail;refine (iIsVariable_any s _).mono ?_;rintro e w1 ⟨rfl,rfl⟩;rw [he];go_wp2;go_ret;exact ⟨rfl,S_⟩
theorem iWf7 (s:ByteArray) (n L:Int) (w:World) (he:0≤arity s):Calls Tryz.prog 297 #[.agg #[.int .i64 7,.string s,.int .i64 n],.int .i64 L] w fun e w'=>e = .returned (.bool (decide (n=0)))∧Ext w w':=by
 obtain ⟨k,hk⟩:∃k,arity s=k:=⟨_,rfl⟩
 rw [hk] at he;have HA:=hid hk;clear hk;go_enter Tryz.func297,Tryz.ntmps297;go_wp2_with fail;refine (iArity_any s _).mono ?_;rintro e w1 ⟨rfl,rfl⟩;rw [HA.out];go_wp2;go_ret;exact ⟨rfl,S_⟩
theorem iWf7n (s:ByteArray) (n L:Int) (w:World) (he:arity s<0):Calls Tryz.prog 297 #[.agg #[.int .i64 7,.string s,.int .i64 n],.int .i64 L] w fun e w'=>e = .returned (.bool false)∧Ext w w':=by
 obtain ⟨k,hk⟩:∃k,arity s=k:=⟨_,rfl⟩
 rw [hk] at he;have HA:=hid hk;clear hk;go_enter Tryz.func297,Tryz.ntmps297;go_wp2_with fail;refine (iArity_any s _).mono ?_;rintro e w1 ⟨rfl,rfl⟩;rw [HA.out];go_wp2;go_ret;exact ⟨rfl,S_⟩
theorem iWfE (op:Int) (s:ByteArray) (n L:Int) (w:World) (h : ¬(1≤op∧op≤7)):Calls Tryz.prog 297 #[.agg #[.int .i64 op,.string s,.int .i64 n],.int .i64 L] w fun e w'=>e = .returned (.bool false)∧Ext w w':=by
 have h1:op≠1:=by omega
 have h2:op≠2:=by omega
 have h3:op≠3:=by omega
 have h4:op≠4:=by omega
 have h5:op≠5:=by omega
 have h6:op≠6:=by omega
 have h7:op≠7:=by omega
 clear h;go_enter Tryz.func297,Tryz.ntmps297;go_wp2;go_ret;exact ⟨rfl,S_⟩
theorem conc {s:ByteArray} {l:List UInt8} (h:s.toList=l):s=⟨l.toArray⟩:=by
 rw [Lib.toList_data] at h;subst h
 cases s
 simp
def SS (lo hi:Nat) (w:World) (v:Value) (S:List (List Int)):Prop:=
 ∃a cap,v = .slice a S.length cap∧S.length≤cap∧cap≤maxLen∧∀i xs,S[i]?=some xs→∃b off u,a=some ⟨b,off,none⟩∧lo≤b∧b<hi∧w.cell? ⟨b,off+i,none⟩=some u∧Ints lo hi w u xs
theorem SS.same {lo hi:Nat} {w w':World} {v:Value} {S:List (List Int)} (h:SS lo hi w v S) (s:Same lo hi w w'):SS lo hi w' v S:=by
 obtain ⟨a,cap,h1,h2,h3,h4⟩:=h;refine ⟨a,cap,h1,h2,h3,fun i xs hx=>?_⟩;obtain ⟨b,off,u,h6,h7,h8,h9,h10⟩:=h4 i xs hx;exact ⟨b,off,u,h6,h7,h8,by rw [s.cell h7 h8];exact h9,h10.same s⟩
theorem SS.ext {lo hi:Nat} {w w':World} {v:Value} {S:List (List Int)} (h:SS lo hi w v S) (hh:hi≤w.heap.size) (e:Ext w w'):SS lo hi w' v S:=h.same (e.same hh)
structure SSAt (lo hi:Nat) (w:World) (a:Option Addr) (cap:Nat) (S:List (List Int)):Prop where
 le:S.length≤cap
 cap:cap≤9223372036854775807
 cell:∀i xs,S[i]?=some xs→∃b off u,a=some ⟨b,off,none⟩∧lo≤b∧b<hi∧w.cell? ⟨b,off+i,none⟩=some u∧Ints lo hi w u xs
theorem SS.open {lo hi:Nat} {w:World} {v:Value} {S:List (List Int)} (h:SS lo hi w v S):∃a cap,v = .slice a S.length cap∧SSAt lo hi w a cap S:=by
 obtain ⟨a,cap,g1,g2,g3,g4⟩:=h;exact ⟨a,cap,g1,g2,by unfold maxLen at g3;omega,g4⟩
theorem SSAt.shut {lo hi:Nat} {w:World} {a:Option Addr} {cap:Nat} {S:List (List Int)} (h:SSAt lo hi w a cap S):SS lo hi w (.slice a S.length cap) S:=
 ⟨a,cap,rfl,h.le,by unfold maxLen;have:=h.cap;omega,h.cell⟩
theorem SSAt.at {lo hi:Nat} {w:World} {a:Option Addr} {cap:Nat} {S:List (List Int)} (h:SSAt lo hi w a cap S) {k:Nat} (hk:k<S.length) {wr:World} (hx:Ext w wr) (hh:hi≤w.heap.size) :
  ∃b off u,a=some ⟨b,off,none⟩∧b<w.heap.size∧b<wr.heap.size∧wr.cell? ⟨b,off+k,none⟩=some u∧Ints lo hi wr u S[k]:=by
 obtain ⟨b,off,u,e,h1,h2,c0,hu⟩:=h.cell k S[k] (by simp [hk]);have hz:=hx.size;exact ⟨b,off,u,e,by omega,by omega,(hx.cells.1 b _ (by omega)).trans c0,hu.ext hh hx⟩
theorem RowI.ownInts {w:World} {b n:Nat} {f:Nat→Int} {lo:Nat} (h:RowI w b 3 n f) (hb:lo≤b) (hm:n≤maxLen) (hi:∀i,i<n→I64 (f i)):OwnInts lo w (.slice (some ⟨b,0,none⟩) n n) ((List.range n).map f):=by
 obtain ⟨c,h1,h2,h3⟩:=h
 have hl:((List.range n).map f).length=n:=by simp
 refine ⟨⟨by simp,.inr ⟨b,n,c,by rw [hl],hb,h1,by rw [hl];exact Nat.le_refl _,hm,by rw [h2,Nat.mul_one],?_⟩⟩,fun x hx=>?_⟩
 ·apply List.ext_getElem?
  intro i;rw [List.getElem?_take,hl,Nat.mul_one,List.getElem?_map,List.getElem?_map]
  by_cases hlt:i<n
  ·rw [if_pos hlt,List.getElem?_range hlt]
   simpa using h3 i hlt
  ·rw [if_neg hlt,List.getElem?_eq_none (by simp;omega)]
   rfl
 ·obtain ⟨i,hi',rfl⟩:=List.mem_map.1 hx
  exact hi i (List.mem_range.1 hi')
theorem run_look (w:World) (r clock i:Nat) (es:Array MapEntry) (s:ByteArray) (v:Value) (hb:w.heap[r]?=some (.map es clock)) (hf:Instr.findNow .string (.string s) es.toList 0=some (some (i,v))) :
  (Instr.lookup 368 (.map (some r)) (.string s) false).run Tryz.prog w = .ok v w:=by
 have hc:=fun b=>MapKept.run_checkKey (P:=Tryz.prog) (w:=w) (k:=.string s) Tryz.underlying9 (by simp [MapKept.IsKey]) b 9999;have hm:=Tryz.underlying368;simp [Instr.lookup,run_underlying hm,MapKept.run_getObj_map hb,hc,MapKept.run_findKey Tryz.underlying9 hf,Result.andThen]
theorem wpList_look (w:World) {ops:Array Oper} {rest:List Oper} {o:Oper} {a:Act} {Q:Exit→Act→World→Prop} (hg:o.guard=none) (m x:Operand) (hop:o.op=Op.lookup 368 m x false)
  (b clock i:Nat) (es:Array MapEntry) (hm:a.eval m = .map (some b)) (hb:w.heap[b]?=some (.map es clock)) (s:ByteArray) (hx:a.eval x = .string s) (v:Value) (hf:Instr.findNow .string (.string s) es.toList 0=some (some (i,v)))
  (hK:wpList Tryz.prog ops Q rest (a.put o.dst v) w):wpList Tryz.prog ops Q (o::rest) a w:=by
 refine wpList_plain hg fun K' hK'=>?_;have hrun:=run_look w b clock i es s v hb hf;unfold Oper.wp;simp [execOp,hop,hm,hx,hrun,Result.andThen];exact hK' _ _ hK
def Kp (a b:Nat) (w w':World):Prop:=w.heap.size≤w'.heap.size∧∀k,a≤k→k<b→w'.heap[k]?=w.heap[k]?
theorem Ext.kp {w w':World} (h:Ext w w') {a b:Nat} (hb:b≤w.heap.size):Kp a b w w':=⟨h.size,fun _ _ h2=>h.block (by omega)⟩
theorem Part.kp {lo M:Nat} {w w':World} (h:Part lo M w w') {a b:Nat} (hb:b≤w.heap.size) (hs:b≤lo∨M≤a):Kp a b w w':=⟨h.size,fun k h1 h2=>h.block (by omega) (by omega)⟩
theorem Kp.same {a b:Nat} {w w':World} (h:Kp a b w w'):Same a b w w':=fun k h1 h2=>h.2 k h1 h2
def Bx (w:World) (B:Nat) (cs:Array Value) (t:TypeId):Prop:=w.heap[B]?=some (.cells cs t)
theorem Bx.made (w:World) (cs:Array Value) (t:TypeId):Bx (w.alloc (.cells cs t)) w.heap.size cs t:=by show (w.heap.push _)[w.heap.size]?=_;simp
theorem Bx.madeAt {B:Nat} (w:World) (cs:Array Value) (t:TypeId) (h:w.heap.size=B):Bx (w.alloc (.cells cs t)) B cs t:=h▸Bx.made w cs t
theorem Bx.lt {w:World} {B:Nat} {cs:Array Value} {t:TypeId} (h:Bx w B cs t):B<w.heap.size:=(Array.getElem?_eq_some_iff.1 h).1
theorem Bx.kp {w w':World} {B:Nat} {cs:Array Value} {t:TypeId} (h:Bx w B cs t) (k:Kp B (B+1) w w'):Bx w' B cs t:=(k.2 B (Nat.le_refl _) (by omega)).trans h
theorem Bx.cell {w:World} {B:Nat} {cs:Array Value} {t:TypeId} (h:Bx w B cs t) (i:Nat):w.cell? ⟨B,i,none⟩=cs[i]?:=by
 unfold Bx at h;simp [World.cell?,h]
theorem Ints.kp {lo hi:Nat} {w w':World} {v:Value} {xs:List Int} (h:Ints lo hi w v xs) (k:Kp lo hi w w'):Ints lo hi w' v xs:=h.same k.same
def IntsO (lo hi:Nat) (w:World) (v:Value) (xs:List Int):Prop:=OwnInts lo w v xs∧∀k,v.ownBlock=some k→k<hi
theorem OwnInts.o {lo:Nat} {w:World} {v:Value} {xs:List Int} (h:OwnInts lo w v xs):IntsO lo w.heap.size w v xs:=⟨h,fun k hk=>(h.lt k hk).2⟩
theorem IntsO.kp {lo hi:Nat} {w w':World} {v:Value} {xs:List Int} (h:IntsO lo hi w v xs) (k:Kp lo hi w w'):IntsO lo hi w' v xs:=by
 obtain ⟨⟨⟨h1,h2⟩,h3⟩,h4⟩:=h;refine ⟨⟨⟨h1,?_⟩,h3⟩,h4⟩
 rcases h2 with hn|⟨g,cap,cur,hv,hb,hg,r⟩
 ·exact .inl hn
 ·exact .inr ⟨g,cap,cur,hv,hb,by rw [k.2 g hb (h4 g (by rw [hv];rfl))];exact hg,r⟩
theorem IntsO.ints {lo hi:Nat} {w:World} {v:Value} {xs:List Int} (h:IntsO lo hi w v xs):Ints lo hi w v xs:=by
 obtain ⟨a,cap,rfl,h2,h3,h4⟩:=h.1.ints;refine ⟨a,cap,rfl,h2,h3,fun i x hx=>?_⟩;obtain ⟨h5,b,off,rfl,h7,h8,h9⟩:=h4 i x hx;exact ⟨h5,b,off,rfl,h7,h.2 b rfl,h9⟩
def Grd.O (g:Grd) (lo hi:Nat) (w:World) (v:Value):Prop:=∃b tu,v = .agg #[.int .i64 g.n,.slice (some ⟨b,0,none⟩) g.m g.m,.int .i64 g.tm,.int .i64 g.t.log,tu]∧lo≤b∧b<hi∧RowI w b 200 (g.m*5) g.f∧IntsO lo hi w tu g.t.px∧I64 g.n∧I64 g.tm∧I64 g.t.log∧(∀i,i<g.m*5→I64 (g.f i))∧g.m≤1048576
theorem Grd.O.kp {g:Grd} {lo hi:Nat} {w w':World} {v:Value} (h:g.O lo hi w v) (k:Kp lo hi w w'):g.O lo hi w' v:=by
 obtain ⟨b,tu,h1,h2,h3,h4,h5,h6⟩:=h;exact ⟨b,tu,h1,h2,h3,h4.of (k.2 b h2 h3),h5.kp k,h6⟩
theorem Grd.O.R {g:Grd} {lo hi:Nat} {w:World} {v:Value} (h:g.O lo hi w v):g.R lo hi w v:=by
 obtain ⟨b,tu,rfl,h2,h3,h4,h5,h6,h7,h8,h9,h10⟩:=h;exact ⟨_,tu,rfl,h6,h7,h8,⟨_,g.m,rfl,Nat.le_refl _,by unfold maxLen;omega,fun i hx=>⟨h9 i hx,b,0,rfl,h2,h3,by rw [Nat.zero_add];exact h4.cell hx⟩⟩,h5.ints⟩
theorem Grd.O.form {g:Grd} {lo hi:Nat} {w:World} {v:Value} (h:g.O lo hi w v):∃b a c,v = .agg #[.int .i64 g.n,.slice (some ⟨b,0,none⟩) g.m g.m,.int .i64 g.tm,.int .i64 g.t.log,.slice a g.t.px.length c]:=by
 obtain ⟨b,tu,rfl,h2,h3,h4,h5,h6⟩:=h;obtain ⟨a,c,rfl,_⟩:=h5.1.form;exact ⟨b,a,c,rfl⟩
theorem Grd.O.low {g:Grd} {lo hi lo':Nat} {w:World} {v:Value} (h:g.O lo hi w v) (hl:lo'≤lo):g.O lo' hi w v:=by
 obtain ⟨b,tu,h1,h2,h3,h4,⟨h5,h5'⟩,h6⟩:=h;exact ⟨b,tu,h1,by omega,h3,h4,⟨h5.low hl,h5'⟩,h6⟩
theorem RowI.put {w:World} {b:Nat} {t:TypeId} {n:Nat} {f:Nat→Int} (h:RowI w b t n f) (i:Nat) (x:Int):∃f',RowI (w.setCell ⟨b,i,none⟩ (.int .i64 x)) b t n f':=
 ⟨fun j=>if j=i then x else f j,World.rowIs.congr (World.rowIs.set h i (.int .i64 x)) fun j _=>by by_cases e:j=i <;> simp [e]⟩
theorem Bx.frozen {w:World} {B:Nat} {cs:Array Value} {t:TypeId} (h:Bx w B cs t) (i:Nat):w.frozen? ⟨B,i,none⟩=false:=by
 unfold Bx at h;simp [World.frozen?,h]
theorem Bx.ext {w w':World} {B:Nat} {cs:Array Value} {t:TypeId} (h:Bx w B cs t) (e:Ext w w'):Bx w' B cs t:=h.kp (e.kp h.lt)
theorem Bx.set {w:World} {B:Nat} {cs:Array Value} {t:TypeId} (h:Bx w B cs t) (i:Nat) (v:Value):Bx (w.setCell ⟨B,i,none⟩ v) B (cs.setIfInBounds i v) t:=by
 unfold Bx at *;simp [World.setCell,Array.getElem?_modify,h]
theorem Bx.other {w:World} {B:Nat} {cs:Array Value} {t:TypeId} (h:Bx w B cs t) {p:Addr} (hp:B≠p.block) (v:Value):Bx (w.setCell p v) B cs t:=(Below.heap_setCell _ _ _ _ hp).trans h
theorem Bx.same {w:World} {B:Nat} {cs cs':Array Value} {t:TypeId} (h:Bx w B cs t) (e:cs=cs'):Bx w B cs' t:=e▸h
def Grd.small (g:Grd):Prop:=g.m≤1048576∧g.t.px.length≤1048576
theorem Part.trans {lo M:Nat} {w w1 w2:World} (h:Part lo M w w1) (k:Part lo M w1 w2):Part lo M w w2:=⟨Nat.le_trans h.size k.size,h.low.trans k.low,fun b hb hl=>(k.high b hb (by have:=h.size;omega)).trans (h.high b hb hl)⟩
theorem OwnInts.part {lo b n:Nat} {w w':World} {v:Value} {xs:List Int} {T:TypeId} {f:Nat→Int} (h:OwnInts lo w v xs) (p:Part b (b+1) w w') (hb:RowI w b T n f) (hT:T≠3):OwnInts lo w' v xs:=by
 obtain ⟨cs,hb1,_⟩:=hb;obtain ⟨⟨h1,h2⟩,h3⟩:=h;refine ⟨⟨h1,?_⟩,h3⟩
 rcases h2 with hn|⟨g,cap,cur,hv,hb,hg,r⟩
 ·exact .inl hn
 ·refine .inr ⟨g,cap,cur,hv,hb,?_,r⟩
  rw [p.block (Array.getElem?_eq_some_iff.1 hg).1 ?_]
  ·exact hg
  ·by_cases e:g=b
   ·subst e
    rw [hg] at hb1;simp only [Option.some.injEq,Obj.cells.injEq] at hb1;exact absurd hb1.2.1.symm hT
   ·omega
theorem conv1 (w:World) (x:Int):∃r:ByteArray,r.size=1∧(convert 22 9 (.slice (some ⟨w.heap.size,0,none⟩) 1 1)).run Tryz.prog (w.alloc (.cells #[.int .u8 x] 5)) = .ok (.string r) (w.alloc (.cells #[.int .u8 x] 5)):=by
 have h1:=run_bytesToString (P:=Tryz.prog) (w.alloc (.cells #[.int .u8 x] 5)) ⟨w.heap.size,0,none⟩ 1 1 [x] (by simp [loadCells,loadCellsFrom,go_sem]);rw [←run_convert_bytes_string _ 22 9 5 _ _ _ Tryz.underlying22 Tryz.underlying5 Tryz.underlying9] at h1;exact ⟨_,by rfl,h1⟩
def digs (k r:Nat):Prop:=k<10 ^ (13 - r)
theorem digs.next {k r:Nat} (h:digs k r) (hk:k≠0):r≠13∧digs (k / 10) (r+1)∧k<10000000000000:=by
 unfold digs at *
 have hr:r<13:=by
  by_cases e:r<13
  ·exact e
  ·rw [show 13 - r=0 by omega] at h
   simp at h;omega
 refine ⟨by omega,?_,Nat.lt_of_lt_of_le h (Nat.pow_le_pow_right (i:=13 - r) (j:=13) (by decide) (by omega))⟩;rw [show 13 - r=(13 - (r+1))+1 by omega,Nat.pow_succ] at h;exact Nat.div_lt_of_lt_mul (by rw [Nat.mul_comm];exact h)
theorem digs.start {k:Nat} (h:k<10000000000000):digs k 0:=h
def strC (xs:List ByteArray) (i:Nat):Value:=.string (xs.getD i ⟨#[]⟩)
theorem rowIs.put {w:World} {b:Nat} {t:TypeId} {n:Nat} {f:Nat→Value} (h:w.rowIs b t n f) (i:Nat) (x:Value):∃f',(w.setCell ⟨b,i,none⟩ x).rowIs b t n f'∧(∀j,j≠i→f' j=f j):=
 ⟨fun j=>if j=i then x else f j,World.rowIs.set h i x,fun j hj=>by simp [hj]⟩
theorem sIsVariable_val {s:ByteArray} {b:Bool} (h:isVar s=b) (w:World):Calls Tryz.prog 182 #[.string s] w fun e w'=>e = .returned (.bool b)∧Ext w w':=h▸sIsVariable_any s w
theorem sArity_val {s:ByteArray} {b:Int} (h:arity s=b) (w:World):Calls Tryz.prog 181 #[.string s] w fun e w'=>e = .returned (.int .i64 b)∧w=w':=h▸sArity_any s w
theorem iArity_val {s:ByteArray} {b:Int} (h:arity s=b) (w:World):Calls Tryz.prog 274 #[.string s] w fun e w'=>e = .returned (.int .i64 b)∧w=w':=h▸iArity_any s w
structure Ins where
 op:Int
 name:ByteArray
 num:Int
def Ins.val (x:Ins):Value:=.agg #[.int .i64 x.op,.string x.name,.int .i64 x.num]
def wfI (op:Int) (s:ByteArray) (n L:Int):Bool:=
 if op=1 then s.toList==[] else if op=2 then isVar s&&decide (n=0) else if op=3 then s.toList==[]&&inB n 0 (L - 1) else if op=4 then s.toList==[]&&inB n 0 (L - 1)
 else if op=5 then s.toList==[]&&decide (n=3) else if op=6 then s.toList==[]&&inB n 4 7 else if op=7 then decide (0≤arity s)&&decide (n=0) else false
theorem iWf_any (op:Int) (s:ByteArray) (n L:Int) (w:World) (h0:0≤L) (h1:L≤2000000):Calls Tryz.prog 297 #[.agg #[.int .i64 op,.string s,.int .i64 n],.int .i64 L] w fun e w'=>e = .returned (.bool (wfI op s n L))∧Ext w w':=by
 by_cases h:1≤op∧op≤7
 case neg=>
  have e:wfI op s n L=false:=by
   unfold wfI;rw [if_neg (by omega),if_neg (by omega),if_neg (by omega),if_neg (by omega),if_neg (by omega),if_neg (by omega),if_neg (by omega)]
  rw [e];exact iWfE op s n L w h
 rcases (show op=1∨op=2∨op=3∨op=4∨op=5∨op=6∨op=7 by omega) with rfl|rfl|rfl|rfl|rfl|rfl|rfl
 ·cases he:(s.toList==[])
  ·rw [show wfI 1 s n L=false by simp [wfI,he]];exact iWf1n s n L w he
  ·rw [show wfI 1 s n L=true by simp [wfI,he]];exact iWf1 s n L w he
 ·cases he:isVar s
  ·rw [show wfI 2 s n L=false by simp [wfI,he]];exact iWf2n s n L w he
  ·rw [show wfI 2 s n L=decide (n=0) by simp [wfI,he]];exact iWf2 s n L w he
 ·cases he:(s.toList==[])
  ·rw [show wfI 3 s n L=false by simp [wfI,he]];exact iWf3n s n L w he
  ·rw [show wfI 3 s n L=inB n 0 (L - 1) by simp [wfI,he]];exact iWf3 s n L w he h0 h1
 ·cases he:(s.toList==[])
  ·rw [show wfI 4 s n L=false by simp [wfI,he]];exact iWf4n s n L w he
  ·rw [show wfI 4 s n L=inB n 0 (L - 1) by simp [wfI,he]];exact iWf4 s n L w he h0 h1
 ·cases he:(s.toList==[])
  ·rw [show wfI 5 s n L=false by simp [wfI,he]];exact iWf5n s n L w he
  ·rw [show wfI 5 s n L=decide (n=3) by simp [wfI,he]];exact iWf5 s n L w he
 ·cases he:(s.toList==[])
  ·rw [show wfI 6 s n L=false by simp [wfI,he]];exact iWf6n s n L w he
  ·rw [show wfI 6 s n L=inB n 4 7 by simp [wfI,he]];exact iWf6 s n L w he
 ·by_cases he:0≤arity s
  ·rw [show wfI 7 s n L=decide (n=0) by simp [wfI,he]];exact iWf7 s n L w he
  ·rw [show wfI 7 s n L=false by simp [wfI,he]];exact iWf7n s n L w (by omega)
theorem sEff1 (a1 a2:Option Addr) (n1 c1 c2 L:Nat) (hL:L≤2000000) (s:ByteArray) (n:Int) (w:World) {be bl:Bool} (he:(s.toList==[])=be) (hl:inB n 0 ((L:Int) - 1)=bl) :
  Calls Tryz.prog 191 #[.agg #[.slice a1 n1 c1,.slice a2 L c2],.agg #[.int .i64 1,.string s,.int .i64 n]] w fun e w'=>e = .returned (.tuple #[.int .i64 0,.int .i64 1,.bool be])∧Ext w w':=by
 cases be <;> cases bl
 all_goals
  go_enter Tryz.func191,Tryz.ntmps191;go_wp2_with (go_at_call 70;refine (l01In_val hl _).mono ?_;rintro e w1 ⟨rfl,rfl⟩);refine wp_region_stages [([0,1,2,3,4],5)] 99 (w.heap.size+1+1) (by kernel_rfl) (by kernel_rfl) ?_;refine st_ fun K hK=>?_;go_wp2_with fail;go_wp2_with fail;refine hK _ _ (.inr (fun k _ hk=>Ext.block X_ (by first|omega|(simp;omega)))) ?_;clear hK K;refine wpStages_nil ?_;go_wp2;refine bodyPost_ret (v:=.tuple #[.int .i64 0,.int .i64 1,.bool _]) (by simp [results,Tryz.results191,go_sem] <;> rfl) rfl ⟨rfl,S_⟩
theorem sEff2 (a1 a2:Option Addr) (n1 c1 c2 L:Nat) (hL:L≤2000000) (s:ByteArray) (n:Int) (w:World) {be bl bv:Bool} (he:(s.toList==[])=be) (hl:inB n 0 ((L:Int) - 1)=bl) (hv:isVar s=bv) :
  Calls Tryz.prog 191 #[.agg #[.slice a1 n1 c1,.slice a2 L c2],.agg #[.int .i64 2,.string s,.int .i64 n]] w fun e w'=>e = .returned (.tuple #[.int .i64 0,.int .i64 1,.bool (bv&&decide (n=0))])∧Ext w w':=by
 rcases (by omega:n=0∨n≠0) with rfl|h0 <;> cases be <;> cases bl <;> cases bv
 all_goals
  try have e0:(n==0)=false:=beq_eq_false_iff_ne.2 h0
  go_enter Tryz.func191,Tryz.ntmps191;go_wp2_with (go_at_call 70;refine (l01In_val hl _).mono ?_;rintro e w1 ⟨rfl,rfl⟩);refine wp_region_stages [([0,1],2),([3,4,5,6,7,8,9],10)] 99 (w.heap.size+1+1) (by kernel_rfl) (by kernel_rfl) ?_;refine st_ fun K hK=>?_;go_wp2_with fail;refine (sIsVariable_val hv _).mono ?_;rintro e w1 ⟨rfl,x1⟩;have X1:Ext w w1:=Ext.trans X_ x1;go_wp2_with fail;refine hK _ _ (.inr (fun k _ hk=>x1.block (by first|omega|(simp;omega)))) ?_;clear hK K;refine st_ fun K hK=>?_;go_wp2_with fail;go_wp2_with fail;refine hK _ _ (.inr (fun k _ hk=>x1.block (by first|omega|(simp;omega)))) ?_;clear hK K;refine wpStages_nil ?_;go_wp2;refine bodyPost_ret (v:=.tuple #[.int .i64 0,.int .i64 1,.bool _]) (by first|(simp [results,Tryz.results191,go_sem,h0];done)|(simp [results,Tryz.results191,go_sem];done)) rfl ⟨rfl,X1⟩
theorem sEff3 (a1 a2:Option Addr) (n1 c1 c2 L:Nat) (hL:L≤2000000) (s:ByteArray) (n:Int) (w:World) {be bl:Bool} (he:(s.toList==[])=be) (hl:inB n 0 ((L:Int) - 1)=bl) :
  Calls Tryz.prog 191 #[.agg #[.slice a1 n1 c1,.slice a2 L c2],.agg #[.int .i64 3,.string s,.int .i64 n]] w fun e w'=>e = .returned (.tuple #[.int .i64 0,.int .i64 1,.bool (be&&bl)])∧Ext w w':=by
 cases be <;> cases bl
 all_goals
  go_enter Tryz.func191,Tryz.ntmps191;go_wp2_with (go_at_call 70;refine (l01In_val hl _).mono ?_;rintro e w1 ⟨rfl,rfl⟩);go_wp2;refine bodyPost_ret (v:=.tuple #[.int .i64 0,.int .i64 1,.bool _]) (by simp [results,Tryz.results191,go_sem] <;> rfl) rfl ⟨rfl,S_⟩
theorem sEff4 (a1 a2:Option Addr) (n1 c1 c2 L:Nat) (hL:L≤2000000) (s:ByteArray) (n:Int) (w:World) {be bl:Bool} (he:(s.toList==[])=be) (hl:inB n 0 ((L:Int) - 1)=bl) :
  Calls Tryz.prog 191 #[.agg #[.slice a1 n1 c1,.slice a2 L c2],.agg #[.int .i64 4,.string s,.int .i64 n]] w fun e w'=>e = .returned (.tuple #[.int .i64 1,.int .i64 0,.bool (be&&bl)])∧Ext w w':=by
 cases be <;> cases bl
 all_goals
  go_enter Tryz.func191,Tryz.ntmps191;go_wp2_with (go_at_call 70;refine (l01In_val hl _).mono ?_;rintro e w1 ⟨rfl,rfl⟩);go_wp2;refine bodyPost_ret (v:=.tuple #[.int .i64 1,.int .i64 0,.bool _]) (by simp [results,Tryz.results191,go_sem] <;> rfl) rfl ⟨rfl,S_⟩
theorem sEff5 (a1 a2:Option Addr) (n1 c1 c2 L:Nat) (hL:L≤2000000) (s:ByteArray) (n:Int) (w:World) {be bl:Bool} (he:(s.toList==[])=be) (hl:inB n 0 ((L:Int) - 1)=bl) :
  Calls Tryz.prog 191 #[.agg #[.slice a1 n1 c1,.slice a2 L c2],.agg #[.int .i64 5,.string s,.int .i64 n]] w fun e w'=>e = .returned (.tuple #[.int .i64 1,.int .i64 1,.bool (be&&decide (n=3))])∧Ext w w':=by
 rcases (by omega:n=3∨n≠3) with rfl|h0 <;> cases be <;> cases bl
 all_goals
  try have e0:(n==3)=false:=beq_eq_false_iff_ne.2 h0
  go_enter Tryz.func191,Tryz.ntmps191;go_wp2_with (go_at_call 70;refine (l01In_val hl _).mono ?_;rintro e w1 ⟨rfl,rfl⟩);refine wp_region_stages [([0,1,2,3,4,5,6,7,8,9],10)] 99 (w.heap.size+1+1) (by kernel_rfl) (by kernel_rfl) ?_;refine st_ fun K hK=>?_;go_wp2_with fail;go_wp2_with fail;refine hK _ _ (.inr (fun k _ hk=>Ext.block X_ (by first|omega|(simp;omega)))) ?_;clear hK K;refine wpStages_nil ?_;go_wp2;refine bodyPost_ret (v:=.tuple #[.int .i64 1,.int .i64 1,.bool _]) (by first|(simp [results,Tryz.results191,go_sem,h0];done)|(simp [results,Tryz.results191,go_sem];done)) rfl ⟨rfl,S_⟩
theorem sEff6 (a1 a2:Option Addr) (n1 c1 c2 L:Nat) (hL:L≤2000000) (s:ByteArray) (n:Int) (w:World) {be bl bq:Bool} (he:(s.toList==[])=be) (hl:inB n 0 ((L:Int) - 1)=bl) (hq:inB n 4 7=bq) :
  Calls Tryz.prog 191 #[.agg #[.slice a1 n1 c1,.slice a2 L c2],.agg #[.int .i64 6,.string s,.int .i64 n]] w fun e w'=>e = .returned (.tuple #[.int .i64 2,.int .i64 1,.bool (be&&bq)])∧Ext w w':=by
 cases be <;> cases bl <;> cases bq
 all_goals
  go_enter Tryz.func191,Tryz.ntmps191;go_wp2_with (go_at_call 70;refine (l01In_val hl _).mono ?_;rintro e w1 ⟨rfl,rfl⟩);refine wp_region_stages [([0,1],2),([3,4,5,6,7,8,9],10)] 99 (w.heap.size+1+1) (by kernel_rfl) (by kernel_rfl) ?_;refine st_ fun K hK=>?_;go_wp2_with fail;refine (l01In_val hq _).mono ?_;rintro e w1 ⟨rfl,rfl⟩;go_wp2_with fail;refine hK _ _ (.inr (fun k _ hk=>Ext.block X_ (by first|omega|(simp;omega)))) ?_;clear hK K;refine st_ fun K hK=>?_;go_wp2_with fail;go_wp2_with fail;refine hK _ _ (.inr (fun k _ hk=>Ext.block X_ (by first|omega|(simp;omega)))) ?_;clear hK K;refine wpStages_nil ?_;go_wp2;refine bodyPost_ret (v:=.tuple #[.int .i64 2,.int .i64 1,.bool _]) (by simp [results,Tryz.results191,go_sem] <;> rfl) rfl ⟨rfl,S_⟩
theorem sEff7 (a1 a2:Option Addr) (n1 c1 c2 L:Nat) (hL:L≤2000000) (s:ByteArray) (n:Int) (w:World) {be bl:Bool} (he:(s.toList==[])=be) (hl:inB n 0 ((L:Int) - 1)=bl) {k:Int} (hk:arity s=k) :
  Calls Tryz.prog 191 #[.agg #[.slice a1 n1 c1,.slice a2 L c2],.agg #[.int .i64 7,.string s,.int .i64 n]] w fun e w'=>e = .returned (.tuple #[.int .i64 k,.int .i64 1,.bool (decide (0<k)&&decide (n=0))])∧Ext w w':=by
 rcases (by omega:n=0∨n≠0) with rfl|h0 <;> by_cases h1:0<k <;> cases be <;> cases bl
 all_goals
  try have e0:(n==0)=false:=beq_eq_false_iff_ne.2 h0
  first|have e1:decide (k > 0)=true:=decide_eq_true h1|have e1:decide (k > 0)=false:=decide_eq_false h1
  go_enter Tryz.func191,Tryz.ntmps191;go_wp2_with (go_at_call 70;refine (l01In_val hl _).mono ?_;rintro e w1 ⟨rfl,rfl⟩);refine wp_region_stages [([0,1,3,4],2),([],5),([6,7,8,9,10,11,12,13],14)] 99 (w.heap.size+1+1) (by kernel_rfl) (by kernel_rfl) ?_;refine st_ fun K hK=>?_;go_wp2_with fail;refine (sArity_val hk _).mono ?_;rintro e w1 ⟨rfl,rfl⟩;go_wp2_with fail;refine hK _ _ (.inr (fun k _ hk=>Ext.block X_ (by first|omega|(simp;omega)))) ?_;clear hK K;refine st_ fun K hK=>?_;go_wp2_with fail;refine (sArity_val hk _).mono ?_;rintro e w1 ⟨rfl,rfl⟩;go_wp2_with fail;refine hK _ _ (.inr (fun k _ hk=>Ext.block X_ (by first|omega|(simp;omega)))) ?_;clear hK K;refine st_ fun K hK=>?_;go_wp2_with fail;go_wp2_with fail;refine hK _ _ (.inr (fun k _ hk=>Ext.block X_ (by first|omega|(simp;omega)))) ?_;clear hK K;refine wpStages_nil ?_;go_wp2;refine bodyPost_ret (v:=.tuple #[.int .i64 k,.int .i64 1,.bool _]) (by first|(simp [results,Tryz.results191,go_sem,h0,h1];done)|(simp [results,Tryz.results191,go_sem,h1];done)) rfl ⟨rfl,S_⟩
theorem sEffE (a1 a2:Option Addr) (n1 c1 c2 L:Nat) (hL:L≤2000000) (s:ByteArray) (n:Int) (w:World) {be bl:Bool} (he:(s.toList==[])=be) (hl:inB n 0 ((L:Int) - 1)=bl) (op:Int) (h : ¬(1≤op∧op≤7)) :
  Calls Tryz.prog 191 #[.agg #[.slice a1 n1 c1,.slice a2 L c2],.agg #[.int .i64 op,.string s,.int .i64 n]] w fun e w'=>e = .returned (.tuple #[.int .i64 0,.int .i64 0,.bool false])∧Ext w w':=by
 have h1:op≠1:=by omega
 have h2:op≠2:=by omega
 have h3:op≠3:=by omega
 have h4:op≠4:=by omega
 have h5:op≠5:=by omega
 have h6:op≠6:=by omega
 have h7:op≠7:=by omega
 clear h
 cases be <;> cases bl
 all_goals
  go_enter Tryz.func191,Tryz.ntmps191;go_wp2_with (go_at_call 70;refine (l01In_val hl _).mono ?_;rintro e w1 ⟨rfl,rfl⟩);go_wp2;refine bodyPost_ret (v:=.tuple #[.int .i64 0,.int .i64 0,.bool false]) (by simp [results,Tryz.results191,go_sem] <;> rfl) rfl ⟨rfl,S_⟩
def Inss (lo hi:Nat) (w:World) (v:Value) (xs:List Ins):Prop:=
 ∃a cap,v = .slice a xs.length cap∧xs.length≤cap∧cap≤maxLen∧∀i x,xs[i]?=some x→(I64 x.op∧I64 x.num)∧∃b off,a=some ⟨b,off,none⟩∧lo≤b∧b<hi∧w.cell? ⟨b,off+i*3,none⟩=some (.int .i64 x.op)∧w.cell? ⟨b,off+i*3+1,none⟩=some (.string x.name)∧w.cell? ⟨b,off+i*3+2,none⟩=some (.int .i64 x.num)
theorem Inss.same {lo hi:Nat} {w w':World} {v:Value} {xs:List Ins} (h:Inss lo hi w v xs) (s:Same lo hi w w'):Inss lo hi w' v xs:=by
 obtain ⟨a,cap,h1,h2,h3,h4⟩:=h;refine ⟨a,cap,h1,h2,h3,fun i x hx=>?_⟩;obtain ⟨h5,b,off,h6,h7,h8,h9,h10,h11⟩:=h4 i x hx;exact ⟨h5,b,off,h6,h7,h8,by rw [s.cell h7 h8];exact h9,by rw [s.cell h7 h8];exact h10,by rw [s.cell h7 h8];exact h11⟩
theorem Inss.ext {lo hi:Nat} {w w':World} {v:Value} {xs:List Ins} (h:Inss lo hi w v xs) (hh:hi≤w.heap.size) (e:Ext w w'):Inss lo hi w' v xs:=h.same (e.same hh)
theorem Inss.wide {lo hi lo' hi':Nat} {w:World} {v:Value} {xs:List Ins} (h:Inss lo hi w v xs) (h1:lo'≤lo) (h2:hi≤hi'):Inss lo' hi' w v xs:=by
 obtain ⟨a,cap,g1,g2,g3,g4⟩:=h;refine ⟨a,cap,g1,g2,g3,fun i x hx=>?_⟩;obtain ⟨h5,b,off,h6,h7,h8,h9⟩:=g4 i x hx;exact ⟨h5,b,off,h6,by omega,by omega,h9⟩
structure InssAt (lo hi:Nat) (w:World) (a:Option Addr) (cap:Nat) (xs:List Ins):Prop where
 le:xs.length≤cap
 cap:cap≤9223372036854775807
 cell:∀i x,xs[i]?=some x→(I64 x.op∧I64 x.num)∧∃b off,a=some ⟨b,off,none⟩∧lo≤b∧b<hi∧w.cell? ⟨b,off+i*3,none⟩=some (.int .i64 x.op)∧w.cell? ⟨b,off+i*3+1,none⟩=some (.string x.name)∧w.cell? ⟨b,off+i*3+2,none⟩=some (.int .i64 x.num)
theorem Inss.open {lo hi:Nat} {w:World} {v:Value} {xs:List Ins} (h:Inss lo hi w v xs):∃a cap,v = .slice a xs.length cap∧InssAt lo hi w a cap xs:=by
 obtain ⟨a,cap,g1,g2,g3,g4⟩:=h;exact ⟨a,cap,g1,g2,by unfold maxLen at g3;omega,g4⟩
theorem InssAt.shut {lo hi:Nat} {w:World} {a:Option Addr} {cap:Nat} {xs:List Ins} (h:InssAt lo hi w a cap xs):Inss lo hi w (.slice a xs.length cap) xs:=
 ⟨a,cap,rfl,h.le,by unfold maxLen;have:=h.cap;omega,h.cell⟩
theorem InssAt.at {lo hi:Nat} {w:World} {a:Option Addr} {cap:Nat} {xs:List Ins} (h:InssAt lo hi w a cap xs) {k:Nat} (hk:k<xs.length) {wr:World} (hx:Ext w wr) (hh:hi≤w.heap.size) :
  ∃b off op s n,a=some ⟨b,off,none⟩∧b<w.heap.size∧b<wr.heap.size∧xs.drop k=⟨op,s,n⟩::xs.drop (k+1)∧xs[k]?=some ⟨op,s,n⟩∧I64 op∧I64 n∧wr.cell? ⟨b,off+k*3,none⟩=some (.int .i64 op)∧wr.cell? ⟨b,off+k*3+1,none⟩=some (.string s)∧wr.cell? ⟨b,off+k*3+2,none⟩=some (.int .i64 n):=by
 obtain ⟨⟨i1,i2⟩,b,off,e,h1,h2,c0,c1,c2⟩:=h.cell k xs[k] (by simp [hk]);have hz:=hx.size;refine ⟨b,off,xs[k].op,xs[k].name,xs[k].num,e,by omega,by omega,List.drop_eq_getElem_cons hk,by simp [hk],i1,i2,?_,?_,?_⟩
 ·exact (hx.cells.1 b _ (by omega)).trans c0
 ·exact (hx.cells.1 b _ (by omega)).trans c1
 ·exact (hx.cells.1 b _ (by omega)).trans c2
structure Cod where
 xs:List Ins
 ls:List ByteArray
def Cod.R (c:Cod) (lo hi:Nat) (w:World) (v:Value):Prop:=∃iu lu,v = .agg #[iu,lu]∧Inss lo hi w iu c.xs∧Strs lo hi w lu c.ls
theorem Cod.R.same {c:Cod} {lo hi:Nat} {w w':World} {v:Value} (h:c.R lo hi w v) (s:Same lo hi w w'):c.R lo hi w' v:=by
 obtain ⟨iu,lu,h1,h2,h3⟩:=h;exact ⟨iu,lu,h1,h2.same s,h3.same s⟩
theorem Cod.R.ext {c:Cod} {lo hi:Nat} {w w':World} {v:Value} (h:c.R lo hi w v) (hh:hi≤w.heap.size) (e:Ext w w'):c.R lo hi w' v:=h.same (e.same hh)
theorem Cod.R.form {c:Cod} {lo hi:Nat} {w:World} {v:Value} (h:c.R lo hi w v):∃a1 c1 a2 c2,v = .agg #[.slice a1 c.xs.length c1,.slice a2 c.ls.length c2]∧InssAt lo hi w a1 c1 c.xs∧StrsAt lo hi w a2 c2 c.ls:=by
 obtain ⟨iu,lu,rfl,h2,h3⟩:=h;obtain ⟨a1,c1,rfl,H1⟩:=h2.open;obtain ⟨a2,c2,rfl,H2⟩:=h3.open;exact ⟨a1,c1,a2,c2,rfl,H1,H2⟩
def markSt (op n:Int) (st:Nat→Bool):Nat→Bool:=if op=4 then fun j=>if j=n.toNat then true else st j else st
def runD (L:Nat):List Ins→Int→Int→(Nat→Bool)→Option Int
 | [],d,m,_=>if d=0 then some m else none
 | x::r,d,m,st=>
  if wfI x.op x.name x.num L=true∧(x.op=3→st x.num.toNat=true)∧popsI x.op x.name≤d then
   runD L r (d - popsI x.op x.name+pushI x.op) (if d - popsI x.op x.name+pushI x.op > m then d - popsI x.op x.name+pushI x.op else m) (markSt x.op x.num st) else none
def Cod.depth (c:Cod):Option Int:=if c.xs.length≤300 then runD c.ls.length c.xs 0 0 (fun _=>false) else none
theorem arity_bd (s:ByteArray) : -1≤arity s∧arity s≤3∧arity s≠0:=by
 unfold arity arityL
 repeat' split
 all_goals decide
theorem pops_bd {op:Int} {s:ByteArray} {n:Int} {L:Nat} (h:wfI op s n L=true):0≤popsI op s∧popsI op s≤3:=by
 have:=arity_bd s;unfold popsI
 split
 ·omega
 split
 ·omega
 split
 ·omega
 split
 ·rename_i h7
  subst h7;simp [wfI] at h;omega
 ·omega
theorem push_bd (op:Int):0≤pushI op∧pushI op≤1:=by
 unfold pushI
 split <;> omega
theorem wf_at {op:Int} {s:ByteArray} {n:Int} {L:Nat} (h:wfI op s n L=true) (ho:op=3∨op=4):∃j:Nat,n=j∧j<L:=by
 have e:inB n 0 ((L:Int) - 1)=true:=by
  rcases ho with rfl|rfl <;> (simp [wfI] at h;exact h.2)
 have:=inB_iff.1 e;exact ⟨n.toNat,by omega,by omega⟩
def RowB (w:World) (b:Nat) (n:Nat) (f:Nat→Bool):Prop:=w.rowIs b 4 n (fun i=>.bool (f i))
theorem RowB.ext {w w':World} {b:Nat} {n:Nat} {f:Nat→Bool} (h:RowB w b n f) (e:Ext w w'):RowB w' b n f:=World.rowIs.of_block h (e.block (World.rowIs.lt h))
theorem RowB.mark {w:World} {b:Nat} {n:Nat} {f:Nat→Bool} (h:RowB w b n f) (j:Nat):RowB (w.setCell ⟨b,j,none⟩ (.bool true)) b n (fun i=>if i=j then true else f i):=by
 refine World.rowIs.congr (World.rowIs.set h j (.bool true)) fun i _=>?_
 by_cases e:i=j
 ·subst e;simp
 ·simp [e]
theorem info_bool':(Tryz.prog.info? 4).map (fun i=>(i.zero,i.size,i.bytes))=some (some (.bool false),1,1):=by kernel_rfl
theorem iWf_val {op:Int} {s:ByteArray} {n:Int} {L:Nat} {b:Bool} (h:wfI op s n L=b) (h1:L≤2000000) (w:World):Calls Tryz.prog 297 #[.agg #[.int .i64 op,.string s,.int .i64 n],.int .i64 L] w fun e w'=>e = .returned (.bool b)∧Ext w w':=h▸iWf_any op s n L w (by omega) (by omega)
theorem iPops_val {op:Int} {s:ByteArray} {p q:Int} (hp:popsI op s=p) (hq:pushI op=q) (n:Int) (w:World):Calls Tryz.prog 298 #[.agg #[.int .i64 op,.string s,.int .i64 n]] w fun e w'=>e = .returned (.tuple #[.int .i64 p,.int .i64 q])∧Ext w w':=hp▸hq▸iPops_any op s n w
theorem runD_nil {L:Nat} {d m:Int} {st:Nat→Bool} {R:Option Int} (h:runD L [] d m st=R):R=if d=0 then some m else none:=h.symm
structure XBox (w:World) (B:Nat) (op:Int) (s:ByteArray) (n:Int):Prop where
 lt:B<w.heap.size
 c0:w.cell? ⟨B,0,none⟩=some (.int .i64 op)
 c1:w.cell? ⟨B,1,none⟩=some (.string s)
 c2:w.cell? ⟨B,2,none⟩=some (.int .i64 n)
theorem XBox.made (w:World) (op:Int) (s:ByteArray) (n:Int) (ty:TypeId):XBox (w.alloc (.cells #[.int .i64 op,.string s,.int .i64 n] ty)) w.heap.size op s n:=⟨by simp,by simp [go_sem],by simp [go_sem],by simp [go_sem]⟩
theorem XBox.ext {w w':World} {B:Nat} {op:Int} {s:ByteArray} {n:Int} (h:XBox w B op s n) (e:Ext w w'):XBox w' B op s n:=by
 have:=e.size;have h0:=h.lt;obtain ⟨a,b⟩:=e.cells;exact ⟨by omega,(a B _ h0).trans h.c0,(a B _ h0).trans h.c1,(a B _ h0).trans h.c2⟩
theorem iDepth_any (lo hi:Nat) (v:Value) (c:Cod) (w:World) (hv:c.R lo hi w v) (hh:hi≤w.heap.size) (hL:c.ls.length≤2000000) :
  Calls Tryz.prog 267 #[v] w fun e w'=>e = .returned (.tuple #[.int .i64 (c.depth.getD 0),.bool c.depth.isSome])∧Ext w w':=by
 obtain ⟨a1,c1,a2,c2,rfl,HI,HS⟩:=hv.form;have l1:=HI.le;have l2:=HI.cap;have l3:=HS.le;have l4:=HS.cap;clear hv
 obtain ⟨L,hLL⟩:∃L,c.ls.length=L:=⟨_,rfl⟩
 rw [hLL] at hL l3 ⊢
 by_cases hlen:c.xs.length≤300
 case neg=>
  have e:c.depth=none:=by unfold Cod.depth;rw [if_neg hlen]
  rw [e];go_enter Tryz.func267,Tryz.ntmps267;go_wp2;refine bodyPost_ret (v:=.tuple #[.int .i64 0,.bool false]) (by simp [results,Tryz.results267,go_sem]) rfl ⟨rfl,S_⟩
 obtain ⟨R,hR⟩:∃R,c.depth=R:=⟨_,rfl⟩
 have hrun:runD L c.xs 0 0 (fun _=>false)=R:=by rw [←hR,←hLL];unfold Cod.depth;rw [if_pos hlen]
 rw [hR];have HRUN:=hid hrun;clear hrun hR;obtain ⟨i0,hi0,hz0,hz1,hz2⟩:=info_parts info_bool';go_enter Tryz.func267,Tryz.ntmps267;go_wp2_with (at_make;refine wpList_make_row _ rfl _ _ 318 rfl 4 i0 (.bool false) Tryz.underlying318 hi0 hz0 hz1 rfl .i64 .i64 L rfl rfl (by rw [hz2];omega) (by omega) ?_);have hrow:=hid (show RowB _ _ L (fun _=>false) from World.rowIs_made (w.alloc (.cells #[.slice a1 c.xs.length c1,.slice a2 L c2] 126)) (.bool false) L 4);have hbox:=hid ((TBox.made w (.slice a1 c.xs.length c1) (.slice a2 L c2) 126).ext ((Ext.refl _).alloc (.cells (madeCells #[.bool false] L) 4)));have X0:=hid (show Ext w ((w.alloc (.cells #[.slice a1 c.xs.length c1,.slice a2 L c2] 126)).alloc (.cells (madeCells #[.bool false] L) 4)) from X_);clear hi0 hz0 hz1 hz2;go_wp2;simp only [World.size_alloc] at hrow;generalize hB:w.heap.size+1=B at hrow
 go_loopw [5,6,22] (fun dv mv i wr=>∃(k:Nat) (d m:Int) (st:Nat→Bool),k≤c.xs.length∧i = .int .i64 k∧dv = .int .i64 d∧mv = .int .i64 m∧runD L (c.xs.drop k) d m st=R∧0≤d∧d≤k∧0≤m∧m≤k∧Ext w wr∧RowB wr B L st∧TBox wr w.heap.size (.slice a1 c.xs.length c1) (.slice a2 L c2)) (fun _ _ i _=>c.xs.length - (intOf i).toNat)
 case atStart=>exact ⟨0,0,0,_,by omega,rfl,rfl,rfl,HRUN.out,by omega,by omega,by omega,by omega,X0.out,hrow.out,hbox.out⟩
 case round=>
  clear HRUN X0 hrow hbox;obtain ⟨k,d,m,st,hk,rfl,rfl,rfl,hrun,d0,d1,m0,m1,hx,hrow,hbox⟩:=hrel
  have k0:k≤300:=by omega
  by_cases hlt:k<c.xs.length
  ·obtain ⟨b,off,op,s,n,rfl,hb1,hbw,hdrop,hget,io,inn,x0,x1,x2⟩:=HI.at hlt hx hh
   rw [hdrop] at hrun;unfold runD at hrun;have q0:=hbox.lt;have q1:=hbox.c0;have q2:=hbox.c1;have HX:=hid hx;have HR:=hid hrow;have HQ:=hid hbox;clear hx hrow hbox hdrop hget
   cases hwf:wfI op s n L
   ·have e:R=none:=by rw [←hrun,if_neg (by simp [hwf])]
    subst e;clear hrun;go_wp2_with fail;refine (iWf_val hwf hL _).mono ?_;rintro e w1 ⟨rfl,x1⟩;have X1:Ext w w1:=Ext.trans (by have hx:=HX.out;exact X_) x1;go_wp2;refine bodyPost_ret (v:=.tuple #[.int .i64 0,.bool false]) (by simp [results,Tryz.results267,go_sem]) rfl ⟨rfl,S_⟩
   have pb:=pops_bd hwf;have qb:=push_bd op
   obtain ⟨p,hp⟩:∃p,popsI op s=p:=⟨_,rfl⟩
   obtain ⟨q,hq⟩:∃q,pushI op=q:=⟨_,rfl⟩
   rw [hp,hq] at hrun;rw [hp] at pb;rw [hq] at qb;have HP:=hid hp;have HQ2:=hid hq;simp only [hwf,true_and] at hrun
   by_cases h3:op=3∧st n.toNat=false
   ·obtain ⟨rfl,h3⟩:=h3
    obtain ⟨j,rfl,hj⟩:=wf_at hwf (.inl rfl);simp only [Int.toNat_natCast] at h3
    have e:R=none:=by rw [←hrun,if_neg (by simp [h3])]
    subst e;clear hrun hp hq;go_wp2_with fail;refine (iWf_val hwf hL _).mono ?_;rintro e w1 ⟨rfl,x1⟩;have X1:Ext w w1:=Ext.trans (by have hx:=HX.out;exact X_) x1;have K1:=(XBox.made wr 3 s j 197).ext x1;have R1:=(HR.out.ext ((Ext.refl _).alloc (.cells #[.int .i64 3,.string s,.int .i64 j] 197))).ext x1;have y0:=K1.lt;have y1:=K1.c0;have y2:=K1.c1;have y3:=K1.c2;have z0:=World.rowIs.cell R1 hj;rw [h3] at z0;have z1:=World.rowIs.lt R1;clear K1 R1 x0 x1 x2;go_wp2;refine bodyPost_ret (v:=.tuple #[.int .i64 0,.bool false]) (by simp [results,Tryz.results267,go_sem]) rfl ⟨rfl,S_⟩
   have h3':op=3→st n.toNat=true:=fun e=>by
    cases h:st n.toNat
    ·exact absurd ⟨e,h⟩ h3
    ·rfl
   have H3:=hid h3'
   by_cases hpd:p≤d
   case neg=>
    rw [if_neg (fun h=>hpd h.2)] at hrun;subst hrun;clear hp hq h3';have hdp:(decide (d<p))=true:=decide_eq_true (by omega)
    by_cases e3:op=3
    ·subst e3
     have:=HP.out;have e:popsI 3 s=0:=rfl;omega
    go_wp2_with fail;refine (iWf_val hwf hL _).mono ?_;rintro e w1 ⟨rfl,x1⟩;have X1:Ext w w1:=Ext.trans (by have hx:=HX.out;exact X_) x1;have K1:=(XBox.made wr op s n 197).ext x1;have y0:=K1.lt;have y1:=K1.c0;have y2:=K1.c1;have y3:=K1.c2;clear x0 x1 x2;go_wp2_with fail;refine (iPops_val HP.out HQ2.out n _).mono ?_;rintro e w2 ⟨rfl,x2⟩;have X2:Ext w w2:=X1.trans x2;go_wp2;refine bodyPost_ret (v:=.tuple #[.int .i64 0,.bool false]) (by simp [results,Tryz.results267,go_sem]) rfl ⟨rfl,S_⟩
   rw [if_pos ⟨h3',hpd⟩] at hrun;have HR0:=hid hrun;clear hrun hp hq h3'
   have pl:d - p+q≤(k:Int)+1:=by omega
   have pn:0≤d - p+q:=by omega
   obtain ⟨D,hD⟩:∃D,d - p+q=D:=⟨_,rfl⟩
   rw [hD] at HR0 pl pn
   have hD2:d+(q - p)=D:=by omega
   have hM:∃M:Int,(if D > m then D else m)=M∧0≤M∧M≤(k:Int)+1:=⟨_,rfl,by split <;> omega,by split <;> omega⟩
   obtain ⟨M,hM,M0,M1⟩:=hM;have HM:=hid hM;clear hD hM
   by_cases e3:op=3
   ·subst e3
    obtain ⟨j,rfl,hj⟩:=wf_at hwf (.inl rfl);have hst:=H3.out rfl;simp only [Int.toNat_natCast] at hst;go_wp2_with fail;refine (iWf_val hwf hL _).mono ?_;rintro e w1 ⟨rfl,x1⟩;have X1:Ext w w1:=Ext.trans (by have hx:=HX.out;exact X_) x1;have g1:Ext wr w1:=Ext.trans X_ x1;have K1:=(XBox.made wr 3 s j 197).ext x1;have R1:=HR.out.ext g1;have z0:=World.rowIs.cell R1 hj;rw [hst] at z0;have z1:=World.rowIs.lt R1;have y0:=K1.lt;have y1:=K1.c0;have y2:=K1.c1;have y3:=K1.c2;clear x0 x1 x2;go_wp2_with fail;refine (iPops_val HP.out HQ2.out j _).mono ?_;rintro e w2 ⟨rfl,x2⟩;have g2:Ext wr w2:=g1.trans x2;have X2:Ext w w2:=X1.trans x2;have K2:=K1.ext x2;have R2:=R1.ext x2;have B2:=HQ.out.ext g2;clear y0 y1 y2 y3 X1 R1 K1 x2 g1 g2 z0 z1;have y0:=K2.lt;have y1:=K2.c0;have y2:=K2.c1;have y3:=K2.c2;go_wp2;rw [HM.out];go_roundw
    case rel=>exact ⟨k+1,D,M,_,by omega,by go_num,rfl,rfl,by rw [←HM.out];exact HR0.out,pn,by omega,M0,by omega,X2,R2,B2⟩
    case measure=>simp [intOf];omega
   by_cases e4:op=4
   ·subst e4
    obtain ⟨j,rfl,hj⟩:=wf_at hwf (.inr rfl)
    have hBs:B≠w.heap.size:=by omega
    go_wp2_with fail;refine (iWf_val hwf hL _).mono ?_;rintro e w1 ⟨rfl,x1⟩;have X1:Ext w w1:=Ext.trans (by have hx:=HX.out;exact X_) x1;have g1:Ext wr w1:=Ext.trans X_ x1;have K1:=(XBox.made wr 4 s j 197).ext x1;have R1:=HR.out.ext g1;have y0:=K1.lt;have y1:=K1.c0;have y2:=K1.c1;have y3:=K1.c2;clear x0 x1 x2;go_wp2_with fail;refine (iPops_val HP.out HQ2.out j _).mono ?_;rintro e w2 ⟨rfl,x2⟩;have g2:Ext wr w2:=g1.trans x2;have X2:Ext w w2:=X1.trans x2;have K2:=K1.ext x2;have R2:=R1.ext x2;have B2:=HQ.out.ext g2;clear y0 y1 y2 y3 X1 R1 K1 x2 g1 g2;have y0:=K2.lt;have y1:=K2.c0;have y2:=K2.c1;have y3:=K2.c2;have z0:=World.rowIs.cell R2 hj;have z1:=World.rowIs.lt R2;have z2:=World.rowIs.frozen R2 j;have HB2:=hid B2;have HR2:=hid R2;clear B2 R2;go_wp2;rw [HM.out];go_roundw
    case rel=>exact ⟨k+1,D,M,_,by omega,by go_num,rfl,rfl,by rw [←HM.out];exact HR0.out,pn,by omega,M0,by omega,X2.setCell (by show w.heap.size≤B;omega) _,HR2.out.mark j,HB2.out.at (by simp) (Below.heap_setCell _ _ _ _ (by show w.heap.size≠B;omega))⟩
    case measure=>simp [intOf];omega
   ·have hmk:markSt op n st=st:=by unfold markSt;rw [if_neg e4]
    rw [hmk] at HR0;clear hmk;go_wp2_with fail;refine (iWf_val hwf hL _).mono ?_;rintro e w1 ⟨rfl,x1⟩;have X1:Ext w w1:=Ext.trans (by have hx:=HX.out;exact X_) x1;have g1:Ext wr w1:=Ext.trans X_ x1;have K1:=(XBox.made wr op s n 197).ext x1;have R1:=HR.out.ext g1;have y0:=K1.lt;have y1:=K1.c0;have y2:=K1.c1;have y3:=K1.c2;clear x0 x1 x2;go_wp2_with fail;refine (iPops_val HP.out HQ2.out n _).mono ?_;rintro e w2 ⟨rfl,x2⟩;have g2:Ext wr w2:=g1.trans x2;have X2:Ext w w2:=X1.trans x2;have K2:=K1.ext x2;have R2:=R1.ext x2;have B2:=HQ.out.ext g2;clear y0 y1 y2 y3 X1 R1 K1 x2 g1 g2;have y0:=K2.lt;have y1:=K2.c0;have y2:=K2.c1;have y3:=K2.c2;go_wp2;rw [HM.out];go_roundw
    case rel=>exact ⟨k+1,D,M,_,by omega,by go_num,rfl,rfl,by rw [←HM.out];exact HR0.out,pn,by omega,M0,by omega,X2,R2,B2⟩
    case measure=>simp [intOf];omega
  ·obtain rfl:k=c.xs.length:=by omega
   rw [List.drop_length] at hrun;have e:=runD_nil hrun;clear hrun
   by_cases hd:d=0
   ·rw [if_pos hd] at e
    subst e hd;go_wp2;refine bodyPost_ret (v:=.tuple #[.int .i64 m,.bool true]) (by simp [results,Tryz.results267,go_sem]) rfl ⟨rfl,S_⟩
   ·rw [if_neg hd] at e
    have hd':(d != 0)=true:=by simp [hd]
    subst e;go_wp2;refine bodyPost_ret (v:=.tuple #[.int .i64 0,.bool false]) (by simp [results,Tryz.results267,go_sem]) rfl ⟨rfl,S_⟩
theorem sEff_wf (a1 a2:Option Addr) (n1 c1 c2 L:Nat) (hL:L≤2000000) (op:Int) (s:ByteArray) (n:Int) (w:World) (h:wfI op s n L=true) {p q:Int} (hp:popsI op s=p) (hq:pushI op=q) :
  Calls Tryz.prog 191 #[.agg #[.slice a1 n1 c1,.slice a2 L c2],.agg #[.int .i64 op,.string s,.int .i64 n]] w fun e w'=>e = .returned (.tuple #[.int .i64 p,.int .i64 q,.bool true])∧Ext w w':=by
 subst hp hq
 by_cases ho:1≤op∧op≤7
 case neg=>
  unfold wfI at h;rw [if_neg (by omega),if_neg (by omega),if_neg (by omega),if_neg (by omega),if_neg (by omega),if_neg (by omega),if_neg (by omega)] at h;cases h
 rcases (show op=1∨op=2∨op=3∨op=4∨op=5∨op=6∨op=7 by omega) with rfl|rfl|rfl|rfl|rfl|rfl|rfl
 ·have:=sEff1 a1 a2 n1 c1 c2 L hL s n w rfl rfl
  rw [show (s.toList==[])=true by simpa [wfI] using h] at this;exact this
 ·have:=sEff2 a1 a2 n1 c1 c2 L hL s n w rfl rfl rfl
  rw [show (isVar s&&decide (n=0))=true by simpa [wfI] using h] at this;exact this
 ·have:=sEff3 a1 a2 n1 c1 c2 L hL s n w rfl rfl
  rw [show ((s.toList==[])&&inB n 0 ((L:Int) - 1))=true by simpa [wfI] using h] at this;exact this
 ·have:=sEff4 a1 a2 n1 c1 c2 L hL s n w rfl rfl
  rw [show ((s.toList==[])&&inB n 0 ((L:Int) - 1))=true by simpa [wfI] using h] at this;exact this
 ·have:=sEff5 a1 a2 n1 c1 c2 L hL s n w rfl rfl
  rw [show ((s.toList==[])&&decide (n=3))=true by simpa [wfI] using h] at this;exact this
 ·have:=sEff6 a1 a2 n1 c1 c2 L hL s n w rfl rfl rfl
  rw [show ((s.toList==[])&&inB n 4 7)=true by simpa [wfI] using h] at this;exact this
 ·have:=sEff7 a1 a2 n1 c1 c2 L hL s n w rfl rfl rfl
  have hb:=arity_bd s;rw [show (decide (0<arity s)&&decide (n=0))=true by (simp [wfI] at h;simp;omega)] at this;exact this
theorem sEff_no (a1 a2:Option Addr) (n1 c1 c2 L:Nat) (hL:L≤2000000) (op:Int) (s:ByteArray) (n:Int) (w:World) (h:wfI op s n L=false) :
  Calls Tryz.prog 191 #[.agg #[.slice a1 n1 c1,.slice a2 L c2],.agg #[.int .i64 op,.string s,.int .i64 n]] w fun e w'=>(∃p q,e = .returned (.tuple #[.int .i64 p,.int .i64 q,.bool false]))∧Ext w w':=by
 by_cases ho:1≤op∧op≤7
 case neg=>exact (sEffE a1 a2 n1 c1 c2 L hL s n w rfl rfl op ho).mono fun e w' ⟨h1,h2⟩=>⟨⟨_,_,h1⟩,h2⟩
 rcases (show op=1∨op=2∨op=3∨op=4∨op=5∨op=6∨op=7 by omega) with rfl|rfl|rfl|rfl|rfl|rfl|rfl
 ·have:=sEff1 a1 a2 n1 c1 c2 L hL s n w rfl rfl
  rw [show (s.toList==[])=false by simpa [wfI] using h] at this
  exact this.mono fun e w' ⟨h1,h2⟩=>⟨⟨_,_,h1⟩,h2⟩
 ·have:=sEff2 a1 a2 n1 c1 c2 L hL s n w rfl rfl rfl
  rw [show (isVar s&&decide (n=0))=false by simpa [wfI] using h] at this
  exact this.mono fun e w' ⟨h1,h2⟩=>⟨⟨_,_,h1⟩,h2⟩
 ·have:=sEff3 a1 a2 n1 c1 c2 L hL s n w rfl rfl
  rw [show ((s.toList==[])&&inB n 0 ((L:Int) - 1))=false by simpa [wfI] using h] at this
  exact this.mono fun e w' ⟨h1,h2⟩=>⟨⟨_,_,h1⟩,h2⟩
 ·have:=sEff4 a1 a2 n1 c1 c2 L hL s n w rfl rfl
  rw [show ((s.toList==[])&&inB n 0 ((L:Int) - 1))=false by simpa [wfI] using h] at this
  exact this.mono fun e w' ⟨h1,h2⟩=>⟨⟨_,_,h1⟩,h2⟩
 ·have:=sEff5 a1 a2 n1 c1 c2 L hL s n w rfl rfl
  rw [show ((s.toList==[])&&decide (n=3))=false by simpa [wfI] using h] at this
  exact this.mono fun e w' ⟨h1,h2⟩=>⟨⟨_,_,h1⟩,h2⟩
 ·have:=sEff6 a1 a2 n1 c1 c2 L hL s n w rfl rfl rfl
  rw [show ((s.toList==[])&&inB n 4 7)=false by simpa [wfI] using h] at this
  exact this.mono fun e w' ⟨h1,h2⟩=>⟨⟨_,_,h1⟩,h2⟩
 ·have:=sEff7 a1 a2 n1 c1 c2 L hL s n w rfl rfl rfl
  have hb:=arity_bd s;rw [show (decide (0<arity s)&&decide (n=0))=false by (simp [wfI] at h;simp;omega)] at this
  exact this.mono fun e w' ⟨h1,h2⟩=>⟨⟨_,_,h1⟩,h2⟩
theorem sDepth_any (lo hi:Nat) (v:Value) (c:Cod) (w:World) (hv:c.R lo hi w v) (hh:hi≤w.heap.size) (hL:c.ls.length≤2000000) :
  Calls Tryz.prog 189 #[v] w fun e w'=>e = .returned (.tuple #[.int .i64 (c.depth.getD 0),.bool c.depth.isSome])∧Ext w w':=by
 obtain ⟨a1,c1,a2,c2,rfl,HI,HS⟩:=hv.form;have l1:=HI.le;have l2:=HI.cap;have l3:=HS.le;have l4:=HS.cap;clear hv
 obtain ⟨L,hLL⟩:∃L,c.ls.length=L:=⟨_,rfl⟩
 rw [hLL] at hL l3 ⊢
 by_cases hlen:c.xs.length≤300
 case neg=>
  have e:c.depth=none:=by unfold Cod.depth;rw [if_neg hlen]
  rw [e];obtain ⟨i0,hi0,hz0,hz1,hz2⟩:=info_parts info_bool';go_enter Tryz.func189,Tryz.ntmps189;go_wp2_with (at_make;refine wpList_make_row _ rfl _ _ 318 rfl 4 i0 (.bool false) Tryz.underlying318 hi0 hz0 hz1 rfl .i64 .i64 L rfl rfl (by rw [hz2];omega) (by omega) ?_);clear hi0 hz0 hz1 hz2;go_wp2;refine bodyPost_ret (v:=.tuple #[.int .i64 0,.bool false]) (by simp [results,Tryz.results189,go_sem]) rfl ⟨rfl,S_⟩
 obtain ⟨R,hR⟩:∃R,c.depth=R:=⟨_,rfl⟩
 have hrun:runD L c.xs 0 0 (fun _=>false)=R:=by rw [←hR,←hLL];unfold Cod.depth;rw [if_pos hlen]
 rw [hR];have HRUN:=hid hrun;clear hrun hR;obtain ⟨i0,hi0,hz0,hz1,hz2⟩:=info_parts info_bool';go_enter Tryz.func189,Tryz.ntmps189;go_wp2_with (at_make;refine wpList_make_row _ rfl _ _ 318 rfl 4 i0 (.bool false) Tryz.underlying318 hi0 hz0 hz1 rfl .i64 .i64 L rfl rfl (by rw [hz2];omega) (by omega) ?_);have hrow:=hid (show RowB _ _ L (fun _=>false) from World.rowIs_made (w.alloc (.cells #[.slice a1 c.xs.length c1,.slice a2 L c2] 126)) (.bool false) L 4);have hbox:=hid ((TBox.made w (.slice a1 c.xs.length c1) (.slice a2 L c2) 126).ext ((Ext.refl _).alloc (.cells (madeCells #[.bool false] L) 4)));have X0:=hid (show Ext w ((w.alloc (.cells #[.slice a1 c.xs.length c1,.slice a2 L c2] 126)).alloc (.cells (madeCells #[.bool false] L) 4)) from X_);clear hi0 hz0 hz1 hz2;go_wp2;simp only [World.size_alloc] at hrow;generalize hB:w.heap.size+1=B at hrow
 go_loopw [4,5,23] (fun dv mv i wr=>∃(k:Nat) (d m:Int) (st:Nat→Bool),k≤c.xs.length∧i = .int .i64 k∧dv = .int .i64 d∧mv = .int .i64 m∧runD L (c.xs.drop k) d m st=R∧0≤d∧d≤k∧0≤m∧m≤k∧Ext w wr∧RowB wr B L st∧TBox wr w.heap.size (.slice a1 c.xs.length c1) (.slice a2 L c2)) (fun _ _ i _=>c.xs.length - (intOf i).toNat)
 case atStart=>exact ⟨0,0,0,_,by omega,rfl,rfl,rfl,HRUN.out,by omega,by omega,by omega,by omega,X0.out,hrow.out,hbox.out⟩
 case round=>
  clear HRUN X0 hrow hbox;obtain ⟨k,d,m,st,hk,rfl,rfl,rfl,hrun,d0,d1,m0,m1,hx,hrow,hbox⟩:=hrel
  have k0:k≤300:=by omega
  by_cases hlt:k<c.xs.length
  ·obtain ⟨b,off,op,s,n,rfl,hb1,hbw,hdrop,hget,io,inn,x0,x1,x2⟩:=HI.at hlt hx hh
   rw [hdrop] at hrun;unfold runD at hrun;have q0:=hbox.lt;have q1:=hbox.c0;have q2:=hbox.c1;have HX:=hid hx;have HR:=hid hrow;have HQ:=hid hbox;clear hx hrow hbox hdrop hget
   cases hwf:wfI op s n L
   ·have e:R=none:=by rw [←hrun,if_neg (by simp [hwf])]
    subst e;clear hrun;go_wp2_with fail;refine (sEff_no _ _ _ _ _ L hL op s n _ hwf).mono ?_;rintro e w1 ⟨⟨p,q,rfl⟩,x1⟩;have X1:Ext w w1:=Ext.trans (by have hx:=HX.out;exact X_) x1;go_wp2;refine bodyPost_ret (v:=.tuple #[.int .i64 0,.bool false]) (by simp [results,Tryz.results189,go_sem]) rfl ⟨rfl,S_⟩
   have pb:=pops_bd hwf;have qb:=push_bd op
   obtain ⟨p,hp⟩:∃p,popsI op s=p:=⟨_,rfl⟩
   obtain ⟨q,hq⟩:∃q,pushI op=q:=⟨_,rfl⟩
   rw [hp,hq] at hrun;rw [hp] at pb;rw [hq] at qb;have HP:=hid hp;have HQ2:=hid hq;simp only [hwf,true_and] at hrun
   by_cases h3:op=3∧st n.toNat=false
   ·obtain ⟨rfl,h3⟩:=h3
    obtain ⟨j,rfl,hj⟩:=wf_at hwf (.inl rfl);simp only [Int.toNat_natCast] at h3
    have e:R=none:=by rw [←hrun,if_neg (by simp [h3])]
    subst e;clear hrun hp hq;go_wp2_with fail;refine (sEff_wf _ _ _ _ _ L hL _ s _ _ hwf HP.out HQ2.out).mono ?_;rintro e w1 ⟨rfl,x1⟩;have X1:Ext w w1:=Ext.trans (by have hx:=HX.out;exact X_) x1;have K1:=(XBox.made wr 3 s j 197).ext x1;have R1:=(HR.out.ext ((Ext.refl _).alloc (.cells #[.int .i64 3,.string s,.int .i64 j] 197))).ext x1;have y0:=K1.lt;have y1:=K1.c0;have y2:=K1.c1;have y3:=K1.c2;have z0:=World.rowIs.cell R1 hj;rw [h3] at z0;have z1:=World.rowIs.lt R1;clear K1 R1 x0 x1 x2;go_wp2
    all_goals refine bodyPost_ret (v:=.tuple #[.int .i64 0,.bool false]) (by simp [results,Tryz.results189,go_sem]) rfl ⟨rfl,S_⟩
   have h3':op=3→st n.toNat=true:=fun e=>by
    cases h:st n.toNat
    ·exact absurd ⟨e,h⟩ h3
    ·rfl
   have H3:=hid h3'
   by_cases hpd:p≤d
   case neg=>
    rw [if_neg (fun h=>hpd h.2)] at hrun;subst hrun;clear hp hq h3';have hdp:(decide (d<p))=true:=decide_eq_true (by omega)
    by_cases e3:op=3
    ·subst e3
     have:=HP.out;have e:popsI 3 s=0:=rfl;omega
    go_wp2_with fail;refine (sEff_wf _ _ _ _ _ L hL _ s _ _ hwf HP.out HQ2.out).mono ?_;rintro e w1 ⟨rfl,x1⟩;have X1:Ext w w1:=Ext.trans (by have hx:=HX.out;exact X_) x1;have K1:=(XBox.made wr op s n 197).ext x1;have y0:=K1.lt;have y1:=K1.c0;have y2:=K1.c1;have y3:=K1.c2;clear x0 x1 x2;go_wp2;refine bodyPost_ret (v:=.tuple #[.int .i64 0,.bool false]) (by simp [results,Tryz.results189,go_sem]) rfl ⟨rfl,S_⟩
   rw [if_pos ⟨h3',hpd⟩] at hrun;have HR0:=hid hrun;clear hrun hp hq h3'
   have pl:d - p+q≤(k:Int)+1:=by omega
   have pn:0≤d - p+q:=by omega
   obtain ⟨D,hD⟩:∃D,d - p+q=D:=⟨_,rfl⟩
   rw [hD] at HR0 pl pn
   have hD2:d+(q - p)=D:=by omega
   have hM:∃M:Int,(if D > m then D else m)=M∧0≤M∧M≤(k:Int)+1:=⟨_,rfl,by split <;> omega,by split <;> omega⟩
   obtain ⟨M,hM,M0,M1⟩:=hM;have HM:=hid hM;clear hM
   by_cases e3:op=3
   ·subst e3
    obtain ⟨j,rfl,hj⟩:=wf_at hwf (.inl rfl);have hst:=H3.out rfl;simp only [Int.toNat_natCast] at hst;go_wp2_with fail;refine (sEff_wf _ _ _ _ _ L hL _ s _ _ hwf HP.out HQ2.out).mono ?_;rintro e w1 ⟨rfl,x1⟩;have X1:Ext w w1:=Ext.trans (by have hx:=HX.out;exact X_) x1;have g1:Ext wr w1:=Ext.trans X_ x1;have K1:=(XBox.made wr 3 s j 197).ext x1;have R1:=HR.out.ext g1;have z0:=World.rowIs.cell R1 hj;rw [hst] at z0;have z1:=World.rowIs.lt R1;have y0:=K1.lt;have y1:=K1.c0;have y2:=K1.c1;have y3:=K1.c2;clear x0 x1 x2;have B2:=HQ.out.ext g1;have R2:=R1;have X2:=X1;go_wp2_with fail;refine (l01Max_sh (c:=M) (I64.mk (by omega) (by omega)) (I64.mk (by omega) (by omega)) (by rw [←HM.out];split <;> split <;> omega) _).mono ?_;rintro e w3 ⟨rfl,rfl⟩;go_wp2;go_roundw
    case rel=>exact ⟨k+1,D,M,_,by omega,by go_num,rfl,rfl,by rw [←HM.out];exact HR0.out,pn,by omega,M0,by omega,X2,R2,B2⟩
    case measure=>simp [intOf];omega
   by_cases e4:op=4
   ·subst e4
    obtain ⟨j,rfl,hj⟩:=wf_at hwf (.inr rfl)
    have hBs:B≠w.heap.size:=by omega
    go_wp2_with fail;refine (sEff_wf _ _ _ _ _ L hL _ s _ _ hwf HP.out HQ2.out).mono ?_;rintro e w1 ⟨rfl,x1⟩;have X1:Ext w w1:=Ext.trans (by have hx:=HX.out;exact X_) x1;have g1:Ext wr w1:=Ext.trans X_ x1;have K1:=(XBox.made wr 4 s j 197).ext x1;have R1:=HR.out.ext g1;have y0:=K1.lt;have y1:=K1.c0;have y2:=K1.c1;have y3:=K1.c2;clear x0 x1 x2;have B2:=HQ.out.ext g1;have R2:=R1;have X2:=X1;have z0:=World.rowIs.cell R2 hj;have z1:=World.rowIs.lt R2;have z2:=World.rowIs.frozen R2 j;have HB2:=hid B2;have HR2:=hid R2;clear B2 R2;go_wp2_with fail;refine (l01Max_sh (c:=M) (I64.mk (by omega) (by omega)) (I64.mk (by omega) (by omega)) (by rw [←HM.out];split <;> split <;> omega) _).mono ?_;rintro e w3 ⟨rfl,rfl⟩;go_wp2;go_roundw
    case rel=>exact ⟨k+1,D,M,_,by omega,by go_num,rfl,rfl,by rw [←HM.out];exact HR0.out,pn,by omega,M0,by omega,X2.setCell (by show w.heap.size≤B;omega) _,HR2.out.mark j,HB2.out.at (by simp) (Below.heap_setCell _ _ _ _ (by show w.heap.size≠B;omega))⟩
    case measure=>simp [intOf];omega
   ·have hmk:markSt op n st=st:=by unfold markSt;rw [if_neg e4]
    rw [hmk] at HR0;clear hmk;go_wp2_with fail;refine (sEff_wf _ _ _ _ _ L hL _ s _ _ hwf HP.out HQ2.out).mono ?_;rintro e w1 ⟨rfl,x1⟩;have X1:Ext w w1:=Ext.trans (by have hx:=HX.out;exact X_) x1;have g1:Ext wr w1:=Ext.trans X_ x1;have K1:=(XBox.made wr op s n 197).ext x1;have R1:=HR.out.ext g1;have y0:=K1.lt;have y1:=K1.c0;have y2:=K1.c1;have y3:=K1.c2;clear x0 x1 x2;have B2:=HQ.out.ext g1;have R2:=R1;have X2:=X1;go_wp2_with fail;refine (l01Max_sh (c:=M) (I64.mk (by omega) (by omega)) (I64.mk (by omega) (by omega)) (by rw [←HM.out];split <;> split <;> omega) _).mono ?_;rintro e w3 ⟨rfl,rfl⟩;go_wp2;go_roundw
    case rel=>exact ⟨k+1,D,M,_,by omega,by go_num,rfl,rfl,by rw [←HM.out];exact HR0.out,pn,by omega,M0,by omega,X2,R2,B2⟩
    case measure=>simp [intOf];omega
  ·obtain rfl:k=c.xs.length:=by omega
   rw [List.drop_length] at hrun;have e:=runD_nil hrun;clear hrun
   by_cases hd:d=0
   ·rw [if_pos hd] at e
    subst e hd;go_wp2;refine bodyPost_ret (v:=.tuple #[.int .i64 m,.bool true]) (by simp [results,Tryz.results189,go_sem]) rfl ⟨rfl,S_⟩
   ·rw [if_neg hd] at e
    have hd':(d != 0)=true:=by simp [hd]
    subst e;go_wp2;refine bodyPost_ret (v:=.tuple #[.int .i64 0,.bool false]) (by simp [results,Tryz.results189,go_sem]) rfl ⟨rfl,S_⟩
def numB (x:Ins):Bool:=inB x.num (-1000000000) 1000000000
def Cod.runB (c:Cod):Bool:=c.depth.isSome&&c.xs.all numB
theorem runD_wf {L:Nat}:∀(xs:List Ins) (d m:Int) (st:Nat→Bool),(runD L xs d m st).isSome=true→∀x∈xs,wfI x.op x.name x.num L=true
 | [],_,_,_,_,x,hx=>by cases hx
 | y::r,d,m,st,h,x,hx=>by
  unfold runD at h
  split at h
  ·rename_i hc
   rcases List.mem_cons.1 hx with rfl|hx
   ·exact hc.1
   ·exact runD_wf r _ _ _ h x hx
  ·simp at h
theorem Cod.wf {c:Cod} (h:c.depth.isSome=true):∀x∈c.xs,wfI x.op x.name x.num c.ls.length=true:=by
 unfold Cod.depth at h
 split at h
 ·exact runD_wf _ _ _ _ h
 ·simp at h
theorem wf_num {x:Ins} {L:Nat} (h:wfI x.op x.name x.num L=true) (hL:L≤2000000) (h1:x.op≠1):numB x=true:=by
 unfold wfI at h;rw [if_neg h1] at h;refine inB_iff.2 ?_
 split at h
 ·simp at h;omega
 split at h
 ·simp [inB_iff] at h;omega
 split at h
 ·simp [inB_iff] at h;omega
 split at h
 ·simp at h;omega
 split at h
 ·simp [inB_iff] at h;omega
 split at h
 ·simp at h;omega
 ·cases h
def pushB (x:Ins):Bool:=!(x.op==1)||numB x
theorem Cod.runB_push {c:Cod} (hL:c.ls.length≤2000000):(c.xs.all pushB&&c.depth.isSome)=c.runB:=by
 unfold Cod.runB
 cases h:c.depth.isSome
 ·simp
 ·rw [Bool.and_true,Bool.true_and]
  have hw:=Cod.wf h;rw [Bool.eq_iff_iff,List.all_eq_true,List.all_eq_true]
  constructor
  ·intro k x hx
   have h1:=k x hx
   by_cases e:x.op=1
   ·simpa [pushB,e] using h1
   ·exact wf_num (hw x hx) hL e
  ·intro k x hx
   simp [pushB,k x hx]
theorem iDepth_val {c:Cod} {m:Int} {b:Bool} (h:c.depth.getD 0=m∧c.depth.isSome=b) (lo hi:Nat) (v:Value) (w:World) (hv:c.R lo hi w v) (hh:hi≤w.heap.size) (hL:c.ls.length≤2000000) :
  Calls Tryz.prog 267 #[v] w fun e w'=>e = .returned (.tuple #[.int .i64 m,.bool b])∧Ext w w':=h.1▸h.2▸iDepth_any lo hi v c w hv hh hL
theorem sDepth_val {c:Cod} {m:Int} {b:Bool} (h:c.depth.getD 0=m∧c.depth.isSome=b) (lo hi:Nat) (v:Value) (w:World) (hv:c.R lo hi w v) (hh:hi≤w.heap.size) (hL:c.ls.length≤2000000) :
  Calls Tryz.prog 189 #[v] w fun e w'=>e = .returned (.tuple #[.int .i64 m,.bool b])∧Ext w w':=h.1▸h.2▸sDepth_any lo hi v c w hv hh hL
theorem iRunnable_val {c:Cod} {r:Bool} (hr:c.runB=r) (lo hi:Nat) (v:Value) (w:World) (hv:c.R lo hi w v) (hh:hi≤w.heap.size) (hL:c.ls.length≤2000000) :
  Calls Tryz.prog 223 #[v] w fun e w'=>e = .returned (.bool r)∧Ext w w':=by
 have HV:=hid hv;obtain ⟨a1,c1,a2,c2,rfl,HI,HS⟩:=hv.form;have l1:=HI.le;have l2:=HI.cap;clear hv HS;rw [←Cod.runB_push hL] at hr;have HR:=hid hr;clear hr;go_enter Tryz.func223,Tryz.ntmps223;go_wp2;have hbox:=hid (TBox.made w (.slice a1 c.xs.length c1) (.slice a2 c.ls.length c2) 126);have X0:=hid (show Ext w (w.alloc (.cells #[.slice a1 c.xs.length c1,.slice a2 c.ls.length c2] 126)) from X_)
 go_loopw [10] (fun i wr=>∃(k:Nat),k≤c.xs.length∧i = .int .i64 k∧(c.xs.take k).all pushB=true∧Ext w wr∧TBox wr w.heap.size (.slice a1 c.xs.length c1) (.slice a2 c.ls.length c2)) (fun i _=>c.xs.length - (intOf i).toNat)
 case atStart=>exact ⟨0,by omega,rfl,rfl,X0.out,hbox.out⟩
 case round=>
  clear X0 hbox;obtain ⟨k,hk,rfl,hall,hx,hbox⟩:=hrel
  by_cases hlt:k<c.xs.length
  ·obtain ⟨b,off,op,s,n,rfl,hb1,hbw,hdrop,hget,io,inn,x0,x1,x2⟩:=HI.at hlt hx hh
   have hk2:c.xs[k]=⟨op,s,n⟩:=by have:=hget;rw [List.getElem?_eq_getElem hlt] at this;exact Option.some.inj this
   have HX:=hid hx;have HQ:=hid (hbox.ext ((Ext.refl _).alloc (.cells #[.int .i64 op,.string s,.int .i64 n] 197)));have HA:=hid hall;have HK:=hid hk2;clear hx hbox hdrop hget hall hk2
   by_cases h1:op=1
   ·subst h1
    cases hn:inB n (-1000000000) 1000000000
    ·have hn2:=hid hn
     go_wp2_with fail;refine (within_val hn2.out _).mono ?_;rintro e w1 ⟨rfl,rfl⟩;go_wp2;go_ret;have e:c.xs.all pushB=false:=all_no hlt (by rw [HK.out];simp [pushB,numB,hn2.out]);have hr:=HR.out;rw [e] at hr;refine ⟨ret_bool hr,?_⟩;have hx:=HX.out;exact S_
    ·have hn2:=hid hn
     go_wp2_with fail;refine (within_val hn2.out _).mono ?_;rintro e w1 ⟨rfl,rfl⟩;go_wp2;go_roundw
     case rel=>
      refine ⟨k+1,by omega,by go_num,all_step hlt HA.out (by rw [HK.out];simp [pushB,numB,hn2.out]),?_,HQ.out⟩;have hx:=HX.out;exact S_
     case measure=>simp [intOf];omega
   ·have h1':(op==1)=false:=beq_eq_false_iff_ne.2 h1
    have H1:=hid h1';go_wp2;go_roundw
    case rel=>
     refine ⟨k+1,by omega,by go_num,all_step hlt HA.out (by rw [HK.out];simp [pushB,H1.out]),?_,HQ.out⟩;have hx:=HX.out;exact S_
    case measure=>simp [intOf];omega
  ·obtain rfl:k=c.xs.length:=by omega
   rw [List.take_length] at hall;have hr:=HR.out;rw [hall,Bool.true_and] at hr;have HR2:=hid hr;clear hr hall;have q0:=hbox.lt;have q1:=hbox.c0;have q2:=hbox.c1;clear hbox;go_wp2_with fail;refine (iDepth_val ⟨rfl,HR2.out⟩ lo hi _ _ (HV.out.ext hh (by assumption)) (by have:=hx.size;omega) hL).mono ?_;rintro e w1 ⟨rfl,x1⟩;go_wp2;go_ret;exact ⟨rfl,hx.trans x1⟩
def fillG (f z:Nat→Value) (c i:Nat):Value:=if i<c then f i else z i
theorem fillG_step {w:World} {b:Nat} {t:TypeId} {n:Nat} {f z:Nat→Value} {c:Nat} (h:w.rowIs b t n (fillG f z c)) {i:Nat} {x:Value} (hi:i=c) (hx:x=f c):(w.setCell ⟨b,i,none⟩ x).rowIs b t n (fillG f z (c+1)):=by
 subst hi hx;refine World.rowIs.congr (World.rowIs.set h i (f i)) fun j _=>?_;unfold fillG
 by_cases e:j=i
 ·subst e;simp
 ·rw [if_neg e]
  by_cases h1:j<i
  ·rw [if_pos h1,if_pos (by omega)]
  ·rw [if_neg h1,if_neg (by omega)]
def insC (xs:List Ins) (i:Nat):Value:=
 match xs[i / 3]? with
 | some x=>if i % 3=0 then .int .i64 x.op else if i % 3=1 then .string x.name else .int .i64 x.num
 | none=>.int .i64 0
theorem insC_at {xs:List Ins} {k:Nat} {x:Ins} (h:xs[k]?=some x):insC xs (k*3) = .int .i64 x.op∧insC xs (k*3+1) = .string x.name∧insC xs (k*3+2) = .int .i64 x.num:=by
 refine ⟨?_,?_,?_⟩
 ·unfold insC
  rw [show k*3 / 3=k by omega,h,show k*3 % 3=0 by omega]
  rfl
 ·unfold insC
  rw [show (k*3+1) / 3=k by omega,h,show (k*3+1) % 3=1 by omega]
  rfl
 ·unfold insC
  rw [show (k*3+2) / 3=k by omega,h,show (k*3+2) % 3=2 by omega]
  rfl
theorem ownsRow_rowIs {w:World} {lo:Nat} {e:TypeId} {size n g:Nat} {z:Array Value} {f:Nat→Value} (hz:∀i,i<n*size→(madeCells z (n*size))[i]?=some (f i))
  (h:w.ownsRow lo e size (.slice (some ⟨g,0,none⟩) n n) n (madeCells z (n*size)).toList):w.rowIs g e (n*size) f:=by
 rcases h.2 with ⟨h1,h4⟩|⟨g',cap,cur,h1,hb,hg,hc,hm,hs,ht⟩
 ·simp at h1
 ·simp only [Value.slice.injEq,true_and,Option.some.injEq,Addr.mk.injEq,and_true] at h1
  obtain ⟨rfl,rfl⟩:=h1;refine ⟨cur,hg,hs,fun i hi=>?_⟩;have h2:=hz i hi
  have h3:cur.toList=(madeCells z (n*size)).toList:=by
   rw [←ht,List.take_of_length_le];simp [hs]
  rw [←Array.getElem?_toList,h3,Array.getElem?_toList];exact h2
def Cod.bd (c:Cod):Prop:=(∀x∈c.xs,x.name.size≤maxLen)∧∀s∈c.ls,s.size≤maxLen
def Cod.small (c:Cod):Prop:=c.xs.length≤1048576∧c.ls.length≤1048576
def Cod.O (c:Cod) (lo hi:Nat) (w:World) (v:Value):Prop:=∃b b2,v = .agg #[.slice (some ⟨b,0,none⟩) c.xs.length c.xs.length,.slice (some ⟨b2,0,none⟩) c.ls.length c.ls.length]∧lo≤b∧b<hi∧lo≤b2∧b2<hi∧w.rowIs b 197 (c.xs.length*3) (insC c.xs)∧w.rowIs b2 9 c.ls.length (strC c.ls)∧(∀x∈c.xs,I64 x.op∧I64 x.num)∧c.small
theorem Cod.O.kp {c:Cod} {lo hi:Nat} {w w':World} {v:Value} (h:c.O lo hi w v) (k:Kp lo hi w w'):c.O lo hi w' v:=by
 obtain ⟨b,b2,h1,h2,h3,h4,h5,h6,h7,h8⟩:=h;exact ⟨b,b2,h1,h2,h3,h4,h5,World.rowIs.of_block h6 (k.2 b h2 h3),World.rowIs.of_block h7 (k.2 b2 h4 h5),h8⟩
theorem Cod.O.R {c:Cod} {lo hi:Nat} {w:World} {v:Value} (h:c.O lo hi w v):c.R lo hi w v:=by
 obtain ⟨b,b2,rfl,h2,h3,h4,h5,h6,h7,h8,z1,z2⟩:=h;refine ⟨_,_,rfl,⟨_,_,rfl,Nat.le_refl _,by unfold maxLen;omega,fun i x hx=>⟨h8 x (List.mem_of_getElem? hx),b,0,rfl,h2,h3,?_⟩⟩,⟨_,_,rfl,Nat.le_refl _,by unfold maxLen;omega,fun i x hx=>⟨b2,0,rfl,h4,h5,?_⟩⟩⟩
 ·have hi:=(List.getElem?_eq_some_iff.1 hx).1
  obtain ⟨e0,e1,e2⟩:=insC_at hx;have hl:=flat_lt (k:=3) (j:=2) hi (by decide);refine ⟨?_,?_,?_⟩
  ·rw [Nat.zero_add,World.rowIs.cell h6 (by omega),e0]
  ·rw [Nat.zero_add,World.rowIs.cell h6 (by omega),e1]
  ·rw [Nat.zero_add,World.rowIs.cell h6 (by omega),e2]
 ·have hi:=(List.getElem?_eq_some_iff.1 hx).1
  rw [Nat.zero_add,World.rowIs.cell h7 hi];unfold strC;rw [List.getD,hx]
  rfl
theorem Cod.O.form {c:Cod} {lo hi:Nat} {w:World} {v:Value} (h:c.O lo hi w v):∃b b2,v = .agg #[.slice (some ⟨b,0,none⟩) c.xs.length c.xs.length,.slice (some ⟨b2,0,none⟩) c.ls.length c.ls.length]:=by
 obtain ⟨b,b2,h1,_⟩:=h;exact ⟨b,b2,h1⟩
theorem Cod.R.i64 {c:Cod} {lo hi:Nat} {w:World} {v:Value} (h:c.R lo hi w v):∀x∈c.xs,I64 x.op∧I64 x.num:=by
 obtain ⟨iu,lu,_,⟨a,cap,_,_,_,h2⟩,_⟩:=h;intro x hx;obtain ⟨i,hi,rfl⟩:=List.getElem_of_mem hx;exact (h2 i c.xs[i] (by simp [hi])).1
structure Nd where
 op:Int
 name:ByteArray
 num:Int
 args:List Int
structure Asg where
 name:ByteArray
 root:Int
structure Prg where
 ns:List Nd
 gs:List Asg
def Nds (lo hi:Nat) (w:World) (v:Value) (xs:List Nd):Prop:=
 ∃a cap,v = .slice a xs.length cap∧xs.length≤cap∧cap≤maxLen∧∀i x,xs[i]?=some x→(I64 x.op∧I64 x.num)∧∃b off u,a=some ⟨b,off,none⟩∧lo≤b∧b<hi∧w.cell? ⟨b,off+i*4,none⟩=some (.int .i64 x.op)∧w.cell? ⟨b,off+i*4+1,none⟩=some (.string x.name)∧w.cell? ⟨b,off+i*4+2,none⟩=some (.int .i64 x.num)∧w.cell? ⟨b,off+i*4+3,none⟩=some u∧Ints lo hi w u x.args
theorem Nds.same {lo hi:Nat} {w w':World} {v:Value} {xs:List Nd} (h:Nds lo hi w v xs) (s:Same lo hi w w'):Nds lo hi w' v xs:=by
 obtain ⟨a,cap,h1,h2,h3,h4⟩:=h;refine ⟨a,cap,h1,h2,h3,fun i x hx=>?_⟩;obtain ⟨h5,b,off,u,h6,h7,h8,h9,h10,h11,h12,h13⟩:=h4 i x hx;exact ⟨h5,b,off,u,h6,h7,h8,by rw [s.cell h7 h8];exact h9,by rw [s.cell h7 h8];exact h10,by rw [s.cell h7 h8];exact h11,by rw [s.cell h7 h8];exact h12,h13.same s⟩
structure NdsAt (lo hi:Nat) (w:World) (a:Option Addr) (cap:Nat) (xs:List Nd):Prop where
 le:xs.length≤cap
 cap:cap≤9223372036854775807
 cell:∀i x,xs[i]?=some x→(I64 x.op∧I64 x.num)∧∃b off u,a=some ⟨b,off,none⟩∧lo≤b∧b<hi∧w.cell? ⟨b,off+i*4,none⟩=some (.int .i64 x.op)∧w.cell? ⟨b,off+i*4+1,none⟩=some (.string x.name)∧w.cell? ⟨b,off+i*4+2,none⟩=some (.int .i64 x.num)∧w.cell? ⟨b,off+i*4+3,none⟩=some u∧Ints lo hi w u x.args
theorem Nds.open {lo hi:Nat} {w:World} {v:Value} {xs:List Nd} (h:Nds lo hi w v xs):∃a cap,v = .slice a xs.length cap∧NdsAt lo hi w a cap xs:=by
 obtain ⟨a,cap,g1,g2,g3,g4⟩:=h;exact ⟨a,cap,g1,g2,by unfold maxLen at g3;omega,g4⟩
theorem NdsAt.shut {lo hi:Nat} {w:World} {a:Option Addr} {cap:Nat} {xs:List Nd} (h:NdsAt lo hi w a cap xs):Nds lo hi w (.slice a xs.length cap) xs:=
 ⟨a,cap,rfl,h.le,by unfold maxLen;have:=h.cap;omega,h.cell⟩
theorem NdsAt.at {lo hi:Nat} {w:World} {a:Option Addr} {cap:Nat} {xs:List Nd} (h:NdsAt lo hi w a cap xs) {k:Nat} (hk:k<xs.length) {wr:World} (hx:Ext w wr) (hh:hi≤w.heap.size) :
  ∃b off op s n u r,a=some ⟨b,off,none⟩∧b<w.heap.size∧b<wr.heap.size∧xs.drop k=⟨op,s,n,r⟩::xs.drop (k+1)∧xs[k]?=some ⟨op,s,n,r⟩∧I64 op∧I64 n∧Ints lo hi wr u r∧wr.cell? ⟨b,off+k*4,none⟩=some (.int .i64 op)∧wr.cell? ⟨b,off+k*4+1,none⟩=some (.string s)∧wr.cell? ⟨b,off+k*4+2,none⟩=some (.int .i64 n)∧wr.cell? ⟨b,off+k*4+3,none⟩=some u:=by
 obtain ⟨⟨i1,i2⟩,b,off,u,e,h1,h2,c0,c1,c2,c3,hu⟩:=h.cell k xs[k] (by simp [hk]);have hz:=hx.size;refine ⟨b,off,xs[k].op,xs[k].name,xs[k].num,u,xs[k].args,e,by omega,by omega,List.drop_eq_getElem_cons hk,by simp [hk],i1,i2,hu.ext hh hx,?_,?_,?_,?_⟩
 ·exact (hx.cells.1 b _ (by omega)).trans c0
 ·exact (hx.cells.1 b _ (by omega)).trans c1
 ·exact (hx.cells.1 b _ (by omega)).trans c2
 ·exact (hx.cells.1 b _ (by omega)).trans c3
def Asgs (lo hi:Nat) (w:World) (v:Value) (xs:List Asg):Prop:=
 ∃a cap,v = .slice a xs.length cap∧xs.length≤cap∧cap≤maxLen∧∀i x,xs[i]?=some x→I64 x.root∧∃b off,a=some ⟨b,off,none⟩∧lo≤b∧b<hi∧w.cell? ⟨b,off+i*2,none⟩=some (.string x.name)∧w.cell? ⟨b,off+i*2+1,none⟩=some (.int .i64 x.root)
theorem Asgs.same {lo hi:Nat} {w w':World} {v:Value} {xs:List Asg} (h:Asgs lo hi w v xs) (s:Same lo hi w w'):Asgs lo hi w' v xs:=by
 obtain ⟨a,cap,h1,h2,h3,h4⟩:=h;refine ⟨a,cap,h1,h2,h3,fun i x hx=>?_⟩;obtain ⟨h5,b,off,h6,h7,h8,h9,h10⟩:=h4 i x hx;exact ⟨h5,b,off,h6,h7,h8,by rw [s.cell h7 h8];exact h9,by rw [s.cell h7 h8];exact h10⟩
structure AsgsAt (lo hi:Nat) (w:World) (a:Option Addr) (cap:Nat) (xs:List Asg):Prop where
 le:xs.length≤cap
 cap:cap≤9223372036854775807
 cell:∀i x,xs[i]?=some x→I64 x.root∧∃b off,a=some ⟨b,off,none⟩∧lo≤b∧b<hi∧w.cell? ⟨b,off+i*2,none⟩=some (.string x.name)∧w.cell? ⟨b,off+i*2+1,none⟩=some (.int .i64 x.root)
theorem Asgs.open {lo hi:Nat} {w:World} {v:Value} {xs:List Asg} (h:Asgs lo hi w v xs):∃a cap,v = .slice a xs.length cap∧AsgsAt lo hi w a cap xs:=by
 obtain ⟨a,cap,g1,g2,g3,g4⟩:=h;exact ⟨a,cap,g1,g2,by unfold maxLen at g3;omega,g4⟩
theorem AsgsAt.shut {lo hi:Nat} {w:World} {a:Option Addr} {cap:Nat} {xs:List Asg} (h:AsgsAt lo hi w a cap xs):Asgs lo hi w (.slice a xs.length cap) xs:=
 ⟨a,cap,rfl,h.le,by unfold maxLen;have:=h.cap;omega,h.cell⟩
theorem AsgsAt.at {lo hi:Nat} {w:World} {a:Option Addr} {cap:Nat} {xs:List Asg} (h:AsgsAt lo hi w a cap xs) {k:Nat} (hk:k<xs.length) {wr:World} (hx:Ext w wr) (hh:hi≤w.heap.size) :
  ∃b off s r,a=some ⟨b,off,none⟩∧b<w.heap.size∧b<wr.heap.size∧xs.drop k=⟨s,r⟩::xs.drop (k+1)∧xs[k]?=some ⟨s,r⟩∧I64 r∧wr.cell? ⟨b,off+k*2,none⟩=some (.string s)∧wr.cell? ⟨b,off+k*2+1,none⟩=some (.int .i64 r):=by
 obtain ⟨i1,b,off,e,h1,h2,c0,c1⟩:=h.cell k xs[k] (by simp [hk]);have hz:=hx.size;refine ⟨b,off,xs[k].name,xs[k].root,e,by omega,by omega,List.drop_eq_getElem_cons hk,by simp [hk],i1,?_,?_⟩
 ·exact (hx.cells.1 b _ (by omega)).trans c0
 ·exact (hx.cells.1 b _ (by omega)).trans c1
def Prg.R (p:Prg) (lo hi:Nat) (w:World) (v:Value):Prop:=∃nu au,v = .agg #[nu,au]∧Nds lo hi w nu p.ns∧Asgs lo hi w au p.gs
theorem Prg.R.same {p:Prg} {lo hi:Nat} {w w':World} {v:Value} (h:p.R lo hi w v) (s:Same lo hi w w'):p.R lo hi w' v:=by
 obtain ⟨nu,au,h1,h2,h3⟩:=h;exact ⟨nu,au,h1,h2.same s,h3.same s⟩
theorem Prg.R.ext {p:Prg} {lo hi:Nat} {w w':World} {v:Value} (h:p.R lo hi w v) (hh:hi≤w.heap.size) (e:Ext w w'):p.R lo hi w' v:=h.same (e.same hh)
theorem Prg.R.kp {p:Prg} {lo hi:Nat} {w w':World} {v:Value} (h:p.R lo hi w v) (k:Kp lo hi w w'):p.R lo hi w' v:=h.same k.same
theorem Nds.ext {lo hi:Nat} {w w':World} {v:Value} {xs:List Nd} (h:Nds lo hi w v xs) (hh:hi≤w.heap.size) (e:Ext w w'):Nds lo hi w' v xs:=h.same (e.same hh)
theorem Asgs.ext {lo hi:Nat} {w w':World} {v:Value} {xs:List Asg} (h:Asgs lo hi w v xs) (hh:hi≤w.heap.size) (e:Ext w w'):Asgs lo hi w' v xs:=h.same (e.same hh)
theorem Prg.R.form {p:Prg} {lo hi:Nat} {w:World} {v:Value} (h:p.R lo hi w v):∃a1 c1 a2 c2,v = .agg #[.slice a1 p.ns.length c1,.slice a2 p.gs.length c2]∧NdsAt lo hi w a1 c1 p.ns∧AsgsAt lo hi w a2 c2 p.gs:=by
 obtain ⟨iu,lu,rfl,h2,h3⟩:=h;obtain ⟨a1,c1,rfl,H1⟩:=h2.open;obtain ⟨a2,c2,rfl,H2⟩:=h3.open;exact ⟨a1,c1,a2,c2,rfl,H1,H2⟩
def Prg.bd (p:Prg):Prop:=(∀x∈p.ns,x.name.size≤maxLen)∧∀x∈p.gs,x.name.size≤maxLen
def Prg.small (p:Prg):Prop:=(p.ns.length≤1048576∧∀x∈p.ns,x.args.length≤1048576)∧p.gs.length≤1048576
theorem szIntS_sm (lo hi:Nat) (u:Value) (xs:List Int) (left:Int) (w:World) (hu:Ints lo hi w u xs) (h1:0≤left) (h2:left≤1048576) :
  Calls Tryz.prog 118 #[u,.int .i64 left] w fun e w'=>(∃r,e = .returned (.int .i64 r)∧(r = -1∨(0≤r∧r≤left∧xs.length≤1048576)))∧w=w':=by
 obtain ⟨a,cap,rfl,HU⟩:=hu.open;have h3:=HU.le;have h4:=HU.cap;clear hu HU;go_enter Tryz.func118,Tryz.ntmps118;go_wp2
 all_goals go_ret
 ·exact ⟨⟨_,rfl,.inl rfl⟩,rfl⟩
 ·exact ⟨⟨_,rfl,.inr ⟨by omega,by omega,by omega⟩⟩,rfl⟩
theorem szNode_any (lo hi:Nat) (op:Int) (s:ByteArray) (n:Int) (u:Value) (r:List Int) (left:Int) (w:World) (hu:Ints lo hi w u r) (hh:hi≤w.heap.size) (hs:s.size≤maxLen) (h1:0≤left) (h2:left≤1048576) :
  Calls Tryz.prog 236 #[.agg #[.int .i64 op,.string s,.int .i64 n,u],.int .i64 left] w fun e w'=>(∃q,e = .returned (.int .i64 q)∧(q = -1∨(0≤q∧q≤left∧r.length≤1048576)))∧Ext w w':=by
 unfold maxLen at hs;have HU:=hid hu;have x0:Ext w (w.alloc (.cells #[.int .i64 op,.string s,.int .i64 n,u] 314)):=X_;clear hu
 by_cases hl:left - (s.size:Int)<0
 ·go_enter Tryz.func236,Tryz.ntmps236
  go_wp2;go_ret;exact ⟨⟨_,rfl,.inl rfl⟩,S_⟩
 ·go_enter Tryz.func236,Tryz.ntmps236
  go_wp2_with fail;refine (szIntS_sm lo hi u r _ _ (HU.out.ext hh x0) (by omega) (by omega)).mono ?_;rintro e w1 ⟨⟨q,rfl,hq⟩,rfl⟩
  rcases hq with rfl|⟨q1,q2,q3⟩
  ·go_wp2
   go_ret;exact ⟨⟨_,rfl,.inl rfl⟩,x0⟩
  ·have hn : ¬q<0:=by omega
   go_wp2;go_ret;exact ⟨⟨_,rfl,.inr ⟨q1,by omega,q3⟩⟩,x0⟩
theorem szNodeS_any (lo hi:Nat) (u:Value) (xs:List Nd) (left:Int) (w:World) (hu:Nds lo hi w u xs) (hh:hi≤w.heap.size) (hs:∀x∈xs,x.name.size≤maxLen) (h1:0≤left) (h2:left≤1048576) :
  Calls Tryz.prog 177 #[u,.int .i64 left] w fun e w'=>(∃r,e = .returned (.int .i64 r)∧(r = -1∨(0≤r∧r≤left∧xs.length≤1048576∧∀x∈xs,x.args.length≤1048576)))∧Ext w w':=by
 obtain ⟨a,cap,rfl,HU⟩:=hu.open;have h3:=HU.le;have h4:=HU.cap;have HS:=hid hs;clear hu hs
 by_cases hl:left - (xs.length:Int)<0
 ·go_enter Tryz.func177,Tryz.ntmps177
  go_wp2;go_ret;exact ⟨⟨_,rfl,.inl rfl⟩,S_⟩
 ·go_enter Tryz.func177,Tryz.ntmps177
  go_wp2
  go_loopw [1,5] (fun q i wr=>∃(k:Nat) (r:Int),k≤xs.length∧i = .int .i64 k∧q = .int .i64 r∧0≤r∧r≤left∧(∀j x,j<k→xs[j]?=some x→x.args.length≤1048576)∧Ext w wr) (fun _ i _=>xs.length - (intOf i).toNat)
  case atStart=>exact ⟨0,_,by omega,rfl,rfl,by omega,by omega,fun j x hj=>by omega,S_⟩
  case round=>
   obtain ⟨k,r,hk,rfl,rfl,hr1,hr2,hall,hx⟩:=hrel
   by_cases hlt:k<xs.length
   ·obtain ⟨b,off,op,s,n,ua,ra,rfl,hb1,hbw,hdrop,hget,io,inn,hia,x0,x1,x2,x3⟩:=HU.at hlt hx hh
    have hz:=hid (HS.out _ (List.mem_of_getElem? hget));have HX:=hid hx;have HI:=hid hia;have HA:=hid hall;have HG:=hid hget;have zx:=hx.size;clear hdrop hget hx hia hall;go_wp2_with fail;refine (szNode_any lo hi op s n ua ra r _ HI.out (by omega) hz.out hr1 (by omega)).mono ?_;rintro e w1 ⟨⟨r2,rfl,hr3⟩,x3⟩;have X3:=HX.out.trans x3
    rcases hr3 with rfl|⟨hr3,hr4,hr5⟩
    ·go_wp2
     go_ret;exact ⟨⟨_,rfl,.inl rfl⟩,X3⟩
    ·have hn : ¬r2<0:=by omega
     go_wp2;go_roundw
     case rel=>
      refine ⟨k+1,r2,by omega,by go_num,rfl,by omega,by omega,fun j x hj hx=>?_,X3⟩
      by_cases e:j=k
      ·subst e
       rw [HG.out] at hx;injection hx with hx;subst hx;exact hr5
      ·exact HA.out j x (by omega) hx
     case measure=>simp [intOf];omega
   ·have HA:=hid hall
    clear hall;go_wp2;go_ret;refine ⟨⟨_,rfl,.inr ⟨hr1,hr2,by omega,fun x hx=>?_⟩⟩,hx⟩;obtain ⟨j,hj,rfl⟩:=List.getElem_of_mem hx;exact HA.out j _ (by omega) (by simp [hj])
theorem szAssignment_any (s:ByteArray) (n left:Int) (w:World) (hs:s.size≤maxLen) (h1:0≤left) (h2:left≤1048576):Calls Tryz.prog 237 #[.agg #[.string s,.int .i64 n],.int .i64 left] w fun e w'=>(∃r,e = .returned (.int .i64 r)∧(r = -1∨(0≤r∧r≤left)))∧Ext w w':=by
 unfold maxLen at hs;go_enter Tryz.func237,Tryz.ntmps237;go_wp2
 all_goals go_ret
 ·exact ⟨⟨_,rfl,.inl rfl⟩,S_⟩
 ·exact ⟨⟨_,rfl,.inr ⟨by omega,by omega⟩⟩,S_⟩
theorem szAssignmentS_any (lo hi:Nat) (u:Value) (xs:List Asg) (left:Int) (w:World) (hu:Asgs lo hi w u xs) (hh:hi≤w.heap.size) (hs:∀x∈xs,x.name.size≤maxLen) (h1:0≤left) (h2:left≤1048576) :
  Calls Tryz.prog 178 #[u,.int .i64 left] w fun e w'=>(∃r,e = .returned (.int .i64 r)∧(r = -1∨(0≤r∧r≤left∧xs.length≤1048576)))∧Ext w w':=by
 obtain ⟨a,cap,rfl,HU⟩:=hu.open;have h3:=HU.le;have h4:=HU.cap;have HS:=hid hs;clear hu hs
 by_cases hl:left - (xs.length:Int)<0
 ·go_enter Tryz.func178,Tryz.ntmps178
  go_wp2;go_ret;exact ⟨⟨_,rfl,.inl rfl⟩,S_⟩
 ·go_enter Tryz.func178,Tryz.ntmps178
  go_wp2
  go_loopw [1,5] (fun q i wr=>∃(k:Nat) (r:Int),k≤xs.length∧i = .int .i64 k∧q = .int .i64 r∧0≤r∧r≤left∧Ext w wr) (fun _ i _=>xs.length - (intOf i).toNat)
  case atStart=>exact ⟨0,_,by omega,rfl,rfl,by omega,by omega,S_⟩
  case round=>
   obtain ⟨k,r,hk,rfl,rfl,hr1,hr2,hx⟩:=hrel
   by_cases hlt:k<xs.length
   ·obtain ⟨b,off,s,n,rfl,hb1,hbw,hdrop,hget,io,x0,x1⟩:=HU.at hlt hx hh
    have hz:=hid (HS.out _ (List.mem_of_getElem? hget));have HX:=hid hx;clear hdrop hget hx;go_wp2_with fail;refine (szAssignment_any s n r _ hz.out hr1 (by omega)).mono ?_;rintro e w1 ⟨⟨r2,rfl,hr3⟩,x3⟩;have X3:=HX.out.trans x3
    rcases hr3 with rfl|⟨hr3,hr4⟩
    ·go_wp2
     go_ret;exact ⟨⟨_,rfl,.inl rfl⟩,X3⟩
    ·have hn : ¬r2<0:=by omega
     go_wp2;go_roundw
     case rel=>exact ⟨k+1,r2,by omega,by go_num,rfl,by omega,by omega,X3⟩
     case measure=>simp [intOf];omega
   ·go_wp2
    go_ret;exact ⟨⟨_,rfl,.inr ⟨hr1,hr2,by omega⟩⟩,hx⟩
theorem szProgram_any (lo hi:Nat) (v:Value) (p:Prg) (left:Int) (w:World) (hv:p.R lo hi w v) (hh:hi≤w.heap.size) (hb:p.bd) (h1:0≤left) (h2:left≤1048576) :
  Calls Tryz.prog 119 #[v,.int .i64 left] w fun e w'=>(∃r,e = .returned (.int .i64 r)∧(r = -1∨(0≤r∧r≤left∧p.small)))∧Ext w w':=by
 obtain ⟨iu,lu,rfl,hi1,hl1⟩:=hv;have HI:=hid hi1;have HL:=hid hl1;have HB:=hid hb;clear hi1 hl1 hb;have x0:Ext w (w.alloc (.cells #[iu,lu] 190)):=X_;have bA:=Bx.made w #[iu,lu] 190;go_enter Tryz.func119,Tryz.ntmps119;go_wp2_with fail;refine (szNodeS_any lo hi _ p.ns left _ (HI.out.ext hh x0) (Nat.le_trans hh x0.size) HB.out.1 h1 h2).mono ?_;rintro e w1 ⟨⟨r,rfl,hr⟩,x1⟩;have X1:=x0.trans x1
 rcases hr with rfl|⟨r1,r2,r3,r4⟩
 ·go_wp2
  go_ret;exact ⟨⟨_,rfl,.inl rfl⟩,X1⟩
 ·have bA1:=bA.ext x1
  have hn : ¬r<0:=by omega
  have R4:=hid r4;clear bA x0 x1 r4;have y:=bA1.lt;have y0:=bA1.cell 0;simp only [List.getElem?_toArray,List.getElem?_cons_zero,List.getElem?_cons_succ] at y0;have y1:=bA1.cell 1;simp only [List.getElem?_toArray,List.getElem?_cons_zero,List.getElem?_cons_succ] at y1;go_wp2_with fail;refine (szAssignmentS_any lo hi _ p.gs r _ (HL.out.ext hh X1) (Nat.le_trans hh X1.size) HB.out.2 r1 (by omega)).mono ?_;rintro e w2 ⟨⟨q,rfl,hq⟩,x2⟩
  rcases hq with rfl|⟨q1,q2,q3⟩
  ·go_wp2
   go_ret;exact ⟨⟨_,rfl,.inl rfl⟩,X1.trans x2⟩
  ·have hn2 : ¬q<0:=by omega
   go_wp2;go_ret;exact ⟨⟨_,rfl,.inr ⟨q1,by omega,⟨r3,R4.out⟩,q3⟩⟩,X1.trans x2⟩
def letN (n:Nat):Bool:=decide (97≤n)&&decide (n≤122)
def digN (n:Nat):Bool:=decide (48≤n)&&decide (n≤57)
def identAt (s:ByteArray) (k:Nat):Bool:=if h:k<s.size then letN s[k].toNat||(decide (k≠0)&&digN s[k].toNat) else true
def identB (s:ByteArray):Bool:=decide (1≤s.size)&&decide (s.size≤8)&&(List.range s.size).all (identAt s)
theorem identB_no {s:ByteArray} {k:Nat} (hk:k<s.size) (h:identAt s k=false):identB s=false:=by
 unfold identB;rw [Bool.and_eq_false_iff]
 right
 rw [List.all_eq_false];exact ⟨k,List.mem_range.2 hk,by simp [h]⟩
theorem identB_yes {s:ByteArray} (h:∀k,k<s.size→identAt s k=true):identB s=(decide (1≤s.size)&&decide (s.size≤8)):=by
 unfold identB;have:(List.range s.size).all (identAt s)=true:=List.all_eq_true.2 fun k hk=>h k (List.mem_range.1 hk);rw [this,Bool.and_true]
theorem identAt_let {s:ByteArray} {k:Nat} (hk:k<s.size) (h:97≤s[k].toNat∧s[k].toNat≤122):identAt s k=true:=by
 unfold identAt letN;rw [dif_pos hk,decide_eq_true h.1,decide_eq_true h.2]
 rfl
theorem identAt_dig {s:ByteArray} {k:Nat} (hk:k<s.size) (h0:k≠0) (h:48≤s[k].toNat∧s[k].toNat≤57):identAt s k=true:=by
 unfold identAt digN;rw [dif_pos hk,decide_eq_true h.1,decide_eq_true h.2,decide_eq_true h0];simp
theorem identAt_no {s:ByteArray} {k:Nat} (hk:k<s.size) (h1 : ¬(97≤s[k].toNat∧s[k].toNat≤122)) (h2 : ¬(k≠0∧48≤s[k].toNat∧s[k].toNat≤57)):identAt s k=false:=by
 unfold identAt letN digN;rw [dif_pos hk];simp only [Bool.or_eq_false_iff,Bool.and_eq_false_iff,decide_eq_false_iff_not];omega
theorem sIsIdentifier_any (s:ByteArray) (w:World) (hs:s.size≤maxLen):Calls Tryz.prog 239 #[.string s] w fun e w'=>e = .returned (.bool (identB s))∧w=w':=by
 unfold maxLen at hs;go_enter Tryz.func239,Tryz.ntmps239;go_wp2
 go_loopw [3] (fun i wr=>∃k:Nat,k≤s.size∧i = .int .i64 k∧wr=w∧∀j,j<k→identAt s j=true) (fun i _=>s.size - (intOf i).toNat)
 case atStart=>exact ⟨0,by omega,rfl,rfl,fun j h=>by omega⟩
 case round=>
  obtain ⟨k,hk,rfl,rfl,hno⟩:=hrel
  by_cases hlt:k<s.size
  ·have hno':identAt s k=true→∀j,j<k+1→identAt s j=true:=fun h j hj=>by
    by_cases e:j=k
    ·subst e;exact h
    ·exact hno j (by omega)
   by_cases h1:97≤s[k].toNat∧s[k].toNat≤122
   ·have HN:=hid (hno' (identAt_let hlt h1))
    clear hno hno';go_wp2;go_roundw
    case rel=>exact ⟨k+1,by omega,by go_num,by trivial,HN.out⟩
    case measure=>simp [intOf];omega
   ·by_cases h2:k≠0∧48≤s[k].toNat∧s[k].toNat≤57
    ·have HN:=hid (hno' (identAt_dig hlt h2.1 h2.2))
     have ek:((k:Int)==0)=false:=beq_eq_false_iff_ne.2 (by omega);clear hno hno';go_wp2
     all_goals first|(exfalso;omega)|skip
     all_goals (go_roundw <;> first|exact ⟨k+1,by omega,by go_num,by trivial,HN.out⟩|(simp [intOf];omega))
    ·have HN:=hid (identB_no hlt (identAt_no hlt h1 h2))
     clear hno hno'
     by_cases h0:k=0
     ·have ek:((k:Int)==0)=true:=by subst h0;rfl
      go_wp2
      all_goals first|(exfalso;omega)|(go_ret;exact ⟨by rw [HN.out];rfl,rfl⟩)|(exfalso;simp_all <;> omega)|trace_state
     ·have ek:((k:Int)==0)=false:=beq_eq_false_iff_ne.2 (by omega)
      go_wp2
      all_goals first|(exfalso;omega)|(go_ret;exact ⟨by rw [HN.out];rfl,rfl⟩)|(exfalso;simp_all <;> omega)|trace_state
  ·obtain rfl:k=s.size:=by omega
   have HN:=hid (identB_yes hno);clear hno
   obtain ⟨bi,hbi⟩:∃b,inB (s.size:Int) 1 8=b:=⟨_,rfl⟩
   have hb2:identB s=bi:=by
    rw [HN.out,←hbi];unfold inB;rw [Bool.eq_iff_iff];simp only [Bool.and_eq_true,decide_eq_true_eq];omega
   have HB:=hid hb2;go_wp2_with fail;refine (l01In_val hbi _).mono ?_;rintro e w1 ⟨rfl,rfl⟩;go_wp2;go_ret;exact ⟨by rw [HB.out];rfl,rfl⟩
theorem iIsIdentifier_any (s:ByteArray) (w:World) (hs:s.size≤maxLen):Calls Tryz.prog 276 #[.string s] w fun e w'=>e = .returned (.bool (identB s))∧Ext w w':=by
 unfold maxLen at hs;have hk0:(w.iter s 0).heap[w.heap.size]?=some (.stringIter s 0):=World.iter_heap w s 0;have hb0:Ext w (w.iter s 0):=(Ext.refl w).alloc _;go_enter Tryz.func276,Tryz.ntmps276;go_wp2
 go_loopw [9] (fun _ wr=>∃pos:Nat,pos≤s.size∧wr.heap[w.heap.size]?=some (.stringIter s pos)∧(∀j,j<pos→identAt s j=true)∧Ext w wr) (fun _ wr=>s.size - wr.iterPos w.heap.size)
 case atStart=>exact ⟨0,Nat.zero_le _,hk0,fun j h=>by omega,hb0⟩
 case round=>
  obtain ⟨pos,hps,hk,hno,hnx⟩:=hrel;clear hk0 hb0
  by_cases hp:pos<s.size
  ·have hno':identAt s pos=true→∀j,j<pos+1→identAt s j=true:=fun h j hj=>by
    by_cases e:j=pos
    ·subst e;exact h
    ·exact hno j (by omega)
   have hmu:wr.iterPos w.heap.size=pos:=by simp [World.iterPos,hk]
   by_cases ha:(s[pos]'hp).toNat<128
   ·have hnext:∀ty,(Instr.next (.pointer (some ⟨w.heap.size,0,none⟩)) true ty).run Tryz.prog wr=_:=fun ty=>Lib.run_next_ascii_at wr w.heap.size s pos ty hk hp ha
    have hk1:=Lib.iterAt_heap wr w.heap.size s pos (pos+1) hk;have hnx1:Ext w (wr.iterAt w.heap.size s (pos+1)):=Lib.below_iterAt hnx (by omega) s (pos+1);generalize wr.iterAt w.heap.size s (pos+1)=W1 at hnext hk1 hnx1
    have hmu1:W1.iterPos w.heap.size=pos+1:=by simp [World.iterPos,hk1]
    have HX:=hid hnx1;have HK:=hid hk1;clear hnx hk hnx1 hk1
    by_cases h1:97≤s[pos].toNat∧s[pos].toNat≤122
    ·have HN:=hid (hno' (identAt_let hp h1))
     clear hno hno';go_wp2
     all_goals first|(exfalso;omega)|skip
     all_goals (go_roundw <;> first|exact ⟨pos+1,by omega,HK.out,HN.out,HX.out⟩|(rw [hmu,hmu1];omega))
    ·by_cases h2:pos≠0∧48≤s[pos].toNat∧s[pos].toNat≤57
     ·have HN:=hid (hno' (identAt_dig hp h2.1 h2.2))
      have ek:((pos:Int)==0)=false:=beq_eq_false_iff_ne.2 (by omega);clear hno hno';go_wp2
      all_goals first|(exfalso;omega)|skip
      all_goals (go_roundw <;> first|exact ⟨pos+1,by omega,HK.out,HN.out,HX.out⟩|(rw [hmu,hmu1];omega))
     ·have HN:=hid (identB_no hp (identAt_no hp h1 h2))
      clear hno hno'
      by_cases h0:pos=0
      ·have ek:((pos:Int)==0)=true:=by subst h0;rfl
       go_wp2
       all_goals first|(exfalso;omega)|(go_ret;exact ⟨by rw [HN.out];rfl,HX.out⟩)|(exfalso;simp_all <;> omega)
      ·have ek:((pos:Int)==0)=false:=beq_eq_false_iff_ne.2 (by omega)
       go_wp2
       all_goals first|(exfalso;omega)|(go_ret;exact ⟨by rw [HN.out];rfl,HX.out⟩)|(exfalso;simp_all <;> omega)
   ·have hnext:∀ty,(Instr.next (.pointer (some ⟨w.heap.size,0,none⟩)) true ty).run Tryz.prog wr=_:=fun ty=>Lib.run_next_any_at wr w.heap.size s pos ty hk hp
    have hnx1:Ext w (wr.iterAt w.heap.size s (pos+(Utf8.decode s pos).2)):=Lib.below_iterAt hnx (by omega) s _;have hhi:=(decode_high s pos hp (by omega)).1;generalize wr.iterAt w.heap.size s (pos+(Utf8.decode s pos).2)=W1 at hnext hnx1;generalize (Utf8.decode s pos).1=rn at hnext hhi;have HX:=hid hnx1;have HN:=hid (identB_no hp (identAt_no hp (by omega) (by omega)));clear hnx hk hnx1 hno hno'
    by_cases h0:pos=0
    ·have ek:((pos:Int)==0)=true:=by subst h0;rfl
     go_wp2
     all_goals first|(exfalso;omega)|(go_ret;exact ⟨by rw [HN.out];rfl,HX.out⟩)|(exfalso;simp_all <;> omega)
    ·have ek:((pos:Int)==0)=false:=beq_eq_false_iff_ne.2 (by omega)
     go_wp2
     all_goals first|(exfalso;omega)|(go_ret;exact ⟨by rw [HN.out];rfl,HX.out⟩)|(exfalso;simp_all <;> omega)
  ·obtain rfl:pos=s.size:=by omega
   have hnext:∀ty,(Instr.next (.pointer (some ⟨w.heap.size,0,none⟩)) true ty).run Tryz.prog wr=_:=fun ty=>Lib.run_next_end_at wr w.heap.size s s.size ty hk hp;have HN:=hid (identB_yes hno);have HX:=hid hnx;clear hno hnx hk
   by_cases h1:1≤s.size
   ·by_cases h8:s.size≤8
    ·have HB:=hid (show identB s=true by rw [HN.out,decide_eq_true h1,decide_eq_true h8];rfl)
     go_wp2
     all_goals first|(exfalso;omega)|(go_ret;exact ⟨by rw [HB.out];rfl,HX.out⟩)|(go_ret;exact ⟨by rw [HB.out];simp <;> omega,HX.out⟩)|(exfalso;simp_all <;> omega)
    ·have HB:=hid (show identB s=false by rw [HN.out,decide_eq_false h8];simp)
     go_wp2
     all_goals first|(exfalso;omega)|(go_ret;exact ⟨by rw [HB.out];rfl,HX.out⟩)|(go_ret;exact ⟨by rw [HB.out];simp <;> omega,HX.out⟩)|(exfalso;simp_all <;> omega)
   ·have HB:=hid (show identB s=false by rw [HN.out,decide_eq_false h1];simp)
    go_wp2
    all_goals first|(exfalso;omega)|(go_ret;exact ⟨by rw [HB.out];rfl,HX.out⟩)|(go_ret;exact ⟨by rw [HB.out];simp <;> omega,HX.out⟩)|(exfalso;simp_all <;> omega)
def OwnG {α : Type} (cs : α→List Value) (lo:Nat) (e:TypeId) (sz:Nat) (w:World) (v:Value) (xs:List α):Prop:=w.ownsRow lo e sz v xs.length (xs.flatMap cs)
theorem flatMap_at {α : Type} {cs : α→List Value} {sz:Nat} (hc:∀x,(cs x).length=sz):∀{xs:List α} {i:Nat} {x : α},xs[i]?=some x→∀j,j<sz→(xs.flatMap cs)[i*sz+j]?=(cs x)[j]?
 | [],_,_,h,_,_=>by simp at h
 | y::r,0,x,h,j,hj=>by
  simp at h;subst h;rw [List.flatMap_cons,Nat.zero_mul,Nat.zero_add,List.getElem?_append_left (by rw [hc];exact hj)]
 | y::r,i+1,x,h,j,hj=>by
  rw [List.flatMap_cons,Nat.succ_mul,List.getElem?_append_right (by rw [hc];omega),hc,show i*sz+sz+j - sz=i*sz+j by omega];exact flatMap_at hc (by simpa using h) j hj
theorem flatMap_len {α : Type} {cs : α→List Value} {sz:Nat} (hc:∀x,(cs x).length=sz):∀xs:List α,(xs.flatMap cs).length=xs.length*sz
 | []=>by simp
 | y::r=>by rw [List.flatMap_cons,List.length_append,hc,flatMap_len hc r,List.length_cons,Nat.succ_mul];omega
theorem OwnG.nil {α : Type} (cs : α→List Value) (lo:Nat) (e:TypeId) (sz:Nat) (w:World):OwnG cs lo e sz w (.slice none 0 0) []:=World.ownsRow_nil _ _ _ _
theorem OwnG.lt {α : Type} {cs : α→List Value} {lo:Nat} {e:TypeId} {sz:Nat} {w:World} {v:Value} {xs:List α} (h:OwnG cs lo e sz w v xs):∀k,v.ownBlock=some k→lo≤k∧k<w.heap.size:=World.ownsRow.lt h
theorem OwnG.form {α : Type} {cs : α→List Value} {lo:Nat} {e:TypeId} {sz:Nat} {w:World} {v:Value} {xs:List α} (h:OwnG cs lo e sz w v xs):∃a cap,v = .slice a xs.length cap∧xs.length≤9223372036854775807:=by
 rcases h.2 with ⟨rfl,h4⟩|⟨g,cap,cur,rfl,hb,hg,hc,hm,hs,ht⟩
 ·exact ⟨none,0,by rw [h4],by omega⟩
 ·exact ⟨some ⟨g,0,none⟩,cap,rfl,by unfold maxLen at hm;omega⟩
theorem OwnG.of {α : Type} {cs : α→List Value} {lo:Nat} {e:TypeId} {sz:Nat} {w w':World} {v:Value} {xs:List α} (h:OwnG cs lo e sz w v xs) (s:∀b c,lo≤b→w.heap[b]?=some (.cells c e (0,0))→w'.heap[b]?=some (.cells c e (0,0))):OwnG cs lo e sz w' v xs:=by
 refine ⟨h.1,?_⟩
 rcases h.2 with hn|⟨g,cap,cur,hv,hb,hg,r⟩
 ·exact .inl hn
 ·exact .inr ⟨g,cap,cur,hv,hb,s g cur hb hg,r⟩
theorem OwnG.ext {α : Type} {cs : α→List Value} {lo:Nat} {e:TypeId} {sz:Nat} {w w':World} {v:Value} {xs:List α} (h:OwnG cs lo e sz w v xs) (x:Ext w w'):OwnG cs lo e sz w' v xs:=
 h.of fun b c _ hb=>(x.block (Array.getElem?_eq_some_iff.1 hb).1).trans hb
theorem OwnG.low {α : Type} {cs : α→List Value} {lo lo':Nat} {e:TypeId} {sz:Nat} {w:World} {v:Value} {xs:List α} (h:OwnG cs lo e sz w v xs) (hl:lo'≤lo):OwnG cs lo' e sz w v xs:=by
 refine ⟨h.1,?_⟩
 rcases h.2 with hn|⟨g,cap,cur,hv,hb,r⟩
 ·exact .inl hn
 ·exact .inr ⟨g,cap,cur,hv,by omega,r⟩
theorem OwnG.at {α : Type} {cs : α→List Value} {lo:Nat} {e:TypeId} {sz:Nat} {w:World} {v:Value} {xs:List α} (h:OwnG cs lo e sz w v xs) (hc:∀x,(cs x).length=sz) {i:Nat} {x : α} (hx:xs[i]?=some x) :
  ∃g cap,v = .slice (some ⟨g,0,none⟩) xs.length cap∧lo≤g∧g<w.heap.size∧xs.length≤cap∧cap≤9223372036854775807∧(∃c,w.heap[g]?=some (.cells c e (0,0)))∧∀j,j<sz→w.cell? ⟨g,i*sz+j,none⟩=(cs x)[j]?:=by
 have hi:=(List.getElem?_eq_some_iff.1 hx).1
 rcases h.2 with ⟨rfl,h4⟩|⟨g,cap,cur,rfl,hb,hg,hcap,hm,hs,ht⟩
 ·omega
 ·refine ⟨g,cap,rfl,hb,(Array.getElem?_eq_some_iff.1 hg).1,hcap,by unfold maxLen at hm;omega,⟨_,hg⟩,fun j hj=>?_⟩
  have e1:=flatMap_at hc hx j hj;rw [←ht,List.getElem?_take,if_pos (flat_lt hi hj)] at e1;rw [←e1];simp only [World.cell?,hg];simp
structure KN (lo B:Nat) (e:TypeId) (w w':World):Prop where
 os:w'.os=w.os
 tape:w'.tape=w.tape
 output:w'.output=w.output
 size:w.heap.size≤w'.heap.size
 block:∀b,b<w.heap.size→(b<lo∨(b≠B∧∀c,w.heap[b]?≠some (.cells c e (0,0))))→w'.heap[b]?=w.heap[b]?
theorem KN.refl (lo B:Nat) (e:TypeId) (w:World):KN lo B e w w:=⟨rfl,rfl,rfl,Nat.le_refl _,fun _ _ _=>rfl⟩
theorem KN.trans {lo B:Nat} {e:TypeId} {w w1 w2:World} (h:KN lo B e w w1) (k:KN lo B e w1 w2):KN lo B e w w2:=
 ⟨k.os.trans h.os,k.tape.trans h.tape,k.output.trans h.output,Nat.le_trans h.size k.size,fun b hb hn=>by
  have e1:=h.block b hb hn
  exact (k.block b (Nat.lt_of_lt_of_le hb h.size) (by rw [e1];exact hn)).trans e1⟩
theorem Ext.kn {w w':World} (h:Ext w w') (lo B:Nat) (e:TypeId):KN lo B e w w':=⟨h.os,h.tape,h.output,h.size,fun b hb _=>h.block hb⟩
theorem KN.ext {lo B:Nat} {e:TypeId} {w w1 w2:World} (h:KN lo B e w w1) (k:Ext w1 w2):KN lo B e w w2:=h.trans (k.kn lo B e)
theorem KN.set {lo B:Nat} {e:TypeId} {w w1:World} (h:KN lo B e w w1) (hl:lo≤B) (i:Nat) (u:Value):KN lo B e w (w1.setCell ⟨B,i,none⟩ u):=
 h.trans ⟨rfl,rfl,rfl,by rw [World.size_setCell];exact Nat.le_refl _,fun b _ hn=>Below.heap_setCell _ _ _ _ (by simp only;rcases hn with hn|hn <;> omega)⟩
theorem KN.grown {lo B:Nat} {e:TypeId} {w w1 w2:World} {row:Option Nat} (h:KN lo B e w w1) (hg:w1.grownBy w2 row) (hr:∀k,row=some k→lo≤k∧∃c,w1.heap[k]?=some (.cells c e (0,0))):KN lo B e w w2:=
 h.trans ⟨hg.os,hg.tape,hg.output,hg.size,fun b hb hn=>hg.block b hb (fun e1=>by
  obtain ⟨h1,c,h2⟩:=hr b e1.symm
  rcases hn with hn|hn
  ·omega
  ·exact hn.2 c h2)⟩
theorem KN.up {lo B:Nat} {e:TypeId} {w0 w w1:World} (h:KN lo B e w w1) (x:Ext w0 w) (hl:w0.heap.size≤lo):Ext w0 w1:=by
 refine Ext.trans (Ext.refl w0) ?_;refine (Ext.refl w0).grown (row:=none) ⟨h.os.trans x.os,h.tape.trans x.tape,h.output.trans x.output,Nat.le_trans x.size h.size,fun b hb _=>?_⟩ (fun k hk=>by cases hk);exact (h.block b (Nat.lt_of_lt_of_le hb x.size) (.inl (by omega))).trans (x.block hb)
theorem KN.row {lo B:Nat} {e e':TypeId} {α : Type} {cs : α→List Value} {sz lo':Nat} {w w':World} {v:Value} {xs:List α} (h:OwnG cs lo' e' sz w v xs) (k:KN lo B e w w') (hB:∀c,w.heap[B]?≠some (.cells c e' (0,0))) (he:e'≠e):OwnG cs lo' e' sz w' v xs:=
 h.of fun b c _ hb=>(k.block b (Array.getElem?_eq_some_iff.1 hb).1 (.inr ⟨fun e1=>hB c (e1▸hb),fun c' h'=>by rw [hb] at h';simp only [Option.some.injEq,Obj.cells.injEq] at h';exact he h'.2.1⟩)).trans hb
theorem KN.ints {lo B:Nat} {e:TypeId} {lo':Nat} {w w':World} {v:Value} {xs:List Int} (h:OwnInts lo' w v xs) (k:KN lo B e w w') (hB:∀c,w.heap[B]?≠some (.cells c 3 (0,0))) (he:3≠e):OwnInts lo' w' v xs:=by
 obtain ⟨⟨h1,h2⟩,h3⟩:=h;refine ⟨⟨h1,?_⟩,h3⟩
 rcases h2 with hn|⟨g,cap,cur,hv,hb,hg,r⟩
 ·exact .inl hn
 ·refine .inr ⟨g,cap,cur,hv,hb,?_,r⟩
  exact (k.block g (Array.getElem?_eq_some_iff.1 hg).1 (.inr ⟨fun e1=>hB cur (e1▸hg),fun c' h'=>by rw [hg] at h';simp only [Option.some.injEq,Obj.cells.injEq] at h';exact he h'.2.1⟩)).trans hg
theorem KN.blk {lo B:Nat} {e:TypeId} {w w':World} {g:Nat} {t:TypeId} {cs:List Value} (h:Blk w g t cs) (k:KN lo B e w w') (hg:g≠B) (ht:t≠e):Blk w' g t cs:=
 h.of (k.block g h.lt (.inr ⟨hg,fun c' h'=>by unfold Blk at h;rw [h] at h';simp only [Option.some.injEq,Obj.cells.injEq] at h';exact ht h'.2.1⟩))
structure Tok where
 kind:Int
 text:ByteArray
 num:Int
 off:Int
def Tok.cs (t:Tok):List Value:=[.int .i64 t.kind,.string t.text,.int .i64 t.num,.int .i64 t.off]
def ndCs (p:Nd×Value):List Value:=[.int .i64 p.1.op,.string p.1.name,.int .i64 p.1.num,p.2]
def Asg.cs (a:Asg):List Value:=[.string a.name,.int .i64 a.root]
def OwnToks (lo:Nat) (w:World) (v:Value) (xs:List Tok):Prop:=OwnG Tok.cs lo 336 4 w v xs
def OwnAsgs (lo:Nat) (w:World) (v:Value) (xs:List Asg):Prop:=OwnG Asg.cs lo 194 2 w v xs
def OwnNds (lo:Nat) (X:Nat→Prop) (w:World) (v:Value) (xs:List Nd):Prop:=∃ps:List (Nd×Value),ps.map (·.1)=xs∧OwnG ndCs lo 243 4 w v ps∧∀p∈ps,OwnInts lo w p.2 p.1.args∧∀k,p.2.ownBlock=some k→¬X k
theorem wpList_append_elt {α : Type} (cs : α→List Value) (e:TypeId) (sz bytes:Nat) (z:Value) (w:World) {ops:Array Oper} {rest:List Oper} {o:Oper} {a:Act} {Q:Exit→Act→World→Prop} (hg:o.guard=none) (s x:Operand) (t:TypeId)
  (hop:o.op=Op.call { callee:=Callee.builtin Builtin.append,args:=#[s,x],argTypes:=#[t,t] }) (ht:Tryz.prog.underlying t=some (.slice e))
  (hinfo:(Tryz.prog.info? e).map (fun i=>(i.zero,i.size,i.bytes))=some (some z,sz,bytes)) (hzs:z.cells.size=sz) (hsz:0<sz) (hby:bytes≤1000) (hc:∀x,(cs x).length=sz)
  (lo:Nat) (v:Value) (xs:List α) (hs:a.eval s=v) (hown:OwnG cs lo e sz w v xs)
  (y : α) (b:Nat) (hx:a.eval x = .slice (some ⟨b,0,none⟩) 1 1) (hcell:∀j,j<sz→w.cell? ⟨b,j,none⟩=(cs y)[j]?) (h1:∀u∈cs y,u.oneCell'=true) (hlen:xs.length<1000000) (hlo:lo≤w.heap.size)
  (hK:∀v' w',OwnG cs lo e sz w' v' (xs++[y])→w.grownBy w' v.ownBlock→wpList Tryz.prog ops Q rest (a.put o.dst v') w'):wpList Tryz.prog ops Q (o::rest) a w:=by
 obtain ⟨i0,hi0,hz0,hz1,hz2⟩:=info_parts hinfo;refine wpList_append_own w hg s x t hop lo e i0 z sz bytes ht hi0 hz0 hz1 hz2 hzs hsz v xs.length _ hs hown ⟨b,0,none⟩ 1 1 (cs y) hx (by rw [hc,Nat.one_mul]) ?_ h1 ?_ ?_ hlo ?_
 ·intro j u hj
  have hjl:j<sz:=by rw [←hc y];exact (List.getElem?_eq_some_iff.1 hj).1
  have ea:(⟨b,0,none⟩:Addr).add j=⟨b,j,none⟩:=by
   unfold Addr.add
   split <;> simp_all
  rw [ea,hcell j hjl,hj]
 ·unfold maxLen;omega
 ·have:(xs.length+1)*bytes≤1000000*1000:=Nat.mul_le_mul (by omega) hby
  omega
 ·intro v' w1 hown' hgrow _
  refine hK v' w1 ?_ hgrow;unfold OwnG;rw [List.length_append,List.flatMap_append]
  simpa using hown'
theorem OwnNds.nil (lo:Nat) (X:Nat→Prop) (w:World):OwnNds lo X w (.slice none 0 0) []:=⟨[],rfl,OwnG.nil _ _ _ _ _,fun p h=>by cases h⟩
theorem OwnNds.form {lo:Nat} {X:Nat→Prop} {w:World} {v:Value} {xs:List Nd} (h:OwnNds lo X w v xs):∃a cap,v = .slice a xs.length cap∧xs.length≤9223372036854775807:=by
 obtain ⟨ps,rfl,h1,_⟩:=h;rw [List.length_map];exact h1.form
theorem OwnNds.ext {lo:Nat} {X:Nat→Prop} {w w':World} {v:Value} {xs:List Nd} (h:OwnNds lo X w v xs) (x:Ext w w'):OwnNds lo X w' v xs:=by
 obtain ⟨ps,h0,h1,h2⟩:=h;exact ⟨ps,h0,h1.ext x,fun p hp=>⟨(h2 p hp).1.ext x,(h2 p hp).2⟩⟩
theorem OwnNds.row {lo:Nat} {X:Nat→Prop} {w:World} {v:Value} {xs:List Nd} (h:OwnNds lo X w v xs):∀k,v.ownBlock=some k→lo≤k∧∃c,w.heap[k]?=some (.cells c 243 (0,0)):=by
 obtain ⟨ps,h0,h1,h2⟩:=h;intro k hk
 rcases h1.2 with ⟨rfl,h4⟩|⟨g,cap,cur,rfl,hb,hg,hc,hm,hs,ht⟩
 ·cases hk
 ·simp only [Value.ownBlock,Option.some.injEq] at hk
  subst hk;exact ⟨hb,cur,hg⟩
theorem OwnNds.set {lo B:Nat} {X:Nat→Prop} {w:World} {v:Value} {xs:List Nd} {T:TypeId} {cs:List Value} (h:OwnNds lo X w v xs) (hB:Blk w B T cs) (h1:T≠243) (h2:T≠3) (i:Nat) (u:Value):OwnNds lo X (w.setCell ⟨B,i,none⟩ u) v xs:=by
 obtain ⟨ps,h0,h3,h4⟩:=h;refine ⟨ps,h0,h3.of fun b c _ hb=>?_,fun p hp=>⟨(h4 p hp).1.setOther ?_ u,(h4 p hp).2⟩⟩
 ·refine (Below.heap_setCell _ _ _ _ ?_).trans hb
  intro e;simp only at e;subst e;unfold Blk at hB;rw [hB] at hb;simp only [Option.some.injEq,Obj.cells.injEq] at hb;exact h1 hb.2.1
 ·intro e
  obtain ⟨cur,hc⟩:=(h4 p hp).1.block e;unfold Blk at hB;simp only at hc;rw [hB] at hc;simp only [Option.some.injEq,Obj.cells.injEq] at hc;exact h2 hc.2.1
theorem OwnG.set {α : Type} {cs : α→List Value} {lo:Nat} {e:TypeId} {sz:Nat} {w:World} {v:Value} {xs:List α} {B:Nat} {T:TypeId} {us:List Value} (h:OwnG cs lo e sz w v xs) (hB:Blk w B T us) (h1:T≠e) (i:Nat) (u:Value):OwnG cs lo e sz (w.setCell ⟨B,i,none⟩ u) v xs:=by
 refine h.of fun b c _ hb=>(Below.heap_setCell _ _ _ _ ?_).trans hb;intro e;simp only at e;subst e;unfold Blk at hB;rw [hB] at hb;simp only [Option.some.injEq,Obj.cells.injEq] at hb;exact h1 hb.2.1
theorem OwnNds.other {lo:Nat} {X Y:Nat→Prop} {w:World} {v:Value} {xs:List Nd} (h:OwnNds lo X w v xs) (hx:∀k,k<w.heap.size→¬X k→¬Y k):OwnNds lo Y w v xs:=by
 obtain ⟨ps,h0,h1,h2⟩:=h;exact ⟨ps,h0,h1,fun p hp=>⟨(h2 p hp).1,fun k hk=>hx k ((h2 p hp).1.lt k hk).2 ((h2 p hp).2 k hk)⟩⟩
end Go.Proofs.YtfjbiifebcfjfaaGreat
