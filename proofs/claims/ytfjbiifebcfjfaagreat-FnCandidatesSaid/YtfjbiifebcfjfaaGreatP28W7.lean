/- Texts of this claim, one behind another; what its theorem does not use is left out: Sc5, Ge14, Ge15, Ge16, Cn1, Cn2, Cn3, Cn4, Cn5, Cn6, Fr1, Cn7, Cn8, Cn9, L05a, Sc4, TrS, Dr1, Dw1. -/
import Derived.Test.YtfjbiifebcfjfaaGreatP28W5
import Derived.Test.YtfjbiifebcfjfaaGreatP28W2
import Derived.Test.YtfjbiifebcfjfaaGreatP28W6
import Derived.Lib.MinMax
import Derived.Test.YtfjbiifebcfjfaaGreatP28W3
import Derived.Test.YtfjbiifebcfjfaaGreatP28W1
set_option linter.unusedSimpArgs false
set_option linter.unusedVariables false
set_option maxRecDepth 100000
set_option maxHeartbeats 12800000
namespace Go.Proofs.YtfjbiifebcfjfaaGreat
open Go.RowKit
def max3 (a b:Int):Int:=if a<b then b else a
theorem le_max3 (a b:Int):a<=max3 a b/\b<=max3 a b:=by unfold max3;split <;> omega
theorem max3_le {a b m:Int} (ha:a<=m) (hb:b<=m):max3 a b<=m:=by unfold max3;split <;> assumption
theorem bary_x (a b c s:V3):side2 b c s*a.x+side2 c a s*b.x+side2 a b s*c.x=side2 a b c*s.x:=by unfold side2;grind
theorem bary_y (a b c s:V3):side2 b c s*a.y+side2 c a s*b.y+side2 a b s*c.y=side2 a b c*s.y:=by unfold side2;grind
theorem covB_sign {a b c s:V3} (h:covB a b c s=true) :
  (0<side2 a b c/\0<=side2 b c s/\0<=side2 c a s/\0<=side2 a b s)\/(side2 a b c<0/\side2 b c s<=0/\side2 c a s<=0/\side2 a b s<=0):=by
 unfold covB at h
 split at h
 ·cases h
 split at h
 ·simp only [Bool.and_eq_true] at h
  have p1:=leftB_ge h.1.1;have p2:=leftB_ge h.1.2;have p3:=leftB_ge h.2;rw [side2_swap] at p1 p2 p3;exact .inr ⟨by omega,by omega,by omega,by omega⟩
 ·simp only [Bool.and_eq_true] at h
  have p1:=leftB_ge h.1.1;have p2:=leftB_ge h.1.2;have p3:=leftB_ge h.2;exact .inl ⟨by omega,by omega,by omega,by omega⟩
theorem bary_lo {p q r A x y z t m:Int} (hs:p+q+r=A) (hb:p*x+q*y+r*z=A*t) (h:(0<A/\0<=p/\0<=q/\0<=r)\/(A<0/\p<=0/\q<=0/\r<=0)) (hx:m<=x) (hy:m<=y) (hz:m<=z):m<=t:=by
 rcases h with ⟨a,b,c,d⟩|⟨a,b,c,d⟩
 ·have e1:=Int.mul_le_mul_of_nonneg_left hx b
  have e2:=Int.mul_le_mul_of_nonneg_left hy c;have e3:=Int.mul_le_mul_of_nonneg_left hz d
  have e4:A*m=p*m+q*m+r*m:=by rw [<-hs,Int.add_mul,Int.add_mul]
  exact Int.le_of_mul_le_mul_left (show A*m<=A*t by omega) a
 ·have e1:=Int.mul_le_mul_of_nonneg_left hx (show 0<=-p by omega)
  have e2:=Int.mul_le_mul_of_nonneg_left hy (show 0<=-q by omega);have e3:=Int.mul_le_mul_of_nonneg_left hz (show 0<=-r by omega)
  have e4:A*m=p*m+q*m+r*m:=by rw [<-hs,Int.add_mul,Int.add_mul]
  rw [Int.neg_mul,Int.neg_mul] at e1 e2 e3;refine Int.le_of_mul_le_mul_left (show (-A)*m<=(-A)*t from ?_) (by omega);rw [Int.neg_mul,Int.neg_mul];omega
theorem bary_hi {p q r A x y z t m:Int} (hs:p+q+r=A) (hb:p*x+q*y+r*z=A*t) (h:(0<A/\0<=p/\0<=q/\0<=r)\/(A<0/\p<=0/\q<=0/\r<=0)) (hx:x<=m) (hy:y<=m) (hz:z<=m):t<=m:=by
 have e:p * -x+q * -y+r * -z=A * -t:=by rw [Int.mul_neg,Int.mul_neg,Int.mul_neg,Int.mul_neg];omega
 have:=bary_lo (m:=-m) hs e h (by omega) (by omega) (by omega);omega
theorem cov_x {a b c s:V3} (h:covB a b c s=true) {lo hi:Int} (ha:lo<=a.x/\a.x<=hi) (hb:lo<=b.x/\b.x<=hi) (hc:lo<=c.x/\c.x<=hi):lo<=s.x/\s.x<=hi:=
 ⟨bary_lo (side2_sum a b c s) (bary_x a b c s) (covB_sign h) ha.1 hb.1 hc.1,bary_hi (side2_sum a b c s) (bary_x a b c s) (covB_sign h) ha.2 hb.2 hc.2⟩
theorem cov_y {a b c s:V3} (h:covB a b c s=true) {lo hi:Int} (ha:lo<=a.y/\a.y<=hi) (hb:lo<=b.y/\b.y<=hi) (hc:lo<=c.y/\c.y<=hi):lo<=s.y/\s.y<=hi:=
 ⟨bary_lo (side2_sum a b c s) (bary_y a b c s) (covB_sign h) ha.1 hb.1 hc.1,bary_hi (side2_sum a b c s) (bary_y a b c s) (covB_sign h) ha.2 hb.2 hc.2⟩
def Cam.spread (c:Cam) (zlo zhi:Int):Int:=16*c.lens*max3 (absI (zlo - c.focus)) (absI (zhi - c.focus)) / 4096+1
def Cam.axLo (c:Cam) (lo zlo zhi half:Int):Int:=sc (min3 (fdiv ((lo - c.spread zlo zhi)*c.zoom) (c.by zlo)) (fdiv ((lo - c.spread zlo zhi)*c.zoom) (c.by zhi))+half)
def Cam.axHi (c:Cam) (hi zlo zhi half:Int):Int:=sc (max3 (fdiv ((hi+c.spread zlo zhi)*c.zoom) (c.by zlo)) (fdiv ((hi+c.spread zlo zhi)*c.zoom) (c.by zhi))+half)
theorem sc_mono {x y:Int} (h:x<=y):sc x<=sc y:=by
 unfold sc clampI
 split <;> split <;> first|omega|(split <;> first|omega|(split <;> omega))
theorem fdiv_mono {a b d:Int} (h:a<=b):fdiv a d<=fdiv b d:=by
 unfold fdiv
 split
 ·exact Int.le_refl _
 ·exact Int.ediv_le_ediv (by omega) h
theorem fdiv_ge_min {a z z0 z1:Int} (h0:1<=z0) (h1:z0<=z) (h2:z<=z1):min3 (fdiv a z0) (fdiv a z1)<=fdiv a z:=by
 have m:=min3_le (fdiv a z0) (fdiv a z1)
 by_cases ha:0<=a
 ·refine Int.le_trans m.2 (fdiv_lo (by omega) ?_)
  unfold fdiv;rw [if_neg (by omega)];have q:=Int.ediv_nonneg ha (show 0<=z1 by omega);exact Int.le_trans (Int.mul_le_mul_of_nonneg_left h2 q) (Int.ediv_mul_le _ (by omega))
 ·refine Int.le_trans m.1 (fdiv_lo (by omega) ?_)
  unfold fdiv;rw [if_neg (by omega)];have q:a / z0<0:=Int.ediv_neg_of_neg_of_pos (by omega) (by omega);have r:=Int.mul_le_mul_of_nonpos_left (a:=a / z0) (by omega) h1;exact Int.le_trans r (Int.ediv_mul_le _ (by omega))
theorem fdiv_le_max {a z z0 z1:Int} (h0:1<=z0) (h1:z0<=z) (h2:z<=z1):fdiv a z<=max3 (fdiv a z0) (fdiv a z1):=by
 have m:=le_max3 (fdiv a z0) (fdiv a z1)
 have e:fdiv a z=a / z:=by unfold fdiv;rw [if_neg (by omega)]
 rw [e];have k:=Int.ediv_mul_le a (b:=z) (by omega)
 by_cases ha:0<=a
 ·refine Int.le_trans (fdiv_lo (s:=a) (d:=z0) h0 ?_) m.1
  have q:=Int.ediv_nonneg ha (show 0<=z by omega);exact Int.le_trans (Int.mul_le_mul_of_nonneg_left h1 q) k
 ·refine Int.le_trans (fdiv_lo (s:=a) (d:=z1) (by omega) ?_) m.2
  have q:a / z<0:=Int.ediv_neg_of_neg_of_pos (by omega) (by omega);have r:=Int.mul_le_mul_of_nonpos_left (a:=a / z) (by omega) h2;exact Int.le_trans r k
theorem by_pos {c:Cam} {z:Int} (h:1<=z):1<=c.by z:=by unfold Cam.by;split <;> omega
theorem by_mono {c:Cam} {x y:Int} (h:x<=y):c.by x<=c.by y:=by unfold Cam.by;split <;> omega
theorem absI_bd (x:Int) : -(absI x)<=x/\x<=absI x:=by unfold absI;split <;> omega
theorem lens_bd {c:Cam} (hc:c.Ok) {z zlo zhi l:Int} (h1:zlo<=z) (h2:z<=zhi) (hl : -16<=l/\l<=16) :
  -(c.spread zlo zhi)<=fdiv (l*c.lens*(z - c.focus)) 4096/\fdiv (l*c.lens*(z - c.focus)) 4096<=c.spread zlo zhi:=by
 have b1:=absI_bd (zlo - c.focus);have b2:=absI_bd (zhi - c.focus);have b3:=le_max3 (absI (zlo - c.focus)) (absI (zhi - c.focus));have hL:=mul_abs (A:=16) (B:=c.lens) (a:=l) (b:=c.lens) (by omega) (by have:=hc.lens;omega);have hN:=mul_abs (A:=16*c.lens) (B:=max3 (absI (zlo - c.focus)) (absI (zhi - c.focus))) (a:=l*c.lens) (b:=z - c.focus) hL (by omega);unfold Cam.spread fdiv;rw [if_neg (by decide)];generalize l*c.lens*(z - c.focus)=N at hN ⊢;generalize 16*c.lens*max3 (absI (zlo - c.focus)) (absI (zhi - c.focus))=P at hN ⊢;omega
theorem pj_in {c:Cam} (hc:c.Ok) {x z l half lo hi zlo zhi:Int} (h0:1<=zlo) (h1:zlo<=z) (h2:z<=zhi) (hl : -16<=l/\l<=16) (hx:lo<=x/\x<=hi) :
  c.axLo lo zlo zhi half<=c.pj x z l half/\c.pj x z l half<=c.axHi hi zlo zhi half:=by
 have d:=lens_bd hc h1 h2 hl;have hz:=hc.zoom;unfold Cam.axLo Cam.axHi Cam.pj;generalize fdiv (l*c.lens*(z - c.focus)) 4096=D at d ⊢
 constructor
 ·refine sc_mono (Int.add_le_add_right (Int.le_trans (fdiv_ge_min (by_pos h0) (by_mono h1) (by_mono h2)) (fdiv_mono ?_)) _)
  exact Int.mul_le_mul_of_nonneg_right (by omega) (by omega)
 ·refine sc_mono (Int.add_le_add_right (Int.le_trans (fdiv_mono ?_) (fdiv_le_max (by_pos h0) (by_mono h1) (by_mono h2))) _)
  exact Int.mul_le_mul_of_nonneg_right (by omega) (by omega)
def loP (f:Nat->Int) (i:Nat):Int:=min3 (min3 (min3 (cl (f i)) (cl (f (i+3)))) (cl (f (i+6)))) (cl (f (i+9)))
def hiP (f:Nat->Int) (i:Nat):Int:=max3 (max3 (max3 (cl (f i)) (cl (f (i+3)))) (cl (f (i+6)))) (cl (f (i+9)))
def loS (f g:Nat->Int) (i:Nat):Int:=min3 (loP f i) (loP g i)
def hiS (f g:Nat->Int) (i:Nat):Int:=max3 (hiP f i) (hiP g i)
theorem loP_le (f:Nat->Int) (i:Nat):loP f i<=cl (f i)/\loP f i<=cl (f (i+3))/\loP f i<=cl (f (i+6))/\loP f i<=cl (f (i+9)):=by
 unfold loP;have h1:=min3_le (min3 (min3 (cl (f i)) (cl (f (i+3)))) (cl (f (i+6)))) (cl (f (i+9)));have h2:=min3_le (min3 (cl (f i)) (cl (f (i+3)))) (cl (f (i+6)));have h3:=min3_le (cl (f i)) (cl (f (i+3)));omega
theorem hiP_ge (f:Nat->Int) (i:Nat):cl (f i)<=hiP f i/\cl (f (i+3))<=hiP f i/\cl (f (i+6))<=hiP f i/\cl (f (i+9))<=hiP f i:=by
 unfold hiP;have h1:=le_max3 (max3 (max3 (cl (f i)) (cl (f (i+3)))) (cl (f (i+6)))) (cl (f (i+9)));have h2:=le_max3 (max3 (cl (f i)) (cl (f (i+3)))) (cl (f (i+6)));have h3:=le_max3 (cl (f i)) (cl (f (i+3)));omega
theorem mid_in {f g:Nat->Int} {t:Int} (ht:0<=t/\t<=16) {i:Nat} (hi:i<3) {j:Nat} (hj:j=i\/j=i+3\/j=i+6\/j=i+9):loS f g i<=cl (midP f g t j)/\cl (midP f g t j)<=hiS f g i:=by
 have a1:=loP_le f i;have a2:=loP_le g i;have a3:=min3_le (loP f i) (loP g i);have b1:=hiP_ge f i;have b2:=hiP_ge g i;have b3:=le_max3 (hiP f i) (hiP g i);have k:=midP_bd f g ht j;rw [cl_fixed k]
 have hf:loS f g i<=cl (f j)/\cl (f j)<=hiS f g i/\loS f g i<=cl (g j)/\cl (g j)<=hiS f g i:=by
  unfold loS hiS
  rcases hj with rfl|rfl|rfl|rfl <;> omega
 exact ⟨lerpC_lo (by decide) ht hf.1 hf.2.2.1,lerpC_hi (by decide) ht hf.2.1 hf.2.2.2⟩
theorem evP_in {f g:Nat->Int} {t:Int} (ht:0<=t/\t<=16) {n u v:Nat} (hn:1<=n) (hu:u<=n) (hv:v<=n) :
  (loS f g 0<=(evP (midP f g t) u v n).x/\(evP (midP f g t) u v n).x<=hiS f g 0)/\(loS f g 1<=(evP (midP f g t) u v n).y/\(evP (midP f g t) u v n).y<=hiS f g 1)/\(loS f g 2<=(evP (midP f g t) u v n).z/\(evP (midP f g t) u v n).z<=hiS f g 2):=by
 have m:∀i j,i<3->(j=i\/j=i+3\/j=i+6\/j=i+9)->loS f g i<=cl (midP f g t j)/\cl (midP f g t j)<=hiS f g i:=fun i j hi hj=>mid_in ht hi hj;refine ⟨⟨?_,?_⟩,⟨?_,?_⟩,⟨?_,?_⟩⟩
 ·exact evC_lo (by omega) (by omega) (by omega) (m 0 _ (by decide) (by decide)).1 (m 0 _ (by decide) (by decide)).1 (m 0 _ (by decide) (by decide)).1 (m 0 _ (by decide) (by decide)).1
 ·exact evC_hi (by omega) (by omega) (by omega) (m 0 _ (by decide) (by decide)).2 (m 0 _ (by decide) (by decide)).2 (m 0 _ (by decide) (by decide)).2 (m 0 _ (by decide) (by decide)).2
 ·exact evC_lo (by omega) (by omega) (by omega) (m 1 _ (by decide) (by decide)).1 (m 1 _ (by decide) (by decide)).1 (m 1 _ (by decide) (by decide)).1 (m 1 _ (by decide) (by decide)).1
 ·exact evC_hi (by omega) (by omega) (by omega) (m 1 _ (by decide) (by decide)).2 (m 1 _ (by decide) (by decide)).2 (m 1 _ (by decide) (by decide)).2 (m 1 _ (by decide) (by decide)).2
 ·exact evC_lo (by omega) (by omega) (by omega) (m 2 _ (by decide) (by decide)).1 (m 2 _ (by decide) (by decide)).1 (m 2 _ (by decide) (by decide)).1 (m 2 _ (by decide) (by decide)).1
 ·exact evC_hi (by omega) (by omega) (by omega) (m 2 _ (by decide) (by decide)).2 (m 2 _ (by decide) (by decide)).2 (m 2 _ (by decide) (by decide)).2 (m 2 _ (by decide) (by decide)).2
structure Win where
 (x0 x1 y0 y1:Int)
def seesB (c:Cam) (f g:Nat->Int) (v:Win):Bool:=
 let zlo:=max3 (loS f g 2) c.near
 let zhi:=hiS f g 2
 decide (zlo<=zhi)&&decide (max3 (c.axLo (loS f g 0) zlo zhi (c.w*8)) v.x0<=min3 (c.axHi (hiS f g 0) zlo zhi (c.w*8)) v.x1) &&
  decide (max3 (c.axLo (loS f g 1) zlo zhi (c.h*8)) v.y0<=min3 (c.axHi (hiS f g 1) zlo zhi (c.h*8)) v.y1)
theorem le_min3' {a b c d:Int} (h1:a<=c) (h2:a<=d) (h3:b<=c) (h4:b<=d):max3 a b<=min3 c d:=by
 unfold max3 min3
 split <;> split <;> assumption
theorem seesB_of_hits {c:Cam} (hc:c.Ok) {f g:Nat->Int} {n:Nat} (hn:1<=n) {s:Smp} (ht:0<=s.t/\s.t<=16) {k:Int} {cols als:List Int} {q:Nat} (hq:q<=n*n) (hne:hitsTo c (midP f g s.t) n s k cols als q≠[])
  (v:Win) (hvx:v.x0<=s.x/\s.x<=v.x1) (hvy:v.y0<=s.y/\s.y<=v.y1):seesB c f g v=true:=by
 obtain ⟨r,hr⟩:=List.exists_mem_of_ne_nil _ hne;unfold hitsTo at hr;rw [List.mem_flatMap] at hr;obtain ⟨i,hi,hr⟩:=hr;rw [List.mem_range] at hi;have hu:i % n<n:=Nat.mod_lt _ (by omega);have hv:i / n<n:=Nat.div_lt_of_lt_mul (by omega);generalize i % n=u at hu hr;generalize i / n=w at hv hr;unfold cellH at hr
 split at hr
 ·rename_i hd
  unfold diceB at hd;simp only [Bool.and_eq_true] at hd;obtain ⟨⟨⟨d1,d2⟩,d3⟩,d4⟩:=hd
  have key:∀a b,a<=n->b<=n->cornB c (midP f g s.t) n s a b=true ->
    (c.axLo (loS f g 0) (max3 (loS f g 2) c.near) (hiS f g 2) (c.w*8)<=(corn c (midP f g s.t) n s a b).x/\(corn c (midP f g s.t) n s a b).x<=c.axHi (hiS f g 0) (max3 (loS f g 2) c.near) (hiS f g 2) (c.w*8)) /\
    (c.axLo (loS f g 1) (max3 (loS f g 2) c.near) (hiS f g 2) (c.h*8)<=(corn c (midP f g s.t) n s a b).y/\(corn c (midP f g s.t) n s a b).y<=c.axHi (hiS f g 1) (max3 (loS f g 2) c.near) (hiS f g 2) (c.h*8)) /\
    max3 (loS f g 2) c.near<=hiS f g 2:=by
   intro a b ha hb hk;unfold cornB Cam.prB at hk;simp only [Bool.and_eq_true,inB_iff,decide_eq_true_eq] at hk;obtain ⟨⟨⟨⟨_,_⟩,hlx⟩,hly⟩,hz⟩:=hk;obtain ⟨ex,ey,ez⟩:=evP_in (f:=f) (g:=g) ht hn ha hb;have m1:=max3_le ez.1 hz
   have n1:1<=max3 (loS f g 2) c.near:=by have:=(le_max3 (loS f g 2) c.near).2;have:=hc.near;omega
   exact ⟨pj_in hc n1 m1 ez.2 hlx ex,pj_in hc n1 m1 ez.2 hly ey,Int.le_trans m1 ez.2⟩
  have k1:=key u w (by omega) (by omega) d1;have k2:=key (u+1) w (by omega) (by omega) d2;have k3:=key u (w+1) (by omega) (by omega) d3;have k4:=key (u+1) (w+1) (by omega) (by omega) d4
  have fin:∀a b d:V3,covB a b d s.at=true ->
    ((c.axLo (loS f g 0) (max3 (loS f g 2) c.near) (hiS f g 2) (c.w*8)<=s.x/\s.x<=c.axHi (hiS f g 0) (max3 (loS f g 2) c.near) (hiS f g 2) (c.w*8)) /\
    (c.axLo (loS f g 1) (max3 (loS f g 2) c.near) (hiS f g 2) (c.h*8)<=s.y/\s.y<=c.axHi (hiS f g 1) (max3 (loS f g 2) c.near) (hiS f g 2) (c.h*8)))->seesB c f g v=true:=by
   intro a b d _ hh;unfold seesB;simp only [Bool.and_eq_true,decide_eq_true_eq];exact ⟨⟨k1.2.2,le_min3' (by omega) (by omega) (by omega) (by omega)⟩,le_min3' (by omega) (by omega) (by omega) (by omega)⟩
  rw [List.mem_append] at hr;unfold hitC at hr
  rcases hr with hr|hr
  ·split at hr
   ·rename_i hcv
    exact fin _ _ _ hcv ⟨cov_x hcv k1.1 k2.1 k3.1,cov_y hcv k1.2.1 k2.2.1 k3.2.1⟩
   ·cases hr
  ·split at hr
   ·rename_i hcv
    exact fin _ _ _ hcv ⟨cov_x hcv k2.1 k4.1 k3.1,cov_y hcv k2.2.1 k4.2.1 k3.2.1⟩
   ·cases hr
 ·cases hr
theorem fnMin_val {m n c:Int} (h:min3 m n=c) (w:World):Calls Tryz.prog 207 #[m,n] w fun e w'=>e = .returned (.int .i64 c)/\w=w':=by
 have H:=hid h;clear h;go_enter Tryz.func207,Tryz.ntmps207;go_wp2
 all_goals go_ret
 all_goals
  refine ⟨?_,rfl⟩;rw [<-H.out];unfold min3;refine ret_int ?_
  split <;> omega
theorem withMin_val {x y z k l m a b c:Int} (ha:min3 x k=a) (hb:min3 y l=b) (hc:min3 z m=c) (w:World) :
  Calls Tryz.prog 171 #[.agg #[x,y,z],.agg #[k,l,m],.func (.func 207) #[] #[]] w fun e w'=>e = .returned (.agg #[a,b,c])/\Ext w w':=by
 have HA:=hid ha;have HB:=hid hb;have HC:=hid hc;clear ha hb hc;go_enter Tryz.func171,Tryz.ntmps171;go_wp2;refine wp_region_stages [([0,1,2,3,4,6,7,8,9,10,12,13,14,15,16],5),([],11),([],17),([18],19)] 19 (w.heap.size+1+1+1) (by kernel_rfl) (by kernel_rfl) ?_;refine wpStages_cons ?_;simp only [List.filterMap_cons,List.filterMap_nil,List.getElem?_toArray,List.getElem?_cons_zero,List.getElem?_cons_succ]
 show wpQuiet _ _ _ _ [_,_,_,_,_,_,_,_,_,_,_,_,_,_,_] _
 repeat (go_big_quiet_step (fail))
 refine wpQuiet_nil ⟨_,rfl,fun K hK=>?_⟩;go_wp2_with fail;refine (fnMin_val HA.out _).mono ?_;rintro e w1 ⟨rfl,rfl⟩;go_wp2_with fail;refine hK _ _ (.inr (fun b _ hb=>Ext.block X_ (by simp;omega))) ?_;clear hK K;refine wpStages_cons ?_;simp only [List.filterMap_nil]
 show wpQuiet _ _ _ _ [] _
 try simp only [Act.put,List.setIfInBounds_toArray,List.set_cons_succ,List.set_cons_zero]
 refine wpQuiet_nil ⟨_,rfl,fun K hK=>?_⟩;go_wp2_with fail;refine (fnMin_val HB.out _).mono ?_;rintro e w1 ⟨rfl,rfl⟩;go_wp2_with fail;refine hK _ _ (.inr (fun b _ hb=>Ext.block X_ (by simp;omega))) ?_;clear hK K;refine wpStages_cons ?_;simp only [List.filterMap_nil]
 show wpQuiet _ _ _ _ [] _
 try simp only [Act.put,List.setIfInBounds_toArray,List.set_cons_succ,List.set_cons_zero]
 refine wpQuiet_nil ⟨_,rfl,fun K hK=>?_⟩;go_wp2_with fail;refine (fnMin_val HC.out _).mono ?_;rintro e w1 ⟨rfl,rfl⟩;go_wp2_with fail;refine hK _ _ (.inr (fun b _ hb=>Ext.block X_ (by simp;omega))) ?_;clear hK K;refine wpStages_cons ?_;simp only [List.filterMap_cons,List.filterMap_nil,List.getElem?_toArray,List.getElem?_cons_zero,List.getElem?_cons_succ]
 show wpQuiet _ _ _ _ [_] _
 try simp only [Act.put,List.setIfInBounds_toArray,List.set_cons_succ,List.set_cons_zero]
 repeat (go_big_quiet_step (fail))
 refine wpQuiet_nil ⟨_,rfl,fun K hK=>?_⟩;go_wp2_with fail;refine hK _ _ (.inl (by trivial)) (wpStages_nil ?_);clear hK K;go_wp2;exact bodyPost_ret (v:=.agg #[a,b,c]) (by simp [results,Tryz.results171,go_sem, *]) rfl ⟨rfl,S_⟩
theorem fnMax_val {m n c:Int} (h:max3 m n=c) (w:World):Calls Tryz.prog 208 #[m,n] w fun e w'=>e = .returned (.int .i64 c)/\w=w':=by
 have H:=hid h;clear h;go_enter Tryz.func208,Tryz.ntmps208;go_wp2
 all_goals go_ret
 all_goals
  refine ⟨?_,rfl⟩;rw [<-H.out];unfold max3;refine ret_int ?_
  split <;> omega
theorem withMax_val {x y z k l m a b c:Int} (ha:max3 x k=a) (hb:max3 y l=b) (hc:max3 z m=c) (w:World) :
  Calls Tryz.prog 171 #[.agg #[x,y,z],.agg #[k,l,m],.func (.func 208) #[] #[]] w fun e w'=>e = .returned (.agg #[a,b,c])/\Ext w w':=by
 have HA:=hid ha;have HB:=hid hb;have HC:=hid hc;clear ha hb hc;go_enter Tryz.func171,Tryz.ntmps171;go_wp2;refine wp_region_stages [([0,1,2,3,4,6,7,8,9,10,12,13,14,15,16],5),([],11),([],17),([18],19)] 19 (w.heap.size+1+1+1) (by kernel_rfl) (by kernel_rfl) ?_;refine wpStages_cons ?_;simp only [List.filterMap_cons,List.filterMap_nil,List.getElem?_toArray,List.getElem?_cons_zero,List.getElem?_cons_succ]
 show wpQuiet _ _ _ _ [_,_,_,_,_,_,_,_,_,_,_,_,_,_,_] _
 repeat (go_big_quiet_step (fail))
 refine wpQuiet_nil ⟨_,rfl,fun K hK=>?_⟩;go_wp2_with fail;refine (fnMax_val HA.out _).mono ?_;rintro e w1 ⟨rfl,rfl⟩;go_wp2_with fail;refine hK _ _ (.inr (fun b _ hb=>Ext.block X_ (by simp;omega))) ?_;clear hK K;refine wpStages_cons ?_;simp only [List.filterMap_nil]
 show wpQuiet _ _ _ _ [] _
 try simp only [Act.put,List.setIfInBounds_toArray,List.set_cons_succ,List.set_cons_zero]
 refine wpQuiet_nil ⟨_,rfl,fun K hK=>?_⟩;go_wp2_with fail;refine (fnMax_val HB.out _).mono ?_;rintro e w1 ⟨rfl,rfl⟩;go_wp2_with fail;refine hK _ _ (.inr (fun b _ hb=>Ext.block X_ (by simp;omega))) ?_;clear hK K;refine wpStages_cons ?_;simp only [List.filterMap_nil]
 show wpQuiet _ _ _ _ [] _
 try simp only [Act.put,List.setIfInBounds_toArray,List.set_cons_succ,List.set_cons_zero]
 refine wpQuiet_nil ⟨_,rfl,fun K hK=>?_⟩;go_wp2_with fail;refine (fnMax_val HC.out _).mono ?_;rintro e w1 ⟨rfl,rfl⟩;go_wp2_with fail;refine hK _ _ (.inr (fun b _ hb=>Ext.block X_ (by simp;omega))) ?_;clear hK K;refine wpStages_cons ?_;simp only [List.filterMap_cons,List.filterMap_nil,List.getElem?_toArray,List.getElem?_cons_zero,List.getElem?_cons_succ]
 show wpQuiet _ _ _ _ [_] _
 try simp only [Act.put,List.setIfInBounds_toArray,List.set_cons_succ,List.set_cons_zero]
 repeat (go_big_quiet_step (fail))
 refine wpQuiet_nil ⟨_,rfl,fun K hK=>?_⟩;go_wp2_with fail;refine hK _ _ (.inl (by trivial)) (wpStages_nil ?_);clear hK K;go_wp2;exact bodyPost_ret (v:=.agg #[a,b,c]) (by simp [results,Tryz.results171,go_sem, *]) rfl ⟨rfl,S_⟩
theorem iMinVec_val {x y z k l m a b c:Int} (ha:min3 (cl x) (cl k)=a) (hb:min3 (cl y) (cl l)=b) (hc:min3 (cl z) (cl m)=c) (w:World) :
  Calls Tryz.prog 146 #[.agg #[x,y,z],.agg #[k,l,m]] w fun e w'=>e = .returned (.agg #[a,b,c])/\Ext w w':=by
 obtain ⟨u0,hu0⟩:∃n,cl x=n:=⟨_,rfl⟩
 rw [hu0] at ha;have U0:=hid hu0
 obtain ⟨u1,hu1⟩:∃n,cl k=n:=⟨_,rfl⟩
 rw [hu1] at ha;have U1:=hid hu1
 obtain ⟨u2,hu2⟩:∃n,cl y=n:=⟨_,rfl⟩
 rw [hu2] at hb;have U2:=hid hu2
 obtain ⟨u3,hu3⟩:∃n,cl l=n:=⟨_,rfl⟩
 rw [hu3] at hb;have U3:=hid hu3
 obtain ⟨u4,hu4⟩:∃n,cl z=n:=⟨_,rfl⟩
 rw [hu4] at hc;have U4:=hid hu4
 obtain ⟨u5,hu5⟩:∃n,cl m=n:=⟨_,rfl⟩
 rw [hu5] at hc;have U5:=hid hu5;have HA:=hid ha;have HB:=hid hb;have HC:=hid hc;clear ha hb hc hu0 hu1 hu2 hu3 hu4 hu5;go_enter Tryz.func146,Tryz.ntmps146;go_wp2;refine wp_region_stages [([0,2],1),([],3),([],4),([],5)] 5 (w.heap.size+1+1+1) (by kernel_rfl) (by kernel_rfl) ?_;refine wpStages_cons ?_;simp only [List.filterMap_cons,List.filterMap_nil,List.getElem?_toArray,List.getElem?_cons_zero,List.getElem?_cons_succ]
 show wpQuiet _ _ _ _ [_,_] _
 repeat (go_big_quiet_step (fail))
 refine wpQuiet_nil ⟨_,rfl,fun K hK=>?_⟩;go_wp2_with fail;refine (clamped_val U0.out U2.out U4.out _).mono ?_;rintro e w1 ⟨rfl,h1⟩;have e1:=Ext.trans (w:=_) X_ h1;go_wp2_with fail;refine hK _ _ (.inr (fun b _ hb=>(h1.block (by simp;omega)).trans (Ext.block X_ (by simp;omega)))) ?_;clear hK K;refine wpStages_cons ?_;simp only [List.filterMap_nil]
 show wpQuiet _ _ _ _ [] _
 try simp only [Act.put,List.setIfInBounds_toArray,List.set_cons_succ,List.set_cons_zero]
 refine wpQuiet_nil ⟨_,rfl,fun K hK=>?_⟩;go_wp2_with fail;refine (clamped_val U1.out U3.out U5.out _).mono ?_;rintro e w2 ⟨rfl,h2⟩;have e2:=h1.trans h2;go_wp2_with fail;refine hK _ _ (.inr (fun b _ hb=>(e2.block (by simp;omega)).trans (Ext.block X_ (by simp;omega)))) ?_;clear hK K;refine wpStages_cons ?_;simp only [List.filterMap_nil]
 show wpQuiet _ _ _ _ [] _
 try simp only [Act.put,List.setIfInBounds_toArray,List.set_cons_succ,List.set_cons_zero]
 refine wpQuiet_nil ⟨_,rfl,fun K hK=>?_⟩;go_wp2_with fail;refine (withMin_val HA.out HB.out HC.out _).mono ?_;rintro e w3 ⟨rfl,h3⟩;have e3:=e2.trans h3;go_wp2_with fail;refine hK _ _ (.inr (fun b _ hb=>(e3.block (by simp;omega)).trans (Ext.block X_ (by simp;omega)))) ?_;clear hK K;refine wpStages_cons ?_;simp only [List.filterMap_nil]
 show wpQuiet _ _ _ _ [] _
 try simp only [Act.put,List.setIfInBounds_toArray,List.set_cons_succ,List.set_cons_zero]
 have z4:=e3.size;simp at z4;obtain ⟨c4,f4⟩:=e3.cells
 have q4:w.heap.size+1+1<w3.heap.size:=by omega
 have E4:Ext w w3:=Ext.trans X_ e3;refine wpQuiet_nil ⟨_,rfl,fun K hK=>?_⟩;go_wp2_with fail;refine hK _ _ (.inl (by trivial)) (wpStages_nil ?_);clear hK K;go_wp2;exact bodyPost_ret (v:=.agg #[a,b,c]) (by simp [results,Tryz.results146,go_sem, *]) rfl ⟨rfl,S_⟩
theorem iMaxVec_val {x y z k l m a b c:Int} (ha:max3 (cl x) (cl k)=a) (hb:max3 (cl y) (cl l)=b) (hc:max3 (cl z) (cl m)=c) (w:World) :
  Calls Tryz.prog 147 #[.agg #[x,y,z],.agg #[k,l,m]] w fun e w'=>e = .returned (.agg #[a,b,c])/\Ext w w':=by
 obtain ⟨u0,hu0⟩:∃n,cl x=n:=⟨_,rfl⟩
 rw [hu0] at ha;have U0:=hid hu0
 obtain ⟨u1,hu1⟩:∃n,cl k=n:=⟨_,rfl⟩
 rw [hu1] at ha;have U1:=hid hu1
 obtain ⟨u2,hu2⟩:∃n,cl y=n:=⟨_,rfl⟩
 rw [hu2] at hb;have U2:=hid hu2
 obtain ⟨u3,hu3⟩:∃n,cl l=n:=⟨_,rfl⟩
 rw [hu3] at hb;have U3:=hid hu3
 obtain ⟨u4,hu4⟩:∃n,cl z=n:=⟨_,rfl⟩
 rw [hu4] at hc;have U4:=hid hu4
 obtain ⟨u5,hu5⟩:∃n,cl m=n:=⟨_,rfl⟩
 rw [hu5] at hc;have U5:=hid hu5;have HA:=hid ha;have HB:=hid hb;have HC:=hid hc;clear ha hb hc hu0 hu1 hu2 hu3 hu4 hu5;go_enter Tryz.func147,Tryz.ntmps147;go_wp2;refine wp_region_stages [([0,2],1),([],3),([],4),([],5)] 5 (w.heap.size+1+1+1) (by kernel_rfl) (by kernel_rfl) ?_;refine wpStages_cons ?_;simp only [List.filterMap_cons,List.filterMap_nil,List.getElem?_toArray,List.getElem?_cons_zero,List.getElem?_cons_succ]
 show wpQuiet _ _ _ _ [_,_] _
 repeat (go_big_quiet_step (fail))
 refine wpQuiet_nil ⟨_,rfl,fun K hK=>?_⟩;go_wp2_with fail;refine (clamped_val U0.out U2.out U4.out _).mono ?_;rintro e w1 ⟨rfl,h1⟩;have e1:=Ext.trans (w:=_) X_ h1;go_wp2_with fail;refine hK _ _ (.inr (fun b _ hb=>(h1.block (by simp;omega)).trans (Ext.block X_ (by simp;omega)))) ?_;clear hK K;refine wpStages_cons ?_;simp only [List.filterMap_nil]
 show wpQuiet _ _ _ _ [] _
 try simp only [Act.put,List.setIfInBounds_toArray,List.set_cons_succ,List.set_cons_zero]
 refine wpQuiet_nil ⟨_,rfl,fun K hK=>?_⟩;go_wp2_with fail;refine (clamped_val U1.out U3.out U5.out _).mono ?_;rintro e w2 ⟨rfl,h2⟩;have e2:=h1.trans h2;go_wp2_with fail;refine hK _ _ (.inr (fun b _ hb=>(e2.block (by simp;omega)).trans (Ext.block X_ (by simp;omega)))) ?_;clear hK K;refine wpStages_cons ?_;simp only [List.filterMap_nil]
 show wpQuiet _ _ _ _ [] _
 try simp only [Act.put,List.setIfInBounds_toArray,List.set_cons_succ,List.set_cons_zero]
 refine wpQuiet_nil ⟨_,rfl,fun K hK=>?_⟩;go_wp2_with fail;refine (withMax_val HA.out HB.out HC.out _).mono ?_;rintro e w3 ⟨rfl,h3⟩;have e3:=e2.trans h3;go_wp2_with fail;refine hK _ _ (.inr (fun b _ hb=>(e3.block (by simp;omega)).trans (Ext.block X_ (by simp;omega)))) ?_;clear hK K;refine wpStages_cons ?_;simp only [List.filterMap_nil]
 show wpQuiet _ _ _ _ [] _
 try simp only [Act.put,List.setIfInBounds_toArray,List.set_cons_succ,List.set_cons_zero]
 have z4:=e3.size;simp at z4;obtain ⟨c4,f4⟩:=e3.cells
 have q4:w.heap.size+1+1<w3.heap.size:=by omega
 have E4:Ext w w3:=Ext.trans X_ e3;refine wpQuiet_nil ⟨_,rfl,fun K hK=>?_⟩;go_wp2_with fail;refine hK _ _ (.inl (by trivial)) (wpStages_nil ?_);clear hK K;go_wp2;exact bodyPost_ret (v:=.agg #[a,b,c]) (by simp [results,Tryz.results147,go_sem, *]) rfl ⟨rfl,S_⟩
theorem iUnionBox_val {a0 a1 a2 a3 a4 a5 b0 b1 b2 b3 b4 b5 r0 r1 r2 r3 r4 r5:Int} (h0:min3 (cl a0) (cl b0)=r0) (h1:min3 (cl a1) (cl b1)=r1) (h2:min3 (cl a2) (cl b2)=r2) (h3:max3 (cl a3) (cl b3)=r3) (h4:max3 (cl a4) (cl b4)=r4) (h5:max3 (cl a5) (cl b5)=r5) (w:World) :
  Calls Tryz.prog 89 #[.agg #[a0,a1,a2,a3,a4,a5],.agg #[b0,b1,b2,b3,b4,b5]] w fun e w'=>e = .returned (.agg #[r0,r1,r2,r3,r4,r5])/\Ext w w':=by
 have H0:=hid h0;have H1:=hid h1;have H2:=hid h2;have H3:=hid h3;have H4:=hid h4;have H5:=hid h5;clear h0 h1 h2 h3 h4 h5;go_enter Tryz.func89,Tryz.ntmps89;go_wp2;refine wp_region_stages [([0,1,2,3,5,6,7,8],4),([],9),([10],11)] 11 (w.heap.size+1+1+1) (by kernel_rfl) (by kernel_rfl) ?_;refine wpStages_cons ?_;simp only [List.filterMap_cons,List.filterMap_nil,List.getElem?_toArray,List.getElem?_cons_zero,List.getElem?_cons_succ]
 show wpQuiet _ _ _ _ [_,_,_,_,_,_,_,_] _
 repeat (go_big_quiet_step (fail))
 refine wpQuiet_nil ⟨_,rfl,fun K hK=>?_⟩;go_wp2_with fail;refine (iMinVec_val H0.out H1.out H2.out _).mono ?_;rintro e w1 ⟨rfl,h1⟩;have e1:=Ext.trans (w:=_) X_ h1;go_wp2_with fail;refine hK _ _ (.inr (fun b _ hb=>(h1.block (by simp;omega)).trans (Ext.block X_ (by simp;omega)))) ?_;clear hK K;refine wpStages_cons ?_;simp only [List.filterMap_nil]
 show wpQuiet _ _ _ _ [] _
 try simp only [Act.put,List.setIfInBounds_toArray,List.set_cons_succ,List.set_cons_zero]
 refine wpQuiet_nil ⟨_,rfl,fun K hK=>?_⟩;go_wp2_with fail;refine (iMaxVec_val H3.out H4.out H5.out _).mono ?_;rintro e w2 ⟨rfl,h2⟩;have e2:=h1.trans h2;go_wp2_with fail;refine hK _ _ (.inr (fun b _ hb=>(e2.block (by simp;omega)).trans (Ext.block X_ (by simp;omega)))) ?_;clear hK K;refine wpStages_cons ?_;simp only [List.filterMap_cons,List.filterMap_nil,List.getElem?_toArray,List.getElem?_cons_zero,List.getElem?_cons_succ]
 show wpQuiet _ _ _ _ [_] _
 try simp only [Act.put,List.setIfInBounds_toArray,List.set_cons_succ,List.set_cons_zero]
 repeat (go_big_quiet_step (fail))
 have z4:=e2.size;simp at z4;obtain ⟨c4,f4⟩:=e2.cells
 have q4:w.heap.size+1+1<w2.heap.size:=by omega
 have E4:Ext w w2:=Ext.trans X_ e2;refine wpQuiet_nil ⟨_,rfl,fun K hK=>?_⟩;go_wp2_with fail;refine hK _ _ (.inl (by trivial)) (wpStages_nil ?_);clear hK K;go_wp2;exact bodyPost_ret (v:=.agg #[r0,r1,r2,r3,r4,r5]) (by simp [results,Tryz.results89,go_sem, *]) rfl ⟨rfl,S_⟩
def loK (f:Nat->Int) (i:Nat):Nat->Int
 | 0=>cl (f i)
 | k+1=>min3 (cl (loK f i k)) (cl (f (3+k*3+i)))
def hiK (f:Nat->Int) (i:Nat):Nat->Int
 | 0=>cl (f i)
 | k+1=>max3 (cl (hiK f i k)) (cl (f (3+k*3+i)))
theorem cl_min3 (a b:Int):cl (min3 (cl a) (cl b))=min3 (cl a) (cl b):=by unfold min3;split <;> exact cl_cl _
theorem cl_max3 (a b:Int):cl (max3 (cl a) (cl b))=max3 (cl a) (cl b):=by unfold max3;split <;> exact cl_cl _
theorem cl_loK (f:Nat->Int) (i k:Nat):cl (loK f i k)=loK f i k:=by
 cases k with
 | zero=>exact cl_cl _
 | succ k=>exact cl_min3 _ _
theorem cl_hiK (f:Nat->Int) (i k:Nat):cl (hiK f i k)=hiK f i k:=by
 cases k with
 | zero=>exact cl_cl _
 | succ k=>exact cl_max3 _ _
theorem loK_all (f:Nat->Int) (i:Nat):loK f i 3=loP f i:=by
 show min3 (cl (loK f i 2)) (cl (f (3+2*3+i)))=_
 rw [cl_loK]
 show min3 (min3 (cl (loK f i 1)) (cl (f (3+1*3+i)))) _=_
 rw [cl_loK]
 show min3 (min3 (min3 (cl (cl (f i))) (cl (f (3+0*3+i)))) _) _=_
 rw [cl_cl];unfold loP;rw [show 3+0*3+i=i+3 by omega,show 3+1*3+i=i+6 by omega,show 3+2*3+i=i+9 by omega]
theorem hiK_all (f:Nat->Int) (i:Nat):hiK f i 3=hiP f i:=by
 show max3 (cl (hiK f i 2)) (cl (f (3+2*3+i)))=_
 rw [cl_hiK]
 show max3 (max3 (cl (hiK f i 1)) (cl (f (3+1*3+i)))) _=_
 rw [cl_hiK]
 show max3 (max3 (max3 (cl (cl (f i))) (cl (f (3+0*3+i)))) _) _=_
 rw [cl_cl];unfold hiP;rw [show 3+0*3+i=i+3 by omega,show 3+1*3+i=i+6 by omega,show 3+2*3+i=i+9 by omega]
theorem cl_loP (f:Nat->Int) (i:Nat):cl (loP f i)=loP f i:=by rw [<-loK_all];exact cl_loK _ _ _
theorem cl_hiP (f:Nat->Int) (i:Nat):cl (hiP f i)=hiP f i:=by rw [<-hiK_all];exact cl_hiK _ _ _
def NBox (lo:Nat) (t:TypeId) (cs:Array Value) (v:Value) (w:World):Prop:=∃g,v = .pointer (some ⟨g,0,none⟩)/\lo<=g/\Bx w g cs t
theorem NBox.ext {lo:Nat} {t:TypeId} {cs:Array Value} {v:Value} {w w':World} (h:NBox lo t cs v w) (x:Ext w w'):NBox lo t cs v w':=by
 obtain ⟨g,h1,h2,h3⟩:=h;exact ⟨g,h1,h2,h3.ext x⟩
theorem heap_3 (w:World) (A i j l:Nat) (u v x:Value) {b:Nat} (h:b≠A):(((w.setCell ⟨A,i,none⟩ u).setCell ⟨A,j,none⟩ v).setCell ⟨A,l,none⟩ x).heap[b]?=w.heap[b]?:=by
 rw [Below.heap_setCell _ _ _ _ (by exact fun e=>h e),Below.heap_setCell _ _ _ _ (by exact fun e=>h e),Below.heap_setCell _ _ _ _ (by exact fun e=>h e)]
theorem iBoundPoints_any (f:Nat->Int) (B:Nat) (w:World) (hf:RowI w B 40 12 f):Calls Tryz.prog 148 #[.slice (some ⟨B,0,none⟩) 4 4] w fun e w'=>e = .returned (.tuple #[.agg #[(loP f 0),(loP f 1),(loP f 2),(hiP f 0),(hiP f 1),(hiP f 2)],.bool true])/\Ext w w':=by
 have bl:=hf.lt;have z1:(w.alloc (.cells #[(),(),(),(),(),()] 86)).heap.size=w.heap.size+1:=World.size_alloc _ _;have X1:Ext w (w.alloc (.cells #[(),(),(),(),(),()] 86)):=X_;have HX:=hid X1;have HF:=hid (hf.ext X1);have HQ:=hid (Blk.new w 86 [(),(),(),(),(),()]);clear hf X1;go_enter Tryz.func148,Tryz.ntmps148;go_upto_region 3 with fail
 obtain ⟨W0,hW0⟩:∃W0,(w.alloc (.cells #[(),(),(),(),(),()] 86))=W0:=⟨_,rfl⟩
 rw [hW0] at HX HF HQ z1;rw [hW0];clear hW0;have Z1:=hid z1;clear z1;have d0:=HF.out.cell (i:=0) (by decide);have d1:=HF.out.cell (i:=1) (by decide);have d2:=HF.out.cell (i:=2) (by decide);have l0:=HF.out.lt
 go_cut [4] from 11 to 19 (fun q wx=>∃A,q = .pointer (some ⟨A,0,none⟩)/\W0.heap.size<=A/\Blk wx A 86 [.int .i64 (cl (f 0)),.int .i64 (cl (f 1)),.int .i64 (cl (f 2)),.int .i64 (cl (f 0)),.int .i64 (cl (f 1)),.int .i64 (cl (f 2))]/\Ext W0 wx)
 case first=>
  obtain ⟨c0,hc0⟩:∃n,cl (f 0)=n:=⟨_,rfl⟩
  obtain ⟨c1,hc1⟩:∃n,cl (f 1)=n:=⟨_,rfl⟩
  obtain ⟨c2,hc2⟩:∃n,cl (f 2)=n:=⟨_,rfl⟩
  have K0:=hid hc0;have K1:=hid hc1;have K2:=hid hc2;clear hc0 hc1 hc2;refine wp_region_Z 10 W0.heap.size (by kernel_rfl) ?_;refine z2_ (fuel:=4) [0,1,2,4,5,6] 3 9 (fun b _ hb=>rfl) (fun K hK=>?_) fun K hK=>?_
  ·go_wp2_with fail
   refine (clamped_val K0.out K1.out K2.out _).mono ?_;rintro e a0 ⟨rfl,y0⟩;have u0:Ext W0 a0:=Ext.trans X_ y0;go_wp2_with fail;refine hK _ _ (.inr (fun b _ hb=>Ext.block (w:=W0) X_ (by omega))) ?_;clear hK K;refine z2_ (fuel:=3) [] 7 9 (fun b _ hb=>Ext.block u0 (by omega)) (fun K hK=>?_) fun K hK=>?_
   ·go_wp2_with fail
    refine (clamped_val K0.out K1.out K2.out _).mono ?_;rintro e a01 ⟨rfl,y01⟩;have u01:Ext W0 a01:=Ext.trans X_ y01;go_wp2_with fail;refine hK _ _ (.inr (fun b _ hb=>Ext.block (w:=W0) X_ (by omega))) ?_;clear hK K;refine z1_ (fuel:=1) [8] 9 (fun b _ hb=>Ext.block u01 (by omega)) fun K hK=>?_;go_wp2;have hA01A:W0.heap.size<=a01.heap.size:=u01.size;refine hK _ _ (.inr (fun b _ hb=>Ext.block (w:=W0) X_ (by omega))) ?_;clear hK K
    obtain ⟨d01A,hd01A⟩:∃d,d=a01.alloc (.cells #[(),(),(),(),(),()] 86):=⟨_,rfl⟩
    rw [<-hd01A]
    have u01A:Ext W0 d01A:=by rw [hd01A];exact X_
    have b01A:Blk d01A (a01.heap.size) 86 [(),(),(),(),(),()]:=hd01A▸Blk.new _ _ _;clear hd01A;refine z1_ (fuel:=0) [] 10 (fun b _ hb=>Ext.block u01A (by omega)) fun K hK=>?_;have z0:=b01A.cell 0 rfl;have zf0:=b01A.free 0;have z1:=b01A.cell 1 rfl;have zf1:=b01A.free 1;have z2:=b01A.cell 2 rfl;have zf2:=b01A.free 2;have z3:=b01A.cell 3 rfl;have zf3:=b01A.free 3;have z4:=b01A.cell 4 rfl;have zf4:=b01A.free 4;have z5:=b01A.cell 5 rfl;have zf5:=b01A.free 5;have zl:=b01A.lt;go_wp2;refine hK _ _ (.inl (by trivial)) ?_;clear hK K;refine wpZ_end (by kernel_rfl) ?_;go_wp2_with fail
    go_meet
    rw [K0.out,K1.out,K2.out];have hlt:=hA01A;exact ⟨a01.heap.size,rfl,hlt,((((((b01A.set 0 _).set 1 _).set 2 _).set 3 _).set 4 _).set 5 _),(Ext.setCell (Ext.setCell (Ext.setCell (Ext.setCell (Ext.setCell (Ext.setCell u01A (p:=⟨a01.heap.size,0,none⟩) hlt _) (p:=⟨a01.heap.size,1,none⟩) hlt _) (p:=⟨a01.heap.size,2,none⟩) hlt _) (p:=⟨a01.heap.size,3,none⟩) hlt _) (p:=⟨a01.heap.size,4,none⟩) hlt _) (p:=⟨a01.heap.size,5,none⟩) hlt _)⟩
   ·go_wp2
    have hA0A:W0.heap.size<=a0.heap.size:=u0.size;refine hK _ _ (.inr (fun b _ hb=>Ext.block (w:=W0) X_ (by omega))) ?_;clear hK K
    obtain ⟨d0A,hd0A⟩:∃d,d=a0.alloc (.cells #[(),(),(),(),(),()] 86):=⟨_,rfl⟩
    rw [<-hd0A]
    have u0A:Ext W0 d0A:=by rw [hd0A];exact X_
    have b0A:Blk d0A (a0.heap.size) 86 [(),(),(),(),(),()]:=hd0A▸Blk.new _ _ _;clear hd0A;refine z1_ (fuel:=2) [] 7 (fun b _ hb=>Ext.block u0A (by omega)) fun K hK=>?_;go_wp2_with fail;refine (clamped_val K0.out K1.out K2.out _).mono ?_;rintro e a0A1 ⟨rfl,y0A1⟩;have u0A1:Ext W0 a0A1:=Ext.trans X_ y0A1;have b0A1:=b0A.ext y0A1;go_wp2_with fail;refine hK _ _ (.inr (fun b _ hb=>Ext.block (w:=W0) X_ (by omega))) ?_;clear hK K;refine z1_ (fuel:=0) [8] 10 (fun b _ hb=>Ext.block u0A1 (by omega)) fun K hK=>?_;have z0:=b0A1.cell 0 rfl;have zf0:=b0A1.free 0;have z1:=b0A1.cell 1 rfl;have zf1:=b0A1.free 1;have z2:=b0A1.cell 2 rfl;have zf2:=b0A1.free 2;have z3:=b0A1.cell 3 rfl;have zf3:=b0A1.free 3;have z4:=b0A1.cell 4 rfl;have zf4:=b0A1.free 4;have z5:=b0A1.cell 5 rfl;have zf5:=b0A1.free 5;have zl:=b0A1.lt;go_wp2;refine hK _ _ (.inl (by trivial)) ?_;clear hK K;refine wpZ_end (by kernel_rfl) ?_;go_wp2_with fail
    go_meet
    rw [K0.out,K1.out,K2.out];have hlt:=hA0A;exact ⟨a0.heap.size,rfl,hlt,((((((b0A1.set 0 _).set 1 _).set 2 _).set 3 _).set 4 _).set 5 _),(Ext.setCell (Ext.setCell (Ext.setCell (Ext.setCell (Ext.setCell (Ext.setCell u0A1 (p:=⟨a0.heap.size,0,none⟩) hlt _) (p:=⟨a0.heap.size,1,none⟩) hlt _) (p:=⟨a0.heap.size,2,none⟩) hlt _) (p:=⟨a0.heap.size,3,none⟩) hlt _) (p:=⟨a0.heap.size,4,none⟩) hlt _) (p:=⟨a0.heap.size,5,none⟩) hlt _)⟩
  ·go_wp2
   have hAA:W0.heap.size<=W0.heap.size:=Nat.le_refl _;refine hK _ _ (.inr (fun b _ hb=>Ext.block (w:=W0) X_ (by omega))) ?_;clear hK K
   obtain ⟨dA,hdA⟩:∃d,d=(W0.alloc (.cells #[(),(),(),(),(),()] 86)).drew:=⟨_,rfl⟩
   rw [<-hdA]
   have uA:Ext W0 dA:=by rw [hdA];exact X_
   have bA:Blk dA (W0.heap.size) 86 [(),(),(),(),(),()]:=hdA▸(Blk.new _ _ _).ext (Ext.drew (Ext.refl _));clear hdA;refine z1_ (fuel:=3) [] 3 (fun b _ hb=>Ext.block uA (by omega)) fun K hK=>?_;go_wp2_with fail;refine (clamped_val K0.out K1.out K2.out _).mono ?_;rintro e aA0 ⟨rfl,yA0⟩;have uA0:Ext W0 aA0:=Ext.trans X_ yA0;have bA0:=bA.ext yA0;go_wp2_with fail;refine hK _ _ (.inr (fun b _ hb=>Ext.block (w:=W0) X_ (by omega))) ?_;clear hK K;refine z1_ (fuel:=2) [] 7 (fun b _ hb=>Ext.block uA0 (by omega)) fun K hK=>?_;go_wp2_with fail;refine (clamped_val K0.out K1.out K2.out _).mono ?_;rintro e aA01 ⟨rfl,yA01⟩;have uA01:Ext W0 aA01:=Ext.trans X_ yA01;have bA01:=bA0.ext yA01;go_wp2_with fail;refine hK _ _ (.inr (fun b _ hb=>Ext.block (w:=W0) X_ (by omega))) ?_;clear hK K;refine z1_ (fuel:=0) [8] 10 (fun b _ hb=>Ext.block uA01 (by omega)) fun K hK=>?_;have z0:=bA01.cell 0 rfl;have zf0:=bA01.free 0;have z1:=bA01.cell 1 rfl;have zf1:=bA01.free 1;have z2:=bA01.cell 2 rfl;have zf2:=bA01.free 2;have z3:=bA01.cell 3 rfl;have zf3:=bA01.free 3;have z4:=bA01.cell 4 rfl;have zf4:=bA01.free 4;have z5:=bA01.cell 5 rfl;have zf5:=bA01.free 5;have zl:=bA01.lt;go_wp2;refine hK _ _ (.inl (by trivial)) ?_;clear hK K;refine wpZ_end (by kernel_rfl) ?_;go_wp2_with fail
   go_meet
   rw [K0.out,K1.out,K2.out];have hlt:=hAA;exact ⟨W0.heap.size,rfl,hlt,((((((bA01.set 0 _).set 1 _).set 2 _).set 3 _).set 4 _).set 5 _),(Ext.setCell (Ext.setCell (Ext.setCell (Ext.setCell (Ext.setCell (Ext.setCell uA01 (p:=⟨W0.heap.size,0,none⟩) hlt _) (p:=⟨W0.heap.size,1,none⟩) hlt _) (p:=⟨W0.heap.size,2,none⟩) hlt _) (p:=⟨W0.heap.size,3,none⟩) hlt _) (p:=⟨W0.heap.size,4,none⟩) hlt _) (p:=⟨W0.heap.size,5,none⟩) hlt _)⟩
 case rest=>
  obtain ⟨A,rfl,hA,bA,xa⟩:=hcut;have HA:=hid bA;have HX2:=hid xa;have la:=xa.size;clear bA xa d0 d1 d2;go_wp2_with fail
  go_loopw [23] (fun i wr=>∃k:Nat,k<=3/\i = .int .i64 (k:Nat)/\Blk wr A 86 [(loK f 0 k),(loK f 1 k),(loK f 2 k),(hiK f 0 k),(hiK f 1 k),(hiK f 2 k)]/\Ext W0 wr) (fun i _=>3 - (intOf i).toNat)
  case atStart=>exact ⟨0,by omega,rfl,HA.out,HX2.out⟩
  case round=>
   obtain ⟨k,hk,rfl,b,x⟩:=hrel;have HB:=hid b;have HXr:=hid x;have hzr:=x.size
   rcases Nat.lt_or_ge k 3 with hlt|hge
   ·have hr:=HF.out.ext x
    have d0:=hr.cell (i:=3+k*3) (by omega);have d1:=hr.cell (i:=3+k*3+1) (by omega);have d2:=hr.cell (i:=3+k*3+2) (by omega);have lr:=hr.lt;have lA:=b.lt;clear b x hr
    obtain ⟨x0,hx0⟩:∃n,f (3+k*3)=n:=⟨_,rfl⟩
    obtain ⟨x1,hx1⟩:∃n,f (3+k*3+1)=n:=⟨_,rfl⟩
    obtain ⟨x2,hx2⟩:∃n,f (3+k*3+2)=n:=⟨_,rfl⟩
    rw [hx0] at d0;rw [hx1] at d1;rw [hx2] at d2;have E0:=hid (show min3 (cl (loK f 0 k)) (cl x0)=loK f 0 (k+1) by rw [<-hx0];rfl);have E1:=hid (show min3 (cl (loK f 1 k)) (cl x1)=loK f 1 (k+1) by rw [<-hx1];rfl);have E2:=hid (show min3 (cl (loK f 2 k)) (cl x2)=loK f 2 (k+1) by rw [<-hx2];rfl);have E3:=hid (show max3 (cl (hiK f 0 k)) (cl x0)=hiK f 0 (k+1) by rw [<-hx0];rfl);have E4:=hid (show max3 (cl (hiK f 1 k)) (cl x1)=hiK f 1 (k+1) by rw [<-hx1];rfl);have E5:=hid (show max3 (cl (hiK f 2 k)) (cl x2)=hiK f 2 (k+1) by rw [<-hx2];rfl);clear hx0 hx1 hx2;go_upto_region 7 with fail;have bq:=HB.out.ext (show Ext wr (wr.alloc (.cells #[x0,x1,x2] 37)) from X_);have XQ:=hid (HXr.out.trans (show Ext wr (wr.alloc (.cells #[x0,x1,x2] 37)) from X_));have HQ2:=hid bq;have c0:=bq.cell 0 rfl;have c1:=bq.cell 1 rfl;have c2:=bq.cell 2 rfl;have c3:=bq.cell 3 rfl;have c4:=bq.cell 4 rfl;have c5:=bq.cell 5 rfl;have lcl:=bq.lt
    have lA2:A<wr.heap.size+1:=by omega
    clear bq;refine wp_region_ZS 11 (fun w'=>∃d,w'=lowc (CBox wr.heap.size) (wr.alloc (.cells #[x0,x1,x2] 37)) d) (by kernel_rfl) ?_;refine wpZS_stage (fuel:=7) [0,2,4,6] [1,5] (by kernel_rfl) (SC.drew _ _) ?_
    try simp only [Act.put,List.setIfInBounds_toArray,List.set_cons_succ,List.set_cons_zero]
    simp only [List.filterMap_cons,List.filterMap_nil,List.getElem?_toArray,List.getElem?_cons_zero,List.getElem?_cons_succ]
    show wpQuiet _ _ _ _ [_,_,_,_] _
    repeat (go_big_quiet_step (fail))
    refine wpQuiet_nil ?_;intro e he;simp only [List.mem_cons,List.not_mem_nil,or_false] at he
    rcases he with rfl|rfl
    ·skip
     (unfold wpComesS;simp only [List.getElem?_toArray,List.getElem?_cons_succ,List.getElem?_cons_zero,Option.some.injEq];refine ⟨_,rfl,fun K hK=>?_⟩)
     go_wp2;refine hK _ _ (.inr (SC.blocks fun a ha=>Ext.block (w:=(wr.alloc (.cells #[x0,x1,x2] 37))) X_ (by have h:a.block=wr.heap.size:=ha;simp;omega))) ?_;clear hK K;refine wpZS_stage (fuel:=6) [] [3,5] (by kernel_rfl) (SC.blocks fun a ha=>Ext.block (w:=(wr.alloc (.cells #[x0,x1,x2] 37))) X_ (by have h:a.block=wr.heap.size:=ha;simp;omega)) ?_;refine wpQuiet_nil ?_;intro e he;simp only [List.mem_cons,List.not_mem_nil,or_false] at he
     rcases he with rfl|rfl
     ·skip
      (unfold wpComesS;simp only [List.getElem?_toArray,List.getElem?_cons_succ,List.getElem?_cons_zero,Option.some.injEq];refine ⟨_,rfl,fun K hK=>?_⟩)
      go_wp2_with fail;refine (iMinVec_val E0.out E1.out E2.out _).mono ?_;rintro e w5 ⟨rfl,x5⟩;have y5:Ext (wr.alloc (.cells #[x0,x1,x2] 37)) w5:=Ext.trans X_ x5;go_wp2_with fail;refine hK _ _ (.inr (SC.blocks fun a ha=>Ext.block y5 (by have h:a.block=wr.heap.size:=ha;simp;omega))) ?_;clear hK K;have b5:=HQ2.out.ext y5;clear c0 c1 c2 c3 c4 c5;have l5:=b5.lt;have c0:=b5.cell 0 rfl;have c1:=b5.cell 1 rfl;have c2:=b5.cell 2 rfl;have c3:=b5.cell 3 rfl;have c4:=b5.cell 4 rfl;have c5:=b5.cell 5 rfl;clear b5;refine wpZS_stage (fuel:=5) [] [5] (by kernel_rfl) (SC.blocks fun a ha=>Ext.block y5 (by have h:a.block=wr.heap.size:=ha;simp;omega)) ?_;refine wpQuiet_nil ?_;intro e he;simp only [List.mem_cons,List.not_mem_nil,or_false] at he;subst he
      (unfold wpComesS;simp only [List.getElem?_toArray,List.getElem?_cons_succ,List.getElem?_cons_zero,Option.some.injEq];refine ⟨_,rfl,fun K hK=>?_⟩)
      go_wp2;refine hK _ _ (.inr (SC.blocks fun a ha=>Ext.block y5 (by have h:a.block=wr.heap.size:=ha;simp;omega))) ?_;clear hK K;refine wpZS_stage (fuel:=3) [8] [7] (by kernel_rfl) (SC.blocks fun a ha=>Ext.block y5 (by have h:a.block=wr.heap.size:=ha;simp;omega)) ?_
      try simp only [Act.put,List.setIfInBounds_toArray,List.set_cons_succ,List.set_cons_zero]
      simp only [List.filterMap_cons,List.filterMap_nil,List.getElem?_toArray,List.getElem?_cons_zero,List.getElem?_cons_succ]
      show wpQuiet _ _ _ _ [_] _
      repeat (go_big_quiet_step (fail))
      refine wpQuiet_nil ?_;intro e he;simp only [List.mem_cons,List.not_mem_nil,or_false] at he;subst he
      (unfold wpComesS;simp only [List.getElem?_toArray,List.getElem?_cons_succ,List.getElem?_cons_zero,Option.some.injEq];refine ⟨_,rfl,fun K hK=>?_⟩)
      go_wp2_with fail;refine (iMaxVec_val E3.out E4.out E5.out _).mono ?_;rintro e w6 ⟨rfl,x6⟩;have y6:=y5.trans x6;go_wp2_with fail;refine hK _ _ (.inr (SC.blocks fun a ha=>Ext.block y6 (by have h:a.block=wr.heap.size:=ha;simp;omega))) ?_;clear hK K;have b6:=HQ2.out.ext y6;have HY6:=hid (XQ.out.trans y6);have HB6:=hid b6;have l6:=b6.lt;have HYY:=hid y6;clear x5 y5 x6 y6 b6 c0 c1 c2 c3 c4 c5 lcl d0 d1 d2;have c0:=HB6.out.cell 0 rfl;have c1:=HB6.out.cell 1 rfl;have c2:=HB6.out.cell 2 rfl;have c3:=HB6.out.cell 3 rfl;have c4:=HB6.out.cell 4 rfl;have c5:=HB6.out.cell 5 rfl;have k0:=HB6.out.free 0;have k1:=HB6.out.free 1;have k2:=HB6.out.free 2;have k3:=HB6.out.free 3;have k4:=HB6.out.free 4;have k5:=HB6.out.free 5;refine wpZS_stage (fuel:=2) [] [9] (by kernel_rfl) (SC.blocks fun a ha=>Ext.block HYY.out (by have h:a.block=wr.heap.size:=ha;simp;omega)) ?_;refine wpQuiet_nil ?_;intro e he;simp only [List.mem_cons,List.not_mem_nil,or_false] at he;subst he
      (unfold wpComesS;simp only [List.getElem?_toArray,List.getElem?_cons_succ,List.getElem?_cons_zero,Option.some.injEq];refine ⟨_,rfl,fun K hK=>?_⟩)
      go_wp2;refine hK _ _ (.inr (SC.blocks fun a ha=>(heap_3 _ _ _ _ _ _ _ _ (by have h:a.block=wr.heap.size:=ha;omega)).trans (Ext.block HYY.out (by have h:a.block=wr.heap.size:=ha;simp;omega)))) ?_;clear hK K;refine wpZS_stage (fuel:=0) [10] [11] (by kernel_rfl) (SC.blocks fun a ha=>(heap_3 _ _ _ _ _ _ _ _ (by have h:a.block=wr.heap.size:=ha;omega)).trans (Ext.block HYY.out (by have h:a.block=wr.heap.size:=ha;simp;omega))) ?_
      try simp only [Act.put,List.setIfInBounds_toArray,List.set_cons_succ,List.set_cons_zero]
      simp only [List.filterMap_cons,List.filterMap_nil,List.getElem?_toArray,List.getElem?_cons_zero,List.getElem?_cons_succ]
      show wpQuiet _ _ _ _ [_] _
      repeat (go_big_quiet_step (fail))
      refine wpQuiet_nil ?_;intro e he;simp only [List.mem_cons,List.not_mem_nil,or_false] at he;subst he
      (unfold wpComesS;simp only [List.getElem?_toArray,List.getElem?_cons_succ,List.getElem?_cons_zero,Option.some.injEq];refine ⟨_,rfl,fun K hK=>?_⟩)
      go_wp2;refine hK _ _ (.inl (by trivial)) ?_;clear hK K;refine wpZS_end (by kernel_rfl) ?_;go_wp2;go_roundw
      case rel=>exact ⟨k+1,by omega,by go_num,(((((HB6.out.set 0 _).set 1 _).set 2 _).set 3 _).set 4 _).set 5 _,Ext.setCell (Ext.setCell (Ext.setCell (Ext.setCell (Ext.setCell (Ext.setCell HY6.out hA _) hA _) hA _) hA _) hA _) hA _⟩
      case measure=>simp [intOf];omega
     ·skip
      (unfold wpComesS;simp only [List.getElem?_toArray,List.getElem?_cons_succ,List.getElem?_cons_zero,Option.some.injEq];refine ⟨_,rfl,fun K hK=>?_⟩)
      go_wp2;refine hK _ _ (.inr (SC.blocks fun a ha=>Ext.block (w:=(wr.alloc (.cells #[x0,x1,x2] 37))) X_ (by have h:a.block=wr.heap.size:=ha;simp;omega))) ?_;clear hK K;refine wpZS_stage (fuel:=5) [] [3] (by kernel_rfl) (SC.blocks fun a ha=>Ext.block (w:=(wr.alloc (.cells #[x0,x1,x2] 37))) X_ (by have h:a.block=wr.heap.size:=ha;simp;omega)) ?_;refine wpQuiet_nil ?_;intro e he;simp only [List.mem_cons,List.not_mem_nil,or_false] at he;subst he
      (unfold wpComesS;simp only [List.getElem?_toArray,List.getElem?_cons_succ,List.getElem?_cons_zero,Option.some.injEq];refine ⟨_,rfl,fun K hK=>?_⟩)
      go_wp2_with fail;refine (iMinVec_val E0.out E1.out E2.out _).mono ?_;rintro e w5 ⟨rfl,x5⟩;have y5:Ext (wr.alloc (.cells #[x0,x1,x2] 37)) w5:=Ext.trans X_ x5;go_wp2_with fail;refine hK _ _ (.inr (SC.blocks fun a ha=>Ext.block y5 (by have h:a.block=wr.heap.size:=ha;simp;omega))) ?_;clear hK K;refine wpZS_stage (fuel:=3) [8] [7] (by kernel_rfl) (SC.blocks fun a ha=>Ext.block y5 (by have h:a.block=wr.heap.size:=ha;simp;omega)) ?_
      try simp only [Act.put,List.setIfInBounds_toArray,List.set_cons_succ,List.set_cons_zero]
      simp only [List.filterMap_cons,List.filterMap_nil,List.getElem?_toArray,List.getElem?_cons_zero,List.getElem?_cons_succ]
      show wpQuiet _ _ _ _ [_] _
      repeat (go_big_quiet_step (fail))
      refine wpQuiet_nil ?_;intro e he;simp only [List.mem_cons,List.not_mem_nil,or_false] at he;subst he
      (unfold wpComesS;simp only [List.getElem?_toArray,List.getElem?_cons_succ,List.getElem?_cons_zero,Option.some.injEq];refine ⟨_,rfl,fun K hK=>?_⟩)
      go_wp2_with fail;refine (iMaxVec_val E3.out E4.out E5.out _).mono ?_;rintro e w6 ⟨rfl,x6⟩;have y6:=y5.trans x6;go_wp2_with fail;refine hK _ _ (.inr (SC.blocks fun a ha=>Ext.block y6 (by have h:a.block=wr.heap.size:=ha;simp;omega))) ?_;clear hK K;have b6:=HQ2.out.ext y6;have HY6:=hid (XQ.out.trans y6);have HB6:=hid b6;have l6:=b6.lt;have HYY:=hid y6;clear x5 y5 x6 y6 b6 c0 c1 c2 c3 c4 c5 lcl d0 d1 d2;have c0:=HB6.out.cell 0 rfl;have c1:=HB6.out.cell 1 rfl;have c2:=HB6.out.cell 2 rfl;have c3:=HB6.out.cell 3 rfl;have c4:=HB6.out.cell 4 rfl;have c5:=HB6.out.cell 5 rfl;have k0:=HB6.out.free 0;have k1:=HB6.out.free 1;have k2:=HB6.out.free 2;have k3:=HB6.out.free 3;have k4:=HB6.out.free 4;have k5:=HB6.out.free 5;refine wpZS_stage (fuel:=2) [] [9] (by kernel_rfl) (SC.blocks fun a ha=>Ext.block HYY.out (by have h:a.block=wr.heap.size:=ha;simp;omega)) ?_;refine wpQuiet_nil ?_;intro e he;simp only [List.mem_cons,List.not_mem_nil,or_false] at he;subst he
      (unfold wpComesS;simp only [List.getElem?_toArray,List.getElem?_cons_succ,List.getElem?_cons_zero,Option.some.injEq];refine ⟨_,rfl,fun K hK=>?_⟩)
      go_wp2;refine hK _ _ (.inr (SC.blocks fun a ha=>(heap_3 _ _ _ _ _ _ _ _ (by have h:a.block=wr.heap.size:=ha;omega)).trans (Ext.block HYY.out (by have h:a.block=wr.heap.size:=ha;simp;omega)))) ?_;clear hK K;refine wpZS_stage (fuel:=0) [10] [11] (by kernel_rfl) (SC.blocks fun a ha=>(heap_3 _ _ _ _ _ _ _ _ (by have h:a.block=wr.heap.size:=ha;omega)).trans (Ext.block HYY.out (by have h:a.block=wr.heap.size:=ha;simp;omega))) ?_
      try simp only [Act.put,List.setIfInBounds_toArray,List.set_cons_succ,List.set_cons_zero]
      simp only [List.filterMap_cons,List.filterMap_nil,List.getElem?_toArray,List.getElem?_cons_zero,List.getElem?_cons_succ]
      show wpQuiet _ _ _ _ [_] _
      repeat (go_big_quiet_step (fail))
      refine wpQuiet_nil ?_;intro e he;simp only [List.mem_cons,List.not_mem_nil,or_false] at he;subst he
      (unfold wpComesS;simp only [List.getElem?_toArray,List.getElem?_cons_succ,List.getElem?_cons_zero,Option.some.injEq];refine ⟨_,rfl,fun K hK=>?_⟩)
      go_wp2;refine hK _ _ (.inl (by trivial)) ?_;clear hK K;refine wpZS_end (by kernel_rfl) ?_;go_wp2;go_roundw
      case rel=>exact ⟨k+1,by omega,by go_num,(((((HB6.out.set 0 _).set 1 _).set 2 _).set 3 _).set 4 _).set 5 _,Ext.setCell (Ext.setCell (Ext.setCell (Ext.setCell (Ext.setCell (Ext.setCell HY6.out hA _) hA _) hA _) hA _) hA _) hA _⟩
      case measure=>simp [intOf];omega
    ·skip
     (unfold wpComesS;simp only [List.getElem?_toArray,List.getElem?_cons_succ,List.getElem?_cons_zero,Option.some.injEq];refine ⟨_,rfl,fun K hK=>?_⟩)
     go_wp2;refine hK _ _ (.inr (SC.blocks fun a ha=>Ext.block (w:=(wr.alloc (.cells #[x0,x1,x2] 37))) X_ (by have h:a.block=wr.heap.size:=ha;simp;omega))) ?_;clear hK K;refine wpZS_stage (fuel:=6) [] [1] (by kernel_rfl) (SC.blocks fun a ha=>Ext.block (w:=(wr.alloc (.cells #[x0,x1,x2] 37))) X_ (by have h:a.block=wr.heap.size:=ha;simp;omega)) ?_;refine wpQuiet_nil ?_;intro e he;simp only [List.mem_cons,List.not_mem_nil,or_false] at he;subst he
     (unfold wpComesS;simp only [List.getElem?_toArray,List.getElem?_cons_succ,List.getElem?_cons_zero,Option.some.injEq];refine ⟨_,rfl,fun K hK=>?_⟩)
     go_wp2;refine hK _ _ (.inr (SC.blocks fun a ha=>Ext.block (w:=(wr.alloc (.cells #[x0,x1,x2] 37))) X_ (by have h:a.block=wr.heap.size:=ha;simp;omega))) ?_;clear hK K;refine wpZS_stage (fuel:=5) [] [3] (by kernel_rfl) (SC.blocks fun a ha=>Ext.block (w:=(wr.alloc (.cells #[x0,x1,x2] 37))) X_ (by have h:a.block=wr.heap.size:=ha;simp;omega)) ?_;refine wpQuiet_nil ?_;intro e he;simp only [List.mem_cons,List.not_mem_nil,or_false] at he;subst he
     (unfold wpComesS;simp only [List.getElem?_toArray,List.getElem?_cons_succ,List.getElem?_cons_zero,Option.some.injEq];refine ⟨_,rfl,fun K hK=>?_⟩)
     go_wp2_with fail;refine (iMinVec_val E0.out E1.out E2.out _).mono ?_;rintro e w5 ⟨rfl,x5⟩;have y5:Ext (wr.alloc (.cells #[x0,x1,x2] 37)) w5:=Ext.trans X_ x5;go_wp2_with fail;refine hK _ _ (.inr (SC.blocks fun a ha=>Ext.block y5 (by have h:a.block=wr.heap.size:=ha;simp;omega))) ?_;clear hK K;refine wpZS_stage (fuel:=3) [8] [7] (by kernel_rfl) (SC.blocks fun a ha=>Ext.block y5 (by have h:a.block=wr.heap.size:=ha;simp;omega)) ?_
     try simp only [Act.put,List.setIfInBounds_toArray,List.set_cons_succ,List.set_cons_zero]
     simp only [List.filterMap_cons,List.filterMap_nil,List.getElem?_toArray,List.getElem?_cons_zero,List.getElem?_cons_succ]
     show wpQuiet _ _ _ _ [_] _
     repeat (go_big_quiet_step (fail))
     refine wpQuiet_nil ?_;intro e he;simp only [List.mem_cons,List.not_mem_nil,or_false] at he;subst he
     (unfold wpComesS;simp only [List.getElem?_toArray,List.getElem?_cons_succ,List.getElem?_cons_zero,Option.some.injEq];refine ⟨_,rfl,fun K hK=>?_⟩)
     go_wp2_with fail;refine (iMaxVec_val E3.out E4.out E5.out _).mono ?_;rintro e w6 ⟨rfl,x6⟩;have y6:=y5.trans x6;go_wp2_with fail;refine hK _ _ (.inr (SC.blocks fun a ha=>Ext.block y6 (by have h:a.block=wr.heap.size:=ha;simp;omega))) ?_;clear hK K;have b6:=HQ2.out.ext y6;have HY6:=hid (XQ.out.trans y6);have HB6:=hid b6;have l6:=b6.lt;have HYY:=hid y6;clear x5 y5 x6 y6 b6 c0 c1 c2 c3 c4 c5 lcl d0 d1 d2;have c0:=HB6.out.cell 0 rfl;have c1:=HB6.out.cell 1 rfl;have c2:=HB6.out.cell 2 rfl;have c3:=HB6.out.cell 3 rfl;have c4:=HB6.out.cell 4 rfl;have c5:=HB6.out.cell 5 rfl;have k0:=HB6.out.free 0;have k1:=HB6.out.free 1;have k2:=HB6.out.free 2;have k3:=HB6.out.free 3;have k4:=HB6.out.free 4;have k5:=HB6.out.free 5;refine wpZS_stage (fuel:=2) [] [9] (by kernel_rfl) (SC.blocks fun a ha=>Ext.block HYY.out (by have h:a.block=wr.heap.size:=ha;simp;omega)) ?_;refine wpQuiet_nil ?_;intro e he;simp only [List.mem_cons,List.not_mem_nil,or_false] at he;subst he
     (unfold wpComesS;simp only [List.getElem?_toArray,List.getElem?_cons_succ,List.getElem?_cons_zero,Option.some.injEq];refine ⟨_,rfl,fun K hK=>?_⟩)
     go_wp2;refine hK _ _ (.inr (SC.blocks fun a ha=>(heap_3 _ _ _ _ _ _ _ _ (by have h:a.block=wr.heap.size:=ha;omega)).trans (Ext.block HYY.out (by have h:a.block=wr.heap.size:=ha;simp;omega)))) ?_;clear hK K;refine wpZS_stage (fuel:=0) [10] [11] (by kernel_rfl) (SC.blocks fun a ha=>(heap_3 _ _ _ _ _ _ _ _ (by have h:a.block=wr.heap.size:=ha;omega)).trans (Ext.block HYY.out (by have h:a.block=wr.heap.size:=ha;simp;omega))) ?_
     try simp only [Act.put,List.setIfInBounds_toArray,List.set_cons_succ,List.set_cons_zero]
     simp only [List.filterMap_cons,List.filterMap_nil,List.getElem?_toArray,List.getElem?_cons_zero,List.getElem?_cons_succ]
     show wpQuiet _ _ _ _ [_] _
     repeat (go_big_quiet_step (fail))
     refine wpQuiet_nil ?_;intro e he;simp only [List.mem_cons,List.not_mem_nil,or_false] at he;subst he
     (unfold wpComesS;simp only [List.getElem?_toArray,List.getElem?_cons_succ,List.getElem?_cons_zero,Option.some.injEq];refine ⟨_,rfl,fun K hK=>?_⟩)
     go_wp2;refine hK _ _ (.inl (by trivial)) ?_;clear hK K;refine wpZS_end (by kernel_rfl) ?_;go_wp2;go_roundw
     case rel=>exact ⟨k+1,by omega,by go_num,(((((HB6.out.set 0 _).set 1 _).set 2 _).set 3 _).set 4 _).set 5 _,Ext.setCell (Ext.setCell (Ext.setCell (Ext.setCell (Ext.setCell (Ext.setCell HY6.out hA _) hA _) hA _) hA _) hA _) hA _⟩
     case measure=>simp [intOf];omega
   ·obtain rfl:k=3:=by omega
    have q:=HQ.out.ext x;have lq:=q.lt;have c0:=b.cell 0 rfl;have q0:=q.cell 0 rfl;have m0:=q.free 0;have c1:=b.cell 1 rfl;have q1:=q.cell 1 rfl;have m1:=q.free 1;have c2:=b.cell 2 rfl;have q2:=q.cell 2 rfl;have m2:=q.free 2;have c3:=b.cell 3 rfl;have q3:=q.cell 3 rfl;have m3:=q.free 3;have c4:=b.cell 4 rfl;have q4:=q.cell 4 rfl;have m4:=q.free 4;have c5:=b.cell 5 rfl;have q5:=q.cell 5 rfl;have m5:=q.free 5;have lb:=b.lt
    have hne:A≠w.heap.size:=by have:=Z1.out;omega
    rw [loK_all] at c0 c1 c2;rw [hiK_all] at c3 c4 c5;have hx:=HX.out.trans x;have HXF:=hid hx;clear b x q hx;go_wp2;refine bodyPost_ret (v:=.tuple #[.agg #[(loP f 0),(loP f 1),(loP f 2),(hiP f 0),(hiP f 1),(hiP f 2)],.bool true]) (by simp [results,Tryz.results148,go_sem, *]) rfl ⟨rfl,?_⟩;have hx:=HXF.out;exact S_
theorem twelve2 {i:Nat} (h:i<12):i=0\/i=1\/i=2\/i=3\/i=4\/i=5\/i=6\/i=7\/i=8\/i=9\/i=10\/i=11:=by omega
theorem rowI12_w {f:Nat->Int} {w:World} {t:TypeId}:RowI (w.alloc (.cells #[(f 0),(f 1),(f 2),(f 3),(f 4),(f 5),(f 6),(f 7),(f 8),(f 9),(f 10),(f 11)] t)) w.heap.size t 12 f:=
 World.rowIs_alloc _ _ _ _ fun i hi=>by rcases twelve2 hi with h|h|h|h|h|h|h|h|h|h|h|h <;> subst h <;> rfl
theorem iPatchBounds_val (f:Nat->Int) (w:World):Calls Tryz.prog 90 #[.agg #[(f 0),(f 1),(f 2),(f 3),(f 4),(f 5),(f 6),(f 7),(f 8),(f 9),(f 10),(f 11)]] w fun e w'=>e = .returned (.agg #[(loP f 0),(loP f 1),(loP f 2),(hiP f 0),(hiP f 1),(hiP f 2)])/\Ext w w':=by
 have HR:=hid (RowI.alloc (rowI12_w (f:=f) (w:=w) (t:=40)) (.cells #[(),(),(),(),(),()] 86));have hq:=Blk.new (w.alloc (.cells #[(f 0),(f 1),(f 2),(f 3),(f 4),(f 5),(f 6),(f 7),(f 8),(f 9),(f 10),(f 11)] 40)) 86 [(),(),(),(),(),()];rw [World.size_alloc] at hq;have HQ:=hid hq;clear hq;go_enter Tryz.func90,Tryz.ntmps90;go_wp2_with fail;refine (iBoundPoints_any f w.heap.size _ HR.out).mono ?_;rintro e w3 ⟨rfl,x3⟩;have b3:=HQ.out.ext x3;have y3:Ext w w3:=Ext.trans X_ x3;have l3:=b3.lt;have c0:=b3.cell 0 rfl;have k0:=b3.free 0;have c1:=b3.cell 1 rfl;have k1:=b3.free 1;have c2:=b3.cell 2 rfl;have k2:=b3.free 2;have c3:=b3.cell 3 rfl;have k3:=b3.free 3;have c4:=b3.cell 4 rfl;have k4:=b3.free 4;have c5:=b3.cell 5 rfl;have k5:=b3.free 5;clear b3 x3;go_wp2;refine bodyPost_ret (v:=.agg #[(loP f 0),(loP f 1),(loP f 2),(hiP f 0),(hiP f 1),(hiP f 2)]) (by simp [results,Tryz.results90,go_sem, *]) rfl ⟨rfl,S_⟩
theorem iSurfaceBox_val (f g:Nat->Int) (sh rt:Int) (w:World):Calls Tryz.prog 37 #[.agg #[(f 0),(f 1),(f 2),(f 3),(f 4),(f 5),(f 6),(f 7),(f 8),(f 9),(f 10),(f 11),(g 0),(g 1),(g 2),(g 3),(g 4),(g 5),(g 6),(g 7),(g 8),(g 9),(g 10),(g 11),sh,rt]] w fun e w'=>e = .returned (.agg #[(loS f g 0),(loS f g 1),(loS f g 2),(hiS f g 0),(hiS f g 1),(hiS f g 2)])/\Ext w w':=by
 have H0:=hid (show min3 (cl (loP f 0)) (cl (loP g 0))=loS f g 0 by rw [cl_loP,cl_loP];rfl);have H1:=hid (show min3 (cl (loP f 1)) (cl (loP g 1))=loS f g 1 by rw [cl_loP,cl_loP];rfl);have H2:=hid (show min3 (cl (loP f 2)) (cl (loP g 2))=loS f g 2 by rw [cl_loP,cl_loP];rfl);have H3:=hid (show max3 (cl (hiP f 0)) (cl (hiP g 0))=hiS f g 0 by rw [cl_hiP,cl_hiP];rfl);have H4:=hid (show max3 (cl (hiP f 1)) (cl (hiP g 1))=hiS f g 1 by rw [cl_hiP,cl_hiP];rfl);have H5:=hid (show max3 (cl (hiP f 2)) (cl (hiP g 2))=hiS f g 2 by rw [cl_hiP,cl_hiP];rfl);go_enter Tryz.func37,Tryz.ntmps37;go_upto_region 1 with fail
 obtain ⟨W0,hW0⟩:∃W0,(w.alloc (.cells #[(f 0),(f 1),(f 2),(f 3),(f 4),(f 5),(f 6),(f 7),(f 8),(f 9),(f 10),(f 11),(g 0),(g 1),(g 2),(g 3),(g 4),(g 5),(g 6),(g 7),(g 8),(g 9),(g 10),(g 11),sh,rt] 42)).alloc (.cells #[(),(),(),(),(),()] 86)=W0:=⟨_,rfl⟩
 have bS:Blk W0 w.heap.size 42 [(f 0),(f 1),(f 2),(f 3),(f 4),(f 5),(f 6),(f 7),(f 8),(f 9),(f 10),(f 11),(g 0),(g 1),(g 2),(g 3),(g 4),(g 5),(g 6),(g 7),(g 8),(g 9),(g 10),(g 11),sh,rt]:=by rw [<-hW0];exact (Blk.new w 42 [(f 0),(f 1),(f 2),(f 3),(f 4),(f 5),(f 6),(f 7),(f 8),(f 9),(f 10),(f 11),(g 0),(g 1),(g 2),(g 3),(g 4),(g 5),(g 6),(g 7),(g 8),(g 9),(g 10),(g 11),sh,rt]).ext X_
 have bB:Blk W0 (w.heap.size+1) 86 [(),(),(),(),(),()]:=by
  rw [<-hW0];have h:=Blk.new (w.alloc (.cells #[(f 0),(f 1),(f 2),(f 3),(f 4),(f 5),(f 6),(f 7),(f 8),(f 9),(f 10),(f 11),(g 0),(g 1),(g 2),(g 3),(g 4),(g 5),(g 6),(g 7),(g 8),(g 9),(g 10),(g 11),sh,rt] 42)) 86 [(),(),(),(),(),()];rw [World.size_alloc] at h;exact h
 have X0:Ext w W0:=by rw [<-hW0];exact X_
 rw [hW0];clear hW0;have s0:=bS.cell 0 rfl;have s1:=bS.cell 1 rfl;have s2:=bS.cell 2 rfl;have s3:=bS.cell 3 rfl;have s4:=bS.cell 4 rfl;have s5:=bS.cell 5 rfl;have s6:=bS.cell 6 rfl;have s7:=bS.cell 7 rfl;have s8:=bS.cell 8 rfl;have s9:=bS.cell 9 rfl;have s10:=bS.cell 10 rfl;have s11:=bS.cell 11 rfl;have s12:=bS.cell 12 rfl;have s13:=bS.cell 13 rfl;have s14:=bS.cell 14 rfl;have s15:=bS.cell 15 rfl;have s16:=bS.cell 16 rfl;have s17:=bS.cell 17 rfl;have s18:=bS.cell 18 rfl;have s19:=bS.cell 19 rfl;have s20:=bS.cell 20 rfl;have s21:=bS.cell 21 rfl;have s22:=bS.cell 22 rfl;have s23:=bS.cell 23 rfl;have ls:=bS.lt;have HB:=hid bB;have HX:=hid X0;clear bS bB X0;refine wp_region_stages [([0,1,3,4],2),([],5),([],6),([],7)] 7 W0.heap.size (by kernel_rfl) (by kernel_rfl) ?_;refine wpStages_cons ?_;simp only [List.filterMap_cons,List.filterMap_nil,List.getElem?_toArray,List.getElem?_cons_zero,List.getElem?_cons_succ]
 show wpQuiet _ _ _ _ [_,_,_,_] _
 repeat (go_big_quiet_step (fail))
 refine wpQuiet_nil ⟨_,rfl,fun K hK=>?_⟩;go_wp2_with fail;refine (iPatchBounds_val f _).mono ?_;rintro e w3 ⟨rfl,x3⟩;have y3:Ext W0 w3:=Ext.trans (Ext.drew (Ext.refl _)) x3;go_wp2_with fail;refine hK _ _ (.inr (y3.same (Nat.le_refl _))) ?_;clear hK K;refine st_ fun K hK=>?_;go_wp2_with fail;refine (iPatchBounds_val g _).mono ?_;rintro e w4 ⟨rfl,x4⟩;have y4:=y3.trans x4;go_wp2_with fail;refine hK _ _ (.inr (y4.same (Nat.le_refl _))) ?_;clear hK K;refine st_ fun K hK=>?_;go_wp2_with fail;refine (iUnionBox_val H0.out H1.out H2.out H3.out H4.out H5.out _).mono ?_;rintro e w5 ⟨rfl,x5⟩;have y5:=y4.trans x5;go_wp2_with fail;refine hK _ _ (.inr (y5.same (Nat.le_refl _))) ?_;clear hK K;have b5:=HB.out.ext y5;have z5:=HX.out.trans y5;have l5:=b5.lt;have c0:=b5.cell 0 rfl;have k0:=b5.free 0;have c1:=b5.cell 1 rfl;have k1:=b5.free 1;have c2:=b5.cell 2 rfl;have k2:=b5.free 2;have c3:=b5.cell 3 rfl;have k3:=b5.free 3;have c4:=b5.cell 4 rfl;have k4:=b5.free 4;have c5:=b5.cell 5 rfl;have k5:=b5.free 5;clear b5 x3 y3 x4 y4 x5 y5 s0 s1 s2 s3 s4 s5 s6 s7 s8 s9 s10 s11 s12 s13 s14 s15 s16 s17 s18 s19 s20 s21 s22 s23 ls;refine st_ fun K hK=>?_;go_wp2_with fail;refine hK _ _ (.inl (by trivial)) ?_;clear hK K;refine wpStages_nil ?_;go_wp2;refine bodyPost_ret (v:=.agg #[(loS f g 0),(loS f g 1),(loS f g 2),(hiS f g 0),(hiS f g 1),(hiS f g 2)]) (by simp [results,Tryz.results37,go_sem, *]) rfl ⟨rfl,S_⟩
theorem iSurfaceNear_val (f g:Nat->Int) (sh rt:Int) (w:World):Calls Tryz.prog 10 #[.agg #[(f 0),(f 1),(f 2),(f 3),(f 4),(f 5),(f 6),(f 7),(f 8),(f 9),(f 10),(f 11),(g 0),(g 1),(g 2),(g 3),(g 4),(g 5),(g 6),(g 7),(g 8),(g 9),(g 10),(g 11),sh,rt]] w fun e w'=>e = .returned (.int .i64 (nearS f g))/\Ext w w':=by
 have hN:=hid (show loS f g 2=nearS f g from rfl)
 have j0:∀w:World,(Instr.field 86 (.agg #[(loS f g 0),(loS f g 1),(loS f g 2),(hiS f g 0),(hiS f g 1),(hiS f g 2)]) 0).run Tryz.prog w = .ok (.agg #[(loS f g 0),(loS f g 1),(loS f g 2)]) w:=fun _=>by kernel_rfl
 have j1:∀w:World,(Instr.field 37 (.agg #[(loS f g 0),(loS f g 1),(loS f g 2)]) 2).run Tryz.prog w = .ok (.int .i64 (loS f g 2)) w:=fun _=>by kernel_rfl
 have hcA:=(Blk.new w 42 [(f 0),(f 1),(f 2),(f 3),(f 4),(f 5),(f 6),(f 7),(f 8),(f 9),(f 10),(f 11),(g 0),(g 1),(g 2),(g 3),(g 4),(g 5),(g 6),(g 7),(g 8),(g 9),(g 10),(g 11),sh,rt]).rangeB;have X0:Ext w (w.alloc (.cells #[(f 0),(f 1),(f 2),(f 3),(f 4),(f 5),(f 6),(f 7),(f 8),(f 9),(f 10),(f 11),(g 0),(g 1),(g 2),(g 3),(g 4),(g 5),(g 6),(g 7),(g 8),(g 9),(g 10),(g 11),sh,rt] 42)):=X_;have HX:=hid X0;clear X0;go_enter Tryz.func10,Tryz.ntmps10;go_wp2_with (show wpList _ _ _ [_,_,_,_,_] _ _;refine wpList_load_mid rfl _ _ rfl w.heap.size 0 rfl [(f 0),(f 1),(f 2),(f 3),(f 4),(f 5),(f 6),(f 7),(f 8),(f 9),(f 10),(f 11),(g 0),(g 1),(g 2),(g 3),(g 4),(g 5),(g 6),(g 7),(g 8),(g 9),(g 10),(g 11),sh,rt] _ hcA Tryz.underlying42 rfl info_srfS ?_);refine (iSurfaceBox_val f g sh rt _).mono ?_;rintro e w3 ⟨rfl,x3⟩;have y3:=HX.out.trans x3;clear hcA;go_wp2;go_ret;exact ⟨ret_int hN.out,y3⟩
theorem max3_max (a b:Int):max3 a b=max a b:=by unfold max3;split <;> omega
theorem min3_min (a b:Int):min3 a b=min a b:=by unfold min3;split <;> omega
theorem kind_val (cw ch zo ne le fo:Int) (de:Bool) {k:Int} (hk:(if de then 1 else 0)=k) (w:World) :
  Calls Tryz.prog 234 #[.agg #[cw,ch,zo,ne,.bool de,le,fo]] w fun e w'=>e = .returned (.int .i64 k)/\Ext w w':=by
 subst hk
 cases de
 all_goals
  go_enter Tryz.func234,Tryz.ntmps234;go_wp2;go_ret;exact ⟨rfl,X_⟩
theorem ints5 {w:World} {g:Nat} {a b c d f:Int} (h:Blk w g 3 [a,b,c,d,f]) (hi:∀y∈[a,b,c,d,f],I64 y):Ints 0 w.heap.size w (.slice (some ⟨g,0,none⟩) 5 5) [a,b,c,d,f]:=
 ⟨_,5,rfl,Nat.le_refl _,by unfold maxLen;omega,fun i y hy=>⟨hi y (List.mem_of_getElem? hy),g,0,rfl,Nat.zero_le _,h.lt,by
  rw [Nat.zero_add];have e:=congrArg (Option.map (Value.int .i64)) hy;rw [<-List.getElem?_map] at e
  exact h.cell i e⟩⟩
structure AxOk (c:Cam) (lo hi zlo zhi half:Int):Prop where
 lo : -1000000<=lo/\lo<=1000000
 hi : -1000000<=hi/\hi<=1000000
 zlo:1<=zlo/\zlo<=1000000
 zhi:1<=zhi/\zhi<=1000000
 half:0<=half/\half<=1000
theorem axisRange_val {c:Cam} (hc:c.Ok) {lo hi zlo zhi half rl rh:Int} (hb:AxOk c lo hi zlo zhi half) (hl:c.axLo lo zlo zhi half=rl) (hh:c.axHi hi zlo zhi half=rh) (w:World) :
  Calls Tryz.prog 170 #[.agg #[c.w,c.h,c.zoom,c.near,.bool c.deep,c.lens,c.focus],lo,hi,zlo,zhi,half] w fun e w'=>e = .returned (.tuple #[rl,rh])/\Ext w w':=by
 have HCB:=hid (Cam.okB_iff.2 hc);obtain ⟨h1,h2,h3,h4,h5⟩:=hb;have hzo:=hc.zoom;have hle:=hc.lens;have hfo:=hc.focus
 obtain ⟨A1,hA1⟩:∃A,absI (zlo - c.focus)=A:=⟨_,rfl⟩
 obtain ⟨A2,hA2⟩:∃A,absI (zhi - c.focus)=A:=⟨_,rfl⟩
 have bA1:=absI_le (x:=zlo - c.focus) (m:=1000000) (by omega);have bA2:=absI_le (x:=zhi - c.focus) (m:=1000000) (by omega);rw [hA1] at bA1;rw [hA2] at bA2
 obtain ⟨M,hM⟩:∃M,max A1 A2=M:=⟨_,rfl⟩
 have bM:0<=M/\M<=1000000:=by omega
 obtain ⟨l16,hl16⟩:∃l,16*c.lens=l:=⟨_,rfl⟩
 have bl:0<=l16/\l16<=1024:=by omega
 obtain ⟨P,hP⟩:∃P,l16*M=P:=⟨_,rfl⟩
 have bP:0<=P/\P<=1024000000:=hP▸⟨Int.mul_nonneg bl.1 bM.1,by have:=(mul_abs (a:=l16) (b:=M) (A:=1024) (B:=1000000) (by omega) (by omega)).2;omega⟩
 obtain ⟨Q,hQ⟩:∃Q,P / 4096=Q:=⟨_,rfl⟩
 have hQt:Int.tdiv P 4096=Q:=by rw [Int.tdiv_eq_ediv_of_nonneg bP.1];exact hQ
 have bQ:0<=Q/\Q<=250000:=by omega
 have hS:c.spread zlo zhi=Q+1:=by
  unfold Cam.spread;rw [hA1,hA2,max3_max,hM,hl16,hP,hQ]
 obtain ⟨pa,hpa⟩:∃p,(lo - (Q+1))*c.zoom=p:=⟨_,rfl⟩
 obtain ⟨pb,hpb⟩:∃p,(hi+(Q+1))*c.zoom=p:=⟨_,rfl⟩
 have bpa:=mul_abs (a:=lo - (Q+1)) (b:=c.zoom) (A:=1250001) (B:=65536) (by omega) (by omega);have bpb:=mul_abs (a:=hi+(Q+1)) (b:=c.zoom) (A:=1250001) (B:=65536) (by omega) (by omega);rw [hpa] at bpa;rw [hpb] at bpb;unfold Cam.axLo at hl;unfold Cam.axHi at hh;rw [hS,hpa,min3_min] at hl;rw [hS,hpb,max3_max] at hh
 obtain ⟨f1,hf1⟩:∃f,fdiv pa (c.by zlo)=f:=⟨_,rfl⟩
 obtain ⟨f2,hf2⟩:∃f,fdiv pa (c.by zhi)=f:=⟨_,rfl⟩
 obtain ⟨g1,hg1⟩:∃f,fdiv pb (c.by zlo)=f:=⟨_,rfl⟩
 obtain ⟨g2,hg2⟩:∃f,fdiv pb (c.by zhi)=f:=⟨_,rfl⟩
 have bf1:=fdiv_small (a:=pa) (b:=c.by zlo) (m:=81920065536) (by omega);have bf2:=fdiv_small (a:=pa) (b:=c.by zhi) (m:=81920065536) (by omega);have bg1:=fdiv_small (a:=pb) (b:=c.by zlo) (m:=81920065536) (by omega);have bg2:=fdiv_small (a:=pb) (b:=c.by zhi) (m:=81920065536) (by omega);rw [hf1] at bf1;rw [hf2] at bf2;rw [hg1] at bg1;rw [hg2] at bg2;rw [hf1,hf2] at hl;rw [hg1,hg2] at hh
 obtain ⟨m1,hm1⟩:∃m,min f1 f2=m:=⟨_,rfl⟩
 obtain ⟨m2,hm2⟩:∃m,max g1 g2=m:=⟨_,rfl⟩
 rw [hm1] at hl;rw [hm2] at hh
 have bm1 : -81920065536<=m1/\m1<=81920065536:=by omega
 have bm2 : -81920065536<=m2/\m2<=81920065536:=by omega
 have HL:=hid (show clampI (m1+half) (-100000) 100000=rl from hl);have HH:=hid (show clampI (m2+half) (-100000) 100000=rh from hh);have HA1:=hid hA1;have HA2:=hid hA2;have IA:=hid (show I64 pa from ⟨by omega,by omega⟩);have IB:=hid (show I64 pb from ⟨by omega,by omega⟩)
 have i1 : -9223372036854775808<=pa/\pa<=9223372036854775807:=by omega
 have i2 : -9223372036854775808<=pb/\pb<=9223372036854775807:=by omega
 have HAW:=hid (show ([lo,hi,zlo,zhi,half].all fun x=>inB x (-1000000) 1000000)=true by
  simp only [List.all_cons,List.all_nil,Bool.and_true,Bool.and_eq_true,inB_iff]
  omega)
 have HI5:=hid (show ∀y∈[lo,hi,zlo,zhi,half],I64 y from fun y hy=>by
  simp only [List.mem_cons,List.not_mem_nil,or_false] at hy
  rcases hy with rfl|rfl|rfl|rfl|rfl <;> exact ⟨by omega,by omega⟩)
 have hz1 : ¬zlo<1:=by omega
 have hz2 : ¬zhi<1:=by omega
 clear hl hh hS hA1 hA2 hc
 rcases (show c.deep=true\/c.deep=false by cases c.deep <;> simp) with hde|hde
 ·have HK:=hid (show (if c.deep then (1:Int) else 0)=1 by rw [hde];rfl)
  have HF1:=hid (show fdiv pa zlo=f1 by rw [<-hf1];unfold Cam.by;rw [hde];rfl);have HF2:=hid (show fdiv pa zhi=f2 by rw [<-hf2];unfold Cam.by;rw [hde];rfl);have HG1:=hid (show fdiv pb zlo=g1 by rw [<-hg1];unfold Cam.by;rw [hde];rfl);have HG2:=hid (show fdiv pb zhi=g2 by rw [<-hg2];unfold Cam.by;rw [hde];rfl);clear hf1 hf2 hg1 hg2 hde;go_enter Tryz.func170,Tryz.ntmps170;go_upto_region 1 with fail
  obtain ⟨W0,hW0⟩:∃W0,w.alloc (.cells #[c.w,c.h,c.zoom,c.near,.bool c.deep,c.lens,c.focus] 24)=W0:=⟨_,rfl⟩
  rw [hW0];have HB0:=hid (show Blk W0 w.heap.size 24 [c.w,c.h,c.zoom,c.near,.bool c.deep,c.lens,c.focus] by rw [<-hW0];exact Blk.new w 24 [c.w,c.h,c.zoom,c.near,.bool c.deep,c.lens,c.focus]);have HX0:=hid (show Ext w W0 by rw [<-hW0];exact X_);clear hW0;have bq:=HB0.out.ext (Ext.refl _);obtain ⟨c0,c1,c2,c3,c4,c5,c6⟩:=bq.q7;have lq:=bq.lt;clear bq;go_wp2_with fail;refine (iIsValidCamera_val HCB.out _).mono ?_;rintro e w1 ⟨rfl,x1⟩;clear c0 c1 c2 c3 c4 c5 c6 lq;have B5:=hid (Blk.new w1 3 [lo,hi,zlo,zhi,half]);have X1:=hid x1;clear x1;go_wp2_with fail;refine (allWithin_any 0 _ _ [lo,hi,zlo,zhi,half] (-1000000) 1000000 _ (ints5 B5.out HI5.out)).mono ?_;rw [HAW.out];rintro e w2 ⟨rfl,rfl⟩;have X2:=hid (X1.out.trans (show Ext w1 (w1.alloc (.cells #[lo,hi,zlo,zhi,half] 3)) from X_))
  obtain ⟨W2,hW2⟩:∃W2,w1.alloc (.cells #[lo,hi,zlo,zhi,half] 3)=W2:=⟨_,rfl⟩
  rw [hW2] at X2 ⊢;clear hW2 X1 B5;have bq:=HB0.out.ext X2.out;obtain ⟨c0,c1,c2,c3,c4,c5,c6⟩:=bq.q7;have lq:=bq.lt;clear bq;go_wp2_with fail;refine wp_region_stages [([0,1,2,3,4,5,6,8,9,10,11],7),([],12),([],13),([14,15,16],17)] 17 (w.heap.size+1) (by kernel_rfl) (by kernel_rfl) ?_;refine st_ fun K hK=>?_;go_wp2_with fail;refine (absolute_val (by omega) HA1.out _).mono ?_;rintro e w3 ⟨rfl,rfl⟩;go_wp2_with fail;refine hK _ _ (.inr (fun k _ hk=>Ext.block X_ (by first|omega|(simp;omega)))) ?_;clear hK K;refine st_ fun K hK=>?_;go_wp2_with fail;refine (absolute_val (by omega) HA2.out _).mono ?_;rintro e w3 ⟨rfl,rfl⟩;go_wp2_with fail;refine hK _ _ (.inr (fun k _ hk=>Ext.block X_ (by first|omega|(simp;omega)))) ?_;clear hK K;refine st_ fun K hK=>?_;go_wp2_with fail;refine hK _ _ (.inr (fun k _ hk=>Ext.block X_ (by first|omega|(simp;omega)))) ?_;clear hK K;refine st_ fun K hK=>?_;go_wp2_with fail;refine hK _ _ (.inl (by trivial)) ?_;clear hK K;refine wpStages_nil ?_;go_wp2_with fail;refine (kind_val c.w c.h c.zoom c.near c.lens c.focus c.deep HK.out _).mono ?_;rintro e w3 ⟨rfl,x3⟩;have X3:=hid (X2.out.trans (Ext.trans (show Ext W2 W2.drew from X_) x3));clear x3 X2;clear c0 c1 c2 c3 c4 c5 c6 lq;have bq:=HB0.out.ext X3.out;obtain ⟨c0,c1,c2,c3,c4,c5,c6⟩:=bq.q7;have lq:=bq.lt;clear bq;go_wp2_with fail;refine wp_region_stages [([0,1,2,3,4,6,7,8,9,10],5),([],11),([],12),([],13)] 13 (w.heap.size+1) (by kernel_rfl) (by kernel_rfl) ?_;refine st_ fun K hK=>?_;go_wp2_with fail;refine (iFloorDiv_val IA.out HF1.out _).mono ?_;rintro e w4 ⟨rfl,rfl⟩;go_wp2_with fail;refine hK _ _ (.inr (fun k _ hk=>Ext.block X_ (by first|omega|(simp;omega)))) ?_;clear hK K;refine st_ fun K hK=>?_;go_wp2_with fail;refine (iFloorDiv_val IA.out HF2.out _).mono ?_;rintro e w4 ⟨rfl,rfl⟩;go_wp2_with fail;refine hK _ _ (.inr (fun k _ hk=>Ext.block X_ (by first|omega|(simp;omega)))) ?_;clear hK K;refine st_ fun K hK=>?_;go_wp2_with fail;refine hK _ _ (.inr (fun k _ hk=>Ext.block X_ (by first|omega|(simp;omega)))) ?_;clear hK K;refine st_ fun K hK=>?_;go_wp2_with fail;refine hK _ _ (.inl (by trivial)) ?_;clear hK K;refine wpStages_nil ?_;go_wp2_with fail;refine wp_region_stages [([0,1,2,3,4,6,7,8,9,10],5),([],11),([],12),([],13)] 13 (w.heap.size+1) (by kernel_rfl) (by kernel_rfl) ?_;refine st_ fun K hK=>?_;go_wp2_with fail;refine (iFloorDiv_val IB.out HG1.out _).mono ?_;rintro e w4 ⟨rfl,rfl⟩;go_wp2_with fail;refine hK _ _ (.inr (fun k _ hk=>Ext.block X_ (by first|omega|(simp;omega)))) ?_;clear hK K;refine st_ fun K hK=>?_;go_wp2_with fail;refine (iFloorDiv_val IB.out HG2.out _).mono ?_;rintro e w4 ⟨rfl,rfl⟩;go_wp2_with fail;refine hK _ _ (.inr (fun k _ hk=>Ext.block X_ (by first|omega|(simp;omega)))) ?_;clear hK K;refine st_ fun K hK=>?_;go_wp2_with fail;refine hK _ _ (.inr (fun k _ hk=>Ext.block X_ (by first|omega|(simp;omega)))) ?_;clear hK K;refine st_ fun K hK=>?_;go_wp2_with fail;refine hK _ _ (.inl (by trivial)) ?_;clear hK K;refine wpStages_nil ?_;go_wp2_with (go_at_call 46;with_reducible first|(refine (iClamp_val HL.out _).mono ?_;rintro e w5 ⟨rfl,rfl⟩)|(refine (iClamp_val HH.out _).mono ?_;rintro e w5 ⟨rfl,rfl⟩))
  go_ret2
  exact ⟨rfl,HX0.out.trans (X3.out.trans X_)⟩
 ·have HK:=hid (show (if c.deep then (1:Int) else 0)=0 by rw [hde];rfl)
  have HF1:=hid (show fdiv pa 256=f1 by rw [<-hf1];unfold Cam.by;rw [hde];rfl);have HF2:=hid (show fdiv pa 256=f2 by rw [<-hf2];unfold Cam.by;rw [hde];rfl);have HG1:=hid (show fdiv pb 256=g1 by rw [<-hg1];unfold Cam.by;rw [hde];rfl);have HG2:=hid (show fdiv pb 256=g2 by rw [<-hg2];unfold Cam.by;rw [hde];rfl);clear hf1 hf2 hg1 hg2 hde;go_enter Tryz.func170,Tryz.ntmps170;go_upto_region 1 with fail
  obtain ⟨W0,hW0⟩:∃W0,w.alloc (.cells #[c.w,c.h,c.zoom,c.near,.bool c.deep,c.lens,c.focus] 24)=W0:=⟨_,rfl⟩
  rw [hW0];have HB0:=hid (show Blk W0 w.heap.size 24 [c.w,c.h,c.zoom,c.near,.bool c.deep,c.lens,c.focus] by rw [<-hW0];exact Blk.new w 24 [c.w,c.h,c.zoom,c.near,.bool c.deep,c.lens,c.focus]);have HX0:=hid (show Ext w W0 by rw [<-hW0];exact X_);clear hW0;have bq:=HB0.out.ext (Ext.refl _);obtain ⟨c0,c1,c2,c3,c4,c5,c6⟩:=bq.q7;have lq:=bq.lt;clear bq;go_wp2_with fail;refine (iIsValidCamera_val HCB.out _).mono ?_;rintro e w1 ⟨rfl,x1⟩;clear c0 c1 c2 c3 c4 c5 c6 lq;have B5:=hid (Blk.new w1 3 [lo,hi,zlo,zhi,half]);have X1:=hid x1;clear x1;go_wp2_with fail;refine (allWithin_any 0 _ _ [lo,hi,zlo,zhi,half] (-1000000) 1000000 _ (ints5 B5.out HI5.out)).mono ?_;rw [HAW.out];rintro e w2 ⟨rfl,rfl⟩;have X2:=hid (X1.out.trans (show Ext w1 (w1.alloc (.cells #[lo,hi,zlo,zhi,half] 3)) from X_))
  obtain ⟨W2,hW2⟩:∃W2,w1.alloc (.cells #[lo,hi,zlo,zhi,half] 3)=W2:=⟨_,rfl⟩
  rw [hW2] at X2 ⊢;clear hW2 X1 B5;have bq:=HB0.out.ext X2.out;obtain ⟨c0,c1,c2,c3,c4,c5,c6⟩:=bq.q7;have lq:=bq.lt;clear bq;go_wp2_with fail;refine wp_region_stages [([0,1,2,3,4,5,6,8,9,10,11],7),([],12),([],13),([14,15,16],17)] 17 (w.heap.size+1) (by kernel_rfl) (by kernel_rfl) ?_;refine st_ fun K hK=>?_;go_wp2_with fail;refine (absolute_val (by omega) HA1.out _).mono ?_;rintro e w3 ⟨rfl,rfl⟩;go_wp2_with fail;refine hK _ _ (.inr (fun k _ hk=>Ext.block X_ (by first|omega|(simp;omega)))) ?_;clear hK K;refine st_ fun K hK=>?_;go_wp2_with fail;refine (absolute_val (by omega) HA2.out _).mono ?_;rintro e w3 ⟨rfl,rfl⟩;go_wp2_with fail;refine hK _ _ (.inr (fun k _ hk=>Ext.block X_ (by first|omega|(simp;omega)))) ?_;clear hK K;refine st_ fun K hK=>?_;go_wp2_with fail;refine hK _ _ (.inr (fun k _ hk=>Ext.block X_ (by first|omega|(simp;omega)))) ?_;clear hK K;refine st_ fun K hK=>?_;go_wp2_with fail;refine hK _ _ (.inl (by trivial)) ?_;clear hK K;refine wpStages_nil ?_;go_wp2_with fail;refine (kind_val c.w c.h c.zoom c.near c.lens c.focus c.deep HK.out _).mono ?_;rintro e w3 ⟨rfl,x3⟩;have X3:=hid (X2.out.trans (Ext.trans (show Ext W2 W2.drew from X_) x3));clear x3 X2;clear c0 c1 c2 c3 c4 c5 c6 lq;have bq:=HB0.out.ext X3.out;obtain ⟨c0,c1,c2,c3,c4,c5,c6⟩:=bq.q7;have lq:=bq.lt;clear bq;go_wp2_with fail;refine wp_region_stages [([0,1,2,3,4,6,7,8,9,10],5),([],11),([],12),([],13)] 13 (w.heap.size+1) (by kernel_rfl) (by kernel_rfl) ?_;refine st_ fun K hK=>?_;go_wp2_with fail;refine (iFloorDiv_val IA.out HF1.out _).mono ?_;rintro e w4 ⟨rfl,rfl⟩;go_wp2_with fail;refine hK _ _ (.inr (fun k _ hk=>Ext.block X_ (by first|omega|(simp;omega)))) ?_;clear hK K;refine st_ fun K hK=>?_;go_wp2_with fail;refine (iFloorDiv_val IA.out HF2.out _).mono ?_;rintro e w4 ⟨rfl,rfl⟩;go_wp2_with fail;refine hK _ _ (.inr (fun k _ hk=>Ext.block X_ (by first|omega|(simp;omega)))) ?_;clear hK K;refine st_ fun K hK=>?_;go_wp2_with fail;refine hK _ _ (.inr (fun k _ hk=>Ext.block X_ (by first|omega|(simp;omega)))) ?_;clear hK K;refine st_ fun K hK=>?_;go_wp2_with fail;refine hK _ _ (.inl (by trivial)) ?_;clear hK K;refine wpStages_nil ?_;go_wp2_with fail;refine wp_region_stages [([0,1,2,3,4,6,7,8,9,10],5),([],11),([],12),([],13)] 13 (w.heap.size+1) (by kernel_rfl) (by kernel_rfl) ?_;refine st_ fun K hK=>?_;go_wp2_with fail;refine (iFloorDiv_val IB.out HG1.out _).mono ?_;rintro e w4 ⟨rfl,rfl⟩;go_wp2_with fail;refine hK _ _ (.inr (fun k _ hk=>Ext.block X_ (by first|omega|(simp;omega)))) ?_;clear hK K;refine st_ fun K hK=>?_;go_wp2_with fail;refine (iFloorDiv_val IB.out HG2.out _).mono ?_;rintro e w4 ⟨rfl,rfl⟩;go_wp2_with fail;refine hK _ _ (.inr (fun k _ hk=>Ext.block X_ (by first|omega|(simp;omega)))) ?_;clear hK K;refine st_ fun K hK=>?_;go_wp2_with fail;refine hK _ _ (.inr (fun k _ hk=>Ext.block X_ (by first|omega|(simp;omega)))) ?_;clear hK K;refine st_ fun K hK=>?_;go_wp2_with fail;refine hK _ _ (.inl (by trivial)) ?_;clear hK K;refine wpStages_nil ?_;go_wp2_with (go_at_call 46;with_reducible first|(refine (iClamp_val HL.out _).mono ?_;rintro e w5 ⟨rfl,rfl⟩)|(refine (iClamp_val HH.out _).mono ?_;rintro e w5 ⟨rfl,rfl⟩))
  go_ret2
  exact ⟨rfl,HX0.out.trans (X3.out.trans X_)⟩
theorem atMost_val (a b c x y z:Int) {r:Bool} (h:(decide (a<=x)&&decide (b<=y)&&decide (c<=z))=r) (w:World) :
  Calls Tryz.prog 174 #[.agg #[a,b,c],.agg #[x,y,z]] w fun e w'=>e = .returned (.bool r)/\Ext w w':=by
 subst h
 by_cases h1:a<=x
 ·by_cases h2:b<=y
  ·by_cases h3:c<=z
   all_goals
    go_enter Tryz.func174,Tryz.ntmps174;go_wp2;go_ret;exact ⟨by simp [*],X_⟩
  ·go_enter Tryz.func174,Tryz.ntmps174
   go_wp2;go_ret;exact ⟨by rw [decide_eq_false (show ¬b<=y by omega)];simp,X_⟩
 ·go_enter Tryz.func174,Tryz.ntmps174
  go_wp2;go_ret;exact ⟨by rw [decide_eq_false (show ¬a<=x by omega)];simp,X_⟩
theorem corners_val (a b c x y z:Int) (w:World) :
  Calls Tryz.prog 233 #[.agg #[a,b,c,x,y,z]] w fun e w'=>e = .returned (.tuple #[.agg #[a,b,c],.agg #[x,y,z]])/\Ext w w':=by
 have b2:=(Blk.new (w.alloc (.cells #[a,b,c,x,y,z] 86)) 258 [(),(),()])
 go_enter Tryz.func233,Tryz.ntmps233;go_wp2_with fail;refine wp_region_stages [([0,1,2,3,4,5],6),([],7)] 7 (w.heap.size+1) (by kernel_rfl) (by kernel_rfl) ?_;refine st_ fun K hK=>?_;go_wp2_with fail;refine hK _ _ (.inr (fun k _ hk=>(Ext.block (w:=w.alloc (.cells #[a,b,c,x,y,z] 86)) X_ (by simp;omega)).trans (Ext.block (w:=w.alloc (.cells #[a,b,c,x,y,z] 86)) X_ (by simp;omega)).symm)) ?_;clear hK K;refine st_ fun K hK=>?_;go_wp2_with fail;refine hK _ _ (.inl (by trivial)) ?_;clear hK K;refine wpStages_nil ?_;go_wp2;exact bodyPost_ret (v:=.tuple #[.agg #[a,b,c],.agg #[x,y,z]]) (by simp [results,Tryz.results233,go_sem]) rfl ⟨rfl,S_⟩
theorem fnMaxB_val {m n c:Int} (h:max m n=c) (w:World):Calls Tryz.prog 172 #[m,n] w fun e w'=>e = .returned (.int .i64 c)/\w=w':=by
 go_enter Tryz.func172,Tryz.ntmps172;go_wp2;go_ret;exact ⟨rfl,rfl⟩
theorem fnMinB_val {m n c:Int} (h:min m n=c) (w:World):Calls Tryz.prog 173 #[m,n] w fun e w'=>e = .returned (.int .i64 c)/\w=w':=by
 go_enter Tryz.func173,Tryz.ntmps173;go_wp2;go_ret;exact ⟨rfl,rfl⟩
theorem withMaxB_val {x y z k l m a b c:Int} (ha:max x k=a) (hb:max y l=b) (hc:max z m=c) (w:World) :
  Calls Tryz.prog 171 #[.agg #[x,y,z],.agg #[k,l,m],.func (.func 172) #[] #[]] w fun e w'=>e = .returned (.agg #[a,b,c])/\Ext w w':=by
 have HA:=hid ha;have HB:=hid hb;have HC:=hid hc;clear ha hb hc;go_enter Tryz.func171,Tryz.ntmps171;go_wp2;refine wp_region_stages [([0,1,2,3,4,6,7,8,9,10,12,13,14,15,16],5),([],11),([],17),([18],19)] 19 (w.heap.size+1+1+1) (by kernel_rfl) (by kernel_rfl) ?_;refine st_ fun K hK=>?_;go_wp2_with fail;refine (fnMaxB_val HA.out _).mono ?_;rintro e w1 ⟨rfl,rfl⟩;go_wp2_with fail;refine hK _ _ (.inr (fun k _ hk=>Ext.block X_ (by first|omega|(simp;omega)))) ?_;clear hK K;refine st_ fun K hK=>?_;go_wp2_with fail;refine (fnMaxB_val HB.out _).mono ?_;rintro e w1 ⟨rfl,rfl⟩;go_wp2_with fail;refine hK _ _ (.inr (fun k _ hk=>Ext.block X_ (by first|omega|(simp;omega)))) ?_;clear hK K;refine st_ fun K hK=>?_;go_wp2_with fail;refine (fnMaxB_val HC.out _).mono ?_;rintro e w1 ⟨rfl,rfl⟩;go_wp2_with fail;refine hK _ _ (.inr (fun k _ hk=>Ext.block X_ (by first|omega|(simp;omega)))) ?_;clear hK K;refine st_ fun K hK=>?_;go_wp2_with fail;refine hK _ _ (.inl (by trivial)) (wpStages_nil ?_);clear hK K;go_wp2;exact bodyPost_ret (v:=.agg #[a,b,c]) (by simp [results,Tryz.results171,go_sem, *]) rfl ⟨rfl,S_⟩
theorem withMinB_val {x y z k l m a b c:Int} (ha:min x k=a) (hb:min y l=b) (hc:min z m=c) (w:World) :
  Calls Tryz.prog 171 #[.agg #[x,y,z],.agg #[k,l,m],.func (.func 173) #[] #[]] w fun e w'=>e = .returned (.agg #[a,b,c])/\Ext w w':=by
 have HA:=hid ha;have HB:=hid hb;have HC:=hid hc;clear ha hb hc;go_enter Tryz.func171,Tryz.ntmps171;go_wp2;refine wp_region_stages [([0,1,2,3,4,6,7,8,9,10,12,13,14,15,16],5),([],11),([],17),([18],19)] 19 (w.heap.size+1+1+1) (by kernel_rfl) (by kernel_rfl) ?_;refine st_ fun K hK=>?_;go_wp2_with fail;refine (fnMinB_val HA.out _).mono ?_;rintro e w1 ⟨rfl,rfl⟩;go_wp2_with fail;refine hK _ _ (.inr (fun k _ hk=>Ext.block X_ (by first|omega|(simp;omega)))) ?_;clear hK K;refine st_ fun K hK=>?_;go_wp2_with fail;refine (fnMinB_val HB.out _).mono ?_;rintro e w1 ⟨rfl,rfl⟩;go_wp2_with fail;refine hK _ _ (.inr (fun k _ hk=>Ext.block X_ (by first|omega|(simp;omega)))) ?_;clear hK K;refine st_ fun K hK=>?_;go_wp2_with fail;refine (fnMinB_val HC.out _).mono ?_;rintro e w1 ⟨rfl,rfl⟩;go_wp2_with fail;refine hK _ _ (.inr (fun k _ hk=>Ext.block X_ (by first|omega|(simp;omega)))) ?_;clear hK K;refine st_ fun K hK=>?_;go_wp2_with fail;refine hK _ _ (.inl (by trivial)) (wpStages_nil ?_);clear hK K;go_wp2;exact bodyPost_ret (v:=.agg #[a,b,c]) (by simp [results,Tryz.results171,go_sem, *]) rfl ⟨rfl,S_⟩
theorem isValidBox_yes {a b c x y z:Int} (h1:okVec a b c=true) (h2:okVec x y z=true) (h3:a<=x/\b<=y/\c<=z) (w:World) :
  Calls Tryz.prog 169 #[.agg #[a,b,c,x,y,z]] w fun e w'=>e = .returned (.bool true)/\Ext w w':=by
 have H1:=hid h1;have H2:=hid h2;have H3:=hid (show (decide (a<=x)&&decide (b<=y)&&decide (c<=z))=true by simp [h3]);have b0:=Blk.new w 86 [a,b,c,x,y,z]
 obtain ⟨W0,hW0⟩:∃W0,w.alloc (.cells #[a,b,c,x,y,z] 86)=W0:=⟨_,rfl⟩
 have HX0:=hid (show Ext w W0 by rw [<-hW0];exact X_);have hb0:Blk W0 w.heap.size 86 [a,b,c,x,y,z]:=hW0▸b0;have HB0:=hid hb0;have HW0:=hid hW0;clear h1 h2 h3 b0 hb0 hW0;go_enter Tryz.func169,Tryz.ntmps169;go_upto_region 1 with fail;rw [HW0.out];have c0:=HB0.out.cell 0 rfl;have c1:=HB0.out.cell 1 rfl;have c2:=HB0.out.cell 2 rfl;have c3:=HB0.out.cell 3 rfl;have c4:=HB0.out.cell 4 rfl;have c5:=HB0.out.cell 5 rfl;go_wp2_with fail;refine (corners_val a b c x y z _).mono ?_;rintro e w1 ⟨rfl,x1⟩;have HX1:=hid x1;clear c0 c1 c2 c3 c4 c5 x1;have bq:=HB0.out.ext HX1.out;have c0:=bq.cell 0 rfl;have c1:=bq.cell 1 rfl;have c2:=bq.cell 2 rfl;have c3:=bq.cell 3 rfl;have c4:=bq.cell 4 rfl;have c5:=bq.cell 5 rfl;have lq:=bq.lt;clear bq;go_wp2_with fail;refine (iIsValidVec_val (x:=a) (y:=b) (z:=c) _).mono ?_;rw [H1.out];rintro e w2 ⟨rfl,x2⟩;have X2:=hid (HX1.out.trans (Ext.trans (show Ext w1 ((w1.alloc (.cells #[a,b,c] 258)).alloc (.cells #[x,y,z] 258)) from X_) x2));have K1:=hid ((Blk.new w1 258 [a,b,c]).ext (Ext.trans (show Ext _ ((w1.alloc (.cells #[a,b,c] 258)).alloc (.cells #[x,y,z] 258)) from X_) x2));have k2:=(Blk.new (w1.alloc (.cells #[a,b,c] 258)) 258 [x,y,z]).ext x2;rw [World.size_alloc] at k2;have K2:=hid k2;clear c0 c1 c2 c3 c4 c5 lq x2 k2;have bq:=HB0.out.ext X2.out;have c0:=bq.cell 0 rfl;have c1:=bq.cell 1 rfl;have c2:=bq.cell 2 rfl;have c3:=bq.cell 3 rfl;have c4:=bq.cell 4 rfl;have c5:=bq.cell 5 rfl;have lq:=bq.lt;clear bq;go_wp2_with fail;refine (iIsValidVec_val (x:=x) (y:=y) (z:=z) _).mono ?_;rw [H2.out];rintro e w3 ⟨rfl,x3⟩;have X3:=hid (X2.out.trans x3);have a0:=(K1.out.ext x3).cell 0 rfl;have a1:=(K1.out.ext x3).cell 1 rfl;have a2:=(K1.out.ext x3).cell 2 rfl;have d0:=(K2.out.ext x3).cell 0 rfl;have d1:=(K2.out.ext x3).cell 1 rfl;have d2:=(K2.out.ext x3).cell 2 rfl;have la:=(K1.out.ext x3).lt;have ld:=(K2.out.ext x3).lt;clear c0 c1 c2 c3 c4 c5 lq x3;go_wp2_with fail;refine (atMost_val a b c x y z H3.out _).mono ?_;rintro e w4 ⟨rfl,x4⟩;have X4:=hid (HX0.out.trans (X3.out.trans x4));clear x4;go_wp2;go_ret;exact ⟨rfl,X4.out⟩
theorem boxesOverlap_val (a0 a1 a2 a3 a4 a5 b0 b1 b2 b3 b4 b5:Int) {r:Bool} (h:(decide (max a0 b0<=min a3 b3)&&decide (max a1 b1<=min a4 b4)&&decide (max a2 b2<=min a5 b5))=r) (w:World) :
  Calls Tryz.prog 115 #[.agg #[a0,a1,a2,a3,a4,a5],.agg #[b0,b1,b2,b3,b4,b5]] w fun e w'=>e = .returned (.bool r)/\Ext w w':=by
 have HR:=hid h
 obtain ⟨m0,hm0⟩:∃m,max a0 b0=m:=⟨_,rfl⟩
 obtain ⟨n0,hn0⟩:∃m,min a3 b3=m:=⟨_,rfl⟩
 obtain ⟨m1,hm1⟩:∃m,max a1 b1=m:=⟨_,rfl⟩
 obtain ⟨n1,hn1⟩:∃m,min a4 b4=m:=⟨_,rfl⟩
 obtain ⟨m2,hm2⟩:∃m,max a2 b2=m:=⟨_,rfl⟩
 obtain ⟨n2,hn2⟩:∃m,min a5 b5=m:=⟨_,rfl⟩
 rw [hm0,hm1,hm2,hn0,hn1,hn2] at h;have HR:=hid h;have HM0:=hid hm0;have HN0:=hid hn0;have HM1:=hid hm1;have HN1:=hid hn1;have HM2:=hid hm2;have HN2:=hid hn2;clear h hm0 hm1 hm2 hn0 hn1 hn2;have pH1:=(Blk.new w 86 [a0,a1,a2,a3,a4,a5]).ext (show Ext _ ((w.alloc (.cells #[a0,a1,a2,a3,a4,a5] 86)).alloc (.cells #[b0,b1,b2,b3,b4,b5] 86)) from X_);have pH2:=Blk.new (w.alloc (.cells #[a0,a1,a2,a3,a4,a5] 86)) 86 [b0,b1,b2,b3,b4,b5];simp only [World.size_alloc] at pH2
 obtain ⟨W0,hW0⟩:∃W0,((w.alloc (.cells #[a0,a1,a2,a3,a4,a5] 86)).alloc (.cells #[b0,b1,b2,b3,b4,b5] 86))=W0:=⟨_,rfl⟩
 have HX0:=hid (show Ext w W0 by rw [<-hW0];exact X_)
 try simp only [World.size_alloc] at hW0
 rw [hW0] at pH1 pH2;have H1:=hid pH1;have H2:=hid pH2;have HW0:=hid hW0;clear hW0 pH1 pH2;go_enter Tryz.func115,Tryz.ntmps115;go_upto_region 1 with fail;rw [HW0.out];have bq:=H1.out.ext (Ext.refl _);have c0:=bq.cell 0 rfl;have c1:=bq.cell 1 rfl;have c2:=bq.cell 2 rfl;have c3:=bq.cell 3 rfl;have c4:=bq.cell 4 rfl;have c5:=bq.cell 5 rfl;have lc:=bq.lt;clear bq;have bq:=H2.out.ext (Ext.refl _);have d0:=bq.cell 0 rfl;have d1:=bq.cell 1 rfl;have d2:=bq.cell 2 rfl;have d3:=bq.cell 3 rfl;have d4:=bq.cell 4 rfl;have d5:=bq.cell 5 rfl;have ld:=bq.lt;clear bq;go_wp2_with fail;refine (withMaxB_val HM0.out HM1.out HM2.out _).mono ?_;rintro e w1 ⟨rfl,x1⟩;have X1:=hid (x1.trans (show Ext w1 (w1.alloc (.cells #[m0,m1,m2] 37)) from X_));have K1:=hid (Blk.new w1 37 [m0,m1,m2]);clear c0 c1 c2 c3 c4 c5 lc d0 d1 d2 d3 d4 d5 ld
 obtain ⟨W1,hW1⟩:∃W,w1.alloc (.cells #[m0,m1,m2] 37)=W:=⟨_,rfl⟩
 go_upto_region 2 with fail;rw [hW1] at X1 K1
 try rw [hW1]
 clear hW1 x1;have bq:=H1.out.ext X1.out;have c0:=bq.cell 0 rfl;have c1:=bq.cell 1 rfl;have c2:=bq.cell 2 rfl;have c3:=bq.cell 3 rfl;have c4:=bq.cell 4 rfl;have c5:=bq.cell 5 rfl;have lc:=bq.lt;clear bq;have bq:=H2.out.ext X1.out;have d0:=bq.cell 0 rfl;have d1:=bq.cell 1 rfl;have d2:=bq.cell 2 rfl;have d3:=bq.cell 3 rfl;have d4:=bq.cell 4 rfl;have d5:=bq.cell 5 rfl;have ld:=bq.lt;clear bq;go_wp2_with fail;refine (withMinB_val HN0.out HN1.out HN2.out _).mono ?_;rintro e w2 ⟨rfl,x2⟩;have K2:=hid (Blk.new w2 37 [n0,n1,n2]);have k1:=(K1.out.ext x2).ext (show Ext w2 (w2.alloc (.cells #[n0,n1,n2] 37)) from X_);have X2:=hid (X1.out.trans (x2.trans (show Ext w2 (w2.alloc (.cells #[n0,n1,n2] 37)) from X_)));clear c0 c1 c2 c3 c4 c5 lc d0 d1 d2 d3 d4 d5 ld
 obtain ⟨W2,hW2⟩:∃W,w2.alloc (.cells #[n0,n1,n2] 37)=W:=⟨_,rfl⟩
 go_upto_region 3 with fail;rw [hW2] at X2 K2 k1
 try rw [hW2]
 clear hW2 x2;obtain ⟨c0,c1,c2⟩:=k1.q3;obtain ⟨d0,d1,d2⟩:=K2.out.q3;have lc:=k1.lt;have ld:=K2.out.lt;clear k1;go_wp2_with fail;refine (atMost_val m0 m1 m2 n0 n1 n2 HR.out _).mono ?_;rintro e w3 ⟨rfl,x3⟩;have X3:=hid (HX0.out.trans (X2.out.trans x3));clear x3;go_wp2;go_ret;exact ⟨rfl,X3.out⟩
theorem viewBounds_val {c:Cam} (hc:c.Ok) {vw vh:Int} (hvw:c.w*16 - 1=vw) (hvh:c.h*16 - 1=vh) (w:World) :
  Calls Tryz.prog 59 #[.agg #[c.w,c.h,c.zoom,c.near,.bool c.deep,c.lens,c.focus]] w fun e w'=>e = .returned (.agg #[(),(),c.near,vw,vh,.int .i64 1000000])/\Ext w w':=by
 have HCB:=hid (Cam.okB_iff.2 hc);have hcw:=hc.w;have hch:=hc.h;have pH1:=(Blk.new w 24 [c.w,c.h,c.zoom,c.near,.bool c.deep,c.lens,c.focus]).ext (show Ext _ ((w.alloc (.cells #[c.w,c.h,c.zoom,c.near,.bool c.deep,c.lens,c.focus] 24)).alloc (.cells #[(),(),(),(),(),()] 86)) from X_);have pH2:=Blk.new (w.alloc (.cells #[c.w,c.h,c.zoom,c.near,.bool c.deep,c.lens,c.focus] 24)) 86 [(),(),(),(),(),()];simp only [World.size_alloc] at pH2
 obtain ⟨W0,hW0⟩:∃W0,((w.alloc (.cells #[c.w,c.h,c.zoom,c.near,.bool c.deep,c.lens,c.focus] 24)).alloc (.cells #[(),(),(),(),(),()] 86))=W0:=⟨_,rfl⟩
 have HX0:=hid (show Ext w W0 by rw [<-hW0];exact X_)
 try simp only [World.size_alloc] at hW0
 rw [hW0] at pH1 pH2;have H1:=hid pH1;have H2:=hid pH2;have HW0:=hid hW0;clear hW0 pH1 pH2 hc;go_enter Tryz.func59,Tryz.ntmps59;go_upto_region 1 with fail;rw [HW0.out];have bq:=H1.out.ext (Ext.refl _);obtain ⟨c0,c1,c2,c3,c4,c5,c6⟩:=bq.q7;have lc:=bq.lt;clear bq;go_wp2_with fail;refine (iIsValidCamera_val HCB.out _).mono ?_;rintro e w1 ⟨rfl,x1⟩;have HX1:=hid x1;have K2:=hid (H2.out.ext x1);clear x1;clear c0 c1 c2 c3 c4 c5 c6 lc;have bq:=H1.out.ext HX1.out;obtain ⟨c0,c1,c2,c3,c4,c5,c6⟩:=bq.q7;have lc:=bq.lt;clear bq;have bq:=H2.out.ext HX1.out;have d0:=bq.cell 0 rfl;have d1:=bq.cell 1 rfl;have d2:=bq.cell 2 rfl;have d3:=bq.cell 3 rfl;have d4:=bq.cell 4 rfl;have d5:=bq.cell 5 rfl;have ld:=bq.lt;clear bq;have f0:=K2.out.free 0;have f1:=K2.out.free 1;have f2:=K2.out.free 2;have f3:=K2.out.free 3;have f4:=K2.out.free 4;have f5:=K2.out.free 5;have y1:Ext w w1:=HX0.out.trans HX1.out;go_wp2;exact bodyPost_ret (v:=.agg #[(),(),c.near,vw,vh,.int .i64 1000000]) (by simp [results,Tryz.results59,go_sem, *]) rfl ⟨rfl,S_⟩
theorem bucketBox_val (c:Cam) {x y u v r0 r1 r3 r4:Int} (hb:(0<=x/\x<=1000)/\(0<=y/\y<=1000)/\(0<=u/\u<=1000)/\(0<=v/\v<=1000)) (h0:x*16=r0) (h1:y*16=r1) (h3:(x+u)*16 - 1=r3) (h4:(y+v)*16 - 1=r4) (w:World) :
  Calls Tryz.prog 112 #[.agg #[c.w,c.h,c.zoom,c.near,.bool c.deep,c.lens,c.focus],.agg #[x,y,u,v]] w fun e w'=>e = .returned (.agg #[r0,r1,c.near,r3,r4,.int .i64 1000000])/\Ext w w':=by
 obtain ⟨q1,q2,q3,q4⟩:=hb;have pH1:=(Blk.new w 24 [c.w,c.h,c.zoom,c.near,.bool c.deep,c.lens,c.focus]).ext (show Ext _ (((w.alloc (.cells #[c.w,c.h,c.zoom,c.near,.bool c.deep,c.lens,c.focus] 24)).alloc (.cells #[x,y,u,v] 62)).alloc (.cells #[(),(),(),(),(),()] 86)) from X_);have pH2:=(Blk.new (w.alloc (.cells #[c.w,c.h,c.zoom,c.near,.bool c.deep,c.lens,c.focus] 24)) 62 [x,y,u,v]).ext (show Ext _ (((w.alloc (.cells #[c.w,c.h,c.zoom,c.near,.bool c.deep,c.lens,c.focus] 24)).alloc (.cells #[x,y,u,v] 62)).alloc (.cells #[(),(),(),(),(),()] 86)) from X_);simp only [World.size_alloc] at pH2;have pH3:=Blk.new ((w.alloc (.cells #[c.w,c.h,c.zoom,c.near,.bool c.deep,c.lens,c.focus] 24)).alloc (.cells #[x,y,u,v] 62)) 86 [(),(),(),(),(),()];simp only [World.size_alloc] at pH3
 obtain ⟨W0,hW0⟩:∃W0,(((w.alloc (.cells #[c.w,c.h,c.zoom,c.near,.bool c.deep,c.lens,c.focus] 24)).alloc (.cells #[x,y,u,v] 62)).alloc (.cells #[(),(),(),(),(),()] 86))=W0:=⟨_,rfl⟩
 have HX0:=hid (show Ext w W0 by rw [<-hW0];exact X_)
 try simp only [World.size_alloc] at hW0
 rw [hW0] at pH1 pH2 pH3;have H1:=hid pH1;have H2:=hid pH2;have H3:=hid pH3;have HW0:=hid hW0;clear hW0 pH1 pH2 pH3;go_enter Tryz.func112,Tryz.ntmps112;go_upto_region 1 with fail;rw [HW0.out];have bq:=H1.out.ext (Ext.refl _);obtain ⟨c0,c1,c2,c3,c4,c5,c6⟩:=bq.q7;have lc:=bq.lt;clear bq;have bq:=H2.out.ext (Ext.refl _);obtain ⟨d0,d1,d2,d3⟩:=bq.q4;have ld:=bq.lt;clear bq;have bq:=H3.out.ext (Ext.refl _);have f0:=bq.cell 0 rfl;have f1:=bq.cell 1 rfl;have f2:=bq.cell 2 rfl;have f3:=bq.cell 3 rfl;have f4:=bq.cell 4 rfl;have f5:=bq.cell 5 rfl;have lf:=bq.lt;clear bq;have k0:=H3.out.free 0;have k1:=H3.out.free 1;have k2:=H3.out.free 2;have k3:=H3.out.free 3;have k4:=H3.out.free 4;have k5:=H3.out.free 5;have y1:Ext w W0:=HX0.out;go_wp2;exact bodyPost_ret (v:=.agg #[r0,r1,c.near,r3,r4,.int .i64 1000000]) (by simp [results,Tryz.results112,go_sem, *]) rfl ⟨rfl,S_⟩
theorem screenBounds_yes {c:Cam} (hc:c.Ok) {lo0 lo1 lo2 hi0 hi1 hi2 zlo:Int} (h1:okVec lo0 lo1 lo2=true) (h2:okVec hi0 hi1 hi2=true) (h3:lo0<=hi0/\lo1<=hi1/\lo2<=hi2) (hz:max lo2 c.near=zlo) (hy:zlo<=hi2) (w:World) :
  Calls Tryz.prog 114 #[.agg #[c.w,c.h,c.zoom,c.near,.bool c.deep,c.lens,c.focus],.agg #[lo0,lo1,lo2,hi0,hi1,hi2]] w fun e w'=>e = .returned (.tuple #[.agg #[.int .i64 (c.axLo lo0 zlo hi2 (c.w*8)),.int .i64 (c.axLo lo1 zlo hi2 (c.h*8)),zlo,.int .i64 (c.axHi hi0 zlo hi2 (c.w*8)),.int .i64 (c.axHi hi1 zlo hi2 (c.h*8)),hi2],.bool true])/\Ext w w':=by
 have HCB:=hid (Cam.okB_iff.2 hc);have HC:=hid hc;have hcw:=hc.w;have hch:=hc.h;have hcn:=hc.near;obtain ⟨o0,o1,o2⟩:=okVec_iff.1 h1;obtain ⟨o3,o4,o5⟩:=okVec_iff.1 h2;have H5:=hid h1;have H6:=hid h2;have H7:=hid h3;have A1:=hid (show AxOk c lo0 hi0 zlo hi2 (c.w*8) from ⟨o0,o3,by omega,by omega,by omega⟩);have A2:=hid (show AxOk c lo1 hi1 zlo hi2 (c.h*8) from ⟨o1,o4,by omega,by omega,by omega⟩)
 obtain ⟨x0,hx0⟩:∃n,c.axLo lo0 zlo hi2 (c.w*8)=n:=⟨_,rfl⟩
 have Hx0:=hid hx0
 obtain ⟨x1,hx1⟩:∃n,c.axHi hi0 zlo hi2 (c.w*8)=n:=⟨_,rfl⟩
 have Hx1:=hid hx1
 obtain ⟨y0,hy0⟩:∃n,c.axLo lo1 zlo hi2 (c.h*8)=n:=⟨_,rfl⟩
 have Hy0:=hid hy0
 obtain ⟨y1,hy1⟩:∃n,c.axHi hi1 zlo hi2 (c.h*8)=n:=⟨_,rfl⟩
 have Hy1:=hid hy1;rw [hx0,hx1,hy0,hy1]
 have tw:Int.tdiv (c.w*16) 2=c.w*8:=by rw [Int.tdiv_eq_ediv_of_nonneg (by omega)];omega
 have th:Int.tdiv (c.h*16) 2=c.h*8:=by rw [Int.tdiv_eq_ediv_of_nonneg (by omega)];omega
 clear hx0 hx1 hy0 hy1
 have hzz : ¬hi2<zlo:=by omega
 have pH1:=(Blk.new w 24 [c.w,c.h,c.zoom,c.near,.bool c.deep,c.lens,c.focus]).ext (show Ext _ (((w.alloc (.cells #[c.w,c.h,c.zoom,c.near,.bool c.deep,c.lens,c.focus] 24)).alloc (.cells #[lo0,lo1,lo2,hi0,hi1,hi2] 86)).alloc (.cells #[(),(),(),(),(),()] 86)) from X_);have pH2:=(Blk.new (w.alloc (.cells #[c.w,c.h,c.zoom,c.near,.bool c.deep,c.lens,c.focus] 24)) 86 [lo0,lo1,lo2,hi0,hi1,hi2]).ext (show Ext _ (((w.alloc (.cells #[c.w,c.h,c.zoom,c.near,.bool c.deep,c.lens,c.focus] 24)).alloc (.cells #[lo0,lo1,lo2,hi0,hi1,hi2] 86)).alloc (.cells #[(),(),(),(),(),()] 86)) from X_);simp only [World.size_alloc] at pH2;have pH3:=Blk.new ((w.alloc (.cells #[c.w,c.h,c.zoom,c.near,.bool c.deep,c.lens,c.focus] 24)).alloc (.cells #[lo0,lo1,lo2,hi0,hi1,hi2] 86)) 86 [(),(),(),(),(),()];simp only [World.size_alloc] at pH3
 obtain ⟨W0,hW0⟩:∃W0,(((w.alloc (.cells #[c.w,c.h,c.zoom,c.near,.bool c.deep,c.lens,c.focus] 24)).alloc (.cells #[lo0,lo1,lo2,hi0,hi1,hi2] 86)).alloc (.cells #[(),(),(),(),(),()] 86))=W0:=⟨_,rfl⟩
 have HX0:=hid (show Ext w W0 by rw [<-hW0];exact X_)
 try simp only [World.size_alloc] at hW0
 rw [hW0] at pH1 pH2 pH3;have H1:=hid pH1;have H2:=hid pH2;have H3:=hid pH3;have HW0:=hid hW0;clear hW0 pH1 pH2 pH3 h1 h2 h3 hc;go_enter Tryz.func114,Tryz.ntmps114;go_upto_region 1 with fail;rw [HW0.out];have bq:=H1.out.ext (Ext.refl _);obtain ⟨c0,c1,c2,c3,c4,c5,c6⟩:=bq.q7;have lc:=bq.lt;clear bq;have bq:=H2.out.ext (Ext.refl _);have d0:=bq.cell 0 rfl;have d1:=bq.cell 1 rfl;have d2:=bq.cell 2 rfl;have d3:=bq.cell 3 rfl;have d4:=bq.cell 4 rfl;have d5:=bq.cell 5 rfl;have ld:=bq.lt;clear bq;go_wp2_with fail;refine (iIsValidCamera_val HCB.out _).mono ?_;rintro e w1 ⟨rfl,x1⟩;have X1:=hid x1;clear x1;clear c0 c1 c2 c3 c4 c5 c6 lc d0 d1 d2 d3 d4 d5 ld;have bq:=H1.out.ext X1.out;obtain ⟨c0,c1,c2,c3,c4,c5,c6⟩:=bq.q7;have lc:=bq.lt;clear bq;have bq:=H2.out.ext X1.out;have d0:=bq.cell 0 rfl;have d1:=bq.cell 1 rfl;have d2:=bq.cell 2 rfl;have d3:=bq.cell 3 rfl;have d4:=bq.cell 4 rfl;have d5:=bq.cell 5 rfl;have ld:=bq.lt;clear bq;go_wp2_with fail;refine (isValidBox_yes H5.out H6.out H7.out _).mono ?_;rintro e w2 ⟨rfl,x2⟩;have X2:=hid (X1.out.trans x2);clear x2;clear c0 c1 c2 c3 c4 c5 c6 lc d0 d1 d2 d3 d4 d5 ld;have bq:=H1.out.ext X2.out;obtain ⟨c0,c1,c2,c3,c4,c5,c6⟩:=bq.q7;have lc:=bq.lt;clear bq;have bq:=H2.out.ext X2.out;have d0:=bq.cell 0 rfl;have d1:=bq.cell 1 rfl;have d2:=bq.cell 2 rfl;have d3:=bq.cell 3 rfl;have d4:=bq.cell 4 rfl;have d5:=bq.cell 5 rfl;have ld:=bq.lt;clear bq;have zz:w.heap.size+1+1<w2.heap.size:=(H3.out.ext X2.out).lt;go_wp2_with fail;refine wp_region_stages [([0,1,2,3,4,6,7,8],5),([9],10)] 10 w2.heap.size (by kernel_rfl) (by kernel_rfl) ?_;refine st_ fun K hK=>?_;go_wp2_with fail;refine hK _ _ (.inr (fun k _ hk=>Ext.block X_ (by first|omega|(simp;omega)))) ?_;clear hK K;refine st_ fun K hK=>?_;go_wp2_with fail;refine hK _ _ (.inl (by trivial)) ?_;clear hK K;refine wpStages_nil ?_;go_wp2_with fail;refine (axisRange_val HC.out A1.out Hx0.out Hx1.out _).mono ?_;rintro e w3 ⟨rfl,x3⟩;have X3:=hid (X2.out.trans (Ext.trans (Ext.drew (Ext.refl _)) x3));clear x3;clear c0 c1 c2 c3 c4 c5 c6 lc d0 d1 d2 d3 d4 d5 ld;have bq:=H1.out.ext X3.out;obtain ⟨c0,c1,c2,c3,c4,c5,c6⟩:=bq.q7;have lc:=bq.lt;clear bq;have bq:=H2.out.ext X3.out;have d0:=bq.cell 0 rfl;have d1:=bq.cell 1 rfl;have d2:=bq.cell 2 rfl;have d3:=bq.cell 3 rfl;have d4:=bq.cell 4 rfl;have d5:=bq.cell 5 rfl;have ld:=bq.lt;clear bq;go_wp2_with fail;refine (axisRange_val HC.out A2.out Hy0.out Hy1.out _).mono ?_;rintro e w4 ⟨rfl,x4⟩;have X4:=hid (X3.out.trans x4);clear x4;clear c0 c1 c2 c3 c4 c5 c6 lc d0 d1 d2 d3 d4 d5 ld;have q3:=H3.out.ext X4.out;have f0:=q3.cell 0 rfl;have f1:=q3.cell 1 rfl;have f2:=q3.cell 2 rfl;have f3:=q3.cell 3 rfl;have f4:=q3.cell 4 rfl;have f5:=q3.cell 5 rfl;have k0:=q3.free 0;have k1:=q3.free 1;have k2:=q3.free 2;have k3:=q3.free 3;have k4:=q3.free 4;have k5:=q3.free 5;have lf:=q3.lt;have y2:Ext w w4:=HX0.out.trans X4.out;clear q3;go_wp2;exact bodyPost_ret (v:=.tuple #[.agg #[x0,y0,zlo,x1,y1,hi2],.bool true]) (by simp [results,Tryz.results114,go_sem, *]) rfl ⟨rfl,S_⟩
theorem screenBounds_no {c:Cam} (hc:c.Ok) {lo0 lo1 lo2 hi0 hi1 hi2 zlo:Int} (h1:okVec lo0 lo1 lo2=true) (h2:okVec hi0 hi1 hi2=true) (h3:lo0<=hi0/\lo1<=hi1/\lo2<=hi2) (hz:max lo2 c.near=zlo) (hy:hi2<zlo) (w:World) :
  Calls Tryz.prog 114 #[.agg #[c.w,c.h,c.zoom,c.near,.bool c.deep,c.lens,c.focus],.agg #[lo0,lo1,lo2,hi0,hi1,hi2]] w fun e w'=>e = .returned (.tuple #[.agg #[(),(),(),(),(),()],.bool false])/\Ext w w':=by
 have HCB:=hid (Cam.okB_iff.2 hc);have HC:=hid hc;have hcw:=hc.w;have hch:=hc.h;have hcn:=hc.near;obtain ⟨o0,o1,o2⟩:=okVec_iff.1 h1;obtain ⟨o3,o4,o5⟩:=okVec_iff.1 h2;have H5:=hid h1;have H6:=hid h2;have H7:=hid h3;have hzz:hi2<zlo:=hy;have pH1:=(Blk.new w 24 [c.w,c.h,c.zoom,c.near,.bool c.deep,c.lens,c.focus]).ext (show Ext _ (((w.alloc (.cells #[c.w,c.h,c.zoom,c.near,.bool c.deep,c.lens,c.focus] 24)).alloc (.cells #[lo0,lo1,lo2,hi0,hi1,hi2] 86)).alloc (.cells #[(),(),(),(),(),()] 86)) from X_);have pH2:=(Blk.new (w.alloc (.cells #[c.w,c.h,c.zoom,c.near,.bool c.deep,c.lens,c.focus] 24)) 86 [lo0,lo1,lo2,hi0,hi1,hi2]).ext (show Ext _ (((w.alloc (.cells #[c.w,c.h,c.zoom,c.near,.bool c.deep,c.lens,c.focus] 24)).alloc (.cells #[lo0,lo1,lo2,hi0,hi1,hi2] 86)).alloc (.cells #[(),(),(),(),(),()] 86)) from X_);simp only [World.size_alloc] at pH2;have pH3:=Blk.new ((w.alloc (.cells #[c.w,c.h,c.zoom,c.near,.bool c.deep,c.lens,c.focus] 24)).alloc (.cells #[lo0,lo1,lo2,hi0,hi1,hi2] 86)) 86 [(),(),(),(),(),()];simp only [World.size_alloc] at pH3
 obtain ⟨W0,hW0⟩:∃W0,(((w.alloc (.cells #[c.w,c.h,c.zoom,c.near,.bool c.deep,c.lens,c.focus] 24)).alloc (.cells #[lo0,lo1,lo2,hi0,hi1,hi2] 86)).alloc (.cells #[(),(),(),(),(),()] 86))=W0:=⟨_,rfl⟩
 have HX0:=hid (show Ext w W0 by rw [<-hW0];exact X_)
 try simp only [World.size_alloc] at hW0
 rw [hW0] at pH1 pH2 pH3;have H1:=hid pH1;have H2:=hid pH2;have H3:=hid pH3;have HW0:=hid hW0;clear hW0 pH1 pH2 pH3 h1 h2 h3 hc;go_enter Tryz.func114,Tryz.ntmps114;go_upto_region 1 with fail;rw [HW0.out];have bq:=H1.out.ext (Ext.refl _);obtain ⟨c0,c1,c2,c3,c4,c5,c6⟩:=bq.q7;have lc:=bq.lt;clear bq;have bq:=H2.out.ext (Ext.refl _);have d0:=bq.cell 0 rfl;have d1:=bq.cell 1 rfl;have d2:=bq.cell 2 rfl;have d3:=bq.cell 3 rfl;have d4:=bq.cell 4 rfl;have d5:=bq.cell 5 rfl;have ld:=bq.lt;clear bq;go_wp2_with fail;refine (iIsValidCamera_val HCB.out _).mono ?_;rintro e w1 ⟨rfl,x1⟩;have X1:=hid x1;clear x1;clear c0 c1 c2 c3 c4 c5 c6 lc d0 d1 d2 d3 d4 d5 ld;have bq:=H1.out.ext X1.out;obtain ⟨c0,c1,c2,c3,c4,c5,c6⟩:=bq.q7;have lc:=bq.lt;clear bq;have bq:=H2.out.ext X1.out;have d0:=bq.cell 0 rfl;have d1:=bq.cell 1 rfl;have d2:=bq.cell 2 rfl;have d3:=bq.cell 3 rfl;have d4:=bq.cell 4 rfl;have d5:=bq.cell 5 rfl;have ld:=bq.lt;clear bq;go_wp2_with fail;refine (isValidBox_yes H5.out H6.out H7.out _).mono ?_;rintro e w2 ⟨rfl,x2⟩;have X2:=hid (X1.out.trans x2);clear x2;clear c0 c1 c2 c3 c4 c5 c6 lc d0 d1 d2 d3 d4 d5 ld;have bq:=H1.out.ext X2.out;obtain ⟨c0,c1,c2,c3,c4,c5,c6⟩:=bq.q7;have lc:=bq.lt;clear bq;have bq:=H2.out.ext X2.out;have d0:=bq.cell 0 rfl;have d1:=bq.cell 1 rfl;have d2:=bq.cell 2 rfl;have d3:=bq.cell 3 rfl;have d4:=bq.cell 4 rfl;have d5:=bq.cell 5 rfl;have ld:=bq.lt;clear bq;have zz:w.heap.size+1+1<w2.heap.size:=(H3.out.ext X2.out).lt;go_wp2_with fail;refine wp_region_stages [([0,1,2,3,4,6,7,8],5),([9],10)] 10 w2.heap.size (by kernel_rfl) (by kernel_rfl) ?_;refine st_ fun K hK=>?_;go_wp2_with fail;refine hK _ _ (.inr (fun k _ hk=>Ext.block X_ (by first|omega|(simp;omega)))) ?_;clear hK K;refine st_ fun K hK=>?_;go_wp2_with fail;refine hK _ _ (.inl (by trivial)) ?_;clear hK K;refine wpStages_nil ?_
 obtain ⟨W3,hW3⟩:∃W,w2.drew=W:=⟨_,rfl⟩
 rw [hW3];have x3:Ext w2 W3:=hW3▸Ext.drew (Ext.refl _);clear hW3;clear c0 c1 c2 c3 c4 c5 c6 lc d0 d1 d2 d3 d4 d5 ld;have q3:=H3.out.ext (X2.out.trans x3);have f0:=q3.cell 0 rfl;have f1:=q3.cell 1 rfl;have f2:=q3.cell 2 rfl;have f3:=q3.cell 3 rfl;have f4:=q3.cell 4 rfl;have f5:=q3.cell 5 rfl;have k0:=q3.free 0;have k1:=q3.free 1;have k2:=q3.free 2;have k3:=q3.free 3;have k4:=q3.free 4;have k5:=q3.free 5;have lf:=q3.lt;have y2:Ext w W3:=HX0.out.trans (X2.out.trans x3);clear q3 x3;go_wp2;exact bodyPost_ret (v:=.tuple #[.agg #[(),(),(),(),(),()],.bool false]) (by simp [results,Tryz.results114,go_sem, *]) rfl ⟨rfl,S_⟩
theorem bx6_of {w:World} {b:Nat} {t:TypeId} {v0 v1 v2 v3 v4 v5:Value} (h:Blk w b t [v0,v1,v2,v3,v4,v5]):b<w.heap.size/\(w.cell? ⟨b,0,none⟩=some v0/\w.frozen? ⟨b,0,none⟩=false)/\(w.cell? ⟨b,1,none⟩=some v1/\w.frozen? ⟨b,1,none⟩=false)/\(w.cell? ⟨b,2,none⟩=some v2/\w.frozen? ⟨b,2,none⟩=false)/\(w.cell? ⟨b,3,none⟩=some v3/\w.frozen? ⟨b,3,none⟩=false)/\(w.cell? ⟨b,4,none⟩=some v4/\w.frozen? ⟨b,4,none⟩=false)/\(w.cell? ⟨b,5,none⟩=some v5/\w.frozen? ⟨b,5,none⟩=false):=
 ⟨h.lt,⟨h.cell 0 rfl,h.free 0⟩,⟨h.cell 1 rfl,h.free 1⟩,⟨h.cell 2 rfl,h.free 2⟩,⟨h.cell 3 rfl,h.free 3⟩,⟨h.cell 4 rfl,h.free 4⟩,⟨h.cell 5 rfl,h.free 5⟩⟩
theorem loS_hiS (f g:Nat->Int) (i:Nat):(-1000000<=loS f g i/\loS f g i<=1000000)/\(-1000000<=hiS f g i/\hiS f g i<=1000000)/\loS f g i<=hiS f g i:=by
 have a:=loP_le f i;have b:=hiP_ge f i;have a':=loP_le g i;have b':=hiP_ge g i;have l0:=cl_bd (f i);have l1:=cl_bd (f (i+3));have l2:=cl_bd (f (i+6));have l3:=cl_bd (f (i+9));have m0:=cl_bd (g i);have m1:=cl_bd (g (i+3));have m2:=cl_bd (g (i+6));have m3:=cl_bd (g (i+9));have p1 : -1000000<=loP f i:=le_min3 (le_min3 (le_min3 l0.1 l1.1) l2.1) l3.1;have p2 : -1000000<=loP g i:=le_min3 (le_min3 (le_min3 m0.1 m1.1) m2.1) m3.1;have p3:hiP f i<=1000000:=max3_le (max3_le (max3_le l0.2 l1.2) l2.2) l3.2;have p4:hiP g i<=1000000:=max3_le (max3_le (max3_le m0.2 m1.2) m2.2) m3.2;have q1:=min3_le (loP f i) (loP g i);have q2:=le_max3 (hiP f i) (hiP g i);have q3 : -1000000<=loS f g i:=le_min3 p1 p2;have q4:hiS f g i<=1000000:=max3_le p3 p4;have q5:loS f g i<=loP f i:=q1.1;have q6:hiP f i<=hiS f g i:=q2.1;omega
theorem sees_val {c:Cam} (hc:c.Ok) (f g:Nat->Int) (sh rt v0 v1 v3 v4:Int) {r:Bool} (hr:seesB c f g ⟨v0,v3,v1,v4⟩=r) (w:World) :
  Calls Tryz.prog 58 #[.agg #[c.w,c.h,c.zoom,c.near,.bool c.deep,c.lens,c.focus],.agg #[(f 0),(f 1),(f 2),(f 3),(f 4),(f 5),(f 6),(f 7),(f 8),(f 9),(f 10),(f 11),(g 0),(g 1),(g 2),(g 3),(g 4),(g 5),(g 6),(g 7),(g 8),(g 9),(g 10),(g 11),sh,rt],.agg #[v0,v1,c.near,v3,v4,.int .i64 1000000]] w fun e w'=>e = .returned (.bool r)/\Ext w w':=by
 have HC:=hid hc;obtain ⟨u0,t0,k0⟩:=loS_hiS f g 0;obtain ⟨u1,t1,k1⟩:=loS_hiS f g 1;obtain ⟨u2,t2,k2⟩:=loS_hiS f g 2;have hcn:=hc.near;have HSB:=hid (fun w=>iSurfaceBox_val f g sh rt w);unfold seesB at hr;simp only [max3_max,min3_min] at hr;generalize loS f g 0=l0 at *;generalize loS f g 1=l1 at *;generalize loS f g 2=l2 at *;generalize hiS f g 0=h0 at *;generalize hiS f g 1=h1 at *;generalize hiS f g 2=h2 at *;have O1:=hid (show okVec l0 l1 l2=true from okVec_iff.2 ⟨u0,u1,u2⟩);have O2:=hid (show okVec h0 h1 h2=true from okVec_iff.2 ⟨t0,t1,t2⟩);have O3:=hid (show l0<=h0/\l1<=h1/\l2<=h2 from ⟨k0,k1,k2⟩)
 obtain ⟨zlo,hz⟩:∃z,max l2 c.near=z:=⟨_,rfl⟩
 rw [hz] at hr;have HZ:=hid hz
 have hzb:c.near<=zlo:=by omega
 clear hz hc u0 u1 u2 t0 t1 k0 k1 k2;have n0:w.heap.size=w.heap.size+0:=rfl;obtain ⟨V1,hV0,q0,x0,n1⟩:=mk_ w [c.w,c.h,c.zoom,c.near,.bool c.deep,c.lens,c.focus] 24 n0;obtain ⟨V2,hV1,q1,x1,n2⟩:=mk_ V1 [(f 0),(f 1),(f 2),(f 3),(f 4),(f 5),(f 6),(f 7),(f 8),(f 9),(f 10),(f 11),(g 0),(g 1),(g 2),(g 3),(g 4),(g 5),(g 6),(g 7),(g 8),(g 9),(g 10),(g 11),sh,rt] 42 n1;obtain ⟨V3,hV2,q2,x2,n3⟩:=mk_ V2 [v0,v1,c.near,v3,v4,.int .i64 1000000] 86 n2;rw [Nat.add_zero] at q0;have H1:=hid (q0.ext (x1.trans x2));have H2:=hid (q1.ext x2);have H3:=hid q2;have HX0:=hid (x0.trans (x1.trans x2));have HV0:=hid hV0;have HV1:=hid hV1;have HV2:=hid hV2;clear hV0 hV1 hV2 q0 q1 q2 x0 x1 x2 n0 n1 n2 n3;go_enter Tryz.func58,Tryz.ntmps58;go_upto_region 1 with fail;rw [HV0.out,HV1.out,HV2.out]
 obtain ⟨W0,hW0⟩:∃W,V3=W:=⟨_,rfl⟩
 rw [hW0] at H1 H2 H3 HX0;rw [hW0];clear hW0 HV0 HV1 HV2;obtain ⟨c0,c1,c2,c3,c4,c5,c6⟩:=H1.out.q7;have hca:=H2.out.rangeB;have lA:=H2.out.lt;have lc1:=H1.out.lt;have HCA:=hid hca;clear hca
 by_cases hz1:zlo<=h2
 ·rw [decide_eq_true hz1,Bool.true_and] at hr
  have Ssx0:=hid (rfl:c.axLo l0 zlo h2 (c.w*8)=c.axLo l0 zlo h2 (c.w*8));have Ssx1:=hid (rfl:c.axHi h0 zlo h2 (c.w*8)=c.axHi h0 zlo h2 (c.w*8));have Ssy0:=hid (rfl:c.axLo l1 zlo h2 (c.h*8)=c.axLo l1 zlo h2 (c.h*8));have Ssy1:=hid (rfl:c.axHi h1 zlo h2 (c.h*8)=c.axHi h1 zlo h2 (c.h*8));have HSC:=hid (fun w=>screenBounds_yes HC.out O1.out O2.out O3.out HZ.out hz1 w);clear Ssx0;generalize c.axLo l0 zlo h2 (c.w*8)=sx0 at *;clear Ssx1;generalize c.axHi h0 zlo h2 (c.w*8)=sx1 at *;clear Ssy0;generalize c.axLo l1 zlo h2 (c.h*8)=sy0 at *;clear Ssy1;generalize c.axHi h1 zlo h2 (c.h*8)=sy1 at *
  have HRB:=hid (show (decide (max sx0 v0<=min sx1 v3)&&decide (max sy0 v1<=min sy1 v4)&&decide (max zlo c.near<=min h2 1000000))=r by
   rw [decide_eq_true (show max zlo c.near<=min h2 1000000 by omega),Bool.and_true]
   exact hr)
  clear hr;refine wp_region_Z 9 W0.heap.size (by kernel_rfl) ?_;refine z2_ (hq:=by intro R h;show wpQuiet _ _ _ _ [_,_] _;go_big_quiet_step (fail);exact wpQuiet_load_mid rfl _ _ rfl (w.heap.size+1) 0 rfl [(f 0),(f 1),(f 2),(f 3),(f 4),(f 5),(f 6),(f 7),(f 8),(f 9),(f 10),(f 11),(g 0),(g 1),(g 2),(g 3),(g 4),(g 5),(g 6),(g 7),(g 8),(g 9),(g 10),(g 11),sh,rt] _ (by rintro _ ⟨d,rfl⟩ j v hj;rw [cell?_lowg _ _ _ _ lA];exact HCA.out j v hj) Tryz.underlying42 rfl info_srf (wpQuiet_nil h)) (fuel:=7) [0,1] 2 7 (fun b _ hb=>rfl) (fun K hK=>?y2) fun K hK=>?y3
  case' y2=>
   go_wp2_with fail;refine ((HSB.out _)).mono ?_;rintro e a0 ⟨rfl,y0⟩;have u0:Ext W0 a0:=Ext.trans X_ y0;go_wp2_with fail;refine hK _ _ (.inr (fun b _ hb=>Ext.block (w:=W0) X_ (by omega))) ?_;clear hK K;refine z2_ (fuel:=6) [] 3 7 (fun b _ hb=>Ext.block u0 (by omega)) (fun K hK=>?y4) fun K hK=>?y5
   case' y4=>
    go_wp2_with fail;refine ((HSC.out _)).mono ?_;rintro e a01 ⟨rfl,y01⟩;have u01:Ext W0 a01:=Ext.trans X_ y01;go_wp2_with fail;refine hK _ _ (.inr (fun b _ hb=>Ext.block (w:=W0) X_ (by omega))) ?_;clear hK K;refine z1_ (fuel:=2) [4,5,6] 7 (fun b _ hb=>Ext.block u01 (by omega)) fun K hK=>?_;go_wp2;have hA01A:W0.heap.size<=a01.heap.size:=u01.size;refine hK _ _ (.inr (fun b _ hb=>Ext.block (w:=W0) X_ (by omega))) ?_;clear hK K
    obtain ⟨d01A,hd01A⟩:∃d,d=a01.alloc (.cells #[(),(),(),(),(),()] 86):=⟨_,rfl⟩
    rw [<-hd01A]
    have u01A:Ext W0 d01A:=by rw [hd01A];exact X_
    have b01A:Blk d01A a01.heap.size 86 [(),(),(),(),(),()]:=hd01A▸Blk.new _ _ _;clear hd01A;refine z1_ (fuel:=1) [] 8 (fun b _ hb=>Ext.block u01A (by omega)) fun K hK=>?_;obtain ⟨z0,⟨z1,z1f⟩,⟨z2,z2f⟩,⟨z3,z3f⟩,⟨z4,z4f⟩,⟨z5,z5f⟩,⟨z6,z6f⟩⟩:=bx6_of b01A;go_wp2;have hlt0:=hA01A;refine hK _ _ (.inr (fun b _ hb=>Ext.block (w:=W0) S_ (by omega))) ?_;clear hK K;refine z1_ (fuel:=0) [] 9 (fun b _ hb=>Ext.block (w:=W0) S_ (by omega)) fun K hK=>?_;go_wp2;refine hK _ _ (.inl (by trivial)) ?_;clear hK K;refine wpZ_end (by kernel_rfl) ?_;have hlt:=hA01A
    have hE:Ext W0 (((((((d01A).setCell ⟨a01.heap.size,0,none⟩ sx0).setCell ⟨a01.heap.size,1,none⟩ sy0).setCell ⟨a01.heap.size,2,none⟩ zlo).setCell ⟨a01.heap.size,3,none⟩ sx1).setCell ⟨a01.heap.size,4,none⟩ sy1).setCell ⟨a01.heap.size,5,none⟩ h2):=(Ext.setCell (Ext.setCell (Ext.setCell (Ext.setCell (Ext.setCell (Ext.setCell u01A hlt _) hlt _) hlt _) hlt _) hlt _) hlt _)
    have hbx:Blk (((((((d01A).setCell ⟨a01.heap.size,0,none⟩ sx0).setCell ⟨a01.heap.size,1,none⟩ sy0).setCell ⟨a01.heap.size,2,none⟩ zlo).setCell ⟨a01.heap.size,3,none⟩ sx1).setCell ⟨a01.heap.size,4,none⟩ sy1).setCell ⟨a01.heap.size,5,none⟩ h2) (a01.heap.size) 86 [sx0,sy0,zlo,sx1,sy1,h2]:=((((((b01A.set 0 (.int .i64 sx0)).set 1 (.int .i64 sy0)).set 2 (.int .i64 zlo)).set 3 (.int .i64 sx1)).set 4 (.int .i64 sy1)).set 5 (.int .i64 h2))
    clear z0 z1 z2 z3 z4 z5 z6 z1f z2f z3f z4f z5f z6f
    obtain ⟨A,hA⟩:∃A,a01.heap.size=A:=⟨_,rfl⟩
    rw [hA] at hE hbx hlt ⊢
    obtain ⟨wx,hwx⟩:∃wx,((((((d01A).setCell ⟨A,0,none⟩ sx0).setCell ⟨A,1,none⟩ sy0).setCell ⟨A,2,none⟩ zlo).setCell ⟨A,3,none⟩ sx1).setCell ⟨A,4,none⟩ sy1).setCell ⟨A,5,none⟩ h2=wx:=⟨_,rfl⟩
    rw [hwx] at hE hbx ⊢;clear hwx hA
   case' y5=>
    go_wp2;have hA0A:W0.heap.size<=a0.heap.size:=u0.size;refine hK _ _ (.inr (fun b _ hb=>Ext.block (w:=W0) X_ (by omega))) ?_;clear hK K
    obtain ⟨d0A,hd0A⟩:∃d,d=a0.alloc (.cells #[(),(),(),(),(),()] 86):=⟨_,rfl⟩
    rw [<-hd0A]
    have u0A:Ext W0 d0A:=by rw [hd0A];exact X_
    have b0A:Blk d0A a0.heap.size 86 [(),(),(),(),(),()]:=hd0A▸Blk.new _ _ _;clear hd0A;refine z1_ (fuel:=5) [] 3 (fun b _ hb=>Ext.block u0A (by omega)) fun K hK=>?_;go_wp2_with fail;refine ((HSC.out _)).mono ?_;rintro e a0A1 ⟨rfl,y0A1⟩;have u0A1:Ext W0 a0A1:=Ext.trans X_ y0A1;have b0A1:=b0A.ext y0A1;go_wp2_with fail;refine hK _ _ (.inr (fun b _ hb=>Ext.block (w:=W0) X_ (by omega))) ?_;clear hK K;refine z1_ (fuel:=1) [4,5,6] 8 (fun b _ hb=>Ext.block u0A1 (by omega)) fun K hK=>?_;obtain ⟨z0,⟨z1,z1f⟩,⟨z2,z2f⟩,⟨z3,z3f⟩,⟨z4,z4f⟩,⟨z5,z5f⟩,⟨z6,z6f⟩⟩:=bx6_of b0A1;go_wp2;have hlt0:=hA0A;refine hK _ _ (.inr (fun b _ hb=>Ext.block (w:=W0) S_ (by omega))) ?_;clear hK K;refine z1_ (fuel:=0) [] 9 (fun b _ hb=>Ext.block (w:=W0) S_ (by omega)) fun K hK=>?_;go_wp2;refine hK _ _ (.inl (by trivial)) ?_;clear hK K;refine wpZ_end (by kernel_rfl) ?_;have hlt:=hA0A
    have hE:Ext W0 (((((((a0A1).setCell ⟨a0.heap.size,0,none⟩ sx0).setCell ⟨a0.heap.size,1,none⟩ sy0).setCell ⟨a0.heap.size,2,none⟩ zlo).setCell ⟨a0.heap.size,3,none⟩ sx1).setCell ⟨a0.heap.size,4,none⟩ sy1).setCell ⟨a0.heap.size,5,none⟩ h2):=(Ext.setCell (Ext.setCell (Ext.setCell (Ext.setCell (Ext.setCell (Ext.setCell u0A1 hlt _) hlt _) hlt _) hlt _) hlt _) hlt _)
    have hbx:Blk (((((((a0A1).setCell ⟨a0.heap.size,0,none⟩ sx0).setCell ⟨a0.heap.size,1,none⟩ sy0).setCell ⟨a0.heap.size,2,none⟩ zlo).setCell ⟨a0.heap.size,3,none⟩ sx1).setCell ⟨a0.heap.size,4,none⟩ sy1).setCell ⟨a0.heap.size,5,none⟩ h2) (a0.heap.size) 86 [sx0,sy0,zlo,sx1,sy1,h2]:=((((((b0A1.set 0 (.int .i64 sx0)).set 1 (.int .i64 sy0)).set 2 (.int .i64 zlo)).set 3 (.int .i64 sx1)).set 4 (.int .i64 sy1)).set 5 (.int .i64 h2))
    clear z0 z1 z2 z3 z4 z5 z6 z1f z2f z3f z4f z5f z6f
    obtain ⟨A,hA⟩:∃A,a0.heap.size=A:=⟨_,rfl⟩
    rw [hA] at hE hbx hlt ⊢
    obtain ⟨wx,hwx⟩:∃wx,((((((a0A1).setCell ⟨A,0,none⟩ sx0).setCell ⟨A,1,none⟩ sy0).setCell ⟨A,2,none⟩ zlo).setCell ⟨A,3,none⟩ sx1).setCell ⟨A,4,none⟩ sy1).setCell ⟨A,5,none⟩ h2=wx:=⟨_,rfl⟩
    rw [hwx] at hE hbx ⊢;clear hwx hA
  case' y3=>
   go_wp2;have hAA:W0.heap.size<=W0.heap.size:=Nat.le_refl _;refine hK _ _ (.inr (fun b _ hb=>Ext.block (w:=W0) X_ (by omega))) ?_;clear hK K
   obtain ⟨dA,hdA⟩:∃d,d=(W0.alloc (.cells #[(),(),(),(),(),()] 86)).drew:=⟨_,rfl⟩
   rw [<-hdA]
   have uA:Ext W0 dA:=by rw [hdA];exact X_
   have bA:Blk dA W0.heap.size 86 [(),(),(),(),(),()]:=hdA▸(Blk.new _ _ _).ext (Ext.drew (Ext.refl _));clear hdA;refine z1_ (fuel:=6) [] 2 (fun b _ hb=>Ext.block uA (by omega)) fun K hK=>?_;go_wp2_with fail;refine ((HSB.out _)).mono ?_;rintro e aA0 ⟨rfl,yA0⟩;have uA0:Ext W0 aA0:=Ext.trans X_ yA0;have bA0:=bA.ext yA0;go_wp2_with fail;refine hK _ _ (.inr (fun b _ hb=>Ext.block (w:=W0) X_ (by omega))) ?_;clear hK K;refine z1_ (fuel:=5) [] 3 (fun b _ hb=>Ext.block uA0 (by omega)) fun K hK=>?_;go_wp2_with fail;refine ((HSC.out _)).mono ?_;rintro e aA01 ⟨rfl,yA01⟩;have uA01:Ext W0 aA01:=Ext.trans X_ yA01;have bA01:=bA0.ext yA01;go_wp2_with fail;refine hK _ _ (.inr (fun b _ hb=>Ext.block (w:=W0) X_ (by omega))) ?_;clear hK K;refine z1_ (fuel:=1) [4,5,6] 8 (fun b _ hb=>Ext.block uA01 (by omega)) fun K hK=>?_;obtain ⟨z0,⟨z1,z1f⟩,⟨z2,z2f⟩,⟨z3,z3f⟩,⟨z4,z4f⟩,⟨z5,z5f⟩,⟨z6,z6f⟩⟩:=bx6_of bA01;go_wp2;have hlt0:=hAA;refine hK _ _ (.inr (fun b _ hb=>Ext.block (w:=W0) S_ (by omega))) ?_;clear hK K;refine z1_ (fuel:=0) [] 9 (fun b _ hb=>Ext.block (w:=W0) S_ (by omega)) fun K hK=>?_;go_wp2;refine hK _ _ (.inl (by trivial)) ?_;clear hK K;refine wpZ_end (by kernel_rfl) ?_;have hlt:=hAA
   have hE:Ext W0 (((((((aA01).setCell ⟨W0.heap.size,0,none⟩ sx0).setCell ⟨W0.heap.size,1,none⟩ sy0).setCell ⟨W0.heap.size,2,none⟩ zlo).setCell ⟨W0.heap.size,3,none⟩ sx1).setCell ⟨W0.heap.size,4,none⟩ sy1).setCell ⟨W0.heap.size,5,none⟩ h2):=(Ext.setCell (Ext.setCell (Ext.setCell (Ext.setCell (Ext.setCell (Ext.setCell uA01 hlt _) hlt _) hlt _) hlt _) hlt _) hlt _)
   have hbx:Blk (((((((aA01).setCell ⟨W0.heap.size,0,none⟩ sx0).setCell ⟨W0.heap.size,1,none⟩ sy0).setCell ⟨W0.heap.size,2,none⟩ zlo).setCell ⟨W0.heap.size,3,none⟩ sx1).setCell ⟨W0.heap.size,4,none⟩ sy1).setCell ⟨W0.heap.size,5,none⟩ h2) (W0.heap.size) 86 [sx0,sy0,zlo,sx1,sy1,h2]:=((((((bA01.set 0 (.int .i64 sx0)).set 1 (.int .i64 sy0)).set 2 (.int .i64 zlo)).set 3 (.int .i64 sx1)).set 4 (.int .i64 sy1)).set 5 (.int .i64 h2))
   clear z0 z1 z2 z3 z4 z5 z6 z1f z2f z3f z4f z5f z6f
   obtain ⟨A,hA⟩:∃A,W0.heap.size=A:=⟨_,rfl⟩
   rw [hA] at hE hbx hlt ⊢
   obtain ⟨wx,hwx⟩:∃wx,((((((aA01).setCell ⟨A,0,none⟩ sx0).setCell ⟨A,1,none⟩ sy0).setCell ⟨A,2,none⟩ zlo).setCell ⟨A,3,none⟩ sx1).setCell ⟨A,4,none⟩ sy1).setCell ⟨A,5,none⟩ h2=wx:=⟨_,rfl⟩
   rw [hwx] at hE hbx ⊢;clear hwx hA
  all_goals
   have X0:=hid hE;have HBX:=hid hbx;have y0:=hbx.cell 0 rfl;have y1:=hbx.cell 1 rfl;have y2:=hbx.cell 2 rfl;have y3:=hbx.cell 3 rfl;have y4:=hbx.cell 4 rfl;have y5:=hbx.cell 5 rfl;have yl:=hbx.lt;have bq:=H3.out.ext hE;have d0:=bq.cell 0 rfl;have d1:=bq.cell 1 rfl;have d2:=bq.cell 2 rfl;have d3:=bq.cell 3 rfl;have d4:=bq.cell 4 rfl;have d5:=bq.cell 5 rfl;have dl:=bq.lt;clear bq hE hbx;go_wp2_with fail;refine (boxesOverlap_val sx0 sy0 zlo sx1 sy1 h2 v0 v1 c.near v3 v4 1000000 HRB.out _).mono ?_;rintro e w5 ⟨rfl,x5⟩;have X5:=hid (HX0.out.trans (X0.out.trans x5));clear x5;go_wp2;go_ret;exact ⟨rfl,X5.out⟩
 ·rw [decide_eq_false hz1,Bool.false_and,Bool.false_and] at hr
  subst hr
  have hz1:h2<zlo:=by omega
  refine wp_region_Z 9 W0.heap.size (by kernel_rfl) ?_;refine z2_ (hq:=by intro R h;show wpQuiet _ _ _ _ [_,_] _;go_big_quiet_step (fail);exact wpQuiet_load_mid rfl _ _ rfl (w.heap.size+1) 0 rfl [(f 0),(f 1),(f 2),(f 3),(f 4),(f 5),(f 6),(f 7),(f 8),(f 9),(f 10),(f 11),(g 0),(g 1),(g 2),(g 3),(g 4),(g 5),(g 6),(g 7),(g 8),(g 9),(g 10),(g 11),sh,rt] _ (by rintro _ ⟨d,rfl⟩ j v hj;rw [cell?_lowg _ _ _ _ lA];exact HCA.out j v hj) Tryz.underlying42 rfl info_srf (wpQuiet_nil h)) (fuel:=7) [0,1] 2 7 (fun b _ hb=>rfl) (fun K hK=>?n2) fun K hK=>?n3
  case' n2=>
   go_wp2_with fail;refine ((HSB.out _)).mono ?_;rintro e a0 ⟨rfl,y0⟩;have u0:Ext W0 a0:=Ext.trans X_ y0;go_wp2_with fail;refine hK _ _ (.inr (fun b _ hb=>Ext.block (w:=W0) X_ (by omega))) ?_;clear hK K;refine z2_ (fuel:=6) [] 3 7 (fun b _ hb=>Ext.block u0 (by omega)) (fun K hK=>?n4) fun K hK=>?n5
   case' n4=>
    go_wp2_with fail;refine ((screenBounds_no HC.out O1.out O2.out O3.out HZ.out hz1 _)).mono ?_;rintro e a01 ⟨rfl,y01⟩;have u01:Ext W0 a01:=Ext.trans X_ y01;go_wp2_with fail;refine hK _ _ (.inr (fun b _ hb=>Ext.block (w:=W0) X_ (by omega))) ?_;clear hK K;refine z1_ (fuel:=2) [4,5,6] 7 (fun b _ hb=>Ext.block u01 (by omega)) fun K hK=>?_;go_wp2;have hA01A:W0.heap.size<=a01.heap.size:=u01.size;refine hK _ _ (.inr (fun b _ hb=>Ext.block (w:=W0) X_ (by omega))) ?_;clear hK K
    obtain ⟨d01A,hd01A⟩:∃d,d=a01.alloc (.cells #[(),(),(),(),(),()] 86):=⟨_,rfl⟩
    rw [<-hd01A]
    have u01A:Ext W0 d01A:=by rw [hd01A];exact X_
    have b01A:Blk d01A a01.heap.size 86 [(),(),(),(),(),()]:=hd01A▸Blk.new _ _ _;clear hd01A;refine z1_ (fuel:=1) [] 8 (fun b _ hb=>Ext.block u01A (by omega)) fun K hK=>?_;obtain ⟨z0,⟨z1,z1f⟩,⟨z2,z2f⟩,⟨z3,z3f⟩,⟨z4,z4f⟩,⟨z5,z5f⟩,⟨z6,z6f⟩⟩:=bx6_of b01A;go_wp2;have hlt0:=hA01A;refine hK _ _ (.inr (fun b _ hb=>Ext.block (w:=W0) S_ (by omega))) ?_;clear hK K;refine z1_ (fuel:=0) [] 9 (fun b _ hb=>Ext.block (w:=W0) S_ (by omega)) fun K hK=>?_;go_wp2;refine hK _ _ (.inl (by trivial)) ?_;clear hK K;refine wpZ_end (by kernel_rfl) ?_;have hlt:=hA01A
    have hE:Ext W0 (((((((d01A).setCell ⟨a01.heap.size,0,none⟩ ()).setCell ⟨a01.heap.size,1,none⟩ ()).setCell ⟨a01.heap.size,2,none⟩ ()).setCell ⟨a01.heap.size,3,none⟩ ()).setCell ⟨a01.heap.size,4,none⟩ ()).setCell ⟨a01.heap.size,5,none⟩ ()):=(Ext.setCell (Ext.setCell (Ext.setCell (Ext.setCell (Ext.setCell (Ext.setCell u01A hlt _) hlt _) hlt _) hlt _) hlt _) hlt _)
    have hbx:Blk (((((((d01A).setCell ⟨a01.heap.size,0,none⟩ ()).setCell ⟨a01.heap.size,1,none⟩ ()).setCell ⟨a01.heap.size,2,none⟩ ()).setCell ⟨a01.heap.size,3,none⟩ ()).setCell ⟨a01.heap.size,4,none⟩ ()).setCell ⟨a01.heap.size,5,none⟩ ()) (a01.heap.size) 86 [(),(),(),(),(),()]:=((((((b01A.set 0 (.int .i64 0)).set 1 (.int .i64 0)).set 2 (.int .i64 0)).set 3 (.int .i64 0)).set 4 (.int .i64 0)).set 5 (.int .i64 0))
    clear z0 z1 z2 z3 z4 z5 z6 z1f z2f z3f z4f z5f z6f
    obtain ⟨A,hA⟩:∃A,a01.heap.size=A:=⟨_,rfl⟩
    rw [hA] at hE hbx hlt ⊢
    obtain ⟨wx,hwx⟩:∃wx,((((((d01A).setCell ⟨A,0,none⟩ ()).setCell ⟨A,1,none⟩ ()).setCell ⟨A,2,none⟩ ()).setCell ⟨A,3,none⟩ ()).setCell ⟨A,4,none⟩ ()).setCell ⟨A,5,none⟩ ()=wx:=⟨_,rfl⟩
    rw [hwx] at hE hbx ⊢;clear hwx hA
   case' n5=>
    go_wp2;have hA0A:W0.heap.size<=a0.heap.size:=u0.size;refine hK _ _ (.inr (fun b _ hb=>Ext.block (w:=W0) X_ (by omega))) ?_;clear hK K
    obtain ⟨d0A,hd0A⟩:∃d,d=a0.alloc (.cells #[(),(),(),(),(),()] 86):=⟨_,rfl⟩
    rw [<-hd0A]
    have u0A:Ext W0 d0A:=by rw [hd0A];exact X_
    have b0A:Blk d0A a0.heap.size 86 [(),(),(),(),(),()]:=hd0A▸Blk.new _ _ _;clear hd0A;refine z1_ (fuel:=5) [] 3 (fun b _ hb=>Ext.block u0A (by omega)) fun K hK=>?_;go_wp2_with fail;refine ((screenBounds_no HC.out O1.out O2.out O3.out HZ.out hz1 _)).mono ?_;rintro e a0A1 ⟨rfl,y0A1⟩;have u0A1:Ext W0 a0A1:=Ext.trans X_ y0A1;have b0A1:=b0A.ext y0A1;go_wp2_with fail;refine hK _ _ (.inr (fun b _ hb=>Ext.block (w:=W0) X_ (by omega))) ?_;clear hK K;refine z1_ (fuel:=1) [4,5,6] 8 (fun b _ hb=>Ext.block u0A1 (by omega)) fun K hK=>?_;obtain ⟨z0,⟨z1,z1f⟩,⟨z2,z2f⟩,⟨z3,z3f⟩,⟨z4,z4f⟩,⟨z5,z5f⟩,⟨z6,z6f⟩⟩:=bx6_of b0A1;go_wp2;have hlt0:=hA0A;refine hK _ _ (.inr (fun b _ hb=>Ext.block (w:=W0) S_ (by omega))) ?_;clear hK K;refine z1_ (fuel:=0) [] 9 (fun b _ hb=>Ext.block (w:=W0) S_ (by omega)) fun K hK=>?_;go_wp2;refine hK _ _ (.inl (by trivial)) ?_;clear hK K;refine wpZ_end (by kernel_rfl) ?_;have hlt:=hA0A
    have hE:Ext W0 (((((((a0A1).setCell ⟨a0.heap.size,0,none⟩ ()).setCell ⟨a0.heap.size,1,none⟩ ()).setCell ⟨a0.heap.size,2,none⟩ ()).setCell ⟨a0.heap.size,3,none⟩ ()).setCell ⟨a0.heap.size,4,none⟩ ()).setCell ⟨a0.heap.size,5,none⟩ ()):=(Ext.setCell (Ext.setCell (Ext.setCell (Ext.setCell (Ext.setCell (Ext.setCell u0A1 hlt _) hlt _) hlt _) hlt _) hlt _) hlt _)
    have hbx:Blk (((((((a0A1).setCell ⟨a0.heap.size,0,none⟩ ()).setCell ⟨a0.heap.size,1,none⟩ ()).setCell ⟨a0.heap.size,2,none⟩ ()).setCell ⟨a0.heap.size,3,none⟩ ()).setCell ⟨a0.heap.size,4,none⟩ ()).setCell ⟨a0.heap.size,5,none⟩ ()) (a0.heap.size) 86 [(),(),(),(),(),()]:=((((((b0A1.set 0 (.int .i64 0)).set 1 (.int .i64 0)).set 2 (.int .i64 0)).set 3 (.int .i64 0)).set 4 (.int .i64 0)).set 5 (.int .i64 0))
    clear z0 z1 z2 z3 z4 z5 z6 z1f z2f z3f z4f z5f z6f
    obtain ⟨A,hA⟩:∃A,a0.heap.size=A:=⟨_,rfl⟩
    rw [hA] at hE hbx hlt ⊢
    obtain ⟨wx,hwx⟩:∃wx,((((((a0A1).setCell ⟨A,0,none⟩ ()).setCell ⟨A,1,none⟩ ()).setCell ⟨A,2,none⟩ ()).setCell ⟨A,3,none⟩ ()).setCell ⟨A,4,none⟩ ()).setCell ⟨A,5,none⟩ ()=wx:=⟨_,rfl⟩
    rw [hwx] at hE hbx ⊢;clear hwx hA
  case' n3=>
   go_wp2;have hAA:W0.heap.size<=W0.heap.size:=Nat.le_refl _;refine hK _ _ (.inr (fun b _ hb=>Ext.block (w:=W0) X_ (by omega))) ?_;clear hK K
   obtain ⟨dA,hdA⟩:∃d,d=(W0.alloc (.cells #[(),(),(),(),(),()] 86)).drew:=⟨_,rfl⟩
   rw [<-hdA]
   have uA:Ext W0 dA:=by rw [hdA];exact X_
   have bA:Blk dA W0.heap.size 86 [(),(),(),(),(),()]:=hdA▸(Blk.new _ _ _).ext (Ext.drew (Ext.refl _));clear hdA;refine z1_ (fuel:=6) [] 2 (fun b _ hb=>Ext.block uA (by omega)) fun K hK=>?_;go_wp2_with fail;refine ((HSB.out _)).mono ?_;rintro e aA0 ⟨rfl,yA0⟩;have uA0:Ext W0 aA0:=Ext.trans X_ yA0;have bA0:=bA.ext yA0;go_wp2_with fail;refine hK _ _ (.inr (fun b _ hb=>Ext.block (w:=W0) X_ (by omega))) ?_;clear hK K;refine z1_ (fuel:=5) [] 3 (fun b _ hb=>Ext.block uA0 (by omega)) fun K hK=>?_;go_wp2_with fail;refine ((screenBounds_no HC.out O1.out O2.out O3.out HZ.out hz1 _)).mono ?_;rintro e aA01 ⟨rfl,yA01⟩;have uA01:Ext W0 aA01:=Ext.trans X_ yA01;have bA01:=bA0.ext yA01;go_wp2_with fail;refine hK _ _ (.inr (fun b _ hb=>Ext.block (w:=W0) X_ (by omega))) ?_;clear hK K;refine z1_ (fuel:=1) [4,5,6] 8 (fun b _ hb=>Ext.block uA01 (by omega)) fun K hK=>?_;obtain ⟨z0,⟨z1,z1f⟩,⟨z2,z2f⟩,⟨z3,z3f⟩,⟨z4,z4f⟩,⟨z5,z5f⟩,⟨z6,z6f⟩⟩:=bx6_of bA01;go_wp2;have hlt0:=hAA;refine hK _ _ (.inr (fun b _ hb=>Ext.block (w:=W0) S_ (by omega))) ?_;clear hK K;refine z1_ (fuel:=0) [] 9 (fun b _ hb=>Ext.block (w:=W0) S_ (by omega)) fun K hK=>?_;go_wp2;refine hK _ _ (.inl (by trivial)) ?_;clear hK K;refine wpZ_end (by kernel_rfl) ?_;have hlt:=hAA
   have hE:Ext W0 (((((((aA01).setCell ⟨W0.heap.size,0,none⟩ ()).setCell ⟨W0.heap.size,1,none⟩ ()).setCell ⟨W0.heap.size,2,none⟩ ()).setCell ⟨W0.heap.size,3,none⟩ ()).setCell ⟨W0.heap.size,4,none⟩ ()).setCell ⟨W0.heap.size,5,none⟩ ()):=(Ext.setCell (Ext.setCell (Ext.setCell (Ext.setCell (Ext.setCell (Ext.setCell uA01 hlt _) hlt _) hlt _) hlt _) hlt _) hlt _)
   have hbx:Blk (((((((aA01).setCell ⟨W0.heap.size,0,none⟩ ()).setCell ⟨W0.heap.size,1,none⟩ ()).setCell ⟨W0.heap.size,2,none⟩ ()).setCell ⟨W0.heap.size,3,none⟩ ()).setCell ⟨W0.heap.size,4,none⟩ ()).setCell ⟨W0.heap.size,5,none⟩ ()) (W0.heap.size) 86 [(),(),(),(),(),()]:=((((((bA01.set 0 (.int .i64 0)).set 1 (.int .i64 0)).set 2 (.int .i64 0)).set 3 (.int .i64 0)).set 4 (.int .i64 0)).set 5 (.int .i64 0))
   clear z0 z1 z2 z3 z4 z5 z6 z1f z2f z3f z4f z5f z6f
   obtain ⟨A,hA⟩:∃A,W0.heap.size=A:=⟨_,rfl⟩
   rw [hA] at hE hbx hlt ⊢
   obtain ⟨wx,hwx⟩:∃wx,((((((aA01).setCell ⟨A,0,none⟩ ()).setCell ⟨A,1,none⟩ ()).setCell ⟨A,2,none⟩ ()).setCell ⟨A,3,none⟩ ()).setCell ⟨A,4,none⟩ ()).setCell ⟨A,5,none⟩ ()=wx:=⟨_,rfl⟩
   rw [hwx] at hE hbx ⊢;clear hwx hA
  all_goals
   have X0:=hid (HX0.out.trans hE);clear hE hbx;go_wp2;go_ret;exact ⟨rfl,X0.out⟩
theorem isOutside_val {c:Cam} (hc:c.Ok) (f g:Nat->Int) (hf:patB f=true) (hg:patB g=true) (sh rt:Int) {vw vh:Int} (hvw:c.w*16 - 1=vw) (hvh:c.h*16 - 1=vh) {r:Bool} (hr:seesB c f g ⟨0,vw,0,vh⟩=r) (w:World) :
  Calls Tryz.prog 23 #[.agg #[c.w,c.h,c.zoom,c.near,.bool c.deep,c.lens,c.focus],.agg #[(f 0),(f 1),(f 2),(f 3),(f 4),(f 5),(f 6),(f 7),(f 8),(f 9),(f 10),(f 11),(g 0),(g 1),(g 2),(g 3),(g 4),(g 5),(g 6),(g 7),(g 8),(g 9),(g 10),(g 11),sh,rt]] w fun e w'=>e = .returned (.bool (!r))/\Ext w w':=by
 have HC:=hid hc;have HCB:=hid (Cam.okB_iff.2 hc);have HSV:=hid (fun w=>sees_val hc f g sh rt 0 0 vw vh hr w);have HVB:=hid (fun w=>viewBounds_val hc hvw hvh w);have HPF:=hid (fun w=>hf▸iIsValidPatch_any f w);have HPG:=hid (fun w=>hg▸iIsValidPatch_any g w);clear hc hf hg hvw hvh hr;have n0:w.heap.size=w.heap.size+0:=rfl;obtain ⟨V1,hV0,q0,x0,n1⟩:=mk_ w [c.w,c.h,c.zoom,c.near,.bool c.deep,c.lens,c.focus] 24 n0;obtain ⟨V2,hV1,q1,x1,n2⟩:=mk_ V1 [(f 0),(f 1),(f 2),(f 3),(f 4),(f 5),(f 6),(f 7),(f 8),(f 9),(f 10),(f 11),(g 0),(g 1),(g 2),(g 3),(g 4),(g 5),(g 6),(g 7),(g 8),(g 9),(g 10),(g 11),sh,rt] 42 n1;rw [Nat.add_zero] at q0;have H1:=hid (q0.ext x1);have H2:=hid (q1);have HX0:=hid (x0.trans x1);have HV0:=hid hV0;have HV1:=hid hV1;clear hV0 q0 x0 hV1 q1 x1 n0 n1 n2;go_enter Tryz.func23,Tryz.ntmps23;go_upto_region 1 with fail;rw [HV0.out,HV1.out]
 obtain ⟨W0,hW0⟩:∃W,V2=W:=⟨_,rfl⟩
 rw [hW0] at H1 H2 HX0;rw [hW0];clear hW0 HV0 HV1;have bq:=H1.out.ext (Ext.refl _);obtain ⟨c0,c1,c2,c3,c4,c5,c6⟩:=bq.q7;have lc:=bq.lt;clear bq;have hca:=H2.out.rangeB;have ls:=H2.out.lt;have HCA:=hid hca;clear hca;have d0:=H2.out.cell 0 rfl;have d1:=H2.out.cell 1 rfl;have d2:=H2.out.cell 2 rfl;have d3:=H2.out.cell 3 rfl;have d4:=H2.out.cell 4 rfl;have d5:=H2.out.cell 5 rfl;have d6:=H2.out.cell 6 rfl;have d7:=H2.out.cell 7 rfl;have d8:=H2.out.cell 8 rfl;have d9:=H2.out.cell 9 rfl;have d10:=H2.out.cell 10 rfl;have d11:=H2.out.cell 11 rfl;have d12:=H2.out.cell 12 rfl;have d13:=H2.out.cell 13 rfl;have d14:=H2.out.cell 14 rfl;have d15:=H2.out.cell 15 rfl;have d16:=H2.out.cell 16 rfl;have d17:=H2.out.cell 17 rfl;have d18:=H2.out.cell 18 rfl;have d19:=H2.out.cell 19 rfl;have d20:=H2.out.cell 20 rfl;have d21:=H2.out.cell 21 rfl;have d22:=H2.out.cell 22 rfl;have d23:=H2.out.cell 23 rfl;refine wp_region_stages [([0],1),([2,3,4],5),([6,7,8,9],10),([11,12,13,14,15],16),([],17),([18,19],20)] 20 W0.heap.size (by kernel_rfl) (by kernel_rfl) ?_;refine st_ fun K hK=>?_;go_wp2_with fail;refine (iIsValidCamera_val HCB.out _).mono ?_;rintro e w1 ⟨rfl,x1⟩;have y1:Ext W0 w1:=Ext.trans (Ext.drew (Ext.refl _)) x1;clear x1;go_wp2_with fail;refine hK _ _ (.inr (y1.same (Nat.le_refl _))) ?_;clear hK K;refine st_ fun K hK=>?_;go_wp2_with fail;refine (HPF.out _).mono ?_;rintro e w2 ⟨rfl,x2⟩;have y2:Ext W0 w2:=y1.trans x2;clear x2 y1;go_wp2_with fail;refine hK _ _ (.inr (y2.same (Nat.le_refl _))) ?_;clear hK K;refine st_ fun K hK=>?_;go_wp2_with fail;refine (HPG.out _).mono ?_;rintro e w3 ⟨rfl,x3⟩;have y3:Ext W0 w3:=y2.trans x3;clear x3 y2 d0 d1 d2 d3 d4 d5 d6 d7 d8 d9 d10 d11 d12 d13 d14 d15 d16 d17 d18 d19 d20 d21 d22 d23;go_wp2_with fail;refine hK _ _ (.inr (y3.same (Nat.le_refl _))) ?_;clear hK K;refine st_ (hq:=by intro R h;show wpQuiet _ _ _ _ [_,_,_,_,_] _;go_big_quiet_step (fail);go_big_quiet_step (fail);go_big_quiet_step (fail);refine wpQuiet_load_mid rfl _ _ rfl (w.heap.size+1) 0 rfl [(f 0),(f 1),(f 2),(f 3),(f 4),(f 5),(f 6),(f 7),(f 8),(f 9),(f 10),(f 11),(g 0),(g 1),(g 2),(g 3),(g 4),(g 5),(g 6),(g 7),(g 8),(g 9),(g 10),(g 11),sh,rt] _ (by rintro _ ⟨d,rfl⟩ j v hj;rw [cell?_lowg _ _ _ _ ls];exact HCA.out j v hj) Tryz.underlying42 rfl info_srf ?_;simp only [Act.put,List.setIfInBounds_toArray,List.set_cons_succ,List.set_cons_zero];go_big_quiet_step (fail);exact wpQuiet_nil h) fun K hK=>?_;go_wp2_with fail;refine (HVB.out _).mono ?_;rintro e w4 ⟨rfl,x4⟩;have y4:Ext W0 w4:=y3.trans x4;clear x4 y3;go_wp2_with fail;refine hK _ _ (.inr (y4.same (Nat.le_refl _))) ?_;clear hK K;refine st_ fun K hK=>?_;go_wp2_with fail;refine (HSV.out _).mono ?_;rintro e w5 ⟨rfl,x5⟩;have y5:Ext W0 w5:=y4.trans x5;clear x5 y4;go_wp2_with fail;refine hK _ _ (.inr (y5.same (Nat.le_refl _))) ?_;clear hK K;refine st_ fun K hK=>?_;go_wp2_with fail;refine hK _ _ (.inl (by trivial)) ?_;clear hK K;refine wpStages_nil ?_;have X:=hid (HX0.out.trans y5);clear y5;go_wp2;go_ret;exact ⟨rfl,X.out⟩
theorem within_yes {a lo hi:Int} (h:lo<=a/\a<=hi) (w:World):Calls Tryz.prog 54 #[a,lo,hi] w fun e w'=>e = .returned (.bool true)/\Ext w w':=by
 have h1:=h.1;have h2:=h.2;clear h;go_enter Tryz.func54,Tryz.ntmps54;go_wp2
 all_goals
  go_ret;exact ⟨by first|rfl|simp [*],X_⟩
theorem inside_yes {x y u v a b:Int} (hx:0<=x/\x<=a - 1) (hy:0<=y/\y<=b - 1) (hu:1<=u/\u<=a - x) (hv:1<=v/\v<=b - y) (ha:a<=100000) (hb:b<=100000) (w:World) :
  Calls Tryz.prog 111 #[.agg #[x,y,u,v],a,b] w fun e w'=>e = .returned (.bool true)/\Ext w w':=by
 have n0:w.heap.size=w.heap.size+0:=rfl;obtain ⟨V1,hV0,q0,x0,n1⟩:=mk_ w [x,y,u,v] 62 n0;rw [Nat.add_zero] at q0;have H1:=hid (q0);have HX0:=hid (x0);have HV0:=hid hV0;clear hV0 q0 x0 n0 n1;go_enter Tryz.func111,Tryz.ntmps111;go_upto_region 1 with fail;rw [HV0.out]
 obtain ⟨W0,hW0⟩:∃W,V1=W:=⟨_,rfl⟩
 rw [hW0] at H1 HX0;rw [hW0];clear hW0 HV0;have bq:=H1.out.ext (Ext.refl _);obtain ⟨c0,c1,c2,c3⟩:=bq.q4;have lc:=bq.lt;clear bq;go_wp2_with fail;refine (within_yes (by omega) _).mono ?_;rintro e w1 ⟨rfl,x1⟩;have X1:=hid (Ext.trans (Ext.refl _) x1);clear x1 c0 c1 c2 c3 lc;have bq:=H1.out.ext X1.out;obtain ⟨c0,c1,c2,c3⟩:=bq.q4;have lc:=bq.lt;clear bq;go_wp2_with fail;refine (within_yes (by omega) _).mono ?_;rintro e w2 ⟨rfl,x2⟩;have X2:=hid (X1.out.trans x2);clear x2 c0 c1 c2 c3 lc;have bq:=H1.out.ext X2.out;obtain ⟨c0,c1,c2,c3⟩:=bq.q4;have lc:=bq.lt;clear bq;go_wp2_with fail;refine (within_yes (by omega) _).mono ?_;rintro e w3 ⟨rfl,x3⟩;have X3:=hid (X2.out.trans x3);clear x3 c0 c1 c2 c3 lc;have bq:=H1.out.ext X3.out;obtain ⟨c0,c1,c2,c3⟩:=bq.q4;have lc:=bq.lt;clear bq;go_wp2_with fail;refine (within_yes (by omega) _).mono ?_;rintro e w4 ⟨rfl,x4⟩;have X4:=hid (X3.out.trans x4);clear x4 c0 c1 c2 c3 lc;go_wp2;go_ret;exact ⟨rfl,HX0.out.trans X4.out⟩
theorem isValidBucket_yes {c:Cam} (hc:c.Ok) {x y u v:Int} (hx:0<=x/\x<=c.w - 1) (hy:0<=y/\y<=c.h - 1) (hu:1<=u/\u<=c.w - x) (hv:1<=v/\v<=c.h - y) (w:World) :
  Calls Tryz.prog 55 #[.agg #[c.w,c.h,c.zoom,c.near,.bool c.deep,c.lens,c.focus],.agg #[x,y,u,v]] w fun e w'=>e = .returned (.bool true)/\Ext w w':=by
 have HCB:=hid (Cam.okB_iff.2 hc);have hcw:=hc.w;have hch:=hc.h;have HIN:=hid (fun w=>inside_yes hx hy hu hv (by omega) (by omega) w);clear hx hy hu hv hcw hch hc;have n0:w.heap.size=w.heap.size+0:=rfl;obtain ⟨V1,hV0,q0,x0,n1⟩:=mk_ w [c.w,c.h,c.zoom,c.near,.bool c.deep,c.lens,c.focus] 24 n0;obtain ⟨V2,hV1,q1,x1,n2⟩:=mk_ V1 [x,y,u,v] 62 n1;rw [Nat.add_zero] at q0;have H1:=hid (q0.ext x1);have H2:=hid (q1);have HX0:=hid (x0.trans x1);have NN:=hid n2;have HV0:=hid hV0;have HV1:=hid hV1;clear hV0 q0 x0 hV1 q1 x1 n0 n1 n2;go_enter Tryz.func55,Tryz.ntmps55;go_upto_region 1 with fail;rw [HV0.out,HV1.out]
 obtain ⟨W0,hW0⟩:∃W,V2=W:=⟨_,rfl⟩
 rw [hW0] at H1 H2 HX0 NN;rw [hW0];clear hW0 HV0 HV1;have bq:=H1.out.ext (Ext.refl _);obtain ⟨c0,c1,c2,c3,c4,c5,c6⟩:=bq.q7;have lc:=bq.lt;clear bq;go_wp2_with fail;refine (iIsValidCamera_val HCB.out _).mono ?_;rintro e w1 ⟨rfl,x1⟩;have X1:=hid x1;clear x1 c0 c1 c2 c3 c4 c5 c6 lc;have bq:=H1.out.ext X1.out;obtain ⟨c0,c1,c2,c3,c4,c5,c6⟩:=bq.q7;have lc:=bq.lt;clear bq;have bq:=H2.out.ext X1.out;obtain ⟨d0,d1,d2,d3⟩:=bq.q4;have ld:=bq.lt;clear bq;go_wp2_with fail;refine (HIN.out _).mono ?_;rintro e w2 ⟨rfl,x2⟩;have X2:=hid (HX0.out.trans (X1.out.trans x2));clear x2;go_wp2;go_ret;exact ⟨rfl,X2.out⟩
def candK (s:Scn) (v:Win) (k:Nat):List Int:=((List.range k).filter fun k=>seesB s.c (s.st k) (s.en k) v).map fun k=>((k:Nat):Int)
theorem candK_len (s:Scn) (v:Win) (k:Nat):(candK s v k).length<=k:=by
 unfold candK;rw [List.length_map];exact Nat.le_trans (List.length_filter_le _ _) (by rw [List.length_range];exact Nat.le_refl _)
theorem candK_yes {s:Scn} {v:Win} {k:Nat} (h:seesB s.c (s.st k) (s.en k) v=true):candK s v (k+1)=candK s v k++[((k:Nat):Int)]:=by
 unfold candK;rw [List.range_succ,List.filter_append,List.map_append,List.filter_cons_of_pos (by exact h)]
 rfl
theorem candK_no {s:Scn} {v:Win} {k:Nat} (h:seesB s.c (s.st k) (s.en k) v=false):candK s v (k+1)=candK s v k:=by
 unfold candK;rw [List.range_succ,List.filter_append,List.map_append,List.filter_cons_of_neg (by rw [h];decide)];simp
theorem candidates_any (s:Scn) (lo hi:Nat) (V:Value) {x y u v r0 r1 r3 r4:Int} (w:World) (hV:s.R lo hi w V) (hh:hi<=w.heap.size) (ho:s.Ok) (hb:(0<=x/\x<=1000)/\(0<=y/\y<=1000)/\(0<=u/\u<=1000)/\(0<=v/\v<=1000)) (h0:x*16=r0) (h1:y*16=r1) (h3:(x+u)*16 - 1=r3) (h4:(y+v)*16 - 1=r4) :
  Calls Tryz.prog 56 #[V,.agg #[x,y,u,v]] w fun e w'=>∃r,e = .returned r/\OwnInts w.heap.size w' r (candK s ⟨r0,r3,r1,r4⟩ s.m)/\Ext w w':=by
 have HV:=hid hV;have hm5:=ho.m;obtain ⟨a1,c1,a2,c2,a3,c3,rfl⟩:=hV.formV;have HO:=hid ho;have HBB:=hid (fun w=>bucketBox_val s.c hb h0 h1 h3 h4 w)
 obtain ⟨vw,hvw⟩:∃W:Win,W=⟨r0,r3,r1,r4⟩:=⟨_,rfl⟩
 have HVW:=hid hvw;rw [<-hvw];clear hV ho hb h0 h1 h3 h4 hvw;have n0:w.heap.size=w.heap.size+0:=rfl;obtain ⟨V1,hV0,q0,x0,n1⟩:=mk_ w [s.c.w,s.c.h,s.c.zoom,s.c.near,.bool s.c.deep,s.c.lens,s.c.focus,s.t.log,.slice a1 s.t.px.length c1,.slice a2 s.ps.length c2,.slice a3 s.m c3,s.side] 31 n0;obtain ⟨V2,hV1,q1,x1,n2⟩:=mk_ V1 [x,y,u,v] 62 n1;rw [Nat.add_zero] at q0;have H1:=hid (q0.ext x1);have H2:=hid (q1);have HX0:=hid (x0.trans x1);have NN:=hid n2;have HV0:=hid hV0;have HV1:=hid hV1;clear hV0 q0 x0 hV1 q1 x1 n0 n1 n2;go_enter Tryz.func56,Tryz.ntmps56;go_upto_region 1 with fail;rw [HV0.out,HV1.out]
 obtain ⟨W0,hW0⟩:∃W,V2=W:=⟨_,rfl⟩
 rw [hW0] at H1 H2 HX0 NN;rw [hW0];clear hW0 HV0 HV1;have HD:=hid (Blk.new W0 3 []);have z0:w.heap.size+1<W0.heap.size:=H2.out.lt;have c10:=H1.out.cell 10 rfl;have lc:=H1.out.lt;go_wp2_with fail;clear c10 lc
 go_loopw [5,12] (fun r i wr=>∃k:Nat,k<=s.m/\i = .int .i64 (k:Nat)/\OwnInts W0.heap.size wr r (candK s vw k)/\Ext W0 wr) (fun _ i _=>s.m - (intOf i).toNat)
 case atStart=>exact ⟨0,by omega,rfl,OwnInts.fresh0 (Nat.le_refl _) HD.out,X_⟩
 case round=>
  obtain ⟨k,hk,rfl,hu,hx⟩:=hrel;have HX:=hid hx;have HU:=hid hu;obtain ⟨ua,uc,rfl,hul⟩:=hu.form;have hLl:=candK_len s vw k
  rcases Nat.lt_or_ge k s.m with hlt|hge
  ·obtain ⟨q,n,h1,h2,h3,h4,h5,h6,h7⟩:=HO.out.at hlt
   obtain ⟨a1',c1',a2',c2',a3',c3',he,-,-,-,-,-,hF⟩:=(HV.out.ext hh (HX0.out.trans hx)).form;simp only [Value.agg.injEq,Array.mk.injEq,List.cons.injEq,Value.slice.injEq,true_and,and_true] at he;obtain ⟨⟨rfl,rfl⟩,⟨rfl,rfl⟩,⟨rfl,rfl⟩⟩:=he;have hcap:=hF.cap;have hle:=hF.le;obtain ⟨b,off,rfl,hb1,hb2,hcell⟩:=hF.at hlt (by decide);have hbw:b<wr.heap.size:=Nat.lt_of_lt_of_le hb2 (Nat.le_trans hh (HX0.out.trans hx).size)
   obtain ⟨rb,hrb⟩:∃r,seesB s.c (s.st k) (s.en k) vw=r:=⟨_,rfl⟩
   have HSU:=hid (show candK s vw (k+1)=if rb then candK s vw k++[((k:Nat):Int)] else candK s vw k by
    cases rb
    ·exact candK_no hrb
    ·exact candK_yes hrb)
   obtain ⟨L,hL⟩:∃L,candK s vw k=L:=⟨_,rfl⟩
   rw [hL] at HSU HU hLl hul;rw [hL];clear hL hu
   obtain ⟨f,hf⟩:∃f,s.st k=f:=⟨_,rfl⟩
   obtain ⟨g,hg⟩:∃f,s.en k=f:=⟨_,rfl⟩
   rw [hf,hg] at hrb;have HSE:=hid (fun w=>sees_val HO.out.c f g (q:Nat) (n:Nat) r0 r1 r3 r4 (show seesB s.c f g ⟨r0,r3,r1,r4⟩=rb by rw [<-HVW.out];exact hrb) w)
   have hcs:wr.rangeAt b (off+k*26) ((List.range 26).map fun j=>.int .i64 (s.F (k*26+j))):=by
    intro j v hj;obtain ⟨h1,h2⟩:=List.getElem?_eq_some_iff.1 hj;simp only [List.length_map,List.length_range] at h1;simp only [List.getElem_map,List.getElem_range] at h2;subst h2;exact hcell j h1
   change wr.rangeAt b (off+k*26) [(s.st k 0),(s.st k 1),(s.st k 2),(s.st k 3),(s.st k 4),(s.st k 5),(s.st k 6),(s.st k 7),(s.st k 8),(s.st k 9),(s.st k 10),(s.st k 11),(s.en k 0),(s.en k 1),(s.en k 2),(s.en k 3),(s.en k 4),(s.en k 5),(s.en k 6),(s.en k 7),(s.en k 8),(s.en k 9),(s.en k 10),(s.en k 11),(s.sh k),(s.rt k)] at hcs;simp only [hf,hg,h1,h3] at hcs;have HCS:=hid hcs;clear hF hcell hcs h1 h3 h6 h7 hf hg hx hrb;go_upto_region 5 with (first|(show wpList _ _ _ [_,_,_,_] _ _;refine wpList_load_mid rfl _ _ rfl b (off+k*26) rfl [(f 0),(f 1),(f 2),(f 3),(f 4),(f 5),(f 6),(f 7),(f 8),(f 9),(f 10),(f 11),(g 0),(g 1),(g 2),(g 3),(g 4),(g 5),(g 6),(g 7),(g 8),(g 9),(g 10),(g 11),(q:Nat),(n:Nat)] _ HCS.out Tryz.underlying42 rfl info_srfS ?_)|(show wpList _ _ _ [_] _ _;refine wpList_store_fresh _ _ _ rfl 42 (.tmp 7) (.tmp 16) rfl rfl #[(f 0),(f 1),(f 2),(f 3),(f 4),(f 5),(f 6),(f 7),(f 8),(f 9),(f 10),(f 11),(g 0),(g 1),(g 2),(g 3),(g 4),(g 5),(g 6),(g 7),(g 8),(g 9),(g 10),(g 11),(q:Nat),(n:Nat)] wr.heap.size rfl rfl rfl (by kernel_rfl) (by kernel_rfl) (by kernel_rfl) ?_));have x5:Ext wr (wr.alloc (.cells #[(f 0),(f 1),(f 2),(f 3),(f 4),(f 5),(f 6),(f 7),(f 8),(f 9),(f 10),(f 11),(g 0),(g 1),(g 2),(g 3),(g 4),(g 5),(g 6),(g 7),(g 8),(g 9),(g 10),(g 11),(q:Nat),(n:Nat)] 42)):=X_;have b5:=Blk.new wr 42 [(f 0),(f 1),(f 2),(f 3),(f 4),(f 5),(f 6),(f 7),(f 8),(f 9),(f 10),(f 11),(g 0),(g 1),(g 2),(g 3),(g 4),(g 5),(g 6),(g 7),(g 8),(g 9),(g 10),(g 11),(q:Nat),(n:Nat)]
   obtain ⟨X,hX⟩:∃S,wr.heap.size=S:=⟨_,rfl⟩
   obtain ⟨w5,hw5⟩:∃w,wr.alloc (.cells #[(f 0),(f 1),(f 2),(f 3),(f 4),(f 5),(f 6),(f 7),(f 8),(f 9),(f 10),(f 11),(g 0),(g 1),(g 2),(g 3),(g 4),(g 5),(g 6),(g 7),(g 8),(g 9),(g 10),(g 11),(q:Nat),(n:Nat)] 42)=w:=⟨_,rfl⟩
   rw [hw5] at x5 b5 ⊢;rw [hX] at b5 hbw ⊢;have HX5:=hid (HX.out.trans x5);have HU5:=hid (HU.out.ext x5);have HCA:=hid b5.rangeB;have ls:=b5.lt;clear hX hw5 x5 b5 HCS HU;have bq:=H1.out.ext HX5.out;obtain ⟨c0,c1,c2,c3,c4,c5,c6,c7,c8,c9,c10,c11⟩:=bq.q12;have lc:=bq.lt;clear bq;have bq:=H2.out.ext HX5.out;obtain ⟨d0,d1,d2,d3⟩:=bq.q4;have ld:=bq.lt;clear bq;refine wp_region_stages [([0,1,2,3,4,5],6),([],7)] 99 w5.heap.size (by kernel_rfl) (by kernel_rfl) ?_;refine st_ (hq:=by intro R h;show wpQuiet _ _ _ _ [_,_,_,_,_,_] _;go_big_quiet_step (fail);go_big_quiet_step (fail);refine wpQuiet_load_mid rfl _ _ rfl X 0 rfl [(f 0),(f 1),(f 2),(f 3),(f 4),(f 5),(f 6),(f 7),(f 8),(f 9),(f 10),(f 11),(g 0),(g 1),(g 2),(g 3),(g 4),(g 5),(g 6),(g 7),(g 8),(g 9),(g 10),(g 11),(q:Nat),(n:Nat)] _ (by rintro _ ⟨d,rfl⟩ j v hj;rw [cell?_lowg _ _ _ _ ls];exact HCA.out j v hj) Tryz.underlying42 rfl info_srfS ?_;simp only [Act.put,List.setIfInBounds_toArray,List.set_cons_succ,List.set_cons_zero];go_big_quiet_step (fail);go_big_quiet_step (fail);go_big_quiet_step (fail);exact wpQuiet_nil h) fun K hK=>?_;go_wp2_with fail;refine (HBB.out _).mono ?_;rintro e w6 ⟨rfl,x6⟩;have y6:Ext w5 w6:=Ext.trans (Ext.drew (Ext.refl _)) x6;clear x6;go_wp2_with fail;refine hK _ _ (.inr (y6.same (Nat.le_refl _))) ?_;clear hK K;refine st_ fun K hK=>?_;go_wp2_with fail;refine (HSE.out _).mono ?_;rintro e w7 ⟨rfl,x7⟩;have y7:Ext w5 w7:=y6.trans x7;clear x7 y6;go_wp2_with fail;refine hK _ _ (.inr (y7.same (Nat.le_refl _))) ?_;clear hK K;have y7:=hid y7;refine wpStages_nil ?_;have HX7:=hid (HX5.out.trans y7.out);have HU7:=hid (HU5.out.ext y7.out);clear y7 HX5 HU5 HCA ls c0 c1 c2 c3 c4 c5 c6 c7 c8 c9 c10 c11 lc d0 d1 d2 d3 ld
   cases rb
   ·go_wp2
    go_roundw
    case rel=>exact ⟨k+1,by omega,by go_num,by rw [HSU.out];exact HU7.out,HX7.out⟩
    case measure=>simp [intOf];omega
   ·have y8:Ext w7 (w7.alloc (.cells #[(k:Nat)] 3)):=X_
    have B8:=hid (Blk.new w7 3 [(k:Nat)]);have HU8:=hid (HU7.out.ext y8);have X8:=hid (HX7.out.trans y8);have Z8:=hid (show W0.heap.size<=(w7.alloc (.cells #[(k:Nat)] 3)).heap.size from X8.out.size);have I8:=hid (show I64 ((k:Nat):Int) from ⟨by omega,by omega⟩);have L8:=hid (show L.length<1000000000 by omega);clear y8;go_wp2_with (at_builtin;refine wpList_append1 _ rfl _ _ rfl W0.heap.size (.slice ua L.length uc) L rfl HU8.out (k:Nat) I8.out w7.heap.size rfl (B8.out.cell 0 rfl) L8.out Z8.out ?_;intro v9 w9 hown hg);have X9:=hid (X8.out.grown hg (fun b hb=>(HU8.out.lt b hb).1));have P:=hid hown;clear hown hg;go_wp2;go_roundw
    case rel=>exact ⟨k+1,by omega,by go_num,by rw [HSU.out];exact P.out,X9.out⟩
    case measure=>simp [intOf];omega
  ·obtain rfl:k=s.m:=by omega
   have P:=hid (hu.low (show w.heap.size<=W0.heap.size by omega));have X9:=hid (HX0.out.trans hx);clear hu hx HU HX;go_wp2;go_ret;exact ⟨_,rfl,P.out,X9.out⟩
theorem Candidates_any (s:Scn) (lo hi:Nat) (V:Value) {x y u v r0 r1 r3 r4:Int} (w:World) (hV:s.R lo hi w V) (hh:hi<=w.heap.size) (ho:s.Ok) (hsm:s.small) (hx:0<=x/\x<=s.c.w - 1) (hy:0<=y/\y<=s.c.h - 1) (hu:1<=u/\u<=s.c.w - x) (hv:1<=v/\v<=s.c.h - y) (h0:x*16=r0) (h1:y*16=r1) (h3:(x+u)*16 - 1=r3) (h4:(y+v)*16 - 1=r4) :
  Calls Tryz.prog 21 #[V,.agg #[x,y,u,v]] w fun e w'=>∃r,e = .returned r/\OwnInts w.heap.size w' r (candK s ⟨r0,r3,r1,r4⟩ s.m)/\Ext w w':=by
 have HV:=hid hV;have hcw:=ho.c.w;have hch:=ho.c.h;obtain ⟨a1,c1,a2,c2,a3,c3,rfl⟩:=hV.formV;have HO:=hid ho;have HSM:=hid hsm;have HOK:=hid (Scn.okB_iff.2 ho);have HBK:=hid (fun w=>isValidBucket_yes ho.c hx hy hu hv w);have HCD:=hid (fun V w hV hh=>candidates_any s lo hi V w hV hh ho (show (0<=x/\x<=1000)/\(0<=y/\y<=1000)/\(0<=u/\u<=1000)/\(0<=v/\v<=1000) by omega) h0 h1 h3 h4);clear hV ho hsm hx hy hu hv h0 h1 h3 h4 hcw hch;have n0:w.heap.size=w.heap.size+0:=rfl;obtain ⟨V1,hV0,q0,x0,n1⟩:=mk_ w [s.c.w,s.c.h,s.c.zoom,s.c.near,.bool s.c.deep,s.c.lens,s.c.focus,s.t.log,.slice a1 s.t.px.length c1,.slice a2 s.ps.length c2,.slice a3 s.m c3,s.side] 31 n0;obtain ⟨V2,hV1,q1,x1,n2⟩:=mk_ V1 [x,y,u,v] 62 n1;rw [Nat.add_zero] at q0;have H1:=hid (q0.ext x1);have H2:=hid (q1);have HX0:=hid (x0.trans x1);have NN:=hid n2;have HV0:=hid hV0;have HV1:=hid hV1;clear hV0 q0 x0 hV1 q1 x1 n0 n1 n2;go_enter Tryz.func21,Tryz.ntmps21;go_upto_region 1 with fail;rw [HV0.out,HV1.out]
 obtain ⟨W0,hW0⟩:∃W,V2=W:=⟨_,rfl⟩
 rw [hW0] at H1 H2 HX0 NN;rw [hW0];clear hW0 HV0 HV1;have bq:=H1.out.ext (Ext.refl _);obtain ⟨c0,c1,c2,c3,c4,c5,c6,c7,c8,c9,c10,c11⟩:=bq.q12;have lc:=bq.lt;clear bq;go_wp2_with fail;have CH:=iIsValidScene_any s lo hi _ _ (HV.out.ext hh HX0.out) (Nat.le_trans hh HX0.out.size) HSM.out;rw [HOK.out] at CH;refine CH.mono ?_;clear CH;rintro e w1 ⟨rfl,x1⟩;have X1:=hid x1;clear x1 c0 c1 c2 c3 c4 c5 c6 c7 c8 c9 c10 c11 lc;have bq:=H1.out.ext X1.out;obtain ⟨c0,c1,c2,c3,c4,c5,c6,c7,c8,c9,c10,c11⟩:=bq.q12;have lc:=bq.lt;clear bq;have bq:=H2.out.ext X1.out;obtain ⟨d0,d1,d2,d3⟩:=bq.q4;have ld:=bq.lt;clear bq;go_wp2_with fail;refine (HBK.out _).mono ?_;rintro e w2 ⟨rfl,x2⟩;have X2:=hid (X1.out.trans x2);clear x2 c0 c1 c2 c3 c4 c5 c6 c7 c8 c9 c10 c11 lc d0 d1 d2 d3 ld;have bq:=H1.out.ext X2.out;obtain ⟨c0,c1,c2,c3,c4,c5,c6,c7,c8,c9,c10,c11⟩:=bq.q12;have lc:=bq.lt;clear bq;have bq:=H2.out.ext X2.out;obtain ⟨d0,d1,d2,d3⟩:=bq.q4;have ld:=bq.lt;clear bq;have X3:=hid (HX0.out.trans X2.out);go_wp2_with fail;refine (HCD.out _ _ (HV.out.ext hh X3.out) (Nat.le_trans hh X3.out.size)).mono ?_;rintro e w3 ⟨r,rfl,o,x3⟩;have P:=hid (o.low X3.out.size);have X4:=hid (X3.out.trans x3);clear o x3 c0 c1 c2 c3 c4 c5 c6 c7 c8 c9 c10 c11 lc d0 d1 d2 d3 ld;go_wp2;go_ret;exact ⟨_,rfl,P.out,X4.out⟩
def cmpI (a b:Int):Int:=if a<b then -1 else if b<a then 1 else 0
theorem cmpI_gt {a b:Int} (h:b<a):cmpI a b=1:=by unfold cmpI;rw [if_neg (by omega),if_pos h]
theorem isNaN_val (n:Int) (w:World):Calls Tryz.prog 117 #[n] w fun e w'=>e = .returned (.bool false)/\w=w':=by
 go_enter Tryz.func117,Tryz.ntmps117;go_wp2;go_ret;exact ⟨rfl,rfl⟩
theorem cmpInt_val {a b c:Int} (h:cmpI a b=c) (w:World):Calls Tryz.prog 65 #[a,b] w fun e w'=>e = .returned (.int .i64 c)/\w=w':=by
 have H:=hid h;clear h
 by_cases h1:a<b
 ·have e:c = -1:=by rw [<-H.out];unfold cmpI;rw [if_pos h1]
  subst e;go_enter Tryz.func65,Tryz.ntmps65;go_wp2_with (first|(go_at_call 117;refine (isNaN_val _ _).mono ?_;rintro e w1 ⟨rfl,rfl⟩));go_ret;exact ⟨rfl,rfl⟩
 ·by_cases h2:b<a
  ·have e:c=1:=by rw [<-H.out];unfold cmpI;rw [if_neg h1,if_pos h2]
   subst e;go_enter Tryz.func65,Tryz.ntmps65;go_wp2_with (first|(go_at_call 117;refine (isNaN_val _ _).mono ?_;rintro e w1 ⟨rfl,rfl⟩));go_ret;exact ⟨rfl,rfl⟩
  ·have e:c=0:=by rw [<-H.out];unfold cmpI;rw [if_neg h1,if_neg h2]
   subst e;go_enter Tryz.func65,Tryz.ntmps65;go_wp2_with (first|(go_at_call 117;refine (isNaN_val _ _).mono ?_;rintro e w1 ⟨rfl,rfl⟩));go_ret;exact ⟨rfl,rfl⟩
theorem or2_val (x y:Int) (g:Nat) (w:World) (hb:Blk w g 3 [x,y]):Calls Tryz.prog 64 #[.slice (some ⟨g,0,none⟩) 2 2] w fun e w'=>(∃r:Int,e = .returned (.int .i64 r))/\w=w':=by
 obtain ⟨c0,c1⟩:=hb.q2;have lg:=hb.lt;clear hb;go_enter Tryz.func64,Tryz.ntmps64;go_wp2
 go_loopw [8] (fun i wr=>∃k:Nat,k<=2/\i = .int .i64 (k:Nat)/\w=wr) (fun i _=>2 - (intOf i).toNat)
 case atStart=>exact ⟨0,by omega,rfl,rfl⟩
 case round=>
  obtain ⟨k,hk,rfl,rfl⟩:=hrel
  rcases (show k=0\/k=1\/k=2 by omega) with rfl|rfl|rfl
  ·by_cases hx:x=0
   ·go_wp2
    go_roundw
    case rel=>exact ⟨1,by omega,by go_num,by trivial⟩
    case measure=>simp [intOf]
   ·go_wp2
    go_ret;exact ⟨⟨_,rfl⟩,rfl⟩
  ·by_cases hy:y=0
   ·go_wp2
    go_roundw
    case rel=>exact ⟨2,by omega,by go_num,by trivial⟩
    case measure=>simp [intOf]
   ·go_wp2
    go_ret;exact ⟨⟨_,rfl⟩,rfl⟩
  ·go_wp2
   go_ret;exact ⟨⟨_,rfl⟩,rfl⟩
theorem depthCmp_any (s:Scn) (lo hi B:Nat) {a1 a2 a3:Option Addr} {c1 c2 c3:Nat} (i j:Nat) (W w:World) (hV:s.R lo hi W (.agg #[s.c.w,s.c.h,s.c.zoom,s.c.near,.bool s.c.deep,s.c.lens,s.c.focus,s.t.log,.slice a1 s.t.px.length c1,.slice a2 s.ps.length c2,.slice a3 s.m c3,s.side])) (hB:Blk W B 31 [s.c.w,s.c.h,s.c.zoom,s.c.near,.bool s.c.deep,s.c.lens,s.c.focus,s.t.log,.slice a1 s.t.px.length c1,.slice a2 s.ps.length c2,.slice a3 s.m c3,s.side]) (hh:hi<=W.heap.size) (hx:Ext W w) (ho:s.Ok) (hi2:i<s.m) (hj:j<s.m) :
  Calls Tryz.prog 63 #[(i:Nat),(j:Nat),.pointer (some ⟨B,0,none⟩)] w fun e w'=>(∃r:Int,e = .returned (.int .i64 r))/\Ext w w':=by
 have hm5:=ho.m;obtain ⟨a1',c1',a2',c2',a3',c3',he,-,-,-,-,-,hF⟩:=(hV.ext hh hx).form;simp only [Value.agg.injEq,Array.mk.injEq,List.cons.injEq,Value.slice.injEq,true_and,and_true] at he;obtain ⟨⟨rfl,rfl⟩,⟨rfl,rfl⟩,⟨rfl,rfl⟩⟩:=he;have hcap:=hF.cap;have hle:=hF.le;obtain ⟨b,off,rfl,hb1,hb2,hcell⟩:=hF.at hi2 (by decide);have hbw:b<w.heap.size:=Nat.lt_of_lt_of_le hb2 (Nat.le_trans hh hx.size);obtain ⟨b',off',he,-,-,hcell2⟩:=hF.at hj (by decide);simp only [Option.some.injEq,Addr.mk.injEq,and_true] at he;obtain ⟨rfl,rfl⟩:=he;obtain ⟨q1,n1,h1,h2,h3,h4,h5,h6,h7⟩:=ho.at hi2
 obtain ⟨f1,hf⟩:∃f,s.st i=f:=⟨_,rfl⟩
 obtain ⟨g1,hg⟩:∃f,s.en i=f:=⟨_,rfl⟩
 have hcs:w.rangeAt b (off+i*26) ((List.range 26).map fun d=>.int .i64 (s.F (i*26+d))):=by
  intro d v hd;obtain ⟨h1,h2⟩:=List.getElem?_eq_some_iff.1 hd;simp only [List.length_map,List.length_range] at h1;simp only [List.getElem_map,List.getElem_range] at h2;subst h2;exact hcell d h1
 change w.rangeAt b (off+i*26) [(s.st i 0),(s.st i 1),(s.st i 2),(s.st i 3),(s.st i 4),(s.st i 5),(s.st i 6),(s.st i 7),(s.st i 8),(s.st i 9),(s.st i 10),(s.st i 11),(s.en i 0),(s.en i 1),(s.en i 2),(s.en i 3),(s.en i 4),(s.en i 5),(s.en i 6),(s.en i 7),(s.en i 8),(s.en i 9),(s.en i 10),(s.en i 11),(s.sh i),(s.rt i)] at hcs;simp only [hf,hg,h1,h3] at hcs;have HCS1:=hid hcs;clear hcell hcs h1 h2 h3 h4 h5 h6 h7 hf hg;have HN1:=hid (fun w=>iSurfaceNear_val f1 g1 (q1:Nat) (n1:Nat) w)
 obtain ⟨N1,hN⟩:∃z,nearS f1 g1=z:=⟨_,rfl⟩
 rw [hN] at HN1;clear hN;obtain ⟨q2,n2,h1,h2,h3,h4,h5,h6,h7⟩:=ho.at hj
 obtain ⟨f2,hf⟩:∃f,s.st j=f:=⟨_,rfl⟩
 obtain ⟨g2,hg⟩:∃f,s.en j=f:=⟨_,rfl⟩
 have hcs:w.rangeAt b (off+j*26) ((List.range 26).map fun d=>.int .i64 (s.F (j*26+d))):=by
  intro d v hd;obtain ⟨h1,h2⟩:=List.getElem?_eq_some_iff.1 hd;simp only [List.length_map,List.length_range] at h1;simp only [List.getElem_map,List.getElem_range] at h2;subst h2;exact hcell2 d h1
 change w.rangeAt b (off+j*26) [(s.st j 0),(s.st j 1),(s.st j 2),(s.st j 3),(s.st j 4),(s.st j 5),(s.st j 6),(s.st j 7),(s.st j 8),(s.st j 9),(s.st j 10),(s.st j 11),(s.en j 0),(s.en j 1),(s.en j 2),(s.en j 3),(s.en j 4),(s.en j 5),(s.en j 6),(s.en j 7),(s.en j 8),(s.en j 9),(s.en j 10),(s.en j 11),(s.sh j),(s.rt j)] at hcs;simp only [hf,hg,h1,h3] at hcs;have HCS2:=hid hcs;clear hcell2 hcs h1 h2 h3 h4 h5 h6 h7 hf hg;have HN2:=hid (fun w=>iSurfaceNear_val f2 g2 (q2:Nat) (n2:Nat) w)
 obtain ⟨N2,hN⟩:∃z,nearS f2 g2=z:=⟨_,rfl⟩
 rw [hN] at HN2;clear hN;have c10:=(hB.ext hx).cell 10 rfl;have lB:=(hB.ext hx).lt;have HX:=hid hx;clear hF hV hB hx ho;go_enter Tryz.func63,Tryz.ntmps63;go_upto_region 1 with fail;refine wp_region_stages [([0,1,2,3,4,6,7,8,9,10,13,14],5),([],11),([],12),([],15),([],16),([],17),([],18)] 18 w.heap.size (by kernel_rfl) (by kernel_rfl) ?_;refine st_ (hq:=by intro R h;show wpQuiet _ _ _ _ [_,_,_,_,_,_,_,_,_,_,_,_] _;go_big_quiet_step (fail);go_big_quiet_step (fail);go_big_quiet_step (fail);go_big_quiet_step (fail);refine wpQuiet_load_mid rfl _ _ rfl b (off+i*26) rfl [(f1 0),(f1 1),(f1 2),(f1 3),(f1 4),(f1 5),(f1 6),(f1 7),(f1 8),(f1 9),(f1 10),(f1 11),(g1 0),(g1 1),(g1 2),(g1 3),(g1 4),(g1 5),(g1 6),(g1 7),(g1 8),(g1 9),(g1 10),(g1 11),(q1:Nat),(n1:Nat)] _ (by rintro _ ⟨d,rfl⟩ j v hj;rw [cell?_lowg _ _ _ _ hbw];exact HCS1.out j v hj) Tryz.underlying42 rfl info_srfS ?_;simp only [Act.put,List.setIfInBounds_toArray,List.set_cons_succ,List.set_cons_zero];go_big_quiet_step (fail);go_big_quiet_step (fail);go_big_quiet_step (fail);go_big_quiet_step (fail);refine wpQuiet_load_mid rfl _ _ rfl b (off+j*26) rfl [(f2 0),(f2 1),(f2 2),(f2 3),(f2 4),(f2 5),(f2 6),(f2 7),(f2 8),(f2 9),(f2 10),(f2 11),(g2 0),(g2 1),(g2 2),(g2 3),(g2 4),(g2 5),(g2 6),(g2 7),(g2 8),(g2 9),(g2 10),(g2 11),(q2:Nat),(n2:Nat)] _ (by rintro _ ⟨d,rfl⟩ j v hj;rw [cell?_lowg _ _ _ _ hbw];exact HCS2.out j v hj) Tryz.underlying42 rfl info_srfS ?_;simp only [Act.put,List.setIfInBounds_toArray,List.set_cons_succ,List.set_cons_zero];go_big_quiet_step (fail);go_big_quiet_step (fail);exact wpQuiet_nil h) fun K hK=>?_;go_wp2_with fail;refine (HN1.out _).mono ?_;rintro e w1 ⟨rfl,x1⟩;have y1:Ext w w1:=Ext.trans (Ext.drew (Ext.refl _)) x1;clear x1;go_wp2_with fail;refine hK _ _ (.inr (y1.same (Nat.le_refl _))) ?_;clear hK K;refine st_ fun K hK=>?_;go_wp2_with fail;refine (HN2.out _).mono ?_;rintro e w2 ⟨rfl,x2⟩;have y2:Ext w w2:=y1.trans x2;clear x2 y1;go_wp2_with fail;refine hK _ _ (.inr (y2.same (Nat.le_refl _))) ?_;clear hK K;refine st_ fun K hK=>?_;go_wp2_with fail;refine (cmpInt_val rfl _).mono ?_;rintro e w3 ⟨rfl,rfl⟩
 obtain ⟨C1,hC1⟩:∃z,cmpI N1 N2=z:=⟨_,rfl⟩
 rw [hC1];clear hC1;go_wp2_with fail;refine hK _ _ (.inr (y2.same (Nat.le_refl _))) ?_;clear hK K;refine st_ fun K hK=>?_;go_wp2_with fail;refine (cmpInt_val rfl _).mono ?_;rintro e w3 ⟨rfl,rfl⟩
 obtain ⟨C2,hC2⟩:∃z,cmpI (i:Nat) (j:Nat)=z:=⟨_,rfl⟩
 rw [hC2];clear hC2;go_wp2_with fail;refine hK _ _ (.inr (y2.same (Nat.le_refl _))) ?_;clear hK K;refine st_ fun K hK=>?_;go_wp2_with fail;have y3:Ext w (w2.alloc (.cells #[C1,C2] 3)):=y2.trans X_;go_wp2_with fail;refine hK _ _ (.inr (y3.same (Nat.le_refl _))) ?_;clear hK K;have hb3:=hid (Blk.new w2 3 [C1,C2]);refine st_ fun K hK=>?_;go_wp2_with fail;refine (or2_val C1 C2 w2.heap.size _ hb3.out).mono ?_;rintro e w4 ⟨⟨r,rfl⟩,rfl⟩;go_wp2_with fail;refine hK _ _ (.inr (y3.same (Nat.le_refl _))) ?_;clear hK K;refine st_ fun K hK=>?_;go_wp2_with fail;refine hK _ _ (.inl (by trivial)) ?_;clear hK K;refine wpStages_nil ?_;have Y:=hid y3;clear y3 y2;go_wp2;go_ret;exact ⟨⟨_,rfl⟩,Y.out⟩
def Srtd (s:Scn) (N:Nat) (v:Value) (n:Nat) (w:World):Prop:=∃L:List Int,L.length=n/\(∀x∈L,∃k:Nat,x=(k:Int)/\k<s.m)/\OwnInts N w v L
theorem Same.setUp {N g q:Nat} {w0 w:World} {u:Value} (h:Same 0 N w0 w) (hg:N<=g):Same 0 N w0 (w.setCell ⟨g,q,none⟩ u):=fun b h1 h2=>(Below.heap_setCell w _ u b (by simp;omega)).trans (h b h1 h2)
theorem Srtd.ext {s:Scn} {N n:Nat} {v:Value} {w w':World} (h:Srtd s N v n w) (x:Ext w w'):Srtd s N v n w':=by
 obtain ⟨L,h1,h2,h3⟩:=h;exact ⟨L,h1,h2,h3.ext x⟩
theorem Srtd.at {s:Scn} {N n c:Nat} {a:Option Addr} {w:World} (h:Srtd s N (.slice a n c) n w) {q:Nat} (hq:q<n):∃g k:Nat,a=some ⟨g,0,none⟩/\N<=g/\g<w.heap.size/\k<s.m/\w.cell? ⟨g,q,none⟩=some (.int .i64 (k:Nat))/\w.frozen? ⟨g,q,none⟩=false:=by
 obtain ⟨L,h1,h2,h3⟩:=h;obtain ⟨g,y,e,a1,a2,a3,a4,a5,-⟩:=h3.at h1.symm (k:=q) (by omega);obtain ⟨k,rfl,hk⟩:=h2 y (List.mem_of_getElem? a3);exact ⟨g,k,e,a1,a2,hk,a4,a5⟩
theorem Srtd.set {s:Scn} {N n c g:Nat} {w:World} (h:Srtd s N (.slice (some ⟨g,0,none⟩) n c) n w) (ho:s.m<=1000000) {q k:Nat} (hq:q<n) (hk:k<s.m):Srtd s N (.slice (some ⟨g,0,none⟩) n c) n (w.setCell ⟨g,q,none⟩ (.int .i64 (k:Nat))):=by
 obtain ⟨L,h1,h2,h3⟩:=h;obtain ⟨g',y,e,a1,a2,a3,a4,a5,a6⟩:=h3.at h1.symm (k:=q) (by omega);simp only [Option.some.injEq,Addr.mk.injEq,and_true] at e;subst e;refine ⟨L.set q (k:Nat),by rw [List.length_set];exact h1,fun x hx=>?_,(a6 _ ⟨by omega,by omega⟩).1⟩
 rcases List.mem_or_eq_of_mem_set hx with h|h
 ·exact h2 x h
 ·exact ⟨k,h,hk⟩
theorem insSort_any (s:Scn) (lo hi B:Nat) {a1 a2 a3:Option Addr} {c1 c2 c3:Nat} (W w:World) (hV:s.R lo hi W (.agg #[s.c.w,s.c.h,s.c.zoom,s.c.near,.bool s.c.deep,s.c.lens,s.c.focus,s.t.log,.slice a1 s.t.px.length c1,.slice a2 s.ps.length c2,.slice a3 s.m c3,s.side])) (hB:Blk W B 31 [s.c.w,s.c.h,s.c.zoom,s.c.near,.bool s.c.deep,s.c.lens,s.c.focus,s.t.log,.slice a1 s.t.px.length c1,.slice a2 s.ps.length c2,.slice a3 s.m c3,s.side]) (hh:hi<=W.heap.size) (hx:Ext W w) (ho:s.Ok) {a:Option Addr} {n c:Nat} (hs:Srtd s W.heap.size (.slice a n c) n w) (hnc:n<=c) (hcm:c<=9223372036854775807) (hn:n<=19) :
  Calls Tryz.prog 175 #[.slice a n c,(),(n:Nat),.func (.func 63) #[] #[.pointer (some ⟨B,0,none⟩)]] w fun e w'=>e = .returned (.tuple #[])/\Srtd s W.heap.size (.slice a n c) n w'/\Ext W w':=by
 have hm5:=ho.m;have HCL:=hid (fun (i j:Nat) (w:World) (hx:Ext W w) (hi2:i<s.m) (hj:j<s.m)=>depthCmp_any s lo hi B i j W w hV hB hh hx ho hi2 hj);have HX:=hid hx;have HS:=hid hs;clear hV hB hh hx ho hs;go_enter Tryz.func175,Tryz.ntmps175;go_wp2_with fail
 go_loopw [8] (fun i wr=>∃k:Nat,1<=k/\k<=n+1/\i = .int .i64 (k:Nat)/\Srtd s W.heap.size (.slice a n c) n wr/\Ext W wr) (fun i _=>n+1 - (intOf i).toNat)
 case atStart=>exact ⟨1,by omega,by omega,rfl,HS.out,HX.out⟩
 case round=>
  obtain ⟨k,hk1,hk2,rfl,hs,hx⟩:=hrel;have HX:=hid hx;have HS:=hid hs;clear hs hx
  rcases Nat.lt_or_ge k n with hlt|hge
  ·obtain ⟨WA,rfl⟩:∃W',W'=wr:=⟨_,rfl⟩
   go_wp2_with fail
   go_loopw [9] (fun j wr=>∃q:Nat,q<=k/\j = .int .i64 (q:Nat)/\Srtd s W.heap.size (.slice a n c) n wr/\Ext W wr) (fun j _=>(intOf j).toNat)
   case atStart=>exact ⟨k,by omega,rfl,HS.out,HX.out⟩
   case round=>
    obtain ⟨q,hq,rfl,hs,hx⟩:=hrel;have HX:=hid hx;have HS:=hid hs
    rcases q with _|q
    ·clear hs hx
     go_upto_region 4 with fail;refine wp_region_stages [([0,1,2,3,4,5,6,7,8,9,10,11,12,13],14),([15],16)] 99 wr.heap.size (by kernel_rfl) (by kernel_rfl) ?_;refine st_ fun K hK=>?_;go_wp2_with fail;have y0:Ext wr wr.drew:=Ext.drew (Ext.refl _);go_wp2_with fail;refine hK _ _ (.inr (y0.same (Nat.le_refl _))) ?_;clear hK K;refine st_ fun K hK=>?_;go_wp2_with fail;go_wp2_with fail;refine hK _ _ (.inr (y0.same (Nat.le_refl _))) ?_;clear hK K;refine wpStages_nil ?_;have P:=hid (HS.out.ext y0);have X:=hid (HX.out.trans y0);clear y0;go_wp2;go_roundw
     case rel=>exact ⟨k+1,by omega,by omega,by go_num,P.out,X.out⟩
     case measure=>simp [intOf];omega
    ·obtain ⟨g,i,rfl,g1,g2,hi2,ci,fi⟩:=hs.at (q:=q+1) (by omega)
     obtain ⟨g',j,he,-,-,hj,cj,fj⟩:=hs.at (q:=q) (by omega);simp only [Option.some.injEq,Addr.mk.injEq,and_true] at he;subst he;have g3:W.heap.size<=g:=g1;clear hs hx;go_upto_region 4 with fail;refine wp_region_stages [([0,1,2,3,4,5,6,7,8,9,10,11,12,13],14),([15],16)] 99 wr.heap.size (by kernel_rfl) (by kernel_rfl) ?_;refine st_ fun K hK=>?_;go_wp2_with fail;have y0:Ext wr wr.drew:=Ext.drew (Ext.refl _);refine (HCL.out i j _ (HX.out.trans y0) hi2 hj).mono ?_;rintro e w5 ⟨⟨r,rfl⟩,x5⟩;have y5:Ext wr w5:=y0.trans x5;clear x5 y0;go_wp2_with fail;refine hK _ _ (.inr (y5.same (Nat.le_refl _))) ?_;clear hK K;refine st_ fun K hK=>?_;go_wp2_with fail;go_wp2_with fail;refine hK _ _ (.inr (y5.same (Nat.le_refl _))) ?_;clear hK K;refine wpStages_nil ?_;have S5:=hid (HS.out.ext y5);have X5:=hid (HX.out.trans y5);clear y5 HS HX ci cj fi fj g2
     by_cases hr:r<0
     ·have hr:=decide_eq_true hr
      go_upto_region 6 with fail
      obtain ⟨wd,hwd⟩:∃w',w5.drew=w':=⟨_,rfl⟩
      have SD:=S5.out.ext (show Ext w5 wd by rw [<-hwd];exact Ext.drew (Ext.refl _));have sd:Same 0 W.heap.size w5 wd:=(show Ext w5 wd by rw [<-hwd];exact Ext.drew (Ext.refl _)).same X5.out.size;have XD:=hid (X5.out.trans (show Ext w5 wd by rw [<-hwd];exact Ext.drew (Ext.refl _)));obtain ⟨g',i',he,-,g2,hi',ci,fi⟩:=SD.at (q:=q+1) (by omega);simp only [Option.some.injEq,Addr.mk.injEq,and_true] at he;subst he;obtain ⟨g',j',he,-,-,hj',cj,fj⟩:=SD.at (q:=q) (by omega);simp only [Option.some.injEq,Addr.mk.injEq,and_true] at he;subst he;have HSD:=hid SD;clear SD;refine wp_region_Z 17 W.heap.size (by kernel_rfl) ?_;rw [hwd];refine z2_ (fuel:=5) [0,1,2,3,4,5,6,7,8,10,11,12] 9 13 sd (fun K hK=>?A1) fun K hK=>?A2
      case' A1=>
       go_wp2;refine hK _ _ (.inr sd) ?_;clear hK K;refine z1_ (fuel:=4) [] 13 sd fun K hK=>?_;go_wp2;refine hK _ _ (.inr sd) ?_;clear hK K
      case' A2=>
       go_wp2;refine hK _ _ (.inr sd) ?_;clear hK K;refine z1_ (fuel:=4) [] 9 sd fun K hK=>?_;go_wp2;refine hK _ _ (.inr sd) ?_;clear hK K
      all_goals
       refine z1_ (fuel:=2) [14] 15 sd fun K hK=>?_;go_wp2;refine hK _ _ (.inr (Same.setUp sd g3)) ?_;clear hK K;refine z1_ (fuel:=0) [16] 17 (Same.setUp sd g3) fun K hK=>?_;go_wp2;refine hK _ _ (.inl (by trivial)) ?_;clear hK K;refine wpZ_end (by kernel_rfl) ?_;have P:=hid ((HSD.out.set (by omega) (q:=q+1) (by omega) hj').set (by omega) (q:=q) (by omega) hi');have X:=hid (show Ext W ((wd.setCell ⟨g,q+1,none⟩ (.int .i64 (j':Nat))).setCell ⟨g,q,none⟩ (.int .i64 (i':Nat))) from Ext.setCell (Ext.setCell XD.out g3 _) g3 _);go_wp2;go_roundw
       case rel=>exact ⟨q,by omega,by go_num,P.out,X.out⟩
       case measure=>simp [intOf]
     ·have hr:=decide_eq_false hr
      go_wp2;go_roundw
      case rel=>exact ⟨k+1,by omega,by omega,by go_num,S5.out,X5.out⟩
      case measure=>simp [intOf];omega
  ·go_wp2
   go_end0
   exact ⟨rfl,HS.out,HX.out⟩
theorem stableCmp_any (s:Scn) (lo hi B:Nat) {a1 a2 a3:Option Addr} {c1 c2 c3:Nat} (W w:World) (hV:s.R lo hi W (.agg #[s.c.w,s.c.h,s.c.zoom,s.c.near,.bool s.c.deep,s.c.lens,s.c.focus,s.t.log,.slice a1 s.t.px.length c1,.slice a2 s.ps.length c2,.slice a3 s.m c3,s.side])) (hB:Blk W B 31 [s.c.w,s.c.h,s.c.zoom,s.c.near,.bool s.c.deep,s.c.lens,s.c.focus,s.t.log,.slice a1 s.t.px.length c1,.slice a2 s.ps.length c2,.slice a3 s.m c3,s.side]) (hh:hi<=W.heap.size) (hx:Ext W w) (ho:s.Ok) {a:Option Addr} {n c:Nat} (hs:Srtd s W.heap.size (.slice a n c) n w) (hnc:n<=c) (hcm:c<=9223372036854775807) (hn:n<=19) :
  Calls Tryz.prog 116 #[.slice a n c,(n:Nat),.func (.func 63) #[] #[.pointer (some ⟨B,0,none⟩)]] w fun e w'=>e = .returned (.tuple #[])/\Srtd s W.heap.size (.slice a n c) n w'/\Ext W w':=by
 have HC:=hid (fun (w:World) (hx:Ext W w) (hs:Srtd s W.heap.size (.slice a n c) n w)=>insSort_any s lo hi B W w hV hB hh hx ho hs hnc hcm hn);have HX:=hid hx;have HS:=hid hs;clear hV hB hh hx ho hs;go_enter Tryz.func116,Tryz.ntmps116;go_wp2_with fail
 go_loopw [7,8] (fun x i wr=>x = .int .i64 0/\i = .int .i64 20/\w=wr) (fun _ _ _=>0)
 case atStart=>exact ⟨rfl,rfl,rfl⟩
 case round=>
  obtain ⟨rfl,rfl,rfl⟩:=hrel;go_wp2_with fail;refine (HC.out _ HX.out HS.out).mono ?_;rintro e w1 ⟨rfl,s1,x1⟩;have S1:=hid s1;have X1:=hid x1;clear s1 x1;go_wp2_with fail
  go_loopw [6] (fun i wr=>i = .int .i64 20/\w1=wr) (fun _ _=>0)
  case atStart=>exact ⟨rfl,rfl⟩
  case round=>
   obtain ⟨rfl,rfl⟩:=hrel;go_wp2
   go_end0
   exact ⟨rfl,S1.out,X1.out⟩
theorem sortStable_any (s:Scn) (lo hi B:Nat) {a1 a2 a3:Option Addr} {c1 c2 c3:Nat} (W w:World) (hV:s.R lo hi W (.agg #[s.c.w,s.c.h,s.c.zoom,s.c.near,.bool s.c.deep,s.c.lens,s.c.focus,s.t.log,.slice a1 s.t.px.length c1,.slice a2 s.ps.length c2,.slice a3 s.m c3,s.side])) (hB:Blk W B 31 [s.c.w,s.c.h,s.c.zoom,s.c.near,.bool s.c.deep,s.c.lens,s.c.focus,s.t.log,.slice a1 s.t.px.length c1,.slice a2 s.ps.length c2,.slice a3 s.m c3,s.side]) (hh:hi<=W.heap.size) (hx:Ext W w) (ho:s.Ok) {a:Option Addr} {n c:Nat} (hs:Srtd s W.heap.size (.slice a n c) n w) (hnc:n<=c) (hcm:c<=9223372036854775807) (hn:n<=19) :
  Calls Tryz.prog 62 #[.slice a n c,.func (.func 63) #[] #[.pointer (some ⟨B,0,none⟩)]] w fun e w'=>e = .returned (.tuple #[])/\Srtd s W.heap.size (.slice a n c) n w'/\Ext W w':=by
 have HC:=hid (stableCmp_any s lo hi B W w hV hB hh hx ho hs hnc hcm hn);clear hV hB hh hx ho hs;go_enter Tryz.func62,Tryz.ntmps62;go_wp2_with fail;refine HC.out.mono ?_;rintro e w1 ⟨rfl,s1,x1⟩;go_wp2
 go_end0
 exact ⟨rfl,s1,x1⟩
theorem has_yes {N:Nat} {v:Value} {L:List Int} {x:Int} {w:World} (h:OwnInts N w v L) (hx:x∈L) :
  Calls Tryz.prog 22 #[v,x] w fun e w'=>e = .returned (.bool true)/\w=w':=by
 have H:=hid h;have HM:=hid hx;obtain ⟨a,c,rfl,hl⟩:=h.form;clear h hx;go_enter Tryz.func22,Tryz.ntmps22;go_wp2_with fail
 go_loopw [9] (fun i wr=>∃k:Nat,k<=L.length/\i = .int .i64 (k:Nat)/\x∉L.take k/\w=wr) (fun i _=>L.length - (intOf i).toNat)
 case atStart=>exact ⟨0,by omega,rfl,by simp,rfl⟩
 case round=>
  obtain ⟨k,hk,rfl,hn,rfl⟩:=hrel;have HN:=hid hn;clear hn
  rcases Nat.lt_or_ge k L.length with hlt|hge
  ·obtain ⟨g,y,rfl,g1,g2,g3,g4,g5,-⟩:=H.out.at rfl hlt
   have hcap:=H.out.ints;obtain ⟨a',c',he,hc1,hc2,-⟩:=hcap;simp only [Value.slice.injEq,true_and] at he;obtain ⟨rfl,rfl⟩:=he;unfold maxLen at hc2;have HG:=hid g3;clear g3 g5
   by_cases hy:y=x
   ·go_wp2
    go_ret;exact ⟨rfl,rfl⟩
   ·have HY:=hid hy
    go_wp2;go_roundw
    case rel=>
     refine ⟨k+1,by omega,by go_num,?_,by trivial⟩;rw [List.take_add_one,HG.out,Option.toList_some,List.mem_append,List.mem_singleton];rintro (h|h)
     ·exact HN.out h
     ·exact HY.out h.symm
    case measure=>simp [intOf];omega
  ·exact absurd (by rw [List.take_of_length_le hge];exact HM.out) HN.out
theorem allWithin_yes {N:Nat} {v:Value} {L:List Int} {lo hi:Int} {w:World} (h:OwnInts N w v L) (hr:∀x∈L,lo<=x/\x<=hi) :
  Calls Tryz.prog 60 #[v,lo,hi] w fun e w'=>e = .returned (.bool true)/\Ext w w':=by
 have H:=hid h;have HM:=hid hr;obtain ⟨a,c,rfl,hl⟩:=h.form;clear h hr;go_enter Tryz.func60,Tryz.ntmps60;go_wp2_with fail
 go_loopw [11] (fun i wr=>∃k:Nat,k<=L.length/\i = .int .i64 (k:Nat)/\Ext w wr) (fun i _=>L.length - (intOf i).toNat)
 case atStart=>exact ⟨0,by omega,rfl,Ext.refl _⟩
 case round=>
  obtain ⟨k,hk,rfl,hx⟩:=hrel;have HX:=hid hx
  rcases Nat.lt_or_ge k L.length with hlt|hge
  ·obtain ⟨g,y,rfl,g1,g2,g3,g4,g5,-⟩:=(H.out.ext hx).at rfl hlt
   have hcap:=H.out.ints;obtain ⟨a',c',he,hc1,hc2,-⟩:=hcap;simp only [Value.slice.injEq,true_and] at he;obtain ⟨rfl,rfl⟩:=he;unfold maxLen at hc2;have HB:=hid (HM.out y (List.mem_of_getElem? g3));clear g3 g5 hx;go_wp2_with fail;refine (within_yes HB.out _).mono ?_;rintro e w1 ⟨rfl,x1⟩;have X1:=hid (HX.out.trans x1);clear x1;go_wp2;go_roundw
   case rel=>exact ⟨k+1,by omega,by go_num,X1.out⟩
   case measure=>simp [intOf];omega
  ·clear hx
   go_wp2;go_ret;exact ⟨rfl,HX.out⟩
theorem sliceNilN (w:World):(binOp .eql 25 (.slice none 0 0) (.slice none 0 0)).run Tryz.prog w = .ok (.bool true) w:=by
 simp only [binOp];simp [Op.equal,Op.maxDepth,Lib.run_equalIn_slice_nil w 9999 25 3 none 0 0 0 0 Tryz.underlying25]
theorem clone0_any {N:Nat} {u:Value} {w:World} (hu:OwnInts N w u []) :
  Calls Tryz.prog 61 #[u] w fun e w'=>∃v',e = .returned v'/\OwnInts w.heap.size w' v' []/\Ext w w':=by
 obtain ⟨a,cap,rfl,-⟩:=hu.form;have hh:=hu.1.2
 rcases hh with ⟨h1,-⟩|⟨g,cap',cur,h1,hb,hg,hc,hm,-,-⟩
 ·simp only [Value.slice.injEq] at h1
  obtain ⟨rfl,-,rfl⟩:=h1;have hnil:=sliceNilN;go_enter Tryz.func61,Tryz.ntmps61;go_wp2;go_ret;exact ⟨_,rfl,OwnInts.nil _ _,Ext.refl _⟩
 ·simp only [Value.slice.injEq] at h1
  obtain ⟨rfl,-,rfl⟩:=h1;have hnil:=fun w=>sliceNilB g 0 0 cap w;clear hu hg;go_enter Tryz.func61,Tryz.ntmps61;go_wp2_with (at_builtin;refine wpList_append_ints _ rfl _ _ rfl w.heap.size (.slice (some ⟨w.heap.size,0,none⟩) 0 0) [] [] rfl (OwnInts.fresh0 (Nat.le_refl _) (Blk.new w 3 [])) g 0 cap rfl (fun i y h=>by cases h) (by simp) (by simp) ?_;intro v' w1 hown hg;obtain ⟨a',c',rfl,_⟩:=hown.form);go_ret;exact ⟨_,rfl,by simpa using hown,((Ext.refl w).alloc _).grown hg (fun k e=>by simp [Value.ownBlock] at e;omega)⟩
theorem clone_any {N:Nat} {u:Value} {L:List Int} {w:World} (hu:OwnInts N w u L) (h2:L.length<=1000) :
  Calls Tryz.prog 61 #[u] w fun e w'=>∃v',e = .returned v'/\OwnInts w.heap.size w' v' L/\Ext w w':=by
 rcases L with _|⟨x,L⟩
 ·exact clone0_any hu
 ·exact cloneIntsB N w.heap.size u _ w hu.ints (Nat.le_refl _) (by simp) h2
theorem DepthOrder_any (s:Scn) (lo hi:Nat) (V:Value) {N:Nat} {u:Value} {L:List Int} (w:World) (hV:s.R lo hi w V) (hh:hi<=w.heap.size) (ho:s.Ok) (hu:OwnInts N w u L) (hr:∀x∈L,∃k:Nat,x=(k:Int)/\k<s.m) (hn:L.length<=19) :
  Calls Tryz.prog 24 #[V,u] w fun e w'=>∃a c,e = .returned (.slice a L.length c)/\Ext w w':=by
 have HV:=hid hV;have hm5:=ho.m;obtain ⟨a1,c1,a2,c2,a3,c3,rfl⟩:=hV.formV;have HO:=hid ho;have HU:=hid hu;have HR:=hid hr
 have HRB:=hid (show ∀x∈L,0<=x/\x<=(s.m:Int) - 1 from fun x hx=>by
  obtain ⟨k,rfl,hk⟩:=hr x hx
  omega)
 obtain ⟨ua,uc,rfl,-⟩:=hu.form;clear hV ho hu hr;obtain ⟨V1,hV0,q0,x0,n0⟩:=mk_ w [s.c.w,s.c.h,s.c.zoom,s.c.near,.bool s.c.deep,s.c.lens,s.c.focus,s.t.log,.slice a1 s.t.px.length c1,.slice a2 s.ps.length c2,.slice a3 s.m c3,s.side] 31 (show w.heap.size=w.heap.size+0 from rfl);rw [Nat.add_zero] at q0;have H1:=hid q0;have HX0:=hid x0;have HV0:=hid hV0;clear q0 x0 n0 hV0;go_enter Tryz.func24,Tryz.ntmps24;go_upto_region 1 with fail;rw [HV0.out]
 obtain ⟨W0,hW0⟩:∃W,V1=W:=⟨_,rfl⟩
 rw [hW0] at H1 HX0;rw [hW0];clear hW0 HV0;have c10:=H1.out.cell 10 rfl;have lc:=H1.out.lt;go_wp2_with fail;refine (allWithin_yes (HU.out.ext HX0.out) HRB.out).mono ?_;rintro e w1 ⟨rfl,x1⟩;have X1:=hid x1;clear x1 c10 lc;go_wp2_with fail;refine (clone_any (HU.out.ext (HX0.out.trans X1.out)) (by omega)).mono ?_;rintro e w2 ⟨v2,rfl,o2,x2⟩;obtain ⟨va,vc,rfl,-⟩:=o2.form;have hcap:=o2.ints;obtain ⟨a',c',he,hc1,hc2,-⟩:=hcap;simp only [Value.slice.injEq,true_and] at he;obtain ⟨rfl,rfl⟩:=he;unfold maxLen at hc2;have X2:=hid (X1.out.trans x2);have S2:=hid (show Srtd s W0.heap.size (.slice va L.length vc) L.length w2 from ⟨L,rfl,HR.out,o2.low X1.out.size⟩);clear o2 x2;go_wp2_with fail;refine (sortStable_any s lo hi w.heap.size W0 _ (HV.out.ext hh HX0.out) H1.out (Nat.le_trans hh HX0.out.size) X2.out HO.out S2.out hc1 (by omega) hn).mono ?_;rintro e w3 ⟨rfl,s3,x3⟩;have X3:=hid (HX0.out.trans x3);clear s3 x3;go_wp2;go_ret;exact ⟨_,_,rfl,X3.out⟩
theorem sApplyAll3 {f:Nat->Int} {n:Nat} {x y z q1 q2 q3:Int} (hq:appAll f n ⟨x,y,z⟩=⟨q1,q2,q3⟩) {lo hi:Nat} {u:Value} {w:World} (hu:Flats 12 lo hi w u n f) (hh:hi<=w.heap.size) :
  Calls Tryz.prog 204 #[u,.agg #[x,y,z]] w fun e w'=>e = .returned (.agg #[q1,q2,q3])/\Ext w w':=sApplyAll_val lo hi u n f ⟨x,y,z⟩ ⟨q1,q2,q3⟩ hq w hu hh
def TPatch (F:Nat->Int) (n:Nat) (f q:Nat->Int):Prop:=∀j,j<4->appAll F n ⟨f (j*3),f (j*3+1),f (j*3+2)⟩=⟨q (j*3),q (j*3+1),q (j*3+2)⟩
theorem sTransformPatch_val (lo hi:Nat) (u:Value) (n:Nat) (g f q:Nat->Int) (hq:TPatch g n f q) (w:World) (hu:Flats 12 lo hi w u n g) (hh:hi<=w.heap.size) :
  Calls Tryz.prog 143 #[u,.agg #[(f 0),(f 1),(f 2),(f 3),(f 4),(f 5),(f 6),(f 7),(f 8),(f 9),(f 10),(f 11)]] w fun e w'=>e = .returned (.agg #[(q 0),(q 1),(q 2),(q 3),(q 4),(q 5),(q 6),(q 7),(q 8),(q 9),(q 10),(q 11)])/\Ext w w':=by
 have i0:∀w:World,(Instr.index 38 (.agg #[(f 0),(f 1),(f 2),(f 3),(f 4),(f 5),(f 6),(f 7),(f 8),(f 9),(f 10),(f 11)]) (.int .i64 0)).run Tryz.prog w = .ok (.agg #[(f 0),(f 1),(f 2)]) w:=fun _=>by kernel_rfl
 have i1:∀w:World,(Instr.index 38 (.agg #[(f 0),(f 1),(f 2),(f 3),(f 4),(f 5),(f 6),(f 7),(f 8),(f 9),(f 10),(f 11)]) (.int .i64 1)).run Tryz.prog w = .ok (.agg #[(f 3),(f 4),(f 5)]) w:=fun _=>by kernel_rfl
 have i2:∀w:World,(Instr.index 38 (.agg #[(f 0),(f 1),(f 2),(f 3),(f 4),(f 5),(f 6),(f 7),(f 8),(f 9),(f 10),(f 11)]) (.int .i64 2)).run Tryz.prog w = .ok (.agg #[(f 6),(f 7),(f 8)]) w:=fun _=>by kernel_rfl
 have i3:∀w:World,(Instr.index 38 (.agg #[(f 0),(f 1),(f 2),(f 3),(f 4),(f 5),(f 6),(f 7),(f 8),(f 9),(f 10),(f 11)]) (.int .i64 3)).run Tryz.prog w = .ok (.agg #[(f 9),(f 10),(f 11)]) w:=fun _=>by kernel_rfl
 have A0:=hid (hq 0 (by decide));have A1:=hid (hq 1 (by decide));have A2:=hid (hq 2 (by decide));have A3:=hid (hq 3 (by decide));clear hq;obtain ⟨a,cap,rfl,HU⟩:=hu.open;have HV:=hid hu;clear hu HU;go_enter Tryz.func143,Tryz.ntmps143;go_wp2
 go_loopw [11] (fun i wr=>∃k c:Nat,c=k*3/\k<=4/\i = .int .i64 k/\Ext w wr/\RowI wr (w.heap.size+1) 40 12 (fun _=>0)/\RowI wr (w.heap.size+1+1) 40 12 (mixI f q c)) (fun i _=>4 - (intOf i).toNat)
 case atStart=>
  refine ⟨0,0,rfl,by omega,rfl,S_,?_,?_⟩
  ·refine RowI.ext (rowI12_new (w:=w.alloc (.cells #[(f 0),(f 1),(f 2),(f 3),(f 4),(f 5),(f 6),(f 7),(f 8),(f 9),(f 10),(f 11)] 40)) (f:=fun _=>0) (by simp)) ?_
   exact S_
  ·exact RowI.mix0 (rowI12_new (by simp))
 case round=>
  obtain ⟨k,c,hc,hk,rfl,hE,h1,h2⟩:=hrel
  by_cases hlt:k<4
  ·have s0:=h1.lt
   have s1:=h2.lt;have H1:=hid h1;have H2:=hid h2;have HE:=hid hE;clear h1 h2 hE
   have hk4:k=0\/k=1\/k=2\/k=3:=by omega
   rcases hk4 with h|h|h|h <;> subst h
   ·obtain rfl:c=0:=by omega
    clear hc;go_wp2_with fail;refine (sApplyAll3 A0.out (HV.out.ext hh (Ext.trans HE.out S_)) (by have:=HE.out.size;simp;omega)).mono ?_;rintro e w2 ⟨rfl,y2⟩;have x2:Ext wr w2:=Ext.trans S_ y2;have h2:=H2.out.ext x2;have d0:=h2.cell (i:=0) (by decide);have e0:=h2.frozen 0;have d1:=h2.cell (i:=1) (by decide);have e1:=h2.frozen 1;have d2:=h2.cell (i:=2) (by decide);have e2:=h2.frozen 2;have G1:=hid (H1.out.ext x2);have G2:=hid h2;have GE:=hid (HE.out.trans x2);clear h2 H1 H2 HE x2 y2;go_wp2;go_roundw
    case rel=>
     refine ⟨1,3,rfl,by omega,by go_num,?_,?_,?_⟩
     ·have hE:=GE.out
      exact S_
     ·exact ((G1.out.other (by simp) _).other (by simp) _).other (by simp) _
     ·exact RowI.mix (c:=2) (RowI.mix (c:=1) (RowI.mix (c:=0) G2.out rfl rfl) rfl rfl) rfl rfl
    case measure=>simp [intOf]
   ·obtain rfl:c=3:=by omega
    clear hc;go_wp2_with fail;refine (sApplyAll3 A1.out (HV.out.ext hh (Ext.trans HE.out S_)) (by have:=HE.out.size;simp;omega)).mono ?_;rintro e w2 ⟨rfl,y2⟩;have x2:Ext wr w2:=Ext.trans S_ y2;have h2:=H2.out.ext x2;have d0:=h2.cell (i:=3) (by decide);have e0:=h2.frozen 3;have d1:=h2.cell (i:=4) (by decide);have e1:=h2.frozen 4;have d2:=h2.cell (i:=5) (by decide);have e2:=h2.frozen 5;have G1:=hid (H1.out.ext x2);have G2:=hid h2;have GE:=hid (HE.out.trans x2);clear h2 H1 H2 HE x2 y2;go_wp2;go_roundw
    case rel=>
     refine ⟨2,6,rfl,by omega,by go_num,?_,?_,?_⟩
     ·have hE:=GE.out
      exact S_
     ·exact ((G1.out.other (by simp) _).other (by simp) _).other (by simp) _
     ·exact RowI.mix (c:=5) (RowI.mix (c:=4) (RowI.mix (c:=3) G2.out rfl rfl) rfl rfl) rfl rfl
    case measure=>simp [intOf]
   ·obtain rfl:c=6:=by omega
    clear hc;go_wp2_with fail;refine (sApplyAll3 A2.out (HV.out.ext hh (Ext.trans HE.out S_)) (by have:=HE.out.size;simp;omega)).mono ?_;rintro e w2 ⟨rfl,y2⟩;have x2:Ext wr w2:=Ext.trans S_ y2;have h2:=H2.out.ext x2;have d0:=h2.cell (i:=6) (by decide);have e0:=h2.frozen 6;have d1:=h2.cell (i:=7) (by decide);have e1:=h2.frozen 7;have d2:=h2.cell (i:=8) (by decide);have e2:=h2.frozen 8;have G1:=hid (H1.out.ext x2);have G2:=hid h2;have GE:=hid (HE.out.trans x2);clear h2 H1 H2 HE x2 y2;go_wp2;go_roundw
    case rel=>
     refine ⟨3,9,rfl,by omega,by go_num,?_,?_,?_⟩
     ·have hE:=GE.out
      exact S_
     ·exact ((G1.out.other (by simp) _).other (by simp) _).other (by simp) _
     ·exact RowI.mix (c:=8) (RowI.mix (c:=7) (RowI.mix (c:=6) G2.out rfl rfl) rfl rfl) rfl rfl
    case measure=>simp [intOf]
   ·obtain rfl:c=9:=by omega
    clear hc;go_wp2_with fail;refine (sApplyAll3 A3.out (HV.out.ext hh (Ext.trans HE.out S_)) (by have:=HE.out.size;simp;omega)).mono ?_;rintro e w2 ⟨rfl,y2⟩;have x2:Ext wr w2:=Ext.trans S_ y2;have h2:=H2.out.ext x2;have d0:=h2.cell (i:=9) (by decide);have e0:=h2.frozen 9;have d1:=h2.cell (i:=10) (by decide);have e1:=h2.frozen 10;have d2:=h2.cell (i:=11) (by decide);have e2:=h2.frozen 11;have G1:=hid (H1.out.ext x2);have G2:=hid h2;have GE:=hid (HE.out.trans x2);clear h2 H1 H2 HE x2 y2;go_wp2;go_roundw
    case rel=>
     refine ⟨4,12,rfl,by omega,by go_num,?_,?_,?_⟩
     ·have hE:=GE.out
      exact S_
     ·exact ((G1.out.other (by simp) _).other (by simp) _).other (by simp) _
     ·exact RowI.mix (c:=11) (RowI.mix (c:=10) (RowI.mix (c:=9) G2.out rfl rfl) rfl rfl) rfl rfl
    case measure=>simp [intOf]
  ·obtain rfl:k=4:=by omega
   obtain rfl:c=12:=by omega
   clear hc;have h2:=h2.mixAll;have c0:=h2.cell (i:=0) (by decide);have d0:=h1.cell (i:=0) (by decide);have e0:=h1.frozen 0;have c1:=h2.cell (i:=1) (by decide);have d1:=h1.cell (i:=1) (by decide);have e1:=h1.frozen 1;have c2:=h2.cell (i:=2) (by decide);have d2:=h1.cell (i:=2) (by decide);have e2:=h1.frozen 2;have c3:=h2.cell (i:=3) (by decide);have d3:=h1.cell (i:=3) (by decide);have e3:=h1.frozen 3;have c4:=h2.cell (i:=4) (by decide);have d4:=h1.cell (i:=4) (by decide);have e4:=h1.frozen 4;have c5:=h2.cell (i:=5) (by decide);have d5:=h1.cell (i:=5) (by decide);have e5:=h1.frozen 5;have c6:=h2.cell (i:=6) (by decide);have d6:=h1.cell (i:=6) (by decide);have e6:=h1.frozen 6;have c7:=h2.cell (i:=7) (by decide);have d7:=h1.cell (i:=7) (by decide);have e7:=h1.frozen 7;have c8:=h2.cell (i:=8) (by decide);have d8:=h1.cell (i:=8) (by decide);have e8:=h1.frozen 8;have c9:=h2.cell (i:=9) (by decide);have d9:=h1.cell (i:=9) (by decide);have e9:=h1.frozen 9;have c10:=h2.cell (i:=10) (by decide);have d10:=h1.cell (i:=10) (by decide);have e10:=h1.frozen 10;have c11:=h2.cell (i:=11) (by decide);have d11:=h1.cell (i:=11) (by decide);have e11:=h1.frozen 11;have HE:=hid hE;clear h1 h2 hE;go_wp2;exact bodyPost_ret (v:=.agg #[(q 0),(q 1),(q 2),(q 3),(q 4),(q 5),(q 6),(q 7),(q 8),(q 9),(q 10),(q 11)]) (by simp [results,Tryz.results143,go_sem, *]) rfl ⟨rfl,by have hE:=HE.out;exact S_⟩
def trX (dx dy dz:Int):Nat->Int:=fun j=>if j=0 then 16 else if j=4 then 16 else if j=8 then 16 else if j=9 then dx else if j=10 then dy else if j=11 then dz else 0
def movP (f:Nat->Int) (dx dy dz:Int):Nat->Int:=fun j=>f j+(if j % 3=0 then dx else if j % 3=1 then dy else dz)
theorem addC_in {x o:Int} (hx : -900000<=x/\x<=900000) (ho : -1000<=o/\o<=1000):addC x o=x+o:=by
 unfold addC;rw [cl_fixed (x:=x) (by omega),cl_fixed (x:=o) (by omega),cl_fixed (x:=x+o) (by omega)]
theorem fdiv_16 (x:Int):fdiv (16*x) 16=x:=by
 unfold fdiv;rw [if_neg (by decide)];omega
theorem trX_app {dx dy dz x y z:Int} (hd:(-1000<=dx/\dx<=1000)/\(-1000<=dy/\dy<=1000)/\(-1000<=dz/\dz<=1000)) (hx : -900000<=x/\x<=900000) (hy : -900000<=y/\y<=900000) (hz : -900000<=z/\z<=900000) :
  (xfAt (trX dx dy dz) 0).app ⟨x,y,z⟩=⟨x+dx,y+dy,z+dz⟩:=by
 have e:xfAt (trX dx dy dz) 0=⟨16,0,0,0,16,0,0,0,16,dx,dy,dz⟩:=rfl
 have ok:(⟨16,0,0,0,16,0,0,0,16,dx,dy,dz⟩:Xf).ok=true:=by
  unfold Xf.ok;rw [Bool.and_eq_true,okVec_iff];exact ⟨rfl,⟨by show -1000000<=dx;omega,by show dx<=1000000;omega⟩,⟨by show -1000000<=dy;omega,by show dy<=1000000;omega⟩,⟨by show -1000000<=dz;omega,by show dz<=1000000;omega⟩⟩
 rw [e];unfold Xf.app;rw [if_pos ok]
 have d1:dotC 16 0 0 x y z=16*x:=by unfold dotC;rw [cl_fixed (x:=16) (by decide),cl_fixed (x:=0) (by decide),cl_fixed (x:=x) (by omega)];omega
 have d2:dotC 0 16 0 x y z=16*y:=by unfold dotC;rw [cl_fixed (x:=16) (by decide),cl_fixed (x:=0) (by decide),cl_fixed (x:=y) (by omega)];omega
 have d3:dotC 0 0 16 x y z=16*z:=by unfold dotC;rw [cl_fixed (x:=16) (by decide),cl_fixed (x:=0) (by decide),cl_fixed (x:=z) (by omega)];omega
 simp only [appC,d1,d2,d3,fdiv_16];rw [addC_in hx hd.1,addC_in hy hd.2.1,addC_in hz hd.2.2]
theorem tPatch_mov {f:Nat->Int} {dx dy dz:Int} (hd:(-1000<=dx/\dx<=1000)/\(-1000<=dy/\dy<=1000)/\(-1000<=dz/\dz<=1000)) (hf:∀j,-1000<=f j/\f j<=1000):TPatch (trX dx dy dz) 1 f (movP f dx dy dz):=by
 intro j _;have h0:=hf (j*3);have h1:=hf (j*3+1);have h2:=hf (j*3+2)
 show (xfAt (trX dx dy dz) 0).app ⟨f (j*3),f (j*3+1),f (j*3+2)⟩=_
 rw [trX_app hd (by omega) (by omega) (by omega)]
 have e0:movP f dx dy dz (j*3)=f (j*3)+dx:=by unfold movP;rw [if_pos (by omega)]
 have e1:movP f dx dy dz (j*3+1)=f (j*3+1)+dy:=by unfold movP;rw [if_neg (by omega),if_pos (by omega)]
 have e2:movP f dx dy dz (j*3+2)=f (j*3+2)+dz:=by unfold movP;rw [if_neg (by omega),if_neg (by omega)]
 rw [e0,e1,e2]
theorem movP_bd {f:Nat->Int} {dx dy dz:Int} (hd:(-60<=dx/\dx<=60)/\(-60<=dy/\dy<=60)/\(-60<=dz/\dz<=60)) (hf:∀j,-1000<=f j/\f j<=1000) (j:Nat) : -1060<=movP f dx dy dz j/\movP f dx dy dz j<=1060:=by
 have h:=hf j;unfold movP
 split
 ·omega
 ·split <;> omega
theorem movP_z {f:Nat->Int} {dx dy dz:Int} (hz:0<=dz) {j:Nat} (hj:j % 3=2) {m:Int} (h:m<=f j):m<=movP f dx dy dz j:=by
 unfold movP;rw [if_neg (by omega),if_neg (by omega)];omega
theorem near_ge {f g:Nat->Int} {m:Int} (hm:m<=1000000) (hf:m<=f 2/\m<=f 5/\m<=f 8/\m<=f 11) (hg:m<=g 2/\m<=g 5/\m<=g 8/\m<=g 11):m<=nearS f g:=by
 have k:∀x,m<=x->m<=cl x:=fun x hx=>by
  unfold cl clampI
  split
  ·omega
  ·split <;> omega
 exact le_min3 (le_min3 (le_min3 (le_min3 (k _ hf.1) (k _ hf.2.1)) (k _ hf.2.2.1)) (k _ hf.2.2.2)) (le_min3 (le_min3 (le_min3 (k _ hg.1) (k _ hg.2.1)) (k _ hg.2.2.1)) (k _ hg.2.2.2))
theorem sIdentity_val (w:World):Calls Tryz.prog 205 #[] w fun e w'=>e = .returned (.agg #[.int .i64 16,(),(),(),.int .i64 16,(),(),(),.int .i64 16,(),(),()])/\Ext w w':=by
 go_enter Tryz.func205,Tryz.ntmps205;go_wp2;refine bodyPost_ret (v:=.agg #[.int .i64 16,(),(),(),.int .i64 16,(),(),(),.int .i64 16,(),(),()]) (by simp [results,Tryz.results205,go_sem]) rfl ⟨rfl,?_⟩;exact S_
theorem sTranslation_val (x y z:Int) (h:okVec x y z=true) (w:World):Calls Tryz.prog 144 #[.agg #[x,y,z]] w fun e w'=>e = .returned (.agg #[.int .i64 16,(),(),(),.int .i64 16,(),(),(),.int .i64 16,x,y,z])/\Ext w w':=by
 have HOK:=hid h;clear h;go_enter Tryz.func144,Tryz.ntmps144;go_wp2_with fail;refine (sIdentity_val _).mono ?_;rintro e w2 ⟨rfl,x2⟩
 have R2:Blk w2 (w.heap.size+1) 226 [(),(),(),(),(),(),(),(),(),(),(),()]:=by
  have h:=(Blk.new (w.alloc (.cells #[x,y,z] 37)) 226 [(),(),(),(),(),(),(),(),(),(),(),()]).ext x2;rw [World.size_alloc] at h;exact h
 have V2:=(Blk.new w 37 [x,y,z]).ext (((Ext.refl _).alloc _).trans x2);have E2:Ext w w2:=Ext.trans X_ x2;have HR2:=hid R2;have HV2:=hid V2;obtain ⟨v0,v1,v2⟩:=V2.q3;have vl:=V2.lt;have rl:=R2.lt;clear x2 R2 V2;go_wp2_with fail;refine (sIsValidVec_val _).mono ?_;rw [HOK.out];rintro e w3 ⟨rfl,x3⟩;have y3:Ext w2 w3:=Ext.trans X_ x3;have M3:=(Blk.new w2 226 [.int .i64 16,(),(),(),.int .i64 16,(),(),(),.int .i64 16,(),(),()]).ext x3;have R3:=HR2.out.ext y3;have V3':=HV2.out.ext y3;have E3:=E2.trans y3;clear v0 v1 v2 x3;have v0:=V3'.cell 0 rfl;have v1:=V3'.cell 1 rfl;have v2:=V3'.cell 2 rfl;have vl':=V3'.lt;obtain ⟨m0,m1,m2,m3,m4,m5,m6,m7,m8,m9,m10,m11⟩:=M3.q12;have f0:=M3.free 0;have f1:=M3.free 1;have f2:=M3.free 2;have f3:=M3.free 3;have f4:=M3.free 4;have f5:=M3.free 5;have f6:=M3.free 6;have f7:=M3.free 7;have f8:=M3.free 8;have f9:=M3.free 9;have f10:=M3.free 10;have f11:=M3.free 11;obtain ⟨r0,r1,r2,r3,r4,r5,r6,r7,r8,r9,r10,r11⟩:=R3.q12;have g0:=R3.free 0;have g1:=R3.free 1;have g2:=R3.free 2;have g3:=R3.free 3;have g4:=R3.free 4;have g5:=R3.free 5;have g6:=R3.free 6;have g7:=R3.free 7;have g8:=R3.free 8;have g9:=R3.free 9;have g10:=R3.free 10;have g11:=R3.free 11;have ml:=M3.lt;have rl':=R3.lt;clear M3 R3 V3' y3;go_wp2;refine bodyPost_ret (v:=.agg #[.int .i64 16,(),(),(),.int .i64 16,(),(),(),.int .i64 16,x,y,z]) (by simp [results,Tryz.results144,go_sem, *]) rfl ⟨rfl,?_⟩;have z2:=E2.size;exact S_
theorem l01Once_any (hi B:Nat) (n:Int) (w:World) (hc:Cur hi w B) (h0:0<n) (hn:I64 n) :
  Calls Tryz.prog 142 #[.pointer (some ⟨B,0,none⟩),n] w fun e w'=>∃b:Bool,e = .returned (.bool b)/\Cur hi w' B/\Gr B w w':=by
 have HC:=hid hc;clear hc;go_enter Tryz.func142,Tryz.ntmps142;go_wp2_with fail;refine (l01Below_any hi B n _ HC.out h0 hn).mono ?_;rintro e w1 ⟨x,rfl,⟨x0,x1⟩,C1,G1⟩;go_wp2;go_ret;exact ⟨_,rfl,C1,G1⟩
theorem l01Str_any (hi B g n m:Nat) (xs:List ByteArray) (w:World) (hc:Cur hi w B) (hg:Blk w g 9 (xs.map Value.string)) (hne:g≠B) (hn:xs.length=n) (h1:1<=n) (h2:n<=1000) (hm:∀x∈xs,x.size<=m) :
  Calls Tryz.prog 292 #[.pointer (some ⟨B,0,none⟩),.slice (some ⟨g,0,none⟩) n n] w fun e w'=>∃x:ByteArray,e = .returned (.string x)/\x.size<=m/\Cur hi w' B/\Gr B w w':=by
 have HC:=hid hc;have HG:=hid hg;have HN:=hid hn;have HM:=hid hm;clear hc hg hn hm;go_enter Tryz.func292,Tryz.ntmps292;go_wp2_with fail;refine (l01Below_any hi B n _ HC.out (by omega) ⟨by omega,by omega⟩).mono ?_;rintro e w1 ⟨x,rfl,⟨x0,x1⟩,C1,G1⟩
 obtain ⟨k,rfl⟩:∃k:Nat,x=k:=⟨x.toNat,by omega⟩
 have B1:=G1.blk HG.out hne
 have hk:k<xs.length:=by rw [HN.out];omega
 have c0:=B1.cell k (v:=.string xs[k]) (by simp [hk]);have hm:=HM.out _ (List.getElem_mem hk)
 obtain ⟨y,hy⟩:∃y,xs[k]=y:=⟨_,rfl⟩
 rw [hy] at c0 hm;have z1:=B1.lt
 have hkn:k<n:=by omega
 clear hy hk;go_wp2;go_ret;exact ⟨y,rfl,hm,C1,G1⟩
def eb:Nat->Nat
 | 0=>4
 | d+1=>2*eb d+20
theorem eb_le {d:Nat} (h:d<=2):eb d<=76:=by
 rcases (show d=0\/d=1\/d=2 by omega) with rfl|rfl|rfl <;> decide
def leaves:List ByteArray:=[⟨#[117]⟩,⟨#[118]⟩,⟨#[120]⟩,⟨#[121]⟩,⟨#[122]⟩,⟨#[116]⟩,⟨#[49]⟩,⟨#[48,46,53]⟩,⟨#[50]⟩,⟨#[48,46,50,53]⟩]
theorem leaves_le:∀x∈leaves,x.size<=4:=by
 intro x hx;simp only [leaves,List.mem_cons,List.not_mem_nil,or_false] at hx
 rcases hx with rfl|rfl|rfl|rfl|rfl|rfl|rfl|rfl|rfl|rfl <;> decide
theorem sExpr_any (hi B:Nat):∀(d:Nat) (w:World),d<=3->Cur hi w B->Calls Tryz.prog 260 #[.pointer (some ⟨B,0,none⟩),(d:Nat)] w fun e w'=>∃s:ByteArray,e = .returned (.string s)/\s.size<=eb d/\Cur hi w' B/\Gr B w w':=by
 intro d
 induction d with
 | zero=>
  intro w hd hc;have HC:=hid hc;have hB:=hc.lt;clear hc;go_enter Tryz.func260,Tryz.ntmps260;go_wp2_with fail;have x1:Ext w (w.alloc (.cells (leaves.map Value.string).toArray 9)):=X_;refine (l01Str_any hi B w.heap.size 10 4 leaves _ (HC.out.ext x1) (Blk.new w 9 (leaves.map Value.string)) (by omega) rfl (by decide) (by decide) leaves_le).mono ?_;rintro e w1 ⟨s,rfl,hs,C1,G1⟩;go_wp2;go_ret;exact ⟨s,rfl,hs,C1,((Gr.refl B w).ext x1).trans G1⟩
 | succ d ih=>
  intro w hd hc;have HC:=hid hc;have hB:=hc.lt
  have hdn : ¬((d:Int)+1<=0):=by omega
  have he:=eb_le (show d<=2 by omega);have IH:=hid ih;clear hc ih;go_enter Tryz.func260,Tryz.ntmps260;go_wp2_with fail;refine (l01Once_any hi B 4 _ HC.out (by decide) ⟨by decide,by decide⟩).mono ?_;rintro e w1 ⟨b,rfl,C1,G1⟩;have z1:=G1.size
  cases b
  ·go_wp2_with fail
   refine (IH.out _ (by omega) C1).mono ?_;rintro e w2 ⟨s2,rfl,h2,C2,G2⟩;go_wp2_with fail;refine (IH.out _ (by omega) C2).mono ?_;rintro e w3 ⟨s3,rfl,h3,C3,G3⟩;go_wp2_with fail;refine (l01Below_any hi B 14 _ C3 (by decide) ⟨by decide,by decide⟩).mono ?_;rintro e w4 ⟨x,rfl,⟨x0,x1⟩,C4,G4⟩;have G5:=hid (((G1.trans G2).trans G3).trans G4);have HC4:=hid C4;have he2:eb (d+1)=2*eb d+20:=rfl;have HE:=hid he2
   have h2':s2.size<=76:=by omega
   have h3':s3.size<=76:=by omega
   have HS2:=hid h2;have HS3:=hid h3;clear C1 G1 C2 G2 C3 G3 C4 G4 he2 h2 h3 he;go_wp2
   all_goals go_ret
   all_goals refine ⟨_,rfl,?_,HC4.out,G5.out⟩
   all_goals
    have h2:s2.data.size<=eb d:=HS2.out;have h3:s3.data.size<=eb d:=HS3.out;rw [HE.out];clear HS2 HS3 HE h2' h3';simp only [ByteArray.size_append];simp only [ByteArray.size,List.size_toArray,List.length_cons,List.length_nil];omega
  ·go_wp2_with fail
   have x1:Ext w1 (w1.alloc (.cells (leaves.map Value.string).toArray 9)):=X_;refine (l01Str_any hi B w1.heap.size 10 4 leaves _ (C1.ext x1) (Blk.new w1 9 (leaves.map Value.string)) (by omega) rfl (by decide) (by decide) leaves_le).mono ?_;rintro e w2 ⟨s,rfl,hs,C2,G2⟩;go_wp2;go_ret;exact ⟨s,rfl,by show s.size<=2*eb d+20;omega,C2,(G1.ext x1).trans G2⟩
theorem sSource_any (hi B:Nat) (w:World) (hc:Cur hi w B):Calls Tryz.prog 203 #[.pointer (some ⟨B,0,none⟩)] w fun e w'=>∃s:ByteArray,e = .returned (.string s)/\s.size<=2000/\Cur hi w' B/\Gr B w w':=by
 have HC:=hid hc;clear hc;have e1:eb 1=28:=rfl;have e2:eb 2=76:=rfl;have e3:eb 3=172:=rfl;go_enter Tryz.func203,Tryz.ntmps203;go_wp2_with fail;refine (l01Once_any hi B 2 _ HC.out (by decide) ⟨by decide,by decide⟩).mono ?_;rintro e w1 ⟨b,rfl,C1,G1⟩
 cases b
 ·go_wp2_with fail
  refine (sExpr_any hi B 3 _ (by decide) C1).mono ?_;rintro e w2 ⟨s2,rfl,h2,C2,G2⟩
  have g2:s2.data.size<=172:=by rw [e3] at h2;exact h2
  replace G2:=G1.trans G2;clear C1 G1;go_wp2_with fail;refine (l01Once_any hi B 3 _ C2 (by decide) ⟨by decide,by decide⟩).mono ?_;rintro e w4 ⟨b,rfl,C4,G4⟩;replace G4:=G2.trans G4;clear C2 G2
  cases b
  ·go_wp2
   go_ret;refine ⟨_,rfl,?_,C4,G4⟩;simp only [ByteArray.size_append];simp only [ByteArray.size,List.size_toArray,List.length_cons,List.length_nil];omega
  ·go_wp2_with fail
   refine (sExpr_any hi B 1 _ (by decide) C4).mono ?_;rintro e w5 ⟨s5,rfl,h5,C5,G5⟩
   have g5:s5.data.size<=28:=by rw [e1] at h5;exact h5
   replace G5:=G4.trans G5;clear C4 G4;go_wp2;go_ret;refine ⟨_,rfl,?_,C5,G5⟩;simp only [ByteArray.size_append];simp only [ByteArray.size,List.size_toArray,List.length_cons,List.length_nil];omega
 ·go_wp2_with fail
  refine (sExpr_any hi B 2 _ (by decide) C1).mono ?_;rintro e w2 ⟨s2,rfl,h2,C2,G2⟩
  have g2:s2.data.size<=76:=by rw [e2] at h2;exact h2
  replace G2:=G1.trans G2;clear C1 G1;go_wp2_with fail;refine (sExpr_any hi B 3 _ (by decide) C2).mono ?_;rintro e w3 ⟨s3,rfl,h3,C3,G3⟩
  have g3:s3.data.size<=172:=by rw [e3] at h3;exact h3
  replace G3:=G2.trans G3;clear C2 G2;go_wp2_with fail;refine (l01Once_any hi B 3 _ C3 (by decide) ⟨by decide,by decide⟩).mono ?_;rintro e w4 ⟨b,rfl,C4,G4⟩;replace G4:=G3.trans G4;clear C3 G3
  cases b
  ·go_wp2
   go_ret;refine ⟨_,rfl,?_,C4,G4⟩;simp only [ByteArray.size_append];simp only [ByteArray.size,List.size_toArray,List.length_cons,List.length_nil];omega
  ·go_wp2_with fail
   refine (sExpr_any hi B 1 _ (by decide) C4).mono ?_;rintro e w5 ⟨s5,rfl,h5,C5,G5⟩
   have g5:s5.data.size<=28:=by rw [e1] at h5;exact h5
   replace G5:=G4.trans G5;clear C4 G4;go_wp2;go_ret;refine ⟨_,rfl,?_,C5,G5⟩;simp only [ByteArray.size_append];simp only [ByteArray.size,List.size_toArray,List.length_cons,List.length_nil];omega
def Cam.ls (c:Cam):List Value:=[c.w,c.h,c.zoom,c.near,.bool c.deep,c.lens,c.focus]
structure Cam.Sm (c:Cam):Prop where
 w:2<=c.w/\c.w<=5
 h:2<=c.h/\c.h<=5
 zoom:1<=c.zoom/\c.zoom<=65536
 near:20<=c.near/\c.near<=80
 lens:0<=c.lens/\c.lens<=64
 focus:0<=c.focus/\c.focus<=1000000
theorem Cam.Sm.okB {c:Cam} (h:c.Sm):c.okB=true:=Cam.okB_iff.2 ⟨by have:=h.w;omega,by have:=h.h;omega,h.zoom,by have:=h.near;omega,h.lens,h.focus⟩
theorem Gr.keep {B:Nat} {w w1:World} (h:Gr B w w1) {g:Nat} (hg:g<w.heap.size) (ne:g≠B):w1.heap[g]?=w.heap[g]?:=h.block g hg (fun e=>ne (by simpa using e))
theorem l08Draw_any (hi B:Nat) (w:World) (hc:Cur hi w B):Calls Tryz.prog 137 #[.pointer (some ⟨B,0,none⟩)] w fun e w'=>∃c:Cam,e = .returned (.agg #[c.w,c.h,c.zoom,c.near,.bool c.deep,c.lens,c.focus])/\c.Sm/\Cur hi w' B/\Gr B w w':=by
 have zB:=hc.lt;have q0:=Blk.new w 24 [(),(),(),(),.bool false,(),()];have x0:Ext w (w.alloc (.cells #[(),(),(),(),.bool false,(),()] 24)):=X_;have HQ:=hid q0;have HC0:=hid (hc.ext x0);have HX0:=hid x0;have z1:(w.alloc (.cells #[(),(),(),(),.bool false,(),()] 24)).heap.size=w.heap.size+1:=World.size_alloc _ _;clear hc q0 x0;go_enter Tryz.func137,Tryz.ntmps137;go_wp2_with fail;refine (l01Below_any hi B 4 _ HC0.out (by decide) ⟨by decide,by decide⟩).mono ?_;rintro e w1 ⟨a,rfl,ha,C1,G1⟩;go_wp2_with fail;refine (l01Below_any hi B 4 _ C1 (by decide) ⟨by decide,by decide⟩).mono ?_;rintro e w2 ⟨b,rfl,hb,C2,G2⟩;go_wp2_with fail;refine (l01Below_any hi B 200 _ C2 (by decide) ⟨by decide,by decide⟩).mono ?_;rintro e w3 ⟨c,rfl,hcz,C3,G3⟩;go_wp2_with fail;refine (l01Below_any hi B 60 _ C3 (by decide) ⟨by decide,by decide⟩).mono ?_;rintro e w4 ⟨d,rfl,hd,C4,G4⟩;have G5:=((Gr.refl B w).ext HX0.out).trans (((G1.trans G2).trans G3).trans G4);have R4:=(((G1.trans G2).trans G3).trans G4).blk HQ.out (by omega);have HG:=hid G5;have HR:=hid R4;have HC4:=hid C4;clear C1 G1 C2 G2 C3 G3 C4 G4 G5 R4 HC0 HQ HX0;go_wp2_with fail;have b5:=Blk.new w4 24 [.int .i64 (2+a),.int .i64 (2+b),.int .i64 (60+c),.int .i64 (20+d),.bool false,(),()];have x5:Ext w4 (w4.alloc (.cells #[.int .i64 (2+a),.int .i64 (2+b),.int .i64 (60+c),.int .i64 (20+d),.bool false,(),()] 24)):=X_;have HB5:=hid b5;have HC5:=hid (HC4.out.ext x5);have HG5:=hid (HG.out.ext x5);have HR5:=hid (HR.out.ext x5);have z5:=HG.out.size
 have hA:w.heap.size<w4.heap.size:=by have:=HR.out.lt;omega
 clear b5 x5 HC4 HG HR;refine (l01Once_any hi B 2 _ HC5.out (by decide) ⟨by decide,by decide⟩).mono ?_;rintro e w6 ⟨o1,rfl,C6,G6⟩;have B6:=G6.blk HB5.out (by omega);have R6:=G6.blk HR5.out (by omega);have HB6:=hid B6;have HR6:=hid R6;have HC6:=hid C6;have HG6:=hid (HG5.out.trans G6);clear B6 R6 C6 G6 HB5 HC5 HG5 HR5
 cases o1
 case' true=>
  have f4:=HB6.out.free 4;have c4:=HB6.out.cell 4 rfl;have l6:=HB6.out.lt;go_wp2_with fail;have B7:=HB6.out.set 4 (.bool true);have C7:=HC6.out.setNew (b:=w4.heap.size) (by omega) 4 (.bool true);have G7:=HG6.out.setNew (b:=w4.heap.size) (by omega) 4 (.bool true);have R7:=HR6.out.other (a:=⟨w4.heap.size,4,none⟩) (by simp only;omega) (.bool true);refine (l01Below_any hi B 120 _ C7 (by decide) ⟨by decide,by decide⟩).mono ?_;rintro e w8 ⟨p,rfl,hp,C8,G8⟩;have B8:=G8.blk B7 (by omega);have R8:=G8.blk R7 (by omega);have HB8:=hid B8;have HR8:=hid R8;have HC8:=hid C8;have HG8:=hid (G7.trans G8);clear B7 C7 G7 R7 B8 R8 C8 G8 HB6 HC6 HG6 HR6 f4 c4 l6;have f2:=HB8.out.free 2;have c2:=HB8.out.cell 2 rfl;have l8:=HB8.out.lt;go_wp2_with fail
  obtain ⟨cm,hcm,bX⟩:∃c:Cam,c.Sm/\Blk (w8.setCell ⟨w4.heap.size,2,none⟩ (.int .i64 (60+p))) w4.heap.size 24 c.ls:=⟨⟨2+a,2+b,60+p,20+d,true,0,0⟩,⟨by simp only;omega,by simp only;omega,by simp only;omega,by simp only;omega,by simp only;omega,by simp only;omega⟩,HB8.out.set 2 _⟩
  have HBX:=hid bX;have HCX:=hid (HC8.out.setNew (b:=w4.heap.size) (by omega) 2 (.int .i64 (60+p)));have HGX:=hid (HG8.out.setNew (b:=w4.heap.size) (by omega) 2 (.int .i64 (60+p)));have HRX:=hid (HR8.out.other (a:=⟨w4.heap.size,2,none⟩) (by simp only;omega) (.int .i64 (60+p)));clear bX HB8 HR8 HC8 HG8 f2 c2 l8
 case' false=>
  obtain ⟨cm,hcm,bX⟩:∃c:Cam,c.Sm/\Blk w6 w4.heap.size 24 c.ls:=⟨⟨2+a,2+b,60+c,20+d,false,0,0⟩,⟨by simp only;omega,by simp only;omega,by simp only;omega,by simp only;omega,by simp only;omega,by simp only;omega⟩,HB6.out⟩
  have HBX:=hid bX;have HCX:=HC6;have HGX:=HG6;have HRX:=HR6;clear bX HB6 HC6 HG6 HR6;go_wp2_with fail
 all_goals
  refine (l01Once_any hi B 3 _ HCX.out (by decide) ⟨by decide,by decide⟩).mono ?_;rintro e w9 ⟨o2,rfl,C9,G9⟩;have B9:=G9.blk HBX.out (by omega);have R9:=G9.blk HRX.out (by omega);have HB9:=hid B9;have HR9:=hid R9;have HC9:=hid C9;have HG9:=hid (HGX.out.trans G9);clear B9 R9 C9 G9 HBX HRX HCX HGX
  cases o2
  case' true=>
   go_wp2_with fail;refine (l01Below_any hi B 40 _ HC9.out (by decide) ⟨by decide,by decide⟩).mono ?_;rintro e v1 ⟨p1,rfl,hp1,C1,G1⟩;have B1:=G1.blk HB9.out (by omega);have R1:=G1.blk HR9.out (by omega);have HB1:=hid B1;have HR1:=hid R1;have HC1:=hid C1;have HG1:=hid (HG9.out.trans G1);clear B1 R1 C1 G1 HB9 HR9 HC9 HG9;have f5:=HB1.out.free 5;have c5:=HB1.out.cell 5 rfl;have l1:=HB1.out.lt;go_wp2_with fail;have B7:=HB1.out.set 5 (.int .i64 (8+p1));have C7:=HC1.out.setNew (b:=w4.heap.size) (by omega) 5 (.int .i64 (8+p1));have G7:=HG1.out.setNew (b:=w4.heap.size) (by omega) 5 (.int .i64 (8+p1));have R7:=HR1.out.other (a:=⟨w4.heap.size,5,none⟩) (by simp only;omega) (.int .i64 (8+p1));refine (l01Below_any hi B 200 _ C7 (by decide) ⟨by decide,by decide⟩).mono ?_;rintro e v2 ⟨p2,rfl,hp2,C2,G2⟩;have B2:=G2.blk B7 (by omega);have R2:=G2.blk R7 (by omega);have HB2:=hid B2;have HR2:=hid R2;have HC2:=hid C2;have HG2:=hid (G7.trans G2);clear B7 C7 G7 R7 B2 R2 C2 G2 HB1 HR1 HC1 HG1 f5 c5 l1
   obtain ⟨cn,hcn,bX⟩:∃c:Cam,c.Sm/\Blk (v2.setCell ⟨w4.heap.size,6,none⟩ (.int .i64 (60+p2))) w4.heap.size 24 c.ls:=⟨⟨cm.w,cm.h,cm.zoom,cm.near,cm.deep,8+p1,60+p2⟩,⟨hcm.w,hcm.h,hcm.zoom,hcm.near,by simp only;omega,by simp only;omega⟩,HB2.out.set 6 _⟩
   have f6:=HB2.out.free 6;have c6:=HB2.out.cell 6 rfl;have l2:=HB2.out.lt;have zv:=HG2.out.size;have HBY:=hid bX;have HCY:=hid (HC2.out.setNew (b:=w4.heap.size) (by omega) 6 (.int .i64 (60+p2)));have HGY:=hid (HG2.out.setNew (b:=w4.heap.size) (by omega) 6 (.int .i64 (60+p2)));have HRY:=hid (HR2.out.other (a:=⟨w4.heap.size,6,none⟩) (by simp only;omega) (.int .i64 (60+p2)));clear bX HB2 HR2 HC2 HG2;go_upto_region 8 with fail;clear f6 c6 l2
  case' false=>
   obtain ⟨cn,hcn,bX⟩:∃c:Cam,c.Sm/\Blk w9 w4.heap.size 24 c.ls:=⟨cm,hcm,HB9.out⟩
   have HBY:=hid bX;have HCY:=HC9;have HGY:=HG9;have HRY:=HR9;clear bX HB9 HC9 HG9 HR9;go_upto_region 8 with fail
  all_goals
   obtain ⟨d0,d1,d2,d3,d4,d5,d6⟩:=HBY.out.q7;obtain ⟨e0,e1,e2,e3,e4,e5,e6⟩:=HRY.out.q7;have g0:=HRY.out.free 0;have g1:=HRY.out.free 1;have g2:=HRY.out.free 2;have g3:=HRY.out.free 3;have g4:=HRY.out.free 4;have g5:=HRY.out.free 5;have g6:=HRY.out.free 6;have lY:=HBY.out.lt;have lZ:=HRY.out.lt;clear hcm;go_wp2;refine bodyPost_ret (v:=.agg #[cn.w,cn.h,cn.zoom,cn.near,.bool cn.deep,cn.lens,cn.focus]) (by simp [results,Tryz.results137,go_sem, *]) rfl ?_;exact ⟨cn,rfl,hcn,((((((HCY.out.setNew (by omega) _ _).setNew (by omega) _ _).setNew (by omega) _ _).setNew (by omega) _ _).setNew (by omega) _ _).setNew (by omega) _ _).setNew (by omega) _ _,((((((HGY.out.setNew (Nat.le_refl _) _ _).setNew (Nat.le_refl _) _ _).setNew (Nat.le_refl _) _ _).setNew (Nat.le_refl _) _ _).setNew (Nat.le_refl _) _ _).setNew (Nat.le_refl _) _ _).setNew (Nat.le_refl _) _ _⟩
end Go.Proofs.YtfjbiifebcfjfaaGreat
