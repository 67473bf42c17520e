/- Texts of this claim, one behind another; what its theorem does not use is left out: Ge17, Ge12, Ge13, Cp3, Cp4, Cp5, Cp6, Cp7, Ge18, Ge19, In2, Sc5, Sc7, In3, Fr2, In4, In5, Rs1, Rs2, Gd5, Rs3, Sc6, Dw8, Rs4, Cat. -/
import Derived.Test.YtfjbiifebcfjfaaGreatP29W3
import Derived.Test.YtfjbiifebcfjfaaGreatP29W5
import Derived.Test.YtfjbiifebcfjfaaGreatP29W4
import Derived.Test.YtfjbiifebcfjfaaGreatP29W1
import Derived.Test.YtfjbiifebcfjfaaGreatP29W2
set_option linter.unusedSimpArgs false
set_option linter.unusedVariables false
set_option maxRecDepth 100000
set_option maxHeartbeats 12800000
namespace Go.Proofs.YtfjbiifebcfjfaaGreat
open Go.RowKit
section
open Go.RowKit Go.Shelf
attribute [local go_sem] Oper.semAt_some
def ptG (f:Nat→Int) (n i j:Nat):Pt:=⟨(i:Int)*256 / (n:Int),(j:Int)*256 / (n:Int),(evP f i j n).x,(evP f i j n).y,(evP f i j n).z⟩
def ptsG (f:Nat→Int) (n:Nat) (pre:List (Fin n×Fin n)):List Pt:=pre.map fun p=>ptG f n p.1 p.2
theorem ptsG_snoc (f:Nat→Int) (n:Nat) (pre:List (Fin n×Fin n)) (x:Fin n×Fin n):ptsG f n (pre++[x])=ptsG f n pre++[ptG f n x.1 x.2]:=by
 unfold ptsG;rw [List.map_append,List.map_singleton]
theorem ptsG_all (f:Nat→Int) (n:Nat) (hn:0<n) {i:Nat} {x:Pt} (h:(ptsG f n (cellsTo n hn (n*n)))[i]?=some x):x=ptG f n (i % n) (i / n):=by
 unfold ptsG cellsTo at h;rw [List.map_map,List.getElem?_map] at h;obtain ⟨q,hq,rfl⟩:=Option.map_eq_some_iff.1 h;obtain ⟨hl,rfl⟩:=List.getElem?_eq_some_iff.1 hq;rw [List.length_range] at hl;rw [List.getElem_range];have hd:i / n<n:=Nat.div_lt_of_lt_mul hl
 show ptG f n (i % n) (i / n % n)=_
 rw [Nat.mod_eq_of_lt hd]
theorem gridF_at (f:Nat→Int) (n q k:Nat) (hk:k<5):gridF f n (q*5+k)=(ptG f n (q % n) (q / n)).ls.getD k 0:=by
 have e1:(q*5+k) / 5=q:=by omega
 have e2:(q*5+k) % 5=k:=by omega
 unfold gridF;rw [e1,e2]
 rcases (show k=0∨k=1∨k=2∨k=3∨k=4 by omega) with rfl|rfl|rfl|rfl|rfl <;> rfl
theorem evC_bd {a b c d i j n:Int} (hn:1≤n) (hi:0≤i∧i≤n) (hj:0≤j∧j≤n) : -1000000≤evC a b c d i j n∧evC a b c d i j n≤1000000:=
 ⟨evC_lo hn hi hj (cl_bd _).1 (cl_bd _).1 (cl_bd _).1 (cl_bd _).1,evC_hi hn hi hj (cl_bd _).2 (cl_bd _).2 (cl_bd _).2 (cl_bd _).2⟩
theorem uv_bd {i n:Nat} (h1:1≤n) (h:i<n):0≤((i:Int)*256 / (n:Int))∧((i:Int)*256 / (n:Int))≤256:=
 ⟨Int.ediv_nonneg (by omega) (by omega),Int.ediv_le_of_le_mul (by omega) (by omega)⟩
theorem ptG_bd (f:Nat→Int) {n i j:Nat} (h1:1≤n) (hi:i<n) (hj:j<n):∀x∈(ptG f n i j).ls,-1000000≤x∧x≤1000000:=by
 intro x hx;have u:=uv_bd h1 hi;have v:=uv_bd h1 hj;simp only [ptG,Pt.ls,evP,List.mem_cons,List.not_mem_nil,or_false] at hx
 rcases hx with rfl|rfl|rfl|rfl|rfl
 ·omega
 ·omega
 ·exact evC_bd (by omega) (by omega) (by omega)
 ·exact evC_bd (by omega) (by omega) (by omega)
 ·exact evC_bd (by omega) (by omega) (by omega)
theorem gridP_ok {f:Nat→Int} {n:Nat} {t:Tex} (hn:1≤n∧n≤8) (ht:t.okB=true):(gridP f n t).okB=true:=by
 unfold Grd.okB gridP;simp only [Bool.and_eq_true,inB_iff,decide_eq_true_eq,List.all_eq_true,List.mem_range];refine ⟨⟨⟨⟨⟨by omega,by omega⟩,by rw [Int.natCast_mul]⟩,by decide,by decide⟩,ht⟩,fun q hq=>?_⟩;unfold ptB;rw [List.all_eq_true];intro x hx;have hu:q % n<n:=Nat.mod_lt _ (by omega);have hv:q / n<n:=Nat.div_lt_of_lt_mul hq;refine inB_iff.2 (ptG_bd f hn.1 hu hv x ?_);have e0:=gridF_at f n q 0 (by decide);have e1:=gridF_at f n q 1 (by decide);have e2:=gridF_at f n q 2 (by decide);have e3:=gridF_at f n q 3 (by decide);have e4:=gridF_at f n q 4 (by decide);simp only [ptL,List.mem_cons,List.not_mem_nil,or_false] at hx;simp only [Pt.ls,List.getD_cons_zero,List.getD_cons_succ,Nat.add_zero] at e0 e1 e2 e3 e4;simp only [Pt.ls,List.mem_cons,List.not_mem_nil,or_false]
 rcases hx with rfl|rfl|rfl|rfl|rfl
 ·exact .inl e0
 ·exact .inr (.inl e1)
 ·exact .inr (.inr (.inl e2))
 ·exact .inr (.inr (.inr (.inl e3)))
 ·exact .inr (.inr (.inr (.inr e4)))
theorem tex_len {t:Tex} (h:t.okB=true):1≤t.px.length∧t.px.length≤1000:=by
 have h:=Tex.okB_iff.1 h;obtain ⟨h0,h4,hl,-⟩:=h;have h1:=h0;rw [hl];unfold Tex.n
 have:t.log=0∨t.log=1∨t.log=2∨t.log=3∨t.log=4:=by omega
 rcases this with e|e|e|e|e <;> rw [e] <;> decide
theorem cloneIntsL (l1 lo hi:Nat) (u:Value) (xs:List Int) (w:World) (hu:Ints lo hi w u xs) (hh:hi≤w.heap.size) (h1:1≤xs.length) (h2:xs.length≤1000) (hl:l1≤w.heap.size) :
  Calls Tryz.prog 61 #[u] w fun e w'=>∃v',e = .returned v'∧OwnInts l1 w' v' xs∧Ext w w':=(cloneIntsB lo hi u xs w hu hh h1 h2).mono (by rintro e w' ⟨v',h1,h2,h3⟩;exact ⟨v',h1,h2.low hl,h3⟩)
theorem info_GridB:(Tryz.prog.info? 135).map (fun i=>i.size)=some 5:=by kernel_rfl
theorem TuR.open {lo:Nat} {w:World} {v:Value} {xs:List Int} (h:TuR lo w v xs):∃g cs,Blk w g 3 cs∧∀w',Blk w' g 3 cs→OwnInts lo w' v xs:=by
 obtain ⟨g,cs,_,h2,h3⟩:=h;exact ⟨g,cs,h2,h3⟩
def CGr (w A m:Nat):Addr→Prop:=fun a=>a.block=w+1∨a.block=A∨a.block=m
@[go_sem] theorem CGr_of {w A m k o:Nat} (h:k=w+1∨k=A∨k=m):CGr w A m ⟨k,o,none⟩:=h
def grF (f:Nat→Int) (n:Nat) (t:Tex) (a:Option Addr) (cap w g:Nat) (cs:List Value) (nb:Nat):List (Nat×TypeId×List Value):=
 [(w,40,[.int .i64 (f 0),.int .i64 (f 1),.int .i64 (f 2),.int .i64 (f 3),.int .i64 (f 4),.int .i64 (f 5),.int .i64 (f 6),.int .i64 (f 7),.int .i64 (f 8),.int .i64 (f 9),.int .i64 (f 10),.int .i64 (f 11)]),(w+1,3,[.int .i64 (n:Nat)]),(w+1+1,27,[.int .i64 t.log,.slice a t.px.length cap]),(w+1+1+1,135,[.int .i64 0,.slice none 0 0,.int .i64 0,.int .i64 0,.slice none 0 0]),(g,3,cs),(nb,3,[.int .i64 (n:Nat)])]
theorem grF_ne {f:Nat→Int} {n:Nat} {t:Tex} {a:Option Addr} {cap w g:Nat} {cs:List Value} {nb A:Nat} (h1:w+4≤A) (h2:g≠A) (h3:nb≠A):∀p∈grF f n t a cap w g cs nb,p.2.1≠200∧p.1≠A:=by
 intro p hp;simp only [grF,List.mem_cons,List.not_mem_nil,or_false] at hp
 rcases hp with rfl|rfl|rfl|rfl|rfl|rfl <;> exact ⟨by simp,by simp only [ne_eq];omega⟩
theorem iGridOf_any (lo hi:Nat) (f:Nat→Int) (hf:patB f=true) (n:Nat) (hn:1≤n∧n≤8) (tv:Value) (t:Tex) (w:World) (ht:TexR lo hi w tv t) (hh:hi≤w.heap.size) (hok:t.okB=true) :
  Calls Tryz.prog 95 #[.agg #[.int .i64 (f 0),.int .i64 (f 1),.int .i64 (f 2),.int .i64 (f 3),.int .i64 (f 4),.int .i64 (f 5),.int .i64 (f 6),.int .i64 (f 7),.int .i64 (f 8),.int .i64 (f 9),.int .i64 (f 10),.int .i64 (f 11)],.int .i64 (n:Nat),.int .i64 0,tv] w fun e w'=>∃v,e = .returned (.tuple #[v,.bool true])∧(gridP f n t).R w.heap.size w'.heap.size w' v∧Ext w w':=by
 obtain ⟨tu,rfl,tlog,hu⟩:=ht;have HU:=hid hu;obtain ⟨a,cap,rfl,HA⟩:=hu.open;have hpx:=(tex_len hok).1;have hpx2:=(tex_len hok).2;have HOK:=hid hok;have HF:=hid hf;have HTL:=hid tlog;clear hu HA hf hok tlog;have C0:∀W:World,Calls Tryz.prog 157 #[.int .i64 (n:Nat)] W fun e w'=>e = .returned (.func (.func 219) #[] #[.pointer (some ⟨W.heap.size,0,none⟩)])∧w'=W.alloc (.cells #[.int .i64 (n:Nat)] 3):=fun W=>(callsIn_wide (n:=0)).1 (cells_val n 0 W);have C2:=hid C0;clear C0;have I1:=hid (inB_iff.2 (show (1:Int)≤(n:Int)∧(n:Int)≤8 by omega))
 have hn0:0<n:=by omega
 have q0:=Blk.new w 40 [.int .i64 (f 0),.int .i64 (f 1),.int .i64 (f 2),.int .i64 (f 3),.int .i64 (f 4),.int .i64 (f 5),.int .i64 (f 6),.int .i64 (f 7),.int .i64 (f 8),.int .i64 (f 9),.int .i64 (f 10),.int .i64 (f 11)];have q1:=Blk.new (w.alloc (.cells #[.int .i64 (f 0),.int .i64 (f 1),.int .i64 (f 2),.int .i64 (f 3),.int .i64 (f 4),.int .i64 (f 5),.int .i64 (f 6),.int .i64 (f 7),.int .i64 (f 8),.int .i64 (f 9),.int .i64 (f 10),.int .i64 (f 11)] 40)) 3 [.int .i64 (n:Nat)];have q2:=Blk.new ((w.alloc (.cells #[.int .i64 (f 0),.int .i64 (f 1),.int .i64 (f 2),.int .i64 (f 3),.int .i64 (f 4),.int .i64 (f 5),.int .i64 (f 6),.int .i64 (f 7),.int .i64 (f 8),.int .i64 (f 9),.int .i64 (f 10),.int .i64 (f 11)] 40)).alloc (.cells #[.int .i64 (n:Nat)] 3)) 27 [.int .i64 t.log,.slice a t.px.length cap];have q3:=Blk.new (((w.alloc (.cells #[.int .i64 (f 0),.int .i64 (f 1),.int .i64 (f 2),.int .i64 (f 3),.int .i64 (f 4),.int .i64 (f 5),.int .i64 (f 6),.int .i64 (f 7),.int .i64 (f 8),.int .i64 (f 9),.int .i64 (f 10),.int .i64 (f 11)] 40)).alloc (.cells #[.int .i64 (n:Nat)] 3)).alloc (.cells #[.int .i64 t.log,.slice a t.px.length cap] 27)) 135 [.int .i64 0,.slice none 0 0,.int .i64 0,.int .i64 0,.slice none 0 0];simp only [World.size_alloc] at q1 q2 q3;have r0:=q0.ext (show Ext (w.alloc (.cells #[.int .i64 (f 0),.int .i64 (f 1),.int .i64 (f 2),.int .i64 (f 3),.int .i64 (f 4),.int .i64 (f 5),.int .i64 (f 6),.int .i64 (f 7),.int .i64 (f 8),.int .i64 (f 9),.int .i64 (f 10),.int .i64 (f 11)] 40)) ((((w.alloc (.cells #[.int .i64 (f 0),.int .i64 (f 1),.int .i64 (f 2),.int .i64 (f 3),.int .i64 (f 4),.int .i64 (f 5),.int .i64 (f 6),.int .i64 (f 7),.int .i64 (f 8),.int .i64 (f 9),.int .i64 (f 10),.int .i64 (f 11)] 40)).alloc (.cells #[.int .i64 (n:Nat)] 3)).alloc (.cells #[.int .i64 t.log,.slice a t.px.length cap] 27)).alloc (.cells #[.int .i64 0,.slice none 0 0,.int .i64 0,.int .i64 0,.slice none 0 0] 135)) from X_);have R0:=hid r0;have r1:=q1.ext (show Ext ((w.alloc (.cells #[.int .i64 (f 0),.int .i64 (f 1),.int .i64 (f 2),.int .i64 (f 3),.int .i64 (f 4),.int .i64 (f 5),.int .i64 (f 6),.int .i64 (f 7),.int .i64 (f 8),.int .i64 (f 9),.int .i64 (f 10),.int .i64 (f 11)] 40)).alloc (.cells #[.int .i64 (n:Nat)] 3)) ((((w.alloc (.cells #[.int .i64 (f 0),.int .i64 (f 1),.int .i64 (f 2),.int .i64 (f 3),.int .i64 (f 4),.int .i64 (f 5),.int .i64 (f 6),.int .i64 (f 7),.int .i64 (f 8),.int .i64 (f 9),.int .i64 (f 10),.int .i64 (f 11)] 40)).alloc (.cells #[.int .i64 (n:Nat)] 3)).alloc (.cells #[.int .i64 t.log,.slice a t.px.length cap] 27)).alloc (.cells #[.int .i64 0,.slice none 0 0,.int .i64 0,.int .i64 0,.slice none 0 0] 135)) from X_);have R1:=hid r1;have r2:=q2.ext (show Ext (((w.alloc (.cells #[.int .i64 (f 0),.int .i64 (f 1),.int .i64 (f 2),.int .i64 (f 3),.int .i64 (f 4),.int .i64 (f 5),.int .i64 (f 6),.int .i64 (f 7),.int .i64 (f 8),.int .i64 (f 9),.int .i64 (f 10),.int .i64 (f 11)] 40)).alloc (.cells #[.int .i64 (n:Nat)] 3)).alloc (.cells #[.int .i64 t.log,.slice a t.px.length cap] 27)) ((((w.alloc (.cells #[.int .i64 (f 0),.int .i64 (f 1),.int .i64 (f 2),.int .i64 (f 3),.int .i64 (f 4),.int .i64 (f 5),.int .i64 (f 6),.int .i64 (f 7),.int .i64 (f 8),.int .i64 (f 9),.int .i64 (f 10),.int .i64 (f 11)] 40)).alloc (.cells #[.int .i64 (n:Nat)] 3)).alloc (.cells #[.int .i64 t.log,.slice a t.px.length cap] 27)).alloc (.cells #[.int .i64 0,.slice none 0 0,.int .i64 0,.int .i64 0,.slice none 0 0] 135)) from X_);have R2:=hid r2;have r3:=q3.ext (show Ext ((((w.alloc (.cells #[.int .i64 (f 0),.int .i64 (f 1),.int .i64 (f 2),.int .i64 (f 3),.int .i64 (f 4),.int .i64 (f 5),.int .i64 (f 6),.int .i64 (f 7),.int .i64 (f 8),.int .i64 (f 9),.int .i64 (f 10),.int .i64 (f 11)] 40)).alloc (.cells #[.int .i64 (n:Nat)] 3)).alloc (.cells #[.int .i64 t.log,.slice a t.px.length cap] 27)).alloc (.cells #[.int .i64 0,.slice none 0 0,.int .i64 0,.int .i64 0,.slice none 0 0] 135)) ((((w.alloc (.cells #[.int .i64 (f 0),.int .i64 (f 1),.int .i64 (f 2),.int .i64 (f 3),.int .i64 (f 4),.int .i64 (f 5),.int .i64 (f 6),.int .i64 (f 7),.int .i64 (f 8),.int .i64 (f 9),.int .i64 (f 10),.int .i64 (f 11)] 40)).alloc (.cells #[.int .i64 (n:Nat)] 3)).alloc (.cells #[.int .i64 t.log,.slice a t.px.length cap] 27)).alloc (.cells #[.int .i64 0,.slice none 0 0,.int .i64 0,.int .i64 0,.slice none 0 0] 135)) from X_);have R3:=hid r3;have X0:=hid (show Ext w ((((w.alloc (.cells #[.int .i64 (f 0),.int .i64 (f 1),.int .i64 (f 2),.int .i64 (f 3),.int .i64 (f 4),.int .i64 (f 5),.int .i64 (f 6),.int .i64 (f 7),.int .i64 (f 8),.int .i64 (f 9),.int .i64 (f 10),.int .i64 (f 11)] 40)).alloc (.cells #[.int .i64 (n:Nat)] 3)).alloc (.cells #[.int .i64 t.log,.slice a t.px.length cap] 27)).alloc (.cells #[.int .i64 0,.slice none 0 0,.int .i64 0,.int .i64 0,.slice none 0 0] 135)) from X_)
 have z0:((((w.alloc (.cells #[.int .i64 (f 0),.int .i64 (f 1),.int .i64 (f 2),.int .i64 (f 3),.int .i64 (f 4),.int .i64 (f 5),.int .i64 (f 6),.int .i64 (f 7),.int .i64 (f 8),.int .i64 (f 9),.int .i64 (f 10),.int .i64 (f 11)] 40)).alloc (.cells #[.int .i64 (n:Nat)] 3)).alloc (.cells #[.int .i64 t.log,.slice a t.px.length cap] 27)).alloc (.cells #[.int .i64 0,.slice none 0 0,.int .i64 0,.int .i64 0,.slice none 0 0] 135)).heap.size=w.heap.size+4:=by simp
 have Z0:=hid z0;clear q0 q1 q2 q3 r0 r1 r2 r3 z0;refine (callsIn_wide (n:=3)).1 ?_;refine callsIn_of_wp_marks Tryz.func95 rfl trivial ?_ rfl;simp only [Tryz.ntmps95,List.size_toArray,List.length_cons,List.length_nil,Nat.reduceAdd,Nat.reduceSub,Array.replicate_succ,Array.replicate_zero,List.push_toArray,List.append_toArray,List.nil_append,List.cons_append];refine wpIn_wide.2 ?_;go_wp2_with fail;refine (iIsValidPatch_any f _).mono ?_;rw [HF.out];rintro e w1 ⟨rfl,x1⟩;have S0:=R0.out.ext x1;have S1:=R1.out.ext x1;have S2:=R2.out.ext x1;have S3:=R3.out.ext x1;have X1:=hid (X0.out.trans x1);have Z1:=hid (show w.heap.size+4≤w1.heap.size by have:=x1.size;have:=Z0.out;omega);have n0:=S1.cell 0 rfl;have l1:=S1.lt;obtain ⟨t0,t1⟩:=S2.q2;have l2:=S2.lt;have H0:=hid S0;have H1:=hid S1;have H2:=hid S2;have H3:=hid S3;clear S0 S1 S2 S3 x1 R0 R1 R2 R3 X0 Z0;go_upto_region 3 with (go_at_call 54;refine (within_val I1.out _).mono ?_;rintro e w2 ⟨rfl,rfl⟩)
 go_cut [10] from 23 to 31 (fun q wx=>∃A sa sc,q = .pointer (some ⟨A,0,none⟩)∧w1.heap.size≤A∧Blk wx A 135 [.int .i64 (n:Nat),.slice none 0 0,.int .i64 0,.int .i64 t.log,.slice sa t.px.length sc]∧TuR w1.heap.size wx (.slice sa t.px.length sc) t.px∧Ext w1 wx)
 case first=>
  refine wp_region_Z 10 w1.heap.size (by kernel_rfl) ?_;refine z2_ (fuel:=4) [0,1,2,3,4,5] 6 9 (fun b _ hb=>rfl) (fun K hK=>?_) fun K hK=>?_
  ·go_wp2_with fail
   refine (cloneIntsL w1.heap.size lo hi _ t.px _ (HU.out.ext hh (X1.out.trans (Ext.drew (Ext.refl _)))) (Nat.le_trans hh (X1.out.trans (Ext.drew (Ext.refl _))).size) hpx hpx2 (Ext.size (Ext.drew (Ext.refl _)))).mono ?_;rintro e a0 ⟨v0,rfl,o0,y0⟩;have u0:Ext w1 a0:=Ext.trans X_ y0;obtain ⟨sa0,sc0,rfl,_⟩:=o0.form;have T0:=o0.tur hpx;clear o0;go_wp2_with fail;refine hK _ _ (.inr (fun b _ hb=>u0.block (by omega))) ?_;clear hK K;refine z1_ (fuel:=1) [7,8] 9 (fun b _ hb=>u0.block (by omega)) fun K hK=>?_;go_wp2;have hA0A:w1.heap.size≤a0.heap.size:=u0.size;refine hK _ _ (.inr (fun b _ hb=>(Ext.block (w:=a0) X_ (by omega)).trans (u0.block (by omega)))) ?_;clear hK K;have yy0A:Ext a0 (a0.alloc (.cells #[.int .i64 0,.slice none 0 0,.int .i64 0,.int .i64 0,.slice none 0 0] 135)):=X_;have b0A:Blk (a0.alloc (.cells #[.int .i64 0,.slice none 0 0,.int .i64 0,.int .i64 0,.slice none 0 0] 135)) (a0.heap.size) 135 [.int .i64 0,.slice none 0 0,.int .i64 0,.int .i64 0,.slice none 0 0]:=Blk.new _ _ _
   obtain ⟨d0A,hd0A⟩:∃d,a0.alloc (.cells #[.int .i64 0,.slice none 0 0,.int .i64 0,.int .i64 0,.slice none 0 0] 135)=d:=⟨_,rfl⟩
   rw [hd0A] at yy0A b0A ⊢;have u0A:Ext w1 d0A:=u0.trans yy0A;have T0A:=T0.ext yy0A;clear hd0A;refine z1_ (fuel:=0) [] 10 (fun b _ hb=>u0A.block (by omega)) fun K hK=>?_;have z0:=b0A.cell 0 rfl;have zf0:=b0A.free 0;have z1:=b0A.cell 1 rfl;have zf1:=b0A.free 1;have z2:=b0A.cell 2 rfl;have zf2:=b0A.free 2;have z3:=b0A.cell 3 rfl;have zf3:=b0A.free 3;have z4:=b0A.cell 4 rfl;have zf4:=b0A.free 4;have zl:=b0A.lt;go_wp2;refine hK _ _ (.inl (by trivial)) ?_;clear hK K;refine wpZ_end (by kernel_rfl) ?_;go_wp2_with fail
   go_meet
   have hlt:=hA0A;exact ⟨a0.heap.size,_,_,rfl,hlt,(((((b0A.set 0 _).set 1 _).set 2 _).set 3 _).set 4 _),(((((T0A.set b0A (by decide) 0 _).set (b0A.set 0 _) (by decide) 1 _).set ((b0A.set 0 _).set 1 _) (by decide) 2 _).set (((b0A.set 0 _).set 1 _).set 2 _) (by decide) 3 _).set ((((b0A.set 0 _).set 1 _).set 2 _).set 3 _) (by decide) 4 _),(Ext.setCell (Ext.setCell (Ext.setCell (Ext.setCell (Ext.setCell u0A (p:=⟨a0.heap.size,0,none⟩) hlt _) (p:=⟨a0.heap.size,1,none⟩) hlt _) (p:=⟨a0.heap.size,2,none⟩) hlt _) (p:=⟨a0.heap.size,3,none⟩) hlt _) (p:=⟨a0.heap.size,4,none⟩) hlt _)⟩
  ·go_wp2
   have hAA:w1.heap.size≤w1.heap.size:=Nat.le_refl _;refine hK _ _ (.inr (fun b _ hb=>Ext.block (w:=w1) X_ (by omega))) ?_;clear hK K;have yyA:Ext w1 ((w1.alloc (.cells #[.int .i64 0,.slice none 0 0,.int .i64 0,.int .i64 0,.slice none 0 0] 135)).drew):=X_;have bA:Blk ((w1.alloc (.cells #[.int .i64 0,.slice none 0 0,.int .i64 0,.int .i64 0,.slice none 0 0] 135)).drew) (w1.heap.size) 135 [.int .i64 0,.slice none 0 0,.int .i64 0,.int .i64 0,.slice none 0 0]:=(Blk.new _ _ _).ext (Ext.drew (Ext.refl _))
   obtain ⟨dA,hdA⟩:∃d,(w1.alloc (.cells #[.int .i64 0,.slice none 0 0,.int .i64 0,.int .i64 0,.slice none 0 0] 135)).drew=d:=⟨_,rfl⟩
   rw [hdA] at yyA bA ⊢;have uA:Ext w1 dA:=yyA;clear hdA;refine z1_ (fuel:=3) [] 6 (fun b _ hb=>uA.block (by omega)) fun K hK=>?_;go_wp2_with fail;refine (cloneIntsL w1.heap.size lo hi _ t.px _ (HU.out.ext hh (X1.out.trans uA)) (Nat.le_trans hh (X1.out.trans uA).size) hpx hpx2 (Ext.size uA)).mono ?_;rintro e aA0 ⟨vA0,rfl,oA0,yA0⟩;have uA0:Ext w1 aA0:=uA.trans yA0;have bA0:=bA.ext yA0;obtain ⟨saA0,scA0,rfl,_⟩:=oA0.form;have TA0:=oA0.tur hpx;clear oA0;go_wp2_with fail;refine hK _ _ (.inr (fun b _ hb=>uA0.block (by omega))) ?_;clear hK K;refine z1_ (fuel:=0) [7,8] 10 (fun b _ hb=>uA0.block (by omega)) fun K hK=>?_;have z0:=bA0.cell 0 rfl;have zf0:=bA0.free 0;have z1:=bA0.cell 1 rfl;have zf1:=bA0.free 1;have z2:=bA0.cell 2 rfl;have zf2:=bA0.free 2;have z3:=bA0.cell 3 rfl;have zf3:=bA0.free 3;have z4:=bA0.cell 4 rfl;have zf4:=bA0.free 4;have zl:=bA0.lt;go_wp2;refine hK _ _ (.inl (by trivial)) ?_;clear hK K;refine wpZ_end (by kernel_rfl) ?_;go_wp2_with fail
   go_meet
   have hlt:=hAA;exact ⟨w1.heap.size,_,_,rfl,hlt,(((((bA0.set 0 _).set 1 _).set 2 _).set 3 _).set 4 _),(((((TA0.set bA0 (by decide) 0 _).set (bA0.set 0 _) (by decide) 1 _).set ((bA0.set 0 _).set 1 _) (by decide) 2 _).set (((bA0.set 0 _).set 1 _).set 2 _) (by decide) 3 _).set ((((bA0.set 0 _).set 1 _).set 2 _).set 3 _) (by decide) 4 _),(Ext.setCell (Ext.setCell (Ext.setCell (Ext.setCell (Ext.setCell uA0 (p:=⟨w1.heap.size,0,none⟩) hlt _) (p:=⟨w1.heap.size,1,none⟩) hlt _) (p:=⟨w1.heap.size,2,none⟩) hlt _) (p:=⟨w1.heap.size,3,none⟩) hlt _) (p:=⟨w1.heap.size,4,none⟩) hlt _)⟩
 case rest=>
  obtain ⟨A,sa,sc,rfl,hA,bA,tA,xa⟩:=hcut;obtain ⟨g,cs,bg,gown⟩:=tA.open
  have hgA:g≠A:=fun e=>by
   subst e;unfold Blk at bg bA;rw [bg] at bA;simp only [Option.some.injEq,Obj.cells.injEq] at bA;exact absurd bA.2.1 (by decide)
  have la:=xa.size;have e1:=H1.out.ext xa;have n1:=e1.cell 0 rfl;have ll1:=e1.lt;have K0:=hid (H0.out.ext xa);have K1:=hid e1;have K2:=hid (H2.out.ext xa);have K3:=hid (H3.out.ext xa);have KA:=hid bA;have KG:=hid bg;have KO:=hid gown;have XC:=hid (X1.out.trans xa);clear e1 bA tA bg gown xa H0 H1 H2 H3 n0 l1 t0 t1 l2;go_wp2_with fail;refine (C2.out _).mono ?_;rintro e w6 ⟨rfl,rfl⟩;go_wp2_with fail
  obtain ⟨W0,hW0⟩:∃W0,wc.alloc (.cells #[.int .i64 (n:Nat)] 3)=W0:=⟨_,rfl⟩
  have xx:Ext wc W0:=hW0▸X_;have z0:W0.heap.size=wc.heap.size+1:=hW0▸World.size_alloc _ _;have r9:Blk W0 wc.heap.size 3 [.int .i64 (n:Nat)]:=hW0▸Blk.new wc 3 [.int .i64 (n:Nat)];rw [hW0];clear hW0;have hlA:=KA.out.lt
  have z6:w.heap.size+4≤A:=by have:=Z1.out;omega
  have NE:=hid (grF_ne (f:=f) (n:=n) (t:=t) (a:=a) (cap:=cap) (w:=w.heap.size) (g:=g) (cs:=cs) (nb:=wc.heap.size) z6 hgA (by omega))
  have HRB:RB Pt.cs 200 5 135 (fun v=>[.int .i64 (n:Nat),v,.int .i64 0,.int .i64 t.log,.slice sa t.px.length sc]) w A (grF f n t a cap w.heap.size g cs wc.heap.size) W0 (ptsG f n []):=by
   refine ⟨XC.out.trans xx,fun p hp=>?_,by omega,_,KA.out.ext xx,OwnG.nil _ _ _ _ _⟩;simp only [grF,List.mem_cons,List.not_mem_nil,or_false] at hp
   rcases hp with rfl|rfl|rfl|rfl|rfl|rfl
   ·exact K0.out.ext xx
   ·exact K1.out.ext xx
   ·exact K2.out.ext xx
   ·exact K3.out.ext xx
   ·exact KG.out.ext xx
   ·exact r9
  have HRB:=hid HRB;have NB:=r9.cell 0 rfl;clear r9 xx K0 K1 K2 K3 KA KG XC C2 n1 ll1 X1;refine (wpIn_wide (n:=3)).1 ?_
  refine' wpIn_rangeFunc_ownG rfl (by omega) (gf:=219) (lb:=#[.pointer (some ⟨wc.heap.size,0,none⟩)]) rfl trivial (enters_of Tryz.func219 (by kernel_rfl) rfl)
   (cells_stops n hn0 (by omega) _ wc.heap.size W0 (by omega) NB) (fun h k=>KB.trans h k) ?hKb (Below.refl _ _) (fun _=>rfl)
   (fun pre W=>RB Pt.cs 200 5 135 (fun v=>[.int .i64 (n:Nat),v,.int .i64 0,.int .i64 t.log,.slice sa t.px.length sc]) w A (grF f n t a cap w.heap.size g cs wc.heap.size) W (ptsG f n pre))
   (fun cd pre W=>False) ?owns ?ownsx HRB.out _ ?assign ?body ?done ?stop
  case hKb=>exact fun W l o o' hl ho _ _=>World.putObj_heap_other (by omega)
  case assign=>
   intro l x W K hK
   gi_wp2
   exact hK
  case owns=>exact fun pre A' B row h hg hr=>RB.owns (by omega) (ptsG f n) pre A' B row h hg hr
  case ownsx=>exact fun cd pre A B row h hg hr=>h
  case stop=>
   rintro D cd pre W hD - h hK;exact h.elim
  case body=>
   intro l pre x W hI hpre;have HI:=hid hI
   obtain ⟨i,hxi⟩:∃i:Nat,(x.1:Nat)=i:=⟨_,rfl⟩
   obtain ⟨j,hxj⟩:∃i:Nat,(x.2:Nat)=i:=⟨_,rfl⟩
   have hi2:i<n:=hxi▸x.1.2;have hj2:j<n:=hxj▸x.2.2
   obtain ⟨X,Y,Z,hE⟩:∃X Y Z,evP f (i:Int) (j:Int) (n:Int)=⟨X,Y,Z⟩:=⟨_,_,_,rfl⟩
   have HEV:=hid hE;have N1:=hid (show (1:Int)≤n∧(n:Int)≤64 by omega);have N2:=hid (show (0:Int)≤(i:Int)∧(i:Int)≤(n:Int) by omega);have N3:=hid (show (0:Int)≤(j:Int)∧(j:Int)≤(n:Int) by omega);obtain ⟨tv,tb1,tb2⟩:=hI.tb;obtain ⟨ta,tc,rfl,tlen⟩:=OwnG.form tb2;have T1:=hid tb1;have T2:=hid tb2;have m0:=hI.fx _ (.head _);have m1:=hI.fx _ (.tail _ (.head _));have M1:=hid m1;obtain ⟨m0c0,m0c1,m0c2,m0c3,m0c4,m0c5,m0c6,m0c7,m0c8,m0c9,m0c10,m0c11⟩:=m0.q12;have m1c0:=m1.cell 0 rfl;have m0l:=m0.lt;have m1l:=m1.lt
   try simp only [grF] at m0l m1l
   rw [hxi,hxj];clear hE hI tb1 tb2 m0 m1;refine wpIn_block ?_;refine wpIn_seq_k fun K1 HK1=>?_;refine wpIn_region_plain (by kernel_rfl) (fun ⟨_,_,h⟩=>h) ?_;go_wp2_with fail;refine (evalPatch_val HEV.out N1.out N2.out N3.out _).mono ?_;rintro e w5 ⟨rfl,x5⟩;have Y5:=hid x5;clear x5 m0c0 m0c1 m0c2 m0c3 m0c4 m0c5 m0c6 m0c7 m0c8 m0c9 m0c10 m0c11 m1c0 m0l m1l;go_wp2_with fail;have xv:Ext w5 (w5.alloc (.cells #[.int .i64 X,.int .i64 Y,.int .i64 Z] 37)):=X_;have bV:=Blk.new w5 37 [.int .i64 X,.int .i64 Y,.int .i64 Z];have zV:(w5.alloc (.cells #[.int .i64 X,.int .i64 Y,.int .i64 Z] 37)).heap.size=w5.heap.size+1:=World.size_alloc _ _
   obtain ⟨WV,hWV⟩:∃WV,w5.alloc (.cells #[.int .i64 X,.int .i64 Y,.int .i64 Z] 37)=WV:=⟨_,rfl⟩
   rw [hWV] at xv bV zV ⊢;have ZV:=hid zV;clear hWV zV;have YV:=hid (Y5.out.trans xv);have U1:=hid (T1.out.ext YV.out);have U2:=hid (OwnG.ext T2.out YV.out);have UN:=hid (M1.out.ext YV.out);have UV:=hid bV;have c1:=U1.out.cell 1 rfl;have al:=U1.out.lt;have n0:=UN.out.cell 0 rfl;have nl:=UN.out.lt;obtain ⟨v0,v1,v2⟩:=bV.q3;have vl:=bV.lt
   try simp only [grF] at nl n0
   have hnz:(n:Int)≠0:=by omega
   clear bV xv;refine wpIn_region_ZS 20 (fun w'=>∃d,w'=lowc (CGr w.heap.size A w5.heap.size) WV d) (by kernel_rfl) (by kernel_rfl) (fun ⟨_,_,h⟩=>h) ?_;refine wpZS_stage (fuel:=3) [0,1,2,3,4,5,6,7,8,9,10,11,12,13,14,15,16] [17] (by kernel_rfl) (SC.drew _ _) ?_
   try simp only [Act.put,List.setIfInBounds_toArray,List.set_cons_succ,List.set_cons_zero]
   simp only [List.filterMap_cons,List.filterMap_nil,List.getElem?_toArray,List.getElem?_cons_zero,List.getElem?_cons_succ]
   show wpQuiet _ _ _ _ [_,_,_,_,_,_,_,_,_,_,_,_,_,_,_,_,_] _
   repeat (go_big_quiet_step (fail))
   refine wpQuiet_nil ?_;intro e he;simp only [List.mem_cons,List.not_mem_nil,or_false] at he;subst he
   (unfold wpComesS;simp only [List.getElem?_toArray,List.getElem?_cons_succ,List.getElem?_cons_zero,Option.some.injEq];refine ⟨_,rfl,fun K hK=>?_⟩)
   go_wp2;have CL:=hid (show ∀q:Addr,CGr w.heap.size A w5.heap.size q→q.block<WV.heap.size from fun q hq=>by have hz:=ZV.out;rcases hq with h|h|h <;> omega);refine hK _ _ (.inr (SC.blocks fun q hq=>Ext.block (w:=WV) X_ (CL.out q hq))) ?_;clear hK K
   obtain ⟨U,hU⟩:∃U,(i:Int)*256 / (n:Int)=U:=⟨_,rfl⟩
   obtain ⟨V,hV⟩:∃V,(j:Int)*256 / (n:Int)=V:=⟨_,rfl⟩
   rw [hU,hV]
   have hpt:ptG f n i j=⟨U,V,X,Y,Z⟩:=by unfold ptG;rw [hU,hV,HEV.out]
   have HPT:=hid hpt;clear hpt hU hV;have xP:Ext WV ((WV.alloc (.cells #[.int .i64 U,.int .i64 V,.int .i64 X,.int .i64 Y,.int .i64 Z] 200)).drew):=X_;have bP:Blk ((WV.alloc (.cells #[.int .i64 U,.int .i64 V,.int .i64 X,.int .i64 Y,.int .i64 Z] 200)).drew) WV.heap.size 200 [.int .i64 U,.int .i64 V,.int .i64 X,.int .i64 Y,.int .i64 Z]:=(Blk.new WV 200 [.int .i64 U,.int .i64 V,.int .i64 X,.int .i64 Y,.int .i64 Z]).ext (Ext.drew (Ext.refl _))
   obtain ⟨WP,hWP⟩:∃WP,(WV.alloc (.cells #[.int .i64 U,.int .i64 V,.int .i64 X,.int .i64 Y,.int .i64 Z] 200)).drew=WP:=⟨_,rfl⟩
   rw [hWP] at xP bP ⊢;clear hWP;have XP:=hid xP;have BP:=hid bP
   have hplen:(ptsG f n pre).length<1000000:=by
    have h1:(ptsG f n pre).length=pre.length:=by unfold ptsG;rw [List.length_map]
    have h2:n*n≤64:=Nat.mul_le_mul (by omega:n≤8) (by omega:n≤8);omega
   have hwP:w.heap.size≤WP.heap.size:=by have:=XP.out.size;omega
   have HPL:=hid hplen;clear xP bP hplen v0 v1 v2 c1 n0;refine wpZS_stage (fuel:=2) [] [18] (by kernel_rfl) (SC.blocks fun q hq=>XP.out.block (CL.out q hq)) ?_;refine wpQuiet_nil ?_;intro e he;simp only [List.mem_cons,List.not_mem_nil,or_false] at he;subst he
   (unfold wpComesS;simp only [List.getElem?_toArray,List.getElem?_cons_succ,List.getElem?_cons_zero,Option.some.injEq];refine ⟨_,rfl,fun K hK=>?_⟩)
   refine wpList_append_pt _ rfl _ _ rfl w.heap.size (.slice ta (ptsG f n pre).length tc) (ptsG f n pre) rfl (OwnG.ext U2.out XP.out) ⟨U,V,X,Y,Z⟩ WV.heap.size rfl (fun q hq=>by
    rcases (show q=0∨q=1∨q=2∨q=3∨q=4 by omega) with rfl|rfl|rfl|rfl|rfl
    ·exact BP.out.cell 0 rfl
    ·exact BP.out.cell 1 rfl
    ·exact BP.out.cell 2 rfl
    ·exact BP.out.cell 3 rfl
    ·exact BP.out.cell 4 rfl) HPL.out hwP ?_
   intro v8 w8 hown hg;obtain ⟨va,vc,rfl,_⟩:=OwnG.form hown
   have HCC:=hid (show ∀q:Addr,CGr w.heap.size A w5.heap.size q→w8.heap[q.block]?=WV.heap[q.block]? from fun q hq=>by
    have hl:=CL.out q hq
    have hr:some q.block≠(Value.slice ta (ptsG f n pre).length tc).ownBlock:=by
     rcases hq with h|h|h
     ·rw [h];exact blk_not_row UN.out (by decide) U2.out
     ·rw [h];exact blk_not_row U1.out (by decide) U2.out
     ·rw [h];exact blk_not_row UV.out (by decide) U2.out
    exact (hg.block _ (Nat.lt_of_lt_of_le hl XP.out.size) hr).trans (XP.out.block hl))
   have G1:=(U1.out.ext XP.out).grown hg (blk_not_row U1.out (by decide) U2.out);have c1:=G1.cell 1 rfl;have f1:=G1.free 1;have gl:=G1.lt;have HO:=hid hown;have HG:=hid hg;clear hown hg G1;go_wp2_with fail;refine hK _ _ (.inr (SC.blocks HCC.out)) ?_;clear hK K;refine wpZS_stage (fuel:=0) [19] [20] (by kernel_rfl) (SC.blocks HCC.out) ?_
   try simp only [Act.put,List.setIfInBounds_toArray,List.set_cons_succ,List.set_cons_zero]
   simp only [List.filterMap_cons,List.filterMap_nil,List.getElem?_toArray,List.getElem?_cons_zero,List.getElem?_cons_succ]
   show wpQuiet _ _ _ _ [_] _
   repeat (go_big_quiet_step (fail))
   refine wpQuiet_nil ?_;intro e he;simp only [List.mem_cons,List.not_mem_nil,or_false] at he;subst he
   (unfold wpComesS;simp only [List.getElem?_toArray,List.getElem?_cons_succ,List.getElem?_cons_zero,Option.some.injEq];refine ⟨_,rfl,fun K hK=>?_⟩)
   go_wp2;refine hK _ _ (.inl (by trivial)) ?_;clear hK K;refine wpZS_end (by kernel_rfl) ?_;have T4:=HI.out.push NE.out (by decide) 1 rfl T1.out T2.out (YV.out.trans XP.out) HG.out HO.out;simp only [List.length_append,List.length_cons,List.length_nil,Nat.zero_add] at T4;refine ⟨(((Ext.others (YV.out.trans XP.out)).trans (KeepsOthers.of_grownBy HG.out (own_blk (YV.out.trans XP.out) T2.out))).trans (KeepsOthers.setCell _ _ _)).from _,(T4.fx _ (.tail _ (.tail _ (.tail _ (.tail _ (.tail _ (.head _))))))).trans (HI.out.fx _ (.tail _ (.tail _ (.tail _ (.tail _ (.tail _ (.head _))))))).symm,?_⟩
   show RB _ _ _ _ _ _ _ _ _ (ptsG f n (pre++[x]))
   rw [ptsG_snoc,hxi,hxj,HPT.out];exact T4
  case done=>
   rintro D ys W hD rfl hI hK;obtain ⟨tv,tb1,tb2⟩:=hI.tb;obtain ⟨ta,tc,rfl,tlen⟩:=OwnG.form tb2
   have hlen:(ptsG f n (cellsTo n hn0 (n*n))).length=n*n:=by unfold ptsG;rw [List.length_map,cellsTo_length]
   have HRW:=hid (show ∀W2:World,OwnG Pt.cs w.heap.size 200 5 W2 (.slice ta (ptsG f n (cellsTo n hn0 (n*n))).length tc) (ptsG f n (cellsTo n hn0 (n*n)))→OwnInts w1.heap.size W2 (.slice sa t.px.length sc) t.px→(gridP f n t).R w.heap.size W2.heap.size W2 (.agg #[.int .i64 (n:Nat),.slice ta (ptsG f n (cellsTo n hn0 (n*n))).length tc,.int .i64 0,.int .i64 t.log,.slice sa t.px.length sc]) from fun W2 o1 o2=>by
    refine ⟨_,_,rfl,⟨by show -9223372036854775808≤(n:Int);omega,by show (n:Int)≤9223372036854775807;omega⟩,⟨by show (-9223372036854775808:Int)≤0;decide,by show (0:Int)≤9223372036854775807;decide⟩,HTL.out,?_,?_⟩
    ·have h:=OwnG.flatsI (ls:=Pt.ls) (F:=gridF f n) o1 (by decide) (fun _=>rfl) (fun _=>rfl) (fun p hp y hy=>by
      obtain ⟨q,hq,rfl⟩:=List.getElem_of_mem hp;have e:=ptsG_all f n hn0 (List.getElem?_eq_getElem hq);rw [hlen] at hq;rw [e] at hy;have:=ptG_bd f (n:=n) (i:=q % n) (j:=q / n) (by omega) (Nat.mod_lt _ hn0) (Nat.div_lt_of_lt_mul hq) y hy
      exact ⟨by omega,by omega⟩) (fun q p k hq hk=>by rw [ptsG_all f n hn0 hq];exact gridF_at f n q k hk)
     rw [hlen] at h ⊢;exact h
    ·exact o2.ints.wide (by have:=Z1.out;omega) (Nat.le_refl _))
   have hR:=HRW.out W tb2 (KO.out W (hI.fx _ (.tail _ (.tail _ (.tail _ (.tail _ (.head _)))))));have TB2:=hid tb2;have KG:=hid (hI.fx _ (.tail _ (.tail _ (.tail _ (.tail _ (.head _))))));have HR:=hid hR;have k3:=hI.fx _ (.tail _ (.tail _ (.tail _ (.head _))));have K3:=hid k3;have KA:=hid tb1;have HEX:=hid hI.ext;have HD:=hid hK;obtain ⟨a0,a1,a2,a3,a4⟩:=tb1.q5;have al:=tb1.lt;clear hR hI tb1 tb2 k3 hK hlen;go_wp2_with fail;refine (iIsValidGrid_any w.heap.size W.heap.size _ (gridP f n t) _ HR.out (Nat.le_refl _)).mono ?_;rw [gridP_ok hn HOK.out];rintro e w9 ⟨rfl,x9⟩;have A9:=KA.out.ext x9;have B9:=K3.out.ext x9;have X9:=hid x9;clear x9 a0 a1 a2 a3 a4 al;obtain ⟨a0,a1,a2,a3,a4⟩:=A9.q5;have al:=A9.lt;obtain ⟨b0,b1,b2,b3,b4⟩:=B9.q5;have f0:=B9.free 0;have f1:=B9.free 1;have f2:=B9.free 2;have f3:=B9.free 3;have f4:=B9.free 4;have bl:=B9.lt
   try simp only [grF] at b0 b1 b2 b3 b4 f0 f1 f2 f3 f4 bl
   have BB:Blk w9 (w.heap.size+1+1+1) 135 [.int .i64 0,.slice none 0 0,.int .i64 0,.int .i64 0,.slice none 0 0]:=B9
   have hgB:g≠w.heap.size+1+1+1:=fun e=>by
    have h:Blk w9 g 3 cs:=KG.out.ext X9.out;rw [e] at h;unfold Blk at h BB;rw [h] at BB;simp only [Option.some.injEq,Obj.cells.injEq] at BB;exact absurd BB.2.1 (by decide)
   have HBB:=hid BB;clear A9 B9 BB;go_wp2_with fail
   have oF:=(OwnG.setBlk (OwnG.setBlk (OwnG.setBlk (OwnG.setBlk (OwnG.setBlk (OwnG.ext TB2.out X9.out) HBB.out (by decide) 0 (.int .i64 (n:Nat))) (HBB.out.set 0 (.int .i64 (n:Nat))) (by decide) 1 (.slice ta (ptsG f n (cellsTo n hn0 (n*n))).length tc)) ((HBB.out.set 0 (.int .i64 (n:Nat))).set 1 (.slice ta (ptsG f n (cellsTo n hn0 (n*n))).length tc)) (by decide) 2 (.int .i64 0)) (((HBB.out.set 0 (.int .i64 (n:Nat))).set 1 (.slice ta (ptsG f n (cellsTo n hn0 (n*n))).length tc)).set 2 (.int .i64 0)) (by decide) 3 (.int .i64 t.log)) ((((HBB.out.set 0 (.int .i64 (n:Nat))).set 1 (.slice ta (ptsG f n (cellsTo n hn0 (n*n))).length tc)).set 2 (.int .i64 0)).set 3 (.int .i64 t.log)) (by decide) 4 (.slice sa t.px.length sc))
   have gF:=((((((KG.out.ext X9.out).other (a:=⟨w.heap.size+1+1+1,0,none⟩) hgB (.int .i64 (n:Nat))).other (a:=⟨w.heap.size+1+1+1,1,none⟩) hgB (.slice ta (ptsG f n (cellsTo n hn0 (n*n))).length tc)).other (a:=⟨w.heap.size+1+1+1,2,none⟩) hgB (.int .i64 0)).other (a:=⟨w.heap.size+1+1+1,3,none⟩) hgB (.int .i64 t.log)).other (a:=⟨w.heap.size+1+1+1,4,none⟩) hgB (.slice sa t.px.length sc))
   have eF:=(Ext.setCell (Ext.setCell (Ext.setCell (Ext.setCell (Ext.setCell (HEX.out.trans X9.out) (p:=⟨w.heap.size+1+1+1,0,none⟩) (by simp only;omega) (.int .i64 (n:Nat))) (p:=⟨w.heap.size+1+1+1,1,none⟩) (by simp only;omega) (.slice ta (ptsG f n (cellsTo n hn0 (n*n))).length tc)) (p:=⟨w.heap.size+1+1+1,2,none⟩) (by simp only;omega) (.int .i64 0)) (p:=⟨w.heap.size+1+1+1,3,none⟩) (by simp only;omega) (.int .i64 t.log)) (p:=⟨w.heap.size+1+1+1,4,none⟩) (by simp only;omega) (.slice sa t.px.length sc))
   have bF:=(((((HBB.out.set 0 (.int .i64 (n:Nat))).set 1 (.slice ta (ptsG f n (cellsTo n hn0 (n*n))).length tc)).set 2 (.int .i64 0)).set 3 (.int .i64 t.log)).set 4 (.slice sa t.px.length sc))
   have hlW:=lt_of_block HD.out
   have dF:((((((w9.setCell ⟨w.heap.size+1+1+1,0,none⟩ (.int .i64 (n:Nat))).setCell ⟨w.heap.size+1+1+1,1,none⟩ (.slice ta (ptsG f n (cellsTo n hn0 (n*n))).length tc)).setCell ⟨w.heap.size+1+1+1,2,none⟩ (.int .i64 0)).setCell ⟨w.heap.size+1+1+1,3,none⟩ (.int .i64 t.log)).setCell ⟨w.heap.size+1+1+1,4,none⟩ (.slice sa t.px.length sc))).heap[D]?=some (.deferred (some [])):=by
    rw [Below.heap_setCell _ _ _ _ (by simp only;omega),Below.heap_setCell _ _ _ _ (by simp only;omega),Below.heap_setCell _ _ _ _ (by simp only;omega),Below.heap_setCell _ _ _ _ (by simp only;omega),Below.heap_setCell _ _ _ _ (by simp only;omega)];exact (X9.out.block hlW).trans HD.out
   obtain ⟨WF,hWF⟩:∃WF,(((((w9.setCell ⟨w.heap.size+1+1+1,0,none⟩ (.int .i64 (n:Nat))).setCell ⟨w.heap.size+1+1+1,1,none⟩ (.slice ta (ptsG f n (cellsTo n hn0 (n*n))).length tc)).setCell ⟨w.heap.size+1+1+1,2,none⟩ (.int .i64 0)).setCell ⟨w.heap.size+1+1+1,3,none⟩ (.int .i64 t.log)).setCell ⟨w.heap.size+1+1+1,4,none⟩ (.slice sa t.px.length sc))=WF:=⟨_,rfl⟩
   rw [hWF] at oF gF eF bF dF ⊢;clear hWF
   have kk:∀r,some D=some r→∃o:Obj,WF.heap[r]?=some o∧o.isCells=false:=fun r e=>by cases e;exact ⟨_,dF,rfl⟩
   refine ⟨by simp,.inl ⟨_,_,rfl,run_takeDeferred dF,?_⟩⟩;refine ⟨_,res_box_tmp rfl _ _ rfl (kept_blk (grownBy_putObj' WF D _) kk bF) _ Tryz.underlying135 rfl info_GridB,_,rfl,?_,?_⟩
   ·exact HRW.out _ (OwnG.owns oF (grownBy_putObj' WF D _) kk) (KO.out _ (kept_blk (grownBy_putObj' WF D _) kk gF))
   ·exact eF.grown (grownBy_putObj' WF D _) (fun k e=>by cases e;omega)
end
def Cam.cs (c:Cam):List Value:=[.int .i64 c.w,.int .i64 c.h,.int .i64 c.zoom,.int .i64 c.near,.bool c.deep,.int .i64 c.lens,.int .i64 c.focus]
theorem iIsValidScene_any (s:Scn) (lo hi:Nat) (v:Value) (w:World) (hv:s.R lo hi w v) (hh:hi≤w.heap.size) (hsm:s.small) :
  Calls Tryz.prog 42 #[v] w fun e w'=>e = .returned (.bool s.okB)∧Ext w w':=by
 obtain ⟨a1,c1,a2,c2,a3,c3,rfl,-,hlog,-,h1,h2,h3⟩:=hv.form;have q0:=Blk.new w 31 [.int .i64 s.c.w,.int .i64 s.c.h,.int .i64 s.c.zoom,.int .i64 s.c.near,.bool s.c.deep,.int .i64 s.c.lens,.int .i64 s.c.focus,.int .i64 s.t.log,.slice a1 s.t.px.length c1,.slice a2 s.ps.length c2,.slice a3 s.m c3,.int .i64 s.side];have R0:=hid q0;have X0:=hid (show Ext w (w.alloc (.cells #[.int .i64 s.c.w,.int .i64 s.c.h,.int .i64 s.c.zoom,.int .i64 s.c.near,.bool s.c.deep,.int .i64 s.c.lens,.int .i64 s.c.focus,.int .i64 s.t.log,.slice a1 s.t.px.length c1,.slice a2 s.ps.length c2,.slice a3 s.m c3,.int .i64 s.side] 31)) from X_);have HT:=hid (show ∀W:World,Ext w W→TexR lo hi W (.agg #[.int .i64 s.t.log,.slice a1 s.t.px.length c1]) s.t from fun W x=>⟨_,rfl,hlog,(h1.shut).ext hh x⟩);have H1:=hid h1;have H2:=hid h2;have H3:=hid h3;have le2:=h2.le;have cap2:=h2.cap;have le3:=h3.le;have cap3:=h3.cap;have HS:=hid hsm;clear q0 hv hlog h1 h2 h3 hsm;unfold Scn.okB
 obtain ⟨b1,hb1⟩:∃b,s.c.okB=b:=⟨_,rfl⟩
 obtain ⟨b2,hb2⟩:∃b,s.t.okB=b:=⟨_,rfl⟩
 obtain ⟨b3,hb3⟩:∃b,inB (s.ps.length:Int) 1 3=b:=⟨_,rfl⟩
 obtain ⟨b5,hb5⟩:∃b,sideB s.side=b:=⟨_,rfl⟩
 have C1:=hid hb1;have C2:=hid hb2;have C3:=hid hb3;have C5:=hid (show ∀W:World,Calls Tryz.prog 98 #[.int .i64 s.side] W fun e w'=>e = .returned (.bool b5)∧Ext W w' from fun W=>hb5▸iSideOk_any s.side W);rw [hb1,hb2,hb3,hb5];clear hb1 hb2 hb3 hb5
 cases b1
 case false=>
  go_enter Tryz.func42,Tryz.ntmps42;go_wp2_with fail;refine (iIsValidCamera_val C1.out _).mono ?_;rintro e w1 ⟨rfl,x1⟩;have X1:=hid (X0.out.trans x1);have R1:=hid (R0.out.ext x1);clear x1;go_wp2;go_ret;exact ⟨by simp [*],X1.out⟩
 cases b2
 case true.false=>
  go_enter Tryz.func42,Tryz.ntmps42;go_wp2_with fail;refine (iIsValidCamera_val C1.out _).mono ?_;rintro e w1 ⟨rfl,x1⟩;have X1:=hid (X0.out.trans x1);have R1:=hid (R0.out.ext x1);clear x1;have c7:=R1.out.cell 7 rfl;have c8:=R1.out.cell 8 rfl;have l1:=R1.out.lt;go_wp2_with fail;refine (iIsValidTexture_val C2.out lo hi _ _ (HT.out _ X1.out) (Nat.le_trans hh X1.out.size)).mono ?_;rintro e w2 ⟨rfl,x2⟩;have X2:=hid (X1.out.trans x2);have R2:=hid (R1.out.ext x2);clear x2 c7 c8 l1;go_wp2;go_ret;exact ⟨by simp [*],X2.out⟩
 cases b3
 case true.true.false=>
  go_enter Tryz.func42,Tryz.ntmps42;go_wp2_with fail;refine (iIsValidCamera_val C1.out _).mono ?_;rintro e w1 ⟨rfl,x1⟩;have X1:=hid (X0.out.trans x1);have R1:=hid (R0.out.ext x1);clear x1;have c7:=R1.out.cell 7 rfl;have c8:=R1.out.cell 8 rfl;have l1:=R1.out.lt;go_wp2_with fail;refine (iIsValidTexture_val C2.out lo hi _ _ (HT.out _ X1.out) (Nat.le_trans hh X1.out.size)).mono ?_;rintro e w2 ⟨rfl,x2⟩;have X2:=hid (X1.out.trans x2);have R2:=hid (R1.out.ext x2);clear x2 c7 c8 l1;have c9:=R2.out.cell 9 rfl;have c10:=R2.out.cell 10 rfl;have c11:=R2.out.cell 11 rfl;have l2:=R2.out.lt;go_wp2_with (go_at_call 54;refine (within_val C3.out _).mono ?_;rintro e w3 ⟨rfl,rfl⟩);go_ret;exact ⟨by simp [*],X2.out⟩
 rcases Nat.lt_or_ge 5 s.m with hm|hm
 ·have g0:decide (s.m≤5)=false:=by simp;omega
  go_enter Tryz.func42,Tryz.ntmps42;go_wp2_with fail;refine (iIsValidCamera_val C1.out _).mono ?_;rintro e w1 ⟨rfl,x1⟩;have X1:=hid (X0.out.trans x1);have R1:=hid (R0.out.ext x1);clear x1;have c7:=R1.out.cell 7 rfl;have c8:=R1.out.cell 8 rfl;have l1:=R1.out.lt;go_wp2_with fail;refine (iIsValidTexture_val C2.out lo hi _ _ (HT.out _ X1.out) (Nat.le_trans hh X1.out.size)).mono ?_;rintro e w2 ⟨rfl,x2⟩;have X2:=hid (X1.out.trans x2);have R2:=hid (R1.out.ext x2);clear x2 c7 c8 l1;have c9:=R2.out.cell 9 rfl;have c10:=R2.out.cell 10 rfl;have c11:=R2.out.cell 11 rfl;have l2:=R2.out.lt;go_wp2_with (go_at_call 54;refine (within_val C3.out _).mono ?_;rintro e w3 ⟨rfl,rfl⟩);go_ret;exact ⟨by simp [*],X2.out⟩
 have g0:decide (s.m≤5)=true:=by simp;omega
 cases b5
 case true.true.true.inr.false=>
  go_enter Tryz.func42,Tryz.ntmps42;go_wp2_with fail;refine (iIsValidCamera_val C1.out _).mono ?_;rintro e w1 ⟨rfl,x1⟩;have X1:=hid (X0.out.trans x1);have R1:=hid (R0.out.ext x1);clear x1;have c7:=R1.out.cell 7 rfl;have c8:=R1.out.cell 8 rfl;have l1:=R1.out.lt;go_wp2_with fail;refine (iIsValidTexture_val C2.out lo hi _ _ (HT.out _ X1.out) (Nat.le_trans hh X1.out.size)).mono ?_;rintro e w2 ⟨rfl,x2⟩;have X2:=hid (X1.out.trans x2);have R2:=hid (R1.out.ext x2);clear x2 c7 c8 l1;have c9:=R2.out.cell 9 rfl;have c10:=R2.out.cell 10 rfl;have c11:=R2.out.cell 11 rfl;have l2:=R2.out.lt;go_wp2_with (go_at_call 54;refine (within_val C3.out _).mono ?_;rintro e w3 ⟨rfl,rfl⟩);refine (C5.out _).mono ?_;rintro e w4 ⟨rfl,x4⟩;have X4:=hid (X2.out.trans x4);have R4:=hid (R2.out.ext x4);clear x4 c9 c10 c11 l2;go_wp2;go_ret;exact ⟨by simp [*],X4.out⟩
 go_enter Tryz.func42,Tryz.ntmps42;go_wp2_with fail;refine (iIsValidCamera_val C1.out _).mono ?_;rintro e w1 ⟨rfl,x1⟩;have X1:=hid (X0.out.trans x1);have R1:=hid (R0.out.ext x1);clear x1;have c7:=R1.out.cell 7 rfl;have c8:=R1.out.cell 8 rfl;have l1:=R1.out.lt;go_wp2_with fail;refine (iIsValidTexture_val C2.out lo hi _ _ (HT.out _ X1.out) (Nat.le_trans hh X1.out.size)).mono ?_;rintro e w2 ⟨rfl,x2⟩;have X2:=hid (X1.out.trans x2);have R2:=hid (R1.out.ext x2);clear x2 c7 c8 l1;have c9:=R2.out.cell 9 rfl;have c10:=R2.out.cell 10 rfl;have c11:=R2.out.cell 11 rfl;have l2:=R2.out.lt;go_wp2_with (go_at_call 54;refine (within_val C3.out _).mono ?_;rintro e w3 ⟨rfl,rfl⟩);refine (C5.out _).mono ?_;rintro e w4 ⟨rfl,x4⟩;have X4:=hid (X2.out.trans x4);have R4:=hid (R2.out.ext x4);clear x4 c9 c10 c11 l2;have c10:=R4.out.cell 9 rfl;have l4:=R4.out.lt;go_wp2_with fail;clear c10 l4
 go_loopw [39] (fun i wr=>∃k:Nat,k≤s.ps.length∧i = .int .i64 (k:Nat)∧Ext w wr∧Blk wr w.heap.size 31 [.int .i64 s.c.w,.int .i64 s.c.h,.int .i64 s.c.zoom,.int .i64 s.c.near,.bool s.c.deep,.int .i64 s.c.lens,.int .i64 s.c.focus,.int .i64 s.t.log,.slice a1 s.t.px.length c1,.slice a2 s.ps.length c2,.slice a3 s.m c3,.int .i64 s.side]∧∀q (hq:q<k) (hq2:q<s.ps.length),s.ps[q].chkB=true) (fun i _=>s.ps.length - (intOf i).toNat)
 case atStart=>exact ⟨0,by omega,rfl,X4.out,R4.out,fun q hq=>absurd hq (by omega)⟩
 case round=>
  obtain ⟨k,hk,rfl,hx,hb,hc⟩:=hrel;have HX:=hid hx;have HB:=hid hb;have HC:=hid hc
  rcases Nat.lt_or_ge k s.ps.length with hlt|hge
  ·obtain ⟨b,off,e1,d1,e2,d2,rfl,hbw,hbr,k1,k2,hR⟩:=H2.out.at hlt hx hh
   have HR:=hid hR;have hz:=hx.size;have HL:=hid hlt;clear hx hb hc hR X1 X2 X4 R1 R2 R4;go_wp2_with fail
   cases hcb:(s.ps[k]'hlt).chkB
   ·refine (iIsOk_val hcb lo hi _ _ (HR.out.ext (by omega) (show Ext wr (wr.alloc (.cells #[.slice e1 (s.ps[k]'hlt).ns.length d1,.slice e2 (s.ps[k]'hlt).gs.length d2] 132)) from X_)) (by simp;omega) (HS.out _ (List.getElem_mem hlt)).1 (HS.out _ (List.getElem_mem hlt)).2.2).mono ?_
    rintro e w5 ⟨rfl,x5⟩;have y5:Ext wr w5:=Ext.trans (show Ext wr (wr.alloc (.cells #[.slice e1 (s.ps[k]'hlt).ns.length d1,.slice e2 (s.ps[k]'hlt).gs.length d2] 132)) from X_) x5;have hall:s.ps.all Prg.chkB=false:=List.all_eq_false.2 ⟨_,List.getElem_mem hlt,by simp [hcb]⟩;have X5:=HX.out.trans y5;clear hcb;go_wp2;go_ret;exact ⟨by rw [hall];simp,X5⟩
   ·refine (iIsOk_val hcb lo hi _ _ (HR.out.ext (by omega) (show Ext wr (wr.alloc (.cells #[.slice e1 (s.ps[k]'hlt).ns.length d1,.slice e2 (s.ps[k]'hlt).gs.length d2] 132)) from X_)) (by simp;omega) (HS.out _ (List.getElem_mem hlt)).1 (HS.out _ (List.getElem_mem hlt)).2.2).mono ?_
    rintro e w5 ⟨rfl,x5⟩;have y5:Ext wr w5:=Ext.trans (show Ext wr (wr.alloc (.cells #[.slice e1 (s.ps[k]'hlt).ns.length d1,.slice e2 (s.ps[k]'hlt).gs.length d2] 132)) from X_) x5;have X5:=hid (HX.out.trans y5);have R5:=hid (HB.out.ext y5);have HCB:=hid hcb;clear hcb;go_wp2;go_roundw
    case rel=>
     refine ⟨k+1,by omega,by go_num,X5.out,R5.out,fun q hq hq2=>?_⟩
     rcases Nat.lt_or_ge q k with h|h
     ·exact HC.out q h hq2
     ·obtain rfl:q=k:=by omega
      exact HCB.out
    case measure=>simp [intOf];omega
  ·obtain rfl:k=s.ps.length:=by omega
   have hall:s.ps.all Prg.chkB=true:=List.all_eq_true.2 (fun x hx=>by obtain ⟨q,hq,rfl⟩:=List.getElem_of_mem hx;exact hc q hq hq);have HA:=hid hall;have c11:=hb.cell 10 rfl;have lb:=hb.lt;clear hx hb hc hall X1 X2 X4 R1 R2 R4;go_wp2_with fail;clear c11 lb
   go_loopw [50] (fun i wr=>∃k:Nat,k≤s.m∧i = .int .i64 (k:Nat)∧Ext w wr∧Blk wr w.heap.size 31 [.int .i64 s.c.w,.int .i64 s.c.h,.int .i64 s.c.zoom,.int .i64 s.c.near,.bool s.c.deep,.int .i64 s.c.lens,.int .i64 s.c.focus,.int .i64 s.t.log,.slice a1 s.t.px.length c1,.slice a2 s.ps.length c2,.slice a3 s.m c3,.int .i64 s.side]∧∀q,q<k→s.srfB q=true) (fun i _=>s.m - (intOf i).toNat)
   case atStart=>exact ⟨0,by omega,rfl,HX.out,HB.out,fun q hq=>absurd hq (by omega)⟩
   case round=>
    obtain ⟨j,hj,rfl,hx,hb,hc⟩:=hrel;have HX:=hid hx;have HB:=hid hb;have HC:=hid hc
    rcases Nat.lt_or_ge j s.m with hlt|hge
    ·obtain ⟨b,off,rfl,hb1,hb2,hcell⟩:=H3.out.at hlt (by decide)
     have bw:b<w.heap.size:=by omega
     have hcs:wr.rangeAt b (off+j*26) ((List.range 26).map fun q=>.int .i64 (s.F (j*26+q))):=by
      intro q v hq;obtain ⟨h1,h2⟩:=List.getElem?_eq_some_iff.1 hq;simp only [List.length_map,List.length_range] at h1;simp only [List.getElem_map,List.getElem_range] at h2;subst h2;exact (hx.cells.1 b _ bw).trans (hcell q h1)
     change wr.rangeAt b (off+j*26) [.int .i64 (s.st j 0),.int .i64 (s.st j 1),.int .i64 (s.st j 2),.int .i64 (s.st j 3),.int .i64 (s.st j 4),.int .i64 (s.st j 5),.int .i64 (s.st j 6),.int .i64 (s.st j 7),.int .i64 (s.st j 8),.int .i64 (s.st j 9),.int .i64 (s.st j 10),.int .i64 (s.st j 11),.int .i64 (s.en j 0),.int .i64 (s.en j 1),.int .i64 (s.en j 2),.int .i64 (s.en j 3),.int .i64 (s.en j 4),.int .i64 (s.en j 5),.int .i64 (s.en j 6),.int .i64 (s.en j 7),.int .i64 (s.en j 8),.int .i64 (s.en j 9),.int .i64 (s.en j 10),.int .i64 (s.en j 11),.int .i64 (s.sh j),.int .i64 (s.rt j)] at hcs;have HCS:=hid hcs
     have hbx:World.rangeAt (wr.alloc (.cells #[.int .i64 (s.st j 0),.int .i64 (s.st j 1),.int .i64 (s.st j 2),.int .i64 (s.st j 3),.int .i64 (s.st j 4),.int .i64 (s.st j 5),.int .i64 (s.st j 6),.int .i64 (s.st j 7),.int .i64 (s.st j 8),.int .i64 (s.st j 9),.int .i64 (s.st j 10),.int .i64 (s.st j 11),.int .i64 (s.en j 0),.int .i64 (s.en j 1),.int .i64 (s.en j 2),.int .i64 (s.en j 3),.int .i64 (s.en j 4),.int .i64 (s.en j 5),.int .i64 (s.en j 6),.int .i64 (s.en j 7),.int .i64 (s.en j 8),.int .i64 (s.en j 9),.int .i64 (s.en j 10),.int .i64 (s.en j 11),.int .i64 (s.sh j),.int .i64 (s.rt j)] 42)) wr.heap.size 0 [.int .i64 (s.st j 0),.int .i64 (s.st j 1),.int .i64 (s.st j 2),.int .i64 (s.st j 3),.int .i64 (s.st j 4),.int .i64 (s.st j 5),.int .i64 (s.st j 6),.int .i64 (s.st j 7),.int .i64 (s.st j 8),.int .i64 (s.st j 9),.int .i64 (s.st j 10),.int .i64 (s.st j 11),.int .i64 (s.en j 0),.int .i64 (s.en j 1),.int .i64 (s.en j 2),.int .i64 (s.en j 3),.int .i64 (s.en j 4),.int .i64 (s.en j 5),.int .i64 (s.en j 6),.int .i64 (s.en j 7),.int .i64 (s.en j 8),.int .i64 (s.en j 9),.int .i64 (s.en j 10),.int .i64 (s.en j 11),.int .i64 (s.sh j),.int .i64 (s.rt j)]:=fun q v hq=>by rw [Nat.zero_add];exact (Blk.new wr 42 [.int .i64 (s.st j 0),.int .i64 (s.st j 1),.int .i64 (s.st j 2),.int .i64 (s.st j 3),.int .i64 (s.st j 4),.int .i64 (s.st j 5),.int .i64 (s.st j 6),.int .i64 (s.st j 7),.int .i64 (s.st j 8),.int .i64 (s.st j 9),.int .i64 (s.st j 10),.int .i64 (s.st j 11),.int .i64 (s.en j 0),.int .i64 (s.en j 1),.int .i64 (s.en j 2),.int .i64 (s.en j 3),.int .i64 (s.en j 4),.int .i64 (s.en j 5),.int .i64 (s.en j 6),.int .i64 (s.en j 7),.int .i64 (s.en j 8),.int .i64 (s.en j 9),.int .i64 (s.en j 10),.int .i64 (s.en j 11),.int .i64 (s.sh j),.int .i64 (s.rt j)]).cell q hq
     have HBX:=hid hbx;clear hcs hbx;have b9:=hb.cell 9 rfl;have bl:=hb.lt;have bl2:b<wr.heap.size:=Nat.lt_of_lt_of_le bw hx.size;clear hx hb hc hcell;go_upto_region 12 with (first|(show wpList _ _ _ [_,_,_] _ _;refine wpList_load_mid rfl _ _ rfl b (off+j*26) rfl [.int .i64 (s.st j 0),.int .i64 (s.st j 1),.int .i64 (s.st j 2),.int .i64 (s.st j 3),.int .i64 (s.st j 4),.int .i64 (s.st j 5),.int .i64 (s.st j 6),.int .i64 (s.st j 7),.int .i64 (s.st j 8),.int .i64 (s.st j 9),.int .i64 (s.st j 10),.int .i64 (s.st j 11),.int .i64 (s.en j 0),.int .i64 (s.en j 1),.int .i64 (s.en j 2),.int .i64 (s.en j 3),.int .i64 (s.en j 4),.int .i64 (s.en j 5),.int .i64 (s.en j 6),.int .i64 (s.en j 7),.int .i64 (s.en j 8),.int .i64 (s.en j 9),.int .i64 (s.en j 10),.int .i64 (s.en j 11),.int .i64 (s.sh j),.int .i64 (s.rt j)] _ HCS.out Tryz.underlying42 rfl info_srf ?_)|(show wpList _ _ _ [_] _ _;refine wpList_store_fresh _ _ _ rfl 42 (.tmp 6) (.tmp 53) rfl rfl #[.int .i64 (s.st j 0),.int .i64 (s.st j 1),.int .i64 (s.st j 2),.int .i64 (s.st j 3),.int .i64 (s.st j 4),.int .i64 (s.st j 5),.int .i64 (s.st j 6),.int .i64 (s.st j 7),.int .i64 (s.st j 8),.int .i64 (s.st j 9),.int .i64 (s.st j 10),.int .i64 (s.st j 11),.int .i64 (s.en j 0),.int .i64 (s.en j 1),.int .i64 (s.en j 2),.int .i64 (s.en j 3),.int .i64 (s.en j 4),.int .i64 (s.en j 5),.int .i64 (s.en j 6),.int .i64 (s.en j 7),.int .i64 (s.en j 8),.int .i64 (s.en j 9),.int .i64 (s.en j 10),.int .i64 (s.en j 11),.int .i64 (s.sh j),.int .i64 (s.rt j)] wr.heap.size rfl rfl rfl (by kernel_rfl) (by kernel_rfl) (by kernel_rfl) ?_));go_wp2_with (show wpList _ _ _ [_,_,_,_,_,_] _ _;refine wpList_load_mid rfl _ _ rfl wr.heap.size 0 rfl [.int .i64 (s.st j 0),.int .i64 (s.st j 1),.int .i64 (s.st j 2),.int .i64 (s.st j 3),.int .i64 (s.st j 4),.int .i64 (s.st j 5),.int .i64 (s.st j 6),.int .i64 (s.st j 7),.int .i64 (s.st j 8),.int .i64 (s.st j 9),.int .i64 (s.st j 10),.int .i64 (s.st j 11),.int .i64 (s.en j 0),.int .i64 (s.en j 1),.int .i64 (s.en j 2),.int .i64 (s.en j 3),.int .i64 (s.en j 4),.int .i64 (s.en j 5),.int .i64 (s.en j 6),.int .i64 (s.en j 7),.int .i64 (s.en j 8),.int .i64 (s.en j 9),.int .i64 (s.en j 10),.int .i64 (s.en j 11),.int .i64 (s.sh j),.int .i64 (s.rt j)] _ HBX.out Tryz.underlying42 rfl info_srf ?_);refine (iIsValidSurface_any (s.st j) (s.en j) (s.sh j) (s.rt j) s.ps.length _).mono ?_;rintro e w5 ⟨rfl,x5⟩;have y5:Ext wr w5:=Ext.trans (show Ext wr (wr.alloc (.cells #[.int .i64 (s.st j 0),.int .i64 (s.st j 1),.int .i64 (s.st j 2),.int .i64 (s.st j 3),.int .i64 (s.st j 4),.int .i64 (s.st j 5),.int .i64 (s.st j 6),.int .i64 (s.st j 7),.int .i64 (s.st j 8),.int .i64 (s.st j 9),.int .i64 (s.st j 10),.int .i64 (s.st j 11),.int .i64 (s.en j 0),.int .i64 (s.en j 1),.int .i64 (s.en j 2),.int .i64 (s.en j 3),.int .i64 (s.en j 4),.int .i64 (s.en j 5),.int .i64 (s.en j 6),.int .i64 (s.en j 7),.int .i64 (s.en j 8),.int .i64 (s.en j 9),.int .i64 (s.en j 10),.int .i64 (s.en j 11),.int .i64 (s.sh j),.int .i64 (s.rt j)] 42)) from X_) x5;have X5:=hid (HX.out.trans y5);have R5:=hid (HB.out.ext y5)
     cases hcb:srfB (s.st j) (s.en j) (s.sh j) (s.rt j) s.ps.length
     ·have hall:(List.range s.m).all s.srfB=false:=List.all_eq_false.2 ⟨j,List.mem_range.2 hlt,by unfold Scn.srfB;simp [hcb]⟩
      clear hcb;go_wp2;go_ret;exact ⟨by rw [hall];simp,X5.out⟩
     ·have HCB:=hid hcb
      clear hcb;go_wp2;go_roundw
      case rel=>
       refine ⟨j+1,by omega,by go_num,X5.out,R5.out,fun q hq=>?_⟩
       rcases Nat.lt_or_ge q j with h|h
       ·exact HC.out q h
       ·obtain rfl:q=j:=by omega
        exact HCB.out
      case measure=>simp [intOf];omega
    ·obtain rfl:j=s.m:=by omega
     have hall:(List.range s.m).all s.srfB=true:=List.all_eq_true.2 (fun q hq=>HC.out q (List.mem_range.1 hq));go_wp2;go_ret;exact ⟨by rw [hall,HA.out,g0];rfl,HX.out⟩
section
open Go.RowKit Go.Maps Go.WideMaps
theorem insOf_val {p:Prg} {op num:Int} {s:ByteArray} {us:List Int} {o n:Int} {t:ByteArray} (h:insOf p ⟨op,s,num,us⟩=⟨o,t,n⟩):(insOf p ⟨op,s,num,us⟩).val = .agg #[.int .i64 o,.string t,.int .i64 n]:=by rw [h];rfl
theorem iInsOf_any (p:Prg) (hK:p.K) (j:Nat) (op num:Int) (s:ByteArray) (ra:List Int) (hx:p.ns[j]?=some ⟨op,s,num,ra⟩) (sa:Option Addr) (sn sc b:Nat) (w:World) (hM:FM w b p.gs p.gs.length) (hs:s.size≤maxLen) (hgl:p.gs.length≤1048576) :
  Calls Tryz.prog 156 #[.agg #[.int .i64 op,.string s,.int .i64 num,.slice sa sn sc],.map (some b)] w fun e w'=>e = .returned (insOf p ⟨op,s,num,ra⟩).val∧Ext w w':=by
 have HM:=hid hM;have nF:=nodeF_op (hK.v.nd j _ hx).1;simp only at nF;have HX:=hid hx;clear hM hx
 by_cases o1:op=1
 ·subst o1
  clear nF;have hi:insOf p ⟨1,s,num,ra⟩=⟨1,⟨#[]⟩,num⟩:=rfl;rw [insOf_val hi];clear hi;have NB:=hid (Blk.new w 243 [.int .i64 (1),.string s,.int .i64 num,.slice sa sn sc]);go_enter Tryz.func156,Tryz.ntmps156;go_wp2_with fail;refine (iExprOf_any (1) s num _ _).mono ?_;rintro e w1 ⟨rfl,x1⟩;have N1:=NB.out.ext (show Ext _ ((w.alloc (.cells #[.int .i64 (1),.string s,.int .i64 num,.slice sa sn sc] 243)).alloc (.cells #[.int .i64 0,.string ⟨#[]⟩,.int .i64 0] 197)) from X_);have R1:=Blk.new (w.alloc (.cells #[.int .i64 (1),.string s,.int .i64 num,.slice sa sn sc] 243)) 197 [.int .i64 0,.string ⟨#[]⟩,.int .i64 0];rw [World.size_alloc] at R1;have X1:Ext w w1:=Ext.trans X_ x1;have N2:=N1.ext x1;have R2:=R1.ext x1;have M2:=hid (HM.out.ext X1);obtain ⟨n0,n1,n2⟩:=N2.q3;obtain ⟨r0,r1,r2⟩:=R2.q3;have f0:=R2.free 0;have f1:=R2.free 1;have f2:=R2.free 2;have zn:=N2.lt;have zr:=R2.lt;clear N1 R1 N2 R2 x1;unfold exprV;rw [if_neg (by decide),if_neg (by decide)];go_wp2;refine bodyPost_ret (v:=.agg #[.int .i64 (1),.string ⟨#[]⟩,.int .i64 (num)]) (by simp [results,Tryz.results156,go_sem, *]) rfl ?_;exact ⟨rfl,S_⟩
 by_cases o3:op=3
 ·subst o3
  clear nF;have hi:insOf p ⟨3,s,num,ra⟩=⟨5,⟨#[]⟩,3⟩:=rfl;rw [insOf_val hi];clear hi;have NB:=hid (Blk.new w 243 [.int .i64 (3),.string s,.int .i64 num,.slice sa sn sc]);go_enter Tryz.func156,Tryz.ntmps156;go_wp2_with fail;refine (iExprOf_any (3) s num _ _).mono ?_;rintro e w1 ⟨rfl,x1⟩;have N1:=NB.out.ext (show Ext _ ((w.alloc (.cells #[.int .i64 (3),.string s,.int .i64 num,.slice sa sn sc] 243)).alloc (.cells #[.int .i64 0,.string ⟨#[]⟩,.int .i64 0] 197)) from X_);have R1:=Blk.new (w.alloc (.cells #[.int .i64 (3),.string s,.int .i64 num,.slice sa sn sc] 243)) 197 [.int .i64 0,.string ⟨#[]⟩,.int .i64 0];rw [World.size_alloc] at R1;have X1:Ext w w1:=Ext.trans X_ x1;have N2:=N1.ext x1;have R2:=R1.ext x1;have M2:=hid (HM.out.ext X1);obtain ⟨n0,n1,n2⟩:=N2.q3;obtain ⟨r0,r1,r2⟩:=R2.q3;have f0:=R2.free 0;have f1:=R2.free 1;have f2:=R2.free 2;have zn:=N2.lt;have zr:=R2.lt;clear N1 R1 N2 R2 x1;unfold exprV;rw [if_neg (by decide),if_neg (by decide)];go_wp2;refine bodyPost_ret (v:=.agg #[.int .i64 (5),.string ⟨#[]⟩,.int .i64 (3)]) (by simp [results,Tryz.results156,go_sem, *]) rfl ?_;exact ⟨rfl,S_⟩
 by_cases o2:op=2
 ·subst o2
  have h0:=as_vv (.agg #[.int .i64 2,.string s,.int .i64 num,.slice sa sn sc]);clear nF
  cases hv:isVar s
  ·obtain ⟨i,hi0,hik⟩:=hK.name j _ HX.out rfl hv
   simp only at hi0;have HI:=hid hi0;have hil:=(frst_some hi0).1
   have hix:ixOf p s=i:=by unfold ixOf;rw [hi0];rfl
   have HV:=hid hv;clear hi0
   have hi:insOf p ⟨2,s,num,ra⟩=⟨3,⟨#[]⟩,(i:Nat)⟩:=by unfold insOf;simp [hv,hix]
   rw [insOf_val hi];clear hi;clear hv hix;have NB:=hid (Blk.new w 243 [.int .i64 (2),.string s,.int .i64 num,.slice sa sn sc]);go_enter Tryz.func156,Tryz.ntmps156;go_wp2_with fail;refine (iExprOf_any (2) s num _ _).mono ?_;rintro e w1 ⟨rfl,x1⟩;have N1:=NB.out.ext (show Ext _ ((w.alloc (.cells #[.int .i64 (2),.string s,.int .i64 num,.slice sa sn sc] 243)).alloc (.cells #[.int .i64 0,.string ⟨#[]⟩,.int .i64 0] 197)) from X_);have R1:=Blk.new (w.alloc (.cells #[.int .i64 (2),.string s,.int .i64 num,.slice sa sn sc] 243)) 197 [.int .i64 0,.string ⟨#[]⟩,.int .i64 0];rw [World.size_alloc] at R1;have X1:Ext w w1:=Ext.trans X_ x1;have N2:=N1.ext x1;have R2:=R1.ext x1;have M2:=hid (HM.out.ext X1);obtain ⟨n0,n1,n2⟩:=N2.q3;obtain ⟨r0,r1,r2⟩:=R2.q3;have f0:=R2.free 0;have f1:=R2.free 1;have f2:=R2.free 2;have zn:=N2.lt;have zr:=R2.lt;clear N1 R1 N2 R2 x1;unfold exprV;rw [if_pos rfl];go_wp2_with (first|(at_lookup;refine wpList_first _ rfl _ _ rfl _ _ _ rfl (M2.out.ext X_) _ hs rfl _ HI.out ?_)|(go_at_call 218;refine (iIsVariable_val HV.out _).mono ?_;rintro e w3 ⟨rfl,rfl⟩));refine bodyPost_ret (v:=.agg #[.int .i64 (3),.string ⟨#[]⟩,.int .i64 ((i:Nat))]) (by simp [results,Tryz.results156,go_sem, *]) rfl ?_;exact ⟨rfl,S_⟩
  ·have HV:=hid hv
   have hi:insOf p ⟨2,s,num,ra⟩=⟨2,s,0⟩:=by unfold insOf;simp [hv]
   rw [insOf_val hi];clear hi;clear hv;have NB:=hid (Blk.new w 243 [.int .i64 (2),.string s,.int .i64 num,.slice sa sn sc]);go_enter Tryz.func156,Tryz.ntmps156;go_wp2_with fail;refine (iExprOf_any (2) s num _ _).mono ?_;rintro e w1 ⟨rfl,x1⟩;have N1:=NB.out.ext (show Ext _ ((w.alloc (.cells #[.int .i64 (2),.string s,.int .i64 num,.slice sa sn sc] 243)).alloc (.cells #[.int .i64 0,.string ⟨#[]⟩,.int .i64 0] 197)) from X_);have R1:=Blk.new (w.alloc (.cells #[.int .i64 (2),.string s,.int .i64 num,.slice sa sn sc] 243)) 197 [.int .i64 0,.string ⟨#[]⟩,.int .i64 0];rw [World.size_alloc] at R1;have X1:Ext w w1:=Ext.trans X_ x1;have N2:=N1.ext x1;have R2:=R1.ext x1;have M2:=hid (HM.out.ext X1);obtain ⟨n0,n1,n2⟩:=N2.q3;obtain ⟨r0,r1,r2⟩:=R2.q3;have f0:=R2.free 0;have f1:=R2.free 1;have f2:=R2.free 2;have zn:=N2.lt;have zr:=R2.lt;clear N1 R1 N2 R2 x1;unfold exprV;rw [if_pos rfl];go_wp2_with (go_at_call 218;refine (iIsVariable_val HV.out _).mono ?_;rintro e w3 ⟨rfl,rfl⟩);refine bodyPost_ret (v:=.agg #[.int .i64 (2),.string s,.int .i64 (0)]) (by simp [results,Tryz.results156,go_sem, *]) rfl ?_;exact ⟨rfl,S_⟩
 by_cases o8:op=8
 ·subst o8
  have h0:=as_cv (.agg #[.int .i64 8,.string s,.int .i64 num,.slice sa sn sc]);have h1:=as_cc (.agg #[.int .i64 8,.string s,.int .i64 num,.slice sa sn sc]);clear nF;have hi:insOf p ⟨8,s,num,ra⟩=⟨7,s,0⟩:=rfl;rw [insOf_val hi];clear hi;have NB:=hid (Blk.new w 243 [.int .i64 (8),.string s,.int .i64 num,.slice sa sn sc]);go_enter Tryz.func156,Tryz.ntmps156;go_wp2_with fail;refine (iExprOf_any (8) s num _ _).mono ?_;rintro e w1 ⟨rfl,x1⟩;have N1:=NB.out.ext (show Ext _ ((w.alloc (.cells #[.int .i64 (8),.string s,.int .i64 num,.slice sa sn sc] 243)).alloc (.cells #[.int .i64 0,.string ⟨#[]⟩,.int .i64 0] 197)) from X_);have R1:=Blk.new (w.alloc (.cells #[.int .i64 (8),.string s,.int .i64 num,.slice sa sn sc] 243)) 197 [.int .i64 0,.string ⟨#[]⟩,.int .i64 0];rw [World.size_alloc] at R1;have X1:Ext w w1:=Ext.trans X_ x1;have N2:=N1.ext x1;have R2:=R1.ext x1;have M2:=hid (HM.out.ext X1);obtain ⟨n0,n1,n2⟩:=N2.q3;obtain ⟨r0,r1,r2⟩:=R2.q3;have f0:=R2.free 0;have f1:=R2.free 1;have f2:=R2.free 2;have zn:=N2.lt;have zr:=R2.lt;clear N1 R1 N2 R2 x1;unfold exprV;rw [if_neg (by decide),if_pos rfl];go_wp2;refine bodyPost_ret (v:=.agg #[.int .i64 (7),.string s,.int .i64 (0)]) (by simp [results,Tryz.results156,go_sem, *]) rfl ?_;exact ⟨rfl,S_⟩
 have h0:=as_pv (.agg #[.int .i64 op,.string s,.int .i64 num,.slice sa sn sc]);have h1:=as_pc (.agg #[.int .i64 op,.string s,.int .i64 num,.slice sa sn sc]);have b1:(op==1)=false:=beq_eq_false_iff_ne.2 o1;have b3:(op==3)=false:=beq_eq_false_iff_ne.2 o3
 have hi:insOf p ⟨op,s,num,ra⟩=⟨6,⟨#[]⟩,op⟩:=by unfold insOf;simp [o1,o2,o3,o8]
 rw [insOf_val hi];clear hi;have NB:=hid (Blk.new w 243 [.int .i64 (op),.string s,.int .i64 num,.slice sa sn sc]);go_enter Tryz.func156,Tryz.ntmps156;go_wp2_with fail;refine (iExprOf_any (op) s num _ _).mono ?_;rintro e w1 ⟨rfl,x1⟩;have N1:=NB.out.ext (show Ext _ ((w.alloc (.cells #[.int .i64 (op),.string s,.int .i64 num,.slice sa sn sc] 243)).alloc (.cells #[.int .i64 0,.string ⟨#[]⟩,.int .i64 0] 197)) from X_);have R1:=Blk.new (w.alloc (.cells #[.int .i64 (op),.string s,.int .i64 num,.slice sa sn sc] 243)) 197 [.int .i64 0,.string ⟨#[]⟩,.int .i64 0];rw [World.size_alloc] at R1;have X1:Ext w w1:=Ext.trans X_ x1;have N2:=N1.ext x1;have R2:=R1.ext x1;have M2:=hid (HM.out.ext X1);obtain ⟨n0,n1,n2⟩:=N2.q3;obtain ⟨r0,r1,r2⟩:=R2.q3;have f0:=R2.free 0;have f1:=R2.free 1;have f2:=R2.free 2;have zn:=N2.lt;have zr:=R2.lt;clear N1 R1 N2 R2 x1;unfold exprV;rw [if_neg o2,if_neg o8];go_wp2;refine bodyPost_ret (v:=.agg #[.int .i64 (6),.string ⟨#[]⟩,.int .i64 (op)]) (by simp [results,Tryz.results156,go_sem, *]) rfl ?_;exact ⟨rfl,S_⟩
end
section
open Go.RowKit Go.Maps Go.WideMaps
def Ins.cs (x:Ins):List Value:=[.int .i64 x.op,.string x.name,.int .i64 x.num]
def OwnInss (lo:Nat) (w:World) (v:Value) (xs:List Ins):Prop:=OwnG Ins.cs lo 197 3 w v xs
theorem info_InsT:(Tryz.prog.info? 197).map (fun i=>(i.zero,i.size,i.bytes))=some (some (.agg #[.int .i64 0,.string ⟨#[]⟩,.int .i64 0]),3,32):=by kernel_rfl
theorem wpList_append_insn (w:World) {ops:Array Oper} {rest:List Oper} {o:Oper} {a:Act} {Q:Exit→Act→World→Prop} (hg:o.guard=none) (s x:Operand)
  (hop:o.op=Op.call { callee:=Callee.builtin Builtin.append,args:=#[s,x],argTypes:=#[123,123] }) (lo:Nat) (v:Value) (xs:List Ins) (hs:a.eval s=v) (hown:OwnInss lo w v xs)
  (y:Ins) (b:Nat) (hx:a.eval x = .slice (some ⟨b,0,none⟩) 1 1) (hcell:w.cell? ⟨b,0,none⟩=some (.int .i64 y.op)∧w.cell? ⟨b,1,none⟩=some (.string y.name)∧w.cell? ⟨b,2,none⟩=some (.int .i64 y.num)) (hlen:xs.length<1000000) (hlo:lo≤w.heap.size)
  (hK:∀v' w',OwnInss lo w' v' (xs++[y])→w.grownBy w' v.ownBlock→wpList Tryz.prog ops Q rest (a.put o.dst v') w'):wpList Tryz.prog ops Q (o::rest) a w:=by
 refine wpList_append_elt Ins.cs 197 3 32 _ w hg s x 123 hop Tryz.underlying123 info_InsT rfl (by decide) (by decide) (fun _=>rfl) lo v xs hs hown y b hx ?_ ?_ hlen hlo hK
 ·intro j hj
  obtain ⟨c0,c1,c2⟩:=hcell
  rcases (show j=0∨j=1∨j=2 by omega) with rfl|rfl|rfl
  ·exact c0
  ·exact c1
  ·exact c2
 ·intro u hu
  simp only [Ins.cs,List.mem_cons,List.not_mem_nil,or_false] at hu
  rcases hu with rfl|rfl|rfl <;> rfl
theorem OwnG.rowC {α : Type} {cs : α→List Value} {lo:Nat} {e:TypeId} {sz:Nat} {w:World} {v:Value} {xs:List α} (h:OwnG cs lo e sz w v xs):∀k,v.ownBlock=some k→lo≤k∧∃c,w.heap[k]?=some (.cells c e (0,0)):=by
 intro k hk
 rcases h.2 with ⟨rfl,h4⟩|⟨g,cap,cur,rfl,hb,hg,_⟩
 ·cases hk
 ·simp only [Value.ownBlock,Option.some.injEq] at hk
  subst hk;exact ⟨hb,cur,hg⟩
theorem KN.strs {lo B:Nat} {e:TypeId} {lo':Nat} {w w':World} {v:Value} {xs:List ByteArray} (h:OwnStrs lo' w v xs) (k:KN lo B e w w') (hB:∀c,w.heap[B]?≠some (.cells c 9 (0,0))) (he:9≠e):OwnStrs lo' w' v xs:=by
 obtain ⟨h1,h2⟩:=h;refine ⟨h1,?_⟩
 rcases h2 with hn|⟨g,cap,cur,hv,hb,hg,r⟩
 ·exact .inl hn
 ·refine .inr ⟨g,cap,cur,hv,hb,?_,r⟩
  exact (k.block g (Array.getElem?_eq_some_iff.1 hg).1 (.inr ⟨fun e1=>hB cur (e1▸hg),fun c' h'=>by rw [hg] at h';simp only [Option.some.injEq,Obj.cells.injEq] at h';exact he h'.2.1⟩)).trans hg
structure TB (p:Prg) (P T C M mb lo:Nat) (a1 a2:Option Addr) (c1 c2:Nat) (w:World) (xs:List Ins) (iv:Value) (ls:List ByteArray) (lv:Value):Prop where
 prog:Blk w P 132 [.slice a1 p.ns.length c1,.slice a2 p.gs.length c2]
 fn:Blk w T 241 [.func (.func 155) #[] #[.pointer (some ⟨P,0,none⟩),.pointer (some ⟨T,0,none⟩),.pointer (some ⟨C,0,none⟩),.pointer (some ⟨M,0,none⟩)]]
 code:Blk w C 126 [iv,lv]
 mp:Blk w M 239 [.map (some mb)]
 map:FM w mb p.gs p.gs.length
 ins:OwnInss lo w iv xs
 loc:OwnStrs lo w lv ls
 low:lo≤C
theorem Blk.neq {w:World} {A B:Nat} {cs ds:List Value} {t u:TypeId} (h:Blk w A t cs) (k:Blk w B u ds) (ht:t≠u):A≠B:=fun e=>by
 subst e;unfold Blk at h k;rw [h] at k;simp only [Option.some.injEq,Obj.cells.injEq] at k;exact ht k.2.1
theorem Blk.noCells {w:World} {A:Nat} {cs:List Value} {t e:TypeId} (h:Blk w A t cs) (he:e≠t):∀c,w.heap[A]?≠some (.cells c e (0,0)):=fun c hc=>by
 unfold Blk at h;rw [h] at hc;simp only [Option.some.injEq,Obj.cells.injEq] at hc;exact he hc.2.1.symm
theorem KN.fm {lo B:Nat} {e:TypeId} {w w':World} {b k:Nat} {gs:List Asg} {ds:List Value} {u:TypeId} (h:FM w b gs k) (kn:KN lo B e w w') (hB:Blk w B u ds):FM w' b gs k:=by
 have hl:=h.lt;have h':=h;obtain ⟨n,D,_,⟨es,clock,h1,_⟩,_⟩:=h';refine h.of_block (kn.block b hl (.inr ⟨fun e1=>?_,fun c hc=>?_⟩))
 ·subst e1
  unfold Blk at hB;rw [hB] at h1;cases h1
 ·rw [hc] at h1
  cases h1
theorem TB.ext {p:Prg} {P T C M mb lo:Nat} {a1 a2:Option Addr} {c1 c2:Nat} {w w':World} {xs:List Ins} {iv:Value} {ls:List ByteArray} {lv:Value} (h:TB p P T C M mb lo a1 a2 c1 c2 w xs iv ls lv) (x:Ext w w'):TB p P T C M mb lo a1 a2 c1 c2 w' xs iv ls lv:=
 ⟨h.prog.ext x,h.fn.ext x,h.code.ext x,h.mp.ext x,h.map.ext x,OwnG.ext h.ins x,h.loc.ext x,h.low⟩
theorem TB.kn {p:Prg} {P T C M mb lo:Nat} {a1 a2:Option Addr} {c1 c2:Nat} {w w':World} {xs xs':List Ins} {iv iv':Value} {ls:List ByteArray} {lv:Value} (h:TB p P T C M mb lo a1 a2 c1 c2 w xs iv ls lv) (k:KN lo C 197 w w') (hc:Blk w' C 126 [iv',lv]) (hi:OwnInss lo w' iv' xs'):TB p P T C M mb lo a1 a2 c1 c2 w' xs' iv' ls lv:=
 ⟨KN.blk h.prog k (h.prog.neq h.code (by decide)) (by decide),KN.blk h.fn k (h.fn.neq h.code (by decide)) (by decide),hc,KN.blk h.mp k (h.mp.neq h.code (by decide)) (by decide),KN.fm h.map k h.code,hi,KN.strs h.loc k (h.code.noCells (by decide)) (by decide),h.low⟩
def C3b (b c d:Nat):Addr→Prop:=fun a=>a.block=b∨a.block=c∨a.block=d
@[go_sem] theorem C3b_1 (b c d o:Nat):C3b b c d ⟨b,o,none⟩:=.inl rfl
@[go_sem] theorem C3b_2 (b c d o:Nat):C3b b c d ⟨c,o,none⟩:=.inr (.inl rfl)
@[go_sem] theorem C3b_3 (b c d o:Nat):C3b b c d ⟨d,o,none⟩:=.inr (.inr rfl)
end
section
open Go.RowKit Go.Maps Go.WideMaps
theorem flat_take {p:Prg} {ra:List Int} {j:Nat} (hj:j≤ra.length):((ra.take j).flatMap fun a=>p.tr a.toNat).length≤(ra.flatMap fun a=>p.tr a.toNat).length:=by
 conv=>rhs;rw [←List.take_append_drop j ra,List.flatMap_append,List.length_append]
 omega
theorem iTr_any (lo hi:Nat) (p:Prg) (hv:p.K) (hbd:p.bd) (hgl:p.gs.length≤1048576) (W:World) (a1 a2:Option Addr) (c1 c2:Nat) (HN:NdsAt lo hi W a1 c1 p.ns) (hh:hi≤W.heap.size) (P T C M mb l2:Nat) (hl2:W.heap.size≤l2) (ls:List ByteArray) (lv:Value):∀m,
  ∀(node:Nat) (xs:List Ins) (iv:Value) (w:World),node<m→node<p.ns.length→xs.length+(p.tr node).length≤900000→TB p P T C M mb l2 a1 a2 c1 c2 w xs iv ls lv→Ext W w →
  Calls Tryz.prog 155 #[.int .i64 (node:Nat),.pointer (some ⟨P,0,none⟩),.pointer (some ⟨T,0,none⟩),.pointer (some ⟨C,0,none⟩),.pointer (some ⟨M,0,none⟩)] w fun e w'=>e = .returned (.tuple #[])∧(∃iv',TB p P T C M mb l2 a1 a2 c1 c2 w' (xs++p.tr node) iv' ls lv)∧KN l2 C 197 w w':=by
 intro m;have l1:=HN.le;have l3:=HN.cap
 induction m with
 | zero=>intro node xs iv w hm;omega
 | succ m ih=>
  intro node xs iv w hm hnl hlen hB hx;have zx:=hx.size;have HB:=hid hB;have HX:=hid hx;obtain ⟨b,off,op,s,num,sa,sc,ra,rfl,hb1,hbw,hget,io,inn,hI,HI,y0,y1,y2,y3⟩:=HN.atW hnl hx hh;have HG:=hid hget;have li1:=HI.le;have li2:=HI.cap;have qp:=hB.prog.cell 0 rfl;have pl:=hB.prog.lt;have hlo:=hB.low;have hcl:=hB.code.lt;have htr:=hv.v.tr_step hget;simp only at htr
  have hfl:(p.tr node).length=(ra.flatMap fun a=>p.tr a.toNat).length+1:=by rw [htr];simp
  have HTR:=hid htr;have IH:=hid ih;have hss:s.size≤maxLen:=hbd.1 _ (List.mem_of_getElem? hget);have nb:=Blk.new w 243 [.int .i64 op,.string s,.int .i64 num,.slice sa ra.length sc];have xn:Ext w (w.alloc (.cells #[.int .i64 op,.string s,.int .i64 num,.slice sa ra.length sc] 243)):=X_;have NB:=hid nb;have XN:=hid xn;clear ih hget hB hx nb xn htr;go_enter Tryz.func155,Tryz.ntmps155;go_wp2
  go_loopw [17] (fun i wr=>∃(j:Nat) (iv':Value),j≤ra.length∧i = .int .i64 (j:Nat)∧TB p P T C M mb l2 (some ⟨b,off,none⟩) a2 c1 c2 wr (xs++(ra.take j).flatMap fun a=>p.tr a.toNat) iv' ls lv∧Blk wr w.heap.size 243 [.int .i64 op,.string s,.int .i64 num,.slice sa ra.length sc]∧KN l2 C 197 w wr) (fun i _=>ra.length - (intOf i).toNat)
  case atStart=>exact ⟨0,iv,by omega,rfl,by simpa using HB.out.ext XN.out,NB.out,(KN.refl _ _ _ _).ext XN.out⟩
  case round=>
   clear HB NB XN;obtain ⟨j,iv',hj,rfl,hB,hN,hk⟩:=hrel;have HB:=hid hB;have HNB:=hid hN;have HK:=hid hk;have HXr:=hid (hk.up HX.out hl2);have hft:=flat_take (p:=p) hj;clear hB hN hk
   by_cases hlj:j<ra.length
   ·obtain ⟨b3,off3,y,rfl,hb3,hy,_,hc3⟩:=HI.atE hlj HXr.out hh
    have hyb:=(hv.v.nd node _ HG.out).2 y (List.mem_of_getElem? hy)
    obtain ⟨z,rfl⟩:∃z:Nat,y=z:=⟨y.toNat,by omega⟩
    have hf:=HB.out.fn;have qf:=hf.cell 0 rfl
    have htk:((ra.take (j+1)).flatMap fun a=>p.tr a.toNat)=((ra.take j).flatMap fun a=>p.tr a.toNat)++p.tr z:=by
     rw [List.take_add_one,hy,List.flatMap_append];simp
    have hft2:=flat_take (p:=p) (ra:=ra) (j:=j+1) (by omega);rw [htk,List.length_append] at hft2;have HTK:=hid htk;clear hy htk hf;go_wp2_with fail;refine (IH.out z _ iv' _ (by omega) (by omega) (by rw [List.length_append];omega) HB.out HXr.out).mono ?_;rintro e w1 ⟨rfl,⟨iv2,hB2⟩,hk2⟩;have HB2:=hid hB2;have HNB2:=hid (KN.blk HNB.out hk2 (HNB.out.neq HB.out.code (by decide)) (by decide));have HK2:=hid (HK.out.trans hk2);clear hB2 hk2 HB HNB HK HXr qf;go_wp2;go_roundw
    case rel=>exact ⟨j+1,iv2,by omega,by go_num,by rw [HTK.out,←List.append_assoc];exact HB2.out,HNB2.out,HK2.out⟩
    case measure=>simp [intOf];omega
   ·obtain rfl:j=ra.length:=by omega
    rw [List.take_length] at HB hft
    obtain ⟨L,hL⟩:∃L,xs++(ra.flatMap fun a=>p.tr a.toNat)=L:=⟨_,rfl⟩
    have hLl:L.length≤900000:=by rw [←hL,List.length_append];omega
    rw [hL] at HB;have HL:=hid hL;obtain ⟨ia,ic,rfl,-⟩:=OwnG.form HB.out.ins;clear hL hft;have hco:=HB.out.code;have cc0:=hco.cell 0 rfl;have cf0:=hco.free 0;have ccl:=hco.lt;have hmp:=HB.out.mp;have m0:=hmp.cell 0 rfl;have ml:=hmp.lt;obtain ⟨n0,n1,n2,n3⟩:=HNB.out.q4;have zn:=HNB.out.lt;have zwr:=HXr.out.size;have hNC:=HNB.out.neq HB.out.code (by decide)
    have hin:∃o t n,insOf p ⟨op,s,num,ra⟩=⟨o,t,n⟩:=⟨_,_,_,rfl⟩
    obtain ⟨io,it,inu,hin⟩:=hin;have HIN:=hid hin;clear hin hco hmp;go_wp2_with fail;refine wp_region_stagesS [([0,1,2,3],4),([],5),([],6),([7],8)] 8 (fun w'=>∃d,w'=lowc (C3b C w.heap.size M) _ d) (by kernel_rfl) (by kernel_rfl) (SC.drew _ _) ?_;refine sc_ fun K hK=>?_;go_wp2_with fail;refine (iInsOf_any p hv node op num s ra HG.out sa ra.length sc mb _ (HB.out.map.ext X_) hss hgl).mono ?_;rintro e w6 ⟨rfl,x6⟩;rw [insOf_val HIN.out];have y6:Ext wr w6:=Ext.trans (Ext.drew (Ext.refl _)) x6;go_wp2_with fail;refine hK _ _ (.inr (SC.blocks fun a ha=>?_)) ?_
    ·rcases ha with ha|ha|ha
     ·exact y6.block (by rw [ha];omega)
     ·exact y6.block (by rw [ha];omega)
     ·exact y6.block (by rw [ha];omega)
    clear hK K;refine sc_ fun K hK=>?_;go_wp2_with fail;have y7:Ext w6 (w6.alloc (.cells #[.int .i64 io,.string it,.int .i64 inu] 197)):=X_;have b7:=Blk.new w6 197 [.int .i64 io,.string it,.int .i64 inu];have y67:=y6.trans y7;refine hK _ _ (.inr (SC.blocks fun a ha=>?_)) ?_
    ·rcases ha with ha|ha|ha
     ·exact y67.block (by rw [ha];omega)
     ·exact y67.block (by rw [ha];omega)
     ·exact y67.block (by rw [ha];omega)
    clear hK K;have HB7:=hid (HB.out.ext y67);have HN7:=hid (HNB.out.ext y67);have z67:=y67.size;have hlo2:=HXr.out.size;refine sc_ fun K hK=>?_;refine wpList_append_insn _ rfl _ _ rfl l2 (.slice ia L.length ic) L rfl HB7.out.ins ⟨io,it,inu⟩ w6.heap.size rfl ⟨b7.cell 0 rfl,b7.cell 1 rfl,b7.cell 2 rfl⟩ (by omega) (by omega) ?_;intro iv2 w8 hown hg;have hrow:=OwnG.rowC HB7.out.ins
    have hother:∀{B:Nat} {t:TypeId} {cs:List Value},Blk (w6.alloc (.cells #[.int .i64 io,.string it,.int .i64 inu] 197)) B t cs→t≠197→w8.heap[B]?=(w6.alloc (.cells #[.int .i64 io,.string it,.int .i64 inu] 197)).heap[B]?:=fun hb ht=>hg.block _ hb.lt (fun e=>by
     obtain ⟨_,c,hc⟩:=hrow _ e.symm
     exact hb.noCells (Ne.symm ht) c hc)
    have kC:=hother HB7.out.code (by decide);have kN:=hother HN7.out (by decide);have kM:=hother HB7.out.mp (by decide);have K8:KN l2 C 197 wr w8:=((KN.refl l2 C 197 wr).ext y67).grown hg hrow;have C8:=HB7.out.code.of kC;have e0:=C8.cell 0 rfl;have g0:=C8.free 0;have HK9:=hid (HK.out.trans (K8.set HB.out.low 0 iv2));have HB9:=hid (HB.out.kn (K8.set HB.out.low 0 iv2) (C8.set 0 iv2) (OwnG.set hown C8 (by decide) 0 iv2));go_wp2_with fail;refine hK _ _ (.inr (SC.blocks fun a ha=>?_)) ?_
    ·rcases ha with ha|ha|ha
     ·rw [ha];exact kC.trans (y67.block (by omega))
     ·rw [ha];exact kN.trans (y67.block (by omega))
     ·rw [ha];exact kM.trans (y67.block (by omega))
    clear hK K;obtain ⟨ia2,ic2,hv2,_⟩:=OwnG.form hown
    have hll:(L++[(⟨io,it,inu⟩:Ins)]).length=L.length+1:=by simp
    rw [hll] at hv2;subst hv2;clear hown hg hrow hother kC kN kM K8 C8 cc0 cf0 m0 n0 n1 n2 n3;refine wpStagesS_cons ?_;simp only [List.filterMap_cons,List.filterMap_nil,List.getElem?_toArray,List.getElem?_cons_zero,List.getElem?_cons_succ]
    show wpQuiet _ _ _ _ [_] _
    simp only [Act.put,List.setIfInBounds_toArray,List.set_cons_succ,List.set_cons_zero,List.getElem_toArray,List.getElem_cons_succ,List.getElem_cons_zero]
    repeat (go_big_quiet_step (fail))
    refine wpQuiet_nil ⟨_,rfl,fun K hK=>?_⟩;go_wp2_with fail;refine hK _ _ (.inl trivial) ?_;clear hK K;refine wpStagesS_nil ?_
    have hfin:L++[(⟨io,it,inu⟩:Ins)]=xs++p.tr node:=by rw [HTR.out,HIN.out,←HL.out,List.append_assoc]
    go_wp2
    go_end0
    exact ⟨rfl,⟨_,by rw [←hfin];exact HB9.out⟩,HK9.out⟩
end
section
open Go.RowKit Go.Maps Go.WideMaps
theorem i64L {z:Int} (h:0≤z∧z≤9):I64 z:=⟨by omega,by omega⟩
theorem insOf_64 {p:Prg} (h:p.K) (hgl:p.gs.length≤1048576) {j:Nat} {x:Nd} (hx:p.ns[j]?=some x) (hn:I64 x.num):I64 (insOf p x).op∧I64 (insOf p x).num:=by
 have hix:((ixOf p x.name:Nat):Int)≤1048576:=by
  unfold ixOf
  cases e:frst p.gs p.gs.length x.name.toList with
  | none=>decide
  | some i=>
   have:=(frst_some e).1
   show ((i:Nat):Int)≤1048576
   omega
 rcases nodeF_op (h.v.nd j x hx).1 with ⟨o,h2,h3⟩|⟨o,h3⟩|⟨o,h3⟩|⟨o,o',h3⟩|⟨o,h3⟩
 ·unfold insOf;rw [if_pos o];exact ⟨i64L (z:=1) ⟨by decide,by decide⟩,hn⟩
 ·unfold insOf
  rw [if_neg (by omega),if_neg (by omega),if_pos o]
  split
  ·exact ⟨i64L (z:=2) ⟨by decide,by decide⟩,i64L (z:=0) ⟨by decide,by decide⟩⟩
  ·exact ⟨i64L (z:=3) ⟨by decide,by decide⟩,⟨by show (-9223372036854775808:Int)≤((ixOf p x.name:Nat):Int);omega,by show ((ixOf p x.name:Nat):Int)≤9223372036854775807;omega⟩⟩
 ·unfold insOf;rw [if_neg (by omega),if_pos o];exact ⟨i64L (z:=5) ⟨by decide,by decide⟩,i64L (z:=3) ⟨by decide,by decide⟩⟩
 ·unfold insOf;rw [if_neg (by omega),if_neg (by omega),if_neg (by omega),if_neg (by omega)]
  exact ⟨i64L (z:=6) ⟨by decide,by decide⟩,⟨by show (-9223372036854775808:Int)≤x.op;omega,by show x.op≤9223372036854775807;omega⟩⟩
 ·unfold insOf;rw [if_neg (by omega),if_neg (by omega),if_neg (by omega),if_pos o];exact ⟨i64L (z:=7) ⟨by decide,by decide⟩,i64L (z:=0) ⟨by decide,by decide⟩⟩
theorem tr_64 {p:Prg} (h:p.K) (hgl:p.gs.length≤1048576) (hn:∀x∈p.ns,I64 x.num):∀(F j:Nat),j<F→∀y∈p.tr j,I64 y.op∧I64 y.num:=by
 intro F
 induction F with
 | zero=>intro j hj;omega
 | succ F ih=>
  intro j hj y hy
  cases hx:p.ns[j]? with
  | none=>
   have:p.tr j=[]:=by show trF p (j+1) j=[];rw [trF,hx]
   rw [this] at hy;cases hy
  | some x=>
   rw [h.v.tr_step hx] at hy
   rcases List.mem_append.1 hy with hy|hy
   ·obtain ⟨a,ha,hy⟩:=List.mem_flatMap.1 hy
    have:=(h.v.nd j x hx).2 a ha;exact ih a.toNat (by omega) y hy
   ·simp only [List.mem_cons,List.not_mem_nil,or_false] at hy
    subst hy;exact insOf_64 h hgl hx (hn x (List.mem_of_getElem? hx))
theorem trs_64 {p:Prg} (h:p.K) (hgl:p.gs.length≤1048576) (hn:∀x∈p.ns,I64 x.num):∀(k:Nat),k≤p.gs.length→∀y∈p.trs k,I64 y.op∧I64 y.num:=by
 intro k
 induction k with
 | zero=>intro _ y hy;cases hy
 | succ k ih=>
  intro hk y hy
  obtain ⟨a,ha⟩:∃a,p.gs[k]?=some a:=⟨p.gs[k],List.getElem?_eq_getElem (by omega)⟩
  rw [Prg.trs_step ha] at hy
  rcases List.mem_append.1 hy with hy|hy
  ·exact ih (by omega) y hy
  ·rcases List.mem_append.1 hy with hy|hy
   ·exact tr_64 h hgl hn _ _ (Nat.lt_succ_self _) y hy
   ·simp only [List.mem_cons,List.not_mem_nil,or_false] at hy
    subst hy;exact ⟨i64L (z:=4) ⟨by decide,by decide⟩,⟨by show (-9223372036854775808:Int)≤((k:Nat):Int);omega,by show ((k:Nat):Int)≤9223372036854775807;omega⟩⟩
theorem OwnInss.inss {lo l2:Nat} {w:World} {v:Value} {xs:List Ins} (h:OwnInss lo w v xs) (hl:l2≤lo) (hg:∀x∈xs,I64 x.op∧I64 x.num):Inss l2 w.heap.size w v xs:=by
 obtain ⟨a,c,rfl,_⟩:=OwnG.form h
 have hc:xs.length≤c∧c≤maxLen:=by
  rcases h.2 with ⟨e,h4⟩|⟨g,cap,cur,e,hb,hh,hc,hm,_⟩
  ·simp only [Value.slice.injEq] at e
   obtain ⟨rfl,e2,rfl⟩:=e;exact ⟨by omega,by unfold maxLen;omega⟩
  ·simp only [Value.slice.injEq] at e
   obtain ⟨rfl,e2,rfl⟩:=e;exact ⟨hc,hm⟩
 refine ⟨a,c,rfl,hc.1,hc.2,fun i x hx=>?_⟩;obtain ⟨g,cap,e,g1,g2,_,_,_,hcell⟩:=OwnG.at h (fun _=>rfl) hx;simp only [Value.slice.injEq] at e;obtain ⟨rfl,_,rfl⟩:=e;have c0:=hcell 0 (by decide);have c1:=hcell 1 (by decide);have c2:=hcell 2 (by decide);simp only [Ins.cs,Nat.add_zero,List.getElem?_cons_zero,List.getElem?_cons_succ] at c0 c1 c2;exact ⟨hg x (List.mem_of_getElem? hx),g,0,rfl,by omega,g2,by rw [Nat.zero_add];exact c0,by rw [Nat.zero_add];exact c1,by rw [Nat.zero_add];exact c2⟩
theorem Strs.low {lo l2 hi:Nat} {w:World} {v:Value} {xs:List ByteArray} (h:Strs lo hi w v xs) (hl:l2≤lo):Strs l2 hi w v xs:=by
 obtain ⟨a,cap,h1,h2,h3,h4⟩:=h;refine ⟨a,cap,h1,h2,h3,fun i x hx=>?_⟩;obtain ⟨b,off,g2,g3,g4⟩:=h4 i x hx;exact ⟨b,off,g2,by omega,g4⟩
theorem OwnStrs.row {lo:Nat} {w:World} {v:Value} {xs:List ByteArray} (h:OwnStrs lo w v xs):∀k,v.ownBlock=some k→lo≤k∧∃c,w.heap[k]?=some (.cells c 9 (0,0)):=by
 intro k hk
 rcases h.2 with ⟨rfl,h4⟩|⟨g,cap,cur,rfl,hb,hg,_⟩
 ·cases hk
 ·simp only [Value.ownBlock,Option.some.injEq] at hk
  subst hk;exact ⟨hb,cur,hg⟩
theorem TB.knS {p:Prg} {P T C M mb lo:Nat} {a1 a2:Option Addr} {c1 c2:Nat} {w w':World} {xs:List Ins} {iv lv lv':Value} {ls ls':List ByteArray} (h:TB p P T C M mb lo a1 a2 c1 c2 w xs iv ls lv) (k:KN lo C 9 w w') (hc:Blk w' C 126 [iv,lv']) (hl:OwnStrs lo w' lv' ls'):TB p P T C M mb lo a1 a2 c1 c2 w' xs iv ls' lv':=
 ⟨KN.blk h.prog k (h.prog.neq h.code (by decide)) (by decide),KN.blk h.fn k (h.fn.neq h.code (by decide)) (by decide),hc,KN.blk h.mp k (h.mp.neq h.code (by decide)) (by decide),KN.fm h.map k h.code,KN.row h.ins k (h.code.noCells (by decide)) (by decide),hl,h.low⟩
end
section
open Go.RowKit Go.Maps Go.WideMaps
theorem Cod.R.wideC {c:Cod} {lo hi l2 h2:Nat} {w:World} {v:Value} (h:c.R lo hi w v) (hl:l2≤lo) (hh:hi≤h2):c.R l2 h2 w v:=by
 obtain ⟨iu,lu,rfl,⟨a,cap,e1,e2,e3,e4⟩,⟨a',cap',f1,f2,f3,f4⟩⟩:=h;refine ⟨iu,lu,rfl,⟨a,cap,e1,e2,e3,fun i x hx=>?_⟩,⟨a',cap',f1,f2,f3,fun i x hx=>?_⟩⟩
 ·obtain ⟨g0,b,off,g1,g2,g3,g4⟩:=e4 i x hx
  exact ⟨g0,b,off,g1,by omega,by omega,g4⟩
 ·obtain ⟨b,off,g1,g2,g3,g4⟩:=f4 i x hx
  exact ⟨b,off,g1,by omega,by omega,g4⟩
theorem trs_mono {p:Prg} {k:Nat}:∀m,k≤m→m≤p.gs.length→(p.trs k).length≤(p.trs m).length:=by
 intro m
 induction m with
 | zero=>
  intro h _
  have:k=0:=by omega
  rw [this];exact Nat.le_refl _
 | succ m ih=>
  intro h hm
  by_cases e:k=m+1
  ·subst e;exact Nat.le_refl _
  ·have:=ih (by omega) (by omega)
   obtain ⟨a,ha⟩:∃a,p.gs[m]?=some a:=⟨p.gs[m],List.getElem?_eq_getElem (by omega)⟩
   rw [Prg.trs_step ha,List.length_append];omega
theorem iCompile_any (lo hi:Nat) (v:Value) (p:Prg) (w:World) (hv:p.R lo hi w v) (hh:hi≤w.heap.size) (hchk:p.chkB=true) (hbd:p.bd) (hgl:p.gs.length≤1048576) :
  Calls Tryz.prog 94 #[v] w fun e w'=>∃u,e = .returned (.tuple #[u,.bool true])∧p.code.R w.heap.size w'.heap.size w' u∧Ext w w':=by
 have HV:=hid hv;have hp:=Prg.chkB_K hchk;have HP:=hid hp;have HCH:=hid hchk;obtain ⟨a1,c1,a2,c2,rfl,HN,HG⟩:=hv.form;have l1:=HN.le;have l2:=HN.cap;have l3:=HG.le;have l4:=HG.cap;have l5:=hp.v.len;have l6:=hp.v.gs_len
 have hn64:∀x∈p.ns,I64 x.num:=fun x hx=>by
  obtain ⟨i,hi,hix⟩:=List.getElem_of_mem hx;exact (HN.cell i x (by rw [←hix];simp [hi])).1.2
 have H64:=hid (trs_64 hp hgl hn64);have hcl:=code_len hp;have HCL:=hid hcl;have b0:=Blk.new w 132 [.slice a1 p.ns.length c1,.slice a2 p.gs.length c2];have r0:=Blk.new (w.alloc (.cells #[.slice a1 p.ns.length c1,.slice a2 p.gs.length c2] 132)) 126 [.slice none 0 0,.slice none 0 0];rw [World.size_alloc] at r0;have x0:Ext w ((w.alloc (.cells #[.slice a1 p.ns.length c1,.slice a2 p.gs.length c2] 132)).alloc (.cells #[.slice none 0 0,.slice none 0 0] 126)):=X_;have HB0:=hid (b0.ext (show Ext _ ((w.alloc (.cells #[.slice a1 p.ns.length c1,.slice a2 p.gs.length c2] 132)).alloc (.cells #[.slice none 0 0,.slice none 0 0] 126)) from X_));have HR0:=hid r0;have HX0:=hid x0;clear hv hp hchk b0 r0 x0 hn64 hcl;go_enter Tryz.func94,Tryz.ntmps94;go_wp2_with fail;refine (iIsOk_val HCH.out lo hi _ _ (HV.out.ext hh HX0.out) (Nat.le_trans hh HX0.out.size) hbd hgl).mono ?_;rintro e w1 ⟨rfl,x1⟩;have HX1:=hid (HX0.out.trans x1);have HB1:=hid (HB0.out.ext x1);have HR1:=hid (HR0.out.ext x1);obtain ⟨q0,q1⟩:=HB1.out.q2;have ql:=HB1.out.lt;clear x1 HX0 HB0 HR0;go_wp2_with fail;refine (iAssigned_any lo hi _ p _ (HV.out.ext hh HX1.out) (Nat.le_trans hh HX1.out.size) hbd hgl).mono ?_;rintro e w2 ⟨⟨mb,rfl,hmb,hM⟩,x2⟩;have HX2:=hid (HX1.out.trans x2);have HB2:=hid (HB1.out.ext x2);have HR2:=hid (HR1.out.ext x2);have HM2:=hid hM;have q1:=HB2.out.cell 1 rfl;have ql2:=HB2.out.lt;have rl2:=HR2.out.lt;have zw2:=HX2.out.size;clear x2 hM HX1 HB1 HR1;have xb:Ext w2 (((w2.alloc (.cells #[.slice none 0 0,.slice none 0 0] 126)).alloc (.cells #[.map (some mb)] 239)).alloc (.cells #[.func (.func 155) #[] #[.pointer (some ⟨w.heap.size,0,none⟩),.pointer (some ⟨w2.heap.size+1+1,0,none⟩),.pointer (some ⟨w2.heap.size,0,none⟩),.pointer (some ⟨w2.heap.size+1,0,none⟩)]] 241)):=X_;have cb:=(Blk.new w2 126 [.slice none 0 0,.slice none 0 0]).ext (show Ext (w2.alloc (.cells #[.slice none 0 0,.slice none 0 0] 126)) (((w2.alloc (.cells #[.slice none 0 0,.slice none 0 0] 126)).alloc (.cells #[.map (some mb)] 239)).alloc (.cells #[.func (.func 155) #[] #[.pointer (some ⟨w.heap.size,0,none⟩),.pointer (some ⟨w2.heap.size+1+1,0,none⟩),.pointer (some ⟨w2.heap.size,0,none⟩),.pointer (some ⟨w2.heap.size+1,0,none⟩)]] 241)) from X_);have mbx:=(Blk.new (w2.alloc (.cells #[.slice none 0 0,.slice none 0 0] 126)) 239 [.map (some mb)]).ext (show Ext ((w2.alloc (.cells #[.slice none 0 0,.slice none 0 0] 126)).alloc (.cells #[.map (some mb)] 239)) (((w2.alloc (.cells #[.slice none 0 0,.slice none 0 0] 126)).alloc (.cells #[.map (some mb)] 239)).alloc (.cells #[.func (.func 155) #[] #[.pointer (some ⟨w.heap.size,0,none⟩),.pointer (some ⟨w2.heap.size+1+1,0,none⟩),.pointer (some ⟨w2.heap.size,0,none⟩),.pointer (some ⟨w2.heap.size+1,0,none⟩)]] 241)) from X_);have fb:=Blk.new ((w2.alloc (.cells #[.slice none 0 0,.slice none 0 0] 126)).alloc (.cells #[.map (some mb)] 239)) 241 [.func (.func 155) #[] #[.pointer (some ⟨w.heap.size,0,none⟩),.pointer (some ⟨w2.heap.size+1+1,0,none⟩),.pointer (some ⟨w2.heap.size,0,none⟩),.pointer (some ⟨w2.heap.size+1,0,none⟩)]];simp only [World.size_alloc] at mbx fb
 have hT:TB p w.heap.size (w2.heap.size+1+1) w2.heap.size (w2.heap.size+1) mb w2.heap.size a1 a2 c1 c2 (((w2.alloc (.cells #[.slice none 0 0,.slice none 0 0] 126)).alloc (.cells #[.map (some mb)] 239)).alloc (.cells #[.func (.func 155) #[] #[.pointer (some ⟨w.heap.size,0,none⟩),.pointer (some ⟨w2.heap.size+1+1,0,none⟩),.pointer (some ⟨w2.heap.size,0,none⟩),.pointer (some ⟨w2.heap.size+1,0,none⟩)]] 241)) [] (.slice none 0 0) [] (.slice none 0 0):=⟨HB2.out.ext xb,fb,cb,mbx,HM2.out.ext xb,OwnG.nil _ _ _ _ _,OwnStrs.nil _ _,Nat.le_refl _⟩
 have HT:=hid hT;have HRb:=hid (HR2.out.ext xb);have HXb:=hid (HX2.out.trans xb);have q1b:=hT.prog.cell 1 rfl;clear cb mbx fb hT xb HB2 HM2 HR2 HX2;go_wp2_with fail
 go_loopw [20] (fun i wr=>∃(k:Nat) (iv lv:Value),k≤p.gs.length∧i = .int .i64 (k:Nat)∧TB p w.heap.size (w2.heap.size+1+1) w2.heap.size (w2.heap.size+1) mb w2.heap.size a1 a2 c1 c2 wr (p.trs k) iv ((p.gs.take k).map (·.name)) lv∧Blk wr (w.heap.size+1) 126 [.slice none 0 0,.slice none 0 0]∧Ext w wr) (fun i _=>p.gs.length - (intOf i).toNat)
 case atStart=>exact ⟨0,_,_,by omega,rfl,HT.out,HRb.out,HXb.out⟩
 case round=>
  clear HT HRb HXb q1b;obtain ⟨k,iv,lv,hk,rfl,hT,hR,hx⟩:=hrel;have HT:=hid hT;have HR:=hid hR;have HX:=hid hx
  by_cases hlt:k<p.gs.length
  ·obtain ⟨b,off,s,rt,rfl,hb1,hbw,hdrop,hget,ir,y0,y1⟩:=HG.at hlt hx hh
   have hrb:=(HP.out.v.ag k _ hget).2;simp only at hrb
   obtain ⟨r,rfl⟩:∃r:Nat,rt=r:=⟨rt.toNat,by omega⟩
   have HG1:=hid hget;have hst:=Prg.trs_step hget;have hmo:=trs_mono (p:=p) (k:=k+1) p.gs.length (by omega) (Nat.le_refl _);have hcl:=HCL.out;have hcl2:(p.trs p.gs.length).length≤120:=hcl;simp only [Int.toNat_natCast] at hst
   have hle:(p.trs (k+1)).length=(p.trs k).length+(p.tr r).length+1:=by rw [hst];simp;omega
   have HST:=hid hst;have y0:Ext wr (wr.alloc (.cells #[.string s,.int .i64 (r:Nat)] 194)):=X_;have HA:=hid (Blk.new wr 194 [.string s,.int .i64 (r:Nat)]);have HT1:=hid (hT.ext y0);have HR1:=hid (hR.ext y0);have HX1:=hid (hx.trans y0);have hfn:=hT.fn;have f0:=hfn.cell 0 rfl;have fl:=hfn.lt;have zr:=hx.size;have hlo:=hT.low;have hCl:=hT.code.lt;clear hT hR hx hdrop hget hst hcl HT HR HX hfn;go_wp2_with fail;refine (iTr_any lo hi p HP.out hbd hgl w a1 (some ⟨b,off,none⟩) c1 c2 HN hh w.heap.size (w2.heap.size+1+1) w2.heap.size (w2.heap.size+1) mb w2.heap.size zw2 _ _ (r+1) r _ iv _ (by omega) (by omega) (by omega) HT1.out HX1.out).mono ?_;rintro e w5 ⟨rfl,⟨iv2,hT5⟩,hk5⟩;have HA5:=hid (KN.blk HA.out hk5 (HA.out.neq HT1.out.code (by decide)) (by decide));have HR5:=hid (HR1.out.of (hk5.block _ HR1.out.lt (.inl (by omega))));have HX5:=hid (hk5.up HX1.out zw2)
   obtain ⟨L,hL⟩:∃L,p.trs k++p.tr r=L:=⟨_,rfl⟩
   have hLl:L.length≤200:=by rw [←hL,List.length_append];omega
   rw [hL] at hT5;have HL:=hid hL
   obtain ⟨NL,hNL⟩:∃N,(p.gs.take k).map (·.name)=N:=⟨_,rfl⟩
   have hNl:NL.length≤200:=by rw [←hNL,List.length_map,List.length_take];omega
   rw [hNL] at hT5;have HNL:=hid hNL;have HT5:=hid hT5;obtain ⟨ia,ic,rfl,-⟩:=OwnG.form hT5.ins;obtain ⟨la,lc,rfl,-⟩:=hT5.loc.form;obtain ⟨cc0,cc1⟩:=hT5.code.q2;have cf0:=hT5.code.free 0;have cf1:=hT5.code.free 1;have cl:=hT5.code.lt;obtain ⟨k0,k1⟩:=HA5.out.q2;have kl:=HA5.out.lt;have y5:Ext w5 (w5.alloc (.cells #[.int .i64 4,.string ⟨#[]⟩,.int .i64 (k:Nat)] 197)):=X_;have b5:=Blk.new w5 197 [.int .i64 4,.string ⟨#[]⟩,.int .i64 (k:Nat)];have HY5:=hid y5;have HB5:=hid b5;have HI5:=hid (OwnG.ext hT5.ins y5);have zX5:=HX5.out.size;have zy5:=y5.size;clear hL hNL hT5 hk5 y5 b5 HT1 HR1 HX1 HA f0;go_wp2_with (at_builtin;refine wpList_append_insn _ rfl _ _ rfl w2.heap.size (.slice ia L.length ic) L rfl ?_ ⟨4,⟨#[]⟩,(k:Nat)⟩ w5.heap.size rfl ?_ ?_ ?_ ?_)
   ·exact HI5.out
   ·omega
   ·exact Nat.le_trans (Nat.le_of_lt cl) zy5
   intro iv3 w6 hown hg;have hrow:=OwnG.rowC HI5.out
   have hother:∀{B:Nat} {t:TypeId} {cs:List Value},Blk w5 B t cs→t≠197→w6.heap[B]?=w5.heap[B]?:=fun hb ht=>(hg.block _ (by have:=hb.lt;omega) (fun e=>by
    obtain ⟨_,c,hc⟩:=hrow _ e.symm
    exact (hb.ext HY5.out).noCells (Ne.symm ht) c hc)).trans (HY5.out.block hb.lt)
   have kC:=hother HT5.out.code (by decide);have kA:=hother HA5.out (by decide);have K6:KN w2.heap.size w2.heap.size 197 w5 w6:=((KN.refl _ _ _ w5).ext HY5.out).grown hg hrow;have C6:=HT5.out.code.of kC;have HA6:=hid ((HA5.out.of kA).other (a:=⟨w2.heap.size,0,none⟩) (HA5.out.neq HT5.out.code (by decide)) iv3);have HT6:=hid (HT5.out.kn (K6.set (Nat.le_refl _) 0 iv3) (C6.set 0 iv3) (OwnG.set hown C6 (by decide) 0 iv3));have HR6:=hid (HR5.out.of ((K6.set (Nat.le_refl _) 0 iv3).block _ HR5.out.lt (.inl (by omega))));have HX6:=hid ((K6.set (Nat.le_refl _) 0 iv3).up HX5.out zw2);obtain ⟨ia2,ic2,hv2,_⟩:=OwnG.form hown
   have hll:(L++[(⟨4,⟨#[]⟩,(k:Nat)⟩:Ins)]).length=L.length+1:=by simp
   rw [hll] at hv2;subst hv2;obtain ⟨e0,e1⟩:=C6.q2;have g0:=C6.free 0;have g1:=C6.free 1;have a0:=(HA5.out.of kA).cell 0 rfl;have al:=(HA5.out.of kA).lt;have c6l:=C6.lt;clear hown hg hrow hother kC kA K6 C6 cc0 cc1 cf0 cf1 k0 k1;have y6:Ext (w6.setCell ⟨w2.heap.size,0,none⟩ (.slice ia2 (L.length+1) ic2)) ((w6.setCell ⟨w2.heap.size,0,none⟩ (.slice ia2 (L.length+1) ic2)).alloc (.cells #[.string s] 9)):=X_;have HS6:=hid (HT6.out.loc.ext y6);have HY6:=hid y6;have b6:=Blk.new (w6.setCell ⟨w2.heap.size,0,none⟩ (.slice ia2 (L.length+1) ic2)) 9 [.string s];rw [World.size_setCell] at b6;have zy6:=y6.size;have zc6:=HT6.out.code.lt;clear y6;go_wp2_with (at_builtin;refine wpList_append_str _ rfl _ _ rfl w2.heap.size (.slice la NL.length lc) NL rfl ?_ s w6.heap.size rfl ?_ ?_ ?_ ?_)
   ·exact HS6.out
   ·exact b6.cell 0 rfl
   ·omega
   ·exact Nat.le_trans (Nat.le_of_lt zc6) zy6
   intro lv2 w8 hown hg;have hrow:=OwnStrs.row HS6.out
   have kC:w8.heap[w2.heap.size]?=(w6.setCell ⟨w2.heap.size,0,none⟩ (.slice ia2 (L.length+1) ic2)).heap[w2.heap.size]?:=(hg.block _ (by omega) (fun e=>by
    obtain ⟨_,c,hc⟩:=hrow _ e.symm
    exact (HT6.out.code.ext HY6.out).noCells (by decide) c hc)).trans (HY6.out.block zc6)
   have K8:KN w2.heap.size w2.heap.size 9 (w6.setCell ⟨w2.heap.size,0,none⟩ (.slice ia2 (L.length+1) ic2)) w8:=((KN.refl _ _ _ _).ext HY6.out).grown hg hrow;have C8:=HT6.out.code.of kC;have O9:=KN.strs hown ((KN.refl w2.heap.size w2.heap.size 197 w8).set (Nat.le_refl _) 1 lv2) (C8.noCells (by decide)) (by decide);have HT9:=hid (HT6.out.knS (K8.set (Nat.le_refl _) 1 lv2) (C8.set 1 lv2) O9);have HR9:=hid (HR6.out.of ((K8.set (Nat.le_refl _) 1 lv2).block _ HR6.out.lt (.inl (by omega))));have HX9:=hid ((K8.set (Nat.le_refl _) 1 lv2).up HX6.out zw2);obtain ⟨la2,lc2,hv2,_⟩:=hown.form
   have hll2:(NL++[s]).length=NL.length+1:=by simp
   rw [hll2] at hv2;subst hv2;have e1':=C8.cell 1 rfl;have g1':=C8.free 1;have c8l:=C8.lt;clear hown hg hrow kC K8 C8 O9 HS6 HY6;go_wp2_with fail;go_roundw
   case rel=>
    have e1:L++[(⟨4,⟨#[]⟩,(k:Nat)⟩:Ins)]=p.trs (k+1):=by rw [HST.out,←HL.out,List.append_assoc]
    have e2:NL++[s]=(p.gs.take (k+1)).map (·.name):=by rw [List.take_add_one,HG1.out,List.map_append,HNL.out];rfl
    have HT10:=HT9.out;rw [e1,e2] at HT10;exact ⟨k+1,_,_,by omega,by go_num,HT10,HR9.out,HX9.out⟩
   case measure=>simp [intOf];omega
  ·obtain rfl:k=p.gs.length:=by omega
   rw [List.take_length] at HT;obtain ⟨ia,ic,rfl,-⟩:=OwnG.form HT.out.ins;obtain ⟨la,lc,rfl,-⟩:=HT.out.loc.form;obtain ⟨cc0,cc1⟩:=HT.out.code.q2;have cl:=HT.out.code.lt;obtain ⟨r0,r1⟩:=HR.out.q2;have f0:=HR.out.free 0;have f1:=HR.out.free 1;have rl:=HR.out.lt;have zX:=HX.out.size;have hS:=hid (HT.out.loc.strs);have hI:=hid (HT.out.ins.inss (Nat.le_refl _) (H64.out _ (Nat.le_refl _)))
   have hcR:p.code.R w2.heap.size wr.heap.size wr (.agg #[.slice ia (p.trs p.gs.length).length ic,.slice la p.gs.length lc]):=⟨_,_,rfl,hI.out,by have h:=hS.out;rw [List.length_map] at h;exact h⟩
   have HcR:=hid (hcR.same ((Same.setLow wr (p:=⟨w.heap.size+1,0,none⟩) (by simp only;omega) (.slice ia (p.trs p.gs.length).length ic)).trans (Same.setLow _ (p:=⟨w.heap.size+1,1,none⟩) (by simp only;omega) (.slice la p.gs.length lc))));have hXo:=HX.out;clear hT hR hx hcR;go_wp2;refine bodyPost_ret (v:=.tuple #[.agg #[.slice ia (p.trs p.gs.length).length ic,.slice la p.gs.length lc],.bool true]) (by simp [results,Tryz.results94,go_sem, *]) rfl ?_;exact ⟨_,rfl,HcR.out.wideC zw2 (by simp),S_⟩
end
theorem Scn.prg_at {s:Scn} {k q:Nat} (h:s.sh k=(q:Nat)) (hq:q<s.ps.length):s.prg k=s.ps[q]:=by
 unfold Scn.prg;rw [h,Int.toNat_natCast,List.getD_eq_getElem?_getD,List.getElem?_eq_getElem hq]
 rfl
theorem Scn.shade_at {s:Scn} {k q n:Nat} (h:s.sh k=(q:Nat)) (hq:q<s.ps.length) (hn:s.rt k=(n:Nat)):s.shade k=((s.ps[q].code.shade (gridP (s.st k) n s.t)).1,(s.ps[q].code.shade (gridP (s.st k) n s.t)).2.1):=by
 unfold Scn.shade;rw [Scn.prg_at h hq];unfold Scn.grd;rw [hn,Int.toNat_natCast]
theorem Scn.Ok.at {s:Scn} (ho:s.Ok) {k:Nat} (hk:k<s.m):∃q n:Nat,s.sh k=(q:Nat)∧q<s.ps.length∧s.rt k=(n:Nat)∧1≤n∧n≤8∧patB (s.st k)=true∧patB (s.en k)=true:=by
 have h:=srfB_iff.1 (ho.srf k hk);have h1:=h.sh;have h2:=h.rt;exact ⟨(s.sh k).toNat,(s.rt k).toNat,by omega,by omega,by omega,by omega,by omega,h.f,h.g⟩
theorem Scn.Ok.shade {s:Scn} (ho:s.Ok) {k:Nat} (hk:k<s.m):(s.shade k).1.length=(s.rt k).toNat*(s.rt k).toNat∧(s.shade k).2.length=(s.rt k).toNat*(s.rt k).toNat:=by
 obtain ⟨q,n,h1,h2,h3,h4,h5,h6,-⟩:=ho.at hk;have hc:=ho.prg _ (List.getElem_mem h2);obtain ⟨X,Y,e,x,y,-⟩:=(Prg.chkB_K hc).shade hc (gridP_ok (f:=s.st k) (n:=n) (t:=s.t) ⟨h4,h5⟩ ho.t);rw [Scn.shade_at h1 h2 h3,e,h3,Int.toNat_natCast];exact ⟨x,y⟩
theorem Grd.R.formS {g:Grd} {lo hi:Nat} {w:World} {v:Value} (h:g.R lo hi w v):∃a1 c1 a2 c2,v = .agg #[.int .i64 g.n,.slice a1 g.m c1,.int .i64 g.tm,.int .i64 g.t.log,.slice a2 g.t.px.length c2]:=by
 obtain ⟨pu,tu,rfl,_,_,_,hp,hu⟩:=h;obtain ⟨a1,c1,rfl,_⟩:=hp;obtain ⟨a2,c2,rfl,_⟩:=hu;exact ⟨a1,c1,a2,c2,rfl⟩
theorem info_shd:(Tryz.prog.info? 92).map (fun i=>i.size)=some 2:=by kernel_rfl
theorem IntsO.low' {lo lo' hi:Nat} {w:World} {v:Value} {xs:List Int} (h:IntsO lo hi w v xs) (hl:lo'≤lo):IntsO lo' hi w v xs:=⟨h.1.low hl,h.2⟩
theorem IntsO.setLow {lo hi:Nat} {w:World} {v:Value} {xs:List Int} (h:IntsO lo hi w v xs) {p:Addr} (hp:p.block<lo) (u:Value):IntsO lo hi (w.setCell p u) v xs:=⟨h.1.setLow hp u,h.2⟩
theorem IntsO.form {lo hi:Nat} {w:World} {v:Value} {xs:List Int} (h:IntsO lo hi w v xs):∃a c,v = .slice a xs.length c:=by
 obtain ⟨a,c,e,_⟩:=h.1.form;exact ⟨a,c,e⟩
theorem iShade_any (s:Scn) (lo hi:Nat) (v:Value) (k:Nat) (w:World) (hv:s.R lo hi w v) (hh:hi≤w.heap.size) (ho:s.Ok) (hsm:s.small) (hk:k<s.m) :
  Calls Tryz.prog 41 #[v,.int .i64 (k:Nat)] w fun e w'=>∃r1 r2,e = .returned (.agg #[r1,r2])∧∃h,w.heap.size≤h∧h≤w'.heap.size∧IntsO w.heap.size h w' r1 (s.shade k).1∧IntsO h w'.heap.size w' r2 (s.shade k).2∧Ext w w':=by
 obtain ⟨q,n,hsh,hq,hrt,hn1,hn8,hpf,hpg⟩:=ho.at hk;obtain ⟨a1,c1,a2,c2,a3,c3,rfl,-,hlog,-,h1,h2,h3⟩:=hv.form;have hcap:=h3.cap;have hle:=h3.le;have le2:=h2.le;have cap2:=h2.cap;obtain ⟨b,off,rfl,hb1,hb2,hcell⟩:=h3.at hk (by decide)
 obtain ⟨f,hf⟩:∃f,s.st k=f:=⟨_,rfl⟩
 obtain ⟨g,hg⟩:∃f,s.en k=f:=⟨_,rfl⟩
 have bw:b<w.heap.size:=by omega
 have hcs:w.rangeAt b (off+k*26) ((List.range 26).map fun j=>.int .i64 (s.F (k*26+j))):=by
  intro j v hj;obtain ⟨h1,h2⟩:=List.getElem?_eq_some_iff.1 hj;simp only [List.length_map,List.length_range] at h1;simp only [List.getElem_map,List.getElem_range] at h2;subst h2;exact hcell j h1
 change w.rangeAt b (off+k*26) [.int .i64 (s.st k 0),.int .i64 (s.st k 1),.int .i64 (s.st k 2),.int .i64 (s.st k 3),.int .i64 (s.st k 4),.int .i64 (s.st k 5),.int .i64 (s.st k 6),.int .i64 (s.st k 7),.int .i64 (s.st k 8),.int .i64 (s.st k 9),.int .i64 (s.st k 10),.int .i64 (s.st k 11),.int .i64 (s.en k 0),.int .i64 (s.en k 1),.int .i64 (s.en k 2),.int .i64 (s.en k 3),.int .i64 (s.en k 4),.int .i64 (s.en k 5),.int .i64 (s.en k 6),.int .i64 (s.en k 7),.int .i64 (s.en k 8),.int .i64 (s.en k 9),.int .i64 (s.en k 10),.int .i64 (s.en k 11),.int .i64 (s.sh k),.int .i64 (s.rt k)] at hcs;simp only [hf,hg,hsh,hrt] at hcs;have hshd:=Scn.shade_at hsh hq hrt;rw [hf] at hshd hpf;have hchk:=ho.prg _ (List.getElem_mem hq);have hsp:=hsm _ (List.getElem_mem hq);have htok:=ho.t;have H1:=hid h1;have H2:=hid h2;have HCS:=hid hcs;have HLOG:=hid hlog;have hTR:=hid (show ∀W:World,Ext w W→TexR lo hi W (.agg #[.int .i64 s.t.log,.slice a1 s.t.px.length c1]) s.t from fun W x=>⟨_,rfl,hlog,(h1.shut).ext hh x⟩);have HCH:=hid hchk;have HSP:=hid hsp;have HTO:=hid htok;have HPF:=hid hpf;have HSD:=hid hshd;have x2:Ext w ((w.alloc (.cells #[.int .i64 s.c.w,.int .i64 s.c.h,.int .i64 s.c.zoom,.int .i64 s.c.near,.bool s.c.deep,.int .i64 s.c.lens,.int .i64 s.c.focus,.int .i64 s.t.log,.slice a1 s.t.px.length c1,.slice a2 s.ps.length c2,.slice (some ⟨b,off,none⟩) s.m c3,.int .i64 s.side] 31)).alloc (.cells #[.slice none 0 0,.slice none 0 0] 92)):=X_;have bS:=(Blk.new w 31 [.int .i64 s.c.w,.int .i64 s.c.h,.int .i64 s.c.zoom,.int .i64 s.c.near,.bool s.c.deep,.int .i64 s.c.lens,.int .i64 s.c.focus,.int .i64 s.t.log,.slice a1 s.t.px.length c1,.slice a2 s.ps.length c2,.slice (some ⟨b,off,none⟩) s.m c3,.int .i64 s.side]).ext (show Ext (w.alloc (.cells #[.int .i64 s.c.w,.int .i64 s.c.h,.int .i64 s.c.zoom,.int .i64 s.c.near,.bool s.c.deep,.int .i64 s.c.lens,.int .i64 s.c.focus,.int .i64 s.t.log,.slice a1 s.t.px.length c1,.slice a2 s.ps.length c2,.slice (some ⟨b,off,none⟩) s.m c3,.int .i64 s.side] 31)) ((w.alloc (.cells #[.int .i64 s.c.w,.int .i64 s.c.h,.int .i64 s.c.zoom,.int .i64 s.c.near,.bool s.c.deep,.int .i64 s.c.lens,.int .i64 s.c.focus,.int .i64 s.t.log,.slice a1 s.t.px.length c1,.slice a2 s.ps.length c2,.slice (some ⟨b,off,none⟩) s.m c3,.int .i64 s.side] 31)).alloc (.cells #[.slice none 0 0,.slice none 0 0] 92)) from X_)
 have bH:Blk ((w.alloc (.cells #[.int .i64 s.c.w,.int .i64 s.c.h,.int .i64 s.c.zoom,.int .i64 s.c.near,.bool s.c.deep,.int .i64 s.c.lens,.int .i64 s.c.focus,.int .i64 s.t.log,.slice a1 s.t.px.length c1,.slice a2 s.ps.length c2,.slice (some ⟨b,off,none⟩) s.m c3,.int .i64 s.side] 31)).alloc (.cells #[.slice none 0 0,.slice none 0 0] 92)) (w.heap.size+1) 92 [.slice none 0 0,.slice none 0 0]:=by
  have h:=Blk.new (w.alloc (.cells #[.int .i64 s.c.w,.int .i64 s.c.h,.int .i64 s.c.zoom,.int .i64 s.c.near,.bool s.c.deep,.int .i64 s.c.lens,.int .i64 s.c.focus,.int .i64 s.t.log,.slice a1 s.t.px.length c1,.slice a2 s.ps.length c2,.slice (some ⟨b,off,none⟩) s.m c3,.int .i64 s.side] 31)) 92 [.slice none 0 0,.slice none 0 0];rw [World.size_alloc] at h;exact h
 have z2:((w.alloc (.cells #[.int .i64 s.c.w,.int .i64 s.c.h,.int .i64 s.c.zoom,.int .i64 s.c.near,.bool s.c.deep,.int .i64 s.c.lens,.int .i64 s.c.focus,.int .i64 s.t.log,.slice a1 s.t.px.length c1,.slice a2 s.ps.length c2,.slice (some ⟨b,off,none⟩) s.m c3,.int .i64 s.side] 31)).alloc (.cells #[.slice none 0 0,.slice none 0 0] 92)).heap.size=w.heap.size+2:=by simp
 clear hv h1 h2 h3 hcs hchk hsp htok hpf hpg hshd hsh hrt hcell hf hg hlog;go_enter Tryz.func41,Tryz.ntmps41;go_upto_region 1 with fail
 obtain ⟨W0,hW0⟩:∃W0,((w.alloc (.cells #[.int .i64 s.c.w,.int .i64 s.c.h,.int .i64 s.c.zoom,.int .i64 s.c.near,.bool s.c.deep,.int .i64 s.c.lens,.int .i64 s.c.focus,.int .i64 s.t.log,.slice a1 s.t.px.length c1,.slice a2 s.ps.length c2,.slice (some ⟨b,off,none⟩) s.m c3,.int .i64 s.side] 31)).alloc (.cells #[.slice none 0 0,.slice none 0 0] 92))=W0:=⟨_,rfl⟩
 rw [hW0] at x2 bS bH z2;rw [hW0];clear hW0;have HX0:=hid x2;have HS:=hid bS;have HH:=hid bH;have Z2:=hid z2;have hc0:W0.rangeAt b (off+k*26) [.int .i64 (f 0),.int .i64 (f 1),.int .i64 (f 2),.int .i64 (f 3),.int .i64 (f 4),.int .i64 (f 5),.int .i64 (f 6),.int .i64 (f 7),.int .i64 (f 8),.int .i64 (f 9),.int .i64 (f 10),.int .i64 (f 11),.int .i64 (g 0),.int .i64 (g 1),.int .i64 (g 2),.int .i64 (g 3),.int .i64 (g 4),.int .i64 (g 5),.int .i64 (g 6),.int .i64 (g 7),.int .i64 (g 8),.int .i64 (g 9),.int .i64 (g 10),.int .i64 (g 11),.int .i64 (q:Nat),.int .i64 (n:Nat)]:=fun j v hj=>(x2.cells.1 b _ bw).trans (HCS.out j v hj);have HC0:=hid hc0;have d10:=bS.cell 10 rfl;have ls:=bS.lt
 have lb:b<W0.heap.size:=by omega
 clear x2 bS bH z2 hc0;go_upto_region 2 with (first|(show wpList _ _ _ [_,_,_] _ _;refine wpList_load_mid rfl _ _ rfl b (off+k*26) rfl [.int .i64 (f 0),.int .i64 (f 1),.int .i64 (f 2),.int .i64 (f 3),.int .i64 (f 4),.int .i64 (f 5),.int .i64 (f 6),.int .i64 (f 7),.int .i64 (f 8),.int .i64 (f 9),.int .i64 (f 10),.int .i64 (f 11),.int .i64 (g 0),.int .i64 (g 1),.int .i64 (g 2),.int .i64 (g 3),.int .i64 (g 4),.int .i64 (g 5),.int .i64 (g 6),.int .i64 (g 7),.int .i64 (g 8),.int .i64 (g 9),.int .i64 (g 10),.int .i64 (g 11),.int .i64 (q:Nat),.int .i64 (n:Nat)] _ HC0.out Tryz.underlying42 rfl info_srfS ?_)|(show wpList _ _ _ [_] _ _;refine wpList_store_fresh _ _ _ rfl 42 (.tmp 5) (.tmp 17) rfl rfl #[.int .i64 (f 0),.int .i64 (f 1),.int .i64 (f 2),.int .i64 (f 3),.int .i64 (f 4),.int .i64 (f 5),.int .i64 (f 6),.int .i64 (f 7),.int .i64 (f 8),.int .i64 (f 9),.int .i64 (f 10),.int .i64 (f 11),.int .i64 (g 0),.int .i64 (g 1),.int .i64 (g 2),.int .i64 (g 3),.int .i64 (g 4),.int .i64 (g 5),.int .i64 (g 6),.int .i64 (g 7),.int .i64 (g 8),.int .i64 (g 9),.int .i64 (g 10),.int .i64 (g 11),.int .i64 (q:Nat),.int .i64 (n:Nat)] W0.heap.size rfl rfl rfl (by kernel_rfl) (by kernel_rfl) (by kernel_rfl) ?_));have xA:Ext W0 (W0.alloc (.cells #[.int .i64 (f 0),.int .i64 (f 1),.int .i64 (f 2),.int .i64 (f 3),.int .i64 (f 4),.int .i64 (f 5),.int .i64 (f 6),.int .i64 (f 7),.int .i64 (f 8),.int .i64 (f 9),.int .i64 (f 10),.int .i64 (f 11),.int .i64 (g 0),.int .i64 (g 1),.int .i64 (g 2),.int .i64 (g 3),.int .i64 (g 4),.int .i64 (g 5),.int .i64 (g 6),.int .i64 (g 7),.int .i64 (g 8),.int .i64 (g 9),.int .i64 (g 10),.int .i64 (g 11),.int .i64 (q:Nat),.int .i64 (n:Nat)] 42)):=X_;have bA:=Blk.new W0 42 [.int .i64 (f 0),.int .i64 (f 1),.int .i64 (f 2),.int .i64 (f 3),.int .i64 (f 4),.int .i64 (f 5),.int .i64 (f 6),.int .i64 (f 7),.int .i64 (f 8),.int .i64 (f 9),.int .i64 (f 10),.int .i64 (f 11),.int .i64 (g 0),.int .i64 (g 1),.int .i64 (g 2),.int .i64 (g 3),.int .i64 (g 4),.int .i64 (g 5),.int .i64 (g 6),.int .i64 (g 7),.int .i64 (g 8),.int .i64 (g 9),.int .i64 (g 10),.int .i64 (g 11),.int .i64 (q:Nat),.int .i64 (n:Nat)]
 obtain ⟨A,hA⟩:∃A,W0.heap.size=A:=⟨_,rfl⟩
 obtain ⟨W1,hW1⟩:∃W1,W0.alloc (.cells #[.int .i64 (f 0),.int .i64 (f 1),.int .i64 (f 2),.int .i64 (f 3),.int .i64 (f 4),.int .i64 (f 5),.int .i64 (f 6),.int .i64 (f 7),.int .i64 (f 8),.int .i64 (f 9),.int .i64 (f 10),.int .i64 (f 11),.int .i64 (g 0),.int .i64 (g 1),.int .i64 (g 2),.int .i64 (g 3),.int .i64 (g 4),.int .i64 (g 5),.int .i64 (g 6),.int .i64 (g 7),.int .i64 (g 8),.int .i64 (g 9),.int .i64 (g 10),.int .i64 (g 11),.int .i64 (q:Nat),.int .i64 (n:Nat)] 42)=W1:=⟨_,rfl⟩
 rw [hW1] at xA bA ⊢;rw [hA] at bA ls lb ⊢;have X1:=hid (HX0.out.trans xA);have S1:=HS.out.ext xA;have HS1:=hid S1;have HH1:=hid (HH.out.ext xA);have HA1:=hid bA;have ZA:=hid (show w.heap.size+2≤A by have:=Z2.out;omega);have d9:=S1.cell 9 rfl;have ls1:=S1.lt;have e24:=bA.cell 24 rfl;have lA:=bA.lt;obtain ⟨b2,off2,na,nc,ga,gc,rfl,hbw2,hbr2,k1,k2,hR⟩:=H2.out.at hq X1.out hh;have HR:=hid hR;clear hW1 hA xA bA S1 hR d10 ls lb HS HH HX0 HC0 HCS;go_wp2_with fail;refine (iCompile_any lo hi _ (s.ps[q]'hq) _ HR.out (Nat.le_trans hh X1.out.size) HCH.out HSP.out.1 HSP.out.2.2).mono ?_;rintro e w5 ⟨u,rfl,R5,x5⟩
 obtain ⟨K,hK⟩:∃K,(s.ps[q]'hq).code=K:=⟨_,rfl⟩
 have HKK:=hid (show K.small by rw [←hK];exact ⟨by have:=code_len (Prg.chkB_K HCH.out);omega,by show ((s.ps[q]'hq).gs.map (·.name)).length≤1048576;rw [List.length_map];exact HSP.out.2.2⟩);have HKD:=hid hK;rw [hK] at R5;obtain ⟨a5,c5,a6,c6,rfl,-,-⟩:=R5.form;have y5:Ext w5 (w5.alloc (.cells #[.slice a5 K.xs.length c5,.slice a6 K.ls.length c6] 126)):=X_;have bC:=Blk.new w5 126 [.slice a5 K.xs.length c5,.slice a6 K.ls.length c6];have HC5:=hid (R5.ext (Nat.le_refl _) y5);have X5:=hid (X1.out.trans (x5.trans y5));have S5:=HS1.out.ext (x5.trans y5);have HS5:=hid S5;have HH5:=hid (HH1.out.ext (x5.trans y5));have A5:=HA1.out.ext (x5.trans y5);have HA5:=hid A5;have HB5:=hid bC;have z5:=(x5.trans y5).size;have zw5:=y5.size;have zx5:=x5.size;have d7:=S5.cell 7 rfl;have d8:=S5.cell 8 rfl;have ls5:=S5.lt;obtain ⟨e0,e1,e2,e3,e4,e5,e6,e7,e8,e9,e10,e11⟩:=A5.q12;have e25:=A5.cell 25 rfl;have lA5:=A5.lt;have ZF:=hid (show w.heap.size+2≤(w5.alloc (.cells #[.slice a5 K.xs.length c5,.slice a6 K.ls.length c6] 126)).heap.size by have:=ZA.out;omega);clear R5 x5 y5 bC S5 A5 d9 ls1 e24 lA k1 k2 hK HS1 HH1 HA1 HR;go_wp2_with fail;refine (iGridOf_any lo hi f HPF.out n ⟨hn1,hn8⟩ _ s.t _ (hTR.out _ X5.out) (Nat.le_trans hh X5.out.size) HTO.out).mono ?_;rintro e w6 ⟨gv,rfl,R6,x6⟩
 obtain ⟨g1,g2,hg⟩:∃g:Grd,gridP f n s.t=g∧True:=⟨_,rfl,trivial⟩
 have HGD:=hid g2;rw [g2] at R6;obtain ⟨a7,c7,a8,c8,rfl⟩:=Grd.R.formS R6;have y6:Ext w6 (w6.alloc (.cells #[.int .i64 g1.n,.slice a7 g1.m c7,.int .i64 g1.tm,.int .i64 g1.t.log,.slice a8 g1.t.px.length c8] 135)):=X_;have bG:=Blk.new w6 135 [.int .i64 g1.n,.slice a7 g1.m c7,.int .i64 g1.tm,.int .i64 g1.t.log,.slice a8 g1.t.px.length c8];have HG6:=hid (R6.ext (Nat.le_refl _) y6);have X6:=hid (X5.out.trans (x6.trans y6));have HH6:=hid (HH5.out.ext (x6.trans y6));have B6:=HB5.out.ext (x6.trans y6);have HC6:=hid (HC5.out.ext (by have:=zw5;omega) (x6.trans y6));have z6:=(x6.trans y6).size;have zw6:=y6.size;obtain ⟨f0,f1⟩:=B6.q2;have lB6:=B6.lt;obtain ⟨i0,i1,i2,i3,i4⟩:=bG.q5;have lG:=bG.lt;clear R6 x6 y6 bG B6 hg g2 d7 d8 ls5 e0 e1 e2 e3 e4 e5 e6 e7 e8 e9 e10 e11 e25 lA5;go_wp2_with fail
 have hS:∃X Y bb,K.shade g1=(X,Y,bb):=⟨_,_,_,rfl⟩
 obtain ⟨X,Y,bb,hXY⟩:=hS
 have hXY2:(s.shade k).1=X∧(s.shade k).2=Y:=by
  rw [HSD.out,HKD.out,HGD.out,hXY];exact ⟨rfl,rfl⟩
 have HE:=hid hXY2;have HXY:=hid hXY;clear hXY hXY2;refine (iShadeGrid_any _ _ _ _ _ _ K g1 _ HXY.out HC6.out (by omega) HG6.out (by omega) HKK.out).mono ?_;rintro e w7 ⟨r1,r2,rfl,h,hh1,hh2,O1,O2,x7⟩;obtain ⟨ra,rc,rfl⟩:=O1.form;obtain ⟨sa,sc,rfl⟩:=O2.form;have B7:=HH6.out.ext x7;have HB7:=hid B7;have X7:=hid (X6.out.trans x7);have HO1:=hid O1;have HO2:=hid O2;obtain ⟨p0,p1⟩:=B7.q2;have q0:=B7.free 0;have q1:=B7.free 1;have lB7:=B7.lt;clear B7 O1 O2 x7 f0 f1 lB6 i0 i1 i2 i3 i4 lG;go_wp2;have bF:=(HB7.out.set 0 (.slice ra X.length rc)).set 1 (.slice sa Y.length sc);refine ret_box rfl rfl bF _ Tryz.underlying92 rfl info_shd rfl ?_;have ZA2:=ZF.out;refine ⟨_,_,rfl,h,by omega,by rw [World.size_setCell,World.size_setCell];exact hh2,?_,?_,?_⟩
 ·rw [HE.out.1]
  exact ((HO1.out.setLow (p:=⟨w.heap.size+1,0,none⟩) (by simp only;omega) _).setLow (p:=⟨w.heap.size+1,1,none⟩) (by simp only;omega) _).low' (by omega)
 ·rw [HE.out.2,World.size_setCell,World.size_setCell]
  exact (HO2.out.setLow (p:=⟨w.heap.size+1,0,none⟩) (by simp only;omega) _).setLow (p:=⟨w.heap.size+1,1,none⟩) (by simp only;omega) _
 ·exact Ext.setCell (Ext.setCell X7.out (by simp only;omega) _) (by simp only;omega) _
theorem Scn.R.formV {s:Scn} {lo hi:Nat} {w:World} {v:Value} (h:s.R lo hi w v):∃a1 c1 a2 c2 a3 c3,v = .agg #[.int .i64 s.c.w,.int .i64 s.c.h,.int .i64 s.c.zoom,.int .i64 s.c.near,.bool s.c.deep,.int .i64 s.c.lens,.int .i64 s.c.focus,.int .i64 s.t.log,.slice a1 s.t.px.length c1,.slice a2 s.ps.length c2,.slice a3 s.m c3,.int .i64 s.side]:=by
 obtain ⟨a1,c1,a2,c2,a3,c3,e,_⟩:=h.form;exact ⟨a1,c1,a2,c2,a3,c3,e⟩
theorem Scn.R.mlt {s:Scn} {lo hi:Nat} {w:World} {v:Value} (h:s.R lo hi w v):(s.m:Int)≤9223372036854775807:=by
 obtain ⟨a1,c1,a2,c2,a3,c3,e,-,-,-,-,-,h3⟩:=h.form;have h1:=h3.le;have h2:=h3.cap;omega
theorem iHasSurface_any (s:Scn) (lo hi:Nat) (v:Value) (k:Int) (w:World) (hv:s.R lo hi w v) (hh:hi≤w.heap.size) (hsm:s.small) {r:Bool} (hr:(s.okB&&inB k 0 ((s.m:Int) - 1))=r) :
  Calls Tryz.prog 38 #[v,.int .i64 k] w fun e w'=>e = .returned (.bool r)∧Ext w w':=by
 have HV:=hid hv;have hm:=hv.mlt;obtain ⟨a1,c1,a2,c2,a3,c3,rfl⟩:=hv.formV;have HSM:=hid hsm;have x1:Ext w (w.alloc (.cells #[.int .i64 s.c.w,.int .i64 s.c.h,.int .i64 s.c.zoom,.int .i64 s.c.near,.bool s.c.deep,.int .i64 s.c.lens,.int .i64 s.c.focus,.int .i64 s.t.log,.slice a1 s.t.px.length c1,.slice a2 s.ps.length c2,.slice a3 s.m c3,.int .i64 s.side] 31)):=X_;have bS:=Blk.new w 31 [.int .i64 s.c.w,.int .i64 s.c.h,.int .i64 s.c.zoom,.int .i64 s.c.near,.bool s.c.deep,.int .i64 s.c.lens,.int .i64 s.c.focus,.int .i64 s.t.log,.slice a1 s.t.px.length c1,.slice a2 s.ps.length c2,.slice a3 s.m c3,.int .i64 s.side];have HX:=hid x1;have HB:=hid bS
 obtain ⟨b,hb⟩:∃b,s.okB=b:=⟨_,rfl⟩
 rw [hb] at hr;have HO:=hid hb;clear hv hsm x1 bS hb
 cases b
 ·have hr2:false=r:=hr
  subst hr2;go_enter Tryz.func38,Tryz.ntmps38;go_wp2_with fail;refine (iIsValidScene_any s lo hi _ _ (HV.out.ext hh HX.out) (Nat.le_trans hh HX.out.size) HSM.out).mono ?_;rw [HO.out];rintro e w3 ⟨rfl,x3⟩;have y3:=HX.out.trans x3;go_wp2;go_ret;exact ⟨rfl,y3⟩
 ·have hr2:inB k 0 ((s.m:Int) - 1)=r:=hr
  have HR:=hid hr2;clear hr hr2;go_enter Tryz.func38,Tryz.ntmps38;go_wp2_with fail;refine (iIsValidScene_any s lo hi _ _ (HV.out.ext hh HX.out) (Nat.le_trans hh HX.out.size) HSM.out).mono ?_;rw [HO.out];rintro e w3 ⟨rfl,x3⟩;have b3:=HB.out.ext x3;have y3:=hid (HX.out.trans x3);have c10:=b3.cell 10 rfl;have l3:=b3.lt;clear b3 x3;go_wp2_with (go_at_call 54;refine (within_val HR.out _).mono ?_;rintro e w4 ⟨rfl,rfl⟩);go_ret;exact ⟨rfl,y3.out⟩
def Shds (s:Scn) (lo:Nat) (w:World) (v:Value) (j:Nat):Prop:=∃us:List (Value×Value),us.length=j∧OwnG pairCs lo 92 2 w v us∧∀k u,us[k]?=some u→OwnInts lo w u.1 (s.shade k).1∧OwnInts lo w u.2 (s.shade k).2
theorem Shds.ext {s:Scn} {lo j:Nat} {w w':World} {v:Value} (h:Shds s lo w v j) (x:Ext w w'):Shds s lo w' v j:=by
 obtain ⟨us,h1,h2,h3⟩:=h;exact ⟨us,h1,h2.ext x,fun k u hu=>⟨(h3 k u hu).1.ext x,(h3 k u hu).2.ext x⟩⟩
theorem Shds.low {s:Scn} {lo lo' j:Nat} {w:World} {v:Value} (h:Shds s lo w v j) (hl:lo'≤lo):Shds s lo' w v j:=by
 obtain ⟨us,h1,h2,h3⟩:=h;exact ⟨us,h1,h2.low hl,fun k u hu=>⟨(h3 k u hu).1.low hl,(h3 k u hu).2.low hl⟩⟩
theorem OwnInts.grownS {lo lo':Nat} {w w':World} {v r:Value} {xs:List Int} {us:List (Value×Value)} (h:OwnInts lo w r xs) (ho:OwnG pairCs lo' 92 2 w v us) (hg:w.grownBy w' v.ownBlock):OwnInts lo w' r xs:=
 h.grown hg fun k hk e=>by
  obtain ⟨c,hc⟩:=h.block hk;obtain ⟨_,c',hc'⟩:=OwnG.rowF ho k e.symm;rw [hc] at hc';simp only [Option.some.injEq,Obj.cells.injEq] at hc';exact absurd hc'.2.1 (by decide)
theorem Shds.push {s:Scn} {lo j:Nat} {w w':World} {v v' r1 r2:Value} {us:List (Value×Value)} (h1:us.length=j) (h2:OwnG pairCs lo 92 2 w v us) (h3:∀k u,us[k]?=some u→OwnInts lo w u.1 (s.shade k).1∧OwnInts lo w u.2 (s.shade k).2)
  (hr1:OwnInts lo w r1 (s.shade j).1) (hr2:OwnInts lo w r2 (s.shade j).2) (hg:w.grownBy w' v.ownBlock) (hown:OwnG pairCs lo 92 2 w' v' (us++[(r1,r2)])):Shds s lo w' v' (j+1):=by
 refine ⟨us++[(r1,r2)],by simp [h1],hown,fun k u hu=>?_⟩
 rcases Nat.lt_or_ge k us.length with hk|hk
 ·rw [List.getElem?_append_left hk] at hu
  exact ⟨(h3 k u hu).1.grownS h2 hg,(h3 k u hu).2.grownS h2 hg⟩
 ·rw [List.getElem?_append_right hk] at hu
  have hk0:k - us.length=0:=by
   have:=(List.getElem?_eq_some_iff.1 hu).1;simp at this;omega
  rw [hk0] at hu
  obtain rfl:(r1,r2)=u:=by simpa using hu
  obtain rfl:k=j:=by omega
  exact ⟨hr1.grownS h2 hg,hr2.grownS h2 hg⟩
theorem OwnG.empty {α : Type} (cs : α→List Value) {lo sz g:Nat} {e:TypeId} {w:World} (hl:lo≤g) (hg:w.heap[g]?=some (.cells #[] e (0,0))):OwnG cs lo e sz w (.slice (some ⟨g,0,none⟩) 0 0) []:=
 ⟨by simp,.inr ⟨g,0,#[],rfl,hl,hg,Nat.le_refl _,by unfold maxLen;omega,by simp,by simp⟩⟩
theorem sRate_any (r:Int) (w:World):Calls Tryz.prog 184 #[.int .i64 r] w fun e w'=>e = .returned (.bool (rateB r))∧Ext w w':=by
 unfold rateB;go_enter Tryz.func184,Tryz.ntmps184;go_wp2
 all_goals
  go_ret;exact ⟨by first|rfl|simp [*],X_⟩
theorem sIsValidPatch_any (f:Nat→Int) (w:World):Calls Tryz.prog 125 #[.agg #[.int .i64 (f 0),.int .i64 (f 1),.int .i64 (f 2),.int .i64 (f 3),.int .i64 (f 4),.int .i64 (f 5),.int .i64 (f 6),.int .i64 (f 7),.int .i64 (f 8),.int .i64 (f 9),.int .i64 (f 10),.int .i64 (f 11)]] w fun e w'=>e = .returned (.bool (patB f))∧Ext w w':=by
 have j0:=idxP f 0 (by decide);have j1:=idxP f 1 (by decide);have j2:=idxP f 2 (by decide);have j3:=idxP f 3 (by decide);simp only [Nat.mul_zero,Nat.zero_add,Nat.mul_one,Nat.reduceAdd,Nat.reduceMul,Int.cast_ofNat_Int] at j0 j1 j2 j3;have X0:Ext w (w.alloc (.cells #[.int .i64 (f 0),.int .i64 (f 1),.int .i64 (f 2),.int .i64 (f 3),.int .i64 (f 4),.int .i64 (f 5),.int .i64 (f 6),.int .i64 (f 7),.int .i64 (f 8),.int .i64 (f 9),.int .i64 (f 10),.int .i64 (f 11)] 40)):=X_;go_enter Tryz.func125,Tryz.ntmps125;go_wp2_with fail
 obtain ⟨W0,hW0⟩:∃W0,(w.alloc (.cells #[.int .i64 (f 0),.int .i64 (f 1),.int .i64 (f 2),.int .i64 (f 3),.int .i64 (f 4),.int .i64 (f 5),.int .i64 (f 6),.int .i64 (f 7),.int .i64 (f 8),.int .i64 (f 9),.int .i64 (f 10),.int .i64 (f 11)] 40))=W0:=⟨_,rfl⟩
 rw [hW0] at X0 ⊢;clear hW0
 go_loopw [7] (fun i wr=>∃k:Nat,k≤4∧i = .int .i64 (k:Nat)∧Ext w wr∧(0<k→okVec (f 0) (f 1) (f 2)=true)∧(1<k→okVec (f 3) (f 4) (f 5)=true)∧(2<k→okVec (f 6) (f 7) (f 8)=true)∧(3<k→okVec (f 9) (f 10) (f 11)=true)) (fun i _=>4 - (intOf i).toNat)
 case atStart=>exact ⟨0,by omega,rfl,X0,by omega,by omega,by omega,by omega⟩
 case round=>
  obtain ⟨k,hk,rfl,hx,b0,b1,b2,b3⟩:=hrel;have HX:=hid hx;have B0:=hid b0;have B1:=hid b1;have B2:=hid b2;have B3:=hid b3;clear hx b0 b1 b2 b3 X0
  rcases (show k=0∨k=1∨k=2∨k=3∨k=4 by omega) with rfl|rfl|rfl|rfl|rfl
  ·go_wp2_with fail
   refine (sIsValidVec_val _).mono ?_;rintro e w3 ⟨rfl,x3⟩;have y3:Ext wr w3:=Ext.trans (show Ext wr (wr.alloc (.cells #[.int .i64 (f 0),.int .i64 (f 1),.int .i64 (f 2)] 37)) from X_) x3
   cases hb:okVec (f 0) (f 1) (f 2)
   ·go_wp2
    go_ret;exact ⟨by rw [patB_split,hb];simp,HX.out.trans y3⟩
   ·have HB:=hid hb
    clear hb;go_wp2;go_roundw
    case rel=>exact ⟨1,by omega,by go_num,HX.out.trans y3,fun _=>HB.out,fun h=>absurd h (by omega),fun h=>absurd h (by omega),fun h=>absurd h (by omega)⟩
    case measure=>simp [intOf]
  ·go_wp2_with fail
   refine (sIsValidVec_val _).mono ?_;rintro e w3 ⟨rfl,x3⟩;have y3:Ext wr w3:=Ext.trans (show Ext wr (wr.alloc (.cells #[.int .i64 (f 3),.int .i64 (f 4),.int .i64 (f 5)] 37)) from X_) x3
   cases hb:okVec (f 3) (f 4) (f 5)
   ·go_wp2
    go_ret;exact ⟨by rw [patB_split,hb];simp,HX.out.trans y3⟩
   ·have HB:=hid hb
    clear hb;go_wp2;go_roundw
    case rel=>exact ⟨2,by omega,by go_num,HX.out.trans y3,fun h=>B0.out (by omega),fun _=>HB.out,fun h=>absurd h (by omega),fun h=>absurd h (by omega)⟩
    case measure=>simp [intOf]
  ·go_wp2_with fail
   refine (sIsValidVec_val _).mono ?_;rintro e w3 ⟨rfl,x3⟩;have y3:Ext wr w3:=Ext.trans (show Ext wr (wr.alloc (.cells #[.int .i64 (f 6),.int .i64 (f 7),.int .i64 (f 8)] 37)) from X_) x3
   cases hb:okVec (f 6) (f 7) (f 8)
   ·go_wp2
    go_ret;exact ⟨by rw [patB_split,hb];simp,HX.out.trans y3⟩
   ·have HB:=hid hb
    clear hb;go_wp2;go_roundw
    case rel=>exact ⟨3,by omega,by go_num,HX.out.trans y3,fun h=>B0.out (by omega),fun h=>B1.out (by omega),fun _=>HB.out,fun h=>absurd h (by omega)⟩
    case measure=>simp [intOf]
  ·go_wp2_with fail
   refine (sIsValidVec_val _).mono ?_;rintro e w3 ⟨rfl,x3⟩;have y3:Ext wr w3:=Ext.trans (show Ext wr (wr.alloc (.cells #[.int .i64 (f 9),.int .i64 (f 10),.int .i64 (f 11)] 37)) from X_) x3
   cases hb:okVec (f 9) (f 10) (f 11)
   ·go_wp2
    go_ret;exact ⟨by rw [patB_split,hb];simp,HX.out.trans y3⟩
   ·have HB:=hid hb
    clear hb;go_wp2;go_roundw
    case rel=>exact ⟨4,by omega,by go_num,HX.out.trans y3,fun h=>B0.out (by omega),fun h=>B1.out (by omega),fun h=>B2.out (by omega),fun _=>HB.out⟩
    case measure=>simp [intOf]
  ·go_wp2
   go_ret;exact ⟨by rw [patB_split,B0.out (by omega),B1.out (by omega),B2.out (by omega),B3.out (by omega)];rfl,HX.out⟩
theorem sIsValidSurface_any (f g:Nat→Int) (sh rt:Int) (n:Nat) (w:World):Calls Tryz.prog 121 #[.agg #[.int .i64 (f 0),.int .i64 (f 1),.int .i64 (f 2),.int .i64 (f 3),.int .i64 (f 4),.int .i64 (f 5),.int .i64 (f 6),.int .i64 (f 7),.int .i64 (f 8),.int .i64 (f 9),.int .i64 (f 10),.int .i64 (f 11),.int .i64 (g 0),.int .i64 (g 1),.int .i64 (g 2),.int .i64 (g 3),.int .i64 (g 4),.int .i64 (g 5),.int .i64 (g 6),.int .i64 (g 7),.int .i64 (g 8),.int .i64 (g 9),.int .i64 (g 10),.int .i64 (g 11),.int .i64 sh,.int .i64 rt],.int .i64 (n:Nat)] w fun e w'=>e = .returned (.bool (srfB f g sh rt n))∧Ext w w':=by
 have q0:=Blk.new w 42 [.int .i64 (f 0),.int .i64 (f 1),.int .i64 (f 2),.int .i64 (f 3),.int .i64 (f 4),.int .i64 (f 5),.int .i64 (f 6),.int .i64 (f 7),.int .i64 (f 8),.int .i64 (f 9),.int .i64 (f 10),.int .i64 (f 11),.int .i64 (g 0),.int .i64 (g 1),.int .i64 (g 2),.int .i64 (g 3),.int .i64 (g 4),.int .i64 (g 5),.int .i64 (g 6),.int .i64 (g 7),.int .i64 (g 8),.int .i64 (g 9),.int .i64 (g 10),.int .i64 (g 11),.int .i64 sh,.int .i64 rt];have R0:=hid q0;have X0:=hid (show Ext w (w.alloc (.cells #[.int .i64 (f 0),.int .i64 (f 1),.int .i64 (f 2),.int .i64 (f 3),.int .i64 (f 4),.int .i64 (f 5),.int .i64 (f 6),.int .i64 (f 7),.int .i64 (f 8),.int .i64 (f 9),.int .i64 (f 10),.int .i64 (f 11),.int .i64 (g 0),.int .i64 (g 1),.int .i64 (g 2),.int .i64 (g 3),.int .i64 (g 4),.int .i64 (g 5),.int .i64 (g 6),.int .i64 (g 7),.int .i64 (g 8),.int .i64 (g 9),.int .i64 (g 10),.int .i64 (g 11),.int .i64 sh,.int .i64 rt] 42)) from X_);clear q0
 obtain ⟨b1,hb1⟩:∃b,patB f=b:=⟨_,rfl⟩
 obtain ⟨b2,hb2⟩:∃b,patB g=b:=⟨_,rfl⟩
 obtain ⟨b3,hb3⟩:∃b,rateB rt=b:=⟨_,rfl⟩
 have C1:∀W:World,Calls Tryz.prog 125 #[.agg #[.int .i64 (f 0),.int .i64 (f 1),.int .i64 (f 2),.int .i64 (f 3),.int .i64 (f 4),.int .i64 (f 5),.int .i64 (f 6),.int .i64 (f 7),.int .i64 (f 8),.int .i64 (f 9),.int .i64 (f 10),.int .i64 (f 11)]] W fun e w'=>e = .returned (.bool b1)∧Ext W w':=fun W=>hb1▸sIsValidPatch_any f W;have C2:∀W:World,Calls Tryz.prog 125 #[.agg #[.int .i64 (g 0),.int .i64 (g 1),.int .i64 (g 2),.int .i64 (g 3),.int .i64 (g 4),.int .i64 (g 5),.int .i64 (g 6),.int .i64 (g 7),.int .i64 (g 8),.int .i64 (g 9),.int .i64 (g 10),.int .i64 (g 11)]] W fun e w'=>e = .returned (.bool b2)∧Ext W w':=fun W=>hb2▸sIsValidPatch_any g W;have C3:∀W:World,Calls Tryz.prog 184 #[.int .i64 rt] W fun e w'=>e = .returned (.bool b3)∧Ext W w':=fun W=>hb3▸sRate_any rt W;have H1:=hid C1;have H2:=hid C2;have H3:=hid C3;unfold YtfjbiifebcfjfaaGreat.srfB;rw [hb1,hb2,hb3];clear hb1 hb2 hb3 C1 C2 C3
 cases b1
 case false=>
  go_enter Tryz.func121,Tryz.ntmps121;go_wp2_with fail;refine (H1.out _).mono ?_;rintro e w1 ⟨rfl,x1⟩;have X1:=hid (X0.out.trans x1);have R1:=hid (R0.out.ext x1);clear x1;go_wp2;go_ret;exact ⟨by simp [*],X1.out⟩
 case true=>
  cases b2
  case false=>
   go_enter Tryz.func121,Tryz.ntmps121;go_wp2_with fail;refine (H1.out _).mono ?_;rintro e w1 ⟨rfl,x1⟩;have X1:=hid (X0.out.trans x1);have R1:=hid (R0.out.ext x1);clear x1;have c12:=R1.out.cell 12 rfl;have c13:=R1.out.cell 13 rfl;have c14:=R1.out.cell 14 rfl;have c15:=R1.out.cell 15 rfl;have c16:=R1.out.cell 16 rfl;have c17:=R1.out.cell 17 rfl;have c18:=R1.out.cell 18 rfl;have c19:=R1.out.cell 19 rfl;have c20:=R1.out.cell 20 rfl;have c21:=R1.out.cell 21 rfl;have c22:=R1.out.cell 22 rfl;have c23:=R1.out.cell 23 rfl;go_wp2_with fail;refine (H2.out _).mono ?_;rintro e w2 ⟨rfl,x2⟩;have X2:=hid (X1.out.trans x2);have R2:=hid (R1.out.ext x2);clear x2;go_wp2;go_ret;exact ⟨by simp [*],X2.out⟩
  case true=>
   rcases Int.lt_or_le sh 0 with h0|h0
   ·have g0:decide (0≤sh)=false:=by simp;omega
    go_enter Tryz.func121,Tryz.ntmps121;go_wp2_with fail;refine (H1.out _).mono ?_;rintro e w1 ⟨rfl,x1⟩;have X1:=hid (X0.out.trans x1);have R1:=hid (R0.out.ext x1);clear x1;have c12:=R1.out.cell 12 rfl;have c13:=R1.out.cell 13 rfl;have c14:=R1.out.cell 14 rfl;have c15:=R1.out.cell 15 rfl;have c16:=R1.out.cell 16 rfl;have c17:=R1.out.cell 17 rfl;have c18:=R1.out.cell 18 rfl;have c19:=R1.out.cell 19 rfl;have c20:=R1.out.cell 20 rfl;have c21:=R1.out.cell 21 rfl;have c22:=R1.out.cell 22 rfl;have c23:=R1.out.cell 23 rfl;go_wp2_with fail;refine (H2.out _).mono ?_;rintro e w2 ⟨rfl,x2⟩;have X2:=hid (X1.out.trans x2);have R2:=hid (R1.out.ext x2);clear x2;have c24:=R2.out.cell 24 rfl;go_wp2;go_ret;exact ⟨by simp [*],X2.out⟩
   ·have g0:decide (0≤sh)=true:=by simp;omega
    rcases Int.lt_or_le sh n with h1|h1
    ·have g1:decide (sh<(n:Int))=true:=by simp;omega
     go_enter Tryz.func121,Tryz.ntmps121;go_wp2_with fail;refine (H1.out _).mono ?_;rintro e w1 ⟨rfl,x1⟩;have X1:=hid (X0.out.trans x1);have R1:=hid (R0.out.ext x1);clear x1;have c12:=R1.out.cell 12 rfl;have c13:=R1.out.cell 13 rfl;have c14:=R1.out.cell 14 rfl;have c15:=R1.out.cell 15 rfl;have c16:=R1.out.cell 16 rfl;have c17:=R1.out.cell 17 rfl;have c18:=R1.out.cell 18 rfl;have c19:=R1.out.cell 19 rfl;have c20:=R1.out.cell 20 rfl;have c21:=R1.out.cell 21 rfl;have c22:=R1.out.cell 22 rfl;have c23:=R1.out.cell 23 rfl;go_wp2_with fail;refine (H2.out _).mono ?_;rintro e w2 ⟨rfl,x2⟩;have X2:=hid (X1.out.trans x2);have R2:=hid (R1.out.ext x2);clear x2;have c24:=R2.out.cell 24 rfl;have c25:=R2.out.cell 25 rfl;go_wp2_with fail;refine (H3.out _).mono ?_;rintro e w3 ⟨rfl,x3⟩;have X3:=hid (X2.out.trans x3);have R3:=hid (R2.out.ext x3);clear x3;go_wp2;go_ret;exact ⟨by simp [*],X3.out⟩
    ·have g1:decide (sh<(n:Int))=false:=by simp;omega
     go_enter Tryz.func121,Tryz.ntmps121;go_wp2_with fail;refine (H1.out _).mono ?_;rintro e w1 ⟨rfl,x1⟩;have X1:=hid (X0.out.trans x1);have R1:=hid (R0.out.ext x1);clear x1;have c12:=R1.out.cell 12 rfl;have c13:=R1.out.cell 13 rfl;have c14:=R1.out.cell 14 rfl;have c15:=R1.out.cell 15 rfl;have c16:=R1.out.cell 16 rfl;have c17:=R1.out.cell 17 rfl;have c18:=R1.out.cell 18 rfl;have c19:=R1.out.cell 19 rfl;have c20:=R1.out.cell 20 rfl;have c21:=R1.out.cell 21 rfl;have c22:=R1.out.cell 22 rfl;have c23:=R1.out.cell 23 rfl;go_wp2_with fail;refine (H2.out _).mono ?_;rintro e w2 ⟨rfl,x2⟩;have X2:=hid (X1.out.trans x2);have R2:=hid (R1.out.ext x2);clear x2;have c24:=R2.out.cell 24 rfl;go_wp2;go_ret;exact ⟨by simp [*],X2.out⟩
theorem l05Mean_val {a b d e i j n r:Int} (ha : -1000000≤a∧a≤1000000) (hb : -1000000≤b∧b≤1000000) (hd : -1000000≤d∧d≤1000000) (he : -1000000≤e∧e≤1000000) (hn:1≤n∧n≤64) (hi:0≤i∧i≤n) (hj:0≤j∧j≤n)
  (hr:fdiv (a*((n - i)*(n - j))+b*(i*(n - j))+d*((n - i)*j)+e*(i*j)) (n*n)=r) (w:World) :
  Calls Tryz.prog 188 #[.int .i64 a,.int .i64 b,.int .i64 d,.int .i64 e,.int .i64 i,.int .i64 j,.int .i64 n] w fun x w'=>x = .returned (.int .i64 r)∧w=w':=by
 obtain ⟨ni,hni⟩:∃x,n - i=x:=⟨_,rfl⟩
 obtain ⟨nj,hnj⟩:∃x,n - j=x:=⟨_,rfl⟩
 have nib : -64≤ni∧ni≤64:=by omega
 have njb : -64≤nj∧nj≤64:=by omega
 have ib : -64≤i∧i≤64:=by omega
 have jb : -64≤j∧j≤64:=by omega
 have nb : -64≤n∧n≤64:=by omega
 obtain ⟨q1,hq1⟩:∃x,a*ni=x:=⟨_,rfl⟩
 have b1 : -64000000≤q1∧q1≤64000000:=by have:=mul_abs (A:=1000000) (B:=64) ha nib;omega
 obtain ⟨q2,hq2⟩:∃x,q1*nj=x:=⟨_,rfl⟩
 have b2 : -4096000000≤q2∧q2≤4096000000:=by have:=mul_abs (A:=64000000) (B:=64) b1 njb;omega
 obtain ⟨q3,hq3⟩:∃x,b*i=x:=⟨_,rfl⟩
 have b3 : -64000000≤q3∧q3≤64000000:=by have:=mul_abs (A:=1000000) (B:=64) hb ib;omega
 obtain ⟨q4,hq4⟩:∃x,q3*nj=x:=⟨_,rfl⟩
 have b4 : -4096000000≤q4∧q4≤4096000000:=by have:=mul_abs (A:=64000000) (B:=64) b3 njb;omega
 obtain ⟨q5,hq5⟩:∃x,d*ni=x:=⟨_,rfl⟩
 have b5 : -64000000≤q5∧q5≤64000000:=by have:=mul_abs (A:=1000000) (B:=64) hd nib;omega
 obtain ⟨q6,hq6⟩:∃x,q5*j=x:=⟨_,rfl⟩
 have b6 : -4096000000≤q6∧q6≤4096000000:=by have:=mul_abs (A:=64000000) (B:=64) b5 jb;omega
 obtain ⟨q7,hq7⟩:∃x,e*i=x:=⟨_,rfl⟩
 have b7 : -64000000≤q7∧q7≤64000000:=by have:=mul_abs (A:=1000000) (B:=64) he ib;omega
 obtain ⟨q8,hq8⟩:∃x,q7*j=x:=⟨_,rfl⟩
 have b8 : -4096000000≤q8∧q8≤4096000000:=by have:=mul_abs (A:=64000000) (B:=64) b7 jb;omega
 obtain ⟨q9,hq9⟩:∃x,n*n=x:=⟨_,rfl⟩
 have b9 : -4096≤q9∧q9≤4096:=by have:=mul_abs (A:=64) (B:=64) nb nb;omega
 have hs:fdiv (q2+q4+q6+q8) q9=r:=by
  rw [←hr,←hq9]
  congr 1
  rw [←hq2,←hq4,←hq6,←hq8,←hq1,←hq3,←hq5,←hq7,hni,hnj];simp only [Int.mul_assoc]
 have HS:=hid hs;clear hr hs;go_enter Tryz.func188,Tryz.ntmps188;go_wp2_with fail;refine (sFloorDiv_val ⟨by omega,by omega⟩ HS.out _).mono ?_;rintro e1 w1 ⟨rfl,rfl⟩;go_wp2;go_ret;exact ⟨rfl,rfl⟩
theorem sEvalP_any (f:Nat→Int) (i j n:Int) (hn:1≤n∧n≤64) (hi:0≤i∧i≤n) (hj:0≤j∧j≤n) (w:World) :
  Calls Tryz.prog 126 #[.agg #[.int .i64 (f 0),.int .i64 (f 1),.int .i64 (f 2),.int .i64 (f 3),.int .i64 (f 4),.int .i64 (f 5),.int .i64 (f 6),.int .i64 (f 7),.int .i64 (f 8),.int .i64 (f 9),.int .i64 (f 10),.int .i64 (f 11)],.int .i64 i,.int .i64 j,.int .i64 n] w fun e w'=>e = .returned ((evP f i j n).V)∧Ext w w':=by
 obtain ⟨g,hg⟩:∃g:Nat→Int,g=fun k=>cl (f k):=⟨_,rfl⟩
 have HG:=hid (show ∀k,cl (f k)=g k from fun k=>by rw [hg]);have HB:=hid (show ∀k,-1000000≤g k∧g k≤1000000 from fun k=>by rw [hg];exact cl_bd _)
 obtain ⟨m1,hm1⟩:∃m,(evP f i j n).x=m:=⟨_,rfl⟩
 obtain ⟨m2,hm2⟩:∃m,(evP f i j n).y=m:=⟨_,rfl⟩
 obtain ⟨m3,hm3⟩:∃m,(evP f i j n).z=m:=⟨_,rfl⟩
 have HM1:=hid (show fdiv (g 0*((n - i)*(n - j))+g 3*(i*(n - j))+g 6*((n - i)*j)+g 9*(i*j)) (n*n)=m1 by rw [hg,←hm1];rfl);have HM2:=hid (show fdiv (g 1*((n - i)*(n - j))+g 4*(i*(n - j))+g 7*((n - i)*j)+g 10*(i*j)) (n*n)=m2 by rw [hg,←hm2];rfl);have HM3:=hid (show fdiv (g 2*((n - i)*(n - j))+g 5*(i*(n - j))+g 8*((n - i)*j)+g 11*(i*j)) (n*n)=m3 by rw [hg,←hm3];rfl)
 have hV:(evP f i j n).V = .agg #[.int .i64 m1,.int .i64 m2,.int .i64 m3]:=by rw [←hm1,←hm2,←hm3];rfl
 rw [hV];have HN2:=hid hn;have HI2:=hid hi;have HJ2:=hid hj;clear hg hm1 hm2 hm3 hV;have r0:=row12_new (w:=w) (t:=40) (f:=f) rfl
 have q0:=(Blk.new (w.alloc (.cells #[.int .i64 (f 0),.int .i64 (f 1),.int .i64 (f 2),.int .i64 (f 3),.int .i64 (f 4),.int .i64 (f 5),.int .i64 (f 6),.int .i64 (f 7),.int .i64 (f 8),.int .i64 (f 9),.int .i64 (f 10),.int .i64 (f 11)] 40)) 37 [.int .i64 0,.int .i64 0,.int .i64 0])
 rw [World.size_alloc] at q0;have x0:Ext w ((w.alloc (.cells #[.int .i64 (f 0),.int .i64 (f 1),.int .i64 (f 2),.int .i64 (f 3),.int .i64 (f 4),.int .i64 (f 5),.int .i64 (f 6),.int .i64 (f 7),.int .i64 (f 8),.int .i64 (f 9),.int .i64 (f 10),.int .i64 (f 11)] 40)).alloc (.cells #[.int .i64 0,.int .i64 0,.int .i64 0] 37)):=X_;have R0:=hid (r0.alloc (.cells #[.int .i64 0,.int .i64 0,.int .i64 0] 37));have Q0:=hid q0;have X0:=hid x0;have hnb:inB n 1 64=true:=inB_iff.2 ⟨by omega,by omega⟩;have hib:inB i 0 n=true:=inB_iff.2 ⟨by omega,by omega⟩;have hjb:inB j 0 n=true:=inB_iff.2 ⟨by omega,by omega⟩;have HN:=hid hnb;have HI:=hid hib;have HJ:=hid hjb;clear r0 q0 x0 hnb hib hjb;go_enter Tryz.func126,Tryz.ntmps126;go_wp2_with fail;refine (l02V_val (HG.out 0) (HG.out 1) (HG.out 2) _).mono ?_;rintro e w1 ⟨rfl,x1⟩;have y1:Ext w1 (w1.alloc (.cells #[.int .i64 (g 0),.int .i64 (g 1),.int .i64 (g 2)] 37)):=X_;have b1:=Blk.new w1 37 [.int .i64 (g 0),.int .i64 (g 1),.int .i64 (g 2)];have R1:=hid ((R0.out.ext x1).ext y1);have Q1:=hid ((Q0.out.ext x1).ext y1);have X1:=hid ((X0.out.trans x1).trans y1);have B11:=hid b1;have c3:=R1.out.cell (i:=3) (by decide);have c4:=R1.out.cell (i:=4) (by decide);have c5:=R1.out.cell (i:=5) (by decide);clear R0 Q0 X0 x1 y1 b1;go_wp2_with fail;refine (l02V_val (HG.out 3) (HG.out 4) (HG.out 5) _).mono ?_;rintro e w2 ⟨rfl,x2⟩;have y2:Ext w2 (w2.alloc (.cells #[.int .i64 (g 3),.int .i64 (g 4),.int .i64 (g 5)] 37)):=X_;have b2:=Blk.new w2 37 [.int .i64 (g 3),.int .i64 (g 4),.int .i64 (g 5)];have R2:=hid ((R1.out.ext x2).ext y2);have Q2:=hid ((Q1.out.ext x2).ext y2);have X2:=hid ((X1.out.trans x2).trans y2);have B12:=hid ((B11.out.ext x2).ext y2);have B22:=hid b2;have c6:=R2.out.cell (i:=6) (by decide);have c7:=R2.out.cell (i:=7) (by decide);have c8:=R2.out.cell (i:=8) (by decide);clear R1 Q1 X1 x2 y2 b2 B11 c3 c4 c5;go_wp2_with fail;refine (l02V_val (HG.out 6) (HG.out 7) (HG.out 8) _).mono ?_;rintro e w3 ⟨rfl,x3⟩;have y3:Ext w3 (w3.alloc (.cells #[.int .i64 (g 6),.int .i64 (g 7),.int .i64 (g 8)] 37)):=X_;have b3:=Blk.new w3 37 [.int .i64 (g 6),.int .i64 (g 7),.int .i64 (g 8)];have R3:=hid ((R2.out.ext x3).ext y3);have Q3:=hid ((Q2.out.ext x3).ext y3);have X3:=hid ((X2.out.trans x3).trans y3);have B13:=hid ((B12.out.ext x3).ext y3);have B23:=hid ((B22.out.ext x3).ext y3);have B33:=hid b3;have c9:=R3.out.cell (i:=9) (by decide);have c10:=R3.out.cell (i:=10) (by decide);have c11:=R3.out.cell (i:=11) (by decide);clear R2 Q2 X2 x3 y3 b3 B12 B22 c6 c7 c8;go_wp2_with fail;refine (l02V_val (HG.out 9) (HG.out 10) (HG.out 11) _).mono ?_;rintro e w4 ⟨rfl,x4⟩;have y4:Ext w4 (w4.alloc (.cells #[.int .i64 (g 9),.int .i64 (g 10),.int .i64 (g 11)] 37)):=X_;have b4:=Blk.new w4 37 [.int .i64 (g 9),.int .i64 (g 10),.int .i64 (g 11)];have Q4:=hid (Q3.out.ext x4);have X4:=hid (X3.out.trans x4);have B14:=hid (B13.out.ext x4);have B24:=hid (B23.out.ext x4);have B34:=hid (B33.out.ext x4);have l0:=Q4.out.lt;have l1:=B14.out.lt;have l2:=B24.out.lt;have l3:=B34.out.lt;have g0:=Q4.out.free 0;have g1:=Q4.out.free 1;have g2:=Q4.out.free 2;obtain ⟨o0,o1,o2⟩:=Q4.out.q3;obtain ⟨p0,p1,p2⟩:=B14.out.q3;obtain ⟨q0,q1,q2⟩:=B24.out.q3;obtain ⟨r0,r1,r2⟩:=B34.out.q3;have zx:=X4.out.size;clear R3 Q3 X3 x4 y4 b4 B13 B23 B33 c9 c10 c11;go_wp2_with fail;refine (l01In_val HN.out _).mono ?_;rintro e w5 ⟨rfl,rfl⟩;go_wp2_with fail;refine (l01In_val HI.out _).mono ?_;rintro e w5 ⟨rfl,rfl⟩;go_wp2_with fail;refine (l01In_val HJ.out _).mono ?_;rintro e w5 ⟨rfl,rfl⟩;go_wp2_with fail;refine wp_region_stages [([0,1,2,3,4,5,6,7,8,9,10,12,13,14,15,16,17,18,19,20,21,22,24,25,26,27,28,29,30,31,32,33,34],11),([],23),([],35),([36],37)] 37 (w4.heap.size+1) (by kernel_rfl) (by kernel_rfl) ?_;refine st_ fun K hK=>?_;go_wp2_with fail;refine (l05Mean_val (HB.out 0) (HB.out 3) (HB.out 6) (HB.out 9) HN2.out HI2.out HJ2.out HM1.out _).mono ?_;rintro e w5 ⟨rfl,rfl⟩;go_wp2_with fail;refine hK _ _ (.inr (fun k _ hk=>Ext.block X_ (by first|omega|(simp;omega)))) ?_;clear hK K;refine st_ fun K hK=>?_;go_wp2_with fail;refine (l05Mean_val (HB.out 1) (HB.out 4) (HB.out 7) (HB.out 10) HN2.out HI2.out HJ2.out HM2.out _).mono ?_;rintro e w5 ⟨rfl,rfl⟩;go_wp2_with fail;refine hK _ _ (.inr (fun k _ hk=>Ext.block X_ (by first|omega|(simp;omega)))) ?_;clear hK K;refine st_ fun K hK=>?_;go_wp2_with fail;refine (l05Mean_val (HB.out 2) (HB.out 5) (HB.out 8) (HB.out 11) HN2.out HI2.out HJ2.out HM3.out _).mono ?_;rintro e w5 ⟨rfl,rfl⟩;go_wp2_with fail;refine hK _ _ (.inr (fun k _ hk=>Ext.block X_ (by first|omega|(simp;omega)))) ?_;clear hK K;refine st_ fun K hK=>?_;go_wp2_with fail;refine hK _ _ (.inl trivial) ?_;clear hK K;refine wpStages_nil ?_;go_wp2;refine bodyPost_ret (v:=.agg #[.int .i64 m1,.int .i64 m2,.int .i64 m3]) (by simp [results,Tryz.results126,go_sem, *]) rfl ?_;have X4o:=X4.out;exact ⟨rfl,S_⟩
structure GSt (lo n:Nat) (tm:Int) (t:Tex) (f:Nat→Int) (A P Q:Nat) (tu:Value) (w wr:World) (ps:List Pt) (pu:Value):Prop where
 ext:Ext w wr
 pat:RowI wr P 40 12 f
 res:Blk wr Q 135 [.int .i64 0,.slice none 0 0,.int .i64 0,.int .i64 0,.slice none 0 0]
 box:Blk wr A 135 [.int .i64 (n:Nat),pu,.int .i64 tm,.int .i64 t.log,tu]
 pts:OwnPts lo wr pu ps
 tex:OwnInts lo wr tu t.px
 sm:∀p∈ps,p.Sm
theorem GSt.to {lo n:Nat} {tm:Int} {t:Tex} {f:Nat→Int} {A P Q:Nat} {tu pu:Value} {w wr w':World} {ps:List Pt} (h:GSt lo n tm t f A P Q tu w wr ps pu) (x:Ext wr w'):GSt lo n tm t f A P Q tu w w' ps pu:=
 ⟨h.ext.trans x,h.pat.ext x,h.res.ext x,h.box.ext x,OwnG.ext h.pts x,h.tex.ext x,h.sm⟩
theorem OwnG.rowT {α : Type} {cs : α→List Value} {lo:Nat} {e:TypeId} {sz:Nat} {w:World} {v:Value} {xs:List α} (h:OwnG cs lo e sz w v xs):∀k,v.ownBlock=some k→lo≤k∧∃c,w.heap[k]?=some (.cells c e (0,0)):=by
 intro k hk
 rcases h.2 with ⟨rfl,h4⟩|⟨g,cap,cur,rfl,hb,hg,_⟩
 ·cases hk
 ·simp only [Value.ownBlock,Option.some.injEq] at hk
  subst hk;exact ⟨hb,cur,hg⟩
theorem GSt.grow {lo n:Nat} {tm:Int} {t:Tex} {f:Nat→Int} {A P Q:Nat} {tu pu pu':Value} {w wr w':World} {ps ps':List Pt} (h:GSt lo n tm t f A P Q tu w wr ps pu) (hP:P<lo) (hQ:Q<lo) (hA:lo≤A) (hw:w.heap.size≤lo) (hg:wr.grownBy w' pu.ownBlock) (hown:OwnPts lo w' pu' ps') (hs:∀p∈ps',p.Sm):GSt lo n tm t f A P Q tu w (w'.setCell ⟨A,1,none⟩ pu') ps' pu':=by
 have hr:=OwnG.rowT h.pts
 have hB:=h.box.grown hg (fun e=>by
  obtain ⟨_,c,hc⟩:=hr A e.symm;have hb:=h.box;unfold Blk at hb;rw [hb] at hc;simp only [Option.some.injEq,Obj.cells.injEq] at hc
  exact absurd hc.2.1 (by decide))
 have hT:=h.tex.grown hg (fun k hk e=>by
  obtain ⟨_,c,hc⟩:=hr k e.symm;obtain ⟨c',hc'⟩:=h.tex.block hk;rw [hc'] at hc;simp only [Option.some.injEq,Obj.cells.injEq] at hc
  exact absurd hc.2.1 (by decide))
 refine ⟨Ext.setCell (Ext.grown h.ext hg (fun k hk=>by have:=(hr k hk).1;omega)) (by simp only;omega) _,(h.pat.of (hg.block _ h.pat.lt (fun e=>by have:=(hr _ e.symm).1;omega))).other (by simp only;omega) _,(h.res.grown hg (fun e=>by have:=(hr _ e.symm).1;omega)).other (by simp only;omega) _,hB.set 1 _,OwnG.set hown hB (by decide) 1 _,hT.setOther (fun e=>?_) _,hs⟩;obtain ⟨c,hc⟩:=hT.block e;unfold Blk at hB;simp only at hc;rw [hB] at hc;simp only [Option.some.injEq,Obj.cells.injEq] at hc;exact absurd hc.2.1 (by decide)
theorem set5_same {lo hi Q:Nat} (w:World) (hQ:Q<lo) (a b c d e:Value):Same lo hi w (((((w.setCell ⟨Q,0,none⟩ a).setCell ⟨Q,1,none⟩ b).setCell ⟨Q,2,none⟩ c).setCell ⟨Q,3,none⟩ d).setCell ⟨Q,4,none⟩ e):=fun k h1 _=>by
 have hk:Q≠k:=by omega
 rw [Below.heap_setCell _ _ _ _ (by exact hk.symm),Below.heap_setCell _ _ _ _ (by exact hk.symm),Below.heap_setCell _ _ _ _ (by exact hk.symm),Below.heap_setCell _ _ _ _ (by exact hk.symm),Below.heap_setCell _ _ _ _ (by exact hk.symm)]
structure GSr (lo n:Nat) (tm:Int) (t:Tex) (f:Nat→Int) (A P Q:Nat) (tu:Value) (w wr:World) (ps:List Pt) (pu:Value):Prop where
 ext:Ext w wr
 pat:RowI wr P 40 12 f
 res:Blk wr Q 135 [.int .i64 0,.slice none 0 0,.int .i64 0,.int .i64 0,.slice none 0 0]
 box:Blk wr A 135 [.int .i64 (n:Nat),pu,.int .i64 tm,.int .i64 t.log,tu]
 pts:OwnPts lo wr pu ps
 tex:OwnInts lo wr tu t.px
theorem GSr.to {lo n:Nat} {tm:Int} {t:Tex} {f:Nat→Int} {A P Q:Nat} {tu pu:Value} {w wr w':World} {ps:List Pt} (h:GSr lo n tm t f A P Q tu w wr ps pu) (x:Ext wr w'):GSr lo n tm t f A P Q tu w w' ps pu:=
 ⟨h.ext.trans x,h.pat.ext x,h.res.ext x,h.box.ext x,OwnG.ext h.pts x,h.tex.ext x⟩
theorem GSr.grow {lo n:Nat} {tm:Int} {t:Tex} {f:Nat→Int} {A P Q:Nat} {tu pu pu':Value} {w wr w':World} {ps ps':List Pt} (h:GSr lo n tm t f A P Q tu w wr ps pu) (hP:P<lo) (hQ:Q<lo) (hA:lo≤A) (hw:w.heap.size≤lo) (hg:wr.grownBy w' pu.ownBlock) (hown:OwnPts lo w' pu' ps'):GSr lo n tm t f A P Q tu w (w'.setCell ⟨A,1,none⟩ pu') ps' pu':=by
 have hr:=OwnG.rowT h.pts
 have hB:=h.box.grown hg (fun e=>by
  obtain ⟨_,c,hc⟩:=hr A e.symm;have hb:=h.box;unfold Blk at hb;rw [hb] at hc;simp only [Option.some.injEq,Obj.cells.injEq] at hc
  exact absurd hc.2.1 (by decide))
 have hT:=h.tex.grown hg (fun k hk e=>by
  obtain ⟨_,c,hc⟩:=hr k e.symm;obtain ⟨c',hc'⟩:=h.tex.block hk;rw [hc'] at hc;simp only [Option.some.injEq,Obj.cells.injEq] at hc
  exact absurd hc.2.1 (by decide))
 refine ⟨Ext.setCell (Ext.grown h.ext hg (fun k hk=>by have:=(hr k hk).1;omega)) (by simp only;omega) _,(h.pat.of (hg.block _ h.pat.lt (fun e=>by have:=(hr _ e.symm).1;omega))).other (by simp only;omega) _,(h.res.grown hg (fun e=>by have:=(hr _ e.symm).1;omega)).other (by simp only;omega) _,hB.set 1 _,OwnG.set hown hB (by decide) 1 _,hT.setOther (fun e=>?_) _⟩;obtain ⟨c,hc⟩:=hT.block e;unfold Blk at hB;simp only at hc;rw [hB] at hc;simp only [Option.some.injEq,Obj.cells.injEq] at hc;exact absurd hc.2.1 (by decide)
def ptsR (f:Nat→Int) (n k:Nat):List Pt:=(List.range k).map fun q=>ptG f n (q % n) (q / n)
theorem ptsR_length (f:Nat→Int) (n k:Nat):(ptsR f n k).length=k:=by unfold ptsR;simp
theorem ptsR_step (f:Nat→Int) {n i j:Nat} (hi:i<n):ptsR f n (j*n+(i+1))=ptsR f n (j*n+i)++[ptG f n i j]:=by
 unfold ptsR;rw [show j*n+(i+1)=(j*n+i)+1 by omega,List.range_succ,List.map_append,List.map_singleton]
 have e1:(j*n+i) % n=i:=by rw [Nat.add_comm,Nat.add_mul_mod_self_right,Nat.mod_eq_of_lt hi]
 have e2:(j*n+i) / n=j:=by rw [Nat.add_comm,Nat.add_mul_div_right _ _ (by omega),Nat.div_eq_of_lt hi,Nat.zero_add]
 rw [e1,e2]
theorem ptsR_at {f:Nat→Int} {n k i:Nat} {x:Pt} (h:(ptsR f n k)[i]?=some x):x=ptG f n (i % n) (i / n)∧i<k:=by
 have hl:=(List.getElem?_eq_some_iff.1 h).1;rw [ptsR_length] at hl;unfold ptsR at h;rw [List.getElem?_map,List.getElem?_range hl] at h;exact ⟨(Option.some.inj h).symm,hl⟩
theorem sEvalP_val {f:Nat→Int} {i j n X Y Z:Int} (h:evP f i j n=⟨X,Y,Z⟩) (hn:1≤n∧n≤64) (hi:0≤i∧i≤n) (hj:0≤j∧j≤n) (w:World) :
  Calls Tryz.prog 126 #[.agg #[.int .i64 (f 0),.int .i64 (f 1),.int .i64 (f 2),.int .i64 (f 3),.int .i64 (f 4),.int .i64 (f 5),.int .i64 (f 6),.int .i64 (f 7),.int .i64 (f 8),.int .i64 (f 9),.int .i64 (f 10),.int .i64 (f 11)],.int .i64 i,.int .i64 j,.int .i64 n] w fun e w'=>e = .returned (.agg #[.int .i64 X,.int .i64 Y,.int .i64 Z])∧Ext w w':=by
 have:=sEvalP_any f i j n hn hi hj w;rw [h] at this;exact this
theorem sGridR_any (lo hi:Nat) (f:Nat→Int) (hf:patB f=true) (n:Nat) (hn:1≤n∧n≤8) (tm:Int) (htm:0≤tm∧tm≤256) (tv:Value) (t:Tex) (w:World) (ht:TexR lo hi w tv t) (hh:hi≤w.heap.size) (hok:t.Ok) :
  Calls Tryz.prog 72 #[.agg #[.int .i64 (f 0),.int .i64 (f 1),.int .i64 (f 2),.int .i64 (f 3),.int .i64 (f 4),.int .i64 (f 5),.int .i64 (f 6),.int .i64 (f 7),.int .i64 (f 8),.int .i64 (f 9),.int .i64 (f 10),.int .i64 (f 11)],.int .i64 (n:Nat),.int .i64 tm,tv] w fun e w'=>∃v:Value,e = .returned (.tuple #[v,.bool true])∧(Grd.mk (n:Nat) (n*n) (gridF f n) tm t).R w.heap.size w'.heap.size w' v∧Ext w w':=by
 have HT:=hid ht;have HF:=hid hf;obtain ⟨tu,rfl,tlog,hu⟩:=ht;obtain ⟨a,cap,rfl,HU⟩:=hu.open;have l1:=HU.le;have l2:=HU.cap
 have hpx1:1≤t.px.length:=by rw [hok.len];exact Nat.mul_pos hok.n_pos hok.n_pos
 have hpx2:t.px.length≤256:=by rw [hok.len];exact Nat.mul_le_mul hok.n_le hok.n_le
 obtain ⟨_,bx,off,rfl,_,hbx,_⟩:=HU.cell 0 _ (List.getElem?_eq_getElem (by omega));have hnb:inB ((n:Nat):Int) 1 8=true:=inB_iff.2 ⟨by omega,by omega⟩;have htb:inB tm 0 256=true:=inB_iff.2 htm;have HN:=hid hnb;have HM:=hid htb;have HK:=hid (Tex.okB_iff.2 hok);have r0:=row12_new (w:=w) (t:=40) (f:=f) rfl;have t0:=Blk.new (w.alloc (.cells #[.int .i64 (f 0),.int .i64 (f 1),.int .i64 (f 2),.int .i64 (f 3),.int .i64 (f 4),.int .i64 (f 5),.int .i64 (f 6),.int .i64 (f 7),.int .i64 (f 8),.int .i64 (f 9),.int .i64 (f 10),.int .i64 (f 11)] 40)) 27 [.int .i64 t.log,.slice (some ⟨bx,off,none⟩) t.px.length cap];have q0:=Blk.new ((w.alloc (.cells #[.int .i64 (f 0),.int .i64 (f 1),.int .i64 (f 2),.int .i64 (f 3),.int .i64 (f 4),.int .i64 (f 5),.int .i64 (f 6),.int .i64 (f 7),.int .i64 (f 8),.int .i64 (f 9),.int .i64 (f 10),.int .i64 (f 11)] 40)).alloc (.cells #[.int .i64 t.log,.slice (some ⟨bx,off,none⟩) t.px.length cap] 27)) 135 [.int .i64 0,.slice none 0 0,.int .i64 0,.int .i64 0,.slice none 0 0];simp only [World.size_alloc] at t0 q0;have x0:Ext w (((w.alloc (.cells #[.int .i64 (f 0),.int .i64 (f 1),.int .i64 (f 2),.int .i64 (f 3),.int .i64 (f 4),.int .i64 (f 5),.int .i64 (f 6),.int .i64 (f 7),.int .i64 (f 8),.int .i64 (f 9),.int .i64 (f 10),.int .i64 (f 11)] 40)).alloc (.cells #[.int .i64 t.log,.slice (some ⟨bx,off,none⟩) t.px.length cap] 27)).alloc (.cells #[.int .i64 0,.slice none 0 0,.int .i64 0,.int .i64 0,.slice none 0 0] 135)):=X_;have R0:=hid ((r0.alloc (.cells #[.int .i64 t.log,.slice (some ⟨bx,off,none⟩) t.px.length cap] 27)).alloc (.cells #[.int .i64 0,.slice none 0 0,.int .i64 0,.int .i64 0,.slice none 0 0] 135));have T0:=hid (t0.ext (show Ext _ (((w.alloc (.cells #[.int .i64 (f 0),.int .i64 (f 1),.int .i64 (f 2),.int .i64 (f 3),.int .i64 (f 4),.int .i64 (f 5),.int .i64 (f 6),.int .i64 (f 7),.int .i64 (f 8),.int .i64 (f 9),.int .i64 (f 10),.int .i64 (f 11)] 40)).alloc (.cells #[.int .i64 t.log,.slice (some ⟨bx,off,none⟩) t.px.length cap] 27)).alloc (.cells #[.int .i64 0,.slice none 0 0,.int .i64 0,.int .i64 0,.slice none 0 0] 135)) from X_));have Q0:=hid q0;have X0:=hid x0;clear hnb htb hu r0 t0 q0 x0;go_enter Tryz.func72,Tryz.ntmps72;go_wp2_with fail;refine (sIsValidPatch_any f _).mono ?_;rw [HF.out];rintro e w1 ⟨rfl,x1⟩;have R1:=hid (R0.out.ext x1);have T1:=hid (T0.out.ext x1);have Q1:=hid (Q0.out.ext x1);have X1:=hid (X0.out.trans x1);clear R0 T0 Q0 X0 x1;go_wp2_with fail;refine (l01In_val HN.out _).mono ?_;rintro e w2 ⟨rfl,rfl⟩;go_wp2_with fail;refine (l01In_val HM.out _).mono ?_;rintro e w2 ⟨rfl,rfl⟩;obtain ⟨t0,t1⟩:=T1.out.q2;have z1:=X1.out.size;go_wp2_with fail;refine (sIsValidTexture_val HK.out lo hi _ _ (HT.out.ext hh X1.out) (by omega)).mono ?_;rintro e w2 ⟨rfl,x2⟩;have R2:=hid (R1.out.ext x2);have T2:=hid (T1.out.ext x2);have Q2:=hid (Q1.out.ext x2);have HX2:=hid (X1.out.trans x2);have z2:=HX2.out.size;clear R1 T1 Q1 X1 x2 t0 t1;obtain ⟨t0,t1⟩:=T2.out.q2;have zt:=T2.out.lt;go_upto_region 3 with fail
 go_cut [10] from 33 to 42 (fun p wx=>∃A tu,p = .pointer (some ⟨A,0,none⟩)∧w2.heap.size≤A∧Blk wx A 135 [.int .i64 (n:Nat),.slice none 0 0,.int .i64 tm,.int .i64 t.log,tu]∧OwnInts w2.heap.size wx tu t.px∧Ext w2 wx)
 case first=>
  refine wp_region_Z 11 w2.heap.size (by kernel_rfl) ?_;refine z2_ (fuel:=5) [0,1,2,3,5,6] 4 10 (fun b _ hb=>rfl) (fun K hK=>?_) fun K hK=>?_
  ·have k1:Ext w2 (w2.drew.alloc (.cells #[] 3)):=X_
   have o1:OwnInts w2.heap.size (w2.drew.alloc (.cells #[] 3)) (.slice (some ⟨w2.heap.size,0,none⟩) 0 0) []:=OwnInts.fresh0 (Nat.le_refl _) (Blk.new w2.drew 3 []);go_wp2;refine hK _ _ (.inr (fun b _ hb=>Ext.block k1 (by omega))) ?_;clear hK K;refine z2_ (fuel:=4) [] 7 10 (fun b _ hb=>Ext.block k1 (by omega)) (fun K hK=>?_) fun K hK=>?_
   ·refine wpList_append_ints _ rfl _ _ rfl w2.heap.size (.slice (some ⟨w2.heap.size,0,none⟩) 0 0) [] t.px rfl o1 bx off cap rfl (fun i y hy=>by
     obtain ⟨i1,b',o',e',_,h3,h4⟩:=HU.cell i y hy
     cases e'
     exact ⟨i1,((HX2.out.trans k1).cells.1 bx _ (by omega)).trans h4⟩) (by simp;omega) k1.size ?_
    intro v7 w7 hown7 hg7;have u7:Ext w2 w7:=Ext.grown k1 hg7 (fun k hk=>(o1.lt k hk).1);go_wp2_with fail;refine hK _ _ (.inr (fun b _ hb=>Ext.block u7 (by omega))) ?_;clear hK K;obtain ⟨va7,vc7,hv7,_⟩:=hown7.form;simp only [List.nil_append] at hown7 hv7;subst hv7;refine z1_ (fuel:=1) [8,9] 10 (fun b _ hb=>Ext.block u7 (by omega)) fun K hK=>?_;have k8:Ext w2 (w7.alloc (.cells #[.int .i64 0,.slice none 0 0,.int .i64 0,.int .i64 0,.slice none 0 0] 135)):=Ext.alloc u7 _;go_wp2;refine hK _ _ (.inr (fun b _ hb=>Ext.block (w:=w2) (show Ext w2 _ from Ext.alloc u7 _) (by omega))) ?_;clear hK K;refine z1_ (fuel:=0) [] 11 (fun b _ hb=>Ext.block k8 (by omega)) fun K hK=>?_;go_wp2;refine hK _ _ (.inl (by trivial)) ?_;clear hK K;refine wpZ_end (by kernel_rfl) ?_;go_wp2_with fail
    go_meet
    exact ⟨w7.heap.size,_,rfl,u7.size,Blk.new w7 135 [.int .i64 (n:Nat),.slice none 0 0,.int .i64 tm,.int .i64 t.log,.slice va7 t.px.length vc7],hown7.alloc _,Ext.alloc u7 _⟩
   ·have g1:Ext w2 ((w2.drew.alloc (.cells #[] 3)).alloc (.cells #[.int .i64 0,.slice none 0 0,.int .i64 0,.int .i64 0,.slice none 0 0] 135)):=X_
    have o2:=o1.alloc (.cells #[.int .i64 0,.slice none 0 0,.int .i64 0,.int .i64 0,.slice none 0 0] 135);have n2:=Blk.new (w2.drew.alloc (.cells #[] 3)) 135 [.int .i64 0,.slice none 0 0,.int .i64 0,.int .i64 0,.slice none 0 0];rw [World.size_alloc,show w2.drew.heap.size=w2.heap.size from rfl] at n2;go_wp2;refine hK _ _ (.inr (fun b _ hb=>Ext.block g1 (by omega))) ?_;clear hK K;refine z1_ (fuel:=3) [] 7 (fun b _ hb=>Ext.block g1 (by omega)) fun K hK=>?_
    refine wpList_append_ints _ rfl _ _ rfl w2.heap.size (.slice (some ⟨w2.heap.size,0,none⟩) 0 0) [] t.px rfl o2 bx off cap rfl (fun i y hy=>by
     obtain ⟨i1,b',o',e',_,h3,h4⟩:=HU.cell i y hy
     cases e'
     exact ⟨i1,((HX2.out.trans g1).cells.1 bx _ (by omega)).trans h4⟩) (by simp;omega) g1.size ?_
    intro v7 w7 hown7 hg7;have u7:Ext w2 w7:=Ext.grown g1 hg7 (fun k hk=>(o2.lt k hk).1);go_wp2_with fail;refine hK _ _ (.inr (fun b _ hb=>Ext.block u7 (by omega))) ?_;clear hK K;obtain ⟨va7,vc7,hv7,_⟩:=hown7.form;simp only [List.nil_append] at hown7 hv7;subst hv7;have n3:=n2.grown hg7 (by simp [Value.ownBlock]);refine z1_ (fuel:=0) [8,9] 11 (fun b _ hb=>Ext.block u7 (by omega)) fun K hK=>?_;have hbk:=n3;obtain ⟨p0,p1,p2,p3,p4⟩:=hbk.q5;have f0:=hbk.free 0;have f1:=hbk.free 1;have f2:=hbk.free 2;have f3:=hbk.free 3;have f4:=hbk.free 4
    have hlA:w2.heap.size≤(w2.heap.size+1):=by first|omega|(simp;omega)
    have hneA:∀k,(Value.slice va7 t.px.length vc7).ownBlock=some k→k≠(w2.heap.size+1):=fun k hk e=>by
     obtain ⟨c,hc⟩:=(hown7).block hk;rw [e] at hc;unfold Blk at hbk;rw [hbk] at hc;simp only [Option.some.injEq,Obj.cells.injEq] at hc;exact absurd hc.2.1 (by decide)
    have hxx:Ext w2 ((((((((((w7).setCell ⟨(w2.heap.size+1),0,none⟩ (.int .i64 (n:Nat)))).setCell ⟨(w2.heap.size+1),1,none⟩ (.slice none 0 0))).setCell ⟨(w2.heap.size+1),2,none⟩ (.int .i64 tm))).setCell ⟨(w2.heap.size+1),3,none⟩ (.int .i64 t.log))).setCell ⟨(w2.heap.size+1),4,none⟩ (.slice va7 t.px.length vc7)):=Ext.setCell (Ext.setCell (Ext.setCell (Ext.setCell (Ext.setCell u7 hlA _) hlA _) hlA _) hlA _) hlA _;have hbb:Blk ((((((((((w7).setCell ⟨(w2.heap.size+1),0,none⟩ (.int .i64 (n:Nat)))).setCell ⟨(w2.heap.size+1),1,none⟩ (.slice none 0 0))).setCell ⟨(w2.heap.size+1),2,none⟩ (.int .i64 tm))).setCell ⟨(w2.heap.size+1),3,none⟩ (.int .i64 t.log))).setCell ⟨(w2.heap.size+1),4,none⟩ (.slice va7 t.px.length vc7)) ((w2.heap.size+1)) 135 [.int .i64 (n:Nat),.slice none 0 0,.int .i64 tm,.int .i64 t.log,.slice va7 t.px.length vc7]:=((((hbk.set 0 _).set 1 _).set 2 _).set 3 _).set 4 _
    have hoo:OwnInts w2.heap.size ((((((((((w7).setCell ⟨(w2.heap.size+1),0,none⟩ (.int .i64 (n:Nat)))).setCell ⟨(w2.heap.size+1),1,none⟩ (.slice none 0 0))).setCell ⟨(w2.heap.size+1),2,none⟩ (.int .i64 tm))).setCell ⟨(w2.heap.size+1),3,none⟩ (.int .i64 t.log))).setCell ⟨(w2.heap.size+1),4,none⟩ (.slice va7 t.px.length vc7)) (.slice va7 t.px.length vc7) t.px:=((((((hown7).setOther (a:=⟨(w2.heap.size+1),0,none⟩) (fun e=>hneA _ e rfl) _).setOther (a:=⟨(w2.heap.size+1),1,none⟩) (fun e=>hneA _ e rfl) _).setOther (a:=⟨(w2.heap.size+1),2,none⟩) (fun e=>hneA _ e rfl) _).setOther (a:=⟨(w2.heap.size+1),3,none⟩) (fun e=>hneA _ e rfl) _).setOther (a:=⟨(w2.heap.size+1),4,none⟩) (fun e=>hneA _ e rfl) _)
    go_wp2;refine hK _ _ (.inl (by trivial)) ?_;clear hK K;refine wpZ_end (by kernel_rfl) ?_;go_wp2_with fail
    go_meet
    exact ⟨(w2.heap.size+1),_,rfl,hlA,hbb,hoo,hxx⟩
  ·have g1:Ext w2 (w2.drew.alloc (.cells #[.int .i64 0,.slice none 0 0,.int .i64 0,.int .i64 0,.slice none 0 0] 135)):=X_
   have n2:=Blk.new w2.drew 135 [.int .i64 0,.slice none 0 0,.int .i64 0,.int .i64 0,.slice none 0 0];rw [show w2.drew.heap.size=w2.heap.size from rfl] at n2;go_wp2;refine hK _ _ (.inr (fun b _ hb=>Ext.block g1 (by omega))) ?_;clear hK K;refine z1_ (fuel:=4) [] 4 (fun b _ hb=>Ext.block g1 (by omega)) fun K hK=>?_;have g2:Ext w2 ((w2.drew.alloc (.cells #[.int .i64 0,.slice none 0 0,.int .i64 0,.int .i64 0,.slice none 0 0] 135)).alloc (.cells #[] 3)):=X_;have n3:=n2.ext (show Ext _ ((w2.drew.alloc (.cells #[.int .i64 0,.slice none 0 0,.int .i64 0,.int .i64 0,.slice none 0 0] 135)).alloc (.cells #[] 3)) from X_);have b2:=Blk.new (w2.drew.alloc (.cells #[.int .i64 0,.slice none 0 0,.int .i64 0,.int .i64 0,.slice none 0 0] 135)) 3 [];rw [World.size_alloc,show w2.drew.heap.size=w2.heap.size from rfl] at b2;have o2:OwnInts w2.heap.size ((w2.drew.alloc (.cells #[.int .i64 0,.slice none 0 0,.int .i64 0,.int .i64 0,.slice none 0 0] 135)).alloc (.cells #[] 3)) (.slice (some ⟨w2.heap.size+1,0,none⟩) 0 0) []:=OwnInts.fresh0 (by omega) b2;go_wp2;refine hK _ _ (.inr (fun b _ hb=>Ext.block g2 (by omega))) ?_;clear hK K;refine z1_ (fuel:=3) [] 7 (fun b _ hb=>Ext.block g2 (by omega)) fun K hK=>?_
   refine wpList_append_ints _ rfl _ _ rfl w2.heap.size (.slice (some ⟨w2.heap.size+1,0,none⟩) 0 0) [] t.px rfl o2 bx off cap rfl (fun i y hy=>by
    obtain ⟨i1,b',o',e',_,h3,h4⟩:=HU.cell i y hy
    cases e'
    exact ⟨i1,((HX2.out.trans g2).cells.1 bx _ (by omega)).trans h4⟩) (by simp;omega) g2.size ?_
   intro v7 w7 hown7 hg7;have u7:Ext w2 w7:=Ext.grown g2 hg7 (fun k hk=>(o2.lt k hk).1);go_wp2_with fail;refine hK _ _ (.inr (fun b _ hb=>Ext.block u7 (by omega))) ?_;clear hK K;obtain ⟨va7,vc7,hv7,_⟩:=hown7.form;simp only [List.nil_append] at hown7 hv7;subst hv7;have n4:=n3.grown hg7 (by simp [Value.ownBlock]);refine z1_ (fuel:=0) [8,9] 11 (fun b _ hb=>Ext.block u7 (by omega)) fun K hK=>?_;have hbk:=n4;obtain ⟨p0,p1,p2,p3,p4⟩:=hbk.q5;have f0:=hbk.free 0;have f1:=hbk.free 1;have f2:=hbk.free 2;have f3:=hbk.free 3;have f4:=hbk.free 4
   have hlA:w2.heap.size≤w2.heap.size:=by first|omega|(simp;omega)
   have hneA:∀k,(Value.slice va7 t.px.length vc7).ownBlock=some k→k≠w2.heap.size:=fun k hk e=>by
    obtain ⟨c,hc⟩:=(hown7).block hk;rw [e] at hc;unfold Blk at hbk;rw [hbk] at hc;simp only [Option.some.injEq,Obj.cells.injEq] at hc;exact absurd hc.2.1 (by decide)
   have hxx:Ext w2 ((((((((((w7).setCell ⟨w2.heap.size,0,none⟩ (.int .i64 (n:Nat)))).setCell ⟨w2.heap.size,1,none⟩ (.slice none 0 0))).setCell ⟨w2.heap.size,2,none⟩ (.int .i64 tm))).setCell ⟨w2.heap.size,3,none⟩ (.int .i64 t.log))).setCell ⟨w2.heap.size,4,none⟩ (.slice va7 t.px.length vc7)):=Ext.setCell (Ext.setCell (Ext.setCell (Ext.setCell (Ext.setCell u7 hlA _) hlA _) hlA _) hlA _) hlA _;have hbb:Blk ((((((((((w7).setCell ⟨w2.heap.size,0,none⟩ (.int .i64 (n:Nat)))).setCell ⟨w2.heap.size,1,none⟩ (.slice none 0 0))).setCell ⟨w2.heap.size,2,none⟩ (.int .i64 tm))).setCell ⟨w2.heap.size,3,none⟩ (.int .i64 t.log))).setCell ⟨w2.heap.size,4,none⟩ (.slice va7 t.px.length vc7)) (w2.heap.size) 135 [.int .i64 (n:Nat),.slice none 0 0,.int .i64 tm,.int .i64 t.log,.slice va7 t.px.length vc7]:=((((hbk.set 0 _).set 1 _).set 2 _).set 3 _).set 4 _
   have hoo:OwnInts w2.heap.size ((((((((((w7).setCell ⟨w2.heap.size,0,none⟩ (.int .i64 (n:Nat)))).setCell ⟨w2.heap.size,1,none⟩ (.slice none 0 0))).setCell ⟨w2.heap.size,2,none⟩ (.int .i64 tm))).setCell ⟨w2.heap.size,3,none⟩ (.int .i64 t.log))).setCell ⟨w2.heap.size,4,none⟩ (.slice va7 t.px.length vc7)) (.slice va7 t.px.length vc7) t.px:=((((((hown7).setOther (a:=⟨w2.heap.size,0,none⟩) (fun e=>hneA _ e rfl) _).setOther (a:=⟨w2.heap.size,1,none⟩) (fun e=>hneA _ e rfl) _).setOther (a:=⟨w2.heap.size,2,none⟩) (fun e=>hneA _ e rfl) _).setOther (a:=⟨w2.heap.size,3,none⟩) (fun e=>hneA _ e rfl) _).setOther (a:=⟨w2.heap.size,4,none⟩) (fun e=>hneA _ e rfl) _)
   go_wp2;refine hK _ _ (.inl (by trivial)) ?_;clear hK K;refine wpZ_end (by kernel_rfl) ?_;go_wp2_with fail
   go_meet
   exact ⟨w2.heap.size,_,rfl,hlA,hbb,hoo,hxx⟩
 case rest=>
  obtain ⟨A,tu,rfl,hA,B3,O3,E3⟩:=hcut;obtain ⟨tua,tuc,rfl,-⟩:=O3.form
  have S3:GSr w2.heap.size n tm t f A w.heap.size (w.heap.size+1+1) (.slice tua t.px.length tuc) w wc [] (.slice none 0 0):=
   ⟨HX2.out.trans E3,R2.out.ext E3,Q2.out.ext E3,B3,OwnG.nil _ _ _ _ _,O3⟩
  have HS3:=hid S3;have zQ:=Q2.out.lt;clear R2 T2 Q2 HX2 t0 t1 zt B3 O3 E3 S3;go_wp2_with fail
  go_loopw [11] (fun v wr=>∃(j:Nat) (ps:List Pt) (pu:Value),j≤n∧v = .int .i64 (j:Nat)∧ps.length=j*n∧ps=ptsR f n (j*n)∧GSr w2.heap.size n tm t f A w.heap.size (w.heap.size+1+1) (.slice tua t.px.length tuc) w wr ps pu) (fun v _=>n - (intOf v).toNat)
  case atStart=>exact ⟨0,[],_,by omega,rfl,by simp,by rw [Nat.zero_mul];rfl,HS3.out⟩
  case round=>
   obtain ⟨j,ps,pu,hj,rfl,hpl,hpe,hs⟩:=hrel;have HPL:=hid hpl;have HPE:=hid hpe;clear hpl hpe;have HS:=hid hs;clear hs HS3
   by_cases hlt:j<n
   ·go_wp2_with fail
    go_loopw [12] (fun v wr=>∃(i:Nat) (ps:List Pt) (pu:Value),i≤n∧v = .int .i64 (i:Nat)∧ps.length=j*n+i∧ps=ptsR f n (j*n+i)∧GSr w2.heap.size n tm t f A w.heap.size (w.heap.size+1+1) (.slice tua t.px.length tuc) w wr ps pu) (fun v _=>n - (intOf v).toNat)
    case atStart=>exact ⟨0,ps,pu,by omega,rfl,HPL.out,HPE.out,HS.out⟩
    case round=>
     obtain ⟨i,ps,pu,hi',rfl,hpl,hpe,hs⟩:=hrel;have HPL2:=hid hpl;have HPE2:=hid hpe;clear hpl hpe;have HS4:=hid hs;clear hs HS
     by_cases hlti:i<n
     ·have hR:=HS4.out.pat
      have c0:=hR.cell (i:=0) (by decide);have c1:=hR.cell (i:=1) (by decide);have c2:=hR.cell (i:=2) (by decide);have c3:=hR.cell (i:=3) (by decide);have c4:=hR.cell (i:=4) (by decide);have c5:=hR.cell (i:=5) (by decide);have c6:=hR.cell (i:=6) (by decide);have c7:=hR.cell (i:=7) (by decide);have c8:=hR.cell (i:=8) (by decide);have c9:=hR.cell (i:=9) (by decide);have c10:=hR.cell (i:=10) (by decide);have c11:=hR.cell (i:=11) (by decide);go_wp2_with fail
      obtain ⟨x,y,z,hev⟩:∃x y z,evP f ((i:Nat):Int) ((j:Nat):Int) ((n:Nat):Int)=⟨x,y,z⟩:=⟨_,_,_,rfl⟩
      have HEV:=hid hev;clear hev;refine (sEvalP_val HEV.out ⟨by omega,by omega⟩ ⟨by omega,by omega⟩ ⟨by omega,by omega⟩ _).mono ?_;rintro e w3 ⟨rfl,x3⟩;have y3:Ext w3 (w3.alloc (.cells #[.int .i64 x,.int .i64 y,.int .i64 z] 37)):=X_;have v3:=Blk.new w3 37 [.int .i64 x,.int .i64 y,.int .i64 z];have HS5:=hid (HS4.out.to (x3.trans y3));have HV5:=hid v3;have z3:=x3.size;have b1:=HS5.out.box.cell 1 rfl;have fb1:=HS5.out.box.free 1;have zA:=HS5.out.box.lt
      have zA3:A<w3.heap.size:=by
       have:=HS4.out.box.lt;omega
      obtain ⟨pa,pc,rfl,-⟩:=OwnG.form HS5.out.pts;clear x3 y3 v3 c0 c1 c2 c3 c4 c5 c6 c7 c8 c9 c10 c11 hR HS4;go_wp2_with fail;refine wp_region_stagesS [([0,1,2,3,4,5,6,7,8,9,10,11,12,13,14,15,16],17),([],18),([19],20)] 20 (fun w'=>∃d,w'=lowc (C2b A w3.heap.size) _ d) (by kernel_rfl) (by kernel_rfl) (SC.drew _ _) ?_;refine sc_ fun K hK=>?_;go_wp2_with fail;have y8:Ext (w3.alloc (.cells #[.int .i64 x,.int .i64 y,.int .i64 z] 37)) (((w3.alloc (.cells #[.int .i64 x,.int .i64 y,.int .i64 z] 37)).alloc (.cells #[.int .i64 ((i:Int)*256 / (n:Int)),.int .i64 ((j:Int)*256 / (n:Int)),.int .i64 x,.int .i64 y,.int .i64 z] 200)).drew):=S_;have b8:=(Blk.new (w3.alloc (.cells #[.int .i64 x,.int .i64 y,.int .i64 z] 37)) 200 [.int .i64 ((i:Int)*256 / (n:Int)),.int .i64 ((j:Int)*256 / (n:Int)),.int .i64 x,.int .i64 y,.int .i64 z]).ext (show Ext _ (((w3.alloc (.cells #[.int .i64 x,.int .i64 y,.int .i64 z] 37)).alloc (.cells #[.int .i64 ((i:Int)*256 / (n:Int)),.int .i64 ((j:Int)*256 / (n:Int)),.int .i64 x,.int .i64 y,.int .i64 z] 200)).drew) from S_);rw [World.size_alloc] at b8;refine hK _ _ (.inr (SC.blocks fun a ha=>?_)) ?_
      ·rcases ha with ha|ha
       ·exact y8.block (by rw [ha,World.size_alloc];omega)
       ·exact y8.block (by rw [ha,World.size_alloc];omega)
      clear hK K;have HS8:=hid (HS5.out.to y8);have HB8:=hid b8;have HY8:=hid y8;have z8:=y8.size;rw [World.size_alloc] at z8
      have hnn:j*n+i≤64:=by
       have:j*n≤7*8:=Nat.mul_le_mul (by omega) (by omega);omega
      clear y8 b8;refine sc_ fun K hK=>?_
      refine wpList_append_pt _ rfl _ _ rfl w2.heap.size (.slice pa ps.length pc) ps rfl HS8.out.pts ⟨(i:Int)*256 / (n:Int),(j:Int)*256 / (n:Int),x,y,z⟩ (w3.heap.size+1) rfl (fun q hq=>by
       rcases (show q=0∨q=1∨q=2∨q=3∨q=4 by omega) with rfl|rfl|rfl|rfl|rfl
       ·exact HB8.out.cell 0 rfl
       ·exact HB8.out.cell 1 rfl
       ·exact HB8.out.cell 2 rfl
       ·exact HB8.out.cell 3 rfl
       ·exact HB8.out.cell 4 rfl) (by have:=HPL2.out;omega) (by omega) ?_
      intro pu2 w9 hown hg;have hrow:=OwnG.rowT HS8.out.pts
      have kA:w9.heap[A]?=(w3.alloc (.cells #[.int .i64 x,.int .i64 y,.int .i64 z] 37)).heap[A]?:=(hg.block _ (by omega) (fun e=>by
       obtain ⟨_,c,hc⟩:=hrow _ e.symm;have hb:=HS8.out.box;unfold Blk at hb;rw [hb] at hc;simp only [Option.some.injEq,Obj.cells.injEq] at hc
       exact absurd hc.2.1 (by decide))).trans (HY8.out.block zA)
      have kV:w9.heap[w3.heap.size]?=(w3.alloc (.cells #[.int .i64 x,.int .i64 y,.int .i64 z] 37)).heap[w3.heap.size]?:=(hg.block _ (by omega) (fun e=>by
       obtain ⟨_,c,hc⟩:=hrow _ e.symm;have hb:=HV5.out.ext HY8.out;unfold Blk at hb;rw [hb] at hc;simp only [Option.some.injEq,Obj.cells.injEq] at hc
       exact absurd hc.2.1 (by decide))).trans (HY8.out.block (by rw [World.size_alloc];omega))
      have HS9:=hid (HS8.out.grow (by omega) zQ hA z2 hg hown);have B9:=HS5.out.box.of kA;have e1:=B9.cell 1 rfl;have g1:=B9.free 1;go_wp2_with fail;refine hK _ _ (.inr (SC.blocks fun a ha=>?_)) ?_
      ·rcases ha with ha|ha
       ·rw [ha];exact kA
       ·rw [ha];exact kV
      clear hK K;obtain ⟨pa2,pc2,hv,_⟩:=OwnG.form hown
      have hll:(ps++[(⟨(i:Int)*256 / (n:Int),(j:Int)*256 / (n:Int),x,y,z⟩:Pt)]).length=ps.length+1:=by simp
      rw [hll] at hv;subst hv;clear hown hg hrow kA kV b1 fb1 B9;refine wpStagesS_cons ?_;simp only [List.filterMap_cons,List.filterMap_nil,List.getElem?_toArray,List.getElem?_cons_zero,List.getElem?_cons_succ]
      show wpQuiet _ _ _ _ [_] _
      simp only [Act.put,List.setIfInBounds_toArray,List.set_cons_succ,List.set_cons_zero,List.getElem_toArray,List.getElem_cons_succ,List.getElem_cons_zero]
      repeat (go_big_quiet_step (fail))
      refine wpQuiet_nil ⟨_,rfl,fun K hK=>?_⟩;go_wp2_with fail;refine hK _ _ (.inl trivial) ?_;clear hK K;refine wpStagesS_nil ?_;go_wp2;go_roundw
      case rel=>exact ⟨i+1,ps++[(⟨(i:Int)*256 / (n:Int),(j:Int)*256 / (n:Int),x,y,z⟩:Pt)],_,by omega,by go_num,by have:=HPL2.out;omega,by rw [HPE2.out,ptsR_step f hlti];congr 1;unfold ptG;rw [HEV.out],HS9.out⟩
      case measure=>simp [intOf];omega
     ·obtain rfl:i=n:=by omega
      go_wp2;go_roundw
      case rel=>exact ⟨j+1,ps,pu,by omega,by go_num,by rw [HPL2.out,Nat.succ_mul],by rw [HPE2.out,Nat.succ_mul],HS4.out⟩
      case measure=>simp [intOf];omega
   ·obtain rfl:j=n:=by omega
    obtain ⟨b0,b1,b2,b3,b4⟩:=HS.out.box.q5;obtain ⟨q0,q1,q2,q3,q4⟩:=HS.out.res.q5;have g0:=HS.out.res.free 0;have g1:=HS.out.res.free 1;have g2:=HS.out.res.free 2;have g3:=HS.out.res.free 3;have g4:=HS.out.res.free 4;have zq:=HS.out.res.lt;have za:=HS.out.box.lt;obtain ⟨pa,pc,rfl,-⟩:=OwnG.form HS.out.pts;go_wp2;refine bodyPost_ret (v:=.tuple #[.agg #[.int .i64 (j:Nat),.slice pa ps.length pc,.int .i64 tm,.int .i64 t.log,.slice tua t.px.length tuc],.bool true]) (by simp [results,Tryz.results72,go_sem, *]) rfl ?_;have hex:=HS.out.ext;have hzz:=hex.size
    have FL:∀m,ps.length=m→Flats 5 w2.heap.size wr.heap.size wr (.slice pa ps.length pc) m (gridF f j):=fun m hm=>by
     subst hm;refine OwnG.flatsI (ls:=Pt.ls) HS.out.pts (by decide) (fun _=>rfl) (fun _=>rfl) (fun p hp u hu=>?_) (fun q p k hq hk=>?_)
     ·rw [HPE.out] at hp
      obtain ⟨q,hq,rfl⟩:=List.getElem_of_mem hp;obtain ⟨e2,hl⟩:=ptsR_at (List.getElem?_eq_getElem hq);rw [e2] at hu;have:=ptG_bd f (n:=j) (i:=q % j) (j:=q / j) (by omega) (Nat.mod_lt _ (by omega)) (Nat.div_lt_of_lt_mul hl) u hu;exact ⟨by omega,by omega⟩
     ·rw [HPE.out] at hq
      obtain ⟨rfl,-⟩:=ptsR_at hq;exact gridF_at f j q k hk
    exact ⟨_,rfl,⟨_,_,rfl,⟨by show (-9223372036854775808:Int)≤((j:Nat):Int);omega,by show ((j:Nat):Int)≤9223372036854775807;omega⟩,⟨by show (-9223372036854775808:Int)≤tm;omega,by show tm≤9223372036854775807;omega⟩,tlog,(((FL _ HPL.out).same (set5_same wr zQ _ _ _ _ _)).wide z2 (by simp)),((HS.out.tex.ints.same (set5_same wr zQ _ _ _ _ _)).wide z2 (by simp))⟩,S_⟩
structure Stp where
 (d w:Int)
def Stp.cs (x:Stp):List Value:=[.int .i64 x.d,.int .i64 x.w]
theorem sIsValidCamera_any (c:Cam) (w:World):Calls Tryz.prog 122 #[c.V] w fun e w'=>e = .returned (.bool c.okB)∧Ext w w':=by
 obtain ⟨cw,ch,zo,ne,de,le,fo⟩:=c
 obtain ⟨b1,h1⟩:∃b,inB cw 1 12=b:=⟨_,rfl⟩
 obtain ⟨b2,h2⟩:∃b,inB ch 1 12=b:=⟨_,rfl⟩
 obtain ⟨b3,h3⟩:∃b,inB zo 1 65536=b:=⟨_,rfl⟩
 obtain ⟨b4,h4⟩:∃b,inB ne 1 1000000=b:=⟨_,rfl⟩
 obtain ⟨b5,h5⟩:∃b,inB le 0 64=b:=⟨_,rfl⟩
 obtain ⟨b6,h6⟩:∃b,inB fo 0 1000000=b:=⟨_,rfl⟩
 have e:(Cam.mk cw ch zo ne de le fo).okB=(b1&&b2&&b3&&b4&&b5&&b6):=by unfold Cam.okB;simp only [h1,h2,h3,h4,h5,h6]
 rw [e];have H1:=hid h1;have H2:=hid h2;have H3:=hid h3;have H4:=hid h4;have H5:=hid h5;have H6:=hid h6;clear h1 h2 h3 h4 h5 h6 e
 show Calls Tryz.prog 122 #[.agg #[.int .i64 cw,.int .i64 ch,.int .i64 zo,.int .i64 ne,.bool de,.int .i64 le,.int .i64 fo]] w _
 cases b1
 rotate_left
 cases b2
 rotate_left
 cases b3
 rotate_left
 cases b4
 rotate_left
 cases b5
 rotate_left
 cases b6
 all_goals
  go_enter Tryz.func122,Tryz.ntmps122;go_wp2_with (go_at_call 70;with_reducible first|(refine (l01In_val H1.out _).mono ?_;rintro e w1 ⟨rfl,rfl⟩)|(refine (l01In_val H2.out _).mono ?_;rintro e w1 ⟨rfl,rfl⟩)|(refine (l01In_val H3.out _).mono ?_;rintro e w1 ⟨rfl,rfl⟩)|(refine (l01In_val H4.out _).mono ?_;rintro e w1 ⟨rfl,rfl⟩)|(refine (l01In_val H5.out _).mono ?_;rintro e w1 ⟨rfl,rfl⟩)|(refine (l01In_val H6.out _).mono ?_;rintro e w1 ⟨rfl,rfl⟩));go_ret;exact ⟨rfl,X_⟩
theorem sIsValidCamera_val {c:Cam} {b:Bool} (h:c.okB=b) (w:World):Calls Tryz.prog 122 #[c.V] w fun e w'=>e = .returned (.bool b)∧Ext w w':=h▸sIsValidCamera_any c w
theorem Smp.one (x:Smp):∀u∈x.cs,u.oneCell'=true:=by
 intro u hu;simp only [Smp.cs,List.mem_cons,List.not_mem_nil,or_false] at hu
 rcases hu with rfl|rfl|rfl|rfl|rfl <;> rfl
theorem sIsValidScene_any (s:Scn) (lo hi:Nat) (v:Value) (w:World) (hv:s.R lo hi w v) (hh:hi≤w.heap.size) (hsm:s.small) :
  Calls Tryz.prog 69 #[v] w fun e w'=>e = .returned (.bool s.okB)∧Ext w w':=by
 obtain ⟨a1,c1,a2,c2,a3,c3,rfl,-,hlog,-,h1,h2,h3⟩:=hv.form;have q0:=Blk.new w 31 [.int .i64 s.c.w,.int .i64 s.c.h,.int .i64 s.c.zoom,.int .i64 s.c.near,.bool s.c.deep,.int .i64 s.c.lens,.int .i64 s.c.focus,.int .i64 s.t.log,.slice a1 s.t.px.length c1,.slice a2 s.ps.length c2,.slice a3 s.m c3,.int .i64 s.side];have R0:=hid q0;have X0:=hid (show Ext w (w.alloc (.cells #[.int .i64 s.c.w,.int .i64 s.c.h,.int .i64 s.c.zoom,.int .i64 s.c.near,.bool s.c.deep,.int .i64 s.c.lens,.int .i64 s.c.focus,.int .i64 s.t.log,.slice a1 s.t.px.length c1,.slice a2 s.ps.length c2,.slice a3 s.m c3,.int .i64 s.side] 31)) from X_);have HT:=hid (show ∀W:World,Ext w W→TexR lo hi W (.agg #[.int .i64 s.t.log,.slice a1 s.t.px.length c1]) s.t from fun W x=>⟨_,rfl,hlog,(h1.shut).ext hh x⟩);have H1:=hid h1;have H2:=hid h2;have H3:=hid h3;have le2:=h2.le;have cap2:=h2.cap;have le3:=h3.le;have cap3:=h3.cap;have HS:=hid hsm;clear q0 hv hlog h1 h2 h3 hsm;unfold Scn.okB
 obtain ⟨b1,hb1⟩:∃b,s.c.okB=b:=⟨_,rfl⟩
 obtain ⟨b2,hb2⟩:∃b,s.t.okB=b:=⟨_,rfl⟩
 obtain ⟨b3,hb3⟩:∃b,inB (s.ps.length:Int) 1 3=b:=⟨_,rfl⟩
 have C1:=hid hb1;have C2:=hid hb2;have C3:=hid hb3;rw [hb1,hb2,hb3];clear hb1 hb2 hb3;go_enter Tryz.func69,Tryz.ntmps69;go_wp2_with fail
 go_loopw [13] (fun i wr=>∃k:Nat,k≤s.ps.length∧i = .int .i64 (k:Nat)∧Ext w wr∧Blk wr w.heap.size 31 [.int .i64 s.c.w,.int .i64 s.c.h,.int .i64 s.c.zoom,.int .i64 s.c.near,.bool s.c.deep,.int .i64 s.c.lens,.int .i64 s.c.focus,.int .i64 s.t.log,.slice a1 s.t.px.length c1,.slice a2 s.ps.length c2,.slice a3 s.m c3,.int .i64 s.side]∧∀q (hq:q<k) (hq2:q<s.ps.length),s.ps[q].chkB=true) (fun i _=>s.ps.length - (intOf i).toNat)
 case atStart=>exact ⟨0,by omega,rfl,X0.out,R0.out,fun q hq=>absurd hq (by omega)⟩
 case round=>
  obtain ⟨k,hk,rfl,hx,hb,hc⟩:=hrel;have HX:=hid hx;have HB:=hid hb;have HC:=hid hc
  rcases Nat.lt_or_ge k s.ps.length with hlt|hge
  ·obtain ⟨b,off,e1,d1,e2,d2,rfl,hbw,hbr,k1,k2,hR⟩:=H2.out.at hlt hx hh
   have HR:=hid hR;have hz:=hx.size;have HL:=hid hlt;clear hx hb hc hR;go_wp2_with fail;refine (sCheck_any lo hi _ _ _ (HR.out.ext (by omega) (show Ext wr (wr.alloc (.cells #[.slice e1 (s.ps[k]'hlt).ns.length d1,.slice e2 (s.ps[k]'hlt).gs.length d2] 132)) from X_)) (by simp;omega) (HS.out _ (List.getElem_mem hlt)).1 (HS.out _ (List.getElem_mem hlt)).2.1.1 (HS.out _ (List.getElem_mem hlt)).2.2).mono ?_;rintro e w5 ⟨⟨cc,ck,rfl,hcc⟩,x5⟩;have y5:Ext wr w5:=Ext.trans (show Ext wr (wr.alloc (.cells #[.slice e1 (s.ps[k]'hlt).ns.length d1,.slice e2 (s.ps[k]'hlt).gs.length d2] 132)) from X_) x5
   by_cases hz0:cc=0
   ·subst hz0
    have X5:=hid (HX.out.trans y5);have R5:=hid (HB.out.ext y5);have HCB:=hid hcc.symm;clear hcc x5 y5;go_wp2;go_roundw
    case rel=>
     refine ⟨k+1,by omega,by go_num,X5.out,R5.out,fun q hq hq2=>?_⟩
     rcases Nat.lt_or_ge q k with h|h
     ·exact HC.out q h hq2
     ·obtain rfl:q=k:=by omega
      exact HCB.out
    case measure=>simp [intOf];omega
   ·have hall:s.ps.all Prg.chkB=false:=List.all_eq_false.2 ⟨_,List.getElem_mem hlt,by rw [←hcc];simp [hz0]⟩
    have HALL:=hid hall;have X5:=hid (HX.out.trans y5);clear hcc x5 y5 hall;go_wp2;go_ret;exact ⟨by rw [HALL.out];simp,X5.out⟩
  ·obtain rfl:k=s.ps.length:=by omega
   have hall:s.ps.all Prg.chkB=true:=List.all_eq_true.2 (fun x hx=>by obtain ⟨q,hq,rfl⟩:=List.getElem_of_mem hx;exact hc q hq hq);have HA:=hid hall;have c11:=hb.cell 10 rfl;have lb:=hb.lt;clear hx hb hc hall;go_wp2_with fail;clear c11 lb
   go_loopw [28] (fun i wr=>∃k:Nat,k≤s.m∧i = .int .i64 (k:Nat)∧Ext w wr∧Blk wr w.heap.size 31 [.int .i64 s.c.w,.int .i64 s.c.h,.int .i64 s.c.zoom,.int .i64 s.c.near,.bool s.c.deep,.int .i64 s.c.lens,.int .i64 s.c.focus,.int .i64 s.t.log,.slice a1 s.t.px.length c1,.slice a2 s.ps.length c2,.slice a3 s.m c3,.int .i64 s.side]∧∀q,q<k→s.srfB q=true) (fun i _=>s.m - (intOf i).toNat)
   case atStart=>exact ⟨0,by omega,rfl,HX.out,HB.out,fun q hq=>absurd hq (by omega)⟩
   case round=>
    obtain ⟨j,hj,rfl,hx,hb,hc⟩:=hrel;have HX:=hid hx;have HB:=hid hb;have HC:=hid hc
    rcases Nat.lt_or_ge j s.m with hlt|hge
    ·obtain ⟨b,off,rfl,hb1,hb2,hcell⟩:=H3.out.at hlt (by decide)
     have bw:b<w.heap.size:=by omega
     have hcs:wr.rangeAt b (off+j*26) ((List.range 26).map fun q=>.int .i64 (s.F (j*26+q))):=by
      intro q v hq;obtain ⟨h1,h2⟩:=List.getElem?_eq_some_iff.1 hq;simp only [List.length_map,List.length_range] at h1;simp only [List.getElem_map,List.getElem_range] at h2;subst h2;exact (hx.cells.1 b _ bw).trans (hcell q h1)
     change wr.rangeAt b (off+j*26) [.int .i64 (s.st j 0),.int .i64 (s.st j 1),.int .i64 (s.st j 2),.int .i64 (s.st j 3),.int .i64 (s.st j 4),.int .i64 (s.st j 5),.int .i64 (s.st j 6),.int .i64 (s.st j 7),.int .i64 (s.st j 8),.int .i64 (s.st j 9),.int .i64 (s.st j 10),.int .i64 (s.st j 11),.int .i64 (s.en j 0),.int .i64 (s.en j 1),.int .i64 (s.en j 2),.int .i64 (s.en j 3),.int .i64 (s.en j 4),.int .i64 (s.en j 5),.int .i64 (s.en j 6),.int .i64 (s.en j 7),.int .i64 (s.en j 8),.int .i64 (s.en j 9),.int .i64 (s.en j 10),.int .i64 (s.en j 11),.int .i64 (s.sh j),.int .i64 (s.rt j)] at hcs;have HCS:=hid hcs
     have hbx:World.rangeAt (wr.alloc (.cells #[.int .i64 (s.st j 0),.int .i64 (s.st j 1),.int .i64 (s.st j 2),.int .i64 (s.st j 3),.int .i64 (s.st j 4),.int .i64 (s.st j 5),.int .i64 (s.st j 6),.int .i64 (s.st j 7),.int .i64 (s.st j 8),.int .i64 (s.st j 9),.int .i64 (s.st j 10),.int .i64 (s.st j 11),.int .i64 (s.en j 0),.int .i64 (s.en j 1),.int .i64 (s.en j 2),.int .i64 (s.en j 3),.int .i64 (s.en j 4),.int .i64 (s.en j 5),.int .i64 (s.en j 6),.int .i64 (s.en j 7),.int .i64 (s.en j 8),.int .i64 (s.en j 9),.int .i64 (s.en j 10),.int .i64 (s.en j 11),.int .i64 (s.sh j),.int .i64 (s.rt j)] 42)) wr.heap.size 0 [.int .i64 (s.st j 0),.int .i64 (s.st j 1),.int .i64 (s.st j 2),.int .i64 (s.st j 3),.int .i64 (s.st j 4),.int .i64 (s.st j 5),.int .i64 (s.st j 6),.int .i64 (s.st j 7),.int .i64 (s.st j 8),.int .i64 (s.st j 9),.int .i64 (s.st j 10),.int .i64 (s.st j 11),.int .i64 (s.en j 0),.int .i64 (s.en j 1),.int .i64 (s.en j 2),.int .i64 (s.en j 3),.int .i64 (s.en j 4),.int .i64 (s.en j 5),.int .i64 (s.en j 6),.int .i64 (s.en j 7),.int .i64 (s.en j 8),.int .i64 (s.en j 9),.int .i64 (s.en j 10),.int .i64 (s.en j 11),.int .i64 (s.sh j),.int .i64 (s.rt j)]:=fun q v hq=>by rw [Nat.zero_add];exact (Blk.new wr 42 [.int .i64 (s.st j 0),.int .i64 (s.st j 1),.int .i64 (s.st j 2),.int .i64 (s.st j 3),.int .i64 (s.st j 4),.int .i64 (s.st j 5),.int .i64 (s.st j 6),.int .i64 (s.st j 7),.int .i64 (s.st j 8),.int .i64 (s.st j 9),.int .i64 (s.st j 10),.int .i64 (s.st j 11),.int .i64 (s.en j 0),.int .i64 (s.en j 1),.int .i64 (s.en j 2),.int .i64 (s.en j 3),.int .i64 (s.en j 4),.int .i64 (s.en j 5),.int .i64 (s.en j 6),.int .i64 (s.en j 7),.int .i64 (s.en j 8),.int .i64 (s.en j 9),.int .i64 (s.en j 10),.int .i64 (s.en j 11),.int .i64 (s.sh j),.int .i64 (s.rt j)]).cell q hq
     have HBX:=hid hbx;clear hcs hbx;have b9:=hb.cell 9 rfl;have bl:=hb.lt;have bl2:b<wr.heap.size:=Nat.lt_of_lt_of_le bw hx.size;clear hx hb hc hcell;go_upto_region 11 with (first|(show wpList _ _ _ [_,_,_] _ _;refine wpList_load_mid rfl _ _ rfl b (off+j*26) rfl [.int .i64 (s.st j 0),.int .i64 (s.st j 1),.int .i64 (s.st j 2),.int .i64 (s.st j 3),.int .i64 (s.st j 4),.int .i64 (s.st j 5),.int .i64 (s.st j 6),.int .i64 (s.st j 7),.int .i64 (s.st j 8),.int .i64 (s.st j 9),.int .i64 (s.st j 10),.int .i64 (s.st j 11),.int .i64 (s.en j 0),.int .i64 (s.en j 1),.int .i64 (s.en j 2),.int .i64 (s.en j 3),.int .i64 (s.en j 4),.int .i64 (s.en j 5),.int .i64 (s.en j 6),.int .i64 (s.en j 7),.int .i64 (s.en j 8),.int .i64 (s.en j 9),.int .i64 (s.en j 10),.int .i64 (s.en j 11),.int .i64 (s.sh j),.int .i64 (s.rt j)] _ HCS.out Tryz.underlying42 rfl info_srf ?_)|(show wpList _ _ _ [_] _ _;refine wpList_store_fresh _ _ _ rfl 42 (.tmp 8) (.tmp 31) rfl rfl #[.int .i64 (s.st j 0),.int .i64 (s.st j 1),.int .i64 (s.st j 2),.int .i64 (s.st j 3),.int .i64 (s.st j 4),.int .i64 (s.st j 5),.int .i64 (s.st j 6),.int .i64 (s.st j 7),.int .i64 (s.st j 8),.int .i64 (s.st j 9),.int .i64 (s.st j 10),.int .i64 (s.st j 11),.int .i64 (s.en j 0),.int .i64 (s.en j 1),.int .i64 (s.en j 2),.int .i64 (s.en j 3),.int .i64 (s.en j 4),.int .i64 (s.en j 5),.int .i64 (s.en j 6),.int .i64 (s.en j 7),.int .i64 (s.en j 8),.int .i64 (s.en j 9),.int .i64 (s.en j 10),.int .i64 (s.en j 11),.int .i64 (s.sh j),.int .i64 (s.rt j)] wr.heap.size rfl rfl rfl (by kernel_rfl) (by kernel_rfl) (by kernel_rfl) ?_));go_wp2_with (show wpList _ _ _ [_,_,_,_,_,_] _ _;refine wpList_load_mid rfl _ _ rfl wr.heap.size 0 rfl [.int .i64 (s.st j 0),.int .i64 (s.st j 1),.int .i64 (s.st j 2),.int .i64 (s.st j 3),.int .i64 (s.st j 4),.int .i64 (s.st j 5),.int .i64 (s.st j 6),.int .i64 (s.st j 7),.int .i64 (s.st j 8),.int .i64 (s.st j 9),.int .i64 (s.st j 10),.int .i64 (s.st j 11),.int .i64 (s.en j 0),.int .i64 (s.en j 1),.int .i64 (s.en j 2),.int .i64 (s.en j 3),.int .i64 (s.en j 4),.int .i64 (s.en j 5),.int .i64 (s.en j 6),.int .i64 (s.en j 7),.int .i64 (s.en j 8),.int .i64 (s.en j 9),.int .i64 (s.en j 10),.int .i64 (s.en j 11),.int .i64 (s.sh j),.int .i64 (s.rt j)] _ HBX.out Tryz.underlying42 rfl info_srf ?_);refine (sIsValidSurface_any (s.st j) (s.en j) (s.sh j) (s.rt j) s.ps.length _).mono ?_;rintro e w5 ⟨rfl,x5⟩;have y5:Ext wr w5:=Ext.trans (show Ext wr (wr.alloc (.cells #[.int .i64 (s.st j 0),.int .i64 (s.st j 1),.int .i64 (s.st j 2),.int .i64 (s.st j 3),.int .i64 (s.st j 4),.int .i64 (s.st j 5),.int .i64 (s.st j 6),.int .i64 (s.st j 7),.int .i64 (s.st j 8),.int .i64 (s.st j 9),.int .i64 (s.st j 10),.int .i64 (s.st j 11),.int .i64 (s.en j 0),.int .i64 (s.en j 1),.int .i64 (s.en j 2),.int .i64 (s.en j 3),.int .i64 (s.en j 4),.int .i64 (s.en j 5),.int .i64 (s.en j 6),.int .i64 (s.en j 7),.int .i64 (s.en j 8),.int .i64 (s.en j 9),.int .i64 (s.en j 10),.int .i64 (s.en j 11),.int .i64 (s.sh j),.int .i64 (s.rt j)] 42)) from X_) x5;have X5:=hid (HX.out.trans y5);have R5:=hid (HB.out.ext y5)
     cases hcb:srfB (s.st j) (s.en j) (s.sh j) (s.rt j) s.ps.length
     ·have hall:(List.range s.m).all s.srfB=false:=List.all_eq_false.2 ⟨j,List.mem_range.2 hlt,by unfold Scn.srfB;simp [hcb]⟩
      have HALL:=hid hall;clear hcb hall x5 y5;go_wp2;go_ret;exact ⟨by rw [HALL.out];simp,X5.out⟩
     ·have HCB:=hid hcb
      clear hcb x5 y5;go_wp2;go_roundw
      case rel=>
       refine ⟨j+1,by omega,by go_num,X5.out,R5.out,fun q hq=>?_⟩
       rcases Nat.lt_or_ge q j with h|h
       ·exact HC.out q h
       ·obtain rfl:q=j:=by omega
        exact HCB.out
      case measure=>simp [intOf];omega
    ·obtain rfl:j=s.m:=by omega
     have hall:(List.range s.m).all s.srfB=true:=List.all_eq_true.2 (fun q hq=>HC.out q (List.mem_range.1 hq));have HALL:=hid hall;clear hx hb hc hall;clear HC;have HG:=hid hge;have HJ:=hid hj;clear hge hj
     by_cases hs:sideB s.side=true
     ·have h3:s.side=1∨s.side=2∨s.side=4:=by unfold sideB at hs;simpa [or_assoc] using hs
      have HSD:=hid hs;clear hs
      obtain ⟨sd,hsd⟩:∃sd,s.side=sd:=⟨_,rfl⟩
      have HB0:=hid (show Blk wr w.heap.size 31 [.int .i64 s.c.w,.int .i64 s.c.h,.int .i64 s.c.zoom,.int .i64 s.c.near,.bool s.c.deep,.int .i64 s.c.lens,.int .i64 s.c.focus,.int .i64 s.t.log,.slice a1 s.t.px.length c1,.slice a2 s.ps.length c2,.slice a3 s.m c3,.int .i64 sd] from hsd▸HB.out);have HSD2:=hid (show sideB s.side=true from HSD.out);rw [hsd] at h3;clear hsd HB HSD
      rcases h3 with rfl|rfl|rfl
      ·skip
       cases b1
       ·skip
        obtain ⟨s0,s1,s2,s3,s4,s5,s6,s7,s8,s9,s10,s11⟩:=HB0.out.q12;have sl:=HB0.out.lt;go_wp2_with fail;refine (sIsValidCamera_val (c:=s.c) C1.out _).mono ?_;rintro e w1 ⟨rfl,x1⟩;have X1:=hid (HX.out.trans x1);have R1:=hid (HB0.out.ext x1);clear s0 s1 s2 s3 s4 s5 s6 s7 s8 s9 s10 s11 sl;clear x1;go_wp2;go_ret;exact ⟨by rw [HALL.out,HA.out,HSD2.out];first|rfl|simp [*],X1.out⟩
       ·cases b2
        ·skip
         obtain ⟨s0,s1,s2,s3,s4,s5,s6,s7,s8,s9,s10,s11⟩:=HB0.out.q12;have sl:=HB0.out.lt;go_wp2_with fail;refine (sIsValidCamera_val (c:=s.c) C1.out _).mono ?_;rintro e w1 ⟨rfl,x1⟩;have X1:=hid (HX.out.trans x1);have R1:=hid (HB0.out.ext x1);clear s0 s1 s2 s3 s4 s5 s6 s7 s8 s9 s10 s11 sl;clear x1;have s7:=R1.out.cell 7 rfl;have s8:=R1.out.cell 8 rfl;have s9:=R1.out.cell 9 rfl;have s10:=R1.out.cell 10 rfl;have s11:=R1.out.cell 11 rfl;have sl:=R1.out.lt;go_wp2_with fail;refine (sIsValidTexture_val C2.out lo hi _ _ (HT.out _ X1.out) (Nat.le_trans hh X1.out.size)).mono ?_;rintro e w2 ⟨rfl,x2⟩;have X2:=hid (X1.out.trans x2);have R2:=hid (R1.out.ext x2);clear s7 s8 s9 s10 s11 sl;clear x2;go_wp2;go_ret;exact ⟨by rw [HALL.out,HA.out,HSD2.out];first|rfl|simp [*],X2.out⟩
        ·cases b3
         ·skip
          obtain ⟨s0,s1,s2,s3,s4,s5,s6,s7,s8,s9,s10,s11⟩:=HB0.out.q12;have sl:=HB0.out.lt;go_wp2_with fail;refine (sIsValidCamera_val (c:=s.c) C1.out _).mono ?_;rintro e w1 ⟨rfl,x1⟩;have X1:=hid (HX.out.trans x1);have R1:=hid (HB0.out.ext x1);clear s0 s1 s2 s3 s4 s5 s6 s7 s8 s9 s10 s11 sl;clear x1;have s7:=R1.out.cell 7 rfl;have s8:=R1.out.cell 8 rfl;have s9:=R1.out.cell 9 rfl;have s10:=R1.out.cell 10 rfl;have s11:=R1.out.cell 11 rfl;have sl:=R1.out.lt;go_wp2_with fail;refine (sIsValidTexture_val C2.out lo hi _ _ (HT.out _ X1.out) (Nat.le_trans hh X1.out.size)).mono ?_;rintro e w2 ⟨rfl,x2⟩;have X2:=hid (X1.out.trans x2);have R2:=hid (R1.out.ext x2);clear s7 s8 s9 s10 s11 sl;clear x2;have s9:=R2.out.cell 9 rfl;have s10:=R2.out.cell 10 rfl;have s11:=R2.out.cell 11 rfl;have sl:=R2.out.lt;go_wp2_with (go_at_call 70;refine (l01In_val C3.out _).mono ?_;rintro e w3 ⟨rfl,rfl⟩);go_ret;exact ⟨by rw [HALL.out,HA.out,HSD2.out];first|rfl|simp [*],X2.out⟩
         ·rcases Nat.lt_or_ge 5 s.m with hm|hm
          ·have hmi : ¬((s.m:Int)≤5):=by omega
           have g0:decide (s.m≤5)=false:=by simp;omega
           have G0:=hid g0;clear g0;obtain ⟨s0,s1,s2,s3,s4,s5,s6,s7,s8,s9,s10,s11⟩:=HB0.out.q12;have sl:=HB0.out.lt;go_wp2_with fail;refine (sIsValidCamera_val (c:=s.c) C1.out _).mono ?_;rintro e w1 ⟨rfl,x1⟩;have X1:=hid (HX.out.trans x1);have R1:=hid (HB0.out.ext x1);clear s0 s1 s2 s3 s4 s5 s6 s7 s8 s9 s10 s11 sl;clear x1;have s7:=R1.out.cell 7 rfl;have s8:=R1.out.cell 8 rfl;have s9:=R1.out.cell 9 rfl;have s10:=R1.out.cell 10 rfl;have s11:=R1.out.cell 11 rfl;have sl:=R1.out.lt;go_wp2_with fail;refine (sIsValidTexture_val C2.out lo hi _ _ (HT.out _ X1.out) (Nat.le_trans hh X1.out.size)).mono ?_;rintro e w2 ⟨rfl,x2⟩;have X2:=hid (X1.out.trans x2);have R2:=hid (R1.out.ext x2);clear s7 s8 s9 s10 s11 sl;clear x2;have s9:=R2.out.cell 9 rfl;have s10:=R2.out.cell 10 rfl;have s11:=R2.out.cell 11 rfl;have sl:=R2.out.lt;go_wp2_with (go_at_call 70;refine (l01In_val C3.out _).mono ?_;rintro e w3 ⟨rfl,rfl⟩);go_ret;exact ⟨by rw [HALL.out,HA.out,HSD2.out,G0.out];first|rfl|simp [*],X2.out⟩
          ·have hmi:(s.m:Int)≤5:=by omega
           have g0:decide (s.m≤5)=true:=by simp;omega
           have G0:=hid g0;clear g0;obtain ⟨s0,s1,s2,s3,s4,s5,s6,s7,s8,s9,s10,s11⟩:=HB0.out.q12;have sl:=HB0.out.lt;go_wp2_with fail;refine (sIsValidCamera_val (c:=s.c) C1.out _).mono ?_;rintro e w1 ⟨rfl,x1⟩;have X1:=hid (HX.out.trans x1);have R1:=hid (HB0.out.ext x1);clear s0 s1 s2 s3 s4 s5 s6 s7 s8 s9 s10 s11 sl;clear x1;have s7:=R1.out.cell 7 rfl;have s8:=R1.out.cell 8 rfl;have s9:=R1.out.cell 9 rfl;have s10:=R1.out.cell 10 rfl;have s11:=R1.out.cell 11 rfl;have sl:=R1.out.lt;go_wp2_with fail;refine (sIsValidTexture_val C2.out lo hi _ _ (HT.out _ X1.out) (Nat.le_trans hh X1.out.size)).mono ?_;rintro e w2 ⟨rfl,x2⟩;have X2:=hid (X1.out.trans x2);have R2:=hid (R1.out.ext x2);clear s7 s8 s9 s10 s11 sl;clear x2;have s9:=R2.out.cell 9 rfl;have s10:=R2.out.cell 10 rfl;have s11:=R2.out.cell 11 rfl;have sl:=R2.out.lt;go_wp2_with (go_at_call 70;refine (l01In_val C3.out _).mono ?_;rintro e w3 ⟨rfl,rfl⟩);go_ret;exact ⟨by rw [HALL.out,HA.out,HSD2.out,G0.out];first|rfl|simp [*],X2.out⟩
      ·skip
       cases b1
       ·skip
        obtain ⟨s0,s1,s2,s3,s4,s5,s6,s7,s8,s9,s10,s11⟩:=HB0.out.q12;have sl:=HB0.out.lt;go_wp2_with fail;refine (sIsValidCamera_val (c:=s.c) C1.out _).mono ?_;rintro e w1 ⟨rfl,x1⟩;have X1:=hid (HX.out.trans x1);have R1:=hid (HB0.out.ext x1);clear s0 s1 s2 s3 s4 s5 s6 s7 s8 s9 s10 s11 sl;clear x1;go_wp2;go_ret;exact ⟨by rw [HALL.out,HA.out,HSD2.out];first|rfl|simp [*],X1.out⟩
       ·cases b2
        ·skip
         obtain ⟨s0,s1,s2,s3,s4,s5,s6,s7,s8,s9,s10,s11⟩:=HB0.out.q12;have sl:=HB0.out.lt;go_wp2_with fail;refine (sIsValidCamera_val (c:=s.c) C1.out _).mono ?_;rintro e w1 ⟨rfl,x1⟩;have X1:=hid (HX.out.trans x1);have R1:=hid (HB0.out.ext x1);clear s0 s1 s2 s3 s4 s5 s6 s7 s8 s9 s10 s11 sl;clear x1;have s7:=R1.out.cell 7 rfl;have s8:=R1.out.cell 8 rfl;have s9:=R1.out.cell 9 rfl;have s10:=R1.out.cell 10 rfl;have s11:=R1.out.cell 11 rfl;have sl:=R1.out.lt;go_wp2_with fail;refine (sIsValidTexture_val C2.out lo hi _ _ (HT.out _ X1.out) (Nat.le_trans hh X1.out.size)).mono ?_;rintro e w2 ⟨rfl,x2⟩;have X2:=hid (X1.out.trans x2);have R2:=hid (R1.out.ext x2);clear s7 s8 s9 s10 s11 sl;clear x2;go_wp2;go_ret;exact ⟨by rw [HALL.out,HA.out,HSD2.out];first|rfl|simp [*],X2.out⟩
        ·cases b3
         ·skip
          obtain ⟨s0,s1,s2,s3,s4,s5,s6,s7,s8,s9,s10,s11⟩:=HB0.out.q12;have sl:=HB0.out.lt;go_wp2_with fail;refine (sIsValidCamera_val (c:=s.c) C1.out _).mono ?_;rintro e w1 ⟨rfl,x1⟩;have X1:=hid (HX.out.trans x1);have R1:=hid (HB0.out.ext x1);clear s0 s1 s2 s3 s4 s5 s6 s7 s8 s9 s10 s11 sl;clear x1;have s7:=R1.out.cell 7 rfl;have s8:=R1.out.cell 8 rfl;have s9:=R1.out.cell 9 rfl;have s10:=R1.out.cell 10 rfl;have s11:=R1.out.cell 11 rfl;have sl:=R1.out.lt;go_wp2_with fail;refine (sIsValidTexture_val C2.out lo hi _ _ (HT.out _ X1.out) (Nat.le_trans hh X1.out.size)).mono ?_;rintro e w2 ⟨rfl,x2⟩;have X2:=hid (X1.out.trans x2);have R2:=hid (R1.out.ext x2);clear s7 s8 s9 s10 s11 sl;clear x2;have s9:=R2.out.cell 9 rfl;have s10:=R2.out.cell 10 rfl;have s11:=R2.out.cell 11 rfl;have sl:=R2.out.lt;go_wp2_with (go_at_call 70;refine (l01In_val C3.out _).mono ?_;rintro e w3 ⟨rfl,rfl⟩);go_ret;exact ⟨by rw [HALL.out,HA.out,HSD2.out];first|rfl|simp [*],X2.out⟩
         ·rcases Nat.lt_or_ge 5 s.m with hm|hm
          ·have hmi : ¬((s.m:Int)≤5):=by omega
           have g0:decide (s.m≤5)=false:=by simp;omega
           have G0:=hid g0;clear g0;obtain ⟨s0,s1,s2,s3,s4,s5,s6,s7,s8,s9,s10,s11⟩:=HB0.out.q12;have sl:=HB0.out.lt;go_wp2_with fail;refine (sIsValidCamera_val (c:=s.c) C1.out _).mono ?_;rintro e w1 ⟨rfl,x1⟩;have X1:=hid (HX.out.trans x1);have R1:=hid (HB0.out.ext x1);clear s0 s1 s2 s3 s4 s5 s6 s7 s8 s9 s10 s11 sl;clear x1;have s7:=R1.out.cell 7 rfl;have s8:=R1.out.cell 8 rfl;have s9:=R1.out.cell 9 rfl;have s10:=R1.out.cell 10 rfl;have s11:=R1.out.cell 11 rfl;have sl:=R1.out.lt;go_wp2_with fail;refine (sIsValidTexture_val C2.out lo hi _ _ (HT.out _ X1.out) (Nat.le_trans hh X1.out.size)).mono ?_;rintro e w2 ⟨rfl,x2⟩;have X2:=hid (X1.out.trans x2);have R2:=hid (R1.out.ext x2);clear s7 s8 s9 s10 s11 sl;clear x2;have s9:=R2.out.cell 9 rfl;have s10:=R2.out.cell 10 rfl;have s11:=R2.out.cell 11 rfl;have sl:=R2.out.lt;go_wp2_with (go_at_call 70;refine (l01In_val C3.out _).mono ?_;rintro e w3 ⟨rfl,rfl⟩);go_ret;exact ⟨by rw [HALL.out,HA.out,HSD2.out,G0.out];first|rfl|simp [*],X2.out⟩
          ·have hmi:(s.m:Int)≤5:=by omega
           have g0:decide (s.m≤5)=true:=by simp;omega
           have G0:=hid g0;clear g0;obtain ⟨s0,s1,s2,s3,s4,s5,s6,s7,s8,s9,s10,s11⟩:=HB0.out.q12;have sl:=HB0.out.lt;go_wp2_with fail;refine (sIsValidCamera_val (c:=s.c) C1.out _).mono ?_;rintro e w1 ⟨rfl,x1⟩;have X1:=hid (HX.out.trans x1);have R1:=hid (HB0.out.ext x1);clear s0 s1 s2 s3 s4 s5 s6 s7 s8 s9 s10 s11 sl;clear x1;have s7:=R1.out.cell 7 rfl;have s8:=R1.out.cell 8 rfl;have s9:=R1.out.cell 9 rfl;have s10:=R1.out.cell 10 rfl;have s11:=R1.out.cell 11 rfl;have sl:=R1.out.lt;go_wp2_with fail;refine (sIsValidTexture_val C2.out lo hi _ _ (HT.out _ X1.out) (Nat.le_trans hh X1.out.size)).mono ?_;rintro e w2 ⟨rfl,x2⟩;have X2:=hid (X1.out.trans x2);have R2:=hid (R1.out.ext x2);clear s7 s8 s9 s10 s11 sl;clear x2;have s9:=R2.out.cell 9 rfl;have s10:=R2.out.cell 10 rfl;have s11:=R2.out.cell 11 rfl;have sl:=R2.out.lt;go_wp2_with (go_at_call 70;refine (l01In_val C3.out _).mono ?_;rintro e w3 ⟨rfl,rfl⟩);go_ret;exact ⟨by rw [HALL.out,HA.out,HSD2.out,G0.out];first|rfl|simp [*],X2.out⟩
      ·skip
       cases b1
       ·skip
        obtain ⟨s0,s1,s2,s3,s4,s5,s6,s7,s8,s9,s10,s11⟩:=HB0.out.q12;have sl:=HB0.out.lt;go_wp2_with fail;refine (sIsValidCamera_val (c:=s.c) C1.out _).mono ?_;rintro e w1 ⟨rfl,x1⟩;have X1:=hid (HX.out.trans x1);have R1:=hid (HB0.out.ext x1);clear s0 s1 s2 s3 s4 s5 s6 s7 s8 s9 s10 s11 sl;clear x1;go_wp2;go_ret;exact ⟨by rw [HALL.out,HA.out,HSD2.out];first|rfl|simp [*],X1.out⟩
       ·cases b2
        ·skip
         obtain ⟨s0,s1,s2,s3,s4,s5,s6,s7,s8,s9,s10,s11⟩:=HB0.out.q12;have sl:=HB0.out.lt;go_wp2_with fail;refine (sIsValidCamera_val (c:=s.c) C1.out _).mono ?_;rintro e w1 ⟨rfl,x1⟩;have X1:=hid (HX.out.trans x1);have R1:=hid (HB0.out.ext x1);clear s0 s1 s2 s3 s4 s5 s6 s7 s8 s9 s10 s11 sl;clear x1;have s7:=R1.out.cell 7 rfl;have s8:=R1.out.cell 8 rfl;have s9:=R1.out.cell 9 rfl;have s10:=R1.out.cell 10 rfl;have s11:=R1.out.cell 11 rfl;have sl:=R1.out.lt;go_wp2_with fail;refine (sIsValidTexture_val C2.out lo hi _ _ (HT.out _ X1.out) (Nat.le_trans hh X1.out.size)).mono ?_;rintro e w2 ⟨rfl,x2⟩;have X2:=hid (X1.out.trans x2);have R2:=hid (R1.out.ext x2);clear s7 s8 s9 s10 s11 sl;clear x2;go_wp2;go_ret;exact ⟨by rw [HALL.out,HA.out,HSD2.out];first|rfl|simp [*],X2.out⟩
        ·cases b3
         ·skip
          obtain ⟨s0,s1,s2,s3,s4,s5,s6,s7,s8,s9,s10,s11⟩:=HB0.out.q12;have sl:=HB0.out.lt;go_wp2_with fail;refine (sIsValidCamera_val (c:=s.c) C1.out _).mono ?_;rintro e w1 ⟨rfl,x1⟩;have X1:=hid (HX.out.trans x1);have R1:=hid (HB0.out.ext x1);clear s0 s1 s2 s3 s4 s5 s6 s7 s8 s9 s10 s11 sl;clear x1;have s7:=R1.out.cell 7 rfl;have s8:=R1.out.cell 8 rfl;have s9:=R1.out.cell 9 rfl;have s10:=R1.out.cell 10 rfl;have s11:=R1.out.cell 11 rfl;have sl:=R1.out.lt;go_wp2_with fail;refine (sIsValidTexture_val C2.out lo hi _ _ (HT.out _ X1.out) (Nat.le_trans hh X1.out.size)).mono ?_;rintro e w2 ⟨rfl,x2⟩;have X2:=hid (X1.out.trans x2);have R2:=hid (R1.out.ext x2);clear s7 s8 s9 s10 s11 sl;clear x2;have s9:=R2.out.cell 9 rfl;have s10:=R2.out.cell 10 rfl;have s11:=R2.out.cell 11 rfl;have sl:=R2.out.lt;go_wp2_with (go_at_call 70;refine (l01In_val C3.out _).mono ?_;rintro e w3 ⟨rfl,rfl⟩);go_ret;exact ⟨by rw [HALL.out,HA.out,HSD2.out];first|rfl|simp [*],X2.out⟩
         ·rcases Nat.lt_or_ge 5 s.m with hm|hm
          ·have hmi : ¬((s.m:Int)≤5):=by omega
           have g0:decide (s.m≤5)=false:=by simp;omega
           have G0:=hid g0;clear g0;obtain ⟨s0,s1,s2,s3,s4,s5,s6,s7,s8,s9,s10,s11⟩:=HB0.out.q12;have sl:=HB0.out.lt;go_wp2_with fail;refine (sIsValidCamera_val (c:=s.c) C1.out _).mono ?_;rintro e w1 ⟨rfl,x1⟩;have X1:=hid (HX.out.trans x1);have R1:=hid (HB0.out.ext x1);clear s0 s1 s2 s3 s4 s5 s6 s7 s8 s9 s10 s11 sl;clear x1;have s7:=R1.out.cell 7 rfl;have s8:=R1.out.cell 8 rfl;have s9:=R1.out.cell 9 rfl;have s10:=R1.out.cell 10 rfl;have s11:=R1.out.cell 11 rfl;have sl:=R1.out.lt;go_wp2_with fail;refine (sIsValidTexture_val C2.out lo hi _ _ (HT.out _ X1.out) (Nat.le_trans hh X1.out.size)).mono ?_;rintro e w2 ⟨rfl,x2⟩;have X2:=hid (X1.out.trans x2);have R2:=hid (R1.out.ext x2);clear s7 s8 s9 s10 s11 sl;clear x2;have s9:=R2.out.cell 9 rfl;have s10:=R2.out.cell 10 rfl;have s11:=R2.out.cell 11 rfl;have sl:=R2.out.lt;go_wp2_with (go_at_call 70;refine (l01In_val C3.out _).mono ?_;rintro e w3 ⟨rfl,rfl⟩);go_ret;exact ⟨by rw [HALL.out,HA.out,HSD2.out,G0.out];first|rfl|simp [*],X2.out⟩
          ·have hmi:(s.m:Int)≤5:=by omega
           have g0:decide (s.m≤5)=true:=by simp;omega
           have G0:=hid g0;clear g0;obtain ⟨s0,s1,s2,s3,s4,s5,s6,s7,s8,s9,s10,s11⟩:=HB0.out.q12;have sl:=HB0.out.lt;go_wp2_with fail;refine (sIsValidCamera_val (c:=s.c) C1.out _).mono ?_;rintro e w1 ⟨rfl,x1⟩;have X1:=hid (HX.out.trans x1);have R1:=hid (HB0.out.ext x1);clear s0 s1 s2 s3 s4 s5 s6 s7 s8 s9 s10 s11 sl;clear x1;have s7:=R1.out.cell 7 rfl;have s8:=R1.out.cell 8 rfl;have s9:=R1.out.cell 9 rfl;have s10:=R1.out.cell 10 rfl;have s11:=R1.out.cell 11 rfl;have sl:=R1.out.lt;go_wp2_with fail;refine (sIsValidTexture_val C2.out lo hi _ _ (HT.out _ X1.out) (Nat.le_trans hh X1.out.size)).mono ?_;rintro e w2 ⟨rfl,x2⟩;have X2:=hid (X1.out.trans x2);have R2:=hid (R1.out.ext x2);clear s7 s8 s9 s10 s11 sl;clear x2;have s9:=R2.out.cell 9 rfl;have s10:=R2.out.cell 10 rfl;have s11:=R2.out.cell 11 rfl;have sl:=R2.out.lt;go_wp2_with (go_at_call 70;refine (l01In_val C3.out _).mono ?_;rintro e w3 ⟨rfl,rfl⟩);go_ret;exact ⟨by rw [HALL.out,HA.out,HSD2.out,G0.out];first|rfl|simp [*],X2.out⟩
     ·have hsf:sideB s.side=false:=by cases h:sideB s.side with|true=>exact absurd h hs|false=>rfl
      have HSF:=hid hsf
      have h1 : ¬s.side=1:=fun h=>by rw [h] at hs;exact hs rfl
      have h2 : ¬s.side=2:=fun h=>by rw [h] at hs;exact hs rfl
      have h3 : ¬s.side=4:=fun h=>by rw [h] at hs;exact hs rfl
      clear hs hsf;obtain ⟨s0,s1,s2,s3,s4,s5,s6,s7,s8,s9,s10,s11⟩:=HB.out.q12;have sl:=HB.out.lt;go_wp2;go_ret;exact ⟨by rw [HALL.out,HA.out,HSF.out];simp,HX.out⟩
def Rd {α : Type} (cs : α→List Value) (lo hi:Nat) (w:World) (v:Value) (ys:List α):Prop:=
 ∃ad c,v = .slice ad ys.length c∧ys.length≤c∧c≤9223372036854775807∧(ad=none→c=0)∧(ys=[]∨∃b off,ad=some ⟨b,off,none⟩∧lo≤b∧b<hi∧∀j u,(ys.flatMap cs)[j]?=some u→w.cell? ⟨b,off+j,none⟩=some u)
theorem Rd.same {α : Type} {cs : α→List Value} {lo hi:Nat} {w w':World} {v:Value} {ys:List α} (h:Rd cs lo hi w v ys) (s:Same lo hi w w'):Rd cs lo hi w' v ys:=by
 obtain ⟨ad,c,h1,h2,h3,h4,h5⟩:=h;refine ⟨ad,c,h1,h2,h3,h4,?_⟩
 rcases h5 with h5|⟨b,off,e,l1,l2,hc⟩
 ·exact .inl h5
 ·exact .inr ⟨b,off,e,l1,l2,fun j u hj=>(s.cell l1 l2).trans (hc j u hj)⟩
theorem Rd.ext {α : Type} {cs : α→List Value} {lo hi:Nat} {w w':World} {v:Value} {ys:List α} (h:Rd cs lo hi w v ys) (hh:hi≤w.heap.size) (e:Ext w w'):Rd cs lo hi w' v ys:=h.same (e.same hh)
theorem OwnG.rd {α : Type} {cs : α→List Value} {lo:Nat} {e:TypeId} {sz:Nat} {w:World} {v:Value} {xs:List α} (h:OwnG cs lo e sz w v xs) (hc:∀x,(cs x).length=sz):Rd cs lo w.heap.size w v xs:=by
 obtain ⟨h1,h2⟩:=h
 rcases h2 with ⟨rfl,h4⟩|⟨g,cap,cur,rfl,hb,hg,hcap,hm,hs,ht⟩
 ·have:xs=[]:=List.eq_nil_of_length_eq_zero h4
  subst this;exact ⟨none,0,rfl,Nat.le_refl _,by omega,fun _=>rfl,.inl rfl⟩
 ·refine ⟨_,cap,rfl,hcap,by unfold maxLen at hm;omega,(fun h=>nomatch h),.inr ⟨g,0,rfl,hb,(Array.getElem?_eq_some_iff.1 hg).1,fun j u hj=>?_⟩⟩
  have hl:=(List.getElem?_eq_some_iff.1 hj).1;rw [flatMap_len hc] at hl;rw [←ht,List.getElem?_take,if_pos hl] at hj;simp only [World.cell?,hg,Nat.zero_add]
  simpa using hj
theorem OwnG.freshC {α : Type} {cs : α→List Value} {lo g:Nat} {e:TypeId} {sz:Nat} {w:World} (hl:lo≤g) (h:Blk w g e []):OwnG cs lo e sz w (.slice (some ⟨g,0,none⟩) 0 0) []:=
 ⟨by simp,.inr ⟨g,0,#[],rfl,hl,h,Nat.le_refl _,by unfold maxLen;omega,by simp,by simp⟩⟩
theorem Rd.nil {α : Type} (cs : α→List Value) (lo hi:Nat) (w:World):Rd cs lo hi w (.slice none 0 0) ([]:List α):=⟨none,0,rfl,Nat.le_refl _,by omega,fun _=>rfl,.inl rfl⟩
theorem Rd.form {α : Type} {cs : α→List Value} {lo hi:Nat} {w:World} {v:Value} {ys:List α} (h:Rd cs lo hi w v ys):∃ad c,v = .slice ad ys.length c∧ys.length≤c∧c≤9223372036854775807∧Rd cs lo hi w (.slice ad ys.length c) ys:=by
 obtain ⟨ad,c,rfl,h2,h3,h4⟩:=h;exact ⟨ad,c,rfl,h2,h3,_,c,rfl,h2,h3,h4⟩
theorem Rd.at {α : Type} {cs : α→List Value} {sz:Nat} (hc:∀x,(cs x).length=sz) {lo hi:Nat} {w:World} {ad:Option Addr} {n c:Nat} {ys:List α} (h:Rd cs lo hi w (.slice ad n c) ys) {k:Nat} {y : α} (hk:ys[k]?=some y) :
  ∃b off,ad=some ⟨b,off,none⟩∧lo≤b∧b<hi∧∀j,j<sz→w.cell? ⟨b,off+k*sz+j,none⟩=(cs y)[j]?:=by
 obtain ⟨ad',c',e,h2,h3,h4,h5⟩:=h;simp only [Value.slice.injEq] at e;obtain ⟨rfl,rfl,rfl⟩:=e
 rcases h5 with rfl|⟨b,off,rfl,l1,l2,hcell⟩
 ·cases hk
 refine ⟨b,off,rfl,l1,l2,fun j hj=>?_⟩;have e2:=flatMap_at (cs:=cs) (sz:=sz) hc hk j hj
 have hj2:j<(cs y).length:=by rw [hc];exact hj
 rw [List.getElem?_eq_getElem hj2] at e2 ⊢;rw [Nat.add_assoc];exact hcell _ _ e2
theorem wpList_append_cat {α : Type} (cs : α→List Value) (e:TypeId) (sz bytes:Nat) (z:Value) (w:World) {ops:Array Oper} {rest:List Oper} {o:Oper} {a:Act} {Q:Exit→Act→World→Prop} (hg:o.guard=none) (s x:Operand) (t:TypeId)
  (hop:o.op=Op.call { callee:=Callee.builtin Builtin.append,args:=#[s,x],argTypes:=#[t,t] }) (ht:Tryz.prog.underlying t=some (.slice e))
  (hinfo:(Tryz.prog.info? e).map (fun i=>(i.zero,i.size,i.bytes))=some (some z,sz,bytes)) (hzs:z.cells.size=sz) (hsz:0<sz) (hby:bytes≤1000) (hc:∀x,(cs x).length=sz) (h1:∀y,∀u∈cs y,u.oneCell'=true)
  (lo:Nat) (v:Value) (xs:List α) (hs:a.eval s=v) (hown:OwnG cs lo e sz w v xs)
  (lo2 hi2:Nat) (u:Value) (ys:List α) (hx:a.eval x=u) (hu:Rd cs lo2 hi2 w u ys) (hlen:xs.length+ys.length≤10000000) (hlo:lo≤w.heap.size)
  (hK:∀v' w',OwnG cs lo e sz w' v' (xs++ys)→w.grownBy w' v.ownBlock→wpList Tryz.prog ops Q rest (a.put o.dst v') w'):wpList Tryz.prog ops Q (o::rest) a w:=by
 obtain ⟨i0,hi0,hz0,hz1,hz2⟩:=info_parts hinfo;obtain ⟨ad,c,rfl,h2,h3,h4,h5⟩:=hu
 cases ad with
 | none=>
  have hy:ys=[]:=by
   rcases h5 with h5|⟨b,off,e',_⟩
   ·exact h5
   ·cases e'
  have hc0:=h4 rfl;subst hy hc0;have hr:=run_append_owned_none (w:=w) lo t o.type e i0 sz ht hi0 v xs.length _ hown;refine wpList_plain hg fun _ hK'=>?_;unfold Oper.wp execOp;simp only [hop,resolve,invoke,builtin,Sem.run_bind,Sem.run_pure,Result.andThen_ok,List.map_toArray,List.map_cons,List.map_nil,hs,hx,List.length_nil,hr];exact hK' _ _ (hK v w (by rw [List.append_nil];exact hown) (grownBy.refl _ _))
 | some ad=>
  refine wpList_append_own w hg s x t hop lo e i0 z sz bytes ht hi0 hz0 hz1 hz2 hzs hsz v xs.length _ hs hown ad ys.length c (ys.flatMap cs) hx (flatMap_len hc ys) ?_ ?_ ?_ ?_ hlo ?_
  ·intro j q hj
   rcases h5 with rfl|⟨b,off,e',l1,l2,hcell⟩
   ·cases hj
   ·cases e'
    have ea:(⟨b,off,none⟩:Addr).add j=⟨b,off+j,none⟩:=by
     unfold Addr.add
     split <;> simp_all
    rw [ea];exact hcell j q hj
  ·intro q hq
   obtain ⟨y,hy,hq⟩:=List.mem_flatMap.1 hq;exact h1 y q hq
  ·unfold maxLen;omega
  ·have:(xs.length+ys.length)*bytes≤10000000*1000:=Nat.mul_le_mul hlen hby
   omega
  ·intro v' w1 hown' hgrow _
   refine hK v' w1 ?_ hgrow;unfold OwnG;rw [List.length_append,List.flatMap_append];exact hown'
end Go.Proofs.YtfjbiifebcfjfaaGreat
