/- Texts of this claim, one behind another; what its theorem does not use is left out: Ge6, Ge7, Tr1, Tr3, Ge8, Ge9, Ge2, Ge3, Sc1, Ck2, Ck3, Ck4, Ck5, Ck6. -/
import Derived.Test.YtfjbiifebcfjfaaGreatP28W2
import Derived.Laws.AppendOwnNone
import Derived.Test.YtfjbiifebcfjfaaGreatP28W1
set_option linter.unusedSimpArgs false
set_option linter.unusedVariables false
set_option maxRecDepth 100000
set_option maxHeartbeats 12800000
namespace Go.Proofs.YtfjbiifebcfjfaaGreat
open Go.RowKit
section
open Go.RowKit Go.Shelf
attribute [local go_sem] Oper.semAt_some
def v3cs (v:V3):List Value:=[v.x,v.y,v.z]
theorem evalPatch_val {f:Nat->Int} {i j n X Y Z:Int} (h:evP f i j n=⟨X,Y,Z⟩) (hn:1<=n/\n<=64) (hi:0<=i/\i<=n) (hj:0<=j/\j<=n) (w:World) :
  Calls Tryz.prog 158 #[.agg #[(f 0),(f 1),(f 2),(f 3),(f 4),(f 5),(f 6),(f 7),(f 8),(f 9),(f 10),(f 11)],i,j,n] w fun e w'=>e = .returned (.agg #[X,Y,Z])/\Ext w w':=by
 have:=evalPatch_any f i j n hn hi hj w;rw [h] at this;exact this
theorem project_pos {c:Cam} {x y z lx ly a b d:Int} (h:c.prB ⟨x,y,z⟩ lx ly=true) (hp:c.pr ⟨x,y,z⟩ lx ly=⟨a,b,d⟩) (w:World) :
  Calls Tryz.prog 262 #[.agg #[c.w,c.h,c.zoom,c.near,.bool c.deep,c.lens,c.focus],.agg #[x,y,z],lx,ly] w fun e w'=>e = .returned (.tuple #[.agg #[a,b,d],.bool true])/\Ext w w':=by
 have:=project_yes c x y z lx ly h w;rw [hp] at this;exact this
theorem project_neg {c:Cam} {x y z lx ly:Int} (h:c.prB ⟨x,y,z⟩ lx ly=false) (w:World) :
  Calls Tryz.prog 262 #[.agg #[c.w,c.h,c.zoom,c.near,.bool c.deep,c.lens,c.focus],.agg #[x,y,z],lx,ly] w fun e w'=>e = .returned (.tuple #[.agg #[(),(),()],.bool false])/\Ext w w':=project_no c x y z lx ly h w
theorem OwnG.fresh0 {α : Type} {cs : α->List Value} {lo g:Nat} {e:TypeId} {sz:Nat} {w:World} (hl:lo<=g) (h:Blk w g e []):OwnG cs lo e sz w (.slice (some ⟨g,0,none⟩) 0 0) []:=
 ⟨by simp,.inr ⟨g,0,#[],rfl,hl,h,Nat.le_refl _,by unfold maxLen;omega,by simp,by simp⟩⟩
theorem info_vec:(Tryz.prog.info? 37).map (fun i=>(i.zero,i.size,i.bytes))=some (some (.agg #[(),(),()]),3,24):=by kernel_rfl
theorem v3cs_one (p:V3):∀u∈v3cs p,u.oneCell'=true:=by
 intro u hu;simp only [v3cs,List.mem_cons,List.not_mem_nil,or_false] at hu
 rcases hu with rfl|rfl|rfl <;> rfl
theorem wpList_append_v3 (w:World) {ops:Array Oper} {rest:List Oper} {o:Oper} {a:Act} {Q:Exit->Act->World->Prop} (hg:o.guard=none) (s x:Operand)
  (hop:o.op=Op.call { callee:=Callee.builtin Builtin.append,args:=#[s,x],argTypes:=#[231,231] }) (lo:Nat) (v:Value) (xs:List V3) (hs:a.eval s=v) (hown:OwnG v3cs lo 37 3 w v xs)
  (y:V3) (b:Nat) (hx:a.eval x = .slice (some ⟨b,0,none⟩) 1 1) (hcell:∀j,j<3->w.cell? ⟨b,j,none⟩=(v3cs y)[j]?) (hlen:xs.length<1000000) (hlo:lo<=w.heap.size)
  (hK:∀v' w',OwnG v3cs lo 37 3 w' v' (xs++[y])->w.grownBy w' v.ownBlock->wpList Tryz.prog ops Q rest (a.put o.dst v') w'):wpList Tryz.prog ops Q (o::rest) a w:=
 wpList_append_elt v3cs 37 3 24 _ w hg s x 231 hop Tryz.underlying231 info_vec rfl (by decide) (by decide) (fun _=>rfl) lo v xs hs hown y b hx hcell (v3cs_one y) hlen hlo hK
theorem v3cs_at (w:World) (a b d:Int):∀j,j<3->(w.alloc (.cells #[a,b,d] 37)).cell? ⟨w.heap.size,j,none⟩=(v3cs ⟨a,b,d⟩)[j]?:=by
 intro j hj
 rcases (show j=0\/j=1\/j=2 by omega) with rfl|rfl|rfl <;> simp [go_sem,v3cs]
def ptsC (c:Cam) (f:Nat->Int) (n:Nat) (s:Smp) (u v:Nat) (pre:List (Fin 2×Fin 2)):List V3:=pre.map fun p=>corn c f n s (u+(p.1:Nat)) (v+(p.2:Nat))
theorem ptsC_snoc (c:Cam) (f:Nat->Int) (n:Nat) (s:Smp) (u v:Nat) (pre:List (Fin 2×Fin 2)) (x:Fin 2×Fin 2):ptsC c f n s u v (pre++[x])=ptsC c f n s u v pre++[corn c f n s (u+(x.1:Nat)) (v+(x.2:Nat))]:=by unfold ptsC;rw [List.map_append,List.map_singleton]
def okC (c:Cam) (f:Nat->Int) (n:Nat) (s:Smp) (u v:Nat) (pre:List (Fin 2×Fin 2)):Prop:=∀p∈pre,cornB c f n s (u+(p.1:Nat)) (v+(p.2:Nat))=true
def micL (a b d:V3) (u v n:Int):List Value:=[a.x,a.y,a.z,b.x,b.y,b.z,d.x,d.y,d.z,u,v,n]
def DiceR (c:Cam) (f:Nat->Int) (n:Nat) (s:Smp) (u v:Nat) (lo:Nat) (w:World) (r:Value):Prop:=
 (diceB c f n s u v=false/\r = .slice none 0 0) \/
 (diceB c f n s u v=true/\∃g,lo<=g/\r = .slice (some ⟨g,0,none⟩) 2 2/\Blk w g 164 (micL (corn c f n s u v) (corn c f n s (u+1) v) (corn c f n s u (v+1)) u v n++micL (corn c f n s (u+1) v) (corn c f n s (u+1) (v+1)) (corn c f n s u (v+1)) u v n))
def diceF (c:Cam) (f:Nat->Int) (n:Nat) (s:Smp) (u v:Nat) (w:World):List (Nat×TypeId×List Value):=
 [(w.heap.size,24,[c.w,c.h,c.zoom,c.near,.bool c.deep,c.lens,c.focus]),(w.heap.size+1,40,[(f 0),(f 1),(f 2),(f 3),(f 4),(f 5),(f 6),(f 7),(f 8),(f 9),(f 10),(f 11)]),(w.heap.size+2,3,[(u:Nat)]),(w.heap.size+3,3,[(v:Nat)]),(w.heap.size+4,3,[(n:Nat)]),(w.heap.size+5,3,[s.lx]),(w.heap.size+6,3,[s.ly]),(w.heap.size+7,157,[.slice none 0 0]),(w.heap.size+10,3,[.int .i64 2])]
theorem diceF_ne (c:Cam) (f:Nat->Int) (n:Nat) (s:Smp) (u v:Nat) (w:World):∀p∈diceF c f n s u v w,p.2.1≠37/\p.1≠w.heap.size+9:=by
 intro p hp;simp only [diceF,List.mem_cons,List.not_mem_nil,or_false] at hp
 rcases hp with rfl|rfl|rfl|rfl|rfl|rfl|rfl|rfl|rfl <;> exact ⟨by simp,by simp⟩
theorem bx_of {w:World} {b:Nat} {t:TypeId} {x y z:Value} (h:Blk w b t [x,y,z]):b<w.heap.size/\w.cell? ⟨b,0,none⟩=some x/\w.cell? ⟨b,1,none⟩=some y/\w.cell? ⟨b,2,none⟩=some z/\w.frozen? ⟨b,0,none⟩=false/\w.frozen? ⟨b,1,none⟩=false/\w.frozen? ⟨b,2,none⟩=false:=
 ⟨h.lt,h.cell 0 rfl,h.cell 1 rfl,h.cell 2 rfl,h.free 0,h.free 1,h.free 2⟩
theorem dice_no {c:Cam} {f:Nat->Int} {n:Nat} {s:Smp} {u v i j:Nat} (hi:i<2) (hj:j<2) (h:cornB c f n s (u+i) (v+j)=false):diceB c f n s u v=false:=by
 unfold diceB
 rcases (show i=0\/i=1 by omega) with rfl|rfl <;> rcases (show j=0\/j=1 by omega) with rfl|rfl <;> (try simp only [Nat.add_zero] at h) <;> simp [h]
theorem dice_yes {c:Cam} {f:Nat->Int} {n:Nat} {s:Smp} {u v:Nat} (h:okC c f n s u v (cellsTo 2 (by decide) (2*2))):diceB c f n s u v=true:=by
 have h00:=h (0,0) (by decide);have h10:=h (1,0) (by decide);have h01:=h (0,1) (by decide);have h11:=h (1,1) (by decide);unfold diceB;simp only [Bool.and_eq_true];exact ⟨⟨⟨h00,h10⟩,h01⟩,h11⟩
def GB (W:World):Value->World->Prop:=fun v w=>∃b,v = .pointer (some ⟨b,0,none⟩)/\W.heap.size<=b/\Blk w b 37 [(),(),()]
theorem GB.ext {W:World} {v:Value} {w w':World} (h:GB W v w) (x:Ext w w'):GB W v w':=by
 obtain ⟨b,h1,h2,h3⟩:=h;exact ⟨b,h1,h2,h3.ext x⟩
theorem GB.fresh {W:World} {u:Value} {w1:World} (h:GB W u w1) (e:u = .pointer (some ⟨w1.heap.size,0,none⟩)):False:=by
 obtain ⟨b,rfl,h2,h3⟩:=h;simp only [Value.pointer.injEq,Option.some.injEq,Addr.mk.injEq,and_true] at e;have:=h3.lt;omega
theorem ptr_ne {a b:Nat} (h:Value.pointer (some ⟨a,0,none⟩)≠Value.pointer (some ⟨b,0,none⟩)):a≠b:=fun e=>h (by rw [e])
theorem n_le {n:Nat} (hn:1<=n/\n<=64):(1:Int)<=n/\(n:Int)<=64:=by omega
theorem iDiceCell_any (c:Cam) (f:Nat->Int) (n:Nat) (s:Smp) (u v:Nat) (hn:1<=n/\n<=64) (hu:u<n) (hv:v<n) (w:World) :
  Calls Tryz.prog 210 #[.agg #[c.w,c.h,c.zoom,c.near,.bool c.deep,c.lens,c.focus],.agg #[(f 0),(f 1),(f 2),(f 3),(f 4),(f 5),(f 6),(f 7),(f 8),(f 9),(f 10),(f 11)],(u:Nat),(v:Nat),(n:Nat),s.lx,s.ly] w fun e w'=>∃r,e = .returned r/\DiceR c f n s u v w.heap.size w' r/\Ext w w':=by
 have C2:∀W:World,Calls Tryz.prog 157 #[.int .i64 2] W fun e w'=>e = .returned (.func (.func 219) #[] #[.pointer (some ⟨W.heap.size,0,none⟩)])/\w'=W.alloc (.cells #[.int .i64 2] 3):=fun W=>(callsIn_wide (n:=0)).1 (cells_val 2 0 W);have C2:=hid C2;have I1:=hid (inB_iff.2 (n_le hn));have I2:=hid (inB_iff.2 (show (0:Int)<=u/\(u:Int)<=(n:Int) - 1 by omega));have I3:=hid (inB_iff.2 (show (0:Int)<=v/\(v:Int)<=(n:Int) - 1 by omega));refine (callsIn_wide (n:=3)).1 ?_;refine callsIn_of_wp_marks Tryz.func210 rfl trivial ?_ rfl;simp only [Tryz.ntmps210,List.size_toArray,List.length_cons,List.length_nil,Nat.reduceAdd,Nat.reduceSub,Array.replicate_succ,Array.replicate_zero,List.push_toArray,List.append_toArray,List.nil_append,List.cons_append];refine wpIn_wide.2 ?_;go_wp2_with (go_at_call 54;with_reducible first|(refine (within_val I1.out _).mono ?_;rintro e w1 ⟨rfl,rfl⟩)|(refine (within_val I2.out _).mono ?_;rintro e w1 ⟨rfl,rfl⟩)|(refine (within_val I3.out _).mono ?_;rintro e w1 ⟨rfl,rfl⟩));refine (C2.out _).mono ?_;rintro e w6 ⟨rfl,rfl⟩;go_wp2_with fail;have n0:w.heap.size=w.heap.size+0:=rfl;obtain ⟨V1,hV,q0,x0,n1⟩:=mk_ w [c.w,c.h,c.zoom,c.near,.bool c.deep,c.lens,c.focus] 24 n0;rw [hV];clear hV;obtain ⟨V2,hV,q1,x1,n2⟩:=mk_ V1 [(f 0),(f 1),(f 2),(f 3),(f 4),(f 5),(f 6),(f 7),(f 8),(f 9),(f 10),(f 11)] 40 n1;rw [hV];clear hV;obtain ⟨V3,hV,q2,x2,n3⟩:=mk_ V2 [(u:Nat)] 3 n2;rw [hV];clear hV;obtain ⟨V4,hV,q3,x3,n4⟩:=mk_ V3 [(v:Nat)] 3 n3;rw [hV];clear hV;obtain ⟨V5,hV,q4,x4,n5⟩:=mk_ V4 [(n:Nat)] 3 n4;rw [hV];clear hV;obtain ⟨V6,hV,q5,x5,n6⟩:=mk_ V5 [s.lx] 3 n5;rw [hV];clear hV;obtain ⟨V7,hV,q6,x6,n7⟩:=mk_ V6 [s.ly] 3 n6;rw [hV];clear hV;obtain ⟨V8,hV,q7,x7,n8⟩:=mk_ V7 [.slice none 0 0] 157 n7;rw [hV];clear hV;obtain ⟨V9,hV,q8,x8,n9⟩:=mk_ V8 [] 37 n8;rw [hV];clear hV;obtain ⟨V10,hV,q9,x9,n10⟩:=mk_ V9 [.slice (some ⟨w.heap.size+8,0,none⟩) 0 0] 231 n9;rw [hV];clear hV;obtain ⟨V11,hV,q10,x10,n11⟩:=mk_ V10 [.int .i64 2] 3 n10;rw [hV];clear hV;have s10:=x10;have s9:=x9.trans s10;have s8:=x8.trans s9;have s7:=x7.trans s8;have s6:=x6.trans s7;have s5:=x5.trans s6;have s4:=x4.trans s5;have s3:=x3.trans s4;have s2:=x2.trans s3;have s1:=x1.trans s2;have s0:=x0.trans s1;have r0:=q0.ext s1;have r1:=q1.ext s2;have r2:=q2.ext s3;have r3:=q3.ext s4;have r4:=q4.ext s5;have r5:=q5.ext s6;have r6:=q6.ext s7;have r7:=q7.ext s8;have r8:=q8.ext s9;have r9:=q9.ext s10;have r10:=q10;have z0:=n11;have X0:=s0;clear q0 x0 s0 q1 x1 s1 q2 x2 s2 q3 x3 s3 q4 x4 s4 q5 x5 s5 q6 x6 s6 q7 x7 s7 q8 x8 s8 q9 x9 s9 q10 x10 s10 n0 n1 n2 n3 n4 n5 n6 n7 n8 n9 n10 n11
 obtain ⟨W0,hW0⟩:∃W0,V11=W0:=⟨_,rfl⟩
 rw [hW0] at r0 r1 r2 r3 r4 r5 r6 r7 r8 r9 r10 X0 z0;rw [hW0];clear hW0
 have HRB:RB v3cs 37 3 231 (fun v=>[v]) w (w.heap.size+9) (diceF c f n s u v w) W0 (ptsC c f n s u v []):=by
  refine ⟨X0,fun p hp=>?_,by omega,_,r9,OwnG.fresh0 (by omega) r8⟩;simp only [diceF,List.mem_cons,List.not_mem_nil,or_false] at hp
  rcases hp with rfl|rfl|rfl|rfl|rfl|rfl|rfl|rfl|rfl <;> assumption
 have HRB:=hid HRB;have NB:=r10.cell 0 rfl;clear r0 r1 r2 r3 r4 r5 r6 r7 r8 r9 r10 X0 C2;refine (wpIn_wide (n:=3)).1 ?_
 refine' wpIn_rangeFunc_ownG rfl (by omega) (gf:=219) (lb:=#[.pointer (some ⟨w.heap.size+10,0,none⟩)]) rfl trivial (enters_of Tryz.func219 (by kernel_rfl) rfl)
  (cells_stops 2 (by decide) (by decide) _ (w.heap.size+10) W0 (by omega) NB) (fun h k=>KB.trans h k) ?hKb (Below.refl _ _) (fun _=>rfl)
  (fun pre W=>RB v3cs 37 3 231 (fun v=>[v]) w (w.heap.size+9) (diceF c f n s u v w) W (ptsC c f n s u v pre)/\okC c f n s u v pre)
  (fun cd pre W=>cd = .ret/\diceB c f n s u v=false/\Ext w W/\Blk W (w.heap.size+7) 157 [.slice none 0 0]) ?owns ?ownsx ⟨HRB.out,fun p hp=>absurd hp List.not_mem_nil⟩ _ ?assign ?body ?done ?stop
 case hKb=>exact fun W l o o' hl ho _ _=>World.putObj_heap_other (by omega)
 case assign=>
  intro l x W K hK
  gi_wp2
  exact hK
 case owns=>exact fun pre A B row h hg hr=>⟨RB.owns (by omega) (ptsC c f n s u v) pre A B row h.1 hg hr,h.2⟩
 case ownsx=>exact fun cd pre A B row h hg hr=>⟨h.1,h.2.1,h.2.2.1.grown hg (fun k e=>Nat.le_trans (by omega) (hr k e).1),kept_blk hg (fun r e=>(hr r e).2) h.2.2.2⟩
 case body=>
  intro l pre x W hI hpre;obtain ⟨hI,hall⟩:=hI;have HI:=hid hI;have HA:=hid hall
  obtain ⟨i,hi⟩:∃i:Nat,(x.1:Nat)=i:=⟨_,rfl⟩
  obtain ⟨j,hj⟩:∃i:Nat,(x.2:Nat)=i:=⟨_,rfl⟩
  have hi2:i<2:=hi▸x.1.2;have hj2:j<2:=hj▸x.2.2
  obtain ⟨X,Y,Z,hE⟩:∃X Y Z,evP f ((u:Int)+(i:Int)) ((v:Int)+(j:Int)) (n:Int)=⟨X,Y,Z⟩:=⟨_,_,_,rfl⟩
  have HEV:=hid hE;have N1:=hid (n_le hn);have N2:=hid (show (0:Int)<=(u:Int)+(i:Int)/\(u:Int)+(i:Int)<=(n:Int) by omega);have N3:=hid (show (0:Int)<=(v:Int)+(j:Int)/\(v:Int)+(j:Int)<=(n:Int) by omega);have ZW:=hI.ext.size;obtain ⟨tv,tb1,tb2⟩:=hI.tb;have zt:=tb1.lt;have m0:=hI.fx _ (.head _);obtain ⟨m0c0,m0c1,m0c2,m0c3,m0c4,m0c5,m0c6⟩:=m0.q7;have m0l:=m0.lt;have m1:=hI.fx _ (.tail _ (.head _));obtain ⟨m1c0,m1c1,m1c2,m1c3,m1c4,m1c5,m1c6,m1c7,m1c8,m1c9,m1c10,m1c11⟩:=m1.q12;have m1l:=m1.lt;have m2:=hI.fx _ (.tail _ (.tail _ (.head _)));have m2c0:=m2.cell 0 rfl;have m2l:=m2.lt;have m3:=hI.fx _ (.tail _ (.tail _ (.tail _ (.head _))));have m3c0:=m3.cell 0 rfl;have m3l:=m3.lt;have m4:=hI.fx _ (.tail _ (.tail _ (.tail _ (.tail _ (.head _)))));have m4c0:=m4.cell 0 rfl;have m4l:=m4.lt;have m5:=hI.fx _ (.tail _ (.tail _ (.tail _ (.tail _ (.tail _ (.head _))))));have m5c0:=m5.cell 0 rfl;have m5l:=m5.lt;have m6:=hI.fx _ (.tail _ (.tail _ (.tail _ (.tail _ (.tail _ (.tail _ (.head _)))))));have m6c0:=m6.cell 0 rfl;have m6l:=m6.lt;have m7:=hI.fx _ (.tail _ (.tail _ (.tail _ (.tail _ (.tail _ (.tail _ (.tail _ (.head _))))))));have m7l:=m7.lt;simp only [diceF] at m0l m1l m2l m3l m4l m5l m6l m7l;rw [hi,hj];clear hE hI hall tb1 tb2 m0 m1 m2 m3 m4 m5 m6 m7 zt
  cases hb:c.prB ⟨X,Y,Z⟩ s.lx s.ly
  ·have HB:=hid hb
   clear hb;refine wpIn_block ?_;refine wpIn_seq_k fun K0 HK0=>?_;refine wpIn_region_Z 18 W.heap.size (by kernel_rfl) (by kernel_rfl) (fun ⟨_,_,h⟩=>h) ?_;refine z2_ (fuel:=7) [0,1,2,3,4,5,6,7,8,10,11] 9 16 (fun b _ hb=>rfl) (fun K hK=>?n2) fun K hK=>?n3
   case' n2=>
    go_wp2_with fail;refine (evalPatch_val HEV.out N1.out N2.out N3.out _).mono ?_;rintro e a0 ⟨rfl,y0⟩;have u0:Ext W a0:=Ext.trans X_ y0;go_wp2_with fail;refine hK _ _ (.inr (fun b _ hb=>Ext.block (w:=W) X_ (by omega))) ?_;clear hK K;refine z2_ (fuel:=6) [] 12 16 (fun b _ hb=>Ext.block u0 (by omega)) (fun K hK=>?n4) fun K hK=>?n5
    case' n4=>
     go_wp2_with fail;refine (project_neg HB.out _).mono ?_;rintro e a01 ⟨rfl,y01⟩;have u01:Ext W a01:=Ext.trans X_ y01;go_wp2_with fail;refine hK _ _ (.inr (fun b _ hb=>Ext.block (w:=W) X_ (by omega))) ?_;clear hK K;refine z1_ (fuel:=2) [13,14,15] 16 (fun b _ hb=>Ext.block u01 (by omega)) fun K hK=>?_;go_wp2;have hA01A:W.heap.size<=a01.heap.size:=u01.size;refine hK _ _ (.inr (fun b _ hb=>Ext.block (w:=W) X_ (by omega))) ?_;clear hK K
     obtain ⟨d01A,hd01A⟩:∃d,d=a01.alloc (.cells #[(),(),()] 37):=⟨_,rfl⟩
     rw [<-hd01A]
     have u01A:Ext W d01A:=by rw [hd01A];exact X_
     have b01A:Blk d01A a01.heap.size 37 [(),(),()]:=hd01A▸Blk.new _ _ _;clear hd01A;refine z1_ (fuel:=1) [] 17 (fun b _ hb=>Ext.block u01A (by omega)) fun K hK=>?_;obtain ⟨z0,z1,z2,z3,z4,z5,z6⟩:=bx_of b01A;go_wp2;have hlt0:=hA01A;refine hK _ _ (.inr (fun b _ hb=>Ext.block (w:=W) S_ (by omega))) ?_;clear hK K;refine z1_ (fuel:=0) [] 18 (fun b _ hb=>Ext.block (w:=W) S_ (by omega)) fun K hK=>?_;go_wp2;refine hK _ _ (.inl (by trivial)) ?_;clear hK K;refine wpZ_end (by kernel_rfl) ?_;have hlt:=hA01A;have hE:Ext W (((d01A.setCell ⟨a01.heap.size,0,none⟩ ()).setCell ⟨a01.heap.size,1,none⟩ ()).setCell ⟨a01.heap.size,2,none⟩ ()):=Ext.setCell (Ext.setCell (Ext.setCell u01A hlt _) hlt _) hlt _
     have hbx:Blk (((d01A.setCell ⟨a01.heap.size,0,none⟩ ()).setCell ⟨a01.heap.size,1,none⟩ ()).setCell ⟨a01.heap.size,2,none⟩ ()) (a01.heap.size) 37 [(),(),()]:=(((b01A.set 0 (.int .i64 0)).set 1 (.int .i64 0)).set 2 (.int .i64 0))
     clear z0 z1 z2 z3 z4 z5 z6
     obtain ⟨A,hA⟩:∃A,a01.heap.size=A:=⟨_,rfl⟩
     rw [hA] at hE hbx hlt ⊢
     obtain ⟨wx,hwx⟩:∃wx,((d01A.setCell ⟨A,0,none⟩ ()).setCell ⟨A,1,none⟩ ()).setCell ⟨A,2,none⟩ ()=wx:=⟨_,rfl⟩
     rw [hwx] at hE hbx ⊢;clear hwx hA
    case' n5=>
     go_wp2;have hA0A:W.heap.size<=a0.heap.size:=u0.size;refine hK _ _ (.inr (fun b _ hb=>Ext.block (w:=W) X_ (by omega))) ?_;clear hK K
     obtain ⟨d0A,hd0A⟩:∃d,d=a0.alloc (.cells #[(),(),()] 37):=⟨_,rfl⟩
     rw [<-hd0A]
     have u0A:Ext W d0A:=by rw [hd0A];exact X_
     have b0A:Blk d0A a0.heap.size 37 [(),(),()]:=hd0A▸Blk.new _ _ _;clear hd0A;refine z1_ (fuel:=5) [] 12 (fun b _ hb=>Ext.block u0A (by omega)) fun K hK=>?_;go_wp2_with fail;refine (project_neg HB.out _).mono ?_;rintro e a0A1 ⟨rfl,y0A1⟩;have u0A1:Ext W a0A1:=Ext.trans X_ y0A1;have b0A1:=b0A.ext y0A1;go_wp2_with fail;refine hK _ _ (.inr (fun b _ hb=>Ext.block (w:=W) X_ (by omega))) ?_;clear hK K;refine z1_ (fuel:=1) [13,14,15] 17 (fun b _ hb=>Ext.block u0A1 (by omega)) fun K hK=>?_;obtain ⟨z0,z1,z2,z3,z4,z5,z6⟩:=bx_of b0A1;go_wp2;have hlt0:=hA0A;refine hK _ _ (.inr (fun b _ hb=>Ext.block (w:=W) S_ (by omega))) ?_;clear hK K;refine z1_ (fuel:=0) [] 18 (fun b _ hb=>Ext.block (w:=W) S_ (by omega)) fun K hK=>?_;go_wp2;refine hK _ _ (.inl (by trivial)) ?_;clear hK K;refine wpZ_end (by kernel_rfl) ?_;have hlt:=hA0A;have hE:Ext W (((a0A1.setCell ⟨a0.heap.size,0,none⟩ ()).setCell ⟨a0.heap.size,1,none⟩ ()).setCell ⟨a0.heap.size,2,none⟩ ()):=Ext.setCell (Ext.setCell (Ext.setCell u0A1 hlt _) hlt _) hlt _
     have hbx:Blk (((a0A1.setCell ⟨a0.heap.size,0,none⟩ ()).setCell ⟨a0.heap.size,1,none⟩ ()).setCell ⟨a0.heap.size,2,none⟩ ()) (a0.heap.size) 37 [(),(),()]:=(((b0A1.set 0 (.int .i64 0)).set 1 (.int .i64 0)).set 2 (.int .i64 0))
     clear z0 z1 z2 z3 z4 z5 z6
     obtain ⟨A,hA⟩:∃A,a0.heap.size=A:=⟨_,rfl⟩
     rw [hA] at hE hbx hlt ⊢
     obtain ⟨wx,hwx⟩:∃wx,((a0A1.setCell ⟨A,0,none⟩ ()).setCell ⟨A,1,none⟩ ()).setCell ⟨A,2,none⟩ ()=wx:=⟨_,rfl⟩
     rw [hwx] at hE hbx ⊢;clear hwx hA
   case' n3=>
    go_wp2;have hAA:W.heap.size<=W.heap.size:=Nat.le_refl _;refine hK _ _ (.inr (fun b _ hb=>Ext.block (w:=W) X_ (by omega))) ?_;clear hK K
    obtain ⟨dA,hdA⟩:∃d,d=(W.alloc (.cells #[(),(),()] 37)).drew:=⟨_,rfl⟩
    rw [<-hdA]
    have uA:Ext W dA:=by rw [hdA];exact X_
    have bA:Blk dA W.heap.size 37 [(),(),()]:=hdA▸(Blk.new _ _ _).ext (Ext.drew (Ext.refl _));clear hdA;refine z1_ (fuel:=6) [] 9 (fun b _ hb=>Ext.block uA (by omega)) fun K hK=>?_;go_wp2_with fail;refine (evalPatch_val HEV.out N1.out N2.out N3.out _).mono ?_;rintro e aA0 ⟨rfl,yA0⟩;have uA0:Ext W aA0:=Ext.trans X_ yA0;have bA0:=bA.ext yA0;go_wp2_with fail;refine hK _ _ (.inr (fun b _ hb=>Ext.block (w:=W) X_ (by omega))) ?_;clear hK K;refine z1_ (fuel:=5) [] 12 (fun b _ hb=>Ext.block uA0 (by omega)) fun K hK=>?_;go_wp2_with fail;refine (project_neg HB.out _).mono ?_;rintro e aA01 ⟨rfl,yA01⟩;have uA01:Ext W aA01:=Ext.trans X_ yA01;have bA01:=bA0.ext yA01;go_wp2_with fail;refine hK _ _ (.inr (fun b _ hb=>Ext.block (w:=W) X_ (by omega))) ?_;clear hK K;refine z1_ (fuel:=1) [13,14,15] 17 (fun b _ hb=>Ext.block uA01 (by omega)) fun K hK=>?_;obtain ⟨z0,z1,z2,z3,z4,z5,z6⟩:=bx_of bA01;go_wp2;have hlt0:=hAA;refine hK _ _ (.inr (fun b _ hb=>Ext.block (w:=W) S_ (by omega))) ?_;clear hK K;refine z1_ (fuel:=0) [] 18 (fun b _ hb=>Ext.block (w:=W) S_ (by omega)) fun K hK=>?_;go_wp2;refine hK _ _ (.inl (by trivial)) ?_;clear hK K;refine wpZ_end (by kernel_rfl) ?_;have hlt:=hAA;have hE:Ext W (((aA01.setCell ⟨W.heap.size,0,none⟩ ()).setCell ⟨W.heap.size,1,none⟩ ()).setCell ⟨W.heap.size,2,none⟩ ()):=Ext.setCell (Ext.setCell (Ext.setCell uA01 hlt _) hlt _) hlt _
    have hbx:Blk (((aA01.setCell ⟨W.heap.size,0,none⟩ ()).setCell ⟨W.heap.size,1,none⟩ ()).setCell ⟨W.heap.size,2,none⟩ ()) (W.heap.size) 37 [(),(),()]:=(((bA01.set 0 (.int .i64 0)).set 1 (.int .i64 0)).set 2 (.int .i64 0))
    clear z0 z1 z2 z3 z4 z5 z6
    obtain ⟨A,hA⟩:∃A,W.heap.size=A:=⟨_,rfl⟩
    rw [hA] at hE hbx hlt ⊢
    obtain ⟨wx,hwx⟩:∃wx,((aA01.setCell ⟨A,0,none⟩ ()).setCell ⟨A,1,none⟩ ()).setCell ⟨A,2,none⟩ ()=wx:=⟨_,rfl⟩
    rw [hwx] at hE hbx ⊢;clear hwx hA
   all_goals
    have T2:=hid (HI.out.to hE);have y0:=hbx.lt;have y1:=hbx.cell 0 rfl;have y2:=hbx.cell 1 rfl;have y3:=hbx.cell 2 rfl;refine HK0 _ _ (wpIn_seq_k fun K1 HK1=>?_);refine wpIn_seq_k fun K2 HK2=>?_;refine wpIn_region_plain (by kernel_rfl) (fun ⟨_,_,h⟩=>h) ?_;go_wp2_with fail;refine wpIn_cond_true rfl ?_;refine wpIn_seq_k fun K3 HK3=>?_;refine wpIn_region_plain (by kernel_rfl) (fun ⟨_,_,h⟩=>h) ?_;have e7:=T2.out.fx _ (.tail _ (.tail _ (.tail _ (.tail _ (.tail _ (.tail _ (.tail _ (.head _))))))));have g0:=e7.cell 0 rfl;have g1:=e7.free 0;have g2:=e7.lt;have E2:=hid hE;have HE7:=hid e7;clear hE e7;simp only [diceF] at g0 g1 g2;go_wp2_with fail;refine wpIn_ret ?_
    have hcb:cornB c f n s (u+i) (v+j)=false:=by unfold cornB;rw [Int.natCast_add,Int.natCast_add,HEV.out,HB.out]
    refine ⟨((Ext.others E2.out).trans (KeepsOthers.setCell _ _ _)).from _,rfl,dice_no hi2 hj2 hcb,Ext.setCell T2.out.ext (by first|omega|(simp only;omega)|(simp;omega)) _,?_⟩;exact HE7.out.set 0 _
  ·have HB:=hid hb
   obtain ⟨a,b,d,hP⟩:∃a b d,c.pr ⟨X,Y,Z⟩ s.lx s.ly=⟨a,b,d⟩:=⟨_,_,_,rfl⟩
   have HP:=hid hP;clear hb hP;refine wpIn_block ?_;refine wpIn_seq_k fun K0 HK0=>?_;refine wpIn_region_Z 18 W.heap.size (by kernel_rfl) (by kernel_rfl) (fun ⟨_,_,h⟩=>h) ?_;refine z2_ (fuel:=7) [0,1,2,3,4,5,6,7,8,10,11] 9 16 (fun b _ hb=>rfl) (fun K hK=>?p2) fun K hK=>?p3
   case' p2=>
    go_wp2_with fail;refine (evalPatch_val HEV.out N1.out N2.out N3.out _).mono ?_;rintro e a0 ⟨rfl,y0⟩;have u0:Ext W a0:=Ext.trans X_ y0;go_wp2_with fail;refine hK _ _ (.inr (fun b _ hb=>Ext.block (w:=W) X_ (by omega))) ?_;clear hK K;refine z2_ (fuel:=6) [] 12 16 (fun b _ hb=>Ext.block u0 (by omega)) (fun K hK=>?p4) fun K hK=>?p5
    case' p4=>
     go_wp2_with fail;refine (project_pos HB.out HP.out _).mono ?_;rintro e a01 ⟨rfl,y01⟩;have u01:Ext W a01:=Ext.trans X_ y01;go_wp2_with fail;refine hK _ _ (.inr (fun b _ hb=>Ext.block (w:=W) X_ (by omega))) ?_;clear hK K;refine z1_ (fuel:=2) [13,14,15] 16 (fun b _ hb=>Ext.block u01 (by omega)) fun K hK=>?_;go_wp2;have hA01A:W.heap.size<=a01.heap.size:=u01.size;refine hK _ _ (.inr (fun b _ hb=>Ext.block (w:=W) X_ (by omega))) ?_;clear hK K
     obtain ⟨d01A,hd01A⟩:∃d,d=a01.alloc (.cells #[(),(),()] 37):=⟨_,rfl⟩
     rw [<-hd01A]
     have u01A:Ext W d01A:=by rw [hd01A];exact X_
     have b01A:Blk d01A a01.heap.size 37 [(),(),()]:=hd01A▸Blk.new _ _ _;clear hd01A;refine z1_ (fuel:=1) [] 17 (fun b _ hb=>Ext.block u01A (by omega)) fun K hK=>?_;obtain ⟨z0,z1,z2,z3,z4,z5,z6⟩:=bx_of b01A;go_wp2;have hlt0:=hA01A;refine hK _ _ (.inr (fun b _ hb=>Ext.block (w:=W) S_ (by omega))) ?_;clear hK K;refine z1_ (fuel:=0) [] 18 (fun b _ hb=>Ext.block (w:=W) S_ (by omega)) fun K hK=>?_;go_wp2;refine hK _ _ (.inl (by trivial)) ?_;clear hK K;refine wpZ_end (by kernel_rfl) ?_;have hlt:=hA01A;have hE:Ext W (((d01A.setCell ⟨a01.heap.size,0,none⟩ a).setCell ⟨a01.heap.size,1,none⟩ b).setCell ⟨a01.heap.size,2,none⟩ d):=Ext.setCell (Ext.setCell (Ext.setCell u01A hlt _) hlt _) hlt _
     have hbx:Blk (((d01A.setCell ⟨a01.heap.size,0,none⟩ a).setCell ⟨a01.heap.size,1,none⟩ b).setCell ⟨a01.heap.size,2,none⟩ d) (a01.heap.size) 37 [a,b,d]:=(((b01A.set 0 (.int .i64 a)).set 1 (.int .i64 b)).set 2 (.int .i64 d))
     clear z0 z1 z2 z3 z4 z5 z6
     obtain ⟨A,hA⟩:∃A,a01.heap.size=A:=⟨_,rfl⟩
     rw [hA] at hE hbx hlt ⊢
     obtain ⟨wx,hwx⟩:∃wx,((d01A.setCell ⟨A,0,none⟩ a).setCell ⟨A,1,none⟩ b).setCell ⟨A,2,none⟩ d=wx:=⟨_,rfl⟩
     rw [hwx] at hE hbx ⊢;clear hwx hA
    case' p5=>
     go_wp2;have hA0A:W.heap.size<=a0.heap.size:=u0.size;refine hK _ _ (.inr (fun b _ hb=>Ext.block (w:=W) X_ (by omega))) ?_;clear hK K
     obtain ⟨d0A,hd0A⟩:∃d,d=a0.alloc (.cells #[(),(),()] 37):=⟨_,rfl⟩
     rw [<-hd0A]
     have u0A:Ext W d0A:=by rw [hd0A];exact X_
     have b0A:Blk d0A a0.heap.size 37 [(),(),()]:=hd0A▸Blk.new _ _ _;clear hd0A;refine z1_ (fuel:=5) [] 12 (fun b _ hb=>Ext.block u0A (by omega)) fun K hK=>?_;go_wp2_with fail;refine (project_pos HB.out HP.out _).mono ?_;rintro e a0A1 ⟨rfl,y0A1⟩;have u0A1:Ext W a0A1:=Ext.trans X_ y0A1;have b0A1:=b0A.ext y0A1;go_wp2_with fail;refine hK _ _ (.inr (fun b _ hb=>Ext.block (w:=W) X_ (by omega))) ?_;clear hK K;refine z1_ (fuel:=1) [13,14,15] 17 (fun b _ hb=>Ext.block u0A1 (by omega)) fun K hK=>?_;obtain ⟨z0,z1,z2,z3,z4,z5,z6⟩:=bx_of b0A1;go_wp2;have hlt0:=hA0A;refine hK _ _ (.inr (fun b _ hb=>Ext.block (w:=W) S_ (by omega))) ?_;clear hK K;refine z1_ (fuel:=0) [] 18 (fun b _ hb=>Ext.block (w:=W) S_ (by omega)) fun K hK=>?_;go_wp2;refine hK _ _ (.inl (by trivial)) ?_;clear hK K;refine wpZ_end (by kernel_rfl) ?_;have hlt:=hA0A;have hE:Ext W (((a0A1.setCell ⟨a0.heap.size,0,none⟩ a).setCell ⟨a0.heap.size,1,none⟩ b).setCell ⟨a0.heap.size,2,none⟩ d):=Ext.setCell (Ext.setCell (Ext.setCell u0A1 hlt _) hlt _) hlt _
     have hbx:Blk (((a0A1.setCell ⟨a0.heap.size,0,none⟩ a).setCell ⟨a0.heap.size,1,none⟩ b).setCell ⟨a0.heap.size,2,none⟩ d) (a0.heap.size) 37 [a,b,d]:=(((b0A1.set 0 (.int .i64 a)).set 1 (.int .i64 b)).set 2 (.int .i64 d))
     clear z0 z1 z2 z3 z4 z5 z6
     obtain ⟨A,hA⟩:∃A,a0.heap.size=A:=⟨_,rfl⟩
     rw [hA] at hE hbx hlt ⊢
     obtain ⟨wx,hwx⟩:∃wx,((a0A1.setCell ⟨A,0,none⟩ a).setCell ⟨A,1,none⟩ b).setCell ⟨A,2,none⟩ d=wx:=⟨_,rfl⟩
     rw [hwx] at hE hbx ⊢;clear hwx hA
   case' p3=>
    go_wp2;have hAA:W.heap.size<=W.heap.size:=Nat.le_refl _;refine hK _ _ (.inr (fun b _ hb=>Ext.block (w:=W) X_ (by omega))) ?_;clear hK K
    obtain ⟨dA,hdA⟩:∃d,d=(W.alloc (.cells #[(),(),()] 37)).drew:=⟨_,rfl⟩
    rw [<-hdA]
    have uA:Ext W dA:=by rw [hdA];exact X_
    have bA:Blk dA W.heap.size 37 [(),(),()]:=hdA▸(Blk.new _ _ _).ext (Ext.drew (Ext.refl _));clear hdA;refine z1_ (fuel:=6) [] 9 (fun b _ hb=>Ext.block uA (by omega)) fun K hK=>?_;go_wp2_with fail;refine (evalPatch_val HEV.out N1.out N2.out N3.out _).mono ?_;rintro e aA0 ⟨rfl,yA0⟩;have uA0:Ext W aA0:=Ext.trans X_ yA0;have bA0:=bA.ext yA0;go_wp2_with fail;refine hK _ _ (.inr (fun b _ hb=>Ext.block (w:=W) X_ (by omega))) ?_;clear hK K;refine z1_ (fuel:=5) [] 12 (fun b _ hb=>Ext.block uA0 (by omega)) fun K hK=>?_;go_wp2_with fail;refine (project_pos HB.out HP.out _).mono ?_;rintro e aA01 ⟨rfl,yA01⟩;have uA01:Ext W aA01:=Ext.trans X_ yA01;have bA01:=bA0.ext yA01;go_wp2_with fail;refine hK _ _ (.inr (fun b _ hb=>Ext.block (w:=W) X_ (by omega))) ?_;clear hK K;refine z1_ (fuel:=1) [13,14,15] 17 (fun b _ hb=>Ext.block uA01 (by omega)) fun K hK=>?_;obtain ⟨z0,z1,z2,z3,z4,z5,z6⟩:=bx_of bA01;go_wp2;have hlt0:=hAA;refine hK _ _ (.inr (fun b _ hb=>Ext.block (w:=W) S_ (by omega))) ?_;clear hK K;refine z1_ (fuel:=0) [] 18 (fun b _ hb=>Ext.block (w:=W) S_ (by omega)) fun K hK=>?_;go_wp2;refine hK _ _ (.inl (by trivial)) ?_;clear hK K;refine wpZ_end (by kernel_rfl) ?_;have hlt:=hAA;have hE:Ext W (((aA01.setCell ⟨W.heap.size,0,none⟩ a).setCell ⟨W.heap.size,1,none⟩ b).setCell ⟨W.heap.size,2,none⟩ d):=Ext.setCell (Ext.setCell (Ext.setCell uA01 hlt _) hlt _) hlt _
    have hbx:Blk (((aA01.setCell ⟨W.heap.size,0,none⟩ a).setCell ⟨W.heap.size,1,none⟩ b).setCell ⟨W.heap.size,2,none⟩ d) (W.heap.size) 37 [a,b,d]:=(((bA01.set 0 (.int .i64 a)).set 1 (.int .i64 b)).set 2 (.int .i64 d))
    clear z0 z1 z2 z3 z4 z5 z6
    obtain ⟨A,hA⟩:∃A,W.heap.size=A:=⟨_,rfl⟩
    rw [hA] at hE hbx hlt ⊢
    obtain ⟨wx,hwx⟩:∃wx,((aA01.setCell ⟨A,0,none⟩ a).setCell ⟨A,1,none⟩ b).setCell ⟨A,2,none⟩ d=wx:=⟨_,rfl⟩
    rw [hwx] at hE hbx ⊢;clear hwx hA
   all_goals
    have T2:=hid (HI.out.to hE);have y0:=hbx.lt;have y1:=hbx.cell 0 rfl;have y2:=hbx.cell 1 rfl;have y3:=hbx.cell 2 rfl;refine HK0 _ _ (wpIn_seq_k fun K1 HK1=>?_);refine wpIn_seq_k fun K2 HK2=>?_;refine wpIn_region_plain (by kernel_rfl) (fun ⟨_,_,h⟩=>h) ?_;go_wp2_with fail;refine wpIn_cond_false rfl ?_;refine wpIn_skip ?_;refine HK1 _ _ ?_;refine wpIn_region_plain (by kernel_rfl) (fun ⟨_,_,h⟩=>h) ?_;obtain ⟨tv,tb1,tb2⟩:=T2.out.tb;obtain ⟨ta,tc,rfl,tlen⟩:=OwnG.form tb2;have g0:=tb1.cell 0 rfl;have gl:=tb1.lt
    have hpl:(ptsC c f n s u v pre).length=pre.length:=by unfold ptsC;rw [List.length_map]
    have HPL:=hid hpl;have E2:=hid hE;clear hpl hE;go_wp2_with (at_builtin;refine wpList_append_v3 _ rfl _ _ rfl w.heap.size _ (ptsC c f n s u v pre) rfl (OwnG.ext tb2 X_) ⟨a,b,d⟩ wx.heap.size rfl (v3cs_at wx a b d) (by rw [HPL.out];omega) (by have:=T2.out.ext.size;simp;omega) ?_;intro v8 w8 hown hg;obtain ⟨va,vc,rfl,_⟩:=OwnG.form hown;have g1:=(tb1.ext (show Ext wx (wx.alloc (.cells #[a,b,d] 37)) from X_)).grown hg (blk_not_row tb1 (by decide) tb2);have g2:=g1.cell 0 rfl;have g3:=g1.free 0;have g4:=g1.lt)
    have hco:corn c f n s (u+(x.1:Nat)) (v+(x.2:Nat))=⟨a,b,d⟩:=by unfold corn;rw [hi,hj,Int.natCast_add,Int.natCast_add,HEV.out,HP.out]
    have hcb:cornB c f n s (u+(x.1:Nat)) (v+(x.2:Nat))=true:=by unfold cornB;rw [hi,hj,Int.natCast_add,Int.natCast_add,HEV.out,HB.out]
    have T4:=T2.out.push (diceF_ne c f n s u v w) (by decide) 0 rfl tb1 tb2 (show Ext wx (wx.alloc (.cells #[a,b,d] 37)) from X_) hg hown;simp only [List.length_append,List.length_cons,List.length_nil,Nat.zero_add] at T4;refine ⟨((((Ext.others E2.out).trans (KeepsOthers.alloc _ _)).trans (KeepsOthers.of_grownBy hg (own_blk (Ext.alloc (Ext.refl _) _) tb2))).trans (KeepsOthers.setCell _ _ _)).from _,(T4.fx _ (.tail _ (.tail _ (.tail _ (.tail _ (.tail _ (.tail _ (.tail _ (.tail _ (.head _)))))))))).trans (HI.out.fx _ (.tail _ (.tail _ (.tail _ (.tail _ (.tail _ (.tail _ (.tail _ (.tail _ (.head _)))))))))).symm,?_,?_⟩
    ·show RB _ _ _ _ _ _ _ _ _ (ptsC c f n s u v (pre++[x]))
     rw [ptsC_snoc,hco];exact T4
    ·intro p hp
     rw [List.mem_append,List.mem_singleton] at hp
     rcases hp with hp|rfl
     ·exact HA.out p hp
     ·exact hcb
 case done=>
  rintro D ys W hD rfl ⟨hI,hall⟩ hK;have hdB:diceB c f n s u v=true:=dice_yes hall;have HDB:=hid hdB;have HK:=hid hK;have hp:ptsC c f n s u v (cellsTo 2 (by decide) (2*2))=[corn c f n s u v,corn c f n s (u+1) v,corn c f n s u (v+1),corn c f n s (u+1) (v+1)]:=rfl;rw [hp] at hI
  obtain ⟨⟨x0,y0,s0⟩,e0⟩:∃p,corn c f n s u v=p:=⟨_,rfl⟩
  rw [e0] at hI;have HE0:=hid e0
  obtain ⟨⟨x1,y1,s1⟩,e1⟩:∃p,corn c f n s (u+1) v=p:=⟨_,rfl⟩
  rw [e1] at hI;have HE1:=hid e1
  obtain ⟨⟨x2,y2,s2⟩,e2⟩:∃p,corn c f n s u (v+1)=p:=⟨_,rfl⟩
  rw [e2] at hI;have HE2:=hid e2
  obtain ⟨⟨x3,y3,s3⟩,e3⟩:∃p,corn c f n s (u+1) (v+1)=p:=⟨_,rfl⟩
  rw [e3] at hI;have HE3:=hid e3;have HI:=hid hI;obtain ⟨tv,tb1,tb2⟩:=hI.tb;obtain ⟨g,tc,rfl,gl,gw,glc,gtc,-,c0⟩:=OwnG.at tb2 (fun _=>rfl) (i:=0) rfl;obtain ⟨g1,tc1,he,-,-,-,-,-,c1⟩:=OwnG.at tb2 (fun _=>rfl) (i:=1) rfl;simp only [Value.slice.injEq,Option.some.injEq,Addr.mk.injEq,and_true,true_and] at he;obtain ⟨rfl,rfl⟩:=he;obtain ⟨g2,tc2,he,-,-,-,-,-,c2⟩:=OwnG.at tb2 (fun _=>rfl) (i:=2) rfl;simp only [Value.slice.injEq,Option.some.injEq,Addr.mk.injEq,and_true,true_and] at he;obtain ⟨rfl,rfl⟩:=he;obtain ⟨g3,tc3,he,-,-,-,-,-,c3⟩:=OwnG.at tb2 (fun _=>rfl) (i:=3) rfl;simp only [Value.slice.injEq,Option.some.injEq,Addr.mk.injEq,and_true,true_and] at he;obtain ⟨rfl,rfl⟩:=he;have p00:W.cell? ⟨g,0,none⟩=some (.int .i64 x0):=c0 0 (by decide);have p01:W.cell? ⟨g,1,none⟩=some (.int .i64 y0):=c0 1 (by decide);have p02:W.cell? ⟨g,2,none⟩=some (.int .i64 s0):=c0 2 (by decide);have p10:W.cell? ⟨g,3,none⟩=some (.int .i64 x1):=c1 0 (by decide);have p11:W.cell? ⟨g,4,none⟩=some (.int .i64 y1):=c1 1 (by decide);have p12:W.cell? ⟨g,5,none⟩=some (.int .i64 s1):=c1 2 (by decide);have p20:W.cell? ⟨g,6,none⟩=some (.int .i64 x2):=c2 0 (by decide);have p21:W.cell? ⟨g,7,none⟩=some (.int .i64 y2):=c2 1 (by decide);have p22:W.cell? ⟨g,8,none⟩=some (.int .i64 s2):=c2 2 (by decide);have p30:W.cell? ⟨g,9,none⟩=some (.int .i64 x3):=c3 0 (by decide);have p31:W.cell? ⟨g,10,none⟩=some (.int .i64 y3):=c3 1 (by decide);have p32:W.cell? ⟨g,11,none⟩=some (.int .i64 s3):=c3 2 (by decide);have t0:W.cell? ⟨w.heap.size+9,0,none⟩=some (.slice (some ⟨g,0,none⟩) 4 tc):=tb1.cell 0 rfl;have tl:=tb1.lt;have glc4:4<=tc:=glc;clear hI hall hK tb1 tb2 c0 c1 c2 c3 glc hp hdB e0 e1 e2 e3;go_wp2_with fail;refine wp_region_Z 19 W.heap.size (by kernel_rfl) ?_;refine wpZ_reads (fuel:=8) [0,1,2,3,4,5,6,7,8,9,10,11] (by kernel_rfl) (fun b _ hb=>rfl) ?_
  try simp only [Act.put,List.setIfInBounds_toArray,List.set_cons_succ,List.set_cons_zero]
  simp only [List.filterMap_cons,List.filterMap_nil,List.getElem?_toArray,List.getElem?_cons_zero,List.getElem?_cons_succ]
  show wpQuiet _ _ _ _ [_,_,_,_,_,_,_,_,_,_,_,_] _
  repeat (go_big_quiet_step (fail))
  refine wpQuiet_nil ?_;refine wpZ_batchD (fuel:=4) [⟨12,20,GB W⟩,⟨13,21,GB W⟩,⟨14,22,GB W⟩,⟨15,23,GB W⟩] 4 rfl (Ext.drew (Ext.refl _)) (by kernel_rfl) (by simp) (by simp) ?_ ?_ ?_
  ·intro b hb v w w' h x
   simp only [List.mem_cons,List.not_mem_nil,or_false] at hb
   rcases hb with rfl|rfl|rfl|rfl <;> exact GB.ext h x
  ·intro b hb us w1 hw1
   simp only [List.mem_cons,List.not_mem_nil,or_false] at hb
   rcases hb with rfl|rfl|rfl|rfl
   all_goals
    refine ⟨_,rfl,fun K hK=>?_⟩;simp only [List.map_cons,List.map_nil,putL,Act.put,List.setIfInBounds_toArray,List.set_cons_succ,List.set_cons_zero] at hK ⊢;go_wp2;refine hK _ _ X_ ⟨w1.heap.size,rfl,hw1.size,Blk.new _ _ _⟩ (fun c hc u hu e=>?_);simp only [List.mem_cons,List.not_mem_nil,or_false] at hc
    rcases hc with rfl|rfl|rfl|rfl <;> exact GB.fresh hu e.symm
  ·intro us w1 hw1 hg hne
   obtain ⟨a0,h0,l0,b0⟩:=hg ⟨12,20,GB W⟩ (by simp);obtain ⟨a1,h1,l1,b1⟩:=hg ⟨13,21,GB W⟩ (by simp);obtain ⟨a2,h2,l2,b2⟩:=hg ⟨14,22,GB W⟩ (by simp);obtain ⟨a3,h3,l3,b3⟩:=hg ⟨15,23,GB W⟩ (by simp);have n01:=hne ⟨12,20,GB W⟩ (by simp) ⟨13,21,GB W⟩ (by simp) (by simp);have n02:=hne ⟨12,20,GB W⟩ (by simp) ⟨14,22,GB W⟩ (by simp) (by simp);have n03:=hne ⟨12,20,GB W⟩ (by simp) ⟨15,23,GB W⟩ (by simp) (by simp);have n12:=hne ⟨13,21,GB W⟩ (by simp) ⟨14,22,GB W⟩ (by simp) (by simp);have n13:=hne ⟨13,21,GB W⟩ (by simp) ⟨15,23,GB W⟩ (by simp) (by simp);have n23:=hne ⟨14,22,GB W⟩ (by simp) ⟨15,23,GB W⟩ (by simp) (by simp);simp only at h0 h1 h2 h3 n01 n02 n03 n12 n13 n23;rw [h0,h1] at n01;rw [h0,h2] at n02;rw [h0,h3] at n03;rw [h1,h2] at n12;rw [h1,h3] at n13;rw [h2,h3] at n23;replace n01:=ptr_ne n01;replace n02:=ptr_ne n02;replace n03:=ptr_ne n03;replace n12:=ptr_ne n12;replace n13:=ptr_ne n13;replace n23:=ptr_ne n23;simp only [List.map_cons,List.map_nil,putL,Act.put,List.setIfInBounds_toArray,List.set_cons_succ,List.set_cons_zero,h0,h1,h2,h3];clear h0 h1 h2 h3 hg hne p00 p01 p02 p10 p11 p12 p20 p21 p22 p30 p31 p32 t0 tl;have f00:=b0.free 0;have f01:=b0.free 1;have f02:=b0.free 2;have k00:=b0.cell 0 rfl;have k01:=b0.cell 1 rfl;have k02:=b0.cell 2 rfl;have kl0:=b0.lt;refine z1_ (fuel:=3) [] 16 (fun b _ hb=>Ext.block hw1 hb) fun K hK=>?_;go_wp2;have X0:Ext W (((w1.setCell ⟨a0,0,none⟩ x0).setCell ⟨a0,1,none⟩ y0).setCell ⟨a0,2,none⟩ s0):=Ext.setCell (Ext.setCell (Ext.setCell hw1 l0 _) l0 _) l0 _;have B00:=((b0.set 0 (.int .i64 x0)).set 1 (.int .i64 y0)).set 2 (.int .i64 s0);have B01:=((b1.other (a:=⟨a0,0,none⟩) n01.symm (.int .i64 x0)).other (a:=⟨a0,1,none⟩) n01.symm (.int .i64 y0)).other (a:=⟨a0,2,none⟩) n01.symm (.int .i64 s0);have B02:=((b2.other (a:=⟨a0,0,none⟩) n02.symm (.int .i64 x0)).other (a:=⟨a0,1,none⟩) n02.symm (.int .i64 y0)).other (a:=⟨a0,2,none⟩) n02.symm (.int .i64 s0);have B03:=((b3.other (a:=⟨a0,0,none⟩) n03.symm (.int .i64 x0)).other (a:=⟨a0,1,none⟩) n03.symm (.int .i64 y0)).other (a:=⟨a0,2,none⟩) n03.symm (.int .i64 s0);refine hK _ _ (.inr (fun b _ hb=>Ext.block X0 hb)) ?_;clear hK K f00 f01 f02 k00 k01 k02 kl0 b0 b1 b2 b3
   obtain ⟨v0,hv0⟩:∃w,((w1.setCell ⟨a0,0,none⟩ x0).setCell ⟨a0,1,none⟩ y0).setCell ⟨a0,2,none⟩ s0=w:=⟨_,rfl⟩
   rw [hv0] at B00 B01 B02 B03 X0 ⊢;clear hv0;have f10:=B01.free 0;have f11:=B01.free 1;have f12:=B01.free 2;have k10:=B01.cell 0 rfl;have k11:=B01.cell 1 rfl;have k12:=B01.cell 2 rfl;have kl1:=B01.lt;refine z1_ (fuel:=2) [] 17 (fun b _ hb=>Ext.block X0 hb) fun K hK=>?_;go_wp2;have X1:Ext W (((v0.setCell ⟨a1,0,none⟩ x1).setCell ⟨a1,1,none⟩ y1).setCell ⟨a1,2,none⟩ s1):=Ext.setCell (Ext.setCell (Ext.setCell X0 l1 _) l1 _) l1 _;have B10:=((B00.other (a:=⟨a1,0,none⟩) n01 (.int .i64 x1)).other (a:=⟨a1,1,none⟩) n01 (.int .i64 y1)).other (a:=⟨a1,2,none⟩) n01 (.int .i64 s1);have B11:=((B01.set 0 (.int .i64 x1)).set 1 (.int .i64 y1)).set 2 (.int .i64 s1);have B12:=((B02.other (a:=⟨a1,0,none⟩) n12.symm (.int .i64 x1)).other (a:=⟨a1,1,none⟩) n12.symm (.int .i64 y1)).other (a:=⟨a1,2,none⟩) n12.symm (.int .i64 s1);have B13:=((B03.other (a:=⟨a1,0,none⟩) n13.symm (.int .i64 x1)).other (a:=⟨a1,1,none⟩) n13.symm (.int .i64 y1)).other (a:=⟨a1,2,none⟩) n13.symm (.int .i64 s1);refine hK _ _ (.inr (fun b _ hb=>Ext.block X1 hb)) ?_;clear hK K f10 f11 f12 k10 k11 k12 kl1 B00 B01 B02 B03
   obtain ⟨v1,hv1⟩:∃w,((v0.setCell ⟨a1,0,none⟩ x1).setCell ⟨a1,1,none⟩ y1).setCell ⟨a1,2,none⟩ s1=w:=⟨_,rfl⟩
   rw [hv1] at B10 B11 B12 B13 X1 ⊢;clear hv1 X0;have f20:=B12.free 0;have f21:=B12.free 1;have f22:=B12.free 2;have k20:=B12.cell 0 rfl;have k21:=B12.cell 1 rfl;have k22:=B12.cell 2 rfl;have kl2:=B12.lt;refine z1_ (fuel:=1) [] 18 (fun b _ hb=>Ext.block X1 hb) fun K hK=>?_;go_wp2;have X2:Ext W (((v1.setCell ⟨a2,0,none⟩ x2).setCell ⟨a2,1,none⟩ y2).setCell ⟨a2,2,none⟩ s2):=Ext.setCell (Ext.setCell (Ext.setCell X1 l2 _) l2 _) l2 _;have B20:=((B10.other (a:=⟨a2,0,none⟩) n02 (.int .i64 x2)).other (a:=⟨a2,1,none⟩) n02 (.int .i64 y2)).other (a:=⟨a2,2,none⟩) n02 (.int .i64 s2);have B21:=((B11.other (a:=⟨a2,0,none⟩) n12 (.int .i64 x2)).other (a:=⟨a2,1,none⟩) n12 (.int .i64 y2)).other (a:=⟨a2,2,none⟩) n12 (.int .i64 s2);have B22:=((B12.set 0 (.int .i64 x2)).set 1 (.int .i64 y2)).set 2 (.int .i64 s2);have B23:=((B13.other (a:=⟨a2,0,none⟩) n23.symm (.int .i64 x2)).other (a:=⟨a2,1,none⟩) n23.symm (.int .i64 y2)).other (a:=⟨a2,2,none⟩) n23.symm (.int .i64 s2);refine hK _ _ (.inr (fun b _ hb=>Ext.block X2 hb)) ?_;clear hK K f20 f21 f22 k20 k21 k22 kl2 B10 B11 B12 B13
   obtain ⟨v2,hv2⟩:∃w,((v1.setCell ⟨a2,0,none⟩ x2).setCell ⟨a2,1,none⟩ y2).setCell ⟨a2,2,none⟩ s2=w:=⟨_,rfl⟩
   rw [hv2] at B20 B21 B22 B23 X2 ⊢;clear hv2 X1;have f30:=B23.free 0;have f31:=B23.free 1;have f32:=B23.free 2;have k30:=B23.cell 0 rfl;have k31:=B23.cell 1 rfl;have k32:=B23.cell 2 rfl;have kl3:=B23.lt;refine z1_ (fuel:=0) [] 19 (fun b _ hb=>Ext.block X2 hb) fun K hK=>?_;go_wp2;have X3:Ext W (((v2.setCell ⟨a3,0,none⟩ x3).setCell ⟨a3,1,none⟩ y3).setCell ⟨a3,2,none⟩ s3):=Ext.setCell (Ext.setCell (Ext.setCell X2 l3 _) l3 _) l3 _;have B30:=((B20.other (a:=⟨a3,0,none⟩) n03 (.int .i64 x3)).other (a:=⟨a3,1,none⟩) n03 (.int .i64 y3)).other (a:=⟨a3,2,none⟩) n03 (.int .i64 s3);have B31:=((B21.other (a:=⟨a3,0,none⟩) n13 (.int .i64 x3)).other (a:=⟨a3,1,none⟩) n13 (.int .i64 y3)).other (a:=⟨a3,2,none⟩) n13 (.int .i64 s3);have B32:=((B22.other (a:=⟨a3,0,none⟩) n23 (.int .i64 x3)).other (a:=⟨a3,1,none⟩) n23 (.int .i64 y3)).other (a:=⟨a3,2,none⟩) n23 (.int .i64 s3);have B33:=((B23.set 0 (.int .i64 x3)).set 1 (.int .i64 y3)).set 2 (.int .i64 s3);refine hK _ _ (.inl (by trivial)) ?_;clear hK K f30 f31 f32 k30 k31 k32 kl3 B20 B21 B22 B23
   obtain ⟨v3,hv3⟩:∃w,((v2.setCell ⟨a3,0,none⟩ x3).setCell ⟨a3,1,none⟩ y3).setCell ⟨a3,2,none⟩ s3=w:=⟨_,rfl⟩
   rw [hv3] at B30 B31 B32 B33 X3 ⊢;clear hv3 X2;refine wpZ_end (by kernel_rfl) ?_;have q00:=B30.cell 0 rfl;have q01:=B30.cell 1 rfl;have q02:=B30.cell 2 rfl;have ql0:=B30.lt;have q10:=B31.cell 0 rfl;have q11:=B31.cell 1 rfl;have q12:=B31.cell 2 rfl;have ql1:=B31.lt;have q20:=B32.cell 0 rfl;have q21:=B32.cell 1 rfl;have q22:=B32.cell 2 rfl;have ql2:=B32.lt;have q30:=B33.cell 0 rfl;have q31:=B33.cell 1 rfl;have q32:=B33.cell 2 rfl;have ql3:=B33.lt;have T:=hid (HI.out.to X3);have XT:=hid X3;have HD:v3.heap[D]?=some (.deferred (some [])):=(X3.block (lt_of_block HK.out)).trans HK.out;have HHD:=hid HD;have m2:=(T.out.fx _ (.tail _ (.tail _ (.head _)))).cell 0 rfl;have m3:=(T.out.fx _ (.tail _ (.tail _ (.tail _ (.head _))))).cell 0 rfl;have m4:=(T.out.fx _ (.tail _ (.tail _ (.tail _ (.tail _ (.head _)))))).cell 0 rfl;have m7:=T.out.fx _ (.tail _ (.tail _ (.tail _ (.tail _ (.tail _ (.tail _ (.tail _ (.head _))))))));have m7c:=m7.cell 0 rfl;have m7f:=m7.free 0;have m7l:=m7.lt;have M7:=hid m7;have zX:=X3.size;clear X3 HD m7 B30 B31 B32 B33;simp only [diceF] at m2 m3 m4 m7c m7f m7l;go_wp2;have BF:=Blk.new (v3.setCell ⟨w.heap.size+7,0,none⟩ (.slice (some ⟨v3.heap.size,0,none⟩) 2 2)) 164 [x0,y0,s0,x1,y1,s1,x2,y2,s2,(u:Nat),(v:Nat),(n:Nat),x1,y1,s1,x3,y3,s3,x2,y2,s2,(u:Nat),(v:Nat),(n:Nat)];rw [World.size_setCell] at BF;have R7:=(M7.out.set 0 (.slice (some ⟨v3.heap.size,0,none⟩) 2 2)).alloc (.cells #[x0,y0,s0,x1,y1,s1,x2,y2,s2,(u:Nat),(v:Nat),(n:Nat),x1,y1,s1,x3,y3,s3,x2,y2,s2,(u:Nat),(v:Nat),(n:Nat)] 164);have XF:Ext w ((v3.setCell ⟨w.heap.size+7,0,none⟩ (.slice (some ⟨v3.heap.size,0,none⟩) 2 2)).alloc (.cells #[x0,y0,s0,x1,y1,s1,x2,y2,s2,(u:Nat),(v:Nat),(n:Nat),x1,y1,s1,x3,y3,s3,x2,y2,s2,(u:Nat),(v:Nat),(n:Nat)] 164)):=Ext.alloc (Ext.setCell T.out.ext (by simp only;omega) _) _;have dl:=lt_of_block HHD.out;have DF:((v3.setCell ⟨w.heap.size+7,0,none⟩ (.slice (some ⟨v3.heap.size,0,none⟩) 2 2)).alloc (.cells #[x0,y0,s0,x1,y1,s1,x2,y2,s2,(u:Nat),(v:Nat),(n:Nat),x1,y1,s1,x3,y3,s3,x2,y2,s2,(u:Nat),(v:Nat),(n:Nat)] 164)).heap[D]?=some (.deferred (some [])):=(Ext.block (w:=(v3.setCell ⟨w.heap.size+7,0,none⟩ (.slice (some ⟨v3.heap.size,0,none⟩) 2 2))) X_ (by rw [World.size_setCell];exact dl)).trans ((Below.heap_setCell _ _ _ _ (by simp only;omega)).trans HHD.out);have gp:(((v3.setCell ⟨w.heap.size+7,0,none⟩ (.slice (some ⟨v3.heap.size,0,none⟩) 2 2)).alloc (.cells #[x0,y0,s0,x1,y1,s1,x2,y2,s2,(u:Nat),(v:Nat),(n:Nat),x1,y1,s1,x3,y3,s3,x2,y2,s2,(u:Nat),(v:Nat),(n:Nat)] 164)).putObj D (Obj.deferred none)).cell? ⟨w.heap.size+7,0,none⟩=some (.slice (some ⟨v3.heap.size,0,none⟩) 2 2):=(World.cell?_of_block (w:=((v3.setCell ⟨w.heap.size+7,0,none⟩ (.slice (some ⟨v3.heap.size,0,none⟩) 2 2)).alloc (.cells #[x0,y0,s0,x1,y1,s1,x2,y2,s2,(u:Nat),(v:Nat),(n:Nat),x1,y1,s1,x3,y3,s3,x2,y2,s2,(u:Nat),(v:Nat),(n:Nat)] 164))) (World.putObj_heap_other (by simp only;omega))).trans (R7.cell 0 rfl);have BF3:Blk (((v3.setCell ⟨w.heap.size+7,0,none⟩ (.slice (some ⟨v3.heap.size,0,none⟩) 2 2)).alloc (.cells #[x0,y0,s0,x1,y1,s1,x2,y2,s2,(u:Nat),(v:Nat),(n:Nat),x1,y1,s1,x3,y3,s3,x2,y2,s2,(u:Nat),(v:Nat),(n:Nat)] 164)).putObj D (Obj.deferred none)) v3.heap.size 164 [x0,y0,s0,x1,y1,s1,x2,y2,s2,(u:Nat),(v:Nat),(n:Nat),x1,y1,s1,x3,y3,s3,x2,y2,s2,(u:Nat),(v:Nat),(n:Nat)]:=(World.putObj_heap_other (by omega)).trans BF;refine ⟨by simp,.inl ⟨_,_,rfl,run_takeDeferred DF,?_⟩⟩;refine ⟨.slice (some ⟨v3.heap.size,0,none⟩) 2 2,by simp [results,Tryz.results210,go_sem,gp],_,rfl,.inr ⟨HDB.out,v3.heap.size,by have:=T.out.ext.size;omega,rfl,?_⟩,XF.grown (grownBy_putObj' _ D _) (fun k e=>by cases e;omega)⟩;rw [HE0.out,HE1.out,HE2.out,HE3.out];exact BF3
 case stop=>
  rintro D cd pre W hD - ⟨rfl,hd,hX,hB⟩ hK;have g0:=hB.cell 0 rfl;have gp:(W.putObj D (Obj.deferred none)).cell? ⟨w.heap.size+7,0,none⟩=some (.slice none 0 0):=(World.cell?_of_block (w:=W) (World.putObj_heap_other (by simp only;omega))).trans g0;refine wpIn_ret ?_;refine ⟨by simp,.inl ⟨_,_,rfl,run_takeDeferred hK,?_⟩⟩;exact ⟨.slice none 0 0,by simp [results,Tryz.results210,go_sem,gp],_,rfl,.inl ⟨hd,rfl⟩,hX.grown (grownBy_putObj' W D _) (fun k e=>by cases e;omega)⟩
end
section
open Go.RowKit Go.Shelf
attribute [local go_sem] Oper.semAt_some
theorem wpIn_region_ZS {P:Program} {Q:Exit->Act->World->Prop} {l n:Nat} {id:Nat} {a:Act} {w:World} {l':List Oper} (z:Nat) (S:World->Prop) (hm:P.follows .mixedOrders=true) (hd:noDefer l'=true) (hl : ¬LetsOut Q)
  (h:wpZS P l'.toArray (NoPanic Q) S z l'.length (Array.replicate l'.length false) a w.drew):(Code.region id l'.toArray true).wpIn (rd l) n P Q a w:=by
 refine Go.wpIn_mono (wpIn_region_any hm (wpAny_in (by simpa using hd) (noPanic_out hl) _ _ _ _ ?_)) NoPanic.imp;have:=wpAny_of_Z _ _ _ _ h
 simpa using this
def CDs (w b:Nat):Addr->Prop:=fun a=>a.block=w\/a.block=w+1\/a.block=w+2\/a.block=w+3\/a.block=w+4\/a.block=w+5\/a.block=b+1\/a.block=b+2
@[go_sem] theorem CDs_of {w b k o:Nat} (h:k=w\/k=w+1\/k=w+2\/k=w+3\/k=w+4\/k=w+5\/k=b+1\/k=b+2):CDs w b ⟨k,o,none⟩:=h
theorem CDs_lt {w b N:Nat} (h:w+6<=b) (hN:b+2<N) {a:Addr} (ha:CDs w b a):a.block<N:=by
 unfold CDs at ha;omega
structure Mc where
 (a b d:V3)
 (u v n:Int)
def Mc.cs (m:Mc):List Value:=micL m.a m.b m.d m.u m.v m.n
theorem Mc.one (m:Mc):∀u∈m.cs,u.oneCell'=true:=by
 intro u hu;simp only [Mc.cs,micL,List.mem_cons,List.not_mem_nil,or_false] at hu
 rcases hu with rfl|rfl|rfl|rfl|rfl|rfl|rfl|rfl|rfl|rfl|rfl|rfl <;> rfl
theorem flatMap_cg {α β : Type} {L:List α} {f g : α->List β} (h:∀a∈L,f a=g a):L.flatMap f=L.flatMap g:=by
 rw [List.flatMap_def,List.flatMap_def,List.map_congr_left h]
def cellM (c:Cam) (f:Nat->Int) (n:Nat) (s:Smp) (u v:Nat):List Mc:=
 if diceB c f n s u v then [⟨corn c f n s u v,corn c f n s (u+1) v,corn c f n s u (v+1),u,v,n⟩,⟨corn c f n s (u+1) v,corn c f n s (u+1) (v+1),corn c f n s u (v+1),u,v,n⟩] else []
def micsP (c:Cam) (f:Nat->Int) (n:Nat) (s:Smp) (pre:List (Fin n×Fin n)):List Mc:=pre.flatMap fun p=>cellM c f n s p.1 p.2
def micsL (c:Cam) (f:Nat->Int) (n:Nat) (s:Smp):List Mc:=(List.range (n*n)).flatMap fun q=>cellM c f n s (q % n) (q / n)
theorem micsP_snoc (c:Cam) (f:Nat->Int) (n:Nat) (s:Smp) (pre:List (Fin n×Fin n)) (x:Fin n×Fin n):micsP c f n s (pre++[x])=micsP c f n s pre++cellM c f n s x.1 x.2:=by
 unfold micsP;rw [List.flatMap_append,List.flatMap_singleton]
theorem cellM_length (c:Cam) (f:Nat->Int) (n:Nat) (s:Smp) (u v:Nat):(cellM c f n s u v).length<=2:=by unfold cellM;split <;> simp
theorem micsP_length (c:Cam) (f:Nat->Int) (n:Nat) (s:Smp) (pre:List (Fin n×Fin n)):(micsP c f n s pre).length<=2*pre.length:=by
 induction pre with
 | nil=>simp [micsP]
 | cons x pre ih=>
  have:=cellM_length c f n s x.1 x.2;unfold micsP at ih ⊢;rw [List.flatMap_cons,List.length_append,List.length_cons];omega
theorem micsP_all (c:Cam) (f:Nat->Int) (n:Nat) (s:Smp) (hn:0<n):micsP c f n s (cellsTo n hn (n*n))=micsL c f n s:=by
 unfold micsP micsL cellsTo;rw [List.flatMap_map];refine flatMap_cg fun q hq=>?_;have hd:q / n<n:=Nat.div_lt_of_lt_mul (List.mem_range.1 hq)
 show cellM c f n s (q % n) (q / n % n)=_
 rw [Nat.mod_eq_of_lt hd]
theorem info_mic:(Tryz.prog.info? 164).map (fun i=>(i.zero,i.size,i.bytes))=some (some (.agg #[(),(),(),(),(),(),(),(),(),(),(),()]),12,96):=by kernel_rfl
theorem wpList_append_two {α : Type} (cs : α->List Value) (e:TypeId) (sz bytes:Nat) (z:Value) (w:World) {ops:Array Oper} {rest:List Oper} {o:Oper} {a:Act} {Q:Exit->Act->World->Prop} (hg:o.guard=none) (s x:Operand) (t:TypeId)
  (hop:o.op=Op.call { callee:=Callee.builtin Builtin.append,args:=#[s,x],argTypes:=#[t,t] }) (ht:Tryz.prog.underlying t=some (.slice e))
  (hinfo:(Tryz.prog.info? e).map (fun i=>(i.zero,i.size,i.bytes))=some (some z,sz,bytes)) (hzs:z.cells.size=sz) (hsz:0<sz) (hby:bytes<=1000) (hc:∀x,(cs x).length=sz)
  (lo:Nat) (v:Value) (xs:List α) (hs:a.eval s=v) (hown:OwnG cs lo e sz w v xs)
  (y y' : α) (b:Nat) (hx:a.eval x = .slice (some ⟨b,0,none⟩) 2 2) (hcell:∀j u,(cs y++cs y')[j]?=some u->w.cell? ⟨b,j,none⟩=some u) (h1:∀u∈cs y++cs y',u.oneCell'=true) (hlen:xs.length<1000000) (hlo:lo<=w.heap.size)
  (hK:∀v' w',OwnG cs lo e sz w' v' (xs++[y,y'])->w.grownBy w' v.ownBlock->wpList Tryz.prog ops Q rest (a.put o.dst v') w'):wpList Tryz.prog ops Q (o::rest) a w:=by
 obtain ⟨i0,hi0,hz0,hz1,hz2⟩:=info_parts hinfo;refine wpList_append_own w hg s x t hop lo e i0 z sz bytes ht hi0 hz0 hz1 hz2 hzs hsz v xs.length _ hs hown ⟨b,0,none⟩ 2 2 (cs y++cs y') hx (by rw [List.length_append,hc,hc];omega) ?_ h1 ?_ ?_ hlo ?_
 ·intro j u hj
  have ea:(⟨b,0,none⟩:Addr).add j=⟨b,j,none⟩:=by
   unfold Addr.add
   split <;> simp_all
  rw [ea];exact hcell j u hj
 ·unfold maxLen;omega
 ·have:(xs.length+2)*bytes<=1000002*1000:=Nat.mul_le_mul (by omega) hby
  omega
 ·intro v' w1 hown' hgrow _
  refine hK v' w1 ?_ hgrow;unfold OwnG;rw [List.length_append,List.flatMap_append]
  simpa using hown'
def subF (c:Cam) (f:Nat->Int) (n:Nat) (s:Smp) (w:World) (b1:Nat):List (Nat×TypeId×List Value):=
 [(w.heap.size,24,[c.w,c.h,c.zoom,c.near,.bool c.deep,c.lens,c.focus]),(w.heap.size+1,40,[(f 0),(f 1),(f 2),(f 3),(f 4),(f 5),(f 6),(f 7),(f 8),(f 9),(f 10),(f 11)]),(w.heap.size+2,234,[(),(),.int .i64 1]),(w.heap.size+3,3,[(n:Nat)]),(w.heap.size+4,3,[s.lx]),(w.heap.size+5,3,[s.ly]),(b1+1,3,[(n:Nat)]),(b1+3,3,[(n:Nat)])]
theorem subF_ne (c:Cam) (f:Nat->Int) (n:Nat) (s:Smp) (w:World) (b1:Nat) (hb:w.heap.size+6<=b1):∀p∈subF c f n s w b1,p.2.1≠164/\p.1≠b1+2:=by
 intro p hp;simp only [subF,List.mem_cons,List.not_mem_nil,or_false] at hp
 rcases hp with rfl|rfl|rfl|rfl|rfl|rfl|rfl|rfl <;> exact ⟨by simp,by simp only [ne_eq];omega⟩
theorem isValidSub_one (w:World):Calls Tryz.prog 209 #[.agg #[(),(),.int .i64 1]] w fun e w'=>e = .returned (.bool true)/\Ext w w':=by
 have I1:inB 1 1 64=true:=rfl;have I2:inB 0 0 0=true:=rfl
 have eb:bits .and .i64 1 0=0:=by decide
 go_enter Tryz.func209,Tryz.ntmps209;go_wp2_with (go_at_call 54;with_reducible first|(refine (within_val I1 _).mono ?_;rintro e w1 ⟨rfl,rfl⟩)|(refine (within_val I2 _).mono ?_;rintro e w1 ⟨rfl,rfl⟩));go_ret;exact ⟨rfl,X_⟩
theorem iDiceSub_any (c:Cam) (f:Nat->Int) (n:Nat) (s:Smp) (hn:1<=n/\n<=8) (w:World) :
  Calls Tryz.prog 149 #[.agg #[c.w,c.h,c.zoom,c.near,.bool c.deep,c.lens,c.focus],.agg #[(f 0),(f 1),(f 2),(f 3),(f 4),(f 5),(f 6),(f 7),(f 8),(f 9),(f 10),(f 11)],.agg #[(),(),.int .i64 1],(n:Nat),s.lx,s.ly] w fun e w'=>∃r,e = .returned r/\OwnG Mc.cs w.heap.size 164 12 w' r (micsL c f n s)/\Ext w w':=by
 have C2:∀W:World,Calls Tryz.prog 157 #[(n:Nat)] W fun e w'=>e = .returned (.func (.func 219) #[] #[.pointer (some ⟨W.heap.size,0,none⟩)])/\w'=W.alloc (.cells #[(n:Nat)] 3):=fun W=>(callsIn_wide (n:=0)).1 (cells_val n 0 W);have C2:=hid C2;have I1:=hid (inB_iff.2 (show (1:Int)<=(n:Int)/\(n:Int)<=8 by omega))
 have hn0:0<n:=by omega
 have q0:=Blk.new w 24 [c.w,c.h,c.zoom,c.near,.bool c.deep,c.lens,c.focus];have q1:=Blk.new (w.alloc (.cells #[c.w,c.h,c.zoom,c.near,.bool c.deep,c.lens,c.focus] 24)) 40 [(f 0),(f 1),(f 2),(f 3),(f 4),(f 5),(f 6),(f 7),(f 8),(f 9),(f 10),(f 11)];have q2:=Blk.new ((w.alloc (.cells #[c.w,c.h,c.zoom,c.near,.bool c.deep,c.lens,c.focus] 24)).alloc (.cells #[(f 0),(f 1),(f 2),(f 3),(f 4),(f 5),(f 6),(f 7),(f 8),(f 9),(f 10),(f 11)] 40)) 234 [(),(),.int .i64 1];have q3:=Blk.new (((w.alloc (.cells #[c.w,c.h,c.zoom,c.near,.bool c.deep,c.lens,c.focus] 24)).alloc (.cells #[(f 0),(f 1),(f 2),(f 3),(f 4),(f 5),(f 6),(f 7),(f 8),(f 9),(f 10),(f 11)] 40)).alloc (.cells #[(),(),.int .i64 1] 234)) 3 [(n:Nat)];have q4:=Blk.new ((((w.alloc (.cells #[c.w,c.h,c.zoom,c.near,.bool c.deep,c.lens,c.focus] 24)).alloc (.cells #[(f 0),(f 1),(f 2),(f 3),(f 4),(f 5),(f 6),(f 7),(f 8),(f 9),(f 10),(f 11)] 40)).alloc (.cells #[(),(),.int .i64 1] 234)).alloc (.cells #[(n:Nat)] 3)) 3 [s.lx];have q5:=Blk.new (((((w.alloc (.cells #[c.w,c.h,c.zoom,c.near,.bool c.deep,c.lens,c.focus] 24)).alloc (.cells #[(f 0),(f 1),(f 2),(f 3),(f 4),(f 5),(f 6),(f 7),(f 8),(f 9),(f 10),(f 11)] 40)).alloc (.cells #[(),(),.int .i64 1] 234)).alloc (.cells #[(n:Nat)] 3)).alloc (.cells #[s.lx] 3)) 3 [s.ly];simp only [World.size_alloc] at q1 q2 q3 q4 q5;have r0:=q0.ext (show Ext (w.alloc (.cells #[c.w,c.h,c.zoom,c.near,.bool c.deep,c.lens,c.focus] 24)) ((((((w.alloc (.cells #[c.w,c.h,c.zoom,c.near,.bool c.deep,c.lens,c.focus] 24)).alloc (.cells #[(f 0),(f 1),(f 2),(f 3),(f 4),(f 5),(f 6),(f 7),(f 8),(f 9),(f 10),(f 11)] 40)).alloc (.cells #[(),(),.int .i64 1] 234)).alloc (.cells #[(n:Nat)] 3)).alloc (.cells #[s.lx] 3)).alloc (.cells #[s.ly] 3)) from X_);have R0:=hid r0;have r1:=q1.ext (show Ext ((w.alloc (.cells #[c.w,c.h,c.zoom,c.near,.bool c.deep,c.lens,c.focus] 24)).alloc (.cells #[(f 0),(f 1),(f 2),(f 3),(f 4),(f 5),(f 6),(f 7),(f 8),(f 9),(f 10),(f 11)] 40)) ((((((w.alloc (.cells #[c.w,c.h,c.zoom,c.near,.bool c.deep,c.lens,c.focus] 24)).alloc (.cells #[(f 0),(f 1),(f 2),(f 3),(f 4),(f 5),(f 6),(f 7),(f 8),(f 9),(f 10),(f 11)] 40)).alloc (.cells #[(),(),.int .i64 1] 234)).alloc (.cells #[(n:Nat)] 3)).alloc (.cells #[s.lx] 3)).alloc (.cells #[s.ly] 3)) from X_);have R1:=hid r1;have r2:=q2.ext (show Ext (((w.alloc (.cells #[c.w,c.h,c.zoom,c.near,.bool c.deep,c.lens,c.focus] 24)).alloc (.cells #[(f 0),(f 1),(f 2),(f 3),(f 4),(f 5),(f 6),(f 7),(f 8),(f 9),(f 10),(f 11)] 40)).alloc (.cells #[(),(),.int .i64 1] 234)) ((((((w.alloc (.cells #[c.w,c.h,c.zoom,c.near,.bool c.deep,c.lens,c.focus] 24)).alloc (.cells #[(f 0),(f 1),(f 2),(f 3),(f 4),(f 5),(f 6),(f 7),(f 8),(f 9),(f 10),(f 11)] 40)).alloc (.cells #[(),(),.int .i64 1] 234)).alloc (.cells #[(n:Nat)] 3)).alloc (.cells #[s.lx] 3)).alloc (.cells #[s.ly] 3)) from X_);have R2:=hid r2;have r3:=q3.ext (show Ext ((((w.alloc (.cells #[c.w,c.h,c.zoom,c.near,.bool c.deep,c.lens,c.focus] 24)).alloc (.cells #[(f 0),(f 1),(f 2),(f 3),(f 4),(f 5),(f 6),(f 7),(f 8),(f 9),(f 10),(f 11)] 40)).alloc (.cells #[(),(),.int .i64 1] 234)).alloc (.cells #[(n:Nat)] 3)) ((((((w.alloc (.cells #[c.w,c.h,c.zoom,c.near,.bool c.deep,c.lens,c.focus] 24)).alloc (.cells #[(f 0),(f 1),(f 2),(f 3),(f 4),(f 5),(f 6),(f 7),(f 8),(f 9),(f 10),(f 11)] 40)).alloc (.cells #[(),(),.int .i64 1] 234)).alloc (.cells #[(n:Nat)] 3)).alloc (.cells #[s.lx] 3)).alloc (.cells #[s.ly] 3)) from X_);have R3:=hid r3;have r4:=q4.ext (show Ext (((((w.alloc (.cells #[c.w,c.h,c.zoom,c.near,.bool c.deep,c.lens,c.focus] 24)).alloc (.cells #[(f 0),(f 1),(f 2),(f 3),(f 4),(f 5),(f 6),(f 7),(f 8),(f 9),(f 10),(f 11)] 40)).alloc (.cells #[(),(),.int .i64 1] 234)).alloc (.cells #[(n:Nat)] 3)).alloc (.cells #[s.lx] 3)) ((((((w.alloc (.cells #[c.w,c.h,c.zoom,c.near,.bool c.deep,c.lens,c.focus] 24)).alloc (.cells #[(f 0),(f 1),(f 2),(f 3),(f 4),(f 5),(f 6),(f 7),(f 8),(f 9),(f 10),(f 11)] 40)).alloc (.cells #[(),(),.int .i64 1] 234)).alloc (.cells #[(n:Nat)] 3)).alloc (.cells #[s.lx] 3)).alloc (.cells #[s.ly] 3)) from X_);have R4:=hid r4;have r5:=q5.ext (show Ext ((((((w.alloc (.cells #[c.w,c.h,c.zoom,c.near,.bool c.deep,c.lens,c.focus] 24)).alloc (.cells #[(f 0),(f 1),(f 2),(f 3),(f 4),(f 5),(f 6),(f 7),(f 8),(f 9),(f 10),(f 11)] 40)).alloc (.cells #[(),(),.int .i64 1] 234)).alloc (.cells #[(n:Nat)] 3)).alloc (.cells #[s.lx] 3)).alloc (.cells #[s.ly] 3)) ((((((w.alloc (.cells #[c.w,c.h,c.zoom,c.near,.bool c.deep,c.lens,c.focus] 24)).alloc (.cells #[(f 0),(f 1),(f 2),(f 3),(f 4),(f 5),(f 6),(f 7),(f 8),(f 9),(f 10),(f 11)] 40)).alloc (.cells #[(),(),.int .i64 1] 234)).alloc (.cells #[(n:Nat)] 3)).alloc (.cells #[s.lx] 3)).alloc (.cells #[s.ly] 3)) from X_);have R5:=hid r5;have X0:=hid (show Ext w ((((((w.alloc (.cells #[c.w,c.h,c.zoom,c.near,.bool c.deep,c.lens,c.focus] 24)).alloc (.cells #[(f 0),(f 1),(f 2),(f 3),(f 4),(f 5),(f 6),(f 7),(f 8),(f 9),(f 10),(f 11)] 40)).alloc (.cells #[(),(),.int .i64 1] 234)).alloc (.cells #[(n:Nat)] 3)).alloc (.cells #[s.lx] 3)).alloc (.cells #[s.ly] 3)) from X_);clear q0 q1 q2 q3 q4 q5 r0 r1 r2 r3 r4 r5;refine (callsIn_wide (n:=3)).1 ?_;refine callsIn_of_wp_marks Tryz.func149 rfl trivial ?_ rfl;simp only [Tryz.ntmps149,List.size_toArray,List.length_cons,List.length_nil,Nat.reduceAdd,Nat.reduceSub,Array.replicate_succ,Array.replicate_zero,List.push_toArray,List.append_toArray,List.nil_append,List.cons_append];refine wpIn_wide.2 ?_;go_wp2_with fail;refine (isValidSub_one _).mono ?_;rintro e w1 ⟨rfl,x1⟩;have z1:=x1.size;simp only [World.size_alloc] at z1;have S0:=R0.out.ext x1;have S1:=R1.out.ext x1;have S2:=R2.out.ext x1;have S3:=R3.out.ext x1;have S4:=R4.out.ext x1;have S5:=R5.out.ext x1;have X1:=hid (X0.out.trans x1);have c3:=S3.cell 0 rfl;have c2:=S2.cell 2 rfl;have l2:=S2.lt;have l3:=S3.lt;have H0:=hid S0;have H1:=hid S1;have H2:=hid S2;have H3:=hid S3;have H4:=hid S4;have H5:=hid S5;clear S0 S1 S2 S3 S4 S5 x1 R0 R1 R2 R3 R4 R5 X0;go_wp2_with (go_at_call 54;refine (within_val I1.out _).mono ?_;rintro e w2 ⟨rfl,rfl⟩);refine (C2.out _).mono ?_;rintro e w6 ⟨rfl,rfl⟩;go_wp2_with fail;have q6:=Blk.new w1 164 [];have q7:=Blk.new (w1.alloc (.cells #[] 164)) 3 [(n:Nat)];have q8:=Blk.new ((w1.alloc (.cells #[] 164)).alloc (.cells #[(n:Nat)] 3)) 157 [.slice (some ⟨w1.heap.size,0,none⟩) 0 0];have q9:=Blk.new (((w1.alloc (.cells #[] 164)).alloc (.cells #[(n:Nat)] 3)).alloc (.cells #[.slice (some ⟨w1.heap.size,0,none⟩) 0 0] 157)) 3 [(n:Nat)];simp only [World.size_alloc] at q7 q8 q9;have r6:=q6.ext (show Ext (w1.alloc (.cells #[] 164)) ((((w1.alloc (.cells #[] 164)).alloc (.cells #[(n:Nat)] 3)).alloc (.cells #[.slice (some ⟨w1.heap.size,0,none⟩) 0 0] 157)).alloc (.cells #[(n:Nat)] 3)) from X_);have r7:=q7.ext (show Ext ((w1.alloc (.cells #[] 164)).alloc (.cells #[(n:Nat)] 3)) ((((w1.alloc (.cells #[] 164)).alloc (.cells #[(n:Nat)] 3)).alloc (.cells #[.slice (some ⟨w1.heap.size,0,none⟩) 0 0] 157)).alloc (.cells #[(n:Nat)] 3)) from X_);have r8:=q8.ext (show Ext (((w1.alloc (.cells #[] 164)).alloc (.cells #[(n:Nat)] 3)).alloc (.cells #[.slice (some ⟨w1.heap.size,0,none⟩) 0 0] 157)) ((((w1.alloc (.cells #[] 164)).alloc (.cells #[(n:Nat)] 3)).alloc (.cells #[.slice (some ⟨w1.heap.size,0,none⟩) 0 0] 157)).alloc (.cells #[(n:Nat)] 3)) from X_);have r9:=q9.ext (show Ext ((((w1.alloc (.cells #[] 164)).alloc (.cells #[(n:Nat)] 3)).alloc (.cells #[.slice (some ⟨w1.heap.size,0,none⟩) 0 0] 157)).alloc (.cells #[(n:Nat)] 3)) ((((w1.alloc (.cells #[] 164)).alloc (.cells #[(n:Nat)] 3)).alloc (.cells #[.slice (some ⟨w1.heap.size,0,none⟩) 0 0] 157)).alloc (.cells #[(n:Nat)] 3)) from X_);have xx:Ext w1 ((((w1.alloc (.cells #[] 164)).alloc (.cells #[(n:Nat)] 3)).alloc (.cells #[.slice (some ⟨w1.heap.size,0,none⟩) 0 0] 157)).alloc (.cells #[(n:Nat)] 3)):=X_;have r0:=H0.out.ext xx;have r1:=H1.out.ext xx;have r2:=H2.out.ext xx;have r3:=H3.out.ext xx;have r4:=H4.out.ext xx;have r5:=H5.out.ext xx;have X0:=X1.out.trans xx
 have z0:((((w1.alloc (.cells #[] 164)).alloc (.cells #[(n:Nat)] 3)).alloc (.cells #[.slice (some ⟨w1.heap.size,0,none⟩) 0 0] 157)).alloc (.cells #[(n:Nat)] 3)).heap.size=w1.heap.size+4:=by simp
 clear q6 q7 q8 q9 xx H0 H1 H2 H3 H4 H5
 obtain ⟨W0,hW0⟩:∃W0,((((w1.alloc (.cells #[] 164)).alloc (.cells #[(n:Nat)] 3)).alloc (.cells #[.slice (some ⟨w1.heap.size,0,none⟩) 0 0] 157)).alloc (.cells #[(n:Nat)] 3))=W0:=⟨_,rfl⟩
 rw [hW0] at r0 r1 r2 r3 r4 r5 r6 r7 r8 r9 X0 z0
 try simp only [World.size_alloc] at hW0
 rw [hW0];clear hW0
 have z6:w.heap.size+6<=w1.heap.size:=by omega
 have HRB:RB Mc.cs 164 12 157 (fun v=>[v]) w (w1.heap.size+2) (subF c f n s w w1.heap.size) W0 (micsP c f n s []):=by
  refine ⟨X0,fun p hp=>?_,by omega,_,r8,OwnG.fresh0 (by omega) r6⟩;simp only [subF,List.mem_cons,List.not_mem_nil,or_false] at hp
  rcases hp with rfl|rfl|rfl|rfl|rfl|rfl|rfl|rfl <;> assumption
 have HRB:=hid HRB;have NB:=r9.cell 0 rfl;clear r0 r1 r2 r3 r4 r5 r6 r7 r8 r9 X0 C2 X1 c3 c2 l2 l3;refine (wpIn_wide (n:=3)).1 ?_
 refine' wpIn_rangeFunc_ownG rfl (by omega) (gf:=219) (lb:=#[.pointer (some ⟨w1.heap.size+3,0,none⟩)]) rfl trivial (enters_of Tryz.func219 (by kernel_rfl) rfl)
  (cells_stops n hn0 (by omega) _ (w1.heap.size+3) W0 (by omega) NB) (fun h k=>KB.trans h k) ?hKb (Below.refl _ _) (fun _=>rfl)
  (fun pre W=>RB Mc.cs 164 12 157 (fun v=>[v]) w (w1.heap.size+2) (subF c f n s w w1.heap.size) W (micsP c f n s pre))
  (fun cd pre W=>False) ?owns ?ownsx HRB.out _ ?assign ?body ?done ?stop
 case hKb=>exact fun W l o o' hl ho _ _=>World.putObj_heap_other (by omega)
 case assign=>
  intro l x W K hK
  gi_wp2
  exact hK
 case owns=>exact fun pre A B row h hg hr=>RB.owns (by omega) (micsP c f n s) pre A B row h hg hr
 case ownsx=>exact fun cd pre A B row h hg hr=>h
 case stop=>
  rintro D cd pre W hD - h hK;exact h.elim
 case body=>
  intro l pre x W hI hpre;have HI:=hid hI
  obtain ⟨i,hi⟩:∃i:Nat,(x.1:Nat)=i:=⟨_,rfl⟩
  obtain ⟨j,hj⟩:∃i:Nat,(x.2:Nat)=i:=⟨_,rfl⟩
  have hi2:i<n:=hi▸x.1.2;have hj2:j<n:=hj▸x.2.2;have ZW:=hI.ext.size;obtain ⟨tv,tb1,tb2⟩:=hI.tb;obtain ⟨ta,tc,rfl,tlen⟩:=OwnG.form tb2;have g0:=tb1.cell 0 rfl;have gl:=tb1.lt;have HT1:=hid tb1;have HT2:=hid tb2;have m0:=hI.fx _ (.head _);obtain ⟨m0c0,m0c1,m0c2,m0c3,m0c4,m0c5,m0c6⟩:=m0.q7;have m0l:=m0.lt;have m1:=hI.fx _ (.tail _ (.head _));obtain ⟨m1c0,m1c1,m1c2,m1c3,m1c4,m1c5,m1c6,m1c7,m1c8,m1c9,m1c10,m1c11⟩:=m1.q12;have m1l:=m1.lt;have m2:=hI.fx _ (.tail _ (.tail _ (.head _)));obtain ⟨m2c0,m2c1,m2c2⟩:=m2.q3;have m2l:=m2.lt;have m3:=hI.fx _ (.tail _ (.tail _ (.tail _ (.head _))));have m3c0:=m3.cell 0 rfl;have m3l:=m3.lt;have m4:=hI.fx _ (.tail _ (.tail _ (.tail _ (.tail _ (.head _)))));have m4c0:=m4.cell 0 rfl;have m4l:=m4.lt;have m5:=hI.fx _ (.tail _ (.tail _ (.tail _ (.tail _ (.tail _ (.head _))))));have m5c0:=m5.cell 0 rfl;have m5l:=m5.lt;have m6:=hI.fx _ (.tail _ (.tail _ (.tail _ (.tail _ (.tail _ (.tail _ (.head _)))))));have m6c0:=m6.cell 0 rfl;have m6l:=m6.lt
  try simp only [subF] at m0l m1l m2l m3l m4l m5l m6l
  have hlen:=micsP_length c f n s pre;have hnn:n*n<=64:=Nat.mul_le_mul (by omega:n<=8) (by omega:n<=8);have HLEN:=hid (show (micsP c f n s pre).length<1000000 by omega);rw [hi,hj];clear hI tb1 tb2 m0 m1 m2 m3 m4 m5 m6 hlen hnn;refine wpIn_block ?_;refine wpIn_region_ZS 20 (fun w'=>∃d,w'=lowc (CDs w.heap.size w1.heap.size) W d) (by kernel_rfl) (by kernel_rfl) (fun ⟨_,_,h⟩=>h) ?_;refine wpZS_stage (fuel:=2) [0,1,2,3,4,5,6,7,8,9,10,11,12,13,14,15,16,17] [18] (by kernel_rfl) (SC.drew _ _) ?_
  try simp only [Act.put,List.setIfInBounds_toArray,List.set_cons_succ,List.set_cons_zero]
  simp only [List.filterMap_cons,List.filterMap_nil,List.getElem?_toArray,List.getElem?_cons_zero,List.getElem?_cons_succ]
  show wpQuiet _ _ _ _ [_,_,_,_,_,_,_,_,_,_,_,_,_,_,_,_,_,_] _
  repeat (go_big_quiet_step (fail))
  refine wpQuiet_nil ?_;intro e he;simp only [List.mem_cons,List.not_mem_nil,or_false] at he;subst he
  (unfold wpComesS;simp only [List.getElem?_toArray,List.getElem?_cons_succ,List.getElem?_cons_zero,Option.some.injEq];refine ⟨_,rfl,fun K hK=>?_⟩)
  go_wp2_with fail;refine (iDiceCell_any c f n s i j (by omega) hi2 hj2 _).mono ?_;rintro e wy ⟨r,rfl,hR,x2⟩;have yy:Ext W wy:=Ext.trans (Ext.drew (Ext.refl _)) x2
  have hmic:cellM c f n s (x.1:Nat) (x.2:Nat)=cellM c f n s i j:=by rw [hi,hj]
  have HM:=hid hmic;have T:=hid (HI.out.to yy);have U1:=hid (HT1.out.ext yy);have U2:=hid (OwnG.ext HT2.out yy);have YY:=hid yy;have zyy:=yy.size;clear hmic x2 yy m0c0 m0c1 m0c2 m0c3 m0c4 m0c5 m0c6 m1c0 m1c1 m1c2 m1c3 m1c4 m1c5 m1c6 m1c7 m1c8 m1c9 m1c10 m1c11 m2c0 m2c1 m2c2 m3c0 m4c0 m5c0 m6c0
  rcases hR with ⟨hd,rfl⟩|⟨hd,g,gl2,rfl,hB⟩
  ·have hcm:cellM c f n s i j=[]:=by unfold cellM;rw [hd];rfl
   go_wp2_with fail;refine hK _ _ (.inr (SC.blocks fun a ha=>YY.out.block (CDs_lt z6 gl ha))) ?_;clear hK K;refine wpZS_stage (fuel:=1) [] [19] (by kernel_rfl) (SC.blocks fun a ha=>YY.out.block (CDs_lt z6 gl ha)) ?_;refine wpQuiet_nil ?_;intro e he;simp only [List.mem_cons,List.not_mem_nil,or_false] at he;subst he
   (unfold wpComesS;simp only [List.getElem?_toArray,List.getElem?_cons_succ,List.getElem?_cons_zero,Option.some.injEq];refine ⟨_,rfl,fun K hK=>?_⟩)
   obtain ⟨i0,hi0,-,-,-⟩:=info_parts info_mic;refine wpList_append_own_none rfl _ _ 157 rfl w.heap.size 164 i0 12 Tryz.underlying157 hi0 _ _ _ rfl U2.out rfl ?_;go_wp2_with fail;refine hK _ _ (.inr (SC.blocks fun a ha=>YY.out.block (CDs_lt z6 gl ha))) ?_;clear hK K;have k0:=U1.out.cell 0 rfl;have k1:=U1.out.free 0;have k2:=U1.out.lt;refine wpZS_stage (fuel:=0) [] [20] (by kernel_rfl) (SC.blocks fun a ha=>YY.out.block (CDs_lt z6 gl ha)) ?_;refine wpQuiet_nil ?_;intro e he;simp only [List.mem_cons,List.not_mem_nil,or_false] at he;subst he
   (unfold wpComesS;simp only [List.getElem?_toArray,List.getElem?_cons_succ,List.getElem?_cons_zero,Option.some.injEq];refine ⟨_,rfl,fun K hK=>?_⟩)
   go_wp2;refine hK _ _ (.inl (by trivial)) ?_;clear hK K;refine wpZS_end (by kernel_rfl) ?_;have T4:=T.out.push (subF_ne c f n s w w1.heap.size z6) (by decide) 0 rfl U1.out U2.out (Ext.refl _) (grownBy.refl _ _) U2.out;refine ⟨((Ext.others YY.out).trans (KeepsOthers.setCell _ _ _)).from _,(T4.fx _ (.tail _ (.tail _ (.tail _ (.tail _ (.tail _ (.tail _ (.tail _ (.head _))))))))).trans (HI.out.fx _ (.tail _ (.tail _ (.tail _ (.tail _ (.tail _ (.tail _ (.tail _ (.head _))))))))).symm,?_⟩
   show RB _ _ _ _ _ _ _ _ _ (micsP c f n s (pre++[x]))
   rw [micsP_snoc,HM.out,hcm,List.append_nil];exact T4
  ·have hcm:cellM c f n s i j=[⟨corn c f n s i j,corn c f n s (i+1) j,corn c f n s i (j+1),i,j,n⟩,⟨corn c f n s (i+1) j,corn c f n s (i+1) (j+1),corn c f n s i (j+1),i,j,n⟩]:=by unfold cellM;rw [hd];rfl
   have HB:=hid hB;clear hB;go_wp2_with fail;refine hK _ _ (.inr (SC.blocks fun a ha=>YY.out.block (CDs_lt z6 gl ha))) ?_;clear hK K;refine wpZS_stage (fuel:=1) [] [19] (by kernel_rfl) (SC.blocks fun a ha=>YY.out.block (CDs_lt z6 gl ha)) ?_;refine wpQuiet_nil ?_;intro e he;simp only [List.mem_cons,List.not_mem_nil,or_false] at he;subst he
   (unfold wpComesS;simp only [List.getElem?_toArray,List.getElem?_cons_succ,List.getElem?_cons_zero,Option.some.injEq];refine ⟨_,rfl,fun K hK=>?_⟩)
   refine wpList_append_two Mc.cs 164 12 96 _ _ rfl _ _ 157 rfl Tryz.underlying157 info_mic rfl (by decide) (by decide) (fun _=>rfl) w.heap.size _ (micsP c f n s pre) rfl U2.out
    ⟨corn c f n s i j,corn c f n s (i+1) j,corn c f n s i (j+1),i,j,n⟩ ⟨corn c f n s (i+1) j,corn c f n s (i+1) (j+1),corn c f n s i (j+1),i,j,n⟩ g rfl (fun k u hk=>HB.out.cell k hk) (fun u hu=>(List.mem_append.1 hu).elim (Mc.one _ u) (Mc.one _ u)) HLEN.out (by have:=T.out.ext.size;omega) ?_
   intro v8 w8 hown hg;obtain ⟨va,vc,rfl,_⟩:=OwnG.form hown;have G1:=U1.out.grown hg (blk_not_row U1.out (by decide) U2.out);have k0:=G1.cell 0 rfl;have k1:=G1.free 0;have k2:=G1.lt
   have hC:∀a:Addr,CDs w.heap.size w1.heap.size a->w8.heap[a.block]?=W.heap[a.block]?:=fun a ha=>by
    have hr:some a.block≠(Value.slice ta (micsP c f n s pre).length tc).ownBlock:=by
     rcases ha with h|h|h|h|h|h|h|h
     ·rw [h];exact blk_not_row (T.out.fx _ (.head _)) (by simp) U2.out
     ·rw [h];exact blk_not_row (T.out.fx _ (.tail _ (.head _))) (by simp) U2.out
     ·rw [h];exact blk_not_row (T.out.fx _ (.tail _ (.tail _ (.head _)))) (by simp) U2.out
     ·rw [h];exact blk_not_row (T.out.fx _ (.tail _ (.tail _ (.tail _ (.head _))))) (by simp) U2.out
     ·rw [h];exact blk_not_row (T.out.fx _ (.tail _ (.tail _ (.tail _ (.tail _ (.head _)))))) (by simp) U2.out
     ·rw [h];exact blk_not_row (T.out.fx _ (.tail _ (.tail _ (.tail _ (.tail _ (.tail _ (.head _))))))) (by simp) U2.out
     ·rw [h];exact blk_not_row (T.out.fx _ (.tail _ (.tail _ (.tail _ (.tail _ (.tail _ (.tail _ (.head _)))))))) (by simp) U2.out
     ·rw [h];exact blk_not_row U1.out (by decide) U2.out
    have hl:=CDs_lt z6 gl ha;exact (hg.block _ (Nat.lt_of_lt_of_le hl zyy) hr).trans (YY.out.block hl)
   have HCC:=hid hC;clear hC;go_wp2_with fail;refine hK _ _ (.inr (SC.blocks HCC.out)) ?_;clear hK K;refine wpZS_stage (fuel:=0) [] [20] (by kernel_rfl) (SC.blocks HCC.out) ?_;refine wpQuiet_nil ?_;intro e he;simp only [List.mem_cons,List.not_mem_nil,or_false] at he;subst he
   (unfold wpComesS;simp only [List.getElem?_toArray,List.getElem?_cons_succ,List.getElem?_cons_zero,Option.some.injEq];refine ⟨_,rfl,fun K hK=>?_⟩)
   go_wp2;refine hK _ _ (.inl (by trivial)) ?_;clear hK K;refine wpZS_end (by kernel_rfl) ?_;have T4:=T.out.push (subF_ne c f n s w w1.heap.size z6) (by decide) 0 rfl U1.out U2.out (Ext.refl _) hg hown;simp only [List.length_append,List.length_cons,List.length_nil,Nat.zero_add,Nat.reduceAdd] at T4;refine ⟨(((Ext.others YY.out).trans (KeepsOthers.of_grownBy hg (own_blk (Ext.refl _) U2.out))).trans (KeepsOthers.setCell _ _ _)).from _,(T4.fx _ (.tail _ (.tail _ (.tail _ (.tail _ (.tail _ (.tail _ (.tail _ (.head _))))))))).trans (HI.out.fx _ (.tail _ (.tail _ (.tail _ (.tail _ (.tail _ (.tail _ (.tail _ (.head _))))))))).symm,?_⟩
   show RB _ _ _ _ _ _ _ _ _ (micsP c f n s (pre++[x]))
   rw [micsP_snoc,HM.out,hcm];exact T4
 case done=>
  rintro D ys W hD rfl hI hK;rw [micsP_all] at hI;obtain ⟨tv,tb1,tb2⟩:=hI.tb;obtain ⟨ta,tc,rfl,tlen⟩:=OwnG.form tb2;have k0:=tb1.cell 0 rfl;have k5:=tb1.lt;have HI:=hid hI;clear hI tb1;go_wp2_with fail;refine ⟨by simp,.inl ⟨_,_,rfl,run_takeDeferred hK,?_⟩⟩;refine ⟨_,results_tmp rfl _ _ _,_,rfl,?_,?_⟩
  ·exact OwnG.owns tb2 (grownBy_putObj' W D _) (fun r e=>by cases e;exact ⟨_,hK,rfl⟩)
  ·exact HI.out.ext.grown (grownBy_putObj' W D _) (fun k e=>by cases e;omega)
end
theorem nine {i:Nat} (h:i<9):i=0\/i=1\/i=2\/i=3\/i=4\/i=5\/i=6\/i=7\/i=8:=by omega
theorem twelve {i:Nat} (h:i<12):i=0\/i=1\/i=2\/i=3\/i=4\/i=5\/i=6\/i=7\/i=8\/i=9\/i=10\/i=11:=by omega
theorem rowI12_new {w:World} {b:Nat} {t:TypeId} {f:Nat->Int} (hb:w.heap.size=b):RowI (w.alloc (.cells #[(f 0),(f 1),(f 2),(f 3),(f 4),(f 5),(f 6),(f 7),(f 8),(f 9),(f 10),(f 11)] t)) b t 12 f:=
 hb▸World.rowIs_alloc _ _ _ _ fun i hi=>by rcases twelve hi with h|h|h|h|h|h|h|h|h|h|h|h <;> subst h <;> rfl
def C1e (b:Nat):Addr->Prop:=fun a=>a.block=b
@[go_sem] theorem C1e_of {b k o:Nat} (h:k=b):C1e b ⟨k,o,none⟩:=h
theorem iLerp_val (x y z k l m t:Int) (ht:0<=t/\t<=16) (w:World) :
  Calls Tryz.prog 211 #[.agg #[x,y,z],.agg #[k,l,m],t,.int .i64 16] w fun e w'=>e = .returned (.agg #[(lerpC x k t 16),(lerpC y l t 16),(lerpC z m t 16)])/\Ext w w':=by
 obtain ⟨ux,hux⟩:∃r,cl x=r:=⟨_,rfl⟩
 have bux:=cl_bd x;rw [hux] at bux
 obtain ⟨uy,huy⟩:∃r,cl y=r:=⟨_,rfl⟩
 have buy:=cl_bd y;rw [huy] at buy
 obtain ⟨uz,huz⟩:∃r,cl z=r:=⟨_,rfl⟩
 have buz:=cl_bd z;rw [huz] at buz
 obtain ⟨uk,huk⟩:∃r,cl k=r:=⟨_,rfl⟩
 have buk:=cl_bd k;rw [huk] at buk
 obtain ⟨ul,hul⟩:∃r,cl l=r:=⟨_,rfl⟩
 have bul:=cl_bd l;rw [hul] at bul
 obtain ⟨um,hum⟩:∃r,cl m=r:=⟨_,rfl⟩
 have bum:=cl_bd m;rw [hum] at bum;have p0:=mul_abs (A:=16) (B:=1000000) (a:=16 - t) (b:=ux) (by omega) bux
 obtain ⟨q0,e0⟩:∃r,(16 - t)*ux=r:=⟨_,rfl⟩
 rw [e0] at p0;have r0:=mul_abs (A:=16) (B:=1000000) (a:=t) (b:=uk) (by omega) buk
 obtain ⟨s0,g0⟩:∃r,t*uk=r:=⟨_,rfl⟩
 rw [g0] at r0
 have hv0:lerpC x k t 16=fdiv (q0+s0) 16:=by unfold lerpC;rw [hux,huk,Int.mul_comm ux,Int.mul_comm uk,e0,g0]
 rw [hv0];have M0:=hid (show wrap64 ((16 - t)*ux)=q0 by rw [e0];exact wrap_small (by omega) (by omega));have N0:=hid (show wrap64 (t*uk)=s0 by rw [g0];exact wrap_small (by omega) (by omega));have S0:=hid (show wrap64 (q0+s0)=q0+s0 from wrap_small (by omega) (by omega));have I0:=hid (I64.of (n:=q0+s0) (m:=40000000) (by omega) (by decide));have p1:=mul_abs (A:=16) (B:=1000000) (a:=16 - t) (b:=uy) (by omega) buy
 obtain ⟨q1,e1⟩:∃r,(16 - t)*uy=r:=⟨_,rfl⟩
 rw [e1] at p1;have r1:=mul_abs (A:=16) (B:=1000000) (a:=t) (b:=ul) (by omega) bul
 obtain ⟨s1,g1⟩:∃r,t*ul=r:=⟨_,rfl⟩
 rw [g1] at r1
 have hv1:lerpC y l t 16=fdiv (q1+s1) 16:=by unfold lerpC;rw [huy,hul,Int.mul_comm uy,Int.mul_comm ul,e1,g1]
 rw [hv1];have M1:=hid (show wrap64 ((16 - t)*uy)=q1 by rw [e1];exact wrap_small (by omega) (by omega));have N1:=hid (show wrap64 (t*ul)=s1 by rw [g1];exact wrap_small (by omega) (by omega));have S1:=hid (show wrap64 (q1+s1)=q1+s1 from wrap_small (by omega) (by omega));have I1:=hid (I64.of (n:=q1+s1) (m:=40000000) (by omega) (by decide));have p2:=mul_abs (A:=16) (B:=1000000) (a:=16 - t) (b:=uz) (by omega) buz
 obtain ⟨q2,e2⟩:∃r,(16 - t)*uz=r:=⟨_,rfl⟩
 rw [e2] at p2;have r2:=mul_abs (A:=16) (B:=1000000) (a:=t) (b:=um) (by omega) bum
 obtain ⟨s2,g2⟩:∃r,t*um=r:=⟨_,rfl⟩
 rw [g2] at r2
 have hv2:lerpC z m t 16=fdiv (q2+s2) 16:=by unfold lerpC;rw [huz,hum,Int.mul_comm uz,Int.mul_comm um,e2,g2]
 rw [hv2];have M2:=hid (show wrap64 ((16 - t)*uz)=q2 by rw [e2];exact wrap_small (by omega) (by omega));have N2:=hid (show wrap64 (t*um)=s2 by rw [g2];exact wrap_small (by omega) (by omega));have S2:=hid (show wrap64 (q2+s2)=q2+s2 from wrap_small (by omega) (by omega));have I2:=hid (I64.of (n:=q2+s2) (m:=40000000) (by omega) (by decide));have Hux:=hid hux;have Huy:=hid huy;have Huz:=hid huz;have Huk:=hid huk;have Hul:=hid hul;have Hum:=hid hum;clear hux bux huy buy huz buz huk buk hul bul hum bum p0 e0 r0 g0 hv0 p1 e1 r1 g1 hv1 p2 e2 r2 g2 hv2;have J1:=hid (show inB 16 1 4096=true from rfl);have J2:=hid (inB_iff.2 (show (0:Int)<=t/\t<=16 from ht));have q0:=(Blk.new w 37 [x,y,z]).ext (show Ext (w.alloc (.cells #[x,y,z] 37)) (((w.alloc (.cells #[x,y,z] 37)).alloc (.cells #[k,l,m] 37)).alloc (.cells #[(),(),()] 37)) from X_);have q1:=Blk.new (w.alloc (.cells #[x,y,z] 37)) 37 [k,l,m];have q2:=Blk.new ((w.alloc (.cells #[x,y,z] 37)).alloc (.cells #[k,l,m] 37)) 37 [(),(),()];simp only [World.size_alloc] at q1 q2;have R0:=hid q0;have R1:=hid (q1.alloc (.cells #[(),(),()] 37));have R2:=hid q2;have X0:=hid (show Ext w (((w.alloc (.cells #[x,y,z] 37)).alloc (.cells #[k,l,m] 37)).alloc (.cells #[(),(),()] 37)) from X_);clear q0 q1 q2;go_enter Tryz.func211,Tryz.ntmps211;go_wp2_with fail;refine wp_region_stagesS [([2],0),([],1),([],3),([],4),([],5)] 5 (fun w'=>∃d,w'=lowc (C1e (w.heap.size+1)) _ d) (by kernel_rfl) (by kernel_rfl) (SC.drew _ _) ?_;refine sc_ fun K hK=>?_;go_wp2_with fail;refine hK _ _ (.inr (SC.drew _ _)) ?_;clear hK K;refine sc_ fun K hK=>?_;go_wp2_with fail;refine (clamped_val Hux.out Huy.out Huz.out _).mono ?_;rintro e w1 ⟨rfl,x1⟩;have y1:Ext (((w.alloc (.cells #[x,y,z] 37)).alloc (.cells #[k,l,m] 37)).alloc (.cells #[(),(),()] 37)) w1:=Ext.trans (Ext.drew (Ext.refl _)) x1;go_wp2_with fail;refine hK _ _ (.inr (SC.blocks fun a ha=>y1.block (by rw [show a.block=w.heap.size+1 from ha];simp))) ?_;clear hK K;refine sc_ fun K hK=>?_;go_wp2_with fail;refine (clamped_val Huk.out Hul.out Hum.out _).mono ?_;rintro e w2 ⟨rfl,x2⟩;have y2:=y1.trans x2;have D0:=R0.out.ext y2;have D1:=R1.out.ext y2;have D2:=R2.out.ext y2;have a0:=D0.free 0;have a1:=D0.free 1;have a2:=D0.free 2;have a3:=D0.cell 0 rfl;have a4:=D0.cell 1 rfl;have a5:=D0.cell 2 rfl;have a6:=D0.lt;have c0:=D1.free 0;have c1:=D1.free 1;have c2:=D1.free 2;have c3:=D1.cell 0 rfl;have c4:=D1.cell 1 rfl;have c5:=D1.cell 2 rfl;have c6:=D1.lt;go_wp2_with fail;refine hK _ _ (.inr (SC.blocks fun a ha=>y2.block (by rw [show a.block=w.heap.size+1 from ha];simp))) ?_;clear hK K;refine sc_ fun K hK=>?_;go_wp2_with fail;refine hK _ _ (.inr (SC.blocks fun a ha=>?_)) ?_
 ·have hb:a.block=w.heap.size+1:=ha
  rw [Below.heap_setCell _ _ _ _ (by rw [hb];simp),Below.heap_setCell _ _ _ _ (by rw [hb];simp),Below.heap_setCell _ _ _ _ (by rw [hb];simp)];exact y2.block (by rw [hb];simp)
 clear hK K;refine sc_ fun K hK=>?_;go_wp2_with fail;refine hK _ _ (.inl (by trivial)) ?_;clear hK K;refine wpStagesS_nil ?_
 have n01:w.heap.size≠w.heap.size+1:=by omega
 have n20:w.heap.size+2≠w.heap.size:=by omega
 have n21:w.heap.size+2≠w.heap.size+1:=by omega
 have E0:=((((((D0.set 0 (.int .i64 ux)).set 1 (.int .i64 uy)).set 2 (.int .i64 uz)).other (a:=⟨w.heap.size+1,0,none⟩) n01 (.int .i64 uk)).other (a:=⟨w.heap.size+1,1,none⟩) n01 (.int .i64 ul)).other (a:=⟨w.heap.size+1,2,none⟩) n01 (.int .i64 um))
 have E1:=((((((D1.other (a:=⟨w.heap.size,0,none⟩) n01.symm (.int .i64 ux)).other (a:=⟨w.heap.size,1,none⟩) n01.symm (.int .i64 uy)).other (a:=⟨w.heap.size,2,none⟩) n01.symm (.int .i64 uz)).set 0 (.int .i64 uk)).set 1 (.int .i64 ul)).set 2 (.int .i64 um))
 have E2:=((((((D2.other (a:=⟨w.heap.size,0,none⟩) n20 (.int .i64 ux)).other (a:=⟨w.heap.size,1,none⟩) n20 (.int .i64 uy)).other (a:=⟨w.heap.size,2,none⟩) n20 (.int .i64 uz)).other (a:=⟨w.heap.size+1,0,none⟩) n21 (.int .i64 uk)).other (a:=⟨w.heap.size+1,1,none⟩) n21 (.int .i64 ul)).other (a:=⟨w.heap.size+1,2,none⟩) n21 (.int .i64 um))
 have EX:Ext w ((((((w2.setCell ⟨w.heap.size,0,none⟩ ux).setCell ⟨w.heap.size,1,none⟩ uy).setCell ⟨w.heap.size,2,none⟩ uz).setCell ⟨w.heap.size+1,0,none⟩ uk).setCell ⟨w.heap.size+1,1,none⟩ ul).setCell ⟨w.heap.size+1,2,none⟩ um):=by
  have hX:=X0.out.trans y2;exact S_
 obtain ⟨w3,hw3⟩:∃w3,((((((w2.setCell ⟨w.heap.size,0,none⟩ ux).setCell ⟨w.heap.size,1,none⟩ uy).setCell ⟨w.heap.size,2,none⟩ uz).setCell ⟨w.heap.size+1,0,none⟩ uk).setCell ⟨w.heap.size+1,1,none⟩ ul).setCell ⟨w.heap.size+1,2,none⟩ um)=w3:=⟨_,rfl⟩
 rw [hw3] at E0 E1 E2 EX
 try simp only [Nat.add_assoc,Nat.reduceAdd] at hw3
 rw [hw3];clear hw3 a0 a1 a2 a3 a4 a5 a6 c0 c1 c2 c3 c4 c5 c6 D0 D1 D2 y1 y2 x1 x2;have a3:=E0.cell 0 rfl;have a4:=E0.cell 1 rfl;have a5:=E0.cell 2 rfl;have a6:=E0.lt;have c3:=E1.cell 0 rfl;have c4:=E1.cell 1 rfl;have c5:=E1.cell 2 rfl;have c6:=E1.lt;have EE2:=hid E2;have EEX:=hid EX;clear E0 E1 E2 EX;go_wp2_with (go_at_call 54;with_reducible first|(refine (within_val J1.out _).mono ?_;rintro e w4 ⟨rfl,rfl⟩)|(refine (within_val J2.out _).mono ?_;rintro e w4 ⟨rfl,rfl⟩));refine wp_region_stages [([0,1,2,3,5,6,9],4),([],7),([],8),([],10),([],11)] 11 w3.heap.size (by kernel_rfl) (by kernel_rfl) ?_;refine st_ fun K hK=>?_;go_wp2_with fail;refine (times_val M0.out M1.out M2.out _).mono ?_;rintro e w5 ⟨rfl,x5⟩;have y5:Ext w3 w5:=Ext.trans (Ext.drew (Ext.refl _)) x5;go_wp2_with fail;refine hK _ _ (.inr (y5.same (Nat.le_refl _))) ?_;clear hK K;refine st_ fun K hK=>?_;go_wp2_with fail;refine (times_val N0.out N1.out N2.out _).mono ?_;rintro e w6 ⟨rfl,x6⟩;have y6:=y5.trans x6;go_wp2_with fail;refine hK _ _ (.inr (y6.same (Nat.le_refl _))) ?_;clear hK K;refine st_ fun K hK=>?_;go_wp2_with fail;refine (plus_val S0.out S1.out S2.out _).mono ?_;rintro e w7 ⟨rfl,x7⟩;have y7:=y6.trans x7;go_wp2_with fail;refine hK _ _ (.inr (y7.same (Nat.le_refl _))) ?_;clear hK K;refine st_ fun K hK=>?_;go_wp2_with fail;refine (over_val I0.out I1.out I2.out rfl rfl rfl _).mono ?_;rintro e w8 ⟨rfl,x8⟩;have y8:=y7.trans x8;go_wp2_with fail;refine hK _ _ (.inr (y8.same (Nat.le_refl _))) ?_;clear hK K;have F2:=EE2.out.ext y8;obtain ⟨k0,k1,k2⟩:=F2.q3;have f0:=F2.free 0;have f1:=F2.free 1;have f2:=F2.free 2;have fl:=F2.lt;have hX:=EEX.out.trans y8;refine st_ fun K hK=>?_;go_wp2_with fail;refine hK _ _ (.inl (by trivial)) ?_;clear hK K;refine wpStages_nil ?_;go_wp2;exact bodyPost_ret (v:=.agg #[.int .i64 (fdiv (q0+s0) 16),.int .i64 (fdiv (q1+s1) 16),.int .i64 (fdiv (q2+s2) 16)]) (by simp [results,Tryz.results211,go_sem, *]) rfl ⟨rfl,S_⟩
def C2e (b c:Nat):Addr->Prop:=fun a=>a.block=b\/a.block=c
@[go_sem] theorem C2e_of {b c k o:Nat} (h:k=b\/k=c):C2e b c ⟨k,o,none⟩:=h
theorem iMid_val (f g:Nat->Int) (t:Int) (ht:0<=t/\t<=16) (w:World) :
  Calls Tryz.prog 150 #[.agg #[(f 0),(f 1),(f 2),(f 3),(f 4),(f 5),(f 6),(f 7),(f 8),(f 9),(f 10),(f 11)],.agg #[(g 0),(g 1),(g 2),(g 3),(g 4),(g 5),(g 6),(g 7),(g 8),(g 9),(g 10),(g 11)],t] w fun e w'=>e = .returned (.agg #[(midP f g t 0),(midP f g t 1),(midP f g t 2),(midP f g t 3),(midP f g t 4),(midP f g t 5),(midP f g t 6),(midP f g t 7),(midP f g t 8),(midP f g t 9),(midP f g t 10),(midP f g t 11)])/\Ext w w':=by
 have J2:=hid (inB_iff.2 (show (0:Int)<=t/\t<=16 from ht))
 obtain ⟨q,hq⟩:∃q:Nat->Int,midP f g t=q:=⟨_,rfl⟩
 have HQ:=hid (fun j=>show lerpC (f j) (g j) t 16=q j by rw [<-hq];rfl);have HT:=hid ht;rw [hq];clear ht hq;have j0:=idxP f 0 (by decide);have j1:=idxP f 1 (by decide);have j2:=idxP f 2 (by decide);have j3:=idxP f 3 (by decide);simp only [Nat.mul_zero,Nat.zero_add,Nat.mul_one,Nat.reduceAdd,Nat.reduceMul,Int.cast_ofNat_Int] at j0 j1 j2 j3;have r0:=rowI12_new (w:=w) (t:=40) (f:=f) rfl;have r1:=rowI12_new (w:=(w.alloc (.cells #[(f 0),(f 1),(f 2),(f 3),(f 4),(f 5),(f 6),(f 7),(f 8),(f 9),(f 10),(f 11)] 40))) (t:=40) (f:=g) rfl;have r2:=rowI12_new (w:=((w.alloc (.cells #[(f 0),(f 1),(f 2),(f 3),(f 4),(f 5),(f 6),(f 7),(f 8),(f 9),(f 10),(f 11)] 40)).alloc (.cells #[(g 0),(g 1),(g 2),(g 3),(g 4),(g 5),(g 6),(g 7),(g 8),(g 9),(g 10),(g 11)] 40))) (t:=40) (f:=fun _=>0) rfl;simp only [World.size_alloc] at r1 r2;have R0:=hid ((r0.alloc (.cells #[(g 0),(g 1),(g 2),(g 3),(g 4),(g 5),(g 6),(g 7),(g 8),(g 9),(g 10),(g 11)] 40)).alloc (.cells #[(),(),(),(),(),(),(),(),(),(),(),()] 40));have R1:=hid (r1.alloc (.cells #[(),(),(),(),(),(),(),(),(),(),(),()] 40));have R2:=hid r2;have X0:=hid (show Ext w (((w.alloc (.cells #[(f 0),(f 1),(f 2),(f 3),(f 4),(f 5),(f 6),(f 7),(f 8),(f 9),(f 10),(f 11)] 40)).alloc (.cells #[(g 0),(g 1),(g 2),(g 3),(g 4),(g 5),(g 6),(g 7),(g 8),(g 9),(g 10),(g 11)] 40)).alloc (.cells #[(),(),(),(),(),(),(),(),(),(),(),()] 40)) from X_);clear r0 r1 r2;go_enter Tryz.func150,Tryz.ntmps150;go_wp2_with (go_at_call 54;refine (within_val J2.out _).mono ?_;rintro e w4 ⟨rfl,rfl⟩)
 obtain ⟨W0,hW0⟩:∃W0,(((w.alloc (.cells #[(f 0),(f 1),(f 2),(f 3),(f 4),(f 5),(f 6),(f 7),(f 8),(f 9),(f 10),(f 11)] 40)).alloc (.cells #[(g 0),(g 1),(g 2),(g 3),(g 4),(g 5),(g 6),(g 7),(g 8),(g 9),(g 10),(g 11)] 40)).alloc (.cells #[(),(),(),(),(),(),(),(),(),(),(),()] 40))=W0:=⟨_,rfl⟩
 rw [hW0] at R0 R1 R2 X0 ⊢;clear hW0
 go_loopw [15] (fun i wr=>∃k c:Nat,c=k*3/\k<=4/\i = .int .i64 (k:Nat)/\Ext w wr/\RowI wr w.heap.size 40 12 (mixI f q c)/\RowI wr (w.heap.size+1) 40 12 g/\RowI wr (w.heap.size+2) 40 12 (fun _=>0)) (fun i _=>4 - (intOf i).toNat)
 case atStart=>exact ⟨0,0,rfl,by omega,rfl,X0.out,RowI.mix0 R0.out,R1.out,R2.out⟩
 case round=>
  obtain ⟨k,c,hc,hk,rfl,hx,h0,h1,h2⟩:=hrel;have HX:=hid hx;have H0:=hid h0;have H1:=hid h1;have H2:=hid h2;have z0:=h0.lt;have z1:=h1.lt;have z2:=h2.lt;have zx:=hx.size;clear hx h0 h1 h2 R0 R1 R2 X0
  rcases (show k=0\/k=1\/k=2\/k=3\/k=4 by omega) with rfl|rfl|rfl|rfl|rfl
  ·obtain rfl:c=0:=by omega
   clear hc;have c0:=H1.out.cell (i:=0) (by decide);have c1:=H1.out.cell (i:=1) (by decide);have c2:=H1.out.cell (i:=2) (by decide);go_wp2_with fail;refine wp_region_stagesS [([0,1,2,3,4,5,6,8],7),([9],10)] 99 (fun w'=>∃d,w'=lowc (C2e (w.heap.size+1) wr.heap.size) _ d) (by kernel_rfl) (by kernel_rfl) (SC.drew _ _) ?_;refine sc_ fun K hK=>?_;go_wp2_with fail;refine (iLerp_val (f 0) (f 1) (f 2) (g 0) (g 1) (g 2) t HT.out _).mono ?_;rintro e w3 ⟨rfl,x3⟩;rw [HQ.out 0,HQ.out 1,HQ.out 2];have y3:Ext (wr.alloc (.cells #[(f 0),(f 1),(f 2)] 37)) w3:=Ext.trans (Ext.drew (Ext.refl _)) x3;go_wp2_with fail;refine hK _ _ (.inr (SC.blocks fun a ha=>y3.block (by rcases ha with h|h <;> rw [h] <;> simp <;> omega))) ?_;clear hK K;have Y3:Ext wr w3:=Ext.trans (show Ext wr (wr.alloc (.cells #[(f 0),(f 1),(f 2)] 37)) from X_) y3;have D0:=H0.out.ext Y3;have D1:=H1.out.ext Y3;have D2:=H2.out.ext Y3;have X3:=HX.out.trans Y3;have k0:=D0.cell (i:=0) (by decide);have k1:=D0.cell (i:=1) (by decide);have k2:=D0.cell (i:=2) (by decide);have f0:=D0.frozen 0;have f1:=D0.frozen 1;have f2:=D0.frozen 2;have fl:=D0.lt;have G0:=hid (RowI.mix (c:=2) (RowI.mix (c:=1) (RowI.mix (c:=0) D0 rfl rfl) rfl rfl) rfl rfl)
   have n1:w.heap.size+1≠w.heap.size:=by omega
   have n2:w.heap.size+2≠w.heap.size:=by omega
   have G1:=hid (((D1.other (a:=⟨w.heap.size,0,none⟩) n1 (.int .i64 (q 0))).other (a:=⟨w.heap.size,1,none⟩) n1 (.int .i64 (q 1))).other (a:=⟨w.heap.size,2,none⟩) n1 (.int .i64 (q 2)));have G2:=hid (((D2.other (a:=⟨w.heap.size,0,none⟩) n2 (.int .i64 (q 0))).other (a:=⟨w.heap.size,1,none⟩) n2 (.int .i64 (q 1))).other (a:=⟨w.heap.size,2,none⟩) n2 (.int .i64 (q 2)));have GX:=hid (show Ext w (((w3.setCell ⟨w.heap.size,0,none⟩ (q 0)).setCell ⟨w.heap.size,1,none⟩ (q 1)).setCell ⟨w.heap.size,2,none⟩ (q 2)) from S_);have hSC:=hid (fun a:Addr=>fun ha:C2e (w.heap.size+1) wr.heap.size a=>y3.block (show a.block<(wr.alloc (.cells #[(f 0),(f 1),(f 2)] 37)).heap.size by rcases ha with h|h <;> rw [h] <;> simp <;> omega));clear D0 D1 D2 X3 Y3 y3 x3 c0 c1 c2;refine sc_ fun K hK=>?_;go_wp2_with fail;refine hK _ _ (.inr (SC.blocks fun a ha=>?_)) ?_
   ·have hb:a.block≠w.heap.size:=by rcases ha with h|h <;> omega
    rw [Below.heap_setCell _ _ _ _ (by exact hb),Below.heap_setCell _ _ _ _ (by exact hb),Below.heap_setCell _ _ _ _ (by exact hb)];exact hSC.out a ha
   clear hK K;refine wpStagesS_nil ?_;go_wp2;go_roundw
   case rel=>exact ⟨1,3,rfl,by omega,by go_num,GX.out,G0.out,G1.out,G2.out⟩
   case measure=>simp [intOf]
  ·obtain rfl:c=3:=by omega
   clear hc;have c0:=H1.out.cell (i:=3) (by decide);have c1:=H1.out.cell (i:=4) (by decide);have c2:=H1.out.cell (i:=5) (by decide);go_wp2_with fail;refine wp_region_stagesS [([0,1,2,3,4,5,6,8],7),([9],10)] 99 (fun w'=>∃d,w'=lowc (C2e (w.heap.size+1) wr.heap.size) _ d) (by kernel_rfl) (by kernel_rfl) (SC.drew _ _) ?_;refine sc_ fun K hK=>?_;go_wp2_with fail;refine (iLerp_val (f 3) (f 4) (f 5) (g 3) (g 4) (g 5) t HT.out _).mono ?_;rintro e w3 ⟨rfl,x3⟩;rw [HQ.out 3,HQ.out 4,HQ.out 5];have y3:Ext (wr.alloc (.cells #[(f 3),(f 4),(f 5)] 37)) w3:=Ext.trans (Ext.drew (Ext.refl _)) x3;go_wp2_with fail;refine hK _ _ (.inr (SC.blocks fun a ha=>y3.block (by rcases ha with h|h <;> rw [h] <;> simp <;> omega))) ?_;clear hK K;have Y3:Ext wr w3:=Ext.trans (show Ext wr (wr.alloc (.cells #[(f 3),(f 4),(f 5)] 37)) from X_) y3;have D0:=H0.out.ext Y3;have D1:=H1.out.ext Y3;have D2:=H2.out.ext Y3;have X3:=HX.out.trans Y3;have k0:=D0.cell (i:=3) (by decide);have k1:=D0.cell (i:=4) (by decide);have k2:=D0.cell (i:=5) (by decide);have f0:=D0.frozen 3;have f1:=D0.frozen 4;have f2:=D0.frozen 5;have fl:=D0.lt;have G0:=hid (RowI.mix (c:=5) (RowI.mix (c:=4) (RowI.mix (c:=3) D0 rfl rfl) rfl rfl) rfl rfl)
   have n1:w.heap.size+1≠w.heap.size:=by omega
   have n2:w.heap.size+2≠w.heap.size:=by omega
   have G1:=hid (((D1.other (a:=⟨w.heap.size,3,none⟩) n1 (.int .i64 (q 3))).other (a:=⟨w.heap.size,4,none⟩) n1 (.int .i64 (q 4))).other (a:=⟨w.heap.size,5,none⟩) n1 (.int .i64 (q 5)));have G2:=hid (((D2.other (a:=⟨w.heap.size,3,none⟩) n2 (.int .i64 (q 3))).other (a:=⟨w.heap.size,4,none⟩) n2 (.int .i64 (q 4))).other (a:=⟨w.heap.size,5,none⟩) n2 (.int .i64 (q 5)));have GX:=hid (show Ext w (((w3.setCell ⟨w.heap.size,3,none⟩ (q 3)).setCell ⟨w.heap.size,4,none⟩ (q 4)).setCell ⟨w.heap.size,5,none⟩ (q 5)) from S_);have hSC:=hid (fun a:Addr=>fun ha:C2e (w.heap.size+1) wr.heap.size a=>y3.block (show a.block<(wr.alloc (.cells #[(f 3),(f 4),(f 5)] 37)).heap.size by rcases ha with h|h <;> rw [h] <;> simp <;> omega));clear D0 D1 D2 X3 Y3 y3 x3 c0 c1 c2;refine sc_ fun K hK=>?_;go_wp2_with fail;refine hK _ _ (.inr (SC.blocks fun a ha=>?_)) ?_
   ·have hb:a.block≠w.heap.size:=by rcases ha with h|h <;> omega
    rw [Below.heap_setCell _ _ _ _ (by exact hb),Below.heap_setCell _ _ _ _ (by exact hb),Below.heap_setCell _ _ _ _ (by exact hb)];exact hSC.out a ha
   clear hK K;refine wpStagesS_nil ?_;go_wp2;go_roundw
   case rel=>exact ⟨2,6,rfl,by omega,by go_num,GX.out,G0.out,G1.out,G2.out⟩
   case measure=>simp [intOf]
  ·obtain rfl:c=6:=by omega
   clear hc;have c0:=H1.out.cell (i:=6) (by decide);have c1:=H1.out.cell (i:=7) (by decide);have c2:=H1.out.cell (i:=8) (by decide);go_wp2_with fail;refine wp_region_stagesS [([0,1,2,3,4,5,6,8],7),([9],10)] 99 (fun w'=>∃d,w'=lowc (C2e (w.heap.size+1) wr.heap.size) _ d) (by kernel_rfl) (by kernel_rfl) (SC.drew _ _) ?_;refine sc_ fun K hK=>?_;go_wp2_with fail;refine (iLerp_val (f 6) (f 7) (f 8) (g 6) (g 7) (g 8) t HT.out _).mono ?_;rintro e w3 ⟨rfl,x3⟩;rw [HQ.out 6,HQ.out 7,HQ.out 8];have y3:Ext (wr.alloc (.cells #[(f 6),(f 7),(f 8)] 37)) w3:=Ext.trans (Ext.drew (Ext.refl _)) x3;go_wp2_with fail;refine hK _ _ (.inr (SC.blocks fun a ha=>y3.block (by rcases ha with h|h <;> rw [h] <;> simp <;> omega))) ?_;clear hK K;have Y3:Ext wr w3:=Ext.trans (show Ext wr (wr.alloc (.cells #[(f 6),(f 7),(f 8)] 37)) from X_) y3;have D0:=H0.out.ext Y3;have D1:=H1.out.ext Y3;have D2:=H2.out.ext Y3;have X3:=HX.out.trans Y3;have k0:=D0.cell (i:=6) (by decide);have k1:=D0.cell (i:=7) (by decide);have k2:=D0.cell (i:=8) (by decide);have f0:=D0.frozen 6;have f1:=D0.frozen 7;have f2:=D0.frozen 8;have fl:=D0.lt;have G0:=hid (RowI.mix (c:=8) (RowI.mix (c:=7) (RowI.mix (c:=6) D0 rfl rfl) rfl rfl) rfl rfl)
   have n1:w.heap.size+1≠w.heap.size:=by omega
   have n2:w.heap.size+2≠w.heap.size:=by omega
   have G1:=hid (((D1.other (a:=⟨w.heap.size,6,none⟩) n1 (.int .i64 (q 6))).other (a:=⟨w.heap.size,7,none⟩) n1 (.int .i64 (q 7))).other (a:=⟨w.heap.size,8,none⟩) n1 (.int .i64 (q 8)));have G2:=hid (((D2.other (a:=⟨w.heap.size,6,none⟩) n2 (.int .i64 (q 6))).other (a:=⟨w.heap.size,7,none⟩) n2 (.int .i64 (q 7))).other (a:=⟨w.heap.size,8,none⟩) n2 (.int .i64 (q 8)));have GX:=hid (show Ext w (((w3.setCell ⟨w.heap.size,6,none⟩ (q 6)).setCell ⟨w.heap.size,7,none⟩ (q 7)).setCell ⟨w.heap.size,8,none⟩ (q 8)) from S_);have hSC:=hid (fun a:Addr=>fun ha:C2e (w.heap.size+1) wr.heap.size a=>y3.block (show a.block<(wr.alloc (.cells #[(f 6),(f 7),(f 8)] 37)).heap.size by rcases ha with h|h <;> rw [h] <;> simp <;> omega));clear D0 D1 D2 X3 Y3 y3 x3 c0 c1 c2;refine sc_ fun K hK=>?_;go_wp2_with fail;refine hK _ _ (.inr (SC.blocks fun a ha=>?_)) ?_
   ·have hb:a.block≠w.heap.size:=by rcases ha with h|h <;> omega
    rw [Below.heap_setCell _ _ _ _ (by exact hb),Below.heap_setCell _ _ _ _ (by exact hb),Below.heap_setCell _ _ _ _ (by exact hb)];exact hSC.out a ha
   clear hK K;refine wpStagesS_nil ?_;go_wp2;go_roundw
   case rel=>exact ⟨3,9,rfl,by omega,by go_num,GX.out,G0.out,G1.out,G2.out⟩
   case measure=>simp [intOf]
  ·obtain rfl:c=9:=by omega
   clear hc;have c0:=H1.out.cell (i:=9) (by decide);have c1:=H1.out.cell (i:=10) (by decide);have c2:=H1.out.cell (i:=11) (by decide);go_wp2_with fail;refine wp_region_stagesS [([0,1,2,3,4,5,6,8],7),([9],10)] 99 (fun w'=>∃d,w'=lowc (C2e (w.heap.size+1) wr.heap.size) _ d) (by kernel_rfl) (by kernel_rfl) (SC.drew _ _) ?_;refine sc_ fun K hK=>?_;go_wp2_with fail;refine (iLerp_val (f 9) (f 10) (f 11) (g 9) (g 10) (g 11) t HT.out _).mono ?_;rintro e w3 ⟨rfl,x3⟩;rw [HQ.out 9,HQ.out 10,HQ.out 11];have y3:Ext (wr.alloc (.cells #[(f 9),(f 10),(f 11)] 37)) w3:=Ext.trans (Ext.drew (Ext.refl _)) x3;go_wp2_with fail;refine hK _ _ (.inr (SC.blocks fun a ha=>y3.block (by rcases ha with h|h <;> rw [h] <;> simp <;> omega))) ?_;clear hK K;have Y3:Ext wr w3:=Ext.trans (show Ext wr (wr.alloc (.cells #[(f 9),(f 10),(f 11)] 37)) from X_) y3;have D0:=H0.out.ext Y3;have D1:=H1.out.ext Y3;have D2:=H2.out.ext Y3;have X3:=HX.out.trans Y3;have k0:=D0.cell (i:=9) (by decide);have k1:=D0.cell (i:=10) (by decide);have k2:=D0.cell (i:=11) (by decide);have f0:=D0.frozen 9;have f1:=D0.frozen 10;have f2:=D0.frozen 11;have fl:=D0.lt;have G0:=hid (RowI.mix (c:=11) (RowI.mix (c:=10) (RowI.mix (c:=9) D0 rfl rfl) rfl rfl) rfl rfl)
   have n1:w.heap.size+1≠w.heap.size:=by omega
   have n2:w.heap.size+2≠w.heap.size:=by omega
   have G1:=hid (((D1.other (a:=⟨w.heap.size,9,none⟩) n1 (.int .i64 (q 9))).other (a:=⟨w.heap.size,10,none⟩) n1 (.int .i64 (q 10))).other (a:=⟨w.heap.size,11,none⟩) n1 (.int .i64 (q 11)));have G2:=hid (((D2.other (a:=⟨w.heap.size,9,none⟩) n2 (.int .i64 (q 9))).other (a:=⟨w.heap.size,10,none⟩) n2 (.int .i64 (q 10))).other (a:=⟨w.heap.size,11,none⟩) n2 (.int .i64 (q 11)));have GX:=hid (show Ext w (((w3.setCell ⟨w.heap.size,9,none⟩ (q 9)).setCell ⟨w.heap.size,10,none⟩ (q 10)).setCell ⟨w.heap.size,11,none⟩ (q 11)) from S_);have hSC:=hid (fun a:Addr=>fun ha:C2e (w.heap.size+1) wr.heap.size a=>y3.block (show a.block<(wr.alloc (.cells #[(f 9),(f 10),(f 11)] 37)).heap.size by rcases ha with h|h <;> rw [h] <;> simp <;> omega));clear D0 D1 D2 X3 Y3 y3 x3 c0 c1 c2;refine sc_ fun K hK=>?_;go_wp2_with fail;refine hK _ _ (.inr (SC.blocks fun a ha=>?_)) ?_
   ·have hb:a.block≠w.heap.size:=by rcases ha with h|h <;> omega
    rw [Below.heap_setCell _ _ _ _ (by exact hb),Below.heap_setCell _ _ _ _ (by exact hb),Below.heap_setCell _ _ _ _ (by exact hb)];exact hSC.out a ha
   clear hK K;refine wpStagesS_nil ?_;go_wp2;go_roundw
   case rel=>exact ⟨4,12,rfl,by omega,by go_num,GX.out,G0.out,G1.out,G2.out⟩
   case measure=>simp [intOf]
  ·obtain rfl:c=12:=by omega
   clear hc;have h0:=RowI.mixAll H0.out;have c0:=h0.cell (i:=0) (by decide);have d0:=H2.out.cell (i:=0) (by decide);have e0:=H2.out.frozen 0;have c1:=h0.cell (i:=1) (by decide);have d1:=H2.out.cell (i:=1) (by decide);have e1:=H2.out.frozen 1;have c2:=h0.cell (i:=2) (by decide);have d2:=H2.out.cell (i:=2) (by decide);have e2:=H2.out.frozen 2;have c3:=h0.cell (i:=3) (by decide);have d3:=H2.out.cell (i:=3) (by decide);have e3:=H2.out.frozen 3;have c4:=h0.cell (i:=4) (by decide);have d4:=H2.out.cell (i:=4) (by decide);have e4:=H2.out.frozen 4;have c5:=h0.cell (i:=5) (by decide);have d5:=H2.out.cell (i:=5) (by decide);have e5:=H2.out.frozen 5;have c6:=h0.cell (i:=6) (by decide);have d6:=H2.out.cell (i:=6) (by decide);have e6:=H2.out.frozen 6;have c7:=h0.cell (i:=7) (by decide);have d7:=H2.out.cell (i:=7) (by decide);have e7:=H2.out.frozen 7;have c8:=h0.cell (i:=8) (by decide);have d8:=H2.out.cell (i:=8) (by decide);have e8:=H2.out.frozen 8;have c9:=h0.cell (i:=9) (by decide);have d9:=H2.out.cell (i:=9) (by decide);have e9:=H2.out.frozen 9;have c10:=h0.cell (i:=10) (by decide);have d10:=H2.out.cell (i:=10) (by decide);have e10:=H2.out.frozen 10;have c11:=h0.cell (i:=11) (by decide);have d11:=H2.out.cell (i:=11) (by decide);have e11:=H2.out.frozen 11;have hE:=HX.out;clear h0;go_wp2;exact bodyPost_ret (v:=.agg #[(q 0),(q 1),(q 2),(q 3),(q 4),(q 5),(q 6),(q 7),(q 8),(q 9),(q 10),(q 11)]) (by simp [results,Tryz.results150,go_sem, *]) rfl ⟨rfl,S_⟩
theorem iSurfaceAt_val (f g:Nat->Int) (sh rt t:Int) (ht:0<=t/\t<=16) (w:World) :
  Calls Tryz.prog 92 #[.agg #[(f 0),(f 1),(f 2),(f 3),(f 4),(f 5),(f 6),(f 7),(f 8),(f 9),(f 10),(f 11),(g 0),(g 1),(g 2),(g 3),(g 4),(g 5),(g 6),(g 7),(g 8),(g 9),(g 10),(g 11),sh,rt],t] w fun e w'=>e = .returned (.agg #[(midP f g t 0),(midP f g t 1),(midP f g t 2),(midP f g t 3),(midP f g t 4),(midP f g t 5),(midP f g t 6),(midP f g t 7),(midP f g t 8),(midP f g t 9),(midP f g t 10),(midP f g t 11)])/\Ext w w':=by
 have HT:=hid ht;have q0:=Blk.new w 42 [(f 0),(f 1),(f 2),(f 3),(f 4),(f 5),(f 6),(f 7),(f 8),(f 9),(f 10),(f 11),(g 0),(g 1),(g 2),(g 3),(g 4),(g 5),(g 6),(g 7),(g 8),(g 9),(g 10),(g 11),sh,rt];have q1:=Blk.new (w.alloc (.cells #[(f 0),(f 1),(f 2),(f 3),(f 4),(f 5),(f 6),(f 7),(f 8),(f 9),(f 10),(f 11),(g 0),(g 1),(g 2),(g 3),(g 4),(g 5),(g 6),(g 7),(g 8),(g 9),(g 10),(g 11),sh,rt] 42)) 40 [(),(),(),(),(),(),(),(),(),(),(),()];rw [World.size_alloc] at q1;have R1:=hid q1;have X0:=hid (show Ext w ((w.alloc (.cells #[(f 0),(f 1),(f 2),(f 3),(f 4),(f 5),(f 6),(f 7),(f 8),(f 9),(f 10),(f 11),(g 0),(g 1),(g 2),(g 3),(g 4),(g 5),(g 6),(g 7),(g 8),(g 9),(g 10),(g 11),sh,rt] 42)).alloc (.cells #[(),(),(),(),(),(),(),(),(),(),(),()] 40)) from X_);clear q1 q0 ht;go_enter Tryz.func92,Tryz.ntmps92;go_wp2_with fail;refine (iMid_val f g t HT.out _).mono ?_;rintro e w1 ⟨rfl,x1⟩;have D:=R1.out.ext x1;have d0:=D.cell 0 rfl;have e0:=D.free 0;have d1:=D.cell 1 rfl;have e1:=D.free 1;have d2:=D.cell 2 rfl;have e2:=D.free 2;have d3:=D.cell 3 rfl;have e3:=D.free 3;have d4:=D.cell 4 rfl;have e4:=D.free 4;have d5:=D.cell 5 rfl;have e5:=D.free 5;have d6:=D.cell 6 rfl;have e6:=D.free 6;have d7:=D.cell 7 rfl;have e7:=D.free 7;have d8:=D.cell 8 rfl;have e8:=D.free 8;have d9:=D.cell 9 rfl;have e9:=D.free 9;have d10:=D.cell 10 rfl;have e10:=D.free 10;have d11:=D.cell 11 rfl;have e11:=D.free 11;have hE:=X0.out.trans x1;clear D;go_wp2;exact bodyPost_ret (v:=.agg #[(midP f g t 0),(midP f g t 1),(midP f g t 2),(midP f g t 3),(midP f g t 4),(midP f g t 5),(midP f g t 6),(midP f g t 7),(midP f g t 8),(midP f g t 9),(midP f g t 10),(midP f g t 11)]) (by simp [results,Tryz.results92,go_sem, *]) rfl ⟨rfl,S_⟩
theorem iDicePatch_any (c:Cam) (f:Nat->Int) (n:Nat) (s:Smp) (hn:1<=n/\n<=8) (w:World) :
  Calls Tryz.prog 91 #[.agg #[c.w,c.h,c.zoom,c.near,.bool c.deep,c.lens,c.focus],.agg #[(f 0),(f 1),(f 2),(f 3),(f 4),(f 5),(f 6),(f 7),(f 8),(f 9),(f 10),(f 11)],(n:Nat),s.lx,s.ly] w fun e w'=>∃r,e = .returned r/\OwnG Mc.cs w.heap.size 164 12 w' r (micsL c f n s)/\Ext w w':=by
 go_enter Tryz.func91,Tryz.ntmps91;go_wp2_with fail;refine (iDiceSub_any c f n s hn _).mono ?_;rintro e w1 ⟨r,rfl,hO,x1⟩;go_wp2;go_ret;exact ⟨r,rfl,OwnG.low hO (by simp;omega),Ext.trans X_ x1⟩
def V3.scr (v:V3):Prop:=(-100000<=v.x/\v.x<=100000)/\(-100000<=v.y/\v.y<=100000)
structure EdgeBox (w:World) (D A E:Nat) (a b:V3):Prop where
 ld:D<w.heap.size
 la:A<w.heap.size
 le:E<w.heap.size
 d:w.cell? ⟨D,0,none⟩=some (.int .i64 (b.x - a.x))
 a0:w.cell? ⟨A,0,none⟩=some (.int .i64 a.x)
 a1:w.cell? ⟨A,1,none⟩=some (.int .i64 a.y)
 e:w.cell? ⟨E,0,none⟩=some (.int .i64 (b.y - a.y))
theorem EdgeBox.ext {w w':World} {D A E:Nat} {a b:V3} (h:EdgeBox w D A E a b) (x:Ext w w'):EdgeBox w' D A E a b:=
 ⟨Nat.lt_of_lt_of_le h.ld x.size,Nat.lt_of_lt_of_le h.la x.size,Nat.lt_of_lt_of_le h.le x.size,(x.cells.1 _ _ h.ld).trans h.d,(x.cells.1 _ _ h.la).trans h.a0,(x.cells.1 _ _ h.la).trans h.a1,(x.cells.1 _ _ h.le).trans h.e⟩
theorem side2_bd {a b s:V3} (ha:a.scr) (hb:b.scr) (hs:s.scr) :
  (-40000000000<=(b.x - a.x)*(s.y - a.y)/\(b.x - a.x)*(s.y - a.y)<=40000000000)/\(-40000000000<=(b.y - a.y)*(s.x - a.x)/\(b.y - a.y)*(s.x - a.x)<=40000000000):=by
 obtain ⟨a1,a2⟩:=ha;obtain ⟨b1,b2⟩:=hb;obtain ⟨s1,s2⟩:=hs;exact ⟨mul_abs (A:=200000) (B:=200000) (by omega) (by omega),mul_abs (A:=200000) (B:=200000) (by omega) (by omega)⟩
theorem edgeFn_val (ax ay az bx by' bz:Int) (ha:V3.scr ⟨ax,ay,az⟩) (hb:V3.scr ⟨bx,by',bz⟩) (w:World) :
  Calls Tryz.prog 215 #[.agg #[ax,ay,az],.agg #[bx,by',bz]] w fun e w'=>∃D A E,e = .returned (.func (.func 263) #[] #[.pointer (some ⟨D,0,none⟩),.pointer (some ⟨A,0,none⟩),.pointer (some ⟨E,0,none⟩)])/\EdgeBox w' D A E ⟨ax,ay,az⟩ ⟨bx,by',bz⟩/\Ext w w':=by
 obtain ⟨a1,a2⟩:=ha;obtain ⟨b1,b2⟩:=hb;simp only at a1 a2 b1 b2;have hmf:∀(w:World) (D A E:Nat),(Instr.makeFunc (.func 263) #[] #[.pointer (some ⟨D,0,none⟩),.pointer (some ⟨A,0,none⟩),.pointer (some ⟨E,0,none⟩)]).run Tryz.prog w = .ok (.func (.func 263) #[] #[.pointer (some ⟨D,0,none⟩),.pointer (some ⟨A,0,none⟩),.pointer (some ⟨E,0,none⟩)]) w:=fun _ _ _ _=>rfl;go_enter Tryz.func215,Tryz.ntmps215;go_upto_region 1 with fail
 go_cut [5,6] from 7 to 16 (fun u v wx=>∃D E,u = .pointer (some ⟨D,0,none⟩)/\v = .pointer (some ⟨E,0,none⟩)/\Ext w wx/\D<wx.heap.size/\E<wx.heap.size/\w.heap.size<wx.heap.size/\wx.cell? ⟨w.heap.size,0,none⟩=some (.int .i64 ax)/\wx.cell? ⟨w.heap.size,1,none⟩=some (.int .i64 ay)/\wx.cell? ⟨D,0,none⟩=some (.int .i64 (bx - ax))/\wx.cell? ⟨E,0,none⟩=some (.int .i64 (by' - ay)))
 case first=>
  refine wp_region_Z 13 (w.heap.size+1+1) (by kernel_rfl) ?_;refine z2_ (fuel:=3) [0,1,2,3,4,5,6,7,8,9] 10 11 (fun _ _ _=>rfl) (fun K hK=>?_) fun K hK=>?_
  ·go_wp2
   refine hK _ _ (.inr (fun b _ hb=>Ext.block X_ (by simp;omega))) ?_;clear hK K;refine z1_ (fuel:=2) [] 11 (fun b _ hb=>Ext.block X_ (by simp;omega)) fun K hK=>?_;go_wp2;refine hK _ _ (.inr (fun b _ hb=>Ext.block X_ (by simp;omega))) ?_;clear hK K;refine z1_ (fuel:=1) [] 12 (fun b _ hb=>Ext.block X_ (by simp;omega)) fun K hK=>?_;go_wp2;refine hK _ _ (.inr (fun b _ hb=>Ext.block S_ (by simp;omega))) ?_;clear hK K;refine z1_ (fuel:=0) [] 13 (fun b _ hb=>Ext.block S_ (by simp;omega)) fun K hK=>?_;go_wp2;refine hK _ _ (.inl (by trivial)) ?_;clear hK K;refine wpZ_end (by kernel_rfl) ?_;go_wp2_with fail
   go_meet
   refine ⟨_,_,rfl,rfl,S_,by simp <;> omega,by simp <;> omega,by simp <;> omega,by simp [go_sem, *],by simp [go_sem, *],by simp [go_sem, *],by simp [go_sem, *]⟩
  ·go_wp2
   refine hK _ _ (.inr (fun b _ hb=>Ext.block X_ (by simp;omega))) ?_;clear hK K;refine z1_ (fuel:=2) [] 10 (fun b _ hb=>Ext.block X_ (by simp;omega)) fun K hK=>?_;go_wp2;refine hK _ _ (.inr (fun b _ hb=>Ext.block X_ (by simp;omega))) ?_;clear hK K;refine z1_ (fuel:=1) [] 12 (fun b _ hb=>Ext.block X_ (by simp;omega)) fun K hK=>?_;go_wp2;refine hK _ _ (.inr (fun b _ hb=>Ext.block S_ (by simp;omega))) ?_;clear hK K;refine z1_ (fuel:=0) [] 13 (fun b _ hb=>Ext.block S_ (by simp;omega)) fun K hK=>?_;go_wp2;refine hK _ _ (.inl (by trivial)) ?_;clear hK K;refine wpZ_end (by kernel_rfl) ?_;go_wp2_with fail
   go_meet
   refine ⟨_,_,rfl,rfl,S_,by simp <;> omega,by simp <;> omega,by simp <;> omega,by simp [go_sem, *],by simp [go_sem, *],by simp [go_sem, *],by simp [go_sem, *]⟩
 case rest=>
  obtain ⟨D,E,rfl,rfl,hE,l1,l2,l3,c0,c1,c2,c3⟩:=hcut;go_wp2;go_ret;exact ⟨_,_,_,rfl,⟨l1,l3,l2,c2,c0,c1,c3⟩,hE⟩
theorem edgeFn1_val {a b:V3} (sx sy sz:Int) {d:Int} (hd:side2 a b ⟨sx,sy,sz⟩=d) (ha:a.scr) (hb:b.scr) (hs:V3.scr ⟨sx,sy,sz⟩) {D A E:Nat} (w:World) (hE:EdgeBox w D A E a b) :
  Calls Tryz.prog 263 #[.agg #[sx,sy,sz],.pointer (some ⟨D,0,none⟩),.pointer (some ⟨A,0,none⟩),.pointer (some ⟨E,0,none⟩)] w fun e w'=>e = .returned (.int .i64 d)/\Ext w w':=by
 have q:=side2_bd ha hb hs;unfold side2 at hd;obtain ⟨a1,a2⟩:=ha;obtain ⟨b1,b2⟩:=hb;obtain ⟨s1,s2⟩:=hs;obtain ⟨x1,x2,x3,d0,d1,d2,d3⟩:=hE;obtain ⟨ax,ay,az⟩:=a;obtain ⟨bx,by',bz⟩:=b;simp only at hd q a1 a2 b1 b2 s1 s2 d0 d1 d2 d3
 obtain ⟨p1,e1⟩:∃n,(bx - ax)*(sy - ay)=n:=⟨_,rfl⟩
 obtain ⟨p2,e2⟩:∃n,(by' - ay)*(sx - ax)=n:=⟨_,rfl⟩
 rw [e1,e2] at hd q
 obtain ⟨u1,f1⟩:∃n,bx - ax=n:=⟨_,rfl⟩
 obtain ⟨u2,f2⟩:∃n,by' - ay=n:=⟨_,rfl⟩
 rw [f1] at d0 e1;rw [f2] at d3 e2;have HD:=hid hd;clear f1 f2 b1 b2 hd;go_enter Tryz.func263,Tryz.ntmps263;go_wp2;go_ret;exact ⟨ret_int HD.out,X_⟩
theorem scr_hid {v:V3} (h:v.scr):Hid v.scr:=h
theorem area_val (ax ay az bx by' bz cx cy cz:Int) (ha:V3.scr ⟨ax,ay,az⟩) (hb:V3.scr ⟨bx,by',bz⟩) (hc:V3.scr ⟨cx,cy,cz⟩) {d:Int} (hd:side2 ⟨ax,ay,az⟩ ⟨bx,by',bz⟩ ⟨cx,cy,cz⟩=d) (w:World):Calls Tryz.prog 216 #[.agg #[ax,ay,az,bx,by',bz,cx,cy,cz]] w fun e w'=>e = .returned (.int .i64 d)/\Ext w w':=by
 have Ha:=scr_hid ha;have Hb:=scr_hid hb;have Hc:=scr_hid hc;have HD:=hid hd;have y0:Ext w (w.alloc (.cells #[ax,ay,az,bx,by',bz,cx,cy,cz] 162)):=X_;have Y0:=hid y0;clear ha hb hc hd y0;go_enter Tryz.func216,Tryz.ntmps216;go_wp2_with fail;refine wp_region_stages [([0,1,2,3,4,5,7,8,9],6),([],10),([],11)] 11 (w.heap.size+1) (by kernel_rfl) (by kernel_rfl) ?_;refine st_ fun K hK=>?_;go_wp2_with fail;refine (edgeFn_val ax ay az bx by' bz Ha.out Hb.out _).mono ?_;rintro e w1 ⟨D,A,E,rfl,hE,x1⟩;have y1:Ext (w.alloc (.cells #[ax,ay,az,bx,by',bz,cx,cy,cz] 162)) w1:=Ext.trans (Ext.drew (Ext.refl _)) x1;go_wp2_with fail;refine hK _ _ (.inr (y1.same (by rw [World.size_alloc];exact Nat.le_refl _))) ?_;clear hK K;refine st_ fun K hK=>?_;go_wp2_with fail;refine (edgeFn1_val cx cy cz HD.out Ha.out Hb.out Hc.out _ hE).mono ?_;rintro e w2 ⟨rfl,x2⟩;have y2:=y1.trans x2;go_wp2_with fail;refine hK _ _ (.inr (y2.same (by rw [World.size_alloc];exact Nat.le_refl _))) ?_;clear hK K;refine st_ fun K hK=>?_;go_wp2_with fail;refine hK _ _ (.inl (by trivial)) ?_;clear hK K;refine wpStages_nil ?_;go_wp2;go_ret;exact ⟨rfl,Y0.out.trans y2⟩
theorem leftB_iff {a b s:V3}:leftB a b s=true↔(0<side2 a b s\/side2 a b s=0/\(b.y<a.y\/b.y=a.y/\a.x<b.x)):=by
 unfold leftB;simp only [Bool.or_eq_true,decide_eq_true_eq,Bool.and_eq_true,beq_iff_eq]
structure TBox9 (w:World) (B:Nat) (a b c:V3):Prop where
 lt:B<w.heap.size
 c0:w.cell? ⟨B,0,none⟩=some (.int .i64 a.x)
 c1:w.cell? ⟨B,1,none⟩=some (.int .i64 a.y)
 c2:w.cell? ⟨B,2,none⟩=some (.int .i64 a.z)
 c3:w.cell? ⟨B,3,none⟩=some (.int .i64 b.x)
 c4:w.cell? ⟨B,4,none⟩=some (.int .i64 b.y)
 c5:w.cell? ⟨B,5,none⟩=some (.int .i64 b.z)
 c6:w.cell? ⟨B,6,none⟩=some (.int .i64 c.x)
 c7:w.cell? ⟨B,7,none⟩=some (.int .i64 c.y)
 c8:w.cell? ⟨B,8,none⟩=some (.int .i64 c.z)
theorem TBox9.ext {w w':World} {B:Nat} {a b c:V3} (h:TBox9 w B a b c) (x:Ext w w'):TBox9 w' B a b c:=
 ⟨Nat.lt_of_lt_of_le h.lt x.size,(x.cells.1 _ _ h.lt).trans h.c0,(x.cells.1 _ _ h.lt).trans h.c1,(x.cells.1 _ _ h.lt).trans h.c2,(x.cells.1 _ _ h.lt).trans h.c3,(x.cells.1 _ _ h.lt).trans h.c4,(x.cells.1 _ _ h.lt).trans h.c5,(x.cells.1 _ _ h.lt).trans h.c6,(x.cells.1 _ _ h.lt).trans h.c7,(x.cells.1 _ _ h.lt).trans h.c8⟩
structure VBox3 (w:World) (B:Nat) (s:V3):Prop where
 lt:B<w.heap.size
 c0:w.cell? ⟨B,0,none⟩=some (.int .i64 s.x)
 c1:w.cell? ⟨B,1,none⟩=some (.int .i64 s.y)
 c2:w.cell? ⟨B,2,none⟩=some (.int .i64 s.z)
theorem VBox3.ext {w w':World} {B:Nat} {s:V3} (h:VBox3 w B s) (x:Ext w w'):VBox3 w' B s:=
 ⟨Nat.lt_of_lt_of_le h.lt x.size,(x.cells.1 _ _ h.lt).trans h.c0,(x.cells.1 _ _ h.lt).trans h.c1,(x.cells.1 _ _ h.lt).trans h.c2⟩
theorem y_ways (px py qx qy:Int):decide (qy<py)=true\/(decide (qy<py)=false/\(qy==py)=true/\decide (px<qx)=true)\/(decide (qy<py)=false/\(qy==py)=true/\decide (px<qx)=false)\/(decide (qy<py)=false/\(qy==py)=false):=by
 simp only [decide_eq_true_eq,decide_eq_false_iff_not,beq_iff_eq,beq_eq_false_iff_ne];omega
theorem d_ways (d:Int):decide (d<0)=true\/(decide (d<0)=false/\(d==0)=true)\/(decide (d<0)=false/\(d==0)=false):=by
 simp only [decide_eq_true_eq,decide_eq_false_iff_not,beq_iff_eq,beq_eq_false_iff_ne];omega
theorem left_val {px py pz qx qy qz:Int} {s:V3} {d:Int} (hd:side2 ⟨px,py,pz⟩ ⟨qx,qy,qz⟩ s=d):leftB ⟨px,py,pz⟩ ⟨qx,qy,qz⟩ s=(!(decide (d<0)||((d==0) && !(decide (qy<py)||((qy==py)&&decide (px<qx)))))):=by
 unfold leftB;rw [hd];simp only
 by_cases h1:d<0
 ·simp [h1];omega
 ·by_cases h2:d=0
  ·subst h2;simp
  ·have h3:0<d:=by omega
   simp [h1,h2,h3]
theorem TBox9.of {w:World} {B:Nat} {a b c:V3} {t:TypeId} (h:Blk w B t [a.x,a.y,a.z,b.x,b.y,b.z,c.x,c.y,c.z]):TBox9 w B a b c:=
 ⟨h.lt,h.cell 0 rfl,h.cell 1 rfl,h.cell 2 rfl,h.cell 3 rfl,h.cell 4 rfl,h.cell 5 rfl,h.cell 6 rfl,h.cell 7 rfl,h.cell 8 rfl⟩
theorem VBox3.of {w:World} {B:Nat} {s:V3} {t:TypeId} (h:Blk w B t [s.x,s.y,s.z]):VBox3 w B s:=⟨h.lt,h.cell 0 rfl,h.cell 1 rfl,h.cell 2 rfl⟩
theorem covers_pos (ax ay az bx by' bz cx cy cz:Int) (ha:V3.scr ⟨ax,ay,az⟩) (hb:V3.scr ⟨bx,by',bz⟩) (hc:V3.scr ⟨cx,cy,cz⟩) (sx sy sz:Int) (hs:V3.scr ⟨sx,sy,sz⟩) {r:Bool} (hp:0<side2 ⟨ax,ay,az⟩ ⟨bx,by',bz⟩ ⟨cx,cy,cz⟩) (hr:(leftB ⟨ax,ay,az⟩ ⟨bx,by',bz⟩ ⟨sx,sy,sz⟩&&leftB ⟨bx,by',bz⟩ ⟨cx,cy,cz⟩ ⟨sx,sy,sz⟩&&leftB ⟨cx,cy,cz⟩ ⟨ax,ay,az⟩ ⟨sx,sy,sz⟩)=r) (w:World):Calls Tryz.prog 212 #[.agg #[ax,ay,az,bx,by',bz,cx,cy,cz],.agg #[sx,sy,sz]] w fun e w'=>e = .returned (.bool r)/\Ext w w':=by
 have Ha:=scr_hid ha;have Hb:=scr_hid hb;have Hc:=scr_hid hc;have Hs:=scr_hid hs
 obtain ⟨d0,hd0⟩:∃d,side2 ⟨ax,ay,az⟩ ⟨bx,by',bz⟩ ⟨cx,cy,cz⟩=d:=⟨_,rfl⟩
 have HA:=hid hd0
 have i0:∀w:World,(Instr.index 160 (.agg #[ax,ay,az,bx,by',bz,cx,cy,cz]) (.int .i64 0)).run Tryz.prog w = .ok (.agg #[ax,ay,az]) w:=fun _=>by kernel_rfl
 have i1:∀w:World,(Instr.index 160 (.agg #[ax,ay,az,bx,by',bz,cx,cy,cz]) (.int .i64 1)).run Tryz.prog w = .ok (.agg #[bx,by',bz]) w:=fun _=>by kernel_rfl
 have i2:∀w:World,(Instr.index 160 (.agg #[ax,ay,az,bx,by',bz,cx,cy,cz]) (.int .i64 2)).run Tryz.prog w = .ok (.agg #[cx,cy,cz]) w:=fun _=>by kernel_rfl
 have HR:=hid hr;rw [hd0] at hp;clear ha hb hc hs hr hd0
 have z1:(d0==0)=false:=by rw [beq_eq_false_iff_ne];omega
 have z2:decide (d0<0)=false:=by rw [decide_eq_false_iff_not];omega
 have hb0:=Blk.new w 162 [ax,ay,az,bx,by',bz,cx,cy,cz];have hb1:=Blk.new (w.alloc (.cells #[ax,ay,az,bx,by',bz,cx,cy,cz] 162)) 37 [sx,sy,sz];rw [World.size_alloc] at hb1;have y0:Ext w ((w.alloc (.cells #[ax,ay,az,bx,by',bz,cx,cy,cz] 162)).alloc (.cells #[sx,sy,sz] 37)):=X_;have B0:=hid (hb0.alloc (.cells #[sx,sy,sz] 37));have B1:=hid hb1;have Y0:=hid y0;clear hb0 hb1 y0;go_enter Tryz.func212,Tryz.ntmps212;go_wp2_with fail;refine (area_val ax ay az bx by' bz cx cy cz Ha.out Hb.out Hc.out HA.out _).mono ?_;rintro e w1 ⟨rfl,x1⟩;have q0:=hid (B0.out.ext x1);have q1:=hid (B1.out.ext x1);have X1:=hid (Y0.out.trans x1);clear x1 B0 B1 Y0;have Q0:=hid (TBox9.of (a:=⟨ax,ay,az⟩) (b:=⟨bx,by',bz⟩) (c:=⟨cx,cy,cz⟩) q0.out);have Q1:=hid (VBox3.of (s:=⟨sx,sy,sz⟩) q1.out);have t0:=Q0.out.lt;have u0:=Q0.out.c0;have u1:=Q0.out.c1;have u2:=Q0.out.c2;have u3:=Q0.out.c3;have u4:=Q0.out.c4;have u5:=Q0.out.c5;have u6:=Q0.out.c6;have u7:=Q0.out.c7;have u8:=Q0.out.c8;simp only at u0 u1 u2 u3 u4 u5 u6 u7 u8;go_wp2;clear u0 u1 u2 u3 u4 u5 u6 u7 u8
 go_loopw [31] (fun i wr=>∃k:Nat,k<=3/\i = .int .i64 (k:Nat)/\Ext w1 wr/\(0<k->leftB ⟨ax,ay,az⟩ ⟨bx,by',bz⟩ ⟨sx,sy,sz⟩=true)/\(1<k->leftB ⟨bx,by',bz⟩ ⟨cx,cy,cz⟩ ⟨sx,sy,sz⟩=true)/\(2<k->leftB ⟨cx,cy,cz⟩ ⟨ax,ay,az⟩ ⟨sx,sy,sz⟩=true)) (fun i _=>3 - (intOf i).toNat)
 case atStart=>exact ⟨0,by omega,rfl,Ext.refl _,fun h=>absurd h (by omega),fun h=>absurd h (by omega),fun h=>absurd h (by omega)⟩
 case round=>
  obtain ⟨k,hk,rfl,hx,g0,g1,g2⟩:=hrel;have HX:=hid hx;have G0:=hid g0;have G1:=hid g1;have G2:=hid g2;have hB:=Q0.out.ext hx;have hS:=Q1.out.ext hx;have t0:=hB.c0;have t1:=hB.c1;have t2:=hB.c2;have t3:=hB.c3;have t4:=hB.c4;have t5:=hB.c5;have t6:=hB.c6;have t7:=hB.c7;have t8:=hB.c8;have u0:=hS.c0;have u1:=hS.c1;have u2:=hS.c2;have zb:=hB.lt;have zs:=hS.lt;simp only at t0 t1 t2 t3 t4 t5 t6 t7 t8 u0 u1 u2;clear hx g0 g1 g2 hB hS
  rcases (show k=0\/k=1\/k=2\/k=3 by omega) with rfl|rfl|rfl|rfl
  ·obtain ⟨d,hd⟩:∃d,side2 ⟨ax,ay,az⟩ ⟨bx,by',bz⟩ ⟨sx,sy,sz⟩=d:=⟨_,rfl⟩
   have HD:=hid hd;clear hd;go_wp2_with fail;refine wp_region_stages [([0,1,3],2),([],4),([],5)] 5 (wr.heap.size+1+1) (by kernel_rfl) (by kernel_rfl) ?_;refine st_ fun K hK=>?_;go_wp2_with fail;refine (edgeFn_val ax ay az bx by' bz Ha.out Hb.out _).mono ?_;rintro e w3 ⟨D,A,E,rfl,hE,x3⟩;have y3:Ext ((wr.alloc (.cells #[ax,ay,az] 37)).alloc (.cells #[bx,by',bz] 37)) w3:=Ext.trans (Ext.drew (Ext.refl _)) x3;go_wp2_with fail;refine hK _ _ (.inr (y3.same (by simp))) ?_;clear hK K;refine st_ fun K hK=>?_;go_wp2_with fail;refine (edgeFn1_val sx sy sz HD.out Ha.out Hb.out Hs.out _ hE).mono ?_;rintro e w4 ⟨rfl,x4⟩;have y4:=y3.trans x4;go_wp2_with fail;refine hK _ _ (.inr (y4.same (by simp))) ?_;clear hK K;refine st_ fun K hK=>?_;go_wp2_with fail;refine hK _ _ (.inl (by trivial)) ?_;clear hK K;refine wpStages_nil ?_;have ba:=(Blk.new wr 37 [ax,ay,az]).ext (Ext.trans ((Ext.refl _).alloc (.cells #[bx,by',bz] 37)) y4);have bb:=(Blk.new (wr.alloc (.cells #[ax,ay,az] 37)) 37 [bx,by',bz]).ext y4;rw [World.size_alloc] at bb;obtain ⟨m0,m1⟩:=ba.q2;obtain ⟨n0,n1⟩:=bb.q2;have l0:=ba.lt;have l1:=bb.lt;have HX4:=hid (HX.out.trans (Ext.trans (show Ext wr ((wr.alloc (.cells #[ax,ay,az] 37)).alloc (.cells #[bx,by',bz] 37)) from X_) y4));have lv:=left_val HD.out;clear t0 t1 t2 t3 t4 t5 t6 t7 t8 u0 u1 u2 y3 y4 x3 x4 hE ba bb
   rcases y_ways ax ay bx by' with e1|⟨e1,e2,e3⟩|⟨e1,e2,e3⟩|⟨e1,e2⟩ <;> rcases d_ways d with s1|⟨s1,s2⟩|⟨s1,s2⟩
   all_goals (try rw [e1] at lv);(try rw [e2] at lv);(try rw [e3] at lv);(try rw [s1] at lv);(try rw [s2] at lv)
   all_goals first|(have LV:=hid (lv.trans (show _=true from rfl));clear lv;go_wp2;go_roundw;(case rel=>exact ⟨1,by omega,by go_num,HX4.out,fun _=>LV.out,fun h=>absurd h (by omega),fun h=>absurd h (by omega)⟩);(case measure=>simp [intOf]))|(have LV:=hid (lv.trans (show _=false from rfl));clear lv;go_wp2;go_ret;exact ⟨ret_bool (by rw [<-HR.out];simp [LV.out]),X1.out.trans HX4.out⟩)
  ·obtain ⟨d,hd⟩:∃d,side2 ⟨bx,by',bz⟩ ⟨cx,cy,cz⟩ ⟨sx,sy,sz⟩=d:=⟨_,rfl⟩
   have HD:=hid hd;clear hd;go_wp2_with fail;refine wp_region_stages [([0,1,3],2),([],4),([],5)] 5 (wr.heap.size+1+1) (by kernel_rfl) (by kernel_rfl) ?_;refine st_ fun K hK=>?_;go_wp2_with fail;refine (edgeFn_val bx by' bz cx cy cz Hb.out Hc.out _).mono ?_;rintro e w3 ⟨D,A,E,rfl,hE,x3⟩;have y3:Ext ((wr.alloc (.cells #[bx,by',bz] 37)).alloc (.cells #[cx,cy,cz] 37)) w3:=Ext.trans (Ext.drew (Ext.refl _)) x3;go_wp2_with fail;refine hK _ _ (.inr (y3.same (by simp))) ?_;clear hK K;refine st_ fun K hK=>?_;go_wp2_with fail;refine (edgeFn1_val sx sy sz HD.out Hb.out Hc.out Hs.out _ hE).mono ?_;rintro e w4 ⟨rfl,x4⟩;have y4:=y3.trans x4;go_wp2_with fail;refine hK _ _ (.inr (y4.same (by simp))) ?_;clear hK K;refine st_ fun K hK=>?_;go_wp2_with fail;refine hK _ _ (.inl (by trivial)) ?_;clear hK K;refine wpStages_nil ?_;have ba:=(Blk.new wr 37 [bx,by',bz]).ext (Ext.trans ((Ext.refl _).alloc (.cells #[cx,cy,cz] 37)) y4);have bb:=(Blk.new (wr.alloc (.cells #[bx,by',bz] 37)) 37 [cx,cy,cz]).ext y4;rw [World.size_alloc] at bb;obtain ⟨m0,m1⟩:=ba.q2;obtain ⟨n0,n1⟩:=bb.q2;have l0:=ba.lt;have l1:=bb.lt;have HX4:=hid (HX.out.trans (Ext.trans (show Ext wr ((wr.alloc (.cells #[bx,by',bz] 37)).alloc (.cells #[cx,cy,cz] 37)) from X_) y4));have lv:=left_val HD.out;clear t0 t1 t2 t3 t4 t5 t6 t7 t8 u0 u1 u2 y3 y4 x3 x4 hE ba bb
   rcases y_ways bx by' cx cy with e1|⟨e1,e2,e3⟩|⟨e1,e2,e3⟩|⟨e1,e2⟩ <;> rcases d_ways d with s1|⟨s1,s2⟩|⟨s1,s2⟩
   all_goals (try rw [e1] at lv);(try rw [e2] at lv);(try rw [e3] at lv);(try rw [s1] at lv);(try rw [s2] at lv)
   all_goals first|(have LV:=hid (lv.trans (show _=true from rfl));clear lv;go_wp2;go_roundw;(case rel=>exact ⟨2,by omega,by go_num,HX4.out,fun _=>G0.out (by omega),fun _=>LV.out,fun h=>absurd h (by omega)⟩);(case measure=>simp [intOf]))|(have LV:=hid (lv.trans (show _=false from rfl));clear lv;go_wp2;go_ret;exact ⟨ret_bool (by rw [<-HR.out];simp [LV.out]),X1.out.trans HX4.out⟩)
  ·obtain ⟨d,hd⟩:∃d,side2 ⟨cx,cy,cz⟩ ⟨ax,ay,az⟩ ⟨sx,sy,sz⟩=d:=⟨_,rfl⟩
   have HD:=hid hd;clear hd;go_wp2_with fail;refine wp_region_stages [([0,1,3],2),([],4),([],5)] 5 (wr.heap.size+1+1) (by kernel_rfl) (by kernel_rfl) ?_;refine st_ fun K hK=>?_;go_wp2_with fail;refine (edgeFn_val cx cy cz ax ay az Hc.out Ha.out _).mono ?_;rintro e w3 ⟨D,A,E,rfl,hE,x3⟩;have y3:Ext ((wr.alloc (.cells #[cx,cy,cz] 37)).alloc (.cells #[ax,ay,az] 37)) w3:=Ext.trans (Ext.drew (Ext.refl _)) x3;go_wp2_with fail;refine hK _ _ (.inr (y3.same (by simp))) ?_;clear hK K;refine st_ fun K hK=>?_;go_wp2_with fail;refine (edgeFn1_val sx sy sz HD.out Hc.out Ha.out Hs.out _ hE).mono ?_;rintro e w4 ⟨rfl,x4⟩;have y4:=y3.trans x4;go_wp2_with fail;refine hK _ _ (.inr (y4.same (by simp))) ?_;clear hK K;refine st_ fun K hK=>?_;go_wp2_with fail;refine hK _ _ (.inl (by trivial)) ?_;clear hK K;refine wpStages_nil ?_;have ba:=(Blk.new wr 37 [cx,cy,cz]).ext (Ext.trans ((Ext.refl _).alloc (.cells #[ax,ay,az] 37)) y4);have bb:=(Blk.new (wr.alloc (.cells #[cx,cy,cz] 37)) 37 [ax,ay,az]).ext y4;rw [World.size_alloc] at bb;obtain ⟨m0,m1⟩:=ba.q2;obtain ⟨n0,n1⟩:=bb.q2;have l0:=ba.lt;have l1:=bb.lt;have HX4:=hid (HX.out.trans (Ext.trans (show Ext wr ((wr.alloc (.cells #[cx,cy,cz] 37)).alloc (.cells #[ax,ay,az] 37)) from X_) y4));have lv:=left_val HD.out;clear t0 t1 t2 t3 t4 t5 t6 t7 t8 u0 u1 u2 y3 y4 x3 x4 hE ba bb
   rcases y_ways cx cy ax ay with e1|⟨e1,e2,e3⟩|⟨e1,e2,e3⟩|⟨e1,e2⟩ <;> rcases d_ways d with s1|⟨s1,s2⟩|⟨s1,s2⟩
   all_goals (try rw [e1] at lv);(try rw [e2] at lv);(try rw [e3] at lv);(try rw [s1] at lv);(try rw [s2] at lv)
   all_goals first|(have LV:=hid (lv.trans (show _=true from rfl));clear lv;go_wp2;go_roundw;(case rel=>exact ⟨3,by omega,by go_num,HX4.out,fun _=>G0.out (by omega),fun _=>G1.out (by omega),fun _=>LV.out⟩);(case measure=>simp [intOf]))|(have LV:=hid (lv.trans (show _=false from rfl));clear lv;go_wp2;go_ret;exact ⟨ret_bool (by rw [<-HR.out];simp [LV.out]),X1.out.trans HX4.out⟩)
  ·go_wp2
   go_ret;exact ⟨ret_bool (by rw [<-HR.out,G0.out (by omega),G1.out (by omega),G2.out (by omega)];rfl),X1.out.trans HX.out⟩
theorem covers_neg (ax ay az bx by' bz cx cy cz:Int) (ha:V3.scr ⟨ax,ay,az⟩) (hb:V3.scr ⟨bx,by',bz⟩) (hc:V3.scr ⟨cx,cy,cz⟩) (sx sy sz:Int) (hs:V3.scr ⟨sx,sy,sz⟩) {r:Bool} (hp:side2 ⟨ax,ay,az⟩ ⟨bx,by',bz⟩ ⟨cx,cy,cz⟩<0) (hr:(leftB ⟨ax,ay,az⟩ ⟨cx,cy,cz⟩ ⟨sx,sy,sz⟩&&leftB ⟨cx,cy,cz⟩ ⟨bx,by',bz⟩ ⟨sx,sy,sz⟩&&leftB ⟨bx,by',bz⟩ ⟨ax,ay,az⟩ ⟨sx,sy,sz⟩)=r) (w:World):Calls Tryz.prog 212 #[.agg #[ax,ay,az,bx,by',bz,cx,cy,cz],.agg #[sx,sy,sz]] w fun e w'=>e = .returned (.bool r)/\Ext w w':=by
 have Ha:=scr_hid ha;have Hb:=scr_hid hb;have Hc:=scr_hid hc;have Hs:=scr_hid hs
 obtain ⟨d0,hd0⟩:∃d,side2 ⟨ax,ay,az⟩ ⟨bx,by',bz⟩ ⟨cx,cy,cz⟩=d:=⟨_,rfl⟩
 have HA:=hid hd0
 have i0:∀w:World,(Instr.index 160 (.agg #[ax,ay,az,cx,cy,cz,bx,by',bz]) (.int .i64 0)).run Tryz.prog w = .ok (.agg #[ax,ay,az]) w:=fun _=>by kernel_rfl
 have i1:∀w:World,(Instr.index 160 (.agg #[ax,ay,az,cx,cy,cz,bx,by',bz]) (.int .i64 1)).run Tryz.prog w = .ok (.agg #[cx,cy,cz]) w:=fun _=>by kernel_rfl
 have i2:∀w:World,(Instr.index 160 (.agg #[ax,ay,az,cx,cy,cz,bx,by',bz]) (.int .i64 2)).run Tryz.prog w = .ok (.agg #[bx,by',bz]) w:=fun _=>by kernel_rfl
 have HR:=hid hr;rw [hd0] at hp;clear ha hb hc hs hr hd0
 have z1:(d0==0)=false:=by rw [beq_eq_false_iff_ne];omega
 have z2:decide (d0<0)=true:=by rw [decide_eq_true_eq];omega
 have hb0:=Blk.new w 162 [ax,ay,az,bx,by',bz,cx,cy,cz];have hb1:=Blk.new (w.alloc (.cells #[ax,ay,az,bx,by',bz,cx,cy,cz] 162)) 37 [sx,sy,sz];rw [World.size_alloc] at hb1;have y0:Ext w ((w.alloc (.cells #[ax,ay,az,bx,by',bz,cx,cy,cz] 162)).alloc (.cells #[sx,sy,sz] 37)):=X_;have B0:=hid (hb0.alloc (.cells #[sx,sy,sz] 37));have B1:=hid hb1;have Y0:=hid y0;clear hb0 hb1 y0;go_enter Tryz.func212,Tryz.ntmps212;go_wp2_with fail;refine (area_val ax ay az bx by' bz cx cy cz Ha.out Hb.out Hc.out HA.out _).mono ?_;rintro e w1 ⟨rfl,x1⟩;have q0:=hid (B0.out.ext x1);have q1:=hid (B1.out.ext x1);have X1:=hid (Y0.out.trans x1);clear x1 B0 B1 Y0;have Q0:=hid (TBox9.of (a:=⟨ax,ay,az⟩) (b:=⟨bx,by',bz⟩) (c:=⟨cx,cy,cz⟩) q0.out);have Q1:=hid (VBox3.of (s:=⟨sx,sy,sz⟩) q1.out);have t0:=Q0.out.lt;have u0:=Q0.out.c0;have u1:=Q0.out.c1;have u2:=Q0.out.c2;have u3:=Q0.out.c3;have u4:=Q0.out.c4;have u5:=Q0.out.c5;have u6:=Q0.out.c6;have u7:=Q0.out.c7;have u8:=Q0.out.c8;have v3:=q0.out.free 3;have v4:=q0.out.free 4;have v5:=q0.out.free 5;have v6:=q0.out.free 6;have v7:=q0.out.free 7;have v8:=q0.out.free 8;simp only at u0 u1 u2 u3 u4 u5 u6 u7 u8;have X2:=hid (show Ext w ((((((w1.setCell ⟨w.heap.size,3,none⟩ cx).setCell ⟨w.heap.size,4,none⟩ cy).setCell ⟨w.heap.size,5,none⟩ cz).setCell ⟨w.heap.size,6,none⟩ bx).setCell ⟨w.heap.size,7,none⟩ by').setCell ⟨w.heap.size,8,none⟩ bz) from by have hX:=X1.out;exact S_);have P0:=hid (TBox9.of (a:=⟨ax,ay,az⟩) (b:=⟨cx,cy,cz⟩) (c:=⟨bx,by',bz⟩) ((((((q0.out.set 3 (.int .i64 cx)).set 4 (.int .i64 cy)).set 5 (.int .i64 cz)).set 6 (.int .i64 bx)).set 7 (.int .i64 by')).set 8 (.int .i64 bz)))
 have ne1:w.heap.size+1≠w.heap.size:=by omega
 have P1:=hid (VBox3.of (s:=⟨sx,sy,sz⟩) ((((((q1.out.other (a:=⟨w.heap.size,3,none⟩) ne1 (.int .i64 cx)).other (a:=⟨w.heap.size,4,none⟩) ne1 (.int .i64 cy)).other (a:=⟨w.heap.size,5,none⟩) ne1 (.int .i64 cz)).other (a:=⟨w.heap.size,6,none⟩) ne1 (.int .i64 bx)).other (a:=⟨w.heap.size,7,none⟩) ne1 (.int .i64 by')).other (a:=⟨w.heap.size,8,none⟩) ne1 (.int .i64 bz)));go_wp2;clear u0 u1 u2 u3 u4 u5 u6 u7 u8 v3 v4 v5 v6 v7 v8 q0 q1 Q0 Q1 t0 X1
 obtain ⟨wq,hwq⟩:∃wq,((((((w1.setCell ⟨w.heap.size,3,none⟩ cx).setCell ⟨w.heap.size,4,none⟩ cy).setCell ⟨w.heap.size,5,none⟩ cz).setCell ⟨w.heap.size,6,none⟩ bx).setCell ⟨w.heap.size,7,none⟩ by').setCell ⟨w.heap.size,8,none⟩ bz)=wq:=⟨_,rfl⟩
 rw [hwq] at X2 P0 P1 ⊢;have X1:=hid X2.out;clear hwq X2
 go_loopw [31] (fun i wr=>∃k:Nat,k<=3/\i = .int .i64 (k:Nat)/\Ext wq wr/\(0<k->leftB ⟨ax,ay,az⟩ ⟨cx,cy,cz⟩ ⟨sx,sy,sz⟩=true)/\(1<k->leftB ⟨cx,cy,cz⟩ ⟨bx,by',bz⟩ ⟨sx,sy,sz⟩=true)/\(2<k->leftB ⟨bx,by',bz⟩ ⟨ax,ay,az⟩ ⟨sx,sy,sz⟩=true)) (fun i _=>3 - (intOf i).toNat)
 case atStart=>exact ⟨0,by omega,rfl,Ext.refl _,fun h=>absurd h (by omega),fun h=>absurd h (by omega),fun h=>absurd h (by omega)⟩
 case round=>
  obtain ⟨k,hk,rfl,hx,g0,g1,g2⟩:=hrel;have HX:=hid hx;have G0:=hid g0;have G1:=hid g1;have G2:=hid g2;have hB:=P0.out.ext hx;have hS:=P1.out.ext hx;have t0:=hB.c0;have t1:=hB.c1;have t2:=hB.c2;have t3:=hB.c3;have t4:=hB.c4;have t5:=hB.c5;have t6:=hB.c6;have t7:=hB.c7;have t8:=hB.c8;have u0:=hS.c0;have u1:=hS.c1;have u2:=hS.c2;have zb:=hB.lt;have zs:=hS.lt;simp only at t0 t1 t2 t3 t4 t5 t6 t7 t8 u0 u1 u2;clear hx g0 g1 g2 hB hS
  rcases (show k=0\/k=1\/k=2\/k=3 by omega) with rfl|rfl|rfl|rfl
  ·obtain ⟨d,hd⟩:∃d,side2 ⟨ax,ay,az⟩ ⟨cx,cy,cz⟩ ⟨sx,sy,sz⟩=d:=⟨_,rfl⟩
   have HD:=hid hd;clear hd;go_wp2_with fail;refine wp_region_stages [([0,1,3],2),([],4),([],5)] 5 (wr.heap.size+1+1) (by kernel_rfl) (by kernel_rfl) ?_;refine st_ fun K hK=>?_;go_wp2_with fail;refine (edgeFn_val ax ay az cx cy cz Ha.out Hc.out _).mono ?_;rintro e w3 ⟨D,A,E,rfl,hE,x3⟩;have y3:Ext ((wr.alloc (.cells #[ax,ay,az] 37)).alloc (.cells #[cx,cy,cz] 37)) w3:=Ext.trans (Ext.drew (Ext.refl _)) x3;go_wp2_with fail;refine hK _ _ (.inr (y3.same (by simp))) ?_;clear hK K;refine st_ fun K hK=>?_;go_wp2_with fail;refine (edgeFn1_val sx sy sz HD.out Ha.out Hc.out Hs.out _ hE).mono ?_;rintro e w4 ⟨rfl,x4⟩;have y4:=y3.trans x4;go_wp2_with fail;refine hK _ _ (.inr (y4.same (by simp))) ?_;clear hK K;refine st_ fun K hK=>?_;go_wp2_with fail;refine hK _ _ (.inl (by trivial)) ?_;clear hK K;refine wpStages_nil ?_;have ba:=(Blk.new wr 37 [ax,ay,az]).ext (Ext.trans ((Ext.refl _).alloc (.cells #[cx,cy,cz] 37)) y4);have bb:=(Blk.new (wr.alloc (.cells #[ax,ay,az] 37)) 37 [cx,cy,cz]).ext y4;rw [World.size_alloc] at bb;obtain ⟨m0,m1⟩:=ba.q2;obtain ⟨n0,n1⟩:=bb.q2;have l0:=ba.lt;have l1:=bb.lt;have HX4:=hid (HX.out.trans (Ext.trans (show Ext wr ((wr.alloc (.cells #[ax,ay,az] 37)).alloc (.cells #[cx,cy,cz] 37)) from X_) y4));have lv:=left_val HD.out;clear t0 t1 t2 t3 t4 t5 t6 t7 t8 u0 u1 u2 y3 y4 x3 x4 hE ba bb
   rcases y_ways ax ay cx cy with e1|⟨e1,e2,e3⟩|⟨e1,e2,e3⟩|⟨e1,e2⟩ <;> rcases d_ways d with s1|⟨s1,s2⟩|⟨s1,s2⟩
   all_goals (try rw [e1] at lv);(try rw [e2] at lv);(try rw [e3] at lv);(try rw [s1] at lv);(try rw [s2] at lv)
   all_goals first|(have LV:=hid (lv.trans (show _=true from rfl));clear lv;go_wp2;go_roundw;(case rel=>exact ⟨1,by omega,by go_num,HX4.out,fun _=>LV.out,fun h=>absurd h (by omega),fun h=>absurd h (by omega)⟩);(case measure=>simp [intOf]))|(have LV:=hid (lv.trans (show _=false from rfl));clear lv;go_wp2;go_ret;exact ⟨ret_bool (by rw [<-HR.out];simp [LV.out]),X1.out.trans HX4.out⟩)
  ·obtain ⟨d,hd⟩:∃d,side2 ⟨cx,cy,cz⟩ ⟨bx,by',bz⟩ ⟨sx,sy,sz⟩=d:=⟨_,rfl⟩
   have HD:=hid hd;clear hd;go_wp2_with fail;refine wp_region_stages [([0,1,3],2),([],4),([],5)] 5 (wr.heap.size+1+1) (by kernel_rfl) (by kernel_rfl) ?_;refine st_ fun K hK=>?_;go_wp2_with fail;refine (edgeFn_val cx cy cz bx by' bz Hc.out Hb.out _).mono ?_;rintro e w3 ⟨D,A,E,rfl,hE,x3⟩;have y3:Ext ((wr.alloc (.cells #[cx,cy,cz] 37)).alloc (.cells #[bx,by',bz] 37)) w3:=Ext.trans (Ext.drew (Ext.refl _)) x3;go_wp2_with fail;refine hK _ _ (.inr (y3.same (by simp))) ?_;clear hK K;refine st_ fun K hK=>?_;go_wp2_with fail;refine (edgeFn1_val sx sy sz HD.out Hc.out Hb.out Hs.out _ hE).mono ?_;rintro e w4 ⟨rfl,x4⟩;have y4:=y3.trans x4;go_wp2_with fail;refine hK _ _ (.inr (y4.same (by simp))) ?_;clear hK K;refine st_ fun K hK=>?_;go_wp2_with fail;refine hK _ _ (.inl (by trivial)) ?_;clear hK K;refine wpStages_nil ?_;have ba:=(Blk.new wr 37 [cx,cy,cz]).ext (Ext.trans ((Ext.refl _).alloc (.cells #[bx,by',bz] 37)) y4);have bb:=(Blk.new (wr.alloc (.cells #[cx,cy,cz] 37)) 37 [bx,by',bz]).ext y4;rw [World.size_alloc] at bb;obtain ⟨m0,m1⟩:=ba.q2;obtain ⟨n0,n1⟩:=bb.q2;have l0:=ba.lt;have l1:=bb.lt;have HX4:=hid (HX.out.trans (Ext.trans (show Ext wr ((wr.alloc (.cells #[cx,cy,cz] 37)).alloc (.cells #[bx,by',bz] 37)) from X_) y4));have lv:=left_val HD.out;clear t0 t1 t2 t3 t4 t5 t6 t7 t8 u0 u1 u2 y3 y4 x3 x4 hE ba bb
   rcases y_ways cx cy bx by' with e1|⟨e1,e2,e3⟩|⟨e1,e2,e3⟩|⟨e1,e2⟩ <;> rcases d_ways d with s1|⟨s1,s2⟩|⟨s1,s2⟩
   all_goals (try rw [e1] at lv);(try rw [e2] at lv);(try rw [e3] at lv);(try rw [s1] at lv);(try rw [s2] at lv)
   all_goals first|(have LV:=hid (lv.trans (show _=true from rfl));clear lv;go_wp2;go_roundw;(case rel=>exact ⟨2,by omega,by go_num,HX4.out,fun _=>G0.out (by omega),fun _=>LV.out,fun h=>absurd h (by omega)⟩);(case measure=>simp [intOf]))|(have LV:=hid (lv.trans (show _=false from rfl));clear lv;go_wp2;go_ret;exact ⟨ret_bool (by rw [<-HR.out];simp [LV.out]),X1.out.trans HX4.out⟩)
  ·obtain ⟨d,hd⟩:∃d,side2 ⟨bx,by',bz⟩ ⟨ax,ay,az⟩ ⟨sx,sy,sz⟩=d:=⟨_,rfl⟩
   have HD:=hid hd;clear hd;go_wp2_with fail;refine wp_region_stages [([0,1,3],2),([],4),([],5)] 5 (wr.heap.size+1+1) (by kernel_rfl) (by kernel_rfl) ?_;refine st_ fun K hK=>?_;go_wp2_with fail;refine (edgeFn_val bx by' bz ax ay az Hb.out Ha.out _).mono ?_;rintro e w3 ⟨D,A,E,rfl,hE,x3⟩;have y3:Ext ((wr.alloc (.cells #[bx,by',bz] 37)).alloc (.cells #[ax,ay,az] 37)) w3:=Ext.trans (Ext.drew (Ext.refl _)) x3;go_wp2_with fail;refine hK _ _ (.inr (y3.same (by simp))) ?_;clear hK K;refine st_ fun K hK=>?_;go_wp2_with fail;refine (edgeFn1_val sx sy sz HD.out Hb.out Ha.out Hs.out _ hE).mono ?_;rintro e w4 ⟨rfl,x4⟩;have y4:=y3.trans x4;go_wp2_with fail;refine hK _ _ (.inr (y4.same (by simp))) ?_;clear hK K;refine st_ fun K hK=>?_;go_wp2_with fail;refine hK _ _ (.inl (by trivial)) ?_;clear hK K;refine wpStages_nil ?_;have ba:=(Blk.new wr 37 [bx,by',bz]).ext (Ext.trans ((Ext.refl _).alloc (.cells #[ax,ay,az] 37)) y4);have bb:=(Blk.new (wr.alloc (.cells #[bx,by',bz] 37)) 37 [ax,ay,az]).ext y4;rw [World.size_alloc] at bb;obtain ⟨m0,m1⟩:=ba.q2;obtain ⟨n0,n1⟩:=bb.q2;have l0:=ba.lt;have l1:=bb.lt;have HX4:=hid (HX.out.trans (Ext.trans (show Ext wr ((wr.alloc (.cells #[bx,by',bz] 37)).alloc (.cells #[ax,ay,az] 37)) from X_) y4));have lv:=left_val HD.out;clear t0 t1 t2 t3 t4 t5 t6 t7 t8 u0 u1 u2 y3 y4 x3 x4 hE ba bb
   rcases y_ways bx by' ax ay with e1|⟨e1,e2,e3⟩|⟨e1,e2,e3⟩|⟨e1,e2⟩ <;> rcases d_ways d with s1|⟨s1,s2⟩|⟨s1,s2⟩
   all_goals (try rw [e1] at lv);(try rw [e2] at lv);(try rw [e3] at lv);(try rw [s1] at lv);(try rw [s2] at lv)
   all_goals first|(have LV:=hid (lv.trans (show _=true from rfl));clear lv;go_wp2;go_roundw;(case rel=>exact ⟨3,by omega,by go_num,HX4.out,fun _=>G0.out (by omega),fun _=>G1.out (by omega),fun _=>LV.out⟩);(case measure=>simp [intOf]))|(have LV:=hid (lv.trans (show _=false from rfl));clear lv;go_wp2;go_ret;exact ⟨ret_bool (by rw [<-HR.out];simp [LV.out]),X1.out.trans HX4.out⟩)
  ·go_wp2
   go_ret;exact ⟨ret_bool (by rw [<-HR.out,G0.out (by omega),G1.out (by omega),G2.out (by omega)];rfl),X1.out.trans HX.out⟩
theorem covers_zero (ax ay az bx by' bz cx cy cz:Int) (ha:V3.scr ⟨ax,ay,az⟩) (hb:V3.scr ⟨bx,by',bz⟩) (hc:V3.scr ⟨cx,cy,cz⟩) (sx sy sz:Int) (hs:V3.scr ⟨sx,sy,sz⟩) (hp:side2 ⟨ax,ay,az⟩ ⟨bx,by',bz⟩ ⟨cx,cy,cz⟩=0) (w:World):Calls Tryz.prog 212 #[.agg #[ax,ay,az,bx,by',bz,cx,cy,cz],.agg #[sx,sy,sz]] w fun e w'=>e = .returned (.bool false)/\Ext w w':=by
 have Ha:=scr_hid ha;have Hb:=scr_hid hb;have Hc:=scr_hid hc;have Hs:=scr_hid hs
 obtain ⟨d0,hd0⟩:∃d,side2 ⟨ax,ay,az⟩ ⟨bx,by',bz⟩ ⟨cx,cy,cz⟩=d:=⟨_,rfl⟩
 have HA:=hid hd0;rw [hd0] at hp;clear ha hb hc hs hd0
 have z1:(d0==0)=true:=by rw [hp];rfl
 have hb0:=Blk.new w 162 [ax,ay,az,bx,by',bz,cx,cy,cz];have hb1:=Blk.new (w.alloc (.cells #[ax,ay,az,bx,by',bz,cx,cy,cz] 162)) 37 [sx,sy,sz];rw [World.size_alloc] at hb1;have y0:Ext w ((w.alloc (.cells #[ax,ay,az,bx,by',bz,cx,cy,cz] 162)).alloc (.cells #[sx,sy,sz] 37)):=X_;have B0:=hid (hb0.alloc (.cells #[sx,sy,sz] 37));have B1:=hid hb1;have Y0:=hid y0;clear hb0 hb1 y0;go_enter Tryz.func212,Tryz.ntmps212;go_wp2_with fail;refine (area_val ax ay az bx by' bz cx cy cz Ha.out Hb.out Hc.out HA.out _).mono ?_;rintro e w1 ⟨rfl,x1⟩;have q0:=hid (B0.out.ext x1);have q1:=hid (B1.out.ext x1);have X1:=hid (Y0.out.trans x1);clear x1 B0 B1 Y0;go_wp2;go_ret;exact ⟨rfl,X1.out⟩
theorem covers_val (ax ay az bx by' bz cx cy cz:Int) (ha:V3.scr ⟨ax,ay,az⟩) (hb:V3.scr ⟨bx,by',bz⟩) (hc:V3.scr ⟨cx,cy,cz⟩) (sx sy sz:Int) (hs:V3.scr ⟨sx,sy,sz⟩) {r:Bool} (hr:covB ⟨ax,ay,az⟩ ⟨bx,by',bz⟩ ⟨cx,cy,cz⟩ ⟨sx,sy,sz⟩=r) (w:World):Calls Tryz.prog 212 #[.agg #[ax,ay,az,bx,by',bz,cx,cy,cz],.agg #[sx,sy,sz]] w fun e w'=>e = .returned (.bool r)/\Ext w w':=by
 unfold covB at hr
 split at hr
 ·rename_i h0
  subst hr
  exact covers_zero ax ay az bx by' bz cx cy cz ha hb hc sx sy sz hs h0 w
 ·split at hr
  ·rename_i h0 h1
   exact covers_neg ax ay az bx by' bz cx cy cz ha hb hc sx sy sz hs h1 hr w
  ·rename_i h0 h1
   exact covers_pos ax ay az bx by' bz cx cy cz ha hb hc sx sy sz hs (by omega) hr w
def depS (m1 m2 m3:Int):Nat->Int
 | 0=>0
 | 1=>m1
 | 2=>m1+m2
 | _=>m1+m2+m3
theorem depS0 (a b c:Int):depS a b c 0=0:=rfl
theorem depS1 (a b c:Int):depS a b c 1=a:=rfl
theorem depS2 (a b c:Int):depS a b c 2=a+b:=rfl
theorem depS3 (a b c:Int):depS a b c 3=a+b+c:=rfl
theorem side2_abs {a b s:V3} (ha:a.scr) (hb:b.scr) (hs:s.scr) : -80000000000<=side2 a b s/\side2 a b s<=80000000000:=by
 have:=side2_bd ha hb hs;unfold side2;omega
theorem absI_le {x m:Int} (h : -m<=x/\x<=m):0<=absI x/\absI x<=m:=by unfold absI;split <;> omega
theorem depth_val (ax ay az bx by' bz cx cy cz:Int) (ha:V3.scr ⟨ax,ay,az⟩) (hb:V3.scr ⟨bx,by',bz⟩) (hc:V3.scr ⟨cx,cy,cz⟩) (sx sy sz:Int) (hs:V3.scr ⟨sx,sy,sz⟩) (hz:(-1000000<=az/\az<=1000000)/\(-1000000<=bz/\bz<=1000000)/\(-1000000<=cz/\cz<=1000000)) {r:Int} (hr:depthI ⟨ax,ay,az⟩ ⟨bx,by',bz⟩ ⟨cx,cy,cz⟩ ⟨sx,sy,sz⟩=r) (w:World) :
  Calls Tryz.prog 153 #[.agg #[ax,ay,az,bx,by',bz,cx,cy,cz],.agg #[sx,sy,sz]] w fun e w'=>e = .returned (.int .i64 r)/\Ext w w':=by
 unfold depthI at hr;simp only at hr;have Ha:=scr_hid ha;have Hb:=scr_hid hb;have Hc:=scr_hid hc;have Hs:=scr_hid hs;obtain ⟨z1,z2,z3⟩:=hz;have b1:=side2_abs hb hc hs
 obtain ⟨s1,e1⟩:∃n,side2 ⟨bx,by',bz⟩ ⟨cx,cy,cz⟩ ⟨sx,sy,sz⟩=n:=⟨_,rfl⟩
 rw [e1] at b1 hr;have B1:=hid (show -1000000000000<=s1/\s1<=1000000000000 by omega);have g1:=absI_le b1;clear b1
 obtain ⟨n1,k1⟩:∃n,absI s1=n:=⟨_,rfl⟩
 rw [k1] at g1 hr;have f1:=mul_abs (A:=1000000) (B:=80000000000) (a:=az) (b:=n1) (by omega) (by omega)
 obtain ⟨m1,r1⟩:∃n,az*n1=n:=⟨_,rfl⟩
 rw [r1] at f1 hr;have S1:=hid e1;have K1:=hid k1;have M1:=hid r1;have F1:=hid f1;clear e1 k1 r1 f1 g1;have b2:=side2_abs hc ha hs
 obtain ⟨s2,e2⟩:∃n,side2 ⟨cx,cy,cz⟩ ⟨ax,ay,az⟩ ⟨sx,sy,sz⟩=n:=⟨_,rfl⟩
 rw [e2] at b2 hr;have B2:=hid (show -1000000000000<=s2/\s2<=1000000000000 by omega);have g2:=absI_le b2;clear b2
 obtain ⟨n2,k2⟩:∃n,absI s2=n:=⟨_,rfl⟩
 rw [k2] at g2 hr;have f2:=mul_abs (A:=1000000) (B:=80000000000) (a:=bz) (b:=n2) (by omega) (by omega)
 obtain ⟨m2,r2⟩:∃n,bz*n2=n:=⟨_,rfl⟩
 rw [r2] at f2 hr;have S2:=hid e2;have K2:=hid k2;have M2:=hid r2;have F2:=hid f2;clear e2 k2 r2 f2 g2;have b3:=side2_abs ha hb hs
 obtain ⟨s3,e3⟩:∃n,side2 ⟨ax,ay,az⟩ ⟨bx,by',bz⟩ ⟨sx,sy,sz⟩=n:=⟨_,rfl⟩
 rw [e3] at b3 hr;have B3:=hid (show -1000000000000<=s3/\s3<=1000000000000 by omega);have g3:=absI_le b3;clear b3
 obtain ⟨n3,k3⟩:∃n,absI s3=n:=⟨_,rfl⟩
 rw [k3] at g3 hr;have f3:=mul_abs (A:=1000000) (B:=80000000000) (a:=cz) (b:=n3) (by omega) (by omega)
 obtain ⟨m3,r3⟩:∃n,cz*n3=n:=⟨_,rfl⟩
 rw [r3] at f3 hr;have S3:=hid e3;have K3:=hid k3;have M3:=hid r3;have F3:=hid f3;clear e3 k3 r3 f3 g3
 obtain ⟨d0,hd0⟩:∃d,side2 ⟨ax,ay,az⟩ ⟨bx,by',bz⟩ ⟨cx,cy,cz⟩=d:=⟨_,rfl⟩
 rw [hd0] at hr;have HA:=hid hd0;have BA:=hid (show -1000000000000<=d0/\d0<=1000000000000 by have:=side2_abs ha hb hc;rw [hd0] at this;omega)
 obtain ⟨da,hda⟩:∃d,absI d0=d:=⟨_,rfl⟩
 rw [hda] at hr;have KA:=hid hda;have HR:=hid hr;clear ha hb hc hs hr hd0 hda z1 z2 z3
 have i0:∀w:World,(Instr.index 160 (.agg #[ax,ay,az,bx,by',bz,cx,cy,cz]) (.int .i64 0)).run Tryz.prog w = .ok (.agg #[ax,ay,az]) w:=fun _=>by kernel_rfl
 have i1:∀w:World,(Instr.index 160 (.agg #[ax,ay,az,bx,by',bz,cx,cy,cz]) (.int .i64 1)).run Tryz.prog w = .ok (.agg #[bx,by',bz]) w:=fun _=>by kernel_rfl
 have i2:∀w:World,(Instr.index 160 (.agg #[ax,ay,az,bx,by',bz,cx,cy,cz]) (.int .i64 2)).run Tryz.prog w = .ok (.agg #[cx,cy,cz]) w:=fun _=>by kernel_rfl
 have hb0:=Blk.new w 162 [ax,ay,az,bx,by',bz,cx,cy,cz];have hb1:=Blk.new (w.alloc (.cells #[ax,ay,az,bx,by',bz,cx,cy,cz] 162)) 37 [sx,sy,sz];rw [World.size_alloc] at hb1;have y0:Ext w ((w.alloc (.cells #[ax,ay,az,bx,by',bz,cx,cy,cz] 162)).alloc (.cells #[sx,sy,sz] 37)):=X_;have Q0:=hid (TBox9.of (a:=⟨ax,ay,az⟩) (b:=⟨bx,by',bz⟩) (c:=⟨cx,cy,cz⟩) (hb0.alloc (.cells #[sx,sy,sz] 37)));have Q1:=hid (VBox3.of (s:=⟨sx,sy,sz⟩) hb1);have X1:=hid y0;clear hb0 hb1 y0;go_enter Tryz.func153,Tryz.ntmps153;have t0:=Q0.out.lt;have u0:=Q0.out.c0;have u1:=Q0.out.c1;have u2:=Q0.out.c2;have u3:=Q0.out.c3;have u4:=Q0.out.c4;have u5:=Q0.out.c5;have u6:=Q0.out.c6;have u7:=Q0.out.c7;have u8:=Q0.out.c8;simp only at u0 u1 u2 u3 u4 u5 u6 u7 u8;go_wp2;clear u0 u1 u2 u3 u4 u5 u6 u7 u8 t0
 obtain ⟨W0,hW0⟩:∃W0,((w.alloc (.cells #[ax,ay,az,bx,by',bz,cx,cy,cz] 162)).alloc (.cells #[sx,sy,sz] 37))=W0:=⟨_,rfl⟩
 rw [hW0] at Q0 Q1 X1 ⊢;clear hW0
 go_loopw [5,10] (fun sm i wr=>∃k:Nat,k<=3/\i = .int .i64 (k:Nat)/\sm = .int .i64 (depS m1 m2 m3 k)/\Ext W0 wr) (fun _ i _=>3 - (intOf i).toNat)
 case atStart=>exact ⟨0,by omega,rfl,rfl,Ext.refl _⟩
 case round=>
  obtain ⟨k,hk,rfl,rfl,hx⟩:=hrel;have HX:=hid hx;have hB:=Q0.out.ext hx;have hS:=Q1.out.ext hx;have t0:=hB.c0;have t1:=hB.c1;have t2:=hB.c2;have t3:=hB.c3;have t4:=hB.c4;have t5:=hB.c5;have t6:=hB.c6;have t7:=hB.c7;have t8:=hB.c8;have u0:=hS.c0;have u1:=hS.c1;have u2:=hS.c2;have zb:=hB.lt;have zs:=hS.lt;simp only at t0 t1 t2 t3 t4 t5 t6 t7 t8 u0 u1 u2;clear hx
  rcases (show k=0\/k=1\/k=2\/k=3 by omega) with rfl|rfl|rfl|rfl
  ·rw [depS0]
   have r1:=M1.out;have f1:=F1.out;go_wp2_with fail;refine wp_region_stages [([0,1,2,3,4,5,6,7,8,9,10,11,12,13,14,16],15),([],17),([],18),([19,20],21)] 21 (wr.heap.size+1) (by kernel_rfl) (by kernel_rfl) ?_;refine st_ fun K hK=>?_;go_wp2_with fail;refine (edgeFn_val bx by' bz cx cy cz Hb.out Hc.out _).mono ?_;rintro e w3 ⟨D,A,E,rfl,hE,x3⟩;have y3:Ext (wr.alloc (.cells #[ax,ay,az] 37)) w3:=Ext.trans (Ext.drew (Ext.refl _)) x3;go_wp2_with fail;refine hK _ _ (.inr (y3.same (by simp))) ?_;clear hK K;refine st_ fun K hK=>?_;go_wp2_with fail;refine (edgeFn1_val sx sy sz S1.out Hb.out Hc.out Hs.out _ hE).mono ?_;rintro e w4 ⟨rfl,x4⟩;have y4:=y3.trans x4;go_wp2_with fail;refine hK _ _ (.inr (y4.same (by simp))) ?_;clear hK K;refine st_ fun K hK=>?_;go_wp2_with fail;refine (absolute_val B1.out K1.out _).mono ?_;rintro e w5 ⟨rfl,rfl⟩;go_wp2_with fail;refine hK _ _ (.inr (y4.same (by simp))) ?_;clear hK K;refine st_ fun K hK=>?_;go_wp2_with fail;refine hK _ _ (.inl (by trivial)) ?_;clear hK K;refine wpStages_nil ?_;have HX4:=hid (HX.out.trans (Ext.trans (show Ext wr (wr.alloc (.cells #[ax,ay,az] 37)) from X_) y4));clear t0 t1 t2 t3 t4 t5 t6 t7 t8 u0 u1 u2 y3 y4 x3 x4 hE;go_wp2;go_roundw
   case rel=>exact ⟨1,by omega,by go_num,by rw [depS1] <;> go_num,HX4.out⟩
   case measure=>simp [intOf]
  ·rw [depS1]
   have r2:=M2.out;have f1:=F1.out;have f2:=F2.out;go_wp2_with fail;refine wp_region_stages [([0,1,2,3,4,5,6,7,8,9,10,11,12,13,14,16],15),([],17),([],18),([19,20],21)] 21 (wr.heap.size+1) (by kernel_rfl) (by kernel_rfl) ?_;refine st_ fun K hK=>?_;go_wp2_with fail;refine (edgeFn_val cx cy cz ax ay az Hc.out Ha.out _).mono ?_;rintro e w3 ⟨D,A,E,rfl,hE,x3⟩;have y3:Ext (wr.alloc (.cells #[bx,by',bz] 37)) w3:=Ext.trans (Ext.drew (Ext.refl _)) x3;go_wp2_with fail;refine hK _ _ (.inr (y3.same (by simp))) ?_;clear hK K;refine st_ fun K hK=>?_;go_wp2_with fail;refine (edgeFn1_val sx sy sz S2.out Hc.out Ha.out Hs.out _ hE).mono ?_;rintro e w4 ⟨rfl,x4⟩;have y4:=y3.trans x4;go_wp2_with fail;refine hK _ _ (.inr (y4.same (by simp))) ?_;clear hK K;refine st_ fun K hK=>?_;go_wp2_with fail;refine (absolute_val B2.out K2.out _).mono ?_;rintro e w5 ⟨rfl,rfl⟩;go_wp2_with fail;refine hK _ _ (.inr (y4.same (by simp))) ?_;clear hK K;refine st_ fun K hK=>?_;go_wp2_with fail;refine hK _ _ (.inl (by trivial)) ?_;clear hK K;refine wpStages_nil ?_;have HX4:=hid (HX.out.trans (Ext.trans (show Ext wr (wr.alloc (.cells #[bx,by',bz] 37)) from X_) y4));clear t0 t1 t2 t3 t4 t5 t6 t7 t8 u0 u1 u2 y3 y4 x3 x4 hE;go_wp2;go_roundw
   case rel=>exact ⟨2,by omega,by go_num,by rw [depS2] <;> go_num,HX4.out⟩
   case measure=>simp [intOf]
  ·rw [depS2]
   have r3:=M3.out;have f1:=F1.out;have f2:=F2.out;have f3:=F3.out;go_wp2_with fail;refine wp_region_stages [([0,1,2,3,4,5,6,7,8,9,10,11,12,13,14,16],15),([],17),([],18),([19,20],21)] 21 (wr.heap.size+1) (by kernel_rfl) (by kernel_rfl) ?_;refine st_ fun K hK=>?_;go_wp2_with fail;refine (edgeFn_val ax ay az bx by' bz Ha.out Hb.out _).mono ?_;rintro e w3 ⟨D,A,E,rfl,hE,x3⟩;have y3:Ext (wr.alloc (.cells #[cx,cy,cz] 37)) w3:=Ext.trans (Ext.drew (Ext.refl _)) x3;go_wp2_with fail;refine hK _ _ (.inr (y3.same (by simp))) ?_;clear hK K;refine st_ fun K hK=>?_;go_wp2_with fail;refine (edgeFn1_val sx sy sz S3.out Ha.out Hb.out Hs.out _ hE).mono ?_;rintro e w4 ⟨rfl,x4⟩;have y4:=y3.trans x4;go_wp2_with fail;refine hK _ _ (.inr (y4.same (by simp))) ?_;clear hK K;refine st_ fun K hK=>?_;go_wp2_with fail;refine (absolute_val B3.out K3.out _).mono ?_;rintro e w5 ⟨rfl,rfl⟩;go_wp2_with fail;refine hK _ _ (.inr (y4.same (by simp))) ?_;clear hK K;refine st_ fun K hK=>?_;go_wp2_with fail;refine hK _ _ (.inl (by trivial)) ?_;clear hK K;refine wpStages_nil ?_;have HX4:=hid (HX.out.trans (Ext.trans (show Ext wr (wr.alloc (.cells #[cx,cy,cz] 37)) from X_) y4));clear t0 t1 t2 t3 t4 t5 t6 t7 t8 u0 u1 u2 y3 y4 x3 x4 hE;go_wp2;go_roundw
   case rel=>exact ⟨3,by omega,by go_num,by rw [depS3] <;> go_num,HX4.out⟩
   case measure=>simp [intOf]
  ·rw [depS3]
   have f1:=F1.out;have f2:=F2.out;have f3:=F3.out;go_wp2_with fail;refine (area_val ax ay az bx by' bz cx cy cz Ha.out Hb.out Hc.out HA.out _).mono ?_;rintro e w6 ⟨rfl,x6⟩;go_wp2_with fail;refine (absolute_val BA.out KA.out _).mono ?_;rintro e w7 ⟨rfl,rfl⟩;go_wp2_with fail;refine (iFloorDiv_val (I64.of (m:=1000000000000000000) (by omega) (by decide)) HR.out _).mono ?_;rintro e w8 ⟨rfl,rfl⟩;go_wp2;go_ret;exact ⟨rfl,X1.out.trans (HX.out.trans x6)⟩
theorem onScreen_val {x y z:Int} (hx : -100000<=x/\x<=100000) (hy : -100000<=y/\y<=100000) (hz : -1000000<=z/\z<=1000000) (w:World) :
  Calls Tryz.prog 213 #[.agg #[x,y,z]] w fun e w'=>e = .returned (.agg #[x,y,z])/\Ext w w':=by
 have X:=hid (cl_fixed (x:=x) (by omega));have Y:=hid (cl_fixed (x:=y) (by omega));have Z:=hid (cl_fixed (x:=z) (by omega));have SX:=hid (show clampI x (-100000) 100000=x from sc_fix hx);have SY:=hid (show clampI y (-100000) 100000=y from sc_fix hy);clear hx hy hz;have hb0:=Blk.new w 37 [x,y,z];have hb1:=Blk.new (w.alloc (.cells #[x,y,z] 37)) 37 [(),(),()];rw [World.size_alloc] at hb1;have y0:Ext w ((w.alloc (.cells #[x,y,z] 37)).alloc (.cells #[(),(),()] 37)):=X_;have B0:=hid (hb0.alloc (.cells #[(),(),()] 37));have B1:=hid hb1;have Y0:=hid y0;clear hb0 hb1 y0;go_enter Tryz.func213,Tryz.ntmps213;go_wp2_with fail;refine (clamped_val X.out Y.out Z.out _).mono ?_;rintro e w1 ⟨rfl,x1⟩;have C0:=B0.out.ext x1;have C1:=B1.out.ext x1;have f0:=C0.free 0;have f1:=C0.free 1;have f2:=C0.free 2;obtain ⟨k0,k1,k2⟩:=C0.q3;have zc:=C0.lt;have E0:=hid (((C0.set 0 (.int .i64 x)).set 1 (.int .i64 y)).set 2 (.int .i64 z))
 have ne1:w.heap.size+1≠w.heap.size:=by omega
 have E1:=hid (((C1.other (a:=⟨w.heap.size,0,none⟩) ne1 (.int .i64 x)).other (a:=⟨w.heap.size,1,none⟩) ne1 (.int .i64 y)).other (a:=⟨w.heap.size,2,none⟩) ne1 (.int .i64 z));have X1:=Y0.out.trans x1;have X2:=hid (show Ext w (((w1.setCell ⟨w.heap.size,0,none⟩ x).setCell ⟨w.heap.size,1,none⟩ y).setCell ⟨w.heap.size,2,none⟩ z) from S_);clear C0 C1 x1 X1 B0 B1 Y0;go_upto_region 2 with fail;clear f0 f1 f2 zc k0 k1 k2
 obtain ⟨w2,hw2⟩:∃w2,((w1.setCell ⟨w.heap.size,0,none⟩ x).setCell ⟨w.heap.size,1,none⟩ y).setCell ⟨w.heap.size,2,none⟩ z=w2:=⟨_,rfl⟩
 rw [hw2] at E0 E1 X2 ⊢;clear hw2;obtain ⟨c0,c1,c2⟩:=E0.out.q3;have z0:=E0.out.lt;have z1:=E1.out.lt;have f0:=E1.out.free 0;have f1:=E1.out.free 1;have f2:=E1.out.free 2;obtain ⟨k0,k1,k2⟩:=E1.out.q3;refine wp_region_stages [([0,1,3,4,6,7],2),([],5),([8],9)] 9 w2.heap.size (by kernel_rfl) (by kernel_rfl) ?_;refine st_ fun K hK=>?_;go_wp2_with fail;refine (iClamp_val SX.out _).mono ?_;rintro e w3 ⟨rfl,rfl⟩;go_wp2_with fail;refine hK _ _ (.inr (fun k _ hk=>Ext.block X_ hk)) ?_;clear hK K;refine st_ fun K hK=>?_;go_wp2_with fail;refine (iClamp_val SY.out _).mono ?_;rintro e w3 ⟨rfl,rfl⟩;go_wp2_with fail;refine hK _ _ (.inr (fun k _ hk=>Ext.block X_ hk)) ?_;clear hK K;refine st_ fun K hK=>?_;go_wp2_with fail;refine hK _ _ (.inl (by trivial)) ?_;clear hK K;refine wpStages_nil ?_;have hX:=X2.out;go_wp2;exact bodyPost_ret (v:=.agg #[x,y,z]) (by simp [results,Tryz.results213,go_sem, *]) rfl ⟨rfl,S_⟩
theorem limited_val (ax ay az bx by' bz cx cy cz:Int) (ha:V3.scr ⟨ax,ay,az⟩) (hb:V3.scr ⟨bx,by',bz⟩) (hc:V3.scr ⟨cx,cy,cz⟩) (hz:(-1000000<=az/\az<=1000000)/\(-1000000<=bz/\bz<=1000000)/\(-1000000<=cz/\cz<=1000000)) (w:World):Calls Tryz.prog 152 #[.agg #[ax,ay,az,bx,by',bz,cx,cy,cz]] w fun e w'=>e = .returned (.agg #[ax,ay,az,bx,by',bz,cx,cy,cz])/\Ext w w':=by
 obtain ⟨z1,z2,z3⟩:=hz;obtain ⟨a1,a2⟩:=ha;obtain ⟨b1,b2⟩:=hb;obtain ⟨c1,c2⟩:=hc;simp only at a1 a2 b1 b2 c1 c2;have Za:=hid z1;have Zb:=hid z2;have Zc:=hid z3;have Ha1:=hid a1;have Ha2:=hid a2;have Hb1:=hid b1;have Hb2:=hid b2;have Hc1:=hid c1;have Hc2:=hid c2;clear z1 z2 z3 a1 a2 b1 b2 c1 c2
 have i0:∀w:World,(Instr.index 160 (.agg #[ax,ay,az,bx,by',bz,cx,cy,cz]) (.int .i64 0)).run Tryz.prog w = .ok (.agg #[ax,ay,az]) w:=fun _=>by kernel_rfl
 have i1:∀w:World,(Instr.index 160 (.agg #[ax,ay,az,bx,by',bz,cx,cy,cz]) (.int .i64 1)).run Tryz.prog w = .ok (.agg #[bx,by',bz]) w:=fun _=>by kernel_rfl
 have i2:∀w:World,(Instr.index 160 (.agg #[ax,ay,az,bx,by',bz,cx,cy,cz]) (.int .i64 2)).run Tryz.prog w = .ok (.agg #[cx,cy,cz]) w:=fun _=>by kernel_rfl
 have hb0:=Blk.new w 162 [ax,ay,az,bx,by',bz,cx,cy,cz];have hb1:=Blk.new (w.alloc (.cells #[ax,ay,az,bx,by',bz,cx,cy,cz] 162)) 162 [(),(),(),(),(),(),(),(),()];rw [World.size_alloc] at hb1;have y0:Ext w ((w.alloc (.cells #[ax,ay,az,bx,by',bz,cx,cy,cz] 162)).alloc (.cells #[(),(),(),(),(),(),(),(),()] 162)):=X_;have B0:=hid (hb0.alloc (.cells #[(),(),(),(),(),(),(),(),()] 162));have B1:=hid hb1;have Y0:=hid y0;have c0:=B0.out.cell 0 rfl;have c1:=B0.out.cell 1 rfl;have c2:=B0.out.cell 2 rfl;have c3:=B0.out.cell 3 rfl;have c4:=B0.out.cell 4 rfl;have c5:=B0.out.cell 5 rfl;have c6:=B0.out.cell 6 rfl;have c7:=B0.out.cell 7 rfl;have c8:=B0.out.cell 8 rfl;have zc:=B0.out.lt;clear hb0 hb1 y0;go_enter Tryz.func152,Tryz.ntmps152;go_wp2;clear c0 c1 c2 c3 c4 c5 c6 c7 c8 zc
 obtain ⟨W0,hW0⟩:∃W0,((w.alloc (.cells #[ax,ay,az,bx,by',bz,cx,cy,cz] 162)).alloc (.cells #[(),(),(),(),(),(),(),(),()] 162))=W0:=⟨_,rfl⟩
 rw [hW0] at B0 B1 Y0 ⊢;clear hW0
 go_loopw [7] (fun i wr=>∃k:Nat,k<=3/\i = .int .i64 (k:Nat)/\Ext w wr/\Blk wr w.heap.size 162 [ax,ay,az,bx,by',bz,cx,cy,cz]/\Blk wr (w.heap.size+1) 162 [(),(),(),(),(),(),(),(),()]) (fun i _=>3 - (intOf i).toNat)
 case atStart=>exact ⟨0,by omega,rfl,Y0.out,B0.out,B1.out⟩
 case round=>
  obtain ⟨k,hk,rfl,hx,hB,hC⟩:=hrel;have HX:=hid hx;have HB:=hid hB;have HC:=hid hC;have zw:=hx.size;have zb:=hB.lt;have zc:=hC.lt;clear hx hB hC B0 B1 Y0
  rcases (show k=0\/k=1\/k=2\/k=3 by omega) with rfl|rfl|rfl|rfl
  ·go_wp2_with fail
   refine (onScreen_val Ha1.out Ha2.out Za.out _).mono ?_;rintro e w3 ⟨rfl,x3⟩;have y3:Ext wr w3:=Ext.trans (show Ext wr (wr.alloc (.cells #[ax,ay,az] 37)) from X_) x3;have D0:=HB.out.ext y3;have D1:=HC.out.ext y3;have f0:=D0.free 0;have f1:=D0.free 1;have f2:=D0.free 2;obtain ⟨k0,k1,k2⟩:=D0.q3;have z3:=D0.lt;have X3:=HX.out.trans y3;have G0:=hid (((D0.set 0 (.int .i64 ax)).set 1 (.int .i64 ay)).set 2 (.int .i64 az))
   have ne1:w.heap.size+1≠w.heap.size:=by omega
   have G1:=hid (((D1.other (a:=⟨w.heap.size,0,none⟩) ne1 (.int .i64 ax)).other (a:=⟨w.heap.size,1,none⟩) ne1 (.int .i64 ay)).other (a:=⟨w.heap.size,2,none⟩) ne1 (.int .i64 az));have GX:=hid (show Ext w (((w3.setCell ⟨w.heap.size,0,none⟩ ax).setCell ⟨w.heap.size,1,none⟩ ay).setCell ⟨w.heap.size,2,none⟩ az) from S_);clear D0 D1 X3 y3 x3 HB HC HX;go_wp2;go_roundw
   case rel=>exact ⟨1,by omega,by go_num,GX.out,G0.out,G1.out⟩
   case measure=>simp [intOf]
  ·go_wp2_with fail
   refine (onScreen_val Hb1.out Hb2.out Zb.out _).mono ?_;rintro e w3 ⟨rfl,x3⟩;have y3:Ext wr w3:=Ext.trans (show Ext wr (wr.alloc (.cells #[bx,by',bz] 37)) from X_) x3;have D0:=HB.out.ext y3;have D1:=HC.out.ext y3;have f0:=D0.free 3;have f1:=D0.free 4;have f2:=D0.free 5;have k0:=D0.cell 3 rfl;have k1:=D0.cell 4 rfl;have k2:=D0.cell 5 rfl;have z3:=D0.lt;have X3:=HX.out.trans y3;have G0:=hid (((D0.set 3 (.int .i64 bx)).set 4 (.int .i64 by')).set 5 (.int .i64 bz))
   have ne1:w.heap.size+1≠w.heap.size:=by omega
   have G1:=hid (((D1.other (a:=⟨w.heap.size,3,none⟩) ne1 (.int .i64 bx)).other (a:=⟨w.heap.size,4,none⟩) ne1 (.int .i64 by')).other (a:=⟨w.heap.size,5,none⟩) ne1 (.int .i64 bz));have GX:=hid (show Ext w (((w3.setCell ⟨w.heap.size,3,none⟩ bx).setCell ⟨w.heap.size,4,none⟩ by').setCell ⟨w.heap.size,5,none⟩ bz) from S_);clear D0 D1 X3 y3 x3 HB HC HX;go_wp2;go_roundw
   case rel=>exact ⟨2,by omega,by go_num,GX.out,G0.out,G1.out⟩
   case measure=>simp [intOf]
  ·go_wp2_with fail
   refine (onScreen_val Hc1.out Hc2.out Zc.out _).mono ?_;rintro e w3 ⟨rfl,x3⟩;have y3:Ext wr w3:=Ext.trans (show Ext wr (wr.alloc (.cells #[cx,cy,cz] 37)) from X_) x3;have D0:=HB.out.ext y3;have D1:=HC.out.ext y3;have f0:=D0.free 6;have f1:=D0.free 7;have f2:=D0.free 8;have k0:=D0.cell 6 rfl;have k1:=D0.cell 7 rfl;have k2:=D0.cell 8 rfl;have z3:=D0.lt;have X3:=HX.out.trans y3;have G0:=hid (((D0.set 6 (.int .i64 cx)).set 7 (.int .i64 cy)).set 8 (.int .i64 cz))
   have ne1:w.heap.size+1≠w.heap.size:=by omega
   have G1:=hid (((D1.other (a:=⟨w.heap.size,6,none⟩) ne1 (.int .i64 cx)).other (a:=⟨w.heap.size,7,none⟩) ne1 (.int .i64 cy)).other (a:=⟨w.heap.size,8,none⟩) ne1 (.int .i64 cz));have GX:=hid (show Ext w (((w3.setCell ⟨w.heap.size,6,none⟩ cx).setCell ⟨w.heap.size,7,none⟩ cy).setCell ⟨w.heap.size,8,none⟩ cz) from S_);clear D0 D1 X3 y3 x3 HB HC HX;go_wp2;go_roundw
   case rel=>exact ⟨3,by omega,by go_num,GX.out,G0.out,G1.out⟩
   case measure=>simp [intOf]
  ·have c0:=HB.out.cell 0 rfl
   have c1:=HB.out.cell 1 rfl;have c2:=HB.out.cell 2 rfl;have c3:=HB.out.cell 3 rfl;have c4:=HB.out.cell 4 rfl;have c5:=HB.out.cell 5 rfl;have c6:=HB.out.cell 6 rfl;have c7:=HB.out.cell 7 rfl;have c8:=HB.out.cell 8 rfl;have f0:=HC.out.free 0;have f1:=HC.out.free 1;have f2:=HC.out.free 2;have f3:=HC.out.free 3;have f4:=HC.out.free 4;have f5:=HC.out.free 5;have f6:=HC.out.free 6;have f7:=HC.out.free 7;have f8:=HC.out.free 8;have k0:=HC.out.cell 0 rfl;have k1:=HC.out.cell 1 rfl;have k2:=HC.out.cell 2 rfl;have k3:=HC.out.cell 3 rfl;have k4:=HC.out.cell 4 rfl;have k5:=HC.out.cell 5 rfl;have k6:=HC.out.cell 6 rfl;have k7:=HC.out.cell 7 rfl;have k8:=HC.out.cell 8 rfl;have hX:=HX.out;go_wp2;exact bodyPost_ret (v:=.agg #[ax,ay,az,bx,by',bz,cx,cy,cz]) (by simp [results,Tryz.results152,go_sem, *]) rfl ⟨rfl,S_⟩
theorem iCovers_val (ax ay az bx by' bz cx cy cz:Int) (ha:V3.scr ⟨ax,ay,az⟩) (hb:V3.scr ⟨bx,by',bz⟩) (hc:V3.scr ⟨cx,cy,cz⟩) (hz:(-1000000<=az/\az<=1000000)/\(-1000000<=bz/\bz<=1000000)/\(-1000000<=cz/\cz<=1000000)) (sx sy:Int) (hs:(-100000<=sx/\sx<=100000)/\(-100000<=sy/\sy<=100000)) {r:Bool} (hr:covB ⟨ax,ay,az⟩ ⟨bx,by',bz⟩ ⟨cx,cy,cz⟩ ⟨sx,sy,0⟩=r) (w:World) :
  Calls Tryz.prog 151 #[.agg #[ax,ay,az,bx,by',bz,cx,cy,cz],sx,sy] w fun e w'=>e = .returned (.bool r)/\Ext w w':=by
 have Ha:=scr_hid ha;have Hb:=scr_hid hb;have Hc:=scr_hid hc;have HZ:=hid hz;have HR:=hid hr;have Hs:=scr_hid (show V3.scr ⟨sx,sy,0⟩ from hs);have I1:=hid (inB_iff.2 hs.1);have I2:=hid (inB_iff.2 hs.2);have y0:Ext w (w.alloc (.cells #[ax,ay,az,bx,by',bz,cx,cy,cz] 162)):=X_;have Y0:=hid y0;clear ha hb hc hz hr hs y0;go_enter Tryz.func151,Tryz.ntmps151;go_wp2_with (go_at_call 54;with_reducible first|(refine (within_val I1.out _).mono ?_;rintro e w1 ⟨rfl,rfl⟩)|(refine (within_val I2.out _).mono ?_;rintro e w1 ⟨rfl,rfl⟩));refine (limited_val ax ay az bx by' bz cx cy cz Ha.out Hb.out Hc.out HZ.out _).mono ?_;rintro e w1 ⟨rfl,x1⟩;go_wp2_with fail;refine (covers_val ax ay az bx by' bz cx cy cz Ha.out Hb.out Hc.out sx sy 0 Hs.out HR.out _).mono ?_;rintro e w2 ⟨rfl,x2⟩;go_wp2;go_ret;exact ⟨rfl,Y0.out.trans (x1.trans x2)⟩
theorem depthAt_no (ax ay az bx by' bz cx cy cz:Int) (ha:V3.scr ⟨ax,ay,az⟩) (hb:V3.scr ⟨bx,by',bz⟩) (hc:V3.scr ⟨cx,cy,cz⟩) (hz:(-1000000<=az/\az<=1000000)/\(-1000000<=bz/\bz<=1000000)/\(-1000000<=cz/\cz<=1000000)) (sx sy:Int) (hs:(-100000<=sx/\sx<=100000)/\(-100000<=sy/\sy<=100000)) (hr:covB ⟨ax,ay,az⟩ ⟨bx,by',bz⟩ ⟨cx,cy,cz⟩ ⟨sx,sy,0⟩=false) (w:World) :
  Calls Tryz.prog 93 #[.agg #[ax,ay,az,bx,by',bz,cx,cy,cz],sx,sy] w fun e w'=>e = .returned (.tuple #[(),.bool false])/\Ext w w':=by
 have Ha:=scr_hid ha;have Hb:=scr_hid hb;have Hc:=scr_hid hc;have HZ:=hid hz;have HR:=hid hr;have HS:=hid hs;have hb0:=Blk.new w 162 [ax,ay,az,bx,by',bz,cx,cy,cz];have y0:Ext w (w.alloc (.cells #[ax,ay,az,bx,by',bz,cx,cy,cz] 162)):=X_;have B0:=hid hb0;have Y0:=hid y0;clear ha hb hc hz hr hs y0 hb0;go_enter Tryz.func93,Tryz.ntmps93;go_wp2_with fail;refine (iCovers_val ax ay az bx by' bz cx cy cz Ha.out Hb.out Hc.out HZ.out sx sy HS.out HR.out _).mono ?_;rintro e w1 ⟨rfl,x1⟩;go_wp2;exact bodyPost_ret (v:=.tuple #[(),.bool false]) (by simp [results,Tryz.results93,go_sem, *]) rfl ⟨rfl,Y0.out.trans x1⟩
theorem depthAt_yes (ax ay az bx by' bz cx cy cz:Int) (ha:V3.scr ⟨ax,ay,az⟩) (hb:V3.scr ⟨bx,by',bz⟩) (hc:V3.scr ⟨cx,cy,cz⟩) (hz:(-1000000<=az/\az<=1000000)/\(-1000000<=bz/\bz<=1000000)/\(-1000000<=cz/\cz<=1000000)) (sx sy:Int) (hs:(-100000<=sx/\sx<=100000)/\(-100000<=sy/\sy<=100000)) (hr:covB ⟨ax,ay,az⟩ ⟨bx,by',bz⟩ ⟨cx,cy,cz⟩ ⟨sx,sy,0⟩=true) {r:Int} (hd:depthI ⟨ax,ay,az⟩ ⟨bx,by',bz⟩ ⟨cx,cy,cz⟩ ⟨sx,sy,0⟩=r) (w:World) :
  Calls Tryz.prog 93 #[.agg #[ax,ay,az,bx,by',bz,cx,cy,cz],sx,sy] w fun e w'=>e = .returned (.tuple #[r,.bool true])/\Ext w w':=by
 have Ha:=scr_hid ha;have Hb:=scr_hid hb;have Hc:=scr_hid hc;have HZ:=hid hz;have HR:=hid hr;have HS:=hid hs;have HD:=hid hd;have hb0:=Blk.new w 162 [ax,ay,az,bx,by',bz,cx,cy,cz];have y0:Ext w (w.alloc (.cells #[ax,ay,az,bx,by',bz,cx,cy,cz] 162)):=X_;have B0:=hid hb0;have Y0:=hid y0;clear ha hb hc hz hr hs y0 hb0 hd;go_enter Tryz.func93,Tryz.ntmps93;go_wp2_with fail;refine (iCovers_val ax ay az bx by' bz cx cy cz Ha.out Hb.out Hc.out HZ.out sx sy HS.out HR.out _).mono ?_;rintro e w1 ⟨rfl,x1⟩;have c0:=(B0.out.ext x1).cell 0 rfl;have c1:=(B0.out.ext x1).cell 1 rfl;have c2:=(B0.out.ext x1).cell 2 rfl;have c3:=(B0.out.ext x1).cell 3 rfl;have c4:=(B0.out.ext x1).cell 4 rfl;have c5:=(B0.out.ext x1).cell 5 rfl;have c6:=(B0.out.ext x1).cell 6 rfl;have c7:=(B0.out.ext x1).cell 7 rfl;have c8:=(B0.out.ext x1).cell 8 rfl;have zb:=(B0.out.ext x1).lt;go_wp2_with fail;refine (limited_val ax ay az bx by' bz cx cy cz Ha.out Hb.out Hc.out HZ.out _).mono ?_;rintro e w2 ⟨rfl,x2⟩;clear c0 c1 c2 c3 c4 c5 c6 c7 c8;go_wp2_with fail;refine (depth_val ax ay az bx by' bz cx cy cz Ha.out Hb.out Hc.out sx sy 0 HS.out HZ.out HD.out _).mono ?_;rintro e w3 ⟨rfl,x3⟩;go_wp2;exact bodyPost_ret (v:=.tuple #[r,.bool true]) (by simp [results,Tryz.results93,go_sem, *]) rfl ⟨rfl,Y0.out.trans (x1.trans (x2.trans x3))⟩
def Frag.lt (a b:Frag):Bool:=decide (a.d<b.d)||(a.d==b.d&&(decide (a.s<b.s)||(a.s==b.s&&decide (a.c<b.c))))
def namedB (op:Int):Bool:=op==2||op==8
def lenB (op l:Int):Bool:=if op=1\/op=2 then l==0 else if op=3 then l==1 else if 4<=op/\op<=7 then l==2 else if op=8 then decide (l<=3) else false
def nodeF (x:Nd):Bool:=(if namedB x.op then identB x.name else x.name.toList==[])&&(if x.op=1 then inB x.num 0 2559999 else x.num==0)&&lenB x.op x.args.length
theorem ident_empty {s:ByteArray} (h:identB s=true):(s.toList==[])=false:=by
 rw [beq_eq_false_iff_ne];intro e
 have h1:s.size=0:=by
  rw [ByteArray.toList_eq] at e
  have:s.data.toList.length=s.size:=by simp
  rw [<-this,e]
  rfl
 unfold identB at h;rw [h1] at h;simp at h
theorem iIsIdentifier_val {s:ByteArray} {b:Bool} (h:identB s=b) (w:World) (hs:s.size<=maxLen):Calls Tryz.prog 276 #[.string s] w fun e w'=>e = .returned (.bool b)/\Ext w w':=h▸iIsIdentifier_any s w hs
theorem sIsIdentifier_val {s:ByteArray} {b:Bool} (h:identB s=b) (w:World) (hs:s.size<=maxLen):Calls Tryz.prog 239 #[.string s] w fun e w'=>e = .returned (.bool b)/\w=w':=h▸sIsIdentifier_any s w hs
theorem op_cases (op:Int) (bn:Bool):(op=1/\bn=true)\/(op=1/\bn=false)\/op=2\/op=3\/op=4\/op=5\/op=6\/op=7\/op=8\/(op≠1/\op≠2/\op≠3/\op≠4/\op≠5/\op≠6/\op≠7/\op≠8):=by
 cases bn <;> simp <;> omega
theorem iValidNode_any (op:Int) (s:ByteArray) (n:Int) (a:Option Addr) (r:List Int) (cap:Nat) (w:World) (hs:s.size<=maxLen) :
  Calls Tryz.prog 275 #[.agg #[op,.string s,n,.slice a r.length cap]] w fun e w'=>e = .returned (.bool (nodeF ⟨op,s,n,r⟩))/\Ext w w':=by
 obtain ⟨bi,hbi⟩:∃b,identB s=b:=⟨_,rfl⟩
 obtain ⟨be,hbe⟩:∃b,(s.toList==[])=b:=⟨_,rfl⟩
 obtain ⟨bn,hbn⟩:∃b,inB n 0 2559999=b:=⟨_,rfl⟩
 have hie:bi=true->be=false:=fun h=>by rw [<-hbe];exact ident_empty (by rw [hbi,h])
 have bA:=Bx.made w #[op,.string s,n,.slice a r.length cap] 243;have HS:=hid hs;have HI:=hid hbi;clear hs
 rcases op_cases op bn with ⟨rfl,rfl⟩|⟨rfl,rfl⟩|rfl|rfl|rfl|rfl|rfl|rfl|rfl|⟨o1,o2,o3,o4,o5,o6,o7,o8⟩
 all_goals cases bi <;> cases be
 all_goals first|(exfalso;simp at hie;done)|skip
 all_goals
  try have q1:(op==1)=false:=beq_eq_false_iff_ne.2 o1
  try have q2:(op==2)=false:=beq_eq_false_iff_ne.2 o2
  try have q3:(op==3)=false:=beq_eq_false_iff_ne.2 o3
  try have q4:(op==4)=false:=beq_eq_false_iff_ne.2 o4
  try have q5:(op==5)=false:=beq_eq_false_iff_ne.2 o5
  try have q6:(op==6)=false:=beq_eq_false_iff_ne.2 o6
  try have q7:(op==7)=false:=beq_eq_false_iff_ne.2 o7
  try have q8:(op==8)=false:=beq_eq_false_iff_ne.2 o8
  clear hie hbi;go_enter Tryz.func275,Tryz.ntmps275;go_wp2_with fail;refine (iIsIdentifier_val HI.out _ HS.out).mono ?_;rintro e w1 ⟨rfl,x1⟩;have bA1:=bA.ext x1;have X1:Ext w w1:=Ext.trans X_ x1;clear bA x1;have y:=bA1.lt;have y0:=bA1.cell 0;simp only [List.getElem?_toArray,List.getElem?_cons_zero,List.getElem?_cons_succ] at y0;have y1:=bA1.cell 1;simp only [List.getElem?_toArray,List.getElem?_cons_zero,List.getElem?_cons_succ] at y1;have y2:=bA1.cell 2;simp only [List.getElem?_toArray,List.getElem?_cons_zero,List.getElem?_cons_succ] at y2;have y3:=bA1.cell 3;simp only [List.getElem?_toArray,List.getElem?_cons_zero,List.getElem?_cons_succ] at y3;clear bA1;go_wp2_with (go_at_call 54;refine (within_val hbn _).mono ?_;rintro e w2 ⟨rfl,rfl⟩)
  all_goals (go_ret;exact ⟨by first|(simp [nodeF,namedB,lenB,HI.out,hbn, *];done)|(simp [nodeF,namedB,lenB,HI.out,hbn, *] <;> simp_all;done)|(simp [nodeF,namedB,lenB,HI.out,hbn, *] <;> omega),X1⟩)
def argsB (r:List Int) (i:Int):Bool:=r.all fun a=>inB a 0 (i - 1)
theorem in47:inB 4 4 7=true/\inB 5 4 7=true/\inB 6 4 7=true/\inB 7 4 7=true:=⟨rfl,rfl,rfl,rfl⟩
theorem sNode_any (lo hi:Nat) (op:Int) (s:ByteArray) (n:Int) (u:Value) (r:List Int) (i:Int) (w:World) (hu:Ints lo hi w u r) (hh:hi<=w.heap.size) (hs:s.size<=maxLen) (hi1:0<=i) (hi2:i<=10000000) :
  Calls Tryz.prog 238 #[.agg #[op,.string s,n,u],i] w fun e w'=>e = .returned (.bool (argsB r i&&nodeF ⟨op,s,n,r⟩))/\Ext w w':=by
 obtain ⟨a,cap,rfl,HU⟩:=hu.open;have l1:=HU.le;have l2:=HU.cap
 obtain ⟨bi,hbi⟩:∃b,identB s=b:=⟨_,rfl⟩
 obtain ⟨be,hbe⟩:∃b,(s.toList==[])=b:=⟨_,rfl⟩
 obtain ⟨bn,hbn⟩:∃b,inB n 0 2559999=b:=⟨_,rfl⟩
 have hie:bi=true->be=false:=fun h=>by rw [<-hbe];exact ident_empty (by rw [hbi,h])
 have HS:=hid hs;have HI:=hid hbi;have HE:=hid hbe;have HB:=hid hbn;have x0:Ext w (w.alloc (.cells #[op,.string s,n,.slice a r.length cap] 243)):=X_;have HIE:=hid hie;clear hs hbi hbe hbn hie hu;go_enter Tryz.func238,Tryz.ntmps238;go_wp2
 go_loopw [11] (fun q wr=>∃k:Nat,k<=r.length/\q = .int .i64 k/\wr=(w.alloc (.cells #[op,.string s,n,.slice a r.length cap] 243))/\∀j x,j<k->r[j]?=some x->inB x 0 (i - 1)=true) (fun q _=>r.length - (intOf q).toNat)
 case atStart=>exact ⟨0,by omega,rfl,rfl,fun j x h=>by omega⟩
 case round=>
  obtain ⟨k,hk,rfl,rfl,hno⟩:=hrel
  by_cases hlt:k<r.length
  ·obtain ⟨b,off,rfl,hb1,hb2,hc⟩:=HU.at hlt
   have hget:r[k]?=some r[k]:=by simp [hlt]
   obtain ⟨y,hy⟩:∃y,r[k]=y:=⟨_,rfl⟩
   rw [hy] at hc hget;clear hy;rw [<-x0.cells.1 b _ (by omega)] at hc
   obtain ⟨bb,hbb⟩:∃c,inB y 0 (i - 1)=c:=⟨_,rfl⟩
   have hb3:b<(w.alloc (.cells #[op,.string s,n,.slice (some ⟨b,off,none⟩) r.length cap] 243)).heap.size:=by simp;omega
   cases bb
   ·have HN:Hid (argsB r i=false):=hid (by
     unfold argsB;rw [List.all_eq_false]
     exact ⟨y,List.mem_of_getElem? hget,by rw [hbb];simp⟩)
    have HBB:=hid hbb;clear hno hget hbb;go_wp2_with (go_at_call 70;refine (l01In_val HBB.out _).mono ?_;rintro e w1 ⟨rfl,rfl⟩);go_ret;exact ⟨by rw [HN.out];rfl,x0⟩
   ·have HN:Hid (∀j x,j<k+1->r[j]?=some x->inB x 0 (i - 1)=true):=hid (fun j z hj hz=>by
     by_cases e:j=k
     ·subst e
      rw [hget] at hz;injection hz with hz;subst hz;exact hbb
     ·exact hno j z (by omega) hz)
    have HBB:=hid hbb;clear hno hget hbb;go_wp2_with (go_at_call 70;refine (l01In_val HBB.out _).mono ?_;rintro e w1 ⟨rfl,rfl⟩);go_roundw
    case rel=>exact ⟨k+1,by omega,by go_num,by trivial,HN.out⟩
    case measure=>simp [intOf];omega
  ·obtain rfl:k=r.length:=by omega
   have HN:Hid (argsB r i=true):=hid (by
    unfold argsB;rw [List.all_eq_true];intro x hx;obtain ⟨j,hj,rfl⟩:=List.getElem_of_mem hx
    exact hno j _ hj (by simp [hj]))
   clear hno;have hie:=HIE.out;have hbe:=HE.out;have hbn:=HB.out
   rcases op_cases op bn with ⟨rfl,rfl⟩|⟨rfl,rfl⟩|rfl|rfl|rfl|rfl|rfl|rfl|rfl|⟨o1,o2,o3,o4,o5,o6,o7,o8⟩
   all_goals cases bi <;> cases be
   all_goals first|(exfalso;simp at hie;done)|skip
   all_goals
    try have q1:(op==1)=false:=beq_eq_false_iff_ne.2 o1
    try have q2:(op==2)=false:=beq_eq_false_iff_ne.2 o2
    try have q3:(op==3)=false:=beq_eq_false_iff_ne.2 o3
    try have q8:(op==8)=false:=beq_eq_false_iff_ne.2 o8
    try have q47:inB op 4 7=false:=by unfold inB;simp;omega
    clear hie;go_wp2_with (first|(go_at_call 239;refine (sIsIdentifier_val HI.out _ HS.out).mono ?_;rintro e w1 ⟨rfl,rfl⟩)|(go_at_call 70;(first|with_reducible refine (l01In_val hbn _).mono ?_|with_reducible refine (l01In_val q47 _).mono ?_|with_reducible refine (l01In_val in47.1 _).mono ?_|with_reducible refine (l01In_val in47.2.1 _).mono ?_|with_reducible refine (l01In_val in47.2.2.1 _).mono ?_|with_reducible refine (l01In_val in47.2.2.2 _).mono ?_);rintro e w1 ⟨rfl,rfl⟩))
    all_goals (go_ret;exact ⟨by rw [HN.out,Bool.true_and];first|(simp [nodeF,namedB,lenB,HI.out,hbn, *];done)|(simp [nodeF,namedB,lenB,HI.out,hbn, *] <;> simp_all;done)|(simp [nodeF,namedB,lenB,HI.out,hbn, *] <;> omega),x0⟩)
def bumpU (u:List Int) (i:Nat):List Int:=u.set i (u.getD i 0+1)
def bumpL (u:List Int) (es:List Int):List Int:=es.foldl (fun u a=>bumpU u a.toNat) u
def usesN (u:List Int) (xs:List Nd):List Int:=xs.foldl (fun u x=>bumpL u x.args) u
def usesG (u:List Int) (gs:List Asg):List Int:=gs.foldl (fun u a=>bumpU u a.root.toNat) u
def Prg.usesA (p:Prg):List Int:=usesN (List.replicate p.ns.length 0) p.ns
def Prg.uses (p:Prg):List Int:=usesG p.usesA p.gs
def Prg.ndB (p:Prg) (k:Nat):Bool:=match p.ns[k]? with|some x=>argsB x.args k&&nodeF x|none=>true
def Prg.agB (p:Prg) (k:Nat):Bool:=match p.gs[k]? with|some x=>identB x.name&&inB x.root 0 ((p.ns.length:Int) - 1)|none=>true
def Prg.okB (p:Prg):Bool:=decide (p.ns.length<=60)&&(List.range p.ns.length).all p.ndB&&(List.range p.gs.length).all p.agB&&p.uses.all (· == 1)
theorem Prg.ndB_at {p:Prg} {k:Nat} {x:Nd} (h:p.ns[k]?=some x):p.ndB k=(argsB x.args k&&nodeF x):=by unfold Prg.ndB;rw [h]
theorem Prg.agB_at {p:Prg} {k:Nat} {x:Asg} (h:p.gs[k]?=some x):p.agB k=(identB x.name&&inB x.root 0 ((p.ns.length:Int) - 1)):=by unfold Prg.agB;rw [h]
def UpTo (u:List Int) (t:Nat):Prop:=∀i,0<=u.getD i 0/\u.getD i 0<=t
theorem UpTo.zero (n:Nat):UpTo (List.replicate n 0) 0:=fun i=>by
 rw [List.getD_eq_getElem?_getD,List.getElem?_replicate]
 split <;> simp
theorem UpTo.bump {u:List Int} {t:Nat} (h:UpTo u t) (i:Nat):UpTo (bumpU u i) (t+1):=fun j=>by
 have h1:=h i;have h2:=h j;unfold bumpU;rw [List.getD_eq_getElem?_getD,List.getElem?_set]
 split
 ·split
  ·simp only [Option.getD_some];omega
  ·simp;omega
 ·rw [<-List.getD_eq_getElem?_getD];omega
theorem UpTo.mono {u:List Int} {t t':Nat} (h:UpTo u t) (ht:t<=t'):UpTo u t':=fun i=>⟨(h i).1,by have:=(h i).2;omega⟩
theorem bumpU_len (u:List Int) (i:Nat):(bumpU u i).length=u.length:=by simp [bumpU]
theorem bumpL_len (es:List Int):∀u:List Int,(bumpL u es).length=u.length:=by
 unfold bumpL
 induction es with
 | nil=>intro u;rfl
 | cons a r ih=>intro u;rw [List.foldl_cons,ih,bumpU_len]
theorem usesN_len (xs:List Nd):∀u:List Int,(usesN u xs).length=u.length:=by
 unfold usesN
 induction xs with
 | nil=>intro u;rfl
 | cons a r ih=>intro u;rw [List.foldl_cons,ih,bumpL_len]
theorem usesG_len (xs:List Asg):∀u:List Int,(usesG u xs).length=u.length:=by
 unfold usesG
 induction xs with
 | nil=>intro u;rfl
 | cons a r ih=>intro u;rw [List.foldl_cons,ih,bumpU_len]
theorem Prg.usesA_len (p:Prg):p.usesA.length=p.ns.length:=by unfold Prg.usesA;rw [usesN_len,List.length_replicate]
theorem take_step {α : Type} {xs:List α} {k:Nat} {x : α} (h:xs[k]?=some x):xs.take (k+1)=xs.take k++[x]:=by
 obtain ⟨hk,rfl⟩:=List.getElem?_eq_some_iff.1 h;exact List.take_succ_eq_append_getElem hk
theorem bumpL_step {u es:List Int} {k:Nat} {y:Int} (h:es[k]?=some y):bumpU (bumpL u (es.take k)) y.toNat=bumpL u (es.take (k+1)):=by
 rw [take_step h];simp [bumpL]
theorem usesN_step {u:List Int} {xs:List Nd} {k:Nat} {x:Nd} (h:xs[k]?=some x):bumpL (usesN u (xs.take k)) x.args=usesN u (xs.take (k+1)):=by
 rw [take_step h];simp [usesN]
theorem usesG_step {u:List Int} {xs:List Asg} {k:Nat} {x:Asg} (h:xs[k]?=some x):bumpU (usesG u (xs.take k)) x.root.toNat=usesG u (xs.take (k+1)):=by
 rw [take_step h];simp [usesG]
theorem nodeF_len {x:Nd} (h:nodeF x=true):x.args.length<=3:=by
 unfold nodeF at h;simp only [Bool.and_eq_true] at h;have:=h.2;unfold lenB at this
 split at this
 ·simp at this;simp [this]
 split at this
 ·simp at this;omega
 split at this
 ·simp at this;omega
 split at this
 ·simp at this;omega
 ·cases this
theorem OwnInts.upd {lo b n cap:Nat} {w:World} {u:List Int} (h:OwnInts lo w (.slice (some ⟨b,0,none⟩) n cap) u) (hl:n=u.length) {q:Nat} (hq:q<n) :
  lo<=b/\b<w.heap.size/\w.cell? ⟨b,q,none⟩=some (.int .i64 (u.getD q 0))/\w.frozen? ⟨b,q,none⟩=false/\∀x,I64 x->OwnInts lo (w.setCell ⟨b,q,none⟩ x) (.slice (some ⟨b,0,none⟩) n cap) (u.set q x):=by
 obtain ⟨g,y,e,h1,h2,h3,h4,h5,h6⟩:=h.at hl (k:=q) (by omega);simp only [Option.some.injEq,Addr.mk.injEq,and_true] at e;subst e;refine ⟨h1,h2,?_,h5,fun x hx=>(h6 x hx).1⟩;rw [h4,List.getD_eq_getElem?_getD,h3]
 rfl
theorem all_one_no {xs:List Int} {k:Nat} (h:k<xs.length) (hp:xs[k]≠1):xs.all (· == 1)=false:=all_no h (by simpa using hp)
theorem indexOnce_any (lo hi:Nat) (u:Value) (xs:List Int) (w:World) (hu:Ints lo hi w u xs) :
  Calls Tryz.prog 304 #[u,.func (.func 278) #[] #[]] w fun e w'=>(∃i:Int,e = .returned (.int .i64 i)/\decide (i≥0) = !(xs.all (· == 1)))/\w=w':=by
 obtain ⟨a,cap,rfl,HU⟩:=hu.open;have l1:=HU.le;have l2:=HU.cap;clear hu;go_enter Tryz.func304,Tryz.ntmps304;go_wp2
 go_loopw [8] (fun i wr=>∃k:Nat,k<=xs.length/\i = .int .i64 k/\wr=w/\(xs.take k).all (· == 1)=true) (fun i _=>xs.length - (intOf i).toNat)
 case atStart=>exact ⟨0,by omega,rfl,rfl,rfl⟩
 case round=>
  obtain ⟨k,hk,rfl,rfl,hall⟩:=hrel;have HA:=hid hall;clear hall
  by_cases hlt:k<xs.length
  ·obtain ⟨b,off,rfl,hb1,hb2,hc⟩:=HU.at hlt
   by_cases h1:xs[k]=1
   ·rw [h1] at hc
    have H1:=hid h1;clear h1;go_wp2;go_roundw
    case rel=>exact ⟨k+1,by omega,by go_num,by trivial,all_step hlt HA.out (by simp [H1.out])⟩
    case measure=>simp [intOf];omega
   ·obtain ⟨y,hy⟩:∃y,xs[k]=y:=⟨_,rfl⟩
    have H1:=hid (all_one_no hlt h1);rw [hy] at hc h1;have h2:(y==1)=false:=beq_eq_false_iff_ne.2 h1;clear hy;go_wp2;go_ret;exact ⟨⟨_,rfl,by rw [H1.out];simp⟩,rfl⟩
  ·obtain rfl:k=xs.length:=by omega
   go_wp2;go_ret;have hA:=HA.out;rw [List.take_length] at hA;exact ⟨⟨_,rfl,by rw [hA];rfl⟩,rfl⟩
theorem containsOnce_val {b:Bool} (lo hi:Nat) (u:Value) (xs:List Int) (w:World) (hb:xs.all (· == 1)=b) (hu:Ints lo hi w u xs) :
  Calls Tryz.prog 277 #[u,.func (.func 278) #[] #[]] w fun e w'=>e = .returned (.bool (!b))/\w=w':=by
 obtain ⟨a,cap,rfl,HU⟩:=hu.open;have HI:=hid hu;clear hu;go_enter Tryz.func277,Tryz.ntmps277;go_wp2_with fail;refine (indexOnce_any lo hi _ xs _ HI.out).mono ?_;rintro e w1 ⟨⟨i,rfl,hi2⟩,rfl⟩;go_wp2;go_ret;exact ⟨ret_bool (by first|rfl|(rw [<-hb];exact hi2)),rfl⟩
theorem iValidNode_val {x:Nd} {b:Bool} (h:nodeF x=b) (a:Option Addr) (cap:Nat) (w:World) (hs:x.name.size<=maxLen) :
  Calls Tryz.prog 275 #[.agg #[x.op,.string x.name,x.num,.slice a x.args.length cap]] w fun e w'=>e = .returned (.bool b)/\Ext w w':=h▸iValidNode_any x.op x.name x.num a x.args cap w hs
theorem args_at {r:List Int} {i:Int} {j:Nat} {y:Int} (h:argsB r i=true) (hj:r[j]?=some y):0<=y/\y<=i - 1:=by
 unfold argsB at h;rw [List.all_eq_true] at h;exact inB_iff.1 (h y (List.mem_of_getElem? hj))
theorem Ints.openS {lo hi:Nat} {w:World} {u:Value} {xs:List Int} (h:Ints lo hi w u xs):∃a c,u = .slice a xs.length c/\Ints lo hi w (.slice a xs.length c) xs/\IntsAt lo hi w a c xs:=by
 obtain ⟨a,c,rfl,H⟩:=h.open;exact ⟨a,c,rfl,h,H⟩
theorem NdsAt.atW {lo hi:Nat} {w:World} {a:Option Addr} {cap:Nat} {xs:List Nd} (h:NdsAt lo hi w a cap xs) {k:Nat} (hk:k<xs.length) {wr:World} (hx:Ext w wr) (hh:hi<=w.heap.size) :
  ∃b off op s n sa sc r,a=some ⟨b,off,none⟩/\b<w.heap.size/\b<wr.heap.size/\xs[k]?=some ⟨op,s,n,r⟩/\I64 op/\I64 n/\Ints lo hi w (.slice sa r.length sc) r/\IntsAt lo hi w sa sc r/\wr.cell? ⟨b,off+k*4,none⟩=some (.int .i64 op)/\wr.cell? ⟨b,off+k*4+1,none⟩=some (.string s)/\wr.cell? ⟨b,off+k*4+2,none⟩=some (.int .i64 n)/\wr.cell? ⟨b,off+k*4+3,none⟩=some (.slice sa r.length sc):=by
 obtain ⟨⟨i1,i2⟩,b,off,u,e,h1,h2,c0,c1,c2,c3,hu⟩:=h.cell k xs[k] (by simp [hk]);have hz:=hx.size;obtain ⟨sa,sc,rfl,hI,HI⟩:=hu.openS;refine ⟨b,off,xs[k].op,xs[k].name,xs[k].num,sa,sc,xs[k].args,e,by omega,by omega,by simp [hk],i1,i2,hI,HI,?_,?_,?_,?_⟩
 ·exact (hx.cells.1 b _ (by omega)).trans c0
 ·exact (hx.cells.1 b _ (by omega)).trans c1
 ·exact (hx.cells.1 b _ (by omega)).trans c2
 ·exact (hx.cells.1 b _ (by omega)).trans c3
theorem IntsAt.atE {lo hi:Nat} {w:World} {a:Option Addr} {cap:Nat} {xs:List Int} (h:IntsAt lo hi w a cap xs) {k:Nat} (hk:k<xs.length) {wr:World} (hx:Ext w wr) (hh:hi<=w.heap.size) :
  ∃b off y,a=some ⟨b,off,none⟩/\b<wr.heap.size/\xs[k]?=some y/\I64 y/\wr.cell? ⟨b,off+k,none⟩=some (.int .i64 y):=by
 obtain ⟨b,off,e,h1,h2,c0⟩:=h.at hk;have hz:=hx.size;exact ⟨b,off,xs[k],e,by omega,by simp [hk],h.i64 hk,(hx.cells.1 b _ (by omega)).trans c0⟩
theorem OwnInts.bump {lo b n cap t:Nat} {w:World} {u:List Int} (h:OwnInts lo w (.slice (some ⟨b,0,none⟩) n cap) u) (hl:n=u.length) {q:Nat} (hq:q<n) (hu:UpTo u t) (ht:t<=1000000000) :
  ∃x:Int,0<=x/\x<=1000000000/\b<w.heap.size/\lo<=b/\w.cell? ⟨b,q,none⟩=some (.int .i64 x)/\w.frozen? ⟨b,q,none⟩=false/\OwnInts lo (w.setCell ⟨b,q,none⟩ (.int .i64 (x+1))) (.slice (some ⟨b,0,none⟩) n cap) (bumpU u q):=by
 obtain ⟨h1,h2,h3,h4,h5⟩:=h.upd hl hq;have:=hu q;exact ⟨_,this.1,by omega,h2,h1,h3,h4,h5 _ ⟨by omega,by omega⟩⟩
theorem iIsValidProgram_any (lo hi:Nat) (v:Value) (p:Prg) (w:World) (hv:p.R lo hi w v) (hh:hi<=w.heap.size) (hb:p.bd) (hgl:p.gs.length<=1048576) :
  Calls Tryz.prog 225 #[v] w fun e w'=>e = .returned (.bool p.okB)/\Ext w w':=by
 obtain ⟨i0,hi0,hz0,hz1,hz2⟩:=info_parts info_int;obtain ⟨a1,c1,a2,c2,rfl,HN,HG⟩:=hv.form;have l1:=HN.le;have l2:=HN.cap;have l3:=HG.le;have l4:=HG.cap;have HBD:=hid hb;clear hv hb
 by_cases hlen:p.ns.length<=60
 case neg=>
  have e:p.okB=false:=by unfold Prg.okB;rw [decide_eq_false hlen];simp
  rw [e];clear e;go_enter Tryz.func225,Tryz.ntmps225;go_wp2;go_ret;exact ⟨rfl,X_⟩
 have bB:=Bx.made w #[.slice a1 p.ns.length c1,.slice a2 p.gs.length c2] 132;have x0:Ext w (w.alloc (.cells #[.slice a1 p.ns.length c1,.slice a2 p.gs.length c2] 132)):=X_;go_enter Tryz.func225,Tryz.ntmps225;go_wp2_with (at_make;refine wpList_make_full _ rfl _ _ 25 rfl (w.heap.size+1) 3 i0 (.int .i64 0) 1 Tryz.underlying25 hi0 hz0 hz1 _ _ _ _ p.ns.length rfl rfl rfl rfl (by rw [hz2];omega) (by unfold maxLen;omega) (by simp) ?_);intro w1 hown hgrow;rw [made_ints] at hown;have hs1:=World.size_alloc w (.cells #[.slice a1 p.ns.length c1,.slice a2 p.gs.length c2] 132);have x1:Ext (w.alloc (.cells #[.slice a1 p.ns.length c1,.slice a2 p.gs.length c2] 132)) w1:=(Ext.refl _).grown hgrow (fun k h=>by cases h);have HO:=hid (show OwnInts (w.heap.size+1) w1 (.slice (some ⟨w.heap.size+1,0,none⟩) p.ns.length p.ns.length) (List.replicate p.ns.length 0) from ⟨by simpa using hown,fun x hx=>by rw [(List.mem_replicate.1 hx).2];exact ⟨by decide,by decide⟩⟩);have X1:=hid (x0.trans x1);have bB1':=bB.ext x1;have bB1:=hid bB1';have q:=bB1'.lt;have q0:=bB1'.cell 0;simp only [List.getElem?_toArray,List.getElem?_cons_zero,List.getElem?_cons_succ] at q0;have q1:=bB1'.cell 1;simp only [List.getElem?_toArray,List.getElem?_cons_zero,List.getElem?_cons_succ] at q1;clear bB1';clear hown hgrow hi0 hz0 hz1 hz2 x1 x0 bB hs1;go_wp2
 go_loopw [21] (fun i wr=>∃k:Nat,k<=p.ns.length/\i = .int .i64 k/\(∀j,j<k->p.ndB j=true)/\Ext w wr/\Bx wr w.heap.size #[.slice a1 p.ns.length c1,.slice a2 p.gs.length c2] 132/\OwnInts (w.heap.size+1) wr (.slice (some ⟨w.heap.size+1,0,none⟩) p.ns.length p.ns.length) (usesN (List.replicate p.ns.length 0) (p.ns.take k))/\UpTo (usesN (List.replicate p.ns.length 0) (p.ns.take k)) (3*k)) (fun i _=>p.ns.length - (intOf i).toNat)
 case atStart=>exact ⟨0,by omega,rfl,fun j h=>by omega,X1.out,bB1.out,HO.out,UpTo.zero _⟩
 case round=>
  clear HO X1 bB1 q q0 q1;obtain ⟨k,hk,rfl,hall,hx,hB,hO,hU⟩:=hrel;have HA:=hid hall;have HX:=hid hx;have HB:=hid hB;have HO:=hid hO;have HU:=hid hU
  by_cases hlt:k<p.ns.length
  ·obtain ⟨b,off,op,s,num,sa,sc,ra,rfl,hb1,hbw,hget,io,inn,hI,HI,y0,y1,y2,y3⟩:=HN.atW hlt hx hh
   have HII:=hid (hI.ext hh hx);have li1:=HI.le;have li2:=HI.cap;have HG1:=hid hget;have hsz:=hid (HBD.out.1 _ (List.mem_of_getElem? hget));have zx:=hx.size;have bQ:=Bx.made wr #[op,.string s,num,.slice sa ra.length sc] 243;have q0:Ext wr (wr.alloc (.cells #[op,.string s,num,.slice sa ra.length sc] 243)):=X_;clear hget hall hx hB hO hU hI
   obtain ⟨bn,hbn⟩:∃b,nodeF ⟨op,s,num,ra⟩=b:=⟨_,rfl⟩
   obtain ⟨ba,hba⟩:∃b,argsB ra k=b:=⟨_,rfl⟩
   have HBN:=hid hbn;have HBA:=hid hba;have HND:Hid (p.ndB k=(ba&&bn)):=hid (by rw [Prg.ndB_at HG1.out,hba,hbn]);clear hbn hba;go_wp2_with fail;refine (iValidNode_val HBN.out sa sc _ hsz.out).mono ?_;rintro e w2 ⟨rfl,x2⟩;have X2:=q0.trans x2;have zx2:=X2.size;have bQ2:=bQ.ext x2;have HII2:=hid (HII.out.ext (by omega) X2);have q:=bQ2.lt;have q0:=bQ2.cell 0;simp only [List.getElem?_toArray,List.getElem?_cons_zero,List.getElem?_cons_succ] at q0;have q1:=bQ2.cell 1;simp only [List.getElem?_toArray,List.getElem?_cons_zero,List.getElem?_cons_succ] at q1;have q2:=bQ2.cell 2;simp only [List.getElem?_toArray,List.getElem?_cons_zero,List.getElem?_cons_succ] at q2;have q3:=bQ2.cell 3;simp only [List.getElem?_toArray,List.getElem?_cons_zero,List.getElem?_cons_succ] at q3;clear x2 q0 bQ;have HBQ:=hid bQ2;clear bQ2
   cases bn
   ·go_wp2
    go_ret;refine ⟨ret_bool ?_,HX.out.trans X2⟩;unfold Prg.okB;rw [rng_no hlt (by rw [HND.out];simp)];simp
   go_wp2_with fail;refine (allWithin_val HBA.out _ _ _ _ HII2.out).mono ?_;rintro e w3 ⟨rfl,rfl⟩
   cases ba
   ·go_wp2
    go_ret;refine ⟨ret_bool ?_,HX.out.trans X2⟩;unfold Prg.okB;rw [rng_no hlt (by rw [HND.out];simp)];simp
   have HXX:=hid (HX.out.trans X2);have HB2:=hid (HB.out.ext X2);have HO2:=hid (HO.out.ext X2);have lar:Hid (ra.length<=3):=hid (nodeF_len HBN.out);clear HB HO X2;go_wp2
   go_loopw [40] (fun i wq=>∃j:Nat,j<=ra.length/\i = .int .i64 j/\Ext w wq/\Bx wq w.heap.size #[.slice (some ⟨b,off,none⟩) p.ns.length c1,.slice a2 p.gs.length c2] 132/\OwnInts (w.heap.size+1) wq (.slice (some ⟨w.heap.size+1,0,none⟩) p.ns.length p.ns.length) (bumpL (usesN (List.replicate p.ns.length 0) (p.ns.take k)) (ra.take j))/\UpTo (bumpL (usesN (List.replicate p.ns.length 0) (p.ns.take k)) (ra.take j)) (3*k+j)) (fun i _=>ra.length - (intOf i).toNat)
   case atStart=>exact ⟨0,by omega,rfl,HXX.out,HB2.out,HO2.out,HU.out⟩
   case round=>
    clear HB2 HO2 HXX;obtain ⟨j,hj,rfl,hx,hB,hO,hU⟩:=hrel;have HX:=hid hx;have HB:=hid hB;have HO:=hid hO;have HU:=hid hU
    by_cases hlj:j<ra.length
    ·obtain ⟨b3,off3,y,rfl,hb3,hy,_,hc3⟩:=HI.atE hlj hx hh
     obtain ⟨hy1,hy2⟩:=args_at HBA.out hy
     obtain ⟨q,rfl⟩:∃q:Nat,y=q:=⟨y.toNat,by omega⟩
     have hq:q<p.ns.length:=by omega
     have hjl:=lar.out;obtain ⟨x,hx1,hx2,hx3,hx4,hx5,hx6,hx7⟩:=hO.bump (by rw [bumpL_len,usesN_len,List.length_replicate]) hq hU (by omega);have HY:=hid hy;have HS:=hid hx7;clear hx hB hO hU hy hx7 hjl;go_wp2;go_roundw
     case rel=>
      refine ⟨j+1,by omega,by go_num,?_,?_,?_,?_⟩
      ·have hx:=HX.out
       exact S_
      ·exact HB.out.other (by simp) _
      ·rw [<-bumpL_step HY.out,Int.toNat_natCast]
       exact HS.out
      ·rw [<-bumpL_step HY.out]
       exact (HU.out.bump _).mono (by omega)
     case measure=>simp [intOf];omega
    ·obtain rfl:j=ra.length:=by omega
     rw [List.take_length] at hO hU;rw [usesN_step HG1.out] at hO hU;have HO:=hid hO;have HU:=hid hU;have hjl:=lar.out;clear hB hO hU hx;go_wp2;go_roundw
     case rel=>
      refine ⟨k+1,by omega,by go_num,fun i hi=>?_,HX.out,HB.out,HO.out,HU.out.mono (by omega)⟩
      by_cases e:i=k
      ·subst e;exact HND.out
      ·exact HA.out i (by omega)
     case measure=>simp [intOf];omega
  ·obtain rfl:k=p.ns.length:=by omega
   rw [List.take_length] at hO hU;have HO:=hid (show OwnInts (w.heap.size+1) wr (.slice (some ⟨w.heap.size+1,0,none⟩) p.ns.length p.ns.length) p.usesA from hO);have HU:=hid (show UpTo p.usesA (3*p.ns.length) from hU);have q:=hB.lt;have q0:=hB.cell 0;simp only [List.getElem?_toArray,List.getElem?_cons_zero,List.getElem?_cons_succ] at q0;have q1:=hB.cell 1;simp only [List.getElem?_toArray,List.getElem?_cons_zero,List.getElem?_cons_succ] at q1;clear hO hU hall hx hB;go_wp2
   go_loopw [55] (fun i wr=>∃k:Nat,k<=p.gs.length/\i = .int .i64 k/\(∀j,j<k->p.agB j=true)/\Ext w wr/\Bx wr w.heap.size #[.slice a1 p.ns.length c1,.slice a2 p.gs.length c2] 132/\OwnInts (w.heap.size+1) wr (.slice (some ⟨w.heap.size+1,0,none⟩) p.ns.length p.ns.length) (usesG p.usesA (p.gs.take k))/\UpTo (usesG p.usesA (p.gs.take k)) (3*p.ns.length+k)) (fun i _=>p.gs.length - (intOf i).toNat)
   case atStart=>exact ⟨0,by omega,rfl,fun j h=>by omega,HX.out,HB.out,HO.out,HU.out⟩
   case round=>
    clear HO HX HB HU q q0 q1;obtain ⟨k,hk,rfl,hall,hx,hB,hO,hU⟩:=hrel;have HA2:=hid hall;have HX:=hid hx;have HB:=hid hB;have HO:=hid hO;have HU:=hid hU
    by_cases hlt:k<p.gs.length
    ·obtain ⟨b,off,s,rt,rfl,hb1,hbw,hdrop,hget,ir,y0,y1⟩:=HG.at hlt hx hh
     have HG1:=hid hget;have hsz:=hid (HBD.out.2 _ (List.mem_of_getElem? hget));have zx:=hx.size;have bQ:=Bx.made wr #[.string s,rt] 194;have q0:Ext wr (wr.alloc (.cells #[.string s,rt] 194)):=X_;clear hdrop hget hall hx hB hO hU
     obtain ⟨bn,hbn⟩:∃b,identB s=b:=⟨_,rfl⟩
     obtain ⟨ba,hba⟩:∃b,inB rt 0 ((p.ns.length:Int) - 1)=b:=⟨_,rfl⟩
     have HBN:=hid hbn;have HBA:=hid hba;have HND:Hid (p.agB k=(bn&&ba)):=hid (by rw [Prg.agB_at HG1.out,hba,hbn]);clear hbn hba;go_wp2_with fail;refine (iIsIdentifier_val HBN.out _ hsz.out).mono ?_;rintro e w2 ⟨rfl,x2⟩;have X2:=q0.trans x2;have zx2:=X2.size;have bQ2:=bQ.ext x2;have HBw:=hid (HB.out.ext X2);have HBw':=HBw.out;have q:=bQ2.lt;have q0:=bQ2.cell 0;simp only [List.getElem?_toArray,List.getElem?_cons_zero,List.getElem?_cons_succ] at q0;have q1:=bQ2.cell 1;simp only [List.getElem?_toArray,List.getElem?_cons_zero,List.getElem?_cons_succ] at q1;have d:=HBw'.lt;have d0:=HBw'.cell 0;simp only [List.getElem?_toArray,List.getElem?_cons_zero,List.getElem?_cons_succ] at d0;have d1:=HBw'.cell 1;simp only [List.getElem?_toArray,List.getElem?_cons_zero,List.getElem?_cons_succ] at d1;have HBQ:=hid bQ2;clear x2 q0 bQ bQ2 HBw'
     cases bn
     ·go_wp2
      go_ret;refine ⟨ret_bool ?_,HX.out.trans X2⟩;unfold Prg.okB;rw [rng_no (p:=p.agB) hlt (by rw [HND.out];simp)];simp
     go_wp2_with fail;refine (within_val HBA.out _).mono ?_;rintro e w3 ⟨rfl,rfl⟩
     cases ba
     ·go_wp2
      go_ret;refine ⟨ret_bool ?_,HX.out.trans X2⟩;unfold Prg.okB;rw [rng_no (p:=p.agB) hlt (by rw [HND.out];simp)];simp
     have hO:=HO.out.ext X2;have hba:=inB_iff.1 HBA.out
     obtain ⟨r,rfl⟩:∃r:Nat,rt=r:=⟨rt.toNat,by omega⟩
     have hr:r<p.ns.length:=by omega
     obtain ⟨x,hx1,hx2,hx3,hx4,hx5,hx6,hx7⟩:=hO.bump (by rw [usesG_len,Prg.usesA_len]) hr HU.out (by omega);have HS:=hid hx7;have HXX:=hid (HX.out.trans X2);clear hO HO HX hx7 hba;go_wp2;go_roundw
     case rel=>
      refine ⟨k+1,by omega,by go_num,fun i hi=>?_,?_,?_,?_,?_⟩
      ·by_cases e:i=k
       ·subst e;exact HND.out
       ·exact HA2.out i (by omega)
      ·have hx:=HXX.out
       exact S_
      ·exact HBw.out.other (by simp) _
      ·rw [<-usesG_step HG1.out,Int.toNat_natCast]
       exact HS.out
      ·rw [<-usesG_step HG1.out]
       exact (HU.out.bump _).mono (by omega)
     case measure=>simp [intOf];omega
    ·obtain rfl:k=p.gs.length:=by omega
     rw [List.take_length] at hO;have HO:=hid (show OwnInts (w.heap.size+1) wr (.slice (some ⟨w.heap.size+1,0,none⟩) p.ns.length p.ns.length) p.uses from hO)
     have hul:p.uses.length=p.ns.length:=by unfold Prg.uses;rw [usesG_len,Prg.usesA_len]
     have hok:p.okB=p.uses.all (· == 1):=by
      unfold Prg.okB;rw [rng_all HA.out,rng_all HA2.out,decide_eq_true hlen];simp
     have hI:=HO.out.ints;have HOK:=hid hok;clear hO hU hall hx hB HO hok;have HI:=hid hI;clear hI;go_wp2_with fail;refine (containsOnce_val _ _ _ p.uses _ rfl HI.out).mono ?_;rintro e w3 ⟨rfl,rfl⟩;go_wp2;go_ret;exact ⟨ret_bool (by rw [HOK.out]),HX.out⟩
theorem sNode_val {op num i:Int} {s:ByteArray} {r:List Int} {b:Bool} (h:(argsB r i&&nodeF ⟨op,s,num,r⟩)=b) (lo hi:Nat) (u:Value) (w:World) (hu:Ints lo hi w u r) (hh:hi<=w.heap.size) (hs:s.size<=maxLen) (hi1:0<=i) (hi2:i<=10000000) :
  Calls Tryz.prog 238 #[.agg #[op,.string s,num,u],i] w fun e w'=>e = .returned (.bool b)/\Ext w w':=h▸sNode_any lo hi op s num u r i w hu hh hs hi1 hi2
theorem sUses_any (lo hi:Nat) (v:Value) (p:Prg) (w:World) (hv:p.R lo hi w v) (hh:hi<=w.heap.size) (hnl:p.ns.length<=1048576) (hgl:p.gs.length<=1048576) (hnd:∀k,k<p.ns.length->p.ndB k=true) (hag:∀k,k<p.gs.length->p.agB k=true) :
  Calls Tryz.prog 240 #[v] w fun e w'=>∃a c,e = .returned (.slice a p.ns.length c)/\OwnInts w.heap.size w' (.slice a p.ns.length c) p.uses/\Ext w w':=by
 obtain ⟨i0,hi0,hz0,hz1,hz2⟩:=info_parts info_int;obtain ⟨a1,c1,a2,c2,rfl,HN,HG⟩:=hv.form;have l1:=HN.le;have l2:=HN.cap;have l3:=HG.le;have l4:=HG.cap;have HND:=hid hnd;have HAG:=hid hag;clear hv hnd hag;have bB:=Bx.made w #[.slice a1 p.ns.length c1,.slice a2 p.gs.length c2] 132;have x0:Ext w (w.alloc (.cells #[.slice a1 p.ns.length c1,.slice a2 p.gs.length c2] 132)):=X_;go_enter Tryz.func240,Tryz.ntmps240;go_wp2_with (at_make;refine wpList_make_full _ rfl _ _ 25 rfl (w.heap.size+1) 3 i0 (.int .i64 0) 1 Tryz.underlying25 hi0 hz0 hz1 _ _ _ _ p.ns.length rfl rfl rfl rfl (by rw [hz2];omega) (by unfold maxLen;omega) (by simp) ?_);intro w1 hown hgrow;rw [made_ints] at hown;have hs1:=World.size_alloc w (.cells #[.slice a1 p.ns.length c1,.slice a2 p.gs.length c2] 132);have x1:Ext (w.alloc (.cells #[.slice a1 p.ns.length c1,.slice a2 p.gs.length c2] 132)) w1:=(Ext.refl _).grown hgrow (fun k h=>by cases h);have HO:=hid (show OwnInts (w.heap.size+1) w1 (.slice (some ⟨w.heap.size+1,0,none⟩) p.ns.length p.ns.length) (List.replicate p.ns.length 0) from ⟨by simpa using hown,fun x hx=>by rw [(List.mem_replicate.1 hx).2];exact ⟨by decide,by decide⟩⟩);have X1:=hid (x0.trans x1);have bB1':=bB.ext x1;have bB1:=hid bB1';have q:=bB1'.lt;have q0:=bB1'.cell 0;simp only [List.getElem?_toArray,List.getElem?_cons_zero,List.getElem?_cons_succ] at q0;have q1:=bB1'.cell 1;simp only [List.getElem?_toArray,List.getElem?_cons_zero,List.getElem?_cons_succ] at q1;clear bB1';clear hown hgrow hi0 hz0 hz1 hz2 x1 x0 bB hs1;go_wp2
 go_loopw [17] (fun i wr=>∃k:Nat,k<=p.ns.length/\i = .int .i64 k/\Ext w wr/\Bx wr w.heap.size #[.slice a1 p.ns.length c1,.slice a2 p.gs.length c2] 132/\OwnInts (w.heap.size+1) wr (.slice (some ⟨w.heap.size+1,0,none⟩) p.ns.length p.ns.length) (usesN (List.replicate p.ns.length 0) (p.ns.take k))/\UpTo (usesN (List.replicate p.ns.length 0) (p.ns.take k)) (3*k)) (fun i _=>p.ns.length - (intOf i).toNat)
 case atStart=>exact ⟨0,by omega,rfl,X1.out,bB1.out,HO.out,UpTo.zero _⟩
 case round=>
  clear HO X1 bB1 q q0 q1;obtain ⟨k,hk,rfl,hx,hB,hO,hU⟩:=hrel;have HX:=hid hx;have HB:=hid hB;have HO:=hid hO;have HU:=hid hU
  by_cases hlt:k<p.ns.length
  ·obtain ⟨b,off,op,s,num,sa,sc,ra,rfl,hb1,hbw,hget,io,inn,hI,HI,y0,y1,y2,y3⟩:=HN.atW hlt hx hh
   have li1:=HI.le;have li2:=HI.cap;have HG1:=hid hget;have hb9:=HND.out k hlt;rw [Prg.ndB_at hget,Bool.and_eq_true] at hb9;have HBA:=hid hb9.1;have lar:Hid (ra.length<=3):=hid (nodeF_len hb9.2);have q0:Ext wr (wr.alloc (.cells #[op,.string s,num,.slice sa ra.length sc] 243)):=X_;have HXX:=hid (hx.trans q0);have HB2:=hid (hB.ext q0);have HO2:=hid (hO.ext q0);clear hget hx hB hO hU hI q0 hb9 HB HO HX;go_wp2
   go_loopw [24] (fun i wq=>∃j:Nat,j<=ra.length/\i = .int .i64 j/\Ext w wq/\Bx wq w.heap.size #[.slice (some ⟨b,off,none⟩) p.ns.length c1,.slice a2 p.gs.length c2] 132/\OwnInts (w.heap.size+1) wq (.slice (some ⟨w.heap.size+1,0,none⟩) p.ns.length p.ns.length) (bumpL (usesN (List.replicate p.ns.length 0) (p.ns.take k)) (ra.take j))/\UpTo (bumpL (usesN (List.replicate p.ns.length 0) (p.ns.take k)) (ra.take j)) (3*k+j)) (fun i _=>ra.length - (intOf i).toNat)
   case atStart=>exact ⟨0,by omega,rfl,HXX.out,HB2.out,HO2.out,HU.out⟩
   case round=>
    clear HB2 HO2 HXX;obtain ⟨j,hj,rfl,hx,hB,hO,hU⟩:=hrel;have HX:=hid hx;have HB:=hid hB;have HO:=hid hO;have HU:=hid hU
    by_cases hlj:j<ra.length
    ·obtain ⟨b3,off3,y,rfl,hb3,hy,_,hc3⟩:=HI.atE hlj hx hh
     obtain ⟨hy1,hy2⟩:=args_at HBA.out hy
     obtain ⟨q,rfl⟩:∃q:Nat,y=q:=⟨y.toNat,by omega⟩
     have hq:q<p.ns.length:=by omega
     have hjl:=lar.out;obtain ⟨x,hx1,hx2,hx3,hx4,hx5,hx6,hx7⟩:=hO.bump (by rw [bumpL_len,usesN_len,List.length_replicate]) hq hU (by omega);have HY:=hid hy;have HS:=hid hx7;clear hx hB hO hU hy hx7 hjl;go_wp2;go_roundw
     case rel=>
      refine ⟨j+1,by omega,by go_num,?_,?_,?_,?_⟩
      ·have hx:=HX.out
       exact S_
      ·exact HB.out.other (by simp) _
      ·rw [<-bumpL_step HY.out,Int.toNat_natCast]
       exact HS.out
      ·rw [<-bumpL_step HY.out]
       exact (HU.out.bump _).mono (by omega)
     case measure=>simp [intOf];omega
    ·obtain rfl:j=ra.length:=by omega
     rw [List.take_length] at hO hU;rw [usesN_step HG1.out] at hO hU;have HO:=hid hO;have HU:=hid hU;have hjl:=lar.out;clear hB hO hU hx;go_wp2;go_roundw
     case rel=>exact ⟨k+1,by omega,by go_num,HX.out,HB.out,HO.out,HU.out.mono (by omega)⟩
     case measure=>simp [intOf];omega
  ·obtain rfl:k=p.ns.length:=by omega
   rw [List.take_length] at hO hU;have HO:=hid (show OwnInts (w.heap.size+1) wr (.slice (some ⟨w.heap.size+1,0,none⟩) p.ns.length p.ns.length) p.usesA from hO);have HU:=hid (show UpTo p.usesA (3*p.ns.length) from hU);have q:=hB.lt;have q0:=hB.cell 0;simp only [List.getElem?_toArray,List.getElem?_cons_zero,List.getElem?_cons_succ] at q0;have q1:=hB.cell 1;simp only [List.getElem?_toArray,List.getElem?_cons_zero,List.getElem?_cons_succ] at q1;clear hO hU hx hB;go_wp2
   go_loopw [39] (fun i wr=>∃k:Nat,k<=p.gs.length/\i = .int .i64 k/\Ext w wr/\OwnInts (w.heap.size+1) wr (.slice (some ⟨w.heap.size+1,0,none⟩) p.ns.length p.ns.length) (usesG p.usesA (p.gs.take k))/\UpTo (usesG p.usesA (p.gs.take k)) (3*p.ns.length+k)) (fun i _=>p.gs.length - (intOf i).toNat)
   case atStart=>exact ⟨0,by omega,rfl,HX.out,HO.out,HU.out⟩
   case round=>
    clear HO HX HB HU q q0 q1;obtain ⟨k,hk,rfl,hx,hO,hU⟩:=hrel;have HX:=hid hx;have HO:=hid hO;have HU:=hid hU
    by_cases hlt:k<p.gs.length
    ·obtain ⟨b,off,s,rt,rfl,hb1,hbw,hdrop,hget,ir,y0,y1⟩:=HG.at hlt hx hh
     have HG1:=hid hget;have hb9:=HAG.out k hlt;rw [Prg.agB_at hget,Bool.and_eq_true] at hb9;have hba:0<=rt/\rt<=(p.ns.length:Int) - 1:=inB_iff.1 hb9.2;have q0:Ext wr (wr.alloc (.cells #[.string s,rt] 194)):=X_;have hO2:=hO.ext q0;have HXX:=hid (hx.trans q0);have zx:=q0.size
     obtain ⟨r,rfl⟩:∃r:Nat,rt=r:=⟨rt.toNat,by omega⟩
     have hr:r<p.ns.length:=by omega
     obtain ⟨x,hx1,hx2,hx3,hx4,hx5,hx6,hx7⟩:=hO2.bump (by rw [usesG_len,Prg.usesA_len]) hr HU.out (by omega);have HS:=hid hx7
     have hx3':w.heap.size<wr.heap.size:=by have:=hO.lt _ rfl;omega
     clear hO hO2 HO HX hx7 hba hb9 hdrop hget hx hU q0;go_wp2;go_roundw
     case rel=>
      refine ⟨k+1,by omega,by go_num,?_,?_,?_⟩
      ·have hx:=HXX.out
       exact S_
      ·rw [<-usesG_step HG1.out,Int.toNat_natCast]
       exact HS.out
      ·rw [<-usesG_step HG1.out]
       exact (HU.out.bump _).mono (by omega)
     case measure=>simp [intOf];omega
    ·obtain rfl:k=p.gs.length:=by omega
     rw [List.take_length] at hO;have HO:=hid (show OwnInts (w.heap.size+1) wr (.slice (some ⟨w.heap.size+1,0,none⟩) p.ns.length p.ns.length) p.uses from hO);clear hO hU hx;go_wp2;go_ret;exact ⟨_,_,rfl,HO.out.low (by omega),HX.out⟩
theorem sIsValidProgram_any (lo hi:Nat) (v:Value) (p:Prg) (w:World) (hv:p.R lo hi w v) (hh:hi<=w.heap.size) (hb:p.bd) (hnl:p.ns.length<=1048576) (hgl:p.gs.length<=1048576) :
  Calls Tryz.prog 179 #[v] w fun e w'=>e = .returned (.bool p.okB)/\Ext w w':=by
 have HV:=hid hv;obtain ⟨a1,c1,a2,c2,rfl,HN,HG⟩:=hv.form;have l1:=HN.le;have l2:=HN.cap;have l3:=HG.le;have l4:=HG.cap;have HBD:=hid hb;clear hv hb;have bB:=hid (Bx.made w #[.slice a1 p.ns.length c1,.slice a2 p.gs.length c2] 132);have X1:=hid (show Ext w (w.alloc (.cells #[.slice a1 p.ns.length c1,.slice a2 p.gs.length c2] 132)) from X_);go_enter Tryz.func179,Tryz.ntmps179;go_wp2
 go_loopw [12] (fun i wr=>∃k:Nat,k<=p.ns.length/\i = .int .i64 k/\(∀j,j<k->p.ndB j=true)/\Ext w wr/\Bx wr w.heap.size #[.slice a1 p.ns.length c1,.slice a2 p.gs.length c2] 132) (fun i _=>p.ns.length - (intOf i).toNat)
 case atStart=>exact ⟨0,by omega,rfl,fun j h=>by omega,X1.out,bB.out⟩
 case round=>
  clear X1 bB;obtain ⟨k,hk,rfl,hall,hx,hB⟩:=hrel;have HA:=hid hall;have HX:=hid hx;have HB:=hid hB
  by_cases hlt:k<p.ns.length
  ·obtain ⟨b,off,op,s,num,sa,sc,ra,rfl,hb1,hbw,hget,io,inn,hI,HI,y0,y1,y2,y3⟩:=HN.atW hlt hx hh
   have HII:=hid (hI.ext hh hx);have li1:=HI.le;have li2:=HI.cap;have HG1:=hid hget;have hsz:=hid (HBD.out.1 _ (List.mem_of_getElem? hget));have zx:=hx.size;have q0:Ext wr (wr.alloc (.cells #[op,.string s,num,.slice sa ra.length sc] 243)):=X_;clear hget hall hx hB hI HI
   obtain ⟨bn,hbn⟩:∃b,(argsB ra k&&nodeF ⟨op,s,num,ra⟩)=b:=⟨_,rfl⟩
   have HBN:=hid hbn;have HND:Hid (p.ndB k=bn):=hid (by rw [Prg.ndB_at HG1.out,hbn]);clear hbn;go_wp2_with fail;refine (sNode_val HBN.out lo hi _ _ (HII.out.ext (by omega) q0) (by simp;omega) hsz.out (by omega) (by omega)).mono ?_;rintro e w2 ⟨rfl,x2⟩;have X2:=q0.trans x2;clear q0 x2
   cases bn
   ·go_wp2
    go_ret;refine ⟨ret_bool ?_,HX.out.trans X2⟩;unfold Prg.okB;rw [rng_no hlt HND.out];simp
   ·have HB2:=hid (HB.out.ext X2)
    go_wp2;go_roundw
    case rel=>
     refine ⟨k+1,by omega,by go_num,fun i hi=>?_,HX.out.trans X2,HB2.out⟩
     by_cases e:i=k
     ·subst e;exact HND.out
     ·exact HA.out i (by omega)
    case measure=>simp [intOf];omega
  ·obtain rfl:k=p.ns.length:=by omega
   have q:=hB.lt;have q0:=hB.cell 0;simp only [List.getElem?_toArray,List.getElem?_cons_zero,List.getElem?_cons_succ] at q0;have q1:=hB.cell 1;simp only [List.getElem?_toArray,List.getElem?_cons_zero,List.getElem?_cons_succ] at q1;clear hall hx hB;go_wp2
   go_loopw [25] (fun i wr=>∃k:Nat,k<=p.gs.length/\i = .int .i64 k/\(∀j,j<k->p.agB j=true)/\Ext w wr/\Bx wr w.heap.size #[.slice a1 p.ns.length c1,.slice a2 p.gs.length c2] 132) (fun i _=>p.gs.length - (intOf i).toNat)
   case atStart=>exact ⟨0,by omega,rfl,fun j h=>by omega,HX.out,HB.out⟩
   case round=>
    clear HX HB q q0 q1;obtain ⟨k,hk,rfl,hall,hx,hB⟩:=hrel;have HA2:=hid hall;have HX:=hid hx;have HB:=hid hB
    by_cases hlt:k<p.gs.length
    ·obtain ⟨b,off,s,rt,rfl,hb1,hbw,hdrop,hget,ir,y0,y1⟩:=HG.at hlt hx hh
     have HG1:=hid hget;have hsz:=hid (HBD.out.2 _ (List.mem_of_getElem? hget));have zx:=hx.size;have bQ:=Bx.made wr #[.string s,rt] 194;have q0:Ext wr (wr.alloc (.cells #[.string s,rt] 194)):=X_;have HBw:=hid (hB.ext q0);have hBw:=HBw.out;have d:=hBw.lt;have d0:=hBw.cell 0;simp only [List.getElem?_toArray,List.getElem?_cons_zero,List.getElem?_cons_succ] at d0;have d1:=hBw.cell 1;simp only [List.getElem?_toArray,List.getElem?_cons_zero,List.getElem?_cons_succ] at d1;clear hdrop hget hall hx hB hBw
     obtain ⟨bn,hbn⟩:∃b,identB s=b:=⟨_,rfl⟩
     obtain ⟨ba,hba⟩:∃b,inB rt 0 ((p.ns.length:Int) - 1)=b:=⟨_,rfl⟩
     have HBN:=hid hbn;have HBA:=hid hba;have HND:Hid (p.agB k=(bn&&ba)):=hid (by rw [Prg.agB_at HG1.out,hba,hbn]);clear hbn hba;go_wp2_with fail;refine (sIsIdentifier_val HBN.out _ hsz.out).mono ?_;rintro e w2 ⟨rfl,rfl⟩
     cases bn
     ·go_wp2
      go_ret;refine ⟨ret_bool ?_,HX.out.trans q0⟩;unfold Prg.okB;rw [rng_no (p:=p.agB) hlt (by rw [HND.out];simp)];simp
     go_wp2_with fail;refine (l01In_val HBA.out _).mono ?_;rintro e w3 ⟨rfl,rfl⟩
     cases ba
     ·go_wp2
      go_ret;refine ⟨ret_bool ?_,HX.out.trans q0⟩;unfold Prg.okB;rw [rng_no (p:=p.agB) hlt (by rw [HND.out];simp)];simp
     go_wp2;go_roundw
     case rel=>
      refine ⟨k+1,by omega,by go_num,fun i hi=>?_,HX.out.trans q0,HBw.out⟩
      by_cases e:i=k
      ·subst e;exact HND.out
      ·exact HA2.out i (by omega)
     case measure=>simp [intOf];omega
    ·obtain rfl:k=p.gs.length:=by omega
     have zx:=hx.size;have HUL:Hid (p.uses.length=p.ns.length):=hid (by unfold Prg.uses;rw [usesG_len,Prg.usesA_len])
     have HOK:Hid (p.okB=(p.uses.all (· == 1)&&decide (p.ns.length<=60))):=hid (by
      unfold Prg.okB;rw [rng_all HA.out,rng_all HA2.out]
      simp [Bool.and_comm])
     have q:=hB.lt;have q0:=hB.cell 0;simp only [List.getElem?_toArray,List.getElem?_cons_zero,List.getElem?_cons_succ] at q0;have q1:=hB.cell 1;simp only [List.getElem?_toArray,List.getElem?_cons_zero,List.getElem?_cons_succ] at q1;have hv:=HV.out.ext hh hx;have HV2:=hid hv;clear hall hx hB hv;go_wp2_with fail;refine (sUses_any lo hi _ p _ HV2.out (by omega) hnl hgl HA.out HA2.out).mono ?_;rintro e w3 ⟨ua,uc,rfl,hO,x3⟩;have hI:=hO.ints;have e0:=HUL.out;obtain ⟨ua',uc',e1,HU⟩:=hI.open;rw [e0] at e1;simp only [Value.slice.injEq,true_and] at e1;obtain ⟨rfl,rfl⟩:=e1;have lu1:=HU.le;have lu2:=HU.cap;have HX3:=hid (HX.out.trans x3);have HB3:=hid (HB.out.ext x3);clear hO hI x3;go_wp2
     go_loopw [47] (fun i wq=>∃k:Nat,k<=p.ns.length/\i = .int .i64 k/\wq=w3/\(p.uses.take k).all (· == 1)=true) (fun i _=>p.ns.length - (intOf i).toNat)
     case atStart=>exact ⟨0,by omega,rfl,rfl,rfl⟩
     case round=>
      obtain ⟨k,hk,rfl,rfl,hall⟩:=hrel;have HA3:=hid hall;clear hall
      by_cases hlt:k<p.uses.length
      ·obtain ⟨b,off,rfl,hb1,hb2,hc⟩:=HU.at hlt
       by_cases h1:p.uses[k]=1
       ·rw [h1] at hc
        have H1:=hid h1;clear h1;go_wp2;go_roundw
        case rel=>exact ⟨k+1,by omega,by go_num,by trivial,all_step hlt HA3.out (by simp [H1.out])⟩
        case measure=>simp [intOf];omega
       ·obtain ⟨y,hy⟩:∃y,p.uses[k]=y:=⟨_,rfl⟩
        have H1:=hid (all_one_no hlt h1);rw [hy] at hc h1;have h2:(y==1)=false:=beq_eq_false_iff_ne.2 h1;clear hy;go_wp2;go_ret;exact ⟨ret_bool (by rw [HOK.out,H1.out];rfl),HX3.out⟩
      ·have hA:=HA3.out
       rw [List.take_of_length_le (by omega)] at hA;have HA4:=hid hA;have hB:=HB3.out;have q:=hB.lt;have q0:=hB.cell 0;simp only [List.getElem?_toArray,List.getElem?_cons_zero,List.getElem?_cons_succ] at q0;have q1:=hB.cell 1;simp only [List.getElem?_toArray,List.getElem?_cons_zero,List.getElem?_cons_succ] at q1;clear hA hB;go_wp2;go_ret;exact ⟨ret_bool (by rw [HOK.out,HA4.out];simp;omega),HX3.out⟩
end Go.Proofs.YtfjbiifebcfjfaaGreat
