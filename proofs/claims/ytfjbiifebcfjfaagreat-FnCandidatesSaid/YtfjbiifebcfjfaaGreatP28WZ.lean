/- Texts of this claim, one behind another; what its theorem does not use is left out: Dw2, Dr2, Dw3, Dw4, Dw5, Dw6, LiftTex, LiftBy0, Dw7, Sc6, Dw8, Dw9, LawCand, P28. -/
import Derived.Test.YtfjbiifebcfjfaaGreatP28W7
import Derived.Test.YtfjbiifebcfjfaaGreatP28W5
import Derived.Test.YtfjbiifebcfjfaaGreatP28W6
import Derived.Test.YtfjbiifebcfjfaaGreatP28W4
import Derived.Test.YtfjbiifebcfjfaaGreatP28W1
import Derived.OpenShut
import Derived.ShutString
import Derived.ChangeOld
import Derived.Below
import Derived.Carry
import Derived.Lib.SmallJoins
import Derived.Test.YtfjbiifebcfjfaaGreatP28W2
import Derived.Test.YtfjbiifebcfjfaaGreatRows
import Derived.ProofKit
set_option linter.unusedSimpArgs false
set_option linter.unusedVariables false
set_option maxRecDepth 100000
set_option maxHeartbeats 12800000
namespace Go.Proofs.YtfjbiifebcfjfaaGreat
open Go.RowKit
structure PtSm (f:Nat->Int):Prop where
 bd:∀j,-2000<=f j/\f j<=2000
 z:60<=f 2/\60<=f 5/\60<=f 8/\60<=f 11
theorem SmF.pt {f:Nat->Int} (h:SmF f) (k:Z60 4 f):PtSm f:=⟨fun j=>by have:=h j;omega,k 0 (by decide),k 1 (by decide),k 2 (by decide),k 3 (by decide)⟩
theorem SmF.mov {f:Nat->Int} (h:SmF f) (k:Z60 4 f) {dx dy dz:Int} (hd:(-60<=dx/\dx<=60)/\(-60<=dy/\dy<=60)/\(0<=dz/\dz<=60)):PtSm (movP f dx dy dz):=
 ⟨fun j=>by have:=movP_bd (f:=f) (dx:=dx) (dy:=dy) (dz:=dz) ⟨hd.1,hd.2.1,by omega⟩ h j;omega,movP_z hd.2.2.1 rfl (k 0 (by decide)),movP_z hd.2.2.1 rfl (k 1 (by decide)),movP_z hd.2.2.1 rfl (k 2 (by decide)),movP_z hd.2.2.1 rfl (k 3 (by decide))⟩
structure SrfSm (f g:Nat->Int) (sh rt:Int) (n:Nat):Prop where
 f:PtSm f
 g:PtSm g
 sh:0<=sh/\sh<n
 rt:rt=1\/rt=2\/rt=4
theorem SrfSm.ok {f g:Nat->Int} {sh rt:Int} {n:Nat} (h:SrfSm f g sh rt n):srfB f g sh rt n=true:=
 srfB_iff.2 ⟨patB_of fun j _=>by have:=h.f.bd j;omega,patB_of fun j _=>by have:=h.g.bd j;omega,h.sh,by have:=h.rt;omega⟩
theorem SrfSm.near {f g:Nat->Int} {sh rt:Int} {n:Nat} (h:SrfSm f g sh rt n):60<=nearS f g:=near_ge (by decide) h.f.z h.g.z
theorem row12_tr {w:World} {dx dy dz:Int}:RowI (w.alloc (.cells #[.int .i64 16,(),(),(),.int .i64 16,(),(),(),.int .i64 16,dx,dy,dz] 226)) w.heap.size 226 12 (trX dx dy dz):=
 World.rowIs_alloc _ _ _ _ fun i hi=>by rcases twelve1 hi with h|h|h|h|h|h|h|h|h|h|h|h <;> subst h <;> rfl
theorem Gr.rowNew {B:Nat} {wa w:World} (h:Gr B wa w) {b:Nat} (hb:wa.heap.size<=b) (cs:Array Value):Gr B wa (w.setRow b cs):=
 ⟨h.os,h.tape,h.output,by rw [size_setRowB];exact h.size,fun k hk hne=>(setRow_other _ _ _ _ (by omega)).trans (h.block k hk hne)⟩
theorem Cur.rowNew {hi:Nat} {w:World} {B b:Nat} (h:Cur hi w B) (hb:B<b) (cs:Array Value):Cur hi (w.setRow b cs) B:=h.keep fun k hk=>setRow_other _ _ _ _ (by omega)
theorem l20Surf_any (hi B n:Nat) (hn:1<=n/\n<=3) (w:World) (hc:Cur hi w B):Calls Tryz.prog 86 #[.pointer (some ⟨B,0,none⟩),(n:Nat)] w fun e w'=>∃(f g:Nat->Int) (sh rt:Int),e = .returned (.agg #[(f 0),(f 1),(f 2),(f 3),(f 4),(f 5),(f 6),(f 7),(f 8),(f 9),(f 10),(f 11),(g 0),(g 1),(g 2),(g 3),(g 4),(g 5),(g 6),(g 7),(g 8),(g 9),(g 10),(g 11),sh,rt])/\SrfSm f g sh rt n/\Cur hi w' B/\Gr B w w':=by
 have zB:=hc.lt;have x0:Ext w (w.alloc (.cells #[(),(),(),(),(),(),(),(),(),(),(),(),(),(),(),(),(),(),(),(),(),(),(),(),(),()] 42)):=X_;have HQ:=hid (Blk.new w 42 [(),(),(),(),(),(),(),(),(),(),(),(),(),(),(),(),(),(),(),(),(),(),(),(),(),()]);have HC0:=hid (hc.ext x0);have HX0:=hid x0;have z1:(w.alloc (.cells #[(),(),(),(),(),(),(),(),(),(),(),(),(),(),(),(),(),(),(),(),(),(),(),(),(),()] 42)).heap.size=w.heap.size+1:=World.size_alloc _ _;clear hc x0;go_enter Tryz.func86,Tryz.ntmps86;go_wp2_with fail;refine (l05Draw_z hi B _ HC0.out).mono ?_;rintro e w1 ⟨f,rfl,hf,hz6,C1,G1⟩;have HF:=hid hf;have HZ:=hid hz6;clear hf hz6;go_wp2_with fail;refine (l01Below_any hi B n _ C1 (by omega) ⟨by omega,by omega⟩).mono ?_;rintro e w2 ⟨sh,rfl,hsh,C2,G2⟩;go_wp2_with fail;refine (l01Pick_any hi B w2.heap.size 4 [1,2,2,4] _ (C2.ext X_) (Blk.new w2 3 [.int .i64 1,.int .i64 2,.int .i64 2,.int .i64 4]) (by have:=C2.lt;omega) rfl (by decide) (by decide)).mono ?_;rintro e w3 ⟨rt,rfl,hrt,C3,G3⟩
 have hrt2:rt=1\/rt=2\/rt=4:=by simp at hrt;omega
 have GG:=((Gr.refl B w).ext HX0.out).trans (G1.trans (G2.trans (((Gr.refl B w2).ext (show Ext w2 (w2.alloc (.cells #[.int .i64 1,.int .i64 2,.int .i64 2,.int .i64 4] 3)) from X_)).trans G3)));have RR:=(G1.trans (G2.trans (((Gr.refl B w2).ext (show Ext w2 (w2.alloc (.cells #[.int .i64 1,.int .i64 2,.int .i64 2,.int .i64 4] 3)) from X_)).trans G3))).blk HQ.out (by omega);have HG:=hid GG;have HR:=hid RR;have HC3:=hid C3;have HRT:=hid hrt2;have z3:=GG.size;have l3:=RR.lt;clear C1 G1 C2 G2 C3 G3 GG RR hrt hrt2 HC0 HQ HX0;go_upto_region 2 with (show wpList _ _ _ [_] _ _;refine wpList_store_fresh _ _ _ rfl 42 (.tmp 5) (.tmp 14) rfl rfl #[(f 0),(f 1),(f 2),(f 3),(f 4),(f 5),(f 6),(f 7),(f 8),(f 9),(f 10),(f 11),(),(),(),(),(),(),(),(),(),(),(),(),sh,rt] w3.heap.size rfl rfl rfl (by kernel_rfl) (by kernel_rfl) (by kernel_rfl) ?_)
 obtain ⟨A,hA⟩:∃A,w3.heap.size=A:=⟨_,rfl⟩
 rw [hA];have b4:=Blk.new w3 42 [(f 0),(f 1),(f 2),(f 3),(f 4),(f 5),(f 6),(f 7),(f 8),(f 9),(f 10),(f 11),(),(),(),(),(),(),(),(),(),(),(),(),sh,rt];have x4:Ext w3 (w3.alloc (.cells #[(f 0),(f 1),(f 2),(f 3),(f 4),(f 5),(f 6),(f 7),(f 8),(f 9),(f 10),(f 11),(),(),(),(),(),(),(),(),(),(),(),(),sh,rt] 42)):=X_;rw [hA] at b4;have HG4:=hid (HG.out.ext x4);have HR4:=hid (HR.out.ext x4);have HC4:=hid (HC3.out.ext x4)
 obtain ⟨W4,hW4⟩:∃W,w3.alloc (.cells #[(f 0),(f 1),(f 2),(f 3),(f 4),(f 5),(f 6),(f 7),(f 8),(f 9),(f 10),(f 11),(),(),(),(),(),(),(),(),(),(),(),(),sh,rt] 42)=W:=⟨_,rfl⟩
 rw [hW4] at HG4 HR4 HC4 b4 ⊢;have HB4:=hid b4
 have hBA:B<A:=by omega
 have hRA:w.heap.size<A:=by omega
 clear hW4 x4 HG HR HC3 hA z3 l3;have c0:=b4.cell 0 rfl;have k0:=b4.free 0;have c1:=b4.cell 1 rfl;have k1:=b4.free 1;have c2:=b4.cell 2 rfl;have k2:=b4.free 2;have c3:=b4.cell 3 rfl;have k3:=b4.free 3;have c4:=b4.cell 4 rfl;have k4:=b4.free 4;have c5:=b4.cell 5 rfl;have k5:=b4.free 5;have c6:=b4.cell 6 rfl;have k6:=b4.free 6;have c7:=b4.cell 7 rfl;have k7:=b4.free 7;have c8:=b4.cell 8 rfl;have k8:=b4.free 8;have c9:=b4.cell 9 rfl;have k9:=b4.free 9;have c10:=b4.cell 10 rfl;have k10:=b4.free 10;have c11:=b4.cell 11 rfl;have k11:=b4.free 11;have c12:=b4.cell 12 rfl;have k12:=b4.free 12;have c13:=b4.cell 13 rfl;have k13:=b4.free 13;have c14:=b4.cell 14 rfl;have k14:=b4.free 14;have c15:=b4.cell 15 rfl;have k15:=b4.free 15;have c16:=b4.cell 16 rfl;have k16:=b4.free 16;have c17:=b4.cell 17 rfl;have k17:=b4.free 17;have c18:=b4.cell 18 rfl;have k18:=b4.free 18;have c19:=b4.cell 19 rfl;have k19:=b4.free 19;have c20:=b4.cell 20 rfl;have k20:=b4.free 20;have c21:=b4.cell 21 rfl;have k21:=b4.free 21;have c22:=b4.cell 22 rfl;have k22:=b4.free 22;have c23:=b4.cell 23 rfl;have k23:=b4.free 23;have c24:=b4.cell 24 rfl;have k24:=b4.free 24;have c25:=b4.cell 25 rfl;have k25:=b4.free 25;have bl:=b4.lt;clear b4;go_upto_region 3 with fail
 have b5:Blk ((((((((((((W4.setCell ⟨A,12,none⟩ (f 0)).setCell ⟨A,13,none⟩ (f 1)).setCell ⟨A,14,none⟩ (f 2)).setCell ⟨A,15,none⟩ (f 3)).setCell ⟨A,16,none⟩ (f 4)).setCell ⟨A,17,none⟩ (f 5)).setCell ⟨A,18,none⟩ (f 6)).setCell ⟨A,19,none⟩ (f 7)).setCell ⟨A,20,none⟩ (f 8)).setCell ⟨A,21,none⟩ (f 9)).setCell ⟨A,22,none⟩ (f 10)).setCell ⟨A,23,none⟩ (f 11)) A 42 [(f 0),(f 1),(f 2),(f 3),(f 4),(f 5),(f 6),(f 7),(f 8),(f 9),(f 10),(f 11),(f 0),(f 1),(f 2),(f 3),(f 4),(f 5),(f 6),(f 7),(f 8),(f 9),(f 10),(f 11),sh,rt]:=((((((((((((HB4.out.set 12 _).set 13 _).set 14 _).set 15 _).set 16 _).set 17 _).set 18 _).set 19 _).set 20 _).set 21 _).set 22 _).set 23 _)
 have C5:Cur hi ((((((((((((W4.setCell ⟨A,12,none⟩ (f 0)).setCell ⟨A,13,none⟩ (f 1)).setCell ⟨A,14,none⟩ (f 2)).setCell ⟨A,15,none⟩ (f 3)).setCell ⟨A,16,none⟩ (f 4)).setCell ⟨A,17,none⟩ (f 5)).setCell ⟨A,18,none⟩ (f 6)).setCell ⟨A,19,none⟩ (f 7)).setCell ⟨A,20,none⟩ (f 8)).setCell ⟨A,21,none⟩ (f 9)).setCell ⟨A,22,none⟩ (f 10)).setCell ⟨A,23,none⟩ (f 11)) B:=((((((((((((HC4.out.setNew (b:=A) hBA 12 _).setNew (b:=A) hBA 13 _).setNew (b:=A) hBA 14 _).setNew (b:=A) hBA 15 _).setNew (b:=A) hBA 16 _).setNew (b:=A) hBA 17 _).setNew (b:=A) hBA 18 _).setNew (b:=A) hBA 19 _).setNew (b:=A) hBA 20 _).setNew (b:=A) hBA 21 _).setNew (b:=A) hBA 22 _).setNew (b:=A) hBA 23 _)
 have G5:Gr B w ((((((((((((W4.setCell ⟨A,12,none⟩ (f 0)).setCell ⟨A,13,none⟩ (f 1)).setCell ⟨A,14,none⟩ (f 2)).setCell ⟨A,15,none⟩ (f 3)).setCell ⟨A,16,none⟩ (f 4)).setCell ⟨A,17,none⟩ (f 5)).setCell ⟨A,18,none⟩ (f 6)).setCell ⟨A,19,none⟩ (f 7)).setCell ⟨A,20,none⟩ (f 8)).setCell ⟨A,21,none⟩ (f 9)).setCell ⟨A,22,none⟩ (f 10)).setCell ⟨A,23,none⟩ (f 11)):=((((((((((((HG4.out.setNew (b:=A) (by omega) 12 _).setNew (b:=A) (by omega) 13 _).setNew (b:=A) (by omega) 14 _).setNew (b:=A) (by omega) 15 _).setNew (b:=A) (by omega) 16 _).setNew (b:=A) (by omega) 17 _).setNew (b:=A) (by omega) 18 _).setNew (b:=A) (by omega) 19 _).setNew (b:=A) (by omega) 20 _).setNew (b:=A) (by omega) 21 _).setNew (b:=A) (by omega) 22 _).setNew (b:=A) (by omega) 23 _)
 have R5:Blk ((((((((((((W4.setCell ⟨A,12,none⟩ (f 0)).setCell ⟨A,13,none⟩ (f 1)).setCell ⟨A,14,none⟩ (f 2)).setCell ⟨A,15,none⟩ (f 3)).setCell ⟨A,16,none⟩ (f 4)).setCell ⟨A,17,none⟩ (f 5)).setCell ⟨A,18,none⟩ (f 6)).setCell ⟨A,19,none⟩ (f 7)).setCell ⟨A,20,none⟩ (f 8)).setCell ⟨A,21,none⟩ (f 9)).setCell ⟨A,22,none⟩ (f 10)).setCell ⟨A,23,none⟩ (f 11)) w.heap.size 42 [(),(),(),(),(),(),(),(),(),(),(),(),(),(),(),(),(),(),(),(),(),(),(),(),(),()]:=((((((((((((HR4.out.other (a:=⟨A,12,none⟩) (by simp only;omega) _).other (a:=⟨A,13,none⟩) (by simp only;omega) _).other (a:=⟨A,14,none⟩) (by simp only;omega) _).other (a:=⟨A,15,none⟩) (by simp only;omega) _).other (a:=⟨A,16,none⟩) (by simp only;omega) _).other (a:=⟨A,17,none⟩) (by simp only;omega) _).other (a:=⟨A,18,none⟩) (by simp only;omega) _).other (a:=⟨A,19,none⟩) (by simp only;omega) _).other (a:=⟨A,20,none⟩) (by simp only;omega) _).other (a:=⟨A,21,none⟩) (by simp only;omega) _).other (a:=⟨A,22,none⟩) (by simp only;omega) _).other (a:=⟨A,23,none⟩) (by simp only;omega) _)
 obtain ⟨W5,hW5⟩:∃W,((((((((((((W4.setCell ⟨A,12,none⟩ (f 0)).setCell ⟨A,13,none⟩ (f 1)).setCell ⟨A,14,none⟩ (f 2)).setCell ⟨A,15,none⟩ (f 3)).setCell ⟨A,16,none⟩ (f 4)).setCell ⟨A,17,none⟩ (f 5)).setCell ⟨A,18,none⟩ (f 6)).setCell ⟨A,19,none⟩ (f 7)).setCell ⟨A,20,none⟩ (f 8)).setCell ⟨A,21,none⟩ (f 9)).setCell ⟨A,22,none⟩ (f 10)).setCell ⟨A,23,none⟩ (f 11))=W:=⟨_,rfl⟩
 rw [hW5] at b5 C5 G5 R5 ⊢;have HB5:=hid b5;have HC5:=hid C5;have HG5:=hid G5;have HR5:=hid R5;clear hW5 b5 C5 G5 R5 HB4 HC4 HG4 HR4 c0 c1 c2 c3 c4 c5 c6 c7 c8 c9 c10 c11 c12 c13 c14 c15 c16 c17 c18 c19 c20 c21 c22 c23 c24 c25 k0 k1 k2 k3 k4 k5 k6 k7 k8 k9 k10 k11 k12 k13 k14 k15 k16 k17 k18 k19 k20 k21 k22 k23 k24 k25 bl;go_wp2_with fail;refine (l01Once_any hi B 2 _ HC5.out (by decide) ⟨by decide,by decide⟩).mono ?_;rintro e w6 ⟨o,rfl,C6,G6⟩;have HB6:=hid (G6.blk HB5.out (by omega));have HR6:=hid (G6.blk HR5.out (by omega));have HC6:=hid C6;have HG6:=hid (HG5.out.trans G6);clear C6 G6 HB5 HR5 HC5 HG5
 cases o
 case' true=>
  have b6:=HB6.out;have l6:=b6.lt
  have hcs:∀j,j<12->w6.cell? ⟨A,j,none⟩=some (.int .i64 (f j)):=fun j hj=>by rcases twelve1 hj with h|h|h|h|h|h|h|h|h|h|h|h <;> subst h <;> exact b6.cell _ rfl
  obtain ⟨c0,c1,c2,c3,c4,c5,c6,c7,c8,c9,c10,c11⟩:=b6.q12;clear b6 hcs;go_upto_region 4 with fail;refine wp_region_stagesS [([0,3,6,11,12],1),([2],4),([5],7),([8],9),([],10),([],13),([14],15)] 15 (fun w'=>∃d,w'=lowc (CBox A) _ d) (by kernel_rfl) (by kernel_rfl) (SC.drew _ _) ?_;refine sc_ fun K hK=>?_;go_wp2_with fail;refine (l01Below_any hi B 60 _ (HC6.out.ext (Ext.drew (Ext.refl _))) (by decide) ⟨by decide,by decide⟩).mono ?_;rintro e v1 ⟨ax,rfl,hax,C1,G1⟩;have g1:Gr B w6 v1:=((Gr.refl B w6).ext (Ext.drew (Ext.refl _))).trans G1;go_wp2_with fail;refine hK _ _ (.inr (SC.blocks fun a ha=>g1.keep (by rw [ha];exact l6) (by rw [ha];omega))) ?_;clear hK K;refine sc_ fun K hK=>?_;go_wp2_with fail;refine (l01Below_any hi B 60 _ C1 (by decide) ⟨by decide,by decide⟩).mono ?_;rintro e v2 ⟨ay,rfl,hay,C2,G2⟩;have g2:Gr B w6 v2:=g1.trans G2;go_wp2_with fail;refine hK _ _ (.inr (SC.blocks fun a ha=>g2.keep (by rw [ha];exact l6) (by rw [ha];omega))) ?_;clear hK K;refine sc_ fun K hK=>?_;go_wp2_with fail;refine (l01Below_any hi B 30 _ C2 (by decide) ⟨by decide,by decide⟩).mono ?_;rintro e v3 ⟨dz,rfl,hdz,C3,G3⟩;have g3:Gr B w6 v3:=g2.trans G3;go_wp2_with fail;refine hK _ _ (.inr (SC.blocks fun a ha=>g3.keep (by rw [ha];exact l6) (by rw [ha];omega))) ?_;clear hK K;refine sc_ fun K hK=>?_;go_wp2_with fail
  obtain ⟨dx,hdx⟩:∃d,ax - 30=d:=⟨_,rfl⟩
  obtain ⟨dy,hdy⟩:∃d,ay - 30=d:=⟨_,rfl⟩
  rw [hdx,hdy]
  have bd:(-60<=dx/\dx<=60)/\(-60<=dy/\dy<=60)/\(0<=dz/\dz<=60):=by omega
  have HD:=hid bd;clear hdx hdy;refine (sTranslation_val dx dy dz (okVec_iff.2 (by omega)) _).mono ?_;rintro e v4 ⟨rfl,x4⟩;have g4:Gr B w6 v4:=g3.ext x4;go_wp2_with fail;refine hK _ _ (.inr (SC.blocks fun a ha=>g4.keep (by rw [ha];exact l6) (by rw [ha];omega))) ?_;clear hK K;refine sc_ fun K hK=>?_;go_wp2_with fail;have x5:Ext v4 (v4.alloc (.cells #[.int .i64 16,(),(),(),.int .i64 16,(),(),(),.int .i64 16,dx,dy,dz] 226)):=X_;have g5:Gr B w6 (v4.alloc (.cells #[.int .i64 16,(),(),(),.int .i64 16,(),(),(),.int .i64 16,dx,dy,dz] 226)):=g4.ext x5;refine hK _ _ (.inr (SC.blocks fun a ha=>g5.keep (by rw [ha];exact l6) (by rw [ha];omega))) ?_;clear hK K;refine sc_ fun K hK=>?_;go_wp2_with fail
  refine (sTransformPatch_val v4.heap.size (v4.heap.size+1) _ 1 (trX dx dy dz) f (movP f dx dy dz) (tPatch_mov (by have:=HD.out;omega) HF.out) _ (by
   have h:=(row12_tr (w:=v4) (dx:=dx) (dy:=dy) (dz:=dz)).flats (k:=12) (n:=1) (cap:=1) (lo:=v4.heap.size) (by decide) (by decide) (Nat.le_refl _) (fun i hi=>by
    have:=HD.out;unfold trX I64
    repeat' split
    all_goals omega)
   rw [World.size_alloc] at h
   exact h) (by simp)).mono ?_
  rintro e v6 ⟨rfl,x6⟩;have g6:Gr B w6 v6:=g5.ext x6;go_wp2_with fail;refine hK _ _ (.inr (SC.blocks fun a ha=>g6.keep (by rw [ha];exact l6) (by rw [ha];omega))) ?_;clear hK K;have C6:=((C3.ext x4).ext x5).ext x6;have B7:=g6.blk HB6.out (by omega);have HR7:=hid (g6.blk HR6.out (by omega));have HG7:=hid (HG6.out.trans g6);have HB7:=hid B7;have HC7:=hid C6;have l7:=B7.lt;clear C1 G1 g1 C2 G2 g2 C3 G3 g3 x4 g4 x5 g5 x6 g6 C6 HB6 HR6 HC6 HG6 c0 c1 c2 c3 c4 c5 c6 c7 c8 c9 c10 c11;have c12:=B7.cell 12 rfl;have k12:=B7.free 12;have c13:=B7.cell 13 rfl;have k13:=B7.free 13;have c14:=B7.cell 14 rfl;have k14:=B7.free 14;have c15:=B7.cell 15 rfl;have k15:=B7.free 15;have c16:=B7.cell 16 rfl;have k16:=B7.free 16;have c17:=B7.cell 17 rfl;have k17:=B7.free 17;have c18:=B7.cell 18 rfl;have k18:=B7.free 18;have c19:=B7.cell 19 rfl;have k19:=B7.free 19;have c20:=B7.cell 20 rfl;have k20:=B7.free 20;have c21:=B7.cell 21 rfl;have k21:=B7.free 21;have c22:=B7.cell 22 rfl;have k22:=B7.free 22;have c23:=B7.cell 23 rfl;have k23:=B7.free 23;clear B7;refine sc_ fun K hK=>?_;go_wp2_with fail;refine hK _ _ (.inl trivial) ?_;clear hK K;refine wpStagesS_nil ?_
  obtain ⟨g,hg⟩:∃g,movP f dx dy dz=g:=⟨_,rfl⟩
  rw [hg]
  have b5:Blk ((((((((((((v6.setCell ⟨A,12,none⟩ (g 0)).setCell ⟨A,13,none⟩ (g 1)).setCell ⟨A,14,none⟩ (g 2)).setCell ⟨A,15,none⟩ (g 3)).setCell ⟨A,16,none⟩ (g 4)).setCell ⟨A,17,none⟩ (g 5)).setCell ⟨A,18,none⟩ (g 6)).setCell ⟨A,19,none⟩ (g 7)).setCell ⟨A,20,none⟩ (g 8)).setCell ⟨A,21,none⟩ (g 9)).setCell ⟨A,22,none⟩ (g 10)).setCell ⟨A,23,none⟩ (g 11)) A 42 [(f 0),(f 1),(f 2),(f 3),(f 4),(f 5),(f 6),(f 7),(f 8),(f 9),(f 10),(f 11),(g 0),(g 1),(g 2),(g 3),(g 4),(g 5),(g 6),(g 7),(g 8),(g 9),(g 10),(g 11),sh,rt]:=((((((((((((HB7.out.set 12 _).set 13 _).set 14 _).set 15 _).set 16 _).set 17 _).set 18 _).set 19 _).set 20 _).set 21 _).set 22 _).set 23 _)
  have C5:Cur hi ((((((((((((v6.setCell ⟨A,12,none⟩ (g 0)).setCell ⟨A,13,none⟩ (g 1)).setCell ⟨A,14,none⟩ (g 2)).setCell ⟨A,15,none⟩ (g 3)).setCell ⟨A,16,none⟩ (g 4)).setCell ⟨A,17,none⟩ (g 5)).setCell ⟨A,18,none⟩ (g 6)).setCell ⟨A,19,none⟩ (g 7)).setCell ⟨A,20,none⟩ (g 8)).setCell ⟨A,21,none⟩ (g 9)).setCell ⟨A,22,none⟩ (g 10)).setCell ⟨A,23,none⟩ (g 11)) B:=((((((((((((HC7.out.setNew (b:=A) hBA 12 _).setNew (b:=A) hBA 13 _).setNew (b:=A) hBA 14 _).setNew (b:=A) hBA 15 _).setNew (b:=A) hBA 16 _).setNew (b:=A) hBA 17 _).setNew (b:=A) hBA 18 _).setNew (b:=A) hBA 19 _).setNew (b:=A) hBA 20 _).setNew (b:=A) hBA 21 _).setNew (b:=A) hBA 22 _).setNew (b:=A) hBA 23 _)
  have G5:Gr B w ((((((((((((v6.setCell ⟨A,12,none⟩ (g 0)).setCell ⟨A,13,none⟩ (g 1)).setCell ⟨A,14,none⟩ (g 2)).setCell ⟨A,15,none⟩ (g 3)).setCell ⟨A,16,none⟩ (g 4)).setCell ⟨A,17,none⟩ (g 5)).setCell ⟨A,18,none⟩ (g 6)).setCell ⟨A,19,none⟩ (g 7)).setCell ⟨A,20,none⟩ (g 8)).setCell ⟨A,21,none⟩ (g 9)).setCell ⟨A,22,none⟩ (g 10)).setCell ⟨A,23,none⟩ (g 11)):=((((((((((((HG7.out.setNew (b:=A) (by omega) 12 _).setNew (b:=A) (by omega) 13 _).setNew (b:=A) (by omega) 14 _).setNew (b:=A) (by omega) 15 _).setNew (b:=A) (by omega) 16 _).setNew (b:=A) (by omega) 17 _).setNew (b:=A) (by omega) 18 _).setNew (b:=A) (by omega) 19 _).setNew (b:=A) (by omega) 20 _).setNew (b:=A) (by omega) 21 _).setNew (b:=A) (by omega) 22 _).setNew (b:=A) (by omega) 23 _)
  have R5:Blk ((((((((((((v6.setCell ⟨A,12,none⟩ (g 0)).setCell ⟨A,13,none⟩ (g 1)).setCell ⟨A,14,none⟩ (g 2)).setCell ⟨A,15,none⟩ (g 3)).setCell ⟨A,16,none⟩ (g 4)).setCell ⟨A,17,none⟩ (g 5)).setCell ⟨A,18,none⟩ (g 6)).setCell ⟨A,19,none⟩ (g 7)).setCell ⟨A,20,none⟩ (g 8)).setCell ⟨A,21,none⟩ (g 9)).setCell ⟨A,22,none⟩ (g 10)).setCell ⟨A,23,none⟩ (g 11)) w.heap.size 42 [(),(),(),(),(),(),(),(),(),(),(),(),(),(),(),(),(),(),(),(),(),(),(),(),(),()]:=((((((((((((HR7.out.other (a:=⟨A,12,none⟩) (by simp only;omega) _).other (a:=⟨A,13,none⟩) (by simp only;omega) _).other (a:=⟨A,14,none⟩) (by simp only;omega) _).other (a:=⟨A,15,none⟩) (by simp only;omega) _).other (a:=⟨A,16,none⟩) (by simp only;omega) _).other (a:=⟨A,17,none⟩) (by simp only;omega) _).other (a:=⟨A,18,none⟩) (by simp only;omega) _).other (a:=⟨A,19,none⟩) (by simp only;omega) _).other (a:=⟨A,20,none⟩) (by simp only;omega) _).other (a:=⟨A,21,none⟩) (by simp only;omega) _).other (a:=⟨A,22,none⟩) (by simp only;omega) _).other (a:=⟨A,23,none⟩) (by simp only;omega) _)
  have hS:SrfSm f g sh rt n:=⟨HF.out.pt HZ.out,hg▸HF.out.mov HZ.out HD.out,hsh,HRT.out⟩
  obtain ⟨W5,hW5⟩:∃W,((((((((((((v6.setCell ⟨A,12,none⟩ (g 0)).setCell ⟨A,13,none⟩ (g 1)).setCell ⟨A,14,none⟩ (g 2)).setCell ⟨A,15,none⟩ (g 3)).setCell ⟨A,16,none⟩ (g 4)).setCell ⟨A,17,none⟩ (g 5)).setCell ⟨A,18,none⟩ (g 6)).setCell ⟨A,19,none⟩ (g 7)).setCell ⟨A,20,none⟩ (g 8)).setCell ⟨A,21,none⟩ (g 9)).setCell ⟨A,22,none⟩ (g 10)).setCell ⟨A,23,none⟩ (g 11))=W:=⟨_,rfl⟩
  go_upto_region 5 with fail;rw [hW5] at b5 C5 G5 R5 ⊢;have HB9:=hid b5;have HC9:=hid C5;have HG9:=hid G5;have HR9:=hid R5;have HS:=hid hS;clear hW5 hg b5 C5 G5 R5 HB7 HC7 HG7 HR7 hS c12 c13 c14 c15 c16 c17 c18 c19 c20 c21 c22 c23 k12 k13 k14 k15 k16 k17 k18 k19 k20 k21 k22 k23
 case' false=>
  obtain ⟨g,hg⟩:∃g,f=g:=⟨_,rfl⟩
  have b9:=HB6.out
  have hS:SrfSm f f sh rt n:=⟨HF.out.pt HZ.out,HF.out.pt HZ.out,hsh,HRT.out⟩
  have HB9:Hid (Blk w6 A 42 [(f 0),(f 1),(f 2),(f 3),(f 4),(f 5),(f 6),(f 7),(f 8),(f 9),(f 10),(f 11),(g 0),(g 1),(g 2),(g 3),(g 4),(g 5),(g 6),(g 7),(g 8),(g 9),(g 10),(g 11),sh,rt]):=hid (by rw [<-hg];exact b9);have HC9:=HC6;have HG9:=HG6;have HR9:=HR6;have HS:Hid (SrfSm f g sh rt n):=hid (by rw [<-hg];exact hS);clear hg b9 hS HB6 HC6 HG6 HR6;go_upto_region 5 with fail
 all_goals
  have hcA:=HB9.out.rangeB;have hbR:=HR9.out;go_wp2_with (first|(show wpList _ _ _ [_,_] _ _;refine wpList_load_mid rfl _ _ rfl A 0 rfl [(f 0),(f 1),(f 2),(f 3),(f 4),(f 5),(f 6),(f 7),(f 8),(f 9),(f 10),(f 11),(g 0),(g 1),(g 2),(g 3),(g 4),(g 5),(g 6),(g 7),(g 8),(g 9),(g 10),(g 11),sh,rt] _ hcA Tryz.underlying42 rfl info_srfS ?_)|(show wpList _ _ _ [_] _ _;refine wpList_store_rowTo rfl _ _ _ rfl rfl w.heap.size #[(f 0),(f 1),(f 2),(f 3),(f 4),(f 5),(f 6),(f 7),(f 8),(f 9),(f 10),(f 11),(g 0),(g 1),(g 2),(g 3),(g 4),(g 5),(g 6),(g 7),(g 8),(g 9),(g 10),(g 11),sh,rt] rfl rfl 42 _ hbR info_srfS rfl (by kernel_rfl) ?_));have bR:=Blk.rowB HR9.out [(f 0),(f 1),(f 2),(f 3),(f 4),(f 5),(f 6),(f 7),(f 8),(f 9),(f 10),(f 11),(g 0),(g 1),(g 2),(g 3),(g 4),(g 5),(g 6),(g 7),(g 8),(g 9),(g 10),(g 11),sh,rt];clear hcA hbR;refine ret_box rfl rfl bR _ Tryz.underlying42 rfl info_srfS rfl ?_;exact ⟨f,g,sh,rt,rfl,HS.out,HC9.out.rowNew (by omega) _,HG9.out.rowNew (Nat.le_refl _) _⟩
theorem Prg.R.set2 {p:Prg} {lo hi l2 A:Nat} {w:World} {v:Value} (h:p.R lo hi w v) (hA:A<lo) (hl:l2<=lo) (hh:hi<=w.heap.size) (u u':Value):p.R l2 ((w.setCell ⟨A,0,none⟩ u).setCell ⟨A,1,none⟩ u').heap.size ((w.setCell ⟨A,0,none⟩ u).setCell ⟨A,1,none⟩ u') v:=
 (h.same ((Same.setLow _ (p:=⟨A,0,none⟩) hA u).trans (Same.setLow _ (p:=⟨A,1,none⟩) hA u'))).low hl (by rw [World.size_setCell,World.size_setCell];exact hh)
theorem Prg.R.ext' {p:Prg} {lo:Nat} {w w':World} {v:Value} (h:p.R lo w.heap.size w v) (e:Ext w w'):p.R lo w'.heap.size w' v:=(h.ext (Nat.le_refl _) e).low (Nat.le_refl _) e.size
theorem cu_chk:cuP.chkB=true:=by
 unfold Prg.chkB;simp only [Bool.and_eq_true];refine ⟨⟨⟨⟨?_,?_⟩,?_⟩,?_⟩,?_⟩
 ·decide
 ·simp [cuP,cuN,cuA,Prg.nameB,isVar,Lib.toList_data]
 ·simp [cuP,cuN,cuA,Prg.arB]
 ·simp [cuP,cuN,cuA,Prg.asB,isVar,asgB,Lib.toList_data]
 ·simp [cuP,cuN,cuA,Prg.colB,asgB,Lib.toList_data]
theorem l14Good_cur (hi B:Nat) (w:World) (hc:Cur hi w B):Calls Tryz.prog 140 #[.pointer (some ⟨B,0,none⟩)] w fun e w'=>∃(p:Prg) (v:Value),e = .returned v/\p.R w.heap.size w'.heap.size w' v/\p.bd/\p.small/\p.chkB=true/\Cur hi w' B/\Gr B w w':=by
 have zB:=hc.lt;have hB:=Blk.new w 132 [.slice none 0 0,.slice none 0 0];have x1:Ext w (w.alloc (.cells #[.slice none 0 0,.slice none 0 0] 132)):=X_;have HC1:=hid (hc.ext x1);have HB1:=hid hB;have HX1:=hid x1;have z1:(w.alloc (.cells #[.slice none 0 0,.slice none 0 0] 132)).heap.size=w.heap.size+1:=World.size_alloc _ _;clear hc hB x1;go_enter Tryz.func140,Tryz.ntmps140;go_wp2_with fail
 go_loopw [3] (fun i wr=>∃k:Nat,k<=20/\i = .int .i64 (k:Nat)/\Cur hi wr B/\Gr B (w.alloc (.cells #[.slice none 0 0,.slice none 0 0] 132)) wr) (fun i _=>20 - (intOf i).toNat)
 case atStart=>exact ⟨0,by omega,rfl,HC1.out,Gr.refl _ _⟩
 case round=>
  obtain ⟨k,hk,rfl,C,G⟩:=hrel;have HC:=hid C;have HG:=hid G;clear C G HC1
  by_cases hlt:k<20
  ·go_wp2_with fail
   refine (sSource_any hi B _ HC.out).mono ?_;rintro e w3 ⟨s,rfl,hs,C3,G3⟩;have HC3:=hid C3;have HG3:=hid (HG.out.trans G3);clear C3 G3 HC HG;go_wp2_with fail;refine (sParse_any s w3 (by unfold maxLen;omega)).mono ?_;rintro e w4 ⟨p,v,n,rfl,R4,bd4,sm4,x4,-⟩;obtain ⟨na,nc,ga,gc,rfl,-,-⟩:=R4.form;have HR:=hid R4;have HX4:=hid x4;have zx:=x4.size;have y5:Ext w4 (w4.alloc (.cells #[.slice na p.ns.length nc,.slice ga p.gs.length gc] 132)):=X_;have HR5:=hid (R4.ext (Nat.le_refl _) y5);have HY5:=hid y5;have zy:=y5.size;clear R4 x4 y5;have b5:=Blk.new w4 132 [.slice na p.ns.length nc,.slice ga p.gs.length gc];have HB5:=hid b5;clear b5;go_wp2_with fail;refine (sCheck_any _ _ _ p _ HR5.out zy bd4 sm4.1.1 sm4.2).mono ?_;rintro e w6 ⟨⟨c,q,rfl,hcc⟩,x6⟩;have HX6:=hid (HY5.out.trans x6);have HB6:=hid (HB5.out.ext x6);have r0:=HG3.out.blk HB1.out (by omega);have HR0:=hid (r0.ext (HX4.out.trans (HY5.out.trans x6)));have HG6:=hid (HG3.out.ext (HX4.out.trans (HY5.out.trans x6)));have HC6:=hid (HC3.out.ext (HX4.out.trans (HY5.out.trans x6)));have HR6:=hid (HR5.out.ext zy x6);obtain ⟨q0,q1⟩:=HB6.out.q2;have z6:=x6.size;have zg3:=HG3.out.size;have hh6:=HX6.out.size;have zlt:=HB6.out.lt;clear x6 r0 HX4 HY5 HR5 HB5 HC3 HG3 HR
   by_cases h0:c=0
   ·have hchk:p.chkB=true:=by rw [<-hcc];exact beq_iff_eq.2 h0
    have HCH:=hid hchk;obtain ⟨g0,g1⟩:=HR0.out.q2;have k0:=HR0.out.free 0;have k1:=HR0.out.free 1;have zR:=HR0.out.lt;have zg:=HG6.out.size;clear hchk hcc;go_wp2;refine bodyPost_ret (v:=.agg #[.slice na p.ns.length nc,.slice ga p.gs.length gc]) (by simp [results,Tryz.results140,go_sem, *]) rfl ?_;exact ⟨p,_,rfl,HR6.out.set2 (by omega) (by omega) (by omega) _ _,bd4,sm4,HCH.out,(HC6.out.setNew (by omega) _ _).setNew (by omega) _ _,((((Gr.refl B w).ext HX1.out).trans HG6.out).setNew (Nat.le_refl _) _ _).setNew (Nat.le_refl _) _ _⟩
   ·clear hcc
    go_wp2;go_roundw
    case rel=>exact ⟨k+1,by omega,by go_num,HC6.out,HG6.out⟩
    case measure=>simp [intOf];omega
  ·obtain rfl:k=20:=by omega
   go_wp2_with fail;refine (sParse_any cuS wr (by decide)).mono ?_;rintro e w4 ⟨p,v,n,rfl,R4,bd4,sm4,x4,hcu⟩;obtain rfl:=hcu rfl;obtain ⟨na,nc,ga,gc,rfl,-,-⟩:=R4.form;have HR:=hid R4;have HX4:=hid x4;have r0:=(HG.out.blk HB1.out (by omega)).ext x4;have HG6:=hid (HG.out.ext x4);have zx:=x4.size;have zg3:=HG.out.size;obtain ⟨g0,g1⟩:=r0.q2;have k0:=r0.free 0;have k1:=r0.free 1;have zR:=r0.lt;have HC6:=hid (HC.out.ext x4);clear R4 x4 hcu r0 HC HG;go_wp2;refine bodyPost_ret (v:=.agg #[.slice na cuP.ns.length nc,.slice ga cuP.gs.length gc]) (by simp [results,Tryz.results140,go_sem, *]) rfl ?_;exact ⟨cuP,_,rfl,(HR.out.set2 (A:=w.heap.size) (l2:=w.heap.size) (by omega) (by omega) (Nat.le_refl _) _ _).ext' X_,bd4,sm4,cu_chk,((HC6.out.setNew (by omega) _ _).setNew (by omega) _ _).ext X_,(((((Gr.refl B w).ext HX1.out).trans HG6.out).setNew (Nat.le_refl _) _ _).setNew (Nat.le_refl _) _ _).ext X_⟩
theorem run_append_at {P:Program} (w:World) (base:Nat) (t ty e:TypeId) (i:TypeInfo) (z:Value) (size bytes:Nat) (ht:P.underlying t=some (.slice e)) (hi:P.info? e=some i) (hz:i.zero=some z)
  (hsize:i.size=size) (hby:i.bytes=bytes) (hzs:z.cells.size=size) (hsz:0<size)
  (v:Value) (n:Nat) (xs:List Value) (hown:w.ownsRow base e size v n xs)
  (a:Addr) (m c:Nat) (news:List Value) (hl:news.length=m*size) (hnews:∀j u,news[j]?=some u->w.cell? (a.add j)=some u) (h1:∀u∈news,u.oneCell'=true)
  (h63:n+m<=maxLen) (hbytes:(n+m)*bytes<=140737488355328) (hbase:base<=w.heap.size) :
  ∃v' w',(Builtin.append_ #[t,t] ty #[v,.slice (some a) m c]).run P w = .ok v' w'/\w'.ownsRow base e size v' (n+m) (xs++news)/\w.grownBy w' v.ownBlock/\(∀k,v'.ownBlock=some k->v.ownBlock=some k\/w.heap.size<=k):=by
 obtain ⟨v',w',hr,h2,h3,-⟩:=run_append_own (P:=P) w base t ty e i z size bytes ht hi hz hsize hby hzs hsz v n xs hown a m c news hl hnews h1 h63 hbytes hbase;refine ⟨v',w',hr,h2,h3,?_⟩
 rcases hown.2 with ⟨rfl,rfl⟩|⟨g,cap,cur,rfl,hbg,hg,hnc,hcm,hcs,htake⟩
 ·have hx:xs=[]:=List.eq_nil_of_length_eq_zero (by simpa using hown.1)
  subst hx;obtain ⟨v2,w2,hr2,k2,-,-⟩:=run_append_own (P:=P) w w.heap.size t ty e i z size bytes ht hi hz hsize hby hzs hsz (.slice none 0 0) 0 [] (World.ownsRow_nil _ _ _ _) a m c news hl hnews h1 h63 hbytes (Nat.le_refl _);rw [hr] at hr2;simp only [Result.ok.injEq] at hr2;obtain ⟨rfl,rfl⟩:=hr2;exact fun k hk=>.inr (k2.lt k hk).1
 ·by_cases hroom:n+m<=cap
  ·subst hsize
   have hfit:n*i.size+news.length<=cur.size:=by rw [hl,hcs,<-Nat.add_mul];exact Nat.mul_le_mul_right _ hroom
   have hr2:=run_append_room (P:=P) w t ty e i ht hi g n cap cur hg a m c news hl hnews h1 hroom hfit;rw [hr] at hr2;simp only [Result.ok.injEq] at hr2;obtain ⟨rfl,-⟩:=hr2;exact fun k hk=>.inl hk
  ·subst hsize
   subst hby
   have hsmall:n+m<=9223372036854775807:=by simp only [maxLen] at h63;omega
   have holds:∀j u,xs[j]?=some u->w.cell? ((⟨g,0,none⟩:Addr).add j)=some u:=hown.cells (g:=g) rfl;have hr2:=run_append_grow (P:=P) w t ty e i z ht hi hz ⟨g,0,none⟩ n cap xs hown.1 holds a m c news hl hnews (by omega) (by omega) (growslice_fits (by omega) hbytes);rw [hr] at hr2;simp only [Result.ok.injEq] at hr2;obtain ⟨rfl,-⟩:=hr2;intro k hk;simp only [Value.ownBlock,Option.some.injEq] at hk;subst hk;exact .inr (Nat.le_refl _)
theorem wpList_append_at {α : Type} (cs : α->List Value) (e:TypeId) (sz bytes:Nat) (z:Value) (w:World) {ops:Array Oper} {rest:List Oper} {o:Oper} {a:Act} {Q:Exit->Act->World->Prop} (hg:o.guard=none) (s x:Operand) (t:TypeId)
  (hop:o.op=Op.call { callee:=Callee.builtin Builtin.append,args:=#[s,x],argTypes:=#[t,t] }) (ht:Tryz.prog.underlying t=some (.slice e))
  (hinfo:(Tryz.prog.info? e).map (fun i=>(i.zero,i.size,i.bytes))=some (some z,sz,bytes)) (hzs:z.cells.size=sz) (hsz:0<sz) (hby:bytes<=1000) (hc:∀x,(cs x).length=sz)
  (lo:Nat) (v:Value) (xs:List α) (hs:a.eval s=v) (hown:OwnG cs lo e sz w v xs)
  (y : α) (b:Nat) (hx:a.eval x = .slice (some ⟨b,0,none⟩) 1 1) (hcell:∀j,j<sz->w.cell? ⟨b,j,none⟩=(cs y)[j]?) (h1:∀u∈cs y,u.oneCell'=true) (hlen:xs.length<1000000) (hlo:lo<=w.heap.size)
  (hK:∀v' w',OwnG cs lo e sz w' v' (xs++[y])->w.grownBy w' v.ownBlock->(∀k,v'.ownBlock=some k->v.ownBlock=some k\/w.heap.size<=k)->wpList Tryz.prog ops Q rest (a.put o.dst v') w'):wpList Tryz.prog ops Q (o::rest) a w:=by
 obtain ⟨i0,hi0,hz0,hz1,hz2⟩:=info_parts hinfo;refine wpList_plain hg fun _ hKK=>?_
 obtain ⟨v',w',hr,h2,h3,h4⟩:=run_append_at (P:=Tryz.prog) w lo t o.type e i0 z sz bytes ht hi0 hz0 hz1 hz2 hzs hsz v xs.length _ hown ⟨b,0,none⟩ 1 1 (cs y) (by rw [hc,Nat.one_mul]) (by
  intro j u hj
  have hjl:j<sz:=by rw [<-hc y];exact (List.getElem?_eq_some_iff.1 hj).1
  have ea:(⟨b,0,none⟩:Addr).add j=⟨b,j,none⟩:=by
   unfold Addr.add
   split <;> simp_all
  rw [ea,hcell j hjl,hj]) h1 (by unfold maxLen;omega) (by
   have:(xs.length+1)*bytes<=1000000*1000:=Nat.mul_le_mul (by omega) hby
   omega) hlo
 unfold Oper.wp execOp;simp only [hop,resolve,invoke,builtin,Sem.run_bind,Sem.run_pure,Result.andThen_ok,List.map_toArray,List.map_cons,List.map_nil,hs,hx,hr];refine hKK _ _ (hK v' w' ?_ h3 h4);unfold OwnG;rw [List.length_append,List.flatMap_append]
 simpa using h2
def pairCs (u:Value×Value):List Value:=[u.1,u.2]
def PRow (lo hp:Nat) (w:World) (v:Value) (ps:List Prg):Prop:=
 hp<=w.heap.size/\∃us:List (Value×Value),us.length=ps.length/\OwnG pairCs lo 132 2 w v us/\∀(i:Nat) (p:Prg) (u:Value×Value),ps[i]?=some p->us[i]?=some u->∃l h,lo<=l/\h<=hp/\p.R l h w (.agg #[u.1,u.2])/\∀k,v.ownBlock=some k->k<l\/h<=k
theorem PRow.nil {lo hp:Nat} {w:World} (h:hp<=w.heap.size):PRow lo hp w (.slice none 0 0) []:=⟨h,[],rfl,OwnG.nil _ _ _ _ _,fun i p u h=>by simp at h⟩
theorem PRow.keep {lo hp:Nat} {w w':World} {v:Value} {ps:List Prg} (h:PRow lo hp w v ps) (hz:w.heap.size<=w'.heap.size) (hb:∀b,lo<=b->b<hp->w'.heap[b]?=w.heap[b]?)
  (hr:∀b c,lo<=b->w.heap[b]?=some (.cells c 132 (0,0))->w'.heap[b]?=some (.cells c 132 (0,0))):PRow lo hp w' v ps:=by
 obtain ⟨h0,us,h1,h2,h3⟩:=h;refine ⟨by omega,us,h1,OwnG.of h2 hr,fun i p u hp hu=>?_⟩;obtain ⟨l,hh,e1,e2,e3,e4⟩:=h3 i p u hp hu;exact ⟨l,hh,e1,e2,e3.same (fun k hk1 hk2=>hb k (by omega) (by omega)),e4⟩
theorem PRow.ext {lo hp:Nat} {w w':World} {v:Value} {ps:List Prg} (h:PRow lo hp w v ps) (x:Ext w w'):PRow lo hp w' v ps:=
 h.keep x.size (fun b _ h2=>x.block (by have:=h.1;omega)) (fun b c _ hc=>(x.block (Array.getElem?_eq_some_iff.1 hc).1).trans hc)
theorem PRow.gr {lo hp B:Nat} {w w':World} {v:Value} {ps:List Prg} (h:PRow lo hp w v ps) (g:Gr B w w') (hB:B<lo):PRow lo hp w' v ps:=
 h.keep g.size (fun b h1 h2=>g.keep (by have:=h.1;omega) (by omega)) (fun b c h1 hc=>(g.keep (Array.getElem?_eq_some_iff.1 hc).1 (by omega)).trans hc)
theorem PRow.set {lo hp:Nat} {w:World} {v:Value} {ps:List Prg} (h:PRow lo hp w v ps) {X:Nat} {t:TypeId} {cs:List Value} (hX:Blk w X t cs) (ht:t≠132) (hx:X<lo\/hp<=X) (i:Nat) (u:Value):PRow lo hp (w.setCell ⟨X,i,none⟩ u) v ps:=
 h.keep (by rw [World.size_setCell];exact Nat.le_refl _) (fun b h1 h2=>Below.heap_setCell _ _ _ _ (by simp only;omega)) (fun b c h1 hc=>(Below.heap_setCell _ _ _ _ (by
  simp only;rintro rfl;unfold Blk at hX;rw [hX] at hc;simp only [Option.some.injEq,Obj.cells.injEq] at hc
  exact ht hc.2.1)).trans hc)
theorem PRow.grown {lo hp:Nat} {w w':World} {v:Value} {ps:List Prg} (h:PRow lo hp w v ps) {row:Option Nat} (hg:w.grownBy w' row) (hr:∀k,row=some k->hp<=k/\∃c e,e≠132/\w.heap[k]?=some (.cells c e (0,0))):PRow lo hp w' v ps:=
 h.keep hg.size (fun b h1 h2=>hg.block b (by have:=h.1;omega) (fun e=>by have:=(hr b e.symm).1;omega)) (fun b c h1 hc=>(hg.block b (Array.getElem?_eq_some_iff.1 hc).1 (fun e=>by
  obtain ⟨_,c',e',ne,h'⟩:=hr b e.symm;rw [hc] at h';simp only [Option.some.injEq,Obj.cells.injEq] at h'
  exact ne h'.2.1.symm)).trans hc)
theorem PRow.push {lo hp B:Nat} {w w1 w2:World} {v v':Value} {ps:List Prg} {p:Prg} {u1 u2:Value} (h0:hp<=w.heap.size) (hl:lo<=w.heap.size) (g:Gr B w w1) (hB:B<lo)
  (hp1:p.R w.heap.size w1.heap.size w1 (.agg #[u1,u2])) {us:List (Value×Value)} (hus:us.length=ps.length) (hR:∀(i:Nat) (p:Prg) (u:Value×Value),ps[i]?=some p->us[i]?=some u->∃l h,lo<=l/\h<=hp/\p.R l h w (.agg #[u.1,u.2])/\∀k,v.ownBlock=some k->k<l\/h<=k)
  (hv:∀k,v.ownBlock=some k->lo<=k/\k<w.heap.size) {w1':World} (x:Ext w1 w1')
  (hown:OwnG pairCs lo 132 2 w2 v' (us++[(u1,u2)])) (hg:w1'.grownBy w2 v.ownBlock) (hat:∀k,v'.ownBlock=some k->v.ownBlock=some k\/w1'.heap.size<=k):PRow lo w1.heap.size w2 v' (ps++[p]):=by
 have hz:=g.size;have hx:=x.size;refine ⟨by have:=hg.size;omega,us++[(u1,u2)],by simp [hus],hown,fun i q u hq hu=>?_⟩
 rcases Nat.lt_or_ge i ps.length with hi|hi
 ·rw [List.getElem?_append_left hi] at hq
  rw [List.getElem?_append_left (by omega)] at hu;obtain ⟨l,hh,e1,e2,e3,e4⟩:=hR i q u hq hu;refine ⟨l,hh,e1,by omega,((e3.same fun k k1 k2=>g.keep (by omega) (by omega)).same fun k k1 k2=>x.block (by omega)).same fun k k1 k2=>hg.block k (by omega) (fun e=>?_),fun k hk=>?_⟩
  ·rcases e4 k e.symm with h5|h5 <;> omega
  ·rcases hat k hk with h5|h5
   ·exact e4 k h5
   ·right;omega
 ·have hi2:i=ps.length:=by
   have h5:=(List.getElem?_eq_some_iff.1 hq).1;simp at h5;omega
  subst hi2;rw [List.getElem?_append_right (Nat.le_refl _)] at hq;rw [List.getElem?_append_right (by omega)] at hu;simp only [Nat.sub_self,hus,List.getElem?_cons_zero,Option.some.injEq] at hq hu;subst hq hu;refine ⟨w.heap.size,w1.heap.size,hl,Nat.le_refl _,(hp1.same fun k k1 k2=>x.block k2).same fun k k1 k2=>hg.block k (by omega) (fun e=>?_),fun k hk=>?_⟩
  ·have:=(hv k e.symm).2;omega
  ·rcases hat k hk with h5|h5
   ·left;exact (hv k h5).2
   ·right;omega
theorem PRow.prgs {lo hp:Nat} {w:World} {v:Value} {ps:List Prg} (h:PRow lo hp w v ps):PrgsR lo w.heap.size w v ps:=by
 obtain ⟨h0,us,h1,h2,h3⟩:=h
 rcases h2.2 with ⟨rfl,h4⟩|⟨g,cap,cur,rfl,hb,hg,hcap,hm,hs,ht⟩
 ·refine ⟨none,0,by rw [<-h1,h4],by omega,by unfold maxLen;omega,fun k p hp=>?_⟩
  have:=(List.getElem?_eq_some_iff.1 hp).1;omega
 ·refine ⟨some ⟨g,0,none⟩,cap,by rw [h1],by omega,hm,fun k p hp=>?_⟩
  have hk:=(List.getElem?_eq_some_iff.1 hp).1
  obtain ⟨u,hu⟩:∃u,us[k]?=some u:=⟨_,List.getElem?_eq_getElem (by omega)⟩
  obtain ⟨l,hh,e1,e2,e3,-⟩:=h3 k p u hp hu;obtain ⟨g',cap',he,-,-,-,-,-,hcell⟩:=OwnG.at h2 (fun _=>rfl) hu;simp only [Value.slice.injEq,true_and,Option.some.injEq,Addr.mk.injEq,and_true] at he;obtain ⟨rfl,rfl⟩:=he;refine ⟨g,0,u.1,u.2,rfl,hb,(Array.getElem?_eq_some_iff.1 hg).1,?_,?_,e3.low e1 (by omega)⟩
  ·rw [Nat.zero_add];exact hcell 0 (by decide)
  ·rw [Nat.zero_add];exact hcell 1 (by decide)
structure Srf where
 f:Nat->Int
 g:Nat->Int
 sh:Int
 rt:Int
def Srf.ls (x:Srf):List Int:=[x.f 0,x.f 1,x.f 2,x.f 3,x.f 4,x.f 5,x.f 6,x.f 7,x.f 8,x.f 9,x.f 10,x.f 11,x.g 0,x.g 1,x.g 2,x.g 3,x.g 4,x.g 5,x.g 6,x.g 7,x.g 8,x.g 9,x.g 10,x.g 11,x.sh,x.rt]
def Srf.cs (x:Srf):List Value:=x.ls.map (.int .i64)
theorem Srf.cs_len (x:Srf):x.cs.length=26:=rfl
theorem Srf.one (x:Srf):∀u∈x.cs,u.oneCell'=true:=by
 intro u hu;unfold Srf.cs at hu;obtain ⟨n,-,rfl⟩:=List.mem_map.1 hu
 rfl
def srfF (xs:List Srf):Nat->Int:=fun i=>(xs.flatMap Srf.ls).getD i 0
theorem srfF_at {xs:List Srf} {k:Nat} {x:Srf} (h:xs[k]?=some x) {j:Nat} (hj:j<26):srfF xs (k*26+j)=x.ls.getD j 0:=by
 unfold srfF;rw [List.getD_eq_getElem?_getD,List.getD_eq_getElem?_getD,flatMap_atG (cs:=Srf.ls) (sz:=26) (fun _=>rfl) h j hj]
def Srf.I (x:Srf):Prop:=∀n∈x.ls,I64 n
theorem OwnG.flatsS {lo:Nat} {w:World} {v:Value} {xs:List Srf} (h:OwnG Srf.cs lo 42 26 w v xs) (hI:∀x∈xs,x.I):Flats 26 lo w.heap.size w v xs.length (srfF xs):=
 h.flatsI (by decide) (fun _=>rfl) (fun _=>rfl) hI fun i x k hx hk=>srfF_at hx hk
theorem OwnG.rowS {α : Type} {cs : α->List Value} {lo:Nat} {e:TypeId} {sz:Nat} {w:World} {v:Value} {xs:List α} (h:OwnG cs lo e sz w v xs):∀k,v.ownBlock=some k->lo<=k/\∃c,w.heap[k]?=some (.cells c e (0,0)):=by
 intro k hk
 rcases h.2 with ⟨rfl,h4⟩|⟨g,cap,cur,rfl,hb,hg,_⟩
 ·cases hk
 ·simp only [Value.ownBlock,Option.some.injEq] at hk
  subst hk;exact ⟨hb,cur,hg⟩
theorem Blk.neRow {w:World} {A k:Nat} {t e:TypeId} {cs:List Value} {c:Array Value} (h:Blk w A t cs) (hk:w.heap[k]?=some (.cells c e (0,0))) (ne:t≠e):A≠k:=fun e1=>by
 subst e1;unfold Blk at h;rw [h] at hk;simp only [Option.some.injEq,Obj.cells.injEq] at hk;exact ne hk.2.1
structure ScM (lo lp hp:Nat) (w:World) (t:Tex) (tv pv sv:Value) (ps:List Prg) (xs:List Srf):Prop where
 tex:OwnInts lo w tv t.px
 prg:PRow lp hp w pv ps
 srf:OwnG Srf.cs hp 42 26 w sv xs
section
variable {lo lp hp : Nat} {w w' : World} {t : Tex} {tv pv sv : Value} {ps : List Prg} {xs : List Srf}
theorem ScM.ext (h:ScM lo lp hp w t tv pv sv ps xs) (x:Ext w w'):ScM lo lp hp w' t tv pv sv ps xs:=⟨h.tex.ext x,h.prg.ext x,OwnG.ext h.srf x⟩
theorem ScM.gr (h:ScM lo lp hp w t tv pv sv ps xs) {B:Nat} (g:Gr B w w') (hB:B<lo) (h1:lo<=lp) (h2:lo<=hp):ScM lo lp hp w' t tv pv sv ps xs:=
 ⟨h.tex.kept (fun k h1 h2=>g.keep h2 (by omega)),h.prg.gr g (by omega),OwnG.of h.srf fun b c hb hc=>(g.keep (Array.getElem?_eq_some_iff.1 hc).1 (by omega)).trans hc⟩
theorem ints_ne_box {v:Value} {ys:List Int} (h:OwnInts lo w v ys) {X:Nat} {u:TypeId} {cs:List Value} (hX:Blk w X u cs) (hu:u≠3):v.ownBlock≠some X:=fun e=>by
 obtain ⟨c,hc⟩:=h.block e;exact hX.neRow hc hu rfl
theorem ScM.set (h:ScM lo lp hp w t tv pv sv ps xs) {X:Nat} {cs:List Value} (hX:Blk w X 31 cs) (hx:X<lp\/hp<=X) (i:Nat) (u:Value):ScM lo lp hp (w.setCell ⟨X,i,none⟩ u) t tv pv sv ps xs:=
 ⟨h.tex.setOther (ints_ne_box h.tex hX (by decide)) u,h.prg.set hX (by decide) hx i u,OwnG.of h.srf fun b c hb hc=>(Below.heap_setCell _ _ _ _ (by
  simp only
  exact fun e=>hX.neRow (e▸hc) (by decide) rfl)).trans hc⟩
theorem ScM.row (h:ScM lo lp hp w t tv pv sv ps xs) {X:Nat} {cs:List Value} (hX:Blk w X 31 cs) (hx:X<lp\/hp<=X) (ds:Array Value):ScM lo lp hp (w.setRow X ds) t tv pv sv ps xs:=
 ⟨h.tex.grown (row:=some X) ⟨rfl,rfl,rfl,by rw [size_setRowB];exact Nat.le_refl _,fun k hk ne=>setRow_other _ _ _ _ (fun e=>ne (by rw [e]))⟩ (fun k hk e=>ints_ne_box h.tex hX (by decide) (by rw [hk];exact e)),
  h.prg.keep (by rw [size_setRowB];exact Nat.le_refl _) (fun b h1 h2=>setRow_other _ _ _ _ (by omega)) (fun b c h1 hc=>(setRow_other _ _ _ _ (fun e=>hX.neRow (e▸hc) (by decide) rfl)).trans hc),
  OwnG.of h.srf fun b c hb hc=>(setRow_other _ _ _ _ (fun e=>hX.neRow (e▸hc) (by decide) rfl)).trans hc⟩
theorem ScM.push (h:ScM lo lp hp w t tv pv sv ps xs) {sv':Value} {xs':List Srf} (hg:w.grownBy w' sv.ownBlock) (ho:OwnG Srf.cs hp 42 26 w' sv' xs'):ScM lo lp hp w' t tv pv sv' ps xs':=by
 have hr:=OwnG.rowS h.srf;refine ⟨h.tex.grown hg (fun k hk e=>?_),h.prg.grown hg (fun k hk=>?_),ho⟩
 ·obtain ⟨_,c,hc⟩:=hr k e.symm
  obtain ⟨c',hc'⟩:=h.tex.block hk;rw [hc'] at hc;simp only [Option.some.injEq,Obj.cells.injEq] at hc;exact absurd hc.2.1 (by decide)
 ·obtain ⟨h1,c,hc⟩:=hr k hk
  exact ⟨h1,c,_,by decide,hc⟩
theorem ScM.low {lo':Nat} (h:ScM lo lp hp w t tv pv sv ps xs) (hl:lo'<=lo):ScM lo' lp hp w t tv pv sv ps xs:=⟨h.tex.low hl,h.prg,h.srf⟩
end
theorem info_SrfT:(Tryz.prog.info? 42).map (fun i=>(i.zero,i.size,i.bytes))=some (some (.agg #[(),(),(),(),(),(),(),(),(),(),(),(),(),(),(),(),(),(),(),(),(),(),(),(),(),()]),26,208):=by kernel_rfl
theorem info_PrgT:(Tryz.prog.info? 132).map (fun i=>(i.zero,i.size,i.bytes))=some (some (.agg #[.slice none 0 0,.slice none 0 0]),2,48):=by kernel_rfl
theorem info_ScnT:(Tryz.prog.info? 31).map (fun i=>i.size)=some 12:=by kernel_rfl
theorem pair_one (u:Value×Value) (h1:u.1.oneCell'=true) (h2:u.2.oneCell'=true):∀x∈pairCs u,x.oneCell'=true:=by
 intro x hx;simp only [pairCs,List.mem_cons,List.not_mem_nil,or_false] at hx
 rcases hx with rfl|rfl <;> assumption
theorem Cur.grown {hi:Nat} {w w':World} {B:Nat} (h:Cur hi w B) {row:Option Nat} (hg:w.grownBy w' row) (hr:∀k,row=some k->B<k):Cur hi w' B:=
 h.keep fun b hb=>hg.block b (by have:=h.lt;omega) (fun e=>by have:=hr b e.symm;omega)
structure ScSm (c:Cam) (t:Tex) (side:Int) (ps:List Prg) (xs:List Srf):Prop where
 c:c.Sm
 t:t.Ok
 side:side=1\/side=2
 n:1<=ps.length/\ps.length<=2
 prg:∀p∈ps,p.bd/\p.small/\p.chkB=true
 m:xs.length<=3
 srf:∀x∈xs,SrfSm x.f x.g x.sh x.rt ps.length
theorem l20Draw_any (hi B:Nat) (w:World) (hc:Cur hi w B):Calls Tryz.prog 85 #[.pointer (some ⟨B,0,none⟩)] w fun e w'=>∃(c:Cam) (t:Tex) (side:Int) (ps:List Prg) (xs:List Srf) (lp hp:Nat) (ta:Option Addr) (tc:Nat) (pa:Option Addr) (pc:Nat) (sa:Option Addr) (sc:Nat),
  e = .returned (.agg #[c.w,c.h,c.zoom,c.near,.bool c.deep,c.lens,c.focus,t.log,.slice ta t.px.length tc,.slice pa ps.length pc,.slice sa xs.length sc,side])/\ScSm c t side ps xs/\w.heap.size<=lp/\w.heap.size<=hp/\hp<=w'.heap.size/\ScM w.heap.size lp hp w' t (.slice ta t.px.length tc) (.slice pa ps.length pc) (.slice sa xs.length sc) ps xs/\Cur hi w' B/\Gr B w w':=by
 have zB:=hc.lt;have x0:Ext w (w.alloc (.cells #[(),(),(),(),.bool false,(),(),(),.slice none 0 0,.slice none 0 0,.slice none 0 0,()] 31)):=X_;have HQ:=hid (Blk.new w 31 [(),(),(),(),.bool false,(),(),(),.slice none 0 0,.slice none 0 0,.slice none 0 0,()]);have HC0:=hid (hc.ext x0);have HX0:=hid x0;have z1:(w.alloc (.cells #[(),(),(),(),.bool false,(),(),(),.slice none 0 0,.slice none 0 0,.slice none 0 0,()] 31)).heap.size=w.heap.size+1:=World.size_alloc _ _;clear hc x0;go_enter Tryz.func85,Tryz.ntmps85;go_wp2_with fail;refine (l08Draw_any hi B _ HC0.out).mono ?_;rintro e w1 ⟨c,rfl,hcm,C1,G1⟩;have HCM:=hid hcm;clear hcm;go_wp2_with fail;refine (l15Draw_any hi B _ C1).mono ?_;rintro e w2 ⟨tv,t,rfl,OT,okt,C2,G2⟩;obtain ⟨tu,rfl,hlog,o2⟩:=OT;obtain ⟨ta,tc,rfl,tlen⟩:=o2.form;have HOK:=hid okt;have HO2:=hid o2;clear o2 okt tlen;go_wp2_with fail;refine (l01Pick_any hi B w2.heap.size 3 [1,1,2] _ (C2.ext X_) (Blk.new w2 3 [.int .i64 1,.int .i64 1,.int .i64 2]) (by have:=C2.lt;omega) rfl (by decide) (by decide)).mono ?_;rintro e w3 ⟨side,rfl,hside,C3,G3⟩
 have hs2:side=1\/side=2:=by simp at hside;omega
 have gp:Gr B w2 w3:=((Gr.refl B w2).ext (show Ext w2 (w2.alloc (.cells #[.int .i64 1,.int .i64 1,.int .i64 2] 3)) from X_)).trans G3;have GG:=((Gr.refl B w).ext HX0.out).trans (G1.trans (G2.trans gp));have RR:=(G1.trans (G2.trans gp)).blk HQ.out (by omega);have zw1:=G1.size
 have O3:=(HO2.out.kept (w':=w3) (fun k h1 h2=>gp.keep h2 (by omega)))
 have HO3:=hid (O3.low (lo':=w.heap.size) (by omega));have HG:=hid GG;have HR:=hid RR;have HC3:=hid C3;have HSD:=hid hs2;have z3:=GG.size;have l3:=RR.lt;clear C1 G1 C2 G2 C3 G3 gp GG RR hside hs2 HC0 HQ HX0 O3 HO2 zw1;go_upto_region 2 with (show wpList _ _ _ [_] _ _;refine wpList_store_fresh _ _ _ rfl 31 (.tmp 3) (.tmp 13) rfl rfl #[c.w,c.h,c.zoom,c.near,.bool c.deep,c.lens,c.focus,t.log,.slice ta t.px.length tc,.slice none 0 0,.slice none 0 0,side] w3.heap.size rfl rfl rfl (by kernel_rfl) (by kernel_rfl) (by kernel_rfl) ?_)
 obtain ⟨A,hA⟩:∃A,w3.heap.size=A:=⟨_,rfl⟩
 rw [hA];have b4:=Blk.new w3 31 [c.w,c.h,c.zoom,c.near,.bool c.deep,c.lens,c.focus,t.log,.slice ta t.px.length tc,.slice none 0 0,.slice none 0 0,side];have x4:Ext w3 (w3.alloc (.cells #[c.w,c.h,c.zoom,c.near,.bool c.deep,c.lens,c.focus,t.log,.slice ta t.px.length tc,.slice none 0 0,.slice none 0 0,side] 31)):=X_
 have z4:(w3.alloc (.cells #[c.w,c.h,c.zoom,c.near,.bool c.deep,c.lens,c.focus,t.log,.slice ta t.px.length tc,.slice none 0 0,.slice none 0 0,side] 31)).heap.size=A+1:=by rw [World.size_alloc,hA]
 rw [hA] at b4;have HG4:=hid (HG.out.ext x4);have HR4:=hid (HR.out.ext x4);have HC4:=hid (HC3.out.ext x4);have HO4:=hid (HO3.out.ext x4)
 obtain ⟨W4,hW4⟩:∃W,w3.alloc (.cells #[c.w,c.h,c.zoom,c.near,.bool c.deep,c.lens,c.focus,t.log,.slice ta t.px.length tc,.slice none 0 0,.slice none 0 0,side] 31)=W:=⟨_,rfl⟩
 rw [hW4] at HG4 HR4 HC4 HO4 b4 z4 ⊢;have HB4:=hid b4
 have hBA:B<A:=by omega
 have hRA:w.heap.size<A:=by omega
 have hBlo:B<w.heap.size:=zB;have HZ4:=hid z4;clear hW4 x4 HG HR HC3 HO3 hA z3 l3 z4 b4 zB z1;go_wp2_with fail;refine (l01Below_any hi B 2 _ HC4.out (by decide) ⟨by decide,by decide⟩).mono ?_;rintro e w5 ⟨nn,rfl,hnn,C5,G5⟩
 obtain ⟨N,hN⟩:∃N:Nat,1+nn=(N:Int):=⟨(1+nn).toNat,by omega⟩
 have hN12:1<=N/\N<=2:=by omega
 have HB5:=hid (G5.blk HB4.out (by omega));have HR5:=hid (G5.blk HR4.out (by omega));have HC5:=hid C5;have HG5:=hid (HG4.out.trans G5);have HO5:=hid (HO4.out.kept (w':=w5) (fun k h1 h2=>G5.keep h2 (by omega)));have z5:=G5.size
 have z55:A+1<=w5.heap.size:=by have:=HZ4.out;omega
 have HNN:=hid hN;clear C5 G5 HB4 HR4 HC4 HG4 HO4 hN z5;go_wp2_with fail;clear hnn
 go_loopw [4] (fun i wr=>∃(j:Nat) (ps:List Prg) (hp:Nat) (pa:Option Addr) (pc:Nat),i = .int .i64 (j:Nat)/\ps.length+j=N/\(∀p∈ps,p.bd/\p.small/\p.chkB=true)/\A+1<=hp/\Blk wr A 31 [c.w,c.h,c.zoom,c.near,.bool c.deep,c.lens,c.focus,t.log,.slice ta t.px.length tc,.slice pa ps.length pc,.slice none 0 0,side]/\Blk wr w.heap.size 31 [(),(),(),(),.bool false,(),(),(),.slice none 0 0,.slice none 0 0,.slice none 0 0,()]/\OwnInts w.heap.size wr (.slice ta t.px.length tc) t.px/\PRow (A+1) hp wr (.slice pa ps.length pc) ps/\Cur hi wr B/\Gr B w wr) (fun i _=>(intOf i).toNat)
 case atStart=>exact ⟨N,[],A+1,none,0,by rw [HNN.out],by simp,fun p h=>absurd h List.not_mem_nil,Nat.le_refl _,HB5.out,HR5.out,HO5.out,PRow.nil z55,HC5.out,HG5.out⟩
 case round=>
  obtain ⟨j,ps,hp,pa,pc,rfl,hj,hps,hhp,b,r,o,pr,C,G⟩:=hrel;have HB:=hid b;have HR:=hid r;have HO:=hid o;have HP:=hid pr;have HC:=hid C;have HG:=hid G;have HPS:=hid hps;have HJ:=hid hj;have zr:=G.size;clear r o pr C G hps HB5 HR5 HC5 HG5 HO5 hj
  rcases Nat.eq_zero_or_pos j with rfl|hpos
  ·clear b
   go_wp2_with fail;have HB1:=HB;refine (l01Below_any hi B 4 _ HC.out (by decide) ⟨by decide,by decide⟩).mono ?_;rintro e w6 ⟨mm,rfl,hmm,C6,G6⟩
   obtain ⟨M,hM⟩:∃M:Nat,mm=(M:Int):=⟨mm.toNat,by omega⟩
   subst hM
   have hM3:M<=3:=by omega
   have hnp:1<=ps.length/\ps.length<=3:=by have:=HJ.out;omega
   have hnp2:1<=ps.length/\ps.length<=2:=by have:=HJ.out;omega
   have HN:=hid hnp;have HN2:=hid hnp2
   obtain ⟨hq,hhq⟩:∃q,w6.heap.size=q:=⟨_,rfl⟩
   have zw6:=G6.size;have hpw:=HP.out.1;have P6:PRow (A+1) hp w6 (.slice pa ps.length pc) ps:=HP.out.gr G6 (by omega)
   have M6:ScM w.heap.size (A+1) hp w6 t (.slice ta t.px.length tc) (.slice pa ps.length pc) (.slice none 0 0) ps []:=⟨HO.out.kept (fun k h1 h2=>G6.keep h2 (by omega)),P6,OwnG.nil _ _ _ _ _⟩
   have HM6:=hid M6;have HB6:=hid (G6.blk HB.out (by omega));have HR6:=hid (G6.blk HR.out (by omega));have HC6:=hid C6;have HG6:=hid (HG.out.trans G6)
   have hlp:w.heap.size<=A+1:=by omega
   have hhp0:w.heap.size<=hp:=by omega
   clear C6 G6 P6 M6 HB HB1 HR HC HG HO HP hmm hhq hnp hnp2;go_wp2_with fail
   go_loopw [5] (fun i wr=>∃(j:Nat) (xs:List Srf) (sa:Option Addr) (sc:Nat),i = .int .i64 (j:Nat)/\xs.length+j=M/\(∀x∈xs,SrfSm x.f x.g x.sh x.rt ps.length)/\Blk wr w.heap.size 31 [(),(),(),(),.bool false,(),(),(),.slice none 0 0,.slice none 0 0,.slice none 0 0,()]/\Blk wr A 31 [c.w,c.h,c.zoom,c.near,.bool c.deep,c.lens,c.focus,t.log,.slice ta t.px.length tc,.slice pa ps.length pc,.slice sa xs.length sc,side]/\ScM w.heap.size (A+1) hp wr t (.slice ta t.px.length tc) (.slice pa ps.length pc) (.slice sa xs.length sc) ps xs/\Cur hi wr B/\Gr B w wr) (fun i _=>(intOf i).toNat)
   case atStart=>exact ⟨M,[],none,0,rfl,by simp,fun x h=>absurd h List.not_mem_nil,HR6.out,HB6.out,HM6.out,HC6.out,HG6.out⟩
   case round=>
    obtain ⟨j,xs,sa,sc,rfl,hj,hxs0,r,b,m,C,G⟩:=hrel;have HB:=hid b;have HR:=hid r;have HM:=hid m;have HC:=hid C;have HG:=hid G;have HXS0:=hid hxs0;have HL:=hid (show xs.length<=3 by omega);have HJ2:=hid hj;have hAx:A<A+1\/hp<=A:=.inl (by omega);clear r b m C G hxs0 hj HB6 HR6 HC6 HG6 HM6
    rcases Nat.eq_zero_or_pos j with rfl|hpos
    ·have bA:=HB.out.rangeB
     have bR:=HR.out;have zr2:=HG.out.size;have hpz:=HM.out.prg.1;go_wp2_with (first|(show wpList _ _ _ [_,_] _ _;refine wpList_load_mid rfl _ _ rfl A 0 rfl [c.w,c.h,c.zoom,c.near,.bool c.deep,c.lens,c.focus,t.log,.slice ta t.px.length tc,.slice pa ps.length pc,.slice sa xs.length sc,side] _ bA Tryz.underlying31 rfl info_ScnT ?_)|(show wpList _ _ _ [_] _ _;refine wpList_store_rowTo rfl _ _ _ rfl rfl w.heap.size #[c.w,c.h,c.zoom,c.near,.bool c.deep,c.lens,c.focus,t.log,.slice ta t.px.length tc,.slice pa ps.length pc,.slice sa xs.length sc,side] rfl rfl 31 _ bR info_ScnT rfl (by kernel_rfl) ?_));have bF:=Blk.rowB HR.out [c.w,c.h,c.zoom,c.near,.bool c.deep,c.lens,c.focus,t.log,.slice ta t.px.length tc,.slice pa ps.length pc,.slice sa xs.length sc,side];clear bA bR;refine ret_box rfl rfl bF _ Tryz.underlying31 rfl info_ScnT rfl ?_;exact ⟨c,t,side,ps,xs,A+1,hp,ta,tc,pa,pc,sa,sc,rfl,⟨HCM.out,HOK.out,HSD.out,HN2.out,HPS.out,HL.out,HXS0.out⟩,hlp,hhp0,by rw [size_setRowB];exact hpz,HM.out.row HR.out (.inl (by omega)) _,HC.out.rowNew (by omega) _,HG.out.rowNew (Nat.le_refl _) _⟩
    ·have hBlo2:=hBlo
     have hhp:=hhp0
     obtain ⟨j',rfl⟩:∃j',j=j'+1:=⟨j - 1,by omega⟩
     have hj3:j'<=3:=by have:=HJ2.out;omega
     go_upto_region 9 with fail;have b:=HB.out;have c9:=b.cell 9 rfl;have c10:=b.cell 10 rfl;have lA:=b.lt;have zr:=HG.out.size;clear b;refine wp_region_stagesS [([0,1,2,3,4,5],6),([],7),([],8),([9],10)] 10 (fun w'=>∃d,w'=lowc (CBox A) _ d) (by kernel_rfl) (by kernel_rfl) (SC.drew _ _) ?_;refine sc_ fun K hK=>?_;go_wp2_with fail;refine (l20Surf_any hi B ps.length HN.out _ (HC.out.ext (Ext.drew (Ext.refl _)))).mono ?_;rintro e v1 ⟨f,g,sh,rt,rfl,hS,C1,G1⟩;have g1:Gr B wr v1:=((Gr.refl B wr).ext (Ext.drew (Ext.refl _))).trans G1;go_wp2_with fail;refine hK _ _ (.inr (SC.blocks fun a ha=>g1.keep (by rw [ha];exact lA) (by rw [ha];omega))) ?_;clear hK K;have x5:Ext v1 (v1.alloc (.cells #[(f 0),(f 1),(f 2),(f 3),(f 4),(f 5),(f 6),(f 7),(f 8),(f 9),(f 10),(f 11),(g 0),(g 1),(g 2),(g 3),(g 4),(g 5),(g 6),(g 7),(g 8),(g 9),(g 10),(g 11),sh,rt] 42)):=X_;have g5:Gr B wr (v1.alloc (.cells #[(f 0),(f 1),(f 2),(f 3),(f 4),(f 5),(f 6),(f 7),(f 8),(f 9),(f 10),(f 11),(g 0),(g 1),(g 2),(g 3),(g 4),(g 5),(g 6),(g 7),(g 8),(g 9),(g 10),(g 11),sh,rt] 42)):=g1.ext x5;have M5:=(HM.out.gr g1 hBlo hlp hhp).ext x5;have C5:=C1.ext x5;have bE:=Blk.new v1 42 [(f 0),(f 1),(f 2),(f 3),(f 4),(f 5),(f 6),(f 7),(f 8),(f 9),(f 10),(f 11),(g 0),(g 1),(g 2),(g 3),(g 4),(g 5),(g 6),(g 7),(g 8),(g 9),(g 10),(g 11),sh,rt];have b5:=g5.blk HB.out (by omega);have HSS:=hid hS;have HM5:=hid M5;have HC5:=hid C5;have HG5:=hid g5;have HE:=hid bE;have HB5:=hid b5;have z5:=g5.size;clear hS M5 C5 bE b5 C1 G1 x5 g5;refine sc_ fun K hK=>?_;go_wp2_with fail;refine hK _ _ (.inr (SC.blocks fun a ha=>HG5.out.keep (by rw [ha];exact lA) (by rw [ha];omega))) ?_;clear hK K g1;refine sc_ fun K hK=>?_
     refine wpList_append_at Srf.cs 42 26 208 _ _ rfl _ _ 29 rfl Tryz.underlying29 info_SrfT rfl (by decide) (by decide) (fun _=>rfl) hp (.slice sa xs.length sc) xs rfl HM5.out.srf ⟨f,g,sh,rt⟩ v1.heap.size rfl (fun j hj=>by
       have e1:(Srf.cs ⟨f,g,sh,rt⟩)[j]?=some ((Srf.cs ⟨f,g,sh,rt⟩)[j]'(by rw [Srf.cs_len];exact hj)):=List.getElem?_eq_getElem _
       exact (HE.out.cell j e1).trans e1.symm) (Srf.one _) (by have:=HL.out;omega) (by have h1:=HM5.out.prg.1;exact h1) ?_
     intro v2 w2 hown hgr hat
     obtain ⟨xs',hxs⟩:∃xs',xs++[(⟨f,g,sh,rt⟩:Srf)]=xs':=⟨_,rfl⟩
     rw [hxs] at hown;obtain ⟨sa2,sc2,rfl,_⟩:=OwnG.form hown;have hrow:=OwnG.rowS HM5.out.srf
     have b6:=HB5.out.grown hgr (fun e=>by
       obtain ⟨_,cc,hcc⟩:=hrow _ e.symm
       exact HB5.out.neRow hcc (by decide) rfl)
     have HXS:=hid hxs;have HB6:=hid b6;have HM6:=hid (HM5.out.push hgr hown);have HC6:=hid (HC5.out.grown hgr (fun k e=>by have:=(hrow k e).1;omega));have HG6:=hid ((HG.out.trans HG5.out).step hgr (fun k e=>by have:=(hrow k e).1;omega));have HRR:=hid ((HG5.out.blk HR.out (by omega)).grown hgr (fun e=>by have:=(hrow _ e.symm).1;omega))
     have HKP:=hid (show ∀a,CBox A a->w2.heap[a.block]?=wr.heap[a.block]? from fun a ha=>(hgr.block _ (by rw [ha];omega) (fun e=>by
       obtain ⟨_,cc,hcc⟩:=hrow _ e.symm;rw [ha] at hcc
       exact HB5.out.neRow hcc (by decide) rfl)).trans (HG5.out.keep (by rw [ha];exact lA) (by rw [ha];omega)))
     have c10':=b6.cell 10 rfl;have k10:=b6.free 10;have l6:=b6.lt;clear hown hgr hat hrow hxs b6 c9 c10;go_wp2_with fail;refine hK _ _ (.inr (SC.blocks HKP.out)) ?_;clear hK K
     try simp only [Act.put,List.getElem_toArray,List.getElem_cons_succ,List.getElem_cons_zero,List.setIfInBounds_toArray,List.set_cons_succ,List.set_cons_zero]
     refine sc_ fun K hK=>?_;go_wp2_with fail;refine hK _ _ (.inl trivial) ?_;clear hK K;refine wpStagesS_nil ?_;go_wp2;go_roundw
     case rel=>
      refine ⟨j',xs',sa2,sc2,by go_num,?_,?_,?_,HB6.out.set 10 _,HM6.out.set HB6.out hAx 10 _,HC6.out.setNew (by omega) 10 _,HG6.out.setNew (by omega) 10 _⟩
      ·rw [<-HXS.out,List.length_append,List.length_singleton]
       have:=HJ2.out;omega
      ·rw [<-HXS.out]
       intro y hy
       rcases List.mem_append.1 hy with hy|hy
       ·exact HXS0.out y hy
       ·rw [List.mem_singleton.1 hy]
        exact HSS.out
      ·exact HRR.out.other (by simp only;omega) _
     case measure=>simp [intOf]
  ·have c9:=b.cell 9 rfl
   have lA:=b.lt;have hpw:=HP.out.1;obtain ⟨_,us,hus,hown0,hR0⟩:=HP.out;have HUS:=hid hus;have HOW:=hid hown0;have HR0:=hid hR0;obtain ⟨pa',pc',he,_⟩:=OwnG.form hown0;have HPE:=hid he;clear b hus hown0 hR0 he;go_upto_region 5 with fail;refine wp_region_stagesS [([0,1,2],3),([],4),([],5),([6],7)] 7 (fun w'=>∃d,w'=lowc (CBox A) _ d) (by kernel_rfl) (by kernel_rfl) (SC.drew _ _) ?_;refine sc_ fun K hK=>?_;go_wp2_with fail;have Cd:=HC.out.ext (Ext.drew (Ext.refl wr));refine (l14Good_cur hi B _ Cd).mono ?_;rintro e v1 ⟨p,u,rfl,R1,bd1,sm1,ch1,C1,G1⟩;obtain ⟨na,nc,ga,gc,rfl,-,-⟩:=R1.form;have g1:Gr B wr v1:=((Gr.refl B wr).ext (Ext.drew (Ext.refl _))).trans G1;go_wp2_with fail;refine hK _ _ (.inr (SC.blocks fun a ha=>g1.keep (by rw [ha];exact lA) (by rw [ha];omega))) ?_;clear hK K;have x5:Ext v1 (v1.alloc (.cells #[.slice na p.ns.length nc,.slice ga p.gs.length gc] 132)):=X_;have g5:Gr B wr (v1.alloc (.cells #[.slice na p.ns.length nc,.slice ga p.gs.length gc] 132)):=g1.ext x5;have bE:=Blk.new v1 132 [.slice na p.ns.length nc,.slice ga p.gs.length gc];have b5:=g5.blk HB.out (by omega);have OW5:=OwnG.of (w':=v1.alloc (.cells #[.slice na p.ns.length nc,.slice ga p.gs.length gc] 132)) HOW.out fun b c hb hc=>(g5.keep (Array.getElem?_eq_some_iff.1 hc).1 (by omega)).trans hc;have HP1:=hid (⟨bd1,sm1,ch1⟩:p.bd/\p.small/\p.chkB=true);have HR1:=hid R1;have HX5:=hid x5;have HC5:=hid (C1.ext x5);have HG1:=hid g1;have HG5:=hid g5;have HE:=hid bE;have HB5:=hid b5;have HOW5:=hid OW5;have z5:=g5.size;clear C1 G1 x5 g5 bE b5 OW5 bd1 sm1 ch1 R1;refine sc_ fun K hK=>?_;go_wp2_with fail;refine hK _ _ (.inr (SC.blocks fun a ha=>HG5.out.keep (by rw [ha];exact lA) (by rw [ha];omega))) ?_;clear hK K g1;refine sc_ fun K hK=>?_
   refine wpList_append_at pairCs 132 2 48 _ _ rfl _ _ 28 rfl Tryz.underlying28 info_PrgT rfl (by decide) (by decide) (fun _=>rfl) (A+1) (.slice pa ps.length pc) us rfl HOW5.out (.slice na p.ns.length nc,.slice ga p.gs.length gc) v1.heap.size rfl (fun j hj=>by
     rcases (show j=0\/j=1 by omega) with rfl|rfl
     ·exact HE.out.cell 0 rfl
     ·exact HE.out.cell 1 rfl) (pair_one _ rfl rfl) (by have:=HUS.out;have:=HJ.out;omega) (by omega) ?_
   intro v2 w2 hown hgr hat;obtain ⟨pa2,pc2,he2,_⟩:=OwnG.form hown
   have hl2:(us++[((.slice na p.ns.length nc,.slice ga p.gs.length gc):Value×Value)]).length=(ps++[p]).length:=by simp [HUS.out]
   rw [hl2] at he2;have hrow:=OwnG.rowS HOW5.out;have hvl:∀k,(Value.slice pa ps.length pc).ownBlock=some k->A+1<=k/\k<wr.heap.size:=fun k hk=>HOW.out.lt k hk;have PP:=PRow.push (lo:=A+1) HP.out.1 (by omega) HG1.out (by omega) HR1.out HUS.out HR0.out hvl HX5.out hown hgr hat
   obtain ⟨ps',hps'⟩:∃ps',ps++[p]=ps':=⟨_,rfl⟩
   rw [hps'] at he2 PP;subst he2
   have b6:=HB5.out.grown hgr (fun e=>by
     obtain ⟨_,cc,hcc⟩:=hrow _ e.symm
     exact HB5.out.neRow hcc (by decide) rfl)
   have r6:=(HG5.out.blk HR.out (by omega)).grown hgr (fun e=>by have:=(hrow _ e.symm).1;omega)
   have o6:=(HO.out.kept (fun k h1 h2=>HG5.out.keep h2 (by omega))).grown hgr (fun k hk e=>by
     obtain ⟨_,cc,hcc⟩:=hrow k e.symm;obtain ⟨c',hc'⟩:=(HO.out.kept (fun k h1 h2=>HG5.out.keep h2 (by omega))).block hk;rw [hc'] at hcc;simp only [Option.some.injEq,Obj.cells.injEq] at hcc
     exact absurd hcc.2.1 (by decide))
   have HPP:=hid PP;have HPE2:=hid hps';have HB6:=hid b6;have HR6:=hid r6;have HO6:=hid o6;have HC6:=hid (HC5.out.grown hgr (fun k e=>by have:=(hrow k e).1;omega));have HG6:=hid ((HG.out.trans HG5.out).step hgr (fun k e=>by have:=(hrow k e).1;omega))
   have HKP:=hid (show ∀a,CBox A a->w2.heap[a.block]?=wr.heap[a.block]? from fun a ha=>(hgr.block _ (by rw [ha];omega) (fun e=>by
     obtain ⟨_,cc,hcc⟩:=hrow _ e.symm;rw [ha] at hcc
     exact HB5.out.neRow hcc (by decide) rfl)).trans (HG5.out.keep (by rw [ha];exact lA) (by rw [ha];omega)))
   have hz1:wr.heap.size<=v1.heap.size:=HG1.out.size;have c9':=b6.cell 9 rfl;have k9:=b6.free 9;have l6:=b6.lt;clear hown hgr hat hrow hvl PP hps' b6 r6 o6 c9 hl2;go_wp2_with fail;refine hK _ _ (.inr (SC.blocks HKP.out)) ?_;clear hK K
   try simp only [Act.put,List.getElem_toArray,List.getElem_cons_succ,List.getElem_cons_zero,List.setIfInBounds_toArray,List.set_cons_succ,List.set_cons_zero]
   refine sc_ fun K hK=>?_;go_wp2_with fail;refine hK _ _ (.inl trivial) ?_;clear hK K;refine wpStagesS_nil ?_
   obtain ⟨j',rfl⟩:∃j',j=j'+1:=⟨j - 1,by omega⟩
   have hj3:j'<=3:=by have:=HJ.out;omega
   go_wp2;go_roundw
   case rel=>
    refine ⟨j',ps',v1.heap.size,pa2,pc2,by go_num,?_,?_,by omega,HB6.out.set 9 _,HR6.out.other (by simp only;omega) _,HO6.out.setOther (ints_ne_box HO6.out HB6.out (by decide)) _,HPP.out.set HB6.out (by decide) (.inl (by omega)) 9 _,HC6.out.setNew (by omega) 9 _,HG6.out.setNew (by omega) 9 _⟩
    ·rw [<-HPE2.out,List.length_append,List.length_singleton]
     have:=HJ.out;omega
    ·rw [<-HPE2.out]
     intro q hq
     rcases List.mem_append.1 hq with hq|hq
     ·exact HPS.out q hq
     ·rw [List.mem_singleton.1 hq]
      exact HP1.out
   case measure=>simp [intOf]
theorem l32Scene_any (hi B:Nat) (w:World) (hc:Cur hi w B):Calls Tryz.prog 33 #[.pointer (some ⟨B,0,none⟩)] w fun e w'=>∃(c:Cam) (t:Tex) (side:Int) (ps:List Prg) (xs:List Srf) (lp hp:Nat) (ta:Option Addr) (tc:Nat) (pa:Option Addr) (pc:Nat) (sa:Option Addr) (sc:Nat),
  e = .returned (.agg #[c.w,c.h,c.zoom,c.near,.bool c.deep,c.lens,c.focus,t.log,.slice ta t.px.length tc,.slice pa ps.length pc,.slice sa xs.length sc,side])/\ScSm c t side ps xs/\1<=xs.length/\w.heap.size<=lp/\w.heap.size<=hp/\hp<=w'.heap.size/\ScM w.heap.size lp hp w' t (.slice ta t.px.length tc) (.slice pa ps.length pc) (.slice sa xs.length sc) ps xs/\Cur hi w' B/\Gr B w w':=by
 have zB:=hc.lt;have x0:Ext w (w.alloc (.cells #[(),(),(),(),.bool false,(),(),(),.slice none 0 0,.slice none 0 0,.slice none 0 0,()] 31)):=X_;have HQ:=hid (Blk.new w 31 [(),(),(),(),.bool false,(),(),(),.slice none 0 0,.slice none 0 0,.slice none 0 0,()]);have HC0:=hid (hc.ext x0);have HX0:=hid x0;have z1:(w.alloc (.cells #[(),(),(),(),.bool false,(),(),(),.slice none 0 0,.slice none 0 0,.slice none 0 0,()] 31)).heap.size=w.heap.size+1:=World.size_alloc _ _;clear hc x0;go_enter Tryz.func33,Tryz.ntmps33;go_wp2_with fail;refine (l20Draw_any hi B _ HC0.out).mono ?_;rintro e w3 ⟨c,t,side,ps,xs0,lp,hp,ta,tc,pa,pc,sa0,sc0,rfl,hsm,hlp0,hhp0,hpw,m3,C3,G3⟩;have GG:=((Gr.refl B w).ext HX0.out).trans G3;have HR3:=hid (G3.blk HQ.out (by omega));have HG3:=hid GG;have HC3:=hid C3;have HM3:=hid (m3.low (lo':=w.heap.size) (by omega));have HSM:=hid hsm;have HN:=hid (show 1<=ps.length/\ps.length<=3 by have:=hsm.n;omega);have z3:=G3.size;have l3:=HR3.out.lt
 have hlps:w.heap.size<lp:=by omega
 have hhps:w.heap.size<hp:=by omega
 have hlp:w.heap.size<=lp:=by omega
 have hhp:w.heap.size<=hp:=by omega
 clear GG G3 C3 m3 hsm HC0 HQ HX0;go_wp2_with (show wpList _ _ _ [_] _ _;refine wpList_store_fresh _ _ _ rfl 31 (.tmp 3) (.tmp 5) rfl rfl #[c.w,c.h,c.zoom,c.near,.bool c.deep,c.lens,c.focus,t.log,.slice ta t.px.length tc,.slice pa ps.length pc,.slice sa0 xs0.length sc0,side] w3.heap.size rfl rfl rfl (by kernel_rfl) (by kernel_rfl) (by kernel_rfl) ?_)
 obtain ⟨A,hA⟩:∃A,w3.heap.size=A:=⟨_,rfl⟩
 rw [hA];have b4:=Blk.new w3 31 [c.w,c.h,c.zoom,c.near,.bool c.deep,c.lens,c.focus,t.log,.slice ta t.px.length tc,.slice pa ps.length pc,.slice sa0 xs0.length sc0,side];have x4:Ext w3 (w3.alloc (.cells #[c.w,c.h,c.zoom,c.near,.bool c.deep,c.lens,c.focus,t.log,.slice ta t.px.length tc,.slice pa ps.length pc,.slice sa0 xs0.length sc0,side] 31)):=X_;rw [hA] at b4;have HG4:=hid (HG3.out.ext x4);have HR4:=hid (HR3.out.ext x4);have HC4:=hid (HC3.out.ext x4);have HM4:=hid (HM3.out.ext x4)
 obtain ⟨W4,hW4⟩:∃W,w3.alloc (.cells #[c.w,c.h,c.zoom,c.near,.bool c.deep,c.lens,c.focus,t.log,.slice ta t.px.length tc,.slice pa ps.length pc,.slice sa0 xs0.length sc0,side] 31)=W:=⟨_,rfl⟩
 rw [hW4] at HG4 HR4 HC4 HM4 b4 ⊢;have HB4:=hid b4
 have hBA:B<A:=by omega
 have hRA:w.heap.size<A:=by omega
 have hBlo:B<w.heap.size:=zB;have hAx:A<lp\/hp<=A:=.inr (by omega);clear hW4 x4 HG3 HR3 HC3 HM3 hA z3 l3 b4 zB z1 hlp0 hhp0 hpw
 go_loopg [] 1 (fun k wr=>∃(xs:List Srf) (sa:Option Addr) (sc:Nat),1<=xs.length+k/\k<=1/\xs.length<=3/\(∀x∈xs,SrfSm x.f x.g x.sh x.rt ps.length)/\Blk wr w.heap.size 31 [(),(),(),(),.bool false,(),(),(),.slice none 0 0,.slice none 0 0,.slice none 0 0,()]/\Blk wr A 31 [c.w,c.h,c.zoom,c.near,.bool c.deep,c.lens,c.focus,t.log,.slice ta t.px.length tc,.slice pa ps.length pc,.slice sa xs.length sc,side]/\ScM w.heap.size lp hp wr t (.slice ta t.px.length tc) (.slice pa ps.length pc) (.slice sa xs.length sc) ps xs/\Cur hi wr B/\Gr B w wr)
 case atStart=>exact ⟨xs0,sa0,sc0,by omega,by omega,HSM.out.m,HSM.out.srf,HR4.out,HB4.out,HM4.out,HC4.out,HG4.out⟩
 case round=>
  obtain ⟨xs,sa,sc,hk1,hk2,hm3,hxs0,r,b,m,C,G⟩:=hrel;have HB:=hid b;have HR:=hid r;have HM:=hid m;have HC:=hid C;have HG:=hid G;have HXS0:=hid hxs0;have HL:=hid hm3;have d10:=b.cell 10 rfl;have ld:=b.lt;clear r b m C G hxs0 HB4 HR4 HC4 HG4 HM4
  rcases Nat.eq_zero_or_pos xs.length with h0|hpos
  ·have hx0:(xs.length:Int)=0:=by omega
   go_upto_region 3 with fail;have H0:=hid h0;clear d10 ld h0 hx0;have b:=HB.out;have c9:=b.cell 9 rfl;have c10:=b.cell 10 rfl;have lA:=b.lt;have zr:=HG.out.size;clear b;refine wp_region_stagesS [([0,1,2,3,4,5],6),([],7),([],8),([9],10)] 10 (fun w'=>∃d,w'=lowc (CBox A) _ d) (by kernel_rfl) (by kernel_rfl) (SC.drew _ _) ?_;refine sc_ fun K hK=>?_;go_wp2_with fail;refine (l20Surf_any hi B ps.length HN.out _ (HC.out.ext (Ext.drew (Ext.refl _)))).mono ?_;rintro e v1 ⟨f,g,sh,rt,rfl,hS,C1,G1⟩;have g1:Gr B wr v1:=((Gr.refl B wr).ext (Ext.drew (Ext.refl _))).trans G1;go_wp2_with fail;refine hK _ _ (.inr (SC.blocks fun a ha=>g1.keep (by rw [ha];exact lA) (by rw [ha];omega))) ?_;clear hK K;have x5:Ext v1 (v1.alloc (.cells #[(f 0),(f 1),(f 2),(f 3),(f 4),(f 5),(f 6),(f 7),(f 8),(f 9),(f 10),(f 11),(g 0),(g 1),(g 2),(g 3),(g 4),(g 5),(g 6),(g 7),(g 8),(g 9),(g 10),(g 11),sh,rt] 42)):=X_;have g5:Gr B wr (v1.alloc (.cells #[(f 0),(f 1),(f 2),(f 3),(f 4),(f 5),(f 6),(f 7),(f 8),(f 9),(f 10),(f 11),(g 0),(g 1),(g 2),(g 3),(g 4),(g 5),(g 6),(g 7),(g 8),(g 9),(g 10),(g 11),sh,rt] 42)):=g1.ext x5;have M5:=(HM.out.gr g1 hBlo hlp hhp).ext x5;have C5:=C1.ext x5;have bE:=Blk.new v1 42 [(f 0),(f 1),(f 2),(f 3),(f 4),(f 5),(f 6),(f 7),(f 8),(f 9),(f 10),(f 11),(g 0),(g 1),(g 2),(g 3),(g 4),(g 5),(g 6),(g 7),(g 8),(g 9),(g 10),(g 11),sh,rt];have b5:=g5.blk HB.out (by omega);have HSS:=hid hS;have HM5:=hid M5;have HC5:=hid C5;have HG5:=hid g5;have HE:=hid bE;have HB5:=hid b5;have z5:=g5.size;clear hS M5 C5 bE b5 C1 G1 x5 g5;refine sc_ fun K hK=>?_;go_wp2_with fail;refine hK _ _ (.inr (SC.blocks fun a ha=>HG5.out.keep (by rw [ha];exact lA) (by rw [ha];omega))) ?_;clear hK K g1;refine sc_ fun K hK=>?_
   refine wpList_append_at Srf.cs 42 26 208 _ _ rfl _ _ 29 rfl Tryz.underlying29 info_SrfT rfl (by decide) (by decide) (fun _=>rfl) hp (.slice sa xs.length sc) xs rfl HM5.out.srf ⟨f,g,sh,rt⟩ v1.heap.size rfl (fun j hj=>by
     have e1:(Srf.cs ⟨f,g,sh,rt⟩)[j]?=some ((Srf.cs ⟨f,g,sh,rt⟩)[j]'(by rw [Srf.cs_len];exact hj)):=List.getElem?_eq_getElem _
     exact (HE.out.cell j e1).trans e1.symm) (Srf.one _) (by have:=HL.out;omega) (by have h1:=HM5.out.prg.1;exact h1) ?_
   intro v2 w2 hown hgr hat
   obtain ⟨xs',hxs⟩:∃xs',xs++[(⟨f,g,sh,rt⟩:Srf)]=xs':=⟨_,rfl⟩
   rw [hxs] at hown;obtain ⟨sa2,sc2,rfl,_⟩:=OwnG.form hown;have hrow:=OwnG.rowS HM5.out.srf
   have b6:=HB5.out.grown hgr (fun e=>by
     obtain ⟨_,cc,hcc⟩:=hrow _ e.symm
     exact HB5.out.neRow hcc (by decide) rfl)
   have HXS:=hid hxs;have HB6:=hid b6;have HM6:=hid (HM5.out.push hgr hown);have HC6:=hid (HC5.out.grown hgr (fun k e=>by have:=(hrow k e).1;omega));have HG6:=hid ((HG.out.trans HG5.out).step hgr (fun k e=>by have:=(hrow k e).1;omega));have HRR:=hid ((HG5.out.blk HR.out (by omega)).grown hgr (fun e=>by have:=(hrow _ e.symm).1;omega))
   have HKP:=hid (show ∀a,CBox A a->w2.heap[a.block]?=wr.heap[a.block]? from fun a ha=>(hgr.block _ (by rw [ha];omega) (fun e=>by
     obtain ⟨_,cc,hcc⟩:=hrow _ e.symm;rw [ha] at hcc
     exact HB5.out.neRow hcc (by decide) rfl)).trans (HG5.out.keep (by rw [ha];exact lA) (by rw [ha];omega)))
   have c10':=b6.cell 10 rfl;have k10:=b6.free 10;have l6:=b6.lt;clear hown hgr hat hrow hxs b6 c9 c10;go_wp2_with fail;refine hK _ _ (.inr (SC.blocks HKP.out)) ?_;clear hK K
   try simp only [Act.put,List.getElem_toArray,List.getElem_cons_succ,List.getElem_cons_zero,List.setIfInBounds_toArray,List.set_cons_succ,List.set_cons_zero]
   refine sc_ fun K hK=>?_;go_wp2_with fail;refine hK _ _ (.inl trivial) ?_;clear hK K;refine wpStagesS_nil ?_;go_wp2
   go_roundg 0
   case measure=>
    have:=H0.out;omega
   case rel=>
    refine ⟨xs',sa2,sc2,?_,by omega,?_,?_,?_,HB6.out.set 10 _,HM6.out.set HB6.out hAx 10 _,HC6.out.setNew (by omega) 10 _,HG6.out.setNew (by omega) 10 _⟩
    ·rw [<-HXS.out,List.length_append,List.length_singleton]
     omega
    ·rw [<-HXS.out,List.length_append,List.length_singleton]
     have:=H0.out;omega
    ·rw [<-HXS.out]
     intro y hy
     rcases List.mem_append.1 hy with hy|hy
     ·exact HXS0.out y hy
     ·rw [List.mem_singleton.1 hy]
      exact HSS.out
    ·exact HRR.out.other (by simp only;omega) _
  ·have hx0 : ¬(xs.length:Int)=0:=by omega
   have bA:=HB.out.rangeB;have bR:=HR.out;have zr2:=HG.out.size;have hpz:=HM.out.prg.1;go_wp2_with (first|(show wpList _ _ _ [_,_] _ _;refine wpList_load_mid rfl _ _ rfl A 0 rfl [c.w,c.h,c.zoom,c.near,.bool c.deep,c.lens,c.focus,t.log,.slice ta t.px.length tc,.slice pa ps.length pc,.slice sa xs.length sc,side] _ bA Tryz.underlying31 rfl info_ScnT ?_)|(show wpList _ _ _ [_] _ _;refine wpList_store_rowTo rfl _ _ _ rfl rfl w.heap.size #[c.w,c.h,c.zoom,c.near,.bool c.deep,c.lens,c.focus,t.log,.slice ta t.px.length tc,.slice pa ps.length pc,.slice sa xs.length sc,side] rfl rfl 31 _ bR info_ScnT rfl (by kernel_rfl) ?_));have bF:=Blk.rowB HR.out [c.w,c.h,c.zoom,c.near,.bool c.deep,c.lens,c.focus,t.log,.slice ta t.px.length tc,.slice pa ps.length pc,.slice sa xs.length sc,side];clear bA bR;refine ret_box rfl rfl bF _ Tryz.underlying31 rfl info_ScnT rfl ?_;have hs:=HSM.out;exact ⟨c,t,side,ps,xs,lp,hp,ta,tc,pa,pc,sa,sc,rfl,⟨hs.c,hs.t,hs.side,hs.n,hs.prg,HL.out,HXS0.out⟩,hpos,hlp,hhp,by rw [size_setRowB];exact hpz,HM.out.row HR.out (.inl (by omega)) _,HC.out.rowNew (by omega) _,HG.out.rowNew (Nat.le_refl _) _⟩
section
open Go.ChangeShapes Go.WideShapes Go.ChangeAt Go.RowKit
section
variable {H : Type} {enc : TypeId × Value -> H} {W : World} {base b0 : Nat} {sp : Nat -> Bool} {held : Bool}
end
end
section
open Go.ChangeShapes Go.WideShapes Go.ChangeAt Go.RowKit
section
variable {H : Type} {enc : TypeId × Value -> H} {W : World} {base b0 : Nat} {sp : Nat -> Bool} {held : Bool}
theorem wf_U8 {n:Int} (h:(Lit.int .u8 n).wf=true):0<=n/\n<=255:=by
 simp [Lit.wf,IntKind.min,IntKind.max,IntKind.signed,IntKind.bits] at h;omega
theorem cellByts {fuel:Nat} {c:Value} {y:DataW H×List MemPlace} (h:DataW.trod enc Tryz.prog W base sp held fuel 22 [c]=some y):∃n,Byts W.heap.size W c n:=by
 rcases open_ints Tryz.underlying22 Tryz.underlying5 (by kernel_rfl) h with ⟨hcs,_⟩|⟨a,len,cap,zs,hcs,_,hl,hm,hz,_,hcell,hwz⟩
 ·obtain rfl:c = .slice none 0 0:=by simpa using hcs
  exact ⟨0,none,0,rfl,Nat.le_refl _,by unfold maxLen;omega,fun i hx=>by omega⟩
 ·obtain rfl:c = .slice (some a) len cap:=by simpa using hcs
  refine ⟨len,some a,cap,rfl,by omega,hm,fun i hi=>?_⟩
  have hlz:len<=zs.length:=by rw [hz];split <;> omega
  have hzi:i<zs.length:=by omega
  obtain ⟨b,o,s⟩:=a
  obtain rfl:s=none:=by
   cases s with
   | none=>rfl
   | some s=>
    have h0:=hcell 0 (by omega);simp only [World.cell?,Addr.add,if_true] at h0
    split at h0 <;> simp at h0
  have hc:=hcell i hzi
  have ha:(⟨b,o,none⟩:Addr).add i=⟨b,o+i,none⟩:=by
   unfold Addr.add
   split
   ·rename_i e;subst e;rfl
   ·rfl
  rw [ha] at hc;have hw:=wf_U8 (hwz (zs.getD i 0) (by rw [List.getD_eq_getElem?_getD,List.getElem?_eq_getElem hzi];exact List.getElem_mem hzi));refine ⟨b,o,zs.getD i 0,rfl,?_,hw.1,hw.2,hc⟩;simp only [World.cell?] at hc
  split at hc
  ·rename_i e;exact (Array.getElem?_eq_some_iff.1 e).1
  ·cases hc
theorem argByts {v:Value} {d:DataW H} {p:List MemPlace} (hv:Value.okWide Tryz.prog W .any b0 22 v) (h:DataW.Trod enc Tryz.prog W base sp held 22 v d p):∃n,Byts W.heap.size W v n:=by
 obtain ⟨a,len,cap,rfl⟩:=okWide_slice Tryz.underlying22 hv;obtain ⟨fuel,hf⟩:=h;exact cellByts hf
end
end
theorem patB_cg {f g:Nat->Int} (h:∀j,j<12->f j=g j):patB f=patB g:=by
 unfold patB;rw [h 0 (by decide),h 1 (by decide),h 2 (by decide),h 3 (by decide),h 4 (by decide),h 5 (by decide),h 6 (by decide),h 7 (by decide),h 8 (by decide),h 9 (by decide),h 10 (by decide),h 11 (by decide)]
theorem nearP_cg {f g:Nat->Int} (h:∀j,j<12->f j=g j):nearP f=nearP g:=by
 unfold nearP;rw [h 2 (by decide),h 5 (by decide),h 8 (by decide),h 11 (by decide)]
def scnOf (c:Cam) (t:Tex) (side:Int) (ps:List Prg) (xs:List Srf):Scn:=⟨c,t,ps,xs.length,srfF xs,side⟩
section
variable {c : Cam} {t : Tex} {side : Int} {ps : List Prg} {xs : List Srf} {k : Nat} {x : Srf}
theorem scnOf_st (h:xs[k]?=some x):∀j,j<12->(scnOf c t side ps xs).st k j=x.f j:=fun j hj=>by
 show srfF xs (k*26+j)=_
 rw [srfF_at h (by omega)]
 rcases twelve1 hj with e|e|e|e|e|e|e|e|e|e|e|e <;> subst e <;> rfl
theorem scnOf_en (h:xs[k]?=some x):∀j,j<12->(scnOf c t side ps xs).en k j=x.g j:=fun j hj=>by
 show srfF xs (k*26+12+j)=_
 rw [Nat.add_assoc,srfF_at h (by omega)]
 rcases twelve1 hj with e|e|e|e|e|e|e|e|e|e|e|e <;> subst e <;> rfl
theorem scnOf_sh (h:xs[k]?=some x):(scnOf c t side ps xs).sh k=x.sh:=by
 show srfF xs (k*26+24)=_
 rw [srfF_at h (by decide)]
 rfl
theorem scnOf_rt (h:xs[k]?=some x):(scnOf c t side ps xs).rt k=x.rt:=by
 show srfF xs (k*26+25)=_
 rw [srfF_at h (by decide)]
 rfl
end
theorem PtSm.i64 {f:Nat->Int} (h:PtSm f) (j:Nat):I64 (f j):=by have:=h.bd j;exact ⟨by omega,by omega⟩
theorem SrfSm.I {x:Srf} {n:Nat} (h:SrfSm x.f x.g x.sh x.rt n) (hn:n<=1000):x.I:=by
 intro y hy;have h1:=h.sh;have h2:=h.rt;simp only [Srf.ls,List.mem_cons,List.not_mem_nil,or_false] at hy;have a:∀{j:Nat},y=x.f j->I64 y:=fun e=>e▸h.f.i64 _;have b:∀{j:Nat},y=x.g j->I64 y:=fun e=>e▸h.g.i64 _
 rcases hy with e|e|e|e|e|e|e|e|e|e|e|e|e|e|e|e|e|e|e|e|e|e|e|e|e|e
 ·exact a e
 ·exact a e
 ·exact a e
 ·exact a e
 ·exact a e
 ·exact a e
 ·exact a e
 ·exact a e
 ·exact a e
 ·exact a e
 ·exact a e
 ·exact a e
 ·exact b e
 ·exact b e
 ·exact b e
 ·exact b e
 ·exact b e
 ·exact b e
 ·exact b e
 ·exact b e
 ·exact b e
 ·exact b e
 ·exact b e
 ·exact b e
 ·rw [e];exact ⟨by omega,by omega⟩
 ·rw [e];exact ⟨by omega,by omega⟩
structure Scn.Drawn (s:Scn):Prop where
 ok:s.Ok
 small:s.small
 cam:s.c.Sm
 side:s.side=1\/s.side=2
 m:s.m<=3
 n:s.ps.length<=2
 rt:∀k,k<s.m->s.rt k=1\/s.rt k=2\/s.rt k=4
 near:∀k,k<s.m->60<=s.near k
theorem ScSm.drawn {c:Cam} {t:Tex} {side:Int} {ps:List Prg} {xs:List Srf} (h:ScSm c t side ps xs):(scnOf c t side ps xs).Drawn:=by
 have at_:∀k,k<xs.length->∃x,xs[k]?=some x/\SrfSm x.f x.g x.sh x.rt ps.length:=fun k hk=>⟨xs[k],List.getElem?_eq_getElem hk,h.srf _ (List.getElem_mem hk)⟩
 have hn:=h.n;have hm:=h.m;refine ⟨⟨Cam.okB_iff.1 h.c.okB,h.c.okB,Tex.okB_iff.2 h.t,⟨hn.1,by show ps.length<=3;omega⟩,by show xs.length<=5;omega,by have:=h.side;show side=1\/side=2\/side=4;omega,fun p hp=>(h.prg p hp).2.2,fun k hk=>?_⟩,fun p hp=>⟨(h.prg p hp).1,(h.prg p hp).2.1⟩,h.c,h.side,hm,hn.2,fun k hk=>?_,fun k hk=>?_⟩
 ·obtain ⟨x,hx,hs⟩:=at_ k hk
  have e:=hs.ok;unfold Scn.srfB srfB;unfold srfB at e;rw [patB_cg (scnOf_st hx),patB_cg (scnOf_en hx),scnOf_sh hx,scnOf_rt hx];exact e
 ·obtain ⟨x,hx,hs⟩:=at_ k hk
  rw [scnOf_rt hx];exact hs.rt
 ·obtain ⟨x,hx,hs⟩:=at_ k hk
  have e:=hs.near;unfold Scn.near nearS;unfold nearS at e;rw [nearP_cg (scnOf_st hx),nearP_cg (scnOf_en hx)];exact e
theorem ScM.reads {lo lp hp:Nat} {w:World} {c:Cam} {t:Tex} {side:Int} {ps:List Prg} {xs:List Srf} {ta:Option Addr} {tc:Nat} {pa:Option Addr} {pc:Nat} {sa:Option Addr} {sc:Nat}
  (h:ScM lo lp hp w t (.slice ta t.px.length tc) (.slice pa ps.length pc) (.slice sa xs.length sc) ps xs) (hs:ScSm c t side ps xs) (h1:lo<=lp) (h2:lo<=hp):(scnOf c t side ps xs).R lo w.heap.size w (.agg #[c.w,c.h,c.zoom,c.near,.bool c.deep,c.lens,c.focus,t.log,.slice ta t.px.length tc,.slice pa ps.length pc,.slice sa xs.length sc,side]):=by
 have hc:=hs.c;have hcw:=hc.w;have hch:=hc.h;have hcz:=hc.zoom;have hcn:=hc.near;have hcl:=hc.lens;have hcf:=hc.focus;have hsd:=hs.side;have hn:=hs.n;have t0:=hs.t.log0;have t4:=hs.t.log4;refine ⟨_,_,_,rfl,⟨⟨by show -9223372036854775808<=c.w;omega,by show c.w<=_;omega⟩,⟨by show -9223372036854775808<=c.h;omega,by show c.h<=_;omega⟩,⟨by show -9223372036854775808<=c.zoom;omega,by show c.zoom<=_;omega⟩,⟨by show -9223372036854775808<=c.near;omega,by show c.near<=_;omega⟩,⟨by show -9223372036854775808<=c.lens;omega,by show c.lens<=_;omega⟩,⟨by show -9223372036854775808<=c.focus;omega,by show c.focus<=_;omega⟩⟩,⟨by show -9223372036854775808<=t.log;omega,by show t.log<=_;omega⟩,⟨by show -9223372036854775808<=side;omega,by show side<=_;omega⟩,h.tex.ints,?_,?_⟩
 ·obtain ⟨a,cap,k1,k2,k3,k4⟩:=h.prg.prgs
  refine ⟨a,cap,k1,k2,k3,fun k p hp=>?_⟩;obtain ⟨b,off,u1,u2,e1,e2,e3,e4,e5,e6⟩:=k4 k p hp;exact ⟨b,off,u1,u2,e1,by omega,e3,e4,e5,e6.low h1 (Nat.le_refl _)⟩
 ·exact (OwnG.flatsS h.srf fun x hx=>(hs.srf x hx).I (by omega)).wide h2 (Nat.le_refl _)
theorem MakeScene_any (hi:Nat) (v:Value) (n:Nat) (w:World) (hv:Byts hi w v n) (hh:hi<=w.heap.size) (hn:n<=1048576) :
  Calls Tryz.prog 8 #[v] w fun e w'=>∃(s:Scn) (u:Value),e = .returned u/\s.R w.heap.size w'.heap.size w' u/\s.Drawn/\1<=s.m/\Ext w w':=by
 have HV:=hid hv;obtain ⟨a,cap,rfl,k1,k2⟩:=hv.open;clear hv;have HQ:=hid (Blk.new w 31 [(),(),(),(),.bool false,(),(),(),.slice none 0 0,.slice none 0 0,.slice none 0 0,()]);have x0:Ext w (w.alloc (.cells #[(),(),(),(),.bool false,(),(),(),.slice none 0 0,.slice none 0 0,.slice none 0 0,()] 31)):=X_;have HX0:=hid x0;have z1:(w.alloc (.cells #[(),(),(),(),.bool false,(),(),(),.slice none 0 0,.slice none 0 0,.slice none 0 0,()] 31)).heap.size=w.heap.size+1:=World.size_alloc _ _;clear x0;go_enter Tryz.func8,Tryz.ntmps8;go_wp2_with fail;refine (l01New_any hi _ n _ (HV.out.ext hh HX0.out) (by omega) hn).mono ?_;rintro e w1 ⟨B,rfl,hB,C1,x1⟩;go_wp2_with fail;refine (l32Scene_any hi B _ C1).mono ?_;rintro e w2 ⟨c,t,side,ps,xs,lp,hp,ta,tc,pa,pc,sa,sc,rfl,hsm,hm1,hlp,hhp,hpw,m2,C2,G2⟩;have z1':=x1.size;have R0:=G2.blk (HQ.out.ext x1) (by omega);have M2:=hid (m2.low (lo':=w.heap.size) (by omega));have HE:=hid (G2.up (HX0.out.trans x1) (by omega));have HSM:=hid hsm;have HR0:=hid R0
 have hl:w.heap.size<lp:=by omega
 clear m2 C2 G2 C1 x1 hsm;go_wp2_with (show wpList _ _ _ [_] _ _;refine wpList_store_rowTo rfl _ _ _ rfl rfl w.heap.size #[c.w,c.h,c.zoom,c.near,.bool c.deep,c.lens,c.focus,t.log,.slice ta t.px.length tc,.slice pa ps.length pc,.slice sa xs.length sc,side] rfl rfl 31 _ R0 info_ScnT rfl (by kernel_rfl) ?_);have bF:=Blk.rowB HR0.out [c.w,c.h,c.zoom,c.near,.bool c.deep,c.lens,c.focus,t.log,.slice ta t.px.length tc,.slice pa ps.length pc,.slice sa xs.length sc,side];clear R0;refine ret_box rfl rfl bF _ Tryz.underlying31 rfl info_ScnT rfl ?_;refine ⟨scnOf c t side ps xs,_,rfl,(M2.out.row HR0.out (.inl hl) _).reads HSM.out (by omega) (by omega),HSM.out.drawn,hm1,HE.out.setRowB (Nat.le_refl _) _⟩
def smpK (i j:Int) (side k:Nat):Smp:=
 ⟨i*16+((k % side:Nat):Int)*((16 / side:Nat):Int)+hashI [i,j,(k:Int),1] % ((16 / side:Nat):Int),j*16+((k / side:Nat):Int)*((16 / side:Nat):Int)+hashI [i,j,(k:Int),2] % ((16 / side:Nat):Int),
  hashI [i,j,(k:Int),3] % 16,hashI [i,j,(k:Int),4] % 33 - 16,hashI [i,j,(k:Int),5] % 33 - 16⟩
def pixS (i j:Int) (side:Nat):List Smp:=(List.range (side*side)).map (smpK i j side)
theorem pixS_length (i j:Int) (side:Nat):(pixS i j side).length=side*side:=by unfold pixS;simp
theorem smpK_at {i j:Int} {side k:Nat} (hs:side=1\/side=2\/side=4) (hk:k<side*side) :
  (i*16<=(smpK i j side k).x/\(smpK i j side k).x<=i*16+15)/\(j*16<=(smpK i j side k).y/\(smpK i j side k).y<=j*16+15)/\(0<=(smpK i j side k).t/\(smpK i j side k).t<=15) /\
   (-16<=(smpK i j side k).lx/\(smpK i j side k).lx<=16)/\(-16<=(smpK i j side k).ly/\(smpK i j side k).ly<=16):=by
 have h1:k % side<side:=Nat.mod_lt _ (by omega);have h2:k / side<side:=Nat.div_lt_of_lt_mul hk;unfold smpK;simp only;generalize k % side=a at h1 ⊢;generalize k / side=b at h2 ⊢;generalize hashI [i,j,(k:Int),1]=p1;generalize hashI [i,j,(k:Int),2]=p2;generalize hashI [i,j,(k:Int),3]=p3;generalize hashI [i,j,(k:Int),4]=p4;generalize hashI [i,j,(k:Int),5]=p5
 rcases hs with rfl|rfl|rfl
 ·simp only [Nat.div_one];omega
 ·simp only [Nat.reduceDiv];omega
 ·simp only [Nat.reduceDiv];omega
theorem smpK_ok {c:Cam} (hc:c.okB=true) {i j:Int} {side k:Nat} (hi:0<=i/\i<c.w) (hj:0<=j/\j<c.h) (hs:side=1\/side=2\/side=4) (hk:k<side*side):Smp.okB c (smpK i j side k)=true:=by
 obtain ⟨a,b,d,e,f⟩:=smpK_at (i:=i) (j:=j) hs hk;unfold Smp.okB;simp only [Bool.and_eq_true,inB_iff];exact ⟨⟨⟨⟨⟨hc,by omega⟩,by omega⟩,by omega⟩,by omega⟩,by omega⟩
structure Stp where
 (d w:Int)
def Stp.cs (x:Stp):List Value:=[x.d,x.w]
theorem sIsValidCamera_any (c:Cam) (w:World):Calls Tryz.prog 122 #[c.V] w fun e w'=>e = .returned (.bool c.okB)/\Ext w w':=by
 obtain ⟨cw,ch,zo,ne,de,le,fo⟩:=c
 obtain ⟨b1,h1⟩:∃b,inB cw 1 12=b:=⟨_,rfl⟩
 obtain ⟨b2,h2⟩:∃b,inB ch 1 12=b:=⟨_,rfl⟩
 obtain ⟨b3,h3⟩:∃b,inB zo 1 65536=b:=⟨_,rfl⟩
 obtain ⟨b4,h4⟩:∃b,inB ne 1 1000000=b:=⟨_,rfl⟩
 obtain ⟨b5,h5⟩:∃b,inB le 0 64=b:=⟨_,rfl⟩
 obtain ⟨b6,h6⟩:∃b,inB fo 0 1000000=b:=⟨_,rfl⟩
 have e:(Cam.mk cw ch zo ne de le fo).okB=(b1&&b2&&b3&&b4&&b5&&b6):=by unfold Cam.okB;simp only [h1,h2,h3,h4,h5,h6]
 rw [e];have H1:=hid h1;have H2:=hid h2;have H3:=hid h3;have H4:=hid h4;have H5:=hid h5;have H6:=hid h6;clear h1 h2 h3 h4 h5 h6 e
 show Calls Tryz.prog 122 #[.agg #[cw,ch,zo,ne,.bool de,le,fo]] w _
 cases b1
 rotate_left
 cases b2
 rotate_left
 cases b3
 rotate_left
 cases b4
 rotate_left
 cases b5
 rotate_left
 cases b6
 all_goals
  go_enter Tryz.func122,Tryz.ntmps122;go_wp2_with (go_at_call 70;with_reducible first|(refine (l01In_val H1.out _).mono ?_;rintro e w1 ⟨rfl,rfl⟩)|(refine (l01In_val H2.out _).mono ?_;rintro e w1 ⟨rfl,rfl⟩)|(refine (l01In_val H3.out _).mono ?_;rintro e w1 ⟨rfl,rfl⟩)|(refine (l01In_val H4.out _).mono ?_;rintro e w1 ⟨rfl,rfl⟩)|(refine (l01In_val H5.out _).mono ?_;rintro e w1 ⟨rfl,rfl⟩)|(refine (l01In_val H6.out _).mono ?_;rintro e w1 ⟨rfl,rfl⟩));go_ret;exact ⟨rfl,X_⟩
theorem sIsValidCamera_val {c:Cam} {b:Bool} (h:c.okB=b) (w:World):Calls Tryz.prog 122 #[c.V] w fun e w'=>e = .returned (.bool b)/\Ext w w':=h▸sIsValidCamera_any c w
theorem ints4 {w:World} {g:Nat} {a b c d:Int} (h:Blk w g 3 [a,b,c,d]) (hi:∀y∈[a,b,c,d],I64 y):Ints 0 w.heap.size w (.slice (some ⟨g,0,none⟩) 4 4) [a,b,c,d]:=
 ⟨_,4,rfl,Nat.le_refl _,by unfold maxLen;omega,fun i y hy=>⟨hi y (List.mem_of_getElem? hy),g,0,rfl,Nat.zero_le _,h.lt,by
  rw [Nat.zero_add];have e:=congrArg (Option.map (Value.int .i64)) hy;rw [<-List.getElem?_map] at e
  exact h.cell i e⟩⟩
theorem sHashRange_val (lo hi:Nat) (u:Value) (xs:List Int) (n:Int) (w:World) (hu:Ints lo hi w u xs) (hn:1<=n/\n<=1000000) {r:Int} (hr:hashI xs % n=r) :
  Calls Tryz.prog 145 #[u,n] w fun e w'=>e = .returned (.int .i64 r)/\w=w':=by
 have HU:=hid hu;have HR:=hid hr;obtain ⟨a,cap,rfl,-⟩:=hu.open;have hb:=hashI_range xs
 obtain ⟨h,hh⟩:∃h,hashI xs=h:=⟨_,rfl⟩
 rw [hh] at hb hr;have HH:=hid hh;have HR2:=hid hr;clear hu hr hh HR;go_enter Tryz.func145,Tryz.ntmps145;go_wp2_with fail;refine (sHashInts_any lo hi _ xs _ HU.out).mono ?_;rw [HH.out];rintro e w1 ⟨rfl,rfl⟩;go_wp2;go_ret;exact ⟨ret_int HR2.out,rfl⟩
theorem info_SmpT:(Tryz.prog.info? 34).map (fun i=>(i.zero,i.size,i.bytes))=some (some (.agg #[(),(),(),(),()]),5,40):=by kernel_rfl
theorem info_SmpS:(Tryz.prog.info? 34).map (fun i=>i.size)=some 5:=by kernel_rfl
theorem Smp.one (x:Smp):∀u∈x.cs,u.oneCell'=true:=by
 intro u hu;simp only [Smp.cs,List.mem_cons,List.not_mem_nil,or_false] at hu
 rcases hu with rfl|rfl|rfl|rfl|rfl <;> rfl
theorem smpK_eq {i j:Int} {side q r:Nat} (hq:q<side) {s p1 p2 p3 p4 p5:Int} (hs:((16 / side:Nat):Int)=s) (h1:hashI [i,j,((r*side+q:Nat):Int),1] % s=p1) (h2:hashI [i,j,((r*side+q:Nat):Int),2] % s=p2)
  (h3:hashI [i,j,((r*side+q:Nat):Int),3] % 16=p3) (h4:hashI [i,j,((r*side+q:Nat):Int),4] % 33=p4) (h5:hashI [i,j,((r*side+q:Nat):Int),5] % 33=p5) :
  smpK i j side (r*side+q)=⟨i*16+(q:Int)*s+p1,j*16+(r:Int)*s+p2,p3,p4 - 16,p5 - 16⟩:=by
 have e1:(r*side+q) % side=q:=by rw [Nat.add_comm,Nat.add_mul_mod_self_right,Nat.mod_eq_of_lt hq]
 have e2:(r*side+q) / side=r:=by rw [Nat.add_comm,Nat.add_mul_div_right _ _ (by omega),Nat.div_eq_of_lt hq,Nat.zero_add]
 unfold smpK;rw [e1,e2,hs,h1,h2,h3,h4,h5]
theorem OwnG.freshS {α : Type} {cs : α->List Value} {lo g:Nat} {e:TypeId} {sz:Nat} {w:World} (hl:lo<=g) (h:Blk w g e []):OwnG cs lo e sz w (.slice (some ⟨g,0,none⟩) 0 0) []:=
 ⟨by simp,.inr ⟨g,0,#[],rfl,hl,h,Nat.le_refl _,by unfold maxLen;omega,by simp,by simp⟩⟩
theorem range_snoc {α : Type} (f:Nat->α) (n:Nat):(List.range (n+1)).map f=(List.range n).map f++[f n]:=by rw [List.range_succ,List.map_append,List.map_singleton]
theorem sPixelSamples_any (c:Cam) (hc:c.okB=true) (i j:Int) (hi:0<=i/\i<c.w) (hj:0<=j/\j<c.h) (sd:Nat) (hs:sd=1\/sd=2\/sd=4) (w:World) :
  Calls Tryz.prog 87 #[.agg #[c.w,c.h,c.zoom,c.near,.bool c.deep,c.lens,c.focus],i,j,(sd:Nat)] w fun e w'=>∃r,e = .returned r/\OwnG Smp.cs w.heap.size 34 5 w' r (pixS i j sd)/\Ext w w':=by
 have HC:=hid hc;have hw:=(Cam.okB_iff.1 hc).w;have hh:=(Cam.okB_iff.1 hc).h;have I1:=hid (inB_iff.2 (show 0<=i/\i<=c.w - 1 by omega));have I2:=hid (inB_iff.2 (show 0<=j/\j<=c.h - 1 by omega));have x0:Ext w (w.alloc (.cells #[c.w,c.h,c.zoom,c.near,.bool c.deep,c.lens,c.focus] 24)):=X_;have bC:=Blk.new w 24 [c.w,c.h,c.zoom,c.near,.bool c.deep,c.lens,c.focus];have HX0:=hid x0;have HB0:=hid bC;clear hc x0 bC;have HSD:=hid hs
 have hsd4:sd<=4:=by omega
 have hne:((sd:Nat):Int)≠0:=by omega
 obtain ⟨ST,hst⟩:∃st:Int,((16 / sd:Nat):Int)=st:=⟨_,rfl⟩
 have t0:Int.tdiv 16 ((sd:Nat):Int)=ST:=by rw [<-hst,Int.tdiv_eq_ediv_of_nonneg (by omega)];rfl
 have hstb:4<=ST/\ST<=16:=by rw [<-hst];rcases hs with rfl|rfl|rfl <;> decide
 have HST:=hid hst
 have hs16:sd*sd<=16:=by rcases hs with rfl|rfl|rfl <;> decide
 clear hs hst;go_enter Tryz.func87,Tryz.ntmps87;go_upto_region 2 with fail
 go_cut [46] from 16 to 47 (fun u wx=>u = .bool false/\Ext w wx/\Blk wx (w.heap.size+1) 34 [])
 case first=>
  go_wp2_with fail;refine (sIsValidCamera_val HC.out _).mono ?_;rintro e w1 ⟨rfl,x1⟩;have b1:=HB0.out.ext (Ext.trans (show Ext (w.alloc (.cells #[c.w,c.h,c.zoom,c.near,.bool c.deep,c.lens,c.focus] 24)) ((w.alloc (.cells #[c.w,c.h,c.zoom,c.near,.bool c.deep,c.lens,c.focus] 24)).alloc (.cells #[] 34)) from X_) x1);have bE:=(Blk.new (w.alloc (.cells #[c.w,c.h,c.zoom,c.near,.bool c.deep,c.lens,c.focus] 24)) 34 []).ext x1;rw [World.size_alloc] at bE;have X1:=hid (HX0.out.trans (Ext.trans (show Ext (w.alloc (.cells #[c.w,c.h,c.zoom,c.near,.bool c.deep,c.lens,c.focus] 24)) ((w.alloc (.cells #[c.w,c.h,c.zoom,c.near,.bool c.deep,c.lens,c.focus] 24)).alloc (.cells #[] 34)) from X_) x1));obtain ⟨c0,c1⟩:=b1.q2;have l1:=b1.lt;have HE0:=hid bE;clear b1 x1 bE HB0
  rcases HSD.out with h1|h1|h1
  all_goals
   have h2:((sd:Nat):Int)=((sd:Nat):Int):=rfl;subst h1;clear h2;go_wp2_with (go_at_call 70;with_reducible first|(refine (l01In_val I1.out _).mono ?_;rintro e w4 ⟨rfl,rfl⟩)|(refine (l01In_val I2.out _).mono ?_;rintro e w4 ⟨rfl,rfl⟩))
   go_meet
   exact ⟨rfl,X1.out,HE0.out⟩
 case rest=>
  obtain ⟨rfl,x1,hE0⟩:=hcut;have X1:=hid x1;have HE0:=hid hE0;clear x1 hE0;go_wp2_with fail
  go_loopw [9,11] (fun v x wr=>∃(r:Nat) (xs:List Smp),r<=sd/\x = .int .i64 (r:Nat)/\xs=(List.range (r*sd)).map (smpK i j sd)/\OwnG Smp.cs w.heap.size 34 5 wr v xs/\Ext w wr) (fun _ x _=>sd - (intOf x).toNat)
  case atStart=>exact ⟨0,[],by omega,rfl,by rw [Nat.zero_mul];rfl,OwnG.freshS (by omega) HE0.out,X1.out⟩
  case round=>
   obtain ⟨r,xs,hr,rfl,hxs,ho,hx⟩:=hrel;obtain ⟨xa,xc,rfl,hxl⟩:=OwnG.form ho;have HXS:=hid hxs;have HO:=hid ho;have HX:=hid hx;clear hxs ho hx HE0
   rcases Nat.lt_or_ge r sd with hlt|hge
   ·have hlt2:(r:Int)<((sd:Nat):Int):=by omega
    go_wp2_with fail
    go_loopw [9,12] (fun v x wr=>∃(q:Nat) (xs:List Smp),q<=sd/\x = .int .i64 (q:Nat)/\xs=(List.range (r*sd+q)).map (smpK i j sd)/\OwnG Smp.cs w.heap.size 34 5 wr v xs/\Ext w wr) (fun _ x _=>sd - (intOf x).toNat)
    case atStart=>exact ⟨0,xs,by omega,rfl,by rw [Nat.add_zero];exact HXS.out,HO.out,HX.out⟩
    case round=>
     clear HXS HO HX;obtain ⟨q,xs,hq,rfl,hxs,ho,hx⟩:=hrel;obtain ⟨xa,xc,rfl,hxl⟩:=OwnG.form ho;have HXS:=hid hxs;have HO:=hid ho;have HX:=hid hx;clear hxs ho hx
     rcases Nat.lt_or_ge q sd with hq2|hq2
     ·have hq3:(q:Int)<((sd:Nat):Int):=by omega
      obtain ⟨m,hm⟩:∃m,xs.length=m:=⟨_,rfl⟩
      have hmb:m=r*sd+q:=by rw [<-hm,HXS.out,List.length_map,List.length_range]
      have hrs:r*sd<=3*4:=Nat.mul_le_mul (by omega) (by omega)
      have hm16:m<=15:=by omega
      obtain ⟨p1,hp1⟩:∃p,hashI [i,j,(m:Nat),1] % ST=p:=⟨_,rfl⟩
      obtain ⟨p2,hp2⟩:∃p,hashI [i,j,(m:Nat),2] % ST=p:=⟨_,rfl⟩
      obtain ⟨p3,hp3⟩:∃p,hashI [i,j,(m:Nat),3] % 16=p:=⟨_,rfl⟩
      obtain ⟨p4,hp4⟩:∃p,hashI [i,j,(m:Nat),4] % 33=p:=⟨_,rfl⟩
      obtain ⟨p5,hp5⟩:∃p,hashI [i,j,(m:Nat),5] % 33=p:=⟨_,rfl⟩
      have b1:0<=p1/\p1<=15:=by rw [<-hp1];exact ⟨Int.emod_nonneg _ (by omega),by have:=Int.emod_lt_of_pos (hashI [i,j,((m:Nat):Int),1]) (show 0<ST by omega);omega⟩
      have b2:0<=p2/\p2<=15:=by rw [<-hp2];exact ⟨Int.emod_nonneg _ (by omega),by have:=Int.emod_lt_of_pos (hashI [i,j,((m:Nat):Int),2]) (show 0<ST by omega);omega⟩
      obtain ⟨e1,he1⟩:∃e1,(q:Int)*ST=e1:=⟨_,rfl⟩
      obtain ⟨e2,he2⟩:∃e2,(r:Int)*ST=e2:=⟨_,rfl⟩
      have q1:0<=e1/\e1<=64:=by
       rw [<-he1];have:=mul_abs (a:=(q:Int)) (b:=ST) (A:=4) (B:=16) (by omega) (by omega);exact ⟨Int.mul_nonneg (by omega) (by omega),by omega⟩
      have q2:0<=e2/\e2<=64:=by
       rw [<-he2];have:=mul_abs (a:=(r:Int)) (b:=ST) (A:=4) (B:=16) (by omega) (by omega);exact ⟨Int.mul_nonneg (by omega) (by omega),by omega⟩
      have HE1:=hid he1;have HE2:=hid he2
      have b3:0<=p3/\p3<=15:=by omega
      have b4:0<=p4/\p4<=32:=by omega
      have b5:0<=p5/\p5<=32:=by omega
      have P1:=hid hp1;have P2:=hid hp2;have P3:=hid hp3;have P4:=hid hp4;have P5:=hid hp5
      have HI64:=hid (show ∀k:Int,(0<=k/\k<=10)->∀y∈[i,j,((m:Nat):Int),k],I64 y from fun k hk y hy=>by
       simp only [List.mem_cons,List.not_mem_nil,or_false] at hy
       rcases hy with rfl|rfl|rfl|rfl <;> exact ⟨by omega,by omega⟩)
      have HMB:=hid hmb;have HMM:=hid hm;have w0:=Blk.new wr 3 [i,j,(m:Nat),.int .i64 1];have HI1:=hid w0;rw [hm];clear hp1 hp2 hp3 hp4 hp5 hmb w0;go_wp2_with fail;refine (sHashRange_val 0 _ _ [i,j,(m:Nat),1] _ _ (ints4 HI1.out (HI64.out 1 (by decide))) (by omega) P1.out).mono ?_;rintro e wq ⟨rfl,rfl⟩;clear hm;go_upto_region 13 with fail;have bX:=Blk.new (wr.alloc (.cells #[i,j,(m:Nat),.int .i64 1] 3)) 34 [.int .i64 (i*16+e1+p1),(),(),(),()];rw [World.size_alloc] at bX;have xX:Ext wr ((wr.alloc (.cells #[i,j,(m:Nat),.int .i64 1] 3)).alloc (.cells #[.int .i64 (i*16+e1+p1),(),(),(),()] 34)):=X_
      obtain ⟨W2,hW2⟩:∃W,(wr.alloc (.cells #[i,j,(m:Nat),.int .i64 1] 3)).alloc (.cells #[.int .i64 (i*16+e1+p1),(),(),(),()] 34)=W:=⟨_,rfl⟩
      rw [hW2] at bX xX ⊢;have HB2:=hid bX;have HY2:=hid xX;clear hW2 bX xX HI1;have bi2:=Blk.new W2 3 [i,j,(m:Nat),.int .i64 2];have HI2:=hid bi2;clear bi2;go_wp2_with fail;refine (sHashRange_val 0 _ _ [i,j,(m:Nat),2] _ _ (ints4 HI2.out (HI64.out 2 (by decide))) (by omega) P2.out).mono ?_;rintro e wq ⟨rfl,rfl⟩
      have q2:=(HB2.out.ext (show Ext W2 (W2.alloc (.cells #[i,j,(m:Nat),.int .i64 2] 3)) from X_))
      have cq:=q2.cell 1 rfl;have fq:=q2.free 1;have lq:=q2.lt;have Q2:=hid q2;clear q2;go_upto_region 14 with fail
      obtain ⟨W3,hW3⟩:∃W,(W2.alloc (.cells #[i,j,(m:Nat),.int .i64 2] 3)).setCell ⟨wr.heap.size+1,1,none⟩ (.int .i64 (j*16+e2+p2))=W:=⟨_,rfl⟩
      have bb:=Q2.out.set 1 (.int .i64 (j*16+e2+p2));have xx:Ext wr ((W2.alloc (.cells #[i,j,(m:Nat),.int .i64 2] 3)).setCell ⟨wr.heap.size+1,1,none⟩ (.int .i64 (j*16+e2+p2))):=Ext.setCell (Ext.trans HY2.out X_) (by simp only;omega) _;rw [hW3] at bb xx ⊢;have HB3:=hid bb;have HY3:=hid xx;clear hW3 bb xx cq fq lq Q2 HB2 HY2 HI2;have bi3:=Blk.new W3 3 [i,j,(m:Nat),.int .i64 3];have HI3:=hid bi3;clear bi3;go_wp2_with fail;refine (sHashRange_val 0 _ _ [i,j,(m:Nat),3] _ _ (ints4 HI3.out (HI64.out 3 (by decide))) (by omega) P3.out).mono ?_;rintro e wq ⟨rfl,rfl⟩
      have q3:=(HB3.out.ext (show Ext W3 (W3.alloc (.cells #[i,j,(m:Nat),.int .i64 3] 3)) from X_))
      have cq:=q3.cell 2 rfl;have fq:=q3.free 2;have lq:=q3.lt;have Q3:=hid q3;clear q3;go_upto_region 15 with fail
      obtain ⟨W4,hW4⟩:∃W,(W3.alloc (.cells #[i,j,(m:Nat),.int .i64 3] 3)).setCell ⟨wr.heap.size+1,2,none⟩ (.int .i64 (p3))=W:=⟨_,rfl⟩
      have bb:=Q3.out.set 2 (.int .i64 (p3));have xx:Ext wr ((W3.alloc (.cells #[i,j,(m:Nat),.int .i64 3] 3)).setCell ⟨wr.heap.size+1,2,none⟩ (.int .i64 (p3))):=Ext.setCell (Ext.trans HY3.out X_) (by simp only;omega) _;rw [hW4] at bb xx ⊢;have HB4:=hid bb;have HY4:=hid xx;clear hW4 bb xx cq fq lq Q3 HB3 HY3 HI3;have bi4:=Blk.new W4 3 [i,j,(m:Nat),.int .i64 4];have HI4:=hid bi4;clear bi4;go_wp2_with fail;refine (sHashRange_val 0 _ _ [i,j,(m:Nat),4] _ _ (ints4 HI4.out (HI64.out 4 (by decide))) (by omega) P4.out).mono ?_;rintro e wq ⟨rfl,rfl⟩
      have q4:=(HB4.out.ext (show Ext W4 (W4.alloc (.cells #[i,j,(m:Nat),.int .i64 4] 3)) from X_))
      have cq:=q4.cell 3 rfl;have fq:=q4.free 3;have lq:=q4.lt;have Q4:=hid q4;clear q4;go_upto_region 16 with fail
      obtain ⟨W5,hW5⟩:∃W,(W4.alloc (.cells #[i,j,(m:Nat),.int .i64 4] 3)).setCell ⟨wr.heap.size+1,3,none⟩ (.int .i64 (p4 - 16))=W:=⟨_,rfl⟩
      have bb:=Q4.out.set 3 (.int .i64 (p4 - 16));have xx:Ext wr ((W4.alloc (.cells #[i,j,(m:Nat),.int .i64 4] 3)).setCell ⟨wr.heap.size+1,3,none⟩ (.int .i64 (p4 - 16))):=Ext.setCell (Ext.trans HY4.out X_) (by simp only;omega) _;rw [hW5] at bb xx ⊢;have HB5:=hid bb;have HY5:=hid xx;clear hW5 bb xx cq fq lq Q4 HB4 HY4 HI4;have bi5:=Blk.new W5 3 [i,j,(m:Nat),.int .i64 5];have HI5:=hid bi5;clear bi5;go_wp2_with fail;refine (sHashRange_val 0 _ _ [i,j,(m:Nat),5] _ _ (ints4 HI5.out (HI64.out 5 (by decide))) (by omega) P5.out).mono ?_;rintro e wq ⟨rfl,rfl⟩
      have q5:=(HB5.out.ext (show Ext W5 (W5.alloc (.cells #[i,j,(m:Nat),.int .i64 5] 3)) from X_))
      have cq:=q5.cell 4 rfl;have fq:=q5.free 4;have lq:=q5.lt;have Q5:=hid q5;clear q5;go_upto_region 17 with fail
      obtain ⟨W6,hW6⟩:∃W,(W5.alloc (.cells #[i,j,(m:Nat),.int .i64 5] 3)).setCell ⟨wr.heap.size+1,4,none⟩ (.int .i64 (p5 - 16))=W:=⟨_,rfl⟩
      have bb:=Q5.out.set 4 (.int .i64 (p5 - 16));have xx:Ext wr ((W5.alloc (.cells #[i,j,(m:Nat),.int .i64 5] 3)).setCell ⟨wr.heap.size+1,4,none⟩ (.int .i64 (p5 - 16))):=Ext.setCell (Ext.trans HY5.out X_) (by simp only;omega) _;rw [hW6] at bb xx ⊢;have HB6:=hid bb;have HY6:=hid xx;clear hW6 bb xx cq fq lq Q5 HB5 HY5 HI5
      have hsm:smpK i j sd m=⟨i*16+e1+p1,j*16+e2+p2,p3,p4 - 16,p5 - 16⟩:=by
       have em:=HMB.out;rw [em];rw [<-HE1.out,<-HE2.out];refine smpK_eq hq2 HST.out ?_ ?_ ?_ ?_ ?_
       ·rw [<-em];exact P1.out
       ·rw [<-em];exact P2.out
       ·rw [<-em];exact P3.out
       ·rw [<-em];exact P4.out
       ·rw [<-em];exact P5.out
      have b6:=HB6.out;obtain ⟨c0,c1,c2,c3,c4⟩:=b6.q5;have l6:=b6.lt;have hsm2:=hid hsm;have bE:=Blk.new W6 34 [.int .i64 (i*16+e1+p1),.int .i64 (j*16+e2+p2),p3,.int .i64 (p4 - 16),.int .i64 (p5 - 16)];have HE:=hid bE;have O6:=hid (OwnG.ext (OwnG.ext HO.out HY6.out) (show Ext W6 (W6.alloc (.cells #[.int .i64 (i*16+e1+p1),.int .i64 (j*16+e2+p2),p3,.int .i64 (p4 - 16),.int .i64 (p5 - 16)] 34)) from X_));have HY7:=hid (Ext.trans HY6.out (show Ext W6 (W6.alloc (.cells #[.int .i64 (i*16+e1+p1),.int .i64 (j*16+e2+p2),p3,.int .i64 (p4 - 16),.int .i64 (p5 - 16)] 34)) from X_))
      have hwz:w.heap.size<=(W6.alloc (.cells #[.int .i64 (i*16+e1+p1),.int .i64 (j*16+e2+p2),p3,.int .i64 (p4 - 16),.int .i64 (p5 - 16)] 34)).heap.size:=by have h1:=HY7.out.size;have h2:=HX.out.size;omega
      have HWZ:=hid hwz
      have hlx:xs.length<1000000:=by rw [HMM.out];omega
      have HLX:=hid hlx;have O7:Hid (OwnG Smp.cs w.heap.size 34 5 (W6.alloc (.cells #[.int .i64 (i*16+e1+p1),.int .i64 (j*16+e2+p2),p3,.int .i64 (p4 - 16),.int .i64 (p5 - 16)] 34)) (.slice xa m xc) xs):=hid (HMM.out▸O6.out);clear b6 hsm bE hwz hlx
      go_wp2_with (at_builtin;refine wpList_append_elt Smp.cs 34 5 40 _ _ rfl _ _ 105 rfl Tryz.underlying105 info_SmpT rfl (by decide) (by decide) (fun _=>rfl) w.heap.size (.slice xa m xc) xs rfl O7.out ⟨i*16+e1+p1,j*16+e2+p2,p3,p4 - 16,p5 - 16⟩ W6.heap.size rfl (fun jj hj=>by
        rcases (show jj=0\/jj=1\/jj=2\/jj=3\/jj=4 by omega) with rfl|rfl|rfl|rfl|rfl
        ·exact HE.out.cell 0 rfl
        ·exact HE.out.cell 1 rfl
        ·exact HE.out.cell 2 rfl
        ·exact HE.out.cell 3 rfl
        ·exact HE.out.cell 4 rfl) (Smp.one _) HLX.out HWZ.out ?_;intro v8 w8 hown hg;obtain ⟨xs',hxs'⟩:∃xs',xs++[(⟨i*16+e1+p1,j*16+e2+p2,p3,p4 - 16,p5 - 16⟩:Smp)]=xs':=⟨_,rfl⟩;rw [hxs'] at hown;have HXS2:=hid hxs';have HOW:=hid hown;have HGR:=hid hg;obtain ⟨va,vc,rfl,_⟩:=OwnG.form hown;clear hown hg hxs')
      go_roundw
      case rel=>
       refine ⟨q+1,xs',by omega,by go_num,?_,HOW.out,Ext.grown (HX.out.trans HY7.out) HGR.out (fun k hk=>(OwnG.lt O7.out k hk).1)⟩
       ·rw [<-HXS2.out,<-hsm2.out,HMB.out,HXS.out]
        exact (range_snoc _ _).symm
      case measure=>simp [intOf];omega
     ·obtain rfl:q=sd:=by omega
      have HXS3:=hid (show xs=(List.range ((r+1)*q)).map (smpK i j q) by rw [HXS.out,Nat.succ_mul]);go_wp2;go_roundw
      case rel=>exact ⟨r+1,xs,by omega,by go_num,HXS3.out,HO.out,HX.out⟩
      case measure=>simp [intOf];omega
   ·obtain rfl:r=sd:=by omega
    have HF:=hid (show xs=pixS i j r by rw [HXS.out];rfl);go_wp2;go_ret;refine ⟨_,rfl,?_,HX.out⟩;rw [<-HF.out];exact HO.out
theorem l11Draw_any (hi B:Nat) (c:Cam) (hcm:c.Sm) (w:World) (hc:Cur hi w B):Calls Tryz.prog 35 #[.pointer (some ⟨B,0,none⟩),.agg #[c.w,c.h,c.zoom,c.near,.bool c.deep,c.lens,c.focus]] w fun e w'=>∃p:Smp,e = .returned (.agg #[p.x,p.y,p.t,p.lx,p.ly])/\p.okB c=true/\Gr B w w':=by
 have zB:=hc.lt;have hcw:=hcm.w;have hch:=hcm.h;have HOK:=hid hcm.okB;have x0:Ext w ((w.alloc (.cells #[c.w,c.h,c.zoom,c.near,.bool c.deep,c.lens,c.focus] 24)).alloc (.cells #[(),(),(),(),()] 34)):=X_;have bC:=(Blk.new w 24 [c.w,c.h,c.zoom,c.near,.bool c.deep,c.lens,c.focus]).ext (show Ext (w.alloc (.cells #[c.w,c.h,c.zoom,c.near,.bool c.deep,c.lens,c.focus] 24)) ((w.alloc (.cells #[c.w,c.h,c.zoom,c.near,.bool c.deep,c.lens,c.focus] 24)).alloc (.cells #[(),(),(),(),()] 34)) from X_)
 have bS:Blk ((w.alloc (.cells #[c.w,c.h,c.zoom,c.near,.bool c.deep,c.lens,c.focus] 24)).alloc (.cells #[(),(),(),(),()] 34)) (w.heap.size+1) 34 [(),(),(),(),()]:=by
  have h:=Blk.new (w.alloc (.cells #[c.w,c.h,c.zoom,c.near,.bool c.deep,c.lens,c.focus] 24)) 34 [(),(),(),(),()];rw [World.size_alloc] at h;exact h
 have z2:((w.alloc (.cells #[c.w,c.h,c.zoom,c.near,.bool c.deep,c.lens,c.focus] 24)).alloc (.cells #[(),(),(),(),()] 34)).heap.size=w.heap.size+2:=by simp
 have HC0:=hid (hc.ext x0);have HX0:=hid x0;have HCM:=hid hcm;clear hc hcm;go_enter Tryz.func35,Tryz.ntmps35;go_upto_region 1 with fail
 obtain ⟨W0,hW0⟩:∃W0,((w.alloc (.cells #[c.w,c.h,c.zoom,c.near,.bool c.deep,c.lens,c.focus] 24)).alloc (.cells #[(),(),(),(),()] 34))=W0:=⟨_,rfl⟩
 rw [hW0] at x0 bC bS z2 HC0 HX0 ⊢;have HS:=hid bS;have Z2:=hid z2;obtain ⟨c0,c1,c2,c3,c4,c5,c6⟩:=bC.q7;have lc:=bC.lt;clear hW0 x0 bC bS z2;refine wp_region_stagesS [([0,1,2,3,5,6,7],4),([],8),([],9),([],10)] 10 (fun w'=>∃d,w'=lowc (CBox w.heap.size) _ d) (by kernel_rfl) (by kernel_rfl) (SC.drew _ _) ?_;refine sc_ fun K hK=>?_;go_wp2_with fail;refine (l01Below_any hi B c.w _ (HC0.out.ext (Ext.drew (Ext.refl _))) (by omega) ⟨by omega,by omega⟩).mono ?_;rintro e v1 ⟨x,rfl,hx,C1,G1⟩;have g1:Gr B W0 v1:=((Gr.refl B W0).ext (Ext.drew (Ext.refl _))).trans G1;go_wp2_with fail;refine hK _ _ (.inr (SC.blocks fun a ha=>g1.keep (by rw [ha];exact lc) (by rw [ha];omega))) ?_;clear hK K;refine sc_ fun K hK=>?_;go_wp2_with fail;refine (l01Below_any hi B c.h _ C1 (by omega) ⟨by omega,by omega⟩).mono ?_;rintro e v2 ⟨y,rfl,hy,C2,G2⟩;have g2:Gr B W0 v2:=g1.trans G2;go_wp2_with fail;refine hK _ _ (.inr (SC.blocks fun a ha=>g2.keep (by rw [ha];exact lc) (by rw [ha];omega))) ?_;clear hK K;refine sc_ fun K hK=>?_;go_wp2_with fail;refine (sPixelSamples_any c HOK.out x y hx hy 2 (.inr (.inl rfl)) _).mono ?_;rintro e v3 ⟨r,rfl,O3,x3⟩
 obtain ⟨ps,hps⟩:∃ps,pixS x y 2=ps:=⟨_,rfl⟩
 have hln:ps.length=4:=by rw [<-hps,pixS_length]
 have HPS:=hid hps;have HLN:=hid hln;rw [hps] at O3;obtain ⟨ra,rc,rfl,hrl⟩:=OwnG.form O3;have g3:Gr B W0 v3:=g2.ext x3;have HG3:=hid g3;have HO3:=hid O3;have HC3:=hid (C2.ext x3);have HS3:=hid (g3.blk HS.out (by omega));have hBv:=C2.lt
 have hl0 : ¬(ps.length:Int)=0:=by omega
 have hl4:0<(ps.length:Int):=by omega
 clear O3 x3 C1 C2 G1 G2 g1 g2 hps hln;go_wp2_with fail;refine hK _ _ (.inr (SC.blocks fun a ha=>g3.keep (by rw [ha];exact lc) (by rw [ha];omega))) ?_;clear hK K g3;refine sc_ fun K hK=>?_;go_wp2_with fail;refine hK _ _ (.inl trivial) ?_;clear hK K;refine wpStagesS_nil ?_;clear c0 c1 c2 c3 c4 c5 c6 lc;go_wp2_with fail;refine (l01Below_any hi B ps.length _ HC3.out hl4 ⟨by omega,by omega⟩).mono ?_;rintro e v4 ⟨k,rfl,⟨k0,k1⟩,C4,G4⟩
 obtain ⟨q,hq⟩:∃q:Nat,k=(q:Int):=⟨k.toNat,by omega⟩
 subst hq
 have hq4:q<ps.length:=by omega
 obtain ⟨p,hp⟩:∃p,ps[q]?=some p:=⟨_,List.getElem?_eq_getElem hq4⟩
 have hpe:p=smpK x y 2 q:=by
  have h:=hp;rw [<-HPS.out] at h;unfold pixS at h;rw [List.getElem?_map] at h;obtain ⟨q',hq',e⟩:=Option.map_eq_some_iff.1 h;rw [List.getElem?_range (by have:=HLN.out;omega)] at hq'
  cases hq'
  exact e.symm
 have hpo:p.okB c=true:=by rw [hpe];exact smpK_ok HOK.out hx hy (.inr (.inl rfl)) (by have:=HLN.out;omega)
 have HPO:=hid hpo;have O4:=OwnG.of (w':=v4) HO3.out fun b cc hb hcc=>(G4.keep (Array.getElem?_eq_some_iff.1 hcc).1 (by have:=Z2.out;omega)).trans hcc;obtain ⟨g,cap,he,-,glt,gcap,gcm,-,hcell⟩:=OwnG.at O4 (fun _=>rfl) hp;simp only [Value.slice.injEq,true_and] at he;obtain ⟨rfl,rfl⟩:=he;have d0:=hcell 0 (by decide);have d1:=hcell 1 (by decide);have d2:=hcell 2 (by decide);have d3:=hcell 3 (by decide);have d4:=hcell 4 (by decide);simp only [Smp.cs,Nat.add_zero,List.getElem?_cons_zero,List.getElem?_cons_succ] at d0 d1 d2 d3 d4;have S4:=G4.blk HS3.out (by omega);have HS4:=hid S4;have HG4:=hid ((((Gr.refl B w).ext HX0.out).trans HG3.out).trans G4);obtain ⟨s0,s1,s2,s3,s4⟩:=S4.q5;have f0:=S4.free 0;have f1:=S4.free 1;have f2:=S4.free 2;have f3:=S4.free 3;have f4:=S4.free 4;have l4:=S4.lt;clear hp hpe hpo O4 hcell C4 G4 S4 HO3;go_wp2;have bF:=((((HS4.out.set 0 (.int .i64 p.x)).set 1 (.int .i64 p.y)).set 2 (.int .i64 p.t)).set 3 (.int .i64 p.lx)).set 4 (.int .i64 p.ly);refine ret_box rfl rfl bF _ Tryz.underlying34 rfl info_SmpS rfl ?_;exact ⟨p,rfl,HPO.out,((((HG4.out.setNew (by omega) _ _).setNew (by omega) _ _).setNew (by omega) _ _).setNew (by omega) _ _).setNew (by omega) _ _⟩
theorem MakeSample_any (hi:Nat) (v:Value) (n:Nat) (c:Cam) (hcm:c.Sm) (w:World) (hv:Byts hi w v n) (hh:hi<=w.heap.size) (hn:n<=1048576) :
  Calls Tryz.prog 9 #[v,.agg #[c.w,c.h,c.zoom,c.near,.bool c.deep,c.lens,c.focus]] w fun e w'=>∃p:Smp,e = .returned (.agg #[p.x,p.y,p.t,p.lx,p.ly])/\p.okB c=true/\Ext w w':=by
 have HV:=hid hv;obtain ⟨a,cap,rfl,k1,k2⟩:=hv.open;have x0:Ext w ((w.alloc (.cells #[c.w,c.h,c.zoom,c.near,.bool c.deep,c.lens,c.focus] 24)).alloc (.cells #[(),(),(),(),()] 34)):=X_;have bC:=(Blk.new w 24 [c.w,c.h,c.zoom,c.near,.bool c.deep,c.lens,c.focus]).ext (show Ext (w.alloc (.cells #[c.w,c.h,c.zoom,c.near,.bool c.deep,c.lens,c.focus] 24)) ((w.alloc (.cells #[c.w,c.h,c.zoom,c.near,.bool c.deep,c.lens,c.focus] 24)).alloc (.cells #[(),(),(),(),()] 34)) from X_)
 have bS:Blk ((w.alloc (.cells #[c.w,c.h,c.zoom,c.near,.bool c.deep,c.lens,c.focus] 24)).alloc (.cells #[(),(),(),(),()] 34)) (w.heap.size+1) 34 [(),(),(),(),()]:=by
  have h:=Blk.new (w.alloc (.cells #[c.w,c.h,c.zoom,c.near,.bool c.deep,c.lens,c.focus] 24)) 34 [(),(),(),(),()];rw [World.size_alloc] at h;exact h
 have z2:((w.alloc (.cells #[c.w,c.h,c.zoom,c.near,.bool c.deep,c.lens,c.focus] 24)).alloc (.cells #[(),(),(),(),()] 34)).heap.size=w.heap.size+2:=by simp
 have HX0:=hid x0;have HCM:=hid hcm;clear hv hcm;go_enter Tryz.func9,Tryz.ntmps9;go_upto_region 1 with fail
 obtain ⟨W0,hW0⟩:∃W0,((w.alloc (.cells #[c.w,c.h,c.zoom,c.near,.bool c.deep,c.lens,c.focus] 24)).alloc (.cells #[(),(),(),(),()] 34))=W0:=⟨_,rfl⟩
 rw [hW0] at x0 bC bS z2 HX0 ⊢;have HS:=hid bS;have Z2:=hid z2;obtain ⟨c0,c1,c2,c3,c4,c5,c6⟩:=bC.q7;have lc:=bC.lt;clear hW0 x0 bC bS z2;refine wp_region_stages [([0,2],1),([],3),([],4)] 4 W0.heap.size (by kernel_rfl) (by kernel_rfl) ?_;refine st_ fun K hK=>?_;go_wp2_with fail;have yd:Ext w W0.drew:=HX0.out.trans (Ext.drew (Ext.refl _));refine (l32New_any hi _ n 7 _ (HV.out.ext hh yd) (Nat.le_trans hh yd.size) hn (by decide)).mono ?_;rintro e w1 ⟨B,rfl,hB,C1,x1⟩;have y1:Ext W0 w1:=Ext.trans (Ext.drew (Ext.refl _)) x1;have hB0:W0.heap.size<=B:=hB;go_wp2_with fail;refine hK _ _ (.inr (y1.same (Nat.le_refl _))) ?_;clear hK K;refine st_ fun K hK=>?_;go_wp2_with fail;refine (l11Draw_any hi B c HCM.out _ C1).mono ?_;rintro e w2 ⟨p,rfl,hp,G2⟩;have y2:Ext W0 w2:=G2.up y1 hB0;go_wp2_with fail;refine hK _ _ (.inr (y2.same (Nat.le_refl _))) ?_;clear hK K;have HPO:=hid hp;have HY2:=hid (HX0.out.trans y2);have S2:=HS.out.ext y2;have HS2:=hid S2;obtain ⟨s0,s1,s2,s3,s4⟩:=S2.q5;have f0:=S2.free 0;have f1:=S2.free 1;have f2:=S2.free 2;have f3:=S2.free 3;have f4:=S2.free 4;have l2:=S2.lt;clear hp G2 y1 y2 S2 C1 x1 yd c0 c1 c2 c3 c4 c5 c6 lc;refine st_ fun K hK=>?_;go_wp2_with fail;refine hK _ _ (.inl (by trivial)) ?_;clear hK K;refine wpStages_nil ?_;go_wp2;have bF:=((((HS2.out.set 0 (.int .i64 p.x)).set 1 (.int .i64 p.y)).set 2 (.int .i64 p.t)).set 3 (.int .i64 p.lx)).set 4 (.int .i64 p.ly);refine ret_box rfl rfl bF _ Tryz.underlying34 rfl info_SmpS rfl ?_;exact ⟨p,rfl,HPO.out,Ext.setCell (Ext.setCell (Ext.setCell (Ext.setCell (Ext.setCell HY2.out (by simp only;omega) _) (by simp only;omega) _) (by simp only;omega) _) (by simp only;omega) _) (by simp only;omega) _⟩
theorem wpList_load_midG {P:Program} {ops:Array Oper} {rest:List Oper} {op:Oper} {a:Act} {w:World} {Q:Exit->Act->World->Prop} (hw:Region.wanted op (yielded ops a.tmps)=true) (ty:TypeId) (x:Operand) (ho:op.op = .load ty x)
  (b o:Nat) (hx:a.eval x = .pointer (some ⟨b,o,none⟩)) (cs:List Value) (d:TypeDesc) (hc:w.rangeAt b o cs) (hu:P.underlying ty=some d) (hd:d.isRow=true) (hi:(P.info? ty).map (·.size)=some cs.length)
  (h:wpList P ops Q rest (a.put op.dst (.agg cs.toArray)) w):wpList P ops Q (op::rest) a w:=
 wpList_step fun K hK=>by rw [if_pos hw];exact wp_load_mid ty x ho b o hx cs d hc hu hd hi (hK _ _ h)
theorem seesB_of_seen {s:Scn} (ho:s.Ok) {k:Nat} (hk:k<s.m) {p:Smp} (hp:p.okB s.c=true) (hne:s.hits k p≠[]) (v:Win) (hvx:v.x0<=p.x/\p.x<=v.x1) (hvy:v.y0<=p.y/\p.y<=v.y1):seesB s.c (s.st k) (s.en k) v=true:=by
 obtain ⟨q,n,h1,h2,h3,h4,h5,h6,h7⟩:=ho.at hk;unfold Smp.okB at hp;simp only [Bool.and_eq_true,inB_iff] at hp;unfold Scn.hits hitsL at hne;exact seesB_of_hits ho.c (by rw [h3];omega) (by omega) (Nat.le_refl _) hne v hvx hvy
theorem candK_mem {s:Scn} {v:Win} {m k:Nat} (hk:k<m) (h:seesB s.c (s.st k) (s.en k) v=true):((k:Nat):Int)∈candK s v m:=by
 unfold candK;exact List.mem_map.2 ⟨k,List.mem_filter.2 ⟨List.mem_range.2 hk,h⟩,rfl⟩
theorem candK_rng {s:Scn} {v:Win} {m:Nat}:∀x∈candK s v m,∃k:Nat,x=(k:Int)/\k<m:=by
 intro x hx;unfold candK at hx;obtain ⟨k,hk,rfl⟩:=List.mem_map.1 hx;exact ⟨k,rfl,List.mem_range.1 (List.mem_filter.1 hk).1⟩
theorem lawCand (v:Value) (nb:Nat) (W:World) (hv:Byts W.heap.size W v nb) :
  Calls Tryz.prog 6 #[v] W fun e w'=>e = .returned (.bool true)/\Ext W w':=by
 have HV:=hid hv;obtain ⟨a,cap,rfl,k1,k2⟩:=hv.open;clear hv
 by_cases hn:nb<=1048576
 ·go_enter Tryz.func6,Tryz.ntmps6
  go_wp2_with fail;refine (MakeScene_any W.heap.size _ nb _ HV.out (Nat.le_refl _) hn).mono ?_;rintro e w1 ⟨s,v1,rfl,R1,D1,hm1,x1⟩;obtain ⟨a1,c1,a2,c2,a3,c3,rfl⟩:=R1.formV;have HD:=hid D1;have HR1:=hid R1;have HX1:=hid x1;clear R1 D1 x1;go_upto_region 4 with (show wpList _ _ _ [_] _ _;refine wpList_store_fresh _ _ _ rfl 31 (.tmp 3) (.tmp 13) rfl rfl #[s.c.w,s.c.h,s.c.zoom,s.c.near,.bool s.c.deep,s.c.lens,s.c.focus,s.t.log,.slice a1 s.t.px.length c1,.slice a2 s.ps.length c2,.slice a3 s.m c3,s.side] w1.heap.size rfl rfl rfl (by kernel_rfl) (by kernel_rfl) (by kernel_rfl) ?_);have x2:Ext w1 (w1.alloc (.cells #[s.c.w,s.c.h,s.c.zoom,s.c.near,.bool s.c.deep,s.c.lens,s.c.focus,s.t.log,.slice a1 s.t.px.length c1,.slice a2 s.ps.length c2,.slice a3 s.m c3,s.side] 31)):=X_;have b2:=Blk.new w1 31 [s.c.w,s.c.h,s.c.zoom,s.c.near,.bool s.c.deep,s.c.lens,s.c.focus,s.t.log,.slice a1 s.t.px.length c1,.slice a2 s.ps.length c2,.slice a3 s.m c3,s.side]
  obtain ⟨S,hS⟩:∃S,w1.heap.size=S:=⟨_,rfl⟩
  obtain ⟨w2,hw2⟩:∃w,w1.alloc (.cells #[s.c.w,s.c.h,s.c.zoom,s.c.near,.bool s.c.deep,s.c.lens,s.c.focus,s.t.log,.slice a1 s.t.px.length c1,.slice a2 s.ps.length c2,.slice a3 s.m c3,s.side] 31)=w:=⟨_,rfl⟩
  rw [hw2] at x2 b2 ⊢;rw [hS] at b2 ⊢;have HR2:=hid (HR1.out.ext (Nat.le_refl _) x2);have HX2:=hid (HX1.out.trans x2);have HB2:=hid b2;have hz2:=x2.size;have HZ2:=hid hz2;obtain ⟨c0,c1,c2,c3,c4,c5,c6,c7,c8,c9,c10,c11⟩:=b2.q12;have l2:=b2.lt;clear hS hw2 x2 b2 HR1 HX1 hz2;go_wp2_with fail;refine (MakeSample_any W.heap.size _ nb s.c HD.out.cam _ (HV.out.ext (Nat.le_refl _) HX2.out) HX2.out.size hn).mono ?_;rintro e w3 ⟨p,rfl,hp,x3⟩;have HP:=hid hp;have hR3:=HR2.out.ext HZ2.out x3;have HR3:=hid hR3;have HX3:=hid (HX2.out.trans x3);have HB3:=hid (HB2.out.ext x3);have HZ3:=hid (Nat.le_trans HZ2.out x3.size);clear hp hR3 x3 c0 c1 c2 c3 c4 c5 c6 c7 c8 c9 c10 c11 l2 HB2 HX2 HR2;go_upto_region 5 with (show wpList _ _ _ [_] _ _;refine wpList_store_fresh _ _ _ rfl 34 (.tmp 4) (.tmp 17) rfl rfl #[p.x,p.y,p.t,p.lx,p.ly] w3.heap.size rfl rfl rfl (by kernel_rfl) (by kernel_rfl) (by kernel_rfl) ?_);have x4:Ext w3 (w3.alloc (.cells #[p.x,p.y,p.t,p.lx,p.ly] 34)):=X_;have b4:=Blk.new w3 34 [p.x,p.y,p.t,p.lx,p.ly]
  obtain ⟨M,hM⟩:∃S,w3.heap.size=S:=⟨_,rfl⟩
  obtain ⟨w4,hw4⟩:∃w,w3.alloc (.cells #[p.x,p.y,p.t,p.lx,p.ly] 34)=w:=⟨_,rfl⟩
  rw [hw4] at x4 b4 ⊢;rw [hM] at b4 ⊢;have HR4:=hid (HR3.out.ext HZ3.out x4);have HX4:=hid (HX3.out.trans x4);have b3:=HB3.out.ext x4;have HB4:=hid b3;have HM4:=hid b4;have HZ4:=hid (Nat.le_trans HZ3.out x4.size);clear hM hw4 x4 b4 b3 HB3 HX3 HR3 HZ2 HZ3;have bq:=HB4.out.ext (Ext.refl _);obtain ⟨c0,c1,c2,c3,c4,c5,c6,c7,c8,c9,c10,c11⟩:=bq.q12;have lc:=bq.lt;clear bq;have bq:=HM4.out.ext (Ext.refl _);obtain ⟨d0,d1,d2,d3,d4⟩:=bq.q5;have ld:=bq.lt;clear bq;have hpk:=HP.out;rw [Smp.okB_eq] at hpk;simp only [Bool.and_eq_true] at hpk;have HPX:=hid hpk.1.1.1
  obtain ⟨px,hpx⟩:∃z,p.x / 16=z:=⟨_,rfl⟩
  obtain ⟨py,hpy⟩:∃z,p.y / 16=z:=⟨_,rfl⟩
  have HV0:=hid (show (0<=p.x/\p.x<=s.c.w*16 - 1)/\(0<=p.y/\p.y<=s.c.h*16 - 1) by
   have h1:=HPX.out;unfold pixB at h1;simp only [Bool.and_eq_true,inB_iff] at h1
   exact ⟨h1.1.2,h1.2⟩)
  have HW0:=hid (show (px*16<=p.x/\p.x<=(px+1)*16 - 1)/\(py*16<=p.y/\p.y<=(py+1)*16 - 1) by omega);have HB0:=hid (show (0<=px/\px<=s.c.w - 1)/\(0<=py/\py<=s.c.h - 1) by have:=HV0.out;omega);clear hpk;go_wp2_with fail;have CH:=iPixelAt_yes s.c p.x p.y HPX.out w4;rw [hpx,hpy] at CH;clear hpx hpy;refine CH.mono ?_;clear CH;rintro e w5 ⟨rfl,x5⟩;have x6:Ext w5 (w5.alloc (.cells #[px,py,.int .i64 1,.int .i64 1] 62)):=X_;have b6:=Blk.new w5 62 [px,py,.int .i64 1,.int .i64 1];clear c0 c1 c2 c3 c4 c5 c6 c7 c8 c9 c10 c11 lc d0 d1 d2 d3 d4 ld;go_upto_region 7 with (show wpList _ _ _ [_] _ _;refine wpList_store_fresh _ _ _ rfl 62 (.tmp 8) (.tmp 35) rfl rfl #[px,py,.int .i64 1,.int .i64 1] w5.heap.size rfl rfl rfl (by kernel_rfl) (by kernel_rfl) (by kernel_rfl) ?_)
  obtain ⟨w6,hw6⟩:∃w,w5.alloc (.cells #[px,py,.int .i64 1,.int .i64 1] 62)=w:=⟨_,rfl⟩
  rw [hw6] at x6 b6
  try rw [hw6]
  obtain ⟨Bk,hBk⟩:∃S,w5.heap.size=S:=⟨_,rfl⟩
  rw [hBk] at b6
  try rw [hBk]
  have y6:Ext w4 w6:=x5.trans x6;have HX6:=hid (HX4.out.trans y6);have HB6:=hid (HB4.out.ext y6);have HM6:=hid (HM4.out.ext y6);have HR6:=hid (HR4.out.ext HZ4.out y6);have HZ6:=hid (Nat.le_trans HZ4.out y6.size);have HK6:=hid b6;clear hw6 hBk x5 x6 y6 b6 HB4 HM4 HR4 HX4 HZ4;have bq:=HB6.out.ext (Ext.refl _);obtain ⟨c0,c1,c2,c3,c4,c5,c6,c7,c8,c9,c10,c11⟩:=bq.q12;have lc:=bq.lt;clear bq;have bq:=HK6.out.ext (Ext.refl _);obtain ⟨d0,d1,d2,d3⟩:=bq.q4;have ld:=bq.lt;clear bq;go_wp2_with fail;have CH:=Candidates_any s W.heap.size w1.heap.size _ w6 HR6.out HZ6.out HD.out.ok HD.out.small (x:=px) (y:=py) (u:=1) (v:=1) HB0.out.1 HB0.out.2 (by have:=HB0.out;omega) (by have:=HB0.out;omega) rfl rfl rfl rfl
  obtain ⟨L,hL⟩:∃L,candK s ⟨px*16,(px+1)*16 - 1,py*16,(py+1)*16 - 1⟩ s.m=L:=⟨_,rfl⟩
  rw [hL] at CH;have HLM:=hid (fun (k:Nat) (hk:k<s.m) (h:s.hits k p≠[])=>show ((k:Nat):Int)∈L from hL▸candK_mem hk (seesB_of_seen HD.out.ok hk HP.out h _ HW0.out.1 HW0.out.2));have HLV:=hid (fun (k:Nat) (hk:k<s.m) (h:s.hits k p≠[])=>seesB_of_seen HD.out.ok hk HP.out h ⟨0,s.c.w*16 - 1,0,s.c.h*16 - 1⟩ HV0.out.1 HV0.out.2);have HLR:=hid (show ∀x∈L,∃k:Nat,x=(k:Int)/\k<s.m from hL▸candK_rng);have HLL:=hid (show L.length<=s.m from hL▸candK_len _ _ _);clear hL;refine CH.mono ?_;clear CH;rintro e w7 ⟨r,rfl,o7,x7⟩;obtain ⟨la,lc7,rfl,-⟩:=o7.form;have HO7:=hid o7;have HX7:=hid (HX6.out.trans x7);have HB7:=hid (HB6.out.ext x7);have HM7:=hid (HM6.out.ext x7);have HR7:=hid (HR6.out.ext HZ6.out x7);have HZ7:=hid (Nat.le_trans HZ6.out x7.size);clear o7 x7 HB6 HM6 HR6 HX6 HZ6 HK6 c0 c1 c2 c3 c4 c5 c6 c7 c8 c9 c10 c11 lc d0 d1 d2 d3 ld;have c10:=HB7.out.cell 10 rfl;have lc:=HB7.out.lt;go_wp2_with fail;clear c10 lc
  go_loopw [42] (fun i wr=>∃k:Nat,k<=s.m/\i = .int .i64 (k:Nat)/\Ext w7 wr) (fun i _=>s.m - (intOf i).toNat)
  case atStart=>exact ⟨0,by omega,rfl,Ext.refl _⟩
  case round=>
   obtain ⟨k,hk,rfl,hx⟩:=hrel;have HX:=hid hx;have hmb:=HD.out.ok.m
   rcases Nat.lt_or_ge k s.m with hlt|hge
   ·obtain ⟨q,n,h1,h2,h3,h4,h5,h6,h7⟩:=HD.out.ok.at hlt
    obtain ⟨a1',c1',a2',c2',a3',c3',he,-,-,-,-,-,hF⟩:=HR7.out.form;simp only [Value.agg.injEq,Array.mk.injEq,List.cons.injEq,Value.slice.injEq,true_and,and_true] at he;obtain ⟨⟨rfl,rfl⟩,⟨rfl,rfl⟩,⟨rfl,rfl⟩⟩:=he;have hcap:=hF.cap;have hle:=hF.le;obtain ⟨b,off,rfl,hb1,hb2,hcell⟩:=hF.at hlt (by decide)
    have bw:b<w7.heap.size:=by have:=HZ7.out;omega
    have bwr:b<wr.heap.size:=Nat.lt_of_lt_of_le bw hx.size
    have hcs:wr.rangeAt b (off+k*26) ((List.range 26).map fun j=>.int .i64 (s.F (k*26+j))):=by
     intro j v hj;obtain ⟨h1,h2⟩:=List.getElem?_eq_some_iff.1 hj;simp only [List.length_map,List.length_range] at h1;simp only [List.getElem_map,List.getElem_range] at h2;subst h2;exact (hx.cells.1 b _ bw).trans (hcell j h1)
    change wr.rangeAt b (off+k*26) [(s.st k 0),(s.st k 1),(s.st k 2),(s.st k 3),(s.st k 4),(s.st k 5),(s.st k 6),(s.st k 7),(s.st k 8),(s.st k 9),(s.st k 10),(s.st k 11),(s.en k 0),(s.en k 1),(s.en k 2),(s.en k 3),(s.en k 4),(s.en k 5),(s.en k 6),(s.en k 7),(s.en k 8),(s.en k 9),(s.en k 10),(s.en k 11),(s.sh k),(s.rt k)] at hcs;have HOUT:=hid (fun (h:s.hits k p≠[]) (w:World)=>isOutside_val HD.out.ok.c (s.st k) (s.en k) h6 h7 (q:Nat) (n:Nat) rfl rfl (HLV.out k hlt h) w)
    obtain ⟨f,hf⟩:∃f,s.st k=f:=⟨_,rfl⟩
    obtain ⟨g,hg⟩:∃f,s.en k=f:=⟨_,rfl⟩
    rw [hf,hg] at HOUT;simp only [hf,hg,h1,h3] at hcs;have HCS:=hid hcs;clear hF hcell hcs h1 h3 h6 h7 hf hg hx;go_upto_region 11 with (first|(show wpList _ _ _ [_,_,_,_] _ _;refine wpList_load_mid rfl _ _ rfl b (off+k*26) rfl [(f 0),(f 1),(f 2),(f 3),(f 4),(f 5),(f 6),(f 7),(f 8),(f 9),(f 10),(f 11),(g 0),(g 1),(g 2),(g 3),(g 4),(g 5),(g 6),(g 7),(g 8),(g 9),(g 10),(g 11),(q:Nat),(n:Nat)] _ HCS.out Tryz.underlying42 rfl info_srfS ?_)|(show wpList _ _ _ [_] _ _;refine wpList_store_fresh _ _ _ rfl 42 (.tmp 11) (.tmp 46) rfl rfl #[(f 0),(f 1),(f 2),(f 3),(f 4),(f 5),(f 6),(f 7),(f 8),(f 9),(f 10),(f 11),(g 0),(g 1),(g 2),(g 3),(g 4),(g 5),(g 6),(g 7),(g 8),(g 9),(g 10),(g 11),(q:Nat),(n:Nat)] wr.heap.size rfl rfl rfl (by kernel_rfl) (by kernel_rfl) (by kernel_rfl) ?_));have x5:Ext wr (wr.alloc (.cells #[(f 0),(f 1),(f 2),(f 3),(f 4),(f 5),(f 6),(f 7),(f 8),(f 9),(f 10),(f 11),(g 0),(g 1),(g 2),(g 3),(g 4),(g 5),(g 6),(g 7),(g 8),(g 9),(g 10),(g 11),(q:Nat),(n:Nat)] 42)):=X_;have b5:=Blk.new wr 42 [(f 0),(f 1),(f 2),(f 3),(f 4),(f 5),(f 6),(f 7),(f 8),(f 9),(f 10),(f 11),(g 0),(g 1),(g 2),(g 3),(g 4),(g 5),(g 6),(g 7),(g 8),(g 9),(g 10),(g 11),(q:Nat),(n:Nat)]
    obtain ⟨X,hX⟩:∃S,wr.heap.size=S:=⟨_,rfl⟩
    obtain ⟨w8,hw8⟩:∃w,wr.alloc (.cells #[(f 0),(f 1),(f 2),(f 3),(f 4),(f 5),(f 6),(f 7),(f 8),(f 9),(f 10),(f 11),(g 0),(g 1),(g 2),(g 3),(g 4),(g 5),(g 6),(g 7),(g 8),(g 9),(g 10),(g 11),(q:Nat),(n:Nat)] 42)=w:=⟨_,rfl⟩
    rw [hw8] at x5 b5 ⊢;rw [hX] at b5 bwr ⊢;have HX8:=hid (HX.out.trans x5);have HS8:=hid b5;clear hX hw8 x5 b5 HCS;have bq:=HB7.out.ext HX8.out;obtain ⟨c0,c1,c2,c3,c4,c5,c6,c7,c8,c9,c10,c11⟩:=bq.q12;have lc:=bq.lt;clear bq;have bq:=HM7.out.ext HX8.out;obtain ⟨d0,d1,d2,d3,d4⟩:=bq.q5;have ld:=bq.lt;clear bq;go_wp2_with fail;refine (iSurfaceFragments_any s W.heap.size w1.heap.size _ k p _ (HR7.out.ext HZ7.out HX8.out) (Nat.le_trans HZ7.out HX8.out.size) HD.out.ok HD.out.small hlt HP.out).mono ?_;rintro e w9 ⟨r,rfl,O9,x9⟩;obtain ⟨ta,tc,rfl,tl⟩:=OwnG.form O9;have HN9:=hid (show 0<(s.hits k p).length->s.hits k p≠[] from fun h e1=>by rw [e1] at h;cases h);have HX9:=hid (HX8.out.trans x9);have HS9:=hid (HS8.out.ext x9)
    obtain ⟨nh,hnh⟩:∃z,(s.hits k p).length=z:=⟨_,rfl⟩
    rw [hnh] at HN9 tl ⊢;clear O9 x9 hnh HX8 HS8 c0 c1 c2 c3 c4 c5 c6 c7 c8 c9 c10 c11 lc d0 d1 d2 d3 d4 ld
    rcases Nat.eq_zero_or_pos nh with rfl|hpos
    ·go_wp2
     go_roundw
     case rel=>exact ⟨k+1,by omega,by go_num,HX9.out⟩
     case measure=>simp [intOf];omega
    ·have hne:=HN9.out hpos
     have HMEM:=hid (HLM.out k hlt hne);have HOU:=hid (HOUT.out hne);clear hne HOUT;go_wp2_with fail;refine (has_yes (HO7.out.ext HX9.out) HMEM.out).mono ?_;rintro e w10 ⟨rfl,rfl⟩;have bq:=HB7.out.ext HX9.out;obtain ⟨c0,c1,c2,c3,c4,c5,c6⟩:=bq.q7;have lc:=bq.lt;clear bq;have hcB:=HS9.out.rangeB;have ls:=HS9.out.lt;go_wp2_with (show wpList _ _ _ (_::_) _ _;refine wpList_load_midG (by first|rfl|(simp [Region.wanted,yielded];done)) _ _ rfl X 0 rfl [(f 0),(f 1),(f 2),(f 3),(f 4),(f 5),(f 6),(f 7),(f 8),(f 9),(f 10),(f 11),(g 0),(g 1),(g 2),(g 3),(g 4),(g 5),(g 6),(g 7),(g 8),(g 9),(g 10),(g 11),(q:Nat),(n:Nat)] _ hcB Tryz.underlying42 rfl info_srfS ?_);refine (HOU.out _).mono ?_;rintro e w11 ⟨rfl,x11⟩;have HX11:=hid (HX9.out.trans x11);clear x11 hcB ls HS9 c0 c1 c2 c3 c4 c5 c6 lc;go_wp2;go_roundw
     case rel=>exact ⟨k+1,by omega,by go_num,HX11.out⟩
     case measure=>simp [intOf];omega
   ·obtain rfl:k=s.m:=by omega
    clear hx;have bq:=HB7.out.ext HX.out;obtain ⟨c0,c1,c2,c3,c4,c5,c6,c7,c8,c9,c10,c11⟩:=bq.q12;have lc:=bq.lt;clear bq;go_wp2_with fail;refine (DepthOrder_any s W.heap.size w1.heap.size _ _ (HR7.out.ext HZ7.out HX.out) (Nat.le_trans HZ7.out HX.out.size) HD.out.ok (HO7.out.ext HX.out) HLR.out (by have:=HLL.out;omega)).mono ?_;rintro e w8 ⟨ra,rc,rfl,x8⟩;have X8:=hid (HX7.out.trans (HX.out.trans x8));clear x8 c0 c1 c2 c3 c4 c5 c6 c7 c8 c9 c10 c11 lc;go_wp2;go_ret;exact ⟨ret_bool (by simp),X8.out⟩
 ·have hn2:(1048576:Int)<(nb:Int):=by omega
  go_enter Tryz.func6,Tryz.ntmps6;go_wp2;go_ret;exact ⟨rfl,Ext.refl _⟩
section
namespace fnCandidates
open Go.ChangeShapes Go.WideShapes Go.ChangeAt Go.RowKit
theorem own:ownKnob Tryz.prog.godebug=none:=by kernel_rfl
theorem laid:laidOutB Tryz.prog=true:=by kernel_rfl
theorem lifted (os:Os) (started:os.Started) (H:Type) (enc:TypeId×Value->H) :
  ReturnsInHanded {} Tryz.checked os 6 .any (Rows.fnCandidatesSpec.pre6 enc Tryz.prog Tryz.f6 Rows.fnCandidatesRow.domain false) (Rows.fnCandidatesSpec.post enc Tryz.prog Tryz.f6 false true false false):=by
 refine returnsInHanded_of_change (C:=Tryz.checked) own started (by kernel_rfl) Tryz.func6
  (ChangeSpec.witness6 (enc:=enc) (C:=Tryz.checked) false ⟨#[],#[.slice none 0 0],[]⟩ 8 (by kernel_rfl) (by kernel_rfl) (by kernel_rfl) (by kernel_rfl)) ?_
 intro W base args ds gs before hval0 hW hcnd _;have hval:∀(j:Nat) t v,Tryz.f6.params[j]?=some t->args[j]?=some v->Value.okWide Tryz.prog W .any base t v:=hval0;have hW':=hW;obtain ⟨p,q,hA0,hV,rfl,hfz,hnd⟩:=hW;have hA:DataW.TrodAll enc Tryz.prog W 0 (fun _=>true) true Tryz.f6.params.toList args.toList ds p:=hA0;rw [Tryz.params6] at hA hval;obtain ⟨v0,vs0,d0,ds0,p0,q0,hargs,rfl,rfl,h0,r0⟩:=trodAll_cons hA;obtain ⟨rfl,rfl,rfl⟩:=trodAll_nil r0
 obtain rfl:args=#[v0]:=by cases args;simp_all
 obtain ⟨rfl,rfl⟩:=trodVars_none hV;have k0:=h0
 have lt0:∀x∈p0,x.block<W.heap.size:=by obtain ⟨m,hm⟩:=k0;exact DataW.trod_lt m _ _ _ hm
 obtain ⟨n0,w0⟩:=argByts (hval 0 22 v0 rfl rfl) h0;clear hA0 hval0;refine (lawCand v0 n0 W w0).mono fun e W' ⟨he,bel0⟩=>?_;have bel:Below W.heap.size W W':=bel0;subst he;exact ⟨_,rfl,_,_,_,[],_,[],hW',trodAll_mk1 (shut_bool Tryz.underlying4 _),(trodAll_cons_mk (Below.trod laid (by kernel_rfl) (of_decide_eq_true (by kernel_rfl)) k0 bel lt0) trodAll_mk0),rfl,bel.frame _,fun h=>by cases h⟩
theorem named:Tryz.pinned.checked.prog.funcNamed Rows.fnCandidatesRow.func=some 6:=by kernel_rfl
theorem facts:joinedFacts Tryz.pinned.checked.prog 6 Tryz.f6 Rows.fnCandidatesSpec Rows.fnCandidatesRow=true:=by kernel_rfl
theorem inst:Tryz.f6.isInstance Tryz.pinned.checked.prog Rows.fnCandidatesRow.origin Rows.fnCandidatesRow.targs:=of_decide_eq_true (by kernel_rfl)
theorem wrap:Tryz.f6.isWrapper Tryz.pinned.checked.prog Rows.fnCandidatesRow.wrapper Rows.fnCandidatesRow.mainSum:=by
 unfold Func.isWrapper
 first|(rw [if_pos (by decide +kernel)];kernel_rfl)|(rw [if_neg (by decide +kernel)];exact ⟨rfl,rfl⟩)
theorem over:Rows.fnCandidatesRow.holds Tryz.pinned (OpenSpec.ofChange Rows.fnCandidatesSpec):=
 OpenClaim.holds_of_wide 6 Tryz.f6 rfl rfl rfl rfl rfl rfl rfl ⟨rfl,rfl,rfl,rfl,rfl⟩ rfl rfl rfl rfl rfl named Tryz.func6 facts inst wrap
  (fun os started H enc _=>lifted os started H enc)
theorem proved:Rows.FnCandidatesSaid:=over
end fnCandidates
end
end Go.Proofs.YtfjbiifebcfjfaaGreat
