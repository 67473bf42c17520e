/- Texts of this claim, one behind another; what its theorem does not use is left out: Ap1, Ap2, Sr1, Sr3, Sr2, Lk9, Sg1, Sg2, Sg3, Sg4, Cp0, Cp1, Cp2, Sc2, Gx0, Ge10, Cpy, In0, PlanE, L05a, Sc4, TrS, Draw, DrawT, Dr1, Dw1, Gd1, Fresh, Bxs, SrfI, Dw2, Tk2, Tk3, Tk4, Tk5, Ps1, Ps2, Ps3, Ps4, Ps5, Ps6, Ps7, Ps8, Ps9, Dr2, FlG, Dw3, In1, Ge11, Gd2, Gd3, Gd4. -/
import Derived.Test.YtfjbiifebcfjfaaGreatP29W4
import Derived.Test.YtfjbiifebcfjfaaGreatP29W3
import Derived.Test.YtfjbiifebcfjfaaGreatP29W1
import Derived.Great.BuildSlice
import Derived.Deep.MidRow
import Derived.Test.YtfjbiifebcfjfaaGreatP29W2
import Derived.Laws.CopyRow
import Derived.Laws.CopyOwn
import Derived.Lib.SliceRun
import Derived.Deep.LoopGhost
import Derived.Deep.OwnRows
import Derived.Laws.ResultCell
import Derived.Lib.SlBytesConst
import Derived.Maps.AppendAt
import Derived.Deep.CutBlock
set_option linter.unusedSimpArgs false
set_option linter.unusedVariables false
set_option maxRecDepth 100000
set_option maxHeartbeats 12800000
namespace Go.Proofs.YtfjbiifebcfjfaaGreat
open Go.RowKit
def FunS (s:ByteArray) (n:Nat) (pu:Value) (tm:Int) (tu:Value) (t:Tex) (ar:Nat) (fv:List Int→Int):Prop:=
 ∀(lo hi lo' hi':Nat) (u:Value) (x:List Int) (w:World),x.length=ar→(∀y∈x,S9 y)→Ints lo hi w u x→hi≤w.heap.size→TexR lo' hi' w (.agg #[.int .i64 t.log,tu]) t→hi'≤w.heap.size →
  Calls Tryz.prog 247 #[.agg #[.int .i64 n,pu,.int .i64 tm,.int .i64 t.log,tu],.string s,u] w fun e w'=>e = .returned (.int .i64 (fv x))∧Ext w w'
def FunO (num:Int) (ar:Nat) (fv:List Int→Int):Prop:=
 ∀(lo hi:Nat) (u:Value) (x:List Int) (w:World),x.length=ar→(∀y∈x,S9 y)→Ints lo hi w u x→hi≤w.heap.size →
  Calls Tryz.prog 248 #[.int .i64 num,u] w fun e w'=>e = .returned (.int .i64 (fv x))∧Ext w w'
theorem sApply7 (fv:List Int→Int) (s:ByteArray) (num:Int) (S:List (List Int)) (lo hi lo' hi':Nat) (n m:Nat) (pu tu av:Value) (tm:Int) (t:Tex) (w:World)
  (hdu:(s.toList==[100,117])=false) (hdv:(s.toList==[100,118])=false) (hF:FunS s n pu tm tu t S.length fv) (hS:SS lo hi w av S) (hh:hi≤w.heap.size) (hT:TexR lo' hi' w (.agg #[.int .i64 t.log,tu]) t) (hh':hi'≤w.heap.size) (hg:∀r∈S,good m r) (hm:(n:Int)*n=m) (hm2:m≤64) (hl:S.length≤3) :
  Calls Tryz.prog 193 #[.agg #[.int .i64 n,pu,.int .i64 tm,.int .i64 t.log,tu],.agg #[.int .i64 7,.string s,.int .i64 num],av] w fun e w'=>∃r,e = .returned r∧OwnInts w.heap.size w' r ((List.range m).map fun k=>satI (fv (colOf S k)))∧Ext w w':=by
 obtain ⟨a,cap,rfl,HS⟩:=hS.open;have l1:=HS.le;have l2:=HS.cap;have HT:=hid hT;have HG:=hid hg;have HF:=hid hF;clear hS hT hg hF
 obtain ⟨D,hD⟩:∃D,((List.range m).map fun k=>satI (fv (colOf S k)))=D:=⟨_,rfl⟩
 have HDl:Hid (D.length=m):=by rw [←hD];show (List.map _ _).length=m;simp
 have HDa:Hid (∀k (h:k<D.length),D[k]=satI (fv (colOf S k))):=by subst hD;show ∀k (h:k<(List.map _ _).length),(List.map _ _)[k]=_;intro k h;simp
 rw [hD];clear hD;have x0:Ext w ((w.alloc (.cells #[.int .i64 n,pu,.int .i64 tm,.int .i64 t.log,tu] 135)).alloc (.cells #[.int .i64 7,.string s,.int .i64 num] 197)):=X_;have gb:=(GBox.made w n pu tm t.log tu 135).ext ((Ext.refl _).alloc (.cells #[.int .i64 7,.string s,.int .i64 num] 197));have xb:=XBox.made (w.alloc (.cells #[.int .i64 n,pu,.int .i64 tm,.int .i64 t.log,tu] 135)) 7 s num 197;simp only [World.size_alloc] at xb
 obtain ⟨W0,hW0⟩:∃W,(w.alloc (.cells #[.int .i64 n,pu,.int .i64 tm,.int .i64 t.log,tu] 135)).alloc (.cells #[.int .i64 7,.string s,.int .i64 num] 197)=W:=⟨_,rfl⟩
 rw [hW0] at x0 gb xb;have HGB:=hid gb;have HXB:=hid xb;have HX0:=hid x0;have HW0:=hid hW0;have hz0:=x0.size
 have hzW:w.heap.size+2=W0.heap.size:=by rw [←hW0];simp
 clear gb xb x0 hW0;go_enter Tryz.func193,Tryz.ntmps193;go_wp2;rw [HW0.out]
 go_loopw [7,8] (fun v jv wr=>∃k:Nat,k≤m∧jv = .int .i64 k∧OwnInts W0.heap.size wr v (D.take k)∧Ext W0 wr) (fun _ jv _=>m - (intOf jv).toNat)
 case atStart=>exact ⟨0,by omega,rfl,by simpa [←hzW] using OwnInts.lit0 W0,X_⟩
 case round=>
  obtain ⟨k,hk,rfl,hown,hx⟩:=hrel;obtain ⟨ov,oc,rfl,_⟩:=hown.form;have hGB:=HGB.out.ext hx;have hXB:=HXB.out.ext hx;have g0:=hGB.lt;have g1:=hGB.c0;have g2:=hGB.c1;have g3:=hGB.c2;have g4:=hGB.c3;have g5:=hGB.c4
  by_cases hlt:k<m
  ·have hlen:(D.take k).length=k:=by rw [List.length_take,HDl.out];omega
   have HLT:Hid (k<D.length):=by rw [HDl.out];exact hlt
   rw [hlen] at hown ⊢;have HLN:=hid hlen;clear hlen;have HO:=hid hown;have HX:=hid hx;clear hown hx hGB hXB
   rename World=>W1
   have hzz:=HX.out.size;go_wp2
   go_loopw [9,48] (fun v i wq=>∃j:Nat,j≤S.length∧i = .int .i64 j∧OwnInts W1.heap.size wq v ((colOf S k).take j)∧Ext W1 wq) (fun _ i _=>S.length - (intOf i).toNat)
   case atStart=>exact ⟨0,by omega,rfl,OwnInts.lit0 W1,X_⟩
   case round=>
    clear g0 g1 g2 g3 g4 g5;obtain ⟨j,hj,rfl,hown,hy⟩:=hrel;obtain ⟨av,cv,rfl,hcv⟩:=hown.form
    have hlen:((colOf S k).take j).length=j:=by rw [List.length_take,colOf_len];omega
    rw [hlen] at hown ⊢
    by_cases hlj:j<S.length
    ·obtain ⟨b,off,u,rfl,hb1,hb2,c0,hu⟩:=HS.at hlj (HX0.out.trans (HX.out.trans hy)) hh
     obtain ⟨g1,g2⟩:=HG.out _ (List.getElem_mem hlj);obtain ⟨ua,uc,rfl,HU⟩:=hu.open;have lu:=HU.le;have lc:=HU.cap;obtain ⟨b3,off3,rfl,hb3,hb4,c3⟩:=HU.at (k:=k) (by omega);have hz4:=HX.out.size;have hz5:=hy.size
     have hb5:b3<wr.heap.size:=by omega
     have hgd:=getD_at S[j] k (by omega);have hsn:=colOf_take S k j hlj;rw [hgd] at hsn;have i9:=(g2 _ (List.getElem_mem (show k<S[j].length by omega))).i64
     obtain ⟨x,hxk⟩:∃x,S[j][k]'(by omega)=x:=⟨_,rfl⟩
     rw [hxk] at c3 hsn i9;rw [g1] at lu c0;have HO2:=hid hown;have HY:=hid hy;have HSN:=hid hsn;have HL:=hid hlen;have HI:=hid i9;clear hown hy hsn hlen hxk hgd hu HU i9 hz4 hz5 g1 g2;go_wp2_with (at_builtin;refine wpList_append1 _ rfl _ _ rfl W1.heap.size _ _ rfl (HO2.out.alloc _) x HI.out wr.heap.size rfl (by simp [go_sem]) (by rw [HL.out];omega) (by have:=HY.out.size;simp;omega) ?_;intro v' w7 hown hg);rw [HSN.out] at hown;go_wp2;go_roundw
     case rel=>exact ⟨j+1,by omega,by go_num,hown,Ext.grown (HY.out.alloc _) hg (fun g e=>(HO2.out.lt g e).1)⟩
     case measure=>simp [intOf];omega
    ·obtain rfl:j=S.length:=by omega
     rw [List.take_of_length_le (by rw [colOf_len];omega)] at hown;have xq:=HX.out.trans hy;have hs9:=colOf_S9 HG.out hlt;have hGB:=HGB.out.ext xq;have hXB:=HXB.out.ext xq;have HC:=hid (HF.out _ _ _ _ _ _ wr (colOf_len S k) hs9 hown.ints (Nat.le_refl _) (HT.out.ext hh' (HX0.out.trans xq)) (by have:=xq.size;omega));have HX2:=hid xq;have HO2:=hid (HO.out.ext hy);have g0:=hGB.lt;have g1:=hGB.c0;have g2:=hGB.c1;have g3:=hGB.c2;have g4:=hGB.c3;have g5:=hGB.c4;have y0:=hXB.lt;have y1:=hXB.c0;have y2:=hXB.c1;have y3:=hXB.c2;clear hown hy xq hs9 hlen hGB hXB;go_wp2_with fail;refine HC.out.mono ?_;rintro e w7 ⟨rfl,x7⟩
     obtain ⟨z,hz⟩:∃y,satI (fv (colOf S k))=y:=⟨_,rfl⟩
     have HZ:=hid hz;have hz9:Hid (I64 z):=hid (by rw [←hz];exact (satI_S9 _).i64);have HX7:=hid (HX2.out.trans x7);have HO7:=hid (HO2.out.ext x7);have hvz:Hid (D[k]'HLT.out=z):=(HDa.out _ HLT.out).trans hz;have hz7:=HX7.out.size;clear hz x7 g0 g1 g2 g3 g4 g5 y0 y1 y2 y3;go_wp2_with fail;refine (sSaturate_val HZ.out _).mono ?_;rintro e w8 ⟨rfl,rfl⟩;go_wp2_with (at_builtin;refine wpList_append1 _ rfl _ _ rfl W0.heap.size _ _ rfl (HO7.out.alloc _) z hz9.out w7.heap.size rfl (by simp [go_sem]) (by rw [HLN.out];omega) (by simp;omega) ?_;intro v' w9 hown hg);have hown2:=hown.take_snoc HLT.out hvz.out;clear hown;have X9:Ext W0 w9:=Ext.grown (HX7.out.alloc _) hg (fun g e=>(HO7.out.lt g e).1);go_wp2;go_roundw
     case rel=>exact ⟨k+1,by omega,by go_num,hown2,X9⟩
     case measure=>simp [intOf];omega
  ·obtain rfl:k=m:=by omega
   rw [List.take_of_length_le (by rw [HDl.out];exact Nat.le_refl _)] at hown ⊢;have HDl2:=HDl.out;go_wp2;go_ret
   first|exact ⟨_,rfl,hown.low (by omega),HX0.out.trans hx⟩|(rw [HDl2] at hown;exact ⟨_,rfl,hown.low (by omega),HX0.out.trans hx⟩)
theorem sApply5 (fv:List Int→Int) (s:ByteArray) (num:Int) (S:List (List Int)) (lo hi lo' hi':Nat) (n m:Nat) (pu tu av:Value) (tm:Int) (t:Tex) (w:World)
  (hF:FunO num S.length fv) (hS:SS lo hi w av S) (hh:hi≤w.heap.size) (hT:TexR lo' hi' w (.agg #[.int .i64 t.log,tu]) t) (hh':hi'≤w.heap.size) (hg:∀r∈S,good m r) (hm:(n:Int)*n=m) (hm2:m≤64) (hl:S.length≤3) :
  Calls Tryz.prog 193 #[.agg #[.int .i64 n,pu,.int .i64 tm,.int .i64 t.log,tu],.agg #[.int .i64 5,.string s,.int .i64 num],av] w fun e w'=>∃r,e = .returned r∧OwnInts w.heap.size w' r ((List.range m).map fun k=>satI (fv (colOf S k)))∧Ext w w':=by
 obtain ⟨a,cap,rfl,HS⟩:=hS.open;have l1:=HS.le;have l2:=HS.cap;have HT:=hid hT;have HG:=hid hg;have HF:=hid hF;clear hS hT hg hF
 obtain ⟨D,hD⟩:∃D,((List.range m).map fun k=>satI (fv (colOf S k)))=D:=⟨_,rfl⟩
 have HDl:Hid (D.length=m):=by rw [←hD];show (List.map _ _).length=m;simp
 have HDa:Hid (∀k (h:k<D.length),D[k]=satI (fv (colOf S k))):=by subst hD;show ∀k (h:k<(List.map _ _).length),(List.map _ _)[k]=_;intro k h;simp
 rw [hD];clear hD;have x0:Ext w ((w.alloc (.cells #[.int .i64 n,pu,.int .i64 tm,.int .i64 t.log,tu] 135)).alloc (.cells #[.int .i64 5,.string s,.int .i64 num] 197)):=X_;have gb:=(GBox.made w n pu tm t.log tu 135).ext ((Ext.refl _).alloc (.cells #[.int .i64 5,.string s,.int .i64 num] 197));have xb:=XBox.made (w.alloc (.cells #[.int .i64 n,pu,.int .i64 tm,.int .i64 t.log,tu] 135)) 5 s num 197;simp only [World.size_alloc] at xb
 obtain ⟨W0,hW0⟩:∃W,(w.alloc (.cells #[.int .i64 n,pu,.int .i64 tm,.int .i64 t.log,tu] 135)).alloc (.cells #[.int .i64 5,.string s,.int .i64 num] 197)=W:=⟨_,rfl⟩
 rw [hW0] at x0 gb xb;have HGB:=hid gb;have HXB:=hid xb;have HX0:=hid x0;have HW0:=hid hW0;have hz0:=x0.size
 have hzW:w.heap.size+2=W0.heap.size:=by rw [←hW0];simp
 clear gb xb x0 hW0;go_enter Tryz.func193,Tryz.ntmps193;go_wp2;rw [HW0.out]
 go_loopw [7,8] (fun v jv wr=>∃k:Nat,k≤m∧jv = .int .i64 k∧OwnInts W0.heap.size wr v (D.take k)∧Ext W0 wr) (fun _ jv _=>m - (intOf jv).toNat)
 case atStart=>exact ⟨0,by omega,rfl,by simpa [←hzW] using OwnInts.lit0 W0,X_⟩
 case round=>
  obtain ⟨k,hk,rfl,hown,hx⟩:=hrel;obtain ⟨ov,oc,rfl,_⟩:=hown.form;have hGB:=HGB.out.ext hx;have hXB:=HXB.out.ext hx;have g0:=hGB.lt;have g1:=hGB.c0;have g2:=hGB.c1;have g3:=hGB.c2;have g4:=hGB.c3;have g5:=hGB.c4
  by_cases hlt:k<m
  ·have hlen:(D.take k).length=k:=by rw [List.length_take,HDl.out];omega
   have HLT:Hid (k<D.length):=by rw [HDl.out];exact hlt
   rw [hlen] at hown ⊢;have HLN:=hid hlen;clear hlen;have HO:=hid hown;have HX:=hid hx;clear hown hx hGB hXB
   rename World=>W1
   have hzz:=HX.out.size;go_wp2
   go_loopw [9,48] (fun v i wq=>∃j:Nat,j≤S.length∧i = .int .i64 j∧OwnInts W1.heap.size wq v ((colOf S k).take j)∧Ext W1 wq) (fun _ i _=>S.length - (intOf i).toNat)
   case atStart=>exact ⟨0,by omega,rfl,OwnInts.lit0 W1,X_⟩
   case round=>
    clear g0 g1 g2 g3 g4 g5;obtain ⟨j,hj,rfl,hown,hy⟩:=hrel;obtain ⟨av,cv,rfl,hcv⟩:=hown.form
    have hlen:((colOf S k).take j).length=j:=by rw [List.length_take,colOf_len];omega
    rw [hlen] at hown ⊢
    by_cases hlj:j<S.length
    ·obtain ⟨b,off,u,rfl,hb1,hb2,c0,hu⟩:=HS.at hlj (HX0.out.trans (HX.out.trans hy)) hh
     obtain ⟨g1,g2⟩:=HG.out _ (List.getElem_mem hlj);obtain ⟨ua,uc,rfl,HU⟩:=hu.open;have lu:=HU.le;have lc:=HU.cap;obtain ⟨b3,off3,rfl,hb3,hb4,c3⟩:=HU.at (k:=k) (by omega);have hz4:=HX.out.size;have hz5:=hy.size
     have hb5:b3<wr.heap.size:=by omega
     have hgd:=getD_at S[j] k (by omega);have hsn:=colOf_take S k j hlj;rw [hgd] at hsn;have i9:=(g2 _ (List.getElem_mem (show k<S[j].length by omega))).i64
     obtain ⟨x,hxk⟩:∃x,S[j][k]'(by omega)=x:=⟨_,rfl⟩
     rw [hxk] at c3 hsn i9;rw [g1] at lu c0;have HO2:=hid hown;have HY:=hid hy;have HSN:=hid hsn;have HL:=hid hlen;have HI:=hid i9;clear hown hy hsn hlen hxk hgd hu HU i9 hz4 hz5 g1 g2;go_wp2_with (at_builtin;refine wpList_append1 _ rfl _ _ rfl W1.heap.size _ _ rfl (HO2.out.alloc _) x HI.out wr.heap.size rfl (by simp [go_sem]) (by rw [HL.out];omega) (by have:=HY.out.size;simp;omega) ?_;intro v' w7 hown hg);rw [HSN.out] at hown;go_wp2;go_roundw
     case rel=>exact ⟨j+1,by omega,by go_num,hown,Ext.grown (HY.out.alloc _) hg (fun g e=>(HO2.out.lt g e).1)⟩
     case measure=>simp [intOf];omega
    ·obtain rfl:j=S.length:=by omega
     rw [List.take_of_length_le (by rw [colOf_len];omega)] at hown;have xq:=HX.out.trans hy;have hs9:=colOf_S9 HG.out hlt;have hGB:=HGB.out.ext xq;have hXB:=HXB.out.ext xq;have HC:=hid (HF.out _ _ _ _ wr (colOf_len S k) hs9 hown.ints (Nat.le_refl _));have HX2:=hid xq;have HO2:=hid (HO.out.ext hy);have g0:=hGB.lt;have g1:=hGB.c0;have g2:=hGB.c1;have g3:=hGB.c2;have g4:=hGB.c3;have g5:=hGB.c4;have y0:=hXB.lt;have y1:=hXB.c0;have y2:=hXB.c1;have y3:=hXB.c2;clear hown hy xq hs9 hlen hGB hXB;go_wp2_with fail;refine HC.out.mono ?_;rintro e w7 ⟨rfl,x7⟩
     obtain ⟨z,hz⟩:∃y,satI (fv (colOf S k))=y:=⟨_,rfl⟩
     have HZ:=hid hz;have hz9:Hid (I64 z):=hid (by rw [←hz];exact (satI_S9 _).i64);have HX7:=hid (HX2.out.trans x7);have HO7:=hid (HO2.out.ext x7);have hvz:Hid (D[k]'HLT.out=z):=(HDa.out _ HLT.out).trans hz;have hz7:=HX7.out.size;clear hz x7 g0 g1 g2 g3 g4 g5 y0 y1 y2 y3;go_wp2_with fail;refine (sSaturate_val HZ.out _).mono ?_;rintro e w8 ⟨rfl,rfl⟩;go_wp2_with (at_builtin;refine wpList_append1 _ rfl _ _ rfl W0.heap.size _ _ rfl (HO7.out.alloc _) z hz9.out w7.heap.size rfl (by simp [go_sem]) (by rw [HLN.out];omega) (by simp;omega) ?_;intro v' w9 hown hg);have hown2:=hown.take_snoc HLT.out hvz.out;clear hown;have X9:Ext W0 w9:=Ext.grown (HX7.out.alloc _) hg (fun g e=>(HO7.out.lt g e).1);go_wp2;go_roundw
     case rel=>exact ⟨k+1,by omega,by go_num,hown2,X9⟩
     case measure=>simp [intOf];omega
  ·obtain rfl:k=m:=by omega
   rw [List.take_of_length_le (by rw [HDl.out];exact Nat.le_refl _)] at hown ⊢;have HDl2:=HDl.out;go_wp2;go_ret
   first|exact ⟨_,rfl,hown.low (by omega),HX0.out.trans hx⟩|(rw [HDl2] at hown;exact ⟨_,rfl,hown.low (by omega),HX0.out.trans hx⟩)
theorem sApply6 (fv:List Int→Int) (s:ByteArray) (num:Int) (S:List (List Int)) (lo hi lo' hi':Nat) (n m:Nat) (pu tu av:Value) (tm:Int) (t:Tex) (w:World)
  (hF:FunO num S.length fv) (hS:SS lo hi w av S) (hh:hi≤w.heap.size) (hT:TexR lo' hi' w (.agg #[.int .i64 t.log,tu]) t) (hh':hi'≤w.heap.size) (hg:∀r∈S,good m r) (hm:(n:Int)*n=m) (hm2:m≤64) (hl:S.length≤3) :
  Calls Tryz.prog 193 #[.agg #[.int .i64 n,pu,.int .i64 tm,.int .i64 t.log,tu],.agg #[.int .i64 6,.string s,.int .i64 num],av] w fun e w'=>∃r,e = .returned r∧OwnInts w.heap.size w' r ((List.range m).map fun k=>satI (fv (colOf S k)))∧Ext w w':=by
 obtain ⟨a,cap,rfl,HS⟩:=hS.open;have l1:=HS.le;have l2:=HS.cap;have HT:=hid hT;have HG:=hid hg;have HF:=hid hF;clear hS hT hg hF
 obtain ⟨D,hD⟩:∃D,((List.range m).map fun k=>satI (fv (colOf S k)))=D:=⟨_,rfl⟩
 have HDl:Hid (D.length=m):=by rw [←hD];show (List.map _ _).length=m;simp
 have HDa:Hid (∀k (h:k<D.length),D[k]=satI (fv (colOf S k))):=by subst hD;show ∀k (h:k<(List.map _ _).length),(List.map _ _)[k]=_;intro k h;simp
 rw [hD];clear hD;have x0:Ext w ((w.alloc (.cells #[.int .i64 n,pu,.int .i64 tm,.int .i64 t.log,tu] 135)).alloc (.cells #[.int .i64 6,.string s,.int .i64 num] 197)):=X_;have gb:=(GBox.made w n pu tm t.log tu 135).ext ((Ext.refl _).alloc (.cells #[.int .i64 6,.string s,.int .i64 num] 197));have xb:=XBox.made (w.alloc (.cells #[.int .i64 n,pu,.int .i64 tm,.int .i64 t.log,tu] 135)) 6 s num 197;simp only [World.size_alloc] at xb
 obtain ⟨W0,hW0⟩:∃W,(w.alloc (.cells #[.int .i64 n,pu,.int .i64 tm,.int .i64 t.log,tu] 135)).alloc (.cells #[.int .i64 6,.string s,.int .i64 num] 197)=W:=⟨_,rfl⟩
 rw [hW0] at x0 gb xb;have HGB:=hid gb;have HXB:=hid xb;have HX0:=hid x0;have HW0:=hid hW0;have hz0:=x0.size
 have hzW:w.heap.size+2=W0.heap.size:=by rw [←hW0];simp
 clear gb xb x0 hW0;go_enter Tryz.func193,Tryz.ntmps193;go_wp2;rw [HW0.out]
 go_loopw [7,8] (fun v jv wr=>∃k:Nat,k≤m∧jv = .int .i64 k∧OwnInts W0.heap.size wr v (D.take k)∧Ext W0 wr) (fun _ jv _=>m - (intOf jv).toNat)
 case atStart=>exact ⟨0,by omega,rfl,by simpa [←hzW] using OwnInts.lit0 W0,X_⟩
 case round=>
  obtain ⟨k,hk,rfl,hown,hx⟩:=hrel;obtain ⟨ov,oc,rfl,_⟩:=hown.form;have hGB:=HGB.out.ext hx;have hXB:=HXB.out.ext hx;have g0:=hGB.lt;have g1:=hGB.c0;have g2:=hGB.c1;have g3:=hGB.c2;have g4:=hGB.c3;have g5:=hGB.c4
  by_cases hlt:k<m
  ·have hlen:(D.take k).length=k:=by rw [List.length_take,HDl.out];omega
   have HLT:Hid (k<D.length):=by rw [HDl.out];exact hlt
   rw [hlen] at hown ⊢;have HLN:=hid hlen;clear hlen;have HO:=hid hown;have HX:=hid hx;clear hown hx hGB hXB
   rename World=>W1
   have hzz:=HX.out.size;go_wp2
   go_loopw [9,48] (fun v i wq=>∃j:Nat,j≤S.length∧i = .int .i64 j∧OwnInts W1.heap.size wq v ((colOf S k).take j)∧Ext W1 wq) (fun _ i _=>S.length - (intOf i).toNat)
   case atStart=>exact ⟨0,by omega,rfl,OwnInts.lit0 W1,X_⟩
   case round=>
    clear g0 g1 g2 g3 g4 g5;obtain ⟨j,hj,rfl,hown,hy⟩:=hrel;obtain ⟨av,cv,rfl,hcv⟩:=hown.form
    have hlen:((colOf S k).take j).length=j:=by rw [List.length_take,colOf_len];omega
    rw [hlen] at hown ⊢
    by_cases hlj:j<S.length
    ·obtain ⟨b,off,u,rfl,hb1,hb2,c0,hu⟩:=HS.at hlj (HX0.out.trans (HX.out.trans hy)) hh
     obtain ⟨g1,g2⟩:=HG.out _ (List.getElem_mem hlj);obtain ⟨ua,uc,rfl,HU⟩:=hu.open;have lu:=HU.le;have lc:=HU.cap;obtain ⟨b3,off3,rfl,hb3,hb4,c3⟩:=HU.at (k:=k) (by omega);have hz4:=HX.out.size;have hz5:=hy.size
     have hb5:b3<wr.heap.size:=by omega
     have hgd:=getD_at S[j] k (by omega);have hsn:=colOf_take S k j hlj;rw [hgd] at hsn;have i9:=(g2 _ (List.getElem_mem (show k<S[j].length by omega))).i64
     obtain ⟨x,hxk⟩:∃x,S[j][k]'(by omega)=x:=⟨_,rfl⟩
     rw [hxk] at c3 hsn i9;rw [g1] at lu c0;have HO2:=hid hown;have HY:=hid hy;have HSN:=hid hsn;have HL:=hid hlen;have HI:=hid i9;clear hown hy hsn hlen hxk hgd hu HU i9 hz4 hz5 g1 g2;go_wp2_with (at_builtin;refine wpList_append1 _ rfl _ _ rfl W1.heap.size _ _ rfl (HO2.out.alloc _) x HI.out wr.heap.size rfl (by simp [go_sem]) (by rw [HL.out];omega) (by have:=HY.out.size;simp;omega) ?_;intro v' w7 hown hg);rw [HSN.out] at hown;go_wp2;go_roundw
     case rel=>exact ⟨j+1,by omega,by go_num,hown,Ext.grown (HY.out.alloc _) hg (fun g e=>(HO2.out.lt g e).1)⟩
     case measure=>simp [intOf];omega
    ·obtain rfl:j=S.length:=by omega
     rw [List.take_of_length_le (by rw [colOf_len];omega)] at hown;have xq:=HX.out.trans hy;have hs9:=colOf_S9 HG.out hlt;have hGB:=HGB.out.ext xq;have hXB:=HXB.out.ext xq;have HC:=hid (HF.out _ _ _ _ wr (colOf_len S k) hs9 hown.ints (Nat.le_refl _));have HX2:=hid xq;have HO2:=hid (HO.out.ext hy);have g0:=hGB.lt;have g1:=hGB.c0;have g2:=hGB.c1;have g3:=hGB.c2;have g4:=hGB.c3;have g5:=hGB.c4;have y0:=hXB.lt;have y1:=hXB.c0;have y2:=hXB.c1;have y3:=hXB.c2;clear hown hy xq hs9 hlen hGB hXB;go_wp2_with fail;refine HC.out.mono ?_;rintro e w7 ⟨rfl,x7⟩
     obtain ⟨z,hz⟩:∃y,satI (fv (colOf S k))=y:=⟨_,rfl⟩
     have HZ:=hid hz;have hz9:Hid (I64 z):=hid (by rw [←hz];exact (satI_S9 _).i64);have HX7:=hid (HX2.out.trans x7);have HO7:=hid (HO2.out.ext x7);have hvz:Hid (D[k]'HLT.out=z):=(HDa.out _ HLT.out).trans hz;have hz7:=HX7.out.size;clear hz x7 g0 g1 g2 g3 g4 g5 y0 y1 y2 y3;go_wp2_with fail;refine (sSaturate_val HZ.out _).mono ?_;rintro e w8 ⟨rfl,rfl⟩;go_wp2_with (at_builtin;refine wpList_append1 _ rfl _ _ rfl W0.heap.size _ _ rfl (HO7.out.alloc _) z hz9.out w7.heap.size rfl (by simp [go_sem]) (by rw [HLN.out];omega) (by simp;omega) ?_;intro v' w9 hown hg);have hown2:=hown.take_snoc HLT.out hvz.out;clear hown;have X9:Ext W0 w9:=Ext.grown (HX7.out.alloc _) hg (fun g e=>(HO7.out.lt g e).1);go_wp2;go_roundw
     case rel=>exact ⟨k+1,by omega,by go_num,hown2,X9⟩
     case measure=>simp [intOf];omega
  ·obtain rfl:k=m:=by omega
   rw [List.take_of_length_le (by rw [HDl.out];exact Nat.le_refl _)] at hown ⊢;have HDl2:=HDl.out;go_wp2;go_ret
   first|exact ⟨_,rfl,hown.low (by omega),HX0.out.trans hx⟩|(rw [HDl2] at hown;exact ⟨_,rfl,hown.low (by omega),HX0.out.trans hx⟩)
theorem FunS_abs (n:Nat) (pu:Value) (tm:Int) (tu:Value) (t:Tex) (_ht:t.okB=true):FunS ⟨#[97,98,115]⟩ n pu tm tu t 1 (fnV t [97,98,115]):=by
 intro lo hi lo' hi' u x w hl hs hu hh hv hh';obtain ⟨a,rfl⟩:=one_of hl;exact sFn_abs lo hi u _ _ _ _ _ w hu hh (hs a (by simp)) rfl
theorem FunS_floor (n:Nat) (pu:Value) (tm:Int) (tu:Value) (t:Tex) (_ht:t.okB=true):FunS ⟨#[102,108,111,111,114]⟩ n pu tm tu t 1 (fnV t [102,108,111,111,114]):=by
 intro lo hi lo' hi' u x w hl hs hu hh hv hh';obtain ⟨a,rfl⟩:=one_of hl;exact sFn_floor lo hi u _ _ _ _ _ w hu hh (hs a (by simp)) rfl
theorem FunS_min (n:Nat) (pu:Value) (tm:Int) (tu:Value) (t:Tex) (_ht:t.okB=true):FunS ⟨#[109,105,110]⟩ n pu tm tu t 2 (fnV t [109,105,110]):=by
 intro lo hi lo' hi' u x w hl hs hu hh hv hh';obtain ⟨a,b,rfl⟩:=two_of hl;exact sFn_min lo hi u _ _ _ _ _ w hu hh (hs a (by simp)) (hs b (by simp)) rfl
theorem FunS_max (n:Nat) (pu:Value) (tm:Int) (tu:Value) (t:Tex) (_ht:t.okB=true):FunS ⟨#[109,97,120]⟩ n pu tm tu t 2 (fnV t [109,97,120]):=by
 intro lo hi lo' hi' u x w hl hs hu hh hv hh';obtain ⟨a,b,rfl⟩:=two_of hl;exact sFn_max lo hi u _ _ _ _ _ w hu hh (hs a (by simp)) (hs b (by simp)) rfl
theorem FunS_step (n:Nat) (pu:Value) (tm:Int) (tu:Value) (t:Tex) (_ht:t.okB=true):FunS ⟨#[115,116,101,112]⟩ n pu tm tu t 2 (fnV t [115,116,101,112]):=by
 intro lo hi lo' hi' u x w hl hs hu hh hv hh';obtain ⟨a,b,rfl⟩:=two_of hl;exact sFn_step lo hi u _ _ _ _ _ w hu hh (hs a (by simp)) (hs b (by simp)) rfl
theorem FunS_noise (n:Nat) (pu:Value) (tm:Int) (tu:Value) (t:Tex) (_ht:t.okB=true):FunS ⟨#[110,111,105,115,101]⟩ n pu tm tu t 2 (fnV t [110,111,105,115,101]):=by
 intro lo hi lo' hi' u x w hl hs hu hh hv hh';obtain ⟨a,b,rfl⟩:=two_of hl;exact sFn_noise lo hi u _ _ _ _ _ w hu hh (hs a (by simp)) (hs b (by simp)) rfl
theorem FunS_tex (n:Nat) (pu:Value) (tm:Int) (tu:Value) (t:Tex) (_ht:t.okB=true):FunS ⟨#[116,101,120]⟩ n pu tm tu t 2 (fnV t [116,101,120]):=by
 intro lo hi lo' hi' u x w hl hs hu hh hv hh';obtain ⟨a,b,rfl⟩:=two_of hl;exact sFn_tex lo hi lo' hi' u _ _ _ _ _ t w hu hh hv hh' _ht rfl
theorem FunS_clamp (n:Nat) (pu:Value) (tm:Int) (tu:Value) (t:Tex) (_ht:t.okB=true):FunS ⟨#[99,108,97,109,112]⟩ n pu tm tu t 3 (fnV t [99,108,97,109,112]):=by
 intro lo hi lo' hi' u x w hl hs hu hh hv hh';obtain ⟨a,b,c,rfl⟩:=three_of hl;exact sFn_clamp lo hi u _ _ _ _ _ w hu hh  rfl
theorem FunS_mix (n:Nat) (pu:Value) (tm:Int) (tu:Value) (t:Tex) (_ht:t.okB=true):FunS ⟨#[109,105,120]⟩ n pu tm tu t 3 (fnV t [109,105,120]):=by
 intro lo hi lo' hi' u x w hl hs hu hh hv hh';obtain ⟨a,b,c,rfl⟩:=three_of hl;exact sFn_mix lo hi u _ _ _ _ _ w hu hh (hs a (by simp)) (hs b (by simp)) (hs c (by simp)) rfl
theorem sApply_d (rows:Bool) (xs:List Int) (lo hi:Nat) (n m:Nat) (pu tu av:Value) (tm g3 num:Int) (w:World) (s:ByteArray) (S:List (List Int)) (hs:s.toList=if rows then [100,118] else [100,117]) (hxs:S[0]?=some xs)
  (hS:SS lo hi w av S) (hh:hi≤w.heap.size) (hg:good m xs) (hm:n*n=m) (h1:1≤n) (h8:n≤8) :
  Calls Tryz.prog 193 #[.agg #[.int .i64 n,pu,.int .i64 tm,.int .i64 g3,tu],.agg #[.int .i64 7,.string s,.int .i64 num],av] w fun e w'=>∃r,e = .returned r∧OwnInts w.heap.size w' r (diffs xs n rows)∧Ext w w':=by
 obtain ⟨a,cap,rfl,HS⟩:=hS.open;have l1:=HS.le;have l2:=HS.cap;have hl0:=(List.getElem?_eq_some_iff.1 hxs).1;have hx0:=(List.getElem?_eq_some_iff.1 hxs).2;obtain ⟨b,off,u,rfl,hb1,hb2,c0,hu⟩:=HS.at hl0 (Ext.refl w) hh;rw [hx0] at hu;simp only [Nat.add_zero] at c0
 have hbn:b≠w.heap.size:=by omega
 have hbn2:b≠w.heap.size+1:=by omega
 have hbn1:b<w.heap.size+1:=by omega
 have HU:=hid hu;replace hg:=hid hg;clear hu hxs hx0
 cases rows
 ·have e:=conc (l:=[100,117]) hs
  subst e;clear hs;go_enter Tryz.func193,Tryz.ntmps193;go_wp2_with fail;refine wp_region_stages [([0,1,2,3,4,5,6,7],8),([],9)] 99 (w.heap.size+1+1) (by kernel_rfl) (by kernel_rfl) ?_;refine st_ fun K hK=>?_;go_wp2_with fail;refine (sDiff_any lo hi u xs n false _ (HU.out.ext hh X_) (by simp;omega) (hg.out.1.trans hm.symm) h1 h8 hg.out.2).mono ?_;rintro e w1 ⟨r,rfl,hr,x1⟩;obtain ⟨ra,rc,rfl,_⟩:=hr.form;have X1:Ext w w1:=Ext.trans X_ x1;go_wp2_with fail;refine hK _ _ (.inr (fun k _ hk=>x1.block (by first|omega|(simp;omega)))) ?_;clear hK K;refine st_ fun K hK=>?_;go_wp2_with fail;go_wp2_with fail;refine hK _ _ (.inr (fun k _ hk=>x1.block (by first|omega|(simp;omega)))) ?_;clear hK K;refine wpStages_nil ?_;go_wp2;go_ret;exact ⟨_,rfl,hr.low (by simp;omega),X1⟩
 ·have e:=conc (l:=[100,118]) hs
  subst e;clear hs;go_enter Tryz.func193,Tryz.ntmps193;go_wp2_with fail;refine wp_region_stages [([0,1,2,3,4,5,6,7],8),([],9)] 99 (w.heap.size+1+1) (by kernel_rfl) (by kernel_rfl) ?_;refine st_ fun K hK=>?_;go_wp2_with fail;refine (sDiff_any lo hi u xs n true _ (HU.out.ext hh X_) (by simp;omega) (hg.out.1.trans hm.symm) h1 h8 hg.out.2).mono ?_;rintro e w1 ⟨r,rfl,hr,x1⟩;obtain ⟨ra,rc,rfl,_⟩:=hr.form;have X1:Ext w w1:=Ext.trans X_ x1;go_wp2_with fail;refine hK _ _ (.inr (fun k _ hk=>x1.block (by first|omega|(simp;omega)))) ?_;clear hK K;refine st_ fun K hK=>?_;go_wp2_with fail;go_wp2_with fail;refine hK _ _ (.inr (fun k _ hk=>x1.block (by first|omega|(simp;omega)))) ?_;clear hK K;refine wpStages_nil ?_;go_wp2;go_ret;exact ⟨_,rfl,hr.low (by simp;omega),X1⟩
theorem sCall_any (s:ByteArray) (num:Int) (S:List (List Int)) (lo hi lo' hi':Nat) (n m:Nat) (pu tu av:Value) (tm:Int) (t:Tex) (w:World) (hs:0≤arity s) (hl:(S.length:Int)=arity s) (ht:t.okB=true)
  (hS:SS lo hi w av S) (hh:hi≤w.heap.size) (hT:TexR lo' hi' w (.agg #[.int .i64 t.log,tu]) t) (hh':hi'≤w.heap.size) (hg:∀r∈S,good m r) (hm:n*n=m) (h1:1≤n) (h8:n≤8) :
  Calls Tryz.prog 193 #[.agg #[.int .i64 n,pu,.int .i64 tm,.int .i64 t.log,tu],.agg #[.int .i64 7,.string s,.int .i64 num],av] w fun e w'=>∃r,e = .returned r∧OwnInts w.heap.size w' r (callRow n m t s.toList S)∧Ext w w':=by
 have hmi:(n:Int)*n=m:=by rw [←hm];simp
 have hm2:m≤64:=by
  have:n*n≤8*8:=Nat.mul_le_mul h8 h8;omega
 have key:∀(l:List UInt8) (ar:Nat),s.toList=l→(l==[100,117])=false→(l==[100,118])=false→(arityL l=ar)→ar≤3 →
   FunS ⟨l.toArray⟩ n pu tm tu t ar (fnV t l)→Calls Tryz.prog 193 #[.agg #[.int .i64 n,pu,.int .i64 tm,.int .i64 t.log,tu],.agg #[.int .i64 7,.string s,.int .i64 num],av] w fun e w'=>∃r,e = .returned r∧OwnInts w.heap.size w' r (callRow n m t s.toList S)∧Ext w w':=by
  intro l ar hsl h1' h2' har ha3 hF
  have hlen:S.length=ar:=by
   unfold arity at hl;rw [hsl,har] at hl;omega
  subst hlen;rw [hsl];unfold callRow;rw [h1',h2'];have e:=conc hsl;subst e;exact sApply7 (fnV t l) _ num S lo hi lo' hi' n m pu tu av tm t w (by rw [hsl];exact h1') (by rw [hsl];exact h2') hF hS hh hT hh' hg hmi hm2 ha3
 have hd:∀rows:Bool,s.toList=(if rows then [100,118] else [100,117])→Calls Tryz.prog 193 #[.agg #[.int .i64 n,pu,.int .i64 tm,.int .i64 t.log,tu],.agg #[.int .i64 7,.string s,.int .i64 num],av] w fun e w'=>∃r,e = .returned r∧OwnInts w.heap.size w' r (callRow n m t s.toList S)∧Ext w w':=by
  intro rows hsl
  have hl1:S.length=1:=by
   unfold arity at hl;rw [hsl] at hl
   cases rows <;> (have:(S.length:Int)=1:=hl;omega)
  obtain ⟨xs,rfl⟩:∃xs,S=[xs]:=by
   match S,hl1 with
   | [a],_=>exact ⟨a,rfl⟩
  have:=sApply_d rows xs lo hi n m pu tu av tm t.log num w s [xs] hsl rfl hS hh (hg xs (by simp)) hm h1 h8;rw [hsl]
  cases rows <;> exact this
 unfold arity arityL at hs
 by_cases c_abs:(s.toList==[97,98,115])=true
 ·exact key [97,98,115] 1 (eq_of_beq c_abs) rfl rfl rfl (by decide) (FunS_abs n pu tm tu t ht)
 by_cases c_floor:(s.toList==[102,108,111,111,114])=true
 ·exact key [102,108,111,111,114] 1 (eq_of_beq c_floor) rfl rfl rfl (by decide) (FunS_floor n pu tm tu t ht)
 by_cases c_du:(s.toList==[100,117])=true
 ·exact hd false (eq_of_beq c_du)
 by_cases c_dv:(s.toList==[100,118])=true
 ·exact hd true (eq_of_beq c_dv)
 by_cases c_min:(s.toList==[109,105,110])=true
 ·exact key [109,105,110] 2 (eq_of_beq c_min) rfl rfl rfl (by decide) (FunS_min n pu tm tu t ht)
 by_cases c_max:(s.toList==[109,97,120])=true
 ·exact key [109,97,120] 2 (eq_of_beq c_max) rfl rfl rfl (by decide) (FunS_max n pu tm tu t ht)
 by_cases c_step:(s.toList==[115,116,101,112])=true
 ·exact key [115,116,101,112] 2 (eq_of_beq c_step) rfl rfl rfl (by decide) (FunS_step n pu tm tu t ht)
 by_cases c_noise:(s.toList==[110,111,105,115,101])=true
 ·exact key [110,111,105,115,101] 2 (eq_of_beq c_noise) rfl rfl rfl (by decide) (FunS_noise n pu tm tu t ht)
 by_cases c_tex:(s.toList==[116,101,120])=true
 ·exact key [116,101,120] 2 (eq_of_beq c_tex) rfl rfl rfl (by decide) (FunS_tex n pu tm tu t ht)
 by_cases c_clamp:(s.toList==[99,108,97,109,112])=true
 ·exact key [99,108,97,109,112] 3 (eq_of_beq c_clamp) rfl rfl rfl (by decide) (FunS_clamp n pu tm tu t ht)
 by_cases c_mix:(s.toList==[109,105,120])=true
 ·exact key [109,105,120] 3 (eq_of_beq c_mix) rfl rfl rfl (by decide) (FunS_mix n pu tm tu t ht)
 simp only [Bool.not_eq_true] at c_abs c_floor c_du c_dv c_min c_max c_step c_noise c_tex c_clamp c_mix;simp [c_abs,c_floor,c_du,c_dv,c_min,c_max,c_step,c_noise,c_tex,c_clamp,c_mix] at hs
def opV (num:Int) (x:List Int):Int:=opI num (x.getD 0 0) (x.getD (if num=3 then 0 else 1) 0)
theorem FunO_un:FunO 3 1 (opV 3):=by
 intro lo hi u x w hl hs hu hh;obtain ⟨a,rfl⟩:=one_of hl;exact sOp_any lo hi u (op:=3) (a:=a) (b:=a) (by unfold opsOk;omega) (hs a (by simp)) (hs a (by simp)) rfl w hu hh
theorem FunO_bin {num:Int} (h:inB num 4 7=true):FunO num 2 (opV num):=by
 intro lo hi u x w hl hs hu hh;obtain ⟨a,b,rfl⟩:=two_of hl;have hb:=inB_iff.1 h
 have h3:num≠3:=by omega
 refine sOp_any lo hi u (op:=num) (a:=a) (b:=b) (by unfold opsOk;omega) (hs a (by simp)) (hs b (by simp)) (by unfold opV;rw [if_neg h3];rfl) w (by unfold opArgs;rw [if_neg h3];exact hu) hh
theorem op_row {m:Nat} {num:Int} {S:List (List Int)} {a b:List Int} (ha:S[0]?=some a) (hb:S[if num=3 then 0 else 1]?=some b) (h1:a.length=m) (h2:b.length=m):((List.range m).map fun k=>satI (opV num (colOf S k)))=List.zipWith (arithI num) a b:=by
 apply List.ext_getElem?;intro i
 by_cases hi:i<m
 ·have e1:(colOf S i).getD 0 0=a[i]'(by omega):=by
   unfold colOf;rw [List.getD,List.getElem?_map,ha];exact getD_at a i (by omega)
  have e2:(colOf S i).getD (if num=3 then 0 else 1) 0=b[i]'(by omega):=by
   unfold colOf;rw [List.getD,List.getElem?_map,hb];exact getD_at b i (by omega)
  rw [List.getElem?_map,List.getElem?_range hi,List.getElem?_eq_getElem (by simp;omega),List.getElem_zipWith];simp only [Option.map_some,Option.some.injEq];unfold opV arithI;rw [e1,e2]
 ·rw [List.getElem?_eq_none (by simp;omega),List.getElem?_eq_none (by simp;omega)]
theorem sFill_any {lo lo':Nat} {w:World} {n m:Nat} {pu tu lv:Value} {f:Nat→Int} {tm:Int} {t:Tex} {L:List (List Int)} {op:Int} {s:ByteArray} {num:Int} {args:List (List Int)} (G:GridIn lo w n m pu tu f tm t) (hlo:lo≤w.heap.size) (hL:SS 0 lo' w lv L) (hlo':lo'≤w.heap.size) (hn:S9 num) (ho:op=1∨op=2∨op=3)
  (h3:op=3→∃j:Nat,num=j∧∃xs,L[j]?=some xs∧good m xs) :
  Calls Tryz.prog 192 #[.agg #[.int .i64 n,pu,.int .i64 tm,.int .i64 t.log,tu],.agg #[.int .i64 op,.string s,.int .i64 num],lv] w fun e w'=>∃r,e = .returned r∧OwnInts w.heap.size w' r (rowI n m f tm t op s num args L)∧Ext w w':=by
 obtain ⟨q1,q2,q3⟩:=G.hmi
 rcases ho with rfl|rfl|rfl
 ·have e:rowI n m f tm t 1 s num args L=List.replicate m num:=by unfold rowI;rw [if_pos rfl]
  rw [e];exact sFill1 0 lo n m pu tu lv f tm t.log s num w G.flats hlo G.hm G.h1 G.h8 (List.replicate m num) (by simp) hn.i64 (fun k h=>by simp)
 ·have e:rowI n m f tm t 2 s num args L=(List.range m).map (varL s.toList f tm):=by unfold rowI;rw [if_neg (by simp),if_pos rfl]
  rw [e];refine sFill2 0 lo n m pu tu lv f tm t.log s num w G.flats hlo G.hm G.h1 G.h8 ((List.range m).map (varL s.toList f tm)) (by simp) (fun k h=>by simp) (fun x hx=>?_);obtain ⟨i,hi,rfl⟩:=List.mem_map.1 hx;exact (varL_S9 _ G.f9 G.tm9 (List.mem_range.1 hi)).i64
 ·obtain ⟨j,rfl,xs,hx,hg⟩:=h3 rfl
  have e:rowI n m f tm t 3 s j args L=xs:=by unfold rowI;rw [if_neg (by simp),if_neg (by simp),if_pos rfl,Int.toNat_natCast,List.getD,hx];rfl
  rw [e];exact sFill3 0 lo' n pu tu lv tm t.log s j L xs w hL hlo' hx (by rw [hg.1];omega) (by rw [hg.1];omega)
theorem sApply_any {lo lo':Nat} {w:World} {n m:Nat} {pu tu av:Value} {f:Nat→Int} {tm:Int} {t:Tex} {L args:List (List Int)} {op:Int} {s:ByteArray} {num:Int} {L0 p:Nat} (G:GridIn lo w n m pu tu f tm t) (hlo:lo≤w.heap.size) (hS:SS 0 lo' w av args) (hlo':lo'≤w.heap.size) (ho:op=5∨op=6∨op=7)
  (hwf:wfI op s num L0=true) (hp:popsI op s=p) (hl:args.length=p) (hg:∀r∈args,good m r) :
  Calls Tryz.prog 193 #[.agg #[.int .i64 n,pu,.int .i64 tm,.int .i64 t.log,tu],.agg #[.int .i64 op,.string s,.int .i64 num],av] w fun e w'=>∃r,e = .returned r∧OwnInts w.heap.size w' r (rowI n m f tm t op s num args L)∧Ext w w':=by
 obtain ⟨q1,q2,q3⟩:=G.hmi
 rcases ho with rfl|rfl|rfl
 ·have h0:p=1:=by have:popsI 5 s=1:=rfl;omega
  have hn3:num=3:=by simp [wfI] at hwf;exact hwf.2
  subst hn3
  obtain ⟨a,rfl⟩:∃a,args=[a]:=by
   match args,hl.trans h0 with
   | [a],_=>exact ⟨a,rfl⟩
  have e:rowI n m f tm t 5 s 3 [a] L=(List.range m).map fun k=>satI (opV 3 (colOf [a] k)):=by
   unfold rowI;rw [if_neg (by simp),if_neg (by simp),if_neg (by simp),if_pos rfl,op_row (a:=a) (b:=a) rfl rfl (hg a (by simp)).1 (hg a (by simp)).1]
   rfl
  rw [e];exact sApply5 (opV 3) s 3 [a] 0 lo' 0 lo n m pu tu av tm t w FunO_un hS hlo' G.tex hlo hg q1 q3 (by simp)
 ·have h0:p=2:=by have:popsI 6 s=2:=rfl;omega
  have hn4:inB num 4 7=true:=by simp [wfI] at hwf;exact hwf.2
  have hb:=inB_iff.1 hn4
  have h3:num≠3:=by omega
  obtain ⟨a,b,rfl⟩:∃a b,args=[a,b]:=by
   match args,hl.trans h0 with
   | [a,b],_=>exact ⟨a,b,rfl⟩
  have e:rowI n m f tm t 6 s num [a,b] L=(List.range m).map fun k=>satI (opV num (colOf [a,b] k)):=by
   unfold rowI;rw [if_neg (by simp),if_neg (by simp),if_neg (by simp),if_neg (by simp),if_pos rfl,op_row (a:=a) (b:=b) rfl (by rw [if_neg h3];rfl) (hg a (by simp)).1 (hg b (by simp)).1]
   rfl
  rw [e];exact sApply6 (opV num) s num [a,b] 0 lo' 0 lo n m pu tu av tm t w (FunO_bin hn4) hS hlo' G.tex hlo hg q1 q3 (by simp)
 ·have hp7:arity s=p:=by have:popsI 7 s=arity s:=rfl;omega
  have e:rowI n m f tm t 7 s num args L=callRow n m t s.toList args:=by
   unfold rowI;rw [if_neg (by simp),if_neg (by simp),if_neg (by simp),if_neg (by simp),if_neg (by simp)]
  rw [e];exact sCall_any s num args 0 lo' 0 lo n m pu tu av tm t w (by omega) (by omega) G.ok hS hlo' G.tex hlo hg G.hm G.h1 G.h8
structure Mst (lo lo2:Nat) (w:World) (sv lv:Value) (vs us:List Value) (S L:List (List Int)):Prop where
 so:w.ownsRow lo2 25 1 sv vs.length vs
 lo':w.ownsRow lo 25 1 lv us.length us
 sep:∀k,lv.ownBlock=some k→k<lo2
 hl:lo≤lo2
 hl2:lo2≤w.heap.size
 sr:Rws lo w vs S
 lr:Rws lo w us L
theorem Mst.ext {lo lo2:Nat} {w w':World} {sv lv:Value} {vs us:List Value} {S L:List (List Int)} (M:Mst lo lo2 w sv lv vs us S L) (e:Ext w w'):Mst lo lo2 w' sv lv vs us S L:=by
 have hg:w.grownBy w' none:=⟨Below.os e,Below.tape e,Below.output e,e.size,fun k hk _=>e.block hk⟩
 exact ⟨M.so.kept hg (by cases sv.ownBlock <;> simp),M.lo'.kept hg (by cases lv.ownBlock <;> simp),M.sep,M.hl,Nat.le_trans M.hl2 e.size,M.sr.keepI e.keepI,M.lr.keepI e.keepI⟩
theorem Mst.push {lo lo2:Nat} {w w':World} {sv lv v' y:Value} {vs us:List Value} {S L:List (List Int)} {r:List Int} (M:Mst lo lo2 w sv lv vs us S L) (hv':w'.ownsRow lo2 25 1 v' (vs.length+1) (vs++[y])) (hg:w.grownBy w' sv.ownBlock) (hy:OwnInts lo w y r) :
  Mst lo lo2 w' v' lv (vs++[y]) us (S++[r]) L∧Below lo w w':=by
 have hsl:=World.ownsRow.lt M.so;have kk:KeepI w w':=KeepI.grown hg (fun k cur fr hk=>ownsRow.int M.so (by decide) k cur fr hk);refine ⟨⟨by simpa using hv',M.lo'.kept hg ?_,M.sep,M.hl,Nat.le_trans M.hl2 hg.size,(M.sr.keepI kk).snoc (hy.keepI kk),M.lr.keepI kk⟩,Below.grown (Below.refl _ _) hg (Nat.le_trans M.hl M.hl2) (fun k hk=>by have:=(hsl k hk).1;have:=M.hl;omega)⟩
 cases hk:lv.ownBlock with
 | none=>exact .inl rfl
 | some k=>exact .inr (fun e=>by have h1:=M.sep k hk;have h2:=(hsl k e.symm).1;omega)
theorem Mst.shrink {lo lo2 g cap:Nat} {w:World} {lv:Value} {vs us:List Value} {S L:List (List Int)} (M:Mst lo lo2 w (.slice (some ⟨g,0,none⟩) vs.length cap) lv vs us S L) (q:Nat) (hq:q≤vs.length):Mst lo lo2 w (.slice (some ⟨g,0,none⟩) q cap) lv (vs.take q) us (S.take q) L:=by
 have e:(vs.take q).length=q:=by simp;omega
 exact ⟨by rw [e];exact ownsRow.shrink M.so hq,M.lo',M.sep,M.hl,M.hl2,M.sr.take q,M.lr⟩
theorem Mst.store {lo lo2 lb lc:Nat} {w:World} {sv y:Value} {vs us:List Value} {S L:List (List Int)} {r:List Int} (M:Mst lo lo2 w sv (.slice (some ⟨lb,0,none⟩) us.length lc) vs us S L) (j:Nat) (hy:OwnInts lo w y r) :
  Mst lo lo2 (w.setCell ⟨lb,j,none⟩ y) sv (.slice (some ⟨lb,0,none⟩) us.length lc) vs (us.set j y) S (L.set j r)∧Below lo w (w.setCell ⟨lb,j,none⟩ y):=by
 have hsto:=World.ownsRow.stored M.lo' j y;have kk:KeepI w (w.setCell ⟨lb,j,none⟩ y):=KeepI.setCell _ (fun cur fr=>ownsRow.int M.lo' (by decide) lb cur fr rfl);have hsl:=World.ownsRow.lt M.so;have hll:=World.ownsRow.lt M.lo' lb rfl
 have hl2:(us.set j y).length=us.length:=by simp
 refine ⟨⟨M.so.kept hsto.2 ?_,by rw [hl2];exact hsto.1,M.sep,M.hl,by have:=M.hl2;simpa using this,M.sr.keepI kk,(M.lr.keepI kk).set j (hy.keepI kk)⟩,Below.setCell (Below.refl _ _) hll.1 _⟩
 cases hk:sv.ownBlock with
 | none=>exact .inl rfl
 | some k=>exact .inr (fun e=>by injection e with e;have h1:=M.sep lb rfl;have h2:=(hsl k hk).1;omega)
theorem ownsRow.size {w:World} {lo:Nat} {e:TypeId} {n:Nat} {v:Value} {xs:List Value} (h:w.ownsRow lo e 1 v n xs):xs.length=n:=by have:=h.1;omega
theorem sRunGrid_yes (lo hi lo' hi':Nat) (v u:Value) (c:Cod) (g:Grd) (w:World) (hv:c.R lo hi w v) (hh:hi≤w.heap.size) (hu:g.R lo' hi' w u) (hh':hi'≤w.heap.size) (hL:c.ls.length≤2000000) (hyes:(c.runB&&g.okB)=true) :
  Calls Tryz.prog 127 #[v,u] w fun e w'=>∃r,e = .returned (.tuple #[r,.bool true])∧SS 0 w'.heap.size w' r (c.out g)∧Ext w w':=by
 have HV:=hid hv;have HU:=hid hu;obtain ⟨a1,c1,a2,c2,rfl,HI,-⟩:=hv.form;obtain ⟨pu,tu,rfl,-,t64,l64,hp,ht⟩:=hu;clear hv;have k1:=HI.le;have k2:=HI.cap;simp only [Bool.and_eq_true] at hyes;obtain ⟨h1,h2⟩:=hyes;obtain ⟨n,hn,hnn,n1,n8,hok,htm9,hf9⟩:=Grd.parts h2
 have hnums:∀x∈c.xs,numB x=true:=by unfold Cod.runB at h1;simp at h1;exact h1.2
 have hdepS:c.depth.isSome=true:=by unfold Cod.runB at h1;simp at h1;exact h1.1
 have hlen3:c.xs.length≤300:=by
  have hdepS:=hdepS;unfold Cod.depth at hdepS
  split at hdepS
  ·assumption
  ·simp at hdepS
 have hout:runG n g.m g.f g.tm g.t c.xs [] (List.replicate c.ls.length [])=c.out g:=by unfold Cod.out;rw [hn];rfl
 have HG:=hid (show GridIn w.heap.size w n g.m pu tu g.f g.tm g.t from ⟨hp.wide (Nat.zero_le _) hh',⟨tu,rfl,l64,ht.wide (Nat.zero_le _) hh'⟩,hnn,n1,n8,hok,htm9,hf9⟩);have HD:=hid hdepS;have HN:=hid hnums;have HOUT:=hid hout;clear hp ht t64 l64 hnn hok htm9 hf9 hdepS hnums hout;rw [hn];replace hn:=hid hn;have x0:Ext w ((w.alloc (.cells #[.slice a1 c.xs.length c1,.slice a2 c.ls.length c2] 126)).alloc (.cells #[.int .i64 n,pu,.int .i64 g.tm,.int .i64 g.t.log,tu] 135)):=X_;have cb:=(TBox.made w (.slice a1 c.xs.length c1) (.slice a2 c.ls.length c2) 126).ext ((Ext.refl _).alloc (.cells #[.int .i64 n,pu,.int .i64 g.tm,.int .i64 g.t.log,tu] 135));have gb:=GBox.made (w.alloc (.cells #[.slice a1 c.xs.length c1,.slice a2 c.ls.length c2] 126)) n pu g.tm g.t.log tu 135;simp only [World.size_alloc] at gb
 obtain ⟨W0,hW0⟩:∃W,(w.alloc (.cells #[.slice a1 c.xs.length c1,.slice a2 c.ls.length c2] 126)).alloc (.cells #[.int .i64 n,pu,.int .i64 g.tm,.int .i64 g.t.log,tu] 135)=W:=⟨_,rfl⟩
 rw [hW0] at x0 cb gb;have HCB:=hid cb;have HGB:=hid gb;have HX0:=hid x0;have HW0:=hid hW0;have hz0:=x0.size
 have hzW:w.heap.size+2=W0.heap.size:=by rw [←hW0];simp
 clear cb gb x0 hW0
 obtain ⟨dep,hdep⟩:∃b,c.depth.isSome=b:=⟨_,rfl⟩
 obtain ⟨dm,hdm⟩:∃b,c.depth.getD 0=b:=⟨_,rfl⟩
 have HDP:=hid hdep;have HDM:=hid hdm;clear hdep hdm;go_enter Tryz.func127,Tryz.ntmps127;go_wp2_with fail;rw [HW0.out];refine (sDepth_val ⟨HDM.out,HDP.out⟩ lo hi _ _ (HV.out.ext hh HX0.out) (by omega) hL).mono ?_;rintro e w1 ⟨rfl,x1⟩;have hCB:=HCB.out.ext x1;have HX1:=hid x1;have q0:=hCB.lt;have q1:=hCB.c0;have q2:=hCB.c1;clear hCB x1;go_wp2
 go_loopw [7,26] (fun okv i wr=>∃k:Nat,k≤c.xs.length∧i = .int .i64 k∧okv = .bool (dep&&(c.xs.take k).all numB)∧Ext W0 wr) (fun _ i _=>c.xs.length - (intOf i).toNat)
 case atStart=>exact ⟨0,by omega,rfl,by simp,HX1.out⟩
 case round=>
  clear q0 q1 q2 HX1;obtain ⟨k,hk,rfl,rfl,hx⟩:=hrel
  by_cases hlt:k<c.xs.length
  ·obtain ⟨b,off,op,s,num,rfl,hb1,hbw,hdrop,hget,io,inn,y0,y1,y2⟩:=HI.at hlt (HX0.out.trans hx) hh
   have hk2:c.xs[k]=⟨op,s,num⟩:=by have:=hget;rw [List.getElem?_eq_getElem hlt] at this;exact Option.some.inj this
   have hnx:(dep&&(c.xs.take (k+1)).all numB)=((dep&&(c.xs.take k).all numB)&&inB num (-1000000000) 1000000000):=by
    rw [List.take_succ_eq_append_getElem hlt,List.all_append,hk2,Bool.and_assoc];simp [numB]
   obtain ⟨cur,hcur⟩:∃b,(dep&&(c.xs.take k).all numB)=b:=⟨_,rfl⟩
   rw [hcur] at hnx ⊢;have HNX:=hid hnx;have HX:=hid hx;clear hnx hcur hk2 hget hdrop hx
   cases cur
   ·go_wp2
    go_roundw
    case rel=>exact ⟨k+1,by omega,by go_num,by rw [HNX.out];rfl,by have hx:=HX.out;exact S_⟩
    case measure=>simp [intOf];omega
   ·cases hnb:inB num (-1000000000) 1000000000
    ·have HNB:=hid hnb
     clear hnb;go_wp2_with fail;refine (l01In_val HNB.out _).mono ?_;rintro e w2 ⟨rfl,rfl⟩;go_wp2;go_roundw
     case rel=>exact ⟨k+1,by omega,by go_num,by rw [HNX.out,HNB.out];rfl,by have hx:=HX.out;exact S_⟩
     case measure=>simp [intOf];omega
    ·have HNB:=hid hnb
     clear hnb;go_wp2_with fail;refine (l01In_val HNB.out _).mono ?_;rintro e w2 ⟨rfl,rfl⟩;go_wp2;go_roundw
     case rel=>exact ⟨k+1,by omega,by go_num,by rw [HNX.out,HNB.out];rfl,by have hx:=HX.out;exact S_⟩
     case measure=>simp [intOf];omega
  ·obtain rfl:k=c.xs.length:=by omega
   rw [List.take_length]
   have hrb:(dep&&c.xs.all numB)=c.runB:=by rw [←HDP.out];rfl
   rw [hrb];have hgb:=HGB.out.ext hx;have hcb:=HCB.out.ext hx;have HX:=hid hx;have g0:=hgb.lt;have g1:=hgb.c0;have g2:=hgb.c1;have g3:=hgb.c2;have g4:=hgb.c3;have g5:=hgb.c4;have q0:=hcb.lt;have q1:=hcb.c0;have q2:=hcb.c1;clear hrb hx hgb hcb;rw [h1];have hzz:=HX.out.size;go_wp2_with fail;refine (sValid_val h2 lo' hi' _ _ (by have:=HU.out.ext hh' (HX0.out.trans HX.out);rw [hn.out] at this;exact this) (by omega)).mono ?_;rintro e w2 ⟨rfl,x2⟩;have X2:=HX.out.trans x2;have hgb:=HGB.out.ext X2;have hcb:=HCB.out.ext X2;clear g0 g1 g2 g3 g4 g5 q0 q1 q2;have g0:=hgb.lt;have g1:=hgb.c0;have g2:=hgb.c1;have g3:=hgb.c2;have g4:=hgb.c3;have g5:=hgb.c4;have q0:=hcb.lt;have q1:=hcb.c0;have q2:=hcb.c1;have HX2:=hid X2;have hz2:=X2.size;clear hgb hcb X2 x2;obtain ⟨i0,hi0,hz0',hz1',hz2'⟩:=info_parts info_ints;go_wp2_with (at_make;refine wpList_make_row _ rfl _ _ 201 rfl 25 i0 (.slice none 0 0) Tryz.underlying201 hi0 hz0' hz1' rfl .i64 .i64 c.ls.length rfl rfl (by rw [hz2'];omega) (by omega) ?_);clear hi0 hz0' hz1' hz2'
   have M0:=hid (show Mst W0.heap.size (w2.heap.size+1) ((w2.alloc (.cells (madeCells #[.slice none 0 0] c.ls.length) 25)).alloc (.cells #[] 25)) (.slice (some ⟨w2.heap.size+1,0,none⟩) 0 0) (.slice (some ⟨w2.heap.size,0,none⟩) c.ls.length c.ls.length) [] (List.replicate c.ls.length (.slice none 0 0)) [] (List.replicate c.ls.length []) from by
    have hf:=ownsRow.fresh w2 W0.heap.size c.ls.length hz2 hL;refine ⟨?_,hf.alloc _,fun k hk=>by simp [Value.ownBlock] at hk;omega,by omega,by simp,Rws.nil _ _,Rws.nils _ _ _⟩;have:=hnew (w2.alloc (.cells (madeCells #[.slice none 0 0] c.ls.length) 25)) (.cells #[] 25)
    exact ownsRow.empty (Nat.le_refl _) (by simpa using this))
   have X3:=hid (show Ext W0 ((w2.alloc (.cells (madeCells #[.slice none 0 0] c.ls.length) 25)).alloc (.cells #[] 25)) from (HX2.out.alloc _).alloc _)
   have hWw:w.heap.size≤W0.heap.size:=by omega
   clear g0 g1 g2 g3 g4 g5 q0 q1 q2
   go_loopw [11,52] (fun sv i wr=>∃(k:Nat) (vs us:List Value) (S L:List (List Int)),k≤c.xs.length∧i = .int .i64 k∧Mst W0.heap.size (w2.heap.size+1) wr sv (.slice (some ⟨w2.heap.size,0,none⟩) c.ls.length c.ls.length) vs us S L∧(∃g cap,sv = .slice (some ⟨g,0,none⟩) vs.length cap)∧Okst c.ls.length g.m (c.xs.drop k) S L∧runG n g.m g.f g.tm g.t (c.xs.drop k) S L=c.out g∧S.length≤k∧Ext W0 wr) (fun _ i _=>c.xs.length - (intOf i).toNat)
   case atStart=>exact ⟨0,_,_,_,_,by omega,rfl,M0.out,⟨_,_,rfl⟩,by rw [List.drop_zero];exact Okst.start HD.out,by rw [List.drop_zero];exact HOUT.out,by simp,X3.out⟩
   case round=>
    clear M0 X3;obtain ⟨k,vs,us,S,L,hk,rfl,M,⟨gs,gc,rfl⟩,ok,hrun,hSk,hx⟩:=hrel
    by_cases hlt:k<c.xs.length
    ·obtain ⟨b,off,op,s,num,rfl,hb1,hbw,hdrop,hget,io,inn,y0,y1,y2⟩:=HI.at hlt (HX0.out.trans hx) hh
     rw [hdrop] at ok hrun;have hnb:numB ⟨op,s,num⟩=true:=HN.out _ (List.mem_of_getElem? hget);have hwf:=ok.wf;obtain ⟨p,hp,hpc⟩:=ok.pops;have hloc:=ok.local;have HK:=hid (ok.next (t:=g.t) HG.out.hm hnb HG.out.f9 HG.out.tm9);have hgood:=ok.rows;have hlenL:=ok.len;simp only at hwf hp hpc hloc
     obtain ⟨q,hqd⟩:∃q,cutI op s S=q:=⟨_,rfl⟩
     rw [hqd] at hpc;have hvl:=M.sr.len;have hul:=M.lr.len;rw [←hvl] at hpc hSk;replace hvl:=hid hvl;replace hul:=hid hul
     obtain ⟨qv,hqv⟩:∃q,pushI op=q:=⟨_,rfl⟩
     have hnum9:S9 num:=inB_iff.1 (show inB num (-1000000000) 1000000000=true from hnb);obtain ⟨kc1,kc2⟩:=ownsRow.caps M.so;obtain ⟨hgs1,hgs2⟩:=World.ownsRow.lt M.so gs rfl
     have hsub:(vs.length:Int) - p=q:=by omega
     have hsub2:vs.length - q=p:=by omega
     have y00:Ext wr (wr.alloc (.cells #[.int .i64 op,.string s,.int .i64 num] 197)):=X_;have HX:=hid hx;have HM:=hid (M.ext y00);have HQ:=hid hqd;have HRUN:=hid hrun;have HP:=hid hp;have HQV:=hid hqv;have HWF:=hid hwf;have HGO:=hid hgood;have HLO:=hid hloc
     have hdl:(vs.drop q).length=p:=by simp;omega
     have HDL:=hid hdl
     have HCE:Hid (∀(w':World),Ext wr w'→∀i y,(vs.drop q)[i]?=some y→w'.cell? ⟨gs,q+i,none⟩=some y):=by
      intro w' x' i y hy;rw [List.getElem?_drop] at hy;have hlt2:=(List.getElem?_eq_some_iff.1 hy).1;rw [x'.cells.1 _ _ hgs2,World.ownsRow.cellAt M.so (q+i) (by omega)];exact hy
     have HON:Hid (∀y∈vs.drop q,y.oneCell'=true):=fun y hy=>M.sr.one y (List.mem_of_mem_drop hy);have hcb:=HCB.out.ext hx;have hgb:=HGB.out.ext hx;have b0:=hcb.lt;have b1:=hcb.c0;have b2:=hcb.c1;have g0:=hgb.lt;have g1:=hgb.c0;have g2:=hgb.c1;have g3:=hgb.c2;have g4:=hgb.c3;have g5:=hgb.c4;have hz4:=hx.size;clear M ok hrun hget hdrop hx hnb hwf hp hqv hgood hloc hqd hdl hcb hgb;go_wp2_with fail;refine (sEff_wf _ _ _ _ _ c.ls.length hL op s num _ HWF.out HP.out HQV.out).mono ?_;rintro e w4 ⟨rfl,x4⟩;have x5:Ext wr w4:=y00.trans x4;have M4:=HM.out.ext x4;have hcb:=HCB.out.ext (HX.out.trans x5);have hgb:=HGB.out.ext (HX.out.trans x5);have hxb:=(XBox.made wr op s num 197).ext x4;have HM4:=hid M4;have HX4:=hid x5;have HXB4:=hid hxb;have hz5:=x5.size;clear b0 b1 b2 g0 g1 g2 g3 g4 g5 y0 y1 y2 HM M4;have b0:=hcb.lt;have b1:=hcb.c0;have b2:=hcb.c1;have g0:=hgb.lt;have g1:=hgb.c0;have g2:=hgb.c1;have g3:=hgb.c2;have g4:=hgb.c3;have g5:=hgb.c4;have y0:=hxb.lt;have y1:=hxb.c0;have y2:=hxb.c1;have y3:=hxb.c2;clear hcb hgb hxb x4 x5 y00
     have hbx:=hid (show ∀w5,Ext w4 w5→GBox w5 (w.heap.size+1) n pu g.tm g.t.log tu∧XBox w5 wr.heap.size op s num from fun w5 x5=>⟨(HGB.out.ext (HX.out.trans (HX4.out.trans x5))),by
      have hq:=HXB4.out.ext x5
      exact hq⟩)
     by_cases hp0:p=0
     ·subst hp0
      have hops:op=1∨op=2∨op=3:=by
       have hw:=HWF.out;have hpp:=HP.out;have hab:=arity_bd s
       by_cases h1:1≤op∧op≤7
       ·rcases (show op=1∨op=2∨op=3∨op=4∨op=5∨op=6∨op=7 by omega) with rfl|rfl|rfl|rfl|rfl|rfl|rfl
        ·exact .inl rfl
        ·exact .inr (.inl rfl)
        ·exact .inr (.inr rfl)
        ·exact absurd hpp (by have:popsI 4 s=1:=rfl;omega)
        ·exact absurd hpp (by have:popsI 5 s=1:=rfl;omega)
        ·exact absurd hpp (by have:popsI 6 s=2:=rfl;omega)
        ·exact absurd hpp (by have:popsI 7 s=arity s:=rfl;omega)
       ·unfold wfI at hw
        rw [if_neg (by omega),if_neg (by omega),if_neg (by omega),if_neg (by omega),if_neg (by omega),if_neg (by omega),if_neg (by omega)] at hw;cases hw
      have h4:(op==4)=false:=by rcases hops with rfl|rfl|rfl <;> rfl
      have h4n:op≠4:=by rintro rfl;cases h4
      obtain rfl:q=vs.length:=by omega
      have hops2:=hid hops
      have hr3:Hid (op=3→∃j:Nat,num=j∧∃xs,L[j]?=some xs∧good g.m xs):=fun h3=>by
       obtain ⟨j,hj,_⟩:=wf_at HWF.out (.inl h3);obtain ⟨xs,hx,hgx⟩:=HLO.out h3;rw [hj,Int.toNat_natCast] at hx;exact ⟨j,hj,xs,hx,hgx⟩
      clear hops
      have eS:Hid (nextS n g.m g.f g.tm g.t ⟨op,s,num⟩ S L=S.take vs.length++[rowI n g.m g.f g.tm g.t op s num (S.drop vs.length) L]):=by
       unfold nextS;rw [if_neg h4n,HQ.out]
       rfl
      have eL:Hid (nextL ⟨op,s,num⟩ S L=L):=by unfold nextL;rw [if_neg h4n];rfl
      obtain ⟨row,hrow⟩:∃r,rowI n g.m g.f g.tm g.t op s num (S.drop vs.length) L=r:=⟨_,rfl⟩
      have HROW:=hid hrow;clear hrow
      by_cases hgc:gc=vs.length
      ·subst hgc
       go_wp2_with (at_builtin;refine wpList_append_rows _ rfl _ _ rfl w4.heap.size (.slice (some ⟨w4.heap.size,0,none⟩) 0 0) 0 [] rfl (ownsRow.empty (Nat.le_refl _) (heap_alloc_new w4 _)) [] (fun y h=>by cases h) _ _ _ rfl (fun i y h=>by simp at h) (by simp) (by simp) ?_;intro v5 w5 hown5 hg5;have X5:Ext w4 w5:=((Ext.refl w4).alloc _).grown hg5 (fun k e=>by simp [Value.ownBlock] at e;omega);obtain ⟨va5,vc5,rfl⟩:=ownsRow.form hown5;obtain ⟨⟨u0,u1,u2,u3,u4,u5⟩,⟨t0,t1,t2,t3⟩⟩:=hbx.out w5 X5;have hz6:=X5.size);have M5:=HM4.out.ext X5;have hfl:=sFill_any (args:=S.drop vs.length) (lo:=w.heap.size) (lo':=w5.heap.size) (op:=op) (s:=s) (num:=num) (HG.out.step (HX0.out.trans (HX.out.trans (HX4.out.trans X5)))) (by omega) (ownsRow.ss M5.lo' M5.lr) (Nat.le_refl _) hnum9 hops2.out hr3.out;rw [HROW.out] at hfl;refine hfl.mono ?_;rintro e w6 ⟨r,rfl,hr,x6⟩;obtain ⟨ra,rc,rfl,_⟩:=hr.form;have M6:=hid (M5.ext x6);have hr6:=hid (hr.low (show W0.heap.size≤w5.heap.size by omega));have X6:=hid ((HX.out.trans (HX4.out.trans X5)).trans x6);have hz7:=x6.size;clear hfl M5 hr x6 u0 u1 u2 u3 u4 u5 t0 t1 t2 t3 hown5 hg5 X5;go_wp2_with (at_builtin;refine wpList_append_row _ rfl _ _ rfl (w2.heap.size+1) _ vs.length vs rfl (World.ownsRow.alloc M6.out.so _) (.slice ra row.length rc) rfl w6.heap.size rfl (by simp [go_sem]) (by omega) (by have:=M6.out.hl2;simp;omega) ?_;intro v7 w7 hown7 hg7;obtain ⟨g7,c7,rfl,_,_⟩:=ownsRow.form1 hown7 (by omega));have MB:=(M6.out.ext ((Ext.refl w6).alloc (.cells #[.slice ra row.length rc] 25))).push hown7 hg7 (hr6.out.ext ((Ext.refl w6).alloc (.cells #[.slice ra row.length rc] 25)));have HMB:=hid MB;clear MB hown7 hg7;go_wp2;go_roundw
       case rel=>
        refine ⟨k+1,vs++[.slice ra row.length rc],us,nextS n g.m g.f g.tm g.t ⟨op,s,num⟩ S L,nextL ⟨op,s,num⟩ S L,by omega,by go_num,?_,⟨g7,c7,by simp⟩,HK.out,HRUN.out,?_,Below.trans (X6.out.alloc _) HMB.out.2⟩
        ·have hS:S.take vs.length=S:=by rw [hvl.out,List.take_length]
         rw [eS.out,eL.out,HROW.out,hS];exact HMB.out.1
        ·have hv:=hvl.out
         rw [eS.out,List.length_append,List.length_take,List.length_singleton];omega
       case measure=>simp [intOf];omega
      ·skip
       go_wp2_with (at_builtin;refine wpList_append_rows _ rfl _ _ rfl w4.heap.size (.slice (some ⟨w4.heap.size,0,none⟩) 0 0) 0 [] rfl (ownsRow.empty (Nat.le_refl _) (heap_alloc_new w4 _)) [] (fun y h=>by cases h) _ _ _ rfl (fun i y h=>by simp at h) (by simp) (by simp) ?_;intro v5 w5 hown5 hg5;have X5:Ext w4 w5:=((Ext.refl w4).alloc _).grown hg5 (fun k e=>by simp [Value.ownBlock] at e;omega);obtain ⟨va5,vc5,rfl⟩:=ownsRow.form hown5;obtain ⟨⟨u0,u1,u2,u3,u4,u5⟩,⟨t0,t1,t2,t3⟩⟩:=hbx.out w5 X5;have hz6:=X5.size);have M5:=HM4.out.ext X5;have hfl:=sFill_any (args:=S.drop vs.length) (lo:=w.heap.size) (lo':=w5.heap.size) (op:=op) (s:=s) (num:=num) (HG.out.step (HX0.out.trans (HX.out.trans (HX4.out.trans X5)))) (by omega) (ownsRow.ss M5.lo' M5.lr) (Nat.le_refl _) hnum9 hops2.out hr3.out;rw [HROW.out] at hfl;refine hfl.mono ?_;rintro e w6 ⟨r,rfl,hr,x6⟩;obtain ⟨ra,rc,rfl,_⟩:=hr.form;have M6:=hid (M5.ext x6);have hr6:=hid (hr.low (show W0.heap.size≤w5.heap.size by omega));have X6:=hid ((HX.out.trans (HX4.out.trans X5)).trans x6);have hz7:=x6.size;clear hfl M5 hr x6 u0 u1 u2 u3 u4 u5 t0 t1 t2 t3 hown5 hg5 X5;go_wp2_with (at_builtin;refine wpList_append_row _ rfl _ _ rfl (w2.heap.size+1) _ vs.length vs rfl (World.ownsRow.alloc M6.out.so _) (.slice ra row.length rc) rfl w6.heap.size rfl (by simp [go_sem]) (by omega) (by have:=M6.out.hl2;simp;omega) ?_;intro v7 w7 hown7 hg7;obtain ⟨g7,c7,rfl,_,_⟩:=ownsRow.form1 hown7 (by omega));have MB:=(M6.out.ext ((Ext.refl w6).alloc (.cells #[.slice ra row.length rc] 25))).push hown7 hg7 (hr6.out.ext ((Ext.refl w6).alloc (.cells #[.slice ra row.length rc] 25)));have HMB:=hid MB;clear MB hown7 hg7;go_wp2;go_roundw
       case rel=>
        refine ⟨k+1,vs++[.slice ra row.length rc],us,nextS n g.m g.f g.tm g.t ⟨op,s,num⟩ S L,nextL ⟨op,s,num⟩ S L,by omega,by go_num,?_,⟨g7,c7,by simp⟩,HK.out,HRUN.out,?_,Below.trans (X6.out.alloc _) HMB.out.2⟩
        ·have hS:S.take vs.length=S:=by rw [hvl.out,List.take_length]
         rw [eS.out,eL.out,HROW.out,hS];exact HMB.out.1
        ·have hv:=hvl.out
         rw [eS.out,List.length_append,List.length_take,List.length_singleton];omega
       case measure=>simp [intOf];omega
     ·have hgcn : ¬gc=q:=by omega
      have hqv2:q≤vs.length:=by omega
      have hp1:1≤p:=by omega
      by_cases h4:op=4
      ·subst h4
       have hp1':p=1:=by
        have:=HP.out;have e:popsI 4 s=1:=rfl;omega
       have hq1:q+1=vs.length:=by omega
       replace hp1':=hid hp1';obtain ⟨j,rfl,hjL⟩:=wf_at HWF.out (.inr rfl);obtain ⟨y,hy1,hy2⟩:=snoc_drop vs q hq1
       obtain ⟨row,hrow⟩:∃r,S.getD q []=r:=⟨_,rfl⟩
       have hyr:OwnInts W0.heap.size w4 y row:=by
        have h1:S[q]?=some row:=by
         rw [←hrow,List.getD,List.getElem?_eq_getElem (by have:=hvl.out;omega)]
         rfl
        have h2:vs[q]?=some y:=by
         have:(vs.drop q)[0]?=some y:=by rw [hy1];rfl
         rwa [List.getElem?_drop,Nat.add_zero] at this
        exact HM4.out.sr.own q y row h2 h1
       obtain ⟨ya,yc,rfl,_⟩:=hyr.form;have HYR:=hid hyr;have HY1:=hid hy1
       have hul2:us.length=c.ls.length:=by have:=hul.out;have:=HM4.out.lr.len;omega
       have hju:j<us.length:=by omega
       obtain ⟨y0,hy0⟩:∃y,us[j]?=some y:=⟨us[j],by simp [hju]⟩
       have HY0:=hid hy0;have HUL:=hid hul2
       have hb0:Hid (∀(w':World),Ext w4 w'→w'.cell? ⟨w2.heap.size,j,none⟩=some y0∧w'.frozen? ⟨w2.heap.size,j,none⟩=false∧w2.heap.size<w'.heap.size):=fun w' x'=>by
        have M':=(HM4.out.ext x').lo';have hb:=(World.ownsRow.lt M' w2.heap.size rfl).2;rw [HUL.out] at M';exact ⟨(World.ownsRow.cellAt M' j (by omega)).trans HY0.out,World.ownsRow.frozenAt M' j,hb⟩
       have eS:Hid (nextS n g.m g.f g.tm g.t ⟨4,s,j⟩ S L=S.take q):=by
        unfold nextS;rw [if_pos rfl,HQ.out]
        rfl
       have eL:Hid (nextL ⟨4,s,j⟩ S L=L.set j row):=by
        unfold nextL;rw [if_pos rfl,HQ.out,hrow,Int.toNat_natCast]
        rfl
       have hRR:=hid hrow;clear hyr hy1 hy2 hul2 hy0 hrow;go_wp2_with (at_builtin;refine wpList_append_rows _ rfl _ _ rfl w4.heap.size (.slice (some ⟨w4.heap.size,0,none⟩) 0 0) 0 [] rfl (ownsRow.empty (Nat.le_refl _) (heap_alloc_new w4 _)) (vs.drop q) HON.out gs q (gc - q) (Eq.trans (b:=Value.slice (some ⟨gs,q,none⟩) p (gc - q)) rfl (by rw [HDL.out])) (HCE.out _ (HX4.out.alloc _)) (by rw [HDL.out];omega) (by simp) ?_;intro v5 w5 hown5 hg5;have X5:Ext w4 w5:=((Ext.refl w4).alloc _).grown hg5 (fun k e=>by simp [Value.ownBlock] at e;omega);rw [HDL.out,Nat.zero_add,List.nil_append] at hown5;obtain ⟨gb5,vc5,rfl,hgb1,hgb2⟩:=ownsRow.form1 hown5 (by omega);obtain ⟨⟨u0,u1,u2,u3,u4,u5⟩,⟨t0,t1,t2,t3⟩⟩:=hbx.out w5 X5;have hz6:=X5.size ;rw [HY1.out] at hown5;have z0:=World.ownsRow.cellAt hown5 0 (by omega);simp at z0;obtain ⟨b0,b1,b2⟩:=hb0.out w5 X5);refine wp_region_stages [([0,1,2,3,4,5,6],7)] 7 w5.heap.size (by kernel_rfl) (by kernel_rfl) ?_;refine st_ fun K hK=>?_;go_wp2_with fail;go_wp2_with fail;refine hK _ _ (.inl (by trivial)) ?_;clear hK K;refine wpStages_nil ?_;have M5:=HM4.out.ext X5;have MS:=M5.shrink q hqv2;have hyr5:=HYR.out.ext X5;rw [←HUL.out] at MS;have MT:=MS.store j hyr5;have HMT:=hid MT;have X6:=hid ((HX.out.trans (HX4.out.trans X5)));clear M5 MS MT hyr5 X5 hown5 hg5;go_wp2;go_roundw
       case rel=>
        refine ⟨k+1,vs.take q,us.set j (.slice ya row.length yc),nextS n g.m g.f g.tm g.t ⟨4,s,j⟩ S L,nextL ⟨4,s,j⟩ S L,by omega,by go_num,?_,⟨gs,gc,by rw [List.length_take,Nat.min_eq_left hqv2]⟩,HK.out,HRUN.out,?_,Below.trans X6.out ?_⟩
        ·rw [eS.out,eL.out]
         have:=HMT.out.1;rw [HUL.out] at this;exact this.ext (Ext.drew (Ext.refl _))
        ·rw [eS.out,List.length_take]
         omega
        ·exact HMT.out.2.drew
       case measure=>simp [intOf];omega
      ·have hops:op=5∨op=6∨op=7:=by
        have hw:=HWF.out;have hpp:=HP.out
        by_cases h1:1≤op∧op≤7
        ·rcases (show op=1∨op=2∨op=3∨op=4∨op=5∨op=6∨op=7 by omega) with rfl|rfl|rfl|rfl|rfl|rfl|rfl
         ·exact absurd hpp (by have:popsI 1 s=0:=rfl;omega)
         ·exact absurd hpp (by have:popsI 2 s=0:=rfl;omega)
         ·exact absurd hpp (by have:popsI 3 s=0:=rfl;omega)
         ·exact absurd rfl h4
         ·exact .inl rfl
         ·exact .inr (.inl rfl)
         ·exact .inr (.inr rfl)
        ·unfold wfI at hw
         rw [if_neg (by omega),if_neg (by omega),if_neg (by omega),if_neg (by omega),if_neg (by omega),if_neg (by omega),if_neg (by omega)] at hw;cases hw
       have eS:Hid (nextS n g.m g.f g.tm g.t ⟨op,s,num⟩ S L=S.take q++[rowI n g.m g.f g.tm g.t op s num (S.drop q) L]):=by
        unfold nextS;rw [if_neg h4,HQ.out]
        rfl
       have eL:Hid (nextL ⟨op,s,num⟩ S L=L):=by unfold nextL;rw [if_neg h4];rfl
       have h4b:(op==4)=false:=beq_eq_false_iff_ne.2 h4;have hp0b:((p:Int)==0)=false:=beq_eq_false_iff_ne.2 (by omega);have hga:Hid (∀r∈S.drop q,good g.m r):=fun r hr=>HGO.out r (List.mem_of_mem_drop hr)
       have hal:Hid ((S.drop q).length=p):=by have:=hvl.out;show (S.drop q).length=p;rw [List.length_drop];omega
       obtain ⟨row,hrow⟩:∃r,rowI n g.m g.f g.tm g.t op s num (S.drop q) L=r:=⟨_,rfl⟩
       have HROW:=hid hrow;have HOPS:=hid hops;clear hrow hops;go_wp2_with (at_builtin;refine wpList_append_rows _ rfl _ _ rfl w4.heap.size (.slice (some ⟨w4.heap.size,0,none⟩) 0 0) 0 [] rfl (ownsRow.empty (Nat.le_refl _) (heap_alloc_new w4 _)) (vs.drop q) HON.out gs q (gc - q) (Eq.trans (b:=Value.slice (some ⟨gs,q,none⟩) p (gc - q)) rfl (by rw [HDL.out])) (HCE.out _ (HX4.out.alloc _)) (by rw [HDL.out];omega) (by simp) ?_;intro v5 w5 hown5 hg5;have X5:Ext w4 w5:=((Ext.refl w4).alloc _).grown hg5 (fun k e=>by simp [Value.ownBlock] at e;omega);rw [HDL.out,Nat.zero_add,List.nil_append] at hown5;obtain ⟨gb5,vc5,rfl,hgb1,hgb2⟩:=ownsRow.form1 hown5 (by omega);obtain ⟨⟨u0,u1,u2,u3,u4,u5⟩,⟨t0,t1,t2,t3⟩⟩:=hbx.out w5 X5;have hz6:=X5.size);have M5:=HM4.out.ext X5;have hss:=ownsRow.ss hown5 ((M5.sr).drop q);have hfl:=sApply_any (L:=L) (lo:=w.heap.size) (lo':=w5.heap.size) (op:=op) (s:=s) (num:=num) (HG.out.step (HX0.out.trans (HX.out.trans (HX4.out.trans X5)))) (by omega) hss (Nat.le_refl _) HOPS.out HWF.out HP.out hal.out hga.out;rw [HROW.out] at hfl;refine hfl.mono ?_;rintro e w6 ⟨r,rfl,hr,x6⟩;obtain ⟨ra,rc,rfl,_⟩:=hr.form
       have htl:(vs.take q).length=q:=by rw [List.length_take,Nat.min_eq_left hqv2]
       have M6:=(M5.shrink q hqv2).ext x6;have hso:=M6.so;rw [htl] at hso;have HSO:=hid hso;have HM6:=hid M6;have HTL:=hid htl;have hr6:=hid (hr.low (show W0.heap.size≤w5.heap.size by omega));have X6:=hid ((HX.out.trans (HX4.out.trans X5)).trans x6);have hz7:=x6.size;clear hfl M5 M6 hso htl hr x6 u0 u1 u2 u3 u4 u5 t0 t1 t2 t3 hown5 hg5 X5 hss;go_wp2_with (at_builtin;refine wpList_append_row _ rfl _ _ rfl (w2.heap.size+1) _ q (vs.take q) rfl (World.ownsRow.alloc HSO.out _) (.slice ra row.length rc) rfl w6.heap.size rfl (by simp [go_sem]) (by omega) (by have:=HM6.out.hl2;simp;omega) ?_;intro v7 w7 hown7 hg7;obtain ⟨g7,c7,rfl,_,_⟩:=ownsRow.form1 hown7 (by omega));have MB:=(HM6.out.ext ((Ext.refl w6).alloc (.cells #[.slice ra row.length rc] 25))).push (by rw [HTL.out];exact hown7) hg7 (hr6.out.ext ((Ext.refl w6).alloc (.cells #[.slice ra row.length rc] 25)));have HMB:=hid MB;clear MB hown7 hg7;go_wp2;go_roundw
       case rel=>
        refine ⟨k+1,vs.take q++[.slice ra row.length rc],us,nextS n g.m g.f g.tm g.t ⟨op,s,num⟩ S L,nextL ⟨op,s,num⟩ S L,by omega,by go_num,?_,⟨g7,c7,by rw [List.length_append,HTL.out];rfl⟩,HK.out,HRUN.out,?_,Below.trans (X6.out.alloc _) HMB.out.2⟩
        ·rw [eS.out,eL.out,HROW.out]
         exact HMB.out.1
        ·rw [eS.out,List.length_append,List.length_take,List.length_singleton]
         omega
       case measure=>simp [intOf];omega
    ·obtain rfl:k=c.xs.length:=by omega
     rw [List.drop_length] at hrun;have hrun':L=c.out g:=hrun;have hss:=ownsRow.ss M.lo' M.lr;rw [hrun'] at hss;have HSS:=hid hss;clear hrun hrun' hss M ok;go_wp2;refine bodyPost_ret (v:=.tuple #[.slice (some ⟨w2.heap.size,0,none⟩) c.ls.length c.ls.length,.bool true]) (by simp [results,Tryz.results127,go_sem]) rfl ⟨_,rfl,HSS.out,HX0.out.trans hx⟩
theorem sRunGrid_no (lo hi lo' hi':Nat) (v u:Value) (c:Cod) (g:Grd) (w:World) (hv:c.R lo hi w v) (hh:hi≤w.heap.size) (hu:g.R lo' hi' w u) (hh':hi'≤w.heap.size) (hL:c.ls.length≤2000000) (hno:(c.runB&&g.okB)=false) :
  Calls Tryz.prog 127 #[v,u] w fun e w'=>e = .returned (.tuple #[.slice none 0 0,.bool false])∧Ext w w':=by
 have HV:=hid hv;have HU:=hid hu;obtain ⟨a1,c1,a2,c2,rfl,HI,-⟩:=hv.form;obtain ⟨pu,tu,rfl,-,t64,l64,hp,ht⟩:=hu;clear hv;have k1:=HI.le;have k2:=HI.cap;have x0:Ext w ((w.alloc (.cells #[.slice a1 c.xs.length c1,.slice a2 c.ls.length c2] 126)).alloc (.cells #[.int .i64 g.n,pu,.int .i64 g.tm,.int .i64 g.t.log,tu] 135)):=X_;have cb:=(TBox.made w (.slice a1 c.xs.length c1) (.slice a2 c.ls.length c2) 126).ext ((Ext.refl _).alloc (.cells #[.int .i64 g.n,pu,.int .i64 g.tm,.int .i64 g.t.log,tu] 135));have gb:=GBox.made (w.alloc (.cells #[.slice a1 c.xs.length c1,.slice a2 c.ls.length c2] 126)) g.n pu g.tm g.t.log tu 135;simp only [World.size_alloc] at gb
 obtain ⟨W0,hW0⟩:∃W,(w.alloc (.cells #[.slice a1 c.xs.length c1,.slice a2 c.ls.length c2] 126)).alloc (.cells #[.int .i64 g.n,pu,.int .i64 g.tm,.int .i64 g.t.log,tu] 135)=W:=⟨_,rfl⟩
 rw [hW0] at x0 cb gb;have HCB:=hid cb;have HGB:=hid gb;have HX0:=hid x0;have HW0:=hid hW0;have hz0:=x0.size
 have hzW:w.heap.size+2=W0.heap.size:=by rw [←hW0];simp
 clear cb gb x0 hW0
 obtain ⟨dep,hdep⟩:∃b,c.depth.isSome=b:=⟨_,rfl⟩
 obtain ⟨dm,hdm⟩:∃b,c.depth.getD 0=b:=⟨_,rfl⟩
 have HDP:=hid hdep;have HDM:=hid hdm;clear hdep hdm;go_enter Tryz.func127,Tryz.ntmps127;go_wp2_with fail;rw [HW0.out];refine (sDepth_val ⟨HDM.out,HDP.out⟩ lo hi _ _ (HV.out.ext hh HX0.out) (by omega) hL).mono ?_;rintro e w1 ⟨rfl,x1⟩;have hCB:=HCB.out.ext x1;have HX1:=hid x1;have q0:=hCB.lt;have q1:=hCB.c0;have q2:=hCB.c1;clear hCB x1;go_wp2
 go_loopw [7,26] (fun okv i wr=>∃k:Nat,k≤c.xs.length∧i = .int .i64 k∧okv = .bool (dep&&(c.xs.take k).all numB)∧Ext W0 wr) (fun _ i _=>c.xs.length - (intOf i).toNat)
 case atStart=>exact ⟨0,by omega,rfl,by simp,HX1.out⟩
 case round=>
  clear q0 q1 q2 HX1;obtain ⟨k,hk,rfl,rfl,hx⟩:=hrel
  by_cases hlt:k<c.xs.length
  ·obtain ⟨b,off,op,s,num,rfl,hb1,hbw,hdrop,hget,io,inn,y0,y1,y2⟩:=HI.at hlt (HX0.out.trans hx) hh
   have hk2:c.xs[k]=⟨op,s,num⟩:=by have:=hget;rw [List.getElem?_eq_getElem hlt] at this;exact Option.some.inj this
   have hnx:(dep&&(c.xs.take (k+1)).all numB)=((dep&&(c.xs.take k).all numB)&&inB num (-1000000000) 1000000000):=by
    rw [List.take_succ_eq_append_getElem hlt,List.all_append,hk2,Bool.and_assoc];simp [numB]
   obtain ⟨cur,hcur⟩:∃b,(dep&&(c.xs.take k).all numB)=b:=⟨_,rfl⟩
   rw [hcur] at hnx ⊢;have HNX:=hid hnx;have HX:=hid hx;clear hnx hcur hk2 hget hdrop hx
   cases cur
   ·go_wp2
    go_roundw
    case rel=>exact ⟨k+1,by omega,by go_num,by rw [HNX.out];rfl,by have hx:=HX.out;exact S_⟩
    case measure=>simp [intOf];omega
   ·cases hnb:inB num (-1000000000) 1000000000
    ·have HNB:=hid hnb
     clear hnb;go_wp2_with fail;refine (l01In_val HNB.out _).mono ?_;rintro e w2 ⟨rfl,rfl⟩;go_wp2;go_roundw
     case rel=>exact ⟨k+1,by omega,by go_num,by rw [HNX.out,HNB.out];rfl,by have hx:=HX.out;exact S_⟩
     case measure=>simp [intOf];omega
    ·have HNB:=hid hnb
     clear hnb;go_wp2_with fail;refine (l01In_val HNB.out _).mono ?_;rintro e w2 ⟨rfl,rfl⟩;go_wp2;go_roundw
     case rel=>exact ⟨k+1,by omega,by go_num,by rw [HNX.out,HNB.out];rfl,by have hx:=HX.out;exact S_⟩
     case measure=>simp [intOf];omega
  ·obtain rfl:k=c.xs.length:=by omega
   rw [List.take_length]
   have hrb:(dep&&c.xs.all numB)=c.runB:=by rw [←HDP.out];rfl
   rw [hrb];have hgb:=HGB.out.ext hx;have hcb:=HCB.out.ext hx;have HX:=hid hx;have g0:=hgb.lt;have g1:=hgb.c0;have g2:=hgb.c1;have g3:=hgb.c2;have g4:=hgb.c3;have g5:=hgb.c4;have q0:=hcb.lt;have q1:=hcb.c0;have q2:=hcb.c1;clear hrb hx hgb hcb
   cases h1:c.runB
   ·go_wp2
    refine bodyPost_ret (v:=.tuple #[.slice none 0 0,.bool false]) (by simp [results,Tryz.results127,go_sem]) rfl ⟨rfl,HX0.out.trans HX.out⟩
   ·have h2:g.okB=false:=by rw [h1] at hno;simpa using hno
    have hzz:=HX.out.size;go_wp2_with fail;refine (sValid_val h2 lo' hi' _ _ (HU.out.ext hh' (HX0.out.trans HX.out)) (by omega)).mono ?_;rintro e w2 ⟨rfl,x2⟩;go_wp2;refine bodyPost_ret (v:=.tuple #[.slice none 0 0,.bool false]) (by simp [results,Tryz.results127,go_sem]) rfl ⟨rfl,(HX0.out.trans HX.out).trans x2⟩
theorem SS.kp {lo hi:Nat} {w w':World} {v:Value} {S:List (List Int)} (h:SS lo hi w v S) (k:Kp lo hi w w'):SS lo hi w' v S:=h.same k.same
def Cod.res (c:Cod) (g:Grd):List (List Int):=if (c.runB&&g.okB)=true then c.out g else []
theorem OwnSS.nil (lo:Nat) (w:World):OwnSS lo w (.slice none 0 0) []:=⟨[],World.ownsRow_nil _ _ _ _,⟨rfl,fun i v xs h=>by simp at h⟩,List.Pairwise.nil,fun j u h=>by simp at h⟩
theorem SS.nil (hi:Nat) (w:World):SS 0 hi w (.slice none 0 0) []:=⟨none,0,rfl,Nat.le_refl _,by unfold maxLen;omega,fun i xs h=>by simp at h⟩
theorem iRunGrid_one {b:Bool} {S:List (List Int)} (lo hi lo' hi':Nat) (v u:Value) (c:Cod) (g:Grd) (w:World) (hb:(c.runB&&g.okB)=b) (hS:c.res g=S) (hv:c.R lo hi w v) (hh:hi≤w.heap.size) (hu:g.R lo' hi' w u) (hh':hi'≤w.heap.size) (hL:c.small) :
  Calls Tryz.prog 160 #[v,u] w fun e w'=>∃r,e = .returned (.tuple #[r,.bool b])∧OwnSS w.heap.size w' r S∧Ext w w':=by
 have hL':c.ls.length≤2000000:=by have:=hL.2;omega
 subst hS;unfold Cod.res
 cases b
 ·rw [hb,if_neg (by decide)]
  exact (iRunGrid_no lo hi lo' hi' v u c g w hv hh hu hh' hL' hb).mono fun e w' ⟨h1,h2⟩=>⟨_,h1,OwnSS.nil _ _,h2⟩
 ·rw [hb,if_pos rfl]
  exact iRunGrid_yes lo hi lo' hi' v u c g w hv hh hu hh' hL' hb
theorem sRunGrid_one {b:Bool} {S:List (List Int)} (lo hi lo' hi':Nat) (v u:Value) (c:Cod) (g:Grd) (w:World) (hb:(c.runB&&g.okB)=b) (hS:c.res g=S) (hv:c.R lo hi w v) (hh:hi≤w.heap.size) (hu:g.R lo' hi' w u) (hh':hi'≤w.heap.size) (hL:c.small) :
  Calls Tryz.prog 127 #[v,u] w fun e w'=>∃r,e = .returned (.tuple #[r,.bool b])∧SS 0 w'.heap.size w' r S∧Ext w w':=by
 have hL':c.ls.length≤2000000:=by have:=hL.2;omega
 subst hS;unfold Cod.res
 cases b
 ·rw [hb,if_neg (by decide)]
  exact (sRunGrid_no lo hi lo' hi' v u c g w hv hh hu hh' hL' hb).mono fun e w' ⟨h1,h2⟩=>⟨_,h1,SS.nil _ _,h2⟩
 ·rw [hb,if_pos rfl]
  exact sRunGrid_yes lo hi lo' hi' v u c g w hv hh hu hh' hL' hb
theorem runG_small {L0 n m:Nat} {f:Nat→Int} {tm:Int} {t:Tex} (hm:n*n=m) (hf:∀i,i<m*5→S9 (f i)) (ht:S9 tm) :
  ∀(xs:List Ins) (S L:List (List Int)),(∀x∈xs,numB x=true)→Okst L0 m xs S L→(runG n m f tm t xs S L).length=L0∧∀r∈runG n m f tm t xs S L,r.length≤m:=by
 intro xs
 induction xs with
 | nil=>
  intro S L _ h;refine ⟨h.len,fun r hr=>?_⟩;obtain ⟨d,st,_,h2⟩:=h.run;obtain ⟨j,hj⟩:=List.mem_iff_getElem?.1 hr
  rcases h2 j r hj with ⟨_,h3⟩|⟨_,h3⟩
  ·have:=h3.1;omega
  ·rw [h3];simp
 | cons x r ih=>
  intro S L hn h;exact ih _ _ (fun y hy=>hn y (List.mem_cons_of_mem _ hy)) (h.next hm (hn x List.mem_cons_self) hf ht)
def ixL (s:List UInt8):List ByteArray→Int
 | []=>-1
 | x::r=>if x.toList=s then 0 else if ixL s r<0 then -1 else ixL s r+1
theorem ixL_bd (s:List UInt8):∀ls,-1≤ixL s ls∧ixL s ls<ls.length:=by
 intro ls
 induction ls with
 | nil=>simp [ixL]
 | cons x r ih=>
  simp only [ixL,List.length_cons]
  split
  ·omega
  ·split <;> omega
theorem ixL_at {s:List UInt8}:∀{ls:List ByteArray} {k:Nat} {y:ByteArray},ls[k]?=some y→y.toList=s→(∀j z,j<k→ls[j]?=some z→z.toList≠s)→ixL s ls=k:=by
 intro ls
 induction ls with
 | nil=>intro k y h;simp at h
 | cons x r ih=>
  intro k y h1 h2 h3
  cases k with
  | zero=>
   simp at h1;subst h1;simp [ixL,h2]
  | succ k=>
   have h0:=h3 0 x (by omega) rfl;have:=ih (k:=k) (by simpa using h1) h2 (fun j z hj hz=>h3 (j+1) z (by omega) (by simpa using hz));simp only [ixL,if_neg h0,this];rw [if_neg (by omega)];simp
theorem ixL_no {s:List UInt8}:∀{ls:List ByteArray},(∀j z,j<ls.length→ls[j]?=some z→z.toList≠s)→ixL s ls = -1:=by
 intro ls
 induction ls with
 | nil=>intro _;rfl
 | cons x r ih=>
  intro h;have h0:=h 0 x (by simp) rfl;have:=ih (fun j z hj hz=>h (j+1) z (by simp;omega) (by simpa using hz));simp [ixL,if_neg h0,this]
theorem iIndex_any (lo hi:Nat) (u:Value) (ls:List ByteArray) (s:ByteArray) (w:World) (hu:Strs lo hi w u ls) (hl:ls.length≤2000000) :
  Calls Tryz.prog 161 #[u,.string s] w fun e w'=>e = .returned (.int .i64 (ixL s.toList ls))∧w=w':=by
 obtain ⟨a,cap,rfl,HU⟩:=hu.open;have l1:=HU.le;have l2:=HU.cap;clear hu;go_enter Tryz.func161,Tryz.ntmps161;go_wp2
 go_loopw [8] (fun i wr=>∃k:Nat,k≤ls.length∧i = .int .i64 k∧wr=w∧∀j z,j<k→ls[j]?=some z→z.toList≠s.toList) (fun i _=>ls.length - (intOf i).toNat)
 case atStart=>exact ⟨0,by omega,rfl,rfl,fun j x h=>by omega⟩
 case round=>
  obtain ⟨k,hk,rfl,rfl,hno⟩:=hrel
  by_cases hlt:k<ls.length
  ·obtain ⟨b,off,rfl,hb1,hb2,hc⟩:=HU.at hlt
   have hget:ls[k]?=some ls[k]:=by simp [hlt]
   obtain ⟨y,hy⟩:∃y,ls[k]=y:=⟨_,rfl⟩
   rw [hy] at hc hget;clear hy
   by_cases he:(s.toList==y.toList)=true
   ·have hv:=hid (ixL_at hget (eq_of_beq he).symm hno)
    clear hno hget;go_wp2;go_ret;exact ⟨by first|(rw [hv.out];done)|(rw [hv.out];rfl),rfl⟩
   ·have HN:Hid (∀j z,j<k+1→ls[j]?=some z→z.toList≠s.toList):=hid (fun j z hj hz=>by
     by_cases hjk:j=k
     ·subst hjk
      rw [hget] at hz;injection hz with hz;subst hz;intro e;exact he (by rw [e];simp)
     ·exact hno j z (by omega) hz)
    clear hno hget;go_wp2;go_roundw
    case rel=>exact ⟨k+1,by omega,by go_num,by trivial,HN.out⟩
    case measure=>simp [intOf];omega
  ·obtain rfl:k=ls.length:=by omega
   have hv:=hid (ixL_no hno);clear hno;go_wp2;go_ret;exact ⟨by first|(rw [hv.out];done)|(rw [hv.out];rfl),rfl⟩
theorem sLocal_any (lo hi:Nat) (u:Value) (ls:List ByteArray) (s:ByteArray) (w:World) (hu:Strs lo hi w u ls) (hl:ls.length≤2000000) :
  Calls Tryz.prog 128 #[u,.string s] w fun e w'=>e = .returned (.int .i64 (ixL s.toList ls))∧w=w':=by
 obtain ⟨a,cap,rfl,HU⟩:=hu.open;have l1:=HU.le;have l2:=HU.cap;clear hu;go_enter Tryz.func128,Tryz.ntmps128;go_wp2
 go_loopw [9] (fun i wr=>∃k:Nat,k≤ls.length∧i = .int .i64 k∧wr=w∧∀j z,j<k→ls[j]?=some z→z.toList≠s.toList) (fun i _=>ls.length - (intOf i).toNat)
 case atStart=>exact ⟨0,by omega,rfl,rfl,fun j x h=>by omega⟩
 case round=>
  obtain ⟨k,hk,rfl,rfl,hno⟩:=hrel
  by_cases hlt:k<ls.length
  ·obtain ⟨b,off,rfl,hb1,hb2,hc⟩:=HU.at hlt
   have hget:ls[k]?=some ls[k]:=by simp [hlt]
   obtain ⟨y,hy⟩:∃y,ls[k]=y:=⟨_,rfl⟩
   rw [hy] at hc hget;clear hy
   by_cases he:(y.toList==s.toList)=true
   ·have hv:=hid (ixL_at hget (eq_of_beq he) hno)
    clear hno hget;go_wp2;go_ret;exact ⟨by first|(rw [hv.out];done)|(rw [hv.out];rfl),rfl⟩
   ·have HN:Hid (∀j z,j<k+1→ls[j]?=some z→z.toList≠s.toList):=hid (fun j z hj hz=>by
     by_cases hjk:j=k
     ·subst hjk
      rw [hget] at hz;injection hz with hz;subst hz;intro e;exact he (by rw [e];simp)
     ·exact hno j z (by omega) hz)
    clear hno hget;go_wp2;go_roundw
    case rel=>exact ⟨k+1,by omega,by go_num,by trivial,HN.out⟩
    case measure=>simp [intOf];omega
  ·obtain rfl:k=ls.length:=by omega
   have hv:=hid (ixL_no hno);clear hno;go_wp2;go_ret;exact ⟨by first|(rw [hv.out];done)|(rw [hv.out];rfl),rfl⟩
theorem iIndex_val {i:Int} {s:ByteArray} {ls:List ByteArray} (h:ixL s.toList ls=i) (lo hi:Nat) (u:Value) (w:World) (hu:Strs lo hi w u ls) (hl:ls.length≤2000000) :
  Calls Tryz.prog 161 #[u,.string s] w fun e w'=>e = .returned (.int .i64 i)∧w=w':=h▸iIndex_any lo hi u ls s w hu hl
theorem sLocal_val {i:Int} {s:ByteArray} {ls:List ByteArray} (h:ixL s.toList ls=i) (lo hi:Nat) (u:Value) (w:World) (hu:Strs lo hi w u ls) (hl:ls.length≤2000000) :
  Calls Tryz.prog 128 #[u,.string s] w fun e w'=>e = .returned (.int .i64 i)∧w=w':=h▸sLocal_any lo hi u ls s w hu hl
def colorIx (ls:List ByteArray):Int:=ixL (⟨#[99,111,108,111,114]⟩:ByteArray).toList ls
def alphaIx (ls:List ByteArray):Int:=ixL (⟨#[97,108,112,104,97]⟩:ByteArray).toList ls
def Cod.shade (c:Cod) (g:Grd):List Int×List Int×Bool:=
 if (c.runB&&g.okB)=true∧0≤colorIx c.ls∧(c.res g).getD (colorIx c.ls).toNat []≠[]∧(alphaIx c.ls<0∨(c.res g).getD (alphaIx c.ls).toNat []≠[]) then
  (((c.res g).getD (colorIx c.ls).toNat []).map col,if alphaIx c.ls<0 then List.replicate g.m 256 else ((c.res g).getD (alphaIx c.ls).toNat []).map col,true)
 else ([],[],false)
theorem Cod.res_small {c:Cod} {g:Grd} (h:(c.runB&&g.okB)=true):(c.res g).length=c.ls.length∧∀r∈c.res g,r.length≤64:=by
 unfold Cod.res;rw [if_pos h];simp only [Bool.and_eq_true] at h;obtain ⟨h1,h2⟩:=h;obtain ⟨n,hn,hm,hn1,hn8,ht,htm,hf⟩:=g.parts h2;unfold Cod.runB at h1;simp only [Bool.and_eq_true,List.all_eq_true] at h1;have key:=runG_small (t:=g.t) (f:=g.f) (tm:=g.tm) hm hf htm c.xs [] (List.replicate c.ls.length []) h1.2 (Okst.start h1.1)
 have e:c.out g=runG n g.m g.f g.tm g.t c.xs [] (List.replicate c.ls.length []):=by unfold Cod.out;rw [hn];rfl
 rw [e];have h6:n*n≤8*8:=Nat.mul_le_mul hn8 hn8;exact ⟨key.1,fun r hr=>by have:=key.2 r hr;omega⟩
theorem shade_neg {P:Prop} [Decidable P] {A:List Int×List Int×Bool} {X Y:List Int} {b:Bool} (h:(if P then A else ([],[],false))=(X,Y,b)) (hP : ¬P):X=[]∧Y=[]∧b=false:=by
 rw [if_neg hP] at h;simp only [Prod.mk.injEq] at h;exact ⟨h.1.symm,h.2.1.symm,h.2.2.symm⟩
structure ShCases (m:Nat) (R:Bool) (S:List (List Int)) (i j:Int) (X Y:List Int) (b:Bool):Prop where
 all:(R=false∧X=[]∧Y=[]∧b=false) ∨
  (R=true∧i = -1∧X=[]∧Y=[]∧b=false) ∨
  (R=true∧∃k:Nat,i=k∧k≤2000000∧S[k]?=some []∧X=[]∧Y=[]∧b=false) ∨
  (R=true∧∃(k:Nat) (r:List Int),i=k∧k≤2000000∧S[k]?=some r∧r≠[]∧r.length≤64 ∧
   ((∃l:Nat,j=l∧l≤2000000∧S[l]?=some []∧X=[]∧Y=[]∧b=false)∨(j = -1∧X=r.map col∧Y=List.replicate m 256∧b=true) ∨
    ∃(l:Nat) (q:List Int),j=l∧l≤2000000∧S[l]?=some q∧q≠[]∧q.length≤64∧X=r.map col∧Y=q.map col∧b=true))
theorem shade_cases {c:Cod} {g:Grd} {R:Bool} {S:List (List Int)} {i j:Int} {X Y:List Int} {b:Bool} (hL:c.small) (hs:c.shade g=(X,Y,b)) (eR:(c.runB&&g.okB)=R) (eS:c.res g=S) (ei:colorIx c.ls=i) (ej:alphaIx c.ls=j):ShCases g.m R S i j X Y b:=by
 have bi:=ixL_bd (⟨#[99,111,108,111,114]⟩:ByteArray).toList c.ls;have bj:=ixL_bd (⟨#[97,108,112,104,97]⟩:ByteArray).toList c.ls;have hl:=hL.2;rw [show ixL (⟨#[99,111,108,111,114]⟩:ByteArray).toList c.ls=i from ei] at bi;rw [show ixL (⟨#[97,108,112,104,97]⟩:ByteArray).toList c.ls=j from ej] at bj;unfold Cod.shade at hs;rw [eR,eS,ei,ej] at hs;refine ⟨?_⟩
 cases R with
 | false=>exact .inl ⟨rfl,shade_neg hs (fun h=>by cases h.1)⟩
 | true=>
  right
  have hz:=Cod.res_small eR;rw [eS] at hz
  by_cases h1:i<0
  ·exact .inl ⟨rfl,by omega,shade_neg hs (fun h=>by have:=h.2.1;omega)⟩
  ·right
   obtain ⟨k,rfl⟩:∃k:Nat,i=k:=⟨i.toNat,by omega⟩
   simp only [Int.toNat_natCast] at hs
   have hk:k<S.length:=by omega
   have gk:S.getD k []=S[k]:=by simp [List.getD,hk]
   have sk:S[k]?=some S[k]:=by simp [hk]
   rw [gk] at hs
   by_cases h2:S[k]=[]
   ·exact .inl ⟨rfl,k,rfl,by omega,h2▸sk,shade_neg hs (fun h=>h.2.2.1 h2)⟩
   ·refine .inr ⟨rfl,k,S[k],rfl,by omega,sk,h2,hz.2 _ (List.getElem_mem hk),?_⟩
    by_cases h3:j<0
    ·rw [if_pos ⟨by trivial,by omega,h2,.inl h3⟩,if_pos h3] at hs
     simp only [Prod.mk.injEq] at hs;exact .inr (.inl ⟨by omega,hs.1.symm,hs.2.1.symm,hs.2.2.symm⟩)
    ·obtain ⟨l,rfl⟩:∃l:Nat,j=l:=⟨j.toNat,by omega⟩
     simp only [Int.toNat_natCast] at hs
     have hl':l<S.length:=by omega
     have gl:S.getD l []=S[l]:=by simp [List.getD,hl']
     have sl:S[l]?=some S[l]:=by simp [hl']
     rw [gl] at hs
     by_cases h4:S[l]=[]
     ·exact .inl ⟨l,rfl,by omega,h4▸sl,shade_neg hs (fun h=>by rcases h.2.2.2 with h|h;exact h3 h;exact h h4)⟩
     ·rw [if_pos ⟨by trivial,by omega,h2,.inr h4⟩,if_neg h3] at hs
      simp only [Prod.mk.injEq] at hs;exact .inr (.inr ⟨l,S[l],rfl,by omega,sl,h4,hz.2 _ (List.getElem_mem hl'),hs.1.symm,hs.2.1.symm,hs.2.2.symm⟩)
theorem OwnSS.open1 {lo:Nat} {w:World} {v:Value} {S:List (List Int)} (h:OwnSS lo w v S) (hn:1≤S.length):∃b cap,v = .slice (some ⟨b,0,none⟩) S.length cap∧b<w.heap.size∧S.length≤cap∧cap≤9223372036854775807∧∀k r,S[k]?=some r→∃ru,w.cell? ⟨b,k,none⟩=some ru∧OwnInts lo w ru r∧(r=[]→ru = .slice none 0 0):=by
 obtain ⟨us,h1,h2,h3,h4⟩:=h;have hl:=h2.len;obtain ⟨b,cap,rfl,hb1,hb2⟩:=ownsRow.form1 h1 (by omega);obtain ⟨k1,k2⟩:=ownsRow.caps h1;refine ⟨b,cap,by rw [hl],hb2,by omega,k2,fun k r hr=>?_⟩
 have hk:k<us.length:=by have:=(List.getElem?_eq_some_iff.1 hr).1;omega
 have hu:us[k]?=some us[k]:=by simp [hk]
 refine ⟨us[k],?_,h2.own k us[k] r hu hr,fun e=>h4 k us[k] hu (e▸hr)⟩;have:=World.ownsRow.cellAt h1 k (by omega);rw [hu] at this;exact this
theorem OwnInts.someAt {lo:Nat} {w:World} {v:Value} {xs:List Int} (h:OwnInts lo w v xs) (hx:xs≠[]):∃g c,v = .slice (some ⟨g,0,none⟩) xs.length c∧g<w.heap.size:=by
 rcases h.1.2 with ⟨rfl,h4⟩|⟨g,cap,cur,rfl,hb,hg,hc,hm,hs,ht⟩
 ·exact absurd (List.length_eq_zero_iff.1 h4) hx
 ·exact ⟨g,cap,rfl,(Array.getElem?_eq_some_iff.1 hg).1⟩
theorem IntsO.nil (lo hi:Nat) (w:World):IntsO lo hi w (.slice none 0 0) []:=⟨⟨World.ownsRow_nil _ _ _ _,fun x h=>by cases h⟩,fun k h=>by cases h⟩
theorem IntsO.high {lo hi hi':Nat} {w:World} {v:Value} {xs:List Int} (h:IntsO lo hi w v xs) (hh:hi≤hi'):IntsO lo hi' w v xs:=⟨h.1,fun k hk=>by have:=h.2 k hk;omega⟩
theorem iConstant_g {g:Grd} {n:Nat} (hg:g.n=n) (c:Int) (g1:Value) (g2 g3:Int) (g4:Value) (w:World) (hm:(n:Int)*n=g.m) (hn:g.m≤1000000) (hc:I64 c) :
  Calls Tryz.prog 163 #[.int .i64 c,.agg #[.int .i64 g.n,g1,.int .i64 g2,.int .i64 g3,g4]] w fun e w'=>∃v,e = .returned v∧OwnInts w.heap.size w' v (List.replicate g.m c)∧Ext w w':=by
 rw [hg];exact iConstant_any c n g.m g1 g2 g3 g4 w hm hn hc
theorem shade_none {w w':World} (h:Ext w w'):∃r1 r2,Ending.returned (.tuple #[.slice none 0 0,.slice none 0 0,.bool false]) = .returned (.tuple #[r1,r2,.bool false])∧∃h,w.heap.size≤h∧h≤w'.heap.size∧IntsO w.heap.size h w' r1 []∧IntsO h w'.heap.size w' r2 []∧Ext w w':=
 ⟨_,_,rfl,w'.heap.size,h.size,Nat.le_refl _,IntsO.nil _ _ _,IntsO.nil _ _ _,h⟩
theorem iShadeGrid_any (lo hi lo' hi':Nat) (v u:Value) (c:Cod) (g:Grd) (w:World) {X Y:List Int} {b:Bool} (hs:c.shade g=(X,Y,b)) (hv:c.R lo hi w v) (hh:hi≤w.heap.size) (hu:g.R lo' hi' w u) (hh':hi'≤w.heap.size) (hL:c.small) :
  Calls Tryz.prog 96 #[v,u] w fun e w'=>∃r1 r2,e = .returned (.tuple #[r1,r2,.bool b])∧∃h,w.heap.size≤h∧h≤w'.heap.size∧IntsO w.heap.size h w' r1 X∧IntsO h w'.heap.size w' r2 Y∧Ext w w':=by
 obtain ⟨R,eR⟩:∃R,(c.runB&&g.okB)=R:=⟨_,rfl⟩
 obtain ⟨S,eS⟩:∃S,c.res g=S:=⟨_,rfl⟩
 obtain ⟨i,ei⟩:∃i,colorIx c.ls=i:=⟨_,rfl⟩
 obtain ⟨j,ej⟩:∃j,alphaIx c.ls=j:=⟨_,rfl⟩
 have hn:R=true→∃n:Nat,g.n=n∧(n:Int)*n=g.m∧g.m≤64:=by
  intro h;rw [h] at eR;simp only [Bool.and_eq_true] at eR;obtain ⟨n,hn,hm,hn1,hn8,-⟩:=g.parts eR.2;have h6:n*n≤8*8:=Nat.mul_le_mul hn8 hn8;exact ⟨n,hn,by rw [←hm];simp,by omega⟩
 have CS:=hid (shade_cases hL hs eR eS ei ej);have HC:=hid hv;have HG:=hid hu;have ER:=hid eR;have ES:=hid eS;have EI:=hid ei;have EJ:=hid ej;have HL:=hid hL;have HN:=hid hn;have hl:c.ls.length≤1048576:=hL.2;obtain ⟨iu,lu,rfl,-,hlu⟩:=hv;have HLU:=hid hlu;obtain ⟨pu,tu,rfl,_⟩:=hu;clear hs eR eS ei ej hn hlu hL;have en:∀(w:World) (a:Option Addr) (n c:Nat),(binOp .eql 25 (.slice a n c) (.slice none 0 0)).run Tryz.prog w = .ok (.bool a.isNone) w:=fun w a n c=>Lib.run_eql_slice_nil w _ _ a n c 0 0 Tryz.underlying25;go_enter Tryz.func96,Tryz.ntmps96;go_wp2_with fail;refine (iRunGrid_one lo hi lo' hi' _ _ c g _ ER.out ES.out (HC.out.ext hh X_) (by simp;omega) (HG.out.ext hh' X_) (by simp;omega) HL.out).mono ?_;rintro e w1 ⟨r,rfl,O1,x1⟩;have BP:=hid (((Bx.made w #[iu,lu] _).ext ((Ext.refl _).alloc _)).ext x1);have BQ:=hid ((Bx.madeAt (B:=w.heap.size+1) (w.alloc _) #[.int .i64 g.n,pu,.int .i64 g.tm,.int .i64 g.t.log,tu] _ (by simp)).ext x1);have E:Ext w w1:=Ext.trans X_ x1;have z1:=E.size;have O1':=O1;obtain ⟨us0,h0,h0',-⟩:=O1';obtain ⟨ra,rc,hrr⟩:=ownsRow.form h0;rw [h0'.len] at hrr;subst hrr;have OR:=hid O1;clear x1 O1 h0 h0';have p:=BP.out.lt;have p0:=BP.out.cell 0;simp only [List.getElem?_toArray,List.getElem?_cons_zero,List.getElem?_cons_succ] at p0;have p1:=BP.out.cell 1;simp only [List.getElem?_toArray,List.getElem?_cons_zero,List.getElem?_cons_succ] at p1;have q:=BQ.out.lt;have q0:=BQ.out.cell 0;simp only [List.getElem?_toArray,List.getElem?_cons_zero,List.getElem?_cons_succ] at q0;have q1:=BQ.out.cell 1;simp only [List.getElem?_toArray,List.getElem?_cons_zero,List.getElem?_cons_succ] at q1;have q2:=BQ.out.cell 2;simp only [List.getElem?_toArray,List.getElem?_cons_zero,List.getElem?_cons_succ] at q2;have q3:=BQ.out.cell 3;simp only [List.getElem?_toArray,List.getElem?_cons_zero,List.getElem?_cons_succ] at q3;have q4:=BQ.out.cell 4;simp only [List.getElem?_toArray,List.getElem?_cons_zero,List.getElem?_cons_succ] at q4;go_wp2_with fail;refine wp_region_stages [([0,1,3,4],2),([],5),([6],7)] 7 w1.heap.size (by kernel_rfl) (by kernel_rfl) ?_;refine st_ fun K hK=>?_;go_wp2_with fail;refine (iIndex_val EI.out lo hi _ _ (HLU.out.ext hh E.drew) (by omega)).mono ?_;rintro e wx ⟨rfl,rfl⟩;go_wp2_with fail;refine hK _ _ (.inr (fun k _ hk=>Ext.block X_ (by first|omega|(simp;omega)))) ?_;clear hK K;refine st_ fun K hK=>?_;go_wp2_with fail;refine (iIndex_val EJ.out lo hi _ _ (HLU.out.ext hh E.drew) (by omega)).mono ?_;rintro e wx ⟨rfl,rfl⟩;go_wp2_with fail;refine hK _ _ (.inr (fun k _ hk=>Ext.block X_ (by first|omega|(simp;omega)))) ?_;clear hK K;refine st_ fun K hK=>?_;go_wp2_with fail;go_wp2_with fail;refine hK _ _ (.inl (by trivial)) ?_;clear hK K;refine wpStages_nil ?_
 rcases CS.out.all with ⟨rfl,rfl,rfl,rfl⟩|⟨rfl,rfl,rfl,rfl,rfl⟩|⟨rfl,k,rfl,hk,sk,rfl,rfl,rfl⟩|⟨rfl,k,a,rfl,hk,sk,ha,la,hrest⟩
 ·go_wp2
  refine bodyPost_ret (v:=.tuple #[.slice none 0 0,.slice none 0 0,.bool false]) (by simp [results,Tryz.results96,go_sem]) rfl (shade_none E.drew)
 ·go_wp2
  refine bodyPost_ret (v:=.tuple #[.slice none 0 0,.slice none 0 0,.bool false]) (by simp [results,Tryz.results96,go_sem]) rfl (shade_none E.drew)
 ·have SK:=hid sk
  have hkS:k<S.length:=(List.getElem?_eq_some_iff.1 sk).1;obtain ⟨rb,rc',hrv,hb1,hb2,hb3,hcell⟩:=OR.out.open1 (by omega);simp only [Value.slice.injEq] at hrv;obtain ⟨rfl,-,rfl⟩:=hrv;obtain ⟨ru,c0,-,e0⟩:=hcell k _ sk;obtain rfl:=e0 rfl;clear sk hcell e0;go_wp2;refine bodyPost_ret (v:=.tuple #[.slice none 0 0,.slice none 0 0,.bool false]) (by simp [results,Tryz.results96,go_sem]) rfl (shade_none E.drew)
 have SK:=hid sk;have hkS:k<S.length:=(List.getElem?_eq_some_iff.1 sk).1;obtain ⟨rb,rc',hrv,hb1,hb2,hb3,hcell⟩:=OR.out.open1 (by omega);simp only [Value.slice.injEq] at hrv;obtain ⟨rfl,-,rfl⟩:=hrv;obtain ⟨ru,c0,o0,-⟩:=hcell k _ sk;obtain ⟨ga,ca,rfl,hga⟩:=o0.someAt ha;have O0:=hid (o0.low (lo':=w.heap.size) (by simp <;> omega));clear o0;obtain ⟨n,gn,hnn,hm⟩:=HN.out rfl
 rcases hrest with ⟨l,rfl,hl2,sl,rfl,rfl,rfl⟩|⟨rfl,rfl,rfl,rfl⟩|⟨l,q,rfl,hl2,sl,hq,lq,rfl,rfl,rfl⟩
 ·have SL:=hid sl
  have hlS:l<S.length:=(List.getElem?_eq_some_iff.1 sl).1;obtain ⟨rw,c1,-,e1⟩:=hcell l _ sl;obtain rfl:=e1 rfl;clear sk sl hcell e1 hnn gn;go_wp2;refine bodyPost_ret (v:=.tuple #[.slice none 0 0,.slice none 0 0,.bool false]) (by simp [results,Tryz.results96,go_sem]) rfl (shade_none E.drew)
 ·clear sk hcell
  have GN:=hid gn;have NN:=hid hnn;clear gn hnn;go_wp2_with fail;refine wp_region_stages [([0,1,2,3,5],4),([],6),([7,8],9)] 9 w1.heap.size (by kernel_rfl) (by kernel_rfl) ?_;refine st_ fun K hK=>?_;go_wp2_with fail;refine (iLimited_any w.heap.size w1.heap.size _ a _ (O0.out.ints.ext (Nat.le_refl _) X_) (by simp) (by omega)).mono ?_;rintro e w3 ⟨r1,rfl,o1,x1⟩;have y3:Ext w1 w3:=Ext.trans X_ x1;have z3:=y3.size;go_wp2_with fail;refine hK _ _ (.inr (y3.same (Nat.le_refl _))) ?_;clear hK K;refine st_ fun K hK=>?_;go_wp2_with fail;refine (iConstant_g GN.out 256 _ _ _ _ _ NN.out (by omega) ⟨by omega,by omega⟩).mono ?_;rintro e w4 ⟨r2,rfl,o2,x2⟩;have y4:Ext w1 w4:=y3.trans (Ext.trans X_ x2);have y34:Ext w3 w4:=Ext.trans X_ x2;have z4:=y34.size;go_wp2_with fail;refine hK _ _ (.inr (y4.same (Nat.le_refl _))) ?_;clear hK K;refine st_ fun K hK=>?_;go_wp2_with fail;go_wp2_with fail;refine hK _ _ (.inl (by trivial)) ?_;clear hK K;refine wpStages_nil ?_;go_wp2;refine bodyPost_ret (v:=.tuple #[r1,r2,.bool true]) (by simp [results,Tryz.results96,go_sem]) rfl ⟨r1,r2,rfl,w3.heap.size,by omega,z4,?_,?_,E.trans y4⟩
  ·exact (o1.low (by simp;omega)).o.kp (y34.kp (Nat.le_refl _))
  ·exact (o2.low (by simp)).o
 ·have SL:=hid sl
  have hlS:l<S.length:=(List.getElem?_eq_some_iff.1 sl).1;obtain ⟨rw,c1,o9,-⟩:=hcell l _ sl;obtain ⟨gb,cb,rfl,hgb⟩:=o9.someAt hq;have O9:=hid (o9.low (lo':=w.heap.size) (by simp <;> omega));clear sk sl hcell o9 hnn gn;go_wp2_with fail;refine wp_region_stages [([0,1,2,3,5,6,7,8],4),([],9),([10,11],12)] 12 w1.heap.size (by kernel_rfl) (by kernel_rfl) ?_;refine st_ fun K hK=>?_;go_wp2_with fail;refine (iLimited_any w.heap.size w1.heap.size _ a _ (O0.out.ints.ext (Nat.le_refl _) X_) (by simp) (by omega)).mono ?_;rintro e w3 ⟨r1,rfl,o1,x1⟩;have y3:Ext w1 w3:=Ext.trans X_ x1;have z3:=y3.size;go_wp2_with fail;refine hK _ _ (.inr (y3.same (Nat.le_refl _))) ?_;clear hK K;refine st_ fun K hK=>?_;go_wp2_with fail;refine (iLimited_any w.heap.size w1.heap.size _ q _ (O9.out.ints.ext (Nat.le_refl _) (y3.trans X_)) (by first|omega|(simp;omega)) (by omega)).mono ?_;rintro e w4 ⟨r2,rfl,o2,x2⟩;have y4:Ext w1 w4:=y3.trans (Ext.trans X_ x2);have y34:Ext w3 w4:=Ext.trans X_ x2;have z4:=y34.size;go_wp2_with fail;refine hK _ _ (.inr (y4.same (Nat.le_refl _))) ?_;clear hK K;refine st_ fun K hK=>?_;go_wp2_with fail;go_wp2_with fail;refine hK _ _ (.inl (by trivial)) ?_;clear hK K;refine wpStages_nil ?_;go_wp2;refine bodyPost_ret (v:=.tuple #[r1,r2,.bool true]) (by simp [results,Tryz.results96,go_sem]) rfl ⟨r1,r2,rfl,w3.heap.size,by omega,z4,?_,?_,E.trans y4⟩
  ·exact (o1.low (by simp;omega)).o.kp (y34.kp (Nat.le_refl _))
  ·exact (o2.low (by simp)).o
theorem Ints.nil0 (hi:Nat) (w:World):Ints 0 hi w (.slice none 0 0) []:=⟨none,0,rfl,Nat.le_refl _,by unfold maxLen;omega,fun i x h=>by simp at h⟩
theorem shade_none' {w w':World} (h:Ext w w'):∃r1 r2,Ending.returned (.tuple #[.slice none 0 0,.slice none 0 0,.bool false]) = .returned (.tuple #[r1,r2,.bool false])∧Ints 0 w'.heap.size w' r1 []∧Ints 0 w'.heap.size w' r2 []∧Ext w w':=
 ⟨_,_,rfl,Ints.nil0 _ _,Ints.nil0 _ _,h⟩
theorem sShadeGrid_any (lo hi lo' hi':Nat) (v u:Value) (c:Cod) (g:Grd) (w:World) {X Y:List Int} {b:Bool} (hs:c.shade g=(X,Y,b)) (hv:c.R lo hi w v) (hh:hi≤w.heap.size) (hu:g.R lo' hi' w u) (hh':hi'≤w.heap.size) (hL:c.small) :
  Calls Tryz.prog 73 #[v,u] w fun e w'=>∃r1 r2,e = .returned (.tuple #[r1,r2,.bool b])∧Ints 0 w'.heap.size w' r1 X∧Ints 0 w'.heap.size w' r2 Y∧Ext w w':=by
 obtain ⟨R,eR⟩:∃R,(c.runB&&g.okB)=R:=⟨_,rfl⟩
 obtain ⟨S,eS⟩:∃S,c.res g=S:=⟨_,rfl⟩
 obtain ⟨i,ei⟩:∃i,colorIx c.ls=i:=⟨_,rfl⟩
 obtain ⟨j,ej⟩:∃j,alphaIx c.ls=j:=⟨_,rfl⟩
 have hn:R=true→g.m≤64:=by
  intro h;rw [h] at eR;simp only [Bool.and_eq_true] at eR;obtain ⟨n,hn,hm,hn1,hn8,-⟩:=g.parts eR.2;have h6:n*n≤8*8:=Nat.mul_le_mul hn8 hn8;omega
 have CS:=hid (shade_cases hL hs eR eS ei ej);have HC:=hid hv;have HG:=hid hu;have ER:=hid eR;have ES:=hid eS;have EI:=hid ei;have EJ:=hid ej;have HL:=hid hL;have HN:=hid hn;have hl:c.ls.length≤1048576:=hL.2;obtain ⟨iu,lu,rfl,-,hlu⟩:=hv;have HLU:=hid hlu;obtain ⟨pu,tu,rfl,-,-,-,hp,-⟩:=hu;obtain ⟨pa,pc,rfl,HP⟩:=hp.open;have p1:=HP.le;have p2:=HP.cap;clear hs eR eS ei ej hn hlu hL hp HP;go_enter Tryz.func73,Tryz.ntmps73;go_wp2_with fail;refine (sRunGrid_one lo hi lo' hi' _ _ c g _ ER.out ES.out (HC.out.ext hh X_) (by simp;omega) (HG.out.ext hh' X_) (by simp;omega) HL.out).mono ?_;rintro e w1 ⟨r,rfl,O1,x1⟩;have BP:=hid (((Bx.made w #[iu,lu] _).ext ((Ext.refl _).alloc _)).ext x1);have BQ:=hid ((Bx.madeAt (B:=w.heap.size+1) (w.alloc _) #[.int .i64 g.n,.slice pa g.m pc,.int .i64 g.tm,.int .i64 g.t.log,tu] _ (by simp)).ext x1);have E:Ext w w1:=Ext.trans X_ x1;have z1:=E.size;obtain ⟨ra,rc,rfl,hat⟩:=O1.open;have r1:=hat.le;have r2:=hat.cap;have HA:=hid hat;clear x1 O1 hat;have p:=BP.out.lt;have p0:=BP.out.cell 0;simp only [List.getElem?_toArray,List.getElem?_cons_zero,List.getElem?_cons_succ] at p0;have p1:=BP.out.cell 1;simp only [List.getElem?_toArray,List.getElem?_cons_zero,List.getElem?_cons_succ] at p1;have q:=BQ.out.lt;have q0:=BQ.out.cell 0;simp only [List.getElem?_toArray,List.getElem?_cons_zero,List.getElem?_cons_succ] at q0;have q1:=BQ.out.cell 1;simp only [List.getElem?_toArray,List.getElem?_cons_zero,List.getElem?_cons_succ] at q1;have q2:=BQ.out.cell 2;simp only [List.getElem?_toArray,List.getElem?_cons_zero,List.getElem?_cons_succ] at q2;have q3:=BQ.out.cell 3;simp only [List.getElem?_toArray,List.getElem?_cons_zero,List.getElem?_cons_succ] at q3;have q4:=BQ.out.cell 4;simp only [List.getElem?_toArray,List.getElem?_cons_zero,List.getElem?_cons_succ] at q4;go_wp2_with fail;refine (sLocal_val EI.out lo hi _ _ (HLU.out.ext hh E) (by omega)).mono ?_;rintro e wx ⟨rfl,rfl⟩;go_wp2_with fail;refine (sLocal_val EJ.out lo hi _ _ (HLU.out.ext hh E) (by omega)).mono ?_;rintro e wx ⟨rfl,rfl⟩
 rcases CS.out.all with ⟨rfl,rfl,rfl,rfl⟩|⟨rfl,rfl,rfl,rfl,rfl⟩|⟨rfl,k,rfl,hk,sk,rfl,rfl,rfl⟩|⟨rfl,k,a,rfl,hk,sk,ha,la,hrest⟩
 ·go_wp2
  refine bodyPost_ret (v:=.tuple #[.slice none 0 0,.slice none 0 0,.bool false]) (by simp [results,Tryz.results73,go_sem]) rfl (shade_none' E)
 ·go_wp2
  refine bodyPost_ret (v:=.tuple #[.slice none 0 0,.slice none 0 0,.bool false]) (by simp [results,Tryz.results73,go_sem]) rfl (shade_none' E)
 ·have hkS:k<S.length:=(List.getElem?_eq_some_iff.1 sk).1
  obtain ⟨rb,ro,ru,rfl,hb1,hb2,c0,i0⟩:=HA.out.cell k _ sk;obtain ⟨ua,uc,rfl,-⟩:=i0.open;clear sk i0;go_wp2;refine bodyPost_ret (v:=.tuple #[.slice none 0 0,.slice none 0 0,.bool false]) (by simp [results,Tryz.results73,go_sem]) rfl (shade_none' E)
 have hkS:k<S.length:=(List.getElem?_eq_some_iff.1 sk).1;obtain ⟨rb,ro,ru,rfl,hb1,hb2,c0,i0⟩:=HA.out.cell k _ sk;obtain ⟨ua,uc,rfl,hua⟩:=i0.open;have I0:=hid i0;have la0:((a.length:Int)==0)=false:=beq_eq_false_iff_ne.2 (fun e=>ha (List.length_eq_zero_iff.1 (by omega)));have hm:=HN.out rfl;clear sk i0 ha hua
 rcases hrest with ⟨l,rfl,hl2,sl,rfl,rfl,rfl⟩|⟨rfl,rfl,rfl,rfl⟩|⟨l,q,rfl,hl2,sl,hq,lq,rfl,rfl,rfl⟩
 ·have hlS:l<S.length:=(List.getElem?_eq_some_iff.1 sl).1
  obtain ⟨rb',ro',ru',hrr,-,-,c1,i1⟩:=HA.out.cell l _ sl;simp only [Option.some.injEq,Addr.mk.injEq,and_true] at hrr;obtain ⟨rfl,rfl⟩:=hrr;obtain ⟨ub,uc',rfl,-⟩:=i1.open;clear sl i1;go_wp2;refine bodyPost_ret (v:=.tuple #[.slice none 0 0,.slice none 0 0,.bool false]) (by simp [results,Tryz.results73,go_sem]) rfl (shade_none' E)
 ·go_wp2
  go_loopw [11,54] (fun v i wr=>∃n:Nat,n≤g.m∧i = .int .i64 n∧OwnInts w1.heap.size wr v (List.replicate n 256)∧Ext w1 wr) (fun _ i _=>g.m - (intOf i).toNat)
  case atStart=>exact ⟨0,by omega,rfl,OwnInts.lit0 w1,X_⟩
  obtain ⟨n,hn,rfl,hown,hx⟩:=hrel;obtain ⟨av,cv,rfl,hcv⟩:=hown.form
  have hlen:(List.replicate n (256:Int)).length=n:=by simp
  rw [hlen] at hown ⊢
  by_cases hlt:n<g.m
  ·have HO:=hid hown
   have HX:=hid hx;have HLn:=hid hlen;have zs:=hx.size;clear hown hx hlen;go_wp2_with (at_builtin;refine wpList_append1 _ rfl _ _ rfl w1.heap.size _ _ rfl (HO.out.alloc _) 256 ⟨by omega,by omega⟩ wr.heap.size rfl (by simp [go_sem]) (by rw [HLn.out];omega) (by simp;omega) ?_;intro v' w7 hown hg);rw [←List.replicate_succ'] at hown;go_wp2;go_roundw
   case rel=>exact ⟨n+1,by omega,by go_num,hown,Ext.grown (HX.out.alloc _) hg (fun g e=>(HO.out.lt g e).1)⟩
   case measure=>simp [intOf];omega
  obtain rfl:n=g.m:=by omega
  have HO:=hid hown;have zs:=hx.size;rw [←hx.cells.1 rb _ (by omega)] at c0;have HX:=hid hx;clear hown hx;go_wp2_with fail;refine (sClamped_any 0 w1.heap.size _ a _ (I0.out.ext (Nat.le_refl _) HX.out) zs (by omega)).mono ?_;rintro e w3 ⟨r1,rfl,o1,x1⟩;go_wp2;refine bodyPost_ret (v:=.tuple #[r1,.slice av g.m cv,.bool true]) (by simp [results,Tryz.results73,go_sem]) rfl ⟨r1,_,rfl,o1.ints.wide (Nat.zero_le _) (Nat.le_refl _),?_,E.trans (HX.out.trans x1)⟩;exact (HO.out.ints.ext (Nat.le_refl _) x1).wide (Nat.zero_le _) x1.size
 ·have hlS:l<S.length:=(List.getElem?_eq_some_iff.1 sl).1
  obtain ⟨rb',ro',ru',hrr,-,-,c1,i1⟩:=HA.out.cell l _ sl;simp only [Option.some.injEq,Addr.mk.injEq,and_true] at hrr;obtain ⟨rfl,rfl⟩:=hrr;obtain ⟨ub,uc',rfl,-⟩:=i1.open;have I1:=hid i1;have lq0:((q.length:Int)==0)=false:=beq_eq_false_iff_ne.2 (fun e=>hq (List.length_eq_zero_iff.1 (by omega)));clear sl i1 hq;go_wp2
  go_loopw [11,54] (fun v i wr=>∃n:Nat,n≤g.m∧i = .int .i64 n∧OwnInts w1.heap.size wr v (List.replicate n 256)∧Ext w1 wr) (fun _ i _=>g.m - (intOf i).toNat)
  case atStart=>exact ⟨0,by omega,rfl,OwnInts.lit0 w1,X_⟩
  obtain ⟨n,hn,rfl,hown,hx⟩:=hrel;obtain ⟨av,cv,rfl,hcv⟩:=hown.form
  have hlen:(List.replicate n (256:Int)).length=n:=by simp
  rw [hlen] at hown ⊢
  by_cases hlt:n<g.m
  ·have HO:=hid hown
   have HX:=hid hx;have HLn:=hid hlen;have zs:=hx.size;clear hown hx hlen;go_wp2_with (at_builtin;refine wpList_append1 _ rfl _ _ rfl w1.heap.size _ _ rfl (HO.out.alloc _) 256 ⟨by omega,by omega⟩ wr.heap.size rfl (by simp [go_sem]) (by rw [HLn.out];omega) (by simp;omega) ?_;intro v' w7 hown hg);rw [←List.replicate_succ'] at hown;go_wp2;go_roundw
   case rel=>exact ⟨n+1,by omega,by go_num,hown,Ext.grown (HX.out.alloc _) hg (fun g e=>(HO.out.lt g e).1)⟩
   case measure=>simp [intOf];omega
  obtain rfl:n=g.m:=by omega
  have HO:=hid hown;have zs:=hx.size;rw [←hx.cells.1 rb _ (by omega)] at c0;rw [←hx.cells.1 rb _ (by omega)] at c1;have HX:=hid hx;clear hown hx;go_wp2_with fail;refine (sClamped_any 0 w1.heap.size _ q _ (I1.out.ext (Nat.le_refl _) HX.out) zs (by omega)).mono ?_;rintro e w3 ⟨r2,rfl,o2,x2⟩;have X3:Ext w1 w3:=HX.out.trans x2;rw [←x2.cells.1 rb _ (by omega)] at c0;have z3:=x2.size;have HX3:=hid X3;have HX2:=hid x2;clear c1 x2 X3;go_wp2_with fail;refine (sClamped_any 0 w1.heap.size _ a _ (I0.out.ext (Nat.le_refl _) HX3.out) (by omega) (by omega)).mono ?_;rintro e w4 ⟨r1,rfl,o1,x1⟩;go_wp2;refine bodyPost_ret (v:=.tuple #[r1,r2,.bool true]) (by simp [results,Tryz.results73,go_sem]) rfl ⟨r1,r2,rfl,o1.ints.wide (Nat.zero_le _) (Nat.le_refl _),?_,E.trans (HX3.out.trans x1)⟩;exact (o2.ints.ext (Nat.le_refl _) x1).wide (Nat.zero_le _) x1.size
theorem sum_zero:∀n:Nat,((List.range n).map fun _=>0).sum=0
 | 0=>rfl
 | n+1=>by rw [List.range_succ,List.map_append,List.sum_append,sum_zero n];rfl
theorem sum_single (w:Nat→Nat):∀(n e:Nat),e<n→((List.range n).map fun j=>if e=j then w j else 0).sum=w e:=by
 intro n
 induction n with
 | zero=>intro e h;omega
 | succ n ih=>
  intro e h;rw [List.range_succ,List.map_append,List.sum_append]
  by_cases he:e=n
  ·subst he
   have:((List.range e).map fun j=>if e=j then w j else 0).sum=0:=by
    rw [List.map_congr_left (g:=fun _=>0) fun j hj=>if_neg (by have:=List.mem_range.1 hj;omega)];exact sum_zero e
   rw [this];simp
  ·rw [ih e (by omega)]
   simp [he]
theorem sum_add {α : Type} (f g : α→Nat):∀L:List α,(L.map fun x=>f x+g x).sum=(L.map f).sum+(L.map g).sum
 | []=>rfl
 | x::r=>by simp only [List.map_cons,List.sum_cons,sum_add f g r];omega
theorem sumW (w:Nat→Nat) (n:Nat):∀E:List Nat,(∀e∈E,e<n)→(E.map w).sum=((List.range n).map fun j=>(E.countP fun e=>e==j)*w j).sum:=by
 intro E
 induction E with
 | nil=>
  intro _
  have e:((List.range n).map fun j=>(([]:List Nat).countP fun e=>e==j)*w j)=(List.range n).map fun _=>0:=List.map_congr_left fun j _=>by simp
  rw [e,sum_zero]
  rfl
 | cons e r ih=>
  intro h;rw [List.map_cons,List.sum_cons,ih fun x hx=>h x (by simp [hx]),←sum_single w n e (h e (by simp)),←sum_add]
  congr 1
  refine List.map_congr_left fun j _=>?_;rw [List.countP_cons]
  by_cases hj:e=j
  ·subst hj;simp [Nat.add_mul];omega
  ·simp [hj]
def Prg.refs (p:Prg):List Nat:=(p.ns.flatMap fun x=>x.args.map Int.toNat)++p.gs.map fun a=>a.root.toNat
theorem refs_ns (j:Nat):∀xs:List Nd,((xs.flatMap fun x=>x.args.map Int.toNat).countP fun e=>e==j)=cntN j xs
 | []=>rfl
 | x::r=>by
  rw [List.flatMap_cons,List.countP_append,refs_ns j r];simp only [cntN,List.map_cons,List.sum_cons]
  congr 1
  unfold cntL;rw [List.countP_map]
  rfl
theorem refs_gs (j:Nat):∀xs:List Asg,((xs.map fun a=>a.root.toNat).countP fun e=>e==j)=cntG j xs
 | []=>rfl
 | x::r=>by
  rw [List.map_cons,List.countP_cons,refs_gs j r];simp only [cntG,List.map_cons,List.sum_cons]
  by_cases h:x.root.toNat=j <;> simp [h] <;> omega
theorem Prg.V.refs_lt {p:Prg} (h:p.V):∀e∈p.refs,e<p.ns.length:=by
 intro e he;unfold Prg.refs at he
 rcases List.mem_append.1 he with he|he
 ·obtain ⟨x,hx,he⟩:=List.mem_flatMap.1 he
  obtain ⟨a,ha,rfl⟩:=List.mem_map.1 he;obtain ⟨k,hk,rfl⟩:=List.getElem_of_mem hx;have:=(h.nd k _ (by simp [hk])).2 a ha;omega
 ·obtain ⟨a,ha,rfl⟩:=List.mem_map.1 he
  obtain ⟨k,hk,rfl⟩:=List.getElem_of_mem ha;have:=(h.ag k p.gs[k] (by simp [hk])).2;omega
theorem Prg.V.sum_refs {p:Prg} (h:p.V) (w:Nat→Nat):(p.refs.map w).sum=((List.range p.ns.length).map w).sum:=by
 rw [sumW w p.ns.length p.refs h.refs_lt]
 congr 1
 refine List.map_congr_left fun j hj=>?_;have h1:=h.one j (List.mem_range.1 hj)
 have:(p.refs.countP fun e=>e==j)=1:=by
  unfold Prg.refs;rw [List.countP_append,refs_ns,refs_gs];exact h1
 rw [this,Nat.one_mul]
theorem Prg.V.gs_len {p:Prg} (h:p.V):p.gs.length≤60:=by
 have h1:=h.sum_refs (fun _=>1);have h2:=h.len;unfold Prg.refs at h1;simp only [List.map_append,List.sum_append,List.map_map] at h1
 have e1:(p.gs.map ((fun _=>1) ∘ fun a:Asg=>a.root.toNat)).sum=p.gs.length:=by
  have:∀xs:List Asg,(xs.map ((fun _=>1) ∘ fun a:Asg=>a.root.toNat)).sum=xs.length:=fun xs=>by
   induction xs with
   | nil=>rfl
   | cons x r ih=>rw [List.map_cons,List.sum_cons,ih];simp;omega
  exact this _
 have e2:((List.range p.ns.length).map fun _=>1).sum=p.ns.length:=by
  have:∀n:Nat,((List.range n).map fun _=>1).sum=n:=fun n=>by
   induction n with
   | zero=>rfl
   | succ n ih=>rw [List.range_succ,List.map_append,List.sum_append,ih];rfl
  exact this _
 rw [e1,e2] at h1;omega
theorem Prg.V.sum_roots {p:Prg} (h:p.V) (w:Nat→Nat) (hw:∀(j:Nat) (x:Nd),p.ns[j]?=Option.some x→w j=1+(x.args.map fun a=>w a.toNat).sum):(p.gs.map fun a=>w a.root.toNat).sum=p.ns.length:=by
 have h1:=h.sum_refs w
 have e1:((List.range p.ns.length).map w).sum=p.ns.length+(p.ns.map fun x=>(x.args.map fun a=>w a.toNat).sum).sum:=by
  have:∀(xs:List Nd) (o:Nat),(∀(j:Nat) (x:Nd),xs[j]?=Option.some x→w (o+j)=1+(x.args.map fun a=>w a.toNat).sum)→((List.range xs.length).map fun j=>w (o+j)).sum=xs.length+(xs.map fun x=>(x.args.map fun a=>w a.toNat).sum).sum:=by
   intro xs
   induction xs with
   | nil=>intro o _;rfl
   | cons x r ih=>
    intro o ho;rw [List.length_cons,List.range_succ_eq_map,List.map_cons,List.sum_cons,List.map_map,List.map_cons,List.sum_cons]
    have:=ih (o+1) fun j y hy=>by
     have:=ho (j+1) y (by simpa using hy);rw [←this]
     congr 1
     omega
    have e:(List.range r.length).map ((fun j=>w (o+j)) ∘ Nat.succ)=(List.range r.length).map fun j=>w (o+1+j):=List.map_congr_left fun j _=>by
     show w (o+(j+1))=w (o+1+j)
     congr 1
     omega
    rw [e,this];have h0:=ho 0 x (by simp);rw [h0];omega
  have:=this p.ns 0 fun j x hx=>by rw [Nat.zero_add];exact hw j x hx
  simpa using this
 have e2:∀xs:List Nd,((xs.flatMap fun x=>x.args.map Int.toNat).map w).sum=(xs.map fun x=>(x.args.map fun a=>w a.toNat).sum).sum:=fun xs=>by
  induction xs with
  | nil=>rfl
  | cons x r ih=>
   rw [List.flatMap_cons,List.map_append,List.sum_append,ih,List.map_cons,List.sum_cons,List.map_map]
   rfl
 unfold Prg.refs at h1;rw [List.map_append,List.sum_append,e2,e1,List.map_map] at h1;have e3:(p.gs.map (w ∘ fun a:Asg=>a.root.toNat)).sum=(p.gs.map fun a=>w a.root.toNat).sum:=rfl;omega
def ixOf (p:Prg) (s:ByteArray):Nat:=(frst p.gs p.gs.length s.toList).getD 0
def insOf (p:Prg) (x:Nd):Ins:=
 if x.op=1 then ⟨1,⟨#[]⟩,x.num⟩ else if x.op=3 then ⟨5,⟨#[]⟩,3⟩ else if x.op=2 then (if isVar x.name then ⟨2,x.name,0⟩ else ⟨3,⟨#[]⟩,(ixOf p x.name:Nat)⟩) else if x.op=8 then ⟨7,x.name,0⟩ else ⟨6,⟨#[]⟩,x.op⟩
def trF (p:Prg):Nat→Nat→List Ins
 | 0,_=>[]
 | F+1,j=>match p.ns[j]? with|some x=>(x.args.flatMap fun a=>trF p F a.toNat)++[insOf p x]|none=>[]
def Prg.tr (p:Prg) (j:Nat):List Ins:=trF p (j+1) j
def Prg.trs (p:Prg):Nat→List Ins
 | 0=>[]
 | k+1=>p.trs k++(match p.gs[k]? with|some a=>p.tr a.root.toNat++[⟨4,⟨#[]⟩,(k:Nat)⟩]|none=>[])
def Prg.code (p:Prg):Cod:=⟨p.trs p.gs.length,p.gs.map (·.name)⟩
theorem flatMap_congr2 {α β : Type} {L:List α} {f g : α→List β} (h:∀a∈L,f a=g a):L.flatMap f=L.flatMap g:=by
 induction L with
 | nil=>rfl
 | cons a r ih=>rw [List.flatMap_cons,List.flatMap_cons,h a (by simp),ih fun b hb=>h b (by simp [hb])]
theorem trF_eq {p:Prg} (h:p.V):∀(F F' j:Nat),j<F→j<F'→trF p F j=trF p F' j:=by
 intro F
 induction F with
 | zero=>intro F' j hj;omega
 | succ F ih=>
  intro F' j hj hj'
  obtain ⟨G,rfl⟩:∃G,F'=G+1:=⟨F' - 1,by omega⟩
  unfold trF
  cases hx:p.ns[j]? with
  | none=>rfl
  | some x=>
   simp only;rw [flatMap_congr2 fun a ha=>ih G a.toNat (by have:=(h.nd j x hx).2 a ha;omega) (by have:=(h.nd j x hx).2 a ha;omega)]
theorem Prg.V.tr_step {p:Prg} (h:p.V) {j:Nat} {x:Nd} (hx:p.ns[j]?=Option.some x):p.tr j=(x.args.flatMap fun a=>p.tr a.toNat)++[insOf p x]:=by
 have e:p.tr j=(x.args.flatMap fun a=>trF p j a.toNat)++[insOf p x]:=by
  show trF p (j+1) j=_
  rw [trF,hx]
 rw [e,flatMap_congr2 fun a ha=>trF_eq h _ _ _ (by have:=(h.nd j x hx).2 a ha;omega) (Nat.lt_succ_self _)]
 rfl
theorem Prg.trs_step {p:Prg} {k:Nat} {a:Asg} (h:p.gs[k]?=some a):p.trs (k+1)=p.trs k++(p.tr a.root.toNat++[⟨4,⟨#[]⟩,(k:Nat)⟩]):=by
 rw [Prg.trs,h]
theorem insOf_pops {p:Prg} (h:p.K) {j:Nat} {x:Nd} (hx:p.ns[j]?=some x):popsI (insOf p x).op (insOf p x).name=x.args.length∧(insOf p x).op≠4∧pushI (insOf p x).op=1:=by
 rcases nodeF_op (h.v.nd j x hx).1 with ⟨o,h2,h3⟩|⟨o,h3⟩|⟨o,h3⟩|⟨o,o',h3⟩|⟨o,h3⟩
 ·unfold insOf;rw [if_pos o,h3];exact ⟨rfl,by show (_:Int)≠4;simp,rfl⟩
 ·unfold insOf
  rw [if_neg (by omega),if_neg (by omega),if_pos o,h3]
  split
  ·exact ⟨rfl,by show (_:Int)≠4;simp,rfl⟩
  ·exact ⟨rfl,by show (_:Int)≠4;simp,rfl⟩
 ·unfold insOf;rw [if_neg (by omega),if_pos o,h3];exact ⟨rfl,by show (_:Int)≠4;simp,rfl⟩
 ·unfold insOf;rw [if_neg (by omega),if_neg (by omega),if_neg (by omega),if_neg (by omega),h3];exact ⟨rfl,by show (_:Int)≠4;simp,rfl⟩
 ·unfold insOf
  rw [if_neg (by omega),if_neg (by omega),if_neg (by omega),if_pos o,←(h.call j x hx o).2];exact ⟨rfl,by show (7:Int)≠4;simp,rfl⟩
def HasV (p:Prg) (V:Nat→List Int) (k:Nat) (L:List (List Int)):Prop:=∀(i:Nat) (a:Asg),i<k→p.gs[i]?=some a→L.getD i []=V a.root.toNat
theorem rowI_evB {p:Prg} (h:p.K) {n m:Nat} {f:Nat→Int} {tm:Int} {t:Tex} {j:Nat} {x:Nd} (hx:p.ns[j]?=some x) {L:List (List Int)} (hL:HasV p (p.ev n m f tm t) (p.own j) L) :
  rowI n m f tm t (insOf p x).op (insOf p x).name (insOf p x).num (x.args.map fun a=>p.ev n m f tm t a.toNat) L=p.ev n m f tm t j:=by
 rw [h.ev_step hx];unfold evB
 rcases nodeF_op (h.v.nd j x hx).1 with ⟨o,h2,h3⟩|⟨o,h3⟩|⟨o,h3⟩|⟨o,o',h3⟩|⟨o,h3⟩
 ·rw [if_pos o];unfold insOf;rw [if_pos o];rfl
 ·rw [if_neg (by omega),if_pos o]
  unfold insOf;rw [if_neg (by omega),if_neg (by omega),if_pos o]
  cases hv:isVar x.name
  ·obtain ⟨i,hi,hio⟩:=h.name j x hx o hv
   obtain ⟨s',g1,g2,g3,g4⟩:=h.root hi
   have e1:ixOf p x.name=i:=by unfold ixOf;rw [hi];rfl
   have:=hL i _ hio g1
   show L.getD ((ixOf p x.name:Nat):Int).toNat []=p.ev n m f tm t (p.rootOf x.name)
   rw [e1,Int.toNat_natCast,this];simp
  ·rfl
 ·rw [if_neg (by omega),if_neg (by omega),if_neg (by omega)]
  unfold insOf;rw [if_neg (by omega),if_pos o,o]
  rfl
 ·rw [if_neg (by omega),if_neg (by omega),if_neg (by omega)]
  unfold insOf;rw [if_neg (by omega),if_neg (by omega),if_neg (by omega),if_neg (by omega)]
  show List.zipWith (arithI x.op) _ _=_
  rw [if_neg (by omega)]
 ·rw [if_neg (by omega),if_neg (by omega),if_pos o]
  unfold insOf;rw [if_neg (by omega),if_neg (by omega),if_neg (by omega),if_pos o]
  rfl
theorem run_ins {p:Prg} (h:p.K) {n m:Nat} {f:Nat→Int} {tm:Int} {t:Tex} {j:Nat} {x:Nd} (hx:p.ns[j]?=some x) {L:List (List Int)} (hL:HasV p (p.ev n m f tm t) (p.own j) L) (rest:List Ins) (S:List (List Int)) :
  runG n m f tm t (insOf p x::rest) (S++x.args.map fun a=>p.ev n m f tm t a.toNat) L=runG n m f tm t rest (S++[p.ev n m f tm t j]) L:=by
 obtain ⟨h1,h2,h3⟩:=insOf_pops h hx
 have hc:cutI (insOf p x).op (insOf p x).name (S++x.args.map fun a=>p.ev n m f tm t a.toNat)=S.length:=by
  unfold cutI;rw [h1];simp
 rw [runG];unfold nextS nextL;rw [if_neg h2,if_neg h2,hc,List.take_left,List.drop_left,rowI_evB h hx hL]
theorem run_tr {p:Prg} (h:p.K) {n m:Nat} {f:Nat→Int} {tm:Int} {t:Tex}:∀(F j:Nat),j<F→j<p.ns.length→∀(L:List (List Int)),HasV p (p.ev n m f tm t) (p.own j) L→∀(rest:List Ins) (S:List (List Int)),
  runG n m f tm t (p.tr j++rest) S L=runG n m f tm t rest (S++[p.ev n m f tm t j]) L:=by
 intro F
 induction F with
 | zero=>intro j hj;omega
 | succ F ih=>
  intro j hj hjl L hL rest S
  have hx:p.ns[j]?=some p.ns[j]:=by simp [hjl]
  obtain ⟨x,hxe⟩:∃x,p.ns[j]=x:=⟨_,rfl⟩
  rw [hxe] at hx;rw [h.v.tr_step hx,List.append_assoc,←run_ins h hx hL rest S]
  have key:∀(es:List Int),(∀a∈es,a∈x.args)→∀(rest:List Ins) (S:List (List Int)),runG n m f tm t ((es.flatMap fun a=>p.tr a.toNat)++rest) S L=runG n m f tm t rest (S++es.map fun a=>p.ev n m f tm t a.toNat) L:=by
   intro es
   induction es with
   | nil=>intro _ rest S;simp
   | cons a r ihr=>
    intro hs rest S;have ha:=hs a (by simp);have hr:=h.rank_arg hx ha;have hlt:=(h.v.nd j x hx).2 a ha;rw [List.flatMap_cons,List.append_assoc,ih a.toNat (by omega) hr.2.1 L (by rw [hr.2.2];exact hL),ihr (fun b hb=>hs b (by simp [hb]))];simp
  exact key x.args (fun a ha=>ha) _ S
theorem run_trs {p:Prg} (h:p.K) {n m:Nat} {f:Nat→Int} {tm:Int} {t:Tex}:∀k,k≤p.gs.length→∀rest,∃L,L.length=p.gs.length∧HasV p (p.ev n m f tm t) k L∧runG n m f tm t (p.trs k++rest) [] (List.replicate p.gs.length [])=runG n m f tm t rest [] L:=by
 intro k
 induction k with
 | zero=>intro _ rest;exact ⟨List.replicate p.gs.length [],List.length_replicate,fun i a hi=>by omega,by rw [Prg.trs,List.nil_append]⟩
 | succ k ih=>
  intro hk rest
  have ha:p.gs[k]?=some p.gs[k]:=by simp [show k<p.gs.length by omega]
  obtain ⟨a,hae⟩:∃a,p.gs[k]=a:=⟨_,rfl⟩
  rw [hae] at ha;obtain ⟨L,h1,h2,h3⟩:=ih (by omega) ((p.tr a.root.toNat++[⟨4,⟨#[]⟩,(k:Nat)⟩])++rest);have hr:=(h.v.ag k a ha).2
  have e2:a=⟨a.name,(a.root.toNat:Nat)⟩:=by cases a;simp only [Asg.mk.injEq,true_and] at *;omega
  have ho:p.own a.root.toNat=k:=h.v.own_eq (Own.root (s:=a.name) (by rw [ha];exact congrArg some e2));refine ⟨L.set k (p.ev n m f tm t a.root.toNat),by simp [h1],fun i b hi hb=>?_,?_⟩
  ·rw [List.getD_eq_getElem?_getD,List.getElem?_set]
   by_cases e:k=i
   ·subst e
    rw [ha] at hb;injection hb with hb;subst hb;simp [h1,show k<p.gs.length by omega]
   ·rw [if_neg e,←List.getD_eq_getElem?_getD]
    exact h2 i b (by omega) hb
  ·rw [Prg.trs_step ha,List.append_assoc,h3,List.append_assoc,run_tr h (a.root.toNat+1) a.root.toNat (by omega) (by omega) L (by rw [ho];exact h2),List.nil_append]
   show runG n m f tm t (_::rest) _ _=_
   rw [runG]
   rfl
theorem Prg.K.out {p:Prg} (h:p.K) (g:Grd):∀(i:Nat) (a:Asg),p.gs[i]?=some a→(p.code.out g).getD i []=evV p g a.root.toNat:=by
 intro i a ha;obtain ⟨L,h1,h2,h3⟩:=run_trs h (n:=g.n.toNat) (m:=g.m) (f:=g.f) (tm:=g.tm) (t:=g.t) p.gs.length (Nat.le_refl _) [];unfold Cod.out Prg.code evV;simp only [List.length_map];rw [List.append_nil] at h3;rw [h3,runG];exact h2 i a (List.getElem?_eq_some_iff.1 ha).1 ha
theorem insOf_wf {p:Prg} (h:p.K) {j:Nat} {x:Nd} (hx:p.ns[j]?=some x):wfI (insOf p x).op (insOf p x).name (insOf p x).num p.gs.length=true∧numB (insOf p x)=true∧((insOf p x).op=3→∃i,i<p.own j∧(insOf p x).num=(i:Nat)):=by
 have e0:((⟨#[]⟩:ByteArray).toList==[])=true:=by rw [Lib.toList_data];rfl
 have hv:=h.v;have hol:=(List.getElem?_eq_some_iff.1 hx).1
 rcases nodeF_op (h.v.nd j x hx).1 with ⟨o,h2,h3⟩|⟨o,h3⟩|⟨o,h3⟩|⟨o,o',h3⟩|⟨o,h3⟩
 ·unfold insOf
  rw [if_pos o];have:=inB_iff.1 h2;refine ⟨by simp [wfI,e0],inB_iff.2 (by simp only;omega),fun e=>by simp at e⟩
 ·unfold insOf
  rw [if_neg (by omega),if_neg (by omega),if_pos o]
  cases hv:isVar x.name
  ·obtain ⟨i,hi,hio⟩:=h.name j x hx o hv
   obtain ⟨g1,⟨a,g2,_⟩,_⟩:=frst_some hi;have hl:=(List.getElem?_eq_some_iff.1 g2).1
   have e1:ixOf p x.name=i:=by unfold ixOf;rw [hi];rfl
   refine ⟨?_,?_,fun _=>⟨i,hio,by simp [e1]⟩⟩
   ·simp only [Bool.false_eq_true,if_false,wfI,e1,e0]
    simp [inB_iff];omega
   ·simp only [Bool.false_eq_true,if_false,e1]
    refine inB_iff.2 ⟨by simp only;omega,?_⟩;simp only;have:=h.v.gs_len;omega
  ·simp only [if_true,wfI,hv]
   exact ⟨by simp,inB_iff.2 (by simp),fun e=>by simp at e⟩
 ·unfold insOf
  rw [if_neg (by omega),if_pos o];exact ⟨by simp [wfI,e0],inB_iff.2 (by simp),fun e=>by simp at e⟩
 ·unfold insOf
  rw [if_neg (by omega),if_neg (by omega),if_neg (by omega),if_neg (by omega)];exact ⟨by simp [wfI,e0,inB_iff];omega,inB_iff.2 (by simp only;omega),fun e=>by simp at e⟩
 ·unfold insOf
  rw [if_neg (by omega),if_neg (by omega),if_neg (by omega),if_pos o];have:=(h.call j x hx o).1;exact ⟨by simp [wfI,this],inB_iff.2 (by simp),fun e=>by simp at e⟩
theorem tr_len {p:Prg} (h:p.K) {j:Nat} {x:Nd} (hx:p.ns[j]?=some x):(p.tr j).length=1+(x.args.map fun a=>(p.tr a.toNat).length).sum:=by
 rw [h.v.tr_step hx,List.length_append,List.length_flatMap];simp;omega
theorem trs_len {p:Prg}:∀k,k≤p.gs.length→(p.trs k).length=((p.gs.take k).map fun a=>(p.tr a.root.toNat).length).sum+k:=by
 intro k
 induction k with
 | zero=>intro _;rfl
 | succ k ih=>
  intro hk
  have ha:p.gs[k]?=some p.gs[k]:=by simp [show k<p.gs.length by omega]
  rw [Prg.trs_step ha,List.length_append,ih (by omega),←List.take_append_getElem (show k<p.gs.length by omega),List.map_append,List.sum_append];simp;omega
theorem code_len {p:Prg} (h:p.K):p.code.xs.length≤120:=by
 show (p.trs p.gs.length).length≤120
 rw [trs_len _ (Nat.le_refl _),List.take_length,h.v.sum_roots (fun j=>(p.tr j).length) fun j x hx=>tr_len h hx];have:=h.v.len;have:=h.v.gs_len;omega
theorem runD_ins {p:Prg} (h:p.K) {j:Nat} {x:Nd} (hx:p.ns[j]?=some x) {st:Nat→Bool} (hst:∀i,i<p.own j→st i=true) (rest:List Ins) (d m:Int) (hd:0≤d) (hr:∀m',(runD p.gs.length rest (d+1) m' st).isSome=true) :
  (runD p.gs.length (insOf p x::rest) (d+x.args.length) m st).isSome=true:=by
 obtain ⟨h1,h2,h3⟩:=insOf_pops h hx;obtain ⟨w1,w2,w3⟩:=insOf_wf h hx;unfold runD;rw [if_pos ⟨w1,fun e=>by obtain ⟨i,hi,hn⟩:=w3 e;rw [hn];exact hst i hi,by rw [h1];omega⟩,h1,h3]
 have em:markSt (insOf p x).op (insOf p x).num st=st:=by unfold markSt;rw [if_neg h2]
 rw [em,show d+(x.args.length:Int) - x.args.length+1=d+1 by omega];exact hr _
theorem runD_tr {p:Prg} (h:p.K):∀(F j:Nat),j<F→j<p.ns.length→∀(st:Nat→Bool),(∀i,i<p.own j→st i=true)→∀(rest:List Ins) (d m:Int),0≤d→(∀m',(runD p.gs.length rest (d+1) m' st).isSome=true) →
  (runD p.gs.length (p.tr j++rest) d m st).isSome=true:=by
 intro F
 induction F with
 | zero=>intro j hj;omega
 | succ F ih=>
  intro j hj hjl st hst rest d m hd hr
  have hx:p.ns[j]?=some p.ns[j]:=by simp [hjl]
  obtain ⟨x,hxe⟩:∃x,p.ns[j]=x:=⟨_,rfl⟩
  rw [hxe] at hx;rw [h.v.tr_step hx,List.append_assoc]
  have key:∀(es:List Int),(∀a∈es,a∈x.args)→∀(rest:List Ins) (d m:Int),0≤d→(∀m',(runD p.gs.length rest (d+es.length) m' st).isSome=true)→(runD p.gs.length ((es.flatMap fun a=>p.tr a.toNat)++rest) d m st).isSome=true:=by
   intro es
   induction es with
   | nil=>intro _ rest d m _ hr;simpa using hr m
   | cons a r ihr=>
    intro hs rest d m hd hr;have ha:=hs a (by simp);have hk:=h.rank_arg hx ha;have hlt:=(h.v.nd j x hx).2 a ha;rw [List.flatMap_cons,List.append_assoc];refine ih a.toNat (by omega) hk.2.1 st (by rw [hk.2.2];exact hst) _ d m hd fun m'=>?_;refine ihr (fun b hb=>hs b (by simp [hb])) rest (d+1) m' (by omega) fun m2=>?_;have:=hr m2;rw [List.length_cons] at this;rw [show d+1+(r.length:Int)=d+((r.length+1:Nat):Int) by omega];exact this
  exact key x.args (fun a ha=>ha) _ d m hd fun m'=>runD_ins h hx hst rest d m' hd hr
theorem runD_trs {p:Prg} (h:p.K):∀k,k≤p.gs.length→∀(rest:List Ins) (m:Int),(∀m' st,(∀i,i<k→st i=true)→(runD p.gs.length rest 0 m' st).isSome=true)→(runD p.gs.length (p.trs k++rest) 0 m fun _=>false).isSome=true:=by
 intro k
 induction k with
 | zero=>intro _ rest m hr;rw [Prg.trs,List.nil_append];exact hr m _ fun i hi=>by omega
 | succ k ih=>
  intro hk rest m hr
  have ha:p.gs[k]?=some p.gs[k]:=by simp [show k<p.gs.length by omega]
  obtain ⟨a,hae⟩:∃a,p.gs[k]=a:=⟨_,rfl⟩
  rw [hae] at ha;have hra:=(h.v.ag k a ha).2
  have e2:a=⟨a.name,(a.root.toNat:Nat)⟩:=by cases a;simp only [Asg.mk.injEq,true_and] at *;omega
  have ho:p.own a.root.toNat=k:=h.v.own_eq (Own.root (s:=a.name) (by rw [ha];exact congrArg some e2))
  have e0:((⟨#[]⟩:ByteArray).toList==[])=true:=by rw [Lib.toList_data];rfl
  rw [Prg.trs_step ha,List.append_assoc];refine ih (by omega) _ m fun m' st hst=>?_;rw [List.append_assoc];refine runD_tr h (a.root.toNat+1) a.root.toNat (by omega) (by omega) st (by rw [ho];exact hst) _ 0 m' (by omega) fun m2=>?_
  show (runD p.gs.length (_::rest) _ _ _).isSome=true
  unfold runD;rw [if_pos ⟨by simp [wfI,e0,inB_iff];omega,fun e=>by simp at e,by show (1:Int)≤0+1;omega⟩];refine hr _ _ fun i hi=>?_
  show markSt 4 ((k:Nat):Int) st i=true
  unfold markSt;rw [if_pos rfl];simp only [Int.toNat_natCast]
  by_cases e:i=k
  ·rw [if_pos e]
  ·rw [if_neg e];exact hst i (by omega)
theorem trs_num {p:Prg} (h:p.K):∀x∈p.code.xs,numB x=true:=by
 have t1:∀(F j:Nat),j<F→j<p.ns.length→∀x∈p.tr j,numB x=true:=by
  intro F
  induction F with
  | zero=>intro j hj;omega
  | succ F ih=>
   intro j hj hjl y hy
   have hx:p.ns[j]?=some p.ns[j]:=by simp [hjl]
   rw [h.v.tr_step hx] at hy
   rcases List.mem_append.1 hy with hy|hy
   ·obtain ⟨a,ha,hy⟩:=List.mem_flatMap.1 hy
    have hk:=h.rank_arg hx ha;have hlt:=(h.v.nd j _ hx).2 a ha;exact ih a.toNat (by omega) hk.2.1 y hy
   ·rw [List.mem_singleton.1 hy]
    exact (insOf_wf h hx).2.1
 have t2:∀k,k≤p.gs.length→∀x∈p.trs k,numB x=true:=by
  intro k
  induction k with
  | zero=>intro _ x hx;cases hx
  | succ k ih=>
   intro hk x hx
   have ha:p.gs[k]?=some p.gs[k]:=by simp [show k<p.gs.length by omega]
   have hra:=(h.v.ag k _ ha).2;rw [Prg.trs_step ha] at hx
   rcases List.mem_append.1 hx with hx|hx
   ·exact ih (by omega) x hx
   ·rcases List.mem_append.1 hx with hx|hx
    ·exact t1 _ _ (Nat.lt_succ_self _) (by omega) x hx
    ·rw [List.mem_singleton.1 hx]
     have:=h.v.gs_len;exact inB_iff.2 (by simp only;omega)
 exact t2 _ (Nat.le_refl _)
theorem Prg.K.runB {p:Prg} (h:p.K):p.code.runB=true:=by
 unfold Cod.runB;rw [Bool.and_eq_true];refine ⟨?_,List.all_eq_true.2 (trs_num h)⟩;unfold Cod.depth;rw [if_pos (by have:=code_len h;omega)]
 show (runD (p.gs.map (·.name)).length (p.trs p.gs.length) 0 0 fun _=>false).isSome=true
 rw [List.length_map];have:=runD_trs h p.gs.length (Nat.le_refl _) [] 0 fun m' st _=>rfl
 rwa [List.append_nil] at this
theorem ix_frst {gs:List Asg} {l:List UInt8}:ixL l (gs.map (·.name))=match frst gs gs.length l with|some k=>(k:Int)|none=>-1:=by
 cases h:frst gs gs.length l with
 | none=>
  refine ixL_no fun j z hj hz=>?_;rw [List.getElem?_map] at hz;obtain ⟨a,ha,rfl⟩:=Option.map_eq_some_iff.1 hz;intro e;have h1:=frst_no (t:=gs.length) h;rw [asgB_iff.2 ⟨j,a,(List.getElem?_eq_some_iff.1 ha).1,ha,e⟩] at h1;cases h1
 | some k=>
  obtain ⟨h1,⟨a,h2,h3⟩,h4⟩:=frst_some h;refine ixL_at (y:=a.name) (by simp [h2]) h3 fun j z hj hz=>?_;rw [List.getElem?_map] at hz;obtain ⟨b,hb,rfl⟩:=Option.map_eq_some_iff.1 hz;exact h4 j b hj hb
theorem evV_good {p:Prg} (h:p.K) {g:Grd} (hg:g.okB=true) {r:Nat} (hr:r<p.ns.length):good g.m (evV p g r):=by
 obtain ⟨n,hn,hnm,n1,n8,_,ht,hf⟩:=Grd.partsE hg
 have hV:evV p g=p.ev n g.m g.f g.tm g.t:=by unfold evV;rw [hn];rfl
 rw [hV];exact h.ev_good hnm hf ht (p.rank r+1) r (by omega) hr
theorem getD_mapc {xs:List Int} {q:Nat} (h:q<xs.length):(xs.map col).getD q 0=col (xs.getD q 0):=by
 rw [List.getD_eq_getElem?_getD,List.getD_eq_getElem?_getD,List.getElem?_map,List.getElem?_eq_getElem h]
 rfl
theorem Prg.K.shade {p:Prg} (h:p.K) (hp:p.chkB=true) {g:Grd} (hg:g.okB=true):∃X Y:List Int,p.code.shade g=(X,Y,true)∧X.length=g.m∧Y.length=g.m ∧
  ∀i j:Nat,(i:Int)<g.n→(j:Int)<g.n→X.getD ((j:Int)*g.n+i).toNat 0=shC p g i j∧Y.getD ((j:Int)*g.n+i).toNat 0=shA p g i j:=by
 obtain ⟨n,hn,hnm,n1,n8,_,ht,hf⟩:=Grd.partsE hg
 have hm0:0<g.m:=by rw [←hnm];exact Nat.mul_pos n1 n1
 have hR:(p.code.runB&&g.okB)=true:=by rw [h.runB,hg];rfl
 have hres:p.code.res g=p.code.out g:=by unfold Cod.res;rw [if_pos hR]
 obtain ⟨k,hk⟩:=h.col;obtain ⟨s,r,k1,k2,k3,k4⟩:=h.asg hk
 have hci:colorIx p.code.ls=(k:Int):=by
  unfold colorIx;rw [colS]
  show ixL _ (p.gs.map (·.name))=_
  rw [ix_frst,hk]
 have o1:(p.code.out g).getD k []=evV p g r:=by have:=h.out g k _ k1;simpa using this
 have g1:=evV_good h hg k2
 have ne:∀{xs:List Int},xs.length=g.m→xs≠[]:=fun hl e=>by rw [e] at hl;simp at hl;omega
 have pt:∀i j:Nat,(i:Int)<g.n→(j:Int)<g.n→∃q,((j:Int)*g.n+i).toNat=q∧q<g.m∧evOk p g i j=true:=fun i j hi hj=>by
  refine ⟨_,rfl,?_,?_⟩
  ·rw [hn] at hi hj ⊢
   have:=at_lt hnm (i:=i) (j:=j) (by omega) (by omega);rw [show ((j:Int)*n+i)=((j*n+i:Nat):Int) by simp];exact this
  ·unfold evOk
   rw [hp,hg];simp only [Bool.true_and,Bool.and_eq_true];exact ⟨inB_iff.2 (by omega),inB_iff.2 (by omega)⟩
 have hcol:∀i j:Nat,(i:Int)<g.n→(j:Int)<g.n→((evV p g r).map Go.Proofs.YtfjbiifebcfjfaaGreat.col).getD ((j:Int)*g.n+i).toNat 0=shC p g i j:=fun i j hi hj=>by
  obtain ⟨q,hq,hqm,hok⟩:=pt i j hi hj;unfold shC;rw [if_pos hok,hq,named_some hk k1,getD_mapc (by rw [g1.1];exact hqm)]
  rfl
 cases ha:frst p.gs p.gs.length [97,108,112,104,97] with
 | none=>
  have hai:alphaIx p.code.ls = -1:=by
   unfold alphaIx;rw [alphaS]
   show ixL _ (p.gs.map (·.name))=_
   rw [ix_frst,ha]
  refine ⟨(evV p g r).map Go.Proofs.YtfjbiifebcfjfaaGreat.col,List.replicate g.m 256,?_,by rw [List.length_map,g1.1],by simp,fun i j hi hj=>⟨hcol i j hi hj,?_⟩⟩
  ·unfold Cod.shade
   rw [hci,hai,hres,Int.toNat_natCast,o1,if_pos ⟨hR,by omega,ne g1.1,.inl (by omega)⟩,if_pos (by omega)]
  ·obtain ⟨q,hq,hqm,hok⟩:=pt i j hi hj
   unfold shA;rw [if_pos hok,hq,named_none ha,List.getD_eq_getElem?_getD,List.getElem?_replicate,if_pos hqm]
   rfl
 | some l=>
  obtain ⟨s',r',l1,l2,l3,l4⟩:=h.asg ha
  have hai:alphaIx p.code.ls=(l:Int):=by
   unfold alphaIx;rw [alphaS]
   show ixL _ (p.gs.map (·.name))=_
   rw [ix_frst,ha]
  have o2:(p.code.out g).getD l []=evV p g r':=by have:=h.out g l _ l1;simpa using this
  have g2:=evV_good h hg l2;refine ⟨(evV p g r).map Go.Proofs.YtfjbiifebcfjfaaGreat.col,(evV p g r').map Go.Proofs.YtfjbiifebcfjfaaGreat.col,?_,by rw [List.length_map,g1.1],by rw [List.length_map,g2.1],fun i j hi hj=>⟨hcol i j hi hj,?_⟩⟩
  ·unfold Cod.shade
   rw [hci,hai,hres,Int.toNat_natCast,Int.toNat_natCast,o1,o2,if_pos ⟨hR,by omega,ne g1.1,.inr (ne g2.1)⟩,if_neg (by omega)]
  ·obtain ⟨q,hq,hqm,hok⟩:=pt i j hi hj
   unfold shA;rw [if_pos hok,hq,named_some ha l1,getD_mapc (by rw [g2.1];exact hqm)]
   rfl
def PrgsR (lo hi:Nat) (w:World) (v:Value) (ps:List Prg):Prop:=
 ∃a cap,v = .slice a ps.length cap∧ps.length≤cap∧cap≤maxLen∧∀k p,ps[k]?=some p→∃b off u1 u2,a=some ⟨b,off,none⟩∧lo≤b∧b<hi∧w.cell? ⟨b,off+k*2,none⟩=some u1∧w.cell? ⟨b,off+k*2+1,none⟩=some u2∧p.R lo hi w (.agg #[u1,u2])
theorem PrgsR.same {lo hi:Nat} {w w':World} {v:Value} {ps:List Prg} (h:PrgsR lo hi w v ps) (s:Same lo hi w w'):PrgsR lo hi w' v ps:=by
 obtain ⟨a,cap,h1,h2,h3,h4⟩:=h;refine ⟨a,cap,h1,h2,h3,fun k p hk=>?_⟩;obtain ⟨b,off,u1,u2,e1,e2,e3,e4,e5,e6⟩:=h4 k p hk;exact ⟨b,off,u1,u2,e1,e2,e3,(s.cell e2 e3).trans e4,(s.cell e2 e3).trans e5,e6.same s⟩
theorem PrgsR.ext {lo hi:Nat} {w w':World} {v:Value} {ps:List Prg} (h:PrgsR lo hi w v ps) (hh:hi≤w.heap.size) (e:Ext w w'):PrgsR lo hi w' v ps:=h.same (e.same hh)
structure PrgsAt (lo hi:Nat) (w:World) (a:Option Addr) (cap:Nat) (ps:List Prg):Prop where
 le:ps.length≤cap
 cap:cap≤9223372036854775807
 cell:∀k p,ps[k]?=some p→∃b off u1 u2,a=some ⟨b,off,none⟩∧lo≤b∧b<hi∧w.cell? ⟨b,off+k*2,none⟩=some u1∧w.cell? ⟨b,off+k*2+1,none⟩=some u2∧p.R lo hi w (.agg #[u1,u2])
theorem PrgsR.open {lo hi:Nat} {w:World} {v:Value} {ps:List Prg} (h:PrgsR lo hi w v ps):∃a cap,v = .slice a ps.length cap∧PrgsAt lo hi w a cap ps:=by
 obtain ⟨a,cap,g1,g2,g3,g4⟩:=h;exact ⟨a,cap,g1,g2,by unfold maxLen at g3;omega,g4⟩
theorem PrgsAt.shut {lo hi:Nat} {w:World} {a:Option Addr} {cap:Nat} {ps:List Prg} (h:PrgsAt lo hi w a cap ps):PrgsR lo hi w (.slice a ps.length cap) ps:=
 ⟨a,cap,rfl,h.le,by unfold maxLen;have:=h.cap;omega,h.cell⟩
theorem PrgsAt.at {lo hi:Nat} {w:World} {a:Option Addr} {cap:Nat} {ps:List Prg} (h:PrgsAt lo hi w a cap ps) {k:Nat} (hk:k<ps.length) {wr:World} (hx:Ext w wr) (hh:hi≤w.heap.size) :
  ∃b off a1 c1 a2 c2,a=some ⟨b,off,none⟩∧b<w.heap.size∧b<wr.heap.size∧wr.cell? ⟨b,off+k*2,none⟩=some (.slice a1 ps[k].ns.length c1)∧wr.cell? ⟨b,off+k*2+1,none⟩=some (.slice a2 ps[k].gs.length c2)∧ps[k].R lo hi wr (.agg #[.slice a1 ps[k].ns.length c1,.slice a2 ps[k].gs.length c2]):=by
 obtain ⟨b,off,u1,u2,e,h1,h2,c0,c1,hu⟩:=h.cell k ps[k] (by simp [hk]);have hz:=hx.size;obtain ⟨a1,k1,a2,k2,e1,-,-⟩:=hu.form;simp only [Value.agg.injEq,Array.mk.injEq,List.cons.injEq,and_true] at e1;obtain ⟨rfl,rfl⟩:=e1;exact ⟨b,off,a1,k1,a2,k2,e,by omega,by omega,(hx.cells.1 b _ (by omega)).trans c0,(hx.cells.1 b _ (by omega)).trans c1,hu.ext hh hx⟩
structure Scn where
 c:Cam
 t:Tex
 ps:List Prg
 m:Nat
 F:Nat→Int
 side:Int
def Scn.st (s:Scn) (k:Nat):Nat→Int:=fun j=>s.F (k*26+j)
def Scn.en (s:Scn) (k:Nat):Nat→Int:=fun j=>s.F (k*26+12+j)
def Scn.sh (s:Scn) (k:Nat):Int:=s.F (k*26+24)
def Scn.rt (s:Scn) (k:Nat):Int:=s.F (k*26+25)
def Scn.R (s:Scn) (lo hi:Nat) (w:World) (v:Value):Prop:=
 ∃tu pu su,v = .agg #[.int .i64 s.c.w,.int .i64 s.c.h,.int .i64 s.c.zoom,.int .i64 s.c.near,.bool s.c.deep,.int .i64 s.c.lens,.int .i64 s.c.focus,.int .i64 s.t.log,tu,pu,su,.int .i64 s.side] ∧
  s.c.I∧I64 s.t.log∧I64 s.side∧Ints lo hi w tu s.t.px∧PrgsR lo hi w pu s.ps∧Flats 26 lo hi w su s.m s.F
theorem Scn.R.same {s:Scn} {lo hi:Nat} {w w':World} {v:Value} (h:s.R lo hi w v) (e:Same lo hi w w'):s.R lo hi w' v:=by
 obtain ⟨tu,pu,su,h1,h2,h3,h4,h5,h6,h7⟩:=h;exact ⟨tu,pu,su,h1,h2,h3,h4,h5.same e,h6.same e,h7.same e⟩
theorem Scn.R.ext {s:Scn} {lo hi:Nat} {w w':World} {v:Value} (h:s.R lo hi w v) (hh:hi≤w.heap.size) (e:Ext w w'):s.R lo hi w' v:=h.same (e.same hh)
theorem Scn.R.form {s:Scn} {lo hi:Nat} {w:World} {v:Value} (h:s.R lo hi w v) :
  ∃a1 c1 a2 c2 a3 c3,v = .agg #[.int .i64 s.c.w,.int .i64 s.c.h,.int .i64 s.c.zoom,.int .i64 s.c.near,.bool s.c.deep,.int .i64 s.c.lens,.int .i64 s.c.focus,.int .i64 s.t.log,.slice a1 s.t.px.length c1,.slice a2 s.ps.length c2,.slice a3 s.m c3,.int .i64 s.side] ∧
   s.c.I∧I64 s.t.log∧I64 s.side∧IntsAt lo hi w a1 c1 s.t.px∧PrgsAt lo hi w a2 c2 s.ps∧FlatsAt 26 lo hi w a3 c3 s.m s.F:=by
 obtain ⟨tu,pu,su,rfl,h2,h3,h4,h5,h6,h7⟩:=h;obtain ⟨a1,c1,rfl,H1⟩:=h5.open;obtain ⟨a2,c2,rfl,H2⟩:=h6.open;obtain ⟨a3,c3,rfl,H3⟩:=h7.open;exact ⟨a1,c1,a2,c2,a3,c3,rfl,h2,h3,h4,H1,H2,H3⟩
def patB (f:Nat→Int):Bool:=okVec (f 0) (f 1) (f 2)&&okVec (f 3) (f 4) (f 5)&&okVec (f 6) (f 7) (f 8)&&okVec (f 9) (f 10) (f 11)
def rateB (r:Int):Bool:=r==1||r==2||r==4||r==8
def sideB (r:Int):Bool:=r==1||r==2||r==4
def srfB (f g:Nat→Int) (sh rt:Int) (n:Nat):Bool:=patB f&&patB g&&decide (0≤sh)&&decide (sh<(n:Int))&&rateB rt
def Scn.srfB (s:Scn) (k:Nat):Bool:=YtfjbiifebcfjfaaGreat.srfB (s.st k) (s.en k) (s.sh k) (s.rt k) s.ps.length
noncomputable def Scn.okB (s:Scn):Bool:=s.c.okB&&s.t.okB&&inB (s.ps.length:Int) 1 3&&decide (s.m≤5)&&sideB s.side&&s.ps.all Prg.chkB&&(List.range s.m).all s.srfB
def Scn.small (s:Scn):Prop:=∀p∈s.ps,p.bd∧p.small
structure Scn.Ok (s:Scn):Prop where
 c:s.c.Ok
 cb:s.c.okB=true
 t:s.t.okB=true
 n:1≤s.ps.length∧s.ps.length≤3
 m:s.m≤5
 side:s.side=1∨s.side=2∨s.side=4
 prg:∀p∈s.ps,p.chkB=true
 srf:∀k,k<s.m→s.srfB k=true
theorem Scn.okB_iff {s:Scn}:s.okB=true↔s.Ok:=by
 unfold Scn.okB sideB;simp only [Bool.and_eq_true,inB_iff,decide_eq_true_eq,List.all_eq_true,List.mem_range,Bool.or_eq_true,beq_iff_eq]
 constructor
 ·rintro ⟨⟨⟨⟨⟨⟨a,b⟩,d,d'⟩,e⟩,f⟩,g⟩,h⟩
  exact ⟨Cam.okB_iff.1 a,a,b,⟨by omega,by omega⟩,e,by omega,g,h⟩
 ·rintro ⟨a,a',b,d,e,f,g,h⟩
  exact ⟨⟨⟨⟨⟨⟨a',b⟩,by omega,by omega⟩,e⟩,by omega⟩,g⟩,h⟩
structure SrfOk (f g:Nat→Int) (sh rt:Int) (n:Nat):Prop where
 f:patB f=true
 g:patB g=true
 sh:0≤sh∧sh<n
 rt:rt=1∨rt=2∨rt=4∨rt=8
theorem srfB_iff {f g:Nat→Int} {sh rt:Int} {n:Nat}:YtfjbiifebcfjfaaGreat.srfB f g sh rt n=true↔SrfOk f g sh rt n:=by
 unfold YtfjbiifebcfjfaaGreat.srfB rateB;simp only [Bool.and_eq_true,decide_eq_true_eq,Bool.or_eq_true,beq_iff_eq]
 constructor
 ·rintro ⟨⟨⟨⟨a,b⟩,c⟩,d⟩,e⟩
  exact ⟨a,b,⟨c,d⟩,by omega⟩
 ·rintro ⟨a,b,⟨c,d⟩,e⟩
  exact ⟨⟨⟨⟨a,b⟩,c⟩,d⟩,by omega⟩
theorem patB_of {f:Nat→Int} (h:∀j,j<12→-1000000≤f j∧f j≤1000000):patB f=true:=by
 unfold patB;simp only [Bool.and_eq_true,okVec_iff];exact ⟨⟨⟨⟨h 0 (by decide),h 1 (by decide),h 2 (by decide)⟩,h 3 (by decide),h 4 (by decide),h 5 (by decide)⟩,h 6 (by decide),h 7 (by decide),h 8 (by decide)⟩,h 9 (by decide),h 10 (by decide),h 11 (by decide)⟩
def min3 (a b:Int):Int:=if b<a then b else a
def nearP (f:Nat→Int):Int:=min3 (min3 (min3 (cl (f 2)) (cl (f 5))) (cl (f 8))) (cl (f 11))
def nearS (f g:Nat→Int):Int:=min3 (nearP f) (nearP g)
theorem le_min3 {a b m:Int} (ha:m≤a) (hb:m≤b):m≤min3 a b:=by unfold min3;split <;> assumption
def gridF (f:Nat→Int) (n:Nat):Nat→Int:=fun q=>
 if q % 5=0 then ((q / 5 % n:Nat):Int)*256 / (n:Int) else if q % 5=1 then ((q / 5 / n:Nat):Int)*256 / (n:Int)
 else if q % 5=2 then (evP f ((q / 5 % n:Nat):Int) ((q / 5 / n:Nat):Int) n).x else if q % 5=3 then (evP f ((q / 5 % n:Nat):Int) ((q / 5 / n:Nat):Int) n).y
 else (evP f ((q / 5 % n:Nat):Int) ((q / 5 / n:Nat):Int) n).z
def gridP (f:Nat→Int) (n:Nat) (t:Tex):Grd:=⟨(n:Int),n*n,gridF f n,0,t⟩
def Scn.prg (s:Scn) (k:Nat):Prg:=s.ps.getD (s.sh k).toNat ⟨[],[]⟩
def Scn.grd (s:Scn) (k:Nat):Grd:=gridP (s.st k) (s.rt k).toNat s.t
def Scn.shade (s:Scn) (k:Nat):List Int×List Int:=let r:=(s.prg k).code.shade (s.grd k);(r.1,r.2.1)
def Scn.hits (s:Scn) (k:Nat) (p:Smp):List Frag:=hitsL s.c (midP (s.st k) (s.en k) p.t) (s.rt k).toNat p (k:Nat) (s.shade k).1 (s.shade k).2
def Scn.near (s:Scn) (k:Nat):Int:=nearS (s.st k) (s.en k)
theorem Ext.setRow {w w1:World} (h:Ext w w1) {g:Nat} (hg:w.heap.size≤g) (cs:Array Value):Ext w (w1.setRow g cs):=
 Below.trans h ⟨rfl,rfl,rfl,by simp,fun k hk=>setRow_other _ _ _ _ (by omega)⟩
theorem Blk.row {w:World} {g:Nat} {t:TypeId} {cs:List Value} (h:Blk w g t cs) (ds:List Value):Blk (w.setRow g ds.toArray) g t ds:=setRow_heap _ _ _ _ _ _ h
theorem wpQuiet_load_mid {P:Program} {ops:Array Oper} {C:World→Prop} {Q:Act→Prop} {a:Act} {op:Oper} {rest:List Oper} (hw:Region.wanted op (yielded ops a.tmps)=true) (ty:TypeId) (x:Operand) (ho:op.op = .load ty x)
  (b o:Nat) (hx:a.eval x = .pointer (some ⟨b,o,none⟩)) (cs:List Value) (d:TypeDesc) (hC:∀w,C w→w.rangeAt b o cs) (hu:P.underlying ty=some d) (hd:d.isRow=true) (hi:(P.info? ty).map (·.size)=some cs.length)
  (h:wpQuiet P ops C Q rest (a.put op.dst (.agg cs.toArray))):wpQuiet P ops C Q (op::rest) a:=by
 refine wpQuiet_step fun K hK=>?_;rw [if_pos hw];refine ⟨.agg cs.toArray,fun w hw=>?_,hK _ h⟩;unfold Oper.quietAt execOp;simp only [ho,hx,Sem.run_bind,run_loadAt_mid w b o ty cs d (hC w hw) hu hd hi,Result.andThen_ok];exact ⟨rfl,rfl⟩
def CHt (N:Nat):Addr→Prop:=fun a=>a.block<N
@[go_sem] theorem CHt_of {N k o:Nat} (h:k<N):CHt N ⟨k,o,none⟩:=h
theorem info_srf:(Tryz.prog.info? 42).map (fun i=>i.size)=some 26:=by kernel_rfl
section
variable {P : Program}
end
structure OrdF (lo:Nat) (w:World) (O:Nat) (fs:List Frag) (v:Value):Prop where
 box:Blk w O 176 [v,.func (.func 103) #[] #[]]
 low:lo≤O
 row:OwnG Frag.cs lo 47 5 w v fs
theorem OrdF.ext {lo O:Nat} {w w':World} {fs:List Frag} {v:Value} (h:OrdF lo w O fs v) (x:Ext w w'):OrdF lo w' O fs v:=⟨h.box.ext x,h.low,h.row.ext x⟩
theorem OwnG.rowF {α : Type} {cs : α→List Value} {lo:Nat} {e:TypeId} {sz:Nat} {w:World} {v:Value} {xs:List α} (h:OwnG cs lo e sz w v xs):∀k,v.ownBlock=some k→lo≤k∧∃c,w.heap[k]?=some (.cells c e (0,0)):=by
 intro k hk
 rcases h.2 with ⟨rfl,h4⟩|⟨g,cap,cur,rfl,hb,hg,_⟩
 ·cases hk
 ·simp only [Value.ownBlock,Option.some.injEq] at hk
  subst hk;exact ⟨hb,cur,hg⟩
def C3f (b c d:Nat):Addr→Prop:=fun a=>a.block=b∨a.block=c∨a.block=d
@[go_sem] theorem C3f_1 (b c d o:Nat):C3f b c d ⟨b,o,none⟩:=.inl rfl
@[go_sem] theorem C3f_2 (b c d o:Nat):C3f b c d ⟨c,o,none⟩:=.inr (.inl rfl)
@[go_sem] theorem C3f_3 (b c d o:Nat):C3f b c d ⟨d,o,none⟩:=.inr (.inr rfl)
section
variable {P : Program} {ops : Array Oper} {Q : Exit → Act → World → Prop} {md : Region.Mode} {S : World → Prop} {y : Nat} {R : Array Bool → Act → World → Prop}
end
theorem near_ge {f g:Nat→Int} {m:Int} (hm:m≤1000000) (hf:m≤f 2∧m≤f 5∧m≤f 8∧m≤f 11) (hg:m≤g 2∧m≤g 5∧m≤g 8∧m≤g 11):m≤nearS f g:=by
 have k:∀x,m≤x→m≤cl x:=fun x hx=>by
  unfold cl clampI
  split
  ·omega
  ·split <;> omega
 exact le_min3 (le_min3 (le_min3 (le_min3 (k _ hf.1) (k _ hf.2.1)) (k _ hf.2.2.1)) (k _ hf.2.2.2)) (le_min3 (le_min3 (le_min3 (k _ hg.1) (k _ hg.2.1)) (k _ hg.2.2.1)) (k _ hg.2.2.2))
def Byts (hi:Nat) (w:World) (v:Value) (n:Nat):Prop:=
 ∃a cap,v = .slice a n cap∧n≤cap∧cap≤maxLen∧∀i,i<n→∃b off x,a=some ⟨b,off,none⟩∧b<hi∧0≤x∧x≤255∧w.cell? ⟨b,off+i,none⟩=some (.int .u8 x)
theorem Byts.same {hi:Nat} {w w':World} {v:Value} {n:Nat} (h:Byts hi w v n) (s:Same 0 hi w w'):Byts hi w' v n:=by
 obtain ⟨a,cap,h1,h2,h3,h4⟩:=h;refine ⟨a,cap,h1,h2,h3,fun i hx=>?_⟩;obtain ⟨b,off,x,h6,h7,h8,h9,h10⟩:=h4 i hx;exact ⟨b,off,x,h6,h7,h8,h9,by rw [s.cell (Nat.zero_le _) h7];exact h10⟩
theorem Byts.ext {hi:Nat} {w w':World} {v:Value} {n:Nat} (h:Byts hi w v n) (hh:hi≤w.heap.size) (e:Ext w w'):Byts hi w' v n:=h.same (e.same hh)
theorem Byts.open {hi:Nat} {w:World} {v:Value} {n:Nat} (h:Byts hi w v n):∃a cap,v = .slice a n cap∧n≤cap∧cap≤9223372036854775807:=by
 obtain ⟨a,cap,h1,h2,h3,_⟩:=h;exact ⟨a,cap,h1,h2,by unfold maxLen at h3;omega⟩
theorem Byts.at {hi:Nat} {w:World} {a:Option Addr} {cap n:Nat} (h:Byts hi w (.slice a n cap) n) {i:Nat} (hi':i<n):∃b off x,a=some ⟨b,off,none⟩∧b<hi∧0≤x∧x≤255∧w.cell? ⟨b,off+i,none⟩=some (.int .u8 x):=by
 obtain ⟨a',cap',h1,h2,h3,h4⟩:=h;simp only [Value.slice.injEq,true_and] at h1;obtain ⟨rfl,rfl⟩:=h1;exact h4 i hi'
def Cur (hi:Nat) (w:World) (B:Nat):Prop:=
 hi≤B∧∃v n i h,Blk w B 152 [v,.int .i64 (i:Nat),.int .i64 h]∧Byts hi w v n∧i≤n∧n≤1048576∧I64 h
theorem Cur.lt {hi:Nat} {w:World} {B:Nat} (h:Cur hi w B):B<w.heap.size:=by
 obtain ⟨_,v,n,i,q,h1,_⟩:=h;exact h1.lt
theorem Cur.ext {hi:Nat} {w w':World} {B:Nat} (h:Cur hi w B) (e:Ext w w'):Cur hi w' B:=by
 have hl:=h.lt;obtain ⟨h0,v,n,i,q,h1,h2,h3⟩:=h;exact ⟨h0,v,n,i,q,h1.ext e,h2.ext (by omega) e,h3⟩
def Gr (B:Nat) (w w':World):Prop:=w.grownBy w' (some B)
theorem Gr.refl (B:Nat) (w:World):Gr B w w:=World.grownBy.refl w _
theorem Gr.trans {B:Nat} {w w1 w2:World} (h:Gr B w w1) (k:Gr B w1 w2):Gr B w w2:=grownBy.trans h k
theorem Gr.ext {B:Nat} {w w1 w2:World} (h:Gr B w w1) (k:Ext w1 w2):Gr B w w2:=h.trans (k.gr _)
theorem Gr.size {B:Nat} {w w1:World} (h:Gr B w w1):w.heap.size≤w1.heap.size:=World.grownBy.size h
theorem Gr.set {B:Nat} {w w1:World} (h:Gr B w w1) (i:Nat) (u:Value):Gr B w (w1.setCell ⟨B,i,none⟩ u):=
 ⟨h.os,h.tape,h.output,by rw [World.size_setCell];exact h.size,fun k hk hne=>(Below.heap_setCell _ _ _ _ (fun e=>hne (by simp only at e;rw [e]))).trans (h.block k hk hne)⟩
theorem Gr.up {B:Nat} {w0 w w1:World} (h:Gr B w w1) (e:Ext w0 w) (hB:w0.heap.size≤B):Ext w0 w1:=Ext.grown e h (fun k hk=>by simp only [Option.some.injEq] at hk;omega)
theorem Gr.blk {B:Nat} {w w1:World} (h:Gr B w w1) {g:Nat} {t:TypeId} {cs:List Value} (k:Blk w g t cs) (ne:g≠B):Blk w1 g t cs:=k.grown h (fun e=>ne (by simpa using e))
theorem Gr.step {B:Nat} {wa w w':World} {row:Option Nat} (h:Gr B wa w) (hg:w.grownBy w' row) (hr:∀k,row=some k→wa.heap.size≤k):Gr B wa w':=
 ⟨hg.os.trans h.os,hg.tape.trans h.tape,hg.output.trans h.output,Nat.le_trans h.size hg.size,fun k hk hne=>(hg.block k (Nat.lt_of_lt_of_le hk h.size) (fun e=>by have:=hr k e.symm;omega)).trans (h.block k hk hne)⟩
theorem Cur.keep {hi:Nat} {w w':World} {B:Nat} (h:Cur hi w B) (e:∀b,b≤B→w'.heap[b]?=w.heap[b]?):Cur hi w' B:=by
 obtain ⟨h0,v,n,i,q,h1,h2,h3⟩:=h;exact ⟨h0,v,n,i,q,h1.of (e _ (Nat.le_refl _)),h2.same (fun b _ hb=>e b (by omega)),h3⟩
structure TSt (hi B:Nat) (wa wr:World) (g:Nat) (L:Int) (v:Value) (px:List Int):Prop where
 gr:Gr B wa wr
 low:wa.heap.size≤g
 cur:Cur hi wr B
 box:Blk wr g 27 [.int .i64 L,v]
 own:OwnInts (g+1) wr v px
 all:∀p∈px,0≤p∧p≤256
theorem TSt.to {hi B:Nat} {wa wr w':World} {g:Nat} {L:Int} {v:Value} {px:List Int} (h:TSt hi B wa wr g L v px) (e:Ext wr w'):TSt hi B wa w' g L v px:=
 ⟨h.gr.ext e,h.low,h.cur.ext e,h.box.ext e,h.own.ext e,h.all⟩
def leaves:List ByteArray:=[⟨#[117]⟩,⟨#[118]⟩,⟨#[120]⟩,⟨#[121]⟩,⟨#[122]⟩,⟨#[116]⟩,⟨#[49]⟩,⟨#[48,46,53]⟩,⟨#[50]⟩,⟨#[48,46,50,53]⟩]
def Cam.ls (c:Cam):List Value:=[.int .i64 c.w,.int .i64 c.h,.int .i64 c.zoom,.int .i64 c.near,.bool c.deep,.int .i64 c.lens,.int .i64 c.focus]
structure Cam.Sm (c:Cam):Prop where
 w:2≤c.w∧c.w≤5
 h:2≤c.h∧c.h≤5
 zoom:1≤c.zoom∧c.zoom≤65536
 near:20≤c.near∧c.near≤80
 lens:0≤c.lens∧c.lens≤64
 focus:0≤c.focus∧c.focus≤1000000
theorem Cam.Sm.okB {c:Cam} (h:c.Sm):c.okB=true:=Cam.okB_iff.2 ⟨by have:=h.w;omega,by have:=h.h;omega,h.zoom,by have:=h.near;omega,h.lens,h.focus⟩
theorem Gr.keep {B:Nat} {w w1:World} (h:Gr B w w1) {g:Nat} (hg:g<w.heap.size) (ne:g≠B):w1.heap[g]?=w.heap[g]?:=h.block g hg (fun e=>ne (by simpa using e))
def SmF (f:Nat→Int):Prop:=∀i,-1000≤f i∧f i≤1000
theorem SmF.put {f:Nat→Int} (h:SmF f) (i:Nat) {x:Int} (hx : -1000≤x∧x≤1000):SmF (fun j=>if j=i then x else f j):=fun j=>by
 show -1000≤(if j=i then x else f j)∧(if j=i then x else f j)≤1000
 split
 ·exact hx
 ·exact h j
theorem twelve1 {i:Nat} (h:i<12):i=0∨i=1∨i=2∨i=3∨i=4∨i=5∨i=6∨i=7∨i=8∨i=9∨i=10∨i=11:=by omega
theorem setRow_alloc (w:World) (zs cs:Array Value) (t:TypeId):(w.alloc (.cells zs t)).setRow w.heap.size cs=w.alloc (.cells cs t):=by
 unfold World.setRow World.alloc
 congr 1
 apply Array.ext_getElem?;intro k;simp only [Array.getElem?_modify,Array.getElem?_push]
 by_cases hk:k=w.heap.size
 ·subst hk;simp
 ·simp [hk,Ne.symm hk]
theorem wpList_store_fresh {P:Program} {ops:Array Oper} {rest:List Oper} {o:Oper} {a:Act} {Q:Exit→Act→World→Prop} (w0:World) (zs:Array Value) (t:TypeId) (hgd:o.guard=none) (ty:TypeId) (x y:Operand) (ho:o.op = .store ty x y)
  (hd:o.dst=none) (cells:Array Value) (N:Nat) (hN:w0.heap.size=N) (hx:a.eval x = .pointer (some ⟨N,0,none⟩)) (hy:a.eval y = .agg cells)
  (hi:(P.info? ty).map (·.size)=some cells.size) (hold:zs.size=cells.size) (h1:cells.all (·.oneCell')=true)
  (h:wpList P ops Q rest a (w0.alloc (.cells cells t))):wpList P ops Q (o::rest) a (w0.alloc (.cells zs t)):=by
 subst hN;refine wpList_store_rowTo hgd ty x y ho hd w0.heap.size cells hx hy t zs (Go.Deep.blk_alloc_new _ _) hi hold h1 ?_;rw [setRow_alloc];exact h
def CBox (A:Nat):Addr→Prop:=fun a=>a.block=A
@[go_sem] theorem CBox_of {A k o:Nat} (h:k=A):CBox A ⟨k,o,none⟩:=h
theorem Blk.rowB {w:World} {g:Nat} {t:TypeId} {cs:List Value} (h:Blk w g t cs) (ds:List Value):Blk (w.setRow g ds.toArray) g t ds:=setRow_heap _ _ _ _ _ _ h
theorem Ext.setRowB {w w1:World} (h:Ext w w1) {g:Nat} (hg:w.heap.size≤g) (cs:Array Value):Ext w (w1.setRow g cs):=
 Below.trans h ⟨rfl,rfl,rfl,by simp,fun k hk=>setRow_other _ _ _ _ (by omega)⟩
theorem ret_box {P:Program} {fn:Func} {R:Ending→World→Prop} {a:Act} {w:World} {p:Tmp} {ty:TypeId} {cs:List Value} {g:Nat} {t:TypeId} (h:fn.results=#[.cell p ty]) (hp:a.tmps.getD p undef = .pointer (some ⟨g,0,none⟩)) (hb:Blk w g t cs)
  (d:TypeDesc) (hu:P.underlying ty=some d) (hd:(match d with | .struct _ | .array _ _=>true|_=>false)=true) (hi:(P.info? ty).map (·.size)=some cs.toArray.size) (hdf:a.defers=[]) (hR:R (.returned (.agg cs.toArray)) w):bodyPost P fn R .ret a w:=
 bodyPost_ret (results_cell_row h _ _ g t cs.toArray (0,0) d hp hb hu hd hi) hdf hR
theorem res_box_tmp {P:Program} {fn:Func} {p u:Tmp} {ty:TypeId} {cs:List Value} {g:Nat} {t:TypeId} (h:fn.results=#[.cell p ty,.tmp u]) (tmps:Array Value) (w:World) (hp:tmps.getD p undef = .pointer (some ⟨g,0,none⟩)) (hb:Blk w g t cs)
  (d:TypeDesc) (hu:P.underlying ty=some d) (hd:(match d with | .struct _ | .array _ _=>true|_=>false)=true) (hi:(P.info? ty).map (·.size)=some cs.toArray.size):(results fn tmps).run P w = .ok (.tuple #[.agg cs.toArray,tmps.getD u undef]) w:=by
 rw [results_cell_tmp h,hp];simp [asAddr,run_loadVar_row w g t ty cs.toArray (0,0) d hb hu hd hi,Result.andThen]
theorem info_srfS:(Tryz.prog.info? 42).map (fun i=>i.size)=some 26:=by kernel_rfl
structure PtSm (f:Nat→Int):Prop where
 bd:∀j,-2000≤f j∧f j≤2000
 z:60≤f 2∧60≤f 5∧60≤f 8∧60≤f 11
structure SrfSm (f g:Nat→Int) (sh rt:Int) (n:Nat):Prop where
 f:PtSm f
 g:PtSm g
 sh:0≤sh∧sh<n
 rt:rt=1∨rt=2∨rt=4
theorem SrfSm.ok {f g:Nat→Int} {sh rt:Int} {n:Nat} (h:SrfSm f g sh rt n):srfB f g sh rt n=true:=
 srfB_iff.2 ⟨patB_of fun j _=>by have:=h.f.bd j;omega,patB_of fun j _=>by have:=h.g.bd j;omega,h.sh,by have:=h.rt;omega⟩
theorem SrfSm.near {f g:Nat→Int} {sh rt:Int} {n:Nat} (h:SrfSm f g sh rt n):60≤nearS f g:=near_ge (by decide) h.f.z h.g.z
def ub:Nat→Int
 | 0=>1
 | d+1=>10*ub d
def Tok.val (t:Tok):Value:=.agg #[.int .i64 t.kind,.string t.text,.int .i64 t.num,.int .i64 t.off]
def cuT:List Tok:=[⟨2,⟨#[99,111,108,111,114]⟩,0,0⟩,⟨3,⟨#[61]⟩,0,6⟩,⟨2,⟨#[117]⟩,0,8⟩,⟨3,⟨#[59]⟩,0,9⟩]
def TokG (t:Tok):Prop:=1≤t.kind∧t.kind≤3∧t.text.size≤2000∧I64 t.num∧0≤t.off∧t.off≤2000
def Toks (tk:List Tok):Prop:=∃(ts:List Tok) (n:Int),tk=ts++[⟨0,⟨#[]⟩,0,n⟩]∧(∀t∈ts,TokG t)∧0≤n∧n≤2000∧ts.length≤2000
def NdG (x:Nd):Prop:=I64 x.op∧I64 x.num∧x.name.size≤2000∧x.args.length≤3
structure Pst (lo:Nat) (X:Nat→Prop) (B:Nat) (tk:List Tok) (gs:List Asg) (w:World) (k:Nat) (ns:List Nd) (bad:Int) (tv nv gv:Value):Prop where
 box:Blk w B 334 [tv,.int .i64 (k:Nat),nv,gv,.int .i64 bad]
 low:lo≤B
 toks:OwnToks lo w tv tk
 nds:OwnNds lo X w nv ns
 asgs:OwnAsgs lo w gv gs
 ends:Toks tk
 here:k<tk.length
 len:ns.length≤60
 good:∀x∈ns,NdG x
 b64:I64 bad
 xlt:∀b,X b→b<w.heap.size
theorem Pst.ext {lo B:Nat} {X:Nat→Prop} {tk:List Tok} {gs:List Asg} {w w':World} {k:Nat} {ns:List Nd} {bad:Int} {tv nv gv:Value} (h:Pst lo X B tk gs w k ns bad tv nv gv) (x:Ext w w'):Pst lo X B tk gs w' k ns bad tv nv gv:=
 ⟨h.box.ext x,h.low,OwnG.ext h.toks x,h.nds.ext x,OwnG.ext h.asgs x,h.ends,h.here,h.len,h.good,h.b64,fun b hb=>Nat.lt_of_lt_of_le (h.xlt b hb) x.size⟩
theorem Toks.at {tk:List Tok} (h:Toks tk) {k:Nat} (hk:k<tk.length):∃t,tk[k]?=some t∧I64 t.kind∧t.text.size≤2000∧I64 t.num∧0≤t.off∧t.off≤2000∧(t.kind≠0→k+1<tk.length):=by
 obtain ⟨ts,n,rfl,h1,h2,h3,h4⟩:=h;refine ⟨_,List.getElem?_eq_getElem hk,?_⟩;rw [List.getElem_append]
 split
 ·rename_i hlt
  obtain ⟨g1,g2,g3,g4,g5,g6⟩:=h1 _ (List.getElem_mem hlt);exact ⟨⟨by omega,by omega⟩,g3,g4,g5,g6,fun _=>by simp;omega⟩
 ·simp
  exact ⟨⟨by decide,by decide⟩,by decide,⟨by decide,by decide⟩,h2,h3⟩
def peekB (t:Tok):ByteArray:=if t.kind=3 then t.text else ⟨#[]⟩
theorem Pst.setAt {lo B:Nat} {X:Nat→Prop} {tk:List Tok} {gs:List Asg} {w:World} {k:Nat} {ns:List Nd} {bad:Int} {tv nv gv:Value} (h:Pst lo X B tk gs w k ns bad tv nv gv) {q:Nat} (hq:q<tk.length):Pst lo X B tk gs (w.setCell ⟨B,1,none⟩ (.int .i64 (q:Nat))) q ns bad tv nv gv:=
 ⟨h.box.set 1 _,h.low,OwnG.set h.toks h.box (by decide) 1 _,OwnNds.set h.nds h.box (by decide) (by decide) 1 _,OwnG.set h.asgs h.box (by decide) 1 _,h.ends,hq,h.len,h.good,h.b64,fun b hb=>by rw [World.size_setCell];exact h.xlt b hb⟩
def CFl (B g:Nat):Addr→Prop:=fun a=>a.block=g∨a=⟨B,0,none⟩∨a=⟨B,1,none⟩
@[go_sem] theorem CFl_g (B g o:Nat):CFl B g ⟨g,o,none⟩:=.inl rfl
@[go_sem] theorem CFl_0 (B g:Nat):CFl B g ⟨B,0,none⟩:=.inr (.inl rfl)
@[go_sem] theorem CFl_1 (B g:Nat):CFl B g ⟨B,1,none⟩:=.inr (.inr rfl)
def C2b (b c:Nat):Addr→Prop:=fun a=>a.block=b∨a.block=c
@[go_sem] theorem C2b_1 (b c o:Nat):C2b b c ⟨b,o,none⟩:=.inl rfl
@[go_sem] theorem C2b_2 (b c o:Nat):C2b b c ⟨c,o,none⟩:=.inr rfl
def semiB:ByteArray:=⟨#[59]⟩
def LoneT (tk:List Tok) (k:Nat) (ns:List Nd) (d:Int) (x:ByteArray):Prop:=∃t t1,tk[k]?=some t∧t.kind=2∧t.text=x∧tk[k+1]?=some t1∧peekB t1=semiB∧ns.length<60∧d≤64
def PRes (lo:Nat) (X:Nat→Prop) (B:Nat) (tk:List Tok) (gs:List Asg) (tv gv:Value) (st:Nat) (w:World) (k:Nat) (ns:List Nd) (bad d:Int) (e:Ending) (w':World):Prop:=
 ∃(r q:Nat) (ns':List Nd) (z:Int) (nv':Value),e = .returned (.int .i64 (r:Nat))∧r≤60∧Pst lo X B tk gs w' q ns' z tv nv' gv∧KN lo B 243 w w'∧(0≤z∨(z=bad∧k+st≤q))∧∀x,LoneT tk k ns d x→z=bad∧q=k+1∧ns'=ns++[⟨2,x,0,[]⟩]∧r=ns.length
def PCF (lo B:Nat) (tk:List Tok) (gs:List Asg) (tv gv:Value) (m:Nat):Prop:=∀(X:Nat→Prop) (w:World) (k:Nat) (ns:List Nd) (bad:Int) (nv:Value) (d:Int),Pst lo X B tk gs w k ns bad tv nv gv→bad<0→1≤k→tk.length - k≤m→0≤d→d≤65 →
 Calls Tryz.prog 326 #[.pointer (some ⟨B,0,none⟩),.int .i64 d] w (PRes lo X B tk gs tv gv 1 w k ns bad d)
theorem NdG.of {o n:Int} {x:ByteArray} {us:List Int} (h1:I64 o) (h2:I64 n) (h3:x.size≤2000) (h4:us.length≤3):NdG ⟨o,x,n,us⟩:=⟨h1,h2,h3,h4⟩
theorem Pst.step {lo B:Nat} {X:Nat→Prop} {tk:List Tok} {gs:List Asg} {w:World} {k:Nat} {ns:List Nd} {bad:Int} {tv nv gv:Value} (h:Pst lo X B tk gs w k ns bad tv nv gv) (hq:k+1<tk.length):Pst lo X B tk gs (w.setCell ⟨B,1,none⟩ (.int .i64 ((k:Int)+1))) (k+1) ns bad tv nv gv:=by
 simpa using h.setAt hq
theorem LoneT.not {tk:List Tok} {k:Nat} {ns:List Nd} {d:Int} {x:ByteArray} (h:LoneT tk k ns d x) {t:Tok} (ht:tk[k]?=some t):t.kind=2∧t.text=x∧∃t1,tk[k+1]?=some t1∧peekB t1=semiB:=by
 obtain ⟨t',t1,h1,h2,h3,h4,h5,_⟩:=h;rw [ht] at h1
 cases h1
 exact ⟨h2,h3,t1,h4,h5⟩
theorem Pst.notBox {lo B:Nat} {X:Nat→Prop} {tk:List Tok} {gs:List Asg} {w:World} {k:Nat} {ns:List Nd} {bad:Int} {tv nv gv:Value} (h:Pst lo X B tk gs w k ns bad tv nv gv) {e:TypeId} (he:e≠334):∀c,w.heap[B]?≠some (.cells c e (0,0)):=fun c hc=>by
 have:=h.box;unfold Blk at this;rw [this] at hc;simp only [Option.some.injEq,Obj.cells.injEq] at hc;exact he hc.2.1.symm
theorem PCF.le {lo B:Nat} {tk:List Tok} {gs:List Asg} {tv gv:Value} {m n:Nat} (h:PCF lo B tk gs tv gv m) (hn:n≤m):PCF lo B tk gs tv gv n:=fun X w k ns bad nv d hp hb hk hm=>h X w k ns bad nv d hp hb hk (by omega)
theorem OwnNds.nds {lo l2:Nat} {X:Nat→Prop} {w:World} {v:Value} {xs:List Nd} (h:OwnNds lo X w v xs) (hl:l2≤lo) (hg:∀x∈xs,NdG x):Nds l2 w.heap.size w v xs:=by
 obtain ⟨a,c,rfl,_⟩:=h.form;obtain ⟨ps,rfl,h1,h2⟩:=h
 have hc:(List.map (·.1) ps).length≤c∧c≤maxLen:=by
  rcases h1.2 with ⟨e,h4⟩|⟨g,cap,cur,e,hb,hh,hc,hm,_⟩
  ·simp only [Value.slice.injEq] at e
   obtain ⟨rfl,e2,rfl⟩:=e;exact ⟨by omega,by unfold maxLen;omega⟩
  ·simp only [Value.slice.injEq] at e
   obtain ⟨rfl,e2,rfl⟩:=e;exact ⟨by omega,hm⟩
 refine ⟨a,c,rfl,hc.1,hc.2,fun i x hx=>?_⟩
 obtain ⟨p,hp,rfl⟩:=List.getElem?_map ..▸hx |> fun h=>by
  rw [Option.map_eq_some_iff] at h;exact h
 obtain ⟨g,cap,e,g1,g2,_,_,_,hcell⟩:=h1.at (fun _=>rfl) hp;simp only [Value.slice.injEq] at e;obtain ⟨rfl,_,rfl⟩:=e;have hm:=List.mem_of_getElem? hp;have G:=hg p.1 (List.mem_map.2 ⟨p,hm,rfl⟩);have c0:=hcell 0 (by decide);have c1:=hcell 1 (by decide);have c2:=hcell 2 (by decide);have c3:=hcell 3 (by decide);simp only [ndCs,Nat.add_zero,List.getElem?_cons_zero,List.getElem?_cons_succ] at c0 c1 c2 c3;exact ⟨⟨G.1,G.2.1⟩,g,0,p.2,rfl,by omega,g2,by rw [Nat.zero_add];exact c0,by rw [Nat.zero_add];exact c1,by rw [Nat.zero_add];exact c2,by rw [Nat.zero_add];exact c3,((h2 p hm).1.low hl).ints⟩
theorem OwnAsgs.asgs {lo l2:Nat} {w:World} {v:Value} {xs:List Asg} (h:OwnAsgs lo w v xs) (hl:l2≤lo) (hg:∀x∈xs,I64 x.root):Asgs l2 w.heap.size w v xs:=by
 obtain ⟨a,c,rfl,_⟩:=OwnG.form h
 have hc:xs.length≤c∧c≤maxLen:=by
  rcases h.2 with ⟨e,h4⟩|⟨g,cap,cur,e,hb,hh,hc,hm,_⟩
  ·simp only [Value.slice.injEq] at e
   obtain ⟨rfl,e2,rfl⟩:=e;exact ⟨by omega,by unfold maxLen;omega⟩
  ·simp only [Value.slice.injEq] at e
   obtain ⟨rfl,e2,rfl⟩:=e;exact ⟨hc,hm⟩
 refine ⟨a,c,rfl,hc.1,hc.2,fun i x hx=>?_⟩;obtain ⟨g,cap,e,g1,g2,_,_,_,hcell⟩:=OwnG.at h (fun _=>rfl) hx;simp only [Value.slice.injEq] at e;obtain ⟨rfl,_,rfl⟩:=e;have c0:=hcell 0 (by decide);have c1:=hcell 1 (by decide);simp only [Asg.cs,Nat.add_zero,List.getElem?_cons_zero,List.getElem?_cons_succ] at c0 c1;exact ⟨hg x (List.mem_of_getElem? hx),g,0,rfl,by omega,g2,by rw [Nat.zero_add];exact c0,by rw [Nat.zero_add];exact c1⟩
def AsgG (x:Asg):Prop:=I64 x.root∧x.name.size≤2000
theorem Pst.prog {lo l2 B:Nat} {X:Nat→Prop} {tk:List Tok} {gs:List Asg} {w:World} {k:Nat} {ns:List Nd} {bad:Int} {tv nv gv:Value} (h:Pst lo X B tk gs w k ns bad tv nv gv) (hl:l2≤lo) (hg:∀x∈gs,AsgG x):(⟨ns,gs⟩:Prg).R l2 w.heap.size w (.agg #[nv,gv]):=
 ⟨nv,gv,rfl,h.nds.nds hl h.good,OwnAsgs.asgs h.asgs hl fun x hx=>(hg x hx).1⟩
theorem Pst.bd {lo B:Nat} {X:Nat→Prop} {tk:List Tok} {gs:List Asg} {w:World} {k:Nat} {ns:List Nd} {bad:Int} {tv nv gv:Value} (h:Pst lo X B tk gs w k ns bad tv nv gv) (hg:∀x∈gs,AsgG x):(⟨ns,gs⟩:Prg).bd:=
 ⟨fun x hx=>by have:=(h.good x hx).2.2.1;unfold maxLen;omega,fun x hx=>by have:=(hg x hx).2;unfold maxLen;omega⟩
theorem Pst.small {lo B:Nat} {X:Nat→Prop} {tk:List Tok} {gs:List Asg} {w:World} {k:Nat} {ns:List Nd} {bad:Int} {tv nv gv:Value} (h:Pst lo X B tk gs w k ns bad tv nv gv) (hg:gs.length≤4000):(⟨ns,gs⟩:Prg).small:=
 ⟨⟨by have:=h.len;show ns.length≤_;omega,fun x hx=>by have:=(h.good x hx).2.2.2;omega⟩,by show gs.length≤_;omega⟩
def cuN:Nd:=⟨2,⟨#[117]⟩,0,[]⟩
def cuA:Asg:=⟨⟨#[99,111,108,111,114]⟩,0⟩
def cuP:Prg:=⟨[cuN],[cuA]⟩
def cuK:List Tok:=cuT++[⟨0,⟨#[]⟩,0,10⟩]
def CuP (q:Nat) (ns:List Nd) (gs:List Asg):Prop:=(q=0∧ns=[]∧gs=[])∨(q=4∧ns=[cuN]∧gs=[cuA])
theorem CuP.name {q:Nat} {ns:List Nd} {gs:List Asg} (h:CuP q ns gs) {t:Tok} (ht:cuK[q]?=some t) (hk:t.kind≠0):q=0∧ns=[]∧gs=[]∧t.kind=2∧t.text=cuA.name:=by
 rcases h with ⟨rfl,h1,h2⟩|⟨rfl,h1,h2⟩
 ·have e:t=⟨2,⟨#[99,111,108,111,114]⟩,0,0⟩:=by
   have:cuK[0]?=some ⟨2,⟨#[99,111,108,111,114]⟩,0,0⟩:=rfl;rw [this] at ht;exact (Option.some.inj ht).symm
  subst e;exact ⟨rfl,h1,h2,rfl,rfl⟩
 ·have e:t=⟨0,⟨#[]⟩,0,10⟩:=by
   have:cuK[4]?=some ⟨0,⟨#[]⟩,0,10⟩:=rfl;rw [this] at ht;exact (Option.some.inj ht).symm
  subst e;exact absurd rfl hk
theorem CuP.done {q:Nat} {ns:List Nd} {gs:List Asg} (h:CuP q ns gs) {t:Tok} (ht:cuK[q]?=some t) (hk:t.kind=0):(⟨ns,gs⟩:Prg)=cuP:=by
 rcases h with ⟨rfl,h1,h2⟩|⟨rfl,h1,h2⟩
 ·have e:t=⟨2,⟨#[99,111,108,111,114]⟩,0,0⟩:=by
   have:cuK[0]?=some ⟨2,⟨#[99,111,108,111,114]⟩,0,0⟩:=rfl;rw [this] at ht;exact (Option.some.inj ht).symm
  subst e;exact absurd hk (by decide)
 ·subst h1 h2
  rfl
def CBk (b:Nat):Addr→Prop:=fun a=>a.block=b
@[go_sem] theorem CBk_1 (b o:Nat):CBk b ⟨b,o,none⟩:=rfl
theorem Ints.low {lo l2 hi:Nat} {w:World} {v:Value} {xs:List Int} (h:Ints lo hi w v xs) (hl:l2≤lo):Ints l2 hi w v xs:=by
 obtain ⟨a,cap,h1,h2,h3,h4⟩:=h;refine ⟨a,cap,h1,h2,h3,fun i x hx=>?_⟩;obtain ⟨g1,b,off,g2,g3,g4⟩:=h4 i x hx;exact ⟨g1,b,off,g2,by omega,g4⟩
theorem Prg.R.low {p:Prg} {lo l2 hi h2:Nat} {w:World} {v:Value} (h:p.R lo hi w v) (hl:l2≤lo) (hh:hi≤h2):p.R l2 h2 w v:=by
 obtain ⟨nu,au,rfl,⟨a,c,e1,e2,e3,e4⟩,⟨a',c',f1,f2,f3,f4⟩⟩:=h;refine ⟨nu,au,rfl,⟨a,c,e1,e2,e3,fun i x hx=>?_⟩,⟨a',c',f1,f2,f3,fun i x hx=>?_⟩⟩
 ·obtain ⟨g1,b,off,u,g2,g3,g4,g5,g6,g7,g8,g9⟩:=e4 i x hx
  obtain ⟨ia,ic,i1,i2,i3,i4⟩:=g9
  exact ⟨g1,b,off,u,g2,by omega,by omega,g5,g6,g7,g8,ia,ic,i1,i2,i3,fun j y hy=>by
   obtain ⟨j1,jb,jo,j2,j3,j4,j5⟩:=i4 j y hy
   exact ⟨j1,jb,jo,j2,by omega,by omega,j5⟩⟩
 ·obtain ⟨g1,b,off,g2,g3,g4,g5,g6⟩:=f4 i x hx
  exact ⟨g1,b,off,g2,by omega,by omega,g5,g6⟩
theorem Same.trans {lo hi:Nat} {a b c:World} (h:Same lo hi a b) (k:Same lo hi b c):Same lo hi a c:=fun i h1 h2=>(k i h1 h2).trans (h i h1 h2)
theorem OwnG.row {α : Type} {cs : α→List Value} {lo:Nat} {e:TypeId} {sz:Nat} {w:World} {v:Value} {xs:List α} (h:OwnG cs lo e sz w v xs):∀k,v.ownBlock=some k→lo≤k∧∃c,w.heap[k]?=some (.cells c e (0,0)):=by
 intro k hk
 rcases h.2 with ⟨rfl,h4⟩|⟨g,cap,cur,rfl,hb,hg,_⟩
 ·cases hk
 ·simp only [Value.ownBlock,Option.some.injEq] at hk
  subst hk;exact ⟨hb,cur,hg⟩
theorem Prg.R.set2 {p:Prg} {lo hi l2 A:Nat} {w:World} {v:Value} (h:p.R lo hi w v) (hA:A<lo) (hl:l2≤lo) (hh:hi≤w.heap.size) (u u':Value):p.R l2 ((w.setCell ⟨A,0,none⟩ u).setCell ⟨A,1,none⟩ u').heap.size ((w.setCell ⟨A,0,none⟩ u).setCell ⟨A,1,none⟩ u') v:=
 (h.same ((Same.setLow _ (p:=⟨A,0,none⟩) hA u).trans (Same.setLow _ (p:=⟨A,1,none⟩) hA u'))).low hl (by rw [World.size_setCell,World.size_setCell];exact hh)
theorem OwnG.flatsI {α : Type} {cs : α→List Value} {ls : α→List Int} {lo:Nat} {e:TypeId} {sz:Nat} {w:World} {v:Value} {xs:List α} {F:Nat→Int} (h:OwnG cs lo e sz w v xs) (hsz:0<sz) (hcs:∀x,cs x=(ls x).map (.int .i64)) (hl:∀x,(ls x).length=sz)
  (hI:∀x∈xs,∀n∈ls x,I64 n) (hF:∀i x k,xs[i]?=some x→k<sz→F (i*sz+k)=(ls x).getD k 0):Flats sz lo w.heap.size w v xs.length F:=by
 have hc:∀x,(cs x).length=sz:=fun x=>by rw [hcs,List.length_map,hl]
 have hat:∀i,i<xs.length*sz→∃x,xs[i / sz]?=some x∧F i=(ls x).getD (i % sz) 0∧(ls x)[i % sz]?=some (F i):=fun i hi=>by
  have hk:i / sz<xs.length:=Nat.div_lt_of_lt_mul (by rw [Nat.mul_comm];exact hi)
  obtain ⟨x,hx⟩:∃x,xs[i / sz]?=some x:=⟨_,List.getElem?_eq_getElem hk⟩
  have hm:=Nat.mod_lt i hsz;have e1:=hF (i / sz) x (i % sz) hx hm;rw [Nat.div_add_mod'] at e1;refine ⟨x,hx,e1,?_⟩;rw [e1,List.getD_eq_getElem?_getD,List.getElem?_eq_getElem (by rw [hl];exact hm)]
  rfl
 rcases h.2 with ⟨rfl,h4⟩|⟨g,cap,cur,rfl,hb,hg,hcap,hm,hs,ht⟩
 ·exact ⟨none,0,by rw [h4],by omega,by unfold maxLen;omega,fun i hx=>by rw [h4] at hx;omega⟩
 ·refine ⟨_,cap,rfl,hcap,hm,fun i hx=>?_⟩
  obtain ⟨x,hx1,hx2,hx3⟩:=hat i hx;refine ⟨hI x (List.mem_of_getElem? hx1) _ (List.mem_of_getElem? hx3),g,0,rfl,hb,(Array.getElem?_eq_some_iff.1 hg).1,?_⟩;have e1:=flatMap_at hc hx1 (i % sz) (Nat.mod_lt i hsz);rw [Nat.div_add_mod'] at e1;rw [hcs,List.getElem?_map,hx3] at e1;rw [←ht,List.getElem?_take,if_pos hx] at e1;rw [Nat.zero_add]
  show w.cell? ⟨g,i,none⟩=some (.int .i64 (F i))
  simp only [Option.map_some] at e1;rw [←e1];simp only [World.cell?,hg];simp
def TuR (lo:Nat) (w:World) (v:Value) (xs:List Int):Prop:=∃g cs,lo≤g∧Blk w g 3 cs∧∀w',Blk w' g 3 cs→OwnInts lo w' v xs
theorem TuR.ext {lo:Nat} {w w':World} {v:Value} {xs:List Int} (h:TuR lo w v xs) (x:Ext w w'):TuR lo w' v xs:=by
 obtain ⟨g,cs,h1,h2,h3⟩:=h;exact ⟨g,cs,h1,h2.ext x,h3⟩
theorem TuR.low {lo lo':Nat} {w:World} {v:Value} {xs:List Int} (h:TuR lo w v xs) (hl:lo'≤lo):TuR lo' w v xs:=by
 obtain ⟨g,cs,h1,h2,h3⟩:=h;exact ⟨g,cs,by omega,h2,fun w' k=>(h3 w' k).low hl⟩
theorem TuR.own {lo:Nat} {w:World} {v:Value} {xs:List Int} (h:TuR lo w v xs):OwnInts lo w v xs:=by
 obtain ⟨g,cs,h1,h2,h3⟩:=h;exact h3 w h2
theorem OwnInts.tur {lo:Nat} {w:World} {v:Value} {xs:List Int} (h:OwnInts lo w v xs) (h1:1≤xs.length):TuR lo w v xs:=by
 obtain ⟨⟨k1,k2⟩,k3⟩:=h
 rcases k2 with ⟨rfl,h4⟩|⟨g,cap,cur,rfl,hb,hg,hcap,hm,hs,ht⟩
 ·omega
 ·exact ⟨g,cur.toList,hb,hg,fun w' hw=>⟨⟨k1,.inr ⟨g,cap,cur,rfl,hb,hw,hcap,hm,hs,ht⟩⟩,k3⟩⟩
theorem TuR.set {lo:Nat} {w:World} {v:Value} {xs:List Int} (h:TuR lo w v xs) {A:Nat} {t:TypeId} {us:List Value} (hb:Blk w A t us) (ht:t≠3) (i:Nat) (u:Value):TuR lo (w.setCell ⟨A,i,none⟩ u) v xs:=by
 obtain ⟨g,cs,h1,h2,h3⟩:=h;refine ⟨g,cs,h1,h2.other (fun e=>?_) u,h3⟩;simp only at e;subst e;unfold Blk at h2 hb;rw [h2] at hb;simp only [Option.some.injEq,Obj.cells.injEq] at hb;exact ht hb.2.1.symm
theorem sliceNilB (b off n cap:Nat) (w:World):(binOp .eql 25 (.slice (some ⟨b,off,none⟩) n cap) (.slice none 0 0)).run Tryz.prog w = .ok (.bool false) w:=by
 simp only [binOp];simp [Op.equal,Op.maxDepth,Lib.run_equalIn_slice_nil w 9999 25 3 (some ⟨b,off,none⟩) n cap 0 0 Tryz.underlying25]
theorem cloneIntsB (lo hi:Nat) (u:Value) (xs:List Int) (w:World) (hu:Ints lo hi w u xs) (hh:hi≤w.heap.size) (h1:1≤xs.length) (h2:xs.length≤1000) :
  Calls Tryz.prog 61 #[u] w fun e w'=>∃v',e = .returned v'∧OwnInts w.heap.size w' v' xs∧Ext w w':=by
 obtain ⟨a,cap,rfl,HU⟩:=hu.open;obtain ⟨b,off,rfl,hb1,hb2,_⟩:=HU.at (k:=0) (by omega);have l1:=HU.le;have l2:=HU.cap;clear hu;go_enter Tryz.func61,Tryz.ntmps61
 have HC:∀i y,xs[i]?=some y→I64 y∧(w.alloc (.cells #[] 3)).cell? ⟨b,off+i,none⟩=some (.int .i64 y):=by
  intro i y hy;obtain ⟨h3,b',off',e,h4,h5,h6⟩:=HU.cell i y hy;simp only [Option.some.injEq,Addr.mk.injEq,and_true] at e;obtain ⟨rfl,rfl⟩:=e;exact ⟨h3,(((Ext.refl w).alloc _).cells.1 b _ (by omega)).trans h6⟩
 have HC:=hid HC;have hnil:=fun w=>sliceNilB b off xs.length cap w;go_wp2_with (at_builtin;refine wpList_append_ints _ rfl _ _ rfl w.heap.size (.slice (some ⟨w.heap.size,0,none⟩) 0 0) [] xs rfl (OwnInts.fresh0 (Nat.le_refl _) (Blk.new w 3 [])) b off cap rfl HC.out (by simp;omega) (by simp) ?_;intro v' w1 hown hg;obtain ⟨a',c',rfl,_⟩:=hown.form);go_ret;exact ⟨_,rfl,by simpa using hown,((Ext.refl w).alloc _).grown hg (fun k e=>by simp [Value.ownBlock] at e;omega)⟩
def pairCs (u:Value×Value):List Value:=[u.1,u.2]
def PRow (lo hp:Nat) (w:World) (v:Value) (ps:List Prg):Prop:=
 hp≤w.heap.size∧∃us:List (Value×Value),us.length=ps.length∧OwnG pairCs lo 132 2 w v us∧∀(i:Nat) (p:Prg) (u:Value×Value),ps[i]?=some p→us[i]?=some u→∃l h,lo≤l∧h≤hp∧p.R l h w (.agg #[u.1,u.2])∧∀k,v.ownBlock=some k→k<l∨h≤k
theorem PRow.nil {lo hp:Nat} {w:World} (h:hp≤w.heap.size):PRow lo hp w (.slice none 0 0) []:=⟨h,[],rfl,OwnG.nil _ _ _ _ _,fun i p u h=>by simp at h⟩
theorem PRow.keep {lo hp:Nat} {w w':World} {v:Value} {ps:List Prg} (h:PRow lo hp w v ps) (hz:w.heap.size≤w'.heap.size) (hb:∀b,lo≤b→b<hp→w'.heap[b]?=w.heap[b]?)
  (hr:∀b c,lo≤b→w.heap[b]?=some (.cells c 132 (0,0))→w'.heap[b]?=some (.cells c 132 (0,0))):PRow lo hp w' v ps:=by
 obtain ⟨h0,us,h1,h2,h3⟩:=h;refine ⟨by omega,us,h1,OwnG.of h2 hr,fun i p u hp hu=>?_⟩;obtain ⟨l,hh,e1,e2,e3,e4⟩:=h3 i p u hp hu;exact ⟨l,hh,e1,e2,e3.same (fun k hk1 hk2=>hb k (by omega) (by omega)),e4⟩
theorem PRow.ext {lo hp:Nat} {w w':World} {v:Value} {ps:List Prg} (h:PRow lo hp w v ps) (x:Ext w w'):PRow lo hp w' v ps:=
 h.keep x.size (fun b _ h2=>x.block (by have:=h.1;omega)) (fun b c _ hc=>(x.block (Array.getElem?_eq_some_iff.1 hc).1).trans hc)
theorem PRow.gr {lo hp B:Nat} {w w':World} {v:Value} {ps:List Prg} (h:PRow lo hp w v ps) (g:Gr B w w') (hB:B<lo):PRow lo hp w' v ps:=
 h.keep g.size (fun b h1 h2=>g.keep (by have:=h.1;omega) (by omega)) (fun b c h1 hc=>(g.keep (Array.getElem?_eq_some_iff.1 hc).1 (by omega)).trans hc)
theorem PRow.set {lo hp:Nat} {w:World} {v:Value} {ps:List Prg} (h:PRow lo hp w v ps) {X:Nat} {t:TypeId} {cs:List Value} (hX:Blk w X t cs) (ht:t≠132) (hx:X<lo∨hp≤X) (i:Nat) (u:Value):PRow lo hp (w.setCell ⟨X,i,none⟩ u) v ps:=
 h.keep (by rw [World.size_setCell];exact Nat.le_refl _) (fun b h1 h2=>Below.heap_setCell _ _ _ _ (by simp only;omega)) (fun b c h1 hc=>(Below.heap_setCell _ _ _ _ (by
  simp only;rintro rfl;unfold Blk at hX;rw [hX] at hc;simp only [Option.some.injEq,Obj.cells.injEq] at hc
  exact ht hc.2.1)).trans hc)
theorem PRow.grown {lo hp:Nat} {w w':World} {v:Value} {ps:List Prg} (h:PRow lo hp w v ps) {row:Option Nat} (hg:w.grownBy w' row) (hr:∀k,row=some k→hp≤k∧∃c e,e≠132∧w.heap[k]?=some (.cells c e (0,0))):PRow lo hp w' v ps:=
 h.keep hg.size (fun b h1 h2=>hg.block b (by have:=h.1;omega) (fun e=>by have:=(hr b e.symm).1;omega)) (fun b c h1 hc=>(hg.block b (Array.getElem?_eq_some_iff.1 hc).1 (fun e=>by
  obtain ⟨_,c',e',ne,h'⟩:=hr b e.symm;rw [hc] at h';simp only [Option.some.injEq,Obj.cells.injEq] at h'
  exact ne h'.2.1.symm)).trans hc)
theorem PRow.push {lo hp B:Nat} {w w1 w2:World} {v v':Value} {ps:List Prg} {p:Prg} {u1 u2:Value} (h0:hp≤w.heap.size) (hl:lo≤w.heap.size) (g:Gr B w w1) (hB:B<lo)
  (hp1:p.R w.heap.size w1.heap.size w1 (.agg #[u1,u2])) {us:List (Value×Value)} (hus:us.length=ps.length) (hR:∀(i:Nat) (p:Prg) (u:Value×Value),ps[i]?=some p→us[i]?=some u→∃l h,lo≤l∧h≤hp∧p.R l h w (.agg #[u.1,u.2])∧∀k,v.ownBlock=some k→k<l∨h≤k)
  (hv:∀k,v.ownBlock=some k→lo≤k∧k<w.heap.size) {w1':World} (x:Ext w1 w1')
  (hown:OwnG pairCs lo 132 2 w2 v' (us++[(u1,u2)])) (hg:w1'.grownBy w2 v.ownBlock) (hat:∀k,v'.ownBlock=some k→v.ownBlock=some k∨w1'.heap.size≤k):PRow lo w1.heap.size w2 v' (ps++[p]):=by
 have hz:=g.size;have hx:=x.size;refine ⟨by have:=hg.size;omega,us++[(u1,u2)],by simp [hus],hown,fun i q u hq hu=>?_⟩
 rcases Nat.lt_or_ge i ps.length with hi|hi
 ·rw [List.getElem?_append_left hi] at hq
  rw [List.getElem?_append_left (by omega)] at hu;obtain ⟨l,hh,e1,e2,e3,e4⟩:=hR i q u hq hu;refine ⟨l,hh,e1,by omega,((e3.same fun k k1 k2=>g.keep (by omega) (by omega)).same fun k k1 k2=>x.block (by omega)).same fun k k1 k2=>hg.block k (by omega) (fun e=>?_),fun k hk=>?_⟩
  ·rcases e4 k e.symm with h5|h5 <;> omega
  ·rcases hat k hk with h5|h5
   ·exact e4 k h5
   ·right;omega
 ·have hi2:i=ps.length:=by
   have h5:=(List.getElem?_eq_some_iff.1 hq).1;simp at h5;omega
  subst hi2;rw [List.getElem?_append_right (Nat.le_refl _)] at hq;rw [List.getElem?_append_right (by omega)] at hu;simp only [Nat.sub_self,hus,List.getElem?_cons_zero,Option.some.injEq] at hq hu;subst hq hu;refine ⟨w.heap.size,w1.heap.size,hl,Nat.le_refl _,(hp1.same fun k k1 k2=>x.block k2).same fun k k1 k2=>hg.block k (by omega) (fun e=>?_),fun k hk=>?_⟩
  ·have:=(hv k e.symm).2;omega
  ·rcases hat k hk with h5|h5
   ·left;exact (hv k h5).2
   ·right;omega
structure Srf where
 f:Nat→Int
 g:Nat→Int
 sh:Int
 rt:Int
def Srf.ls (x:Srf):List Int:=[x.f 0,x.f 1,x.f 2,x.f 3,x.f 4,x.f 5,x.f 6,x.f 7,x.f 8,x.f 9,x.f 10,x.f 11,x.g 0,x.g 1,x.g 2,x.g 3,x.g 4,x.g 5,x.g 6,x.g 7,x.g 8,x.g 9,x.g 10,x.g 11,x.sh,x.rt]
def Srf.cs (x:Srf):List Value:=x.ls.map (.int .i64)
theorem Srf.one (x:Srf):∀u∈x.cs,u.oneCell'=true:=by
 intro u hu;unfold Srf.cs at hu;obtain ⟨n,-,rfl⟩:=List.mem_map.1 hu
 rfl
def Srf.I (x:Srf):Prop:=∀n∈x.ls,I64 n
theorem iRateOk_any (r:Int) (w:World):Calls Tryz.prog 165 #[.int .i64 r] w fun e w'=>e = .returned (.bool (rateB r))∧Ext w w':=by
 unfold rateB;go_enter Tryz.func165,Tryz.ntmps165;go_wp2
 all_goals
  go_ret;exact ⟨by first|rfl|simp [*],X_⟩
theorem iSideOk_any (r:Int) (w:World):Calls Tryz.prog 98 #[.int .i64 r] w fun e w'=>e = .returned (.bool (sideB r))∧Ext w w':=by
 unfold sideB;go_enter Tryz.func98,Tryz.ntmps98;go_wp2
 all_goals
  go_ret;exact ⟨by first|rfl|simp [*],X_⟩
theorem patB_split (f:Nat→Int):patB f=(okVec (f 0) (f 1) (f 2)&&okVec (f 3) (f 4) (f 5)&&okVec (f 6) (f 7) (f 8)&&okVec (f 9) (f 10) (f 11)):=rfl
theorem iIsValidPatch_any (f:Nat→Int) (w:World):Calls Tryz.prog 57 #[.agg #[.int .i64 (f 0),.int .i64 (f 1),.int .i64 (f 2),.int .i64 (f 3),.int .i64 (f 4),.int .i64 (f 5),.int .i64 (f 6),.int .i64 (f 7),.int .i64 (f 8),.int .i64 (f 9),.int .i64 (f 10),.int .i64 (f 11)]] w fun e w'=>e = .returned (.bool (patB f))∧Ext w w':=by
 have j0:=idxP f 0 (by decide);have j1:=idxP f 1 (by decide);have j2:=idxP f 2 (by decide);have j3:=idxP f 3 (by decide);simp only [Nat.mul_zero,Nat.zero_add,Nat.mul_one,Nat.reduceAdd,Nat.reduceMul,Int.cast_ofNat_Int] at j0 j1 j2 j3;have X0:Ext w (w.alloc (.cells #[.int .i64 (f 0),.int .i64 (f 1),.int .i64 (f 2),.int .i64 (f 3),.int .i64 (f 4),.int .i64 (f 5),.int .i64 (f 6),.int .i64 (f 7),.int .i64 (f 8),.int .i64 (f 9),.int .i64 (f 10),.int .i64 (f 11)] 40)):=X_;go_enter Tryz.func57,Tryz.ntmps57;go_wp2_with fail
 obtain ⟨W0,hW0⟩:∃W0,(w.alloc (.cells #[.int .i64 (f 0),.int .i64 (f 1),.int .i64 (f 2),.int .i64 (f 3),.int .i64 (f 4),.int .i64 (f 5),.int .i64 (f 6),.int .i64 (f 7),.int .i64 (f 8),.int .i64 (f 9),.int .i64 (f 10),.int .i64 (f 11)] 40))=W0:=⟨_,rfl⟩
 rw [hW0] at X0 ⊢;clear hW0
 go_loopw [7] (fun i wr=>∃k:Nat,k≤4∧i = .int .i64 (k:Nat)∧Ext w wr∧(0<k→okVec (f 0) (f 1) (f 2)=true)∧(1<k→okVec (f 3) (f 4) (f 5)=true)∧(2<k→okVec (f 6) (f 7) (f 8)=true)∧(3<k→okVec (f 9) (f 10) (f 11)=true)) (fun i _=>4 - (intOf i).toNat)
 case atStart=>exact ⟨0,by omega,rfl,X0,by omega,by omega,by omega,by omega⟩
 case round=>
  obtain ⟨k,hk,rfl,hx,b0,b1,b2,b3⟩:=hrel;have HX:=hid hx;have B0:=hid b0;have B1:=hid b1;have B2:=hid b2;have B3:=hid b3;clear hx b0 b1 b2 b3 X0
  rcases (show k=0∨k=1∨k=2∨k=3∨k=4 by omega) with rfl|rfl|rfl|rfl|rfl
  ·go_wp2_with fail
   refine (iIsValidVec_val _).mono ?_;rintro e w3 ⟨rfl,x3⟩;have y3:Ext wr w3:=Ext.trans (show Ext wr (wr.alloc (.cells #[.int .i64 (f 0),.int .i64 (f 1),.int .i64 (f 2)] 37)) from X_) x3
   cases hb:okVec (f 0) (f 1) (f 2)
   ·go_wp2
    go_ret;exact ⟨by rw [patB_split,hb];simp,HX.out.trans y3⟩
   ·have HB:=hid hb
    clear hb;go_wp2;go_roundw
    case rel=>exact ⟨1,by omega,by go_num,HX.out.trans y3,fun _=>HB.out,fun h=>absurd h (by omega),fun h=>absurd h (by omega),fun h=>absurd h (by omega)⟩
    case measure=>simp [intOf]
  ·go_wp2_with fail
   refine (iIsValidVec_val _).mono ?_;rintro e w3 ⟨rfl,x3⟩;have y3:Ext wr w3:=Ext.trans (show Ext wr (wr.alloc (.cells #[.int .i64 (f 3),.int .i64 (f 4),.int .i64 (f 5)] 37)) from X_) x3
   cases hb:okVec (f 3) (f 4) (f 5)
   ·go_wp2
    go_ret;exact ⟨by rw [patB_split,hb];simp,HX.out.trans y3⟩
   ·have HB:=hid hb
    clear hb;go_wp2;go_roundw
    case rel=>exact ⟨2,by omega,by go_num,HX.out.trans y3,fun h=>B0.out (by omega),fun _=>HB.out,fun h=>absurd h (by omega),fun h=>absurd h (by omega)⟩
    case measure=>simp [intOf]
  ·go_wp2_with fail
   refine (iIsValidVec_val _).mono ?_;rintro e w3 ⟨rfl,x3⟩;have y3:Ext wr w3:=Ext.trans (show Ext wr (wr.alloc (.cells #[.int .i64 (f 6),.int .i64 (f 7),.int .i64 (f 8)] 37)) from X_) x3
   cases hb:okVec (f 6) (f 7) (f 8)
   ·go_wp2
    go_ret;exact ⟨by rw [patB_split,hb];simp,HX.out.trans y3⟩
   ·have HB:=hid hb
    clear hb;go_wp2;go_roundw
    case rel=>exact ⟨3,by omega,by go_num,HX.out.trans y3,fun h=>B0.out (by omega),fun h=>B1.out (by omega),fun _=>HB.out,fun h=>absurd h (by omega)⟩
    case measure=>simp [intOf]
  ·go_wp2_with fail
   refine (iIsValidVec_val _).mono ?_;rintro e w3 ⟨rfl,x3⟩;have y3:Ext wr w3:=Ext.trans (show Ext wr (wr.alloc (.cells #[.int .i64 (f 9),.int .i64 (f 10),.int .i64 (f 11)] 37)) from X_) x3
   cases hb:okVec (f 9) (f 10) (f 11)
   ·go_wp2
    go_ret;exact ⟨by rw [patB_split,hb];simp,HX.out.trans y3⟩
   ·have HB:=hid hb
    clear hb;go_wp2;go_roundw
    case rel=>exact ⟨4,by omega,by go_num,HX.out.trans y3,fun h=>B0.out (by omega),fun h=>B1.out (by omega),fun h=>B2.out (by omega),fun _=>HB.out⟩
    case measure=>simp [intOf]
  ·go_wp2
   go_ret;exact ⟨by rw [patB_split,B0.out (by omega),B1.out (by omega),B2.out (by omega),B3.out (by omega)];rfl,HX.out⟩
theorem iIsValidSurface_any (f g:Nat→Int) (sh rt:Int) (n:Nat) (w:World):Calls Tryz.prog 100 #[.agg #[.int .i64 (f 0),.int .i64 (f 1),.int .i64 (f 2),.int .i64 (f 3),.int .i64 (f 4),.int .i64 (f 5),.int .i64 (f 6),.int .i64 (f 7),.int .i64 (f 8),.int .i64 (f 9),.int .i64 (f 10),.int .i64 (f 11),.int .i64 (g 0),.int .i64 (g 1),.int .i64 (g 2),.int .i64 (g 3),.int .i64 (g 4),.int .i64 (g 5),.int .i64 (g 6),.int .i64 (g 7),.int .i64 (g 8),.int .i64 (g 9),.int .i64 (g 10),.int .i64 (g 11),.int .i64 sh,.int .i64 rt],.int .i64 (n:Nat)] w fun e w'=>e = .returned (.bool (srfB f g sh rt n))∧Ext w w':=by
 have q0:=Blk.new w 42 [.int .i64 (f 0),.int .i64 (f 1),.int .i64 (f 2),.int .i64 (f 3),.int .i64 (f 4),.int .i64 (f 5),.int .i64 (f 6),.int .i64 (f 7),.int .i64 (f 8),.int .i64 (f 9),.int .i64 (f 10),.int .i64 (f 11),.int .i64 (g 0),.int .i64 (g 1),.int .i64 (g 2),.int .i64 (g 3),.int .i64 (g 4),.int .i64 (g 5),.int .i64 (g 6),.int .i64 (g 7),.int .i64 (g 8),.int .i64 (g 9),.int .i64 (g 10),.int .i64 (g 11),.int .i64 sh,.int .i64 rt];have R0:=hid q0;have X0:=hid (show Ext w (w.alloc (.cells #[.int .i64 (f 0),.int .i64 (f 1),.int .i64 (f 2),.int .i64 (f 3),.int .i64 (f 4),.int .i64 (f 5),.int .i64 (f 6),.int .i64 (f 7),.int .i64 (f 8),.int .i64 (f 9),.int .i64 (f 10),.int .i64 (f 11),.int .i64 (g 0),.int .i64 (g 1),.int .i64 (g 2),.int .i64 (g 3),.int .i64 (g 4),.int .i64 (g 5),.int .i64 (g 6),.int .i64 (g 7),.int .i64 (g 8),.int .i64 (g 9),.int .i64 (g 10),.int .i64 (g 11),.int .i64 sh,.int .i64 rt] 42)) from X_);clear q0
 obtain ⟨b1,hb1⟩:∃b,patB f=b:=⟨_,rfl⟩
 obtain ⟨b2,hb2⟩:∃b,patB g=b:=⟨_,rfl⟩
 obtain ⟨b3,hb3⟩:∃b,rateB rt=b:=⟨_,rfl⟩
 have C1:∀W:World,Calls Tryz.prog 57 #[.agg #[.int .i64 (f 0),.int .i64 (f 1),.int .i64 (f 2),.int .i64 (f 3),.int .i64 (f 4),.int .i64 (f 5),.int .i64 (f 6),.int .i64 (f 7),.int .i64 (f 8),.int .i64 (f 9),.int .i64 (f 10),.int .i64 (f 11)]] W fun e w'=>e = .returned (.bool b1)∧Ext W w':=fun W=>hb1▸iIsValidPatch_any f W;have C2:∀W:World,Calls Tryz.prog 57 #[.agg #[.int .i64 (g 0),.int .i64 (g 1),.int .i64 (g 2),.int .i64 (g 3),.int .i64 (g 4),.int .i64 (g 5),.int .i64 (g 6),.int .i64 (g 7),.int .i64 (g 8),.int .i64 (g 9),.int .i64 (g 10),.int .i64 (g 11)]] W fun e w'=>e = .returned (.bool b2)∧Ext W w':=fun W=>hb2▸iIsValidPatch_any g W;have C3:∀W:World,Calls Tryz.prog 165 #[.int .i64 rt] W fun e w'=>e = .returned (.bool b3)∧Ext W w':=fun W=>hb3▸iRateOk_any rt W;have H1:=hid C1;have H2:=hid C2;have H3:=hid C3;unfold YtfjbiifebcfjfaaGreat.srfB;rw [hb1,hb2,hb3];clear hb1 hb2 hb3 C1 C2 C3
 cases b1
 case false=>
  go_enter Tryz.func100,Tryz.ntmps100;go_wp2_with fail;refine (H1.out _).mono ?_;rintro e w1 ⟨rfl,x1⟩;have X1:=hid (X0.out.trans x1);have R1:=hid (R0.out.ext x1);clear x1;go_wp2;go_ret;exact ⟨by simp [*],X1.out⟩
 case true=>
  cases b2
  case false=>
   go_enter Tryz.func100,Tryz.ntmps100;go_wp2_with fail;refine (H1.out _).mono ?_;rintro e w1 ⟨rfl,x1⟩;have X1:=hid (X0.out.trans x1);have R1:=hid (R0.out.ext x1);clear x1;have c12:=R1.out.cell 12 rfl;have c13:=R1.out.cell 13 rfl;have c14:=R1.out.cell 14 rfl;have c15:=R1.out.cell 15 rfl;have c16:=R1.out.cell 16 rfl;have c17:=R1.out.cell 17 rfl;have c18:=R1.out.cell 18 rfl;have c19:=R1.out.cell 19 rfl;have c20:=R1.out.cell 20 rfl;have c21:=R1.out.cell 21 rfl;have c22:=R1.out.cell 22 rfl;have c23:=R1.out.cell 23 rfl;go_wp2_with fail;refine (H2.out _).mono ?_;rintro e w2 ⟨rfl,x2⟩;have X2:=hid (X1.out.trans x2);have R2:=hid (R1.out.ext x2);clear x2;go_wp2;go_ret;exact ⟨by simp [*],X2.out⟩
  case true=>
   rcases Int.lt_or_le sh 0 with h0|h0
   ·have g0:decide (0≤sh)=false:=by simp;omega
    go_enter Tryz.func100,Tryz.ntmps100;go_wp2_with fail;refine (H1.out _).mono ?_;rintro e w1 ⟨rfl,x1⟩;have X1:=hid (X0.out.trans x1);have R1:=hid (R0.out.ext x1);clear x1;have c12:=R1.out.cell 12 rfl;have c13:=R1.out.cell 13 rfl;have c14:=R1.out.cell 14 rfl;have c15:=R1.out.cell 15 rfl;have c16:=R1.out.cell 16 rfl;have c17:=R1.out.cell 17 rfl;have c18:=R1.out.cell 18 rfl;have c19:=R1.out.cell 19 rfl;have c20:=R1.out.cell 20 rfl;have c21:=R1.out.cell 21 rfl;have c22:=R1.out.cell 22 rfl;have c23:=R1.out.cell 23 rfl;go_wp2_with fail;refine (H2.out _).mono ?_;rintro e w2 ⟨rfl,x2⟩;have X2:=hid (X1.out.trans x2);have R2:=hid (R1.out.ext x2);clear x2;have c24:=R2.out.cell 24 rfl;go_wp2;go_ret;exact ⟨by simp [*],X2.out⟩
   ·have g0:decide (0≤sh)=true:=by simp;omega
    rcases Int.lt_or_le sh n with h1|h1
    ·have g1:decide (sh<(n:Int))=true:=by simp;omega
     go_enter Tryz.func100,Tryz.ntmps100;go_wp2_with fail;refine (H1.out _).mono ?_;rintro e w1 ⟨rfl,x1⟩;have X1:=hid (X0.out.trans x1);have R1:=hid (R0.out.ext x1);clear x1;have c12:=R1.out.cell 12 rfl;have c13:=R1.out.cell 13 rfl;have c14:=R1.out.cell 14 rfl;have c15:=R1.out.cell 15 rfl;have c16:=R1.out.cell 16 rfl;have c17:=R1.out.cell 17 rfl;have c18:=R1.out.cell 18 rfl;have c19:=R1.out.cell 19 rfl;have c20:=R1.out.cell 20 rfl;have c21:=R1.out.cell 21 rfl;have c22:=R1.out.cell 22 rfl;have c23:=R1.out.cell 23 rfl;go_wp2_with fail;refine (H2.out _).mono ?_;rintro e w2 ⟨rfl,x2⟩;have X2:=hid (X1.out.trans x2);have R2:=hid (R1.out.ext x2);clear x2;have c24:=R2.out.cell 24 rfl;have c25:=R2.out.cell 25 rfl;go_wp2_with fail;refine (H3.out _).mono ?_;rintro e w3 ⟨rfl,x3⟩;have X3:=hid (X2.out.trans x3);have R3:=hid (R2.out.ext x3);clear x3;go_wp2;go_ret;exact ⟨by simp [*],X3.out⟩
    ·have g1:decide (sh<(n:Int))=false:=by simp;omega
     go_enter Tryz.func100,Tryz.ntmps100;go_wp2_with fail;refine (H1.out _).mono ?_;rintro e w1 ⟨rfl,x1⟩;have X1:=hid (X0.out.trans x1);have R1:=hid (R0.out.ext x1);clear x1;have c12:=R1.out.cell 12 rfl;have c13:=R1.out.cell 13 rfl;have c14:=R1.out.cell 14 rfl;have c15:=R1.out.cell 15 rfl;have c16:=R1.out.cell 16 rfl;have c17:=R1.out.cell 17 rfl;have c18:=R1.out.cell 18 rfl;have c19:=R1.out.cell 19 rfl;have c20:=R1.out.cell 20 rfl;have c21:=R1.out.cell 21 rfl;have c22:=R1.out.cell 22 rfl;have c23:=R1.out.cell 23 rfl;go_wp2_with fail;refine (H2.out _).mono ?_;rintro e w2 ⟨rfl,x2⟩;have X2:=hid (X1.out.trans x2);have R2:=hid (R1.out.ext x2);clear x2;have c24:=R2.out.cell 24 rfl;go_wp2;go_ret;exact ⟨by simp [*],X2.out⟩
theorem row12_new {w:World} {b:Nat} {t:TypeId} {f:Nat→Int} (hb:w.heap.size=b):RowI (w.alloc (.cells #[.int .i64 (f 0),.int .i64 (f 1),.int .i64 (f 2),.int .i64 (f 3),.int .i64 (f 4),.int .i64 (f 5),.int .i64 (f 6),.int .i64 (f 7),.int .i64 (f 8),.int .i64 (f 9),.int .i64 (f 10),.int .i64 (f 11)] t)) b t 12 f:=
 hb▸World.rowIs_alloc _ _ _ _ fun i hi=>by rcases twelve1 hi with h|h|h|h|h|h|h|h|h|h|h|h <;> subst h <;> rfl
structure Pt where
 u:Int
 v:Int
 x:Int
 y:Int
 z:Int
def Pt.ls (p:Pt):List Int:=[p.u,p.v,p.x,p.y,p.z]
def Pt.cs (p:Pt):List Value:=[.int .i64 p.u,.int .i64 p.v,.int .i64 p.x,.int .i64 p.y,.int .i64 p.z]
def Pt.Sm (p:Pt):Prop:=∀x∈p.ls,-1000≤x∧x≤1000
def OwnPts (lo:Nat) (w:World) (v:Value) (xs:List Pt):Prop:=OwnG Pt.cs lo 200 5 w v xs
theorem info_PointT:(Tryz.prog.info? 200).map (fun i=>(i.zero,i.size,i.bytes))=some (some (.agg #[.int .i64 0,.int .i64 0,.int .i64 0,.int .i64 0,.int .i64 0]),5,40):=by kernel_rfl
theorem wpList_append_pt (w:World) {ops:Array Oper} {rest:List Oper} {o:Oper} {a:Act} {Q:Exit→Act→World→Prop} (hg:o.guard=none) (s x:Operand)
  (hop:o.op=Op.call { callee:=Callee.builtin Builtin.append,args:=#[s,x],argTypes:=#[133,133] }) (lo:Nat) (v:Value) (xs:List Pt) (hs:a.eval s=v) (hown:OwnPts lo w v xs)
  (y:Pt) (b:Nat) (hx:a.eval x = .slice (some ⟨b,0,none⟩) 1 1) (hcell:∀j,j<5→w.cell? ⟨b,j,none⟩=y.cs[j]?) (hlen:xs.length<1000000) (hlo:lo≤w.heap.size)
  (hK:∀v' w',OwnPts lo w' v' (xs++[y])→w.grownBy w' v.ownBlock→wpList Tryz.prog ops Q rest (a.put o.dst v') w'):wpList Tryz.prog ops Q (o::rest) a w:=by
 refine wpList_append_elt Pt.cs 200 5 40 _ w hg s x 133 hop Tryz.underlying133 info_PointT rfl (by decide) (by decide) (fun _=>rfl) lo v xs hs hown y b hx hcell ?_ hlen hlo hK;intro u hu;simp only [Pt.cs,List.mem_cons,List.not_mem_nil,or_false] at hu
 rcases hu with rfl|rfl|rfl|rfl|rfl <;> rfl
def ptF (ps:List Pt) (k:Nat):Int:=match ps[k / 5]? with|some p=>p.ls.getD (k % 5) 0|none=>0
theorem ptF_small {ps:List Pt} (h:∀p∈ps,p.Sm) (k:Nat) : -1000≤ptF ps k∧ptF ps k≤1000:=by
 unfold ptF
 cases hp:ps[k / 5]? with
 | none=>exact ⟨show (-1000:Int)≤0 by decide,show (0:Int)≤1000 by decide⟩
 | some p=>
  have hm:=h p (List.mem_of_getElem? hp)
  have hl:k % 5<p.ls.length:=by
   have:=Nat.mod_lt k (show 0<5 by decide);exact this
  show -1000≤p.ls.getD (k % 5) 0∧p.ls.getD (k % 5) 0≤1000
  rw [List.getD_eq_getElem?_getD,List.getElem?_eq_getElem hl];exact hm _ (List.getElem_mem hl)
theorem Pt.cs_at (p:Pt) {j:Nat} (hj:j<5):p.cs[j]?=some (.int .i64 (p.ls.getD j 0)):=by
 rcases (show j=0∨j=1∨j=2∨j=3∨j=4 by omega) with rfl|rfl|rfl|rfl|rfl <;> rfl
theorem OwnPts.flats {lo:Nat} {w:World} {v:Value} {ps:List Pt} (h:OwnPts lo w v ps) (hs:∀p∈ps,p.Sm):Flats 5 lo w.heap.size w v ps.length (ptF ps):=by
 obtain ⟨a,c,rfl,_⟩:=OwnG.form h
 have hc:ps.length≤c∧c≤maxLen:=by
  rcases h.2 with ⟨e,h4⟩|⟨g,cap,cur,e,hb,hh,hc,hm,_⟩
  ·simp only [Value.slice.injEq] at e
   obtain ⟨rfl,e2,rfl⟩:=e;exact ⟨by omega,by unfold maxLen;omega⟩
  ·simp only [Value.slice.injEq] at e
   obtain ⟨rfl,e2,rfl⟩:=e;exact ⟨hc,hm⟩
 refine ⟨a,c,rfl,hc.1,hc.2,fun i hi=>?_⟩
 have hk:i / 5<ps.length:=by omega
 obtain ⟨g,cap,e,g1,g2,_,_,_,hcell⟩:=OwnG.at h (fun _=>rfl) (List.getElem?_eq_getElem hk);simp only [Value.slice.injEq] at e;obtain ⟨rfl,_,rfl⟩:=e;have hm:=Nat.mod_lt i (show 0<5 by decide);have hb:=ptF_small hs i;refine ⟨⟨by omega,by omega⟩,g,0,rfl,g1,g2,?_⟩;have h1:=hcell (i % 5) hm;rw [Pt.cs_at _ hm] at h1
 have e1:i / 5*5+i % 5=0+i:=by omega
 rw [e1] at h1;rw [h1];unfold ptF;rw [List.getElem?_eq_getElem hk]
end Go.Proofs.YtfjbiifebcfjfaaGreat
